/- Certificates as plain data. No program. Walk: cert.proves. Walk: cert.form. Walk: cert.Check. The form of a certificate that is made. No program. The maker of certificates in memory: its row of nodes, what stays where nodes and replies are appended. -/
import Derived.Test.YtnaggpibfmednaaGMini
import Derived.Test.YtnaggpibfmednaaGPerft
import Derived.Test.YtnaggpibfmednaaRegionK
import Derived.Test.YtnaggpibfmednaaGAll
import Derived.Test.YtnaggpibfmednaaGRowP
import Derived.Deep.QuietTactic
import Derived.BigQuiet
import Derived.BigFrame
import Derived.Test.YtnaggpibfmednaaIRow
import Derived.Laws.MakeOwn
import Derived.Test.YtnaggpibfmednaaGProofP
import Derived.Deep.AppendLies
import Derived.Deep.DeepCutAuto
namespace Go.Proofs.Ytnaggpibfmednaa
set_option linter.unusedVariables false
/-- A node of a certificate: its move and its replies. -/
structure CNode where
  m : MoveM
  rs : List Int
instance : Inhabited CNode := ⟨⟨⟨0, 0, 0⟩, []⟩⟩
/-- The nodes of a position and the replies of its first one, one answer after the other; b is the number of the next node. -/
def foldC (R : RulesM) (g : Nat → PosM → List CNode) (q : PosM) : Nat → List MoveM → List CNode × List Int
  | _, [] => ([], [])
  | b, a :: l =>
    if resultM R (makeM R q a) ≠ 0 then ((foldC R g q b l).1, -1 :: (foldC R g q b l).2)
    else (g b (makeM R q a) ++ (foldC R g q (b + (g b (makeM R q a)).length) l).1, (b : Int) :: (foldC R g q (b + (g b (makeM R q a)).length) l).2)
/-- The certificate of a position to a depth, whose first node has number b. -/
def certM (R : RulesM) : Nat → Nat → PosM → List CNode
  | 0, _, P => [⟨(firstM R 0 P).1, []⟩]
  | 1, b, P => ⟨(firstM R 0 P).1, (foldC R (fun _ _ => []) (makeM R P (firstM R 0 P).1) (b + 1) (movesM R (makeM R P (firstM R 0 P).1))).2⟩ :: []
  | d + 2, b, P => ⟨(firstM R (d + 1) P).1, (foldC R (certM R d) (makeM R P (firstM R (d + 1) P).1) (b + 1) (movesM R (makeM R P (firstM R (d + 1) P).1))).2⟩ ::
      (foldC R (certM R d) (makeM R P (firstM R (d + 1) P).1) (b + 1) (movesM R (makeM R P (firstM R (d + 1) P).1))).1
/-- What cert.proves answers: after how many moves the winner has won; none: nothing is proved. n bounds the depth. -/
def foldV (R : RulesM) (g : Nat → PosM → Option Int) (q : PosM) (own : Int) : Int → List MoveM → List Int → Option Int
  | most, a :: l, zt :: rs =>
    if zt = -1 then (if resultM R (makeM R q a) = own then foldV R g q own (max most 2) l rs else none)
    else match g zt.toNat (makeM R q a) with
      | some n => foldV R g q own (max most (n + 2)) l rs
      | none => none
  | most, _, _ => some most
def provesM (R : RulesM) (L : List CNode) : Nat → Nat → PosM → Option Int
  | 0, _, _ => none
  | n + 1, k, P =>
    if (L.getD k default).m ∉ movesM R P then none
    else if resultM R (makeM R P (L.getD k default).m) ≠ 0 then (if resultM R (makeM R P (L.getD k default).m) = 1 + P.turn ∧ (L.getD k default).rs = [] then some 1 else none)
    else if (listM R (makeM R P (L.getD k default).m)).length ≠ (L.getD k default).rs.length then none
    else foldV R (provesM R L n) (makeM R P (L.getD k default).m) (1 + P.turn) 0 (listM R (makeM R P (L.getD k default).m)) (L.getD k default).rs
/-- A position has a score that is won after at most n moves. -/
theorem near_ge {x : Int} : (nearM x ≤ x ∨ x < 0) ∧ (0 < x → nearM x = x - 1) ∧ (x < 0 → nearM x = x + 1) ∧ (x = 0 → nearM x = 0) := by
  unfold nearM
  split
  · omega
  · split <;> omega
/-- A certificate that is accepted proves a win: the score at its depth is at least MaxScore - n. -/
theorem foldV_ge {R : RulesM} {g : Nat → PosM → Option Int} {q : PosM} {own : Int} : ∀ (l : List MoveM) (rs : List Int) (most n : Int), foldV R g q own most l rs = some n → most ≤ n ∧ ∀ (i : Nat) (a : MoveM) (zt : Int), l[i]? = some a → rs[i]? = some zt →
    (zt = -1 ∧ resultM R (makeM R q a) = own ∧ 2 ≤ n) ∨ (zt ≠ -1 ∧ ∃ k, g zt.toNat (makeM R q a) = some k ∧ k + 2 ≤ n)
  | [], rs, most, n, h => by
    have : most = n := by unfold foldV at h; exact Option.some.inj h
    exact ⟨by omega, fun i a zt h1 => by simp at h1⟩
  | a :: l, [], most, n, h => by
    have : most = n := by unfold foldV at h; exact Option.some.inj h
    exact ⟨by omega, fun i a zt h1 h2 => by simp at h2⟩
  | a :: l, zt :: rs, most, n, h => by
    unfold foldV at h
    by_cases ht : zt = -1
    · rw [if_pos ht] at h
      by_cases hr : resultM R (makeM R q a) = own
      · rw [if_pos hr] at h
        obtain ⟨h1, h2⟩ := foldV_ge l rs _ n h
        refine ⟨by omega, fun i a' zt' e1 e2 => ?_⟩
        cases i with
        | zero =>
          simp only [List.getElem?_cons_zero, Option.some.injEq] at e1 e2
          subst e1 e2
          exact .inl ⟨ht, hr, by omega⟩
        | succ i => exact h2 i a' zt' (by simpa using e1) (by simpa using e2)
      · rw [if_neg hr] at h; cases h
    · rw [if_neg ht] at h
      cases hg : g zt.toNat (makeM R q a) with
      | none => rw [hg] at h; cases h
      | some k =>
        rw [hg] at h
        obtain ⟨h1, h2⟩ := foldV_ge l rs _ n h
        refine ⟨by omega, fun i a' zt' e1 e2 => ?_⟩
        cases i with
        | zero =>
          simp only [List.getElem?_cons_zero, Option.some.injEq] at e1 e2
          subst e1 e2
          exact .inr ⟨ht, k, hg, by omega⟩
        | succ i => exact h2 i a' zt' (by simpa using e1) (by simpa using e2)
theorem of_ge_more {R : RulesM} {P : PosM} (hT : P.turn = 0 ∨ P.turn = 1) {d k : Nat} {x : Int} (hx : 0 < x) (h : x ≤ ofM R d P) (hk : d ≤ k) (hk2 : k ≤ 100) : x ≤ ofM R k P := by
  obtain ⟨e, rfl⟩ := Nat.le.dest hk
  rw [of_more hT (by omega) e hk2]
  exact h
theorem result_bd' {R : RulesM} {P : PosM} (hT : P.turn = 0 ∨ P.turn = 1) {x : Int} (h : resultM R P = 1 + x) : True := trivial
theorem proves_sound {R : RulesM} {L : List CNode} (hV : Valid R) : ∀ (n k : Nat) (P : PosM) (m : Int), Sound R P → provesM R L n k P = some m → m ≤ 90 → 1 ≤ m ∧ 1000 - m ≤ ofM R m.toNat P ∧ resultM R P = 0
  | 0, _, _, _, _, h, _ => by cases h
  | n + 1, k, P, m, hS, h, hm90 => by
    unfold provesM at h
    generalize L.getD k default = nd at *
    by_cases h1 : nd.m ∈ movesM R P
    · rw [if_neg (by simpa using h1)] at h
      have hr0 : resultM R P = 0 := by
        unfold movesM at h1
        by_cases e : resultM R P = 0
        · exact e
        · rw [if_neg e] at h1; simp at h1
      have hml : nd.m ∈ listM R P := by unfold movesM at h1; rw [if_pos hr0] at h1; exact h1
      have hSq := sound_move hV hS h1
      have hT := hS.turn
      generalize hq : makeM R P nd.m = q at *
      have hqt : q.turn = 1 - P.turn := by rw [← hq]; rfl
      by_cases h2 : resultM R q ≠ 0
      · rw [if_pos h2] at h
        by_cases h3 : resultM R q = 1 + P.turn ∧ nd.rs = []
        · rw [if_pos h3] at h
          obtain rfl : m = 1 := by injection h with h; omega
          refine ⟨by omega, ?_, hr0⟩
          have hb := (bestL_ge (fun m => nearM (-(ofM R 0 (makeM R P m)))) (listM R P) (⟨0, 0, 0⟩, -2000)).2 nd.m hml
          rw [← of_open hr0 0] at hb
          simp only [hq] at hb
          rw [of_over h2 0] at hb
          have ho : overM q (resultM R q) = -1000 := by
            unfold overM
            rw [h3.1, hqt, if_neg (by omega), if_pos (by omega)]
          rw [ho] at hb
          have : nearM (-(-1000)) = 999 := by decide
          rw [this] at hb
          exact hb
        · rw [if_neg h3] at h; cases h
      · rw [if_neg h2] at h
        have hq0 : resultM R q = 0 := by omega
        by_cases h4 : (listM R q).length ≠ nd.rs.length
        · rw [if_pos h4] at h; cases h
        · rw [if_neg h4] at h
          have hl : (listM R q).length = nd.rs.length := by omega
          obtain ⟨g1, g2⟩ := foldV_ge _ _ _ _ h
          have hne := moves_open hSq.turn hq0
          have hm2 : 2 ≤ m := by
            obtain ⟨a, ha⟩ := List.exists_mem_of_ne_nil _ hne
            obtain ⟨i, hi⟩ := List.getElem?_of_mem ha
            have hil : i < nd.rs.length := by rw [← hl]; exact (List.getElem?_eq_some_iff.1 hi).1
            rcases g2 i a nd.rs[i] hi (List.getElem?_eq_getElem hil) with ⟨-, -, h⟩ | ⟨-, k', hk', h⟩
            · exact h
            · have := (proves_sound hV n _ _ k' (sound_make hV hSq (mem_listM.1 ha)) hk' (by omega)).1
              omega
          obtain ⟨d, hd⟩ : ∃ d : Nat, m = (d : Int) + 2 := ⟨(m - 2).toNat, by omega⟩
          have hmd : m.toNat = d + 1 + 1 := by omega
          have hall : ∀ a ∈ listM R q, 1000 - (d : Int) ≤ ofM R d (makeM R q a) := fun a ha => by
            obtain ⟨i, hi⟩ := List.getElem?_of_mem ha
            have hil : i < nd.rs.length := by rw [← hl]; exact (List.getElem?_eq_some_iff.1 hi).1
            have hSa := sound_make hV hSq (mem_listM.1 ha)
            have hta : (makeM R q a).turn = P.turn := by show 1 - q.turn = P.turn; omega
            rcases g2 i a nd.rs[i] hi (List.getElem?_eq_getElem hil) with ⟨-, hr, -⟩ | ⟨-, k', hk', hk2⟩
            · rw [of_over (by omega), hr]
              unfold overM
              rw [hta, if_pos rfl]
              omega
            · obtain ⟨p1, p2, -⟩ := proves_sound hV n _ _ k' hSa hk' (by omega)
              have := of_ge_more hSa.turn (by omega) p2 (show k'.toNat ≤ d by omega) (by omega)
              omega
          have hqs : ofM R (d + 1) q ≤ -(999 - (d : Int)) := by
            rw [of_open hq0 d]
            obtain ⟨a, ha, e⟩ := bestL_of (f := fun m => nearM (-(ofM R d (makeM R q m)))) (a := (⟨0, 0, 0⟩, -2000)) hne (fun a ha => by
              have := of_bd (R := R) (P := makeM R q a) (turn_make hSq.turn a) (d := d) (by omega)
              have := near_bd this.1 this.2
              show (-2000 : Int) < nearM (-(ofM R d (makeM R q a)))
              omega)
            rw [e]
            show nearM (-(ofM R d (makeM R q a))) ≤ _
            have := hall a ha
            have := (near_ge (x := -(ofM R d (makeM R q a)))).2.2.1 (by omega)
            omega
          refine ⟨by omega, ?_, hr0⟩
          have hb := (bestL_ge (fun m => nearM (-(ofM R (d + 1) (makeM R P m)))) (listM R P) (⟨0, 0, 0⟩, -2000)).2 nd.m hml
          rw [← of_open hr0 (d + 1)] at hb
          simp only [hq] at hb
          rw [hmd]
          have := (near_ge (x := -(ofM R (d + 1) q))).2.1 (by omega)
          omega
    · rw [if_pos h1] at h; cases h
/-- A list of nodes stands in a greater list from number b on. -/
def InL (L : List CNode) (b : Nat) (l : List CNode) : Prop := ∀ i x, l[i]? = some x → L[b + i]? = some x
theorem InL.app {L : List CNode} {b : Nat} {l1 l2 : List CNode} (h : InL L b (l1 ++ l2)) : InL L b l1 ∧ InL L (b + l1.length) l2 := by
  refine ⟨fun i x hi => h i x ?_, fun i x hi => ?_⟩
  · rw [List.getElem?_append_left (List.getElem?_eq_some_iff.1 hi).1]; exact hi
  · have := h (l1.length + i) x (by rw [List.getElem?_append_right (by omega), show l1.length + i - l1.length = i by omega]; exact hi)
    rw [show b + l1.length + i = b + (l1.length + i) by omega]
    exact this
theorem InL.tail {L : List CNode} {b : Nat} {x : CNode} {l : List CNode} (h : InL L b (x :: l)) : L[b]? = some x ∧ InL L (b + 1) l :=
  ⟨by have := h 0 x rfl; simpa using this, fun i y hi => by
    have := h (i + 1) y (by simpa using hi)
    rw [show b + 1 + i = b + (i + 1) by omega]
    exact this⟩
theorem foldC_len (R : RulesM) (g : Nat → PosM → List CNode) (q : PosM) : ∀ (l : List MoveM) (b : Nat), (foldC R g q b l).2.length = l.length
  | [], _ => rfl
  | a :: l, b => by
    unfold foldC
    split
    · show _ + 1 = _ + 1; rw [foldC_len R g q l]
    · show _ + 1 = _ + 1; rw [foldC_len R g q l]
/-- A certificate that is made is accepted, and has the number of moves of the score. -/
theorem foldC_proves {R : RulesM} {L : List CNode} {g : Nat → PosM → List CNode} {v : Nat → PosM → Option Int} {q : PosM} {own : Int} {f : MoveM → Int} (hown : own ≠ 0) : ∀ (l : List MoveM) (b : Nat) (most : Int), InL L b (foldC R g q b l).1 →
    (∀ a ∈ l, (resultM R (makeM R q a) ≠ 0 → resultM R (makeM R q a) = own ∧ f a = 0) ∧ (resultM R (makeM R q a) = 0 → ∀ c, InL L c (g c (makeM R q a)) → v c (makeM R q a) = some (f a))) →
    foldV R v q own most l (foldC R g q b l).2 = some (l.foldl (fun s a => max s (f a + 2)) most)
  | [], b, most, _, _ => by unfold foldC foldV; rfl
  | a :: l, b, most, hL, h => by
    obtain ⟨h1, h2⟩ := h a (by simp)
    have hr : ∀ a ∈ l, _ := fun x hx => h x (by simp [hx])
    by_cases hc : resultM R (makeM R q a) ≠ 0
    · obtain ⟨e1, e2⟩ := h1 hc
      unfold foldC at hL ⊢
      rw [if_pos hc] at hL ⊢
      show foldV R v q own most (a :: l) (-1 :: _) = _
      unfold foldV
      rw [if_pos rfl, if_pos e1, foldC_proves hown l b _ hL hr, List.foldl_cons, e2]
      rfl
    · have hc0 : resultM R (makeM R q a) = 0 := by omega
      unfold foldC at hL ⊢
      rw [if_neg hc] at hL ⊢
      obtain ⟨i1, i2⟩ := InL.app hL
      have e1 := h2 hc0 b i1
      show foldV R v q own most (a :: l) ((b : Int) :: _) = _
      unfold foldV
      rw [if_neg (by omega)]
      have e2 : v ((b : Int)).toNat (makeM R q a) = some (f a) := by rw [Int.toNat_natCast]; exact e1
      rw [e2]
      show foldV R v q own (max most (f a + 2)) l _ = _
      rw [foldC_proves hown l _ _ i2 hr, List.foldl_cons]
theorem foldl_max (f : MoveM → Int) : ∀ (l : List MoveM) (s : Int), s ≤ l.foldl (fun s a => max s (f a)) s ∧ (∀ a ∈ l, f a ≤ l.foldl (fun s a => max s (f a)) s) ∧ (l.foldl (fun s a => max s (f a)) s = s ∨ ∃ a ∈ l, l.foldl (fun s a => max s (f a)) s = f a)
  | [], s => ⟨Int.le_refl _, by simp, .inl rfl⟩
  | a :: l, s => by
    obtain ⟨h1, h2, h3⟩ := foldl_max f l (max s (f a))
    rw [List.foldl_cons]
    refine ⟨by omega, fun x hx => ?_, ?_⟩
    · rcases List.mem_cons.1 hx with rfl | hx
      · omega
      · exact h2 x hx
    · rcases h3 with h | ⟨x, hx, h⟩
      · by_cases hc : s ≤ f a
        · exact .inr ⟨a, by simp, by rw [h]; omega⟩
        · exact .inl (by rw [h]; omega)
      · exact .inr ⟨x, by simp [hx], h⟩
theorem cert_proves {R : RulesM} {L : List CNode} (hV : Valid R) : ∀ (d : Nat) (P : PosM) (b n : Nat), d ≤ 90 → Sound R P → resultM R P = 0 → 0 < ofM R d P → d ≤ n → InL L b (certM R d b P) → provesM R L n b P = some (1000 - ofM R d P)
  | 0, P, b, n, _, _, hr, ho, _, _ => by
    have : ofM R 0 P = 0 := if_pos hr
    omega
  | d + 1, P, b, n, hd, hS, hr, ho, hn, hL => by
    obtain ⟨n, rfl⟩ : ∃ k, n = k + 1 := ⟨n - 1, by omega⟩
    have hT := hS.turn
    obtain ⟨fm, fs⟩ := first_mem hT hr (d := d) (by omega)
    have hs := first_score hr d
    obtain ⟨m, hm⟩ : ∃ m, (firstM R d P).1 = m := ⟨_, rfl⟩
    rw [hm] at fm fs
    have hSq := sound_make hV hS (mem_listM.1 fm)
    have hform : ∃ (g : Nat → PosM → List CNode) (ks : List CNode) (rs : List Int), certM R (d + 1) b P = ⟨m, rs⟩ :: ks ∧ rs = (foldC R g (makeM R P m) (b + 1) (movesM R (makeM R P m))).2 ∧ (∀ d', d = d' + 1 → g = certM R d' ∧ ks = (foldC R g (makeM R P m) (b + 1) (movesM R (makeM R P m))).1) := by
      subst hm
      cases d with
      | zero => exact ⟨fun _ _ => [], [], _, rfl, rfl, fun d' h => by omega⟩
      | succ d => exact ⟨certM R d, _, _, rfl, rfl, fun d' h => by cases h; exact ⟨rfl, rfl⟩⟩
    obtain ⟨g, ks, rs, e1, e2, e3⟩ := hform
    rw [e1] at hL
    obtain ⟨hb, hks⟩ := InL.tail hL
    have hnd : L.getD b default = ⟨m, rs⟩ := by rw [List.getD_eq_getElem?_getD, hb]; rfl
    have hmm : m ∈ movesM R P := by unfold movesM; rw [if_pos hr]; exact fm
    unfold provesM
    rw [hnd, if_neg (by simpa using hmm)]
    generalize hq : makeM R P m = q at *
    have hqt : q.turn = 1 - P.turn := by rw [← hq]; rfl
    show (if resultM R q ≠ 0 then (if resultM R q = 1 + P.turn ∧ rs = [] then some 1 else none) else if (listM R q).length ≠ rs.length then none else foldV R (provesM R L n) q (1 + P.turn) 0 (listM R q) rs) = _
    by_cases hqr : resultM R q ≠ 0
    · rw [if_pos hqr]
      have hov := of_over hqr d
      rw [hov] at fs
      have hx : resultM R q = 1 + P.turn ∧ (firstM R d P).2 = 999 := by
        rw [← hs] at ho
        rw [fs] at ho ⊢
        unfold overM at ho ⊢
        by_cases c1 : resultM R q = 1 + q.turn
        · rw [if_pos c1] at ho
          have : nearM (-1000) = -999 := by decide
          omega
        · rw [if_neg c1] at ho ⊢
          by_cases c2 : resultM R q = 2 - q.turn
          · rw [if_pos c2]
            exact ⟨by omega, by decide⟩
          · rw [if_neg c2] at ho
            have : nearM (-0) = 0 := by decide
            omega
      have hmv : movesM R q = [] := by unfold movesM; rw [if_neg hqr]
      have hrs : rs = [] := by rw [e2, hmv]; rfl
      rw [if_pos ⟨hx.1, hrs⟩, ← hs, hx.2]
      rfl
    · rw [if_neg hqr]
      have hq0 : resultM R q = 0 := by omega
      have hmv : movesM R q = listM R q := by unfold movesM; rw [if_pos hq0]
      rw [hmv] at e2 e3
      have hd0 : d ≠ 0 := by
        rintro rfl
        have : ofM R 0 q = 0 := if_pos hq0
        rw [this] at fs
        rw [← hs, fs] at ho
        have : nearM (-0) = 0 := by decide
        omega
      obtain ⟨d, rfl⟩ : ∃ k, d = k + 1 := ⟨d - 1, by omega⟩
      have hne := moves_open hSq.turn hq0
      obtain ⟨hg, e3⟩ := e3 d rfl
      subst hg
      rw [if_neg (by rw [e2, foldC_len]; omega)]
      have hoq := of_open hq0 d
      obtain ⟨a0, ha0, ea0⟩ := bestL_of (f := fun m => nearM (-(ofM R d (makeM R q m)))) (a := (⟨0, 0, 0⟩, -2000)) hne (fun a ha => by
        have := of_bd (R := R) (P := makeM R q a) (turn_make hSq.turn a) (d := d) (by omega)
        have := near_bd this.1 this.2
        show (-2000 : Int) < nearM (-(ofM R d (makeM R q a)))
        omega)
      have hge := (bestL_ge (fun m => nearM (-(ofM R d (makeM R q m)))) (listM R q) (⟨0, 0, 0⟩, -2000)).2
      rw [← hoq] at hge
      have hqv : ofM R (d + 1) q = nearM (-(ofM R d (makeM R q a0))) := by rw [hoq, ea0]
      have hneg : ofM R (d + 1) q < 0 := by
        rw [← hs, fs] at ho
        have h4 := near_ge (x := -(ofM R (d + 1) q))
        by_cases c : ofM R (d + 1) q < 0
        · exact c
        · by_cases c0 : ofM R (d + 1) q = 0
          · have := h4.2.2.2 (by omega); omega
          · have := h4.2.2.1 (by omega); omega
      have hpos : ∀ a ∈ listM R q, 0 < ofM R d (makeM R q a) ∧ 1 - ofM R d (makeM R q a) ≤ ofM R (d + 1) q := fun a ha => by
        have h5 : nearM (-(ofM R d (makeM R q a))) ≤ ofM R (d + 1) q := hge a ha
        have h4 := near_ge (x := -(ofM R d (makeM R q a)))
        by_cases c : 0 < ofM R d (makeM R q a)
        · have := h4.2.2.1 (by omega); exact ⟨c, by omega⟩
        · by_cases c0 : ofM R d (makeM R q a) = 0
          · have := h4.2.2.2 (by omega); omega
          · have := h4.2.1 (by omega); omega
      have hf := foldC_proves (R := R) (L := L) (g := certM R d) (v := provesM R L n) (q := q) (own := 1 + P.turn) (f := fun a => 1000 - ofM R d (makeM R q a)) (by omega) (listM R q) (b + 1) 0 (by rw [← e3]; exact hks) (fun a ha => ⟨fun hc => by
        have hp := (hpos a ha).1
        have hov := of_over hc d
        have hta : (makeM R q a).turn = P.turn := by show 1 - q.turn = P.turn; omega
        rw [hov] at hp ⊢
        unfold overM at hp ⊢
        rw [hta] at hp ⊢
        by_cases c1 : resultM R (makeM R q a) = 1 + P.turn
        · rw [if_pos c1]; exact ⟨c1, by omega⟩
        · rw [if_neg c1] at hp
          split at hp <;> omega, fun hc c hc2 => cert_proves hV d (makeM R q a) c n (by omega) (sound_make hV hSq (mem_listM.1 ha)) hc (hpos a ha).1 (by omega) hc2⟩)
      rw [e2, hf]
      congr 1
      obtain ⟨m1, m2, m3⟩ := foldl_max (fun a => 1000 - ofM R d (makeM R q a) + 2) (listM R q) 0
      generalize (listM R q).foldl (fun s a => max s (1000 - ofM R d (makeM R q a) + 2)) 0 = mx at *
      have hA := m2 a0 ha0
      have h4 := (near_ge (x := -(ofM R d (makeM R q a0)))).2.2.1 (by have := (hpos a0 ha0).1; omega)
      have h6 := (near_ge (x := -(ofM R (d + 1) q))).2.1 (by omega)
      have hbd := of_bd (R := R) (P := makeM R q a0) (turn_make hSq.turn a0) (d := d) (by omega)
      rw [← hs, fs, h6]
      replace hA : 1000 - ofM R d (makeM R q a0) + 2 ≤ mx := hA
      rcases m3 with h | ⟨a, ha, h⟩
      · omega
      · have := (hpos a ha).2
        omega
end Go.Proofs.Ytnaggpibfmednaa
namespace Go.Proofs.Ytnaggpibfmednaa
open Go.ChangeShapes Go.WideShapes Go.ChangeAt Go.RowKit Go.Shelf
set_option linter.unusedVariables false
set_option linter.unusedSimpArgs false
/-- A certificate in memory. -/
def CertAt (w : World) (A : Option Addr) (L : List CNode) : Prop := ∀ i x, L[i]? = some x → ∃ b o B c, A = some ⟨b, o, none⟩ ∧ w.cell? ⟨b, o + i * 4, none⟩ = some (.int .i64 x.m.src) ∧ w.cell? ⟨b, o + i * 4 + 1, none⟩ = some (.int .i64 x.m.dst) ∧ w.cell? ⟨b, o + i * 4 + 2, none⟩ = some (.int .i64 x.m.piece) ∧
  w.cell? ⟨b, o + i * 4 + 3, none⟩ = some (.slice B x.rs.length c) ∧ IntsAt w B x.rs
theorem CertAt.ext {w W : World} {A : Option Addr} {L : List CNode} (h : CertAt w A L) (x : Ext w W) : CertAt W A L := fun i y hy => by
  obtain ⟨b, o, B, c, e, h0, h1, h2, h3, h4⟩ := h i y hy
  exact ⟨b, o, B, c, e, x.cell h0, x.cell h1, x.cell h2, x.cell h3, h4.ext x⟩
def okV (B : Nat) (m : Int) (ok : Bool) : Option Int → Prop
  | some x => m = x ∧ ok = true ∧ 0 ≤ x ∧ x ≤ 2 * (B : Int)
  | none => ok = false
def ProvPost (w : World) (B : Nat) (r : Option Int) (e : Ending) (w' : World) : Prop := ∃ m ok, e = .returned (.tuple #[.int .i64 m, .bool ok]) ∧ okV B m ok r ∧ Ext w w'
theorem provesM_succ {R : RulesM} {L : List CNode} {n k : Nat} {P : PosM} {nd : CNode} (h : L.getD k default = nd) :
    (nd.m ∈ movesM R P → (resultM R (makeM R P nd.m) ≠ 0 → provesM R L (n + 1) k P = if resultM R (makeM R P nd.m) = 1 + P.turn ∧ nd.rs = [] then some 1 else none) ∧
      (resultM R (makeM R P nd.m) = 0 → ((listM R (makeM R P nd.m)).length ≠ nd.rs.length → provesM R L (n + 1) k P = none) ∧ ((listM R (makeM R P nd.m)).length = nd.rs.length → provesM R L (n + 1) k P = foldV R (provesM R L n) (makeM R P nd.m) (1 + P.turn) 0 (listM R (makeM R P nd.m)) nd.rs))) ∧
    (nd.m ∉ movesM R P → provesM R L (n + 1) k P = none) := by
  unfold provesM
  rw [h]
  refine ⟨fun hm => ?_, fun hm => if_pos hm⟩
  rw [if_neg (by simpa using hm)]
  refine ⟨fun hr => if_pos hr, fun hr => ?_⟩
  rw [if_neg (by simpa using hr)]
  exact ⟨fun hl => if_pos hl, fun hl => if_neg (by simpa using hl)⟩
theorem foldV_cons {R : RulesM} {g : Nat → PosM → Option Int} {q : PosM} {own most : Int} {l : List MoveM} {rs : List Int} {a : MoveM} {zt : Int} : foldV R g q own most (a :: l) (zt :: rs) =
    if zt = -1 then (if resultM R (makeM R q a) = own then foldV R g q own (max most 2) l rs else none) else match g zt.toNat (makeM R q a) with | some n => foldV R g q own (max most (n + 2)) l rs | none => none := by
  conv => lhs; unfold foldV
  try rfl
theorem foldV_step {R : RulesM} {g : Nat → PosM → Option Int} {q : PosM} {own most : Int} {l : List MoveM} {rs : List Int} {j : Nat} {a : MoveM} {zt : Int} (ha : l[j]? = some a) (ht : rs[j]? = some zt) :
    (zt = -1 → resultM R (makeM R q a) = own → foldV R g q own most (l.drop j) (rs.drop j) = foldV R g q own (max most 2) (l.drop (j + 1)) (rs.drop (j + 1))) ∧
    (zt = -1 → resultM R (makeM R q a) ≠ own → foldV R g q own most (l.drop j) (rs.drop j) = none) ∧
    (zt ≠ -1 → foldV R g q own most (l.drop j) (rs.drop j) = match g zt.toNat (makeM R q a) with | some n => foldV R g q own (max most (n + 2)) (l.drop (j + 1)) (rs.drop (j + 1)) | none => none) := by
  obtain ⟨h1, h2⟩ := List.getElem?_eq_some_iff.1 ha
  obtain ⟨h3, h4⟩ := List.getElem?_eq_some_iff.1 ht
  rw [List.drop_eq_getElem_cons h1, List.drop_eq_getElem_cons h3, h2, h4, foldV_cons]
  refine ⟨fun e h => ?_, fun e h => ?_, fun e => ?_⟩
  · rw [if_pos e, if_pos h]
  · rw [if_pos e, if_neg h]
  · rw [if_neg e]
theorem foldV_end {R : RulesM} {g : Nat → PosM → Option Int} {q : PosM} {own most : Int} {l : List MoveM} {rs : List Int} (h : l = []) : foldV R g q own most l rs = some most := by
  subst h
  unfold foldV
  rfl
theorem run_maxG (W : World) (ats : Array TypeId) (ty : TypeId) (a b : Int) : (Builtin.max_ ats ty #[.int .i64 a, .int .i64 b]).run Try.prog W = .ok (.int .i64 (max a b)) W := by
  have e : max a b = if a < b then b else a := by split <;> omega
  rw [e]
  simp [Builtin.max_, Builtin.max2]
theorem movesM_len' {R : RulesM} {P : PosM} (hV : Valid R) (hS : Sound R P) : (movesM R P).length ≤ 1000000 := by
  unfold movesM
  split
  · exact listM_len hV hS
  · simp
set_option maxHeartbeats 8000000 in
set_option maxRecDepth 100000 in
theorem proves_step {R : RulesM} {L : List CNode} (hV : Valid R) {n k : Nat} {P : PosM} {v u : Value} {A : Option Addr} {c : Nat} {w : World} (hn : n ≤ 5000) (hk : k < L.length) (hL : L.length ≤ 5000) (hS : Sound R P) (hR : RulesAt w v R) (hP : PosAt w u P) (hC : CertAt w A L)
    (hF : ∀ zt ∈ (L.getD k default).rs, zt = -1 ∨ ((k : Int) < zt ∧ zt < L.length))
    (ih : ∀ (j : Nat) (Q : PosM) (v u : Value) (W : World), k < j → j < L.length → Sound R Q → RulesAt W v R → PosAt W u Q → CertAt W A L → Calls Try.prog 36 #[v, u, .slice A L.length c, .int .i64 (j : Int)] W (ProvPost W n (provesM R L n j Q))) :
    Calls Try.prog 36 #[v, u, .slice A L.length c, .int .i64 (k : Int)] w (ProvPost w (n + 1) (provesM R L (n + 1) k P)) := by
  obtain ⟨nd, hnd⟩ : ∃ nd, L[k]? = some nd := ⟨L[k], List.getElem?_eq_getElem hk⟩
  have hgd : L.getD k default = nd := by rw [List.getD_eq_getElem?_getD, hnd]; rfl
  rw [hgd] at hF
  have HPV := hide (provesM_succ (R := R) (L := L) (n := n) (k := k) (P := P) hgd)
  generalize provesM R L (n + 1) k P = T at *
  obtain ⟨bN, oN, B, cB, rfl, n0, n1, n2, n3, hI⟩ := hC k nd hnd
  have HC := hide hC
  have N0 := hide n0
  have N1 := hide n1
  have N2 := hide n2
  have N3 := hide n3
  have HI := hide hI
  have HF := hide hF
  have HIH := hide ih
  have HEM := hide (fun W (hW : Ext w W) => EMoves_any R P v u W (hR.ext hW) (hP.ext hW) hV hS)
  have HMK := hide (fun (hm : nd.m ∈ movesM R P) W (hW : Ext w W) => Make_any R P nd.m v u W (hR.ext hW) (hP.ext hW) hV hS (raw_move hm))
  have HSQ := hide (fun (hm : nd.m ∈ movesM R P) => sound_move hV hS hm)
  have HRQ := hide (fun (hm : nd.m ∈ movesM R P) W (u' : Value) (hW : Ext w W) (hq : PosAt W u' (makeM R P nd.m)) => Result_any R (makeM R P nd.m) v u' W (hR.ext hW) hq hV (sound_move hV hS hm))
  have HLQ := hide (fun (hm : nd.m ∈ movesM R P) W (u' : Value) (hW : Ext w W) (hq : PosAt W u' (makeM R P nd.m)) => List_any R (makeM R P nd.m) v u' W (hR.ext hW) hq hV (sound_move hV hS hm))
  have HMA := hide (fun (hm : nd.m ∈ movesM R P) (a : MoveM) (ha : a ∈ listM R (makeM R P nd.m)) W (u' : Value) (hW : Ext w W) (hq : PosAt W u' (makeM R P nd.m)) => Make_any R (makeM R P nd.m) a v u' W (hR.ext hW) hq hV (sound_move hV hS hm) (mem_listM.1 ha))
  have HSA := hide (fun (hm : nd.m ∈ movesM R P) (a : MoveM) (ha : a ∈ listM R (makeM R P nd.m)) => sound_make hV (sound_move hV hS hm) (mem_listM.1 ha))
  have HRA := hide (fun (hm : nd.m ∈ movesM R P) (a : MoveM) (ha : a ∈ listM R (makeM R P nd.m)) W (u' : Value) (hW : Ext w W) (hq : PosAt W u' (makeM R (makeM R P nd.m) a)) => Result_any R (makeM R (makeM R P nd.m) a) v u' W (hR.ext hW) hq hV (sound_make hV (sound_move hV hS hm) (mem_listM.1 ha)))
  have HLL := hide (fun (hm : nd.m ∈ movesM R P) => listM_len hV (sound_move hV hS hm))
  have HML := hide (movesM_len' hV hS)
  have HRR := hide hR
  have hT := hS.turn
  obtain ⟨pA, pc, sA, sc, eA, ec, rfl, -⟩ := hR
  obtain ⟨cA, cc, aA, ac, bA, bc, rfl, -⟩ := hP
  obtain ⟨x1, k1, k2⟩ := blks2 w #[.string R.name, .int .i64 R.width, .int .i64 R.height, .slice pA R.pieces.length pc, .slice sA R.start.length sc, .bool R.falls, .bool R.keeps, .slice eA R.ends.length ec, .int .i64 R.blocked, .int .i64 R.quiet, .int .i64 R.rept] 26 #[.slice cA P.cells.length cc, .slice aA P.hand0.length ac, .slice bA P.hand1.length bc, .int .i64 P.turn, .int .i64 P.quiet] 29
  have X1 := hide x1
  have KR1 := hide k1
  have KP1 := hide k2
  have i0 : (0 : Int) ≤ (k : Int) := by omega
  have i1 : (k : Int) < (L.length : Int) := by omega
  have HKL := hide (And.intro hk hL)
  have HNN := hide hn
  clear hnd hgd hC n0 n1 n2 n3 hI hF ih hS hV x1 k1 k2 hk hL hn
  unfold ProvPost
  generalize hMV : movesM R P = ML at *
  clear hMV
  go_enter Try.func36, Try.ntmps36
  go_upto_region 1 with fail
  generalize hw1 : (w.alloc (.cells #[.string R.name, .int .i64 R.width, .int .i64 R.height, .slice pA R.pieces.length pc, .slice sA R.start.length sc, .bool R.falls, .bool R.keeps, .slice eA R.ends.length ec, .int .i64 R.blocked, .int .i64 R.quiet, .int .i64 R.rept] 26)).alloc (.cells #[.slice cA P.cells.length cc, .slice aA P.hand0.length ac, .slice bA P.hand1.length bc, .int .i64 P.turn, .int .i64 P.quiet] 29) = w1 at *
  clear hw1
  generalize hBPe : w.heap.size + 1 = BP at *
  clear hBPe
  generalize hBRe : w.heap.size = BR at *
  clear hBRe
  have keepK := hide (fun W (h : Ext w1 W) => (show (fun W => W.cell? ⟨BR, 0, none⟩ = some (.string R.name) ∧ W.cell? ⟨BR, 1, none⟩ = some (.int .i64 R.width) ∧ W.cell? ⟨BR, 2, none⟩ = some (.int .i64 R.height) ∧ W.cell? ⟨BR, 3, none⟩ = some (.slice pA R.pieces.length pc) ∧ W.cell? ⟨BR, 4, none⟩ = some (.slice sA R.start.length sc) ∧ W.cell? ⟨BR, 5, none⟩ = some (.bool R.falls) ∧ W.cell? ⟨BR, 6, none⟩ = some (.bool R.keeps) ∧ W.cell? ⟨BR, 7, none⟩ = some (.slice eA R.ends.length ec) ∧ W.cell? ⟨BR, 8, none⟩ = some (.int .i64 R.blocked) ∧ W.cell? ⟨BR, 9, none⟩ = some (.int .i64 R.quiet) ∧ W.cell? ⟨BR, 10, none⟩ = some (.int .i64 R.rept) ∧ W.cell? ⟨BP, 0, none⟩ = some (.slice cA P.cells.length cc) ∧ W.cell? ⟨BP, 1, none⟩ = some (.slice aA P.hand0.length ac) ∧ W.cell? ⟨BP, 2, none⟩ = some (.slice bA P.hand1.length bc) ∧ W.cell? ⟨BP, 3, none⟩ = some (.int .i64 P.turn) ∧ W.cell? ⟨BP, 4, none⟩ = some (.int .i64 P.quiet) ∧ W.cell? ⟨bN, oN + k * 4, none⟩ = some (.int .i64 nd.m.src) ∧ W.cell? ⟨bN, oN + k * 4 + 1, none⟩ = some (.int .i64 nd.m.dst) ∧ W.cell? ⟨bN, oN + k * 4 + 2, none⟩ = some (.int .i64 nd.m.piece) ∧ Ext w1 W) W from ⟨(KR1.out.ext h).cell 0, (KR1.out.ext h).cell 1, (KR1.out.ext h).cell 2, (KR1.out.ext h).cell 3, (KR1.out.ext h).cell 4, (KR1.out.ext h).cell 5, (KR1.out.ext h).cell 6, (KR1.out.ext h).cell 7, (KR1.out.ext h).cell 8, (KR1.out.ext h).cell 9, (KR1.out.ext h).cell 10, (KP1.out.ext h).cell 0, (KP1.out.ext h).cell 1, (KP1.out.ext h).cell 2, (KP1.out.ext h).cell 3, (KP1.out.ext h).cell 4, (ext_trans X1.out h).cell N0.out, (ext_trans X1.out h).cell N1.out, (ext_trans X1.out h).cell N2.out, h⟩))
  have yy : Ext w1 w1.drew := Below.drew (Below.refl _ _)
  refine region_K (fun W => W.cell? ⟨BR, 0, none⟩ = some (.string R.name) ∧ W.cell? ⟨BR, 1, none⟩ = some (.int .i64 R.width) ∧ W.cell? ⟨BR, 2, none⟩ = some (.int .i64 R.height) ∧ W.cell? ⟨BR, 3, none⟩ = some (.slice pA R.pieces.length pc) ∧ W.cell? ⟨BR, 4, none⟩ = some (.slice sA R.start.length sc) ∧ W.cell? ⟨BR, 5, none⟩ = some (.bool R.falls) ∧ W.cell? ⟨BR, 6, none⟩ = some (.bool R.keeps) ∧ W.cell? ⟨BR, 7, none⟩ = some (.slice eA R.ends.length ec) ∧ W.cell? ⟨BR, 8, none⟩ = some (.int .i64 R.blocked) ∧ W.cell? ⟨BR, 9, none⟩ = some (.int .i64 R.quiet) ∧ W.cell? ⟨BR, 10, none⟩ = some (.int .i64 R.rept) ∧ W.cell? ⟨BP, 0, none⟩ = some (.slice cA P.cells.length cc) ∧ W.cell? ⟨BP, 1, none⟩ = some (.slice aA P.hand0.length ac) ∧ W.cell? ⟨BP, 2, none⟩ = some (.slice bA P.hand1.length bc) ∧ W.cell? ⟨BP, 3, none⟩ = some (.int .i64 P.turn) ∧ W.cell? ⟨BP, 4, none⟩ = some (.int .i64 P.quiet) ∧ W.cell? ⟨bN, oN + k * 4, none⟩ = some (.int .i64 nd.m.src) ∧ W.cell? ⟨bN, oN + k * 4 + 1, none⟩ = some (.int .i64 nd.m.dst) ∧ W.cell? ⟨bN, oN + k * 4 + 2, none⟩ = some (.int .i64 nd.m.piece) ∧ Ext w1 W) (fun _ => True) [] (by kernel_rfl) ?_
  have hT0 := keepK.out _ yy
  refine anyK_take 0 (oi := ?oo1) ?ho1 (by kernel_rfl) (by kernel_rfl) (by kernel_rfl) (by kernel_rfl) ?hq1 ?hw1 hT0 (fun _ => trivial) (v := ?vv1) ?hy1 ?hk1
  case ho1 => (simp only [List.getElem?_toArray, List.getElem?_cons_succ, List.getElem?_cons_zero]; rfl)
  case hq1 => exact fun _ _ _ h => h
  case hw1 => rfl
  case hy1 =>
    intro W hW
    obtain ⟨z0, z1, z2, z3, z4, z5, z6, z7, z8, z9, z10, z11, z12, z13, z14, z15, z16, z17, z18, z19⟩ := hW
    go_simp
    first | done | with_reducible rfl
  case hk1 =>
  try simp only [Act.put, List.setIfInBounds_toArray, List.set_cons_zero, List.set_cons_succ]
  refine anyK_take 1 (oi := ?oo2) ?ho2 (by kernel_rfl) (by kernel_rfl) (by kernel_rfl) (by kernel_rfl) ?hq2 ?hw2 hT0 (fun _ => trivial) (v := ?vv2) ?hy2 ?hk2
  case ho2 => (simp only [List.getElem?_toArray, List.getElem?_cons_succ, List.getElem?_cons_zero]; rfl)
  case hq2 => exact fun _ _ _ h => h
  case hw2 => rfl
  case hy2 =>
    intro W hW
    obtain ⟨z0, z1, z2, z3, z4, z5, z6, z7, z8, z9, z10, z11, z12, z13, z14, z15, z16, z17, z18, z19⟩ := hW
    go_simp
    first | done | with_reducible rfl
  case hk2 =>
  try simp only [Act.put, List.setIfInBounds_toArray, List.set_cons_zero, List.set_cons_succ]
  refine anyK_take 3 (oi := ?oo3) ?ho3 (by kernel_rfl) (by kernel_rfl) (by kernel_rfl) (by kernel_rfl) ?hq3 ?hw3 hT0 (fun _ => trivial) (v := ?vv3) ?hy3 ?hk3
  case ho3 => (simp only [List.getElem?_toArray, List.getElem?_cons_succ, List.getElem?_cons_zero]; rfl)
  case hq3 => exact fun _ _ _ h => h
  case hw3 => rfl
  case hy3 =>
    intro W hW
    go_simp
    first | done | with_reducible rfl
  case hk3 =>
  try simp only [Act.put, List.setIfInBounds_toArray, List.set_cons_zero, List.set_cons_succ]
  refine anyK_take 4 (oi := ?oo4) ?ho4 (by kernel_rfl) (by kernel_rfl) (by kernel_rfl) (by kernel_rfl) ?hq4 ?hw4 hT0 (fun _ => trivial) (v := ?vv4) ?hy4 ?hk4
  case ho4 => (simp only [List.getElem?_toArray, List.getElem?_cons_succ, List.getElem?_cons_zero]; rfl)
  case hq4 => exact fun _ _ _ h => h
  case hw4 => rfl
  case hy4 =>
    intro W hW
    go_simp
    first | done | with_reducible rfl
  case hk4 =>
  try simp only [Act.put, List.setIfInBounds_toArray, List.set_cons_zero, List.set_cons_succ]
  refine anyK_take 5 (oi := ?oo5) ?ho5 (by kernel_rfl) (by kernel_rfl) (by kernel_rfl) (by kernel_rfl) ?hq5 ?hw5 hT0 (fun _ => trivial) (v := ?vv5) ?hy5 ?hk5
  case ho5 => (simp only [List.getElem?_toArray, List.getElem?_cons_succ, List.getElem?_cons_zero]; rfl)
  case hq5 => exact fun _ _ _ h => h
  case hw5 => rfl
  case hy5 =>
    intro W hW
    go_simp
    first | done | with_reducible rfl
  case hk5 =>
  try simp only [Act.put, List.setIfInBounds_toArray, List.set_cons_zero, List.set_cons_succ]
  refine anyK_take 6 (oi := ?oo6) ?ho6 (by kernel_rfl) (by kernel_rfl) (by kernel_rfl) (by kernel_rfl) ?hq6 ?hw6 hT0 (fun _ => trivial) (v := ?vv6) ?hy6 ?hk6
  case ho6 => (simp only [List.getElem?_toArray, List.getElem?_cons_succ, List.getElem?_cons_zero]; rfl)
  case hq6 => exact fun _ _ _ h => h
  case hw6 => rfl
  case hy6 =>
    intro W hW
    go_simp
    first | done | with_reducible rfl
  case hk6 =>
  try simp only [Act.put, List.setIfInBounds_toArray, List.set_cons_zero, List.set_cons_succ]
  refine anyK_take 7 (oi := ?oo7) ?ho7 (by kernel_rfl) (by kernel_rfl) (by kernel_rfl) (by kernel_rfl) ?hq7 ?hw7 hT0 (fun _ => trivial) (v := ?vv7) ?hy7 ?hk7
  case ho7 => (simp only [List.getElem?_toArray, List.getElem?_cons_succ, List.getElem?_cons_zero]; rfl)
  case hq7 => exact fun _ _ _ h => h
  case hw7 => rfl
  case hy7 =>
    intro W hW
    obtain ⟨z0, z1, z2, z3, z4, z5, z6, z7, z8, z9, z10, z11, z12, z13, z14, z15, z16, z17, z18, z19⟩ := hW
    go_simp
    first | done | with_reducible rfl
  case hk7 =>
  try simp only [Act.put, List.setIfInBounds_toArray, List.set_cons_zero, List.set_cons_succ]
  refine anyK_on1 2 (by kernel_rfl) ?_
  refine anyK_one 2 (o := ?oo8) ?ho8 ?hk8
  case ho8 => (simp only [List.getElem?_toArray, List.getElem?_cons_succ, List.getElem?_cons_zero]; rfl)
  case hk8 =>
  intro K hK
  go_simp
  refine (HEM.out _ (ext_trans X1.out yy)).mono ?_
  rintro e wz ⟨vz, rfl, hz, xx⟩
  try go_wp2_with fail
  replace yy := ext_trans yy xx
  have HZ := hide hz.at_
  obtain ⟨zA, zc, rfl, -⟩ := hz
  have hT1 := keepK.out _ yy
  refine hK.out _ _ hT1 (fun _ => trivial) ?_
  clear hK K
  try simp only [Act.put, List.setIfInBounds_toArray, List.set_cons_zero, List.set_cons_succ]
  refine anyK_on1 8 (by kernel_rfl) ?_
  refine anyK_one 8 (o := ?oo9) ?ho9 ?hk9
  case ho9 => (simp only [List.getElem?_toArray, List.getElem?_cons_succ, List.getElem?_cons_zero]; rfl)
  case hk9 =>
  intro K hK
  go_simp
  refine (Contains_any ML nd.m _ _ HZ.out HML.out).mono ?_
  rintro e wy ⟨rfl, xx⟩
  try go_wp2_with fail
  replace yy := ext_trans yy xx
  have hT2 := keepK.out _ yy
  refine hK.out _ _ hT2 (fun _ => trivial) ?_
  clear hK K
  try simp only [Act.put, List.setIfInBounds_toArray, List.set_cons_zero, List.set_cons_succ]
  refine anyK_take 9 (oi := ?oo10) ?ho10 (by kernel_rfl) (by kernel_rfl) (by kernel_rfl) (by kernel_rfl) ?hq10 ?hw10 hT2 (fun _ => trivial) (v := ?vv10) ?hy10 ?hk10
  case ho10 => (simp only [List.getElem?_toArray, List.getElem?_cons_succ, List.getElem?_cons_zero]; rfl)
  case hq10 => exact fun _ _ _ h => h
  case hw10 => rfl
  case hy10 =>
    intro W hW
    go_simp
    first | done | with_reducible rfl
  case hk10 =>
  try simp only [Act.put, List.setIfInBounds_toArray, List.set_cons_zero, List.set_cons_succ]
  refine anyK_done (by kernel_rfl) ?_ _
  clear keepK hT0 hT1 hT2
  have X2 := hide (ext_trans X1.out yy)
  have KR2 := hide (KR1.out.ext yy)
  have KP2 := hide (KP1.out.ext yy)
  clear yy xx HZ HEM HML X1 KR1 KP1
  by_cases hm : nd.m ∈ ML
  · rw [decide_eq_true hm]
    have HPV2 := hide (HPV.out.1 hm)
    have HMK2 := hide (HMK.out hm)
    have HRQ2 := hide (HRQ.out hm)
    have HLQ2 := hide (HLQ.out hm)
    have HMA2 := hide (HMA.out hm)
    have HSA2 := hide (HSA.out hm)
    have HRA2 := hide (HRA.out hm)
    have HLL2 := hide (HLL.out hm)
    clear HPV HMK HRQ HLQ HMA HSA HRA HLL HSQ hm
    have hw1 : wrap64 (1 + P.turn) = 1 + P.turn := by unfold wrap64; omega
    have f3 : wy.cell? ⟨BP, 3, none⟩ = some (.int .i64 P.turn) := KP2.out.cell 3
    clear hT
    go_upto_region 4 with fail
    rw [hw1]
    clear f3 hw1
    have keepK := hide (fun W (h : Ext wy W) => (show (fun W => W.cell? ⟨BR, 0, none⟩ = some (.string R.name) ∧ W.cell? ⟨BR, 1, none⟩ = some (.int .i64 R.width) ∧ W.cell? ⟨BR, 2, none⟩ = some (.int .i64 R.height) ∧ W.cell? ⟨BR, 3, none⟩ = some (.slice pA R.pieces.length pc) ∧ W.cell? ⟨BR, 4, none⟩ = some (.slice sA R.start.length sc) ∧ W.cell? ⟨BR, 5, none⟩ = some (.bool R.falls) ∧ W.cell? ⟨BR, 6, none⟩ = some (.bool R.keeps) ∧ W.cell? ⟨BR, 7, none⟩ = some (.slice eA R.ends.length ec) ∧ W.cell? ⟨BR, 8, none⟩ = some (.int .i64 R.blocked) ∧ W.cell? ⟨BR, 9, none⟩ = some (.int .i64 R.quiet) ∧ W.cell? ⟨BR, 10, none⟩ = some (.int .i64 R.rept) ∧ W.cell? ⟨BP, 0, none⟩ = some (.slice cA P.cells.length cc) ∧ W.cell? ⟨BP, 1, none⟩ = some (.slice aA P.hand0.length ac) ∧ W.cell? ⟨BP, 2, none⟩ = some (.slice bA P.hand1.length bc) ∧ W.cell? ⟨BP, 3, none⟩ = some (.int .i64 P.turn) ∧ W.cell? ⟨BP, 4, none⟩ = some (.int .i64 P.quiet) ∧ W.cell? ⟨bN, oN + k * 4, none⟩ = some (.int .i64 nd.m.src) ∧ W.cell? ⟨bN, oN + k * 4 + 1, none⟩ = some (.int .i64 nd.m.dst) ∧ W.cell? ⟨bN, oN + k * 4 + 2, none⟩ = some (.int .i64 nd.m.piece) ∧ Ext wy W) W from ⟨(KR2.out.ext h).cell 0, (KR2.out.ext h).cell 1, (KR2.out.ext h).cell 2, (KR2.out.ext h).cell 3, (KR2.out.ext h).cell 4, (KR2.out.ext h).cell 5, (KR2.out.ext h).cell 6, (KR2.out.ext h).cell 7, (KR2.out.ext h).cell 8, (KR2.out.ext h).cell 9, (KR2.out.ext h).cell 10, (KP2.out.ext h).cell 0, (KP2.out.ext h).cell 1, (KP2.out.ext h).cell 2, (KP2.out.ext h).cell 3, (KP2.out.ext h).cell 4, (ext_trans X2.out h).cell N0.out, (ext_trans X2.out h).cell N1.out, (ext_trans X2.out h).cell N2.out, h⟩))
    have yy : Ext wy wy.drew := Below.drew (Below.refl _ _)
    refine region_K (fun W => W.cell? ⟨BR, 0, none⟩ = some (.string R.name) ∧ W.cell? ⟨BR, 1, none⟩ = some (.int .i64 R.width) ∧ W.cell? ⟨BR, 2, none⟩ = some (.int .i64 R.height) ∧ W.cell? ⟨BR, 3, none⟩ = some (.slice pA R.pieces.length pc) ∧ W.cell? ⟨BR, 4, none⟩ = some (.slice sA R.start.length sc) ∧ W.cell? ⟨BR, 5, none⟩ = some (.bool R.falls) ∧ W.cell? ⟨BR, 6, none⟩ = some (.bool R.keeps) ∧ W.cell? ⟨BR, 7, none⟩ = some (.slice eA R.ends.length ec) ∧ W.cell? ⟨BR, 8, none⟩ = some (.int .i64 R.blocked) ∧ W.cell? ⟨BR, 9, none⟩ = some (.int .i64 R.quiet) ∧ W.cell? ⟨BR, 10, none⟩ = some (.int .i64 R.rept) ∧ W.cell? ⟨BP, 0, none⟩ = some (.slice cA P.cells.length cc) ∧ W.cell? ⟨BP, 1, none⟩ = some (.slice aA P.hand0.length ac) ∧ W.cell? ⟨BP, 2, none⟩ = some (.slice bA P.hand1.length bc) ∧ W.cell? ⟨BP, 3, none⟩ = some (.int .i64 P.turn) ∧ W.cell? ⟨BP, 4, none⟩ = some (.int .i64 P.quiet) ∧ W.cell? ⟨bN, oN + k * 4, none⟩ = some (.int .i64 nd.m.src) ∧ W.cell? ⟨bN, oN + k * 4 + 1, none⟩ = some (.int .i64 nd.m.dst) ∧ W.cell? ⟨bN, oN + k * 4 + 2, none⟩ = some (.int .i64 nd.m.piece) ∧ Ext wy W) (fun _ => True) [] (by kernel_rfl) ?_
    have hT0 := keepK.out _ yy
    refine anyK_take 0 (oi := ?oo11) ?ho11 (by kernel_rfl) (by kernel_rfl) (by kernel_rfl) (by kernel_rfl) ?hq11 ?hw11 hT0 (fun _ => trivial) (v := ?vv11) ?hy11 ?hk11
    case ho11 => (simp only [List.getElem?_toArray, List.getElem?_cons_succ, List.getElem?_cons_zero]; rfl)
    case hq11 => exact fun _ _ _ h => h
    case hw11 => rfl
    case hy11 =>
      intro W hW
      obtain ⟨z0, z1, z2, z3, z4, z5, z6, z7, z8, z9, z10, z11, z12, z13, z14, z15, z16, z17, z18, z19⟩ := hW
      go_simp
      first | done | with_reducible rfl
    case hk11 =>
    try simp only [Act.put, List.setIfInBounds_toArray, List.set_cons_zero, List.set_cons_succ]
    refine anyK_take 1 (oi := ?oo12) ?ho12 (by kernel_rfl) (by kernel_rfl) (by kernel_rfl) (by kernel_rfl) ?hq12 ?hw12 hT0 (fun _ => trivial) (v := ?vv12) ?hy12 ?hk12
    case ho12 => (simp only [List.getElem?_toArray, List.getElem?_cons_succ, List.getElem?_cons_zero]; rfl)
    case hq12 => exact fun _ _ _ h => h
    case hw12 => rfl
    case hy12 =>
      intro W hW
      obtain ⟨z0, z1, z2, z3, z4, z5, z6, z7, z8, z9, z10, z11, z12, z13, z14, z15, z16, z17, z18, z19⟩ := hW
      go_simp
      first | done | with_reducible rfl
    case hk12 =>
    try simp only [Act.put, List.setIfInBounds_toArray, List.set_cons_zero, List.set_cons_succ]
    refine anyK_take 2 (oi := ?oo13) ?ho13 (by kernel_rfl) (by kernel_rfl) (by kernel_rfl) (by kernel_rfl) ?hq13 ?hw13 hT0 (fun _ => trivial) (v := ?vv13) ?hy13 ?hk13
    case ho13 => (simp only [List.getElem?_toArray, List.getElem?_cons_succ, List.getElem?_cons_zero]; rfl)
    case hq13 => exact fun _ _ _ h => h
    case hw13 => rfl
    case hy13 =>
      intro W hW
      go_simp
      first | done | with_reducible rfl
    case hk13 =>
    try simp only [Act.put, List.setIfInBounds_toArray, List.set_cons_zero, List.set_cons_succ]
    refine anyK_take 3 (oi := ?oo14) ?ho14 (by kernel_rfl) (by kernel_rfl) (by kernel_rfl) (by kernel_rfl) ?hq14 ?hw14 hT0 (fun _ => trivial) (v := ?vv14) ?hy14 ?hk14
    case ho14 => (simp only [List.getElem?_toArray, List.getElem?_cons_succ, List.getElem?_cons_zero]; rfl)
    case hq14 => exact fun _ _ _ h => h
    case hw14 => rfl
    case hy14 =>
      intro W hW
      go_simp
      first | done | with_reducible rfl
    case hk14 =>
    try simp only [Act.put, List.setIfInBounds_toArray, List.set_cons_zero, List.set_cons_succ]
    refine anyK_take 4 (oi := ?oo15) ?ho15 (by kernel_rfl) (by kernel_rfl) (by kernel_rfl) (by kernel_rfl) ?hq15 ?hw15 hT0 (fun _ => trivial) (v := ?vv15) ?hy15 ?hk15
    case ho15 => (simp only [List.getElem?_toArray, List.getElem?_cons_succ, List.getElem?_cons_zero]; rfl)
    case hq15 => exact fun _ _ _ h => h
    case hw15 => rfl
    case hy15 =>
      intro W hW
      go_simp
      first | done | with_reducible rfl
    case hk15 =>
    try simp only [Act.put, List.setIfInBounds_toArray, List.set_cons_zero, List.set_cons_succ]
    refine anyK_take 5 (oi := ?oo16) ?ho16 (by kernel_rfl) (by kernel_rfl) (by kernel_rfl) (by kernel_rfl) ?hq16 ?hw16 hT0 (fun _ => trivial) (v := ?vv16) ?hy16 ?hk16
    case ho16 => (simp only [List.getElem?_toArray, List.getElem?_cons_succ, List.getElem?_cons_zero]; rfl)
    case hq16 => exact fun _ _ _ h => h
    case hw16 => rfl
    case hy16 =>
      intro W hW
      go_simp
      first | done | with_reducible rfl
    case hk16 =>
    try simp only [Act.put, List.setIfInBounds_toArray, List.set_cons_zero, List.set_cons_succ]
    refine anyK_take 6 (oi := ?oo17) ?ho17 (by kernel_rfl) (by kernel_rfl) (by kernel_rfl) (by kernel_rfl) ?hq17 ?hw17 hT0 (fun _ => trivial) (v := ?vv17) ?hy17 ?hk17
    case ho17 => (simp only [List.getElem?_toArray, List.getElem?_cons_succ, List.getElem?_cons_zero]; rfl)
    case hq17 => exact fun _ _ _ h => h
    case hw17 => rfl
    case hy17 =>
      intro W hW
      obtain ⟨z0, z1, z2, z3, z4, z5, z6, z7, z8, z9, z10, z11, z12, z13, z14, z15, z16, z17, z18, z19⟩ := hW
      go_simp
      first | done | with_reducible rfl
    case hk17 =>
    try simp only [Act.put, List.setIfInBounds_toArray, List.set_cons_zero, List.set_cons_succ]
    refine anyK_on2 7 8 (by kernel_rfl) ?_ ?_
    · skip
      refine anyK_one 7 (o := ?oo18) ?ho18 ?hk18
      case ho18 => (simp only [List.getElem?_toArray, List.getElem?_cons_succ, List.getElem?_cons_zero]; rfl)
      case hk18 =>
      intro K hK
      go_simp
      refine (HMK2.out _ (ext_trans X2.out yy)).mono ?_
      rintro e we ⟨v9, rfl, own9, xx⟩
      try go_wp2_with fail
      replace yy := ext_trans yy xx
      have HP9 := hide own9.toI
      have hp9 := own9.toI
      obtain ⟨g0, d0, g1, d1, g2, d2, rfl, -⟩ := hp9
      clear own9
      try (replace KN := hide (KN.out.ext xx))
      have hT1 := keepK.out _ yy
      refine hK.out _ _ hT1 (fun _ => trivial) ?_
      clear hK K
      try simp only [Act.put, List.setIfInBounds_toArray, List.set_cons_zero, List.set_cons_succ]
      refine anyK_on1 8 (by kernel_rfl) ?_
      refine anyK_one 8 (o := ?oo19) ?ho19 ?hk19
      case ho19 => (simp only [List.getElem?_toArray, List.getElem?_cons_succ, List.getElem?_cons_zero]; rfl)
      case hk19 =>
      intro K hK
      go_simp
      have hnb0 : wy.heap.size ≤ we.heap.size := (yy : Ext wy we).size
      have HNB0 := hide hnb0
      clear hnb0
      have KN : Hid (Blk (we.alloc (.cells #[.slice none 0 0, .slice none 0 0, .slice none 0 0, .int .i64 0, .int .i64 0] 29)) we.heap.size 29 #[.slice none 0 0, .slice none 0 0, .slice none 0 0, .int .i64 0, .int .i64 0]) := hide (Blk.new we 29 #[.slice none 0 0, .slice none 0 0, .slice none 0 0, .int .i64 0, .int .i64 0])
      try (replace HP9 := hide (HP9.out.ext (ext_alloc (Below.refl _ _) (.cells #[.slice none 0 0, .slice none 0 0, .slice none 0 0, .int .i64 0, .int .i64 0] 29))))
      generalize hBN : we.heap.size = BN at *
      have HNB : Hid (wy.heap.size ≤ BN) := hide (by have h : wy.heap.size ≤ we.heap.size := (yy : Ext wy we).size; omega)
      clear hBN HNB0
      replace yy := ext_alloc yy (.cells #[.slice none 0 0, .slice none 0 0, .slice none 0 0, .int .i64 0, .int .i64 0] 29)
      have hT2 := keepK.out _ yy
      refine hK.out _ _ hT2 (fun _ => trivial) ?_
      clear hK K
      try simp only [Act.put, List.setIfInBounds_toArray, List.set_cons_zero, List.set_cons_succ]
      refine anyK_on1 9 (by kernel_rfl) ?_
      refine anyK_one 9 (o := ?oo20) ?ho20 ?hk20
      case ho20 => (simp only [List.getElem?_toArray, List.getElem?_cons_succ, List.getElem?_cons_zero]; rfl)
      case hk20 =>
      intro K hK
      have q5 := KN.out.cell
      have z5 := KN.out.frozen
      have KPF := hide (blk_set5 KN.out (u0 := .slice (some ⟨g0, 0, none⟩) (makeM R P nd.m).cells.length d0) (u1 := .slice (some ⟨g1, 0, none⟩) (makeM R P nd.m).hand0.length d1) (u2 := .slice (some ⟨g2, 0, none⟩) (makeM R P nd.m).hand1.length d2) (u3 := .int .i64 (makeM R P nd.m).turn) (u4 := .int .i64 (makeM R P nd.m).quiet))
      have HPF := hide (PosI.far5 (u0 := .slice (some ⟨g0, 0, none⟩) (makeM R P nd.m).cells.length d0) (u1 := .slice (some ⟨g1, 0, none⟩) (makeM R P nd.m).hand0.length d1) (u2 := .slice (some ⟨g2, 0, none⟩) (makeM R P nd.m).hand1.length d2) (u3 := .int .i64 (makeM R P nd.m).turn) (u4 := .int .i64 (makeM R P nd.m).quiet) HP9.out KN.out)
      replace yy := (ext_set (ext_set (ext_set (ext_set (ext_set yy (p := ⟨BN, 0, none⟩) HNB.out (.slice (some ⟨g0, 0, none⟩) (makeM R P nd.m).cells.length d0)) (p := ⟨BN, 1, none⟩) HNB.out (.slice (some ⟨g1, 0, none⟩) (makeM R P nd.m).hand0.length d1)) (p := ⟨BN, 2, none⟩) HNB.out (.slice (some ⟨g2, 0, none⟩) (makeM R P nd.m).hand1.length d2)) (p := ⟨BN, 3, none⟩) HNB.out (.int .i64 (makeM R P nd.m).turn)) (p := ⟨BN, 4, none⟩) HNB.out (.int .i64 (makeM R P nd.m).quiet))
      go_simp
      clear q5 z5
      have hT3 := keepK.out _ yy
      refine hK.out _ _ hT3 (fun _ => trivial) ?_
      clear hK K
      try simp only [Act.put, List.setIfInBounds_toArray, List.set_cons_zero, List.set_cons_succ]
      refine anyK_done (by kernel_rfl) ?_ _
      clear keepK hT0 hT1 hT2 hT3
      have KQ := KPF
      have HQ5 := HPF
      have X5 := hide (ext_trans X2.out yy)
      have KR5 := hide (KR2.out.ext yy)
      clear yy xx HMK2 X2 KR2 KP2 HP9 KPF HPF KN HNB
      generalize ((((((we.alloc (.cells #[.slice none 0 0, .slice none 0 0, .slice none 0 0, .int .i64 0, .int .i64 0] 29)).setCell ⟨BN, 0, none⟩ (.slice (some ⟨g0, 0, none⟩) (makeM R P nd.m).cells.length d0)).setCell ⟨BN, 1, none⟩ (.slice (some ⟨g1, 0, none⟩) (makeM R P nd.m).hand0.length d1)).setCell ⟨BN, 2, none⟩ (.slice (some ⟨g2, 0, none⟩) (makeM R P nd.m).hand1.length d2)).setCell ⟨BN, 3, none⟩ (.int .i64 (makeM R P nd.m).turn)).setCell ⟨BN, 4, none⟩ (.int .i64 (makeM R P nd.m).quiet)) = w5 at *
      generalize BN = BQ at *
      generalize makeM R P nd.m = q at *
      have f1 := KR5.out.cell
      have f2 := KQ.out.cell
      go_wp2_with fail
      refine (HRQ2.out _ _ X5.out HQ5.out.at_).mono ?_
      rintro e w6 ⟨rfl, x6⟩
      have X6 := hide (ext_trans X5.out x6)
      have KR6 := hide (KR5.out.ext x6)
      have KQ6 := hide (KQ.out.ext x6)
      have HQ6 := hide (HQ5.out.ext x6)
      clear f1 f2 x6 HRQ2 X5 KR5 KQ HQ5
      by_cases hr : resultM R q = 0
      · have HPV3 := hide (HPV2.out.2 hr)
        rw [hr]
        clear HPV2 hr
        have f1 := KR6.out.cell
        have f2 := KQ6.out.cell
        go_wp2_with fail
        refine (HLQ2.out _ _ X6.out HQ6.out.at_).mono ?_
        rintro e w7 ⟨vl, rfl, hl, x7⟩
        have HLA := hide hl.at_
        obtain ⟨lA, lc, rfl, -⟩ := hl
        have X7 := hide (ext_trans X6.out x7)
        have KR7 := hide (KR6.out.ext x7)
        have KQ7 := hide (KQ6.out.ext x7)
        have HQ7 := hide (HQ6.out.ext x7)
        clear f1 f2 x7 HLQ2 X6 KR6 KQ6 HQ6
        have f3 := X7.out.cell N3.out
        generalize listM R q = AL at *
        by_cases hlen : AL.length = nd.rs.length
        · have tl : ((AL.length : Int) != (nd.rs.length : Int)) = false := by simp; omega
          have HPV4 := hide (HPV3.out.2 hlen)
          have HLEN := hide hlen
          clear HPV3 hlen
          go_wp2
          clear tl f3
          have hal := HLL2.out
          go_loopw [14, 74] (fun mo i wr => ∃ (j : Nat) (most : Int), j ≤ AL.length ∧ i = .int .i64 j ∧ mo = .int .i64 most ∧ Hid (0 ≤ most ∧ most ≤ 2 * (n + 1)) ∧ Hid (T = foldV R (provesM R L n) q (1 + P.turn) most (AL.drop j) (nd.rs.drop j)) ∧ Ext w7 wr) (fun _ i _ => AL.length - (intOf i).toNat)
          case atStart => exact ⟨0, 0, Nat.zero_le _, rfl, rfl, hide (by omega), HPV4, Below.refl _ _⟩
          case round =>
            obtain ⟨j, most, hj, rfl, rfl, hmo, hT', hx⟩ := hrel
            have XR := hide (ext_trans X7.out hx)
            have HLR := hide (HLA.out.ext hx)
            have KRR := hide (KR7.out.ext hx)
            have KQR := hide (KQ7.out.ext hx)
            have HQR := hide (HQ7.out.ext hx)
            have X7R := hide hx
            clear hx
            by_cases hlt : j < AL.length
            · obtain ⟨a, ha⟩ : ∃ a, AL[j]? = some a := ⟨AL[j], List.getElem?_eq_getElem _⟩
              have hjr : j < nd.rs.length := by have := HLEN.out; omega
              have hto : nd.rs[j]? = some nd.rs[j] := List.getElem?_eq_getElem hjr
              have hgt : nd.rs.getD j 0 = nd.rs[j] := by rw [List.getD_eq_getElem?_getD, hto]; rfl
              obtain ⟨bT, oT, rfl, hcT⟩ := (HI.out.ext XR.out) j hjr
              rw [hgt] at hcT
              have hmem : nd.rs[j] ∈ nd.rs := List.getElem_mem hjr
              have hTF := HF.out _ hmem
              have HST := hide (foldV_step (R := R) (g := provesM R L n) (q := q) (own := 1 + P.turn) (most := most) ha hto)
              generalize nd.rs[j] = zt at *
              have hmemA := List.mem_of_getElem? ha
              have HMA3 := hide (HMA2.out a hmemA)
              have HSA3 := hide (HSA2.out a hmemA)
              have HRA3 := hide (HRA2.out a hmemA)
              obtain ⟨lA', lc', e', hc'⟩ := HLR.out
              simp only [Value.slice.injEq, true_and] at e'
              obtain ⟨rfl, rfl⟩ := e'
              obtain ⟨b', o', rfl, m0, m1, m2⟩ := moves_get hc' ha
              have j0 : (0 : Int) ≤ (j : Int) := by omega
              have j1 : (j : Int) < (AL.length : Int) := by omega
              have j2 : (j : Int) < (nd.rs.length : Int) := by have := HLEN.out; omega
              clear ha hto hgt hmem hmemA hc' hjr
              go_upto_region 15 with fail
              obtain ⟨x5, k5⟩ := blks1 wr #[.int .i64 a.src, .int .i64 a.dst, .int .i64 a.piece] 37
              have KM := hide k5
              have X8 := hide (ext_trans XR.out x5)
              have X78 := hide (ext_trans X7R.out x5)
              have KR8 := hide (KRR.out.ext x5)
              have KQ8 := hide (KQR.out.ext x5)
              have HQ8 := hide (HQR.out.ext x5)
              have HCT := hide (x5.cell hcT)
              clear x5 k5 m0 m1 m2 XR X7R KRR KQR HQR hcT HLR
              generalize wr.alloc (.cells #[.int .i64 a.src, .int .i64 a.dst, .int .i64 a.piece] 37) = w8 at *
              generalize wr.heap.size = BM at *
              have keepK := hide (fun W (h : Ext w8 W) => (show (fun W => W.cell? ⟨BR, 0, none⟩ = some (.string R.name) ∧ W.cell? ⟨BR, 1, none⟩ = some (.int .i64 R.width) ∧ W.cell? ⟨BR, 2, none⟩ = some (.int .i64 R.height) ∧ W.cell? ⟨BR, 3, none⟩ = some (.slice pA R.pieces.length pc) ∧ W.cell? ⟨BR, 4, none⟩ = some (.slice sA R.start.length sc) ∧ W.cell? ⟨BR, 5, none⟩ = some (.bool R.falls) ∧ W.cell? ⟨BR, 6, none⟩ = some (.bool R.keeps) ∧ W.cell? ⟨BR, 7, none⟩ = some (.slice eA R.ends.length ec) ∧ W.cell? ⟨BR, 8, none⟩ = some (.int .i64 R.blocked) ∧ W.cell? ⟨BR, 9, none⟩ = some (.int .i64 R.quiet) ∧ W.cell? ⟨BR, 10, none⟩ = some (.int .i64 R.rept) ∧ W.cell? ⟨BQ, 0, none⟩ = some (.slice (some ⟨g0, 0, none⟩) q.cells.length d0) ∧ W.cell? ⟨BQ, 1, none⟩ = some (.slice (some ⟨g1, 0, none⟩) q.hand0.length d1) ∧ W.cell? ⟨BQ, 2, none⟩ = some (.slice (some ⟨g2, 0, none⟩) q.hand1.length d2) ∧ W.cell? ⟨BQ, 3, none⟩ = some (.int .i64 q.turn) ∧ W.cell? ⟨BQ, 4, none⟩ = some (.int .i64 q.quiet) ∧ W.cell? ⟨BM, 0, none⟩ = some (.int .i64 a.src) ∧ W.cell? ⟨BM, 1, none⟩ = some (.int .i64 a.dst) ∧ W.cell? ⟨BM, 2, none⟩ = some (.int .i64 a.piece) ∧ W.cell? ⟨bN, oN + k * 4 + 3, none⟩ = some (.slice (some ⟨bT, oT, none⟩) nd.rs.length cB) ∧ W.cell? ⟨bT, oT + j, none⟩ = some (.int .i64 zt) ∧ Ext w8 W) W from ⟨(KR8.out.ext h).cell 0, (KR8.out.ext h).cell 1, (KR8.out.ext h).cell 2, (KR8.out.ext h).cell 3, (KR8.out.ext h).cell 4, (KR8.out.ext h).cell 5, (KR8.out.ext h).cell 6, (KR8.out.ext h).cell 7, (KR8.out.ext h).cell 8, (KR8.out.ext h).cell 9, (KR8.out.ext h).cell 10, (KQ8.out.ext h).cell 0, (KQ8.out.ext h).cell 1, (KQ8.out.ext h).cell 2, (KQ8.out.ext h).cell 3, (KQ8.out.ext h).cell 4, (KM.out.ext h).cell 0, (KM.out.ext h).cell 1, (KM.out.ext h).cell 2, (ext_trans X8.out h).cell N3.out, h.cell HCT.out, h⟩))
              have yy : Ext w8 w8.drew := Below.drew (Below.refl _ _)
              refine region_K (fun W => W.cell? ⟨BR, 0, none⟩ = some (.string R.name) ∧ W.cell? ⟨BR, 1, none⟩ = some (.int .i64 R.width) ∧ W.cell? ⟨BR, 2, none⟩ = some (.int .i64 R.height) ∧ W.cell? ⟨BR, 3, none⟩ = some (.slice pA R.pieces.length pc) ∧ W.cell? ⟨BR, 4, none⟩ = some (.slice sA R.start.length sc) ∧ W.cell? ⟨BR, 5, none⟩ = some (.bool R.falls) ∧ W.cell? ⟨BR, 6, none⟩ = some (.bool R.keeps) ∧ W.cell? ⟨BR, 7, none⟩ = some (.slice eA R.ends.length ec) ∧ W.cell? ⟨BR, 8, none⟩ = some (.int .i64 R.blocked) ∧ W.cell? ⟨BR, 9, none⟩ = some (.int .i64 R.quiet) ∧ W.cell? ⟨BR, 10, none⟩ = some (.int .i64 R.rept) ∧ W.cell? ⟨BQ, 0, none⟩ = some (.slice (some ⟨g0, 0, none⟩) q.cells.length d0) ∧ W.cell? ⟨BQ, 1, none⟩ = some (.slice (some ⟨g1, 0, none⟩) q.hand0.length d1) ∧ W.cell? ⟨BQ, 2, none⟩ = some (.slice (some ⟨g2, 0, none⟩) q.hand1.length d2) ∧ W.cell? ⟨BQ, 3, none⟩ = some (.int .i64 q.turn) ∧ W.cell? ⟨BQ, 4, none⟩ = some (.int .i64 q.quiet) ∧ W.cell? ⟨BM, 0, none⟩ = some (.int .i64 a.src) ∧ W.cell? ⟨BM, 1, none⟩ = some (.int .i64 a.dst) ∧ W.cell? ⟨BM, 2, none⟩ = some (.int .i64 a.piece) ∧ W.cell? ⟨bN, oN + k * 4 + 3, none⟩ = some (.slice (some ⟨bT, oT, none⟩) nd.rs.length cB) ∧ W.cell? ⟨bT, oT + j, none⟩ = some (.int .i64 zt) ∧ Ext w8 W) (fun _ => True) [] (by kernel_rfl) ?_
              have hT0 := keepK.out _ yy
              refine anyK_take 0 (oi := ?oo21) ?ho21 (by kernel_rfl) (by kernel_rfl) (by kernel_rfl) (by kernel_rfl) ?hq21 ?hw21 hT0 (fun _ => trivial) (v := ?vv21) ?hy21 ?hk21
              case ho21 => (simp only [List.getElem?_toArray, List.getElem?_cons_succ, List.getElem?_cons_zero]; rfl)
              case hq21 => exact fun _ _ _ h => h
              case hw21 => rfl
              case hy21 =>
                intro W hW
                obtain ⟨z0, z1, z2, z3, z4, z5, z6, z7, z8, z9, z10, z11, z12, z13, z14, z15, z16, z17, z18, z19, z20, z21⟩ := hW
                go_simp
                first | done | with_reducible rfl
              case hk21 =>
              try simp only [Act.put, List.setIfInBounds_toArray, List.set_cons_zero, List.set_cons_succ]
              refine anyK_take 1 (oi := ?oo22) ?ho22 (by kernel_rfl) (by kernel_rfl) (by kernel_rfl) (by kernel_rfl) ?hq22 ?hw22 hT0 (fun _ => trivial) (v := ?vv22) ?hy22 ?hk22
              case ho22 => (simp only [List.getElem?_toArray, List.getElem?_cons_succ, List.getElem?_cons_zero]; rfl)
              case hq22 => exact fun _ _ _ h => h
              case hw22 => rfl
              case hy22 =>
                intro W hW
                obtain ⟨z0, z1, z2, z3, z4, z5, z6, z7, z8, z9, z10, z11, z12, z13, z14, z15, z16, z17, z18, z19, z20, z21⟩ := hW
                go_simp
                first | done | with_reducible rfl
              case hk22 =>
              try simp only [Act.put, List.setIfInBounds_toArray, List.set_cons_zero, List.set_cons_succ]
              refine anyK_take 2 (oi := ?oo23) ?ho23 (by kernel_rfl) (by kernel_rfl) (by kernel_rfl) (by kernel_rfl) ?hq23 ?hw23 hT0 (fun _ => trivial) (v := ?vv23) ?hy23 ?hk23
              case ho23 => (simp only [List.getElem?_toArray, List.getElem?_cons_succ, List.getElem?_cons_zero]; rfl)
              case hq23 => exact fun _ _ _ h => h
              case hw23 => rfl
              case hy23 =>
                intro W hW
                obtain ⟨z0, z1, z2, z3, z4, z5, z6, z7, z8, z9, z10, z11, z12, z13, z14, z15, z16, z17, z18, z19, z20, z21⟩ := hW
                go_simp
                first | done | with_reducible rfl
              case hk23 =>
              try simp only [Act.put, List.setIfInBounds_toArray, List.set_cons_zero, List.set_cons_succ]
              refine anyK_take 4 (oi := ?oo24) ?ho24 (by kernel_rfl) (by kernel_rfl) (by kernel_rfl) (by kernel_rfl) ?hq24 ?hw24 hT0 (fun _ => trivial) (v := ?vv24) ?hy24 ?hk24
              case ho24 => (simp only [List.getElem?_toArray, List.getElem?_cons_succ, List.getElem?_cons_zero]; rfl)
              case hq24 => exact fun _ _ _ h => h
              case hw24 => rfl
              case hy24 =>
                intro W hW
                go_simp
                first | done | with_reducible rfl
              case hk24 =>
              try simp only [Act.put, List.setIfInBounds_toArray, List.set_cons_zero, List.set_cons_succ]
              refine anyK_take 5 (oi := ?oo25) ?ho25 (by kernel_rfl) (by kernel_rfl) (by kernel_rfl) (by kernel_rfl) ?hq25 ?hw25 hT0 (fun _ => trivial) (v := ?vv25) ?hy25 ?hk25
              case ho25 => (simp only [List.getElem?_toArray, List.getElem?_cons_succ, List.getElem?_cons_zero]; rfl)
              case hq25 => exact fun _ _ _ h => h
              case hw25 => rfl
              case hy25 =>
                intro W hW
                go_simp
                first | done | with_reducible rfl
              case hk25 =>
              try simp only [Act.put, List.setIfInBounds_toArray, List.set_cons_zero, List.set_cons_succ]
              refine anyK_take 6 (oi := ?oo26) ?ho26 (by kernel_rfl) (by kernel_rfl) (by kernel_rfl) (by kernel_rfl) ?hq26 ?hw26 hT0 (fun _ => trivial) (v := ?vv26) ?hy26 ?hk26
              case ho26 => (simp only [List.getElem?_toArray, List.getElem?_cons_succ, List.getElem?_cons_zero]; rfl)
              case hq26 => exact fun _ _ _ h => h
              case hw26 => rfl
              case hy26 =>
                intro W hW
                go_simp
                first | done | with_reducible rfl
              case hk26 =>
              try simp only [Act.put, List.setIfInBounds_toArray, List.set_cons_zero, List.set_cons_succ]
              refine anyK_take 7 (oi := ?oo27) ?ho27 (by kernel_rfl) (by kernel_rfl) (by kernel_rfl) (by kernel_rfl) ?hq27 ?hw27 hT0 (fun _ => trivial) (v := ?vv27) ?hy27 ?hk27
              case ho27 => (simp only [List.getElem?_toArray, List.getElem?_cons_succ, List.getElem?_cons_zero]; rfl)
              case hq27 => exact fun _ _ _ h => h
              case hw27 => rfl
              case hy27 =>
                intro W hW
                go_simp
                first | done | with_reducible rfl
              case hk27 =>
              try simp only [Act.put, List.setIfInBounds_toArray, List.set_cons_zero, List.set_cons_succ]
              refine anyK_take 8 (oi := ?oo28) ?ho28 (by kernel_rfl) (by kernel_rfl) (by kernel_rfl) (by kernel_rfl) ?hq28 ?hw28 hT0 (fun _ => trivial) (v := ?vv28) ?hy28 ?hk28
              case ho28 => (simp only [List.getElem?_toArray, List.getElem?_cons_succ, List.getElem?_cons_zero]; rfl)
              case hq28 => exact fun _ _ _ h => h
              case hw28 => rfl
              case hy28 =>
                intro W hW
                obtain ⟨z0, z1, z2, z3, z4, z5, z6, z7, z8, z9, z10, z11, z12, z13, z14, z15, z16, z17, z18, z19, z20, z21⟩ := hW
                go_simp
                first | done | with_reducible rfl
              case hk28 =>
              try simp only [Act.put, List.setIfInBounds_toArray, List.set_cons_zero, List.set_cons_succ]
              refine anyK_take 9 (oi := ?oo29) ?ho29 (by kernel_rfl) (by kernel_rfl) (by kernel_rfl) (by kernel_rfl) ?hq29 ?hw29 hT0 (fun _ => trivial) (v := ?vv29) ?hy29 ?hk29
              case ho29 => (simp only [List.getElem?_toArray, List.getElem?_cons_succ, List.getElem?_cons_zero]; rfl)
              case hq29 => exact fun _ _ _ h => h
              case hw29 => rfl
              case hy29 =>
                intro W hW
                go_simp
                first | done | with_reducible rfl
              case hk29 =>
              try simp only [Act.put, List.setIfInBounds_toArray, List.set_cons_zero, List.set_cons_succ]
              refine anyK_take 10 (oi := ?oo30) ?ho30 (by kernel_rfl) (by kernel_rfl) (by kernel_rfl) (by kernel_rfl) ?hq30 ?hw30 hT0 (fun _ => trivial) (v := ?vv30) ?hy30 ?hk30
              case ho30 => (simp only [List.getElem?_toArray, List.getElem?_cons_succ, List.getElem?_cons_zero]; rfl)
              case hq30 => exact fun _ _ _ h => h
              case hw30 => rfl
              case hy30 =>
                intro W hW
                go_simp
                first | done | with_reducible rfl
              case hk30 =>
              try simp only [Act.put, List.setIfInBounds_toArray, List.set_cons_zero, List.set_cons_succ]
              refine anyK_take 11 (oi := ?oo31) ?ho31 (by kernel_rfl) (by kernel_rfl) (by kernel_rfl) (by kernel_rfl) ?hq31 ?hw31 hT0 (fun _ => trivial) (v := ?vv31) ?hy31 ?hk31
              case ho31 => (simp only [List.getElem?_toArray, List.getElem?_cons_succ, List.getElem?_cons_zero]; rfl)
              case hq31 => exact fun _ _ _ h => h
              case hw31 => rfl
              case hy31 =>
                intro W hW
                obtain ⟨z0, z1, z2, z3, z4, z5, z6, z7, z8, z9, z10, z11, z12, z13, z14, z15, z16, z17, z18, z19, z20, z21⟩ := hW
                go_simp
                first | done | with_reducible rfl
              case hk31 =>
              try simp only [Act.put, List.setIfInBounds_toArray, List.set_cons_zero, List.set_cons_succ]
              refine anyK_on2 3 12 (by kernel_rfl) ?_ ?_
              · skip
                refine anyK_one 3 (o := ?oo32) ?ho32 ?hk32
                case ho32 => (simp only [List.getElem?_toArray, List.getElem?_cons_succ, List.getElem?_cons_zero]; rfl)
                case hk32 =>
                intro K hK
                go_simp
                refine (HMA3.out _ _ (ext_trans X8.out yy) (HQ8.out.ext yy).at_).mono ?_
                rintro e we9 ⟨v9, rfl, own9, xx⟩
                try go_wp2_with fail
                replace yy := ext_trans yy xx
                have HP9 := hide own9.toI
                have hp9 := own9.toI
                obtain ⟨h0, e0, h1, e1, h2, e2, rfl, -⟩ := hp9
                clear own9
                try (replace KN := hide (KN.out.ext xx))
                have hT1 := keepK.out _ yy
                refine hK.out _ _ hT1 (fun _ => trivial) ?_
                clear hK K
                try simp only [Act.put, List.setIfInBounds_toArray, List.set_cons_zero, List.set_cons_succ]
                refine anyK_on1 12 (by kernel_rfl) ?_
                refine anyK_one 12 (o := ?oo33) ?ho33 ?hk33
                case ho33 => (simp only [List.getElem?_toArray, List.getElem?_cons_succ, List.getElem?_cons_zero]; rfl)
                case hk33 =>
                intro K hK
                go_simp
                have hnb0 : w8.heap.size ≤ we9.heap.size := (yy : Ext w8 we9).size
                have HNB0 := hide hnb0
                clear hnb0
                have KN : Hid (Blk (we9.alloc (.cells #[.slice none 0 0, .slice none 0 0, .slice none 0 0, .int .i64 0, .int .i64 0] 29)) we9.heap.size 29 #[.slice none 0 0, .slice none 0 0, .slice none 0 0, .int .i64 0, .int .i64 0]) := hide (Blk.new we9 29 #[.slice none 0 0, .slice none 0 0, .slice none 0 0, .int .i64 0, .int .i64 0])
                try (replace HP9 := hide (HP9.out.ext (ext_alloc (Below.refl _ _) (.cells #[.slice none 0 0, .slice none 0 0, .slice none 0 0, .int .i64 0, .int .i64 0] 29))))
                generalize hBN : we9.heap.size = BN at *
                have HNB : Hid (w8.heap.size ≤ BN) := hide (by have h : w8.heap.size ≤ we9.heap.size := (yy : Ext w8 we9).size; omega)
                clear hBN HNB0
                replace yy := ext_alloc yy (.cells #[.slice none 0 0, .slice none 0 0, .slice none 0 0, .int .i64 0, .int .i64 0] 29)
                have hT2 := keepK.out _ yy
                refine hK.out _ _ hT2 (fun _ => trivial) ?_
                clear hK K
                try simp only [Act.put, List.setIfInBounds_toArray, List.set_cons_zero, List.set_cons_succ]
                refine anyK_on1 13 (by kernel_rfl) ?_
                refine anyK_one 13 (o := ?oo34) ?ho34 ?hk34
                case ho34 => (simp only [List.getElem?_toArray, List.getElem?_cons_succ, List.getElem?_cons_zero]; rfl)
                case hk34 =>
                intro K hK
                have q5 := KN.out.cell
                have z5 := KN.out.frozen
                have KPF := hide (blk_set5 KN.out (u0 := .slice (some ⟨h0, 0, none⟩) (makeM R q a).cells.length e0) (u1 := .slice (some ⟨h1, 0, none⟩) (makeM R q a).hand0.length e1) (u2 := .slice (some ⟨h2, 0, none⟩) (makeM R q a).hand1.length e2) (u3 := .int .i64 (makeM R q a).turn) (u4 := .int .i64 (makeM R q a).quiet))
                have HPF := hide (PosI.far5 (u0 := .slice (some ⟨h0, 0, none⟩) (makeM R q a).cells.length e0) (u1 := .slice (some ⟨h1, 0, none⟩) (makeM R q a).hand0.length e1) (u2 := .slice (some ⟨h2, 0, none⟩) (makeM R q a).hand1.length e2) (u3 := .int .i64 (makeM R q a).turn) (u4 := .int .i64 (makeM R q a).quiet) HP9.out KN.out)
                replace yy := (ext_set (ext_set (ext_set (ext_set (ext_set yy (p := ⟨BN, 0, none⟩) HNB.out (.slice (some ⟨h0, 0, none⟩) (makeM R q a).cells.length e0)) (p := ⟨BN, 1, none⟩) HNB.out (.slice (some ⟨h1, 0, none⟩) (makeM R q a).hand0.length e1)) (p := ⟨BN, 2, none⟩) HNB.out (.slice (some ⟨h2, 0, none⟩) (makeM R q a).hand1.length e2)) (p := ⟨BN, 3, none⟩) HNB.out (.int .i64 (makeM R q a).turn)) (p := ⟨BN, 4, none⟩) HNB.out (.int .i64 (makeM R q a).quiet))
                go_simp
                clear q5 z5
                have hT3 := keepK.out _ yy
                refine hK.out _ _ hT3 (fun _ => trivial) ?_
                clear hK K
                try simp only [Act.put, List.setIfInBounds_toArray, List.set_cons_zero, List.set_cons_succ]
                refine anyK_take 14 (oi := ?oo35) ?ho35 (by kernel_rfl) (by kernel_rfl) (by kernel_rfl) (by kernel_rfl) ?hq35 ?hw35 hT3 (fun _ => trivial) (v := ?vv35) ?hy35 ?hk35
                case ho35 => (simp only [List.getElem?_toArray, List.getElem?_cons_succ, List.getElem?_cons_zero]; rfl)
                case hq35 => exact fun _ _ _ h => h
                case hw35 => rfl
                case hy35 =>
                  intro W hW
                  go_simp
                  first | done | with_reducible rfl
                case hk35 =>
                try simp only [Act.put, List.setIfInBounds_toArray, List.set_cons_zero, List.set_cons_succ]
                refine anyK_done (by kernel_rfl) ?_ _
                clear keepK hT0 hT1 hT2 hT3
                have KS := KPF
                have HS9 := HPF
                have X9 := hide (ext_trans X8.out yy)
                have X79 := hide (ext_trans X78.out yy)
                have KR9 := hide (KR8.out.ext yy)
                clear yy xx HMA3 KM KQ8 HQ8 X8 X78 KR8 HP9 HCT KPF HPF KN HNB
                generalize ((((((we9.alloc (.cells #[.slice none 0 0, .slice none 0 0, .slice none 0 0, .int .i64 0, .int .i64 0] 29)).setCell ⟨BN, 0, none⟩ (.slice (some ⟨h0, 0, none⟩) (makeM R q a).cells.length e0)).setCell ⟨BN, 1, none⟩ (.slice (some ⟨h1, 0, none⟩) (makeM R q a).hand0.length e1)).setCell ⟨BN, 2, none⟩ (.slice (some ⟨h2, 0, none⟩) (makeM R q a).hand1.length e2)).setCell ⟨BN, 3, none⟩ (.int .i64 (makeM R q a).turn)).setCell ⟨BN, 4, none⟩ (.int .i64 (makeM R q a).quiet)) = w9 at *
                generalize BN = BS at *
                have f1 := KR9.out.cell
                have f2 := KS.out.cell
                go_wp2_with fail
                refine (HRA3.out _ _ X9.out HS9.out.at_).mono ?_
                rintro e w10 ⟨rfl, x10⟩
                have X10 := hide (ext_trans X9.out x10)
                have X710 := hide (ext_trans X79.out x10)
                have KR10 := hide (KR9.out.ext x10)
                have KS10 := hide (KS.out.ext x10)
                have HS10 := hide (HS9.out.ext x10)
                clear f1 f2 x10 HRA3 X9 X79 KR9 KS HS9
                have hmo0 := hmo.out
                have hnn := HNN.out
                generalize makeM R q a = s at *
                generalize resultM R s = rs at *
                by_cases htm : zt = -1
                · subst htm
                  by_cases hown : rs = 1 + P.turn
                  · have t1 : (rs != 1 + P.turn) = false := by simpa using hown
                    have HT3 := hide (hT'.out.trans (HST.out.1 rfl hown))
                    have hmax : ∀ W ats ty, (Builtin.max_ ats ty #[.int .i64 most, .int .i64 2]).run Try.prog W = .ok (.int .i64 (max most 2)) W := fun W ats ty => run_maxG W ats ty most 2
                    clear HST hT' hown
                    go_wp2
                    go_roundw
                    case rel => exact ⟨j + 1, max most 2, by omega, by go_num, by first | rfl | (simp only [Value.int.injEq, true_and]; omega), hide (by have := hmo.out; omega), hide HT3.out, X710.out⟩
                    case measure => simp [intOf]; omega
                  · have t1 : (rs != 1 + P.turn) = true := by simpa using hown
                    have HT3 := hide (hT'.out.trans (HST.out.2.1 rfl hown))
                    clear HST hT' hown
                    go_wp2
                    go_ret2
                    exact ⟨0, false, rfl, by rw [HT3.out]; exact rfl, ext_trans X10.out (Below.refl _ _)⟩
                · have t1 : (zt == -1) = false := by simpa using htm
                  obtain ⟨ht0, ht1⟩ := hTF.resolve_left htm
                  obtain ⟨tn, htn⟩ := Int.eq_ofNat_of_zero_le (show 0 ≤ zt by omega)
                  have htn' : zt = (tn : Int) := htn
                  subst htn'
                  have HIH2 := hide (HIH.out tn s _ _ w10 (by omega) (by omega) HSA3.out (HRR.out.ext X10.out) HS10.out.at_ (HC.out.ext X10.out))
                  have HT4 := hide (HST.out.2.2 htm)
                  rw [Int.toNat_natCast] at HT4
                  clear HST htm hTF htn
                  unfold ProvPost at HIH2
                  have f1 := KR10.out.cell
                  have f2 := KS10.out.cell
                  go_wp2_with fail
                  refine HIH2.out.mono ?_
                  rintro e w11 ⟨m, ok, rfl, hmok, x11⟩
                  have X11 := hide (ext_trans X10.out x11)
                  have X711 := hide (ext_trans X710.out x11)
                  clear f1 f2 x11 HIH2
                  cases hv : provesM R L n tn s with
                  | none =>
                    rw [hv] at hmok HT4
                    replace hmok : ok = false := hmok
                    subst hmok
                    have HT3 := hide (hT'.out.trans HT4.out)
                    clear hv HT4 hT'
                    go_wp2
                    go_ret2
                    exact ⟨0, false, rfl, by rw [HT3.out]; exact rfl, X11.out⟩
                  | some mm =>
                    rw [hv] at hmok HT4
                    replace hmok : m = mm ∧ ok = true ∧ 0 ≤ mm ∧ mm ≤ 2 * (n : Int) := hmok
                    obtain ⟨rfl, rfl, mm0, mm1⟩ := hmok
                    have HT3 := hide (hT'.out.trans HT4.out)
                    have hmax : ∀ W ats ty, (Builtin.max_ ats ty #[.int .i64 most, .int .i64 (m + 2)]).run Try.prog W = .ok (.int .i64 (max most (m + 2))) W := fun W ats ty => run_maxG W ats ty most (m + 2)
                    have hwm : wrap64 (m + 2) = m + 2 := by unfold wrap64; omega
                    clear hv HT4 hT'
                    go_wp2
                    go_roundw
                    case rel => exact ⟨j + 1, max most (m + 2), by omega, by go_num, by first | rfl | (simp only [Value.int.injEq, true_and]; omega), hide (by have := hmo.out; omega), hide HT3.out, X711.out⟩
                    case measure => simp [intOf]; omega
                
              · skip
                refine anyK_one 12 (o := ?oo36) ?ho36 ?hk36
                case ho36 => (simp only [List.getElem?_toArray, List.getElem?_cons_succ, List.getElem?_cons_zero]; rfl)
                case hk36 =>
                intro K hK
                go_simp
                have hnb0 : w8.heap.size ≤ w8.heap.size := (yy : Ext w8 w8.drew).size
                have HNB0 := hide hnb0
                clear hnb0
                have KN : Hid (Blk (w8.drew.alloc (.cells #[.slice none 0 0, .slice none 0 0, .slice none 0 0, .int .i64 0, .int .i64 0] 29)) w8.heap.size 29 #[.slice none 0 0, .slice none 0 0, .slice none 0 0, .int .i64 0, .int .i64 0]) := hide (Blk.new w8.drew 29 #[.slice none 0 0, .slice none 0 0, .slice none 0 0, .int .i64 0, .int .i64 0])
                try (replace HP9 := hide (HP9.out.ext (ext_alloc (Below.refl _ _) (.cells #[.slice none 0 0, .slice none 0 0, .slice none 0 0, .int .i64 0, .int .i64 0] 29))))
                generalize hBN : w8.heap.size = BN at *
                have HNB : Hid (w8.heap.size ≤ BN) := hide (by have h : w8.heap.size ≤ w8.heap.size := (yy : Ext w8 w8.drew).size; omega)
                clear hBN HNB0
                replace yy := ext_alloc yy (.cells #[.slice none 0 0, .slice none 0 0, .slice none 0 0, .int .i64 0, .int .i64 0] 29)
                have hT1 := keepK.out _ yy
                refine hK.out _ _ hT1 (fun _ => trivial) ?_
                clear hK K
                try simp only [Act.put, List.setIfInBounds_toArray, List.set_cons_zero, List.set_cons_succ]
                refine anyK_on1 3 (by kernel_rfl) ?_
                refine anyK_one 3 (o := ?oo37) ?ho37 ?hk37
                case ho37 => (simp only [List.getElem?_toArray, List.getElem?_cons_succ, List.getElem?_cons_zero]; rfl)
                case hk37 =>
                intro K hK
                go_simp
                refine (HMA3.out _ _ (ext_trans X8.out yy) (HQ8.out.ext yy).at_).mono ?_
                rintro e we9 ⟨v9, rfl, own9, xx⟩
                try go_wp2_with fail
                replace yy := ext_trans yy xx
                have HP9 := hide own9.toI
                have hp9 := own9.toI
                obtain ⟨h0, e0, h1, e1, h2, e2, rfl, -⟩ := hp9
                clear own9
                try (replace KN := hide (KN.out.ext xx))
                have hT2 := keepK.out _ yy
                refine hK.out _ _ hT2 (fun _ => trivial) ?_
                clear hK K
                try simp only [Act.put, List.setIfInBounds_toArray, List.set_cons_zero, List.set_cons_succ]
                refine anyK_on1 13 (by kernel_rfl) ?_
                refine anyK_one 13 (o := ?oo38) ?ho38 ?hk38
                case ho38 => (simp only [List.getElem?_toArray, List.getElem?_cons_succ, List.getElem?_cons_zero]; rfl)
                case hk38 =>
                intro K hK
                have q5 := KN.out.cell
                have z5 := KN.out.frozen
                have KPF := hide (blk_set5 KN.out (u0 := .slice (some ⟨h0, 0, none⟩) (makeM R q a).cells.length e0) (u1 := .slice (some ⟨h1, 0, none⟩) (makeM R q a).hand0.length e1) (u2 := .slice (some ⟨h2, 0, none⟩) (makeM R q a).hand1.length e2) (u3 := .int .i64 (makeM R q a).turn) (u4 := .int .i64 (makeM R q a).quiet))
                have HPF := hide (PosI.far5 (u0 := .slice (some ⟨h0, 0, none⟩) (makeM R q a).cells.length e0) (u1 := .slice (some ⟨h1, 0, none⟩) (makeM R q a).hand0.length e1) (u2 := .slice (some ⟨h2, 0, none⟩) (makeM R q a).hand1.length e2) (u3 := .int .i64 (makeM R q a).turn) (u4 := .int .i64 (makeM R q a).quiet) HP9.out KN.out)
                replace yy := (ext_set (ext_set (ext_set (ext_set (ext_set yy (p := ⟨BN, 0, none⟩) HNB.out (.slice (some ⟨h0, 0, none⟩) (makeM R q a).cells.length e0)) (p := ⟨BN, 1, none⟩) HNB.out (.slice (some ⟨h1, 0, none⟩) (makeM R q a).hand0.length e1)) (p := ⟨BN, 2, none⟩) HNB.out (.slice (some ⟨h2, 0, none⟩) (makeM R q a).hand1.length e2)) (p := ⟨BN, 3, none⟩) HNB.out (.int .i64 (makeM R q a).turn)) (p := ⟨BN, 4, none⟩) HNB.out (.int .i64 (makeM R q a).quiet))
                go_simp
                clear q5 z5
                have hT3 := keepK.out _ yy
                refine hK.out _ _ hT3 (fun _ => trivial) ?_
                clear hK K
                try simp only [Act.put, List.setIfInBounds_toArray, List.set_cons_zero, List.set_cons_succ]
                refine anyK_take 14 (oi := ?oo39) ?ho39 (by kernel_rfl) (by kernel_rfl) (by kernel_rfl) (by kernel_rfl) ?hq39 ?hw39 hT3 (fun _ => trivial) (v := ?vv39) ?hy39 ?hk39
                case ho39 => (simp only [List.getElem?_toArray, List.getElem?_cons_succ, List.getElem?_cons_zero]; rfl)
                case hq39 => exact fun _ _ _ h => h
                case hw39 => rfl
                case hy39 =>
                  intro W hW
                  go_simp
                  first | done | with_reducible rfl
                case hk39 =>
                try simp only [Act.put, List.setIfInBounds_toArray, List.set_cons_zero, List.set_cons_succ]
                refine anyK_done (by kernel_rfl) ?_ _
                clear keepK hT0 hT1 hT2 hT3
                have KS := KPF
                have HS9 := HPF
                have X9 := hide (ext_trans X8.out yy)
                have X79 := hide (ext_trans X78.out yy)
                have KR9 := hide (KR8.out.ext yy)
                clear yy xx HMA3 KM KQ8 HQ8 X8 X78 KR8 HP9 HCT KPF HPF KN HNB
                generalize (((((we9.setCell ⟨BN, 0, none⟩ (.slice (some ⟨h0, 0, none⟩) (makeM R q a).cells.length e0)).setCell ⟨BN, 1, none⟩ (.slice (some ⟨h1, 0, none⟩) (makeM R q a).hand0.length e1)).setCell ⟨BN, 2, none⟩ (.slice (some ⟨h2, 0, none⟩) (makeM R q a).hand1.length e2)).setCell ⟨BN, 3, none⟩ (.int .i64 (makeM R q a).turn)).setCell ⟨BN, 4, none⟩ (.int .i64 (makeM R q a).quiet)) = w9 at *
                generalize BN = BS at *
                have f1 := KR9.out.cell
                have f2 := KS.out.cell
                go_wp2_with fail
                refine (HRA3.out _ _ X9.out HS9.out.at_).mono ?_
                rintro e w10 ⟨rfl, x10⟩
                have X10 := hide (ext_trans X9.out x10)
                have X710 := hide (ext_trans X79.out x10)
                have KR10 := hide (KR9.out.ext x10)
                have KS10 := hide (KS.out.ext x10)
                have HS10 := hide (HS9.out.ext x10)
                clear f1 f2 x10 HRA3 X9 X79 KR9 KS HS9
                have hmo0 := hmo.out
                have hnn := HNN.out
                generalize makeM R q a = s at *
                generalize resultM R s = rs at *
                by_cases htm : zt = -1
                · subst htm
                  by_cases hown : rs = 1 + P.turn
                  · have t1 : (rs != 1 + P.turn) = false := by simpa using hown
                    have HT3 := hide (hT'.out.trans (HST.out.1 rfl hown))
                    have hmax : ∀ W ats ty, (Builtin.max_ ats ty #[.int .i64 most, .int .i64 2]).run Try.prog W = .ok (.int .i64 (max most 2)) W := fun W ats ty => run_maxG W ats ty most 2
                    clear HST hT' hown
                    go_wp2
                    go_roundw
                    case rel => exact ⟨j + 1, max most 2, by omega, by go_num, by first | rfl | (simp only [Value.int.injEq, true_and]; omega), hide (by have := hmo.out; omega), hide HT3.out, X710.out⟩
                    case measure => simp [intOf]; omega
                  · have t1 : (rs != 1 + P.turn) = true := by simpa using hown
                    have HT3 := hide (hT'.out.trans (HST.out.2.1 rfl hown))
                    clear HST hT' hown
                    go_wp2
                    go_ret2
                    exact ⟨0, false, rfl, by rw [HT3.out]; exact rfl, ext_trans X10.out (Below.refl _ _)⟩
                · have t1 : (zt == -1) = false := by simpa using htm
                  obtain ⟨ht0, ht1⟩ := hTF.resolve_left htm
                  obtain ⟨tn, htn⟩ := Int.eq_ofNat_of_zero_le (show 0 ≤ zt by omega)
                  have htn' : zt = (tn : Int) := htn
                  subst htn'
                  have HIH2 := hide (HIH.out tn s _ _ w10 (by omega) (by omega) HSA3.out (HRR.out.ext X10.out) HS10.out.at_ (HC.out.ext X10.out))
                  have HT4 := hide (HST.out.2.2 htm)
                  rw [Int.toNat_natCast] at HT4
                  clear HST htm hTF htn
                  unfold ProvPost at HIH2
                  have f1 := KR10.out.cell
                  have f2 := KS10.out.cell
                  go_wp2_with fail
                  refine HIH2.out.mono ?_
                  rintro e w11 ⟨m, ok, rfl, hmok, x11⟩
                  have X11 := hide (ext_trans X10.out x11)
                  have X711 := hide (ext_trans X710.out x11)
                  clear f1 f2 x11 HIH2
                  cases hv : provesM R L n tn s with
                  | none =>
                    rw [hv] at hmok HT4
                    replace hmok : ok = false := hmok
                    subst hmok
                    have HT3 := hide (hT'.out.trans HT4.out)
                    clear hv HT4 hT'
                    go_wp2
                    go_ret2
                    exact ⟨0, false, rfl, by rw [HT3.out]; exact rfl, X11.out⟩
                  | some mm =>
                    rw [hv] at hmok HT4
                    replace hmok : m = mm ∧ ok = true ∧ 0 ≤ mm ∧ mm ≤ 2 * (n : Int) := hmok
                    obtain ⟨rfl, rfl, mm0, mm1⟩ := hmok
                    have HT3 := hide (hT'.out.trans HT4.out)
                    have hmax : ∀ W ats ty, (Builtin.max_ ats ty #[.int .i64 most, .int .i64 (m + 2)]).run Try.prog W = .ok (.int .i64 (max most (m + 2))) W := fun W ats ty => run_maxG W ats ty most (m + 2)
                    have hwm : wrap64 (m + 2) = m + 2 := by unfold wrap64; omega
                    clear hv HT4 hT'
                    go_wp2
                    go_roundw
                    case rel => exact ⟨j + 1, max most (m + 2), by omega, by go_num, by first | rfl | (simp only [Value.int.injEq, true_and]; omega), hide (by have := hmo.out; omega), hide HT3.out, X711.out⟩
                    case measure => simp [intOf]; omega
                
            · obtain rfl : j = AL.length := by omega
              have HT3 := hide (hT'.out.trans (foldV_end (by rw [List.drop_length])))
              go_wp2
              go_ret2
              exact ⟨most, true, rfl, by rw [HT3.out]; exact ⟨rfl, rfl, hmo.out.1, by have := hmo.out.2; omega⟩, XR.out⟩
        · have tl : ((AL.length : Int) != (nd.rs.length : Int)) = true := by simp; omega
          have HPV4 := hide (HPV3.out.1 hlen)
          go_wp2
          go_ret2
          exact ⟨0, false, rfl, by rw [HPV4.out]; exact rfl, X7.out⟩
      · have HPV3 := hide (HPV2.out.1 hr)
        have tr : (resultM R q != 0) = true := by simpa using hr
        generalize resultM R q = rq at *
        clear HPV2 hr
        have f3 := X6.out.cell N3.out
        by_cases ho : rq = 1 + P.turn
        · by_cases hz : nd.rs = []
          · have tq : (rq == 1 + P.turn) = true := by simpa using ho
            have tz : ((nd.rs.length : Int) == 0) = true := by rw [hz]; rfl
            have HT := hide (HPV3.out.trans (if_pos ⟨ho, hz⟩))
            clear ho hz HPV3
            go_wp2_with (go_quiet (fail))
            go_ret2
            exact ⟨1, true, rfl, by rw [HT.out]; exact ⟨rfl, rfl, by omega, by omega⟩, ext_drewN X6.out _⟩
          · have tq : (rq == 1 + P.turn) = true := by simpa using ho
            have tz : ((nd.rs.length : Int) == 0) = false := beq_eq_false_iff_ne.2 (by cases h : nd.rs with | nil => exact absurd h hz | cons x l => simp; omega)
            have HT := hide (HPV3.out.trans (if_neg (fun h => hz h.2)))
            clear ho hz HPV3
            go_wp2_with (go_quiet (fail))
            go_ret2
            exact ⟨1, false, rfl, by rw [HT.out]; exact rfl, ext_drewN X6.out _⟩
        · by_cases hz : nd.rs = []
          · have tq : (rq == 1 + P.turn) = false := by simpa using ho
            have tz : ((nd.rs.length : Int) == 0) = true := by rw [hz]; rfl
            have HT := hide (HPV3.out.trans (if_neg (fun h => ho h.1)))
            clear ho hz HPV3
            go_wp2_with (go_quiet (fail))
            go_ret2
            exact ⟨1, false, rfl, by rw [HT.out]; exact rfl, ext_drewN X6.out _⟩
          · have tq : (rq == 1 + P.turn) = false := by simpa using ho
            have tz : ((nd.rs.length : Int) == 0) = false := beq_eq_false_iff_ne.2 (by cases h : nd.rs with | nil => exact absurd h hz | cons x l => simp; omega)
            have HT := hide (HPV3.out.trans (if_neg (fun h => ho h.1)))
            clear ho hz HPV3
            go_wp2_with (go_quiet (fail))
            go_ret2
            exact ⟨1, false, rfl, by rw [HT.out]; exact rfl, ext_drewN X6.out _⟩
      
    · skip
      refine anyK_one 8 (o := ?oo41) ?ho41 ?hk41
      case ho41 => (simp only [List.getElem?_toArray, List.getElem?_cons_succ, List.getElem?_cons_zero]; rfl)
      case hk41 =>
      intro K hK
      go_simp
      have hnb0 : wy.heap.size ≤ wy.heap.size := (yy : Ext wy wy.drew).size
      have HNB0 := hide hnb0
      clear hnb0
      have KN : Hid (Blk (wy.drew.alloc (.cells #[.slice none 0 0, .slice none 0 0, .slice none 0 0, .int .i64 0, .int .i64 0] 29)) wy.heap.size 29 #[.slice none 0 0, .slice none 0 0, .slice none 0 0, .int .i64 0, .int .i64 0]) := hide (Blk.new wy.drew 29 #[.slice none 0 0, .slice none 0 0, .slice none 0 0, .int .i64 0, .int .i64 0])
      try (replace HP9 := hide (HP9.out.ext (ext_alloc (Below.refl _ _) (.cells #[.slice none 0 0, .slice none 0 0, .slice none 0 0, .int .i64 0, .int .i64 0] 29))))
      generalize hBN : wy.heap.size = BN at *
      have HNB : Hid (wy.heap.size ≤ BN) := hide (by have h : wy.heap.size ≤ wy.heap.size := (yy : Ext wy wy.drew).size; omega)
      clear hBN HNB0
      replace yy := ext_alloc yy (.cells #[.slice none 0 0, .slice none 0 0, .slice none 0 0, .int .i64 0, .int .i64 0] 29)
      have hT1 := keepK.out _ yy
      refine hK.out _ _ hT1 (fun _ => trivial) ?_
      clear hK K
      try simp only [Act.put, List.setIfInBounds_toArray, List.set_cons_zero, List.set_cons_succ]
      refine anyK_on1 7 (by kernel_rfl) ?_
      refine anyK_one 7 (o := ?oo42) ?ho42 ?hk42
      case ho42 => (simp only [List.getElem?_toArray, List.getElem?_cons_succ, List.getElem?_cons_zero]; rfl)
      case hk42 =>
      intro K hK
      go_simp
      refine (HMK2.out _ (ext_trans X2.out yy)).mono ?_
      rintro e we ⟨v9, rfl, own9, xx⟩
      try go_wp2_with fail
      replace yy := ext_trans yy xx
      have HP9 := hide own9.toI
      have hp9 := own9.toI
      obtain ⟨g0, d0, g1, d1, g2, d2, rfl, -⟩ := hp9
      clear own9
      try (replace KN := hide (KN.out.ext xx))
      have hT2 := keepK.out _ yy
      refine hK.out _ _ hT2 (fun _ => trivial) ?_
      clear hK K
      try simp only [Act.put, List.setIfInBounds_toArray, List.set_cons_zero, List.set_cons_succ]
      refine anyK_on1 9 (by kernel_rfl) ?_
      refine anyK_one 9 (o := ?oo43) ?ho43 ?hk43
      case ho43 => (simp only [List.getElem?_toArray, List.getElem?_cons_succ, List.getElem?_cons_zero]; rfl)
      case hk43 =>
      intro K hK
      have q5 := KN.out.cell
      have z5 := KN.out.frozen
      have KPF := hide (blk_set5 KN.out (u0 := .slice (some ⟨g0, 0, none⟩) (makeM R P nd.m).cells.length d0) (u1 := .slice (some ⟨g1, 0, none⟩) (makeM R P nd.m).hand0.length d1) (u2 := .slice (some ⟨g2, 0, none⟩) (makeM R P nd.m).hand1.length d2) (u3 := .int .i64 (makeM R P nd.m).turn) (u4 := .int .i64 (makeM R P nd.m).quiet))
      have HPF := hide (PosI.far5 (u0 := .slice (some ⟨g0, 0, none⟩) (makeM R P nd.m).cells.length d0) (u1 := .slice (some ⟨g1, 0, none⟩) (makeM R P nd.m).hand0.length d1) (u2 := .slice (some ⟨g2, 0, none⟩) (makeM R P nd.m).hand1.length d2) (u3 := .int .i64 (makeM R P nd.m).turn) (u4 := .int .i64 (makeM R P nd.m).quiet) HP9.out KN.out)
      replace yy := (ext_set (ext_set (ext_set (ext_set (ext_set yy (p := ⟨BN, 0, none⟩) HNB.out (.slice (some ⟨g0, 0, none⟩) (makeM R P nd.m).cells.length d0)) (p := ⟨BN, 1, none⟩) HNB.out (.slice (some ⟨g1, 0, none⟩) (makeM R P nd.m).hand0.length d1)) (p := ⟨BN, 2, none⟩) HNB.out (.slice (some ⟨g2, 0, none⟩) (makeM R P nd.m).hand1.length d2)) (p := ⟨BN, 3, none⟩) HNB.out (.int .i64 (makeM R P nd.m).turn)) (p := ⟨BN, 4, none⟩) HNB.out (.int .i64 (makeM R P nd.m).quiet))
      go_simp
      clear q5 z5
      have hT3 := keepK.out _ yy
      refine hK.out _ _ hT3 (fun _ => trivial) ?_
      clear hK K
      try simp only [Act.put, List.setIfInBounds_toArray, List.set_cons_zero, List.set_cons_succ]
      refine anyK_done (by kernel_rfl) ?_ _
      clear keepK hT0 hT1 hT2 hT3
      have KQ := KPF
      have HQ5 := HPF
      have X5 := hide (ext_trans X2.out yy)
      have KR5 := hide (KR2.out.ext yy)
      clear yy xx HMK2 X2 KR2 KP2 HP9 KPF HPF KN HNB
      generalize (((((we.setCell ⟨BN, 0, none⟩ (.slice (some ⟨g0, 0, none⟩) (makeM R P nd.m).cells.length d0)).setCell ⟨BN, 1, none⟩ (.slice (some ⟨g1, 0, none⟩) (makeM R P nd.m).hand0.length d1)).setCell ⟨BN, 2, none⟩ (.slice (some ⟨g2, 0, none⟩) (makeM R P nd.m).hand1.length d2)).setCell ⟨BN, 3, none⟩ (.int .i64 (makeM R P nd.m).turn)).setCell ⟨BN, 4, none⟩ (.int .i64 (makeM R P nd.m).quiet)) = w5 at *
      generalize BN = BQ at *
      generalize makeM R P nd.m = q at *
      have f1 := KR5.out.cell
      have f2 := KQ.out.cell
      go_wp2_with fail
      refine (HRQ2.out _ _ X5.out HQ5.out.at_).mono ?_
      rintro e w6 ⟨rfl, x6⟩
      have X6 := hide (ext_trans X5.out x6)
      have KR6 := hide (KR5.out.ext x6)
      have KQ6 := hide (KQ.out.ext x6)
      have HQ6 := hide (HQ5.out.ext x6)
      clear f1 f2 x6 HRQ2 X5 KR5 KQ HQ5
      by_cases hr : resultM R q = 0
      · have HPV3 := hide (HPV2.out.2 hr)
        rw [hr]
        clear HPV2 hr
        have f1 := KR6.out.cell
        have f2 := KQ6.out.cell
        go_wp2_with fail
        refine (HLQ2.out _ _ X6.out HQ6.out.at_).mono ?_
        rintro e w7 ⟨vl, rfl, hl, x7⟩
        have HLA := hide hl.at_
        obtain ⟨lA, lc, rfl, -⟩ := hl
        have X7 := hide (ext_trans X6.out x7)
        have KR7 := hide (KR6.out.ext x7)
        have KQ7 := hide (KQ6.out.ext x7)
        have HQ7 := hide (HQ6.out.ext x7)
        clear f1 f2 x7 HLQ2 X6 KR6 KQ6 HQ6
        have f3 := X7.out.cell N3.out
        generalize listM R q = AL at *
        by_cases hlen : AL.length = nd.rs.length
        · have tl : ((AL.length : Int) != (nd.rs.length : Int)) = false := by simp; omega
          have HPV4 := hide (HPV3.out.2 hlen)
          have HLEN := hide hlen
          clear HPV3 hlen
          go_wp2
          clear tl f3
          have hal := HLL2.out
          go_loopw [14, 74] (fun mo i wr => ∃ (j : Nat) (most : Int), j ≤ AL.length ∧ i = .int .i64 j ∧ mo = .int .i64 most ∧ Hid (0 ≤ most ∧ most ≤ 2 * (n + 1)) ∧ Hid (T = foldV R (provesM R L n) q (1 + P.turn) most (AL.drop j) (nd.rs.drop j)) ∧ Ext w7 wr) (fun _ i _ => AL.length - (intOf i).toNat)
          case atStart => exact ⟨0, 0, Nat.zero_le _, rfl, rfl, hide (by omega), HPV4, Below.refl _ _⟩
          case round =>
            obtain ⟨j, most, hj, rfl, rfl, hmo, hT', hx⟩ := hrel
            have XR := hide (ext_trans X7.out hx)
            have HLR := hide (HLA.out.ext hx)
            have KRR := hide (KR7.out.ext hx)
            have KQR := hide (KQ7.out.ext hx)
            have HQR := hide (HQ7.out.ext hx)
            have X7R := hide hx
            clear hx
            by_cases hlt : j < AL.length
            · obtain ⟨a, ha⟩ : ∃ a, AL[j]? = some a := ⟨AL[j], List.getElem?_eq_getElem _⟩
              have hjr : j < nd.rs.length := by have := HLEN.out; omega
              have hto : nd.rs[j]? = some nd.rs[j] := List.getElem?_eq_getElem hjr
              have hgt : nd.rs.getD j 0 = nd.rs[j] := by rw [List.getD_eq_getElem?_getD, hto]; rfl
              obtain ⟨bT, oT, rfl, hcT⟩ := (HI.out.ext XR.out) j hjr
              rw [hgt] at hcT
              have hmem : nd.rs[j] ∈ nd.rs := List.getElem_mem hjr
              have hTF := HF.out _ hmem
              have HST := hide (foldV_step (R := R) (g := provesM R L n) (q := q) (own := 1 + P.turn) (most := most) ha hto)
              generalize nd.rs[j] = zt at *
              have hmemA := List.mem_of_getElem? ha
              have HMA3 := hide (HMA2.out a hmemA)
              have HSA3 := hide (HSA2.out a hmemA)
              have HRA3 := hide (HRA2.out a hmemA)
              obtain ⟨lA', lc', e', hc'⟩ := HLR.out
              simp only [Value.slice.injEq, true_and] at e'
              obtain ⟨rfl, rfl⟩ := e'
              obtain ⟨b', o', rfl, m0, m1, m2⟩ := moves_get hc' ha
              have j0 : (0 : Int) ≤ (j : Int) := by omega
              have j1 : (j : Int) < (AL.length : Int) := by omega
              have j2 : (j : Int) < (nd.rs.length : Int) := by have := HLEN.out; omega
              clear ha hto hgt hmem hmemA hc' hjr
              go_upto_region 15 with fail
              obtain ⟨x5, k5⟩ := blks1 wr #[.int .i64 a.src, .int .i64 a.dst, .int .i64 a.piece] 37
              have KM := hide k5
              have X8 := hide (ext_trans XR.out x5)
              have X78 := hide (ext_trans X7R.out x5)
              have KR8 := hide (KRR.out.ext x5)
              have KQ8 := hide (KQR.out.ext x5)
              have HQ8 := hide (HQR.out.ext x5)
              have HCT := hide (x5.cell hcT)
              clear x5 k5 m0 m1 m2 XR X7R KRR KQR HQR hcT HLR
              generalize wr.alloc (.cells #[.int .i64 a.src, .int .i64 a.dst, .int .i64 a.piece] 37) = w8 at *
              generalize wr.heap.size = BM at *
              have keepK := hide (fun W (h : Ext w8 W) => (show (fun W => W.cell? ⟨BR, 0, none⟩ = some (.string R.name) ∧ W.cell? ⟨BR, 1, none⟩ = some (.int .i64 R.width) ∧ W.cell? ⟨BR, 2, none⟩ = some (.int .i64 R.height) ∧ W.cell? ⟨BR, 3, none⟩ = some (.slice pA R.pieces.length pc) ∧ W.cell? ⟨BR, 4, none⟩ = some (.slice sA R.start.length sc) ∧ W.cell? ⟨BR, 5, none⟩ = some (.bool R.falls) ∧ W.cell? ⟨BR, 6, none⟩ = some (.bool R.keeps) ∧ W.cell? ⟨BR, 7, none⟩ = some (.slice eA R.ends.length ec) ∧ W.cell? ⟨BR, 8, none⟩ = some (.int .i64 R.blocked) ∧ W.cell? ⟨BR, 9, none⟩ = some (.int .i64 R.quiet) ∧ W.cell? ⟨BR, 10, none⟩ = some (.int .i64 R.rept) ∧ W.cell? ⟨BQ, 0, none⟩ = some (.slice (some ⟨g0, 0, none⟩) q.cells.length d0) ∧ W.cell? ⟨BQ, 1, none⟩ = some (.slice (some ⟨g1, 0, none⟩) q.hand0.length d1) ∧ W.cell? ⟨BQ, 2, none⟩ = some (.slice (some ⟨g2, 0, none⟩) q.hand1.length d2) ∧ W.cell? ⟨BQ, 3, none⟩ = some (.int .i64 q.turn) ∧ W.cell? ⟨BQ, 4, none⟩ = some (.int .i64 q.quiet) ∧ W.cell? ⟨BM, 0, none⟩ = some (.int .i64 a.src) ∧ W.cell? ⟨BM, 1, none⟩ = some (.int .i64 a.dst) ∧ W.cell? ⟨BM, 2, none⟩ = some (.int .i64 a.piece) ∧ W.cell? ⟨bN, oN + k * 4 + 3, none⟩ = some (.slice (some ⟨bT, oT, none⟩) nd.rs.length cB) ∧ W.cell? ⟨bT, oT + j, none⟩ = some (.int .i64 zt) ∧ Ext w8 W) W from ⟨(KR8.out.ext h).cell 0, (KR8.out.ext h).cell 1, (KR8.out.ext h).cell 2, (KR8.out.ext h).cell 3, (KR8.out.ext h).cell 4, (KR8.out.ext h).cell 5, (KR8.out.ext h).cell 6, (KR8.out.ext h).cell 7, (KR8.out.ext h).cell 8, (KR8.out.ext h).cell 9, (KR8.out.ext h).cell 10, (KQ8.out.ext h).cell 0, (KQ8.out.ext h).cell 1, (KQ8.out.ext h).cell 2, (KQ8.out.ext h).cell 3, (KQ8.out.ext h).cell 4, (KM.out.ext h).cell 0, (KM.out.ext h).cell 1, (KM.out.ext h).cell 2, (ext_trans X8.out h).cell N3.out, h.cell HCT.out, h⟩))
              have yy : Ext w8 w8.drew := Below.drew (Below.refl _ _)
              refine region_K (fun W => W.cell? ⟨BR, 0, none⟩ = some (.string R.name) ∧ W.cell? ⟨BR, 1, none⟩ = some (.int .i64 R.width) ∧ W.cell? ⟨BR, 2, none⟩ = some (.int .i64 R.height) ∧ W.cell? ⟨BR, 3, none⟩ = some (.slice pA R.pieces.length pc) ∧ W.cell? ⟨BR, 4, none⟩ = some (.slice sA R.start.length sc) ∧ W.cell? ⟨BR, 5, none⟩ = some (.bool R.falls) ∧ W.cell? ⟨BR, 6, none⟩ = some (.bool R.keeps) ∧ W.cell? ⟨BR, 7, none⟩ = some (.slice eA R.ends.length ec) ∧ W.cell? ⟨BR, 8, none⟩ = some (.int .i64 R.blocked) ∧ W.cell? ⟨BR, 9, none⟩ = some (.int .i64 R.quiet) ∧ W.cell? ⟨BR, 10, none⟩ = some (.int .i64 R.rept) ∧ W.cell? ⟨BQ, 0, none⟩ = some (.slice (some ⟨g0, 0, none⟩) q.cells.length d0) ∧ W.cell? ⟨BQ, 1, none⟩ = some (.slice (some ⟨g1, 0, none⟩) q.hand0.length d1) ∧ W.cell? ⟨BQ, 2, none⟩ = some (.slice (some ⟨g2, 0, none⟩) q.hand1.length d2) ∧ W.cell? ⟨BQ, 3, none⟩ = some (.int .i64 q.turn) ∧ W.cell? ⟨BQ, 4, none⟩ = some (.int .i64 q.quiet) ∧ W.cell? ⟨BM, 0, none⟩ = some (.int .i64 a.src) ∧ W.cell? ⟨BM, 1, none⟩ = some (.int .i64 a.dst) ∧ W.cell? ⟨BM, 2, none⟩ = some (.int .i64 a.piece) ∧ W.cell? ⟨bN, oN + k * 4 + 3, none⟩ = some (.slice (some ⟨bT, oT, none⟩) nd.rs.length cB) ∧ W.cell? ⟨bT, oT + j, none⟩ = some (.int .i64 zt) ∧ Ext w8 W) (fun _ => True) [] (by kernel_rfl) ?_
              have hT0 := keepK.out _ yy
              refine anyK_take 0 (oi := ?oo44) ?ho44 (by kernel_rfl) (by kernel_rfl) (by kernel_rfl) (by kernel_rfl) ?hq44 ?hw44 hT0 (fun _ => trivial) (v := ?vv44) ?hy44 ?hk44
              case ho44 => (simp only [List.getElem?_toArray, List.getElem?_cons_succ, List.getElem?_cons_zero]; rfl)
              case hq44 => exact fun _ _ _ h => h
              case hw44 => rfl
              case hy44 =>
                intro W hW
                obtain ⟨z0, z1, z2, z3, z4, z5, z6, z7, z8, z9, z10, z11, z12, z13, z14, z15, z16, z17, z18, z19, z20, z21⟩ := hW
                go_simp
                first | done | with_reducible rfl
              case hk44 =>
              try simp only [Act.put, List.setIfInBounds_toArray, List.set_cons_zero, List.set_cons_succ]
              refine anyK_take 1 (oi := ?oo45) ?ho45 (by kernel_rfl) (by kernel_rfl) (by kernel_rfl) (by kernel_rfl) ?hq45 ?hw45 hT0 (fun _ => trivial) (v := ?vv45) ?hy45 ?hk45
              case ho45 => (simp only [List.getElem?_toArray, List.getElem?_cons_succ, List.getElem?_cons_zero]; rfl)
              case hq45 => exact fun _ _ _ h => h
              case hw45 => rfl
              case hy45 =>
                intro W hW
                obtain ⟨z0, z1, z2, z3, z4, z5, z6, z7, z8, z9, z10, z11, z12, z13, z14, z15, z16, z17, z18, z19, z20, z21⟩ := hW
                go_simp
                first | done | with_reducible rfl
              case hk45 =>
              try simp only [Act.put, List.setIfInBounds_toArray, List.set_cons_zero, List.set_cons_succ]
              refine anyK_take 2 (oi := ?oo46) ?ho46 (by kernel_rfl) (by kernel_rfl) (by kernel_rfl) (by kernel_rfl) ?hq46 ?hw46 hT0 (fun _ => trivial) (v := ?vv46) ?hy46 ?hk46
              case ho46 => (simp only [List.getElem?_toArray, List.getElem?_cons_succ, List.getElem?_cons_zero]; rfl)
              case hq46 => exact fun _ _ _ h => h
              case hw46 => rfl
              case hy46 =>
                intro W hW
                obtain ⟨z0, z1, z2, z3, z4, z5, z6, z7, z8, z9, z10, z11, z12, z13, z14, z15, z16, z17, z18, z19, z20, z21⟩ := hW
                go_simp
                first | done | with_reducible rfl
              case hk46 =>
              try simp only [Act.put, List.setIfInBounds_toArray, List.set_cons_zero, List.set_cons_succ]
              refine anyK_take 4 (oi := ?oo47) ?ho47 (by kernel_rfl) (by kernel_rfl) (by kernel_rfl) (by kernel_rfl) ?hq47 ?hw47 hT0 (fun _ => trivial) (v := ?vv47) ?hy47 ?hk47
              case ho47 => (simp only [List.getElem?_toArray, List.getElem?_cons_succ, List.getElem?_cons_zero]; rfl)
              case hq47 => exact fun _ _ _ h => h
              case hw47 => rfl
              case hy47 =>
                intro W hW
                go_simp
                first | done | with_reducible rfl
              case hk47 =>
              try simp only [Act.put, List.setIfInBounds_toArray, List.set_cons_zero, List.set_cons_succ]
              refine anyK_take 5 (oi := ?oo48) ?ho48 (by kernel_rfl) (by kernel_rfl) (by kernel_rfl) (by kernel_rfl) ?hq48 ?hw48 hT0 (fun _ => trivial) (v := ?vv48) ?hy48 ?hk48
              case ho48 => (simp only [List.getElem?_toArray, List.getElem?_cons_succ, List.getElem?_cons_zero]; rfl)
              case hq48 => exact fun _ _ _ h => h
              case hw48 => rfl
              case hy48 =>
                intro W hW
                go_simp
                first | done | with_reducible rfl
              case hk48 =>
              try simp only [Act.put, List.setIfInBounds_toArray, List.set_cons_zero, List.set_cons_succ]
              refine anyK_take 6 (oi := ?oo49) ?ho49 (by kernel_rfl) (by kernel_rfl) (by kernel_rfl) (by kernel_rfl) ?hq49 ?hw49 hT0 (fun _ => trivial) (v := ?vv49) ?hy49 ?hk49
              case ho49 => (simp only [List.getElem?_toArray, List.getElem?_cons_succ, List.getElem?_cons_zero]; rfl)
              case hq49 => exact fun _ _ _ h => h
              case hw49 => rfl
              case hy49 =>
                intro W hW
                go_simp
                first | done | with_reducible rfl
              case hk49 =>
              try simp only [Act.put, List.setIfInBounds_toArray, List.set_cons_zero, List.set_cons_succ]
              refine anyK_take 7 (oi := ?oo50) ?ho50 (by kernel_rfl) (by kernel_rfl) (by kernel_rfl) (by kernel_rfl) ?hq50 ?hw50 hT0 (fun _ => trivial) (v := ?vv50) ?hy50 ?hk50
              case ho50 => (simp only [List.getElem?_toArray, List.getElem?_cons_succ, List.getElem?_cons_zero]; rfl)
              case hq50 => exact fun _ _ _ h => h
              case hw50 => rfl
              case hy50 =>
                intro W hW
                go_simp
                first | done | with_reducible rfl
              case hk50 =>
              try simp only [Act.put, List.setIfInBounds_toArray, List.set_cons_zero, List.set_cons_succ]
              refine anyK_take 8 (oi := ?oo51) ?ho51 (by kernel_rfl) (by kernel_rfl) (by kernel_rfl) (by kernel_rfl) ?hq51 ?hw51 hT0 (fun _ => trivial) (v := ?vv51) ?hy51 ?hk51
              case ho51 => (simp only [List.getElem?_toArray, List.getElem?_cons_succ, List.getElem?_cons_zero]; rfl)
              case hq51 => exact fun _ _ _ h => h
              case hw51 => rfl
              case hy51 =>
                intro W hW
                obtain ⟨z0, z1, z2, z3, z4, z5, z6, z7, z8, z9, z10, z11, z12, z13, z14, z15, z16, z17, z18, z19, z20, z21⟩ := hW
                go_simp
                first | done | with_reducible rfl
              case hk51 =>
              try simp only [Act.put, List.setIfInBounds_toArray, List.set_cons_zero, List.set_cons_succ]
              refine anyK_take 9 (oi := ?oo52) ?ho52 (by kernel_rfl) (by kernel_rfl) (by kernel_rfl) (by kernel_rfl) ?hq52 ?hw52 hT0 (fun _ => trivial) (v := ?vv52) ?hy52 ?hk52
              case ho52 => (simp only [List.getElem?_toArray, List.getElem?_cons_succ, List.getElem?_cons_zero]; rfl)
              case hq52 => exact fun _ _ _ h => h
              case hw52 => rfl
              case hy52 =>
                intro W hW
                go_simp
                first | done | with_reducible rfl
              case hk52 =>
              try simp only [Act.put, List.setIfInBounds_toArray, List.set_cons_zero, List.set_cons_succ]
              refine anyK_take 10 (oi := ?oo53) ?ho53 (by kernel_rfl) (by kernel_rfl) (by kernel_rfl) (by kernel_rfl) ?hq53 ?hw53 hT0 (fun _ => trivial) (v := ?vv53) ?hy53 ?hk53
              case ho53 => (simp only [List.getElem?_toArray, List.getElem?_cons_succ, List.getElem?_cons_zero]; rfl)
              case hq53 => exact fun _ _ _ h => h
              case hw53 => rfl
              case hy53 =>
                intro W hW
                go_simp
                first | done | with_reducible rfl
              case hk53 =>
              try simp only [Act.put, List.setIfInBounds_toArray, List.set_cons_zero, List.set_cons_succ]
              refine anyK_take 11 (oi := ?oo54) ?ho54 (by kernel_rfl) (by kernel_rfl) (by kernel_rfl) (by kernel_rfl) ?hq54 ?hw54 hT0 (fun _ => trivial) (v := ?vv54) ?hy54 ?hk54
              case ho54 => (simp only [List.getElem?_toArray, List.getElem?_cons_succ, List.getElem?_cons_zero]; rfl)
              case hq54 => exact fun _ _ _ h => h
              case hw54 => rfl
              case hy54 =>
                intro W hW
                obtain ⟨z0, z1, z2, z3, z4, z5, z6, z7, z8, z9, z10, z11, z12, z13, z14, z15, z16, z17, z18, z19, z20, z21⟩ := hW
                go_simp
                first | done | with_reducible rfl
              case hk54 =>
              try simp only [Act.put, List.setIfInBounds_toArray, List.set_cons_zero, List.set_cons_succ]
              refine anyK_on2 3 12 (by kernel_rfl) ?_ ?_
              · skip
                refine anyK_one 3 (o := ?oo55) ?ho55 ?hk55
                case ho55 => (simp only [List.getElem?_toArray, List.getElem?_cons_succ, List.getElem?_cons_zero]; rfl)
                case hk55 =>
                intro K hK
                go_simp
                refine (HMA3.out _ _ (ext_trans X8.out yy) (HQ8.out.ext yy).at_).mono ?_
                rintro e we9 ⟨v9, rfl, own9, xx⟩
                try go_wp2_with fail
                replace yy := ext_trans yy xx
                have HP9 := hide own9.toI
                have hp9 := own9.toI
                obtain ⟨h0, e0, h1, e1, h2, e2, rfl, -⟩ := hp9
                clear own9
                try (replace KN := hide (KN.out.ext xx))
                have hT1 := keepK.out _ yy
                refine hK.out _ _ hT1 (fun _ => trivial) ?_
                clear hK K
                try simp only [Act.put, List.setIfInBounds_toArray, List.set_cons_zero, List.set_cons_succ]
                refine anyK_on1 12 (by kernel_rfl) ?_
                refine anyK_one 12 (o := ?oo56) ?ho56 ?hk56
                case ho56 => (simp only [List.getElem?_toArray, List.getElem?_cons_succ, List.getElem?_cons_zero]; rfl)
                case hk56 =>
                intro K hK
                go_simp
                have hnb0 : w8.heap.size ≤ we9.heap.size := (yy : Ext w8 we9).size
                have HNB0 := hide hnb0
                clear hnb0
                have KN : Hid (Blk (we9.alloc (.cells #[.slice none 0 0, .slice none 0 0, .slice none 0 0, .int .i64 0, .int .i64 0] 29)) we9.heap.size 29 #[.slice none 0 0, .slice none 0 0, .slice none 0 0, .int .i64 0, .int .i64 0]) := hide (Blk.new we9 29 #[.slice none 0 0, .slice none 0 0, .slice none 0 0, .int .i64 0, .int .i64 0])
                try (replace HP9 := hide (HP9.out.ext (ext_alloc (Below.refl _ _) (.cells #[.slice none 0 0, .slice none 0 0, .slice none 0 0, .int .i64 0, .int .i64 0] 29))))
                generalize hBN : we9.heap.size = BN at *
                have HNB : Hid (w8.heap.size ≤ BN) := hide (by have h : w8.heap.size ≤ we9.heap.size := (yy : Ext w8 we9).size; omega)
                clear hBN HNB0
                replace yy := ext_alloc yy (.cells #[.slice none 0 0, .slice none 0 0, .slice none 0 0, .int .i64 0, .int .i64 0] 29)
                have hT2 := keepK.out _ yy
                refine hK.out _ _ hT2 (fun _ => trivial) ?_
                clear hK K
                try simp only [Act.put, List.setIfInBounds_toArray, List.set_cons_zero, List.set_cons_succ]
                refine anyK_on1 13 (by kernel_rfl) ?_
                refine anyK_one 13 (o := ?oo57) ?ho57 ?hk57
                case ho57 => (simp only [List.getElem?_toArray, List.getElem?_cons_succ, List.getElem?_cons_zero]; rfl)
                case hk57 =>
                intro K hK
                have q5 := KN.out.cell
                have z5 := KN.out.frozen
                have KPF := hide (blk_set5 KN.out (u0 := .slice (some ⟨h0, 0, none⟩) (makeM R q a).cells.length e0) (u1 := .slice (some ⟨h1, 0, none⟩) (makeM R q a).hand0.length e1) (u2 := .slice (some ⟨h2, 0, none⟩) (makeM R q a).hand1.length e2) (u3 := .int .i64 (makeM R q a).turn) (u4 := .int .i64 (makeM R q a).quiet))
                have HPF := hide (PosI.far5 (u0 := .slice (some ⟨h0, 0, none⟩) (makeM R q a).cells.length e0) (u1 := .slice (some ⟨h1, 0, none⟩) (makeM R q a).hand0.length e1) (u2 := .slice (some ⟨h2, 0, none⟩) (makeM R q a).hand1.length e2) (u3 := .int .i64 (makeM R q a).turn) (u4 := .int .i64 (makeM R q a).quiet) HP9.out KN.out)
                replace yy := (ext_set (ext_set (ext_set (ext_set (ext_set yy (p := ⟨BN, 0, none⟩) HNB.out (.slice (some ⟨h0, 0, none⟩) (makeM R q a).cells.length e0)) (p := ⟨BN, 1, none⟩) HNB.out (.slice (some ⟨h1, 0, none⟩) (makeM R q a).hand0.length e1)) (p := ⟨BN, 2, none⟩) HNB.out (.slice (some ⟨h2, 0, none⟩) (makeM R q a).hand1.length e2)) (p := ⟨BN, 3, none⟩) HNB.out (.int .i64 (makeM R q a).turn)) (p := ⟨BN, 4, none⟩) HNB.out (.int .i64 (makeM R q a).quiet))
                go_simp
                clear q5 z5
                have hT3 := keepK.out _ yy
                refine hK.out _ _ hT3 (fun _ => trivial) ?_
                clear hK K
                try simp only [Act.put, List.setIfInBounds_toArray, List.set_cons_zero, List.set_cons_succ]
                refine anyK_take 14 (oi := ?oo58) ?ho58 (by kernel_rfl) (by kernel_rfl) (by kernel_rfl) (by kernel_rfl) ?hq58 ?hw58 hT3 (fun _ => trivial) (v := ?vv58) ?hy58 ?hk58
                case ho58 => (simp only [List.getElem?_toArray, List.getElem?_cons_succ, List.getElem?_cons_zero]; rfl)
                case hq58 => exact fun _ _ _ h => h
                case hw58 => rfl
                case hy58 =>
                  intro W hW
                  go_simp
                  first | done | with_reducible rfl
                case hk58 =>
                try simp only [Act.put, List.setIfInBounds_toArray, List.set_cons_zero, List.set_cons_succ]
                refine anyK_done (by kernel_rfl) ?_ _
                clear keepK hT0 hT1 hT2 hT3
                have KS := KPF
                have HS9 := HPF
                have X9 := hide (ext_trans X8.out yy)
                have X79 := hide (ext_trans X78.out yy)
                have KR9 := hide (KR8.out.ext yy)
                clear yy xx HMA3 KM KQ8 HQ8 X8 X78 KR8 HP9 HCT KPF HPF KN HNB
                generalize ((((((we9.alloc (.cells #[.slice none 0 0, .slice none 0 0, .slice none 0 0, .int .i64 0, .int .i64 0] 29)).setCell ⟨BN, 0, none⟩ (.slice (some ⟨h0, 0, none⟩) (makeM R q a).cells.length e0)).setCell ⟨BN, 1, none⟩ (.slice (some ⟨h1, 0, none⟩) (makeM R q a).hand0.length e1)).setCell ⟨BN, 2, none⟩ (.slice (some ⟨h2, 0, none⟩) (makeM R q a).hand1.length e2)).setCell ⟨BN, 3, none⟩ (.int .i64 (makeM R q a).turn)).setCell ⟨BN, 4, none⟩ (.int .i64 (makeM R q a).quiet)) = w9 at *
                generalize BN = BS at *
                have f1 := KR9.out.cell
                have f2 := KS.out.cell
                go_wp2_with fail
                refine (HRA3.out _ _ X9.out HS9.out.at_).mono ?_
                rintro e w10 ⟨rfl, x10⟩
                have X10 := hide (ext_trans X9.out x10)
                have X710 := hide (ext_trans X79.out x10)
                have KR10 := hide (KR9.out.ext x10)
                have KS10 := hide (KS.out.ext x10)
                have HS10 := hide (HS9.out.ext x10)
                clear f1 f2 x10 HRA3 X9 X79 KR9 KS HS9
                have hmo0 := hmo.out
                have hnn := HNN.out
                generalize makeM R q a = s at *
                generalize resultM R s = rs at *
                by_cases htm : zt = -1
                · subst htm
                  by_cases hown : rs = 1 + P.turn
                  · have t1 : (rs != 1 + P.turn) = false := by simpa using hown
                    have HT3 := hide (hT'.out.trans (HST.out.1 rfl hown))
                    have hmax : ∀ W ats ty, (Builtin.max_ ats ty #[.int .i64 most, .int .i64 2]).run Try.prog W = .ok (.int .i64 (max most 2)) W := fun W ats ty => run_maxG W ats ty most 2
                    clear HST hT' hown
                    go_wp2
                    go_roundw
                    case rel => exact ⟨j + 1, max most 2, by omega, by go_num, by first | rfl | (simp only [Value.int.injEq, true_and]; omega), hide (by have := hmo.out; omega), hide HT3.out, X710.out⟩
                    case measure => simp [intOf]; omega
                  · have t1 : (rs != 1 + P.turn) = true := by simpa using hown
                    have HT3 := hide (hT'.out.trans (HST.out.2.1 rfl hown))
                    clear HST hT' hown
                    go_wp2
                    go_ret2
                    exact ⟨0, false, rfl, by rw [HT3.out]; exact rfl, ext_trans X10.out (Below.refl _ _)⟩
                · have t1 : (zt == -1) = false := by simpa using htm
                  obtain ⟨ht0, ht1⟩ := hTF.resolve_left htm
                  obtain ⟨tn, htn⟩ := Int.eq_ofNat_of_zero_le (show 0 ≤ zt by omega)
                  have htn' : zt = (tn : Int) := htn
                  subst htn'
                  have HIH2 := hide (HIH.out tn s _ _ w10 (by omega) (by omega) HSA3.out (HRR.out.ext X10.out) HS10.out.at_ (HC.out.ext X10.out))
                  have HT4 := hide (HST.out.2.2 htm)
                  rw [Int.toNat_natCast] at HT4
                  clear HST htm hTF htn
                  unfold ProvPost at HIH2
                  have f1 := KR10.out.cell
                  have f2 := KS10.out.cell
                  go_wp2_with fail
                  refine HIH2.out.mono ?_
                  rintro e w11 ⟨m, ok, rfl, hmok, x11⟩
                  have X11 := hide (ext_trans X10.out x11)
                  have X711 := hide (ext_trans X710.out x11)
                  clear f1 f2 x11 HIH2
                  cases hv : provesM R L n tn s with
                  | none =>
                    rw [hv] at hmok HT4
                    replace hmok : ok = false := hmok
                    subst hmok
                    have HT3 := hide (hT'.out.trans HT4.out)
                    clear hv HT4 hT'
                    go_wp2
                    go_ret2
                    exact ⟨0, false, rfl, by rw [HT3.out]; exact rfl, X11.out⟩
                  | some mm =>
                    rw [hv] at hmok HT4
                    replace hmok : m = mm ∧ ok = true ∧ 0 ≤ mm ∧ mm ≤ 2 * (n : Int) := hmok
                    obtain ⟨rfl, rfl, mm0, mm1⟩ := hmok
                    have HT3 := hide (hT'.out.trans HT4.out)
                    have hmax : ∀ W ats ty, (Builtin.max_ ats ty #[.int .i64 most, .int .i64 (m + 2)]).run Try.prog W = .ok (.int .i64 (max most (m + 2))) W := fun W ats ty => run_maxG W ats ty most (m + 2)
                    have hwm : wrap64 (m + 2) = m + 2 := by unfold wrap64; omega
                    clear hv HT4 hT'
                    go_wp2
                    go_roundw
                    case rel => exact ⟨j + 1, max most (m + 2), by omega, by go_num, by first | rfl | (simp only [Value.int.injEq, true_and]; omega), hide (by have := hmo.out; omega), hide HT3.out, X711.out⟩
                    case measure => simp [intOf]; omega
                
              · skip
                refine anyK_one 12 (o := ?oo59) ?ho59 ?hk59
                case ho59 => (simp only [List.getElem?_toArray, List.getElem?_cons_succ, List.getElem?_cons_zero]; rfl)
                case hk59 =>
                intro K hK
                go_simp
                have hnb0 : w8.heap.size ≤ w8.heap.size := (yy : Ext w8 w8.drew).size
                have HNB0 := hide hnb0
                clear hnb0
                have KN : Hid (Blk (w8.drew.alloc (.cells #[.slice none 0 0, .slice none 0 0, .slice none 0 0, .int .i64 0, .int .i64 0] 29)) w8.heap.size 29 #[.slice none 0 0, .slice none 0 0, .slice none 0 0, .int .i64 0, .int .i64 0]) := hide (Blk.new w8.drew 29 #[.slice none 0 0, .slice none 0 0, .slice none 0 0, .int .i64 0, .int .i64 0])
                try (replace HP9 := hide (HP9.out.ext (ext_alloc (Below.refl _ _) (.cells #[.slice none 0 0, .slice none 0 0, .slice none 0 0, .int .i64 0, .int .i64 0] 29))))
                generalize hBN : w8.heap.size = BN at *
                have HNB : Hid (w8.heap.size ≤ BN) := hide (by have h : w8.heap.size ≤ w8.heap.size := (yy : Ext w8 w8.drew).size; omega)
                clear hBN HNB0
                replace yy := ext_alloc yy (.cells #[.slice none 0 0, .slice none 0 0, .slice none 0 0, .int .i64 0, .int .i64 0] 29)
                have hT1 := keepK.out _ yy
                refine hK.out _ _ hT1 (fun _ => trivial) ?_
                clear hK K
                try simp only [Act.put, List.setIfInBounds_toArray, List.set_cons_zero, List.set_cons_succ]
                refine anyK_on1 3 (by kernel_rfl) ?_
                refine anyK_one 3 (o := ?oo60) ?ho60 ?hk60
                case ho60 => (simp only [List.getElem?_toArray, List.getElem?_cons_succ, List.getElem?_cons_zero]; rfl)
                case hk60 =>
                intro K hK
                go_simp
                refine (HMA3.out _ _ (ext_trans X8.out yy) (HQ8.out.ext yy).at_).mono ?_
                rintro e we9 ⟨v9, rfl, own9, xx⟩
                try go_wp2_with fail
                replace yy := ext_trans yy xx
                have HP9 := hide own9.toI
                have hp9 := own9.toI
                obtain ⟨h0, e0, h1, e1, h2, e2, rfl, -⟩ := hp9
                clear own9
                try (replace KN := hide (KN.out.ext xx))
                have hT2 := keepK.out _ yy
                refine hK.out _ _ hT2 (fun _ => trivial) ?_
                clear hK K
                try simp only [Act.put, List.setIfInBounds_toArray, List.set_cons_zero, List.set_cons_succ]
                refine anyK_on1 13 (by kernel_rfl) ?_
                refine anyK_one 13 (o := ?oo61) ?ho61 ?hk61
                case ho61 => (simp only [List.getElem?_toArray, List.getElem?_cons_succ, List.getElem?_cons_zero]; rfl)
                case hk61 =>
                intro K hK
                have q5 := KN.out.cell
                have z5 := KN.out.frozen
                have KPF := hide (blk_set5 KN.out (u0 := .slice (some ⟨h0, 0, none⟩) (makeM R q a).cells.length e0) (u1 := .slice (some ⟨h1, 0, none⟩) (makeM R q a).hand0.length e1) (u2 := .slice (some ⟨h2, 0, none⟩) (makeM R q a).hand1.length e2) (u3 := .int .i64 (makeM R q a).turn) (u4 := .int .i64 (makeM R q a).quiet))
                have HPF := hide (PosI.far5 (u0 := .slice (some ⟨h0, 0, none⟩) (makeM R q a).cells.length e0) (u1 := .slice (some ⟨h1, 0, none⟩) (makeM R q a).hand0.length e1) (u2 := .slice (some ⟨h2, 0, none⟩) (makeM R q a).hand1.length e2) (u3 := .int .i64 (makeM R q a).turn) (u4 := .int .i64 (makeM R q a).quiet) HP9.out KN.out)
                replace yy := (ext_set (ext_set (ext_set (ext_set (ext_set yy (p := ⟨BN, 0, none⟩) HNB.out (.slice (some ⟨h0, 0, none⟩) (makeM R q a).cells.length e0)) (p := ⟨BN, 1, none⟩) HNB.out (.slice (some ⟨h1, 0, none⟩) (makeM R q a).hand0.length e1)) (p := ⟨BN, 2, none⟩) HNB.out (.slice (some ⟨h2, 0, none⟩) (makeM R q a).hand1.length e2)) (p := ⟨BN, 3, none⟩) HNB.out (.int .i64 (makeM R q a).turn)) (p := ⟨BN, 4, none⟩) HNB.out (.int .i64 (makeM R q a).quiet))
                go_simp
                clear q5 z5
                have hT3 := keepK.out _ yy
                refine hK.out _ _ hT3 (fun _ => trivial) ?_
                clear hK K
                try simp only [Act.put, List.setIfInBounds_toArray, List.set_cons_zero, List.set_cons_succ]
                refine anyK_take 14 (oi := ?oo62) ?ho62 (by kernel_rfl) (by kernel_rfl) (by kernel_rfl) (by kernel_rfl) ?hq62 ?hw62 hT3 (fun _ => trivial) (v := ?vv62) ?hy62 ?hk62
                case ho62 => (simp only [List.getElem?_toArray, List.getElem?_cons_succ, List.getElem?_cons_zero]; rfl)
                case hq62 => exact fun _ _ _ h => h
                case hw62 => rfl
                case hy62 =>
                  intro W hW
                  go_simp
                  first | done | with_reducible rfl
                case hk62 =>
                try simp only [Act.put, List.setIfInBounds_toArray, List.set_cons_zero, List.set_cons_succ]
                refine anyK_done (by kernel_rfl) ?_ _
                clear keepK hT0 hT1 hT2 hT3
                have KS := KPF
                have HS9 := HPF
                have X9 := hide (ext_trans X8.out yy)
                have X79 := hide (ext_trans X78.out yy)
                have KR9 := hide (KR8.out.ext yy)
                clear yy xx HMA3 KM KQ8 HQ8 X8 X78 KR8 HP9 HCT KPF HPF KN HNB
                generalize (((((we9.setCell ⟨BN, 0, none⟩ (.slice (some ⟨h0, 0, none⟩) (makeM R q a).cells.length e0)).setCell ⟨BN, 1, none⟩ (.slice (some ⟨h1, 0, none⟩) (makeM R q a).hand0.length e1)).setCell ⟨BN, 2, none⟩ (.slice (some ⟨h2, 0, none⟩) (makeM R q a).hand1.length e2)).setCell ⟨BN, 3, none⟩ (.int .i64 (makeM R q a).turn)).setCell ⟨BN, 4, none⟩ (.int .i64 (makeM R q a).quiet)) = w9 at *
                generalize BN = BS at *
                have f1 := KR9.out.cell
                have f2 := KS.out.cell
                go_wp2_with fail
                refine (HRA3.out _ _ X9.out HS9.out.at_).mono ?_
                rintro e w10 ⟨rfl, x10⟩
                have X10 := hide (ext_trans X9.out x10)
                have X710 := hide (ext_trans X79.out x10)
                have KR10 := hide (KR9.out.ext x10)
                have KS10 := hide (KS.out.ext x10)
                have HS10 := hide (HS9.out.ext x10)
                clear f1 f2 x10 HRA3 X9 X79 KR9 KS HS9
                have hmo0 := hmo.out
                have hnn := HNN.out
                generalize makeM R q a = s at *
                generalize resultM R s = rs at *
                by_cases htm : zt = -1
                · subst htm
                  by_cases hown : rs = 1 + P.turn
                  · have t1 : (rs != 1 + P.turn) = false := by simpa using hown
                    have HT3 := hide (hT'.out.trans (HST.out.1 rfl hown))
                    have hmax : ∀ W ats ty, (Builtin.max_ ats ty #[.int .i64 most, .int .i64 2]).run Try.prog W = .ok (.int .i64 (max most 2)) W := fun W ats ty => run_maxG W ats ty most 2
                    clear HST hT' hown
                    go_wp2
                    go_roundw
                    case rel => exact ⟨j + 1, max most 2, by omega, by go_num, by first | rfl | (simp only [Value.int.injEq, true_and]; omega), hide (by have := hmo.out; omega), hide HT3.out, X710.out⟩
                    case measure => simp [intOf]; omega
                  · have t1 : (rs != 1 + P.turn) = true := by simpa using hown
                    have HT3 := hide (hT'.out.trans (HST.out.2.1 rfl hown))
                    clear HST hT' hown
                    go_wp2
                    go_ret2
                    exact ⟨0, false, rfl, by rw [HT3.out]; exact rfl, ext_trans X10.out (Below.refl _ _)⟩
                · have t1 : (zt == -1) = false := by simpa using htm
                  obtain ⟨ht0, ht1⟩ := hTF.resolve_left htm
                  obtain ⟨tn, htn⟩ := Int.eq_ofNat_of_zero_le (show 0 ≤ zt by omega)
                  have htn' : zt = (tn : Int) := htn
                  subst htn'
                  have HIH2 := hide (HIH.out tn s _ _ w10 (by omega) (by omega) HSA3.out (HRR.out.ext X10.out) HS10.out.at_ (HC.out.ext X10.out))
                  have HT4 := hide (HST.out.2.2 htm)
                  rw [Int.toNat_natCast] at HT4
                  clear HST htm hTF htn
                  unfold ProvPost at HIH2
                  have f1 := KR10.out.cell
                  have f2 := KS10.out.cell
                  go_wp2_with fail
                  refine HIH2.out.mono ?_
                  rintro e w11 ⟨m, ok, rfl, hmok, x11⟩
                  have X11 := hide (ext_trans X10.out x11)
                  have X711 := hide (ext_trans X710.out x11)
                  clear f1 f2 x11 HIH2
                  cases hv : provesM R L n tn s with
                  | none =>
                    rw [hv] at hmok HT4
                    replace hmok : ok = false := hmok
                    subst hmok
                    have HT3 := hide (hT'.out.trans HT4.out)
                    clear hv HT4 hT'
                    go_wp2
                    go_ret2
                    exact ⟨0, false, rfl, by rw [HT3.out]; exact rfl, X11.out⟩
                  | some mm =>
                    rw [hv] at hmok HT4
                    replace hmok : m = mm ∧ ok = true ∧ 0 ≤ mm ∧ mm ≤ 2 * (n : Int) := hmok
                    obtain ⟨rfl, rfl, mm0, mm1⟩ := hmok
                    have HT3 := hide (hT'.out.trans HT4.out)
                    have hmax : ∀ W ats ty, (Builtin.max_ ats ty #[.int .i64 most, .int .i64 (m + 2)]).run Try.prog W = .ok (.int .i64 (max most (m + 2))) W := fun W ats ty => run_maxG W ats ty most (m + 2)
                    have hwm : wrap64 (m + 2) = m + 2 := by unfold wrap64; omega
                    clear hv HT4 hT'
                    go_wp2
                    go_roundw
                    case rel => exact ⟨j + 1, max most (m + 2), by omega, by go_num, by first | rfl | (simp only [Value.int.injEq, true_and]; omega), hide (by have := hmo.out; omega), hide HT3.out, X711.out⟩
                    case measure => simp [intOf]; omega
                
            · obtain rfl : j = AL.length := by omega
              have HT3 := hide (hT'.out.trans (foldV_end (by rw [List.drop_length])))
              go_wp2
              go_ret2
              exact ⟨most, true, rfl, by rw [HT3.out]; exact ⟨rfl, rfl, hmo.out.1, by have := hmo.out.2; omega⟩, XR.out⟩
        · have tl : ((AL.length : Int) != (nd.rs.length : Int)) = true := by simp; omega
          have HPV4 := hide (HPV3.out.1 hlen)
          go_wp2
          go_ret2
          exact ⟨0, false, rfl, by rw [HPV4.out]; exact rfl, X7.out⟩
      · have HPV3 := hide (HPV2.out.1 hr)
        have tr : (resultM R q != 0) = true := by simpa using hr
        generalize resultM R q = rq at *
        clear HPV2 hr
        have f3 := X6.out.cell N3.out
        by_cases ho : rq = 1 + P.turn
        · by_cases hz : nd.rs = []
          · have tq : (rq == 1 + P.turn) = true := by simpa using ho
            have tz : ((nd.rs.length : Int) == 0) = true := by rw [hz]; rfl
            have HT := hide (HPV3.out.trans (if_pos ⟨ho, hz⟩))
            clear ho hz HPV3
            go_wp2_with (go_quiet (fail))
            go_ret2
            exact ⟨1, true, rfl, by rw [HT.out]; exact ⟨rfl, rfl, by omega, by omega⟩, ext_drewN X6.out _⟩
          · have tq : (rq == 1 + P.turn) = true := by simpa using ho
            have tz : ((nd.rs.length : Int) == 0) = false := beq_eq_false_iff_ne.2 (by cases h : nd.rs with | nil => exact absurd h hz | cons x l => simp; omega)
            have HT := hide (HPV3.out.trans (if_neg (fun h => hz h.2)))
            clear ho hz HPV3
            go_wp2_with (go_quiet (fail))
            go_ret2
            exact ⟨1, false, rfl, by rw [HT.out]; exact rfl, ext_drewN X6.out _⟩
        · by_cases hz : nd.rs = []
          · have tq : (rq == 1 + P.turn) = false := by simpa using ho
            have tz : ((nd.rs.length : Int) == 0) = true := by rw [hz]; rfl
            have HT := hide (HPV3.out.trans (if_neg (fun h => ho h.1)))
            clear ho hz HPV3
            go_wp2_with (go_quiet (fail))
            go_ret2
            exact ⟨1, false, rfl, by rw [HT.out]; exact rfl, ext_drewN X6.out _⟩
          · have tq : (rq == 1 + P.turn) = false := by simpa using ho
            have tz : ((nd.rs.length : Int) == 0) = false := beq_eq_false_iff_ne.2 (by cases h : nd.rs with | nil => exact absurd h hz | cons x l => simp; omega)
            have HT := hide (HPV3.out.trans (if_neg (fun h => ho h.1)))
            clear ho hz HPV3
            go_wp2_with (go_quiet (fail))
            go_ret2
            exact ⟨1, false, rfl, by rw [HT.out]; exact rfl, ext_drewN X6.out _⟩
      
  · rw [decide_eq_false hm]
    have HPV2 := hide (HPV.out.2 hm)
    go_wp2
    go_ret2
    exact ⟨0, false, rfl, by rw [HPV2.out]; exact rfl, X2.out⟩

/-- The form of a certificate: what a node names stands behind it. -/
def FormM (L : List CNode) : Prop := ∀ (k : Nat) (nd : CNode), L[k]? = some nd → ∀ zt ∈ nd.rs, zt = -1 ∨ ((k : Int) < zt ∧ zt < L.length)
theorem proves_any {R : RulesM} {L : List CNode} {A : Option Addr} {c : Nat} (hV : Valid R) (hL : L.length ≤ 5000) (hF : FormM L) : ∀ (n k : Nat) (P : PosM) (v u : Value) (w : World), L.length ≤ n + k → n ≤ 5001 → k < L.length → Sound R P → RulesAt w v R → PosAt w u P → CertAt w A L →
    Calls Try.prog 36 #[v, u, .slice A L.length c, .int .i64 (k : Int)] w (ProvPost w n (provesM R L n k P))
  | 0, k, P, v, u, w, h, _, hk, _, _, _, _ => absurd hk (by omega)
  | n + 1, k, P, v, u, w, h, hn, hk, hS, hR, hP, hC => proves_step hV (by omega) hk hL hS hR hP hC (fun zt ht => by
      refine hF k (L.getD k default) ?_ zt ht
      rw [List.getD_eq_getElem?_getD, List.getElem?_eq_getElem hk]
      rfl) (fun j Q v u W hkj hj hS hR hP hC => proves_any hV hL hF n j Q v u W (by omega) (by omega) hj hS hR hP hC)
end Go.Proofs.Ytnaggpibfmednaa
namespace Go.Proofs.Ytnaggpibfmednaa
open Go.ChangeShapes Go.WideShapes Go.ChangeAt Go.RowKit Go.Shelf
set_option linter.unusedVariables false
set_option linter.unusedSimpArgs false
/-- All replies of a certificate. -/
def flatM (L : List CNode) : List Int := L.flatMap (fun n => n.rs)
/-- How often each number is named. -/
def cntL (n : Nat) (F : List Int) : List Int := (List.range n).map (fun (x : Nat) => ((F.count (x : Int) : Nat) : Int))
theorem cntL_len (n : Nat) (F : List Int) : (cntL n F).length = n := by simp [cntL]
theorem cntL_get {n : Nat} {F : List Int} {x : Nat} (h : x < n) : (cntL n F).getD x 0 = ((F.count (x : Int) : Nat) : Int) := by
  simp [cntL, h]
theorem cntL_none {n : Nat} {F : List Int} {k : Int} (h : k < 0) : cntL n (F ++ [k]) = cntL n F := by
  unfold cntL
  refine List.map_congr_left (fun x _ => ?_)
  rw [List.count_append, List.count_singleton, beq_eq_false_iff_ne.2 (by omega)]
  simp
theorem cntL_some {n : Nat} {F : List Int} {k : Nat} (h : k < n) : cntL n (F ++ [(k : Int)]) = (cntL n F).set k (((F.count (k : Int) : Nat) : Int) + 1) := by
  refine List.ext_getElem (by simp [cntL]) (fun x h1 h2 => ?_)
  have hx : x < n := by simpa [cntL] using h1
  rw [List.getElem_set]
  simp only [cntL, List.getElem_map, List.getElem_range]
  rw [List.count_append, List.count_singleton]
  by_cases e : k = x
  · subst e; simp
  · rw [if_neg e, beq_eq_false_iff_ne.2 (by omega)]; simp
/-- The replies of the first i nodes. -/
theorem flat_step {L : List CNode} {i : Nat} {nd : CNode} (h : L[i]? = some nd) : flatM (L.take (i + 1)) = flatM (L.take i) ++ nd.rs := by
  unfold flatM
  rw [List.take_add_one, h, List.flatMap_append]
  simp
theorem flat_pre (L : List CNode) (nd : CNode) (k : Nat) (h : L[k]? = some nd) : (flatM (L.take k)).length + nd.rs.length ≤ (flatM L).length := by
  have h1 := congrArg List.length (flat_step h)
  rw [List.length_append] at h1
  have h2 : flatM L = flatM (L.take (k + 1)) ++ flatM (L.drop (k + 1)) := by
    unfold flatM
    rw [← List.flatMap_append, List.take_append_drop]
  rw [h2, List.length_append]
  omega
theorem flat_part (L : List CNode) (nd : CNode) (k : Nat) (h : L[k]? = some nd) : nd.rs.length ≤ (flatM L).length := by
  have := flat_pre L nd k h
  omega
theorem take_step {rs : List Int} {j : Nat} {k : Int} (h : rs[j]? = some k) : rs.take (j + 1) = rs.take j ++ [k] := by
  rw [List.take_add_one, h]; rfl
/-- What cert.form tells. -/
def FormAll (L : List CNode) : Prop := FormM L ∧ ∀ x : Nat, 1 ≤ x → x < L.length → (flatM L).count (x : Int) = 1
def FormPost (w : World) (L : List CNode) (e : Ending) (w' : World) : Prop := ∃ b : Bool, e = .returned (.bool b) ∧ (b = true ↔ FormAll L) ∧ Ext w w'
def FormTo (L : List CNode) (k : Nat) : Prop := ∀ (i : Nat) (nd : CNode), i < k → L[i]? = some nd → ∀ zt ∈ nd.rs, zt = -1 ∨ ((i : Int) < zt ∧ zt < L.length)
theorem form1_any (z : Int) (w : World) : Calls Try.prog 65 #[.int .i64 z] w fun e w' => e = .returned (.bool (z != 1)) ∧ Ext w w' := by
  go_enter Try.func65, Try.ntmps65
  go_wp2
  go_ret
  exact ⟨rfl, Below.refl _ _⟩
theorem idxInts_none (cl : FuncId) (p : Int → Bool) (A : Option Addr) (n c : Nat) (zs : List Int) (w : World) (hn : zs.length = n) (hm : n ≤ 9223372036854775807) (hz : IntsAt w A zs)
    (eg : ∀ args W, (callFunc cl args).run Try.prog W = .ok (.enter cl args) W) (hcl : ∀ z W, Ext w W → Calls Try.prog cl #[.int .i64 z] W fun e w' => e = .returned (.bool (p z)) ∧ Ext W w') :
    Calls Try.prog 87 #[.slice A n c, .func (.func cl) #[] #[]] w (SomeIdx (zs.any p) w) := by
  have HN := hide hn
  have HC := hide hcl
  clear hn hcl
  go_enter Try.func87, Try.ntmps87
  go_wp2
  go_loopw [5, 8] (fun _ i wr => ∃ k : Nat, k ≤ n ∧ i = .int .i64 k ∧ Hid (∀ j, j < k → p (zs.getD j 0) = false) ∧ Ext w wr) (fun _ i _ => n - (intOf i).toNat)
  case atStart => exact ⟨0, Nat.zero_le _, rfl, hide (fun j hj => by omega), Below.refl _ _⟩
  case round =>
    obtain ⟨k, hk, rfl, hall, hext⟩ := hrel
    by_cases hlt : k < n
    · have hkl : k < zs.length := by rw [HN.out]; exact hlt
      obtain ⟨b, o, rfl, hc⟩ := hz.ext hext k hkl
      clear hz
      have HM : Hid (zs.getD k 0 ∈ zs) := hide (by
        have : zs.getD k 0 = zs[k] := by simp [hkl]
        rw [this]; exact List.getElem_mem _)
      have HCALL := hide (HC.out (zs.getD k 0) wr hext)
      have HSTEP : Hid (p (zs.getD k 0) = false → ∀ j, j < k + 1 → p (zs.getD j 0) = false) := hide (fun h j hj => by
        by_cases e : j = k
        · subst e; exact h
        · exact hall.out j (by omega))
      clear hall HC
      generalize zs.getD k 0 = z at *
      generalize hpz : p z = pz at *
      have HPZ := hide hpz
      clear hpz
      go_wp2_with fail
      refine HCALL.out.mono ?_
      rintro e w1 ⟨rfl, y1⟩
      cases pz
      · go_wp2
        go_roundw
        case rel => exact ⟨k + 1, by omega, by go_num, hide (HSTEP.out (by simp)), ext_trans hext y1⟩
        case measure => simp [intOf]; omega
      · go_wp2
        go_ret
        exact ⟨k, by
          have : zs.any p = true := List.any_eq_true.2 ⟨z, HM.out, HPZ.out⟩
          rw [this]; simp, rfl, ext_trans hext y1⟩
    · obtain rfl : k = n := by omega
      have HB : Hid (zs.any p = false) := hide (by
        rw [List.any_eq_false]
        intro q hq
        obtain ⟨j, hj, rfl⟩ := List.mem_iff_getElem.1 hq
        have := hall.out j (by rw [HN.out] at hj; exact hj)
        simpa [hj] using this)
      clear hall hz HC
      go_wp2
      go_ret
      exact ⟨-1, by rw [HB.out]; simp, rfl, hext⟩
theorem hasInts_none (cl : FuncId) (p : Int → Bool) (A : Option Addr) (n c : Nat) (zs : List Int) (w : World) (hn : zs.length = n) (hm : n ≤ 9223372036854775807) (hz : IntsAt w A zs)
    (eg : ∀ args W, (callFunc cl args).run Try.prog W = .ok (.enter cl args) W) (hcl : ∀ z W, Ext w W → Calls Try.prog cl #[.int .i64 z] W fun e w' => e = .returned (.bool (p z)) ∧ Ext W w') :
    Calls Try.prog 64 #[.slice A n c, .func (.func cl) #[] #[]] w fun e w' => e = .returned (.bool (zs.any p)) ∧ Ext w w' := by
  have HI := hide (idxInts_none cl p A n c zs w hn hm hz eg hcl)
  clear hn hz hcl eg
  generalize zs.any p = b at *
  go_enter Try.func64, Try.ntmps64
  go_wp2_with fail
  refine HI.out.mono ?_
  rintro e w1 ⟨r, hr, rfl, x1⟩
  have HR := hide hr
  clear hr
  go_wp2
  go_ret
  exact ⟨by rw [← HR.out]; rfl, x1⟩
theorem formEnters (args : Array Value) (W : World) : (callFunc 65 args).run Try.prog W = .ok (.enter 65 args) W := by kernel_rfl
theorem makeInts (n : Nat) (hn : n ≤ 5000) (w : World) : (Instr.makeSlice 23 (.int .i64 (n : Int)) (.int .i64 (n : Int))).run Try.prog w = .ok (.slice (some ⟨w.heap.size, 0, none⟩) n n) (w.alloc (.cells (madeCells #[.int .i64 0] n) 3)) := by
  obtain ⟨i, hi, hz, hs, hb⟩ : ∃ i, Try.prog.info? 3 = some i ∧ i.zero = some (.int .i64 0) ∧ i.size = 1 ∧ i.bytes = 8 := by
    have h := intInfo
    cases hi : Try.prog.info? 3 with
    | none => rw [hi] at h; cases h
    | some i =>
      rw [hi] at h
      simp only [Option.map_some, Option.some.injEq, Prod.mk.injEq] at h
      exact ⟨i, rfl, h.1, h.2.1, h.2.2⟩
  have hr := run_make (P := Try.prog) w 23 3 i (.int .i64 0) (by kernel_rfl) hi hz .i64 .i64 (n : Int) (n : Int) (by omega) (by omega) (by rw [hb]; omega) (by omega)
  simp only [Int.toNat_natCast, hs, Nat.mul_one] at hr
  exact hr
theorem made_irow (n : Nat) (w : World) : IRow (w.alloc (.cells (madeCells #[.int .i64 0] n) 3)) w.heap.size (cntL n []) := by
  refine ⟨_, Blk.new w 3 (madeCells #[.int .i64 0] n), ?_⟩
  rw [cntL_len]
  refine List.ext_getElem? (fun i => ?_)
  simp [madeCells, cntL]
  by_cases h : i < n
  · simp [h, Nat.mod_one]
  · simp [h]
set_option maxHeartbeats 8000000 in
set_option maxRecDepth 100000 in
theorem form_any {L : List CNode} {A : Option Addr} {c : Nat} {w : World} (h0 : 0 < L.length) (hL : L.length ≤ 5000) (hB : (flatM L).length ≤ 2 ^ 60) (hC : CertAt w A L) :
    Calls Try.prog 35 #[.slice A L.length c] w (FormPost w L) := by
  have HC := hide hC
  have HB := hide hB
  have HL := hide (And.intro h0 hL)
  have hmk := makeInts L.length hL
  have hM := hide (made_irow L.length w)
  clear hC hB h0
  go_enter Try.func35, Try.ntmps35
  have HGE : Hid (w.heap.size ≤ w.heap.size) := hide (Nat.le_refl _)
  go_wp2
  clear hmk
  have X0 := hide (ext_alloc (Below.refl _ w) (.cells (madeCells #[.int .i64 0] L.length) 3))
  generalize hw0 : w.alloc (.cells (madeCells #[.int .i64 0] L.length) 3) = w0 at *
  clear hw0
  generalize hG : w.heap.size = G at hM ⊢
  have HG : Hid (w.heap.size ≤ G) := hide (by omega)
  clear hG HGE
  go_loopw [13] (fun i wr => ∃ k : Nat, k ≤ L.length ∧ i = .int .i64 k ∧ Hid (FormTo L k) ∧ Hid (IRow wr G (cntL L.length (flatM (L.take k)))) ∧ Ext w wr) (fun i _ => L.length - (intOf i).toNat)
  case atStart => exact ⟨0, Nat.zero_le _, rfl, hide (fun i nd h => by omega), hM, X0.out⟩
  case round =>
    obtain ⟨k, hk, rfl, hF, hrow, hx⟩ := hrel
    have XR := hide hx
    clear hx
    by_cases hlt : k < L.length
    · obtain ⟨nd, hnd⟩ : ∃ nd, L[k]? = some nd := ⟨L[k], List.getElem?_eq_getElem hlt⟩
      obtain ⟨b, o, B, cB, rfl, n0, n1, n2, n3, hI⟩ := HC.out k nd hnd
      have hnl := flat_part L nd k hnd
      have HNL := hide (Nat.le_trans hnl HB.out)
      replace n0 := XR.out.cell n0
      replace n1 := XR.out.cell n1
      replace n2 := XR.out.cell n2
      replace n3 := XR.out.cell n3
      have HND := hide hnd
      have i0 : (0 : Int) ≤ (k : Int) := by omega
      have i1 : (k : Int) < (L.length : Int) := by omega
      have hfl := flat_step hnd
      have HII := hide hI
      clear hnd hI hnl
      go_upto_region 5 with fail
      obtain ⟨x5, k5⟩ := blks1 wr #[.int .i64 nd.m.src, .int .i64 nd.m.dst, .int .i64 nd.m.piece, .slice B nd.rs.length cB] 135
      have X5 := hide (ext_trans XR.out x5)
      have hrow5 := hide (hrow.out.ext x5)
      have HI5 := HII
      have f5 := k5.cell
      clear x5 n0 n1 n2 n3 hrow XR k5 HII
      generalize wr.alloc (.cells #[.int .i64 nd.m.src, .int .i64 nd.m.dst, .int .i64 nd.m.piece, .slice B nd.rs.length cB] 135) = w5 at *
      generalize wr.heap.size = BM at *
      go_wp2
      clear f5
      go_loopw [21] (fun i wq => ∃ j : Nat, j ≤ nd.rs.length ∧ i = .int .i64 j ∧ Hid (∀ zt ∈ nd.rs.take j, zt = -1 ∨ ((k : Int) < zt ∧ zt < L.length)) ∧ Hid (IRow wq G (cntL L.length (flatM (L.take k) ++ nd.rs.take j))) ∧ Ext w wq) (fun i _ => nd.rs.length - (intOf i).toNat)
      case atStart => exact ⟨0, Nat.zero_le _, rfl, hide (fun zt h => by simp at h), hide (by rw [List.take_zero, List.append_nil]; exact hrow5.out), X5.out⟩
      case round =>
        obtain ⟨j, hj, rfl, hF2, hrow2, hx2⟩ := hrel
        have XQ := hide hx2
        clear hx2
        by_cases hlt2 : j < nd.rs.length
        · have hnl := HNL.out
          have hto : nd.rs[j]? = some nd.rs[j] := List.getElem?_eq_getElem hlt2
          have hgt : nd.rs.getD j 0 = nd.rs[j] := by rw [List.getD_eq_getElem?_getD, hto]; rfl
          obtain ⟨bT, oT, rfl, hcT⟩ := (HI5.out.ext XQ.out) j hlt2
          rw [hgt] at hcT
          have hmem : nd.rs[j] ∈ nd.rs := List.getElem_mem hlt2
          have htk := take_step hto
          generalize nd.rs[j] = zt at *
          have HTK := hide htk
          have HME := hide hmem
          have j0 : (0 : Int) ≤ (j : Int) := by omega
          have j1 : (j : Int) < (nd.rs.length : Int) := by omega
          clear hto hgt htk hmem
          by_cases htm : zt = -1
          · subst htm
            go_wp2
            go_roundw
            case rel => exact ⟨j + 1, by omega, by go_num, hide (fun x hx => by
                rw [HTK.out] at hx
                rcases List.mem_append.1 hx with h | h
                · exact hF2.out x h
                · exact .inl (List.mem_singleton.1 h)), hide (by rw [HTK.out, ← List.append_assoc, cntL_none (by omega)]; exact hrow2.out), XQ.out⟩
            case measure => simp [intOf]; omega
          · have t1 : (zt == -1) = false := by simpa using htm
            by_cases hle : zt ≤ (k : Int)
            · have t2 : decide (zt ≤ (k : Int)) = true := by simpa using hle
              go_wp2
              go_ret
              refine ⟨false, rfl, ⟨fun h => (by cases h), fun h => ?_⟩, XQ.out⟩
              have := h.1 k nd HND.out zt HME.out
              omega
            · have t2 : decide (zt ≤ (k : Int)) = false := by simpa using hle
              by_cases hge : (L.length : Int) ≤ zt
              · have t3 : decide (zt ≥ (L.length : Int)) = true := by simpa using hge
                go_wp2
                go_ret
                refine ⟨false, rfl, ⟨fun h => (by cases h), fun h => ?_⟩, XQ.out⟩
                have := h.1 k nd HND.out zt HME.out
                omega
              · have t3 : decide (zt ≥ (L.length : Int)) = false := by simpa using hge
                obtain ⟨tn, htn⟩ := Int.eq_ofNat_of_zero_le (show 0 ≤ zt by omega)
                have htn' : zt = (tn : Int) := htn
                subst htn'
                have hr := hrow2.out.cell (i := tn) (by rw [cntL_len]; omega)
                have hfz := hrow2.out.frozen tn
                rw [cntL_get (by omega)] at hr
                have hcb : (flatM (L.take k) ++ nd.rs.take j).count (tn : Int) ≤ 2 ^ 60 := by
                  refine Nat.le_trans List.count_le_length (Nat.le_trans ?_ HB.out)
                  have h1 := flat_pre L nd k HND.out
                  rw [List.length_append, List.length_take]
                  omega
                have hset := cntL_some (n := L.length) (F := flatM (L.take k) ++ nd.rs.take j) (k := tn) (by omega)
                have HSET := hide (hset ▸ hrow2.out.set_ tn (((flatM (L.take k) ++ nd.rs.take j).count (tn : Int) : Nat) + 1))
                rw [List.append_assoc, ← HTK.out] at HSET
                generalize (flatM (L.take k) ++ nd.rs.take j).count (tn : Int) = q at *
                have hw : wrap64 ((q : Int) + 1) = (q : Int) + 1 := by unfold wrap64; omega
                have t0 : (0 : Int) ≤ (tn : Int) := by omega
                have t4 : (tn : Int) < (L.length : Int) := by omega
                clear hset
                go_wp2
                go_roundw
                case rel => exact ⟨j + 1, by omega, by go_num, hide (fun x hx => by
                    rw [HTK.out] at hx
                    rcases List.mem_append.1 hx with h | h
                    · exact hF2.out x h
                    · have := List.mem_singleton.1 h; omega), HSET, ext_set XQ.out (p := ⟨G, tn, none⟩) HG.out _⟩
                case measure => simp [intOf]; omega
        · obtain rfl : j = nd.rs.length := by omega
          have h1 := hF2.out
          have h2 := hrow2.out
          rw [List.take_length] at h1 h2
          rw [← hfl] at h2
          go_wp2
          go_roundw
          case rel => exact ⟨k + 1, by omega, by go_num, hide (fun i nd' hi hnd' => by
              by_cases e : i = k
              · subst e
                rw [HND.out] at hnd'
                obtain rfl := Option.some.inj hnd'
                exact h1
              · exact hF.out i nd' (by omega) hnd'), hide h2, XQ.out⟩
          case measure => simp [intOf]; omega
    · obtain rfl : k = L.length := by omega
      have s1 : (1 : Int) ≤ (L.length : Int) := by have := HL.out.1; omega
      have h2 := hrow.out
      have h1 := hF.out
      rw [List.take_length] at h2
      have hcn := h2.ints
      have hfm : FormM L := fun i nd h => h1 i nd (List.getElem?_eq_some_iff.1 h).1 h
      have HL2 := HL.out
      obtain ⟨HZL, HQ0, HQ1, HEND⟩ : Hid (((cntL L.length (flatM L)).drop 1).length = L.length - 1) ∧ Hid (L.length = 1 → ∀ A, IntsAt wr A ((cntL L.length (flatM L)).drop 1)) ∧ Hid (IntsAt wr (some ⟨G, 1, none⟩) ((cntL L.length (flatM L)).drop 1)) ∧ Hid (((cntL L.length (flatM L)).drop 1).any (fun z => z != 1) = false ↔ FormAll L) := by
        refine ⟨hide (by rw [List.length_drop, cntL_len]), hide (fun e A i hi => ?_), hide (fun i hi => ?_), hide ?_⟩
        · rw [List.length_drop, cntL_len] at hi; omega
        · rw [List.length_drop, cntL_len] at hi
          obtain ⟨b, o, e1, e2⟩ := hcn (1 + i) (by rw [cntL_len]; omega)
          cases e1
          refine ⟨_, _, rfl, ?_⟩
          rw [Nat.zero_add] at e2
          rw [e2]
          simp
          rw [Nat.add_comm 1 i]
        · rw [List.any_eq_false]
          refine ⟨fun h => ⟨hfm, fun x h1 h2 => ?_⟩, fun h z hz => ?_⟩
          · have h3 := h (((flatM L).count (x : Int) : Nat) : Int) (by
              rw [List.mem_iff_getElem?]
              refine ⟨x - 1, ?_⟩
              rw [List.getElem?_drop, show 1 + (x - 1) = x by omega]
              simp [cntL, h2])
            simp at h3
            omega
          · obtain ⟨i, hi⟩ := List.mem_iff_getElem?.1 hz
            rw [List.getElem?_drop] at hi
            have hi2 := (List.getElem?_eq_some_iff.1 hi).1
            rw [cntL_len] at hi2
            have h4 := h.2 (1 + i) (by omega) hi2
            have hg : (cntL L.length (flatM L))[1 + i]? = some (((flatM L).count ((1 + i : Nat) : Int) : Nat) : Int) := by
              unfold cntL
              rw [List.getElem?_map, List.getElem?_range hi2]
              rfl
            rw [hg] at hi
            obtain rfl := Option.some.inj hi
            rw [h4]
            decide
      generalize (cntL L.length (flatM L)).drop 1 = ZS at *
      clear h1 h2 hrow hF hcn hfm
      go_wp2_with fail
      · refine (hasInts_none 65 (fun z => z != 1) _ _ _ ZS _ (by have := HZL.out; omega) (by omega) (HQ0.out (by omega) _) formEnters (fun z W _ => form1_any z W)).mono ?_
        rintro e w1 ⟨rfl, x1⟩
        go_wp2
        go_ret
        exact ⟨_, rfl, by rw [Bool.not_eq_true']; exact HEND.out, ext_trans XR.out x1⟩
      · refine (hasInts_none 65 (fun z => z != 1) _ _ _ ZS _ (by have := HZL.out; omega) (by omega) HQ1.out formEnters (fun z W _ => form1_any z W)).mono ?_
        rintro e w1 ⟨rfl, x1⟩
        go_wp2
        go_ret
        exact ⟨_, rfl, by rw [Bool.not_eq_true']; exact HEND.out, ext_trans XR.out x1⟩
end Go.Proofs.Ytnaggpibfmednaa
namespace Go.Proofs.Ytnaggpibfmednaa
open Go.ChangeShapes Go.WideShapes Go.ChangeAt Go.RowKit Go.Shelf
set_option linter.unusedVariables false
set_option linter.unusedSimpArgs false
/-- What cert.Check answers, for a position that is valid. -/
def CheckR (rr : Int) (F : Prop) (T : Option Int) (n c : Int) : Prop :=
  (rr ≠ 0 → n = 0 ∧ c = 14) ∧ (rr = 0 → ¬ F → n = 0 ∧ c = 3) ∧ (rr = 0 → F → (∀ x, T = some x → n = x ∧ c = 0) ∧ (T = none → n = 0 ∧ c = 16))
def CheckCPost (w : World) (R : RulesM) (P : PosM) (L : List CNode) (e : Ending) (w' : World) : Prop := ∃ n c : Int, e = .returned (.tuple #[.int .i64 n, .int .i64 c]) ∧ Ext w w' ∧ CheckR (resultM R P) (FormAll L) (provesM R L 5001 0 P) n c
set_option maxHeartbeats 4000000 in
set_option maxRecDepth 100000 in
theorem CCheck_any {R : RulesM} {P : PosM} {v u : Value} {L : List CNode} {A : Option Addr} {c : Nat} {w : World} (hR : RulesAt w v R) (hP : PosAt w u P) (hc : checkE R P = 0) (h0 : 0 < L.length) (hL : L.length ≤ 5000) (hB : (flatM L).length ≤ 2 ^ 60) (hC : CertAt w A L) :
    Calls Try.prog 18 #[v, u, .slice A L.length c] w (CheckCPost w R P L) := by
  have hVS := check_iff.1 hc
  have HC := hide (fun W (hW : Ext w W) => PCheck_any R P v u W (hR.ext hW) (hP.ext hW))
  have HRS := hide (fun W (hW : Ext w W) => Result_any R P v u W (hR.ext hW) (hP.ext hW) hVS.1 hVS.2)
  have HF := hide (fun W (hW : Ext w W) => form_any (c := c) h0 hL hB (hC.ext hW))
  have HPV := hide (fun (hf : FormAll L) W (hW : Ext w W) => proves_any (c := c) hVS.1 hL hf.1 5001 0 P v u W (by omega) (by omega) h0 hVS.2 (hR.ext hW) (hP.ext hW) (hC.ext hW))
  rw [hc] at HC
  have HL := hide (And.intro h0 hL)
  obtain ⟨pA, pc, sA, sc, eA, ec, rfl, -⟩ := hR
  obtain ⟨cA, cc, aA, ac, bA, bc, rfl, -⟩ := hP
  obtain ⟨x1, k1, k2⟩ := blks2 w #[.string R.name, .int .i64 R.width, .int .i64 R.height, .slice pA R.pieces.length pc, .slice sA R.start.length sc, .bool R.falls, .bool R.keeps, .slice eA R.ends.length ec, .int .i64 R.blocked, .int .i64 R.quiet, .int .i64 R.rept] 26 #[.slice cA P.cells.length cc, .slice aA P.hand0.length ac, .slice bA P.hand1.length bc, .int .i64 P.turn, .int .i64 P.quiet] 29
  have HX := hide x1
  have K1 := hide k1
  have K2 := hide k2
  have f1 := k1.cell
  have f2 := k2.cell
  have t0 : decide ((5000 : Int) < (L.length : Int)) = false := decide_eq_false (by omega)
  have t1 : ((L.length : Int) == 0) = false := beq_eq_false_iff_ne.2 (by omega)
  clear x1 k1 k2 hVS hc h0 hL hB hC
  unfold CheckCPost
  generalize provesM R L 5001 0 P = T at *
  generalize resultM R P = rr at *
  go_enter Try.func18, Try.ntmps18
  go_wp2_with fail
  refine (HC.out _ HX.out).mono ?_
  rintro e w2 ⟨rfl, x2⟩
  have X2 := hide (ext_trans HX.out x2)
  have K12 := hide (K1.out.ext x2)
  have K22 := hide (K2.out.ext x2)
  clear f1 f2 x2 HX HC K1 K2
  have f1 := K12.out.cell
  have f2 := K22.out.cell
  go_wp2_with fail
  refine (HRS.out _ X2.out).mono ?_
  rintro e w3 ⟨rfl, x3⟩
  have X3 := hide (ext_trans X2.out x3)
  have K13 := hide (K12.out.ext x3)
  have K23 := hide (K22.out.ext x3)
  clear f1 f2 x3 X2 HRS K12 K22
  by_cases hr : rr = 0
  · subst hr
    go_wp2_with fail
    refine (HF.out _ X3.out).mono ?_
    rintro e w4 ⟨b, rfl, hb, x4⟩
    have X4 := hide (ext_trans X3.out x4)
    have K14 := hide (K13.out.ext x4)
    have K24 := hide (K23.out.ext x4)
    clear x4 X3 HF K13 K23
    have HBB := hide hb
    clear hb
    cases b
    · have hn : ¬ FormAll L := fun h => by have := HBB.out.2 h; cases this
      go_wp2
      go_ret2
      exact ⟨0, 3, rfl, X4.out, fun h => absurd rfl h, fun _ _ => ⟨rfl, rfl⟩, fun _ h => absurd h hn⟩
    · have hf : FormAll L := HBB.out.1 rfl
      have HP2 := hide (HPV.out hf _ X4.out)
      have HFF := hide hf
      have f1 := K14.out.cell
      have f2 := K24.out.cell
      clear HBB HPV hf
      unfold ProvPost at HP2
      go_wp2_with fail
      refine HP2.out.mono ?_
      rintro e w5 ⟨m, ok, rfl, hmok, x5⟩
      have X5 := hide (ext_trans X4.out x5)
      clear f1 f2 x5 X4 HP2
      cases T with
      | none =>
        replace hmok : ok = false := hmok
        subst hmok
        go_wp2
        go_ret2
        exact ⟨0, 16, rfl, X5.out, fun h => absurd rfl h, fun _ h => absurd HFF.out h, fun _ _ => ⟨fun x h => (by cases h), fun _ => ⟨rfl, rfl⟩⟩⟩
      | some x =>
        obtain ⟨rfl, rfl, -, -⟩ : m = x ∧ ok = true ∧ _ ∧ _ := hmok
        go_wp2
        go_ret2
        exact ⟨m, 0, rfl, X5.out, fun h => absurd rfl h, fun _ h => absurd HFF.out h, fun _ _ => ⟨fun x h => ⟨Option.some.inj h, rfl⟩, fun h => (by cases h)⟩⟩
  · have t2 : (rr != 0) = true := by simpa using hr
    go_wp2
    go_ret2
    exact ⟨0, 14, rfl, X3.out, fun _ => ⟨rfl, rfl⟩, fun h => absurd h hr, fun h => absurd h hr⟩
end Go.Proofs.Ytnaggpibfmednaa
namespace Go.Proofs.Ytnaggpibfmednaa
set_option linter.unusedVariables false
/-- What stands below a node of depth d + 1. -/
def subC (R : RulesM) : Nat → Nat → PosM → List CNode
  | 0 => fun _ _ => []
  | d + 1 => certM R d
theorem certM_eq {R : RulesM} {P q : PosM} {d b : Nat} (hq : q = makeM R P (firstM R d P).1) (h : d = 0 → movesM R q = []) :
    certM R (d + 1) b P = ⟨(firstM R d P).1, (foldC R (subC R d) q (b + 1) (movesM R q)).2⟩ :: (foldC R (subC R d) q (b + 1) (movesM R q)).1 := by
  cases d with
  | zero =>
    have e := h rfl
    show (⟨(firstM R 0 P).1, (foldC R (fun _ _ => []) (makeM R P (firstM R 0 P).1) (b + 1) (movesM R (makeM R P (firstM R 0 P).1))).2⟩ :: [] : List CNode) = _
    rw [← hq, e]
    rfl
  | succ d =>
    show (⟨(firstM R (d + 1) P).1, (foldC R (certM R d) (makeM R P (firstM R (d + 1) P).1) (b + 1) (movesM R (makeM R P (firstM R (d + 1) P).1))).2⟩ :: (foldC R (certM R d) (makeM R P (firstM R (d + 1) P).1) (b + 1) (movesM R (makeM R P (firstM R (d + 1) P).1))).1 : List CNode) = _
    rw [← hq]
    rfl
theorem cert_open {R : RulesM} {P : PosM} {d : Nat} (hV : Valid R) (hd : d ≤ 90) (hS : Sound R P) (hr : resultM R P = 0) (ho : 0 < ofM R d P) :
    ∃ d1, d = d1 + 1 ∧ (firstM R d1 P).1 ∈ listM R P ∧ (d1 = 0 → movesM R (makeM R P (firstM R d1 P).1) = []) ∧
      ∀ a ∈ movesM R (makeM R P (firstM R d1 P).1), resultM R (makeM R (makeM R P (firstM R d1 P).1) a) = 0 → ∃ d2, d1 = d2 + 1 ∧ 0 < ofM R d2 (makeM R (makeM R P (firstM R d1 P).1) a) := by
  cases d with
  | zero =>
    have : ofM R 0 P = 0 := if_pos hr
    omega
  | succ d =>
    have hT := hS.turn
    obtain ⟨fm, fs⟩ := first_mem hT hr (d := d) (by omega)
    have hs := first_score hr d
    refine ⟨d, rfl, fm, ?_⟩
    obtain ⟨m, hm⟩ : ∃ m, (firstM R d P).1 = m := ⟨_, rfl⟩
    rw [hm] at fm fs ⊢
    have hSq := sound_make hV hS (mem_listM.1 fm)
    generalize hq : makeM R P m = q at *
    by_cases hqr : resultM R q ≠ 0
    · have hmv : movesM R q = [] := by unfold movesM; rw [if_neg hqr]
      rw [hmv]
      exact ⟨fun _ => rfl, fun a ha => by simp at ha⟩
    · have hq0 : resultM R q = 0 := by omega
      have hmv : movesM R q = listM R q := by unfold movesM; rw [if_pos hq0]
      rw [hmv]
      have hd0 : d ≠ 0 := by
        rintro rfl
        have : ofM R 0 q = 0 := if_pos hq0
        rw [this] at fs
        rw [← hs, fs] at ho
        have : nearM (-0) = 0 := by decide
        omega
      refine ⟨fun h => absurd h hd0, fun a ha hra => ?_⟩
      obtain ⟨d, rfl⟩ : ∃ k, d = k + 1 := ⟨d - 1, by omega⟩
      refine ⟨d, rfl, ?_⟩
      have hoq := of_open hq0 d
      have hge := (bestL_ge (fun m => nearM (-(ofM R d (makeM R q m)))) (listM R q) (⟨0, 0, 0⟩, -2000)).2
      rw [← hoq] at hge
      have hneg : ofM R (d + 1) q < 0 := by
        rw [← hs, fs] at ho
        have h4 := near_ge (x := -(ofM R (d + 1) q))
        by_cases c : ofM R (d + 1) q < 0
        · exact c
        · by_cases c0 : ofM R (d + 1) q = 0
          · have := h4.2.2.2 (by omega); omega
          · have := h4.2.2.1 (by omega); omega
      have h5 : nearM (-(ofM R d (makeM R q a))) ≤ ofM R (d + 1) q := hge a ha
      have h4 := near_ge (x := -(ofM R d (makeM R q a)))
      by_cases c : 0 < ofM R d (makeM R q a)
      · exact c
      · by_cases c0 : ofM R d (makeM R q a) = 0
        · have := h4.2.2.2 (by omega); omega
        · have := h4.2.1 (by omega); omega
theorem foldC_snoc (R : RulesM) (g : Nat → PosM → List CNode) (q : PosM) (a : MoveM) : ∀ (l : List MoveM) (b : Nat),
    foldC R g q b (l ++ [a]) = if resultM R (makeM R q a) ≠ 0 then ((foldC R g q b l).1, (foldC R g q b l).2 ++ [-1])
      else ((foldC R g q b l).1 ++ g (b + (foldC R g q b l).1.length) (makeM R q a), (foldC R g q b l).2 ++ [((b + (foldC R g q b l).1.length : Nat) : Int)])
  | [], b => by
    show foldC R g q b [a] = _
    unfold foldC
    split
    · rfl
    · simp [foldC]
  | x :: l, b => by
    show foldC R g q b (x :: (l ++ [a])) = _
    conv => lhs; unfold foldC
    conv => rhs; unfold foldC
    by_cases hx : resultM R (makeM R q x) ≠ 0
    · rw [if_pos hx, if_pos hx, foldC_snoc R g q a l b]
      split <;> simp
    · rw [if_neg hx, if_neg hx, foldC_snoc R g q a l _]
      split
      · simp
      · simp [Nat.add_assoc]
theorem foldC_mono (R : RulesM) (g : Nat → PosM → List CNode) (q : PosM) : ∀ (l : List MoveM) (k b : Nat), (foldC R g q b (l.take k)).1.length ≤ (foldC R g q b l).1.length
  | [], k, b => by rw [List.take_nil]; exact Nat.le_refl _
  | a :: l, 0, b => Nat.zero_le _
  | a :: l, k + 1, b => by
    rw [List.take_succ_cons]
    unfold foldC
    by_cases hc : resultM R (makeM R q a) ≠ 0
    · rw [if_pos hc, if_pos hc]
      exact foldC_mono R g q l k b
    · rw [if_neg hc, if_neg hc]
      have := foldC_mono R g q l k (b + (g b (makeM R q a)).length)
      simp only [List.length_append]
      omega
structure GoodC (b : Nat) (L : List CNode) : Prop where
  form : ∀ (i : Nat) (nd : CNode), L[i]? = some nd → ∀ zt ∈ nd.rs, zt = -1 ∨ (((b + i : Nat) : Int) < zt ∧ zt < ((b + L.length : Nat) : Int))
  once : ∀ x : Nat, (flatM L).count (x : Int) = if b + 1 ≤ x ∧ x < b + L.length then 1 else 0
  size : ∀ nd ∈ L, nd.rs.length ≤ 1000000
  some_ : 0 < L.length
theorem flat_app (a b : List CNode) : flatM (a ++ b) = flatM a ++ flatM b := by unfold flatM; exact List.flatMap_append
theorem foldC_good {R : RulesM} {g : Nat → PosM → List CNode} {q : PosM} : ∀ (l : List MoveM) (b : Nat), (∀ a ∈ l, resultM R (makeM R q a) = 0 → ∀ c, GoodC c (g c (makeM R q a))) →
    (∀ (i : Nat) (nd : CNode), (foldC R g q b l).1[i]? = some nd → ∀ zt ∈ nd.rs, zt = -1 ∨ (((b + i : Nat) : Int) < zt ∧ zt < ((b + (foldC R g q b l).1.length : Nat) : Int))) ∧
    (∀ zt ∈ (foldC R g q b l).2, zt = -1 ∨ ((b : Int) ≤ zt ∧ zt < ((b + (foldC R g q b l).1.length : Nat) : Int))) ∧
    (∀ x : Nat, ((foldC R g q b l).2 ++ flatM (foldC R g q b l).1).count (x : Int) = if b ≤ x ∧ x < b + (foldC R g q b l).1.length then 1 else 0) ∧
    (∀ nd ∈ (foldC R g q b l).1, nd.rs.length ≤ 1000000)
  | [], b, _ => by
    refine ⟨fun i nd h => by simp [foldC] at h, fun zt h => by simp [foldC] at h, fun x => ?_, fun nd h => by simp [foldC] at h⟩
    have e : ((foldC R g q b []).2 ++ flatM (foldC R g q b []).1).count (x : Int) = 0 := rfl
    have e2 : (foldC R g q b []).1.length = 0 := rfl
    rw [e, e2]
    split <;> omega
  | a :: l, b, h => by
    have hr : ∀ x ∈ l, _ := fun x hx => h x (by simp [hx])
    unfold foldC
    by_cases hc : resultM R (makeM R q a) ≠ 0
    · rw [if_pos hc]
      obtain ⟨h1, h2, h3, h4⟩ := foldC_good l b hr
      refine ⟨h1, fun zt ht => ?_, fun x => ?_, h4⟩
      · rcases List.mem_cons.1 ht with rfl | ht
        · exact .inl rfl
        · exact h2 zt ht
      · show (-1 :: ((foldC R g q b l).2 ++ flatM (foldC R g q b l).1)).count (x : Int) = _
        rw [List.count_cons, h3 x, beq_eq_false_iff_ne.2 (by omega)]
        rfl
    · rw [if_neg hc]
      have hg := h a (by simp) (by omega) b
      generalize g b (makeM R q a) = G at *
      obtain ⟨h1, h2, h3, h4⟩ := foldC_good l (b + G.length) hr
      generalize foldC R g q (b + G.length) l = F at *
      have hp := hg.some_
      refine ⟨fun i nd hi zt ht => ?_, fun zt ht => ?_, fun x => ?_, fun nd hn => ?_⟩
      · show zt = -1 ∨ (_ ∧ zt < ((b + (G ++ F.1).length : Nat) : Int))
        rw [List.length_append]
        by_cases hl : i < G.length
        · have hi' : G[i]? = some nd := by rw [← hi]; exact (List.getElem?_append_left hl).symm
          rcases hg.form i nd hi' zt ht with h | ⟨k1, k2⟩
          · exact .inl h
          · exact .inr ⟨k1, by omega⟩
        · have hi' : F.1[i - G.length]? = some nd := by rw [← hi]; exact (List.getElem?_append_right (by omega)).symm
          rcases h1 (i - G.length) nd hi' zt ht with h | ⟨k1, k2⟩
          · exact .inl h
          · exact .inr ⟨by omega, by omega⟩
      · show zt = -1 ∨ (_ ∧ zt < ((b + (G ++ F.1).length : Nat) : Int))
        rw [List.length_append]
        rcases List.mem_cons.1 ht with rfl | ht
        · exact .inr ⟨by omega, by omega⟩
        · rcases h2 zt ht with h | ⟨k1, k2⟩
          · exact .inl h
          · exact .inr ⟨by omega, by omega⟩
      · show (((b : Int) :: F.2) ++ flatM (G ++ F.1)).count (x : Int) = if b ≤ x ∧ x < b + (G ++ F.1).length then 1 else 0
        have e3 := h3 x
        have e4 := hg.once x
        rw [List.count_append] at e3
        rw [flat_app, List.count_append, List.count_cons, List.count_append, List.length_append, e4]
        generalize List.count (x : Int) F.2 = n1 at *
        generalize List.count (x : Int) (flatM F.1) = n3 at *
        clear h1 h2 h3 h4 e4
        by_cases hx : b = x
        · rw [if_pos (by rw [hx, beq_self_eq_true])]
          split at e3 <;> split <;> split <;> omega
        · rw [if_neg (by rw [beq_eq_false_iff_ne.2 (by omega)]; decide)]
          split at e3 <;> split <;> split <;> omega
      · rcases List.mem_append.1 hn with hn | hn
        · exact hg.size nd hn
        · exact h4 nd hn
theorem cert_good {R : RulesM} (hV : Valid R) : ∀ (d : Nat) (P : PosM) (b : Nat), d ≤ 90 → Sound R P → resultM R P = 0 → 0 < ofM R d P → GoodC b (certM R d b P) := by
  intro d
  induction d using Nat.strongRecOn with
  | ind d ih =>
    intro P b hd hS hr ho
    obtain ⟨d1, rfl, hm, h0, hk⟩ := cert_open hV hd hS hr ho
    have hSq := sound_make hV hS (mem_listM.1 hm)
    rw [certM_eq rfl h0]
    generalize (firstM R d1 P).1 = m at *
    generalize hq : makeM R P m = q at *
    have hml := movesM_len' hV hSq
    have hlen := foldC_len R (subC R d1) q (movesM R q) (b + 1)
    obtain ⟨h1, h2, h3, h4⟩ := foldC_good (R := R) (g := subC R d1) (q := q) (movesM R q) (b + 1) (fun a ha hra c => by
      obtain ⟨d2, rfl, hp⟩ := hk a ha hra
      exact ih d2 (by omega) _ c (by omega) (sound_move hV hSq ha) hra hp)
    generalize foldC R (subC R d1) q (b + 1) (movesM R q) = F at *
    refine ⟨fun i nd hi zt ht => ?_, fun x => ?_, fun nd hn => ?_, by simp⟩
    · rw [List.length_cons]
      cases i with
      | zero =>
        have e : (⟨m, F.2⟩ : CNode) = nd := by simpa using hi
        subst e
        rcases h2 zt ht with h | ⟨k1, k2⟩
        · exact .inl h
        · exact .inr ⟨by omega, by omega⟩
      | succ i =>
        rcases h1 i nd (by simpa using hi) zt ht with h | ⟨k1, k2⟩
        · exact .inl h
        · exact .inr ⟨by omega, by omega⟩
    · have e : flatM (⟨m, F.2⟩ :: F.1) = F.2 ++ flatM F.1 := rfl
      rw [e, h3 x, List.length_cons]
      by_cases c : b + 1 ≤ x ∧ x < b + 1 + F.1.length
      · rw [if_pos c, if_pos (by omega)]
      · rw [if_neg c, if_neg (by omega)]
    · rcases List.mem_cons.1 hn with rfl | hn
      · show F.2.length ≤ _
        omega
      · exact h4 nd hn
theorem good_form {L : List CNode} (h : GoodC 0 L) : FormAll L := by
  refine ⟨fun k nd hk zt ht => ?_, fun x h1 h2 => ?_⟩
  · rcases h.form k nd hk zt ht with h | ⟨h, h'⟩
    · exact .inl h
    · exact .inr ⟨by omega, by omega⟩
  · rw [h.once x, if_pos (by omega)]
theorem flat_len : ∀ (L : List CNode), (∀ nd ∈ L, nd.rs.length ≤ 1000000) → (flatM L).length ≤ L.length * 1000000
  | [], _ => Nat.le_refl _
  | a :: l, h => by
    have := flat_len l (fun x hx => h x (by simp [hx]))
    have := h a (by simp)
    show (a.rs ++ flatM l).length ≤ _
    rw [List.length_append, List.length_cons, Nat.add_mul]
    omega
end Go.Proofs.Ytnaggpibfmednaa
namespace Go.Proofs.Ytnaggpibfmednaa
open Go.ChangeShapes Go.WideShapes Go.ChangeAt Go.RowKit Go.Shelf
set_option linter.unusedVariables false
set_option linter.unusedSimpArgs false
/-- No fewer blocks (behind a name: a heap's size may be called by another letter). -/
def SizeLe (w W : World) : Prop := w.heap.size ≤ W.heap.size
theorem SizeLe.le {a b c : World} (h : SizeLe a b) (k : b.heap.size ≤ c.heap.size) : SizeLe a c := Nat.le_trans h k
/-- The cells of a node: its move and the slice of its replies. -/
def nodeV (x : MoveM × Value) : List Value := [.int .i64 x.1.src, .int .i64 x.1.dst, .int .i64 x.1.piece, x.2]
theorem nodeV_len (ns : List (MoveM × Value)) : (ns.flatMap nodeV).length = ns.length * 4 := by
  induction ns with
  | nil => rfl
  | cons a l ih => rw [List.flatMap_cons, List.length_append, ih, List.length_cons, Nat.add_mul]; simp [nodeV]; omega
def RowC (base : Nat) (W : World) (A : Option Addr) (c : Nat) (ns : List (MoveM × Value)) : Prop := W.ownsRow base 135 4 (.slice A ns.length c) ns.length (ns.flatMap nodeV)
/-- A slice value that owns a row of integers from block b on. -/
def OwnB (b : Nat) (W : World) (v : Value) (zs : List Int) : Prop := ∃ A c, v = .slice A zs.length c ∧ W.ownsRow b 3 1 (.slice A zs.length c) zs.length (zs.map (Value.int .i64))
theorem OwnB.ext {b : Nat} {w W : World} {v : Value} {zs : List Int} (h : OwnB b w v zs) (x : Ext w W) : OwnB b W v zs := by
  obtain ⟨A, c, e, o⟩ := h
  exact ⟨A, c, e, own_ext o x⟩
theorem OwnB.tfr {ts : List TypeId} {b : Nat} {w W : World} {v : Value} {zs : List Int} (h : OwnB b w v zs) (hI : 3 ∉ ts) (f : TFr ts w W) : OwnB b W v zs := by
  obtain ⟨A, c, e, o⟩ := h
  exact ⟨A, c, e, own_tfr o hI f⟩
theorem OwnB.mono {b b' : Nat} {w : World} {v : Value} {zs : List Int} (h : OwnB b w v zs) (hb : b' ≤ b) : OwnB b' w v zs := by
  obtain ⟨A, c, e, o⟩ := h
  exact ⟨A, c, e, own_mono o hb⟩
theorem OwnB.low {b : Nat} {w : World} {v : Value} {zs : List Int} (h : OwnB b w v zs) : ∀ g, v.ownBlock = some g → b ≤ g ∧ g < w.heap.size := by
  obtain ⟨A, c, rfl, o⟩ := h
  exact fun g hg => ⟨own_row o g hg, (o.lt g hg).2⟩
theorem OwnB.ints {b : Nat} {w : World} {v : Value} {zs : List Int} (h : OwnB b w v zs) : ∃ A c, v = .slice A zs.length c ∧ IntsAt w A zs := by
  obtain ⟨A, c, e, o⟩ := h
  exact ⟨A, c, e, cells_ints (own_cells o).1⟩
/-- Another row has grown. -/
theorem own_grown {w W : World} {base : Nat} {e : TypeId} {size n : Nat} {v : Value} {xs : List Value} {row : Option Nat} (h : w.ownsRow base e size v n xs) (g : w.grownBy W row) (hr : ∀ k, v.ownBlock = some k → some k ≠ row) : W.ownsRow base e size v n xs := by
  refine ⟨h.1, ?_⟩
  rcases h.2 with hn | ⟨g', cap, cur, rfl, hb, hg, rest⟩
  · exact .inl hn
  · refine .inr ⟨g', cap, cur, rfl, hb, ?_, rest⟩
    rw [g.block g' (Array.getElem?_eq_some_iff.1 hg).1 (hr g' rfl)]
    exact hg
theorem OwnB.grown {b : Nat} {w W : World} {v : Value} {zs : List Int} {row : Option Nat} (h : OwnB b w v zs) (g : w.grownBy W row) (hr : ∀ k, v.ownBlock = some k → some k ≠ row) : OwnB b W v zs := by
  obtain ⟨A, c, rfl, o⟩ := h
  exact ⟨A, c, rfl, own_grown o g hr⟩
theorem PosOwn.grown {w W : World} {B : Nat} {v : Value} {P : PosM} {row : Option Nat} (h : PosOwn w B v P) (g : w.grownBy W row) (hr : ∀ k, row = some k → k < B) : PosOwn W B v P := by
  obtain ⟨g0, c0, g1, c1, g2, c2, e, h0, h1, h2, r0, r1, r2, m⟩ := h
  have hs : ∀ {q zs}, B ≤ q → IRow w q zs → IRow W q zs := fun hq r => r.same (g.block _ r.lt (fun e => by have := hr _ e.symm; omega))
  exact ⟨g0, c0, g1, c1, g2, c2, e, h0, h1, h2, hs h0 r0, hs (by omega) r1, hs (by omega) r2, m⟩
theorem PosOwn.ext {w W : World} {B : Nat} {v : Value} {P : PosM} (h : PosOwn w B v P) (x : Ext w W) : PosOwn W B v P := by
  obtain ⟨g0, c0, g1, c1, g2, c2, e, h0, h1, h2, r0, r1, r2, m⟩ := h
  exact ⟨g0, c0, g1, c1, g2, c2, e, h0, h1, h2, r0.ext x, r1.ext x, r2.ext x, m⟩
/-- A row of the call's own has grown: what was there at a is as it was. -/
theorem TFr.own {ts : List TypeId} {a b c : World} {row : Option Nat} (h : TFr ts a b) (g : b.grownBy c row) (hr : ∀ k, row = some k → a.heap.size ≤ k) : TFr ts a c := fun q t cs hb ht => (h q t cs hb ht).grown g (fun e => by
  have := hr q e.symm
  have := hb.lt
  omega)
theorem TFr.more {ts us : List TypeId} {w W : World} (h : TFr ts w W) (hs : ∀ t, t ∈ ts → t ∈ us) : TFr us w W := fun g t cs hb ht => h g t cs hb (fun k => ht (hs t k))
/-- The nodes of a certificate that have been laid since block b. -/
def Made (b : Nat) (W : World) (ns : List (MoveM × Value)) (L : List CNode) : Prop := ns.length = L.length ∧ ∀ (i : Nat) (x : MoveM × Value) (y : CNode), ns[i]? = some x → L[i]? = some y → x.1 = y.m ∧ OwnB b W x.2 y.rs
theorem Made.nil (b : Nat) (W : World) : Made b W [] [] := ⟨rfl, fun i x y h => by simp at h⟩
theorem Made.ext {b : Nat} {w W : World} {ns : List (MoveM × Value)} {L : List CNode} (h : Made b w ns L) (x : Ext w W) : Made b W ns L := ⟨h.1, fun i a y h1 h2 => ⟨(h.2 i a y h1 h2).1, (h.2 i a y h1 h2).2.ext x⟩⟩
theorem Made.tfr {ts : List TypeId} {b : Nat} {w W : World} {ns : List (MoveM × Value)} {L : List CNode} (h : Made b w ns L) (hI : 3 ∉ ts) (f : TFr ts w W) : Made b W ns L := ⟨h.1, fun i a y h1 h2 => ⟨(h.2 i a y h1 h2).1, (h.2 i a y h1 h2).2.tfr hI f⟩⟩
theorem Made.mono {b b' : Nat} {w : World} {ns : List (MoveM × Value)} {L : List CNode} (h : Made b w ns L) (hb : b' ≤ b) : Made b' w ns L := ⟨h.1, fun i a y h1 h2 => ⟨(h.2 i a y h1 h2).1, (h.2 i a y h1 h2).2.mono hb⟩⟩
theorem Made.cons {b : Nat} {W : World} {ns : List (MoveM × Value)} {L : List CNode} {m : MoveM} {v : Value} {rs : List Int} (h : Made b W ns L) (o : OwnB b W v rs) : Made b W ((m, v) :: ns) (⟨m, rs⟩ :: L) := by
  refine ⟨by rw [List.length_cons, List.length_cons, h.1], fun i x y h1 h2 => ?_⟩
  cases i with
  | zero =>
    simp only [List.getElem?_cons_zero, Option.some.injEq] at h1 h2
    subst h1 h2
    exact ⟨rfl, o⟩
  | succ i => exact h.2 i x y (by simpa using h1) (by simpa using h2)
/-- No row of a node is the block of v. -/
def Apart (v : Value) (ns : List (MoveM × Value)) : Prop := ∀ (i : Nat) (x : MoveM × Value), ns[i]? = some x → ∀ g, x.2.ownBlock = some g → v.ownBlock ≠ some g
theorem Made.grown {b : Nat} {w W : World} {v : Value} {ns : List (MoveM × Value)} {L : List CNode} (h : Made b w ns L) (g : w.grownBy W v.ownBlock) (hA : Apart v ns) : Made b W ns L :=
  ⟨h.1, fun i a y h1 h2 => ⟨(h.2 i a y h1 h2).1, (h.2 i a y h1 h2).2.grown g (fun k hk e => hA i a h1 k hk e.symm)⟩⟩
theorem Made.app {b : Nat} {W : World} {ns ms : List (MoveM × Value)} {L M : List CNode} (h : Made b W ns L) (k : Made b W ms M) : Made b W (ns ++ ms) (L ++ M) := by
  refine ⟨by rw [List.length_append, List.length_append, h.1, k.1], fun i x y h1 h2 => ?_⟩
  by_cases hi : i < ns.length
  · rw [List.getElem?_append_left hi] at h1
    rw [List.getElem?_append_left (by rw [← h.1]; exact hi)] at h2
    exact h.2 i x y h1 h2
  · rw [List.getElem?_append_right (by omega)] at h1
    rw [List.getElem?_append_right (by rw [← h.1]; omega), ← h.1] at h2
    exact k.2 _ x y h1 h2
theorem Apart.app {v : Value} {ns ms : List (MoveM × Value)} (h : Apart v ns) (k : Apart v ms) : Apart v (ns ++ ms) := fun i x hi => by
  by_cases hl : i < ns.length
  · rw [List.getElem?_append_left hl] at hi; exact h i x hi
  · rw [List.getElem?_append_right (by omega)] at hi; exact k _ x hi
/-- Rows that are newer than the block of v. -/
theorem Made.apart {b : Nat} {W : World} {v : Value} {ns : List (MoveM × Value)} {L : List CNode} (h : Made b W ns L) (hv : ∀ k, v.ownBlock = some k → k < b) : Apart v ns := fun i x hi g hg e => by
  have hl : i < L.length := by rw [← h.1]; exact (List.getElem?_eq_some_iff.1 hi).1
  have := ((h.2 i x L[i] hi (List.getElem?_eq_getElem hl)).2.low g hg).1
  have := hv g e
  omega
/-- The block of the slice after an append. -/
theorem Made.apart_new {b H : Nat} {W : World} {v : Value} {g c n : Nat} {ns : List (MoveM × Value)} {L : List CNode} (h : Made b W ns L) (hA : Apart v ns) (hg : v.ownBlock = some g ∨ g = H) (hH : W.heap.size ≤ H) : Apart (.slice (some ⟨g, 0, none⟩) n c) ns := fun i x hi q hq e => by
  have hl : i < L.length := by rw [← h.1]; exact (List.getElem?_eq_some_iff.1 hi).1
  have hlt := ((h.2 i x L[i] hi (List.getElem?_eq_getElem hl)).2.low q hq).2
  have e' : g = q := by simpa [Value.ownBlock] using e
  subst e'
  rcases hg with h1 | h1
  · exact hA i x hi g hq h1
  · omega
theorem PosOwn.mono {w : World} {B B' : Nat} {v : Value} {P : PosM} (h : PosOwn w B v P) (hb : B' ≤ B) : PosOwn w B' v P := by
  obtain ⟨g0, c0, g1, c1, g2, c2, e, h0, m⟩ := h
  exact ⟨g0, c0, g1, c1, g2, c2, e, by omega, m⟩
theorem PosOwn.tfr {ts : List TypeId} {w W : World} {B : Nat} {v : Value} {P : PosM} (h : PosOwn w B v P) (he : 3 ∉ ts) (f : TFr ts w W) : PosOwn W B v P := by
  obtain ⟨g0, c0, g1, c1, g2, c2, e, h0, h1, h2, r0, r1, r2, m⟩ := h
  exact ⟨g0, c0, g1, c1, g2, c2, e, h0, h1, h2, r0.tfr he f, r1.tfr he f, r2.tfr he f, m⟩
theorem tfr_set5 {w : World} {B : Nat} {t : TypeId} {cs : Array Value} {u0 u1 u2 u3 u4 : Value} (k : Blk w B t cs) :
    TFr [t] w (((((w.setCell ⟨B, 0, none⟩ u0).setCell ⟨B, 1, none⟩ u1).setCell ⟨B, 2, none⟩ u2).setCell ⟨B, 3, none⟩ u3).setCell ⟨B, 4, none⟩ u4) :=
  have hm := List.mem_singleton.2 (rfl : t = t)
  have k0 := k.set_ 0 u0
  have k1 := k0.set_ 1 u1
  have k2 := k1.set_ 2 u2
  have k3 := k2.set_ 3 u3
  ((((TFr.set k hm 0 u0).trans (TFr.set k0 hm 1 u1)).trans (TFr.set k1 hm 2 u2)).trans (TFr.set k2 hm 3 u3)).trans (TFr.set k3 hm 4 u4)
theorem PosOwn.far5 {w : World} {B N : Nat} {cs : Array Value} {v : Value} {P : PosM} {u0 u1 u2 u3 u4 : Value} (h : PosOwn w N v P) (k : Blk w B 29 cs) :
    PosOwn (((((w.setCell ⟨B, 0, none⟩ u0).setCell ⟨B, 1, none⟩ u1).setCell ⟨B, 2, none⟩ u2).setCell ⟨B, 3, none⟩ u3).setCell ⟨B, 4, none⟩ u4) N v P := h.tfr (by decide) (tfr_set5 k)
theorem OwnB.grows {b : Nat} {w W : World} {v : Value} {zs : List Int} (h : OwnB b w v zs) (g : w.grownBy W v.ownBlock) : TFr [3] w W := by
  obtain ⟨A, c, rfl, o⟩ := h
  exact TFr.grown o (List.mem_singleton.2 rfl) g
theorem nodeV_get : ∀ (ns : List (MoveM × Value)) (i j : Nat) (x : MoveM × Value), ns[i]? = some x → j < 4 → (ns.flatMap nodeV)[i * 4 + j]? = (nodeV x)[j]?
  | [], i, j, x, h, _ => by simp at h
  | a :: l, 0, j, x, h, hj => by
    have e : a = x := by simpa using h
    subst e
    rw [List.flatMap_cons, List.getElem?_append_left (by simp [nodeV]; omega)]
    simp
  | a :: l, i + 1, j, x, h, hj => by
    rw [List.flatMap_cons, List.getElem?_append_right (by simp [nodeV]; omega)]
    have e : (i + 1) * 4 + j - (nodeV a).length = i * 4 + j := by simp [nodeV]; omega
    rw [e]
    exact nodeV_get l i j x (by simpa using h) hj
theorem nodeV_set : ∀ (ns : List (MoveM × Value)) (i : Nat) (x : MoveM × Value) (u : Value), ns[i]? = some x → (ns.set i (x.1, u)).flatMap nodeV = (ns.flatMap nodeV).set (i * 4 + 3) u
  | [], i, x, u, h => by simp at h
  | a :: l, 0, x, u, h => by
    have e : a = x := by simpa using h
    subst e
    rfl
  | a :: l, i + 1, x, u, h => by
    rw [List.set_cons_succ, List.flatMap_cons, List.flatMap_cons, nodeV_set l i x u (by simpa using h), List.set_append_right _ _ (by simp [nodeV]; omega)]
    have e : (i + 1) * 4 + 3 - (nodeV a).length = i * 4 + 3 := by simp [nodeV]; omega
    rw [e]
/-- The replies of a node are stored. -/
theorem rowC_put {base : Nat} {W : World} {A : Option Addr} {c : Nat} {ns : List (MoveM × Value)} {i : Nat} {x : MoveM × Value} (h : RowC base W A c ns) (hi : ns[i]? = some x) :
    ∃ g cur, A = some ⟨g, 0, none⟩ ∧ base ≤ g ∧ Blk W g 135 cur ∧ W.cell? ⟨g, i * 4 + 3, none⟩ = some x.2 ∧ W.frozen? ⟨g, i * 4 + 3, none⟩ = false ∧ ∀ u, RowC base (W.setCell ⟨g, i * 4 + 3, none⟩ u) A c (ns.set i (x.1, u)) := by
  have hil := (List.getElem?_eq_some_iff.1 hi).1
  unfold RowC at h
  rcases h.2 with ⟨e1, e2⟩ | ⟨g, cap, cur, e1, hb, hg, hnc, hcm, hcs, ht⟩
  · omega
  · injection e1 with a b d
    subst a; subst d
    have hx : cur[i * 4 + 3]? = some x.2 := by
      have e : (cur.toList.take (ns.length * 4))[i * 4 + 3]? = (ns.flatMap nodeV)[i * 4 + 3]? := by rw [ht]
      rw [List.getElem?_take, if_pos (by omega), nodeV_get ns i 3 x hi (by omega)] at e
      rw [← Array.getElem?_toList, e]
      rfl
    refine ⟨g, cur, rfl, hb, hg, by rw [cell_of_row _ _ _ cur _ (0, 0) hg]; exact hx, by simp [World.frozen?, hg], fun u => ?_⟩
    unfold RowC
    rw [List.length_set, nodeV_set ns i x u hi]
    refine ⟨by rw [List.length_set]; exact h.1, .inr ⟨g, c, cur.setIfInBounds (i * 4 + 3) u, rfl, hb, Blk.set_ (show Blk W g 135 cur from hg) _ _, hnc, hcm, by simpa using hcs, ?_⟩⟩
    rw [Array.toList_setIfInBounds, List.take_set, ht]
theorem cnInfo : (Try.prog.info? 135).map (fun i => (i.zero, i.size, i.bytes)) = some (some (.agg #[.int .i64 0, .int .i64 0, .int .i64 0, .slice none 0 0]), 4, 48) := by kernel_rfl
set_option maxHeartbeats 1000000 in
theorem oper_append_cn {o : Oper} {a : Act} {K : Act → World → Prop} {Q : Exit → Act → World → Prop} (s x : Operand)
    (ho : o.op = .call { callee := .builtin .append, args := #[s, x], argTypes := #[52, 52] }) (base : Nat) (w : World) (A : Option Addr) (c : Nat) (ns : List (MoveM × Value)) (m : MoveM) (hs : a.eval s = .slice A ns.length c) (hown : RowC base w A c ns) (hx : a.eval x = .slice (some ⟨w.heap.size, 0, none⟩) 1 1)
    (hb : base ≤ w.heap.size) (hlen : ns.length ≤ 1000000) (h : ∀ A' c' w', RowC base w' A' c' (ns ++ [(m, .slice none 0 0)]) → w.grownBy w' (Value.slice A ns.length c).ownBlock → TFr [135] w w' → K (a.put o.dst (.slice A' (ns.length + 1) c')) w') :
    Oper.wp Try.prog o a (w.alloc (.cells #[.int .i64 m.src, .int .i64 m.dst, .int .i64 m.piece, .slice none 0 0] 135)) K Q := by
  obtain ⟨i0, hi, hz0, hz1, hz2⟩ := info_parts cnInfo
  obtain ⟨v', w', hrun, h2, h3⟩ := run_append_cells (P := Try.prog) _ base 52 o.type 135 i0 (.agg #[.int .i64 0, .int .i64 0, .int .i64 0, .slice none 0 0]) 4 48 Try.underlying52 hi hz0 hz1 hz2 rfl (by decide) _ ns.length (ns.flatMap nodeV) (own_ext hown (ext_alloc (Below.refl _ _) _)) (some ⟨w.heap.size, 0, none⟩) 1 1 (nodeV (m, .slice none 0 0)) rfl (cellsAt_new w 135 (nodeV (m, .slice none 0 0))) (by simp [nodeV, Value.oneCell']) (by simp only [maxLen]; omega) (by omega) (by simp; omega) (by simp)
  unfold Oper.wp execOp
  simp only [ho, resolve, invoke, builtin, Sem.run_bind, Sem.run_pure, Result.andThen_ok, List.map_toArray, List.map_cons, List.map_nil, hs, hx, hrun, show #[Value.int .i64 m.src, .int .i64 m.dst, .int .i64 m.piece, .slice none 0 0] = (nodeV (m, .slice none 0 0)).toArray from rfl]
  obtain ⟨A', c', rfl, _, _⟩ := own_shape h2
  have f : TFr [135] w w' := (TFr.of_ext (ext_alloc (Below.refl _ _) _)).trans (TFr.grown (own_ext hown (ext_alloc (Below.refl _ _) _)) (List.mem_singleton.2 rfl) h3)
  refine h A' c' w' ?_ ?_ f
  · unfold RowC
    rw [List.length_append, List.flatMap_append]
    simpa using h2
  · exact ⟨h3.os, h3.tape, h3.output, by have := h3.size; simp at this; omega, fun b hb hn => by
      rw [h3.block b (by simp; omega) hn]
      exact Below.heap_alloc w _ b hb⟩
theorem wp_append_rep {ops : Array Oper} {rest : List Oper} {o : Oper} {a : Act} {Q : Exit → Act → World → Prop} (s x : Operand) (hgd : o.guard = none)
    (ho : o.op = .call { callee := .builtin .append, args := #[s, x], argTypes := #[23, 23] }) (base : Nat) (w : World) (v : Value) (xs : List Int) (z : Int) (hs : a.eval s = v) (hown : OwnB base w v xs) (hx : a.eval x = .slice (some ⟨w.heap.size, 0, none⟩) 1 1)
    (hb : base ≤ w.heap.size) (hlen : xs.length ≤ 1000000) (h : ∀ g c' w', OwnB base w' (.slice (some ⟨g, 0, none⟩) (xs.length + 1) c') (xs ++ [z]) → w.grownBy w' v.ownBlock → (v.ownBlock = some g ∨ g = w.heap.size + 1) → wpList Try.prog ops Q rest (a.put o.dst (.slice (some ⟨g, 0, none⟩) (xs.length + 1) c')) w') :
    wpList Try.prog ops Q (o :: rest) a (w.alloc (.cells #[.int .i64 z] 3)) := by
  obtain ⟨A, c, rfl, hown⟩ := hown
  obtain ⟨i0, hi, hz0, hz1, hz2⟩ := info_parts intInfo
  refine wpList_append_lies _ hgd s x 23 ho base 3 i0 (.int .i64 0) 1 8 Try.underlying23 hi hz0 hz1 hz2 rfl (by decide) _ xs.length (xs.map (Value.int .i64)) hs (own_ext hown (ext_alloc (Below.refl _ _) _)) ⟨w.heap.size, 0, none⟩ 1 1 [.int .i64 z] hx rfl (fun j u hu => World.news_of_block (heap_alloc_new w _) j u hu) (by simp [Value.oneCell']) (by omega) (by simp only [maxLen]; omega) (by omega) (by simp; omega) (w.heap.size + 1) (by simp) ?_
  intro g cap w' hown' hgrow hat _
  refine h g cap w' ⟨some ⟨g, 0, none⟩, cap, by simp, by simpa using hown'⟩ ?_ hat
  exact ⟨hgrow.os, hgrow.tape, hgrow.output, by have := hgrow.size; simp at this; omega, fun b hb hn => by
    rw [hgrow.block b (by simp; omega) hn]
    exact Below.heap_alloc w _ b hb⟩
end Go.Proofs.Ytnaggpibfmednaa
