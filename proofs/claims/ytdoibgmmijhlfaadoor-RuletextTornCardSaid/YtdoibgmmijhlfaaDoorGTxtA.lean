/- Plain: the text of a position and its reading; what is printed is read as it was. No program. Plain: the whole text of a position and its reading. No program. Plain: small joins for the text of positions. No program. Plain: small facts for place.Read. No program. -/
import Derived.Test.YtdoibgmmijhlfaaDoorGBase
import Derived.Lib.AtoiAll
import Derived.Lib.ItoaNum
import Derived.Lib.ItoaMem
import Derived.Lib.Join
import Derived.Lib.Split
import Derived.Lib.SplitLaws
namespace Go.Proofs.YtdoibgmmijhlfaaDoor
open Go.Lib
set_option linter.unusedVariables false
abbrev BL := List UInt8
def digU (b : UInt8) : Bool := decide (48 ≤ b.toNat) && decide (b.toNat ≤ 57)
theorem digU_iff {b : UInt8} : digU b = true ↔ 48 ≤ b.toNat ∧ b.toNat ≤ 57 := by unfold digU; simp
theorem dec_dig : ∀ (u : Nat), ∀ b ∈ decDigits u, digU b = true := by
  intro u
  induction u using Nat.strongRecOn with
  | _ u ih =>
    intro b hb
    by_cases h : u < 10
    · rw [decDigits_one h] at hb
      obtain rfl := List.mem_singleton.1 hb
      rw [digU_iff, UInt8.toNat_ofNat']
      omega
    · rw [decDigits, dif_neg h] at hb
      rcases List.mem_append.1 hb with hb | hb
      · exact ih (u / 10) (by omega) b hb
      · obtain rfl := List.mem_singleton.1 hb
        rw [digU_iff, UInt8.toNat_ofNat']
        omega
def valL (acc : Nat) (l : BL) : Nat := l.foldl (fun a c => a * 10 + (c.toNat - 48)) acc
theorem val_dec : ∀ (u : Nat), valL 0 (decDigits u) = u := by
  intro u
  induction u using Nat.strongRecOn with
  | _ u ih =>
    by_cases h : u < 10
    · rw [decDigits_one h]
      unfold valL
      simp only [List.foldl_cons, List.foldl_nil, UInt8.toNat_ofNat']
      omega
    · rw [decDigits, dif_neg h]
      unfold valL at ih ⊢
      rw [List.foldl_append, ih (u / 10) (by omega)]
      simp only [List.foldl_cons, List.foldl_nil, UInt8.toNat_ofNat']
      omega
theorem parse_val : ∀ (l : BL) (acc : Nat), (∀ b ∈ l, digU b = true) → (acc + 1) * 10 ^ l.length ≤ 1000000 → parseUint10 acc l = .ok (valL acc l)
  | [], acc, _, _ => rfl
  | c :: r, acc, h, hb => by
    have hc := digU_iff.1 (h c List.mem_cons_self)
    have h10 : 1 ≤ 10 ^ r.length := Nat.one_le_pow _ _ (by decide)
    have hb2 : (acc + 1) * 10 * 10 ^ r.length ≤ 1000000 := by
      rw [List.length_cons, Nat.pow_succ] at hb
      calc (acc + 1) * 10 * 10 ^ r.length = (acc + 1) * (10 ^ r.length * 10) := by rw [Nat.mul_assoc, Nat.mul_comm 10]
        _ ≤ _ := hb
    have h1 : (acc + 1) * 10 ≤ 1000000 := Nat.le_trans (Nat.le_mul_of_pos_right _ h10) hb2
    have h2 : (acc * 10 + (c.toNat - 48) + 1) * 10 ^ r.length ≤ 1000000 := Nat.le_trans (Nat.mul_le_mul_right _ (by omega)) hb2
    rw [parseUint10, if_pos hc, if_neg (by omega), if_neg (by omega), parse_val r _ (fun b hb => h b (List.mem_cons_of_mem _ hb)) h2]
    rfl
theorem nDigits_le4 {u : Nat} (h : u < 10000) : nDigits u ≤ 4 := by
  by_cases h1 : u < 10
  · rw [nDigits_small h1]; omega
  rw [nDigits_big h1]
  by_cases h2 : u / 10 < 10
  · rw [nDigits_small h2]; omega
  rw [nDigits_big h2]
  by_cases h3 : u / 10 / 10 < 10
  · rw [nDigits_small h3]; omega
  rw [nDigits_big h3, nDigits_small (by omega)]
  omega
theorem dec_ne (u : Nat) : decDigits u ≠ [] := fun e => by
  have h := decDigits_length u
  have h2 := nDigits_pos u
  rw [e] at h
  simp at h
  omega
theorem atoi_dec {u : Nat} (h : u < 10000) : atoiAll (decDigits u) = .ok (u : Int) := by
  have hd := dec_dig u
  have hp : parseUint10 0 (decDigits u) = .ok u := by
    rw [parse_val _ _ hd, val_dec]
    rw [decDigits_length]
    calc (0 + 1) * 10 ^ nDigits u ≤ 1 * 10 ^ 4 := Nat.mul_le_mul_left _ (Nat.pow_le_pow_right (by decide) (nDigits_le4 h))
      _ ≤ 1000000 := by decide
  have hne := dec_ne u
  cases hl : decDigits u with
  | nil => exact absurd hl hne
  | cons c r =>
    rw [hl] at hd hp
    have hc := digU_iff.1 (hd c List.mem_cons_self)
    unfold atoiAll
    have h1 : ¬ (c.toNat = 43 ∨ c.toNat = 45) := by omega
    have h2 : ¬ c.toNat = 45 := by omega
    have hm : parseMag (c :: r) = .ok u := by unfold parseMag; rw [if_neg (by simp)]; exact hp
    have h3 : ¬ c.toNat = 43 := by omega
    simp only [h2, h3, or_self, not_false_eq_true, true_and, false_and, if_false]
    rw [hm]
    simp only []
    rw [if_neg (by omega)]
/-- place.number. -/
def numR (s : BL) : Int × BL := match atoiAll (s.takeWhile digU) with
  | .ok v => (v, s.dropWhile digU)
  | _ => (-1, s)
def NoDig (s : BL) : Prop := ∀ b r, s = b :: r → digU b = false
theorem take_noDig {s : BL} (h : NoDig s) : s.takeWhile digU = [] := by
  cases s with
  | nil => rfl
  | cons b r => rw [List.takeWhile_cons, h b r rfl]; rfl
theorem drop_noDig {s : BL} (h : NoDig s) : s.dropWhile digU = s := by
  cases s with
  | nil => rfl
  | cons b r => rw [List.dropWhile_cons, h b r rfl]; rfl
theorem numR_no {s : BL} (h : NoDig s) : numR s = (-1, s) := by
  unfold numR
  rw [take_noDig h]
  rfl
theorem numR_dec {u : Nat} (h : u < 10000) {s : BL} (hs : NoDig s) : numR (decDigits u ++ s) = ((u : Int), s) := by
  unfold numR
  rw [List.takeWhile_append_of_pos (dec_dig u), List.dropWhile_append_of_pos (dec_dig u), take_noDig hs, drop_noDig hs, List.append_nil, atoi_dec h]
def chU (x : Int) : UInt8 := UInt8.ofNat x.toNat
theorem chU_nat {x : Int} (h0 : 0 ≤ x) (h1 : x < 256) : ((chU x).toNat : Int) = x := by unfold chU; rw [UInt8.toNat_ofNat']; omega
/-- place.piece. -/
def pieceK (ps : List PieceM) (b : UInt8) : Int := match ps.findIdx? (fun p => decide (p.letter = (b.toNat : Int))) with
  | some k => (k : Int)
  | none => -1
structure Lets (ps : List PieceM) : Prop where
  in_ : ∀ (i : Nat) p, ps[i]? = some p → 65 ≤ p.letter ∧ p.letter ≤ 90
  one : ∀ (i j : Nat) p q, ps[i]? = some p → ps[j]? = some q → p.letter = q.letter → i = j
theorem piece_at {ps : List PieceM} (h : Lets ps) {k : Nat} {p : PieceM} (hk : ps[k]? = some p) {b : UInt8} (hb : (b.toNat : Int) = p.letter) : pieceK ps b = (k : Int) := by
  have : ps.findIdx? (fun p => decide (p.letter = (b.toNat : Int))) = some k := by
    obtain ⟨hl, he⟩ := List.getElem?_eq_some_iff.1 hk
    refine List.findIdx?_eq_some_iff_getElem.2 ⟨hl, by simp [he, hb], fun j hj => ?_⟩
    intro e
    have e1 := of_decide_eq_true e
    have := h.one j k ps[j] p (List.getElem?_eq_getElem (by omega)) hk (by rw [e1, hb])
    omega
  unfold pieceK
  rw [this]
/-- The byte of a cell. -/
def cellU (ps : List PieceM) (c : Int) : UInt8 := chU ((ps.map (·.letter)).getD ((c - 1) / 2).toNat 0 + (if c % 2 = 0 then 32 else 0))
def flushT (e : Nat) : BL := if 0 < e then decDigits e else []
/-- place.row, with e empty cells ahead. -/
def rowT (ps : List PieceM) : Nat → List Int → BL
  | e, [] => flushT e
  | e, c :: cs => if c = 0 then rowT ps (e + 1) cs else flushT e ++ cellU ps c :: rowT ps 0 cs
/-- place.readRow. -/
def readRowR (ps : List PieceM) (W : Nat) : Nat → List Int → BL → List Int
  | 0, out, _ => out
  | f + 1, out, s => if s = [] ∨ W < out.length then out
    else if 0 ≤ (numR s).1 then readRowR ps W f (out ++ List.replicate (min (numR s).1 ((W : Int) + 1)).toNat 0) (numR s).2
    else match s with
      | [] => out
      | b :: r => if pieceK ps (if 97 ≤ b.toNat then b - 32 else b) < 0 then [] else readRowR ps W f (out ++ [2 * pieceK ps (if 97 ≤ b.toNat then b - 32 else b) + (if 97 ≤ b.toNat then 2 else 1)]) r
theorem readRow_succ (ps : List PieceM) (W f : Nat) (out : List Int) (s : BL) : readRowR ps W (f + 1) out s = if s = [] ∨ W < out.length then out
    else if 0 ≤ (numR s).1 then readRowR ps W f (out ++ List.replicate (min (numR s).1 ((W : Int) + 1)).toNat 0) (numR s).2
    else match s with
      | [] => out
      | b :: r => if pieceK ps (if 97 ≤ b.toNat then b - 32 else b) < 0 then [] else readRowR ps W f (out ++ [2 * pieceK ps (if 97 ≤ b.toNat then b - 32 else b) + (if 97 ≤ b.toNat then 2 else 1)]) r := by cases s <;> rfl
theorem cellU_read {ps : List PieceM} (h : Lets ps) {c : Int} (h1 : 1 ≤ c) (h2 : c ≤ 2 * (ps.length : Int)) : digU (cellU ps c) = false ∧ 48 ≤ (cellU ps c).toNat ∧ 0 ≤ pieceK ps (if 97 ≤ (cellU ps c).toNat then cellU ps c - 32 else cellU ps c) ∧ 2 * pieceK ps (if 97 ≤ (cellU ps c).toNat then cellU ps c - 32 else cellU ps c) + (if 97 ≤ (cellU ps c).toNat then 2 else 1) = c := by
  obtain ⟨k, hk⟩ : ∃ k : Nat, ((c - 1) / 2) = (k : Int) := ⟨((c - 1) / 2).toNat, by omega⟩
  have hkl : k < ps.length := by omega
  have hp : ps[k]? = some ps[k] := List.getElem?_eq_getElem hkl
  obtain ⟨l1, l2⟩ := h.in_ k _ hp
  have hget : (ps.map (·.letter)).getD ((c - 1) / 2).toNat 0 = (ps[k]).letter := by
    rw [hk, Int.toNat_natCast, List.getD_eq_getElem?_getD, List.getElem?_map, hp]; rfl
  generalize hx : (ps[k]).letter = x at *
  by_cases hc : c % 2 = 0
  · have e : (cellU ps c).toNat = (x + 32).toNat := by
      unfold cellU
      rw [hget, if_pos hc]
      have := chU_nat (x := x + 32) (by omega) (by omega)
      omega
    generalize cellU ps c = b at *
    have h97 : 97 ≤ b.toNat := by omega
    have hsub : (b - 32).toNat = b.toNat - 32 := by
      rw [UInt8.toNat_sub_of_le _ _ (by rw [UInt8.le_iff_toNat_le]; simpa using (by omega : 32 ≤ b.toNat))]
      rfl
    rw [if_pos h97, if_pos h97, piece_at h hp (b := b - 32) (by rw [hsub, hx]; omega)]
    refine ⟨?_, by omega, by omega, by omega⟩
    unfold digU
    simp
    omega
  · have e : (cellU ps c).toNat = x.toNat := by
      unfold cellU
      rw [hget, if_neg hc]
      have := chU_nat (x := x + 0) (by omega) (by omega)
      omega
    generalize cellU ps c = b at *
    have h97 : ¬ 97 ≤ b.toNat := by omega
    rw [if_neg h97, if_neg h97, piece_at h hp (b := b) (by rw [hx]; omega)]
    refine ⟨?_, by omega, by omega, by omega⟩
    unfold digU
    simp
    omega
theorem flush_read {ps : List PieceM} {W f e : Nat} {acc : List Int} {s : BL} (he : 0 < e) (he2 : e < 10) (hs : NoDig s) (h : acc.length + e ≤ W) : readRowR ps W (f + 1) acc (decDigits e ++ s) = readRowR ps W f (acc ++ List.replicate e 0) s := by
  rw [readRow_succ, if_neg (by
    rintro (h1 | h1)
    · exact dec_ne e (List.append_eq_nil_iff.1 h1).1
    · omega), numR_dec (by omega) hs, if_pos (by omega)]
  congr 2
  congr 1
  omega
theorem cell_read {ps : List PieceM} (hL : Lets ps) {W f : Nat} {acc : List Int} {c : Int} {s : BL} (h1 : 1 ≤ c) (h2 : c ≤ 2 * (ps.length : Int)) (h : acc.length ≤ W) : readRowR ps W (f + 1) acc (cellU ps c :: s) = readRowR ps W f (acc ++ [c]) s := by
  obtain ⟨a1, a2, a3, a4⟩ := cellU_read hL h1 h2
  rw [readRow_succ, if_neg (by
    rintro (h1 | h1)
    · cases h1
    · omega), numR_no (fun b r e => by injection e with e _; rw [← e]; exact a1), if_neg (show ¬ (0 : Int) ≤ -1 by omega)]
  show (if _ then _ else _) = _
  rw [if_neg (by omega), a4]
theorem row_noDig {ps : List PieceM} (hL : Lets ps) {cs : List Int} (h : ∀ c ∈ cs, 0 ≤ c ∧ c ≤ 2 * (ps.length : Int)) (e : Nat) {c : Int} (h1 : 1 ≤ c) (h2 : c ≤ 2 * (ps.length : Int)) : NoDig (cellU ps c :: rowT ps 0 cs) := fun b r e => by
  injection e with e _
  rw [← e]
  exact (cellU_read hL h1 h2).1
/-- What a row prints is read as the row. -/
theorem row_back {ps : List PieceM} (hL : Lets ps) {W : Nat} (hW : W ≤ 8) : ∀ (cs : List Int) (e f : Nat) (acc : List Int), (∀ c ∈ cs, 0 ≤ c ∧ c ≤ 2 * (ps.length : Int)) → acc.length + e + cs.length ≤ W → (rowT ps e cs).length + 1 ≤ f → readRowR ps W f acc (rowT ps e cs) = acc ++ List.replicate e 0 ++ cs
  | [], e, f, acc, _, hl, hf => by
    unfold rowT flushT at hf ⊢
    rw [List.length_nil] at hl
    obtain ⟨f, rfl⟩ : ∃ g, f = g + 1 := ⟨f - 1, by omega⟩
    by_cases he : 0 < e
    · rw [if_pos he] at hf ⊢
      have h1 := nDigits_pos e
      rw [decDigits_length] at hf
      obtain ⟨f, rfl⟩ : ∃ g, f = g + 1 := ⟨f - 1, by omega⟩
      have := flush_read (ps := ps) (W := W) (f := f + 1) (acc := acc) (s := []) he (by omega) (fun b r e => by cases e) (by omega)
      rw [List.append_nil] at this
      rw [this, readRow_succ, if_pos (.inl rfl), List.append_nil]
    · obtain rfl : e = 0 := by omega
      rw [if_neg he, readRow_succ, if_pos (.inl rfl)]
      simp
  | c :: cs, e, f, acc, h, hl, hf => by
    have hc := h c List.mem_cons_self
    have hcs := fun x hx => h x (List.mem_cons_of_mem _ hx)
    rw [List.length_cons] at hl
    by_cases h0 : c = 0
    · subst h0
      rw [rowT, if_pos rfl] at hf ⊢
      rw [row_back hL hW cs (e + 1) f acc hcs (by omega) hf, List.replicate_succ']
      simp
    · rw [rowT, if_neg h0] at hf ⊢
      rw [List.length_append, List.length_cons] at hf
      by_cases he : 0 < e
      · unfold flushT at hf ⊢
        rw [if_pos he] at hf ⊢
        have h1 := nDigits_pos e
        rw [decDigits_length] at hf
        obtain ⟨f, rfl⟩ : ∃ g, f = g + 1 + 1 := ⟨f - 2, by omega⟩
        rw [flush_read he (by omega) (row_noDig hL hcs e (by omega) hc.2) (by omega), cell_read hL (by omega) hc.2 (by simp; omega), row_back hL hW cs 0 f _ hcs (by simp; omega) (by omega)]
        simp
      · obtain rfl : e = 0 := by omega
        unfold flushT at hf ⊢
        rw [if_neg he] at hf ⊢
        obtain ⟨f, rfl⟩ : ∃ g, f = g + 1 := ⟨f - 1, by omega⟩
        rw [List.nil_append, cell_read hL (by omega) hc.2 (by omega), row_back hL hW cs 0 f _ hcs (by simp; omega) (by omega)]
        simp
/-- place.hand's letters and numbers. -/
def handT : List PieceM → List Int → BL
  | p :: ps, n :: l => (if 0 < n then chU p.letter :: itoa n else []) ++ handT ps l
  | _, _ => []
def handS (ps : List PieceM) (l : List Int) : BL := if handT ps l = [] then [45] else handT ps l
/-- place.readHand. -/
def readHandR (ps : List PieceM) : Nat → List Int → BL → List Int
  | 0, out, _ => out
  | f + 1, out, s => if s = [] ∨ s = [45] then out
    else match s with
      | [] => out
      | b :: r => if pieceK ps b < 0 ∨ (numR r).1 < 0 then [] else readHandR ps f (out.set (pieceK ps b).toNat (numR r).1) (numR r).2
theorem let_byte {ps : List PieceM} (h : Lets ps) {k : Nat} {p : PieceM} (hk : ps[k]? = some p) : digU (chU p.letter) = false ∧ ((chU p.letter).toNat : Int) = p.letter ∧ 65 ≤ (chU p.letter).toNat := by
  obtain ⟨l1, l2⟩ := h.in_ k p hk
  have e := chU_nat (x := p.letter) (by omega) (by omega)
  refine ⟨?_, e, by omega⟩
  unfold digU
  simp
  omega
theorem hand_noDig {ps : List PieceM} (h : Lets ps) : ∀ (l : List Int) (k : Nat), NoDig (handT (ps.drop k) l)
  | [], k => fun b r e => by
    cases hp : ps.drop k with
    | nil => rw [hp] at e; cases e
    | cons p q => rw [hp] at e; cases e
  | n :: l, k => fun b r e => by
    cases hp : ps.drop k with
    | nil => rw [hp] at e; cases e
    | cons p q =>
      have hk : ps[k]? = some p := by
        have := congrArg (·[0]?) hp
        simpa [List.getElem?_drop] using this
      have hq : q = ps.drop (k + 1) := by
        have := congrArg List.tail hp
        simpa [List.tail_drop] using this.symm
      rw [hp, handT] at e
      by_cases h0 : 0 < n
      · rw [if_pos h0] at e
        injection e with e _
        rw [← e]
        exact (let_byte h hk).1
      · rw [if_neg h0, List.nil_append, hq] at e
        exact hand_noDig h l (k + 1) b r e
theorem hand_back {ps : List PieceM} (h : Lets ps) : ∀ (l : List Int) (k f : Nat) (done : List Int), (∀ n ∈ l, 0 ≤ n ∧ n ≤ 1000) → done.length = k → k + l.length = ps.length → (handT (ps.drop k) l).length + 1 ≤ f → readHandR ps f (done ++ List.replicate l.length 0) (handT (ps.drop k) l) = done ++ l
  | [], k, f, done, _, _, hl, hf => by
    obtain ⟨f, rfl⟩ : ∃ g, f = g + 1 := ⟨f - 1, by omega⟩
    have : ps.drop k = [] := List.drop_eq_nil_of_le (by simp at hl; omega)
    rw [this]
    rfl
  | n :: l, k, f, done, hn, hd, hl, hf => by
    have h1 := hn n List.mem_cons_self
    have hns := fun x hx => hn x (List.mem_cons_of_mem _ hx)
    rw [List.length_cons] at hl
    have hkl : k < ps.length := by omega
    have hdr : ps.drop k = ps[k] :: ps.drop (k + 1) := List.drop_eq_getElem_cons hkl
    have hk : ps[k]? = some ps[k] := List.getElem?_eq_getElem hkl
    rw [hdr] at hf ⊢
    rw [handT] at hf ⊢
    by_cases h0 : 0 < n
    · rw [if_pos h0] at hf ⊢
      obtain ⟨u, rfl⟩ := Int.eq_ofNat_of_zero_le h1.1
      rw [itoa_nonneg] at hf ⊢
      simp only [List.length_append, List.length_cons] at hf
      obtain ⟨f, rfl⟩ : ∃ g, f = g + 1 := ⟨f - 1, by omega⟩
      obtain ⟨_, b2, b3⟩ := let_byte h hk
      generalize chU (ps[k]).letter = b at *
      have hp := piece_at h hk b2
      have hnum := numR_dec (u := u) (by omega) (hand_noDig h l (k + 1))
      rw [List.cons_append, readHandR, if_neg (by
        rintro (e | e)
        · cases e
        · injection e with e _
          rw [e] at b3
          exact absurd b3 (by decide))]
      show (if _ then _ else _) = _
      rw [hp, hnum, if_neg (by simp only []; omega)]
      simp only [Int.toNat_natCast]
      have hset : (done ++ List.replicate (l.length + 1) 0).set k ((u : Nat) : Int) = (done ++ [(u : Int)]) ++ List.replicate l.length 0 := by
        rw [List.set_append_right _ _ (by omega), hd, Nat.sub_self, List.replicate_succ, List.set_cons_zero]
        simp
      rw [List.length_cons, hset, hand_back h l (k + 1) f _ hns (by simp; omega) (by omega) (by omega)]
      simp
    · obtain rfl : n = 0 := by omega
      rw [if_neg h0, List.nil_append] at hf ⊢
      have := hand_back h l (k + 1) f (done ++ [0]) hns (by simp; omega) (by omega) hf
      rw [List.length_cons, List.replicate_succ]
      simpa using this
theorem handS_back {ps : List PieceM} (h : Lets ps) {l : List Int} (hn : ∀ n ∈ l, 0 ≤ n ∧ n ≤ 1000) (hl : l.length = ps.length) : readHandR ps ((handS ps l).length + 1) (List.replicate ps.length 0) (handS ps l) = l := by
  have h0 := fun f hf => hand_back h l 0 f [] hn rfl (by omega) hf
  simp only [List.drop_zero, List.nil_append] at h0
  rw [hl] at h0
  unfold handS
  by_cases he : handT ps l = []
  · rw [if_pos he]
    have := h0 1 (by rw [he]; simp)
    rw [he, readHandR, if_pos (.inl rfl)] at this
    rw [readHandR, if_pos (.inr rfl)]
    exact this
  · rw [if_neg he]
    exact h0 _ (Nat.le_refl _)
/-- The parts of a text between the bytes c. -/
def splitL (c : UInt8) : BL → List BL
  | [] => [[]]
  | b :: l => if b = c then [] :: splitL c l else match splitL c l with
    | [] => [[b]]
    | x :: xs => (b :: x) :: xs
def joinL (c : UInt8) : List BL → BL
  | [] => []
  | [x] => x
  | x :: y :: r => x ++ c :: joinL c (y :: r)
theorem split_one {c : UInt8} : ∀ {x : BL}, (∀ b ∈ x, b ≠ c) → splitL c x = [x]
  | [], _ => rfl
  | b :: x, h => by
    rw [splitL, if_neg (h b List.mem_cons_self), split_one (x := x) fun y hy => h y (List.mem_cons_of_mem _ hy)]
theorem split_cat {c : UInt8} : ∀ {x : BL} (r : BL), (∀ b ∈ x, b ≠ c) → splitL c (x ++ c :: r) = x :: splitL c r
  | [], r, _ => by rw [List.nil_append, splitL, if_pos rfl]
  | b :: x, r, h => by
    rw [List.cons_append, splitL, if_neg (h b List.mem_cons_self), split_cat (x := x) r fun y hy => h y (List.mem_cons_of_mem _ hy)]
theorem split_join {c : UInt8} : ∀ {L : List BL}, L ≠ [] → (∀ x ∈ L, ∀ b ∈ x, b ≠ c) → splitL c (joinL c L) = L
  | [], h, _ => absurd rfl h
  | [x], _, h => split_one (h x List.mem_cons_self)
  | x :: y :: r, _, h => by
    rw [joinL, split_cat _ (h x List.mem_cons_self), split_join (L := y :: r) (by simp) fun z hz => h z (List.mem_cons_of_mem _ hz)]
theorem join_mem {c b : UInt8} : ∀ {L : List BL}, b ∈ joinL c L → b = c ∨ ∃ x ∈ L, b ∈ x
  | [], h => by cases h
  | [x], h => .inr ⟨x, List.mem_cons_self, h⟩
  | x :: y :: r, h => by
    rw [joinL] at h
    rcases List.mem_append.1 h with h | h
    · exact .inr ⟨x, List.mem_cons_self, h⟩
    · rcases List.mem_cons.1 h with h | h
      · exact .inl h
      · rcases join_mem h with h | ⟨z, hz, hb⟩
        · exact .inl h
        · exact .inr ⟨z, List.mem_cons_of_mem _ hz, hb⟩
end Go.Proofs.YtdoibgmmijhlfaaDoor
namespace Go.Proofs.YtdoibgmmijhlfaaDoor
open Go.Lib
set_option linter.unusedVariables false
theorem dec_ge (u : Nat) : ∀ b ∈ decDigits u, 48 ≤ b.toNat := fun b hb => (digU_iff.1 (dec_dig u b hb)).1
theorem row_ge {ps : List PieceM} (hL : Lets ps) : ∀ (cs : List Int) (e : Nat), (∀ c ∈ cs, 0 ≤ c ∧ c ≤ 2 * (ps.length : Int)) → ∀ b ∈ rowT ps e cs, 48 ≤ b.toNat
  | [], e, _, b, hb => by
    unfold rowT flushT at hb
    split at hb
    · exact dec_ge e b hb
    · cases hb
  | c :: cs, e, h, b, hb => by
    have hc := h c List.mem_cons_self
    have hcs := fun x hx => h x (List.mem_cons_of_mem _ hx)
    by_cases h0 : c = 0
    · subst h0
      rw [rowT, if_pos rfl] at hb
      exact row_ge hL cs (e + 1) hcs b hb
    · rw [rowT, if_neg h0] at hb
      rcases List.mem_append.1 hb with hb | hb
      · unfold flushT at hb
        split at hb
        · exact dec_ge e b hb
        · cases hb
      · rcases List.mem_cons.1 hb with rfl | hb
        · exact (cellU_read hL (by omega) hc.2).2.1
        · exact row_ge hL cs 0 hcs b hb
theorem hand_ge {ps : List PieceM} (h : Lets ps) : ∀ (l : List Int) (k : Nat), (∀ n ∈ l, 0 ≤ n) → ∀ b ∈ handT (ps.drop k) l, 48 ≤ b.toNat
  | [], k, _, b, hb => by
    cases hp : ps.drop k with
    | nil => rw [hp] at hb; cases hb
    | cons p q => rw [hp] at hb; cases hb
  | n :: l, k, hn, b, hb => by
    by_cases hkl : k < ps.length
    · have hdr : ps.drop k = ps[k] :: ps.drop (k + 1) := List.drop_eq_getElem_cons hkl
      have hk : ps[k]? = some ps[k] := List.getElem?_eq_getElem hkl
      rw [hdr, handT] at hb
      rcases List.mem_append.1 hb with hb | hb
      · split at hb
        · rcases List.mem_cons.1 hb with rfl | hb
          · have := (let_byte h hk).2.2
            omega
          · obtain ⟨u, hu⟩ := Int.eq_ofNat_of_zero_le (hn n List.mem_cons_self)
            rw [hu, itoa_nonneg] at hb
            exact dec_ge u b hb
        · cases hb
      · exact hand_ge h l (k + 1) (fun x hx => hn x (List.mem_cons_of_mem _ hx)) b hb
    · rw [List.drop_eq_nil_of_le (by omega)] at hb
      cases hb
theorem handS_ge {ps : List PieceM} (h : Lets ps) {l : List Int} (hn : ∀ n ∈ l, 0 ≤ n) : ∀ b ∈ handS ps l, 45 ≤ b.toNat := fun b hb => by
  unfold handS at hb
  split at hb
  · obtain rfl := List.mem_singleton.1 hb
    decide
  · have := hand_ge h l 0 hn b (by rw [List.drop_zero]; exact hb)
    omega
theorem ne_of_ge {b c : UInt8} (h : c.toNat < b.toNat) : b ≠ c := fun e => by rw [e] at h; omega
/-- The rows, the top one first. -/
def rowsT (R : RulesM) (cells : List Int) : List BL := ((List.range R.height.toNat).map fun y => rowT R.pieces 0 ((cells.drop (y * R.width.toNat)).take R.width.toNat)).reverse
/-- place.text. -/
def textT (R : RulesM) (P : PosM) : BL := joinL 47 (rowsT R P.cells) ++ 32 :: (handS R.pieces P.hand0 ++ 32 :: (handS R.pieces P.hand1 ++ 32 :: (itoa (P.turn + 1) ++ 32 :: itoa P.quiet)))
/-- What place.Read reads out of the five parts. -/
def partsR (R : RulesM) (a b c d e : BL) : PosM :=
  ⟨(splitL 47 a).reverse.flatMap fun x => readRowR R.pieces R.width.toNat (x.length + 1) [] x, readHandR R.pieces (b.length + 1) (List.replicate R.pieces.length 0) b, readHandR R.pieces (c.length + 1) (List.replicate R.pieces.length 0) c, (numR d).1 - 1, (numR e).1⟩
/-- place.Read, the rules being valid. -/
def readT (R : RulesM) (s : BL) : Option PosM := if 8192 < s.length then none else
  match splitL 32 s with
  | [a, b, c, d, e] => if soundE R (partsR R a b c d e) = 0 ∧ textT R (partsR R a b c d e) = s then some (partsR R a b c d e) else none
  | _ => none
theorem read_says {R : RulesM} {s : BL} {Q : PosM} (h : readT R s = some Q) : soundE R Q = 0 ∧ textT R Q = s := by
  unfold readT at h
  split at h
  · cases h
  · split at h
    · split at h
      · injection h with h
        subst h
        assumption
      · cases h
    · cases h
theorem rows_all {W : Nat} (cells : List Int) : ∀ H : Nat, ((List.range H).flatMap fun y => (cells.drop (y * W)).take W) = cells.take (H * W)
  | 0 => by simp
  | H + 1 => by
    rw [List.range_succ, List.flatMap_append, rows_all cells H, Nat.add_mul, Nat.one_mul, List.take_add]
    simp
theorem row_len {ps : List PieceM} (hL : Lets ps) : ∀ (cs : List Int) (e : Nat), e + cs.length ≤ 9 → (rowT ps e cs).length ≤ 2 * cs.length + 1
  | [], e, h => by
    unfold rowT flushT
    split
    · rw [decDigits_one (by simp at h; omega)]; simp
    · simp
  | c :: cs, e, h => by
    rw [List.length_cons] at h
    by_cases h0 : c = 0
    · subst h0
      rw [rowT, if_pos rfl]
      have := row_len hL cs (e + 1) (by omega)
      simp at this ⊢
      omega
    · rw [rowT, if_neg h0]
      have := row_len hL cs 0 (by omega)
      have h2 : (flushT e).length ≤ 1 := by
        unfold flushT
        split
        · rw [decDigits_one (by omega)]; simp
        · simp
      simp at this ⊢
      omega
theorem handT_len {ps : List PieceM} : ∀ (l : List Int), (∀ n ∈ l, 0 ≤ n ∧ n ≤ 1000) → ∀ (qs : List PieceM), (handT qs l).length ≤ 5 * l.length
  | [], _, qs => by cases qs <;> simp [handT]
  | n :: l, h, [] => by simp [handT]
  | n :: l, h, q :: qs => by
    have h1 := h n List.mem_cons_self
    have ih := handT_len (ps := ps) l (fun x hx => h x (List.mem_cons_of_mem _ hx)) qs
    rw [handT, List.length_append, List.length_cons]
    split
    · obtain ⟨u, rfl⟩ := Int.eq_ofNat_of_zero_le h1.1
      rw [itoa_nonneg, List.length_cons, decDigits_length]
      have := nDigits_le4 (u := u) (by omega)
      omega
    · simp
      omega
theorem joinL_len {c : UInt8} {n : Nat} : ∀ {L : List BL}, (∀ x ∈ L, x.length ≤ n) → (joinL c L).length ≤ L.length * (n + 1)
  | [], _ => by simp [joinL]
  | [x], h => by
    have := h x List.mem_cons_self
    simp [joinL]
    omega
  | x :: y :: r, h => by
    have h1 := h x List.mem_cons_self
    have ih := joinL_len (c := c) (L := y :: r) fun z hz => h z (List.mem_cons_of_mem _ hz)
    rw [joinL, List.length_append, List.length_cons, List.length_cons (as := y :: r), Nat.add_mul]
    omega
/-- A valid position's text is read as this position. -/
theorem text_back {R : RulesM} {P : PosM} (hL : Lets R.pieces) (hn : R.pieces.length ≤ 6) (w0 : 1 ≤ R.width) (w1 : R.width ≤ 8) (g0 : 1 ≤ R.height) (g1 : R.height ≤ 8) (hs : soundE R P = 0) : readT R (textT R P) = some P := by
  have hs2 := hs
  unfold soundE at hs2
  have hf : formB R P = true := by
    by_cases h : formB R P = true
    · exact h
    · rw [if_neg h] at hs2; cases hs2
  rw [if_pos hf] at hs2
  have hr : rangeB R.pieces.length P = true := by
    by_cases h : rangeB R.pieces.length P = true
    · exact h
    · rw [if_neg h] at hs2; cases hs2
  unfold formB at hf
  unfold rangeB inB at hr
  simp only [Bool.and_eq_true, decide_eq_true_eq, List.all_eq_true, Bool.or_eq_true] at hf hr
  obtain ⟨f1, f2, f3⟩ := hf
  obtain ⟨r1, r2, r3, r4⟩ := hr
  obtain ⟨W, hW⟩ := Int.eq_ofNat_of_zero_le (show 0 ≤ R.width by omega)
  obtain ⟨H, hH⟩ := Int.eq_ofNat_of_zero_le (show 0 ≤ R.height by omega)
  have hc : P.cells.length = H * W := by rw [hW, hH, ← Int.natCast_mul] at f1; rw [Nat.mul_comm]; exact Int.ofNat.inj f1
  have h0 : ∀ n ∈ P.hand0, 0 ≤ n ∧ n ≤ 1000 := fun n h => r2 n (List.mem_append_left _ h)
  have h1 : ∀ n ∈ P.hand1, 0 ≤ n ∧ n ≤ 1000 := fun n h => r2 n (List.mem_append_right _ h)
  have hrow : ∀ y, ∀ c ∈ (P.cells.drop (y * W)).take W, 0 ≤ c ∧ c ≤ 2 * (R.pieces.length : Int) := fun y c hc => r1 c (List.mem_of_mem_drop (List.mem_of_mem_take hc))
  have hrl : ∀ y, ((P.cells.drop (y * W)).take W).length ≤ W := fun y => List.length_take_le _ _
  have eW : R.width.toNat = W := by omega
  have eH : R.height.toNat = H := by omega
  have hrT : rowsT R P.cells = ((List.range H).map fun y => rowT R.pieces 0 ((P.cells.drop (y * W)).take W)).reverse := by unfold rowsT; rw [eW, eH]
  have hne : rowsT R P.cells ≠ [] := by
    rw [hrT]
    intro e
    have := congrArg List.length e
    simp at this
    omega
  have hmem : ∀ x ∈ rowsT R P.cells, ∀ b ∈ x, 48 ≤ b.toNat := fun x hx b hb => by
    rw [hrT] at hx
    obtain ⟨y, _, rfl⟩ := List.mem_map.1 (List.mem_reverse.1 hx)
    exact row_ge hL _ 0 (hrow y) b hb
  have ht : ∃ t : Nat, P.turn + 1 = (t : Int) ∧ t < 10 := by
    rcases r3 with r3 | r3
    · exact ⟨1, by omega, by omega⟩
    · exact ⟨2, by omega, by omega⟩
  obtain ⟨t, ht, ht2⟩ := ht
  obtain ⟨q, hq⟩ := Int.eq_ofNat_of_zero_le (show 0 ≤ P.quiet by omega)
  have hsp : splitL 32 (textT R P) = [joinL 47 (rowsT R P.cells), handS R.pieces P.hand0, handS R.pieces P.hand1, decDigits t, decDigits q] := by
    unfold textT
    rw [split_cat, split_cat, split_cat, split_cat, split_one, ht, hq, itoa_nonneg, itoa_nonneg]
    · rw [hq, itoa_nonneg]; exact fun b hb => ne_of_ge (by have := dec_ge q b hb; show 32 < _; omega)
    · rw [ht, itoa_nonneg]; exact fun b hb => ne_of_ge (by have := dec_ge t b hb; show 32 < _; omega)
    · exact fun b hb => ne_of_ge (by have := handS_ge hL (fun n h => (h1 n h).1) b hb; show 32 < _; omega)
    · exact fun b hb => ne_of_ge (by have := handS_ge hL (fun n h => (h0 n h).1) b hb; show 32 < _; omega)
    · intro b hb
      rcases join_mem hb with rfl | ⟨x, hx, hb⟩
      · decide
      · exact ne_of_ge (by have := hmem x hx b hb; show 32 < _; omega)
  have hpart : partsR R (joinL 47 (rowsT R P.cells)) (handS R.pieces P.hand0) (handS R.pieces P.hand1) (decDigits t) (decDigits q) = P := by
    unfold partsR
    rw [split_join hne (fun x hx b hb => ne_of_ge (by have := hmem x hx b hb; show 47 < _; omega)), handS_back hL h0 f2, handS_back hL h1 f3]
    have n1 := numR_dec (u := t) (by omega) (s := []) (fun b r e => by cases e)
    have n2 := numR_dec (u := q) (by omega) (s := []) (fun b r e => by cases e)
    rw [List.append_nil] at n1 n2
    rw [n1, n2, hrT, List.reverse_reverse, eW, List.flatMap_map]
    have hb : ∀ y, readRowR R.pieces W ((rowT R.pieces 0 ((P.cells.drop (y * W)).take W)).length + 1) [] (rowT R.pieces 0 ((P.cells.drop (y * W)).take W)) = (P.cells.drop (y * W)).take W := fun y => by
      rw [row_back hL (by omega) _ 0 _ [] (hrow y) (by have := hrl y; simp only [List.length_nil, Nat.zero_add, Nat.add_zero]; exact this) (Nat.le_refl _)]
      simp
    simp only [hb]
    rw [rows_all, ← hc, List.take_length]
    obtain ⟨a, b, c, d, e⟩ := P
    simp only at ht hq ⊢
    rw [← ht, ← hq]
    congr 1
    omega
  have hlen : ¬ 8192 < (textT R P).length := by
    have l1 := joinL_len (c := 47) (n := 17) (L := rowsT R P.cells) (fun x hx => by
      rw [hrT] at hx
      obtain ⟨y, _, rfl⟩ := List.mem_map.1 (List.mem_reverse.1 hx)
      have e1 := row_len hL ((P.cells.drop (y * W)).take W) 0 (by have := hrl y; omega)
      have e2 := hrl y
      omega)
    have l2 : (rowsT R P.cells).length = H := by rw [hrT]; simp
    rw [l2] at l1
    have hh : ∀ l : List Int, (∀ n ∈ l, 0 ≤ n ∧ n ≤ 1000) → l.length = R.pieces.length → (handS R.pieces l).length ≤ 31 := fun l hl hl2 => by
      unfold handS
      split
      · simp
      · have := handT_len (ps := R.pieces) l hl R.pieces
        omega
    have l3 := hh _ h0 f2
    have l4 := hh _ h1 f3
    unfold textT
    simp only [List.length_append, List.length_cons]
    rw [ht, hq, itoa_nonneg, itoa_nonneg, decDigits_length, decDigits_length]
    have := nDigits_le4 (u := t) (by omega)
    have := nDigits_le4 (u := q) (by omega)
    omega
  unfold readT
  rw [if_neg hlen, hsp]
  simp only [hpart]
  rw [if_pos ⟨hs, trivial⟩]
end Go.Proofs.YtdoibgmmijhlfaaDoor
namespace Go.Proofs.YtdoibgmmijhlfaaDoor
set_option linter.unusedVariables false
theorem join_eq (c : UInt8) : ∀ L : List BL, Lib.join L [c] = joinL c L
  | [] => rfl
  | [x] => by simp [Lib.join, List.intercalate, joinL]
  | x :: y :: r => by
    have ih := join_eq c (y :: r)
    unfold Lib.join List.intercalate at ih ⊢
    rw [joinL, ← ih]
    simp [List.intersperse]
theorem piece_zero {ps : List PieceM} {i : Nat} {p : PieceM} (hp : ps[i]? = some p) (h : pieceE ps i = 0) : (65 ≤ p.letter ∧ p.letter ≤ 90) ∧ ∀ (j : Nat) q, j < i → ps[j]? = some q → q.letter ≠ p.letter := by
  unfold pieceE at h
  rw [hp] at h
  simp only at h
  by_cases h1 : inB p.letter 65 90 = true
  · rw [if_neg (by simp [h1])] at h
    by_cases h2 : (ps.take i).any (fun q => decide (q.letter = p.letter)) = true
    · rw [if_pos h2] at h
      exact absurd h (by decide)
    · refine ⟨by unfold inB at h1; simpa using h1, fun j q hj hq e => h2 ?_⟩
      rw [List.any_eq_true]
      exact ⟨q, List.mem_of_getElem? (i := j) (by rw [List.getElem?_take_of_lt hj]; exact hq), by simpa using e⟩
  · rw [if_pos (by simpa using h1)] at h
    exact absurd h (by decide)
theorem lets_of {R : RulesM} (h : rulesE R = 0) : Lets R.pieces := by
  have hp : piecesE R.pieces = 0 := by
    unfold rulesE at h
    by_cases h1 : nameB R.name = true
    · rw [if_neg (by simp [h1])] at h
      by_cases h2 : (inB R.width 1 8 && inB R.height 1 8) = true
      · rw [if_neg (by simpa using h2)] at h
        by_cases h3 : piecesE R.pieces = 0
        · exact h3
        · rw [if_pos h3] at h
          exact h
      · rw [if_pos (by rw [Bool.not_eq_true] at h2; rw [h2]; rfl)] at h
        exact absurd h (by decide)
    · rw [if_pos (by simpa using h1)] at h
      exact absurd h (by decide)
  have hz : ∀ j, j < R.pieces.length → pieceE R.pieces j = 0 := by
    unfold piecesE at hp
    by_cases h1 : R.pieces.length = 0
    · intro j hj; omega
    · rw [if_neg h1] at hp
      by_cases h2 : 6 < R.pieces.length
      · rw [if_pos h2] at hp
        exact absurd hp (by decide)
      · rw [if_neg h2] at hp
        intro j hj
        exact (firstE_zero _ _ _).1 hp j (Nat.zero_le _) (by omega)
  refine ⟨fun i p hi => (piece_zero hi (hz i (List.getElem?_eq_some_iff.1 hi).1)).1, fun i j p q hi hj he => ?_⟩
  rcases Nat.lt_trichotomy i j with hlt | rfl | hlt
  · exact absurd he ((piece_zero hj (hz j (List.getElem?_eq_some_iff.1 hj).1)).2 i p hlt hi)
  · rfl
  · exact absurd he.symm ((piece_zero hi (hz i (List.getElem?_eq_some_iff.1 hi).1)).2 j q hlt hj)
theorem index_cons (b c : UInt8) (l : BL) (h : b ≠ c) : Lib.index (b :: l) [c] = if Lib.index l [c] == -1 then -1 else Lib.index l [c] + 1 := by
  have hp : ([c] : List UInt8).isPrefixOf (b :: l) = false := by simp [List.isPrefixOf, Ne.symm h]
  rw [Lib.index, hp]; simp
theorem index_here (c : UInt8) (l : BL) : Lib.index (c :: l) [c] = 0 := by rw [Lib.index]; simp [List.isPrefixOf]
theorem splitK_eq (c : UInt8) : ∀ (s : BL) (k : Nat), k = s.count c → Lib.splitK [c] 0 k s = splitL c s
  | [], k, h => by
    have h0 : k = 0 := by simpa using h
    subst h0
    rfl
  | b :: l, k, h => by
    by_cases hb : b = c
    · subst hb
      rw [List.count_cons_self] at h
      subst h
      rw [Lib.splitK, index_here, splitL, if_pos rfl]
      have ih := splitK_eq b l _ rfl
      simpa using ih
    · rw [List.count_cons_of_ne hb] at h
      have ih := splitK_eq c l k h
      rw [splitL, if_neg hb, ← ih]
      cases k with
      | zero => rfl
      | succ k =>
        rw [Lib.splitK, Lib.splitK, index_cons b c l hb]
        by_cases hi : Lib.index l [c] = -1
        · simp [hi]
        · have hge : 0 ≤ Lib.index l [c] := by
            have := Lib.index_ge l [c]
            omega
          obtain ⟨i, hi2⟩ := Int.eq_ofNat_of_zero_le hge
          rw [hi2]
          have e1 : ((i : Int) == -1) = false := beq_eq_false_iff_ne.2 (by omega)
          have e2 : (((i : Int) + 1) == -1) = false := beq_eq_false_iff_ne.2 (by omega)
          rw [e1]
          simp only [Bool.false_eq_true, if_false, e2]
          have e3 : ((i : Int) + 1).toNat = i + 1 := by omega
          rw [e3]
          simp
end Go.Proofs.YtdoibgmmijhlfaaDoor
namespace Go.Proofs.YtdoibgmmijhlfaaDoor
set_option linter.unusedVariables false
theorem atoi_rng {l : BL} {v : Int} (h : Lib.atoiAll l = .ok v) : -9223372036854775808 ≤ v ∧ v ≤ 9223372036854775807 := by
  unfold Lib.atoiAll at h
  split at h
  · cases h
  · rename_i c r
    simp only at h
    split at h
    · cases h
    · cases h
    · rename_i u hu
      split at h
      · cases h
      · split at h
        · cases h
        · injection h with h
          subst h
          split <;> omega
theorem atoi_dig {l : BL} {v : Int} (hd : ∀ b ∈ l, digU b = true) (h : Lib.atoiAll l = .ok v) : 0 ≤ v := by
  unfold Lib.atoiAll at h
  split at h
  · cases h
  · rename_i c r
    have hc := digU_iff.1 (hd c List.mem_cons_self)
    simp only at h
    split at h
    · cases h
    · cases h
    · split at h
      · cases h
      · split at h
        · cases h
        · injection h with h
          subst h
          rw [if_neg (by omega)]
          omega
theorem all_take (p : UInt8 → Bool) : ∀ (s : BL), ∀ b ∈ s.takeWhile p, p b = true
  | [], b, h => by cases h
  | a :: s, b, h => by
    rw [List.takeWhile_cons] at h
    split at h
    · rename_i ha
      rcases List.mem_cons.1 h with rfl | h
      · exact ha
      · exact all_take p s b h
    · cases h
theorem numR_rng (s : BL) : -1 ≤ (numR s).1 ∧ (numR s).1 ≤ 9223372036854775807 := by
  unfold numR
  split
  · rename_i v hv
    exact ⟨by have := atoi_dig (all_take digU s) hv; show -1 ≤ v; omega, (atoi_rng hv).2⟩
  · exact ⟨Int.le_refl _, show (-1 : Int) ≤ 9223372036854775807 by decide⟩
/-- The cells of the first rows. -/
def cellsR (ps : List PieceM) (W : Nat) (L : List BL) : List Int := L.flatMap fun x => readRowR ps W (x.length + 1) [] x
theorem cellsR_snoc (ps : List PieceM) (W : Nat) {L : List BL} {k : Nat} {x : BL} (h : L[k]? = some x) : cellsR ps W (L.take (k + 1)) = cellsR ps W (L.take k) ++ readRowR ps W (x.length + 1) [] x := by
  unfold cellsR
  rw [List.take_add_one, h, List.flatMap_append]
  simp
theorem splitL_sub (c : UInt8) : ∀ (s : BL) (x : BL), x ∈ splitL c s → x.length ≤ s.length
  | [], x, h => by
    obtain rfl := List.mem_singleton.1 h
    exact Nat.le_refl _
  | b :: l, x, h => by
    rw [splitL] at h
    have ih := splitL_sub c l
    split at h
    · rcases List.mem_cons.1 h with rfl | h
      · simp
      · have := ih x h; rw [List.length_cons]; omega
    · split at h
      · obtain rfl := List.mem_singleton.1 h
        simp
      · rename_i y ys hy
        rcases List.mem_cons.1 h with rfl | h
        · have := ih y (by rw [hy]; exact List.mem_cons_self)
          rw [List.length_cons, List.length_cons]; omega
        · have := ih x (by rw [hy]; exact List.mem_cons_of_mem _ h)
          rw [List.length_cons]; omega
theorem splitL_cnt (c : UInt8) : ∀ s : BL, (splitL c s).length ≤ s.length + 1
  | [] => by simp [splitL]
  | b :: l => by
    have ih := splitL_cnt c l
    rw [splitL]
    split
    · rw [List.length_cons, List.length_cons]; omega
    · split
      · simp
      · rename_i y ys hy
        rw [hy] at ih
        rw [List.length_cons] at ih ⊢
        rw [List.length_cons]; omega
end Go.Proofs.YtdoibgmmijhlfaaDoor
