/- Search trees as plain data. No program. Search trees in memory: the blocks of their nodes, and what stays where others change. Proof-number search as plain data: what is proved agrees with the scores. No program. Proof-number search as a loop with a budget, as plain data. No program. -/
import Derived.Test.YtdoibgmmijhlfaaGMini
import Derived.Test.YtdoibgmmijhlfaaGRowP
import Derived.Test.YtdoibgmmijhlfaaGPerft
namespace Go.Proofs.Ytdoibgmmijhlfaa
set_option linter.unusedVariables false
/-- A node of a search tree: its position, two numbers, whether it has been expanded, its children. -/
inductive NT where
  | node (P : PosM) (a b : Int) (ex : Bool) (kids : List NT)
def NT.pos : NT → PosM | .node P _ _ _ _ => P
def NT.a : NT → Int | .node _ a _ _ _ => a
def NT.b : NT → Int | .node _ _ b _ _ => b
def NT.ex : NT → Bool | .node _ _ _ ex _ => ex
def NT.kids : NT → List NT | .node _ _ _ _ ks => ks
def NT.nil : NT := .node { cells := [], hand0 := [], hand1 := [], turn := 0, quiet := 0 } 0 0 false []
/-- A tree has at most so many levels. -/
def Deep : Nat → NT → Prop
  | 0, _ => False
  | n + 1, t => ∀ k ∈ t.kids, Deep n k
theorem Deep.succ : ∀ {n : Nat} {t : NT}, Deep n t → Deep (n + 1) t
  | 0, _, h => h.elim
  | _ + 1, _, h => fun k hk => Deep.succ (h k hk)
theorem Deep.mono {n m : Nat} {t : NT} (h : Deep n t) (hm : n ≤ m) : Deep m t := by
  obtain ⟨k, rfl⟩ := Nat.le.dest hm
  clear hm
  induction k with
  | zero => exact h
  | succ k ih => exact ih.succ
/-- The first index below n with the least f. -/
def bestI (f : Nat → Int) : Nat → Nat
  | 0 => 0
  | k + 1 => if f k < f (bestI f k) then k else bestI f k
theorem bestI_spec (f : Nat → Int) : ∀ n, (1 ≤ n → bestI f n < n) ∧ ∀ j, j < n → f (bestI f n) ≤ f j
  | 0 => ⟨fun h => by omega, fun j h => by omega⟩
  | n + 1 => by
    obtain ⟨h1, h2⟩ := bestI_spec f n
    unfold bestI
    split
    · rename_i h
      refine ⟨fun _ => by omega, fun j hj => ?_⟩
      by_cases e : j = n
      · rw [e]; exact Int.le_refl _
      · have := h2 j (by omega); omega
    · rename_i h
      refine ⟨fun _ => ?_, fun j hj => ?_⟩
      · by_cases e : n = 0
        · subst e; show 0 < 1; omega
        · have := h1 (by omega); omega
      · by_cases e : j = n
        · subst e; omega
        · exact h2 j (by omega)
theorem bestI_lt {f : Nat → Int} {n : Nat} (h : 1 ≤ n) : bestI f n < n := (bestI_spec f n).1 h
theorem bestI_le {f : Nat → Int} {n : Nat} {j : Nat} (h : j < n) : f (bestI f n) ≤ f j := (bestI_spec f n).2 j h
mutual
/-- How many leaves a tree has. -/
def NT.sz : NT → Int
  | .node _ _ _ _ ks => max 1 (szs ks)
def szs : List NT → Int
  | [] => 0
  | k :: ks => k.sz + szs ks
end
theorem NT.sz_eq (t : NT) : t.sz = max 1 (szs t.kids) := by cases t; rfl
theorem szs_cons (k : NT) (ks : List NT) : szs (k :: ks) = k.sz + szs ks := rfl
theorem NT.sz_pos (t : NT) : 1 ≤ t.sz := by rw [t.sz_eq]; omega
theorem szs_nonneg : ∀ ks : List NT, 0 ≤ szs ks
  | [] => Int.le_refl _
  | k :: ks => by
    have h1 := k.sz_pos
    have h2 := szs_nonneg ks
    rw [szs_cons]
    omega
theorem szs_get : ∀ {ks : List NT} {i : Nat} {k : NT}, ks[i]? = some k → k.sz ≤ szs ks
  | [], i, k, h => by simp at h
  | x :: ks, 0, k, h => by
    simp only [List.getElem?_cons_zero, Option.some.injEq] at h
    subst h
    have := szs_nonneg ks
    rw [szs_cons]
    omega
  | x :: ks, i + 1, k, h => by
    have h1 := szs_get (ks := ks) (i := i) (k := k) (by simpa using h)
    have h2 := x.sz_pos
    rw [szs_cons]
    omega
theorem szs_set : ∀ {ks : List NT} {i : Nat} {k k' : NT}, ks[i]? = some k → szs (ks.set i k') = szs ks - k.sz + k'.sz
  | [], i, k, k', h => by simp at h
  | x :: ks, 0, k, k', h => by
    simp only [List.getElem?_cons_zero, Option.some.injEq] at h
    subst h
    rw [List.set_cons_zero, szs_cons, szs_cons]
    omega
  | x :: ks, i + 1, k, k', h => by
    have h1 := szs_set (ks := ks) (i := i) (k := k) (k' := k') (by simpa using h)
    rw [List.set_cons_succ, szs_cons, szs_cons, h1]
    omega
theorem kid_sz {t k : NT} {i : Nat} (h : t.kids[i]? = some k) : k.sz ≤ t.sz := by
  have h1 := szs_get h
  rw [t.sz_eq]
  omega
end Go.Proofs.Ytdoibgmmijhlfaa
namespace Go.Proofs.Ytdoibgmmijhlfaa
open Go.ChangeShapes Go.WideShapes Go.ChangeAt Go.RowKit Go.Shelf
set_option linter.unusedVariables false
set_option linter.unusedSimpArgs false
/-- A position of an argument, or one whose lists lie in blocks of their own. -/
def PosS (w0 W : World) (v : Value) (P : PosM) : Prop := PosAt w0 v P ∨ PosI W v P
theorem PosS.at_ {w0 W : World} {v : Value} {P : PosM} (h : PosS w0 W v P) (x : Ext w0 W) : PosAt W v P := h.elim (fun h => h.ext x) (fun h => h.at_)
theorem PosS.tfr {ts : List TypeId} {w0 w W : World} {v : Value} {P : PosM} (h : PosS w0 w v P) (he : 3 ∉ ts) (f : TFr ts w W) : PosS w0 W v P := h.imp id (fun h => h.tfr he f)
/-- Of the blocks of type TN those of S may have changed; all others are as they were. -/
def MFr (TN : TypeId) (S : Nat → Prop) (w W : World) : Prop := ∀ g t cs, Blk w g t cs → (t = TN → ¬ S g) → Blk W g t cs
theorem MFr.refl (TN : TypeId) (S : Nat → Prop) (w : World) : MFr TN S w w := fun _ _ _ h _ => h
theorem MFr.of_ext {TN : TypeId} {S : Nat → Prop} {w W : World} (x : Ext w W) : MFr TN S w W := fun _ _ _ h _ => h.ext x
theorem MFr.mono {TN : TypeId} {S T : Nat → Prop} {w W : World} (h : MFr TN S w W) (hs : ∀ b, S b → T b) : MFr TN T w W := fun g t cs hb hn => h g t cs hb (fun e k => hn e (hs g k))
theorem MFr.trans {TN : TypeId} {S : Nat → Prop} {a b c : World} (h : MFr TN S a b) (k : MFr TN S b c) : MFr TN S a c := fun g t cs hb hn => k g t cs (h g t cs hb hn) hn
/-- Blocks that are new since a may have changed, too. -/
theorem MFr.later {TN : TypeId} {S T : Nat → Prop} {a b c : World} (h : MFr TN S a b) (k : MFr TN T b c) (hT : ∀ g, T g → S g ∨ a.heap.size ≤ g) : MFr TN S a c := fun g t cs hb hn => k g t cs (h g t cs hb hn) (fun e ht => by
  rcases hT g ht with hs | hs
  · exact hn e hs
  · have := hb.lt; omega)
theorem MFr.tfr {TN : TypeId} {S : Nat → Prop} {w W : World} (h : MFr TN S w W) {ts : List TypeId} (ht : TN ∈ ts) : TFr ts w W := fun g t cs hb hn => h g t cs hb (fun e => absurd (e ▸ ht) hn)
theorem MFr.set {TN : TypeId} {S : Nat → Prop} {w : World} {B : Nat} {cs : Array Value} (k : Blk w B TN cs) (hB : S B) (i : Nat) (u : Value) : MFr TN S w (w.setCell ⟨B, i, none⟩ u) := fun g t cs' hb hn => hb.far (p := ⟨B, i, none⟩) (by
  rintro rfl
  have e := hb.symm.trans k
  simp only [Option.some.injEq, Obj.cells.injEq] at e
  exact hn e.2.1 hB) u
theorem MFr.grown {TN : TypeId} {S : Nat → Prop} {w W : World} {B : Nat} (g : w.grownBy W (some B)) (hB : w.heap.size ≤ B) : MFr TN S w W := fun b t cs hb _ => hb.grown g (by
  have := hb.lt
  simp only [ne_eq, Option.some.injEq]
  omega)
theorem blk_ne {w : World} {g g' : Nat} {t t' : TypeId} {cs cs' : Array Value} (h : Blk w g t cs) (k : Blk w g' t' cs') (hne : t ≠ t') : g ≠ g' := by
  rintro rfl
  have e := h.symm.trans k
  simp only [Option.some.injEq, Obj.cells.injEq] at e
  exact hne e.2.1
theorem MFr.of_gr {TN : TypeId} {S : Nat → Prop} {w W : World} {B : Nat} {cs : Array Value} (h : Gr B w W) (k : Blk w B TN cs) (hB : S B) : MFr TN S w W := fun g t cs' hb hn => h.blk hb (by
  rintro rfl
  have e := hb.symm.trans k
  simp only [Option.some.injEq, Obj.cells.injEq] at e
  exact hn e.2.1 hB)
theorem PosS.mfr {TN : TypeId} (hI : 3 ≠ TN) {S : Nat → Prop} {w0 w W : World} {v : Value} {P : PosM} (h : PosS w0 w v P) (f : MFr TN S w W) : PosS w0 W v P := h.tfr (ts := [TN]) (by simpa using hI) (f.tfr (List.mem_singleton.2 rfl))
theorem Gr.own {B : Nat} {a b c : World} {row : Option Nat} (h : Gr B a b) (g : b.grownBy c row) (hr : ∀ k, row = some k → a.heap.size ≤ k) : Gr B a c :=
  ⟨g.os.trans h.os, g.tape.trans h.tape, g.output.trans h.output, Nat.le_trans h.size g.size, fun q hq hn => (g.block q (Nat.lt_of_lt_of_le hq h.size) (fun e => by
    have := hr q e.symm
    omega)).trans (h.block q hq hn)⟩
def ptrV (b : Nat) : Value := .pointer (some ⟨b, 0, none⟩)
/-- A tree at block B: TN the type of its nodes, PT that of pointers to them, lay the cells of a node; S: the blocks of its nodes. All of it is newer than w0, but for positions. -/
def TreeAt (TN PT : TypeId) (lay : Value → Value → Value → Value → Value → Int → Int → Bool → Value → Array Value) (w0 : World) : Nat → World → Nat → NT → (Nat → Prop) → Prop
  | 0, _, _, _, _ => False
  | n + 1, W, B, t, S => ∃ (c0 c1 c2 c3 c4 : Value) (A : Option Addr) (c : Nat) (bs : List Nat) (Ss : Nat → Nat → Prop),
      Blk W B TN (lay c0 c1 c2 c3 c4 t.a t.b t.ex (.slice A t.kids.length c)) ∧ PosS w0 W (.agg #[c0, c1, c2, c3, c4]) t.pos ∧
      W.ownsRow w0.heap.size PT 1 (.slice A t.kids.length c) t.kids.length (bs.map ptrV) ∧ (t.kids = [] → A = none ∧ c = 0) ∧ w0.heap.size ≤ B ∧ bs.length = t.kids.length ∧
      (∀ i k b, t.kids[i]? = some k → bs[i]? = some b → TreeAt TN PT lay w0 n W b k (Ss i)) ∧
      (∀ i, i < t.kids.length → ¬ Ss i B) ∧ (∀ i j, i < t.kids.length → j < t.kids.length → i ≠ j → ∀ b, Ss i b → ¬ Ss j b) ∧
      (∀ b, S b ↔ b = B ∨ ∃ i, i < t.kids.length ∧ Ss i b)
section
variable {TN PT : TypeId} {lay : Value → Value → Value → Value → Value → Int → Int → Bool → Value → Array Value} {w0 : World}
theorem TreeAt.root : ∀ {n : Nat} {W : World} {B : Nat} {t : NT} {S : Nat → Prop}, TreeAt TN PT lay w0 n W B t S → S B
  | 0, _, _, _, _, h => h.elim
  | _ + 1, _, _, _, _, ⟨_, _, _, _, _, _, _, _, _, _, _, _, _, _, _, _, _, _, h⟩ => (h _).2 (.inl rfl)
theorem kid_of {bs : List Nat} {ks : List NT} (h : bs.length = ks.length) {i : Nat} (hi : i < ks.length) : ∃ k b, ks[i]? = some k ∧ bs[i]? = some b :=
  ⟨ks[i], bs[i]'(by omega), List.getElem?_eq_getElem _, List.getElem?_eq_getElem _⟩
theorem TreeAt.blk : ∀ {n : Nat} {W : World} {B : Nat} {t : NT} {S : Nat → Prop}, TreeAt TN PT lay w0 n W B t S → ∀ b, S b → w0.heap.size ≤ b ∧ ∃ cs, Blk W b TN cs
  | 0, _, _, _, _, h => h.elim
  | n + 1, W, B, t, S, ⟨c0, c1, c2, c3, c4, A, c, bs, Ss, h1, h2, h3, h4, h5, h6, h7, h8, h9, h10⟩ => fun b hb => by
    rcases (h10 b).1 hb with rfl | ⟨i, hi, hs⟩
    · exact ⟨h5, _, h1⟩
    · obtain ⟨k, b', hk, hb'⟩ := kid_of h6 hi
      exact (h7 i k b' hk hb').blk b hs
theorem TreeAt.lt {n : Nat} {W : World} {B : Nat} {t : NT} {S : Nat → Prop} (h : TreeAt TN PT lay w0 n W B t S) {b : Nat} (hb : S b) : b < W.heap.size := by
  obtain ⟨-, cs, k⟩ := h.blk b hb
  exact k.lt
theorem TreeAt.deep : ∀ {n : Nat} {W : World} {B : Nat} {t : NT} {S : Nat → Prop}, TreeAt TN PT lay w0 n W B t S → Deep n t
  | 0, _, _, _, _, h => h.elim
  | n + 1, W, B, t, S, ⟨c0, c1, c2, c3, c4, A, c, bs, Ss, h1, h2, h3, h4, h5, h6, h7, h8, h9, h10⟩ => fun k hk => by
    obtain ⟨i, hi⟩ := List.getElem?_of_mem hk
    obtain ⟨k', b, hk', hb⟩ := kid_of h6 (List.getElem?_eq_some_iff.1 hi).1
    rw [hi] at hk'
    cases hk'
    exact (h7 i k b hi hb).deep
theorem TreeAt.succ : ∀ {n : Nat} {W : World} {B : Nat} {t : NT} {S : Nat → Prop}, TreeAt TN PT lay w0 n W B t S → TreeAt TN PT lay w0 (n + 1) W B t S
  | 0, _, _, _, _, h => h.elim
  | n + 1, W, B, t, S, ⟨c0, c1, c2, c3, c4, A, c, bs, Ss, h1, h2, h3, h4, h5, h6, h7, h8, h9, h10⟩ =>
    ⟨c0, c1, c2, c3, c4, A, c, bs, Ss, h1, h2, h3, h4, h5, h6, fun i k b hk hb => (h7 i k b hk hb).succ, h8, h9, h10⟩
theorem TreeAt.mfr (hP : PT ≠ TN) (hI : 3 ≠ TN) : ∀ {n : Nat} {w W : World} {B : Nat} {t : NT} {S T : Nat → Prop}, TreeAt TN PT lay w0 n w B t S → MFr TN T w W → (∀ b, S b → ¬ T b) → TreeAt TN PT lay w0 n W B t S
  | 0, _, _, _, _, _, _, h, _, _ => h.elim
  | n + 1, w, W, B, t, S, T, ⟨c0, c1, c2, c3, c4, A, c, bs, Ss, h1, h2, h3, h4, h5, h6, h7, h8, h9, h10⟩, f, hd =>
    ⟨c0, c1, c2, c3, c4, A, c, bs, Ss, f B TN _ h1 (fun _ => hd B ((h10 B).2 (.inl rfl))), h2.tfr (ts := [TN]) (by simpa using hI) (f.tfr (List.mem_singleton.2 rfl)), own_tfr (ts := [TN]) h3 (by simpa using hP) (f.tfr (List.mem_singleton.2 rfl)), h4, h5, h6,
      fun i k b hk hb => (h7 i k b hk hb).mfr hP hI f (fun b' hb' => hd b' ((h10 b').2 (.inr ⟨i, (List.getElem?_eq_some_iff.1 hk).1, hb'⟩))), h8, h9, h10⟩
theorem TreeAt.ext (hP : PT ≠ TN) (hI : 3 ≠ TN) {n : Nat} {w W : World} {B : Nat} {t : NT} {S : Nat → Prop} (h : TreeAt TN PT lay w0 n w B t S) (x : Ext w W) : TreeAt TN PT lay w0 n W B t S :=
  h.mfr hP hI (T := fun _ => False) (MFr.of_ext x) (fun _ _ h => h)
end
end Go.Proofs.Ytdoibgmmijhlfaa
namespace Go.Proofs.Ytdoibgmmijhlfaa
set_option linter.unusedVariables false
def never : Int := 1099511627776
/-- The node of a position. -/
def leafN (R : RulesM) (a : Int) (P : PosM) : NT :=
  if resultM R P = 0 then .node P 1 1 false [] else if resultM R P = 1 + a then .node P 0 never false [] else .node P never 0 false []
def leastOf (l : List Int) : Int := l.foldl min never
def sumOf (l : List Int) : Int := l.foldl (fun s y => min (s + y) never) 0
/-- The number that the player looks at, and the other one. -/
def numA (own : Bool) (k : NT) : Int := if own then k.a else k.b
def numB (own : Bool) (k : NT) : Int := if own then k.b else k.a
def ownB' (a : Int) (P : PosM) : Bool := decide (P.turn = a)
/-- The numbers of a node, computed from its children. -/
def updN (a : Int) (t : NT) : NT :=
  if ownB' a t.pos then .node t.pos (leastOf (t.kids.map (numA true))) (sumOf (t.kids.map (numB true))) t.ex t.kids
  else .node t.pos (sumOf (t.kids.map (numB false))) (leastOf (t.kids.map (numA false))) t.ex t.kids
/-- The child at which the search goes on. -/
def kidI (a : Int) (t : NT) : Nat := bestI (fun j => numA (ownB' a t.pos) (t.kids.getD j NT.nil)) t.kids.length
def leavesN (R : RulesM) (a : Int) (P : PosM) : List NT := (listM R P).map fun m => leafN R a (makeM R P m)
def expandN (R : RulesM) (a : Int) : Nat → NT → NT
  | 0, t => t
  | n + 1, t => if t.ex then updN a (.node t.pos t.a t.b true (t.kids.set (kidI a t) (expandN R a n (t.kids.getD (kidI a t) NT.nil))))
    else updN a (.node t.pos t.a t.b true (leavesN R a t.pos))
theorem updN_pos (a : Int) (t : NT) : (updN a t).pos = t.pos := by unfold updN; split <;> rfl
theorem updN_kids (a : Int) (t : NT) : (updN a t).kids = t.kids := by unfold updN; split <;> rfl
theorem updN_ex (a : Int) (t : NT) : (updN a t).ex = t.ex := by unfold updN; split <;> rfl
theorem updN_sz (a : Int) (t : NT) : (updN a t).sz = t.sz := by rw [NT.sz_eq, NT.sz_eq, updN_kids]
theorem leafN_pos (R : RulesM) (a : Int) (P : PosM) : (leafN R a P).pos = P := by unfold leafN; split <;> (try split) <;> rfl
theorem leafN_kids (R : RulesM) (a : Int) (P : PosM) : (leafN R a P).kids = [] := by unfold leafN; split <;> (try split) <;> rfl
theorem leafN_ex (R : RulesM) (a : Int) (P : PosM) : (leafN R a P).ex = false := by unfold leafN; split <;> (try split) <;> rfl
theorem leafN_sz (R : RulesM) (a : Int) (P : PosM) : (leafN R a P).sz = 1 := by rw [NT.sz_eq, leafN_kids]; rfl
theorem expandN_pos (R : RulesM) (a : Int) : ∀ n t, (expandN R a n t).pos = t.pos
  | 0, t => rfl
  | n + 1, t => by
    unfold expandN
    split <;> rw [updN_pos] <;> rfl
/-- What the nodes of a tree are. -/
inductive PInv (R : RulesM) (a : Int) : NT → Prop
  | leaf (P : PosM) (hS : Sound R P) : PInv R a (leafN R a P)
  | exp (P : PosM) (x y : Int) (ks : List NT) (hS : Sound R P) (hr : resultM R P = 0) (hl : ks.length = (listM R P).length)
      (hp : ∀ (i : Nat) (k : NT) (m : MoveM), ks[i]? = some k → (listM R P)[i]? = some m → k.pos = makeM R P m)
      (hk : ∀ (i : Nat) (k : NT), ks[i]? = some k → PInv R a k) : PInv R a (updN a (.node P x y true ks))
theorem PInv.sound {R : RulesM} {a : Int} {t : NT} (h : PInv R a t) : Sound R t.pos := by
  cases h with
  | leaf P hS => rw [leafN_pos]; exact hS
  | exp P x y ks hS hr hl hp hk => rw [updN_pos]; exact hS
/-- What is gathered over the children. -/
structure TriB (l s S : Int) : Prop where
  l0 : 0 ≤ l
  l1 : l ≤ never
  s0 : 0 ≤ s
  s1 : s ≤ never
  z1 : l = 0 ↔ s = never
  z2 : s = 0 ↔ l = never
  b1 : l ≠ never → l ≤ S
  b2 : s ≠ never → s ≤ S
theorem tri_step {l s S x y z : Int} (h : TriB l s S) (k : TriB x y z) (hS : 0 ≤ S) (hz : 0 ≤ z) (hb : S + z < never) : TriB (min l x) (min (s + y) never) (S + z) := by
  obtain ⟨a1, a2, a3, a4, a5, a6, a7, a8⟩ := h
  obtain ⟨b1, b2, b3, b4, b5, b6, b7, b8⟩ := k
  constructor <;> (unfold never at *; omega)
theorem tri_fold (f g z : NT → Int) : ∀ (ks : List NT) (l s S : Int), TriB l s S → 0 ≤ S → (∀ k ∈ ks, TriB (f k) (g k) k.sz) → S + szs ks < never →
    TriB ((ks.map f).foldl min l) ((ks.map g).foldl (fun s y => min (s + y) never) s) (S + szs ks)
  | [], l, s, S, h, _, _, _ => by
    have e : S + szs [] = S := by show S + 0 = S; omega
    rw [e]; exact h
  | k :: ks, l, s, S, h, hS, hk, hb => by
    rw [szs_cons] at hb ⊢
    have h1 := k.sz_pos
    have h2 := szs_nonneg ks
    have := tri_fold f g z ks (min l (f k)) (min (s + g k) never) (S + k.sz) (tri_step h (hk k (by simp)) hS (by omega) (by omega)) (by omega) (fun x hx => hk x (by simp [hx])) (by omega)
    rw [show S + (k.sz + szs ks) = S + k.sz + szs ks by omega]
    exact this
theorem TriB.mono {l s S T : Int} (h : TriB l s S) (hT : S ≤ T) : TriB l s T := by
  obtain ⟨a1, a2, a3, a4, a5, a6, a7, a8⟩ := h
  exact ⟨a1, a2, a3, a4, a5, a6, fun h => Int.le_trans (a7 h) hT, fun h => Int.le_trans (a8 h) hT⟩
theorem TriB.swap {l s S : Int} (h : TriB l s S) : TriB s l S := by
  obtain ⟨a1, a2, a3, a4, a5, a6, a7, a8⟩ := h
  exact ⟨a3, a4, a1, a2, a6, a5, a8, a7⟩
theorem tri_start : TriB never 0 0 := by
  constructor <;> (try unfold never) <;> omega
theorem tri_kids (own : Bool) (ks : List NT) (hk : ∀ k ∈ ks, TriB k.a k.b k.sz) (hb : szs ks < never) : TriB (leastOf (ks.map (numA own))) (sumOf (ks.map (numB own))) (szs ks) := by
  have h := tri_fold (numA own) (numB own) (fun _ => 0) ks never 0 0 tri_start (Int.le_refl _) (fun k hk' => by
    cases own
    · exact (hk k hk').swap
    · exact hk k hk') (by omega)
  rw [Int.zero_add] at h
  exact h
theorem PInv.tri {R : RulesM} {a : Int} {t : NT} (h : PInv R a t) : t.sz < never → TriB t.a t.b t.sz := by
  induction h with
  | leaf P hS =>
    intro _
    rw [leafN_sz]
    unfold leafN
    split
    · show TriB 1 1 1
      constructor <;> (try unfold never) <;> omega
    · split
      · show TriB 0 never 1
        constructor <;> (try unfold never) <;> omega
      · show TriB never 0 1
        constructor <;> (try unfold never) <;> omega
  | exp P x y ks hS hr hl hp hk ih =>
    intro hs
    rw [updN_sz, NT.sz_eq] at hs
    have hs' : szs ks < never := by
      have : szs ks ≤ max 1 (szs ks) := by omega
      have h2 : max 1 (szs ks) < never := hs
      omega
    have hall : ∀ k ∈ ks, TriB k.a k.b k.sz := fun k hk' => by
      obtain ⟨i, hi⟩ := List.getElem?_of_mem hk'
      have := szs_get hi
      exact ih i k hi (by omega)
    have ht := fun own => tri_kids own ks hall hs'
    have e : (updN a (NT.node P x y true ks)).sz = max 1 (szs ks) := by rw [updN_sz]; rfl
    rw [e]
    have hm : szs ks ≤ max 1 (szs ks) := by omega
    unfold updN
    split
    · exact (ht true).mono hm
    · exact ((ht false).mono hm).swap
/-- A node whose numbers are not 0. -/
def OpenN (t : NT) : Prop := t.a ≠ 0 ∧ t.b ≠ 0
theorem least_le : ∀ (l : List Int) (s : Int), l.foldl min s ≤ s ∧ ∀ x ∈ l, l.foldl min s ≤ x
  | [], s => ⟨Int.le_refl _, by simp⟩
  | y :: l, s => by
    obtain ⟨h1, h2⟩ := least_le l (min s y)
    refine ⟨by show l.foldl min (min s y) ≤ s; omega, fun x hx => ?_⟩
    show l.foldl min (min s y) ≤ x
    rcases List.mem_cons.1 hx with rfl | hx
    · omega
    · exact h2 x hx
theorem least_ge : ∀ (l : List Int) (s c : Int), c ≤ s → (∀ x ∈ l, c ≤ x) → c ≤ l.foldl min s
  | [], s, c, h, _ => h
  | y :: l, s, c, h, hl => least_ge l (min s y) c (by have := hl y (by simp); omega) (fun x hx => hl x (by simp [hx]))
theorem least_mem : ∀ (l : List Int) (s : Int), l.foldl min s = s ∨ l.foldl min s ∈ l
  | [], s => .inl rfl
  | y :: l, s => by
    rcases least_mem l (min s y) with h | h
    · by_cases hc : s ≤ y
      · exact .inl (by show l.foldl min (min s y) = s; rw [h]; omega)
      · exact .inr (by show l.foldl min (min s y) ∈ y :: l; rw [h, show min s y = y by omega]; simp)
    · exact .inr (by show l.foldl min (min s y) ∈ y :: l; simp [h])
theorem sum_zero' : ∀ (l : List Int) (s : Int), 0 ≤ s → (∀ y ∈ l, 0 ≤ y) → l.foldl (fun s y => min (s + y) never) s = 0 → s = 0 ∧ ∀ y ∈ l, y = 0
  | [], s, _, _, h => ⟨h, by simp⟩
  | y :: l, s, hs, hl, h => by
    have hy := hl y (by simp)
    have hn : (0 : Int) < never := by unfold never; omega
    obtain ⟨h1, h2⟩ := sum_zero' l (min (s + y) never) (by omega) (fun x hx => hl x (by simp [hx])) h
    refine ⟨by omega, fun x hx => ?_⟩
    rcases List.mem_cons.1 hx with rfl | hx
    · omega
    · exact h2 x hx
theorem getD_get {ks : List NT} {i : Nat} (h : i < ks.length) : ks[i]? = some (ks.getD i NT.nil) := by
  rw [List.getD_eq_getElem?_getD, List.getElem?_eq_getElem h]; rfl
/-- The child that is chosen below an open node is open. -/
theorem kid_open {R : RulesM} {a : Int} {t : NT} (h : PInv R a t) (hx : t.ex = true) (ho : OpenN t) (hs : t.sz < never) : kidI a t < t.kids.length ∧ t.kids[kidI a t]? = some (t.kids.getD (kidI a t) NT.nil) ∧ PInv R a (t.kids.getD (kidI a t) NT.nil) ∧ OpenN (t.kids.getD (kidI a t) NT.nil) ∧ (t.kids.getD (kidI a t) NT.nil).sz < never := by
  cases h with
  | leaf P hS => rw [leafN_ex] at hx; exact absurd hx (by decide)
  | exp P x y ks hS hr hl hp hk =>
    have hne : 1 ≤ ks.length := by
      have := moves_open hS.turn hr
      rw [hl]
      exact List.length_pos_iff.2 this
    have hI := PInv.exp P x y ks hS hr hl hp hk
    have htri := hI.tri hs
    generalize hj : kidI a (updN a (NT.node P x y true ks)) = j
    have hj' : j = bestI (fun j => numA (ownB' a P) (ks.getD j NT.nil)) ks.length := by rw [← hj]; unfold kidI; rw [updN_pos, updN_kids]; rfl
    rw [updN_kids]
    show j < ks.length ∧ ks[j]? = some (ks.getD j NT.nil) ∧ PInv R a (ks.getD j NT.nil) ∧ OpenN (ks.getD j NT.nil) ∧ (ks.getD j NT.nil).sz < never
    have hlt : j < ks.length := by rw [hj']; exact bestI_lt hne
    have hg := getD_get hlt
    have hkp := hk j _ hg
    have hsz := kid_sz (t := updN a (NT.node P x y true ks)) (i := j) (k := ks.getD j NT.nil) (by rw [updN_kids]; exact hg)
    have hks : (ks.getD j NT.nil).sz < never := by omega
    have hkt := hkp.tri hks
    refine ⟨hlt, hg, hkp, ?_, hks⟩
    have hmin : ∀ i, i < ks.length → numA (ownB' a P) (ks.getD j NT.nil) ≤ numA (ownB' a P) (ks.getD i NT.nil) := fun i hi => by
      rw [hj']; exact bestI_le (f := fun j => numA (ownB' a P) (ks.getD j NT.nil)) hi
    have hle := (least_le (ks.map (numA (ownB' a P))) never).2 (numA (ownB' a P) (ks.getD j NT.nil)) (List.mem_map.2 ⟨_, List.mem_of_getElem? hg, rfl⟩)
    have hnv : numA (ownB' a P) (ks.getD j NT.nil) ≤ never := by
      cases ownB' a P
      · exact hkt.s1
      · exact hkt.l1
    have hge := least_ge (ks.map (numA (ownB' a P))) never (numA (ownB' a P) (ks.getD j NT.nil)) hnv (fun x hx => by
      obtain ⟨k, hk', rfl⟩ := List.mem_map.1 hx
      obtain ⟨i, hi⟩ := List.getElem?_of_mem hk'
      have hil := (List.getElem?_eq_some_iff.1 hi).1
      have := hmin i hil
      rw [getD_get hil] at hi
      cases hi
      exact this)
    have heq : leastOf (ks.map (numA (ownB' a P))) = numA (ownB' a P) (ks.getD j NT.nil) := by unfold leastOf; omega
    clear hle hge hmin
    unfold OpenN at *
    obtain ⟨z1, z2⟩ := ho
    have t1 := htri.z1
    have t2 := htri.z2
    have k1 := hkt.z1
    have k2 := hkt.z2
    cases hown : ownB' a P
    · rw [hown] at heq
      have eb : (updN a (NT.node P x y true ks)).b = (ks.getD j NT.nil).b := by
        unfold updN
        rw [show ownB' a (NT.node P x y true ks).pos = false from hown]
        exact heq
      rw [eb] at z2 t1 t2
      omega
    · rw [hown] at heq
      have ea : (updN a (NT.node P x y true ks)).a = (ks.getD j NT.nil).a := by
        unfold updN
        rw [show ownB' a (NT.node P x y true ks).pos = true from hown]
        exact heq
      rw [ea] at z1 t1 t2
      omega
theorem leaf_open {R : RulesM} {a : Int} {t : NT} (h : PInv R a t) (hx : t.ex = false) (ho : OpenN t) : resultM R t.pos = 0 ∧ t.kids = [] := by
  cases h with
  | leaf P hS =>
    rw [leafN_pos, leafN_kids]
    refine ⟨?_, rfl⟩
    unfold leafN OpenN at ho
    split at ho
    · assumption
    · split at ho
      · exact absurd rfl ho.1
      · exact absurd rfl ho.2
  | exp P x y ks hS hr hl hp hk => rw [updN_ex] at hx; exact absurd (show true = false from hx) (by decide)
theorem leaves_get {R : RulesM} {a : Int} {P : PosM} {i : Nat} {k : NT} (h : (leavesN R a P)[i]? = some k) : ∃ m, (listM R P)[i]? = some m ∧ k = leafN R a (makeM R P m) := by
  unfold leavesN at h
  rw [List.getElem?_map] at h
  cases hm : (listM R P)[i]? with
  | none => rw [hm] at h; simp at h
  | some m => rw [hm] at h; simp only [Option.map_some, Option.some.injEq] at h; exact ⟨m, rfl, h.symm⟩
theorem leaves_sz (R : RulesM) (a : Int) (P : PosM) : szs (leavesN R a P) = (listM R P).length := by
  unfold leavesN
  generalize listM R P = L
  induction L with
  | nil => rfl
  | cons m l ih => rw [List.map_cons, szs_cons, leafN_sz, ih, List.length_cons]; omega
theorem PInv.expand {R : RulesM} {a : Int} (hV : Valid R) : ∀ (n : Nat) (t : NT), Deep n t → PInv R a t → OpenN t → t.sz < never → PInv R a (expandN R a n t) ∧ (expandN R a n t).sz ≤ t.sz + 1000000
  | 0, t, hd, _, _, _ => hd.elim
  | n + 1, t, hd, h, ho, hs => by
    unfold expandN
    cases hx : t.ex
    · obtain ⟨hr, hk0⟩ := leaf_open h hx ho
      rw [if_neg (by decide)]
      refine ⟨PInv.exp t.pos t.a t.b (leavesN R a t.pos) h.sound hr (by unfold leavesN; simp) ?_ ?_, ?_⟩
      · intro i k m hi hm
        obtain ⟨m', hm', rfl⟩ := leaves_get hi
        rw [hm] at hm'
        cases hm'
        rw [leafN_pos]
      · intro i k hi
        obtain ⟨m, hm, rfl⟩ := leaves_get hi
        exact PInv.leaf _ (sound_make hV h.sound (mem_listM.1 (List.mem_of_getElem? hm)))
      · rw [updN_sz, NT.sz_eq]
        show max 1 (szs (leavesN R a t.pos)) ≤ _
        rw [leaves_sz]
        have := listM_len hV h.sound
        have := t.sz_pos
        omega
    · rw [if_pos rfl]
      obtain ⟨hlt, hg, hkp, hko, hks⟩ := kid_open h hx ho hs
      obtain ⟨j, hj⟩ : ∃ j, kidI a t = j := ⟨_, rfl⟩
      rw [hj] at hlt hg hkp hko hks ⊢
      have hdk : Deep n (t.kids.getD j NT.nil) := hd _ (List.mem_of_getElem? hg)
      obtain ⟨i1, i2⟩ := PInv.expand hV n _ hdk hkp hko hks
      have hpos := expandN_pos R a n (t.kids.getD j NT.nil)
      generalize expandN R a n (t.kids.getD j NT.nil) = k' at *
      generalize hkk : t.kids.getD j NT.nil = k at *
      refine ⟨?_, ?_⟩
      · cases h with
        | leaf P hS => rw [leafN_ex] at hx; exact absurd hx (by decide)
        | exp P x y ks hS hr hl hp hk =>
          rw [updN_pos, updN_kids]
          rw [updN_kids] at hlt hg
          replace hlt : j < ks.length := hlt
          replace hg : ks[j]? = some k := hg
          refine PInv.exp P _ _ (ks.set j k') hS hr (by rw [List.length_set]; exact hl) ?_ ?_
          · intro i q m hi hm
            rw [List.getElem?_set] at hi
            by_cases e : j = i
            · subst e
              rw [if_pos rfl, if_pos hlt] at hi
              cases hi
              rw [hpos]
              exact hp j k m hg hm
            · rw [if_neg e] at hi
              exact hp i q m hi hm
          · intro i q hi
            rw [List.getElem?_set] at hi
            by_cases e : j = i
            · subst e
              rw [if_pos rfl, if_pos hlt] at hi
              cases hi
              exact i1
            · rw [if_neg e] at hi
              exact hk i q hi
      · rw [updN_sz, NT.sz_eq, t.sz_eq]
        show max 1 (szs (t.kids.set j k')) ≤ max 1 (szs t.kids) + 1000000
        rw [szs_set hg]
        omega
theorem Deep.expand {R : RulesM} {a : Int} : ∀ (n m : Nat) (t : NT), Deep n t → Deep (n + 1) (expandN R a m t)
  | n, 0, t, h => h.succ
  | 0, m + 1, t, h => h.elim
  | n + 1, m + 1, t, h => by
    unfold expandN
    split
    · intro k hk
      rw [updN_kids] at hk
      have hk' : k ∈ t.kids.set (kidI a t) (expandN R a m (t.kids.getD (kidI a t) NT.nil)) := hk
      obtain ⟨i, hi⟩ := List.getElem?_of_mem hk'
      rw [List.getElem?_set] at hi
      by_cases e : kidI a t = i
      · rw [if_pos e] at hi
        split at hi
        · rename_i hlt
          cases hi
          have hg := getD_get (ks := t.kids) (i := kidI a t) hlt
          exact Deep.expand n m _ (h _ (List.mem_of_getElem? hg))
        · cases hi
      · rw [if_neg e] at hi
        exact (h k (List.mem_of_getElem? hi)).succ
    · intro k hk
      rw [updN_kids] at hk
      have hk' : k ∈ leavesN R a t.pos := hk
      obtain ⟨i, hi⟩ := List.getElem?_of_mem hk'
      obtain ⟨m', -, rfl⟩ := leaves_get hi
      intro q hq
      rw [leafN_kids] at hq
      cases hq
/-- The attacker's score. -/
def atkM (R : RulesM) (a : Int) (d : Nat) (P : PosM) : Int := if ownB' a P then ofM R d P else -(ofM R d P)
theorem near_neg {n : Int} : (0 ≤ nearM n ↔ 0 ≤ n) ∧ (nearM n ≤ 0 ↔ n ≤ 0) ∨ n = 1 ∨ n = -1 := by
  unfold nearM
  repeat' split
  all_goals omega
theorem near_sign (n : Int) : (0 ≤ n → 0 ≤ nearM n) ∧ (n ≤ 0 → nearM n ≤ 0) := by
  unfold nearM
  repeat' split
  all_goals omega
/-- What is proved: the attacker's score is never below 0; what is disproved: never above. -/
theorem PInv.score {R : RulesM} {a : Int} (ha : a = 0 ∨ a = 1) {t : NT} (h : PInv R a t) : 0 ≤ t.a ∧ 0 ≤ t.b ∧ (t.a = 0 → ∀ d, d ≤ 90 → 0 ≤ atkM R a d t.pos) ∧ (t.b = 0 → ∀ d, d ≤ 90 → atkM R a d t.pos ≤ 0) := by
  induction h with
  | leaf P hS =>
    have hT := hS.turn
    rw [leafN_pos]
    have hn : (0 : Int) < never := by unfold never; omega
    unfold leafN
    by_cases hr : resultM R P = 0
    · rw [if_pos hr]
      exact ⟨by show (0 : Int) ≤ 1; omega, by show (0 : Int) ≤ 1; omega, fun e => absurd (show (1 : Int) = 0 from e) (by omega), fun e => absurd (show (1 : Int) = 0 from e) (by omega)⟩
    · have ho := of_over hr
      have hb := result_bd R P hT
      rw [if_neg hr]
      by_cases hw : resultM R P = 1 + a
      · rw [if_pos hw]
        refine ⟨by show (0 : Int) ≤ 0; omega, by show (0 : Int) ≤ never; omega, fun _ d _ => ?_, fun e => absurd (show never = 0 from e) (by omega)⟩
        unfold atkM ownB'
        rw [ho d]
        unfold overM
        by_cases hta : P.turn = a
        · rw [decide_eq_true hta, if_pos rfl, if_pos (by omega)]; omega
        · rw [decide_eq_false hta, if_neg (by decide), if_neg (by omega), if_pos (by omega)]; omega
      · rw [if_neg hw]
        refine ⟨by show (0 : Int) ≤ never; omega, by show (0 : Int) ≤ 0; omega, fun e => absurd (show never = 0 from e) (by omega), fun _ d _ => ?_⟩
        unfold atkM ownB'
        rw [ho d]
        unfold overM
        by_cases hta : P.turn = a
        · rw [decide_eq_true hta, if_pos rfl, if_neg (by omega)]
          split <;> omega
        · rw [decide_eq_false hta, if_neg (by decide)]
          split
          · omega
          · rw [if_neg (by omega)]; omega
  | exp P x y ks hS hr hl hp hk ih =>
    have hT := hS.turn
    rw [updN_pos]
    show _ ∧ _ ∧ (_ → ∀ d, d ≤ 90 → 0 ≤ atkM R a d P) ∧ (_ → ∀ d, d ≤ 90 → atkM R a d P ≤ 0)
    have hall : ∀ k ∈ ks, 0 ≤ k.a ∧ 0 ≤ k.b := fun k hk' => by
      obtain ⟨i, hi⟩ := List.getElem?_of_mem hk'
      exact ⟨(ih i k hi).1, (ih i k hi).2.1⟩
    have hnn : ∀ own, (∀ v ∈ ks.map (numA own), 0 ≤ v) ∧ (∀ v ∈ ks.map (numB own), 0 ≤ v) := fun own => by
      refine ⟨fun v hv => ?_, fun v hv => ?_⟩
      all_goals
        obtain ⟨k, hk', rfl⟩ := List.mem_map.1 hv
        have := hall k hk'
        cases own
        · first | exact this.1 | exact this.2
        · first | exact this.1 | exact this.2
    have hl0 : ∀ own, 0 ≤ leastOf (ks.map (numA own)) := fun own => least_ge _ never 0 (by unfold never; omega) (hnn own).1
    have hs0 : ∀ own, 0 ≤ sumOf (ks.map (numB own)) := fun own => by
      unfold sumOf
      have hgen : ∀ (l : List Int) (s : Int), 0 ≤ s → (∀ v ∈ l, 0 ≤ v) → 0 ≤ l.foldl (fun s y => min (s + y) never) s := by
        intro l
        induction l with
        | nil => exact fun s h _ => h
        | cons v l ihl =>
          intro s h hv
          have hn : (0 : Int) < never := by unfold never; omega
          have := hv v (by simp)
          exact ihl (min (s + v) never) (by omega) (fun q hq => hv q (by simp [hq]))
      exact hgen _ 0 (Int.le_refl _) (hnn own).2
    -- the score at depth d + 1 by the children
    have hpos : ∀ m ∈ listM R P, ∃ (i : Nat) (k : NT), ks[i]? = some k ∧ k.pos = makeM R P m := fun m hm => by
      obtain ⟨i, hi⟩ := List.getElem?_of_mem hm
      have hil := (List.getElem?_eq_some_iff.1 hi).1
      have hki : ks[i]? = some (ks[i]'(by omega)) := List.getElem?_eq_getElem _
      exact ⟨i, _, hki, hp i _ m hki hi⟩
    have hmv : ∀ (i : Nat) (k : NT), ks[i]? = some k → ∃ m ∈ listM R P, k.pos = makeM R P m := fun i k hi => by
      have hil := (List.getElem?_eq_some_iff.1 hi).1
      have hmi : (listM R P)[i]? = some ((listM R P)[i]'(by omega)) := List.getElem?_eq_getElem _
      exact ⟨_, List.mem_of_getElem? hmi, hp i k _ hi hmi⟩
    have hflip : ∀ m, ownB' a (makeM R P m) = !(ownB' a P) := fun m => by
      have e : (makeM R P m).turn = 1 - P.turn := rfl
      unfold ownB'
      rw [e]
      by_cases hta : P.turn = a
      · rw [decide_eq_true hta, decide_eq_false (by omega)]; rfl
      · rw [decide_eq_false hta, decide_eq_true (by omega)]; rfl
    have hof : ∀ d, d ≤ 90 → ∃ m ∈ listM R P, ofM R (d + 1) P = nearM (-(ofM R d (makeM R P m))) ∧ ∀ m' ∈ listM R P, nearM (-(ofM R d (makeM R P m'))) ≤ ofM R (d + 1) P := fun d hd => by
      rw [of_open hr]
      obtain ⟨m, hm, e⟩ := bestL_of (f := fun m => nearM (-(ofM R d (makeM R P m)))) (a := (⟨0, 0, 0⟩, -2000)) (moves_open hT hr) (fun m _ => by
        have hb := of_bd (R := R) (turn_make (R := R) hT m) (d := d) (by omega)
        have := near_bd hb.1 hb.2
        show (-2000 : Int) < nearM (-(ofM R d (makeM R P m)))
        revert this
        generalize nearM (-(ofM R d (makeM R P m))) = q
        intro this
        omega)
      refine ⟨m, hm, by rw [e], fun m' hm' => (bestL_ge _ (listM R P) _).2 m' hm'⟩
    have h0 : ofM R 0 P = 0 := if_pos hr
    have hz0 : atkM R a 0 P = 0 := by unfold atkM; rw [h0]; split <;> rfl
    -- some child's number is 0, or all are
    have hex : ∀ own, leastOf (ks.map (numA own)) = 0 → ∃ (i : Nat) (k : NT), ks[i]? = some k ∧ numA own k = 0 := fun own e => by
      rcases least_mem (ks.map (numA own)) never with h | h
      · unfold leastOf at e; rw [h] at e; exact absurd e (by unfold never; omega)
      · have e' : (ks.map (numA own)).foldl min never = 0 := e
        rw [e'] at h
        obtain ⟨k, hk', e2⟩ := List.mem_map.1 h
        obtain ⟨i, hi⟩ := List.getElem?_of_mem hk'
        exact ⟨i, k, hi, e2⟩
    have hfa : ∀ own, sumOf (ks.map (numB own)) = 0 → ∀ (i : Nat) (k : NT), ks[i]? = some k → numB own k = 0 := fun own e i k hi =>
      (sum_zero' (ks.map (numB own)) 0 (Int.le_refl _) (hnn own).2 e).2 _ (List.mem_map.2 ⟨k, List.mem_of_getElem? hi, rfl⟩)
    unfold updN
    cases hown : ownB' a P
    · rw [show ownB' a (NT.node P x y true ks).pos = false from hown, if_neg (by decide)]
      refine ⟨hs0 false, hl0 false, fun e d hd => ?_, fun e d hd => ?_⟩
      · have hA := hfa false e
        cases d with
        | zero => rw [hz0]; exact Int.le_refl _
        | succ d =>
          obtain ⟨m, hm, e1, -⟩ := hof d (by omega)
          obtain ⟨i, k, hi, hkp⟩ := hpos m hm
          have hs := (ih i k hi).2.2.1 (hA i k hi) d (by omega)
          rw [hkp] at hs
          unfold atkM at hs ⊢
          rw [hflip, hown, Bool.not_false, if_pos rfl] at hs
          rw [hown, if_neg (by decide), e1]
          have := (near_sign (-(ofM R d (makeM R P m)))).2 (by omega)
          omega
      · obtain ⟨i, k, hi, hk0⟩ := hex false e
        cases d with
        | zero => rw [hz0]; exact Int.le_refl _
        | succ d =>
          obtain ⟨m, hm, hkp⟩ := hmv i k hi
          obtain ⟨-, -, -, hge⟩ := hof d (by omega)
          have hs := (ih i k hi).2.2.2 hk0 d (by omega)
          rw [hkp] at hs
          unfold atkM at hs ⊢
          rw [hflip, hown, Bool.not_false, if_pos rfl] at hs
          rw [hown, if_neg (by decide)]
          have h1 := hge m hm
          have := (near_sign (-(ofM R d (makeM R P m)))).1 (by omega)
          omega
    · rw [show ownB' a (NT.node P x y true ks).pos = true from hown, if_pos rfl]
      refine ⟨hl0 true, hs0 true, fun e d hd => ?_, fun e d hd => ?_⟩
      · obtain ⟨i, k, hi, hk0⟩ := hex true e
        cases d with
        | zero => rw [hz0]; exact Int.le_refl _
        | succ d =>
          obtain ⟨m, hm, hkp⟩ := hmv i k hi
          obtain ⟨-, -, -, hge⟩ := hof d (by omega)
          have hs := (ih i k hi).2.2.1 hk0 d (by omega)
          rw [hkp] at hs
          unfold atkM at hs ⊢
          rw [hflip, hown, Bool.not_true, if_neg (by decide)] at hs
          rw [hown, if_pos rfl]
          have h1 := hge m hm
          have := (near_sign (-(ofM R d (makeM R P m)))).1 (by omega)
          omega
      · have hA := hfa true e
        cases d with
        | zero => rw [hz0]; exact Int.le_refl _
        | succ d =>
          obtain ⟨m, hm, e1, -⟩ := hof d (by omega)
          obtain ⟨i, k, hi, hkp⟩ := hpos m hm
          have hs := (ih i k hi).2.2.2 (hA i k hi) d (by omega)
          rw [hkp] at hs
          unfold atkM at hs ⊢
          rw [hflip, hown, Bool.not_true, if_neg (by decide)] at hs
          rw [hown, if_pos rfl, e1]
          have := (near_sign (-(ofM R d (makeM R P m)))).2 (by omega)
          omega
end Go.Proofs.Ytdoibgmmijhlfaa
namespace Go.Proofs.Ytdoibgmmijhlfaa
set_option linter.unusedVariables false
/-- The tree after k expansions. -/
def itN (R : RulesM) (a : Int) : Nat → NT → NT
  | 0, t => t
  | k + 1, t => expandN R a 6000 (itN R a k t)
theorem itN_succ (R : RulesM) (a : Int) : ∀ k t, itN R a k (expandN R a 6000 t) = itN R a (k + 1) t
  | 0, t => rfl
  | k + 1, t => by
    show expandN R a 6000 (itN R a k (expandN R a 6000 t)) = expandN R a 6000 (itN R a (k + 1) t)
    rw [itN_succ R a k t]
instance (t : NT) : Decidable (OpenN t) := inferInstanceAs (Decidable (_ ∧ _))
/-- The tree that a budget makes, and how many expansions were made. -/
def provN (R : RulesM) (a : Int) : Nat → NT → NT × Nat
  | 0, t => (t, 0)
  | b + 1, t => if OpenN t then ((provN R a b (expandN R a 6000 t)).1, (provN R a b (expandN R a 6000 t)).2 + 1) else (t, 0)
theorem prov_it (R : RulesM) (a : Int) : ∀ (b k : Nat) (t : NT), (∀ j, j < k → OpenN (itN R a j t)) → k ≤ b → (k = b ∨ ¬ OpenN (itN R a k t)) → provN R a b t = (itN R a k t, k)
  | 0, k, t, _, hk, _ => by
    obtain rfl : k = 0 := by omega
    rfl
  | b + 1, 0, t, _, _, hc => by
    have hn : ¬ OpenN t := hc.elim (fun h => by omega) id
    show (if OpenN t then _ else (t, 0)) = (t, 0)
    rw [if_neg hn]
  | b + 1, k + 1, t, ho, hk, hc => by
    have h0 : OpenN t := ho 0 (by omega)
    have ih := prov_it R a b k (expandN R a 6000 t) (fun j hj => by rw [itN_succ]; exact ho (j + 1) (by omega)) (by omega) (hc.imp (fun h => by omega) (fun h => by rw [itN_succ]; exact h))
    show (if OpenN t then ((provN R a b (expandN R a 6000 t)).1, (provN R a b (expandN R a 6000 t)).2 + 1) else (t, 0)) = _
    rw [if_pos h0, ih, itN_succ]
theorem prov_le (R : RulesM) (a : Int) : ∀ (b : Nat) (t : NT), (provN R a b t).2 ≤ b
  | 0, t => Nat.le_refl _
  | b + 1, t => by
    have ih := prov_le R a b (expandN R a 6000 t)
    show (if OpenN t then ((provN R a b (expandN R a 6000 t)).1, (provN R a b (expandN R a 6000 t)).2 + 1) else (t, 0)).2 ≤ b + 1
    split
    · show _ + 1 ≤ b + 1; omega
    · show 0 ≤ b + 1; omega
/-- A budget that sufficed gives the same as a greater one. -/
theorem prov_more (R : RulesM) (a : Int) : ∀ (b m : Nat) (t : NT), ¬ OpenN (provN R a b t).1 → provN R a (b + m) t = provN R a b t
  | 0, m, t, h => by
    have hn : ¬ OpenN t := h
    cases m with
    | zero => rfl
    | succ m =>
      show (if OpenN t then _ else (t, 0)) = (t, 0)
      rw [if_neg hn]
  | b + 1, m, t, h => by
    rw [show b + 1 + m = b + m + 1 by omega]
    have hd : ∀ q, provN R a (q + 1) t = if OpenN t then ((provN R a q (expandN R a 6000 t)).1, (provN R a q (expandN R a 6000 t)).2 + 1) else (t, 0) := fun q => rfl
    rw [hd] at h ⊢
    rw [hd b]
    by_cases ho : OpenN t
    · rw [if_pos ho] at h ⊢
      rw [if_pos ho, prov_more R a b m _ h]
    · rw [if_neg ho, if_neg ho]
/-- A budget that did not suffice was used whole. -/
theorem prov_all (R : RulesM) (a : Int) : ∀ (b : Nat) (t : NT), OpenN (provN R a b t).1 → (provN R a b t).2 = b ∧ ∀ m, b ≤ (provN R a (b + m) t).2
  | 0, t, h => ⟨rfl, fun m => Nat.zero_le _⟩
  | b + 1, t, h => by
    have hd : ∀ q, provN R a (q + 1) t = if OpenN t then ((provN R a q (expandN R a 6000 t)).1, (provN R a q (expandN R a 6000 t)).2 + 1) else (t, 0) := fun q => rfl
    rw [hd] at h
    by_cases ho : OpenN t
    · rw [if_pos ho] at h
      obtain ⟨h1, h2⟩ := prov_all R a b _ h
      refine ⟨by rw [hd, if_pos ho]; show _ + 1 = b + 1; rw [h1], fun m => ?_⟩
      rw [show b + 1 + m = b + m + 1 by omega, hd, if_pos ho]
      have := h2 m
      show b + 1 ≤ _ + 1
      omega
    · rw [if_neg ho] at h
      exact absurd h ho
theorem it_inv {R : RulesM} {a : Int} (hV : Valid R) {P : PosM} (hS : Sound R P) : ∀ k, k ≤ 5000 → (∀ j, j < k → OpenN (itN R a j (leafN R a P))) → PInv R a (itN R a k (leafN R a P)) ∧ (itN R a k (leafN R a P)).sz ≤ 1 + 1000000 * (k : Int) ∧ Deep (k + 1) (itN R a k (leafN R a P))
  | 0, _, _ => ⟨PInv.leaf P hS, by show (leafN R a P).sz ≤ _; rw [leafN_sz]; omega, fun k hk => by rw [show itN R a 0 (leafN R a P) = leafN R a P from rfl, leafN_kids] at hk; cases hk⟩
  | k + 1, hk, ho => by
    obtain ⟨h1, h2, h3⟩ := it_inv hV hS k (by omega) (fun j hj => ho j (by omega))
    obtain ⟨e1, e2⟩ := PInv.expand hV 6000 _ (h3.mono (by omega)) h1 (ho k (by omega)) (by unfold never; omega)
    refine ⟨e1, ?_, Deep.expand _ _ _ h3⟩
    have : (itN R a (k + 1) (leafN R a P)).sz ≤ (itN R a k (leafN R a P)).sz + 1000000 := e2
    omega
/-- The error of the search, its tree and how many expansions it makes. -/
def provE (R : RulesM) (P : PosM) (D : Int) : Int := if checkE R P ≠ 0 then checkE R P else if D < 0 ∨ 5000 < D then 1 else 0
def provT (R : RulesM) (P : PosM) (D : Int) : NT × Nat := provN R P.turn D.toNat (leafN R P.turn P)
theorem provE_zero {R : RulesM} {P : PosM} {D : Int} (h : provE R P D = 0) : checkE R P = 0 ∧ 0 ≤ D ∧ D ≤ 5000 := by
  unfold provE at h
  by_cases hc : checkE R P = 0
  · rw [if_neg (by simpa using hc)] at h
    by_cases hd : D < 0 ∨ 5000 < D
    · rw [if_pos hd] at h; omega
    · exact ⟨hc, by omega, by omega⟩
  · rw [if_pos hc] at h
    exact absurd h hc
theorem prov_ex (R : RulesM) (a : Int) : ∀ (b : Nat) (t : NT), ∃ k, k ≤ b ∧ provN R a b t = (itN R a k t, k) ∧ ∀ j, j < k → OpenN (itN R a j t)
  | 0, t => ⟨0, Nat.le_refl _, rfl, fun j h => by omega⟩
  | b + 1, t => by
    have hd : provN R a (b + 1) t = if OpenN t then ((provN R a b (expandN R a 6000 t)).1, (provN R a b (expandN R a 6000 t)).2 + 1) else (t, 0) := rfl
    by_cases ho : OpenN t
    · obtain ⟨k, h1, h2, h3⟩ := prov_ex R a b (expandN R a 6000 t)
      refine ⟨k + 1, by omega, by rw [hd, if_pos ho, h2, itN_succ], fun j hj => ?_⟩
      cases j with
      | zero => exact ho
      | succ j => rw [← itN_succ]; exact h3 j (by omega)
    · exact ⟨0, by omega, by rw [hd, if_neg ho]; rfl, fun j h => by omega⟩
theorem provT_inv {R : RulesM} {P : PosM} {D : Int} (h : provE R P D = 0) : PInv R P.turn (provT R P D).1 ∧ (provT R P D).1.sz < never ∧ (provT R P D).1.pos = P := by
  obtain ⟨hc, d0, d1⟩ := provE_zero h
  obtain ⟨hV, hS⟩ := check_iff.1 hc
  obtain ⟨k, h1, h2, h3⟩ := prov_ex R P.turn D.toNat (leafN R P.turn P)
  obtain ⟨i1, i2, i3⟩ := it_inv hV hS k (by omega) h3
  have hp : ∀ k, (itN R P.turn k (leafN R P.turn P)).pos = P := fun k => by
    induction k with
    | zero => exact leafN_pos _ _ _
    | succ k ih => show (expandN R P.turn 6000 _).pos = P; rw [expandN_pos, ih]
  unfold provT
  rw [h2]
  exact ⟨i1, by show (itN R P.turn k (leafN R P.turn P)).sz < never; unfold never; omega, hp k⟩
def stN (t : NT) : Int := if t.a = 0 then 0 else if t.b = 0 then 1 else 2
theorem stN_open {t : NT} : stN t = 2 ↔ OpenN t := by
  unfold stN OpenN
  split
  · omega
  · split <;> omega
/-- The first child that is proved. -/
def firstI (ks : List NT) : Option Nat := ks.findIdx? fun k => k.a == 0
def firstP (R : RulesM) (P : PosM) (D : Int) : Option MoveM := if (provT R P D).1.a = 0 then match firstI (provT R P D).1.kids with | some i => (listM R P)[i]? | none => none else none
theorem first_some' {ks : List NT} {i : Nat} (h : firstI ks = some i) : ∃ k, ks[i]? = some k ∧ k.a = 0 ∧ ∀ j, j < i → ∀ q, ks[j]? = some q → q.a ≠ 0 := by
  unfold firstI at h
  obtain ⟨h1, h2, h3⟩ := List.findIdx?_eq_some_iff_getElem.1 h
  refine ⟨ks[i], List.getElem?_eq_getElem h1, by simpa using h2, fun j hj q hq => ?_⟩
  have := h3 j hj
  rw [List.getElem?_eq_getElem (by omega)] at hq
  cases hq
  simpa using this
theorem first_none' {ks : List NT} (h : firstI ks = none) : ∀ (j : Nat) (q : NT), ks[j]? = some q → q.a ≠ 0 := fun j q hq => by
  unfold firstI at h
  rw [List.findIdx?_eq_none_iff] at h
  have := h q (List.mem_of_getElem? hq)
  simpa using this
theorem firstI_of {ks : List NT} {i : Nat} {k : NT} (hk : ks[i]? = some k) (h0 : k.a = 0) (hb : ∀ j, j < i → ∀ q, ks[j]? = some q → q.a ≠ 0) : firstI ks = some i := by
  cases h : firstI ks with
  | none => exact absurd h0 (first_none' h i k hk)
  | some j =>
    obtain ⟨q, h1, h2, h3⟩ := first_some' h
    by_cases e : j = i
    · rw [e]
    · exfalso
      by_cases hlt : j < i
      · exact hb j hlt q h1 h2
      · exact h3 i (by omega) k hk h0
theorem firstI_none {ks : List NT} (h : ∀ (j : Nat) (q : NT), ks[j]? = some q → q.a ≠ 0) : firstI ks = none := by
  cases e : firstI ks with
  | none => rfl
  | some j =>
    obtain ⟨q, h1, h2, -⟩ := first_some' e
    exact absurd h2 (h j q h1)
/-- The children of a node are the positions after its moves. -/
theorem PInv.moves {R : RulesM} {a : Int} {t : NT} (h : PInv R a t) : t.kids = [] ∨ t.kids.length = (listM R t.pos).length ∧ ∀ (i : Nat) (k : NT) (m : MoveM), t.kids[i]? = some k → (listM R t.pos)[i]? = some m → k.pos = makeM R t.pos m := by
  cases h with
  | leaf P hS => exact .inl (leafN_kids _ _ _)
  | exp P x y ks hS hr hl hp hk => rw [updN_kids, updN_pos]; exact .inr ⟨hl, hp⟩
theorem pinv_kid {R : RulesM} {a : Int} {t : NT} (h : PInv R a t) {i : Nat} {k : NT} (hi : t.kids[i]? = some k) : PInv R a k := by
  cases h with
  | leaf P hS => rw [leafN_kids] at hi; simp at hi
  | exp P x y ks hS hr hl hp hk => rw [updN_kids] at hi; exact hk i k hi
/-- After the move of First the other player never has a positive score. -/
theorem firstP_spec {R : RulesM} {P : PosM} {D : Int} (h : provE R P D = 0) {m : MoveM} (hm : firstP R P D = some m) : m ∈ listM R P ∧ ∀ d, d ≤ 90 → ofM R d (makeM R P m) ≤ 0 := by
  obtain ⟨i1, -, i3⟩ := provT_inv h
  obtain ⟨hc, -, -⟩ := provE_zero h
  obtain ⟨hV, hS⟩ := check_iff.1 hc
  have hT := hS.turn
  unfold firstP at hm
  split at hm
  · cases hi : firstI (provT R P D).1.kids with
    | none => rw [hi] at hm; cases hm
    | some i =>
      rw [hi] at hm
      replace hm : (listM R P)[i]? = some m := hm
      obtain ⟨k, hk, hk0, -⟩ := first_some' hi
      refine ⟨List.mem_of_getElem? hm, fun d hd => ?_⟩
      rcases i1.moves with he | ⟨-, hp⟩
      · rw [he] at hk; simp at hk
      · rw [i3] at hp
        have hpos := hp i k m hk hm
        have hkI : PInv R P.turn k := pinv_kid i1 hk
        have hs := (hkI.score hT).2.2.1 hk0 d hd
        rw [hpos] at hs
        unfold atkM ownB' at hs
        rw [decide_eq_false (show ¬ (makeM R P m).turn = P.turn by show ¬ (1 - P.turn = P.turn); omega), if_neg (by decide)] at hs
        omega
  · cases hm
end Go.Proofs.Ytdoibgmmijhlfaa
