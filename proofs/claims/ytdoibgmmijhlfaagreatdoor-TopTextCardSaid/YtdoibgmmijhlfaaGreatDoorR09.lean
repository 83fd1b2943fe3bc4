/- MovesP Clones Three Open MovesCmp Append RulesCopy -/
import Derived.Test.YtdoibgmmijhlfaaGreatDoorR00
import Derived.Test.YtdoibgmmijhlfaaGreatDoorRows
import Derived.ProofKit
import Derived.OpenShut
import Derived.Outline
import Derived.Deep.Slices
import Derived.Test.YtdoibgmmijhlfaaGreatDoorR01
import Derived.Shelf.SlSortCmp.NoneTotal
import Derived.Deep.RegionHeld3
import Derived.Deep.DrawnRows
import Derived.Deep.RegionWith
namespace Go.Proofs.YtdoibgmmijhlfaaGreatDoor
structure MoveM where
 src : Int
 dst : Int
 piece : Int
deriving DecidableEq
def MoveM.vals (m : MoveM) : List Value:=[.int .i64 m.src,.int .i64 m.dst,.int .i64 m.piece]
def fillB (cs : List Int) (w : Nat) : Nat→Nat→Bool
 | 0,_ => true
 | n + 1,s => if s < w then true else if cs.getD (s - w) 0=0 then false else fillB cs w n (s - w)
def PosM.hand (P : PosM) : List Int:=if P.turn=0 then P.hand0 else P.hand1
def putB (R : RulesM) (P : PosM) (s : Nat) : Bool :=
 decide (P.cells.getD s 0=0) && (!R.falls || decide (s < R.width.toNat) || fillB P.cells R.width.toNat s s)
def putsAt (hand : List Int) (s : Nat) (n : Nat) : List MoveM:=(List.range n).flatMap fun k => if 0 < hand.getD k 0 then [⟨-1,s,k⟩] else []
def putsTo (R : RulesM) (P : PosM) (n : Nat) : List MoveM:=(List.range n).flatMap fun s => if putB R P s then putsAt P.hand s P.hand.length else []
def putsM (R : RulesM) (P : PosM) : List MoveM:=putsTo R P P.cells.length
def endsB (turn take c : Int) : Bool :=
 (decide (take=0) && decide (c=0)) || (decide (take=1) && (decide (c=0) || (decide (0 < c) && decide ((c - 1) % 2 ≠ turn)))) || (decide (take=2) && (decide (0 < c) && decide ((c - 1) % 2 ≠ turn)))
def wayFrom (W H turn take dx dy : Int) (cs : List Int) : Nat→Int→Int→List Int
 | 0,_,_ => []
 | n + 1,x,y =>
  if x + dx < 0∨W≤x + dx∨y + dy < 0∨H≤y + dy then []
  else (if endsB turn take (cs.getD ((y + dy) * W + (x + dx)).toNat 0) then [(y + dy) * W + (x + dx)] else []) ++
   (if cs.getD ((y + dy) * W + (x + dx)).toNat 0=0 then wayFrom W H turn take dx dy cs n (x + dx) (y + dy) else [])
def wayM (R : RulesM) (P : PosM) (s : Nat) (w : WayM) : List Int :=
 wayFrom R.width R.height P.turn w.take w.dx (if P.turn=1 then -w.dy else w.dy) P.cells w.most.toNat ((s : Int) % R.width) ((s : Int) / R.width)
def lastM (R : RulesM) (player : Int) (s : Int) : Bool:=if player=0 then decide (s / R.width=R.height - 1) else decide (s / R.width=0)
def stepTo (R : RulesM) (P : PosM) (s : Nat) (k : Nat) (pr : Int) (t : Int) : MoveM:=⟨s,t,if 0 < pr∧lastM R P.turn t=true then pr - 1 else k⟩
def stepsBy (R : RulesM) (P : PosM) (s k : Nat) (pr : Int) (ws : List WayM) : List MoveM:=ws.flatMap fun w => (wayM R P s w).map (stepTo R P s k pr)
def ownB (P : PosM) (s : Nat) : Bool:=decide (P.cells.getD s 0 ≠ 0) && decide ((P.cells.getD s 0 - 1) % 2=P.turn)
def stepsAt (R : RulesM) (P : PosM) (s : Nat) : List MoveM :=
 if ownB P s then match R.pieces[((P.cells.getD s 0 - 1) / 2).toNat]? with
  | none => []
  | some p => stepsBy R P s ((P.cells.getD s 0 - 1) / 2).toNat p.promote p.ways
 else []
def stepsToM (R : RulesM) (P : PosM) (n : Nat) : List MoveM:=(List.range n).flatMap (stepsAt R P)
def rawM (R : RulesM) (P : PosM) : List MoveM:=putsM R P ++ stepsToM R P P.cells.length
def cmpI (a b : Int) : Int:=if a < b then -1 else if b < a then 1 else 0
def cmpM (a b : MoveM) : Int:=if cmpI a.src b.src ≠ 0 then cmpI a.src b.src else if cmpI a.dst b.dst ≠ 0 then cmpI a.dst b.dst else cmpI a.piece b.piece
def insM (m : MoveM) : List MoveM→List MoveM
 | [] => [m]
 | x :: l => if cmpM m x < 0 then m :: x :: l else if m=x then x :: l else x :: insM m l
def listOf (l : List MoveM) : List MoveM:=l.foldr insM []
def listM (R : RulesM) (P : PosM) : List MoveM:=listOf (rawM R P)
def ltM (a b : MoveM) : Prop:=cmpM a b < 0
theorem cmpI_lt {a b : Int} : cmpI a b < 0 ↔ a < b:=by unfold cmpI; split <;> (try split) <;> omega
theorem cmpI_eq {a b : Int} : cmpI a b=0 ↔ a=b:=by unfold cmpI; split <;> (try split) <;> omega
theorem cmpM_lt {a b : MoveM} : cmpM a b < 0 ↔ a.src < b.src∨(a.src=b.src∧(a.dst < b.dst∨(a.dst=b.dst∧a.piece < b.piece))):=by
 unfold cmpM
 by_cases h1 : cmpI a.src b.src=0
 ·rw [if_neg (fun k => k h1)]
  rw [cmpI_eq] at h1
  by_cases h2 : cmpI a.dst b.dst=0
  ·rw [if_neg (fun k => k h2),cmpI_lt]
   rw [cmpI_eq] at h2
   omega
  ·rw [if_pos h2,cmpI_lt]
   rw [cmpI_eq] at h2
   omega
 ·rw [if_pos h1,cmpI_lt]
  rw [cmpI_eq] at h1
  omega
theorem ltM_iff {a b : MoveM} : ltM a b ↔ a.src < b.src∨(a.src=b.src∧(a.dst < b.dst∨(a.dst=b.dst∧a.piece < b.piece))):=cmpM_lt
theorem moveM_ext {a b : MoveM} (h1 : a.src=b.src) (h2 : a.dst=b.dst) (h3 : a.piece=b.piece) : a=b:=by
 cases a; cases b; simp_all
theorem ltM_trans {a b c : MoveM} (h : ltM a b) (k : ltM b c) : ltM a c:=by rw [ltM_iff] at *; omega
theorem ltM_irrefl (a : MoveM) : ¬ ltM a a:=by rw [ltM_iff]; omega
theorem ltM_total (a b : MoveM) : ltM a b∨a=b∨ltM b a:=by
 rw [ltM_iff,ltM_iff]
 by_cases h : a=b
 ·exact .inr (.inl h)
 ·have : ¬ (a.src=b.src∧a.dst=b.dst∧a.piece=b.piece):=fun ⟨x,y,z⟩ => h (moveM_ext x y z)
  omega
theorem mem_insM {m x : MoveM} {l : List MoveM} : x ∈ insM m l ↔ x=m∨x ∈ l:=by
 induction l with
 | nil => simp [insM]
 | cons y l ih =>
  unfold insM
  split
  ·simp
  ·split
   ·rename_i h; subst h; simp
   ·simp only [List.mem_cons,ih]
    constructor
    ·rintro (h | h | h) <;> simp [h]
    ·rintro (h | h | h) <;> simp [h]
theorem mem_listOf {x : MoveM} {l : List MoveM} : x ∈ listOf l ↔ x ∈ l:=by
 induction l with
 | nil => simp [listOf]
 | cons y l ih =>
  show x ∈ insM y (listOf l) ↔ _
  rw [mem_insM,ih,List.mem_cons]
def Strict (l : List MoveM) : Prop:=l.Pairwise ltM
theorem strict_insM {m : MoveM} {l : List MoveM} (h : Strict l) : Strict (insM m l):=by
 induction l with
 | nil => simp [insM,Strict]
 | cons y l ih =>
  have h':=List.pairwise_cons.1 h
  unfold insM
  split
  ·rename_i hlt
   refine List.pairwise_cons.2 ⟨fun z hz => ?_,h⟩
   rcases List.mem_cons.1 hz with rfl | hz
   ·exact hlt
   ·exact ltM_trans hlt (h'.1 z hz)
  ·split
   ·exact h
   ·rename_i h1 h2
    refine List.pairwise_cons.2 ⟨fun z hz => ?_,ih h'.2⟩
    rcases mem_insM.1 hz with rfl | hz
    ·rcases ltM_total z y with h3 | h3 | h3
     ·exact absurd h3 h1
     ·exact absurd h3 h2
     ·exact h3
    ·exact h'.1 z hz
theorem strict_listOf (l : List MoveM) : Strict (listOf l):=by
 induction l with
 | nil => exact List.Pairwise.nil
 | cons y l ih => exact strict_insM ih
theorem strict_ext {l l' : List MoveM} (h : Strict l) (h' : Strict l') (hm : ∀ x,x ∈ l ↔ x ∈ l') : l=l':=by
 induction l generalizing l' with
 | nil =>
  cases l' with
  | nil => rfl
  | cons y l' => exact absurd ((hm y).2 (by simp)) (by simp)
 | cons x l ih =>
  cases l' with
  | nil => exact absurd ((hm x).1 (by simp)) (by simp)
  | cons y l' =>
   have a:=List.pairwise_cons.1 h
   have b:=List.pairwise_cons.1 h'
   have hxy : x=y:=by
    rcases List.mem_cons.1 ((hm x).1 (by simp)) with e | e
    ·exact e
    ·rcases List.mem_cons.1 ((hm y).2 (by simp)) with e2 | e2
     ·exact e2.symm
     ·exact absurd (ltM_trans (b.1 x e) (a.1 y e2)) (ltM_irrefl y)
   subst hxy
   congr 1
   refine ih a.2 b.2 (fun z => ?_)
   constructor
   ·intro hz
    rcases List.mem_cons.1 ((hm z).1 (by simp [hz])) with e | e
    ·exact absurd (e ▸ a.1 z hz) (ltM_irrefl _)
    ·exact e
   ·intro hz
    rcases List.mem_cons.1 ((hm z).2 (by simp [hz])) with e | e
    ·exact absurd (e ▸ b.1 z hz) (ltM_irrefl _)
    ·exact e
def dedup : List MoveM→List MoveM
 | [] => []
 | [x] => [x]
 | x :: y :: l => if x=y then dedup (y :: l) else x :: dedup (y :: l)
theorem mem_dedup {x : MoveM} : ∀ {l : List MoveM},x ∈ dedup l ↔ x ∈ l
 | [] => by simp [dedup]
 | [y] => by simp [dedup]
 | y :: z :: l => by
  unfold dedup
  have ih:=mem_dedup (x:=x) (l:=z :: l)
  split
  ·rename_i h
   subst h
   rw [ih]
   simp
  ·simp only [List.mem_cons,ih]
theorem strict_dedup : ∀ {l : List MoveM},l.Pairwise (fun a b => ¬ ltM b a)→Strict (dedup l)
 | [],_ => List.Pairwise.nil
 | [y],_ => by simp [dedup,Strict]
 | y :: z :: l,h => by
  have a:=List.pairwise_cons.1 h
  have ih:=strict_dedup a.2
  unfold dedup
  split
  ·exact ih
  ·rename_i hne
   refine List.pairwise_cons.2 ⟨fun u hu => ?_,ih⟩
   have hu':=mem_dedup.1 hu
   rcases ltM_total y u with k | k | k
   ·exact k
   ·subst k
    rcases List.mem_cons.1 hu' with e | e
    ·exact absurd e hne
    ·have b:=List.pairwise_cons.1 a.2
     rcases ltM_total y z with k1 | k1 | k1
     ·exact absurd k1 (b.1 y e)
     ·exact absurd k1 hne
     ·exact absurd k1 (a.1 z (by simp))
   ·exact absurd k (a.1 u hu')
theorem listOf_eq {l l' : List MoveM} (h : ∀ x,x ∈ l' ↔ x ∈ l) (hs : l'.Pairwise (fun a b => ¬ ltM b a)) : dedup l'=listOf l :=
 strict_ext (strict_dedup hs) (strict_listOf l) (fun x => by rw [mem_dedup,mem_listOf,h])
def setHand (h : List Int) (k : Nat) (f : Int→Int) : List Int:=h.set k (f (h.getD k 0))
def minI (a b : Int) : Int:=if a≤b then a else b
def makeM (R : RulesM) (P : PosM) (m : MoveM) : PosM :=
 let took:=P.cells.getD m.dst.toNat 0
 let c1:=if 0≤m.src then P.cells.set m.src.toNat 0 else P.cells
 let h1:=if 0≤m.src then P.hand else setHand P.hand m.piece.toNat (· - 1)
 let c2:=c1.set m.dst.toNat (2 * m.piece + P.turn + 1)
 let h2:=if 0 < took∧R.keeps=true then setHand h1 ((took - 1) / 2).toNat (fun x => minI (x + 1) 1000) else h1
 let q:=if 0 < took∨m.src < 0 then 0 else minI (P.quiet + 1) 200
 { cells:=c2,hand0:=if P.turn=0 then h2 else P.hand0,hand1:=if P.turn=0 then P.hand1 else h2,turn:=1 - P.turn,quiet:=q }
end Go.Proofs.YtdoibgmmijhlfaaGreatDoor
namespace Go.Proofs.YtdoibgmmijhlfaaGreatDoor
open Go.ChangeShapes Go.WideShapes Go.ChangeAt Go.RowKit
set_option linter.unusedVariables false
theorem info_Ways : (Tryz.prog.info? 60).map (fun i => (i.zero,i.size,i.bytes))=some (some (.agg #[.int .i64 0,.int .i64 0,.int .i64 0,.int .i64 0]),4,32):=by kernel_rfl
theorem one_Ways (l : List WayM) : ∀ u ∈ l.flatMap WayM.vals,u.oneCell'=true:=by
 intro u hu
 obtain ⟨x,_,h⟩:=List.mem_flatMap.1 hu
 simp [WayM.vals] at h
 rcases h with rfl | rfl | rfl | rfl <;> rfl
theorem len_Ways (l : List WayM) : (l.flatMap WayM.vals).length=l.length * 4:=by
 induction l with
 | nil => rfl
 | cons a l ih => rw [List.flatMap_cons,List.length_append,ih,List.length_cons,Nat.add_mul]; simp [WayM.vals]; omega
def OwnWays (w : World) (l : List WayM) (e : Ending) (w' : World) : Prop:=∃ A c,e=.returned (.slice A l.length c)∧w'.ownsRow w.heap.size 60 4 (.slice A l.length c) l.length (l.flatMap WayM.vals)∧Ext w w'
theorem clone_Ways (A : Option Addr) (n c : Nat) (l : List WayM) (w : World) (hn : l.length=n) (hm : n≤1000) (hz : CellsAt w A (l.flatMap WayM.vals)) :
  Calls Tryz.prog 70 #[.slice A n c] w (OwnWays w l):=by
 have hA : A=none→n=0:=by
  intro e
  subst e
  by_cases h0 : n=0
  ·exact h0
  ·obtain ⟨b,o,e,_⟩:=hz 0 ((l.flatMap WayM.vals)[0]'(by rw [len_Ways]; omega)) (List.getElem?_eq_getElem _)
   cases e
 subst hn
 have hnil:=fun W => Lib.run_eql_slice_nil (P:=Tryz.prog) W 55 60 A l.length c 0 0 Tryz.underlying55
 obtain ⟨i0,hi,hz0,hz1,hz2⟩:=info_parts info_Ways
 cases A with
 | none =>
  have h0 : l=[]:=List.eq_nil_of_length_eq_zero (hA rfl)
  subst h0
  simp only [List.length_nil] at hnil ⊢
  go_enter Tryz.func70,Tryz.ntmps70
  go_wp2
  go_ret
  exact ⟨none,0,rfl,World.ownsRow_nil _ _ _ _,Below.refl _ _⟩
 | some ad =>
  clear hA
  have hown:=World.ownsRow_made w #[] 0 (base:=w.heap.size) (e:=60) (size:=4) (Nat.le_refl _) (by simp [maxLen]) rfl
  have hone:=one_Ways l
  have hlen:=len_Ways l
  generalize hv : l.flatMap WayM.vals=vs at *
  have HV:=hide hv
  clear hv
  have HO:=hide hone
  have HL:=hide hlen
  clear hone hlen
  go_enter Tryz.func70,Tryz.ntmps70
  go_wp2_with (at_builtin; refine wpList_append_cells _ rfl (.tmp 5) (.tmp 6) 55 rfl w.heap.size 60 i0 (.agg #[.int .i64 0,.int .i64 0,.int .i64 0,.int .i64 0]) 4 32 Tryz.underlying55 hi hz0 hz1 hz2 rfl (by decide) _ 0 [] rfl hown (some ad) l.length c vs rfl HL.out (hz.ext (ext_alloc (Below.refl _ _) _)) HO.out (by simp only [maxLen]; omega) (by omega) (by simp) (by simp) ?_; intro v' w1 hown1 hgrow)
  obtain ⟨A',c',rfl,_,_⟩:=own_shape hown1
  go_ret
  simp only [Nat.zero_add,List.nil_append] at hown1
  exact ⟨A',c',by simp,by rw [HV.out]; exact hown1,ext_grown (ext_alloc (Below.refl _ _) _) hgrow (own_row hown)⟩
theorem info_Ends : (Tryz.prog.info? 66).map (fun i => (i.zero,i.size,i.bytes))=some (some (.agg #[.int .i64 0,.int .i64 0,.int .i64 0,.bool false]),4,32):=by kernel_rfl
theorem one_Ends (l : List EndM) : ∀ u ∈ l.flatMap EndM.vals,u.oneCell'=true:=by
 intro u hu
 obtain ⟨x,_,h⟩:=List.mem_flatMap.1 hu
 simp [EndM.vals] at h
 rcases h with rfl | rfl | rfl | rfl <;> rfl
theorem len_Ends (l : List EndM) : (l.flatMap EndM.vals).length=l.length * 4:=by
 induction l with
 | nil => rfl
 | cons a l ih => rw [List.flatMap_cons,List.length_append,ih,List.length_cons,Nat.add_mul]; simp [EndM.vals]; omega
def OwnEnds (w : World) (l : List EndM) (e : Ending) (w' : World) : Prop:=∃ A c,e=.returned (.slice A l.length c)∧w'.ownsRow w.heap.size 66 4 (.slice A l.length c) l.length (l.flatMap EndM.vals)∧Ext w w'
theorem clone_Ends (A : Option Addr) (n c : Nat) (l : List EndM) (w : World) (hn : l.length=n) (hm : n≤1000) (hz : CellsAt w A (l.flatMap EndM.vals)) :
  Calls Tryz.prog 71 #[.slice A n c] w (OwnEnds w l):=by
 have hA : A=none→n=0:=by
  intro e
  subst e
  by_cases h0 : n=0
  ·exact h0
  ·obtain ⟨b,o,e,_⟩:=hz 0 ((l.flatMap EndM.vals)[0]'(by rw [len_Ends]; omega)) (List.getElem?_eq_getElem _)
   cases e
 subst hn
 have hnil:=fun W => Lib.run_eql_slice_nil (P:=Tryz.prog) W 24 66 A l.length c 0 0 Tryz.underlying24
 obtain ⟨i0,hi,hz0,hz1,hz2⟩:=info_parts info_Ends
 cases A with
 | none =>
  have h0 : l=[]:=List.eq_nil_of_length_eq_zero (hA rfl)
  subst h0
  simp only [List.length_nil] at hnil ⊢
  go_enter Tryz.func71,Tryz.ntmps71
  go_wp2
  go_ret
  exact ⟨none,0,rfl,World.ownsRow_nil _ _ _ _,Below.refl _ _⟩
 | some ad =>
  clear hA
  have hown:=World.ownsRow_made w #[] 0 (base:=w.heap.size) (e:=66) (size:=4) (Nat.le_refl _) (by simp [maxLen]) rfl
  have hone:=one_Ends l
  have hlen:=len_Ends l
  generalize hv : l.flatMap EndM.vals=vs at *
  have HV:=hide hv
  clear hv
  have HO:=hide hone
  have HL:=hide hlen
  clear hone hlen
  go_enter Tryz.func71,Tryz.ntmps71
  go_wp2_with (at_builtin; refine wpList_append_cells _ rfl (.tmp 5) (.tmp 6) 24 rfl w.heap.size 66 i0 (.agg #[.int .i64 0,.int .i64 0,.int .i64 0,.bool false]) 4 32 Tryz.underlying24 hi hz0 hz1 hz2 rfl (by decide) _ 0 [] rfl hown (some ad) l.length c vs rfl HL.out (hz.ext (ext_alloc (Below.refl _ _) _)) HO.out (by simp only [maxLen]; omega) (by omega) (by simp) (by simp) ?_; intro v' w1 hown1 hgrow)
  obtain ⟨A',c',rfl,_,_⟩:=own_shape hown1
  go_ret
  simp only [Nat.zero_add,List.nil_append] at hown1
  exact ⟨A',c',by simp,by rw [HV.out]; exact hown1,ext_grown (ext_alloc (Below.refl _ _) _) hgrow (own_row hown)⟩
end Go.Proofs.YtdoibgmmijhlfaaGreatDoor
namespace Go.Proofs.YtdoibgmmijhlfaaGreatDoor
open Go.ChangeShapes Go.WideShapes Go.ChangeAt Go.RowKit
set_option linter.unusedVariables false
def threeR : RulesM:={ name:=⟨#[84,73,67]⟩,width:=3,height:=3,pieces:=[⟨65,5,0,[]⟩],start:=[0,0,0,0,0,0,0,0,0],falls:=false,keeps:=false,ends:=[⟨0,0,3,false⟩],blocked:=2,quiet:=0,rept:=0 }
theorem make9 (W : World) : (Instr.makeSlice 23 (.int .i64 9) (.int .i64 9)).run Tryz.prog W=.ok (.slice (some ⟨W.heap.size,0,none⟩) 9 9) (W.alloc (.cells #[.int .i64 0,.int .i64 0,.int .i64 0,.int .i64 0,.int .i64 0,.int .i64 0,.int .i64 0,.int .i64 0,.int .i64 0] 3)):=by kernel_rfl
theorem three_any (w : World) : Calls Tryz.prog 5 #[] w fun e w' => ∃ v,e=.returned v∧RulesAt w' v threeR∧Ext w w':=by
 have hmk:=make9
 go_enter Tryz.func5,Tryz.ntmps5
 go_wp2
 have kR:=Blk.new w 26 #[.string ⟨#[84,73,67]⟩,.int .i64 3,.int .i64 3,.slice (some ⟨w.heap.size + 1,0,none⟩) 1 1,.slice (some ⟨w.heap.size + 1 + 1,0,none⟩) 9 9,.bool false,.bool false,.slice (some ⟨w.heap.size + 1 + 1 + 1,0,none⟩) 1 1,.int .i64 2,.int .i64 0,.int .i64 0]
 have xR : Ext w (w.alloc (.cells #[.string ⟨#[84,73,67]⟩,.int .i64 3,.int .i64 3,.slice (some ⟨w.heap.size + 1,0,none⟩) 1 1,.slice (some ⟨w.heap.size + 1 + 1,0,none⟩) 9 9,.bool false,.bool false,.slice (some ⟨w.heap.size + 1 + 1 + 1,0,none⟩) 1 1,.int .i64 2,.int .i64 0,.int .i64 0] 26)):=ext_alloc (Below.refl _ _) _
 have sR : (w.alloc (.cells #[.string ⟨#[84,73,67]⟩,.int .i64 3,.int .i64 3,.slice (some ⟨w.heap.size + 1,0,none⟩) 1 1,.slice (some ⟨w.heap.size + 1 + 1,0,none⟩) 9 9,.bool false,.bool false,.slice (some ⟨w.heap.size + 1 + 1 + 1,0,none⟩) 1 1,.int .i64 2,.int .i64 0,.int .i64 0] 26)).heap.size=w.heap.size + 1:=by simp
 generalize w.alloc (.cells #[.string ⟨#[84,73,67]⟩,.int .i64 3,.int .i64 3,.slice (some ⟨w.heap.size + 1,0,none⟩) 1 1,.slice (some ⟨w.heap.size + 1 + 1,0,none⟩) 9 9,.bool false,.bool false,.slice (some ⟨w.heap.size + 1 + 1 + 1,0,none⟩) 1 1,.int .i64 2,.int .i64 0,.int .i64 0] 26)=w1 at *
 have cP:=cellsAt_new w1 57 [.int .u8 65,.int .i64 5,.int .i64 0,.slice none 0 0]
 rw [sR] at cP
 have kR2:=kR.alloc (.cells #[.int .u8 65,.int .i64 5,.int .i64 0,.slice none 0 0] 57)
 have xR2:=ext_alloc xR (.cells #[.int .u8 65,.int .i64 5,.int .i64 0,.slice none 0 0] 57)
 have sP : (w1.alloc (.cells #[.int .u8 65,.int .i64 5,.int .i64 0,.slice none 0 0] 57)).heap.size=w.heap.size + 1 + 1:=by simp [sR]
 clear kR xR sR
 generalize w1.alloc (.cells #[.int .u8 65,.int .i64 5,.int .i64 0,.slice none 0 0] 57)=w2 at *
 have cS:=cellsAt_new w2 3 [.int .i64 0,.int .i64 0,.int .i64 0,.int .i64 0,.int .i64 0,.int .i64 0,.int .i64 0,.int .i64 0,.int .i64 0]
 rw [sP] at cS
 have kR3:=kR2.alloc (.cells #[.int .i64 0,.int .i64 0,.int .i64 0,.int .i64 0,.int .i64 0,.int .i64 0,.int .i64 0,.int .i64 0,.int .i64 0] 3)
 have xR3:=ext_alloc xR2 (.cells #[.int .i64 0,.int .i64 0,.int .i64 0,.int .i64 0,.int .i64 0,.int .i64 0,.int .i64 0,.int .i64 0,.int .i64 0] 3)
 have cP3:=cP.ext (ext_alloc (Below.refl _ _) (.cells #[.int .i64 0,.int .i64 0,.int .i64 0,.int .i64 0,.int .i64 0,.int .i64 0,.int .i64 0,.int .i64 0,.int .i64 0] 3))
 have sS : (w2.alloc (.cells #[.int .i64 0,.int .i64 0,.int .i64 0,.int .i64 0,.int .i64 0,.int .i64 0,.int .i64 0,.int .i64 0,.int .i64 0] 3)).heap.size=w.heap.size + 1 + 1 + 1:=by simp [sP]
 clear kR2 xR2 cP sP
 generalize w2.alloc (.cells #[.int .i64 0,.int .i64 0,.int .i64 0,.int .i64 0,.int .i64 0,.int .i64 0,.int .i64 0,.int .i64 0,.int .i64 0] 3)=w3 at *
 have cE:=cellsAt_new w3 66 [.int .i64 0,.int .i64 0,.int .i64 3,.bool false]
 rw [sS] at cE
 have kR4:=kR3.alloc (.cells #[.int .i64 0,.int .i64 0,.int .i64 3,.bool false] 66)
 have xR4:=ext_alloc xR3 (.cells #[.int .i64 0,.int .i64 0,.int .i64 3,.bool false] 66)
 have cP4:=cP3.ext (ext_alloc (Below.refl _ _) (.cells #[.int .i64 0,.int .i64 0,.int .i64 3,.bool false] 66))
 have cS4:=cS.ext (ext_alloc (Below.refl _ _) (.cells #[.int .i64 0,.int .i64 0,.int .i64 3,.bool false] 66))
 clear kR3 xR3 cP3 cS sS
 generalize w3.alloc (.cells #[.int .i64 0,.int .i64 0,.int .i64 3,.bool false] 66)=w4 at *
 have f:=kR4.cell
 refine bodyPost_ret (v:=.agg #[.string ⟨#[84,73,67]⟩,.int .i64 3,.int .i64 3,.slice (some ⟨w.heap.size + 1,0,none⟩) 1 1,.slice (some ⟨w.heap.size + 1 + 1,0,none⟩) 9 9,.bool false,.bool false,.slice (some ⟨w.heap.size + 1 + 1 + 1,0,none⟩) 1 1,.int .i64 2,.int .i64 0,.int .i64 0]) ?_ rfl ?_
 ·simp [results,Tryz.results5,go_sem,f]
 ·refine ⟨_,rfl,⟨_,1,_,9,_,1,rfl,⟨[[.int .u8 65,.int .i64 5,.int .i64 0,.slice none 0 0]],by simpa using cP4,rfl,fun i p l a b => ?_⟩,cells_ints cS4,cE,by decide,by decide,by decide,by decide⟩,xR4⟩
  match i,a,b with
  | 0,a,b =>
   simp [threeR] at a b
   subst a; subst b
   exact ⟨none,0,rfl,cellsAt_nil _ _⟩
  | i + 1,a,b => simp [threeR] at a
end Go.Proofs.YtdoibgmmijhlfaaGreatDoor
namespace Go.Proofs.YtdoibgmmijhlfaaGreatDoor
open Go.ChangeShapes Go.WideShapes Go.ChangeAt Go.RowKit Go.Deep
set_option linter.unusedVariables false
theorem spot_none {w : World} {x : Addr} {v : Value} (h : w.cell? x=some v) : x=⟨x.block,x.off,none⟩:=by
 obtain ⟨b,o,s⟩:=x
 cases s with
 | none => rfl
 | some s =>
  exfalso
  unfold World.cell? at h
  simp only at h
  split at h
  ·simp at h
  ·cases h
theorem list_of {α : Type} (p : Nat→α→Prop) : ∀ n,(∀ i,i < n→∃ x,p i x)→∃ l : List α,l.length=n∧∀ (i : Nat) (x : α),l[i]? = some x→p i x
 | 0,_ => ⟨[],rfl,fun i x h => by simp at h⟩
 | n + 1,h => by
  obtain ⟨l,hl,hp⟩:=list_of p n (fun i hi => h i (by omega))
  obtain ⟨x,hx⟩:=h n (by omega)
  refine ⟨l ++ [x],by simp [hl],fun i y hy => ?_⟩
  by_cases e : i < n
  ·rw [List.getElem?_append_left (by omega)] at hy
   exact hp i y hy
  ·rw [List.getElem?_append_right (by omega)] at hy
   by_cases e2 : i=n
   ·subst e2
    rw [hl] at hy
    simp at hy
    subst hy
    exact hx
   ·match hk : i - l.length,hy with
    | 0,_ => omega
    | k + 1,hy => simp at hy
theorem flatten_inv (s : Nat) : ∀ (l : List (List Value)),(∀ x ∈ l,x.length=s)→∀ (t : Nat) (v : Value),l.flatten[t]? = some v→∃ i j x,l[i]? = some x∧j < s∧t=i * s + j∧x[j]? = some v
 | [],_,t,v,h => by simp at h
 | a :: l,hl,t,v,h => by
  have ha:=hl a (by simp)
  rw [List.flatten_cons] at h
  by_cases e : t < s
  ·rw [List.getElem?_append_left (by omega)] at h
   exact ⟨0,t,a,rfl,e,by omega,h⟩
  ·rw [List.getElem?_append_right (by omega),ha] at h
   obtain ⟨i,j,x,h1,h2,h3,h4⟩:=flatten_inv s l (fun x hx => hl x (by simp [hx])) (t - s) v h
   refine ⟨i + 1,j,x,by simpa using h1,h2,?_,h4⟩
   rw [Nat.add_mul]; omega
section
variable {H : Type} {enc : TypeId × Value→H} {w : World} {spare : Nat→Bool} {held : Bool}
theorem field_at {P : Program} {n : Nat} {t : TypeId} {c : List Value} {xs : List (DataW H × List MemPlace)} {i : Nat} (h : DataW.trod enc P w 0 spare held n t c=xs[i]?) (hi : i < xs.length) : DataW.trod enc P w 0 spare held n t c=some xs[i]:=by
 rw [h,List.getElem?_eq_getElem hi]
theorem one_int {fuel : Nat} {cs : List Value} {x : DataW H × List MemPlace} (h : DataW.trod enc Tryz.prog w 0 spare held fuel 3 cs=some x) : ∃ n,cs=[.int .i64 n]:=by
 obtain ⟨n,e,_⟩:=DataW.trod_int Tryz.underlying3 h
 exact ⟨n,e⟩
set_option maxRecDepth 100000 in
theorem way_open {fuel : Nat} {cs : List Value} {x : DataW H × List MemPlace} (h : DataW.trod enc Tryz.prog w 0 spare held fuel 60 cs=some x) : ∃ m : WayM,cs=m.vals:=by
 obtain ⟨xs,n,_,_,hlen,hxl,hg⟩:=DataW.trod_struct Tryz.underlying60 h
 have hlen' : cs.length=4:=hlen.trans (by kernel_rfl)
 have hxl' : xs.length=4:=hxl
 match cs,hlen' with
 | [c0,c1,c2,c3],_ =>
  have g0:=field_at (hg 0 _ rfl) (by omega)
  have g0' : DataW.trod enc Tryz.prog w 0 spare held n 3 [c0]=some xs[0]:=g0
  obtain ⟨n0,e0⟩:=one_int g0'
  injection e0 with e0 _
  subst e0
  have g1:=field_at (hg 1 _ rfl) (by omega)
  have g1' : DataW.trod enc Tryz.prog w 0 spare held n 3 [c1]=some xs[1]:=g1
  obtain ⟨n1,e1⟩:=one_int g1'
  injection e1 with e1 _
  subst e1
  have g2:=field_at (hg 2 _ rfl) (by omega)
  have g2' : DataW.trod enc Tryz.prog w 0 spare held n 3 [c2]=some xs[2]:=g2
  obtain ⟨n2,e2⟩:=one_int g2'
  injection e2 with e2 _
  subst e2
  have g3:=field_at (hg 3 _ rfl) (by omega)
  have g3' : DataW.trod enc Tryz.prog w 0 spare held n 3 [c3]=some xs[3]:=g3
  obtain ⟨n3,e3⟩:=one_int g3'
  injection e3 with e3 _
  subst e3
  exact ⟨⟨n0,n1,n2,n3⟩,rfl⟩
set_option maxRecDepth 100000 in
theorem end_open {fuel : Nat} {cs : List Value} {x : DataW H × List MemPlace} (h : DataW.trod enc Tryz.prog w 0 spare held fuel 66 cs=some x) : ∃ m : EndM,cs=m.vals:=by
 obtain ⟨xs,n,_,_,hlen,hxl,hg⟩:=DataW.trod_struct Tryz.underlying66 h
 have hlen' : cs.length=4:=hlen.trans (by kernel_rfl)
 have hxl' : xs.length=4:=hxl
 match cs,hlen' with
 | [c0,c1,c2,c3],_ =>
  have g0:=field_at (hg 0 _ rfl) (by omega)
  have g0' : DataW.trod enc Tryz.prog w 0 spare held n 3 [c0]=some xs[0]:=g0
  obtain ⟨n0,e0⟩:=one_int g0'
  injection e0 with e0 _
  subst e0
  have g1:=field_at (hg 1 _ rfl) (by omega)
  have g1' : DataW.trod enc Tryz.prog w 0 spare held n 3 [c1]=some xs[1]:=g1
  obtain ⟨n1,e1⟩:=one_int g1'
  injection e1 with e1 _
  subst e1
  have g2:=field_at (hg 2 _ rfl) (by omega)
  have g2' : DataW.trod enc Tryz.prog w 0 spare held n 3 [c2]=some xs[2]:=g2
  obtain ⟨n2,e2⟩:=one_int g2'
  injection e2 with e2 _
  subst e2
  have g3:=field_at (hg 3 _ rfl) (by omega)
  have g3' : DataW.trod enc Tryz.prog w 0 spare held n 4 [c3]=some xs[3]:=g3
  obtain ⟨n3,e3,_⟩:=DataW.trod_bool Tryz.underlying4 g3'
  injection e3 with e3 _
  subst e3
  exact ⟨⟨n0,n1,n2,n3⟩,rfl⟩
theorem slice_open {α : Type} {st et : TypeId} {s : Nat} (p : α→List Value→Prop) (hst : Tryz.prog.underlying st=some (.slice et)) (hs : Tryz.prog.cellsOf et=s) (hs0 : 0 < s)
  (hp : ∀ (fuel : Nat) (cs : List Value) (x : DataW H × List MemPlace),DataW.trod enc Tryz.prog w 0 spare held fuel et cs=some x→∃ m,p m cs) {fuel : Nat} {cs : List Value} {x : DataW H × List MemPlace} (h : DataW.trod enc Tryz.prog w 0 spare held fuel st cs=some x) :
  ∃ A n c,∃ vss : List (List Value),∃ ms : List α,cs=[.slice A n c]∧n≤c∧vss.length=n∧ms.length=n∧CellsAt w A vss.flatten∧(∀ l ∈ vss,l.length=s)∧∀ (i : Nat) (m : α) (l : List Value),ms[i]? = some m→vss[i]? = some l→p m l:=by
 rcases open_slice hst h with ⟨rfl,_⟩ | ⟨a,len,cap,m,n,D,Pl,rfl,_,hl,hm,hmm,_,hi⟩
 ·exact ⟨none,0,0,[],[],rfl,Nat.le_refl _,rfl,rfl,cellsAt_nil _ _,by simp,fun i m l a b => by simp at a⟩
 ·have hlm : len≤m:=by rw [hmm]; split <;> omega
  have key : ∀ i,i < len→∃ y : α × List Value,p y.1 y.2∧y.2.length=s∧∀ j,j < s→w.cell? ((a.add (i * s)).add j)=y.2[j]?:=fun i hil => by
   obtain ⟨cs',hc,ht⟩:=hi i (by omega)
   obtain ⟨mm,hmm'⟩:=hp _ _ _ ht
   rw [hs] at hc
   obtain ⟨_,hcl,hat⟩:=World.cells?_some hc
   exact ⟨(mm,cs'),hmm',hcl,hat⟩
  obtain ⟨ys,hyl,hy⟩:=list_of _ len key
  refine ⟨some a,len,cap,ys.map (·.2),ys.map (·.1),rfl,hl,by simp [hyl],by simp [hyl],?_,?_,?_⟩
  ·have hall : ∀ x ∈ ys.map (·.2),x.length=s:=by
    intro x hx
    obtain ⟨y,hy',rfl⟩:=List.mem_map.1 hx
    obtain ⟨i,hi',rfl⟩:=List.mem_iff_getElem.1 hy'
    exact (hy i _ (List.getElem?_eq_getElem hi')).2.1
   intro t v ht
   obtain ⟨i,j,x,h1,h2,h3,h4⟩:=flatten_inv s _ hall t v ht
   rw [List.getElem?_map,Option.map_eq_some_iff] at h1
   obtain ⟨y,h1,rfl⟩:=h1
   have hlen : i < ys.length:=(List.getElem?_eq_some_iff.1 h1).1
   have hc:=(hy i y h1).2.2 j h2
   rw [h4] at hc
   -- the slice's address bears no spot: its first cell is there
   have h0 : 0 < ys.length:=by omega
   have hy0:=hy 0 ys[0] (List.getElem?_eq_getElem h0)
   have hc0:=hy0.2.2 0 hs0
   have hv0 : (ys[0].2)[0]? = some ((ys[0].2)[0]'(by rw [hy0.2.1]; exact hs0)):=List.getElem?_eq_getElem _
   rw [hv0] at hc0
   have ea : (a.add (0 * s)).add 0=a:=by rw [Nat.zero_mul]; rfl
   rw [ea] at hc0
   have hsp:=spot_none hc0
   refine ⟨a.block,a.off,by rw [← hsp],?_⟩
   rw [hsp,add_lit,add_lit] at hc
   rw [h3,← Nat.add_assoc]
   exact hc
  ·intro x hx
   obtain ⟨y,hy',rfl⟩:=List.mem_map.1 hx
   obtain ⟨i,hi',rfl⟩:=List.mem_iff_getElem.1 hy'
   exact (hy i _ (List.getElem?_eq_getElem hi')).2.1
  ·intro i mm l h1 h2
   rw [List.getElem?_map,Option.map_eq_some_iff] at h1 h2
   obtain ⟨y,h1,rfl⟩:=h1
   obtain ⟨y',h2,rfl⟩:=h2
   rw [h1] at h2
   injection h2 with h2
   subst h2
   exact (hy i y h1).1
theorem flat_of {α : Type} (f : α→List Value) : ∀ (vss : List (List Value)) (ms : List α),vss.length=ms.length→(∀ (i : Nat) (m : α) (l : List Value),ms[i]? = some m→vss[i]? = some l→l=f m)→vss.flatten=ms.flatMap f
 | [],[],_,_ => rfl
 | [],m :: ms,h,_ => by simp at h
 | l :: vss,[],h,_ => by simp at h
 | l :: vss,m :: ms,h,hp => by
  rw [List.flatten_cons,List.flatMap_cons,hp 0 m l rfl rfl,flat_of f vss ms (by simpa using h) (fun i m' l' a b => hp (i + 1) m' l' (by simpa using a) (by simpa using b))]
theorem flat_one (ms : List Int) : ms.flatMap (fun m => [Value.int .i64 m])=ms.map (Value.int .i64):=by
 induction ms with
 | nil => rfl
 | cons a l ih => rw [List.flatMap_cons,List.map_cons,ih]; rfl
theorem ways_open {fuel : Nat} {cs : List Value} {x : DataW H × List MemPlace} (h : DataW.trod enc Tryz.prog w 0 spare held fuel 55 cs=some x) : ∃ A n c,∃ ws : List WayM,cs=[.slice A n c]∧ws.length=n∧WaysAt w A ws∧n≤c:=by
 obtain ⟨A,n,c,vss,ms,e,h1,h2,h3,h4,_,h5⟩:=slice_open (s:=4) (fun (m : WayM) l => l=m.vals) Tryz.underlying55 (by kernel_rfl) (by omega) (fun _ _ _ h => way_open h) h
 exact ⟨A,n,c,ms,e,h3,by unfold WaysAt; rw [← flat_of WayM.vals vss ms (by omega) h5]; exact h4,h1⟩
theorem ends_open {fuel : Nat} {cs : List Value} {x : DataW H × List MemPlace} (h : DataW.trod enc Tryz.prog w 0 spare held fuel 24 cs=some x) : ∃ A n c,∃ es : List EndM,cs=[.slice A n c]∧es.length=n∧EndsAt w A es∧n≤c:=by
 obtain ⟨A,n,c,vss,ms,e,h1,h2,h3,h4,_,h5⟩:=slice_open (s:=4) (fun (m : EndM) l => l=m.vals) Tryz.underlying24 (by kernel_rfl) (by omega) (fun _ _ _ h => end_open h) h
 exact ⟨A,n,c,ms,e,h3,by unfold EndsAt; rw [← flat_of EndM.vals vss ms (by omega) h5]; exact h4,h1⟩
theorem ints_open {fuel : Nat} {cs : List Value} {x : DataW H × List MemPlace} (h : DataW.trod enc Tryz.prog w 0 spare held fuel 23 cs=some x) : ∃ A n c,∃ zs : List Int,cs=[.slice A n c]∧zs.length=n∧IntsAt w A zs∧n≤c:=by
 obtain ⟨A,n,c,vss,ms,e,h1,h2,h3,h4,_,h5⟩:=slice_open (s:=1) (fun (m : Int) l => l=[.int .i64 m]) Tryz.underlying23 (by kernel_rfl) (by omega) (fun _ _ _ h => one_int h) h
 refine ⟨A,n,c,ms,e,h3,cells_ints ?_,h1⟩
 have : vss.flatten=ms.map (Value.int .i64):=by
  rw [flat_of (fun m => [Value.int .i64 m]) vss ms (by omega) h5]
  exact flat_one ms
 rw [← this]
 exact h4
set_option maxRecDepth 100000 in
theorem piece_open {fuel : Nat} {cs : List Value} {x : DataW H × List MemPlace} (h : DataW.trod enc Tryz.prog w 0 spare held fuel 57 cs=some x) : ∃ m : PieceM,PieceVals w m cs:=by
 obtain ⟨xs,n,_,_,hlen,hxl,hg⟩:=DataW.trod_struct Tryz.underlying57 h
 have hlen' : cs.length=4:=hlen.trans (by kernel_rfl)
 have hxl' : xs.length=4:=hxl
 match cs,hlen' with
 | [c0,c1,c2,c3],_ =>
  have g0:=field_at (hg 0 _ rfl) (by omega)
  have g0' : DataW.trod enc Tryz.prog w 0 spare held n 5 [c0]=some xs[0]:=g0
  obtain ⟨n0,e0,_⟩:=DataW.trod_int Tryz.underlying5 g0'
  injection e0 with e0 _
  subst e0
  have g1:=field_at (hg 1 _ rfl) (by omega)
  have g1' : DataW.trod enc Tryz.prog w 0 spare held n 3 [c1]=some xs[1]:=g1
  obtain ⟨n1,e1⟩:=one_int g1'
  injection e1 with e1 _
  subst e1
  have g2:=field_at (hg 2 _ rfl) (by omega)
  have g2' : DataW.trod enc Tryz.prog w 0 spare held n 3 [c2]=some xs[2]:=g2
  obtain ⟨n2,e2⟩:=one_int g2'
  injection e2 with e2 _
  subst e2
  have g3:=field_at (hg 3 _ rfl) (by omega)
  have g3' : DataW.trod enc Tryz.prog w 0 spare held n 55 [c3]=some xs[3]:=g3
  obtain ⟨A3,m3,k3,ws,e3,hl,hw,_⟩:=ways_open g3'
  injection e3 with e3 _
  subst e3
  exact ⟨⟨n0,n1,n2,ws⟩,A3,k3,by show _=[_,_,_,Value.slice A3 ws.length k3]; rw [hl],hw⟩
theorem pieces_open {fuel : Nat} {cs : List Value} {x : DataW H × List MemPlace} (h : DataW.trod enc Tryz.prog w 0 spare held fuel 22 cs=some x) : ∃ A n c,∃ ps : List PieceM,cs=[.slice A n c]∧ps.length=n∧PiecesAt w A ps∧n≤c:=by
 obtain ⟨A,n,c,vss,ms,e,h1,h2,h3,h4,_,h5⟩:=slice_open (s:=4) (fun (m : PieceM) l => PieceVals w m l) Tryz.underlying22 (by kernel_rfl) (by omega) (fun _ _ _ h => piece_open h) h
 exact ⟨A,n,c,ms,e,h3,⟨vss,h4,by omega,h5⟩,h1⟩
set_option maxRecDepth 100000 in
theorem rules_open {r : Reach} {b0 : Nat} {v : Value} {d : DataW H} {pl : List MemPlace} (hv : Value.okWide Tryz.prog w r b0 26 v) (h : DataW.Trod enc Tryz.prog w 0 spare held 26 v d pl) : ∃ R,RulesAt w v R:=by
 obtain ⟨cs,rfl,hsz⟩:=okWide_struct Tryz.underlying26 hv
 obtain ⟨fuel,h⟩:=h
 obtain ⟨cs⟩:=cs
 obtain ⟨xs,n,_,_,hlen,hxl,hg⟩:=DataW.trod_struct Tryz.underlying26 h
 have hlen' : cs.length=11:=hlen.trans (by kernel_rfl)
 have hxl' : xs.length=11:=hxl
 match cs,hlen' with
 | [c0,c1,c2,c3,c4,c5,c6,c7,c8,c9,c10],_ =>
  have g0:=field_at (hg 0 _ rfl) (by omega)
  have g0' : DataW.trod enc Tryz.prog w 0 spare held n 9 [c0]=some xs[0]:=g0
  obtain ⟨n0,e0,_,hsz0⟩:=DataW.trod_string Tryz.underlying9 g0'
  injection e0 with e0 _
  subst e0
  have g1:=field_at (hg 1 _ rfl) (by omega)
  have g1' : DataW.trod enc Tryz.prog w 0 spare held n 3 [c1]=some xs[1]:=g1
  obtain ⟨n1,e1⟩:=one_int g1'
  injection e1 with e1 _
  subst e1
  have g2:=field_at (hg 2 _ rfl) (by omega)
  have g2' : DataW.trod enc Tryz.prog w 0 spare held n 3 [c2]=some xs[2]:=g2
  obtain ⟨n2,e2⟩:=one_int g2'
  injection e2 with e2 _
  subst e2
  have g3:=field_at (hg 3 _ rfl) (by omega)
  have g3' : DataW.trod enc Tryz.prog w 0 spare held n 22 [c3]=some xs[3]:=g3
  obtain ⟨A3,m3,k3,l3,e3,hl3,hw3,hc3⟩:=pieces_open g3'
  injection e3 with e3 _
  subst e3
  subst hl3
  have g4:=field_at (hg 4 _ rfl) (by omega)
  have g4' : DataW.trod enc Tryz.prog w 0 spare held n 23 [c4]=some xs[4]:=g4
  obtain ⟨A4,m4,k4,l4,e4,hl4,hw4,hc4⟩:=ints_open g4'
  injection e4 with e4 _
  subst e4
  subst hl4
  have g5:=field_at (hg 5 _ rfl) (by omega)
  have g5' : DataW.trod enc Tryz.prog w 0 spare held n 4 [c5]=some xs[5]:=g5
  obtain ⟨n5,e5,_⟩:=DataW.trod_bool Tryz.underlying4 g5'
  injection e5 with e5 _
  subst e5
  have g6:=field_at (hg 6 _ rfl) (by omega)
  have g6' : DataW.trod enc Tryz.prog w 0 spare held n 4 [c6]=some xs[6]:=g6
  obtain ⟨n6,e6,_⟩:=DataW.trod_bool Tryz.underlying4 g6'
  injection e6 with e6 _
  subst e6
  have g7:=field_at (hg 7 _ rfl) (by omega)
  have g7' : DataW.trod enc Tryz.prog w 0 spare held n 24 [c7]=some xs[7]:=g7
  obtain ⟨A7,m7,k7,l7,e7,hl7,hw7,hc7⟩:=ends_open g7'
  injection e7 with e7 _
  subst e7
  subst hl7
  have g8:=field_at (hg 8 _ rfl) (by omega)
  have g8' : DataW.trod enc Tryz.prog w 0 spare held n 3 [c8]=some xs[8]:=g8
  obtain ⟨n8,e8⟩:=one_int g8'
  injection e8 with e8 _
  subst e8
  have g9:=field_at (hg 9 _ rfl) (by omega)
  have g9' : DataW.trod enc Tryz.prog w 0 spare held n 3 [c9]=some xs[9]:=g9
  obtain ⟨n9,e9⟩:=one_int g9'
  injection e9 with e9 _
  subst e9
  have g10:=field_at (hg 10 _ rfl) (by omega)
  have g10' : DataW.trod enc Tryz.prog w 0 spare held n 3 [c10]=some xs[10]:=g10
  obtain ⟨n10,e10⟩:=one_int g10'
  injection e10 with e10 _
  subst e10
  exact ⟨⟨n0,n1,n2,l3,l4,n5,n6,l7,n8,n9,n10⟩,A3,k3,A4,k4,A7,k7,rfl,hw3,hw4,hw7,hc3,hc4,hc7,by simpa [maxLen] using hsz0⟩
end
end Go.Proofs.YtdoibgmmijhlfaaGreatDoor
namespace Go.Proofs.YtdoibgmmijhlfaaGreatDoor
open Go.ChangeShapes Go.WideShapes Go.ChangeAt Go.RowKit Go.Shelf
set_option linter.unusedVariables false
open Go.Sort
attribute [local go_sem ↓] Go.wp_at_zero Go.wp_at_succ
theorem isNaN_any (x : Int) (w : World) : Calls Tryz.prog 107 #[.int .i64 x] w fun e w' => e=.returned (.bool false)∧w=w':=by
 go_enter Tryz.func107,Tryz.ntmps107
 go_wp2
 go_ret
 exact ⟨by simp,rfl⟩
theorem Compare_any (a b : Int) (w : World) : Calls Tryz.prog 79 #[.int .i64 a,.int .i64 b] w fun e w' => e=.returned (.int .i64 (cmpI a b))∧w=w':=by
 unfold cmpI
 rcases (by omega : a < b∨(¬ a < b∧b < a)∨(¬ a < b∧¬ b < a)) with h | ⟨h,h'⟩ | ⟨h,h'⟩
 ·rw [if_pos h]
  go_enter Tryz.func79,Tryz.ntmps79
  go_wp2_with (go_at_call 107; refine (isNaN_any _ _).mono ?_; rintro e w' ⟨rfl,rfl⟩)
  go_ret
  exact ⟨rfl,rfl⟩
 ·rw [if_neg h,if_pos h']
  go_enter Tryz.func79,Tryz.ntmps79
  go_wp2_with (go_at_call 107; refine (isNaN_any _ _).mono ?_; rintro e w' ⟨rfl,rfl⟩)
  go_ret
  exact ⟨rfl,rfl⟩
 ·rw [if_neg h,if_neg h']
  go_enter Tryz.func79,Tryz.ntmps79
  go_wp2_with (go_at_call 107; refine (isNaN_any _ _).mono ?_; rintro e w' ⟨rfl,rfl⟩)
  go_ret
  exact ⟨rfl,rfl⟩
def or3 (x y z : Int) : Int:=if x ≠ 0 then x else if y ≠ 0 then y else z
theorem or3_cmp (a b : MoveM) : or3 (cmpI a.src b.src) (cmpI a.dst b.dst) (cmpI a.piece b.piece)=cmpM a b:=rfl
theorem Or_three (x y z : Int) (g : Nat) (w : World) (h0 : w.cell? ⟨g,0,none⟩=some (.int .i64 x)) (h1 : w.cell? ⟨g,1,none⟩=some (.int .i64 y)) (h2 : w.cell? ⟨g,2,none⟩=some (.int .i64 z)) :
  Calls Tryz.prog 78 #[.slice (some ⟨g,0,none⟩) 3 3] w fun e w' => e=.returned (.int .i64 (or3 x y z))∧w=w':=by
 obtain ⟨r,hr⟩ : ∃ r,r=or3 x y z:=⟨_,rfl⟩
 have HR:=hide hr
 rw [← hr]
 clear hr
 go_enter Tryz.func78,Tryz.ntmps78
 go_wp2
 go_loop [5,8] (fun _ i => ∃ k : Nat,k≤3∧i=.int .i64 k∧Hid ((0 < k→x=0)∧(1 < k→y=0)∧(2 < k→z=0))) (fun _ i => 3 - (intOf i).toNat)
 case atStart => exact ⟨0,by omega,rfl,hide ⟨by omega,by omega,by omega⟩⟩
 case round =>
  obtain ⟨k,hk,rfl,q⟩:=hrel
  rcases (by omega : k=0∨k=1∨k=2∨k=3) with rfl | rfl | rfl | rfl
  ·clear q
   by_cases hx : x=0
   ·subst hx
    go_wp2
    go_round
    case rel => exact ⟨1,by omega,by go_num,hide ⟨fun _ => by first | rfl | trivial,by omega,by omega⟩⟩
    case measure => simp [intOf]
   ·have hx' : (x != 0)=true:=by simpa using hx
    go_wp2
    go_ret
    exact ⟨by rw [HR.out,or3,if_pos hx]; rfl,rfl⟩
  ·obtain rfl:=q.out.1 (by omega)
   clear q
   by_cases hx : y=0
   ·subst hx
    go_wp2
    go_round
    case rel => exact ⟨2,by omega,by go_num,hide ⟨fun _ => by first | rfl | trivial,fun _ => by first | rfl | trivial,by omega⟩⟩
    case measure => simp [intOf]
   ·have hx' : (y != 0)=true:=by simpa using hx
    go_wp2
    go_ret
    exact ⟨by rw [HR.out,or3,if_neg (by omega),if_pos hx]; rfl,rfl⟩
  ·obtain rfl:=q.out.1 (by omega)
   obtain rfl:=q.out.2.1 (by omega)
   clear q
   by_cases hx : z=0
   ·subst hx
    go_wp2
    go_round
    case rel => exact ⟨3,by omega,by go_num,hide ⟨fun _ => by first | rfl | trivial,fun _ => by first | rfl | trivial,fun _ => by first | rfl | trivial⟩⟩
    case measure => simp [intOf]
   ·have hx' : (z != 0)=true:=by simpa using hx
    go_wp2
    go_ret
    exact ⟨by rw [HR.out,or3,if_neg (by omega),if_neg (by omega)]; rfl,rfl⟩
  ·obtain rfl:=q.out.1 (by omega)
   obtain rfl:=q.out.2.1 (by omega)
   obtain rfl:=q.out.2.2 (by omega)
   clear q
   go_wp2
   go_ret
   exact ⟨by rw [HR.out,or3,if_neg (by omega),if_neg (by omega)]; rfl,rfl⟩
set_option maxHeartbeats 4000000 in
set_option maxRecDepth 100000 in
theorem cmpMoves_any (a b : MoveM) (w : World) : Calls Tryz.prog 77 #[.agg #[.int .i64 a.src,.int .i64 a.dst,.int .i64 a.piece],.agg #[.int .i64 b.src,.int .i64 b.dst,.int .i64 b.piece]] w fun e w' => e=.returned (.int .i64 (cmpM a b))∧∃ q os,w'=grow (w.drewN q) os:=by
 have HC:=hide (or3_cmp a b)
 go_enter Tryz.func77,Tryz.ntmps77
 go_wp2
 obtain ⟨xa,k1,k2⟩:=blks2 w #[.int .i64 a.src,.int .i64 a.dst,.int .i64 a.piece] 47 #[.int .i64 b.src,.int .i64 b.dst,.int .i64 b.piece] 47
 have hw : ((w.alloc (.cells #[.int .i64 a.src,.int .i64 a.dst,.int .i64 a.piece] 47)).alloc (.cells #[.int .i64 b.src,.int .i64 b.dst,.int .i64 b.piece] 47))=grow w #[.cells #[.int .i64 a.src,.int .i64 a.dst,.int .i64 a.piece] 47,.cells #[.int .i64 b.src,.int .i64 b.dst,.int .i64 b.piece] 47]:=by rw [alloc_eq_grow,alloc_eq_grow,grow_grow]; rfl
 have HW:=hide hw
 clear xa hw
 generalize ((w.alloc (.cells #[.int .i64 a.src,.int .i64 a.dst,.int .i64 a.piece] 47)).alloc (.cells #[.int .i64 b.src,.int .i64 b.dst,.int .i64 b.piece] 47))=w2 at *
 generalize w.heap.size + 1=B2 at *
 generalize w.heap.size=B1 at *
 have a0 : w2.cell? ⟨B1,0,none⟩=some (.int .i64 a.src):=k1.cell 0
 have a1 : w2.cell? ⟨B1,1,none⟩=some (.int .i64 a.dst):=k1.cell 1
 have a2 : w2.cell? ⟨B1,2,none⟩=some (.int .i64 a.piece):=k1.cell 2
 have b0 : w2.cell? ⟨B2,0,none⟩=some (.int .i64 b.src):=k2.cell 0
 have b1 : w2.cell? ⟨B2,1,none⟩=some (.int .i64 b.dst):=k2.cell 1
 have b2 : w2.cell? ⟨B2,2,none⟩=some (.int .i64 b.piece):=k2.cell 2
 clear k1 k2
 generalize a.src=x0 at *
 generalize a.dst=x1 at *
 generalize a.piece=x2 at *
 generalize b.src=y0 at *
 generalize b.dst=y1 at *
 generalize b.piece=y2 at *
 go_wp2
 first
 | go_region_held3 (fun w' => w'.cell? ⟨B1,0,none⟩=some (.int .i64 x0)∧w'.cell? ⟨B1,1,none⟩=some (.int .i64 x1)∧w'.cell? ⟨B1,2,none⟩=some (.int .i64 x2)∧w'.cell? ⟨B2,0,none⟩=some (.int .i64 y0)∧w'.cell? ⟨B2,1,none⟩=some (.int .i64 y1)∧w'.cell? ⟨B2,2,none⟩=some (.int .i64 y2)) (go_keep)
   (first
   | (go_at_call 79; refine (Compare_any _ _ _).mono ?_; rintro e w' ⟨rfl,rfl⟩)
   | (go_at_call 78; refine (Or_three (cmpI x0 y0) (cmpI x1 y1) (cmpI x2 y2) _ _ ?_ ?_ ?_).mono ?_; (exact new_cell _ _ _ 0); (exact new_cell _ _ _ 1); (exact new_cell _ _ _ 2); rintro e w' ⟨rfl,rfl⟩))
 | fail
 go_wp2
 go_ret
 refine ⟨by rw [← HC.out]; rfl,?_⟩
 rw [HW.out]
 exact ⟨1,_,by rw [alloc_eq_grow,grow_grow]; rfl⟩
end Go.Proofs.YtdoibgmmijhlfaaGreatDoor
namespace Go.Proofs.YtdoibgmmijhlfaaGreatDoor
open Go.ChangeShapes Go.WideShapes Go.ChangeAt Go.RowKit
set_option linter.unusedVariables false
theorem moveInfo : (Tryz.prog.info? 47).map (fun i => (i.zero,i.size,i.bytes))=some (some (.agg #[.int .i64 0,.int .i64 0,.int .i64 0]),3,24):=by kernel_rfl
def OwnI (w0 w : World) (v : Value) (xs : List Int) : Prop:=∃ A c,v=.slice A xs.length c∧w.ownsRow w0.heap.size 3 1 (.slice A xs.length c) xs.length (xs.map (Value.int .i64))
def OwnM (w0 w : World) (v : Value) (ms : List MoveM) : Prop:=∃ A c,v=.slice A ms.length c∧w.ownsRow w0.heap.size 47 3 (.slice A ms.length c) ms.length (ms.flatMap MoveM.vals)
theorem OwnI.nil (w0 w : World) : OwnI w0 w (.slice none 0 0) []:=⟨none,0,rfl,World.ownsRow_nil _ _ _ _⟩
theorem OwnM.nil (w0 w : World) : OwnM w0 w (.slice none 0 0) []:=⟨none,0,rfl,World.ownsRow_nil _ _ _ _⟩
theorem OwnI.ext {w0 w w' : World} {v : Value} {xs : List Int} (h : OwnI w0 w v xs) (he : Ext w w') : OwnI w0 w' v xs:=by
 obtain ⟨A,c,e,h⟩:=h
 exact ⟨A,c,e,own_ext h he⟩
theorem OwnM.ext {w0 w w' : World} {v : Value} {xs : List MoveM} (h : OwnM w0 w v xs) (he : Ext w w') : OwnM w0 w' v xs:=by
 obtain ⟨A,c,e,h⟩:=h
 exact ⟨A,c,e,own_ext h he⟩
theorem len_vals (ms : List MoveM) : (ms.flatMap MoveM.vals).length=ms.length * 3:=by
 induction ms with
 | nil => rfl
 | cons a l ih => rw [List.flatMap_cons,List.length_append,ih,List.length_cons,Nat.add_mul]; simp [MoveM.vals]; omega
theorem wp_append_int {ops : Array Oper} {rest : List Oper} {o : Oper} {a : Act} {Q : Exit→Act→World→Prop} (s x : Operand) (hgd : o.guard=none)
  (ho : o.op=.call { callee:=.builtin .append,args:=#[s,x],argTypes:=#[23,23] }) (w0 w : World) (v : Value) (xs : List Int) (z : Int) (hs : a.eval s=v) (hown : OwnI w0 w v xs) (hx : a.eval x=.slice (some ⟨w.heap.size,0,none⟩) 1 1)
  (hext : Ext w0 w) (hlen : xs.length≤1000000) (h : ∀ v' w',OwnI w0 w' v' (xs ++ [z])→Ext w0 w'→w.grownBy w' v.ownBlock→wpList Tryz.prog ops Q rest (a.put o.dst v') w') :
  wpList Tryz.prog ops Q (o :: rest) a (w.alloc (.cells #[.int .i64 z] 3)):=by
 obtain ⟨A,c,rfl,hown⟩:=hown
 obtain ⟨i0,hi,hz0,hz1,hz2⟩:=info_parts intInfo
 have hsz:=hext.size
 refine wpList_append_cells (P:=Tryz.prog) _ hgd s x 23 ho w0.heap.size 3 i0 (.int .i64 0) 1 8 Tryz.underlying23 hi hz0 hz1 hz2 rfl (by decide) _ xs.length (xs.map (Value.int .i64)) hs (own_ext hown (ext_alloc (Below.refl _ _) _)) _ 1 1 [.int .i64 z] hx rfl (cellsAt_new w 3 [.int .i64 z]) (by simp [Value.oneCell']) (by simp only [maxLen]; omega) (by omega) (by simp; omega) (by simp) ?_
 intro v' w' hown' hgrow
 obtain ⟨A',c',rfl,_,_⟩:=own_shape hown'
 refine h _ w' ⟨A',c',by simp,by simpa using hown'⟩ (ext_grown (ext_alloc hext _) hgrow (own_row hown)) ?_
 exact ⟨hgrow.os,hgrow.tape,hgrow.output,by have:=hgrow.size; simp at this; omega,fun b hb hn => by
  rw [hgrow.block b (by simp; omega) hn]
  exact Below.heap_alloc w _ b hb⟩
theorem wp_append_move {ops : Array Oper} {rest : List Oper} {o : Oper} {a : Act} {Q : Exit→Act→World→Prop} (s x : Operand) (hgd : o.guard=none)
  (ho : o.op=.call { callee:=.builtin .append,args:=#[s,x],argTypes:=#[38,38] }) (w0 w : World) (v : Value) (xs : List MoveM) (m : MoveM) (hs : a.eval s=v) (hown : OwnM w0 w v xs) (hx : a.eval x=.slice (some ⟨w.heap.size,0,none⟩) 1 1)
  (hext : Ext w0 w) (hlen : xs.length≤1000000) (h : ∀ v' w',OwnM w0 w' v' (xs ++ [m])→Ext w0 w'→w.grownBy w' v.ownBlock→wpList Tryz.prog ops Q rest (a.put o.dst v') w') :
  wpList Tryz.prog ops Q (o :: rest) a (w.alloc (.cells #[.int .i64 m.src,.int .i64 m.dst,.int .i64 m.piece] 47)):=by
 obtain ⟨A,c,rfl,hown⟩:=hown
 obtain ⟨i0,hi,hz0,hz1,hz2⟩:=info_parts moveInfo
 have hsz:=hext.size
 refine wpList_append_cells (P:=Tryz.prog) _ hgd s x 38 ho w0.heap.size 47 i0 (.agg #[.int .i64 0,.int .i64 0,.int .i64 0]) 3 24 Tryz.underlying38 hi hz0 hz1 hz2 rfl (by decide) _ xs.length (xs.flatMap MoveM.vals) hs (own_ext hown (ext_alloc (Below.refl _ _) _)) _ 1 1 m.vals hx rfl (cellsAt_new w 47 m.vals) (by simp [MoveM.vals,Value.oneCell']) (by simp only [maxLen]; omega) (by omega) (by simp; omega) (by simp) ?_
 intro v' w' hown' hgrow
 obtain ⟨A',c',rfl,_,_⟩:=own_shape hown'
 refine h _ w' ⟨A',c',by simp,by simpa using hown'⟩ (ext_grown (ext_alloc hext _) hgrow (own_row hown)) ?_
 exact ⟨hgrow.os,hgrow.tape,hgrow.output,by have:=hgrow.size; simp at this; omega,fun b hb hn => by
  rw [hgrow.block b (by simp; omega) hn]
  exact Below.heap_alloc w _ b hb⟩
theorem OwnI.ints {w0 w : World} {v : Value} {xs : List Int} (h : OwnI w0 w v xs) : ∃ A c,v=.slice A xs.length c∧IntsAt w A xs:=by
 obtain ⟨A,c,e,h⟩:=h
 exact ⟨A,c,e,cells_ints (own_cells h).1⟩
end Go.Proofs.YtdoibgmmijhlfaaGreatDoor
namespace Go.Proofs.YtdoibgmmijhlfaaGreatDoor
open Go.ChangeShapes Go.WideShapes Go.ChangeAt Go.RowKit
set_option linter.unusedVariables false
def PieceOwn (w : World) (base : Nat) (p : PieceM) (l : List Value) : Prop :=
 ∃ A c,l=[.int .u8 p.letter,.int .i64 p.hand,.int .i64 p.promote,.slice A p.ways.length c]∧w.ownsRow base 60 4 (.slice A p.ways.length c) p.ways.length (p.ways.flatMap WayM.vals)
def PiecesPart (w : World) (base : Nat) (ps : List PieceM) (k : Nat) (vss : List (List Value)) : Prop :=
 vss.length=k∧∀ (i : Nat) (p : PieceM) (l : List Value),ps[i]? = some p→vss[i]? = some l→PieceOwn w base p l
theorem PiecesPart.keep {w w' : World} {base k : Nat} {ps : List PieceM} {vss : List (List Value)} (h : PiecesPart w base ps k vss)
  (hk : ∀ (v : Value) (n : Nat) (xs : List Value),w.ownsRow base 60 4 v n xs→w'.ownsRow base 60 4 v n xs) : PiecesPart w' base ps k vss :=
 ⟨h.1,fun i p l a b => by
  obtain ⟨A,c,e,ho⟩:=h.2 i p l a b
  exact ⟨A,c,e,hk _ _ _ ho⟩⟩
theorem PiecesPart.step {w : World} {base k : Nat} {ps : List PieceM} {vss : List (List Value)} {q : PieceM} {l : List Value} (h : PiecesPart w base ps k vss) (hq : ps[k]? = some q) (ho : PieceOwn w base q l) : PiecesPart w base ps (k + 1) (vss ++ [l]):=by
 refine ⟨by simp [h.1],fun i p l' a b => ?_⟩
 by_cases e : i < k
 ·rw [List.getElem?_append_left (by rw [h.1]; exact e)] at b
  exact h.2 i p l' a b
 ·by_cases e2 : i=k
  ·subst e2
   rw [hq] at a
   injection a with a
   subst a
   rw [List.getElem?_append_right (by rw [h.1]; omega),h.1] at b
   simp at b
   subst b
   exact ho
  ·rw [List.getElem?_append_right (by rw [h.1]; omega),h.1] at b
   have : i - k ≠ 0:=by omega
   match hik : i - k,b with
   | 0,_ => omega
   | j + 1,b => simp at b
theorem PiecesPart.done {w : World} {base n : Nat} {ps : List PieceM} {vss : List (List Value)} {A : Option Addr} {c : Nat} (h : PiecesPart w base ps n vss) (hn : ps.length=n) (ho : w.ownsRow base 57 4 (.slice A n c) n vss.flatten) : PiecesAt w A ps :=
 ⟨vss,(own_cells ho).1,by rw [h.1,hn],fun i p l a b => by
  obtain ⟨A',c',e,ho'⟩:=h.2 i p l a b
  exact ⟨A',c',e,(own_cells ho').1⟩⟩
theorem pieceInfo : (Tryz.prog.info? 57).map (fun i => (i.zero,i.size,i.bytes))=some (some (.agg #[.int .u8 0,.int .i64 0,.int .i64 0,.slice none 0 0]),4,48):=by kernel_rfl
set_option maxHeartbeats 1000000 in
set_option maxRecDepth 100000 in
theorem copy_core (s0 : ByteArray) (x1 x2 x8 x9 x10 : Int) (f5 f6 : Bool) (pA sA eA : Option Addr) (n pc sc ec : Nat) (ps : List PieceM) (ss : List Int) (es : List EndM) (w : World) (hn : ps.length=n) (h6 : n≤6) (hw : ∀ p ∈ ps,p.ways.length≤16) (hs64 : ss.length≤64) (he6 : es.length≤6)
  (hp : PiecesAt w pA ps) (hs : IntsAt w sA ss) (he : EndsAt w eA es) :
  Calls Tryz.prog 41 #[.agg #[.string s0,.int .i64 x1,.int .i64 x2,.slice pA n pc,.slice sA ss.length sc,.bool f5,.bool f6,.slice eA es.length ec,.int .i64 x8,.int .i64 x9,.int .i64 x10]] w fun e w' => ∃ pA' pc' sA' sc' eA' ec' vss base,e=.returned (.agg #[.string s0,.int .i64 x1,.int .i64 x2,.slice pA' n pc',.slice sA' ss.length sc',.bool f5,.bool f6,.slice eA' es.length ec',.int .i64 x8,.int .i64 x9,.int .i64 x10])∧w.heap.size≤base ∧
   w'.ownsRow base 57 4 (.slice pA' n pc') n vss.flatten∧PiecesPart w' base ps n vss∧w'.ownsRow base 3 1 (.slice sA' ss.length sc') ss.length (ss.map (Value.int .i64))∧w'.ownsRow base 66 4 (.slice eA' es.length ec') es.length (es.flatMap EndM.vals)∧Ext w w':=by
 have HN:=hide hn
 have HW:=hide hw
 obtain ⟨i0,hi,hz0,hz1,hz2⟩:=info_parts pieceInfo
 clear hn hw
 go_enter Tryz.func41,Tryz.ntmps41
 go_wp2
 have X1 : Ext w (((w.alloc (.cells #[.string s0,.int .i64 x1,.int .i64 x2,.slice pA n pc,.slice sA ss.length sc,.bool f5,.bool f6,.slice eA es.length ec,.int .i64 x8,.int .i64 x9,.int .i64 x10] 26)).alloc (.cells #[.string ⟨#[]⟩,.int .i64 0,.int .i64 0,.slice none 0 0,.slice none 0 0,.bool false,.bool false,.slice none 0 0,.int .i64 0,.int .i64 0,.int .i64 0] 26)).alloc (.cells #[.string s0,.int .i64 x1,.int .i64 x2,.slice none 0 0,.slice sA ss.length sc,.bool f5,.bool f6,.slice eA es.length ec,.int .i64 x8,.int .i64 x9,.int .i64 x10] 26)):=ext_alloc (ext_alloc (ext_alloc (Below.refl _ _) _) _) _
 have K1:=((Blk.new w 26 #[.string s0,.int .i64 x1,.int .i64 x2,.slice pA n pc,.slice sA ss.length sc,.bool f5,.bool f6,.slice eA es.length ec,.int .i64 x8,.int .i64 x9,.int .i64 x10]).alloc (.cells #[.string ⟨#[]⟩,.int .i64 0,.int .i64 0,.slice none 0 0,.slice none 0 0,.bool false,.bool false,.slice none 0 0,.int .i64 0,.int .i64 0,.int .i64 0] 26)).alloc (.cells #[.string s0,.int .i64 x1,.int .i64 x2,.slice none 0 0,.slice sA ss.length sc,.bool f5,.bool f6,.slice eA es.length ec,.int .i64 x8,.int .i64 x9,.int .i64 x10] 26)
 have K2:=(Blk.new (w.alloc (.cells #[.string s0,.int .i64 x1,.int .i64 x2,.slice pA n pc,.slice sA ss.length sc,.bool f5,.bool f6,.slice eA es.length ec,.int .i64 x8,.int .i64 x9,.int .i64 x10] 26)) 26 #[.string ⟨#[]⟩,.int .i64 0,.int .i64 0,.slice none 0 0,.slice none 0 0,.bool false,.bool false,.slice none 0 0,.int .i64 0,.int .i64 0,.int .i64 0]).alloc (.cells #[.string s0,.int .i64 x1,.int .i64 x2,.slice none 0 0,.slice sA ss.length sc,.bool f5,.bool f6,.slice eA es.length ec,.int .i64 x8,.int .i64 x9,.int .i64 x10] 26)
 have K3:=Blk.new ((w.alloc (.cells #[.string s0,.int .i64 x1,.int .i64 x2,.slice pA n pc,.slice sA ss.length sc,.bool f5,.bool f6,.slice eA es.length ec,.int .i64 x8,.int .i64 x9,.int .i64 x10] 26)).alloc (.cells #[.string ⟨#[]⟩,.int .i64 0,.int .i64 0,.slice none 0 0,.slice none 0 0,.bool false,.bool false,.slice none 0 0,.int .i64 0,.int .i64 0,.int .i64 0] 26)) 26 #[.string s0,.int .i64 x1,.int .i64 x2,.slice none 0 0,.slice sA ss.length sc,.bool f5,.bool f6,.slice eA es.length ec,.int .i64 x8,.int .i64 x9,.int .i64 x10]
 have hS1 : (w.alloc (.cells #[.string s0,.int .i64 x1,.int .i64 x2,.slice pA n pc,.slice sA ss.length sc,.bool f5,.bool f6,.slice eA es.length ec,.int .i64 x8,.int .i64 x9,.int .i64 x10] 26)).heap.size=w.heap.size + 1:=by simp
 have hS2 : ((w.alloc (.cells #[.string s0,.int .i64 x1,.int .i64 x2,.slice pA n pc,.slice sA ss.length sc,.bool f5,.bool f6,.slice eA es.length ec,.int .i64 x8,.int .i64 x9,.int .i64 x10] 26)).alloc (.cells #[.string ⟨#[]⟩,.int .i64 0,.int .i64 0,.slice none 0 0,.slice none 0 0,.bool false,.bool false,.slice none 0 0,.int .i64 0,.int .i64 0,.int .i64 0] 26)).heap.size=w.heap.size + 1 + 1:=by simp
 rw [hS1] at K2
 rw [hS2] at K3
 clear hS1 hS2
 generalize (((w.alloc (.cells #[.string s0,.int .i64 x1,.int .i64 x2,.slice pA n pc,.slice sA ss.length sc,.bool f5,.bool f6,.slice eA es.length ec,.int .i64 x8,.int .i64 x9,.int .i64 x10] 26)).alloc (.cells #[.string ⟨#[]⟩,.int .i64 0,.int .i64 0,.slice none 0 0,.slice none 0 0,.bool false,.bool false,.slice none 0 0,.int .i64 0,.int .i64 0,.int .i64 0] 26)).alloc (.cells #[.string s0,.int .i64 x1,.int .i64 x2,.slice none 0 0,.slice sA ss.length sc,.bool f5,.bool f6,.slice eA es.length ec,.int .i64 x8,.int .i64 x9,.int .i64 x10] 26))=w1 at *
 have hb13 : ¬ w.heap.size=w.heap.size + 1 + 1:=by omega
 have hb23 : ¬ w.heap.size + 1=w.heap.size + 1 + 1:=by omega
 have hb12 : w.heap.size < w.heap.size + 1 + 1 + 1:=by omega
 have hb22 : w.heap.size + 1 < w.heap.size + 1 + 1 + 1:=by omega
 have hb32 : w.heap.size + 1 + 1 < w.heap.size + 1 + 1 + 1:=by omega
 have hbw : w.heap.size≤w.heap.size + 1 + 1:=by omega
 have hbw2 : w.heap.size≤w.heap.size + 1:=by omega
 have hb4 : w.heap.size + 1 + 1 + 1≤w1.heap.size:=K3.lt
 generalize hB4 : w.heap.size + 1 + 1 + 1=B4 at *
 generalize hB3 : w.heap.size + 1 + 1=B3 at *
 generalize hB2 : w.heap.size + 1=B2 at *
 generalize hB1 : w.heap.size=B1 at *
 have HB1:=hide hB1
 clear hB1 hB2 hB3 hB4
 go_loopw [5,11] (fun _ i wr => ∃ (k : Nat) (pv : Value) (vss : List (List Value)),k≤n∧i=.int .i64 k∧Blk wr B1 26 #[.string s0,.int .i64 x1,.int .i64 x2,.slice pA n pc,.slice sA ss.length sc,.bool f5,.bool f6,.slice eA es.length ec,.int .i64 x8,.int .i64 x9,.int .i64 x10]∧Blk wr B2 26 #[.string ⟨#[]⟩,.int .i64 0,.int .i64 0,.slice none 0 0,.slice none 0 0,.bool false,.bool false,.slice none 0 0,.int .i64 0,.int .i64 0,.int .i64 0]∧Blk wr B3 26 #[.string s0,.int .i64 x1,.int .i64 x2,pv,.slice sA ss.length sc,.bool f5,.bool f6,.slice eA es.length ec,.int .i64 x8,.int .i64 x9,.int .i64 x10]∧wr.ownsRow B4 57 4 pv k vss.flatten∧PiecesPart wr B4 ps k vss∧Ext w wr∧B4≤wr.heap.size) (fun _ i _ => n - (intOf i).toNat)
 case atStart => exact ⟨0,.slice none 0 0,[],Nat.zero_le _,rfl,K1,K2,K3,World.ownsRow_nil _ _ _ _,⟨rfl,fun i p l a b => by simp at b⟩,X1,hb4⟩
 case round =>
  obtain ⟨k,pv,vss,hk,rfl,k1,k2,k3,hown,hpart,hext,hB4⟩:=hrel
  clear K1 K2 K3 X1 hb4
  have g3 : wr.cell? ⟨B1,3,none⟩=some (.slice pA n pc):=k1.cell 3
  by_cases hlt : k < n
  ·have hkl : k < ps.length:=by rw [HN.out]; exact hlt
   have hget : ps[k]? = some ps[k]:=List.getElem?_eq_getElem hkl
   have hwl:=HW.out ps[k] (List.getElem_mem _)
   have HG:=hide hget
   obtain ⟨b,o,wA,wc,rfl,c0,c1,c2,c3,hways⟩:=(hp.ext hext).get hget
   clear hget hp
   generalize ps[k]=q at *
   have HCL:=hide (clone_Ways wA q.ways.length wc q.ways (wr.alloc (.cells #[.int .u8 q.letter,.int .i64 q.hand,.int .i64 q.promote,.slice wA q.ways.length wc] 57)) rfl (by omega) (CellsAt.ext hways (ext_alloc (Below.refl _ _) _)))
   have kp:=Blk.new wr 57 #[.int .u8 q.letter,.int .i64 q.hand,.int .i64 q.promote,.slice wA q.ways.length wc]
   have HWL:=hide hways
   clear hways
   go_wp2_with fail
   refine HCL.out.mono ?_
   rintro e w2 ⟨A2,c2',rfl,hownW,y2⟩
   have Y2:=ext_trans (ext_alloc (Below.refl wr.heap.size wr) _) y2
   have k1':=k1.ext Y2
   have k2':=k2.ext Y2
   have k3':=k3.ext Y2
   have kp':=kp.ext y2
   have hown':=own_ext hown Y2
   have hpart':=hpart.keep (fun v n xs h => own_ext h Y2)
   have hext':=ext_trans hext Y2
   have hlt3:=k3.lt
   have hsz2:=y2.size
   have hownW':=own_mono (base':=B4) hownW (by simp; omega)
   have hne:=own_blk_ne hownW kp' (by decide)
   have hlp : pv.ownBlock ≠ some wr.heap.size:=fun h => by have:=hown.lt _ h; omega
   have d0 : w2.cell? ⟨wr.heap.size,0,none⟩=some (.int .u8 q.letter):=kp'.cell 0
   have d1 : w2.cell? ⟨wr.heap.size,1,none⟩=some (.int .i64 q.hand):=kp'.cell 1
   have d2 : w2.cell? ⟨wr.heap.size,2,none⟩=some (.int .i64 q.promote):=kp'.cell 2
   have d3 : w2.cell? ⟨wr.heap.size,3,none⟩=some (.slice wA q.ways.length wc):=kp'.cell 3
   have dz:=kp'.frozen 3
   have hne3 : ¬ B3=wr.heap.size:=by omega
   have hne3' : ¬ wr.heap.size=B3:=by omega
   have o3 : w2.cell? ⟨B3,3,none⟩=some pv:=k3'.cell 3
   -- behind the store into the copy of the piece
   have k1s:=k1'.far (p:=⟨wr.heap.size,3,none⟩) (by show B1 ≠ wr.heap.size; omega) (.slice A2 q.ways.length c2')
   have k2s:=k2'.far (p:=⟨wr.heap.size,3,none⟩) (by show B2 ≠ wr.heap.size; omega) (.slice A2 q.ways.length c2')
   have k3s:=k3'.far (p:=⟨wr.heap.size,3,none⟩) (by show B3 ≠ wr.heap.size; omega) (.slice A2 q.ways.length c2')
   have kps:=kp'.set_ 3 (.slice A2 q.ways.length c2')
   have hhS : w2.heap.size≤(w2.setCell ⟨wr.heap.size,3,none⟩ (.slice A2 q.ways.length c2')).heap.size:=by simp [World.setCell]
   have exs : Ext w (w2.setCell ⟨wr.heap.size,3,none⟩ (.slice A2 q.ways.length c2')):=ext_set hext' (by show w.heap.size≤wr.heap.size; exact hext.size) _
   have howns:=own_set hown' (p:=⟨wr.heap.size,3,none⟩) hlp (.slice A2 q.ways.length c2')
   have hownWs:=own_set hownW' (p:=⟨wr.heap.size,3,none⟩) hne (.slice A2 q.ways.length c2')
   have hparts : PiecesPart (w2.setCell ⟨wr.heap.size,3,none⟩ (.slice A2 q.ways.length c2')) B4 ps k vss:=hpart'.keep (fun v n xs h => own_set h (p:=⟨wr.heap.size,3,none⟩) (own_blk_ne h kp' (by decide)) _)
   have hB4s : B4≤(w2.setCell ⟨wr.heap.size,3,none⟩ (.slice A2 q.ways.length c2')).heap.size:=Nat.le_trans hB4 (Nat.le_trans Y2.size hhS)
   clear hownW hownW' hown hown' hpart hpart' hext hext' k1 k1' k2 k2' k3 k3' hhS HCL y2 Y2 c0 c1 c2 c3
   have q1:=hide k1s
   have q2:=hide k2s
   have q3:=hide k3s
   have q4:=hide kps
   have q5:=hide exs
   have q6:=hide howns
   have q7:=hide hownWs
   have q8:=hide hparts
   have q9:=hide hB4s
   clear k1s k2s k3s kps exs howns hownWs hparts hB4s kp kp' hne hlp
   have hsz : (w2.setCell ⟨wr.heap.size,3,none⟩ (.slice A2 q.ways.length c2')).heap.size=w2.heap.size:=by simp [World.setCell]
   have hnews:=cellsAt_new (w2.setCell ⟨wr.heap.size,3,none⟩ (.slice A2 q.ways.length c2')) 57 [.int .u8 q.letter,.int .i64 q.hand,.int .i64 q.promote,.slice A2 q.ways.length c2']
   rw [hsz] at hnews
   have q10:=hide hnews
   have hk4 : k + 1≤6:=by omega
   clear hnews hsz
   go_wp2_with (at_builtin; refine wpList_append_cells _ rfl (.tmp 20) (.tmp 22) 22 rfl B4 57 i0 _ 4 48 Tryz.underlying22 hi hz0 hz1 hz2 rfl (by decide) pv k vss.flatten rfl (q6.out.alloc _) (some ⟨w2.heap.size,0,none⟩) 1 1 [.int .u8 q.letter,.int .i64 q.hand,.int .i64 q.promote,.slice A2 q.ways.length c2'] rfl rfl q10.out ?one (by simp only [maxLen]; omega) (by omega) ?base (by simp) ?_)
   case one => intro u hu; simp at hu; rcases hu with rfl | rfl | rfl | rfl <;> rfl
   case base => have:=q9.out; simp; simp [World.setCell] at this; omega
   intro v4 w4 hown4 hgrow
   obtain ⟨A4,c4,rfl,_,_⟩:=own_shape hown4
   have hrow : ∀ g,g < B4→some g ≠ pv.ownBlock:=fun g hg h => by have:=(q6.out.lt g h.symm).1; omega
   have k1w:=(q1.out.alloc (.cells #[.int .u8 q.letter,.int .i64 q.hand,.int .i64 q.promote,.slice A2 q.ways.length c2'] 57)).grown hgrow (hrow B1 hb12)
   have k2w:=(q2.out.alloc (.cells #[.int .u8 q.letter,.int .i64 q.hand,.int .i64 q.promote,.slice A2 q.ways.length c2'] 57)).grown hgrow (hrow B2 hb22)
   have k3w:=(q3.out.alloc (.cells #[.int .u8 q.letter,.int .i64 q.hand,.int .i64 q.promote,.slice A2 q.ways.length c2'] 57)).grown hgrow (hrow B3 hb32)
   have hpw : PiecesPart w4 B4 ps k vss:=q8.out.keep (fun v n xs h => (h.alloc _).kept hgrow (own_ne h q6.out (by decide)))
   have hqw : PieceOwn w4 B4 q [.int .u8 q.letter,.int .i64 q.hand,.int .i64 q.promote,.slice A2 q.ways.length c2']:=⟨A2,c2',rfl,(q7.out.alloc _).kept hgrow (own_ne q7.out q6.out (by decide))⟩
   have hpw2:=hpw.step HG.out hqw
   have hexw : Ext w w4:=ext_grown (ext_alloc q5.out _) hgrow (fun g hg => by have:=(q6.out.lt g hg).1; rw [HB1.out]; omega)
   have hB4w : B4≤w4.heap.size:=by have:=hgrow.size; have h2:=q9.out; simp [World.setCell] at this h2; omega
   have o4 : w4.cell? ⟨B3,3,none⟩=some pv:=k3w.cell 3
   have z4:=k3w.frozen 3
   have hnb : (Value.slice A4 (k + 1) c4).ownBlock ≠ some B3:=fun h => by have:=(hown4.lt B3 h).1; omega
   have hown5:=own_set hown4 (p:=⟨B3,3,none⟩) hnb (.slice A4 (k + 1) c4)
   have hpw5 : PiecesPart (w4.setCell ⟨B3,3,none⟩ (.slice A4 (k + 1) c4)) B4 ps (k + 1) (vss ++ [[.int .u8 q.letter,.int .i64 q.hand,.int .i64 q.promote,.slice A2 q.ways.length c2']]):=hpw2.keep (fun v n xs h => own_set h (p:=⟨B3,3,none⟩) (fun h2 => by have:=(h.lt B3 h2).1; omega) _)
   have e1:=hide (k1w.far (p:=⟨B3,3,none⟩) (by show B1 ≠ B3; omega) (.slice A4 (k + 1) c4))
   have e2:=hide (k2w.far (p:=⟨B3,3,none⟩) (by show B2 ≠ B3; omega) (.slice A4 (k + 1) c4))
   have e3:=hide (k3w.set_ 3 (.slice A4 (k + 1) c4))
   have e4:=hide hown5
   have e5:=hide hpw5
   have e6:=hide (ext_set hexw (p:=⟨B3,3,none⟩) (by rw [HB1.out]; exact hbw) (.slice A4 (k + 1) c4))
   have e7 : Hid (B4≤(w4.setCell ⟨B3,3,none⟩ (.slice A4 (k + 1) c4)).heap.size):=hide (by simp [World.setCell]; omega)
   clear q1 q2 q3 q4 q5 q6 q7 q8 q9 q10 hgrow hrow k1w k2w k3w hpw hqw hpw2 hexw hnb hown5 hpw5 hown4
   go_wp2
   go_roundw
   case rel =>
    refine ⟨k + 1,.slice A4 (k + 1) c4,vss ++ [[.int .u8 q.letter,.int .i64 q.hand,.int .i64 q.promote,.slice A2 q.ways.length c2']],by omega,by go_num,e1.out,e2.out,?_,?_,e5.out,e6.out,e7.out⟩
    ·exact e3.out
    ·have:=e4.out
     rw [List.flatten_append]
     simpa using this
   case measure => simp [intOf]; omega
  ·obtain rfl : k=n:=by omega
   have f4 : wr.cell? ⟨B1,4,none⟩=some (.slice sA ss.length sc):=k1.cell 4
   have f7 : wr.cell? ⟨B1,7,none⟩=some (.slice eA es.length ec):=k1.cell 7
   have H4 : Hid (∀ W,Ext w W→Calls Tryz.prog 68 #[.slice sA ss.length sc] W (OwnInts W ss)):=hide (fun W hW => cloneInts_any sA ss.length sc ss W rfl (by omega) (fun e => by
    subst e
    by_cases h0 : ss.length=0
    ·exact h0
    ·obtain ⟨_,_,e,_⟩:=hs 0 (by omega)
     cases e) (hs.ext hW))
   have H7 : Hid (∀ W,Ext w W→Calls Tryz.prog 71 #[.slice eA es.length ec] W (OwnEnds W es)):=hide (fun W hW => clone_Ends eA es.length ec es W rfl (by omega) (CellsAt.ext he hW))
   obtain ⟨A3,c3,rfl,_,_⟩:=own_shape hown
   have HPT : Hid (PiecesPart wr.drew B4 ps k vss):=hide hpart
   have HOW : Hid (wr.drew.ownsRow B4 57 4 (.slice A3 k c3) k vss.flatten):=hide hown
   have hexd : Ext w wr.drew:=Below.drew hext
   have k1d:=k1.drew
   have k2d:=k2.drew
   have k3d:=k3.drew
   have hB4d : B4≤wr.drew.heap.size:=hB4
   clear hp hs he hpart hown
   go_wp2
   go_region_with (first
    | (go_at_call 68; refine (H4.out _ hexd).mono ?_; rintro e w5 ⟨A5,c5,rfl,hown5,x5⟩; have y5:=ext_trans hexd x5; have k1a:=k1d.ext x5; have k2a:=k2d.ext x5; have k3a:=k3d.ext x5; have f7a : w5.cell? ⟨B1,7,none⟩=some (.slice eA es.length ec):=k1a.cell 7)
    | (go_at_call 71; refine (H7.out _ y5).mono ?_; rintro e w6 ⟨A6,c6,rfl,hown6,x6⟩; have k2b:=k2a.ext x6; have k3b:=k3a.ext x6; have zf2:=k2b.frozen; have zf3:=k3b.frozen; have m0 : w6.cell? ⟨B3,0,none⟩=some (.string s0):=k3b.cell 0; have m1 : w6.cell? ⟨B3,1,none⟩=some (.int .i64 x1):=k3b.cell 1; have m2 : w6.cell? ⟨B3,2,none⟩=some (.int .i64 x2):=k3b.cell 2; have m3 : w6.cell? ⟨B3,3,none⟩=some (.slice A3 k c3):=k3b.cell 3; have m4 : w6.cell? ⟨B3,4,none⟩=some (.slice sA ss.length sc):=k3b.cell 4; have m5 : w6.cell? ⟨B3,5,none⟩=some (.bool f5):=k3b.cell 5; have m6 : w6.cell? ⟨B3,6,none⟩=some (.bool f6):=k3b.cell 6; have m7 : w6.cell? ⟨B3,7,none⟩=some (.slice eA es.length ec):=k3b.cell 7; have m8 : w6.cell? ⟨B3,8,none⟩=some (.int .i64 x8):=k3b.cell 8; have m9 : w6.cell? ⟨B3,9,none⟩=some (.int .i64 x9):=k3b.cell 9; have m10 : w6.cell? ⟨B3,10,none⟩=some (.int .i64 x10):=k3b.cell 10; have z0 : w6.cell? ⟨B2,0,none⟩=some (.string ⟨#[]⟩):=k2b.cell 0; have z1 : w6.cell? ⟨B2,1,none⟩=some (.int .i64 0):=k2b.cell 1; have z2 : w6.cell? ⟨B2,2,none⟩=some (.int .i64 0):=k2b.cell 2; have z3 : w6.cell? ⟨B2,3,none⟩=some (.slice none 0 0):=k2b.cell 3; have z4 : w6.cell? ⟨B2,4,none⟩=some (.slice none 0 0):=k2b.cell 4; have z5 : w6.cell? ⟨B2,5,none⟩=some (.bool false):=k2b.cell 5; have z6 : w6.cell? ⟨B2,6,none⟩=some (.bool false):=k2b.cell 6; have z7 : w6.cell? ⟨B2,7,none⟩=some (.slice none 0 0):=k2b.cell 7; have z8 : w6.cell? ⟨B2,8,none⟩=some (.int .i64 0):=k2b.cell 8; have z9 : w6.cell? ⟨B2,9,none⟩=some (.int .i64 0):=k2b.cell 9; have z10 : w6.cell? ⟨B2,10,none⟩=some (.int .i64 0):=k2b.cell 10))
   all_goals
    go_wp2
    have kf:=blk_set11 ((k2b.far (p:=⟨B3,4,none⟩) hb23 (.slice A5 ss.length c5)).far (p:=⟨B3,7,none⟩) hb23 (.slice A6 es.length c6)) (u0:=(.string s0)) (u1:=(.int .i64 x1)) (u2:=(.int .i64 x2)) (u3:=(.slice A3 k c3)) (u4:=(.slice A5 ss.length c5)) (u5:=(.bool f5)) (u6:=(.bool f6)) (u7:=(.slice A6 es.length c6)) (u8:=(.int .i64 x8)) (u9:=(.int .i64 x9)) (u10:=(.int .i64 x10))
    have xf:=(ext_set (ext_set (ext_set (ext_set (ext_set (ext_set (ext_set (ext_set (ext_set (ext_set (ext_set (ext_set (ext_set (ext_trans y5 x6) (p:=⟨B3,4,none⟩) (by rw [HB1.out]; exact hbw) (.slice A5 ss.length c5)) (p:=⟨B3,7,none⟩) (by rw [HB1.out]; exact hbw) (.slice A6 es.length c6)) (p:=⟨B2,0,none⟩) (by rw [HB1.out]; exact hbw2) (.string s0)) (p:=⟨B2,1,none⟩) (by rw [HB1.out]; exact hbw2) (.int .i64 x1)) (p:=⟨B2,2,none⟩) (by rw [HB1.out]; exact hbw2) (.int .i64 x2)) (p:=⟨B2,3,none⟩) (by rw [HB1.out]; exact hbw2) (.slice A3 k c3)) (p:=⟨B2,4,none⟩) (by rw [HB1.out]; exact hbw2) (.slice A5 ss.length c5)) (p:=⟨B2,5,none⟩) (by rw [HB1.out]; exact hbw2) (.bool f5)) (p:=⟨B2,6,none⟩) (by rw [HB1.out]; exact hbw2) (.bool f6)) (p:=⟨B2,7,none⟩) (by rw [HB1.out]; exact hbw2) (.slice A6 es.length c6)) (p:=⟨B2,8,none⟩) (by rw [HB1.out]; exact hbw2) (.int .i64 x8)) (p:=⟨B2,9,none⟩) (by rw [HB1.out]; exact hbw2) (.int .i64 x9)) (p:=⟨B2,10,none⟩) (by rw [HB1.out]; exact hbw2) (.int .i64 x10))
    have hk:=(heap_set_from (heap_set_from (heap_set_from (heap_set_from (heap_set_from (heap_set_from (heap_set_from (heap_set_from (heap_set_from (heap_set_from (heap_set_from (heap_set_from (heap_set_from (w0:=w6) (fun _ _ => rfl) (p:=⟨B3,4,none⟩) hb32 (.slice A5 ss.length c5)) (p:=⟨B3,7,none⟩) hb32 (.slice A6 es.length c6)) (p:=⟨B2,0,none⟩) hb22 (.string s0)) (p:=⟨B2,1,none⟩) hb22 (.int .i64 x1)) (p:=⟨B2,2,none⟩) hb22 (.int .i64 x2)) (p:=⟨B2,3,none⟩) hb22 (.slice A3 k c3)) (p:=⟨B2,4,none⟩) hb22 (.slice A5 ss.length c5)) (p:=⟨B2,5,none⟩) hb22 (.bool f5)) (p:=⟨B2,6,none⟩) hb22 (.bool f6)) (p:=⟨B2,7,none⟩) hb22 (.slice A6 es.length c6)) (p:=⟨B2,8,none⟩) hb22 (.int .i64 x8)) (p:=⟨B2,9,none⟩) hb22 (.int .i64 x9)) (p:=⟨B2,10,none⟩) hb22 (.int .i64 x10))
    have o3:=own_from (own_ext HOW.out (ext_trans x5 x6)) (Nat.le_refl _) hk
    have o4:=own_from (own_ext (own_mono (base':=B4) hown5 hB4d) x6) (Nat.le_refl _) hk
    have o7:=own_from (own_mono (base':=B4) hown6 (Nat.le_trans hB4d x5.size)) (Nat.le_refl _) hk
    have p3:=HPT.out.keep (fun v n xs h => own_from (own_ext h (ext_trans x5 x6)) (Nat.le_refl _) hk)
    clear hk
    generalize (((((((((((((w6.setCell ⟨B3,4,none⟩ (.slice A5 ss.length c5)).setCell ⟨B3,7,none⟩ (.slice A6 es.length c6)).setCell ⟨B2,0,none⟩ (.string s0)).setCell ⟨B2,1,none⟩ (.int .i64 x1)).setCell ⟨B2,2,none⟩ (.int .i64 x2)).setCell ⟨B2,3,none⟩ (.slice A3 k c3)).setCell ⟨B2,4,none⟩ (.slice A5 ss.length c5)).setCell ⟨B2,5,none⟩ (.bool f5)).setCell ⟨B2,6,none⟩ (.bool f6)).setCell ⟨B2,7,none⟩ (.slice A6 es.length c6)).setCell ⟨B2,8,none⟩ (.int .i64 x8)).setCell ⟨B2,9,none⟩ (.int .i64 x9)).setCell ⟨B2,10,none⟩ (.int .i64 x10))=Wf at *
    have r0 : Wf.cell? ⟨B2,0,none⟩=some (.string s0):=kf.cell 0
    have r1 : Wf.cell? ⟨B2,1,none⟩=some (.int .i64 x1):=kf.cell 1
    have r2 : Wf.cell? ⟨B2,2,none⟩=some (.int .i64 x2):=kf.cell 2
    have r3 : Wf.cell? ⟨B2,3,none⟩=some (.slice A3 k c3):=kf.cell 3
    have r4 : Wf.cell? ⟨B2,4,none⟩=some (.slice A5 ss.length c5):=kf.cell 4
    have r5 : Wf.cell? ⟨B2,5,none⟩=some (.bool f5):=kf.cell 5
    have r6 : Wf.cell? ⟨B2,6,none⟩=some (.bool f6):=kf.cell 6
    have r7 : Wf.cell? ⟨B2,7,none⟩=some (.slice A6 es.length c6):=kf.cell 7
    have r8 : Wf.cell? ⟨B2,8,none⟩=some (.int .i64 x8):=kf.cell 8
    have r9 : Wf.cell? ⟨B2,9,none⟩=some (.int .i64 x9):=kf.cell 9
    have r10 : Wf.cell? ⟨B2,10,none⟩=some (.int .i64 x10):=kf.cell 10
    refine bodyPost_ret (v:=.agg #[.string s0,.int .i64 x1,.int .i64 x2,.slice A3 k c3,.slice A5 ss.length c5,.bool f5,.bool f6,.slice A6 es.length c6,.int .i64 x8,.int .i64 x9,.int .i64 x10]) ?_ rfl ?_
    ·simp [results,Tryz.results41,go_sem,r0,r1,r2,r3,r4,r5,r6,r7,r8,r9,r10]
    ·exact ⟨A3,c3,A5,c5,A6,c6,vss,B4,rfl,by rw [HB1.out]; omega,o3,p3,o4,o7,xf⟩
def RulesOwn (w : World) (base : Nat) (v : Value) (R : RulesM) : Prop :=
 ∃ pA pc sA sc eA ec vss,v=.agg #[.string R.name,.int .i64 R.width,.int .i64 R.height,.slice pA R.pieces.length pc,.slice sA R.start.length sc,.bool R.falls,.bool R.keeps,.slice eA R.ends.length ec,.int .i64 R.blocked,.int .i64 R.quiet,.int .i64 R.rept] ∧
  w.ownsRow base 57 4 (.slice pA R.pieces.length pc) R.pieces.length vss.flatten∧PiecesPart w base R.pieces R.pieces.length vss∧w.ownsRow base 3 1 (.slice sA R.start.length sc) R.start.length (R.start.map (Value.int .i64))∧w.ownsRow base 66 4 (.slice eA R.ends.length ec) R.ends.length (R.ends.flatMap EndM.vals)∧R.name.size≤9223372036854775807
theorem RulesOwn.at_ {w : World} {base : Nat} {v : Value} {R : RulesM} (h : RulesOwn w base v R) : RulesAt w v R:=by
 obtain ⟨pA,pc,sA,sc,eA,ec,vss,e,h1,h2,h3,h4,h5⟩:=h
 exact ⟨pA,pc,sA,sc,eA,ec,e,h2.done rfl h1,cells_ints (own_cells h3).1,(own_cells h4).1,own_cap h1,own_cap h3,own_cap h4,h5⟩
end Go.Proofs.YtdoibgmmijhlfaaGreatDoor
