/- PosK PosI CopyAny MovesW1 Typed BeginI -/
import Derived.Test.YtdoibgmmijhlfaaGreatDoorR01
import Derived.Test.YtdoibgmmijhlfaaGreatDoorR09
import Derived.Below
import Derived.Test.YtdoibgmmijhlfaaGreatDoorR08
import Derived.Deep.QuietTactic
import Derived.BigQuiet
import Derived.WalkSmall
import Derived.Deep.AppendLies
import Derived.Test.YtdoibgmmijhlfaaGreatDoorR10
namespace Go.Proofs.YtdoibgmmijhlfaaGreatDoor
open Go.ChangeShapes Go.WideShapes Go.ChangeAt Go.RowKit
set_option linter.unusedVariables false
theorem OwnM.bd {w0 w : World} {v : Value} {xs : List MoveM} (h : OwnM w0 w v xs) : ∀ g,v.ownBlock=some g→w0.heap.size≤g∧g < w.heap.size:=by
 obtain ⟨A,c,rfl,h⟩:=h
 exact h.lt
theorem OwnM.blk_ne {w0 w : World} {v : Value} {xs : List MoveM} {g : Nat} {t : TypeId} {cs : Array Value} (h : OwnM w0 w v xs) (k : Blk w g t cs) (ht : 47 ≠ t) : some g ≠ v.ownBlock:=by
 obtain ⟨A,c,rfl,h⟩:=h
 exact Ne.symm (own_blk_ne h k ht)
end Go.Proofs.YtdoibgmmijhlfaaGreatDoor
namespace Go.Proofs.YtdoibgmmijhlfaaGreatDoor
open Go.ChangeShapes Go.WideShapes Go.ChangeAt Go.RowKit
set_option linter.unusedVariables false
def PosI (w : World) (v : Value) (P : PosM) : Prop :=
 ∃ g0 c0 g1 c1 g2 c2,v=.agg #[.slice (some ⟨g0,0,none⟩) P.cells.length c0,.slice (some ⟨g1,0,none⟩) P.hand0.length c1,.slice (some ⟨g2,0,none⟩) P.hand1.length c2,.int .i64 P.turn,.int .i64 P.quiet] ∧
  IRow w g0 P.cells∧IRow w g1 P.hand0∧IRow w g2 P.hand1∧P.cells.length≤c0∧P.hand0.length≤c1∧P.hand1.length≤c2
theorem PosI.at_ {w : World} {v : Value} {P : PosM} (h : PosI w v P) : PosAt w v P:=by
 obtain ⟨g0,c0,g1,c1,g2,c2,e,r0,r1,r2,h⟩:=h
 exact ⟨_,c0,_,c1,_,c2,e,r0.ints,r1.ints,r2.ints,h⟩
theorem PosOwn.toI {w : World} {N : Nat} {v : Value} {P : PosM} (h : PosOwn w N v P) : PosI w v P:=by
 obtain ⟨g0,c0,g1,c1,g2,c2,e,-,-,-,r⟩:=h
 exact ⟨g0,c0,g1,c1,g2,c2,e,r⟩
theorem PosI.same {w W : World} {v : Value} {P : PosM} (h : PosI w v P) (hs : ∀ g zs,IRow w g zs→W.heap[g]? = w.heap[g]?) : PosI W v P:=by
 obtain ⟨g0,c0,g1,c1,g2,c2,e,r0,r1,r2,m⟩:=h
 exact ⟨g0,c0,g1,c1,g2,c2,e,r0.same (hs _ _ r0),r1.same (hs _ _ r1),r2.same (hs _ _ r2),m⟩
theorem PosI.ext {w W : World} {v : Value} {P : PosM} (h : PosI w v P) (x : Ext w W) : PosI W v P:=h.same (fun g zs r => x.block g r.lt)
end Go.Proofs.YtdoibgmmijhlfaaGreatDoor
namespace Go.Proofs.YtdoibgmmijhlfaaGreatDoor
open Go.ChangeShapes Go.WideShapes Go.ChangeAt Go.RowKit
set_option linter.unusedVariables false
theorem Copy_any (v : Value) (R : RulesM) (w : World) (hR : RulesAt w v R) (hV : Valid R) :
  Calls Tryz.prog 41 #[v] w fun e w' => ∃ v' base,e=.returned v'∧w.heap.size≤base∧RulesOwn w' base v' R∧Ext w w':=by
 obtain ⟨pA,pc,sA,sc,eA,ec,rfl,hp,hs,he,hpc,hsc,hec,hnm⟩:=hR
 have har:=area_bd _ _ hV.side
 have ha:=hV.area
 refine (copy_core R.name R.width R.height R.blocked R.quiet R.rept R.falls R.keeps pA sA eA R.pieces.length pc sc ec R.pieces R.start R.ends w rfl hV.pieces6 (fun p hp => (piece_facts hV.piece hp).2.2.2.1) (by omega) hV.ends6 hp hs he).mono ?_
 rintro e w' ⟨pA',pc',sA',sc',eA',ec',vss,base,rfl,hb,h1,h2,h3,h4,h7⟩
 exact ⟨_,base,rfl,hb,⟨pA',pc',sA',sc',eA',ec',vss,rfl,h1,h2,h3,h4,hnm⟩,h7⟩
end Go.Proofs.YtdoibgmmijhlfaaGreatDoor
namespace Go.Proofs.YtdoibgmmijhlfaaGreatDoor
open Go.ChangeShapes Go.WideShapes Go.ChangeAt Go.RowKit
set_option linter.unusedVariables false
def fillA (cs : List Int) (W x : Nat) : Bool:=fillB cs W x x
theorem fillB_fuel (cs : List Int) (W : Nat) (hW : 1≤W) : ∀ n x,x≤n→fillB cs W n x=fillB cs W x x
 | 0,x,h => by
  obtain rfl : x=0:=by omega
  rfl
 | n + 1,0,_ => by
  show (if 0 < W then true else _)=true
  rw [if_pos (by omega)]
 | n + 1,x + 1,h => by
  show (if x + 1 < W then true else if cs.getD (x + 1 - W) 0=0 then false else fillB cs W n (x + 1 - W))=(if x + 1 < W then true else if cs.getD (x + 1 - W) 0=0 then false else fillB cs W x (x + 1 - W))
  rw [fillB_fuel cs W hW n (x + 1 - W) (by omega),fillB_fuel cs W hW x (x + 1 - W) (by omega)]
theorem fillA_low {cs : List Int} {W x : Nat} (h : x < W) : fillA cs W x=true:=by
 unfold fillA
 cases x with
 | zero => rfl
 | succ x =>
  show (if x + 1 < W then true else _)=true
  rw [if_pos h]
theorem fillA_step {cs : List Int} {W x : Nat} (hW : 1≤W) (h : W≤x) : fillA cs W x=if cs.getD (x - W) 0=0 then false else fillA cs W (x - W):=by
 unfold fillA
 obtain ⟨y,rfl⟩ : ∃ y,x=y + 1:=⟨x - 1,by omega⟩
 show (if y + 1 < W then true else if cs.getD (y + 1 - W) 0=0 then false else fillB cs W y (y + 1 - W))=_
 rw [if_neg (by omega),fillB_fuel cs W hW y (y + 1 - W) (by omega)]
set_option maxHeartbeats 1000000 in
theorem filled_any (R : RulesM) (P : PosM) (v u : Value) (s W : Nat) (w : World) (hR : RulesAt w v R) (hP : PosAt w u P) (hW : R.width=W) (h1 : 1≤W) (h8 : W≤8) (hs : s < P.cells.length) (h64 : P.cells.length≤64) :
  Calls Tryz.prog 104 #[v,u,.int .i64 (s : Int)] w fun e w' => e=.returned (.bool (fillA P.cells W s))∧Ext w w':=by
 obtain ⟨pA,pc,sA,sc,eA,ec,rfl,-⟩:=hR
 obtain ⟨cA,cc,aA,ac,bA,bc,rfl,hc,-⟩:=hP
 rw [hW]
 clear hW
 obtain ⟨x1,k1,k2⟩:=blks2 w #[.string R.name,.int .i64 (W : Int),.int .i64 R.height,.slice pA R.pieces.length pc,.slice sA R.start.length sc,.bool R.falls,.bool R.keeps,.slice eA R.ends.length ec,.int .i64 R.blocked,.int .i64 R.quiet,.int .i64 R.rept] 26 #[.slice cA P.cells.length cc,.slice aA P.hand0.length ac,.slice bA P.hand1.length bc,.int .i64 P.turn,.int .i64 P.quiet] 43
 have hc':=hide (hc.ext x1)
 have X:=hide x1
 clear hc x1
 go_enter Tryz.func104,Tryz.ntmps104
 go_wp2
 generalize ((w.alloc (.cells #[.string R.name,.int .i64 (W : Int),.int .i64 R.height,.slice pA R.pieces.length pc,.slice sA R.start.length sc,.bool R.falls,.bool R.keeps,.slice eA R.ends.length ec,.int .i64 R.blocked,.int .i64 R.quiet,.int .i64 R.rept] 26)).alloc (.cells #[.slice cA P.cells.length cc,.slice aA P.hand0.length ac,.slice bA P.hand1.length bc,.int .i64 P.turn,.int .i64 P.quiet] 43))=w2 at *
 generalize w.heap.size + 1=B2 at *
 generalize w.heap.size=B1 at *
 have f1 : w2.cell? ⟨B1,1,none⟩=some (.int .i64 (W : Int)):=k1.cell 1
 have f2 : w2.cell? ⟨B2,0,none⟩=some (.slice cA P.cells.length cc):=k2.cell 0
 clear k1 k2
 go_loop [2] (fun z => ∃ x : Nat,x≤s∧z=.int .i64 ((x : Int) - W)∧Hid (fillA P.cells W x=fillA P.cells W s)) (fun z => (intOf z + W).toNat)
 case atStart => exact ⟨s,Nat.le_refl _,rfl,hide rfl⟩
 case round =>
  obtain ⟨x,hx,rfl,hT⟩:=hrel
  by_cases hlt : x < W
  ·have HF:=hide (hT.out.symm.trans (fillA_low hlt))
   clear hT
   have hn : ¬ (0 : Int)≤(x : Int) - W:=by omega
   go_wp2
   go_ret
   exact ⟨by rw [HF.out]; rfl,X.out⟩
  ·obtain ⟨y,rfl⟩ : ∃ y,x=y + W:=⟨x - W,by omega⟩
   have HF:=hide (hT.out.symm.trans (fillA_step h1 (by omega)))
   rw [Nat.add_sub_cancel] at HF
   obtain ⟨b,o,rfl,hcell⟩:=hc'.out y (by omega)
   have e : ((y + W : Nat) : Int) - W=y:=by omega
   rw [e]
   clear hT e
   generalize hz : P.cells.getD y 0=z at *
   by_cases h0 : z=0
   ·subst h0
    have HF2 : Hid (fillA P.cells W s=false):=hide (by rw [HF.out]; rfl)
    clear HF hz
    go_wp2
    go_ret
    exact ⟨by rw [HF2.out]; rfl,X.out⟩
   ·have h0' : (z == 0)=false:=by simpa using h0
    have HF2 : Hid (fillA P.cells W y=fillA P.cells W s):=hide (by rw [HF.out,if_neg h0])
    clear HF hz h0
    go_wp2
    go_round
    case rel => exact ⟨y,by omega,rfl,HF2⟩
    case measure => simp [intOf]; omega
theorem IsLast_any (R : RulesM) (v : Value) (p s : Int) (w : World) (hR : RulesAt w v R) (h1 : 1≤R.width) (h8 : R.width≤8) (g1 : 1≤R.height) (g8 : R.height≤8) (hp : p=0∨p=1) (hs : 0≤s) (hs64 : s≤64) :
  Calls Tryz.prog 75 #[v,.int .i64 p,.int .i64 s] w fun e w' => e=.returned (.bool (lastM R p s))∧Ext w w':=by
 obtain ⟨pA,pc,sA,sc,eA,ec,rfl,-⟩:=hR
 unfold lastM
 have hq0 : 0≤s / R.width:=Int.ediv_nonneg hs (by omega)
 have hq1 : s / R.width≤64:=Int.le_trans (Int.ediv_le_self _ hs) hs64
 rcases hp with rfl | rfl
 ·go_enter Tryz.func75,Tryz.ntmps75
  go_wp2
  go_quiet (fail)
  go_wp2
  go_ret
  exact ⟨by simp; rfl,ext_drewN (ext_alloc (Below.refl _ _) _) _⟩
 ·go_enter Tryz.func75,Tryz.ntmps75
  go_wp2
  go_ret
  exact ⟨by simp; rfl,ext_alloc (Below.refl _ _) _⟩
end Go.Proofs.YtdoibgmmijhlfaaGreatDoor
namespace Go.Proofs.YtdoibgmmijhlfaaGreatDoor
open Go.ChangeShapes Go.WideShapes Go.ChangeAt Go.RowKit Go.Shelf
set_option linter.unusedVariables false
def TFr (ts : List TypeId) (w W : World) : Prop:=∀ g t cs,Blk w g t cs→t ∉ ts→Blk W g t cs
theorem TFr.trans {ts : List TypeId} {a b c : World} (h : TFr ts a b) (k : TFr ts b c) : TFr ts a c:=fun g t cs hb ht => k g t cs (h g t cs hb ht) ht
theorem TFr.of_ext {ts : List TypeId} {w W : World} (x : Ext w W) : TFr ts w W:=fun _ _ _ h _ => h.ext x
theorem TFr.set {ts : List TypeId} {w : World} {B : Nat} {t : TypeId} {cs : Array Value} (k : Blk w B t cs) (ht : t ∈ ts) (i : Nat) (u : Value) : TFr ts w (w.setCell ⟨B,i,none⟩ u):=fun g t' cs' hb hn => hb.far (p:=⟨B,i,none⟩) (by
 rintro rfl
 have e:=hb.symm.trans k
 simp only [Option.some.injEq,Obj.cells.injEq] at e
 exact hn (e.2.1 ▸ ht)) u
theorem TFr.grown {ts : List TypeId} {w W : World} {base : Nat} {e : TypeId} {size n : Nat} {v : Value} {xs : List Value} (o : w.ownsRow base e size v n xs) (he : e ∈ ts) (g : w.grownBy W v.ownBlock) : TFr ts w W:=fun b t cs hb hn =>
 hb.grown g (fun h => own_blk_ne o hb (by rintro rfl; exact hn he) h.symm)
theorem own_tfr {ts : List TypeId} {w W : World} {base : Nat} {e : TypeId} {size n : Nat} {v : Value} {xs : List Value} (h : w.ownsRow base e size v n xs) (he : e ∉ ts) (f : TFr ts w W) : W.ownsRow base e size v n xs :=
 ⟨h.1,h.2.imp id fun ⟨g,cap,cur,h1,h2,h3,h4⟩ => ⟨g,cap,cur,h1,h2,f g e cur h3 he,h4⟩⟩
theorem IRow.tfr {ts : List TypeId} {w W : World} {g : Nat} {zs : List Int} (h : IRow w g zs) (he : 3 ∉ ts) (f : TFr ts w W) : IRow W g zs:=by
 obtain ⟨cur,h,ht⟩:=h
 exact ⟨cur,f g _ cur h he,ht⟩
theorem PosI.tfr {ts : List TypeId} {w W : World} {v : Value} {P : PosM} (h : PosI w v P) (he : 3 ∉ ts) (f : TFr ts w W) : PosI W v P:=by
 obtain ⟨g0,c0,g1,c1,g2,c2,e,r0,r1,r2,m⟩:=h
 exact ⟨g0,c0,g1,c1,g2,c2,e,r0.tfr he f,r1.tfr he f,r2.tfr he f,m⟩
def rulesT (ts : List TypeId) : Prop:=57 ∉ ts∧60 ∉ ts∧3 ∉ ts∧66 ∉ ts
theorem RulesOwn.tfr {ts : List TypeId} {w W : World} {base : Nat} {v : Value} {R : RulesM} (h : RulesOwn w base v R) (he : rulesT ts) (f : TFr ts w W) : RulesOwn W base v R:=by
 obtain ⟨pA,pc,sA,sc,eA,ec,vss,e,h1,h2,h3,h4,h5⟩:=h
 exact ⟨pA,pc,sA,sc,eA,ec,vss,e,own_tfr h1 he.1 f,h2.keep (fun v n xs k => own_tfr k he.2.1 f),own_tfr h3 he.2.2.1 f,own_tfr h4 he.2.2.2 f,h5⟩
def CellsP (W : World) (vss : List (List Value)) (ps : List PosM) : Prop:=vss.length=ps.length∧∀ (i : Nat) (c : List Value) (P : PosM),vss[i]? = some c→ps[i]? = some P→c.length=5∧PosI W (.agg c.toArray) P
theorem CellsP.tfr {ts : List TypeId} {w W : World} {vss : List (List Value)} {ps : List PosM} (h : CellsP w vss ps) (he : 3 ∉ ts) (f : TFr ts w W) : CellsP W vss ps :=
 ⟨h.1,fun i c P a b => ⟨(h.2 i c P a b).1,(h.2 i c P a b).2.tfr he f⟩⟩
theorem CellsP.ext {w W : World} {vss : List (List Value)} {ps : List PosM} (h : CellsP w vss ps) (x : Ext w W) : CellsP W vss ps :=
 ⟨h.1,fun i c P a b => ⟨(h.2 i c P a b).1,(h.2 i c P a b).2.ext x⟩⟩
theorem CellsP.snoc {w : World} {vss : List (List Value)} {ps : List PosM} {c : List Value} {P : PosM} (h : CellsP w vss ps) (hc : c.length=5) (hp : PosI w (.agg c.toArray) P) : CellsP w (vss ++ [c]) (ps ++ [P]):=by
 refine ⟨by simp [h.1],fun i c' P' a b => ?_⟩
 by_cases hi : i < ps.length
 ·rw [List.getElem?_append_left (by rw [h.1]; exact hi)] at a
  rw [List.getElem?_append_left hi] at b
  exact h.2 i c' P' a b
 ·rw [List.getElem?_append_right (by rw [h.1]; omega)] at a
  rw [List.getElem?_append_right (by omega)] at b
  rw [h.1] at a
  have hi2 : i - ps.length=0:=by
   by_cases h0 : i - ps.length=0
   ·exact h0
   ·rw [List.getElem?_eq_none (by simp; omega)] at a; cases a
  rw [hi2] at a b
  simp only [List.getElem?_cons_zero,Option.some.injEq] at a b
  subst a b
  exact ⟨hc,hp⟩
theorem flat5 : ∀ (vss : List (List Value)) (k j : Nat) (c : List Value),(∀ l ∈ vss,l.length=5)→vss[k]? = some c→j < 5→vss.flatten[k * 5 + j]? = c[j]?
 | [],k,j,c,_,h,_ => by simp at h
 | a :: l,0,j,c,hl,h,hj => by
  simp only [List.getElem?_cons_zero,Option.some.injEq] at h
  subst h
  rw [List.flatten_cons,List.getElem?_append_left (by rw [hl a (by simp)]; omega)]
  simp
 | a :: l,k + 1,j,c,hl,h,hj => by
  have ha:=hl a (by simp)
  rw [List.flatten_cons,List.getElem?_append_right (by omega),ha,show (k + 1) * 5 + j - 5=k * 5 + j by omega]
  exact flat5 l k j c (fun x hx => hl x (by simp [hx])) (by simpa using h) hj
def OwnP (w0 w : World) (v : Value) (ps : List PosM) : Prop:=∃ A c vss,v=.slice A ps.length c∧w.ownsRow w0.heap.size 43 5 (.slice A ps.length c) ps.length vss.flatten∧CellsP w vss ps
theorem OwnP.ext {w0 w W : World} {v : Value} {ps : List PosM} (h : OwnP w0 w v ps) (x : Ext w W) : OwnP w0 W v ps:=by
 obtain ⟨A,c,vss,e,o,k⟩:=h
 exact ⟨A,c,vss,e,own_ext o x,k.ext x⟩
theorem OwnP.bd {w0 w : World} {v : Value} {ps : List PosM} (h : OwnP w0 w v ps) : ∀ g,v.ownBlock=some g→w0.heap.size≤g∧g < w.heap.size:=by
 obtain ⟨A,c,vss,rfl,h,-⟩:=h
 exact h.lt
theorem OwnP.all5 {w : World} {vss : List (List Value)} {ps : List PosM} (h : CellsP w vss ps) : ∀ l ∈ vss,l.length=5:=fun l hl => by
 obtain ⟨i,hi⟩:=List.getElem?_of_mem hl
 have hlt:=(List.getElem?_eq_some_iff.1 hi).1
 have hlt2 : i < ps.length:=by rw [← h.1]; exact hlt
 exact (h.2 i l ps[i] hi (List.getElem?_eq_getElem hlt2)).1
theorem pos_get {w0 w : World} {v : Value} {ps : List PosM} (h : OwnP w0 w v ps) {k : Nat} {P : PosM} (hk : ps[k]? = some P) :
  ∃ g cap c0 c1 c2 c3 c4,v=.slice (some ⟨g,0,none⟩) ps.length cap∧PosI w (.agg #[c0,c1,c2,c3,c4]) P∧w.cell? ⟨g,k * 5,none⟩=some c0∧w.cell? ⟨g,k * 5 + 1,none⟩=some c1∧w.cell? ⟨g,k * 5 + 2,none⟩=some c2∧w.cell? ⟨g,k * 5 + 3,none⟩=some c3∧w.cell? ⟨g,k * 5 + 4,none⟩=some c4:=by
 obtain ⟨A,cap,vss,rfl,o,hc⟩:=h
 have hlt:=(List.getElem?_eq_some_iff.1 hk).1
 obtain ⟨g,cap',e,-,-⟩:=World.ownsRow.form o (by omega)
 simp only [Value.slice.injEq] at e
 obtain ⟨rfl,-,-⟩:=e
 have hv : vss[k]? = some (vss[k]'(by rw [hc.1]; exact hlt)):=List.getElem?_eq_getElem _
 generalize vss[k]'(by rw [hc.1]; exact hlt)=c at hv
 obtain ⟨h5,hp⟩:=hc.2 k c P hv hk
 have hcell:=(own_cells o).1
 have hr : ∀ j,j < 5→w.cell? ⟨g,k * 5 + j,none⟩=c[j]?:=fun j hj => by
  have hf:=flat5 vss k j c (OwnP.all5 hc) hv hj
  have hs : c[j]? = some (c[j]'(by omega)):=List.getElem?_eq_getElem _
  rw [hs] at hf ⊢
  obtain ⟨b',o',e,hcc⟩:=hcell _ _ hf
  simp only [Option.some.injEq,Addr.mk.injEq,and_true] at e
  obtain ⟨rfl,rfl⟩:=e
  rw [Nat.zero_add] at hcc
  exact hcc
 match c,h5,hp,hr with
 | [c0,c1,c2,c3,c4],_,hp,hr => exact ⟨g,cap,c0,c1,c2,c3,c4,rfl,hp,hr 0 (by omega),hr 1 (by omega),hr 2 (by omega),hr 3 (by omega),hr 4 (by omega)⟩
end Go.Proofs.YtdoibgmmijhlfaaGreatDoor
namespace Go.Proofs.YtdoibgmmijhlfaaGreatDoor
open Go.ChangeShapes Go.WideShapes Go.ChangeAt Go.RowKit Go.Shelf
set_option linter.unusedVariables false
set_option linter.unusedSimpArgs false
def BeginOwn (w : World) (P : PosM) (e : Ending) (w' : World) : Prop:=∃ v',e=.returned (.tuple #[v',.int .i64 0])∧PosI w' v' P∧Ext w w'
theorem irow_far5 {w : World} {g B : Nat} {zs : List Int} {u0 u1 u2 u3 u4 : Value} (h : IRow w g zs) (hb : g ≠ B) : IRow (((((w.setCell ⟨B,0,none⟩ u0).setCell ⟨B,1,none⟩ u1).setCell ⟨B,2,none⟩ u2).setCell ⟨B,3,none⟩ u3).setCell ⟨B,4,none⟩ u4) g zs :=
 ((((h.far (p:=⟨B,0,none⟩) hb u0).far (p:=⟨B,1,none⟩) hb u1).far (p:=⟨B,2,none⟩) hb u2).far (p:=⟨B,3,none⟩) hb u3).far (p:=⟨B,4,none⟩) hb u4
set_option maxHeartbeats 4000000 in
set_option maxRecDepth 100000 in
theorem Begin_own (R : RulesM) (v : Value) (w : World) (hR : RulesAt w v R) (hV : Valid R) :
  Calls Tryz.prog 39 #[v] w (BeginOwn w (beginP R)):=by
 have har:=area_bd _ _ hV.side
 have ha:=hV.area
 have hp6:=hV.pieces6
 have HST1 : Hid (1≤R.start.length):=hide (by omega)
 have HPS1:=hide hV.pieces0
 have HC:=hide (fun W (hW : Ext w W) => (of_valid hV) ▸ Check_any v R W (hR.ext hW))
 obtain ⟨pA,pc,sA,sc,eA,ec,rfl,hpc,hs,-⟩:=hR
 have HCL:=hide (fun W (hW : Ext w W) => cloneInts_any sA R.start.length sc R.start W rfl (by omega) (fun hn => by
  subst hn
  rcases hst : R.start with _ | ⟨x,l⟩
  ·rfl
  ·obtain ⟨b,o,e,-⟩:=hs 0 (by rw [hst]; simp)
   cases e) (hs.ext hW))
 obtain ⟨x1,k1,k2⟩:=blks2 w #[.string R.name,.int .i64 R.width,.int .i64 R.height,.slice pA R.pieces.length pc,.slice sA R.start.length sc,.bool R.falls,.bool R.keeps,.slice eA R.ends.length ec,.int .i64 R.blocked,.int .i64 R.quiet,.int .i64 R.rept] 26 #[.slice none 0 0,.slice none 0 0,.slice none 0 0,.int .i64 0,.int .i64 0] 43
 have HX:=hide x1
 have HB2' : Hid (w.heap.size≤w.heap.size + 1):=hide (by omega)
 have HP:=hide (hpc.ext x1)
 have K1:=hide k1
 have f1:=k1.cell
 clear x1 k1 hV hpc hs har
 go_enter Tryz.func39,Tryz.ntmps39
 go_wp2_with fail
 refine (HC.out _ HX.out).mono ?_
 rintro e w2 ⟨rfl,x2⟩
 have X2:=hide (ext_trans HX.out x2)
 have g1:=(K1.out.ext x2).cell
 clear f1
 go_wp2_with fail
 refine (HCL.out _ X2.out).mono ?_
 rintro e w3 ⟨A3,c3,rfl,own3,x3⟩
 clear g1
 obtain ⟨x4,k4⟩:=blks1 w3 #[.slice A3 R.start.length c3,.slice none 0 0,.slice none 0 0,.int .i64 0,.int .i64 0] 43
 have X3:=hide (ext_trans X2.out x3)
 have y4:=ext_trans x2 (ext_trans x3 x4)
 have r1:=(K1.out.ext y4).cell
 have K2:=hide ((k2.ext x2).ext x3)
 have HP3:=hide (HP.out.ext (ext_trans x2 x3))
 have I3 : Hid (∃ g3,A3=some ⟨g3,0,none⟩∧IRow w3 g3 R.start):=hide (by obtain ⟨g,e,-,i,-⟩:=own_irow own3 rfl HST1.out; exact ⟨g,e,i⟩)
 have M3:=hide (own_cap own3)
 have N3 : Hid ((∀ b o,A3=some ⟨b,o,none⟩→b ≠ w.heap.size + 1)∧w.heap.size + 1 < w3.heap.size):=hide ⟨fun b o e => by have:=own_from_base own3 b o e; have:=k2.lt; have:=x2.size; omega,by have:=k2.lt; have:=x2.size; have:=x3.size; omega⟩
 have X4:=hide x4
 have HSZ : Hid ((w3.alloc (.cells #[.slice A3 R.start.length c3,.slice none 0 0,.slice none 0 0,.int .i64 0,.int .i64 0] 43)).heap.size=w3.heap.size + 1):=hide (by simp)
 clear x2 x3 x4 X2 HP own3 k2 y4 K1 HX
 go_wp2
 have K4:=hide k4
 clear k4 r1
 generalize w3.alloc (.cells #[.slice A3 R.start.length c3,.slice none 0 0,.slice none 0 0,.int .i64 0,.int .i64 0] 43)=w4 at *
 generalize hB5 : w3.heap.size=B5 at *
 have HB5:=hide hB5
 clear hB5
 generalize w.heap.size + 1=B2 at *
 go_loopw [21] (fun i wr => ∃ (k : Nat) (v0 u0 : Value),k≤R.pieces.length∧i=.int .i64 k∧Blk wr B5 43 #[.slice A3 R.start.length c3,v0,u0,.int .i64 0,.int .i64 0]∧OwnI w4 wr v0 ((R.pieces.map (·.hand)).take k)∧OwnI w4 wr u0 ((R.pieces.map (·.hand)).take k)∧(∀ g,v0.ownBlock=some g→u0.ownBlock ≠ some g)∧Ext w3 wr) (fun i _ => R.pieces.length - (intOf i).toNat)
 case atStart => exact ⟨0,_,_,Nat.zero_le _,rfl,K4.out,OwnI.nil _ _,OwnI.nil _ _,fun g hg => by simp [Value.ownBlock] at hg,X4.out⟩
 case round =>
  obtain ⟨k,v0,u0,hk,rfl,hblk,ho,hu,hap,hext⟩:=hrel
  by_cases hlt : k < R.pieces.length
  ·obtain ⟨p,hp⟩ : ∃ p,R.pieces[k]? = some p:=⟨R.pieces[k],List.getElem?_eq_getElem _⟩
   obtain ⟨b,o,wA,wc,rfl,c0,c1,c2,c3',-⟩:=(HP3.out.ext hext).get hp
   have HAP:=hide hap
   have HO:=hide ho
   have HU:=hide hu
   have HEX:=hide hext
   have HBL:=hide hblk
   have HPP:=hide hp
   clear hap ho hu hext hblk hp
   go_wp2
   obtain ⟨x5,k5⟩:=blks1 wr #[.int .u8 p.letter,.int .i64 p.hand,.int .i64 p.promote,.slice wA p.ways.length wc] 57
   have HXS : Hid ((R.pieces.map (·.hand)).take (k + 1)=(R.pieces.map (·.hand)).take k ++ [p.hand]):=hide (by
    rw [List.take_add_one,List.getElem?_map,HPP.out]; rfl)
   have HLN : ((R.pieces.map (·.hand)).take k).length≤1000000:=by rw [List.length_take,List.length_map]; omega
   generalize (R.pieces.map (·.hand)).take k=xs at *
   have kb:=HBL.out.ext x5
   have hb5:=HBL.out.lt
   have hsz:=HSZ.out
   have b1:=HO.out.bd
   have b2:=HU.out.bd
   have HT0 : Two w4 (wr.alloc (.cells #[.int .u8 p.letter,.int .i64 p.hand,.int .i64 p.promote,.slice wA p.ways.length wc] 57)) (wr.alloc (.cells #[.int .u8 p.letter,.int .i64 p.hand,.int .i64 p.promote,.slice wA p.ways.length wc] 57)) v0 u0 v0 u0 xs xs :=
    ⟨by simp; omega,Below.refl _ _,Nat.le_refl _,fun _ _ _ _ => rfl,HO.out.ext x5,HU.out.ext x5,HAP.out,fun g hg => by have:=b1 g hg; simp; omega,fun g hg => by have:=b2 g hg; simp; omega,.inl rfl,.inl rfl⟩
   have N5 : wr.heap.size ≠ B5:=by omega
   have N50 : v0.ownBlock ≠ some B5:=fun h => by have:=b1 _ h; omega
   have N51 : u0.ownBlock ≠ some B5:=fun h => by have:=b2 _ h; omega
   have N70 : v0.ownBlock ≠ some wr.heap.size:=fun h => by have:=b1 _ h; omega
   have N71 : u0.ownBlock ≠ some wr.heap.size:=fun h => by have:=b2 _ h; omega
   have XE:=hide (ext_trans HEX.out x5)
   generalize wr.alloc (.cells #[.int .u8 p.letter,.int .i64 p.hand,.int .i64 p.promote,.slice wA p.ways.length wc] 57)=w5 at *
   generalize wr.heap.size=B7 at *
   have HT:=HT0.drew
   have q0 : w5.drew.cell? ⟨B7,1,none⟩=some (.int .i64 p.hand):=k5.cell 1
   have q1 : w5.drew.cell? ⟨B5,1,none⟩=some v0:=kb.cell 1
   have q2 : w5.drew.cell? ⟨B5,2,none⟩=some u0:=kb.cell 2
   have HK5:=hide k5
   have HKB:=hide kb
   clear x5 k5 kb HT0 b1 b2 hb5 hsz
   refine region_K (fun W => W.cell? ⟨B7,1,none⟩=some (.int .i64 p.hand)) (fun W => W.cell? ⟨B5,1,none⟩=some v0∧W.cell? ⟨B5,2,none⟩=some u0) [16,19] (by kernel_rfl) ?_
   have hS0:=And.intro q1 q2
   refine anyK_take 0 rfl (by kernel_rfl) (by kernel_rfl) (by kernel_rfl) (by kernel_rfl) (fun _ _ _ h => h) (by rfl) q0 (fun _ => hS0) (v:=?_) (fun W hT => ?_) ?_
   rotate_left
   ·go_simp
    first | done | with_reducible rfl
   try simp only [Act.put,List.setIfInBounds_toArray,List.set_cons_zero,List.set_cons_succ]
   refine anyK_take 1 rfl (by kernel_rfl) (by kernel_rfl) (by kernel_rfl) (by kernel_rfl) (fun _ _ _ h => h) (by rfl) q0 (fun _ => hS0) (v:=?_) (fun W hT => ?_) ?_
   rotate_left
   ·go_simp
    first | done | with_reducible rfl
   try simp only [Act.put,List.setIfInBounds_toArray,List.set_cons_zero,List.set_cons_succ]
   refine anyK_take 3 rfl (by kernel_rfl) (by kernel_rfl) (by kernel_rfl) (by kernel_rfl) (fun _ _ _ h => h) (by rfl) q0 (fun _ => hS0) (v:=?_) (fun W hT => ?_) ?_
   rotate_left
   ·go_simp
    first | done | with_reducible rfl
   try simp only [Act.put,List.setIfInBounds_toArray,List.set_cons_zero,List.set_cons_succ]
   refine anyK_take 4 rfl (by kernel_rfl) (by kernel_rfl) (by kernel_rfl) (by kernel_rfl) (fun _ _ _ h => h) (by rfl) q0 (fun _ => hS0) (v:=?_) (fun W hT => ?_) ?_
   rotate_left
   ·go_simp
    first | done | with_reducible rfl
   try simp only [Act.put,List.setIfInBounds_toArray,List.set_cons_zero,List.set_cons_succ]
   refine anyK_take 7 rfl (by kernel_rfl) (by kernel_rfl) (by kernel_rfl) (by kernel_rfl) (fun _ _ _ h => h) (by rfl) q0 (fun _ => hS0) (v:=?_) (fun W hT => ?_) ?_
   rotate_left
   ·go_simp
    first | done | with_reducible rfl
   try simp only [Act.put,List.setIfInBounds_toArray,List.set_cons_zero,List.set_cons_succ]
   refine anyK_take 8 rfl (by kernel_rfl) (by kernel_rfl) (by kernel_rfl) (by kernel_rfl) (fun _ _ _ h => h) (by rfl) q0 (fun _ => hS0) (v:=?_) (fun W hT => ?_) ?_
   rotate_left
   ·go_simp
    first | done | with_reducible rfl
   try simp only [Act.put,List.setIfInBounds_toArray,List.set_cons_zero,List.set_cons_succ]
   refine anyK_take 10 rfl (by kernel_rfl) (by kernel_rfl) (by kernel_rfl) (by kernel_rfl) (fun _ _ _ h => h) (by rfl) q0 (fun _ => hS0) (v:=?_) (fun W hT => ?_) ?_
   rotate_left
   ·go_simp
    first | done | with_reducible rfl
   try simp only [Act.put,List.setIfInBounds_toArray,List.set_cons_zero,List.set_cons_succ]
   refine anyK_take 11 rfl (by kernel_rfl) (by kernel_rfl) (by kernel_rfl) (by kernel_rfl) (fun _ _ _ h => h) (by rfl) q0 (fun _ => hS0) (v:=?_) (fun W hT => ?_) ?_
   rotate_left
   ·go_simp
    first | done | with_reducible rfl
   try simp only [Act.put,List.setIfInBounds_toArray,List.set_cons_zero,List.set_cons_succ]
   refine anyK_take 14 rfl (by kernel_rfl) (by kernel_rfl) (by kernel_rfl) (by kernel_rfl) (fun _ _ _ h => h) (by rfl) q0 (fun _ => hS0) (v:=?_) (fun W hT => ?_) ?_
   rotate_left
   ·go_simp
    first | done | with_reducible rfl
   try simp only [Act.put,List.setIfInBounds_toArray,List.set_cons_zero,List.set_cons_succ]
   refine anyK_take 17 rfl (by kernel_rfl) (by kernel_rfl) (by kernel_rfl) (by kernel_rfl) (fun _ _ _ h => h) (by rfl) q0 (fun _ => hS0) (v:=?_) (fun W hT => ?_) ?_
   rotate_left
   ·go_simp
    first | done | with_reducible rfl
   try simp only [Act.put,List.setIfInBounds_toArray,List.set_cons_zero,List.set_cons_succ]
   refine anyK_load 2 rfl (by kernel_rfl) (by kernel_rfl) (by kernel_rfl) (by kernel_rfl) (by kernel_rfl) (by kernel_rfl) (fun _ _ _ h => h) (by rfl) q0 hS0 (v:=?_) (fun W hT hW => ?_) ?_
   rotate_left
   ·obtain ⟨z1,z2⟩:=hW
    go_simp
    first | done | with_reducible rfl
   try simp only [Act.put,List.setIfInBounds_toArray,List.set_cons_zero,List.set_cons_succ]
   refine anyK_load 9 rfl (by kernel_rfl) (by kernel_rfl) (by kernel_rfl) (by kernel_rfl) (by kernel_rfl) (by kernel_rfl) (fun _ _ _ h => h) (by rfl) q0 hS0 (v:=?_) (fun W hT hW => ?_) ?_
   rotate_left
   ·obtain ⟨z1,z2⟩:=hW
    go_simp
    first | done | with_reducible rfl
   try simp only [Act.put,List.setIfInBounds_toArray,List.set_cons_zero,List.set_cons_succ]
   refine anyK_on2 5 12 (by kernel_rfl) ?_ ?_
   ·skip
    refine anyK_one 5 rfl (fun K hK => ?_)
    go_simp
    refine hK.out _ _ (Ext.cell (ext_alloc (Below.refl _ _) _) q0) (fun _ => (held_alloc hS0 _)) ?_
    clear hK K
    try simp only [Act.put,List.setIfInBounds_toArray,List.set_cons_zero,List.set_cons_succ]
    refine anyK_on2 6 12 (by kernel_rfl) ?_ ?_
    ·skip
     refine anyK_one 6 rfl (fun K hK => ?_)
     refine step_two rfl (.tmp 27) (.tmp 30) rfl _ _ _ _ _ v0 _ _ _ p.hand _ rfl rfl (HT.alloc _) (Built.new HT p.hand _ (by simp) _) HLN (fun g1 cap1 w1 hT1 hB1 => ?_)
     have kb1:=hT1.blk HKB.out N50 N51
     have k51:=hT1.blk HK5.out N70 N71
     refine hK.out _ _ (k51.cell 1) (fun _ => ⟨kb1.cell 1,kb1.cell 2⟩) ?_
     clear hK K
     try simp only [Act.put,List.setIfInBounds_toArray,List.set_cons_zero,List.set_cons_succ]
     refine anyK_take 15 rfl (by kernel_rfl) (by kernel_rfl) (by kernel_rfl) (by kernel_rfl) (fun _ _ _ h => h) (by rfl) (k51.cell 1) (fun _ => (And.intro (kb1.cell 1) (kb1.cell 2))) (v:=?_) (fun W hT => ?_) ?_
     rotate_left
     ·go_simp
      first | done | with_reducible rfl
     try simp only [Act.put,List.setIfInBounds_toArray,List.set_cons_zero,List.set_cons_succ]
     refine anyK_on1 12 (by kernel_rfl) ?_
     refine anyK_one 12 rfl (fun K hK => ?_)
     go_simp
     refine hK.out _ _ (Ext.cell (ext_alloc (Below.refl _ _) _) (k51.cell 1)) (fun _ => (held_alloc (And.intro (kb1.cell 1) (kb1.cell 2)) _)) ?_
     clear hK K
     try simp only [Act.put,List.setIfInBounds_toArray,List.set_cons_zero,List.set_cons_succ]
     refine anyK_on1 13 (by kernel_rfl) ?_
     refine anyK_one 13 rfl (fun K hK => ?_)
     refine step_two rfl (.tmp 34) (.tmp 37) rfl _ _ _ _ _ u0 _ _ _ p.hand _ rfl rfl (hT1.alloc _).swap (Built.swap (Built.new hT1 p.hand _ (by simp) _)) HLN (fun g2 cap2 w2' hT2 hB2 => ?_)
     have kb2:=hT2.blk HKB.out N51 N50
     have k52:=hT2.blk HK5.out N71 N70
     refine hK.out _ _ (k52.cell 1) (fun _ => ⟨kb2.cell 1,kb2.cell 2⟩) ?_
     clear hK K kb1 k51
     try simp only [Act.put,List.setIfInBounds_toArray,List.set_cons_zero,List.set_cons_succ]
     have q5:=kb2.cell
     have z5:=kb2.frozen
     have t5:=Blk.far k52 (p:=⟨B5,1,none⟩) N5 (.slice (some ⟨g1,0,none⟩) (xs.length + 1) cap1)
     have t6:=Blk.far t5 (p:=⟨B5,2,none⟩) N5 (.slice (some ⟨g2,0,none⟩) (xs.length + 1) cap2)
     refine anyK_on1 16 (by kernel_rfl) ?_
     refine anyK_one 16 rfl (fun K hK => ?_)
     go_simp
     refine hK.out _ _ (t5.cell 1) (fun h => by cases h) ?_
     clear hK K
     try simp only [Act.put,List.setIfInBounds_toArray,List.set_cons_zero,List.set_cons_succ]
     refine anyK_take 18 rfl (by kernel_rfl) (by kernel_rfl) (by kernel_rfl) (by kernel_rfl) (fun _ _ _ h => h) (by rfl) (t5.cell 1) (fun h => by cases h) (v:=?_) (fun W hT => ?_) ?_
     rotate_left
     ·go_simp
      first | done | with_reducible rfl
     try simp only [Act.put,List.setIfInBounds_toArray,List.set_cons_zero,List.set_cons_succ]
     refine anyK_on1 19 (by kernel_rfl) ?_
     refine anyK_one 19 rfl (fun K hK => ?_)
     go_simp
     refine hK.out _ _ (t6.cell 1) (fun h => by cases h) ?_
     clear hK K
     try simp only [Act.put,List.setIfInBounds_toArray,List.set_cons_zero,List.set_cons_succ]
     refine anyK_done (by kernel_rfl) ?_ _
     have F1:=(hT2.two.set (p:=⟨B5,1,none⟩) (fun h => by have:=(hT2.two.bd _ h).1; have:=HSZ.out; simp at *; omega) (.slice (some ⟨g1,0,none⟩) (xs.length + 1) cap1)).set (p:=⟨B5,2,none⟩) (fun h => by have:=(hT2.two.bd _ h).1; have:=HSZ.out; simp at *; omega) (.slice (some ⟨g2,0,none⟩) (xs.length + 1) cap2)
     have F2:=(hT2.one.set (p:=⟨B5,1,none⟩) (fun h => by have:=(hT2.one.bd _ h).1; have:=HSZ.out; simp at *; omega) (.slice (some ⟨g1,0,none⟩) (xs.length + 1) cap1)).set (p:=⟨B5,2,none⟩) (fun h => by have:=(hT2.one.bd _ h).1; have:=HSZ.out; simp at *; omega) (.slice (some ⟨g2,0,none⟩) (xs.length + 1) cap2)
     have F3:=blk_put (blk_put kb2 (i:=1) (u:=.slice (some ⟨g1,0,none⟩) (xs.length + 1) cap1) rfl) (i:=2) (u:=.slice (some ⟨g2,0,none⟩) (xs.length + 1) cap2) rfl
     have F4:=ext_set (ext_set (Below.trans XE.out (Below.mono hT2.below (by have:=HSZ.out; have:=HB5.out; omega))) (p:=⟨B5,1,none⟩) (by have:=HB5.out; show w3.heap.size≤B5; omega) (.slice (some ⟨g1,0,none⟩) (xs.length + 1) cap1)) (p:=⟨B5,2,none⟩) (by have:=HB5.out; show w3.heap.size≤B5; omega) (.slice (some ⟨g2,0,none⟩) (xs.length + 1) cap2)
     have F5:=hide (fun g hg h => hT2.apart g h hg)
     have G1:=hide F1
     have G2:=hide F2
     have G3:=hide F3
     have G4:=hide F4
     clear F1 F2 F3 F4 q5 z5 t5 t6 kb2 k52 hT1 hT2 hB1 hB2 q0 q1 q2 hS0 HT HKB HK5 XE
     go_wp2
     go_roundw
     case rel => exact ⟨k + 1,_,_,by omega,by go_num,G3.out,by rw [HXS.out]; exact G1.out,by rw [HXS.out]; exact G2.out,F5.out,G4.out⟩
     case measure => simp [intOf]; omega
    ·skip
     refine anyK_one 12 rfl (fun K hK => ?_)
     go_simp
     refine hK.out _ _ (Ext.cell (ext_alloc (Below.refl _ _) _) (Ext.cell (ext_alloc (Below.refl _ _) _) q0)) (fun _ => (held_alloc (held_alloc hS0 _) _)) ?_
     clear hK K
     try simp only [Act.put,List.setIfInBounds_toArray,List.set_cons_zero,List.set_cons_succ]
     refine anyK_on1 6 (by kernel_rfl) ?_
     refine anyK_one 6 rfl (fun K hK => ?_)
     refine step_two rfl (.tmp 27) (.tmp 30) rfl _ _ _ _ _ v0 _ _ _ p.hand _ rfl rfl ((HT.alloc _).alloc _) (Built.alloc (Built.new HT p.hand _ (by simp) _) _) HLN (fun g1 cap1 w1 hT1 hB1 => ?_)
     have kb1:=hT1.blk HKB.out N50 N51
     have k51:=hT1.blk HK5.out N70 N71
     refine hK.out _ _ (k51.cell 1) (fun _ => ⟨kb1.cell 1,kb1.cell 2⟩) ?_
     clear hK K
     try simp only [Act.put,List.setIfInBounds_toArray,List.set_cons_zero,List.set_cons_succ]
     refine anyK_take 15 rfl (by kernel_rfl) (by kernel_rfl) (by kernel_rfl) (by kernel_rfl) (fun _ _ _ h => h) (by rfl) (k51.cell 1) (fun _ => (And.intro (kb1.cell 1) (kb1.cell 2))) (v:=?_) (fun W hT => ?_) ?_
     rotate_left
     ·go_simp
      first | done | with_reducible rfl
     try simp only [Act.put,List.setIfInBounds_toArray,List.set_cons_zero,List.set_cons_succ]
     refine anyK_on1 13 (by kernel_rfl) ?_
     refine anyK_one 13 rfl (fun K hK => ?_)
     refine step_two rfl (.tmp 34) (.tmp 37) rfl _ _ _ _ _ u0 _ _ _ p.hand _ rfl rfl hT1.swap (Built.swap (hB1 _ _ (Built.new (HT.alloc _) p.hand _ (by simp) _))) HLN (fun g2 cap2 w2' hT2 hB2 => ?_)
     have kb2:=hT2.blk HKB.out N51 N50
     have k52:=hT2.blk HK5.out N71 N70
     refine hK.out _ _ (k52.cell 1) (fun _ => ⟨kb2.cell 1,kb2.cell 2⟩) ?_
     clear hK K kb1 k51
     try simp only [Act.put,List.setIfInBounds_toArray,List.set_cons_zero,List.set_cons_succ]
     have q5:=kb2.cell
     have z5:=kb2.frozen
     have t5:=Blk.far k52 (p:=⟨B5,1,none⟩) N5 (.slice (some ⟨g1,0,none⟩) (xs.length + 1) cap1)
     have t6:=Blk.far t5 (p:=⟨B5,2,none⟩) N5 (.slice (some ⟨g2,0,none⟩) (xs.length + 1) cap2)
     refine anyK_on1 16 (by kernel_rfl) ?_
     refine anyK_one 16 rfl (fun K hK => ?_)
     go_simp
     refine hK.out _ _ (t5.cell 1) (fun h => by cases h) ?_
     clear hK K
     try simp only [Act.put,List.setIfInBounds_toArray,List.set_cons_zero,List.set_cons_succ]
     refine anyK_take 18 rfl (by kernel_rfl) (by kernel_rfl) (by kernel_rfl) (by kernel_rfl) (fun _ _ _ h => h) (by rfl) (t5.cell 1) (fun h => by cases h) (v:=?_) (fun W hT => ?_) ?_
     rotate_left
     ·go_simp
      first | done | with_reducible rfl
     try simp only [Act.put,List.setIfInBounds_toArray,List.set_cons_zero,List.set_cons_succ]
     refine anyK_on1 19 (by kernel_rfl) ?_
     refine anyK_one 19 rfl (fun K hK => ?_)
     go_simp
     refine hK.out _ _ (t6.cell 1) (fun h => by cases h) ?_
     clear hK K
     try simp only [Act.put,List.setIfInBounds_toArray,List.set_cons_zero,List.set_cons_succ]
     refine anyK_done (by kernel_rfl) ?_ _
     have F1:=(hT2.two.set (p:=⟨B5,1,none⟩) (fun h => by have:=(hT2.two.bd _ h).1; have:=HSZ.out; simp at *; omega) (.slice (some ⟨g1,0,none⟩) (xs.length + 1) cap1)).set (p:=⟨B5,2,none⟩) (fun h => by have:=(hT2.two.bd _ h).1; have:=HSZ.out; simp at *; omega) (.slice (some ⟨g2,0,none⟩) (xs.length + 1) cap2)
     have F2:=(hT2.one.set (p:=⟨B5,1,none⟩) (fun h => by have:=(hT2.one.bd _ h).1; have:=HSZ.out; simp at *; omega) (.slice (some ⟨g1,0,none⟩) (xs.length + 1) cap1)).set (p:=⟨B5,2,none⟩) (fun h => by have:=(hT2.one.bd _ h).1; have:=HSZ.out; simp at *; omega) (.slice (some ⟨g2,0,none⟩) (xs.length + 1) cap2)
     have F3:=blk_put (blk_put kb2 (i:=1) (u:=.slice (some ⟨g1,0,none⟩) (xs.length + 1) cap1) rfl) (i:=2) (u:=.slice (some ⟨g2,0,none⟩) (xs.length + 1) cap2) rfl
     have F4:=ext_set (ext_set (Below.trans XE.out (Below.mono hT2.below (by have:=HSZ.out; have:=HB5.out; omega))) (p:=⟨B5,1,none⟩) (by have:=HB5.out; show w3.heap.size≤B5; omega) (.slice (some ⟨g1,0,none⟩) (xs.length + 1) cap1)) (p:=⟨B5,2,none⟩) (by have:=HB5.out; show w3.heap.size≤B5; omega) (.slice (some ⟨g2,0,none⟩) (xs.length + 1) cap2)
     have F5:=hide (fun g hg h => hT2.apart g h hg)
     have G1:=hide F1
     have G2:=hide F2
     have G3:=hide F3
     have G4:=hide F4
     clear F1 F2 F3 F4 q5 z5 t5 t6 kb2 k52 hT1 hT2 hB1 hB2 q0 q1 q2 hS0 HT HKB HK5 XE
     go_wp2
     go_roundw
     case rel => exact ⟨k + 1,_,_,by omega,by go_num,G3.out,by rw [HXS.out]; exact G1.out,by rw [HXS.out]; exact G2.out,F5.out,G4.out⟩
     case measure => simp [intOf]; omega
   ·skip
    refine anyK_one 12 rfl (fun K hK => ?_)
    go_simp
    refine hK.out _ _ (Ext.cell (ext_alloc (Below.refl _ _) _) q0) (fun _ => (held_alloc hS0 _)) ?_
    clear hK K
    try simp only [Act.put,List.setIfInBounds_toArray,List.set_cons_zero,List.set_cons_succ]
    refine anyK_on1 5 (by kernel_rfl) ?_
    refine anyK_one 5 rfl (fun K hK => ?_)
    go_simp
    refine hK.out _ _ (Ext.cell (ext_alloc (Below.refl _ _) _) (Ext.cell (ext_alloc (Below.refl _ _) _) q0)) (fun _ => (held_alloc (held_alloc hS0 _) _)) ?_
    clear hK K
    try simp only [Act.put,List.setIfInBounds_toArray,List.set_cons_zero,List.set_cons_succ]
    refine anyK_on1 6 (by kernel_rfl) ?_
    refine anyK_one 6 rfl (fun K hK => ?_)
    refine step_two rfl (.tmp 27) (.tmp 30) rfl _ _ _ _ _ v0 _ _ _ p.hand _ rfl rfl ((HT.alloc _).alloc _) (Built.new (HT.alloc _) p.hand _ (by simp) _) HLN (fun g1 cap1 w1 hT1 hB1 => ?_)
    have kb1:=hT1.blk HKB.out N50 N51
    have k51:=hT1.blk HK5.out N70 N71
    refine hK.out _ _ (k51.cell 1) (fun _ => ⟨kb1.cell 1,kb1.cell 2⟩) ?_
    clear hK K
    try simp only [Act.put,List.setIfInBounds_toArray,List.set_cons_zero,List.set_cons_succ]
    refine anyK_take 15 rfl (by kernel_rfl) (by kernel_rfl) (by kernel_rfl) (by kernel_rfl) (fun _ _ _ h => h) (by rfl) (k51.cell 1) (fun _ => (And.intro (kb1.cell 1) (kb1.cell 2))) (v:=?_) (fun W hT => ?_) ?_
    rotate_left
    ·go_simp
     first | done | with_reducible rfl
    try simp only [Act.put,List.setIfInBounds_toArray,List.set_cons_zero,List.set_cons_succ]
    refine anyK_on1 13 (by kernel_rfl) ?_
    refine anyK_one 13 rfl (fun K hK => ?_)
    refine step_two rfl (.tmp 34) (.tmp 37) rfl _ _ _ _ _ u0 _ _ _ p.hand _ rfl rfl hT1.swap (Built.swap (hB1 _ _ (Built.alloc (Built.new HT p.hand _ (by simp) _) _))) HLN (fun g2 cap2 w2' hT2 hB2 => ?_)
    have kb2:=hT2.blk HKB.out N51 N50
    have k52:=hT2.blk HK5.out N71 N70
    refine hK.out _ _ (k52.cell 1) (fun _ => ⟨kb2.cell 1,kb2.cell 2⟩) ?_
    clear hK K kb1 k51
    try simp only [Act.put,List.setIfInBounds_toArray,List.set_cons_zero,List.set_cons_succ]
    have q5:=kb2.cell
    have z5:=kb2.frozen
    have t5:=Blk.far k52 (p:=⟨B5,1,none⟩) N5 (.slice (some ⟨g1,0,none⟩) (xs.length + 1) cap1)
    have t6:=Blk.far t5 (p:=⟨B5,2,none⟩) N5 (.slice (some ⟨g2,0,none⟩) (xs.length + 1) cap2)
    refine anyK_on1 16 (by kernel_rfl) ?_
    refine anyK_one 16 rfl (fun K hK => ?_)
    go_simp
    refine hK.out _ _ (t5.cell 1) (fun h => by cases h) ?_
    clear hK K
    try simp only [Act.put,List.setIfInBounds_toArray,List.set_cons_zero,List.set_cons_succ]
    refine anyK_take 18 rfl (by kernel_rfl) (by kernel_rfl) (by kernel_rfl) (by kernel_rfl) (fun _ _ _ h => h) (by rfl) (t5.cell 1) (fun h => by cases h) (v:=?_) (fun W hT => ?_) ?_
    rotate_left
    ·go_simp
     first | done | with_reducible rfl
    try simp only [Act.put,List.setIfInBounds_toArray,List.set_cons_zero,List.set_cons_succ]
    refine anyK_on1 19 (by kernel_rfl) ?_
    refine anyK_one 19 rfl (fun K hK => ?_)
    go_simp
    refine hK.out _ _ (t6.cell 1) (fun h => by cases h) ?_
    clear hK K
    try simp only [Act.put,List.setIfInBounds_toArray,List.set_cons_zero,List.set_cons_succ]
    refine anyK_done (by kernel_rfl) ?_ _
    have F1:=(hT2.two.set (p:=⟨B5,1,none⟩) (fun h => by have:=(hT2.two.bd _ h).1; have:=HSZ.out; simp at *; omega) (.slice (some ⟨g1,0,none⟩) (xs.length + 1) cap1)).set (p:=⟨B5,2,none⟩) (fun h => by have:=(hT2.two.bd _ h).1; have:=HSZ.out; simp at *; omega) (.slice (some ⟨g2,0,none⟩) (xs.length + 1) cap2)
    have F2:=(hT2.one.set (p:=⟨B5,1,none⟩) (fun h => by have:=(hT2.one.bd _ h).1; have:=HSZ.out; simp at *; omega) (.slice (some ⟨g1,0,none⟩) (xs.length + 1) cap1)).set (p:=⟨B5,2,none⟩) (fun h => by have:=(hT2.one.bd _ h).1; have:=HSZ.out; simp at *; omega) (.slice (some ⟨g2,0,none⟩) (xs.length + 1) cap2)
    have F3:=blk_put (blk_put kb2 (i:=1) (u:=.slice (some ⟨g1,0,none⟩) (xs.length + 1) cap1) rfl) (i:=2) (u:=.slice (some ⟨g2,0,none⟩) (xs.length + 1) cap2) rfl
    have F4:=ext_set (ext_set (Below.trans XE.out (Below.mono hT2.below (by have:=HSZ.out; have:=HB5.out; omega))) (p:=⟨B5,1,none⟩) (by have:=HB5.out; show w3.heap.size≤B5; omega) (.slice (some ⟨g1,0,none⟩) (xs.length + 1) cap1)) (p:=⟨B5,2,none⟩) (by have:=HB5.out; show w3.heap.size≤B5; omega) (.slice (some ⟨g2,0,none⟩) (xs.length + 1) cap2)
    have F5:=hide (fun g hg h => hT2.apart g h hg)
    have G1:=hide F1
    have G2:=hide F2
    have G3:=hide F3
    have G4:=hide F4
    clear F1 F2 F3 F4 q5 z5 t5 t6 kb2 k52 hT1 hT2 hB1 hB2 q0 q1 q2 hS0 HT HKB HK5 XE
    go_wp2
    go_roundw
    case rel => exact ⟨k + 1,_,_,by omega,by go_num,G3.out,by rw [HXS.out]; exact G1.out,by rw [HXS.out]; exact G2.out,F5.out,G4.out⟩
    case measure => simp [intOf]; omega
  ·obtain rfl : k=R.pieces.length:=by omega
   have HXS : Hid ((R.pieces.map (·.hand)).take R.pieces.length=R.pieces.map (·.hand)):=hide (List.take_of_length_le (by simp))
   have ho' : OwnI w4 wr v0 (R.pieces.map (·.hand)):=by rw [← HXS.out]; exact ho
   have hu' : OwnI w4 wr u0 (R.pieces.map (·.hand)):=by rw [← HXS.out]; exact hu
   have b1:=ho'.bd
   have b2:=hu'.bd
   obtain ⟨A1,c1,rfl,g1⟩:=ho'
   obtain ⟨A2,c2,rfl,g2⟩:=hu'
   have e1 : ∃ g,A1=some ⟨g,0,none⟩∧IRow wr g (R.pieces.map (·.hand)):=by obtain ⟨g,e,-,i,-⟩:=own_irow g1 rfl (by rw [List.length_map]; exact HPS1.out); exact ⟨g,e,i⟩
   have e2 : ∃ g,A2=some ⟨g,0,none⟩∧IRow wr g (R.pieces.map (·.hand)):=by obtain ⟨g,e,-,i,-⟩:=own_irow g2 rfl (by rw [List.length_map]; exact HPS1.out); exact ⟨g,e,i⟩
   have n1:=own_cap g1
   have N1 : Hid ((∀ b o,A1=some ⟨b,o,none⟩→b ≠ B2)∧(∀ b o,A2=some ⟨b,o,none⟩→b ≠ B2)):=hide ⟨fun b o e => by have:=own_from_base g1 b o e; have:=HSZ.out; have:=HB5.out; have:=N3.out.2; omega,fun b o e => by have:=own_from_base g2 b o e; have:=HSZ.out; have:=HB5.out; have:=N3.out.2; omega⟩
   have n2:=own_cap g2
   have e0 : ∃ g,A3=some ⟨g,0,none⟩∧IRow wr g R.start:=by obtain ⟨g,e,i⟩:=I3.out; exact ⟨g,e,i.ext hext⟩
   have k2:=K2.out.ext hext
   have y3:=ext_trans X3.out hext
   have HB2 : Hid (w.heap.size≤B2):=hide HB2'.out
   simp only [List.length_map] at g1 g2 n1 n2 hblk ⊢
   have E:=hide (And.intro e0 (And.intro e1 e2))
   have M:=hide (And.intro n1 n2)
   have f5:=hblk.cell
   have f2:=k2.cell
   have z2:=k2.frozen
   clear e0 e1 e2 n1 n2 g1 g2 ho hu hap hext b1 b2 hblk HB5 HSZ K4 X4 HP3 I3 X3 K2
   go_wp2
   have K:=blk_set5 k2 (u0:=.slice A3 R.start.length c3) (u1:=.slice A1 R.pieces.length c1) (u2:=.slice A2 R.pieces.length c2) (u3:=.int .i64 0) (u4:=.int .i64 0)
   have X:=(ext_set (ext_set (ext_set (ext_set (ext_set y3 (p:=⟨B2,0,none⟩) HB2.out (.slice A3 R.start.length c3)) (p:=⟨B2,1,none⟩) HB2.out (.slice A1 R.pieces.length c1)) (p:=⟨B2,2,none⟩) HB2.out (.slice A2 R.pieces.length c2)) (p:=⟨B2,3,none⟩) HB2.out (.int .i64 0)) (p:=⟨B2,4,none⟩) HB2.out (.int .i64 0))
   have FE:=fun (a : Option Addr) (zs : List Int) (h : ∃ g,a=some ⟨g,0,none⟩∧IRow wr g zs) (hn : ∀ b o,a=some ⟨b,o,none⟩→b ≠ B2) => (by obtain ⟨g,e,i⟩:=h; have hg:=hn _ _ e; exact ⟨g,e,irow_far5 i hg⟩ : ∃ g,a=some ⟨g,0,none⟩∧IRow ((((((wr.setCell ⟨B2,0,none⟩ (.slice A3 R.start.length c3)).setCell ⟨B2,1,none⟩ (.slice A1 R.pieces.length c1)).setCell ⟨B2,2,none⟩ (.slice A2 R.pieces.length c2)).setCell ⟨B2,3,none⟩ (.int .i64 0)).setCell ⟨B2,4,none⟩ (.int .i64 0))) g zs)
   generalize (((((wr.setCell ⟨B2,0,none⟩ (.slice A3 R.start.length c3)).setCell ⟨B2,1,none⟩ (.slice A1 R.pieces.length c1)).setCell ⟨B2,2,none⟩ (.slice A2 R.pieces.length c2)).setCell ⟨B2,3,none⟩ (.int .i64 0)).setCell ⟨B2,4,none⟩ (.int .i64 0))=Wf at *
   have rr0 : Wf.cell? ⟨B2,0,none⟩=some (.slice A3 R.start.length c3):=K.cell 0
   have rr1 : Wf.cell? ⟨B2,1,none⟩=some (.slice A1 R.pieces.length c1):=K.cell 1
   have rr2 : Wf.cell? ⟨B2,2,none⟩=some (.slice A2 R.pieces.length c2):=K.cell 2
   have rr3 : Wf.cell? ⟨B2,3,none⟩=some (.int .i64 0):=K.cell 3
   have rr4 : Wf.cell? ⟨B2,4,none⟩=some (.int .i64 0):=K.cell 4
   refine bodyPost_ret (v:=.tuple #[.agg #[.slice A3 R.start.length c3,.slice A1 R.pieces.length c1,.slice A2 R.pieces.length c2,.int .i64 0,.int .i64 0],.int .i64 0]) ?_ rfl ?_
   ·simp [results,Tryz.results39,go_sem,rr0,rr1,rr2,rr3,rr4]
   ·obtain ⟨a0,rfl,i0⟩:=FE _ _ E.out.1 N3.out.1
    obtain ⟨a1,rfl,i1⟩:=FE _ _ E.out.2.1 N1.out.1
    obtain ⟨a2,rfl,i2⟩:=FE _ _ E.out.2.2 N1.out.2
    exact ⟨_,rfl,⟨a0,c3,a1,c1,a2,c2,by simp [beginP],i0,i1,i2,M3.out,by simp [beginP]; exact M.out.1,by simp [beginP]; exact M.out.2⟩,X⟩
end Go.Proofs.YtdoibgmmijhlfaaGreatDoor
