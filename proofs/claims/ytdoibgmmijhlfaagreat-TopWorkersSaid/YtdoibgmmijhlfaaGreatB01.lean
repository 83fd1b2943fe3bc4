/- Mem Mem2 Model MovesP Blks RegionK RegionT -/
import Derived.WalkKit
import Derived.Below
import Derived.Deep.Draws
import Derived.Laws.MakeOwn
import Derived.Laws.OwnMore
import Derived.OwnWalk
import Derived.WalkSpells
import Derived.Deep.RegionHeld3
namespace Go.Proofs.YtdoibgmmijhlfaaGreat
open Go.RowKit
theorem hide {p : Prop} (h : p) : Hid p:=h
abbrev Ext (w w' : World) : Prop:=Below w.heap.size w w'
theorem ext_trans {a b c : World} (h : Ext a b) (k : Ext b c) : Ext a c:=Below.trans h (Below.mono k h.size)
def IntsAt (w : World) (A : Option Addr) (zs : List Int) : Prop :=
 ∀ i,i < zs.length→∃ b o,A=some ⟨b,o,none⟩∧w.cell? ⟨b,o + i,none⟩=some (.int .i64 (zs.getD i 0))
theorem lt_of_cell {w : World} {a : Addr} {v : Value} (h : w.cell? a=some v) : a.block < w.heap.size:=by
 rcases Nat.lt_or_ge a.block w.heap.size with hlt | hge
 ·exact hlt
 ·simp [World.cell?,Array.getElem?_eq_none hge] at h
theorem Ext.cell {w w' : World} (h : Ext w w') {a : Addr} {v : Value} (hc : w.cell? a=some v) : w'.cell? a=some v :=
 (Below.cell h (lt_of_cell hc)).trans hc
theorem ext_alloc {w w' : World} (h : Ext w w') (o : Obj) : Ext w (w'.alloc o):=Below.alloc h h.size o
theorem ext_drewN {w w' : World} (h : Ext w w') (n : Nat) : Ext w (w'.drewN n):=⟨h.os,h.tape,h.output,h.size,h.block⟩
theorem IntsAt.ext {w w' : World} {A : Option Addr} {zs : List Int} (h : IntsAt w A zs) (he : Ext w w') : IntsAt w' A zs:=by
 intro i hi
 obtain ⟨b,o,rfl,hc⟩:=h i hi
 exact ⟨b,o,rfl,he.cell hc⟩
section
variable {w w' : World} {g : Nat} {t : TypeId} {zs : List Int}
end
theorem make_ints {P : Program} (t e : TypeId) (i : TypeInfo) (ht : P.underlying t=some (.slice e)) (hi : P.info? e=some i) (hz : i.zero=some (.int .i64 0)) (hs : i.size=1) (hby : i.bytes=8)
  (n : Nat) (hn : n≤2 ^ 45) (w : World) :
  (Instr.makeSlice t (.int .i64 (n : Int)) (.int .i64 (n : Int))).run P w=.ok (.slice (some ⟨w.heap.size,0,none⟩) n n) (w.alloc (.cells ((List.replicate n (0 : Int)).map (Value.int .i64)).toArray e)):=by
 have hr:=run_make (P:=P) w t e i (.int .i64 0) ht hi hz .i64 .i64 n n (by omega) (by omega) (by rw [hby]; omega) (by omega)
 rw [hr,hs]
 have : (madeCells (Value.int .i64 0).cells (n * 1))=((List.replicate n (0 : Int)).map (Value.int .i64)).toArray:=by
  apply Array.toList_inj.1
  rw [Nat.mul_one]
  show (madeCells #[Value.int .i64 0] n).toList=_
  rw [toList_madeCells_one]
  simp
 simp only [Int.toNat_natCast,this]
def CellsAt (w : World) (A : Option Addr) (vs : List Value) : Prop :=
 ∀ i v,vs[i]? = some v→∃ b o,A=some ⟨b,o,none⟩∧w.cell? ⟨b,o + i,none⟩=some v
theorem CellsAt.ext {w w' : World} {A : Option Addr} {vs : List Value} (h : CellsAt w A vs) (he : Ext w w') : CellsAt w' A vs:=by
 intro i v hi
 obtain ⟨b,o,rfl,hc⟩:=h i v hi
 exact ⟨b,o,rfl,he.cell hc⟩
theorem cellsAt_nil (w : World) (A : Option Addr) : CellsAt w A []:=fun i v hi => by simp at hi
theorem ints_cells {w : World} {A : Option Addr} {zs : List Int} (h : IntsAt w A zs) : CellsAt w A (zs.map (Value.int .i64)):=by
 intro i v hi
 have hl : i < zs.length:=by
  have:=(List.getElem?_eq_some_iff.1 hi).1
  simpa using this
 obtain ⟨b,o,rfl,hc⟩:=h i hl
 refine ⟨b,o,rfl,?_⟩
 rw [hc]
 simp [hl] at hi
 simp [hl,hi]
theorem cells_ints {w : World} {A : Option Addr} {zs : List Int} (h : CellsAt w A (zs.map (Value.int .i64))) : IntsAt w A zs:=by
 intro i hi
 obtain ⟨b,o,rfl,hc⟩:=h i (.int .i64 zs[i]) (by simp [hi])
 exact ⟨b,o,rfl,by simpa [hi] using hc⟩
section
variable {w w' : World} {base : Nat} {e : TypeId} {size n c : Nat} {A : Option Addr} {v : Value} {xs : List Value}
theorem own_shape (h : w.ownsRow base e size v n xs) : ∃ A c,v=.slice A n c∧(A=none→n=0)∧CellsAt w A xs:=by
 rcases h.2 with ⟨rfl,hn⟩ | ⟨g,cap,cur,rfl,hb,hg,hnc,hcm,hcs,ht⟩
 ·have hx : xs=[]:=List.eq_nil_of_length_eq_zero (by rw [h.1,hn,Nat.zero_mul])
  subst hn; subst hx
  exact ⟨none,0,rfl,fun _ => rfl,cellsAt_nil _ _⟩
 ·refine ⟨_,cap,rfl,fun k => by simp at k,fun i u hi => ⟨g,0,rfl,?_⟩⟩
  rw [Nat.zero_add,cell_of_row w g i cur e (0,0) hg]
  rw [← ht,List.getElem?_take] at hi
  split at hi
  ·simpa using hi
  ·cases hi
theorem own_cells (h : w.ownsRow base e size (.slice A n c) n xs) : CellsAt w A xs∧(A=none→n=0):=by
 obtain ⟨A',c',e,h1,h2⟩:=own_shape h
 injection e with e1 e2 e3
 subst e1
 exact ⟨h2,h1⟩
theorem own_ext (h : w.ownsRow base e size v n xs) (he : Ext w w') : w'.ownsRow base e size v n xs:=by
 refine ⟨h.1,?_⟩
 rcases h.2 with hn | ⟨g,cap,cur,rfl,hb,hg,rest⟩
 ·exact .inl hn
 ·exact .inr ⟨g,cap,cur,rfl,hb,(he.block g (Array.getElem?_eq_some_iff.1 hg).1).trans hg,rest⟩
theorem own_mono {base' : Nat} (h : w.ownsRow base e size v n xs) (hb : base'≤base) : w.ownsRow base' e size v n xs:=by
 refine ⟨h.1,?_⟩
 rcases h.2 with hn | ⟨g,cap,cur,rfl,hb',rest⟩
 ·exact .inl hn
 ·exact .inr ⟨g,cap,cur,rfl,by omega,rest⟩
theorem ext_grown {w0 : World} {row : Option Nat} (h : Ext w0 w) (hg : w.grownBy w' row) (hr : ∀ k,row=some k→w0.heap.size≤k) : Ext w0 w':=h.grown hg h.size hr
theorem own_row (h : w.ownsRow base e size v n xs) : ∀ k,v.ownBlock=some k→base≤k:=fun k hk => (h.lt k hk).1
end
theorem add_lit (b o j : Nat) : (⟨b,o,none⟩ : Addr).add j=⟨b,o + j,none⟩:=by unfold Addr.add; split <;> simp_all
section
variable {P : Program} (w : World)
theorem run_append_cells (base : Nat) (t ty e : TypeId) (i : TypeInfo) (z : Value) (size bytes : Nat) (ht : P.underlying t=some (.slice e)) (hi : P.info? e=some i) (hz : i.zero=some z)
  (hsize : i.size=size) (hby : i.bytes=bytes) (hzs : z.cells.size=size) (hsz : 0 < size)
  (v : Value) (n : Nat) (xs : List Value) (hown : w.ownsRow base e size v n xs)
  (A : Option Addr) (m c : Nat) (news : List Value) (hl : news.length=m * size) (hr : CellsAt w A news) (h1 : ∀ u ∈ news,u.oneCell'=true)
  (h63 : n + m≤maxLen) (hbytes : (n + m) * bytes≤140737488355328) (hbase : base≤w.heap.size) (hA : A=none→m=0) :
  ∃ v' w',(Builtin.append_ #[t,t] ty #[v,.slice A m c]).run P w=.ok v' w'∧w'.ownsRow base e size v' (n + m) (xs ++ news)∧w.grownBy w' v.ownBlock:=by
 cases A with
 | none =>
  obtain rfl:=hA rfl
  have hn : news=[]:=List.eq_nil_of_length_eq_zero (by simpa using hl)
  subst hn
  refine ⟨v,w,?_,by simpa using hown,⟨rfl,rfl,rfl,Nat.le_refl _,fun _ _ _ => rfl⟩⟩
  rcases hown.2 with ⟨rfl,rfl⟩ | ⟨g,cap,cur,rfl,_,_,hnc,_⟩
  ·simp [Builtin.append_,run_underlying ht,sizeOf,typeInfo,hi,Builtin.lenOf,Builtin.firstCells]
  ·simp [Builtin.append_,run_underlying ht,sizeOf,typeInfo,hi,Builtin.lenOf,Builtin.firstCells,hnc,storeCells]
 | some ad =>
  have hcells : ∀ j u,news[j]? = some u→w.cell? (ad.add j)=some u:=by
   intro j u hu
   obtain ⟨b,o,e1,hc⟩:=hr j u hu
   injection e1 with e1
   subst e1
   rw [add_lit]
   exact hc
  obtain ⟨v',w',hrun,h2,h3,_⟩:=run_append_own (P:=P) w base t ty e i z size bytes ht hi hz hsize hby hzs hsz v n xs hown ad m c news hl hcells h1 h63 hbytes hbase
  exact ⟨v',w',hrun,h2,h3⟩
theorem wpList_append_cells {ops : Array Oper} {rest : List Oper} {o : Oper} {a : Act} {Q : Exit→Act→World→Prop} (hgd : o.guard=none) (s x : Operand) (t : TypeId)
  (ho : o.op=.call { callee:=.builtin .append,args:=#[s,x],argTypes:=#[t,t] })
  (base : Nat) (e : TypeId) (i : TypeInfo) (z : Value) (size bytes : Nat) (ht : P.underlying t=some (.slice e)) (hi : P.info? e=some i) (hz : i.zero=some z)
  (hsize : i.size=size) (hby : i.bytes=bytes) (hzs : z.cells.size=size) (hsz : 0 < size)
  (v : Value) (n : Nat) (xs : List Value) (hs : a.eval s=v) (hown : w.ownsRow base e size v n xs)
  (A : Option Addr) (m c : Nat) (news : List Value) (hx : a.eval x=.slice A m c) (hl : news.length=m * size) (hr : CellsAt w A news) (h1 : ∀ u ∈ news,u.oneCell'=true)
  (h63 : n + m≤maxLen) (hbytes : (n + m) * bytes≤140737488355328) (hbase : base≤w.heap.size) (hA : A=none→m=0)
  (h : ∀ v' w',w'.ownsRow base e size v' (n + m) (xs ++ news)→w.grownBy w' v.ownBlock→wpList P ops Q rest (a.put o.dst v') w') : wpList P ops Q (o :: rest) a w :=
 wpList_plain hgd fun _ hK => by
  obtain ⟨v',w',hrun,h2,h3⟩:=run_append_cells (P:=P) w base t o.type e i z size bytes ht hi hz hsize hby hzs hsz v n xs hown A m c news hl hr h1 h63 hbytes hbase hA
  unfold Oper.wp execOp
  simp only [ho,resolve,invoke,builtin,Sem.run_bind,Sem.run_pure,Result.andThen_ok,List.map_toArray,List.map_cons,List.map_nil,hs,hx,hrun]
  exact hK _ _ (h v' w' h2 h3)
end
theorem new_cell (w : World) (cs : Array Value) (t : TypeId) (i : Nat) : (w.alloc (.cells cs t)).cell? ⟨w.heap.size,i,none⟩=cs[i]? :=
 cell_of_row _ _ i cs t (0,0) (heap_alloc_new w _)
theorem cellsAt_new (w : World) (t : TypeId) (l : List Value) : CellsAt (w.alloc (.cells l.toArray t)) (some ⟨w.heap.size,0,none⟩) l:=fun i v hi => ⟨w.heap.size,0,rfl,by
 rw [Nat.zero_add,new_cell]
 simpa using hi⟩
def Blk (w : World) (g : Nat) (t : TypeId) (cs : Array Value) : Prop:=w.heap[g]? = some (.cells cs t (0,0))
section
variable {w w' : World} {g : Nat} {t : TypeId} {cs : Array Value}
theorem Blk.lt (h : Blk w g t cs) : g < w.heap.size:=by
 rcases Nat.lt_or_ge g w.heap.size with hlt | hge
 ·exact hlt
 ·unfold Blk at h; rw [Array.getElem?_eq_none hge] at h; cases h
theorem Blk.cell (h : Blk w g t cs) (i : Nat) : w.cell? ⟨g,i,none⟩=cs[i]?:=cell_of_row w g i cs t (0,0) h
theorem Blk.frozen (h : Blk w g t cs) (i : Nat) : w.frozen? ⟨g,i,none⟩=false:=by
 unfold Blk at h
 simp [World.frozen?,h]
theorem Blk.new (w : World) (t : TypeId) (cs : Array Value) : Blk (w.alloc (.cells cs t)) w.heap.size t cs:=heap_alloc_new w _
theorem Blk.drew (h : Blk w g t cs) : Blk w.drew g t cs:=h
theorem Blk.alloc (h : Blk w g t cs) (o : Obj) : Blk (w.alloc o) g t cs:=(Below.heap_alloc w o g h.lt).trans h
theorem Blk.set_ (h : Blk w g t cs) (i : Nat) (u : Value) : Blk (w.setCell ⟨g,i,none⟩ u) g t (cs.setIfInBounds i u):=by
 unfold Blk at h ⊢
 simp [World.setCell,Array.getElem?_modify,h]
theorem Blk.far (h : Blk w g t cs) {p : Addr} (hp : g ≠ p.block) (u : Value) : Blk (w.setCell p u) g t cs:=(Below.heap_setCell w p u g hp).trans h
theorem Blk.ext (h : Blk w g t cs) (hb : Ext w w') : Blk w' g t cs:=(hb.block g h.lt).trans h
end
theorem own_ne {w : World} {b b' : Nat} {e e' : TypeId} {s s' n n' : Nat} {v v' : Value} {xs xs' : List Value} (h : w.ownsRow b e s v n xs) (h' : w.ownsRow b' e' s' v' n' xs') (hne : e ≠ e') : v.ownBlock=none∨v.ownBlock ≠ v'.ownBlock:=by
 rcases h.2 with ⟨rfl,_⟩ | ⟨g,cap,cur,rfl,hb,hg,_⟩
 ·exact .inl rfl
 ·right
  rcases h'.2 with ⟨rfl,_⟩ | ⟨g',cap',cur',rfl,hb',hg',_⟩
  ·simp [Value.ownBlock]
  ·intro e1
   simp [Value.ownBlock] at e1
   subst e1
   rw [hg] at hg'
   injection hg' with hg'
   injection hg' with _ ht
   exact hne ht
theorem own_cap {w : World} {base : Nat} {e : TypeId} {size n c : Nat} {A : Option Addr} {xs : List Value} (h : w.ownsRow base e size (.slice A n c) n xs) : n≤c:=by
 rcases h.2 with ⟨e1,e2⟩ | ⟨g,cap,cur,e1,_,_,e2,_⟩
 ·omega
 ·injection e1 with a b c; omega
theorem ext_set {w w' : World} (h : Ext w w') {p : Addr} (hp : w.heap.size≤p.block) (u : Value) : Ext w (w'.setCell p u):=Below.setCell h hp u
theorem one_ints (zs : List Int) : ∀ u ∈ zs.map (Value.int .i64),u.oneCell'=true:=by
 intro u hu
 obtain ⟨z,_,rfl⟩:=List.mem_map.1 hu
 rfl
structure WayM where
 dx : Int
 dy : Int
 most : Int
 take : Int
structure PieceM where
 letter : Int
 hand : Int
 promote : Int
 ways : List WayM
structure EndM where
 kind : Int
 piece : Int
 count : Int
 loses : Bool
structure RulesM where
 name : ByteArray
 width : Int
 height : Int
 pieces : List PieceM
 start : List Int
 falls : Bool
 keeps : Bool
 ends : List EndM
 blocked : Int
 quiet : Int
 rept : Int
structure PosM where
 cells : List Int
 hand0 : List Int
 hand1 : List Int
 turn : Int
 quiet : Int
def letterB (c : UInt8) : Bool:=65≤c && c≤90
def digitB (c : UInt8) : Bool:=48≤c && c≤57
def nameB (s : ByteArray) : Bool:=decide (1≤s.size∧s.size≤8) && (List.range s.size).all fun i => letterB (s.data.toList.getD i 0) || (decide (0 < i) && digitB (s.data.toList.getD i 0))
def inB (n lo hi : Int) : Bool:=decide (lo≤n) && decide (n≤hi)
def wayB (x : WayM) : Bool:=inB x.dx (-7) 7 && inB x.dy (-7) 7 && !(decide (x.dx=0) && decide (x.dy=0)) && inB x.most 1 7 && inB x.take 0 2
def pieceE (ps : List PieceM) (i : Nat) : Int :=
 match ps[i]? with
 | none => 0
 | some p =>
  if !inB p.letter 65 90 then 6
  else if (ps.take i).any (fun q => decide (q.letter=p.letter)) then 7
  else if !(inB p.hand 0 64 && inB p.promote 0 ps.length) then 4
  else if 16 < p.ways.length then 2
  else if p.ways.all wayB then 0 else 4
def firstE (f : Nat→Int) : Nat→Nat→Int
 | _,0 => 0
 | i,n + 1 => if f i=0 then firstE f (i + 1) n else f i
def piecesE (ps : List PieceM) : Int:=if ps.length=0 then 8 else if 6 < ps.length then 2 else firstE (pieceE ps) 0 ps.length
def endE (n : Nat) (es : List EndM) (i : Nat) : Int :=
 match es[i]? with
 | none => 0
 | some x =>
  if x.kind=0 then (if inB x.count 1 64 && decide (x.piece=0) then 0 else 4)
  else if x.kind=1 then (if decide (x.count=0) && inB x.piece 0 (n - 1) then 0 else 4)
  else if x.kind=2 then (if inB x.count 1 64 && inB x.piece 0 (n - 1) then 0 else 4)
  else 1
def endsE (n : Nat) (es : List EndM) : Int:=if 6 < es.length then 2 else firstE (endE n es) 0 es.length
def lastB (R : RulesM) : Bool:=inB R.blocked 0 2 && inB R.quiet 0 200 && (decide (R.rept=0) || inB R.rept 2 5)
def rulesE (R : RulesM) : Int :=
 if !nameB R.name then 6
 else if !(inB R.width 1 8 && inB R.height 1 8) then 4
 else if piecesE R.pieces ≠ 0 then piecesE R.pieces
 else if (R.start.length : Int) ≠ R.width * R.height then 3
 else if !(R.start.all fun c => inB c 0 (2 * R.pieces.length)) then 4
 else if endsE R.pieces.length R.ends ≠ 0 then endsE R.pieces.length R.ends
 else if lastB R then 0 else 4
def formB (R : RulesM) (P : PosM) : Bool:=decide ((P.cells.length : Int)=R.width * R.height) && (decide (P.hand0.length=R.pieces.length) && decide (P.hand1.length=R.pieces.length))
def rangeB (n : Nat) (P : PosM) : Bool:=(P.cells.all fun c => inB c 0 (2 * (n : Int))) && (((P.hand0 ++ P.hand1).all fun c => inB c 0 1000) && ((decide (P.turn=0) || decide (P.turn=1)) && inB P.quiet 0 200))
def soundE (R : RulesM) (P : PosM) : Int:=if formB R P then (if rangeB R.pieces.length P then 0 else 4) else 3
def checkE (R : RulesM) (P : PosM) : Int:=if rulesE R=0 then soundE R P else rulesE R
theorem firstE_eq (f : Nat→Int) : ∀ n i k,(∀ j,i≤j→j < k→f j=0)→i≤k→k < i + n→f k ≠ 0→firstE f i n=f k
 | 0,i,k,_,h1,h2,_ => by omega
 | n + 1,i,k,hz,h1,h2,hk => by
  unfold firstE
  by_cases e : i=k
  ·subst e; rw [if_neg hk]
  ·rw [if_pos (hz i (Nat.le_refl _) (by omega))]
   exact firstE_eq f n (i + 1) k (fun j a b => hz j (by omega) b) (by omega) (by omega) hk
theorem firstE_zero (f : Nat→Int) : ∀ n i,(firstE f i n=0 ↔ ∀ j,i≤j→j < i + n→f j=0)
 | 0,i => by simp [firstE]; intro j a b; omega
 | n + 1,i => by
  unfold firstE
  constructor
  ·intro h j a b
   by_cases e : f i=0
   ·rw [if_pos e] at h
    by_cases e2 : j=i
    ·subst e2; exact e
    ·exact (firstE_zero f n (i + 1)).1 h j (by omega) (by omega)
   ·rw [if_neg e] at h; exact absurd h e
  ·intro h
   rw [if_pos (h i (Nat.le_refl _) (by omega))]
   exact (firstE_zero f n (i + 1)).2 (fun j a b => h j (by omega) (by omega))
def WayM.vals (x : WayM) : List Value:=[.int .i64 x.dx,.int .i64 x.dy,.int .i64 x.most,.int .i64 x.take]
def EndM.vals (x : EndM) : List Value:=[.int .i64 x.kind,.int .i64 x.piece,.int .i64 x.count,.bool x.loses]
def WaysAt (w : World) (A : Option Addr) (ws : List WayM) : Prop:=CellsAt w A (ws.flatMap WayM.vals)
def EndsAt (w : World) (A : Option Addr) (es : List EndM) : Prop:=CellsAt w A (es.flatMap EndM.vals)
def PieceVals (w : World) (p : PieceM) (l : List Value) : Prop :=
 ∃ A c,l=[.int .u8 p.letter,.int .i64 p.hand,.int .i64 p.promote,.slice A p.ways.length c]∧WaysAt w A p.ways
def PiecesAt (w : World) (A : Option Addr) (ps : List PieceM) : Prop :=
 ∃ vss : List (List Value),CellsAt w A vss.flatten∧vss.length=ps.length∧∀ (i : Nat) (p : PieceM) (l : List Value),ps[i]? = some p→vss[i]? = some l→PieceVals w p l
def RulesAt (w : World) (v : Value) (R : RulesM) : Prop :=
 ∃ pA pc sA sc eA ec,v=.agg #[.string R.name,.int .i64 R.width,.int .i64 R.height,.slice pA R.pieces.length pc,.slice sA R.start.length sc,.bool R.falls,.bool R.keeps,.slice eA R.ends.length ec,.int .i64 R.blocked,.int .i64 R.quiet,.int .i64 R.rept] ∧
  PiecesAt w pA R.pieces∧IntsAt w sA R.start∧EndsAt w eA R.ends∧R.pieces.length≤pc∧R.start.length≤sc∧R.ends.length≤ec∧R.name.size≤9223372036854775807
def PosAt (w : World) (v : Value) (P : PosM) : Prop :=
 ∃ cA cc aA ac bA bc,v=.agg #[.slice cA P.cells.length cc,.slice aA P.hand0.length ac,.slice bA P.hand1.length bc,.int .i64 P.turn,.int .i64 P.quiet] ∧
  IntsAt w cA P.cells∧IntsAt w aA P.hand0∧IntsAt w bA P.hand1∧P.cells.length≤cc∧P.hand0.length≤ac∧P.hand1.length≤bc
section
variable {w w' : World}
theorem PieceVals.ext {p : PieceM} {l : List Value} (h : PieceVals w p l) (he : Ext w w') : PieceVals w' p l:=by
 obtain ⟨A,c,e,h1⟩:=h
 exact ⟨A,c,e,CellsAt.ext h1 he⟩
theorem PiecesAt.ext {A : Option Addr} {ps : List PieceM} (h : PiecesAt w A ps) (he : Ext w w') : PiecesAt w' A ps:=by
 obtain ⟨vss,h1,h2,h3⟩:=h
 exact ⟨vss,h1.ext he,h2,fun i p l a b => (h3 i p l a b).ext he⟩
theorem RulesAt.ext {v : Value} {R : RulesM} (h : RulesAt w v R) (he : Ext w w') : RulesAt w' v R:=by
 obtain ⟨pA,pc,sA,sc,eA,ec,e,h1,h2,h3,h4⟩:=h
 exact ⟨pA,pc,sA,sc,eA,ec,e,h1.ext he,h2.ext he,CellsAt.ext h3 he,h4⟩
theorem PosAt.ext {v : Value} {P : PosM} (h : PosAt w v P) (he : Ext w w') : PosAt w' v P:=by
 obtain ⟨cA,cc,aA,ac,bA,bc,e,h1,h2,h3,h4⟩:=h
 exact ⟨cA,cc,aA,ac,bA,bc,e,h1.ext he,h2.ext he,h3.ext he,h4⟩
theorem flat_get {α : Type} (f : α→List Value) (s : Nat) (hf : ∀ x,(f x).length=s) : ∀ (l : List α) (k j : Nat) (x : α),l[k]? = some x→j < s→(l.flatMap f)[k * s + j]? = (f x)[j]?
 | [],k,j,x,h,_ => by simp at h
 | a :: l,0,j,x,h,hj => by
  simp at h
  subst h
  rw [List.flatMap_cons,Nat.zero_mul,Nat.zero_add,List.getElem?_append_left (by rw [hf]; exact hj)]
 | a :: l,k + 1,j,x,h,hj => by
  rw [List.flatMap_cons,List.getElem?_append_right (by rw [hf,Nat.add_mul]; omega),hf]
  have e : (k + 1) * s + j - s=k * s + j:=by rw [Nat.add_mul]; omega
  rw [e]
  exact flat_get f s hf l k j x (by simpa using h) hj
theorem flatten_get (s : Nat) (l : List (List Value)) (hl : ∀ x ∈ l,x.length=s) (k j : Nat) (x : List Value) (h : l[k]? = some x) (hj : j < s) : l.flatten[k * s + j]? = x[j]?:=by
 induction l generalizing k with
 | nil => simp at h
 | cons a l ih =>
  cases k with
  | zero =>
   simp at h
   subst h
   rw [List.flatten_cons,Nat.zero_mul,Nat.zero_add,List.getElem?_append_left (by rw [hl _ (by simp)]; exact hj)]
  | succ k =>
   have ha:=hl a (by simp)
   rw [List.flatten_cons,List.getElem?_append_right (by rw [ha,Nat.add_mul]; omega),ha]
   have e : (k + 1) * s + j - s=k * s + j:=by rw [Nat.add_mul]; omega
   rw [e]
   exact ih (fun x hx => hl x (by simp [hx])) k (by simpa using h)
theorem WaysAt.get {A : Option Addr} {ws : List WayM} (h : WaysAt w A ws) {k : Nat} {x : WayM} (hk : ws[k]? = some x) :
  ∃ b o,A=some ⟨b,o,none⟩∧w.cell? ⟨b,o + k * 4,none⟩=some (.int .i64 x.dx)∧w.cell? ⟨b,o + k * 4 + 1,none⟩=some (.int .i64 x.dy)∧w.cell? ⟨b,o + k * 4 + 2,none⟩=some (.int .i64 x.most)∧w.cell? ⟨b,o + k * 4 + 3,none⟩=some (.int .i64 x.take):=by
 have g:=fun j hj => flat_get WayM.vals 4 (fun _ => rfl) ws k j x hk hj
 obtain ⟨b,o,rfl,h0⟩:=h (k * 4 + 0) _ (g 0 (by omega))
 obtain ⟨_,_,e1,h1⟩:=h (k * 4 + 1) _ (g 1 (by omega))
 obtain ⟨_,_,e2,h2⟩:=h (k * 4 + 2) _ (g 2 (by omega))
 obtain ⟨_,_,e3,h3⟩:=h (k * 4 + 3) _ (g 3 (by omega))
 simp only [Option.some.injEq,Addr.mk.injEq,and_true] at e1 e2 e3
 obtain ⟨rfl,rfl⟩:=e1
 obtain ⟨rfl,rfl⟩:=e2
 obtain ⟨rfl,rfl⟩:=e3
 exact ⟨b,o,rfl,h0,h1,h2,h3⟩
theorem PiecesAt.take {A : Option Addr} {ps : List PieceM} (h : PiecesAt w A ps) (k : Nat) : PiecesAt w A (ps.take k):=by
 obtain ⟨vss,hc,hl,hv⟩:=h
 refine ⟨vss.take k,fun i v hi => hc i v ?_,by simp [hl],fun i p l hp hl' => ?_⟩
 ·have e : vss.flatten=(vss.take k).flatten ++ (vss.drop k).flatten:=by rw [← List.flatten_append,List.take_append_drop]
  rw [e,List.getElem?_append_left (List.getElem?_eq_some_iff.1 hi).1]
  exact hi
 ·rw [List.getElem?_take] at hp hl'
  split at hp
  ·rename_i hik
   rw [if_pos hik] at hl'
   exact hv i p l hp hl'
  ·cases hp
theorem EndsAt.get {A : Option Addr} {es : List EndM} (h : EndsAt w A es) {k : Nat} {x : EndM} (hk : es[k]? = some x) :
  ∃ b o,A=some ⟨b,o,none⟩∧w.cell? ⟨b,o + k * 4,none⟩=some (.int .i64 x.kind)∧w.cell? ⟨b,o + k * 4 + 1,none⟩=some (.int .i64 x.piece)∧w.cell? ⟨b,o + k * 4 + 2,none⟩=some (.int .i64 x.count)∧w.cell? ⟨b,o + k * 4 + 3,none⟩=some (.bool x.loses):=by
 have g:=fun j hj => flat_get EndM.vals 4 (fun _ => rfl) es k j x hk hj
 obtain ⟨b,o,rfl,h0⟩:=h (k * 4 + 0) _ (g 0 (by omega))
 obtain ⟨_,_,e1,h1⟩:=h (k * 4 + 1) _ (g 1 (by omega))
 obtain ⟨_,_,e2,h2⟩:=h (k * 4 + 2) _ (g 2 (by omega))
 obtain ⟨_,_,e3,h3⟩:=h (k * 4 + 3) _ (g 3 (by omega))
 simp only [Option.some.injEq,Addr.mk.injEq,and_true] at e1 e2 e3
 obtain ⟨rfl,rfl⟩:=e1
 obtain ⟨rfl,rfl⟩:=e2
 obtain ⟨rfl,rfl⟩:=e3
 exact ⟨b,o,rfl,h0,h1,h2,h3⟩
theorem PiecesAt.get {A : Option Addr} {ps : List PieceM} (h : PiecesAt w A ps) {k : Nat} {p : PieceM} (hk : ps[k]? = some p) :
  ∃ b o wA wc,A=some ⟨b,o,none⟩∧w.cell? ⟨b,o + k * 4,none⟩=some (.int .u8 p.letter)∧w.cell? ⟨b,o + k * 4 + 1,none⟩=some (.int .i64 p.hand)∧w.cell? ⟨b,o + k * 4 + 2,none⟩=some (.int .i64 p.promote)∧w.cell? ⟨b,o + k * 4 + 3,none⟩=some (.slice wA p.ways.length wc)∧WaysAt w wA p.ways:=by
 obtain ⟨vss,hc,hl,hv⟩:=h
 have hkl : k < vss.length:=by rw [hl]; exact (List.getElem?_eq_some_iff.1 hk).1
 obtain ⟨wA,wc,el,hw⟩:=hv k p vss[k] hk (List.getElem?_eq_getElem hkl)
 have hall : ∀ x ∈ vss,x.length=4:=by
  intro x hx
  obtain ⟨i,hi,rfl⟩:=List.mem_iff_getElem.1 hx
  obtain ⟨_,_,e,_⟩:=hv i (ps[i]'(by omega)) vss[i] (List.getElem?_eq_getElem (by omega)) (List.getElem?_eq_getElem hi)
  rw [e]; rfl
 have g:=fun j hj => flatten_get 4 vss hall k j vss[k] (List.getElem?_eq_getElem hkl) hj
 rw [el] at g
 obtain ⟨b,o,rfl,h0⟩:=hc (k * 4 + 0) _ (g 0 (by omega))
 obtain ⟨_,_,e1,h1⟩:=hc (k * 4 + 1) _ (g 1 (by omega))
 obtain ⟨_,_,e2,h2⟩:=hc (k * 4 + 2) _ (g 2 (by omega))
 obtain ⟨_,_,e3,h3⟩:=hc (k * 4 + 3) _ (g 3 (by omega))
 simp only [Option.some.injEq,Addr.mk.injEq,and_true] at e1 e2 e3
 obtain ⟨rfl,rfl⟩:=e1
 obtain ⟨rfl,rfl⟩:=e2
 obtain ⟨rfl,rfl⟩:=e3
 exact ⟨b,o,wA,wc,rfl,h0,h1,h2,h3,hw⟩
end
theorem blk_set5 {w : World} {g : Nat} {t : TypeId} {o0 o1 o2 o3 o4 u0 u1 u2 u3 u4 : Value} (h : Blk w g t #[o0,o1,o2,o3,o4]) : Blk (((((w.setCell ⟨g,0,none⟩ u0).setCell ⟨g,1,none⟩ u1).setCell ⟨g,2,none⟩ u2).setCell ⟨g,3,none⟩ u3).setCell ⟨g,4,none⟩ u4) g t #[u0,u1,u2,u3,u4]:=by
 have h0 : Blk (w.setCell ⟨g,0,none⟩ u0) g t #[u0,o1,o2,o3,o4]:=by have:=h.set_ 0 u0; simpa using this
 have h1 : Blk ((w.setCell ⟨g,0,none⟩ u0).setCell ⟨g,1,none⟩ u1) g t #[u0,u1,o2,o3,o4]:=by have:=h0.set_ 1 u1; simpa using this
 have h2 : Blk (((w.setCell ⟨g,0,none⟩ u0).setCell ⟨g,1,none⟩ u1).setCell ⟨g,2,none⟩ u2) g t #[u0,u1,u2,o3,o4]:=by have:=h1.set_ 2 u2; simpa using this
 have h3 : Blk ((((w.setCell ⟨g,0,none⟩ u0).setCell ⟨g,1,none⟩ u1).setCell ⟨g,2,none⟩ u2).setCell ⟨g,3,none⟩ u3) g t #[u0,u1,u2,u3,o4]:=by have:=h2.set_ 3 u3; simpa using this
 have h4 : Blk (((((w.setCell ⟨g,0,none⟩ u0).setCell ⟨g,1,none⟩ u1).setCell ⟨g,2,none⟩ u2).setCell ⟨g,3,none⟩ u3).setCell ⟨g,4,none⟩ u4) g t #[u0,u1,u2,u3,u4]:=by have:=h3.set_ 4 u4; simpa using this
 exact h4
end Go.Proofs.YtdoibgmmijhlfaaGreat
namespace Go.Proofs.YtdoibgmmijhlfaaGreat
structure MoveM where
 src : Int
 dst : Int
 piece : Int
deriving DecidableEq
def MoveM.vals (m : MoveM) : List Value:=[.int .i64 m.src,.int .i64 m.dst,.int .i64 m.piece]
def fillB (cs : List Int) (w : Nat) : Nat→Nat→Bool
 | 0,_ => true
 | n + 1,s => if s < w then true else if cs.getD (s - w) 0=0 then false else fillB cs w n (s - w)
def PosM.hand (P : PosM) : List Int:=if P.turn=0 then P.hand0 else P.hand1
def putB (R : RulesM) (P : PosM) (s : Nat) : Bool :=
 decide (P.cells.getD s 0=0) && (!R.falls || decide (s < R.width.toNat) || fillB P.cells R.width.toNat s s)
def putsAt (hand : List Int) (s : Nat) (n : Nat) : List MoveM:=(List.range n).flatMap fun k => if 0 < hand.getD k 0 then [⟨-1,s,k⟩] else []
def putsTo (R : RulesM) (P : PosM) (n : Nat) : List MoveM:=(List.range n).flatMap fun s => if putB R P s then putsAt P.hand s P.hand.length else []
def putsM (R : RulesM) (P : PosM) : List MoveM:=putsTo R P P.cells.length
def endsB (turn take c : Int) : Bool :=
 (decide (take=0) && decide (c=0)) || (decide (take=1) && (decide (c=0) || (decide (0 < c) && decide ((c - 1) % 2 ≠ turn)))) || (decide (take=2) && (decide (0 < c) && decide ((c - 1) % 2 ≠ turn)))
def wayFrom (W H turn take dx dy : Int) (cs : List Int) : Nat→Int→Int→List Int
 | 0,_,_ => []
 | n + 1,x,y =>
  if x + dx < 0∨W≤x + dx∨y + dy < 0∨H≤y + dy then []
  else (if endsB turn take (cs.getD ((y + dy) * W + (x + dx)).toNat 0) then [(y + dy) * W + (x + dx)] else []) ++
   (if cs.getD ((y + dy) * W + (x + dx)).toNat 0=0 then wayFrom W H turn take dx dy cs n (x + dx) (y + dy) else [])
def wayM (R : RulesM) (P : PosM) (s : Nat) (w : WayM) : List Int :=
 wayFrom R.width R.height P.turn w.take w.dx (if P.turn=1 then -w.dy else w.dy) P.cells w.most.toNat ((s : Int) % R.width) ((s : Int) / R.width)
def lastM (R : RulesM) (player : Int) (s : Int) : Bool:=if player=0 then decide (s / R.width=R.height - 1) else decide (s / R.width=0)
def stepTo (R : RulesM) (P : PosM) (s : Nat) (k : Nat) (pr : Int) (t : Int) : MoveM:=⟨s,t,if 0 < pr∧lastM R P.turn t=true then pr - 1 else k⟩
def stepsBy (R : RulesM) (P : PosM) (s k : Nat) (pr : Int) (ws : List WayM) : List MoveM:=ws.flatMap fun w => (wayM R P s w).map (stepTo R P s k pr)
def ownB (P : PosM) (s : Nat) : Bool:=decide (P.cells.getD s 0 ≠ 0) && decide ((P.cells.getD s 0 - 1) % 2=P.turn)
def stepsAt (R : RulesM) (P : PosM) (s : Nat) : List MoveM :=
 if ownB P s then match R.pieces[((P.cells.getD s 0 - 1) / 2).toNat]? with
  | none => []
  | some p => stepsBy R P s ((P.cells.getD s 0 - 1) / 2).toNat p.promote p.ways
 else []
def stepsToM (R : RulesM) (P : PosM) (n : Nat) : List MoveM:=(List.range n).flatMap (stepsAt R P)
def rawM (R : RulesM) (P : PosM) : List MoveM:=putsM R P ++ stepsToM R P P.cells.length
def cmpI (a b : Int) : Int:=if a < b then -1 else if b < a then 1 else 0
def cmpM (a b : MoveM) : Int:=if cmpI a.src b.src ≠ 0 then cmpI a.src b.src else if cmpI a.dst b.dst ≠ 0 then cmpI a.dst b.dst else cmpI a.piece b.piece
def insM (m : MoveM) : List MoveM→List MoveM
 | [] => [m]
 | x :: l => if cmpM m x < 0 then m :: x :: l else if m=x then x :: l else x :: insM m l
def listOf (l : List MoveM) : List MoveM:=l.foldr insM []
def listM (R : RulesM) (P : PosM) : List MoveM:=listOf (rawM R P)
def ltM (a b : MoveM) : Prop:=cmpM a b < 0
theorem cmpI_lt {a b : Int} : cmpI a b < 0 ↔ a < b:=by unfold cmpI; split <;> (try split) <;> omega
theorem cmpI_eq {a b : Int} : cmpI a b=0 ↔ a=b:=by unfold cmpI; split <;> (try split) <;> omega
theorem cmpM_lt {a b : MoveM} : cmpM a b < 0 ↔ a.src < b.src∨(a.src=b.src∧(a.dst < b.dst∨(a.dst=b.dst∧a.piece < b.piece))):=by
 unfold cmpM
 by_cases h1 : cmpI a.src b.src=0
 ·rw [if_neg (fun k => k h1)]
  rw [cmpI_eq] at h1
  by_cases h2 : cmpI a.dst b.dst=0
  ·rw [if_neg (fun k => k h2),cmpI_lt]
   rw [cmpI_eq] at h2
   omega
  ·rw [if_pos h2,cmpI_lt]
   rw [cmpI_eq] at h2
   omega
 ·rw [if_pos h1,cmpI_lt]
  rw [cmpI_eq] at h1
  omega
theorem ltM_iff {a b : MoveM} : ltM a b ↔ a.src < b.src∨(a.src=b.src∧(a.dst < b.dst∨(a.dst=b.dst∧a.piece < b.piece))):=cmpM_lt
theorem moveM_ext {a b : MoveM} (h1 : a.src=b.src) (h2 : a.dst=b.dst) (h3 : a.piece=b.piece) : a=b:=by
 cases a; cases b; simp_all
theorem ltM_trans {a b c : MoveM} (h : ltM a b) (k : ltM b c) : ltM a c:=by rw [ltM_iff] at *; omega
theorem ltM_irrefl (a : MoveM) : ¬ ltM a a:=by rw [ltM_iff]; omega
theorem ltM_total (a b : MoveM) : ltM a b∨a=b∨ltM b a:=by
 rw [ltM_iff,ltM_iff]
 by_cases h : a=b
 ·exact .inr (.inl h)
 ·have : ¬ (a.src=b.src∧a.dst=b.dst∧a.piece=b.piece):=fun ⟨x,y,z⟩ => h (moveM_ext x y z)
  omega
theorem mem_insM {m x : MoveM} {l : List MoveM} : x ∈ insM m l ↔ x=m∨x ∈ l:=by
 induction l with
 | nil => simp [insM]
 | cons y l ih =>
  unfold insM
  split
  ·simp
  ·split
   ·rename_i h; subst h; simp
   ·simp only [List.mem_cons,ih]
    constructor
    ·rintro (h | h | h) <;> simp [h]
    ·rintro (h | h | h) <;> simp [h]
theorem mem_listOf {x : MoveM} {l : List MoveM} : x ∈ listOf l ↔ x ∈ l:=by
 induction l with
 | nil => simp [listOf]
 | cons y l ih =>
  show x ∈ insM y (listOf l) ↔ _
  rw [mem_insM,ih,List.mem_cons]
def Strict (l : List MoveM) : Prop:=l.Pairwise ltM
theorem strict_insM {m : MoveM} {l : List MoveM} (h : Strict l) : Strict (insM m l):=by
 induction l with
 | nil => simp [insM,Strict]
 | cons y l ih =>
  have h':=List.pairwise_cons.1 h
  unfold insM
  split
  ·rename_i hlt
   refine List.pairwise_cons.2 ⟨fun z hz => ?_,h⟩
   rcases List.mem_cons.1 hz with rfl | hz
   ·exact hlt
   ·exact ltM_trans hlt (h'.1 z hz)
  ·split
   ·exact h
   ·rename_i h1 h2
    refine List.pairwise_cons.2 ⟨fun z hz => ?_,ih h'.2⟩
    rcases mem_insM.1 hz with rfl | hz
    ·rcases ltM_total z y with h3 | h3 | h3
     ·exact absurd h3 h1
     ·exact absurd h3 h2
     ·exact h3
    ·exact h'.1 z hz
theorem strict_listOf (l : List MoveM) : Strict (listOf l):=by
 induction l with
 | nil => exact List.Pairwise.nil
 | cons y l ih => exact strict_insM ih
theorem strict_ext {l l' : List MoveM} (h : Strict l) (h' : Strict l') (hm : ∀ x,x ∈ l ↔ x ∈ l') : l=l':=by
 induction l generalizing l' with
 | nil =>
  cases l' with
  | nil => rfl
  | cons y l' => exact absurd ((hm y).2 (by simp)) (by simp)
 | cons x l ih =>
  cases l' with
  | nil => exact absurd ((hm x).1 (by simp)) (by simp)
  | cons y l' =>
   have a:=List.pairwise_cons.1 h
   have b:=List.pairwise_cons.1 h'
   have hxy : x=y:=by
    rcases List.mem_cons.1 ((hm x).1 (by simp)) with e | e
    ·exact e
    ·rcases List.mem_cons.1 ((hm y).2 (by simp)) with e2 | e2
     ·exact e2.symm
     ·exact absurd (ltM_trans (b.1 x e) (a.1 y e2)) (ltM_irrefl y)
   subst hxy
   congr 1
   refine ih a.2 b.2 (fun z => ?_)
   constructor
   ·intro hz
    rcases List.mem_cons.1 ((hm z).1 (by simp [hz])) with e | e
    ·exact absurd (e ▸ a.1 z hz) (ltM_irrefl _)
    ·exact e
   ·intro hz
    rcases List.mem_cons.1 ((hm z).2 (by simp [hz])) with e | e
    ·exact absurd (e ▸ b.1 z hz) (ltM_irrefl _)
    ·exact e
def dedup : List MoveM→List MoveM
 | [] => []
 | [x] => [x]
 | x :: y :: l => if x=y then dedup (y :: l) else x :: dedup (y :: l)
theorem mem_dedup {x : MoveM} : ∀ {l : List MoveM},x ∈ dedup l ↔ x ∈ l
 | [] => by simp [dedup]
 | [y] => by simp [dedup]
 | y :: z :: l => by
  unfold dedup
  have ih:=mem_dedup (x:=x) (l:=z :: l)
  split
  ·rename_i h
   subst h
   rw [ih]
   simp
  ·simp only [List.mem_cons,ih]
theorem strict_dedup : ∀ {l : List MoveM},l.Pairwise (fun a b => ¬ ltM b a)→Strict (dedup l)
 | [],_ => List.Pairwise.nil
 | [y],_ => by simp [dedup,Strict]
 | y :: z :: l,h => by
  have a:=List.pairwise_cons.1 h
  have ih:=strict_dedup a.2
  unfold dedup
  split
  ·exact ih
  ·rename_i hne
   refine List.pairwise_cons.2 ⟨fun u hu => ?_,ih⟩
   have hu':=mem_dedup.1 hu
   rcases ltM_total y u with k | k | k
   ·exact k
   ·subst k
    rcases List.mem_cons.1 hu' with e | e
    ·exact absurd e hne
    ·have b:=List.pairwise_cons.1 a.2
     rcases ltM_total y z with k1 | k1 | k1
     ·exact absurd k1 (b.1 y e)
     ·exact absurd k1 hne
     ·exact absurd k1 (a.1 z (by simp))
   ·exact absurd k (a.1 u hu')
theorem listOf_eq {l l' : List MoveM} (h : ∀ x,x ∈ l' ↔ x ∈ l) (hs : l'.Pairwise (fun a b => ¬ ltM b a)) : dedup l'=listOf l :=
 strict_ext (strict_dedup hs) (strict_listOf l) (fun x => by rw [mem_dedup,mem_listOf,h])
def setHand (h : List Int) (k : Nat) (f : Int→Int) : List Int:=h.set k (f (h.getD k 0))
def minI (a b : Int) : Int:=if a≤b then a else b
def makeM (R : RulesM) (P : PosM) (m : MoveM) : PosM :=
 let took:=P.cells.getD m.dst.toNat 0
 let c1:=if 0≤m.src then P.cells.set m.src.toNat 0 else P.cells
 let h1:=if 0≤m.src then P.hand else setHand P.hand m.piece.toNat (· - 1)
 let c2:=c1.set m.dst.toNat (2 * m.piece + P.turn + 1)
 let h2:=if 0 < took∧R.keeps=true then setHand h1 ((took - 1) / 2).toNat (fun x => minI (x + 1) 1000) else h1
 let q:=if 0 < took∨m.src < 0 then 0 else minI (P.quiet + 1) 200
 { cells:=c2,hand0:=if P.turn=0 then h2 else P.hand0,hand1:=if P.turn=0 then P.hand1 else h2,turn:=1 - P.turn,quiet:=q }
end Go.Proofs.YtdoibgmmijhlfaaGreat
namespace Go.Proofs.YtdoibgmmijhlfaaGreat
open Go.RowKit
theorem blks1 (w : World) (c1 : Array Value) (t1 : TypeId) : Ext w (w.alloc (.cells c1 t1))∧Blk (w.alloc (.cells c1 t1)) w.heap.size t1 c1:=⟨ext_alloc (Below.refl _ _) _,Blk.new _ _ _⟩
theorem blks2 (w : World) (c1 : Array Value) (t1 : TypeId) (c2 : Array Value) (t2 : TypeId) :
  Ext w ((w.alloc (.cells c1 t1)).alloc (.cells c2 t2))∧Blk ((w.alloc (.cells c1 t1)).alloc (.cells c2 t2)) w.heap.size t1 c1∧Blk ((w.alloc (.cells c1 t1)).alloc (.cells c2 t2)) (w.heap.size + 1) t2 c2:=by
 have h:=Blk.new (w.alloc (.cells c1 t1)) t2 c2
 rw [show (w.alloc (.cells c1 t1)).heap.size=w.heap.size + 1 from by simp] at h
 exact ⟨ext_alloc (ext_alloc (Below.refl _ _) _) _,(Blk.new w t1 c1).alloc _,h⟩
theorem blks3 (w : World) (c1 : Array Value) (t1 : TypeId) (c2 : Array Value) (t2 : TypeId) (c3 : Array Value) (t3 : TypeId) :
  Ext w (((w.alloc (.cells c1 t1)).alloc (.cells c2 t2)).alloc (.cells c3 t3))∧Blk (((w.alloc (.cells c1 t1)).alloc (.cells c2 t2)).alloc (.cells c3 t3)) w.heap.size t1 c1 ∧
   Blk (((w.alloc (.cells c1 t1)).alloc (.cells c2 t2)).alloc (.cells c3 t3)) (w.heap.size + 1) t2 c2∧Blk (((w.alloc (.cells c1 t1)).alloc (.cells c2 t2)).alloc (.cells c3 t3)) (w.heap.size + 1 + 1) t3 c3:=by
 obtain ⟨h1,h2,h3⟩:=blks2 w c1 t1 c2 t2
 have h:=Blk.new ((w.alloc (.cells c1 t1)).alloc (.cells c2 t2)) t3 c3
 rw [show ((w.alloc (.cells c1 t1)).alloc (.cells c2 t2)).heap.size=w.heap.size + 1 + 1 from by simp] at h
 exact ⟨ext_alloc h1 _,h2.alloc _,h3.alloc _,h⟩
end Go.Proofs.YtdoibgmmijhlfaaGreat
namespace Go.Proofs.YtdoibgmmijhlfaaGreat
open Go
def openB (D : List Nat) (listed : Array Bool) : Bool:=D.all fun d => !listed.getD d true
theorem openB_set {D : List Nat} {i : Nat} (h : D.contains i=false) (listed : Array Bool) : openB D (listed.setIfInBounds i true)=openB D listed:=by
 unfold openB
 apply Bool.eq_iff_iff.2
 simp only [List.all_eq_true]
 have hne : ∀ d ∈ D,i ≠ d:=fun d hd e => by subst e; simp [hd] at h
 exact ⟨fun k d hd => by rw [← getD_set_ne true (hne d hd)]; exact k d hd,fun k d hd => by rw [getD_set_ne true (hne d hd)]; exact k d hd⟩
section
variable {P : Program} {ops : Array Oper} {Q : Exit→Act→World→Prop} {md : Region.Mode} {T S : World→Prop} {D : List Nat}
def AnyK (P : Program) (md : Region.Mode) (ops : Array Oper) (Q : Exit→Act→World→Prop) (T S : World→Prop) (D : List Nat) : Nat→Array Bool→Act→World→Prop
 | 0,listed,a,w => Region.ready md ops listed=[]∧Q .normal a w
 | fuel + 1,listed,a,w =>
  (Region.ready md ops listed=[]→Q .normal a w) ∧
  ∀ i ∈ Region.ready md ops listed,wpOp P ops Q i (fun a' w' => (T w'∧(openB D (listed.setIfInBounds i true)=true→S w'))∧AnyK P md ops Q T S D fuel (listed.setIfInBounds i true) a' w') a w
theorem any_of_anyK : ∀ (fuel : Nat) (listed : Array Bool) (a : Act) (w : World),AnyK P md ops Q T S D fuel listed a w→wpAny P md ops Q fuel listed a w
 | 0,_,_,_,h => h
 | fuel + 1,_,_,_,h => ⟨h.1,fun i hi => wpOp_mono (fun a' w' h' => any_of_anyK fuel _ a' w' h'.2) (h.2 i hi)⟩
def waitsB (md : Region.Mode) (ops : Array Oper) (D : List Nat) (i : Nat) : Bool :=
 D.all fun d => match ops[d]? with
  | none => true
  | some o => o.after.any fun e => Region.binds md e && e.on == i
theorem waits_not {i j : Nat} {listed : Array Bool} (h : waitsB md ops D i=true) (hj : j ∈ Region.ready md ops listed) (hi : listed.getD i true=false) : D.contains j=false:=by
 cases hc : D.contains j
 ·rfl
 ·exfalso
  have hm : j ∈ D:=by simpa using hc
  obtain ⟨_,o,ho,hall⟩:=mem_ready.1 hj
  have h1:=List.all_eq_true.1 h j hm
  simp only [ho] at h1
  obtain ⟨e,he,hb⟩:=Array.any_eq_true'.1 h1
  simp only [Bool.and_eq_true,beq_iff_eq] at hb
  have h2:=hall e he hb.1
  rw [hb.2] at h2
  rcases Nat.lt_or_ge i listed.size with h' | h'
  ·simp [h'] at hi h2; rw [hi] at h2; cases h2
  ·simp [Array.getElem?_eq_none h'] at hi
theorem anyK_first {i : Nat} {oi : Oper} {v : Value} (s : Bool) (hi : ops[i]? = some oi) (hsel : ∀ (j : Nat) (o : Oper) cs b,ops[j]? = some o→o.op ≠ .select cs b)
  (hQ : ∀ c a w,Q (.panic c) (a.put oi.dst v) w→Q (.panic c) a w) (hiD : D.contains i=false) (hW : s=true→waitsB md ops D i=true) :
  ∀ (fuel : Nat) (listed : Array Bool) (a : Act) (w : World),
   (∀ j oj,ops[j]? = some oj→j ≠ i→listed.getD j true=false→(∀ e ∈ oj.after,Region.binds md e=true→e.on ≠ i)→oi.apart ops oj=true) →
   i ∈ Region.ready md ops listed→YieldsIf P ops (fun w => T w∧(s=true→S w)) oi v a→(T w∧(s=true→S w))→(T w∧(openB D listed=true→S w))→(s=true→openB D listed=true) →
   AnyK P md ops Q T S D fuel (listed.setIfInBounds i true) (a.put oi.dst v) w→AnyK P md ops Q T S D (fuel + 1) listed a w:=by
 intro fuel
 induction fuel with
 | zero =>
  intro listed a w _ hr hy hU hTS hC H
  refine ⟨fun h => (by rw [h] at hr; cases hr),fun j hj => ?_⟩
  by_cases hji : j=i
  ·subst hji
   refine YieldsIf.wpOp (S:=fun w => T w∧(s=true→S w)) hi hy hU ⟨⟨hTS.1,?_⟩,H⟩
   rw [openB_set hiD]
   exact hTS.2
  ·have:=ready_mono hj hji
   rw [H.1] at this
   cases this
 | succ fuel ih =>
  intro listed a w hfree hr hy hU hTS hC H
  refine ⟨fun h => (by rw [h] at hr; cases hr),fun j hj => ?_⟩
  by_cases hji : j=i
  ·subst hji
   refine YieldsIf.wpOp (S:=fun w => T w∧(s=true→S w)) hi hy hU ⟨⟨hTS.1,?_⟩,H⟩
   rw [openB_set hiD]
   exact hTS.2
  ·have h1:=H.2 j (ready_mono hj hji)
   have hi0:=(mem_ready.1 hr).1
   have hjD : s=true→D.contains j=false:=fun h => waits_not (hW h) hj hi0
   obtain ⟨hjun,oj,hoj,hall⟩:=mem_ready.1 hj
   have hnot : ∀ e ∈ oj.after,Region.binds md e=true→e.on ≠ i:=fun e he hb heq => by
    have h1:=hall e he hb
    rw [heq] at h1
    rcases Nat.lt_or_ge i listed.size with h' | h'
    ·simp [h'] at hi0 h1; rw [hi0] at h1; cases h1
    ·simp [Array.getElem?_eq_none h'] at h1
   have h2:=wpOp_putIf hoj (hfree j oj hoj hji hjun hnot) (fun cs b => hsel i oi cs b hi) (fun cs b => hsel j oj cs b hoj) hQ hy h1
   have hfree' : ∀ k ok,ops[k]? = some ok→k ≠ i→(listed.setIfInBounds j true).getD k true=false →
     (∀ e ∈ ok.after,Region.binds md e=true→e.on ≠ i)→oi.apart ops ok=true:=fun k ok hk hki hun hno => by
    refine hfree k ok hk hki ?_ hno
    by_cases hjk : j=k
    ·subst hjk; exact hjun
    ·rw [getD_set_ne true hjk] at hun; exact hun
   have hcm : (listed.setIfInBounds i true).setIfInBounds j true=(listed.setIfInBounds j true).setIfInBounds i true:=Array.setIfInBounds_comm _ _ (Ne.symm hji)
   refine wpOp_mono (fun a' w' h3 => ?_) h2
   obtain ⟨g1,⟨g2,g3⟩,g4⟩:=h3
   rw [hcm] at g3 g4
   rw [openB_set hiD] at g3
   have hC' : s=true→openB D (listed.setIfInBounds j true)=true:=fun h => by rw [openB_set (hjD h)]; exact hC h
   exact ⟨⟨g2,g3⟩,ih (listed.setIfInBounds j true) a' w' hfree' (ready_mono hr (Ne.symm hji)) g1 ⟨g2,fun h => g3 (hC' h)⟩ ⟨g2,g3⟩ hC' g4⟩
theorem anyK_take (i : Nat) {oi : Oper} {v : Value} {fuel : Nat} {listed : Array Bool} {a : Act} {w : World} (hi : ops[i]? = some oi)
  (hs : Region.noSelect ops=true) (hf : Region.free md ops listed i=true) (hr : (Region.ready md ops listed).contains i=true) (hiD : D.contains i=false)
  (hQ : ∀ c a w,Q (.panic c) (a.put oi.dst v) w→Q (.panic c) a w) (hw : Region.wanted oi (yielded ops a.tmps)=true) (hT : T w) (hS : openB D listed=true→S w) (hy : ∀ w,T w→(execOp a.eval oi).run P w=.ok (.value v) w)
  (h : AnyK P md ops Q T S D fuel (listed.setIfInBounds i true) (a.put oi.dst v) w) : AnyK P md ops Q T S D (fuel + 1) listed a w :=
 anyK_first false hi (Region.noSelect_spec hs) hQ hiD (fun h => by cases h) fuel listed a w (Region.free_spec hi hf) (by simpa using hr) (.inl ⟨hw,fun w h => hy w h.1⟩) ⟨hT,fun h => by cases h⟩ ⟨hT,hS⟩ (fun h => by cases h) h
theorem anyK_on {fuel : Nat} {listed : Array Bool} {a : Act} {w : World} (rs : List Nat) (hr : Region.ready md ops listed=rs) (hne : rs ≠ [])
  (h : ∀ i ∈ rs,wpOp P ops Q i (fun a' w' => (T w'∧(openB D (listed.setIfInBounds i true)=true→S w'))∧AnyK P md ops Q T S D fuel (listed.setIfInBounds i true) a' w') a w) : AnyK P md ops Q T S D (fuel + 1) listed a w :=
 ⟨fun h0 => absurd (hr ▸ h0) hne,hr ▸ h⟩
theorem anyK_on1 {fuel : Nat} {listed : Array Bool} {a : Act} {w : World} (i : Nat) (hr : Region.ready md ops listed=[i])
  (h : wpOp P ops Q i (fun a' w' => (T w'∧(openB D (listed.setIfInBounds i true)=true→S w'))∧AnyK P md ops Q T S D fuel (listed.setIfInBounds i true) a' w') a w) : AnyK P md ops Q T S D (fuel + 1) listed a w :=
 anyK_on [i] hr (by simp) (fun j hj => by
  obtain rfl : j=i:=by simpa using hj
  exact h)
theorem anyK_on2 {fuel : Nat} {listed : Array Bool} {a : Act} {w : World} (i j : Nat) (hr : Region.ready md ops listed=[i,j])
  (h : wpOp P ops Q i (fun a' w' => (T w'∧(openB D (listed.setIfInBounds i true)=true→S w'))∧AnyK P md ops Q T S D fuel (listed.setIfInBounds i true) a' w') a w)
  (h2 : wpOp P ops Q j (fun a' w' => (T w'∧(openB D (listed.setIfInBounds j true)=true→S w'))∧AnyK P md ops Q T S D fuel (listed.setIfInBounds j true) a' w') a w) : AnyK P md ops Q T S D (fuel + 1) listed a w :=
 anyK_on [i,j] hr (by simp) (fun k hk => by
  rcases List.mem_cons.1 hk with rfl | hk
  ·exact h
  ·obtain rfl : k=j:=by simpa using hk
   exact h2)
theorem anyK_one {fuel : Nat} {listed : Array Bool} {a : Act} {w : World} (i : Nat) {o : Oper} (ho : ops[i]? = some o)
  (h : ∀ K' : Act→World→Prop,Shut (∀ a w,T w→(openB D (listed.setIfInBounds i true)=true→S w)→AnyK P md ops Q T S D fuel (listed.setIfInBounds i true) a w→K' a w)→if Region.wanted o (yielded ops a.tmps)=true then Oper.wp P o a w K' Q else K' (a.put o.dst undef) w) :
  wpOp P ops Q i (fun a' w' => (T w'∧(openB D (listed.setIfInBounds i true)=true→S w'))∧AnyK P md ops Q T S D fuel (listed.setIfInBounds i true) a' w') a w :=
 wpOp_step ho (fun K' hK => h K' (fun a w hT hS hW => hK a w ⟨⟨hT,hS⟩,hW⟩))
theorem anyK_done {listed : Array Bool} {a : Act} {w : World} (hr : Region.ready md ops listed=[]) (h : Q .normal a w) : ∀ fuel,AnyK P md ops Q T S D fuel listed a w
 | 0 => ⟨hr,h⟩
 | _ + 1 => ⟨fun _ => h,by rw [hr]; simp⟩
theorem region_K {id : Nat} {a : Act} {w : World} (T S : World→Prop) (D : List Nat) (hm : P.follows .mixedOrders=true)
  (h : AnyK P .any ops Q T S D ops.size (Array.replicate ops.size false) a w.drew) : (Code.region id ops true).wp P Q a w :=
 wp_region_any hm (any_of_anyK _ _ _ _ h)
end
end Go.Proofs.YtdoibgmmijhlfaaGreat
namespace Go.Proofs.YtdoibgmmijhlfaaGreat
open Go
section
variable {P : Program} {Q : Exit→Act→World→Prop} {md : Region.Mode} {T S : World→Prop} {D : List Nat}
theorem tk (i : Nat) {l : List Oper} {oi : Oper} {v : Value} {fuel : Nat} {listed : Array Bool} {a a' : Act} {w : World} (hT : T w) (hS : openB D listed=true→S w)
  (h : AnyK P md l.toArray Q T S D fuel (listed.setIfInBounds i true) a' w) (hi : l[i]? = some oi:=by rfl)
  (hy : ∀ w,T w→(execOp a.eval oi).run P w=.ok (.value v) w:=by intro W hW; go_simp; first | done | with_reducible rfl)
  (hp : a.put oi.dst v=a':=by first | (simp only [Act.put,List.setIfInBounds_toArray,List.set_cons_zero,List.set_cons_succ]; done) | (simp only [Act.put,List.setIfInBounds_toArray,List.set_cons_zero,List.set_cons_succ]; rfl) | rfl)
  (hs : Region.noSelect l.toArray=true:=by kernel_rfl) (hf : Region.free md l.toArray listed i=true:=by kernel_rfl) (hr : (Region.ready md l.toArray listed).contains i=true:=by kernel_rfl) (hiD : D.contains i=false:=by kernel_rfl)
  (hQ : ∀ c a w,Q (.panic c) (a.put oi.dst v) w→Q (.panic c) a w:=by exact fun _ _ _ h => h) (hw : Region.wanted oi (yielded l.toArray a.tmps)=true:=by rfl) : AnyK P md l.toArray Q T S D (fuel + 1) listed a w :=
 anyK_take i (by simpa using hi) hs hf hr hiD hQ hw hT hS hy (hp ▸ h)
theorem tl (i : Nat) {l : List Oper} {oi : Oper} {v : Value} {fuel : Nat} {listed : Array Bool} {a a' : Act} {w : World} (hT : T w) (hS : openB D listed=true→S w)
  (hy : ∀ w,T w→(execOp a.eval oi).run P w=.ok (.value v) w) (h : AnyK P md l.toArray Q T S D fuel (listed.setIfInBounds i true) a' w) (hi : l[i]? = some oi:=by rfl)
  (hp : a.put oi.dst v=a':=by first | (simp only [Act.put,List.setIfInBounds_toArray,List.set_cons_zero,List.set_cons_succ]; done) | (simp only [Act.put,List.setIfInBounds_toArray,List.set_cons_zero,List.set_cons_succ]; rfl) | rfl)
  (hs : Region.noSelect l.toArray=true:=by kernel_rfl) (hf : Region.free md l.toArray listed i=true:=by kernel_rfl) (hr : (Region.ready md l.toArray listed).contains i=true:=by kernel_rfl) (hiD : D.contains i=false:=by kernel_rfl)
  (hQ : ∀ c a w,Q (.panic c) (a.put oi.dst v) w→Q (.panic c) a w:=by exact fun _ _ _ h => h) (hw : Region.wanted oi (yielded l.toArray a.tmps)=true:=by rfl) : AnyK P md l.toArray Q T S D (fuel + 1) listed a w :=
 anyK_take i (by simpa using hi) hs hf hr hiD hQ hw hT hS hy (hp ▸ h)
theorem tw {l : List Oper} {fuel : Nat} {listed : Array Bool} {a : Act} {w : World} (i : Nat) {o : Oper}
  (h : ∀ K' : Act→World→Prop,Shut (∀ a w,T w→(openB D (listed.setIfInBounds i true)=true→S w)→AnyK P md l.toArray Q T S D fuel (listed.setIfInBounds i true) a w→K' a w)→if Region.wanted o (yielded l.toArray a.tmps)=true then Oper.wp P o a w K' Q else K' (a.put o.dst undef) w) (ho : l[i]? = some o:=by rfl) :
  wpOp P l.toArray Q i (fun a' w' => (T w'∧(openB D (listed.setIfInBounds i true)=true→S w'))∧AnyK P md l.toArray Q T S D fuel (listed.setIfInBounds i true) a' w') a w :=
 anyK_one i (by simpa using ho) h
end
end Go.Proofs.YtdoibgmmijhlfaaGreat
