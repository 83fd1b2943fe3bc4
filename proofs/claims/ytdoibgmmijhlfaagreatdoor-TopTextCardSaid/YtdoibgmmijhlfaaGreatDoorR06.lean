/- PlaceCopy Near RulesW5 -/
import Derived.Test.YtdoibgmmijhlfaaGreatDoorR01
import Derived.Deep.RegionWith
import Derived.Deep.DrawnRows
import Derived.Laws.ResultCell
namespace Go.Proofs.YtdoibgmmijhlfaaGreatDoor
open Go.ChangeShapes Go.WideShapes Go.ChangeAt Go.RowKit
set_option linter.unusedVariables false
attribute [local go_sem ↓] Go.wp_at_zero Go.wp_at_succ
set_option maxHeartbeats 1000000 in
set_option maxRecDepth 100000 in
theorem PCopy_any (P : PosM) (v : Value) (w : World) (hP : PosAt w v P) (h0 : 1≤P.cells.length) (h1 : 1≤P.hand0.length) (h2 : 1≤P.hand1.length) (b0 : P.cells.length≤100000) (b1 : P.hand0.length≤100000) (b2 : P.hand1.length≤100000) :
  Calls Tryz.prog 44 #[v] w fun e w' => ∃ v',e=.returned v'∧PosOwn w' w.heap.size v' P∧Ext w w':=by
 obtain ⟨cA,cc,aA,ac,bA,bc,rfl,hcA,haA,hbA,-⟩:=hP
 have nn : ∀ {A : Option Addr} {zs : List Int},IntsAt w A zs→1≤zs.length→A=none→zs.length=0:=fun hz h1 e => by
  obtain ⟨_,_,e2,_⟩:=hz 0 (by omega)
  rw [e] at e2; cases e2
 have C0:=hide (fun W (hW : Ext w W) => cloneInts_any cA P.cells.length cc P.cells W rfl (by omega) (nn hcA h0) (hcA.ext hW))
 have C1:=hide (fun W (hW : Ext w W) => cloneInts_any aA P.hand0.length ac P.hand0 W rfl (by omega) (nn haA h1) (haA.ext hW))
 have C2:=hide (fun W (hW : Ext w W) => cloneInts_any bA P.hand1.length bc P.hand1 W rfl (by omega) (nn hbA h2) (hbA.ext hW))
 have H0:=hide h0
 have H1:=hide h1
 have H2:=hide h2
 clear hcA haA hbA nn h0 h1 h2 b0 b1 b2
 go_enter Tryz.func44,Tryz.ntmps44
 go_wp2_with fail
 obtain ⟨x1,k1,k2⟩:=blks2 w #[.slice cA P.cells.length cc,.slice aA P.hand0.length ac,.slice bA P.hand1.length bc,.int .i64 P.turn,.int .i64 P.quiet] 43 #[.slice none 0 0,.slice none 0 0,.slice none 0 0,.int .i64 0,.int .i64 0] 43
 refine (C0.out _ x1).mono ?_
 rintro e w2 ⟨A0,c0,rfl,own0,x2⟩
 obtain ⟨g0,rfl,q0,r0,m0⟩:=own_irow own0 rfl H0.out
 have y2:=ext_trans x1 x2
 have l1:=k1.ext x2
 have l2:=k2.ext x2
 have hs : w.heap.size + 1 + 1≤g0:=by simpa using q0
 clear x1 x2 k1 k2 own0 q0 C0
 have hB : w.heap.size≤w.heap.size:=Nat.le_refl _
 generalize hB2 : w.heap.size + 1=B2 at *
 generalize hB1 : w.heap.size=B1 at *
 have HB1:=hide hB1
 have HB2:=hide hB2
 clear hB1 hB2 hB
 have f1:=l1.cell
 have z1:=l1.frozen
 have hle : w.heap.size≤B1:=by rw [HB1.out]; exact Nat.le_refl _
 have hne : B2 ≠ B1:=by have:=HB2.out; omega
 have hg0 : B2 < g0:=by omega
 have hle2 : w.heap.size≤B2:=by have:=HB2.out; omega
 go_wp2
 have k3:=blk_put l1 (i:=0) (u:=.slice (some ⟨g0,0,none⟩) P.cells.length c0) rfl
 have l3:=l2.far (p:=⟨B1,0,none⟩) hne (.slice (some ⟨g0,0,none⟩) P.cells.length c0)
 have s3:=r0.far (p:=⟨B1,0,none⟩) (by show g0 ≠ B1; have:=HB2.out; omega) (.slice (some ⟨g0,0,none⟩) P.cells.length c0)
 have y3:=ext_set y2 (p:=⟨B1,0,none⟩) hle (.slice (some ⟨g0,0,none⟩) P.cells.length c0)
 clear f1 z1 l1 l2 r0 y2
 generalize w2.setCell ⟨B1,0,none⟩ (.slice (some ⟨g0,0,none⟩) P.cells.length c0)=w3 at *
 have k3d:=k3.drew
 have l3d:=l3.drew
 have s3d:=s3.drew
 have y3d : Ext w w3.drew:=Below.drew y3
 have f3:=k3d.cell
 clear k3 l3 s3 y3
 have HG:=hide hg0
 have HL:=hide hle
 have HL2:=hide hle2
 have HN:=hide hne
 clear hg0 hle hle2 hne hs
 go_region_with (first
  | (go_at_call 68; refine (C2.out _ y4).mono ?_; rintro e w5 ⟨A2,c2,rfl,own2,x5⟩; have z5:=(k4.ext x5).frozen; have f5:=(k4.ext x5).cell)
  | (go_at_call 68; refine (C1.out _ y3d).mono ?_; rintro e w4 ⟨A1,c1,rfl,own1,x4⟩; have y4:=ext_trans y3d x4; have k4:=k3d.ext x4; have f4:=k4.cell))
 all_goals
  have y5:=ext_trans y4 x5
  obtain ⟨g1,rfl,q1,r1,m1⟩:=own_irow own1 rfl H1.out
  obtain ⟨g2,rfl,q2,r2,m2⟩:=own_irow own2 rfl H2.out
  have q1' : g0 < g1:=Nat.lt_of_lt_of_le s3d.lt q1
  have q2' : g1 < g2:=Nat.lt_of_lt_of_le r1.lt q2
  have R0:=(s3d.ext x4).ext x5
  have R1:=r1.ext x5
  have K5:=k4.ext x5
  have L5:=(l3d.ext x4).ext x5
  have hn : ¬ B1=B2:=fun h => HN.out h.symm
  have zl:=L5.frozen
  have zc:=L5.cell
  clear own1 own2 q1 q2 f3 f4 x4 x5 y4 k4 r1 s3d y3d k3d l3d C1 C2
  go_wp2
  have hne1 : ∀ g,g0≤g→g ≠ B1∧g ≠ B2:=fun g hg => by have:=HG.out; have:=HB2.out; omega
  have K6:=blk_set5 (((L5.far (p:=⟨B1,1,none⟩) HN.out (.slice (some ⟨g1,0,none⟩) P.hand0.length c1)).far (p:=⟨B1,2,none⟩) HN.out (.slice (some ⟨g2,0,none⟩) P.hand1.length c2))) (u0:=.slice (some ⟨g0,0,none⟩) P.cells.length c0) (u1:=.slice (some ⟨g1,0,none⟩) P.hand0.length c1) (u2:=.slice (some ⟨g2,0,none⟩) P.hand1.length c2) (u3:=.int .i64 P.turn) (u4:=.int .i64 P.quiet)
  have X6:=(ext_set (ext_set (ext_set (ext_set (ext_set (ext_set (ext_set y5 (p:=⟨B1,1,none⟩) HL.out (.slice (some ⟨g1,0,none⟩) P.hand0.length c1)) (p:=⟨B1,2,none⟩) HL.out (.slice (some ⟨g2,0,none⟩) P.hand1.length c2)) (p:=⟨B2,0,none⟩) HL2.out (.slice (some ⟨g0,0,none⟩) P.cells.length c0)) (p:=⟨B2,1,none⟩) HL2.out (.slice (some ⟨g1,0,none⟩) P.hand0.length c1)) (p:=⟨B2,2,none⟩) HL2.out (.slice (some ⟨g2,0,none⟩) P.hand1.length c2)) (p:=⟨B2,3,none⟩) HL2.out (.int .i64 P.turn)) (p:=⟨B2,4,none⟩) HL2.out (.int .i64 P.quiet))
  have E0:=(IRow.far (IRow.far (IRow.far (IRow.far (IRow.far (IRow.far (IRow.far R0 (p:=⟨B1,1,none⟩) (hne1 g0 (by omega)).1 (.slice (some ⟨g1,0,none⟩) P.hand0.length c1)) (p:=⟨B1,2,none⟩) (hne1 g0 (by omega)).1 (.slice (some ⟨g2,0,none⟩) P.hand1.length c2)) (p:=⟨B2,0,none⟩) (hne1 g0 (by omega)).2 (.slice (some ⟨g0,0,none⟩) P.cells.length c0)) (p:=⟨B2,1,none⟩) (hne1 g0 (by omega)).2 (.slice (some ⟨g1,0,none⟩) P.hand0.length c1)) (p:=⟨B2,2,none⟩) (hne1 g0 (by omega)).2 (.slice (some ⟨g2,0,none⟩) P.hand1.length c2)) (p:=⟨B2,3,none⟩) (hne1 g0 (by omega)).2 (.int .i64 P.turn)) (p:=⟨B2,4,none⟩) (hne1 g0 (by omega)).2 (.int .i64 P.quiet))
  have E1:=(IRow.far (IRow.far (IRow.far (IRow.far (IRow.far (IRow.far (IRow.far R1 (p:=⟨B1,1,none⟩) (hne1 g1 (by omega)).1 (.slice (some ⟨g1,0,none⟩) P.hand0.length c1)) (p:=⟨B1,2,none⟩) (hne1 g1 (by omega)).1 (.slice (some ⟨g2,0,none⟩) P.hand1.length c2)) (p:=⟨B2,0,none⟩) (hne1 g1 (by omega)).2 (.slice (some ⟨g0,0,none⟩) P.cells.length c0)) (p:=⟨B2,1,none⟩) (hne1 g1 (by omega)).2 (.slice (some ⟨g1,0,none⟩) P.hand0.length c1)) (p:=⟨B2,2,none⟩) (hne1 g1 (by omega)).2 (.slice (some ⟨g2,0,none⟩) P.hand1.length c2)) (p:=⟨B2,3,none⟩) (hne1 g1 (by omega)).2 (.int .i64 P.turn)) (p:=⟨B2,4,none⟩) (hne1 g1 (by omega)).2 (.int .i64 P.quiet))
  have E2:=(IRow.far (IRow.far (IRow.far (IRow.far (IRow.far (IRow.far (IRow.far r2 (p:=⟨B1,1,none⟩) (hne1 g2 (by omega)).1 (.slice (some ⟨g1,0,none⟩) P.hand0.length c1)) (p:=⟨B1,2,none⟩) (hne1 g2 (by omega)).1 (.slice (some ⟨g2,0,none⟩) P.hand1.length c2)) (p:=⟨B2,0,none⟩) (hne1 g2 (by omega)).2 (.slice (some ⟨g0,0,none⟩) P.cells.length c0)) (p:=⟨B2,1,none⟩) (hne1 g2 (by omega)).2 (.slice (some ⟨g1,0,none⟩) P.hand0.length c1)) (p:=⟨B2,2,none⟩) (hne1 g2 (by omega)).2 (.slice (some ⟨g2,0,none⟩) P.hand1.length c2)) (p:=⟨B2,3,none⟩) (hne1 g2 (by omega)).2 (.int .i64 P.turn)) (p:=⟨B2,4,none⟩) (hne1 g2 (by omega)).2 (.int .i64 P.quiet))
  clear K5 R0 R1 r2 y5 zl zc hne1 z5 f5
  generalize (((((((w5.setCell ⟨B1,1,none⟩ (.slice (some ⟨g1,0,none⟩) P.hand0.length c1)).setCell ⟨B1,2,none⟩ (.slice (some ⟨g2,0,none⟩) P.hand1.length c2)).setCell ⟨B2,0,none⟩ (.slice (some ⟨g0,0,none⟩) P.cells.length c0)).setCell ⟨B2,1,none⟩ (.slice (some ⟨g1,0,none⟩) P.hand0.length c1)).setCell ⟨B2,2,none⟩ (.slice (some ⟨g2,0,none⟩) P.hand1.length c2)).setCell ⟨B2,3,none⟩ (.int .i64 P.turn)).setCell ⟨B2,4,none⟩ (.int .i64 P.quiet))=Wf at *
  have rr0 : Wf.cell? ⟨B2,0,none⟩=some (.slice (some ⟨g0,0,none⟩) P.cells.length c0):=K6.cell 0
  have rr1 : Wf.cell? ⟨B2,1,none⟩=some (.slice (some ⟨g1,0,none⟩) P.hand0.length c1):=K6.cell 1
  have rr2 : Wf.cell? ⟨B2,2,none⟩=some (.slice (some ⟨g2,0,none⟩) P.hand1.length c2):=K6.cell 2
  have rr3 : Wf.cell? ⟨B2,3,none⟩=some (.int .i64 P.turn):=K6.cell 3
  have rr4 : Wf.cell? ⟨B2,4,none⟩=some (.int .i64 P.quiet):=K6.cell 4
  refine bodyPost_ret (v:=.agg #[.slice (some ⟨g0,0,none⟩) P.cells.length c0,.slice (some ⟨g1,0,none⟩) P.hand0.length c1,.slice (some ⟨g2,0,none⟩) P.hand1.length c2,.int .i64 P.turn,.int .i64 P.quiet]) ?_ rfl ?_
  ·simp [results,Tryz.results44,go_sem,rr0,rr1,rr2,rr3,rr4]
  ·exact ⟨_,rfl,⟨g0,c0,g1,c1,g2,c2,rfl,by have:=HG.out; have:=HL2.out; omega,q1',q2',E0,E1,E2,m0,m1,m2⟩,X6⟩
end Go.Proofs.YtdoibgmmijhlfaaGreatDoor
namespace Go.Proofs.YtdoibgmmijhlfaaGreatDoor
open Go.ChangeShapes Go.WideShapes Go.ChangeAt Go.RowKit
set_option linter.unusedVariables false
theorem blks4 (w : World) (c1 : Array Value) (t1 : TypeId) (c2 : Array Value) (t2 : TypeId) (c3 : Array Value) (t3 : TypeId) (c4 : Array Value) (t4 : TypeId) :
  Ext w ((((w.alloc (.cells c1 t1)).alloc (.cells c2 t2)).alloc (.cells c3 t3)).alloc (.cells c4 t4))∧Blk ((((w.alloc (.cells c1 t1)).alloc (.cells c2 t2)).alloc (.cells c3 t3)).alloc (.cells c4 t4)) w.heap.size t1 c1 ∧
   Blk ((((w.alloc (.cells c1 t1)).alloc (.cells c2 t2)).alloc (.cells c3 t3)).alloc (.cells c4 t4)) (w.heap.size + 1) t2 c2∧Blk ((((w.alloc (.cells c1 t1)).alloc (.cells c2 t2)).alloc (.cells c3 t3)).alloc (.cells c4 t4)) (w.heap.size + 1 + 1) t3 c3 ∧
   Blk ((((w.alloc (.cells c1 t1)).alloc (.cells c2 t2)).alloc (.cells c3 t3)).alloc (.cells c4 t4)) (w.heap.size + 1 + 1 + 1) t4 c4:=by
 obtain ⟨h1,h2,h3,h4⟩:=blks3 w c1 t1 c2 t2 c3 t3
 have h:=Blk.new (((w.alloc (.cells c1 t1)).alloc (.cells c2 t2)).alloc (.cells c3 t3)) t4 c4
 rw [show (((w.alloc (.cells c1 t1)).alloc (.cells c2 t2)).alloc (.cells c3 t3)).heap.size=w.heap.size + 1 + 1 + 1 from by simp] at h
 exact ⟨ext_alloc h1 _,h2.alloc _,h3.alloc _,h4.alloc _,h⟩
theorem blk_irow {w : World} {g : Nat} {zs : List Int} (h : Blk w g 3 (zs.map (Value.int .i64)).toArray) : IRow w g zs:=⟨_,h,List.take_of_length_le (by simp)⟩
def nearP : PosM:={ cells:=[1,1,0,2,2,0,0,0,0],hand0:=[3],hand1:=[3],turn:=0,quiet:=0 }
theorem near_any (w : World) : Calls Tryz.prog 38 #[] w fun e w' => ∃ v,e=.returned v∧PosOwn w' w.heap.size v nearP∧Ext w w':=by
 go_enter Tryz.func38,Tryz.ntmps38
 go_wp2
 obtain ⟨x,k0,k1,k2,k3⟩:=blks4 w #[.slice (some ⟨w.heap.size + 1,0,none⟩) 9 9,.slice (some ⟨w.heap.size + 1 + 1,0,none⟩) 1 1,.slice (some ⟨w.heap.size + 1 + 1 + 1,0,none⟩) 1 1,.int .i64 0,.int .i64 0] 43 #[.int .i64 1,.int .i64 1,.int .i64 0,.int .i64 2,.int .i64 2,.int .i64 0,.int .i64 0,.int .i64 0,.int .i64 0] 3 #[.int .i64 3] 3 #[.int .i64 3] 3
 have f:=k0.cell
 refine bodyPost_ret (v:=.agg #[.slice (some ⟨w.heap.size + 1,0,none⟩) 9 9,.slice (some ⟨w.heap.size + 1 + 1,0,none⟩) 1 1,.slice (some ⟨w.heap.size + 1 + 1 + 1,0,none⟩) 1 1,.int .i64 0,.int .i64 0]) ?_ rfl ?_
 ·simp [results,Tryz.results38,go_sem,f]
 ·exact ⟨_,rfl,⟨_,9,_,1,_,1,rfl,by omega,by omega,by omega,blk_irow k1,blk_irow k2,blk_irow k3,by decide,by decide,by decide⟩,x⟩
end Go.Proofs.YtdoibgmmijhlfaaGreatDoor
namespace Go.Proofs.YtdoibgmmijhlfaaGreatDoor
open Go.ChangeShapes Go.WideShapes Go.ChangeAt Go.RowKit
set_option linter.unusedVariables false
theorem endE_get {n : Nat} {es : List EndM} {k : Nat} {x : EndM} (h : es[k]? = some x) : endE n es k=(
  if x.kind=0 then (if inB x.count 1 64 && decide (x.piece=0) then 0 else 4)
  else if x.kind=1 then (if decide (x.count=0) && inB x.piece 0 (n - 1) then 0 else 4)
  else if x.kind=2 then (if inB x.count 1 64 && inB x.piece 0 (n - 1) then 0 else 4)
  else 1):=by
 unfold endE
 rw [h]
theorem endsE_at {n : Nat} {es : List EndM} {k : Nat} {c : Int} (h6 : ¬ 6 < es.length) (hz : ∀ j,j < k→endE n es j=0) (hk : k < es.length) (hc : endE n es k=c) (h : c ≠ 0) : endsE n es=c:=by
 unfold endsE
 rw [if_neg h6,firstE_eq (endE n es) es.length 0 k (fun j _ hj => hz j hj) (Nat.zero_le _) (by omega) (by rw [hc]; exact h),hc]
theorem endsE_all {n : Nat} {es : List EndM} (h6 : ¬ 6 < es.length) (hz : ∀ j,j < es.length→endE n es j=0) : endsE n es=0:=by
 unfold endsE
 rw [if_neg h6]
 exact (firstE_zero _ _ _).2 (fun j _ hj => hz j (by omega))
def ECode (c : Int) (w : World) (e : Ending) (w' : World) : Prop:=e=.returned (.int .i64 c)∧Ext w w'
theorem conds_many (v0 v1 v2 v3 v4 v5 v6 v8 v9 v10 : Value) (A : Option Addr) (n c : Nat) (w : World) (h : 6 < n) :
  Calls Tryz.prog 55 #[.agg #[v0,v1,v2,v3,v4,v5,v6,.slice A n c,v8,v9,v10]] w (ECode 2 w):=by
 go_enter Tryz.func55,Tryz.ntmps55
 go_wp2
 go_ret
 exact ⟨rfl,ext_alloc (Below.refl _ _) _⟩
theorem quiet_left {P : Program} {f : FuncId} {args : Array Value} {w : World} {n : Nat} {v : Value}
  (h : Calls P f args (w.drewN n) fun e w' => e=.returned v∧w.drewN n=w') : Calls P f args (w.drewN n) fun e w' => e=.returned v∧∃ m,w'=w.drewN m :=
 h.mono fun _ _ ⟨he,hm⟩ => ⟨he,n,hm.symm⟩
set_option maxHeartbeats 4000000 in
theorem conds_any (v0 v1 v2 v4 v5 v6 v8 v9 v10 : Value) (pA : Option Addr) (m mc : Nat) (A : Option Addr) (n c : Nat) (es : List EndM) (w : World) (hn : es.length=n) (hn6 : n≤6) (hm : m≤6) (hm1 : 1≤m) (hp : EndsAt w A es) :
  Calls Tryz.prog 55 #[.agg #[v0,v1,v2,.slice pA m mc,v4,v5,v6,.slice A n c,v8,v9,v10]] w (ECode (endsE m es) w):=by
 have HN:=hide hn
 have HE : Hid (∀ k c,(∀ j,j < k→endE m es j=0)→k < n→endE m es k=c→c ≠ 0→endsE m es=c):=hide (fun k c hz hk hc h => endsE_at (by omega) hz (by omega) hc h)
 have HA : Hid ((∀ j,j < n→endE m es j=0)→endsE m es=0):=hide (fun hz => endsE_all (by omega) (by rw [hn]; exact hz))
 clear hn
 generalize endsE m es=E at *
 go_enter Tryz.func55,Tryz.ntmps55
 go_wp2
 have x1 : Ext w (w.alloc (.cells #[v0,v1,v2,.slice pA m mc,v4,v5,v6,.slice A n c,v8,v9,v10] 26)):=ext_alloc (Below.refl _ _) _
 have f3 : (w.alloc (.cells #[v0,v1,v2,.slice pA m mc,v4,v5,v6,.slice A n c,v8,v9,v10] 26)).cell? ⟨w.heap.size,3,none⟩=some (.slice pA m mc):=new_cell _ _ _ 3
 have hp1:=CellsAt.ext hp x1
 clear hp
 generalize w.alloc (.cells #[v0,v1,v2,.slice pA m mc,v4,v5,v6,.slice A n c,v8,v9,v10] 26)=w1 at *
 generalize w.heap.size=B at *
 go_loopw [4,14] (fun _ i wr => ∃ k : Nat,k≤n∧i=.int .i64 k∧Hid (∀ j,j < k→endE m es j=0)∧Ext w1 wr) (fun _ i _ => n - (intOf i).toNat)
 case atStart => exact ⟨0,Nat.zero_le _,rfl,hide (fun j hj => by omega),Below.refl _ _⟩
 case round =>
  obtain ⟨k,hk,rfl,hz,hext⟩:=hrel
  by_cases hlt : k < n
  ·have hkl : k < es.length:=by rw [HN.out]; exact hlt
   have hget : es[k]? = some es[k]:=List.getElem?_eq_getElem hkl
   obtain ⟨b,o,rfl,c0,c1,c2,c3⟩:=EndsAt.get (CellsAt.ext hp1 hext) hget
   have HP:=hide (endE_get (n:=m) hget)
   clear hget
   generalize es[k]=q at *
   have G3:=Ext.cell (ext_alloc hext (.cells #[.int .i64 q.kind,.int .i64 q.piece,.int .i64 q.count,.bool q.loses] 66)) f3
   have e2 : (wr.alloc (.cells #[.int .i64 q.kind,.int .i64 q.piece,.int .i64 q.count,.bool q.loses] 66)).cell? ⟨wr.heap.size,2,none⟩=some (.int .i64 q.count):=new_cell _ _ _ 2
   have e1 : (wr.alloc (.cells #[.int .i64 q.kind,.int .i64 q.piece,.int .i64 q.count,.bool q.loses] 66)).cell? ⟨wr.heap.size,1,none⟩=some (.int .i64 q.piece):=new_cell _ _ _ 1
   have e0 : (wr.alloc (.cells #[.int .i64 q.kind,.int .i64 q.piece,.int .i64 q.count,.bool q.loses] 66)).cell? ⟨wr.heap.size,0,none⟩=some (.int .i64 q.kind):=new_cell _ _ _ 0
   clear f3 hp1
   by_cases hk0 : q.kind=0
   ·have t0 : (q.kind == 0)=true:=by simpa using hk0
    cases hcb : inB q.count 1 64
    ·skip
     have HF:=hide (HE.out k 4 hz.out hlt (HP.out.trans (by simp [hk0,hcb])) (by omega))
     clear HP HE HA hz hk0
     go_wp2_with fail
     go_quiet ((go_at_call 51; exact quiet_left (within_any _ _ _ _)))
     go_wp2
     go_ret
     exact ⟨by rw [HF.out]; rfl,ext_trans x1 (ext_drewN (ext_alloc hext _) _)⟩
    ·skip
     by_cases hpz : q.piece=0
     ·have tp : (q.piece == 0)=true:=by simpa using hpz
      have HK : Hid (∀ i,i < k + 1→endE m es i=0):=hide (fun i hi => by
       by_cases e : i=k
       ·subst e; exact HP.out.trans (by simp [hk0,hcb,hpz])
       ·exact hz.out i (by omega))
      clear HP HE HA hz hk0 hpz
      go_wp2_with fail
      go_quiet ((go_at_call 51; exact quiet_left (within_any _ _ _ _)))
      go_wp2
      go_roundw
      case rel => exact ⟨k + 1,by omega,by go_num,HK,ext_drewN (ext_alloc hext _) _⟩
      case measure => simp [intOf]; omega
     ·have tp : (q.piece == 0)=false:=by simpa using hpz
      have HF:=hide (HE.out k 4 hz.out hlt (HP.out.trans (by simp [hk0,hcb,hpz])) (by omega))
      clear HP HE HA hz hk0 hpz
      go_wp2_with fail
      go_quiet ((go_at_call 51; exact quiet_left (within_any _ _ _ _)))
      go_wp2
      go_ret
      exact ⟨by rw [HF.out]; rfl,ext_trans x1 (ext_drewN (ext_alloc hext _) _)⟩
   ·have t0 : (q.kind == 0)=false:=by simpa using hk0
    by_cases hk1 : q.kind=1
    ·have t1 : (q.kind == 1)=true:=by simpa using hk1
     by_cases hcz : q.count=0
     ·have tc : (q.count == 0)=true:=by simpa using hcz
      cases hpb : inB q.piece 0 ((m : Int) - 1)
      ·skip
       have HF:=hide (HE.out k 4 hz.out hlt (HP.out.trans (by simp [hk1,hcz,hpb])) (by omega))
       clear HP HE HA hz hk0 hk1 hcz
       go_wp2_with fail
       go_quiet ((go_at_call 51; exact quiet_left (within_any _ _ _ _)))
       go_wp2
       go_ret
       exact ⟨by rw [HF.out]; rfl,ext_trans x1 (ext_drewN (ext_alloc hext _) _)⟩
      ·skip
       have HK : Hid (∀ i,i < k + 1→endE m es i=0):=hide (fun i hi => by
        by_cases e : i=k
        ·subst e; exact HP.out.trans (by simp [hk1,hcz,hpb])
        ·exact hz.out i (by omega))
       clear HP HE HA hz hk0 hk1 hcz
       go_wp2_with fail
       go_quiet ((go_at_call 51; exact quiet_left (within_any _ _ _ _)))
       go_wp2
       go_roundw
       case rel => exact ⟨k + 1,by omega,by go_num,HK,ext_drewN (ext_alloc hext _) _⟩
       case measure => simp [intOf]; omega
     ·have tc : (q.count == 0)=false:=by simpa using hcz
      have HF:=hide (HE.out k 4 hz.out hlt (HP.out.trans (by simp [hk1,hcz])) (by omega))
      clear HP HE HA hz hk0 hk1 hcz
      go_wp2_with fail
      go_quiet ((go_at_call 51; exact quiet_left (within_any _ _ _ _)))
      go_wp2
      go_ret
      exact ⟨by rw [HF.out]; rfl,ext_trans x1 (ext_drewN (ext_alloc hext _) _)⟩
    ·have t1 : (q.kind == 1)=false:=by simpa using hk1
     by_cases hk2 : q.kind=2
     ·have t2 : (q.kind == 2)=true:=by simpa using hk2
      cases hcb : inB q.count 1 64
      ·skip
       have HF:=hide (HE.out k 4 hz.out hlt (HP.out.trans (by simp [hk2,hcb])) (by omega))
       clear HP HE HA hz hk0 hk1 hk2
       go_wp2_with fail
       go_quiet ((go_at_call 51; exact quiet_left (within_any _ _ _ _)))
       go_wp2
       go_ret
       exact ⟨by rw [HF.out]; rfl,ext_trans x1 (ext_drewN (ext_alloc hext _) _)⟩
      ·skip
       cases hpb : inB q.piece 0 ((m : Int) - 1)
       ·skip
        have HF:=hide (HE.out k 4 hz.out hlt (HP.out.trans (by simp [hk2,hcb,hpb])) (by omega))
        clear HP HE HA hz hk0 hk1 hk2
        go_wp2_with fail
        go_quiet ((go_at_call 51; exact quiet_left (within_any _ _ _ _)))
        go_wp2
        go_ret
        exact ⟨by rw [HF.out]; rfl,ext_trans x1 (ext_drewN (ext_alloc hext _) _)⟩
       ·skip
        have HK : Hid (∀ i,i < k + 1→endE m es i=0):=hide (fun i hi => by
         by_cases e : i=k
         ·subst e; exact HP.out.trans (by simp [hk2,hcb,hpb])
         ·exact hz.out i (by omega))
        clear HP HE HA hz hk0 hk1 hk2
        go_wp2_with fail
        go_quiet ((go_at_call 51; exact quiet_left (within_any _ _ _ _)))
        go_wp2
        go_roundw
        case rel => exact ⟨k + 1,by omega,by go_num,HK,ext_drewN (ext_alloc hext _) _⟩
        case measure => simp [intOf]; omega
     ·have t2 : (q.kind == 2)=false:=by simpa using hk2
      have HF:=hide (HE.out k 1 hz.out hlt (HP.out.trans (by simp [hk0,hk1,hk2])) (by omega))
      clear HP HE HA hz hk0 hk1 hk2
      go_wp2_with fail
      go_quiet ((go_at_call 51; exact quiet_left (within_any _ _ _ _)))
      go_wp2
      go_ret
      exact ⟨by rw [HF.out]; rfl,ext_trans x1 (ext_drewN (ext_alloc hext _) _)⟩
  ·obtain rfl : k=n:=by omega
   have HZ:=hide (HA.out hz.out)
   clear hz hp1
   go_wp2
   go_ret
   exact ⟨by rw [HZ.out]; rfl,ext_trans x1 hext⟩
end Go.Proofs.YtdoibgmmijhlfaaGreatDoor
