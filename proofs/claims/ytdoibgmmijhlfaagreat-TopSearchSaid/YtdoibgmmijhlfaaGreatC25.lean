/- PerftP MiniP MiniQ MakeA0 StoreP -/
import Derived.Test.YtdoibgmmijhlfaaGreatC24
import Derived.BigFrame
namespace Go.Proofs.YtdoibgmmijhlfaaGreat
set_option linter.unusedVariables false
def movesM(R:RM)(P:PosM):List MM:=if rM R P=0 then listM R P else []
def treeM(R:RM):Nat→PosM→Int
 | 0,_=>1
 | d+1,P=>1+((movesM R P).map fun m=>treeM R d (makeM R P m)).sum
def leafM(R:RM):Nat→PosM→Int
 | 0,_=>1
 | d+1,P=>((movesM R P).map fun m=>leafM R d (makeM R P m)).sum
theorem sum_nonneg:∀ l:List Int,(∀ x∈l,0≤x)→0≤l.sum
 | [],_=>by simp
 | a :: l,h=>by
  have h1:=h a (by simp)
  have h2:=sum_nonneg l (fun x hx=>h x (by simp [hx]))
  rw [List.sum_cons];omega
theorem tree_pos(R:RM):∀ d P,1≤treeM R d P
 | 0,_=>by show (1:Int)≤1;omega
 | d+1,P=>by
  have:=sum_nonneg ((movesM R P).map fun m=>treeM R d (makeM R P m)) (fun x hx=>by
   obtain⟨m,_,rfl⟩:=List.mem_map.1 hx
   have:=tree_pos R d (makeM R P m);omega)
  unfold treeM;omega
theorem leaf_nonneg(R:RM):∀ d P,0≤leafM R d P
 | 0,_=>by show (0:Int)≤1;omega
 | d+1,P=>sum_nonneg _ (fun x hx=>by
   obtain⟨m,_,rfl⟩:=List.mem_map.1 hx
   exact leaf_nonneg R d _)
theorem sum_le:∀ (l:List MM) (f g:MM→Int),(∀ x∈l,f x≤g x)→(l.map f).sum≤(l.map g).sum
 | [],_,_,_=>by simp
 | a :: l,f,g,h=>by
  have h1:=h a (by simp)
  have h2:=sum_le l f g (fun x hx=>h x (by simp [hx]))
  simp only [List.map_cons,List.sum_cons];omega
theorem leaf_le(R:RM):∀ d P,leafM R d P≤treeM R d P
 | 0,_=>by show (1:Int)≤1;omega
 | d+1,P=>by
  have:=sum_le (movesM R P) (fun m=>leafM R d (makeM R P m)) (fun m=>treeM R d (makeM R P m)) (fun m _=>leaf_le R d _)
  unfold leafM treeM;omega
def partS(f:MM→Int)(l:List MM)(k:Nat):Int:=((l.take k).map f).sum
theorem partS_zero(f:MM→Int)(l:List MM):partS f l 0=0:=by simp [partS]
theorem partS_succ{f:MM→Int}{l:List MM}{k:Nat}{m:MM}(h:l[k]? = some m):partS f l (k+1)=partS f l k+f m:=by
 unfold partS
 rw [List.take_add_one,h,List.map_append,List.sum_append]
 simp
theorem partS_all(f:MM→Int)(l:List MM):partS f l l.length=(l.map f).sum:=by unfold partS;rw [List.take_length]
theorem sum_drop(f:MM→Int)(l:List MM)(k:Nat):(l.map f).sum=partS f l k+((l.drop k).map f).sum:=by
 unfold partS
 rw [← List.sum_append,← List.map_append,List.take_append_drop]
theorem partS_le{f:MM→Int}{l:List MM}(hf:∀ m,0≤f m)(k:Nat):partS f l k≤(l.map f).sum:=by
 have h1:=sum_drop f l k
 have h2:=sum_nonneg ((l.drop k).map f) (fun x hx=>by
  obtain⟨m,_,rfl⟩:=List.mem_map.1 hx
  exact hf m)
 omega
theorem partS_nonneg{f:MM→Int}{l:List MM}(hf:∀ m,0≤f m)(k:Nat):0≤partS f l k :=
 sum_nonneg _ (fun x hx=>by
  obtain⟨m,_,rfl⟩:=List.mem_map.1 hx
  exact hf m)
theorem sound_move{R:RM}{P:PosM}{m:MM}(hV:Valid R)(hS:Sound R P)(h:m∈movesM R P):Sound R (makeM R P m):=by
 unfold movesM at h
 split at h
 ·exact sound_make hV hS (mem_listM.1 h)
 ·simp at h
theorem raw_move{R:RM}{P:PosM}{m:MM}(h:m∈movesM R P):m∈rawM R P:=by
 unfold movesM at h
 split at h
 ·exact mem_listM.1 h
 ·simp at h
theorem moves_open{R:RM}{P:PosM}(hT:P.turn=0∨P.turn=1)(h:rM R P=0):listM R P≠[]:=by
 intro he
 unfold rM at h
 split at h
 ·split at h <;> omega
 ·unfold restM at h
  rw [he] at h
  split at h
  ·omega
  ·rw [if_neg (by simp)] at h
   split at h
   ·omega
   ·split at h <;> omega
theorem turn_make{R:RM}{P:PosM}(hT:P.turn=0∨P.turn=1)(m:MM):(makeM R P m).turn=0∨(makeM R P m).turn=1:=by
 have e:(makeM R P m).turn=1-P.turn:=rfl
 omega
def nearM(n:Int):Int:=if 0<n then n-1 else if n<0 then n+1 else 0
def overM(P:PosM)(x:Int):Int:=if x=1+P.turn then 1000 else if x=2-P.turn then -1000 else 0
def bestL(f:MM→Int):MM×Int→List MM→MM×Int
 | a,[]=>a
 | a,m :: l=>bestL f (if a.2<f m then (m,f m) else a) l
def ofM(R:RM):Nat→PosM→Int
 | 0,P=>if rM R P=0 then 0 else overM P (rM R P)
 | d+1,P=>if rM R P=0 then (bestL (fun m=>nearM (-(ofM R d (makeM R P m)))) (⟨0,0,0⟩,-2000) (listM R P)).2 else overM P (rM R P)
theorem bestL_append(f:MM→Int):∀ (l:List MM) (a:MM×Int) (m:MM),bestL f a (l++[m])=if (bestL f a l).2<f m then (m,f m) else bestL f a l
 | [],a,m=>rfl
 | x :: l,a,m=>bestL_append f l _ m
theorem bestL_mem(f:MM→Int):∀ (l:List MM) (a:MM×Int),bestL f a l=a∨∃ m∈l,bestL f a l=(m,f m)
 | [],a=>.inl rfl
 | x :: l,a=>by
  rcases bestL_mem f l (if a.2<f x then (x,f x) else a) with h | ⟨m,hm,h⟩
  ·by_cases hc:a.2<f x
   ·rw [if_pos hc] at h
    exact .inr ⟨x,by simp,by show bestL f (if a.2<f x then (x,f x) else a) l=_;rw [if_pos hc];exact h⟩
   ·rw [if_neg hc] at h
    exact .inl (by show bestL f (if a.2<f x then (x,f x) else a) l=_;rw [if_neg hc];exact h)
  ·exact .inr ⟨m,by simp [hm],h⟩
theorem bestL_ge(f:MM→Int):∀ (l:List MM) (a:MM×Int),a.2≤(bestL f a l).2∧∀ m∈l,f m≤(bestL f a l).2
 | [],a=>⟨Int.le_refl _,by simp⟩
 | x :: l,a=>by
  have ih:=bestL_ge f l (if a.2<f x then (x,f x) else a)
  have h:a.2≤(if a.2<f x then (x,f x) else a).2∧f x≤(if a.2<f x then (x,f x) else a).2:=by
   split
   ·exact⟨by simp only;omega,Int.le_refl _⟩
   ·exact⟨Int.le_refl _,by omega⟩
  refine⟨Int.le_trans h.1 ih.1,fun m hm=>?_⟩
  rcases List.mem_cons.1 hm with rfl | hm
  ·exact Int.le_trans h.2 ih.1
  ·exact ih.2 m hm
theorem bestL_of{f:MM→Int}{l:List MM}{a:MM×Int}(hl:l≠[])(h:∀ m∈l,a.2<f m):∃ m∈l,bestL f a l=(m,f m):=by
 rcases bestL_mem f l a with e | e
 ·obtain⟨x,hx⟩:=List.exists_mem_of_ne_nil l hl
  have h1:=(bestL_ge f l a).2 x hx
  have h2:=h x hx
  rw [e] at h1
  omega
 ·exact e
def boundB(d:Nat)(n:Int):Prop:=n=0∨(1000-(d:Int)≤n∧n≤1000)∨(-1000≤n∧n≤(d:Int)-1000)
theorem near_bound{d:Nat}{n:Int}(hd:d≤100)(h:boundB d n):boundB (d+1) (nearM (-n)):=by
 unfold nearM boundB at *
 split
 ·omega
 ·split <;> omega
theorem over_bound(P:PosM)(x:Int)(d:Nat):boundB d (overM P x):=by
 unfold overM boundB
 split
 ·omega
 ·split <;> omega
theorem of_bound(R:RM):∀ d P,(P.turn=0∨P.turn=1)→d≤100→boundB d (ofM R d P)
 | 0,P,_,_=>by
  unfold ofM
  split
  ·exact .inl rfl
  ·exact over_bound P _ 0
 | d+1,P,hT,hd=>by
  unfold ofM
  split
  ·rename_i h
   have hb:=fun m=>near_bound (d:=d) (by omega) (of_bound R d (makeM R P m) (turn_make hT m) (by omega))
   obtain⟨m,hm,e⟩:=bestL_of (f:=fun m=>nearM (-(ofM R d (makeM R P m)))) (a:=(⟨0,0,0⟩,-2000)) (moves_open hT h) (fun m _=>by
    have:=hb m
    unfold boundB at this
    show (-2000:Int)<nearM (-(ofM R d (makeM R P m)))
    omega)
   rw [e]
   exact hb m
  ·exact over_bound P _ _
theorem of_over{R:RM}{P:PosM}(h:rM R P≠0):∀ d,ofM R d P=overM P (rM R P)
 | 0=>if_neg h
 | _+1=>if_neg h
theorem of_open{R:RM}{P:PosM}(h:rM R P=0)(d:Nat):ofM R (d+1) P=(bestL (fun m=>nearM (-(ofM R d (makeM R P m)))) (⟨0,0,0⟩,-2000) (listM R P)).2:=if_pos h
def firstM(R:RM)(d:Nat)(P:PosM):MM×Int:=bestL (fun m=>nearM (-(ofM R d (makeM R P m)))) (⟨0,0,0⟩,-2000) (listM R P)
theorem first_score{R:RM}{P:PosM}(h:rM R P=0)(d:Nat):(firstM R d P).2=ofM R (d+1) P:=(of_open h d).symm
end Go.Proofs.YtdoibgmmijhlfaaGreat
namespace Go.Proofs.YtdoibgmmijhlfaaGreat
open Go.ChangeShapes Go.WideShapes Go.ChangeAt Go.RowKit Go.Shelf
set_option linter.unusedVariables false
attribute [local go_sem ↓] Go.wp_at_zero Go.wp_at_succ
set_option maxHeartbeats 4000000 in
set_option maxRecDepth 100000 in
theorem make_put0(R:RM)(P:PosM)(v u:Value)(d q:Nat)(w:World)(hR:RA w v R)(hP:PA w u P)(hV:Valid R)(hS:Sound R P)(hT:P.turn=0)(hm:CanPut R P d q) :
  Calls Crz.prog 39 #[v,u,.agg #[.int .i64 (-1),.int .i64 (d:Int),.int .i64 (q:Int)]] w (MakePost w (makeM R P ⟨-1,d,q⟩)):=by
 have har:=area_bd _ _ hV.side
 have ha:=hS.area
 have hp0:=hV.pieces0
 have hp6:=hV.pieces6
 have hl0:=hS.len0
 have hl1:=hS.len1
 have h64:P.cells.length≤64:=by omega
 have HCP:=hide (fun W (hW:Ext w W)=>PCopy_any P u W (hP.ext hW) (by omega) (by omega) (by omega) (by omega) (by omega) (by omega))
 have hq0:=hS.quiet
 have HS:=hide hS
 have HT:=hide hT
 obtain⟨hd,hq,hz⟩:=hm
 have HM:Hid (makeM R P ⟨-1,d,q⟩={ cells:=P.cells.set d (2 * (q:Int)+0+1),hand0:=P.hand0.set q (P.hand0.getD q 0-1),hand1:=P.hand1,turn:=1,quiet:=0 }):=hide (by
  unfold makeM
  simp only [hz,hT,PosM.hand,setHand,Int.toNat_natCast]
  simp)
 generalize makeM R P ⟨-1,d,q⟩=Q at *
 obtain⟨pA,pc,sA,sc,eA,ec,rfl,-⟩:=hR
 obtain⟨cA,cc,aA,ac,bA,bc,rfl,-⟩:=hP
 rw [hT] at HCP ⊢
 have hp6':=hp6
 have hqh:q<P.hand0.length:=by omega
 have hzb:0≤P.cells.getD d 0∧P.cells.getD d 0≤12:=by have:=HS.out.cells (P.cells.getD d 0) (by simp [hd]);omega
 have hhb:∀ i,i<P.hand0.length→0≤P.hand0.getD i 0∧P.hand0.getD i 0≤1000:=fun i hi=>HS.out.held0 _ (by simp [hi])
 have hhq:=hhb q hqh
 have HHB:=hide hhb
 clear har ha hp0 hp6 hl0 hl1 hV hS hT hhb
 obtain⟨xa,k1,k2,k3,k4⟩:=blks4 w #[.string R.name,.int .i64 R.width,.int .i64 R.height,.slice pA R.pieces.length pc,.slice sA R.start.length sc,.bool R.falls,.bool R.keeps,.slice eA R.ends.length ec,.int .i64 R.blocked,.int .i64 R.quiet,.int .i64 R.rept] 26 #[.slice cA P.cells.length cc,.slice aA P.hand0.length ac,.slice bA P.hand1.length bc,.int .i64 0,.int .i64 P.quiet] 29 #[.int .i64 (-1),.int .i64 (d:Int),.int .i64 (q:Int)] 31 #[.slice none 0 0,.slice none 0 0,.slice none 0 0,.int .i64 0,.int .i64 0] 29
 have X0:=hide xa
 clear xa
 have f2:=k2.cell
 go_enter Crz.func39,Tryz.ntmps39
 go_wp2_with fail
 generalize ((((w.alloc _).alloc _).alloc _).alloc _)=w2 at *
 have hb34:w.heap.size+1+1<w.heap.size+1+1+1:=by omega
 have hb4:w.heap.size≤w.heap.size+1+1+1:=by omega
 have hb24:w.heap.size+1<w.heap.size+1+1+1:=by omega
 generalize w.heap.size+1+1+1=B4 at *
 generalize w.heap.size+1+1=B3 at *
 generalize w.heap.size+1=B2 at *
 generalize hB1:w.heap.size=B1 at *
 have HB1:=hide hB1
 clear hB1
 refine(HCP.out _ X0.out).mono ?_
 rintro e w3 ⟨v3,rfl,⟨g0,c0,g1,c1,g2,c2,rfl,q0,q1,q2,r0,r1,r2,m0,m1,m2⟩,x3⟩
 rw [HT.out]
 have hw2:B4<w2.heap.size:=k4.lt
 have hw3:=x3.size
 have hn1:=r0.lt
 have hn2:=r1.lt
 have hn3:=r2.lt
 have l1:=(k1.ext x3).alloc (.cells #[.slice (some ⟨g0,0,none⟩) P.cells.length c0,.slice (some ⟨g1,0,none⟩) P.hand0.length c1,.slice (some ⟨g2,0,none⟩) P.hand1.length c2,.int .i64 0,.int .i64 P.quiet] 29)
 have l2:=(k2.ext x3).alloc (.cells #[.slice (some ⟨g0,0,none⟩) P.cells.length c0,.slice (some ⟨g1,0,none⟩) P.hand0.length c1,.slice (some ⟨g2,0,none⟩) P.hand1.length c2,.int .i64 0,.int .i64 P.quiet] 29)
 have l3:=(k3.ext x3).alloc (.cells #[.slice (some ⟨g0,0,none⟩) P.cells.length c0,.slice (some ⟨g1,0,none⟩) P.hand0.length c1,.slice (some ⟨g2,0,none⟩) P.hand1.length c2,.int .i64 0,.int .i64 P.quiet] 29)
 have l4:=(k4.ext x3).alloc (.cells #[.slice (some ⟨g0,0,none⟩) P.cells.length c0,.slice (some ⟨g1,0,none⟩) P.hand0.length c1,.slice (some ⟨g2,0,none⟩) P.hand1.length c2,.int .i64 0,.int .i64 P.quiet] 29)
 have l5:=Blk.new w3 29 #[.slice (some ⟨g0,0,none⟩) P.cells.length c0,.slice (some ⟨g1,0,none⟩) P.hand0.length c1,.slice (some ⟨g2,0,none⟩) P.hand1.length c2,.int .i64 0,.int .i64 P.quiet]
 have s0:=r0.alloc (.cells #[.slice (some ⟨g0,0,none⟩) P.cells.length c0,.slice (some ⟨g1,0,none⟩) P.hand0.length c1,.slice (some ⟨g2,0,none⟩) P.hand1.length c2,.int .i64 0,.int .i64 P.quiet] 29)
 have s1:=r1.alloc (.cells #[.slice (some ⟨g0,0,none⟩) P.cells.length c0,.slice (some ⟨g1,0,none⟩) P.hand0.length c1,.slice (some ⟨g2,0,none⟩) P.hand1.length c2,.int .i64 0,.int .i64 P.quiet] 29)
 have s2:=r2.alloc (.cells #[.slice (some ⟨g0,0,none⟩) P.cells.length c0,.slice (some ⟨g1,0,none⟩) P.hand0.length c1,.slice (some ⟨g2,0,none⟩) P.hand1.length c2,.int .i64 0,.int .i64 P.quiet] 29)
 have X3:=hide (qA (qT X0.out x3) (.cells #[.slice (some ⟨g0,0,none⟩) P.cells.length c0,.slice (some ⟨g1,0,none⟩) P.hand0.length c1,.slice (some ⟨g2,0,none⟩) P.hand1.length c2,.int .i64 0,.int .i64 P.quiet] 29))
 clear x3 k1 k2 k3 k4 f2 r0 r1 r2 HCP
 have hB5:B4<w3.heap.size:=by omega
 have NB2:∀ x,B4<x→¬ B2=x:=fun x hx=>by omega
 have hB5':B1≤w3.heap.size:=by omega
 have e5:=l5.cell
 have e3:=l3.cell
 have e2:=l2.cell
 have p0d:=s0.cell hd
 generalize P.cells.getD d 0=z at *
 subst hz
 go_wp2
 generalize w3.alloc _=w4 at *
 have hlB:B1≤w3.heap.size:=hB5'
 have N:Hid (B1≤B4∧B4<g0∧g0<g1∧g1<g2∧g2<w3.heap.size):=hide (by omega)
 generalize w3.heap.size=B5 at *
 have n1:¬ B5=g0:=by have:=N.out;omega
 have n2:¬ B5=g1:=by have:=N.out;omega
 have n3:¬ g0=B5:=by have:=N.out;omega
 have n4:¬ g1=B5:=by have:=N.out;omega
 have n5:¬ g0=g1:=by have:=N.out;omega
 have n6:¬ g1=g0:=by have:=N.out;omega
 have n7:¬ B4=B5:=by have:=N.out;omega
 have n8:¬ B5=B4:=by have:=N.out;omega
 have n9:¬ B4=g0:=by have:=N.out;omega
 have n10:¬ B4=g1:=by have:=N.out;omega
 have n11:¬ g0=B4:=by have:=N.out;omega
 have n12:¬ g1=B4:=by have:=N.out;omega
 have n13:¬ B2=g0:=NB2 g0 (by have:=N.out;omega)
 have n14:¬ B2=g1:=NB2 g1 (by have:=N.out;omega)
 have n15:¬ B3=g0:=by have:=N.out;omega
 have n16:¬ B3=g1:=by have:=N.out;omega
 have n17:¬ B2=B5:=NB2 B5 (by have:=N.out;omega)
 have n18:¬ B3=B5:=by have:=N.out;omega
 have ph:=s1.cell hqh
 have pf:=s1.frozen
 have p0f:=s0.frozen
 have e4:=l4.cell
 have f4:=l4.frozen
 have f5:=l5.frozen
 have i0:(0:Int)≤(q:Int):=by omega
 have i1:(q:Int)<(P.hand0.length:Int):=by omega
 generalize hh:P.hand0.getD q 0=h at *
 have HH:=hide hh
 clear hh
 obtain⟨hh0,hh1⟩:=hhq
 have hq6:(q:Int)≤6:=by omega
 have hmin:∀ W ats ty a b,(Builtin.min_ ats ty #[.int .i64 a,.int .i64 b]).run Crz.prog W=.ok (.int .i64 (minI a b)) W:=run_min2
 go_still_tail 11,(by kernel_rfl)
 go_upto_region 7 with (fail)
 have L2:=((l2.far (p:=⟨g1,q,none⟩) n14 (.int .i64 (h-1))).far (p:=⟨g0,d,none⟩) n13 (.int .i64 (2 * (q:Int)+1))).drew
 have L3:=((l3.far (p:=⟨g1,q,none⟩) n16 (.int .i64 (h-1))).far (p:=⟨g0,d,none⟩) n15 (.int .i64 (2 * (q:Int)+1))).drew
 have L4:=((l4.far (p:=⟨g1,q,none⟩) n10 (.int .i64 (h-1))).far (p:=⟨g0,d,none⟩) n9 (.int .i64 (2 * (q:Int)+1))).drew
 have L5:=((l5.far (p:=⟨g1,q,none⟩) n2 (.int .i64 (h-1))).far (p:=⟨g0,d,none⟩) n1 (.int .i64 (2 * (q:Int)+1))).drew
 have S0:=((s0.far (p:=⟨g1,q,none⟩) n5 (.int .i64 (h-1))).set_ d (2 * (q:Int)+1)).drew
 have S1:=((s1.set_ q (h-1)).far (p:=⟨g0,d,none⟩) n6 (.int .i64 (2 * (q:Int)+1))).drew
 have S2:=((s2.far (p:=⟨g1,q,none⟩) (by have:=N.out;show g2≠g1;omega) (.int .i64 (h-1))).far (p:=⟨g0,d,none⟩) (by have:=N.out;show g2≠g0;omega) (.int .i64 (2 * (q:Int)+1))).drew
 have X5:=hide (Below.drew (qS (qS X3.out (p:=⟨g1,q,none⟩) (by rw [HB1.out];have:=N.out;show B1≤g1;omega) (.int .i64 (h-1))) (p:=⟨g0,d,none⟩) (by rw [HB1.out];have:=N.out;show B1≤g0;omega) (.int .i64 (2 * (q:Int)+1))))
 clear e5 e4 e3 e2 f4 f5 l1 l2 l3 l4 l5 s0 s1 s2 ph pf p0f p0d
 generalize (((w4.setCell ⟨g1,q,none⟩ (.int .i64 (h-1))).setCell ⟨g0,d,none⟩ (.int .i64 (2 * (q:Int)+1))).drew)=w5 at *
 have e5:=L5.cell
 have e4:=L4.cell
 have e3:=L3.cell
 have e2:=L2.cell
 have f4:=L4.frozen
 have f5:=L5.frozen
 have hq1:=hq0.1
 have hq2:=hq0.2
 clear hq0
 go_wp2
 have hxB5:w.heap.size≤B5:=by rw [HB1.out];exact hlB
 have hxB4:w.heap.size≤B4:=by rw [HB1.out];exact N.out.1
 have K:=blk_set5 (Blk.far (Blk.far (Blk.far L4 (p:=⟨B5,4,none⟩) n7 (.int .i64 (minI (P.quiet+1) 200))) (p:=⟨B5,4,none⟩) n7 (.int .i64 0)) (p:=⟨B5,3,none⟩) n7 (.int .i64 1)) (u0:=.slice (some ⟨g0,0,none⟩) P.cells.length c0) (u1:=.slice (some ⟨g1,0,none⟩) P.hand0.length c1) (u2:=.slice (some ⟨g2,0,none⟩) P.hand1.length c2) (u3:=.int .i64 1) (u4:=.int .i64 0)
 have E0:=(IRow.far (IRow.far (IRow.far (IRow.far (IRow.far (IRow.far (IRow.far (IRow.far S0 (p:=⟨B5,4,none⟩) (by have:=N.out;show g0≠B5;omega) (.int .i64 (minI (P.quiet+1) 200))) (p:=⟨B5,4,none⟩) (by have:=N.out;show g0≠B5;omega) (.int .i64 0)) (p:=⟨B5,3,none⟩) (by have:=N.out;show g0≠B5;omega) (.int .i64 1)) (p:=⟨B4,0,none⟩) (by have:=N.out;show g0≠B4;omega) (.slice (some ⟨g0,0,none⟩) P.cells.length c0)) (p:=⟨B4,1,none⟩) (by have:=N.out;show g0≠B4;omega) (.slice (some ⟨g1,0,none⟩) P.hand0.length c1)) (p:=⟨B4,2,none⟩) (by have:=N.out;show g0≠B4;omega) (.slice (some ⟨g2,0,none⟩) P.hand1.length c2)) (p:=⟨B4,3,none⟩) (by have:=N.out;show g0≠B4;omega) (.int .i64 1)) (p:=⟨B4,4,none⟩) (by have:=N.out;show g0≠B4;omega) (.int .i64 0))
 have E1:=(IRow.far (IRow.far (IRow.far (IRow.far (IRow.far (IRow.far (IRow.far (IRow.far S1 (p:=⟨B5,4,none⟩) (by have:=N.out;show g1≠B5;omega) (.int .i64 (minI (P.quiet+1) 200))) (p:=⟨B5,4,none⟩) (by have:=N.out;show g1≠B5;omega) (.int .i64 0)) (p:=⟨B5,3,none⟩) (by have:=N.out;show g1≠B5;omega) (.int .i64 1)) (p:=⟨B4,0,none⟩) (by have:=N.out;show g1≠B4;omega) (.slice (some ⟨g0,0,none⟩) P.cells.length c0)) (p:=⟨B4,1,none⟩) (by have:=N.out;show g1≠B4;omega) (.slice (some ⟨g1,0,none⟩) P.hand0.length c1)) (p:=⟨B4,2,none⟩) (by have:=N.out;show g1≠B4;omega) (.slice (some ⟨g2,0,none⟩) P.hand1.length c2)) (p:=⟨B4,3,none⟩) (by have:=N.out;show g1≠B4;omega) (.int .i64 1)) (p:=⟨B4,4,none⟩) (by have:=N.out;show g1≠B4;omega) (.int .i64 0))
 have E2:=(IRow.far (IRow.far (IRow.far (IRow.far (IRow.far (IRow.far (IRow.far (IRow.far S2 (p:=⟨B5,4,none⟩) (by have:=N.out;show g2≠B5;omega) (.int .i64 (minI (P.quiet+1) 200))) (p:=⟨B5,4,none⟩) (by have:=N.out;show g2≠B5;omega) (.int .i64 0)) (p:=⟨B5,3,none⟩) (by have:=N.out;show g2≠B5;omega) (.int .i64 1)) (p:=⟨B4,0,none⟩) (by have:=N.out;show g2≠B4;omega) (.slice (some ⟨g0,0,none⟩) P.cells.length c0)) (p:=⟨B4,1,none⟩) (by have:=N.out;show g2≠B4;omega) (.slice (some ⟨g1,0,none⟩) P.hand0.length c1)) (p:=⟨B4,2,none⟩) (by have:=N.out;show g2≠B4;omega) (.slice (some ⟨g2,0,none⟩) P.hand1.length c2)) (p:=⟨B4,3,none⟩) (by have:=N.out;show g2≠B4;omega) (.int .i64 1)) (p:=⟨B4,4,none⟩) (by have:=N.out;show g2≠B4;omega) (.int .i64 0))
 have X:=hide (qS (qS (qS (qS (qS (qS (qS (qS X5.out (p:=⟨B5,4,none⟩) hxB5 (.int .i64 (minI (P.quiet+1) 200))) (p:=⟨B5,4,none⟩) hxB5 (.int .i64 0)) (p:=⟨B5,3,none⟩) hxB5 (.int .i64 1)) (p:=⟨B4,0,none⟩) hxB4 (.slice (some ⟨g0,0,none⟩) P.cells.length c0)) (p:=⟨B4,1,none⟩) hxB4 (.slice (some ⟨g1,0,none⟩) P.hand0.length c1)) (p:=⟨B4,2,none⟩) hxB4 (.slice (some ⟨g2,0,none⟩) P.hand1.length c2)) (p:=⟨B4,3,none⟩) hxB4 (.int .i64 1)) (p:=⟨B4,4,none⟩) hxB4 (.int .i64 0))
 clear e5 e4 e3 e2 f4 f5 L2 L3 L4 L5 S0 S1 S2
 generalize ((((((((w5.setCell ⟨B5,4,none⟩ (.int .i64 (minI (P.quiet+1) 200))).setCell ⟨B5,4,none⟩ (.int .i64 0)).setCell ⟨B5,3,none⟩ (.int .i64 1)).setCell ⟨B4,0,none⟩ (.slice (some ⟨g0,0,none⟩) P.cells.length c0)).setCell ⟨B4,1,none⟩ (.slice (some ⟨g1,0,none⟩) P.hand0.length c1)).setCell ⟨B4,2,none⟩ (.slice (some ⟨g2,0,none⟩) P.hand1.length c2)).setCell ⟨B4,3,none⟩ (.int .i64 1)).setCell ⟨B4,4,none⟩ (.int .i64 0))=Wf at *
 have rr0:Wf.cell? ⟨B4,0,none⟩=some (.slice (some ⟨g0,0,none⟩) P.cells.length c0):=K.cell 0
 have rr1:Wf.cell? ⟨B4,1,none⟩=some (.slice (some ⟨g1,0,none⟩) P.hand0.length c1):=K.cell 1
 have rr2:Wf.cell? ⟨B4,2,none⟩=some (.slice (some ⟨g2,0,none⟩) P.hand1.length c2):=K.cell 2
 have rr3:Wf.cell? ⟨B4,3,none⟩=some (.int .i64 1):=K.cell 3
 have rr4:Wf.cell? ⟨B4,4,none⟩=some (.int .i64 0):=K.cell 4
 refine bodyPost_ret (v:=.agg #[.slice (some ⟨g0,0,none⟩) P.cells.length c0,.slice (some ⟨g1,0,none⟩) P.hand0.length c1,.slice (some ⟨g2,0,none⟩) P.hand1.length c2,.int .i64 1,.int .i64 0]) ?_ rfl ?_
 ·simp [results,Tryz.results39,go_sem,rr0,rr1,rr2,rr3,rr4]
 ·refine⟨_,rfl,?_,X.out⟩
  rw [HM.out]
  refine⟨g0,c0,g1,c1,g2,c2,by simp,by rw [HB1.out];have:=N.out;omega,q1,q2,by simpa using E0,by simpa [HH.out] using E1,by simpa [HH.out] using E2,by simpa using m0,by simpa using m1,by simpa using m2⟩
end Go.Proofs.YtdoibgmmijhlfaaGreat
namespace Go.Proofs.YtdoibgmmijhlfaaGreat
open Go.ChangeShapes Go.WideShapes Go.ChangeAt Go.RowKit Go.Shelf
set_option linter.unusedVariables false
theorem wrap_u_bd(x:Int):0≤IntKind.u64.wrap x∧IntKind.u64.wrap x<18446744073709551616:=by
 rw [IntKind.wrap_u64];omega
theorem keyC_bd(cs:List Int):∀ k,0≤keyC cs k∧keyC cs k<18446744073709551616
 | 0=>by unfold keyC;omega
 | k+1=>by
  unfold keyC
  split
  ·exact keyC_bd cs k
  ·exact wrap_u_bd _
theorem keyH_bd{b:Int}(hb:0≤b∧b<18446744073709551616)(hd:List Int)(p:Int):∀ k,0≤keyH b hd p k∧keyH b hd p k<18446744073709551616
 | 0=>hb
 | k+1=>by unfold keyH;exact wrap_u_bd _
theorem keyM_bd(P:PosM):0≤keyM P∧keyM P<18446744073709551616:=by
 unfold keyM
 split
 ·exact wrap_u_bd _
 ·unfold keyB;exact keyH_bd (keyH_bd (keyC_bd _ _) _ _ _) _ _ _
structure SlotM where
 pos:PosM
 depth:Int
 score:Int
def slotI(P:PosM)(n:Nat):Nat:=(keyM P % (n:Int)).toNat
theorem slotI_lt(P:PosM){n:Nat}(h:0<n):slotI P n<n:=by
 have h1:=Int.emod_lt_of_pos (keyM P) (show (0:Int)<n by omega)
 have h2:=Int.emod_nonneg (keyM P) (show (n:Int)≠0 by omega)
 unfold slotI
 omega
def hasB(x:Option SlotM)(P:PosM)(D:Int):Bool:=match x with
 | none=>false
 | some s=>decide (s.depth=D) && (decide (s.pos.quiet=P.quiet) && sameB s.pos P)
def freeB(x:Option SlotM)(D:Int):Bool:=match x with
 | none=>true
 | some s=>decide (s.depth≤D)
def scoreS(x:Option SlotM):Int:=match x with
 | none=>0
 | some s=>s.score
theorem has_eq{x:Option SlotM}{P:PosM}{D:Int}(h:hasB x P D=true):∃ s,x=some s∧s.pos=P∧s.depth=D:=by
 cases x with
 | none=>cases h
 | some s =>
  simp only [hasB,sameB,Bool.and_eq_true,decide_eq_true_eq] at h
  obtain⟨h1,h2,h3,h4,h5,h6⟩:=h
  refine⟨s,rfl,?_,h1⟩
  obtain⟨p,d,sc⟩:=s
  obtain⟨c,a,b,t,q⟩:=p
  cases P
  simp only at *
  subst h2 h3 h4 h5 h6
  rfl
def putS(L:List (Option SlotM))(P:PosM)(D s:Int):List (Option SlotM):=if freeB (L.getD (slotI P L.length) none) D=true then L.set (slotI P L.length) (some ⟨P,D,s⟩) else L
theorem putS_len(L:List (Option SlotM))(P:PosM)(D s:Int):(putS L P D s).length=L.length:=by
 unfold putS;split <;> simp
def RightS(R:RM)(L:List (Option SlotM)):Prop:=∀ s,some s∈L→0≤s.depth∧s.score=ofM R s.depth.toNat s.pos
theorem RightS.put{R:RM}{L:List (Option SlotM)}{P:PosM}{D s:Int}(h:RightS R L)(h0:0≤D)(hs:s=ofM R D.toNat P):RightS R (putS L P D s):=by
 unfold putS
 split
 ·intro x hx
  rcases List.mem_or_eq_of_mem_set hx with hx | hx
  ·exact h x hx
  ·cases hx;exact⟨h0,hs⟩
 ·exact h
theorem RightS.get{R:RM}{L:List (Option SlotM)}{P:PosM}{D:Int}(h:RightS R L)(hb:hasB (L.getD (slotI P L.length) none) P D=true):scoreS (L.getD (slotI P L.length) none)=ofM R D.toNat P:=by
 obtain⟨s,hx,hp,hd⟩:=has_eq hb
 have hm:some s∈L:=by
  rw [← hx,List.getD_eq_getElem?_getD]
  cases he:L[slotI P L.length]? with
  | none=>rw [List.getD_eq_getElem?_getD,he] at hx;cases hx
  | some y=>exact List.mem_of_getElem? he
 rw [hx]
 obtain⟨-,e⟩:=h s hm
 show s.score=_
 rw [e,hp,hd]
theorem rightS_new(R:RM)(n:Nat):RightS R (List.replicate n none):=fun s h=>by
 have:=List.eq_of_mem_replicate h
 cases this
end Go.Proofs.YtdoibgmmijhlfaaGreat
