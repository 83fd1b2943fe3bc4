/- EndsW1 EndsW2 -/
import Derived.Test.YtdoibgmmijhlfaaGreatC24
namespace Go.Proofs.YtdoibgmmijhlfaaGreat
open Go.ChangeShapes Go.WideShapes Go.ChangeAt Go.RowKit Go.Shelf
set_option linter.unusedVariables false
set_option maxHeartbeats 2000000 in
theorem own_any(a b p x y:Int)(BR BP BQ:Nat)(cA:Option Addr)(cc:Nat)(cs:List Int)(w:World)(hs:okSide a b)(hl:(cs.length:Int)=a * b)(hp:p=0∨p=1)(hcb:∀ c∈cs,0≤c∧c≤12)
  (hx:-1000≤x∧x≤1000) (hy:-1000≤y∧y≤1000)
  (r1:w.cell? ⟨BR,1,none⟩=some (.int .i64 a)) (r2:w.cell? ⟨BR,2,none⟩=some (.int .i64 b)) (q0:w.cell? ⟨BP,0,none⟩=some (.slice cA cs.length cc)) (p0:w.cell? ⟨BQ,0,none⟩=some (.int .i64 p)) (hc:IntsAt w cA cs) :
  Calls Crz.prog 139 #[.int .i64 x,.int .i64 y,.pointer (some ⟨BR,0,none⟩),.pointer (some ⟨BP,0,none⟩),.pointer (some ⟨BQ,0,none⟩)] w fun e w'=>e=.returned (.bool (ownXY a b cs p x y))∧w=w':=by
 obtain⟨a0,a1,b0,b1⟩:=hs
 by_cases hin:x<0∨a≤x∨y<0∨b≤y
 ·have HE:=hide (show ownXY a b cs p x y=false by unfold ownXY;rw [if_pos hin])
  clear hc hcb hl q0 p0
  have h4:x<0∨(0≤x∧a≤x)∨(0≤x∧x<a∧y<0)∨(0≤x∧x<a∧0≤y∧b≤y):=by omega
  clear hin
  rcases h4 with h | ⟨h1,h2⟩ | ⟨h1,h2,h3⟩ | ⟨h1,h2,h3,h5⟩
  all_goals
   go_enter Crz.func139,Tryz.ntmps139
   go_wp2
   go_ret
   exact⟨by rw [HE.out];rfl,rfl⟩
 ·have i0:0≤x:=by omega
  have i1:x<a:=by omega
  have i2:0≤y:=by omega
  have i3:y<b:=by omega
  obtain⟨s0,s1⟩:=sq_mk i0 i1 i2 i3
  obtain⟨j,hj⟩:=Int.eq_ofNat_of_zero_le s0
  have hj':y * a+x=(j:Int):=hj
  have hjl:j<cs.length:=by omega
  obtain⟨bC,oC,rfl,hz⟩:=hc j hjl
  have hzb:=hcb (cs.getD j 0) (by simp [hjl])
  have HE:=hide (show ownXY a b cs p x y=(decide (0<cs.getD j 0) && decide ((cs.getD j 0-1) % 2=p)) by unfold ownXY;rw [if_neg hin,hj',Int.toNat_natCast])
  have m0:0≤y * a:=Int.mul_nonneg i2 (by omega)
  have m1:y * a≤64:=by have:=area_bd a b ⟨a0,a1,b0,b1⟩;omega
  have j0:(0:Int)≤(j:Int):=by omega
  have j1:(j:Int)<(cs.length:Int):=by omega
  clear hin hc hcb s0 s1 hj hjl hl
  generalize cs.getD j 0=z at *
  obtain⟨z0,z1⟩:=hzb
  by_cases hz0:z=0
  ·subst hz0
   go_enter Crz.func139,Tryz.ntmps139
   go_wp2
   go_ret
   exact⟨by rw [HE.out];rfl,rfl⟩
  ·have z2:1≤z:=by omega
   by_cases hm:(z-1) % 2=p
   ·have t1:((z-1) % 2 == p)=true:=by simpa using hm
    have HE2:=hide (show ownXY a b cs p x y=true by rw [HE.out];simp [hm];omega)
    clear HE hm hz0
    go_enter Crz.func139,Tryz.ntmps139
    go_wp2
    go_ret
    exact⟨by rw [HE2.out];rfl,rfl⟩
   ·have t1:((z-1) % 2 == p)=false:=by simpa using hm
    have HE2:=hide (show ownXY a b cs p x y=false by rw [HE.out];simp [hm])
    clear HE hm hz0
    go_enter Crz.func139,Tryz.ntmps139
    go_wp2
    go_ret
    exact⟨by rw [HE2.out];rfl,rfl⟩
def dirB(a b:Int)(cs:List Int)(p:Int)(n s:Nat)(j:Nat):Bool :=
 if j=0 then runXY a b cs p 1 0 n ((s:Int) % a) ((s:Int) / a) else if j=1 then runXY a b cs p 0 1 n ((s:Int) % a) ((s:Int) / a)
 else if j=2 then runXY a b cs p 1 1 n ((s:Int) % a) ((s:Int) / a) else runXY a b cs p 1 (-1) n ((s:Int) % a) ((s:Int) / a)
theorem lineAt_of{a b:Int}{cs:List Int}{p:Int}{n s:Nat}:lineAt a b cs p n s=(List.range 4).any (dirB a b cs p n s):=by
 unfold lineAt
 rw [show List.range 4=[0,1,2,3] from rfl]
 simp [dirB]
theorem drewN_two(w:World)(a b:Nat):(w.drewN a).drewN b=w.drewN (a+b):=by
 simp [World.drewN];try omega
theorem any_range_false{f:Nat→Bool}{n:Nat}(h:∀ i,i<n→f i=false):(List.range n).any f=false:=by
 rw [List.any_eq_false]
 intro i hi
 rw [List.mem_range] at hi
 simp [h i hi]
set_option maxHeartbeats 8000000 in
set_option maxRecDepth 100000 in
theorem line_any(R:RM)(P:PosM)(p:Int)(n:Nat)(v u:Value)(w:World)(hR:RA w v R)(hP:PA w u P)(hV:Valid R)(hS:Sound R P)(hp:p=0∨p=1)(hn:n≤64) :
  Calls Crz.prog 115 #[v,u,.int .i64 p,.int .i64 (n:Int)] w fun e w'=>e=.returned (.bool (lineB R P p n))∧Ext w w':=by
 have HOWN:=hide (fun (x y:Int) (BR BP BQ:Nat) (cA:Option Addr) (cc:Nat) (W:World) (hx:-1000≤x∧x≤1000) (hy:-1000≤y∧y≤1000) r1 r2 q0 p0 (hc:IntsAt W cA P.cells) =>
  own_any R.width R.height p x y BR BP BQ cA cc P.cells W hV.side hS.area hp (fun c hc=>⟨(hS.cells c hc).1,by have:=(hS.cells c hc).2;have:=hV.pieces6;omega⟩) hx hy r1 r2 q0 p0 hc)
 obtain⟨a0,a1,b0,b1⟩:=hV.side
 have ha:=hS.area
 have HSQ:=hide (fun (s:Nat) (h:s<P.cells.length)=>sq_bd R.width R.height (s:Int) hV.side (by omega) (by omega))
 have h64:P.cells.length≤64:=by have:=area_bd _ _ hV.side;omega
 obtain⟨pA,pc,sA,sc,eA,ec,rfl,-⟩:=hR
 obtain⟨cA,cc,aA,ac,bA,bc,rfl,hcc,-⟩:=hP
 clear hV hS ha hp
 have HLB:=hide (show lineB R P p n=(List.range P.cells.length).any (fun s=>(List.range 4).any (dirB R.width R.height P.cells p n s)) by
  unfold lineB;congr 1;funext s;exact lineAt_of)
 obtain⟨x1,k1,k2,k3⟩:=blks3 w #[.string R.name,.int .i64 R.width,.int .i64 R.height,.slice pA R.pieces.length pc,.slice sA R.start.length sc,.bool R.falls,.bool R.keeps,.slice eA R.ends.length ec,.int .i64 R.blocked,.int .i64 R.quiet,.int .i64 R.rept] 26 #[.slice cA P.cells.length cc,.slice aA P.hand0.length ac,.slice bA P.hand1.length bc,.int .i64 P.turn,.int .i64 P.quiet] 29 #[.int .i64 p] 3
 have HX:=hide x1
 have HC:=hide (hcc.ext x1)
 have K1:=hide k1
 have K2:=hide k2
 have K3:=hide k3
 have f2:=k2.cell
 clear x1 k1 k2 k3 hcc
 have i0:∀ w,(Instr.index 192 (.agg #[.int .i64 1,.int .i64 0,.int .i64 0,.int .i64 1,.int .i64 1,.int .i64 1,.int .i64 1,.int .i64 (-1)]) (.int .i64 0)).run Crz.prog w=.ok (.agg #[.int .i64 1,.int .i64 0]) w:=fun _=>by kernel_rfl
 have i1:∀ w,(Instr.index 192 (.agg #[.int .i64 1,.int .i64 0,.int .i64 0,.int .i64 1,.int .i64 1,.int .i64 1,.int .i64 1,.int .i64 (-1)]) (.int .i64 1)).run Crz.prog w=.ok (.agg #[.int .i64 0,.int .i64 1]) w:=fun _=>by kernel_rfl
 have i2:∀ w,(Instr.index 192 (.agg #[.int .i64 1,.int .i64 0,.int .i64 0,.int .i64 1,.int .i64 1,.int .i64 1,.int .i64 1,.int .i64 (-1)]) (.int .i64 2)).run Crz.prog w=.ok (.agg #[.int .i64 1,.int .i64 1]) w:=fun _=>by kernel_rfl
 have i3:∀ w,(Instr.index 192 (.agg #[.int .i64 1,.int .i64 0,.int .i64 0,.int .i64 1,.int .i64 1,.int .i64 1,.int .i64 1,.int .i64 (-1)]) (.int .i64 3)).run Crz.prog w=.ok (.agg #[.int .i64 1,.int .i64 (-1)]) w:=fun _=>by kernel_rfl
 have HI:=hide (And.intro i0 (And.intro i1 (And.intro i2 i3)))
 clear i0 i1 i2 i3
 go_enter Crz.func115,Tryz.ntmps115
 go_wp2
 clear f2
 generalize ((w.alloc _).alloc _).alloc _=w2 at *
 generalize w.heap.size+1+1=B3 at *
 generalize w.heap.size+1=B2 at *
 generalize hB1:w.heap.size=B1 at *
 have HB1:=hide hB1
 clear hB1
 go_loopw [20] (fun i wr=>∃ k:Nat,k≤P.cells.length∧i=.int .i64 k∧Ext w2 wr∧Hid (∀ s,s<k→(List.range 4).any (dirB R.width R.height P.cells p n s)=false)) (fun i _=>P.cells.length-(intOf i).toNat)
 case atStart=>exact⟨0,Nat.zero_le _,rfl,Below.refl _ _,hide (fun s hs=>by omega)⟩
 case round =>
  obtain⟨k,hk,rfl,hext,hno⟩:=hrel
  by_cases hlt:k<P.cells.length
  ·obtain⟨x0,x1,y0,y1⟩:=HSQ.out k hlt
   have XO:=hide hext
   clear hext
   go_wp2
   obtain⟨wo,rfl⟩:∃ wo:World,wo=wr:=⟨_,rfl⟩
   go_loopw [28] (fun i wj=>∃ j:Nat,j≤4∧i=.int .i64 j∧Ext wo wj∧Hid (∀ d,d<j→dirB R.width R.height P.cells p n k d=false)) (fun i _=>4-(intOf i).toNat)
   case atStart=>exact⟨0,by omega,rfl,Below.refl _ _,hide (fun d hd=>by omega)⟩
   case round =>
    obtain⟨j,hj,rfl,hext,hnd⟩:=hrel
    rcases(by omega:j=0∨j=1∨j=2∨j=3∨j=4) with rfl | rfl | rfl | rfl | rfl
    ·skip
     have hi:=HI.out.1
     have HD:=hide (show dirB R.width R.height P.cells p n k 0=runXY R.width R.height P.cells p 1 0 n ((k:Int) % R.width) ((k:Int) / R.width) from rfl)
     obtain⟨xa,kd⟩:=blks1 wr #[.int .i64 1,.int .i64 (0)] 191
     have XJ:=hide (qT hext xa)
     have l1:=K1.out.ext (qT XO.out XJ.out)
     clear hext
     have HIJ:=hide hi
     go_wp2_with fail
     generalize wr.alloc _=w5 at *
     generalize wr.heap.size=BD at *
     have r1:w5.cell? ⟨B1,1,none⟩=some (.int .i64 R.width):=l1.cell 1
     clear xa hi HIJ
     go_quiet (fail)
     clear r1
     have x6:=drewN_ext w5 nq
     have XJ6:=hide (qT XJ.out x6)
     have KD:=hide (kd.ext x6)
     have L1:=hide (l1.ext x6)
     have L2:=hide ((K2.out.ext (qT XO.out XJ6.out)))
     have L3:=hide ((K3.out.ext (qT XO.out XJ6.out)))
     have C6:=hide (HC.out.ext (qT XO.out XJ6.out))
     clear x6 kd l1
     generalize w5.drewN nq=w6 at *
     go_wp2
     generalize hx0:(k:Int) % R.width=x0' at *
     generalize hy0:(k:Int) / R.width=y0' at *
     have HX0:=hide hx0
     have HY0:=hide hy0
     clear hx0 hy0
     have n0:(0:Int)≤(n:Int):=by omega
     go_loopw [13,14,15] (fun x y c wi=>∃ i q:Nat,i≤n∧c=.int .i64 i∧x=.int .i64 (x0'+(i:Int))∧y=.int .i64 (y0')∧wi=w6.drewN q∧Hid (runXY R.width R.height P.cells p 1 0 n x0' y0'=runXY R.width R.height P.cells p 1 0 (n-i) (x0'+(i:Int)) (y0'))) (fun _ _ c _=>n-(intOf c).toNat)
     case atStart=>exact⟨0,0,Nat.zero_le _,rfl,by go_num,by go_num,rfl,hide (by simp)⟩
     case round =>
      obtain⟨i,q,hi,rfl,rfl,rfl,rfl,hrun⟩:=hrel
      by_cases hin:i<n
      ·have hx:-1000≤x0'+(i:Int)∧x0'+(i:Int)≤1000:=by omega
       have hy:-1000≤y0'∧y0'≤1000:=by omega
       have e7:=drewN_ext w6 q
       have HCALL:=hide (HOWN.out (x0'+(i:Int)) (y0') B1 B2 B3 cA cc (w6.drewN q) hx hy ((L1.out.ext e7).cell 1) ((L1.out.ext e7).cell 2) ((L2.out.ext e7).cell 0) ((L3.out.ext e7).cell 0) (C6.out.ext e7))
       have HS:=hide (hrun.out.trans (by rw [show n-i=(n-(i+1))+1 by omega,runXY_succ]))
       have kd0:w6.cell? ⟨BD,0,none⟩=some (.int .i64 1):=KD.out.cell 0
       have kd1:w6.cell? ⟨BD,1,none⟩=some (.int .i64 (0)):=KD.out.cell 1
       have ws0:IntKind.i64.wrap (x0'+(i:Int)+1)=x0'+(i:Int)+1:=by rw [IntKind.wrap_i64];omega
       have ws1:IntKind.i64.wrap (y0')=y0':=by rw [IntKind.wrap_i64];omega
       have ws2:IntKind.i64.wrap ((i:Int)+1)=(i:Int)+1:=by rw [IntKind.wrap_i64];omega
       clear e7 hx hy
       go_wp2_with fail
       refine HCALL.out.mono ?_
       rintro e w7 ⟨rfl,rfl⟩
       cases ho:ownXY R.width R.height P.cells p (x0'+(i:Int)) (y0')
       ·have HF:=hide (show runXY R.width R.height P.cells p 1 0 n x0' y0'=false by rw [HS.out,ho];rfl)
        clear ho HS hrun HCALL
        have tn:((i:Int) == (n:Int))=false:=by simp;omega
        have tn2:(i == n)=false:=by simp;omega
        go_wp2
        go_roundw
        case rel=>exact⟨0+1,by omega,by go_num,qD XJ6.out q,hide (fun d hd=>by
         rcases(by omega:d<0∨d=0) with h | h
         ·exact hnd.out d h
         ·subst h;rw [HD.out,HF.out])⟩
        case measure=>simp [intOf]
       ·have HT:=hide (show runXY R.width R.height P.cells p 1 0 n x0' y0'=runXY R.width R.height P.cells p 1 0 (n-(i+1)) (x0'+(i:Int)+1) (y0'+0) by rw [HS.out,ho];rfl)
        clear ho HS hrun HCALL
        go_wp2_with fail
        go_quiet (fail)
        clear ws0 ws1 ws2
        go_wp2
        go_roundw
        case rel =>
         repeat apply Exists.intro
         refine And.intro ?_ rfl
         exact⟨i+1,q+nq,by omega,by go_num,by go_num,by go_num,drewN_two _ _ _,hide (by rw [HT.out];congr 1 <;> omega)⟩
        case measure=>simp [intOf];omega
      ·obtain rfl:i=n:=by omega
       have HT:=hide (show runXY R.width R.height P.cells p 1 0 i x0' y0'=true by rw [hrun.out,Nat.sub_self];rfl)
       have HL:=hide (show lineB R P p i=true by
        rw [HLB.out]
        exact any_range_true hlt (any_range_true (show 0<4 by omega) (by rw [HD.out,HT.out])))
       clear hrun
       go_wp2
       go_ret
       exact⟨by rw [HL.out];rfl,qT HX.out (qT XO.out (qD XJ6.out q))⟩
    ·skip
     have hi:=HI.out.2.1
     have HD:=hide (show dirB R.width R.height P.cells p n k 1=runXY R.width R.height P.cells p 0 1 n ((k:Int) % R.width) ((k:Int) / R.width) from rfl)
     obtain⟨xa,kd⟩:=blks1 wr #[.int .i64 0,.int .i64 (1)] 191
     have XJ:=hide (qT hext xa)
     have l1:=K1.out.ext (qT XO.out XJ.out)
     clear hext
     have HIJ:=hide hi
     go_wp2_with fail
     generalize wr.alloc _=w5 at *
     generalize wr.heap.size=BD at *
     have r1:w5.cell? ⟨B1,1,none⟩=some (.int .i64 R.width):=l1.cell 1
     clear xa hi HIJ
     go_quiet (fail)
     clear r1
     have x6:=drewN_ext w5 nq
     have XJ6:=hide (qT XJ.out x6)
     have KD:=hide (kd.ext x6)
     have L1:=hide (l1.ext x6)
     have L2:=hide ((K2.out.ext (qT XO.out XJ6.out)))
     have L3:=hide ((K3.out.ext (qT XO.out XJ6.out)))
     have C6:=hide (HC.out.ext (qT XO.out XJ6.out))
     clear x6 kd l1
     generalize w5.drewN nq=w6 at *
     go_wp2
     generalize hx0:(k:Int) % R.width=x0' at *
     generalize hy0:(k:Int) / R.width=y0' at *
     have HX0:=hide hx0
     have HY0:=hide hy0
     clear hx0 hy0
     have n0:(0:Int)≤(n:Int):=by omega
     go_loopw [13,14,15] (fun x y c wi=>∃ i q:Nat,i≤n∧c=.int .i64 i∧x=.int .i64 (x0')∧y=.int .i64 (y0'+(i:Int))∧wi=w6.drewN q∧Hid (runXY R.width R.height P.cells p 0 1 n x0' y0'=runXY R.width R.height P.cells p 0 1 (n-i) (x0') (y0'+(i:Int)))) (fun _ _ c _=>n-(intOf c).toNat)
     case atStart=>exact⟨0,0,Nat.zero_le _,rfl,by go_num,by go_num,rfl,hide (by simp)⟩
     case round =>
      obtain⟨i,q,hi,rfl,rfl,rfl,rfl,hrun⟩:=hrel
      by_cases hin:i<n
      ·have hx:-1000≤x0'∧x0'≤1000:=by omega
       have hy:-1000≤y0'+(i:Int)∧y0'+(i:Int)≤1000:=by omega
       have e7:=drewN_ext w6 q
       have HCALL:=hide (HOWN.out (x0') (y0'+(i:Int)) B1 B2 B3 cA cc (w6.drewN q) hx hy ((L1.out.ext e7).cell 1) ((L1.out.ext e7).cell 2) ((L2.out.ext e7).cell 0) ((L3.out.ext e7).cell 0) (C6.out.ext e7))
       have HS:=hide (hrun.out.trans (by rw [show n-i=(n-(i+1))+1 by omega,runXY_succ]))
       have kd0:w6.cell? ⟨BD,0,none⟩=some (.int .i64 0):=KD.out.cell 0
       have kd1:w6.cell? ⟨BD,1,none⟩=some (.int .i64 (1)):=KD.out.cell 1
       have ws0:IntKind.i64.wrap (x0')=x0':=by rw [IntKind.wrap_i64];omega
       have ws1:IntKind.i64.wrap (y0'+(i:Int)+1)=y0'+(i:Int)+1:=by rw [IntKind.wrap_i64];omega
       have ws2:IntKind.i64.wrap ((i:Int)+1)=(i:Int)+1:=by rw [IntKind.wrap_i64];omega
       clear e7 hx hy
       go_wp2_with fail
       refine HCALL.out.mono ?_
       rintro e w7 ⟨rfl,rfl⟩
       cases ho:ownXY R.width R.height P.cells p (x0') (y0'+(i:Int))
       ·have HF:=hide (show runXY R.width R.height P.cells p 0 1 n x0' y0'=false by rw [HS.out,ho];rfl)
        clear ho HS hrun HCALL
        have tn:((i:Int) == (n:Int))=false:=by simp;omega
        have tn2:(i == n)=false:=by simp;omega
        go_wp2
        go_roundw
        case rel=>exact⟨1+1,by omega,by go_num,qD XJ6.out q,hide (fun d hd=>by
         rcases(by omega:d<1∨d=1) with h | h
         ·exact hnd.out d h
         ·subst h;rw [HD.out,HF.out])⟩
        case measure=>simp [intOf]
       ·have HT:=hide (show runXY R.width R.height P.cells p 0 1 n x0' y0'=runXY R.width R.height P.cells p 0 1 (n-(i+1)) (x0'+0) (y0'+(i:Int)+1) by rw [HS.out,ho];rfl)
        clear ho HS hrun HCALL
        go_wp2_with fail
        go_quiet (fail)
        clear ws0 ws1 ws2
        go_wp2
        go_roundw
        case rel =>
         repeat apply Exists.intro
         refine And.intro ?_ rfl
         exact⟨i+1,q+nq,by omega,by go_num,by go_num,by go_num,drewN_two _ _ _,hide (by rw [HT.out];congr 1 <;> omega)⟩
        case measure=>simp [intOf];omega
      ·obtain rfl:i=n:=by omega
       have HT:=hide (show runXY R.width R.height P.cells p 0 1 i x0' y0'=true by rw [hrun.out,Nat.sub_self];rfl)
       have HL:=hide (show lineB R P p i=true by
        rw [HLB.out]
        exact any_range_true hlt (any_range_true (show 1<4 by omega) (by rw [HD.out,HT.out])))
       clear hrun
       go_wp2
       go_ret
       exact⟨by rw [HL.out];rfl,qT HX.out (qT XO.out (qD XJ6.out q))⟩
    ·skip
     have hi:=HI.out.2.2.1
     have HD:=hide (show dirB R.width R.height P.cells p n k 2=runXY R.width R.height P.cells p 1 1 n ((k:Int) % R.width) ((k:Int) / R.width) from rfl)
     obtain⟨xa,kd⟩:=blks1 wr #[.int .i64 1,.int .i64 (1)] 191
     have XJ:=hide (qT hext xa)
     have l1:=K1.out.ext (qT XO.out XJ.out)
     clear hext
     have HIJ:=hide hi
     go_wp2_with fail
     generalize wr.alloc _=w5 at *
     generalize wr.heap.size=BD at *
     have r1:w5.cell? ⟨B1,1,none⟩=some (.int .i64 R.width):=l1.cell 1
     clear xa hi HIJ
     go_quiet (fail)
     clear r1
     have x6:=drewN_ext w5 nq
     have XJ6:=hide (qT XJ.out x6)
     have KD:=hide (kd.ext x6)
     have L1:=hide (l1.ext x6)
     have L2:=hide ((K2.out.ext (qT XO.out XJ6.out)))
     have L3:=hide ((K3.out.ext (qT XO.out XJ6.out)))
     have C6:=hide (HC.out.ext (qT XO.out XJ6.out))
     clear x6 kd l1
     generalize w5.drewN nq=w6 at *
     go_wp2
     generalize hx0:(k:Int) % R.width=x0' at *
     generalize hy0:(k:Int) / R.width=y0' at *
     have HX0:=hide hx0
     have HY0:=hide hy0
     clear hx0 hy0
     have n0:(0:Int)≤(n:Int):=by omega
     go_loopw [13,14,15] (fun x y c wi=>∃ i q:Nat,i≤n∧c=.int .i64 i∧x=.int .i64 (x0'+(i:Int))∧y=.int .i64 (y0'+(i:Int))∧wi=w6.drewN q∧Hid (runXY R.width R.height P.cells p 1 1 n x0' y0'=runXY R.width R.height P.cells p 1 1 (n-i) (x0'+(i:Int)) (y0'+(i:Int)))) (fun _ _ c _=>n-(intOf c).toNat)
     case atStart=>exact⟨0,0,Nat.zero_le _,rfl,by go_num,by go_num,rfl,hide (by simp)⟩
     case round =>
      obtain⟨i,q,hi,rfl,rfl,rfl,rfl,hrun⟩:=hrel
      by_cases hin:i<n
      ·have hx:-1000≤x0'+(i:Int)∧x0'+(i:Int)≤1000:=by omega
       have hy:-1000≤y0'+(i:Int)∧y0'+(i:Int)≤1000:=by omega
       have e7:=drewN_ext w6 q
       have HCALL:=hide (HOWN.out (x0'+(i:Int)) (y0'+(i:Int)) B1 B2 B3 cA cc (w6.drewN q) hx hy ((L1.out.ext e7).cell 1) ((L1.out.ext e7).cell 2) ((L2.out.ext e7).cell 0) ((L3.out.ext e7).cell 0) (C6.out.ext e7))
       have HS:=hide (hrun.out.trans (by rw [show n-i=(n-(i+1))+1 by omega,runXY_succ]))
       have kd0:w6.cell? ⟨BD,0,none⟩=some (.int .i64 1):=KD.out.cell 0
       have kd1:w6.cell? ⟨BD,1,none⟩=some (.int .i64 (1)):=KD.out.cell 1
       have ws0:IntKind.i64.wrap (x0'+(i:Int)+1)=x0'+(i:Int)+1:=by rw [IntKind.wrap_i64];omega
       have ws1:IntKind.i64.wrap (y0'+(i:Int)+1)=y0'+(i:Int)+1:=by rw [IntKind.wrap_i64];omega
       have ws2:IntKind.i64.wrap ((i:Int)+1)=(i:Int)+1:=by rw [IntKind.wrap_i64];omega
       clear e7 hx hy
       go_wp2_with fail
       refine HCALL.out.mono ?_
       rintro e w7 ⟨rfl,rfl⟩
       cases ho:ownXY R.width R.height P.cells p (x0'+(i:Int)) (y0'+(i:Int))
       ·have HF:=hide (show runXY R.width R.height P.cells p 1 1 n x0' y0'=false by rw [HS.out,ho];rfl)
        clear ho HS hrun HCALL
        have tn:((i:Int) == (n:Int))=false:=by simp;omega
        have tn2:(i == n)=false:=by simp;omega
        go_wp2
        go_roundw
        case rel=>exact⟨2+1,by omega,by go_num,qD XJ6.out q,hide (fun d hd=>by
         rcases(by omega:d<2∨d=2) with h | h
         ·exact hnd.out d h
         ·subst h;rw [HD.out,HF.out])⟩
        case measure=>simp [intOf]
       ·have HT:=hide (show runXY R.width R.height P.cells p 1 1 n x0' y0'=runXY R.width R.height P.cells p 1 1 (n-(i+1)) (x0'+(i:Int)+1) (y0'+(i:Int)+1) by rw [HS.out,ho];rfl)
        clear ho HS hrun HCALL
        go_wp2_with fail
        go_quiet (fail)
        clear ws0 ws1 ws2
        go_wp2
        go_roundw
        case rel =>
         repeat apply Exists.intro
         refine And.intro ?_ rfl
         exact⟨i+1,q+nq,by omega,by go_num,by go_num,by go_num,drewN_two _ _ _,hide (by rw [HT.out];congr 1 <;> omega)⟩
        case measure=>simp [intOf];omega
      ·obtain rfl:i=n:=by omega
       have HT:=hide (show runXY R.width R.height P.cells p 1 1 i x0' y0'=true by rw [hrun.out,Nat.sub_self];rfl)
       have HL:=hide (show lineB R P p i=true by
        rw [HLB.out]
        exact any_range_true hlt (any_range_true (show 2<4 by omega) (by rw [HD.out,HT.out])))
       clear hrun
       go_wp2
       go_ret
       exact⟨by rw [HL.out];rfl,qT HX.out (qT XO.out (qD XJ6.out q))⟩
    ·skip
     have hi:=HI.out.2.2.2
     have HD:=hide (show dirB R.width R.height P.cells p n k 3=runXY R.width R.height P.cells p 1 (-1) n ((k:Int) % R.width) ((k:Int) / R.width) from rfl)
     obtain⟨xa,kd⟩:=blks1 wr #[.int .i64 1,.int .i64 ((-1))] 191
     have XJ:=hide (qT hext xa)
     have l1:=K1.out.ext (qT XO.out XJ.out)
     clear hext
     have HIJ:=hide hi
     go_wp2_with fail
     generalize wr.alloc _=w5 at *
     generalize wr.heap.size=BD at *
     have r1:w5.cell? ⟨B1,1,none⟩=some (.int .i64 R.width):=l1.cell 1
     clear xa hi HIJ
     go_quiet (fail)
     clear r1
     have x6:=drewN_ext w5 nq
     have XJ6:=hide (qT XJ.out x6)
     have KD:=hide (kd.ext x6)
     have L1:=hide (l1.ext x6)
     have L2:=hide ((K2.out.ext (qT XO.out XJ6.out)))
     have L3:=hide ((K3.out.ext (qT XO.out XJ6.out)))
     have C6:=hide (HC.out.ext (qT XO.out XJ6.out))
     clear x6 kd l1
     generalize w5.drewN nq=w6 at *
     go_wp2
     generalize hx0:(k:Int) % R.width=x0' at *
     generalize hy0:(k:Int) / R.width=y0' at *
     have HX0:=hide hx0
     have HY0:=hide hy0
     clear hx0 hy0
     have n0:(0:Int)≤(n:Int):=by omega
     go_loopw [13,14,15] (fun x y c wi=>∃ i q:Nat,i≤n∧c=.int .i64 i∧x=.int .i64 (x0'+(i:Int))∧y=.int .i64 (y0'-(i:Int))∧wi=w6.drewN q∧Hid (runXY R.width R.height P.cells p 1 (-1) n x0' y0'=runXY R.width R.height P.cells p 1 (-1) (n-i) (x0'+(i:Int)) (y0'-(i:Int)))) (fun _ _ c _=>n-(intOf c).toNat)
     case atStart=>exact⟨0,0,Nat.zero_le _,rfl,by go_num,by go_num,rfl,hide (by simp)⟩
     case round =>
      obtain⟨i,q,hi,rfl,rfl,rfl,rfl,hrun⟩:=hrel
      by_cases hin:i<n
      ·have hx:-1000≤x0'+(i:Int)∧x0'+(i:Int)≤1000:=by omega
       have hy:-1000≤y0'-(i:Int)∧y0'-(i:Int)≤1000:=by omega
       have e7:=drewN_ext w6 q
       have HCALL:=hide (HOWN.out (x0'+(i:Int)) (y0'-(i:Int)) B1 B2 B3 cA cc (w6.drewN q) hx hy ((L1.out.ext e7).cell 1) ((L1.out.ext e7).cell 2) ((L2.out.ext e7).cell 0) ((L3.out.ext e7).cell 0) (C6.out.ext e7))
       have HS:=hide (hrun.out.trans (by rw [show n-i=(n-(i+1))+1 by omega,runXY_succ]))
       have kd0:w6.cell? ⟨BD,0,none⟩=some (.int .i64 1):=KD.out.cell 0
       have kd1:w6.cell? ⟨BD,1,none⟩=some (.int .i64 ((-1))):=KD.out.cell 1
       have ws0:IntKind.i64.wrap (x0'+(i:Int)+1)=x0'+(i:Int)+1:=by rw [IntKind.wrap_i64];omega
       have ws1:IntKind.i64.wrap (y0'-(i:Int) + -1)=y0'-(i:Int) + -1:=by rw [IntKind.wrap_i64];omega
       have ws2:IntKind.i64.wrap (y0'-(i:Int)-1)=y0'-(i:Int)-1:=by rw [IntKind.wrap_i64];omega
       have ws3:IntKind.i64.wrap ((i:Int)+1)=(i:Int)+1:=by rw [IntKind.wrap_i64];omega
       clear e7 hx hy
       go_wp2_with fail
       refine HCALL.out.mono ?_
       rintro e w7 ⟨rfl,rfl⟩
       cases ho:ownXY R.width R.height P.cells p (x0'+(i:Int)) (y0'-(i:Int))
       ·have HF:=hide (show runXY R.width R.height P.cells p 1 (-1) n x0' y0'=false by rw [HS.out,ho];rfl)
        clear ho HS hrun HCALL
        have tn:((i:Int) == (n:Int))=false:=by simp;omega
        have tn2:(i == n)=false:=by simp;omega
        go_wp2
        go_roundw
        case rel=>exact⟨3+1,by omega,by go_num,qD XJ6.out q,hide (fun d hd=>by
         rcases(by omega:d<3∨d=3) with h | h
         ·exact hnd.out d h
         ·subst h;rw [HD.out,HF.out])⟩
        case measure=>simp [intOf]
       ·have HT:=hide (show runXY R.width R.height P.cells p 1 (-1) n x0' y0'=runXY R.width R.height P.cells p 1 (-1) (n-(i+1)) (x0'+(i:Int)+1) (y0'-(i:Int)+(-1)) by rw [HS.out,ho];rfl)
        clear ho HS hrun HCALL
        go_wp2_with fail
        go_quiet (fail)
        clear ws0 ws1 ws2 ws3
        go_wp2
        go_roundw
        case rel =>
         repeat apply Exists.intro
         refine And.intro ?_ rfl
         exact⟨i+1,q+nq,by omega,by go_num,by go_num,by go_num,drewN_two _ _ _,hide (by rw [HT.out];congr 1 <;> omega)⟩
        case measure=>simp [intOf];omega
      ·obtain rfl:i=n:=by omega
       have HT:=hide (show runXY R.width R.height P.cells p 1 (-1) i x0' y0'=true by rw [hrun.out,Nat.sub_self];rfl)
       have HL:=hide (show lineB R P p i=true by
        rw [HLB.out]
        exact any_range_true hlt (any_range_true (show 3<4 by omega) (by rw [HD.out,HT.out])))
       clear hrun
       go_wp2
       go_ret
       exact⟨by rw [HL.out];rfl,qT HX.out (qT XO.out (qD XJ6.out q))⟩
    ·have HE:=hide (show (List.range 4).any (dirB R.width R.height P.cells p n k)=false from any_range_false hnd.out)
     go_wp2
     go_roundw
     case rel=>exact⟨k+1,by omega,by go_num,qT XO.out hext,hide (fun s hs=>by
      rcases(by omega:s<k∨s=k) with h | h
      ·exact hno.out s h
      ·subst h;exact HE.out)⟩
     case measure=>simp [intOf];omega
  ·obtain rfl:k=P.cells.length:=by omega
   have HE:=hide (show lineB R P p n=false by rw [HLB.out];exact any_range_false hno.out)
   go_wp2
   go_ret
   exact⟨by rw [HE.out];rfl,qT HX.out hext⟩
def reachT(R:RM)(P:PosM)(piece p:Int)(s:Nat):Bool:=decide (P.cells.getD s 0=2 * piece+p+1) && lastM R p s
set_option maxHeartbeats 4000000 in
set_option maxRecDepth 100000 in
theorem holds_line(R:RM)(P:PosM)(p piece:Int)(n:Nat)(l:Bool)(v u:Value)(w:World)(hR:RA w v R)(hP:PA w u P)(hV:Valid R)(hS:Sound R P)(hp:p=0∨p=1)(hn:n≤64) :
  Calls Crz.prog 76 #[v,u,.agg #[.int .i64 0,.int .i64 piece,.int .i64 (n:Int),.bool l],.int .i64 p] w fun e w'=>e=.returned (.bool (lineB R P p n))∧Ext w w':=by
 have HL:=hide (fun W (hW:Ext w W)=>line_any R P p n v u W (hR.ext hW) (hP.ext hW) hV hS hp hn)
 obtain⟨pA,pc,sA,sc,eA,ec,rfl,-⟩:=hR
 obtain⟨cA,cc,aA,ac,bA,bc,rfl,-⟩:=hP
 obtain⟨x1,k1,k2,k3⟩:=blks3 w #[.string R.name,.int .i64 R.width,.int .i64 R.height,.slice pA R.pieces.length pc,.slice sA R.start.length sc,.bool R.falls,.bool R.keeps,.slice eA R.ends.length ec,.int .i64 R.blocked,.int .i64 R.quiet,.int .i64 R.rept] 26 #[.slice cA P.cells.length cc,.slice aA P.hand0.length ac,.slice bA P.hand1.length bc,.int .i64 P.turn,.int .i64 P.quiet] 29 #[.int .i64 0,.int .i64 piece,.int .i64 (n:Int),.bool l] 75
 have HX:=hide x1
 have f1:=k1.cell
 have f2:=k2.cell
 have f3:=k3.cell
 clear x1 k1 k2 k3 hV hS hp hn
 generalize lineB R P p n=b at *
 go_enter Crz.func76,Tryz.ntmps76
 go_wp2_with fail
 refine(HL.out _ HX.out).mono ?_
 rintro e w2 ⟨rfl,x2⟩
 clear f1 f2 f3
 go_wp2
 go_ret
 exact⟨rfl,qT HX.out x2⟩
set_option maxHeartbeats 4000000 in
set_option maxRecDepth 100000 in
theorem holds_reach(R:RM)(P:PosM)(p piece n:Int)(l:Bool)(v u:Value)(w:World)(hR:RA w v R)(hP:PA w u P)(hV:Valid R)(hS:Sound R P)(hp:p=0∨p=1)(h0:0≤piece)(h6:piece≤6) :
  Calls Crz.prog 76 #[v,u,.agg #[.int .i64 1,.int .i64 piece,.int .i64 n,.bool l],.int .i64 p] w fun e w'=>e=.returned (.bool (reachB R P piece p))∧Ext w w':=by
 have ha:=hS.area
 have h64:P.cells.length≤64:=by have:=area_bd _ _ hV.side;omega
 have HL:=hide (fun (s:Nat) (hs:s<P.cells.length) W (hW:Ext w W)=>IsLast_any R v p s W (hR.ext hW) hV.side.1 hV.side.2.1 hV.side.2.2.1 hV.side.2.2.2 hp (by omega) (by omega))
 have p0:0≤p:=by omega
 have p1:p≤1:=by omega
 obtain⟨pA,pc,sA,sc,eA,ec,rfl,-⟩:=hR
 obtain⟨cA,cc,aA,ac,bA,bc,rfl,hcc,-⟩:=hP
 obtain⟨x1,k1,k2,k3⟩:=blks3 w #[.string R.name,.int .i64 R.width,.int .i64 R.height,.slice pA R.pieces.length pc,.slice sA R.start.length sc,.bool R.falls,.bool R.keeps,.slice eA R.ends.length ec,.int .i64 R.blocked,.int .i64 R.quiet,.int .i64 R.rept] 26 #[.slice cA P.cells.length cc,.slice aA P.hand0.length ac,.slice bA P.hand1.length bc,.int .i64 P.turn,.int .i64 P.quiet] 29 #[.int .i64 1,.int .i64 piece,.int .i64 n,.bool l] 75
 have HX:=hide x1
 have K1:=hide k1
 have K3:=hide k3
 have HC:=hide (hcc.ext x1)
 have f2:=k2.cell
 have f3:=k3.cell
 clear x1 k1 k2 k3 hV hS hp hcc ha
 go_enter Crz.func76,Tryz.ntmps76
 go_wp2
 clear f2 f3
 generalize ((w.alloc _).alloc _).alloc _=w2 at *
 generalize w.heap.size+1+1=B3 at *
 generalize w.heap.size+1=B2 at *
 generalize hB1:w.heap.size=B1 at *
 have HB1:=hide hB1
 clear hB1
 go_loopw [29] (fun i wr=>∃ k:Nat,k≤P.cells.length∧i=.int .i64 k∧Ext w2 wr∧Hid (∀ s,s<k→reachT R P piece p s=false)) (fun i _=>P.cells.length-(intOf i).toNat)
 case atStart=>exact⟨0,Nat.zero_le _,rfl,Below.refl _ _,hide (fun s hs=>by omega)⟩
 case round =>
  obtain⟨k,hk,rfl,hext,hno⟩:=hrel
  have XO:=hide hext
  clear hext
  by_cases hlt:k<P.cells.length
  ·obtain⟨bC,oC,rfl,hz⟩:=(HC.out.ext XO.out) k hlt
   have f1:=(K1.out.ext XO.out).cell
   have f3:=(K3.out.ext XO.out).cell
   have HT:=hide (show reachT R P piece p k=(decide (P.cells.getD k 0=2 * piece+p+1) && lastM R p k) from rfl)
   have HLC:=hide (HL.out k hlt _ (qT HX.out XO.out))
   generalize P.cells.getD k 0=z at *
   have hstep:Hid (reachT R P piece p k=false→∀ s,s<k+1→reachT R P piece p s=false):=hide (fun h s hs=>by
    rcases(by omega:s<k∨s=k) with h1 | h1
    ·exact hno.out s h1
    ·subst h1;exact h)
   by_cases hzc:z=2 * piece+p+1
   ·have t0:(z == 2 * piece+p+1)=true:=by simpa using hzc
    have HT2:=hide (show reachT R P piece p k=lastM R p k by rw [HT.out,decide_eq_true hzc];rfl)
    clear HT hzc
    go_wp2_with fail
    refine HLC.out.mono ?_
    rintro e w3 ⟨rfl,x3⟩
    have X3:=hide (qT XO.out x3)
    clear f1 f3 x3
    cases hl:lastM R p k
    ·have HF:=hide (hstep.out (by rw [HT2.out,hl]))
     clear hl
     go_wp2
     go_roundw
     case rel=>exact⟨k+1,by omega,by go_num,X3.out,HF⟩
     case measure=>simp [intOf];omega
    ·have HF:=hide (show reachB R P piece p=true from any_range_true hlt (show reachT R P piece p k=true by rw [HT2.out,hl]))
     clear hl
     go_wp2
     go_ret
     exact⟨by rw [HF.out];rfl,qT HX.out X3.out⟩
   ·have t0:(z == 2 * piece+p+1)=false:=by simpa using hzc
    have HF:=hide (hstep.out (by rw [HT.out,decide_eq_false hzc];rfl))
    clear HT hzc f1
    go_wp2
    go_roundw
    case rel=>exact⟨k+1,by omega,by go_num,XO.out,HF⟩
    case measure=>simp [intOf];omega
  ·obtain rfl:k=P.cells.length:=by omega
   have HE:=hide (show reachB R P piece p=false from any_range_false hno.out)
   go_wp2
   go_ret
   exact⟨by rw [HE.out];rfl,qT HX.out XO.out⟩
set_option maxHeartbeats 4000000 in
set_option maxRecDepth 100000 in
theorem holds_take(R:RM)(P:PosM)(p piece n:Int)(l:Bool)(v u:Value)(w:World)(hR:RA w v R)(hP:PA w u P)(hV:Valid R)(hS:Sound R P)(hp:p=0∨p=1)(h0:0≤piece)(h6:piece≤6) :
  Calls Crz.prog 76 #[v,u,.agg #[.int .i64 2,.int .i64 piece,.int .i64 n,.bool l],.int .i64 p] w fun e w'=>e=.returned (.bool (decide ((countC P.cells (2 * piece+1-p+1):Int)<n)))∧Ext w w':=by
 have ha:=hS.area
 have h64:P.cells.length≤64:=by have:=area_bd _ _ hV.side;omega
 have p0:0≤p:=by omega
 have p1:p≤1:=by omega
 obtain⟨pA,pc,sA,sc,eA,ec,rfl,-⟩:=hR
 obtain⟨cA,cc,aA,ac,bA,bc,rfl,hcc,-⟩:=hP
 obtain⟨x1,k1,k2,k3⟩:=blks3 w #[.string R.name,.int .i64 R.width,.int .i64 R.height,.slice pA R.pieces.length pc,.slice sA R.start.length sc,.bool R.falls,.bool R.keeps,.slice eA R.ends.length ec,.int .i64 R.blocked,.int .i64 R.quiet,.int .i64 R.rept] 26 #[.slice cA P.cells.length cc,.slice aA P.hand0.length ac,.slice bA P.hand1.length bc,.int .i64 P.turn,.int .i64 P.quiet] 29 #[.int .i64 2,.int .i64 piece,.int .i64 n,.bool l] 75
 have HX:=hide x1
 have K3:=hide k3
 have HC:=hide (hcc.ext x1)
 have f2:=k2.cell
 have f3:=k3.cell
 clear x1 k1 k2 k3 hV hS hp hcc ha
 go_enter Crz.func76,Tryz.ntmps76
 go_wp2
 clear f2 f3
 generalize ((w.alloc _).alloc _).alloc _=w2 at *
 generalize w.heap.size+1+1=B3 at *
 generalize w.heap.size+1=B2 at *
 generalize hB1:w.heap.size=B1 at *
 have HB1:=hide hB1
 clear hB1
 have f3:=K3.out.cell
 go_loop [11,52] (fun o i=>∃ k:Nat,k≤P.cells.length∧i=.int .i64 k∧o=.int .i64 (countC (P.cells.take k) (2 * piece+1-p+1):Int)) (fun _ i=>P.cells.length-(intOf i).toNat)
 case atStart=>exact⟨0,Nat.zero_le _,rfl,rfl⟩
 case round =>
  obtain⟨k,hk,rfl,rfl⟩:=hrel
  have hcl:countC (P.cells.take k) (2 * piece+1-p+1)≤64:=Nat.le_trans (countC_le _ _) (by rw [List.length_take];omega)
  by_cases hlt:k<P.cells.length
  ·obtain⟨bC,oC,rfl,hz⟩:=HC.out k hlt
   have HS:=hide (countC_take P.cells (2 * piece+1-p+1) k hlt)
   generalize countC (P.cells.take k) (2 * piece+1-p+1)=s at *
   generalize P.cells.getD k 0=z at *
   by_cases hzc:z=2 * piece+1-p+1
   ·have t0:(z == 2 * piece+1-p+1)=true:=by simpa using hzc
    have HN:=hide (HS.out.trans (by rw [if_pos hzc]))
    clear HS hzc
    go_wp2
    go_round
    case rel=>exact⟨k+1,by omega,by go_num,by rw [HN.out];go_num⟩
    case measure=>simp [intOf];omega
   ·have t0:(z == 2 * piece+1-p+1)=false:=by simpa using hzc
    have HN:=hide (HS.out.trans (by rw [if_neg hzc,Nat.add_zero]))
    clear HS hzc
    go_wp2
    go_round
    case rel=>exact⟨k+1,by omega,by go_num,by rw [HN.out]⟩
    case measure=>simp [intOf];omega
  ·obtain rfl:k=P.cells.length:=by omega
   have HE:=hide (show countC (P.cells.take P.cells.length) (2 * piece+1-p+1)=countC P.cells (2 * piece+1-p+1) by rw [List.take_length])
   clear hcl
   go_wp2
   go_ret
   exact⟨by rw [← HE.out];rfl,HX.out⟩
theorem holds_any(R:RM)(P:PosM)(p:Int)(x:EndM)(v u:Value)(w:World)(hR:RA w v R)(hP:PA w u P)(hV:Valid R)(hS:Sound R P)(hp:p=0∨p=1)(hx:x∈R.ends) :
  Calls Crz.prog 76 #[v,u,.agg #[.int .i64 x.kind,.int .i64 x.piece,.int .i64 x.count,.bool x.loses],.int .i64 p] w fun e w'=>e=.returned (.bool (holdsB R P p x))∧Ext w w':=by
 have hf:=ends_facts hV hx
 have h6:=hV.pieces6
 obtain⟨kind,piece,count,loses⟩:=x
 simp only at hf ⊢
 rcases hf with ⟨rfl,h1,h2⟩ | ⟨rfl,h1,h2⟩ | ⟨rfl,h1,h2,h3,h4⟩
 ·obtain⟨n,rfl⟩:=Int.eq_ofNat_of_zero_le (show 0≤count by omega)
  have h:=holds_line R P p piece n loses v u w hR hP hV hS hp (by omega)
  exact h.mono fun e w' ⟨he,hx⟩=>⟨by rw [he];simp [holdsB],hx⟩
 ·have h:=holds_reach R P p piece count loses v u w hR hP hV hS hp h1 (by omega)
  exact h.mono fun e w' ⟨he,hx⟩=>⟨by rw [he];simp [holdsB],hx⟩
 ·have h:=holds_take R P p piece count loses v u w hR hP hV hS hp h3 (by omega)
  exact h.mono fun e w' ⟨he,hx⟩=>⟨by rw [he];simp [holdsB],hx⟩
end Go.Proofs.YtdoibgmmijhlfaaGreat
