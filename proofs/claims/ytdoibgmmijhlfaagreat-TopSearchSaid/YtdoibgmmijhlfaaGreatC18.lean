/- MovesW2a -/
import Derived.Test.YtdoibgmmijhlfaaGreatC16
namespace Go.Proofs.YtdoibgmmijhlfaaGreat
open Go.ChangeShapes Go.WideShapes Go.ChangeAt Go.RowKit Go.Shelf
set_option linter.unusedVariables false
set_option maxHeartbeats 4000000 in
set_option maxRecDepth 100000 in
theorem way_core0(n:ByteArray)(W H dx dy most take a8 a9 a10:Int)(f5 f6:Bool)(pA sA eA cA aA bA:Option Addr)(pn pc sn sc en ec cc an ac bn bc:Nat)(q:Int)(cs:List Int)(s:Nat)(w:World)
  (hside:okSide W H) (hdx:-7≤dx∧dx≤7) (hdy:-7≤dy∧dy≤7) (hmost:1≤most∧most≤7) (htake:take=0∨take=1∨take=2)
  (hlen:(cs.length:Int)=W * H) (hs:s<cs.length) (hb:∀ c∈cs,0≤c∧c≤12) (hc:IntsAt w cA cs) :
  Calls Crz.prog 59 #[.agg #[.string n,.int .i64 W,.int .i64 H,.slice pA pn pc,.slice sA sn sc,.bool f5,.bool f6,.slice eA en ec,.int .i64 a8,.int .i64 a9,.int .i64 a10],
   .agg #[.slice cA cs.length cc,.slice aA an ac,.slice bA bn bc,.int .i64 0,.int .i64 q],.int .i64 (s:Int),.agg #[.int .i64 dx,.int .i64 dy,.int .i64 most,.int .i64 take]] w
   (WayPost w (wayFrom W H 0 take dx dy cs most.toNat ((s:Int) % W) ((s:Int) / W))):=by
 obtain⟨M,rfl⟩:∃ M:Nat,most=M:=⟨most.toNat,by omega⟩
 rw [Int.toNat_natCast]
 have har:=area_bd W H hside
 obtain⟨x0,x1,y0,y1⟩:=sq_bd W H s hside (by omega) (by omega)
 obtain⟨W1,W8,H1,H8⟩:=hside
 have HB:=hide hb
 have HLEN:=hide hlen
 have h64:cs.length≤64:=by omega
 have hs64:(s:Int)≤64:=by omega
 clear hb hlen har hs
 ·obtain⟨xa,k1,k2,k3⟩:=blks3 w #[.string n,.int .i64 W,.int .i64 H,.slice pA pn pc,.slice sA sn sc,.bool f5,.bool f6,.slice eA en ec,.int .i64 a8,.int .i64 a9,.int .i64 a10] 26 #[.slice cA cs.length cc,.slice aA an ac,.slice bA bn bc,.int .i64 0,.int .i64 q] 29 #[.int .i64 dx,.int .i64 dy,.int .i64 (M:Int),.int .i64 take] 110
  have hc1:=hide (hc.ext xa)
  have X:=hide xa
  clear hc xa
  go_enter Crz.func59,Tryz.ntmps59
  go_wp2
  generalize (((w.alloc _).alloc _).alloc _)=w2 at *
  generalize w.heap.size+1+1=B3 at *
  generalize w.heap.size+1=B2 at *
  generalize hB1:w.heap.size=B1 at *
  have HB1:=hide hB1
  clear hB1
  have r1:w2.cell? ⟨B1,1,none⟩=some (.int .i64 W):=k1.cell 1
  go_quiet (fail)
  clear r1
  have y0':=(drewN_ext w2 nq)
  have k1:=hide (k1.ext y0')
  have k2:=hide (k2.ext y0')
  have k3:=hide (k3.ext y0')
  have hc1:=hide (hc1.out.ext y0')
  have X:=hide (qT X.out y0')
  clear y0'
  generalize w2.drewN nq=w3 at *
  have r1:w3.cell? ⟨B1,1,none⟩=some (.int .i64 W):=k1.out.cell 1
  have r2:w3.cell? ⟨B3,2,none⟩=some (.int .i64 (M:Int)):=k3.out.cell 2
  go_wp2
  clear r1 r2
  go_loopw [9,11,12,13,14,32] (fun out x y _ _ i wr=>∃ (k:Nat) (a b:Int) (xs:List Int),k≤M∧i=.int .i64 k∧x=.int .i64 a∧y=.int .i64 b∧0≤a∧a<W∧0≤b∧b<H∧xs.length≤k∧OwnI w3 wr out xs∧Ext w3 wr ∧
   Hid (xs++wayFrom W H 0 take dx dy cs (M-k) a b=wayFrom W H 0 take dx dy cs M ((s:Int) % W) ((s:Int) / W))) (fun _ _ _ _ _ i _=>M-(intOf i).toNat)
  case atStart=>exact⟨0,_,_,[],Nat.zero_le _,rfl,rfl,rfl,x0,x1,y0,y1,Nat.le_refl _,OwnI.nil _ _,Below.refl _ _,hide rfl⟩
  case round =>
   generalize wayFrom W H 0 take dx dy cs M ((s:Int) % W) ((s:Int) / W)=T at *
   obtain⟨k,a,b,xs,hk,rfl,rfl,rfl,a0,a1,b0,b1,hl,hown,hext,hT⟩:=hrel
   have hxt:=hide (qT X.out hext)
   have l1:=(k1.out.ext hext)
   have l2:=(k2.out.ext hext)
   have l3:=(k3.out.ext hext)
   have hext':=hide hext
   have own':=hide hown
   clear hext hown
   have r11:wr.cell? ⟨B1,1,none⟩=some (.int .i64 W):=l1.cell 1
   have r12:wr.cell? ⟨B1,2,none⟩=some (.int .i64 H):=l1.cell 2
   have r20:wr.cell? ⟨B2,0,none⟩=some (.slice cA cs.length cc):=l2.cell 0
   have r23:wr.cell? ⟨B2,3,none⟩=some (.int .i64 0):=l2.cell 3
   have r30:wr.cell? ⟨B3,0,none⟩=some (.int .i64 dx):=l3.cell 0
   have r32:wr.cell? ⟨B3,2,none⟩=some (.int .i64 (M:Int)):=l3.cell 2
   have r33:wr.cell? ⟨B3,3,none⟩=some (.int .i64 take):=l3.cell 3
   clear l1 l2 l3
   by_cases hlt:k<M
   ·by_cases hout:a+dx<0∨W≤a+dx∨b+dy<0∨H≤b+dy
    ·have HT:Hid (T=xs):=hide (by rw [← hT.out,wayFrom_out hout,List.append_nil])
     have hout':a+dx<0∨(0≤a+dx∧W≤a+dx)∨(0≤a+dx∧a+dx<W∧b+dy<0)∨(0≤a+dx∧a+dx<W∧0≤b+dy∧H≤b+dy):=by omega
     clear hT hout
     rcases hout' with h1 | ⟨h1,h2⟩ | ⟨h1,h2,h3⟩ | ⟨h1,h2,h3,h4⟩
     all_goals
      go_wp2
      go_ret
      exact⟨_,rfl,by rw [HT.out];exact own'.out.base X.out,hxt.out⟩
    ·have hj0:=sq_mk (a:=W) (b:=H) (x:=a+dx) (y:=b+dy) (by omega) (by omega) (by omega) (by omega)
     obtain⟨j,hj⟩:=Int.eq_ofNat_of_zero_le hj0.1
     have hjl:j<cs.length:=by have:=HLEN.out;omega
     have e1:M-k=(M-(k+1))+1:=by omega
     have hT':=hT.out
     rw [e1,wayFrom_in hout hj] at hT'
     have HT:=hide hT'
     obtain⟨hA,hO,rfl,hcell⟩:=(hc1.out.ext hext'.out) j hjl
     have hz:=HB.out (cs.getD j 0) (by simp [hjl])
     have o1:0≤a+dx:=by omega
     have o2:a+dx<W:=by omega
     have o3:0≤b+dy:=by omega
     have o4:b+dy<H:=by omega
     have o5:0≤(b+dy) * W:=Int.mul_nonneg o3 (by omega)
     have o6:(b+dy) * W≤64:=by omega
     clear hT hT' e1 hj0 hout
     generalize cs.getD j 0=z at *
     obtain⟨z0,z1⟩:=hz
     by_cases hz0:z=0
     ·subst hz0
      rw [if_pos rfl] at HT
      rcases htake with rfl | rfl | rfl
      ·have HF:=hide ((List.append_assoc _ _ _).trans HT.out)
       clear HT
       go_wp2_with (at_builtin;refine wp_append_int (.tmp 106) (.tmp 113) rfl rfl w3 wr _ xs (j:Int) rfl own'.out rfl hext'.out (by omega) ?_;intro v4 w4 own4 x4 g4)
       have G4:=hide x4
       have O4:=hide own4
       clear x4 g4 own4
       go_wp2
       go_roundw
       case rel=>exact⟨k+1,_,_,xs++[(j:Int)],by omega,by go_num,rfl,rfl,o1,o2,o3,o4,by simp;omega,O4.out,G4.out,HF⟩
       case measure=>simp [intOf];omega
      ·have HF:=hide ((List.append_assoc _ _ _).trans HT.out)
       clear HT
       go_wp2_with (at_builtin;refine wp_append_int (.tmp 106) (.tmp 113) rfl rfl w3 wr _ xs (j:Int) rfl own'.out rfl hext'.out (by omega) ?_;intro v4 w4 own4 x4 g4)
       have G4:=hide x4
       have O4:=hide own4
       clear x4 g4 own4
       go_wp2
       go_roundw
       case rel=>exact⟨k+1,_,_,xs++[(j:Int)],by omega,by go_num,rfl,rfl,o1,o2,o3,o4,by simp;omega,O4.out,G4.out,HF⟩
       case measure=>simp [intOf];omega
      ·have HF:Hid (xs++wayFrom W H 0 2 dx dy cs (M-(k+1)) (a+dx) (b+dy)=T):=HT
       clear HT
       go_wp2
       go_roundw
       case rel=>exact⟨k+1,_,_,xs,by omega,by go_num,rfl,rfl,o1,o2,o3,o4,by omega,own'.out,hext'.out,HF⟩
       case measure=>simp [intOf];omega
     ·have hpos:0<z:=by omega
      have t0:(z == 0)=false:=by simpa using hz0
      have t1:(z != 0)=true:=by simpa using hz0
      rw [if_neg hz0,List.append_nil] at HT
      clear hz0
      by_cases ho:(z-1) % 2=0
      ·have t2:((z-1) % 2 != 0)=false:=by simpa using ho
       have HE:Hid (T=xs):=hide (by
        rw [← HT.out,if_neg,List.append_nil]
        unfold endsB
        simp [ho]
        omega)
       clear HT ho
       rcases htake with rfl | rfl | rfl
       all_goals
        go_wp2
        go_ret
        exact⟨_,rfl,by rw [HE.out];exact own'.out.base X.out,hxt.out⟩
      ·have t2:((z-1) % 2 != 0)=true:=by simpa using ho
       rcases htake with rfl | rfl | rfl
       ·have HE:Hid (T=xs):=hide (by
         rw [← HT.out,if_neg,List.append_nil]
         unfold endsB
         simp
         omega)
        clear HT ho
        go_wp2
        go_ret
        exact⟨_,rfl,by rw [HE.out];exact own'.out.base X.out,hxt.out⟩
       all_goals
        have HE:Hid (T=xs++[(j:Int)]):=hide (by
         rw [← HT.out,if_pos]
         unfold endsB
         simp [hpos,ho])
        clear HT ho
        go_wp2_with (at_builtin;refine wp_append_int (.tmp 106) (.tmp 113) rfl rfl w3 wr _ xs (j:Int) rfl own'.out rfl hext'.out (by omega) ?_;intro v4 w4 own4 x4 g4)
        have O4:=hide own4
        have X4:=hide x4
        clear x4 g4 own4
        go_wp2
        go_ret
        exact⟨_,rfl,by rw [HE.out];exact O4.out.base X.out,qT X.out X4.out⟩
   ·obtain rfl:k=M:=by omega
    have HT:Hid (T=xs):=hide (by rw [← hT.out,Nat.sub_self,wayFrom_zero,List.append_nil])
    clear hT
    go_wp2
    go_ret
    exact⟨_,rfl,by rw [HT.out];exact own'.out.base X.out,hxt.out⟩
end Go.Proofs.YtdoibgmmijhlfaaGreat
