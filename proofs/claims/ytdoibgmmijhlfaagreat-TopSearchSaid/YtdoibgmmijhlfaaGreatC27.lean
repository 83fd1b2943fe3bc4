/- MovesList -/
import Derived.Test.YtdoibgmmijhlfaaGreatC24
namespace Go.Proofs.YtdoibgmmijhlfaaGreat
open Go.ChangeShapes Go.WideShapes Go.ChangeAt Go.RowKit Go.Shelf
set_option linter.unusedVariables false
set_option maxHeartbeats 8000000 in
set_option maxRecDepth 100000 in
theorem List_any(R:RM)(P:PosM)(v u:Value)(w:World)(hR:RA w v R)(hP:PA w u P)(hV:Valid R)(hS:Sound R P) :
  Calls Crz.prog 34 #[v,u] w (MovesPost w (listM R P)):=by
 have har:=area_bd _ _ hV.side
 have ha:=hS.area
 have h64:P.cells.length≤64:=by omega
 have HPU:=hide (fun W (hW:Ext w W)=>puts_any R P v u W (hR.ext hW) (hP.ext hW) hV hS)
 have HWY:=hide (fun (k:Nat) (x:WayM) W (hW:Ext w W) (hk:k<P.cells.length) (hx:wayB x=true)=>way_any R P v u k x W (hR.ext hW) (hP.ext hW) hV hS hk hx)
 have HLA:=hide (fun (t:Int) W (hW:Ext w W) (h0:0≤t) (h1:t≤64)=>IsLast_any R v P.turn t W (hR.ext hW) hV.side.1 hV.side.2.1 hV.side.2.2.1 hV.side.2.2.2 hS.turn h0 h1)
 have HA64:=hide (show R.width * R.height≤64 by omega)
 have HV:=hide hV
 have HCB:=hide hS.cells
 have HPL:=hide (putsM_len hV hS)
 have HSL:=hide (stepsToM_len (P:=P) hV)
 have ht01:=hS.turn
 have hp6:=hV.pieces6
 obtain⟨pA,pc,sA,sc,eA,ec,rfl,hpc,-⟩:=hR
 obtain⟨cA,cc,aA,ac,bA,bc,rfl,hcc,-⟩:=hP
 clear har ha hV hS
 go_enter Crz.func34,Tryz.ntmps34
 go_wp2_with fail
 obtain⟨xa,k1,k2⟩:=blks2 w #[.string R.name,.int .i64 R.width,.int .i64 R.height,.slice pA R.pieces.length pc,.slice sA R.start.length sc,.bool R.falls,.bool R.keeps,.slice eA R.ends.length ec,.int .i64 R.blocked,.int .i64 R.quiet,.int .i64 R.rept] 26 #[.slice cA P.cells.length cc,.slice aA P.hand0.length ac,.slice bA P.hand1.length bc,.int .i64 P.turn,.int .i64 P.quiet] 29
 have X0:=hide xa
 generalize ((w.alloc _).alloc _)=w2 at *
 generalize w.heap.size+1=B2 at *
 generalize w.heap.size=B1 at *
 clear xa
 refine(HPU.out _ X0.out).mono ?_
 rintro e w3 ⟨v3,rfl,own3,x3⟩
 have f1:=(k1.ext x3).cell
 have f2:=(k2.ext x3).cell
 have O3:=hide own3
 have X3:=hide x3
 clear own3 x3
 have K1:=hide k1
 have K2:=hide k2
 have HC:=hide hcc
 have HPC:=hide hpc
 clear k1 k2 hcc hpc
 go_wp2
 clear f1 f2
 go_loopw [5,21] (fun out i wr=>∃ k:Nat,k≤P.cells.length∧i=.int .i64 k∧OwnM w2 wr out (putsM R P++stepsToM R P k)∧Ext w2 wr) (fun _ i _=>P.cells.length-(intOf i).toNat)
 case atStart=>exact⟨0,Nat.zero_le _,rfl,by rw [show stepsToM R P 0=[] from rfl,List.append_nil];exact O3.out,X3.out⟩
 case round =>
  obtain⟨k,hk,rfl,hown,hext⟩:=hrel
  have own:=hide hown
  have ext:=hide hext
  clear hown hext
  by_cases hlt:k<P.cells.length
  ·obtain⟨bC,oC,rfl,hcell⟩:=(HC.out.ext (qT X0.out ext.out)) k hlt
   have hzb:=HCB.out (P.cells.getD k 0) (by simp [hlt])
   have r23:wr.cell? ⟨B2,3,none⟩=some (.int .i64 P.turn):=(K2.out.ext ext.out).cell 3
   have r13:wr.cell? ⟨B1,3,none⟩=some (.slice pA R.pieces.length pc):=(K1.out.ext ext.out).cell 3
   have HST:=hide (stepsToM_succ R P k)
   generalize hz:P.cells.getD k 0=z at *
   have HZ:=hide hz
   clear hz
   obtain⟨z0,z1⟩:=hzb
   by_cases hz0:z=0
   ·have HN:Hid (stepsToM R P (k+1)=stepsToM R P k):=hide (by rw [HST.out,stepsAt_not (ownB_false HZ.out (.inl hz0)),List.append_nil])
    subst hz0
    go_wp2
    go_roundw
    case rel=>exact⟨k+1,by omega,by go_num,by rw [HN.out];exact own.out,ext.out⟩
    case measure=>simp [intOf];omega
   ·have t0:(z == 0)=false:=by simpa using hz0
    have z2:1≤z:=by omega
    by_cases hown:(z-1) % 2=P.turn
    ·have t1:((z-1) % 2 != P.turn)=false:=by simpa using hown
     obtain⟨kk,hkk⟩:∃ kk:Nat,(z-1) / 2=(kk:Int):=⟨((z-1) / 2).toNat,by omega⟩
     have hkp:kk<R.pieces.length:=by omega
     obtain⟨p,hp⟩:∃ p,R.pieces[kk]? = some p:=⟨R.pieces[kk],List.getElem?_eq_getElem _⟩
     have HSA:=hide (stepsAt_own (ownB_true HZ.out hz0 hown) (by rw [HZ.out];exact hkk) hp)
     obtain⟨⟨pr0,pr6⟩,hw16,hwb⟩:=piece_get HV.out hp
     have HWB:=hide hwb
     obtain⟨bP,oP,wA,wc,rfl,c0,c1,c2,c3w,hways⟩:=PiecesAt.get HPC.out hp
     have C2:=hide c2
     have HWS:=hide hways
     have c3:=Ext.cell (qT X0.out ext.out) c3w
     have HOW:=hide hown
     have HPP:=hide hp
     clear hp hwb c0 c1 c2 c3w hways hown hz0
     have hL0:(putsM R P++stepsToM R P k).length≤10000:=by have:=HPL.out;have:=HSL.out k;rw [List.length_append];omega
     have HL0:=hide hL0
     clear hL0
     generalize hL:putsM R P++stepsToM R P k=L0 at *
     have HLL:=hide hL
     clear hL
     have i1:(kk:Int)<(R.pieces.length:Int):=by omega
     go_wp2
     rw [hkk]
     clear r13 r23 c3 hkk
     generalize hpr:p.promote=pr at *
     have HPR:=hide hpr
     clear hpr
     go_loopw [5,46] (fun out i wi=>∃ j:Nat,j≤p.ways.length∧i=.int .i64 j∧OwnM w2 wi out (L0++stepsBy R P k kk pr (p.ways.take j))∧Ext w2 wi) (fun _ i _=>p.ways.length-(intOf i).toNat)
     case atStart=>exact⟨0,Nat.zero_le _,rfl,by rw [show stepsBy R P k kk pr (p.ways.take 0)=[] from rfl,List.append_nil];exact own.out,ext.out⟩
     case round =>
      obtain⟨j,hj,rfl,hown,hext⟩:=hrel
      clear hcell
      have EXT0:=hide ext.out
      clear own ext
      have own:=hide hown
      have ext:=hide hext
      clear hown hext
      by_cases hjt:j<p.ways.length
      ·obtain⟨x,hx⟩:∃ x,p.ways[j]? = some x:=⟨p.ways[j],List.getElem?_eq_getElem _⟩
       have hxb:=HWB.out x (List.mem_of_getElem? hx)
       have HSB:=hide (stepsBy_succ (R:=R) (P:=P) (s:=k) (k:=kk) (pr:=pr) hx)
       have hL1:(L0++stepsBy R P k kk pr (p.ways.take j)).length≤20000:=by
        have h1:=stepsBy_len (R:=R) (P:=P) (s:=k) (k:=kk) (pr:=pr) (ws:=p.ways.take j) (fun y hy=>HWB.out y (List.mem_of_mem_take hy))
        have h2:=HL0.out
        rw [List.length_take] at h1
        rw [List.length_append]
        omega
       have HL1:=hide hL1
       clear hL1
       obtain⟨bW,oW,rfl,d0,d1,d2,d3⟩:=WaysAt.get (CellsAt.ext HWS.out (qT X0.out ext.out)) hx
       have e1:=((K1.out.ext ext.out).alloc (.cells #[.int .i64 x.dx,.int .i64 x.dy,.int .i64 x.most,.int .i64 x.take] 110)).cell
       have e2:=((K2.out.ext ext.out).alloc (.cells #[.int .i64 x.dx,.int .i64 x.dy,.int .i64 x.most,.int .i64 x.take] 110)).cell
       have xw:=hide (qA ext.out (.cells #[.int .i64 x.dx,.int .i64 x.dy,.int .i64 x.most,.int .i64 x.take] 110))
       have ownw:=hide (own.out.ext (qA (Below.refl _ _) (.cells #[.int .i64 x.dx,.int .i64 x.dy,.int .i64 x.most,.int .i64 x.take] 110)))
       clear hx
       go_wp2_with fail
       generalize wr.alloc _=wq at *
       refine(HWY.out k x _ (qT X0.out xw.out) hlt hxb).mono ?_
       rintro e w4 ⟨tv,rfl,ownT,x4⟩
       have hTl:=wayM_len (R:=R) (P:=P) (s:=k) hxb
       have HTM:=hide (fun t (ht:t∈wayM R P k x)=>wayM_mem ht)
       generalize wayM R P k x=T at *
       obtain⟨tA,tc,rfl,hts⟩:=ownT.ints
       have OT4:=hide ownT
       have own4:=hide (ownw.out.ext x4)
       have ext4:=hide (qT xw.out x4)
       clear ownT x4 e1 e2 d0 d1 d2 d3 hts own ext ownw xw
       generalize hL:L0++stepsBy R P k kk pr (p.ways.take j)=L1 at *
       have HLM:=hide hL
       clear hL
       go_wp2
       go_loopw [5,56] (fun out i wi=>∃ q:Nat,q≤T.length∧i=.int .i64 q∧OwnM w2 wi out (L1++(T.take q).map (stepTo R P k kk pr))∧OwnI wq wi (.slice tA T.length tc) T∧Ext w2 wi) (fun _ i _=>T.length-(intOf i).toNat)
       case atStart=>exact⟨0,Nat.zero_le _,rfl,by rw [List.take_zero,List.map_nil,List.append_nil];exact own4.out,OT4.out,ext4.out⟩
       case round =>
        obtain⟨q,hq,rfl,hown,hownT,hext⟩:=hrel
        clear own4 OT4 ext4
        have own:=hide hown
        have ownT:=hide hownT
        have ext:=hide hext
        clear hown hownT hext
        by_cases hqt:q<T.length
        ·obtain⟨tA',tc',etv,hti⟩:=ownT.out.ints
         obtain⟨bT,oT,eT,hct⟩:=hti q hqt
         have etA:tA=some ⟨bT,oT,none⟩:=by injection etv with e1;rw [e1];exact eT
         subst etA
         have hmem:T.getD q 0∈T:=by simp [hqt]
         have htb:=HTM.out _ hmem
         have HTQ:Hid ((T.take (q+1)).map (stepTo R P k kk pr)=(T.take q).map (stepTo R P k kk pr)++[stepTo R P k kk pr (T.getD q 0)]):=hide (by
          rw [List.take_add_one,List.getElem?_eq_getElem hqt,List.map_append]
          simp [hqt])
         clear hti hmem etv eT
         generalize T.getD q 0=t at *
         obtain⟨t0',t1'⟩:=htb
         have t64:t≤64:=by have:=HA64.out;omega
         have HLQ:Hid ((L1++(T.take q).map (stepTo R P k kk pr)).length≤1000000):=hide (by
          have:=HL1.out
          rw [List.length_append,List.length_map,List.length_take]
          omega)
         have C2m:=Ext.cell (qA (qT X0.out ext.out) (.cells #[.int .i64 (k:Int),.int .i64 t,.int .i64 (kk:Int)] 31)) C2.out
         have e1:=((K1.out.ext ext.out).alloc (.cells #[.int .i64 (k:Int),.int .i64 t,.int .i64 (kk:Int)] 31)).cell
         have e2:=((K2.out.ext ext.out).alloc (.cells #[.int .i64 (k:Int),.int .i64 t,.int .i64 (kk:Int)] 31)).cell
         have km:=hide (Blk.new wr 31 #[.int .i64 (k:Int),.int .i64 t,.int .i64 (kk:Int)])
         have extm:=hide (qA ext.out (.cells #[.int .i64 (k:Int),.int .i64 t,.int .i64 (kk:Int)] 31))
         have xm:=hide (qA (Below.refl wr.heap.size wr) (.cells #[.int .i64 (k:Int),.int .i64 t,.int .i64 (kk:Int)] 31))
         by_cases hpr:0<pr
         ·cases hl:lastM R P.turn t
          ·have HS:Hid (stepTo R P k kk pr t=⟨k,t,kk⟩):=hide (by unfold stepTo;rw [hl];simp)
           have HC1:=hide (hl ▸ HLA.out t _ (qT X0.out extm.out) t0' t64)
           clear hl
           go_wp2_with fail
           refine HC1.out.mono ?_
           rintro e w6 ⟨rfl,x6⟩
           have fm:=(km.out.ext x6).cell
           have X6:=hide (qT xm.out x6)
           have E6:=hide (qT ext.out X6.out)
           clear e1 e2 x6 hct C2m
           generalize wr.heap.size=Bm at *
           go_wp2_with (at_builtin;refine wp_append_move_at (.tmp 82) (.tmp 84) rfl rfl w2 w6 _ (L1++(T.take q).map (stepTo R P k kk pr)) ⟨k,t,kk⟩ rfl (own.out.ext X6.out) w6.heap.size rfl (by simp) E6.out HLQ.out ?_;intro v5 w5 own5 x5 g5)
           have OT5:=hide (OwnI.kept (ownT.out.ext X6.out) g5 (own.out.ext X6.out))
           have O5:Hid (OwnM w2 w5 v5 (L1++(T.take (q+1)).map (stepTo R P k kk pr))):=hide (by rw [HTQ.out,HS.out,← List.append_assoc];exact own5)
           have X5:=hide x5
           clear own5 x5 g5
           go_wp2
           go_roundw
           case rel=>exact⟨q+1,by omega,by go_num,O5.out,OT5.out,X5.out⟩
           case measure=>simp [intOf];omega
          ·have HS:Hid (stepTo R P k kk pr t=⟨k,t,pr-1⟩):=hide (by unfold stepTo;rw [hl];simp [hpr])
           have HC1:=hide (hl ▸ HLA.out t _ (qT X0.out extm.out) t0' t64)
           clear hl
           go_wp2_with fail
           refine HC1.out.mono ?_
           rintro e w6 ⟨rfl,x6⟩
           have fm:=(km.out.ext x6).cell
           have zm:=(km.out.ext x6).frozen
           have X6:=hide (qS (qT xm.out x6) (p:=⟨wr.heap.size,2,none⟩) (Nat.le_refl _) (.int .i64 (pr-1)))
           have E6:=hide (qT ext.out X6.out)
           clear e1 e2 x6 hct C2m
           generalize wr.heap.size=Bm at *
           go_wp2_with (at_builtin;refine wp_append_move_at (.tmp 82) (.tmp 84) rfl rfl w2 (w6.setCell ⟨Bm,2,none⟩ (.int .i64 (pr-1))) _ (L1++(T.take q).map (stepTo R P k kk pr)) ⟨k,t,(pr-1)⟩ rfl (own.out.ext X6.out) w6.heap.size rfl (by simp) E6.out HLQ.out ?_;intro v5 w5 own5 x5 g5)
           have OT5:=hide (OwnI.kept (ownT.out.ext X6.out) g5 (own.out.ext X6.out))
           have O5:Hid (OwnM w2 w5 v5 (L1++(T.take (q+1)).map (stepTo R P k kk pr))):=hide (by rw [HTQ.out,HS.out,← List.append_assoc];exact own5)
           have X5:=hide x5
           clear own5 x5 g5
           go_wp2
           go_roundw
           case rel=>exact⟨q+1,by omega,by go_num,O5.out,OT5.out,X5.out⟩
           case measure=>simp [intOf];omega
         ·have HS:Hid (stepTo R P k kk pr t=⟨k,t,kk⟩):=hide (by unfold stepTo;simp [hpr])
          go_wp2_with (at_builtin;refine wp_append_move_at (.tmp 82) (.tmp 84) rfl rfl w2 (wr.alloc (.cells #[.int .i64 (k:Int),.int .i64 t,.int .i64 (kk:Int)] 31)) _ (L1++(T.take q).map (stepTo R P k kk pr)) ⟨k,t,kk⟩ rfl (own.out.ext xm.out) (wr.heap.size+1) rfl (by simp) extm.out HLQ.out ?_;intro v5 w5 own5 x5 g5)
          have OT5:=hide (OwnI.kept (ownT.out.ext xm.out) g5 (own.out.ext xm.out))
          have O5:Hid (OwnM w2 w5 v5 (L1++(T.take (q+1)).map (stepTo R P k kk pr))):=hide (by rw [HTQ.out,HS.out,← List.append_assoc];exact own5)
          have X5:=hide x5
          clear own5 x5 g5
          go_wp2
          go_roundw
          case rel=>exact⟨q+1,by omega,by go_num,O5.out,OT5.out,X5.out⟩
          case measure=>simp [intOf];omega
        ·obtain rfl:q=T.length:=by omega
         have O5:Hid (OwnM w2 wr u5 (L0++stepsBy R P k kk pr (p.ways.take (j+1)))):=hide (by rw [HSB.out,← List.append_assoc,HLM.out];have:=own.out;rwa [List.take_length] at this)
         go_wp2
         go_roundw
         case rel=>exact⟨j+1,by omega,by go_num,O5.out,ext.out⟩
         case measure=>simp [intOf];omega
      ·obtain rfl:j=p.ways.length:=by omega
       have O5:Hid (OwnM w2 wr u5 (putsM R P++stepsToM R P (k+1))):=hide (by rw [HST.out,HSA.out,← List.append_assoc,HLL.out];have:=own.out;rwa [List.take_length] at this)
       go_wp2
       go_roundw
       case rel=>exact⟨k+1,by omega,by go_num,O5.out,ext.out⟩
       case measure=>simp [intOf];omega
    ·have t1:((z-1) % 2 != P.turn)=true:=by simpa using hown
     have HN:Hid (stepsToM R P (k+1)=stepsToM R P k):=hide (by rw [HST.out,stepsAt_not (ownB_false HZ.out (.inr hown)),List.append_nil])
     clear hown
     go_wp2
     go_roundw
     case rel=>exact⟨k+1,by omega,by go_num,by rw [HN.out];exact own.out,ext.out⟩
     case measure=>simp [intOf];omega
  ·obtain rfl:k=P.cells.length:=by omega
   have hown:OwnM w2 wr u5 (rawM R P):=own.out
   have hll:(rawM R P).length≤1000000:=by have:=HPL.out;have:=HSL.out P.cells.length;unfold rawM;rw [List.length_append];omega
   have HSO:=hide (SortFunc_any w2 wr u5 (rawM R P) hown ext.out hll)
   have HCO:=hide (fun W (h:OwnM w2 W u5 (sortM (rawM R P))) (he:Ext w2 W)=>Compact_any w2 W u5 (sortM (rawM R P)) h he (by rw [sortM_length];exact hll))
   have HLM:=hide (show dedup (sortM (rawM R P))=listM R P from listOf_eq (fun x=>sortM_mem) (sortM_sorted _))
   clear hown hll
   go_wp2_with fail
   refine HSO.out.mono ?_
   rintro e w7 ⟨rfl,own7,x7⟩
   have HC7:=hide (HCO.out _ own7 x7)
   clear own7 x7
   go_wp2_with fail
   refine HC7.out.mono ?_
   rintro e w8 ⟨v8,rfl,own8,x8⟩
   have O8:=hide own8
   have X8:=hide x8
   clear own8 x8
   go_wp2
   go_ret
   exact⟨_,rfl,by rw [← HLM.out];exact O8.out.base X0.out,qT X0.out X8.out⟩
end Go.Proofs.YtdoibgmmijhlfaaGreat
