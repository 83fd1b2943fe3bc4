/- MovesW3p MovesW3a MovesW3b MovesW3 -/
import Derived.Test.YtdoibgmmijhlfaaGreatC16
namespace Go.Proofs.YtdoibgmmijhlfaaGreat
open Go.ChangeShapes Go.WideShapes Go.ChangeAt Go.RowKit Go.Shelf
set_option linter.unusedVariables false
theorem putsAt_succ(hd:List Int)(s m:Nat):putsAt hd s (m+1)=putsAt hd s m++(if 0<hd.getD m 0 then [⟨-1,s,m⟩] else []):=by
 unfold putsAt
 rw [List.range_succ,List.flatMap_append]
 simp
theorem putsTo_succ(R:RM)(P:PosM)(k:Nat):putsTo R P (k+1)=putsTo R P k++(if putB R P k then putsAt P.hand k P.hand.length else []):=by
 unfold putsTo
 rw [List.range_succ,List.flatMap_append]
 simp
theorem putsAt_len(hd:List Int)(s:Nat):∀ m,(putsAt hd s m).length≤m
 | 0=>by simp [putsAt]
 | m+1=>by
  have:=putsAt_len hd s m
  rw [putsAt_succ,List.length_append]
  split <;> simp <;> omega
theorem putsTo_len(R:RM)(P:PosM)(h:P.hand.length≤6):∀ k,(putsTo R P k).length≤6 * k
 | 0=>by simp [putsTo]
 | k+1=>by
  have:=putsTo_len R P h k
  have h2:=putsAt_len P.hand k P.hand.length
  rw [putsTo_succ,List.length_append]
  split
  ·omega
  ·simp;omega
theorem putB_cell{R:RM}{P:PosM}{k:Nat}(h:P.cells.getD k 0≠0):putB R P k=false:=by
 unfold putB;rw [decide_eq_false h];rfl
theorem putB_free{R:RM}{P:PosM}{k:Nat}(h:P.cells.getD k 0=0)(hf:R.falls=false):putB R P k=true:=by
 unfold putB;rw [decide_eq_true h,hf];rfl
theorem putB_low{R:RM}{P:PosM}{k W:Nat}(h:P.cells.getD k 0=0)(hW:R.width=W)(hk:k<W):putB R P k=true:=by
 unfold putB
 rw [decide_eq_true h,hW,Int.toNat_natCast,decide_eq_true hk]
 simp
theorem putB_fill{R:RM}{P:PosM}{k W:Nat}(h:P.cells.getD k 0=0)(hf:R.falls=true)(hW:R.width=W)(hk:W≤k):putB R P k=fillA P.cells W k:=by
 unfold putB fillA
 rw [decide_eq_true h,hf,hW,Int.toNat_natCast,decide_eq_false (by omega)]
 simp
def MovesPost(w:World)(T:List MM)(e:Ending)(w':World):Prop:=∃ v',e=.returned v'∧OwnM w w' v' T∧Ext w w'
set_option maxHeartbeats 4000000 in
set_option maxRecDepth 100000 in
theorem puts_core0(R:RM)(P:PosM)(v u:Value)(w:World)(hR:RA w v R)(hP:PA w u P)(hV:Valid R)(hS:Sound R P)(hT:P.turn=0) :
  Calls Crz.prog 58 #[v,u] w (MovesPost w (putsM R P)):=by
 obtain⟨W,hW⟩:∃ W:Nat,R.width=W:=⟨R.width.toNat,by have:=hV.side.1;omega⟩
 have har:=area_bd _ _ hV.side
 have ha:=hS.area
 have hside:=hV.side
 have hp6:=hV.pieces6
 have hl:P.hand0.length=R.pieces.length:=hS.len0
 have h64:P.cells.length≤64:=by omega
 have hhd:P.hand=P.hand0:=by unfold PosM.hand;rw [hT];rfl
 have HFL:=hide (fun (k:Nat) X (hX:Ext w X) (hk:k<P.cells.length)=>filled_any R P v u k W X (hR.ext hX) (hP.ext hX) hW (by have:=hside.1;omega) (by have:=hside.2.1;omega) hk h64)
 have HL6:=hide (putsTo_len R P (by rw [hhd];omega))
 have HHD:=hide hhd
 have HW:=hide hW
 have hW1:1≤W:=by have:=hside.1;omega
 have hW8:W≤8:=by have:=hside.2.1;omega
 have hh6:P.hand0.length≤6:=by omega
 obtain⟨pA,pc,sA,sc,eA,ec,rfl,-⟩:=hR
 obtain⟨cA,cc,aA,ac,bA,bc,rfl,hc,ha0,hb0,-⟩:=hP
 rw [hT,hW] at HFL ⊢
 clear har ha hside hp6 hl hhd hV hS hT hW
 obtain⟨xa,k1,k2⟩:=blks2 w #[.string R.name,.int .i64 (W:Int),.int .i64 R.height,.slice pA R.pieces.length pc,.slice sA R.start.length sc,.bool R.falls,.bool R.keeps,.slice eA R.ends.length ec,.int .i64 R.blocked,.int .i64 R.quiet,.int .i64 R.rept] 26 #[.slice cA P.cells.length cc,.slice aA P.hand0.length ac,.slice bA P.hand1.length bc,.int .i64 0,.int .i64 P.quiet] 29
 have hc:=hide (hc.ext xa)
 have hh:=hide (ha0.ext xa)
 have X0:=hide xa
 clear ha0 hb0 xa
 go_enter Crz.func58,Tryz.ntmps58
 go_wp2
 generalize ((w.alloc _).alloc _)=w2 at *
 generalize w.heap.size+1=B2 at *
 generalize hB1:w.heap.size=B1 at *
 have HB1:=hide hB1
 clear hB1
 have k1:=hide k1
 have k2:=hide k2
 have q20:w2.cell? ⟨B2,0,none⟩=some (.slice cA P.cells.length cc):=k2.out.cell 0
 go_wp2
 clear q20
 go_loopw [5,13] (fun out i wr=>∃ k:Nat,k≤P.cells.length∧i=.int .i64 k∧OwnM w2 wr out (putsTo R P k)∧Ext w2 wr) (fun _ i _=>P.cells.length-(intOf i).toNat)
 case atStart=>exact⟨0,Nat.zero_le _,rfl,OwnM.nil _ _,Below.refl _ _⟩
 case round =>
  obtain⟨k,hk,rfl,hown,Xq⟩:=hrel
  have ownq:=hide hown
  clear hown
  by_cases hlt:k<P.cells.length
  ·obtain⟨bC,oC,rfl,hcell⟩:=(hc.out.ext Xq) k hlt
   have r15:wr.cell? ⟨B1,5,none⟩=some (.bool R.falls):=(k1.out.ext Xq).cell 5
   have r11:wr.cell? ⟨B1,1,none⟩=some (.int .i64 (W:Int)):=(k1.out.ext Xq).cell 1
   by_cases hz:P.cells.getD k 0=0
   ·rw [hz] at hcell
    cases hf:R.falls
    ·rw [hf] at r15
     have hb:=hide (putB_free hz hf)
     clear hz hf
     have HN:Hid (putsTo R P (k+1)=putsTo R P k++putsAt P.hand0 k P.hand0.length):=hide (by rw [putsTo_succ,hb.out,if_pos rfl,HHD.out])
     have r20:wr.cell? ⟨B2,1,none⟩=some (.slice aA P.hand0.length ac):=(k2.out.ext Xq).cell 1
     have r23:wr.cell? ⟨B2,3,none⟩=some (.int .i64 0):=(k2.out.ext Xq).cell 3
     have hXq:=hide Xq
     clear Xq
     go_wp2
     go_loopw [5,43] (fun out i wi=>∃ m:Nat,m≤P.hand0.length∧i=.int .i64 m∧OwnM w2 wi out (putsTo R P k++putsAt P.hand0 k m)∧Ext w2 wi) (fun _ i _=>P.hand0.length-(intOf i).toNat)
     case atStart=>exact⟨0,Nat.zero_le _,rfl,by rw [show putsAt P.hand0 k 0=[] from rfl,List.append_nil];exact ownq.out,hXq.out⟩
     case round =>
      obtain⟨m,hm,rfl,hown,hext⟩:=hrel
      clear r20 r23
      have own':=hide hown
      have hext':=hide hext
      clear hown hext
      by_cases hmt:m<P.hand0.length
      ·obtain⟨bH,oH,rfl,hcell⟩:=(hh.out.ext hext'.out) m hmt
       have HS:=hide (putsAt_succ P.hand0 k m)
       generalize P.hand0.getD m 0=z at *
       by_cases hz:0<z
       ·have HS2:=hide (HS.out.trans (by rw [if_pos hz]))
        clear HS
        have hl6:=HL6.out k
        have hlm:=putsAt_len P.hand0 k m
        have hla:(putsTo R P k++putsAt P.hand0 k m).length≤1000000:=by rw [List.length_append];omega
        have HLA:=hide hla
        clear hl6 hlm hla
        go_wp2_with (at_builtin;refine wp_append_move (.tmp 50) (.tmp 54) rfl rfl w2 wr _ (putsTo R P k++putsAt P.hand0 k m) ⟨-1,k,m⟩ rfl own'.out rfl hext'.out HLA.out ?_;intro v4 w4 own4 x4 g4)
        have O4:=hide own4
        have X4:=hide x4
        clear own4 x4 g4
        go_wp2
        go_roundw
        case rel=>exact⟨m+1,by omega,by go_num,by rw [HS2.out,← List.append_assoc];exact O4.out,X4.out⟩
        case measure=>simp [intOf];omega
       ·have HS2:=hide (HS.out.trans (by rw [if_neg hz,List.append_nil]))
        clear HS
        go_wp2
        go_roundw
        case rel=>exact⟨m+1,by omega,by go_num,by rw [HS2.out];exact own'.out,hext'.out⟩
        case measure=>simp [intOf];omega
      ·obtain rfl:m=P.hand0.length:=by omega
       have O4:Hid (OwnM w2 wr u5 (putsTo R P (k+1))):=hide (by rw [HN.out];exact own'.out)
       go_wp2
       go_roundw
       case rel=>exact⟨k+1,by omega,by go_num,O4.out,hext'.out⟩
       case measure=>simp [intOf];omega
    ·rw [hf] at r15
     by_cases hkw:k<W
     ·have hb:=hide (putB_low hz HW.out hkw)
      clear hz hf
      have HN:Hid (putsTo R P (k+1)=putsTo R P k++putsAt P.hand0 k P.hand0.length):=hide (by rw [putsTo_succ,hb.out,if_pos rfl,HHD.out])
      have r20:wr.cell? ⟨B2,1,none⟩=some (.slice aA P.hand0.length ac):=(k2.out.ext Xq).cell 1
      have r23:wr.cell? ⟨B2,3,none⟩=some (.int .i64 0):=(k2.out.ext Xq).cell 3
      have hXq:=hide Xq
      clear Xq
      go_wp2
      go_loopw [5,43] (fun out i wi=>∃ m:Nat,m≤P.hand0.length∧i=.int .i64 m∧OwnM w2 wi out (putsTo R P k++putsAt P.hand0 k m)∧Ext w2 wi) (fun _ i _=>P.hand0.length-(intOf i).toNat)
      case atStart=>exact⟨0,Nat.zero_le _,rfl,by rw [show putsAt P.hand0 k 0=[] from rfl,List.append_nil];exact ownq.out,hXq.out⟩
      case round =>
       obtain⟨m,hm,rfl,hown,hext⟩:=hrel
       clear r20 r23
       have own':=hide hown
       have hext':=hide hext
       clear hown hext
       by_cases hmt:m<P.hand0.length
       ·obtain⟨bH,oH,rfl,hcell⟩:=(hh.out.ext hext'.out) m hmt
        have HS:=hide (putsAt_succ P.hand0 k m)
        generalize P.hand0.getD m 0=z at *
        by_cases hz:0<z
        ·have HS2:=hide (HS.out.trans (by rw [if_pos hz]))
         clear HS
         have hl6:=HL6.out k
         have hlm:=putsAt_len P.hand0 k m
         have hla:(putsTo R P k++putsAt P.hand0 k m).length≤1000000:=by rw [List.length_append];omega
         have HLA:=hide hla
         clear hl6 hlm hla
         go_wp2_with (at_builtin;refine wp_append_move (.tmp 50) (.tmp 54) rfl rfl w2 wr _ (putsTo R P k++putsAt P.hand0 k m) ⟨-1,k,m⟩ rfl own'.out rfl hext'.out HLA.out ?_;intro v4 w4 own4 x4 g4)
         have O4:=hide own4
         have X4:=hide x4
         clear own4 x4 g4
         go_wp2
         go_roundw
         case rel=>exact⟨m+1,by omega,by go_num,by rw [HS2.out,← List.append_assoc];exact O4.out,X4.out⟩
         case measure=>simp [intOf];omega
        ·have HS2:=hide (HS.out.trans (by rw [if_neg hz,List.append_nil]))
         clear HS
         go_wp2
         go_roundw
         case rel=>exact⟨m+1,by omega,by go_num,by rw [HS2.out];exact own'.out,hext'.out⟩
         case measure=>simp [intOf];omega
       ·obtain rfl:m=P.hand0.length:=by omega
        have O4:Hid (OwnM w2 wr u5 (putsTo R P (k+1))):=hide (by rw [HN.out];exact own'.out)
        go_wp2
        go_roundw
        case rel=>exact⟨k+1,by omega,by go_num,O4.out,hext'.out⟩
        case measure=>simp [intOf];omega
     ·have hb:=hide (putB_fill hz hf HW.out (by omega))
      have e1:=(k1.out.ext Xq).cell
      have e2:=(k2.out.ext Xq).cell
      rw [hf] at e1 HFL
      have HC:=hide (HFL.out k _ (qT X0.out Xq) hlt)
      clear hz r15 r11
      cases hfill:fillA P.cells W k
      ·rw [hfill] at HC
       have HN:Hid (putsTo R P (k+1)=putsTo R P k):=hide (by rw [putsTo_succ,hb.out,hfill];simp)
       clear hf
       have hXq:=hide Xq
       clear Xq
       go_wp2_with fail
       refine HC.out.mono ?_
       rintro e w3 ⟨rfl,x3⟩
       have Xq:=hide (qT hXq.out x3)
       have ownq3:=hide (ownq.out.ext x3)
       clear e1 e2 x3
       go_wp2
       go_roundw
       case rel=>exact⟨k+1,by omega,by go_num,by rw [HN.out];exact ownq3.out,Xq.out⟩
       case measure=>simp [intOf];omega
      ·rw [hfill] at HC
       have hb2:=hide (hb.out.trans hfill)
       clear hf
       have hXq:=hide Xq
       clear Xq
       go_wp2_with fail
       refine HC.out.mono ?_
       rintro e w3 ⟨rfl,x3⟩
       have Xq:=qT hXq.out x3
       have ownq3:=hide (ownq.out.ext x3)
       clear e1 e2 x3 ownq hfill
       have ownq:=hide ownq3.out
       clear ownq3
       have HN:Hid (putsTo R P (k+1)=putsTo R P k++putsAt P.hand0 k P.hand0.length):=hide (by rw [putsTo_succ,hb2.out,if_pos rfl,HHD.out])
       have r20:w3.cell? ⟨B2,1,none⟩=some (.slice aA P.hand0.length ac):=(k2.out.ext Xq).cell 1
       have r23:w3.cell? ⟨B2,3,none⟩=some (.int .i64 0):=(k2.out.ext Xq).cell 3
       have hXq:=hide Xq
       clear Xq
       go_wp2
       go_loopw [5,43] (fun out i wi=>∃ m:Nat,m≤P.hand0.length∧i=.int .i64 m∧OwnM w2 wi out (putsTo R P k++putsAt P.hand0 k m)∧Ext w2 wi) (fun _ i _=>P.hand0.length-(intOf i).toNat)
       case atStart=>exact⟨0,Nat.zero_le _,rfl,by rw [show putsAt P.hand0 k 0=[] from rfl,List.append_nil];exact ownq.out,hXq.out⟩
       case round =>
        obtain⟨m,hm,rfl,hown,hext⟩:=hrel
        clear r20 r23
        have own':=hide hown
        have hext':=hide hext
        clear hown hext
        by_cases hmt:m<P.hand0.length
        ·obtain⟨bH,oH,rfl,hcell⟩:=(hh.out.ext hext'.out) m hmt
         have HS:=hide (putsAt_succ P.hand0 k m)
         generalize P.hand0.getD m 0=z at *
         by_cases hz:0<z
         ·have HS2:=hide (HS.out.trans (by rw [if_pos hz]))
          clear HS
          have hl6:=HL6.out k
          have hlm:=putsAt_len P.hand0 k m
          have hla:(putsTo R P k++putsAt P.hand0 k m).length≤1000000:=by rw [List.length_append];omega
          have HLA:=hide hla
          clear hl6 hlm hla
          go_wp2_with (at_builtin;refine wp_append_move (.tmp 50) (.tmp 54) rfl rfl w2 wr _ (putsTo R P k++putsAt P.hand0 k m) ⟨-1,k,m⟩ rfl own'.out rfl hext'.out HLA.out ?_;intro v4 w4 own4 x4 g4)
          have O4:=hide own4
          have X4:=hide x4
          clear own4 x4 g4
          go_wp2
          go_roundw
          case rel=>exact⟨m+1,by omega,by go_num,by rw [HS2.out,← List.append_assoc];exact O4.out,X4.out⟩
          case measure=>simp [intOf];omega
         ·have HS2:=hide (HS.out.trans (by rw [if_neg hz,List.append_nil]))
          clear HS
          go_wp2
          go_roundw
          case rel=>exact⟨m+1,by omega,by go_num,by rw [HS2.out];exact own'.out,hext'.out⟩
          case measure=>simp [intOf];omega
        ·obtain rfl:m=P.hand0.length:=by omega
         have O4:Hid (OwnM w2 wr u5 (putsTo R P (k+1))):=hide (by rw [HN.out];exact own'.out)
         go_wp2
         go_roundw
         case rel=>exact⟨k+1,by omega,by go_num,O4.out,hext'.out⟩
         case measure=>simp [intOf];omega
   ·have hz':(P.cells.getD k 0 != 0)=true:=by simpa using hz
    have HN:Hid (putsTo R P (k+1)=putsTo R P k):=hide (by rw [putsTo_succ,putB_cell hz];simp)
    clear hz
    generalize P.cells.getD k 0=z at *
    have hXq:=hide Xq
    clear Xq
    go_wp2
    go_roundw
    case rel=>exact⟨k+1,by omega,by go_num,by rw [HN.out];exact ownq.out,hXq.out⟩
    case measure=>simp [intOf];omega
  ·obtain rfl:k=P.cells.length:=by omega
   have hXq:=hide Xq
   clear Xq
   go_wp2
   go_ret
   exact⟨_,rfl,ownq.out.base X0.out,qT X0.out hXq.out⟩
set_option maxHeartbeats 4000000 in
set_option maxRecDepth 100000 in
theorem puts_core1(R:RM)(P:PosM)(v u:Value)(w:World)(hR:RA w v R)(hP:PA w u P)(hV:Valid R)(hS:Sound R P)(hT:P.turn=1) :
  Calls Crz.prog 58 #[v,u] w (MovesPost w (putsM R P)):=by
 obtain⟨W,hW⟩:∃ W:Nat,R.width=W:=⟨R.width.toNat,by have:=hV.side.1;omega⟩
 have har:=area_bd _ _ hV.side
 have ha:=hS.area
 have hside:=hV.side
 have hp6:=hV.pieces6
 have hl:P.hand1.length=R.pieces.length:=hS.len1
 have h64:P.cells.length≤64:=by omega
 have hhd:P.hand=P.hand1:=by unfold PosM.hand;rw [hT];rfl
 have HFL:=hide (fun (k:Nat) X (hX:Ext w X) (hk:k<P.cells.length)=>filled_any R P v u k W X (hR.ext hX) (hP.ext hX) hW (by have:=hside.1;omega) (by have:=hside.2.1;omega) hk h64)
 have HL6:=hide (putsTo_len R P (by rw [hhd];omega))
 have HHD:=hide hhd
 have HW:=hide hW
 have hW1:1≤W:=by have:=hside.1;omega
 have hW8:W≤8:=by have:=hside.2.1;omega
 have hh6:P.hand1.length≤6:=by omega
 obtain⟨pA,pc,sA,sc,eA,ec,rfl,-⟩:=hR
 obtain⟨cA,cc,aA,ac,bA,bc,rfl,hc,ha0,hb0,-⟩:=hP
 rw [hT,hW] at HFL ⊢
 clear har ha hside hp6 hl hhd hV hS hT hW
 obtain⟨xa,k1,k2⟩:=blks2 w #[.string R.name,.int .i64 (W:Int),.int .i64 R.height,.slice pA R.pieces.length pc,.slice sA R.start.length sc,.bool R.falls,.bool R.keeps,.slice eA R.ends.length ec,.int .i64 R.blocked,.int .i64 R.quiet,.int .i64 R.rept] 26 #[.slice cA P.cells.length cc,.slice aA P.hand0.length ac,.slice bA P.hand1.length bc,.int .i64 1,.int .i64 P.quiet] 29
 have hc:=hide (hc.ext xa)
 have hh:=hide (hb0.ext xa)
 have X0:=hide xa
 clear ha0 hb0 xa
 go_enter Crz.func58,Tryz.ntmps58
 go_wp2
 generalize ((w.alloc _).alloc _)=w2 at *
 generalize w.heap.size+1=B2 at *
 generalize hB1:w.heap.size=B1 at *
 have HB1:=hide hB1
 clear hB1
 have k1:=hide k1
 have k2:=hide k2
 have q20:w2.cell? ⟨B2,0,none⟩=some (.slice cA P.cells.length cc):=k2.out.cell 0
 go_wp2
 clear q20
 go_loopw [5,13] (fun out i wr=>∃ k:Nat,k≤P.cells.length∧i=.int .i64 k∧OwnM w2 wr out (putsTo R P k)∧Ext w2 wr) (fun _ i _=>P.cells.length-(intOf i).toNat)
 case atStart=>exact⟨0,Nat.zero_le _,rfl,OwnM.nil _ _,Below.refl _ _⟩
 case round =>
  obtain⟨k,hk,rfl,hown,Xq⟩:=hrel
  have ownq:=hide hown
  clear hown
  by_cases hlt:k<P.cells.length
  ·obtain⟨bC,oC,rfl,hcell⟩:=(hc.out.ext Xq) k hlt
   have r15:wr.cell? ⟨B1,5,none⟩=some (.bool R.falls):=(k1.out.ext Xq).cell 5
   have r11:wr.cell? ⟨B1,1,none⟩=some (.int .i64 (W:Int)):=(k1.out.ext Xq).cell 1
   by_cases hz:P.cells.getD k 0=0
   ·rw [hz] at hcell
    cases hf:R.falls
    ·rw [hf] at r15
     have hb:=hide (putB_free hz hf)
     clear hz hf
     have HN:Hid (putsTo R P (k+1)=putsTo R P k++putsAt P.hand1 k P.hand1.length):=hide (by rw [putsTo_succ,hb.out,if_pos rfl,HHD.out])
     have r20:wr.cell? ⟨B2,2,none⟩=some (.slice bA P.hand1.length bc):=(k2.out.ext Xq).cell 2
     have r23:wr.cell? ⟨B2,3,none⟩=some (.int .i64 1):=(k2.out.ext Xq).cell 3
     have hXq:=hide Xq
     clear Xq
     go_wp2
     go_loopw [5,43] (fun out i wi=>∃ m:Nat,m≤P.hand1.length∧i=.int .i64 m∧OwnM w2 wi out (putsTo R P k++putsAt P.hand1 k m)∧Ext w2 wi) (fun _ i _=>P.hand1.length-(intOf i).toNat)
     case atStart=>exact⟨0,Nat.zero_le _,rfl,by rw [show putsAt P.hand1 k 0=[] from rfl,List.append_nil];exact ownq.out,hXq.out⟩
     case round =>
      obtain⟨m,hm,rfl,hown,hext⟩:=hrel
      clear r20 r23
      have own':=hide hown
      have hext':=hide hext
      clear hown hext
      by_cases hmt:m<P.hand1.length
      ·obtain⟨bH,oH,rfl,hcell⟩:=(hh.out.ext hext'.out) m hmt
       have HS:=hide (putsAt_succ P.hand1 k m)
       generalize P.hand1.getD m 0=z at *
       by_cases hz:0<z
       ·have HS2:=hide (HS.out.trans (by rw [if_pos hz]))
        clear HS
        have hl6:=HL6.out k
        have hlm:=putsAt_len P.hand1 k m
        have hla:(putsTo R P k++putsAt P.hand1 k m).length≤1000000:=by rw [List.length_append];omega
        have HLA:=hide hla
        clear hl6 hlm hla
        go_wp2_with (at_builtin;refine wp_append_move (.tmp 50) (.tmp 54) rfl rfl w2 wr _ (putsTo R P k++putsAt P.hand1 k m) ⟨-1,k,m⟩ rfl own'.out rfl hext'.out HLA.out ?_;intro v4 w4 own4 x4 g4)
        have O4:=hide own4
        have X4:=hide x4
        clear own4 x4 g4
        go_wp2
        go_roundw
        case rel=>exact⟨m+1,by omega,by go_num,by rw [HS2.out,← List.append_assoc];exact O4.out,X4.out⟩
        case measure=>simp [intOf];omega
       ·have HS2:=hide (HS.out.trans (by rw [if_neg hz,List.append_nil]))
        clear HS
        go_wp2
        go_roundw
        case rel=>exact⟨m+1,by omega,by go_num,by rw [HS2.out];exact own'.out,hext'.out⟩
        case measure=>simp [intOf];omega
      ·obtain rfl:m=P.hand1.length:=by omega
       have O4:Hid (OwnM w2 wr u5 (putsTo R P (k+1))):=hide (by rw [HN.out];exact own'.out)
       go_wp2
       go_roundw
       case rel=>exact⟨k+1,by omega,by go_num,O4.out,hext'.out⟩
       case measure=>simp [intOf];omega
    ·rw [hf] at r15
     by_cases hkw:k<W
     ·have hb:=hide (putB_low hz HW.out hkw)
      clear hz hf
      have HN:Hid (putsTo R P (k+1)=putsTo R P k++putsAt P.hand1 k P.hand1.length):=hide (by rw [putsTo_succ,hb.out,if_pos rfl,HHD.out])
      have r20:wr.cell? ⟨B2,2,none⟩=some (.slice bA P.hand1.length bc):=(k2.out.ext Xq).cell 2
      have r23:wr.cell? ⟨B2,3,none⟩=some (.int .i64 1):=(k2.out.ext Xq).cell 3
      have hXq:=hide Xq
      clear Xq
      go_wp2
      go_loopw [5,43] (fun out i wi=>∃ m:Nat,m≤P.hand1.length∧i=.int .i64 m∧OwnM w2 wi out (putsTo R P k++putsAt P.hand1 k m)∧Ext w2 wi) (fun _ i _=>P.hand1.length-(intOf i).toNat)
      case atStart=>exact⟨0,Nat.zero_le _,rfl,by rw [show putsAt P.hand1 k 0=[] from rfl,List.append_nil];exact ownq.out,hXq.out⟩
      case round =>
       obtain⟨m,hm,rfl,hown,hext⟩:=hrel
       clear r20 r23
       have own':=hide hown
       have hext':=hide hext
       clear hown hext
       by_cases hmt:m<P.hand1.length
       ·obtain⟨bH,oH,rfl,hcell⟩:=(hh.out.ext hext'.out) m hmt
        have HS:=hide (putsAt_succ P.hand1 k m)
        generalize P.hand1.getD m 0=z at *
        by_cases hz:0<z
        ·have HS2:=hide (HS.out.trans (by rw [if_pos hz]))
         clear HS
         have hl6:=HL6.out k
         have hlm:=putsAt_len P.hand1 k m
         have hla:(putsTo R P k++putsAt P.hand1 k m).length≤1000000:=by rw [List.length_append];omega
         have HLA:=hide hla
         clear hl6 hlm hla
         go_wp2_with (at_builtin;refine wp_append_move (.tmp 50) (.tmp 54) rfl rfl w2 wr _ (putsTo R P k++putsAt P.hand1 k m) ⟨-1,k,m⟩ rfl own'.out rfl hext'.out HLA.out ?_;intro v4 w4 own4 x4 g4)
         have O4:=hide own4
         have X4:=hide x4
         clear own4 x4 g4
         go_wp2
         go_roundw
         case rel=>exact⟨m+1,by omega,by go_num,by rw [HS2.out,← List.append_assoc];exact O4.out,X4.out⟩
         case measure=>simp [intOf];omega
        ·have HS2:=hide (HS.out.trans (by rw [if_neg hz,List.append_nil]))
         clear HS
         go_wp2
         go_roundw
         case rel=>exact⟨m+1,by omega,by go_num,by rw [HS2.out];exact own'.out,hext'.out⟩
         case measure=>simp [intOf];omega
       ·obtain rfl:m=P.hand1.length:=by omega
        have O4:Hid (OwnM w2 wr u5 (putsTo R P (k+1))):=hide (by rw [HN.out];exact own'.out)
        go_wp2
        go_roundw
        case rel=>exact⟨k+1,by omega,by go_num,O4.out,hext'.out⟩
        case measure=>simp [intOf];omega
     ·have hb:=hide (putB_fill hz hf HW.out (by omega))
      have e1:=(k1.out.ext Xq).cell
      have e2:=(k2.out.ext Xq).cell
      rw [hf] at e1 HFL
      have HC:=hide (HFL.out k _ (qT X0.out Xq) hlt)
      clear hz r15 r11
      cases hfill:fillA P.cells W k
      ·rw [hfill] at HC
       have HN:Hid (putsTo R P (k+1)=putsTo R P k):=hide (by rw [putsTo_succ,hb.out,hfill];simp)
       clear hf
       have hXq:=hide Xq
       clear Xq
       go_wp2_with fail
       refine HC.out.mono ?_
       rintro e w3 ⟨rfl,x3⟩
       have Xq:=hide (qT hXq.out x3)
       have ownq3:=hide (ownq.out.ext x3)
       clear e1 e2 x3
       go_wp2
       go_roundw
       case rel=>exact⟨k+1,by omega,by go_num,by rw [HN.out];exact ownq3.out,Xq.out⟩
       case measure=>simp [intOf];omega
      ·rw [hfill] at HC
       have hb2:=hide (hb.out.trans hfill)
       clear hf
       have hXq:=hide Xq
       clear Xq
       go_wp2_with fail
       refine HC.out.mono ?_
       rintro e w3 ⟨rfl,x3⟩
       have Xq:=qT hXq.out x3
       have ownq3:=hide (ownq.out.ext x3)
       clear e1 e2 x3 ownq hfill
       have ownq:=hide ownq3.out
       clear ownq3
       have HN:Hid (putsTo R P (k+1)=putsTo R P k++putsAt P.hand1 k P.hand1.length):=hide (by rw [putsTo_succ,hb2.out,if_pos rfl,HHD.out])
       have r20:w3.cell? ⟨B2,2,none⟩=some (.slice bA P.hand1.length bc):=(k2.out.ext Xq).cell 2
       have r23:w3.cell? ⟨B2,3,none⟩=some (.int .i64 1):=(k2.out.ext Xq).cell 3
       have hXq:=hide Xq
       clear Xq
       go_wp2
       go_loopw [5,43] (fun out i wi=>∃ m:Nat,m≤P.hand1.length∧i=.int .i64 m∧OwnM w2 wi out (putsTo R P k++putsAt P.hand1 k m)∧Ext w2 wi) (fun _ i _=>P.hand1.length-(intOf i).toNat)
       case atStart=>exact⟨0,Nat.zero_le _,rfl,by rw [show putsAt P.hand1 k 0=[] from rfl,List.append_nil];exact ownq.out,hXq.out⟩
       case round =>
        obtain⟨m,hm,rfl,hown,hext⟩:=hrel
        clear r20 r23
        have own':=hide hown
        have hext':=hide hext
        clear hown hext
        by_cases hmt:m<P.hand1.length
        ·obtain⟨bH,oH,rfl,hcell⟩:=(hh.out.ext hext'.out) m hmt
         have HS:=hide (putsAt_succ P.hand1 k m)
         generalize P.hand1.getD m 0=z at *
         by_cases hz:0<z
         ·have HS2:=hide (HS.out.trans (by rw [if_pos hz]))
          clear HS
          have hl6:=HL6.out k
          have hlm:=putsAt_len P.hand1 k m
          have hla:(putsTo R P k++putsAt P.hand1 k m).length≤1000000:=by rw [List.length_append];omega
          have HLA:=hide hla
          clear hl6 hlm hla
          go_wp2_with (at_builtin;refine wp_append_move (.tmp 50) (.tmp 54) rfl rfl w2 wr _ (putsTo R P k++putsAt P.hand1 k m) ⟨-1,k,m⟩ rfl own'.out rfl hext'.out HLA.out ?_;intro v4 w4 own4 x4 g4)
          have O4:=hide own4
          have X4:=hide x4
          clear own4 x4 g4
          go_wp2
          go_roundw
          case rel=>exact⟨m+1,by omega,by go_num,by rw [HS2.out,← List.append_assoc];exact O4.out,X4.out⟩
          case measure=>simp [intOf];omega
         ·have HS2:=hide (HS.out.trans (by rw [if_neg hz,List.append_nil]))
          clear HS
          go_wp2
          go_roundw
          case rel=>exact⟨m+1,by omega,by go_num,by rw [HS2.out];exact own'.out,hext'.out⟩
          case measure=>simp [intOf];omega
        ·obtain rfl:m=P.hand1.length:=by omega
         have O4:Hid (OwnM w2 wr u5 (putsTo R P (k+1))):=hide (by rw [HN.out];exact own'.out)
         go_wp2
         go_roundw
         case rel=>exact⟨k+1,by omega,by go_num,O4.out,hext'.out⟩
         case measure=>simp [intOf];omega
   ·have hz':(P.cells.getD k 0 != 0)=true:=by simpa using hz
    have HN:Hid (putsTo R P (k+1)=putsTo R P k):=hide (by rw [putsTo_succ,putB_cell hz];simp)
    clear hz
    generalize P.cells.getD k 0=z at *
    have hXq:=hide Xq
    clear Xq
    go_wp2
    go_roundw
    case rel=>exact⟨k+1,by omega,by go_num,by rw [HN.out];exact ownq.out,hXq.out⟩
    case measure=>simp [intOf];omega
  ·obtain rfl:k=P.cells.length:=by omega
   have hXq:=hide Xq
   clear Xq
   go_wp2
   go_ret
   exact⟨_,rfl,ownq.out.base X0.out,qT X0.out hXq.out⟩
theorem puts_any(R:RM)(P:PosM)(v u:Value)(w:World)(hR:RA w v R)(hP:PA w u P)(hV:Valid R)(hS:Sound R P) :
  Calls Crz.prog 58 #[v,u] w (MovesPost w (putsM R P)):=by
 rcases hS.turn with h | h
 ·exact puts_core0 R P v u w hR hP hV hS h
 ·exact puts_core1 R P v u w hR hP hV hS h
end Go.Proofs.YtdoibgmmijhlfaaGreat
