/- StoreS StoreN -/
import Derived.Test.YtdoibgmmijhlfaaGreatC41
namespace Go.Proofs.YtdoibgmmijhlfaaGreat
open Go.ChangeShapes Go.WideShapes Go.ChangeAt Go.RowKit Go.Shelf
set_option linter.unusedVariables false
set_option linter.unusedSimpArgs false
theorem run_maxS(W:World)(ats:Array TypeId)(ty:TypeId)(a b:Int):(Builtin.max_ ats ty #[.int .i64 a,.int .i64 b]).run Crz.prog W=.ok (.int .i64 (max a b)) W:=by
 have e:max a b=if a<b then b else a:=by split <;> omega
 rw [e]
 simp [Builtin.max_,Builtin.max2]
def SLoop(w0 W:World)(BS g:Nat)(R:RM)(n:Nat)(wb:World):Prop:=(∃ f L,SA w0 W BS g R f L∧L.length=n∧RightS R L∧SoundS R L)∧SFr BS wb W
def ScorePost(w0 w:World)(BS g:Nat)(R:RM)(n:Nat)(z:Int)(e:Ending)(w':World):Prop:=e=.returned (.int .i64 z)∧SLoop w0 w' BS g R n w
set_option maxHeartbeats 8000000 in
set_option maxRecDepth 100000 in
theorem score_step{w0 w:World}{BS g:Nat}{R:RM}{f:Int}{L:List (Option SlotM)}{d:Nat}{D:Int}{P:PosM}{u:Value}(hD:D=d)(hV:Valid R)(hd:d≤12)(hG:SA w0 w BS g R f L)(hn:0<L.length)(hl:L.length≤4096)(hRS:RightS R L)(hSS:SoundS R L)(hPS:PosS w0 w u P)(hS:Sound R P)
  (ih:∀ (k:Nat) (E:Int) (Q:PosM) (v:Value) (W:World) (f':Int) (L':List (Option SlotM)),k+1=d→E=k→SA w0 W BS g R f' L'→L'.length=L.length→RightS R L'→SoundS R L'→PosS w0 W v Q→Sound R Q→Calls Crz.prog 57 #[.pointer (some ⟨BS,0,none⟩),v,.int .i64 E] W (ScorePost w0 W BS g R L.length (ofM R k Q))) :
  Calls Crz.prog 57 #[.pointer (some ⟨BS,0,none⟩),u,.int .i64 D] w (ScorePost w0 w BS g R L.length (ofM R d P)):=by
 have hPA:=hPS.at_ hG.old
 obtain⟨cA,cc,aA,ac,bA,bc,rfl,-⟩:=id hPA
 obtain⟨pA,pc,sA,sc,eA,ec,base,cs,kS,ro,-⟩:=id hG
 have HG:=hide hG
 have HPS:=hide hPS
 have HRR:=hide hRS
 have HSS:=hide hSS
 have HRS:=hide (fun W (h:Ext w W)=>Result_any R P _ _ W (ro.at_.ext h) (hPA.ext h) hV hS)
 have HOV:=hide (fun W (h:Ext w W)=>Over_any P _ (rM R P) W (hPA.ext h) hS.turn)
 have HLI:=hide (fun W (h:Ext w W)=>List_any R P _ _ W (ro.at_.ext h) (hPA.ext h) hV hS)
 obtain⟨x1,k1⟩:=blks1 w #[.slice cA P.cells.length cc,.slice aA P.hand0.length ac,.slice bA P.hand1.length bc,.int .i64 P.turn,.int .i64 P.quiet] 29
 have X1:=hide x1
 have KP1:=hide k1
 have KS1:=hide (kS.ext x1)
 have HV:=hide hV
 have HSO:=hide hS
 have HNL:=hide (And.intro hn hl)
 have HPA:=hide hPA
 have HDD:=hide hd
 have HDK:=hide hD
 have HIH:=hide ih
 clear hD hd x1 k1 kS ro hG hPS hRS hSS hV hS hn hl hPA ih
 go_enter Crz.func57,Tryz.ntmps57
 go_upto_region 1 with fail
 generalize w.alloc _=w1 at *
 generalize w.heap.size=BP at KP1 ⊢
 have keepK:=hide (fun W (h:Ext w1 W)=>(show (fun W=>W.cell? ⟨BP,0,none⟩=some (.slice cA P.cells.length cc)∧W.cell? ⟨BP,1,none⟩=some (.slice aA P.hand0.length ac)∧W.cell? ⟨BP,2,none⟩=some (.slice bA P.hand1.length bc)∧W.cell? ⟨BP,3,none⟩=some (.int .i64 P.turn)∧W.cell? ⟨BP,4,none⟩=some (.int .i64 P.quiet)∧W.cell? ⟨BS,0,none⟩=some (.string R.name)∧W.cell? ⟨BS,1,none⟩=some (.int .i64 R.width)∧W.cell? ⟨BS,2,none⟩=some (.int .i64 R.height)∧W.cell? ⟨BS,3,none⟩=some (.slice pA R.pieces.length pc)∧W.cell? ⟨BS,4,none⟩=some (.slice sA R.start.length sc)∧W.cell? ⟨BS,5,none⟩=some (.bool R.falls)∧W.cell? ⟨BS,6,none⟩=some (.bool R.keeps)∧W.cell? ⟨BS,7,none⟩=some (.slice eA R.ends.length ec)∧W.cell? ⟨BS,8,none⟩=some (.int .i64 R.blocked)∧W.cell? ⟨BS,9,none⟩=some (.int .i64 R.quiet)∧W.cell? ⟨BS,10,none⟩=some (.int .i64 R.rept)∧Ext w1 W) W from ⟨(KP1.out.ext h).cell 0,(KP1.out.ext h).cell 1,(KP1.out.ext h).cell 2,(KP1.out.ext h).cell 3,(KP1.out.ext h).cell 4,(KS1.out.ext h).cell 0,(KS1.out.ext h).cell 1,(KS1.out.ext h).cell 2,(KS1.out.ext h).cell 3,(KS1.out.ext h).cell 4,(KS1.out.ext h).cell 5,(KS1.out.ext h).cell 6,(KS1.out.ext h).cell 7,(KS1.out.ext h).cell 8,(KS1.out.ext h).cell 9,(KS1.out.ext h).cell 10,h⟩))
 have yy:Ext w1 w1.drew:=Below.drew (Below.refl _ _)
 refine region_K (fun W=>W.cell? ⟨BP,0,none⟩=some (.slice cA P.cells.length cc)∧W.cell? ⟨BP,1,none⟩=some (.slice aA P.hand0.length ac)∧W.cell? ⟨BP,2,none⟩=some (.slice bA P.hand1.length bc)∧W.cell? ⟨BP,3,none⟩=some (.int .i64 P.turn)∧W.cell? ⟨BP,4,none⟩=some (.int .i64 P.quiet)∧W.cell? ⟨BS,0,none⟩=some (.string R.name)∧W.cell? ⟨BS,1,none⟩=some (.int .i64 R.width)∧W.cell? ⟨BS,2,none⟩=some (.int .i64 R.height)∧W.cell? ⟨BS,3,none⟩=some (.slice pA R.pieces.length pc)∧W.cell? ⟨BS,4,none⟩=some (.slice sA R.start.length sc)∧W.cell? ⟨BS,5,none⟩=some (.bool R.falls)∧W.cell? ⟨BS,6,none⟩=some (.bool R.keeps)∧W.cell? ⟨BS,7,none⟩=some (.slice eA R.ends.length ec)∧W.cell? ⟨BS,8,none⟩=some (.int .i64 R.blocked)∧W.cell? ⟨BS,9,none⟩=some (.int .i64 R.quiet)∧W.cell? ⟨BS,10,none⟩=some (.int .i64 R.rept)∧Ext w1 W) (fun _=>True) [] (by kernel_rfl) ?_
 have hT0:=keepK.out _ yy
 refine tk 0 hT0 (fun _=>trivial) ?_
 refine tk 1 hT0 (fun _=>trivial) ?_
 refine tk 2 hT0 (fun _=>trivial) ?_
 refine tl 3 hT0 (fun _=>trivial) (v:=?_) (fun W hW=>?_) ?_
 rotate_left
 ·obtain⟨z0,z1,z2,z3,z4,z5,z6,z7,z8,z9,z10,z11,z12,z13,z14,z15,z16⟩:=hW;go_simp;first|done|with_reducible rfl
 refine tl 4 hT0 (fun _=>trivial) (v:=?_) (fun W hW=>?_) ?_
 rotate_left
 ·obtain⟨z0,z1,z2,z3,z4,z5,z6,z7,z8,z9,z10,z11,z12,z13,z14,z15,z16⟩:=hW;go_simp;first|done|with_reducible rfl
 refine anyK_on1 5 (by kernel_rfl) ?_
 refine tw 5 (fun K hK=>?_)
 go_simp
 refine(HRS.out _ (qT X1.out yy)).mono ?_
 rintro e w2 ⟨rfl,xx⟩
 try go_wp2_with fail
 replace yy:=qT yy xx
 have hT1:=keepK.out _ yy
 refine hK.out _ _ hT1 (fun _=>trivial) ?_
 clear hK K
 try simp only [Act.put,List.setIfInBounds_toArray,List.set_cons_zero,List.set_cons_succ]
 refine tk 6 hT1 (fun _=>trivial) ?_
 refine anyK_done (by kernel_rfl) ?_ _
 clear keepK hT0 hT1
 have X2:=hide (qT X1.out yy)
 have KP2:=hide (KP1.out.ext yy)
 have KS2:=hide (KS1.out.ext yy)
 clear yy xx KP1 KS1 X1 HRS
 by_cases hz:rM R P=0
 ·rw [hz]
  have HZ:=hide hz
  clear HOV
  rcases d with _ | k
  ·obtain rfl:D=0:=by simpa using HDK.out
   clear hz
   go_wp2
   go_ret
   exact⟨ret_int (show (0:Int)=ofM R 0 P from (if_pos HZ.out).symm),⟨f,L,HG.out.ext X2.out,rfl,HRR.out,HSS.out⟩,SFr.of_ext X2.out⟩
  ·have t0:(D == 0)=false:=by have:=HDK.out;simp;omega
   have hwd:IntKind.i64.wrap (D-1)=D-1:=by have:=HDK.out;have:=HDD.out;rw [IntKind.wrap_i64];omega
   have f1:=KP2.out.cell
   clear hz
   cases hb:hasB (L.getD (slotI P L.length) none) P D
   ·have HGN:=hide (fun W (h:Ext w W)=>sget_no (D:=D) (HG.out.ext h) HNL.out.1 HNL.out.2 (HPA.out.ext h) HV.out HSO.out HSS.out hb)
    clear hb
    go_wp2_with fail
    refine(HGN.out _ X2.out).mono ?_
    rintro e w4 ⟨rfl,x4⟩
    have X4:=hide (qT X2.out x4)
    have KP4:=hide (KP2.out.ext x4)
    have KS4:=hide (KS2.out.ext x4)
    clear f1 x4 X2 KP2 KS2 HGN
    go_upto_region 10 with fail
    have keepK:=hide (fun W (h:Ext w4 W)=>(show (fun W=>W.cell? ⟨BP,0,none⟩=some (.slice cA P.cells.length cc)∧W.cell? ⟨BP,1,none⟩=some (.slice aA P.hand0.length ac)∧W.cell? ⟨BP,2,none⟩=some (.slice bA P.hand1.length bc)∧W.cell? ⟨BP,3,none⟩=some (.int .i64 P.turn)∧W.cell? ⟨BP,4,none⟩=some (.int .i64 P.quiet)∧W.cell? ⟨BS,0,none⟩=some (.string R.name)∧W.cell? ⟨BS,1,none⟩=some (.int .i64 R.width)∧W.cell? ⟨BS,2,none⟩=some (.int .i64 R.height)∧W.cell? ⟨BS,3,none⟩=some (.slice pA R.pieces.length pc)∧W.cell? ⟨BS,4,none⟩=some (.slice sA R.start.length sc)∧W.cell? ⟨BS,5,none⟩=some (.bool R.falls)∧W.cell? ⟨BS,6,none⟩=some (.bool R.keeps)∧W.cell? ⟨BS,7,none⟩=some (.slice eA R.ends.length ec)∧W.cell? ⟨BS,8,none⟩=some (.int .i64 R.blocked)∧W.cell? ⟨BS,9,none⟩=some (.int .i64 R.quiet)∧W.cell? ⟨BS,10,none⟩=some (.int .i64 R.rept)∧Ext w4 W) W from ⟨(KP4.out.ext h).cell 0,(KP4.out.ext h).cell 1,(KP4.out.ext h).cell 2,(KP4.out.ext h).cell 3,(KP4.out.ext h).cell 4,(KS4.out.ext h).cell 0,(KS4.out.ext h).cell 1,(KS4.out.ext h).cell 2,(KS4.out.ext h).cell 3,(KS4.out.ext h).cell 4,(KS4.out.ext h).cell 5,(KS4.out.ext h).cell 6,(KS4.out.ext h).cell 7,(KS4.out.ext h).cell 8,(KS4.out.ext h).cell 9,(KS4.out.ext h).cell 10,h⟩))
    have yy:Ext w4 w4.drew:=Below.drew (Below.refl _ _)
    refine region_K (fun W=>W.cell? ⟨BP,0,none⟩=some (.slice cA P.cells.length cc)∧W.cell? ⟨BP,1,none⟩=some (.slice aA P.hand0.length ac)∧W.cell? ⟨BP,2,none⟩=some (.slice bA P.hand1.length bc)∧W.cell? ⟨BP,3,none⟩=some (.int .i64 P.turn)∧W.cell? ⟨BP,4,none⟩=some (.int .i64 P.quiet)∧W.cell? ⟨BS,0,none⟩=some (.string R.name)∧W.cell? ⟨BS,1,none⟩=some (.int .i64 R.width)∧W.cell? ⟨BS,2,none⟩=some (.int .i64 R.height)∧W.cell? ⟨BS,3,none⟩=some (.slice pA R.pieces.length pc)∧W.cell? ⟨BS,4,none⟩=some (.slice sA R.start.length sc)∧W.cell? ⟨BS,5,none⟩=some (.bool R.falls)∧W.cell? ⟨BS,6,none⟩=some (.bool R.keeps)∧W.cell? ⟨BS,7,none⟩=some (.slice eA R.ends.length ec)∧W.cell? ⟨BS,8,none⟩=some (.int .i64 R.blocked)∧W.cell? ⟨BS,9,none⟩=some (.int .i64 R.quiet)∧W.cell? ⟨BS,10,none⟩=some (.int .i64 R.rept)∧Ext w4 W) (fun _=>True) [] (by kernel_rfl) ?_
    have hT0:=keepK.out _ yy
    refine tk 0 hT0 (fun _=>trivial) ?_
    refine tk 1 hT0 (fun _=>trivial) ?_
    refine tk 2 hT0 (fun _=>trivial) ?_
    refine tl 3 hT0 (fun _=>trivial) (v:=?_) (fun W hW=>?_) ?_
    rotate_left
    ·obtain⟨z0,z1,z2,z3,z4,z5,z6,z7,z8,z9,z10,z11,z12,z13,z14,z15,z16⟩:=hW;go_simp;first|done|with_reducible rfl
    refine tl 4 hT0 (fun _=>trivial) (v:=?_) (fun W hW=>?_) ?_
    rotate_left
    ·obtain⟨z0,z1,z2,z3,z4,z5,z6,z7,z8,z9,z10,z11,z12,z13,z14,z15,z16⟩:=hW;go_simp;first|done|with_reducible rfl
    refine tk 7 hT0 (fun _=>trivial) ?_
    refine anyK_on1 5 (by kernel_rfl) ?_
    refine tw 5 (fun K hK=>?_)
    go_simp
    refine(HLI.out _ (qT X4.out yy)).mono ?_
    rintro e wl ⟨v5,rfl,own5,xx⟩
    try go_wp2_with fail
    replace yy:=qT yy xx
    have OW5:=hide own5
    obtain⟨A5,c5,rfl,-⟩:=own5
    have hT1:=keepK.out _ yy
    refine hK.out _ _ hT1 (fun _=>trivial) ?_
    clear hK K
    try simp only [Act.put,List.setIfInBounds_toArray,List.set_cons_zero,List.set_cons_succ]
    refine tk 6 hT1 (fun _=>trivial) ?_
    refine anyK_done (by kernel_rfl) ?_ _
    clear keepK hT0 hT1
    have XL:=hide (qT X4.out yy)
    have KPL:=hide (KP4.out.ext yy)
    have KSL:=hide (KS4.out.ext yy)
    clear yy xx KP4 KS4 X4 HLI
    obtain⟨q,hq⟩:∃ q:MM→Int,∀ m,q m=nearM (-(ofM R k (makeM R P m))):=⟨_,fun _=>rfl⟩
    have HFE:Hid ((bestL q (⟨0,0,0⟩,-2000) (listM R P)).2=ofM R (k+1) P):=hide (by rw [of_open HZ.out,show q=fun m=>nearM (-(ofM R k (makeM R P m))) from funext hq])
    have HFM:=hide hq
    have HBD:=hide (fun m=>of_bound R k (makeM R P m) (turn_make HSO.out.turn m) (by have:=HDD.out;omega))
    have HMR:=hide (fun m (hm:m∈listM R P)=>mem_listM.1 hm)
    have HLL:=hide (listM_len HV.out HSO.out)
    clear hq
    generalize hML:listM R P=L1 at *
    clear hML
    have hll:=HLL.out
    go_wp2
    go_loopw [10,42] (fun b i wr=>∃ j:Nat,j≤L1.length∧i=.int .i64 j∧b=.int .i64 (bestL q (⟨0,0,0⟩,-2000) (L1.take j)).2∧SLoop w0 wr BS g R L.length wl) (fun _ i _=>L1.length-(intOf i).toNat)
    case atStart=>exact⟨0,Nat.zero_le _,rfl,rfl,⟨f,L,HG.out.ext XL.out,rfl,HRR.out,HSS.out⟩,SFr.refl _ _⟩
    case round =>
     obtain⟨j,hj,rfl,rfl,⟨f5,L5,hg5,hl5,hr5,hs5⟩,fr5⟩:=hrel
     have FR:=hide fr5
     have HGR:=hide hg5
     have HL5:=hide hl5
     have HR5:=hide hr5
     have HS5:=hide hs5
     clear hg5 hl5 hr5 hs5 fr5
     by_cases hlt:j<L1.length
     ·obtain⟨m,hm⟩:∃ m,L1[j]? = some m:=⟨L1[j],List.getElem?_eq_getElem _⟩
      have HBT:=hide (bestL_take (f:=q) (a:=(⟨0,0,0⟩,-2000)) hm)
      obtain⟨A',c',e',hc'⟩:=OW5.out
      simp only [Value.slice.injEq] at e'
      obtain⟨rfl,-,rfl⟩:=e'
      have hcr:=own_tfr hc' (by decide) FR.out.1
      obtain⟨b5,o5,rfl,m0,m1,m2⟩:=moves_get (own_cells hcr).1 hm
      have hml:=HMR.out m (List.mem_of_getElem? hm)
      have HMK:=hide (fun W (v1:Value) (rr:RA W v1 R) (pp:PA W (.agg #[.slice cA P.cells.length cc,.slice aA P.hand0.length ac,.slice bA P.hand1.length bc,.int .i64 P.turn,.int .i64 P.quiet]) P)=>Make_any R P m _ _ W rr pp HV.out HSO.out hml)
      have HSQ:=hide (sound_make HV.out HSO.out hml)
      have hb:=HBD.out m
      have hfm:=HFM.out m
      have HIH1:=hide (fun Q v W f' L' h1 h2 h3 h4 h5 h6=>HIH.out k (D-1) Q v W f' L' rfl (by have:=HDK.out;omega) h1 h2 h3 h4 h5 h6)
      generalize makeM R P m=Q at *
      have HIH2:=hide (fun v W f' L' h1 h2 h3 h4 h5=>HIH1.out Q v W f' L' h1 h2 h3 h4 h5 HSQ.out)
      generalize ofM R k Q=z at *
      have HZZ:Hid (-1000≤z∧z≤1000∧q m=nearM (-z)):=hide ⟨by have:=HDD.out;unfold boundB at hb;omega,by have:=HDD.out;unfold boundB at hb;omega,hfm⟩
      have hwn:IntKind.i64.wrap (-z)=-z:=by have:=HZZ.out;rw [IntKind.wrap_i64];omega
      have HNE2:Hid (∀ W,Calls Crz.prog 29 #[.int .i64 (-z)] W fun e w'=>e=.returned (.int .i64 (q m))∧Ext W w'):=hide (fun W=>by rw [HZZ.out.2.2];exact Nearer_any (-z) W (by have:=HZZ.out;omega) (by have:=HZZ.out;omega))
      generalize q m=qm at *
      generalize bestL q (⟨0,0,0⟩,-2000) (L1.take j)=y at *
      have hmax:∀ W ats ty,(Builtin.max_ ats ty #[.int .i64 y.2,.int .i64 qm]).run Crz.prog W=.ok (.int .i64 (max y.2 qm)) W:=fun W ats ty=>run_maxS W ats ty y.2 qm
      clear hb hfm hml hm hc' hcr HIH1
      go_upto_region 13 with fail
      obtain⟨xm,km⟩:=blks1 wr #[.int .i64 m.src,.int .i64 m.dst,.int .i64 m.piece] 31
      have FR5:=hide (FR.out.trans (SFr.of_ext xm))
      have HG5:=hide (HGR.out.ext xm)
      have KM5:=hide km
      have KP5:=hide (FR5.out.blk (by decide) KPL.out)
      clear m0 m1 m2 xm km HGR
      generalize wr.alloc _=w5 at *
      generalize wr.heap.size=BM at *
      obtain⟨pA,pc,sA,sc,eA,ec,base,cs,kS5,ro5,-⟩:=id HG5.out
      have KS5:=hide kS5
      have HPS5:=hide (HPS.out.tfr int_tsS ((TFr.of_ext XL.out).trans FR5.out.1))
      have HMK2:=hide (fun W (h:SFr BS w5 W∧Ext w0 W)=>HMK.out W _ (ro5.tfr rules_tsS h.1.1).at_ ((HPS5.out.tfr int_tsS h.1.1).at_ h.2))
      clear kS5 ro5 HMK
      have keepK:=hide (fun W (h:(SFr BS w5 W∧Ext w0 W))=>(show (fun W=>W.cell? ⟨BP,0,none⟩=some (.slice cA P.cells.length cc)∧W.cell? ⟨BP,1,none⟩=some (.slice aA P.hand0.length ac)∧W.cell? ⟨BP,2,none⟩=some (.slice bA P.hand1.length bc)∧W.cell? ⟨BP,3,none⟩=some (.int .i64 P.turn)∧W.cell? ⟨BP,4,none⟩=some (.int .i64 P.quiet)∧W.cell? ⟨BM,0,none⟩=some (.int .i64 m.src)∧W.cell? ⟨BM,1,none⟩=some (.int .i64 m.dst)∧W.cell? ⟨BM,2,none⟩=some (.int .i64 m.piece)∧W.cell? ⟨BS,0,none⟩=some (.string R.name)∧W.cell? ⟨BS,1,none⟩=some (.int .i64 R.width)∧W.cell? ⟨BS,2,none⟩=some (.int .i64 R.height)∧W.cell? ⟨BS,3,none⟩=some (.slice pA R.pieces.length pc)∧W.cell? ⟨BS,4,none⟩=some (.slice sA R.start.length sc)∧W.cell? ⟨BS,5,none⟩=some (.bool R.falls)∧W.cell? ⟨BS,6,none⟩=some (.bool R.keeps)∧W.cell? ⟨BS,7,none⟩=some (.slice eA R.ends.length ec)∧W.cell? ⟨BS,8,none⟩=some (.int .i64 R.blocked)∧W.cell? ⟨BS,9,none⟩=some (.int .i64 R.quiet)∧W.cell? ⟨BS,10,none⟩=some (.int .i64 R.rept)∧(SFr BS w5 W∧Ext w0 W)) W from ⟨(h.1.blk (by decide) KP5.out).cell 0,(h.1.blk (by decide) KP5.out).cell 1,(h.1.blk (by decide) KP5.out).cell 2,(h.1.blk (by decide) KP5.out).cell 3,(h.1.blk (by decide) KP5.out).cell 4,(h.1.blk (by decide) KM5.out).cell 0,(h.1.blk (by decide) KM5.out).cell 1,(h.1.blk (by decide) KM5.out).cell 2,h.1.2 0 _ (by omega) (KS5.out.cell 0),h.1.2 1 _ (by omega) (KS5.out.cell 1),h.1.2 2 _ (by omega) (KS5.out.cell 2),h.1.2 3 _ (by omega) (KS5.out.cell 3),h.1.2 4 _ (by omega) (KS5.out.cell 4),h.1.2 5 _ (by omega) (KS5.out.cell 5),h.1.2 6 _ (by omega) (KS5.out.cell 6),h.1.2 7 _ (by omega) (KS5.out.cell 7),h.1.2 8 _ (by omega) (KS5.out.cell 8),h.1.2 9 _ (by omega) (KS5.out.cell 9),h.1.2 10 _ (by omega) (KS5.out.cell 10),h⟩))
      have yy:=(show SFr BS w5 w5.drew∧Ext w0 w5.drew from ⟨SFr.of_ext (Below.drew (Below.refl _ _)),Below.drew HG5.out.old⟩)
      refine region_K (fun W=>W.cell? ⟨BP,0,none⟩=some (.slice cA P.cells.length cc)∧W.cell? ⟨BP,1,none⟩=some (.slice aA P.hand0.length ac)∧W.cell? ⟨BP,2,none⟩=some (.slice bA P.hand1.length bc)∧W.cell? ⟨BP,3,none⟩=some (.int .i64 P.turn)∧W.cell? ⟨BP,4,none⟩=some (.int .i64 P.quiet)∧W.cell? ⟨BM,0,none⟩=some (.int .i64 m.src)∧W.cell? ⟨BM,1,none⟩=some (.int .i64 m.dst)∧W.cell? ⟨BM,2,none⟩=some (.int .i64 m.piece)∧W.cell? ⟨BS,0,none⟩=some (.string R.name)∧W.cell? ⟨BS,1,none⟩=some (.int .i64 R.width)∧W.cell? ⟨BS,2,none⟩=some (.int .i64 R.height)∧W.cell? ⟨BS,3,none⟩=some (.slice pA R.pieces.length pc)∧W.cell? ⟨BS,4,none⟩=some (.slice sA R.start.length sc)∧W.cell? ⟨BS,5,none⟩=some (.bool R.falls)∧W.cell? ⟨BS,6,none⟩=some (.bool R.keeps)∧W.cell? ⟨BS,7,none⟩=some (.slice eA R.ends.length ec)∧W.cell? ⟨BS,8,none⟩=some (.int .i64 R.blocked)∧W.cell? ⟨BS,9,none⟩=some (.int .i64 R.quiet)∧W.cell? ⟨BS,10,none⟩=some (.int .i64 R.rept)∧(SFr BS w5 W∧Ext w0 W)) (fun _=>True) [] (by kernel_rfl) ?_
      have hT0:=keepK.out _ yy
      refine tk 0 hT0 (fun _=>trivial) ?_
      refine tk 1 hT0 (fun _=>trivial) ?_
      refine tk 2 hT0 (fun _=>trivial) ?_
      refine tk 3 hT0 (fun _=>trivial) ?_
      refine tk 4 hT0 (fun _=>trivial) ?_
      refine tl 5 hT0 (fun _=>trivial) (v:=?_) (fun W hW=>?_) ?_
      rotate_left
      ·obtain⟨z0,z1,z2,z3,z4,z5,z6,z7,z8,z9,z10,z11,z12,z13,z14,z15,z16,z17,z18,z19⟩:=hW;go_simp;first|done|with_reducible rfl
      refine tl 6 hT0 (fun _=>trivial) (v:=?_) (fun W hW=>?_) ?_
      rotate_left
      ·obtain⟨z0,z1,z2,z3,z4,z5,z6,z7,z8,z9,z10,z11,z12,z13,z14,z15,z16,z17,z18,z19⟩:=hW;go_simp;first|done|with_reducible rfl
      refine tl 7 hT0 (fun _=>trivial) (v:=?_) (fun W hW=>?_) ?_
      rotate_left
      ·obtain⟨z0,z1,z2,z3,z4,z5,z6,z7,z8,z9,z10,z11,z12,z13,z14,z15,z16,z17,z18,z19⟩:=hW;go_simp;first|done|with_reducible rfl
      refine tk 9 hT0 (fun _=>trivial) ?_
      refine tk 10 hT0 (fun _=>trivial) ?_
      refine anyK_on1 8 (by kernel_rfl) ?_
      refine tw 8 (fun K hK=>?_)
      go_simp
      refine(HMK2.out _ yy).mono ?_
      rintro e wk ⟨v6,rfl,hp6,xx⟩
      try go_wp2_with fail
      replace yy:=(And.intro (yy.1.trans (SFr.of_ext xx)) (qT yy.2 xx))
      have HP6:=hide hp6.toI
      have HG6:=hide ((HG5.out.ext (Below.drew (Below.refl _ _))).ext xx)
      clear hp6
      have hT1:=keepK.out _ yy
      refine hK.out _ _ hT1 (fun _=>trivial) ?_
      clear hK K
      try simp only [Act.put,List.setIfInBounds_toArray,List.set_cons_zero,List.set_cons_succ]
      refine anyK_on1 11 (by kernel_rfl) ?_
      refine tw 11 (fun K hK=>?_)
      go_simp
      refine(HIH2.out _ _ _ _ HG6.out HL5.out HR5.out HS5.out (.inr HP6.out)).mono ?_
      rintro e wz ⟨rfl,⟨f7,L7,hg7,hl7,hr7,hs7⟩,xx⟩
      try go_wp2_with fail
      replace yy:=(And.intro (yy.1.trans xx) hg7.old)
      have HG7:=hide hg7
      have HL7:=hide hl7
      have HR7:=hide hr7
      have HS7:=hide hs7
      clear hg7 hl7 hr7 hs7
      have hT2:=keepK.out _ yy
      refine hK.out _ _ hT2 (fun _=>trivial) ?_
      clear hK K
      try simp only [Act.put,List.setIfInBounds_toArray,List.set_cons_zero,List.set_cons_succ]
      refine tk 12 hT2 (fun _=>trivial) ?_
      refine anyK_on1 13 (by kernel_rfl) ?_
      refine tw 13 (fun K hK=>?_)
      go_simp
      refine(HNE2.out _).mono ?_
      rintro e wy ⟨rfl,xx⟩
      try go_wp2_with fail
      replace yy:=(And.intro (yy.1.trans (SFr.of_ext xx)) (qT yy.2 xx))
      have HG9:=hide (HG7.out.ext xx)
      have hT3:=keepK.out _ yy
      refine hK.out _ _ hT3 (fun _=>trivial) ?_
      clear hK K
      try simp only [Act.put,List.setIfInBounds_toArray,List.set_cons_zero,List.set_cons_succ]
      refine tk 14 hT3 (fun _=>trivial) ?_
      refine tk 15 hT3 (fun _=>trivial) ?_
      refine anyK_done (by kernel_rfl) ?_ _
      clear keepK hT0 hT1 hT2 hT3
      have YY:=hide yy.1
      clear yy xx hwn HNE2 HMK2 HIH2 HP6 HG6 HG7 HG5 KP5 KM5 KS5 hmax
      go_wp2
      go_roundw
      case rel=>exact⟨j+1,by omega,by go_num,by rw [HBT.out];split <;> (congr 1;omega),⟨f7,L7,HG9.out,HL7.out,HR7.out,HS7.out⟩,FR5.out.trans YY.out⟩
      case measure=>simp [intOf];omega
     ·obtain rfl:j=L1.length:=by omega
      rw [List.take_length,HFE.out]
      have HPT:=hide (sput_any (D:=D) (s:=ofM R (k+1) P) HGR.out (by have:=HNL.out;have:=HL5.out;omega) (by have:=HNL.out;have:=HL5.out;omega) ((HPS.out.tfr int_tsS ((TFr.of_ext XL.out).trans FR.out.1)).at_ HGR.out.old) HV.out HSO.out)
      have HRN:Hid (RightS R (putS L5 P D (ofM R (k+1) P))):=hide (HR5.out.put (by have:=HDK.out;omega) (by have:=HDK.out;rw [show D.toNat=k+1 by omega]))
      have HSN:=hide (HS5.out.put (D:=D) (s:=ofM R (k+1) P) HSO.out)
      have HLN:Hid ((putS L5 P D (ofM R (k+1) P)).length=L.length):=hide (by rw [putS_len,HL5.out])
      have KPR:=hide (FR.out.blk (by decide) KPL.out)
      generalize putS L5 P D (ofM R (k+1) P)=L8 at *
      generalize hzz:ofM R (k+1) P=z at *
      have HZV:=hide hzz
      clear hzz
      have g1:=KPR.out.cell
      go_wp2_with fail
      refine HPT.out.mono ?_
      rintro e w8 ⟨rfl,S8,F8⟩
      have SH:=hide S8
      have FH:=hide F8
      clear S8 F8 g1 HPT
      go_wp2
      go_ret
      exact⟨by first | rfl | (rw [HZV.out];rfl),⟨f5,L8,SH.out,HLN.out,HRN.out,HSN.out⟩,((SFr.of_ext XL.out).trans FR.out).trans FH.out⟩
   ·have HGY:=hide (fun W (h:Ext w W)=>sget_yes (D:=D) (HG.out.ext h) HNL.out.1 HNL.out.2 (HPA.out.ext h) HV.out HSO.out HSS.out hb)
    have he:scoreS (L.getD (slotI P L.length) none)=ofM R (k+1) P:=by
     have:=HDK.out
     rw [HRR.out.get hb,show D.toNat=k+1 by omega]
    rw [he] at HGY
    clear hb he
    generalize hzz:ofM R (k+1) P=z at *
    have HZV:=hide hzz
    clear hzz
    go_wp2_with fail
    refine(HGY.out _ X2.out).mono ?_
    rintro e w4 ⟨rfl,S4,F4⟩
    have SH:=hide S4
    have FH:=hide F4
    clear S4 F4 f1 HGY
    go_wp2
    go_ret
    exact⟨by first | rfl | (rw [HZV.out];rfl),⟨_,L,SH.out,rfl,HRR.out,HSS.out⟩,(SFr.of_ext X2.out).trans FH.out⟩
 ·have t0:(rM R P != 0)=true:=by simpa using hz
  have HOZ:=hide (of_over hz d)
  have f1:=KP2.out.cell
  clear hz
  generalize overM P (rM R P)=y at *
  generalize rM R P=z at *
  go_wp2_with fail
  refine(HOV.out _ X2.out).mono ?_
  rintro e w3 ⟨rfl,x3⟩
  have X3:=hide (qT X2.out x3)
  clear f1 x3 HOV
  go_wp2
  go_ret
  exact⟨by first | rfl | (rw [HOZ.out];rfl),⟨f,L,HG.out.ext X3.out,rfl,HRR.out,HSS.out⟩,SFr.of_ext X3.out⟩
theorem score_any{w0:World}{BS g:Nat}{R:RM}{n:Nat}(hV:Valid R)(hn:0<n)(hl:n≤4096):∀ (d:Nat) (D:Int) (P:PosM) (u:Value) (w:World) (f:Int) (L:List (Option SlotM)),d≤12→D=d→SA w0 w BS g R f L→L.length=n→RightS R L→SoundS R L→PosS w0 w u P→Sound R P →
  Calls Crz.prog 57 #[.pointer (some ⟨BS,0,none⟩),u,.int .i64 D] w (ScorePost w0 w BS g R n (ofM R d P))
 | 0,D,P,u,w,f,L,hd,hD,hG,hL,hRS,hSS,hPS,hS=>by
  subst hL
  exact score_step hD hV hd hG hn hl hRS hSS hPS hS (fun k E Q v W f' L' h=>by omega)
 | d+1,D,P,u,w,f,L,hd,hD,hG,hL,hRS,hSS,hPS,hS=>by
  subst hL
  exact score_step hD hV hd hG hn hl hRS hSS hPS hS (fun k E Q v W f' L' h hE h1 h2 h3 h4 h5 h6=>by
   obtain rfl:k=d:=by omega
   exact score_any hV hn hl k E Q v W f' L' (by omega) hE h1 h2 h3 h4 h5 h6)
def SScorePost(w0 w:World)(BS g:Nat)(R:RM)(n:Nat)(z:Int)(e:Ending)(w':World):Prop:=e=.returned (.tuple #[.int .i64 z,.int .i64 0])∧SLoop w0 w' BS g R n w
set_option maxHeartbeats 4000000 in
set_option maxRecDepth 100000 in
theorem sScore_yes{w0 w:World}{BS g:Nat}{R:RM}{f:Int}{L:List (Option SlotM)}{D:Int}{P:PosM}{u:Value}(hG:SA w0 w BS g R f L)(hn:0<L.length)(hl:L.length≤4096)(hRS:RightS R L)(hSS:SoundS R L)(hPS:PosS w0 w u P)(he:perftE R P D=0) :
  Calls Crz.prog 33 #[.pointer (some ⟨BS,0,none⟩),u,.int .i64 D] w (SScorePost w0 w BS g R L.length (ofM R D.toNat P)):=by
 have hPA:=hPS.at_ hG.old
 obtain⟨cA,cc,aA,ac,bA,bc,rfl,-⟩:=id hPA
 obtain⟨pA,pc,sA,sc,eA,ec,base,cs,kS,ro,-⟩:=id hG
 have HT:=hide (fun W (h:Ext w W)=>PfTree_any R P _ _ D W (ro.at_.ext h) (hPA.ext h))
 rw [he] at HT
 obtain⟨hV,hS,d0,d1,-⟩:=perft_zero he
 have HSC:=hide (fun W (h:Ext w W)=>score_any hV hn hl D.toNat D P _ W f L (by omega) (by omega) (hG.ext h) rfl hRS hSS (hPS.tfr (ts:=[]) (by simp) (TFr.of_ext h)) hS)
 unfold SScorePost
 clear he hV hS d0 d1
 generalize ofM R D.toNat P=z at *
 generalize perftN R P D=N at *
 obtain⟨x1,k1⟩:=blks1 w #[.slice cA P.cells.length cc,.slice aA P.hand0.length ac,.slice bA P.hand1.length bc,.int .i64 P.turn,.int .i64 P.quiet] 29
 have X1:=hide x1
 have KP1:=hide k1
 have KS1:=hide (kS.ext x1)
 clear x1 k1 kS ro hG hn hl hRS hSS hPS hPA
 go_enter Crz.func33,Tryz.ntmps33
 go_upto_region 1 with fail
 generalize w.alloc _=w1 at *
 generalize w.heap.size=BP at KP1 ⊢
 have keepK:=hide (fun W (h:Ext w1 W)=>(show (fun W=>W.cell? ⟨BP,0,none⟩=some (.slice cA P.cells.length cc)∧W.cell? ⟨BP,1,none⟩=some (.slice aA P.hand0.length ac)∧W.cell? ⟨BP,2,none⟩=some (.slice bA P.hand1.length bc)∧W.cell? ⟨BP,3,none⟩=some (.int .i64 P.turn)∧W.cell? ⟨BP,4,none⟩=some (.int .i64 P.quiet)∧W.cell? ⟨BS,0,none⟩=some (.string R.name)∧W.cell? ⟨BS,1,none⟩=some (.int .i64 R.width)∧W.cell? ⟨BS,2,none⟩=some (.int .i64 R.height)∧W.cell? ⟨BS,3,none⟩=some (.slice pA R.pieces.length pc)∧W.cell? ⟨BS,4,none⟩=some (.slice sA R.start.length sc)∧W.cell? ⟨BS,5,none⟩=some (.bool R.falls)∧W.cell? ⟨BS,6,none⟩=some (.bool R.keeps)∧W.cell? ⟨BS,7,none⟩=some (.slice eA R.ends.length ec)∧W.cell? ⟨BS,8,none⟩=some (.int .i64 R.blocked)∧W.cell? ⟨BS,9,none⟩=some (.int .i64 R.quiet)∧W.cell? ⟨BS,10,none⟩=some (.int .i64 R.rept)∧Ext w1 W) W from ⟨(KP1.out.ext h).cell 0,(KP1.out.ext h).cell 1,(KP1.out.ext h).cell 2,(KP1.out.ext h).cell 3,(KP1.out.ext h).cell 4,(KS1.out.ext h).cell 0,(KS1.out.ext h).cell 1,(KS1.out.ext h).cell 2,(KS1.out.ext h).cell 3,(KS1.out.ext h).cell 4,(KS1.out.ext h).cell 5,(KS1.out.ext h).cell 6,(KS1.out.ext h).cell 7,(KS1.out.ext h).cell 8,(KS1.out.ext h).cell 9,(KS1.out.ext h).cell 10,h⟩))
 have yy:Ext w1 w1.drew:=Below.drew (Below.refl _ _)
 refine region_K (fun W=>W.cell? ⟨BP,0,none⟩=some (.slice cA P.cells.length cc)∧W.cell? ⟨BP,1,none⟩=some (.slice aA P.hand0.length ac)∧W.cell? ⟨BP,2,none⟩=some (.slice bA P.hand1.length bc)∧W.cell? ⟨BP,3,none⟩=some (.int .i64 P.turn)∧W.cell? ⟨BP,4,none⟩=some (.int .i64 P.quiet)∧W.cell? ⟨BS,0,none⟩=some (.string R.name)∧W.cell? ⟨BS,1,none⟩=some (.int .i64 R.width)∧W.cell? ⟨BS,2,none⟩=some (.int .i64 R.height)∧W.cell? ⟨BS,3,none⟩=some (.slice pA R.pieces.length pc)∧W.cell? ⟨BS,4,none⟩=some (.slice sA R.start.length sc)∧W.cell? ⟨BS,5,none⟩=some (.bool R.falls)∧W.cell? ⟨BS,6,none⟩=some (.bool R.keeps)∧W.cell? ⟨BS,7,none⟩=some (.slice eA R.ends.length ec)∧W.cell? ⟨BS,8,none⟩=some (.int .i64 R.blocked)∧W.cell? ⟨BS,9,none⟩=some (.int .i64 R.quiet)∧W.cell? ⟨BS,10,none⟩=some (.int .i64 R.rept)∧Ext w1 W) (fun _=>True) [] (by kernel_rfl) ?_
 have hT0:=keepK.out _ yy
 refine tk 0 hT0 (fun _=>trivial) ?_
 refine tk 1 hT0 (fun _=>trivial) ?_
 refine tk 2 hT0 (fun _=>trivial) ?_
 refine tl 3 hT0 (fun _=>trivial) (v:=?_) (fun W hW=>?_) ?_
 rotate_left
 ·obtain⟨z0,z1,z2,z3,z4,z5,z6,z7,z8,z9,z10,z11,z12,z13,z14,z15,z16⟩:=hW;go_simp;first|done|with_reducible rfl
 refine tl 4 hT0 (fun _=>trivial) (v:=?_) (fun W hW=>?_) ?_
 rotate_left
 ·obtain⟨z0,z1,z2,z3,z4,z5,z6,z7,z8,z9,z10,z11,z12,z13,z14,z15,z16⟩:=hW;go_simp;first|done|with_reducible rfl
 refine tk 5 hT0 (fun _=>trivial) ?_
 refine anyK_on1 6 (by kernel_rfl) ?_
 refine tw 6 (fun K hK=>?_)
 go_simp
 refine(HT.out _ (qT X1.out yy)).mono ?_
 rintro e w2 ⟨rfl,xx⟩
 try go_wp2_with fail
 replace yy:=qT yy xx
 have hT1:=keepK.out _ yy
 refine hK.out _ _ hT1 (fun _=>trivial) ?_
 clear hK K
 try simp only [Act.put,List.setIfInBounds_toArray,List.set_cons_zero,List.set_cons_succ]
 refine tk 7 hT1 (fun _=>trivial) ?_
 refine tk 8 hT1 (fun _=>trivial) ?_
 refine tk 9 hT1 (fun _=>trivial) ?_
 refine tk 10 hT1 (fun _=>trivial) ?_
 refine tk 11 hT1 (fun _=>trivial) ?_
 refine anyK_done (by kernel_rfl) ?_ _
 clear keepK hT0 hT1
 have X2:=hide (qT X1.out yy)
 have KP2:=hide (KP1.out.ext yy)
 have f1:=KP2.out.cell
 clear yy xx
 go_wp2_with fail
 refine(HSC.out _ X2.out).mono ?_
 rintro e w5 ⟨rfl,hs,fr⟩
 have HS:=hide hs
 have FR:=hide fr
 clear hs fr f1 HSC
 go_wp2
 go_ret2
 exact⟨rfl,HS.out,(SFr.of_ext X2.out).trans FR.out⟩
theorem slotInfo:(Crz.prog.info? 174).map (fun i=>(i.zero,i.size,i.bytes))=some (some (.agg #[.bool false,.slice none 0 0,.slice none 0 0,.slice none 0 0,.int .i64 0,.int .i64 0,.int .i64 0,.int .i64 0]),8,112):=by kernel_rfl
def slotZ(n:Nat):Array Value:=madeCells #[.bool false,.slice none 0 0,.slice none 0 0,.slice none 0 0,.int .i64 0,.int .i64 0,.int .i64 0,.int .i64 0] (n * 8)
theorem make_slots(n:Nat)(hn:n≤4096)(w:World):(Instr.makeSlice 105 (.int .i64 (n:Int)) (.int .i64 (n:Int))).run Crz.prog w=.ok (.slice (some ⟨w.heap.size,0,none⟩) n n) (w.alloc (.cells (slotZ n) 174)):=by
 obtain⟨i,hi,hz,hs,hb⟩:=info_parts slotInfo
 have hr:=run_make (P:=Crz.prog) w 105 174 i _ (by kernel_rfl) hi hz .i64 .i64 (n:Int) (n:Int) (by omega) (by omega) (by rw [hb];omega) (by omega)
 rw [hr,hs,Int.toNat_natCast]
 rfl
theorem slotZ_get(n k j:Nat)(hk:k<n)(hj:j<8):(slotZ n)[k * 8+j]? = #[Value.bool false,.slice none 0 0,.slice none 0 0,.slice none 0 0,.int .i64 0,.int .i64 0,.int .i64 0,.int .i64 0][j]?:=by
 unfold slotZ madeCells
 have hl:k * 8+j<n * 8:=by omega
 have hm:(k * 8+j) % 8=j:=by omega
 rw [Array.getElem?_map,Array.getElem?_eq_getElem (by simpa using hl)]
 simp only [Array.getElem_range,Option.map_some]
 have hsz:(#[Value.bool false,.slice none 0 0,.slice none 0 0,.slice none 0 0,.int .i64 0,.int .i64 0,.int .i64 0,.int .i64 0]:Array Value).size=8:=rfl
 rw [hsz,hm]
 have h8:j=0∨j=1∨j=2∨j=3∨j=4∨j=5∨j=6∨j=7:=by omega
 rcases h8 with rfl | rfl | rfl | rfl | rfl | rfl | rfl | rfl <;> rfl
theorem store_new{w0 W:World}{BS g n base:Nat}{R:RM}{pA sA eA:Option Addr}{pc sc ec:Nat}(kS:Blk W BS 107 #[.string R.name,.int .i64 R.width,.int .i64 R.height,.slice pA R.pieces.length pc,.slice sA R.start.length sc,.bool R.falls,.bool R.keeps,.slice eA R.ends.length ec,.int .i64 R.blocked,.int .i64 R.quiet,.int .i64 R.rept,.slice (some ⟨g,0,none⟩) n n,.int .i64 0])(ro:RulesOwn W base (.agg #[.string R.name,.int .i64 R.width,.int .i64 R.height,.slice pA R.pieces.length pc,.slice sA R.start.length sc,.bool R.falls,.bool R.keeps,.slice eA R.ends.length ec,.int .i64 R.blocked,.int .i64 R.quiet,.int .i64 R.rept]) R)(kg:Blk W g 174 (slotZ n))(h1:w0.heap.size≤BS)(h2:w0.heap.size≤g)(x:Ext w0 W) :
  SA w0 W BS g R 0 (List.replicate n none):=by
 refine⟨pA,pc,sA,sc,eA,ec,base,slotZ n,by rw [List.length_replicate];exact kS,ro,kg,by rw [List.length_replicate];simp [slotZ,madeCells],fun i y hi=>?_,h1,h2,x⟩
 have hlt:i<n:=by have:=(List.getElem?_eq_some_iff.1 hi).1;simpa using this
 rw [List.getElem?_replicate,if_pos hlt] at hi
 cases hi
 have hr:=fun j (hj:j<8)=>(kg.cell (i * 8+j)).trans (slotZ_get n i j hlt hj)
 exact⟨false,none,0,0,none,0,0,none,0,0,0,0,0,0,hr 0 (by omega),hr 1 (by omega),hr 2 (by omega),hr 3 (by omega),hr 4 (by omega),hr 5 (by omega),hr 6 (by omega),hr 7 (by omega),rfl⟩
def SNewPost(w:World)(R:RM)(n:Nat)(e:Ending)(w':World):Prop:=∃ BS g,e=.returned (.tuple #[.pointer (some ⟨BS,0,none⟩),.int .i64 0])∧SA w w' BS g R 0 (List.replicate n none)
set_option maxHeartbeats 4000000 in
set_option maxRecDepth 100000 in
theorem sNew_yes(R:RM)(v:Value)(n:Nat)(w:World)(hR:RA w v R)(hV:Valid R)(h0:1≤n)(h1:n≤4096) :
  Calls Crz.prog 32 #[v,.int .i64 (n:Int)] w (SNewPost w R n):=by
 have HC:=hide (fun W (h:Ext w W)=>Check_any v R W (hR.ext h))
 have HCP:=hide (fun W (h:Ext w W)=>Copy_any v R W (hR.ext h) hV)
 have hmk:=make_slots n h1
 have t0:decide ((n:Int)<1)=false:=decide_eq_false (by omega)
 have t1:decide ((4096:Int)<(n:Int))=false:=decide_eq_false (by omega)
 unfold SNewPost
 obtain⟨pA,pc,sA,sc,eA,ec,rfl,-⟩:=hR
 obtain⟨x1,k1⟩:=blks1 w #[.string R.name,.int .i64 R.width,.int .i64 R.height,.slice pA R.pieces.length pc,.slice sA R.start.length sc,.bool R.falls,.bool R.keeps,.slice eA R.ends.length ec,.int .i64 R.blocked,.int .i64 R.quiet,.int .i64 R.rept] 26
 have X1:=hide x1
 have K1:=hide k1
 have f1:=k1.cell
 unfold ECode at HC
 rw [of_valid hV] at HC
 clear x1 k1 hV h0 h1
 go_enter Crz.func32,Tryz.ntmps32
 go_wp2_with fail
 refine(HC.out _ X1.out).mono ?_
 rintro e w4 ⟨rfl,x2⟩
 have KR:=hide (K1.out.ext x2)
 have X4:=hide (qT X1.out x2)
 clear f1 x2 X1 HC K1
 go_upto_region 6 with fail
 generalize hBR:w.heap.size=BR at KR ⊢
 clear hBR
 have keepK:=hide (fun W (h:Ext w4 W)=>(show (fun W=>W.cell? ⟨BR,0,none⟩=some (.string R.name)∧W.cell? ⟨BR,1,none⟩=some (.int .i64 R.width)∧W.cell? ⟨BR,2,none⟩=some (.int .i64 R.height)∧W.cell? ⟨BR,3,none⟩=some (.slice pA R.pieces.length pc)∧W.cell? ⟨BR,4,none⟩=some (.slice sA R.start.length sc)∧W.cell? ⟨BR,5,none⟩=some (.bool R.falls)∧W.cell? ⟨BR,6,none⟩=some (.bool R.keeps)∧W.cell? ⟨BR,7,none⟩=some (.slice eA R.ends.length ec)∧W.cell? ⟨BR,8,none⟩=some (.int .i64 R.blocked)∧W.cell? ⟨BR,9,none⟩=some (.int .i64 R.quiet)∧W.cell? ⟨BR,10,none⟩=some (.int .i64 R.rept)∧Ext w4 W) W from ⟨(KR.out.ext h).cell 0,(KR.out.ext h).cell 1,(KR.out.ext h).cell 2,(KR.out.ext h).cell 3,(KR.out.ext h).cell 4,(KR.out.ext h).cell 5,(KR.out.ext h).cell 6,(KR.out.ext h).cell 7,(KR.out.ext h).cell 8,(KR.out.ext h).cell 9,(KR.out.ext h).cell 10,h⟩))
 have yy:Ext w4 w4.drew:=Below.drew (Below.refl _ _)
 refine region_K (fun W=>W.cell? ⟨BR,0,none⟩=some (.string R.name)∧W.cell? ⟨BR,1,none⟩=some (.int .i64 R.width)∧W.cell? ⟨BR,2,none⟩=some (.int .i64 R.height)∧W.cell? ⟨BR,3,none⟩=some (.slice pA R.pieces.length pc)∧W.cell? ⟨BR,4,none⟩=some (.slice sA R.start.length sc)∧W.cell? ⟨BR,5,none⟩=some (.bool R.falls)∧W.cell? ⟨BR,6,none⟩=some (.bool R.keeps)∧W.cell? ⟨BR,7,none⟩=some (.slice eA R.ends.length ec)∧W.cell? ⟨BR,8,none⟩=some (.int .i64 R.blocked)∧W.cell? ⟨BR,9,none⟩=some (.int .i64 R.quiet)∧W.cell? ⟨BR,10,none⟩=some (.int .i64 R.rept)∧Ext w4 W) (fun _=>True) [] (by kernel_rfl) ?_
 have hT0:=keepK.out _ yy
 refine tl 0 hT0 (fun _=>trivial) (v:=?_) (fun W hW=>?_) ?_
 rotate_left
 ·obtain⟨z0,z1,z2,z3,z4,z5,z6,z7,z8,z9,z10,z11⟩:=hW;go_simp;first|done|with_reducible rfl
 refine tk 2 hT0 (fun _=>trivial) ?_
 refine anyK_on2 1 3 (by kernel_rfl) ?_ ?_
 ·skip
  refine tw 1 (fun K hK=>?_)
  go_simp
  refine(HCP.out _ (qT X4.out yy)).mono ?_
  rintro e wk ⟨vr,bs,rfl,-,own,xx⟩
  try go_wp2_with fail
  replace yy:=qT yy xx
  have HRO:=hide own
  obtain⟨pA2,pc2,sA2,sc2,eA2,ec2,vss2,rfl,-⟩:=own
  try (replace KN:=hide (KN.out.ext xx))
  have hT1:=keepK.out _ yy
  refine hK.out _ _ hT1 (fun _=>trivial) ?_
  clear hK K
  try simp only [Act.put,List.setIfInBounds_toArray,List.set_cons_zero,List.set_cons_succ]
  refine anyK_on1 3 (by kernel_rfl) ?_
  refine tw 3 (fun K hK=>?_)
  go_simp
  have KN:Hid (Blk (wk.alloc (.cells (slotZ n) 174)) wk.heap.size 174 (slotZ n)):=hide (Blk.new wk 174 (slotZ n))
  try (replace HRO:=hide (HRO.out.ext (qA (Below.refl _ _) (.cells (slotZ n) 174))))
  generalize hBN:wk.heap.size=BN at *
  have HNB:Hid (w.heap.size≤BN):=hide (by have h:w.heap.size≤wk.heap.size:=(qT X4.out (show Ext w4 wk from yy)).size;omega)
  clear hBN
  replace yy:=qA yy (.cells (slotZ n) 174)
  have hT2:=keepK.out _ yy
  refine hK.out _ _ hT2 (fun _=>trivial) ?_
  clear hK K
  try simp only [Act.put,List.setIfInBounds_toArray,List.set_cons_zero,List.set_cons_succ]
  refine tk 4 hT2 (fun _=>trivial) ?_
  refine anyK_on1 5 (by kernel_rfl) ?_
  refine tw 5 (fun K hK=>?_)
  go_simp
  have hsz:w.heap.size≤(wk.alloc (.cells (slotZ n) 174)).heap.size:=(qT X4.out yy).size
  have KB:=hide (Blk.new (wk.alloc (.cells (slotZ n) 174)) 107 #[.string R.name,.int .i64 R.width,.int .i64 R.height,.slice pA2 R.pieces.length pc2,.slice sA2 R.start.length sc2,.bool R.falls,.bool R.keeps,.slice eA2 R.ends.length ec2,.int .i64 R.blocked,.int .i64 R.quiet,.int .i64 R.rept,.slice (some ⟨BN,0,none⟩) n n,.int .i64 0])
  replace HRO:=hide (HRO.out.ext (qA (Below.refl _ _) (.cells #[.string R.name,.int .i64 R.width,.int .i64 R.height,.slice pA2 R.pieces.length pc2,.slice sA2 R.start.length sc2,.bool R.falls,.bool R.keeps,.slice eA2 R.ends.length ec2,.int .i64 R.blocked,.int .i64 R.quiet,.int .i64 R.rept,.slice (some ⟨BN,0,none⟩) n n,.int .i64 0] 107)))
  replace KN:=hide (KN.out.ext (qA (Below.refl _ _) (.cells #[.string R.name,.int .i64 R.width,.int .i64 R.height,.slice pA2 R.pieces.length pc2,.slice sA2 R.start.length sc2,.bool R.falls,.bool R.keeps,.slice eA2 R.ends.length ec2,.int .i64 R.blocked,.int .i64 R.quiet,.int .i64 R.rept,.slice (some ⟨BN,0,none⟩) n n,.int .i64 0] 107)))
  replace yy:=qA yy (.cells #[.string R.name,.int .i64 R.width,.int .i64 R.height,.slice pA2 R.pieces.length pc2,.slice sA2 R.start.length sc2,.bool R.falls,.bool R.keeps,.slice eA2 R.ends.length ec2,.int .i64 R.blocked,.int .i64 R.quiet,.int .i64 R.rept,.slice (some ⟨BN,0,none⟩) n n,.int .i64 0] 107)
  have HBB:Hid (w.heap.size≤(wk.alloc (.cells (slotZ n) 174)).heap.size):=hide hsz
  clear hsz
  have X9:=hide (qT X4.out yy)
  have HST:=hide (store_new KB.out HRO.out KN.out HBB.out HNB.out X9.out)
  clear KB HRO KN HBB HNB
  have hT3:=keepK.out _ yy
  refine hK.out _ _ hT3 (fun _=>trivial) ?_
  clear hK K
  try simp only [Act.put,List.setIfInBounds_toArray,List.set_cons_zero,List.set_cons_succ]
  refine tk 6 hT3 (fun _=>trivial) ?_
  refine tk 7 hT3 (fun _=>trivial) ?_
  refine anyK_done (by kernel_rfl) ?_ _
  clear keepK hT0 hT1 hT2 hT3
  go_wp2
  go_ret2
  exact⟨_,_,rfl,by simpa using HST.out⟩
 ·skip
  refine tw 3 (fun K hK=>?_)
  go_simp
  have KN:Hid (Blk (w4.drew.alloc (.cells (slotZ n) 174)) w4.heap.size 174 (slotZ n)):=hide (Blk.new w4.drew 174 (slotZ n))
  try (replace HRO:=hide (HRO.out.ext (qA (Below.refl _ _) (.cells (slotZ n) 174))))
  generalize hBN:w4.heap.size=BN at *
  have HNB:Hid (w.heap.size≤BN):=hide (by have h:w.heap.size≤w4.heap.size:=(qT X4.out (show Ext w4 w4 from Below.refl _ _)).size;omega)
  clear hBN
  replace yy:=qA yy (.cells (slotZ n) 174)
  have hT1:=keepK.out _ yy
  refine hK.out _ _ hT1 (fun _=>trivial) ?_
  clear hK K
  try simp only [Act.put,List.setIfInBounds_toArray,List.set_cons_zero,List.set_cons_succ]
  refine anyK_on1 1 (by kernel_rfl) ?_
  refine tw 1 (fun K hK=>?_)
  go_simp
  refine(HCP.out _ (qT X4.out yy)).mono ?_
  rintro e wk ⟨vr,bs,rfl,-,own,xx⟩
  try go_wp2_with fail
  replace yy:=qT yy xx
  have HRO:=hide own
  obtain⟨pA2,pc2,sA2,sc2,eA2,ec2,vss2,rfl,-⟩:=own
  try (replace KN:=hide (KN.out.ext xx))
  have hT2:=keepK.out _ yy
  refine hK.out _ _ hT2 (fun _=>trivial) ?_
  clear hK K
  try simp only [Act.put,List.setIfInBounds_toArray,List.set_cons_zero,List.set_cons_succ]
  refine tk 4 hT2 (fun _=>trivial) ?_
  refine anyK_on1 5 (by kernel_rfl) ?_
  refine tw 5 (fun K hK=>?_)
  go_simp
  have hsz:w.heap.size≤wk.heap.size:=(qT X4.out yy).size
  have KB:=hide (Blk.new wk 107 #[.string R.name,.int .i64 R.width,.int .i64 R.height,.slice pA2 R.pieces.length pc2,.slice sA2 R.start.length sc2,.bool R.falls,.bool R.keeps,.slice eA2 R.ends.length ec2,.int .i64 R.blocked,.int .i64 R.quiet,.int .i64 R.rept,.slice (some ⟨BN,0,none⟩) n n,.int .i64 0])
  replace HRO:=hide (HRO.out.ext (qA (Below.refl _ _) (.cells #[.string R.name,.int .i64 R.width,.int .i64 R.height,.slice pA2 R.pieces.length pc2,.slice sA2 R.start.length sc2,.bool R.falls,.bool R.keeps,.slice eA2 R.ends.length ec2,.int .i64 R.blocked,.int .i64 R.quiet,.int .i64 R.rept,.slice (some ⟨BN,0,none⟩) n n,.int .i64 0] 107)))
  replace KN:=hide (KN.out.ext (qA (Below.refl _ _) (.cells #[.string R.name,.int .i64 R.width,.int .i64 R.height,.slice pA2 R.pieces.length pc2,.slice sA2 R.start.length sc2,.bool R.falls,.bool R.keeps,.slice eA2 R.ends.length ec2,.int .i64 R.blocked,.int .i64 R.quiet,.int .i64 R.rept,.slice (some ⟨BN,0,none⟩) n n,.int .i64 0] 107)))
  replace yy:=qA yy (.cells #[.string R.name,.int .i64 R.width,.int .i64 R.height,.slice pA2 R.pieces.length pc2,.slice sA2 R.start.length sc2,.bool R.falls,.bool R.keeps,.slice eA2 R.ends.length ec2,.int .i64 R.blocked,.int .i64 R.quiet,.int .i64 R.rept,.slice (some ⟨BN,0,none⟩) n n,.int .i64 0] 107)
  have HBB:Hid (w.heap.size≤wk.heap.size):=hide hsz
  clear hsz
  have X9:=hide (qT X4.out yy)
  have HST:=hide (store_new KB.out HRO.out KN.out HBB.out HNB.out X9.out)
  clear KB HRO KN HBB HNB
  have hT3:=keepK.out _ yy
  refine hK.out _ _ hT3 (fun _=>trivial) ?_
  clear hK K
  try simp only [Act.put,List.setIfInBounds_toArray,List.set_cons_zero,List.set_cons_succ]
  refine tk 6 hT3 (fun _=>trivial) ?_
  refine tk 7 hT3 (fun _=>trivial) ?_
  refine anyK_done (by kernel_rfl) ?_ _
  clear keepK hT0 hT1 hT2 hT3
  go_wp2
  go_ret2
  exact⟨_,_,rfl,by simpa using HST.out⟩
end Go.Proofs.YtdoibgmmijhlfaaGreat
