/- GameW3 -/
import Derived.Test.YtdoibgmmijhlfaaGreatDoorR46
import Derived.Test.YtdoibgmmijhlfaaGreatDoorR35
import Derived.Test.YtdoibgmmijhlfaaGreatDoorR01
namespace Go.Proofs.YtdoibgmmijhlfaaGreatDoor
open Go.ChangeShapes Go.WideShapes Go.ChangeAt Go.RowKit Go.Shelf
set_option linter.unusedVariables false
set_option linter.unusedSimpArgs false
set_option maxHeartbeats 1000000 in
theorem oper_append_mv {o : Oper} {a : Act} {K : Act→World→Prop} {Q : Exit→Act→World→Prop} (s x : Operand)
  (ho : o.op=.call { callee:=.builtin .append,args:=#[s,x],argTypes:=#[38,38] }) (w0 w : World) (v : Value) (xs : List MoveM) (m : MoveM) (hs : a.eval s=v) (hown : OwnM w0 w v xs) (hx : a.eval x=.slice (some ⟨w.heap.size,0,none⟩) 1 1)
  (hext : Ext w0 w) (hlen : xs.length≤1000000) (h : ∀ v' w',OwnM w0 w' v' (xs ++ [m])→Ext w0 w'→w.grownBy w' v.ownBlock→TFr [47] w w'→K (a.put o.dst v') w') :
  Oper.wp Tryz.prog o a (w.alloc (.cells #[.int .i64 m.src,.int .i64 m.dst,.int .i64 m.piece] 47)) K Q:=by
 obtain ⟨A,c,rfl,hown⟩:=hown
 obtain ⟨i0,hi,hz0,hz1,hz2⟩:=info_parts moveInfo
 have hsz:=hext.size
 obtain ⟨v',w',hrun,h2,h3⟩:=run_append_cells (P:=Tryz.prog) _ w0.heap.size 38 o.type 47 i0 (.agg #[.int .i64 0,.int .i64 0,.int .i64 0]) 3 24 Tryz.underlying38 hi hz0 hz1 hz2 rfl (by decide) _ xs.length (xs.flatMap MoveM.vals) (own_ext hown (ext_alloc (Below.refl _ _) _)) (some ⟨w.heap.size,0,none⟩) 1 1 m.vals rfl (cellsAt_new w 47 m.vals) (by simp [MoveM.vals,Value.oneCell']) (by simp only [maxLen]; omega) (by omega) (by simp; omega) (by simp)
 unfold Oper.wp execOp
 simp only [ho,resolve,invoke,builtin,Sem.run_bind,Sem.run_pure,Result.andThen_ok,List.map_toArray,List.map_cons,List.map_nil,hs,hx,hrun,show #[Value.int .i64 m.src,.int .i64 m.dst,.int .i64 m.piece]=m.vals.toArray from rfl]
 obtain ⟨A',c',rfl,_,_⟩:=own_shape h2
 have f : TFr [47] w w':=(TFr.of_ext (ext_alloc (Below.refl _ _) _)).trans (TFr.grown (own_ext hown (ext_alloc (Below.refl _ _) _)) (List.mem_singleton.2 rfl) h3)
 refine h _ w' ⟨A',c',by simp,by simpa using h2⟩ (ext_grown (ext_alloc hext _) h3 (own_row hown)) ?_ f
 exact ⟨h3.os,h3.tape,h3.output,by have:=h3.size; simp at this; omega,fun b hb hn => by
  rw [h3.block b (by simp; omega) hn]
  exact Below.heap_alloc w _ b hb⟩
theorem OwnM.grow9 {w0 w1 w W : World} {v l : Value} {ms : List MoveM} {ps : List PosM} (h : OwnM w0 w v ms) (o : OwnP w1 w l ps) (g : w.grownBy W l.ownBlock) : OwnM w0 W v ms:=by
 obtain ⟨A,c,rfl,h⟩:=h
 obtain ⟨A',c',vss,rfl,o,-⟩:=o
 exact ⟨A,c,rfl,own_tfr (ts:=[43]) h (by decide) (TFr.grown o (List.mem_singleton.2 rfl) g)⟩
def playE (R : RulesM) (ps : List PosM) (ms : List MoveM) (P : PosM) (m : MoveM) : Int:=if resultG R ps P ≠ 0 then 14 else if ¬ m ∈ listM R P then 13 else if ms.length=400 then 9 else 0
theorem play1 {R : RulesM} {ps : List PosM} {ms : List MoveM} {P : PosM} {m : MoveM} (h : resultG R ps P ≠ 0) : playE R ps ms P m=14:=if_pos h
theorem play2 {R : RulesM} {ps : List PosM} {ms : List MoveM} {P : PosM} {m : MoveM} (h : resultG R ps P=0) (hm : ¬ m ∈ listM R P) : playE R ps ms P m=13:=by unfold playE; rw [if_neg (by simpa using h),if_pos hm]
theorem play3 {R : RulesM} {ps : List PosM} {ms : List MoveM} {P : PosM} {m : MoveM} (h : resultG R ps P=0) (hm : m ∈ listM R P) (hn : ms.length=400) : playE R ps ms P m=9:=by unfold playE; rw [if_neg (by simpa using h),if_neg (by simpa using hm),if_pos hn]
theorem play4 {R : RulesM} {ps : List PosM} {ms : List MoveM} {P : PosM} {m : MoveM} (h : resultG R ps P=0) (hm : m ∈ listM R P) (hn : ms.length ≠ 400) : playE R ps ms P m=0:=by unfold playE; rw [if_neg (by simpa using h),if_neg (by simpa using hm),if_neg hn]
set_option maxHeartbeats 4000000 in
set_option maxRecDepth 100000 in
theorem Play_yes {w0 wa : World} {BG : Nat} {R : RulesM} {ps : List PosM} {ms : List MoveM} (hG : GameAt w0 wa BG R ps ms) (hl : ps.length≤100000) (hlm : ms.length≤100000) (hV : Valid R) (hS : ∀ Q ∈ ps,Sound R Q) {P : PosM} (hP : ps.getLast? = some P) (mv : MoveM) (hr : resultG R ps P=0) (hm : mv ∈ listM R P) (hn : ms.length ≠ 400) :
  Calls Tryz.prog 15 #[.pointer (some ⟨BG,0,none⟩),.agg #[.int .i64 mv.src,.int .i64 mv.dst,.int .i64 mv.piece]] wa (fun e w' => e=.returned (.int .i64 0)∧GameAt w0 w' BG R (ps ++ [makeM R P mv]) (ms ++ [mv])):=by
 have HRS:=hide (fun W' (x : Ext wa W') => GResult_any (hG.ext x) (by omega) hV hS hP)
 have HNW:=hide (fun W' (x : Ext wa W') => now_any (hG.ext x) (by omega) hP)
 have hSP:=hS P (last_mem hP)
 have HCO:=hide (fun (v : Value) W' (h : MovesAt W' v (listM R P)) => Contains_any (listM R P) mv v W' h (listM_len hV hSP))
 obtain ⟨pA,pc,sA,sc,eA,ec,base,l,m,h1,h2,h3,h4,h5,h6⟩:=hG
 have HLI:=hide (fun (v : Value) W' (x : Ext wa W') (h : PosI W' v P) => List_any R P _ v W' (h2.ext x).at_ h.at_ hV hSP)
 have HMK:=hide (fun (v : Value) W' (x : Ext wa W') (h : PosI W' v P) => Make_any R P mv _ v W' (h2.ext x).at_ h.at_ hV hSP (mem_listM.1 hm))
 have H4:=hide h4
 obtain ⟨mA,mc,rfl,-⟩:=h4
 have HMX : Hid ((Value.slice mA ms.length mc).ownBlock ≠ some wa.heap.size):=hide (fun h => by have:=(H4.out.bd _ h).2; omega)
 have H2:=hide h2
 have H3:=hide h3
 have H56:=hide (And.intro h5 h6)
 have HLL:=hide (And.intro hl hlm)
 rw [hr] at HRS
 rw [decide_eq_true hm] at HCO
 have t2 : ((ms.length : Int) == 400)=false:=by simp; omega
 clear h2 h3 h5 h6 hV hS hP hr hm hSP hl hlm hn
 obtain ⟨xa,kM⟩:=blks1 wa #[.int .i64 mv.src,.int .i64 mv.dst,.int .i64 mv.piece] 47
 have KM:=hide kM
 have X1:=hide xa
 clear xa kM
 go_enter Tryz.func15,Tryz.ntmps15
 go_wp2_with fail
 refine (HRS.out _ X1.out).mono ?_
 rintro e w2 ⟨rfl,x2⟩
 have X2:=hide (ext_trans X1.out x2)
 have KM2:=hide (KM.out.ext x2)
 clear x2 KM X1 HRS
 have KG2:=hide (h1.ext X2.out)
 clear h1
 generalize wa.heap.size=BM at *
 go_upto_region 3 with fail
 have keepK:=hide (fun W (h : Ext w2 W) => (show (fun W => W.cell? ⟨BG,0,none⟩=some (.string R.name)∧W.cell? ⟨BG,1,none⟩=some (.int .i64 R.width)∧W.cell? ⟨BG,2,none⟩=some (.int .i64 R.height)∧W.cell? ⟨BG,3,none⟩=some (.slice pA R.pieces.length pc)∧W.cell? ⟨BG,4,none⟩=some (.slice sA R.start.length sc)∧W.cell? ⟨BG,5,none⟩=some (.bool R.falls)∧W.cell? ⟨BG,6,none⟩=some (.bool R.keeps)∧W.cell? ⟨BG,7,none⟩=some (.slice eA R.ends.length ec)∧W.cell? ⟨BG,8,none⟩=some (.int .i64 R.blocked)∧W.cell? ⟨BG,9,none⟩=some (.int .i64 R.quiet)∧W.cell? ⟨BG,10,none⟩=some (.int .i64 R.rept)∧W.cell? ⟨BG,11,none⟩=some (l)∧W.cell? ⟨BG,12,none⟩=some (.slice mA ms.length mc)∧W.cell? ⟨BM,0,none⟩=some (.int .i64 mv.src)∧W.cell? ⟨BM,1,none⟩=some (.int .i64 mv.dst)∧W.cell? ⟨BM,2,none⟩=some (.int .i64 mv.piece)∧Ext w2 W) W from ⟨(KG2.out.ext h).cell 0,(KG2.out.ext h).cell 1,(KG2.out.ext h).cell 2,(KG2.out.ext h).cell 3,(KG2.out.ext h).cell 4,(KG2.out.ext h).cell 5,(KG2.out.ext h).cell 6,(KG2.out.ext h).cell 7,(KG2.out.ext h).cell 8,(KG2.out.ext h).cell 9,(KG2.out.ext h).cell 10,(KG2.out.ext h).cell 11,(KG2.out.ext h).cell 12,(KM2.out.ext h).cell 0,(KM2.out.ext h).cell 1,(KM2.out.ext h).cell 2,h⟩))
 have yy : Ext w2 w2.drew:=Below.drew (Below.refl _ _)
 refine region_K (fun W => W.cell? ⟨BG,0,none⟩=some (.string R.name)∧W.cell? ⟨BG,1,none⟩=some (.int .i64 R.width)∧W.cell? ⟨BG,2,none⟩=some (.int .i64 R.height)∧W.cell? ⟨BG,3,none⟩=some (.slice pA R.pieces.length pc)∧W.cell? ⟨BG,4,none⟩=some (.slice sA R.start.length sc)∧W.cell? ⟨BG,5,none⟩=some (.bool R.falls)∧W.cell? ⟨BG,6,none⟩=some (.bool R.keeps)∧W.cell? ⟨BG,7,none⟩=some (.slice eA R.ends.length ec)∧W.cell? ⟨BG,8,none⟩=some (.int .i64 R.blocked)∧W.cell? ⟨BG,9,none⟩=some (.int .i64 R.quiet)∧W.cell? ⟨BG,10,none⟩=some (.int .i64 R.rept)∧W.cell? ⟨BG,11,none⟩=some (l)∧W.cell? ⟨BG,12,none⟩=some (.slice mA ms.length mc)∧W.cell? ⟨BM,0,none⟩=some (.int .i64 mv.src)∧W.cell? ⟨BM,1,none⟩=some (.int .i64 mv.dst)∧W.cell? ⟨BM,2,none⟩=some (.int .i64 mv.piece)∧Ext w2 W) (fun _ => True) [] (by kernel_rfl) ?_
 have hT0:=keepK.out _ yy
 refine tk 0 hT0 (fun _=>trivial) ?_
 refine tk 1 hT0 (fun _=>trivial) ?_
 refine tk 2 hT0 (fun _=>trivial) ?_
 refine tl 3 hT0 (fun _=>trivial) (v:=?_) (fun W hW=>?_) ?_
 rotate_left
 ·obtain ⟨z0,z1,z2,z3,z4,z5,z6,z7,z8,z9,z10,z11,z12,z13,z14,z15,z16⟩:=hW;go_simp;first|done|with_reducible rfl
 refine tk 4 hT0 (fun _=>trivial) ?_
 refine tl 7 hT0 (fun _=>trivial) (v:=?_) (fun W hW=>?_) ?_
 rotate_left
 ·obtain ⟨z0,z1,z2,z3,z4,z5,z6,z7,z8,z9,z10,z11,z12,z13,z14,z15,z16⟩:=hW;go_simp;first|done|with_reducible rfl
 refine anyK_on1 5 (by kernel_rfl) ?_
 refine tw 5 (fun K hK=>?_)
 go_simp
 refine (HNW.out _ (ext_trans X2.out yy)).mono ?_
 rintro e wk ⟨v6,rfl,hp6,xx⟩
 try go_wp2_with fail
 replace yy:=ext_trans yy xx
 have HP6:=hide hp6
 clear hp6
 have hT1:=keepK.out _ yy
 refine hK.out _ _ hT1 (fun _ => trivial) ?_
 clear hK K
 try simp only [Act.put,List.setIfInBounds_toArray,List.set_cons_zero,List.set_cons_succ]
 refine anyK_on1 6 (by kernel_rfl) ?_
 refine tw 6 (fun K hK=>?_)
 go_simp
 refine (HLI.out _ _ (ext_trans X2.out yy) HP6.out).mono ?_
 rintro e wl ⟨v7,rfl,own7,xx⟩
 try go_wp2_with fail
 replace yy:=ext_trans yy xx
 replace own7:=own7.at_
 have HM7:=hide own7
 clear own7
 have hT2:=keepK.out _ yy
 refine hK.out _ _ hT2 (fun _ => trivial) ?_
 clear hK K
 try simp only [Act.put,List.setIfInBounds_toArray,List.set_cons_zero,List.set_cons_succ]
 refine anyK_on1 8 (by kernel_rfl) ?_
 refine tw 8 (fun K hK=>?_)
 go_simp
 refine (HCO.out _ _ HM7.out).mono ?_
 rintro e wc ⟨rfl,xx⟩
 try go_wp2_with fail
 replace yy:=ext_trans yy xx
 have hT3:=keepK.out _ yy
 refine hK.out _ _ hT3 (fun _ => trivial) ?_
 clear hK K
 try simp only [Act.put,List.setIfInBounds_toArray,List.set_cons_zero,List.set_cons_succ]
 refine tk 9 hT3 (fun _=>trivial) ?_
 refine tk 10 hT3 (fun _=>trivial) ?_
 refine anyK_done (by kernel_rfl) ?_ _
 clear keepK hT0 hT1 hT2 hT3
 have X5:=hide (ext_trans X2.out yy)
 have KG5:=hide (KG2.out.ext yy)
 have KM5:=hide (KM2.out.ext yy)
 clear X2 KG2 KM2 yy xx HCO HLI HP6 HM7
 have f4:=KG5.out.cell
 go_upto_region 7 with fail
 clear f4
 generalize hQ : makeM R P mv=Q at *
 have HQ:=hide hQ
 clear hQ
 have zz : Ext wc wc.drew:=Below.drew (Below.refl _ _)
 have ss:=KG5.out.ext zz
 have keepK:=hide (fun W (h : ∃ lv,Blk W BG 92 #[.string R.name,.int .i64 R.width,.int .i64 R.height,.slice pA R.pieces.length pc,.slice sA R.start.length sc,.bool R.falls,.bool R.keeps,.slice eA R.ends.length ec,.int .i64 R.blocked,.int .i64 R.quiet,.int .i64 R.rept,lv,.slice mA ms.length mc]∧Blk W BM 47 #[.int .i64 mv.src,.int .i64 mv.dst,.int .i64 mv.piece]) => (show (fun W => W.cell? ⟨BG,0,none⟩=some (.string R.name)∧W.cell? ⟨BG,1,none⟩=some (.int .i64 R.width)∧W.cell? ⟨BG,2,none⟩=some (.int .i64 R.height)∧W.cell? ⟨BG,3,none⟩=some (.slice pA R.pieces.length pc)∧W.cell? ⟨BG,4,none⟩=some (.slice sA R.start.length sc)∧W.cell? ⟨BG,5,none⟩=some (.bool R.falls)∧W.cell? ⟨BG,6,none⟩=some (.bool R.keeps)∧W.cell? ⟨BG,7,none⟩=some (.slice eA R.ends.length ec)∧W.cell? ⟨BG,8,none⟩=some (.int .i64 R.blocked)∧W.cell? ⟨BG,9,none⟩=some (.int .i64 R.quiet)∧W.cell? ⟨BG,10,none⟩=some (.int .i64 R.rept)∧W.cell? ⟨BM,0,none⟩=some (.int .i64 mv.src)∧W.cell? ⟨BM,1,none⟩=some (.int .i64 mv.dst)∧W.cell? ⟨BM,2,none⟩=some (.int .i64 mv.piece)∧∃ lv,Blk W BG 92 #[.string R.name,.int .i64 R.width,.int .i64 R.height,.slice pA R.pieces.length pc,.slice sA R.start.length sc,.bool R.falls,.bool R.keeps,.slice eA R.ends.length ec,.int .i64 R.blocked,.int .i64 R.quiet,.int .i64 R.rept,lv,.slice mA ms.length mc]∧Blk W BM 47 #[.int .i64 mv.src,.int .i64 mv.dst,.int .i64 mv.piece]) W from ⟨(match h with | ⟨_,hb,_⟩ => hb.cell 0),(match h with | ⟨_,hb,_⟩ => hb.cell 1),(match h with | ⟨_,hb,_⟩ => hb.cell 2),(match h with | ⟨_,hb,_⟩ => hb.cell 3),(match h with | ⟨_,hb,_⟩ => hb.cell 4),(match h with | ⟨_,hb,_⟩ => hb.cell 5),(match h with | ⟨_,hb,_⟩ => hb.cell 6),(match h with | ⟨_,hb,_⟩ => hb.cell 7),(match h with | ⟨_,hb,_⟩ => hb.cell 8),(match h with | ⟨_,hb,_⟩ => hb.cell 9),(match h with | ⟨_,hb,_⟩ => hb.cell 10),(match h with | ⟨_,_,hm⟩ => hm.cell 0),(match h with | ⟨_,_,hm⟩ => hm.cell 1),(match h with | ⟨_,_,hm⟩ => hm.cell 2),h⟩))
 have yy:=(⟨_,KG5.out.ext zz,KM5.out.ext zz⟩ : (fun W => ∃ lv,Blk W BG 92 #[.string R.name,.int .i64 R.width,.int .i64 R.height,.slice pA R.pieces.length pc,.slice sA R.start.length sc,.bool R.falls,.bool R.keeps,.slice eA R.ends.length ec,.int .i64 R.blocked,.int .i64 R.quiet,.int .i64 R.rept,lv,.slice mA ms.length mc]∧Blk W BM 47 #[.int .i64 mv.src,.int .i64 mv.dst,.int .i64 mv.piece]) wc.drew)
 refine region_K (fun W => W.cell? ⟨BG,0,none⟩=some (.string R.name)∧W.cell? ⟨BG,1,none⟩=some (.int .i64 R.width)∧W.cell? ⟨BG,2,none⟩=some (.int .i64 R.height)∧W.cell? ⟨BG,3,none⟩=some (.slice pA R.pieces.length pc)∧W.cell? ⟨BG,4,none⟩=some (.slice sA R.start.length sc)∧W.cell? ⟨BG,5,none⟩=some (.bool R.falls)∧W.cell? ⟨BG,6,none⟩=some (.bool R.keeps)∧W.cell? ⟨BG,7,none⟩=some (.slice eA R.ends.length ec)∧W.cell? ⟨BG,8,none⟩=some (.int .i64 R.blocked)∧W.cell? ⟨BG,9,none⟩=some (.int .i64 R.quiet)∧W.cell? ⟨BG,10,none⟩=some (.int .i64 R.rept)∧W.cell? ⟨BM,0,none⟩=some (.int .i64 mv.src)∧W.cell? ⟨BM,1,none⟩=some (.int .i64 mv.dst)∧W.cell? ⟨BM,2,none⟩=some (.int .i64 mv.piece)∧∃ lv,Blk W BG 92 #[.string R.name,.int .i64 R.width,.int .i64 R.height,.slice pA R.pieces.length pc,.slice sA R.start.length sc,.bool R.falls,.bool R.keeps,.slice eA R.ends.length ec,.int .i64 R.blocked,.int .i64 R.quiet,.int .i64 R.rept,lv,.slice mA ms.length mc]∧Blk W BM 47 #[.int .i64 mv.src,.int .i64 mv.dst,.int .i64 mv.piece]) (fun W => W.cell? ⟨BG,11,none⟩=some (l)) [17] (by kernel_rfl) ?_
 have hS0:=ss.cell 11
 have hT0:=keepK.out _ yy
 refine tk 0 hT0 (fun _ => hS0) ?_
 refine tk 1 hT0 (fun _ => hS0) ?_
 refine tk 2 hT0 (fun _ => hS0) ?_
 refine tk 3 hT0 (fun _ => hS0) ?_
 refine anyK_load 4 (oi:=?oo38) ?ho38 (by kernel_rfl) (by kernel_rfl) (by kernel_rfl) (by kernel_rfl) (by kernel_rfl) (by kernel_rfl) ?hq38 ?hw38 hT0 hS0 (v:=?vv38) ?hy38 ?hk38
 case ho38 => (simp only [List.getElem?_toArray,List.getElem?_cons_succ,List.getElem?_cons_zero]; rfl)
 case hq38 => exact fun _ _ _ h => h
 case hw38 => rfl
 case hy38 =>
  intro W hW1 hW
  go_simp
  first | done | with_reducible rfl
 case hk38 =>
 try simp only [Act.put,List.setIfInBounds_toArray,List.set_cons_zero,List.set_cons_succ]
 refine tk 5 hT0 (fun _ => hS0) ?_
 refine tk 6 hT0 (fun _ => hS0) ?_
 refine tk 7 hT0 (fun _ => hS0) ?_
 refine tl 8 hT0 (fun _ => hS0) (v:=?_) (fun W hW=>?_) ?_
 rotate_left
 ·obtain ⟨z0,z1,z2,z3,z4,z5,z6,z7,z8,z9,z10,z11,z12,z13,z14⟩:=hW;go_simp;first|done|with_reducible rfl
 refine tk 9 hT0 (fun _ => hS0) ?_
 refine tl 11 hT0 (fun _ => hS0) (v:=?_) (fun W hW=>?_) ?_
 rotate_left
 ·obtain ⟨z0,z1,z2,z3,z4,z5,z6,z7,z8,z9,z10,z11,z12,z13,z14⟩:=hW;go_simp;first|done|with_reducible rfl
 refine anyK_on1 10 (by kernel_rfl) ?_
 refine tw 10 (fun K hK=>?_)
 go_simp
 refine (HNW.out _ (ext_trans X5.out zz)).mono ?_
 rintro e wd ⟨v8,rfl,hp8,xx⟩
 try go_wp2_with fail
 replace yy:=(⟨_,KG5.out.ext (ext_trans zz xx),KM5.out.ext (ext_trans zz xx)⟩ : (fun W => ∃ lv,Blk W BG 92 #[.string R.name,.int .i64 R.width,.int .i64 R.height,.slice pA R.pieces.length pc,.slice sA R.start.length sc,.bool R.falls,.bool R.keeps,.slice eA R.ends.length ec,.int .i64 R.blocked,.int .i64 R.quiet,.int .i64 R.rept,lv,.slice mA ms.length mc]∧Blk W BM 47 #[.int .i64 mv.src,.int .i64 mv.dst,.int .i64 mv.piece]) wd)
 have HP8:=hide hp8
 clear hp8
 replace zz:=ext_trans zz xx
 replace ss:=KG5.out.ext zz
 have hT1:=keepK.out _ yy
 have hS1:=ss.cell 11
 refine hK.out _ _ hT1 (fun _ => hS1) ?_
 clear hK K
 try simp only [Act.put,List.setIfInBounds_toArray,List.set_cons_zero,List.set_cons_succ]
 refine anyK_on1 12 (by kernel_rfl) ?_
 refine tw 12 (fun K hK=>?_)
 go_simp
 refine (HMK.out _ _ (ext_trans X5.out zz) HP8.out).mono ?_
 rintro e we ⟨v9,rfl,own9,xx⟩
 try go_wp2_with fail
 replace yy:=(⟨_,KG5.out.ext (ext_trans zz xx),KM5.out.ext (ext_trans zz xx)⟩ : (fun W => ∃ lv,Blk W BG 92 #[.string R.name,.int .i64 R.width,.int .i64 R.height,.slice pA R.pieces.length pc,.slice sA R.start.length sc,.bool R.falls,.bool R.keeps,.slice eA R.ends.length ec,.int .i64 R.blocked,.int .i64 R.quiet,.int .i64 R.rept,lv,.slice mA ms.length mc]∧Blk W BM 47 #[.int .i64 mv.src,.int .i64 mv.dst,.int .i64 mv.piece]) we)
 have hp9:=own9.toI
 have HP9:=hide hp9
 obtain ⟨g0,d0,g1,d1,g2,d2,rfl,-⟩:=hp9
 clear own9
 replace zz:=ext_trans zz xx
 replace ss:=KG5.out.ext zz
 have hT2:=keepK.out _ yy
 have hS2:=ss.cell 11
 refine hK.out _ _ hT2 (fun _ => hS2) ?_
 clear hK K
 try simp only [Act.put,List.setIfInBounds_toArray,List.set_cons_zero,List.set_cons_succ]
 refine anyK_on1 13 (by kernel_rfl) ?_
 refine tw 13 (fun K hK=>?_)
 go_simp
 replace yy:=(⟨_,KG5.out.ext (ext_alloc zz _),KM5.out.ext (ext_alloc zz _)⟩ : (fun W => ∃ lv,Blk W BG 92 #[.string R.name,.int .i64 R.width,.int .i64 R.height,.slice pA R.pieces.length pc,.slice sA R.start.length sc,.bool R.falls,.bool R.keeps,.slice eA R.ends.length ec,.int .i64 R.blocked,.int .i64 R.quiet,.int .i64 R.rept,lv,.slice mA ms.length mc]∧Blk W BM 47 #[.int .i64 mv.src,.int .i64 mv.dst,.int .i64 mv.piece]) (we.alloc (.cells #[.slice (some ⟨g0,0,none⟩) Q.cells.length d0,.slice (some ⟨g1,0,none⟩) Q.hand0.length d1,.slice (some ⟨g2,0,none⟩) Q.hand1.length d2,.int .i64 Q.turn,.int .i64 Q.quiet] 43)))
 replace ss:=KG5.out.ext (ext_alloc zz (.cells #[.slice (some ⟨g0,0,none⟩) Q.cells.length d0,.slice (some ⟨g1,0,none⟩) Q.hand0.length d1,.slice (some ⟨g2,0,none⟩) Q.hand1.length d2,.int .i64 Q.turn,.int .i64 Q.quiet] 43))
 have hT3:=keepK.out _ yy
 have hS3:=ss.cell 11
 refine hK.out _ _ hT3 (fun _ => hS3) ?_
 clear hK K
 try simp only [Act.put,List.setIfInBounds_toArray,List.set_cons_zero,List.set_cons_succ]
 refine anyK_on1 14 (by kernel_rfl) ?_
 refine tw 14 (fun K hK=>?_)
 refine ite_yes' rfl ?_
 refine oper_append_pos (.tmp 31) (.tmp 40) rfl w0 we l ps Q g0 g1 g2 d0 d1 d2 HP9.out rfl ((H3.out.ext X5.out).ext zz) rfl (ext_trans H56.out.2 (ext_trans X5.out zz)) (by have:=HLL.out.1; omega) ?_
 intro v9 w9 own9 x9 g9 f9
 obtain ⟨A9,n9,c9,rfl⟩ : ∃ A n c,v9=.slice A n c:=by obtain ⟨A,c,vss,e,-⟩:=own9; exact ⟨_,_,_,e⟩
 have HNB : Hid (some BG ≠ l.ownBlock):=hide (by obtain ⟨A,c,vss,e,o,-⟩:=(H3.out.ext X5.out).ext zz; rw [e]; exact (own_blk_ne o (KG5.out.ext zz) (by decide)).symm)
 have HNM : Hid (some BM ≠ l.ownBlock):=hide (by obtain ⟨A,c,vss,e,o,-⟩:=(H3.out.ext X5.out).ext zz; rw [e]; exact (own_blk_ne o (KM5.out.ext zz) (by decide)).symm)
 replace yy:=(⟨_,(KG5.out.ext zz).grown g9 HNB.out,(KM5.out.ext zz).grown g9 HNM.out⟩ : (fun W => ∃ lv,Blk W BG 92 #[.string R.name,.int .i64 R.width,.int .i64 R.height,.slice pA R.pieces.length pc,.slice sA R.start.length sc,.bool R.falls,.bool R.keeps,.slice eA R.ends.length ec,.int .i64 R.blocked,.int .i64 R.quiet,.int .i64 R.rept,lv,.slice mA ms.length mc]∧Blk W BM 47 #[.int .i64 mv.src,.int .i64 mv.dst,.int .i64 mv.piece]) w9)
 replace ss:=(KG5.out.ext zz).grown g9 HNB.out
 have H29:=hide (((H2.out.ext X5.out).ext zz).tfr ⟨by decide,by decide,by decide,by decide⟩ f9)
 have H49:=hide (((H4.out.ext X5.out).ext zz).grow9 ((H3.out.ext X5.out).ext zz) g9)
 have OWN9:=hide own9
 have X9:=hide x9
 clear own9 x9 g9 f9 HNB HNM
 have hT4:=keepK.out _ yy
 have hS4:=ss.cell 11
 refine hK.out _ _ hT4 (fun _ => hS4) ?_
 clear hK K
 try simp only [Act.put,List.setIfInBounds_toArray,List.set_cons_zero,List.set_cons_succ]
 refine tk 15 hT4 (fun _ => hS4) ?_
 refine tk 16 hT4 (fun _ => hS4) ?_
 refine anyK_on1 17 (by kernel_rfl) ?_
 refine tw 17 (fun K hK=>?_)
 have q5:=ss.cell
 have z5:=ss.frozen
 have KM9 : Hid (Blk w9 BM 47 #[.int .i64 mv.src,.int .i64 mv.dst,.int .i64 mv.piece]):=hide (match yy with | ⟨_,_,hm⟩ => hm)
 have HGM : Hid (BM ≠ BG):=hide (by
  rintro rfl
  have e:=KM9.out.symm.trans ss
  simp only [Option.some.injEq,Obj.cells.injEq] at e
  exact absurd e.2.1 (by decide))
 have k10:=blk_put (i:=11) (u:=.slice A9 n9 c9) ss (cs':=#[.string R.name,.int .i64 R.width,.int .i64 R.height,.slice pA R.pieces.length pc,.slice sA R.start.length sc,.bool R.falls,.bool R.keeps,.slice eA R.ends.length ec,.int .i64 R.blocked,.int .i64 R.quiet,.int .i64 R.rept,.slice A9 n9 c9,.slice mA ms.length mc]) rfl
 replace yy:=(⟨.slice A9 n9 c9,k10,KM9.out.far (p:=⟨BG,11,none⟩) HGM.out (.slice A9 n9 c9)⟩ : (fun W => ∃ lv,Blk W BG 92 #[.string R.name,.int .i64 R.width,.int .i64 R.height,.slice pA R.pieces.length pc,.slice sA R.start.length sc,.bool R.falls,.bool R.keeps,.slice eA R.ends.length ec,.int .i64 R.blocked,.int .i64 R.quiet,.int .i64 R.rept,lv,.slice mA ms.length mc]∧Blk W BM 47 #[.int .i64 mv.src,.int .i64 mv.dst,.int .i64 mv.piece]) (w9.setCell ⟨BG,11,none⟩ (.slice A9 n9 c9)))
 have TF:=hide (TFr.set (ts:=[92]) ss (List.mem_singleton.2 rfl) 11 (.slice A9 n9 c9))
 have K10:=hide k10
 have KM10:=hide (KM9.out.far (p:=⟨BG,11,none⟩) HGM.out (.slice A9 n9 c9))
 have HBG9:=hide H56.out.1
 have X10:=hide (ext_set X9.out (p:=⟨BG,11,none⟩) HBG9.out (.slice A9 n9 c9))
 clear k10
 go_simp
 have hT5:=keepK.out _ yy
 refine hK.out _ _ hT5 (fun h => by cases h) ?_
 clear hK K
 try simp only [Act.put,List.setIfInBounds_toArray,List.set_cons_zero,List.set_cons_succ]
 refine anyK_done (by kernel_rfl) ?_ _
 clear keepK hT0 hT1 hT2 hT3 hT4 hT5
 try clear keepS hS0 hS1 hS2 hS3 hS4
 clear zz yy ss HNW HMK HP8 HP9
 have HN8:=hide (And.intro ((K10.out.drew : Blk _ _ _ _)) ((KM10.out.drew : Blk _ _ _ _)))
 have H210:=hide (H29.out.tfr ⟨by decide,by decide,by decide,by decide⟩ TF.out)
 have H410:=hide (H49.out.tfr (by decide) TF.out)
 have OWN10:=hide (OWN9.out.tfr (by decide) (by decide) TF.out)
 clear TF H29 H49 OWN9 X9 KM9 q5 z5 HGM
 generalize w9.setCell ⟨BG,11,none⟩ (.slice A9 n9 c9)=w10 at *
 have f4:=K10.out.cell
 have f5:=KM10.out.cell
 go_upto_region 8 with fail
 have HLM : Hid (ms.length≤1000000):=hide (by have:=HLL.out.2; omega)
 clear f4 f5
 have zz : Ext w10 w10.drew:=Below.drew (Below.refl _ _)
 have ss:=K10.out.ext zz
 have keepK:=hide (fun W (h : ∃ lv,Blk W BG 92 #[.string R.name,.int .i64 R.width,.int .i64 R.height,.slice pA R.pieces.length pc,.slice sA R.start.length sc,.bool R.falls,.bool R.keeps,.slice eA R.ends.length ec,.int .i64 R.blocked,.int .i64 R.quiet,.int .i64 R.rept,.slice A9 n9 c9,lv]∧Blk W BM 47 #[.int .i64 mv.src,.int .i64 mv.dst,.int .i64 mv.piece]) => (show (fun W => W.cell? ⟨BM,0,none⟩=some (.int .i64 mv.src)∧W.cell? ⟨BM,1,none⟩=some (.int .i64 mv.dst)∧W.cell? ⟨BM,2,none⟩=some (.int .i64 mv.piece)∧∃ lv,Blk W BG 92 #[.string R.name,.int .i64 R.width,.int .i64 R.height,.slice pA R.pieces.length pc,.slice sA R.start.length sc,.bool R.falls,.bool R.keeps,.slice eA R.ends.length ec,.int .i64 R.blocked,.int .i64 R.quiet,.int .i64 R.rept,.slice A9 n9 c9,lv]∧Blk W BM 47 #[.int .i64 mv.src,.int .i64 mv.dst,.int .i64 mv.piece]) W from ⟨(match h with | ⟨_,_,hm⟩ => hm.cell 0),(match h with | ⟨_,_,hm⟩ => hm.cell 1),(match h with | ⟨_,_,hm⟩ => hm.cell 2),h⟩))
 have yy:=(⟨_,K10.out.ext zz,KM10.out.ext zz⟩ : (fun W => ∃ lv,Blk W BG 92 #[.string R.name,.int .i64 R.width,.int .i64 R.height,.slice pA R.pieces.length pc,.slice sA R.start.length sc,.bool R.falls,.bool R.keeps,.slice eA R.ends.length ec,.int .i64 R.blocked,.int .i64 R.quiet,.int .i64 R.rept,.slice A9 n9 c9,lv]∧Blk W BM 47 #[.int .i64 mv.src,.int .i64 mv.dst,.int .i64 mv.piece]) w10.drew)
 refine region_K (fun W => W.cell? ⟨BM,0,none⟩=some (.int .i64 mv.src)∧W.cell? ⟨BM,1,none⟩=some (.int .i64 mv.dst)∧W.cell? ⟨BM,2,none⟩=some (.int .i64 mv.piece)∧∃ lv,Blk W BG 92 #[.string R.name,.int .i64 R.width,.int .i64 R.height,.slice pA R.pieces.length pc,.slice sA R.start.length sc,.bool R.falls,.bool R.keeps,.slice eA R.ends.length ec,.int .i64 R.blocked,.int .i64 R.quiet,.int .i64 R.rept,.slice A9 n9 c9,lv]∧Blk W BM 47 #[.int .i64 mv.src,.int .i64 mv.dst,.int .i64 mv.piece]) (fun W => W.cell? ⟨BG,12,none⟩=some (.slice mA ms.length mc)) [10] (by kernel_rfl) ?_
 have hS0:=ss.cell 12
 have hT0:=keepK.out _ yy
 refine tk 0 hT0 (fun _ => hS0) ?_
 refine tk 1 hT0 (fun _ => hS0) ?_
 refine tk 2 hT0 (fun _ => hS0) ?_
 refine tk 3 hT0 (fun _ => hS0) ?_
 refine anyK_load 4 (oi:=?oo56) ?ho56 (by kernel_rfl) (by kernel_rfl) (by kernel_rfl) (by kernel_rfl) (by kernel_rfl) (by kernel_rfl) ?hq56 ?hw56 hT0 hS0 (v:=?vv56) ?hy56 ?hk56
 case ho56 => (simp only [List.getElem?_toArray,List.getElem?_cons_succ,List.getElem?_cons_zero]; rfl)
 case hq56 => exact fun _ _ _ h => h
 case hw56 => rfl
 case hy56 =>
  intro W hW1 hW
  go_simp
  first | done | with_reducible rfl
 case hk56 =>
 try simp only [Act.put,List.setIfInBounds_toArray,List.set_cons_zero,List.set_cons_succ]
 refine tl 5 hT0 (fun _ => hS0) (v:=?_) (fun W hW=>?_) ?_
 rotate_left
 ·obtain ⟨z0,z1,z2,z3⟩:=hW;go_simp;first|done|with_reducible rfl
 refine anyK_on1 6 (by kernel_rfl) ?_
 refine tw 6 (fun K hK=>?_)
 go_simp
 replace yy:=(⟨_,K10.out.ext (ext_alloc zz _),KM10.out.ext (ext_alloc zz _)⟩ : (fun W => ∃ lv,Blk W BG 92 #[.string R.name,.int .i64 R.width,.int .i64 R.height,.slice pA R.pieces.length pc,.slice sA R.start.length sc,.bool R.falls,.bool R.keeps,.slice eA R.ends.length ec,.int .i64 R.blocked,.int .i64 R.quiet,.int .i64 R.rept,.slice A9 n9 c9,lv]∧Blk W BM 47 #[.int .i64 mv.src,.int .i64 mv.dst,.int .i64 mv.piece]) (w10.drew.alloc (.cells #[.int .i64 mv.src,.int .i64 mv.dst,.int .i64 mv.piece] 47)))
 replace ss:=K10.out.ext (ext_alloc zz (.cells #[.int .i64 mv.src,.int .i64 mv.dst,.int .i64 mv.piece] 47))
 have hT1:=keepK.out _ yy
 have hS1:=ss.cell 12
 refine hK.out _ _ hT1 (fun _ => hS1) ?_
 clear hK K
 try simp only [Act.put,List.setIfInBounds_toArray,List.set_cons_zero,List.set_cons_succ]
 refine anyK_on1 7 (by kernel_rfl) ?_
 refine tw 7 (fun K hK=>?_)
 refine ite_yes' rfl ?_
 refine oper_append_mv (.tmp 48) (.tmp 50) rfl w0 w10.drew (.slice mA ms.length mc) ms mv rfl (H410.out.ext zz) rfl (ext_trans X10.out zz) HLM.out ?_
 intro v11 w11 own11 x11 g11 f11
 obtain ⟨A11,n11,c11,rfl⟩ : ∃ A n c,v11=.slice A n c:=by obtain ⟨A,c,e,-⟩:=own11; exact ⟨_,_,_,e⟩
 have HNB : Hid (some BG ≠ (Value.slice mA ms.length mc).ownBlock):=hide ((H410.out.ext zz).blk_ne (K10.out.ext zz) (by decide))
 have HNM : Hid (BM ≠ BG):=hide (by
  rintro rfl
  have e:=KM10.out.symm.trans K10.out
  simp only [Option.some.injEq,Obj.cells.injEq] at e
  exact absurd e.2.1 (by decide))
 have HNX : Hid ((Value.slice mA ms.length mc).ownBlock ≠ some BM):=HMX
 replace yy:=(⟨_,(K10.out.ext zz).grown g11 HNB.out,(KM10.out.ext zz).grown g11 (Ne.symm HNX.out)⟩ : (fun W => ∃ lv,Blk W BG 92 #[.string R.name,.int .i64 R.width,.int .i64 R.height,.slice pA R.pieces.length pc,.slice sA R.start.length sc,.bool R.falls,.bool R.keeps,.slice eA R.ends.length ec,.int .i64 R.blocked,.int .i64 R.quiet,.int .i64 R.rept,.slice A9 n9 c9,lv]∧Blk W BM 47 #[.int .i64 mv.src,.int .i64 mv.dst,.int .i64 mv.piece]) w11)
 replace ss:=(K10.out.ext zz).grown g11 HNB.out
 have H211:=hide ((H210.out.ext zz).tfr ⟨by decide,by decide,by decide,by decide⟩ f11)
 have P11:=hide ((OWN10.out.ext zz).tfr (by decide) (by decide) f11)
 have OWN11:=hide own11
 have X11:=hide x11
 clear own11 x11 g11 f11 HNB HNX
 have hT2:=keepK.out _ yy
 have hS2:=ss.cell 12
 refine hK.out _ _ hT2 (fun _ => hS2) ?_
 clear hK K
 try simp only [Act.put,List.setIfInBounds_toArray,List.set_cons_zero,List.set_cons_succ]
 refine tk 8 hT2 (fun _ => hS2) ?_
 refine tk 9 hT2 (fun _ => hS2) ?_
 refine anyK_on1 10 (by kernel_rfl) ?_
 refine tw 10 (fun K hK=>?_)
 have q5:=ss.cell
 have z5:=ss.frozen
 have KM11 : Hid (Blk w11 BM 47 #[.int .i64 mv.src,.int .i64 mv.dst,.int .i64 mv.piece]):=hide (match yy with | ⟨_,_,hm⟩ => hm)
 have k12:=blk_put (i:=12) (u:=.slice A11 n11 c11) ss (cs':=#[.string R.name,.int .i64 R.width,.int .i64 R.height,.slice pA R.pieces.length pc,.slice sA R.start.length sc,.bool R.falls,.bool R.keeps,.slice eA R.ends.length ec,.int .i64 R.blocked,.int .i64 R.quiet,.int .i64 R.rept,.slice A9 n9 c9,.slice A11 n11 c11]) rfl
 replace yy:=(⟨.slice A11 n11 c11,k12,KM11.out.far (p:=⟨BG,12,none⟩) HNM.out _⟩ : (fun W => ∃ lv,Blk W BG 92 #[.string R.name,.int .i64 R.width,.int .i64 R.height,.slice pA R.pieces.length pc,.slice sA R.start.length sc,.bool R.falls,.bool R.keeps,.slice eA R.ends.length ec,.int .i64 R.blocked,.int .i64 R.quiet,.int .i64 R.rept,.slice A9 n9 c9,lv]∧Blk W BM 47 #[.int .i64 mv.src,.int .i64 mv.dst,.int .i64 mv.piece]) (w11.setCell ⟨BG,12,none⟩ (.slice A11 n11 c11)))
 have TF12:=hide (TFr.set (ts:=[92]) ss (List.mem_singleton.2 rfl) 12 (.slice A11 n11 c11))
 have K12:=hide k12
 have X12:=hide (ext_set X11.out (p:=⟨BG,12,none⟩) HBG9.out (.slice A11 n11 c11))
 clear k12
 go_simp
 have hT3:=keepK.out _ yy
 refine hK.out _ _ hT3 (fun h => by cases h) ?_
 clear hK K
 try simp only [Act.put,List.setIfInBounds_toArray,List.set_cons_zero,List.set_cons_succ]
 refine anyK_done (by kernel_rfl) ?_ _
 clear keepK hT0 hT1 hT2 hT3
 try clear keepS hS0 hS1 hS2
 clear zz yy ss q5 z5
 go_wp2
 go_ret
 rw [HQ.out]
 exact ⟨rfl,pA,pc,sA,sc,eA,ec,base,_,_,K12.out,H211.out.tfr ⟨by decide,by decide,by decide,by decide⟩ TF12.out,P11.out.tfr (by decide) (by decide) TF12.out,OWN11.out.tfr (by decide) TF12.out,HBG9.out,X12.out⟩
end Go.Proofs.YtdoibgmmijhlfaaGreatDoor
