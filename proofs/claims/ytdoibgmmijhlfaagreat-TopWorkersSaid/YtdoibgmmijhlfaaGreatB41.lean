/- PerftW4 PerftQ PartsQ -/
import Derived.Test.YtdoibgmmijhlfaaGreatB37
import Derived.Deep.AppendLies
import Derived.Deep.DeepCutAuto
namespace Go.Proofs.YtdoibgmmijhlfaaGreat
open Go.ChangeShapes Go.WideShapes Go.ChangeAt Go.RowKit Go.Shelf
set_option linter.unusedVariables false
set_option linter.unusedSimpArgs false
theorem partInfo : (Crz.prog.info? 56).map (fun i => (i.zero,i.size,i.bytes))=some (some (.agg #[.int .i64 0,.int .i64 0,.int .i64 0,.int .i64 0]),4,32):=by kernel_rfl
abbrev PartM:=MoveM × Int
def partV (p : PartM) : List Value:=[.int .i64 p.1.src,.int .i64 p.1.dst,.int .i64 p.1.piece,.int .i64 p.2]
def partOf (R : RulesM) (P : PosM) (D : Int) (m : MoveM) : PartM:=(m,leafM R (D - 1).toNat (makeM R P m))
def divM (R : RulesM) (P : PosM) (D : Int) : List PartM:=(movesM R P).map (partOf R P D)
def divE (R : RulesM) (P : PosM) (D : Int) : Int:=if checkE R P ≠ 0 then checkE R P else if D=0 then 1 else perftE R P D
def OwnT (w0 w : World) (v : Value) (ps : List PartM) : Prop:=∃ A c,v=.slice A ps.length c∧w.ownsRow w0.heap.size 56 4 (.slice A ps.length c) ps.length (ps.flatMap partV)
theorem OwnT.nil (w0 w : World) : OwnT w0 w (.slice none 0 0) []:=⟨none,0,rfl,World.ownsRow_nil _ _ _ _⟩
theorem OwnT.ext {w0 w w' : World} {v : Value} {xs : List PartM} (h : OwnT w0 w v xs) (he : Ext w w') : OwnT w0 w' v xs:=by
 obtain ⟨A,c,e,h⟩:=h
 exact ⟨A,c,e,own_ext h he⟩
theorem OwnT.bd {w0 w : World} {v : Value} {xs : List PartM} (h : OwnT w0 w v xs) : ∀ g,v.ownBlock=some g→w0.heap.size≤g∧g < w.heap.size:=by
 obtain ⟨A,c,rfl,h⟩:=h
 exact h.lt
theorem OwnT.base {w0 w1 w : World} {v : Value} {L : List PartM} (h : OwnT w1 w v L) (hb : Ext w0 w1) : OwnT w0 w v L:=by
 obtain ⟨A,c,e,h⟩:=h
 exact ⟨A,c,e,h.1,h.2.imp id fun ⟨g,cap,cur,h1,h2,h3⟩ => ⟨g,cap,cur,h1,Nat.le_trans hb.size h2,h3⟩⟩
theorem ite_yes {c : Prop} [Decidable c] {A B : Prop} (hc : c) (h : A) : if c then A else B:=by rw [if_pos hc]; exact h
theorem oper_append_part {o : Oper} {a : Act} {K : Act→World→Prop} {Q : Exit→Act→World→Prop} (s x : Operand)
  (ho : o.op=.call { callee:=.builtin .append,args:=#[s,x],argTypes:=#[50,50] }) (w0 w : World) (v : Value) (xs : List PartM) (m : PartM) (hs : a.eval s=v) (hown : OwnT w0 w v xs) (hx : a.eval x=.slice (some ⟨w.heap.size,0,none⟩) 1 1)
  (hext : Ext w0 w) (hlen : xs.length≤1000000) (h : ∀ v' w',OwnT w0 w' v' (xs ++ [m])→Ext w0 w'→w.grownBy w' v.ownBlock→K (a.put o.dst v') w') :
  Oper.wp Crz.prog o a (w.alloc (.cells #[.int .i64 m.1.src,.int .i64 m.1.dst,.int .i64 m.1.piece,.int .i64 m.2] 56)) K Q:=by
 obtain ⟨A,c,rfl,hown⟩:=hown
 obtain ⟨i0,hi,hz0,hz1,hz2⟩:=info_parts partInfo
 have hsz:=hext.size
 obtain ⟨v',w',hrun,h2,h3⟩:=run_append_cells (P:=Crz.prog) _ w0.heap.size 50 o.type 56 i0 (.agg #[.int .i64 0,.int .i64 0,.int .i64 0,.int .i64 0]) 4 32 Crz.underlying50 hi hz0 hz1 hz2 rfl (by decide) _ xs.length (xs.flatMap partV) (own_ext hown (ext_alloc (Below.refl _ _) _)) (some ⟨w.heap.size,0,none⟩) 1 1 (partV m) rfl (cellsAt_new w 56 (partV m)) (by simp [partV,Value.oneCell']) (by simp only [maxLen]; omega) (by omega) (by simp; omega) (by simp)
 unfold Oper.wp execOp
 simp only [ho,resolve,invoke,builtin,Sem.run_bind,Sem.run_pure,Result.andThen_ok,List.map_toArray,List.map_cons,List.map_nil,hs,hx,hrun,show #[Value.int .i64 m.1.src,.int .i64 m.1.dst,.int .i64 m.1.piece,.int .i64 m.2]=(partV m).toArray from rfl]
 obtain ⟨A',c',rfl,_,_⟩:=own_shape h2
 refine h _ w' ⟨A',c',by simp,by simpa using h2⟩ (ext_grown (ext_alloc hext _) h3 (own_row hown)) ?_
 exact ⟨h3.os,h3.tape,h3.output,by have:=h3.size; simp at this; omega,fun b hb hn => by
  rw [h3.block b (by simp; omega) hn]
  exact Below.heap_alloc w _ b hb⟩
theorem partS_all' (R : RulesM) (P : PosM) (D : Int) (k : Nat) (m : MoveM) (h : (movesM R P)[k]? = some m) : ((movesM R P).take (k + 1)).map (partOf R P D)=((movesM R P).take k).map (partOf R P D) ++ [partOf R P D m]:=by
 rw [List.take_add_one,h,List.map_append]; rfl
set_option maxHeartbeats 4000000 in
set_option maxRecDepth 100000 in
theorem Divide_yes (R : RulesM) (P : PosM) (v u : Value) (D : Int) (w : World) (hR : RulesAt w v R) (hP : PosAt w u P) (h0 : divE R P D=0) :
  Calls Crz.prog 23 #[v,u,.int .i64 D] w fun e w' => ∃ v',e=.returned (.tuple #[v',.int .i64 0])∧OwnT w w' v' (divM R P D)∧Ext w w':=by
 have hck : checkE R P=0:=by
  by_cases h : checkE R P=0
  ·exact h
  ·rw [divE,if_pos h] at h0; exact h0
 have hd0 : D ≠ 0:=by
  rintro rfl
  rw [divE,if_neg (by simpa using hck),if_pos rfl] at h0
  exact absurd h0 (by decide)
 have hpe : perftE R P D=0:=by rw [divE,if_neg (by simpa using hck),if_neg hd0] at h0; exact h0
 have hb : 1≤D∧D≤12∧treeM R D.toNat P≤50000:=by
  by_cases ha : D < 0∨12 < D
  ·exact absurd hpe (by rw [(perftE_arg hck ha).1]; decide)
  ·by_cases ht : 50000 < treeM R D.toNat P
   ·exact absurd hpe (by rw [(perftE_bound hck ha ht).1]; decide)
   ·exact ⟨by omega,by omega,by omega⟩
 obtain ⟨hV,hS⟩:=check_iff.1 hck
 have HC:=hide (fun W (hW : Ext w W) => PCheck_any R P v u W (hR.ext hW) (hP.ext hW))
 have HK:=hide (fun W (hW : Ext w W) => PfCheck_any R P v u D W (hR.ext hW) (hP.ext hW))
 have HMV:=hide (fun W (hW : Ext w W) => EMoves_any R P v u W (hR.ext hW) (hP.ext hW) hV hS)
 have HRF:=hide (fun W (hW : Ext w W) => hR.ext hW)
 have HPF:=hide (fun W (hW : Ext w W) => hP.ext hW)
 obtain ⟨pA,pc,sA,sc,eA,ec,rfl,-⟩:=hR
 obtain ⟨cA,cc,aA,ac,bA,bc,rfl,-⟩:=hP
 have HMK : Hid (∀ m,m ∈ movesM R P→∀ W,Ext w W→Calls Crz.prog 39 #[.agg #[.string R.name,.int .i64 R.width,.int .i64 R.height,.slice pA R.pieces.length pc,.slice sA R.start.length sc,.bool R.falls,.bool R.keeps,.slice eA R.ends.length ec,.int .i64 R.blocked,.int .i64 R.quiet,.int .i64 R.rept],.agg #[.slice cA P.cells.length cc,.slice aA P.hand0.length ac,.slice bA P.hand1.length bc,.int .i64 P.turn,.int .i64 P.quiet],.agg #[.int .i64 m.src,.int .i64 m.dst,.int .i64 m.piece]] W (MakePost W (makeM R P m))):=hide (fun m hm W hW => Make_any R P m _ _ W (HRF.out W hW) (HPF.out W hW) hV hS (raw_move hm))
 have HWK : Hid (∀ m,m ∈ movesM R P→∀ (Bc : Nat) (v : Value) (W : World),Blk W Bc 99 #[.string R.name,.int .i64 R.width,.int .i64 R.height,.slice pA R.pieces.length pc,.slice sA R.start.length sc,.bool R.falls,.bool R.keeps,.slice eA R.ends.length ec,.int .i64 R.blocked,.int .i64 R.quiet,.int .i64 R.rept,.int .i64 0,.int .i64 0]→Far Bc W (fun W => RulesAt W (.agg #[.string R.name,.int .i64 R.width,.int .i64 R.height,.slice pA R.pieces.length pc,.slice sA R.start.length sc,.bool R.falls,.bool R.keeps,.slice eA R.ends.length ec,.int .i64 R.blocked,.int .i64 R.quiet,.int .i64 R.rept]) R)→Far Bc W (fun W => PosAt W v (makeM R P m)) →
   Calls Crz.prog 52 #[.pointer (some ⟨Bc,0,none⟩),v,.int .i64 (D - 1)] W (WalkPost R pA pc sA sc eA ec Bc W 0 0 (treeM R (D - 1).toNat (makeM R P m)) (leafM R (D - 1).toNat (makeM R P m)))):=hide (fun m hm Bc v W b1 b2 b3 =>
  walk_any R hV pA pc sA sc eA ec Bc (D - 1).toNat _ v W (D - 1) 0 0 (by omega) (by omega) (sound_move hV hS hm) b1 b2 b3 (by decide) (by decide) (by decide) (by decide))
 have HTR : Hid (∀ m,m ∈ movesM R P→treeM R (D - 1).toNat (makeM R P m)≤50000):=hide (fun m hm => by
  obtain ⟨k,hk⟩:=List.getElem?_of_mem hm
  have e : D.toNat=(D - 1).toNat + 1:=by omega
  have h1:=hb.2.2
  rw [e] at h1
  have h2 : treeM R ((D - 1).toNat + 1) P=1 + ((movesM R P).map fun m => treeM R (D - 1).toNat (makeM R P m)).sum:=rfl
  have h3:=partS_lt (tr:=fun m => treeM R (D - 1).toNat (makeM R P m)) (fun m => tree_pos _ _ _) hk
  have h4:=partS_nonneg (f:=fun m => treeM R (D - 1).toNat (makeM R P m)) (l:=movesM R P) (fun m => by have:=tree_pos R (D - 1).toNat (makeM R P m); show 0≤treeM R (D - 1).toNat (makeM R P m); omega) k
  omega)
 have HLL : Hid ((movesM R P).length≤1000000):=hide (by
  unfold movesM
  split
  ·exact listM_len hV hS
  ·simp)
 rw [hck] at HC
 rw [hpe] at HK
 have hwd : IntKind.i64.wrap (D - 1)=D - 1:=by rw [IntKind.wrap_i64]; omega
 have t0 : (D == 0)=false:=by simpa using hd0
 have HST:=hide (partS_all' R P D)
 have HDM:=hide (show divM R P D=(movesM R P).map (partOf R P D) from rfl)
 clear hV hS hck hd0 hpe hb h0
 generalize movesM R P=L at *
 obtain ⟨x1,k1,k2⟩:=blks2 w #[.string R.name,.int .i64 R.width,.int .i64 R.height,.slice pA R.pieces.length pc,.slice sA R.start.length sc,.bool R.falls,.bool R.keeps,.slice eA R.ends.length ec,.int .i64 R.blocked,.int .i64 R.quiet,.int .i64 R.rept] 26 #[.slice cA P.cells.length cc,.slice aA P.hand0.length ac,.slice bA P.hand1.length bc,.int .i64 P.turn,.int .i64 P.quiet] 29
 have HX:=hide x1
 have K1:=hide k1
 have K2:=hide k2
 clear x1 k1 k2
 have f1:=K1.out.cell
 have f2:=K2.out.cell
 go_enter Crz.func23,Tryz.ntmps23
 go_wp2_with fail
 refine (HC.out _ HX.out).mono ?_
 rintro e wa ⟨rfl,x2⟩
 have X2:=hide (ext_trans HX.out x2)
 have KR2:=hide (K1.out.ext x2)
 have KP2:=hide (K2.out.ext x2)
 clear f1 f2 x2 HX K1 K2
 generalize w.heap.size + 1=BP at *
 generalize w.heap.size=BR at *
 have g1:=KR2.out.cell
 have g2:=KP2.out.cell
 go_wp2_with fail
 refine (HK.out _ X2.out).mono ?_
 rintro e wb ⟨rfl,x3⟩
 have X3:=hide (ext_trans X2.out x3)
 have KR3:=hide (KR2.out.ext x3)
 have KP3:=hide (KP2.out.ext x3)
 clear g1 g2 x3 X2 KR2 KP2
 have g1:=KR3.out.cell
 have g2:=KP3.out.cell
 go_wp2_with fail
 refine (HMV.out _ X3.out).mono ?_
 rintro e w2 ⟨v5,rfl,own5,x4⟩
 have X4:=hide (ext_trans X3.out x4)
 have KR:=hide (KR3.out.ext x4)
 have KP:=hide (KP3.out.ext x4)
 have h5:=own5.at_
 obtain ⟨A5,c5,rfl,h5'⟩:=h5
 have H5:=hide h5'
 clear g1 g2 x4 X3 KR3 KP3 own5 h5'
 go_wp2
 go_loopw [12,39] (fun o i wr => ∃ (k : Nat) (v0 : Value),k≤L.length∧i=.int .i64 k∧v0=o∧OwnT w2 wr v0 ((L.take k).map (partOf R P D))∧Ext w2 wr) (fun _ i _ => L.length - (intOf i).toNat)
 case atStart => exact ⟨0,_,Nat.zero_le _,rfl,rfl,OwnT.nil _ _,Below.refl _ _⟩
 case round =>
  obtain ⟨k,v0,hk,rfl,rfl,own,xr⟩:=hrel
  by_cases hlt : k < L.length
  ·obtain ⟨m,hm⟩ : ∃ m,L[k]? = some m:=⟨L[k],List.getElem?_eq_getElem _⟩
   obtain ⟨b,o,rfl,m0,m1,m2⟩:=moves_get (H5.out.ext xr) hm
   have HM:=hide hm
   have hml:=List.mem_of_getElem? hm
   have HMK2:=hide (HMK.out m hml)
   have HWK2:=hide (HWK.out m hml)
   have HTR2:=hide (HTR.out m hml)
   have HST2:=hide (HST.out k m hm)
   have HOW:=hide own
   have HXR:=hide xr
   have KRr:=hide (KR.out.ext xr)
   have KPr:=hide (KP.out.ext xr)
   have HLN : Hid (((L.take k).map (partOf R P D)).length≤1000000):=hide (by rw [List.length_map,List.length_take]; have:=HLL.out; omega)
   clear hm hml own xr
   have hll:=HLL.out
   go_upto_region 13 with fail
   obtain ⟨xm,km⟩:=blks1 wr #[.int .i64 m.src,.int .i64 m.dst,.int .i64 m.piece] 31
   have HNM : Hid (∀ g,v0.ownBlock=some g→g < wr.heap.size):=hide (fun g hg => (HOW.out.bd g hg).2)
   have KMm:=hide km
   have XM:=hide xm
   have KRm:=hide (KRr.out.ext xm)
   have KPm:=hide (KPr.out.ext xm)
   have HSM : Hid ((wr.alloc (.cells #[.int .i64 m.src,.int .i64 m.dst,.int .i64 m.piece] 31)).heap.size=wr.heap.size + 1):=hide (by simp)
   clear xm km m0 m1 m2 KRr KPr
   generalize wr.alloc (.cells #[.int .i64 m.src,.int .i64 m.dst,.int .i64 m.piece] 31)=wm at *
   have f1:=KRm.out.cell
   have f2:=KPm.out.cell
   go_upto_region 14 with fail
   obtain ⟨x5,k6⟩:=blks1 wm #[.string R.name,.int .i64 R.width,.int .i64 R.height,.slice pA R.pieces.length pc,.slice sA R.start.length sc,.bool R.falls,.bool R.keeps,.slice eA R.ends.length ec,.int .i64 R.blocked,.int .i64 R.quiet,.int .i64 R.rept,.int .i64 0,.int .i64 0] 99
   have KM:=hide (KMm.out.ext x5)
   have KC:=hide k6
   have X5:=hide (ext_trans XM.out x5)
   have f3:=(KRm.out.ext x5).cell
   have f4:=(KPm.out.ext x5).cell
   have HSZ : Hid (wr.heap.size ≠ wm.heap.size∧wr.heap.size < wm.heap.size):=hide ⟨by have:=HSM.out; omega,by have:=HSM.out; omega⟩
   have HCB:=hide (fun W (h : Gr wm.heap.size (wm.alloc (.cells #[.string R.name,.int .i64 R.width,.int .i64 R.height,.slice pA R.pieces.length pc,.slice sA R.start.length sc,.bool R.falls,.bool R.keeps,.slice eA R.ends.length ec,.int .i64 R.blocked,.int .i64 R.quiet,.int .i64 R.rept,.int .i64 0,.int .i64 0] 99)) W) => h.to_ext X5.out (by have:=HSZ.out; omega))
   clear x5 k6 f1 f2 KRm KPm KMm XM HSM
   have f5:=KM.out.cell
   generalize wm.alloc (.cells #[.string R.name,.int .i64 R.width,.int .i64 R.height,.slice pA R.pieces.length pc,.slice sA R.start.length sc,.bool R.falls,.bool R.keeps,.slice eA R.ends.length ec,.int .i64 R.blocked,.int .i64 R.quiet,.int .i64 R.rept,.int .i64 0,.int .i64 0] 99)=w4 at *
   have HNC : Hid (v0.ownBlock ≠ some wm.heap.size):=hide (fun h => by have:=HNM.out _ h; have:=HSZ.out; omega)
   have HNB : Hid (v0.ownBlock ≠ some wr.heap.size):=hide (fun h => by have:=HNM.out _ h; omega)
   generalize hBC : wm.heap.size=Bc at *
   generalize hBM : wr.heap.size=BM at *
   clear hBC hBM HNM
   go_wp2_with fail
   refine (HMK2.out _ (ext_trans X4.out (ext_trans HXR.out X5.out))).mono ?_
   rintro e w5 ⟨v6,rfl,own6,x6⟩
   have X6:=hide x6
   have FP6:=hide (far_own own6 KC.out.lt)
   have KC5:=hide (KC.out.ext x6)
   have KM5:=hide (KM.out.ext x6)
   clear x6 own6 f3 f4 f5
   go_wp2_with fail
   refine (HWK2.out Bc v6 w5 KC5.out (fun W h => HRF.out W (ext_trans X4.out (ext_trans HXR.out (HCB.out W ((Gr.of_ext X6.out).trans h))))) FP6.out).mono ?_
   rintro e w6 ⟨ok,n',l',rfl,kc6,g6,hok,hfl⟩
   obtain rfl : ok=true:=by
    cases ok
    ·have:=hfl rfl; have:=HTR2.out; omega
    ·rfl
   obtain rfl : l'=leafM R (D - 1).toNat (makeM R P m):=by have:=(hok rfl).2.1; omega
   have KC6:=hide kc6
   have KM6:=hide (KM5.out.blk' g6 HSZ.out.1)
   have XR6:=hide (HCB.out w6 ((Gr.of_ext X6.out).trans g6))
   have HOW6:=hide ((HOW.out.ext XR6.out).ext (Below.drew (Below.refl _ w6)))
   have X26:=hide (Below.drew (ext_trans HXR.out XR6.out))
   have HPE:=hide (show partOf R P D m=(m,leafM R (D - 1).toNat (makeM R P m)) from rfl)
   clear kc6 g6 hok hfl KC5 KM5 FP6 X6 HCB KC KM X5
   generalize leafM R (D - 1).toNat (makeM R P m)=l' at *
   go_upto_region 15 with fail
   have keepK:=hide (fun W (h : Blk W BM 31 #[.int .i64 m.src,.int .i64 m.dst,.int .i64 m.piece]∧Blk W Bc 99 #[.string R.name,.int .i64 R.width,.int .i64 R.height,.slice pA R.pieces.length pc,.slice sA R.start.length sc,.bool R.falls,.bool R.keeps,.slice eA R.ends.length ec,.int .i64 R.blocked,.int .i64 R.quiet,.int .i64 R.rept,.int .i64 n',.int .i64 l']) => (show (fun W => W.cell? ⟨BM,0,none⟩=some (.int .i64 m.src)∧W.cell? ⟨BM,1,none⟩=some (.int .i64 m.dst)∧W.cell? ⟨BM,2,none⟩=some (.int .i64 m.piece)∧W.cell? ⟨Bc,12,none⟩=some (.int .i64 l')∧Blk W BM 31 #[.int .i64 m.src,.int .i64 m.dst,.int .i64 m.piece]∧Blk W Bc 99 #[.string R.name,.int .i64 R.width,.int .i64 R.height,.slice pA R.pieces.length pc,.slice sA R.start.length sc,.bool R.falls,.bool R.keeps,.slice eA R.ends.length ec,.int .i64 R.blocked,.int .i64 R.quiet,.int .i64 R.rept,.int .i64 n',.int .i64 l']) W from ⟨h.1.cell 0,h.1.cell 1,h.1.cell 2,h.2.cell 12,h⟩))
   have yy:=(⟨KM6.out,KC6.out⟩ : (fun W => Blk W BM 31 #[.int .i64 m.src,.int .i64 m.dst,.int .i64 m.piece]∧Blk W Bc 99 #[.string R.name,.int .i64 R.width,.int .i64 R.height,.slice pA R.pieces.length pc,.slice sA R.start.length sc,.bool R.falls,.bool R.keeps,.slice eA R.ends.length ec,.int .i64 R.blocked,.int .i64 R.quiet,.int .i64 R.rept,.int .i64 n',.int .i64 l']) w6.drew)
   refine region_K (fun W => W.cell? ⟨BM,0,none⟩=some (.int .i64 m.src)∧W.cell? ⟨BM,1,none⟩=some (.int .i64 m.dst)∧W.cell? ⟨BM,2,none⟩=some (.int .i64 m.piece)∧W.cell? ⟨Bc,12,none⟩=some (.int .i64 l')∧Blk W BM 31 #[.int .i64 m.src,.int .i64 m.dst,.int .i64 m.piece]∧Blk W Bc 99 #[.string R.name,.int .i64 R.width,.int .i64 R.height,.slice pA R.pieces.length pc,.slice sA R.start.length sc,.bool R.falls,.bool R.keeps,.slice eA R.ends.length ec,.int .i64 R.blocked,.int .i64 R.quiet,.int .i64 R.rept,.int .i64 n',.int .i64 l']) (fun _ => True) [] (by kernel_rfl) ?_
   have hT0:=keepK.out _ yy
   refine tk 0 hT0 (fun _=>trivial) ?_
   refine tl 1 hT0 (fun _=>trivial) (v:=?_) (fun W hW=>?_) ?_
   rotate_left
   ·obtain ⟨z0,z1,z2,z3,z4⟩:=hW;go_simp;first|done|with_reducible rfl
   refine tk 2 hT0 (fun _=>trivial) ?_
   refine tk 3 hT0 (fun _=>trivial) ?_
   refine tk 4 hT0 (fun _=>trivial) ?_
   refine tl 5 hT0 (fun _=>trivial) (v:=?_) (fun W hW=>?_) ?_
   rotate_left
   ·obtain ⟨z0,z1,z2,z3,z4⟩:=hW;go_simp;first|done|with_reducible rfl
   refine tk 6 hT0 (fun _=>trivial) ?_
   refine anyK_on1 7 (by kernel_rfl) ?_
   refine tw 7 (fun K hK=>?_)
   go_simp
   replace yy:=(⟨yy.1.alloc _,yy.2.alloc _⟩ : (fun W => Blk W BM 31 #[.int .i64 m.src,.int .i64 m.dst,.int .i64 m.piece]∧Blk W Bc 99 #[.string R.name,.int .i64 R.width,.int .i64 R.height,.slice pA R.pieces.length pc,.slice sA R.start.length sc,.bool R.falls,.bool R.keeps,.slice eA R.ends.length ec,.int .i64 R.blocked,.int .i64 R.quiet,.int .i64 R.rept,.int .i64 n',.int .i64 l']) (w6.drew.alloc (.cells #[.int .i64 m.src,.int .i64 m.dst,.int .i64 m.piece,.int .i64 l'] 56)))
   have hT1:=keepK.out _ yy
   refine hK.out _ _ hT1 (fun _ => trivial) ?_
   clear hK K
   try simp only [Act.put,List.setIfInBounds_toArray,List.set_cons_zero,List.set_cons_succ]
   refine anyK_on1 8 (by kernel_rfl) ?_
   refine tw 8 (fun K hK=>?_)
   refine ite_yes rfl ?_
   refine oper_append_part (.tmp 54) (.tmp 61) rfl w2 w6.drew v0 ((L.take k).map (partOf R P D)) (m,l') rfl HOW6.out rfl X26.out HLN.out ?_
   intro v9 w9 own9 x9 g9
   replace yy:=(⟨(g9.block _ KM6.out.lt HNB.out.symm).trans KM6.out,(g9.block _ KC6.out.lt HNC.out.symm).trans KC6.out⟩ : (fun W => Blk W BM 31 #[.int .i64 m.src,.int .i64 m.dst,.int .i64 m.piece]∧Blk W Bc 99 #[.string R.name,.int .i64 R.width,.int .i64 R.height,.slice pA R.pieces.length pc,.slice sA R.start.length sc,.bool R.falls,.bool R.keeps,.slice eA R.ends.length ec,.int .i64 R.blocked,.int .i64 R.quiet,.int .i64 R.rept,.int .i64 n',.int .i64 l']) w9)
   have hT2:=keepK.out _ yy
   refine hK.out _ _ hT2 (fun _ => trivial) ?_
   clear hK K
   try simp only [Act.put,List.setIfInBounds_toArray,List.set_cons_zero,List.set_cons_succ]
   refine tk 9 hT2 (fun _=>trivial) ?_
   refine anyK_done (by kernel_rfl) ?_ _
   clear keepK hT0 hT1 hT2
   rw [← HPE.out,← HST2.out] at own9
   have OWN9:=hide own9
   have XX9:=hide x9
   clear own9 x9 g9 yy
   go_wp2
   go_roundw
   case rel => exact ⟨k + 1,_,by omega,by go_num,rfl,OWN9.out,XX9.out⟩
   case measure => simp [intOf]; omega
  ·obtain rfl : k=L.length:=by omega
   have own' : OwnT w2 wr v0 (L.map (partOf R P D)):=by rwa [List.take_length] at own
   have HOW:=hide own'
   have HXR:=hide xr
   clear own own' xr hk hlt
   go_wp2
   go_ret2
   exact ⟨_,rfl,by rw [HDM.out]; exact HOW.out.base X4.out,ext_trans X4.out HXR.out⟩
def cntS (ps : List PartM) (k : Nat) : Int:=((ps.take k).map (·.2)).sum
theorem cntS_succ {ps : List PartM} {k : Nat} {p : PartM} (h : ps[k]? = some p) : cntS ps (k + 1)=cntS ps k + p.2:=by
 unfold cntS; rw [List.take_add_one,h,List.map_append,List.sum_append]; simp
theorem cntS_bd {ps : List PartM} (h : ∀ p ∈ ps,0≤p.2) (k : Nat) : 0≤cntS ps k∧cntS ps k≤(ps.map (·.2)).sum:=by
 have h1 : 0≤cntS ps k:=sum_nonneg _ (fun x hx => by
  obtain ⟨p,hp,rfl⟩:=List.mem_map.1 hx
  exact h p (List.mem_of_mem_take hp))
 have h2 : 0≤((ps.drop k).map (·.2)).sum:=sum_nonneg _ (fun x hx => by
  obtain ⟨p,hp,rfl⟩:=List.mem_map.1 hx
  exact h p (List.mem_of_mem_drop hp))
 have h3 : (ps.map (·.2)).sum=cntS ps k + ((ps.drop k).map (·.2)).sum:=by
  unfold cntS; rw [← List.sum_append,← List.map_append,List.take_append_drop]
 omega
theorem div_sum (R : RulesM) (P : PosM) (D : Int) (h : 1≤D) : ((divM R P D).map (·.2)).sum=leafM R D.toNat P:=by
 have e : D.toNat=(D - 1).toNat + 1:=by omega
 rw [e]
 show _=((movesM R P).map fun m => leafM R (D - 1).toNat (makeM R P m)).sum
 unfold divM
 rw [List.map_map]
 rfl
theorem div_nonneg (R : RulesM) (P : PosM) (D : Int) : ∀ p ∈ divM R P D,0≤p.2:=fun p hp => by
 obtain ⟨m,_,rfl⟩:=List.mem_map.1 hp
 exact leaf_nonneg _ _ _
theorem near_div : divE threeR nearP 1=0∧(divM threeR nearP 1).length=5∧(divM threeR nearP 1)[0]? = some (⟨-1,2,0⟩,1):=by decide +kernel
theorem parts_get {w : World} {A : Option Addr} {L : List PartM} (h : CellsAt w A (L.flatMap partV)) {k : Nat} {x : PartM} (hk : L[k]? = some x) :
  ∃ b o,A=some ⟨b,o,none⟩∧w.cell? ⟨b,o + k * 4,none⟩=some (.int .i64 x.1.src)∧w.cell? ⟨b,o + k * 4 + 1,none⟩=some (.int .i64 x.1.dst)∧w.cell? ⟨b,o + k * 4 + 2,none⟩=some (.int .i64 x.1.piece)∧w.cell? ⟨b,o + k * 4 + 3,none⟩=some (.int .i64 x.2):=by
 have g:=fun j hj => flat_get partV 4 (fun _ => rfl) L k j x hk hj
 obtain ⟨b,o,rfl,c0⟩:=h (k * 4 + 0) _ (g 0 (by omega))
 have c : ∀ j v,(L.flatMap partV)[k * 4 + j]? = some v→w.cell? ⟨b,o + k * 4 + j,none⟩=some v:=fun j v hj => by
  obtain ⟨b',o',e,c⟩:=h (k * 4 + j) v hj
  simp only [Option.some.injEq,Addr.mk.injEq,and_true] at e
  obtain ⟨rfl,rfl⟩:=e
  rw [Nat.add_assoc]; exact c
 exact ⟨b,o,rfl,c 0 _ (g 0 (by omega)),c 1 _ (g 1 (by omega)),c 2 _ (g 2 (by omega)),c 3 _ (g 3 (by omega))⟩
end Go.Proofs.YtdoibgmmijhlfaaGreat
