/- PerftC CrS PerftQ PosRow -/
import Derived.Test.YtdoibgmmijhlfaaGreatC34
import Derived.Deep.DeepCutAuto
namespace Go.Proofs.YtdoibgmmijhlfaaGreat
open Go.ChangeShapes Go.WideShapes Go.ChangeAt Go.RowKit Go.Shelf
set_option linter.unusedVariables false
set_option linter.unusedSimpArgs false
set_option maxHeartbeats 2000000 in
set_option maxRecDepth 100000 in
theorem PfCount_any(R:RM)(P:PosM)(v u:Value)(D:Int)(w:World)(hR:RA w v R)(hP:PA w u P) :
  Calls Crz.prog 16 #[v,u,.int .i64 D] w fun e w'=>e=.returned (.tuple #[.int .i64 (perftL R P D),.int .i64 (perftE R P D)])∧Ext w w':=by
 have HC:=hide (fun W (hW:Ext w W)=>PfCheck_any R P v u D W (hR.ext hW) (hP.ext hW))
 obtain⟨pA,pc,sA,sc,eA,ec,rfl,-⟩:=hR
 obtain⟨cA,cc,aA,ac,bA,bc,rfl,-⟩:=hP
 obtain⟨x1,k1,k2⟩:=blks2 w #[.string R.name,.int .i64 R.width,.int .i64 R.height,.slice pA R.pieces.length pc,.slice sA R.start.length sc,.bool R.falls,.bool R.keeps,.slice eA R.ends.length ec,.int .i64 R.blocked,.int .i64 R.quiet,.int .i64 R.rept] 26 #[.slice cA P.cells.length cc,.slice aA P.hand0.length ac,.slice bA P.hand1.length bc,.int .i64 P.turn,.int .i64 P.quiet] 29
 have HX:=hide x1
 have f1:=k1.cell
 have f2:=k2.cell
 clear x1 k1 k2
 generalize perftE R P D=E at *
 generalize perftN R P D=N at *
 generalize perftL R P D=l at *
 go_enter Crz.func16,Tryz.ntmps16
 go_wp2_with fail
 refine(HC.out _ HX.out).mono ?_
 rintro e w2 ⟨rfl,x2⟩
 have X2:=hide x2
 clear f1 f2 x2
 go_wp2
 go_ret2
 exact⟨rfl,qT HX.out X2.out⟩
def Rd(w:World)(B:Nat)(cs:Array Value):Prop:=∀ (i:Nat) (v:Value),cs[i]? = some v→w.cell? ⟨B,i,none⟩=some v
theorem Rd.ext{w w':World}{B:Nat}{cs:Array Value}(h:Rd w B cs)(x:Ext w w'):Rd w' B cs:=fun i v hv=>Ext.cell x (h i v hv)
theorem Rd.cell{w:World}{B:Nat}{cs:Array Value}(h:Rd w B cs)(i:Nat){v:Value}(hv:cs[i]? = some v:=by rfl):w.cell? ⟨B,i,none⟩=some v:=h i v hv
def scoreOf(R:RM)(P:PosM)(d:Nat)(m:MM):Int:=nearM (-(ofM R d (makeM R P m)))
set_option maxHeartbeats 4000000 in
set_option maxRecDepth 100000 in
theorem ScoresF_any(R:RM)(P:PosM)(hV:Valid R)(hS:Sound R P)(v u:Value)(D:Int)(hd0:1≤D)(hd:D≤12)(L:List MM)(hL:L=listM R P)(k:Nat)(m:MM)(hm:L[k]? = some m)(w:World)
  (B1 B2 B3 B4 B5 O c3:Nat) (A:Option Addr) (hR:RA w v R) (hP:PA w u P) (hM:CellsAt w A (L.flatMap MM.vals))
  (h1:∃ cs,v=.agg cs∧Rd w B1 cs) (h2:∃ cs,u=.agg cs∧Rd w B2 cs) (h3:Rd w B3 #[.slice A L.length c3]) (h4:Rd w B4 #[.int .i64 D]) (h5:Rd w B5 #[.slice (some ⟨O,0,none⟩) L.length L.length]) (hl:L.length≤9223372036854775807) :
  Calls Crz.prog 42 #[.int .i64 k,.pointer (some ⟨B1,0,none⟩),.pointer (some ⟨B2,0,none⟩),.pointer (some ⟨B3,0,none⟩),.pointer (some ⟨B4,0,none⟩),.pointer (some ⟨B5,0,none⟩)] w
   fun e w'=>e=.returned (.tuple #[.pointer (some ⟨O,k,none⟩),.int .i64 (scoreOf R P (D.toNat-1) m)])∧Ext w w':=by
 obtain⟨b,o,rfl,m0,m1,m2⟩:=moves_get hM hm
 have hml:m∈listM R P:=by rw [← hL];exact List.mem_of_getElem? hm
 have hlt:k<L.length:=(List.getElem?_eq_some_iff.1 hm).1
 have HMK2:=hide (fun W (hW:Ext w W)=>Make_any R P m v u W (hR.ext hW) (hP.ext hW) hV hS (mem_listM.1 hml))
 have HOF2:=hide (fun W (v':Value) (hW:Ext w W) (h:PA W v' (makeM R P m))=>of_any R hV (D.toNat-1) (by omega) (makeM R P m) v v' (D-1) W (by omega) (sound_make hV hS (mem_listM.1 hml)) (hR.ext hW) h)
 have hb:=of_bound R (D.toNat-1) (makeM R P m) (turn_make hS.turn m) (by omega)
 have hwd:IntKind.i64.wrap (D-1)=D-1:=by rw [IntKind.wrap_i64];omega
 rw [show scoreOf R P (D.toNat-1) m=nearM (-(ofM R (D.toNat-1) (makeM R P m))) from rfl]
 generalize makeM R P m=Q at *
 have HZ:Hid (-1000≤ofM R (D.toNat-1) Q∧ofM R (D.toNat-1) Q≤1000):=hide ⟨by unfold boundB at hb;omega,by unfold boundB at hb;omega⟩
 generalize ofM R (D.toNat-1) Q=z at *
 have hwn:IntKind.i64.wrap (-z)=-z:=by have:=HZ.out;rw [IntKind.wrap_i64];omega
 have HNE2:Hid (∀ W,Calls Crz.prog 29 #[.int .i64 (-z)] W fun e w'=>e=.returned (.int .i64 (nearM (-z)))∧Ext W w'):=hide (fun W=>Nearer_any (-z) W (by have:=HZ.out;omega) (by have:=HZ.out;omega))
 generalize nearM (-z)=q at *
 obtain⟨csv,ev,k1⟩:=h1
 obtain⟨csu,eu,k2⟩:=h2
 obtain⟨pA,pc,sA,sc,eA,ec,rfl,-⟩:=hR
 obtain⟨cA,cc,aA,ac,bA,bc,rfl,-⟩:=hP
 cases ev
 cases eu
 have K1:=hide k1
 have K2:=hide k2
 have K3:=hide h3
 have K4:=hide h4
 have K5:=hide h5
 have M0:=hide m0
 have M1:=hide m1
 have M2:=hide m2
 clear k1 k2 h3 h4 h5 m0 m1 m2 hM hm hml hb hd0 hd hV hS hL
 refine calls_of_wp Crz.func42 (c:=?c) ?hb ?_
 case hb =>
  simp only [Sm.scoresS,Tryz.f42,Option.map_some,Sm.setOp,List.modify_toArray,List.modify_succ_cons,List.modify_zero_cons,Sm.mute]
  rfl
 simp only [Crz.ntmps42,Tryz.ntmps42,List.size_toArray,List.length_cons,List.length_nil,Nat.reduceAdd,Nat.reduceSub,Array.replicate_succ,Array.replicate_zero,List.push_toArray,List.append_toArray,List.nil_append,List.cons_append]
 have keepK:=hide (fun W (h:Ext w W)=>(show (fun W=>W.cell? ⟨B1,0,none⟩=some (.string R.name)∧W.cell? ⟨B1,1,none⟩=some (.int .i64 R.width)∧W.cell? ⟨B1,2,none⟩=some (.int .i64 R.height)∧W.cell? ⟨B1,3,none⟩=some (.slice pA R.pieces.length pc)∧W.cell? ⟨B1,4,none⟩=some (.slice sA R.start.length sc)∧W.cell? ⟨B1,5,none⟩=some (.bool R.falls)∧W.cell? ⟨B1,6,none⟩=some (.bool R.keeps)∧W.cell? ⟨B1,7,none⟩=some (.slice eA R.ends.length ec)∧W.cell? ⟨B1,8,none⟩=some (.int .i64 R.blocked)∧W.cell? ⟨B1,9,none⟩=some (.int .i64 R.quiet)∧W.cell? ⟨B1,10,none⟩=some (.int .i64 R.rept)∧W.cell? ⟨B2,0,none⟩=some (.slice cA P.cells.length cc)∧W.cell? ⟨B2,1,none⟩=some (.slice aA P.hand0.length ac)∧W.cell? ⟨B2,2,none⟩=some (.slice bA P.hand1.length bc)∧W.cell? ⟨B2,3,none⟩=some (.int .i64 P.turn)∧W.cell? ⟨B2,4,none⟩=some (.int .i64 P.quiet)∧W.cell? ⟨B3,0,none⟩=some (.slice (some ⟨b,o,none⟩) L.length c3)∧W.cell? ⟨B4,0,none⟩=some (.int .i64 D)∧W.cell? ⟨B5,0,none⟩=some (.slice (some ⟨O,0,none⟩) L.length L.length)∧W.cell? ⟨b,o+k * 3,none⟩=some (.int .i64 m.src)∧W.cell? ⟨b,o+k * 3+1,none⟩=some (.int .i64 m.dst)∧W.cell? ⟨b,o+k * 3+2,none⟩=some (.int .i64 m.piece)∧Ext w W) W from ⟨(K1.out.ext h).cell 0,(K1.out.ext h).cell 1,(K1.out.ext h).cell 2,(K1.out.ext h).cell 3,(K1.out.ext h).cell 4,(K1.out.ext h).cell 5,(K1.out.ext h).cell 6,(K1.out.ext h).cell 7,(K1.out.ext h).cell 8,(K1.out.ext h).cell 9,(K1.out.ext h).cell 10,(K2.out.ext h).cell 0,(K2.out.ext h).cell 1,(K2.out.ext h).cell 2,(K2.out.ext h).cell 3,(K2.out.ext h).cell 4,(K3.out.ext h).cell 0,(K4.out.ext h).cell 0,(K5.out.ext h).cell 0,Ext.cell h M0.out,Ext.cell h M1.out,Ext.cell h M2.out,h⟩))
 have yy:Ext w w.drew:=Below.drew (Below.refl _ _)
 refine region_K (fun W=>W.cell? ⟨B1,0,none⟩=some (.string R.name)∧W.cell? ⟨B1,1,none⟩=some (.int .i64 R.width)∧W.cell? ⟨B1,2,none⟩=some (.int .i64 R.height)∧W.cell? ⟨B1,3,none⟩=some (.slice pA R.pieces.length pc)∧W.cell? ⟨B1,4,none⟩=some (.slice sA R.start.length sc)∧W.cell? ⟨B1,5,none⟩=some (.bool R.falls)∧W.cell? ⟨B1,6,none⟩=some (.bool R.keeps)∧W.cell? ⟨B1,7,none⟩=some (.slice eA R.ends.length ec)∧W.cell? ⟨B1,8,none⟩=some (.int .i64 R.blocked)∧W.cell? ⟨B1,9,none⟩=some (.int .i64 R.quiet)∧W.cell? ⟨B1,10,none⟩=some (.int .i64 R.rept)∧W.cell? ⟨B2,0,none⟩=some (.slice cA P.cells.length cc)∧W.cell? ⟨B2,1,none⟩=some (.slice aA P.hand0.length ac)∧W.cell? ⟨B2,2,none⟩=some (.slice bA P.hand1.length bc)∧W.cell? ⟨B2,3,none⟩=some (.int .i64 P.turn)∧W.cell? ⟨B2,4,none⟩=some (.int .i64 P.quiet)∧W.cell? ⟨B3,0,none⟩=some (.slice (some ⟨b,o,none⟩) L.length c3)∧W.cell? ⟨B4,0,none⟩=some (.int .i64 D)∧W.cell? ⟨B5,0,none⟩=some (.slice (some ⟨O,0,none⟩) L.length L.length)∧W.cell? ⟨b,o+k * 3,none⟩=some (.int .i64 m.src)∧W.cell? ⟨b,o+k * 3+1,none⟩=some (.int .i64 m.dst)∧W.cell? ⟨b,o+k * 3+2,none⟩=some (.int .i64 m.piece)∧Ext w W) (fun _=>True) [] (by kernel_rfl) ?_
 have hT0:=keepK.out _ yy
 refine tl 0 hT0 (fun _=>trivial) (v:=?_) (fun W hW=>?_) ?_
 rotate_left
 ·obtain⟨z0,z1,z2,z3,z4,z5,z6,z7,z8,z9,z10,z11,z12,z13,z14,z15,z16,z17,z18,z19,z20,z21,z22⟩:=hW;go_simp;first|done|with_reducible rfl
 refine tk 1 hT0 (fun _=>trivial) ?_
 refine tl 2 hT0 (fun _=>trivial) (v:=?_) (fun W hW=>?_) ?_
 rotate_left
 ·obtain⟨z0,z1,z2,z3,z4,z5,z6,z7,z8,z9,z10,z11,z12,z13,z14,z15,z16,z17,z18,z19,z20,z21,z22⟩:=hW;go_simp;first|done|with_reducible rfl
 refine tl 3 hT0 (fun _=>trivial) (v:=?_) (fun W hW=>?_) ?_
 rotate_left
 ·obtain⟨z0,z1,z2,z3,z4,z5,z6,z7,z8,z9,z10,z11,z12,z13,z14,z15,z16,z17,z18,z19,z20,z21,z22⟩:=hW;go_simp;first|done|with_reducible rfl
 refine tl 4 hT0 (fun _=>trivial) (v:=?_) (fun W hW=>?_) ?_
 rotate_left
 ·obtain⟨z0,z1,z2,z3,z4,z5,z6,z7,z8,z9,z10,z11,z12,z13,z14,z15,z16,z17,z18,z19,z20,z21,z22⟩:=hW;go_simp;first|done|with_reducible rfl
 refine tl 5 hT0 (fun _=>trivial) (v:=?_) (fun W hW=>?_) ?_
 rotate_left
 ·obtain⟨z0,z1,z2,z3,z4,z5,z6,z7,z8,z9,z10,z11,z12,z13,z14,z15,z16,z17,z18,z19,z20,z21,z22⟩:=hW;go_simp;first|done|with_reducible rfl
 refine tk 6 hT0 (fun _=>trivial) ?_
 refine tk 7 hT0 (fun _=>trivial) ?_
 refine tl 8 hT0 (fun _=>trivial) (v:=?_) (fun W hW=>?_) ?_
 rotate_left
 ·obtain⟨z0,z1,z2,z3,z4,z5,z6,z7,z8,z9,z10,z11,z12,z13,z14,z15,z16,z17,z18,z19,z20,z21,z22⟩:=hW;go_simp;first|done|with_reducible rfl
 refine tl 10 hT0 (fun _=>trivial) (v:=?_) (fun W hW=>?_) ?_
 rotate_left
 ·obtain⟨z0,z1,z2,z3,z4,z5,z6,z7,z8,z9,z10,z11,z12,z13,z14,z15,z16,z17,z18,z19,z20,z21,z22⟩:=hW;go_simp;first|done|with_reducible rfl
 refine tk 11 hT0 (fun _=>trivial) ?_
 refine anyK_on1 9 (by kernel_rfl) ?_
 refine tw 9 (fun K hK=>?_)
 go_simp
 refine(HMK2.out _ yy).mono ?_
 rintro e wk ⟨v6,rfl,hp6,xx⟩
 try go_wp2_with fail
 replace yy:=qT yy xx
 replace hp6:=hp6.at_
 have HP6:=hide hp6
 clear hp6
 have hT1:=keepK.out _ yy
 refine hK.out _ _ hT1 (fun _=>trivial) ?_
 clear hK K
 try simp only [Act.put,List.setIfInBounds_toArray,List.set_cons_zero,List.set_cons_succ]
 refine anyK_on1 12 (by kernel_rfl) ?_
 refine tw 12 (fun K hK=>?_)
 go_simp
 refine(HOF2.out _ _ yy HP6.out).mono ?_
 rintro e wz ⟨rfl,xx⟩
 try go_wp2_with fail
 replace yy:=qT yy xx
 have hT2:=keepK.out _ yy
 refine hK.out _ _ hT2 (fun _=>trivial) ?_
 clear hK K
 try simp only [Act.put,List.setIfInBounds_toArray,List.set_cons_zero,List.set_cons_succ]
 refine tk 13 hT2 (fun _=>trivial) ?_
 refine anyK_on1 14 (by kernel_rfl) ?_
 refine tw 14 (fun K hK=>?_)
 go_simp
 refine(HNE2.out _).mono ?_
 rintro e wy ⟨rfl,xx⟩
 try go_wp2_with fail
 replace yy:=qT yy xx
 have hT3:=keepK.out _ yy
 refine hK.out _ _ hT3 (fun _=>trivial) ?_
 clear hK K
 try simp only [Act.put,List.setIfInBounds_toArray,List.set_cons_zero,List.set_cons_succ]
 refine tk 15 hT3 (fun _=>trivial) ?_
 refine tk 16 hT3 (fun _=>trivial) ?_
 refine anyK_done (by kernel_rfl) ?_ _
 clear keepK hT0 hT1 hT2 hT3
 refine bodyPost_end (v:=.tuple #[.pointer (some ⟨O,k,none⟩),.int .i64 q]) ?_ rfl ⟨rfl,yy⟩
 rw [results_tmp2 Crz.results42]
 rfl
def countOf(R:RM)(P:PosM)(D:Int)(m:MM):Int:=perftL R (makeM R P m) (D-1)
set_option maxHeartbeats 4000000 in
set_option maxRecDepth 100000 in
theorem CountF_any(R:RM)(P:PosM)(hV:Valid R)(hS:Sound R P)(v u:Value)(D:Int)(hd0:1≤D)(hd:D≤12)(L:List MM)(hL:L=listM R P)(k:Nat)(m:MM)(hm:L[k]? = some m)(w:World)
  (B1 B2 B3 B4 O c3:Nat) (A:Option Addr) (hR:RA w v R) (hP:PA w u P) (hM:CellsAt w A (L.flatMap MM.vals))
  (h1:∃ cs,v=.agg cs∧Rd w B1 cs) (h2:∃ cs,u=.agg cs∧Rd w B2 cs) (h3:Rd w B3 #[.slice A L.length c3]) (h4:Rd w B4 #[.int .i64 D]) (hl:L.length≤9223372036854775807) :
  Calls Crz.prog 38 #[.int .i64 k,.pointer (some ⟨B1,0,none⟩),.pointer (some ⟨B2,0,none⟩),.pointer (some ⟨B3,0,none⟩),.pointer (some ⟨B4,0,none⟩),.pointer (some ⟨O,0,none⟩)] w
   fun e w'=>e=.returned (.tuple #[.pointer (some ⟨O,0,none⟩),.int .i64 (countOf R P D m)])∧Ext w w':=by
 obtain⟨b,o,rfl,m0,m1,m2⟩:=moves_get hM hm
 have hml:m∈listM R P:=by rw [← hL];exact List.mem_of_getElem? hm
 have hlt:k<L.length:=(List.getElem?_eq_some_iff.1 hm).1
 have HMK2:=hide (fun W (hW:Ext w W)=>Make_any R P m v u W (hR.ext hW) (hP.ext hW) hV hS (mem_listM.1 hml))
 have HOF2:=hide (fun W (v':Value) (hW:Ext w W) (h:PA W v' (makeM R P m))=>PfCount_any R (makeM R P m) v v' (D-1) W (hR.ext hW) h)
 have hwd:IntKind.i64.wrap (D-1)=D-1:=by rw [IntKind.wrap_i64];omega
 rw [show countOf R P D m=perftL R (makeM R P m) (D-1) from rfl]
 generalize makeM R P m=Q at *
 generalize perftL R Q (D-1)=q at *
 generalize perftE R Q (D-1)=E at *
 obtain⟨csv,ev,k1⟩:=h1
 obtain⟨csu,eu,k2⟩:=h2
 obtain⟨pA,pc,sA,sc,eA,ec,rfl,-⟩:=hR
 obtain⟨cA,cc,aA,ac,bA,bc,rfl,-⟩:=hP
 cases ev
 cases eu
 have K1:=hide k1
 have K2:=hide k2
 have K3:=hide h3
 have K4:=hide h4
 have M0:=hide m0
 have M1:=hide m1
 have M2:=hide m2
 clear k1 k2 h3 h4 m0 m1 m2 hM hm hml hd0 hd hV hS hL
 refine calls_of_wp Crz.func38 (c:=?c) ?hb ?_
 case hb =>
  simp only [Sm.countS,Tryz.f38,Option.map_some,Sm.onSnd,Sm.setOp,List.modify_toArray,List.modify_succ_cons,List.modify_zero_cons,Sm.mute]
  rfl
 simp only [Crz.ntmps38,Tryz.ntmps38,List.size_toArray,List.length_cons,List.length_nil,Nat.reduceAdd,Nat.reduceSub,Array.replicate_succ,Array.replicate_zero,List.push_toArray,List.append_toArray,List.nil_append,List.cons_append]
 go_upto_region 0 with fail
 have keepK:=hide (fun W (h:Ext w W)=>(show (fun W=>W.cell? ⟨B1,0,none⟩=some (.string R.name)∧W.cell? ⟨B1,1,none⟩=some (.int .i64 R.width)∧W.cell? ⟨B1,2,none⟩=some (.int .i64 R.height)∧W.cell? ⟨B1,3,none⟩=some (.slice pA R.pieces.length pc)∧W.cell? ⟨B1,4,none⟩=some (.slice sA R.start.length sc)∧W.cell? ⟨B1,5,none⟩=some (.bool R.falls)∧W.cell? ⟨B1,6,none⟩=some (.bool R.keeps)∧W.cell? ⟨B1,7,none⟩=some (.slice eA R.ends.length ec)∧W.cell? ⟨B1,8,none⟩=some (.int .i64 R.blocked)∧W.cell? ⟨B1,9,none⟩=some (.int .i64 R.quiet)∧W.cell? ⟨B1,10,none⟩=some (.int .i64 R.rept)∧W.cell? ⟨B2,0,none⟩=some (.slice cA P.cells.length cc)∧W.cell? ⟨B2,1,none⟩=some (.slice aA P.hand0.length ac)∧W.cell? ⟨B2,2,none⟩=some (.slice bA P.hand1.length bc)∧W.cell? ⟨B2,3,none⟩=some (.int .i64 P.turn)∧W.cell? ⟨B2,4,none⟩=some (.int .i64 P.quiet)∧W.cell? ⟨B3,0,none⟩=some (.slice (some ⟨b,o,none⟩) L.length c3)∧W.cell? ⟨B4,0,none⟩=some (.int .i64 D)∧W.cell? ⟨b,o+k * 3,none⟩=some (.int .i64 m.src)∧W.cell? ⟨b,o+k * 3+1,none⟩=some (.int .i64 m.dst)∧W.cell? ⟨b,o+k * 3+2,none⟩=some (.int .i64 m.piece)∧Ext w W) W from ⟨(K1.out.ext h).cell 0,(K1.out.ext h).cell 1,(K1.out.ext h).cell 2,(K1.out.ext h).cell 3,(K1.out.ext h).cell 4,(K1.out.ext h).cell 5,(K1.out.ext h).cell 6,(K1.out.ext h).cell 7,(K1.out.ext h).cell 8,(K1.out.ext h).cell 9,(K1.out.ext h).cell 10,(K2.out.ext h).cell 0,(K2.out.ext h).cell 1,(K2.out.ext h).cell 2,(K2.out.ext h).cell 3,(K2.out.ext h).cell 4,(K3.out.ext h).cell 0,(K4.out.ext h).cell 0,Ext.cell h M0.out,Ext.cell h M1.out,Ext.cell h M2.out,h⟩))
 have yy:Ext w w.drew:=Below.drew (Below.refl _ _)
 refine region_K (fun W=>W.cell? ⟨B1,0,none⟩=some (.string R.name)∧W.cell? ⟨B1,1,none⟩=some (.int .i64 R.width)∧W.cell? ⟨B1,2,none⟩=some (.int .i64 R.height)∧W.cell? ⟨B1,3,none⟩=some (.slice pA R.pieces.length pc)∧W.cell? ⟨B1,4,none⟩=some (.slice sA R.start.length sc)∧W.cell? ⟨B1,5,none⟩=some (.bool R.falls)∧W.cell? ⟨B1,6,none⟩=some (.bool R.keeps)∧W.cell? ⟨B1,7,none⟩=some (.slice eA R.ends.length ec)∧W.cell? ⟨B1,8,none⟩=some (.int .i64 R.blocked)∧W.cell? ⟨B1,9,none⟩=some (.int .i64 R.quiet)∧W.cell? ⟨B1,10,none⟩=some (.int .i64 R.rept)∧W.cell? ⟨B2,0,none⟩=some (.slice cA P.cells.length cc)∧W.cell? ⟨B2,1,none⟩=some (.slice aA P.hand0.length ac)∧W.cell? ⟨B2,2,none⟩=some (.slice bA P.hand1.length bc)∧W.cell? ⟨B2,3,none⟩=some (.int .i64 P.turn)∧W.cell? ⟨B2,4,none⟩=some (.int .i64 P.quiet)∧W.cell? ⟨B3,0,none⟩=some (.slice (some ⟨b,o,none⟩) L.length c3)∧W.cell? ⟨B4,0,none⟩=some (.int .i64 D)∧W.cell? ⟨b,o+k * 3,none⟩=some (.int .i64 m.src)∧W.cell? ⟨b,o+k * 3+1,none⟩=some (.int .i64 m.dst)∧W.cell? ⟨b,o+k * 3+2,none⟩=some (.int .i64 m.piece)∧Ext w W) (fun _=>True) [] (by kernel_rfl) ?_
 have hT0:=keepK.out _ yy
 refine tl 0 hT0 (fun _=>trivial) (v:=?_) (fun W hW=>?_) ?_
 rotate_left
 ·obtain⟨z0,z1,z2,z3,z4,z5,z6,z7,z8,z9,z10,z11,z12,z13,z14,z15,z16,z17,z18,z19,z20,z21⟩:=hW;go_simp;first|done|with_reducible rfl
 refine tl 1 hT0 (fun _=>trivial) (v:=?_) (fun W hW=>?_) ?_
 rotate_left
 ·obtain⟨z0,z1,z2,z3,z4,z5,z6,z7,z8,z9,z10,z11,z12,z13,z14,z15,z16,z17,z18,z19,z20,z21⟩:=hW;go_simp;first|done|with_reducible rfl
 refine tl 2 hT0 (fun _=>trivial) (v:=?_) (fun W hW=>?_) ?_
 rotate_left
 ·obtain⟨z0,z1,z2,z3,z4,z5,z6,z7,z8,z9,z10,z11,z12,z13,z14,z15,z16,z17,z18,z19,z20,z21⟩:=hW;go_simp;first|done|with_reducible rfl
 refine tl 3 hT0 (fun _=>trivial) (v:=?_) (fun W hW=>?_) ?_
 rotate_left
 ·obtain⟨z0,z1,z2,z3,z4,z5,z6,z7,z8,z9,z10,z11,z12,z13,z14,z15,z16,z17,z18,z19,z20,z21⟩:=hW;go_simp;first|done|with_reducible rfl
 refine tk 4 hT0 (fun _=>trivial) ?_
 refine tk 5 hT0 (fun _=>trivial) ?_
 refine tl 6 hT0 (fun _=>trivial) (v:=?_) (fun W hW=>?_) ?_
 rotate_left
 ·obtain⟨z0,z1,z2,z3,z4,z5,z6,z7,z8,z9,z10,z11,z12,z13,z14,z15,z16,z17,z18,z19,z20,z21⟩:=hW;go_simp;first|done|with_reducible rfl
 refine tl 8 hT0 (fun _=>trivial) (v:=?_) (fun W hW=>?_) ?_
 rotate_left
 ·obtain⟨z0,z1,z2,z3,z4,z5,z6,z7,z8,z9,z10,z11,z12,z13,z14,z15,z16,z17,z18,z19,z20,z21⟩:=hW;go_simp;first|done|with_reducible rfl
 refine tk 9 hT0 (fun _=>trivial) ?_
 refine anyK_on1 7 (by kernel_rfl) ?_
 refine tw 7 (fun K hK=>?_)
 go_simp
 refine(HMK2.out _ yy).mono ?_
 rintro e wk ⟨v6,rfl,hp6,xx⟩
 try go_wp2_with fail
 replace yy:=qT yy xx
 replace hp6:=hp6.at_
 have HP6:=hide hp6
 clear hp6
 have hT1:=keepK.out _ yy
 refine hK.out _ _ hT1 (fun _=>trivial) ?_
 clear hK K
 try simp only [Act.put,List.setIfInBounds_toArray,List.set_cons_zero,List.set_cons_succ]
 refine anyK_on1 10 (by kernel_rfl) ?_
 refine tw 10 (fun K hK=>?_)
 go_simp
 refine(HOF2.out _ _ yy HP6.out).mono ?_
 rintro e wz ⟨rfl,xx⟩
 try go_wp2_with fail
 replace yy:=qT yy xx
 have hT2:=keepK.out _ yy
 refine hK.out _ _ hT2 (fun _=>trivial) ?_
 clear hK K
 try simp only [Act.put,List.setIfInBounds_toArray,List.set_cons_zero,List.set_cons_succ]
 refine tk 11 hT2 (fun _=>trivial) ?_
 refine tk 12 hT2 (fun _=>trivial) ?_
 refine tk 13 hT2 (fun _=>trivial) ?_
 refine tk 14 hT2 (fun _=>trivial) ?_
 refine tk 15 hT2 (fun _=>trivial) ?_
 refine anyK_done (by kernel_rfl) ?_ _
 clear keepK hT0 hT1 hT2
 have yw:=yy
 generalize hwz:wz=w9 at *
 clear hwz
 go_wp2
 refine bodyPost_end (v:=.tuple #[.pointer (some ⟨O,0,none⟩),.int .i64 q]) ?_ rfl ⟨rfl,yw⟩
 rw [results_tmp2 Crz.results38]
 rfl
theorem sum_map_add(l:List Nat)(f g:Nat→Int):(l.map fun k=>f k+g k).sum=(l.map f).sum+(l.map g).sum:=by
 induction l with
 | nil=>rfl
 | cons a l ih=>simp only [List.map_cons,List.sum_cons,ih];omega
theorem sum_zero(l:List Nat):(l.map fun _=>(0:Int)).sum=0:=by
 induction l with
 | nil=>rfl
 | cons a l ih=>rw [List.map_cons,List.sum_cons,ih];rfl
theorem sum_swap(L:List MM)(K:List Nat)(f:MM→Nat→Int):(L.map fun m=>(K.map fun k=>f m k).sum).sum=(K.map fun k=>(L.map fun m=>f m k).sum).sum:=by
 induction L with
 | nil=>simp only [List.map_nil,List.sum_nil];exact(sum_zero K).symm
 | cons a L ih=>simp only [List.map_cons,List.sum_cons,ih];exact(sum_map_add K _ _).symm
theorem tree_sum(R:RM):∀ d P,treeM R d P=((List.range (d+1)).map fun k=>leafM R k P).sum
 | 0,P=>rfl
 | d+1,P=>by
  rw [List.range_succ_eq_map,List.map_cons,List.sum_cons,List.map_map]
  show 1+((movesM R P).map fun m=>treeM R d (makeM R P m)).sum=1+((List.range (d+1)).map fun k=>((movesM R P).map fun m=>leafM R k (makeM R P m)).sum).sum
  rw [← sum_swap]
  congr 3
  funext m
  exact tree_sum R d _
def allS(R:RM)(P:PosM)(k:Nat):Int:=((List.range k).map fun k=>leafM R k P).sum
theorem allS_succ(R:RM)(P:PosM)(k:Nat):allS R P (k+1)=allS R P k+leafM R k P:=by
 unfold allS;rw [List.range_succ,List.map_append,List.sum_append];simp
theorem allS_mono(R:RM)(P:PosM){j k:Nat}(h:j≤k):allS R P j≤allS R P k:=by
 induction h with
 | refl=>exact Int.le_refl _
 | @step m _ ih=>have:=leaf_nonneg R m P;rw [allS_succ];exact Int.le_trans ih (by omega)
theorem tree_mono(R:RM)(P:PosM){j k:Nat}(h:j≤k):treeM R j P≤treeM R k P:=by
 rw [tree_sum,tree_sum];exact allS_mono R P (Nat.succ_le_succ h)
theorem RulesOwn.ext{w W:World}{base:Nat}{v:Value}{R:RM}(h:RulesOwn w base v R)(x:Ext w W):RulesOwn W base v R:=h.tfr (ts:=[]) ⟨by decide,by decide,by decide,by decide⟩ (TFr.of_ext x)
def Fit(ps:List PosM):Prop:=∀ Q∈ps,1≤Q.cells.length∧1≤Q.hand0.length∧1≤Q.hand1.length∧Q.cells.length≤100000∧Q.hand0.length≤100000∧Q.hand1.length≤100000
theorem fit_of{R:RM}{ps:List PosM}(hV:Valid R)(hS:∀ Q∈ps,Sound R Q):Fit ps:=fun Q hQ=>by
 have h:=hS Q hQ
 have har:=area_bd _ _ hV.side
 have ha:=h.area
 have hp0:=hV.pieces0
 have hp6:=hV.pieces6
 have h0:=h.len0
 have h1:=h.len1
 omega
end Go.Proofs.YtdoibgmmijhlfaaGreat
