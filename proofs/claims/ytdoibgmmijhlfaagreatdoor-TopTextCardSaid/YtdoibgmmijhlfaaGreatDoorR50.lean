/- TopTQ LTopText -/
import Derived.Test.YtdoibgmmijhlfaaGreatDoorR49
import Derived.Test.YtdoibgmmijhlfaaGreatDoorR48
import Derived.Test.YtdoibgmmijhlfaaGreatDoorR45
import Derived.Test.YtdoibgmmijhlfaaGreatDoorR40
import Derived.Test.YtdoibgmmijhlfaaGreatDoorR04
import Derived.Test.YtdoibgmmijhlfaaGreatDoorR35
import Derived.Test.YtdoibgmmijhlfaaGreatDoorR01
namespace Go.Proofs.YtdoibgmmijhlfaaGreatDoor
open Go.ChangeShapes Go.WideShapes Go.ChangeAt Go.RowKit Go.Shelf
set_option linter.unusedVariables false
set_option linter.unusedSimpArgs false
def TwoG (w0 W : World) (BG BH : Nat) (R : RulesM) (ps : List PosM) (ms : List MoveM) (l m lh mh : Value) : Prop :=
 GameB w0 W BG R ps ms l m∧GameB w0 W BH R ps ms lh mh∧DistV l lh∧DistV m mh∧BH ≠ BG
section
variable {a b w0 wn wa wb w' W : World} {BG BH : Nat} {R : RulesM} {ps ps' : List PosM} {ms ms' : List MoveM} {l m lh mh l' m' lh' mh' v : Value}
theorem OwnP.low (h : OwnP b W v ps) (x : a.heap.size≤b.heap.size) : OwnP a W v ps:=by
 obtain ⟨A,c,vss,rfl,o,hc⟩:=h
 refine ⟨A,c,vss,rfl,⟨o.1,?_⟩,hc⟩
 rcases o.2 with h0 | ⟨g,cap,cur,e1,hb',rest⟩
 ·exact .inl h0
 ·exact .inr ⟨g,cap,cur,e1,Nat.le_trans x hb',rest⟩
theorem OwnM.low (h : OwnM b W v ms) (x : a.heap.size≤b.heap.size) : OwnM a W v ms:=by
 obtain ⟨A,c,rfl,o⟩:=h
 refine ⟨A,c,rfl,⟨o.1,?_⟩⟩
 rcases o.2 with h0 | ⟨g,cap,cur,e1,hb',rest⟩
 ·exact .inl h0
 ·exact .inr ⟨g,cap,cur,e1,Nat.le_trans x hb',rest⟩
theorem GameB.low (h : GameB b W BG R ps ms l m) (x : Ext a b) : GameB a W BG R ps ms l m:=by
 obtain ⟨pA,pc,sA,sc,eA,ec,base,h1,h2,h3,h4,h5,h6⟩:=h
 exact ⟨pA,pc,sA,sc,eA,ec,base,h1,h2,h3.low x.size,h4.low x.size,Nat.le_trans x.size h5,ext_trans x h6⟩
theorem TwoG.ext (h : TwoG w0 wa BG BH R ps ms l m lh mh) (x : Ext wa W) : TwoG w0 W BG BH R ps ms l m lh mh:=⟨h.1.ext x,h.2.1.ext x,h.2.2⟩
theorem TwoG.old (h : TwoG w0 wa BG BH R ps ms l m lh mh) : Ext w0 wa:=h.1.at_.old
theorem two_new (g : GameAt w0 wn BG R ps ms) (h : GameAt wn W BH R ps ms) : ∃ l m lh mh,TwoG w0 W BG BH R ps ms l m lh mh:=by
 have hx:=h.old
 have gx:=g.old
 obtain ⟨l,m,gb⟩:=g.b
 obtain ⟨lh,mh,hb⟩:=h.b
 have l1:=gb.lt_l
 have m1:=gb.lt_m
 have r : BH ≠ BG∧(∀ b,lh.ownBlock=some b→wn.heap.size≤b)∧(∀ b,mh.ownBlock=some b→wn.heap.size≤b):=by
  obtain ⟨_,_,_,_,_,_,_,g1,_⟩:=gb
  obtain ⟨_,_,_,_,_,_,_,_,_,h3,h4,h5,_⟩:=hb
  have lt : BG < wn.heap.size:=(Array.getElem?_eq_some_iff.1 g1).1
  exact ⟨by omega,fun b e => (h3.bd b e).1,fun b e => (h4.bd b e).1⟩
 exact ⟨l,m,lh,mh,gb.ext hx,hb.low gx,fun b e1 e2 => by have:=r.2.1 b e1; have:=l1 b e2; omega,fun b e1 e2 => by have:=r.2.2 b e1; have:=m1 b e2; omega,r.1⟩
theorem two_left (t : TwoG w0 wa BG BH R ps ms l m lh mh) (g : GameB w0 w' BG R ps' ms' l' m') (hl : Lies l l' wa) (hm : Lies m m' wa) (k : KeepG BG l m wa w') :
  GameB w0 w' BH R ps ms lh mh∧DistV l' lh∧DistV m' mh :=
 ⟨t.2.1.keep t.1 k g.at_.old t.2.2.2.2 t.2.2.1 t.2.2.2.1,hl.dist t.2.2.1 t.2.1.lt_l,hm.dist t.2.2.2.1 t.2.1.lt_m⟩
theorem two_right (g : GameB w0 wb BG R ps' ms' l' m') (h : GameB w0 wb BH R ps ms lh mh) (dl : DistV l' lh) (dm : DistV m' mh) (hne : BH ≠ BG)
  (h2 : GameB w0 W BH R ps' ms' lh' mh') (hl : Lies lh lh' wb) (hm : Lies mh mh' wb) (k : KeepG BH lh mh wb W) : TwoG w0 W BG BH R ps' ms' l' m' lh' mh' :=
 ⟨g.keep h k h2.at_.old (Ne.symm hne) dl.symm dm.symm,h2,(hl.dist dl.symm g.lt_l).symm,(hm.dist dm.symm g.lt_m).symm,hne⟩
end
end Go.Proofs.YtdoibgmmijhlfaaGreatDoor
namespace Go.Proofs.YtdoibgmmijhlfaaGreatDoor
open Go.ChangeShapes Go.WideShapes Go.ChangeAt Go.RowKit Go.Shelf
set_option linter.unusedVariables false
set_option linter.unusedSimpArgs false
theorem libW_sizeT {w : World} (h : LibW w) : 4≤w.heap.size:=by
 have h1:=lt_of_cell (h.tab.cell gPow 0 (by decide))
 obtain ⟨_,h2,_⟩:=h.rng
 replace h2:=lt_of_cell h2
 simp only at h1 h2
 omega
theorem wrapT {k n : Nat} (h : k < n) (hn : n≤20) : wrap64 ((k : Int) + 1)=((k + 1 : Nat) : Int):=by simp only [wrap64]; omega
theorem measT {k n : Nat} (h : k < n) (hn : n≤20) : n - (intOf (.int .i64 (wrap64 ((k : Int) + 1)))).toNat < n - (intOf (.int .i64 (k : Int))).toNat:=by
 rw [wrapT h hn]
 simp only [intOf]
 omega
theorem zero_threeT : rulesE threeR=0:=by decide +kernel
theorem run_minT (W : World) (ats : Array TypeId) (ty : TypeId) (a b : Int) : (Builtin.min_ ats ty #[.int .i64 a,.int .i64 b]).run Tryz.prog W=.ok (.int .i64 (min a b)) W:=by
 have e : min a b=if b < a then b else a:=by split <;> omega
 rw [e]
 simp [Builtin.min_,Builtin.min2]
set_option maxHeartbeats 8000000 in
set_option maxRecDepth 100000 in
theorem topText_walk (R : RulesM) (v : Value) (A : Option Addr) (n c : Nat) (z : List Int) (w : World) (hR : RulesAt w v R) (hr : IsRow w A n c z) (hw : LibW w) :
  Calls Tryz.prog 3 #[v,.slice A n c] w fun e w' => e=.returned (.bool true)∧Ext w w':=by
 have HPR:=Lib.hid (fun W (x : Ext w W) (Q : RulesM) (q : Value) (hq : RulesAt W q Q) => Print_any Q q W hq (hw.ext x))
 have HPA:=Lib.hid (fun W (x : Ext w W) (T : ByteArray) (t : BL) (ht : T=strU t) => Parse_any T t ht W (hw.ext x) (libW_sizeT (hw.ext x)))
 have HRR:=Lib.hid (fun W (x : Ext w W) => hR.ext x)
 have HRW:=hide hr
 obtain ⟨pA,pc,sA,sc,eA,ec,rfl,-⟩:=hR
 obtain ⟨xa,k1⟩:=blks1 w #[.string R.name,.int .i64 R.width,.int .i64 R.height,.slice pA R.pieces.length pc,.slice sA R.start.length sc,.bool R.falls,.bool R.keeps,.slice eA R.ends.length ec,.int .i64 R.blocked,.int .i64 R.quiet,.int .i64 R.rept] 26
 have X1:=Lib.hid xa
 have K1:=Lib.hid k1
 clear hw xa k1 hr
 go_enter Tryz.func3,Tryz.ntmps3
 go_upto_region 1 with fail
 generalize w.alloc _=w1 at *
 generalize w.heap.size=B at *
 go_wp2_with fail
 refine (three_any w1).mono ?_
 rintro e w2 ⟨v3,rfl,h3,x2⟩
 have X2:=Lib.hid (ext_trans X1.out x2)
 have K2:=Lib.hid (K1.out.ext x2)
 have HP3:=Lib.hid (HPR.out w2 X2.out threeR v3 h3)
 clear x2 h3 K1 X1
 go_wp2_with fail
 refine HP3.out.mono ?_
 rintro e w3 ⟨hres,x3⟩
 rcases hres with ⟨-,rfl⟩ | ⟨hno,-⟩
 rotate_left
 ·exact absurd zero_threeT hno
 have X3:=Lib.hid (ext_trans X2.out x3)
 have K3:=Lib.hid (K2.out.ext x3)
 have HPA3:=Lib.hid (HPA.out w3 X3.out (strU (printT threeR)) (printT threeR) rfl)
 clear x3 HP3 K2 X2
 go_wp2_with fail
 refine HPA3.out.mono ?_
 rintro e w4 ⟨hres,x4⟩
 obtain ⟨u4,rfl,h4⟩ : ∃ u,e=.returned (.tuple #[u,.int .i64 0])∧RulesAt w4 u threeR:=by
  rcases hres with ⟨Q0,u0,hq,he,hu⟩ | ⟨hq,-⟩
  ·rw [parse_back zero_threeT] at hq
   injection hq with hq
   subst hq
   exact ⟨u0,he,hu⟩
  ·rw [parse_back zero_threeT] at hq
   cases hq
 have X4:=Lib.hid (ext_trans X3.out x4)
 have K4:=Lib.hid (K3.out.ext x4)
 obtain ⟨a1,a2,a3,a4,a5,a6,rfl,-⟩:=h4
 clear x4 hres HPA3 X3 K3
 go_upto_region 3 with fail
 obtain ⟨x5,k5⟩:=blks1 w4 #[.string threeR.name,.int .i64 threeR.width,.int .i64 threeR.height,.slice a1 threeR.pieces.length a2,.slice a3 threeR.start.length a4,.bool threeR.falls,.bool threeR.keeps,.slice a5 threeR.ends.length a6,.int .i64 threeR.blocked,.int .i64 threeR.quiet,.int .i64 threeR.rept] 26
 generalize w4.alloc _=w5 at *
 obtain ⟨D0,hD0⟩ : ∃ D,D=w4.heap.size:=⟨_,rfl⟩
 rw [← hD0] at k5 ⊢
 have X5:=Lib.hid (ext_trans X4.out x5)
 have K5:=Lib.hid (K4.out.ext x5)
 have KT:=Lib.hid k5
 clear x5 k5 X4 K4 hD0
 obtain ⟨xe,ke⟩:=blks1 w5 #[.int .i64 0,.int .i64 0] 27
 have HF:=hide (fine_okA ke)
 have K6:=Lib.hid (K5.out.ext xe)
 have X6:=hide (ext_trans X5.out xe)
 have KT6:=hide (KT.out.ext xe)
 clear xe ke X5 K5 KT
 go_wp2_with fail
 refine HF.out.mono ?_
 rintro e w7 ⟨rfl,x7⟩
 have q1:=(KT6.out.ext x7).cell
 rw [show threeR.name=⟨#[84,73,67]⟩ from rfl] at q1
 have X7:=hide (ext_trans X6.out x7)
 have K7:=Lib.hid (K6.out.ext x7)
 clear x7 X6 K6 HF KT6
 go_wp2_with fail
 refine (bplayed_any w7).mono ?_
 rintro e w8 ⟨rfl,x8⟩
 have X8:=hide (ext_trans X7.out x8)
 have K8:=hide (K7.out.ext x8)
 have h1:=K8.out.cell
 clear q1 x8 X7 K7
 have HPR8:=hide (HPR.out _ X8.out R _ (HRR.out _ X8.out))
 go_wp2_with fail
 refine HPR8.out.mono ?_
 rintro e w9 ⟨hres,x9⟩
 have X9:=hide (ext_trans X8.out x9)
 have K9:=hide (K8.out.ext x9)
 clear h1 x9 X8 K8 HPR8 HPR
 rcases hres with ⟨hE,rfl⟩ | ⟨hE,rfl⟩
 rotate_left
 ·have t0 : (rulesE R != 0)=true:=by simpa using hE
  generalize rulesE R=E at *
  clear hE
  go_wp2
  go_ret
  exact ⟨by simp,X9.out⟩
 have hV:=valid_of hE
 have HV:=hide hV
 have HPA9:=hide (HPA.out w9 X9.out (strU (printT R)) (printT R) rfl)
 have HE:=hide hE
 clear hE hV
 go_wp2_with fail
 refine HPA9.out.mono ?_
 rintro e wA ⟨hres,xA⟩
 obtain ⟨u9,rfl,h9⟩ : ∃ u,e=.returned (.tuple #[u,.int .i64 0])∧RulesAt wA u R:=by
  rcases hres with ⟨Q0,u0,hq,he,hu⟩ | ⟨hq,-⟩
  ·rw [parse_back HE.out] at hq
   injection hq with hq
   subst hq
   exact ⟨u0,he,hu⟩
  ·rw [parse_back HE.out] at hq
   cases hq
 have XA:=hide (ext_trans X9.out xA)
 have KA:=hide (K9.out.ext xA)
 have H9:=hide h9
 obtain ⟨c1,c2,c3,c4,c5,c6,rfl,-⟩:=h9
 clear xA hres X9 K9 HPA9 HPA HE
 go_upto_region 9 with fail
 obtain ⟨x5,k5⟩:=blks1 wA #[.string R.name,.int .i64 R.width,.int .i64 R.height,.slice c1 R.pieces.length c2,.slice c3 R.start.length c4,.bool R.falls,.bool R.keeps,.slice c5 R.ends.length c6,.int .i64 R.blocked,.int .i64 R.quiet,.int .i64 R.rept] 26
 generalize wA.alloc _=wB at *
 obtain ⟨C,hC⟩ : ∃ C,C=wA.heap.size:=⟨_,rfl⟩
 rw [← hC] at k5 ⊢
 have XB:=hide (ext_trans XA.out x5)
 have KB:=hide (KA.out.ext x5)
 have KC:=hide k5
 have HQ:=hide (H9.out.ext x5)
 have HR:=hide (HRR.out _ XB.out)
 have f1:=KB.out.cell
 clear x5 k5 XA KA H9 hC HRR
 have HN1:=hide (New_yes R _ wB HR.out HV.out)
 go_wp2_with fail
 refine HN1.out.mono ?_
 rintro e wC ⟨BG,rfl,hG⟩
 have xC:=hide hG.old
 have HG:=hide hG
 have f2:=(KC.out.ext xC.out).cell
 have HN2:=hide (New_yes R _ wC (HQ.out.ext xC.out) HV.out)
 clear hG f1 HN1
 go_wp2_with fail
 refine HN2.out.mono ?_
 rintro e wD ⟨BH,rfl,hH⟩
 have HT2:=hide (two_new HG.out hH)
 clear hH f2 HN2 HG xC
 obtain ⟨l0,m0,lh0,mh0,hT⟩:=HT2.out
 have HT:=hide hT
 clear hT HT2
 obtain ⟨xe,ke⟩:=blks1 wD #[.int .i64 0,.int .i64 0,.int .i64 0] 27
 have HF:=hide (fine_ext (fine_any (some ⟨wD.heap.size,0,none⟩) 3 3 [0,0,0] _ rfl (by omega) (blk_ints ke)))
 rw [show allZero [0,0,0]=true from rfl] at HF
 have HTE:=hide (HT.out.ext xe)
 clear xe ke HT
 go_wp2_with fail
 refine HF.out.mono ?_
 rintro e wE ⟨rfl,xE⟩
 have HT:=hide (HTE.out.ext xE)
 clear xE HF HTE
 obtain ⟨q,hq⟩ : ∃ q : Nat,min (n : Int) 20=(q : Int):=⟨min n 20,by omega⟩
 have hmin : ∀ W ats ty,(Builtin.min_ ats ty #[.int .i64 (n : Int),.int .i64 20]).run Tryz.prog W=.ok (.int .i64 (q : Int)) W:=fun W ats ty => by rw [← hq]; exact run_minT W ats ty n 20
 obtain ⟨hz1,hz2,-,-⟩:=HRW.out.ints
 rcases HRW.out with ⟨hA,hn,hc,-⟩ | ⟨x,hA,a1,a2,a3,a4,-⟩
 ·subst hA hn hc
  obtain rfl : q=0:=by omega
  clear hq hz1 hz2 HRW
  go_wp2
  go_loopw [90] (fun i wr => i=.int .i64 0∧wE=wr) (fun _ _ => 0)
  case atStart => exact ⟨rfl,rfl⟩
  case round =>
   obtain ⟨rfl,rfl⟩:=hrel
   go_wp2
   go_ret
   exact ⟨rfl,ext_trans XB.out HT.out.old⟩
 ·by_cases hc0 : c=0
  ·subst hA hc0
   obtain rfl : n=0:=by omega
   obtain rfl : q=0:=by omega
   clear hq hz1 hz2 a1 a2 a3 a4 HRW
   go_wp2
   go_loopw [90] (fun i wr => i=.int .i64 0∧wE=wr) (fun _ _ => 0)
   case atStart => exact ⟨rfl,rfl⟩
   case round =>
    obtain ⟨rfl,rfl⟩:=hrel
    go_wp2
    go_ret
    exact ⟨rfl,ext_trans XB.out HT.out.old⟩
  ·have hx:=spot_none (a4 0 (by omega))
   rw [show x.add 0=x from rfl] at hx
   obtain ⟨b,o,sp⟩:=x
   simp only [Addr.mk.injEq,true_and] at hx
   subst hx hA
   have hcm : c≤9223372036854775807:=by simp only [maxLen] at a2; omega
   have q0i : (0 : Int)≤(q : Int):=by omega
   have qci : (q : Int)≤(c : Int):=by omega
   have qc : q≤c:=by omega
   have HQN : Hid (q≤n∧q≤20):=hide ⟨by omega,by omega⟩
   have HZ:=hide hz1
   have HZL:=hide hz2
   clear hq hz1 hz2 a1 a2 a3 a4 HRW
   go_wp2
   clear hmin q0i qci qc hcm hc0
   go_loopw [90] (fun i wr => ∃ (k : Nat) (ps : List PosM) (ms : List MoveM) (l m lh mh : Value),k≤q∧i=.int .i64 k∧TwoG wB wr BG BH R ps ms l m lh mh∧Hid (Played R ps ms∧ms.length≤k)) (fun i _ => q - (intOf i).toNat)
   case atStart => exact ⟨0,_,_,_,_,_,_,Nat.zero_le _,rfl,HT.out,hide ⟨played_nil R,Nat.le_refl _⟩⟩
   case round =>
    clear HT
    obtain ⟨k,ps,ms,l,m,lh,mh,hk,rfl,hT,hP⟩:=hrel
    have HT:=hide hT
    have XO:=hide hT.old
    by_cases hlt : k < q
    ·obtain ⟨P,hP1,hP2⟩:=hP.out.1.last
     have hl : ps.length≤100000:=by have:=hP.out.1.len; have:=hP.out.1.bd; omega
     have hlm : ms.length≤100000:=by have:=hP.out.1.bd; omega
     have hn4 : ms.length ≠ 400:=by have:=hP.out.2; have:=HQN.out.2; omega
     have hS:=hP.out.1.sound HV.out
     have hSP:=hS P (last_mem hP2)
     have HPG:=hide (fun W (x : Ext wr W) => GPosition_any (hT.1.at_.ext x) (by omega) (fit_of HV.out hS) hP2)
     have HPH:=hide (fun W (x : Ext wr W) => GPosition_any (hT.2.1.at_.ext x) (by omega) (fit_of HV.out hS) hP2)
     have HRG:=hide (fun W (x : Ext wr W) => GResult_any (hT.1.at_.ext x) (by omega) HV.out hS hP2)
     have HRH:=hide (fun W (x : Ext wr W) => GResult_any (hT.2.1.at_.ext x) (by omega) HV.out hS hP2)
     have KBr:=hide (KB.out.ext XO.out)
     have KCr:=hide (KC.out.ext XO.out)
     have HALG:=hide (fun (u : Value) W (x : Ext wr W) (h : PosAt W u P) => All_yes R P _ u W (HR.out.ext (ext_trans XO.out x)) h HV.out hSP)
     have HALH:=hide (fun (u : Value) W (x : Ext wr W) (h : PosAt W u P) => All_yes R P _ u W (HQ.out.ext (ext_trans XO.out x)) h HV.out hSP)
     have HPYG:=hide (fun (mv : MoveM) (hr : resultG R ps P=0) (hm : mv ∈ listM R P) W (x : Ext wr W) => Play_keep (hT.1.ext x) hl hlm HV.out hS hP2 mv hr hm hn4)
     have HPYH:=hide (fun (mv : MoveM) (hr : resultG R ps P=0) (hm : mv ∈ listM R P) W (h : GameB wB W BH R ps ms lh mh) => Play_keep h hl hlm HV.out hS hP2 mv hr hm hn4)
     have HSN:=hide (fun (mv : MoveM) (hr : resultG R ps P=0) (hm : mv ∈ listM R P) => hP.out.1.snoc hP2 (play4 hr hm hn4))
     have HLL:=hide (listM_len HV.out hSP)
     obtain ⟨-,-,-,f3,f4,f5⟩:=fit_of HV.out hS P (last_mem hP2)
     have HBS:=hide (fun (u1 u2 : Value) W (h1 : PosAt W u1 P) (h2 : PosAt W u2 P) => bsame_yes P u1 u2 W h1 h2 f3 f4 f5)
     obtain ⟨b',o',eA,hcell⟩:=(HZ.out.ext (ext_trans XB.out XO.out)) k (by rw [HZL.out]; have:=HQN.out.1; omega)
     simp only [Option.some.injEq,Addr.mk.injEq,and_true] at eA
     obtain ⟨rfl,rfl⟩:=eA
     have j0 : (0 : Int)≤(k : Int):=by omega
     have j1 : (k : Int) < (q : Int):=by omega
     have HKQ:=hide hlt
     have HML:=hide hP.out.2
     generalize (z.take n).getD k 0=pick at *
     clear hT hP hP1 hP2 hl hlm hn4 hS hSP f3 f4 f5 hk hlt
     generalize makeM R P=MK at *
     generalize listM R P=L at *
     generalize resultG R ps P=G at *
     go_upto_region 16 with fail
     clear hcell j0 j1
     have keepK:=hide (fun W (h : Ext wr W) => (show (fun W => W.cell? ⟨B,0,none⟩=some (.string R.name)∧W.cell? ⟨B,1,none⟩=some (.int .i64 R.width)∧W.cell? ⟨B,2,none⟩=some (.int .i64 R.height)∧W.cell? ⟨B,3,none⟩=some (.slice pA R.pieces.length pc)∧W.cell? ⟨B,4,none⟩=some (.slice sA R.start.length sc)∧W.cell? ⟨B,5,none⟩=some (.bool R.falls)∧W.cell? ⟨B,6,none⟩=some (.bool R.keeps)∧W.cell? ⟨B,7,none⟩=some (.slice eA R.ends.length ec)∧W.cell? ⟨B,8,none⟩=some (.int .i64 R.blocked)∧W.cell? ⟨B,9,none⟩=some (.int .i64 R.quiet)∧W.cell? ⟨B,10,none⟩=some (.int .i64 R.rept)∧Ext wr W) W from ⟨(KBr.out.ext h).cell 0,(KBr.out.ext h).cell 1,(KBr.out.ext h).cell 2,(KBr.out.ext h).cell 3,(KBr.out.ext h).cell 4,(KBr.out.ext h).cell 5,(KBr.out.ext h).cell 6,(KBr.out.ext h).cell 7,(KBr.out.ext h).cell 8,(KBr.out.ext h).cell 9,(KBr.out.ext h).cell 10,h⟩))
     have yy : Ext wr wr.drew:=Below.drew (Below.refl _ _)
     refine region_K (fun W => W.cell? ⟨B,0,none⟩=some (.string R.name)∧W.cell? ⟨B,1,none⟩=some (.int .i64 R.width)∧W.cell? ⟨B,2,none⟩=some (.int .i64 R.height)∧W.cell? ⟨B,3,none⟩=some (.slice pA R.pieces.length pc)∧W.cell? ⟨B,4,none⟩=some (.slice sA R.start.length sc)∧W.cell? ⟨B,5,none⟩=some (.bool R.falls)∧W.cell? ⟨B,6,none⟩=some (.bool R.keeps)∧W.cell? ⟨B,7,none⟩=some (.slice eA R.ends.length ec)∧W.cell? ⟨B,8,none⟩=some (.int .i64 R.blocked)∧W.cell? ⟨B,9,none⟩=some (.int .i64 R.quiet)∧W.cell? ⟨B,10,none⟩=some (.int .i64 R.rept)∧Ext wr W) (fun _ => True) [] (by kernel_rfl) ?_
     have hT0:=keepK.out _ yy
     refine tl 0 hT0 (fun _=>trivial) (v:=?_) (fun W hW=>?_) ?_
     rotate_left
     ·obtain ⟨z0,z1,z2,z3,z4,z5,z6,z7,z8,z9,z10,z11⟩:=hW;go_simp;first|done|with_reducible rfl
     refine tk 1 hT0 (fun _=>trivial) ?_
     refine anyK_on1 2 (by kernel_rfl) ?_
     refine tw 2 (fun K hK=>?_)
     go_simp
     refine (HPG.out _ yy).mono ?_
     rintro e wv ⟨v7,rfl,p7,xx⟩
     try go_wp2_with fail
     replace yy:=ext_trans yy xx
     have HP7:=hide p7
     clear p7
     have hT1:=keepK.out _ yy
     refine hK.out _ _ hT1 (fun _ => trivial) ?_
     clear hK K
     try simp only [Act.put,List.setIfInBounds_toArray,List.set_cons_zero,List.set_cons_succ]
     refine anyK_on1 3 (by kernel_rfl) ?_
     refine tw 3 (fun K hK=>?_)
     go_simp
     refine (HALG.out _ _ yy HP7.out.at_).mono ?_
     rintro e ww ⟨v8,rfl,own8,xx⟩
     try go_wp2_with fail
     replace yy:=ext_trans yy xx
     replace own8:=own8.at_
     have HL8:=hide own8
     clear own8
     have hT2:=keepK.out _ yy
     refine hK.out _ _ hT2 (fun _ => trivial) ?_
     clear hK K
     try simp only [Act.put,List.setIfInBounds_toArray,List.set_cons_zero,List.set_cons_succ]
     refine tk 4 hT2 (fun _=>trivial) ?_
     refine tk 5 hT2 (fun _=>trivial) ?_
     refine tk 6 hT2 (fun _=>trivial) ?_
     refine tk 7 hT2 (fun _=>trivial) ?_
     refine tk 8 hT2 (fun _=>trivial) ?_
     refine anyK_done (by kernel_rfl) ?_ _
     clear keepK hT0 hT1 hT2
     have X9:=hide yy
     have KCw:=hide (KCr.out.ext yy)
     clear yy xx HP7
     go_upto_region 17 with fail
     have keepK:=hide (fun W (h : Ext ww W) => (show (fun W => W.cell? ⟨C,0,none⟩=some (.string R.name)∧W.cell? ⟨C,1,none⟩=some (.int .i64 R.width)∧W.cell? ⟨C,2,none⟩=some (.int .i64 R.height)∧W.cell? ⟨C,3,none⟩=some (.slice c1 R.pieces.length c2)∧W.cell? ⟨C,4,none⟩=some (.slice c3 R.start.length c4)∧W.cell? ⟨C,5,none⟩=some (.bool R.falls)∧W.cell? ⟨C,6,none⟩=some (.bool R.keeps)∧W.cell? ⟨C,7,none⟩=some (.slice c5 R.ends.length c6)∧W.cell? ⟨C,8,none⟩=some (.int .i64 R.blocked)∧W.cell? ⟨C,9,none⟩=some (.int .i64 R.quiet)∧W.cell? ⟨C,10,none⟩=some (.int .i64 R.rept)∧Ext ww W) W from ⟨(KCw.out.ext h).cell 0,(KCw.out.ext h).cell 1,(KCw.out.ext h).cell 2,(KCw.out.ext h).cell 3,(KCw.out.ext h).cell 4,(KCw.out.ext h).cell 5,(KCw.out.ext h).cell 6,(KCw.out.ext h).cell 7,(KCw.out.ext h).cell 8,(KCw.out.ext h).cell 9,(KCw.out.ext h).cell 10,h⟩))
     have yy : Ext ww ww.drew:=Below.drew (Below.refl _ _)
     refine region_K (fun W => W.cell? ⟨C,0,none⟩=some (.string R.name)∧W.cell? ⟨C,1,none⟩=some (.int .i64 R.width)∧W.cell? ⟨C,2,none⟩=some (.int .i64 R.height)∧W.cell? ⟨C,3,none⟩=some (.slice c1 R.pieces.length c2)∧W.cell? ⟨C,4,none⟩=some (.slice c3 R.start.length c4)∧W.cell? ⟨C,5,none⟩=some (.bool R.falls)∧W.cell? ⟨C,6,none⟩=some (.bool R.keeps)∧W.cell? ⟨C,7,none⟩=some (.slice c5 R.ends.length c6)∧W.cell? ⟨C,8,none⟩=some (.int .i64 R.blocked)∧W.cell? ⟨C,9,none⟩=some (.int .i64 R.quiet)∧W.cell? ⟨C,10,none⟩=some (.int .i64 R.rept)∧Ext ww W) (fun _ => True) [] (by kernel_rfl) ?_
     have hT0:=keepK.out _ yy
     refine tl 0 hT0 (fun _=>trivial) (v:=?_) (fun W hW=>?_) ?_
     rotate_left
     ·obtain ⟨z0,z1,z2,z3,z4,z5,z6,z7,z8,z9,z10,z11⟩:=hW;go_simp;first|done|with_reducible rfl
     refine tk 1 hT0 (fun _=>trivial) ?_
     refine anyK_on1 2 (by kernel_rfl) ?_
     refine tw 2 (fun K hK=>?_)
     go_simp
     refine (HPH.out _ (ext_trans X9.out yy)).mono ?_
     rintro e wx ⟨v17,rfl,p17,xx⟩
     try go_wp2_with fail
     replace yy:=ext_trans yy xx
     have HP17:=hide p17
     clear p17
     have hT1:=keepK.out _ yy
     refine hK.out _ _ hT1 (fun _ => trivial) ?_
     clear hK K
     try simp only [Act.put,List.setIfInBounds_toArray,List.set_cons_zero,List.set_cons_succ]
     refine anyK_on1 3 (by kernel_rfl) ?_
     refine tw 3 (fun K hK=>?_)
     go_simp
     refine (HALH.out _ _ (ext_trans X9.out yy) HP17.out.at_).mono ?_
     rintro e wz ⟨v18,rfl,own18,xx⟩
     try go_wp2_with fail
     replace yy:=ext_trans yy xx
     replace own18:=own18.at_
     have HL18:=hide own18
     clear own18
     have hT2:=keepK.out _ yy
     refine hK.out _ _ hT2 (fun _ => trivial) ?_
     clear hK K
     try simp only [Act.put,List.setIfInBounds_toArray,List.set_cons_zero,List.set_cons_succ]
     refine tk 4 hT2 (fun _=>trivial) ?_
     refine tk 5 hT2 (fun _=>trivial) ?_
     refine tk 6 hT2 (fun _=>trivial) ?_
     refine tk 7 hT2 (fun _=>trivial) ?_
     refine tk 8 hT2 (fun _=>trivial) ?_
     refine anyK_done (by kernel_rfl) ?_ _
     clear keepK hT0 hT1 hT2
     have X10:=hide (ext_trans X9.out yy)
     have HL9:=hide (MovesAt.ext HL8.out yy)
     clear yy xx HP17 X9 HL8 KCw KCr KBr HALG HALH
     have HLx:=HL9.out
     obtain ⟨A8,c8,rfl,-⟩:=HLx
     have HLy:=HL18.out
     obtain ⟨A18,c18,rfl,-⟩:=HLy
     obtain ⟨xe,ke⟩:=blks1 wz #[.int .i64 0,.int .i64 0] 27
     have HF:=hide (fine_okA ke)
     have X11:=hide (ext_trans X10.out xe)
     have HLa:=hide (MovesAt.ext HL9.out xe)
     have HLb:=hide (MovesAt.ext HL18.out xe)
     clear xe ke X10 HL9 HL18
     go_wp2_with fail
     refine HF.out.mono ?_
     rintro e w20 ⟨rfl,x20⟩
     have X20:=hide (ext_trans X11.out x20)
     have HL20:=hide (MovesAt.ext HLa.out x20)
     have HEQ:=hide (EqMoves_yes L _ _ w20 HL20.out (MovesAt.ext HLb.out x20) HLL.out)
     clear x20 X11 HLa HLb HF
     go_wp2_with fail
     refine HEQ.out.mono ?_
     rintro e w21 ⟨rfl,x21⟩
     have X21:=hide (ext_trans X20.out x21)
     have HL21:=hide (MovesAt.ext HL20.out x21)
     clear x21 X20 HL20 HEQ
     go_wp2_with fail
     refine (HRG.out _ X21.out).mono ?_
     rintro e w22 ⟨rfl,x22⟩
     have X22:=hide (ext_trans X21.out x22)
     have HL22:=hide (MovesAt.ext HL21.out x22)
     clear x22 X21 HL21
     go_wp2_with fail
     refine (HRH.out _ X22.out).mono ?_
     rintro e w23 ⟨rfl,x23⟩
     have X23:=hide (ext_trans X22.out x23)
     have HL23:=hide (MovesAt.ext HL22.out x23)
     clear x23 X22 HL22
     go_wp2_with fail
     refine (HPG.out _ X23.out).mono ?_
     rintro e w24 ⟨v24,rfl,p24,x24⟩
     have X24:=hide (ext_trans X23.out x24)
     have HL24:=hide (MovesAt.ext HL23.out x24)
     have HP24:=hide p24
     clear p24 x24 X23 HL23
     go_wp2_with fail
     refine (HPH.out _ X24.out).mono ?_
     rintro e w25 ⟨v25,rfl,p25,x25⟩
     have X25:=hide (ext_trans X24.out x25)
     have HL25:=hide (MovesAt.ext HL24.out x25)
     have HBS2:=hide (HBS.out _ _ w25 (HP24.out.ext x25).at_ p25.at_)
     clear p25 x25 X24 HL24 HP24 HBS
     go_wp2_with fail
     refine HBS2.out.mono ?_
     rintro e w26 ⟨rfl,x26⟩
     have X26:=hide (ext_trans X25.out x26)
     have HL26:=hide (MovesAt.ext HL25.out x26)
     clear x26 X25 HL25 HBS2 HPG HPH HRH
     by_cases hL : L=[]
     ·have tl : ((L.length : Int) == 0)=true:=by simp [hL]
      have XF:=hide (ext_trans XB.out (ext_trans XO.out X26.out))
      clear hL
      go_wp2
      go_ret
      exact ⟨rfl,XF.out⟩
     ·have tl : ((L.length : Int) == 0)=false:=by simpa using hL
      have hpos : 1≤L.length:=by
       rcases L with _ | ⟨x,l⟩
       ·exact absurd rfl hL
       ·simp
      have HPOS:=hide hpos
      go_wp2_with fail
      refine (HRG.out _ X26.out).mono ?_
      rintro e w27 ⟨rfl,x27⟩
      have X27:=hide (ext_trans X26.out x27)
      have HL27:=hide (MovesAt.ext HL26.out x27)
      clear x27 X26 HL26 HRG
      by_cases hg : G=0
      ·subst hg
       obtain ⟨q1,q2,q3,q4⟩:=some_idx (n:=pick) (l:=(L.length : Int)) (by omega)
       obtain ⟨kk,hkk⟩:=Int.eq_ofNat_of_zero_le q3
       have hkk' : (pick.tmod (L.length : Int) + (L.length : Int)).tmod (L.length : Int)=(kk : Int):=hkk
       have hkl : kk < L.length:=by omega
       obtain ⟨mv,hmv⟩ : ∃ mv,L[kk]? = some mv:=⟨L[kk],List.getElem?_eq_getElem _⟩
       obtain ⟨A27,c27,e27,hc27⟩:=HL27.out
       simp only [Value.slice.injEq,true_and] at e27
       obtain ⟨rfl,rfl⟩:=e27
       obtain ⟨bm,om,rfl,d0,d1,d2⟩:=moves_get hc27 hmv
       have HM:=hide (List.mem_of_getElem? hmv)
       have HI : (wrap64 (pick.tmod (L.length : Int) + (L.length : Int))).tmod (L.length : Int)=(kk : Int):=by
        have hw : wrap64 (pick.tmod (L.length : Int) + (L.length : Int))=pick.tmod (L.length : Int) + (L.length : Int):=by have:=HLL.out; unfold wrap64; omega
        rw [hw]
        exact hkk'
       have i0 : (0 : Int)≤(kk : Int):=by omega
       have i1 : (kk : Int) < (L.length : Int):=by omega
       clear hmv hc27 hkk hkk' q1 q2 q3 q4 hkl HL27
       obtain ⟨xm,km⟩:=blks1 w27 #[.int .i64 mv.src,.int .i64 mv.dst,.int .i64 mv.piece] 47
       have XM:=hide (ext_trans X27.out xm)
       have KM:=hide km
       have HTM:=hide (HT.out.ext XM.out)
       have HFG : Hid (FarG w27.heap.size BG l m):=hide (by
        have t27:=HT.out.ext X27.out
        refine ⟨?_,fun e => absurd (t27.1.lt_l _ e) (Nat.lt_irrefl _),fun e => absurd (t27.1.lt_m _ e) (Nat.lt_irrefl _)⟩
        obtain ⟨⟨_,_,_,_,_,_,_,g1,_⟩,-⟩:=t27
        have lt : BG < w27.heap.size:=(Array.getElem?_eq_some_iff.1 g1).1
        omega)
       have z0:=xm.cell d0
       have z1:=xm.cell d1
       have z2:=xm.cell d2
       clear xm km X27 hL
       go_upto_region 23 with fail
       generalize w27.alloc _=w28 at *
       obtain ⟨BM,hBM⟩ : ∃ BM,BM=w27.heap.size:=⟨_,rfl⟩
       rw [← hBM] at KM HFG ⊢
       clear hBM z0 z1 z2 d0 d1 d2 HI i0 i1
       have f0:=KM.out.cell
       have HPL1:=hide (HPYG.out mv (by first | rfl | trivial) HM.out _ XM.out)
       go_wp2_with fail
       refine HPL1.out.mono ?_
       rintro e w29 ⟨rfl,l',m',hG',hl',hm',hk'⟩
       have HTL:=hide (two_left HTM.out hG' hl' hm' hk')
       have HGN:=hide hG'
       have f1:=(hk' _ _ _ KM.out HFG.out).cell
       have HPL2:=hide (HPYH.out mv (by first | rfl | trivial) HM.out _ HTL.out.1)
       clear f0 hG' hl' hm' hk' HPL1 KM HFG HTM XM
       go_wp2_with fail
       refine HPL2.out.mono ?_
       rintro e w30 ⟨rfl,lh',mh',hH',hlh',hmh',hkh'⟩
       have HTW:=hide (two_right HGN.out HTL.out.1 HTL.out.2.1 HTL.out.2.2 HT.out.2.2.2.2 hH' hlh' hmh' hkh')
       have HSN2:=hide (HSN.out mv (by first | rfl | trivial) HM.out)
       clear f1 hH' hlh' hmh' hkh' HPL2 HGN HTL HT
       go_wp2
       go_roundw
       case rel => exact ⟨k + 1,_,_,_,_,_,_,HKQ.out,by rw [wrapT HKQ.out HQN.out.2],HTW.out,hide ⟨HSN2.out,by rw [List.length_append]; exact Nat.add_le_add HML.out (Nat.le_refl 1)⟩⟩
       case measure => exact measT HKQ.out HQN.out.2
      ·have tg : (G != 0)=true:=by simpa using hg
       have XF:=hide (ext_trans XB.out (ext_trans XO.out X27.out))
       clear hg
       go_wp2
       go_ret
       exact ⟨rfl,XF.out⟩
    ·obtain rfl : q=k:=by omega
     clear hT hP hk hlt
     go_wp2
     go_ret
     exact ⟨rfl,ext_trans XB.out XO.out⟩
end Go.Proofs.YtdoibgmmijhlfaaGreatDoor
