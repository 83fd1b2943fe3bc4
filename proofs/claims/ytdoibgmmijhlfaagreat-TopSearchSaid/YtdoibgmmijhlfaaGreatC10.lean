/- PlaceS4 MovesW1 CopyAny Typed -/
import Derived.Test.YtdoibgmmijhlfaaGreatC05
import Derived.Test.YtdoibgmmijhlfaaGreatC09
import Derived.WalkSmall
import Derived.Deep.AppendLies
namespace Go.Proofs.YtdoibgmmijhlfaaGreat
open Go.ChangeShapes Go.WideShapes Go.ChangeAt Go.RowKit Go.Shelf
set_option linter.unusedVariables false
attribute [local go_sem] undef
attribute [local go_sem ↓] Go.wp_at_zero Go.wp_at_succ
set_option maxHeartbeats 4000000 in
set_option maxRecDepth 100000 in
theorem sound_low0(R:RM)(P:PosM)(v u:Value)(w:World)(hR:RA w v R)(hP:PA w u P)(hs:okSide R.width R.height)(h6:R.pieces.length≤6)(h:formB R P=true)(hc:(P.cells.all fun c=>inB c 0 (2 * (R.pieces.length:Int)))=true)(hk:((P.hand0++P.hand1).all fun c=>inB c 0 1000)=true)(hT:P.turn=0)(hq:P.quiet<0) :
  Calls Crz.prog 79 #[v,u] w (ECode 4 w):=by
 obtain⟨pA,pc,sA,sc,eA,ec,rfl,-⟩:=hR
 obtain⟨cA,cc,aA,ac,bA,bc,rfl,hcA,haA,hbA,-⟩:=hP
 have har:=area_bd _ _ hs
 have h':(P.cells.length:Int)=R.width * R.height∧P.hand0.length=R.pieces.length∧P.hand1.length=R.pieces.length:=by
  unfold formB at h
  simpa using h
 obtain⟨h1,h2,h3⟩:=h'
 have t1:(P.cells.length:Int)≤R.width * R.height:=by omega
 have t1':R.width * R.height≤P.cells.length:=by omega
 have hc64:P.cells.length≤64:=by omega
 have ha6:P.hand0.length≤6:=by omega
 have hb6:P.hand1.length≤6:=by omega
 obtain⟨ha1,ha2⟩:=har
 clear h h1
 have HC:=hide (fun b1 b2 W (hW:Ext w W) k1 k2=>hasOut cA P.cells.length cc P.cells 0 (2 * (R.pieces.length:Int)) b1 b2 W rfl (by omega) (hcA.ext hW) k1 k2)
 have HH:=hide (fun A n c b1 b2 W (hn:(P.hand0++P.hand1).length=n) (hz:IntsAt W A (P.hand0++P.hand1)) k1 k2=>hasOut A n c (P.hand0++P.hand1) 0 1000 b1 b2 W hn (by rw [List.length_append] at hn;omega) hz k1 k2)
 have HCC:=hide (fun L W h5 h6 h7 (hW:Ext w W)=>Concat_two L aA bA R.pieces.length R.pieces.length ac bc 2 P.hand0 P.hand1 W h2 h3 (by omega) (by omega) h5 h6 h7 (haA.ext hW) (hbA.ext hW))
 have HLEN:Hid ((P.hand0++P.hand1).length=R.pieces.length+R.pieces.length):=hide (by rw [List.length_append,h2,h3])
 rw [h2,h3]
 clear h2 h3 ha6 hb6 hcA haA hbA
 rw [hc] at HC
 rw [hk] at HH
 clear hc hk
 generalize P.turn=tn at *
 subst hT
 go_enter Crz.func79,Tryz.ntmps79
 go_wp2_with fail
 obtain⟨x1,-,kp,k3⟩:=blks3 w #[.string R.name,.int .i64 R.width,.int .i64 R.height,.slice pA R.pieces.length pc,.slice sA R.start.length sc,.bool R.falls,.bool R.keeps,.slice eA R.ends.length ec,.int .i64 R.blocked,.int .i64 R.quiet,.int .i64 R.rept] 26 #[.slice cA P.cells.length cc,.slice aA R.pieces.length ac,.slice bA R.pieces.length bc,.int .i64 0,.int .i64 P.quiet] 29 #[.slice aA R.pieces.length ac,.slice bA R.pieces.length bc] 23
 refine(HCC.out ⟨w.heap.size+1+1,0,none⟩ _ rfl (k3.cell 0) (k3.cell 1) x1).mono ?_
 rintro e w2 ⟨A2,c2,rfl,hi2,x2⟩
 have x2':Ext w w2.drew:=Below.drew (qT x1 x2)
 have kp2:=(kp.ext x2).drew
 clear HCC x1 x2 kp k3
 generalize w.heap.size+1+1=B3 at *
 generalize w.heap.size+1=B2 at *
 have HI2:Hid (IntsAt w2.drew A2 (P.hand0++P.hand1)):=hide hi2
 clear hi2
 have hwr:IntKind.i64.wrap (2 * (R.pieces.length:Int))=2 * (R.pieces.length:Int):=by rw [IntKind.wrap_i64];omega
 have f0:w2.drew.cell? ⟨B2,0,none⟩=some (.slice cA P.cells.length cc):=kp2.cell 0
 have f3:w2.drew.cell? ⟨B2,3,none⟩=some (.int .i64 0):=kp2.cell 3
 have f4:w2.drew.cell? ⟨B2,4,none⟩=some (.int .i64 P.quiet):=kp2.cell 4
 clear kp2
 go_wp2
 first
 | go_region_with (first
   | (go_at_call 116;refine(out_any _ _ _).mono ?_;rintro e w5 ⟨d1,d2,rfl,r1,r2,x5⟩;have h3:=Ext.cell x5 (Ext.cell x4 g3);have h4:=Ext.cell x5 (Ext.cell x4 g4);have y5:=qT y4 x5;have z5:=qT x3 (qT x4 x5))
   | (go_at_call 116;refine(out_any _ _ _).mono ?_;rintro e w3 ⟨b1,b2,rfl,q1,q2,x3⟩;have g3:=Ext.cell x3 f3;have g4:=Ext.cell x3 f4;have g0:=Ext.cell x3 f0;have y3:=qT x2' x3)
   | (go_at_call 85;refine(HH.out A2 _ c2 d1 d2 _ HLEN.out (HI2.out.ext z5) r1 r2).mono ?_;rintro e w6 ⟨rfl,x6⟩;have i3:=Ext.cell x6 h3;have i4:=Ext.cell x6 h4;have y6:=qT y5 x6)
   | (go_at_call 85;refine(HC.out b1 b2 _ y3 q1 q2).mono ?_;rintro e w4 ⟨rfl,x4⟩;have y4:=qT y3 x4))
 | fail
 all_goals go_wp2_with fail
 all_goals go_ret
 all_goals exact⟨rfl,by assumption⟩
end Go.Proofs.YtdoibgmmijhlfaaGreat
namespace Go.Proofs.YtdoibgmmijhlfaaGreat
open Go.ChangeShapes Go.WideShapes Go.ChangeAt Go.RowKit
set_option linter.unusedVariables false
def fillA(cs:List Int)(W x:Nat):Bool:=fillB cs W x x
theorem fillB_fuel(cs:List Int)(W:Nat)(hW:1≤W):∀ n x,x≤n→fillB cs W n x=fillB cs W x x
 | 0,x,h=>by
  obtain rfl:x=0:=by omega
  rfl
 | n+1,0,_=>by
  show (if 0<W then true else _)=true
  rw [if_pos (by omega)]
 | n+1,x+1,h=>by
  show (if x+1<W then true else if cs.getD (x+1-W) 0=0 then false else fillB cs W n (x+1-W))=(if x+1<W then true else if cs.getD (x+1-W) 0=0 then false else fillB cs W x (x+1-W))
  rw [fillB_fuel cs W hW n (x+1-W) (by omega),fillB_fuel cs W hW x (x+1-W) (by omega)]
theorem fillA_low{cs:List Int}{W x:Nat}(h:x<W):fillA cs W x=true:=by
 unfold fillA
 cases x with
 | zero=>rfl
 | succ x =>
  show (if x+1<W then true else _)=true
  rw [if_pos h]
theorem fillA_step{cs:List Int}{W x:Nat}(hW:1≤W)(h:W≤x):fillA cs W x=if cs.getD (x-W) 0=0 then false else fillA cs W (x-W):=by
 unfold fillA
 obtain⟨y,rfl⟩:∃ y,x=y+1:=⟨x-1,by omega⟩
 show (if y+1<W then true else if cs.getD (y+1-W) 0=0 then false else fillB cs W y (y+1-W))=_
 rw [if_neg (by omega),fillB_fuel cs W hW y (y+1-W) (by omega)]
set_option maxHeartbeats 1000000 in
theorem filled_any(R:RM)(P:PosM)(v u:Value)(s W:Nat)(w:World)(hR:RA w v R)(hP:PA w u P)(hW:R.width=W)(h1:1≤W)(h8:W≤8)(hs:s<P.cells.length)(h64:P.cells.length≤64) :
  Calls Crz.prog 93 #[v,u,.int .i64 (s:Int)] w fun e w'=>e=.returned (.bool (fillA P.cells W s))∧Ext w w':=by
 obtain⟨pA,pc,sA,sc,eA,ec,rfl,-⟩:=hR
 obtain⟨cA,cc,aA,ac,bA,bc,rfl,hc,-⟩:=hP
 rw [hW]
 clear hW
 obtain⟨x1,k1,k2⟩:=blks2 w #[.string R.name,.int .i64 (W:Int),.int .i64 R.height,.slice pA R.pieces.length pc,.slice sA R.start.length sc,.bool R.falls,.bool R.keeps,.slice eA R.ends.length ec,.int .i64 R.blocked,.int .i64 R.quiet,.int .i64 R.rept] 26 #[.slice cA P.cells.length cc,.slice aA P.hand0.length ac,.slice bA P.hand1.length bc,.int .i64 P.turn,.int .i64 P.quiet] 29
 have hc':=hide (hc.ext x1)
 have X:=hide x1
 clear hc x1
 go_enter Crz.func93,Tryz.ntmps93
 go_wp2
 generalize ((w.alloc _).alloc _)=w2 at *
 generalize w.heap.size+1=B2 at *
 generalize w.heap.size=B1 at *
 have f1:w2.cell? ⟨B1,1,none⟩=some (.int .i64 (W:Int)):=k1.cell 1
 have f2:w2.cell? ⟨B2,0,none⟩=some (.slice cA P.cells.length cc):=k2.cell 0
 clear k1 k2
 go_loop [2] (fun z=>∃ x:Nat,x≤s∧z=.int .i64 ((x:Int)-W)∧Hid (fillA P.cells W x=fillA P.cells W s)) (fun z=>(intOf z+W).toNat)
 case atStart=>exact⟨s,Nat.le_refl _,rfl,hide rfl⟩
 case round =>
  obtain⟨x,hx,rfl,hT⟩:=hrel
  by_cases hlt:x<W
  ·have HF:=hide (hT.out.symm.trans (fillA_low hlt))
   clear hT
   have hn:¬ (0:Int)≤(x:Int)-W:=by omega
   go_wp2
   go_ret
   exact⟨by rw [HF.out];rfl,X.out⟩
  ·obtain⟨y,rfl⟩:∃ y,x=y+W:=⟨x-W,by omega⟩
   have HF:=hide (hT.out.symm.trans (fillA_step h1 (by omega)))
   rw [Nat.add_sub_cancel] at HF
   obtain⟨b,o,rfl,hcell⟩:=hc'.out y (by omega)
   have e:((y+W:Nat):Int)-W=y:=by omega
   rw [e]
   clear hT e
   generalize hz:P.cells.getD y 0=z at *
   by_cases h0:z=0
   ·subst h0
    have HF2:Hid (fillA P.cells W s=false):=hide (by rw [HF.out];rfl)
    clear HF hz
    go_wp2
    go_ret
    exact⟨by rw [HF2.out];rfl,X.out⟩
   ·have h0':(z == 0)=false:=by simpa using h0
    have HF2:Hid (fillA P.cells W y=fillA P.cells W s):=hide (by rw [HF.out,if_neg h0])
    clear HF hz h0
    go_wp2
    go_round
    case rel=>exact⟨y,by omega,rfl,HF2⟩
    case measure=>simp [intOf];omega
theorem IsLast_any(R:RM)(v:Value)(p s:Int)(w:World)(hR:RA w v R)(h1:1≤R.width)(h8:R.width≤8)(g1:1≤R.height)(g8:R.height≤8)(hp:p=0∨p=1)(hs:0≤s)(hs64:s≤64) :
  Calls Crz.prog 60 #[v,.int .i64 p,.int .i64 s] w fun e w'=>e=.returned (.bool (lastM R p s))∧Ext w w':=by
 obtain⟨pA,pc,sA,sc,eA,ec,rfl,-⟩:=hR
 unfold lastM
 have hq0:0≤s / R.width:=Int.ediv_nonneg hs (by omega)
 have hq1:s / R.width≤64:=Int.le_trans (Int.ediv_le_self _ hs) hs64
 rcases hp with rfl | rfl
 ·go_enter Crz.func60,Tryz.ntmps60
  go_wp2
  go_quiet (fail)
  go_wp2
  go_ret
  exact⟨by simp;rfl,qD (qA (Below.refl _ _) _) _⟩
 ·go_enter Crz.func60,Tryz.ntmps60
  go_wp2
  go_ret
  exact⟨by simp;rfl,qA (Below.refl _ _) _⟩
theorem Copy_any(v:Value)(R:RM)(w:World)(hR:RA w v R)(hV:Valid R) :
  Calls Crz.prog 56 #[v] w fun e w'=>∃ v' base,e=.returned v'∧w.heap.size≤base∧RulesOwn w' base v' R∧Ext w w':=by
 obtain⟨pA,pc,sA,sc,eA,ec,rfl,hp,hs,he,hpc,hsc,hec,hnm⟩:=hR
 have har:=area_bd _ _ hV.side
 have ha:=hV.area
 refine(copy_core R.name R.width R.height R.blocked R.quiet R.rept R.falls R.keeps pA sA eA R.pieces.length pc sc ec R.pieces R.start R.ends w rfl hV.pieces6 (fun p hp=>(piece_facts hV.piece hp).2.2.2.1) (by omega) hV.ends6 hp hs he).mono ?_
 rintro e w' ⟨pA',pc',sA',sc',eA',ec',vss,base,rfl,hb,h1,h2,h3,h4,h7⟩
 exact⟨_,base,rfl,hb,⟨pA',pc',sA',sc',eA',ec',vss,rfl,h1,h2,h3,h4,hnm⟩,h7⟩
end Go.Proofs.YtdoibgmmijhlfaaGreat
namespace Go.Proofs.YtdoibgmmijhlfaaGreat
open Go.ChangeShapes Go.WideShapes Go.ChangeAt Go.RowKit Go.Shelf
set_option linter.unusedVariables false
def TFr(ts:List TypeId)(w W:World):Prop:=∀ g t cs,Blk w g t cs→t ∉ ts→Blk W g t cs
theorem TFr.refl(ts:List TypeId)(w:World):TFr ts w w:=fun _ _ _ h _=>h
theorem TFr.trans{ts:List TypeId}{a b c:World}(h:TFr ts a b)(k:TFr ts b c):TFr ts a c:=fun g t cs hb ht=>k g t cs (h g t cs hb ht) ht
theorem TFr.of_ext{ts:List TypeId}{w W:World}(x:Ext w W):TFr ts w W:=fun _ _ _ h _=>h.ext x
theorem TFr.set{ts:List TypeId}{w:World}{B:Nat}{t:TypeId}{cs:Array Value}(k:Blk w B t cs)(ht:t∈ts)(i:Nat)(u:Value):TFr ts w (w.setCell ⟨B,i,none⟩ u):=fun g t' cs' hb hn=>hb.far (p:=⟨B,i,none⟩) (by
 rintro rfl
 have e:=hb.symm.trans k
 simp only [Option.some.injEq,Obj.cells.injEq] at e
 exact hn (e.2.1 ▸ ht)) u
theorem own_tfr{ts:List TypeId}{w W:World}{base:Nat}{e:TypeId}{size n:Nat}{v:Value}{xs:List Value}(h:w.ownsRow base e size v n xs)(he:e ∉ ts)(f:TFr ts w W):W.ownsRow base e size v n xs :=
 ⟨h.1,h.2.imp id fun ⟨g,cap,cur,h1,h2,h3,h4⟩=>⟨g,cap,cur,h1,h2,f g e cur h3 he,h4⟩⟩
theorem IRow.tfr{ts:List TypeId}{w W:World}{g:Nat}{zs:List Int}(h:IRow w g zs)(he:3 ∉ ts)(f:TFr ts w W):IRow W g zs:=by
 obtain⟨cur,h,ht⟩:=h
 exact⟨cur,f g _ cur h he,ht⟩
theorem PosI.tfr{ts:List TypeId}{w W:World}{v:Value}{P:PosM}(h:PosI w v P)(he:3 ∉ ts)(f:TFr ts w W):PosI W v P:=by
 obtain⟨g0,c0,g1,c1,g2,c2,e,r0,r1,r2,m⟩:=h
 exact⟨g0,c0,g1,c1,g2,c2,e,r0.tfr he f,r1.tfr he f,r2.tfr he f,m⟩
def rulesT(ts:List TypeId):Prop:=73 ∉ ts∧110 ∉ ts∧3 ∉ ts∧75 ∉ ts
theorem RulesOwn.tfr{ts:List TypeId}{w W:World}{base:Nat}{v:Value}{R:RM}(h:RulesOwn w base v R)(he:rulesT ts)(f:TFr ts w W):RulesOwn W base v R:=by
 obtain⟨pA,pc,sA,sc,eA,ec,vss,e,h1,h2,h3,h4,h5⟩:=h
 exact⟨pA,pc,sA,sc,eA,ec,vss,e,own_tfr h1 he.1 f,h2.keep (fun v n xs k=>own_tfr k he.2.1 f),own_tfr h3 he.2.2.1 f,own_tfr h4 he.2.2.2 f,h5⟩
end Go.Proofs.YtdoibgmmijhlfaaGreat
