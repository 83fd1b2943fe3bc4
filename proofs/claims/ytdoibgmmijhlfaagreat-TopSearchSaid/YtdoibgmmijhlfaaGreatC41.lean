/- TreeM StoreM StoreW StoreG -/
import Derived.Test.YtdoibgmmijhlfaaGreatC35
import Derived.Test.YtdoibgmmijhlfaaGreatC36
namespace Go.Proofs.YtdoibgmmijhlfaaGreat
open Go.ChangeShapes Go.WideShapes Go.ChangeAt Go.RowKit Go.Shelf
set_option linter.unusedVariables false
set_option linter.unusedSimpArgs false
def PosS(w0 W:World)(v:Value)(P:PosM):Prop:=PA w0 v P∨PosI W v P
theorem PosS.at_{w0 W:World}{v:Value}{P:PosM}(h:PosS w0 W v P)(x:Ext w0 W):PA W v P:=h.elim (fun h=>h.ext x) (fun h=>h.at_)
theorem PosS.tfr{ts:List TypeId}{w0 w W:World}{v:Value}{P:PosM}(h:PosS w0 w v P)(he:3 ∉ ts)(f:TFr ts w W):PosS w0 W v P:=h.imp id (fun h=>h.tfr he f)
section
variable {TN PT:TypeId}{lay:Value→Value→Value→Value→Value→Int→Int→Bool→Value→Array Value}{w0:World}
end
def tsS:List TypeId:=[107,174]
theorem int_tsS:3 ∉ tsS:=by decide
theorem rules_tsS:rulesT tsS:=⟨by decide,by decide,by decide,by decide⟩
def SFr(BS:Nat)(w W:World):Prop:=TFr tsS w W∧∀ i u,i<12→w.cell? ⟨BS,i,none⟩=some u→W.cell? ⟨BS,i,none⟩=some u
theorem SFr.of_ext{BS:Nat}{w W:World}(x:Ext w W):SFr BS w W:=⟨TFr.of_ext x,fun i u _ h=>x.cell h⟩
theorem SFr.trans{BS:Nat}{a b c:World}(h:SFr BS a b)(k:SFr BS b c):SFr BS a c:=⟨h.1.trans k.1,fun i u hi hu=>k.2 i u hi (h.2 i u hi hu)⟩
theorem SFr.refl(BS:Nat)(w:World):SFr BS w w:=⟨TFr.refl _ _,fun _ _ _ h=>h⟩
theorem SFr.blk{BS B:Nat}{w W:World}{t:TypeId}{cs:Array Value}(h:SFr BS w W)(ht:t ∉ tsS)(k:Blk w B t cs):Blk W B t cs:=h.1 B t cs k ht
def SlotIs(W:World)(b:Bool)(v:Value)(d s:Int):Option SlotM→Prop
 | none=>b=false
 | some y=>b=true∧PosI W v y.pos∧d=y.depth∧s=y.score
theorem SlotIs.tfr{ts:List TypeId}{w W:World}{b:Bool}{v:Value}{d s:Int}{x:Option SlotM}(h:SlotIs w b v d s x)(he:3 ∉ ts)(f:TFr ts w W):SlotIs W b v d s x:=by
 cases x with
 | none=>exact h
 | some y=>exact⟨h.1,h.2.1.tfr he f,h.2.2⟩
def SlotAt(W:World)(g i:Nat)(x:Option SlotM):Prop :=
 ∃ b A0 n0 k0 A1 n1 k1 A2 n2 k2 t q d s,W.cell? ⟨g,i * 8,none⟩=some (.bool b)∧W.cell? ⟨g,i * 8+1,none⟩=some (.slice A0 n0 k0)∧W.cell? ⟨g,i * 8+2,none⟩=some (.slice A1 n1 k1)∧W.cell? ⟨g,i * 8+3,none⟩=some (.slice A2 n2 k2) ∧
  W.cell? ⟨g,i * 8+4,none⟩=some (.int .i64 t)∧W.cell? ⟨g,i * 8+5,none⟩=some (.int .i64 q)∧W.cell? ⟨g,i * 8+6,none⟩=some (.int .i64 d)∧W.cell? ⟨g,i * 8+7,none⟩=some (.int .i64 s) ∧
  SlotIs W b (.agg #[.slice A0 n0 k0,.slice A1 n1 k1,.slice A2 n2 k2,.int .i64 t,.int .i64 q]) d s x
theorem SlotAt.ext{w W:World}{g i:Nat}{x:Option SlotM}(h:SlotAt w g i x)(e:Ext w W):SlotAt W g i x:=by
 obtain⟨b,A0,n0,k0,A1,n1,k1,A2,n2,k2,t,q,d,s,h0,h1,h2,h3,h4,h5,h6,h7,h8⟩:=h
 exact⟨b,A0,n0,k0,A1,n1,k1,A2,n2,k2,t,q,d,s,e.cell h0,e.cell h1,e.cell h2,e.cell h3,e.cell h4,e.cell h5,e.cell h6,e.cell h7,h8.tfr (ts:=[]) (by simp) (TFr.of_ext e)⟩
def SA(w0 W:World)(BS g:Nat)(R:RM)(f:Int)(L:List (Option SlotM)):Prop :=
 ∃ pA pc sA sc eA ec base cs,Blk W BS 107 #[.string R.name,.int .i64 R.width,.int .i64 R.height,.slice pA R.pieces.length pc,.slice sA R.start.length sc,.bool R.falls,.bool R.keeps,.slice eA R.ends.length ec,.int .i64 R.blocked,.int .i64 R.quiet,.int .i64 R.rept,.slice (some ⟨g,0,none⟩) L.length L.length,.int .i64 f]∧RulesOwn W base (.agg #[.string R.name,.int .i64 R.width,.int .i64 R.height,.slice pA R.pieces.length pc,.slice sA R.start.length sc,.bool R.falls,.bool R.keeps,.slice eA R.ends.length ec,.int .i64 R.blocked,.int .i64 R.quiet,.int .i64 R.rept]) R∧Blk W g 174 cs∧cs.size=L.length * 8 ∧
  (∀ i x,L[i]? = some x→SlotAt W g i x)∧w0.heap.size≤BS∧w0.heap.size≤g∧Ext w0 W
theorem SA.ext{w0 w W:World}{BS g:Nat}{R:RM}{f:Int}{L:List (Option SlotM)}(h:SA w0 w BS g R f L)(x:Ext w W):SA w0 W BS g R f L:=by
 obtain⟨pA,pc,sA,sc,eA,ec,base,cs,h1,h2,h3,h4,h5,h6,h7,h8⟩:=h
 exact⟨pA,pc,sA,sc,eA,ec,base,cs,h1.ext x,h2.ext x,h3.ext x,h4,fun i y hi=>(h5 i y hi).ext x,h6,h7,qT h8 x⟩
theorem SA.old{w0 w:World}{BS g:Nat}{R:RM}{f:Int}{L:List (Option SlotM)}(h:SA w0 w BS g R f L):Ext w0 w:=by
 obtain⟨pA,pc,sA,sc,eA,ec,base,cs,h1,h2,h3,h4,h5,h6,h7,h8⟩:=h
 exact h8
theorem set8_get(cs:Array Value)(o:Nat)(u0 u1 u2 u3 u4 u5 u6 u7:Value)(hs:o+8≤cs.size) :
  let cs':=(((((((cs.setIfInBounds o u0).setIfInBounds (o+1) u1).setIfInBounds (o+2) u2).setIfInBounds (o+3) u3).setIfInBounds (o+4) u4).setIfInBounds (o+5) u5).setIfInBounds (o+6) u6).setIfInBounds (o+7) u7
  cs'.size=cs.size∧cs'[o]? = some u0∧cs'[o+1]? = some u1∧cs'[o+2]? = some u2∧cs'[o+3]? = some u3∧cs'[o+4]? = some u4∧cs'[o+5]? = some u5∧cs'[o+6]? = some u6∧cs'[o+7]? = some u7∧∀ j,(j<o∨o+8≤j)→cs'[j]? = cs[j]?:=by
 intro cs'
 have hz:cs'.size=cs.size:=by simp [cs']
 have H:∀ k,k<cs.size→True:=fun _ _=>trivial
 refine⟨hz,?_,?_,?_,?_,?_,?_,?_,?_,fun j hj=>?_⟩
 all_goals simp only [cs',Array.getElem?_setIfInBounds,Array.size_setIfInBounds]
 all_goals (repeat (first | rw [if_neg (by omega)] | rw [if_pos (by omega)] | rw [if_pos True.intro]))
theorem cell_set8{w:World}{g o:Nat}{t:TypeId}{cs:Array Value}(h:Blk w g t cs)(u0 u1 u2 u3 u4 u5 u6 u7:Value)(hs:o+8≤cs.size) :
  ∃ cs',Blk ((((((((w.setCell ⟨g,o,none⟩ u0).setCell ⟨g,o+1,none⟩ u1).setCell ⟨g,o+2,none⟩ u2).setCell ⟨g,o+3,none⟩ u3).setCell ⟨g,o+4,none⟩ u4).setCell ⟨g,o+5,none⟩ u5).setCell ⟨g,o+6,none⟩ u6).setCell ⟨g,o+7,none⟩ u7) g t cs' ∧
   cs'.size=cs.size∧cs'[o]? = some u0∧cs'[o+1]? = some u1∧cs'[o+2]? = some u2∧cs'[o+3]? = some u3∧cs'[o+4]? = some u4∧cs'[o+5]? = some u5∧cs'[o+6]? = some u6∧cs'[o+7]? = some u7∧∀ j,(j<o∨o+8≤j)→cs'[j]? = cs[j]? :=
 ⟨_,(((((((h.set_ o u0).set_ (o+1) u1).set_ (o+2) u2).set_ (o+3) u3).set_ (o+4) u4).set_ (o+5) u5).set_ (o+6) u6).set_ (o+7) u7,set8_get cs o u0 u1 u2 u3 u4 u5 u6 u7 hs⟩
theorem SA.put{w0 w:World}{BS g i:Nat}{R:RM}{f:Int}{L:List (Option SlotM)}{P:PosM}{D s:Int}{g0 g1 g2 d0 d1 d2:Nat}(h:SA w0 w BS g R f L)(hi:i<L.length)
  (hP:PosI w (.agg #[.slice (some ⟨g0,0,none⟩) P.cells.length d0,.slice (some ⟨g1,0,none⟩) P.hand0.length d1,.slice (some ⟨g2,0,none⟩) P.hand1.length d2,.int .i64 P.turn,.int .i64 P.quiet]) P) {W:World}
  (hW:((((((((w.setCell ⟨g,i * 8,none⟩ (.bool true)).setCell ⟨g,i * 8+1,none⟩ (.slice (some ⟨g0,0,none⟩) P.cells.length d0)).setCell ⟨g,i * 8+2,none⟩ (.slice (some ⟨g1,0,none⟩) P.hand0.length d1)).setCell ⟨g,i * 8+3,none⟩ (.slice (some ⟨g2,0,none⟩) P.hand1.length d2)).setCell ⟨g,i * 8+4,none⟩ (.int .i64 P.turn)).setCell ⟨g,i * 8+5,none⟩ (.int .i64 P.quiet)).setCell ⟨g,i * 8+6,none⟩ (.int .i64 D)).setCell ⟨g,i * 8+7,none⟩ (.int .i64 s))=W) :
  SA w0 W BS g R f (L.set i (some ⟨P,D,s⟩))∧SFr BS w W:=by
 obtain⟨pA,pc,sA,sc,eA,ec,base,cs,h1,h2,h3,h4,h5,h6,h7,h8⟩:=h
 have hne:BS≠g:=by
  rintro rfl
  have e:=h1.symm.trans h3
  simp only [Option.some.injEq,Obj.cells.injEq] at e
  exact absurd e.2.1 (by decide)
 obtain⟨cs',k,ks,c0,c1,c2,c3,c4,c5,c6,c7,cf⟩:=cell_set8 (o:=i * 8) h3 (.bool true) (.slice (some ⟨g0,0,none⟩) P.cells.length d0) (.slice (some ⟨g1,0,none⟩) P.hand0.length d1) (.slice (some ⟨g2,0,none⟩) P.hand1.length d2) (.int .i64 P.turn) (.int .i64 P.quiet) (.int .i64 D) (.int .i64 s) (by omega)
 have ht:174∈tsS:=by decide
 have F:TFr tsS w W:=by
  rw [← hW]
  have s1:=h3.set_ (i * 8) (.bool true)
  have s2:=s1.set_ (i * 8+1) (.slice (some ⟨g0,0,none⟩) P.cells.length d0)
  have s3:=s2.set_ (i * 8+2) (.slice (some ⟨g1,0,none⟩) P.hand0.length d1)
  have s4:=s3.set_ (i * 8+3) (.slice (some ⟨g2,0,none⟩) P.hand1.length d2)
  have s5:=s4.set_ (i * 8+4) (.int .i64 P.turn)
  have s6:=s5.set_ (i * 8+5) (.int .i64 P.quiet)
  have s7:=s6.set_ (i * 8+6) (.int .i64 D)
  exact(TFr.set h3 ht _ _).trans ((TFr.set s1 ht _ _).trans ((TFr.set s2 ht _ _).trans ((TFr.set s3 ht _ _).trans ((TFr.set s4 ht _ _).trans ((TFr.set s5 ht _ _).trans ((TFr.set s6 ht _ _).trans (TFr.set s7 ht _ _)))))))
 have X:Ext w0 W:=by
  rw [← hW]
  exact qS (qS (qS (qS (qS (qS (qS (qS h8 (p:=⟨g,_,none⟩) h7 _) (p:=⟨g,_,none⟩) h7 _) (p:=⟨g,_,none⟩) h7 _) (p:=⟨g,_,none⟩) h7 _) (p:=⟨g,_,none⟩) h7 _) (p:=⟨g,_,none⟩) h7 _) (p:=⟨g,_,none⟩) h7 _) (p:=⟨g,_,none⟩) h7 _
 have B:Blk W BS 107 #[.string R.name,.int .i64 R.width,.int .i64 R.height,.slice pA R.pieces.length pc,.slice sA R.start.length sc,.bool R.falls,.bool R.keeps,.slice eA R.ends.length ec,.int .i64 R.blocked,.int .i64 R.quiet,.int .i64 R.rept,.slice (some ⟨g,0,none⟩) L.length L.length,.int .i64 f]:=by
  rw [← hW]
  exact(((((((h1.far (p:=⟨g,_,none⟩) hne _).far (p:=⟨g,_,none⟩) hne _).far (p:=⟨g,_,none⟩) hne _).far (p:=⟨g,_,none⟩) hne _).far (p:=⟨g,_,none⟩) hne _).far (p:=⟨g,_,none⟩) hne _).far (p:=⟨g,_,none⟩) hne _).far (p:=⟨g,_,none⟩) hne _
 have G:SFr BS w W:=⟨F,fun j u _ hu=>by
  rw [B.cell,← h1.cell]
  exact hu⟩
 rw [hW] at k
 refine⟨⟨pA,pc,sA,sc,eA,ec,base,cs',by rw [List.length_set];exact B,h2.tfr rules_tsS F,k,by rw [List.length_set];omega,fun j x hj=>?_,h6,h7,X⟩,G⟩
 by_cases e:i=j
 ·subst e
  rw [List.getElem?_set_self hi] at hj
  cases hj
  exact⟨true,_,_,_,_,_,_,_,_,_,_,_,_,_,(k.cell _).trans c0,(k.cell _).trans c1,(k.cell _).trans c2,(k.cell _).trans c3,(k.cell _).trans c4,(k.cell _).trans c5,(k.cell _).trans c6,(k.cell _).trans c7,rfl,hP.tfr int_tsS F,rfl,rfl⟩
 ·rw [List.getElem?_set_ne e] at hj
  obtain⟨b,A0,n0,k0,A1,n1,k1,A2,n2,k2,t,q,d,s',q0,q1,q2,q3,q4,q5,q6,q7,q8⟩:=h5 j x hj
  have hk:∀ a,a<8→∀ v,w.cell? ⟨g,j * 8+a,none⟩=some v→W.cell? ⟨g,j * 8+a,none⟩=some v:=fun a ha v hv=>by
   rw [k.cell,cf _ (by omega),← h3.cell]
   exact hv
  exact⟨b,A0,n0,k0,A1,n1,k1,A2,n2,k2,t,q,d,s',hk 0 (by omega) _ q0,hk 1 (by omega) _ q1,hk 2 (by omega) _ q2,hk 3 (by omega) _ q3,hk 4 (by omega) _ q4,hk 5 (by omega) _ q5,hk 6 (by omega) _ q6,hk 7 (by omega) _ q7,q8.tfr int_tsS F⟩
theorem SA.hit{w0 w:World}{BS g:Nat}{R:RM}{f:Int}{L:List (Option SlotM)}(h:SA w0 w BS g R f L)(f':Int):SA w0 (w.setCell ⟨BS,12,none⟩ (.int .i64 f')) BS g R f' L∧SFr BS w (w.setCell ⟨BS,12,none⟩ (.int .i64 f')):=by
 obtain⟨pA,pc,sA,sc,eA,ec,base,cs,h1,h2,h3,h4,h5,h6,h7,h8⟩:=h
 have hne:g≠BS:=by
  rintro rfl
  have e:=h1.symm.trans h3
  simp only [Option.some.injEq,Obj.cells.injEq] at e
  exact absurd e.2.1 (by decide)
 have F:TFr tsS w (w.setCell ⟨BS,12,none⟩ (.int .i64 f')):=TFr.set h1 (by decide) _ _
 have hg:∀ j,(w.setCell ⟨BS,12,none⟩ (.int .i64 f')).cell? ⟨g,j,none⟩=w.cell? ⟨g,j,none⟩:=fun j=>by
  rw [(h3.far (p:=⟨BS,12,none⟩) hne _).cell,h3.cell]
 refine⟨⟨pA,pc,sA,sc,eA,ec,base,cs,qB h1 rfl,h2.tfr rules_tsS F,h3.far (p:=⟨BS,12,none⟩) hne _,h4,fun j x hj=>?_,h6,h7,qS h8 (p:=⟨BS,12,none⟩) h6 _⟩,F,fun j u hj hu=>by
  rw [(h1.set_ 12 (.int .i64 f')).cell,Array.getElem?_setIfInBounds,if_neg (by omega),← h1.cell]
  exact hu⟩
 obtain⟨b,A0,n0,k0,A1,n1,k1,A2,n2,k2,t,q,d,s',q0,q1,q2,q3,q4,q5,q6,q7,q8⟩:=h5 j x hj
 exact⟨b,A0,n0,k0,A1,n1,k1,A2,n2,k2,t,q,d,s',(hg _).trans q0,(hg _).trans q1,(hg _).trans q2,(hg _).trans q3,(hg _).trans q4,(hg _).trans q5,(hg _).trans q6,(hg _).trans q7,q8.tfr int_tsS F⟩
theorem SA.frz{w0 w:World}{BS g:Nat}{R:RM}{f:Int}{L:List (Option SlotM)}(h:SA w0 w BS g R f L):∀ i,w.frozen? ⟨g,i,none⟩=false:=by
 obtain⟨pA,pc,sA,sc,eA,ec,base,cs,kS,ro,kg,-⟩:=h
 exact kg.frozen
theorem slot_none{w0 w:World}{BS g k:Nat}{R:RM}{f:Int}{L:List (Option SlotM)}(h:SA w0 w BS g R f L)(hk:k<L.length)(hx:L.getD k none=none) :
  ∀ W,Ext w W→∃ A0 n0 k0 A1 n1 k1 A2 n2 k2 t q d s,W.cell? ⟨g,k * 8,none⟩=some (.bool false)∧W.cell? ⟨g,k * 8+1,none⟩=some (.slice A0 n0 k0)∧W.cell? ⟨g,k * 8+2,none⟩=some (.slice A1 n1 k1)∧W.cell? ⟨g,k * 8+3,none⟩=some (.slice A2 n2 k2) ∧
   W.cell? ⟨g,k * 8+4,none⟩=some (.int .i64 t)∧W.cell? ⟨g,k * 8+5,none⟩=some (.int .i64 q)∧W.cell? ⟨g,k * 8+6,none⟩=some (.int .i64 d)∧W.cell? ⟨g,k * 8+7,none⟩=some (.int .i64 s):=fun W x=>by
 obtain⟨pA,pc,sA,sc,eA,ec,base,cs,kS,ro,kg,hcs,hsl,-⟩:=h
 rw [List.getD_eq_getElem?_getD,List.getElem?_eq_getElem hk] at hx
 obtain⟨b,A0,n0,k0,A1,n1,k1,A2,n2,k2,t,q,d,s,h0,h1,h2,h3,h4,h5,h6,h7,h8⟩:=hsl k _ (List.getElem?_eq_getElem hk)
 rw [show L[k]=none from hx] at h8
 obtain rfl:b=false:=h8
 exact⟨A0,n0,k0,A1,n1,k1,A2,n2,k2,t,q,d,s,x.cell h0,x.cell h1,x.cell h2,x.cell h3,x.cell h4,x.cell h5,x.cell h6,x.cell h7⟩
theorem slot_some{w0 w:World}{BS g k:Nat}{R:RM}{f:Int}{L:List (Option SlotM)}{y:SlotM}(h:SA w0 w BS g R f L)(hk:k<L.length)(hx:L.getD k none=some y) :
  ∀ W,Ext w W→∃ A0 n0 k0 A1 n1 k1 A2 n2 k2 t q s,W.cell? ⟨g,k * 8,none⟩=some (.bool true)∧W.cell? ⟨g,k * 8+1,none⟩=some (.slice A0 n0 k0)∧W.cell? ⟨g,k * 8+2,none⟩=some (.slice A1 n1 k1)∧W.cell? ⟨g,k * 8+3,none⟩=some (.slice A2 n2 k2) ∧
   W.cell? ⟨g,k * 8+4,none⟩=some (.int .i64 t)∧W.cell? ⟨g,k * 8+5,none⟩=some (.int .i64 q)∧W.cell? ⟨g,k * 8+6,none⟩=some (.int .i64 y.depth)∧W.cell? ⟨g,k * 8+7,none⟩=some (.int .i64 s):=fun W x=>by
 obtain⟨pA,pc,sA,sc,eA,ec,base,cs,kS,ro,kg,hcs,hsl,-⟩:=h
 rw [List.getD_eq_getElem?_getD,List.getElem?_eq_getElem hk] at hx
 obtain⟨b,A0,n0,k0,A1,n1,k1,A2,n2,k2,t,q,d,s,h0,h1,h2,h3,h4,h5,h6,h7,h8⟩:=hsl k _ (List.getElem?_eq_getElem hk)
 rw [show L[k]=some y from hx] at h8
 obtain⟨rfl,-,rfl,-⟩:=h8
 exact⟨A0,n0,k0,A1,n1,k1,A2,n2,k2,t,q,s,x.cell h0,x.cell h1,x.cell h2,x.cell h3,x.cell h4,x.cell h5,x.cell h6,x.cell h7⟩
set_option maxHeartbeats 2000000 in
set_option maxRecDepth 100000 in
theorem slot_any{w0 w:World}{BS g:Nat}{R:RM}{f:Int}{L:List (Option SlotM)}{P:PosM}{u:Value}(hG:SA w0 w BS g R f L)(hn:0<L.length)(hl:L.length≤4096)(hP:PA w u P)(hV:Valid R)(hS:Sound R P) :
  Calls Crz.prog 123 #[.pointer (some ⟨BS,0,none⟩),u] w fun e w'=>e=.returned (.pointer (some ⟨g,slotI P L.length * 8,none⟩))∧Ext w w':=by
 have HG:=hide hG
 obtain⟨pA,pc,sA,sc,eA,ec,base,cs,kS,ro,kg,hcs,hsl,hb1,hb2,hx0⟩:=hG
 obtain⟨cA,cc,aA,ac,bA,bc,rfl,-⟩:=id hP
 have HOF:=hide (fun W (h:Ext w W)=>Of_any R P _ W (hP.ext h) hV hS)
 obtain⟨x1,k1⟩:=blks1 w #[.slice cA P.cells.length cc,.slice aA P.hand0.length ac,.slice bA P.hand1.length bc,.int .i64 P.turn,.int .i64 P.quiet] 29
 have X1:=hide x1
 have KP:=hide k1
 have KS:=hide (kS.ext x1)
 have hkb:=keyM_bd P
 have hkl:=slotI_lt P hn
 have hkm:keyM P % (L.length:Int)=((slotI P L.length:Nat):Int):=by
  have:=Int.emod_nonneg (keyM P) (show (L.length:Int)≠0 by omega)
  unfold slotI
  omega
 have hkt:(keyM P).tmod (L.length:Int)=((slotI P L.length:Nat):Int):=by rw [Int.tmod_eq_emod_of_nonneg hkb.1];exact hkm
 generalize slotI P L.length=k at *
 generalize keyM P=q at *
 obtain⟨hq0,hq1⟩:=hkb
 have hw1:IntKind.u64.wrap (L.length:Int)=(L.length:Int):=by rw [IntKind.wrap_u64];omega
 have hw2:IntKind.u64.wrap (k:Int)=(k:Int):=by rw [IntKind.wrap_u64];omega
 have hw3:IntKind.u64.wrap (q % (L.length:Int))=(k:Int):=by rw [hkm];exact hw2
 have i0:(0:Int)≤(k:Int):=by omega
 have i1:(k:Int)<(L.length:Int):=by omega
 have t0:((L.length:Int) == 0)=false:=beq_eq_false_iff_ne.2 (by omega)
 have t1:¬ L=[]:=fun e=>by rw [e] at hn;exact absurd hn (by decide)
 clear kS k1 x1 hV hS hP ro kg hcs hsl hb1 hb2 hx0 HG
 go_enter Crz.func123,Tryz.ntmps123
 go_upto_region 1 with fail
 generalize w.alloc _=w2 at *
 generalize w.heap.size=B1 at *
 have keepK:=hide (fun W (h:Ext w2 W)=>(show (fun W=>W.cell? ⟨B1,0,none⟩=some (.slice cA P.cells.length cc)∧W.cell? ⟨B1,1,none⟩=some (.slice aA P.hand0.length ac)∧W.cell? ⟨B1,2,none⟩=some (.slice bA P.hand1.length bc)∧W.cell? ⟨B1,3,none⟩=some (.int .i64 P.turn)∧W.cell? ⟨B1,4,none⟩=some (.int .i64 P.quiet)∧W.cell? ⟨BS,11,none⟩=some (.slice (some ⟨g,0,none⟩) L.length L.length)∧Ext w2 W) W from ⟨(KP.out.ext h).cell 0,(KP.out.ext h).cell 1,(KP.out.ext h).cell 2,(KP.out.ext h).cell 3,(KP.out.ext h).cell 4,(KS.out.ext h).cell 11,h⟩))
 have yy:Ext w2 w2.drew:=Below.drew (Below.refl _ _)
 refine region_K (fun W=>W.cell? ⟨B1,0,none⟩=some (.slice cA P.cells.length cc)∧W.cell? ⟨B1,1,none⟩=some (.slice aA P.hand0.length ac)∧W.cell? ⟨B1,2,none⟩=some (.slice bA P.hand1.length bc)∧W.cell? ⟨B1,3,none⟩=some (.int .i64 P.turn)∧W.cell? ⟨B1,4,none⟩=some (.int .i64 P.quiet)∧W.cell? ⟨BS,11,none⟩=some (.slice (some ⟨g,0,none⟩) L.length L.length)∧Ext w2 W) (fun _=>True) [] (by kernel_rfl) ?_
 have hT0:=keepK.out _ yy
 refine tk 0 hT0 (fun _=>trivial) ?_
 refine tk 1 hT0 (fun _=>trivial) ?_
 refine tk 2 hT0 (fun _=>trivial) ?_
 refine tl 3 hT0 (fun _=>trivial) (v:=?_) (fun W hW=>?_) ?_
 rotate_left
 ·obtain⟨z0,z1,z2,z3,z4,z5,z6⟩:=hW;go_simp;first|done|with_reducible rfl
 refine tl 4 hT0 (fun _=>trivial) (v:=?_) (fun W hW=>?_) ?_
 rotate_left
 ·obtain⟨z0,z1,z2,z3,z4,z5,z6⟩:=hW;go_simp;first|done|with_reducible rfl
 refine tk 6 hT0 (fun _=>trivial) ?_
 refine tk 7 hT0 (fun _=>trivial) ?_
 refine tk 8 hT0 (fun _=>trivial) ?_
 refine tl 9 hT0 (fun _=>trivial) (v:=?_) (fun W hW=>?_) ?_
 rotate_left
 ·obtain⟨z0,z1,z2,z3,z4,z5,z6⟩:=hW;go_simp;first|done|with_reducible rfl
 refine tk 10 hT0 (fun _=>trivial) ?_
 refine tk 11 hT0 (fun _=>trivial) ?_
 refine anyK_on1 5 (by kernel_rfl) ?_
 refine tw 5 (fun K hK=>?_)
 go_simp
 refine(HOF.out _ (qT X1.out yy)).mono ?_
 rintro e w3 ⟨rfl,xx⟩
 try go_wp2_with fail
 replace yy:=qT yy xx
 have hT1:=keepK.out _ yy
 refine hK.out _ _ hT1 (fun _=>trivial) ?_
 clear hK K
 try simp only [Act.put,List.setIfInBounds_toArray,List.set_cons_zero,List.set_cons_succ]
 refine tk 12 hT1 (fun _=>trivial) ?_
 refine tk 13 hT1 (fun _=>trivial) ?_
 refine tk 14 hT1 (fun _=>trivial) ?_
 refine anyK_done (by kernel_rfl) ?_ _
 clear keepK hT0 hT1
 go_wp2
 go_ret
 exact⟨by first | rfl | simp,qT X1.out yy⟩
def SPutPost(w0 w:World)(BS g:Nat)(R:RM)(f:Int)(L:List (Option SlotM))(e:Ending)(w':World):Prop:=e=.returned (.tuple #[])∧SA w0 w' BS g R f L∧SFr BS w w'
set_option maxHeartbeats 4000000 in
set_option maxRecDepth 100000 in
theorem sput_new{w0 w:World}{BS g:Nat}{R:RM}{f:Int}{L:List (Option SlotM)}{P:PosM}{u:Value}{D s:Int}(hG:SA w0 w BS g R f L)(hn:0<L.length)(hl:L.length≤4096)(hP:PA w u P)(hV:Valid R)(hS:Sound R P)(hx:L.getD (slotI P L.length) none=none) :
  Calls Crz.prog 92 #[.pointer (some ⟨BS,0,none⟩),u,.int .i64 D,.int .i64 s] w (SPutPost w0 w BS g R f (putS L P D s)):=by
 have HSL:=hide (fun W (h:Ext w W)=>slot_any (hG.ext h) hn hl (hP.ext h) hV hS)
 obtain⟨f0,f1,f2,f3,f4,f5⟩:=fit_of (R:=R) (ps:=[P]) hV (fun Q hQ=>by rw [List.mem_singleton.1 hQ];exact hS) P (by simp)
 have HCP:=hide (fun W (h:Ext w W)=>PCopy_any P u W (hP.ext h) f0 f1 f2 f3 f4 f5)
 have HG:=hide hG
 have HKL:=hide (slotI_lt P hn)
 unfold SPutPost
 have HPS:Hid (putS L P D s=L.set (slotI P L.length) (some ⟨P,D,s⟩)):=hide (by unfold putS;rw [hx];rfl)
 have HSA:=hide (slot_none hG (slotI_lt P hn) hx)
 clear hx
 obtain⟨cA,cc,aA,ac,bA,bc,rfl,-⟩:=id hP
 obtain⟨x1,k1⟩:=blks1 w #[.slice cA P.cells.length cc,.slice aA P.hand0.length ac,.slice bA P.hand1.length bc,.int .i64 P.turn,.int .i64 P.quiet] 29
 have X1:=hide x1
 have KP:=hide k1
 clear k1 x1 hP hG hV hS f0 f1 f2 f3 f4 f5 hn hl
 generalize hkk:slotI P L.length=k at *
 clear hkk
 have f:=KP.out.cell
 go_enter Crz.func92,Tryz.ntmps92
 go_wp2_with fail
 refine(HSL.out _ X1.out).mono ?_
 rintro e w3 ⟨rfl,x3⟩
 have KP3:=hide (KP.out.ext x3)
 have X3:=hide (qT X1.out x3)
 clear f x3 X1 KP HSL
 have f:=KP3.out.cell
 obtain⟨A0,n0,k0,A1,n1,k1,A2,n2,k2,t,q,d,s',h0,h1,h2,h3,h4,h5,h6,h7⟩:=HSA.out _ (X3.out)
 go_wp2_with fail
 refine(HCP.out _ X3.out).mono ?_
 rintro e w4 ⟨v4,rfl,own4,x4⟩
 obtain⟨g0,d0,g1,d1,g2,d2,rfl,-⟩:=own4.toI
 have PI:=hide own4.toI
 have X4:=hide (qT X3.out x4)
 have HG4:=hide (HG.out.ext X4.out)
 have kz:=HG4.out.frz
 obtain⟨A0,n0,k0,A1,n1,k1,A2,n2,k2,t,q,d,s',h0,h1,h2,h3,h4,h5,h6,h7⟩:=HSA.out _ (X4.out)
 clear own4 f x4
 go_wp2
 obtain⟨S9,F9⟩:=SA.put (D:=D) (s:=s) HG4.out HKL.out PI.out rfl
 go_end0
 refine⟨rfl,?_,(SFr.of_ext X4.out).trans F9⟩
 rw [HPS.out]
 exact S9
set_option maxHeartbeats 4000000 in
set_option maxRecDepth 100000 in
theorem sput_over{w0 w:World}{BS g:Nat}{R:RM}{f:Int}{L:List (Option SlotM)}{P:PosM}{u:Value}{D s:Int}(hG:SA w0 w BS g R f L)(hn:0<L.length)(hl:L.length≤4096)(hP:PA w u P)(hV:Valid R)(hS:Sound R P){y:SlotM}(hx:L.getD (slotI P L.length) none=some y)(hd:y.depth≤D) :
  Calls Crz.prog 92 #[.pointer (some ⟨BS,0,none⟩),u,.int .i64 D,.int .i64 s] w (SPutPost w0 w BS g R f (putS L P D s)):=by
 have HSL:=hide (fun W (h:Ext w W)=>slot_any (hG.ext h) hn hl (hP.ext h) hV hS)
 obtain⟨f0,f1,f2,f3,f4,f5⟩:=fit_of (R:=R) (ps:=[P]) hV (fun Q hQ=>by rw [List.mem_singleton.1 hQ];exact hS) P (by simp)
 have HCP:=hide (fun W (h:Ext w W)=>PCopy_any P u W (hP.ext h) f0 f1 f2 f3 f4 f5)
 have HG:=hide hG
 have HKL:=hide (slotI_lt P hn)
 unfold SPutPost
 have HPS:Hid (putS L P D s=L.set (slotI P L.length) (some ⟨P,D,s⟩)):=hide (by unfold putS;rw [hx,show freeB (some y) D=true from decide_eq_true hd];rfl)
 have HSA:=hide (slot_some hG (slotI_lt P hn) hx)
 have t0:decide (y.depth≤D)=true:=decide_eq_true hd
 clear hx hd
 generalize y.depth=yd at *
 obtain⟨cA,cc,aA,ac,bA,bc,rfl,-⟩:=id hP
 obtain⟨x1,k1⟩:=blks1 w #[.slice cA P.cells.length cc,.slice aA P.hand0.length ac,.slice bA P.hand1.length bc,.int .i64 P.turn,.int .i64 P.quiet] 29
 have X1:=hide x1
 have KP:=hide k1
 clear k1 x1 hP hG hV hS f0 f1 f2 f3 f4 f5 hn hl
 generalize hkk:slotI P L.length=k at *
 clear hkk
 have f:=KP.out.cell
 go_enter Crz.func92,Tryz.ntmps92
 go_wp2_with fail
 refine(HSL.out _ X1.out).mono ?_
 rintro e w3 ⟨rfl,x3⟩
 have KP3:=hide (KP.out.ext x3)
 have X3:=hide (qT X1.out x3)
 clear f x3 X1 KP HSL
 have f:=KP3.out.cell
 obtain⟨A0,n0,k0,A1,n1,k1,A2,n2,k2,t,q,s',h0,h1,h2,h3,h4,h5,h6,h7⟩:=HSA.out _ (X3.out)
 go_wp2_with fail
 refine(HCP.out _ X3.out).mono ?_
 rintro e w4 ⟨v4,rfl,own4,x4⟩
 obtain⟨g0,d0,g1,d1,g2,d2,rfl,-⟩:=own4.toI
 have PI:=hide own4.toI
 have X4:=hide (qT X3.out x4)
 have HG4:=hide (HG.out.ext X4.out)
 have kz:=HG4.out.frz
 obtain⟨A0,n0,k0,A1,n1,k1,A2,n2,k2,t,q,s',h0,h1,h2,h3,h4,h5,h6,h7⟩:=HSA.out _ (X4.out)
 clear own4 f x4
 go_wp2
 obtain⟨S9,F9⟩:=SA.put (D:=D) (s:=s) HG4.out HKL.out PI.out rfl
 go_end0
 refine⟨rfl,?_,(SFr.of_ext X4.out).trans F9⟩
 rw [HPS.out]
 exact S9
set_option maxHeartbeats 4000000 in
set_option maxRecDepth 100000 in
theorem sput_keep{w0 w:World}{BS g:Nat}{R:RM}{f:Int}{L:List (Option SlotM)}{P:PosM}{u:Value}{D s:Int}(hG:SA w0 w BS g R f L)(hn:0<L.length)(hl:L.length≤4096)(hP:PA w u P)(hV:Valid R)(hS:Sound R P){y:SlotM}(hx:L.getD (slotI P L.length) none=some y)(hd:D<y.depth) :
  Calls Crz.prog 92 #[.pointer (some ⟨BS,0,none⟩),u,.int .i64 D,.int .i64 s] w (SPutPost w0 w BS g R f (putS L P D s)):=by
 have HSL:=hide (fun W (h:Ext w W)=>slot_any (hG.ext h) hn hl (hP.ext h) hV hS)
 obtain⟨f0,f1,f2,f3,f4,f5⟩:=fit_of (R:=R) (ps:=[P]) hV (fun Q hQ=>by rw [List.mem_singleton.1 hQ];exact hS) P (by simp)
 have HCP:=hide (fun W (h:Ext w W)=>PCopy_any P u W (hP.ext h) f0 f1 f2 f3 f4 f5)
 have HG:=hide hG
 have HKL:=hide (slotI_lt P hn)
 unfold SPutPost
 have HPS:Hid (putS L P D s=L):=hide (by unfold putS;rw [hx,show freeB (some y) D=false from decide_eq_false (by omega)];rfl)
 have HSA:=hide (slot_some hG (slotI_lt P hn) hx)
 have t0:decide (y.depth≤D)=false:=decide_eq_false (by omega)
 clear hx hd
 generalize y.depth=yd at *
 obtain⟨cA,cc,aA,ac,bA,bc,rfl,-⟩:=id hP
 obtain⟨x1,k1⟩:=blks1 w #[.slice cA P.cells.length cc,.slice aA P.hand0.length ac,.slice bA P.hand1.length bc,.int .i64 P.turn,.int .i64 P.quiet] 29
 have X1:=hide x1
 have KP:=hide k1
 clear k1 x1 hP hG hV hS f0 f1 f2 f3 f4 f5 hn hl
 generalize hkk:slotI P L.length=k at *
 clear hkk
 have f:=KP.out.cell
 go_enter Crz.func92,Tryz.ntmps92
 go_wp2_with fail
 refine(HSL.out _ X1.out).mono ?_
 rintro e w3 ⟨rfl,x3⟩
 have KP3:=hide (KP.out.ext x3)
 have X3:=hide (qT X1.out x3)
 clear f x3 X1 KP HSL
 obtain⟨A0,n0,k0,A1,n1,k1,A2,n2,k2,t,q,s',h0,h1,h2,h3,h4,h5,h6,h7⟩:=HSA.out _ X3.out
 go_wp2
 go_end0
 rw [HPS.out]
 exact⟨rfl,HG.out.ext X3.out,SFr.of_ext X3.out⟩
theorem sput_any{w0 w:World}{BS g:Nat}{R:RM}{f:Int}{L:List (Option SlotM)}{P:PosM}{u:Value}{D s:Int}(hG:SA w0 w BS g R f L)(hn:0<L.length)(hl:L.length≤4096)(hP:PA w u P)(hV:Valid R)(hS:Sound R P) :
  Calls Crz.prog 92 #[.pointer (some ⟨BS,0,none⟩),u,.int .i64 D,.int .i64 s] w (SPutPost w0 w BS g R f (putS L P D s)):=by
 cases hx:L.getD (slotI P L.length) none with
 | none=>exact sput_new hG hn hl hP hV hS hx
 | some y =>
  by_cases hd:y.depth≤D
  ·exact sput_over hG hn hl hP hV hS hx hd
  ·exact sput_keep hG hn hl hP hV hS hx (by omega)
theorem SA.fnd{w0 w:World}{BS g:Nat}{R:RM}{f:Int}{L:List (Option SlotM)}(h:SA w0 w BS g R f L):w.cell? ⟨BS,12,none⟩=some (.int .i64 f)∧(∀ i,w.frozen? ⟨BS,i,none⟩=false)∧BS≠g:=by
 obtain⟨pA,pc,sA,sc,eA,ec,base,cs,kS,ro,kg,-⟩:=h
 refine⟨kS.cell 12,kS.frozen,?_⟩
 rintro rfl
 have e:=kS.symm.trans kg
 simp only [Option.some.injEq,Obj.cells.injEq] at e
 exact absurd e.2.1 (by decide)
theorem slot_full{w0 w:World}{BS g:Nat}{R:RM}{f:Int}{L:List (Option SlotM)}{k:Nat}{y:SlotM}(h:SA w0 w BS g R f L)(hk:k<L.length)(hx:L.getD k none=some y) :
  ∃ a0 e0 a1 e1 a2 e2,(∀ W,Ext w W→W.cell? ⟨g,k * 8,none⟩=some (.bool true)∧W.cell? ⟨g,k * 8+1,none⟩=some (.slice (some ⟨a0,0,none⟩) y.pos.cells.length e0)∧W.cell? ⟨g,k * 8+2,none⟩=some (.slice (some ⟨a1,0,none⟩) y.pos.hand0.length e1)∧W.cell? ⟨g,k * 8+3,none⟩=some (.slice (some ⟨a2,0,none⟩) y.pos.hand1.length e2)∧W.cell? ⟨g,k * 8+4,none⟩=some (.int .i64 y.pos.turn)∧W.cell? ⟨g,k * 8+5,none⟩=some (.int .i64 y.pos.quiet)∧W.cell? ⟨g,k * 8+6,none⟩=some (.int .i64 y.depth)∧W.cell? ⟨g,k * 8+7,none⟩=some (.int .i64 y.score))∧PosI w (.agg #[.slice (some ⟨a0,0,none⟩) y.pos.cells.length e0,.slice (some ⟨a1,0,none⟩) y.pos.hand0.length e1,.slice (some ⟨a2,0,none⟩) y.pos.hand1.length e2,.int .i64 y.pos.turn,.int .i64 y.pos.quiet]) y.pos:=by
 obtain⟨pA,pc,sA,sc,eA,ec,base,cs,kS,ro,kg,hcs,hsl,-⟩:=h
 rw [List.getD_eq_getElem?_getD,List.getElem?_eq_getElem hk] at hx
 obtain⟨b,A0,n0,k0,A1,n1,k1,A2,n2,k2,t,q,d,s,h0,h1,h2,h3,h4,h5,h6,h7,h8⟩:=hsl k _ (List.getElem?_eq_getElem hk)
 rw [show L[k]=some y from hx] at h8
 obtain⟨rfl,hp,rfl,rfl⟩:=h8
 obtain⟨a0,e0,a1,e1,a2,e2,e,r⟩:=id hp
 simp only [Value.agg.injEq,Array.mk.injEq,List.cons.injEq,and_true,Value.slice.injEq,Value.int.injEq,true_and] at e
 obtain⟨⟨rfl,rfl,rfl⟩,⟨rfl,rfl,rfl⟩,⟨rfl,rfl,rfl⟩,rfl,rfl⟩:=e
 exact⟨_,_,_,_,_,_,fun W x=>⟨x.cell h0,x.cell h1,x.cell h2,x.cell h3,x.cell h4,x.cell h5,x.cell h6,x.cell h7⟩,hp⟩
theorem getD_slot{α:Type}{L:List (Option α)}{k:Nat}{y:α}(hx:L.getD k none=some y):some y∈L:=by
 rw [List.getD_eq_getElem?_getD] at hx
 cases he:L[k]? with
 | none=>rw [he] at hx;cases hx
 | some z=>rw [he] at hx;cases hx;exact List.mem_of_getElem? he
def SoundS(R:RM)(L:List (Option SlotM)):Prop:=∀ s,some s∈L→Sound R s.pos
theorem SoundS.put{R:RM}{L:List (Option SlotM)}{P:PosM}{D s:Int}(h:SoundS R L)(hS:Sound R P):SoundS R (putS L P D s):=by
 unfold putS
 split
 ·intro x hx
  rcases List.mem_or_eq_of_mem_set hx with hx | hx
  ·exact h x hx
  ·cases hx;exact hS
 ·exact h
theorem soundS_new(R:RM)(n:Nat):SoundS R (List.replicate n none):=fun s h=>by
 have:=List.eq_of_mem_replicate h
 cases this
set_option maxHeartbeats 4000000 in
set_option maxRecDepth 100000 in
theorem sget_new{w0 w:World}{BS g:Nat}{R:RM}{f:Int}{L:List (Option SlotM)}{P:PosM}{u:Value}{D:Int}(hG:SA w0 w BS g R f L)(hn:0<L.length)(hl:L.length≤4096)(hP:PA w u P)(hV:Valid R)(hS:Sound R P)(hx:L.getD (slotI P L.length) none=none) :
  Calls Crz.prog 91 #[.pointer (some ⟨BS,0,none⟩),u,.int .i64 D] w fun e w'=>e=.returned (.tuple #[.int .i64 0,.bool false])∧Ext w w':=by
 have HSL:=hide (fun W (h:Ext w W)=>slot_any (hG.ext h) hn hl (hP.ext h) hV hS)
 have HG:=hide hG
 have HPA:=hide hP
 have HSA:=hide (slot_none hG (slotI_lt P hn) hx)
 clear hx
 obtain⟨cA,cc,aA,ac,bA,bc,rfl,-⟩:=id hP
 obtain⟨x1,k1⟩:=blks1 w #[.slice cA P.cells.length cc,.slice aA P.hand0.length ac,.slice bA P.hand1.length bc,.int .i64 P.turn,.int .i64 P.quiet] 29
 have X1:=hide x1
 have KP:=hide k1
 clear k1 x1 hP hG hV hS hn hl
 generalize hkk:slotI P L.length=k at *
 clear hkk
 have f:=KP.out.cell
 go_enter Crz.func91,Tryz.ntmps91
 go_wp2_with fail
 refine(HSL.out _ X1.out).mono ?_
 rintro e w3 ⟨rfl,x3⟩
 have KP3:=hide (KP.out.ext x3)
 have X3:=hide (qT X1.out x3)
 clear f x3 X1 KP HSL
 obtain⟨A0,n0,k0,A1,n1,k1,A2,n2,k2,t,q,d,s',h0,h1,h2,h3,h4,h5,h6,h7⟩:=HSA.out _ X3.out
 have f:=KP3.out.cell
 go_wp2_with (go_quiet (fail))
 go_ret2
 exact⟨rfl,qD X3.out _⟩
set_option maxHeartbeats 4000000 in
set_option maxRecDepth 100000 in
theorem sget_depth{w0 w:World}{BS g:Nat}{R:RM}{f:Int}{L:List (Option SlotM)}{P:PosM}{u:Value}{D:Int}(hG:SA w0 w BS g R f L)(hn:0<L.length)(hl:L.length≤4096)(hP:PA w u P)(hV:Valid R)(hS:Sound R P){y:SlotM}(hx:L.getD (slotI P L.length) none=some y)(hd:y.depth≠D) :
  Calls Crz.prog 91 #[.pointer (some ⟨BS,0,none⟩),u,.int .i64 D] w fun e w'=>e=.returned (.tuple #[.int .i64 0,.bool false])∧Ext w w':=by
 have HSL:=hide (fun W (h:Ext w W)=>slot_any (hG.ext h) hn hl (hP.ext h) hV hS)
 have HG:=hide hG
 have HPA:=hide hP
 obtain⟨a0,e0,a1,e1,a2,e2,hsa,hpi⟩:=slot_full hG (slotI_lt P hn) hx
 have HSA:=hide hsa
 have HPI:=hide hpi
 have t0:(y.depth != D)=true:=by simpa using hd
 clear hd
 clear hsa hpi hx
 obtain⟨cA,cc,aA,ac,bA,bc,rfl,-⟩:=id hP
 obtain⟨x1,k1⟩:=blks1 w #[.slice cA P.cells.length cc,.slice aA P.hand0.length ac,.slice bA P.hand1.length bc,.int .i64 P.turn,.int .i64 P.quiet] 29
 have X1:=hide x1
 have KP:=hide k1
 clear k1 x1 hP hG hV hS hn hl
 generalize hkk:slotI P L.length=k at *
 clear hkk
 have f:=KP.out.cell
 go_enter Crz.func91,Tryz.ntmps91
 go_wp2_with fail
 refine(HSL.out _ X1.out).mono ?_
 rintro e w3 ⟨rfl,x3⟩
 have KP3:=hide (KP.out.ext x3)
 have X3:=hide (qT X1.out x3)
 clear f x3 X1 KP HSL
 obtain⟨h0,h1,h2,h3,h4,h5,h6,h7⟩:=HSA.out _ X3.out
 have f:=KP3.out.cell
 go_wp2_with (go_quiet (fail))
 go_ret2
 exact⟨rfl,qD X3.out _⟩
set_option maxHeartbeats 4000000 in
set_option maxRecDepth 100000 in
theorem sget_quiet{w0 w:World}{BS g:Nat}{R:RM}{f:Int}{L:List (Option SlotM)}{P:PosM}{u:Value}{D:Int}(hG:SA w0 w BS g R f L)(hn:0<L.length)(hl:L.length≤4096)(hP:PA w u P)(hV:Valid R)(hS:Sound R P){y:SlotM}(hx:L.getD (slotI P L.length) none=some y)(hd:y.depth=D)(hq:y.pos.quiet≠P.quiet) :
  Calls Crz.prog 91 #[.pointer (some ⟨BS,0,none⟩),u,.int .i64 D] w fun e w'=>e=.returned (.tuple #[.int .i64 0,.bool false])∧Ext w w':=by
 have HSL:=hide (fun W (h:Ext w W)=>slot_any (hG.ext h) hn hl (hP.ext h) hV hS)
 have HG:=hide hG
 have HPA:=hide hP
 obtain⟨a0,e0,a1,e1,a2,e2,hsa,hpi⟩:=slot_full hG (slotI_lt P hn) hx
 have HSA:=hide hsa
 have HPI:=hide hpi
 have t0:(y.depth != D)=false:=by simpa using hd
 have t1:(y.pos.quiet != P.quiet)=true:=by simpa using hq
 clear hd hq
 clear hsa hpi hx
 obtain⟨cA,cc,aA,ac,bA,bc,rfl,-⟩:=id hP
 obtain⟨x1,k1⟩:=blks1 w #[.slice cA P.cells.length cc,.slice aA P.hand0.length ac,.slice bA P.hand1.length bc,.int .i64 P.turn,.int .i64 P.quiet] 29
 have X1:=hide x1
 have KP:=hide k1
 clear k1 x1 hP hG hV hS hn hl
 generalize hkk:slotI P L.length=k at *
 clear hkk
 have f:=KP.out.cell
 go_enter Crz.func91,Tryz.ntmps91
 go_wp2_with fail
 refine(HSL.out _ X1.out).mono ?_
 rintro e w3 ⟨rfl,x3⟩
 have KP3:=hide (KP.out.ext x3)
 have X3:=hide (qT X1.out x3)
 clear f x3 X1 KP HSL
 obtain⟨h0,h1,h2,h3,h4,h5,h6,h7⟩:=HSA.out _ X3.out
 have f:=KP3.out.cell
 go_wp2_with (go_quiet (fail))
 go_ret2
 exact⟨rfl,qD X3.out _⟩
set_option maxHeartbeats 4000000 in
set_option maxRecDepth 100000 in
theorem sget_diff{w0 w:World}{BS g:Nat}{R:RM}{f:Int}{L:List (Option SlotM)}{P:PosM}{u:Value}{D:Int}(hG:SA w0 w BS g R f L)(hn:0<L.length)(hl:L.length≤4096)(hP:PA w u P)(hV:Valid R)(hS:Sound R P)(hSS:SoundS R L){y:SlotM}(hx:L.getD (slotI P L.length) none=some y)(hd:y.depth=D)(hq:y.pos.quiet=P.quiet)(hs:sameB y.pos P=false) :
  Calls Crz.prog 91 #[.pointer (some ⟨BS,0,none⟩),u,.int .i64 D] w fun e w'=>e=.returned (.tuple #[.int .i64 0,.bool false])∧Ext w w':=by
 have HSL:=hide (fun W (h:Ext w W)=>slot_any (hG.ext h) hn hl (hP.ext h) hV hS)
 have HG:=hide hG
 have HPA:=hide hP
 obtain⟨-,-,-,l0,l1,l2⟩:=fit_of (R:=R) (ps:=[y.pos]) hV (fun Q hQ=>by rw [List.mem_singleton.1 hQ];exact hSS y (getD_slot hx)) y.pos (by simp)
 obtain⟨-,-,-,m0,m1,m2⟩:=fit_of (R:=R) (ps:=[P]) hV (fun Q hQ=>by rw [List.mem_singleton.1 hQ];exact hS) P (by simp)
 obtain⟨a0,e0,a1,e1,a2,e2,hsa,hpi⟩:=slot_full hG (slotI_lt P hn) hx
 have HSM:=hide (fun W (h:Ext w W)=>PSame_any y.pos P _ _ W (hpi.at_.ext h) (hP.ext h) l0 l1 l2 m0 m1 m2)
 have HSA:=hide hsa
 have HPI:=hide hpi
 have t0:(y.depth != D)=false:=by simpa using hd
 have t1:(y.pos.quiet != P.quiet)=false:=by simpa using hq
 clear hd hq l0 l1 l2 m0 m1 m2
 clear hsa hpi hx
 rw [hs] at HSM
 clear hs hSS
 obtain⟨cA,cc,aA,ac,bA,bc,rfl,-⟩:=id hP
 obtain⟨x1,k1⟩:=blks1 w #[.slice cA P.cells.length cc,.slice aA P.hand0.length ac,.slice bA P.hand1.length bc,.int .i64 P.turn,.int .i64 P.quiet] 29
 have X1:=hide x1
 have KP:=hide k1
 clear k1 x1 hP hG hV hS hn hl
 generalize hkk:slotI P L.length=k at *
 clear hkk
 have f:=KP.out.cell
 go_enter Crz.func91,Tryz.ntmps91
 go_wp2_with fail
 refine(HSL.out _ X1.out).mono ?_
 rintro e w3 ⟨rfl,x3⟩
 have KP3:=hide (KP.out.ext x3)
 have X3:=hide (qT X1.out x3)
 clear f x3 X1 KP HSL
 have hsc:=HSA.out _ X3.out
 obtain⟨h0,h1,h2,h3,h4,h5,h6,h7⟩:=hsc
 have C0:=hide h0
 have C1:=hide h1
 have C2:=hide h2
 have C3:=hide h3
 have C4:=hide h4
 have C5:=hide h5
 have C6:=hide h6
 have C7:=hide h7
 clear h0 h1 h2 h3 h4 h5 h6 h7 HPI
 go_upto_region 2 with fail
 generalize hB1:w.heap.size=B1 at *
 clear hB1
 have keepK:=hide (fun W (h:Ext w3 W)=>(show (fun W=>W.cell? ⟨B1,0,none⟩=some (.slice cA P.cells.length cc)∧W.cell? ⟨B1,1,none⟩=some (.slice aA P.hand0.length ac)∧W.cell? ⟨B1,2,none⟩=some (.slice bA P.hand1.length bc)∧W.cell? ⟨B1,3,none⟩=some (.int .i64 P.turn)∧W.cell? ⟨B1,4,none⟩=some (.int .i64 P.quiet)∧W.cell? ⟨g,k * 8,none⟩=some (.bool true)∧W.cell? ⟨g,k * 8+1,none⟩=some (.slice (some ⟨a0,0,none⟩) y.pos.cells.length e0)∧W.cell? ⟨g,k * 8+2,none⟩=some (.slice (some ⟨a1,0,none⟩) y.pos.hand0.length e1)∧W.cell? ⟨g,k * 8+3,none⟩=some (.slice (some ⟨a2,0,none⟩) y.pos.hand1.length e2)∧W.cell? ⟨g,k * 8+4,none⟩=some (.int .i64 y.pos.turn)∧W.cell? ⟨g,k * 8+5,none⟩=some (.int .i64 y.pos.quiet)∧W.cell? ⟨g,k * 8+6,none⟩=some (.int .i64 y.depth)∧W.cell? ⟨g,k * 8+7,none⟩=some (.int .i64 y.score)∧Ext w3 W) W from ⟨(KP3.out.ext h).cell 0,(KP3.out.ext h).cell 1,(KP3.out.ext h).cell 2,(KP3.out.ext h).cell 3,(KP3.out.ext h).cell 4,h.cell C0.out,h.cell C1.out,h.cell C2.out,h.cell C3.out,h.cell C4.out,h.cell C5.out,h.cell C6.out,h.cell C7.out,h⟩))
 have yy:Ext w3 w3.drew:=Below.drew (Below.refl _ _)
 refine region_K (fun W=>W.cell? ⟨B1,0,none⟩=some (.slice cA P.cells.length cc)∧W.cell? ⟨B1,1,none⟩=some (.slice aA P.hand0.length ac)∧W.cell? ⟨B1,2,none⟩=some (.slice bA P.hand1.length bc)∧W.cell? ⟨B1,3,none⟩=some (.int .i64 P.turn)∧W.cell? ⟨B1,4,none⟩=some (.int .i64 P.quiet)∧W.cell? ⟨g,k * 8,none⟩=some (.bool true)∧W.cell? ⟨g,k * 8+1,none⟩=some (.slice (some ⟨a0,0,none⟩) y.pos.cells.length e0)∧W.cell? ⟨g,k * 8+2,none⟩=some (.slice (some ⟨a1,0,none⟩) y.pos.hand0.length e1)∧W.cell? ⟨g,k * 8+3,none⟩=some (.slice (some ⟨a2,0,none⟩) y.pos.hand1.length e2)∧W.cell? ⟨g,k * 8+4,none⟩=some (.int .i64 y.pos.turn)∧W.cell? ⟨g,k * 8+5,none⟩=some (.int .i64 y.pos.quiet)∧W.cell? ⟨g,k * 8+6,none⟩=some (.int .i64 y.depth)∧W.cell? ⟨g,k * 8+7,none⟩=some (.int .i64 y.score)∧Ext w3 W) (fun _=>True) [] (by kernel_rfl) ?_
 have hT0:=keepK.out _ yy
 refine tk 0 hT0 (fun _=>trivial) ?_
 refine tk 1 hT0 (fun _=>trivial) ?_
 refine tk 2 hT0 (fun _=>trivial) ?_
 refine tl 3 hT0 (fun _=>trivial) (v:=?_) (fun W hW=>?_) ?_
 rotate_left
 ·obtain⟨z0,z1,z2,z3,z4,z5,z6,z7,z8,z9,z10,z11,z12,z13⟩:=hW;go_simp;first|done|with_reducible rfl
 refine tk 4 hT0 (fun _=>trivial) ?_
 refine tk 5 hT0 (fun _=>trivial) ?_
 refine tk 6 hT0 (fun _=>trivial) ?_
 refine tk 7 hT0 (fun _=>trivial) ?_
 refine tk 8 hT0 (fun _=>trivial) ?_
 refine tl 9 hT0 (fun _=>trivial) (v:=?_) (fun W hW=>?_) ?_
 rotate_left
 ·obtain⟨z0,z1,z2,z3,z4,z5,z6,z7,z8,z9,z10,z11,z12,z13⟩:=hW;go_simp;first|done|with_reducible rfl
 refine tk 10 hT0 (fun _=>trivial) ?_
 refine tk 11 hT0 (fun _=>trivial) ?_
 refine tk 12 hT0 (fun _=>trivial) ?_
 refine tk 13 hT0 (fun _=>trivial) ?_
 refine tk 14 hT0 (fun _=>trivial) ?_
 refine tk 15 hT0 (fun _=>trivial) ?_
 refine tk 16 hT0 (fun _=>trivial) ?_
 refine tk 17 hT0 (fun _=>trivial) ?_
 refine tl 18 hT0 (fun _=>trivial) (v:=?_) (fun W hW=>?_) ?_
 rotate_left
 ·obtain⟨z0,z1,z2,z3,z4,z5,z6,z7,z8,z9,z10,z11,z12,z13⟩:=hW;go_simp;first|done|with_reducible rfl
 refine tk 19 hT0 (fun _=>trivial) ?_
 refine tl 20 hT0 (fun _=>trivial) (v:=?_) (fun W hW=>?_) ?_
 rotate_left
 ·obtain⟨z0,z1,z2,z3,z4,z5,z6,z7,z8,z9,z10,z11,z12,z13⟩:=hW;go_simp;first|done|with_reducible rfl
 refine tk 21 hT0 (fun _=>trivial) ?_
 refine tk 22 hT0 (fun _=>trivial) ?_
 refine tk 23 hT0 (fun _=>trivial) ?_
 refine tk 24 hT0 (fun _=>trivial) ?_
 refine tk 25 hT0 (fun _=>trivial) ?_
 refine tk 26 hT0 (fun _=>trivial) ?_
 refine tl 27 hT0 (fun _=>trivial) (v:=?_) (fun W hW=>?_) ?_
 rotate_left
 ·obtain⟨z0,z1,z2,z3,z4,z5,z6,z7,z8,z9,z10,z11,z12,z13⟩:=hW;go_simp;first|done|with_reducible rfl
 refine tl 28 hT0 (fun _=>trivial) (v:=?_) (fun W hW=>?_) ?_
 rotate_left
 ·obtain⟨z0,z1,z2,z3,z4,z5,z6,z7,z8,z9,z10,z11,z12,z13⟩:=hW;go_simp;first|done|with_reducible rfl
 refine anyK_on1 29 (by kernel_rfl) ?_
 refine tw 29 (fun K hK=>?_)
 go_simp
 refine(HSM.out _ (qT X3.out yy)).mono ?_
 rintro e w4 ⟨rfl,xx⟩
 try go_wp2_with fail
 replace yy:=qT yy xx
 have hT1:=keepK.out _ yy
 refine hK.out _ _ hT1 (fun _=>trivial) ?_
 clear hK K
 try simp only [Act.put,List.setIfInBounds_toArray,List.set_cons_zero,List.set_cons_succ]
 refine tk 30 hT1 (fun _=>trivial) ?_
 refine tk 31 hT1 (fun _=>trivial) ?_
 refine anyK_done (by kernel_rfl) ?_ _
 clear keepK hT0 hT1
 go_wp2
 go_ret2
 exact⟨rfl,qT X3.out yy⟩
def SHitPost(w0 w:World)(BS g:Nat)(R:RM)(f:Int)(L:List (Option SlotM))(z:Int)(e:Ending)(w':World):Prop:=e=.returned (.tuple #[.int .i64 z,.bool true])∧SA w0 w' BS g R (IntKind.i64.wrap (f+1)) L∧SFr BS w w'
set_option maxHeartbeats 4000000 in
set_option maxRecDepth 100000 in
theorem sget_hit{w0 w:World}{BS g:Nat}{R:RM}{f:Int}{L:List (Option SlotM)}{P:PosM}{u:Value}{D:Int}(hG:SA w0 w BS g R f L)(hn:0<L.length)(hl:L.length≤4096)(hP:PA w u P)(hV:Valid R)(hS:Sound R P)(hSS:SoundS R L){y:SlotM}(hx:L.getD (slotI P L.length) none=some y)(hd:y.depth=D)(hq:y.pos.quiet=P.quiet)(hs:sameB y.pos P=true) :
  Calls Crz.prog 91 #[.pointer (some ⟨BS,0,none⟩),u,.int .i64 D] w fun e w'=>SHitPost w0 w BS g R f L y.score e w':=by
 have HSL:=hide (fun W (h:Ext w W)=>slot_any (hG.ext h) hn hl (hP.ext h) hV hS)
 have HG:=hide hG
 have HPA:=hide hP
 obtain⟨-,-,-,l0,l1,l2⟩:=fit_of (R:=R) (ps:=[y.pos]) hV (fun Q hQ=>by rw [List.mem_singleton.1 hQ];exact hSS y (getD_slot hx)) y.pos (by simp)
 obtain⟨-,-,-,m0,m1,m2⟩:=fit_of (R:=R) (ps:=[P]) hV (fun Q hQ=>by rw [List.mem_singleton.1 hQ];exact hS) P (by simp)
 obtain⟨a0,e0,a1,e1,a2,e2,hsa,hpi⟩:=slot_full hG (slotI_lt P hn) hx
 have HSM:=hide (fun W (h:Ext w W)=>PSame_any y.pos P _ _ W (hpi.at_.ext h) (hP.ext h) l0 l1 l2 m0 m1 m2)
 have HSA:=hide hsa
 have HPI:=hide hpi
 have t0:(y.depth != D)=false:=by simpa using hd
 have t1:(y.pos.quiet != P.quiet)=false:=by simpa using hq
 clear hd hq l0 l1 l2 m0 m1 m2
 clear hsa hpi hx
 rw [hs] at HSM
 clear hs hSS
 unfold SHitPost
 obtain⟨cA,cc,aA,ac,bA,bc,rfl,-⟩:=id hP
 obtain⟨x1,k1⟩:=blks1 w #[.slice cA P.cells.length cc,.slice aA P.hand0.length ac,.slice bA P.hand1.length bc,.int .i64 P.turn,.int .i64 P.quiet] 29
 have X1:=hide x1
 have KP:=hide k1
 clear k1 x1 hP hG hV hS hn hl
 generalize hkk:slotI P L.length=k at *
 clear hkk
 have f:=KP.out.cell
 go_enter Crz.func91,Tryz.ntmps91
 go_wp2_with fail
 refine(HSL.out _ X1.out).mono ?_
 rintro e w3 ⟨rfl,x3⟩
 have KP3:=hide (KP.out.ext x3)
 have X3:=hide (qT X1.out x3)
 clear f x3 X1 KP HSL
 have hsc:=HSA.out _ X3.out
 obtain⟨h0,h1,h2,h3,h4,h5,h6,h7⟩:=hsc
 have C0:=hide h0
 have C1:=hide h1
 have C2:=hide h2
 have C3:=hide h3
 have C4:=hide h4
 have C5:=hide h5
 have C6:=hide h6
 have C7:=hide h7
 clear h0 h1 h2 h3 h4 h5 h6 h7 HPI
 go_upto_region 2 with fail
 generalize hB1:w.heap.size=B1 at *
 clear hB1
 have keepK:=hide (fun W (h:Ext w3 W)=>(show (fun W=>W.cell? ⟨B1,0,none⟩=some (.slice cA P.cells.length cc)∧W.cell? ⟨B1,1,none⟩=some (.slice aA P.hand0.length ac)∧W.cell? ⟨B1,2,none⟩=some (.slice bA P.hand1.length bc)∧W.cell? ⟨B1,3,none⟩=some (.int .i64 P.turn)∧W.cell? ⟨B1,4,none⟩=some (.int .i64 P.quiet)∧W.cell? ⟨g,k * 8,none⟩=some (.bool true)∧W.cell? ⟨g,k * 8+1,none⟩=some (.slice (some ⟨a0,0,none⟩) y.pos.cells.length e0)∧W.cell? ⟨g,k * 8+2,none⟩=some (.slice (some ⟨a1,0,none⟩) y.pos.hand0.length e1)∧W.cell? ⟨g,k * 8+3,none⟩=some (.slice (some ⟨a2,0,none⟩) y.pos.hand1.length e2)∧W.cell? ⟨g,k * 8+4,none⟩=some (.int .i64 y.pos.turn)∧W.cell? ⟨g,k * 8+5,none⟩=some (.int .i64 y.pos.quiet)∧W.cell? ⟨g,k * 8+6,none⟩=some (.int .i64 y.depth)∧W.cell? ⟨g,k * 8+7,none⟩=some (.int .i64 y.score)∧Ext w3 W) W from ⟨(KP3.out.ext h).cell 0,(KP3.out.ext h).cell 1,(KP3.out.ext h).cell 2,(KP3.out.ext h).cell 3,(KP3.out.ext h).cell 4,h.cell C0.out,h.cell C1.out,h.cell C2.out,h.cell C3.out,h.cell C4.out,h.cell C5.out,h.cell C6.out,h.cell C7.out,h⟩))
 have yy:Ext w3 w3.drew:=Below.drew (Below.refl _ _)
 refine region_K (fun W=>W.cell? ⟨B1,0,none⟩=some (.slice cA P.cells.length cc)∧W.cell? ⟨B1,1,none⟩=some (.slice aA P.hand0.length ac)∧W.cell? ⟨B1,2,none⟩=some (.slice bA P.hand1.length bc)∧W.cell? ⟨B1,3,none⟩=some (.int .i64 P.turn)∧W.cell? ⟨B1,4,none⟩=some (.int .i64 P.quiet)∧W.cell? ⟨g,k * 8,none⟩=some (.bool true)∧W.cell? ⟨g,k * 8+1,none⟩=some (.slice (some ⟨a0,0,none⟩) y.pos.cells.length e0)∧W.cell? ⟨g,k * 8+2,none⟩=some (.slice (some ⟨a1,0,none⟩) y.pos.hand0.length e1)∧W.cell? ⟨g,k * 8+3,none⟩=some (.slice (some ⟨a2,0,none⟩) y.pos.hand1.length e2)∧W.cell? ⟨g,k * 8+4,none⟩=some (.int .i64 y.pos.turn)∧W.cell? ⟨g,k * 8+5,none⟩=some (.int .i64 y.pos.quiet)∧W.cell? ⟨g,k * 8+6,none⟩=some (.int .i64 y.depth)∧W.cell? ⟨g,k * 8+7,none⟩=some (.int .i64 y.score)∧Ext w3 W) (fun _=>True) [] (by kernel_rfl) ?_
 have hT0:=keepK.out _ yy
 refine tk 0 hT0 (fun _=>trivial) ?_
 refine tk 1 hT0 (fun _=>trivial) ?_
 refine tk 2 hT0 (fun _=>trivial) ?_
 refine tl 3 hT0 (fun _=>trivial) (v:=?_) (fun W hW=>?_) ?_
 rotate_left
 ·obtain⟨z0,z1,z2,z3,z4,z5,z6,z7,z8,z9,z10,z11,z12,z13⟩:=hW;go_simp;first|done|with_reducible rfl
 refine tk 4 hT0 (fun _=>trivial) ?_
 refine tk 5 hT0 (fun _=>trivial) ?_
 refine tk 6 hT0 (fun _=>trivial) ?_
 refine tk 7 hT0 (fun _=>trivial) ?_
 refine tk 8 hT0 (fun _=>trivial) ?_
 refine tl 9 hT0 (fun _=>trivial) (v:=?_) (fun W hW=>?_) ?_
 rotate_left
 ·obtain⟨z0,z1,z2,z3,z4,z5,z6,z7,z8,z9,z10,z11,z12,z13⟩:=hW;go_simp;first|done|with_reducible rfl
 refine tk 10 hT0 (fun _=>trivial) ?_
 refine tk 11 hT0 (fun _=>trivial) ?_
 refine tk 12 hT0 (fun _=>trivial) ?_
 refine tk 13 hT0 (fun _=>trivial) ?_
 refine tk 14 hT0 (fun _=>trivial) ?_
 refine tk 15 hT0 (fun _=>trivial) ?_
 refine tk 16 hT0 (fun _=>trivial) ?_
 refine tk 17 hT0 (fun _=>trivial) ?_
 refine tl 18 hT0 (fun _=>trivial) (v:=?_) (fun W hW=>?_) ?_
 rotate_left
 ·obtain⟨z0,z1,z2,z3,z4,z5,z6,z7,z8,z9,z10,z11,z12,z13⟩:=hW;go_simp;first|done|with_reducible rfl
 refine tk 19 hT0 (fun _=>trivial) ?_
 refine tl 20 hT0 (fun _=>trivial) (v:=?_) (fun W hW=>?_) ?_
 rotate_left
 ·obtain⟨z0,z1,z2,z3,z4,z5,z6,z7,z8,z9,z10,z11,z12,z13⟩:=hW;go_simp;first|done|with_reducible rfl
 refine tk 21 hT0 (fun _=>trivial) ?_
 refine tk 22 hT0 (fun _=>trivial) ?_
 refine tk 23 hT0 (fun _=>trivial) ?_
 refine tk 24 hT0 (fun _=>trivial) ?_
 refine tk 25 hT0 (fun _=>trivial) ?_
 refine tk 26 hT0 (fun _=>trivial) ?_
 refine tl 27 hT0 (fun _=>trivial) (v:=?_) (fun W hW=>?_) ?_
 rotate_left
 ·obtain⟨z0,z1,z2,z3,z4,z5,z6,z7,z8,z9,z10,z11,z12,z13⟩:=hW;go_simp;first|done|with_reducible rfl
 refine tl 28 hT0 (fun _=>trivial) (v:=?_) (fun W hW=>?_) ?_
 rotate_left
 ·obtain⟨z0,z1,z2,z3,z4,z5,z6,z7,z8,z9,z10,z11,z12,z13⟩:=hW;go_simp;first|done|with_reducible rfl
 refine anyK_on1 29 (by kernel_rfl) ?_
 refine tw 29 (fun K hK=>?_)
 go_simp
 refine(HSM.out _ (qT X3.out yy)).mono ?_
 rintro e w4 ⟨rfl,xx⟩
 try go_wp2_with fail
 replace yy:=qT yy xx
 have hT1:=keepK.out _ yy
 refine hK.out _ _ hT1 (fun _=>trivial) ?_
 clear hK K
 try simp only [Act.put,List.setIfInBounds_toArray,List.set_cons_zero,List.set_cons_succ]
 refine tk 30 hT1 (fun _=>trivial) ?_
 refine tk 31 hT1 (fun _=>trivial) ?_
 refine anyK_done (by kernel_rfl) ?_ _
 clear keepK hT0 hT1
 have HG4:=hide ((HG.out.ext X3.out).ext yy)
 have X4:=hide (qT X3.out yy)
 have F4:=hide (SA.fnd HG4.out)
 obtain⟨g12,gz,gne⟩:=F4.out
 have h7:=yy.cell C7.out
 obtain⟨f',hf'⟩:∃ f',IntKind.i64.wrap (f+1)=f':=⟨_,rfl⟩
 have hf2:wrap64 (f+1)=f':=by rw [← hf',IntKind.wrap_i64];unfold wrap64;rfl
 clear yy
 go_wp2
 obtain⟨S9,F9⟩:=SA.hit HG4.out f'
 go_ret2
 exact⟨rfl,by rw [hf'];exact S9,(SFr.of_ext X4.out).trans F9⟩
theorem sget_no{w0 w:World}{BS g:Nat}{R:RM}{f:Int}{L:List (Option SlotM)}{P:PosM}{u:Value}{D:Int}(hG:SA w0 w BS g R f L)(hn:0<L.length)(hl:L.length≤4096)(hP:PA w u P)(hV:Valid R)(hS:Sound R P)(hSS:SoundS R L)(hb:hasB (L.getD (slotI P L.length) none) P D=false) :
  Calls Crz.prog 91 #[.pointer (some ⟨BS,0,none⟩),u,.int .i64 D] w fun e w'=>e=.returned (.tuple #[.int .i64 0,.bool false])∧Ext w w':=by
 cases hx:L.getD (slotI P L.length) none with
 | none=>exact sget_new hG hn hl hP hV hS hx
 | some y =>
  rw [hx] at hb
  by_cases hd:y.depth=D
  ·by_cases hq:y.pos.quiet=P.quiet
   ·refine sget_diff hG hn hl hP hV hS hSS hx hd hq ?_
    have e:hasB (some y) P D=(decide (y.depth=D) && (decide (y.pos.quiet=P.quiet) && sameB y.pos P)):=rfl
    rw [e,decide_eq_true hd,decide_eq_true hq,Bool.true_and,Bool.true_and] at hb
    exact hb
   ·exact sget_quiet hG hn hl hP hV hS hx hd hq
  ·exact sget_depth hG hn hl hP hV hS hx hd
theorem sget_yes{w0 w:World}{BS g:Nat}{R:RM}{f:Int}{L:List (Option SlotM)}{P:PosM}{u:Value}{D:Int}(hG:SA w0 w BS g R f L)(hn:0<L.length)(hl:L.length≤4096)(hP:PA w u P)(hV:Valid R)(hS:Sound R P)(hSS:SoundS R L)(hb:hasB (L.getD (slotI P L.length) none) P D=true) :
  Calls Crz.prog 91 #[.pointer (some ⟨BS,0,none⟩),u,.int .i64 D] w (SHitPost w0 w BS g R f L (scoreS (L.getD (slotI P L.length) none))):=by
 cases hx:L.getD (slotI P L.length) none with
 | none=>rw [hx] at hb;cases hb
 | some y =>
  rw [hx] at hb
  have e:hasB (some y) P D=(decide (y.depth=D) && (decide (y.pos.quiet=P.quiet) && sameB y.pos P)):=rfl
  rw [e] at hb
  simp only [Bool.and_eq_true,decide_eq_true_eq] at hb
  exact sget_hit hG hn hl hP hV hS hSS hx hb.1 hb.2.1 hb.2.2
end Go.Proofs.YtdoibgmmijhlfaaGreat
