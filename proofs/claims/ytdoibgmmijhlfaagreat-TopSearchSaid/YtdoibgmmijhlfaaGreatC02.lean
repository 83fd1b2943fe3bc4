/- IdxInts RulesW2 RulesW3 -/
import Derived.Test.YtdoibgmmijhlfaaGreatC00
namespace Go.Proofs.YtdoibgmmijhlfaaGreat
open Go.ChangeShapes Go.WideShapes Go.ChangeAt Go.RowKit
set_option linter.unusedVariables false
def SomeIdx(b:Bool)(w:World)(e:Ending)(w':World):Prop:=∃ r:Int,decide (0≤r)=b∧e=.returned (.int .i64 r)∧Ext w w'
theorem idxInts_one(cl:FuncId)(c0_:Value)(p:Int→Bool)(A:Option Addr)(n c:Nat)(zs:List Int)(w:World)(hn:zs.length=n)(hm:n≤9223372036854775807)(hz:IntsAt w A zs)
  (eg:∀ args W,(callFunc cl args).run Crz.prog W=.ok (.enter cl args) W) (hcl:∀ z W,Ext w W→Calls Crz.prog cl #[.int .i64 z,c0_] W fun e w'=>e=.returned (.bool (p z))∧Ext W w') :
  Calls Crz.prog 122 #[.slice A n c,.func (.func cl) #[] #[c0_]] w (SomeIdx (zs.any p) w):=by
 have HN:=hide hn
 have HC:=hide hcl
 clear hn hcl
 go_enter Crz.func122,Tryz.ntmps122
 go_wp2
 go_loopw [5,8] (fun _ i wr=>∃ k:Nat,k≤n∧i=.int .i64 k∧Hid (∀ j,j<k→p (zs.getD j 0)=false)∧Ext w wr) (fun _ i _=>n-(intOf i).toNat)
 case atStart=>exact⟨0,Nat.zero_le _,rfl,hide (fun j hj=>by omega),Below.refl _ _⟩
 case round =>
  obtain⟨k,hk,rfl,hall,hext⟩:=hrel
  by_cases hlt:k<n
  ·have hkl:k<zs.length:=by rw [HN.out];exact hlt
   obtain⟨b,o,rfl,hc⟩:=hz.ext hext k hkl
   clear hz
   have HM:Hid (zs.getD k 0∈zs):=hide (by
    have:zs.getD k 0=zs[k]:=by simp [hkl]
    rw [this];exact List.getElem_mem _)
   have HCALL:=hide (HC.out (zs.getD k 0) wr hext)
   have HSTEP:Hid (p (zs.getD k 0)=false→∀ j,j<k+1→p (zs.getD j 0)=false):=hide (fun h j hj=>by
    by_cases e:j=k
    ·subst e;exact h
    ·exact hall.out j (by omega))
   clear hall HC
   generalize zs.getD k 0=z at *
   generalize hpz:p z=pz at *
   have HPZ:=hide hpz
   clear hpz
   go_wp2_with fail
   refine HCALL.out.mono ?_
   rintro e w1 ⟨rfl,y1⟩
   cases pz
   ·go_wp2
    go_roundw
    case rel=>exact⟨k+1,by omega,by go_num,hide (HSTEP.out (by simp)),qT hext y1⟩
    case measure=>simp [intOf];omega
   ·go_wp2
    go_ret
    exact⟨k,by
     have:zs.any p=true:=List.any_eq_true.2 ⟨z,HM.out,HPZ.out⟩
     rw [this];simp,rfl,qT hext y1⟩
  ·obtain rfl:k=n:=by omega
   have HB:Hid (zs.any p=false):=hide (by
    rw [List.any_eq_false]
    intro q hq
    obtain⟨j,hj,rfl⟩:=List.mem_iff_getElem.1 hq
    have:=hall.out j (by rw [HN.out] at hj;exact hj)
    simpa [hj] using this)
   clear hall hz HC
   go_wp2
   go_ret
   exact⟨-1,by rw [HB.out];simp,rfl,hext⟩
theorem hasInts_one(cl:FuncId)(c0_:Value)(p:Int→Bool)(A:Option Addr)(n c:Nat)(zs:List Int)(w:World)(hn:zs.length=n)(hm:n≤9223372036854775807)(hz:IntsAt w A zs)
  (eg:∀ args W,(callFunc cl args).run Crz.prog W=.ok (.enter cl args) W) (hcl:∀ z W,Ext w W→Calls Crz.prog cl #[.int .i64 z,c0_] W fun e w'=>e=.returned (.bool (p z))∧Ext W w') :
  Calls Crz.prog 85 #[.slice A n c,.func (.func cl) #[] #[c0_]] w fun e w'=>e=.returned (.bool (zs.any p))∧Ext w w':=by
 have HI:=hide (idxInts_one cl c0_ p A n c zs w hn hm hz eg hcl)
 clear hn hz hcl eg
 generalize zs.any p=b at *
 go_enter Crz.func85,Tryz.ntmps85
 go_wp2_with fail
 refine HI.out.mono ?_
 rintro e w1 ⟨r,hr,rfl,x1⟩
 have HR:=hide hr
 clear hr
 go_wp2
 go_ret
 exact⟨by rw [← HR.out];rfl,x1⟩
theorem idxInts_two(cl:FuncId)(c0_ c1_:Value)(p:Int→Bool)(A:Option Addr)(n c:Nat)(zs:List Int)(w:World)(hn:zs.length=n)(hm:n≤9223372036854775807)(hz:IntsAt w A zs)
  (eg:∀ args W,(callFunc cl args).run Crz.prog W=.ok (.enter cl args) W) (hcl:∀ z W,Ext w W→Calls Crz.prog cl #[.int .i64 z,c0_,c1_] W fun e w'=>e=.returned (.bool (p z))∧Ext W w') :
  Calls Crz.prog 122 #[.slice A n c,.func (.func cl) #[] #[c0_,c1_]] w (SomeIdx (zs.any p) w):=by
 have HN:=hide hn
 have HC:=hide hcl
 clear hn hcl
 go_enter Crz.func122,Tryz.ntmps122
 go_wp2
 go_loopw [5,8] (fun _ i wr=>∃ k:Nat,k≤n∧i=.int .i64 k∧Hid (∀ j,j<k→p (zs.getD j 0)=false)∧Ext w wr) (fun _ i _=>n-(intOf i).toNat)
 case atStart=>exact⟨0,Nat.zero_le _,rfl,hide (fun j hj=>by omega),Below.refl _ _⟩
 case round =>
  obtain⟨k,hk,rfl,hall,hext⟩:=hrel
  by_cases hlt:k<n
  ·have hkl:k<zs.length:=by rw [HN.out];exact hlt
   obtain⟨b,o,rfl,hc⟩:=hz.ext hext k hkl
   clear hz
   have HM:Hid (zs.getD k 0∈zs):=hide (by
    have:zs.getD k 0=zs[k]:=by simp [hkl]
    rw [this];exact List.getElem_mem _)
   have HCALL:=hide (HC.out (zs.getD k 0) wr hext)
   have HSTEP:Hid (p (zs.getD k 0)=false→∀ j,j<k+1→p (zs.getD j 0)=false):=hide (fun h j hj=>by
    by_cases e:j=k
    ·subst e;exact h
    ·exact hall.out j (by omega))
   clear hall HC
   generalize zs.getD k 0=z at *
   generalize hpz:p z=pz at *
   have HPZ:=hide hpz
   clear hpz
   go_wp2_with fail
   refine HCALL.out.mono ?_
   rintro e w1 ⟨rfl,y1⟩
   cases pz
   ·go_wp2
    go_roundw
    case rel=>exact⟨k+1,by omega,by go_num,hide (HSTEP.out (by simp)),qT hext y1⟩
    case measure=>simp [intOf];omega
   ·go_wp2
    go_ret
    exact⟨k,by
     have:zs.any p=true:=List.any_eq_true.2 ⟨z,HM.out,HPZ.out⟩
     rw [this];simp,rfl,qT hext y1⟩
  ·obtain rfl:k=n:=by omega
   have HB:Hid (zs.any p=false):=hide (by
    rw [List.any_eq_false]
    intro q hq
    obtain⟨j,hj,rfl⟩:=List.mem_iff_getElem.1 hq
    have:=hall.out j (by rw [HN.out] at hj;exact hj)
    simpa [hj] using this)
   clear hall hz HC
   go_wp2
   go_ret
   exact⟨-1,by rw [HB.out];simp,rfl,hext⟩
theorem hasInts_two(cl:FuncId)(c0_ c1_:Value)(p:Int→Bool)(A:Option Addr)(n c:Nat)(zs:List Int)(w:World)(hn:zs.length=n)(hm:n≤9223372036854775807)(hz:IntsAt w A zs)
  (eg:∀ args W,(callFunc cl args).run Crz.prog W=.ok (.enter cl args) W) (hcl:∀ z W,Ext w W→Calls Crz.prog cl #[.int .i64 z,c0_,c1_] W fun e w'=>e=.returned (.bool (p z))∧Ext W w') :
  Calls Crz.prog 85 #[.slice A n c,.func (.func cl) #[] #[c0_,c1_]] w fun e w'=>e=.returned (.bool (zs.any p))∧Ext w w':=by
 have HI:=hide (idxInts_two cl c0_ c1_ p A n c zs w hn hm hz eg hcl)
 clear hn hz hcl eg
 generalize zs.any p=b at *
 go_enter Crz.func85,Tryz.ntmps85
 go_wp2_with fail
 refine HI.out.mono ?_
 rintro e w1 ⟨r,hr,rfl,x1⟩
 have HR:=hide hr
 clear hr
 go_wp2
 go_ret
 exact⟨by rw [← HR.out];rfl,x1⟩
theorem idxLetter_any(A:Option Addr)(n c:Nat)(ps:List PieceM)(l:Int)(a:Addr)(w:World)(hn:ps.length=n)(hm:n≤1000)(hp:PiecesAt w A ps)(hc:w.cell? a=some (.int .u8 l))(ha:a.spot=none) :
  Calls Crz.prog 141 #[.slice A n c,.func (.func 121) #[] #[.pointer (some a)]] w (SomeIdx (ps.any (fun q=>decide (q.letter=l))) w):=by
 have HN:=hide hn
 clear hn
 go_enter Crz.func141,Tryz.ntmps141
 go_wp2
 go_loopw [5,8] (fun _ i wr=>∃ k:Nat,k≤n∧i=.int .i64 k∧Hid (∀ (j:Nat) (q:PieceM),j<k→ps[j]? = some q→q.letter≠l)∧Ext w wr) (fun _ i _=>n-(intOf i).toNat)
 case atStart=>exact⟨0,Nat.zero_le _,rfl,hide (fun j q hj=>by omega),Below.refl _ _⟩
 case round =>
  obtain⟨k,hk,rfl,hall,hext⟩:=hrel
  by_cases hlt:k<n
  ·have hkl:k<ps.length:=by rw [HN.out];exact hlt
   have hget:ps[k]? = some ps[k]:=List.getElem?_eq_getElem hkl
   have HG:=hide hget
   obtain⟨b,o,wA,wc,rfl,c0,c1,c2,c3,hw⟩:=(hp.ext hext).get hget
   have hca:=Ext.cell hext hc
   clear hget hp hw
   generalize ps[k]=q at *
   by_cases hql:q.letter=l
   ·have hb:(q.letter == l)=true:=by simpa using hql
    have HB:Hid (ps.any (fun q=>decide (q.letter=l))=true):=hide (by
     rw [List.any_eq_true]
     exact⟨q,List.mem_of_getElem? HG.out,by simpa using hql⟩)
    clear hql hall
    go_wp2_with (go_at_call 121;refine(pieces1_any _ _ _ _ 0 0 _ _ _ hca ha).mono ?_;rintro e w1 ⟨rfl,x1⟩)
    go_ret
    exact⟨k,by rw [HB.out];simp,rfl,qT hext x1⟩
   ·have hb:(q.letter == l)=false:=by simpa using hql
    have HALL:Hid (∀ (j:Nat) (q:PieceM),j<k+1→ps[j]? = some q→q.letter≠l):=hide (fun j q' hj hq'=>by
     by_cases e:j=k
     ·subst e
      rw [HG.out] at hq'
      injection hq' with e2
      subst e2
      exact hql
     ·exact hall.out j q' (by omega) hq')
    clear hql hall
    go_wp2_with (go_at_call 121;refine(pieces1_any _ _ _ _ 0 0 _ _ _ hca ha).mono ?_;rintro e w1 ⟨rfl,x1⟩)
    go_roundw
    case rel=>exact⟨k+1,by omega,by go_num,HALL,qT hext x1⟩
    case measure=>simp [intOf];omega
  ·obtain rfl:k=n:=by omega
   have HB:Hid (ps.any (fun q=>decide (q.letter=l))=false):=hide (by
    rw [List.any_eq_false]
    intro q hq
    obtain⟨j,hj,rfl⟩:=List.mem_iff_getElem.1 hq
    have:=hall.out j ps[j] (by rw [HN.out] at hj;exact hj) (List.getElem?_eq_getElem hj)
    simpa using this)
   clear hall
   go_wp2
   go_ret
   exact⟨-1,by rw [HB.out];simp,rfl,hext⟩
theorem hasLetter_any(A:Option Addr)(n c:Nat)(ps:List PieceM)(l:Int)(a:Addr)(w:World)(hn:ps.length=n)(hm:n≤1000)(hp:PiecesAt w A ps)(hc:w.cell? a=some (.int .u8 l))(ha:a.spot=none) :
  Calls Crz.prog 120 #[.slice A n c,.func (.func 121) #[] #[.pointer (some a)]] w fun e w'=>e=.returned (.bool (ps.any (fun q=>decide (q.letter=l))))∧Ext w w':=by
 have HI:=hide (idxLetter_any A n c ps l a w hn hm hp hc ha)
 clear hn hp hc ha
 generalize ps.any (fun q=>decide (q.letter=l))=b at *
 go_enter Crz.func120,Tryz.ntmps120
 go_wp2_with fail
 refine HI.out.mono ?_
 rintro e w1 ⟨r,hr,rfl,x1⟩
 have HR:=hide hr
 clear hr
 go_wp2
 go_ret
 exact⟨by rw [← HR.out];rfl,x1⟩
theorem pieceE_get{ps:List PieceM}{k:Nat}{p:PieceM}(h:ps[k]? = some p):pieceE ps k=(if !inB p.letter 65 90 then 6
  else if (ps.take k).any (fun q=>decide (q.letter=p.letter)) then 7
  else if !(inB p.hand 0 64 && inB p.promote 0 ps.length) then 4
  else if 16<p.ways.length then 2
  else if p.ways.all wayB then 0 else 4):=by
 unfold pieceE
 rw [h]
theorem piecesE_at{ps:List PieceM}{k:Nat}{c:Int}(h0:ps.length≠0)(h6:¬ 6<ps.length)(hz:∀ j,j<k→pieceE ps j=0)(hk:k<ps.length)(hc:pieceE ps k=c)(h:c≠0):piecesE ps=c:=by
 unfold piecesE
 rw [if_neg h0,if_neg h6,firstE_eq (pieceE ps) ps.length 0 k (fun j _ hj=>hz j hj) (Nat.zero_le _) (by omega) (by rw [hc];exact h),hc]
theorem piecesE_all{ps:List PieceM}(h0:ps.length≠0)(h6:¬ 6<ps.length)(hz:∀ j,j<ps.length→pieceE ps j=0):piecesE ps=0:=by
 unfold piecesE
 rw [if_neg h0,if_neg h6]
 exact(firstE_zero _ _ _).2 (fun j _ hj=>hz j (by omega))
theorem wayB_no{x:WayM}(h:wayB x=false) :
  inB x.dx (-7) 7=false∨(inB x.dx (-7) 7=true∧inB x.dy (-7) 7=false)∨(inB x.dx (-7) 7=true∧inB x.dy (-7) 7=true∧(x.dx == 0)=true∧(x.dy == 0)=true) ∨
  (inB x.dx (-7) 7=true∧inB x.dy (-7) 7=true∧(x.dx == 0)=true∧(x.dy == 0)=false∧inB x.most 1 7=false)∨(inB x.dx (-7) 7=true∧inB x.dy (-7) 7=true∧(x.dx == 0)=false∧(x.dx == 0)=false∧inB x.most 1 7=false) ∨
  (inB x.dx (-7) 7=true∧inB x.dy (-7) 7=true∧(x.dx == 0)=true∧(x.dy == 0)=false∧inB x.most 1 7=true∧inB x.take 0 2=false)∨(inB x.dx (-7) 7=true∧inB x.dy (-7) 7=true∧(x.dx == 0)=false∧(x.dx == 0)=false∧inB x.most 1 7=true∧inB x.take 0 2=false):=by
 unfold wayB at h
 by_cases h1:inB x.dx (-7) 7=true <;> by_cases h2:inB x.dy (-7) 7=true <;> by_cases h3:x.dx=0 <;> by_cases h4:x.dy=0 <;> by_cases h5:inB x.most 1 7=true <;> simp_all
theorem wayB_yes{x:WayM}(h:wayB x=true) :
  (inB x.dx (-7) 7=true∧inB x.dy (-7) 7=true∧(x.dx == 0)=true∧(x.dy == 0)=false∧inB x.most 1 7=true∧inB x.take 0 2=true)∨(inB x.dx (-7) 7=true∧inB x.dy (-7) 7=true∧(x.dx == 0)=false∧inB x.most 1 7=true∧inB x.take 0 2=true):=by
 unfold wayB at h
 by_cases h3:x.dx=0 <;> by_cases h4:x.dy=0 <;> simp_all
def Code(c:Int)(w:World)(e:Ending)(w':World):Prop:=e=.returned (.int .i64 c)∧Ext w w'
theorem pieces_none(v0 v1 v2 v4 v5 v6 v7 v8 v9 v10:Value)(A:Option Addr)(c:Nat)(w:World) :
  Calls Crz.prog 84 #[.agg #[v0,v1,v2,.slice A 0 c,v4,v5,v6,v7,v8,v9,v10]] w (Code 8 w):=by
 go_enter Crz.func84,Tryz.ntmps84
 go_wp2
 go_ret
 exact⟨rfl,qA (Below.refl _ _) _⟩
theorem pieces_many(v0 v1 v2 v4 v5 v6 v7 v8 v9 v10:Value)(A:Option Addr)(n c:Nat)(w:World)(h:6<n) :
  Calls Crz.prog 84 #[.agg #[v0,v1,v2,.slice A n c,v4,v5,v6,v7,v8,v9,v10]] w (Code 2 w):=by
 have h0:((n:Int) == 0)=false:=by simp;omega
 go_enter Crz.func84,Tryz.ntmps84
 go_wp2
 go_ret
 exact⟨rfl,qA (Below.refl _ _) _⟩
set_option maxRecDepth 100000 in
set_option maxHeartbeats 4000000 in
theorem pieces_any(v0 v1 v2 v4 v5 v6 v7 v8 v9 v10:Value)(A:Option Addr)(n c:Nat)(ps:List PieceM)(w:World)(hn:ps.length=n)(hn0:1≤n)(hn6:n≤6)(hcap:n≤c)(hp:PiecesAt w A ps) :
  Calls Crz.prog 84 #[.agg #[v0,v1,v2,.slice A n c,v4,v5,v6,v7,v8,v9,v10]] w (Code (piecesE ps) w):=by
 have HN:=hide hn
 have HE:Hid (∀ k c,(∀ j,j<k→pieceE ps j=0)→k<n→pieceE ps k=c→c≠0→piecesE ps=c):=hide (fun k c hz hk hc h=>piecesE_at (by omega) (by omega) hz (by omega) hc h)
 have HA:Hid ((∀ j,j<n→pieceE ps j=0)→piecesE ps=0):=hide (fun hz=>piecesE_all (by omega) (by omega) (by rw [hn];exact hz))
 have h0:((n:Int) == 0)=false:=by simp;omega
 clear hn
 generalize piecesE ps=E at *
 go_enter Crz.func84,Tryz.ntmps84
 go_wp2
 have x1:Ext w (w.alloc (.cells #[v0,v1,v2,.slice A n c,v4,v5,v6,v7,v8,v9,v10] 26)):=qA (Below.refl _ _) _
 have f3:=nC w #[v0,v1,v2,.slice A n c,v4,v5,v6,v7,v8,v9,v10] 26 3
 replace f3:=f3.trans (show _=some (Value.slice A n c) from rfl)
 have hp1:=hp.ext x1
 clear hp
 generalize w.alloc _=w1 at *
 generalize w.heap.size=B at *
 go_loopw [3,4,18] (fun _ _ i wr=>∃ k:Nat,k≤n∧i=.int .i64 k∧Hid (∀ j,j<k→pieceE ps j=0)∧Ext w1 wr) (fun _ _ i _=>n-(intOf i).toNat)
 case atStart=>exact⟨0,Nat.zero_le _,rfl,hide (fun j hj=>by omega),Below.refl _ _⟩
 case round =>
  obtain⟨k,hk,rfl,hz,hext⟩:=hrel
  have g3:=Ext.cell hext f3
  clear f3
  by_cases hlt:k<n
  ·have hkl:k<ps.length:=by rw [HN.out];exact hlt
   have hget:ps[k]? = some ps[k]:=List.getElem?_eq_getElem hkl
   obtain⟨b,o,wA,wc,rfl,c0,c1,c2,c3,hw⟩:=(hp1.ext hext).get hget
   have HP:=hide (pieceE_get hget)
   have hlen:ps.length=n:=HN.out
   have htk:=(hp1.ext hext).take k
   have htl:(ps.take k).length=k:=by rw [List.length_take];omega
   rw [hlen] at HP
   clear hp1 hlen hget
   generalize ps[k]=q at *
   have HH:=hide (fun a W (hW:Ext wr W) hc ha=>hasLetter_any (some ⟨b,o,none⟩) k c (ps.take k) q.letter a W htl (by omega) (htk.ext hW) hc ha)
   clear htl htk
   generalize hdup:(ps.take k).any (fun q'=>decide (q'.letter=q.letter))=dup at *
   clear hdup
   have HQ:=hide hw
   clear hw
   cases hl:inB q.letter 65 90
   ·have HF:=hide (HE.out k 6 hz.out hlt (HP.out.trans (by simp [hl])) (by omega))
    have hl':q.letter<65∨(65≤q.letter∧90<q.letter):=by simp [inB] at hl;omega
    clear hl HP HE HH HA hz
    rcases hl' with hl' | ⟨hl1,hl2⟩
    all_goals
     go_wp2
     go_ret
     exact⟨by rw [HF.out];rfl,qT x1 (qA hext _)⟩
   ·have hl1:65≤q.letter∧q.letter≤90:=by simpa [inB] using hl
    obtain⟨hl1,hl2⟩:=hl1
    cases hd:dup
    ·have HD:Hid (dup=false):=hide hd
     subst hd
     have e0:(wr.alloc (.cells #[.int .u8 q.letter,.int .i64 q.hand,.int .i64 q.promote,.slice wA q.ways.length wc] 73)).cell? ⟨wr.heap.size,0,none⟩=some (.int .u8 q.letter):=nC _ _ _ 0
     have e1:(wr.alloc (.cells #[.int .u8 q.letter,.int .i64 q.hand,.int .i64 q.promote,.slice wA q.ways.length wc] 73)).cell? ⟨wr.heap.size,1,none⟩=some (.int .i64 q.hand):=nC _ _ _ 1
     have e2:(wr.alloc (.cells #[.int .u8 q.letter,.int .i64 q.hand,.int .i64 q.promote,.slice wA q.ways.length wc] 73)).cell? ⟨wr.heap.size,2,none⟩=some (.int .i64 q.promote):=nC _ _ _ 2
     have e3:(wr.alloc (.cells #[.int .u8 q.letter,.int .i64 q.hand,.int .i64 q.promote,.slice wA q.ways.length wc] 73)).cell? ⟨wr.heap.size,3,none⟩=some (.slice wA q.ways.length wc):=nC _ _ _ 3
     have hcall:=HH.out ⟨wr.heap.size,0,none⟩ _ (qA (Below.refl _ _) _) e0 rfl
     have HCALL:=hide hcall
     have G3:=Ext.cell (qA (Below.refl _ _) (.cells #[.int .u8 q.letter,.int .i64 q.hand,.int .i64 q.promote,.slice wA q.ways.length wc] 73)) g3
     have E0:=hide e0
     have E1:=hide e1
     have E2:=hide e2
     have E3:=hide e3
     clear e0 e1 e2 e3 hcall
     go_wp2_with fail
     refine HCALL.out.mono ?_
     rintro e w2 ⟨rfl,x2⟩
     have y2:=qT (qA (Below.refl _ _) _) x2
     have k3:=Ext.cell y2 g3
     have d0:=Ext.cell x2 E0.out
     have d1:=Ext.cell x2 E1.out
     have d2:=Ext.cell x2 E2.out
     have d3:=Ext.cell x2 E3.out
     clear x2 HH HCALL G3 g3 c0 c1 c2 c3 E0 E1 E2 E3
     generalize wr.heap.size=B2 at *
     cases h3:inB q.hand 0 64 && inB q.promote 0 n
     ·have HF:=hide (HE.out k 4 hz.out hlt (HP.out.trans (by simp [hl,h3])) (by omega))
      clear hl HP HE HA hz
      cases h31:inB q.hand 0 64
      ·clear h3
       go_wp2_with (go_at_call 83;refine(qW _ _ _ _).mono ?_;rintro e w' ⟨rfl,rfl⟩)
       go_ret
       exact⟨by rw [HF.out];rfl,qT x1 (qT hext y2)⟩
      ·have h32:inB q.promote 0 n=false:=by rw [h31] at h3;simpa using h3
       clear h3
       go_wp2_with (go_at_call 83;refine(qW _ _ _ _).mono ?_;rintro e w' ⟨rfl,rfl⟩)
       go_ret
       exact⟨by rw [HF.out];rfl,qT x1 (qT hext y2)⟩
     ·obtain⟨h31,h32⟩:=Bool.and_eq_true_iff.1 h3
      by_cases h4:16<q.ways.length
      ·have HF:=hide (HE.out k 2 hz.out hlt (HP.out.trans (by simp [hl,h31,h32,h4])) (by omega))
       clear hl HP HE HA hz h3
       go_wp2_with (go_at_call 83;refine(qW _ _ _ _).mono ?_;rintro e w' ⟨rfl,rfl⟩)
       go_ret
       exact⟨by rw [HF.out];rfl,qT x1 (qT hext y2)⟩
      ·have Y:=qT hext y2
       have HW:=hide (CellsAt.ext HQ.out y2)
       have hwl:(q.ways.length:Int)≤16:=by omega
       have hwm:q.ways.length≤16:=by omega
       have HPW:Hid (pieceE ps k=if q.ways.all wayB then 0 else 4):=hide (HP.out.trans (by simp [hl,h31,h32,h4]))
       clear hl HP HQ h3 h4 y2 hext
       go_wp2_with (go_at_call 83;refine(qW _ _ _ _).mono ?_;rintro e w' ⟨rfl,rfl⟩)
       clear d0 d1 d2 k3 h31 h32
       go_loopw [6,61] (fun _ i wr=>∃ j:Nat,j≤q.ways.length∧i=.int .i64 j∧Hid (∀ (i:Nat) (x:WayM),i<j→q.ways[i]? = some x→wayB x=true)∧Ext w2 wr) (fun _ i _=>q.ways.length-(intOf i).toNat)
       case atStart=>exact⟨0,Nat.zero_le _,rfl,hide (fun i x hi=>by omega),Below.refl _ _⟩
       case round =>
        obtain⟨j,hj,rfl,hall,hx⟩:=hrel
        by_cases hjt:j<q.ways.length
        ·have hget:q.ways[j]? = some q.ways[j]:=List.getElem?_eq_getElem hjt
         obtain⟨b',o',rfl,c0,c1,c2,c3⟩:=WaysAt.get (CellsAt.ext HW.out hx) hget
         have HGJ:=hide hget
         clear hget
         generalize q.ways[j]=x at *
         cases hwb:wayB x
         ·have HF:=hide (HE.out k 4 hz.out hlt (HPW.out.trans (by
           rw [if_neg]
           intro hh
           rw [List.all_eq_true] at hh
           rw [hh x (List.mem_of_getElem? HGJ.out)] at hwb
           cases hwb)) (by omega))
          have hcs:=wayB_no hwb
          clear hwb HPW HE HA hz hall
          rcases hcs with h1 | ⟨h1,h2⟩ | ⟨h1,h2,h3,h4⟩ | ⟨h1,h2,h3,h4,h5⟩ | ⟨h1,h2,h3,h4,h5⟩ | ⟨h1,h2,h3,h4,h5,h6⟩ | ⟨h1,h2,h3,h4,h5,h6⟩
          all_goals
           go_wp2_with (go_at_call 83;refine(qW _ _ _ _).mono ?_;rintro e w' ⟨rfl,rfl⟩)
           go_ret
           exact⟨by rw [HF.out];rfl,qT x1 (qT Y (qA hx _))⟩
         ·have HALL:Hid (∀ (i:Nat) (x:WayM),i<j+1→q.ways[i]? = some x→wayB x=true):=hide (fun i x' hi hx'=>by
           by_cases e:i=j
           ·subst e
            rw [HGJ.out] at hx'
            injection hx' with e2
            subst e2
            exact hwb
           ·exact hall.out i x' (by omega) hx')
          have hcs:=wayB_yes hwb
          clear hwb HPW HE HA hz hall
          rcases hcs with ⟨h1,h2,h3,h4,h5,h6⟩ | ⟨h1,h2,h3,h5,h6⟩
          all_goals
           go_wp2_with (go_at_call 83;refine(qW _ _ _ _).mono ?_;rintro e w' ⟨rfl,rfl⟩)
           go_roundw
           case rel=>exact⟨j+1,by omega,by go_num,HALL,qA hx _⟩
           case measure=>simp [intOf];omega
        ·obtain rfl:j=q.ways.length:=by omega
         have HK:Hid (∀ i,i<k+1→pieceE ps i=0):=hide (fun i hi=>by
          by_cases e:i=k
          ·subst e
           rw [HPW.out,if_pos]
           rw [List.all_eq_true]
           intro x hx
           obtain⟨i',hi',rfl⟩:=List.mem_iff_getElem.1 hx
           exact hall.out i' _ hi' (List.getElem?_eq_getElem hi')
          ·exact hz.out i (by omega))
         clear HPW HE HA hz hall
         go_wp2
         go_roundw
         case rel=>exact⟨k+1,by omega,by go_num,HK,qT Y hx⟩
         case measure=>simp [intOf];omega
    ·have HF:=hide (HE.out k 7 hz.out hlt (HP.out.trans (by simp [hl,hd])) (by omega))
     subst hd
     clear hl HP HE HA hz
     have e0:(wr.alloc (.cells #[.int .u8 q.letter,.int .i64 q.hand,.int .i64 q.promote,.slice wA q.ways.length wc] 73)).cell? ⟨wr.heap.size,0,none⟩=some (.int .u8 q.letter):=nC _ _ _ 0
     have e1:(wr.alloc (.cells #[.int .u8 q.letter,.int .i64 q.hand,.int .i64 q.promote,.slice wA q.ways.length wc] 73)).cell? ⟨wr.heap.size,1,none⟩=some (.int .i64 q.hand):=nC _ _ _ 1
     have e2:(wr.alloc (.cells #[.int .u8 q.letter,.int .i64 q.hand,.int .i64 q.promote,.slice wA q.ways.length wc] 73)).cell? ⟨wr.heap.size,2,none⟩=some (.int .i64 q.promote):=nC _ _ _ 2
     have e3:(wr.alloc (.cells #[.int .u8 q.letter,.int .i64 q.hand,.int .i64 q.promote,.slice wA q.ways.length wc] 73)).cell? ⟨wr.heap.size,3,none⟩=some (.slice wA q.ways.length wc):=nC _ _ _ 3
     have hcall:=HH.out ⟨wr.heap.size,0,none⟩ _ (qA (Below.refl _ _) _) e0 rfl
     have HCALL:=hide hcall
     have G3:=Ext.cell (qA (Below.refl _ _) (.cells #[.int .u8 q.letter,.int .i64 q.hand,.int .i64 q.promote,.slice wA q.ways.length wc] 73)) g3
     have E0:=hide e0
     have E1:=hide e1
     have E2:=hide e2
     have E3:=hide e3
     clear e0 e1 e2 e3 hcall
     go_wp2_with fail
     refine HCALL.out.mono ?_
     rintro e w2 ⟨rfl,x2⟩
     have y2:=qT (qA (Below.refl _ _) _) x2
     have k3:=Ext.cell y2 g3
     have d0:=Ext.cell x2 E0.out
     have d1:=Ext.cell x2 E1.out
     have d2:=Ext.cell x2 E2.out
     have d3:=Ext.cell x2 E3.out
     clear x2 HH HCALL G3 g3 c0 c1 c2 c3 E0 E1 E2 E3
     generalize wr.heap.size=B2 at *
     go_wp2
     go_ret
     exact⟨by rw [HF.out];rfl,qT x1 (qT hext y2)⟩
  ·obtain rfl:k=n:=by omega
   have HZ:=hide (HA.out hz.out)
   clear hz hp1
   go_wp2
   go_ret
   exact⟨by rw [HZ.out];rfl,qT x1 hext⟩
end Go.Proofs.YtdoibgmmijhlfaaGreat
