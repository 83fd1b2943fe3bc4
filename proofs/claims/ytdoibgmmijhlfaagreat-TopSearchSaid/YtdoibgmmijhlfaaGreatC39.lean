/- CrZ CrY TopC -/
import Derived.Test.YtdoibgmmijhlfaaGreatC37
import Derived.Test.YtdoibgmmijhlfaaGreatC38
namespace Go.Proofs.YtdoibgmmijhlfaaGreat
set_option linter.unusedVariables false
def Row0(R:RM)(P:PosM)(d:Nat)(c:Nat→Int):Prop:=∀ i m,(listM R P)[i]? = some m→c i=scoreOf R P d m
theorem row0_ex(R:RM)(P:PosM)(d:Nat):∃ c,Row0 R P d c:=⟨fun i=>((listM R P)[i]?.map (scoreOf R P d)).getD 0,fun i m h=>by simp [h]⟩
theorem arg_take{f:MM→Int}{L:List MM}{c:Nat→Int}{a:MM×Int}(hc:∀ i m,L[i]? = some m→c i=f m)(ha:∀ m∈L,a.2<f m) :
  ∀ k,k<L.length→∃ m,L[argI c (k+1)]? = some m∧bestL f a (L.take (k+1))=(m,f m)∧argI c (k+1)≤k
 | 0,h=>by
  have h0:argI c (0+1)=0:=by simp [argI]
  have hm:L[0]? = some L[0]:=List.getElem?_eq_getElem h
  refine⟨L[0],by rw [h0];exact hm,?_,by rw [h0];omega⟩
  rw [List.take_add_one,hm]
  show bestL f a ([]++[L[0]])=_
  rw [bestL_append,show bestL f a []=a from rfl,if_pos (ha _ (List.getElem_mem h))]
 | k+1,h=>by
  obtain⟨m,h1,h2,h3⟩:=arg_take hc ha k (by omega)
  have hm:L[k+1]? = some L[k+1]:=List.getElem?_eq_getElem h
  have e:argI c (k+1+1)=if c (argI c (k+1))<c (k+1) then k+1 else argI c (k+1):=rfl
  rw [List.take_add_one,hm,e,hc _ _ h1,hc _ _ hm]
  show ∃ m',_∧bestL f a (L.take (k+1)++[L[k+1]])=_∧_
  rw [bestL_append,h2]
  show ∃ m',_∧(if f m<f L[k+1] then _ else _)=_∧_
  by_cases q:f m<f L[k+1]
  ·rw [if_pos q,if_pos q];exact⟨_,hm,rfl,Nat.le_refl _⟩
  ·rw [if_neg q,if_neg q];exact⟨_,h1,rfl,by omega⟩
theorem score_low(R:RM)(P:PosM){d:Nat}(hd:d≤99)(hT:P.turn=0∨P.turn=1)(m:MM):-2000<scoreOf R P d m:=by
 have h:=near_bound (d:=d) (by omega) (of_bound R d (makeM R P m) (turn_make hT m) (by omega))
 unfold scoreOf
 unfold boundB at h
 omega
theorem first_row{R:RM}{P:PosM}{d:Nat}{c:Nat→Int}(hc:Row0 R P d c)(hd:d≤99)(hT:P.turn=0∨P.turn=1)(hr:rM R P=0) :
  ∃ m,(listM R P)[argI c (listM R P).length]? = some m∧firstM R d P=(m,c (argI c (listM R P).length))∧argI c (listM R P).length<(listM R P).length:=by
 have hne:=moves_open hT hr
 obtain⟨n,hn⟩:∃ n,(listM R P).length=n+1:=⟨(listM R P).length-1,by have:=List.length_pos_iff.2 hne;omega⟩
 obtain⟨m,h1,h2,h3⟩:=arg_take (f:=scoreOf R P d) (a:=(⟨0,0,0⟩,-2000)) hc (fun m _=>score_low R P hd hT m) n (by omega)
 rw [hn]
 refine⟨m,h1,?_,by omega⟩
 rw [hc _ _ h1]
 rw [← hn,List.take_length] at h2
 exact h2
theorem crowd_zero{R:RM}{P:PosM}{D W:Int}(h:crowdE R P D W=0):perftE R P D=0∧1≤D∧rM R P=0:=by
 unfold crowdE at h
 by_cases h1:perftE R P D=0
 ·rw [if_neg (by simpa using h1)] at h
  by_cases h2:D=0∨W<1∨8<W
  ·rw [if_pos h2] at h;omega
  ·rw [if_neg h2] at h
   by_cases h3:rM R P=0
   ·have:=(perft_zero h1).2.2.1
    exact⟨h1,by omega,h3⟩
   ·rw [if_pos h3] at h;omega
 ·rw [if_pos h1] at h;exact absurd h h1
theorem crowd_best{R:RM}{P:PosM}{D W:Int}(h1:1≤W)(h8:W≤8):crowdE R P D W=bestE R P D:=by
 unfold crowdE bestE
 by_cases h:D=0
 ·rw [if_pos (show D=0∨W<1∨8<W from .inl h),if_pos h]
 ·rw [if_neg (show ¬(D=0∨W<1∨8<W) by omega),if_neg h]
end Go.Proofs.YtdoibgmmijhlfaaGreat
namespace Go.Proofs.YtdoibgmmijhlfaaGreat
open Go.ChangeShapes Go.WideShapes Go.ChangeAt Go.RowKit Go.Shelf
set_option linter.unusedVariables false
def Said(e:Ending)(w:World):Prop:=(∃ n nw f O c,e=.panicked [{ v:=markV n nw f,recovered:=false }]∧ScPre w n nw f O c)∨(∃ n nw f O,e=.panicked [{ v:=markV n nw f,recovered:=false }]∧CtPre w n nw f O)∨∃ p,e=.panicked [{ v:=markL p,recovered:=false }]∧LdPre w p
def PanE(e:Ending)(w:World):Prop:=∃ v,e=.panicked [{ v:=v,recovered:=false }]∧Said e w
def LawR(e:Ending)(w:World):Prop:=e=.returned (.bool true)∨Said e w
theorem panE_sc{n nw:Int}{f:Value}{O:Nat}{c:Nat→Int}{e:Ending}{w:World}(h:e=.panicked [{ v:=markV n nw f,recovered:=false }])(k:ScPre w n nw f O c):PanE e w:=⟨_,h,.inl ⟨n,nw,f,O,c,h,k⟩⟩
section
variable {R:RM}{P:PosM}{v u:Value}{D W:Int}{w:World}
theorem BestL_yes(hR:RA w v R)(hP:PA w u P)(hE:crowdE R P D W=0){c:Nat→Int}(hc:Row0 R P (D.toNat-1) c) :
  Calls Crz.prog 6 #[v,u,.int .i64 D,.int .i64 W] w fun e w'=>(e=.returned (.tuple #[moveV (firstM R (D.toNat-1) P).1,.int .i64 (firstM R (D.toNat-1) P).2,.int .i64 0])∧Ext w w')∨PanE e w':=by
 obtain⟨h1,h2,h3⟩:=crowd_zero hE
 obtain⟨hV,hS,_,h12,_⟩:=perft_zero h1
 obtain⟨m,hm,hf,_⟩:=first_row hc (by omega) hS.turn h3
 rw [hf]
 refine(crowdBest_yes R P v u D W c m w hR hP hc hE hV hS h2 h12 hm).mono fun e w' h=>?_
 rcases h with h | ⟨f,O,e1,k⟩
 ·exact .inl h
 ·exact .inr (panE_sc e1 k)
end
theorem near_crowd{D W:Int}(hD:D=1∨D=2)(h1:1≤W)(h8:W≤8):crowdE threeR nearP D W=0:=by
 rw [crowd_best h1 h8]
 rcases hD with rfl | rfl
 ·decide +kernel
 ·exact near_score.2.2.2
theorem near_rows:(listM threeR nearP).length=5∧(listM threeR nearP)[0]? = some ⟨-1,2,0⟩∧scoreOf threeR nearP 0 ⟨-1,2,0⟩=999∧leafM threeR 2 nearP=16∧leafM threeR 1 nearP=5∧firstM threeR 1 nearP=(⟨-1,2,0⟩,999)∧firstM threeR 0 nearP=(⟨-1,2,0⟩,999):=by decide +kernel
theorem mod_idx{n l:Int}(hl:1≤l):-l<n.tmod l∧n.tmod l<l∧0≤(n.tmod l+l).tmod l∧(n.tmod l+l).tmod l<l:=by
 have h1:-l<n.tmod l∧n.tmod l<l:=by
  have a:=Int.tmod_lt_of_pos n (show 0<l by omega)
  refine⟨?_,a⟩
  have b:=Int.tmod_lt_of_pos (-n) (show 0<l by omega)
  rw [Int.neg_tmod] at b
  omega
 refine⟨h1.1,h1.2,Int.tmod_nonneg _ (by omega),Int.tmod_lt_of_pos _ (by omega)⟩
theorem mod_bd(n:Int)(hn:1≤n)(hb:n≤1000)(a K:Int)(h:(wrap64 (a.tmod n+n)).tmod n=K):0≤K∧K<n:=by
 obtain⟨h1,h2,h3,h4⟩:=mod_idx (n:=a) (l:=n) hn
 have e:wrap64 (a.tmod n+n)=a.tmod n+n:=by unfold wrap64;omega
 rw [e] at h
 omega
section
variable (W:World)(v1 v2:Value)(h1:RA W v1 threeR)(h2:PA W v2 nearP)
include h1 h2
theorem bestS12:Calls Crz.prog 6 #[v1,v2,.int .i64 1,.int .i64 2] W fun e w'=>(e=.returned (.tuple #[moveV ⟨-1,2,0⟩,.int .i64 999,.int .i64 0])∧Ext W w')∨PanE e w':=by
 obtain⟨c,hc⟩:=row0_ex threeR nearP 0
 have h:=BestL_yes h1 h2 (near_crowd (W:=2) (.inl rfl) (by omega) (by omega)) hc
 have e:firstM threeR ((1:Int).toNat-1) nearP=(⟨-1,2,0⟩,999):=near_rows.2.2.2.2.2.2
 rw [e] at h
 exact h
end
end Go.Proofs.YtdoibgmmijhlfaaGreat
namespace Go.Proofs.YtdoibgmmijhlfaaGreat
open Go.ChangeShapes Go.WideShapes Go.ChangeAt Go.RowKit Go.Shelf
set_option linter.unusedVariables false
set_option linter.unusedSimpArgs false
def bheavyB(R:RM)(P:PosM)(D:Int):Bool:=perftE R P D == 17 || decide (2000<perftN R P D) || decide ((16:Int)<(P.cells.length:Int))
set_option maxHeartbeats 4000000 in
set_option maxRecDepth 100000 in
theorem bheavy_any(R:RM)(P:PosM)(v u:Value)(D:Int)(w:World)(hR:RA w v R)(hP:PA w u P) :
  Calls Crz.prog 26 #[v,u,.int .i64 D] w fun e w'=>e=.returned (.bool (bheavyB R P D))∧Ext w w':=by
 have HV:=hide (show bheavyB R P D=(perftE R P D == 17 || decide (2000<perftN R P D) || decide ((16:Int)<(P.cells.length:Int))) from rfl)
 have HT:=hide (fun W (v1 v2:Value) (h1:RA W v1 R) (h2:PA W v2 P)=>PfTree_any R P v1 v2 D W h1 h2)
 have hR0:=hR
 have hP0:=hP
 obtain⟨pA,pc,sA,sc,eA,ec,rfl,-⟩:=hR0
 obtain⟨cA,cc,aA,ac,bA,bc,rfl,-⟩:=hP0
 generalize perftE R P D=E at *
 generalize perftN R P D=N at *
 generalize bheavyB R P D=B at *
 go_enter Crz.func26,Tryz.ntmps26
 go_wp2_with fail
 obtain⟨xa,kR,kP⟩:=blks2 w #[.string R.name,.int .i64 R.width,.int .i64 R.height,.slice pA R.pieces.length pc,.slice sA R.start.length sc,.bool R.falls,.bool R.keeps,.slice eA R.ends.length ec,.int .i64 R.blocked,.int .i64 R.quiet,.int .i64 R.rept] 26 #[.slice cA P.cells.length cc,.slice aA P.hand0.length ac,.slice bA P.hand1.length bc,.int .i64 P.turn,.int .i64 P.quiet] 29
 replace hR:=hR.ext xa
 replace hP:=hP.ext xa
 have X:=xa
 clear xa
 generalize ((w.alloc _).alloc _)=w2 at *
 generalize w.heap.size+1=BP at *
 generalize w.heap.size=BR at *
 have fR:=kR.cell
 have fP:=kP.cell
 go_wp2_with fail
 refine(HT.out _ _ _ hR hP).mono ?_
 rintro e w3 ⟨rfl,x⟩
 replace hR:=hR.ext x
 replace hP:=hP.ext x
 replace kR:=kR.ext x
 replace kP:=kP.ext x
 replace X:=qT X x
 replace fR:=kR.cell
 replace fP:=kP.cell
 clear x
 cases t0:(E == 17)
 ·cases t1:decide (2000<N)
  ·cases t2:decide ((16:Int)<(P.cells.length:Int))
   ·go_wp2
    go_ret
    exact⟨by rw [HV.out,t0,t1,t2];rfl,X⟩
   ·go_wp2
    go_ret
    exact⟨by rw [HV.out,t0,t1,t2];rfl,X⟩
  ·go_wp2
   go_ret
   exact⟨by rw [HV.out,t0,t1];rfl,X⟩
 ·go_wp2
  go_ret
  exact⟨by rw [HV.out,t0];rfl,X⟩
theorem near_tree:perftN threeR nearP 1=6:=by decide +kernel
set_option maxHeartbeats 4000000 in
set_option maxRecDepth 100000 in
theorem bscored_any(w:World):Calls Crz.prog 22 #[] w fun e w'=>e=.returned (.bool true)∧Ext w w':=by
 have HA:=hide (fun W (v1 v2:Value) (h1:RA W v1 threeR) (h2:PA W v2 nearP)=>MScore_any threeR nearP v1 v2 1 W h1 h2)
 rw [near_score.1,near_score.2.1] at HA
 have HB:=hide (fun W (v1 v2:Value) (h1:RA W v1 threeR) (h2:PA W v2 nearP)=>PfTree_any threeR nearP v1 v2 1 W h1 h2)
 rw [near_tree,near_score.2.1] at HB
 have HC:=hide (fun W (v1 v2:Value) (h1:PA W v1 nearP) (h2:PA W v2 nearP)=>PSame_yes nearP v1 v2 W h1 h2 (by decide) (by decide) (by decide))
 go_enter Crz.func22,Tryz.ntmps22
 go_wp2_with fail
 refine(bthree_any _).mono ?_
 rintro e w2 ⟨v1,rfl,h1,x⟩
 have X:=x
 clear x
 go_wp2_with fail
 refine(bnear_any _).mono ?_
 rintro e w3 ⟨v2,rfl,h2,x⟩
 replace h1:=h1.ext x
 replace X:=qT X x
 clear x
 replace h2:=h2.at_
 go_wp2_with fail
 refine(HA.out _ _ _ h1 h2).mono ?_
 rintro e w4 ⟨rfl,x⟩
 replace h1:=h1.ext x
 replace h2:=h2.ext x
 replace X:=qT X x
 clear x
 clear h1 h2
 clear HA
 go_wp2_with fail
 refine(bthree_any _).mono ?_
 rintro e w5 ⟨v3,rfl,h3,x⟩
 replace X:=qT X x
 clear x
 go_wp2_with fail
 refine(bnear_any _).mono ?_
 rintro e w6 ⟨v4,rfl,h4,x⟩
 replace h3:=h3.ext x
 replace X:=qT X x
 clear x
 replace h4:=h4.at_
 go_wp2_with fail
 refine(HB.out _ _ _ h3 h4).mono ?_
 rintro e w7 ⟨rfl,x⟩
 replace h3:=h3.ext x
 replace h4:=h4.ext x
 replace X:=qT X x
 clear x
 clear h3 h4
 clear HB
 obtain⟨xa,kE⟩:=blks1 w7 #[.int .i64 0,.int .i64 0] 32
 replace X:=qT X xa
 clear xa
 go_wp2_with fail
 generalize (w7.alloc _)=w8 at *
 generalize w7.heap.size=BE at *
 refine(fine_ext (bfine_any (some ⟨BE,0,none⟩) 2 2 [0,0] _ rfl (by omega) (blk_ints kE))).mono ?_
 rintro e w9 ⟨rfl,x⟩
 replace kE:=kE.ext x
 replace X:=qT X x
 clear x
 rw [show allZero [0,0]=true from rfl]
 clear kE
 go_wp2_with fail
 refine(bnear_any _).mono ?_
 rintro e w10 ⟨v5,rfl,h5,x⟩
 replace X:=qT X x
 clear x
 replace h5:=h5.at_
 go_wp2_with fail
 refine(bnear_any _).mono ?_
 rintro e w11 ⟨v6,rfl,h6,x⟩
 replace h5:=h5.ext x
 replace X:=qT X x
 clear x
 replace h6:=h6.at_
 go_wp2_with fail
 refine(HC.out _ _ _ h5 h6).mono ?_
 rintro e w12 ⟨rfl,x⟩
 replace h5:=h5.ext x
 replace h6:=h6.ext x
 replace X:=qT X x
 clear x
 clear h5 h6
 clear HC
 go_wp2
 all_goals go_ret
 all_goals exact⟨by first | rfl | simp,X⟩
end Go.Proofs.YtdoibgmmijhlfaaGreat
