/- Scored TopA Window -/
import Derived.Test.YtdoibgmmijhlfaaGreatC36
import Derived.Deep.DeepCutAuto
namespace Go.Proofs.YtdoibgmmijhlfaaGreat
open Go.ChangeShapes Go.WideShapes Go.ChangeAt Go.RowKit Go.Shelf
set_option linter.unusedVariables false
set_option linter.unusedSimpArgs false
theorem near_score:scoreM threeR nearP 1=999∧perftE threeR nearP 1=0∧bestY threeR nearP 2=(⟨-1,2,0⟩,999)∧bestE threeR nearP 2=0:=by decide +kernel
end Go.Proofs.YtdoibgmmijhlfaaGreat
namespace Go.Proofs.YtdoibgmmijhlfaaGreat
open Go.ChangeShapes Go.WideShapes Go.ChangeAt Go.RowKit Go.Shelf
set_option linter.unusedVariables false
theorem bthree_any(w:World):Calls Crz.prog 20 #[] w fun e w'=>∃ v,e=.returned v∧RA w' v threeR∧Ext w w':=by
 have hmk:=make9
 go_enter Crz.func20,Tryz.ntmps20
 go_wp2
 have kR:=Blk.new w 26 #[.string ⟨#[84,73,67]⟩,.int .i64 3,.int .i64 3,.slice (some ⟨w.heap.size+1,0,none⟩) 1 1,.slice (some ⟨w.heap.size+1+1,0,none⟩) 9 9,.bool false,.bool false,.slice (some ⟨w.heap.size+1+1+1,0,none⟩) 1 1,.int .i64 2,.int .i64 0,.int .i64 0]
 have xR:Ext w (w.alloc (.cells #[.string ⟨#[84,73,67]⟩,.int .i64 3,.int .i64 3,.slice (some ⟨w.heap.size+1,0,none⟩) 1 1,.slice (some ⟨w.heap.size+1+1,0,none⟩) 9 9,.bool false,.bool false,.slice (some ⟨w.heap.size+1+1+1,0,none⟩) 1 1,.int .i64 2,.int .i64 0,.int .i64 0] 26)):=qA (Below.refl _ _) _
 have sR:(w.alloc (.cells #[.string ⟨#[84,73,67]⟩,.int .i64 3,.int .i64 3,.slice (some ⟨w.heap.size+1,0,none⟩) 1 1,.slice (some ⟨w.heap.size+1+1,0,none⟩) 9 9,.bool false,.bool false,.slice (some ⟨w.heap.size+1+1+1,0,none⟩) 1 1,.int .i64 2,.int .i64 0,.int .i64 0] 26)).heap.size=w.heap.size+1:=by simp
 generalize w.alloc _=w1 at *
 have cP:=cellsAt_new w1 73 [.int .u8 65,.int .i64 5,.int .i64 0,.slice none 0 0]
 rw [sR] at cP
 have kR2:=kR.alloc (.cells #[.int .u8 65,.int .i64 5,.int .i64 0,.slice none 0 0] 73)
 have xR2:=qA xR (.cells #[.int .u8 65,.int .i64 5,.int .i64 0,.slice none 0 0] 73)
 have sP:(w1.alloc (.cells #[.int .u8 65,.int .i64 5,.int .i64 0,.slice none 0 0] 73)).heap.size=w.heap.size+1+1:=by simp [sR]
 clear kR xR sR
 generalize w1.alloc _=w2 at *
 have cS:=cellsAt_new w2 3 [.int .i64 0,.int .i64 0,.int .i64 0,.int .i64 0,.int .i64 0,.int .i64 0,.int .i64 0,.int .i64 0,.int .i64 0]
 rw [sP] at cS
 have kR3:=kR2.alloc (.cells #[.int .i64 0,.int .i64 0,.int .i64 0,.int .i64 0,.int .i64 0,.int .i64 0,.int .i64 0,.int .i64 0,.int .i64 0] 3)
 have xR3:=qA xR2 (.cells #[.int .i64 0,.int .i64 0,.int .i64 0,.int .i64 0,.int .i64 0,.int .i64 0,.int .i64 0,.int .i64 0,.int .i64 0] 3)
 have cP3:=cP.ext (qA (Below.refl _ _) (.cells #[.int .i64 0,.int .i64 0,.int .i64 0,.int .i64 0,.int .i64 0,.int .i64 0,.int .i64 0,.int .i64 0,.int .i64 0] 3))
 have sS:(w2.alloc (.cells #[.int .i64 0,.int .i64 0,.int .i64 0,.int .i64 0,.int .i64 0,.int .i64 0,.int .i64 0,.int .i64 0,.int .i64 0] 3)).heap.size=w.heap.size+1+1+1:=by simp [sP]
 clear kR2 xR2 cP sP
 generalize w2.alloc _=w3 at *
 have cE:=cellsAt_new w3 75 [.int .i64 0,.int .i64 0,.int .i64 3,.bool false]
 rw [sS] at cE
 have kR4:=kR3.alloc (.cells #[.int .i64 0,.int .i64 0,.int .i64 3,.bool false] 75)
 have xR4:=qA xR3 (.cells #[.int .i64 0,.int .i64 0,.int .i64 3,.bool false] 75)
 have cP4:=cP3.ext (qA (Below.refl _ _) (.cells #[.int .i64 0,.int .i64 0,.int .i64 3,.bool false] 75))
 have cS4:=cS.ext (qA (Below.refl _ _) (.cells #[.int .i64 0,.int .i64 0,.int .i64 3,.bool false] 75))
 clear kR3 xR3 cP3 cS sS
 generalize w3.alloc _=w4 at *
 have f:=kR4.cell
 refine bodyPost_ret (v:=.agg #[.string ⟨#[84,73,67]⟩,.int .i64 3,.int .i64 3,.slice (some ⟨w.heap.size+1,0,none⟩) 1 1,.slice (some ⟨w.heap.size+1+1,0,none⟩) 9 9,.bool false,.bool false,.slice (some ⟨w.heap.size+1+1+1,0,none⟩) 1 1,.int .i64 2,.int .i64 0,.int .i64 0]) ?_ rfl ?_
 ·simp [results,Tryz.results20,go_sem,f]
 ·refine⟨_,rfl,⟨_,1,_,9,_,1,rfl,⟨[[.int .u8 65,.int .i64 5,.int .i64 0,.slice none 0 0]],by simpa using cP4,rfl,fun i p l a b=>?_⟩,cells_ints cS4,cE,by decide,by decide,by decide,by decide⟩,xR4⟩
  match i,a,b with
  | 0,a,b =>
   simp [threeR] at a b
   subst a;subst b
   exact⟨none,0,rfl,cellsAt_nil _ _⟩
  | i+1,a,b=>simp [threeR] at a
theorem bnear_any(w:World):Calls Crz.prog 21 #[] w fun e w'=>∃ v,e=.returned v∧PosOwn w' w.heap.size v nearP∧Ext w w':=by
 go_enter Crz.func21,Tryz.ntmps21
 go_wp2
 obtain⟨x,k0,k1,k2,k3⟩:=blks4 w #[.slice (some ⟨w.heap.size+1,0,none⟩) 9 9,.slice (some ⟨w.heap.size+1+1,0,none⟩) 1 1,.slice (some ⟨w.heap.size+1+1+1,0,none⟩) 1 1,.int .i64 0,.int .i64 0] 29 #[.int .i64 1,.int .i64 1,.int .i64 0,.int .i64 2,.int .i64 2,.int .i64 0,.int .i64 0,.int .i64 0,.int .i64 0] 3 #[.int .i64 3] 3 #[.int .i64 3] 3
 have f:=k0.cell
 refine bodyPost_ret (v:=.agg #[.slice (some ⟨w.heap.size+1,0,none⟩) 9 9,.slice (some ⟨w.heap.size+1+1,0,none⟩) 1 1,.slice (some ⟨w.heap.size+1+1+1,0,none⟩) 1 1,.int .i64 0,.int .i64 0]) ?_ rfl ?_
 ·simp [results,Tryz.results21,go_sem,f]
 ·exact⟨_,rfl,⟨_,9,_,1,_,1,rfl,by omega,by omega,by omega,blk_irow k1,blk_irow k2,blk_irow k3,by decide,by decide,by decide⟩,x⟩
theorem bfine1_any(z:Int)(w:World) :
  Calls Crz.prog 54 #[.int .i64 z] w fun e w'=>e=.returned (.bool (z != 0))∧w=w':=by
 go_enter Crz.func54,Tryz.ntmps54
 go_wp2
 go_ret
 exact⟨rfl,rfl⟩
theorem bfineIdx_no(A:Option Addr)(n c:Nat)(zs:List Int)(w:World)(hn:zs.length=n)(hm:n≤9223372036854775807)
  (hz:IntsAt w A zs) (hall:∀ i,i<n→zs.getD i 0=0) :
  Calls Crz.prog 78 #[.slice A n c,.func (.func 54) #[] #[]] w fun e w'=>e=.returned (.int .i64 (-1))∧w=w':=by
 subst hn
 go_enter Crz.func78,Tryz.ntmps78
 go_wp2
 go_loop [8] (fun i=>∃ k:Nat,k≤zs.length∧i=.int .i64 k) (fun i=>zs.length-(intOf i).toNat)
 case atStart=>exact⟨0,Nat.zero_le _,rfl⟩
 case round =>
  obtain⟨k,hk,rfl⟩:=hrel
  by_cases hlt:k<zs.length
  ·obtain⟨b,o,rfl,hc⟩:=hz k hlt
   rw [hall k hlt] at hc
   clear hall hz
   go_wp2_with (go_at_call 54;refine(bfine1_any _ _).mono ?_;rintro e w' ⟨rfl,rfl⟩)
   go_round
   case rel=>exact⟨k+1,by omega,by go_num⟩
   case measure=>simp [intOf];omega
  ·clear hall hz
   go_wp2
   go_ret
   exact⟨rfl,rfl⟩
theorem bfineIdx_yes(A:Option Addr)(n c j:Nat)(zs:List Int)(w:World)(hn:zs.length=n)(hm:n≤9223372036854775807)
  (hz:IntsAt w A zs) (hj:j<n) (hbad:zs.getD j 0≠0) :
  Calls Crz.prog 78 #[.slice A n c,.func (.func 54) #[] #[]] w fun e w'=>(∃ i:Nat,e=.returned (.int .i64 i))∧w=w':=by
 subst hn
 have HB:=hide hbad
 clear hbad
 go_enter Crz.func78,Tryz.ntmps78
 go_wp2
 go_loop [8] (fun i=>∃ k:Nat,k≤j∧i=.int .i64 k) (fun i=>zs.length-(intOf i).toNat)
 case atStart=>exact⟨0,Nat.zero_le _,rfl⟩
 case round =>
  obtain⟨k,hk,rfl⟩:=hrel
  have hlt:k<zs.length:=by omega
  obtain⟨b,o,rfl,hc⟩:=hz k hlt
  clear hz
  by_cases h0:zs.getD k 0=0
  ·have hkj:k<j:=by
    rcases Nat.lt_or_ge k j with hlt | hge
    ·exact hlt
    ·obtain rfl:k=j:=by omega
     exact absurd h0 HB.out
   rw [h0] at hc
   clear h0 HB
   go_wp2_with (go_at_call 54;refine(bfine1_any _ _).mono ?_;rintro e w' ⟨rfl,rfl⟩)
   go_round
   case rel=>exact⟨k+1,by omega,by go_num⟩
   case measure=>simp [intOf];omega
  ·have h0':(zs.getD k 0 != 0)=true:=by simpa using h0
   clear h0 HB
   generalize zs.getD k 0=z at *
   go_wp2_with (go_at_call 54;refine(bfine1_any _ _).mono ?_;rintro e w' ⟨rfl,rfl⟩)
   go_ret
   exact⟨⟨k,rfl⟩,rfl⟩
theorem bfine_any(A:Option Addr)(n c:Nat)(zs:List Int)(w:World)(hn:zs.length=n)(hm:n≤9223372036854775807)(hz:IntsAt w A zs) :
  Calls Crz.prog 27 #[.slice A n c] w fun e w'=>e=.returned (.bool (allZero zs))∧w=w':=by
 cases h:allZero zs
 ·obtain⟨z,hz1,hz2⟩:∃ z∈zs,z≠0:=by
   unfold allZero at h
   rw [List.all_eq_false] at h
   obtain⟨z,h1,h2⟩:=h
   exact⟨z,h1,by simpa using h2⟩
  obtain⟨j,hj,rfl⟩:=List.mem_iff_getElem.1 hz1
  have hbad:zs.getD j 0≠0:=by simpa [hj] using hz2
  clear h hz1 hz2
  go_enter Crz.func27,Tryz.ntmps27
  go_wp2_with (first | (go_at_call 78;refine(bfineIdx_yes A n c j zs _ hn hm hz (by omega) hbad).mono ?_;rintro e w' ⟨⟨i,rfl⟩,rfl⟩) | (go_at_call 47;go_in))
  go_ret
  exact⟨rfl,rfl⟩
 ·have hall:∀ i,i<n→zs.getD i 0=0:=by
   intro i hi
   unfold allZero at h
   rw [List.all_eq_true] at h
   have:=h (zs[i]'(by omega)) (List.getElem_mem _)
   simpa [hn,hi] using this
  clear h
  go_enter Crz.func27,Tryz.ntmps27
  go_wp2_with (first | (go_at_call 78;refine(bfineIdx_no A n c zs _ hn hm hz hall).mono ?_;rintro e w' ⟨rfl,rfl⟩) | (go_at_call 47;go_in))
  go_ret
  exact⟨rfl,rfl⟩
end Go.Proofs.YtdoibgmmijhlfaaGreat
namespace Go.Proofs.YtdoibgmmijhlfaaGreat
open Go.ChangeShapes Go.WideShapes Go.ChangeAt Go.RowKit Go.Shelf
set_option linter.unusedVariables false
set_option linter.unusedSimpArgs false
def winB(lo hi:Int):Prop:=lo < -1000∨1000<hi∨hi≤lo
instance (lo hi:Int):Decidable (winB lo hi):=inferInstanceAs (Decidable (_∨_))
def winE(R:RM)(P:PosM)(D lo hi:Int):Int:=if perftE R P D≠0 then perftE R P D else if winB lo hi then 4 else 0
def winS(R:RM)(P:PosM)(D lo hi:Int):Int:=if winE R P D lo hi=0 then max lo (min hi (ofM R D.toNat P)) else 0
def winN(R:RM)(P:PosM)(D lo hi:Int):Int:=if winE R P D lo hi=0 then perftN R P D else 0
theorem win_one{R:RM}{P:PosM}{D lo hi:Int}(h:perftE R P D≠0):winE R P D lo hi=perftE R P D∧winS R P D lo hi=0∧winN R P D lo hi=0:=by
 have e:winE R P D lo hi=perftE R P D:=if_pos h
 exact⟨e,if_neg (by rw [e];exact h),if_neg (by rw [e];exact h)⟩
theorem win_two{R:RM}{P:PosM}{D lo hi:Int}(h:perftE R P D=0)(hb:winB lo hi):winE R P D lo hi=4∧winS R P D lo hi=0∧winN R P D lo hi=0:=by
 have e:winE R P D lo hi=4:=by unfold winE;rw [if_neg (by simpa using h),if_pos hb]
 exact⟨e,if_neg (by rw [e];decide),if_neg (by rw [e];decide)⟩
theorem win_three{R:RM}{P:PosM}{D lo hi:Int}(h:perftE R P D=0)(hb:¬ winB lo hi):winE R P D lo hi=0∧winS R P D lo hi=max lo (min hi (ofM R D.toNat P))∧winN R P D lo hi=perftN R P D:=by
 have e:winE R P D lo hi=0:=by unfold winE;rw [if_neg (by simpa using h),if_neg hb]
 exact⟨e,if_pos e,if_pos e⟩
theorem run_max2'(W:World)(ats:Array TypeId)(ty:TypeId)(a b:Int):(Builtin.max_ ats ty #[.int .i64 a,.int .i64 b]).run Crz.prog W=.ok (.int .i64 (max a b)) W:=by
 have e:max a b=if a<b then b else a:=by split <;> omega
 rw [e]
 simp [Builtin.max_,Builtin.max2]
theorem run_min2'(W:World)(ats:Array TypeId)(ty:TypeId)(a b:Int):(Builtin.min_ ats ty #[.int .i64 a,.int .i64 b]).run Crz.prog W=.ok (.int .i64 (min a b)) W:=by
 have e:min a b=if b<a then b else a:=by split <;> omega
 rw [e]
 simp [Builtin.min_,Builtin.min2]
set_option maxHeartbeats 4000000 in
set_option maxRecDepth 100000 in
theorem WScore_any(R:RM)(P:PosM)(v u:Value)(D lo hi:Int)(w:World)(hR:RA w v R)(hP:PA w u P) :
  Calls Crz.prog 30 #[v,u,.int .i64 D,.int .i64 lo,.int .i64 hi] w fun e w'=>e=.returned (.tuple #[.int .i64 (winS R P D lo hi),.int .i64 (winN R P D lo hi),.int .i64 (winE R P D lo hi)])∧Ext w w':=by
 have HT:=hide (fun W (hW:Ext w W)=>PfTree_any R P v u D W (hR.ext hW) (hP.ext hW))
 have HRF:=hide (fun W (hW:Ext w W)=>And.intro (hR.ext hW) (hP.ext hW))
 obtain⟨pA,pc,sA,sc,eA,ec,rfl,-⟩:=hR
 obtain⟨cA,cc,aA,ac,bA,bc,rfl,-⟩:=hP
 obtain⟨x1,k1,k2⟩:=blks2 w #[.string R.name,.int .i64 R.width,.int .i64 R.height,.slice pA R.pieces.length pc,.slice sA R.start.length sc,.bool R.falls,.bool R.keeps,.slice eA R.ends.length ec,.int .i64 R.blocked,.int .i64 R.quiet,.int .i64 R.rept] 26 #[.slice cA P.cells.length cc,.slice aA P.hand0.length ac,.slice bA P.hand1.length bc,.int .i64 P.turn,.int .i64 P.quiet] 29
 have HX:=hide x1
 have K1:=hide k1
 have K2:=hide k2
 clear x1 k1 k2
 have f1:=K1.out.cell
 have f2:=K2.out.cell
 by_cases hz:perftE R P D=0
 ·obtain⟨hV,hS,d0,d1,-⟩:=perft_zero hz
  have HO:=hide (fun W (hW:Ext w W)=>of_any R hV D.toNat (by omega) P _ _ D W (by omega) hS (HRF.out W hW).1 (HRF.out W hW).2)
  rw [hz] at HT
  by_cases hb:winB lo hi
  ·rw [(win_two hz hb).1,(win_two hz hb).2.1,(win_two hz hb).2.2]
   clear hz hV hS d0 d1 HRF HO
   generalize perftN R P D=N at *
   unfold winB at hb
   by_cases h1:lo < -1000
   ·have t0:decide (lo < -1000)=true:=by simpa using h1
    clear hb h1
    go_enter Crz.func30,Tryz.ntmps30
    go_wp2_with fail
    refine(HT.out _ HX.out).mono ?_
    rintro e w2 ⟨rfl,x2⟩
    have X2:=hide (qT HX.out x2)
    clear f1 f2 x2
    go_wp2
    go_ret3
    exact⟨rfl,X2.out⟩
   ·have t0:decide (lo < -1000)=false:=by simpa using h1
    by_cases h2:1000<hi
    ·have t1:decide (1000<hi)=true:=by simpa using h2
     clear hb h1 h2
     go_enter Crz.func30,Tryz.ntmps30
     go_wp2_with fail
     refine(HT.out _ HX.out).mono ?_
     rintro e w2 ⟨rfl,x2⟩
     have X2:=hide (qT HX.out x2)
     clear f1 f2 x2
     go_wp2
     go_ret3
     exact⟨rfl,X2.out⟩
    ·have t1:decide (1000<hi)=false:=by simpa using h2
     have t2:decide (hi≤lo)=true:=by simp;omega
     clear hb h1 h2
     go_enter Crz.func30,Tryz.ntmps30
     go_wp2_with fail
     refine(HT.out _ HX.out).mono ?_
     rintro e w2 ⟨rfl,x2⟩
     have X2:=hide (qT HX.out x2)
     clear f1 f2 x2
     go_wp2
     go_ret3
     exact⟨rfl,X2.out⟩
  ·rw [(win_three hz hb).1,(win_three hz hb).2.1,(win_three hz hb).2.2]
   clear hz hV hS d0 d1 HRF
   generalize perftN R P D=N at *
   generalize ofM R D.toNat P=z at *
   unfold winB at hb
   have t0:decide (lo < -1000)=false:=by simp;omega
   have t1:decide (1000<hi)=false:=by simp;omega
   have t2:decide (hi≤lo)=false:=by simp;omega
   have hmin:∀ W ats ty a b,(Builtin.min_ ats ty #[.int .i64 a,.int .i64 b]).run Crz.prog W=.ok (.int .i64 (min a b)) W:=run_min2'
   have hmax:∀ W ats ty a b,(Builtin.max_ ats ty #[.int .i64 a,.int .i64 b]).run Crz.prog W=.ok (.int .i64 (max a b)) W:=run_max2'
   clear hb
   go_enter Crz.func30,Tryz.ntmps30
   go_wp2_with fail
   refine(HT.out _ HX.out).mono ?_
   rintro e w2 ⟨rfl,x2⟩
   have X2:=hide (qT HX.out x2)
   have g1:=(K1.out.ext x2).cell
   have g2:=(K2.out.ext x2).cell
   clear f1 f2 x2
   go_wp2_with fail
   refine(HO.out _ X2.out).mono ?_
   rintro e w3 ⟨rfl,x3⟩
   have X3:=hide (qT X2.out x3)
   clear g1 g2 x3
   go_wp2
   go_ret3
   exact⟨rfl,X3.out⟩
 ·rw [(win_one hz).1,(win_one hz).2.1,(win_one hz).2.2]
  have t0:(perftE R P D != 0)=true:=by simpa using hz
  clear hz HRF
  generalize perftE R P D=E at *
  go_enter Crz.func30,Tryz.ntmps30
  go_wp2_with fail
  refine(HT.out _ HX.out).mono ?_
  rintro e w2 ⟨rfl,x2⟩
  have X2:=hide (qT HX.out x2)
  clear f1 f2 x2
  go_wp2
  go_ret3
  exact⟨rfl,X2.out⟩
end Go.Proofs.YtdoibgmmijhlfaaGreat
