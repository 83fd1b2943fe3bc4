/- Scored TopA TopC -/
import Derived.Test.YtdoibgmmijhlfaaGreatB38
import Derived.Deep.AppendLies
import Derived.Deep.DeepCutAuto
namespace Go.Proofs.YtdoibgmmijhlfaaGreat
open Go.ChangeShapes Go.WideShapes Go.ChangeAt Go.RowKit Go.Shelf
set_option linter.unusedVariables false
set_option linter.unusedSimpArgs false
theorem near_score : scoreM threeR nearP 1=999∧perftE threeR nearP 1=0∧bestY threeR nearP 2=(⟨-1,2,0⟩,999)∧bestE threeR nearP 2=0:=by decide +kernel
end Go.Proofs.YtdoibgmmijhlfaaGreat
namespace Go.Proofs.YtdoibgmmijhlfaaGreat
open Go.ChangeShapes Go.WideShapes Go.ChangeAt Go.RowKit Go.Shelf
set_option linter.unusedVariables false
theorem bthree_any (w : World) : Calls Crz.prog 20 #[] w fun e w' => ∃ v,e=.returned v∧RulesAt w' v threeR∧Ext w w':=by
 have hmk:=make9
 go_enter Crz.func20,Tryz.ntmps20
 go_wp2
 have kR:=Blk.new w 26 #[.string ⟨#[84,73,67]⟩,.int .i64 3,.int .i64 3,.slice (some ⟨w.heap.size + 1,0,none⟩) 1 1,.slice (some ⟨w.heap.size + 1 + 1,0,none⟩) 9 9,.bool false,.bool false,.slice (some ⟨w.heap.size + 1 + 1 + 1,0,none⟩) 1 1,.int .i64 2,.int .i64 0,.int .i64 0]
 have xR : Ext w (w.alloc (.cells #[.string ⟨#[84,73,67]⟩,.int .i64 3,.int .i64 3,.slice (some ⟨w.heap.size + 1,0,none⟩) 1 1,.slice (some ⟨w.heap.size + 1 + 1,0,none⟩) 9 9,.bool false,.bool false,.slice (some ⟨w.heap.size + 1 + 1 + 1,0,none⟩) 1 1,.int .i64 2,.int .i64 0,.int .i64 0] 26)):=ext_alloc (Below.refl _ _) _
 have sR : (w.alloc (.cells #[.string ⟨#[84,73,67]⟩,.int .i64 3,.int .i64 3,.slice (some ⟨w.heap.size + 1,0,none⟩) 1 1,.slice (some ⟨w.heap.size + 1 + 1,0,none⟩) 9 9,.bool false,.bool false,.slice (some ⟨w.heap.size + 1 + 1 + 1,0,none⟩) 1 1,.int .i64 2,.int .i64 0,.int .i64 0] 26)).heap.size=w.heap.size + 1:=by simp
 generalize w.alloc (.cells #[.string ⟨#[84,73,67]⟩,.int .i64 3,.int .i64 3,.slice (some ⟨w.heap.size + 1,0,none⟩) 1 1,.slice (some ⟨w.heap.size + 1 + 1,0,none⟩) 9 9,.bool false,.bool false,.slice (some ⟨w.heap.size + 1 + 1 + 1,0,none⟩) 1 1,.int .i64 2,.int .i64 0,.int .i64 0] 26)=w1 at *
 have cP:=cellsAt_new w1 73 [.int .u8 65,.int .i64 5,.int .i64 0,.slice none 0 0]
 rw [sR] at cP
 have kR2:=kR.alloc (.cells #[.int .u8 65,.int .i64 5,.int .i64 0,.slice none 0 0] 73)
 have xR2:=ext_alloc xR (.cells #[.int .u8 65,.int .i64 5,.int .i64 0,.slice none 0 0] 73)
 have sP : (w1.alloc (.cells #[.int .u8 65,.int .i64 5,.int .i64 0,.slice none 0 0] 73)).heap.size=w.heap.size + 1 + 1:=by simp [sR]
 clear kR xR sR
 generalize w1.alloc (.cells #[.int .u8 65,.int .i64 5,.int .i64 0,.slice none 0 0] 73)=w2 at *
 have cS:=cellsAt_new w2 3 [.int .i64 0,.int .i64 0,.int .i64 0,.int .i64 0,.int .i64 0,.int .i64 0,.int .i64 0,.int .i64 0,.int .i64 0]
 rw [sP] at cS
 have kR3:=kR2.alloc (.cells #[.int .i64 0,.int .i64 0,.int .i64 0,.int .i64 0,.int .i64 0,.int .i64 0,.int .i64 0,.int .i64 0,.int .i64 0] 3)
 have xR3:=ext_alloc xR2 (.cells #[.int .i64 0,.int .i64 0,.int .i64 0,.int .i64 0,.int .i64 0,.int .i64 0,.int .i64 0,.int .i64 0,.int .i64 0] 3)
 have cP3:=cP.ext (ext_alloc (Below.refl _ _) (.cells #[.int .i64 0,.int .i64 0,.int .i64 0,.int .i64 0,.int .i64 0,.int .i64 0,.int .i64 0,.int .i64 0,.int .i64 0] 3))
 have sS : (w2.alloc (.cells #[.int .i64 0,.int .i64 0,.int .i64 0,.int .i64 0,.int .i64 0,.int .i64 0,.int .i64 0,.int .i64 0,.int .i64 0] 3)).heap.size=w.heap.size + 1 + 1 + 1:=by simp [sP]
 clear kR2 xR2 cP sP
 generalize w2.alloc (.cells #[.int .i64 0,.int .i64 0,.int .i64 0,.int .i64 0,.int .i64 0,.int .i64 0,.int .i64 0,.int .i64 0,.int .i64 0] 3)=w3 at *
 have cE:=cellsAt_new w3 75 [.int .i64 0,.int .i64 0,.int .i64 3,.bool false]
 rw [sS] at cE
 have kR4:=kR3.alloc (.cells #[.int .i64 0,.int .i64 0,.int .i64 3,.bool false] 75)
 have xR4:=ext_alloc xR3 (.cells #[.int .i64 0,.int .i64 0,.int .i64 3,.bool false] 75)
 have cP4:=cP3.ext (ext_alloc (Below.refl _ _) (.cells #[.int .i64 0,.int .i64 0,.int .i64 3,.bool false] 75))
 have cS4:=cS.ext (ext_alloc (Below.refl _ _) (.cells #[.int .i64 0,.int .i64 0,.int .i64 3,.bool false] 75))
 clear kR3 xR3 cP3 cS sS
 generalize w3.alloc (.cells #[.int .i64 0,.int .i64 0,.int .i64 3,.bool false] 75)=w4 at *
 have f:=kR4.cell
 refine bodyPost_ret (v:=.agg #[.string ⟨#[84,73,67]⟩,.int .i64 3,.int .i64 3,.slice (some ⟨w.heap.size + 1,0,none⟩) 1 1,.slice (some ⟨w.heap.size + 1 + 1,0,none⟩) 9 9,.bool false,.bool false,.slice (some ⟨w.heap.size + 1 + 1 + 1,0,none⟩) 1 1,.int .i64 2,.int .i64 0,.int .i64 0]) ?_ rfl ?_
 ·simp [results,Tryz.results20,go_sem,f]
 ·refine ⟨_,rfl,⟨_,1,_,9,_,1,rfl,⟨[[.int .u8 65,.int .i64 5,.int .i64 0,.slice none 0 0]],by simpa using cP4,rfl,fun i p l a b => ?_⟩,cells_ints cS4,cE,by decide,by decide,by decide,by decide⟩,xR4⟩
  match i,a,b with
  | 0,a,b =>
   simp [threeR] at a b
   subst a; subst b
   exact ⟨none,0,rfl,cellsAt_nil _ _⟩
  | i + 1,a,b => simp [threeR] at a
theorem bnear_any (w : World) : Calls Crz.prog 21 #[] w fun e w' => ∃ v,e=.returned v∧PosOwn w' w.heap.size v nearP∧Ext w w':=by
 go_enter Crz.func21,Tryz.ntmps21
 go_wp2
 obtain ⟨x,k0,k1,k2,k3⟩:=blks4 w #[.slice (some ⟨w.heap.size + 1,0,none⟩) 9 9,.slice (some ⟨w.heap.size + 1 + 1,0,none⟩) 1 1,.slice (some ⟨w.heap.size + 1 + 1 + 1,0,none⟩) 1 1,.int .i64 0,.int .i64 0] 29 #[.int .i64 1,.int .i64 1,.int .i64 0,.int .i64 2,.int .i64 2,.int .i64 0,.int .i64 0,.int .i64 0,.int .i64 0] 3 #[.int .i64 3] 3 #[.int .i64 3] 3
 have f:=k0.cell
 refine bodyPost_ret (v:=.agg #[.slice (some ⟨w.heap.size + 1,0,none⟩) 9 9,.slice (some ⟨w.heap.size + 1 + 1,0,none⟩) 1 1,.slice (some ⟨w.heap.size + 1 + 1 + 1,0,none⟩) 1 1,.int .i64 0,.int .i64 0]) ?_ rfl ?_
 ·simp [results,Tryz.results21,go_sem,f]
 ·exact ⟨_,rfl,⟨_,9,_,1,_,1,rfl,by omega,by omega,by omega,blk_irow k1,blk_irow k2,blk_irow k3,by decide,by decide,by decide⟩,x⟩
theorem bput_any (s : Int) (w : World) : Calls Crz.prog 25 #[.int .i64 s] w fun e w' => e=.returned (.agg #[.int .i64 (-1),.int .i64 s,.int .i64 0])∧Ext w w':=by
 go_enter Crz.func25,Tryz.ntmps25
 go_wp2
 have k:=Blk.new w 31 #[.int .i64 (-1),.int .i64 s,.int .i64 0]
 have f:=k.cell
 refine bodyPost_ret (v:=.agg #[.int .i64 (-1),.int .i64 s,.int .i64 0]) ?_ rfl ?_
 ·simp [results,Tryz.results25,go_sem,f]
 ·exact ⟨rfl,ext_alloc (Below.refl _ _) _⟩
theorem bfine1_any (z : Int) (w : World) :
  Calls Crz.prog 54 #[.int .i64 z] w fun e w' => e=.returned (.bool (z != 0))∧w=w':=by
 go_enter Crz.func54,Tryz.ntmps54
 go_wp2
 go_ret
 exact ⟨rfl,rfl⟩
theorem bfineIdx_no (A : Option Addr) (n c : Nat) (zs : List Int) (w : World) (hn : zs.length=n) (hm : n≤9223372036854775807)
  (hz : IntsAt w A zs) (hall : ∀ i,i < n→zs.getD i 0=0) :
  Calls Crz.prog 78 #[.slice A n c,.func (.func 54) #[] #[]] w fun e w' => e=.returned (.int .i64 (-1))∧w=w':=by
 subst hn
 go_enter Crz.func78,Tryz.ntmps78
 go_wp2
 go_loop [8] (fun i => ∃ k : Nat,k≤zs.length∧i=.int .i64 k) (fun i => zs.length - (intOf i).toNat)
 case atStart => exact ⟨0,Nat.zero_le _,rfl⟩
 case round =>
  obtain ⟨k,hk,rfl⟩:=hrel
  by_cases hlt : k < zs.length
  ·obtain ⟨b,o,rfl,hc⟩:=hz k hlt
   rw [hall k hlt] at hc
   clear hall hz
   go_wp2_with (go_at_call 54; refine (bfine1_any _ _).mono ?_; rintro e w' ⟨rfl,rfl⟩)
   go_round
   case rel => exact ⟨k + 1,by omega,by go_num⟩
   case measure => simp [intOf]; omega
  ·clear hall hz
   go_wp2
   go_ret
   exact ⟨rfl,rfl⟩
theorem bfineIdx_yes (A : Option Addr) (n c j : Nat) (zs : List Int) (w : World) (hn : zs.length=n) (hm : n≤9223372036854775807)
  (hz : IntsAt w A zs) (hj : j < n) (hbad : zs.getD j 0 ≠ 0) :
  Calls Crz.prog 78 #[.slice A n c,.func (.func 54) #[] #[]] w fun e w' => (∃ i : Nat,e=.returned (.int .i64 i))∧w=w':=by
 subst hn
 have HB:=hide hbad
 clear hbad
 go_enter Crz.func78,Tryz.ntmps78
 go_wp2
 go_loop [8] (fun i => ∃ k : Nat,k≤j∧i=.int .i64 k) (fun i => zs.length - (intOf i).toNat)
 case atStart => exact ⟨0,Nat.zero_le _,rfl⟩
 case round =>
  obtain ⟨k,hk,rfl⟩:=hrel
  have hlt : k < zs.length:=by omega
  obtain ⟨b,o,rfl,hc⟩:=hz k hlt
  clear hz
  by_cases h0 : zs.getD k 0=0
  ·have hkj : k < j:=by
    rcases Nat.lt_or_ge k j with hlt | hge
    ·exact hlt
    ·obtain rfl : k=j:=by omega
     exact absurd h0 HB.out
   rw [h0] at hc
   clear h0 HB
   go_wp2_with (go_at_call 54; refine (bfine1_any _ _).mono ?_; rintro e w' ⟨rfl,rfl⟩)
   go_round
   case rel => exact ⟨k + 1,by omega,by go_num⟩
   case measure => simp [intOf]; omega
  ·have h0' : (zs.getD k 0 != 0)=true:=by simpa using h0
   clear h0 HB
   generalize zs.getD k 0=z at *
   go_wp2_with (go_at_call 54; refine (bfine1_any _ _).mono ?_; rintro e w' ⟨rfl,rfl⟩)
   go_ret
   exact ⟨⟨k,rfl⟩,rfl⟩
theorem bfine_any (A : Option Addr) (n c : Nat) (zs : List Int) (w : World) (hn : zs.length=n) (hm : n≤9223372036854775807) (hz : IntsAt w A zs) :
  Calls Crz.prog 27 #[.slice A n c] w fun e w' => e=.returned (.bool (allZero zs))∧w=w':=by
 cases h : allZero zs
 ·obtain ⟨z,hz1,hz2⟩ : ∃ z ∈ zs,z ≠ 0:=by
   unfold allZero at h
   rw [List.all_eq_false] at h
   obtain ⟨z,h1,h2⟩:=h
   exact ⟨z,h1,by simpa using h2⟩
  obtain ⟨j,hj,rfl⟩:=List.mem_iff_getElem.1 hz1
  have hbad : zs.getD j 0 ≠ 0:=by simpa [hj] using hz2
  clear h hz1 hz2
  go_enter Crz.func27,Tryz.ntmps27
  go_wp2_with (first | (go_at_call 78; refine (bfineIdx_yes A n c j zs _ hn hm hz (by omega) hbad).mono ?_; rintro e w' ⟨⟨i,rfl⟩,rfl⟩) | (go_at_call 47; go_in))
  go_ret
  exact ⟨rfl,rfl⟩
 ·have hall : ∀ i,i < n→zs.getD i 0=0:=by
   intro i hi
   unfold allZero at h
   rw [List.all_eq_true] at h
   have:=h (zs[i]'(by omega)) (List.getElem_mem _)
   simpa [hn,hi] using this
  clear h
  go_enter Crz.func27,Tryz.ntmps27
  go_wp2_with (first | (go_at_call 78; refine (bfineIdx_no A n c zs _ hn hm hz hall).mono ?_; rintro e w' ⟨rfl,rfl⟩) | (go_at_call 47; go_in))
  go_ret
  exact ⟨rfl,rfl⟩
theorem bfine_ok2 {w : World} {g : Nat} (h : Blk w g 32 #[.int .i64 0,.int .i64 0]) : Calls Crz.prog 27 #[.slice (some ⟨g,0,none⟩) 2 2] w fun e w' => e=.returned (.bool true)∧Ext w w' :=
 fine_ext (bfine_any (some ⟨g,0,none⟩) 2 2 [0,0] w rfl (by omega) (blk_ints h))
end Go.Proofs.YtdoibgmmijhlfaaGreat
namespace Go.Proofs.YtdoibgmmijhlfaaGreat
open Go.ChangeShapes Go.WideShapes Go.ChangeAt Go.RowKit Go.Shelf
set_option linter.unusedVariables false
set_option linter.unusedSimpArgs false
def bheavyB (R : RulesM) (P : PosM) (D : Int) : Bool:=perftE R P D == 17 || decide (2000 < perftN R P D) || decide ((16 : Int) < (P.cells.length : Int))
set_option maxHeartbeats 4000000 in
set_option maxRecDepth 100000 in
theorem bheavy_any (R : RulesM) (P : PosM) (v u : Value) (D : Int) (w : World) (hR : RulesAt w v R) (hP : PosAt w u P) :
  Calls Crz.prog 26 #[v,u,.int .i64 D] w fun e w' => e=.returned (.bool (bheavyB R P D))∧Ext w w':=by
 have HV:=hide (show bheavyB R P D=(perftE R P D == 17 || decide (2000 < perftN R P D) || decide ((16 : Int) < (P.cells.length : Int))) from rfl)
 have HT:=hide (fun W (v1 v2 : Value) (h1 : RulesAt W v1 R) (h2 : PosAt W v2 P) => PfTree_any R P v1 v2 D W h1 h2)
 have hR0:=hR
 have hP0:=hP
 obtain ⟨pA,pc,sA,sc,eA,ec,rfl,-⟩:=hR0
 obtain ⟨cA,cc,aA,ac,bA,bc,rfl,-⟩:=hP0
 generalize perftE R P D=E at *
 generalize perftN R P D=N at *
 generalize bheavyB R P D=B at *
 go_enter Crz.func26,Tryz.ntmps26
 go_wp2_with fail
 obtain ⟨xa,kR,kP⟩:=blks2 w #[.string R.name,.int .i64 R.width,.int .i64 R.height,.slice pA R.pieces.length pc,.slice sA R.start.length sc,.bool R.falls,.bool R.keeps,.slice eA R.ends.length ec,.int .i64 R.blocked,.int .i64 R.quiet,.int .i64 R.rept] 26 #[.slice cA P.cells.length cc,.slice aA P.hand0.length ac,.slice bA P.hand1.length bc,.int .i64 P.turn,.int .i64 P.quiet] 29
 replace hR:=hR.ext xa
 replace hP:=hP.ext xa
 have X:=xa
 clear xa
 generalize ((w.alloc (.cells #[.string R.name,.int .i64 R.width,.int .i64 R.height,.slice pA R.pieces.length pc,.slice sA R.start.length sc,.bool R.falls,.bool R.keeps,.slice eA R.ends.length ec,.int .i64 R.blocked,.int .i64 R.quiet,.int .i64 R.rept] 26)).alloc (.cells #[.slice cA P.cells.length cc,.slice aA P.hand0.length ac,.slice bA P.hand1.length bc,.int .i64 P.turn,.int .i64 P.quiet] 29))=w2 at *
 generalize w.heap.size + 1=BP at *
 generalize w.heap.size=BR at *
 have fR:=kR.cell
 have fP:=kP.cell
 go_wp2_with fail
 refine (HT.out _ _ _ hR hP).mono ?_
 rintro e w3 ⟨rfl,x⟩
 replace hR:=hR.ext x
 replace hP:=hP.ext x
 replace kR:=kR.ext x
 replace kP:=kP.ext x
 replace X:=ext_trans X x
 replace fR:=kR.cell
 replace fP:=kP.cell
 clear x
 cases t0 : (E == 17)
 ·cases t1 : decide (2000 < N)
  ·cases t2 : decide ((16 : Int) < (P.cells.length : Int))
   ·go_wp2
    go_ret
    exact ⟨by rw [HV.out,t0,t1,t2]; rfl,X⟩
   ·go_wp2
    go_ret
    exact ⟨by rw [HV.out,t0,t1,t2]; rfl,X⟩
  ·go_wp2
   go_ret
   exact ⟨by rw [HV.out,t0,t1]; rfl,X⟩
 ·go_wp2
  go_ret
  exact ⟨by rw [HV.out,t0]; rfl,X⟩
theorem near_tree : perftN threeR nearP 1=6:=by decide +kernel
set_option maxHeartbeats 4000000 in
set_option maxRecDepth 100000 in
theorem bscored_any (w : World) : Calls Crz.prog 22 #[] w fun e w' => e=.returned (.bool true)∧Ext w w':=by
 have HA:=hide (fun W (v1 v2 : Value) (h1 : RulesAt W v1 threeR) (h2 : PosAt W v2 nearP) => MScore_any threeR nearP v1 v2 1 W h1 h2)
 rw [near_score.1,near_score.2.1] at HA
 have HB:=hide (fun W (v1 v2 : Value) (h1 : RulesAt W v1 threeR) (h2 : PosAt W v2 nearP) => PfTree_any threeR nearP v1 v2 1 W h1 h2)
 rw [near_tree,near_score.2.1] at HB
 have HC:=hide (fun W (v1 v2 : Value) (h1 : PosAt W v1 nearP) (h2 : PosAt W v2 nearP) => PSame_yes nearP v1 v2 W h1 h2 (by decide) (by decide) (by decide))
 go_enter Crz.func22,Tryz.ntmps22
 go_wp2_with fail
 refine (bthree_any _).mono ?_
 rintro e w2 ⟨v1,rfl,h1,x⟩
 have X:=x
 clear x
 go_wp2_with fail
 refine (bnear_any _).mono ?_
 rintro e w3 ⟨v2,rfl,h2,x⟩
 replace h1:=h1.ext x
 replace X:=ext_trans X x
 clear x
 replace h2:=h2.at_
 go_wp2_with fail
 refine (HA.out _ _ _ h1 h2).mono ?_
 rintro e w4 ⟨rfl,x⟩
 replace h1:=h1.ext x
 replace h2:=h2.ext x
 replace X:=ext_trans X x
 clear x
 clear h1 h2
 clear HA
 go_wp2_with fail
 refine (bthree_any _).mono ?_
 rintro e w5 ⟨v3,rfl,h3,x⟩
 replace X:=ext_trans X x
 clear x
 go_wp2_with fail
 refine (bnear_any _).mono ?_
 rintro e w6 ⟨v4,rfl,h4,x⟩
 replace h3:=h3.ext x
 replace X:=ext_trans X x
 clear x
 replace h4:=h4.at_
 go_wp2_with fail
 refine (HB.out _ _ _ h3 h4).mono ?_
 rintro e w7 ⟨rfl,x⟩
 replace h3:=h3.ext x
 replace h4:=h4.ext x
 replace X:=ext_trans X x
 clear x
 clear h3 h4
 clear HB
 obtain ⟨xa,kE⟩:=blks1 w7 #[.int .i64 0,.int .i64 0] 32
 replace X:=ext_trans X xa
 clear xa
 go_wp2_with fail
 generalize (w7.alloc (.cells #[.int .i64 0,.int .i64 0] 32))=w8 at *
 generalize w7.heap.size=BE at *
 refine (fine_ext (bfine_any (some ⟨BE,0,none⟩) 2 2 [0,0] _ rfl (by omega) (blk_ints kE))).mono ?_
 rintro e w9 ⟨rfl,x⟩
 replace kE:=kE.ext x
 replace X:=ext_trans X x
 clear x
 rw [show allZero [0,0]=true from rfl]
 clear kE
 go_wp2_with fail
 refine (bnear_any _).mono ?_
 rintro e w10 ⟨v5,rfl,h5,x⟩
 replace X:=ext_trans X x
 clear x
 replace h5:=h5.at_
 go_wp2_with fail
 refine (bnear_any _).mono ?_
 rintro e w11 ⟨v6,rfl,h6,x⟩
 replace h5:=h5.ext x
 replace X:=ext_trans X x
 clear x
 replace h6:=h6.at_
 go_wp2_with fail
 refine (HC.out _ _ _ h5 h6).mono ?_
 rintro e w12 ⟨rfl,x⟩
 replace h5:=h5.ext x
 replace h6:=h6.ext x
 replace X:=ext_trans X x
 clear x
 clear h5 h6
 clear HC
 go_wp2
 all_goals go_ret
 all_goals exact ⟨by first | rfl | simp,X⟩
end Go.Proofs.YtdoibgmmijhlfaaGreat
