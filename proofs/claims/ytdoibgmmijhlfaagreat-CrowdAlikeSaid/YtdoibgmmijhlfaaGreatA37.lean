/- PerftW3 -/
import Derived.Test.YtdoibgmmijhlfaaGreatA35
namespace Go.Proofs.YtdoibgmmijhlfaaGreat
open Go.ChangeShapes Go.WideShapes Go.ChangeAt Go.RowKit Go.Shelf
set_option linter.unusedVariables false
set_option linter.unusedSimpArgs false
def perftE (R : RulesM) (P : PosM) (D : Int) : Int:=if checkE R P ≠ 0 then checkE R P else if D < 0∨12 < D then 1 else if 50000 < treeM R D.toNat P then 17 else 0
def perftN (R : RulesM) (P : PosM) (D : Int) : Int:=if perftE R P D=0 then treeM R D.toNat P else 0
def perftL (R : RulesM) (P : PosM) (D : Int) : Int:=if perftE R P D=0 then leafM R D.toNat P else 0
theorem perftE_chk {R : RulesM} {P : PosM} {D : Int} (h : checkE R P ≠ 0) : perftE R P D=checkE R P∧perftN R P D=0∧perftL R P D=0:=by
 have e : perftE R P D=checkE R P:=if_pos h
 exact ⟨e,if_neg (by rw [e]; exact h),if_neg (by rw [e]; exact h)⟩
theorem perftE_arg {R : RulesM} {P : PosM} {D : Int} (h : checkE R P=0) (hd : D < 0∨12 < D) : perftE R P D=1∧perftN R P D=0∧perftL R P D=0:=by
 have e : perftE R P D=1:=by unfold perftE; rw [if_neg (by simpa using h),if_pos hd]
 exact ⟨e,if_neg (by rw [e]; decide),if_neg (by rw [e]; decide)⟩
theorem perftE_bound {R : RulesM} {P : PosM} {D : Int} (h : checkE R P=0) (hd : ¬(D < 0∨12 < D)) (ht : 50000 < treeM R D.toNat P) : perftE R P D=17∧perftN R P D=0∧perftL R P D=0:=by
 have e : perftE R P D=17:=by unfold perftE; rw [if_neg (by simpa using h),if_neg hd,if_pos ht]
 exact ⟨e,if_neg (by rw [e]; decide),if_neg (by rw [e]; decide)⟩
theorem perftE_ok {R : RulesM} {P : PosM} {D : Int} (h : checkE R P=0) (hd : ¬(D < 0∨12 < D)) (ht : ¬50000 < treeM R D.toNat P) : perftE R P D=0∧perftN R P D=treeM R D.toNat P∧perftL R P D=leafM R D.toNat P:=by
 have e : perftE R P D=0:=by unfold perftE; rw [if_neg (by simpa using h),if_neg hd,if_neg ht]
 exact ⟨e,if_pos e,if_pos e⟩
set_option maxHeartbeats 4000000 in
set_option maxRecDepth 100000 in
theorem PfCheck_any (R : RulesM) (P : PosM) (v u : Value) (D : Int) (w : World) (hR : RulesAt w v R) (hP : PosAt w u P) :
  Calls Crz.prog 46 #[v,u,.int .i64 D] w fun e w' => e=.returned (.tuple #[.int .i64 (perftN R P D),.int .i64 (perftL R P D),.int .i64 (perftE R P D)])∧Ext w w':=by
 have HC:=hide (fun W (hW : Ext w W) => PCheck_any R P v u W (hR.ext hW) (hP.ext hW))
 have HRF:=hide (fun W (hW : Ext w W) => hR.ext hW)
 have HPF:=hide (fun W (hW : Ext w W) => hP.ext hW)
 obtain ⟨pA,pc,sA,sc,eA,ec,rfl,-⟩:=hR
 obtain ⟨cA,cc,aA,ac,bA,bc,rfl,-⟩:=hP
 obtain ⟨x1,k1,k2⟩:=blks2 w #[.string R.name,.int .i64 R.width,.int .i64 R.height,.slice pA R.pieces.length pc,.slice sA R.start.length sc,.bool R.falls,.bool R.keeps,.slice eA R.ends.length ec,.int .i64 R.blocked,.int .i64 R.quiet,.int .i64 R.rept] 26 #[.slice cA P.cells.length cc,.slice aA P.hand0.length ac,.slice bA P.hand1.length bc,.int .i64 P.turn,.int .i64 P.quiet] 29
 have HX:=hide x1
 have K1:=hide k1
 have K2:=hide k2
 clear x1 k1 k2
 have f1:=K1.out.cell
 have f2:=K2.out.cell
 by_cases hc : checkE R P=0
 ·obtain ⟨hV,hS⟩:=check_iff.1 hc
  have HVS:=hide (And.intro hV hS)
  clear hV hS
  have HC2:=hide hc
  rw [hc] at HC
  clear hc
  by_cases hd : D < 0∨12 < D
  ·obtain ⟨e1,e2,e3⟩:=perftE_arg HC2.out hd
   rw [e1,e2,e3]
   clear e1 e2 e3 HVS
   rcases hd with hd | hd
   ·have t0 : decide (D < 0)=true:=by simpa using hd
    clear hd
    go_enter Crz.func46,Tryz.ntmps46
    go_wp2_with fail
    refine (HC.out _ HX.out).mono ?_
    rintro e w2 ⟨rfl,x2⟩
    clear f1 f2
    have X2:=hide x2
    clear x2
    go_wp2
    go_ret3
    exact ⟨rfl,ext_trans HX.out X2.out⟩
   ·have t0 : decide (D < 0)=false:=by simp; omega
    have t1 : decide (12 < D)=true:=by simpa using hd
    clear hd
    go_enter Crz.func46,Tryz.ntmps46
    go_wp2_with fail
    refine (HC.out _ HX.out).mono ?_
    rintro e w2 ⟨rfl,x2⟩
    clear f1 f2
    have X2:=hide x2
    clear x2
    go_wp2
    go_ret3
    exact ⟨rfl,ext_trans HX.out X2.out⟩
  ·have HD:=hide hd
   have t0 : decide (D < 0)=false:=by simp; omega
   have t1 : decide (12 < D)=false:=by simp; omega
   clear hd
   go_enter Crz.func46,Tryz.ntmps46
   go_wp2_with fail
   refine (HC.out _ HX.out).mono ?_
   rintro e w2 ⟨rfl,x2⟩
   have X2:=hide (ext_trans HX.out x2)
   have g1:=(K1.out.ext x2).cell
   have g2:=(K2.out.ext x2).cell
   have HXX:=hide x2
   clear f1 f2 x2
   generalize (w.alloc (.cells #[.string R.name,.int .i64 R.width,.int .i64 R.height,.slice pA R.pieces.length pc,.slice sA R.start.length sc,.bool R.falls,.bool R.keeps,.slice eA R.ends.length ec,.int .i64 R.blocked,.int .i64 R.quiet,.int .i64 R.rept] 26)).alloc (.cells #[.slice cA P.cells.length cc,.slice aA P.hand0.length ac,.slice bA P.hand1.length bc,.int .i64 P.turn,.int .i64 P.quiet] 29)=w1 at *
   generalize w.heap.size + 1=BP at *
   generalize w.heap.size=BR at *
   go_upto_region 7 with fail
   obtain ⟨x3,k3⟩:=blks1 w2 #[.string R.name,.int .i64 R.width,.int .i64 R.height,.slice pA R.pieces.length pc,.slice sA R.start.length sc,.bool R.falls,.bool R.keeps,.slice eA R.ends.length ec,.int .i64 R.blocked,.int .i64 R.quiet,.int .i64 R.rept,.int .i64 0,.int .i64 0] 99
   have FR:=hide (fun W (h : Gr w2.heap.size (w2.alloc (.cells #[.string R.name,.int .i64 R.width,.int .i64 R.height,.slice pA R.pieces.length pc,.slice sA R.start.length sc,.bool R.falls,.bool R.keeps,.slice eA R.ends.length ec,.int .i64 R.blocked,.int .i64 R.quiet,.int .i64 R.rept,.int .i64 0,.int .i64 0] 99)) W) => HRF.out W (ext_trans X2.out (h.to_ext x3 (Nat.le_refl _))))
   have FP:=hide (fun W (h : Gr w2.heap.size (w2.alloc (.cells #[.string R.name,.int .i64 R.width,.int .i64 R.height,.slice pA R.pieces.length pc,.slice sA R.start.length sc,.bool R.falls,.bool R.keeps,.slice eA R.ends.length ec,.int .i64 R.blocked,.int .i64 R.quiet,.int .i64 R.rept,.int .i64 0,.int .i64 0] 99)) W) => HPF.out W (ext_trans X2.out (h.to_ext x3 (Nat.le_refl _))))
   have GX:=hide (fun W (h : Gr w2.heap.size (w2.alloc (.cells #[.string R.name,.int .i64 R.width,.int .i64 R.height,.slice pA R.pieces.length pc,.slice sA R.start.length sc,.bool R.falls,.bool R.keeps,.slice eA R.ends.length ec,.int .i64 R.blocked,.int .i64 R.quiet,.int .i64 R.rept,.int .i64 0,.int .i64 0] 99)) W) => ext_trans X2.out (h.to_ext x3 (Nat.le_refl _)))
   have X3:=hide x3
   have K3:=hide k3
   have g3:=((K2.out.ext (Below.refl _ _)).ext (HXX.out)).ext X3.out
   clear g1 g2 k3 x3
   have g2:=g3.cell
   clear g3
   generalize w2.alloc (.cells #[.string R.name,.int .i64 R.width,.int .i64 R.height,.slice pA R.pieces.length pc,.slice sA R.start.length sc,.bool R.falls,.bool R.keeps,.slice eA R.ends.length ec,.int .i64 R.blocked,.int .i64 R.quiet,.int .i64 R.rept,.int .i64 0,.int .i64 0] 99)=w3 at *
   generalize w2.heap.size=Bc at *
   have HWK:=hide (walk_any R HVS.out.1 pA pc sA sc eA ec Bc D.toNat P _ w3 D 0 0 (by have:=HD.out; omega) (by have:=HD.out; omega) HVS.out.2 K3.out FR.out FP.out (by decide) (by decide) (by decide) (by decide))
   go_wp2_with fail
   refine HWK.out.mono ?_
   rintro e w4 ⟨ok,n',l',rfl,k4,g4,hok,hfl⟩
   have K4:=hide k4
   have X4:=hide (GX.out _ g4)
   clear g2 k4 g4 HWK FR FP GX K3 X3 X2
   cases ok
   ·have HE:=hide (perftE_bound HC2.out HD.out (by have:=hfl rfl; omega))
    clear hok hfl
    go_wp2
    go_ret3
    exact ⟨by rw [HE.out.1,HE.out.2.1,HE.out.2.2]; rfl,X4.out⟩
   ·obtain ⟨a1,a2,a3⟩:=hok rfl
    obtain rfl : n'=treeM R D.toNat P:=by omega
    obtain rfl : l'=leafM R D.toNat P:=by omega
    have HE:=hide (perftE_ok HC2.out HD.out (by omega))
    clear hok hfl a1 a2 a3
    generalize treeM R D.toNat P=n' at *
    generalize leafM R D.toNat P=l' at *
    go_upto_region 9 with fail
    have keepK:=hide (fun W (h : Ext w4 W) => (show (fun W => W.cell? ⟨Bc,0,none⟩=some (.string R.name)∧W.cell? ⟨Bc,1,none⟩=some (.int .i64 R.width)∧W.cell? ⟨Bc,2,none⟩=some (.int .i64 R.height)∧W.cell? ⟨Bc,3,none⟩=some (.slice pA R.pieces.length pc)∧W.cell? ⟨Bc,4,none⟩=some (.slice sA R.start.length sc)∧W.cell? ⟨Bc,5,none⟩=some (.bool R.falls)∧W.cell? ⟨Bc,6,none⟩=some (.bool R.keeps)∧W.cell? ⟨Bc,7,none⟩=some (.slice eA R.ends.length ec)∧W.cell? ⟨Bc,8,none⟩=some (.int .i64 R.blocked)∧W.cell? ⟨Bc,9,none⟩=some (.int .i64 R.quiet)∧W.cell? ⟨Bc,10,none⟩=some (.int .i64 R.rept)∧W.cell? ⟨Bc,11,none⟩=some (.int .i64 n')∧W.cell? ⟨Bc,12,none⟩=some (.int .i64 l')∧Ext w4 W) W from ⟨(K4.out.ext h).cell 0,(K4.out.ext h).cell 1,(K4.out.ext h).cell 2,(K4.out.ext h).cell 3,(K4.out.ext h).cell 4,(K4.out.ext h).cell 5,(K4.out.ext h).cell 6,(K4.out.ext h).cell 7,(K4.out.ext h).cell 8,(K4.out.ext h).cell 9,(K4.out.ext h).cell 10,(K4.out.ext h).cell 11,(K4.out.ext h).cell 12,h⟩))
    have yy : Ext w4 w4.drew:=Below.drew (Below.refl _ _)
    refine region_K (fun W => W.cell? ⟨Bc,0,none⟩=some (.string R.name)∧W.cell? ⟨Bc,1,none⟩=some (.int .i64 R.width)∧W.cell? ⟨Bc,2,none⟩=some (.int .i64 R.height)∧W.cell? ⟨Bc,3,none⟩=some (.slice pA R.pieces.length pc)∧W.cell? ⟨Bc,4,none⟩=some (.slice sA R.start.length sc)∧W.cell? ⟨Bc,5,none⟩=some (.bool R.falls)∧W.cell? ⟨Bc,6,none⟩=some (.bool R.keeps)∧W.cell? ⟨Bc,7,none⟩=some (.slice eA R.ends.length ec)∧W.cell? ⟨Bc,8,none⟩=some (.int .i64 R.blocked)∧W.cell? ⟨Bc,9,none⟩=some (.int .i64 R.quiet)∧W.cell? ⟨Bc,10,none⟩=some (.int .i64 R.rept)∧W.cell? ⟨Bc,11,none⟩=some (.int .i64 n')∧W.cell? ⟨Bc,12,none⟩=some (.int .i64 l')∧Ext w4 W) (fun _ => True) [] (by kernel_rfl) ?_
    have hT0:=keepK.out _ yy
    refine tk 0 hT0 (fun _=>trivial) ?_
    refine tk 1 hT0 (fun _=>trivial) ?_
    refine tk 2 hT0 (fun _=>trivial) ?_
    refine tl 3 hT0 (fun _=>trivial) (v:=?_) (fun W hW=>?_) ?_
    rotate_left
    ·obtain ⟨z0,z1,z2,z3,z4,z5,z6,z7,z8,z9,z10,z11,z12,z13⟩:=hW;go_simp;first|done|with_reducible rfl
    refine tk 4 hT0 (fun _=>trivial) ?_
    refine tk 5 hT0 (fun _=>trivial) ?_
    refine tk 6 hT0 (fun _=>trivial) ?_
    refine tl 7 hT0 (fun _=>trivial) (v:=?_) (fun W hW=>?_) ?_
    rotate_left
    ·obtain ⟨z0,z1,z2,z3,z4,z5,z6,z7,z8,z9,z10,z11,z12,z13⟩:=hW;go_simp;first|done|with_reducible rfl
    refine tk 8 hT0 (fun _=>trivial) ?_
    refine tk 9 hT0 (fun _=>trivial) ?_
    refine tk 10 hT0 (fun _=>trivial) ?_
    refine anyK_done (by kernel_rfl) ?_ _
    clear keepK hT0
    go_wp2
    go_ret3
    exact ⟨by rw [HE.out.1,HE.out.2.1,HE.out.2.2]; rfl,ext_trans X4.out yy⟩
 ·obtain ⟨e1,e2,e3⟩:=perftE_chk (D:=D) hc
  rw [e1,e2,e3]
  have t0 : (checkE R P != 0)=true:=by simpa using hc
  clear e1 e2 e3 hc
  generalize checkE R P=E at *
  go_enter Crz.func46,Tryz.ntmps46
  go_wp2_with fail
  refine (HC.out _ HX.out).mono ?_
  rintro e w2 ⟨rfl,x2⟩
  have X2:=hide x2
  clear f1 f2 x2
  go_wp2
  go_ret3
  exact ⟨rfl,ext_trans HX.out X2.out⟩
set_option maxHeartbeats 2000000 in
set_option maxRecDepth 100000 in
theorem PfTree_any (R : RulesM) (P : PosM) (v u : Value) (D : Int) (w : World) (hR : RulesAt w v R) (hP : PosAt w u P) :
  Calls Crz.prog 35 #[v,u,.int .i64 D] w fun e w' => e=.returned (.tuple #[.int .i64 (perftN R P D),.int .i64 (perftE R P D)])∧Ext w w':=by
 have HC:=hide (fun W (hW : Ext w W) => PfCheck_any R P v u D W (hR.ext hW) (hP.ext hW))
 obtain ⟨pA,pc,sA,sc,eA,ec,rfl,-⟩:=hR
 obtain ⟨cA,cc,aA,ac,bA,bc,rfl,-⟩:=hP
 obtain ⟨x1,k1,k2⟩:=blks2 w #[.string R.name,.int .i64 R.width,.int .i64 R.height,.slice pA R.pieces.length pc,.slice sA R.start.length sc,.bool R.falls,.bool R.keeps,.slice eA R.ends.length ec,.int .i64 R.blocked,.int .i64 R.quiet,.int .i64 R.rept] 26 #[.slice cA P.cells.length cc,.slice aA P.hand0.length ac,.slice bA P.hand1.length bc,.int .i64 P.turn,.int .i64 P.quiet] 29
 have HX:=hide x1
 have f1:=k1.cell
 have f2:=k2.cell
 clear x1 k1 k2
 generalize perftE R P D=E at *
 generalize perftN R P D=N at *
 generalize perftL R P D=l at *
 go_enter Crz.func35,Tryz.ntmps35
 go_wp2_with fail
 refine (HC.out _ HX.out).mono ?_
 rintro e w2 ⟨rfl,x2⟩
 have X2:=hide x2
 clear f1 f2 x2
 go_wp2
 go_ret2
 exact ⟨rfl,ext_trans HX.out X2.out⟩
end Go.Proofs.YtdoibgmmijhlfaaGreat
