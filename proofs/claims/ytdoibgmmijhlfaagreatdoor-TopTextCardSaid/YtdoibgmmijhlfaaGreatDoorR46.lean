/- GameW2 -/
import Derived.Test.YtdoibgmmijhlfaaGreatDoorR44
import Derived.Test.YtdoibgmmijhlfaaGreatDoorR01
namespace Go.Proofs.YtdoibgmmijhlfaaGreatDoor
open Go.ChangeShapes Go.WideShapes Go.ChangeAt Go.RowKit Go.Shelf
set_option linter.unusedVariables false
set_option linter.unusedSimpArgs false
set_option maxHeartbeats 4000000 in
set_option maxRecDepth 100000 in
theorem GResult_any {w0 wa : World} {BG : Nat} {R : RulesM} {ps : List PosM} {ms : List MoveM} (hG : GameAt w0 wa BG R ps ms) (hl : ps.length≤1000000) (hV : Valid R) (hS : ∀ Q ∈ ps,Sound R Q) {P : PosM} (hP : ps.getLast? = some P) :
  Calls Tryz.prog 13 #[.pointer (some ⟨BG,0,none⟩)] wa fun e w' => e=.returned (.int .i64 (resultG R ps P))∧Ext wa w':=by
 have HNW:=hide (fun W' (x : Ext wa W') => now_any (hG.ext x) hl hP)
 have HCT:=hide (fun W' (x : Ext wa W') => GCount_any (hG.ext x) hl (fit_of hV hS) hP)
 have HRG:=hide (show resultG R ps P=if resultM R P=0∧R.rept ≠ 0∧R.rept≤(countG ps P : Int) then 3 else resultM R P from rfl)
 have hSP:=hS P (last_mem hP)
 obtain ⟨pA,pc,sA,sc,eA,ec,base,l,m,h1,h2,-,-,-,-⟩:=hG
 have HRS:=hide (fun W' (v : Value) (x : Ext wa W') (h : PosI W' v P) => Result_any R P _ v W' (h2.ext x).at_ h.at_ hV hSP)
 have KG:=hide h1
 clear hS hP hl h1 h2 hV hSP
 generalize resultG R ps P=G at *
 generalize countG ps P=c at *
 generalize resultM R P=z at *
 go_enter Tryz.func13,Tryz.ntmps13
 go_upto_region 1 with fail
 have keepK:=hide (fun W (h : Ext wa W) => (show (fun W => W.cell? ⟨BG,0,none⟩=some (.string R.name)∧W.cell? ⟨BG,1,none⟩=some (.int .i64 R.width)∧W.cell? ⟨BG,2,none⟩=some (.int .i64 R.height)∧W.cell? ⟨BG,3,none⟩=some (.slice pA R.pieces.length pc)∧W.cell? ⟨BG,4,none⟩=some (.slice sA R.start.length sc)∧W.cell? ⟨BG,5,none⟩=some (.bool R.falls)∧W.cell? ⟨BG,6,none⟩=some (.bool R.keeps)∧W.cell? ⟨BG,7,none⟩=some (.slice eA R.ends.length ec)∧W.cell? ⟨BG,8,none⟩=some (.int .i64 R.blocked)∧W.cell? ⟨BG,9,none⟩=some (.int .i64 R.quiet)∧W.cell? ⟨BG,10,none⟩=some (.int .i64 R.rept)∧W.cell? ⟨BG,11,none⟩=some (l)∧W.cell? ⟨BG,12,none⟩=some (m)∧Ext wa W) W from ⟨(KG.out.ext h).cell 0,(KG.out.ext h).cell 1,(KG.out.ext h).cell 2,(KG.out.ext h).cell 3,(KG.out.ext h).cell 4,(KG.out.ext h).cell 5,(KG.out.ext h).cell 6,(KG.out.ext h).cell 7,(KG.out.ext h).cell 8,(KG.out.ext h).cell 9,(KG.out.ext h).cell 10,(KG.out.ext h).cell 11,(KG.out.ext h).cell 12,h⟩))
 have yy : Ext wa wa.drew:=Below.drew (Below.refl _ _)
 refine region_K (fun W => W.cell? ⟨BG,0,none⟩=some (.string R.name)∧W.cell? ⟨BG,1,none⟩=some (.int .i64 R.width)∧W.cell? ⟨BG,2,none⟩=some (.int .i64 R.height)∧W.cell? ⟨BG,3,none⟩=some (.slice pA R.pieces.length pc)∧W.cell? ⟨BG,4,none⟩=some (.slice sA R.start.length sc)∧W.cell? ⟨BG,5,none⟩=some (.bool R.falls)∧W.cell? ⟨BG,6,none⟩=some (.bool R.keeps)∧W.cell? ⟨BG,7,none⟩=some (.slice eA R.ends.length ec)∧W.cell? ⟨BG,8,none⟩=some (.int .i64 R.blocked)∧W.cell? ⟨BG,9,none⟩=some (.int .i64 R.quiet)∧W.cell? ⟨BG,10,none⟩=some (.int .i64 R.rept)∧W.cell? ⟨BG,11,none⟩=some (l)∧W.cell? ⟨BG,12,none⟩=some (m)∧Ext wa W) (fun _ => True) [] (by kernel_rfl) ?_
 have hT0:=keepK.out _ yy
 refine tk 0 hT0 (fun _=>trivial) ?_
 refine tk 1 hT0 (fun _=>trivial) ?_
 refine tk 2 hT0 (fun _=>trivial) ?_
 refine tl 3 hT0 (fun _=>trivial) (v:=?_) (fun W hW=>?_) ?_
 rotate_left
 ·obtain ⟨z0,z1,z2,z3,z4,z5,z6,z7,z8,z9,z10,z11,z12,z13⟩:=hW;go_simp;first|done|with_reducible rfl
 refine tk 4 hT0 (fun _=>trivial) ?_
 refine anyK_on1 5 (by kernel_rfl) ?_
 refine tw 5 (fun K hK=>?_)
 go_simp
 refine (HNW.out _ yy).mono ?_
 rintro e wk ⟨v6,rfl,hp6,xx⟩
 try go_wp2_with fail
 replace yy:=ext_trans yy xx
 have HP6:=hide hp6
 clear hp6
 have hT1:=keepK.out _ yy
 refine hK.out _ _ hT1 (fun _ => trivial) ?_
 clear hK K
 try simp only [Act.put,List.setIfInBounds_toArray,List.set_cons_zero,List.set_cons_succ]
 refine anyK_on1 6 (by kernel_rfl) ?_
 refine tw 6 (fun K hK=>?_)
 go_simp
 refine (HRS.out _ _ yy HP6.out).mono ?_
 rintro e wz ⟨rfl,xx⟩
 try go_wp2_with fail
 replace yy:=ext_trans yy xx
 have hT2:=keepK.out _ yy
 refine hK.out _ _ hT2 (fun _ => trivial) ?_
 clear hK K
 try simp only [Act.put,List.setIfInBounds_toArray,List.set_cons_zero,List.set_cons_succ]
 refine tk 7 hT2 (fun _=>trivial) ?_
 refine anyK_done (by kernel_rfl) ?_ _
 clear keepK hT0 hT1 hT2
 have X2:=hide yy
 have KG2:=hide (KG.out.ext yy)
 clear yy xx HNW HRS KG HP6
 go_upto_region 2 with fail
 by_cases hz : z=0
 ·subst hz
  by_cases hr : R.rept=0
  ·have HG2 : Hid (G=0):=hide (by rw [HRG.out,if_neg (fun h => h.2.1 hr)])
   have t1 : (R.rept != 0)=false:=by simpa using hr
   clear hr HRG
   have keepK:=hide (fun W (h : Ext wz W) => (show (fun W => W.cell? ⟨BG,0,none⟩=some (.string R.name)∧W.cell? ⟨BG,1,none⟩=some (.int .i64 R.width)∧W.cell? ⟨BG,2,none⟩=some (.int .i64 R.height)∧W.cell? ⟨BG,3,none⟩=some (.slice pA R.pieces.length pc)∧W.cell? ⟨BG,4,none⟩=some (.slice sA R.start.length sc)∧W.cell? ⟨BG,5,none⟩=some (.bool R.falls)∧W.cell? ⟨BG,6,none⟩=some (.bool R.keeps)∧W.cell? ⟨BG,7,none⟩=some (.slice eA R.ends.length ec)∧W.cell? ⟨BG,8,none⟩=some (.int .i64 R.blocked)∧W.cell? ⟨BG,9,none⟩=some (.int .i64 R.quiet)∧W.cell? ⟨BG,10,none⟩=some (.int .i64 R.rept)∧W.cell? ⟨BG,11,none⟩=some (l)∧W.cell? ⟨BG,12,none⟩=some (m)∧Ext wz W) W from ⟨(KG2.out.ext h).cell 0,(KG2.out.ext h).cell 1,(KG2.out.ext h).cell 2,(KG2.out.ext h).cell 3,(KG2.out.ext h).cell 4,(KG2.out.ext h).cell 5,(KG2.out.ext h).cell 6,(KG2.out.ext h).cell 7,(KG2.out.ext h).cell 8,(KG2.out.ext h).cell 9,(KG2.out.ext h).cell 10,(KG2.out.ext h).cell 11,(KG2.out.ext h).cell 12,h⟩))
   have yy : Ext wz wz.drew:=Below.drew (Below.refl _ _)
   refine region_K (fun W => W.cell? ⟨BG,0,none⟩=some (.string R.name)∧W.cell? ⟨BG,1,none⟩=some (.int .i64 R.width)∧W.cell? ⟨BG,2,none⟩=some (.int .i64 R.height)∧W.cell? ⟨BG,3,none⟩=some (.slice pA R.pieces.length pc)∧W.cell? ⟨BG,4,none⟩=some (.slice sA R.start.length sc)∧W.cell? ⟨BG,5,none⟩=some (.bool R.falls)∧W.cell? ⟨BG,6,none⟩=some (.bool R.keeps)∧W.cell? ⟨BG,7,none⟩=some (.slice eA R.ends.length ec)∧W.cell? ⟨BG,8,none⟩=some (.int .i64 R.blocked)∧W.cell? ⟨BG,9,none⟩=some (.int .i64 R.quiet)∧W.cell? ⟨BG,10,none⟩=some (.int .i64 R.rept)∧W.cell? ⟨BG,11,none⟩=some (l)∧W.cell? ⟨BG,12,none⟩=some (m)∧Ext wz W) (fun _ => True) [] (by kernel_rfl) ?_
   have hT0:=keepK.out _ yy
   refine tk 0 hT0 (fun _=>trivial) ?_
   refine tk 1 hT0 (fun _=>trivial) ?_
   refine tk 2 hT0 (fun _=>trivial) ?_
   refine tk 3 hT0 (fun _=>trivial) ?_
   refine tk 4 hT0 (fun _=>trivial) ?_
   refine tk 5 hT0 (fun _=>trivial) ?_
   refine tk 6 hT0 (fun _=>trivial) ?_
   refine tl 7 hT0 (fun _=>trivial) (v:=?_) (fun W hW=>?_) ?_
   rotate_left
   ·obtain ⟨z0,z1,z2,z3,z4,z5,z6,z7,z8,z9,z10,z11,z12,z13⟩:=hW;go_simp;first|done|with_reducible rfl
   refine tk 8 hT0 (fun _=>trivial) ?_
   refine tk 9 hT0 (fun _=>trivial) ?_
   refine tk 10 hT0 (fun _=>trivial) ?_
   refine sk 11 hT0 (fun _=>trivial) ?_
   refine sk 12 hT0 (fun _=>trivial) ?_
   refine sk 13 hT0 (fun _=>trivial) ?_
   refine sk 14 hT0 (fun _=>trivial) ?_
   refine sk 15 hT0 (fun _=>trivial) ?_
   refine sk 16 hT0 (fun _=>trivial) ?_
   refine sk 17 hT0 (fun _=>trivial) ?_
   refine sk 18 hT0 (fun _=>trivial) ?_
   refine tk 19 hT0 (fun _=>trivial) ?_
   refine anyK_done (by kernel_rfl) ?_ _
   clear keepK hT0
   go_wp2
   go_ret
   exact ⟨by rw [HG2.out]; rfl,ext_trans X2.out yy⟩
  ·have t1 : (R.rept != 0)=true:=by simpa using hr
   by_cases hc : R.rept≤(c : Int)
   ·have HG2 : Hid (G=3):=hide (by rw [HRG.out,if_pos ⟨rfl,hr,hc⟩])
    have t2 : decide (R.rept≤(c : Int))=true:=by simpa using hc
    clear hr hc HRG
    have keepK:=hide (fun W (h : Ext wz W) => (show (fun W => W.cell? ⟨BG,0,none⟩=some (.string R.name)∧W.cell? ⟨BG,1,none⟩=some (.int .i64 R.width)∧W.cell? ⟨BG,2,none⟩=some (.int .i64 R.height)∧W.cell? ⟨BG,3,none⟩=some (.slice pA R.pieces.length pc)∧W.cell? ⟨BG,4,none⟩=some (.slice sA R.start.length sc)∧W.cell? ⟨BG,5,none⟩=some (.bool R.falls)∧W.cell? ⟨BG,6,none⟩=some (.bool R.keeps)∧W.cell? ⟨BG,7,none⟩=some (.slice eA R.ends.length ec)∧W.cell? ⟨BG,8,none⟩=some (.int .i64 R.blocked)∧W.cell? ⟨BG,9,none⟩=some (.int .i64 R.quiet)∧W.cell? ⟨BG,10,none⟩=some (.int .i64 R.rept)∧W.cell? ⟨BG,11,none⟩=some (l)∧W.cell? ⟨BG,12,none⟩=some (m)∧Ext wz W) W from ⟨(KG2.out.ext h).cell 0,(KG2.out.ext h).cell 1,(KG2.out.ext h).cell 2,(KG2.out.ext h).cell 3,(KG2.out.ext h).cell 4,(KG2.out.ext h).cell 5,(KG2.out.ext h).cell 6,(KG2.out.ext h).cell 7,(KG2.out.ext h).cell 8,(KG2.out.ext h).cell 9,(KG2.out.ext h).cell 10,(KG2.out.ext h).cell 11,(KG2.out.ext h).cell 12,h⟩))
    have yy : Ext wz wz.drew:=Below.drew (Below.refl _ _)
    refine region_K (fun W => W.cell? ⟨BG,0,none⟩=some (.string R.name)∧W.cell? ⟨BG,1,none⟩=some (.int .i64 R.width)∧W.cell? ⟨BG,2,none⟩=some (.int .i64 R.height)∧W.cell? ⟨BG,3,none⟩=some (.slice pA R.pieces.length pc)∧W.cell? ⟨BG,4,none⟩=some (.slice sA R.start.length sc)∧W.cell? ⟨BG,5,none⟩=some (.bool R.falls)∧W.cell? ⟨BG,6,none⟩=some (.bool R.keeps)∧W.cell? ⟨BG,7,none⟩=some (.slice eA R.ends.length ec)∧W.cell? ⟨BG,8,none⟩=some (.int .i64 R.blocked)∧W.cell? ⟨BG,9,none⟩=some (.int .i64 R.quiet)∧W.cell? ⟨BG,10,none⟩=some (.int .i64 R.rept)∧W.cell? ⟨BG,11,none⟩=some (l)∧W.cell? ⟨BG,12,none⟩=some (m)∧Ext wz W) (fun _ => True) [] (by kernel_rfl) ?_
    have hT0:=keepK.out _ yy
    refine tk 0 hT0 (fun _=>trivial) ?_
    refine tk 1 hT0 (fun _=>trivial) ?_
    refine tk 2 hT0 (fun _=>trivial) ?_
    refine tk 3 hT0 (fun _=>trivial) ?_
    refine tk 4 hT0 (fun _=>trivial) ?_
    refine tk 5 hT0 (fun _=>trivial) ?_
    refine tk 6 hT0 (fun _=>trivial) ?_
    refine tl 7 hT0 (fun _=>trivial) (v:=?_) (fun W hW=>?_) ?_
    rotate_left
    ·obtain ⟨z0,z1,z2,z3,z4,z5,z6,z7,z8,z9,z10,z11,z12,z13⟩:=hW;go_simp;first|done|with_reducible rfl
    refine tk 8 hT0 (fun _=>trivial) ?_
    refine tk 9 hT0 (fun _=>trivial) ?_
    refine tk 10 hT0 (fun _=>trivial) ?_
    refine tk 11 hT0 (fun _=>trivial) ?_
    refine tk 13 hT0 (fun _=>trivial) ?_
    refine tk 14 hT0 (fun _=>trivial) ?_
    refine tk 15 hT0 (fun _=>trivial) ?_
    refine tk 16 hT0 (fun _=>trivial) ?_
    refine tl 17 hT0 (fun _=>trivial) (v:=?_) (fun W hW=>?_) ?_
    rotate_left
    ·obtain ⟨z0,z1,z2,z3,z4,z5,z6,z7,z8,z9,z10,z11,z12,z13⟩:=hW;go_simp;first|done|with_reducible rfl
    refine anyK_on1 12 (by kernel_rfl) ?_
    refine tw 12 (fun K hK=>?_)
    go_simp
    refine (HCT.out _ (ext_trans X2.out yy)).mono ?_
    rintro e wk ⟨rfl,xx⟩
    try go_wp2_with fail
    replace yy:=ext_trans yy xx
    have hT1:=keepK.out _ yy
    refine hK.out _ _ hT1 (fun _ => trivial) ?_
    clear hK K
    try simp only [Act.put,List.setIfInBounds_toArray,List.set_cons_zero,List.set_cons_succ]
    refine tk 18 hT1 (fun _=>trivial) ?_
    refine tk 19 hT1 (fun _=>trivial) ?_
    refine anyK_done (by kernel_rfl) ?_ _
    clear keepK hT0 hT1
    go_wp2
    go_ret
    exact ⟨by rw [HG2.out]; rfl,ext_trans X2.out yy⟩
   ·have HG2 : Hid (G=0):=hide (by rw [HRG.out,if_neg (fun h => hc h.2.2)])
    have t2 : decide (R.rept≤(c : Int))=false:=by simpa using hc
    clear hr hc HRG
    have keepK:=hide (fun W (h : Ext wz W) => (show (fun W => W.cell? ⟨BG,0,none⟩=some (.string R.name)∧W.cell? ⟨BG,1,none⟩=some (.int .i64 R.width)∧W.cell? ⟨BG,2,none⟩=some (.int .i64 R.height)∧W.cell? ⟨BG,3,none⟩=some (.slice pA R.pieces.length pc)∧W.cell? ⟨BG,4,none⟩=some (.slice sA R.start.length sc)∧W.cell? ⟨BG,5,none⟩=some (.bool R.falls)∧W.cell? ⟨BG,6,none⟩=some (.bool R.keeps)∧W.cell? ⟨BG,7,none⟩=some (.slice eA R.ends.length ec)∧W.cell? ⟨BG,8,none⟩=some (.int .i64 R.blocked)∧W.cell? ⟨BG,9,none⟩=some (.int .i64 R.quiet)∧W.cell? ⟨BG,10,none⟩=some (.int .i64 R.rept)∧W.cell? ⟨BG,11,none⟩=some (l)∧W.cell? ⟨BG,12,none⟩=some (m)∧Ext wz W) W from ⟨(KG2.out.ext h).cell 0,(KG2.out.ext h).cell 1,(KG2.out.ext h).cell 2,(KG2.out.ext h).cell 3,(KG2.out.ext h).cell 4,(KG2.out.ext h).cell 5,(KG2.out.ext h).cell 6,(KG2.out.ext h).cell 7,(KG2.out.ext h).cell 8,(KG2.out.ext h).cell 9,(KG2.out.ext h).cell 10,(KG2.out.ext h).cell 11,(KG2.out.ext h).cell 12,h⟩))
    have yy : Ext wz wz.drew:=Below.drew (Below.refl _ _)
    refine region_K (fun W => W.cell? ⟨BG,0,none⟩=some (.string R.name)∧W.cell? ⟨BG,1,none⟩=some (.int .i64 R.width)∧W.cell? ⟨BG,2,none⟩=some (.int .i64 R.height)∧W.cell? ⟨BG,3,none⟩=some (.slice pA R.pieces.length pc)∧W.cell? ⟨BG,4,none⟩=some (.slice sA R.start.length sc)∧W.cell? ⟨BG,5,none⟩=some (.bool R.falls)∧W.cell? ⟨BG,6,none⟩=some (.bool R.keeps)∧W.cell? ⟨BG,7,none⟩=some (.slice eA R.ends.length ec)∧W.cell? ⟨BG,8,none⟩=some (.int .i64 R.blocked)∧W.cell? ⟨BG,9,none⟩=some (.int .i64 R.quiet)∧W.cell? ⟨BG,10,none⟩=some (.int .i64 R.rept)∧W.cell? ⟨BG,11,none⟩=some (l)∧W.cell? ⟨BG,12,none⟩=some (m)∧Ext wz W) (fun _ => True) [] (by kernel_rfl) ?_
    have hT0:=keepK.out _ yy
    refine tk 0 hT0 (fun _=>trivial) ?_
    refine tk 1 hT0 (fun _=>trivial) ?_
    refine tk 2 hT0 (fun _=>trivial) ?_
    refine tk 3 hT0 (fun _=>trivial) ?_
    refine tk 4 hT0 (fun _=>trivial) ?_
    refine tk 5 hT0 (fun _=>trivial) ?_
    refine tk 6 hT0 (fun _=>trivial) ?_
    refine tl 7 hT0 (fun _=>trivial) (v:=?_) (fun W hW=>?_) ?_
    rotate_left
    ·obtain ⟨z0,z1,z2,z3,z4,z5,z6,z7,z8,z9,z10,z11,z12,z13⟩:=hW;go_simp;first|done|with_reducible rfl
    refine tk 8 hT0 (fun _=>trivial) ?_
    refine tk 9 hT0 (fun _=>trivial) ?_
    refine tk 10 hT0 (fun _=>trivial) ?_
    refine tk 11 hT0 (fun _=>trivial) ?_
    refine tk 13 hT0 (fun _=>trivial) ?_
    refine tk 14 hT0 (fun _=>trivial) ?_
    refine tk 15 hT0 (fun _=>trivial) ?_
    refine tk 16 hT0 (fun _=>trivial) ?_
    refine tl 17 hT0 (fun _=>trivial) (v:=?_) (fun W hW=>?_) ?_
    rotate_left
    ·obtain ⟨z0,z1,z2,z3,z4,z5,z6,z7,z8,z9,z10,z11,z12,z13⟩:=hW;go_simp;first|done|with_reducible rfl
    refine anyK_on1 12 (by kernel_rfl) ?_
    refine tw 12 (fun K hK=>?_)
    go_simp
    refine (HCT.out _ (ext_trans X2.out yy)).mono ?_
    rintro e wk ⟨rfl,xx⟩
    try go_wp2_with fail
    replace yy:=ext_trans yy xx
    have hT1:=keepK.out _ yy
    refine hK.out _ _ hT1 (fun _ => trivial) ?_
    clear hK K
    try simp only [Act.put,List.setIfInBounds_toArray,List.set_cons_zero,List.set_cons_succ]
    refine tk 18 hT1 (fun _=>trivial) ?_
    refine tk 19 hT1 (fun _=>trivial) ?_
    refine anyK_done (by kernel_rfl) ?_ _
    clear keepK hT0 hT1
    go_wp2
    go_ret
    exact ⟨by rw [HG2.out]; rfl,ext_trans X2.out yy⟩
 ·have HG2 : Hid (G=z):=hide (by rw [HRG.out,if_neg (fun h => hz h.1)])
  have t0 : (z == 0)=false:=by simpa using hz
  clear hz HRG
  have keepK:=hide (fun W (h : Ext wz W) => (show (fun W => W.cell? ⟨BG,0,none⟩=some (.string R.name)∧W.cell? ⟨BG,1,none⟩=some (.int .i64 R.width)∧W.cell? ⟨BG,2,none⟩=some (.int .i64 R.height)∧W.cell? ⟨BG,3,none⟩=some (.slice pA R.pieces.length pc)∧W.cell? ⟨BG,4,none⟩=some (.slice sA R.start.length sc)∧W.cell? ⟨BG,5,none⟩=some (.bool R.falls)∧W.cell? ⟨BG,6,none⟩=some (.bool R.keeps)∧W.cell? ⟨BG,7,none⟩=some (.slice eA R.ends.length ec)∧W.cell? ⟨BG,8,none⟩=some (.int .i64 R.blocked)∧W.cell? ⟨BG,9,none⟩=some (.int .i64 R.quiet)∧W.cell? ⟨BG,10,none⟩=some (.int .i64 R.rept)∧W.cell? ⟨BG,11,none⟩=some (l)∧W.cell? ⟨BG,12,none⟩=some (m)∧Ext wz W) W from ⟨(KG2.out.ext h).cell 0,(KG2.out.ext h).cell 1,(KG2.out.ext h).cell 2,(KG2.out.ext h).cell 3,(KG2.out.ext h).cell 4,(KG2.out.ext h).cell 5,(KG2.out.ext h).cell 6,(KG2.out.ext h).cell 7,(KG2.out.ext h).cell 8,(KG2.out.ext h).cell 9,(KG2.out.ext h).cell 10,(KG2.out.ext h).cell 11,(KG2.out.ext h).cell 12,h⟩))
  have yy : Ext wz wz.drew:=Below.drew (Below.refl _ _)
  refine region_K (fun W => W.cell? ⟨BG,0,none⟩=some (.string R.name)∧W.cell? ⟨BG,1,none⟩=some (.int .i64 R.width)∧W.cell? ⟨BG,2,none⟩=some (.int .i64 R.height)∧W.cell? ⟨BG,3,none⟩=some (.slice pA R.pieces.length pc)∧W.cell? ⟨BG,4,none⟩=some (.slice sA R.start.length sc)∧W.cell? ⟨BG,5,none⟩=some (.bool R.falls)∧W.cell? ⟨BG,6,none⟩=some (.bool R.keeps)∧W.cell? ⟨BG,7,none⟩=some (.slice eA R.ends.length ec)∧W.cell? ⟨BG,8,none⟩=some (.int .i64 R.blocked)∧W.cell? ⟨BG,9,none⟩=some (.int .i64 R.quiet)∧W.cell? ⟨BG,10,none⟩=some (.int .i64 R.rept)∧W.cell? ⟨BG,11,none⟩=some (l)∧W.cell? ⟨BG,12,none⟩=some (m)∧Ext wz W) (fun _ => True) [] (by kernel_rfl) ?_
  have hT0:=keepK.out _ yy
  refine tk 0 hT0 (fun _=>trivial) ?_
  refine tk 1 hT0 (fun _=>trivial) ?_
  refine tk 2 hT0 (fun _=>trivial) ?_
  refine sk 3 hT0 (fun _=>trivial) ?_
  refine sk 4 hT0 (fun _=>trivial) ?_
  refine sk 5 hT0 (fun _=>trivial) ?_
  refine sk 6 hT0 (fun _=>trivial) ?_
  refine sk 7 hT0 (fun _=>trivial) ?_
  refine sk 8 hT0 (fun _=>trivial) ?_
  refine tk 9 hT0 (fun _=>trivial) ?_
  refine tk 10 hT0 (fun _=>trivial) ?_
  refine sk 11 hT0 (fun _=>trivial) ?_
  refine sk 12 hT0 (fun _=>trivial) ?_
  refine sk 13 hT0 (fun _=>trivial) ?_
  refine sk 14 hT0 (fun _=>trivial) ?_
  refine sk 15 hT0 (fun _=>trivial) ?_
  refine sk 16 hT0 (fun _=>trivial) ?_
  refine sk 17 hT0 (fun _=>trivial) ?_
  refine sk 18 hT0 (fun _=>trivial) ?_
  refine tk 19 hT0 (fun _=>trivial) ?_
  refine anyK_done (by kernel_rfl) ?_ _
  clear keepK hT0
  go_wp2
  go_ret
  exact ⟨by rw [HG2.out]; rfl,ext_trans X2.out yy⟩
end Go.Proofs.YtdoibgmmijhlfaaGreatDoor
