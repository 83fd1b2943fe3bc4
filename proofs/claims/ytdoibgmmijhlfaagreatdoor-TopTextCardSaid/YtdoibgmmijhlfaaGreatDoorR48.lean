/- GameW5 GameP2 GameW6 Played TopTP -/
import Derived.Test.YtdoibgmmijhlfaaGreatDoorR47
import Derived.Test.YtdoibgmmijhlfaaGreatDoorR11
import Derived.Test.YtdoibgmmijhlfaaGreatDoorR01
import Derived.Test.YtdoibgmmijhlfaaGreatDoorR35
import Derived.Test.YtdoibgmmijhlfaaGreatDoorR04
import Derived.Test.YtdoibgmmijhlfaaGreatDoorR05
import Derived.Test.YtdoibgmmijhlfaaGreatDoorR06
namespace Go.Proofs.YtdoibgmmijhlfaaGreatDoor
open Go.ChangeShapes Go.WideShapes Go.ChangeAt Go.RowKit Go.Shelf
set_option linter.unusedVariables false
set_option linter.unusedSimpArgs false
def NewPost (w : World) (R : RulesM) (e : Ending) (w' : World) : Prop:=∃ BG,e=.returned (.tuple #[.pointer (some ⟨BG,0,none⟩),.int .i64 0])∧GameAt w w' BG R [beginP R] []
set_option maxHeartbeats 4000000 in
set_option maxRecDepth 100000 in
theorem New_yes (R : RulesM) (v : Value) (w : World) (hR : RulesAt w v R) (hV : Valid R) :
  Calls Tryz.prog 9 #[v] w (NewPost w R):=by
 have HB:=hide (fun W (hW : Ext w W) => Begin_own R v W (hR.ext hW) hV)
 have HCP:=hide (fun W (hW : Ext w W) => Copy_any v R W (hR.ext hW) hV)
 unfold NewPost
 obtain ⟨pA,pc,sA,sc,eA,ec,rfl,-⟩:=hR
 obtain ⟨x1,k1⟩:=blks1 w #[.string R.name,.int .i64 R.width,.int .i64 R.height,.slice pA R.pieces.length pc,.slice sA R.start.length sc,.bool R.falls,.bool R.keeps,.slice eA R.ends.length ec,.int .i64 R.blocked,.int .i64 R.quiet,.int .i64 R.rept] 26
 have HX1:=hide x1
 have K1:=hide k1
 have f1:=k1.cell
 clear x1 k1 hV
 generalize beginP R=P at *
 go_enter Tryz.func9,Tryz.ntmps9
 go_wp2_with fail
 refine (HB.out _ HX1.out).mono ?_
 rintro e w2 ⟨v2,rfl,p2,x2⟩
 have HP2:=hide p2
 obtain ⟨g0,d0,g1,d1,g2,d2,rfl,-⟩:=p2
 obtain ⟨x3,kV⟩:=blks1 w2 #[.slice (some ⟨g0,0,none⟩) P.cells.length d0,.slice (some ⟨g1,0,none⟩) P.hand0.length d1,.slice (some ⟨g2,0,none⟩) P.hand1.length d2,.int .i64 P.turn,.int .i64 P.quiet] 43
 have K2:=hide (K1.out.ext x2)
 have X2:=hide (ext_trans HX1.out x2)
 clear f1 x2 HX1 HB K1
 go_upto_region 4 with fail
 have KV:=hide kV
 have KR:=hide (K2.out.ext x3)
 have HP4:=hide (HP2.out.ext x3)
 have X4:=hide (ext_trans X2.out x3)
 clear kV x3 X2 K2 HP2
 generalize w2.alloc (.cells #[.slice (some ⟨g0,0,none⟩) P.cells.length d0,.slice (some ⟨g1,0,none⟩) P.hand0.length d1,.slice (some ⟨g2,0,none⟩) P.hand1.length d2,.int .i64 P.turn,.int .i64 P.quiet] 43)=w4 at *
 generalize w2.heap.size=BV at *
 generalize hBR : w.heap.size=BR at *
 have HBR:=hide hBR
 clear hBR
 have keepK:=hide (fun W (h : Ext w4 W) => (show (fun W => W.cell? ⟨BR,0,none⟩=some (.string R.name)∧W.cell? ⟨BR,1,none⟩=some (.int .i64 R.width)∧W.cell? ⟨BR,2,none⟩=some (.int .i64 R.height)∧W.cell? ⟨BR,3,none⟩=some (.slice pA R.pieces.length pc)∧W.cell? ⟨BR,4,none⟩=some (.slice sA R.start.length sc)∧W.cell? ⟨BR,5,none⟩=some (.bool R.falls)∧W.cell? ⟨BR,6,none⟩=some (.bool R.keeps)∧W.cell? ⟨BR,7,none⟩=some (.slice eA R.ends.length ec)∧W.cell? ⟨BR,8,none⟩=some (.int .i64 R.blocked)∧W.cell? ⟨BR,9,none⟩=some (.int .i64 R.quiet)∧W.cell? ⟨BR,10,none⟩=some (.int .i64 R.rept)∧W.cell? ⟨BV,0,none⟩=some (.slice (some ⟨g0,0,none⟩) P.cells.length d0)∧W.cell? ⟨BV,1,none⟩=some (.slice (some ⟨g1,0,none⟩) P.hand0.length d1)∧W.cell? ⟨BV,2,none⟩=some (.slice (some ⟨g2,0,none⟩) P.hand1.length d2)∧W.cell? ⟨BV,3,none⟩=some (.int .i64 P.turn)∧W.cell? ⟨BV,4,none⟩=some (.int .i64 P.quiet)∧Ext w4 W) W from ⟨(KR.out.ext h).cell 0,(KR.out.ext h).cell 1,(KR.out.ext h).cell 2,(KR.out.ext h).cell 3,(KR.out.ext h).cell 4,(KR.out.ext h).cell 5,(KR.out.ext h).cell 6,(KR.out.ext h).cell 7,(KR.out.ext h).cell 8,(KR.out.ext h).cell 9,(KR.out.ext h).cell 10,(KV.out.ext h).cell 0,(KV.out.ext h).cell 1,(KV.out.ext h).cell 2,(KV.out.ext h).cell 3,(KV.out.ext h).cell 4,h⟩))
 have yy : Ext w4 w4.drew:=Below.drew (Below.refl _ _)
 refine region_K (fun W => W.cell? ⟨BR,0,none⟩=some (.string R.name)∧W.cell? ⟨BR,1,none⟩=some (.int .i64 R.width)∧W.cell? ⟨BR,2,none⟩=some (.int .i64 R.height)∧W.cell? ⟨BR,3,none⟩=some (.slice pA R.pieces.length pc)∧W.cell? ⟨BR,4,none⟩=some (.slice sA R.start.length sc)∧W.cell? ⟨BR,5,none⟩=some (.bool R.falls)∧W.cell? ⟨BR,6,none⟩=some (.bool R.keeps)∧W.cell? ⟨BR,7,none⟩=some (.slice eA R.ends.length ec)∧W.cell? ⟨BR,8,none⟩=some (.int .i64 R.blocked)∧W.cell? ⟨BR,9,none⟩=some (.int .i64 R.quiet)∧W.cell? ⟨BR,10,none⟩=some (.int .i64 R.rept)∧W.cell? ⟨BV,0,none⟩=some (.slice (some ⟨g0,0,none⟩) P.cells.length d0)∧W.cell? ⟨BV,1,none⟩=some (.slice (some ⟨g1,0,none⟩) P.hand0.length d1)∧W.cell? ⟨BV,2,none⟩=some (.slice (some ⟨g2,0,none⟩) P.hand1.length d2)∧W.cell? ⟨BV,3,none⟩=some (.int .i64 P.turn)∧W.cell? ⟨BV,4,none⟩=some (.int .i64 P.quiet)∧Ext w4 W) (fun _ => True) [] (by kernel_rfl) ?_
 have hT0:=keepK.out _ yy
 refine tl 0 hT0 (fun _=>trivial) (v:=?_) (fun W hW=>?_) ?_
 rotate_left
 ·obtain ⟨z0,z1,z2,z3,z4,z5,z6,z7,z8,z9,z10,z11,z12,z13,z14,z15,z16⟩:=hW;go_simp;first|done|with_reducible rfl
 refine tl 2 hT0 (fun _=>trivial) (v:=?_) (fun W hW=>?_) ?_
 rotate_left
 ·obtain ⟨z0,z1,z2,z3,z4,z5,z6,z7,z8,z9,z10,z11,z12,z13,z14,z15,z16⟩:=hW;go_simp;first|done|with_reducible rfl
 refine anyK_on2 1 3 (by kernel_rfl) ?_ ?_
 ·skip
  refine tw 1 (fun K hK=>?_)
  go_simp
  refine (HCP.out _ (ext_trans X4.out yy)).mono ?_
  rintro e wk ⟨vr,bs,rfl,-,own,xx⟩
  try go_wp2_with fail
  replace yy:=ext_trans yy xx
  have HRO:=hide own
  obtain ⟨pA2,pc2,sA2,sc2,eA2,ec2,vss2,rfl,-⟩:=own
  try (replace HL:=hide (HL.out.ext xx))
  have hT1:=keepK.out _ yy
  refine hK.out _ _ hT1 (fun _ => trivial) ?_
  clear hK K
  try simp only [Act.put,List.setIfInBounds_toArray,List.set_cons_zero,List.set_cons_succ]
  refine anyK_on1 3 (by kernel_rfl) ?_
  refine tw 3 (fun K hK=>?_)
  go_simp
  have HL : Hid (Blk (wk.alloc (.cells #[.slice (some ⟨g0,0,none⟩) P.cells.length d0,.slice (some ⟨g1,0,none⟩) P.hand0.length d1,.slice (some ⟨g2,0,none⟩) P.hand1.length d2,.int .i64 P.turn,.int .i64 P.quiet] 43)) (wk.heap.size) 43 #[.slice (some ⟨g0,0,none⟩) P.cells.length d0,.slice (some ⟨g1,0,none⟩) P.hand0.length d1,.slice (some ⟨g2,0,none⟩) P.hand1.length d2,.int .i64 P.turn,.int .i64 P.quiet]):=hide (Blk.new wk 43 #[.slice (some ⟨g0,0,none⟩) P.cells.length d0,.slice (some ⟨g1,0,none⟩) P.hand0.length d1,.slice (some ⟨g2,0,none⟩) P.hand1.length d2,.int .i64 P.turn,.int .i64 P.quiet])
  try (replace HRO:=hide (HRO.out.ext (ext_alloc (Below.refl _ _) (.cells #[.slice (some ⟨g0,0,none⟩) P.cells.length d0,.slice (some ⟨g1,0,none⟩) P.hand0.length d1,.slice (some ⟨g2,0,none⟩) P.hand1.length d2,.int .i64 P.turn,.int .i64 P.quiet] 43))))
  have HBL : Hid (w.heap.size≤wk.heap.size):=hide (ext_trans X4.out yy).size
  replace yy:=ext_alloc yy (.cells #[.slice (some ⟨g0,0,none⟩) P.cells.length d0,.slice (some ⟨g1,0,none⟩) P.hand0.length d1,.slice (some ⟨g2,0,none⟩) P.hand1.length d2,.int .i64 P.turn,.int .i64 P.quiet] 43)
  have hT2:=keepK.out _ yy
  refine hK.out _ _ hT2 (fun _ => trivial) ?_
  clear hK K
  try simp only [Act.put,List.setIfInBounds_toArray,List.set_cons_zero,List.set_cons_succ]
  refine tk 4 hT2 (fun _=>trivial) ?_
  refine anyK_on1 5 (by kernel_rfl) ?_
  refine tw 5 (fun K hK=>?_)
  go_simp
  have HBG : Hid (w.heap.size≤wk.heap.size + 1):=hide (by rw [show wk.heap.size + 1=(wk.alloc (.cells #[.slice (some ⟨g0,0,none⟩) P.cells.length d0,.slice (some ⟨g1,0,none⟩) P.hand0.length d1,.slice (some ⟨g2,0,none⟩) P.hand1.length d2,.int .i64 P.turn,.int .i64 P.quiet] 43)).heap.size by simp]; exact (ext_trans X4.out yy).size)
  have HG : Hid (Blk ((wk.alloc (.cells #[.slice (some ⟨g0,0,none⟩) P.cells.length d0,.slice (some ⟨g1,0,none⟩) P.hand0.length d1,.slice (some ⟨g2,0,none⟩) P.hand1.length d2,.int .i64 P.turn,.int .i64 P.quiet] 43)).alloc (.cells #[.string R.name,.int .i64 R.width,.int .i64 R.height,.slice pA2 R.pieces.length pc2,.slice sA2 R.start.length sc2,.bool R.falls,.bool R.keeps,.slice eA2 R.ends.length ec2,.int .i64 R.blocked,.int .i64 R.quiet,.int .i64 R.rept,.slice (some ⟨wk.heap.size,0,none⟩) 1 1,.slice none 0 0] 92)) (wk.heap.size + 1) 92 #[.string R.name,.int .i64 R.width,.int .i64 R.height,.slice pA2 R.pieces.length pc2,.slice sA2 R.start.length sc2,.bool R.falls,.bool R.keeps,.slice eA2 R.ends.length ec2,.int .i64 R.blocked,.int .i64 R.quiet,.int .i64 R.rept,.slice (some ⟨wk.heap.size,0,none⟩) 1 1,.slice none 0 0]):=hide (by rw [show wk.heap.size + 1=(wk.alloc (.cells #[.slice (some ⟨g0,0,none⟩) P.cells.length d0,.slice (some ⟨g1,0,none⟩) P.hand0.length d1,.slice (some ⟨g2,0,none⟩) P.hand1.length d2,.int .i64 P.turn,.int .i64 P.quiet] 43)).heap.size by simp]; exact Blk.new (wk.alloc (.cells #[.slice (some ⟨g0,0,none⟩) P.cells.length d0,.slice (some ⟨g1,0,none⟩) P.hand0.length d1,.slice (some ⟨g2,0,none⟩) P.hand1.length d2,.int .i64 P.turn,.int .i64 P.quiet] 43)) 92 #[.string R.name,.int .i64 R.width,.int .i64 R.height,.slice pA2 R.pieces.length pc2,.slice sA2 R.start.length sc2,.bool R.falls,.bool R.keeps,.slice eA2 R.ends.length ec2,.int .i64 R.blocked,.int .i64 R.quiet,.int .i64 R.rept,.slice (some ⟨wk.heap.size,0,none⟩) 1 1,.slice none 0 0])
  replace HRO:=hide (HRO.out.ext (ext_alloc (Below.refl _ _) (.cells #[.string R.name,.int .i64 R.width,.int .i64 R.height,.slice pA2 R.pieces.length pc2,.slice sA2 R.start.length sc2,.bool R.falls,.bool R.keeps,.slice eA2 R.ends.length ec2,.int .i64 R.blocked,.int .i64 R.quiet,.int .i64 R.rept,.slice (some ⟨wk.heap.size,0,none⟩) 1 1,.slice none 0 0] 92)))
  replace HL:=hide (HL.out.ext (ext_alloc (Below.refl _ _) (.cells #[.string R.name,.int .i64 R.width,.int .i64 R.height,.slice pA2 R.pieces.length pc2,.slice sA2 R.start.length sc2,.bool R.falls,.bool R.keeps,.slice eA2 R.ends.length ec2,.int .i64 R.blocked,.int .i64 R.quiet,.int .i64 R.rept,.slice (some ⟨wk.heap.size,0,none⟩) 1 1,.slice none 0 0] 92)))
  replace yy:=ext_alloc yy (.cells #[.string R.name,.int .i64 R.width,.int .i64 R.height,.slice pA2 R.pieces.length pc2,.slice sA2 R.start.length sc2,.bool R.falls,.bool R.keeps,.slice eA2 R.ends.length ec2,.int .i64 R.blocked,.int .i64 R.quiet,.int .i64 R.rept,.slice (some ⟨wk.heap.size,0,none⟩) 1 1,.slice none 0 0] 92)
  have hT3:=keepK.out _ yy
  refine hK.out _ _ hT3 (fun _ => trivial) ?_
  clear hK K
  try simp only [Act.put,List.setIfInBounds_toArray,List.set_cons_zero,List.set_cons_succ]
  refine tk 6 hT3 (fun _=>trivial) ?_
  refine tk 7 hT3 (fun _=>trivial) ?_
  refine anyK_done (by kernel_rfl) ?_ _
  clear keepK hT0 hT1 hT2 hT3
  have HX:=hide (ext_trans X4.out yy)
  have HPF:=hide (HP4.out.ext yy)
  go_wp2
  go_ret2
  exact ⟨_,rfl,pA2,pc2,sA2,sc2,eA2,ec2,bs,_,_,HG.out,HRO.out,ownP_one HL.out HBL.out HPF.out,OwnM.nil _ _,HBG.out,HX.out⟩
 ·skip
  refine tw 3 (fun K hK=>?_)
  go_simp
  have HL : Hid (Blk (w4.drew.alloc (.cells #[.slice (some ⟨g0,0,none⟩) P.cells.length d0,.slice (some ⟨g1,0,none⟩) P.hand0.length d1,.slice (some ⟨g2,0,none⟩) P.hand1.length d2,.int .i64 P.turn,.int .i64 P.quiet] 43)) (w4.heap.size) 43 #[.slice (some ⟨g0,0,none⟩) P.cells.length d0,.slice (some ⟨g1,0,none⟩) P.hand0.length d1,.slice (some ⟨g2,0,none⟩) P.hand1.length d2,.int .i64 P.turn,.int .i64 P.quiet]):=hide (Blk.new w4.drew 43 #[.slice (some ⟨g0,0,none⟩) P.cells.length d0,.slice (some ⟨g1,0,none⟩) P.hand0.length d1,.slice (some ⟨g2,0,none⟩) P.hand1.length d2,.int .i64 P.turn,.int .i64 P.quiet])
  try (replace HRO:=hide (HRO.out.ext (ext_alloc (Below.refl _ _) (.cells #[.slice (some ⟨g0,0,none⟩) P.cells.length d0,.slice (some ⟨g1,0,none⟩) P.hand0.length d1,.slice (some ⟨g2,0,none⟩) P.hand1.length d2,.int .i64 P.turn,.int .i64 P.quiet] 43))))
  have HBL : Hid (w.heap.size≤w4.heap.size):=hide (ext_trans X4.out yy).size
  replace yy:=ext_alloc yy (.cells #[.slice (some ⟨g0,0,none⟩) P.cells.length d0,.slice (some ⟨g1,0,none⟩) P.hand0.length d1,.slice (some ⟨g2,0,none⟩) P.hand1.length d2,.int .i64 P.turn,.int .i64 P.quiet] 43)
  have hT1:=keepK.out _ yy
  refine hK.out _ _ hT1 (fun _ => trivial) ?_
  clear hK K
  try simp only [Act.put,List.setIfInBounds_toArray,List.set_cons_zero,List.set_cons_succ]
  refine anyK_on1 1 (by kernel_rfl) ?_
  refine tw 1 (fun K hK=>?_)
  go_simp
  refine (HCP.out _ (ext_trans X4.out yy)).mono ?_
  rintro e wk ⟨vr,bs,rfl,-,own,xx⟩
  try go_wp2_with fail
  replace yy:=ext_trans yy xx
  have HRO:=hide own
  obtain ⟨pA2,pc2,sA2,sc2,eA2,ec2,vss2,rfl,-⟩:=own
  try (replace HL:=hide (HL.out.ext xx))
  have hT2:=keepK.out _ yy
  refine hK.out _ _ hT2 (fun _ => trivial) ?_
  clear hK K
  try simp only [Act.put,List.setIfInBounds_toArray,List.set_cons_zero,List.set_cons_succ]
  refine tk 4 hT2 (fun _=>trivial) ?_
  refine anyK_on1 5 (by kernel_rfl) ?_
  refine tw 5 (fun K hK=>?_)
  go_simp
  have HBG : Hid (w.heap.size≤wk.heap.size):=hide (by rw [show wk.heap.size=wk.heap.size by simp]; exact (ext_trans X4.out yy).size)
  have HG : Hid (Blk (wk.alloc (.cells #[.string R.name,.int .i64 R.width,.int .i64 R.height,.slice pA2 R.pieces.length pc2,.slice sA2 R.start.length sc2,.bool R.falls,.bool R.keeps,.slice eA2 R.ends.length ec2,.int .i64 R.blocked,.int .i64 R.quiet,.int .i64 R.rept,.slice (some ⟨w4.heap.size,0,none⟩) 1 1,.slice none 0 0] 92)) (wk.heap.size) 92 #[.string R.name,.int .i64 R.width,.int .i64 R.height,.slice pA2 R.pieces.length pc2,.slice sA2 R.start.length sc2,.bool R.falls,.bool R.keeps,.slice eA2 R.ends.length ec2,.int .i64 R.blocked,.int .i64 R.quiet,.int .i64 R.rept,.slice (some ⟨w4.heap.size,0,none⟩) 1 1,.slice none 0 0]):=hide (by rw [show wk.heap.size=wk.heap.size by simp]; exact Blk.new wk 92 #[.string R.name,.int .i64 R.width,.int .i64 R.height,.slice pA2 R.pieces.length pc2,.slice sA2 R.start.length sc2,.bool R.falls,.bool R.keeps,.slice eA2 R.ends.length ec2,.int .i64 R.blocked,.int .i64 R.quiet,.int .i64 R.rept,.slice (some ⟨w4.heap.size,0,none⟩) 1 1,.slice none 0 0])
  replace HRO:=hide (HRO.out.ext (ext_alloc (Below.refl _ _) (.cells #[.string R.name,.int .i64 R.width,.int .i64 R.height,.slice pA2 R.pieces.length pc2,.slice sA2 R.start.length sc2,.bool R.falls,.bool R.keeps,.slice eA2 R.ends.length ec2,.int .i64 R.blocked,.int .i64 R.quiet,.int .i64 R.rept,.slice (some ⟨w4.heap.size,0,none⟩) 1 1,.slice none 0 0] 92)))
  replace HL:=hide (HL.out.ext (ext_alloc (Below.refl _ _) (.cells #[.string R.name,.int .i64 R.width,.int .i64 R.height,.slice pA2 R.pieces.length pc2,.slice sA2 R.start.length sc2,.bool R.falls,.bool R.keeps,.slice eA2 R.ends.length ec2,.int .i64 R.blocked,.int .i64 R.quiet,.int .i64 R.rept,.slice (some ⟨w4.heap.size,0,none⟩) 1 1,.slice none 0 0] 92)))
  replace yy:=ext_alloc yy (.cells #[.string R.name,.int .i64 R.width,.int .i64 R.height,.slice pA2 R.pieces.length pc2,.slice sA2 R.start.length sc2,.bool R.falls,.bool R.keeps,.slice eA2 R.ends.length ec2,.int .i64 R.blocked,.int .i64 R.quiet,.int .i64 R.rept,.slice (some ⟨w4.heap.size,0,none⟩) 1 1,.slice none 0 0] 92)
  have hT3:=keepK.out _ yy
  refine hK.out _ _ hT3 (fun _ => trivial) ?_
  clear hK K
  try simp only [Act.put,List.setIfInBounds_toArray,List.set_cons_zero,List.set_cons_succ]
  refine tk 6 hT3 (fun _=>trivial) ?_
  refine tk 7 hT3 (fun _=>trivial) ?_
  refine anyK_done (by kernel_rfl) ?_ _
  clear keepK hT0 hT1 hT2 hT3
  have HX:=hide (ext_trans X4.out yy)
  have HPF:=hide (HP4.out.ext yy)
  go_wp2
  go_ret2
  exact ⟨_,rfl,pA2,pc2,sA2,sc2,eA2,ec2,bs,_,_,HG.out,HRO.out,ownP_one HL.out HBL.out HPF.out,OwnM.nil _ _,HBG.out,HX.out⟩
end Go.Proofs.YtdoibgmmijhlfaaGreatDoor
namespace Go.Proofs.YtdoibgmmijhlfaaGreatDoor
set_option linter.unusedVariables false
theorem play_zero {R : RulesM} {ps : List PosM} {ms : List MoveM} {P : PosM} {m : MoveM} (h : playE R ps ms P m=0) : resultG R ps P=0∧m ∈ listM R P∧ms.length ≠ 400:=by
 by_cases h1 : resultG R ps P=0
 ·by_cases h2 : m ∈ listM R P
  ·by_cases h3 : ms.length=400
   ·rw [play3 h1 h2 h3] at h; exact absurd h (by decide)
   ·exact ⟨h1,h2,h3⟩
  ·rw [play2 h1 h2] at h; exact absurd h (by decide)
 ·rw [play1 h1] at h; exact absurd h (by decide)
structure Played (R : RulesM) (ps : List PosM) (ms : List MoveM) : Prop where
 len : ps.length=ms.length + 1
 first : ps[0]? = some (beginP R)
 step : ∀ (k : Nat) (m : MoveM) (P : PosM),ms[k]? = some m→ps[k]? = some P→playE R (ps.take (k + 1)) (ms.take k) P m=0∧ps[k + 1]? = some (makeM R P m)
theorem played_nil (R : RulesM) : Played R [beginP R] []:=⟨rfl,rfl,fun k m P h => by simp at h⟩
theorem last_take {ps : List PosM} {k : Nat} {P : PosM} (h : ps[k]? = some P) : (ps.take (k + 1)).getLast? = some P:=by
 rw [List.take_add_one,h]
 simp
theorem Played.last {R : RulesM} {ps : List PosM} {ms : List MoveM} (h : Played R ps ms) : ∃ P,ps[ms.length]? = some P∧ps.getLast? = some P:=by
 have hl:=h.len
 have hlt : ms.length < ps.length:=by omega
 refine ⟨ps[ms.length],List.getElem?_eq_getElem hlt,?_⟩
 rw [List.getLast?_eq_getElem?,show ps.length - 1=ms.length by omega]
 exact List.getElem?_eq_getElem hlt
theorem Played.at_last {R : RulesM} {ps : List PosM} {ms : List MoveM} (h : Played R ps ms) {P : PosM} (hP : ps.getLast? = some P) : ps[ms.length]? = some P:=by
 obtain ⟨Q,h1,h2⟩:=h.last
 rw [hP] at h2
 cases h2
 exact h1
theorem Played.snoc {R : RulesM} {ps : List PosM} {ms : List MoveM} (h : Played R ps ms) {P : PosM} {m : MoveM} (hP : ps.getLast? = some P) (hm : playE R ps ms P m=0) : Played R (ps ++ [makeM R P m]) (ms ++ [m]):=by
 have hl:=h.len
 have hL:=h.at_last hP
 refine ⟨by simp [hl],?_,?_⟩
 ·rw [List.getElem?_append_left (by omega)]; exact h.first
 ·intro k m' P' h1 h2
  by_cases hk : k < ms.length
  ·rw [List.getElem?_append_left hk] at h1
   rw [List.getElem?_append_left (by omega)] at h2
   have s:=h.step k m' P' h1 h2
   rw [List.take_append_of_le_length (by omega),List.take_append_of_le_length (by omega),List.getElem?_append_left (by omega)]
   exact s
  ·by_cases hk2 : k=ms.length
   ·subst hk2
    rw [List.getElem?_append_right (by omega)] at h1
    rw [List.getElem?_append_left (by omega),hL] at h2
    simp only [Nat.sub_self,List.getElem?_cons_zero,Option.some.injEq] at h1 h2
    subst h1 h2
    refine ⟨?_,?_⟩
    ·rw [List.take_append_of_le_length (by omega),List.take_append_of_le_length (by omega),List.take_of_length_le (by omega),List.take_of_length_le (by omega)]
     exact hm
    ·rw [List.getElem?_append_right (by omega),show ms.length + 1 - ps.length=0 by omega]; rfl
   ·rw [List.getElem?_eq_none (by simp; omega)] at h1
    cases h1
theorem Played.get {R : RulesM} {ps : List PosM} {ms : List MoveM} (h : Played R ps ms) (hV : Valid R) : ∀ (k : Nat) (P : PosM),ps[k]? = some P→Sound R P
 | 0,P,hk => by
  rw [h.first] at hk
  cases hk
  exact sound_begin hV
 | k + 1,P,hk => by
  have hlt:=(List.getElem?_eq_some_iff.1 hk).1
  have hl:=h.len
  have h1 : ms[k]? = some ms[k]:=List.getElem?_eq_getElem (by omega)
  have h2 : ps[k]? = some ps[k]:=List.getElem?_eq_getElem (by omega)
  have s:=h.step k _ _ h1 h2
  rw [s.2] at hk
  cases hk
  exact sound_make hV (h.get hV k _ h2) (mem_listM.1 (play_zero s.1).2.1)
theorem Played.sound {R : RulesM} {ps : List PosM} {ms : List MoveM} (h : Played R ps ms) (hV : Valid R) : ∀ Q ∈ ps,Sound R Q:=fun Q hQ => by
 obtain ⟨k,hk⟩:=List.getElem?_of_mem hQ
 exact h.get hV k Q hk
theorem Played.bd {R : RulesM} {ps : List PosM} {ms : List MoveM} (h : Played R ps ms) : ms.length≤400:=by
 by_cases hn : ms.length≤400
 ·exact hn
 ·have hl:=h.len
  have h1 : ms[400]? = some (ms[400]'(by omega)):=List.getElem?_eq_getElem _
  have h2 : ps[400]? = some (ps[400]'(by omega)):=List.getElem?_eq_getElem _
  have s:=(play_zero (h.step 400 _ _ h1 h2).1).2.2
  rw [List.length_take] at s
  omega
theorem Played.take {R : RulesM} {ps : List PosM} {ms : List MoveM} (h : Played R ps ms) (k : Nat) (hk : k≤ms.length) : Played R (ps.take (k + 1)) (ms.take k):=by
 have hl:=h.len
 refine ⟨by rw [List.length_take,List.length_take]; omega,by rw [List.getElem?_take_of_lt (by omega)]; exact h.first,fun j m P h1 h2 => ?_⟩
 have hj:=(List.getElem?_eq_some_iff.1 h1).1
 rw [List.length_take] at hj
 rw [List.getElem?_take_of_lt (by omega)] at h1 h2
 have s:=h.step j m P h1 h2
 rw [List.take_take,List.take_take,Nat.min_eq_left (by omega),Nat.min_eq_left (by omega),List.getElem?_take_of_lt (by omega)]
 exact s
end Go.Proofs.YtdoibgmmijhlfaaGreatDoor
namespace Go.Proofs.YtdoibgmmijhlfaaGreatDoor
open Go.ChangeShapes Go.WideShapes Go.ChangeAt Go.RowKit Go.Shelf
set_option linter.unusedVariables false
set_option linter.unusedSimpArgs false
def RunPost (w : World) (P : PosM) (x : Int) (e : Ending) (w' : World) : Prop:=∃ v',e=.returned (.tuple #[v',.int .i64 x,.int .i64 0])∧PosI w' v' P∧Ext w w'
set_option maxHeartbeats 4000000 in
set_option maxRecDepth 100000 in
theorem Run_yes (R : RulesM) (v u : Value) (ps : List PosM) (ms : List MoveM) (P : PosM) (w : World) (hR : RulesAt w v R) (hV : Valid R) (hM : MovesAt w u ms) (hp : Played R ps ms) (hP : ps.getLast? = some P) :
  Calls Tryz.prog 36 #[v,u] w (RunPost w P (resultG R ps P)):=by
 have HNW:=hide (fun W (hW : Ext w W) => New_yes R v W (hR.ext hW) hV)
 have HPL:=hide hp
 have HV:=hide hV
 have HLP:=hide hP
 have hbd:=hp.bd
 have HBD:=hide hbd
 obtain ⟨pA,pc,sA,sc,eA,ec,rfl,-⟩:=hR
 have HM:=hide hM
 obtain ⟨mA,mc,rfl,-⟩:=hM
 obtain ⟨x1,k1,k2⟩:=blks2 w #[.string R.name,.int .i64 R.width,.int .i64 R.height,.slice pA R.pieces.length pc,.slice sA R.start.length sc,.bool R.falls,.bool R.keeps,.slice eA R.ends.length ec,.int .i64 R.blocked,.int .i64 R.quiet,.int .i64 R.rept] 26 #[.slice none 0 0,.slice none 0 0,.slice none 0 0,.int .i64 0,.int .i64 0] 43
 have HX1:=hide x1
 have K2:=hide k2
 have f1:=k1.cell
 have HLT : Hid (w.heap.size≤w.heap.size + 1):=hide (by omega)
 clear x1 k1 k2 hp hV hP hbd
 go_enter Tryz.func36,Tryz.ntmps36
 go_wp2_with fail
 refine (HNW.out _ HX1.out).mono ?_
 generalize hwn : (w.alloc (.cells #[.string R.name,.int .i64 R.width,.int .i64 R.height,.slice pA R.pieces.length pc,.slice sA R.start.length sc,.bool R.falls,.bool R.keeps,.slice eA R.ends.length ec,.int .i64 R.blocked,.int .i64 R.quiet,.int .i64 R.rept] 26)).alloc (.cells #[.slice none 0 0,.slice none 0 0,.slice none 0 0,.int .i64 0,.int .i64 0] 43)=wn at *
 rintro e w2 ⟨BG,rfl,hG⟩
 have HG:=hide hG
 clear f1 hG hwn HNW
 generalize w.heap.size + 1=BO at *
 have hll : ms.length≤400:=HBD.out
 go_wp2
 go_loopw [23] (fun i wr => ∃ k : Nat,k≤ms.length∧i=.int .i64 k∧GameAt wn wr BG R (ps.take (k + 1)) (ms.take k)) (fun i _ => ms.length - (intOf i).toNat)
 case atStart => exact ⟨0,Nat.zero_le _,rfl,by
  have h:=HPL.out.first
  rw [show ps.take (0 + 1)=[beginP R] by rw [List.take_add_one,h]; rfl]
  exact HG.out⟩
 case round =>
  obtain ⟨k,hk,rfl,hG⟩:=hrel
  have HGr:=hide hG
  clear hG
  by_cases hlt : k < ms.length
  ·obtain ⟨m,hm⟩ : ∃ m,ms[k]? = some m:=⟨ms[k],List.getElem?_eq_getElem _⟩
   obtain ⟨Q,hQ⟩ : ∃ Q,ps[k]? = some Q:=⟨ps[k]'(by have:=HPL.out.len; omega),List.getElem?_eq_getElem _⟩
   have s:=HPL.out.step k m Q hm hQ
   obtain ⟨z1,z2,z3⟩:=play_zero s.1
   have HT:=HPL.out.take k hk
   have e1 : (ps.take (k + 1)) ++ [makeM R Q m]=ps.take (k + 1 + 1):=by rw [List.take_add_one (i:=k + 1),s.2]; rfl
   have e2 : (ms.take k) ++ [m]=ms.take (k + 1):=by rw [List.take_add_one,hm]; rfl
   have l1 : (ps.take (k + 1)).length≤100000:=by rw [List.length_take]; omega
   have l2 : (ms.take k).length≤100000:=by rw [List.length_take]; omega
   have HPY:=hide (fun W (x : Ext wr W) => Play_yes (HGr.out.ext x) l1 l2 HV.out (HT.sound HV.out) (last_take hQ) m z1 z2 z3)
   rw [e1,e2] at HPY
   obtain ⟨A',c',e',hc'⟩:=(HM.out.ext (ext_trans HX1.out HGr.out.old))
   obtain ⟨b,o,rfl,m0,m1,m2⟩:=moves_get hc' hm
   simp only [Value.slice.injEq] at e'
   obtain ⟨rfl,-,rfl⟩:=e'
   clear s z1 z2 z3 HT e1 e2 l1 l2 hm hQ hc'
   go_upto_region 7 with fail
   obtain ⟨x5,k5⟩:=blks1 wr #[.int .i64 m.src,.int .i64 m.dst,.int .i64 m.piece] 47
   have HPY5:=hide (HPY.out _ x5)
   have f5:=k5.cell
   clear x5 k5 m0 m1 m2 HPY
   generalize wr.alloc (.cells #[.int .i64 m.src,.int .i64 m.dst,.int .i64 m.piece] 47)=w5 at *
   generalize wr.heap.size=BM at *
   go_wp2_with fail
   refine HPY5.out.mono ?_
   rintro e w6 ⟨rfl,hG6⟩
   have HG6:=hide hG6
   clear hG6 f5
   go_wp2
   go_roundw
   case rel => exact ⟨k + 1,by omega,by go_num,HG6.out⟩
   case measure => simp [intOf]; omega
  ·obtain rfl : k=ms.length:=by omega
   have ht : ps.take (ms.length + 1)=ps:=List.take_of_length_le (by have:=HPL.out.len; omega)
   rw [ht,List.take_length] at HGr
   have hl : ps.length≤100000:=by have:=HPL.out.len; omega
   have HPO:=hide (fun W (x : Ext wr W) => GPosition_any (HGr.out.ext x) (by omega) (fit_of HV.out (HPL.out.sound HV.out)) HLP.out)
   have HRE:=hide (fun W (x : Ext wr W) => GResult_any (HGr.out.ext x) (by omega) HV.out (HPL.out.sound HV.out) HLP.out)
   have XR:=hide (ext_trans HX1.out HGr.out.old)
   have KO:=hide (K2.out.ext HGr.out.old)
   clear ht hl hk hlt
   generalize resultG R ps P=x at *
   go_wp2_with fail
   refine (HPO.out _ (Below.refl _ _)).mono ?_
   rintro e w6 ⟨v6,rfl,p6,x6⟩
   have P6:=hide p6
   obtain ⟨g0,d0,g1,d1,g2,d2,rfl,-⟩:=p6
   have X6:=hide x6
   clear x6
   go_wp2_with fail
   refine (HRE.out _ X6.out).mono ?_
   rintro e w7 ⟨rfl,x7⟩
   have P7:=hide (P6.out.ext x7)
   have KO7:=hide ((KO.out.ext X6.out).ext x7)
   have X7:=hide (ext_trans XR.out (ext_trans X6.out x7))
   clear x7 X6 P6 KO XR
   have gz:=KO7.out.frozen
   have gc:=KO7.out.cell
   go_wp2
   have K9:=blk_put (i:=4) (u:=.int .i64 P.quiet) (blk_put (i:=3) (u:=.int .i64 P.turn) (blk_put (i:=2) (u:=.slice (some ⟨g2,0,none⟩) P.hand1.length d2) (blk_put (i:=1) (u:=.slice (some ⟨g1,0,none⟩) P.hand0.length d1) (blk_put (i:=0) (u:=.slice (some ⟨g0,0,none⟩) P.cells.length d0) KO7.out rfl) rfl) rfl) rfl) (cs':=#[.slice (some ⟨g0,0,none⟩) P.cells.length d0,.slice (some ⟨g1,0,none⟩) P.hand0.length d1,.slice (some ⟨g2,0,none⟩) P.hand1.length d2,.int .i64 P.turn,.int .i64 P.quiet]) rfl
   have X9:=(ext_set (ext_set (ext_set (ext_set (ext_set X7.out (p:=⟨BO,0,none⟩) HLT.out (.slice (some ⟨g0,0,none⟩) P.cells.length d0)) (p:=⟨BO,1,none⟩) HLT.out (.slice (some ⟨g1,0,none⟩) P.hand0.length d1)) (p:=⟨BO,2,none⟩) HLT.out (.slice (some ⟨g2,0,none⟩) P.hand1.length d2)) (p:=⟨BO,3,none⟩) HLT.out (.int .i64 P.turn)) (p:=⟨BO,4,none⟩) HLT.out (.int .i64 P.quiet))
   have P9:=PosI.far5 (u0:=.slice (some ⟨g0,0,none⟩) P.cells.length d0) (u1:=.slice (some ⟨g1,0,none⟩) P.hand0.length d1) (u2:=.slice (some ⟨g2,0,none⟩) P.hand1.length d2) (u3:=.int .i64 P.turn) (u4:=.int .i64 P.quiet) P7.out KO7.out
   generalize (((((w7.setCell ⟨BO,0,none⟩ (.slice (some ⟨g0,0,none⟩) P.cells.length d0)).setCell ⟨BO,1,none⟩ (.slice (some ⟨g1,0,none⟩) P.hand0.length d1)).setCell ⟨BO,2,none⟩ (.slice (some ⟨g2,0,none⟩) P.hand1.length d2)).setCell ⟨BO,3,none⟩ (.int .i64 P.turn)).setCell ⟨BO,4,none⟩ (.int .i64 P.quiet))=Wf at *
   clear gz gc
   have rr0 : Wf.cell? ⟨BO,0,none⟩=some (.slice (some ⟨g0,0,none⟩) P.cells.length d0):=K9.cell 0
   have rr1 : Wf.cell? ⟨BO,1,none⟩=some (.slice (some ⟨g1,0,none⟩) P.hand0.length d1):=K9.cell 1
   have rr2 : Wf.cell? ⟨BO,2,none⟩=some (.slice (some ⟨g2,0,none⟩) P.hand1.length d2):=K9.cell 2
   have rr3 : Wf.cell? ⟨BO,3,none⟩=some (.int .i64 P.turn):=K9.cell 3
   have rr4 : Wf.cell? ⟨BO,4,none⟩=some (.int .i64 P.quiet):=K9.cell 4
   refine bodyPost_ret (v:=.tuple #[.agg #[.slice (some ⟨g0,0,none⟩) P.cells.length d0,.slice (some ⟨g1,0,none⟩) P.hand0.length d1,.slice (some ⟨g2,0,none⟩) P.hand1.length d2,.int .i64 P.turn,.int .i64 P.quiet],.int .i64 x,.int .i64 0]) ?_ rfl ?_
   ·simp [results,Tryz.results36,go_sem,rr0,rr1,rr2,rr3,rr4]
   ·exact ⟨_,rfl,P9,X9⟩
end Go.Proofs.YtdoibgmmijhlfaaGreatDoor
namespace Go.Proofs.YtdoibgmmijhlfaaGreatDoor
open Go.ChangeShapes Go.WideShapes Go.ChangeAt Go.RowKit Go.Shelf
set_option linter.unusedVariables false
set_option linter.unusedSimpArgs false
def gp0 : PosM:=beginP threeR
def gpM (P : PosM) (s : Int) : PosM:=makeM threeR P ⟨-1,s,0⟩
def winMs : List MoveM:=[⟨-1,0,0⟩,⟨-1,3,0⟩,⟨-1,1,0⟩,⟨-1,4,0⟩,⟨-1,2,0⟩]
def winP : PosM:=gpM (gpM (gpM (gpM (gpM gp0 0) 3) 1) 4) 2
def winPs : List PosM:=[gp0,gpM gp0 0,gpM (gpM gp0 0) 3,gpM (gpM (gpM gp0 0) 3) 1,gpM (gpM (gpM (gpM gp0 0) 3) 1) 4,winP]
theorem win_steps : playE threeR [gp0] [] gp0 ⟨-1,0,0⟩=0∧playE threeR [gp0,gpM gp0 0] [⟨-1,0,0⟩] (gpM gp0 0) ⟨-1,3,0⟩=0∧playE threeR [gp0,gpM gp0 0,gpM (gpM gp0 0) 3] [⟨-1,0,0⟩,⟨-1,3,0⟩] (gpM (gpM gp0 0) 3) ⟨-1,1,0⟩=0 ∧
  playE threeR [gp0,gpM gp0 0,gpM (gpM gp0 0) 3,gpM (gpM (gpM gp0 0) 3) 1] [⟨-1,0,0⟩,⟨-1,3,0⟩,⟨-1,1,0⟩] (gpM (gpM (gpM gp0 0) 3) 1) ⟨-1,4,0⟩=0 ∧
  playE threeR [gp0,gpM gp0 0,gpM (gpM gp0 0) 3,gpM (gpM (gpM gp0 0) 3) 1,gpM (gpM (gpM (gpM gp0 0) 3) 1) 4] [⟨-1,0,0⟩,⟨-1,3,0⟩,⟨-1,1,0⟩,⟨-1,4,0⟩] (gpM (gpM (gpM (gpM gp0 0) 3) 1) 4) ⟨-1,2,0⟩=0:=by decide +kernel
theorem win_played : Played threeR winPs winMs :=
 (((((played_nil threeR).snoc (P:=gp0) rfl win_steps.1).snoc (P:=gpM gp0 0) rfl win_steps.2.1).snoc (P:=gpM (gpM gp0 0) 3) rfl win_steps.2.2.1).snoc (P:=gpM (gpM (gpM gp0 0) 3) 1) rfl win_steps.2.2.2.1).snoc (P:=gpM (gpM (gpM (gpM gp0 0) 3) 1) 4) rfl win_steps.2.2.2.2
theorem win_last : winPs.getLast? = some winP:=rfl
theorem win_result : resultG threeR winPs winP=1:=by decide +kernel
theorem win_nine : winP.cells.length=9:=by decide +kernel
theorem fine_okA {w : World} {g : Nat} (h : Blk w g 27 #[.int .i64 0,.int .i64 0]) : Calls Tryz.prog 7 #[.slice (some ⟨g,0,none⟩) 2 2] w fun e w' => e=.returned (.bool true)∧Ext w w' :=
 fine_ext (fine_any (some ⟨g,0,none⟩) 2 2 [0,0] w rfl (by omega) (blk_ints h))
end Go.Proofs.YtdoibgmmijhlfaaGreatDoor
namespace Go.Proofs.YtdoibgmmijhlfaaGreatDoor
open Go.ChangeShapes Go.WideShapes Go.ChangeAt Go.RowKit Go.Shelf
set_option linter.unusedVariables false
set_option linter.unusedSimpArgs false
theorem bsame_yes (P : PosM) (v u : Value) (w : World) (hP : PosAt w v P) (hQ : PosAt w u P) (h0 : P.cells.length≤100000) (h1 : P.hand0.length≤100000) (h2 : P.hand1.length≤100000) :
  Calls Tryz.prog 14 #[v,u] w fun e w' => e=.returned (.bool true)∧Ext w w':=by
 have HPS:=hide (fun W (x : Ext w W) => PSame_yes P v u W (hP.ext x) (hQ.ext x) h0 h1 h2)
 obtain ⟨cA,cc,aA,ac,bA,bc,rfl,-⟩:=hP
 obtain ⟨dA,dc,eA,ec,fA,fc,rfl,-⟩:=hQ
 obtain ⟨xa,k1,k2⟩:=blks2 w #[.slice cA P.cells.length cc,.slice aA P.hand0.length ac,.slice bA P.hand1.length bc,.int .i64 P.turn,.int .i64 P.quiet] 43 #[.slice dA P.cells.length dc,.slice eA P.hand0.length ec,.slice fA P.hand1.length fc,.int .i64 P.turn,.int .i64 P.quiet] 43
 have X1:=hide xa
 have K1:=hide k1
 have K2:=hide k2
 have HPS2:=hide (HPS.out _ xa)
 clear HPS xa h0 h1 h2
 have q1:=k1.cell
 have q2:=k2.cell
 clear k1 k2
 go_enter Tryz.func14,Tryz.ntmps14
 go_wp2_with fail
 refine HPS2.out.mono ?_
 rintro e w2 ⟨rfl,x2⟩
 have q1:=(K1.out.ext x2).cell
 have q2:=(K2.out.ext x2).cell
 have X2:=hide (ext_trans X1.out x2)
 clear x2 HPS2
 go_wp2
 go_ret
 exact ⟨by simp,X2.out⟩
theorem moves_lit5 (w : World) : MovesAt (w.alloc (.cells #[.int .i64 (-1),.int .i64 0,.int .i64 0,.int .i64 (-1),.int .i64 3,.int .i64 0,.int .i64 (-1),.int .i64 1,.int .i64 0,.int .i64 (-1),.int .i64 4,.int .i64 0,.int .i64 (-1),.int .i64 2,.int .i64 0] 47)) (.slice (some ⟨w.heap.size,0,none⟩) 5 5) winMs:=⟨_,_,rfl,cellsAt_new w _ [.int .i64 (-1),.int .i64 0,.int .i64 0,.int .i64 (-1),.int .i64 3,.int .i64 0,.int .i64 (-1),.int .i64 1,.int .i64 0,.int .i64 (-1),.int .i64 4,.int .i64 0,.int .i64 (-1),.int .i64 2,.int .i64 0]⟩
theorem near_five : (listM threeR nearP).length=5:=by decide +kernel
theorem begin_nine : (beginP threeR).cells.length=9:=by decide +kernel
theorem begin_small : (beginP threeR).cells.length≤100000∧(beginP threeR).hand0.length≤100000∧(beginP threeR).hand1.length≤100000:=by decide +kernel
set_option maxHeartbeats 4000000 in
set_option maxRecDepth 100000 in
theorem bplayed_any (w : World) : Calls Tryz.prog 8 #[] w fun e w' => e=.returned (.bool true)∧Ext w w':=by
 go_enter Tryz.func8,Tryz.ntmps8
 go_wp2_with fail
 refine (three_any w).mono ?_
 rintro e w0 ⟨v1,rfl,h0,x0⟩
 have H0:=hide h0
 have X0:=hide x0
 clear h0 x0
 go_wp2_with fail
 refine (put_any 0 _).mono ?_
 rintro e w1 ⟨rfl,x1⟩
 have X1:=hide (ext_trans X0.out x1)
 have H1:=hide (H0.out.ext x1)
 clear X0 H0 x1
 go_wp2_with fail
 refine (put_any 3 _).mono ?_
 rintro e w2 ⟨rfl,x2⟩
 have X2:=hide (ext_trans X1.out x2)
 have H2:=hide (H1.out.ext x2)
 clear X1 H1 x2
 go_wp2_with fail
 refine (put_any 1 _).mono ?_
 rintro e w3 ⟨rfl,x3⟩
 have X3:=hide (ext_trans X2.out x3)
 have H3:=hide (H2.out.ext x3)
 clear X2 H2 x3
 go_wp2_with fail
 refine (put_any 4 _).mono ?_
 rintro e w4 ⟨rfl,x4⟩
 have X4:=hide (ext_trans X3.out x4)
 have H4:=hide (H3.out.ext x4)
 clear X3 H3 x4
 go_wp2_with fail
 refine (put_any 2 _).mono ?_
 rintro e w5 ⟨rfl,x5⟩
 have X5:=hide (ext_trans X4.out x5)
 have H5:=hide (H4.out.ext x5)
 clear X4 H4 x5
 have HRN:=hide (Run_yes threeR v1 (.slice (some ⟨w5.heap.size,0,none⟩) 5 5) winPs winMs winP _ (H5.out.ext (ext_alloc (Below.refl _ _) (.cells #[.int .i64 (-1),.int .i64 0,.int .i64 0,.int .i64 (-1),.int .i64 3,.int .i64 0,.int .i64 (-1),.int .i64 1,.int .i64 0,.int .i64 (-1),.int .i64 4,.int .i64 0,.int .i64 (-1),.int .i64 2,.int .i64 0] 47))) valid_three (moves_lit5 w5) win_played win_last)
 have XM:=hide (ext_trans X5.out (ext_alloc (Below.refl _ _) (.cells #[.int .i64 (-1),.int .i64 0,.int .i64 0,.int .i64 (-1),.int .i64 3,.int .i64 0,.int .i64 (-1),.int .i64 1,.int .i64 0,.int .i64 (-1),.int .i64 4,.int .i64 0,.int .i64 (-1),.int .i64 2,.int .i64 0] 47)))
 rw [win_result] at HRN
 clear X5 H5
 go_wp2_with fail
 refine HRN.out.mono ?_
 rintro e w6 ⟨vp,rfl,hp,x6⟩
 have X6:=hide (ext_trans XM.out x6)
 obtain ⟨g0,d0,g1,d1,g2,d2,rfl,-⟩:=hp
 clear x6 XM HRN
 go_upto_region 2 with fail
 obtain ⟨xk,kA⟩:=blks1 w6 #[.slice (some ⟨g0,0,none⟩) winP.cells.length d0,.slice (some ⟨g1,0,none⟩) winP.hand0.length d1,.slice (some ⟨g2,0,none⟩) winP.hand1.length d2,.int .i64 winP.turn,.int .i64 winP.quiet] 43
 generalize w6.alloc _=w7 at *
 generalize w6.heap.size=BA at *
 have X7:=hide (ext_trans X6.out xk)
 have KA:=hide kA
 clear xk kA X6
 go_wp2_with fail
 refine (three_any w7).mono ?_
 rintro e w8 ⟨v8,rfl,h8,x8⟩
 have X8:=hide (ext_trans X7.out x8)
 have KA8:=hide (KA.out.ext x8)
 have H8:=hide h8
 clear x8 h8 X7 KA
 go_wp2_with fail
 refine (near_any w8).mono ?_
 rintro e w9 ⟨v9,rfl,h9,x9⟩
 have X9:=hide (ext_trans X8.out x9)
 have KA9:=hide (KA8.out.ext x9)
 have HAL:=hide (All_yes threeR nearP v8 v9 w9 (H8.out.ext x9) h9.at_ valid_three sound_near)
 clear x9 h9 X8 KA8 H8
 go_wp2_with fail
 refine HAL.out.mono ?_
 rintro e w10 ⟨v10,rfl,o10,x10⟩
 obtain ⟨A10,c10,rfl,-⟩:=o10
 rw [near_five]
 have X10:=hide (ext_trans X9.out x10)
 have KA10:=hide (KA9.out.ext x10)
 clear x10 X9 KA9 HAL
 go_wp2_with fail
 refine (three_any w10).mono ?_
 rintro e w11 ⟨v11,rfl,h11,x11⟩
 have X11:=hide (ext_trans X10.out x11)
 have KA11:=hide (KA10.out.ext x11)
 have HBG:=hide (Begin_yes threeR v11 w11 h11 valid_three)
 clear x11 h11 X10 KA10
 go_wp2_with fail
 refine HBG.out.mono ?_
 rintro e w12 ⟨v12,rfl,h12,x12⟩
 have X12:=hide (ext_trans X11.out x12)
 have KA12:=hide (KA11.out.ext x12)
 have H12:=hide h12
 obtain ⟨cA,cc,aA,ac,bA,bc,rfl,-⟩:=h12
 clear x12 X11 KA11 HBG
 go_upto_region 4 with fail
 obtain ⟨xk,kB⟩:=blks1 w12 #[.slice cA (beginP threeR).cells.length cc,.slice aA (beginP threeR).hand0.length ac,.slice bA (beginP threeR).hand1.length bc,.int .i64 (beginP threeR).turn,.int .i64 (beginP threeR).quiet] 43
 generalize w12.alloc _=w13 at *
 generalize w12.heap.size=BB at *
 have X13:=hide (ext_trans X12.out xk)
 have KA13:=hide (KA12.out.ext xk)
 have KB:=hide kB
 have H13:=hide (H12.out.ext xk)
 clear xk kB X12 KA12 H12
 obtain ⟨xe,ke⟩:=blks1 w13 #[.int .i64 0,.int .i64 0,.int .i64 0] 27
 have HF:=hide (fine_ext (fine_any (some ⟨w13.heap.size,0,none⟩) 3 3 [0,0,0] _ rfl (by omega) (blk_ints ke)))
 rw [show allZero [0,0,0]=true from rfl] at HF
 have xE:=hide xe
 clear xe ke
 go_wp2_with fail
 refine HF.out.mono ?_
 rintro e w14 ⟨rfl,x14⟩
 have xx:=ext_trans xE.out x14
 have q1:=(KA13.out.ext xx).cell
 have q2:=(KB.out.ext xx).cell
 rw [win_nine] at q1
 rw [begin_nine] at q2
 have X14:=hide (ext_trans X13.out xx)
 have HSM:=hide (PSame_yes (beginP threeR) _ _ w14 (H13.out.ext xx) (H13.out.ext xx) begin_small.1 begin_small.2.1 begin_small.2.2)
 rw [begin_nine] at HSM
 clear x14 xx HF xE X13 KA13 KB H13
 go_wp2_with fail
 refine HSM.out.mono ?_
 rintro e w15 ⟨rfl,x15⟩
 have X15:=hide (ext_trans X14.out x15)
 clear q1 q2 x15
 go_wp2
 go_ret
 exact ⟨rfl,X15.out⟩
end Go.Proofs.YtdoibgmmijhlfaaGreatDoor
