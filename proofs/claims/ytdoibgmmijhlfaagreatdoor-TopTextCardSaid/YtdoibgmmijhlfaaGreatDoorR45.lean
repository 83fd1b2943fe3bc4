/- RtN -/
import Derived.Test.YtdoibgmmijhlfaaGreatDoorR43
import Derived.Test.YtdoibgmmijhlfaaGreatDoorR37
import Derived.Test.YtdoibgmmijhlfaaGreatDoorR01
namespace Go.Proofs.YtdoibgmmijhlfaaGreatDoor
open Go.RowKit
set_option linter.unusedVariables false
set_option linter.unusedSimpArgs false
abbrev zeroRulesV : Value:=.agg #[.string ⟨#[]⟩,.int .i64 0,.int .i64 0,.slice none 0 0,.slice none 0 0,.bool false,.bool false,.slice none 0 0,.int .i64 0,.int .i64 0,.int .i64 0]
def ParsePost (s : BL) (w : World) (e : Ending) (w' : World) : Prop :=
 ((∃ R u,parseR s=some R∧e=.returned (.tuple #[u,.int .i64 0])∧RulesAt w' u R)∨(parseR s=none∧∃ c,c ≠ 0∧e=.returned (.tuple #[zeroRulesV,.int .i64 c])))∧Ext w w'
section
variable {s : BL}
theorem parse_long (h : 8192 < s.length) : parseR s=none:=by unfold parseR; rw [if_pos h]
theorem parse_last (h : s.getLast? ≠ some 10) : parseR s=none:=by
 unfold parseR
 split
 ·rfl
 ·first | rfl | rw [if_pos h]
theorem parse_game (h : gameBad (gameR s.dropLast)=true) : parseR s=none:=by
 unfold parseR
 split
 ·rfl
 ·split
  ·rfl
  ·first | rfl | rw [if_pos h]
theorem parse_pieces (h : (piecesR (gameR s.dropLast)).bad=true) : parseR s=none:=by
 unfold parseR
 split
 ·rfl
 ·split
  ·rfl
  ·split
   ·rfl
   ·first | rfl | rw [if_pos h]
theorem parse_rest (h : (restR (piecesR (gameR s.dropLast))).bad=true∨(restR (piecesR (gameR s.dropLast))).lines ≠ []) : parseR s=none:=by
 unfold parseR
 split
 ·rfl
 ·split
  ·rfl
  ·split
   ·rfl
   ·split
    ·rfl
    ·first | rfl | exact if_pos h
theorem parse_check (h : rulesE (restR (piecesR (gameR s.dropLast))).r ≠ 0) : parseR s=none:=by
 unfold parseR
 split
 ·rfl
 ·split
  ·rfl
  ·split
   ·rfl
   ·split
    ·rfl
    ·simp only
     split
     ·rfl
     ·first | rfl | rw [if_pos h]
theorem parse_ok (h1 : ¬ 8192 < s.length) (h2 : s.getLast? = some 10) (h3 : gameBad (gameR s.dropLast)=false) (h4 : (piecesR (gameR s.dropLast)).bad=false) (h5 : (restR (piecesR (gameR s.dropLast))).bad=false) (h6 : (restR (piecesR (gameR s.dropLast))).lines=[]) (h7 : rulesE (restR (piecesR (gameR s.dropLast))).r=0) : parseR s=some (restR (piecesR (gameR s.dropLast))).r:=by
 unfold parseR
 rw [if_neg h1,if_neg (by rw [h2]; simp),if_neg (by rw [h3]; simp),if_neg (by rw [h4]; simp)]
 simp only
 rw [if_neg (by rw [h5,h6]; simp),if_neg (by rw [h7]; simp)]
end
theorem game_eq {body n0 n1 n2 : BL} {x1 : RdM} (h : mustR wGame 3 ⟨splitL 10 body,rules0,[],false⟩=([n0,n1,n2],x1)) : gameR body={ (x1.mark (numBad n1)).mark (numBad n2) with r:={ x1.r with name:=⟨n0.toArray⟩,width:=numV n1,height:=numV n2 } }:=by
 unfold gameR
 rw [h]
 rfl
set_option maxHeartbeats 8000000 in
set_option maxRecDepth 100000 in
theorem Parse_any (S : ByteArray) (s : BL) (hS : S=strU s) (w : World) (hw : LibW w) (hg4 : 4≤w.heap.size) :
  Calls Tryz.prog 6 #[.string S] w (ParsePost s w):=by
 subst hS
 have HLW:=Lib.hid (fun W (x : Ext w W) => hw.ext x)
 have HSZ:=Lib.hid (strU_size s)
 have HG4:=Lib.hid hg4
 obtain ⟨xa,k1⟩:=blks1 w #[.string ⟨#[]⟩,.int .i64 0,.int .i64 0,.slice none 0 0,.slice none 0 0,.bool false,.bool false,.slice none 0 0,.int .i64 0,.int .i64 0,.int .i64 0] 26
 clear hw hg4
 go_enter Tryz.func6,Tryz.ntmps6
 go_upto_region 1 with fail
 generalize w.alloc _=wE at *
 obtain ⟨RB,hRB⟩ : ∃ RB,RB=w.heap.size:=⟨_,rfl⟩
 rw [← hRB] at k1 ⊢
 have HLE:=Lib.hid (show w.heap.size≤RB by omega)
 have KRB:=Lib.hid k1
 have XWE:=Lib.hid xa
 clear hRB k1 xa
 by_cases hlong : 8192 < s.length
 ·have HNO:=Lib.hid (parse_long hlong)
  have t1 : decide ((8192 : Int) < (s.length : Int))=true:=decide_eq_true (by omega)
  have t2 : decide ((8192 : Int) < ((strU s).size : Int))=true:=by rw [HSZ.out]; exact t1
  clear hlong
  have gz:=KRB.out.frozen
  have gc:=KRB.out.cell
  go_wp2
  have K9:=blk_put (i:=10) (u:=.int .i64 0) (blk_put (i:=9) (u:=.int .i64 0) (blk_put (i:=8) (u:=.int .i64 0) (blk_put (i:=7) (u:=.slice none 0 0) (blk_put (i:=6) (u:=.bool false) (blk_put (i:=5) (u:=.bool false) (blk_put (i:=4) (u:=.slice none 0 0) (blk_put (i:=3) (u:=.slice none 0 0) (blk_put (i:=2) (u:=.int .i64 0) (blk_put (i:=1) (u:=.int .i64 0) (blk_put (i:=0) (u:=.string ⟨#[]⟩) KRB.out rfl) rfl) rfl) rfl) rfl) rfl) rfl) rfl) rfl) rfl) (cs':=#[.string ⟨#[]⟩,.int .i64 0,.int .i64 0,.slice none 0 0,.slice none 0 0,.bool false,.bool false,.slice none 0 0,.int .i64 0,.int .i64 0,.int .i64 0]) rfl
  have X9:=(ext_set (ext_set (ext_set (ext_set (ext_set (ext_set (ext_set (ext_set (ext_set (ext_set (ext_set XWE.out (p:=⟨RB,0,none⟩) HLE.out (.string ⟨#[]⟩)) (p:=⟨RB,1,none⟩) HLE.out (.int .i64 0)) (p:=⟨RB,2,none⟩) HLE.out (.int .i64 0)) (p:=⟨RB,3,none⟩) HLE.out (.slice none 0 0)) (p:=⟨RB,4,none⟩) HLE.out (.slice none 0 0)) (p:=⟨RB,5,none⟩) HLE.out (.bool false)) (p:=⟨RB,6,none⟩) HLE.out (.bool false)) (p:=⟨RB,7,none⟩) HLE.out (.slice none 0 0)) (p:=⟨RB,8,none⟩) HLE.out (.int .i64 0)) (p:=⟨RB,9,none⟩) HLE.out (.int .i64 0)) (p:=⟨RB,10,none⟩) HLE.out (.int .i64 0))
  generalize (((((((((((wE.setCell ⟨RB,0,none⟩ (.string ⟨#[]⟩)).setCell ⟨RB,1,none⟩ (.int .i64 0)).setCell ⟨RB,2,none⟩ (.int .i64 0)).setCell ⟨RB,3,none⟩ (.slice none 0 0)).setCell ⟨RB,4,none⟩ (.slice none 0 0)).setCell ⟨RB,5,none⟩ (.bool false)).setCell ⟨RB,6,none⟩ (.bool false)).setCell ⟨RB,7,none⟩ (.slice none 0 0)).setCell ⟨RB,8,none⟩ (.int .i64 0)).setCell ⟨RB,9,none⟩ (.int .i64 0)).setCell ⟨RB,10,none⟩ (.int .i64 0))=Wf at *
  clear gz gc
  have rr0 : Wf.cell? ⟨RB,0,none⟩=some (.string ⟨#[]⟩):=K9.cell 0
  have rr1 : Wf.cell? ⟨RB,1,none⟩=some (.int .i64 0):=K9.cell 1
  have rr2 : Wf.cell? ⟨RB,2,none⟩=some (.int .i64 0):=K9.cell 2
  have rr3 : Wf.cell? ⟨RB,3,none⟩=some (.slice none 0 0):=K9.cell 3
  have rr4 : Wf.cell? ⟨RB,4,none⟩=some (.slice none 0 0):=K9.cell 4
  have rr5 : Wf.cell? ⟨RB,5,none⟩=some (.bool false):=K9.cell 5
  have rr6 : Wf.cell? ⟨RB,6,none⟩=some (.bool false):=K9.cell 6
  have rr7 : Wf.cell? ⟨RB,7,none⟩=some (.slice none 0 0):=K9.cell 7
  have rr8 : Wf.cell? ⟨RB,8,none⟩=some (.int .i64 0):=K9.cell 8
  have rr9 : Wf.cell? ⟨RB,9,none⟩=some (.int .i64 0):=K9.cell 9
  have rr10 : Wf.cell? ⟨RB,10,none⟩=some (.int .i64 0):=K9.cell 10
  refine bodyPost_ret (v:=.tuple #[zeroRulesV,.int .i64 2]) ?_ rfl ?_
  ·simp [results,Tryz.results6,go_sem,rr0,rr1,rr2,rr3,rr4,rr5,rr6,rr7,rr8,rr9,rr10]
  ·exact ⟨.inr ⟨HNO.out,2,by decide,rfl⟩,X9⟩
 ·have t1 : decide ((8192 : Int) < (s.length : Int))=false:=decide_eq_false (by omega)
  have t2 : decide ((8192 : Int) < ((strU s).size : Int))=false:=by rw [HSZ.out]; exact t1
  have HLG:=Lib.hid hlong
  have HCT:=Lib.hid (cut_any s (by omega))
  clear hlong
  go_wp2_with fail
  refine (HCT.out _).mono ?_
  rintro e w2 ⟨rfl,rfl⟩
  by_cases hl : s.getLast? = some 10
  ·rw [if_pos hl,decide_eq_true hl]
   have HLA:=Lib.hid hl
   obtain ⟨body,hbd⟩ : ∃ b,b=s.dropLast:=⟨_,rfl⟩
   rw [← hbd]
   have HBD:=Lib.hid hbd
   have hbl : body.length≤8192:=by
    rw [hbd,List.length_dropLast]
    have:=HLG.out
    omega
   have HSP:=Lib.hid (fun W (x : Ext w W) => split_blk 10 body hbl W (HLW.out W x))
   have HCN:=Lib.hid (splitL_cnt 10 body)
   have HBL:=Lib.hid hbl
   clear hbd hl hbl
   go_wp2_with fail
   refine (HSP.out _ XWE.out).mono ?_
   rintro e w3 ⟨g2,rfl,hG2,hg2,x3⟩
   obtain ⟨n,hn⟩ : ∃ n,n=(splitL 10 body).length:=⟨_,rfl⟩
   rw [← hn]
   have HRN:=Lib.hid (rd_new (W:=w3) (L:=splitL 10 body) (n:=n) (Blk.lt hG2) (blk_cells hG2 rfl) hn (fun x hx => Nat.le_trans (splitL_sub 10 body x hx) HBL.out) (by have h1:=HCN.out; have h2:=HBL.out; omega))
   have HSZ3:=Lib.hid x3.size
   have X3:=Lib.hid (ext_trans XWE.out x3)
   have KR3:=Lib.hid (KRB.out.ext x3)
   clear hn hG2 hg2 x3 HSP
   go_upto_region 7 with fail
   have X4:=Lib.hid (ext_alloc X3.out (.cells #[.slice (some ⟨g2,0,none⟩) n n,.string ⟨#[]⟩,.int .i64 0,.int .i64 0,.slice none 0 0,.slice none 0 0,.bool false,.bool false,.slice none 0 0,.int .i64 0,.int .i64 0,.int .i64 0,.slice none 0 0,.bool false] RT))
   have KR4:=Lib.hid (KR3.out.alloc (.cells #[.slice (some ⟨g2,0,none⟩) n n,.string ⟨#[]⟩,.int .i64 0,.int .i64 0,.slice none 0 0,.slice none 0 0,.bool false,.bool false,.slice none 0 0,.int .i64 0,.int .i64 0,.int .i64 0,.slice none 0 0,.bool false] RT))
   have HGR:=Lib.hid (show RB ≠ w3.heap.size from fun e => by have:=Blk.lt KR3.out; omega)
   have HGW:=Lib.hid (show w.heap.size≤w3.heap.size from X3.out.size)
   generalize w3.alloc _=w4 at *
   obtain ⟨g,hg⟩ : ∃ g,g=w3.heap.size:=⟨_,rfl⟩
   rw [← hg] at HRN HGR HGW ⊢
   have HG:=Lib.hid (show 4≤g by have h1:=HG4.out; have h2:=HGW.out; omega)
   clear hg
   have HM7:=Lib.hid (rd_must wGame 3 HRN.out (HLW.out _ X4.out) (by decide))
   go_wp2_with fail
   refine HM7.out.mono ?_
   rintro e w7 ⟨l,A7,c7,B7,d7,rfl,hl1,hl2,hl3,hl4,hl5,hr7,hk7⟩
   obtain ⟨n0,n1,n2,rfl⟩:=list3 hl2
   obtain ⟨x1,hx1⟩ : ∃ x1,x1=(mustR wGame 3 ⟨splitL 10 body,rules0,[],false⟩).2:=⟨_,rfl⟩
   have HGE:=Lib.hid (game_eq (body:=body) (n0:=n0) (n1:=n1) (n2:=n2) (x1:=x1) (Prod.ext hl1 hx1.symm))
   rw [← hx1] at hr7
   have HF1:=Lib.hid (show x1={ (⟨splitL 10 body,rules0,[],false⟩ : RdM) with lines:=x1.lines,bad:=x1.bad } from by
    have h:=mustR_form wGame 3 ⟨splitL 10 body,rules0,[],false⟩
    rw [← hx1] at h
    exact h)
   have HR7:=Lib.hid hr7
   have X7:=Lib.hid (ext_gr2 X4.out hk7 HGW.out)
   have KR7:=Lib.hid (KR4.out.grown hk7 (fun e => HGR.out (by injection e)))
   obtain ⟨qb,qo,rfl,hqg,hq⟩:=words_at hl3
   have HQ7:=Lib.hid (show w7.cell? ⟨qb,qo,none⟩=some (.string (strU n0))∧w7.cell? ⟨qb,qo + 1,none⟩=some (.string (strU n1))∧w7.cell? ⟨qb,qo + 2,none⟩=some (.string (strU n2)) from ⟨hq 0 _ rfl,hq 1 _ rfl,hq 2 _ rfl⟩)
   have HQG:=Lib.hid hqg
   have hk3 : 3≤c7:=hl3.2.1
   have HN0:=Lib.hid (hl5 n0 (by simp))
   have HN1:=Lib.hid (hl5 n1 (by simp))
   have HN2:=Lib.hid (hl5 n2 (by simp))
   have HRBW:=Lib.hid (Blk.lt KR4.out)
   clear hl1 hl2 hl3 hl4 hl5 hr7 hk7 hx1 hqg hq HM7 HRN KRB KR3 KR4 X3 XWE
   go_upto_region 8 with fail
   have HR8:=Lib.hid (HR7.out.ext (Below.drew (Below.refl _ _)))
   have XF8:=Lib.hid (show Ext w w7.drew from Below.drew X7.out)
   have KF8:=Lib.hid (KR7.out.ext (Below.drew (Below.refl _ _)))
   have keepK:=hide (fun W (h : (World.cell? W ⟨qb,qo,none⟩=some (Value.string (strU n0))∧World.cell? W ⟨qb,qo + 1,none⟩=some (Value.string (strU n1))∧World.cell? W ⟨qb,qo + 2,none⟩=some (Value.string (strU n2)))) => (show (fun W => W.cell? ⟨qb,qo,none⟩=some (Value.string (strU n0))∧W.cell? ⟨qb,qo + 1,none⟩=some (Value.string (strU n1))∧W.cell? ⟨qb,qo + 2,none⟩=some (Value.string (strU n2))∧(World.cell? W ⟨qb,qo,none⟩=some (Value.string (strU n0))∧World.cell? W ⟨qb,qo + 1,none⟩=some (Value.string (strU n1))∧World.cell? W ⟨qb,qo + 2,none⟩=some (Value.string (strU n2)))) W from ⟨h.1,h.2.1,h.2.2,h⟩))
   have yy:=HQ7.out
   refine region_K (fun W => W.cell? ⟨qb,qo,none⟩=some (Value.string (strU n0))∧W.cell? ⟨qb,qo + 1,none⟩=some (Value.string (strU n1))∧W.cell? ⟨qb,qo + 2,none⟩=some (Value.string (strU n2))∧(World.cell? W ⟨qb,qo,none⟩=some (Value.string (strU n0))∧World.cell? W ⟨qb,qo + 1,none⟩=some (Value.string (strU n1))∧World.cell? W ⟨qb,qo + 2,none⟩=some (Value.string (strU n2)))) (fun _ => True) [] (by kernel_rfl) ?_
   have hT0:=keepK.out _ yy
   refine tk 0 hT0 (fun _=>trivial) ?_
   refine tk 1 hT0 (fun _=>trivial) ?_
   refine tk 2 hT0 (fun _=>trivial) ?_
   refine tk 3 hT0 (fun _=>trivial) ?_
   refine tk 4 hT0 (fun _=>trivial) ?_
   refine tl 5 hT0 (fun _=>trivial) (v:=?_) (fun W hW=>?_) ?_
   rotate_left
   ·obtain ⟨z0,z1,z2,z3⟩:=hW;go_simp;first|done|with_reducible rfl
   refine tk 7 hT0 (fun _=>trivial) ?_
   refine tk 8 hT0 (fun _=>trivial) ?_
   refine tk 9 hT0 (fun _=>trivial) ?_
   refine tl 10 hT0 (fun _=>trivial) (v:=?_) (fun W hW=>?_) ?_
   rotate_left
   ·obtain ⟨z0,z1,z2,z3⟩:=hW;go_simp;first|done|with_reducible rfl
   refine tk 12 hT0 (fun _=>trivial) ?_
   refine tk 13 hT0 (fun _=>trivial) ?_
   refine tk 14 hT0 (fun _=>trivial) ?_
   refine tl 15 hT0 (fun _=>trivial) (v:=?_) (fun W hW=>?_) ?_
   rotate_left
   ·obtain ⟨z0,z1,z2,z3⟩:=hW;go_simp;first|done|with_reducible rfl
   refine anyK_on1 6 (by kernel_rfl) ?_
   refine tw 6 (fun K hK=>?_)
   go_simp
   refine (sclone_any n0 HN0.out w7.drew).mono ?_
   rintro e wa ⟨rfl,xx⟩
   try go_wp2_with fail
   replace yy:=And.intro (Ext.cell xx yy.1) (And.intro (Ext.cell xx yy.2.1) (Ext.cell xx yy.2.2))
   have HRa:=Lib.hid (HR8.out.ext xx)
   have XFa:=Lib.hid (ext_trans XF8.out xx)
   have KFa:=Lib.hid (KF8.out.ext xx)
   have hT1:=keepK.out _ yy
   refine hK.out _ _ hT1 (fun _ => trivial) ?_
   clear hK K
   try simp only [Act.put,List.setIfInBounds_toArray,List.set_cons_zero,List.set_cons_succ]
   refine anyK_on1 11 (by kernel_rfl) ?_
   refine tw 11 (fun K hK=>?_)
   go_simp
   refine (rd_number n1 HRa.out (HLW.out _ XFa.out) HN1.out).mono ?_
   rintro e wb ⟨rfl,hb,xx⟩
   try go_wp2_with fail
   replace yy:=And.intro (xx.cell yy.1 (fun e => HQG.out (by injection e))) (And.intro (xx.cell yy.2.1 (fun e => HQG.out (by injection e))) (xx.cell yy.2.2 (fun e => HQG.out (by injection e))))
   have HRb:=Lib.hid hb
   have XFb:=Lib.hid (ext_gr2 XFa.out xx HGW.out)
   have KFb:=Lib.hid (KFa.out.grown xx (fun e => HGR.out (by injection e)))
   clear hb
   have hT2:=keepK.out _ yy
   refine hK.out _ _ hT2 (fun _ => trivial) ?_
   clear hK K
   try simp only [Act.put,List.setIfInBounds_toArray,List.set_cons_zero,List.set_cons_succ]
   refine anyK_on1 16 (by kernel_rfl) ?_
   refine tw 16 (fun K hK=>?_)
   go_simp
   refine (rd_number n2 HRb.out (HLW.out _ XFb.out) HN2.out).mono ?_
   rintro e wc ⟨rfl,hb,xx⟩
   try go_wp2_with fail
   replace yy:=And.intro (xx.cell yy.1 (fun e => HQG.out (by injection e))) (And.intro (xx.cell yy.2.1 (fun e => HQG.out (by injection e))) (xx.cell yy.2.2 (fun e => HQG.out (by injection e))))
   have HRc:=Lib.hid hb
   have XFc:=Lib.hid (ext_gr2 XFb.out xx HGW.out)
   have KFc:=Lib.hid (KFb.out.grown xx (fun e => HGR.out (by injection e)))
   clear hb
   have hT3:=keepK.out _ yy
   refine hK.out _ _ hT3 (fun _ => trivial) ?_
   clear hK K
   try simp only [Act.put,List.setIfInBounds_toArray,List.set_cons_zero,List.set_cons_succ]
   refine tk 17 hT3 (fun _=>trivial) ?_
   refine tk 18 hT3 (fun _=>trivial) ?_
   refine tk 19 hT3 (fun _=>trivial) ?_
   refine anyK_on1 20 (by kernel_rfl) ?_
   refine tw 20 (fun K hK=>?_)
   have zc:=HRc.out.blk.cell
   have zf:=HRc.out.blk.frozen
   go_simp
   clear zc zf
   have HRd:=Lib.hid (HRc.out.put (x':={ ((x1.mark (numBad n1)).mark (numBad n2)) with r:={ x1.r with name:=⟨n0.toArray⟩ } }) 1 (.string (strU n0)) rfl rfl rfl rfl rfl)
   have XFd:=Lib.hid (ext_set XFc.out (p:=⟨g,1,none⟩) HGW.out (.string (strU n0)))
   have KFd:=Lib.hid (KFc.out.far (p:=⟨g,1,none⟩) HGR.out (.string (strU n0)))
   replace yy:=And.intro (cell_far (p:=⟨g,1,none⟩) yy.1 HQG.out (.string (strU n0))) (And.intro (cell_far (p:=⟨g,1,none⟩) yy.2.1 HQG.out (.string (strU n0))) (cell_far (p:=⟨g,1,none⟩) yy.2.2 HQG.out (.string (strU n0))))
   have hT4:=keepK.out _ yy
   refine hK.out _ _ hT4 (fun _ => trivial) ?_
   clear hK K
   try simp only [Act.put,List.setIfInBounds_toArray,List.set_cons_zero,List.set_cons_succ]
   refine tk 21 hT4 (fun _=>trivial) ?_
   refine tk 22 hT4 (fun _=>trivial) ?_
   refine tk 23 hT4 (fun _=>trivial) ?_
   refine anyK_on1 24 (by kernel_rfl) ?_
   refine tw 24 (fun K hK=>?_)
   have zc:=HRd.out.blk.cell
   have zf:=HRd.out.blk.frozen
   go_simp
   clear zc zf
   have HRe:=Lib.hid (HRd.out.put (x':={ ((x1.mark (numBad n1)).mark (numBad n2)) with r:={ x1.r with name:=⟨n0.toArray⟩,width:=numV n1 } }) 2 (.int .i64 (numV n1)) rfl rfl rfl rfl rfl)
   have XFe:=Lib.hid (ext_set XFd.out (p:=⟨g,2,none⟩) HGW.out (.int .i64 (numV n1)))
   have KFe:=Lib.hid (KFd.out.far (p:=⟨g,2,none⟩) HGR.out (.int .i64 (numV n1)))
   replace yy:=And.intro (cell_far (p:=⟨g,2,none⟩) yy.1 HQG.out (.int .i64 (numV n1))) (And.intro (cell_far (p:=⟨g,2,none⟩) yy.2.1 HQG.out (.int .i64 (numV n1))) (cell_far (p:=⟨g,2,none⟩) yy.2.2 HQG.out (.int .i64 (numV n1))))
   have hT5:=keepK.out _ yy
   refine hK.out _ _ hT5 (fun _ => trivial) ?_
   clear hK K
   try simp only [Act.put,List.setIfInBounds_toArray,List.set_cons_zero,List.set_cons_succ]
   refine tk 25 hT5 (fun _=>trivial) ?_
   refine tk 26 hT5 (fun _=>trivial) ?_
   refine tk 27 hT5 (fun _=>trivial) ?_
   refine anyK_on1 28 (by kernel_rfl) ?_
   refine tw 28 (fun K hK=>?_)
   have zc:=HRe.out.blk.cell
   have zf:=HRe.out.blk.frozen
   go_simp
   clear zc zf
   have HRf:=Lib.hid (HRe.out.put (x':={ ((x1.mark (numBad n1)).mark (numBad n2)) with r:={ x1.r with name:=⟨n0.toArray⟩,width:=numV n1,height:=numV n2 } }) 3 (.int .i64 (numV n2)) rfl rfl rfl rfl rfl)
   have XFf:=Lib.hid (ext_set XFe.out (p:=⟨g,3,none⟩) HGW.out (.int .i64 (numV n2)))
   have KFf:=Lib.hid (KFe.out.far (p:=⟨g,3,none⟩) HGR.out (.int .i64 (numV n2)))
   replace yy:=And.intro (cell_far (p:=⟨g,3,none⟩) yy.1 HQG.out (.int .i64 (numV n2))) (And.intro (cell_far (p:=⟨g,3,none⟩) yy.2.1 HQG.out (.int .i64 (numV n2))) (cell_far (p:=⟨g,3,none⟩) yy.2.2 HQG.out (.int .i64 (numV n2))))
   have hT6:=keepK.out _ yy
   refine hK.out _ _ hT6 (fun _ => trivial) ?_
   clear hK K
   try simp only [Act.put,List.setIfInBounds_toArray,List.set_cons_zero,List.set_cons_succ]
   refine anyK_done (by kernel_rfl) ?_ _
   clear keepK hT0 hT1 hT2 hT3 hT4 hT5 hT6
   have HRg:=Lib.hid (show RdAt _ g (gameR body) _ B7 d7 _ _ _ _ from HGE.out ▸ HRf.out)
   clear HR7 HR8 HRa HRb HRc HRd HRe HRf XF8 XFa XFb XFc XFd XFe KF8 KFa KFb KFc KFd KFe
   generalize ((wc.setCell ⟨g,1,none⟩ (.string (strU n0))).setCell ⟨g,2,none⟩ (.int .i64 (numV n1))).setCell ⟨g,3,none⟩ (.int .i64 (numV n2))=w9 at *
   obtain ⟨X,hX⟩ : ∃ X,X=gameR body:=⟨_,rfl⟩
   rw [← hX] at HRg
   have HXE:=Lib.hid hX
   have HXN:=Lib.hid (show X.r.name.size=n0.length by rw [hX,HGE.out]; rfl)
   have HXP:=Lib.hid (show X.r.pieces=[]∧X.r.ends=[]∧X.tos=[] from by
    rw [hX,HGE.out]
    show x1.r.pieces=[]∧x1.r.ends=[]∧x1.tos=[]
    rw [HF1.out]
    exact ⟨rfl,rfl,rfl⟩)
   have c13 : w9.cell? ⟨g,13,none⟩=some (.bool X.bad):=HRg.out.blk.cell 13
   have c2 : w9.cell? ⟨g,2,none⟩=some (.int .i64 X.r.width):=HRg.out.blk.cell 2
   have c3 : w9.cell? ⟨g,3,none⟩=some (.int .i64 X.r.height):=HRg.out.blk.cell 3
   have hq0 : w9.cell? ⟨qb,qo,none⟩=some (.string (strU n0)):=yy.1
   obtain ⟨wd,hwd⟩ : ∃ wd,wd=X.r.width:=⟨_,rfl⟩
   obtain ⟨ht,hht⟩ : ∃ ht,ht=X.r.height:=⟨_,rfl⟩
   obtain ⟨b,hb⟩ : ∃ b,b=X.bad:=⟨_,rfl⟩
   have HGB:=Lib.hid (show gameBad X=(b || (decide (n0.length=0) || (decide (wd < 1) || (decide (8 < wd) || (decide (ht < 1) || decide (8 < ht)))))) by unfold gameBad; rw [HXN.out,hwd,hht,hb])
   have HWH:=Lib.hid (And.intro hwd (And.intro hht hb))
   rw [← hwd] at c2
   rw [← hht] at c3
   rw [← hb] at c13
   clear hX hwd hht hb yy HGE HF1 HQ7
   go_upto_region 9 with fail
   go_cut [95] (fun s95 wx => s95=.bool (gameBad X)∧wx=w9)
   case first =>
    cases hB : b with
    | true =>
     rw [hB] at c13
     clear HWH
     go_wp2_with fail
     go_meet
     exact ⟨by rw [HGB.out,hB]; rfl,rfl⟩
    | false =>
     rw [hB] at c13
     by_cases he : n0.length=0
     ·have e1 : (strU n0).toList.isEmpty=true:=by rw [Lib.toList_data,strU_data]; simp [List.length_eq_zero_iff.1 he]
      go_wp2_with fail
      go_meet
      exact ⟨by rw [HGB.out,hB,decide_eq_true he]; rfl,rfl⟩
     ·have e1 : (strU n0).toList.isEmpty=false:=by
       rw [Lib.toList_data,strU_data]
       cases n0 with
       | nil => exact absurd rfl he
       | cons a b => rfl
      by_cases h1 : wd < 1
      ·have f1 : decide (wd < 1)=true:=decide_eq_true h1
       go_wp2_with fail
       go_meet
       exact ⟨by rw [HGB.out,hB,decide_eq_false he,f1]; rfl,rfl⟩
      ·have f1 : decide (wd < 1)=false:=decide_eq_false h1
       by_cases h2 : 8 < wd
       ·have f2 : decide (8 < wd)=true:=decide_eq_true h2
        go_wp2_with fail
        go_meet
        exact ⟨by rw [HGB.out,hB,decide_eq_false he,f1,f2]; rfl,rfl⟩
       ·have f2 : decide (8 < wd)=false:=decide_eq_false h2
        by_cases h3 : ht < 1
        ·have f3 : decide (ht < 1)=true:=decide_eq_true h3
         go_wp2_with fail
         go_meet
         exact ⟨by rw [HGB.out,hB,decide_eq_false he,f1,f2,f3]; rfl,rfl⟩
        ·have f3 : decide (ht < 1)=false:=decide_eq_false h3
         by_cases h4 : 8 < ht
         ·have f4 : decide (8 < ht)=true:=decide_eq_true h4
          go_wp2_with fail
          go_meet
          exact ⟨by rw [HGB.out,hB,decide_eq_false he,f1,f2,f3,f4]; rfl,rfl⟩
         ·have f4 : decide (8 < ht)=false:=decide_eq_false h4
          go_wp2_with fail
          go_meet
          exact ⟨by rw [HGB.out,hB,decide_eq_false he,f1,f2,f3,f4]; rfl,rfl⟩
   case rest =>
    obtain ⟨rfl,rfl⟩:=hcut
    cases hgb : gameBad X with
    | true =>
     have HNO:=Lib.hid (parse_game (s:=s) (by rw [← HBD.out,← HXE.out]; exact hgb))
     clear hgb c2 c3 c13 hq0
     have gz:=KFf.out.frozen
     have gc:=KFf.out.cell
     go_wp2
     have K9:=blk_put (i:=10) (u:=.int .i64 0) (blk_put (i:=9) (u:=.int .i64 0) (blk_put (i:=8) (u:=.int .i64 0) (blk_put (i:=7) (u:=.slice none 0 0) (blk_put (i:=6) (u:=.bool false) (blk_put (i:=5) (u:=.bool false) (blk_put (i:=4) (u:=.slice none 0 0) (blk_put (i:=3) (u:=.slice none 0 0) (blk_put (i:=2) (u:=.int .i64 0) (blk_put (i:=1) (u:=.int .i64 0) (blk_put (i:=0) (u:=.string ⟨#[]⟩) KFf.out rfl) rfl) rfl) rfl) rfl) rfl) rfl) rfl) rfl) rfl) (cs':=#[.string ⟨#[]⟩,.int .i64 0,.int .i64 0,.slice none 0 0,.slice none 0 0,.bool false,.bool false,.slice none 0 0,.int .i64 0,.int .i64 0,.int .i64 0]) rfl
     have X9:=(ext_set (ext_set (ext_set (ext_set (ext_set (ext_set (ext_set (ext_set (ext_set (ext_set (ext_set XFf.out (p:=⟨RB,0,none⟩) HLE.out (.string ⟨#[]⟩)) (p:=⟨RB,1,none⟩) HLE.out (.int .i64 0)) (p:=⟨RB,2,none⟩) HLE.out (.int .i64 0)) (p:=⟨RB,3,none⟩) HLE.out (.slice none 0 0)) (p:=⟨RB,4,none⟩) HLE.out (.slice none 0 0)) (p:=⟨RB,5,none⟩) HLE.out (.bool false)) (p:=⟨RB,6,none⟩) HLE.out (.bool false)) (p:=⟨RB,7,none⟩) HLE.out (.slice none 0 0)) (p:=⟨RB,8,none⟩) HLE.out (.int .i64 0)) (p:=⟨RB,9,none⟩) HLE.out (.int .i64 0)) (p:=⟨RB,10,none⟩) HLE.out (.int .i64 0))
     generalize (((((((((((wc.setCell ⟨RB,0,none⟩ (.string ⟨#[]⟩)).setCell ⟨RB,1,none⟩ (.int .i64 0)).setCell ⟨RB,2,none⟩ (.int .i64 0)).setCell ⟨RB,3,none⟩ (.slice none 0 0)).setCell ⟨RB,4,none⟩ (.slice none 0 0)).setCell ⟨RB,5,none⟩ (.bool false)).setCell ⟨RB,6,none⟩ (.bool false)).setCell ⟨RB,7,none⟩ (.slice none 0 0)).setCell ⟨RB,8,none⟩ (.int .i64 0)).setCell ⟨RB,9,none⟩ (.int .i64 0)).setCell ⟨RB,10,none⟩ (.int .i64 0))=Wf at *
     clear gz gc
     have rr0 : Wf.cell? ⟨RB,0,none⟩=some (.string ⟨#[]⟩):=K9.cell 0
     have rr1 : Wf.cell? ⟨RB,1,none⟩=some (.int .i64 0):=K9.cell 1
     have rr2 : Wf.cell? ⟨RB,2,none⟩=some (.int .i64 0):=K9.cell 2
     have rr3 : Wf.cell? ⟨RB,3,none⟩=some (.slice none 0 0):=K9.cell 3
     have rr4 : Wf.cell? ⟨RB,4,none⟩=some (.slice none 0 0):=K9.cell 4
     have rr5 : Wf.cell? ⟨RB,5,none⟩=some (.bool false):=K9.cell 5
     have rr6 : Wf.cell? ⟨RB,6,none⟩=some (.bool false):=K9.cell 6
     have rr7 : Wf.cell? ⟨RB,7,none⟩=some (.slice none 0 0):=K9.cell 7
     have rr8 : Wf.cell? ⟨RB,8,none⟩=some (.int .i64 0):=K9.cell 8
     have rr9 : Wf.cell? ⟨RB,9,none⟩=some (.int .i64 0):=K9.cell 9
     have rr10 : Wf.cell? ⟨RB,10,none⟩=some (.int .i64 0):=K9.cell 10
     refine bodyPost_ret (v:=.tuple #[zeroRulesV,.int .i64 5]) ?_ rfl ?_
     ·simp [results,Tryz.results6,go_sem,rr0,rr1,rr2,rr3,rr4,rr5,rr6,rr7,rr8,rr9,rr10]
     ·exact ⟨.inr ⟨HNO.out,5,by decide,rfl⟩,X9⟩
    | false =>
     clear c2 c3 c13 hq0
     have HPC:=Lib.hid (rd_pieces HRg.out (HLW.out _ XFf.out) HG.out HXP.out.1 HXP.out.2.2)
     have HGF:=Lib.hid (hgb.symm.trans HGB.out)
     clear hgb
     go_wp2_with fail
     refine HPC.out.mono ?_
     rintro e w11 ⟨B11,d11,pv,tv,rfl,hk11,h13,hr11⟩
     have XG:=Lib.hid (ext_gr2 XFf.out hk11 HGW.out)
     have KG:=Lib.hid (KFf.out.grown hk11 (fun e => HGR.out (by injection e)))
     have HR11:=Lib.hid hr11
     clear hk11 hr11 HPC
     obtain ⟨Y,hY⟩ : ∃ Y,Y=piecesR X:=⟨_,rfl⟩
     rw [← hY] at h13 HR11
     have HYE:=Lib.hid hY
     have HSAY:=Lib.hid (fun (h : Y.bad=false) => (show Y.r.width=wd∧Y.r.height=ht∧Y.r.ends=[]∧Y.r.name=X.r.name from by
      obtain ⟨-,ps,ts,hf,-⟩:=piecesR_says HXP.out.1 HXP.out.2.2 (by rw [← hY]; exact h)
      rw [hY,hf]
      exact ⟨HWH.out.1.symm,HWH.out.2.1.symm,HXP.out.2.1,rfl⟩))
     clear hY
     cases hyb : Y.bad with
     | true =>
      rw [hyb] at h13
      have HNO:=Lib.hid (parse_pieces (s:=s) (by rw [← HBD.out,← HXE.out,← HYE.out]; exact hyb))
      clear hyb
      have gz:=KG.out.frozen
      have gc:=KG.out.cell
      go_wp2
      have K9:=blk_put (i:=10) (u:=.int .i64 0) (blk_put (i:=9) (u:=.int .i64 0) (blk_put (i:=8) (u:=.int .i64 0) (blk_put (i:=7) (u:=.slice none 0 0) (blk_put (i:=6) (u:=.bool false) (blk_put (i:=5) (u:=.bool false) (blk_put (i:=4) (u:=.slice none 0 0) (blk_put (i:=3) (u:=.slice none 0 0) (blk_put (i:=2) (u:=.int .i64 0) (blk_put (i:=1) (u:=.int .i64 0) (blk_put (i:=0) (u:=.string ⟨#[]⟩) KG.out rfl) rfl) rfl) rfl) rfl) rfl) rfl) rfl) rfl) rfl) (cs':=#[.string ⟨#[]⟩,.int .i64 0,.int .i64 0,.slice none 0 0,.slice none 0 0,.bool false,.bool false,.slice none 0 0,.int .i64 0,.int .i64 0,.int .i64 0]) rfl
      have X9:=(ext_set (ext_set (ext_set (ext_set (ext_set (ext_set (ext_set (ext_set (ext_set (ext_set (ext_set XG.out (p:=⟨RB,0,none⟩) HLE.out (.string ⟨#[]⟩)) (p:=⟨RB,1,none⟩) HLE.out (.int .i64 0)) (p:=⟨RB,2,none⟩) HLE.out (.int .i64 0)) (p:=⟨RB,3,none⟩) HLE.out (.slice none 0 0)) (p:=⟨RB,4,none⟩) HLE.out (.slice none 0 0)) (p:=⟨RB,5,none⟩) HLE.out (.bool false)) (p:=⟨RB,6,none⟩) HLE.out (.bool false)) (p:=⟨RB,7,none⟩) HLE.out (.slice none 0 0)) (p:=⟨RB,8,none⟩) HLE.out (.int .i64 0)) (p:=⟨RB,9,none⟩) HLE.out (.int .i64 0)) (p:=⟨RB,10,none⟩) HLE.out (.int .i64 0))
      generalize (((((((((((w11.setCell ⟨RB,0,none⟩ (.string ⟨#[]⟩)).setCell ⟨RB,1,none⟩ (.int .i64 0)).setCell ⟨RB,2,none⟩ (.int .i64 0)).setCell ⟨RB,3,none⟩ (.slice none 0 0)).setCell ⟨RB,4,none⟩ (.slice none 0 0)).setCell ⟨RB,5,none⟩ (.bool false)).setCell ⟨RB,6,none⟩ (.bool false)).setCell ⟨RB,7,none⟩ (.slice none 0 0)).setCell ⟨RB,8,none⟩ (.int .i64 0)).setCell ⟨RB,9,none⟩ (.int .i64 0)).setCell ⟨RB,10,none⟩ (.int .i64 0))=Wf at *
      clear gz gc
      have rr0 : Wf.cell? ⟨RB,0,none⟩=some (.string ⟨#[]⟩):=K9.cell 0
      have rr1 : Wf.cell? ⟨RB,1,none⟩=some (.int .i64 0):=K9.cell 1
      have rr2 : Wf.cell? ⟨RB,2,none⟩=some (.int .i64 0):=K9.cell 2
      have rr3 : Wf.cell? ⟨RB,3,none⟩=some (.slice none 0 0):=K9.cell 3
      have rr4 : Wf.cell? ⟨RB,4,none⟩=some (.slice none 0 0):=K9.cell 4
      have rr5 : Wf.cell? ⟨RB,5,none⟩=some (.bool false):=K9.cell 5
      have rr6 : Wf.cell? ⟨RB,6,none⟩=some (.bool false):=K9.cell 6
      have rr7 : Wf.cell? ⟨RB,7,none⟩=some (.slice none 0 0):=K9.cell 7
      have rr8 : Wf.cell? ⟨RB,8,none⟩=some (.int .i64 0):=K9.cell 8
      have rr9 : Wf.cell? ⟨RB,9,none⟩=some (.int .i64 0):=K9.cell 9
      have rr10 : Wf.cell? ⟨RB,10,none⟩=some (.int .i64 0):=K9.cell 10
      refine bodyPost_ret (v:=.tuple #[zeroRulesV,.int .i64 5]) ?_ rfl ?_
      ·simp [results,Tryz.results6,go_sem,rr0,rr1,rr2,rr3,rr4,rr5,rr6,rr7,rr8,rr9,rr10]
      ·exact ⟨.inr ⟨HNO.out,5,by decide,rfl⟩,X9⟩
     | false =>
      rw [hyb] at h13
      have HR12:=Lib.hid (HR11.out hyb)
      have HS:=Lib.hid (HSAY.out hyb)
      have HYB:=Lib.hid hyb
      have HWR:=Lib.hid (show (1≤Y.r.width∧Y.r.width≤8)∧(1≤Y.r.height∧Y.r.height≤8) from by
       have h:=HGF.out.symm
       simp only [Bool.or_eq_false_iff,decide_eq_false_iff_not] at h
       rw [HS.out.1,HS.out.2.1]
       omega)
      have HRW:=Lib.hid (rd_rows HR12.out (HLW.out _ XG.out) HG.out HWR.out.1 HWR.out.2)
      clear hyb HSAY HR11
      go_wp2_with fail
      refine HRW.out.mono ?_
      rintro e w14 ⟨B14,d14,sv,rfl,hr14,hk14⟩
      have XF14:=Lib.hid (ext_gr2 XG.out hk14 HGW.out)
      have KF14:=Lib.hid (KG.out.grown hk14 (fun e => HGR.out (by injection e)))
      obtain ⟨Y1,hY1⟩ : ∃ y,y=rowsR Y:=⟨_,rfl⟩
      rw [← hY1] at hr14
      have HR14:=Lib.hid hr14
      have HY1:=Lib.hid hY1
      clear hr14 hk14 hY1 h13 HRW
      have HFL15:=Lib.hid (rd_next wFalls HR14.out (HLW.out _ XF14.out))
      go_wp2_with fail
      refine HFL15.out.mono ?_
      rintro e wf15 ⟨vf,Bf15,df15,rfl,hrf,hkf⟩
      have HRf15:=Lib.hid hrf
      have XFf15:=Lib.hid (ext_gr2 XF14.out hkf HGW.out)
      have KFf15:=Lib.hid (KF14.out.grown hkf (fun e => HGR.out (by injection e)))
      have zc:=hrf.blk.cell
      have zf:=hrf.blk.frozen
      clear hrf hkf HFL15
      go_upto_region 16 with fail
      have HRs15:=Lib.hid (show RdAt _ g (fallsR Y1) (wf15.setCell ⟨g,6,none⟩ (.bool (flagR wFalls Y1).1)) Bf15 df15 pv sv (.slice none 0 0) tv from HRf15.out.put (x':=fallsR Y1) 6 (.bool (flagR wFalls Y1).1) rfl rfl rfl rfl rfl)
      have XF16:=Lib.hid (ext_set XFf15.out (p:=⟨g,6,none⟩) HGW.out (.bool (flagR wFalls Y1).1))
      have KF16:=Lib.hid (KFf15.out.far (p:=⟨g,6,none⟩) HGR.out (.bool (flagR wFalls Y1).1))
      generalize wf15.setCell ⟨g,6,none⟩ (.bool (flagR wFalls Y1).1)=w16 at *
      obtain ⟨Y2,hY16⟩ : ∃ y,y=fallsR Y1:=⟨_,rfl⟩
      rw [← hY16] at HRs15
      have HY16:=Lib.hid hY16
      clear hY16 zc zf
      have HFL16:=Lib.hid (rd_next wKeeps HRs15.out (HLW.out _ XF16.out))
      go_wp2_with fail
      refine HFL16.out.mono ?_
      rintro e wf16 ⟨vf,Bf16,df16,rfl,hrf,hkf⟩
      have HRf16:=Lib.hid hrf
      have XFf16:=Lib.hid (ext_gr2 XF16.out hkf HGW.out)
      have KFf16:=Lib.hid (KF16.out.grown hkf (fun e => HGR.out (by injection e)))
      have zc:=hrf.blk.cell
      have zf:=hrf.blk.frozen
      clear hrf hkf HFL16
      go_upto_region 17 with fail
      have HRs16:=Lib.hid (show RdAt _ g (keepsR Y2) (wf16.setCell ⟨g,7,none⟩ (.bool (flagR wKeeps Y2).1)) Bf16 df16 pv sv (.slice none 0 0) tv from HRf16.out.put (x':=keepsR Y2) 7 (.bool (flagR wKeeps Y2).1) rfl rfl rfl rfl rfl)
      have XF17:=Lib.hid (ext_set XFf16.out (p:=⟨g,7,none⟩) HGW.out (.bool (flagR wKeeps Y2).1))
      have KF17:=Lib.hid (KFf16.out.far (p:=⟨g,7,none⟩) HGR.out (.bool (flagR wKeeps Y2).1))
      generalize wf16.setCell ⟨g,7,none⟩ (.bool (flagR wKeeps Y2).1)=w17 at *
      obtain ⟨Y3,hY17⟩ : ∃ y,y=keepsR Y2:=⟨_,rfl⟩
      rw [← hY17] at HRs16
      have HY17:=Lib.hid hY17
      clear hY17 zc zf
      have HE0:=Lib.hid (show Y3.r.ends=[] from by
       have f1:=(rowsR_form Y).1
       rw [← HY1.out] at f1
       have e1 : Y1.r.ends=[]:=by rw [f1]; exact HS.out.2.2.1
       have e2 : ∀ (w : BL) (x : RdM),(flagR w x).2.r=x.r:=flag_r
       rw [HY17.out]
       show (flagR wKeeps Y2).2.r.ends=[]
       rw [e2,HY16.out]
       show (flagR wFalls Y1).2.r.ends=[]
       rw [e2]
       exact e1)
      have HEN:=Lib.hid (rd_ends HRs16.out (HLW.out _ XF17.out) HG.out HE0.out)
      go_wp2_with fail
      refine HEN.out.mono ?_
      rintro e w17e ⟨B17,d17,ev,rfl,hr17,hk17⟩
      have XF18:=Lib.hid (ext_gr2 XF17.out hk17 HGW.out)
      have KF18:=Lib.hid (KF17.out.grown hk17 (fun e => HGR.out (by injection e)))
      obtain ⟨Y5,hY5⟩ : ∃ y,y=endsR (Y3.lines.length + 1) Y3:=⟨_,rfl⟩
      rw [← hY5] at hr17
      have HR17:=Lib.hid hr17
      have HY5:=Lib.hid hY5
      clear hr17 hk17 hY5 HEN
      go_wp2_with fail
      refine (rblocks_any _).mono ?_
      rintro e w18a ⟨rfl,x18⟩
      go_upto_region 19 with fail
      obtain ⟨x9,kt⟩:=blks1 w18a #[.string (strU wLoses),.string (strU wWins),.string (strU wDraws)] 61
      generalize w18a.alloc _=w18 at *
      obtain ⟨TB,hTB⟩ : ∃ TB,TB=w18a.heap.size:=⟨_,rfl⟩
      rw [← hTB] at kt ⊢
      have X18:=Lib.hid (Below.drew (ext_trans x18 x9) : Ext w17e w18.drew)
      have HTG:=Lib.hid (show TB ≠ g by have h1:=Blk.lt (HR17.out.blk.ext x18); omega)
      have HT19:=Lib.hid (show Blk w18.drew TB 61 (strsC blocksL).toArray from kt)
      have HR19:=Lib.hid (HR17.out.ext X18.out)
      have XF19:=Lib.hid (ext_trans XF18.out X18.out)
      have KF19:=Lib.hid (KF18.out.ext X18.out)
      clear x9 kt hTB x18
      have keepK:=hide (fun W (h : LibW W) => (show (fun W => LibW W) W from h))
      have yy:=HLW.out _ XF19.out
      refine region_K (fun W => LibW W) (fun _ => True) [] (by kernel_rfl) ?_
      have hT0:=keepK.out _ yy
      refine tk 0 hT0 (fun _=>trivial) ?_
      refine tk 1 hT0 (fun _=>trivial) ?_
      refine tk 2 hT0 (fun _=>trivial) ?_
      refine tk 6 hT0 (fun _=>trivial) ?_
      refine anyK_on1 3 (by kernel_rfl) ?_
      refine tw 3 (fun K hK=>?_)
      go_simp
      refine (rd_must wBlocked 1 HR19.out (HLW.out _ XF19.out) (by decide)).mono ?_
      rintro e wm ⟨l,A,cA,Bm,dm,rfl,hl1,hl2,hl3,hl4,hl5,hrm,xx⟩
      try go_wp2_with fail
      replace yy:=lib_grown yy xx HG.out
      obtain ⟨v0,hv0⟩:=list1 hl2
      subst hv0
      obtain ⟨qb2,qo2,rfl,hqg2,hq2⟩:=words_at hl3
      have HQ0:=Lib.hid (show wm.cell? ⟨qb2,qo2,none⟩=some (.string (strU v0)) from hq2 0 _ rfl)
      have HL1:=Lib.hid hl1
      have HK1:=Lib.hid hl3.2.1
      have HRm:=Lib.hid hrm
      have XFm:=Lib.hid (ext_gr2 XF19.out xx HGW.out)
      have KFm:=Lib.hid (KF19.out.grown xx (fun e => HGR.out (by injection e)))
      have HTm:=Lib.hid (HT19.out.grown xx (fun e => HTG.out (by injection e)))
      have hk1:=hl3.2.1
      clear hl1 hl2 hl3 hl4 hl5 hrm hqg2 hq2
      have hT1:=keepK.out _ yy
      refine hK.out _ _ hT1 (fun _ => trivial) ?_
      clear hK K
      try simp only [Act.put,List.setIfInBounds_toArray,List.set_cons_zero,List.set_cons_succ]
      refine tk 4 hT1 (fun _=>trivial) ?_
      refine anyK_on1 5 (by kernel_rfl) ?_
      refine tw 5 (fun K hK=>?_)
      have zc:=HQ0.out
      go_simp
      clear zc
      have hT2:=keepK.out _ yy
      refine hK.out _ _ hT2 (fun _ => trivial) ?_
      clear hK K
      try simp only [Act.put,List.setIfInBounds_toArray,List.set_cons_zero,List.set_cons_succ]
      refine anyK_on1 7 (by kernel_rfl) ?_
      refine tw 7 (fun K hK=>?_)
      go_simp
      refine (rd_choice v0 TB 0 3 blocksL HRm.out (blk_cells_t HTm.out) (by decide)).mono ?_
      rintro e wn ⟨rfl,hrn,xx⟩
      try go_wp2_with fail
      replace yy:=lib_grown yy xx HG.out
      have HRn:=Lib.hid hrn
      have XFn:=Lib.hid (ext_gr2 XFm.out xx HGW.out)
      have KFn:=Lib.hid (KFm.out.grown xx (fun e => HGR.out (by injection e)))
      clear hrn
      have hT3:=keepK.out _ yy
      refine hK.out _ _ hT3 (fun _ => trivial) ?_
      clear hK K
      try simp only [Act.put,List.setIfInBounds_toArray,List.set_cons_zero,List.set_cons_succ]
      refine tk 8 hT3 (fun _=>trivial) ?_
      refine tk 9 hT3 (fun _=>trivial) ?_
      refine tk 10 hT3 (fun _=>trivial) ?_
      refine anyK_on1 11 (by kernel_rfl) ?_
      refine tw 11 (fun K hK=>?_)
      have zc:=HRn.out.blk.cell
      have zf:=HRn.out.blk.frozen
      go_simp
      clear zc zf
      have HRo:=Lib.hid (HRn.out.put (x':={ ((mustR wBlocked 1 Y5).2.mark (decide (ixW blocksL v0 < 0))) with r:={ (mustR wBlocked 1 Y5).2.r with blocked:=max (ixW blocksL v0) 0 } }) 9 (.int .i64 (max (ixW blocksL v0) 0)) rfl rfl rfl rfl rfl)
      have XFo:=Lib.hid (ext_set XFn.out (p:=⟨g,9,none⟩) HGW.out (.int .i64 (max (ixW blocksL v0) 0)))
      have KFo:=Lib.hid (KFn.out.far (p:=⟨g,9,none⟩) HGR.out (.int .i64 (max (ixW blocksL v0) 0)))
      replace yy:=HLW.out _ XFo.out
      have hT4:=keepK.out _ yy
      refine hK.out _ _ hT4 (fun _ => trivial) ?_
      clear hK K
      try simp only [Act.put,List.setIfInBounds_toArray,List.set_cons_zero,List.set_cons_succ]
      refine anyK_done (by kernel_rfl) ?_ _
      clear keepK hT0 hT1 hT2 hT3 hT4
      have HRs19:=Lib.hid (show RdAt _ g (blockedR Y5) (wn.setCell ⟨g,9,none⟩ (.int .i64 (max (ixW blocksL v0) 0))) Bm dm pv sv ev tv from by
       have h:=HRo.out
       have e : blockedR Y5={ ((mustR wBlocked 1 Y5).2.mark (decide (ixW blocksL v0 < 0))) with r:={ (mustR wBlocked 1 Y5).2.r with blocked:=max (ixW blocksL v0) 0 } }:=by
        unfold blockedR
        simp only [HL1.out]
        rfl
       rw [e]
       exact h)
      clear HRo HRn HRm
      have XF20:=Lib.hid XFo.out
      have KF20:=Lib.hid KFo.out
      clear XFo KFo yy
      generalize wn.setCell ⟨g,9,none⟩ (.int .i64 (max (ixW blocksL v0) 0))=w20 at *
      obtain ⟨Y6,hY6⟩ : ∃ y,y=blockedR Y5:=⟨_,rfl⟩
      rw [← hY6] at HRs19
      have HY6:=Lib.hid hY6
      clear hY6
      have HMU20:=Lib.hid (rd_must wQuiet 1 HRs19.out (HLW.out _ XF20.out) (by decide))
      go_wp2_with fail
      refine HMU20.out.mono ?_
      rintro e wp20 ⟨l20,A,cA,Bp20,dp20,rfl,hl1,hl2,hl3,hl4,hl5,hrp,hkp⟩
      obtain ⟨v20,hv0⟩:=list1 hl2
      subst hv0
      obtain ⟨qb20,qo20,rfl,hqg2,hq2⟩:=words_at hl3
      have hq0 : wp20.cell? ⟨qb20,qo20,none⟩=some (.string (strU v20)):=hq2 0 _ rfl
      have HL20:=Lib.hid hl1
      have hk1:=hl3.2.1
      have HRp20:=Lib.hid hrp
      have XFp20:=Lib.hid (ext_gr2 XF20.out hkp HGW.out)
      have KFp20:=Lib.hid (KF20.out.grown hkp (fun e => HGR.out (by injection e)))
      have HNU20:=Lib.hid (rd_number v20 hrp (HLW.out _ XFp20.out) (hl5 v20 (by simp)))
      clear hl1 hl2 hl3 hl4 hl5 hrp hkp hqg2 hq2 HMU20
      go_wp2_with fail
      refine HNU20.out.mono ?_
      rintro e wq20 ⟨rfl,hrq,hkq⟩
      have HRq20:=Lib.hid hrq
      have XFq20:=Lib.hid (ext_gr2 XFp20.out hkq HGW.out)
      have KFq20:=Lib.hid (KFp20.out.grown hkq (fun e => HGR.out (by injection e)))
      have zc:=hrq.blk.cell
      have zf:=hrq.blk.frozen
      clear hrq hkq hq0 hk1 HNU20
      go_upto_region 21 with fail
      have HRs20:=Lib.hid (show RdAt _ g (quietR Y6) (wq20.setCell ⟨g,10,none⟩ (.int .i64 (numV v20))) Bp20 dp20 pv sv ev tv from by
       have h:=HRq20.out.put (x':={ ((mustR wQuiet 1 Y6).2.mark (numBad v20)) with r:={ (mustR wQuiet 1 Y6).2.r with quiet:=numV v20 } }) 10 (.int .i64 (numV v20)) rfl rfl rfl rfl rfl
       have e : quietR Y6={ ((mustR wQuiet 1 Y6).2.mark (numBad v20)) with r:={ (mustR wQuiet 1 Y6).2.r with quiet:=numV v20 } }:=by
        unfold quietR
        simp only [HL20.out]
        rfl
       rw [e]
       exact h)
      have XF21:=Lib.hid (ext_set XFq20.out (p:=⟨g,10,none⟩) HGW.out (.int .i64 (numV v20)))
      have KF21:=Lib.hid (KFq20.out.far (p:=⟨g,10,none⟩) HGR.out (.int .i64 (numV v20)))
      generalize wq20.setCell ⟨g,10,none⟩ (.int .i64 (numV v20))=w21 at *
      obtain ⟨Y7,hY21⟩ : ∃ y,y=quietR Y6:=⟨_,rfl⟩
      rw [← hY21] at HRs20
      have HY21:=Lib.hid hY21
      clear hY21 zc zf
      have HMU21:=Lib.hid (rd_must wRepeat 1 HRs20.out (HLW.out _ XF21.out) (by decide))
      go_wp2_with fail
      refine HMU21.out.mono ?_
      rintro e wp21 ⟨l21,A,cA,Bp21,dp21,rfl,hl1,hl2,hl3,hl4,hl5,hrp,hkp⟩
      obtain ⟨v21,hv0⟩:=list1 hl2
      subst hv0
      obtain ⟨qb21,qo21,rfl,hqg2,hq2⟩:=words_at hl3
      have hq0 : wp21.cell? ⟨qb21,qo21,none⟩=some (.string (strU v21)):=hq2 0 _ rfl
      have HL21:=Lib.hid hl1
      have hk1:=hl3.2.1
      have HRp21:=Lib.hid hrp
      have XFp21:=Lib.hid (ext_gr2 XF21.out hkp HGW.out)
      have KFp21:=Lib.hid (KF21.out.grown hkp (fun e => HGR.out (by injection e)))
      have HNU21:=Lib.hid (rd_number v21 hrp (HLW.out _ XFp21.out) (hl5 v21 (by simp)))
      clear hl1 hl2 hl3 hl4 hl5 hrp hkp hqg2 hq2 HMU21
      go_wp2_with fail
      refine HNU21.out.mono ?_
      rintro e wq21 ⟨rfl,hrq,hkq⟩
      have HRq21:=Lib.hid hrq
      have XFq21:=Lib.hid (ext_gr2 XFp21.out hkq HGW.out)
      have KFq21:=Lib.hid (KFp21.out.grown hkq (fun e => HGR.out (by injection e)))
      have zc:=hrq.blk.cell
      have zf:=hrq.blk.frozen
      clear hrq hkq hq0 hk1 HNU21
      go_upto_region 22 with fail
      have HRs21:=Lib.hid (show RdAt _ g (reptR Y7) (wq21.setCell ⟨g,11,none⟩ (.int .i64 (numV v21))) Bp21 dp21 pv sv ev tv from by
       have h:=HRq21.out.put (x':={ ((mustR wRepeat 1 Y7).2.mark (numBad v21)) with r:={ (mustR wRepeat 1 Y7).2.r with rept:=numV v21 } }) 11 (.int .i64 (numV v21)) rfl rfl rfl rfl rfl
       have e : reptR Y7={ ((mustR wRepeat 1 Y7).2.mark (numBad v21)) with r:={ (mustR wRepeat 1 Y7).2.r with rept:=numV v21 } }:=by
        unfold reptR
        simp only [HL21.out]
        rfl
       rw [e]
       exact h)
      have XF22:=Lib.hid (ext_set XFq21.out (p:=⟨g,11,none⟩) HGW.out (.int .i64 (numV v21)))
      have KF22:=Lib.hid (KFq21.out.far (p:=⟨g,11,none⟩) HGR.out (.int .i64 (numV v21)))
      generalize wq21.setCell ⟨g,11,none⟩ (.int .i64 (numV v21))=w22 at *
      obtain ⟨Y8,hY22⟩ : ∃ y,y=reptR Y7:=⟨_,rfl⟩
      rw [← hY22] at HRs21
      have HY22:=Lib.hid hY22
      clear hY22 zc zf
      have HFIN:=Lib.hid (show restR (piecesR (gameR s.dropLast))=Y8 from by
       rw [← HBD.out,← HXE.out,← HYE.out]
       unfold restR
       simp only
       rw [HY22.out,HY21.out,HY6.out,HY5.out,HY17.out,HY16.out,HY1.out])
      have c13 : w22.cell? ⟨g,13,none⟩=some (.bool Y8.bad):=HRs21.out.blk.cell 13
      have c0 : w22.cell? ⟨g,0,none⟩=some (.slice Bp21 Y8.lines.length dp21):=HRs21.out.blk.cell 0
      have HNM:=Lib.hid (show Y8.r.name.size≤9223372036854775807 from by
       have h:=restR_name (piecesR (gameR s.dropLast))
       rw [HFIN.out,← HBD.out,← HXE.out,← HYE.out,HS.out.2.2.2] at h
       rw [h,HXN.out]
       have:=HN0.out
       omega)
      obtain ⟨m,hm⟩ : ∃ m,m=Y8.lines.length:=⟨_,rfl⟩
      have HML:=Lib.hid hm
      rw [← hm] at c0
      clear hm
      cases hyb : Y8.bad with
      | true =>
       rw [hyb] at c13
       have HNO:=Lib.hid (parse_rest (s:=s) (by rw [HFIN.out]; exact .inl hyb))
       clear hyb
       have gz:=KF22.out.frozen
       have gc:=KF22.out.cell
       go_wp2
       have K9:=blk_put (i:=10) (u:=.int .i64 0) (blk_put (i:=9) (u:=.int .i64 0) (blk_put (i:=8) (u:=.int .i64 0) (blk_put (i:=7) (u:=.slice none 0 0) (blk_put (i:=6) (u:=.bool false) (blk_put (i:=5) (u:=.bool false) (blk_put (i:=4) (u:=.slice none 0 0) (blk_put (i:=3) (u:=.slice none 0 0) (blk_put (i:=2) (u:=.int .i64 0) (blk_put (i:=1) (u:=.int .i64 0) (blk_put (i:=0) (u:=.string ⟨#[]⟩) KF22.out rfl) rfl) rfl) rfl) rfl) rfl) rfl) rfl) rfl) rfl) (cs':=#[.string ⟨#[]⟩,.int .i64 0,.int .i64 0,.slice none 0 0,.slice none 0 0,.bool false,.bool false,.slice none 0 0,.int .i64 0,.int .i64 0,.int .i64 0]) rfl
       have X9:=(ext_set (ext_set (ext_set (ext_set (ext_set (ext_set (ext_set (ext_set (ext_set (ext_set (ext_set XF22.out (p:=⟨RB,0,none⟩) HLE.out (.string ⟨#[]⟩)) (p:=⟨RB,1,none⟩) HLE.out (.int .i64 0)) (p:=⟨RB,2,none⟩) HLE.out (.int .i64 0)) (p:=⟨RB,3,none⟩) HLE.out (.slice none 0 0)) (p:=⟨RB,4,none⟩) HLE.out (.slice none 0 0)) (p:=⟨RB,5,none⟩) HLE.out (.bool false)) (p:=⟨RB,6,none⟩) HLE.out (.bool false)) (p:=⟨RB,7,none⟩) HLE.out (.slice none 0 0)) (p:=⟨RB,8,none⟩) HLE.out (.int .i64 0)) (p:=⟨RB,9,none⟩) HLE.out (.int .i64 0)) (p:=⟨RB,10,none⟩) HLE.out (.int .i64 0))
       generalize (((((((((((w22.setCell ⟨RB,0,none⟩ (.string ⟨#[]⟩)).setCell ⟨RB,1,none⟩ (.int .i64 0)).setCell ⟨RB,2,none⟩ (.int .i64 0)).setCell ⟨RB,3,none⟩ (.slice none 0 0)).setCell ⟨RB,4,none⟩ (.slice none 0 0)).setCell ⟨RB,5,none⟩ (.bool false)).setCell ⟨RB,6,none⟩ (.bool false)).setCell ⟨RB,7,none⟩ (.slice none 0 0)).setCell ⟨RB,8,none⟩ (.int .i64 0)).setCell ⟨RB,9,none⟩ (.int .i64 0)).setCell ⟨RB,10,none⟩ (.int .i64 0))=Wf at *
       clear gz gc
       have rr0 : Wf.cell? ⟨RB,0,none⟩=some (.string ⟨#[]⟩):=K9.cell 0
       have rr1 : Wf.cell? ⟨RB,1,none⟩=some (.int .i64 0):=K9.cell 1
       have rr2 : Wf.cell? ⟨RB,2,none⟩=some (.int .i64 0):=K9.cell 2
       have rr3 : Wf.cell? ⟨RB,3,none⟩=some (.slice none 0 0):=K9.cell 3
       have rr4 : Wf.cell? ⟨RB,4,none⟩=some (.slice none 0 0):=K9.cell 4
       have rr5 : Wf.cell? ⟨RB,5,none⟩=some (.bool false):=K9.cell 5
       have rr6 : Wf.cell? ⟨RB,6,none⟩=some (.bool false):=K9.cell 6
       have rr7 : Wf.cell? ⟨RB,7,none⟩=some (.slice none 0 0):=K9.cell 7
       have rr8 : Wf.cell? ⟨RB,8,none⟩=some (.int .i64 0):=K9.cell 8
       have rr9 : Wf.cell? ⟨RB,9,none⟩=some (.int .i64 0):=K9.cell 9
       have rr10 : Wf.cell? ⟨RB,10,none⟩=some (.int .i64 0):=K9.cell 10
       refine bodyPost_ret (v:=.tuple #[zeroRulesV,.int .i64 5]) ?_ rfl ?_
       ·simp [results,Tryz.results6,go_sem,rr0,rr1,rr2,rr3,rr4,rr5,rr6,rr7,rr8,rr9,rr10]
       ·exact ⟨.inr ⟨HNO.out,5,by decide,rfl⟩,X9⟩
      | false =>
       rw [hyb] at c13
       by_cases hm0 : m=0
       ·have HL0:=Lib.hid (show Y8.lines=[] from List.length_eq_zero_iff.1 (by rw [← HML.out]; exact hm0))
        have HYB8:=Lib.hid hyb
        have t0 : decide ((0 : Int) < (m : Int))=false:=decide_eq_false (by omega)
        have t0n : decide (0 < m)=false:=decide_eq_false (by omega)
        have t0m : ¬ 0 < m:=by omega
        obtain ⟨E,hE⟩ : ∃ E,E=rulesE Y8.r:=⟨_,rfl⟩
        have HCK:=Lib.hid (Check_any _ Y8.r w22 (HRs21.out.rules HNM.out))
        rw [← hE] at HCK
        have HE:=Lib.hid hE
        have cc:=HRs21.out.blk.cell
        clear hE hyb hm0
        go_wp2_with fail
        refine HCK.out.mono ?_
        rintro e w24 ⟨rfl,x24⟩
        have HR24:=Lib.hid (HRs21.out.ext x24)
        have XF24:=Lib.hid (ext_trans XF22.out x24)
        have KF24:=Lib.hid (KF22.out.ext x24)
        clear cc c13 c0 x24
        by_cases hE0 : E=0
        ·subst hE0
         have HOK:=Lib.hid (parse_ok (s:=s) HLG.out HLA.out (by rw [← HBD.out,← HXE.out,HGB.out]; exact HGF.out.symm) (by rw [← HBD.out,← HXE.out,← HYE.out]; exact HYB.out) (by rw [HFIN.out]; exact HYB8.out) (by rw [HFIN.out]; exact HL0.out) (by rw [HFIN.out]; exact HE.out.symm))
         rw [HFIN.out] at HOK
         obtain ⟨pA,pc,hpv⟩ : ∃ A c,pv=.slice A Y8.r.pieces.length c:=by
          obtain ⟨A,c,h,-⟩:=HR24.out.pieces
          exact ⟨A,c,h⟩
         obtain ⟨sA,sc,hsv⟩ : ∃ A c,sv=.slice A Y8.r.start.length c:=by
          obtain ⟨A,c,h,-⟩:=HR24.out.sow
          exact ⟨A,c,h⟩
         obtain ⟨eA,ec,hev⟩ : ∃ A c,ev=.slice A Y8.r.ends.length c:=by
          obtain ⟨A,c,h,-⟩:=HR24.out.eow
          exact ⟨A,c,h⟩
         subst hpv hsv hev
         have cc:=HR24.out.blk.cell
         have gz:=KF24.out.frozen
         have gc:=KF24.out.cell
         go_wp2
         have K9:=blk_set11r KF24.out (.string Y8.r.name) (.int .i64 Y8.r.width) (.int .i64 Y8.r.height) (.slice pA Y8.r.pieces.length pc) (.slice sA Y8.r.start.length sc) (.bool Y8.r.falls) (.bool Y8.r.keeps) (.slice eA Y8.r.ends.length ec) (.int .i64 Y8.r.blocked) (.int .i64 Y8.r.quiet) (.int .i64 Y8.r.rept)
         have X9:=ext_set11r XF24.out HLE.out (.string Y8.r.name) (.int .i64 Y8.r.width) (.int .i64 Y8.r.height) (.slice pA Y8.r.pieces.length pc) (.slice sA Y8.r.start.length sc) (.bool Y8.r.falls) (.bool Y8.r.keeps) (.slice eA Y8.r.ends.length ec) (.int .i64 Y8.r.blocked) (.int .i64 Y8.r.quiet) (.int .i64 Y8.r.rept)
         have PF:=HR24.out.rules_fr HNM.out (fr_set11 (W:=w24) (RB:=RB) (.string Y8.r.name) (.int .i64 Y8.r.width) (.int .i64 Y8.r.height) (.slice pA Y8.r.pieces.length pc) (.slice sA Y8.r.start.length sc) (.bool Y8.r.falls) (.bool Y8.r.keeps) (.slice eA Y8.r.ends.length ec) (.int .i64 Y8.r.blocked) (.int .i64 Y8.r.quiet) (.int .i64 Y8.r.rept)) HRBW.out
         clear cc
         generalize (((((((((((w24.setCell ⟨RB,0,none⟩ (.string Y8.r.name)).setCell ⟨RB,1,none⟩ (.int .i64 Y8.r.width)).setCell ⟨RB,2,none⟩ (.int .i64 Y8.r.height)).setCell ⟨RB,3,none⟩ (.slice pA Y8.r.pieces.length pc)).setCell ⟨RB,4,none⟩ (.slice sA Y8.r.start.length sc)).setCell ⟨RB,5,none⟩ (.bool Y8.r.falls)).setCell ⟨RB,6,none⟩ (.bool Y8.r.keeps)).setCell ⟨RB,7,none⟩ (.slice eA Y8.r.ends.length ec)).setCell ⟨RB,8,none⟩ (.int .i64 Y8.r.blocked)).setCell ⟨RB,9,none⟩ (.int .i64 Y8.r.quiet)).setCell ⟨RB,10,none⟩ (.int .i64 Y8.r.rept))=Wf at *
         clear gz gc
         have rr0 : Wf.cell? ⟨RB,0,none⟩=some (.string Y8.r.name):=K9.cell 0
         have rr1 : Wf.cell? ⟨RB,1,none⟩=some (.int .i64 Y8.r.width):=K9.cell 1
         have rr2 : Wf.cell? ⟨RB,2,none⟩=some (.int .i64 Y8.r.height):=K9.cell 2
         have rr3 : Wf.cell? ⟨RB,3,none⟩=some (.slice pA Y8.r.pieces.length pc):=K9.cell 3
         have rr4 : Wf.cell? ⟨RB,4,none⟩=some (.slice sA Y8.r.start.length sc):=K9.cell 4
         have rr5 : Wf.cell? ⟨RB,5,none⟩=some (.bool Y8.r.falls):=K9.cell 5
         have rr6 : Wf.cell? ⟨RB,6,none⟩=some (.bool Y8.r.keeps):=K9.cell 6
         have rr7 : Wf.cell? ⟨RB,7,none⟩=some (.slice eA Y8.r.ends.length ec):=K9.cell 7
         have rr8 : Wf.cell? ⟨RB,8,none⟩=some (.int .i64 Y8.r.blocked):=K9.cell 8
         have rr9 : Wf.cell? ⟨RB,9,none⟩=some (.int .i64 Y8.r.quiet):=K9.cell 9
         have rr10 : Wf.cell? ⟨RB,10,none⟩=some (.int .i64 Y8.r.rept):=K9.cell 10
         refine bodyPost_ret (v:=.tuple #[.agg #[.string Y8.r.name,.int .i64 Y8.r.width,.int .i64 Y8.r.height,.slice pA Y8.r.pieces.length pc,.slice sA Y8.r.start.length sc,.bool Y8.r.falls,.bool Y8.r.keeps,.slice eA Y8.r.ends.length ec,.int .i64 Y8.r.blocked,.int .i64 Y8.r.quiet,.int .i64 Y8.r.rept],.int .i64 0]) ?_ rfl ?_
         ·simp [results,Tryz.results6,go_sem,rr0,rr1,rr2,rr3,rr4,rr5,rr6,rr7,rr8,rr9,rr10]
         ·exact ⟨.inl ⟨Y8.r,_,HOK.out,rfl,PF⟩,X9⟩
        ·have HEN:=Lib.hid hE0
         have HNO:=Lib.hid (parse_check (s:=s) (by rw [HFIN.out,← HE.out]; exact hE0))
         have te : (E != 0)=true:=by simpa using hE0
         clear hE0
         have gz:=KF24.out.frozen
         have gc:=KF24.out.cell
         go_wp2
         have K9:=blk_put (i:=10) (u:=.int .i64 0) (blk_put (i:=9) (u:=.int .i64 0) (blk_put (i:=8) (u:=.int .i64 0) (blk_put (i:=7) (u:=.slice none 0 0) (blk_put (i:=6) (u:=.bool false) (blk_put (i:=5) (u:=.bool false) (blk_put (i:=4) (u:=.slice none 0 0) (blk_put (i:=3) (u:=.slice none 0 0) (blk_put (i:=2) (u:=.int .i64 0) (blk_put (i:=1) (u:=.int .i64 0) (blk_put (i:=0) (u:=.string ⟨#[]⟩) KF24.out rfl) rfl) rfl) rfl) rfl) rfl) rfl) rfl) rfl) rfl) (cs':=#[.string ⟨#[]⟩,.int .i64 0,.int .i64 0,.slice none 0 0,.slice none 0 0,.bool false,.bool false,.slice none 0 0,.int .i64 0,.int .i64 0,.int .i64 0]) rfl
         have X9:=(ext_set (ext_set (ext_set (ext_set (ext_set (ext_set (ext_set (ext_set (ext_set (ext_set (ext_set XF24.out (p:=⟨RB,0,none⟩) HLE.out (.string ⟨#[]⟩)) (p:=⟨RB,1,none⟩) HLE.out (.int .i64 0)) (p:=⟨RB,2,none⟩) HLE.out (.int .i64 0)) (p:=⟨RB,3,none⟩) HLE.out (.slice none 0 0)) (p:=⟨RB,4,none⟩) HLE.out (.slice none 0 0)) (p:=⟨RB,5,none⟩) HLE.out (.bool false)) (p:=⟨RB,6,none⟩) HLE.out (.bool false)) (p:=⟨RB,7,none⟩) HLE.out (.slice none 0 0)) (p:=⟨RB,8,none⟩) HLE.out (.int .i64 0)) (p:=⟨RB,9,none⟩) HLE.out (.int .i64 0)) (p:=⟨RB,10,none⟩) HLE.out (.int .i64 0))
         generalize (((((((((((w24.setCell ⟨RB,0,none⟩ (.string ⟨#[]⟩)).setCell ⟨RB,1,none⟩ (.int .i64 0)).setCell ⟨RB,2,none⟩ (.int .i64 0)).setCell ⟨RB,3,none⟩ (.slice none 0 0)).setCell ⟨RB,4,none⟩ (.slice none 0 0)).setCell ⟨RB,5,none⟩ (.bool false)).setCell ⟨RB,6,none⟩ (.bool false)).setCell ⟨RB,7,none⟩ (.slice none 0 0)).setCell ⟨RB,8,none⟩ (.int .i64 0)).setCell ⟨RB,9,none⟩ (.int .i64 0)).setCell ⟨RB,10,none⟩ (.int .i64 0))=Wf at *
         clear gz gc
         have rr0 : Wf.cell? ⟨RB,0,none⟩=some (.string ⟨#[]⟩):=K9.cell 0
         have rr1 : Wf.cell? ⟨RB,1,none⟩=some (.int .i64 0):=K9.cell 1
         have rr2 : Wf.cell? ⟨RB,2,none⟩=some (.int .i64 0):=K9.cell 2
         have rr3 : Wf.cell? ⟨RB,3,none⟩=some (.slice none 0 0):=K9.cell 3
         have rr4 : Wf.cell? ⟨RB,4,none⟩=some (.slice none 0 0):=K9.cell 4
         have rr5 : Wf.cell? ⟨RB,5,none⟩=some (.bool false):=K9.cell 5
         have rr6 : Wf.cell? ⟨RB,6,none⟩=some (.bool false):=K9.cell 6
         have rr7 : Wf.cell? ⟨RB,7,none⟩=some (.slice none 0 0):=K9.cell 7
         have rr8 : Wf.cell? ⟨RB,8,none⟩=some (.int .i64 0):=K9.cell 8
         have rr9 : Wf.cell? ⟨RB,9,none⟩=some (.int .i64 0):=K9.cell 9
         have rr10 : Wf.cell? ⟨RB,10,none⟩=some (.int .i64 0):=K9.cell 10
         refine bodyPost_ret (v:=.tuple #[zeroRulesV,.int .i64 E]) ?_ rfl ?_
         ·simp [results,Tryz.results6,go_sem,rr0,rr1,rr2,rr3,rr4,rr5,rr6,rr7,rr8,rr9,rr10]
         ·exact ⟨.inr ⟨HNO.out,E,HEN.out,rfl⟩,X9⟩
       ·have t0 : decide ((0 : Int) < (m : Int))=true:=decide_eq_true (by omega)
        have t0n : decide (0 < m)=true:=decide_eq_true (by omega)
        have t0m : 0 < m:=by omega
        have HNO:=Lib.hid (parse_rest (s:=s) (by rw [HFIN.out]; exact .inr (fun h => hm0 (by rw [HML.out,h]; rfl))))
        clear hm0 hyb
        have gz:=KF22.out.frozen
        have gc:=KF22.out.cell
        go_wp2
        have K9:=blk_put (i:=10) (u:=.int .i64 0) (blk_put (i:=9) (u:=.int .i64 0) (blk_put (i:=8) (u:=.int .i64 0) (blk_put (i:=7) (u:=.slice none 0 0) (blk_put (i:=6) (u:=.bool false) (blk_put (i:=5) (u:=.bool false) (blk_put (i:=4) (u:=.slice none 0 0) (blk_put (i:=3) (u:=.slice none 0 0) (blk_put (i:=2) (u:=.int .i64 0) (blk_put (i:=1) (u:=.int .i64 0) (blk_put (i:=0) (u:=.string ⟨#[]⟩) KF22.out rfl) rfl) rfl) rfl) rfl) rfl) rfl) rfl) rfl) rfl) (cs':=#[.string ⟨#[]⟩,.int .i64 0,.int .i64 0,.slice none 0 0,.slice none 0 0,.bool false,.bool false,.slice none 0 0,.int .i64 0,.int .i64 0,.int .i64 0]) rfl
        have X9:=(ext_set (ext_set (ext_set (ext_set (ext_set (ext_set (ext_set (ext_set (ext_set (ext_set (ext_set XF22.out (p:=⟨RB,0,none⟩) HLE.out (.string ⟨#[]⟩)) (p:=⟨RB,1,none⟩) HLE.out (.int .i64 0)) (p:=⟨RB,2,none⟩) HLE.out (.int .i64 0)) (p:=⟨RB,3,none⟩) HLE.out (.slice none 0 0)) (p:=⟨RB,4,none⟩) HLE.out (.slice none 0 0)) (p:=⟨RB,5,none⟩) HLE.out (.bool false)) (p:=⟨RB,6,none⟩) HLE.out (.bool false)) (p:=⟨RB,7,none⟩) HLE.out (.slice none 0 0)) (p:=⟨RB,8,none⟩) HLE.out (.int .i64 0)) (p:=⟨RB,9,none⟩) HLE.out (.int .i64 0)) (p:=⟨RB,10,none⟩) HLE.out (.int .i64 0))
        generalize (((((((((((w22.setCell ⟨RB,0,none⟩ (.string ⟨#[]⟩)).setCell ⟨RB,1,none⟩ (.int .i64 0)).setCell ⟨RB,2,none⟩ (.int .i64 0)).setCell ⟨RB,3,none⟩ (.slice none 0 0)).setCell ⟨RB,4,none⟩ (.slice none 0 0)).setCell ⟨RB,5,none⟩ (.bool false)).setCell ⟨RB,6,none⟩ (.bool false)).setCell ⟨RB,7,none⟩ (.slice none 0 0)).setCell ⟨RB,8,none⟩ (.int .i64 0)).setCell ⟨RB,9,none⟩ (.int .i64 0)).setCell ⟨RB,10,none⟩ (.int .i64 0))=Wf at *
        clear gz gc
        have rr0 : Wf.cell? ⟨RB,0,none⟩=some (.string ⟨#[]⟩):=K9.cell 0
        have rr1 : Wf.cell? ⟨RB,1,none⟩=some (.int .i64 0):=K9.cell 1
        have rr2 : Wf.cell? ⟨RB,2,none⟩=some (.int .i64 0):=K9.cell 2
        have rr3 : Wf.cell? ⟨RB,3,none⟩=some (.slice none 0 0):=K9.cell 3
        have rr4 : Wf.cell? ⟨RB,4,none⟩=some (.slice none 0 0):=K9.cell 4
        have rr5 : Wf.cell? ⟨RB,5,none⟩=some (.bool false):=K9.cell 5
        have rr6 : Wf.cell? ⟨RB,6,none⟩=some (.bool false):=K9.cell 6
        have rr7 : Wf.cell? ⟨RB,7,none⟩=some (.slice none 0 0):=K9.cell 7
        have rr8 : Wf.cell? ⟨RB,8,none⟩=some (.int .i64 0):=K9.cell 8
        have rr9 : Wf.cell? ⟨RB,9,none⟩=some (.int .i64 0):=K9.cell 9
        have rr10 : Wf.cell? ⟨RB,10,none⟩=some (.int .i64 0):=K9.cell 10
        refine bodyPost_ret (v:=.tuple #[zeroRulesV,.int .i64 5]) ?_ rfl ?_
        ·simp [results,Tryz.results6,go_sem,rr0,rr1,rr2,rr3,rr4,rr5,rr6,rr7,rr8,rr9,rr10]
        ·exact ⟨.inr ⟨HNO.out,5,by decide,rfl⟩,X9⟩
  ·rw [if_neg hl,decide_eq_false hl]
   have HNO:=Lib.hid (parse_last hl)
   clear hl
   have gz:=KRB.out.frozen
   have gc:=KRB.out.cell
   go_wp2
   have K9:=blk_put (i:=10) (u:=.int .i64 0) (blk_put (i:=9) (u:=.int .i64 0) (blk_put (i:=8) (u:=.int .i64 0) (blk_put (i:=7) (u:=.slice none 0 0) (blk_put (i:=6) (u:=.bool false) (blk_put (i:=5) (u:=.bool false) (blk_put (i:=4) (u:=.slice none 0 0) (blk_put (i:=3) (u:=.slice none 0 0) (blk_put (i:=2) (u:=.int .i64 0) (blk_put (i:=1) (u:=.int .i64 0) (blk_put (i:=0) (u:=.string ⟨#[]⟩) KRB.out rfl) rfl) rfl) rfl) rfl) rfl) rfl) rfl) rfl) rfl) (cs':=#[.string ⟨#[]⟩,.int .i64 0,.int .i64 0,.slice none 0 0,.slice none 0 0,.bool false,.bool false,.slice none 0 0,.int .i64 0,.int .i64 0,.int .i64 0]) rfl
   have X9:=(ext_set (ext_set (ext_set (ext_set (ext_set (ext_set (ext_set (ext_set (ext_set (ext_set (ext_set XWE.out (p:=⟨RB,0,none⟩) HLE.out (.string ⟨#[]⟩)) (p:=⟨RB,1,none⟩) HLE.out (.int .i64 0)) (p:=⟨RB,2,none⟩) HLE.out (.int .i64 0)) (p:=⟨RB,3,none⟩) HLE.out (.slice none 0 0)) (p:=⟨RB,4,none⟩) HLE.out (.slice none 0 0)) (p:=⟨RB,5,none⟩) HLE.out (.bool false)) (p:=⟨RB,6,none⟩) HLE.out (.bool false)) (p:=⟨RB,7,none⟩) HLE.out (.slice none 0 0)) (p:=⟨RB,8,none⟩) HLE.out (.int .i64 0)) (p:=⟨RB,9,none⟩) HLE.out (.int .i64 0)) (p:=⟨RB,10,none⟩) HLE.out (.int .i64 0))
   generalize (((((((((((w2.setCell ⟨RB,0,none⟩ (.string ⟨#[]⟩)).setCell ⟨RB,1,none⟩ (.int .i64 0)).setCell ⟨RB,2,none⟩ (.int .i64 0)).setCell ⟨RB,3,none⟩ (.slice none 0 0)).setCell ⟨RB,4,none⟩ (.slice none 0 0)).setCell ⟨RB,5,none⟩ (.bool false)).setCell ⟨RB,6,none⟩ (.bool false)).setCell ⟨RB,7,none⟩ (.slice none 0 0)).setCell ⟨RB,8,none⟩ (.int .i64 0)).setCell ⟨RB,9,none⟩ (.int .i64 0)).setCell ⟨RB,10,none⟩ (.int .i64 0))=Wf at *
   clear gz gc
   have rr0 : Wf.cell? ⟨RB,0,none⟩=some (.string ⟨#[]⟩):=K9.cell 0
   have rr1 : Wf.cell? ⟨RB,1,none⟩=some (.int .i64 0):=K9.cell 1
   have rr2 : Wf.cell? ⟨RB,2,none⟩=some (.int .i64 0):=K9.cell 2
   have rr3 : Wf.cell? ⟨RB,3,none⟩=some (.slice none 0 0):=K9.cell 3
   have rr4 : Wf.cell? ⟨RB,4,none⟩=some (.slice none 0 0):=K9.cell 4
   have rr5 : Wf.cell? ⟨RB,5,none⟩=some (.bool false):=K9.cell 5
   have rr6 : Wf.cell? ⟨RB,6,none⟩=some (.bool false):=K9.cell 6
   have rr7 : Wf.cell? ⟨RB,7,none⟩=some (.slice none 0 0):=K9.cell 7
   have rr8 : Wf.cell? ⟨RB,8,none⟩=some (.int .i64 0):=K9.cell 8
   have rr9 : Wf.cell? ⟨RB,9,none⟩=some (.int .i64 0):=K9.cell 9
   have rr10 : Wf.cell? ⟨RB,10,none⟩=some (.int .i64 0):=K9.cell 10
   refine bodyPost_ret (v:=.tuple #[zeroRulesV,.int .i64 5]) ?_ rfl ?_
   ·simp [results,Tryz.results6,go_sem,rr0,rr1,rr2,rr3,rr4,rr5,rr6,rr7,rr8,rr9,rr10]
   ·exact ⟨.inr ⟨HNO.out,5,by decide,rfl⟩,X9⟩
end Go.Proofs.YtdoibgmmijhlfaaGreatDoor
