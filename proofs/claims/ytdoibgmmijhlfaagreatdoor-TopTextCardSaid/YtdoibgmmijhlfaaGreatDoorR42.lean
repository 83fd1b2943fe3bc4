/- RtW7 -/
import Derived.Test.YtdoibgmmijhlfaaGreatDoorR37
import Derived.Test.YtdoibgmmijhlfaaGreatDoorR38
import Derived.Test.YtdoibgmmijhlfaaGreatDoorR01
import Derived.Deep.DeepCutAuto
import Derived.Deep.CutBlock
namespace Go.Proofs.YtdoibgmmijhlfaaGreatDoor
open Go.RowKit
set_option linter.unusedVariables false
set_option linter.unusedSimpArgs false
theorem prefix_any (l : BL) (W : World) : Calls Tryz.prog 65 #[.string (strU l),.string ⟨#[101,110,100,32]⟩] W fun e w' => e=.returned (.bool (endPre.isPrefixOf l))∧w'=W:=by
 have h:=Tryz.strings_HasPrefix (strU l) ⟨#[101,110,100,32]⟩ W
 rw [strU_data] at h
 exact h
theorem split_two {l : BL} (h : endPre.isPrefixOf l=true) : 2≤(splitL 32 l).length:=by
 obtain ⟨r,rfl⟩:=List.isPrefixOf_iff_prefix.1 h
 show 2≤(splitL 32 (101 :: 110 :: 100 :: 32 :: r)).length
 have h0:=split_pos 32 r
 have h1 : 1≤(splitL 32 r).length:=by
  cases h2 : splitL 32 r with
  | nil => exact absurd h2 h0
  | cons a b => simp
 have e1 : splitL 32 (101 :: 110 :: 100 :: 32 :: r)=[101,110,100] :: splitL 32 r:=by
  have:=split_cat (c:=32) (x:=[101,110,100]) r (by decide)
  simpa using this
 rw [e1,List.length_cons]
 omega
section
variable {w : World} {g : Nat} {cs cs' : Array Value} {A0 : Option Addr} {L L' : List BL} {B B' : Option Addr} {d d' : Nat} {e : TypeId} {sz : Nat} {sv : Value} {n : Nat} {xs : List Value} {W W' : World}
theorem RMem.setC (h : RMem w g cs A0 L B d e sz sv n xs W) {CB i : Nat} (hne : sv.ownBlock ≠ some CB) (hCB : w.heap.size≤CB) (hg : g < w.heap.size) (u : Value) : RMem w g cs A0 L B d e sz sv n xs (W.setCell ⟨CB,i,none⟩ u):=by
 have hf : Fr [CB] W (W.setCell ⟨CB,i,none⟩ u):=(Fr.refl _ _).set _ (.inl (by simp)) u
 exact ⟨h.blk.fr hf (by simp; omega),lines_far (w:=w) h.lin h.low hf (fun x hx => .inr (by rw [List.mem_singleton.1 hx]; exact hCB)),h.low,h.same,h.own.fr hf (fun x hx e => by rw [List.mem_singleton.1 hx] at e; exact hne e),h.fr.set _ (.inr hCB) u,h.l8⟩
theorem RMem.setC4 (h : RMem w g cs A0 L B d e sz sv n xs W) {CB : Nat} (hne : sv.ownBlock ≠ some CB) (hCB : w.heap.size≤CB) (hg : g < w.heap.size) (u0 u1 u2 u3 : Value) : RMem w g cs A0 L B d e sz sv n xs ((((W.setCell ⟨CB,0,none⟩ u0).setCell ⟨CB,1,none⟩ u1).setCell ⟨CB,2,none⟩ u2).setCell ⟨CB,3,none⟩ u3) :=
 (((h.setC hne hCB hg u0).setC hne hCB hg u1).setC hne hCB hg u2).setC hne hCB hg u3
end
theorem blk_set4 {W : World} {CB : Nat} {t : TypeId} {v0 v1 v2 v3 : Value} (h : Blk W CB t #[v0,v1,v2,v3]) (u0 u1 u2 u3 : Value) : Blk ((((W.setCell ⟨CB,0,none⟩ u0).setCell ⟨CB,1,none⟩ u1).setCell ⟨CB,2,none⟩ u2).setCell ⟨CB,3,none⟩ u3) CB t #[u0,u1,u2,u3] :=
 blk_put (i:=3) (blk_put (i:=2) (blk_put (i:=1) (blk_put (i:=0) h (cs':=#[u0,v1,v2,v3]) rfl) (cs':=#[u0,u1,v2,v3]) rfl) (cs':=#[u0,u1,u2,v3]) rfl) rfl
set_option maxHeartbeats 8000000 in
set_option maxRecDepth 100000 in
theorem rends_any (g : Nat) (c1 c2 c3 c5 c6 c7 c9 c10 c11 c12 : Value) (x : RdM) (pA : Option Addr) (pc : Nat) (A0 : Option Addr) (c : Nat) (w : World) (hw : LibW w) (hg4 : 4≤g) (hg : Blk w g RT #[.slice A0 x.lines.length c,c1,c2,c3,.slice pA x.r.pieces.length pc,c5,c6,c7,.slice none 0 0,c9,c10,c11,c12,.bool x.bad]) (hL : LinesAt w g A0 c x.lines) (hA0 : ∀ a,A0=some a→a.block < w.heap.size) (hs : ∀ s ∈ x.lines,s.length≤8192) (hn : x.lines.length≤8193) (hp : ∀ W,Fr [g] w W→PiecesAt W pA x.r.pieces) (hps : x.r.pieces.length≤8193) (he : x.r.ends=[]) :
  Calls Tryz.prog 32 #[.pointer (some ⟨g,0,none⟩)] w fun e w' => ∃ B d ev,e=.returned (.tuple #[])∧LinesAt w' g B d (endsR (x.lines.length + 1) x).lines∧(∀ b,B=some b→b.block < w.heap.size)∧Blk w' g RT #[.slice B (endsR (x.lines.length + 1) x).lines.length d,c1,c2,c3,.slice pA x.r.pieces.length pc,c5,c6,c7,ev,c9,c10,c11,c12,.bool (endsR (x.lines.length + 1) x).bad]∧OwnR 66 4 w w' ev (endsR (x.lines.length + 1) x).r.ends.length ((endsR (x.lines.length + 1) x).r.ends.flatMap EndM.vals)∧(∀ s ∈ (endsR (x.lines.length + 1) x).lines,s.length≤8192)∧Fr [g] w w':=by
 obtain ⟨L0,r0,t0,b0⟩:=x
 simp only at hg hL hs hn hp hps he
 obtain ⟨ps,hpq⟩ : ∃ ps,ps=r0.pieces:=⟨_,rfl⟩
 obtain ⟨RES,hRES⟩ : ∃ R,R=endsR (L0.length + 1) (stE r0 t0 L0 [] b0):=⟨_,rfl⟩
 have hrr : endsR (L0.length + 1) ⟨L0,r0,t0,b0⟩=RES:=by
  rw [hRES]
  cases r0
  simp only at he
  subst he
  rfl
 rw [hrr]
 rw [← hpq] at hg hp hps ⊢
 have HM0:=Lib.hid (⟨hg,hL,hA0,fun a b h1 h2 => by rw [h1] at h2; cases h2; rfl,OwnR.nil _ _ _ _,Fr.refl _ _,hs⟩ : RMem w g #[.slice A0 L0.length c,c1,c2,c3,.slice pA ps.length pc,c5,c6,c7,.slice none 0 0,c9,c10,c11,c12,.bool b0] A0 L0 A0 c 66 4 (.slice none 0 0) 0 [] w)
 have HRES:=Lib.hid hRES
 have HW:=Lib.hid hw
 have HP:=Lib.hid hp
 have HPS:=Lib.hid hps
 have HG4:=Lib.hid hg4
 have HGN:=Lib.hid (Blk.lt hg)
 have HPQ:=Lib.hid hpq
 have HN0:=Lib.hid hn
 clear hg hL hA0 hs hn hp hps hw hg4 hRES hpq hrr he
 go_enter Tryz.func32,Tryz.ntmps32
 go_wp2_with fail
 go_loopw [] (fun wr => ∃ L es b B d ev f,RMem w g #[.slice B L.length d,c1,c2,c3,.slice pA ps.length pc,c5,c6,c7,ev,c9,c10,c11,c12,.bool b] A0 L B d 66 4 ev es.length (es.flatMap EndM.vals) wr∧L.length < f∧endsR f (stE r0 t0 L es b)=RES∧es.length + L.length≤8193) (fun wr => lenAt wr g)
 case atStart => exact ⟨L0,[],b0,A0,c,_,L0.length + 1,HM0.out,Nat.lt_succ_self _,HRES.out.symm,by simpa using HN0.out⟩
 case round =>
  obtain ⟨L,es,b,B,d,ev,f,hm,hf,heq,hcn⟩:=hrel
  have HM:=Lib.hid hm
  have HEQ:=Lib.hid heq
  have HCN:=Lib.hid hcn
  have HF:=Lib.hid hf
  have hc:=hm.blk.cell
  have HEND:=Lib.hid (fun (h : stE r0 t0 L es b=RES) => (show ∃ B d ev,LinesAt wr g B d RES.lines∧(∀ b,B=some b→b.block < w.heap.size)∧Blk wr g RT #[.slice B RES.lines.length d,c1,c2,c3,.slice pA ps.length pc,c5,c6,c7,ev,c9,c10,c11,c12,.bool RES.bad]∧OwnR 66 4 w wr ev RES.r.ends.length (RES.r.ends.flatMap EndM.vals)∧(∀ s ∈ RES.lines,s.length≤8192)∧Fr [g] w wr from by
   rw [← h]
   exact ⟨B,d,ev,hm.lin,hm.low,hm.blk,hm.own,hm.l8,hm.fr⟩))
  clear hm heq hcn hf HM0
  cases L with
  | nil =>
   have HX:=Lib.hid (HEND.out (by rw [← HEQ.out,endsR_nil]))
   clear HEND
   go_wp2_with fail
   (try simp only [Exit.inBlock,Exit.then]); refine bodyPost_end (results_none rfl _ _ _) rfl ?_
   obtain ⟨B',d',ev',h1,h2,h3,h4,h5,h6⟩:=HX.out
   exact ⟨B',d',ev',rfl,h1,h2,h3,h4,h5,h6⟩
  | cons l ls =>
   obtain ⟨bb,bo,rfl⟩ : ∃ b o,B=some ⟨b,o,none⟩:=by
    obtain ⟨b,o,e,-⟩:=HM.out.lin.1 0 _ rfl
    exact ⟨b,o,e⟩
   have hc0 : wr.cell? ⟨bb,bo,none⟩=some (.string (strU l)):=by
    obtain ⟨b',o',e,hcc⟩:=HM.out.lin.1 0 _ rfl
    injection e with e
    injection e with e1 e2
    subst e1 e2
    exact hcc
   have HC0:=Lib.hid hc0
   have hdl : ls.length + 1≤d:=HM.out.lin.2.1
   obtain ⟨m,hm⟩ : ∃ m,m=(l :: ls).length:=⟨_,rfl⟩
   have hm1 : m=ls.length + 1:=hm
   rw [← hm] at hc
   have HME:=Lib.hid hm
   have HM1:=Lib.hid hm1
   have t2 : decide ((0 : Int) < (m : Int))=true:=decide_eq_true (by omega)
   have i1 : (0 : Int) < (m : Int):=by omega
   have i2 : 0 < m:=by omega
   have i3 : m≤d:=by omega
   have i4 : (1 : Int)≤(m : Int):=by omega
   have i5 : 1≤m:=by omega
   have i6 : 1≤d:=by omega
   have i7 : (1 : Int)≤(d : Int):=by omega
   have HPX:=Lib.hid (prefix_any l)
   obtain ⟨pb,hpb⟩ : ∃ pb,pb=endPre.isPrefixOf l:=⟨_,rfl⟩
   rw [← hpb] at HPX
   have HPB:=Lib.hid hpb
   clear hm hm1 hdl hpb
   cases pb with
   | false =>
    have HX:=Lib.hid (HEND.out (by rw [← HEQ.out,endsR_no f (fun h => by rw [← HPB.out] at h; cases h.1)]))
    clear HEND
    go_wp2_with fail
    refine (HPX.out _).mono ?_
    rintro e w2 ⟨rfl,rfl⟩
    go_wp2_with fail
    (try simp only [Exit.inBlock,Exit.then]); refine bodyPost_end (results_none rfl _ _ _) rfl ?_
    obtain ⟨B',d',ev',h1,h2,h3,h4,h5,h6⟩:=HX.out
    exact ⟨B',d',ev',rfl,h1,h2,h3,h4,h5,h6⟩
   | true =>
    cases b with
    | true =>
     have HX:=Lib.hid (HEND.out (by rw [← HEQ.out,endsR_no f (fun h => by cases h.2)]))
     clear HEND
     go_wp2_with fail
     refine (HPX.out _).mono ?_
     rintro e w2 ⟨rfl,rfl⟩
     go_wp2_with fail
     (try simp only [Exit.inBlock,Exit.then]); refine bodyPost_end (results_none rfl _ _ _) rfl ?_
     obtain ⟨B',d',ev',h1,h2,h3,h4,h5,h6⟩:=HX.out
     exact ⟨B',d',ev',rfl,h1,h2,h3,h4,h5,h6⟩
    | false =>
     obtain ⟨f,rfl⟩ : ∃ k,f=k + 1:=⟨f - 1,by have:=HF.out; omega⟩
     have HEQ2:=Lib.hid (show endsR f (stE r0 t0 ls (es ++ [endV ps (splitL 32 l)]) (endBad ps (splitL 32 l)))=RES by rw [← HEQ.out,endsR_yes f HPB.out.symm,HPQ.out])
     have HSP:=Lib.hid (split_blk 32 l (HM.out.l8 l List.mem_cons_self) wr (HW.out.fr HM.out.fr (by have:=HG4.out; simpa using this)))
     have HP2:=Lib.hid (split_two HPB.out.symm)
     clear HEND HEQ
     go_wp2_with fail
     refine (HPX.out _).mono ?_
     rintro e w2 ⟨rfl,rfl⟩
     go_wp2_with fail
     refine HSP.out.mono ?_
     rintro e w3 ⟨g2,rfl,hG2,hg2,x3⟩
     have HM3:=Lib.hid (HM.out.ext x3)
     have HG2:=Lib.hid hG2
     have HGE:=Lib.hid (Nat.le_trans HM.out.fr.size hg2)
     obtain ⟨P,hP⟩ : ∃ P,P=splitL 32 l:=⟨_,rfl⟩
     rw [← hP] at HG2 HEQ2 HP2 ⊢
     have HPE:=Lib.hid hP
     clear hG2 hP x3 HSP hc0 hc
     go_upto_region 2 with fail
     go_cut [] (fun wx => ∃ B' d',RMem w g #[.slice B' ls.length d',c1,c2,c3,.slice pA ps.length pc,c5,c6,c7,ev,c9,c10,c11,c12,.bool false] A0 ls B' d' 66 4 ev es.length (es.flatMap EndM.vals) wx∧Blk wx g2 9 (strsC P).toArray)
     case first =>
      have hc:=HM3.out.blk.cell
      have hf:=HM3.out.blk.frozen
      rw [← HME.out] at hc
      have HTL:=Lib.hid (lines_tail (n:=0) HM3.out.lin)
      have HGG:=Lib.hid (show g2 ≠ g from fun e => by have h1:=HGE.out; have h2:=HGN.out; omega)
      by_cases hd : d=1
      ·subst hd
       obtain rfl : m=1:=by omega
       have HLL:=Lib.hid (show ls.length=0 by have:=HM1.out; omega)
       have HTL2:=Lib.hid (show LinesAt w3 g (some ⟨bb,bo,none⟩) (1 - 1) ls by have h:=HTL.out; rw [if_pos (by omega)] at h; exact h)
       clear HTL
       go_wp2_with fail
       go_meet
       refine ⟨some ⟨bb,bo,none⟩,1 - 1,HM3.out.step (grown_set (grown_of_ext (Below.refl _ _) (some g)) 0 _) HGN.out (blk_put (i:=0) HM3.out.blk (by rw [HLL.out]; rfl)) (lines_set HTL2.out _) (fun a ha => by cases ha; exact ⟨_,rfl,rfl⟩) (fun s hs => List.mem_cons_of_mem _ hs),(HG2.out.far (p:=⟨g,0,none⟩) HGG.out _)⟩
      ·have HLL:=Lib.hid (show ls.length=m - 1 by have:=HM1.out; omega)
       have HTL2:=Lib.hid (show LinesAt w3 g (some ⟨bb,bo + 1,none⟩) (d - 1) ls by have h:=HTL.out; rw [if_neg (by omega)] at h; exact h)
       clear HTL
       go_wp2_with fail
       go_meet
       refine ⟨some ⟨bb,bo + 1,none⟩,d - 1,HM3.out.step (grown_set (grown_of_ext (Below.refl _ _) (some g)) 0 _) HGN.out (blk_put (i:=0) HM3.out.blk (by rw [HLL.out]; rfl)) (lines_set HTL2.out _) (fun a ha => by cases ha; exact ⟨_,rfl,rfl⟩) (fun s hs => List.mem_cons_of_mem _ hs),(HG2.out.far (p:=⟨g,0,none⟩) HGG.out _)⟩
     case rest =>
      obtain ⟨B4,d4,hm4,hG4⟩:=hcut
      have HM4:=Lib.hid hm4
      have HG24:=Lib.hid hG4
      clear hm4 hG4 HM3 HG2 t2 i1 i2 i3 i4 i5 i6 i7
      obtain ⟨q,hq⟩ : ∃ q,q=P.length:=⟨_,rfl⟩
      have HQ:=Lib.hid hq
      rw [← hq]
      have hq2 : 2≤q:=by rw [hq]; exact HP2.out
      obtain ⟨r,hr⟩ : ∃ r,r=q - 1:=⟨_,rfl⟩
      have hq8 : q≤8193:=by
       have h1:=splitL_cnt 32 l
       have h2:=HM.out.l8 l List.mem_cons_self
       rw [← HPE.out] at h1
       omega
      have HP8:=Lib.hid (show ∀ x ∈ P,x.length≤8192 from fun x hx => Nat.le_trans (splitL_sub 32 l x (by rw [← HPE.out]; exact hx)) (HM.out.l8 l List.mem_cons_self))
      have hm1 : IntKind.i64.wrap ((q : Int) - 1)=(r : Int):=by rw [IntKind.wrap_i64]; omega
      have hrq : r < q:=by omega
      have hrI : (r : Int) < (q : Int):=by omega
      obtain ⟨hwd,hhw⟩ : ∃ x,x=P.getLastD []:=⟨_,rfl⟩
      have HHW:=Lib.hid hhw
      have HWC:=Lib.hid (fun (W : World) (h : Blk W g2 9 (strsC P).toArray) (k : Nat) (x : BL) (hk : P[k]? = some x) => (show W.cell? ⟨g2,k,none⟩=some (.string (strU x)) from by
       rw [h.cell,List.getElem?_toArray]
       exact strsC_get hk))
      have HPL:=Lib.hid (show P[r]? = some hwd from by
       rw [hhw,hr,hq,← List.getLast?_eq_getElem?]
       cases P with
       | nil => simp at hq; omega
       | cons a b => rfl)
      clear hq hr hhw
      go_upto_region 4 with fail
      obtain ⟨xa,kp⟩:=blks1 wc #[.int .i64 0,.int .i64 0,.int .i64 0,.bool false] 66
      generalize wc.alloc _=w5 at *
      obtain ⟨CB,hCB⟩ : ∃ CB,CB=wc.heap.size:=⟨_,rfl⟩
      rw [← hCB] at kp ⊢
      have HM5:=Lib.hid (HM4.out.ext xa)
      have HG25:=Lib.hid (HG24.out.ext xa)
      have HKC:=Lib.hid kp
      have HCN2:=Lib.hid (show w.heap.size≤CB by rw [hCB]; exact HM4.out.fr.size)
      have HEV:=Lib.hid (show ev.ownBlock ≠ some CB from fun e => by have:=(HM4.out.own.lt CB e).2; omega)
      have HGC:=Lib.hid (show g ≠ CB from fun e => by have h1:=HGN.out; have h2:=HCN2.out; omega)
      have HGC2:=Lib.hid (show g2 ≠ CB from fun e => by have:=Blk.lt HG24.out; omega)
      have HGG:=Lib.hid (show g2 ≠ g from fun e => by have h1:=HGE.out; have h2:=HGN.out; omega)
      have hcl:=HWC.out w5 HG25.out r hwd HPL.out
      clear kp xa hCB HM4 HG24
      go_upto_block 2 with fail
      go_cut [] (fun wx => ∃ k p cn bb,EndCase ps P k p cn bb∧RMem w g #[.slice B4 ls.length d4,c1,c2,c3,.slice pA ps.length pc,c5,c6,c7,ev,c9,c10,c11,c12,.bool bb] A0 ls B4 d4 66 4 ev es.length (es.flatMap EndM.vals) wx∧Blk wx CB 66 #[.int .i64 k,.int .i64 p,.int .i64 cn,.bool false])
      case first =>
       obtain ⟨w1,hw1⟩ : ∃ x,P[1]? = some x:=⟨_,List.getElem?_eq_getElem (by have:=HQ.out; omega)⟩
       have HD1:=Lib.hid (show P.getD 1 []=w1 by rw [List.getD_eq_getElem?_getD,hw1]; rfl)
       have hc1:=HWC.out w5 HG25.out 1 w1 hw1
       clear hw1 hcl hm1 hrq hrI
       have HNU:=Lib.hid (fun (x : BL) (hx : x ∈ P) => rnumber_any g (.slice B4 ls.length d4) c1 c2 c3 (.slice pA ps.length pc) c5 c6 c7 ev c9 c10 c11 c12 false x w5 (HW.out.fr HM5.out.fr (by have:=HG4.out; simpa using this)) HM5.out.blk (HP8.out x hx))
       have HPI:=Lib.hid (fun (x : BL) => rpiece_any g (.slice B4 ls.length d4) c1 c2 c3 c5 c6 c7 ev c9 c10 c11 c12 false pA pc ps x w5 HM5.out.blk (HP.out w5 HM5.out.fr) (Nat.le_trans HPS.out (by decide)))
       have HDF:=Lib.hid (fun (h1 : ¬ (P.length=4∧P.getD 1 []=wLine)) (h2 : ¬ (P.length=4∧P.getD 1 []=wReach)) (h3 : ¬ (P.length=5∧P.getD 1 []=wTake)) => end_none (ps:=ps) h1 h2 h3)
       have HMB:=Lib.hid (HM5.out.mark (W':=w5.setCell ⟨g,13,none⟩ (.bool true)) (cs':=#[.slice B4 ls.length d4,c1,c2,c3,.slice pA ps.length pc,c5,c6,c7,ev,c9,c10,c11,c12,.bool true]) (grown_set (grown_of_ext (Below.refl _ _) (some g)) 13 (.bool true)) HGN.out (blk_put (i:=13) (u:=.bool true) HM5.out.blk rfl))
       have HKB:=Lib.hid (HKC.out.far (p:=⟨g,13,none⟩) (fun e => HGC.out e.symm) (.bool true))
       by_cases h4 : q=4
       ·have f4 : ((q : Int) == 4)=true:=by rw [h4]; rfl
        have f5 : ((q : Int) == 5)=false:=by rw [h4]; rfl
        obtain ⟨w2,hw2⟩ : ∃ x,P[2]? = some x:=⟨_,List.getElem?_eq_getElem (by have:=HQ.out; omega)⟩
        have HD2:=Lib.hid (show P.getD 2 []=w2 by rw [List.getD_eq_getElem?_getD,hw2]; rfl)
        have HIN2:=Lib.hid (List.mem_of_getElem? hw2)
        have hc2:=HWC.out w5 HG25.out 2 w2 hw2
        have HL4:=Lib.hid (show P.length=4 by rw [← HQ.out]; exact h4)
        have hq4 : 4≤q:=by omega
        clear hw2 h4
        by_cases hl : w1=wLine
        ·have e1 : ((strU w1).toList == [108,105,110,101])=true:=by rw [str_is,decide_eq_true hl]
         have HEC:=Lib.hid (end_line (ps:=ps) HL4.out (HD1.out.trans hl))
         rw [HD2.out] at HEC
         have HN2:=Lib.hid (HNU.out w2 HIN2.out)
         clear hl
         go_wp2_with fail
         refine HN2.out.mono ?_
         rintro e w6 ⟨rfl,hb6,g6⟩
         have HM6:=Lib.hid (HM5.out.mark g6 HGN.out hb6)
         have HK6:=Lib.hid (HKC.out.grown g6 (fun e => HGC.out (by injection e with e; exact e.symm)))
         have kc:=HK6.out.cell
         have kf:=HK6.out.frozen
         clear hb6 g6 hc1 hc2
         go_wp2_with fail
         go_meet
         exact ⟨0,0,numV w2,numBad w2,HEC.out,HM6.out.setC4 HEV.out HCN2.out HGN.out _ _ _ _,blk_set4 HK6.out _ _ _ _⟩
        ·have e1 : ((strU w1).toList == [108,105,110,101])=false:=by rw [str_is,decide_eq_false hl]
         by_cases hr2 : w1=wReach
         ·have e2 : ((strU w1).toList == [114,101,97,99,104])=true:=by rw [str_is,decide_eq_true hr2]
          have HEC:=Lib.hid (end_reach (ps:=ps) HL4.out (HD1.out.trans hr2))
          rw [HD2.out] at HEC
          have HN2:=Lib.hid (HPI.out w2)
          clear hl hr2
          go_wp2_with fail
          refine HN2.out.mono ?_
          rintro e w6 ⟨rfl,hb6,g6⟩
          have HM6:=Lib.hid (HM5.out.mark g6 HGN.out hb6)
          have HK6:=Lib.hid (HKC.out.grown g6 (fun e => HGC.out (by injection e with e; exact e.symm)))
          have kc:=HK6.out.cell
          have kf:=HK6.out.frozen
          clear hb6 g6 hc1 hc2
          go_wp2_with fail
          go_meet
          exact ⟨1,max (pieceIx ps w2) 0,0,decide (pieceIx ps w2 < 0),HEC.out,HM6.out.setC4 HEV.out HCN2.out HGN.out _ _ _ _,blk_set4 HK6.out _ _ _ _⟩
         ·have e2 : ((strU w1).toList == [114,101,97,99,104])=false:=by rw [str_is,decide_eq_false hr2]
          have HEC:=Lib.hid (HDF.out (fun h => hl (HD1.out.symm.trans h.2)) (fun h => hr2 (HD1.out.symm.trans h.2)) (fun h => by have:=HL4.out; omega))
          have hc:=HM5.out.blk.cell
          have hf:=HM5.out.blk.frozen
          clear hl hr2
          go_wp2_with fail
          go_meet
          exact ⟨0,0,0,true,HEC.out,HMB.out,HKB.out⟩
       ·have f4 : ((q : Int) == 4)=false:=by rw [beq_eq_false_iff_ne]; omega
        by_cases h5 : q=5
        ·have f5 : ((q : Int) == 5)=true:=by rw [h5]; rfl
         obtain ⟨w2,hw2⟩ : ∃ x,P[2]? = some x:=⟨_,List.getElem?_eq_getElem (by have:=HQ.out; omega)⟩
         obtain ⟨w3',hw3⟩ : ∃ x,P[3]? = some x:=⟨_,List.getElem?_eq_getElem (by have:=HQ.out; omega)⟩
         have HD2:=Lib.hid (show P.getD 2 []=w2 by rw [List.getD_eq_getElem?_getD,hw2]; rfl)
         have HD3:=Lib.hid (show P.getD 3 []=w3' by rw [List.getD_eq_getElem?_getD,hw3]; rfl)
         have HC2:=Lib.hid (fun W h => HWC.out W h 2 w2 hw2)
         have HC3:=Lib.hid (fun W h => HWC.out W h 3 w3' hw3)
         have HIN3:=Lib.hid (List.mem_of_getElem? hw3)
         have HL5:=Lib.hid (show P.length=5 by rw [← HQ.out]; exact h5)
         have hq5 : 5≤q:=by omega
         clear hw2 hw3 h4 h5
         by_cases hl : w1=wTake
         ·have e1 : ((strU w1).toList == [116,97,107,101])=true:=by rw [str_is,decide_eq_true hl]
          have HEC:=Lib.hid (end_take (ps:=ps) HL5.out (HD1.out.trans hl))
          rw [HD2.out,HD3.out] at HEC
          clear hl
          have b2 : (2 : Int) < (q : Int):=by omega
          have b3 : (3 : Int) < (q : Int):=by omega
          have HMD:=Lib.hid (HM5.out.ext (Below.drew (Below.refl _ _)))
          have HKD:=Lib.hid (HKC.out.ext (Below.drew (Below.refl _ _)))
          go_upto_region 11 with fail
          have keepK:=hide (fun W (h : Blk W g2 9 (strsC P).toArray) => (show (fun W => W.cell? ⟨g2,2,none⟩=some (Value.string (strU w2))∧W.cell? ⟨g2,3,none⟩=some (Value.string (strU w3'))∧Blk W g2 9 (strsC P).toArray) W from ⟨HC2.out W h,HC3.out W h,h⟩))
          have yy:=HG25.out.ext (Below.drew (Below.refl _ _))
          refine region_K (fun W => W.cell? ⟨g2,2,none⟩=some (Value.string (strU w2))∧W.cell? ⟨g2,3,none⟩=some (Value.string (strU w3'))∧Blk W g2 9 (strsC P).toArray) (fun _ => True) [] (by kernel_rfl) ?_
          have hT0:=keepK.out _ yy
          refine tk 0 hT0 (fun _=>trivial) ?_
          refine tk 1 hT0 (fun _=>trivial) ?_
          refine tk 2 hT0 (fun _=>trivial) ?_
          refine tl 3 hT0 (fun _=>trivial) (v:=?_) (fun W hW=>?_) ?_
          rotate_left
          ·obtain ⟨z0,z1,z2⟩:=hW;go_simp;first|done|with_reducible rfl
          refine tk 5 hT0 (fun _=>trivial) ?_
          refine tk 6 hT0 (fun _=>trivial) ?_
          refine tk 7 hT0 (fun _=>trivial) ?_
          refine tl 8 hT0 (fun _=>trivial) (v:=?_) (fun W hW=>?_) ?_
          rotate_left
          ·obtain ⟨z0,z1,z2⟩:=hW;go_simp;first|done|with_reducible rfl
          refine anyK_on1 4 (by kernel_rfl) ?_
          refine tw 4 (fun K hK=>?_)
          go_simp
          refine (rpiece_any g (.slice B4 ls.length d4) c1 c2 c3 c5 c6 c7 ev c9 c10 c11 c12 false pA pc ps w2 w5.drew HMD.out.blk (HP.out w5.drew HMD.out.fr) (Nat.le_trans HPS.out (by decide))).mono ?_
          rintro e w6 ⟨rfl,hb,xx⟩
          try go_wp2_with fail
          replace yy:=yy.grown xx (fun e => HGG.out (by injection e))
          have HM6:=Lib.hid (HMD.out.mark xx HGN.out hb)
          have HK6:=Lib.hid (HKD.out.grown xx (fun e => HGC.out (by injection e with e; exact e.symm)))
          clear hb
          have hT1:=keepK.out _ yy
          refine hK.out _ _ hT1 (fun _ => trivial) ?_
          clear hK K
          try simp only [Act.put,List.setIfInBounds_toArray,List.set_cons_zero,List.set_cons_succ]
          refine anyK_on1 9 (by kernel_rfl) ?_
          refine tw 9 (fun K hK=>?_)
          go_simp
          refine (rnumber_any g (.slice B4 ls.length d4) c1 c2 c3 (.slice pA ps.length pc) c5 c6 c7 ev c9 c10 c11 c12 (decide (pieceIx ps w2 < 0)) w3' w6 (HW.out.fr HM6.out.fr (by have:=HG4.out; simpa using this)) HM6.out.blk (HP8.out w3' HIN3.out)).mono ?_
          rintro e w9 ⟨rfl,hb,xx⟩
          try go_wp2_with fail
          replace yy:=yy.grown xx (fun e => HGG.out (by injection e))
          have HM9:=Lib.hid (HM6.out.mark xx HGN.out hb)
          have HK9:=Lib.hid (HK6.out.grown xx (fun e => HGC.out (by injection e with e; exact e.symm)))
          clear hb
          have hT2:=keepK.out _ yy
          refine hK.out _ _ hT2 (fun _ => trivial) ?_
          clear hK K
          try simp only [Act.put,List.setIfInBounds_toArray,List.set_cons_zero,List.set_cons_succ]
          refine tk 10 hT2 (fun _=>trivial) ?_
          refine anyK_on1 11 (by kernel_rfl) ?_
          refine tw 11 (fun K hK=>?_)
          have zc:=HK9.out.cell
          have zf:=HK9.out.frozen
          go_simp
          clear zc zf
          have HMS:=Lib.hid (HM9.out.setC4 HEV.out HCN2.out HGN.out (.int .i64 2) (.int .i64 (max (pieceIx ps w2) 0)) (.int .i64 (numV w3')) (.bool false))
          have HKS:=Lib.hid (blk_set4 HK9.out (.int .i64 2) (.int .i64 (max (pieceIx ps w2) 0)) (.int .i64 (numV w3')) (.bool false))
          replace yy:=(((yy.far (p:=⟨CB,0,none⟩) HGC2.out (.int .i64 2)).far (p:=⟨CB,1,none⟩) HGC2.out (.int .i64 (max (pieceIx ps w2) 0))).far (p:=⟨CB,2,none⟩) HGC2.out (.int .i64 (numV w3'))).far (p:=⟨CB,3,none⟩) HGC2.out (.bool false)
          have hT3:=keepK.out _ yy
          refine hK.out _ _ hT3 (fun _ => trivial) ?_
          clear hK K
          try simp only [Act.put,List.setIfInBounds_toArray,List.set_cons_zero,List.set_cons_succ]
          refine anyK_done (by kernel_rfl) ?_ _
          clear keepK hT0 hT1 hT2 hT3
          go_wp2_with fail
          go_meet
          exact ⟨2,max (pieceIx ps w2) 0,numV w3',decide (pieceIx ps w2 < 0) || numBad w3',HEC.out,HMS.out,HKS.out⟩
         ·have e1 : ((strU w1).toList == [116,97,107,101])=false:=by rw [str_is,decide_eq_false hl]
          have HEC:=Lib.hid (HDF.out (fun h => by have:=HL5.out; omega) (fun h => by have:=HL5.out; omega) (fun h => hl (HD1.out.symm.trans h.2)))
          have hc:=HM5.out.blk.cell
          have hf:=HM5.out.blk.frozen
          clear hl
          go_wp2_with fail
          go_meet
          exact ⟨0,0,0,true,HEC.out,HMB.out,HKB.out⟩
        ·have f5 : ((q : Int) == 5)=false:=by rw [beq_eq_false_iff_ne]; omega
         have HEC:=Lib.hid (HDF.out (fun h => h4 (HQ.out.trans h.1)) (fun h => h4 (HQ.out.trans h.1)) (fun h => h5 (HQ.out.trans h.1)))
         have hc:=HM5.out.blk.cell
         have hf:=HM5.out.blk.frozen
         clear h4 h5
         go_wp2_with fail
         go_meet
         exact ⟨0,0,0,true,HEC.out,HMB.out,HKB.out⟩
      case rest =>
       obtain ⟨vk,vp,vc,bb,hec,hm6,hk6⟩:=hcut
       have HEC:=Lib.hid hec
       have HM6:=Lib.hid hm6
       have HK6:=Lib.hid hk6
       clear hec hm6 hk6 hcl hm1 hrq hrI HM5 HKC
       obtain ⟨xb,kh⟩:=blks1 wc #[.string ⟨#[119,105,110,115]⟩,.string ⟨#[108,111,115,101,115]⟩] 9
       obtain ⟨eA,ec,hev⟩ : ∃ A c,ev=.slice A es.length c:=by
        obtain ⟨A,c,h,-⟩:=HM6.out.own
        exact ⟨A,c,h⟩
       subst hev
       have HXB:=Lib.hid xb
       have HKH:=Lib.hid kh
       have HCC:=Lib.hid (fun W (y : Ext wc W) (k : Blk W wc.heap.size 9 #[.string ⟨#[119,105,110,115]⟩,.string ⟨#[108,111,115,101,115]⟩]) => rchoice_any g (.slice B4 ls.length d4) c1 c2 c3 (.slice pA ps.length pc) c5 c6 c7 (.slice eA es.length ec) c9 c10 c11 c12 bb hwd wc.heap.size 0 2 howL W (HM6.out.blk.ext y) (blk_cells_t k) (by decide))
       have HCH:=Lib.hid (HCC.out _ HXB.out HKH.out)
       clear HCC xb kh
       go_wp2_with fail
       refine HCH.out.mono ?_
       rintro e w8 ⟨rfl,hb8,g8⟩
       have HM8:=Lib.hid ((HM6.out.ext HXB.out).mark g8 HGN.out hb8)
       have HK8:=Lib.hid ((HK6.out.ext HXB.out).grown g8 (fun e => HGC.out (by injection e with e; exact e.symm)))
       have kc:=HK8.out.cell
       have kf:=HK8.out.frozen
       clear hb8 g8 HCH HXB HKH
       go_upto_region 13 with fail
       have HM9:=Lib.hid (HM8.out.setC (i:=3) HEV.out HCN2.out HGN.out (.bool (max (ixW howL hwd) 0 == 1)))
       have HK9:=Lib.hid (blk_put (i:=3) (u:=.bool (max (ixW howL hwd) 0 == 1)) HK8.out (cs':=#[.int .i64 vk,.int .i64 vp,.int .i64 vc,.bool (max (ixW howL hwd) 0 == 1)]) rfl)
       generalize w8.setCell ⟨CB,3,none⟩ (.bool (max (ixW howL hwd) 0 == 1))=w9 at *
       have HMD:=Lib.hid (HM9.out.ext (Below.drew (Below.refl _ _)))
       clear kc kf HM8 HK8
       have keepK:=hide (fun W (h : Blk W CB 66 #[.int .i64 vk,.int .i64 vp,.int .i64 vc,.bool (max (ixW howL hwd) 0 == 1)]) => (show (fun W => W.cell? ⟨CB,0,none⟩=some (Value.int .i64 vk)∧W.cell? ⟨CB,1,none⟩=some (Value.int .i64 vp)∧W.cell? ⟨CB,2,none⟩=some (Value.int .i64 vc)∧W.cell? ⟨CB,3,none⟩=some (Value.bool (max (ixW howL hwd) 0 == 1))∧Blk W CB 66 #[.int .i64 vk,.int .i64 vp,.int .i64 vc,.bool (max (ixW howL hwd) 0 == 1)]) W from ⟨h.cell 0,h.cell 1,h.cell 2,h.cell 3,h⟩))
       have yy:=HK9.out.ext (Below.drew (Below.refl _ _))
       refine region_K (fun W => W.cell? ⟨CB,0,none⟩=some (Value.int .i64 vk)∧W.cell? ⟨CB,1,none⟩=some (Value.int .i64 vp)∧W.cell? ⟨CB,2,none⟩=some (Value.int .i64 vc)∧W.cell? ⟨CB,3,none⟩=some (Value.bool (max (ixW howL hwd) 0 == 1))∧Blk W CB 66 #[.int .i64 vk,.int .i64 vp,.int .i64 vc,.bool (max (ixW howL hwd) 0 == 1)]) (fun W => W.cell? ⟨g,8,none⟩=some (.slice eA es.length ec)) [12] (by kernel_rfl) ?_
       have hS0:=(show World.cell? (w9.drew) ⟨g,8,none⟩=some (.slice eA es.length ec) from by first | exact HMD.out.blk.cell 8 | exact (HMD.out.blk.alloc _).cell 8 | exact HB9.out.cell 8)
       have hT0:=keepK.out _ yy
       refine tk 0 hT0 (fun _ => hS0) ?_
       refine tk 1 hT0 (fun _ => hS0) ?_
       refine tk 2 hT0 (fun _ => hS0) ?_
       refine tk 3 hT0 (fun _ => hS0) ?_
       refine tk 4 hT0 (fun _ => hS0) ?_
       refine anyK_load 5 (oi:=?oo18) ?ho18 (by kernel_rfl) (by kernel_rfl) (by kernel_rfl) (by kernel_rfl) (by kernel_rfl) (by kernel_rfl) ?hq18 ?hw18 hT0 hS0 (v:=?vv18) ?hy18 ?hk18
       case ho18 => (simp only [List.getElem?_toArray,List.getElem?_cons_succ,List.getElem?_cons_zero]; rfl)
       case hq18 => exact fun _ _ _ h => h
       case hw18 => rfl
       case hy18 =>
        intro W hW1 hW
        go_simp
        first | done | with_reducible rfl
       case hk18 =>
       try simp only [Act.put,List.setIfInBounds_toArray,List.set_cons_zero,List.set_cons_succ]
       refine tl 6 hT0 (fun _ => hS0) (v:=?_) (fun W hW=>?_) ?_
       rotate_left
       ·obtain ⟨z0,z1,z2,z3,z4⟩:=hW;go_simp;first|done|with_reducible rfl
       refine anyK_on1 7 (by kernel_rfl) ?_
       refine tw 7 (fun K hK=>?_)
       go_simp
       have YE:=yy
       replace yy:=yy.alloc (.cells #[.int .i64 vk,.int .i64 vp,.int .i64 vc,.bool (max (ixW howL hwd) 0 == 1)] 66)
       have hT1:=keepK.out _ yy
       have hS1:=(show World.cell? ((w9.drew.alloc (.cells #[.int .i64 vk,.int .i64 vp,.int .i64 vc,.bool (max (ixW howL hwd) 0 == 1)] 66))) ⟨g,8,none⟩=some (.slice eA es.length ec) from by first | exact HMD.out.blk.cell 8 | exact (HMD.out.blk.alloc _).cell 8 | exact HB9.out.cell 8)
       refine hK.out _ _ hT1 (fun _ => hS1) ?_
       clear hK K
       try simp only [Act.put,List.setIfInBounds_toArray,List.set_cons_zero,List.set_cons_succ]
       refine anyK_on1 8 (by kernel_rfl) ?_
       refine tw 8 (fun K hK=>?_)
       refine oper_append_f (.tmp 115) (.tmp 117) 24 rfl 32 (.agg #[.int .i64 0,.int .i64 0,.int .i64 0,.bool false]) Tryz.underlying24 infoEndR rfl (by decide) (by decide) w w9.drew (.slice eA es.length ec) es.length (es.flatMap EndM.vals) [.int .i64 vk,.int .i64 vp,.int .i64 vc,.bool (max (ixW howL hwd) 0 == 1)] rfl HMD.out.own rfl rfl (by simp [Value.oneCell']) HMD.out.fr.size (by have h2:=HCN.out; omega) ?_
       intro v9 wA own9 g9
       have HO9:=Lib.hid own9
       have HG9:=Lib.hid g9
       have HB9:=Lib.hid (HMD.out.blk.grown g9 (fun e => by have h1:=(HMD.out.own.lt g e.symm).1; have h2:=HGN.out; omega))
       replace yy:=YE.grown g9 (fun e => HEV.out e.symm)
       obtain ⟨vA3,vc3,rfl,-⟩:=own9.cells
       clear own9 g9 YE
       have hT2:=keepK.out _ yy
       have hS2:=(show World.cell? (wA) ⟨g,8,none⟩=some (.slice eA es.length ec) from by first | exact HMD.out.blk.cell 8 | exact (HMD.out.blk.alloc _).cell 8 | exact HB9.out.cell 8)
       refine hK.out _ _ hT2 (fun _ => hS2) ?_
       clear hK K
       try simp only [Act.put,List.setIfInBounds_toArray,List.set_cons_zero,List.set_cons_succ]
       refine tk 9 hT2 (fun _ => hS2) ?_
       refine tk 10 hT2 (fun _ => hS2) ?_
       refine tk 11 hT2 (fun _ => hS2) ?_
       refine anyK_on1 12 (by kernel_rfl) ?_
       refine tw 12 (fun K hK=>?_)
       have zc:=HB9.out.cell
       have zf:=HB9.out.frozen
       go_simp
       clear zc zf
       have HM10:=Lib.hid (HMD.out.grow (i:=8) (cs':=#[.slice B4 ls.length d4,c1,c2,c3,.slice pA ps.length pc,c5,c6,c7,.slice vA3 (es.length + 1) vc3,c9,c10,c11,c12,.bool (bb || decide (ixW howL hwd < 0))]) HO9.out HG9.out HGN.out rfl)
       replace yy:=yy.far (p:=⟨g,8,none⟩) (fun e => HGC.out e.symm) (.slice vA3 (es.length + 1) vc3)
       have hT3:=keepK.out _ yy
       refine hK.out _ _ hT3 (fun h => by cases h) ?_
       clear hK K
       try simp only [Act.put,List.setIfInBounds_toArray,List.set_cons_zero,List.set_cons_succ]
       refine anyK_done (by kernel_rfl) ?_ _
       clear keepK hT0 hT1 hT2 hT3
       try clear keepS hS0 hS1 hS2
       have HVAL:=Lib.hid (show (es ++ [endV ps P]).flatMap EndM.vals=es.flatMap EndM.vals ++ [.int .i64 vk,.int .i64 vp,.int .i64 vc,.bool (max (ixW howL hwd) 0 == 1)] from by
        rw [List.flatMap_append,List.flatMap_cons,List.flatMap_nil,List.append_nil,HEC.out.val,HHW.out]
        rfl)
       have HBAD:=Lib.hid (show endBad ps P=(bb || decide (ixW howL hwd < 0)) from by rw [HEC.out.bad,HHW.out])
       have HMF:=Lib.hid (show RMem w g #[.slice B4 ls.length d4,c1,c2,c3,.slice pA ps.length pc,c5,c6,c7,.slice vA3 (es.length + 1) vc3,c9,c10,c11,c12,.bool (endBad ps P)] A0 ls B4 d4 66 4 (.slice vA3 (es.length + 1) vc3) (es ++ [endV ps P]).length ((es ++ [endV ps P]).flatMap EndM.vals) (wA.setCell ⟨g,8,none⟩ (.slice vA3 (es.length + 1) vc3)) from by
        rw [HVAL.out,HBAD.out,List.length_append]
        exact HM10.out)
       generalize wA.setCell ⟨g,8,none⟩ (.slice vA3 (es.length + 1) vc3)=wB at *
       clear yy HM10
       go_wp2_with fail
       refine ⟨⟨ls,es ++ [endV ps P],endBad ps P,B4,d4,_,f,HMF.out,by have h1:=HF.out; have h2:=HM1.out; have h3:=HME.out; omega,HEQ2.out,by have h1:=HCN.out; have h2:=HM1.out; have h3:=HME.out; rw [List.length_append,List.length_singleton]; omega⟩,?_⟩
       rw [lenAt_blk HMF.out.blk,lenAt_blk HM.out.blk]
       exact Nat.lt_succ_self _
end Go.Proofs.YtdoibgmmijhlfaaGreatDoor
