/- RtW5 -/
import Derived.Test.YtdoibgmmijhlfaaGreatDoorR37
import Derived.Test.YtdoibgmmijhlfaaGreatDoorR01
import Derived.Test.YtdoibgmmijhlfaaGreatDoorR04
import Derived.Deep.AppendLies
namespace Go.Proofs.YtdoibgmmijhlfaaGreatDoor
open Go.RowKit
set_option linter.unusedVariables false
set_option linter.unusedSimpArgs false
def WInv (w w6 : World) (g PB : Nat) (c1 c2 c3 c5 c6 c7 c8 c9 c10 c11 : Value) (A0 : Option Addr) (n6 : Nat) (pv tv lv hv : Value) (r0 : RulesM) (ps : List PieceM) (ts : List BL) (WR : RdM × List WayM) (W : World) (s ok : Value) : Prop :=
 (ok=.bool false∧∃ ls ws b B d wv,WMem w w6 g PB c1 c2 c3 c5 c6 c7 c8 c9 c10 c11 A0 n6 pv tv lv hv ls ws b B d wv W∧(stP r0 ls ps ts b,ws)=WR) ∨
 ∃ A k l0 l1 l2 l3 ls ws b B d wv f3,ok=.bool true∧s=.slice A 4 k∧LinesAt W g A k [l0,l1,l2,l3]∧(∀ a,A=some a→wv.ownBlock ≠ some a.block∧a.block ≠ PB)∧WMem w w6 g PB c1 c2 c3 c5 c6 c7 c8 c9 c10 c11 A0 n6 pv tv lv hv ls ws b B d wv W∧(∀ x ∈ [l0,l1,l2,l3],x.length≤8192)∧ls.length < f3∧ws.length + ls.length + 1≤n6∧waysR f3 (stP r0 ls ps ts (b || wayBad [l0,l1,l2,l3])) (ws ++ [wayV [l0,l1,l2,l3]])=WR
theorem winv_next {w w6 : World} {g PB : Nat} {c1 c2 c3 c5 c6 c7 c8 c9 c10 c11 : Value} {A0 : Option Addr} {n6 : Nat} {pv tv lv hv : Value} {r0 : RulesM} {ps : List PieceM} {ts : List BL} {WR : RdM × List WayM} {W w' : World} {e : Ending} {L : List BL} {ws : List WayM} {b : Bool} {B : Option Addr} {d f : Nat} {wv : Value}
  (hm : WMem w w6 g PB c1 c2 c3 c5 c6 c7 c8 c9 c10 c11 A0 n6 pv tv lv hv L ws b B d wv W) (hW : waysR f (stP r0 L ps ts b) ws=WR) (hf : L.length < f) (hPB : w.heap.size≤PB) (hg : g < w.heap.size) (h6 : PB < w6.heap.size) (h7 : w.heap.size≤w6.heap.size)
  (hp : NextPost wWay 4 g c1 c2 c3 pv c5 c6 c7 c8 c9 c10 c11 tv (.bool b) B L W e w') : ∃ s ok,e=.returned (.tuple #[s,ok])∧WInv w w6 g PB c1 c2 c3 c5 c6 c7 c8 c9 c10 c11 A0 n6 pv tv lv hv r0 ps ts WR w' s ok∧lenAt w' g + okNat ok≤L.length:=by
 obtain ⟨f,rfl⟩ : ∃ k,f=k + 1:=⟨f - 1,by omega⟩
 have hne : ∀ x ∈ [g],wv.ownBlock ≠ some x:=fun x hx e => by
  obtain rfl:=List.mem_singleton.1 hx
  have:=(hm.wow.lt x e).1; omega
 rcases hp with ⟨h1,rfl,x⟩ | ⟨l,ls,A,k,B',d',h1,h2,rfl,h3,h4,h5,h6,h7',h8⟩
 ·rw [waysR_none h1] at hW
  exact ⟨_,_,rfl,.inl ⟨rfl,L,ws,b,B,d,wv,⟨hm.blk.ext x,hm.lin.ext x,hm.low,hm.same,hm.pb.ext x,hm.wow.ext x,hm.fr.ext x,hm.l8,hm.cnt⟩,hW⟩,by rw [lenAt_blk (hm.blk.ext x)]; exact Nat.le_refl _⟩
 ·rw [waysR_some h1] at hW
  obtain ⟨k1,k2,k3,k4⟩:=nextL_some h1
  obtain ⟨l0,l1,l2,l3,rfl⟩:=list4 k1
  have hf1 : Fr [g] W w':=Fr.of_grown h6 (fun x e => by cases e; simp)
  have hlow : ∀ a,B'=some a→∃ a0,B=some a0∧a.block=a0.block:=fun a ha => by
   have hn : B ≠ none:=fun e => by have:=hm.lin.2.2.1 e; omega
   cases hB : B with
   | none => exact absurd hB hn
   | some a0 => exact ⟨a0,rfl,h8 a0 a hB ha⟩
  refine ⟨_,_,rfl,.inr ⟨A,k,l0,l1,l2,l3,ls,ws,b,B',d',wv,f,rfl,rfl,h3,fun a ha => ⟨fun e => ?_,fun e => ?_⟩,⟨h5,h4,fun a ha => ?_,fun a b ha hb => ?_,hm.pb.grown h6 (fun e => ?_),hm.wow.fr hf1 hne,hm.fr.grown h6 (by simp),fun s hs => hm.l8 s (k3 s hs),by have:=hm.cnt; omega⟩,k4 8192 hm.l8,by omega,by have:=hm.cnt; omega,hW⟩,by rw [lenAt_blk h5,k2]; exact Nat.le_refl _⟩
  ·have:=(hm.wow.lt a.block e).2
   have:=h7' a ha
   omega
  ·have:=h7' a ha
   have:=hm.fr.size
   omega
  ·obtain ⟨a0,h1,h2⟩:=hlow a ha
   rw [h2]
   exact hm.low a0 h1
  ·obtain ⟨a0,h1,h2⟩:=hlow b hb
   rw [h2]
   exact hm.same a a0 ha h1
  ·injection e with e
   omega
set_option maxHeartbeats 8000000 in
set_option maxRecDepth 100000 in
theorem rpieces_any (g : Nat) (c1 c2 c3 c5 c6 c7 c8 c9 c10 c11 : Value) (x : RdM) (A0 : Option Addr) (c : Nat) (w : World) (hw : LibW w) (hg4 : 4≤g) (hg : Blk w g RT #[.slice A0 x.lines.length c,c1,c2,c3,.slice none 0 0,c5,c6,c7,c8,c9,c10,c11,.slice none 0 0,.bool x.bad]) (hL : LinesAt w g A0 c x.lines) (hA0 : ∀ a,A0=some a→a.block < w.heap.size) (hs : ∀ s ∈ x.lines,s.length≤8192) (hn : x.lines.length≤8193) (hp : x.r.pieces=[]) (ht : x.tos=[]) :
  Calls Tryz.prog 29 #[.pointer (some ⟨g,0,none⟩)] w fun e w' => ∃ B d pv tv,e=.returned (.tuple #[])∧LinesAt w' g B d (piecesR x).lines∧(∀ b,B=some b→b.block < w.heap.size)∧Blk w' g RT #[.slice B (piecesR x).lines.length d,c1,c2,c3,pv,c5,c6,c7,c8,c9,c10,c11,tv,.bool (piecesR x).bad]∧PRow w' w.heap.size pv (piecesR x).r.pieces∧(∀ s ∈ (piecesR x).lines,s.length≤8192)∧Fr [g] w w':=by
 obtain ⟨L0,r0,t0,b0⟩:=x
 simp only at hg hL hs hn hp ht
 subst ht
 obtain ⟨RES,hRES⟩ : ∃ R,R=piecesL (L0.length + 1) (stP r0 L0 [] [] b0):=⟨_,rfl⟩
 obtain ⟨FIN,hFIN⟩ : ∃ F,F=piecesR ⟨L0,r0,[],b0⟩:=⟨_,rfl⟩
 have HFIN:=Lib.hid (show FIN=if RES.2 then promR 0 RES.1.tos RES.1 else RES.1 from by
  rw [hFIN,hRES,piecesR,show (⟨L0,r0,[],b0⟩ : RdM)=stP r0 L0 [] [] b0 from by cases r0; simp only at hp; subst hp; rfl])
 rw [← hFIN]
 have HM0:=Lib.hid (⟨hg,hL,hA0,fun a b h1 h2 => by rw [h1] at h2; cases h2; rfl,PRow.nil _ _,OwnR.nil _ _ _ _,Fr.refl _ _,hs,by simpa using hn⟩ : PMem w g c1 c2 c3 c5 c6 c7 c8 c9 c10 c11 A0 L0 [] [] b0 A0 c (.slice none 0 0) (.slice none 0 0) w)
 have HRES:=Lib.hid hRES
 have HW:=Lib.hid hw
 have HG4:=Lib.hid hg4
 have HGN:=Lib.hid (Blk.lt hg)
 clear hg hL hA0 hs hn hp hw hRES hFIN hg4
 go_enter Tryz.func29,Tryz.ntmps29
 go_wp2_with fail
 go_loopw [] (fun wr => ∃ L ps ts b B d pv tv f,PMem w g c1 c2 c3 c5 c6 c7 c8 c9 c10 c11 A0 L ps ts b B d pv tv wr∧L.length < f∧piecesL f (stP r0 L ps ts b)=RES∧ts.length=ps.length) (fun wr => lenAt wr g)
 case atStart => exact ⟨L0,[],[],b0,A0,c,_,_,L0.length + 1,HM0.out,Nat.lt_succ_self _,HRES.out.symm,rfl⟩
 case round =>
  obtain ⟨L,ps,ts,b,B,d,pv,tv,f,hm,hf,heq,htl⟩:=hrel
  have HTL:=Lib.hid htl
  have HM:=Lib.hid hm
  obtain ⟨f,rfl⟩ : ∃ k,f=k + 1:=⟨f - 1,by omega⟩
  have HF:=Lib.hid hf
  have HEQ:=Lib.hid heq
  have HNX:=Lib.hid (next_any wPiece 3 g c1 c2 c3 pv c5 c6 c7 c8 c9 c10 c11 tv (.bool b) B d L wr (HW.out.fr hm.fr (by have:=HG4.out; simpa using this)) hm.blk hm.lin hm.l8 (by decide))
  clear hm hf heq htl HM0
  go_wp2_with fail
  refine HNX.out.mono ?_
  rintro e w1 hres
  rcases hres with ⟨h1,rfl,x1⟩ | ⟨l,ls,A1,k1,B1,d1,h1,h2,rfl,h3,h4,h5,h6,h7,h8⟩
  ·have HFE:=Lib.hid (show FIN=promR 0 ts (stP r0 L ps ts b) by
    rw [HFIN.out,← HEQ.out,piecesL_none h1]
    rfl)
   obtain ⟨tA,tc,rfl⟩ : ∃ A c,tv=.slice A ts.length c:=by
    obtain ⟨A,c,h,-⟩:=HM.out.tow
    exact ⟨A,c,h⟩
   obtain ⟨pA,pc,rfl⟩ : ∃ A c,pv=.slice A ps.length c:=by
    obtain ⟨A,c,h,-⟩:=HM.out.prow.shape
    exact ⟨A,c,h⟩
   obtain ⟨m,hm⟩ : ∃ m,m=ps.length:=⟨_,rfl⟩
   obtain ⟨n,hn⟩ : ∃ n,n=ts.length:=⟨_,rfl⟩
   have hmn : n=m:=by rw [hn,hm]; exact HTL.out
   have HM1:=Lib.hid (HM.out.ext x1)
   rw [← hm,← hn] at HM1
   have HML:=Lib.hid (show m≤8193 by have:=HM.out.cnt; omega)
   have HNE:=Lib.hid hn
   have HME:=Lib.hid hm
   have HMN:=Lib.hid hmn
   have hc12 : w1.cell? ⟨g,12,none⟩=some (.slice tA n tc):=HM1.out.blk.cell 12
   clear h1 x1 HNX hn hm hmn
   go_wp2_with fail
   go_loopw [118] (fun iv wr => ∃ (k : Nat) (ps' : List PieceM) (b' : Bool),iv=.int .i64 (k : Int)∧k≤n∧PMem w g c1 c2 c3 c5 c6 c7 c8 c9 c10 c11 A0 L ps' ts b' B d (.slice pA m pc) (.slice tA n tc) wr∧ps'.length=m∧promR k (ts.drop k) (stP r0 L ps' ts b')=FIN) (fun iv wr => n - (RowKit.intOf iv).toNat)
   case atStart => exact ⟨0,ps,b,rfl,Nat.zero_le _,HM1.out,HME.out.symm,HFE.out.symm⟩
   case round =>
    obtain ⟨k,ps',b',rfl,hk,hm,hpl,heq⟩:=hrel
    have HMk:=Lib.hid hm
    have HPL:=Lib.hid hpl
    have HEQ2:=Lib.hid heq
    clear hm hpl heq hc12 HM1
    by_cases hlt : k < n
    ·obtain ⟨s,hs⟩ : ∃ s,ts[k]? = some s:=⟨_,List.getElem?_eq_getElem (by have:=HNE.out; omega)⟩
     have hcs : ∃ tb tp,tA=some ⟨tb,tp,none⟩∧wr.cell? ⟨tb,tp + k,none⟩=some (.string (strU s)):=by
      obtain ⟨A,c,e,hc,-⟩:=HMk.out.tow.cells
      injection e with e
      subst e
      exact hc k _ (strsC_get hs)
     obtain ⟨tb,tp,rfl,hcs⟩:=hcs
     have hdr : ts.drop k=s :: ts.drop (k + 1):=by
      have hkl:=(List.getElem?_eq_some_iff.1 hs)
      rw [List.drop_eq_getElem_cons hkl.1,hkl.2]
     have HEQ3:=Lib.hid (show promR (k + 1) (ts.drop (k + 1)) (if s=[45] then stP r0 L ps' ts b' else stP r0 L (ps'.modify k fun p => { p with promote:=max (pieceIx ps' s) 0 + 1 }) ts (b' || decide (pieceIx ps' s < 0)))=FIN by
      rw [← HEQ2.out,hdr,promR_step])
     have hk8 : k≤8193:=by have h1:=HMN.out; have h2:=HML.out; omega
     have hkI : (k : Int) < (n : Int):=by omega
     clear hdr hs
     by_cases hs1 : s=[45]
     ·have e1 : ((strU s).toList == [45])=true:=by rw [str_is,decide_eq_true hs1]
      have HEQ4:=Lib.hid (show promR (k + 1) (ts.drop (k + 1)) (stP r0 L ps' ts b')=FIN by rw [← HEQ3.out,if_pos hs1])
      clear hs1
      go_wp2
      go_roundw
      case rel => exact ⟨k + 1,ps',b',by go_num,by omega,HMk.out,HPL.out,HEQ4.out⟩
      case measure => simp [RowKit.intOf]; omega
     ·have e1 : ((strU s).toList == [45])=false:=by rw [str_is,decide_eq_false hs1]
      have HEQ4:=Lib.hid (show promR (k + 1) (ts.drop (k + 1)) (stP r0 L (ps'.modify k fun p => { p with promote:=max (pieceIx ps' s) 0 + 1 }) ts (b' || decide (pieceIx ps' s < 0)))=FIN by rw [← HEQ3.out,if_neg hs1])
      clear hs1
      obtain ⟨pg,rfl⟩ : ∃ pg,pA=some ⟨pg,0,none⟩:=by
       obtain ⟨vss,ho,-⟩:=HMk.out.prow
       obtain ⟨g',cap,e,-⟩:=World.ownsRow.form ho (by have h1:=HPL.out; have h2:=HMN.out; omega)
       injection e with e
       exact ⟨g',e⟩
      have HMD:=Lib.hid (HMk.out.ext (Below.drew (Below.refl _ _)))
      have HPG:=Lib.hid (show pg ≠ g from fun e => by have h1:=(HMk.out.prow.lt pg rfl).1; have h2:=HGN.out; omega)
      have HPC:=Lib.hid (show Calls Tryz.prog 64 #[.pointer (some ⟨g,0,none⟩),.string (strU s)] wr.drew fun e w' => e=.returned (.int .i64 (max (pieceIx ps' s) 0))∧Blk w' g RT #[.slice B L.length d,c1,c2,c3,.slice (some ⟨pg,0,none⟩) m pc,c5,c6,c7,c8,c9,c10,c11,.slice (some ⟨tb,tp,none⟩) n tc,.bool (b' || decide (pieceIx ps' s < 0))]∧wr.drew.grownBy w' (some g) from by
       have h:=rpiece_any g (.slice B L.length d) c1 c2 c3 c5 c6 c7 c8 c9 c10 c11 (.slice (some ⟨tb,tp,none⟩) n tc) b' (some ⟨pg,0,none⟩) pc ps' s wr.drew (by rw [HPL.out]; exact HMD.out.blk) (by
        obtain ⟨A,c,e,hp,-⟩:=HMD.out.prow.shape
        injection e with e
        subst e
        exact hp) (by have h1:=HPL.out; have h2:=HML.out; omega)
       rw [HPL.out] at h
       exact h)
      have hrg:=pieceIx_rng ps' s
      have hwp : IntKind.i64.wrap (max (pieceIx ps' s) 0 + 1)=max (pieceIx ps' s) 0 + 1:=by rw [IntKind.wrap_i64]; have h1:=HPL.out; have h2:=HML.out; omega
      have hkm : (k : Int) < (m : Int):=by have:=HMN.out; omega
      have hkm0 : k < m:=by have:=HMN.out; omega
      have hm8 : m≤8193:=HML.out
      have HZC:=Lib.hid (fun (W : World) (hM : PMem w g c1 c2 c3 c5 c6 c7 c8 c9 c10 c11 A0 L ps' ts (b' || decide (pieceIx ps' s < 0)) B d (.slice (some ⟨pg,0,none⟩) m pc) (.slice (some ⟨tb,tp,none⟩) n tc) W) (hl : ps'.length=m) => (show ∃ z,W.cell? ⟨pg,k * 4 + 2,none⟩=some (.int .i64 z) from by
       obtain ⟨A,c,e,hp,-⟩:=hM.prow.shape
       injection e with e
       subst e
       obtain ⟨b1,o1,wA1,wc1,e1,-,-,hc2,-⟩:=hp.get (List.getElem?_eq_getElem (show k < ps'.length by omega))
       injection e1 with e1
       injection e1 with e2 e3
       subst e2 e3
       exact ⟨_,by rw [Nat.zero_add] at hc2; exact hc2⟩))
      have HZF:=Lib.hid (fun (W : World) (hM : PMem w g c1 c2 c3 c5 c6 c7 c8 c9 c10 c11 A0 L ps' ts (b' || decide (pieceIx ps' s < 0)) B d (.slice (some ⟨pg,0,none⟩) m pc) (.slice (some ⟨tb,tp,none⟩) n tc) W) => (show W.frozen? ⟨pg,k * 4 + 2,none⟩=false from by
       obtain ⟨vss,ho,-⟩:=hM.prow
       rcases ho.2 with ⟨e,-⟩ | ⟨g',cap,cur,e,-,hb,-⟩
       ·cases e
       ·injection e with e
        injection e with e
        injection e with e
        subst e
        exact Blk.frozen hb _))
      clear hrg
      go_upto_region 17 with fail
      have keepK:=hide (fun W (h : World.cell? W ⟨g,4,none⟩=some (Value.slice (some ⟨pg,0,none⟩) m pc)) => (show (fun W => W.cell? ⟨g,4,none⟩=some (Value.slice (some ⟨pg,0,none⟩) m pc)∧World.cell? W ⟨g,4,none⟩=some (Value.slice (some ⟨pg,0,none⟩) m pc)) W from ⟨h,h⟩))
      have yy:=HMD.out.blk.cell 4
      refine region_K (fun W => W.cell? ⟨g,4,none⟩=some (Value.slice (some ⟨pg,0,none⟩) m pc)∧World.cell? W ⟨g,4,none⟩=some (Value.slice (some ⟨pg,0,none⟩) m pc)) (fun _ => True) [] (by kernel_rfl) ?_
      have hT0:=keepK.out _ yy
      refine tk 0 hT0 (fun _=>trivial) ?_
      refine tk 1 hT0 (fun _=>trivial) ?_
      refine tk 2 hT0 (fun _=>trivial) ?_
      refine tk 3 hT0 (fun _=>trivial) ?_
      refine tl 4 hT0 (fun _=>trivial) (v:=?_) (fun W hW=>?_) ?_
      rotate_left
      ·obtain ⟨z0,z1⟩:=hW;go_simp;first|done|with_reducible rfl
      refine tk 5 hT0 (fun _=>trivial) ?_
      refine tk 6 hT0 (fun _=>trivial) ?_
      refine tk 7 hT0 (fun _=>trivial) ?_
      refine anyK_on1 8 (by kernel_rfl) ?_
      refine tw 8 (fun K hK=>?_)
      go_simp
      refine (HPC.out).mono ?_
      rintro e W12 ⟨rfl,hb,xx⟩
      try go_wp2_with fail
      replace yy:=hb.cell 4
      have HM12:=Lib.hid (HMD.out.mark xx HGN.out hb)
      clear hb
      have hT1:=keepK.out _ yy
      refine hK.out _ _ hT1 (fun _ => trivial) ?_
      clear hK K
      try simp only [Act.put,List.setIfInBounds_toArray,List.set_cons_zero,List.set_cons_succ]
      refine tk 9 hT1 (fun _=>trivial) ?_
      refine tk 10 hT1 (fun _=>trivial) ?_
      refine tk 11 hT1 (fun _=>trivial) ?_
      refine anyK_on1 12 (by kernel_rfl) ?_
      refine tw 12 (fun K hK=>?_)
      obtain ⟨zz,zc⟩:=HZC.out W12 HM12.out HPL.out
      have zf:=HZF.out W12 HM12.out
      go_simp
      clear zc zf
      have HM13:=Lib.hid (HM12.out.prom (pg:=pg) (i:=k) rfl (by have:=HPL.out; omega) HGN.out (max (pieceIx ps' s) 0 + 1))
      replace yy:=cell_far (p:=⟨pg,k * 4 + 2,none⟩) yy (fun e => HPG.out e.symm) (.int .i64 (max (pieceIx ps' s) 0 + 1))
      have hT2:=keepK.out _ yy
      refine hK.out _ _ hT2 (fun _ => trivial) ?_
      clear hK K
      try simp only [Act.put,List.setIfInBounds_toArray,List.set_cons_zero,List.set_cons_succ]
      refine anyK_done (by kernel_rfl) ?_ _
      clear keepK hT0 hT1 hT2
      generalize W12.setCell ⟨pg,k * 4 + 2,none⟩ (.int .i64 (max (pieceIx ps' s) 0 + 1))=w13 at *
      clear yy hwp
      go_wp2_with fail
      go_roundw
      case rel => exact ⟨k + 1,_,_,by go_num,by omega,HM13.out,by rw [List.length_modify]; exact HPL.out,HEQ4.out⟩
      case measure => simp [RowKit.intOf]; omega
    ·obtain rfl : k=n:=by omega
     have HEQ3:=Lib.hid (show FIN=stP r0 L ps' ts b' by
      rw [← HEQ2.out,List.drop_of_length_le (by have:=HNE.out; omega)]
      rfl)
     clear hlt
     go_wp2_with fail
     (try simp only [Exit.inBlock,Exit.then]); refine bodyPost_end (results_none rfl _ _ _) rfl ?_
     rw [HEQ3.out]
     exact ⟨B,d,_,_,rfl,HMk.out.lin,HMk.out.low,HMk.out.blk,HMk.out.prow,HMk.out.l8,HMk.out.fr⟩
  ·obtain ⟨wa,wn,wc,rfl⟩:=list3 h2
   obtain ⟨k2,k3,k4,k5⟩:=nextL_some h1
   have HM1:=Lib.hid (HM.out.step h6 HGN.out h5 h4 (low_of HM.out.lin (by omega) h8) k4 (by omega))
   have h8K:=k5 8192 HM.out.l8
   have HWA:=Lib.hid (h8K wa (by simp))
   have HWN:=Lib.hid (h8K wn (by simp))
   have HWC:=Lib.hid (h8K wc (by simp))
   obtain ⟨qb,qo,rfl,hqg,hq⟩:=words_at h3
   have HQF:=Lib.hid (show wr.heap.size≤qb from h7 _ rfl)
   have HQG:=Lib.hid hqg
   have HQ:=Lib.hid hq
   have hc0 : w1.cell? ⟨qb,qo,none⟩=some (.string (strU wa)):=hq 0 _ rfl
   have hc1 : w1.cell? ⟨qb,qo + 1,none⟩=some (.string (strU wn)):=hq 1 _ rfl
   have HK:=Lib.hid (show 3≤k1 from h3.2.1)
   have hk3 : 3≤k1:=h3.2.1
   have HQ1:=Lib.hid h1
   have HLT:=Lib.hid (show ls.length < L.length by omega)
   have HNU:=Lib.hid (rnumber_any g (.slice B1 ls.length d1) c1 c2 c3 pv c5 c6 c7 c8 c9 c10 c11 tv b wn w1 (HW.out.fr HM1.out.fr (by have:=HG4.out; simpa using this)) h5 HWN.out)
   clear h1 h2 h3 h4 h5 h6 h7 h8 hq hqg k2 k3 k4 k5 h8K HNX
   go_wp2_with fail
   refine HNU.out.mono ?_
   rintro e w2 ⟨rfl,h1,h2⟩
   have HM2:=Lib.hid (HM1.out.mark h2 HGN.out h1)
   have HQ2:=Lib.hid (fun i y (hi : [wa,wn,wc][i]? = some y) => h2.cell (HQ.out i y hi) (fun e => HQG.out (by injection e)))
   have hc0 : w2.cell? ⟨qb,qo,none⟩=some (.string (strU wa)):=HQ2.out 0 _ rfl
   have HSZ:=Lib.hid h2.size
   clear h1 h2 hc1 HNU
   go_upto_region 3 with fail
   obtain ⟨xa,kp⟩:=blks1 w2 #[.int .u8 0,.int .i64 (numV wn),.int .i64 0,.slice none 0 0] 57
   generalize w2.alloc _=w3 at *
   obtain ⟨PB,hPB⟩ : ∃ PB,PB=w2.heap.size:=⟨_,rfl⟩
   rw [← hPB] at kp ⊢
   have HM3:=Lib.hid (HM2.out.ext xa)
   have HKP:=Lib.hid kp
   have HQ3:=Lib.hid (fun i y (hi : [wa,wn,wc][i]? = some y) => Ext.cell xa (HQ2.out i y hi))
   have HPN:=Lib.hid (show w.heap.size≤PB by rw [hPB]; exact HM2.out.fr.size)
   have HPV:=Lib.hid (show pv.ownBlock ≠ some PB from fun e => by have:=(HM2.out.prow.lt PB e).2; omega)
   have HPT:=Lib.hid (show tv.ownBlock ≠ some PB from fun e => by have:=(HM2.out.tow.lt PB e).2; omega)
   have HQP:=Lib.hid (show qb ≠ PB from fun e => by have:=lt_of_cell (HQ2.out 0 _ rfl); simp only at this; omega)
   have HQT:=Lib.hid (show tv.ownBlock ≠ some qb from fun e => by have h1:=(HM.out.tow.lt qb e).2; have h2:=HQF.out; omega)
   have hc0 : w3.cell? ⟨qb,qo,none⟩=some (.string (strU wa)):=HQ3.out 0 _ rfl
   clear kp xa hPB HM1 HM2 HQ HQ2 HSZ
   by_cases h1 : wa.length=1
   ·obtain ⟨ch,rfl⟩:=list1 h1
    have hz : (strU [ch]).size=1:=rfl
    have hib : ∀ h : 0 < (strU [ch]).size,((strU [ch])[0]'h).toNat=ch.toNat:=fun h => strU_get rfl h
    have hi1 : 0 < (strU [ch]).size:=by rw [hz]; omega
    generalize strU [ch]=SC at *
    have hi0 : (0 : Int) < (SC.size : Int):=by omega
    clear h1
    by_cases hA : 65≤ch.toNat∧ch.toNat≤90
    ·have e1 : decide ((ch.toNat : Int) < 65)=false:=decide_eq_false (by omega)
     have e2 : decide ((90 : Int) < (ch.toNat : Int))=false:=decide_eq_false (by omega)
     have HLET:=Lib.hid (show letOf [ch]=some ch by rw [letOf_one,if_pos hA])
     have kc:=HKP.out.cell
     have kf:=HKP.out.frozen
     clear hA
     go_upto_region 6 with fail
     have HM4:=Lib.hid (HM3.out.setP (i:=0) HKP.out HPV.out HPN.out HGN.out (.int .u8 (ch.toNat : Int)))
     have HK4:=Lib.hid (blk_put (i:=0) (u:=.int .u8 (ch.toNat : Int)) HKP.out (cs':=#[.int .u8 (ch.toNat : Int),.int .i64 (numV wn),.int .i64 0,.slice none 0 0]) rfl)
     have HQ4:=Lib.hid (show (w3.setCell ⟨PB,0,none⟩ (.int .u8 (ch.toNat : Int))).cell? ⟨qb,qo + 2,none⟩=some (.string (strU wc)) from cell_far (p:=⟨PB,0,none⟩) (HQ3.out 2 _ rfl) HQP.out (.int .u8 (ch.toNat : Int)))
     generalize w3.setCell ⟨PB,0,none⟩ (.int .u8 (ch.toNat : Int))=w4 at *
     obtain ⟨tA,tc,rfl⟩ : ∃ A c,tv=.slice A ts.length c:=by
      obtain ⟨A,c,h,-⟩:=HM4.out.tow
      exact ⟨A,c,h⟩
     have HMD:=Lib.hid (HM4.out.ext (Below.drew (Below.refl _ _)))
     have HKD:=Lib.hid (HK4.out.drew)
     have HQD:=Lib.hid (show w4.drew.cell? ⟨qb,qo + 2,none⟩=some (.string (strU wc)) from HQ4.out)
     clear kc kf hc0 HKP HQ3 HM3 HM4 HK4 HQ4
     have keepK:=hide (fun W (h : World.cell? W ⟨qb,qo + 2,none⟩=some (Value.string (strU wc))) => (show (fun W => W.cell? ⟨qb,qo + 2,none⟩=some (Value.string (strU wc))∧World.cell? W ⟨qb,qo + 2,none⟩=some (Value.string (strU wc))) W from ⟨h,h⟩))
     have yy:=HQD.out
     refine region_K (fun W => W.cell? ⟨qb,qo + 2,none⟩=some (Value.string (strU wc))∧World.cell? W ⟨qb,qo + 2,none⟩=some (Value.string (strU wc))) (fun W => W.cell? ⟨g,12,none⟩=some (.slice tA ts.length tc)) [12] (by kernel_rfl) ?_
     have hS0:=(show World.cell? (w4.drew) ⟨g,12,none⟩=some (.slice tA ts.length tc) from by first | exact HMD.out.blk.cell 12 | exact (HMD.out.blk.alloc _).cell 12 | exact HB9.out.cell 12)
     have hT0:=keepK.out _ yy
     refine tk 0 hT0 (fun _ => hS0) ?_
     refine tk 1 hT0 (fun _ => hS0) ?_
     refine tk 2 hT0 (fun _ => hS0) ?_
     refine tk 3 hT0 (fun _ => hS0) ?_
     refine anyK_load 4 (oi:=?oo18) ?ho18 (by kernel_rfl) (by kernel_rfl) (by kernel_rfl) (by kernel_rfl) (by kernel_rfl) (by kernel_rfl) ?hq18 ?hw18 hT0 hS0 (v:=?vv18) ?hy18 ?hk18
     case ho18 => (simp only [List.getElem?_toArray,List.getElem?_cons_succ,List.getElem?_cons_zero]; rfl)
     case hq18 => exact fun _ _ _ h => h
     case hw18 => rfl
     case hy18 =>
      intro W hW1 hW
      go_simp
      first | done | with_reducible rfl
     case hk18 =>
     try simp only [Act.put,List.setIfInBounds_toArray,List.set_cons_zero,List.set_cons_succ]
     refine tk 5 hT0 (fun _ => hS0) ?_
     refine tk 6 hT0 (fun _ => hS0) ?_
     refine tl 7 hT0 (fun _ => hS0) (v:=?_) (fun W hW=>?_) ?_
     rotate_left
     ·obtain ⟨z0,z1⟩:=hW;go_simp;first|done|with_reducible rfl
     refine anyK_on1 8 (by kernel_rfl) ?_
     refine tw 8 (fun K hK=>?_)
     go_simp
     replace yy:=Ext.cell (ext_alloc (Below.refl _ _) (.cells #[.string (strU wc)] 9)) yy
     have hT1:=keepK.out _ yy
     have hS1:=(show World.cell? ((w4.drew.alloc (.cells #[.string (strU wc)] 9))) ⟨g,12,none⟩=some (.slice tA ts.length tc) from by first | exact HMD.out.blk.cell 12 | exact (HMD.out.blk.alloc _).cell 12 | exact HB9.out.cell 12)
     refine hK.out _ _ hT1 (fun _ => hS1) ?_
     clear hK K
     try simp only [Act.put,List.setIfInBounds_toArray,List.set_cons_zero,List.set_cons_succ]
     refine anyK_on1 9 (by kernel_rfl) ?_
     refine tw 9 (fun K hK=>?_)
     refine oper_append_f (.tmp 54) (.tmp 58) 54 rfl 16 (.string ⟨#[]⟩) Tryz.underlying54 strInfoJ rfl (by decide) (by decide) w w4.drew (.slice tA ts.length tc) ts.length (strsC ts) [.string (strU wc)] rfl HMD.out.tow rfl rfl (by simp [Value.oneCell']) HMD.out.fr.size (by have h1:=HTL.out; have h2:=HMD.out.cnt; omega) ?_
     intro v9 w9 own9 g9
     have HO9:=Lib.hid own9
     have HG9:=Lib.hid g9
     have HB9:=Lib.hid (HMD.out.blk.grown g9 (fun e => by have h1:=(HMD.out.tow.lt g e.symm).1; have h2:=HGN.out; omega))
     have HK9:=Lib.hid (HKD.out.grown g9 (fun e => HPT.out e.symm))
     replace yy:=g9.cell HQD.out (fun e => HQT.out e.symm)
     obtain ⟨vA,vc,rfl,-⟩:=own9.cells
     clear own9 g9
     have hT2:=keepK.out _ yy
     have hS2:=(show World.cell? (w9) ⟨g,12,none⟩=some (.slice tA ts.length tc) from by first | exact HMD.out.blk.cell 12 | exact (HMD.out.blk.alloc _).cell 12 | exact HB9.out.cell 12)
     refine hK.out _ _ hT2 (fun _ => hS2) ?_
     clear hK K
     try simp only [Act.put,List.setIfInBounds_toArray,List.set_cons_zero,List.set_cons_succ]
     refine tk 10 hT2 (fun _ => hS2) ?_
     refine tk 11 hT2 (fun _ => hS2) ?_
     refine anyK_on1 12 (by kernel_rfl) ?_
     refine tw 12 (fun K hK=>?_)
     have zc:=HB9.out.cell
     have zf:=HB9.out.frozen
     go_simp
     clear zc zf
     have HM10:=Lib.hid (HMD.out.tos HO9.out HG9.out HGN.out)
     have HK10:=Lib.hid (HK9.out.far (p:=⟨g,12,none⟩) (fun e => by have h1:=HPN.out; have h2:=HGN.out; simp only at e; omega) (.slice vA (ts.length + 1) vc))
     replace yy:=cell_far (p:=⟨g,12,none⟩) yy HQG.out (.slice vA (ts.length + 1) vc)
     have hT3:=keepK.out _ yy
     refine hK.out _ _ hT3 (fun h => by cases h) ?_
     clear hK K
     try simp only [Act.put,List.setIfInBounds_toArray,List.set_cons_zero,List.set_cons_succ]
     refine anyK_done (by kernel_rfl) ?_ _
     clear keepK hT0 hT1 hT2 hT3
     try clear keepS hS0 hS1 hS2
     have HM6:=Lib.hid HM10.out
     have HK6:=Lib.hid HK10.out
     generalize w9.setCell ⟨g,12,none⟩ (.slice vA (ts.length + 1) vc)=w6 at *
     obtain ⟨WR,hWR⟩ : ∃ WR,WR=waysR (ls.length + 1) (stP r0 ls ps (ts ++ [wc]) (b || numBad wn)) []:=⟨_,rfl⟩
     have HWR:=Lib.hid hWR
     have HW6:=Lib.hid (⟨HM6.out.blk,HM6.out.lin,HM6.out.low,HM6.out.same,HK6.out,OwnR.nil _ _ _ _,Fr.refl _ _,HM6.out.l8,by simp⟩ : WMem w w6 g PB c1 c2 c3 c5 c6 c7 c8 c9 c10 c11 A0 ls.length pv (.slice vA (ts.length + 1) vc) (.int .u8 (ch.toNat : Int)) (.int .i64 (numV wn)) ls [] (b || numBad wn) B1 d1 (.slice none 0 0) w6)
     have HNX2:=Lib.hid (next_any wWay 4 g c1 c2 c3 pv c5 c6 c7 c8 c9 c10 c11 (.slice vA (ts.length + 1) vc) (.bool (b || numBad wn)) B1 d1 ls w6 (HW.out.fr HM6.out.fr (by have:=HG4.out; simpa using this)) HM6.out.blk HM6.out.lin HM6.out.l8 (by decide))
     have HP6:=Lib.hid (Blk.lt HK6.out)
     have HS6:=Lib.hid (HM6.out.fr.size)
     clear yy hWR HM10 HK10 HMD HKD HQD HO9 HG9 HB9 HK9
     go_wp2_with fail
     refine HNX2.out.mono ?_
     rintro e w7 hres
     obtain ⟨s5,ok5,rfl,hinv,hle⟩:=winv_next HW6.out HWR.out.symm (Nat.lt_succ_self _) HPN.out HGN.out HP6.out HS6.out hres
     have HINV:=Lib.hid (And.intro hinv hle)
     clear hres hinv hle HNX2
     go_wp2_with fail
     go_loopw [5,6] (fun s ok wr => WInv w w6 g PB c1 c2 c3 c5 c6 c7 c8 c9 c10 c11 A0 ls.length pv (.slice vA (ts.length + 1) vc) (.int .u8 (ch.toNat : Int)) (.int .i64 (numV wn)) r0 ps (ts ++ [wc]) WR wr s ok∧lenAt wr g + okNat ok≤ls.length) (fun s ok wr => lenAt wr g + okNat ok)
     case atStart => exact HINV.out
     case round =>
      clear HINV
      obtain ⟨hinv,hle⟩:=hrel
      have HLE:=Lib.hid hle
      rcases hinv with ⟨rfl,L2,ws,b2,B2,d2,wv,hm,heq⟩ | ⟨A2,k2,l0,l1,l2,l3,L2,ws,b2,B2,d2,wv,f3,rfl,rfl,hl2,hnw,hm,hw8,hf3,hn3,heq⟩
      ·have HWL:=Lib.hid (show ws.length + L2.length≤ls.length from hm.cnt)
       have HMw:=Lib.hid (HM6.out.ways hm HK6.out HPV.out HPN.out HGN.out (by have h1:=HM6.out.cnt; have h2:=hm.cnt; omega))
       have HEQ4:=Lib.hid (show piecesL f (stP r0 L2 (ps ++ [⟨(ch.toNat : Int),numV wn,0,ws⟩]) (ts ++ [wc]) b2)=RES by
        have h:=piecesL_some (f:=f) (r0:=r0) (ps:=ps) (ts:=ts) (b:=b) HQ1.out HLET.out
        rw [HEQ.out,← HWR.out,← heq] at h
        exact h.symm)
       obtain ⟨oA,oc,rfl⟩ : ∃ A c,wv=.slice A ws.length c:=by
        obtain ⟨A,c,h,-⟩:=hm.wow
        exact ⟨A,c,h⟩
       obtain ⟨pA,pc,rfl⟩ : ∃ A c,pv=.slice A ps.length c:=by
        obtain ⟨A,c,h,-⟩:=HMw.out.prow.shape
        exact ⟨A,c,h⟩
       have HMD:=Lib.hid (HMw.out.ext (Below.drew (Below.refl _ _)))
       obtain ⟨vss,ho,hvl,hvw⟩:=HMD.out.prow
       have HO:=Lib.hid ho
       have HVL:=Lib.hid hvl
       have HVW:=Lib.hid hvw
       have HGP:=Lib.hid (show g ≠ PB by have h1:=HGN.out; have h2:=HPN.out; omega)
       have HPD:=Lib.hid (show Blk wr.drew PB 57 #[.int .u8 (ch.toNat : Int),.int .i64 (numV wn),.int .i64 0,.slice oA ws.length oc] from hm.pb)
       have HWO:=Lib.hid (show WaysOwn wr.drew w.heap.size ⟨(ch.toNat : Int),numV wn,0,ws⟩ [.int .u8 (ch.toNat : Int),.int .i64 (numV wn),.int .i64 0,.slice oA ws.length oc] from by
        obtain ⟨A,c,e,o⟩:=hm.wow
        injection e with e1 e2 e3
        subst e1 e3
        exact ⟨oA,oc,rfl,own_mono o HS6.out⟩)
       have HCN:=Lib.hid (show ps.length + 1 + L2.length≤8193 by have h1:=HM.out.cnt; have h2:=hm.cnt; have h3:=HLT.out; omega)
       have HTM:=Lib.hid (show (ts ++ [wc]).length=(ps ++ [(⟨(ch.toNat : Int),numV wn,0,ws⟩ : PieceM)]).length by simp [HTL.out])
       clear hm heq ho hvl hvw hle
       go_upto_region 12 with fail
       have keepK:=hide (fun W (h : Blk W PB 57 #[.int .u8 (ch.toNat : Int),.int .i64 (numV wn),.int .i64 0,.slice oA ws.length oc]) => (show (fun W => W.cell? ⟨PB,0,none⟩=some (Value.int .u8 (ch.toNat : Int))∧W.cell? ⟨PB,1,none⟩=some (Value.int .i64 (numV wn))∧W.cell? ⟨PB,2,none⟩=some (Value.int .i64 0)∧W.cell? ⟨PB,3,none⟩=some (Value.slice oA ws.length oc)∧Blk W PB 57 #[.int .u8 (ch.toNat : Int),.int .i64 (numV wn),.int .i64 0,.slice oA ws.length oc]) W from ⟨h.cell 0,h.cell 1,h.cell 2,h.cell 3,h⟩))
       have yy:=HPD.out
       refine region_K (fun W => W.cell? ⟨PB,0,none⟩=some (Value.int .u8 (ch.toNat : Int))∧W.cell? ⟨PB,1,none⟩=some (Value.int .i64 (numV wn))∧W.cell? ⟨PB,2,none⟩=some (Value.int .i64 0)∧W.cell? ⟨PB,3,none⟩=some (Value.slice oA ws.length oc)∧Blk W PB 57 #[.int .u8 (ch.toNat : Int),.int .i64 (numV wn),.int .i64 0,.slice oA ws.length oc]) (fun W => W.cell? ⟨g,4,none⟩=some (.slice pA ps.length pc)) [12] (by kernel_rfl) ?_
       have hS0:=(show World.cell? (wr.drew) ⟨g,4,none⟩=some (.slice pA ps.length pc) from by first | exact HMD.out.blk.cell 4 | exact (HMD.out.blk.alloc _).cell 4 | exact HB9.out.cell 4)
       have hT0:=keepK.out _ yy
       refine tk 0 hT0 (fun _ => hS0) ?_
       refine tk 1 hT0 (fun _ => hS0) ?_
       refine tk 2 hT0 (fun _ => hS0) ?_
       refine tk 3 hT0 (fun _ => hS0) ?_
       refine tk 4 hT0 (fun _ => hS0) ?_
       refine anyK_load 5 (oi:=?oo32) ?ho32 (by kernel_rfl) (by kernel_rfl) (by kernel_rfl) (by kernel_rfl) (by kernel_rfl) (by kernel_rfl) ?hq32 ?hw32 hT0 hS0 (v:=?vv32) ?hy32 ?hk32
       case ho32 => (simp only [List.getElem?_toArray,List.getElem?_cons_succ,List.getElem?_cons_zero]; rfl)
       case hq32 => exact fun _ _ _ h => h
       case hw32 => rfl
       case hy32 =>
        intro W hW1 hW
        go_simp
        first | done | with_reducible rfl
       case hk32 =>
       try simp only [Act.put,List.setIfInBounds_toArray,List.set_cons_zero,List.set_cons_succ]
       refine tl 6 hT0 (fun _ => hS0) (v:=?_) (fun W hW=>?_) ?_
       rotate_left
       ·obtain ⟨z0,z1,z2,z3,z4⟩:=hW;go_simp;first|done|with_reducible rfl
       refine anyK_on1 7 (by kernel_rfl) ?_
       refine tw 7 (fun K hK=>?_)
       go_simp
       have YE:=yy
       replace yy:=yy.alloc (.cells #[.int .u8 (ch.toNat : Int),.int .i64 (numV wn),.int .i64 0,.slice oA ws.length oc] 57)
       have hT1:=keepK.out _ yy
       have hS1:=(show World.cell? ((wr.drew.alloc (.cells #[.int .u8 (ch.toNat : Int),.int .i64 (numV wn),.int .i64 0,.slice oA ws.length oc] 57))) ⟨g,4,none⟩=some (.slice pA ps.length pc) from by first | exact HMD.out.blk.cell 4 | exact (HMD.out.blk.alloc _).cell 4 | exact HB9.out.cell 4)
       refine hK.out _ _ hT1 (fun _ => hS1) ?_
       clear hK K
       try simp only [Act.put,List.setIfInBounds_toArray,List.set_cons_zero,List.set_cons_succ]
       refine anyK_on1 8 (by kernel_rfl) ?_
       refine tw 8 (fun K hK=>?_)
       refine oper_append_f (.tmp 106) (.tmp 108) 22 rfl 48 (.agg #[.int .u8 0,.int .i64 0,.int .i64 0,.slice none 0 0]) Tryz.underlying22 infoPieceR rfl (by decide) (by decide) w wr.drew (.slice pA ps.length pc) ps.length vss.flatten [.int .u8 (ch.toNat : Int),.int .i64 (numV wn),.int .i64 0,.slice oA ws.length oc] rfl ⟨pA,pc,rfl,HO.out⟩ rfl rfl (by simp [Value.oneCell']) HMD.out.fr.size (by have h2:=HMD.out.cnt; omega) ?_
       intro v9 w9 own9 g9
       have HO9:=Lib.hid own9
       have HG9:=Lib.hid g9
       have HB9:=Lib.hid (HMD.out.blk.grown g9 (fun e => by have h1:=(HO.out.lt g e.symm).1; have h2:=HGN.out; omega))
       replace yy:=YE.grown g9 (fun e => HPV.out e.symm)
       obtain ⟨vA3,vc3,rfl,-⟩:=own9.cells
       clear own9 g9 YE
       have hT2:=keepK.out _ yy
       have hS2:=(show World.cell? (w9) ⟨g,4,none⟩=some (.slice pA ps.length pc) from by first | exact HMD.out.blk.cell 4 | exact (HMD.out.blk.alloc _).cell 4 | exact HB9.out.cell 4)
       refine hK.out _ _ hT2 (fun _ => hS2) ?_
       clear hK K
       try simp only [Act.put,List.setIfInBounds_toArray,List.set_cons_zero,List.set_cons_succ]
       refine tk 9 hT2 (fun _ => hS2) ?_
       refine tk 10 hT2 (fun _ => hS2) ?_
       refine tk 11 hT2 (fun _ => hS2) ?_
       refine anyK_on1 12 (by kernel_rfl) ?_
       refine tw 12 (fun K hK=>?_)
       have zc:=HB9.out.cell
       have zf:=HB9.out.frozen
       go_simp
       clear zc zf
       have HM10:=Lib.hid (HMD.out.push HO.out HVL.out HVW.out HO9.out HG9.out HWO.out HGN.out HCN.out)
       replace yy:=yy.far (p:=⟨g,4,none⟩) (fun e => HGP.out e.symm) (.slice vA3 (ps.length + 1) vc3)
       have hT3:=keepK.out _ yy
       refine hK.out _ _ hT3 (fun h => by cases h) ?_
       clear hK K
       try simp only [Act.put,List.setIfInBounds_toArray,List.set_cons_zero,List.set_cons_succ]
       refine anyK_done (by kernel_rfl) ?_ _
       clear keepK hT0 hT1 hT2 hT3
       try clear keepS hS0 hS1 hS2
       generalize w9.setCell ⟨g,4,none⟩ (.slice vA3 (ps.length + 1) vc3)=w10 at *
       clear yy
       go_wp2_with fail
       go_roundw
       case rel => exact ⟨L2,_,_,b2,B2,d2,_,_,f,HM10.out,by have h1:=HWL.out; have h2:=HLT.out; have h3:=HF.out; omega,HEQ4.out,HTM.out⟩
       case measure =>
        rw [lenAt_blk HM10.out.blk,lenAt_blk HM.out.blk]
        have h1:=HWL.out; have h2:=HLT.out
        omega
      ·have HM7:=Lib.hid hm
       obtain ⟨qb2,qo2,rfl,hqg2,hq2⟩:=words_at hl2
       have HQN:=Lib.hid (hnw _ rfl)
       have HQG2:=Lib.hid hqg2
       have HQ7:=Lib.hid hq2
       have HK2:=Lib.hid (show 4≤k2 from hl2.2.1)
       have hk2 : 4≤k2:=hl2.2.1
       have HW8:=Lib.hid hw8
       have HF3:=Lib.hid hf3
       have HN3:=Lib.hid hn3
       have HEQ2:=Lib.hid heq
       have HTK:=Lib.hid rtakes_any
       clear hm hq2 hqg2 hl2 hw8 hf3 hn3 heq hle hnw
       go_wp2_with fail
       refine (HTK.out _).mono ?_
       rintro e w8 ⟨rfl,x8⟩
       go_upto_region 11 with fail
       obtain ⟨x9,kt⟩:=blks1 w8 #[.string (strU wNever),.string (strU wMay),.string (strU wMust)] 61
       generalize w8.alloc _=wA at *
       obtain ⟨TB,hTB⟩ : ∃ TB,TB=w8.heap.size:=⟨_,rfl⟩
       rw [← hTB] at kt ⊢
       have XA:=Lib.hid (ext_trans x8 x9)
       obtain ⟨oA,oc,rfl⟩ : ∃ A c,wv=.slice A ws.length c:=by
        obtain ⟨A,c,h,-⟩:=HM7.out.wow
        exact ⟨A,c,h⟩
       have HMa:=Lib.hid ((HM7.out.ext XA.out).ext (Below.drew (Below.refl _ _)))
       have HG6:=Lib.hid (show g < w6.heap.size by have h1:=HGN.out; have h2:=HS6.out; omega)
       have HGP:=Lib.hid (show g ≠ PB by have h1:=HGN.out; have h2:=HPN.out; omega)
       have HTG:=Lib.hid (show TB ≠ g by have h1:=Blk.lt (HM7.out.blk.ext x8); omega)
       have HT0:=Lib.hid (show Blk wA.drew TB 61 (strsC takesL).toArray from kt)
       have HL0:=Lib.hid (show LibW wA.drew from LibW.ext (LibW.fr (HW.out.fr HM6.out.fr (by have:=HG4.out; simpa using this)) HMa.out.fr (by have h1:=HG4.out; have h2:=HPN.out; have h3:=HGN.out; intro x hx; rcases List.mem_cons.1 hx with rfl | hx; (· exact h1); (· obtain rfl:=List.mem_singleton.1 hx; omega))) (Below.refl _ _))
       have HY0:=Lib.hid (show W4 wA.drew qb2 qo2 l0 l1 l2 l3 from W4.ext ⟨HQ7.out 0 _ rfl,HQ7.out 1 _ rfl,HQ7.out 2 _ rfl,HQ7.out 3 _ rfl⟩ (ext_trans XA.out (Below.drew (Below.refl _ _))))
       have HNUM:=Lib.hid (fun (bb : Bool) (s : BL) (W : World) (hl : LibW W) (hb : Blk W g RT #[.slice B2 L2.length d2,c1,c2,c3,pv,c5,c6,c7,c8,c9,c10,c11,.slice vA (ts.length + 1) vc,.bool bb]) (hs : s.length≤8192) => rnumber_any g (.slice B2 L2.length d2) c1 c2 c3 pv c5 c6 c7 c8 c9 c10 c11 (.slice vA (ts.length + 1) vc) bb s W hl hb hs)
       have HLS:=Lib.hid (show ls.length≤8193 by have:=HM6.out.cnt; omega)
       clear x8 x9 kt hTB hk2 HTK
       have keepK:=hide (fun W (h : W4 W qb2 qo2 l0 l1 l2 l3) => (show (fun W => W.cell? ⟨qb2,qo2,none⟩=some (Value.string (strU l0))∧W.cell? ⟨qb2,qo2 + 1,none⟩=some (Value.string (strU l1))∧W.cell? ⟨qb2,qo2 + 2,none⟩=some (Value.string (strU l2))∧W.cell? ⟨qb2,qo2 + 3,none⟩=some (Value.string (strU l3))∧W4 W qb2 qo2 l0 l1 l2 l3) W from ⟨h.1,h.2.1,h.2.2.1,h.2.2.2,h⟩))
       have yy:=HY0.out
       refine region_K (fun W => W.cell? ⟨qb2,qo2,none⟩=some (Value.string (strU l0))∧W.cell? ⟨qb2,qo2 + 1,none⟩=some (Value.string (strU l1))∧W.cell? ⟨qb2,qo2 + 2,none⟩=some (Value.string (strU l2))∧W.cell? ⟨qb2,qo2 + 3,none⟩=some (Value.string (strU l3))∧W4 W qb2 qo2 l0 l1 l2 l3) (fun W => W.cell? ⟨PB,3,none⟩=some (.slice oA ws.length oc)) [27] (by kernel_rfl) ?_
       have hS0:=(show World.cell? (wA.drew) ⟨PB,3,none⟩=some (.slice oA ws.length oc) from by first | exact HMa.out.pb.cell 3 | exact HMb.out.pb.cell 3 | exact HMc.out.pb.cell 3 | exact HMd.out.pb.cell 3 | exact HMe.out.pb.cell 3 | exact (HMe.out.pb.alloc _).cell 3 | exact HP9.out.cell 3)
       have hT0:=keepK.out _ yy
       refine tk 0 hT0 (fun _ => hS0) ?_
       refine anyK_load 1 (oi:=?oo41) ?ho41 (by kernel_rfl) (by kernel_rfl) (by kernel_rfl) (by kernel_rfl) (by kernel_rfl) (by kernel_rfl) ?hq41 ?hw41 hT0 hS0 (v:=?vv41) ?hy41 ?hk41
       case ho41 => (simp only [List.getElem?_toArray,List.getElem?_cons_succ,List.getElem?_cons_zero]; rfl)
       case hq41 => exact fun _ _ _ h => h
       case hw41 => rfl
       case hy41 =>
        intro W hW1 hW
        go_simp
        first | done | with_reducible rfl
       case hk41 =>
       try simp only [Act.put,List.setIfInBounds_toArray,List.set_cons_zero,List.set_cons_succ]
       refine tk 2 hT0 (fun _ => hS0) ?_
       refine tk 3 hT0 (fun _ => hS0) ?_
       refine tk 4 hT0 (fun _ => hS0) ?_
       refine tl 5 hT0 (fun _ => hS0) (v:=?_) (fun W hW=>?_) ?_
       rotate_left
       ·obtain ⟨z0,z1,z2,z3,z4⟩:=hW;go_simp;first|done|with_reducible rfl
       refine tk 7 hT0 (fun _ => hS0) ?_
       refine tk 8 hT0 (fun _ => hS0) ?_
       refine tk 9 hT0 (fun _ => hS0) ?_
       refine tl 10 hT0 (fun _ => hS0) (v:=?_) (fun W hW=>?_) ?_
       rotate_left
       ·obtain ⟨z0,z1,z2,z3,z4⟩:=hW;go_simp;first|done|with_reducible rfl
       refine tk 12 hT0 (fun _ => hS0) ?_
       refine tk 13 hT0 (fun _ => hS0) ?_
       refine tk 14 hT0 (fun _ => hS0) ?_
       refine tl 15 hT0 (fun _ => hS0) (v:=?_) (fun W hW=>?_) ?_
       rotate_left
       ·obtain ⟨z0,z1,z2,z3,z4⟩:=hW;go_simp;first|done|with_reducible rfl
       refine tk 17 hT0 (fun _ => hS0) ?_
       refine tk 18 hT0 (fun _ => hS0) ?_
       refine tk 19 hT0 (fun _ => hS0) ?_
       refine tl 20 hT0 (fun _ => hS0) (v:=?_) (fun W hW=>?_) ?_
       rotate_left
       ·obtain ⟨z0,z1,z2,z3,z4⟩:=hW;go_simp;first|done|with_reducible rfl
       refine tk 21 hT0 (fun _ => hS0) ?_
       refine anyK_on1 6 (by kernel_rfl) ?_
       refine tw 6 (fun K hK=>?_)
       go_simp
       refine (HNUM.out b2 l0 wA.drew HL0.out HMa.out.blk (HW8.out l0 (by simp))).mono ?_
       rintro e w11 ⟨rfl,hb,xx⟩
       try go_wp2_with fail
       replace yy:=yy.grown xx (fun e => HQG2.out (by injection e with e; exact e.symm))
       have HMb:=Lib.hid (HMa.out.mark xx HG6.out HGP.out hb)
       have HL1:=Lib.hid (lib_grown HL0.out xx HG4.out)
       have HT1:=Lib.hid (HT0.out.grown xx (fun e => HTG.out (by injection e)))
       clear hb xx
       have hT1:=keepK.out _ yy
       have hS1:=(show World.cell? (w11) ⟨PB,3,none⟩=some (.slice oA ws.length oc) from by first | exact HMa.out.pb.cell 3 | exact HMb.out.pb.cell 3 | exact HMc.out.pb.cell 3 | exact HMd.out.pb.cell 3 | exact HMe.out.pb.cell 3 | exact (HMe.out.pb.alloc _).cell 3 | exact HP9.out.cell 3)
       refine hK.out _ _ hT1 (fun _ => hS1) ?_
       clear hK K
       try simp only [Act.put,List.setIfInBounds_toArray,List.set_cons_zero,List.set_cons_succ]
       refine anyK_on1 11 (by kernel_rfl) ?_
       refine tw 11 (fun K hK=>?_)
       go_simp
       refine (HNUM.out (b2 || numBad l0) l1 w11 HL1.out HMb.out.blk (HW8.out l1 (by simp))).mono ?_
       rintro e w12 ⟨rfl,hb,xx⟩
       try go_wp2_with fail
       replace yy:=yy.grown xx (fun e => HQG2.out (by injection e with e; exact e.symm))
       have HMc:=Lib.hid (HMb.out.mark xx HG6.out HGP.out hb)
       have HL2:=Lib.hid (lib_grown HL1.out xx HG4.out)
       have HT2:=Lib.hid (HT1.out.grown xx (fun e => HTG.out (by injection e)))
       clear hb xx
       have hT2:=keepK.out _ yy
       have hS2:=(show World.cell? (w12) ⟨PB,3,none⟩=some (.slice oA ws.length oc) from by first | exact HMa.out.pb.cell 3 | exact HMb.out.pb.cell 3 | exact HMc.out.pb.cell 3 | exact HMd.out.pb.cell 3 | exact HMe.out.pb.cell 3 | exact (HMe.out.pb.alloc _).cell 3 | exact HP9.out.cell 3)
       refine hK.out _ _ hT2 (fun _ => hS2) ?_
       clear hK K
       try simp only [Act.put,List.setIfInBounds_toArray,List.set_cons_zero,List.set_cons_succ]
       refine anyK_on1 16 (by kernel_rfl) ?_
       refine tw 16 (fun K hK=>?_)
       go_simp
       refine (HNUM.out ((b2 || numBad l0) || numBad l1) l2 w12 HL2.out HMc.out.blk (HW8.out l2 (by simp))).mono ?_
       rintro e w13 ⟨rfl,hb,xx⟩
       try go_wp2_with fail
       replace yy:=yy.grown xx (fun e => HQG2.out (by injection e with e; exact e.symm))
       have HMd:=Lib.hid (HMc.out.mark xx HG6.out HGP.out hb)
       have HL3:=Lib.hid (lib_grown HL2.out xx HG4.out)
       have HT3:=Lib.hid (HT2.out.grown xx (fun e => HTG.out (by injection e)))
       clear hb xx
       have hT3:=keepK.out _ yy
       have hS3:=(show World.cell? (w13) ⟨PB,3,none⟩=some (.slice oA ws.length oc) from by first | exact HMa.out.pb.cell 3 | exact HMb.out.pb.cell 3 | exact HMc.out.pb.cell 3 | exact HMd.out.pb.cell 3 | exact HMe.out.pb.cell 3 | exact (HMe.out.pb.alloc _).cell 3 | exact HP9.out.cell 3)
       refine hK.out _ _ hT3 (fun _ => hS3) ?_
       clear hK K
       try simp only [Act.put,List.setIfInBounds_toArray,List.set_cons_zero,List.set_cons_succ]
       refine anyK_on1 22 (by kernel_rfl) ?_
       refine tw 22 (fun K hK=>?_)
       go_simp
       refine (rchoice_any g (.slice B2 L2.length d2) c1 c2 c3 pv c5 c6 c7 c8 c9 c10 c11 (.slice vA (ts.length + 1) vc) (((b2 || numBad l0) || numBad l1) || numBad l2) l3 TB 0 3 takesL w13 HMd.out.blk (blk_cells_t HT3.out) (by decide)).mono ?_
       rintro e w14 ⟨rfl,hb,xx⟩
       try go_wp2_with fail
       replace yy:=yy.grown xx (fun e => HQG2.out (by injection e with e; exact e.symm))
       have HMe:=Lib.hid (HMd.out.mark xx HG6.out HGP.out hb)
       clear hb xx
       have hT4:=keepK.out _ yy
       have hS4:=(show World.cell? (w14) ⟨PB,3,none⟩=some (.slice oA ws.length oc) from by first | exact HMa.out.pb.cell 3 | exact HMb.out.pb.cell 3 | exact HMc.out.pb.cell 3 | exact HMd.out.pb.cell 3 | exact HMe.out.pb.cell 3 | exact (HMe.out.pb.alloc _).cell 3 | exact HP9.out.cell 3)
       refine hK.out _ _ hT4 (fun _ => hS4) ?_
       clear hK K
       try simp only [Act.put,List.setIfInBounds_toArray,List.set_cons_zero,List.set_cons_succ]
       refine tk 23 hT4 (fun _ => hS4) ?_
       refine anyK_on1 24 (by kernel_rfl) ?_
       refine tw 24 (fun K hK=>?_)
       go_simp
       have YE:=yy
       replace yy:=yy.ext (ext_alloc (Below.refl _ _) (.cells #[.int .i64 (numV l0),.int .i64 (numV l1),.int .i64 (numV l2),.int .i64 (max (ixW takesL l3) 0)] 60))
       have hT5:=keepK.out _ yy
       have hS5:=(show World.cell? ((w14.alloc (.cells #[.int .i64 (numV l0),.int .i64 (numV l1),.int .i64 (numV l2),.int .i64 (max (ixW takesL l3) 0)] 60))) ⟨PB,3,none⟩=some (.slice oA ws.length oc) from by first | exact HMa.out.pb.cell 3 | exact HMb.out.pb.cell 3 | exact HMc.out.pb.cell 3 | exact HMd.out.pb.cell 3 | exact HMe.out.pb.cell 3 | exact (HMe.out.pb.alloc _).cell 3 | exact HP9.out.cell 3)
       refine hK.out _ _ hT5 (fun _ => hS5) ?_
       clear hK K
       try simp only [Act.put,List.setIfInBounds_toArray,List.set_cons_zero,List.set_cons_succ]
       refine anyK_on1 25 (by kernel_rfl) ?_
       refine tw 25 (fun K hK=>?_)
       refine oper_append_f (.tmp 75) (.tmp 98) 55 rfl 32 (.agg #[.int .i64 0,.int .i64 0,.int .i64 0,.int .i64 0]) Tryz.underlying55 infoWayR rfl (by decide) (by decide) w6 w14 (.slice oA ws.length oc) ws.length (ws.flatMap WayM.vals) [.int .i64 (numV l0),.int .i64 (numV l1),.int .i64 (numV l2),.int .i64 (max (ixW takesL l3) 0)] rfl HMe.out.wow rfl rfl (by simp [Value.oneCell']) HMe.out.fr.size (by have h1:=HN3.out; have h2:=HLS.out; omega) ?_
       intro v9 w15 own9 g9
       have HO9:=Lib.hid own9
       have HG9:=Lib.hid g9
       have HP9:=Lib.hid (HMe.out.pb.grown g9 (fun e => by have h1:=(HMe.out.wow.lt PB e.symm).1; have h2:=HP6.out; omega))
       replace yy:=YE.grown g9 HQN.out.1
       obtain ⟨vA2,vc2,rfl,-⟩:=own9.cells
       clear own9 g9 YE
       have hT6:=keepK.out _ yy
       have hS6:=(show World.cell? (w15) ⟨PB,3,none⟩=some (.slice oA ws.length oc) from by first | exact HMa.out.pb.cell 3 | exact HMb.out.pb.cell 3 | exact HMc.out.pb.cell 3 | exact HMd.out.pb.cell 3 | exact HMe.out.pb.cell 3 | exact (HMe.out.pb.alloc _).cell 3 | exact HP9.out.cell 3)
       refine hK.out _ _ hT6 (fun _ => hS6) ?_
       clear hK K
       try simp only [Act.put,List.setIfInBounds_toArray,List.set_cons_zero,List.set_cons_succ]
       refine tk 26 hT6 (fun _ => hS6) ?_
       refine anyK_on1 27 (by kernel_rfl) ?_
       refine tw 27 (fun K hK=>?_)
       have zc:=HP9.out.cell
       have zf:=HP9.out.frozen
       go_simp
       clear zc zf
       have HMf:=Lib.hid (HMe.out.grow (x:=wayV [l0,l1,l2,l3]) HO9.out HG9.out HG6.out HP6.out HGP.out HPN.out (by have:=HN3.out; omega))
       replace yy:=yy.far (p:=⟨PB,3,none⟩) HQN.out.2 (.slice vA2 (ws.length + 1) vc2)
       have hT7:=keepK.out _ yy
       refine hK.out _ _ hT7 (fun h => by cases h) ?_
       clear hK K
       try simp only [Act.put,List.setIfInBounds_toArray,List.set_cons_zero,List.set_cons_succ]
       refine anyK_done (by kernel_rfl) ?_ _
       clear keepK hT0 hT1 hT2 hT3 hT4 hT5 hT6 hT7
       try clear keepS hS0 hS1 hS2 hS3 hS4 hS5 hS6
       have HEQ3:=Lib.hid (show waysR f3 (stP r0 L2 ps (ts ++ [wc]) ((((b2 || numBad l0) || numBad l1) || numBad l2) || decide (ixW takesL l3 < 0))) (ws ++ [wayV [l0,l1,l2,l3]])=WR by
        have eb : ((((b2 || numBad l0) || numBad l1) || numBad l2) || decide (ixW takesL l3 < 0))=(b2 || wayBad [l0,l1,l2,l3]):=by
         show _=(b2 || (((numBad l0 || numBad l1) || numBad l2) || decide (ixW takesL l3 < 0)))
         simp only [Bool.or_assoc]
        rw [eb]
        exact HEQ2.out)
       have HLF:=Lib.hid (LibW.fr (HW.out.fr HM6.out.fr (by have:=HG4.out; simpa using this)) HMf.out.fr (by have h1:=HG4.out; have h2:=HPN.out; have h3:=HGN.out; intro x hx; rcases List.mem_cons.1 hx with rfl | hx; (· exact h1); (· obtain rfl:=List.mem_singleton.1 hx; omega)))
       have HNX3:=Lib.hid (next_any wWay 4 g c1 c2 c3 pv c5 c6 c7 c8 c9 c10 c11 (.slice vA (ts.length + 1) vc) (.bool ((((b2 || numBad l0) || numBad l1) || numBad l2) || decide (ixW takesL l3 < 0))) B2 d2 L2 _ HLF.out HMf.out.blk HMf.out.lin HMf.out.l8 (by decide))
       generalize w15.setCell ⟨PB,3,none⟩ (.slice vA2 (ws.length + 1) vc2)=w16 at *
       clear yy HLF HEQ2 HMa HMb HMc HMd HMe HT0 HT1 HT2 HT3 HL0 HL1 HL2 HL3 HY0 HO9 HG9 HP9 HNUM
       go_wp2_with fail
       refine HNX3.out.mono ?_
       rintro e w17 hres
       obtain ⟨s6,ok6,rfl,hinv,hle⟩:=winv_next HMf.out HEQ3.out HF3.out HPN.out HGN.out HP6.out HS6.out hres
       have HINV2:=Lib.hid (And.intro hinv hle)
       have HLA2:=Lib.hid (lenAt_blk HM7.out.blk)
       clear hres hinv hle HNX3
       go_wp2_with fail
       go_roundw
       case rel => exact ⟨HINV2.out.1,Nat.le_trans HINV2.out.2 (by have:=HN3.out; omega)⟩
       case measure =>
        rw [HLA2.out]
        have:=HINV2.out.2
        show _ < L2.length + 1
        omega
    ·have hor : ch.toNat < 65∨(¬ ch.toNat < 65∧90 < ch.toNat):=by omega
     have HFE:=Lib.hid (show FIN=stP r0 ls ps ts true by
      rw [HFIN.out,← HEQ.out,piecesL_bad HQ1.out (by rw [letOf_one,if_neg hA])]
      rfl)
     have hc:=HM3.out.blk.cell
     have hf:=HM3.out.blk.frozen
     have HGR:=Lib.hid (grown_set (grown_of_ext (Below.refl _ _ : Ext w3 w3) (some g)) 13 (.bool true))
     have HM4:=Lib.hid (HM3.out.mark HGR.out HGN.out (blk_put (i:=13) (u:=.bool true) HM3.out.blk rfl))
     clear hA
     rcases hor with h2 | ⟨h2,h3⟩
     ·have e1 : decide ((ch.toNat : Int) < 65)=true:=decide_eq_true (by omega)
      clear h2
      go_wp2
      (try simp only [Exit.inBlock,Exit.then]); refine bodyPost_ret (results_none rfl _ _ _) rfl ?_
      rw [HFE.out]
      exact ⟨B1,d1,pv,tv,rfl,HM4.out.lin,HM4.out.low,HM4.out.blk,HM4.out.prow,HM4.out.l8,HM4.out.fr⟩
     ·have e1 : decide ((ch.toNat : Int) < 65)=false:=decide_eq_false (by omega)
      have e2 : decide ((90 : Int) < (ch.toNat : Int))=true:=decide_eq_true (by omega)
      clear h2 h3
      go_wp2
      (try simp only [Exit.inBlock,Exit.then]); refine bodyPost_ret (results_none rfl _ _ _) rfl ?_
      rw [HFE.out]
      exact ⟨B1,d1,pv,tv,rfl,HM4.out.lin,HM4.out.low,HM4.out.blk,HM4.out.prow,HM4.out.l8,HM4.out.fr⟩
   ·have HFE:=Lib.hid (show FIN=stP r0 ls ps ts true by
     rw [HFIN.out,← HEQ.out,piecesL_bad HQ1.out (letOf_none h1)]
     rfl)
    have t1 : (((strU wa).size : Int) != 1)=true:=by rw [strU_size]; simp; omega
    generalize strU wa=SC at *
    have hc:=HM3.out.blk.cell
    have hf:=HM3.out.blk.frozen
    have HGR:=Lib.hid (grown_set (grown_of_ext (Below.refl _ _ : Ext w3 w3) (some g)) 13 (.bool true))
    have HM4:=Lib.hid (HM3.out.mark HGR.out HGN.out (blk_put (i:=13) (u:=.bool true) HM3.out.blk rfl))
    clear h1
    go_wp2
    (try simp only [Exit.inBlock,Exit.then]); refine bodyPost_ret (results_none rfl _ _ _) rfl ?_
    rw [HFE.out]
    exact ⟨B1,d1,pv,tv,rfl,HM4.out.lin,HM4.out.low,HM4.out.blk,HM4.out.prow,HM4.out.l8,HM4.out.fr⟩
end Go.Proofs.YtdoibgmmijhlfaaGreatDoor
