/- RtW2 RtW3 RtW4 RtF RtG RtH RtT RtE RtL -/
import Derived.Test.YtdoibgmmijhlfaaGreatDoorR36
import Derived.Laws.MakeOwn
import Derived.BigFrame
import Derived.Test.YtdoibgmmijhlfaaGreatDoorR04
import Derived.Laws.OwnMore
import Derived.Test.YtdoibgmmijhlfaaGreatDoorR01
import Derived.Lib.SmallJoins
namespace Go.Proofs.YtdoibgmmijhlfaaGreatDoor
open Go.RowKit
set_option linter.unusedVariables false
set_option linter.unusedSimpArgs false
theorem makeStr (n : Nat) (h : n≤1000) (w : World) : (Instr.makeSlice 54 (.int .i64 (n : Int)) (.int .i64 (n : Int))).run Tryz.prog w=.ok (.slice (some ⟨w.heap.size,0,none⟩) n n) (w.alloc (.cells (strsC (List.replicate n [])).toArray 9)):=by
 obtain ⟨i,hi,hz,hs,hb⟩:=info_parts strInfoJ
 have hr:=run_make (P:=Tryz.prog) w 54 9 i (.string ⟨#[]⟩) Tryz.underlying54 hi hz .i64 .i64 (n : Int) (n : Int) (by omega) (Int.le_refl _) (by rw [hb]; omega) (by omega)
 rw [hr,hs]
 have e : madeCells (Value.string ⟨#[]⟩).cells (n * 1)=(strsC (List.replicate n [])).toArray:=by
  apply Array.ext
  ·simp [madeCells,strsC]
  ·intro j h1 h2
   simp [madeCells,Value.cells,Nat.mod_one,strsC]
   rfl
 simp only [Int.toNat_natCast]
 rw [e]
def MustPost (word : BL) (n g : Nat) (c1 c2 c3 c4 c5 c6 c7 c8 c9 c10 c11 c12 : Value) (bad : Bool) (A0 : Option Addr) (L : List BL) (w : World) (e : Ending) (w' : World) : Prop :=
 ∃ l ls A c B d b',((nextL word n L=some (l,ls)∧b'=bad)∨(nextL word n L=none∧l=List.replicate n []∧ls=L∧b'=true))∧l.length=n∧e=.returned (.slice A n c)∧LinesAt w' g A c l∧LinesAt w' g B d ls∧Blk w' g RT #[.slice B ls.length d,c1,c2,c3,c4,c5,c6,c7,c8,c9,c10,c11,c12,.bool b']∧w.grownBy w' (some g)∧(∀ a,A=some a→w.heap.size≤a.block)∧∀ b,B=some b→∃ a,A0=some a∧b.block=a.block
set_option maxHeartbeats 4000000 in
set_option maxRecDepth 100000 in
theorem must_any (word : BL) (n g : Nat) (c1 c2 c3 c4 c5 c6 c7 c8 c9 c10 c11 c12 : Value) (bad : Bool) (A : Option Addr) (c : Nat) (L : List BL) (w : World) (hw : LibW w) (hg : Blk w g RT #[.slice A L.length c,c1,c2,c3,c4,c5,c6,c7,c8,c9,c10,c11,c12,.bool bad]) (hL : LinesAt w g A c L) (hs : ∀ x ∈ L,x.length≤8192) (hn : n≤8) :
  Calls Tryz.prog 26 #[.pointer (some ⟨g,0,none⟩),.string (strU word),.int .i64 (n : Int)] w (MustPost word n g c1 c2 c3 c4 c5 c6 c7 c8 c9 c10 c11 c12 bad A L w):=by
 have HNX:=Lib.hid (next_any word n g c1 c2 c3 c4 c5 c6 c7 c8 c9 c10 c11 c12 (.bool bad) A c L w hw hg hL hs hn)
 have HG:=Lib.hid hg
 have HL:=Lib.hid hL
 have HMK:=fun W => makeStr n (by omega) W
 clear hw hg hL hs
 go_enter Tryz.func26,Tryz.ntmps26
 go_wp2_with fail
 refine HNX.out.mono ?_
 rintro e w2 hres
 rcases hres with ⟨h1,rfl,x⟩ | ⟨l,ls,A2,k2,B2,d2,h1,h2,rfl,h3,h4,h5,h6⟩
 ·have H1:=Lib.hid h1
  have HX:=Lib.hid x
  have hg2:=HG.out.ext x
  have HGS:=Lib.hid (blk_put (i:=13) (u:=.bool true) hg2 (cs':=#[.slice A L.length c,c1,c2,c3,c4,c5,c6,c7,c8,c9,c10,c11,c12,.bool true]) rfl)
  have HGR:=Lib.hid (grown_set (grown_of_ext x (some g)) 13 (.bool true))
  have HLS:=Lib.hid (lines_set (i:=13) (HL.out.ext x) (.bool true))
  have hc:=hg2.cell
  have hf:=hg2.frozen
  clear h1 x hg2 HG HL HNX HMK
  go_upto_region 4 with fail
  clear hc hf
  generalize w2.setCell ⟨g,13,none⟩ (.bool true)=w3 at *
  have HMK:=makeStr n (by omega) w3
  have HFR:=Lib.hid (fun a (ha : (some ⟨w3.heap.size,0,none⟩ : Option Addr)=some a) => (show a.block ≠ g from by injection ha with ha; subst ha; exact Nat.ne_of_gt (Blk.lt HGS.out)))
  have HCN:=Lib.hid (cellsAt_new w3 9 (strsC (List.replicate n ([] : BL))))
  go_wp2
  go_ret
  exact ⟨List.replicate n [],L,_,n,A,c,true,.inr ⟨H1.out,rfl,rfl,rfl⟩,by simp,rfl,⟨HCN.out,by simp,fun h => (by cases h),HFR.out⟩,HLS.out.ext (ext_alloc (Below.refl _ _) _),HGS.out.alloc _,grown_trans HGR.out (World.grownBy_alloc _ _ _),fun a ha => (by cases ha; exact HGR.out.size),fun b hb => ⟨b,hb,rfl⟩⟩
 ·have HH:=Lib.hid (And.intro h1 (And.intro h2 (And.intro h3 (And.intro h4 (And.intro h5 h6)))))
  have HLW:=Lib.hid (show ∀ b,B2=some b→∃ a,A=some a∧b.block=a.block from fun b hb => by
   cases hA : A with
   | none =>
    have h0:=HL.out.2.2.1 hA
    have hL0 : L=[]:=List.length_eq_zero_iff.1 h0
    rw [hL0] at h1
    cases h1
   | some a => exact ⟨a,rfl,h6.2.2 a b hA hb⟩)
  clear h1 h2 h3 h4 h5 h6 HNX HG HL HMK
  go_wp2
  go_ret
  exact ⟨l,ls,A2,k2,B2,d2,bad,.inl ⟨HH.out.1,rfl⟩,HH.out.2.1,rfl,HH.out.2.2.1,HH.out.2.2.2.1,HH.out.2.2.2.2.1,HH.out.2.2.2.2.2.1,HH.out.2.2.2.2.2.2.1,HLW.out⟩
theorem atoi_val (d : BL) (hd : d.length≤8192) (w : World) (hw : LibW w) : Calls Tryz.prog 63 #[.string (strU d)] w fun e w' => (∃ ev,e=.returned (.tuple #[.int .i64 (numV d),ev])∧((∃ v,Lib.atoiAll d=.ok v∧ev=.nilIface)∨((∀ v,Lib.atoiAll d ≠ .ok v)∧∃ p,ev=.iface 162 p)))∧Ext w w':=by
 have hsz:=strU_size d
 have hdt:=strU_data d
 unfold numV
 cases ha : Lib.atoiAll d with
 | ok v =>
  refine (Tryz.strconv_Atoi_ok (strU d) (by omega) v (by rw [hdt]; exact ha) w).mono ?_
  rintro e w' ⟨rfl,rfl | ⟨t,rfl⟩⟩
  ·exact ⟨⟨_,rfl,.inl ⟨v,rfl,rfl⟩⟩,Below.refl _ _⟩
  ·exact ⟨⟨_,rfl,.inl ⟨v,rfl,rfl⟩⟩,ext_bytes _ _ _⟩
 | range =>
  obtain ⟨ev,h1,h2⟩:=hw.rng
  refine (Tryz.strconv_Atoi_range (strU d) (by omega) (by rw [hdt]; exact ha) ev w h1 h2).mono ?_
  rintro e w' ⟨N,rfl,_,_,x⟩
  rw [hdt]
  exact ⟨⟨_,rfl,.inr ⟨(fun v h => by cases h),_,rfl⟩⟩,x⟩
 | _ =>
  obtain ⟨ev,h1,h2⟩:=hw.syn
  refine (Tryz.strconv_Atoi_bad (strU d) (by omega) (by rw [hdt,ha]; intro v h; cases h) (by rw [hdt,ha]; intro h; cases h) ev w h1 h2).mono ?_
  rintro e w' ⟨N,rfl,_,_,x⟩
  exact ⟨⟨_,rfl,.inr ⟨(fun v h => by cases h),_,rfl⟩⟩,x⟩
theorem itoa_all (n : Int) (h0 : -9223372036854775808≤n) (h1 : n≤9223372036854775807) (w : World) (hw : LibW w) : Calls Tryz.prog 17 #[.int .i64 n] w fun e w' => e=.returned (.string (strU (Lib.itoa n)))∧Ext w w':=by
 refine (Tryz.strconv_Itoa n h0 h1 w hw.tab).mono ?_
 rintro e w' ⟨rfl,k,os,rfl⟩
 exact ⟨rfl,ext_grow _ _ _⟩
set_option maxHeartbeats 4000000 in
set_option maxRecDepth 100000 in
theorem rnumber_any (g : Nat) (c0 c1 c2 c3 c4 c5 c6 c7 c8 c9 c10 c11 c12 : Value) (bad : Bool) (s : BL) (w : World) (hw : LibW w) (hg : Blk w g RT #[c0,c1,c2,c3,c4,c5,c6,c7,c8,c9,c10,c11,c12,.bool bad]) (hs : s.length≤8192) :
  Calls Tryz.prog 28 #[.pointer (some ⟨g,0,none⟩),.string (strU s)] w fun e w' => e=.returned (.int .i64 (numV s))∧Blk w' g RT #[c0,c1,c2,c3,c4,c5,c6,c7,c8,c9,c10,c11,c12,.bool (bad || numBad s)]∧w.grownBy w' (some g):=by
 have HAT:=Lib.hid (atoi_val s hs w hw)
 have HG:=Lib.hid hg
 have HW:=Lib.hid hw
 clear hw hg hs
 go_enter Tryz.func28,Tryz.ntmps28
 go_wp2_with fail
 refine HAT.out.mono ?_
 rintro e w2 ⟨⟨ev,rfl,hres⟩,x⟩
 have HX:=Lib.hid x
 have hg2:=HG.out.ext x
 have HG2:=Lib.hid hg2
 have HGS:=Lib.hid (fun W (y : Ext w W) => And.intro (blk_put (i:=13) (u:=.bool true) (HG.out.ext y) (cs':=#[c0,c1,c2,c3,c4,c5,c6,c7,c8,c9,c10,c11,c12,.bool true]) rfl) (grown_set (grown_of_ext y (some g)) 13 (.bool true)))
 have hc:=hg2.cell
 have hf:=hg2.frozen
 rcases hres with ⟨v,h1,rfl⟩ | ⟨h1,p,rfl⟩
 ·have hv : numV s=v:=by unfold numV; rw [h1]
  have HB:=Lib.hid (show numBad s=!decide (Lib.itoa v=s) by unfold numBad; rw [h1])
  have hr:=atoi_rng h1
  have HV:=Lib.hid hv
  rw [hv]
  have HIT:=Lib.hid (itoa_all v hr.1 hr.2 w2 (HW.out.ext x))
  clear hv hr h1 x hc hf hg2
  go_wp2_with fail
  refine HIT.out.mono ?_
  rintro e w3 ⟨rfl,x3⟩
  have HX3:=Lib.hid (ext_trans HX.out x3)
  have hg3:=HG2.out.ext x3
  have HG3:=Lib.hid hg3
  have hc:=hg3.cell
  have hf:=hg3.frozen
  clear x3 hg3 HIT HAT HG HG2
  by_cases hs : Lib.itoa v=s
  ·have e1 : ((strU (Lib.itoa v)).toList == (strU s).toList)=true:=by rw [hs,beq_self_eq_true]
   have HBF:=Lib.hid (show numBad s=false by rw [HB.out,hs]; simp)
   clear hs
   go_wp2
   go_ret
   exact ⟨by rw [HV.out]; rfl,by rw [HBF.out,Bool.or_false]; exact HG3.out,grown_of_ext HX3.out _⟩
  ·have e1 : ((strU (Lib.itoa v)).toList == (strU s).toList)=false:=by
    rw [Lib.toList_data,Lib.toList_data,strU_data,strU_data]
    simpa using hs
   have HBF:=Lib.hid (show numBad s=true by rw [HB.out,decide_eq_false hs]; rfl)
   have HGS3:=Lib.hid (HGS.out w3 HX3.out)
   clear hs HGS
   go_wp2
   go_ret
   exact ⟨by rw [HV.out]; rfl,by rw [HBF.out,Bool.or_true]; exact HGS3.out.1,HGS3.out.2⟩
 ·have HBF:=Lib.hid (show numBad s=true by
   unfold numBad
   cases h2 : Lib.atoiAll s with
   | ok v => exact absurd h2 (h1 v)
   | _ => rfl)
  have HGS3:=Lib.hid (HGS.out w2 HX.out)
  clear h1 x HGS hg2 HAT HG HG2
  go_wp2
  go_ret
  exact ⟨rfl,by rw [HBF.out,Bool.or_true]; exact HGS3.out.1,HGS3.out.2⟩
end Go.Proofs.YtdoibgmmijhlfaaGreatDoor
namespace Go.Proofs.YtdoibgmmijhlfaaGreatDoor
open Go.RowKit
set_option linter.unusedVariables false
set_option linter.unusedSimpArgs false
theorem run_maxZ (W : World) (ats : Array TypeId) (ty : TypeId) (a b : Int) : (Builtin.max_ ats ty #[.int .i64 a,.int .i64 b]).run Tryz.prog W=.ok (.int .i64 (max a b)) W:=by
 have e : max a b=if a < b then b else a:=by split <;> omega
 rw [e]
 simp [Builtin.max_,Builtin.max2]
theorem strU_inj {x y : BL} (h : strU x=strU y) : x=y:=by rw [← strU_data x,h,strU_data]
theorem idx_from (s : BL) : ∀ (L : List BL) (i : Nat),Lib.idxFromS (L.map strU) (strU s) i=(match L.findIdx? (fun x => decide (x=s)) with
  | some k => ((i + k : Nat) : Int)
  | none => -1)
 | [],i => rfl
 | x :: L,i => by
  have ih:=idx_from s L (i + 1)
  rw [List.map_cons,List.findIdx?_cons]
  unfold Lib.idxFromS
  by_cases h : x=s
  ·subst h
   simp
  ·have h2 : strU x ≠ strU s:=fun e => h (strU_inj e)
   rw [if_neg h2,ih,decide_eq_false h]
   cases L.findIdx? (fun x => decide (x=s)) with
   | none => rfl
   | some k => exact congrArg Int.ofNat (show i + 1 + k=i + (k + 1) by omega)
theorem idx_strs (s : BL) (L : List BL) : Lib.idxOfS (L.map strU) (strU s)=ixW L s:=by
 unfold Lib.idxOfS ixW
 rw [idx_from]
 cases L.findIdx? (fun x => decide (x=s)) with
 | none => rfl
 | some k => simp
set_option maxHeartbeats 4000000 in
set_option maxRecDepth 100000 in
theorem rchoice_any (g : Nat) (c0 c1 c2 c3 c4 c5 c6 c7 c8 c9 c10 c11 c12 : Value) (bad : Bool) (s : BL) (b o k : Nat) (L : List BL) (w : World) (hg : Blk w g RT #[c0,c1,c2,c3,c4,c5,c6,c7,c8,c9,c10,c11,c12,.bool bad]) (hL : CellsAt w (some ⟨b,o,none⟩) (strsC L)) (hn : L.length≤8) :
  Calls Tryz.prog 33 #[.pointer (some ⟨g,0,none⟩),.string (strU s),.slice (some ⟨b,o,none⟩) L.length k] w fun e w' => e=.returned (.int .i64 (max (ixW L s) 0))∧Blk w' g RT #[c0,c1,c2,c3,c4,c5,c6,c7,c8,c9,c10,c11,c12,.bool (bad || decide (ixW L s < 0))]∧w.grownBy w' (some g):=by
 have HIX:=Lib.hid (by
  have h:=Tryz.slices_Index_string b o L.length k (L.map strU) (strU s) w (by simp) (by omega) (fun j hj => by
   rw [List.length_map] at hj
   obtain ⟨b',o',e,hc⟩:=hL j _ (strsC_get (List.getElem?_eq_getElem hj))
   injection e with e
   injection e with e1 e2
   subst e1 e2
   rw [hc,List.getD_eq_getElem?_getD,List.getElem?_map,List.getElem?_eq_getElem hj]
   rfl)
  rw [List.take_of_length_le (by simp),idx_strs] at h
  exact h : Calls Tryz.prog 66 #[.slice (some ⟨b,o,none⟩) L.length k,.string (strU s)] w fun e w' => e=.returned (.int .i64 (ixW L s))∧w'=w)
 obtain ⟨m,hm⟩ : ∃ m,m=L.length:=⟨_,rfl⟩
 rw [← hm] at HIX ⊢
 have hc:=hg.cell
 have hf:=hg.frozen
 have HG:=Lib.hid hg
 obtain ⟨K,hK⟩ : ∃ K,K=ixW L s:=⟨_,rfl⟩
 rw [← hK] at HIX ⊢
 have hmx:=fun W ats ty => run_maxZ W ats ty K 0
 clear hg hL hn hm hK
 go_enter Tryz.func33,Tryz.ntmps33
 go_wp2_with fail
 refine HIX.out.mono ?_
 rintro e w2 ⟨rfl,rfl⟩
 have HS1:=Lib.hid (fun u : Bool => And.intro (blk_put (i:=13) (u:=.bool u) HG.out (cs':=#[c0,c1,c2,c3,c4,c5,c6,c7,c8,c9,c10,c11,c12,.bool u]) rfl) (grown_set (grown_of_ext (Below.refl _ _ : Ext w2 w2) (some g)) 13 (.bool u)))
 by_cases hb : bad=true
 ·subst hb
  have HS:=Lib.hid (HS1.out true)
  go_wp2
  go_ret
  exact ⟨rfl,HS.out.1,HS.out.2⟩
 ·obtain rfl : bad=false:=by simpa using hb
  have HS:=Lib.hid (HS1.out (decide (K < 0)))
  clear hb
  go_wp2
  go_ret
  exact ⟨rfl,HS.out.1,HS.out.2⟩
theorem rpieceC_any (l0 h0 p0 : Int) (v : Value) (c : UInt8) (a : Addr) (w : World) (hc : w.cell? a=some (.string (strU [c]))) (ha : a.spot=none) :
  Calls Tryz.prog 99 #[.agg #[.int .u8 l0,.int .i64 h0,.int .i64 p0,v],.pointer (some a)] w fun e w' => e=.returned (.bool (l0 == (c.toNat : Int)))∧Ext w w':=by
 obtain ⟨b,o,s⟩:=a
 obtain rfl : s=none:=ha
 have hlt:=lt_of_cell hc
 have hib : ∀ h : 0 < (strU [c]).size,((strU [c])[0]'h).toNat=c.toNat:=fun h => strU_get rfl h
 have hz : (strU [c]).size=1:=rfl
 have h1 : 0 < (strU [c]).size:=by rw [hz]; omega
 generalize strU [c]=S at *
 have i0 : (0 : Int) < (S.size : Int):=by omega
 go_enter Tryz.func99,Tryz.ntmps99
 go_wp2_with (go_quiet (fail))
 go_ret
 exact ⟨rfl,ext_drewN (ext_alloc (Below.refl _ _) _) _⟩
set_option maxHeartbeats 4000000 in
set_option maxRecDepth 100000 in
theorem idxRPiece_any (A : Option Addr) (n c : Nat) (ps : List PieceM) (ch : UInt8) (a : Addr) (w : World) (hn : ps.length=n) (hm : n≤1000000) (hp : PiecesAt w A ps) (hc : w.cell? a=some (.string (strU [ch]))) (ha : a.spot=none) :
  Calls Tryz.prog 98 #[.slice A n c,.func (.func 99) #[] #[.pointer (some a)]] w fun e w' => e=.returned (.int .i64 (pieceK ps ch))∧Ext w w':=by
 rw [pieceK_eq]
 have HN:=Lib.hid hn
 obtain ⟨l,hl⟩ : ∃ l : Int,l=(ch.toNat : Int):=⟨_,rfl⟩
 have HCL:=fun (l0 h0 p0 : Int) (v : Value) (W : World) (h : W.cell? a=some (.string (strU [ch]))) => rpieceC_any l0 h0 p0 v ch a W h ha
 rw [← hl] at HCL ⊢
 have HC:=Lib.hid HCL
 clear hn hl HCL
 go_enter Tryz.func98,Tryz.ntmps98
 go_wp2
 go_loopw [5,8] (fun _ i wr => ∃ k : Nat,k≤n∧i=.int .i64 k∧Hid (∀ (j : Nat) (q : PieceM),j < k→ps[j]? = some q→q.letter ≠ l)∧Ext w wr) (fun _ i _ => n - (RowKit.intOf i).toNat)
 case atStart => exact ⟨0,Nat.zero_le _,rfl,Lib.hid (fun j q hj => by omega),Below.refl _ _⟩
 case round =>
  obtain ⟨k,hk,rfl,hall,hext⟩:=hrel
  by_cases hlt : k < n
  ·have hkl : k < ps.length:=by rw [HN.out]; exact hlt
   have hget : ps[k]? = some ps[k]:=List.getElem?_eq_getElem hkl
   have HG:=Lib.hid hget
   obtain ⟨b,o,wA,wc,rfl,c0,c1,c2,c3,hw⟩:=(hp.ext hext).get hget
   have hca:=Ext.cell hext hc
   clear hget hp hw
   generalize ps[k]=q at *
   have HCA:=Lib.hid (HC.out q.letter q.hand q.promote (.slice wA q.ways.length wc) wr hca)
   by_cases hql : q.letter=l
   ·have hb : (q.letter == l)=true:=by simpa using hql
    have HB:=Lib.hid (idxK_at HG.out hql hall.out : idxK ps l=(k : Int))
    clear hql hall hca
    go_wp2_with fail
    refine HCA.out.mono ?_
    rintro e w1 ⟨rfl,x1⟩
    go_wp2
    go_ret
    exact ⟨by rw [HB.out]; rfl,ext_trans hext x1⟩
   ·have hb : (q.letter == l)=false:=by simpa using hql
    have HALL:=Lib.hid (fun j q' hj hq' => (by
     by_cases e : j=k
     ·subst e
      rw [HG.out] at hq'
      injection hq' with e2
      subst e2
      exact hql
     ·exact hall.out j q' (by omega) hq') : ∀ (j : Nat) (q : PieceM),j < k + 1→ps[j]? = some q→q.letter ≠ l)
    clear hql hall hca
    go_wp2_with fail
    refine HCA.out.mono ?_
    rintro e w1 ⟨rfl,x1⟩
    go_wp2
    go_roundw
    case rel => exact ⟨k + 1,by omega,by go_num,HALL,ext_trans hext x1⟩
    case measure => simp [RowKit.intOf]; omega
  ·obtain rfl : k=n:=by omega
   have HB:=Lib.hid (idxK_none fun j q hj => hall.out j q (by have:=(List.getElem?_eq_some_iff.1 hj).1; rw [HN.out] at this; exact this) hj : idxK ps l=-1)
   clear hall
   go_wp2
   go_ret
   exact ⟨by rw [HB.out]; rfl,hext⟩
end Go.Proofs.YtdoibgmmijhlfaaGreatDoor
namespace Go.Proofs.YtdoibgmmijhlfaaGreatDoor
open Go.RowKit
set_option linter.unusedVariables false
set_option linter.unusedSimpArgs false
theorem pieceIx_len {ps : List PieceM} {s : BL} (h : s.length ≠ 1) : pieceIx ps s=-1:=by
 unfold pieceIx
 split
 ·exact absurd rfl h
 ·rfl
set_option maxHeartbeats 4000000 in
set_option maxRecDepth 100000 in
theorem rpiece_any (g : Nat) (c0 c1 c2 c3 c5 c6 c7 c8 c9 c10 c11 c12 : Value) (bad : Bool) (pA : Option Addr) (pc : Nat) (ps : List PieceM) (s : BL) (w : World) (hg : Blk w g RT #[c0,c1,c2,c3,.slice pA ps.length pc,c5,c6,c7,c8,c9,c10,c11,c12,.bool bad]) (hp : PiecesAt w pA ps) (hn : ps.length≤1000000) :
  Calls Tryz.prog 64 #[.pointer (some ⟨g,0,none⟩),.string (strU s)] w fun e w' => e=.returned (.int .i64 (max (pieceIx ps s) 0))∧Blk w' g RT #[c0,c1,c2,c3,.slice pA ps.length pc,c5,c6,c7,c8,c9,c10,c11,c12,.bool (bad || decide (pieceIx ps s < 0))]∧w.grownBy w' (some g):=by
 have HP:=Lib.hid hp
 have HG:=Lib.hid hg
 have HNN:=Lib.hid hn
 have hsz:=strU_size s
 obtain ⟨xa,k1⟩:=blks1 w #[.string (strU s)] 9
 obtain ⟨K,hK⟩ : ∃ K,K=pieceIx ps s:=⟨_,rfl⟩
 rw [← hK]
 have HK:=Lib.hid hK
 have hmx:=fun W ats ty => run_maxZ W ats ty K 0
 clear hp hg hn hK
 go_enter Tryz.func64,Tryz.ntmps64
 go_upto_region 1 with fail
 generalize w.alloc _=w1 at *
 generalize w.heap.size=B at *
 have HX1:=Lib.hid (show Ext w w1 from xa)
 have hgw:=HG.out.ext xa
 have HG1:=Lib.hid hgw
 have HP1:=Lib.hid (HP.out.ext xa)
 have hc1:=k1.cell
 have hcA : w1.cell? ⟨B,0,none⟩=some (.string (strU s)):=k1.cell 0
 have HCA:=Lib.hid hcA
 have hc:=hgw.cell
 have hf:=hgw.frozen
 have HS1:=Lib.hid (fun (W : World) (y : Ext w1 W) (u : Bool) => And.intro (blk_put (i:=13) (u:=.bool u) (HG1.out.ext y) (cs':=#[c0,c1,c2,c3,.slice pA ps.length pc,c5,c6,c7,c8,c9,c10,c11,c12,.bool u]) rfl) (grown_set (grown_of_ext (ext_trans HX1.out y) (some g)) 13 (.bool u)))
 clear xa k1 hgw HG HP hcA
 by_cases h1 : s.length=1
 ·obtain ⟨ch,rfl⟩ : ∃ ch,s=[ch]:=by
   match s,h1 with
   | [ch],_ => exact ⟨ch,rfl⟩
  have HK2:=Lib.hid (show K=pieceK ps ch from HK.out)
  have HIX:=Lib.hid (by
   have h:=idxRPiece_any pA ps.length pc ps ch ⟨B,0,none⟩ w1 rfl HNN.out HP1.out HCA.out rfl
   rw [← HK2.out] at h
   exact h)
  clear h1
  have hs1 : (strU [ch]).size=1:=rfl
  clear hsz
  go_wp2_with fail
  refine HIX.out.mono ?_
  rintro e w2 ⟨rfl,x2⟩
  have HX2:=Lib.hid x2
  have hgw:=HG1.out.ext x2
  have hc:=hgw.cell
  have hf:=hgw.frozen
  clear x2 hgw hc1
  by_cases hb : bad=true
  ·subst hb
   have HS:=Lib.hid (HS1.out w2 HX2.out true)
   go_wp2
   go_ret
   exact ⟨rfl,HS.out.1,HS.out.2⟩
  ·obtain rfl : bad=false:=by simpa using hb
   have HS:=Lib.hid (HS1.out w2 HX2.out (decide (K < 0)))
   clear hb
   go_wp2
   go_ret
   exact ⟨rfl,HS.out.1,HS.out.2⟩
 ·have hK1 : K=-1:=by rw [HK.out,pieceIx_len h1]
  have ts : ((s.length : Int) == 1)=false:=by simp; omega
  have ts2 : (((strU s).size : Int) == 1)=false:=by rw [hsz]; exact ts
  subst hK1
  clear h1 ts hsz HK
  generalize strU s=S at *
  by_cases hb : bad=true
  ·subst hb
   have HS:=Lib.hid (HS1.out w1 (Below.refl _ _) true)
   go_wp2
   go_ret
   exact ⟨rfl,HS.out.1,HS.out.2⟩
  ·obtain rfl : bad=false:=by simpa using hb
   have HS:=Lib.hid (HS1.out w1 (Below.refl _ _) true)
   clear hb
   go_wp2
   go_ret
   exact ⟨rfl,HS.out.1,HS.out.2⟩
end Go.Proofs.YtdoibgmmijhlfaaGreatDoor
namespace Go.Proofs.YtdoibgmmijhlfaaGreatDoor
open Go.RowKit
set_option linter.unusedVariables false
structure Fr (S : List Nat) (w w' : World) : Prop where
 os : w'.os=w.os
 tape : w'.tape=w.tape
 output : w'.output=w.output
 size : w.heap.size≤w'.heap.size
 block : ∀ k,k < w.heap.size→k ∉ S→w'.heap[k]? = w.heap[k]?
theorem Fr.refl (S : List Nat) (w : World) : Fr S w w:=⟨rfl,rfl,rfl,Nat.le_refl _,fun _ _ _ => rfl⟩
theorem Fr.trans {S : List Nat} {a b c : World} (h : Fr S a b) (k : Fr S b c) : Fr S a c:=⟨k.os.trans h.os,k.tape.trans h.tape,k.output.trans h.output,Nat.le_trans h.size k.size,fun i hi hr => (k.block i (Nat.lt_of_lt_of_le hi h.size) hr).trans (h.block i hi hr)⟩
theorem Fr.of_ext {S : List Nat} {a b : World} (x : Ext a b) : Fr S a b:=⟨x.os,x.tape,x.output,x.size,fun k hk _ => x.block k hk⟩
theorem Fr.ext {S : List Nat} {a b c : World} (h : Fr S a b) (x : Ext b c) : Fr S a c:=h.trans (.of_ext x)
theorem Fr.of_grown {S : List Nat} {a b : World} {r : Option Nat} (k : a.grownBy b r) (hr : ∀ x,r=some x→x ∈ S) : Fr S a b:=⟨k.os,k.tape,k.output,k.size,fun i hi hn => k.block i hi (fun e => hn (hr i e.symm))⟩
theorem Fr.grown {S : List Nat} {a b c : World} {g : Nat} (h : Fr S a b) (k : b.grownBy c (some g)) (hg : g ∈ S) : Fr S a c:=h.trans (.of_grown k (fun x e => by cases e; exact hg))
theorem Fr.toGrown {a b : World} {g : Nat} (h : Fr [g] a b) : a.grownBy b (some g):=⟨h.os,h.tape,h.output,h.size,fun k hk hn => h.block k hk (fun e => hn (by rw [List.mem_singleton.1 e]))⟩
theorem Fr.own {S : List Nat} {a b c : World} {r : Option Nat} (h : Fr S a b) (k : b.grownBy c r) (hr : ∀ x,r=some x→a.heap.size≤x) : Fr S a c:=⟨k.os.trans h.os,k.tape.trans h.tape,k.output.trans h.output,Nat.le_trans h.size k.size,fun i hi hn => (k.block i (Nat.lt_of_lt_of_le hi h.size) (fun e => by have:=hr i e.symm; omega)).trans (h.block i hi hn)⟩
theorem Fr.set {S : List Nat} {a b : World} (h : Fr S a b) (p : Addr) (hp : p.block ∈ S∨a.heap.size≤p.block) (u : Value) : Fr S a (b.setCell p u):=⟨h.os,h.tape,h.output,by have:=h.size; simpa using this,fun k hk hn => (Below.heap_setCell b p u k (fun e => by rcases hp with hp | hp; (· exact hn (e ▸ hp)); (· omega))).trans (h.block k hk hn)⟩
theorem Fr.down {S S' : List Nat} {a b c : World} (h : Fr S a b) (k : Fr S' b c) (hs : ∀ x ∈ S',x ∈ S∨a.heap.size≤x) : Fr S a c:=⟨k.os.trans h.os,k.tape.trans h.tape,k.output.trans h.output,Nat.le_trans h.size k.size,fun i hi hn => (k.block i (Nat.lt_of_lt_of_le hi h.size) (fun e => by rcases hs i e with h1 | h1; (· exact hn h1); (· omega))).trans (h.block i hi hn)⟩
section
variable {S : List Nat} {w w' : World}
theorem Blk.fr {g : Nat} {t : TypeId} {cs : Array Value} (h : Blk w g t cs) (k : Fr S w w') (hg : g ∉ S) : Blk w' g t cs:=(k.block g (Blk.lt h) hg).trans h
theorem cells_fr {A : Option Addr} {vs : List Value} (h : CellsAt w A vs) (k : Fr S w w') (hA : ∀ a,A=some a→a.block ∉ S) : CellsAt w' A vs:=fun i v hi => by
 obtain ⟨b,o,rfl,hc⟩:=h i v hi
 refine ⟨b,o,rfl,?_⟩
 rw [World.cell?_of_block (a:=⟨b,o + i,none⟩) (k.block b (lt_of_cell hc) (hA _ rfl))]
 exact hc
theorem lines_fr {g c : Nat} {A : Option Addr} {L : List BL} (h : LinesAt w g A c L) (k : Fr S w w') (hA : ∀ a,A=some a→a.block ∉ S) : LinesAt w' g A c L:=⟨cells_fr h.1 k hA,h.2⟩
theorem own_fr {base : Nat} {e : TypeId} {size n : Nat} {v : Value} {xs : List Value} (h : w.ownsRow base e size v n xs) (k : Fr S w w') (hS : ∀ x ∈ S,v.ownBlock ≠ some x) : w'.ownsRow base e size v n xs:=by
 refine ⟨h.1,?_⟩
 have hlt:=h.lt
 rcases h.2 with hn | ⟨g,cap,cur,rfl,hb,hgg,rest⟩
 ·exact .inl hn
 ·exact .inr ⟨g,cap,cur,rfl,hb,(k.block g (hlt g rfl).2 (fun e => hS g e rfl)).trans hgg,rest⟩
theorem OwnR.fr {e : TypeId} {sz n : Nat} {w0 : World} {v : Value} {cs : List Value} (h : OwnR e sz w0 w v n cs) (k : Fr S w w') (hS : ∀ x ∈ S,v.ownBlock ≠ some x) : OwnR e sz w0 w' v n cs:=by
 obtain ⟨A,c,rfl,h⟩:=h
 exact ⟨A,c,rfl,own_fr h k hS⟩
theorem OwnR.lt {e : TypeId} {sz n : Nat} {w0 : World} {v : Value} {cs : List Value} (h : OwnR e sz w0 w v n cs) : ∀ k,v.ownBlock=some k→w0.heap.size≤k∧k < w.heap.size:=by
 obtain ⟨A,c,rfl,h⟩:=h
 exact h.lt
theorem LibW.fr (h : LibW w) (k : Fr S w w') (hS : ∀ x ∈ S,4≤x) : LibW w':=by
 have hb : ∀ i,i < 4→i < w.heap.size→w'.heap[i]? = w.heap[i]?:=fun i hi hlt => k.block i hlt (fun e => by have:=hS i e; omega)
 refine ⟨?_,?_,?_,?_⟩
 ·obtain ⟨m,hm⟩:=h.max
  exact ⟨m,(World.cell?_of_block (hb _ (by decide) (lt_of_cell hm))).trans hm⟩
 ·obtain ⟨ev,h1,h2⟩:=h.syn
  exact ⟨ev,(World.cell?_of_block (hb _ (by decide) (lt_of_cell h1))).trans h1,h2⟩
 ·obtain ⟨ev,h1,h2⟩:=h.rng
  exact ⟨ev,(World.cell?_of_block (hb _ (by decide) (lt_of_cell h1))).trans h1,h2⟩
 ·have ht:=h.tab
  have hc:=ht.cell gPow 0 (by decide)
  have hlt:=lt_of_cell hc
  unfold Lib.TabIs World.var? at ht ⊢
  rw [gPow] at ht ⊢
  simp only [Option.bind_some] at ht ⊢
  rw [hb 0 (by decide) hlt]
  exact ht
end
theorem oper_append_f {e : TypeId} {sz : Nat} {o : Oper} {a : Act} {K : Act→World→Prop} {Q : Exit→Act→World→Prop} (s x : Operand) (S : TypeId)
  (ho : o.op=.call { callee:=.builtin .append,args:=#[s,x],argTypes:=#[S,S] }) (bytes : Nat) (z : Value) (hS : Tryz.prog.underlying S=some (.slice e))
  (hinfo : (Tryz.prog.info? e).map (fun i => (i.zero,i.size,i.bytes))=some (some z,sz,bytes)) (hzs : z.cells.size=sz) (hsz0 : 0 < sz) (hby : bytes≤1000)
  (w0 w : World) (v : Value) (n : Nat) (cs news : List Value) (hs : a.eval s=v) (hown : OwnR e sz w0 w v n cs) (hx : a.eval x=.slice (some ⟨w.heap.size,0,none⟩) 1 1) (hl : news.length=sz) (h1 : ∀ u ∈ news,u.oneCell'=true)
  (hext : w0.heap.size≤w.heap.size) (hlen : n≤1000000) (h : ∀ v' w',OwnR e sz w0 w' v' (n + 1) (cs ++ news)→w.grownBy w' v.ownBlock→K (a.put o.dst v') w') :
  Oper.wp Tryz.prog o a (w.alloc (.cells news.toArray e)) K Q:=by
 obtain ⟨A,c,rfl,hown⟩:=hown
 obtain ⟨i0,hi,hz0,hz1,hz2⟩:=info_parts hinfo
 obtain ⟨v',w',hrun,h2,h3⟩:=run_append_cells (P:=Tryz.prog) _ w0.heap.size S o.type e i0 z sz bytes hS hi hz0 hz1 hz2 hzs hsz0 _ n cs (own_ext hown (ext_alloc (Below.refl _ _) _)) (some ⟨w.heap.size,0,none⟩) 1 1 news (by rw [hl,Nat.one_mul]) (cellsAt_new w e news) h1 (by simp only [maxLen]; omega) (by
  have : (n + 1) * bytes≤1000001 * 1000:=Nat.mul_le_mul (by omega) hby
  omega) (by simp; omega) (by simp)
 unfold Oper.wp execOp
 simp only [ho,resolve,invoke,builtin,Sem.run_bind,Sem.run_pure,Result.andThen_ok,List.map_toArray,List.map_cons,List.map_nil,hs,hx,hrun]
 obtain ⟨A',c',rfl,_,_⟩:=own_shape h2
 refine h _ w' ⟨A',c',rfl,h2⟩ ?_
 exact ⟨h3.os,h3.tape,h3.output,by have:=h3.size; simp at this; omega,fun b hb hn => by
  rw [h3.block b (by simp; omega) hn]
  exact Below.heap_alloc w _ b hb⟩
theorem infoPieceR : (Tryz.prog.info? 57).map (fun i => (i.zero,i.size,i.bytes))=some (some (.agg #[.int .u8 0,.int .i64 0,.int .i64 0,.slice none 0 0]),4,48):=by kernel_rfl
theorem infoWayR : (Tryz.prog.info? 60).map (fun i => (i.zero,i.size,i.bytes))=some (some (.agg #[.int .i64 0,.int .i64 0,.int .i64 0,.int .i64 0]),4,32):=by kernel_rfl
theorem infoEndR : (Tryz.prog.info? 66).map (fun i => (i.zero,i.size,i.bytes))=some (some (.agg #[.int .i64 0,.int .i64 0,.int .i64 0,.bool false]),4,32):=by kernel_rfl
theorem own_put {w : World} {base : Nat} {e : TypeId} {size n : Nat} {v : Value} {xs : List Value} (h : w.ownsRow base e size v n xs) {g j : Nat} (hv : v.ownBlock=some g) (hj : j < n * size) (u : Value) : (w.setCell ⟨g,j,none⟩ u).ownsRow base e size v n (xs.set j u):=by
 refine ⟨by rw [List.length_set]; exact h.1,?_⟩
 rcases h.2 with ⟨rfl,-⟩ | ⟨g',cap,cur,rfl,hb,hgg,h1,h2,h3,h4⟩
 ·cases hv
 ·obtain rfl : g'=g:=by injection hv
  refine .inr ⟨g',cap,cur.setIfInBounds j u,rfl,hb,Blk.set_ hgg j u,h1,h2,by simpa using h3,?_⟩
  apply List.ext_getElem?
  intro k
  rw [← h4]
  simp only [Array.toList_setIfInBounds,List.getElem?_take,List.getElem?_set,List.length_take,Array.length_toList]
  split
  ·split
   ·split <;> split <;> first | rfl | omega
   ·rfl
  ·split
   ·split <;> first | rfl | omega
   ·rfl
def WaysOwn (w : World) (base : Nat) (p : PieceM) (l : List Value) : Prop :=
 ∃ A c,l=[.int .u8 p.letter,.int .i64 p.hand,.int .i64 p.promote,.slice A p.ways.length c]∧w.ownsRow base 60 4 (.slice A p.ways.length c) p.ways.length (p.ways.flatMap WayM.vals)
def PRow (w : World) (base : Nat) (v : Value) (ps : List PieceM) : Prop :=
 ∃ vss : List (List Value),w.ownsRow base 57 4 v ps.length vss.flatten∧vss.length=ps.length∧∀ (i : Nat) (p : PieceM) (l : List Value),ps[i]? = some p→vss[i]? = some l→WaysOwn w base p l
theorem PRow.nil (w : World) (base : Nat) : PRow w base (.slice none 0 0) []:=⟨[],World.ownsRow_nil _ _ _ _,rfl,fun i p l h => by simp at h⟩
section
variable {S : List Nat} {w w' : World} {base : Nat} {v : Value} {ps : List PieceM}
theorem PRow.shape (h : PRow w base v ps) : ∃ A c,v=.slice A ps.length c∧PiecesAt w A ps∧ps.length≤c∧(A=none→ps.length=0)∧∀ a,A=some a→base≤a.block∧a.block < w.heap.size:=by
 obtain ⟨vss,ho,hl,hw⟩:=h
 obtain ⟨A,c,rfl,h0,hc⟩:=own_shape ho
 exact ⟨A,c,rfl,⟨vss,hc,hl,fun i p l a b => by
  obtain ⟨A',c',e,ho'⟩:=hw i p l a b
  exact ⟨A',c',e,(own_cells ho').1⟩⟩,own_cap ho,h0,fun a ha => by
  subst ha
  exact ho.lt a.block rfl⟩
theorem PRow.fr (h : PRow w base v ps) (f : Fr S w w') (hS : ∀ x ∈ S,v.ownBlock ≠ some x∧(x < base∨w.heap.size≤x∨∃ t cs,Blk w x t cs∧60 ≠ t)) : PRow w' base v ps:=by
 obtain ⟨vss,ho,hl,hw⟩:=h
 refine ⟨vss,own_fr ho f (fun x hx => (hS x hx).1),hl,fun i p l a b => ?_⟩
 obtain ⟨A',c',e,o⟩:=hw i p l a b
 refine ⟨A',c',e,own_fr o f fun x hx e => ?_⟩
 rcases (hS x hx).2 with h1 | h1 | ⟨t,cs,h1,h2⟩
 ·have:=(o.lt x e).1; omega
 ·have:=(o.lt x e).2; omega
 ·exact own_blk_ne o h1 h2 e
theorem PRow.ext (h : PRow w base v ps) (x : Ext w w') : PRow w' base v ps:=h.fr (S:=[]) (.of_ext x) (fun x hx => by cases hx)
theorem PRow.other {e : TypeId} {sz n : Nat} {u : Value} {xs : List Value} {b : Nat} (h : PRow w base v ps) (g : w.grownBy w' u.ownBlock) (o : w.ownsRow b e sz u n xs) (h1 : 57 ≠ e) (h2 : 60 ≠ e) : PRow w' base v ps:=by
 obtain ⟨vss,ho,hl,hw⟩:=h
 exact ⟨vss,ho.kept g (own_ne ho o h1),hl,fun i p l a b => by
  obtain ⟨A',c',e,ho'⟩:=hw i p l a b
  exact ⟨A',c',e,ho'.kept g (own_ne ho' o h2)⟩⟩
theorem PRow.lt (h : PRow w base v ps) : ∀ k,v.ownBlock=some k→base≤k∧k < w.heap.size:=by
 obtain ⟨vss,ho,hl,hw⟩:=h
 exact ho.lt
theorem get_snoc {α : Type} {l : List α} {a b : α} {i : Nat} (h : (l ++ [a])[i]? = some b) : l[i]? = some b∨(i=l.length∧b=a):=by
 rw [List.getElem?_append] at h
 split at h
 ·exact .inl h
 ·rename_i hi
  obtain ⟨k,hk⟩ : ∃ k,k=i - l.length:=⟨_,rfl⟩
  rw [← hk] at h
  match k,h with
  | 0,h => exact .inr ⟨by omega,by simpa using h.symm⟩
  | k + 1,h => simp at h
theorem PRow.snoc {w0 : World} {vss : List (List Value)} {l : List Value} {p : PieceM} {v' : Value} (h : w.ownsRow base 57 4 v ps.length vss.flatten) (hl : vss.length=ps.length) (hw : ∀ (i : Nat) (p : PieceM) (l : List Value),ps[i]? = some p→vss[i]? = some l→WaysOwn w base p l)
  (g : w.grownBy w' v.ownBlock) (hp : WaysOwn w base p l) (ho : w'.ownsRow base 57 4 v' (ps.length + 1) (vss.flatten ++ l)) : PRow w' base v' (ps ++ [p]):=by
 have hk : ∀ {p : PieceM} {l : List Value},WaysOwn w base p l→WaysOwn w' base p l:=fun ⟨A,c,e,o⟩ => ⟨A,c,e,o.kept g (own_ne o h (by decide))⟩
 refine ⟨vss ++ [l],by rw [List.length_append]; simpa using ho,by simp [hl],fun i q m a b => ?_⟩
 rcases get_snoc a with a | ⟨a1,rfl⟩
 ·rcases get_snoc b with b | ⟨b1,-⟩
  ·exact hk (hw i q m a b)
  ·have:=(List.getElem?_eq_some_iff.1 a).1; omega
 ·rcases get_snoc b with b | ⟨-,rfl⟩
  ·have:=(List.getElem?_eq_some_iff.1 b).1; omega
  ·exact hk hp
theorem flat_set4 (j : Nat) (u : Value) (hj : j < 4) : ∀ (vss : List (List Value)) (i : Nat) (l : List Value),(∀ l ∈ vss,l.length=4)→vss[i]? = some l→vss.flatten.set (i * 4 + j) u=(vss.set i (l.set j u)).flatten
 | [],i,l,_,h => by simp at h
 | a :: vss,0,l,ha,h => by
  obtain rfl : a=l:=by simpa using h
  rw [List.flatten_cons,List.set_cons_zero,List.flatten_cons,Nat.zero_mul,Nat.zero_add,List.set_append_left _ _ (by rw [ha a (by simp)]; exact hj)]
 | a :: vss,i + 1,l,ha,h => by
  have h4:=ha a (by simp)
  rw [List.flatten_cons,List.set_cons_succ,List.flatten_cons,List.set_append_right _ _ (by omega),h4,show (i + 1) * 4 + j - 4=i * 4 + j by omega,flat_set4 j u hj vss i l (fun x hx => ha x (by simp [hx])) (by simpa using h)]
theorem PRow.promote (h : PRow w base v ps) {g i : Nat} (hv : v.ownBlock=some g) (hi : i < ps.length) (z : Int) : PRow (w.setCell ⟨g,i * 4 + 2,none⟩ (.int .i64 z)) base v (ps.modify i fun p => { p with promote:=z }):=by
 obtain ⟨vss,ho,hl,hw⟩:=h
 obtain ⟨l,hl2⟩ : ∃ l,vss[i]? = some l:=⟨_,List.getElem?_eq_getElem (by omega)⟩
 have h4 : ∀ l ∈ vss,l.length=4:=fun l hl3 => by
  obtain ⟨k,hk⟩:=List.getElem?_of_mem hl3
  have hkl : k < ps.length:=by have:=(List.getElem?_eq_some_iff.1 hk).1; omega
  obtain ⟨A,c,rfl,-⟩:=hw k ps[k] l (List.getElem?_eq_getElem hkl) hk
  rfl
 have hp:=own_put ho hv (show i * 4 + 2 < ps.length * 4 by omega) (.int .i64 z)
 rw [flat_set4 2 _ (by decide) vss i l h4 hl2] at hp
 have hk : ∀ {p : PieceM} {l : List Value},WaysOwn w base p l→WaysOwn (w.setCell ⟨g,i * 4 + 2,none⟩ (.int .i64 z)) base p l:=fun ⟨A,c,e,o⟩ => ⟨A,c,e,own_set o (p:=⟨g,i * 4 + 2,none⟩) (by
  rcases own_ne o ho (by decide) with h | h
  ·rw [h]; intro h; cases h
  ·rw [← hv]; exact h) _⟩
 refine ⟨vss.set i (l.set 2 (.int .i64 z)),by rw [List.length_modify]; exact hp,by simp [hl],fun k p m a b => ?_⟩
 rw [List.getElem?_modify] at a
 by_cases hik : i=k
 ·subst hik
  rw [List.getElem?_set_self (by omega)] at b
  injection b with b
  subst b
  rw [List.getElem?_eq_getElem hi] at a
  simp only [if_true,Option.map_eq_map,Option.map_some,Option.some.injEq] at a
  subst a
  obtain ⟨A,c,rfl,o⟩:=hk (hw i _ l (List.getElem?_eq_getElem hi) hl2)
  exact ⟨A,c,rfl,o⟩
 ·rw [List.getElem?_set_ne hik] at b
  exact hk (hw k p m (by simpa [hik] using a) b)
end
end Go.Proofs.YtdoibgmmijhlfaaGreatDoor
namespace Go.Proofs.YtdoibgmmijhlfaaGreatDoor
open Go.RowKit
set_option linter.unusedVariables false
theorem nextL_some {word : BL} {n : Nat} {L l ls : List BL} (h : nextL word n L=some (l,ls)) : l.length=n∧L.length=ls.length + 1∧(∀ x ∈ ls,x ∈ L)∧∀ K,(∀ x ∈ L,x.length≤K)→∀ y ∈ l,y.length≤K:=by
 unfold nextL at h
 cases L with
 | nil => cases h
 | cons x r =>
  simp only at h
  split at h
  ·rename_i hc
   simp only [Option.some.injEq,Prod.mk.injEq] at h
   obtain ⟨rfl,rfl⟩:=h
   exact ⟨by rw [List.length_tail]; omega,rfl,fun y hy => List.mem_cons_of_mem _ hy,fun K hK y hy => Nat.le_trans (splitL_sub 32 x y (List.mem_of_mem_tail hy)) (hK x List.mem_cons_self)⟩
  ·cases h
theorem list3 {α : Type} {l : List α} (h : l.length=3) : ∃ a b c,l=[a,b,c]:=by
 match l,h with
 | [a,b,c],_ => exact ⟨a,b,c,rfl⟩
theorem list4 {α : Type} {l : List α} (h : l.length=4) : ∃ a b c d,l=[a,b,c,d]:=by
 match l,h with
 | [a,b,c,d],_ => exact ⟨a,b,c,d,rfl⟩
theorem list1 {α : Type} {l : List α} (h : l.length=1) : ∃ a,l=[a]:=by
 match l,h with
 | [a],_ => exact ⟨a,rfl⟩
abbrev stP (r0 : RulesM) (L : List BL) (ps : List PieceM) (ts : List BL) (b : Bool) : RdM:=⟨L,{ r0 with pieces:=ps },ts,b⟩
section
variable {r0 : RulesM} {L ls : List BL} {ps : List PieceM} {ts : List BL} {b : Bool} {f : Nat}
theorem piecesL_none (h : nextL wPiece 3 L=none) : piecesL (f + 1) (stP r0 L ps ts b)=(stP r0 L ps ts b,true):=by
 unfold piecesL
 rw [next_of,h]
 rfl
theorem piecesL_bad {x y z : BL} (h : nextL wPiece 3 L=some ([x,y,z],ls)) (hx : letOf x=none) : piecesL (f + 1) (stP r0 L ps ts b)=(stP r0 ls ps ts true,false):=by
 unfold piecesL
 rw [next_of,h]
 simp only [Option.map_some,List.getD_cons_zero,hx,RdM.mark,Bool.or_true]
theorem piecesL_some {x y z : BL} {c : UInt8} (h : nextL wPiece 3 L=some ([x,y,z],ls)) (hx : letOf x=some c) : piecesL (f + 1) (stP r0 L ps ts b)=piecesL f (pushR (waysR (ls.length + 1) (stP r0 ls ps (ts ++ [z]) (b || numBad y)) []).1 c (numV y) (waysR (ls.length + 1) (stP r0 ls ps (ts ++ [z]) (b || numBad y)) []).2):=by
 rw [piecesL,next_of,h]
 simp only [Option.map_some,List.getD_cons_zero,hx,RdM.mark]
 rfl
theorem waysR_none {ws : List WayM} (h : nextL wWay 4 L=none) : waysR (f + 1) (stP r0 L ps ts b) ws=(stP r0 L ps ts b,ws):=by
 unfold waysR
 rw [next_of,h]
 rfl
theorem waysR_some {ws : List WayM} {l : List BL} (h : nextL wWay 4 L=some (l,ls)) : waysR (f + 1) (stP r0 L ps ts b) ws=waysR f (stP r0 ls ps ts (b || wayBad l)) (ws ++ [wayV l]):=by
 rw [waysR,next_of,h]
 rfl
theorem promR_step (i : Nat) (s : BL) (r : List BL) : promR i (s :: r) (stP r0 L ps ts b)=promR (i + 1) r (if s=[45] then stP r0 L ps ts b else stP r0 L (ps.modify i fun p => { p with promote:=max (pieceIx ps s) 0 + 1 }) ts (b || decide (pieceIx ps s < 0))):=by
 rw [promR]
end
theorem letOf_none {s : BL} (h : s.length ≠ 1) : letOf s=none:=by
 unfold letOf
 split
 ·exact absurd rfl h
 ·rfl
theorem letOf_one (b : UInt8) : letOf [b]=if 65≤b.toNat∧b.toNat≤90 then some b else none:=rfl
theorem pieceIx_rng (ps : List PieceM) (s : BL) : -1≤pieceIx ps s∧pieceIx ps s < (ps.length : Int):=by
 unfold pieceIx
 split
 ·exact pieceK_rng ps _
 ·omega
theorem cell_far {w : World} {a p : Addr} {v : Value} (h : w.cell? a=some v) (hne : a.block ≠ p.block) (u : Value) : (w.setCell p u).cell? a=some v :=
 (World.cell?_of_block (Below.heap_setCell w p u a.block hne)).trans h
def W4 (W : World) (b o : Nat) (l0 l1 l2 l3 : BL) : Prop:=W.cell? ⟨b,o,none⟩=some (.string (strU l0))∧W.cell? ⟨b,o + 1,none⟩=some (.string (strU l1))∧W.cell? ⟨b,o + 2,none⟩=some (.string (strU l2))∧W.cell? ⟨b,o + 3,none⟩=some (.string (strU l3))
theorem W4.ext {W W' : World} {b o : Nat} {l0 l1 l2 l3 : BL} (h : W4 W b o l0 l1 l2 l3) (x : Ext W W') : W4 W' b o l0 l1 l2 l3:=⟨Ext.cell x h.1,Ext.cell x h.2.1,Ext.cell x h.2.2.1,Ext.cell x h.2.2.2⟩
theorem W4.grown {W W' : World} {b o : Nat} {l0 l1 l2 l3 : BL} {r : Option Nat} (h : W4 W b o l0 l1 l2 l3) (x : W.grownBy W' r) (hr : r ≠ some b) : W4 W' b o l0 l1 l2 l3:=⟨x.cell h.1 (fun e => hr e.symm),x.cell h.2.1 (fun e => hr e.symm),x.cell h.2.2.1 (fun e => hr e.symm),x.cell h.2.2.2 (fun e => hr e.symm)⟩
theorem W4.far {W : World} {b o : Nat} {l0 l1 l2 l3 : BL} (h : W4 W b o l0 l1 l2 l3) {p : Addr} (hp : b ≠ p.block) (u : Value) : W4 (W.setCell p u) b o l0 l1 l2 l3:=⟨cell_far h.1 hp u,cell_far h.2.1 hp u,cell_far h.2.2.1 hp u,cell_far h.2.2.2 hp u⟩
theorem blk_cells_t {w : World} {g : Nat} {t : TypeId} {vs : List Value} (h : Blk w g t vs.toArray) : CellsAt w (some ⟨g,0,none⟩) vs:=fun i v hi => ⟨g,0,rfl,by
 rw [Nat.zero_add,h.cell]
 simpa using hi⟩
def lenAt (w : World) (g : Nat) : Nat:=match w.cell? ⟨g,0,none⟩ with
 | some (.slice _ n _) => n
 | _ => 0
theorem lenAt_blk {w : World} {g n d : Nat} {B : Option Addr} {t : TypeId} {c1 c2 c3 c4 c5 c6 c7 c8 c9 c10 c11 c12 c13 : Value} (h : Blk w g t #[.slice B n d,c1,c2,c3,c4,c5,c6,c7,c8,c9,c10,c11,c12,c13]) : lenAt w g=n:=by
 unfold lenAt
 rw [h.cell]
 rfl
theorem words_at {w : World} {g c : Nat} {A : Option Addr} {x : BL} {l : List BL} (h : LinesAt w g A c (x :: l)) : ∃ b o,A=some ⟨b,o,none⟩∧b ≠ g∧∀ i y,(x :: l)[i]? = some y→w.cell? ⟨b,o + i,none⟩=some (.string (strU y)):=by
 obtain ⟨b,o,rfl,-⟩:=h.1 0 _ rfl
 refine ⟨b,o,rfl,h.2.2.2 _ rfl,fun i y hy => ?_⟩
 obtain ⟨b',o',e,hc⟩:=h.1 i _ (strsC_get hy)
 injection e with e
 injection e with e1 e2
 subst e1 e2
 exact hc
structure PMem (w : World) (g : Nat) (c1 c2 c3 c5 c6 c7 c8 c9 c10 c11 : Value) (A0 : Option Addr) (L : List BL) (ps : List PieceM) (ts : List BL) (b : Bool) (B : Option Addr) (d : Nat) (pv tv : Value) (W : World) : Prop where
 blk : Blk W g RT #[.slice B L.length d,c1,c2,c3,pv,c5,c6,c7,c8,c9,c10,c11,tv,.bool b]
 lin : LinesAt W g B d L
 low : ∀ a,B=some a→a.block < w.heap.size
 same : ∀ a b,A0=some a→B=some b→b.block=a.block
 prow : PRow W w.heap.size pv ps
 tow : OwnR 9 1 w W tv ts.length (strsC ts)
 fr : Fr [g] w W
 l8 : ∀ s ∈ L,s.length≤8192
 cnt : ps.length + L.length≤8193
structure WMem (w w6 : World) (g PB : Nat) (c1 c2 c3 c5 c6 c7 c8 c9 c10 c11 : Value) (A0 : Option Addr) (n6 : Nat) (pv tv lv hv : Value) (L : List BL) (ws : List WayM) (b : Bool) (B : Option Addr) (d : Nat) (wv : Value) (W : World) : Prop where
 blk : Blk W g RT #[.slice B L.length d,c1,c2,c3,pv,c5,c6,c7,c8,c9,c10,c11,tv,.bool b]
 lin : LinesAt W g B d L
 low : ∀ a,B=some a→a.block < w.heap.size
 same : ∀ a b,A0=some a→B=some b→b.block=a.block
 pb : Blk W PB 57 #[lv,hv,.int .i64 0,wv]
 wow : OwnR 60 4 w6 W wv ws.length (ws.flatMap WayM.vals)
 fr : Fr [g,PB] w6 W
 l8 : ∀ s ∈ L,s.length≤8192
 cnt : ws.length + L.length≤n6
theorem low_of {W : World} {g d : Nat} {B B' : Option Addr} {L : List BL} (h : LinesAt W g B d L) (hL : 0 < L.length) (h8 : ∀ a b,B=some a→B'=some b→b.block=a.block) : ∀ a,B'=some a→∃ a0,B=some a0∧a.block=a0.block:=fun a ha => by
 cases hB : B with
 | none => have:=h.2.2.1 hB; omega
 | some a0 => exact ⟨a0,rfl,h8 a0 a hB ha⟩
section
variable {w : World} {g : Nat} {c1 c2 c3 c5 c6 c7 c8 c9 c10 c11 : Value} {A0 : Option Addr} {L L' : List BL} {ps : List PieceM} {ts : List BL} {b b' : Bool} {B B' : Option Addr} {d d' : Nat} {pv tv : Value} {W W' : World}
theorem PMem.ext (h : PMem w g c1 c2 c3 c5 c6 c7 c8 c9 c10 c11 A0 L ps ts b B d pv tv W) (x : Ext W W') : PMem w g c1 c2 c3 c5 c6 c7 c8 c9 c10 c11 A0 L ps ts b B d pv tv W' :=
 ⟨h.blk.ext x,h.lin.ext x,h.low,h.same,h.prow.ext x,h.tow.ext x,h.fr.ext x,h.l8,h.cnt⟩
theorem PMem.step (h : PMem w g c1 c2 c3 c5 c6 c7 c8 c9 c10 c11 A0 L ps ts b B d pv tv W) (hk : W.grownBy W' (some g)) (hg : g < w.heap.size) (hb : Blk W' g RT #[.slice B' L'.length d',c1,c2,c3,pv,c5,c6,c7,c8,c9,c10,c11,tv,.bool b']) (hl : LinesAt W' g B' d' L') (hlow : ∀ a,B'=some a→∃ a0,B=some a0∧a.block=a0.block) (hL : ∀ s ∈ L',s ∈ L) (hn : L'.length≤L.length) : PMem w g c1 c2 c3 c5 c6 c7 c8 c9 c10 c11 A0 L' ps ts b' B' d' pv tv W':=by
 have hf : Fr [g] W W':=Fr.of_grown hk (fun x e => by cases e; simp)
 refine ⟨hb,hl,fun a ha => ?_,fun a b ha hb => ?_,h.prow.fr hf (fun x hx => ?_),h.tow.fr hf (fun x hx e => ?_),h.fr.trans hf,fun s hs => h.l8 s (hL s hs),by have:=h.cnt; omega⟩
 ·obtain ⟨a0,h1,h2⟩:=hlow a ha
  rw [h2]
  exact h.low a0 h1
 ·obtain ⟨a0,h1,h2⟩:=hlow b hb
  rw [h2]
  exact h.same a a0 ha h1
 ·obtain rfl:=List.mem_singleton.1 hx
  exact ⟨fun e => by have:=(h.prow.lt x e).1; omega,.inl hg⟩
 ·obtain rfl:=List.mem_singleton.1 hx
  have:=(h.tow.lt x e).1
  omega
theorem PMem.mark (h : PMem w g c1 c2 c3 c5 c6 c7 c8 c9 c10 c11 A0 L ps ts b B d pv tv W) (hk : W.grownBy W' (some g)) (hg : g < w.heap.size) (hb : Blk W' g RT #[.slice B L.length d,c1,c2,c3,pv,c5,c6,c7,c8,c9,c10,c11,tv,.bool b']) : PMem w g c1 c2 c3 c5 c6 c7 c8 c9 c10 c11 A0 L ps ts b' B d pv tv W' :=
 h.step hk hg hb (h.lin.kept hk) (fun a ha => ⟨a,ha,rfl⟩) (fun s hs => hs) (Nat.le_refl _)
theorem lines_far {w W : World} {g n d : Nat} {B : Option Addr} {L : List BL} {S : List Nat} {W' : World} (h : LinesAt W g B d L) (hlow : ∀ a,B=some a→a.block < n) (k : Fr S W W') (hS : ∀ x ∈ S,x=g∨n≤x) : LinesAt W' g B d L:=lines_fr h k (fun a ha hx => by
 rcases hS _ hx with e | e
 ·exact h.2.2.2 a ha e
 ·have:=hlow a ha; omega)
theorem PMem.setP (h : PMem w g c1 c2 c3 c5 c6 c7 c8 c9 c10 c11 A0 L ps ts b B d pv tv W) {PB i : Nat} {cs : Array Value} (kp : Blk W PB 57 cs) (hne : pv.ownBlock ≠ some PB) (hPB : w.heap.size≤PB) (hg : g < w.heap.size) (u : Value) : PMem w g c1 c2 c3 c5 c6 c7 c8 c9 c10 c11 A0 L ps ts b B d pv tv (W.setCell ⟨PB,i,none⟩ u):=by
 have hf : Fr [PB] W (W.setCell ⟨PB,i,none⟩ u):=(Fr.refl _ _).set _ (.inl (by simp)) u
 refine ⟨h.blk.fr hf (by simp; omega),lines_far (w:=w) h.lin h.low hf (fun x hx => .inr (by rw [List.mem_singleton.1 hx]; exact hPB)),h.low,h.same,h.prow.fr hf (fun x hx => ?_),h.tow.fr hf (fun x hx e => ?_),h.fr.set _ (.inr hPB) u,h.l8,h.cnt⟩
 ·obtain rfl:=List.mem_singleton.1 hx
  exact ⟨hne,.inr (.inr ⟨_,_,kp,by decide⟩)⟩
 ·obtain rfl:=List.mem_singleton.1 hx
  obtain ⟨A,c,rfl,o⟩:=h.tow
  exact own_blk_ne o kp (by decide) e
theorem PMem.tos (h : PMem w g c1 c2 c3 c5 c6 c7 c8 c9 c10 c11 A0 L ps ts b B d pv tv W) {W1 : World} {v : Value} {x : BL} (o : OwnR 9 1 w W1 v (ts.length + 1) (strsC ts ++ [.string (strU x)])) (gr : W.grownBy W1 tv.ownBlock) (hg : g < w.heap.size) : PMem w g c1 c2 c3 c5 c6 c7 c8 c9 c10 c11 A0 L ps (ts ++ [x]) b B d pv v (W1.setCell ⟨g,12,none⟩ v):=by
 have hlt:=h.tow.lt
 have hf1 : Fr tv.ownBlock.toList W W1:=Fr.of_grown gr (fun x e => by simp [e])
 have hS1 : ∀ x ∈ tv.ownBlock.toList,w.heap.size≤x:=fun x hx => (hlt x (by simpa using hx)).1
 have hf2 : Fr [g] W1 (W1.setCell ⟨g,12,none⟩ v):=(Fr.refl _ _).set _ (.inl (by simp)) v
 obtain ⟨tA,tc,rfl,tw⟩:=h.tow
 refine ⟨blk_put (h.blk.fr hf1 (fun hx => by have:=hS1 _ hx; omega)) rfl,lines_far (w:=w) (lines_far (w:=w) h.lin h.low hf1 (fun x hx => .inr (hS1 x hx))) h.low hf2 (fun x hx => .inl (by simpa using hx)),h.low,h.same,(h.prow.other gr tw (by decide) (by decide)).fr hf2 (fun x hx => ?_),?_,((h.fr.own gr (fun x e => (hlt x e).1)).set _ (.inl (by simp)) v),h.l8,h.cnt⟩
 ·obtain rfl:=List.mem_singleton.1 hx
  exact ⟨fun e => by have:=((h.prow.other gr tw (by decide) (by decide)).lt x e).1; omega,.inl hg⟩
 ·rw [List.length_append,strsC_snoc]
  exact o.fr hf2 (fun x hx e => by
   obtain rfl:=List.mem_singleton.1 hx
   have:=(o.lt x e).1; omega)
theorem PMem.push (h : PMem w g c1 c2 c3 c5 c6 c7 c8 c9 c10 c11 A0 L ps ts b B d pv tv W) {W1 : World} {v : Value} {p : PieceM} {l : List Value} {vss : List (List Value)} (ho : W.ownsRow w.heap.size 57 4 pv ps.length vss.flatten) (hl : vss.length=ps.length) (hw : ∀ (i : Nat) (p : PieceM) (l : List Value),ps[i]? = some p→vss[i]? = some l→WaysOwn W w.heap.size p l)
  (o : OwnR 57 4 w W1 v (ps.length + 1) (vss.flatten ++ l)) (gr : W.grownBy W1 pv.ownBlock) (hp : WaysOwn W w.heap.size p l) (hg : g < w.heap.size) (hc : ps.length + 1 + L.length≤8193) : PMem w g c1 c2 c3 c5 c6 c7 c8 c9 c10 c11 A0 L (ps ++ [p]) ts b B d v tv (W1.setCell ⟨g,4,none⟩ v):=by
 have hlt:=ho.lt
 have hf1 : Fr pv.ownBlock.toList W W1:=Fr.of_grown gr (fun x e => by simp [e])
 have hS1 : ∀ x ∈ pv.ownBlock.toList,w.heap.size≤x:=fun x hx => (hlt x (by simpa using hx)).1
 have hf2 : Fr [g] W1 (W1.setCell ⟨g,4,none⟩ v):=(Fr.refl _ _).set _ (.inl (by simp)) v
 obtain ⟨vA,vc,rfl,o'⟩:=o
 have hpr:=PRow.snoc (w0:=w) ho hl hw gr hp o'
 obtain ⟨tA,tc,rfl,tw⟩:=h.tow
 have hto : W1.ownsRow w.heap.size 9 1 (.slice tA ts.length tc) ts.length (strsC ts)  :=tw.kept gr (own_ne tw ho (by decide))
 refine ⟨blk_put (h.blk.fr hf1 (fun hx => by have:=hS1 _ hx; omega)) rfl,lines_far (w:=w) (lines_far (w:=w) h.lin h.low hf1 (fun x hx => .inr (hS1 x hx))) h.low hf2 (fun x hx => .inl (by simpa using hx)),h.low,h.same,hpr.fr hf2 (fun x hx => ?_),OwnR.fr ⟨tA,tc,rfl,hto⟩ hf2 (fun x hx e => ?_),((h.fr.own gr (fun x e => (hlt x e).1)).set _ (.inl (by simp)) _),h.l8,by rw [List.length_append]; exact hc⟩
 ·obtain rfl:=List.mem_singleton.1 hx
  exact ⟨fun e => by have:=(hpr.lt x e).1; omega,.inl hg⟩
 ·obtain rfl:=List.mem_singleton.1 hx
  have:=(hto.lt x e).1; omega
theorem PMem.ways {w6 : World} {PB n6 : Nat} {lv hv wv : Value} {ws : List WayM} {B6 : Option Addr} {d6 : Nat} {L6 : List BL} {b6 : Bool} {cs : Array Value} (h : PMem w g c1 c2 c3 c5 c6 c7 c8 c9 c10 c11 A0 L6 ps ts b6 B6 d6 pv tv w6) (hm : WMem w w6 g PB c1 c2 c3 c5 c6 c7 c8 c9 c10 c11 A0 n6 pv tv lv hv L ws b B d wv W) (kp : Blk w6 PB 57 cs) (hne : pv.ownBlock ≠ some PB) (hPB : w.heap.size≤PB) (hg : g < w.heap.size) (hc : ps.length + L.length≤8193) : PMem w g c1 c2 c3 c5 c6 c7 c8 c9 c10 c11 A0 L ps ts b B d pv tv W:=by
 refine ⟨hm.blk,hm.lin,hm.low,hm.same,h.prow.fr hm.fr (fun x hx => ?_),h.tow.fr hm.fr (fun x hx e => ?_),h.fr.down hm.fr (fun x hx => ?_),hm.l8,hc⟩
 ·rcases List.mem_cons.1 hx with rfl | hx
  ·exact ⟨fun e => by have:=(h.prow.lt x e).1; omega,.inl hg⟩
  ·obtain rfl:=List.mem_singleton.1 hx
   exact ⟨hne,.inr (.inr ⟨_,_,kp,by decide⟩)⟩
 ·rcases List.mem_cons.1 hx with rfl | hx
  ·have:=(h.tow.lt x e).1; omega
  ·obtain rfl:=List.mem_singleton.1 hx
   obtain ⟨A,c,rfl,o⟩:=h.tow
   exact own_blk_ne o kp (by decide) e
 ·rcases List.mem_cons.1 hx with rfl | hx
  ·exact .inl (by simp)
  ·obtain rfl:=List.mem_singleton.1 hx
   exact .inr hPB
theorem PMem.prom (h : PMem w g c1 c2 c3 c5 c6 c7 c8 c9 c10 c11 A0 L ps ts b B d pv tv W) {pg i : Nat} (hv : pv.ownBlock=some pg) (hi : i < ps.length) (hg : g < w.heap.size) (z : Int) : PMem w g c1 c2 c3 c5 c6 c7 c8 c9 c10 c11 A0 L (ps.modify i fun p => { p with promote:=z }) ts b B d pv tv (W.setCell ⟨pg,i * 4 + 2,none⟩ (.int .i64 z)):=by
 have hlt:=h.prow.lt pg hv
 have hf : Fr [pg] W (W.setCell ⟨pg,i * 4 + 2,none⟩ (.int .i64 z)):=(Fr.refl _ _).set _ (.inl (by simp)) _
 refine ⟨h.blk.fr hf (by simp; omega),lines_far (w:=w) h.lin h.low hf (fun x hx => .inr (by rw [List.mem_singleton.1 hx]; exact hlt.1)),h.low,h.same,h.prow.promote hv hi z,h.tow.fr hf (fun x hx e => ?_),h.fr.set _ (.inr hlt.1) _,h.l8,by rw [List.length_modify]; exact h.cnt⟩
 obtain rfl:=List.mem_singleton.1 hx
 obtain ⟨A,c,rfl,o⟩:=h.tow
 obtain ⟨vss,ho,-⟩:=h.prow
 rcases own_ne o ho (by decide) with h1 | h1
 ·rw [h1] at e; cases e
 ·exact h1 (by rw [hv]; exact e)
theorem WMem.ext {w6 : World} {PB n6 : Nat} {lv hv wv : Value} {ws : List WayM} (h : WMem w w6 g PB c1 c2 c3 c5 c6 c7 c8 c9 c10 c11 A0 n6 pv tv lv hv L ws b B d wv W) (x : Ext W W') : WMem w w6 g PB c1 c2 c3 c5 c6 c7 c8 c9 c10 c11 A0 n6 pv tv lv hv L ws b B d wv W' :=
 ⟨h.blk.ext x,h.lin.ext x,h.low,h.same,h.pb.ext x,h.wow.ext x,h.fr.ext x,h.l8,h.cnt⟩
theorem WMem.mark {w6 : World} {PB n6 : Nat} {lv hv wv : Value} {ws : List WayM} (h : WMem w w6 g PB c1 c2 c3 c5 c6 c7 c8 c9 c10 c11 A0 n6 pv tv lv hv L ws b B d wv W) (hk : W.grownBy W' (some g)) (hg : g < w6.heap.size) (hgp : g ≠ PB) (hb : Blk W' g RT #[.slice B L.length d,c1,c2,c3,pv,c5,c6,c7,c8,c9,c10,c11,tv,.bool b']) : WMem w w6 g PB c1 c2 c3 c5 c6 c7 c8 c9 c10 c11 A0 n6 pv tv lv hv L ws b' B d wv W' :=
 ⟨hb,h.lin.kept hk,h.low,h.same,h.pb.grown hk (fun e => hgp (by injection e with e; exact e.symm)),h.wow.fr (Fr.of_grown (S:=[g]) hk (fun x e => by cases e; simp)) (fun x hx e => by
  obtain rfl:=List.mem_singleton.1 hx
  have:=(h.wow.lt x e).1; omega),h.fr.grown hk (by simp),h.l8,h.cnt⟩
theorem WMem.grow {w6 : World} {PB n6 : Nat} {lv hv wv : Value} {ws : List WayM} (h : WMem w w6 g PB c1 c2 c3 c5 c6 c7 c8 c9 c10 c11 A0 n6 pv tv lv hv L ws b B d wv W) {W1 : World} {v : Value} {x : WayM} (o : OwnR 60 4 w6 W1 v (ws.length + 1) (ws.flatMap WayM.vals ++ x.vals)) (gr : W.grownBy W1 wv.ownBlock) (hg : g < w6.heap.size) (hPB : PB < w6.heap.size) (hgp : g ≠ PB) (hwp : w.heap.size≤PB) (hn : ws.length + 1 + L.length≤n6) : WMem w w6 g PB c1 c2 c3 c5 c6 c7 c8 c9 c10 c11 A0 n6 pv tv lv hv L (ws ++ [x]) b B d v (W1.setCell ⟨PB,3,none⟩ v):=by
 have hlt:=h.wow.lt
 have hf1 : Fr wv.ownBlock.toList W W1:=Fr.of_grown gr (fun x e => by simp [e])
 have hS1 : ∀ x ∈ wv.ownBlock.toList,w6.heap.size≤x:=fun x hx => (hlt x (by simpa using hx)).1
 have hf2 : Fr [PB] W1 (W1.setCell ⟨PB,3,none⟩ v):=(Fr.refl _ _).set _ (.inl (by simp)) v
 refine ⟨(h.blk.fr hf1 (fun hx => by have:=hS1 _ hx; omega)).fr hf2 (by simpa using hgp),lines_far (w:=w) (n:=w.heap.size) (lines_far (w:=w) h.lin h.low hf1 (fun x hx => .inr (by have:=hS1 x hx; omega))) h.low hf2 (fun x hx => .inr (by rw [List.mem_singleton.1 hx]; exact hwp)),h.low,h.same,blk_put (h.pb.fr hf1 (fun hx => by have:=hS1 _ hx; omega)) rfl,?_,(h.fr.own gr (fun x e => (hlt x e).1)).set _ (.inl (by simp)) v,h.l8,by rw [List.length_append]; exact hn⟩
 rw [List.length_append,List.flatMap_append,List.flatMap_cons,List.flatMap_nil,List.append_nil]
 exact o.fr hf2 (fun x hx e => by
  obtain rfl:=List.mem_singleton.1 hx
  have:=(o.lt x e).1; omega)
def okNat : Value→Nat
 | .bool true => 1
 | _ => 0
end
end Go.Proofs.YtdoibgmmijhlfaaGreatDoor
namespace Go.Proofs.YtdoibgmmijhlfaaGreatDoor
open Go.RowKit
set_option linter.unusedVariables false
def runeT (n : Nat) : BL:=if n < 128 then [UInt8.ofNat n] else [UInt8.ofNat (192 + n / 64),UInt8.ofNat (128 + n % 64)]
theorem enc_byte : ∀ x : Fin 256,Utf8.encode (x.val : Int)=strU (runeT x.val):=by decide +kernel
theorem run_byte : ∀ (x : Fin 256) (W : World),(convert 21 9 (.int .i32 (x.val : Int))).run Tryz.prog W=.ok (.string (strU (runeT x.val))) W:=by
 intro x W
 have h : Conv.intToString (x.val : Int)=(pure (.string (strU (runeT x.val))) : Sem Value):=by
  unfold Conv.intToString
  rw [enc_byte x]
 simp [convert,run_underlying Tryz.underlying21,run_underlying Tryz.underlying9,h]
theorem rune_ix (ps : List PieceM) (n : Nat) : pieceIx ps (runeT n)=runeIx ps n:=by
 unfold runeT runeIx
 split
 ·rfl
 ·rfl
theorem putAt_len : ∀ (zs : List Int) (L : List Int) (k : Nat),(putAt L k zs).length=L.length
 | [],L,k => rfl
 | z :: zs,L,k => by rw [putAt,putAt_len zs,List.length_set]
theorem putAt_snoc (z : Int) : ∀ (zs : List Int) (L : List Int) (k : Nat),putAt L k (zs ++ [z])=(putAt L k zs).set (k + zs.length) z
 | [],L,k => rfl
 | a :: zs,L,k => by
  rw [List.cons_append,putAt,putAt_snoc z zs,putAt,List.length_cons]
  congr 1
  omega
theorem must_eq {word : BL} {n : Nat} {x : RdM} {l ls : List BL} {b' : Bool} (h : (nextL word n x.lines=some (l,ls)∧b'=x.bad)∨(nextL word n x.lines=none∧l=List.replicate n []∧ls=x.lines∧b'=true)) : mustR word n x=(l,{ x with lines:=ls,bad:=b' }):=by
 unfold mustR
 rw [next_of]
 rcases h with ⟨h,rfl⟩ | ⟨h,rfl,rfl,rfl⟩
 ·rw [h]
  rfl
 ·rw [h]
  simp [RdM.mark]
abbrev stS (r0 : RulesM) (t0 : List BL) (L : List BL) (ss : List Int) (b : Bool) : RdM:=⟨L,{ r0 with start:=ss },t0,b⟩
theorem rowsL_succ (r0 : RulesM) (t0 L : List BL) (ss : List Int) (b : Bool) (y : Nat) {s : BL} {ls : List BL} {b' : Bool} (h : mustR wRow 1 (stS r0 t0 L ss b)=([s],stS r0 t0 ls ss b')) : rowsL (y + 1) (stS r0 t0 L ss b)=if (s.length : Int)=r0.width then rowsL y (stS r0 t0 ls (putAt ss (y * r0.width.toNat) (s.map (cellV r0.pieces))) (b' || s.any (cellBad r0.pieces))) else stS r0 t0 ls ss true:=by
 rw [rowsL,h]
 simp only [List.getD_cons_zero,RdM.mark,Bool.or_true]
 rfl
structure RMem (w : World) (g : Nat) (cs : Array Value) (A0 : Option Addr) (L : List BL) (B : Option Addr) (d : Nat) (e : TypeId) (sz : Nat) (sv : Value) (n : Nat) (xs : List Value) (W : World) : Prop where
 blk : Blk W g RT cs
 lin : LinesAt W g B d L
 low : ∀ a,B=some a→a.block < w.heap.size
 same : ∀ a b,A0=some a→B=some b→b.block=a.block
 own : OwnR e sz w W sv n xs
 fr : Fr [g] w W
 l8 : ∀ s ∈ L,s.length≤8192
section
variable {w : World} {g : Nat} {cs cs' : Array Value} {A0 : Option Addr} {L L' : List BL} {B B' : Option Addr} {d d' : Nat} {e : TypeId} {sz : Nat} {sv : Value} {n : Nat} {xs : List Value} {W W' : World}
theorem RMem.ext (h : RMem w g cs A0 L B d e sz sv n xs W) (x : Ext W W') : RMem w g cs A0 L B d e sz sv n xs W':=⟨h.blk.ext x,h.lin.ext x,h.low,h.same,h.own.ext x,h.fr.ext x,h.l8⟩
theorem RMem.step (h : RMem w g cs A0 L B d e sz sv n xs W) (hk : W.grownBy W' (some g)) (hg : g < w.heap.size) (hb : Blk W' g RT cs') (hl : LinesAt W' g B' d' L') (hlow : ∀ a,B'=some a→∃ a0,B=some a0∧a.block=a0.block) (hL : ∀ s ∈ L',s ∈ L) : RMem w g cs' A0 L' B' d' e sz sv n xs W':=by
 have hf : Fr [g] W W':=Fr.of_grown hk (fun x e => by cases e; simp)
 refine ⟨hb,hl,fun a ha => ?_,fun a b ha hb => ?_,h.own.fr hf (fun x hx e => ?_),h.fr.trans hf,fun s hs => h.l8 s (hL s hs)⟩
 ·obtain ⟨a0,h1,h2⟩:=hlow a ha
  rw [h2]
  exact h.low a0 h1
 ·obtain ⟨a0,h1,h2⟩:=hlow b hb
  rw [h2]
  exact h.same a a0 ha h1
 ·obtain rfl:=List.mem_singleton.1 hx
  have:=(h.own.lt x e).1
  omega
theorem RMem.mark (h : RMem w g cs A0 L B d e sz sv n xs W) (hk : W.grownBy W' (some g)) (hg : g < w.heap.size) (hb : Blk W' g RT cs') : RMem w g cs' A0 L B d e sz sv n xs W' :=
 h.step hk hg hb (h.lin.kept hk) (fun a ha => ⟨a,ha,rfl⟩) (fun s hs => hs)
theorem RMem.put (h : RMem w g cs A0 L B d e sz sv n xs W) {sg j : Nat} (hv : sv.ownBlock=some sg) (hj : j < n * sz) (hg : g < w.heap.size) (u : Value) : RMem w g cs A0 L B d e sz sv n (xs.set j u) (W.setCell ⟨sg,j,none⟩ u):=by
 have hlt:=h.own.lt sg hv
 have hf : Fr [sg] W (W.setCell ⟨sg,j,none⟩ u):=(Fr.refl _ _).set _ (.inl (by simp)) _
 obtain ⟨A,c,e1,o⟩:=h.own
 exact ⟨h.blk.fr hf (by simp; omega),lines_far (w:=w) h.lin h.low hf (fun x hx => .inr (by rw [List.mem_singleton.1 hx]; exact hlt.1)),h.low,h.same,⟨A,c,e1,own_put (e1 ▸ o) (e1 ▸ hv) hj u⟩,h.fr.set _ (.inr hlt.1) _,h.l8⟩
theorem RMem.grow (h : RMem w g cs A0 L B d e sz sv n xs W) {W1 : World} {v : Value} {i m : Nat} {ys : List Value} (o : OwnR e sz w W1 v m ys) (gr : W.grownBy W1 sv.ownBlock) (hg : g < w.heap.size) (hc : cs.setIfInBounds i v=cs') : RMem w g cs' A0 L B d e sz v m ys (W1.setCell ⟨g,i,none⟩ v):=by
 have hlt:=h.own.lt
 have hf1 : Fr sv.ownBlock.toList W W1:=Fr.of_grown gr (fun x e => by simp [e])
 have hS1 : ∀ x ∈ sv.ownBlock.toList,w.heap.size≤x:=fun x hx => (hlt x (by simpa using hx)).1
 have hf2 : Fr [g] W1 (W1.setCell ⟨g,i,none⟩ v):=(Fr.refl _ _).set _ (.inl (by simp)) v
 refine ⟨blk_put (h.blk.fr hf1 (fun hx => by have:=hS1 _ hx; omega)) hc,lines_far (w:=w) (lines_far (w:=w) h.lin h.low hf1 (fun x hx => .inr (hS1 x hx))) h.low hf2 (fun x hx => .inl (by simpa using hx)),h.low,h.same,o.fr hf2 (fun x hx e => ?_),(h.fr.own gr (fun x e => (hlt x e).1)).set _ (.inl (by simp)) v,h.l8⟩
 obtain rfl:=List.mem_singleton.1 hx
 have:=(o.lt x e).1
 omega
theorem RMem.cellAt {sg cap : Nat} (h : RMem w g cs A0 L B d e sz (.slice (some ⟨sg,0,none⟩) n cap) n xs W) (j : Nat) (hj : j < n * sz) : W.cell? ⟨sg,j,none⟩=xs[j]?∧W.frozen? ⟨sg,j,none⟩=false:=by
 obtain ⟨A,c,e1,o⟩:=h.own
 injection e1 with e1 e2 e3
 subst e1 e3
 exact ⟨o.cellAt j hj,o.frozenAt j⟩
end
end Go.Proofs.YtdoibgmmijhlfaaGreatDoor
namespace Go.Proofs.YtdoibgmmijhlfaaGreatDoor
open Go.RowKit
set_option linter.unusedVariables false
set_option linter.unusedSimpArgs false
theorem rtakes_any (w : World) : Calls Tryz.prog 19 #[] w fun e w' => e=.returned (.agg #[.string (strU wNever),.string (strU wMay),.string (strU wMust)])∧Ext w w':=by
 obtain ⟨xa,k1⟩:=blks1 w #[.string (strU wNever),.string (strU wMay),.string (strU wMust)] 61
 go_enter Tryz.func19,Tryz.ntmps19
 go_wp2
 have hw : ∀ W,W=w.alloc (.cells #[.string (strU wNever),.string (strU wMay),.string (strU wMust)] 61)→Ext w W∧Blk W w.heap.size 61 #[.string (strU wNever),.string (strU wMay),.string (strU wMust)]:=fun W h => by rw [h]; exact ⟨xa,k1⟩
 clear xa k1
 generalize hW : w.alloc _=W
 obtain ⟨xa,k1⟩:=hw W hW.symm
 have r0 : W.cell? ⟨w.heap.size,0,none⟩=some (.string (strU wNever)):=k1.cell 0
 have r1 : W.cell? ⟨w.heap.size,1,none⟩=some (.string (strU wMay)):=k1.cell 1
 have r2 : W.cell? ⟨w.heap.size,2,none⟩=some (.string (strU wMust)):=k1.cell 2
 refine bodyPost_ret (v:=.agg #[.string (strU wNever),.string (strU wMay),.string (strU wMust)]) ?_ rfl ?_
 ·simp [results,Tryz.results19,go_sem,r0,r1,r2]
 ·exact ⟨rfl,xa⟩
theorem rblocks_any (w : World) : Calls Tryz.prog 22 #[] w fun e w' => e=.returned (.agg #[.string (strU wLoses),.string (strU wWins),.string (strU wDraws)])∧Ext w w':=by
 obtain ⟨xa,k1⟩:=blks1 w #[.string (strU wLoses),.string (strU wWins),.string (strU wDraws)] 61
 go_enter Tryz.func22,Tryz.ntmps22
 go_wp2
 have hw : ∀ W,W=w.alloc (.cells #[.string (strU wLoses),.string (strU wWins),.string (strU wDraws)] 61)→Ext w W∧Blk W w.heap.size 61 #[.string (strU wLoses),.string (strU wWins),.string (strU wDraws)]:=fun W h => by rw [h]; exact ⟨xa,k1⟩
 clear xa k1
 generalize hW : w.alloc _=W
 obtain ⟨xa,k1⟩:=hw W hW.symm
 have r0 : W.cell? ⟨w.heap.size,0,none⟩=some (.string (strU wLoses)):=k1.cell 0
 have r1 : W.cell? ⟨w.heap.size,1,none⟩=some (.string (strU wWins)):=k1.cell 1
 have r2 : W.cell? ⟨w.heap.size,2,none⟩=some (.string (strU wDraws)):=k1.cell 2
 refine bodyPost_ret (v:=.agg #[.string (strU wLoses),.string (strU wWins),.string (strU wDraws)]) ?_ rfl ?_
 ·simp [results,Tryz.results22,go_sem,r0,r1,r2]
 ·exact ⟨rfl,xa⟩
end Go.Proofs.YtdoibgmmijhlfaaGreatDoor
namespace Go.Proofs.YtdoibgmmijhlfaaGreatDoor
open Go.Lib
set_option linter.unusedVariables false
abbrev stE (r0 : RulesM) (t0 : List BL) (L : List BL) (es : List EndM) (b : Bool) : RdM:=⟨L,{ r0 with ends:=es },t0,b⟩
section
variable {r0 : RulesM} {t0 L ls : List BL} {l : BL} {es : List EndM} {b : Bool}
theorem endsR_nil (f : Nat) : endsR f (stE r0 t0 [] es b)=stE r0 t0 [] es b:=by
 cases f <;> rfl
theorem endsR_no (f : Nat) (h : ¬ (endPre.isPrefixOf l=true∧b=false)) : endsR f (stE r0 t0 (l :: ls) es b)=stE r0 t0 (l :: ls) es b:=by
 cases f with
 | zero => rfl
 | succ f => rw [endsR]; exact if_neg h
theorem endsR_yes (f : Nat) (h : endPre.isPrefixOf l=true) : endsR (f + 1) (stE r0 t0 (l :: ls) es false)=endsR f (stE r0 t0 ls (es ++ [endV r0.pieces (splitL 32 l)]) (endBad r0.pieces (splitL 32 l))):=by
 rw [endsR]
 exact (if_pos ⟨h,rfl⟩).trans (by simp)
end
structure EndCase (ps : List PieceM) (P : List BL) (k p c : Int) (b : Bool) : Prop where
 val : endV ps P=⟨k,p,c,decide (max (ixW howL (P.getLastD [])) 0=1)⟩
 bad : endBad ps P=(b || decide (ixW howL (P.getLastD []) < 0))
theorem end_line {ps : List PieceM} {P : List BL} (h4 : P.length=4) (h : P.getD 1 []=wLine) : EndCase ps P 0 0 (numV (P.getD 2 [])) (numBad (P.getD 2 [])):=by
 constructor
 ·unfold endV; rw [if_pos ⟨h4,h⟩]
 ·unfold endBad; rw [if_pos ⟨h4,h⟩]
theorem end_reach {ps : List PieceM} {P : List BL} (h4 : P.length=4) (h : P.getD 1 []=wReach) : EndCase ps P 1 (max (pieceIx ps (P.getD 2 [])) 0) 0 (decide (pieceIx ps (P.getD 2 []) < 0)):=by
 have n1 : ¬ (P.length=4∧P.getD 1 []=wLine):=fun x => absurd (h.symm.trans x.2) (by decide)
 constructor
 ·unfold endV; rw [if_neg n1,if_pos ⟨h4,h⟩]
 ·unfold endBad; rw [if_neg n1,if_pos ⟨h4,h⟩]
theorem end_take {ps : List PieceM} {P : List BL} (h5 : P.length=5) (h : P.getD 1 []=wTake) : EndCase ps P 2 (max (pieceIx ps (P.getD 2 [])) 0) (numV (P.getD 3 [])) (decide (pieceIx ps (P.getD 2 []) < 0) || numBad (P.getD 3 [])):=by
 have n4 : ¬ P.length=4:=by omega
 constructor
 ·unfold endV; rw [if_neg (fun x => n4 x.1),if_neg (fun x => n4 x.1),if_pos ⟨h5,h⟩]
 ·unfold endBad; rw [if_neg (fun x => n4 x.1),if_neg (fun x => n4 x.1),if_pos ⟨h5,h⟩]
theorem end_none {ps : List PieceM} {P : List BL} (h1 : ¬ (P.length=4∧P.getD 1 []=wLine)) (h2 : ¬ (P.length=4∧P.getD 1 []=wReach)) (h3 : ¬ (P.length=5∧P.getD 1 []=wTake)) : EndCase ps P 0 0 0 true:=by
 constructor
 ·unfold endV; rw [if_neg h1,if_neg h2,if_neg h3]
 ·unfold endBad; rw [if_neg h1,if_neg h2,if_neg h3]
end Go.Proofs.YtdoibgmmijhlfaaGreatDoor
namespace Go.Proofs.YtdoibgmmijhlfaaGreatDoor
open Go.RowKit
set_option linter.unusedVariables false
set_option linter.unusedSimpArgs false
theorem letT_at {ps : List PieceM} {k : Nat} {p : PieceM} (h : ps[k]? = some p) : letT ps ((k : Int) + 1)=[chU p.letter]:=by
 unfold letT
 rw [if_neg (by omega),show ((k : Int) + 1 - 1).toNat=k by omega,ps_get h]
set_option maxHeartbeats 4000000 in
set_option maxRecDepth 100000 in
theorem letter_any (R : RulesM) (v : Value) (n : Nat) (w : World) (hR : RulesAt w v R) (hL : Lets R.pieces) (hn : n≤R.pieces.length) (h6 : R.pieces.length≤6) :
  Calls Tryz.prog 18 #[v,.int .i64 (n : Int)] w fun e w' => e=.returned (.string (strU (letT R.pieces (n : Int))))∧Ext w w':=by
 obtain ⟨pA,pc,sA,sc,eA,ec,rfl,hp,-⟩:=hR
 obtain ⟨m,hm⟩ : ∃ m,R.pieces.length=m:=⟨_,rfl⟩
 rw [hm] at hn h6 ⊢
 obtain ⟨xa,k1⟩:=blks1 w #[.string R.name,.int .i64 R.width,.int .i64 R.height,.slice pA m pc,.slice sA R.start.length sc,.bool R.falls,.bool R.keeps,.slice eA R.ends.length ec,.int .i64 R.blocked,.int .i64 R.quiet,.int .i64 R.rept] 26
 have XA:=Lib.hid xa
 have HPX:=Lib.hid (hp.ext xa)
 have hc:=k1.cell
 have HM:=Lib.hid hm
 clear xa k1 hp hm
 go_enter Tryz.func18,Tryz.ntmps18
 go_upto_region 1 with fail
 generalize w.alloc _=wA at *
 generalize w.heap.size=B at *
 rcases n with _ | n
 ·rw [show (((0 : Nat) : Int))=0 from rfl]
  go_wp2
  go_ret
  exact ⟨rfl,XA.out⟩
 ·obtain ⟨p,hpk⟩ : ∃ p,R.pieces[n]? = some p:=⟨_,List.getElem?_eq_getElem (by rw [HM.out]; omega)⟩
  have hlt:=hL.in_ n p hpk
  obtain ⟨z,hz⟩:=Int.eq_ofNat_of_zero_le (show 0≤p.letter by omega)
  have hz2 : 65≤z∧z≤90:=by omega
  have HLT:=Lib.hid (show letT R.pieces ((n + 1 : Nat) : Int)=[UInt8.ofNat z] by
   rw [show ((n + 1 : Nat) : Int)=(n : Int) + 1 by omega,letT_at hpk,hz]
   rfl)
  obtain ⟨b,o,wA2,wc,rfl,c0,-,-,-,-⟩:=HPX.out.get hpk
  rw [hz] at c0
  have hcv:=fun W => run_rune ⟨z,by omega⟩ W
  simp only at hcv
  have w32 : IntKind.i32.wrap (z : Int)=(z : Int):=by rw [IntKind.wrap_i32]; omega
  obtain ⟨q,hq⟩ : ∃ q : Int,q=((n + 1 : Nat) : Int):=⟨_,rfl⟩
  have hq0 : (q == 0)=false:=by rw [beq_eq_false_iff_ne]; omega
  have hq1 : IntKind.i64.wrap (q - 1)=(n : Int):=by rw [IntKind.wrap_i64]; omega
  have hnm : n < m:=by omega
  have hnI : (n : Int) < (m : Int):=by omega
  have hn6 : n≤6:=by omega
  rw [← hq]
  clear hlt hz hz2 hpk hL h6 hn hq
  go_wp2
  go_ret
  refine ⟨?_,XA.out⟩
  rw [HLT.out]
  rfl
set_option maxHeartbeats 4000000 in
set_option maxRecDepth 100000 in
theorem rcell_any (R : RulesM) (v : Value) (c : Int) (w : World) (hR : RulesAt w v R) (hL : Lets R.pieces) (h0 : 0≤c) (h1 : c≤2 * (R.pieces.length : Int)) (h6 : R.pieces.length≤6) :
  Calls Tryz.prog 20 #[v,.int .i64 c] w fun e w' => e=.returned (.int .u8 ((cellT R.pieces c).toNat : Int))∧Ext w w':=by
 obtain ⟨pA,pc,sA,sc,eA,ec,rfl,hp,-⟩:=hR
 obtain ⟨m,hm⟩ : ∃ m,R.pieces.length=m:=⟨_,rfl⟩
 rw [hm] at h1 h6 ⊢
 obtain ⟨xa,k1⟩:=blks1 w #[.string R.name,.int .i64 R.width,.int .i64 R.height,.slice pA m pc,.slice sA R.start.length sc,.bool R.falls,.bool R.keeps,.slice eA R.ends.length ec,.int .i64 R.blocked,.int .i64 R.quiet,.int .i64 R.rept] 26
 have XA:=Lib.hid xa
 have HPX:=Lib.hid (hp.ext xa)
 have hc:=k1.cell
 have HM:=Lib.hid hm
 clear xa k1 hp hm
 go_enter Tryz.func20,Tryz.ntmps20
 go_upto_region 1 with fail
 generalize w.alloc _=wA at *
 generalize w.heap.size=B at *
 by_cases h : c=0
 ·subst h
  go_wp2
  go_ret
  exact ⟨rfl,XA.out⟩
 ·have hb : (c == 0)=false:=beq_eq_false_iff_ne.2 h
  obtain ⟨q,hq⟩ : ∃ q : Nat,(c - 1) / 2=(q : Int):=⟨((c - 1) / 2).toNat,by omega⟩
  have hqm : q < m:=by omega
  obtain ⟨p,hpq⟩ : ∃ p,R.pieces[q]? = some p:=⟨_,List.getElem?_eq_getElem (by rw [HM.out]; exact hqm)⟩
  obtain ⟨pb,po,wA2,wc,rfl,c0,-,-,-,-⟩:=HPX.out.get hpq
  have hlt:=hL.in_ q p hpq
  obtain ⟨z,hz⟩:=Int.eq_ofNat_of_zero_le (show 0≤p.letter by omega)
  have hz2 : 65≤z∧z≤90:=by omega
  rw [hz] at c0
  have i1 : IntKind.i64.wrap (c - 1)=c - 1:=by rw [IntKind.wrap_i64]; omega
  have i2 : (c - 1).tdiv 2=(q : Int):=by rw [Int.tdiv_eq_ediv_of_nonneg (by omega)]; exact hq
  have i3 : (q : Int) < (m : Int):=by omega
  have i5 : q≤6:=by omega
  have i6 : IntKind.i64.wrap (q : Int)=(q : Int):=by rw [IntKind.wrap_i64]; omega
  have HZ:=Lib.hid (show cellT R.pieces c=chU ((z : Int) + (if c % 2=0 then 32 else 0)) by
   unfold cellT cellU
   rw [if_neg h,hq,Int.toNat_natCast,List.getD_eq_getElem?_getD,List.getElem?_map,hpq,← hz]
   rfl)
  by_cases hpar : c % 2=0
  ·have i4 : (c - 1).tmod 2=1:=by rw [Int.tmod_eq_emod_of_nonneg (by omega)]; omega
   have u8 : IntKind.u8.wrap ((z : Int) + 32)=(z : Int) + 32:=by rw [IntKind.wrap_u8]; omega
   have HV:=Lib.hid (show ((cellT R.pieces c).toNat : Int)=(z : Int) + 32 by
    rw [HZ.out,if_pos hpar]
    unfold chU
    rw [UInt8.toNat_ofNat']
    omega)
   clear hpar hz hz2 hlt hpq hq h hL h0 h1 h6
   go_wp2
   go_ret
   refine ⟨?_,XA.out⟩
   rw [HV.out]
   rfl
  ·have i4 : (c - 1).tmod 2=0:=by rw [Int.tmod_eq_emod_of_nonneg (by omega)]; omega
   have HV:=Lib.hid (show ((cellT R.pieces c).toNat : Int)=(z : Int) by
    rw [HZ.out,if_neg hpar,Int.add_zero]
    unfold chU
    rw [UInt8.toNat_ofNat']
    omega)
   clear hpar hz hz2 hlt hpq hq h hL h0 h1 h6
   go_wp2
   go_ret
   refine ⟨?_,XA.out⟩
   rw [HV.out]
   rfl
theorem endT_line {ps : List PieceM} {x : EndM} (h : x.kind=0) : lineT (endWs ps x)=[101,110,100,32,108,105,110,101,32] ++ Lib.itoa x.count ++ (32 :: howT x):=by
 unfold endWs
 rw [if_pos h]
 simp [lineT,joinL]
theorem endT_reach {ps : List PieceM} {x : EndM} (h : x.kind=1) : lineT (endWs ps x)=[101,110,100,32,114,101,97,99,104,32] ++ letT ps (x.piece + 1) ++ (32 :: howT x):=by
 unfold endWs
 rw [if_neg (by omega),if_pos h]
 simp [lineT,joinL]
theorem endT_take {ps : List PieceM} {x : EndM} (h0 : x.kind ≠ 0) (h1 : x.kind ≠ 1) : lineT (endWs ps x)=[101,110,100,32,116,97,107,101,32] ++ letT ps (x.piece + 1) ++ [32] ++ Lib.itoa x.count ++ (32 :: howT x):=by
 unfold endWs
 rw [if_neg h0,if_neg h1]
 simp [lineT,joinL]
abbrev endVal (x : EndM) : Value:=.agg #[.int .i64 x.kind,.int .i64 x.piece,.int .i64 x.count,.bool x.loses]
set_option maxHeartbeats 4000000 in
set_option maxRecDepth 100000 in
theorem rend_any (R : RulesM) (v : Value) (x : EndM) (w : World) (hR : RulesAt w v R) (hL : Lets R.pieces) (h6 : R.pieces.length≤6) (hx : EndOk R.pieces.length x) (hw : LibW w) :
  Calls Tryz.prog 21 #[v,endVal x] w fun e w' => e=.returned (.string (strU (lineT (endWs R.pieces x))))∧Ext w w':=by
 have HLT:=Lib.hid (fun W (x : Ext w W) (n : Nat) (hn : n≤R.pieces.length) => letter_any R v n W (hR.ext x) hL hn h6)
 have HIT:=Lib.hid (fun W (x : Ext w W) (n : Int) (h0 : 0≤n) (h1 : n≤1000) => itoa_any n h0 h1 W (hw.ext x))
 obtain ⟨pA,pc,sA,sc,eA,ec,rfl,hp,-⟩:=hR
 obtain ⟨kd,pk,ct,ls⟩:=x
 have HX:=Lib.hid hx
 obtain ⟨xa,k1,k2⟩:=blks2 w #[.string R.name,.int .i64 R.width,.int .i64 R.height,.slice pA R.pieces.length pc,.slice sA R.start.length sc,.bool R.falls,.bool R.keeps,.slice eA R.ends.length ec,.int .i64 R.blocked,.int .i64 R.quiet,.int .i64 R.rept] 26 #[.int .i64 kd,.int .i64 pk,.int .i64 ct,.bool ls] 66
 have XA:=Lib.hid xa
 have KA:=Lib.hid k1
 have KE:=Lib.hid k2
 have hc1:=k1.cell
 have hc2:=k2.cell
 clear xa k1 k2 hp hx hL hw
 go_enter Tryz.func21,Tryz.ntmps21
 go_upto_region 1 with fail
 generalize (w.alloc _).alloc _=wA at *
 obtain ⟨B,hB⟩ : ∃ B,B=w.heap.size:=⟨_,rfl⟩
 rw [← hB] at hc1 hc2 KA KE ⊢
 obtain ⟨C,hC⟩ : ∃ C,C=B + 1:=⟨_,rfl⟩
 rw [← hC] at hc2 KE ⊢
 clear hB hC
 rcases ls with _ | _
 ·have zh : (⟨#[32,119,105,110,115]⟩ : ByteArray).size=5:=rfl
  by_cases hk0 : kd=0
  ·subst hk0
   have hcr:=(HX.out.line rfl).1
   simp only at hcr
   have HIC:=Lib.hid (HIT.out _ XA.out ct (by omega) (by omega))
   have hil : (strU (Lib.itoa ct)).size≤4:=by rw [strU_size]; exact itoa_len (by omega) (by omega)
   have HF:=Lib.hid (show strU (lineT (endWs R.pieces ⟨0,pk,ct,false⟩))=strU [101,110,100,32,108,105,110,101,32] ++ strU (Lib.itoa ct) ++ strU [32,119,105,110,115] by
    rw [endT_line rfl,strU_app,strU_app]
    rfl)
   have za : (⟨#[101,110,100,32,108,105,110,101,32]⟩ : ByteArray).size=9:=rfl
   have q1 : ¬ (9223372036854775807 < 9 + (strU (Lib.itoa ct)).size):=by omega
   have q2 : ¬ (9223372036854775807 < 9 + (strU (Lib.itoa ct)).size + 5):=by omega
   have q3 : ¬ (9223372036854775807 < 9 + ((strU (Lib.itoa ct)).size + 5)):=by omega
   clear hcr hil
   go_wp2_with fail
   refine HIC.out.mono ?_
   rintro e w2 ⟨rfl,x2⟩
   generalize strU (Lib.itoa ct)=S1 at *
   have X2:=Lib.hid (ext_trans XA.out x2)
   clear x2
   go_wp2
   go_ret
   refine ⟨?_,X2.out⟩
   rw [HF.out]
   rfl
  ·have tk0 : (kd == 0)=false:=beq_eq_false_iff_ne.2 hk0
   by_cases hk1 : kd=1
   ·subst hk1
    have hpr:=(HX.out.reach rfl).2
    simp only at hpr
    obtain ⟨q,hq⟩:=Int.eq_ofNat_of_zero_le (show 0≤pk + 1 by omega)
    have HLC:=Lib.hid (HLT.out _ XA.out q (by omega))
    rw [← hq] at HLC
    have wk : IntKind.i64.wrap (pk + 1)=pk + 1:=by rw [IntKind.wrap_i64]; omega
    have hil : (strU (letT R.pieces (pk + 1))).size≤4:=by
     rw [strU_size]
     unfold letT
     split <;> simp
    have HF:=Lib.hid (show strU (lineT (endWs R.pieces ⟨1,pk,ct,false⟩))=strU [101,110,100,32,114,101,97,99,104,32] ++ strU (letT R.pieces (pk + 1)) ++ strU [32,119,105,110,115] by
     rw [endT_reach rfl,strU_app,strU_app]
     rfl)
    have za : (⟨#[101,110,100,32,114,101,97,99,104,32]⟩ : ByteArray).size=10:=rfl
    have q1 : ¬ (9223372036854775807 < 10 + (strU (letT R.pieces (pk + 1))).size):=by omega
    have q2 : ¬ (9223372036854775807 < 10 + (strU (letT R.pieces (pk + 1))).size + 5):=by omega
    have q3 : ¬ (9223372036854775807 < 10 + ((strU (letT R.pieces (pk + 1))).size + 5)):=by omega
    clear hpr hil hk0 hq
    go_wp2_with fail
    refine HLC.out.mono ?_
    rintro e w2 ⟨rfl,x2⟩
    generalize strU (letT R.pieces (pk + 1))=S1 at *
    have X2:=Lib.hid (ext_trans XA.out x2)
    clear x2
    go_wp2
    go_ret
    refine ⟨?_,X2.out⟩
    rw [HF.out]
    rfl
   ·have tk1 : (kd == 1)=false:=beq_eq_false_iff_ne.2 hk1
    have hk2 : kd=2:=by rcases HX.out.kind with h | h | h <;> simp_all
    have hcr:=HX.out.take hk2
    simp only at hcr
    obtain ⟨q,hq⟩:=Int.eq_ofNat_of_zero_le (show 0≤pk + 1 by omega)
    have HLC:=Lib.hid (HLT.out _ (XA.out.drew) q (by omega))
    rw [← hq] at HLC
    have HIC:=Lib.hid (fun W (y : Ext w W) => HIT.out W y ct (by omega) (by omega))
    have wk : IntKind.i64.wrap (pk + 1)=pk + 1:=by rw [IntKind.wrap_i64]; omega
    have hil : (strU (letT R.pieces (pk + 1))).size≤4:=by
     rw [strU_size]
     unfold letT
     split <;> simp
    have hil2 : (strU (Lib.itoa ct)).size≤4:=by rw [strU_size]; exact itoa_len (by omega) (by omega)
    have HF:=Lib.hid (show strU (lineT (endWs R.pieces ⟨kd,pk,ct,false⟩))=strU [101,110,100,32,116,97,107,101,32] ++ strU (letT R.pieces (pk + 1)) ++ strU [32] ++ strU (Lib.itoa ct) ++ strU [32,119,105,110,115] by
     rw [endT_take hk0 hk1,strU_app,strU_app,strU_app,strU_app]
     rfl)
    obtain ⟨S1,hS1⟩ : ∃ S1,S1=strU (letT R.pieces (pk + 1)):=⟨_,rfl⟩
    obtain ⟨S2,hS2⟩ : ∃ S2,S2=strU (Lib.itoa ct):=⟨_,rfl⟩
    rw [← hS1] at hil HF HLC
    rw [← hS2] at hil2 HF HIC
    have za : (⟨#[101,110,100,32,116,97,107,101,32]⟩ : ByteArray).size=9:=rfl
    have zb : (⟨#[32]⟩ : ByteArray).size=1:=rfl
    have q1 : ¬ (9223372036854775807 < 9 + S1.size):=by omega
    have q2 : ¬ (9223372036854775807 < 9 + S1.size + 1):=by omega
    have q2r : ¬ (9223372036854775807 < 9 + (S1.size + 1)):=by omega
    have q3 : ¬ (9223372036854775807 < 9 + S1.size + 1 + S2.size):=by omega
    have q3r : ¬ (9223372036854775807 < 9 + (S1.size + (1 + S2.size))):=by omega
    have q4 : ¬ (9223372036854775807 < 9 + S1.size + 1 + S2.size + 5):=by omega
    have q4r : ¬ (9223372036854775807 < 9 + (S1.size + (1 + (S2.size + 5)))):=by omega
    clear hcr hil hil2 hk0 hk1 hk2 hq hS1 hS2
    go_upto_region 9 with fail
    have keepK:=hide (fun W (h : Ext wA W) => (show (fun W => W.cell? ⟨B,0,none⟩=some (.string R.name)∧W.cell? ⟨B,1,none⟩=some (.int .i64 R.width)∧W.cell? ⟨B,2,none⟩=some (.int .i64 R.height)∧W.cell? ⟨B,3,none⟩=some (.slice pA R.pieces.length pc)∧W.cell? ⟨B,4,none⟩=some (.slice sA R.start.length sc)∧W.cell? ⟨B,5,none⟩=some (.bool R.falls)∧W.cell? ⟨B,6,none⟩=some (.bool R.keeps)∧W.cell? ⟨B,7,none⟩=some (.slice eA R.ends.length ec)∧W.cell? ⟨B,8,none⟩=some (.int .i64 R.blocked)∧W.cell? ⟨B,9,none⟩=some (.int .i64 R.quiet)∧W.cell? ⟨B,10,none⟩=some (.int .i64 R.rept)∧W.cell? ⟨C,0,none⟩=some (.int .i64 kd)∧W.cell? ⟨C,1,none⟩=some (.int .i64 pk)∧W.cell? ⟨C,2,none⟩=some (.int .i64 ct)∧Ext wA W) W from ⟨(KA.out.ext h).cell 0,(KA.out.ext h).cell 1,(KA.out.ext h).cell 2,(KA.out.ext h).cell 3,(KA.out.ext h).cell 4,(KA.out.ext h).cell 5,(KA.out.ext h).cell 6,(KA.out.ext h).cell 7,(KA.out.ext h).cell 8,(KA.out.ext h).cell 9,(KA.out.ext h).cell 10,(KE.out.ext h).cell 0,(KE.out.ext h).cell 1,(KE.out.ext h).cell 2,h⟩))
    have yy : Ext wA wA.drew:=Below.drew (Below.refl _ _)
    refine region_K (fun W => W.cell? ⟨B,0,none⟩=some (.string R.name)∧W.cell? ⟨B,1,none⟩=some (.int .i64 R.width)∧W.cell? ⟨B,2,none⟩=some (.int .i64 R.height)∧W.cell? ⟨B,3,none⟩=some (.slice pA R.pieces.length pc)∧W.cell? ⟨B,4,none⟩=some (.slice sA R.start.length sc)∧W.cell? ⟨B,5,none⟩=some (.bool R.falls)∧W.cell? ⟨B,6,none⟩=some (.bool R.keeps)∧W.cell? ⟨B,7,none⟩=some (.slice eA R.ends.length ec)∧W.cell? ⟨B,8,none⟩=some (.int .i64 R.blocked)∧W.cell? ⟨B,9,none⟩=some (.int .i64 R.quiet)∧W.cell? ⟨B,10,none⟩=some (.int .i64 R.rept)∧W.cell? ⟨C,0,none⟩=some (.int .i64 kd)∧W.cell? ⟨C,1,none⟩=some (.int .i64 pk)∧W.cell? ⟨C,2,none⟩=some (.int .i64 ct)∧Ext wA W) (fun _ => True) [] (by kernel_rfl) ?_
    have hT0:=keepK.out _ yy
    refine tl 0 hT0 (fun _=>trivial) (v:=?_) (fun W hW=>?_) ?_
    rotate_left
    ·obtain ⟨z0,z1,z2,z3,z4,z5,z6,z7,z8,z9,z10,z11,z12,z13,z14⟩:=hW;go_simp;first|done|with_reducible rfl
    refine tk 1 hT0 (fun _=>trivial) ?_
    refine tl 2 hT0 (fun _=>trivial) (v:=?_) (fun W hW=>?_) ?_
    rotate_left
    ·obtain ⟨z0,z1,z2,z3,z4,z5,z6,z7,z8,z9,z10,z11,z12,z13,z14⟩:=hW;go_simp;first|done|with_reducible rfl
    refine tk 3 hT0 (fun _=>trivial) ?_
    refine tk 7 hT0 (fun _=>trivial) ?_
    refine tl 8 hT0 (fun _=>trivial) (v:=?_) (fun W hW=>?_) ?_
    rotate_left
    ·obtain ⟨z0,z1,z2,z3,z4,z5,z6,z7,z8,z9,z10,z11,z12,z13,z14⟩:=hW;go_simp;first|done|with_reducible rfl
    refine tk 11 hT0 (fun _=>trivial) ?_
    refine anyK_on1 4 (by kernel_rfl) ?_
    refine tw 4 (fun K hK=>?_)
    go_simp
    refine (HLC.out).mono ?_
    rintro e w2 ⟨rfl,xx⟩
    try go_wp2_with fail
    replace yy:=ext_trans yy xx
    have hT1:=keepK.out _ yy
    refine hK.out _ _ hT1 (fun _ => trivial) ?_
    clear hK K
    try simp only [Act.put,List.setIfInBounds_toArray,List.set_cons_zero,List.set_cons_succ]
    refine tk 5 hT1 (fun _=>trivial) ?_
    refine tk 6 hT1 (fun _=>trivial) ?_
    refine anyK_on1 9 (by kernel_rfl) ?_
    refine tw 9 (fun K hK=>?_)
    go_simp
    refine (HIC.out _ (ext_trans XA.out yy)).mono ?_
    rintro e w3 ⟨rfl,xx⟩
    try go_wp2_with fail
    replace yy:=ext_trans yy xx
    have hT2:=keepK.out _ yy
    refine hK.out _ _ hT2 (fun _ => trivial) ?_
    clear hK K
    try simp only [Act.put,List.setIfInBounds_toArray,List.set_cons_zero,List.set_cons_succ]
    refine tk 10 hT2 (fun _=>trivial) ?_
    refine tk 12 hT2 (fun _=>trivial) ?_
    refine tk 13 hT2 (fun _=>trivial) ?_
    refine anyK_done (by kernel_rfl) ?_ _
    clear keepK hT0 hT1 hT2
    have X2:=Lib.hid (ext_trans XA.out yy)
    clear yy
    go_wp2
    go_ret
    refine ⟨?_,X2.out⟩
    rw [HF.out]
    rfl
 ·have zh : (⟨#[32,108,111,115,101,115]⟩ : ByteArray).size=6:=rfl
  by_cases hk0 : kd=0
  ·subst hk0
   have hcr:=(HX.out.line rfl).1
   simp only at hcr
   have HIC:=Lib.hid (HIT.out _ XA.out ct (by omega) (by omega))
   have hil : (strU (Lib.itoa ct)).size≤4:=by rw [strU_size]; exact itoa_len (by omega) (by omega)
   have HF:=Lib.hid (show strU (lineT (endWs R.pieces ⟨0,pk,ct,true⟩))=strU [101,110,100,32,108,105,110,101,32] ++ strU (Lib.itoa ct) ++ strU [32,108,111,115,101,115] by
    rw [endT_line rfl,strU_app,strU_app]
    rfl)
   have za : (⟨#[101,110,100,32,108,105,110,101,32]⟩ : ByteArray).size=9:=rfl
   have q1 : ¬ (9223372036854775807 < 9 + (strU (Lib.itoa ct)).size):=by omega
   have q2 : ¬ (9223372036854775807 < 9 + (strU (Lib.itoa ct)).size + 6):=by omega
   have q3 : ¬ (9223372036854775807 < 9 + ((strU (Lib.itoa ct)).size + 6)):=by omega
   clear hcr hil
   go_wp2_with fail
   refine HIC.out.mono ?_
   rintro e w2 ⟨rfl,x2⟩
   generalize strU (Lib.itoa ct)=S1 at *
   have X2:=Lib.hid (ext_trans XA.out x2)
   clear x2
   go_wp2
   go_ret
   refine ⟨?_,X2.out⟩
   rw [HF.out]
   rfl
  ·have tk0 : (kd == 0)=false:=beq_eq_false_iff_ne.2 hk0
   by_cases hk1 : kd=1
   ·subst hk1
    have hpr:=(HX.out.reach rfl).2
    simp only at hpr
    obtain ⟨q,hq⟩:=Int.eq_ofNat_of_zero_le (show 0≤pk + 1 by omega)
    have HLC:=Lib.hid (HLT.out _ XA.out q (by omega))
    rw [← hq] at HLC
    have wk : IntKind.i64.wrap (pk + 1)=pk + 1:=by rw [IntKind.wrap_i64]; omega
    have hil : (strU (letT R.pieces (pk + 1))).size≤4:=by
     rw [strU_size]
     unfold letT
     split <;> simp
    have HF:=Lib.hid (show strU (lineT (endWs R.pieces ⟨1,pk,ct,true⟩))=strU [101,110,100,32,114,101,97,99,104,32] ++ strU (letT R.pieces (pk + 1)) ++ strU [32,108,111,115,101,115] by
     rw [endT_reach rfl,strU_app,strU_app]
     rfl)
    have za : (⟨#[101,110,100,32,114,101,97,99,104,32]⟩ : ByteArray).size=10:=rfl
    have q1 : ¬ (9223372036854775807 < 10 + (strU (letT R.pieces (pk + 1))).size):=by omega
    have q2 : ¬ (9223372036854775807 < 10 + (strU (letT R.pieces (pk + 1))).size + 6):=by omega
    have q3 : ¬ (9223372036854775807 < 10 + ((strU (letT R.pieces (pk + 1))).size + 6)):=by omega
    clear hpr hil hk0 hq
    go_wp2_with fail
    refine HLC.out.mono ?_
    rintro e w2 ⟨rfl,x2⟩
    generalize strU (letT R.pieces (pk + 1))=S1 at *
    have X2:=Lib.hid (ext_trans XA.out x2)
    clear x2
    go_wp2
    go_ret
    refine ⟨?_,X2.out⟩
    rw [HF.out]
    rfl
   ·have tk1 : (kd == 1)=false:=beq_eq_false_iff_ne.2 hk1
    have hk2 : kd=2:=by rcases HX.out.kind with h | h | h <;> simp_all
    have hcr:=HX.out.take hk2
    simp only at hcr
    obtain ⟨q,hq⟩:=Int.eq_ofNat_of_zero_le (show 0≤pk + 1 by omega)
    have HLC:=Lib.hid (HLT.out _ (XA.out.drew) q (by omega))
    rw [← hq] at HLC
    have HIC:=Lib.hid (fun W (y : Ext w W) => HIT.out W y ct (by omega) (by omega))
    have wk : IntKind.i64.wrap (pk + 1)=pk + 1:=by rw [IntKind.wrap_i64]; omega
    have hil : (strU (letT R.pieces (pk + 1))).size≤4:=by
     rw [strU_size]
     unfold letT
     split <;> simp
    have hil2 : (strU (Lib.itoa ct)).size≤4:=by rw [strU_size]; exact itoa_len (by omega) (by omega)
    have HF:=Lib.hid (show strU (lineT (endWs R.pieces ⟨kd,pk,ct,true⟩))=strU [101,110,100,32,116,97,107,101,32] ++ strU (letT R.pieces (pk + 1)) ++ strU [32] ++ strU (Lib.itoa ct) ++ strU [32,108,111,115,101,115] by
     rw [endT_take hk0 hk1,strU_app,strU_app,strU_app,strU_app]
     rfl)
    obtain ⟨S1,hS1⟩ : ∃ S1,S1=strU (letT R.pieces (pk + 1)):=⟨_,rfl⟩
    obtain ⟨S2,hS2⟩ : ∃ S2,S2=strU (Lib.itoa ct):=⟨_,rfl⟩
    rw [← hS1] at hil HF HLC
    rw [← hS2] at hil2 HF HIC
    have za : (⟨#[101,110,100,32,116,97,107,101,32]⟩ : ByteArray).size=9:=rfl
    have zb : (⟨#[32]⟩ : ByteArray).size=1:=rfl
    have q1 : ¬ (9223372036854775807 < 9 + S1.size):=by omega
    have q2 : ¬ (9223372036854775807 < 9 + S1.size + 1):=by omega
    have q2r : ¬ (9223372036854775807 < 9 + (S1.size + 1)):=by omega
    have q3 : ¬ (9223372036854775807 < 9 + S1.size + 1 + S2.size):=by omega
    have q3r : ¬ (9223372036854775807 < 9 + (S1.size + (1 + S2.size))):=by omega
    have q4 : ¬ (9223372036854775807 < 9 + S1.size + 1 + S2.size + 6):=by omega
    have q4r : ¬ (9223372036854775807 < 9 + (S1.size + (1 + (S2.size + 6)))):=by omega
    clear hcr hil hil2 hk0 hk1 hk2 hq hS1 hS2
    go_upto_region 9 with fail
    have keepK:=hide (fun W (h : Ext wA W) => (show (fun W => W.cell? ⟨B,0,none⟩=some (.string R.name)∧W.cell? ⟨B,1,none⟩=some (.int .i64 R.width)∧W.cell? ⟨B,2,none⟩=some (.int .i64 R.height)∧W.cell? ⟨B,3,none⟩=some (.slice pA R.pieces.length pc)∧W.cell? ⟨B,4,none⟩=some (.slice sA R.start.length sc)∧W.cell? ⟨B,5,none⟩=some (.bool R.falls)∧W.cell? ⟨B,6,none⟩=some (.bool R.keeps)∧W.cell? ⟨B,7,none⟩=some (.slice eA R.ends.length ec)∧W.cell? ⟨B,8,none⟩=some (.int .i64 R.blocked)∧W.cell? ⟨B,9,none⟩=some (.int .i64 R.quiet)∧W.cell? ⟨B,10,none⟩=some (.int .i64 R.rept)∧W.cell? ⟨C,0,none⟩=some (.int .i64 kd)∧W.cell? ⟨C,1,none⟩=some (.int .i64 pk)∧W.cell? ⟨C,2,none⟩=some (.int .i64 ct)∧Ext wA W) W from ⟨(KA.out.ext h).cell 0,(KA.out.ext h).cell 1,(KA.out.ext h).cell 2,(KA.out.ext h).cell 3,(KA.out.ext h).cell 4,(KA.out.ext h).cell 5,(KA.out.ext h).cell 6,(KA.out.ext h).cell 7,(KA.out.ext h).cell 8,(KA.out.ext h).cell 9,(KA.out.ext h).cell 10,(KE.out.ext h).cell 0,(KE.out.ext h).cell 1,(KE.out.ext h).cell 2,h⟩))
    have yy : Ext wA wA.drew:=Below.drew (Below.refl _ _)
    refine region_K (fun W => W.cell? ⟨B,0,none⟩=some (.string R.name)∧W.cell? ⟨B,1,none⟩=some (.int .i64 R.width)∧W.cell? ⟨B,2,none⟩=some (.int .i64 R.height)∧W.cell? ⟨B,3,none⟩=some (.slice pA R.pieces.length pc)∧W.cell? ⟨B,4,none⟩=some (.slice sA R.start.length sc)∧W.cell? ⟨B,5,none⟩=some (.bool R.falls)∧W.cell? ⟨B,6,none⟩=some (.bool R.keeps)∧W.cell? ⟨B,7,none⟩=some (.slice eA R.ends.length ec)∧W.cell? ⟨B,8,none⟩=some (.int .i64 R.blocked)∧W.cell? ⟨B,9,none⟩=some (.int .i64 R.quiet)∧W.cell? ⟨B,10,none⟩=some (.int .i64 R.rept)∧W.cell? ⟨C,0,none⟩=some (.int .i64 kd)∧W.cell? ⟨C,1,none⟩=some (.int .i64 pk)∧W.cell? ⟨C,2,none⟩=some (.int .i64 ct)∧Ext wA W) (fun _ => True) [] (by kernel_rfl) ?_
    have hT0:=keepK.out _ yy
    refine tl 0 hT0 (fun _=>trivial) (v:=?_) (fun W hW=>?_) ?_
    rotate_left
    ·obtain ⟨z0,z1,z2,z3,z4,z5,z6,z7,z8,z9,z10,z11,z12,z13,z14⟩:=hW;go_simp;first|done|with_reducible rfl
    refine tk 1 hT0 (fun _=>trivial) ?_
    refine tl 2 hT0 (fun _=>trivial) (v:=?_) (fun W hW=>?_) ?_
    rotate_left
    ·obtain ⟨z0,z1,z2,z3,z4,z5,z6,z7,z8,z9,z10,z11,z12,z13,z14⟩:=hW;go_simp;first|done|with_reducible rfl
    refine tk 3 hT0 (fun _=>trivial) ?_
    refine tk 7 hT0 (fun _=>trivial) ?_
    refine tl 8 hT0 (fun _=>trivial) (v:=?_) (fun W hW=>?_) ?_
    rotate_left
    ·obtain ⟨z0,z1,z2,z3,z4,z5,z6,z7,z8,z9,z10,z11,z12,z13,z14⟩:=hW;go_simp;first|done|with_reducible rfl
    refine tk 11 hT0 (fun _=>trivial) ?_
    refine anyK_on1 4 (by kernel_rfl) ?_
    refine tw 4 (fun K hK=>?_)
    go_simp
    refine (HLC.out).mono ?_
    rintro e w2 ⟨rfl,xx⟩
    try go_wp2_with fail
    replace yy:=ext_trans yy xx
    have hT1:=keepK.out _ yy
    refine hK.out _ _ hT1 (fun _ => trivial) ?_
    clear hK K
    try simp only [Act.put,List.setIfInBounds_toArray,List.set_cons_zero,List.set_cons_succ]
    refine tk 5 hT1 (fun _=>trivial) ?_
    refine tk 6 hT1 (fun _=>trivial) ?_
    refine anyK_on1 9 (by kernel_rfl) ?_
    refine tw 9 (fun K hK=>?_)
    go_simp
    refine (HIC.out _ (ext_trans XA.out yy)).mono ?_
    rintro e w3 ⟨rfl,xx⟩
    try go_wp2_with fail
    replace yy:=ext_trans yy xx
    have hT2:=keepK.out _ yy
    refine hK.out _ _ hT2 (fun _ => trivial) ?_
    clear hK K
    try simp only [Act.put,List.setIfInBounds_toArray,List.set_cons_zero,List.set_cons_succ]
    refine tk 10 hT2 (fun _=>trivial) ?_
    refine tk 12 hT2 (fun _=>trivial) ?_
    refine tk 13 hT2 (fun _=>trivial) ?_
    refine anyK_done (by kernel_rfl) ?_ _
    clear keepK hT0 hT1 hT2
    have X2:=Lib.hid (ext_trans XA.out yy)
    clear yy
    go_wp2
    go_ret
    refine ⟨?_,X2.out⟩
    rw [HF.out]
    rfl
end Go.Proofs.YtdoibgmmijhlfaaGreatDoor
