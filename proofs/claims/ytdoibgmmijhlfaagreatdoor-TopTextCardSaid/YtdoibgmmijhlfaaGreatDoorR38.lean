/- RtW6 -/
import Derived.Test.YtdoibgmmijhlfaaGreatDoorR37
import Derived.Test.YtdoibgmmijhlfaaGreatDoorR01
import Derived.Test.YtdoibgmmijhlfaaGreatDoorR04
namespace Go.Proofs.YtdoibgmmijhlfaaGreatDoor
open Go.RowKit
set_option linter.unusedVariables false
set_option linter.unusedSimpArgs false
theorem kwraps {K : Int} (h : 0≤K∧K≤8193) : IntKind.i64.wrap (2 * K)=2 * K∧IntKind.i64.wrap (2 * K + 2)=2 * K + 2∧IntKind.i64.wrap (2 * K + 1)=2 * K + 1:=by
 refine ⟨?_,?_,?_⟩ <;> (rw [IntKind.wrap_i64]; omega)
theorem runeK_rng (ps : List PieceM) (m : Nat) (h : ps.length≤8193) {K : Int} (hK : K=max (runeIx ps m) 0) : 0≤K∧K≤8193:=by
 have h1:=pieceIx_rng ps (runeT m)
 rw [rune_ix] at h1
 omega
theorem rpiece_rune (g : Nat) (c0 c1 c2 c3 c5 c6 c7 c8 c9 c10 c11 c12 : Value) (bad : Bool) (pA : Option Addr) (pc : Nat) (ps : List PieceM) (m : Nat) (K : Int) (hK : K=max (runeIx ps m) 0) (w : World) (hg : Blk w g RT #[c0,c1,c2,c3,.slice pA ps.length pc,c5,c6,c7,c8,c9,c10,c11,c12,.bool bad]) (hp : PiecesAt w pA ps) (hn : ps.length≤1000000) :
  Calls Tryz.prog 64 #[.pointer (some ⟨g,0,none⟩),.string (strU (runeT m))] w fun e w' => e=.returned (.int .i64 K)∧Blk w' g RT #[c0,c1,c2,c3,.slice pA ps.length pc,c5,c6,c7,c8,c9,c10,c11,c12,.bool (bad || decide (runeIx ps m < 0))]∧w.grownBy w' (some g):=by
 subst hK
 have h:=rpiece_any g c0 c1 c2 c3 c5 c6 c7 c8 c9 c10 c11 c12 bad pA pc ps (runeT m) w hg hp hn
 rwa [rune_ix] at h
theorem cell_low {ps : List PieceM} {ch : UInt8} {x m : Nat} (hx : x=ch.toNat) (h : 97≤x∧x≤122) (hm : m=x - 32) : cellV ps ch=2 * max (runeIx ps m) 0 + 2∧cellBad ps ch=decide (runeIx ps m < 0):=by
 have hne : ¬ ch=46:=fun e => by subst e; rw [hx] at h; exact absurd h.1 (by decide)
 have h1 : 97≤ch.toNat∧ch.toNat≤122:=by rw [← hx]; exact h
 unfold cellV cellBad cellIx
 rw [if_neg hne,if_pos h1,if_pos h1,decide_eq_false hne,← hx,← hm]
 simp
theorem cell_high {ps : List PieceM} {ch : UInt8} {x : Nat} (hx : x=ch.toNat) (h : ¬ (97≤x∧x≤122)) (h46 : x ≠ 46) : cellV ps ch=2 * max (runeIx ps x) 0 + 1∧cellBad ps ch=decide (runeIx ps x < 0):=by
 have hne : ¬ ch=46:=fun e => by subst e; exact h46 hx
 have h1 : ¬ (97≤ch.toNat∧ch.toNat≤122):=by rw [← hx]; exact h
 unfold cellV cellBad cellIx
 rw [if_neg hne,if_neg h1,if_neg h1,decide_eq_false hne,← hx]
 simp
set_option maxHeartbeats 8000000 in
set_option maxRecDepth 100000 in
theorem rrows_any (g : Nat) (c1 c5 c6 c7 c8 c9 c10 c11 c12 : Value) (x : RdM) (wd ht : Nat) (pA : Option Addr) (pc : Nat) (A0 : Option Addr) (c : Nat) (w : World) (hw : LibW w) (hg4 : 4≤g) (hwd : x.r.width=(wd : Int)) (hht : x.r.height=(ht : Int)) (h1 : 1≤wd∧wd≤8) (h2 : 1≤ht∧ht≤8) (hg : Blk w g RT #[.slice A0 x.lines.length c,c1,.int .i64 (wd : Int),.int .i64 (ht : Int),.slice pA x.r.pieces.length pc,c5,c6,c7,c8,c9,c10,c11,c12,.bool x.bad]) (hL : LinesAt w g A0 c x.lines) (hA0 : ∀ a,A0=some a→a.block < w.heap.size) (hs : ∀ s ∈ x.lines,s.length≤8192) (hp : ∀ W,Fr [g] w W→PiecesAt W pA x.r.pieces) (hps : x.r.pieces.length≤8193) :
  Calls Tryz.prog 30 #[.pointer (some ⟨g,0,none⟩)] w fun e w' => ∃ B d sv,e=.returned (.tuple #[])∧LinesAt w' g B d (rowsR x).lines∧(∀ b,B=some b→b.block < w.heap.size)∧Blk w' g RT #[.slice B (rowsR x).lines.length d,c1,.int .i64 (wd : Int),.int .i64 (ht : Int),.slice pA x.r.pieces.length pc,sv,c6,c7,c8,c9,c10,c11,c12,.bool (rowsR x).bad]∧OwnR 3 1 w w' sv (rowsR x).r.start.length ((rowsR x).r.start.map (Value.int .i64))∧(∀ s ∈ (rowsR x).lines,s.length≤8192)∧Fr [g] w w':=by
 obtain ⟨L0,r0,t0,b0⟩:=x
 simp only at hg hL hs hp hps hwd hht
 obtain ⟨ps,hpq⟩ : ∃ ps,ps=r0.pieces:=⟨_,rfl⟩
 obtain ⟨n,hn⟩ : ∃ n,n=wd * ht:=⟨_,rfl⟩
 have hn64 : n≤64:=by
  have : wd * ht≤8 * 8:=Nat.mul_le_mul h1.2 h2.2
  omega
 obtain ⟨RES,hRES⟩ : ∃ R,R=rowsL ht (stS r0 t0 L0 (List.replicate n 0) b0):=⟨_,rfl⟩
 have hrr : rowsR ⟨L0,r0,t0,b0⟩=RES:=by
  have e1 : r0.height.toNat=ht:=by rw [hht,Int.toNat_natCast]
  have e2 : (r0.width * r0.height).toNat=n:=by rw [hwd,hht,← Int.natCast_mul,Int.toNat_natCast,← hn]
  show rowsL r0.height.toNat (stS r0 t0 L0 (List.replicate (r0.width * r0.height).toNat 0) b0)=RES
  rw [hRES,e1,e2]
 rw [hrr]
 rw [← hpq] at hg hp hps ⊢
 have hmw : IntKind.i64.wrap ((wd : Int) * (ht : Int))=(n : Int):=by rw [← Int.natCast_mul,← hn,IntKind.wrap_i64]; omega
 have hmk : ∀ W : World,(Instr.makeSlice 23 (.int .i64 (n : Int)) (.int .i64 (n : Int))).run Tryz.prog W=.ok (.slice (some ⟨W.heap.size,0,none⟩) n n) (W.alloc (.cells (Array.replicate n (Value.int .i64 0)) 3)):=fun W => by
  have h:=makeG n (by omega) W
  rw [show ((List.replicate n (0 : Int)).map (Value.int .i64)).toArray=Array.replicate n (Value.int .i64 0) by simp] at h
  exact h
 have HG:=Lib.hid (show Blk w.drew g RT #[.slice A0 L0.length c,c1,.int .i64 (wd : Int),.int .i64 (ht : Int),.slice pA ps.length pc,c5,c6,c7,c8,c9,c10,c11,c12,.bool b0] from hg)
 have HBA:=Lib.hid (show Blk (w.alloc (.cells (Array.replicate n (Value.int .i64 0)) 3)).drew g RT _ from (hg.alloc _).drew)
 have HBB:=Lib.hid (blk_put (i:=5) (u:=.slice (some ⟨w.heap.size,0,none⟩) n n) HBA.out (cs':=#[.slice A0 L0.length c,c1,.int .i64 (wd : Int),.int .i64 (ht : Int),.slice pA ps.length pc,.slice (some ⟨w.heap.size,0,none⟩) n n,c6,c7,c8,c9,c10,c11,c12,.bool b0]) rfl)
 have HGN:=Lib.hid (Blk.lt hg)
 have HSG0:=Lib.hid (show w.heap.size ≠ g from fun e => by have h1:=HGN.out; omega)
 have HM0:=Lib.hid (show RMem w g #[.slice A0 L0.length c,c1,.int .i64 (wd : Int),.int .i64 (ht : Int),.slice pA ps.length pc,.slice (some ⟨w.heap.size,0,none⟩) n n,c6,c7,c8,c9,c10,c11,c12,.bool b0] A0 L0 A0 c 3 1 (.slice (some ⟨w.heap.size,0,none⟩) n n) n ((List.replicate n (0 : Int)).map (Value.int .i64)) ((w.alloc (.cells (Array.replicate n (Value.int .i64 0)) 3)).drew.setCell ⟨g,5,none⟩ (.slice (some ⟨w.heap.size,0,none⟩) n n)) from by
  have hx : Ext w (w.alloc (.cells (Array.replicate n (Value.int .i64 0)) 3)).drew:=Below.drew (ext_alloc (Below.refl _ _) _)
  have hf2 : Fr [g] (w.alloc (.cells (Array.replicate n (Value.int .i64 0)) 3)).drew ((w.alloc (.cells (Array.replicate n (Value.int .i64 0)) 3)).drew.setCell ⟨g,5,none⟩ (.slice (some ⟨w.heap.size,0,none⟩) n n)):=(Fr.refl _ _).set _ (.inl (by simp)) _
  refine ⟨HBB.out,lines_far (w:=w) (hL.ext hx) hA0 hf2 (fun x hx => .inl (by simpa using hx)),hA0,fun a b h1 h2 => by rw [h1] at h2; cases h2; rfl,?_,(Fr.of_ext hx).trans hf2,hs⟩
  refine OwnR.fr ⟨_,_,rfl,?_⟩ hf2 (fun x hx e => ?_)
  ·have h:=World.ownsRow_lit (base:=w.heap.size) (e:=3) (size:=1) w (Array.replicate n (Value.int .i64 0)) n (Nat.le_refl _) (by simp only [maxLen]; omega) (by simp)
   have h2 : World.ownsRow (w.alloc (.cells (Array.replicate n (Value.int .i64 0)) 3)) w.heap.size 3 1 (.slice (some ⟨w.heap.size,0,none⟩) n n) n ((List.replicate n (0 : Int)).map (Value.int .i64)):=by simpa using h
   exact own_ext h2 (Below.drew (Below.refl _ _))
  ·obtain rfl:=List.mem_singleton.1 hx
   exact HSG0.out (Option.some.inj e))
 have HW:=Lib.hid hw
 have HP:=Lib.hid hp
 have HPS:=Lib.hid hps
 have HG4:=Lib.hid hg4
 have HRES:=Lib.hid hRES
 have HPQ0:=Lib.hid hpq
 have HWD:=Lib.hid hwd
 have HN:=Lib.hid hn
 clear hg hL hA0 hs hp hps hw hg4 hRES hpq hwd hht hrr hn
 go_enter Tryz.func30,Tryz.ntmps30
 go_wp2_with fail
 have keepK:=hide (fun W (h : (World.cell? W ⟨g,2,none⟩=some (Value.int .i64 (wd : Int))∧World.cell? W ⟨g,3,none⟩=some (Value.int .i64 (ht : Int)))) => (show (fun W => W.cell? ⟨g,2,none⟩=some (Value.int .i64 (wd : Int))∧W.cell? ⟨g,3,none⟩=some (Value.int .i64 (ht : Int))∧(World.cell? W ⟨g,2,none⟩=some (Value.int .i64 (wd : Int))∧World.cell? W ⟨g,3,none⟩=some (Value.int .i64 (ht : Int)))) W from ⟨h.1,h.2,h⟩))
 have yy:=And.intro (HG.out.cell 2) (HG.out.cell 3)
 refine region_K (fun W => W.cell? ⟨g,2,none⟩=some (Value.int .i64 (wd : Int))∧W.cell? ⟨g,3,none⟩=some (Value.int .i64 (ht : Int))∧(World.cell? W ⟨g,2,none⟩=some (Value.int .i64 (wd : Int))∧World.cell? W ⟨g,3,none⟩=some (Value.int .i64 (ht : Int)))) (fun _ => True) [] (by kernel_rfl) ?_
 have hT0:=keepK.out _ yy
 refine tk 0 hT0 (fun _=>trivial) ?_
 refine tk 1 hT0 (fun _=>trivial) ?_
 refine tk 2 hT0 (fun _=>trivial) ?_
 refine tk 3 hT0 (fun _=>trivial) ?_
 refine tk 4 hT0 (fun _=>trivial) ?_
 refine tl 5 hT0 (fun _=>trivial) (v:=?_) (fun W hW=>?_) ?_
 rotate_left
 ·obtain ⟨z0,z1,z2⟩:=hW;go_simp;first|done|with_reducible rfl
 refine tk 6 hT0 (fun _=>trivial) ?_
 refine tk 7 hT0 (fun _=>trivial) ?_
 refine tk 8 hT0 (fun _=>trivial) ?_
 refine tk 9 hT0 (fun _=>trivial) ?_
 refine tl 10 hT0 (fun _=>trivial) (v:=?_) (fun W hW=>?_) ?_
 rotate_left
 ·obtain ⟨z0,z1,z2⟩:=hW;go_simp;first|done|with_reducible rfl
 refine tk 11 hT0 (fun _=>trivial) ?_
 refine anyK_on1 12 (by kernel_rfl) ?_
 refine tw 12 (fun K hK=>?_)
 go_simp
 replace yy:=And.intro (Ext.cell (ext_alloc (Below.refl _ _) (.cells (Array.replicate n (Value.int .i64 0)) 3)) yy.1) (Ext.cell (ext_alloc (Below.refl _ _) (.cells (Array.replicate n (Value.int .i64 0)) 3)) yy.2)
 have hT1:=keepK.out _ yy
 refine hK.out _ _ hT1 (fun _ => trivial) ?_
 clear hK K
 try simp only [Act.put,List.setIfInBounds_toArray,List.set_cons_zero,List.set_cons_succ]
 refine tk 13 hT1 (fun _=>trivial) ?_
 refine tk 14 hT1 (fun _=>trivial) ?_
 refine tk 15 hT1 (fun _=>trivial) ?_
 refine anyK_on1 16 (by kernel_rfl) ?_
 refine tw 16 (fun K hK=>?_)
 have zc:=HBA.out.cell
 have zf:=HBA.out.frozen
 go_simp
 clear zc zf
 replace yy:=And.intro (HBB.out.cell 2) (HBB.out.cell 3)
 have hT2:=keepK.out _ yy
 refine hK.out _ _ hT2 (fun _ => trivial) ?_
 clear hK K
 try simp only [Act.put,List.setIfInBounds_toArray,List.set_cons_zero,List.set_cons_succ]
 refine anyK_done (by kernel_rfl) ?_ _
 clear keepK hT0 hT1 hT2
 have HM1:=Lib.hid (show RMem w g #[.slice A0 L0.length c,c1,.int .i64 (wd : Int),.int .i64 (ht : Int),.slice pA ps.length pc,.slice (some ⟨w.heap.size,0,none⟩) n n,c6,c7,c8,c9,c10,c11,c12,.bool b0] A0 L0 A0 c 3 1 (.slice (some ⟨w.heap.size,0,none⟩) n n) n ((List.replicate n (0 : Int)).map (Value.int .i64)) ((w.alloc (.cells (Array.replicate n (Value.int .i64 0)) 3)).setCell ⟨g,5,none⟩ (.slice (some ⟨w.heap.size,0,none⟩) n n)).drew from HM0.out)
 generalize ((w.alloc (.cells (Array.replicate n (Value.int .i64 0)) 3)).setCell ⟨g,5,none⟩ (.slice (some ⟨w.heap.size,0,none⟩) n n)).drew=w1 at *
 obtain ⟨sg,hsg⟩ : ∃ sg,sg=w.heap.size:=⟨_,rfl⟩
 rw [← hsg] at HM1
 have HSG:=Lib.hid (show sg ≠ g from fun e => HSG0.out (by rw [← hsg]; exact e))
 have hc3 : w1.cell? ⟨g,3,none⟩=some (.int .i64 (ht : Int)):=HM1.out.blk.cell 3
 have hwh : IntKind.i64.wrap ((ht : Int) - 1)=(ht : Int) - 1:=by rw [IntKind.wrap_i64]; omega
 clear yy hmk hsg HSG0 HM0 HBA HBB HG
 go_wp2_with fail
 go_loopw [2] (fun yv wr => ∃ (y : Nat) (z : Int) (L : List BL) (ss : List Int) (b : Bool) (B : Option Addr) (d : Nat),yv=.int .i64 z∧z=(y : Int) - 1∧y≤ht∧RMem w g #[.slice B L.length d,c1,.int .i64 (wd : Int),.int .i64 (ht : Int),.slice pA ps.length pc,.slice (some ⟨sg,0,none⟩) n n,c6,c7,c8,c9,c10,c11,c12,.bool b] A0 L B d 3 1 (.slice (some ⟨sg,0,none⟩) n n) n (ss.map (Value.int .i64)) wr∧ss.length=n∧rowsL y (stS r0 t0 L ss b)=RES) (fun yv wr => (RowKit.intOf yv + 1).toNat)
 case atStart => exact ⟨ht,_,L0,_,b0,A0,c,rfl,rfl,Nat.le_refl _,HM1.out,by simp,HRES.out.symm⟩
 case round =>
  obtain ⟨y,z,L,ss,b,B,d,rfl,hz,hyh,hm,hsl,heq⟩:=hrel
  have HM:=Lib.hid hm
  have HSL:=Lib.hid hsl
  clear hc3 HM1 hwh
  rcases y with _ | y
  ·obtain rfl : z=-1:=by omega
   have HFE:=Lib.hid (show RES=stS r0 t0 L ss b from heq.symm)
   clear hm heq hz hyh hsl
   go_wp2_with fail
   (try simp only [Exit.inBlock,Exit.then]); refine bodyPost_end (results_none rfl _ _ _) rfl ?_
   rw [HFE.out]
   exact ⟨B,d,_,rfl,HM.out.lin,HM.out.low,HM.out.blk,by show OwnR _ _ _ _ _ ss.length _; rw [HSL.out]; exact HM.out.own,HM.out.l8,HM.out.fr⟩
  ·obtain rfl : z=(y : Int):=by omega
   have HEQ:=Lib.hid heq
   have HSL:=Lib.hid hsl
   have hy8 : y < 8:=by omega
   have HYH:=Lib.hid hyh
   have HMU:=Lib.hid (must_any wRow 1 g c1 (.int .i64 (wd : Int)) (.int .i64 (ht : Int)) (.slice pA ps.length pc) (.slice (some ⟨sg,0,none⟩) n n) c6 c7 c8 c9 c10 c11 c12 b B d L wr (HW.out.fr hm.fr (by have:=HG4.out; simpa using this)) hm.blk hm.lin hm.l8 (by decide))
   have hyz : decide ((0 : Int)≤(y : Int))=true:=decide_eq_true (by omega)
   clear hm heq hsl hz hyh
   go_wp2_with fail
   refine HMU.out.mono ?_
   rintro e w2 ⟨l,ls,A2,c2',B1,d1,b1,hres,hl1,rfl,hl2,hl3,hbk,hgr,hnew,hlow⟩
   obtain ⟨s,rfl⟩:=list1 hl1
   obtain ⟨qb,qo,rfl,hqg,hq⟩:=words_at hl2
   have hc0 : w2.cell? ⟨qb,qo,none⟩=some (.string (strU s)):=hq 0 _ rfl
   have hk1 : 1≤c2':=hl2.2.1
   have HMR:=Lib.hid (must_eq (x:=stS r0 t0 L ss b) hres)
   have HLE:=Lib.hid (rowsL_succ r0 t0 L ss b y HMR.out)
   have hsub : ∀ x ∈ ls,x ∈ L:=by
    rcases hres with ⟨h,-⟩ | ⟨-,-,rfl,-⟩
    ·exact (nextL_some h).2.2.1
    ·exact fun x hx => hx
   have HM1:=Lib.hid (HM.out.step hgr HGN.out hbk hl3 hlow hsub)
   have HSZ:=Lib.hid (strU_size s)
   have hsz:=strU_size s
   have hc2 : w2.cell? ⟨g,2,none⟩=some (.int .i64 (wd : Int)):=HM1.out.blk.cell 2
   have HQG:=Lib.hid hqg
   clear hl2 hl3 hbk hgr hnew hlow hq hqg hsub hres HMU HM HMR
   by_cases hlen : s.length=wd
   ·have HLEN:=Lib.hid hlen
    have HLX:=Lib.hid (show rowsL y (stS r0 t0 ls (putAt ss (y * wd) (s.map (cellV ps))) (b1 || s.any (cellBad ps)))=RES by
     rw [← HEQ.out,HLE.out,if_pos (by rw [HWD.out,HLEN.out]),HWD.out,Int.toNat_natCast,← HPQ0.out])
    have hs0 : (strU s).size=wd:=by rw [HSZ.out]; exact hlen
    have HS0:=Lib.hid hs0
    have e1 : ((((strU s).size : Nat) : Int) != (wd : Int))=false:=by simp [hs0]
    have e2 : ((wd : Int) != (wd : Int))=false:=by simp
    clear hlen hsz HLE HEQ
    go_wp2_with fail
    go_loopw [50] (fun jv wr => ∃ (j : Nat) (ss' : List Int) (b' : Bool),jv=.int .i64 (j : Int)∧j≤wd∧RMem w g #[.slice B1 ls.length d1,c1,.int .i64 (wd : Int),.int .i64 (ht : Int),.slice pA ps.length pc,.slice (some ⟨sg,0,none⟩) n n,c6,c7,c8,c9,c10,c11,c12,.bool b'] A0 ls B1 d1 3 1 (.slice (some ⟨sg,0,none⟩) n n) n (ss'.map (Value.int .i64)) wr∧ss'=putAt ss (y * wd) ((s.take j).map (cellV ps))∧b'=(b1 || (s.take j).any (cellBad ps))) (fun jv wr => wd - (RowKit.intOf jv).toNat)
    case atStart => exact ⟨0,ss,b1,rfl,Nat.zero_le _,HM1.out,rfl,by simp⟩
    case round =>
     obtain ⟨j,ss',b',rfl,hj,hm,hss,hb2⟩:=hrel
     have HM2:=Lib.hid hm
     have HSS:=Lib.hid hss
     have HBB2:=Lib.hid hb2
     have HSL2:=Lib.hid (show ss'.length=n by rw [hss,putAt_len]; exact HSL.out)
     clear hm hss hb2 hc2 HM1
     by_cases hjw : j < wd
     ·obtain ⟨ch,hch⟩ : ∃ ch,s[j]? = some ch:=⟨_,List.getElem?_eq_getElem (by have:=HLEN.out; omega)⟩
      have HTK:=Lib.hid (show s.take (j + 1)=s.take j ++ [ch] by rw [List.take_add_one,hch]; rfl)
      have HJW:=Lib.hid hjw
      have hib : ∀ h : j < (strU s).size,((strU s)[j]'h).toNat=ch.toNat:=fun h => strU_get hch h
      have hjs : j < (strU s).size:=by rw [HS0.out]; exact hjw
      obtain ⟨x,hx⟩ : ∃ x,x=ch.toNat:=⟨_,rfl⟩
      have HX:=Lib.hid hx
      have hx256 : x < 256:=by rw [hx]; exact ch.toNat_lt
      rw [← hx] at hib
      obtain ⟨a,ha⟩ : ∃ a,a=y * wd:=⟨_,rfl⟩
      obtain ⟨p,hp⟩ : ∃ p,p=a + j:=⟨_,rfl⟩
      have hale : a + wd≤n:=by
       have h1:=HYH.out
       have h2 : (y + 1) * wd≤ht * wd:=Nat.mul_le_mul_right _ h1
       rw [Nat.add_mul,Nat.one_mul,← ha,Nat.mul_comm ht,← HN.out] at h2
       exact h2
      have hpn : p < n:=by omega
      have HPN:=Lib.hid hpn
      have hm1 : IntKind.i64.wrap ((y : Int) * (wd : Int))=(a : Int):=by rw [← Int.natCast_mul,← ha,IntKind.wrap_i64]; omega
      have hm2 : IntKind.i64.wrap ((a : Int) + (j : Int))=(p : Int):=by rw [IntKind.wrap_i64]; omega
      have hpI : (p : Int) < (n : Int):=by omega
      have HPE:=Lib.hid (show p=y * wd + j by rw [hp,ha])
      have hjI : (j : Int) < (wd : Int):=by omega
      have hj8 : j≤8:=by omega
      have hwj : IntKind.i64.wrap ((j : Int) + 1)=(j : Int) + 1:=by rw [IntKind.wrap_i64]; omega
      have hs0:=HS0.out
      clear hch hx ha hp hale hj hjw
      by_cases h46 : x=46
      ·subst h46
       have HCV:=Lib.hid (show cellV ps ch=0∧cellBad ps ch=false from by
        have : ch=46:=by apply UInt8.toNat_inj.1; rw [← HX.out]; rfl
        subst this
        exact ⟨rfl,rfl⟩)
       have HMD:=Lib.hid (HM2.out.ext (Below.drew (Below.refl _ _)))
       have HZC:=Lib.hid (show wr.drew.cell? ⟨sg,p,none⟩=some (.int .i64 (ss'.getD p 0)) from by
        rw [(HMD.out.cellAt p (by have:=HPN.out; omega)).1,List.getElem?_map,List.getD_eq_getElem?_getD,List.getElem?_eq_getElem (show p < ss'.length by have h1:=HPN.out; have h2:=HSL2.out; omega)]
        rfl)
       have HZF:=Lib.hid (HMD.out.cellAt p (by have:=HPN.out; omega)).2
       go_upto_region 16 with fail
       have keepK:=hide (fun W (h : (World.cell? W ⟨g,5,none⟩=some (Value.slice (some ⟨sg,0,none⟩) n n)∧World.cell? W ⟨g,2,none⟩=some (Value.int .i64 (wd : Int)))) => (show (fun W => W.cell? ⟨g,5,none⟩=some (Value.slice (some ⟨sg,0,none⟩) n n)∧W.cell? ⟨g,2,none⟩=some (Value.int .i64 (wd : Int))∧(World.cell? W ⟨g,5,none⟩=some (Value.slice (some ⟨sg,0,none⟩) n n)∧World.cell? W ⟨g,2,none⟩=some (Value.int .i64 (wd : Int)))) W from ⟨h.1,h.2,h⟩))
       have yy:=And.intro (HMD.out.blk.cell 5) (HMD.out.blk.cell 2)
       refine region_K (fun W => W.cell? ⟨g,5,none⟩=some (Value.slice (some ⟨sg,0,none⟩) n n)∧W.cell? ⟨g,2,none⟩=some (Value.int .i64 (wd : Int))∧(World.cell? W ⟨g,5,none⟩=some (Value.slice (some ⟨sg,0,none⟩) n n)∧World.cell? W ⟨g,2,none⟩=some (Value.int .i64 (wd : Int)))) (fun _ => True) [] (by kernel_rfl) ?_
       have hT0:=keepK.out _ yy
       refine tk 0 hT0 (fun _=>trivial) ?_
       refine tk 1 hT0 (fun _=>trivial) ?_
       refine tk 2 hT0 (fun _=>trivial) ?_
       refine tk 3 hT0 (fun _=>trivial) ?_
       refine tl 4 hT0 (fun _=>trivial) (v:=?_) (fun W hW=>?_) ?_
       rotate_left
       ·obtain ⟨z0,z1,z2⟩:=hW;go_simp;first|done|with_reducible rfl
       refine tk 5 hT0 (fun _=>trivial) ?_
       refine tk 6 hT0 (fun _=>trivial) ?_
       refine tk 7 hT0 (fun _=>trivial) ?_
       refine tk 8 hT0 (fun _=>trivial) ?_
       refine tk 9 hT0 (fun _=>trivial) ?_
       refine tl 10 hT0 (fun _=>trivial) (v:=?_) (fun W hW=>?_) ?_
       rotate_left
       ·obtain ⟨z0,z1,z2⟩:=hW;go_simp;first|done|with_reducible rfl
       refine tk 11 hT0 (fun _=>trivial) ?_
       refine tk 12 hT0 (fun _=>trivial) ?_
       refine tk 13 hT0 (fun _=>trivial) ?_
       refine tk 14 hT0 (fun _=>trivial) ?_
       refine tk 15 hT0 (fun _=>trivial) ?_
       refine anyK_on1 16 (by kernel_rfl) ?_
       refine tw 16 (fun K hK=>?_)
       have zc:=HZC.out
       have zf:=HZF.out
       go_simp
       clear zc zf
       have HM9:=Lib.hid (HMD.out.put (sg:=sg) (j:=p) rfl (by have:=HPN.out; omega) HGN.out (.int .i64 (0)))
       replace yy:=And.intro (cell_far (p:=⟨sg,p,none⟩) yy.1 (fun e => HSG.out e.symm) (.int .i64 (0))) (cell_far (p:=⟨sg,p,none⟩) yy.2 (fun e => HSG.out e.symm) (.int .i64 (0)))
       have hT1:=keepK.out _ yy
       refine hK.out _ _ hT1 (fun _ => trivial) ?_
       clear hK K
       try simp only [Act.put,List.setIfInBounds_toArray,List.set_cons_zero,List.set_cons_succ]
       refine anyK_done (by kernel_rfl) ?_ _
       clear keepK hT0 hT1
       have HRS:=Lib.hid (show (ss'.map (Value.int .i64)).set p (.int .i64 (0))=(putAt ss (y * wd) ((s.take (j + 1)).map (cellV ps))).map (Value.int .i64) from by
        rw [HTK.out,List.map_append,List.map_cons,List.map_nil,putAt_snoc,HCV.out.1,HSS.out,List.length_map,List.length_take,Nat.min_eq_left (by have h1:=HJW.out; have h2:=HLEN.out; omega),← HPE.out,List.map_set])
       have HM9b:=Lib.hid (HRS.out ▸ HM9.out)
       have HM10:=Lib.hid (show RMem w g _ A0 ls B1 d1 3 1 _ n _ (wr.setCell ⟨sg,p,none⟩ (.int .i64 (0))).drew from HM9b.out)
       clear HM9 HM9b HRS
       generalize (wr.setCell ⟨sg,p,none⟩ (.int .i64 (0))).drew=w9 at *
       clear yy
       go_wp2_with fail
       refine ⟨⟨j + 1,_,_,by go_num,HJW.out,HM10.out,rfl,?_⟩,?_⟩
       ·rw [HTK.out,List.any_append,← Bool.or_assoc,← HBB2.out]
        simp [HCV.out.2]
       ·have:=HJW.out
        simp [RowKit.intOf]
        omega
      ·have t46 : ((x : Int) == 46)=false:=by rw [beq_eq_false_iff_ne]; omega
       by_cases hlow : 97≤x∧x≤122
       ·have t97 : decide ((97 : Int)≤(x : Int))=true:=decide_eq_true (by omega)
        have t122 : decide ((x : Int)≤122)=true:=decide_eq_true (by omega)
        obtain ⟨m,hm⟩ : ∃ m,m=x - 32:=⟨_,rfl⟩
        have w8 : IntKind.u8.wrap ((x : Int) - 32)=(m : Int):=by rw [IntKind.wrap_u8]; omega
        have w32 : IntKind.i32.wrap (m : Int)=(m : Int):=by rw [IntKind.wrap_i32]; omega
        have hcv:=fun W => run_byte ⟨m,by omega⟩ W
        simp only at hcv
        have HKB:=Lib.hid (cell_low (ps:=ps) HX.out hlow hm)
        obtain ⟨KV,hKV⟩ : ∃ KV,KV=max (runeIx ps m) 0:=⟨_,rfl⟩
        rw [← hKV] at HKB
        have HPC:=Lib.hid (rpiece_rune g (.slice B1 ls.length d1) c1 (.int .i64 (wd : Int)) (.int .i64 (ht : Int)) (.slice (some ⟨sg,0,none⟩) n n) c6 c7 c8 c9 c10 c11 c12 b' pA pc ps m KV hKV wr HM2.out.blk (HP.out wr HM2.out.fr) (Nat.le_trans HPS.out (by decide)))
        obtain ⟨wk1,wk2,-⟩:=kwraps (runeK_rng ps m HPS.out hKV)
        clear hm hKV h46 hlow
        go_wp2_with fail
        refine HPC.out.mono ?_
        rintro e w5 ⟨rfl,hb5,g5⟩
        have HM5:=Lib.hid (HM2.out.mark g5 HGN.out hb5)
        clear hb5 g5
        have HMD:=Lib.hid (HM5.out.ext (Below.drew (Below.refl _ _)))
        have HZC:=Lib.hid (show w5.drew.cell? ⟨sg,p,none⟩=some (.int .i64 (ss'.getD p 0)) from by
         rw [(HMD.out.cellAt p (by have:=HPN.out; omega)).1,List.getElem?_map,List.getD_eq_getElem?_getD,List.getElem?_eq_getElem (show p < ss'.length by have h1:=HPN.out; have h2:=HSL2.out; omega)]
         rfl)
        have HZF:=Lib.hid (HMD.out.cellAt p (by have:=HPN.out; omega)).2
        go_upto_region 16 with fail
        have keepK:=hide (fun W (h : (World.cell? W ⟨g,5,none⟩=some (Value.slice (some ⟨sg,0,none⟩) n n)∧World.cell? W ⟨g,2,none⟩=some (Value.int .i64 (wd : Int)))) => (show (fun W => W.cell? ⟨g,5,none⟩=some (Value.slice (some ⟨sg,0,none⟩) n n)∧W.cell? ⟨g,2,none⟩=some (Value.int .i64 (wd : Int))∧(World.cell? W ⟨g,5,none⟩=some (Value.slice (some ⟨sg,0,none⟩) n n)∧World.cell? W ⟨g,2,none⟩=some (Value.int .i64 (wd : Int)))) W from ⟨h.1,h.2,h⟩))
        have yy:=And.intro (HMD.out.blk.cell 5) (HMD.out.blk.cell 2)
        refine region_K (fun W => W.cell? ⟨g,5,none⟩=some (Value.slice (some ⟨sg,0,none⟩) n n)∧W.cell? ⟨g,2,none⟩=some (Value.int .i64 (wd : Int))∧(World.cell? W ⟨g,5,none⟩=some (Value.slice (some ⟨sg,0,none⟩) n n)∧World.cell? W ⟨g,2,none⟩=some (Value.int .i64 (wd : Int)))) (fun _ => True) [] (by kernel_rfl) ?_
        have hT0:=keepK.out _ yy
        refine tk 0 hT0 (fun _=>trivial) ?_
        refine tk 1 hT0 (fun _=>trivial) ?_
        refine tk 2 hT0 (fun _=>trivial) ?_
        refine tk 3 hT0 (fun _=>trivial) ?_
        refine tl 4 hT0 (fun _=>trivial) (v:=?_) (fun W hW=>?_) ?_
        rotate_left
        ·obtain ⟨z0,z1,z2⟩:=hW;go_simp;first|done|with_reducible rfl
        refine tk 5 hT0 (fun _=>trivial) ?_
        refine tk 6 hT0 (fun _=>trivial) ?_
        refine tk 7 hT0 (fun _=>trivial) ?_
        refine tk 8 hT0 (fun _=>trivial) ?_
        refine tk 9 hT0 (fun _=>trivial) ?_
        refine tl 10 hT0 (fun _=>trivial) (v:=?_) (fun W hW=>?_) ?_
        rotate_left
        ·obtain ⟨z0,z1,z2⟩:=hW;go_simp;first|done|with_reducible rfl
        refine tk 11 hT0 (fun _=>trivial) ?_
        refine tk 12 hT0 (fun _=>trivial) ?_
        refine tk 13 hT0 (fun _=>trivial) ?_
        refine tk 14 hT0 (fun _=>trivial) ?_
        refine tk 15 hT0 (fun _=>trivial) ?_
        refine anyK_on1 16 (by kernel_rfl) ?_
        refine tw 16 (fun K hK=>?_)
        have zc:=HZC.out
        have zf:=HZF.out
        go_simp
        clear zc zf
        have HM9:=Lib.hid (HMD.out.put (sg:=sg) (j:=p) rfl (by have:=HPN.out; omega) HGN.out (.int .i64 (2 * KV + 2)))
        replace yy:=And.intro (cell_far (p:=⟨sg,p,none⟩) yy.1 (fun e => HSG.out e.symm) (.int .i64 (2 * KV + 2))) (cell_far (p:=⟨sg,p,none⟩) yy.2 (fun e => HSG.out e.symm) (.int .i64 (2 * KV + 2)))
        have hT1:=keepK.out _ yy
        refine hK.out _ _ hT1 (fun _ => trivial) ?_
        clear hK K
        try simp only [Act.put,List.setIfInBounds_toArray,List.set_cons_zero,List.set_cons_succ]
        refine anyK_done (by kernel_rfl) ?_ _
        clear keepK hT0 hT1
        have HRS:=Lib.hid (show (ss'.map (Value.int .i64)).set p (.int .i64 (2 * KV + 2))=(putAt ss (y * wd) ((s.take (j + 1)).map (cellV ps))).map (Value.int .i64) from by
         rw [HTK.out,List.map_append,List.map_cons,List.map_nil,putAt_snoc,HKB.out.1,HSS.out,List.length_map,List.length_take,Nat.min_eq_left (by have h1:=HJW.out; have h2:=HLEN.out; omega),← HPE.out,List.map_set])
        have HM9b:=Lib.hid (HRS.out ▸ HM9.out)
        have HM10:=Lib.hid (show RMem w g _ A0 ls B1 d1 3 1 _ n _ (w5.setCell ⟨sg,p,none⟩ (.int .i64 (2 * KV + 2))).drew from HM9b.out)
        clear HM9 HM9b HRS
        generalize (w5.setCell ⟨sg,p,none⟩ (.int .i64 (2 * KV + 2))).drew=w9 at *
        clear yy
        go_wp2_with fail
        refine ⟨⟨j + 1,_,_,by go_num,HJW.out,HM10.out,rfl,?_⟩,?_⟩
        ·rw [HTK.out,List.any_append,← Bool.or_assoc,← HBB2.out]
         simp [HKB.out.2]
        ·have:=HJW.out
         simp [RowKit.intOf]
         omega
       ·have HKB:=Lib.hid (cell_high (ps:=ps) HX.out hlow h46)
        have w32 : IntKind.i32.wrap (x : Int)=(x : Int):=by rw [IntKind.wrap_i32]; omega
        have hcv:=fun W => run_byte ⟨x,hx256⟩ W
        simp only at hcv
        obtain ⟨KV,hKV⟩ : ∃ KV,KV=max (runeIx ps x) 0:=⟨_,rfl⟩
        rw [← hKV] at HKB
        have HPC:=Lib.hid (rpiece_rune g (.slice B1 ls.length d1) c1 (.int .i64 (wd : Int)) (.int .i64 (ht : Int)) (.slice (some ⟨sg,0,none⟩) n n) c6 c7 c8 c9 c10 c11 c12 b' pA pc ps x KV hKV wr HM2.out.blk (HP.out wr HM2.out.fr) (Nat.le_trans HPS.out (by decide)))
        obtain ⟨wk1,-,wk2⟩:=kwraps (runeK_rng ps x HPS.out hKV)
        clear hKV h46
        by_cases h97 : 97≤x
        ·have t97 : decide ((97 : Int)≤(x : Int))=true:=decide_eq_true (by omega)
         have t122 : decide ((x : Int)≤122)=false:=decide_eq_false (by omega)
         clear hlow h97
         go_wp2_with fail
         refine HPC.out.mono ?_
         rintro e w5 ⟨rfl,hb5,g5⟩
         have HM5:=Lib.hid (HM2.out.mark g5 HGN.out hb5)
         clear hb5 g5
         have HMD:=Lib.hid (HM5.out.ext (Below.drew (Below.refl _ _)))
         have HZC:=Lib.hid (show w5.drew.cell? ⟨sg,p,none⟩=some (.int .i64 (ss'.getD p 0)) from by
          rw [(HMD.out.cellAt p (by have:=HPN.out; omega)).1,List.getElem?_map,List.getD_eq_getElem?_getD,List.getElem?_eq_getElem (show p < ss'.length by have h1:=HPN.out; have h2:=HSL2.out; omega)]
          rfl)
         have HZF:=Lib.hid (HMD.out.cellAt p (by have:=HPN.out; omega)).2
         go_upto_region 16 with fail
         have keepK:=hide (fun W (h : (World.cell? W ⟨g,5,none⟩=some (Value.slice (some ⟨sg,0,none⟩) n n)∧World.cell? W ⟨g,2,none⟩=some (Value.int .i64 (wd : Int)))) => (show (fun W => W.cell? ⟨g,5,none⟩=some (Value.slice (some ⟨sg,0,none⟩) n n)∧W.cell? ⟨g,2,none⟩=some (Value.int .i64 (wd : Int))∧(World.cell? W ⟨g,5,none⟩=some (Value.slice (some ⟨sg,0,none⟩) n n)∧World.cell? W ⟨g,2,none⟩=some (Value.int .i64 (wd : Int)))) W from ⟨h.1,h.2,h⟩))
         have yy:=And.intro (HMD.out.blk.cell 5) (HMD.out.blk.cell 2)
         refine region_K (fun W => W.cell? ⟨g,5,none⟩=some (Value.slice (some ⟨sg,0,none⟩) n n)∧W.cell? ⟨g,2,none⟩=some (Value.int .i64 (wd : Int))∧(World.cell? W ⟨g,5,none⟩=some (Value.slice (some ⟨sg,0,none⟩) n n)∧World.cell? W ⟨g,2,none⟩=some (Value.int .i64 (wd : Int)))) (fun _ => True) [] (by kernel_rfl) ?_
         have hT0:=keepK.out _ yy
         refine tk 0 hT0 (fun _=>trivial) ?_
         refine tk 1 hT0 (fun _=>trivial) ?_
         refine tk 2 hT0 (fun _=>trivial) ?_
         refine tk 3 hT0 (fun _=>trivial) ?_
         refine tl 4 hT0 (fun _=>trivial) (v:=?_) (fun W hW=>?_) ?_
         rotate_left
         ·obtain ⟨z0,z1,z2⟩:=hW;go_simp;first|done|with_reducible rfl
         refine tk 5 hT0 (fun _=>trivial) ?_
         refine tk 6 hT0 (fun _=>trivial) ?_
         refine tk 7 hT0 (fun _=>trivial) ?_
         refine tk 8 hT0 (fun _=>trivial) ?_
         refine tk 9 hT0 (fun _=>trivial) ?_
         refine tl 10 hT0 (fun _=>trivial) (v:=?_) (fun W hW=>?_) ?_
         rotate_left
         ·obtain ⟨z0,z1,z2⟩:=hW;go_simp;first|done|with_reducible rfl
         refine tk 11 hT0 (fun _=>trivial) ?_
         refine tk 12 hT0 (fun _=>trivial) ?_
         refine tk 13 hT0 (fun _=>trivial) ?_
         refine tk 14 hT0 (fun _=>trivial) ?_
         refine tk 15 hT0 (fun _=>trivial) ?_
         refine anyK_on1 16 (by kernel_rfl) ?_
         refine tw 16 (fun K hK=>?_)
         have zc:=HZC.out
         have zf:=HZF.out
         go_simp
         clear zc zf
         have HM9:=Lib.hid (HMD.out.put (sg:=sg) (j:=p) rfl (by have:=HPN.out; omega) HGN.out (.int .i64 (2 * KV + 1)))
         replace yy:=And.intro (cell_far (p:=⟨sg,p,none⟩) yy.1 (fun e => HSG.out e.symm) (.int .i64 (2 * KV + 1))) (cell_far (p:=⟨sg,p,none⟩) yy.2 (fun e => HSG.out e.symm) (.int .i64 (2 * KV + 1)))
         have hT1:=keepK.out _ yy
         refine hK.out _ _ hT1 (fun _ => trivial) ?_
         clear hK K
         try simp only [Act.put,List.setIfInBounds_toArray,List.set_cons_zero,List.set_cons_succ]
         refine anyK_done (by kernel_rfl) ?_ _
         clear keepK hT0 hT1
         have HRS:=Lib.hid (show (ss'.map (Value.int .i64)).set p (.int .i64 (2 * KV + 1))=(putAt ss (y * wd) ((s.take (j + 1)).map (cellV ps))).map (Value.int .i64) from by
          rw [HTK.out,List.map_append,List.map_cons,List.map_nil,putAt_snoc,HKB.out.1,HSS.out,List.length_map,List.length_take,Nat.min_eq_left (by have h1:=HJW.out; have h2:=HLEN.out; omega),← HPE.out,List.map_set])
         have HM9b:=Lib.hid (HRS.out ▸ HM9.out)
         have HM10:=Lib.hid (show RMem w g _ A0 ls B1 d1 3 1 _ n _ (w5.setCell ⟨sg,p,none⟩ (.int .i64 (2 * KV + 1))).drew from HM9b.out)
         clear HM9 HM9b HRS
         generalize (w5.setCell ⟨sg,p,none⟩ (.int .i64 (2 * KV + 1))).drew=w9 at *
         clear yy
         go_wp2_with fail
         refine ⟨⟨j + 1,_,_,by go_num,HJW.out,HM10.out,rfl,?_⟩,?_⟩
         ·rw [HTK.out,List.any_append,← Bool.or_assoc,← HBB2.out]
          simp [HKB.out.2]
         ·have:=HJW.out
          simp [RowKit.intOf]
          omega
        ·have t97 : decide ((97 : Int)≤(x : Int))=false:=decide_eq_false (by omega)
         clear hlow h97
         go_wp2_with fail
         refine HPC.out.mono ?_
         rintro e w5 ⟨rfl,hb5,g5⟩
         have HM5:=Lib.hid (HM2.out.mark g5 HGN.out hb5)
         clear hb5 g5
         have HMD:=Lib.hid (HM5.out.ext (Below.drew (Below.refl _ _)))
         have HZC:=Lib.hid (show w5.drew.cell? ⟨sg,p,none⟩=some (.int .i64 (ss'.getD p 0)) from by
          rw [(HMD.out.cellAt p (by have:=HPN.out; omega)).1,List.getElem?_map,List.getD_eq_getElem?_getD,List.getElem?_eq_getElem (show p < ss'.length by have h1:=HPN.out; have h2:=HSL2.out; omega)]
          rfl)
         have HZF:=Lib.hid (HMD.out.cellAt p (by have:=HPN.out; omega)).2
         go_upto_region 16 with fail
         have keepK:=hide (fun W (h : (World.cell? W ⟨g,5,none⟩=some (Value.slice (some ⟨sg,0,none⟩) n n)∧World.cell? W ⟨g,2,none⟩=some (Value.int .i64 (wd : Int)))) => (show (fun W => W.cell? ⟨g,5,none⟩=some (Value.slice (some ⟨sg,0,none⟩) n n)∧W.cell? ⟨g,2,none⟩=some (Value.int .i64 (wd : Int))∧(World.cell? W ⟨g,5,none⟩=some (Value.slice (some ⟨sg,0,none⟩) n n)∧World.cell? W ⟨g,2,none⟩=some (Value.int .i64 (wd : Int)))) W from ⟨h.1,h.2,h⟩))
         have yy:=And.intro (HMD.out.blk.cell 5) (HMD.out.blk.cell 2)
         refine region_K (fun W => W.cell? ⟨g,5,none⟩=some (Value.slice (some ⟨sg,0,none⟩) n n)∧W.cell? ⟨g,2,none⟩=some (Value.int .i64 (wd : Int))∧(World.cell? W ⟨g,5,none⟩=some (Value.slice (some ⟨sg,0,none⟩) n n)∧World.cell? W ⟨g,2,none⟩=some (Value.int .i64 (wd : Int)))) (fun _ => True) [] (by kernel_rfl) ?_
         have hT0:=keepK.out _ yy
         refine tk 0 hT0 (fun _=>trivial) ?_
         refine tk 1 hT0 (fun _=>trivial) ?_
         refine tk 2 hT0 (fun _=>trivial) ?_
         refine tk 3 hT0 (fun _=>trivial) ?_
         refine tl 4 hT0 (fun _=>trivial) (v:=?_) (fun W hW=>?_) ?_
         rotate_left
         ·obtain ⟨z0,z1,z2⟩:=hW;go_simp;first|done|with_reducible rfl
         refine tk 5 hT0 (fun _=>trivial) ?_
         refine tk 6 hT0 (fun _=>trivial) ?_
         refine tk 7 hT0 (fun _=>trivial) ?_
         refine tk 8 hT0 (fun _=>trivial) ?_
         refine tk 9 hT0 (fun _=>trivial) ?_
         refine tl 10 hT0 (fun _=>trivial) (v:=?_) (fun W hW=>?_) ?_
         rotate_left
         ·obtain ⟨z0,z1,z2⟩:=hW;go_simp;first|done|with_reducible rfl
         refine tk 11 hT0 (fun _=>trivial) ?_
         refine tk 12 hT0 (fun _=>trivial) ?_
         refine tk 13 hT0 (fun _=>trivial) ?_
         refine tk 14 hT0 (fun _=>trivial) ?_
         refine tk 15 hT0 (fun _=>trivial) ?_
         refine anyK_on1 16 (by kernel_rfl) ?_
         refine tw 16 (fun K hK=>?_)
         have zc:=HZC.out
         have zf:=HZF.out
         go_simp
         clear zc zf
         have HM9:=Lib.hid (HMD.out.put (sg:=sg) (j:=p) rfl (by have:=HPN.out; omega) HGN.out (.int .i64 (2 * KV + 1)))
         replace yy:=And.intro (cell_far (p:=⟨sg,p,none⟩) yy.1 (fun e => HSG.out e.symm) (.int .i64 (2 * KV + 1))) (cell_far (p:=⟨sg,p,none⟩) yy.2 (fun e => HSG.out e.symm) (.int .i64 (2 * KV + 1)))
         have hT1:=keepK.out _ yy
         refine hK.out _ _ hT1 (fun _ => trivial) ?_
         clear hK K
         try simp only [Act.put,List.setIfInBounds_toArray,List.set_cons_zero,List.set_cons_succ]
         refine anyK_done (by kernel_rfl) ?_ _
         clear keepK hT0 hT1
         have HRS:=Lib.hid (show (ss'.map (Value.int .i64)).set p (.int .i64 (2 * KV + 1))=(putAt ss (y * wd) ((s.take (j + 1)).map (cellV ps))).map (Value.int .i64) from by
          rw [HTK.out,List.map_append,List.map_cons,List.map_nil,putAt_snoc,HKB.out.1,HSS.out,List.length_map,List.length_take,Nat.min_eq_left (by have h1:=HJW.out; have h2:=HLEN.out; omega),← HPE.out,List.map_set])
         have HM9b:=Lib.hid (HRS.out ▸ HM9.out)
         have HM10:=Lib.hid (show RMem w g _ A0 ls B1 d1 3 1 _ n _ (w5.setCell ⟨sg,p,none⟩ (.int .i64 (2 * KV + 1))).drew from HM9b.out)
         clear HM9 HM9b HRS
         generalize (w5.setCell ⟨sg,p,none⟩ (.int .i64 (2 * KV + 1))).drew=w9 at *
         clear yy
         go_wp2_with fail
         refine ⟨⟨j + 1,_,_,by go_num,HJW.out,HM10.out,rfl,?_⟩,?_⟩
         ·rw [HTK.out,List.any_append,← Bool.or_assoc,← HBB2.out]
          simp [HKB.out.2]
         ·have:=HJW.out
          simp [RowKit.intOf]
          omega
     ·obtain rfl : wd=j:=by omega
      have HFE:=Lib.hid (show s.take wd=s from List.take_of_length_le (by rw [HLEN.out]; exact Nat.le_refl _))
      clear hj hjw
      go_wp2_with fail
      refine ⟨⟨y,_,ls,ss',b',B1,d1,rfl,rfl,by have:=HYH.out; omega,HM2.out,HSL2.out,?_⟩,?_⟩
      ·rw [HSS.out,HBB2.out,HFE.out]
       exact HLX.out
      ·simp [RowKit.intOf]
   ·have HLX:=Lib.hid (show RES=stS r0 t0 ls ss true by
     rw [← HEQ.out,HLE.out,if_neg (by rw [HWD.out]; omega)])
    have e1 : ((((strU s).size : Nat) : Int) != (wd : Int))=true:=by rw [HSZ.out]; simp; omega
    have e2 : ((s.length : Int) != (wd : Int))=true:=by simp; omega
    have hf:=HM1.out.blk.frozen
    have hcc:=HM1.out.blk.cell
    have HMX:=Lib.hid (HM1.out.mark (W':=w2.setCell ⟨g,13,none⟩ (.bool true)) (grown_set (grown_of_ext (Below.refl _ _) (some g)) 13 (.bool true)) HGN.out (blk_put (i:=13) (u:=.bool true) HM1.out.blk rfl))
    clear hlen hsz HLE HEQ HM1
    go_wp2_with fail
    (try simp only [Exit.inBlock,Exit.then]); refine bodyPost_ret (results_none rfl _ _ _) rfl ?_
    rw [HLX.out]
    exact ⟨B1,d1,_,rfl,HMX.out.lin,HMX.out.low,HMX.out.blk,by show OwnR _ _ _ _ _ ss.length _; rw [HSL.out]; exact HMX.out.own,HMX.out.l8,HMX.out.fr⟩
end Go.Proofs.YtdoibgmmijhlfaaGreatDoor
