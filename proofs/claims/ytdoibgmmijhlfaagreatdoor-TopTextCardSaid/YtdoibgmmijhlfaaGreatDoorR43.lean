/- RtM -/
import Derived.Test.YtdoibgmmijhlfaaGreatDoorR42
import Derived.Test.YtdoibgmmijhlfaaGreatDoorR39
namespace Go.Proofs.YtdoibgmmijhlfaaGreatDoor
open Go.RowKit
set_option linter.unusedVariables false
theorem mustR_form (word : BL) (n : Nat) (x : RdM) : (mustR word n x).2={ x with lines:=(mustR word n x).2.lines,bad:=(mustR word n x).2.bad }:=by
 unfold mustR
 rw [next_of]
 cases nextL word n x.lines with
 | none => simp [RdM.mark]
 | some p => rfl
theorem mustR_len (word : BL) (n : Nat) (x : RdM) : (mustR word n x).2.lines.length≤x.lines.length∧(∀ s ∈ (mustR word n x).2.lines,s ∈ x.lines)∧∀ K,(∀ s ∈ x.lines,s.length≤K)→∀ y ∈ (mustR word n x).1,y.length≤K:=by
 unfold mustR
 rw [next_of]
 cases h : nextL word n x.lines with
 | none => exact ⟨Nat.le_refl _,fun s hs => hs,fun K hK y hy => by
   obtain rfl:=List.eq_of_mem_replicate hy
   simp⟩
 | some p =>
  obtain ⟨l,ls⟩:=p
  obtain ⟨h1,h2,h3,h4⟩:=nextL_some h
  exact ⟨by show ls.length≤_; omega,h3,h4⟩
theorem rowsL_form : ∀ (y : Nat) (x : RdM),rowsL y x={ x with lines:=(rowsL y x).lines,bad:=(rowsL y x).bad,r:={ x.r with start:=(rowsL y x).r.start } }∧(rowsL y x).lines.length≤x.lines.length∧∀ s ∈ (rowsL y x).lines,s ∈ x.lines
 | 0,x => ⟨rfl,Nat.le_refl _,fun s hs => hs⟩
 | y + 1,x => by
  have hf:=mustR_form wRow 1 x
  have hl:=mustR_len wRow 1 x
  rw [rowsL]
  simp only
  split
  ·have ih:=rowsL_form y (rowR (mustR wRow 1 x).2 y ((mustR wRow 1 x).1.getD 0 []))
   refine ⟨?_,Nat.le_trans ih.2.1 hl.1,fun s hs => hl.2.1 s (ih.2.2 s hs)⟩
   rw [ih.1]
   simp only [rowR]
   rw [hf]
  ·refine ⟨?_,hl.1,hl.2.1⟩
   simp only [RdM.mark]
   rw [hf]
theorem rowsR_form (x : RdM) : rowsR x={ x with lines:=(rowsR x).lines,bad:=(rowsR x).bad,r:={ x.r with start:=(rowsR x).r.start } }∧(rowsR x).lines.length≤x.lines.length∧∀ s ∈ (rowsR x).lines,s ∈ x.lines:=by
 have h:=rowsL_form x.r.height.toNat { x with r:={ x.r with start:=List.replicate (x.r.width * x.r.height).toNat 0 } }
 unfold rowsR
 exact ⟨h.1,h.2⟩
theorem endsR_form : ∀ (f : Nat) (x : RdM),endsR f x={ x with lines:=(endsR f x).lines,bad:=(endsR f x).bad,r:={ x.r with ends:=(endsR f x).r.ends } }∧(endsR f x).lines.length≤x.lines.length∧∀ s ∈ (endsR f x).lines,s ∈ x.lines
 | 0,x => ⟨rfl,Nat.le_refl _,fun s hs => hs⟩
 | f + 1,x => by
  obtain ⟨L,r,t,b⟩:=x
  cases L with
  | nil => exact ⟨rfl,Nat.le_refl _,fun s hs => hs⟩
  | cons l ls =>
   rw [endsR]
   simp only
   split
   ·have ih:=endsR_form f ⟨ls,{ r with ends:=r.ends ++ [endV r.pieces (splitL 32 l)] },t,b || endBad r.pieces (splitL 32 l)⟩
    refine ⟨?_,Nat.le_succ_of_le ih.2.1,fun s hs => List.mem_cons_of_mem _ (ih.2.2 s hs)⟩
    rw [ih.1]
   ·exact ⟨rfl,Nat.le_refl _,fun s hs => hs⟩
theorem flag_next (w : BL) (x : RdM) : (nextL w 0 x.lines=none∧flagR w x=(false,x))∨∃ l ls,nextL w 0 x.lines=some (l,ls)∧flagR w x=(true,{ x with lines:=ls }):=by
 unfold flagR
 rw [next_of]
 cases h : nextL w 0 x.lines with
 | none => exact .inl ⟨rfl,rfl⟩
 | some p => exact .inr ⟨p.1,p.2,rfl,rfl⟩
theorem PRow.base {w : World} {b b' : Nat} {v : Value} {ps : List PieceM} (h : PRow w b v ps) (hb : b'≤b) : PRow w b' v ps:=by
 obtain ⟨vss,ho,hl,hw⟩:=h
 exact ⟨vss,own_mono ho hb,hl,fun i p l a c => by
  obtain ⟨A,k,e,o⟩:=hw i p l a c
  exact ⟨A,k,e,own_mono o hb⟩⟩
abbrev rdCells (x : RdM) (B : Option Addr) (d : Nat) (pv sv ev tv : Value) : Array Value:=#[.slice B x.lines.length d,.string x.r.name,.int .i64 x.r.width,.int .i64 x.r.height,pv,sv,.bool x.r.falls,.bool x.r.keeps,ev,.int .i64 x.r.blocked,.int .i64 x.r.quiet,.int .i64 x.r.rept,tv,.bool x.bad]
structure RdAt (wb : World) (g : Nat) (x : RdM) (W : World) (B : Option Addr) (d : Nat) (pv sv ev tv : Value) : Prop where
 blk : Blk W g RT (rdCells x B d pv sv ev tv)
 lin : LinesAt W g B d x.lines
 low : ∀ a,B=some a→a.block < W.heap.size
 prow : PRow W wb.heap.size pv x.r.pieces
 sow : OwnR 3 1 wb W sv x.r.start.length (x.r.start.map (Value.int .i64))
 eow : OwnR 66 4 wb W ev x.r.ends.length (x.r.ends.flatMap EndM.vals)
 gl : g < wb.heap.size
 fr : Fr [g] wb W
 l8 : ∀ s ∈ x.lines,s.length≤8192
 cnt : x.lines.length≤8193
 pcs : x.r.pieces.length≤8193
section
variable {wb : World} {g : Nat} {x x' : RdM} {W W' : World} {B B' : Option Addr} {d d' : Nat} {pv sv ev tv : Value}
theorem RdAt.step (h : RdAt wb g x W B d pv sv ev tv) (f : Fr [g] W W') (hb : Blk W' g RT (rdCells x' B' d' pv sv ev tv)) (hl : LinesAt W' g B' d' x'.lines) (hlow : ∀ a,B'=some a→a.block < W'.heap.size) (hL : ∀ s ∈ x'.lines,s ∈ x.lines) (hn : x'.lines.length≤x.lines.length)
  (e1 : x'.r.pieces=x.r.pieces) (e2 : x'.r.start=x.r.start) (e3 : x'.r.ends=x.r.ends) : RdAt wb g x' W' B' d' pv sv ev tv:=by
 have hg:=h.gl
 refine ⟨hb,hl,hlow,e1 ▸ h.prow.fr f (fun y hy => ?_),e2 ▸ h.sow.fr f (fun y hy e => ?_),e3 ▸ h.eow.fr f (fun y hy e => ?_),hg,h.fr.trans f,fun s hs => h.l8 s (hL s hs),Nat.le_trans hn h.cnt,by rw [e1]; exact h.pcs⟩
 ·obtain rfl:=List.mem_singleton.1 hy
  exact ⟨fun e => by have:=(h.prow.lt y e).1; omega,.inl hg⟩
 ·obtain rfl:=List.mem_singleton.1 hy
  have:=(h.sow.lt y e).1; omega
 ·obtain rfl:=List.mem_singleton.1 hy
  have:=(h.eow.lt y e).1; omega
theorem RdAt.ext (h : RdAt wb g x W B d pv sv ev tv) (y : Ext W W') : RdAt wb g x W' B d pv sv ev tv :=
 h.step (.of_ext y) (h.blk.ext y) (h.lin.ext y) (fun a ha => Nat.lt_of_lt_of_le (h.low a ha) y.size) (fun s hs => hs) (Nat.le_refl _) rfl rfl rfl
theorem RdAt.put (h : RdAt wb g x W B d pv sv ev tv) (i : Nat) (u : Value) (hc : (rdCells x B d pv sv ev tv).setIfInBounds i u=rdCells x' B d pv sv ev tv) (el : x'.lines=x.lines) (e1 : x'.r.pieces=x.r.pieces) (e2 : x'.r.start=x.r.start) (e3 : x'.r.ends=x.r.ends) : RdAt wb g x' (W.setCell ⟨g,i,none⟩ u) B d pv sv ev tv :=
 h.step ((Fr.refl _ _).set _ (.inl (by simp)) u) (blk_put (i:=i) h.blk hc) (by rw [el]; exact lines_set h.lin u) (fun a ha => by have:=h.low a ha; simpa using this) (fun s hs => by rw [el] at hs; exact hs) (by rw [el]; exact Nat.le_refl _) e1 e2 e3
theorem RdAt.mark' (h : RdAt wb g x W B d pv sv ev tv) (b : Bool) (hk : W.grownBy W' (some g)) (hb : Blk W' g RT (rdCells (x.mark b) B d pv sv ev tv)) : RdAt wb g (x.mark b) W' B d pv sv ev tv :=
 h.step (.of_grown hk (fun y e => by cases e; simp)) hb (h.lin.kept hk) (fun a ha => Nat.lt_of_lt_of_le (h.low a ha) hk.size) (fun s hs => hs) (Nat.le_refl _) rfl rfl rfl
theorem ints_own {w0 w : World} {A : Option Addr} {c : Nat} {zs : List Int} (h : OwnR 3 1 w0 w (.slice A zs.length c) zs.length (zs.map (Value.int .i64))) : IntsAt w A zs:=by
 obtain ⟨A',c',e,hc,-⟩:=h.cells
 injection e with e
 subst e
 intro i hi
 obtain ⟨b,o,e2,hcc⟩:=hc i (.int .i64 (zs.getD i 0)) (by rw [List.getElem?_map,List.getD_eq_getElem?_getD,List.getElem?_eq_getElem hi]; rfl)
 exact ⟨b,o,e2,hcc⟩
theorem RdAt.rules (h : RdAt wb g x W B d pv sv ev tv) (hn : x.r.name.size≤9223372036854775807) : RulesAt W (.agg #[.string x.r.name,.int .i64 x.r.width,.int .i64 x.r.height,pv,sv,.bool x.r.falls,.bool x.r.keeps,ev,.int .i64 x.r.blocked,.int .i64 x.r.quiet,.int .i64 x.r.rept]) x.r:=by
 obtain ⟨pA,pc,rfl,hp,hpc,-⟩:=h.prow.shape
 have hs:=h.sow
 obtain ⟨sA,sc,rfl,-,hsc,-⟩:=h.sow.cells
 obtain ⟨eA,ec,rfl,he,hec,-⟩:=h.eow.cells
 exact ⟨pA,pc,sA,sc,eA,ec,rfl,hp,ints_own hs,he,hpc,hsc,hec,hn⟩
theorem rd_must (word : BL) (n : Nat) (h : RdAt wb g x W B d pv sv ev tv) (hw : LibW W) (hn : n≤8) :
  Calls Tryz.prog 26 #[.pointer (some ⟨g,0,none⟩),.string (strU word),.int .i64 (n : Int)] W fun e w' => ∃ l A c B' d',e=.returned (.slice A n c)∧(mustR word n x).1=l∧l.length=n∧LinesAt w' g A c l∧(∀ a,A=some a→W.heap.size≤a.block)∧(∀ y ∈ l,y.length≤8192)∧RdAt wb g (mustR word n x).2 w' B' d' pv sv ev tv∧W.grownBy w' (some g):=by
 refine (must_any word n g _ _ _ _ _ _ _ _ _ _ _ _ _ _ _ _ W hw h.blk h.lin h.l8 hn).mono ?_
 rintro e w' ⟨l,ls,A,c,B',d',b',hres,hl1,rfl,hl2,hl3,hbk,hgr,hnew,hlow⟩
 have hm:=must_eq (x:=x) hres
 have hf:=mustR_len word n x
 rw [hm] at hf ⊢
 refine ⟨l,A,c,B',d',rfl,rfl,hl1,hl2,hnew,hf.2.2 8192 h.l8,h.step (.of_grown hgr (fun y e => by cases e; simp)) hbk hl3 (fun a ha => ?_) hf.2.1 hf.1 rfl rfl rfl,hgr⟩
 obtain ⟨a0,h1,h2⟩:=hlow a ha
 rw [h2]
 exact Nat.lt_of_lt_of_le (h.low a0 h1) hgr.size
theorem rd_number (s : BL) (h : RdAt wb g x W B d pv sv ev tv) (hw : LibW W) (hs : s.length≤8192) :
  Calls Tryz.prog 28 #[.pointer (some ⟨g,0,none⟩),.string (strU s)] W fun e w' => e=.returned (.int .i64 (numV s))∧RdAt wb g (x.mark (numBad s)) w' B d pv sv ev tv∧W.grownBy w' (some g):=by
 refine (rnumber_any g _ _ _ _ _ _ _ _ _ _ _ _ _ _ s W hw h.blk hs).mono ?_
 rintro e w' ⟨rfl,hb,hgr⟩
 exact ⟨rfl,h.mark' _ hgr hb,hgr⟩
theorem rd_choice (s : BL) (b o k : Nat) (L : List BL) (h : RdAt wb g x W B d pv sv ev tv) (hL : CellsAt W (some ⟨b,o,none⟩) (strsC L)) (hn : L.length≤8) :
  Calls Tryz.prog 33 #[.pointer (some ⟨g,0,none⟩),.string (strU s),.slice (some ⟨b,o,none⟩) L.length k] W fun e w' => e=.returned (.int .i64 (max (ixW L s) 0))∧RdAt wb g (x.mark (decide (ixW L s < 0))) w' B d pv sv ev tv∧W.grownBy w' (some g):=by
 refine (rchoice_any g _ _ _ _ _ _ _ _ _ _ _ _ _ _ s b o k L W h.blk hL hn).mono ?_
 rintro e w' ⟨rfl,hb,hgr⟩
 exact ⟨rfl,h.mark' _ hgr hb,hgr⟩
theorem rd_next (word : BL) (h : RdAt wb g x W B d pv sv ev tv) (hw : LibW W) :
  Calls Tryz.prog 31 #[.pointer (some ⟨g,0,none⟩),.string (strU word),.int .i64 0] W fun e w' => ∃ v B' d',e=.returned (.tuple #[v,.bool (flagR word x).1])∧RdAt wb g (flagR word x).2 w' B' d' pv sv ev tv∧W.grownBy w' (some g):=by
 refine (next_any word 0 g _ _ _ _ _ _ _ _ _ _ _ _ _ _ _ _ W hw h.blk h.lin h.l8 (by decide)).mono ?_
 rintro e w' hres
 rcases flag_next word x with ⟨hn,hf⟩ | ⟨l,ls,hn,hf⟩
 ·rcases hres with ⟨-,rfl,y⟩ | ⟨l',ls',A,c,B',d',hn',-⟩
  ·rw [hf]
   exact ⟨_,B,d,rfl,h.ext y,grown_of_ext y _⟩
  ·rw [hn] at hn'
   cases hn'
 ·rcases hres with ⟨hn',-⟩ | ⟨l',ls',A,c,B',d',hn',h2,rfl,h3,h4,h5,h6,h7,h8⟩
  ·rw [hn] at hn'
   cases hn'
  ·rw [hn] at hn'
   injection hn' with e
   injection e with e1 e2
   subst e1 e2
   rw [hf]
   obtain ⟨k1,k2,k3,k4⟩:=nextL_some hn
   refine ⟨_,B',d',rfl,h.step (.of_grown h6 (fun y e => by cases e; simp)) h5 h4 (fun a ha => ?_) k3 (by show ls.length≤_; omega) rfl rfl rfl,h6⟩
   obtain ⟨a0,e1,e2⟩:=low_of h.lin (by omega) h8 a ha
   rw [e2]
   exact Nat.lt_of_lt_of_le (h.low a0 e1) h6.size
theorem RdAt.pieces (h : RdAt wb g x W B d pv sv ev tv) : ∃ pA pc,pv=.slice pA x.r.pieces.length pc∧∀ W',Fr [g] W W'→PiecesAt W' pA x.r.pieces:=by
 have hp:=h.prow
 have hg:=h.gl
 obtain ⟨pA,pc,rfl,-⟩:=h.prow.shape
 refine ⟨pA,pc,rfl,fun W' f => ?_⟩
 obtain ⟨A,c,e,h2,-⟩:=(hp.fr f (fun y hy => by
  obtain rfl:=List.mem_singleton.1 hy
  exact ⟨fun e => by have:=(hp.lt y e).1; omega,.inl hg⟩)).shape
 injection e with e
 subst e
 exact h2
theorem rd_rows (h : RdAt wb g x W B d pv sv ev tv) (hw : LibW W) (hg4 : 4≤g) (h1 : 1≤x.r.width∧x.r.width≤8) (h2 : 1≤x.r.height∧x.r.height≤8) :
  Calls Tryz.prog 30 #[.pointer (some ⟨g,0,none⟩)] W fun e w' => ∃ B' d' sv',e=.returned (.tuple #[])∧RdAt wb g (rowsR x) w' B' d' pv sv' ev tv∧W.grownBy w' (some g):=by
 obtain ⟨pA,pc,rfl,hp⟩:=h.pieces
 obtain ⟨wd,hwd⟩:=Int.eq_ofNat_of_zero_le (show 0≤x.r.width by omega)
 obtain ⟨ht,hht⟩:=Int.eq_ofNat_of_zero_le (show 0≤x.r.height by omega)
 have hbk:=h.blk
 unfold rdCells at hbk
 rw [hwd,hht] at hbk
 refine (rrows_any g _ _ _ _ _ _ _ _ _ x wd ht pA pc B d W hw hg4 hwd hht (by omega) (by omega) hbk h.lin h.low h.l8 hp h.pcs).mono ?_
 rintro e w' ⟨B',d',sv',rfl,k1,k2,k3,k4,k5,k6⟩
 obtain ⟨f1,f2,f3⟩:=rowsR_form x
 have hg:=h.gl
 refine ⟨B',d',sv',rfl,⟨?_,k1,fun a ha => Nat.lt_of_lt_of_le (k2 a ha) k6.size,?_,k4.base h.fr.size,?_,hg,h.fr.trans k6,k5,Nat.le_trans f2 h.cnt,?_⟩,k6.toGrown⟩
 ·rw [← hwd,← hht] at k3
  unfold rdCells
  rw [f1]
  exact k3
 ·rw [f1]
  exact h.prow.fr k6 (fun y hy => by
   obtain rfl:=List.mem_singleton.1 hy
   exact ⟨fun e => by have:=(h.prow.lt y e).1; omega,.inl hg⟩)
 ·rw [f1]
  exact h.eow.fr k6 (fun y hy e => by
   obtain rfl:=List.mem_singleton.1 hy
   have:=(h.eow.lt y e).1; omega)
 ·rw [f1]
  exact h.pcs
theorem rd_ends (h : RdAt wb g x W B d pv sv (.slice none 0 0) tv) (hw : LibW W) (hg4 : 4≤g) (he : x.r.ends=[]) :
  Calls Tryz.prog 32 #[.pointer (some ⟨g,0,none⟩)] W fun e w' => ∃ B' d' ev',e=.returned (.tuple #[])∧RdAt wb g (endsR (x.lines.length + 1) x) w' B' d' pv sv ev' tv∧W.grownBy w' (some g):=by
 obtain ⟨pA,pc,rfl,hp⟩:=h.pieces
 refine (rends_any g _ _ _ _ _ _ _ _ _ _ x pA pc B d W hw hg4 h.blk h.lin h.low h.l8 h.cnt hp h.pcs he).mono ?_
 rintro e w' ⟨B',d',ev',rfl,k1,k2,k3,k4,k5,k6⟩
 obtain ⟨f1,f2,f3⟩:=endsR_form (x.lines.length + 1) x
 have hg:=h.gl
 refine ⟨B',d',ev',rfl,⟨?_,k1,fun a ha => Nat.lt_of_lt_of_le (k2 a ha) k6.size,?_,?_,k4.base h.fr.size,hg,h.fr.trans k6,k5,Nat.le_trans f2 h.cnt,?_⟩,k6.toGrown⟩
 ·unfold rdCells
  rw [f1]
  exact k3
 ·rw [f1]
  exact h.prow.fr k6 (fun y hy => by
   obtain rfl:=List.mem_singleton.1 hy
   exact ⟨fun e => by have:=(h.prow.lt y e).1; omega,.inl hg⟩)
 ·rw [f1]
  exact h.sow.fr k6 (fun y hy e => by
   obtain rfl:=List.mem_singleton.1 hy
   have:=(h.sow.lt y e).1; omega)
 ·rw [f1]
  exact h.pcs
end
theorem ext_gr2 {w W W' : World} {g : Nat} (x : Ext w W) (k : W.grownBy W' (some g)) (hg : w.heap.size≤g) : Ext w W' :=
 ⟨k.os.trans x.os,k.tape.trans x.tape,k.output.trans x.output,Nat.le_trans x.size k.size,fun b hb => (k.block b (Nat.lt_of_lt_of_le hb x.size) (fun e => by injection e with e; omega)).trans (x.block b hb)⟩
theorem rd_pieces {wb W : World} {g : Nat} {x : RdM} {B : Option Addr} {d : Nat} {sv ev : Value} (h : RdAt wb g x W B d (.slice none 0 0) sv ev (.slice none 0 0)) (hw : LibW W) (hg4 : 4≤g) (hp : x.r.pieces=[]) (ht : x.tos=[]) :
  Calls Tryz.prog 29 #[.pointer (some ⟨g,0,none⟩)] W fun e w' => ∃ B' d' pv tv,e=.returned (.tuple #[])∧W.grownBy w' (some g)∧w'.cell? ⟨g,13,none⟩=some (.bool (piecesR x).bad)∧((piecesR x).bad=false→RdAt wb g (piecesR x) w' B' d' pv sv ev tv):=by
 refine (rpieces_any g _ _ _ _ _ _ _ _ _ _ x B d W hw hg4 h.blk h.lin h.low h.l8 h.cnt hp ht).mono ?_
 rintro e w' ⟨B',d',pv,tv,rfl,k1,k2,k3,k4,k5,k6⟩
 refine ⟨B',d',pv,tv,rfl,k6.toGrown,k3.cell 13,fun hb => ?_⟩
 obtain ⟨-,ps,ts,hf,hl⟩:=piecesR_says hp ht hb
 have hlen : (ps.flatMap (pieceLs ps)).length + (piecesR x).lines.length=x.lines.length:=by
  rw [hl,List.length_append,List.length_map]
 have hpl : ∀ (qs : List PieceM),qs.length≤(qs.flatMap (pieceLs ps)).length:=by
  intro qs
  induction qs with
  | nil => simp
  | cons q qs ih =>
   rw [List.flatMap_cons,List.length_append,List.length_cons]
   have : 1≤(pieceLs ps q).length:=by unfold pieceLs; simp
   omega
 have hps:=hpl ps
 have hc:=h.cnt
 have hg:=h.gl
 obtain ⟨e1,e2,e3⟩ : (piecesR x).r.pieces=ps∧(piecesR x).r.start=x.r.start∧(piecesR x).r.ends=x.r.ends:=by rw [hf]; exact ⟨rfl,rfl,rfl⟩
 refine ⟨?_,k1,fun a ha => Nat.lt_of_lt_of_le (k2 a ha) k6.size,k4.base h.fr.size,?_,?_,hg,h.fr.trans k6,k5,by omega,by rw [e1]; omega⟩
 ·unfold rdCells
  rw [hf]
  rw [hf] at k3
  exact k3
 ·rw [e2]
  exact h.sow.fr k6 (fun y hy e => by
   obtain rfl:=List.mem_singleton.1 hy
   have:=(h.sow.lt y e).1; omega)
 ·rw [e3]
  exact h.eow.fr k6 (fun y hy e => by
   obtain rfl:=List.mem_singleton.1 hy
   have:=(h.eow.lt y e).1; omega)
theorem rd_new {W : World} {g2 n : Nat} {L : List BL} (hg2 : g2 < W.heap.size) (hL : CellsAt W (some ⟨g2,0,none⟩) (strsC L)) (hl : n=L.length) (h8 : ∀ s ∈ L,s.length≤8192) (hn : L.length≤8193) : RdAt (W.alloc (.cells #[.slice (some ⟨g2,0,none⟩) n n,.string ⟨#[]⟩,.int .i64 0,.int .i64 0,.slice none 0 0,.slice none 0 0,.bool false,.bool false,.slice none 0 0,.int .i64 0,.int .i64 0,.int .i64 0,.slice none 0 0,.bool false] RT)) W.heap.size ⟨L,rules0,[],false⟩ (W.alloc (.cells #[.slice (some ⟨g2,0,none⟩) n n,.string ⟨#[]⟩,.int .i64 0,.int .i64 0,.slice none 0 0,.slice none 0 0,.bool false,.bool false,.slice none 0 0,.int .i64 0,.int .i64 0,.int .i64 0,.slice none 0 0,.bool false] RT)) (some ⟨g2,0,none⟩) n (.slice none 0 0) (.slice none 0 0) (.slice none 0 0) (.slice none 0 0):=by
 subst hl
 exact ⟨Blk.new _ _ _,⟨hL.ext (ext_alloc (Below.refl _ _) _),Nat.le_refl _,fun h => (by cases h),fun a ha => by cases ha; exact Nat.ne_of_lt hg2⟩,fun a ha => by cases ha; simp; omega,PRow.nil _ _,OwnR.nil _ _ _ _,OwnR.nil _ _ _ _,by simp,Fr.refl _ _,h8,hn,Nat.zero_le _⟩
theorem sclone_any (s : BL) (hs : s.length≤8192) (w : World) : Calls Tryz.prog 27 #[.string (strU s)] w fun e w' => e=.returned (.string (strU s))∧Ext w w':=by
 have HC:=Lib.hid (Tryz.stringslite_Clone (strU s) w (by rw [strU_size]; omega))
 clear hs
 go_enter Tryz.func27,Tryz.ntmps27
 go_wp2_with fail
 refine HC.out.mono ?_
 rintro e w2 ⟨rfl,x⟩
 go_wp2
 go_ret
 exact ⟨rfl,x⟩
theorem last_suffix (s : BL) : ([10] : BL).isSuffixOf s=decide (s.getLast? = some 10):=by
 rcases List.eq_nil_or_concat s with rfl | ⟨r,c,rfl⟩
 ·rfl
 ·rw [List.concat_eq_append,List.getLast?_append]
  by_cases h : c=10
  ·subst h
   simp [List.isSuffixOf_iff_suffix.2 (List.suffix_append r [10])]
  ·have h1 : ([10] : BL).isSuffixOf (r ++ [c])=false:=by
    cases hh : ([10] : BL).isSuffixOf (r ++ [c]) with
    | false => rfl
    | true =>
     obtain ⟨t,ht⟩:=List.isSuffixOf_iff_suffix.1 hh
     have:=List.append_inj_right' ht rfl
     exact absurd (by injection this with e; exact e.symm) h
   rw [h1]
   simp [h]
theorem cut_any (s : BL) (hs : s.length≤1000000) (W : World) : Calls Tryz.prog 24 #[.string (strU s),.string ⟨#[10]⟩] W fun e w' => e=.returned (.tuple #[.string (strU (if s.getLast? = some 10 then s.dropLast else s)),.bool (decide (s.getLast? = some 10))])∧w'=W:=by
 have h:=Tryz.strings_CutSuffix (strU s) ⟨#[10]⟩ W (by rw [strU_size]; omega)
 rw [strU_data] at h
 have e1 : Lib.hasSuffix s [10]=decide (s.getLast? = some 10):=last_suffix s
 have e2 : Lib.trimSuffix s [10]=if s.getLast? = some 10 then s.dropLast else s:=by
  unfold Lib.trimSuffix
  rw [e1]
  by_cases h : s.getLast? = some 10
  ·rw [if_pos (by simpa using h),if_pos h,List.dropLast_eq_take]
   rfl
  ·rw [if_neg (by simpa using h),if_neg h]
 rw [show ([10] : List UInt8)=(⟨#[10]⟩ : ByteArray).data.toList from rfl] at e1 e2
 rw [e1,e2] at h
 exact h
theorem must_name (word : BL) (n : Nat) (x : RdM) : (mustR word n x).2.r=x.r:=by
 rw [mustR_form]
theorem flag_r (w : BL) (x : RdM) : (flagR w x).2.r=x.r:=by
 rcases flag_next w x with h | ⟨l,ls,h⟩
 ·rw [h.2]
 ·rw [h.2]
theorem restR_name (x : RdM) : (restR x).r.name=x.r.name:=by
 have h1 : ∀ x,(reptR x).r.name=x.r.name:=fun x => by
  show (mustR wRepeat 1 x).2.r.name=_
  rw [must_name]
 have h2 : ∀ x,(quietR x).r.name=x.r.name:=fun x => by
  show (mustR wQuiet 1 x).2.r.name=_
  rw [must_name]
 have h3 : ∀ x,(blockedR x).r.name=x.r.name:=fun x => by
  show (mustR wBlocked 1 x).2.r.name=_
  rw [must_name]
 have h4 : ∀ x,(keepsR x).r.name=x.r.name:=fun x => by
  show (flagR wKeeps x).2.r.name=_
  rw [flag_r]
 have h5 : ∀ x,(fallsR x).r.name=x.r.name:=fun x => by
  show (flagR wFalls x).2.r.name=_
  rw [flag_r]
 unfold restR
 simp only
 rw [h1,h2,h3,(endsR_form _ _).1]
 show (keepsR (fallsR (rowsR x))).r.name=x.r.name
 rw [h4,h5,(rowsR_form x).1]
theorem RdAt.rules_fr {wb W W' : World} {g RB : Nat} {x : RdM} {B : Option Addr} {d : Nat} {pv sv ev tv : Value} (h : RdAt wb g x W B d pv sv ev tv) (hn : x.r.name.size≤9223372036854775807) (f : Fr [RB] W W') (hRB : RB < wb.heap.size) : RulesAt W' (.agg #[.string x.r.name,.int .i64 x.r.width,.int .i64 x.r.height,pv,sv,.bool x.r.falls,.bool x.r.keeps,ev,.int .i64 x.r.blocked,.int .i64 x.r.quiet,.int .i64 x.r.rept]) x.r:=by
 have hp:=h.prow.fr f (fun y hy => by
  obtain rfl:=List.mem_singleton.1 hy
  exact ⟨fun e => by have:=(h.prow.lt y e).1; omega,.inl hRB⟩)
 have hs:=h.sow.fr f (fun y hy e => by
  obtain rfl:=List.mem_singleton.1 hy
  have:=(h.sow.lt y e).1; omega)
 have he:=h.eow.fr f (fun y hy e => by
  obtain rfl:=List.mem_singleton.1 hy
  have:=(h.eow.lt y e).1; omega)
 obtain ⟨pA,pc,rfl,hp,hpc,-⟩:=hp.shape
 have hs':=hs
 obtain ⟨sA,sc,rfl,-,hsc,-⟩:=hs.cells
 obtain ⟨eA,ec,rfl,he,hec,-⟩:=he.cells
 exact ⟨pA,pc,sA,sc,eA,ec,rfl,hp,ints_own hs',he,hpc,hsc,hec,hn⟩
theorem fr_set11 {W : World} {RB : Nat} (u0 u1 u2 u3 u4 u5 u6 u7 u8 u9 u10 : Value) : Fr [RB] W (((((((((((W.setCell ⟨RB,0,none⟩ u0).setCell ⟨RB,1,none⟩ u1).setCell ⟨RB,2,none⟩ u2).setCell ⟨RB,3,none⟩ u3).setCell ⟨RB,4,none⟩ u4).setCell ⟨RB,5,none⟩ u5).setCell ⟨RB,6,none⟩ u6).setCell ⟨RB,7,none⟩ u7).setCell ⟨RB,8,none⟩ u8).setCell ⟨RB,9,none⟩ u9).setCell ⟨RB,10,none⟩ u10):=by
 have s : ∀ {W W' : World} (i : Nat) (u : Value),Fr [RB] W W'→Fr [RB] W (W'.setCell ⟨RB,i,none⟩ u):=fun i u h => h.set _ (.inl (by simp)) u
 exact s _ _ (s _ _ (s _ _ (s _ _ (s _ _ (s _ _ (s _ _ (s _ _ (s _ _ (s _ _ (s _ _ (Fr.refl _ _)))))))))))
theorem blk_set11r {W : World} {RB : Nat} {t : TypeId} {v0 v1 v2 v3 v4 v5 v6 v7 v8 v9 v10 : Value} (h : Blk W RB t #[v0,v1,v2,v3,v4,v5,v6,v7,v8,v9,v10]) (u0 u1 u2 u3 u4 u5 u6 u7 u8 u9 u10 : Value) : Blk (((((((((((W.setCell ⟨RB,0,none⟩ u0).setCell ⟨RB,1,none⟩ u1).setCell ⟨RB,2,none⟩ u2).setCell ⟨RB,3,none⟩ u3).setCell ⟨RB,4,none⟩ u4).setCell ⟨RB,5,none⟩ u5).setCell ⟨RB,6,none⟩ u6).setCell ⟨RB,7,none⟩ u7).setCell ⟨RB,8,none⟩ u8).setCell ⟨RB,9,none⟩ u9).setCell ⟨RB,10,none⟩ u10) RB t #[u0,u1,u2,u3,u4,u5,u6,u7,u8,u9,u10] :=
 (blk_put (i:=10) (blk_put (i:=9) (blk_put (i:=8) (blk_put (i:=7) (blk_put (i:=6) (blk_put (i:=5) (blk_put (i:=4) (blk_put (i:=3) (blk_put (i:=2) (blk_put (i:=1) (blk_put (i:=0) h (cs':=#[u0,v1,v2,v3,v4,v5,v6,v7,v8,v9,v10]) rfl) (cs':=#[u0,u1,v2,v3,v4,v5,v6,v7,v8,v9,v10]) rfl) (cs':=#[u0,u1,u2,v3,v4,v5,v6,v7,v8,v9,v10]) rfl) (cs':=#[u0,u1,u2,u3,v4,v5,v6,v7,v8,v9,v10]) rfl) (cs':=#[u0,u1,u2,u3,u4,v5,v6,v7,v8,v9,v10]) rfl) (cs':=#[u0,u1,u2,u3,u4,u5,v6,v7,v8,v9,v10]) rfl) (cs':=#[u0,u1,u2,u3,u4,u5,u6,v7,v8,v9,v10]) rfl) (cs':=#[u0,u1,u2,u3,u4,u5,u6,u7,v8,v9,v10]) rfl) (cs':=#[u0,u1,u2,u3,u4,u5,u6,u7,u8,v9,v10]) rfl) (cs':=#[u0,u1,u2,u3,u4,u5,u6,u7,u8,u9,v10]) rfl) (cs':=#[u0,u1,u2,u3,u4,u5,u6,u7,u8,u9,u10]) rfl)
theorem ext_set11r {w W : World} {RB : Nat} (h : Ext w W) (hRB : w.heap.size≤RB) (u0 u1 u2 u3 u4 u5 u6 u7 u8 u9 u10 : Value) : Ext w (((((((((((W.setCell ⟨RB,0,none⟩ u0).setCell ⟨RB,1,none⟩ u1).setCell ⟨RB,2,none⟩ u2).setCell ⟨RB,3,none⟩ u3).setCell ⟨RB,4,none⟩ u4).setCell ⟨RB,5,none⟩ u5).setCell ⟨RB,6,none⟩ u6).setCell ⟨RB,7,none⟩ u7).setCell ⟨RB,8,none⟩ u8).setCell ⟨RB,9,none⟩ u9).setCell ⟨RB,10,none⟩ u10) :=
 (ext_set (ext_set (ext_set (ext_set (ext_set (ext_set (ext_set (ext_set (ext_set (ext_set (ext_set h (p:=⟨RB,0,none⟩) hRB u0) (p:=⟨RB,1,none⟩) hRB u1) (p:=⟨RB,2,none⟩) hRB u2) (p:=⟨RB,3,none⟩) hRB u3) (p:=⟨RB,4,none⟩) hRB u4) (p:=⟨RB,5,none⟩) hRB u5) (p:=⟨RB,6,none⟩) hRB u6) (p:=⟨RB,7,none⟩) hRB u7) (p:=⟨RB,8,none⟩) hRB u8) (p:=⟨RB,9,none⟩) hRB u9) (p:=⟨RB,10,none⟩) hRB u10)
end Go.Proofs.YtdoibgmmijhlfaaGreatDoor
