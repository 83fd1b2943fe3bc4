/- Begin -/
import Derived.Test.YtdoibgmmijhlfaaGreatDoorR09
import Derived.Test.YtdoibgmmijhlfaaGreatDoorR08
import Derived.Test.YtdoibgmmijhlfaaGreatDoorR06
import Derived.Test.YtdoibgmmijhlfaaGreatDoorR01
import Derived.Deep.RegionHeld3
import Derived.Deep.AppendLies
import Derived.Deep.DrawnRows
namespace Go.Proofs.YtdoibgmmijhlfaaGreatDoor
open Go.ChangeShapes Go.WideShapes Go.ChangeAt Go.RowKit Go.Shelf
set_option linter.unusedVariables false
set_option linter.unusedSimpArgs false
def beginP (R : RulesM) : PosM:={ cells:=R.start,hand0:=R.pieces.map (·.hand),hand1:=R.pieces.map (·.hand),turn:=0,quiet:=0 }
def BeginPost (w : World) (P : PosM) (e : Ending) (w' : World) : Prop:=∃ v',e=.returned (.tuple #[v',.int .i64 0])∧PosAt w' v' P∧Ext w w'
structure Two (w0 Wb W : World) (v0 u0 v u : Value) (xs ys : List Int) : Prop where
 base : w0.heap.size≤Wb.heap.size
 below : Below w0.heap.size Wb W
 size : Wb.heap.size≤W.heap.size
 keep : ∀ g,g < Wb.heap.size→v0.ownBlock ≠ some g→u0.ownBlock ≠ some g→W.heap[g]? = Wb.heap[g]?
 one : OwnI w0 W v xs
 two : OwnI w0 W u ys
 apart : ∀ g,v.ownBlock=some g→u.ownBlock ≠ some g
 lt1 : ∀ g,v.ownBlock=some g→g < W.heap.size
 lt2 : ∀ g,u.ownBlock=some g→g < W.heap.size
 old1 : v.ownBlock=v0.ownBlock∨∀ g,v.ownBlock=some g→Wb.heap.size≤g
 old2 : u.ownBlock=u0.ownBlock∨∀ g,u.ownBlock=some g→Wb.heap.size≤g
def Built (W : World) (v u : Value) (H : Nat) (z : Int) : Prop:=W.cell? ⟨H,0,none⟩=some (.int .i64 z)∧H < W.heap.size∧v.ownBlock ≠ some H∧u.ownBlock ≠ some H
section
variable {w0 Wb W : World} {v0 u0 v u : Value} {xs ys : List Int}
theorem Two.drew (h : Two w0 Wb W v0 u0 v u xs ys) : Two w0 Wb W.drew v0 u0 v u xs ys :=
 ⟨h.base,Below.drew h.below,h.size,h.keep,h.one,h.two,h.apart,h.lt1,h.lt2,h.old1,h.old2⟩
theorem Two.alloc (h : Two w0 Wb W v0 u0 v u xs ys) (o : Obj) : Two w0 Wb (W.alloc o) v0 u0 v u xs ys:=by
 have x:=ext_alloc (Below.refl W.heap.size W) o
 have hsz:=h.size
 have hb:=h.base
 have hsize : (W.alloc o).heap.size=W.heap.size + 1:=by simp
 exact ⟨hb,Below.alloc h.below (by omega) o,by omega,fun g hg a b => (x.block g (by omega)).trans (h.keep g hg a b),h.one.ext x,h.two.ext x,h.apart,fun g hg => by have:=h.lt1 g hg; omega,fun g hg => by have:=h.lt2 g hg; omega,h.old1,h.old2⟩
theorem Built.new (h : Two w0 Wb W v0 u0 v u xs ys) (z : Int) (H : Nat) (hH : W.heap.size=H) (T : TypeId) : Built (W.alloc (.cells #[.int .i64 z] T)) v u H z:=by
 subst hH
 have hsize : (W.alloc (.cells #[.int .i64 z] T)).heap.size=W.heap.size + 1:=by simp
 exact ⟨new_cell W _ _ 0,by omega,fun e => by have:=h.lt1 _ e; omega,fun e => by have:=h.lt2 _ e; omega⟩
theorem Built.alloc {H : Nat} {z : Int} (h : Built W v u H z) (o : Obj) : Built (W.alloc o) v u H z:=by
 have x:=ext_alloc (Below.refl W.heap.size W) o
 have hsize : (W.alloc o).heap.size=W.heap.size + 1:=by simp
 exact ⟨x.cell h.1,by have:=h.2.1; omega,h.2.2⟩
theorem OwnI.bd {w0 w : World} {v : Value} {xs : List Int} (h : OwnI w0 w v xs) : ∀ g,v.ownBlock=some g→w0.heap.size≤g∧g < w.heap.size:=by
 intro g hg
 obtain ⟨A,c,rfl,h⟩:=h
 exact h.lt g hg
theorem OwnI.set {w0 w : World} {v : Value} {xs : List Int} (h : OwnI w0 w v xs) {p : Addr} (hp : v.ownBlock ≠ some p.block) (u : Value) : OwnI w0 (w.setCell p u) v xs:=by
 obtain ⟨A,c,rfl,h⟩:=h
 exact ⟨A,c,rfl,own_set h hp u⟩
theorem ints_far {w : World} {A : Option Addr} {zs : List Int} (h : IntsAt w A zs) {p : Addr} (hp : ∀ b o,A=some ⟨b,o,none⟩→b ≠ p.block) (u : Value) : IntsAt (w.setCell p u) A zs:=fun i hi => by
 obtain ⟨b,o,e,hc⟩:=h i hi
 refine ⟨b,o,e,?_⟩
 rw [World.cell?_of_block (a:=⟨b,o + i,none⟩) (Below.heap_setCell w p u b (hp b o e))]
 exact hc
theorem own_from_base {w : World} {base : Nat} {e : TypeId} {size n c : Nat} {A : Option Addr} {xs : List Value} (h : w.ownsRow base e size (.slice A n c) n xs) : ∀ b o,A=some ⟨b,o,none⟩→base≤b:=by
 rintro b o rfl
 rcases h.2 with ⟨e1,_⟩ | ⟨g,cap,cur,e1,hb,_⟩
 ·simp at e1
 ·injection e1 with e1
  simp only [Option.some.injEq,Addr.mk.injEq] at e1
  omega
theorem held_alloc {W : World} {b c : Addr} {y z : Value} (h : W.cell? b=some y∧W.cell? c=some z) (o : Obj) : (W.alloc o).cell? b=some y∧(W.alloc o).cell? c=some z :=
 ⟨Ext.cell (ext_alloc (Below.refl _ _) _) h.1,Ext.cell (ext_alloc (Below.refl _ _) _) h.2⟩
theorem Built.swap {H : Nat} {z : Int} (h : Built W v u H z) : Built W u v H z:=⟨h.1,h.2.1,h.2.2.2,h.2.2.1⟩
theorem Two.blk (h : Two w0 Wb W v0 u0 v u xs ys) {g : Nat} {t : TypeId} {cs : Array Value} (k : Blk Wb g t cs) (h1 : v0.ownBlock ≠ some g) (h2 : u0.ownBlock ≠ some g) : Blk W g t cs:=(h.keep g k.lt h1 h2).trans k
theorem Two.swap (h : Two w0 Wb W v0 u0 v u xs ys) : Two w0 Wb W u0 v0 u v ys xs :=
 ⟨h.base,h.below,h.size,fun g hg a b => h.keep g hg b a,h.two,h.one,fun g hg e => h.apart g e hg,h.lt2,h.lt1,h.old2,h.old1⟩
end
theorem step_two {ops : Array Oper} {o : Oper} {a : Act} {K : Act→World→Prop} {Q : Exit→Act→World→Prop} {E : Prop} (hgd : o.guard=none) (s x : Operand)
  (ho : o.op=.call { callee:=.builtin .append,args:=#[s,x],argTypes:=#[23,23] }) (w0 Wb W : World) (v0 u0 v u : Value) (xs ys : List Int) (z : Int) (H : Nat)
  (hs : a.eval s=v) (hx : a.eval x=.slice (some ⟨H,0,none⟩) 1 1) (hT : Two w0 Wb W v0 u0 v u xs ys) (hB : Built W v u H z) (hlen : xs.length≤1000000)
  (h : ∀ g cap w',Two w0 Wb w' v0 u0 (.slice (some ⟨g,0,none⟩) (xs.length + 1) cap) u (xs ++ [z]) ys→(∀ H' z',Built W v u H' z'→Built w' (.slice (some ⟨g,0,none⟩) (xs.length + 1) cap) u H' z')→K (a.put o.dst (.slice (some ⟨g,0,none⟩) (xs.length + 1) cap)) w') :
  if Region.wanted o (yielded ops a.tmps)=true then Oper.wp Tryz.prog o a W K Q else E:=by
 obtain ⟨A,c,rfl,hown⟩:=hT.one
 obtain ⟨i0,hi,hz0,hz1,hz2⟩:=info_parts intInfo
 have hb:=hT.base
 have hsz:=hT.size
 have hnews : ∀ j u,[Value.int .i64 z][j]? = some u→W.cell? ((⟨H,0,none⟩ : Addr).add j)=some u:=by
  intro j u hj
  have h0 : j=0:=by have:=(List.getElem?_eq_some_iff.1 hj).1; simpa using this
  subst h0
  rw [add_lit]
  simp only [List.getElem?_cons_zero,Option.some.injEq] at hj
  rw [← hj]
  exact hB.1
 refine step_append_lies W hgd s x 23 ho w0.heap.size 3 i0 (.int .i64 0) 1 8 Tryz.underlying23 hi hz0 hz1 hz2 rfl (by decide) _ xs.length (xs.map (Value.int .i64)) hs hown ⟨H,0,none⟩ 1 1 [.int .i64 z] hx rfl hnews (by simp [Value.oneCell']) (by omega) (by simp only [maxLen]; omega) (by omega) (by omega) W.heap.size rfl ?_
 intro g cap w' hown' hgrow hat hlt
 have hgs:=hgrow.size
 refine h g cap w' ⟨hb,?_,by omega,?_,?_,?_,?_,?_,?_,?_,hT.old2⟩ ?_
 ·exact Below.grown hT.below hgrow (by omega) (own_row hown)
 ·intro k hk a b
  rw [hgrow.block k (by omega) ?_]
  ·exact hT.keep k hk a b
  ·intro e
   rcases hT.old1 with h1 | h1
   ·rw [h1] at e; exact a e.symm
   ·have:=h1 k e.symm; omega
 ·exact ⟨some ⟨g,0,none⟩,cap,by simp,by simpa using hown'⟩
 ·obtain ⟨A',c',e',own'⟩:=hT.two
  refine ⟨A',c',e',own'.1,?_⟩
  rcases own'.2 with hn | ⟨g',cap',cur',e2,hb',hg',rest⟩
  ·exact .inl hn
  ·refine .inr ⟨g',cap',cur',e2,hb',?_,rest⟩
   have hu : u.ownBlock=some g':=by rw [e',e2]; rfl
   rw [hgrow.block g' (hT.lt2 g' hu) ?_]
   ·exact hg'
   ·intro e; exact hT.apart g' e.symm hu
 ·intro k hk hu
  have hk' : g=k:=by simpa [Value.ownBlock] using hk
  subst hk'
  rcases hat with e | e
  ·exact hT.apart g e hu
  ·have:=hT.lt2 g hu; omega
 ·intro k hk
  have hk' : g=k:=by simpa [Value.ownBlock] using hk
  omega
 ·intro k hk; have:=hT.lt2 k hk; omega
 ·rcases hat with e | e
  ·rcases hT.old1 with h1 | h1
   ·left; rw [← h1,e]; rfl
   ·right
    intro k hk
    have hk' : g=k:=by simpa [Value.ownBlock] using hk
    subst hk'
    exact h1 g e
  ·right
   intro k hk
   have hk' : g=k:=by simpa [Value.ownBlock] using hk
   omega
 ·rintro H' z' ⟨b1,b2,b3,b4⟩
  refine ⟨?_,by omega,?_,b4⟩
  ·rw [World.cell?_of_block (a:=⟨H',0,none⟩) (hgrow.block H' b2 (fun e => b3 e.symm))]
   exact b1
  ·intro hk
   have hk' : g=H':=by simpa [Value.ownBlock] using hk
   subst hk'
   rcases hat with e | e
   ·exact b3 e
   ·omega
attribute [local go_sem ↓] Go.wp_at_zero Go.wp_at_succ
set_option maxHeartbeats 4000000 in
set_option maxRecDepth 100000 in
theorem Begin_yes (R : RulesM) (v : Value) (w : World) (hR : RulesAt w v R) (hV : Valid R) :
  Calls Tryz.prog 39 #[v] w (BeginPost w (beginP R)):=by
 have har:=area_bd _ _ hV.side
 have ha:=hV.area
 have hp6:=hV.pieces6
 have HC:=hide (fun W (hW : Ext w W) => (of_valid hV) ▸ Check_any v R W (hR.ext hW))
 obtain ⟨pA,pc,sA,sc,eA,ec,rfl,hpc,hs,-⟩:=hR
 have HCL:=hide (fun W (hW : Ext w W) => cloneInts_any sA R.start.length sc R.start W rfl (by omega) (fun hn => by
  subst hn
  rcases hst : R.start with _ | ⟨x,l⟩
  ·rfl
  ·obtain ⟨b,o,e,-⟩:=hs 0 (by rw [hst]; simp)
   cases e) (hs.ext hW))
 obtain ⟨x1,k1,k2⟩:=blks2 w #[.string R.name,.int .i64 R.width,.int .i64 R.height,.slice pA R.pieces.length pc,.slice sA R.start.length sc,.bool R.falls,.bool R.keeps,.slice eA R.ends.length ec,.int .i64 R.blocked,.int .i64 R.quiet,.int .i64 R.rept] 26 #[.slice none 0 0,.slice none 0 0,.slice none 0 0,.int .i64 0,.int .i64 0] 43
 have HX:=hide x1
 have HB2' : Hid (w.heap.size≤w.heap.size + 1):=hide (by omega)
 have HP:=hide (hpc.ext x1)
 have K1:=hide k1
 have f1:=k1.cell
 clear x1 k1 hV hpc hs har
 go_enter Tryz.func39,Tryz.ntmps39
 go_wp2_with fail
 refine (HC.out _ HX.out).mono ?_
 rintro e w2 ⟨rfl,x2⟩
 have X2:=hide (ext_trans HX.out x2)
 have g1:=(K1.out.ext x2).cell
 clear f1
 go_wp2_with fail
 refine (HCL.out _ X2.out).mono ?_
 rintro e w3 ⟨A3,c3,rfl,own3,x3⟩
 clear g1
 obtain ⟨x4,k4⟩:=blks1 w3 #[.slice A3 R.start.length c3,.slice none 0 0,.slice none 0 0,.int .i64 0,.int .i64 0] 43
 have X3:=hide (ext_trans X2.out x3)
 have y4:=ext_trans x2 (ext_trans x3 x4)
 have r1:=(K1.out.ext y4).cell
 have K2:=hide ((k2.ext x2).ext x3)
 have HP3:=hide (HP.out.ext (ext_trans x2 x3))
 have I3:=hide (cells_ints (own_cells own3).1)
 have M3:=hide (own_cap own3)
 have N3 : Hid ((∀ b o,A3=some ⟨b,o,none⟩→b ≠ w.heap.size + 1)∧w.heap.size + 1 < w3.heap.size):=hide ⟨fun b o e => by have:=own_from_base own3 b o e; have:=k2.lt; have:=x2.size; omega,by have:=k2.lt; have:=x2.size; have:=x3.size; omega⟩
 have X4:=hide x4
 have HSZ : Hid ((w3.alloc (.cells #[.slice A3 R.start.length c3,.slice none 0 0,.slice none 0 0,.int .i64 0,.int .i64 0] 43)).heap.size=w3.heap.size + 1):=hide (by simp)
 clear x2 x3 x4 X2 HP own3 k2 y4 K1 HX
 go_wp2
 have K4:=hide k4
 clear k4 r1
 generalize w3.alloc (.cells #[.slice A3 R.start.length c3,.slice none 0 0,.slice none 0 0,.int .i64 0,.int .i64 0] 43)=w4 at *
 generalize hB5 : w3.heap.size=B5 at *
 have HB5:=hide hB5
 clear hB5
 generalize w.heap.size + 1=B2 at *
 go_loopw [21] (fun i wr => ∃ (k : Nat) (v0 u0 : Value),k≤R.pieces.length∧i=.int .i64 k∧Blk wr B5 43 #[.slice A3 R.start.length c3,v0,u0,.int .i64 0,.int .i64 0]∧OwnI w4 wr v0 ((R.pieces.map (·.hand)).take k)∧OwnI w4 wr u0 ((R.pieces.map (·.hand)).take k)∧(∀ g,v0.ownBlock=some g→u0.ownBlock ≠ some g)∧Ext w3 wr) (fun i _ => R.pieces.length - (intOf i).toNat)
 case atStart => exact ⟨0,_,_,Nat.zero_le _,rfl,K4.out,OwnI.nil _ _,OwnI.nil _ _,fun g hg => by simp [Value.ownBlock] at hg,X4.out⟩
 case round =>
  obtain ⟨k,v0,u0,hk,rfl,hblk,ho,hu,hap,hext⟩:=hrel
  by_cases hlt : k < R.pieces.length
  ·obtain ⟨p,hp⟩ : ∃ p,R.pieces[k]? = some p:=⟨R.pieces[k],List.getElem?_eq_getElem _⟩
   obtain ⟨b,o,wA,wc,rfl,c0,c1,c2,c3',-⟩:=(HP3.out.ext hext).get hp
   have HAP:=hide hap
   have HO:=hide ho
   have HU:=hide hu
   have HEX:=hide hext
   have HBL:=hide hblk
   have HPP:=hide hp
   clear hap ho hu hext hblk hp
   go_wp2
   obtain ⟨x5,k5⟩:=blks1 wr #[.int .u8 p.letter,.int .i64 p.hand,.int .i64 p.promote,.slice wA p.ways.length wc] 57
   have HXS : Hid ((R.pieces.map (·.hand)).take (k + 1)=(R.pieces.map (·.hand)).take k ++ [p.hand]):=hide (by
    rw [List.take_add_one,List.getElem?_map,HPP.out]; rfl)
   have HLN : ((R.pieces.map (·.hand)).take k).length≤1000000:=by rw [List.length_take,List.length_map]; omega
   generalize (R.pieces.map (·.hand)).take k=xs at *
   have kb:=HBL.out.ext x5
   have hb5:=HBL.out.lt
   have hsz:=HSZ.out
   have b1:=HO.out.bd
   have b2:=HU.out.bd
   have HT0 : Two w4 (wr.alloc (.cells #[.int .u8 p.letter,.int .i64 p.hand,.int .i64 p.promote,.slice wA p.ways.length wc] 57)) (wr.alloc (.cells #[.int .u8 p.letter,.int .i64 p.hand,.int .i64 p.promote,.slice wA p.ways.length wc] 57)) v0 u0 v0 u0 xs xs :=
    ⟨by simp; omega,Below.refl _ _,Nat.le_refl _,fun _ _ _ _ => rfl,HO.out.ext x5,HU.out.ext x5,HAP.out,fun g hg => by have:=b1 g hg; simp; omega,fun g hg => by have:=b2 g hg; simp; omega,.inl rfl,.inl rfl⟩
   have N5 : wr.heap.size ≠ B5:=by omega
   have N50 : v0.ownBlock ≠ some B5:=fun h => by have:=b1 _ h; omega
   have N51 : u0.ownBlock ≠ some B5:=fun h => by have:=b2 _ h; omega
   have N70 : v0.ownBlock ≠ some wr.heap.size:=fun h => by have:=b1 _ h; omega
   have N71 : u0.ownBlock ≠ some wr.heap.size:=fun h => by have:=b2 _ h; omega
   have XE:=hide (ext_trans HEX.out x5)
   generalize wr.alloc (.cells #[.int .u8 p.letter,.int .i64 p.hand,.int .i64 p.promote,.slice wA p.ways.length wc] 57)=w5 at *
   generalize wr.heap.size=B7 at *
   have HT:=HT0.drew
   have q0 : w5.drew.cell? ⟨B7,1,none⟩=some (.int .i64 p.hand):=k5.cell 1
   have q1 : w5.drew.cell? ⟨B5,1,none⟩=some v0:=kb.cell 1
   have q2 : w5.drew.cell? ⟨B5,2,none⟩=some u0:=kb.cell 2
   have HK5:=hide k5
   have HKB:=hide kb
   clear x5 k5 kb HT0 b1 b2 hb5 hsz
   refine region_K (fun W => W.cell? ⟨B7,1,none⟩=some (.int .i64 p.hand)) (fun W => W.cell? ⟨B5,1,none⟩=some v0∧W.cell? ⟨B5,2,none⟩=some u0) [16,19] (by kernel_rfl) ?_
   have hS0:=And.intro q1 q2
   refine anyK_take 0 rfl (by kernel_rfl) (by kernel_rfl) (by kernel_rfl) (by kernel_rfl) (fun _ _ _ h => h) (by rfl) q0 (fun _ => hS0) (v:=?_) (fun W hT => ?_) ?_
   rotate_left
   ·go_simp
    first | done | with_reducible rfl
   try simp only [Act.put,List.setIfInBounds_toArray,List.set_cons_zero,List.set_cons_succ]
   refine anyK_take 1 rfl (by kernel_rfl) (by kernel_rfl) (by kernel_rfl) (by kernel_rfl) (fun _ _ _ h => h) (by rfl) q0 (fun _ => hS0) (v:=?_) (fun W hT => ?_) ?_
   rotate_left
   ·go_simp
    first | done | with_reducible rfl
   try simp only [Act.put,List.setIfInBounds_toArray,List.set_cons_zero,List.set_cons_succ]
   refine anyK_take 3 rfl (by kernel_rfl) (by kernel_rfl) (by kernel_rfl) (by kernel_rfl) (fun _ _ _ h => h) (by rfl) q0 (fun _ => hS0) (v:=?_) (fun W hT => ?_) ?_
   rotate_left
   ·go_simp
    first | done | with_reducible rfl
   try simp only [Act.put,List.setIfInBounds_toArray,List.set_cons_zero,List.set_cons_succ]
   refine anyK_take 4 rfl (by kernel_rfl) (by kernel_rfl) (by kernel_rfl) (by kernel_rfl) (fun _ _ _ h => h) (by rfl) q0 (fun _ => hS0) (v:=?_) (fun W hT => ?_) ?_
   rotate_left
   ·go_simp
    first | done | with_reducible rfl
   try simp only [Act.put,List.setIfInBounds_toArray,List.set_cons_zero,List.set_cons_succ]
   refine anyK_take 7 rfl (by kernel_rfl) (by kernel_rfl) (by kernel_rfl) (by kernel_rfl) (fun _ _ _ h => h) (by rfl) q0 (fun _ => hS0) (v:=?_) (fun W hT => ?_) ?_
   rotate_left
   ·go_simp
    first | done | with_reducible rfl
   try simp only [Act.put,List.setIfInBounds_toArray,List.set_cons_zero,List.set_cons_succ]
   refine anyK_take 8 rfl (by kernel_rfl) (by kernel_rfl) (by kernel_rfl) (by kernel_rfl) (fun _ _ _ h => h) (by rfl) q0 (fun _ => hS0) (v:=?_) (fun W hT => ?_) ?_
   rotate_left
   ·go_simp
    first | done | with_reducible rfl
   try simp only [Act.put,List.setIfInBounds_toArray,List.set_cons_zero,List.set_cons_succ]
   refine anyK_take 10 rfl (by kernel_rfl) (by kernel_rfl) (by kernel_rfl) (by kernel_rfl) (fun _ _ _ h => h) (by rfl) q0 (fun _ => hS0) (v:=?_) (fun W hT => ?_) ?_
   rotate_left
   ·go_simp
    first | done | with_reducible rfl
   try simp only [Act.put,List.setIfInBounds_toArray,List.set_cons_zero,List.set_cons_succ]
   refine anyK_take 11 rfl (by kernel_rfl) (by kernel_rfl) (by kernel_rfl) (by kernel_rfl) (fun _ _ _ h => h) (by rfl) q0 (fun _ => hS0) (v:=?_) (fun W hT => ?_) ?_
   rotate_left
   ·go_simp
    first | done | with_reducible rfl
   try simp only [Act.put,List.setIfInBounds_toArray,List.set_cons_zero,List.set_cons_succ]
   refine anyK_take 14 rfl (by kernel_rfl) (by kernel_rfl) (by kernel_rfl) (by kernel_rfl) (fun _ _ _ h => h) (by rfl) q0 (fun _ => hS0) (v:=?_) (fun W hT => ?_) ?_
   rotate_left
   ·go_simp
    first | done | with_reducible rfl
   try simp only [Act.put,List.setIfInBounds_toArray,List.set_cons_zero,List.set_cons_succ]
   refine anyK_take 17 rfl (by kernel_rfl) (by kernel_rfl) (by kernel_rfl) (by kernel_rfl) (fun _ _ _ h => h) (by rfl) q0 (fun _ => hS0) (v:=?_) (fun W hT => ?_) ?_
   rotate_left
   ·go_simp
    first | done | with_reducible rfl
   try simp only [Act.put,List.setIfInBounds_toArray,List.set_cons_zero,List.set_cons_succ]
   refine anyK_load 2 rfl (by kernel_rfl) (by kernel_rfl) (by kernel_rfl) (by kernel_rfl) (by kernel_rfl) (by kernel_rfl) (fun _ _ _ h => h) (by rfl) q0 hS0 (v:=?_) (fun W hT hW => ?_) ?_
   rotate_left
   ·obtain ⟨z1,z2⟩:=hW
    go_simp
    first | done | with_reducible rfl
   try simp only [Act.put,List.setIfInBounds_toArray,List.set_cons_zero,List.set_cons_succ]
   refine anyK_load 9 rfl (by kernel_rfl) (by kernel_rfl) (by kernel_rfl) (by kernel_rfl) (by kernel_rfl) (by kernel_rfl) (fun _ _ _ h => h) (by rfl) q0 hS0 (v:=?_) (fun W hT hW => ?_) ?_
   rotate_left
   ·obtain ⟨z1,z2⟩:=hW
    go_simp
    first | done | with_reducible rfl
   try simp only [Act.put,List.setIfInBounds_toArray,List.set_cons_zero,List.set_cons_succ]
   refine anyK_on2 5 12 (by kernel_rfl) ?_ ?_
   ·skip
    refine anyK_one 5 rfl (fun K hK => ?_)
    go_simp
    refine hK.out _ _ (Ext.cell (ext_alloc (Below.refl _ _) _) q0) (fun _ => (held_alloc hS0 _)) ?_
    clear hK K
    try simp only [Act.put,List.setIfInBounds_toArray,List.set_cons_zero,List.set_cons_succ]
    refine anyK_on2 6 12 (by kernel_rfl) ?_ ?_
    ·skip
     refine anyK_one 6 rfl (fun K hK => ?_)
     refine step_two rfl (.tmp 27) (.tmp 30) rfl _ _ _ _ _ v0 _ _ _ p.hand _ rfl rfl (HT.alloc _) (Built.new HT p.hand _ (by simp) _) HLN (fun g1 cap1 w1 hT1 hB1 => ?_)
     have kb1:=hT1.blk HKB.out N50 N51
     have k51:=hT1.blk HK5.out N70 N71
     refine hK.out _ _ (k51.cell 1) (fun _ => ⟨kb1.cell 1,kb1.cell 2⟩) ?_
     clear hK K
     try simp only [Act.put,List.setIfInBounds_toArray,List.set_cons_zero,List.set_cons_succ]
     refine anyK_take 15 rfl (by kernel_rfl) (by kernel_rfl) (by kernel_rfl) (by kernel_rfl) (fun _ _ _ h => h) (by rfl) (k51.cell 1) (fun _ => (And.intro (kb1.cell 1) (kb1.cell 2))) (v:=?_) (fun W hT => ?_) ?_
     rotate_left
     ·go_simp
      first | done | with_reducible rfl
     try simp only [Act.put,List.setIfInBounds_toArray,List.set_cons_zero,List.set_cons_succ]
     refine anyK_on1 12 (by kernel_rfl) ?_
     refine anyK_one 12 rfl (fun K hK => ?_)
     go_simp
     refine hK.out _ _ (Ext.cell (ext_alloc (Below.refl _ _) _) (k51.cell 1)) (fun _ => (held_alloc (And.intro (kb1.cell 1) (kb1.cell 2)) _)) ?_
     clear hK K
     try simp only [Act.put,List.setIfInBounds_toArray,List.set_cons_zero,List.set_cons_succ]
     refine anyK_on1 13 (by kernel_rfl) ?_
     refine anyK_one 13 rfl (fun K hK => ?_)
     refine step_two rfl (.tmp 34) (.tmp 37) rfl _ _ _ _ _ u0 _ _ _ p.hand _ rfl rfl (hT1.alloc _).swap (Built.swap (Built.new hT1 p.hand _ (by simp) _)) HLN (fun g2 cap2 w2' hT2 hB2 => ?_)
     have kb2:=hT2.blk HKB.out N51 N50
     have k52:=hT2.blk HK5.out N71 N70
     refine hK.out _ _ (k52.cell 1) (fun _ => ⟨kb2.cell 1,kb2.cell 2⟩) ?_
     clear hK K kb1 k51
     try simp only [Act.put,List.setIfInBounds_toArray,List.set_cons_zero,List.set_cons_succ]
     have q5:=kb2.cell
     have z5:=kb2.frozen
     have t5:=Blk.far k52 (p:=⟨B5,1,none⟩) N5 (.slice (some ⟨g1,0,none⟩) (xs.length + 1) cap1)
     have t6:=Blk.far t5 (p:=⟨B5,2,none⟩) N5 (.slice (some ⟨g2,0,none⟩) (xs.length + 1) cap2)
     refine anyK_on1 16 (by kernel_rfl) ?_
     refine anyK_one 16 rfl (fun K hK => ?_)
     go_simp
     refine hK.out _ _ (t5.cell 1) (fun h => by cases h) ?_
     clear hK K
     try simp only [Act.put,List.setIfInBounds_toArray,List.set_cons_zero,List.set_cons_succ]
     refine anyK_take 18 rfl (by kernel_rfl) (by kernel_rfl) (by kernel_rfl) (by kernel_rfl) (fun _ _ _ h => h) (by rfl) (t5.cell 1) (fun h => by cases h) (v:=?_) (fun W hT => ?_) ?_
     rotate_left
     ·go_simp
      first | done | with_reducible rfl
     try simp only [Act.put,List.setIfInBounds_toArray,List.set_cons_zero,List.set_cons_succ]
     refine anyK_on1 19 (by kernel_rfl) ?_
     refine anyK_one 19 rfl (fun K hK => ?_)
     go_simp
     refine hK.out _ _ (t6.cell 1) (fun h => by cases h) ?_
     clear hK K
     try simp only [Act.put,List.setIfInBounds_toArray,List.set_cons_zero,List.set_cons_succ]
     refine anyK_done (by kernel_rfl) ?_ _
     have F1:=(hT2.two.set (p:=⟨B5,1,none⟩) (fun h => by have:=(hT2.two.bd _ h).1; have:=HSZ.out; simp at *; omega) (.slice (some ⟨g1,0,none⟩) (xs.length + 1) cap1)).set (p:=⟨B5,2,none⟩) (fun h => by have:=(hT2.two.bd _ h).1; have:=HSZ.out; simp at *; omega) (.slice (some ⟨g2,0,none⟩) (xs.length + 1) cap2)
     have F2:=(hT2.one.set (p:=⟨B5,1,none⟩) (fun h => by have:=(hT2.one.bd _ h).1; have:=HSZ.out; simp at *; omega) (.slice (some ⟨g1,0,none⟩) (xs.length + 1) cap1)).set (p:=⟨B5,2,none⟩) (fun h => by have:=(hT2.one.bd _ h).1; have:=HSZ.out; simp at *; omega) (.slice (some ⟨g2,0,none⟩) (xs.length + 1) cap2)
     have F3:=blk_put (blk_put kb2 (i:=1) (u:=.slice (some ⟨g1,0,none⟩) (xs.length + 1) cap1) rfl) (i:=2) (u:=.slice (some ⟨g2,0,none⟩) (xs.length + 1) cap2) rfl
     have F4:=ext_set (ext_set (Below.trans XE.out (Below.mono hT2.below (by have:=HSZ.out; have:=HB5.out; omega))) (p:=⟨B5,1,none⟩) (by have:=HB5.out; show w3.heap.size≤B5; omega) (.slice (some ⟨g1,0,none⟩) (xs.length + 1) cap1)) (p:=⟨B5,2,none⟩) (by have:=HB5.out; show w3.heap.size≤B5; omega) (.slice (some ⟨g2,0,none⟩) (xs.length + 1) cap2)
     have F5:=hide (fun g hg h => hT2.apart g h hg)
     have G1:=hide F1
     have G2:=hide F2
     have G3:=hide F3
     have G4:=hide F4
     clear F1 F2 F3 F4 q5 z5 t5 t6 kb2 k52 hT1 hT2 hB1 hB2 q0 q1 q2 hS0 HT HKB HK5 XE
     go_wp2
     go_roundw
     case rel => exact ⟨k + 1,_,_,by omega,by go_num,G3.out,by rw [HXS.out]; exact G1.out,by rw [HXS.out]; exact G2.out,F5.out,G4.out⟩
     case measure => simp [intOf]; omega
    ·skip
     refine anyK_one 12 rfl (fun K hK => ?_)
     go_simp
     refine hK.out _ _ (Ext.cell (ext_alloc (Below.refl _ _) _) (Ext.cell (ext_alloc (Below.refl _ _) _) q0)) (fun _ => (held_alloc (held_alloc hS0 _) _)) ?_
     clear hK K
     try simp only [Act.put,List.setIfInBounds_toArray,List.set_cons_zero,List.set_cons_succ]
     refine anyK_on1 6 (by kernel_rfl) ?_
     refine anyK_one 6 rfl (fun K hK => ?_)
     refine step_two rfl (.tmp 27) (.tmp 30) rfl _ _ _ _ _ v0 _ _ _ p.hand _ rfl rfl ((HT.alloc _).alloc _) (Built.alloc (Built.new HT p.hand _ (by simp) _) _) HLN (fun g1 cap1 w1 hT1 hB1 => ?_)
     have kb1:=hT1.blk HKB.out N50 N51
     have k51:=hT1.blk HK5.out N70 N71
     refine hK.out _ _ (k51.cell 1) (fun _ => ⟨kb1.cell 1,kb1.cell 2⟩) ?_
     clear hK K
     try simp only [Act.put,List.setIfInBounds_toArray,List.set_cons_zero,List.set_cons_succ]
     refine anyK_take 15 rfl (by kernel_rfl) (by kernel_rfl) (by kernel_rfl) (by kernel_rfl) (fun _ _ _ h => h) (by rfl) (k51.cell 1) (fun _ => (And.intro (kb1.cell 1) (kb1.cell 2))) (v:=?_) (fun W hT => ?_) ?_
     rotate_left
     ·go_simp
      first | done | with_reducible rfl
     try simp only [Act.put,List.setIfInBounds_toArray,List.set_cons_zero,List.set_cons_succ]
     refine anyK_on1 13 (by kernel_rfl) ?_
     refine anyK_one 13 rfl (fun K hK => ?_)
     refine step_two rfl (.tmp 34) (.tmp 37) rfl _ _ _ _ _ u0 _ _ _ p.hand _ rfl rfl hT1.swap (Built.swap (hB1 _ _ (Built.new (HT.alloc _) p.hand _ (by simp) _))) HLN (fun g2 cap2 w2' hT2 hB2 => ?_)
     have kb2:=hT2.blk HKB.out N51 N50
     have k52:=hT2.blk HK5.out N71 N70
     refine hK.out _ _ (k52.cell 1) (fun _ => ⟨kb2.cell 1,kb2.cell 2⟩) ?_
     clear hK K kb1 k51
     try simp only [Act.put,List.setIfInBounds_toArray,List.set_cons_zero,List.set_cons_succ]
     have q5:=kb2.cell
     have z5:=kb2.frozen
     have t5:=Blk.far k52 (p:=⟨B5,1,none⟩) N5 (.slice (some ⟨g1,0,none⟩) (xs.length + 1) cap1)
     have t6:=Blk.far t5 (p:=⟨B5,2,none⟩) N5 (.slice (some ⟨g2,0,none⟩) (xs.length + 1) cap2)
     refine anyK_on1 16 (by kernel_rfl) ?_
     refine anyK_one 16 rfl (fun K hK => ?_)
     go_simp
     refine hK.out _ _ (t5.cell 1) (fun h => by cases h) ?_
     clear hK K
     try simp only [Act.put,List.setIfInBounds_toArray,List.set_cons_zero,List.set_cons_succ]
     refine anyK_take 18 rfl (by kernel_rfl) (by kernel_rfl) (by kernel_rfl) (by kernel_rfl) (fun _ _ _ h => h) (by rfl) (t5.cell 1) (fun h => by cases h) (v:=?_) (fun W hT => ?_) ?_
     rotate_left
     ·go_simp
      first | done | with_reducible rfl
     try simp only [Act.put,List.setIfInBounds_toArray,List.set_cons_zero,List.set_cons_succ]
     refine anyK_on1 19 (by kernel_rfl) ?_
     refine anyK_one 19 rfl (fun K hK => ?_)
     go_simp
     refine hK.out _ _ (t6.cell 1) (fun h => by cases h) ?_
     clear hK K
     try simp only [Act.put,List.setIfInBounds_toArray,List.set_cons_zero,List.set_cons_succ]
     refine anyK_done (by kernel_rfl) ?_ _
     have F1:=(hT2.two.set (p:=⟨B5,1,none⟩) (fun h => by have:=(hT2.two.bd _ h).1; have:=HSZ.out; simp at *; omega) (.slice (some ⟨g1,0,none⟩) (xs.length + 1) cap1)).set (p:=⟨B5,2,none⟩) (fun h => by have:=(hT2.two.bd _ h).1; have:=HSZ.out; simp at *; omega) (.slice (some ⟨g2,0,none⟩) (xs.length + 1) cap2)
     have F2:=(hT2.one.set (p:=⟨B5,1,none⟩) (fun h => by have:=(hT2.one.bd _ h).1; have:=HSZ.out; simp at *; omega) (.slice (some ⟨g1,0,none⟩) (xs.length + 1) cap1)).set (p:=⟨B5,2,none⟩) (fun h => by have:=(hT2.one.bd _ h).1; have:=HSZ.out; simp at *; omega) (.slice (some ⟨g2,0,none⟩) (xs.length + 1) cap2)
     have F3:=blk_put (blk_put kb2 (i:=1) (u:=.slice (some ⟨g1,0,none⟩) (xs.length + 1) cap1) rfl) (i:=2) (u:=.slice (some ⟨g2,0,none⟩) (xs.length + 1) cap2) rfl
     have F4:=ext_set (ext_set (Below.trans XE.out (Below.mono hT2.below (by have:=HSZ.out; have:=HB5.out; omega))) (p:=⟨B5,1,none⟩) (by have:=HB5.out; show w3.heap.size≤B5; omega) (.slice (some ⟨g1,0,none⟩) (xs.length + 1) cap1)) (p:=⟨B5,2,none⟩) (by have:=HB5.out; show w3.heap.size≤B5; omega) (.slice (some ⟨g2,0,none⟩) (xs.length + 1) cap2)
     have F5:=hide (fun g hg h => hT2.apart g h hg)
     have G1:=hide F1
     have G2:=hide F2
     have G3:=hide F3
     have G4:=hide F4
     clear F1 F2 F3 F4 q5 z5 t5 t6 kb2 k52 hT1 hT2 hB1 hB2 q0 q1 q2 hS0 HT HKB HK5 XE
     go_wp2
     go_roundw
     case rel => exact ⟨k + 1,_,_,by omega,by go_num,G3.out,by rw [HXS.out]; exact G1.out,by rw [HXS.out]; exact G2.out,F5.out,G4.out⟩
     case measure => simp [intOf]; omega
   ·skip
    refine anyK_one 12 rfl (fun K hK => ?_)
    go_simp
    refine hK.out _ _ (Ext.cell (ext_alloc (Below.refl _ _) _) q0) (fun _ => (held_alloc hS0 _)) ?_
    clear hK K
    try simp only [Act.put,List.setIfInBounds_toArray,List.set_cons_zero,List.set_cons_succ]
    refine anyK_on1 5 (by kernel_rfl) ?_
    refine anyK_one 5 rfl (fun K hK => ?_)
    go_simp
    refine hK.out _ _ (Ext.cell (ext_alloc (Below.refl _ _) _) (Ext.cell (ext_alloc (Below.refl _ _) _) q0)) (fun _ => (held_alloc (held_alloc hS0 _) _)) ?_
    clear hK K
    try simp only [Act.put,List.setIfInBounds_toArray,List.set_cons_zero,List.set_cons_succ]
    refine anyK_on1 6 (by kernel_rfl) ?_
    refine anyK_one 6 rfl (fun K hK => ?_)
    refine step_two rfl (.tmp 27) (.tmp 30) rfl _ _ _ _ _ v0 _ _ _ p.hand _ rfl rfl ((HT.alloc _).alloc _) (Built.new (HT.alloc _) p.hand _ (by simp) _) HLN (fun g1 cap1 w1 hT1 hB1 => ?_)
    have kb1:=hT1.blk HKB.out N50 N51
    have k51:=hT1.blk HK5.out N70 N71
    refine hK.out _ _ (k51.cell 1) (fun _ => ⟨kb1.cell 1,kb1.cell 2⟩) ?_
    clear hK K
    try simp only [Act.put,List.setIfInBounds_toArray,List.set_cons_zero,List.set_cons_succ]
    refine anyK_take 15 rfl (by kernel_rfl) (by kernel_rfl) (by kernel_rfl) (by kernel_rfl) (fun _ _ _ h => h) (by rfl) (k51.cell 1) (fun _ => (And.intro (kb1.cell 1) (kb1.cell 2))) (v:=?_) (fun W hT => ?_) ?_
    rotate_left
    ·go_simp
     first | done | with_reducible rfl
    try simp only [Act.put,List.setIfInBounds_toArray,List.set_cons_zero,List.set_cons_succ]
    refine anyK_on1 13 (by kernel_rfl) ?_
    refine anyK_one 13 rfl (fun K hK => ?_)
    refine step_two rfl (.tmp 34) (.tmp 37) rfl _ _ _ _ _ u0 _ _ _ p.hand _ rfl rfl hT1.swap (Built.swap (hB1 _ _ (Built.alloc (Built.new HT p.hand _ (by simp) _) _))) HLN (fun g2 cap2 w2' hT2 hB2 => ?_)
    have kb2:=hT2.blk HKB.out N51 N50
    have k52:=hT2.blk HK5.out N71 N70
    refine hK.out _ _ (k52.cell 1) (fun _ => ⟨kb2.cell 1,kb2.cell 2⟩) ?_
    clear hK K kb1 k51
    try simp only [Act.put,List.setIfInBounds_toArray,List.set_cons_zero,List.set_cons_succ]
    have q5:=kb2.cell
    have z5:=kb2.frozen
    have t5:=Blk.far k52 (p:=⟨B5,1,none⟩) N5 (.slice (some ⟨g1,0,none⟩) (xs.length + 1) cap1)
    have t6:=Blk.far t5 (p:=⟨B5,2,none⟩) N5 (.slice (some ⟨g2,0,none⟩) (xs.length + 1) cap2)
    refine anyK_on1 16 (by kernel_rfl) ?_
    refine anyK_one 16 rfl (fun K hK => ?_)
    go_simp
    refine hK.out _ _ (t5.cell 1) (fun h => by cases h) ?_
    clear hK K
    try simp only [Act.put,List.setIfInBounds_toArray,List.set_cons_zero,List.set_cons_succ]
    refine anyK_take 18 rfl (by kernel_rfl) (by kernel_rfl) (by kernel_rfl) (by kernel_rfl) (fun _ _ _ h => h) (by rfl) (t5.cell 1) (fun h => by cases h) (v:=?_) (fun W hT => ?_) ?_
    rotate_left
    ·go_simp
     first | done | with_reducible rfl
    try simp only [Act.put,List.setIfInBounds_toArray,List.set_cons_zero,List.set_cons_succ]
    refine anyK_on1 19 (by kernel_rfl) ?_
    refine anyK_one 19 rfl (fun K hK => ?_)
    go_simp
    refine hK.out _ _ (t6.cell 1) (fun h => by cases h) ?_
    clear hK K
    try simp only [Act.put,List.setIfInBounds_toArray,List.set_cons_zero,List.set_cons_succ]
    refine anyK_done (by kernel_rfl) ?_ _
    have F1:=(hT2.two.set (p:=⟨B5,1,none⟩) (fun h => by have:=(hT2.two.bd _ h).1; have:=HSZ.out; simp at *; omega) (.slice (some ⟨g1,0,none⟩) (xs.length + 1) cap1)).set (p:=⟨B5,2,none⟩) (fun h => by have:=(hT2.two.bd _ h).1; have:=HSZ.out; simp at *; omega) (.slice (some ⟨g2,0,none⟩) (xs.length + 1) cap2)
    have F2:=(hT2.one.set (p:=⟨B5,1,none⟩) (fun h => by have:=(hT2.one.bd _ h).1; have:=HSZ.out; simp at *; omega) (.slice (some ⟨g1,0,none⟩) (xs.length + 1) cap1)).set (p:=⟨B5,2,none⟩) (fun h => by have:=(hT2.one.bd _ h).1; have:=HSZ.out; simp at *; omega) (.slice (some ⟨g2,0,none⟩) (xs.length + 1) cap2)
    have F3:=blk_put (blk_put kb2 (i:=1) (u:=.slice (some ⟨g1,0,none⟩) (xs.length + 1) cap1) rfl) (i:=2) (u:=.slice (some ⟨g2,0,none⟩) (xs.length + 1) cap2) rfl
    have F4:=ext_set (ext_set (Below.trans XE.out (Below.mono hT2.below (by have:=HSZ.out; have:=HB5.out; omega))) (p:=⟨B5,1,none⟩) (by have:=HB5.out; show w3.heap.size≤B5; omega) (.slice (some ⟨g1,0,none⟩) (xs.length + 1) cap1)) (p:=⟨B5,2,none⟩) (by have:=HB5.out; show w3.heap.size≤B5; omega) (.slice (some ⟨g2,0,none⟩) (xs.length + 1) cap2)
    have F5:=hide (fun g hg h => hT2.apart g h hg)
    have G1:=hide F1
    have G2:=hide F2
    have G3:=hide F3
    have G4:=hide F4
    clear F1 F2 F3 F4 q5 z5 t5 t6 kb2 k52 hT1 hT2 hB1 hB2 q0 q1 q2 hS0 HT HKB HK5 XE
    go_wp2
    go_roundw
    case rel => exact ⟨k + 1,_,_,by omega,by go_num,G3.out,by rw [HXS.out]; exact G1.out,by rw [HXS.out]; exact G2.out,F5.out,G4.out⟩
    case measure => simp [intOf]; omega
  ·obtain rfl : k=R.pieces.length:=by omega
   have HXS : Hid ((R.pieces.map (·.hand)).take R.pieces.length=R.pieces.map (·.hand)):=hide (List.take_of_length_le (by simp))
   have ho' : OwnI w4 wr v0 (R.pieces.map (·.hand)):=by rw [← HXS.out]; exact ho
   have hu' : OwnI w4 wr u0 (R.pieces.map (·.hand)):=by rw [← HXS.out]; exact hu
   have b1:=ho'.bd
   have b2:=hu'.bd
   obtain ⟨A1,c1,rfl,g1⟩:=ho'
   obtain ⟨A2,c2,rfl,g2⟩:=hu'
   have e1:=cells_ints (own_cells g1).1
   have e2:=cells_ints (own_cells g2).1
   have n1:=own_cap g1
   have N1 : Hid ((∀ b o,A1=some ⟨b,o,none⟩→b ≠ B2)∧(∀ b o,A2=some ⟨b,o,none⟩→b ≠ B2)):=hide ⟨fun b o e => by have:=own_from_base g1 b o e; have:=HSZ.out; have:=HB5.out; have:=N3.out.2; omega,fun b o e => by have:=own_from_base g2 b o e; have:=HSZ.out; have:=HB5.out; have:=N3.out.2; omega⟩
   have n2:=own_cap g2
   have e0:=I3.out.ext hext
   have k2:=K2.out.ext hext
   have y3:=ext_trans X3.out hext
   have HB2 : Hid (w.heap.size≤B2):=hide HB2'.out
   simp only [List.length_map] at g1 g2 n1 n2 hblk ⊢
   have E:=hide (And.intro e0 (And.intro e1 e2))
   have M:=hide (And.intro n1 n2)
   have f5:=hblk.cell
   have f2:=k2.cell
   have z2:=k2.frozen
   clear e0 e1 e2 n1 n2 g1 g2 ho hu hap hext b1 b2 hblk HB5 HSZ K4 X4 HP3 I3 X3 K2
   go_wp2
   have K:=blk_set5 k2 (u0:=.slice A3 R.start.length c3) (u1:=.slice A1 R.pieces.length c1) (u2:=.slice A2 R.pieces.length c2) (u3:=.int .i64 0) (u4:=.int .i64 0)
   have X:=(ext_set (ext_set (ext_set (ext_set (ext_set y3 (p:=⟨B2,0,none⟩) HB2.out (.slice A3 R.start.length c3)) (p:=⟨B2,1,none⟩) HB2.out (.slice A1 R.pieces.length c1)) (p:=⟨B2,2,none⟩) HB2.out (.slice A2 R.pieces.length c2)) (p:=⟨B2,3,none⟩) HB2.out (.int .i64 0)) (p:=⟨B2,4,none⟩) HB2.out (.int .i64 0))
   have FE:=fun (a : Option Addr) (zs : List Int) (h : IntsAt wr a zs) (hn : ∀ b o,a=some ⟨b,o,none⟩→b ≠ B2) => (ints_far (ints_far (ints_far (ints_far (ints_far h (p:=⟨B2,0,none⟩) hn (.slice A3 R.start.length c3)) (p:=⟨B2,1,none⟩) hn (.slice A1 R.pieces.length c1)) (p:=⟨B2,2,none⟩) hn (.slice A2 R.pieces.length c2)) (p:=⟨B2,3,none⟩) hn (.int .i64 0)) (p:=⟨B2,4,none⟩) hn (.int .i64 0))
   generalize (((((wr.setCell ⟨B2,0,none⟩ (.slice A3 R.start.length c3)).setCell ⟨B2,1,none⟩ (.slice A1 R.pieces.length c1)).setCell ⟨B2,2,none⟩ (.slice A2 R.pieces.length c2)).setCell ⟨B2,3,none⟩ (.int .i64 0)).setCell ⟨B2,4,none⟩ (.int .i64 0))=Wf at *
   have rr0 : Wf.cell? ⟨B2,0,none⟩=some (.slice A3 R.start.length c3):=K.cell 0
   have rr1 : Wf.cell? ⟨B2,1,none⟩=some (.slice A1 R.pieces.length c1):=K.cell 1
   have rr2 : Wf.cell? ⟨B2,2,none⟩=some (.slice A2 R.pieces.length c2):=K.cell 2
   have rr3 : Wf.cell? ⟨B2,3,none⟩=some (.int .i64 0):=K.cell 3
   have rr4 : Wf.cell? ⟨B2,4,none⟩=some (.int .i64 0):=K.cell 4
   refine bodyPost_ret (v:=.tuple #[.agg #[.slice A3 R.start.length c3,.slice A1 R.pieces.length c1,.slice A2 R.pieces.length c2,.int .i64 0,.int .i64 0],.int .i64 0]) ?_ rfl ?_
   ·simp [results,Tryz.results39,go_sem,rr0,rr1,rr2,rr3,rr4]
   ·exact ⟨_,rfl,⟨A3,c3,A1,c1,A2,c2,by simp [beginP],FE _ _ E.out.1 N3.out.1,FE _ _ E.out.2.1 N1.out.1,FE _ _ E.out.2.2 N1.out.2,M3.out,by simp [beginP]; exact M.out.1,by simp [beginP]; exact M.out.2⟩,X⟩
end Go.Proofs.YtdoibgmmijhlfaaGreatDoor
