/- Clones RulesCopy -/
import Derived.Test.YtdoibgmmijhlfaaGreatC01
import Derived.Deep.RegionHeld3
namespace Go.Proofs.YtdoibgmmijhlfaaGreat
open Go.ChangeShapes Go.WideShapes Go.ChangeAt Go.RowKit
set_option linter.unusedVariables false
theorem info_Ways:(Crz.prog.info? 110).map (fun i=>(i.zero,i.size,i.bytes))=some (some (.agg #[.int .i64 0,.int .i64 0,.int .i64 0,.int .i64 0]),4,32):=by kernel_rfl
theorem one_Ways(l:List WayM):∀ u∈l.flatMap WayM.vals,u.oneCell'=true:=by
 intro u hu
 obtain⟨x,_,h⟩:=List.mem_flatMap.1 hu
 simp [WayM.vals] at h
 rcases h with rfl | rfl | rfl | rfl <;> rfl
theorem len_Ways(l:List WayM):(l.flatMap WayM.vals).length=l.length * 4:=by
 induction l with
 | nil=>rfl
 | cons a l ih=>rw [List.flatMap_cons,List.length_append,ih,List.length_cons,Nat.add_mul];simp [WayM.vals];omega
def OwnWays(w:World)(l:List WayM)(e:Ending)(w':World):Prop:=∃ A c,e=.returned (.slice A l.length c)∧w'.ownsRow w.heap.size 110 4 (.slice A l.length c) l.length (l.flatMap WayM.vals)∧Ext w w'
theorem clone_Ways(A:Option Addr)(n c:Nat)(l:List WayM)(w:World)(hn:l.length=n)(hm:n≤1000)(hz:CellsAt w A (l.flatMap WayM.vals)) :
  Calls Crz.prog 88 #[.slice A n c] w (OwnWays w l):=by
 have hA:A=none→n=0:=by
  intro e
  subst e
  by_cases h0:n=0
  ·exact h0
  ·obtain⟨b,o,e,_⟩:=hz 0 ((l.flatMap WayM.vals)[0]'(by rw [len_Ways];omega)) (List.getElem?_eq_getElem _)
   cases e
 subst hn
 have hnil:=fun W=>Lib.run_eql_slice_nil (P:=Crz.prog) W 71 110 A l.length c 0 0 Crz.underlying71
 obtain⟨i0,hi,hz0,hz1,hz2⟩:=info_parts info_Ways
 cases A with
 | none =>
  have h0:l=[]:=List.eq_nil_of_length_eq_zero (hA rfl)
  subst h0
  simp only [List.length_nil] at hnil ⊢
  go_enter Crz.func88,Tryz.ntmps88
  go_wp2
  go_ret
  exact⟨none,0,rfl,World.ownsRow_nil _ _ _ _,Below.refl _ _⟩
 | some ad =>
  clear hA
  have hown:=World.ownsRow_made w #[] 0 (base:=w.heap.size) (e:=110) (size:=4) (Nat.le_refl _) (by simp [maxLen]) rfl
  have hone:=one_Ways l
  have hlen:=len_Ways l
  generalize hv:l.flatMap WayM.vals=vs at *
  have HV:=hide hv
  clear hv
  have HO:=hide hone
  have HL:=hide hlen
  clear hone hlen
  go_enter Crz.func88,Tryz.ntmps88
  go_wp2_with (at_builtin;refine wpList_append_cells _ rfl (.tmp 5) (.tmp 6) 71 rfl w.heap.size 110 i0 (.agg #[.int .i64 0,.int .i64 0,.int .i64 0,.int .i64 0]) 4 32 Crz.underlying71 hi hz0 hz1 hz2 rfl (by decide) _ 0 [] rfl hown (some ad) l.length c vs rfl HL.out (hz.ext (qA (Below.refl _ _) _)) HO.out (by simp only [maxLen];omega) (by omega) (by simp) (by simp) ?_;intro v' w1 hown1 hgrow)
  obtain⟨A',c',rfl,_,_⟩:=own_shape hown1
  go_ret
  simp only [Nat.zero_add,List.nil_append] at hown1
  exact⟨A',c',by simp,by rw [HV.out];exact hown1,ext_grown (qA (Below.refl _ _) _) hgrow (own_row hown)⟩
theorem info_Ends:(Crz.prog.info? 75).map (fun i=>(i.zero,i.size,i.bytes))=some (some (.agg #[.int .i64 0,.int .i64 0,.int .i64 0,.bool false]),4,32):=by kernel_rfl
theorem one_Ends(l:List EndM):∀ u∈l.flatMap EndM.vals,u.oneCell'=true:=by
 intro u hu
 obtain⟨x,_,h⟩:=List.mem_flatMap.1 hu
 simp [EndM.vals] at h
 rcases h with rfl | rfl | rfl | rfl <;> rfl
theorem len_Ends(l:List EndM):(l.flatMap EndM.vals).length=l.length * 4:=by
 induction l with
 | nil=>rfl
 | cons a l ih=>rw [List.flatMap_cons,List.length_append,ih,List.length_cons,Nat.add_mul];simp [EndM.vals];omega
def OwnEnds(w:World)(l:List EndM)(e:Ending)(w':World):Prop:=∃ A c,e=.returned (.slice A l.length c)∧w'.ownsRow w.heap.size 75 4 (.slice A l.length c) l.length (l.flatMap EndM.vals)∧Ext w w'
theorem clone_Ends(A:Option Addr)(n c:Nat)(l:List EndM)(w:World)(hn:l.length=n)(hm:n≤1000)(hz:CellsAt w A (l.flatMap EndM.vals)) :
  Calls Crz.prog 90 #[.slice A n c] w (OwnEnds w l):=by
 have hA:A=none→n=0:=by
  intro e
  subst e
  by_cases h0:n=0
  ·exact h0
  ·obtain⟨b,o,e,_⟩:=hz 0 ((l.flatMap EndM.vals)[0]'(by rw [len_Ends];omega)) (List.getElem?_eq_getElem _)
   cases e
 subst hn
 have hnil:=fun W=>Lib.run_eql_slice_nil (P:=Crz.prog) W 24 75 A l.length c 0 0 Crz.underlying24
 obtain⟨i0,hi,hz0,hz1,hz2⟩:=info_parts info_Ends
 cases A with
 | none =>
  have h0:l=[]:=List.eq_nil_of_length_eq_zero (hA rfl)
  subst h0
  simp only [List.length_nil] at hnil ⊢
  go_enter Crz.func90,Tryz.ntmps90
  go_wp2
  go_ret
  exact⟨none,0,rfl,World.ownsRow_nil _ _ _ _,Below.refl _ _⟩
 | some ad =>
  clear hA
  have hown:=World.ownsRow_made w #[] 0 (base:=w.heap.size) (e:=75) (size:=4) (Nat.le_refl _) (by simp [maxLen]) rfl
  have hone:=one_Ends l
  have hlen:=len_Ends l
  generalize hv:l.flatMap EndM.vals=vs at *
  have HV:=hide hv
  clear hv
  have HO:=hide hone
  have HL:=hide hlen
  clear hone hlen
  go_enter Crz.func90,Tryz.ntmps90
  go_wp2_with (at_builtin;refine wpList_append_cells _ rfl (.tmp 5) (.tmp 6) 24 rfl w.heap.size 75 i0 (.agg #[.int .i64 0,.int .i64 0,.int .i64 0,.bool false]) 4 32 Crz.underlying24 hi hz0 hz1 hz2 rfl (by decide) _ 0 [] rfl hown (some ad) l.length c vs rfl HL.out (hz.ext (qA (Below.refl _ _) _)) HO.out (by simp only [maxLen];omega) (by omega) (by simp) (by simp) ?_;intro v' w1 hown1 hgrow)
  obtain⟨A',c',rfl,_,_⟩:=own_shape hown1
  go_ret
  simp only [Nat.zero_add,List.nil_append] at hown1
  exact⟨A',c',by simp,by rw [HV.out];exact hown1,ext_grown (qA (Below.refl _ _) _) hgrow (own_row hown)⟩
def PieceOwn(w:World)(base:Nat)(p:PieceM)(l:List Value):Prop :=
 ∃ A c,l=[.int .u8 p.letter,.int .i64 p.hand,.int .i64 p.promote,.slice A p.ways.length c]∧w.ownsRow base 110 4 (.slice A p.ways.length c) p.ways.length (p.ways.flatMap WayM.vals)
def PiecesPart(w:World)(base:Nat)(ps:List PieceM)(k:Nat)(vss:List (List Value)):Prop :=
 vss.length=k∧∀ (i:Nat) (p:PieceM) (l:List Value),ps[i]? = some p→vss[i]? = some l→PieceOwn w base p l
theorem PiecesPart.keep{w w':World}{base k:Nat}{ps:List PieceM}{vss:List (List Value)}(h:PiecesPart w base ps k vss)
  (hk:∀ (v:Value) (n:Nat) (xs:List Value),w.ownsRow base 110 4 v n xs→w'.ownsRow base 110 4 v n xs):PiecesPart w' base ps k vss :=
 ⟨h.1,fun i p l a b=>by
  obtain⟨A,c,e,ho⟩:=h.2 i p l a b
  exact⟨A,c,e,hk _ _ _ ho⟩⟩
theorem PiecesPart.step{w:World}{base k:Nat}{ps:List PieceM}{vss:List (List Value)}{q:PieceM}{l:List Value}(h:PiecesPart w base ps k vss)(hq:ps[k]? = some q)(ho:PieceOwn w base q l):PiecesPart w base ps (k+1) (vss++[l]):=by
 refine⟨by simp [h.1],fun i p l' a b=>?_⟩
 by_cases e:i<k
 ·rw [List.getElem?_append_left (by rw [h.1];exact e)] at b
  exact h.2 i p l' a b
 ·by_cases e2:i=k
  ·subst e2
   rw [hq] at a
   injection a with a
   subst a
   rw [List.getElem?_append_right (by rw [h.1];omega),h.1] at b
   simp at b
   subst b
   exact ho
  ·rw [List.getElem?_append_right (by rw [h.1];omega),h.1] at b
   have:i-k≠0:=by omega
   match hik:i-k,b with
   | 0,_=>omega
   | j+1,b=>simp at b
theorem PiecesPart.done{w:World}{base n:Nat}{ps:List PieceM}{vss:List (List Value)}{A:Option Addr}{c:Nat}(h:PiecesPart w base ps n vss)(hn:ps.length=n)(ho:w.ownsRow base 73 4 (.slice A n c) n vss.flatten):PiecesAt w A ps :=
 ⟨vss,(own_cells ho).1,by rw [h.1,hn],fun i p l a b=>by
  obtain⟨A',c',e,ho'⟩:=h.2 i p l a b
  exact⟨A',c',e,(own_cells ho').1⟩⟩
theorem pieceInfo:(Crz.prog.info? 73).map (fun i=>(i.zero,i.size,i.bytes))=some (some (.agg #[.int .u8 0,.int .i64 0,.int .i64 0,.slice none 0 0]),4,48):=by kernel_rfl
set_option maxHeartbeats 1000000 in
set_option maxRecDepth 100000 in
theorem copy_core(s0:ByteArray)(x1 x2 x8 x9 x10:Int)(f5 f6:Bool)(pA sA eA:Option Addr)(n pc sc ec:Nat)(ps:List PieceM)(ss:List Int)(es:List EndM)(w:World)(hn:ps.length=n)(h6:n≤6)(hw:∀ p∈ps,p.ways.length≤16)(hs64:ss.length≤64)(he6:es.length≤6)
  (hp:PiecesAt w pA ps) (hs:IntsAt w sA ss) (he:EndsAt w eA es) :
  Calls Crz.prog 56 #[.agg #[.string s0,.int .i64 x1,.int .i64 x2,.slice pA n pc,.slice sA ss.length sc,.bool f5,.bool f6,.slice eA es.length ec,.int .i64 x8,.int .i64 x9,.int .i64 x10]] w fun e w'=>∃ pA' pc' sA' sc' eA' ec' vss base,e=.returned (.agg #[.string s0,.int .i64 x1,.int .i64 x2,.slice pA' n pc',.slice sA' ss.length sc',.bool f5,.bool f6,.slice eA' es.length ec',.int .i64 x8,.int .i64 x9,.int .i64 x10])∧w.heap.size≤base ∧
   w'.ownsRow base 73 4 (.slice pA' n pc') n vss.flatten∧PiecesPart w' base ps n vss∧w'.ownsRow base 3 1 (.slice sA' ss.length sc') ss.length (ss.map (Value.int .i64))∧w'.ownsRow base 75 4 (.slice eA' es.length ec') es.length (es.flatMap EndM.vals)∧Ext w w':=by
 have HN:=hide hn
 have HW:=hide hw
 obtain⟨i0,hi,hz0,hz1,hz2⟩:=info_parts pieceInfo
 clear hn hw
 go_enter Crz.func56,Tryz.ntmps56
 go_wp2
 have X1:Ext w (((w.alloc (.cells #[.string s0,.int .i64 x1,.int .i64 x2,.slice pA n pc,.slice sA ss.length sc,.bool f5,.bool f6,.slice eA es.length ec,.int .i64 x8,.int .i64 x9,.int .i64 x10] 26)).alloc (.cells #[.string ⟨#[]⟩,.int .i64 0,.int .i64 0,.slice none 0 0,.slice none 0 0,.bool false,.bool false,.slice none 0 0,.int .i64 0,.int .i64 0,.int .i64 0] 26)).alloc (.cells #[.string s0,.int .i64 x1,.int .i64 x2,.slice none 0 0,.slice sA ss.length sc,.bool f5,.bool f6,.slice eA es.length ec,.int .i64 x8,.int .i64 x9,.int .i64 x10] 26)):=qA (qA (qA (Below.refl _ _) _) _) _
 have K1:=((Blk.new w 26 #[.string s0,.int .i64 x1,.int .i64 x2,.slice pA n pc,.slice sA ss.length sc,.bool f5,.bool f6,.slice eA es.length ec,.int .i64 x8,.int .i64 x9,.int .i64 x10]).alloc (.cells #[.string ⟨#[]⟩,.int .i64 0,.int .i64 0,.slice none 0 0,.slice none 0 0,.bool false,.bool false,.slice none 0 0,.int .i64 0,.int .i64 0,.int .i64 0] 26)).alloc (.cells #[.string s0,.int .i64 x1,.int .i64 x2,.slice none 0 0,.slice sA ss.length sc,.bool f5,.bool f6,.slice eA es.length ec,.int .i64 x8,.int .i64 x9,.int .i64 x10] 26)
 have K2:=(Blk.new (w.alloc (.cells #[.string s0,.int .i64 x1,.int .i64 x2,.slice pA n pc,.slice sA ss.length sc,.bool f5,.bool f6,.slice eA es.length ec,.int .i64 x8,.int .i64 x9,.int .i64 x10] 26)) 26 #[.string ⟨#[]⟩,.int .i64 0,.int .i64 0,.slice none 0 0,.slice none 0 0,.bool false,.bool false,.slice none 0 0,.int .i64 0,.int .i64 0,.int .i64 0]).alloc (.cells #[.string s0,.int .i64 x1,.int .i64 x2,.slice none 0 0,.slice sA ss.length sc,.bool f5,.bool f6,.slice eA es.length ec,.int .i64 x8,.int .i64 x9,.int .i64 x10] 26)
 have K3:=Blk.new ((w.alloc (.cells #[.string s0,.int .i64 x1,.int .i64 x2,.slice pA n pc,.slice sA ss.length sc,.bool f5,.bool f6,.slice eA es.length ec,.int .i64 x8,.int .i64 x9,.int .i64 x10] 26)).alloc (.cells #[.string ⟨#[]⟩,.int .i64 0,.int .i64 0,.slice none 0 0,.slice none 0 0,.bool false,.bool false,.slice none 0 0,.int .i64 0,.int .i64 0,.int .i64 0] 26)) 26 #[.string s0,.int .i64 x1,.int .i64 x2,.slice none 0 0,.slice sA ss.length sc,.bool f5,.bool f6,.slice eA es.length ec,.int .i64 x8,.int .i64 x9,.int .i64 x10]
 have hS1:(w.alloc (.cells #[.string s0,.int .i64 x1,.int .i64 x2,.slice pA n pc,.slice sA ss.length sc,.bool f5,.bool f6,.slice eA es.length ec,.int .i64 x8,.int .i64 x9,.int .i64 x10] 26)).heap.size=w.heap.size+1:=by simp
 have hS2:((w.alloc (.cells #[.string s0,.int .i64 x1,.int .i64 x2,.slice pA n pc,.slice sA ss.length sc,.bool f5,.bool f6,.slice eA es.length ec,.int .i64 x8,.int .i64 x9,.int .i64 x10] 26)).alloc (.cells #[.string ⟨#[]⟩,.int .i64 0,.int .i64 0,.slice none 0 0,.slice none 0 0,.bool false,.bool false,.slice none 0 0,.int .i64 0,.int .i64 0,.int .i64 0] 26)).heap.size=w.heap.size+1+1:=by simp
 rw [hS1] at K2
 rw [hS2] at K3
 clear hS1 hS2
 generalize (((w.alloc _).alloc _).alloc _)=w1 at *
 have hb13:¬ w.heap.size=w.heap.size+1+1:=by omega
 have hb23:¬ w.heap.size+1=w.heap.size+1+1:=by omega
 have hb12:w.heap.size<w.heap.size+1+1+1:=by omega
 have hb22:w.heap.size+1<w.heap.size+1+1+1:=by omega
 have hb32:w.heap.size+1+1<w.heap.size+1+1+1:=by omega
 have hbw:w.heap.size≤w.heap.size+1+1:=by omega
 have hbw2:w.heap.size≤w.heap.size+1:=by omega
 have hb4:w.heap.size+1+1+1≤w1.heap.size:=K3.lt
 generalize hB4:w.heap.size+1+1+1=B4 at *
 generalize hB3:w.heap.size+1+1=B3 at *
 generalize hB2:w.heap.size+1=B2 at *
 generalize hB1:w.heap.size=B1 at *
 have HB1:=hide hB1
 clear hB1 hB2 hB3 hB4
 go_loopw [5,11] (fun _ i wr=>∃ (k:Nat) (pv:Value) (vss:List (List Value)),k≤n∧i=.int .i64 k∧Blk wr B1 26 #[.string s0,.int .i64 x1,.int .i64 x2,.slice pA n pc,.slice sA ss.length sc,.bool f5,.bool f6,.slice eA es.length ec,.int .i64 x8,.int .i64 x9,.int .i64 x10]∧Blk wr B2 26 #[.string ⟨#[]⟩,.int .i64 0,.int .i64 0,.slice none 0 0,.slice none 0 0,.bool false,.bool false,.slice none 0 0,.int .i64 0,.int .i64 0,.int .i64 0]∧Blk wr B3 26 #[.string s0,.int .i64 x1,.int .i64 x2,pv,.slice sA ss.length sc,.bool f5,.bool f6,.slice eA es.length ec,.int .i64 x8,.int .i64 x9,.int .i64 x10]∧wr.ownsRow B4 73 4 pv k vss.flatten∧PiecesPart wr B4 ps k vss∧Ext w wr∧B4≤wr.heap.size) (fun _ i _=>n-(intOf i).toNat)
 case atStart=>exact⟨0,.slice none 0 0,[],Nat.zero_le _,rfl,K1,K2,K3,World.ownsRow_nil _ _ _ _,⟨rfl,fun i p l a b=>by simp at b⟩,X1,hb4⟩
 case round =>
  obtain⟨k,pv,vss,hk,rfl,k1,k2,k3,hown,hpart,hext,hB4⟩:=hrel
  clear K1 K2 K3 X1 hb4
  have g3:wr.cell? ⟨B1,3,none⟩=some (.slice pA n pc):=k1.cell 3
  by_cases hlt:k<n
  ·have hkl:k<ps.length:=by rw [HN.out];exact hlt
   have hget:ps[k]? = some ps[k]:=List.getElem?_eq_getElem hkl
   have hwl:=HW.out ps[k] (List.getElem_mem _)
   have HG:=hide hget
   obtain⟨b,o,wA,wc,rfl,c0,c1,c2,c3,hways⟩:=(hp.ext hext).get hget
   clear hget hp
   generalize ps[k]=q at *
   have HCL:=hide (clone_Ways wA q.ways.length wc q.ways (wr.alloc (.cells #[.int .u8 q.letter,.int .i64 q.hand,.int .i64 q.promote,.slice wA q.ways.length wc] 73)) rfl (by omega) (CellsAt.ext hways (qA (Below.refl _ _) _)))
   have kp:=Blk.new wr 73 #[.int .u8 q.letter,.int .i64 q.hand,.int .i64 q.promote,.slice wA q.ways.length wc]
   have HWL:=hide hways
   clear hways
   go_wp2_with fail
   refine HCL.out.mono ?_
   rintro e w2 ⟨A2,c2',rfl,hownW,y2⟩
   have Y2:=qT (qA (Below.refl wr.heap.size wr) _) y2
   have k1':=k1.ext Y2
   have k2':=k2.ext Y2
   have k3':=k3.ext Y2
   have kp':=kp.ext y2
   have hown':=own_ext hown Y2
   have hpart':=hpart.keep (fun v n xs h=>own_ext h Y2)
   have hext':=qT hext Y2
   have hlt3:=k3.lt
   have hsz2:=y2.size
   have hownW':=own_mono (base':=B4) hownW (by simp;omega)
   have hne:=own_blk_ne hownW kp' (by decide)
   have hlp:pv.ownBlock≠some wr.heap.size:=fun h=>by have:=hown.lt _ h;omega
   have d0:w2.cell? ⟨wr.heap.size,0,none⟩=some (.int .u8 q.letter):=kp'.cell 0
   have d1:w2.cell? ⟨wr.heap.size,1,none⟩=some (.int .i64 q.hand):=kp'.cell 1
   have d2:w2.cell? ⟨wr.heap.size,2,none⟩=some (.int .i64 q.promote):=kp'.cell 2
   have d3:w2.cell? ⟨wr.heap.size,3,none⟩=some (.slice wA q.ways.length wc):=kp'.cell 3
   have dz:=kp'.frozen 3
   have hne3:¬ B3=wr.heap.size:=by omega
   have hne3':¬ wr.heap.size=B3:=by omega
   have o3:w2.cell? ⟨B3,3,none⟩=some pv:=k3'.cell 3
   have k1s:=k1'.far (p:=⟨wr.heap.size,3,none⟩) (by show B1≠wr.heap.size;omega) (.slice A2 q.ways.length c2')
   have k2s:=k2'.far (p:=⟨wr.heap.size,3,none⟩) (by show B2≠wr.heap.size;omega) (.slice A2 q.ways.length c2')
   have k3s:=k3'.far (p:=⟨wr.heap.size,3,none⟩) (by show B3≠wr.heap.size;omega) (.slice A2 q.ways.length c2')
   have kps:=kp'.set_ 3 (.slice A2 q.ways.length c2')
   have hhS:w2.heap.size≤(w2.setCell ⟨wr.heap.size,3,none⟩ (.slice A2 q.ways.length c2')).heap.size:=by simp [World.setCell]
   have exs:Ext w (w2.setCell ⟨wr.heap.size,3,none⟩ (.slice A2 q.ways.length c2')):=qS hext' (by show w.heap.size≤wr.heap.size;exact hext.size) _
   have howns:=own_set hown' (p:=⟨wr.heap.size,3,none⟩) hlp (.slice A2 q.ways.length c2')
   have hownWs:=own_set hownW' (p:=⟨wr.heap.size,3,none⟩) hne (.slice A2 q.ways.length c2')
   have hparts:PiecesPart (w2.setCell ⟨wr.heap.size,3,none⟩ (.slice A2 q.ways.length c2')) B4 ps k vss:=hpart'.keep (fun v n xs h=>own_set h (p:=⟨wr.heap.size,3,none⟩) (own_blk_ne h kp' (by decide)) _)
   have hB4s:B4≤(w2.setCell ⟨wr.heap.size,3,none⟩ (.slice A2 q.ways.length c2')).heap.size:=Nat.le_trans hB4 (Nat.le_trans Y2.size hhS)
   clear hownW hownW' hown hown' hpart hpart' hext hext' k1 k1' k2 k2' k3 k3' hhS HCL y2 Y2 c0 c1 c2 c3
   have q1:=hide k1s
   have q2:=hide k2s
   have q3:=hide k3s
   have q4:=hide kps
   have q5:=hide exs
   have q6:=hide howns
   have q7:=hide hownWs
   have q8:=hide hparts
   have q9:=hide hB4s
   clear k1s k2s k3s kps exs howns hownWs hparts hB4s kp kp' hne hlp
   have hsz:(w2.setCell ⟨wr.heap.size,3,none⟩ (.slice A2 q.ways.length c2')).heap.size=w2.heap.size:=by simp [World.setCell]
   have hnews:=cellsAt_new (w2.setCell ⟨wr.heap.size,3,none⟩ (.slice A2 q.ways.length c2')) 73 [.int .u8 q.letter,.int .i64 q.hand,.int .i64 q.promote,.slice A2 q.ways.length c2']
   rw [hsz] at hnews
   have q10:=hide hnews
   have hk4:k+1≤6:=by omega
   clear hnews hsz
   go_wp2_with (at_builtin;refine wpList_append_cells _ rfl (.tmp 20) (.tmp 22) 22 rfl B4 73 i0 _ 4 48 Crz.underlying22 hi hz0 hz1 hz2 rfl (by decide) pv k vss.flatten rfl (q6.out.alloc _) (some ⟨w2.heap.size,0,none⟩) 1 1 [.int .u8 q.letter,.int .i64 q.hand,.int .i64 q.promote,.slice A2 q.ways.length c2'] rfl rfl q10.out ?one (by simp only [maxLen];omega) (by omega) ?base (by simp) ?_)
   case one=>intro u hu;simp at hu;rcases hu with rfl | rfl | rfl | rfl <;> rfl
   case base=>have:=q9.out;simp;simp [World.setCell] at this;omega
   intro v4 w4 hown4 hgrow
   obtain⟨A4,c4,rfl,_,_⟩:=own_shape hown4
   have hrow:∀ g,g<B4→some g≠pv.ownBlock:=fun g hg h=>by have:=(q6.out.lt g h.symm).1;omega
   have k1w:=(q1.out.alloc (.cells #[.int .u8 q.letter,.int .i64 q.hand,.int .i64 q.promote,.slice A2 q.ways.length c2'] 73)).grown hgrow (hrow B1 hb12)
   have k2w:=(q2.out.alloc (.cells #[.int .u8 q.letter,.int .i64 q.hand,.int .i64 q.promote,.slice A2 q.ways.length c2'] 73)).grown hgrow (hrow B2 hb22)
   have k3w:=(q3.out.alloc (.cells #[.int .u8 q.letter,.int .i64 q.hand,.int .i64 q.promote,.slice A2 q.ways.length c2'] 73)).grown hgrow (hrow B3 hb32)
   have hpw:PiecesPart w4 B4 ps k vss:=q8.out.keep (fun v n xs h=>(h.alloc _).kept hgrow (own_ne h q6.out (by decide)))
   have hqw:PieceOwn w4 B4 q [.int .u8 q.letter,.int .i64 q.hand,.int .i64 q.promote,.slice A2 q.ways.length c2']:=⟨A2,c2',rfl,(q7.out.alloc _).kept hgrow (own_ne q7.out q6.out (by decide))⟩
   have hpw2:=hpw.step HG.out hqw
   have hexw:Ext w w4:=ext_grown (qA q5.out _) hgrow (fun g hg=>by have:=(q6.out.lt g hg).1;rw [HB1.out];omega)
   have hB4w:B4≤w4.heap.size:=by have:=hgrow.size;have h2:=q9.out;simp [World.setCell] at this h2;omega
   have o4:w4.cell? ⟨B3,3,none⟩=some pv:=k3w.cell 3
   have z4:=k3w.frozen 3
   have hnb:(Value.slice A4 (k+1) c4).ownBlock≠some B3:=fun h=>by have:=(hown4.lt B3 h).1;omega
   have hown5:=own_set hown4 (p:=⟨B3,3,none⟩) hnb (.slice A4 (k+1) c4)
   have hpw5:PiecesPart (w4.setCell ⟨B3,3,none⟩ (.slice A4 (k+1) c4)) B4 ps (k+1) (vss++[[.int .u8 q.letter,.int .i64 q.hand,.int .i64 q.promote,.slice A2 q.ways.length c2']]):=hpw2.keep (fun v n xs h=>own_set h (p:=⟨B3,3,none⟩) (fun h2=>by have:=(h.lt B3 h2).1;omega) _)
   have e1:=hide (k1w.far (p:=⟨B3,3,none⟩) (by show B1≠B3;omega) (.slice A4 (k+1) c4))
   have e2:=hide (k2w.far (p:=⟨B3,3,none⟩) (by show B2≠B3;omega) (.slice A4 (k+1) c4))
   have e3:=hide (k3w.set_ 3 (.slice A4 (k+1) c4))
   have e4:=hide hown5
   have e5:=hide hpw5
   have e6:=hide (qS hexw (p:=⟨B3,3,none⟩) (by rw [HB1.out];exact hbw) (.slice A4 (k+1) c4))
   have e7:Hid (B4≤(w4.setCell ⟨B3,3,none⟩ (.slice A4 (k+1) c4)).heap.size):=hide (by simp [World.setCell];omega)
   clear q1 q2 q3 q4 q5 q6 q7 q8 q9 q10 hgrow hrow k1w k2w k3w hpw hqw hpw2 hexw hnb hown5 hpw5 hown4
   go_wp2
   go_roundw
   case rel =>
    refine⟨k+1,.slice A4 (k+1) c4,vss++[[.int .u8 q.letter,.int .i64 q.hand,.int .i64 q.promote,.slice A2 q.ways.length c2']],by omega,by go_num,e1.out,e2.out,?_,?_,e5.out,e6.out,e7.out⟩
    ·exact e3.out
    ·have:=e4.out
     rw [List.flatten_append]
     simpa using this
   case measure=>simp [intOf];omega
  ·obtain rfl:k=n:=by omega
   have f4:wr.cell? ⟨B1,4,none⟩=some (.slice sA ss.length sc):=k1.cell 4
   have f7:wr.cell? ⟨B1,7,none⟩=some (.slice eA es.length ec):=k1.cell 7
   have H4:Hid (∀ W,Ext w W→Calls Crz.prog 89 #[.slice sA ss.length sc] W (OwnInts W ss)):=hide (fun W hW=>cloneInts_any sA ss.length sc ss W rfl (by omega) (fun e=>by
    subst e
    by_cases h0:ss.length=0
    ·exact h0
    ·obtain⟨_,_,e,_⟩:=hs 0 (by omega)
     cases e) (hs.ext hW))
   have H7:Hid (∀ W,Ext w W→Calls Crz.prog 90 #[.slice eA es.length ec] W (OwnEnds W es)):=hide (fun W hW=>clone_Ends eA es.length ec es W rfl (by omega) (CellsAt.ext he hW))
   obtain⟨A3,c3,rfl,_,_⟩:=own_shape hown
   have HPT:Hid (PiecesPart wr.drew B4 ps k vss):=hide hpart
   have HOW:Hid (wr.drew.ownsRow B4 73 4 (.slice A3 k c3) k vss.flatten):=hide hown
   have hexd:Ext w wr.drew:=Below.drew hext
   have k1d:=k1.drew
   have k2d:=k2.drew
   have k3d:=k3.drew
   have hB4d:B4≤wr.drew.heap.size:=hB4
   clear hp hs he hpart hown
   go_wp2
   go_region_with (first
    | (go_at_call 89;refine(H4.out _ hexd).mono ?_;rintro e w5 ⟨A5,c5,rfl,hown5,x5⟩;have y5:=qT hexd x5;have k1a:=k1d.ext x5;have k2a:=k2d.ext x5;have k3a:=k3d.ext x5;have f7a:w5.cell? ⟨B1,7,none⟩=some (.slice eA es.length ec):=k1a.cell 7)
    | (go_at_call 90;refine(H7.out _ y5).mono ?_;rintro e w6 ⟨A6,c6,rfl,hown6,x6⟩;have k2b:=k2a.ext x6;have k3b:=k3a.ext x6;have zf2:=k2b.frozen;have zf3:=k3b.frozen;have m0:w6.cell? ⟨B3,0,none⟩=some (.string s0):=k3b.cell 0;have m1:w6.cell? ⟨B3,1,none⟩=some (.int .i64 x1):=k3b.cell 1;have m2:w6.cell? ⟨B3,2,none⟩=some (.int .i64 x2):=k3b.cell 2;have m3:w6.cell? ⟨B3,3,none⟩=some (.slice A3 k c3):=k3b.cell 3;have m4:w6.cell? ⟨B3,4,none⟩=some (.slice sA ss.length sc):=k3b.cell 4;have m5:w6.cell? ⟨B3,5,none⟩=some (.bool f5):=k3b.cell 5;have m6:w6.cell? ⟨B3,6,none⟩=some (.bool f6):=k3b.cell 6;have m7:w6.cell? ⟨B3,7,none⟩=some (.slice eA es.length ec):=k3b.cell 7;have m8:w6.cell? ⟨B3,8,none⟩=some (.int .i64 x8):=k3b.cell 8;have m9:w6.cell? ⟨B3,9,none⟩=some (.int .i64 x9):=k3b.cell 9;have m10:w6.cell? ⟨B3,10,none⟩=some (.int .i64 x10):=k3b.cell 10;have z0:w6.cell? ⟨B2,0,none⟩=some (.string ⟨#[]⟩):=k2b.cell 0;have z1:w6.cell? ⟨B2,1,none⟩=some (.int .i64 0):=k2b.cell 1;have z2:w6.cell? ⟨B2,2,none⟩=some (.int .i64 0):=k2b.cell 2;have z3:w6.cell? ⟨B2,3,none⟩=some (.slice none 0 0):=k2b.cell 3;have z4:w6.cell? ⟨B2,4,none⟩=some (.slice none 0 0):=k2b.cell 4;have z5:w6.cell? ⟨B2,5,none⟩=some (.bool false):=k2b.cell 5;have z6:w6.cell? ⟨B2,6,none⟩=some (.bool false):=k2b.cell 6;have z7:w6.cell? ⟨B2,7,none⟩=some (.slice none 0 0):=k2b.cell 7;have z8:w6.cell? ⟨B2,8,none⟩=some (.int .i64 0):=k2b.cell 8;have z9:w6.cell? ⟨B2,9,none⟩=some (.int .i64 0):=k2b.cell 9;have z10:w6.cell? ⟨B2,10,none⟩=some (.int .i64 0):=k2b.cell 10))
   all_goals
    go_wp2
    have kf:=blk_set11 ((k2b.far (p:=⟨B3,4,none⟩) hb23 (.slice A5 ss.length c5)).far (p:=⟨B3,7,none⟩) hb23 (.slice A6 es.length c6)) (u0:=(.string s0)) (u1:=(.int .i64 x1)) (u2:=(.int .i64 x2)) (u3:=(.slice A3 k c3)) (u4:=(.slice A5 ss.length c5)) (u5:=(.bool f5)) (u6:=(.bool f6)) (u7:=(.slice A6 es.length c6)) (u8:=(.int .i64 x8)) (u9:=(.int .i64 x9)) (u10:=(.int .i64 x10))
    have xf:=(qS (qS (qS (qS (qS (qS (qS (qS (qS (qS (qS (qS (qS (qT y5 x6) (p:=⟨B3,4,none⟩) (by rw [HB1.out];exact hbw) (.slice A5 ss.length c5)) (p:=⟨B3,7,none⟩) (by rw [HB1.out];exact hbw) (.slice A6 es.length c6)) (p:=⟨B2,0,none⟩) (by rw [HB1.out];exact hbw2) (.string s0)) (p:=⟨B2,1,none⟩) (by rw [HB1.out];exact hbw2) (.int .i64 x1)) (p:=⟨B2,2,none⟩) (by rw [HB1.out];exact hbw2) (.int .i64 x2)) (p:=⟨B2,3,none⟩) (by rw [HB1.out];exact hbw2) (.slice A3 k c3)) (p:=⟨B2,4,none⟩) (by rw [HB1.out];exact hbw2) (.slice A5 ss.length c5)) (p:=⟨B2,5,none⟩) (by rw [HB1.out];exact hbw2) (.bool f5)) (p:=⟨B2,6,none⟩) (by rw [HB1.out];exact hbw2) (.bool f6)) (p:=⟨B2,7,none⟩) (by rw [HB1.out];exact hbw2) (.slice A6 es.length c6)) (p:=⟨B2,8,none⟩) (by rw [HB1.out];exact hbw2) (.int .i64 x8)) (p:=⟨B2,9,none⟩) (by rw [HB1.out];exact hbw2) (.int .i64 x9)) (p:=⟨B2,10,none⟩) (by rw [HB1.out];exact hbw2) (.int .i64 x10))
    have hk:=(heap_set_from (heap_set_from (heap_set_from (heap_set_from (heap_set_from (heap_set_from (heap_set_from (heap_set_from (heap_set_from (heap_set_from (heap_set_from (heap_set_from (heap_set_from (w0:=w6) (fun _ _=>rfl) (p:=⟨B3,4,none⟩) hb32 (.slice A5 ss.length c5)) (p:=⟨B3,7,none⟩) hb32 (.slice A6 es.length c6)) (p:=⟨B2,0,none⟩) hb22 (.string s0)) (p:=⟨B2,1,none⟩) hb22 (.int .i64 x1)) (p:=⟨B2,2,none⟩) hb22 (.int .i64 x2)) (p:=⟨B2,3,none⟩) hb22 (.slice A3 k c3)) (p:=⟨B2,4,none⟩) hb22 (.slice A5 ss.length c5)) (p:=⟨B2,5,none⟩) hb22 (.bool f5)) (p:=⟨B2,6,none⟩) hb22 (.bool f6)) (p:=⟨B2,7,none⟩) hb22 (.slice A6 es.length c6)) (p:=⟨B2,8,none⟩) hb22 (.int .i64 x8)) (p:=⟨B2,9,none⟩) hb22 (.int .i64 x9)) (p:=⟨B2,10,none⟩) hb22 (.int .i64 x10))
    have o3:=own_from (own_ext HOW.out (qT x5 x6)) (Nat.le_refl _) hk
    have o4:=own_from (own_ext (own_mono (base':=B4) hown5 hB4d) x6) (Nat.le_refl _) hk
    have o7:=own_from (own_mono (base':=B4) hown6 (Nat.le_trans hB4d x5.size)) (Nat.le_refl _) hk
    have p3:=HPT.out.keep (fun v n xs h=>own_from (own_ext h (qT x5 x6)) (Nat.le_refl _) hk)
    clear hk
    generalize (((((((((((((w6.setCell ⟨B3,4,none⟩ (.slice A5 ss.length c5)).setCell ⟨B3,7,none⟩ (.slice A6 es.length c6)).setCell ⟨B2,0,none⟩ (.string s0)).setCell ⟨B2,1,none⟩ (.int .i64 x1)).setCell ⟨B2,2,none⟩ (.int .i64 x2)).setCell ⟨B2,3,none⟩ (.slice A3 k c3)).setCell ⟨B2,4,none⟩ (.slice A5 ss.length c5)).setCell ⟨B2,5,none⟩ (.bool f5)).setCell ⟨B2,6,none⟩ (.bool f6)).setCell ⟨B2,7,none⟩ (.slice A6 es.length c6)).setCell ⟨B2,8,none⟩ (.int .i64 x8)).setCell ⟨B2,9,none⟩ (.int .i64 x9)).setCell ⟨B2,10,none⟩ (.int .i64 x10))=Wf at *
    have r0:Wf.cell? ⟨B2,0,none⟩=some (.string s0):=kf.cell 0
    have r1:Wf.cell? ⟨B2,1,none⟩=some (.int .i64 x1):=kf.cell 1
    have r2:Wf.cell? ⟨B2,2,none⟩=some (.int .i64 x2):=kf.cell 2
    have r3:Wf.cell? ⟨B2,3,none⟩=some (.slice A3 k c3):=kf.cell 3
    have r4:Wf.cell? ⟨B2,4,none⟩=some (.slice A5 ss.length c5):=kf.cell 4
    have r5:Wf.cell? ⟨B2,5,none⟩=some (.bool f5):=kf.cell 5
    have r6:Wf.cell? ⟨B2,6,none⟩=some (.bool f6):=kf.cell 6
    have r7:Wf.cell? ⟨B2,7,none⟩=some (.slice A6 es.length c6):=kf.cell 7
    have r8:Wf.cell? ⟨B2,8,none⟩=some (.int .i64 x8):=kf.cell 8
    have r9:Wf.cell? ⟨B2,9,none⟩=some (.int .i64 x9):=kf.cell 9
    have r10:Wf.cell? ⟨B2,10,none⟩=some (.int .i64 x10):=kf.cell 10
    refine bodyPost_ret (v:=.agg #[.string s0,.int .i64 x1,.int .i64 x2,.slice A3 k c3,.slice A5 ss.length c5,.bool f5,.bool f6,.slice A6 es.length c6,.int .i64 x8,.int .i64 x9,.int .i64 x10]) ?_ rfl ?_
    ·simp [results,Tryz.results56,go_sem,r0,r1,r2,r3,r4,r5,r6,r7,r8,r9,r10]
    ·exact⟨A3,c3,A5,c5,A6,c6,vss,B4,rfl,by rw [HB1.out];omega,o3,p3,o4,o7,xf⟩
def RulesOwn(w:World)(base:Nat)(v:Value)(R:RM):Prop :=
 ∃ pA pc sA sc eA ec vss,v=.agg #[.string R.name,.int .i64 R.width,.int .i64 R.height,.slice pA R.pieces.length pc,.slice sA R.start.length sc,.bool R.falls,.bool R.keeps,.slice eA R.ends.length ec,.int .i64 R.blocked,.int .i64 R.quiet,.int .i64 R.rept] ∧
  w.ownsRow base 73 4 (.slice pA R.pieces.length pc) R.pieces.length vss.flatten∧PiecesPart w base R.pieces R.pieces.length vss∧w.ownsRow base 3 1 (.slice sA R.start.length sc) R.start.length (R.start.map (Value.int .i64))∧w.ownsRow base 75 4 (.slice eA R.ends.length ec) R.ends.length (R.ends.flatMap EndM.vals)∧R.name.size≤9223372036854775807
theorem RulesOwn.at_{w:World}{base:Nat}{v:Value}{R:RM}(h:RulesOwn w base v R):RA w v R:=by
 obtain⟨pA,pc,sA,sc,eA,ec,vss,e,h1,h2,h3,h4,h5⟩:=h
 exact⟨pA,pc,sA,sc,eA,ec,e,h2.done rfl h1,cells_ints (own_cells h3).1,(own_cells h4).1,own_cap h1,own_cap h3,own_cap h4,h5⟩
end Go.Proofs.YtdoibgmmijhlfaaGreat
