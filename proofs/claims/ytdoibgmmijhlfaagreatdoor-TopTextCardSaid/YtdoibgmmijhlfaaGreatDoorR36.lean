/- RtB RtC RtW1 -/
import Derived.Test.YtdoibgmmijhlfaaGreatDoorR02
import Derived.Test.YtdoibgmmijhlfaaGreatDoorR08
import Derived.Test.YtdoibgmmijhlfaaGreatDoorR04
import Derived.Test.YtdoibgmmijhlfaaGreatDoorR01
namespace Go.Proofs.YtdoibgmmijhlfaaGreatDoor
open Go.Lib
set_option linter.unusedVariables false
def Good (w : BL) : Prop:=∀ b ∈ w,33≤b.toNat
def goodB (w : BL) : Bool:=w.all fun b => decide (33≤b.toNat)
theorem good_of {w : BL} (h : goodB w=true) : Good w:=fun b hb => of_decide_eq_true (List.all_eq_true.1 h b hb)
theorem Good.ne {w : BL} (h : Good w) : ∀ b ∈ w,b ≠ 32:=fun b hb e => by have:=h b hb; rw [e] at this; exact absurd this (by decide)
theorem split_line {ws : List BL} (h0 : ws ≠ []) (h : ∀ w ∈ ws,Good w) : splitL 32 (lineT ws)=ws:=split_join h0 fun w hw => (h w hw).ne
theorem next_yes {word : BL} {n : Nat} {x : RdM} {l : List BL} {ls : List BL} (hl : x.lines=lineT (word :: l) :: ls) (hg : ∀ w ∈ word :: l,Good w) (hn : l.length=n) : nextR word n x=some (l,{ x with lines:=ls }):=by
  unfold nextR
  rw [hl]
  simp only
  rw [split_line (by simp) hg]
  rw [if_pos ⟨rfl,by rw [List.length_cons,hn]⟩]
  rfl
def Head (L : List BL) (w : BL) : Prop:=∃ l ls,L=lineT (w :: l) :: ls∧∀ u ∈ w :: l,Good u
theorem next_no {word w : BL} {n : Nat} {x : RdM} (hl : Head x.lines w) (hw : w ≠ word) : nextR word n x=none:=by
  obtain ⟨l,ls,e,hg⟩:=hl
  unfold nextR
  rw [e]
  simp only
  rw [split_line (by simp) hg,if_neg (fun h => hw h.1)]
theorem must_yes {word : BL} {n : Nat} {x : RdM} {l : List BL} {ls : List BL} (hl : x.lines=lineT (word :: l) :: ls) (hg : ∀ w ∈ word :: l,Good w) (hn : l.length=n) : mustR word n x=(l,{ x with lines:=ls }):=by
  unfold mustR
  rw [next_yes hl hg hn]
theorem atoi_neg {u : Nat} (h0 : 1≤u) (h : u < 10000) : atoiAll (45 :: decDigits u)=.ok (-(u : Int)):=by
  have hd:=dec_dig u
  have hp : parseUint10 0 (decDigits u)=.ok u:=by
    rw [parse_val _ _ hd,val_dec]
    rw [decDigits_length]
    calc (0 + 1) * 10 ^ nDigits u≤1 * 10 ^ 4:=Nat.mul_le_mul_left _ (Nat.pow_le_pow_right (by decide) (nDigits_le4 h))
      _≤1000000:=by decide
  have hne:=dec_ne u
  unfold atoiAll
  have hm : parseMag (decDigits u)=.ok u:=by unfold parseMag; rw [if_neg (by simpa using hne)]; exact hp
  have e45 : (45 : UInt8).toNat=45:=rfl
  simp only [e45]
  simp only [or_true,not_true_eq_false,false_and,if_false,if_true]
  rw [hm]
  simp only []
  rw [if_neg (by omega)]
theorem atoi_itoa {n : Int} (h0 : -10000 < n) (h1 : n < 10000) : atoiAll (itoa n)=.ok n:=by
  by_cases hn : 0≤n
  · obtain ⟨u,rfl⟩:=Int.eq_ofNat_of_zero_le hn
    rw [itoa_nonneg]
    exact atoi_dec (by omega)
  · obtain ⟨u,hu⟩ : ∃ u : Nat,n=-(u : Int):=⟨n.natAbs,by omega⟩
    subst hu
    rw [itoa_neg u (by omega)]
    exact atoi_neg (by omega) (by omega)
theorem numV_itoa {n : Int} (h0 : -10000 < n) (h1 : n < 10000) : numV (itoa n)=n∧numBad (itoa n)=false:=by
  unfold numV numBad
  rw [atoi_itoa h0 h1]
  simp
theorem good_itoa (n : Int) : Good (itoa n):=by
  intro b hb
  unfold itoa at hb
  split at hb
  · rcases List.mem_cons.1 hb with rfl | hb
    · decide
    · have:=(digU_iff.1 (dec_dig _ b hb)).1; omega
  · have:=(digU_iff.1 (dec_dig _ b hb)).1; omega
theorem itoa_len8 {n : Int} (h0 : -10000 < n) (h1 : n < 10000) : (itoa n).length≤8:=by
  have h:=@nDigits_le4 n.natAbs (by omega)
  unfold itoa
  split
  · rw [List.length_cons,decDigits_length]
    have e : (-n).toNat=n.natAbs:=by omega
    first | omega | (rw [e]; omega)
  · rw [decDigits_length]
    have e : n.toNat=n.natAbs:=by omega
    first | omega | (rw [e]; omega)
theorem idx_take {k : Int} (h0 : 0≤k) (h1 : k≤2) : ixW takesL (takesL.getD k.toNat [])=k:=by
  rcases (show k=0∨k=1∨k=2 by omega) with rfl | rfl | rfl <;> decide
theorem idx_block {k : Int} (h0 : 0≤k) (h1 : k≤2) : ixW blocksL (blocksL.getD k.toNat [])=k:=by
  rcases (show k=0∨k=1∨k=2 by omega) with rfl | rfl | rfl <;> decide
theorem good_take {k : Int} (h0 : 0≤k) (h1 : k≤2) : Good (takesL.getD k.toNat [])∧(takesL.getD k.toNat []).length≤8:=by
  rcases (show k=0∨k=1∨k=2 by omega) with rfl | rfl | rfl <;> exact ⟨good_of (by decide),by decide⟩
theorem good_block {k : Int} (h0 : 0≤k) (h1 : k≤2) : Good (blocksL.getD k.toNat [])∧(blocksL.getD k.toNat []).length≤8:=by
  rcases (show k=0∨k=1∨k=2 by omega) with rfl | rfl | rfl <;> exact ⟨good_of (by decide),by decide⟩
theorem good_letT {ps : List PieceM} (h : Lets ps) {n : Int} (h0 : 0≤n) (h1 : n≤(ps.length : Int)) : Good (letT ps n)∧(letT ps n).length≤8:=by
  unfold letT
  split
  · exact ⟨good_of (by decide),by decide⟩
  · obtain ⟨p,hp⟩ : ∃ p,ps[(n - 1).toNat]? = some p:=⟨_,List.getElem?_eq_getElem (by omega)⟩
    rw [ps_get hp]
    have h2:=h.in_ _ p hp
    have h3:=chU_nat (x:=p.letter) (by omega) (by omega)
    refine ⟨fun b hb => ?_,by simp⟩
    obtain rfl:=List.mem_singleton.1 hb
    omega
theorem letT_ix {ps : List PieceM} (h : Lets ps) {n : Int} (h0 : 1≤n) (h1 : n≤(ps.length : Int)) : pieceIx ps (letT ps n)=n - 1∧letT ps n ≠ [45]:=by
  unfold letT
  rw [if_neg (by omega)]
  obtain ⟨p,hp⟩ : ∃ p,ps[(n - 1).toNat]? = some p:=⟨_,List.getElem?_eq_getElem (by omega)⟩
  rw [ps_get hp]
  have h2:=h.in_ _ p hp
  have h3:=chU_nat (x:=p.letter) (by omega) (by omega)
  refine ⟨?_,fun e => ?_⟩
  · show pieceK ps (chU p.letter)=_
    rw [piece_at h hp h3]
    omega
  · have e2 : chU p.letter=45:=by simpa using e
    rw [e2] at h3
    have : ((45 : UInt8).toNat : Int)=45:=rfl
    omega
theorem way_good {m : WayM} (h : wayB m=true) : ∀ w ∈ wayWs m,Good w∧w.length≤8:=by
  unfold wayB at h
  simp only [Bool.and_eq_true,inB_iff] at h
  obtain ⟨⟨⟨⟨h1,h2⟩,-⟩,h3⟩,h4⟩:=h
  intro w hw
  unfold wayWs at hw
  simp only [List.mem_cons,List.not_mem_nil,or_false] at hw
  rcases hw with rfl | rfl | rfl | rfl | rfl
  · exact ⟨good_of (by decide),by decide⟩
  · exact ⟨good_itoa _,itoa_len8 (by omega) (by omega)⟩
  · exact ⟨good_itoa _,itoa_len8 (by omega) (by omega)⟩
  · exact ⟨good_itoa _,itoa_len8 (by omega) (by omega)⟩
  · exact good_take h4.1 h4.2
theorem way_back {m : WayM} (h : wayB m=true) : wayV (wayWs m).tail=m∧wayBad (wayWs m).tail=false:=by
  unfold wayB at h
  simp only [Bool.and_eq_true,inB_iff] at h
  obtain ⟨⟨⟨⟨h1,h2⟩,-⟩,h3⟩,h4⟩:=h
  obtain ⟨a1,a2⟩:=numV_itoa (n:=m.dx) (by omega) (by omega)
  obtain ⟨b1,b2⟩:=numV_itoa (n:=m.dy) (by omega) (by omega)
  obtain ⟨c1,c2⟩:=numV_itoa (n:=m.most) (by omega) (by omega)
  have d:=idx_take h4.1 h4.2
  constructor
  · show (⟨numV (itoa m.dx),numV (itoa m.dy),numV (itoa m.most),max (ixW takesL (takesL.getD m.take.toNat [])) 0⟩ : WayM)=m
    rw [a1,b1,c1,d,show max m.take 0=m.take by omega]
  · show (((numBad (itoa m.dx) || numBad (itoa m.dy)) || numBad (itoa m.most)) || decide (ixW takesL (takesL.getD m.take.toNat []) < 0))=false
    rw [a2,b2,c2,d]
    exact decide_eq_false (by omega)
theorem ways_back : ∀ (ws : List WayM) (f : Nat) (x : RdM) (acc : List WayM) (rest : List BL),x.bad=false→x.lines=ws.map (fun m => lineT (wayWs m)) ++ rest→(∀ x',x'.lines=rest→nextR wWay 4 x'=none)→ws.length < f→(∀ m ∈ ws,wayB m=true)→waysR f x acc=({ x with lines:=rest },acc ++ ws)
  | [],0,x,acc,rest,hb,hl,hs,hf,hw => by simp at hf
  | [],f + 1,x,acc,rest,hb,hl,hs,hf,hw => by
    rw [waysR,hs x hl,List.append_nil]
    have : x.lines=rest:=hl
    rw [← this]
  | m :: ws,0,x,acc,rest,hb,hl,hs,hf,hw => by simp at hf
  | m :: ws,f + 1,x,acc,rest,hb,hl,hs,hf,hw => by
    have hm:=hw m List.mem_cons_self
    rw [waysR,next_yes (n:=4) (l:=(wayWs m).tail) (ls:=ws.map (fun m => lineT (wayWs m)) ++ rest) hl (fun w hw => (way_good hm w hw).1) rfl]
    simp only
    obtain ⟨e1,e2⟩:=way_back hm
    rw [e1,e2,ways_back ws f _ (acc ++ [m]) rest (by unfold RdM.mark; simp [hb]) rfl hs (by simpa using hf) (fun m hm => hw m (List.mem_cons_of_mem _ hm))]
    unfold RdM.mark
    simp
structure PieceOk (ps : List PieceM) (p : PieceM) : Prop where
  letter : 65≤p.letter∧p.letter≤90
  hand : 0≤p.hand∧p.hand≤64
  prom : 0≤p.promote∧p.promote≤(ps.length : Int)
  many : p.ways.length≤16
  ways : ∀ m ∈ p.ways,wayB m=true
theorem piece_good {ps : List PieceM} {p : PieceM} (hL : Lets ps) (h : PieceOk ps p) : ∀ w ∈ pieceWs ps p,Good w∧w.length≤8:=by
  intro w hw
  unfold pieceWs at hw
  simp only [List.mem_cons,List.not_mem_nil,or_false] at hw
  rcases hw with rfl | rfl | rfl | rfl
  · exact ⟨good_of (by decide),by decide⟩
  · refine ⟨fun b hb => ?_,by simp⟩
    obtain rfl:=List.mem_singleton.1 hb
    have h2:=h.letter
    have h3:=chU_nat (x:=p.letter) (by omega) (by omega)
    omega
  · have h2:=h.hand
    exact ⟨good_itoa _,itoa_len8 (by omega) (by omega)⟩
  · exact good_letT hL h.prom.1 h.prom.2
theorem let_back {z : Int} (h0 : 65≤z) (h1 : z≤90) : letOf [chU z]=some (chU z)∧((chU z).toNat : Int)=z:=by
  have h3:=chU_nat (x:=z) (by omega) (by omega)
  refine ⟨?_,h3⟩
  unfold letOf
  simp only
  rw [if_pos (by omega)]
theorem head_ways {ps : List PieceM} (hL : Lets ps) {rest : List BL} {w : BL} (hr : Head rest w) (qs : List PieceM) (hq : ∀ p ∈ qs,PieceOk ps p) : Head ((qs.flatMap (pieceLs ps)).map lineT ++ rest) (if qs=[] then w else wPiece):=by
  cases qs with
  | nil => rw [if_pos rfl]; exact hr
  | cons q qs =>
    rw [if_neg (by simp)]
    exact ⟨_,_,rfl,fun u hu => (piece_good hL (hq q List.mem_cons_self) u hu).1⟩
theorem pieces_back {ps : List PieceM} (hL : Lets ps) : ∀ (qs : List PieceM) (f : Nat) (x : RdM) (rest : List BL) (w : BL),x.bad=false→x.lines=(qs.flatMap (pieceLs ps)).map lineT ++ rest→Head rest w→w ≠ wPiece→w ≠ wWay→qs.length < f→(∀ p ∈ qs,PieceOk ps p) →
    piecesL f x=({ x with lines:=rest,tos:=x.tos ++ qs.map (fun q => letT ps q.promote),r:={ x.r with pieces:=x.r.pieces ++ qs.map (fun q => { q with promote:=0 }) } },true)
  | [],0,x,rest,w,hb,hl,hr,hw1,hw2,hf,hq => by simp at hf
  | [],f + 1,x,rest,w,hb,hl,hr,hw1,hw2,hf,hq => by
    have hl' : x.lines=rest:=hl
    rw [piecesL,next_no (by rw [hl']; exact hr) hw1,← hl']
    simp
  | q :: qs,0,x,rest,w,hb,hl,hr,hw1,hw2,hf,hq => by simp at hf
  | q :: qs,f + 1,x,rest,w,hb,hl,hr,hw1,hw2,hf,hq => by
    have hq0:=hq q List.mem_cons_self
    have hqs : ∀ p ∈ qs,PieceOk ps p:=fun p hp => hq p (List.mem_cons_of_mem _ hp)
    have hl2 : x.lines=lineT (wPiece :: [[chU q.letter],itoa q.hand,letT ps q.promote]) :: (q.ways.map (fun m => lineT (wayWs m)) ++ ((qs.flatMap (pieceLs ps)).map lineT ++ rest)):=by
      rw [hl,List.flatMap_cons,List.map_append,List.append_assoc]
      show lineT (pieceWs ps q) :: ((q.ways.map wayWs).map lineT ++ _)=_
      rw [List.map_map]
      rfl
    rw [piecesL,next_yes (n:=3) hl2 (fun w hw => (piece_good hL hq0 w hw).1) rfl]
    simp only
    obtain ⟨a1,a2⟩:=let_back hq0.letter.1 hq0.letter.2
    obtain ⟨n1,n2⟩:=numV_itoa (n:=q.hand) (by have:=hq0.hand; omega) (by have:=hq0.hand; omega)
    have hhd:=head_ways hL hr qs hqs
    show (match letOf [chU q.letter] with
      | none => _
      | some b => _)=_
    rw [a1]
    simp only
    have hw3:=ways_back q.ways ((q.ways.map (fun m => lineT (wayWs m)) ++ ((qs.flatMap (pieceLs ps)).map lineT ++ rest)).length + 1) ⟨q.ways.map (fun m => lineT (wayWs m)) ++ ((qs.flatMap (pieceLs ps)).map lineT ++ rest),x.r,x.tos ++ [letT ps q.promote],x.bad || numBad (itoa q.hand)⟩ [] ((qs.flatMap (pieceLs ps)).map lineT ++ rest) (by simp [hb,n2]) rfl (fun x' hx' => by
      rw [← hx'] at hhd
      refine next_no hhd ?_
      split
      · exact hw2
      · decide) (by simp; omega) hq0.ways
    show piecesL f (pushR (waysR _ ⟨q.ways.map (fun m => lineT (wayWs m)) ++ ((qs.flatMap (pieceLs ps)).map lineT ++ rest),x.r,x.tos ++ [letT ps q.promote],x.bad || numBad (itoa q.hand)⟩ []).1 (chU q.letter) (numV (itoa q.hand)) (waysR _ ⟨q.ways.map (fun m => lineT (wayWs m)) ++ ((qs.flatMap (pieceLs ps)).map lineT ++ rest),x.r,x.tos ++ [letT ps q.promote],x.bad || numBad (itoa q.hand)⟩ []).2)=_
    rw [hw3]
    simp only [List.nil_append]
    rw [pieces_back hL qs f _ rest w (by unfold pushR; simp [hb,n2]) (by unfold pushR; rfl) hr hw1 hw2 (by simpa using hf) hqs]
    unfold pushR
    simp only [n1,n2,a2,Bool.or_false,List.append_assoc,List.singleton_append,List.map_cons]
theorem prom_back {ps : List PieceM} (hL : Lets ps) (qs : List PieceM) (hq : qs.map (·.letter)=ps.map (·.letter)) : ∀ l : List PieceM,(∀ p ∈ l,PieceOk ps p)→List.zipWith (proV qs) (l.map (fun q => { q with promote:=0 })) (l.map (fun q => letT ps q.promote))=l∧(l.map (fun q => letT ps q.promote)).any (proBad qs)=false
  | [],_ => ⟨rfl,rfl⟩
  | p :: l,h => by
    obtain ⟨i1,i2⟩:=prom_back hL qs hq l (fun q hq => h q (List.mem_cons_of_mem _ hq))
    have hp:=h p List.mem_cons_self
    rw [List.map_cons,List.map_cons,List.zipWith_cons_cons,i1,List.any_cons,i2,Bool.or_false]
    by_cases h0 : p.promote=0
    · have e : letT ps p.promote=[45]:=by rw [h0]; rfl
      rw [e]
      refine ⟨?_,by unfold proBad; simp⟩
      unfold proV
      rw [if_pos rfl]
      congr 1
      cases p
      simp only at h0
      rw [h0]
    · have h1:=hp.prom
      obtain ⟨e1,e2⟩:=letT_ix hL (n:=p.promote) (by omega) h1.2
      refine ⟨?_,?_⟩
      · unfold proV
        rw [if_neg e2,pieceIx_let hq,e1,show max (p.promote - 1) 0 + 1=p.promote by omega]
      · unfold proBad
        rw [pieceIx_let hq,e1,decide_eq_false e2,decide_eq_false (show ¬ p.promote - 1 < 0 by omega)]
        rfl
theorem piecesR_back {ps : List PieceM} (hL : Lets ps) (hp : ∀ p ∈ ps,PieceOk ps p) {x : RdM} {rest : List BL} {w : BL} (h0 : x.r.pieces=[]) (h1 : x.tos=[]) (hb : x.bad=false) (hl : x.lines=(ps.flatMap (pieceLs ps)).map lineT ++ rest) (hr : Head rest w) (hw1 : w ≠ wPiece) (hw2 : w ≠ wWay) :
    piecesR x={ x with lines:=rest,tos:=ps.map (fun q => letT ps q.promote),r:={ x.r with pieces:=ps } }:=by
  have hlen : ps.length < x.lines.length + 1:=by
    rw [hl,List.length_append,List.length_map,List.length_flatMap]
    have : ∀ l : List PieceM,l.length≤(l.map fun p => (pieceLs ps p).length).sum:=fun l => by
      induction l with
      | nil => simp
      | cons a l ih => rw [List.map_cons,List.sum_cons,List.length_cons]; have : 1≤(pieceLs ps a).length:=by simp [pieceLs]
                       omega
    have:=this ps
    omega
  unfold piecesR
  simp only
  rw [pieces_back hL ps _ x rest w hb hl hr hw1 hw2 hlen hp]
  simp only [if_true]
  rw [h0,h1,List.nil_append,List.nil_append]
  have hlet : (ps.map (fun q => ({ q with promote:=0 } : PieceM))).map (·.letter)=ps.map (·.letter):=by rw [List.map_map]; rfl
  rw [prom_form (ps.map (·.letter)) (ps.map fun q => letT ps q.promote) 0 _ [] (ps.map fun q => { q with promote:=0 }) rfl rfl (by simp) hlet (ps.map fun q => { q with promote:=0 }) hlet]
  obtain ⟨e1,e2⟩:=prom_back hL (ps.map fun q => { q with promote:=0 }) hlet ps hp
  rw [e1,e2]
  simp
end Go.Proofs.YtdoibgmmijhlfaaGreatDoor
namespace Go.Proofs.YtdoibgmmijhlfaaGreatDoor
open Go.Lib
set_option linter.unusedVariables false
theorem cell_byte {ps : List PieceM} (hL : Lets ps) {c : Int} (h0 : 0≤c) (h1 : c≤2 * (ps.length : Int)) : cellV ps (cellT ps c)=c∧cellBad ps (cellT ps c)=false∧33≤(cellT ps c).toNat:=by
 by_cases hc : c=0
 ·subst hc
  exact ⟨rfl,rfl,show 33≤(46 : UInt8).toNat by decide⟩
 ·obtain ⟨k,hk⟩ : ∃ k : Nat,(c - 1) / 2=(k : Int):=⟨((c - 1) / 2).toNat,by omega⟩
  obtain ⟨p,hp⟩ : ∃ p,ps[k]? = some p:=⟨_,List.getElem?_eq_getElem (by omega)⟩
  have h2:=hL.in_ _ p hp
  unfold cellT
  rw [if_neg hc]
  unfold cellU
  rw [hk,Int.toNat_natCast,ps_get hp]
  by_cases hpar : c % 2=0
  ·rw [if_pos hpar]
   have h3:=chU_nat (x:=p.letter + 32) (by omega) (by omega)
   generalize chU (p.letter + 32)=b at *
   have hne : b ≠ 46:=fun e => by rw [e] at h3; have : ((46 : UInt8).toNat : Int)=46:=rfl; omega
   have hix : cellIx ps b=(k : Int):=by
    unfold cellIx runeIx
    rw [if_pos (by omega),if_pos (by omega)]
    exact piece_at hL hp (by rw [UInt8.toNat_ofNat']; omega)
   refine ⟨?_,?_,by omega⟩
   ·unfold cellV
    rw [if_neg hne,hix,if_pos (by omega)]
    omega
   ·unfold cellBad
    rw [hix,decide_eq_false (show ¬ (k : Int) < 0 by omega),Bool.and_false]
  ·rw [if_neg hpar,Int.add_zero]
   have h3:=chU_nat (x:=p.letter) (by omega) (by omega)
   generalize chU p.letter=b at *
   have hne : b ≠ 46:=fun e => by rw [e] at h3; have : ((46 : UInt8).toNat : Int)=46:=rfl; omega
   have hix : cellIx ps b=(k : Int):=by
    unfold cellIx runeIx
    rw [if_neg (by omega),if_pos (by omega),UInt8.ofNat_toNat]
    exact piece_at hL hp h3
   refine ⟨?_,?_,by omega⟩
   ·unfold cellV
    rw [if_neg hne,hix,if_neg (by omega)]
    omega
   ·unfold cellBad
    rw [hix,decide_eq_false (show ¬ (k : Int) < 0 by omega),Bool.and_false]
theorem cells_byte {ps : List PieceM} (hL : Lets ps) {l : List Int} (h : ∀ c ∈ l,0≤c∧c≤2 * (ps.length : Int)) : (l.map (cellT ps)).map (cellV ps)=l∧(l.map (cellT ps)).any (cellBad ps)=false∧Good (l.map (cellT ps)):=by
 refine ⟨?_,?_,?_⟩
 ·rw [List.map_map]
  conv => rhs; rw [← List.map_id l]
  exact List.map_congr_left fun c hc => (cell_byte hL (h c hc).1 (h c hc).2).1
 ·rw [List.any_map]
  rw [List.any_eq_false]
  intro c hc
  simpa using (cell_byte hL (h c hc).1 (h c hc).2).2.1
 ·intro b hb
  obtain ⟨c,hc,rfl⟩:=List.mem_map.1 hb
  exact (cell_byte hL (h c hc).1 (h c hc).2).2.2
theorem rowsL_back {R : RulesM} (hL : Lets R.pieces) (hc : ∀ c ∈ R.start,0≤c∧c≤2 * (R.pieces.length : Int)) : ∀ (y : Nat) (x : RdM) (rest : List BL),x.bad=false→x.r.pieces=R.pieces→x.r.width=R.width→0≤R.width→x.r.start.length=R.start.length→y * R.width.toNat≤R.start.length→x.lines=(((List.range y).map fun j => lineT (rowWs R j)).reverse) ++ rest →
  rowsL y x={ x with lines:=rest,r:={ x.r with start:=R.start.take (y * R.width.toNat) ++ x.r.start.drop (y * R.width.toNat) } }
 | 0,x,rest,hb,h1,h2,h3,h4,h5,hl => by
  have hl' : x.lines=rest:=hl
  rw [rowsL,← hl']
  simp
 | y + 1,x,rest,hb,h1,h2,h3,h4,h5,hl => by
  have h6 : y * R.width.toNat + R.width.toNat≤R.start.length:=by rw [Nat.add_mul,Nat.one_mul] at h5; exact h5
  have hseg : ∀ c ∈ (R.start.drop (y * R.width.toNat)).take R.width.toNat,0≤c∧c≤2 * (R.pieces.length : Int):=fun c hcc => hc c (List.mem_of_mem_drop (List.mem_of_mem_take hcc))
  obtain ⟨c1,c2,c3⟩:=cells_byte hL hseg
  have hlen : (((R.start.drop (y * R.width.toNat)).take R.width.toNat).map (cellT R.pieces)).length=R.width.toNat:=by rw [List.length_map,List.length_take,List.length_drop]; omega
  have hl2 : x.lines=lineT (wRow :: [((R.start.drop (y * R.width.toNat)).take R.width.toNat).map (cellT R.pieces)]) :: ((((List.range y).map fun j => lineT (rowWs R j)).reverse) ++ rest):=by
   rw [hl,List.range_succ,List.map_append,List.reverse_append,List.map_singleton,List.reverse_singleton,List.singleton_append,List.cons_append]
   rfl
  rw [rowsL]
  simp only
  rw [must_yes (n:=1) hl2 (fun w hw => by
   rcases List.mem_cons.1 hw with rfl | hw
   ·exact good_of (by decide)
   ·obtain rfl:=List.mem_singleton.1 hw
    exact c3) rfl]
  simp only [List.getD_cons_zero]
  generalize hs : ((R.start.drop (y * R.width.toNat)).take R.width.toNat).map (cellT R.pieces)=s at *
  rw [if_pos (by rw [hlen,h2]; omega)]
  unfold rowR
  simp only
  rw [h1,h2,c1,c2]
  refine (rowsL_back hL hc y _ rest (by simp [hb]) rfl rfl h3 (by simp only; rw [put_len]; exact h4) (by omega) rfl).trans ?_
  simp only [hb,Bool.or_false]
  have e : R.start.take (y * R.width.toNat) ++ (putAt x.r.start (y * R.width.toNat) ((R.start.drop (y * R.width.toNat)).take R.width.toNat)).drop (y * R.width.toNat)=R.start.take ((y + 1) * R.width.toNat) ++ x.r.start.drop ((y + 1) * R.width.toNat):=by
   rw [Nat.add_mul,Nat.one_mul]
   apply List.ext_getElem?
   intro j
   by_cases h7 : j < y * R.width.toNat
   ·rw [List.getElem?_append_left (by rw [List.length_take]; omega),List.getElem?_append_left (by rw [List.length_take]; omega),List.getElem?_take_of_lt h7,List.getElem?_take_of_lt (by omega)]
   ·have hsl : ((R.start.drop (y * R.width.toNat)).take R.width.toNat).length=R.width.toNat:=by rw [List.length_take,List.length_drop]; omega
    rw [List.getElem?_append_right (by rw [List.length_take]; omega),List.length_take,List.getElem?_drop,Nat.min_eq_left (by omega),show y * R.width.toNat + (j - y * R.width.toNat)=j by omega,put_get _ _ _ _ (by rw [hsl]; omega),hsl]
    by_cases h8 : j < y * R.width.toNat + R.width.toNat
    ·rw [if_pos (by omega),List.getElem?_append_left (by rw [List.length_take]; omega),List.getElem?_take_of_lt h8,List.getElem?_take_of_lt (by omega),List.getElem?_drop,show y * R.width.toNat + (j - y * R.width.toNat)=j by omega]
    ·rw [if_neg (by omega),List.getElem?_append_right (by rw [List.length_take]; omega),List.length_take,List.getElem?_drop,Nat.min_eq_left (by omega),show y * R.width.toNat + R.width.toNat + (j - (y * R.width.toNat + R.width.toNat))=j by omega]
  rw [e]
structure EndOk (n : Nat) (e : EndM) : Prop where
 line : e.kind=0→(1≤e.count∧e.count≤64)∧e.piece=0
 reach : e.kind=1→e.count=0∧0≤e.piece∧e.piece≤(n : Int) - 1
 take : e.kind=2→(1≤e.count∧e.count≤64)∧0≤e.piece∧e.piece≤(n : Int) - 1
 kind : e.kind=0∨e.kind=1∨e.kind=2
theorem how_back (e : EndM) : decide (max (ixW howL (howT e)) 0=1)=e.loses∧decide (ixW howL (howT e) < 0)=false∧Good (howT e)∧(howT e).length≤8:=by
 unfold howT
 cases e.loses
 ·exact ⟨by decide,by decide,good_of (by decide),by decide⟩
 ·exact ⟨by decide,by decide,good_of (by decide),by decide⟩
theorem end_good {ps : List PieceM} (hL : Lets ps) {e : EndM} (h : EndOk ps.length e) : (∀ w ∈ endWs ps e,Good w∧w.length≤8)∧endV ps (endWs ps e)=e∧endBad ps (endWs ps e)=false∧(∃ l,endWs ps e=wEnd :: l)∧(endWs ps e).length≤5:=by
 obtain ⟨d1,d2,d3,d4⟩:=how_back e
 have hg : Good wEnd∧wEnd.length≤8:=⟨good_of (by decide),by decide⟩
 rcases h.kind with hk | hk | hk
 ·obtain ⟨h1,h2⟩:=h.line hk
  obtain ⟨n1,n2⟩:=numV_itoa (n:=e.count) (by omega) (by omega)
  have e1 : endWs ps e=[wEnd,wLine,itoa e.count,howT e]:=by unfold endWs; rw [if_pos hk]
  rw [e1]
  refine ⟨fun w hw => ?_,?_,?_,⟨_,rfl⟩,by simp⟩
  ·simp only [List.mem_cons,List.not_mem_nil,or_false] at hw
   rcases hw with rfl | rfl | rfl | rfl
   ·exact hg
   ·exact ⟨good_of (by decide),by decide⟩
   ·exact ⟨good_itoa _,itoa_len8 (by omega) (by omega)⟩
   ·exact ⟨d3,d4⟩
  ·show (⟨0,0,numV (itoa e.count),decide (max (ixW howL (howT e)) 0=1)⟩ : EndM)=e
   rw [n1,d1]
   cases e
   simp only at hk h2
   rw [hk,h2]
  ·show (numBad (itoa e.count) || decide (ixW howL (howT e) < 0))=false
   rw [n2,d2]; rfl
 ·obtain ⟨h1,h2⟩:=h.reach hk
  obtain ⟨n1,-⟩:=letT_ix hL (n:=e.piece + 1) (by omega) (by omega)
  have e1 : endWs ps e=[wEnd,wReach,letT ps (e.piece + 1),howT e]:=by unfold endWs; rw [if_neg (by omega),if_pos hk]
  rw [e1]
  refine ⟨fun w hw => ?_,?_,?_,⟨_,rfl⟩,by simp⟩
  ·simp only [List.mem_cons,List.not_mem_nil,or_false] at hw
   rcases hw with rfl | rfl | rfl | rfl
   ·exact hg
   ·exact ⟨good_of (by decide),by decide⟩
   ·exact good_letT hL (by omega) (by omega)
   ·exact ⟨d3,d4⟩
  ·show (⟨1,max (pieceIx ps (letT ps (e.piece + 1))) 0,0,decide (max (ixW howL (howT e)) 0=1)⟩ : EndM)=e
   rw [n1,d1,show max (e.piece + 1 - 1) 0=e.piece by omega]
   cases e
   simp only at hk h1
   rw [hk,h1]
  ·show (decide (pieceIx ps (letT ps (e.piece + 1)) < 0) || decide (ixW howL (howT e) < 0))=false
   rw [n1,d2,decide_eq_false (by omega)]; rfl
 ·obtain ⟨h1,h2⟩:=h.take hk
  obtain ⟨n1,-⟩:=letT_ix hL (n:=e.piece + 1) (by omega) (by omega)
  obtain ⟨m1,m2⟩:=numV_itoa (n:=e.count) (by omega) (by omega)
  have e1 : endWs ps e=[wEnd,wTake,letT ps (e.piece + 1),itoa e.count,howT e]:=by unfold endWs; rw [if_neg (by omega),if_neg (by omega)]
  rw [e1]
  refine ⟨fun w hw => ?_,?_,?_,⟨_,rfl⟩,by simp⟩
  ·simp only [List.mem_cons,List.not_mem_nil,or_false] at hw
   rcases hw with rfl | rfl | rfl | rfl | rfl
   ·exact hg
   ·exact ⟨good_of (by decide),by decide⟩
   ·exact good_letT hL (by omega) (by omega)
   ·exact ⟨good_itoa _,itoa_len8 (by omega) (by omega)⟩
   ·exact ⟨d3,d4⟩
  ·show (⟨2,max (pieceIx ps (letT ps (e.piece + 1))) 0,numV (itoa e.count),decide (max (ixW howL (howT e)) 0=1)⟩ : EndM)=e
   rw [n1,d1,m1,show max (e.piece + 1 - 1) 0=e.piece by omega]
   cases e
   simp only at hk
   rw [hk]
  ·show ((decide (pieceIx ps (letT ps (e.piece + 1)) < 0) || numBad (itoa e.count)) || decide (ixW howL (howT e) < 0))=false
   rw [n1,m2,d2,decide_eq_false (by omega)]; rfl
theorem pre_of {l : List BL} (hl : l ≠ []) : endPre.isPrefixOf (lineT (wEnd :: l))=true:=by
 cases l with
 | nil => exact absurd rfl hl
 | cons a r => unfold lineT; rw [joinL]; simp
theorem pre_not {l : List BL} {w : BL} (hw : w ≠ wEnd) (hg : Good w) : endPre.isPrefixOf (lineT (w :: l))=false:=by
 cases hp : endPre.isPrefixOf (lineT (w :: l)) with
 | false => rfl
 | true =>
  exfalso
  obtain ⟨t,ht⟩:=List.isPrefixOf_iff_prefix.1 hp
  have hsp : splitL 32 (lineT (w :: l))=wEnd :: splitL 32 t:=by
   rw [← ht]
   exact split_cat (c:=32) (x:=wEnd) t (by decide)
  have h2 : (splitL 32 (lineT (w :: l))).getD 0 []=w:=by
   unfold lineT
   cases l with
   | nil => rw [joinL,split_one hg.ne]; rfl
   | cons a r => rw [joinL,split_cat _ hg.ne]; rfl
  rw [hsp] at h2
  exact hw h2.symm
theorem ends_back {ps : List PieceM} (hL : Lets ps) : ∀ (es : List EndM) (f : Nat) (x : RdM) (rest : List BL) (w : BL),x.bad=false→x.r.pieces=ps→x.lines=es.map (fun e => lineT (endWs ps e)) ++ rest→Head rest w→w ≠ wEnd→es.length < f→(∀ e ∈ es,EndOk ps.length e) →
  endsR f x={ x with lines:=rest,r:={ x.r with ends:=x.r.ends ++ es } }
 | [],0,x,rest,w,hb,hp,hl,hr,hw,hf,he => by simp at hf
 | [],f + 1,x,rest,w,hb,hp,hl,hr,hw,hf,he => by
  obtain ⟨l,ls,e1,e2⟩:=hr
  have hl' : x.lines=lineT (w :: l) :: ls:=hl.trans e1
  rw [endsR,hl']
  simp only
  rw [if_neg (fun h => by rw [pre_not hw (e2 w List.mem_cons_self)] at h; exact absurd h.1 (by decide)),e1,← hl']
  simp
 | e :: es,0,x,rest,w,hb,hp,hl,hr,hw,hf,he => by simp at hf
 | e :: es,f + 1,x,rest,w,hb,hp,hl,hr,hw,hf,he => by
  obtain ⟨g1,g2,g3,⟨l,g4⟩,-⟩:=end_good hL (he e List.mem_cons_self)
  have hl' : x.lines=lineT (endWs ps e) :: (es.map (fun e => lineT (endWs ps e)) ++ rest):=hl
  have hne : l ≠ []:=by
   intro h
   rw [h] at g4
   have : 4≤(endWs ps e).length:=by
    unfold endWs
    split
    ·simp
    ·split <;> simp
   rw [g4] at this
   simp at this
  rw [endsR,hl']
  simp only
  rw [if_pos ⟨by rw [g4]; exact pre_of hne,hb⟩]
  rw [split_line (by rw [g4]; simp) (fun w hw => (g1 w hw).1),hp,g2,g3]
  rw [ends_back hL es f _ rest w (by simp [hb]) (by first | exact hp | rfl) rfl hr hw (by simpa using hf) (fun e h => he e (List.mem_cons_of_mem _ h))]
  simp [hb]
theorem name_good {s : ByteArray} (h : nameB s=true) : Good s.data.toList∧s.data.toList.length≤8∧s.size ≠ 0:=by
 unfold nameB at h
 simp only [Bool.and_eq_true,decide_eq_true_eq] at h
 have hsz : s.data.toList.length=s.size:=Array.length_toList
 refine ⟨fun b hb => ?_,by omega,by omega⟩
 obtain ⟨i,hi,rfl⟩:=List.mem_iff_getElem.1 hb
 have:=List.all_eq_true.1 h.2 i (List.mem_range.2 (by omega))
 rw [List.getD_eq_getElem?_getD,List.getElem?_eq_getElem hi] at this
 simp only [Option.getD_some] at this
 generalize s.data.toList[i]=b at *
 unfold letterB digitB at this
 simp only [Bool.or_eq_true,Bool.and_eq_true,decide_eq_true_eq,UInt8.le_iff_toNat_le] at this
 have e65 : (65 : UInt8).toNat=65:=rfl
 have e48 : (48 : UInt8).toNat=48:=rfl
 rcases this with h | ⟨-,h⟩ <;> omega
theorem valid_piece {R : RulesM} (h : Valid R) : ∀ p ∈ R.pieces,PieceOk R.pieces p:=fun p hp => by
 obtain ⟨a,b,c,d,e⟩:=piece_facts h.piece hp
 exact ⟨a,b,c,d,e⟩
theorem valid_end {R : RulesM} (h : Valid R) : ∀ e ∈ R.ends,EndOk R.pieces.length e:=fun e he => by
 obtain ⟨i,hi,rfl⟩:=List.mem_iff_getElem.1 he
 have h0:=h.ende
 unfold endsE at h0
 rw [if_neg (by have:=h.ends6; omega)] at h0
 have h1:=(firstE_zero _ _ _).1 h0 i (Nat.zero_le _) (by omega)
 unfold endE at h1
 rw [List.getElem?_eq_getElem hi] at h1
 simp only at h1
 generalize R.ends[i]=e at *
 by_cases k0 : e.kind=0
 ·rw [if_pos k0] at h1
  split at h1
  ·rename_i hb
   simp only [Bool.and_eq_true,inB_iff,decide_eq_true_eq] at hb
   exact ⟨fun _ => hb,fun h => by omega,fun h => by omega,.inl k0⟩
  ·cases h1
 ·rw [if_neg k0] at h1
  by_cases k1 : e.kind=1
  ·rw [if_pos k1] at h1
   split at h1
   ·rename_i hb
    simp only [Bool.and_eq_true,inB_iff,decide_eq_true_eq] at hb
    exact ⟨fun h => by omega,fun _ => ⟨hb.1,by omega,by omega⟩,fun h => by omega,.inr (.inl k1)⟩
   ·cases h1
  ·rw [if_neg k1] at h1
   by_cases k2 : e.kind=2
   ·rw [if_pos k2] at h1
    split at h1
    ·rename_i hb
     simp only [Bool.and_eq_true,inB_iff] at hb
     exact ⟨fun h => by omega,fun h => by omega,fun _ => ⟨hb.1,by omega,by omega⟩,.inr (.inr k2)⟩
    ·cases h1
   ·rw [if_neg k2] at h1
    cases h1
theorem valid_last {R : RulesM} (h : Valid R) : (0≤R.blocked∧R.blocked≤2)∧(0≤R.quiet∧R.quiet≤200)∧(0≤R.rept∧R.rept≤5):=by
 have:=h.last
 unfold lastB at this
 simp only [Bool.and_eq_true,Bool.or_eq_true,inB_iff,decide_eq_true_eq] at this
 omega
theorem words_good {R : RulesM} (h : Valid R) (hL : Lets R.pieces) : ∀ ws ∈ linesW R,ws ≠ []∧ws.length≤5∧∀ w ∈ ws,Good w∧w.length≤8:=by
 have hside : (1≤R.width∧R.width≤8)∧(1≤R.height∧R.height≤8):=by
  have:=h.side
  unfold okSide at this
  omega
 intro ws hws
 unfold linesW at hws
 simp only [List.mem_cons,List.mem_append] at hws
 rcases hws with rfl | hws | hws | hws | hws | hws | hws
 ·refine ⟨by simp [headWs],by simp [headWs],fun w hw => ?_⟩
  unfold headWs at hw
  simp only [List.mem_cons,List.not_mem_nil,or_false] at hw
  obtain ⟨a,b,-⟩:=name_good h.name
  rcases hw with rfl | rfl | rfl | rfl
  ·exact ⟨good_of (by decide),by decide⟩
  ·exact ⟨a,b⟩
  ·exact ⟨good_itoa _,itoa_len8 (by omega) (by omega)⟩
  ·exact ⟨good_itoa _,itoa_len8 (by omega) (by omega)⟩
 ·obtain ⟨p,hp,hws⟩:=List.mem_flatMap.1 hws
  have hpo:=valid_piece h p hp
  unfold pieceLs at hws
  rcases List.mem_cons.1 hws with rfl | hws
  ·exact ⟨by simp [pieceWs],by simp [pieceWs],piece_good hL hpo⟩
  ·obtain ⟨m,hm,rfl⟩:=List.mem_map.1 hws
   exact ⟨by simp [wayWs],by simp [wayWs],way_good (hpo.ways m hm)⟩
 ·unfold rowsWs at hws
  rw [List.mem_reverse] at hws
  obtain ⟨y,-,rfl⟩:=List.mem_map.1 hws
  refine ⟨by simp [rowWs],by simp [rowWs],fun w hw => ?_⟩
  unfold rowWs at hw
  simp only [List.mem_cons,List.not_mem_nil,or_false] at hw
  rcases hw with rfl | rfl
  ·exact ⟨good_of (by decide),by decide⟩
  ·refine ⟨(cells_byte hL fun c hc => h.start c (List.mem_of_mem_drop (List.mem_of_mem_take hc))).2.2,?_⟩
   rw [List.length_map,List.length_take]
   omega
 ·unfold flagWs at hws
  split at hws
  ·obtain rfl:=List.mem_singleton.1 hws
   refine ⟨by simp,by simp,fun w hw => ?_⟩
   obtain rfl:=List.mem_singleton.1 hw
   exact ⟨good_of (by decide),by decide⟩
  ·cases hws
 ·unfold flagWs at hws
  split at hws
  ·obtain rfl:=List.mem_singleton.1 hws
   refine ⟨by simp,by simp,fun w hw => ?_⟩
   obtain rfl:=List.mem_singleton.1 hw
   exact ⟨good_of (by decide),by decide⟩
  ·cases hws
 ·obtain ⟨e,he,rfl⟩:=List.mem_map.1 hws
  obtain ⟨g1,-,-,⟨l,g4⟩,g5⟩:=end_good hL (valid_end h e he)
  exact ⟨by rw [g4]; simp,g5,g1⟩
 ·obtain ⟨l1,l2,l3⟩:=valid_last h
  unfold tailWs at hws
  simp only [List.mem_cons,List.not_mem_nil,or_false] at hws
  rcases hws with rfl | rfl | rfl
  ·refine ⟨by simp,by simp,fun w hw => ?_⟩
   simp only [List.mem_cons,List.not_mem_nil,or_false] at hw
   rcases hw with rfl | rfl
   ·exact ⟨good_of (by decide),by decide⟩
   ·exact good_block l1.1 l1.2
  ·refine ⟨by simp,by simp,fun w hw => ?_⟩
   simp only [List.mem_cons,List.not_mem_nil,or_false] at hw
   rcases hw with rfl | rfl
   ·exact ⟨good_of (by decide),by decide⟩
   ·exact ⟨good_itoa _,itoa_len8 (by omega) (by omega)⟩
  ·refine ⟨by simp,by simp,fun w hw => ?_⟩
   simp only [List.mem_cons,List.not_mem_nil,or_false] at hw
   rcases hw with rfl | rfl
   ·exact ⟨good_of (by decide),by decide⟩
   ·exact ⟨good_itoa _,itoa_len8 (by omega) (by omega)⟩
theorem lines_many {R : RulesM} (h : Valid R) : (linesW R).length≤130:=by
 have hside : (1≤R.width∧R.width≤8)∧(1≤R.height∧R.height≤8):=by
  have:=h.side
  unfold okSide at this
  omega
 have hfl : ∀ b w,(flagWs b w).length≤1:=fun b w => by unfold flagWs; split <;> simp
 have hp : ∀ l : List PieceM,(∀ p ∈ l,p.ways.length≤16)→(l.flatMap (pieceLs R.pieces)).length≤17 * l.length:=fun l => by
  induction l with
  | nil => simp
  | cons a l ih =>
   intro hl
   rw [List.flatMap_cons,List.length_append,List.length_cons]
   have h1:=ih fun p hp => hl p (List.mem_cons_of_mem _ hp)
   have h2 : (pieceLs R.pieces a).length=a.ways.length + 1:=by simp [pieceLs]
   have h3:=hl a List.mem_cons_self
   omega
 have h1:=hp R.pieces fun p hp => (valid_piece h p hp).many
 unfold linesW
 simp only [List.length_cons,List.length_append,List.length_map]
 have h2 : (rowsWs R).length=R.height.toNat:=by simp [rowsWs]
 have h3:=hfl R.falls wFalls
 have h4:=hfl R.keeps wKeeps
 have h5 : (tailWs R).length=3:=rfl
 have h6:=h.ends6
 have h7:=h.pieces6
 omega
theorem print_len {R : RulesM} (h : Valid R) (hL : Lets R.pieces) : (printT R).length≤8192∧∀ x ∈ linesT R,x.length≤45:=by
 have hline : ∀ x ∈ linesT R,x.length≤45:=fun x hx => by
  unfold linesT at hx
  obtain ⟨ws,hws,rfl⟩:=List.mem_map.1 hx
  obtain ⟨-,h5,hg⟩:=words_good h hL ws hws
  have:=joinL_len (c:=32) (n:=8) (L:=ws) (fun w hw => (hg w hw).2)
  unfold lineT
  omega
 refine ⟨?_,hline⟩
 have h1:=joinL_len (c:=10) hline
 have h2:=lines_many h
 have h3 : (linesT R).length=(linesW R).length:=by simp [linesT]
 unfold printT
 rw [List.length_append,List.length_singleton]
 omega
theorem flag_yes {w : BL} {x : RdM} {rest : List BL} {b : Bool} {v : BL} (hl : x.lines=(flagWs b w).map lineT ++ rest) (hg : Good w) (hr : Head rest v) (hv : v ≠ w) : flagR w x=(b,{ x with lines:=rest }):=by
 unfold flagR
 cases b with
 | true =>
  rw [next_yes (n:=0) (l:=[]) (ls:=rest) hl (fun u hu => by obtain rfl:=List.mem_singleton.1 hu; exact hg) rfl]
 | false =>
  have hl' : x.lines=rest:=hl
  rw [next_no (by rw [hl']; exact hr) hv,← hl']
theorem head_flag {b : Bool} {w v : BL} {rest : List BL} (hg : Good w) (hr : Head rest v) : Head ((flagWs b w).map lineT ++ rest) (if b then w else v):=by
 cases b with
 | true => exact ⟨[],rest,rfl,fun u hu => by obtain rfl:=List.mem_singleton.1 hu; exact hg⟩
 | false => exact hr
theorem word_yes {w v : BL} {x : RdM} {ls : List BL} (hl : x.lines=lineT [w,v] :: ls) (hg : Good w) (hv : Good v) : mustR w 1 x=([v],{ x with lines:=ls }) :=
 must_yes (l:=[v]) hl (fun u hu => by
  rcases List.mem_cons.1 hu with rfl | hu
  ·exact hg
  ·obtain rfl:=List.mem_singleton.1 hu
   exact hv) rfl
theorem parse_back {R : RulesM} (hE : rulesE R=0) : parseR (printT R)=some R:=by
 have h:=valid_of hE
 have hL:=lets_of hE
 obtain ⟨hlen,-⟩:=print_len h hL
 have hwd:=words_good h hL
 have hside : (1≤R.width∧R.width≤8)∧(1≤R.height∧R.height≤8):=by
  have:=h.side
  unfold okSide at this
  omega
 have hsp : splitL 10 (joinL 10 (linesT R))=linesT R:=split_join (by simp [linesT,linesW]) fun x hx b hb e => by
  unfold linesT at hx
  obtain ⟨ws,hws,rfl⟩:=List.mem_map.1 hx
  rcases join_mem hb with h1 | ⟨w,hw,hbw⟩
  ·rw [e] at h1; exact absurd h1 (by decide)
  ·have:=((hwd ws hws).2.2 w hw).1 b hbw
   rw [e] at this
   exact absurd this (by decide)
 obtain ⟨l1,l2,l3⟩:=valid_last h
 obtain ⟨ng,nl,nz⟩:=name_good h.name
 -- the lines,from behind
 obtain ⟨T0,hT0⟩ : ∃ T,T=(tailWs R).map lineT:=⟨_,rfl⟩
 obtain ⟨T1,hT1⟩ : ∃ T,T=R.ends.map (fun e => lineT (endWs R.pieces e)) ++ T0:=⟨_,rfl⟩
 obtain ⟨T2,hT2⟩ : ∃ T,T=(flagWs R.keeps wKeeps).map lineT ++ T1:=⟨_,rfl⟩
 obtain ⟨T3,hT3⟩ : ∃ T,T=(flagWs R.falls wFalls).map lineT ++ T2:=⟨_,rfl⟩
 obtain ⟨T4,hT4⟩ : ∃ T,T=(((List.range R.height.toNat).map fun j => lineT (rowWs R j)).reverse) ++ T3:=⟨_,rfl⟩
 obtain ⟨T5,hT5⟩ : ∃ T,T=(R.pieces.flatMap (pieceLs R.pieces)).map lineT ++ T4:=⟨_,rfl⟩
 have hall : linesT R=lineT (headWs R) :: T5:=by
  rw [hT5,hT4,hT3,hT2,hT1,hT0]
  unfold linesT linesW rowsWs
  simp only [List.map_cons,List.map_append,List.map_map,List.map_reverse]
  rfl
 have H0 : Head T0 wBlocked:=⟨[blocksL.getD R.blocked.toNat []],_,hT0,fun u hu => by
  rcases List.mem_cons.1 hu with rfl | hu
  ·exact good_of (by decide)
  ·obtain rfl:=List.mem_singleton.1 hu
   exact (good_block l1.1 l1.2).1⟩
 have H1 : Head T1 (if R.ends=[] then wBlocked else wEnd):=by
  cases he : R.ends with
  | nil => rw [he] at hT1; rw [if_pos rfl,hT1]; exact H0
  | cons e es =>
   rw [if_neg (by simp)]
   obtain ⟨g1,-,-,⟨l,g4⟩,-⟩:=end_good hL (valid_end h e (by rw [he]; exact List.mem_cons_self))
   rw [he,List.map_cons,g4] at hT1
   exact ⟨l,_,hT1,fun u hu => (g1 u (by rw [g4]; exact hu)).1⟩
 obtain ⟨v1,hv1,H1⟩ : ∃ v,(v=wBlocked∨v=wEnd)∧Head T1 v:=⟨_,by split <;> simp,H1⟩
 have H2 : Head T2 (if R.keeps then wKeeps else v1):=by rw [hT2]; exact head_flag (good_of (by decide)) H1
 obtain ⟨v2,hv2,H2⟩ : ∃ v,(v=wKeeps∨v=wBlocked∨v=wEnd)∧Head T2 v:=⟨_,by split <;> simp [hv1],H2⟩
 have H3 : ∃ v,(v=wFalls∨v=wKeeps∨v=wBlocked∨v=wEnd)∧Head T3 v:=⟨_,by
  show (if R.falls then wFalls else v2)=wFalls∨_
  split <;> simp [hv2],by rw [hT3]; exact head_flag (good_of (by decide)) H2⟩
 have H4 : Head T4 wRow:=by
  obtain ⟨k,hk⟩ : ∃ k,R.height.toNat=k + 1:=⟨R.height.toNat - 1,by omega⟩
  rw [hk,List.range_succ,List.map_append,List.reverse_append,List.map_singleton,List.reverse_singleton,List.singleton_append,List.cons_append] at hT4
  refine ⟨_,_,hT4,fun u hu => ?_⟩
  have hmem : rowWs R k ∈ linesW R:=by
   unfold linesW rowsWs
   simp only [List.mem_cons,List.mem_append,List.mem_reverse,List.mem_map,List.mem_range]
   exact .inr (.inr (.inl ⟨k,by omega,rfl⟩))
  exact ((hwd _ hmem).2.2 u hu).1
 -- the reader
 have hg0 : gameR (joinL 10 (linesT R))=⟨T5,{ rules0 with name:=R.name,width:=R.width,height:=R.height },[],false⟩:=by
  unfold gameR
  simp only
  rw [hsp,hall]
  have hm : mustR wGame 3 ⟨lineT (headWs R) :: T5,rules0,[],false⟩=([R.name.data.toList,itoa R.width,itoa R.height],⟨T5,rules0,[],false⟩) :=
   must_yes (l:=[R.name.data.toList,itoa R.width,itoa R.height]) rfl (fun u hu => ((hwd _ (by unfold linesW; exact List.mem_cons_self)).2.2 u hu).1) rfl
  rw [hm]
  obtain ⟨a1,a2⟩:=numV_itoa (n:=R.width) (by omega) (by omega)
  obtain ⟨b1,b2⟩:=numV_itoa (n:=R.height) (by omega) (by omega)
  show (⟨T5,{ rules0 with name:=⟨R.name.data.toList.toArray⟩,width:=numV (itoa R.width),height:=numV (itoa R.height) },[],(false || numBad (itoa R.width)) || numBad (itoa R.height)⟩ : RdM)=_
  rw [a1,a2,b1,b2]
  rfl
 have hgb : gameBad ⟨T5,{ rules0 with name:=R.name,width:=R.width,height:=R.height },[],false⟩=false:=by
  unfold gameBad
  simp only [Bool.false_or,Bool.or_eq_false_iff,decide_eq_false_iff_not]
  omega
 have hpr:=piecesR_back hL (valid_piece h) (x:=⟨T5,{ rules0 with name:=R.name,width:=R.width,height:=R.height },[],false⟩) rfl rfl rfl hT5 H4 (by decide) (by decide)
 have hxl : (joinL 10 (linesT R) ++ [10]).dropLast=joinL 10 (linesT R):=List.dropLast_concat
 unfold parseR
 rw [if_neg (by omega)]
 unfold printT
 rw [if_neg (by rw [List.getLast?_concat]; exact fun h => h rfl),hxl,hg0,hgb,if_neg (by decide),hpr]
 rw [if_neg (show ¬ (RdM.mk _ _ _ false).bad=true from Bool.false_ne_true)]
 simp only
 have hrest : restR ⟨T4,{ rules0 with name:=R.name,width:=R.width,height:=R.height,pieces:=R.pieces },R.pieces.map (fun q => letT R.pieces q.promote),false⟩=⟨[],R,R.pieces.map (fun q => letT R.pieces q.promote),false⟩:=by
  have harea : R.height.toNat * R.width.toNat=R.start.length:=by
   have h1:=h.area
   have h2 : ((R.height.toNat * R.width.toNat : Nat) : Int)=R.height * R.width:=by
    rw [Int.natCast_mul,Int.toNat_of_nonneg (by omega),Int.toNat_of_nonneg (by omega)]
   rw [Int.mul_comm] at h2
   omega
  have e1 : rowsR ⟨T4,{ rules0 with name:=R.name,width:=R.width,height:=R.height,pieces:=R.pieces },R.pieces.map (fun q => letT R.pieces q.promote),false⟩=⟨T3,{ rules0 with name:=R.name,width:=R.width,height:=R.height,pieces:=R.pieces,start:=R.start },R.pieces.map (fun q => letT R.pieces q.promote),false⟩:=by
   unfold rowsR
   have h1:=h.area
   have h2 : (R.width * R.height).toNat=R.start.length:=by omega
   rw [rowsL_back (R:=R) hL h.start R.height.toNat _ T3 rfl rfl rfl (by omega) (by simp only; rw [List.length_replicate,h2]) (by omega) hT4]
   simp only
   rw [harea,List.take_length,List.drop_of_length_le (by rw [List.length_replicate,h2]; exact Nat.le_refl _),List.append_nil]
  have e2 : fallsR ⟨T3,{ rules0 with name:=R.name,width:=R.width,height:=R.height,pieces:=R.pieces,start:=R.start },R.pieces.map (fun q => letT R.pieces q.promote),false⟩=⟨T2,{ rules0 with name:=R.name,width:=R.width,height:=R.height,pieces:=R.pieces,start:=R.start,falls:=R.falls },R.pieces.map (fun q => letT R.pieces q.promote),false⟩:=by
   unfold fallsR
   rw [flag_yes (b:=R.falls) hT3 (good_of (by decide)) H2 (by rcases hv2 with rfl | rfl | rfl <;> decide)]
  have e3 : keepsR ⟨T2,{ rules0 with name:=R.name,width:=R.width,height:=R.height,pieces:=R.pieces,start:=R.start,falls:=R.falls },R.pieces.map (fun q => letT R.pieces q.promote),false⟩=⟨T1,{ rules0 with name:=R.name,width:=R.width,height:=R.height,pieces:=R.pieces,start:=R.start,falls:=R.falls,keeps:=R.keeps },R.pieces.map (fun q => letT R.pieces q.promote),false⟩:=by
   unfold keepsR
   rw [flag_yes (b:=R.keeps) hT2 (good_of (by decide)) H1 (by rcases hv1 with rfl | rfl <;> decide)]
  unfold restR
  simp only
  rw [e1,e2,e3]
  rw [ends_back hL R.ends _ _ T0 wBlocked rfl rfl hT1 H0 (by decide) (by simp only; rw [hT1,List.length_append,List.length_map]; omega) (valid_end h)]
  have e4 : T0=lineT [wBlocked,blocksL.getD R.blocked.toNat []] :: [lineT [wQuiet,itoa R.quiet],lineT [wRepeat,itoa R.rept]]:=hT0
  rw [e4]
  obtain ⟨a1,a2⟩:=numV_itoa (n:=R.quiet) (by omega) (by omega)
  obtain ⟨b1,b2⟩:=numV_itoa (n:=R.rept) (by omega) (by omega)
  unfold blockedR
  rw [word_yes rfl (good_of (by decide)) (good_block l1.1 l1.2).1]
  simp only [List.getD_cons_zero]
  rw [idx_block l1.1 l1.2,show max R.blocked 0=R.blocked by omega,decide_eq_false (show ¬ R.blocked < 0 by omega)]
  unfold quietR
  rw [word_yes rfl (good_of (by decide)) (good_itoa _)]
  simp only [List.getD_cons_zero]
  rw [a1,a2]
  unfold reptR
  rw [word_yes rfl (good_of (by decide)) (good_itoa _)]
  simp only [List.getD_cons_zero]
  rw [b1,b2]
  rfl
 show (if (restR ⟨T4,{ rules0 with name:=R.name,width:=R.width,height:=R.height,pieces:=R.pieces },R.pieces.map (fun q => letT R.pieces q.promote),false⟩).bad=true∨(restR ⟨T4,{ rules0 with name:=R.name,width:=R.width,height:=R.height,pieces:=R.pieces },R.pieces.map (fun q => letT R.pieces q.promote),false⟩).lines ≠ [] then none else if rulesE (restR ⟨T4,{ rules0 with name:=R.name,width:=R.width,height:=R.height,pieces:=R.pieces },R.pieces.map (fun q => letT R.pieces q.promote),false⟩).r ≠ 0 then none else some (restR ⟨T4,{ rules0 with name:=R.name,width:=R.width,height:=R.height,pieces:=R.pieces },R.pieces.map (fun q => letT R.pieces q.promote),false⟩).r)=some R
 rw [hrest]
 simp [hE]
end Go.Proofs.YtdoibgmmijhlfaaGreatDoor
namespace Go.Proofs.YtdoibgmmijhlfaaGreatDoor
open Go.RowKit
set_option linter.unusedVariables false
set_option linter.unusedSimpArgs false
def LinesAt (w : World) (g : Nat) (A : Option Addr) (c : Nat) (L : List BL) : Prop:=CellsAt w A (strsC L)∧L.length≤c∧(A=none→L.length=0)∧∀ a,A=some a→a.block ≠ g
theorem cells_kept {w w' : World} {g : Nat} {A : Option Addr} {vs : List Value} (h : CellsAt w A vs) (hg : w.grownBy w' (some g)) (hA : ∀ a,A=some a→a.block ≠ g) : CellsAt w' A vs:=fun i v hi => by
 obtain ⟨b,o,rfl,hc⟩:=h i v hi
 exact ⟨b,o,rfl,hg.cell hc (fun e => hA _ rfl (by injection e))⟩
theorem LinesAt.kept {w w' : World} {g : Nat} {A : Option Addr} {c : Nat} {L : List BL} (h : LinesAt w g A c L) (hg : w.grownBy w' (some g)) : LinesAt w' g A c L:=⟨cells_kept h.1 hg h.2.2.2,h.2⟩
theorem LinesAt.ext {w w' : World} {g : Nat} {A : Option Addr} {c : Nat} {L : List BL} (h : LinesAt w g A c L) (x : Ext w w') : LinesAt w' g A c L:=⟨h.1.ext x,h.2⟩
theorem grown_of_ext {w w' : World} (x : Ext w w') (r : Option Nat) : w.grownBy w' r:=⟨x.os,x.tape,x.output,x.size,fun b hb _ => x.block b hb⟩
theorem grown_trans {a b c : World} {r : Option Nat} (h : a.grownBy b r) (k : b.grownBy c r) : a.grownBy c r:=⟨k.os.trans h.os,k.tape.trans h.tape,k.output.trans h.output,Nat.le_trans h.size k.size,fun i hi hr => (k.block i (Nat.lt_of_lt_of_le hi h.size) hr).trans (h.block i hi hr)⟩
theorem grown_set {a b : World} {g : Nat} (h : a.grownBy b (some g)) (i : Nat) (u : Value) : a.grownBy (b.setCell ⟨g,i,none⟩ u) (some g):=⟨h.os,h.tape,h.output,by have:=h.size; simpa using this,fun k hk hr => (Below.heap_setCell b ⟨g,i,none⟩ u k (fun e => hr (by rw [e]))).trans (h.block k hk hr)⟩
theorem lib_grown {w w' : World} {g : Nat} (h : LibW w) (k : w.grownBy w' (some g)) (hg : 4≤g) : LibW w':=by
 refine ⟨?_,?_,?_,?_⟩
 ·obtain ⟨m,hm⟩:=h.max
  exact ⟨m,k.cell hm (by simp; omega)⟩
 ·obtain ⟨ev,h1,h2⟩:=h.syn
  exact ⟨ev,k.cell h1 (by simp; omega),h2⟩
 ·obtain ⟨ev,h1,h2⟩:=h.rng
  exact ⟨ev,k.cell h1 (by simp; omega),h2⟩
 ·have ht:=h.tab
  have hc:=ht.cell gPow 0 (by decide)
  have hlt:=lt_of_cell hc
  unfold Lib.TabIs World.var? at ht ⊢
  rw [gPow] at ht ⊢
  simp only [Option.bind_some] at ht ⊢
  rw [k.block 0 hlt (by simp; omega)]
  exact ht
def nextL (word : BL) (n : Nat) (L : List BL) : Option (List BL × List BL):=match L with
 | [] => none
 | l :: ls => if (splitL 32 l).getD 0 []=word∧(splitL 32 l).length=n + 1 then some ((splitL 32 l).tail,ls) else none
theorem next_of (word : BL) (n : Nat) (x : RdM) : nextR word n x=(nextL word n x.lines).map fun p => (p.1,{ x with lines:=p.2 }):=by
 unfold nextR nextL
 cases x.lines with
 | nil => rfl
 | cons l ls =>
  simp only
  split <;> rfl
abbrev RT : TypeId:=74
def NextPost (word : BL) (n g : Nat) (c1 c2 c3 c4 c5 c6 c7 c8 c9 c10 c11 c12 c13 : Value) (A0 : Option Addr) (L : List BL) (w : World) (e : Ending) (w' : World) : Prop :=
 (nextL word n L=none∧e=.returned (.tuple #[.slice none 0 0,.bool false])∧Ext w w') ∨
 ∃ l ls A c B d,nextL word n L=some (l,ls)∧l.length=n∧e=.returned (.tuple #[.slice A n c,.bool true])∧LinesAt w' g A c l∧LinesAt w' g B d ls∧Blk w' g RT #[.slice B ls.length d,c1,c2,c3,c4,c5,c6,c7,c8,c9,c10,c11,c12,c13]∧w.grownBy w' (some g)∧(∀ a,A=some a→w.heap.size≤a.block)∧(∀ a b,A0=some a→B=some b→b.block=a.block)
theorem lines_tail {w : World} {g b o c n : Nat} {l : BL} {L : List BL} (h : LinesAt w g (some ⟨b,o,none⟩) c (l :: L)) : LinesAt w g (if c - 1=0 then some ⟨b,o,none⟩ else some ⟨b,o + 1,none⟩) (c - 1) L:=by
 obtain ⟨h1,h2,-,h4⟩:=h
 rw [List.length_cons] at h2
 refine ⟨fun i v hi => ?_,by omega,fun h => (by split at h <;> cases h),fun a ha => ?_⟩
 ·have hL : i < L.length:=by
   have:=(List.getElem?_eq_some_iff.1 hi).1
   rw [strsC_len] at this
   exact this
  obtain ⟨b',o',e,hc⟩:=h1 (i + 1) v (by unfold strsC; rw [List.map_cons,List.getElem?_cons_succ]; exact hi)
  injection e with e
  injection e with e1 e2
  subst e1 e2
  rw [if_neg (by omega)]
  exact ⟨b,o + 1,rfl,by rw [show o + 1 + i=o + (i + 1) by omega]; exact hc⟩
 ·split at ha
  ·exact h4 a ha
  ·injection ha with ha
   subst ha
   exact h4 ⟨b,o,none⟩ rfl
theorem lines_set {w : World} {g c i : Nat} {A : Option Addr} {L : List BL} (h : LinesAt w g A c L) (u : Value) : LinesAt (w.setCell ⟨g,i,none⟩ u) g A c L :=
 h.kept (grown_set (grown_of_ext (Below.refl _ _) (some g)) i u)
theorem blk_cells {w : World} {g : Nat} {L L' : List BL} (h : Blk w g 9 (strsC L).toArray) (e : L=L') : CellsAt w (some ⟨g,0,none⟩) (strsC L'):=fun i v hi => ⟨g,0,rfl,by
 subst e
 rw [Nat.zero_add,h.cell]
 simpa using hi⟩
set_option maxHeartbeats 4000000 in
set_option maxRecDepth 100000 in
theorem next_any (word : BL) (n g : Nat) (c1 c2 c3 c4 c5 c6 c7 c8 c9 c10 c11 c12 c13 : Value) (A : Option Addr) (c : Nat) (L : List BL) (w : World) (hw : LibW w) (hg : Blk w g RT #[.slice A L.length c,c1,c2,c3,c4,c5,c6,c7,c8,c9,c10,c11,c12,c13]) (hL : LinesAt w g A c L) (hs : ∀ x ∈ L,x.length≤8192) (hn : n≤8) :
  Calls Tryz.prog 31 #[.pointer (some ⟨g,0,none⟩),.string (strU word),.int .i64 (n : Int)] w (NextPost word n g c1 c2 c3 c4 c5 c6 c7 c8 c9 c10 c11 c12 c13 A L w):=by
 cases L with
 | nil =>
  have hc:=hg.cell
  clear hg hL hs hw
  go_enter Tryz.func31,Tryz.ntmps31
  go_wp2
  go_ret2
  exact .inl ⟨rfl,rfl,Below.refl _ _⟩
 | cons l ls =>
  have hl8:=hs l List.mem_cons_self
  have HSP:=Lib.hid (split_blk 32 l hl8 w hw)
  obtain ⟨b,o,rfl⟩ : ∃ b o,A=some ⟨b,o,none⟩:=by
   obtain ⟨b,o,e,-⟩:=hL.1 0 _ rfl
   exact ⟨b,o,e⟩
  have hc0 : w.cell? ⟨b,o,none⟩=some (.string (strU l)):=by
   obtain ⟨b',o',e,hcc⟩:=hL.1 0 _ rfl
   injection e with e
   injection e with e1 e2
   subst e1 e2
   exact hcc
  have hcap : ls.length + 1≤c:=hL.2.1
  obtain ⟨m,hm⟩ : ∃ m,m=(l :: ls).length:=⟨_,rfl⟩
  have hm1 : m=ls.length + 1:=hm
  rw [← hm] at hg
  have hc:=hg.cell
  have HG:=Lib.hid hg
  have HTL:=Lib.hid (lines_tail (n:=0) hL)
  have HM:=Lib.hid hm1
  have t2 : ((m : Int) == 0)=false:=by simp; omega
  have i1 : (0 : Int) < (m : Int):=by omega
  have i2 : 0 < m:=by omega
  have i3 : m≤c:=by omega
  have i4 : (1 : Int)≤(m : Int):=by omega
  have i5 : 1≤m:=by omega
  have i6 : 1≤c:=by omega
  have i7 : (1 : Int)≤(c : Int):=by omega
  have hwn : IntKind.i64.wrap ((n : Int) + 1)=(n : Int) + 1:=by rw [IntKind.wrap_i64]; omega
  have hnI : (n : Int)≤8:=by omega
  clear hg hL hs hw hl8 hm hm1 hcap
  go_enter Tryz.func31,Tryz.ntmps31
  go_wp2_with fail
  refine HSP.out.mono ?_
  rintro e w2 ⟨g2,rfl,hG2,hg2,x2⟩
  obtain ⟨P,hP⟩ : ∃ P,P=splitL 32 l:=⟨_,rfl⟩
  have hPn:=splitL_cnt 32 l
  have hP0:=split_pos 32 l
  rw [← hP] at hG2 hPn hP0 ⊢
  obtain ⟨p0,ps,hps⟩ : ∃ p0 ps,P=p0 :: ps:=by
   cases P with
   | nil => exact absurd rfl hP0
   | cons a r => exact ⟨a,r,rfl⟩
  have HPS:=Lib.hid hps
  have hc2 : w2.cell? ⟨g2,0,none⟩=some (.string (strU p0)):=by
   rw [hG2.cell,hps]
   rfl
  have HNX:=Lib.hid (show nextL word n (l :: ls)=if p0=word∧P.length=n + 1 then some (ps,ls) else none by unfold nextL; simp only; rw [← hP,hps]; rfl)
  obtain ⟨q,hq⟩ : ∃ q,q=P.length:=⟨_,rfl⟩
  have HQ:=Lib.hid hq
  rw [← hq] at HNX ⊢
  have q1 : 1≤q:=by rw [hq,hps,List.length_cons]; omega
  have HG2:=Lib.hid hG2
  have HGR:=Lib.hid (HG.out.ext x2)
  have X2:=Lib.hid x2
  have HGE:=Lib.hid hg2
  have q2 : (0 : Int) < (q : Int):=by omega
  have q3 : 0 < q:=q1
  have q4 : (1 : Int)≤(q : Int):=by omega
  clear hG2 hPn hP0 hP hps hq x2 hg2 hc HSP
  have hc3:=HGR.out.cell
  have hf3:=HGR.out.frozen
  by_cases hw1 : p0=word
  ·have e1 : ((strU p0).toList == (strU word).toList)=true:=by rw [hw1,beq_self_eq_true]
   by_cases hn1 : q=n + 1
   ·have e2 : ((q : Int) == (n : Int) + 1)=true:=by simp [hn1]
    have hS:=Lib.hid (show nextL word n (l :: ls)=some (ps,ls) by rw [HNX.out,if_pos ⟨hw1,hn1⟩])
    have HN1:=Lib.hid hn1
    clear hw1 HNX hn1
    by_cases hc1 : c=1
    ·subst hc1
     obtain rfl : m=1:=by omega
     by_cases hq1 : q=1
     ·subst hq1
      obtain rfl : n=0:=by have:=HN1.out; omega
      have hTL:=HTL.out
      rw [if_pos (by omega)] at hTL
      have hPS:=(show LinesAt w2 g (if 1 - 1=0 then some ⟨g2,0,none⟩ else some ⟨g2,0 + 1,none⟩) (1 - 1) ps from lines_tail (n:=0) (l:=p0) ⟨blk_cells HG2.out HPS.out,by rw [HQ.out,HPS.out]; exact Nat.le_refl _,fun h => (by cases h),fun a ha => (by injection ha with ha; subst ha; exact Nat.ne_of_gt (Nat.lt_of_lt_of_le (Blk.lt HG.out) HGE.out))⟩)
      have hqn : 1 - 1=0:=by have:=HN1.out; omega
      rw [if_pos (by omega),hqn] at hPS
      have HQN:=Lib.hid hqn
      have HTL2:=Lib.hid (hTL.ext X2.out)
      have HPS2:=Lib.hid hPS
      have HSET:=Lib.hid (blk_put (i:=0) (u:=.slice (some ⟨b,o,none⟩) (1 - 1) (1 - 1)) HGR.out (cs':=#[.slice (some ⟨b,o,none⟩) (1 - 1) (1 - 1),c1,c2,c3,c4,c5,c6,c7,c8,c9,c10,c11,c12,c13]) rfl)
      have HGS:=Lib.hid (grown_set (grown_of_ext X2.out (some g)) 0 (.slice (some ⟨b,o,none⟩) (1 - 1) (1 - 1)))
      clear hTL hPS hqn
      go_wp2
      go_ret2
      have hqn:=HQN.out
      refine .inr ⟨ps,ls,some ⟨g2,0,none⟩,0,some ⟨b,o,none⟩,1 - 1,hS.out,?_,(by first | rfl | (rw [← hqn]; rfl)),lines_set HPS2.out _,lines_set HTL2.out _,?_,HGS.out,fun a ha => (by cases ha; exact HGE.out),fun a b e1 e2 => (by cases e1; cases e2; rfl)⟩
      ·have h1:=HQ.out; have h2:=HN1.out; rw [HPS.out,List.length_cons] at h1; omega
      ·have h1:=HM.out; rw [show ls.length=1 - 1 by omega]; exact HSET.out
     ·have hTL:=HTL.out
      rw [if_pos (by omega)] at hTL
      have hPS:=(show LinesAt w2 g (if q - 1=0 then some ⟨g2,0,none⟩ else some ⟨g2,0 + 1,none⟩) (q - 1) ps from lines_tail (n:=0) (l:=p0) ⟨blk_cells HG2.out HPS.out,by rw [HQ.out,HPS.out]; exact Nat.le_refl _,fun h => (by cases h),fun a ha => (by injection ha with ha; subst ha; exact Nat.ne_of_gt (Nat.lt_of_lt_of_le (Blk.lt HG.out) HGE.out))⟩)
      have hqn : q - 1=n:=by have:=HN1.out; omega
      rw [if_neg (by omega),hqn] at hPS
      have HQN:=Lib.hid hqn
      have HTL2:=Lib.hid (hTL.ext X2.out)
      have HPS2:=Lib.hid hPS
      have HSET:=Lib.hid (blk_put (i:=0) (u:=.slice (some ⟨b,o,none⟩) (1 - 1) (1 - 1)) HGR.out (cs':=#[.slice (some ⟨b,o,none⟩) (1 - 1) (1 - 1),c1,c2,c3,c4,c5,c6,c7,c8,c9,c10,c11,c12,c13]) rfl)
      have HGS:=Lib.hid (grown_set (grown_of_ext X2.out (some g)) 0 (.slice (some ⟨b,o,none⟩) (1 - 1) (1 - 1)))
      clear hTL hPS hqn
      go_wp2
      go_ret2
      have hqn:=HQN.out
      refine .inr ⟨ps,ls,some ⟨g2,1,none⟩,n,some ⟨b,o,none⟩,1 - 1,hS.out,?_,(by first | rfl | (rw [← hqn]; rfl)),lines_set HPS2.out _,lines_set HTL2.out _,?_,HGS.out,fun a ha => (by cases ha; exact HGE.out),fun a b e1 e2 => (by cases e1; cases e2; rfl)⟩
      ·have h1:=HQ.out; have h2:=HN1.out; rw [HPS.out,List.length_cons] at h1; omega
      ·have h1:=HM.out; rw [show ls.length=1 - 1 by omega]; exact HSET.out
    ·by_cases hq1 : q=1
     ·subst hq1
      obtain rfl : n=0:=by have:=HN1.out; omega
      have hTL:=HTL.out
      rw [if_neg (by omega)] at hTL
      have hPS:=(show LinesAt w2 g (if 1 - 1=0 then some ⟨g2,0,none⟩ else some ⟨g2,0 + 1,none⟩) (1 - 1) ps from lines_tail (n:=0) (l:=p0) ⟨blk_cells HG2.out HPS.out,by rw [HQ.out,HPS.out]; exact Nat.le_refl _,fun h => (by cases h),fun a ha => (by injection ha with ha; subst ha; exact Nat.ne_of_gt (Nat.lt_of_lt_of_le (Blk.lt HG.out) HGE.out))⟩)
      have hqn : 1 - 1=0:=by have:=HN1.out; omega
      rw [if_pos (by omega),hqn] at hPS
      have HQN:=Lib.hid hqn
      have HTL2:=Lib.hid (hTL.ext X2.out)
      have HPS2:=Lib.hid hPS
      have HSET:=Lib.hid (blk_put (i:=0) (u:=.slice (some ⟨b,o + 1,none⟩) (m - 1) (c - 1)) HGR.out (cs':=#[.slice (some ⟨b,o + 1,none⟩) (m - 1) (c - 1),c1,c2,c3,c4,c5,c6,c7,c8,c9,c10,c11,c12,c13]) rfl)
      have HGS:=Lib.hid (grown_set (grown_of_ext X2.out (some g)) 0 (.slice (some ⟨b,o + 1,none⟩) (m - 1) (c - 1)))
      clear hTL hPS hqn
      go_wp2
      go_ret2
      have hqn:=HQN.out
      refine .inr ⟨ps,ls,some ⟨g2,0,none⟩,0,some ⟨b,o + 1,none⟩,c - 1,hS.out,?_,(by first | rfl | (rw [← hqn]; rfl)),lines_set HPS2.out _,lines_set HTL2.out _,?_,HGS.out,fun a ha => (by cases ha; exact HGE.out),fun a b e1 e2 => (by cases e1; cases e2; rfl)⟩
      ·have h1:=HQ.out; have h2:=HN1.out; rw [HPS.out,List.length_cons] at h1; omega
      ·have h1:=HM.out; rw [show ls.length=m - 1 by omega]; exact HSET.out
     ·have hTL:=HTL.out
      rw [if_neg (by omega)] at hTL
      have hPS:=(show LinesAt w2 g (if q - 1=0 then some ⟨g2,0,none⟩ else some ⟨g2,0 + 1,none⟩) (q - 1) ps from lines_tail (n:=0) (l:=p0) ⟨blk_cells HG2.out HPS.out,by rw [HQ.out,HPS.out]; exact Nat.le_refl _,fun h => (by cases h),fun a ha => (by injection ha with ha; subst ha; exact Nat.ne_of_gt (Nat.lt_of_lt_of_le (Blk.lt HG.out) HGE.out))⟩)
      have hqn : q - 1=n:=by have:=HN1.out; omega
      rw [if_neg (by omega),hqn] at hPS
      have HQN:=Lib.hid hqn
      have HTL2:=Lib.hid (hTL.ext X2.out)
      have HPS2:=Lib.hid hPS
      have HSET:=Lib.hid (blk_put (i:=0) (u:=.slice (some ⟨b,o + 1,none⟩) (m - 1) (c - 1)) HGR.out (cs':=#[.slice (some ⟨b,o + 1,none⟩) (m - 1) (c - 1),c1,c2,c3,c4,c5,c6,c7,c8,c9,c10,c11,c12,c13]) rfl)
      have HGS:=Lib.hid (grown_set (grown_of_ext X2.out (some g)) 0 (.slice (some ⟨b,o + 1,none⟩) (m - 1) (c - 1)))
      clear hTL hPS hqn
      go_wp2
      go_ret2
      have hqn:=HQN.out
      refine .inr ⟨ps,ls,some ⟨g2,1,none⟩,n,some ⟨b,o + 1,none⟩,c - 1,hS.out,?_,(by first | rfl | (rw [← hqn]; rfl)),lines_set HPS2.out _,lines_set HTL2.out _,?_,HGS.out,fun a ha => (by cases ha; exact HGE.out),fun a b e1 e2 => (by cases e1; cases e2; rfl)⟩
      ·have h1:=HQ.out; have h2:=HN1.out; rw [HPS.out,List.length_cons] at h1; omega
      ·have h1:=HM.out; rw [show ls.length=m - 1 by omega]; exact HSET.out
   ·have e2 : ((q : Int) == (n : Int) + 1)=false:=by simp; omega
    have hS:=Lib.hid (show nextL word n (l :: ls)=none by rw [HNX.out,if_neg (fun h => hn1 h.2)])
    clear hw1 hn1 HNX
    go_wp2
    go_ret2
    exact .inl ⟨hS.out,rfl,X2.out⟩
  ·have e1 : ((strU p0).toList == (strU word).toList)=false:=by
    rw [Lib.toList_data,Lib.toList_data,strU_data,strU_data]
    simpa using hw1
   have hS:=Lib.hid (show nextL word n (l :: ls)=none by rw [HNX.out,if_neg (fun h => hw1 h.1)])
   clear hw1 HNX
   go_wp2
   go_ret2
   exact .inl ⟨hS.out,rfl,X2.out⟩
end Go.Proofs.YtdoibgmmijhlfaaGreatDoor
