/- MovesW2 MovesW3 MovesListP MakeP MovesMem -/
import Derived.Test.YtdoibgmmijhlfaaGreatDoorR23
import Derived.Test.YtdoibgmmijhlfaaGreatDoorR25
import Derived.Test.YtdoibgmmijhlfaaGreatDoorR26
import Derived.Test.YtdoibgmmijhlfaaGreatDoorR22
import Derived.Test.YtdoibgmmijhlfaaGreatDoorR24
import Derived.Test.YtdoibgmmijhlfaaGreatDoorR06
import Derived.WalkLawsBesides
import Derived.Laws.ResultCell
namespace Go.Proofs.YtdoibgmmijhlfaaGreatDoor
open Go.ChangeShapes Go.WideShapes Go.ChangeAt Go.RowKit Go.Shelf
set_option linter.unusedVariables false
theorem way_any (R : RulesM) (P : PosM) (v u : Value) (s : Nat) (x : WayM) (w : World) (hR : RulesAt w v R) (hP : PosAt w u P) (hV : Valid R) (hS : Sound R P) (hs : s < P.cells.length) (hx : wayB x=true) :
  Calls Tryz.prog 74 #[v,u,.int .i64 (s : Int),.agg #[.int .i64 x.dx,.int .i64 x.dy,.int .i64 x.most,.int .i64 x.take]] w (WayPost w (wayM R P s x)):=by
 obtain ⟨pA,pc,sA,sc,eA,ec,rfl,-⟩:=hR
 obtain ⟨cA,cc,aA,ac,bA,bc,rfl,hc,-⟩:=hP
 obtain ⟨b1,b2,b3,b4⟩:=wayB_bd hx
 unfold wayM
 have h6:=hV.pieces6
 have hb : ∀ c ∈ P.cells,0≤c∧c≤12:=fun c h => ⟨(hS.cells c h).1,by have:=(hS.cells c h).2; omega⟩
 rcases hS.turn with h | h
 ·rw [h,if_neg (by omega)]
  exact way_core0 _ _ _ _ _ _ _ _ _ _ _ _ _ _ _ _ _ _ _ _ _ _ _ _ _ _ _ _ _ _ _ s w hV.side b1 b2 b3 b4 hS.area hs hb hc
 ·rw [h,if_pos rfl]
  exact way_core1 _ _ _ _ _ _ _ _ _ _ _ _ _ _ _ _ _ _ _ _ _ _ _ _ _ _ _ _ _ _ _ s w hV.side b1 b2 b3 b4 hS.area hs hb hc
end Go.Proofs.YtdoibgmmijhlfaaGreatDoor
namespace Go.Proofs.YtdoibgmmijhlfaaGreatDoor
open Go.ChangeShapes Go.WideShapes Go.ChangeAt Go.RowKit Go.Shelf
set_option linter.unusedVariables false
theorem puts_any (R : RulesM) (P : PosM) (v u : Value) (w : World) (hR : RulesAt w v R) (hP : PosAt w u P) (hV : Valid R) (hS : Sound R P) :
  Calls Tryz.prog 73 #[v,u] w (MovesPost w (putsM R P)):=by
 rcases hS.turn with h | h
 ·exact puts_core0 R P v u w hR hP hV hS h
 ·exact puts_core1 R P v u w hR hP hV hS h
end Go.Proofs.YtdoibgmmijhlfaaGreatDoor
namespace Go.Proofs.YtdoibgmmijhlfaaGreatDoor
open Go.ChangeShapes Go.WideShapes Go.ChangeAt Go.RowKit Go.Shelf
set_option linter.unusedVariables false
theorem stepsToM_succ (R : RulesM) (P : PosM) (k : Nat) : stepsToM R P (k + 1)=stepsToM R P k ++ stepsAt R P k:=by
 unfold stepsToM
 rw [List.range_succ,List.flatMap_append]
 simp
theorem stepsAt_not {R : RulesM} {P : PosM} {k : Nat} (h : ownB P k=false) : stepsAt R P k=[]:=by unfold stepsAt; rw [h]; rfl
theorem stepsAt_own {R : RulesM} {P : PosM} {k kk : Nat} {p : PieceM} (h : ownB P k=true) (e : (P.cells.getD k 0 - 1) / 2=(kk : Int)) (hp : R.pieces[kk]? = some p) : stepsAt R P k=stepsBy R P k kk p.promote p.ways:=by
 unfold stepsAt
 rw [if_pos h,e,Int.toNat_natCast,hp]
theorem stepsBy_succ {R : RulesM} {P : PosM} {s k j : Nat} {pr : Int} {ws : List WayM} {x : WayM} (h : ws[j]? = some x) : stepsBy R P s k pr (ws.take (j + 1))=stepsBy R P s k pr (ws.take j) ++ (wayM R P s x).map (stepTo R P s k pr):=by
 unfold stepsBy
 rw [List.take_add_one,h,List.flatMap_append]
 simp
theorem wayFrom_len (W H turn take dx dy : Int) (cs : List Int) : ∀ n x y,(wayFrom W H turn take dx dy cs n x y).length≤n
 | 0,_,_ => by simp [wayFrom]
 | n + 1,x,y => by
  have:=wayFrom_len W H turn take dx dy cs n (x + dx) (y + dy)
  unfold wayFrom
  split
  ·simp
  ·rw [List.length_append]
   split <;> split <;> simp <;> omega
theorem wayFrom_mem (W H turn take dx dy : Int) (cs : List Int) : ∀ n x y,∀ t ∈ wayFrom W H turn take dx dy cs n x y,0≤t∧t < W * H
 | 0,_,_,t,h => by simp [wayFrom] at h
 | n + 1,x,y,t,h => by
  unfold wayFrom at h
  split at h
  ·simp at h
  ·rename_i hb
   have hq:=sq_mk (a:=W) (b:=H) (x:=x + dx) (y:=y + dy) (by omega) (by omega) (by omega) (by omega)
   rw [List.mem_append] at h
   rcases h with h | h
   ·split at h
    ·simp at h; rw [h]; exact hq
    ·simp at h
   ·split at h
    ·exact wayFrom_mem W H turn take dx dy cs n _ _ t h
    ·simp at h
theorem wayM_len {R : RulesM} {P : PosM} {s : Nat} {x : WayM} (h : wayB x=true) : (wayM R P s x).length≤7:=by
 have:=wayFrom_len R.width R.height P.turn x.take x.dx (if P.turn=1 then -x.dy else x.dy) P.cells x.most.toNat ((s : Int) % R.width) ((s : Int) / R.width)
 have hb:=(wayB_bd h).2.2.1
 unfold wayM
 omega
theorem wayM_mem {R : RulesM} {P : PosM} {s : Nat} {x : WayM} {t : Int} (h : t ∈ wayM R P s x) : 0≤t∧t < R.width * R.height:=wayFrom_mem _ _ _ _ _ _ _ _ _ _ t h
theorem stepsBy_len {R : RulesM} {P : PosM} {s k : Nat} {pr : Int} : ∀ {ws : List WayM},(∀ x ∈ ws,wayB x=true)→(stepsBy R P s k pr ws).length≤7 * ws.length
 | [],_ => by simp [stepsBy]
 | x :: ws,h => by
  have h1:=wayM_len (R:=R) (P:=P) (s:=s) (h x (by simp))
  have h2:=stepsBy_len (R:=R) (P:=P) (s:=s) (k:=k) (pr:=pr) (ws:=ws) (fun y hy => h y (by simp [hy]))
  unfold stepsBy at *
  rw [List.flatMap_cons,List.length_append,List.length_map,List.length_cons]
  omega
theorem piece_get {R : RulesM} (hV : Valid R) {kk : Nat} {p : PieceM} (h : R.pieces[kk]? = some p) : (0≤p.promote∧p.promote≤6)∧p.ways.length≤16∧∀ x ∈ p.ways,wayB x=true:=by
 have:=piece_facts hV.piece (List.mem_of_getElem? h)
 have h6:=hV.pieces6
 exact ⟨by omega,this.2.2.2.1,this.2.2.2.2⟩
theorem stepsAt_len {R : RulesM} {P : PosM} (hV : Valid R) (k : Nat) : (stepsAt R P k).length≤112:=by
 unfold stepsAt
 split
 ·cases hp : R.pieces[((P.cells.getD k 0 - 1) / 2).toNat]? with
  | none => simp
  | some p =>
   obtain ⟨_,h1,h2⟩:=piece_get hV hp
   have:=stepsBy_len (R:=R) (P:=P) (s:=k) (k:=((P.cells.getD k 0 - 1) / 2).toNat) (pr:=p.promote) h2
   simp only
   omega
 ·simp
theorem stepsToM_len {R : RulesM} {P : PosM} (hV : Valid R) : ∀ k,(stepsToM R P k).length≤112 * k
 | 0 => by simp [stepsToM]
 | k + 1 => by
  have h1:=stepsToM_len (P:=P) hV k
  have h2:=stepsAt_len (P:=P) hV k
  rw [stepsToM_succ,List.length_append]
  omega
theorem putsM_len {R : RulesM} {P : PosM} (hV : Valid R) (hS : Sound R P) : (putsM R P).length≤384:=by
 have h6:=hV.pieces6
 have hh : P.hand.length≤6:=by
  unfold PosM.hand
  split
  ·rw [hS.len0]; exact h6
  ·rw [hS.len1]; exact h6
 have har:=area_bd _ _ hV.side
 have ha:=hS.area
 have:=putsTo_len R P hh P.cells.length
 unfold putsM
 omega
theorem OwnI.kept {w0 w1 w w' : World} {tv v : Value} {T : List Int} {L : List MoveM} (h : OwnI w0 w tv T) (hg : w.grownBy w' v.ownBlock) (hm : OwnM w1 w v L) : OwnI w0 w' tv T:=by
 obtain ⟨A,c,rfl,h⟩:=h
 obtain ⟨B,d,rfl,hm⟩:=hm
 exact ⟨A,c,rfl,h.kept hg (own_ne h hm (by decide))⟩
theorem wp_append_move_at {ops : Array Oper} {rest : List Oper} {o : Oper} {a : Act} {Q : Exit→Act→World→Prop} (s x : Operand) (hgd : o.guard=none)
  (ho : o.op=.call { callee:=.builtin .append,args:=#[s,x],argTypes:=#[38,38] }) (w0 w : World) (v : Value) (xs : List MoveM) (m : MoveM) (hs : a.eval s=v) (hown : OwnM w0 w v xs) (H : Nat) (hx : a.eval x=.slice (some ⟨H,0,none⟩) 1 1) (hH : w.heap.size=H)
  (hext : Ext w0 w) (hlen : xs.length≤1000000) (h : ∀ v' w',OwnM w0 w' v' (xs ++ [m])→Ext w0 w'→w.grownBy w' v.ownBlock→wpList Tryz.prog ops Q rest (a.put o.dst v') w') :
  wpList Tryz.prog ops Q (o :: rest) a (w.alloc (.cells #[.int .i64 m.src,.int .i64 m.dst,.int .i64 m.piece] 47)):=by
 subst hH
 exact wp_append_move s x hgd ho w0 w v xs m hs hown hx hext hlen h
theorem ownB_true {P : PosM} {k : Nat} {z : Int} (h : P.cells.getD k 0=z) (h0 : z ≠ 0) (h1 : (z - 1) % 2=P.turn) : ownB P k=true:=by
 unfold ownB; rw [h]; simp [h0,h1]
theorem ownB_false {P : PosM} {k : Nat} {z : Int} (h : P.cells.getD k 0=z) (h0 : z=0∨(z - 1) % 2 ≠ P.turn) : ownB P k=false:=by
 unfold ownB; rw [h]; rcases h0 with h0 | h0 <;> simp [h0]
end Go.Proofs.YtdoibgmmijhlfaaGreatDoor
namespace Go.Proofs.YtdoibgmmijhlfaaGreatDoor
open Go.ChangeShapes Go.WideShapes Go.ChangeAt Go.RowKit Go.Shelf
set_option linter.unusedVariables false
structure CanStep (R : RulesM) (P : PosM) (s d q : Nat) : Prop where
 src : s < P.cells.length
 dst : d < P.cells.length
 ne : s ≠ d
 piece : q < R.pieces.length
structure CanPut (R : RulesM) (P : PosM) (d q : Nat) : Prop where
 dst : d < P.cells.length
 piece : q < R.pieces.length
 free : P.cells.getD d 0=0
theorem run_min2 (W : World) (ats : Array TypeId) (ty : TypeId) (a b : Int) : (Builtin.min_ ats ty #[.int .i64 a,.int .i64 b]).run Tryz.prog W=.ok (.int .i64 (minI a b)) W:=by
 have e : minI a b=if b < a then b else a:=by unfold minI; split <;> split <;> omega
 rw [e]
 simp [Builtin.min_,Builtin.min2]
def MakePost (w : World) (Q : PosM) (e : Ending) (w' : World) : Prop:=∃ v',e=.returned v'∧PosOwn w' w.heap.size v' Q∧Ext w w'
end Go.Proofs.YtdoibgmmijhlfaaGreatDoor
namespace Go.Proofs.YtdoibgmmijhlfaaGreatDoor
set_option linter.unusedVariables false
theorem sq_x {a x y : Int} (hx0 : 0≤x) (hx : x < a) : (y * a + x) % a=x:=by
 rw [Int.add_comm,Int.add_mul_emod_self_right]
 exact Int.emod_eq_of_lt hx0 hx
theorem sq_y {a x y : Int} (hx0 : 0≤x) (hx : x < a) : (y * a + x) / a=y:=by
 rw [Int.add_comm,Int.add_mul_ediv_right _ _ (by omega),Int.ediv_eq_zero_of_lt hx0 hx,Int.zero_add]
theorem wayFrom_spec (W H turn take dx dy : Int) (cs : List Int) : ∀ n x y,∀ t ∈ wayFrom W H turn take dx dy cs n x y,
  ∃ j : Nat,1≤j∧j≤n∧0≤x + (j : Int) * dx∧x + (j : Int) * dx < W∧0≤y + (j : Int) * dy∧y + (j : Int) * dy < H∧t=(y + (j : Int) * dy) * W + (x + (j : Int) * dx)∧endsB turn take (cs.getD t.toNat 0)=true
 | 0,_,_,t,h => by simp [wayFrom] at h
 | n + 1,x,y,t,h => by
  unfold wayFrom at h
  split at h
  ·simp at h
  ·rename_i hb
   rw [List.mem_append] at h
   rcases h with h | h
   ·split at h
    ·rename_i he
     simp only [List.mem_singleton] at h
     subst h
     refine ⟨1,Nat.le_refl _,by omega,?_,?_,?_,?_,?_,he⟩ <;> simp only [Int.natCast_one,Int.one_mul] <;> omega
    ·simp at h
   ·split at h
    ·obtain ⟨j,j1,j2,a,b,c,d,e,f⟩:=wayFrom_spec W H turn take dx dy cs n _ _ t h
     have ex : x + dx + (j : Int) * dx=x + ((j + 1 : Nat) : Int) * dx:=by rw [Int.natCast_add,Int.add_mul]; simp; omega
     have ey : y + dy + (j : Int) * dy=y + ((j + 1 : Nat) : Int) * dy:=by rw [Int.natCast_add,Int.add_mul]; simp; omega
     rw [ex] at a b e
     rw [ey] at c d e
     exact ⟨j + 1,by omega,by omega,a,b,c,d,e,f⟩
    ·simp at h
theorem sq_of {W H : Int} {s : Nat} (hW : 1≤W) (hs : (s : Int) < W * H) : 0≤(s : Int) % W∧(s : Int) % W < W∧0≤(s : Int) / W∧(s : Int) / W < H∧(s : Int) / W * W + (s : Int) % W=s:=by
 have h1:=Int.emod_nonneg (s : Int) (show W ≠ 0 by omega)
 have h2:=Int.emod_lt_of_pos (s : Int) (show 0 < W by omega)
 have h3 : 0≤(s : Int) / W:=Int.ediv_nonneg (by omega) (by omega)
 have h4 : (s : Int) / W < H:=by
  apply Int.ediv_lt_of_lt_mul (by omega)
  rw [Int.mul_comm]; exact hs
 have h5:=Int.emod_add_mul_ediv (s : Int) W
 exact ⟨h1,h2,h3,h4,by rw [Int.mul_comm]; omega⟩
theorem endsB_cell {turn take c : Int} (h : endsB turn take c=true) : c=0∨(0 < c∧(c - 1) % 2 ≠ turn):=by
 unfold endsB at h
 simp only [Bool.or_eq_true,Bool.and_eq_true,decide_eq_true_eq] at h
 omega
theorem wayM_spec {R : RulesM} {P : PosM} {s : Nat} {x : WayM} {t : Int} (hV : Valid R) (hS : Sound R P) (hx : wayB x=true) (hs : s < P.cells.length) (h : t ∈ wayM R P s x) :
  ∃ d : Nat,t=d∧d < P.cells.length∧s ≠ d∧(P.cells.getD d 0=0∨(0 < P.cells.getD d 0∧(P.cells.getD d 0 - 1) % 2 ≠ P.turn)):=by
 have hm:=wayM_mem h
 unfold wayM at h
 obtain ⟨j,j1,j2,a,b,c,d,e,f⟩:=wayFrom_spec _ _ _ _ _ _ _ _ _ _ _ h
 have ha:=hS.area
 obtain ⟨s1,s2,s3,s4,s5⟩:=sq_of (W:=R.width) (H:=R.height) (s:=s) hV.side.1 (by omega)
 obtain ⟨k,rfl⟩:=Int.eq_ofNat_of_zero_le hm.1
 refine ⟨k,rfl,by omega,?_,endsB_cell (by simpa using f)⟩
 rintro rfl
 have ex:=sq_x (a:=R.width) (y:=(s : Int) / R.width + (j : Int) * (if P.turn=1 then -x.dy else x.dy)) a b
 have ey:=sq_y (a:=R.width) (y:=(s : Int) / R.width + (j : Int) * (if P.turn=1 then -x.dy else x.dy)) a b
 rw [← e] at ex ey
 have e1 : (j : Int) * x.dx=0:=by omega
 have e2 : (j : Int) * (if P.turn=1 then -x.dy else x.dy)=0:=by omega
 have hj : (j : Int) ≠ 0:=by omega
 have d1:=(Int.mul_eq_zero.1 e1).resolve_left hj
 have d2:=(Int.mul_eq_zero.1 e2).resolve_left hj
 have d3 : x.dy=0:=by split at d2 <;> omega
 unfold wayB at hx
 simp [d1,d3] at hx
theorem mem_listM {R : RulesM} {P : PosM} {m : MoveM} : m ∈ listM R P ↔ m ∈ rawM R P:=mem_listOf
theorem hand_len {R : RulesM} {P : PosM} (hS : Sound R P) : P.hand.length=R.pieces.length:=by
 unfold PosM.hand; split
 ·exact hS.len0
 ·exact hS.len1
theorem hand_held {R : RulesM} {P : PosM} (hS : Sound R P) : ∀ c ∈ P.hand,0≤c∧c≤1000:=by
 unfold PosM.hand; split
 ·exact hS.held0
 ·exact hS.held1
theorem getD_mem {l : List Int} {k : Nat} (h : k < l.length) : l.getD k 0 ∈ l:=by simp [h]
theorem rawM_cases {R : RulesM} {P : PosM} {m : MoveM} (hV : Valid R) (hS : Sound R P) (h : m ∈ rawM R P) :
  (∃ d q : Nat,m=⟨-1,d,q⟩∧CanPut R P d q∧0 < P.hand.getD q 0) ∨
  (∃ s d q : Nat,m=⟨s,d,q⟩∧CanStep R P s d q∧ownB P s=true∧(P.cells.getD d 0=0∨(0 < P.cells.getD d 0∧(P.cells.getD d 0 - 1) % 2 ≠ P.turn))):=by
 unfold rawM at h
 rcases List.mem_append.1 h with h | h
 ·unfold putsM putsTo at h
  obtain ⟨d,hd,h⟩:=List.mem_flatMap.1 h
  rw [List.mem_range] at hd
  split at h
  ·rename_i hp
   unfold putsAt at h
   obtain ⟨q,hq,h⟩:=List.mem_flatMap.1 h
   rw [List.mem_range] at hq
   split at h
   ·rename_i h0
    simp only [List.mem_singleton] at h
    refine .inl ⟨d,q,h,⟨hd,?_,?_⟩,h0⟩
    ·rw [← hand_len hS]; exact hq
    ·unfold putB at hp
     simp only [Bool.and_eq_true,decide_eq_true_eq] at hp
     exact hp.1
   ·simp at h
  ·simp at h
 ·unfold stepsToM at h
  obtain ⟨s,hs,h⟩:=List.mem_flatMap.1 h
  rw [List.mem_range] at hs
  unfold stepsAt at h
  split at h
  ·rename_i ho
   cases hp : R.pieces[((P.cells.getD s 0 - 1) / 2).toNat]? with
   | none => rw [hp] at h; simp at h
   | some p =>
    rw [hp] at h
    have hk:=(List.getElem?_eq_some_iff.1 hp).1
    obtain ⟨f1,f2,f3,f4,f5⟩:=piece_facts hV.piece (List.mem_of_getElem? hp)
    generalize ((P.cells.getD s 0 - 1) / 2).toNat=k at *
    unfold stepsBy at h
    obtain ⟨x,hx,h⟩:=List.mem_flatMap.1 h
    obtain ⟨t,ht,rfl⟩:=List.mem_map.1 h
    obtain ⟨d,rfl,g1,g2,g3⟩:=wayM_spec hV hS (f5 x hx) hs ht
    unfold stepTo
    split
    ·rename_i hpr
     obtain ⟨q,hq⟩:=Int.eq_ofNat_of_zero_le (show 0≤p.promote - 1 by omega)
     exact .inr ⟨s,d,q,by rw [hq],⟨hs,g1,g2,by omega⟩,ho,g3⟩
    ·exact .inr ⟨s,d,k,rfl,⟨hs,g1,g2,hk⟩,ho,g3⟩
  ·simp at h
theorem mem_set_le {l : List Int} {k : Nat} {x c : Int} {a b : Int} (h : ∀ c ∈ l,a≤c∧c≤b) (hx : a≤x∧x≤b) (hc : c ∈ l.set k x) : a≤c∧c≤b:=by
 rcases List.mem_or_eq_of_mem_set hc with h1 | h1
 ·exact h c h1
 ·rw [h1]; exact hx
theorem sound_make {R : RulesM} {P : PosM} {m : MoveM} (hV : Valid R) (hS : Sound R P) (h : m ∈ rawM R P) : Sound R (makeM R P m):=by
 have hq:=hS.quiet
 have ht:=hS.turn
 have hb1:=hand_len hS
 have hb2:=hand_held hS
 have main : ∀ (c1 h1 : List Int) (d q : Nat) (k : Int),(c1.length : Int)=R.width * R.height→(∀ c ∈ c1,0≤c∧c≤2 * (R.pieces.length : Int))→h1.length=R.pieces.length→(∀ c ∈ h1,0≤c∧c≤1000)→q < R.pieces.length→0≤k∧k≤200→∀ b : Bool,∀ kk : Nat,
   Sound R { cells:=c1.set d (2 * (q : Int) + P.turn + 1),hand0:=if P.turn=0 then (if b then setHand h1 kk (fun x => minI (x + 1) 1000) else h1) else P.hand0,hand1:=if P.turn=0 then P.hand1 else (if b then setHand h1 kk (fun x => minI (x + 1) 1000) else h1),turn:=1 - P.turn,quiet:=k }:=by
  intro c1 h1 d q k e1 e2 e3 e4 e5 e6 b kk
  have g1 : (if b then setHand h1 kk (fun x => minI (x + 1) 1000) else h1).length=R.pieces.length:=by
   split
   ·unfold setHand; rw [List.length_set]; exact e3
   ·exact e3
  have g2 : ∀ c ∈ (if b then setHand h1 kk (fun x => minI (x + 1) 1000) else h1),0≤c∧c≤1000:=by
   split
   ·intro c hc
    unfold setHand at hc
    by_cases hk : kk < h1.length
    ·have:=e4 _ (getD_mem hk)
     exact mem_set_le e4 (by show 0≤minI (h1.getD kk 0 + 1) 1000∧minI (h1.getD kk 0 + 1) 1000≤1000; unfold minI; split <;> omega) hc
    ·rw [List.set_eq_of_length_le (by omega)] at hc
     exact e4 c hc
   ·exact e4
  generalize (if b then setHand h1 kk (fun x => minI (x + 1) 1000) else h1)=h2 at *
  refine ⟨by simpa using e1,?_,?_,?_,?_,?_,?_,e6⟩
  ·show (if P.turn=0 then h2 else P.hand0).length=_
   split
   ·exact g1
   ·exact hS.len0
  ·show (if P.turn=0 then P.hand1 else h2).length=_
   split
   ·exact hS.len1
   ·exact g1
  ·intro c hc
   exact mem_set_le e2 (by omega) hc
  ·show ∀ c ∈ (if P.turn=0 then h2 else P.hand0),_
   split
   ·exact g2
   ·exact hS.held0
  ·show ∀ c ∈ (if P.turn=0 then P.hand1 else h2),_
   split
   ·exact hS.held1
   ·exact g2
  ·show (1 - P.turn=0∨1 - P.turn=1)
   omega
 rcases rawM_cases hV hS h with ⟨d,q,rfl,hc,hpos⟩ | ⟨s,d,q,rfl,hc,ho,hd⟩
 ·have hk : q < P.hand.length:=by rw [hb1]; exact hc.piece
  have:=main P.cells (setHand P.hand q (· - 1)) d q 0 hS.area hS.cells (by unfold setHand; rw [List.length_set]; exact hb1) (fun c h => by
   unfold setHand at h
   have:=hb2 _ (getD_mem hk)
   exact mem_set_le hb2 (by show 0≤P.hand.getD q 0 - 1∧P.hand.getD q 0 - 1≤1000; omega) h) hc.piece (by omega) (decide (0 < P.cells.getD d 0∧R.keeps=true)) ((P.cells.getD d 0 - 1) / 2).toNat
  unfold makeM
  simpa using this
 ·have:=main (P.cells.set s 0) P.hand d q (if 0 < P.cells.getD d 0 then 0 else minI (P.quiet + 1) 200) (by simpa using hS.area) (fun c h => mem_set_le hS.cells (by omega) h) hb1 hb2 hc.piece (by unfold minI; split <;> (try split) <;> omega) (decide (0 < P.cells.getD d 0∧R.keeps=true)) ((P.cells.getD d 0 - 1) / 2).toNat
  unfold makeM
  have e1 : (0 : Int)≤(s : Int):=by omega
  have e2 : ¬ ((s : Int) < 0):=by omega
  simpa [e1,e2] using this
end Go.Proofs.YtdoibgmmijhlfaaGreatDoor
