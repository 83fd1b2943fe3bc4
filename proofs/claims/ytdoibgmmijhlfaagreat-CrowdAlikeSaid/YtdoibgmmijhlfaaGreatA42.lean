/- CrZ CrY LCrowdAlike -/
import Derived.Test.YtdoibgmmijhlfaaGreatA40
import Derived.Test.YtdoibgmmijhlfaaGreatA41
namespace Go.Proofs.YtdoibgmmijhlfaaGreat
set_option linter.unusedVariables false
def Row0 (R : RulesM) (P : PosM) (d : Nat) (c : Nat→Int) : Prop:=∀ i m,(listM R P)[i]? = some m→c i=scoreOf R P d m
theorem row0_ex (R : RulesM) (P : PosM) (d : Nat) : ∃ c,Row0 R P d c:=⟨fun i => ((listM R P)[i]?.map (scoreOf R P d)).getD 0,fun i m h => by simp [h]⟩
theorem arg_take {f : MoveM→Int} {L : List MoveM} {c : Nat→Int} {a : MoveM × Int} (hc : ∀ i m,L[i]? = some m→c i=f m) (ha : ∀ m ∈ L,a.2 < f m) :
  ∀ k,k < L.length→∃ m,L[argI c (k + 1)]? = some m∧bestL f a (L.take (k + 1))=(m,f m)∧argI c (k + 1)≤k
 | 0,h => by
  have h0 : argI c (0 + 1)=0:=by simp [argI]
  have hm : L[0]? = some L[0]:=List.getElem?_eq_getElem h
  refine ⟨L[0],by rw [h0]; exact hm,?_,by rw [h0]; omega⟩
  rw [List.take_add_one,hm]
  show bestL f a ([] ++ [L[0]])=_
  rw [bestL_append,show bestL f a []=a from rfl,if_pos (ha _ (List.getElem_mem h))]
 | k + 1,h => by
  obtain ⟨m,h1,h2,h3⟩:=arg_take hc ha k (by omega)
  have hm : L[k + 1]? = some L[k + 1]:=List.getElem?_eq_getElem h
  have e : argI c (k + 1 + 1)=if c (argI c (k + 1)) < c (k + 1) then k + 1 else argI c (k + 1):=rfl
  rw [List.take_add_one,hm,e,hc _ _ h1,hc _ _ hm]
  show ∃ m',_∧bestL f a (L.take (k + 1) ++ [L[k + 1]])=_∧_
  rw [bestL_append,h2]
  show ∃ m',_∧(if f m < f L[k + 1] then _ else _)=_∧_
  by_cases q : f m < f L[k + 1]
  ·rw [if_pos q,if_pos q]; exact ⟨_,hm,rfl,Nat.le_refl _⟩
  ·rw [if_neg q,if_neg q]; exact ⟨_,h1,rfl,by omega⟩
theorem score_low (R : RulesM) (P : PosM) {d : Nat} (hd : d≤99) (hT : P.turn=0∨P.turn=1) (m : MoveM) : -2000 < scoreOf R P d m:=by
 have h:=near_bound (d:=d) (by omega) (of_bound R d (makeM R P m) (turn_make hT m) (by omega))
 unfold scoreOf
 unfold boundB at h
 omega
theorem first_row {R : RulesM} {P : PosM} {d : Nat} {c : Nat→Int} (hc : Row0 R P d c) (hd : d≤99) (hT : P.turn=0∨P.turn=1) (hr : resultM R P=0) :
  ∃ m,(listM R P)[argI c (listM R P).length]? = some m∧firstM R d P=(m,c (argI c (listM R P).length))∧argI c (listM R P).length < (listM R P).length:=by
 have hne:=moves_open hT hr
 obtain ⟨n,hn⟩ : ∃ n,(listM R P).length=n + 1:=⟨(listM R P).length - 1,by have:=List.length_pos_iff.2 hne; omega⟩
 obtain ⟨m,h1,h2,h3⟩:=arg_take (f:=scoreOf R P d) (a:=(⟨0,0,0⟩,-2000)) hc (fun m _ => score_low R P hd hT m) n (by omega)
 rw [hn]
 refine ⟨m,h1,?_,by omega⟩
 rw [hc _ _ h1]
 rw [← hn,List.take_length] at h2
 exact h2
theorem max_row {R : RulesM} {P : PosM} {d : Nat} {c : Nat→Int} (hc : Row0 R P d c) {zs : List Int} (hz : zs=(List.range (listM R P).length).map c) {m : Int} (hm : IsMax zs m) (hd : d≤99) (hT : P.turn=0∨P.turn=1) (hr : resultM R P=0) :
  m=c (argI c (listM R P).length):=by
 obtain ⟨m1,h1,h2,h3⟩:=first_row hc hd hT hr
 have hge:=(bestL_ge (scoreOf R P d) (listM R P) (⟨0,0,0⟩,-2000)).2
 have e : (bestL (scoreOf R P d) (⟨0,0,0⟩,-2000) (listM R P))=(m1,c (argI c (listM R P).length)):=h2
 rw [e] at hge
 obtain ⟨a,b⟩:=hm
 subst hz
 obtain ⟨i,hi,rfl⟩:=List.mem_map.1 a
 rw [List.mem_range] at hi
 have k1:=hge _ (List.getElem_mem hi)
 rw [← hc i _ (List.getElem?_eq_getElem hi)] at k1
 have k2:=b (c (argI c (listM R P).length)) (List.mem_map.2 ⟨_,List.mem_range.2 h3,rfl⟩)
 exact Int.le_antisymm k1 k2
theorem outRow_ints (c : Nat→Int) (n : Nat) : outRow c n n=(((List.range n).map c).map (Value.int .i64)).toArray:=by
 unfold outRow
 congr 1
 rw [List.map_map]
 refine List.map_congr_left fun i hi => ?_
 rw [List.mem_range] at hi
 show Value.int .i64 (if i < n then c i else 0)=_
 rw [if_pos hi]; rfl
theorem row_ints {w : World} {O : Nat} {c : Nat→Int} {n : Nat} (h : Blk w O 3 (outRow c n n)) : IntsAt w (some ⟨O,0,none⟩) ((List.range n).map c):=by
 rw [outRow_ints] at h
 exact Row.ints (t:=3) h
theorem tree_child {R : RulesM} {P : PosM} {d : Nat} {m : MoveM} (h : m ∈ movesM R P) : treeM R d (makeM R P m)≤treeM R (d + 1) P:=by
 show _≤1 + ((movesM R P).map fun m => treeM R d (makeM R P m)).sum
 have : ∀ (l : List MoveM),m ∈ l→treeM R d (makeM R P m)≤(l.map fun m => treeM R d (makeM R P m)).sum:=by
  intro l
  induction l with
  | nil => intro q; cases q
  | cons a l ih =>
   intro q
   rw [List.map_cons,List.sum_cons]
   have h1:=tree_pos R d (makeM R P a)
   have h2 : 0≤(l.map fun m => treeM R d (makeM R P m)).sum:=sum_nonneg _ (fun x hx => by
    obtain ⟨y,_,rfl⟩:=List.mem_map.1 hx
    have:=tree_pos R d (makeM R P y)
    omega)
   rcases List.mem_cons.1 q with rfl | q
   ·omega
   ·have:=ih q; omega
 have:=this _ h
 omega
theorem count_all {R : RulesM} {P : PosM} {D : Int} (hE : perftE R P D=0) (hD : 1≤D) (hr : resultM R P=0) : sumOf (countOf R P D) (listM R P) (listM R P).length=leafM R D.toNat P:=by
 obtain ⟨hV,hS,h0,h12,ht⟩:=perft_zero hE
 have e : D.toNat=(D - 1).toNat + 1:=by omega
 have hl : movesM R P=listM R P:=if_pos hr
 unfold sumOf
 rw [List.take_length,e]
 show _=((movesM R P).map fun m => leafM R (D - 1).toNat (makeM R P m)).sum
 rw [hl]
 congr 1
 refine List.map_congr_left fun m hm => ?_
 have hm' : m ∈ movesM R P:=by rw [hl]; exact hm
 have hc : checkE R (makeM R P m)=0:=check_iff.2 ⟨hV,sound_move hV hS hm'⟩
 have h1:=tree_child (d:=(D - 1).toNat) hm'
 rw [← e] at h1
 exact (perftE_ok hc (by omega) (by omega)).2.2
theorem crowd_zero {R : RulesM} {P : PosM} {D W : Int} (h : crowdE R P D W=0) : perftE R P D=0∧1≤D∧resultM R P=0:=by
 unfold crowdE at h
 by_cases h1 : perftE R P D=0
 ·rw [if_neg (by simpa using h1)] at h
  by_cases h2 : D=0∨W < 1∨8 < W
  ·rw [if_pos h2] at h; omega
  ·rw [if_neg h2] at h
   by_cases h3 : resultM R P=0
   ·have:=(perft_zero h1).2.2.1
    exact ⟨h1,by omega,h3⟩
   ·rw [if_pos h3] at h; omega
 ·rw [if_pos h1] at h; exact absurd h h1
theorem crowd_best {R : RulesM} {P : PosM} {D W : Int} (h1 : 1≤W) (h8 : W≤8) : crowdE R P D W=bestE R P D:=by
 unfold crowdE bestE
 by_cases h : D=0
 ·rw [if_pos (show D=0∨W < 1∨8 < W from .inl h),if_pos h]
 ·rw [if_neg (show ¬(D=0∨W < 1∨8 < W) by omega),if_neg h]
end Go.Proofs.YtdoibgmmijhlfaaGreat
namespace Go.Proofs.YtdoibgmmijhlfaaGreat
open Go.ChangeShapes Go.WideShapes Go.ChangeAt Go.RowKit Go.Shelf
set_option linter.unusedVariables false
def Said (e : Ending) (w : World) : Prop:=(∃ n nw f O c,e=.panicked [{ v:=markV n nw f,recovered:=false }]∧ScPre w n nw f O c)∨(∃ n nw f O,e=.panicked [{ v:=markV n nw f,recovered:=false }]∧CtPre w n nw f O)∨∃ p,e=.panicked [{ v:=markL p,recovered:=false }]∧LdPre w p
def PanE (e : Ending) (w : World) : Prop:=∃ v,e=.panicked [{ v:=v,recovered:=false }]∧Said e w
def LawR (e : Ending) (w : World) : Prop:=e=.returned (.bool true)∨Said e w
theorem panE_sc {n nw : Int} {f : Value} {O : Nat} {c : Nat→Int} {e : Ending} {w : World} (h : e=.panicked [{ v:=markV n nw f,recovered:=false }]) (k : ScPre w n nw f O c) : PanE e w:=⟨_,h,.inl ⟨n,nw,f,O,c,h,k⟩⟩
theorem panE_ct {n nw : Int} {f : Value} {O : Nat} {e : Ending} {w : World} (h : e=.panicked [{ v:=markV n nw f,recovered:=false }]) (k : CtPre w n nw f O) : PanE e w:=⟨_,h,.inr (.inl ⟨n,nw,f,O,h,k⟩)⟩
theorem panE_ld {p : Value} {e : Ending} {w : World} (h : e=.panicked [{ v:=markL p,recovered:=false }]) (k : LdPre w p) : PanE e w:=⟨_,h,.inr (.inr ⟨p,h,k⟩)⟩
section
variable {R : RulesM} {P : PosM} {v u : Value} {D W : Int} {w : World}
theorem ScoresL_yes (hR : RulesAt w v R) (hP : PosAt w u P) (hE : crowdE R P D W=0) {c : Nat→Int} (hc : Row0 R P (D.toNat - 1) c) :
  Calls Crz.prog 13 #[v,u,.int .i64 D,.int .i64 W] w fun e w' => (∃ O,Blk w' O 3 (outRow c (listM R P).length (listM R P).length)∧e=.returned (.tuple #[.slice (some ⟨O,0,none⟩) (listM R P).length (listM R P).length,.int .i64 0])∧Ext w w')∨PanE e w':=by
 obtain ⟨h1,h2,h3⟩:=crowd_zero hE
 obtain ⟨hV,hS,_,h12,_⟩:=perft_zero h1
 refine (crowdScores_yes R P v u D W c w hR hP hc hE hV hS h2 h12).mono fun e w' h => ?_
 rcases h with ⟨O,_,k,e1,x⟩ | ⟨f,O,e1,k⟩
 ·exact .inl ⟨O,k,e1,x⟩
 ·exact .inr (panE_sc e1 k)
theorem BestL_yes (hR : RulesAt w v R) (hP : PosAt w u P) (hE : crowdE R P D W=0) {c : Nat→Int} (hc : Row0 R P (D.toNat - 1) c) :
  Calls Crz.prog 6 #[v,u,.int .i64 D,.int .i64 W] w fun e w' => (e=.returned (.tuple #[moveV (firstM R (D.toNat - 1) P).1,.int .i64 (firstM R (D.toNat - 1) P).2,.int .i64 0])∧Ext w w')∨PanE e w':=by
 obtain ⟨h1,h2,h3⟩:=crowd_zero hE
 obtain ⟨hV,hS,_,h12,_⟩:=perft_zero h1
 obtain ⟨m,hm,hf,_⟩:=first_row hc (by omega) hS.turn h3
 rw [hf]
 refine (crowdBest_yes R P v u D W c m w hR hP hc hE hV hS h2 h12 hm).mono fun e w' h => ?_
 rcases h with h | ⟨f,O,e1,k⟩
 ·exact .inl h
 ·exact .inr (panE_sc e1 k)
theorem CountL_yes (hR : RulesAt w v R) (hP : PosAt w u P) (hE : crowdE R P D W=0) :
  Calls Crz.prog 12 #[v,u,.int .i64 D,.int .i64 W] w fun e w' => (e=.returned (.tuple #[.int .i64 (leafM R D.toNat P),.int .i64 0])∧Ext w w')∨PanE e w':=by
 obtain ⟨h1,h2,h3⟩:=crowd_zero hE
 obtain ⟨hV,hS,_,h12,_⟩:=perft_zero h1
 rw [← count_all h1 h2 h3]
 refine (crowdCount_yes R P v u D W w hR hP hE hV hS h2 h12).mono fun e w' h => ?_
 rcases h with h | ⟨f,O,e1,k⟩ | ⟨p,e1,k⟩
 ·exact .inl h
 ·exact .inr (panE_ct e1 k)
 ·exact .inr (panE_ld e1 k)
end
theorem near_crowd {D W : Int} (hD : D=1∨D=2) (h1 : 1≤W) (h8 : W≤8) : crowdE threeR nearP D W=0:=by
 rw [crowd_best h1 h8]
 rcases hD with rfl | rfl
 ·decide +kernel
 ·exact near_score.2.2.2
theorem near_rows : (listM threeR nearP).length=5∧(listM threeR nearP)[0]? = some ⟨-1,2,0⟩∧scoreOf threeR nearP 0 ⟨-1,2,0⟩=999∧leafM threeR 2 nearP=16∧leafM threeR 1 nearP=5∧firstM threeR 1 nearP=(⟨-1,2,0⟩,999)∧firstM threeR 0 nearP=(⟨-1,2,0⟩,999):=by decide +kernel
theorem mod_idx {n l : Int} (hl : 1≤l) : -l < n.tmod l∧n.tmod l < l∧0≤(n.tmod l + l).tmod l∧(n.tmod l + l).tmod l < l:=by
 have h1 : -l < n.tmod l∧n.tmod l < l:=by
  have a:=Int.tmod_lt_of_pos n (show 0 < l by omega)
  refine ⟨?_,a⟩
  have b:=Int.tmod_lt_of_pos (-n) (show 0 < l by omega)
  rw [Int.neg_tmod] at b
  omega
 refine ⟨h1.1,h1.2,Int.tmod_nonneg _ (by omega),Int.tmod_lt_of_pos _ (by omega)⟩
theorem mod_bd (n : Int) (hn : 1≤n) (hb : n≤1000) (a K : Int) (h : (wrap64 (a.tmod n + n)).tmod n=K) : 0≤K∧K < n:=by
 obtain ⟨h1,h2,h3,h4⟩:=mod_idx (n:=a) (l:=n) hn
 have e : wrap64 (a.tmod n + n)=a.tmod n + n:=by unfold wrap64; omega
 rw [e] at h
 omega
section
variable (W : World) (v1 v2 : Value) (h1 : RulesAt W v1 threeR) (h2 : PosAt W v2 nearP)
include h1 h2
theorem bestS23 : Calls Crz.prog 6 #[v1,v2,.int .i64 2,.int .i64 3] W fun e w' => (e=.returned (.tuple #[moveV ⟨-1,2,0⟩,.int .i64 999,.int .i64 0])∧Ext W w')∨PanE e w':=by
 obtain ⟨c,hc⟩:=row0_ex threeR nearP 1
 have h:=BestL_yes h1 h2 (near_crowd (W:=3) (.inr rfl) (by omega) (by omega)) hc
 have e : firstM threeR ((2 : Int).toNat - 1) nearP=(⟨-1,2,0⟩,999):=near_rows.2.2.2.2.2.1
 rw [e] at h
 exact h
theorem countS22 : Calls Crz.prog 12 #[v1,v2,.int .i64 2,.int .i64 2] W fun e w' => (e=.returned (.tuple #[.int .i64 16,.int .i64 0])∧Ext W w')∨PanE e w':=by
 have h:=CountL_yes h1 h2 (near_crowd (W:=2) (.inr rfl) (by omega) (by omega))
 have e : leafM threeR (2 : Int).toNat nearP=16:=near_rows.2.2.2.1
 rw [e] at h
 exact h
theorem scoresS12 : Calls Crz.prog 13 #[v1,v2,.int .i64 1,.int .i64 2] W fun e w' => (∃ O,e=.returned (.tuple #[.slice (some ⟨O,0,none⟩) 5 5,.int .i64 0])∧w'.cell? ⟨O,0,none⟩=some (.int .i64 999)∧Ext W w')∨PanE e w':=by
 obtain ⟨c,hc⟩:=row0_ex threeR nearP 0
 refine (ScoresL_yes h1 h2 (near_crowd (W:=2) (.inl rfl) (by omega) (by omega)) hc).mono fun e w' h => ?_
 rcases h with ⟨O,k,e1,x⟩ | h
 ·refine .inl ⟨O,by rw [near_rows.1] at e1; exact e1,?_,x⟩
  have h0:=hc 0 _ near_rows.2.1
  have:=k.cell 0
  rw [near_rows.1] at this
  rw [this,outRow_get c (by omega : 0 < 5),if_pos (by omega),h0]
  exact congrArg (fun z => some (Value.int .i64 z)) near_rows.2.2.1
 ·exact .inr h
end
theorem eqx {f : FuncId} {args : Array Value} {w : World} {v : Value} (h : Calls Crz.prog f args w fun e w' => e=.returned v∧∃ q,w'=w.drewN q) : Calls Crz.prog f args w fun e w' => e=.returned v∧Ext w w' :=
 h.mono fun e w' ⟨h1,q,h2⟩ => ⟨h1,h2 ▸ ext_drewN (Below.refl _ _) q⟩
end Go.Proofs.YtdoibgmmijhlfaaGreat
namespace Go.Proofs.YtdoibgmmijhlfaaGreat
open Go.ChangeShapes Go.WideShapes Go.ChangeAt Go.RowKit Go.Shelf
set_option linter.unusedVariables false
set_option linter.unusedSimpArgs false
set_option maxHeartbeats 4000000 in
set_option maxRecDepth 100000 in
theorem crowdAlike_heavy (R : RulesM) (P : PosM) (v u : Value) (D a b : Int) (w : World) (hR : RulesAt w v R) (hP : PosAt w u P) (K M : Int) (hK : (wrap64 (a.tmod 8 + 8)).tmod 8=K) (hM : (wrap64 (b.tmod 8 + 8)).tmod 8=M) (k0 : 0≤K) (k1 : K < 8) (m0 : 0≤M) (m1 : M < 8) (hh : heavyB R P D=true) :
  Calls Crz.prog 3 #[v,u,.int .i64 D,.int .i64 a,.int .i64 b] w LawR:=by
 have HHV:=hide (fun W (v1 v2 : Value) (h1 : RulesAt W v1 R) (h2 : PosAt W v2 P) => heavy_any R P v1 v2 D W h1 h2)
 rw [hh] at HHV
 clear hh
 have HBS:=hide (fun W (v1 v2 : Value) (h1 : RulesAt W v1 threeR) (h2 : PosAt W v2 nearP) => bestS23 W v1 v2 h1 h2)
 have HCS:=hide (fun W (v1 v2 : Value) (h1 : RulesAt W v1 threeR) (h2 : PosAt W v2 nearP) => countS22 W v1 v2 h1 h2)
 have HSS:=hide (fun W (v1 v2 : Value) (h1 : RulesAt W v1 threeR) (h2 : PosAt W v2 nearP) => scoresS12 W v1 v2 h1 h2)
 have hwK : IntKind.i64.wrap (K + 1)=K + 1:=by rw [IntKind.wrap_i64]; omega
 have hwM : IntKind.i64.wrap (M + 1)=M + 1:=by rw [IntKind.wrap_i64]; omega
 have hR0:=hR
 have hP0:=hP
 obtain ⟨pA,pc,sA,sc,eA,ec,rfl,-⟩:=hR0
 obtain ⟨cA,cc,aA,ac,bA,bc,rfl,-⟩:=hP0
 go_enter Crz.func3,Tryz.ntmps3
 go_wp2_with fail
 obtain ⟨xa,kR,kP⟩:=blks2 w #[.string R.name,.int .i64 R.width,.int .i64 R.height,.slice pA R.pieces.length pc,.slice sA R.start.length sc,.bool R.falls,.bool R.keeps,.slice eA R.ends.length ec,.int .i64 R.blocked,.int .i64 R.quiet,.int .i64 R.rept] 26 #[.slice cA P.cells.length cc,.slice aA P.hand0.length ac,.slice bA P.hand1.length bc,.int .i64 P.turn,.int .i64 P.quiet] 29
 replace hR:=hR.ext xa
 replace hP:=hP.ext xa
 have X:=xa
 clear xa
 generalize ((w.alloc (.cells #[.string R.name,.int .i64 R.width,.int .i64 R.height,.slice pA R.pieces.length pc,.slice sA R.start.length sc,.bool R.falls,.bool R.keeps,.slice eA R.ends.length ec,.int .i64 R.blocked,.int .i64 R.quiet,.int .i64 R.rept] 26)).alloc (.cells #[.slice cA P.cells.length cc,.slice aA P.hand0.length ac,.slice bA P.hand1.length bc,.int .i64 P.turn,.int .i64 P.quiet] 29))=w2 at *
 generalize w.heap.size + 1=BP at *
 generalize w.heap.size=BR at *
 refine (three_any _).mono ?_
 rintro e w3 ⟨v1,rfl,h1,x⟩
 replace hR:=hR.ext x
 replace hP:=hP.ext x
 replace kR:=kR.ext x
 replace kP:=kP.ext x
 replace X:=ext_trans X x
 clear x
 go_wp2_with fail
 refine (near_any _).mono ?_
 rintro e w4 ⟨v2,rfl,h2,x⟩
 replace hR:=hR.ext x
 replace hP:=hP.ext x
 replace kR:=kR.ext x
 replace kP:=kP.ext x
 replace h1:=h1.ext x
 replace X:=ext_trans X x
 clear x
 replace h2:=h2.at_
 go_wp2_with fail
 refine (HBS.out _ _ _ h1 h2).mono ?_
 rintro e w5 (⟨rfl,x⟩ | ⟨pv,rfl,hs⟩)
 rotate_left
 ·have HS:=hide hs
  clear hs
  go_wp2
  exact ⟨rfl,.inr HS.out⟩
 replace hR:=hR.ext x
 replace hP:=hP.ext x
 replace kR:=kR.ext x
 replace kP:=kP.ext x
 replace h1:=h1.ext x
 replace h2:=h2.ext x
 replace X:=ext_trans X x
 clear x
 clear h1 h2
 clear HBS
 obtain ⟨xa,kX⟩:=blks1 w5 #[.int .i64 (-1),.int .i64 2,.int .i64 0] 31
 replace hR:=hR.ext xa
 replace hP:=hP.ext xa
 replace kR:=kR.ext xa
 replace kP:=kP.ext xa
 replace X:=ext_trans X xa
 clear xa
 go_upto_region 2 with fail
 generalize (w5.alloc (.cells #[.int .i64 (-1),.int .i64 2,.int .i64 0] 31))=w6 at *
 generalize w5.heap.size=BX at *
 have KX:=hide kX
 clear kX
 have HS0:=hide (fun W (h : Ext w6 W) => And.intro (hR.ext h) ( And.intro (hP.ext h) ( And.intro (kR.ext h) ( And.intro (kP.ext h) (ext_trans X h)))))
 clear X hR hP kR kP
 have keepK:=hide (fun W (h : Ext w6 W) => (show (fun W => W.cell? ⟨BX,0,none⟩=some (.int .i64 (-1))∧W.cell? ⟨BX,1,none⟩=some (.int .i64 2)∧W.cell? ⟨BX,2,none⟩=some (.int .i64 0)∧Ext w6 W) W from ⟨(KX.out.ext h).cell 0,(KX.out.ext h).cell 1,(KX.out.ext h).cell 2,h⟩))
 have yy : Ext w6 w6.drew:=Below.drew (Below.refl _ _)
 refine region_K (fun W => W.cell? ⟨BX,0,none⟩=some (.int .i64 (-1))∧W.cell? ⟨BX,1,none⟩=some (.int .i64 2)∧W.cell? ⟨BX,2,none⟩=some (.int .i64 0)∧Ext w6 W) (fun _ => True) [] (by kernel_rfl) ?_
 have hT0:=keepK.out _ yy
 refine tk 0 hT0 (fun _=>trivial) ?_
 refine tk 1 hT0 (fun _=>trivial) ?_
 refine tk 2 hT0 (fun _=>trivial) ?_
 refine tl 3 hT0 (fun _=>trivial) (v:=?_) (fun W hW=>?_) ?_
 rotate_left
 ·obtain ⟨z0,z1,z2,z3⟩:=hW;go_simp;first|done|with_reducible rfl
 refine anyK_on1 4 (by kernel_rfl) ?_
 refine tw 4 (fun K hK=>?_)
 go_simp
 refine (put_any 2 _).mono ?_
 rintro e wp ⟨rfl,xx⟩
 try go_wp2_with fail
 replace yy:=ext_trans yy xx
 have hT1:=keepK.out _ yy
 refine hK.out _ _ hT1 (fun _ => trivial) ?_
 clear hK K
 try simp only [Act.put,List.setIfInBounds_toArray,List.set_cons_zero,List.set_cons_succ]
 refine tk 5 hT1 (fun _=>trivial) ?_
 refine tk 6 hT1 (fun _=>trivial) ?_
 refine tk 7 hT1 (fun _=>trivial) ?_
 refine tk 8 hT1 (fun _=>trivial) ?_
 refine tk 9 hT1 (fun _=>trivial) ?_
 refine tk 10 hT1 (fun _=>trivial) ?_
 refine tk 11 hT1 (fun _=>trivial) ?_
 refine anyK_on1 12 (by kernel_rfl) ?_
 refine tw 12 (fun K hK=>?_)
 go_simp
 refine (scored_any _).mono ?_
 rintro e wq ⟨rfl,xx⟩
 try go_wp2_with fail
 replace yy:=ext_trans yy xx
 have hT2:=keepK.out _ yy
 refine hK.out _ _ hT2 (fun _ => trivial) ?_
 clear hK K
 try simp only [Act.put,List.setIfInBounds_toArray,List.set_cons_zero,List.set_cons_succ]
 refine tk 13 hT2 (fun _=>trivial) ?_
 refine tk 14 hT2 (fun _=>trivial) ?_
 refine tk 15 hT2 (fun _=>trivial) ?_
 refine anyK_on1 16 (by kernel_rfl) ?_
 refine tw 16 (fun K hK=>?_)
 go_simp
 refine (counted_any _).mono ?_
 rintro e wc ⟨rfl,xx⟩
 try go_wp2_with fail
 replace yy:=ext_trans yy xx
 have hT3:=keepK.out _ yy
 refine hK.out _ _ hT3 (fun _ => trivial) ?_
 clear hK K
 try simp only [Act.put,List.setIfInBounds_toArray,List.set_cons_zero,List.set_cons_succ]
 refine tk 17 hT3 (fun _=>trivial) ?_
 refine tk 18 hT3 (fun _=>trivial) ?_
 refine anyK_done (by kernel_rfl) ?_ _
 clear keepK hT0 hT1 hT2 hT3
 obtain ⟨hR,hP,kR,kP,X⟩:=HS0.out _ yy
 clear HS0 KX xx yy
 go_wp2_with fail
 refine (three_any _).mono ?_
 rintro e w27 ⟨v3,rfl,h3,x⟩
 replace hR:=hR.ext x
 replace hP:=hP.ext x
 replace kR:=kR.ext x
 replace kP:=kP.ext x
 replace X:=ext_trans X x
 clear x
 go_wp2_with fail
 refine (near_any _).mono ?_
 rintro e w28 ⟨v4,rfl,h4,x⟩
 replace hR:=hR.ext x
 replace hP:=hP.ext x
 replace kR:=kR.ext x
 replace kP:=kP.ext x
 replace h3:=h3.ext x
 replace X:=ext_trans X x
 clear x
 replace h4:=h4.at_
 go_wp2_with fail
 refine (HCS.out _ _ _ h3 h4).mono ?_
 rintro e w29 (⟨rfl,x⟩ | ⟨pv,rfl,hs⟩)
 rotate_left
 ·have HS:=hide hs
  clear hs
  go_wp2
  exact ⟨rfl,.inr HS.out⟩
 replace hR:=hR.ext x
 replace hP:=hP.ext x
 replace kR:=kR.ext x
 replace kP:=kP.ext x
 replace h3:=h3.ext x
 replace h4:=h4.ext x
 replace X:=ext_trans X x
 clear x
 clear h3 h4
 clear HCS
 go_wp2_with fail
 refine (three_any _).mono ?_
 rintro e w30 ⟨v5,rfl,h5,x⟩
 replace hR:=hR.ext x
 replace hP:=hP.ext x
 replace kR:=kR.ext x
 replace kP:=kP.ext x
 replace X:=ext_trans X x
 clear x
 go_wp2_with fail
 refine (near_any _).mono ?_
 rintro e w31 ⟨v6,rfl,h6,x⟩
 replace hR:=hR.ext x
 replace hP:=hP.ext x
 replace kR:=kR.ext x
 replace kP:=kP.ext x
 replace h5:=h5.ext x
 replace X:=ext_trans X x
 clear x
 replace h6:=h6.at_
 go_wp2_with fail
 refine (HSS.out _ _ _ h5 h6).mono ?_
 rintro e w32 (⟨O1,rfl,q1,x⟩ | ⟨pv,rfl,hs⟩)
 rotate_left
 ·have HS:=hide hs
  clear hs
  go_wp2
  exact ⟨rfl,.inr HS.out⟩
 replace hR:=hR.ext x
 replace hP:=hP.ext x
 replace kR:=kR.ext x
 replace kP:=kP.ext x
 replace h5:=h5.ext x
 replace h6:=h6.ext x
 replace X:=ext_trans X x
 clear x
 clear h5 h6
 clear HSS
 have fR:=kR.cell
 have fP:=kP.cell
 go_wp2_with fail
 clear q1
 refine (HHV.out _ _ _ hR hP).mono ?_
 rintro e w33 ⟨rfl,x⟩
 replace hR:=hR.ext x
 replace hP:=hP.ext x
 replace kR:=kR.ext x
 replace kP:=kP.ext x
 replace X:=ext_trans X x
 replace fR:=kR.cell
 replace fP:=kP.cell
 clear x
 clear HHV
 clear fR fP
 go_wp2
 all_goals go_ret
 all_goals exact .inl (by first | rfl | simp)
set_option maxHeartbeats 4000000 in
set_option maxRecDepth 100000 in
theorem crowdAlike_no (R : RulesM) (P : PosM) (v u : Value) (D a b : Int) (w : World) (hR : RulesAt w v R) (hP : PosAt w u P) (K M : Int) (hK : (wrap64 (a.tmod 8 + 8)).tmod 8=K) (hM : (wrap64 (b.tmod 8 + 8)).tmod 8=M) (k0 : 0≤K) (k1 : K < 8) (m0 : 0≤M) (m1 : M < 8) (hh : heavyB R P D=false) (he : crowdE R P D (K + 1) ≠ 0) :
  Calls Crz.prog 3 #[v,u,.int .i64 D,.int .i64 a,.int .i64 b] w LawR:=by
 have HHV:=hide (fun W (v1 v2 : Value) (h1 : RulesAt W v1 R) (h2 : PosAt W v2 P) => heavy_any R P v1 v2 D W h1 h2)
 rw [hh] at HHV
 clear hh
 have HBS:=hide (fun W (v1 v2 : Value) (h1 : RulesAt W v1 threeR) (h2 : PosAt W v2 nearP) => bestS23 W v1 v2 h1 h2)
 have HCS:=hide (fun W (v1 v2 : Value) (h1 : RulesAt W v1 threeR) (h2 : PosAt W v2 nearP) => countS22 W v1 v2 h1 h2)
 have HSS:=hide (fun W (v1 v2 : Value) (h1 : RulesAt W v1 threeR) (h2 : PosAt W v2 nearP) => scoresS12 W v1 v2 h1 h2)
 have hwK : IntKind.i64.wrap (K + 1)=K + 1:=by rw [IntKind.wrap_i64]; omega
 have hwM : IntKind.i64.wrap (M + 1)=M + 1:=by rw [IntKind.wrap_i64]; omega
 have he2 : crowdE R P D (M + 1)=crowdE R P D (K + 1):=by rw [crowd_best (by omega) (by omega),crowd_best (by omega) (by omega)]
 have he3:=he
 rw [← he2] at he3
 have HSA:=hide (fun W (v1 v2 : Value) (h1 : RulesAt W v1 R) (h2 : PosAt W v2 P) => crowdScores_no R P v1 v2 D (K + 1) W h1 h2 he)
 have HSB:=hide (fun W (v1 v2 : Value) (h1 : RulesAt W v1 R) (h2 : PosAt W v2 P) => crowdScores_no R P v1 v2 D (M + 1) W h1 h2 he3)
 have HBA:=hide (fun W (v1 v2 : Value) (h1 : RulesAt W v1 R) (h2 : PosAt W v2 P) => crowdBest_no R P v1 v2 D (K + 1) W h1 h2 he)
 have HCB:=hide (fun W (v1 v2 : Value) (h1 : RulesAt W v1 R) (h2 : PosAt W v2 P) => crowdCount_no R P v1 v2 D (M + 1) W h1 h2 he3)
 rw [he2] at HSB HCB
 have t0 : (crowdE R P D (K + 1) != 0)=true:=by simpa using he
 clear he he2 he3
 generalize crowdE R P D (K + 1)=E at *
 have hR0:=hR
 have hP0:=hP
 obtain ⟨pA,pc,sA,sc,eA,ec,rfl,-⟩:=hR0
 obtain ⟨cA,cc,aA,ac,bA,bc,rfl,-⟩:=hP0
 go_enter Crz.func3,Tryz.ntmps3
 go_wp2_with fail
 obtain ⟨xa,kR,kP⟩:=blks2 w #[.string R.name,.int .i64 R.width,.int .i64 R.height,.slice pA R.pieces.length pc,.slice sA R.start.length sc,.bool R.falls,.bool R.keeps,.slice eA R.ends.length ec,.int .i64 R.blocked,.int .i64 R.quiet,.int .i64 R.rept] 26 #[.slice cA P.cells.length cc,.slice aA P.hand0.length ac,.slice bA P.hand1.length bc,.int .i64 P.turn,.int .i64 P.quiet] 29
 replace hR:=hR.ext xa
 replace hP:=hP.ext xa
 have X:=xa
 clear xa
 generalize ((w.alloc (.cells #[.string R.name,.int .i64 R.width,.int .i64 R.height,.slice pA R.pieces.length pc,.slice sA R.start.length sc,.bool R.falls,.bool R.keeps,.slice eA R.ends.length ec,.int .i64 R.blocked,.int .i64 R.quiet,.int .i64 R.rept] 26)).alloc (.cells #[.slice cA P.cells.length cc,.slice aA P.hand0.length ac,.slice bA P.hand1.length bc,.int .i64 P.turn,.int .i64 P.quiet] 29))=w2 at *
 generalize w.heap.size + 1=BP at *
 generalize w.heap.size=BR at *
 refine (three_any _).mono ?_
 rintro e w3 ⟨v1,rfl,h1,x⟩
 replace hR:=hR.ext x
 replace hP:=hP.ext x
 replace kR:=kR.ext x
 replace kP:=kP.ext x
 replace X:=ext_trans X x
 clear x
 go_wp2_with fail
 refine (near_any _).mono ?_
 rintro e w4 ⟨v2,rfl,h2,x⟩
 replace hR:=hR.ext x
 replace hP:=hP.ext x
 replace kR:=kR.ext x
 replace kP:=kP.ext x
 replace h1:=h1.ext x
 replace X:=ext_trans X x
 clear x
 replace h2:=h2.at_
 go_wp2_with fail
 refine (HBS.out _ _ _ h1 h2).mono ?_
 rintro e w5 (⟨rfl,x⟩ | ⟨pv,rfl,hs⟩)
 rotate_left
 ·have HS:=hide hs
  clear hs
  go_wp2
  exact ⟨rfl,.inr HS.out⟩
 replace hR:=hR.ext x
 replace hP:=hP.ext x
 replace kR:=kR.ext x
 replace kP:=kP.ext x
 replace h1:=h1.ext x
 replace h2:=h2.ext x
 replace X:=ext_trans X x
 clear x
 clear h1 h2
 clear HBS
 obtain ⟨xa,kX⟩:=blks1 w5 #[.int .i64 (-1),.int .i64 2,.int .i64 0] 31
 replace hR:=hR.ext xa
 replace hP:=hP.ext xa
 replace kR:=kR.ext xa
 replace kP:=kP.ext xa
 replace X:=ext_trans X xa
 clear xa
 go_upto_region 2 with fail
 generalize (w5.alloc (.cells #[.int .i64 (-1),.int .i64 2,.int .i64 0] 31))=w6 at *
 generalize w5.heap.size=BX at *
 have KX:=hide kX
 clear kX
 have HS0:=hide (fun W (h : Ext w6 W) => And.intro (hR.ext h) ( And.intro (hP.ext h) ( And.intro (kR.ext h) ( And.intro (kP.ext h) (ext_trans X h)))))
 clear X hR hP kR kP
 have keepK:=hide (fun W (h : Ext w6 W) => (show (fun W => W.cell? ⟨BX,0,none⟩=some (.int .i64 (-1))∧W.cell? ⟨BX,1,none⟩=some (.int .i64 2)∧W.cell? ⟨BX,2,none⟩=some (.int .i64 0)∧Ext w6 W) W from ⟨(KX.out.ext h).cell 0,(KX.out.ext h).cell 1,(KX.out.ext h).cell 2,h⟩))
 have yy : Ext w6 w6.drew:=Below.drew (Below.refl _ _)
 refine region_K (fun W => W.cell? ⟨BX,0,none⟩=some (.int .i64 (-1))∧W.cell? ⟨BX,1,none⟩=some (.int .i64 2)∧W.cell? ⟨BX,2,none⟩=some (.int .i64 0)∧Ext w6 W) (fun _ => True) [] (by kernel_rfl) ?_
 have hT0:=keepK.out _ yy
 refine tk 0 hT0 (fun _=>trivial) ?_
 refine tk 1 hT0 (fun _=>trivial) ?_
 refine tk 2 hT0 (fun _=>trivial) ?_
 refine tl 3 hT0 (fun _=>trivial) (v:=?_) (fun W hW=>?_) ?_
 rotate_left
 ·obtain ⟨z0,z1,z2,z3⟩:=hW;go_simp;first|done|with_reducible rfl
 refine anyK_on1 4 (by kernel_rfl) ?_
 refine tw 4 (fun K hK=>?_)
 go_simp
 refine (put_any 2 _).mono ?_
 rintro e wp ⟨rfl,xx⟩
 try go_wp2_with fail
 replace yy:=ext_trans yy xx
 have hT1:=keepK.out _ yy
 refine hK.out _ _ hT1 (fun _ => trivial) ?_
 clear hK K
 try simp only [Act.put,List.setIfInBounds_toArray,List.set_cons_zero,List.set_cons_succ]
 refine tk 5 hT1 (fun _=>trivial) ?_
 refine tk 6 hT1 (fun _=>trivial) ?_
 refine tk 7 hT1 (fun _=>trivial) ?_
 refine tk 8 hT1 (fun _=>trivial) ?_
 refine tk 9 hT1 (fun _=>trivial) ?_
 refine tk 10 hT1 (fun _=>trivial) ?_
 refine tk 11 hT1 (fun _=>trivial) ?_
 refine anyK_on1 12 (by kernel_rfl) ?_
 refine tw 12 (fun K hK=>?_)
 go_simp
 refine (scored_any _).mono ?_
 rintro e wq ⟨rfl,xx⟩
 try go_wp2_with fail
 replace yy:=ext_trans yy xx
 have hT2:=keepK.out _ yy
 refine hK.out _ _ hT2 (fun _ => trivial) ?_
 clear hK K
 try simp only [Act.put,List.setIfInBounds_toArray,List.set_cons_zero,List.set_cons_succ]
 refine tk 13 hT2 (fun _=>trivial) ?_
 refine tk 14 hT2 (fun _=>trivial) ?_
 refine tk 15 hT2 (fun _=>trivial) ?_
 refine anyK_on1 16 (by kernel_rfl) ?_
 refine tw 16 (fun K hK=>?_)
 go_simp
 refine (counted_any _).mono ?_
 rintro e wc ⟨rfl,xx⟩
 try go_wp2_with fail
 replace yy:=ext_trans yy xx
 have hT3:=keepK.out _ yy
 refine hK.out _ _ hT3 (fun _ => trivial) ?_
 clear hK K
 try simp only [Act.put,List.setIfInBounds_toArray,List.set_cons_zero,List.set_cons_succ]
 refine tk 17 hT3 (fun _=>trivial) ?_
 refine tk 18 hT3 (fun _=>trivial) ?_
 refine anyK_done (by kernel_rfl) ?_ _
 clear keepK hT0 hT1 hT2 hT3
 obtain ⟨hR,hP,kR,kP,X⟩:=HS0.out _ yy
 clear HS0 KX xx yy
 go_wp2_with fail
 refine (three_any _).mono ?_
 rintro e w27 ⟨v3,rfl,h3,x⟩
 replace hR:=hR.ext x
 replace hP:=hP.ext x
 replace kR:=kR.ext x
 replace kP:=kP.ext x
 replace X:=ext_trans X x
 clear x
 go_wp2_with fail
 refine (near_any _).mono ?_
 rintro e w28 ⟨v4,rfl,h4,x⟩
 replace hR:=hR.ext x
 replace hP:=hP.ext x
 replace kR:=kR.ext x
 replace kP:=kP.ext x
 replace h3:=h3.ext x
 replace X:=ext_trans X x
 clear x
 replace h4:=h4.at_
 go_wp2_with fail
 refine (HCS.out _ _ _ h3 h4).mono ?_
 rintro e w29 (⟨rfl,x⟩ | ⟨pv,rfl,hs⟩)
 rotate_left
 ·have HS:=hide hs
  clear hs
  go_wp2
  exact ⟨rfl,.inr HS.out⟩
 replace hR:=hR.ext x
 replace hP:=hP.ext x
 replace kR:=kR.ext x
 replace kP:=kP.ext x
 replace h3:=h3.ext x
 replace h4:=h4.ext x
 replace X:=ext_trans X x
 clear x
 clear h3 h4
 clear HCS
 go_wp2_with fail
 refine (three_any _).mono ?_
 rintro e w30 ⟨v5,rfl,h5,x⟩
 replace hR:=hR.ext x
 replace hP:=hP.ext x
 replace kR:=kR.ext x
 replace kP:=kP.ext x
 replace X:=ext_trans X x
 clear x
 go_wp2_with fail
 refine (near_any _).mono ?_
 rintro e w31 ⟨v6,rfl,h6,x⟩
 replace hR:=hR.ext x
 replace hP:=hP.ext x
 replace kR:=kR.ext x
 replace kP:=kP.ext x
 replace h5:=h5.ext x
 replace X:=ext_trans X x
 clear x
 replace h6:=h6.at_
 go_wp2_with fail
 refine (HSS.out _ _ _ h5 h6).mono ?_
 rintro e w32 (⟨O1,rfl,q1,x⟩ | ⟨pv,rfl,hs⟩)
 rotate_left
 ·have HS:=hide hs
  clear hs
  go_wp2
  exact ⟨rfl,.inr HS.out⟩
 replace hR:=hR.ext x
 replace hP:=hP.ext x
 replace kR:=kR.ext x
 replace kP:=kP.ext x
 replace h5:=h5.ext x
 replace h6:=h6.ext x
 replace X:=ext_trans X x
 clear x
 clear h5 h6
 clear HSS
 have fR:=kR.cell
 have fP:=kP.cell
 go_wp2_with fail
 clear q1
 refine (HHV.out _ _ _ hR hP).mono ?_
 rintro e w33 ⟨rfl,x⟩
 replace hR:=hR.ext x
 replace hP:=hP.ext x
 replace kR:=kR.ext x
 replace kP:=kP.ext x
 replace X:=ext_trans X x
 replace fR:=kR.cell
 replace fP:=kP.cell
 clear x
 clear HHV
 go_wp2_with fail
 refine (HSA.out _ _ _ hR hP).mono ?_
 rintro e w34 ⟨rfl,x⟩
 replace hR:=hR.ext x
 replace hP:=hP.ext x
 replace kR:=kR.ext x
 replace kP:=kP.ext x
 replace X:=ext_trans X x
 replace fR:=kR.cell
 replace fP:=kP.cell
 clear x
 clear HSA
 go_wp2_with fail
 refine (HSB.out _ _ _ hR hP).mono ?_
 rintro e w35 ⟨rfl,x⟩
 replace hR:=hR.ext x
 replace hP:=hP.ext x
 replace kR:=kR.ext x
 replace kP:=kP.ext x
 replace X:=ext_trans X x
 replace fR:=kR.cell
 replace fP:=kP.cell
 clear x
 clear HSB
 go_wp2_with fail
 refine (HBA.out _ _ _ hR hP).mono ?_
 rintro e w36 ⟨rfl,x⟩
 replace hR:=hR.ext x
 replace hP:=hP.ext x
 replace kR:=kR.ext x
 replace kP:=kP.ext x
 replace X:=ext_trans X x
 replace fR:=kR.cell
 replace fP:=kP.cell
 clear x
 clear HBA
 obtain ⟨xa,kM⟩:=blks1 w36 #[.int .i64 0,.int .i64 0,.int .i64 0] 31
 replace hR:=hR.ext xa
 replace hP:=hP.ext xa
 replace kR:=kR.ext xa
 replace kP:=kP.ext xa
 replace X:=ext_trans X xa
 have fR':=kR.cell
 have fP':=kP.cell
 clear xa
 go_wp2_with fail
 generalize (w36.alloc (.cells #[.int .i64 0,.int .i64 0,.int .i64 0] 31))=w37 at *
 generalize w36.heap.size=BM at *
 replace fR:=kR.cell
 clear fR'
 replace fP:=kP.cell
 clear fP'
 refine (HCB.out _ _ _ hR hP).mono ?_
 rintro e w38 ⟨rfl,x⟩
 replace hR:=hR.ext x
 replace hP:=hP.ext x
 replace kR:=kR.ext x
 replace kP:=kP.ext x
 replace kM:=kM.ext x
 replace X:=ext_trans X x
 replace fR:=kR.cell
 replace fP:=kP.cell
 clear x
 clear HCB
 clear fR fP
 go_wp2
 all_goals go_ret
 all_goals exact .inl (by first | rfl | simp)
set_option maxHeartbeats 4000000 in
set_option maxRecDepth 100000 in
theorem crowdAlike_yes (R : RulesM) (P : PosM) (v u : Value) (D a b : Int) (w : World) (hR : RulesAt w v R) (hP : PosAt w u P) (K M : Int) (hK : (wrap64 (a.tmod 8 + 8)).tmod 8=K) (hM : (wrap64 (b.tmod 8 + 8)).tmod 8=M) (k0 : 0≤K) (k1 : K < 8) (m0 : 0≤M) (m1 : M < 8) (hh : heavyB R P D=false) (he : crowdE R P D (K + 1)=0) :
  Calls Crz.prog 3 #[v,u,.int .i64 D,.int .i64 a,.int .i64 b] w LawR:=by
 have HHV:=hide (fun W (v1 v2 : Value) (h1 : RulesAt W v1 R) (h2 : PosAt W v2 P) => heavy_any R P v1 v2 D W h1 h2)
 rw [hh] at HHV
 clear hh
 have HBS:=hide (fun W (v1 v2 : Value) (h1 : RulesAt W v1 threeR) (h2 : PosAt W v2 nearP) => bestS23 W v1 v2 h1 h2)
 have HCS:=hide (fun W (v1 v2 : Value) (h1 : RulesAt W v1 threeR) (h2 : PosAt W v2 nearP) => countS22 W v1 v2 h1 h2)
 have HSS:=hide (fun W (v1 v2 : Value) (h1 : RulesAt W v1 threeR) (h2 : PosAt W v2 nearP) => scoresS12 W v1 v2 h1 h2)
 have hwK : IntKind.i64.wrap (K + 1)=K + 1:=by rw [IntKind.wrap_i64]; omega
 have hwM : IntKind.i64.wrap (M + 1)=M + 1:=by rw [IntKind.wrap_i64]; omega
 obtain ⟨hp,hd1,hr⟩:=crowd_zero he
 obtain ⟨hV,hS,-,hd12,-⟩:=perft_zero hp
 have hbe : bestE R P D=0:=by rw [← crowd_best (W:=K + 1) (by omega) (by omega)]; exact he
 have he2 : crowdE R P D (M + 1)=0:=by rw [crowd_best (by omega) (by omega)]; exact hbe
 obtain ⟨c,hc⟩:=row0_ex R P (D.toNat - 1)
 have HSA:=hide (fun W (v1 v2 : Value) (h1 : RulesAt W v1 R) (h2 : PosAt W v2 P) => ScoresL_yes (W:=K + 1) h1 h2 he hc)
 have HSB:=hide (fun W (v1 v2 : Value) (h1 : RulesAt W v1 R) (h2 : PosAt W v2 P) => ScoresL_yes (W:=M + 1) h1 h2 he2 hc)
 have HBA:=hide (fun W (v1 v2 : Value) (h1 : RulesAt W v1 R) (h2 : PosAt W v2 P) => BestL_yes (W:=K + 1) h1 h2 he hc)
 have HCB:=hide (fun W (v1 v2 : Value) (h1 : RulesAt W v1 R) (h2 : PosAt W v2 P) => CountL_yes (W:=M + 1) h1 h2 he2)
 have HMB:=hide (fun W (v1 v2 : Value) (h1 : RulesAt W v1 R) (h2 : PosAt W v2 P) => MBest_any R P v1 v2 D W h1 h2)
 rw [show bestY R P D=firstM R (D.toNat - 1) P from if_pos hbe,hbe] at HMB
 have HPC:=hide (fun W (v1 v2 : Value) (h1 : RulesAt W v1 R) (h2 : PosAt W v2 P) => PfCount_any R P v1 v2 D W h1 h2)
 rw [show perftL R P D=leafM R D.toNat P from if_pos hp,hp] at HPC
 have HMX:=hide (fun (z : Int) (h : IsMax ((List.range (listM R P).length).map c) z) => max_row hc rfl h (by omega) hS.turn hr)
 obtain ⟨m9,hm9,hf9,hl9⟩:=first_row hc (by omega) hS.turn hr
 have HY : Hid ((firstM R (D.toNat - 1) P).2=c (argI c (listM R P).length)):=hide (by rw [hf9])
 have HLN : Hid (1≤(listM R P).length∧(listM R P).length≤1000000):=hide ⟨by omega,listM_len hV hS⟩
 clear he he2 hbe hp hd1 hr hV hS hd12 hc hm9 hf9 hl9
 generalize firstM R (D.toNat - 1) P=y at *
 generalize leafM R D.toNat P=N at *
 generalize (listM R P).length=n at *
 have hR0:=hR
 have hP0:=hP
 obtain ⟨pA,pc,sA,sc,eA,ec,rfl,-⟩:=hR0
 obtain ⟨cA,cc,aA,ac,bA,bc,rfl,-⟩:=hP0
 go_enter Crz.func3,Tryz.ntmps3
 go_wp2_with fail
 obtain ⟨xa,kR,kP⟩:=blks2 w #[.string R.name,.int .i64 R.width,.int .i64 R.height,.slice pA R.pieces.length pc,.slice sA R.start.length sc,.bool R.falls,.bool R.keeps,.slice eA R.ends.length ec,.int .i64 R.blocked,.int .i64 R.quiet,.int .i64 R.rept] 26 #[.slice cA P.cells.length cc,.slice aA P.hand0.length ac,.slice bA P.hand1.length bc,.int .i64 P.turn,.int .i64 P.quiet] 29
 replace hR:=hR.ext xa
 replace hP:=hP.ext xa
 have X:=xa
 clear xa
 generalize ((w.alloc (.cells #[.string R.name,.int .i64 R.width,.int .i64 R.height,.slice pA R.pieces.length pc,.slice sA R.start.length sc,.bool R.falls,.bool R.keeps,.slice eA R.ends.length ec,.int .i64 R.blocked,.int .i64 R.quiet,.int .i64 R.rept] 26)).alloc (.cells #[.slice cA P.cells.length cc,.slice aA P.hand0.length ac,.slice bA P.hand1.length bc,.int .i64 P.turn,.int .i64 P.quiet] 29))=w2 at *
 generalize w.heap.size + 1=BP at *
 generalize w.heap.size=BR at *
 refine (three_any _).mono ?_
 rintro e w3 ⟨v1,rfl,h1,x⟩
 replace hR:=hR.ext x
 replace hP:=hP.ext x
 replace kR:=kR.ext x
 replace kP:=kP.ext x
 replace X:=ext_trans X x
 clear x
 go_wp2_with fail
 refine (near_any _).mono ?_
 rintro e w4 ⟨v2,rfl,h2,x⟩
 replace hR:=hR.ext x
 replace hP:=hP.ext x
 replace kR:=kR.ext x
 replace kP:=kP.ext x
 replace h1:=h1.ext x
 replace X:=ext_trans X x
 clear x
 replace h2:=h2.at_
 go_wp2_with fail
 refine (HBS.out _ _ _ h1 h2).mono ?_
 rintro e w5 (⟨rfl,x⟩ | ⟨pv,rfl,hs⟩)
 rotate_left
 ·have HS:=hide hs
  clear hs
  go_wp2
  exact ⟨rfl,.inr HS.out⟩
 replace hR:=hR.ext x
 replace hP:=hP.ext x
 replace kR:=kR.ext x
 replace kP:=kP.ext x
 replace h1:=h1.ext x
 replace h2:=h2.ext x
 replace X:=ext_trans X x
 clear x
 clear h1 h2
 clear HBS
 obtain ⟨xa,kX⟩:=blks1 w5 #[.int .i64 (-1),.int .i64 2,.int .i64 0] 31
 replace hR:=hR.ext xa
 replace hP:=hP.ext xa
 replace kR:=kR.ext xa
 replace kP:=kP.ext xa
 replace X:=ext_trans X xa
 clear xa
 go_upto_region 2 with fail
 generalize (w5.alloc (.cells #[.int .i64 (-1),.int .i64 2,.int .i64 0] 31))=w6 at *
 generalize w5.heap.size=BX at *
 have KX:=hide kX
 clear kX
 have HS0:=hide (fun W (h : Ext w6 W) => And.intro (hR.ext h) ( And.intro (hP.ext h) ( And.intro (kR.ext h) ( And.intro (kP.ext h) (ext_trans X h)))))
 clear X hR hP kR kP
 have keepK:=hide (fun W (h : Ext w6 W) => (show (fun W => W.cell? ⟨BX,0,none⟩=some (.int .i64 (-1))∧W.cell? ⟨BX,1,none⟩=some (.int .i64 2)∧W.cell? ⟨BX,2,none⟩=some (.int .i64 0)∧Ext w6 W) W from ⟨(KX.out.ext h).cell 0,(KX.out.ext h).cell 1,(KX.out.ext h).cell 2,h⟩))
 have yy : Ext w6 w6.drew:=Below.drew (Below.refl _ _)
 refine region_K (fun W => W.cell? ⟨BX,0,none⟩=some (.int .i64 (-1))∧W.cell? ⟨BX,1,none⟩=some (.int .i64 2)∧W.cell? ⟨BX,2,none⟩=some (.int .i64 0)∧Ext w6 W) (fun _ => True) [] (by kernel_rfl) ?_
 have hT0:=keepK.out _ yy
 refine tk 0 hT0 (fun _=>trivial) ?_
 refine tk 1 hT0 (fun _=>trivial) ?_
 refine tk 2 hT0 (fun _=>trivial) ?_
 refine tl 3 hT0 (fun _=>trivial) (v:=?_) (fun W hW=>?_) ?_
 rotate_left
 ·obtain ⟨z0,z1,z2,z3⟩:=hW;go_simp;first|done|with_reducible rfl
 refine anyK_on1 4 (by kernel_rfl) ?_
 refine tw 4 (fun K hK=>?_)
 go_simp
 refine (put_any 2 _).mono ?_
 rintro e wp ⟨rfl,xx⟩
 try go_wp2_with fail
 replace yy:=ext_trans yy xx
 have hT1:=keepK.out _ yy
 refine hK.out _ _ hT1 (fun _ => trivial) ?_
 clear hK K
 try simp only [Act.put,List.setIfInBounds_toArray,List.set_cons_zero,List.set_cons_succ]
 refine tk 5 hT1 (fun _=>trivial) ?_
 refine tk 6 hT1 (fun _=>trivial) ?_
 refine tk 7 hT1 (fun _=>trivial) ?_
 refine tk 8 hT1 (fun _=>trivial) ?_
 refine tk 9 hT1 (fun _=>trivial) ?_
 refine tk 10 hT1 (fun _=>trivial) ?_
 refine tk 11 hT1 (fun _=>trivial) ?_
 refine anyK_on1 12 (by kernel_rfl) ?_
 refine tw 12 (fun K hK=>?_)
 go_simp
 refine (scored_any _).mono ?_
 rintro e wq ⟨rfl,xx⟩
 try go_wp2_with fail
 replace yy:=ext_trans yy xx
 have hT2:=keepK.out _ yy
 refine hK.out _ _ hT2 (fun _ => trivial) ?_
 clear hK K
 try simp only [Act.put,List.setIfInBounds_toArray,List.set_cons_zero,List.set_cons_succ]
 refine tk 13 hT2 (fun _=>trivial) ?_
 refine tk 14 hT2 (fun _=>trivial) ?_
 refine tk 15 hT2 (fun _=>trivial) ?_
 refine anyK_on1 16 (by kernel_rfl) ?_
 refine tw 16 (fun K hK=>?_)
 go_simp
 refine (counted_any _).mono ?_
 rintro e wc ⟨rfl,xx⟩
 try go_wp2_with fail
 replace yy:=ext_trans yy xx
 have hT3:=keepK.out _ yy
 refine hK.out _ _ hT3 (fun _ => trivial) ?_
 clear hK K
 try simp only [Act.put,List.setIfInBounds_toArray,List.set_cons_zero,List.set_cons_succ]
 refine tk 17 hT3 (fun _=>trivial) ?_
 refine tk 18 hT3 (fun _=>trivial) ?_
 refine anyK_done (by kernel_rfl) ?_ _
 clear keepK hT0 hT1 hT2 hT3
 obtain ⟨hR,hP,kR,kP,X⟩:=HS0.out _ yy
 clear HS0 KX xx yy
 go_wp2_with fail
 refine (three_any _).mono ?_
 rintro e w27 ⟨v3,rfl,h3,x⟩
 replace hR:=hR.ext x
 replace hP:=hP.ext x
 replace kR:=kR.ext x
 replace kP:=kP.ext x
 replace X:=ext_trans X x
 clear x
 go_wp2_with fail
 refine (near_any _).mono ?_
 rintro e w28 ⟨v4,rfl,h4,x⟩
 replace hR:=hR.ext x
 replace hP:=hP.ext x
 replace kR:=kR.ext x
 replace kP:=kP.ext x
 replace h3:=h3.ext x
 replace X:=ext_trans X x
 clear x
 replace h4:=h4.at_
 go_wp2_with fail
 refine (HCS.out _ _ _ h3 h4).mono ?_
 rintro e w29 (⟨rfl,x⟩ | ⟨pv,rfl,hs⟩)
 rotate_left
 ·have HS:=hide hs
  clear hs
  go_wp2
  exact ⟨rfl,.inr HS.out⟩
 replace hR:=hR.ext x
 replace hP:=hP.ext x
 replace kR:=kR.ext x
 replace kP:=kP.ext x
 replace h3:=h3.ext x
 replace h4:=h4.ext x
 replace X:=ext_trans X x
 clear x
 clear h3 h4
 clear HCS
 go_wp2_with fail
 refine (three_any _).mono ?_
 rintro e w30 ⟨v5,rfl,h5,x⟩
 replace hR:=hR.ext x
 replace hP:=hP.ext x
 replace kR:=kR.ext x
 replace kP:=kP.ext x
 replace X:=ext_trans X x
 clear x
 go_wp2_with fail
 refine (near_any _).mono ?_
 rintro e w31 ⟨v6,rfl,h6,x⟩
 replace hR:=hR.ext x
 replace hP:=hP.ext x
 replace kR:=kR.ext x
 replace kP:=kP.ext x
 replace h5:=h5.ext x
 replace X:=ext_trans X x
 clear x
 replace h6:=h6.at_
 go_wp2_with fail
 refine (HSS.out _ _ _ h5 h6).mono ?_
 rintro e w32 (⟨O1,rfl,q1,x⟩ | ⟨pv,rfl,hs⟩)
 rotate_left
 ·have HS:=hide hs
  clear hs
  go_wp2
  exact ⟨rfl,.inr HS.out⟩
 replace hR:=hR.ext x
 replace hP:=hP.ext x
 replace kR:=kR.ext x
 replace kP:=kP.ext x
 replace h5:=h5.ext x
 replace h6:=h6.ext x
 replace X:=ext_trans X x
 clear x
 clear h5 h6
 clear HSS
 have fR:=kR.cell
 have fP:=kP.cell
 go_wp2_with fail
 clear q1
 refine (HHV.out _ _ _ hR hP).mono ?_
 rintro e w33 ⟨rfl,x⟩
 replace hR:=hR.ext x
 replace hP:=hP.ext x
 replace kR:=kR.ext x
 replace kP:=kP.ext x
 replace X:=ext_trans X x
 replace fR:=kR.cell
 replace fP:=kP.cell
 clear x
 clear HHV
 go_wp2_with fail
 refine (HSA.out _ _ _ hR hP).mono ?_
 rintro e w34 (⟨O1,ko1,rfl,x⟩ | ⟨pv,rfl,hs⟩)
 rotate_left
 ·have HS:=hide hs
  clear hs
  go_wp2
  exact ⟨rfl,.inr HS.out⟩
 replace hR:=hR.ext x
 replace hP:=hP.ext x
 replace kR:=kR.ext x
 replace kP:=kP.ext x
 replace X:=ext_trans X x
 replace fR:=kR.cell
 replace fP:=kP.cell
 clear x
 have i1:=row_ints ko1
 clear ko1 HSA
 go_wp2_with fail
 refine (HSB.out _ _ _ hR hP).mono ?_
 rintro e w35 (⟨O2,ko2,rfl,x⟩ | ⟨pv,rfl,hs⟩)
 rotate_left
 ·have HS:=hide hs
  clear hs
  go_wp2
  exact ⟨rfl,.inr HS.out⟩
 replace hR:=hR.ext x
 replace hP:=hP.ext x
 replace kR:=kR.ext x
 replace kP:=kP.ext x
 replace i1:=i1.ext x
 replace X:=ext_trans X x
 replace fR:=kR.cell
 replace fP:=kP.cell
 clear x
 have i2:=row_ints ko2
 clear ko2 HSB
 go_wp2_with fail
 refine (HBA.out _ _ _ hR hP).mono ?_
 rintro e w36 (⟨rfl,x⟩ | ⟨pv,rfl,hs⟩)
 rotate_left
 ·have HS:=hide hs
  clear hs
  go_wp2
  exact ⟨rfl,.inr HS.out⟩
 replace hR:=hR.ext x
 replace hP:=hP.ext x
 replace kR:=kR.ext x
 replace kP:=kP.ext x
 replace i1:=i1.ext x
 replace i2:=i2.ext x
 replace X:=ext_trans X x
 replace fR:=kR.cell
 replace fP:=kP.cell
 clear x
 clear HBA
 obtain ⟨xa,kM⟩:=blks1 w36 #[.int .i64 y.1.src,.int .i64 y.1.dst,.int .i64 y.1.piece] 31
 replace hR:=hR.ext xa
 replace hP:=hP.ext xa
 replace kR:=kR.ext xa
 replace kP:=kP.ext xa
 replace i1:=i1.ext xa
 replace i2:=i2.ext xa
 replace X:=ext_trans X xa
 have fR':=kR.cell
 have fP':=kP.cell
 clear xa
 go_wp2_with fail
 generalize (w36.alloc (.cells #[.int .i64 y.1.src,.int .i64 y.1.dst,.int .i64 y.1.piece] 31))=w37 at *
 generalize w36.heap.size=BM at *
 replace fR:=kR.cell
 clear fR'
 replace fP:=kP.cell
 clear fP'
 refine (HCB.out _ _ _ hR hP).mono ?_
 rintro e w38 (⟨rfl,x⟩ | ⟨pv,rfl,hs⟩)
 rotate_left
 ·have HS:=hide hs
  clear hs
  go_wp2
  exact ⟨rfl,.inr HS.out⟩
 replace hR:=hR.ext x
 replace hP:=hP.ext x
 replace kR:=kR.ext x
 replace kP:=kP.ext x
 replace i1:=i1.ext x
 replace i2:=i2.ext x
 replace kM:=kM.ext x
 replace X:=ext_trans X x
 replace fR:=kR.cell
 replace fP:=kP.cell
 clear x
 clear HCB
 go_wp2_with fail
 refine (HMB.out _ _ _ hR hP).mono ?_
 rintro e w39 ⟨rfl,x⟩
 replace hR:=hR.ext x
 replace hP:=hP.ext x
 replace kR:=kR.ext x
 replace kP:=kP.ext x
 replace i1:=i1.ext x
 replace i2:=i2.ext x
 replace kM:=kM.ext x
 replace X:=ext_trans X x
 replace fR:=kR.cell
 replace fP:=kP.cell
 clear x
 clear HMB
 obtain ⟨xa,kX⟩:=blks1 w39 #[.int .i64 y.1.src,.int .i64 y.1.dst,.int .i64 y.1.piece] 31
 replace hR:=hR.ext xa
 replace hP:=hP.ext xa
 replace kR:=kR.ext xa
 replace kP:=kP.ext xa
 replace i1:=i1.ext xa
 replace i2:=i2.ext xa
 replace kM:=kM.ext xa
 replace X:=ext_trans X xa
 have fR':=kR.cell
 have fP':=kP.cell
 clear xa
 go_wp2_with fail
 generalize (w39.alloc (.cells #[.int .i64 y.1.src,.int .i64 y.1.dst,.int .i64 y.1.piece] 31))=w40 at *
 generalize w39.heap.size=BX at *
 replace fR:=kR.cell
 clear fR'
 replace fP:=kP.cell
 clear fP'
 refine (HPC.out _ _ _ hR hP).mono ?_
 rintro e w41 ⟨rfl,x⟩
 replace hR:=hR.ext x
 replace hP:=hP.ext x
 replace kR:=kR.ext x
 replace kP:=kP.ext x
 replace i1:=i1.ext x
 replace i2:=i2.ext x
 replace kM:=kM.ext x
 replace kX:=kX.ext x
 replace X:=ext_trans X x
 replace fR:=kR.cell
 replace fP:=kP.cell
 clear x
 clear HPC
 clear fR fP
 obtain ⟨xa,kE⟩:=blks1 w41 #[.int .i64 0,.int .i64 0,.int .i64 0,.int .i64 0,.int .i64 0] 32
 replace hR:=hR.ext xa
 replace hP:=hP.ext xa
 replace kR:=kR.ext xa
 replace kP:=kP.ext xa
 replace i1:=i1.ext xa
 replace i2:=i2.ext xa
 replace kM:=kM.ext xa
 replace kX:=kX.ext xa
 replace X:=ext_trans X xa
 clear xa
 go_wp2_with fail
 generalize (w41.alloc (.cells #[.int .i64 0,.int .i64 0,.int .i64 0,.int .i64 0,.int .i64 0] 32))=w42 at *
 generalize w41.heap.size=BE at *
 refine (fine_ext (fine_any (some ⟨BE,0,none⟩) 5 5 [0,0,0,0,0] _ rfl (by omega) (blk_ints kE))).mono ?_
 rintro e w43 ⟨rfl,x⟩
 replace hR:=hR.ext x
 replace hP:=hP.ext x
 replace kR:=kR.ext x
 replace kP:=kP.ext x
 replace i1:=i1.ext x
 replace i2:=i2.ext x
 replace kM:=kM.ext x
 replace kX:=kX.ext x
 replace kE:=kE.ext x
 replace X:=ext_trans X x
 clear x
 rw [show allZero [0,0,0,0,0]=true from rfl]
 clear kE
 go_wp2_with fail
 refine (eqx (EqInts_yes _ _ _ _ _ _ _ (by simp) (by have:=HLN.out; omega) i1 i2)).mono ?_
 rintro e w44 ⟨rfl,x⟩
 replace hR:=hR.ext x
 replace hP:=hP.ext x
 replace kR:=kR.ext x
 replace kP:=kP.ext x
 replace i1:=i1.ext x
 replace i2:=i2.ext x
 replace kM:=kM.ext x
 replace kX:=kX.ext x
 replace X:=ext_trans X x
 clear x
 have fM:=kM.cell
 have fX:=kX.cell
 go_wp2_with fail
 refine (Max_any _ _ _ _ _ (by simp) HLN.out.1 HLN.out.2 i1).mono ?_
 rintro e w45 ⟨z,hz,rfl,x⟩
 replace hR:=hR.ext x
 replace hP:=hP.ext x
 replace kR:=kR.ext x
 replace kP:=kP.ext x
 replace i1:=i1.ext x
 replace i2:=i2.ext x
 replace kM:=kM.ext x
 replace kX:=kX.ext x
 replace X:=ext_trans X x
 replace fM:=kM.cell
 replace fX:=kX.cell
 clear x
 obtain rfl:=HMX.out z hz
 have t9 : (c (argI c n) == y.2)=true:=by rw [HY.out]; simp
 clear HMX HY hz
 go_wp2
 all_goals go_ret
 all_goals exact .inl (by first | rfl | simp)
theorem crowdAlike_law (v : Value) (R : RulesM) (u : Value) (P : PosM) (D a b : Int) (w : World) (hR : RulesAt w v R) (hP : PosAt w u P) :
  Calls Crz.prog 3 #[v,u,.int .i64 D,.int .i64 a,.int .i64 b] w LawR:=by
 obtain ⟨K,hK⟩ : ∃ K,(wrap64 (a.tmod 8 + 8)).tmod 8=K:=⟨_,rfl⟩
 obtain ⟨M,hM⟩ : ∃ M,(wrap64 (b.tmod 8 + 8)).tmod 8=M:=⟨_,rfl⟩
 obtain ⟨k0,k1⟩:=mod_bd 8 (by omega) (by omega) a K hK
 obtain ⟨m0,m1⟩:=mod_bd 8 (by omega) (by omega) b M hM
 cases hh : heavyB R P D
 ·by_cases he : crowdE R P D (K + 1)=0
  ·exact crowdAlike_yes R P v u D a b w hR hP K M hK hM k0 k1 m0 m1 hh he
  ·exact crowdAlike_no R P v u D a b w hR hP K M hK hM k0 k1 m0 m1 hh he
 ·exact crowdAlike_heavy R P v u D a b w hR hP K M hK hM k0 k1 m0 m1 hh
end Go.Proofs.YtdoibgmmijhlfaaGreat
