/- CrZ CrY LTopWorkers -/
import Derived.Test.YtdoibgmmijhlfaaGreatB39
import Derived.Test.YtdoibgmmijhlfaaGreatB40
import Derived.Test.YtdoibgmmijhlfaaGreatB41
namespace Go.Proofs.YtdoibgmmijhlfaaGreat
set_option linter.unusedVariables false
def Row0 (R : RulesM) (P : PosM) (d : Nat) (c : Nat→Int) : Prop:=∀ i m,(listM R P)[i]? = some m→c i=scoreOf R P d m
theorem row0_ex (R : RulesM) (P : PosM) (d : Nat) : ∃ c,Row0 R P d c:=⟨fun i => ((listM R P)[i]?.map (scoreOf R P d)).getD 0,fun i m h => by simp [h]⟩
theorem tree_child {R : RulesM} {P : PosM} {d : Nat} {m : MoveM} (h : m ∈ movesM R P) : treeM R d (makeM R P m)≤treeM R (d + 1) P:=by
 show _≤1 + ((movesM R P).map fun m => treeM R d (makeM R P m)).sum
 have : ∀ (l : List MoveM),m ∈ l→treeM R d (makeM R P m)≤(l.map fun m => treeM R d (makeM R P m)).sum:=by
  intro l
  induction l with
  | nil => intro q; cases q
  | cons a l ih =>
   intro q
   rw [List.map_cons,List.sum_cons]
   have h1:=tree_pos R d (makeM R P a)
   have h2 : 0≤(l.map fun m => treeM R d (makeM R P m)).sum:=sum_nonneg _ (fun x hx => by
    obtain ⟨y,_,rfl⟩:=List.mem_map.1 hx
    have:=tree_pos R d (makeM R P y)
    omega)
   rcases List.mem_cons.1 q with rfl | q
   ·omega
   ·have:=ih q; omega
 have:=this _ h
 omega
theorem child_zero {R : RulesM} {P : PosM} {D : Int} {m : MoveM} (hE : perftE R P D=0) (hD : 1≤D) (hr : resultM R P=0) (hm : m ∈ listM R P) : perftE R (makeM R P m) (D - 1)=0:=by
 obtain ⟨hV,hS,h0,h12,ht⟩:=perft_zero hE
 have hm' : m ∈ movesM R P:=by unfold movesM; rw [if_pos hr]; exact hm
 have h1:=tree_child (d:=(D - 1).toNat) hm'
 rw [show (D - 1).toNat + 1=D.toNat by omega] at h1
 exact (perftE_ok (check_iff.2 ⟨hV,sound_move hV hS hm'⟩) (by omega) (by omega)).1
theorem count_all {R : RulesM} {P : PosM} {D : Int} (hE : perftE R P D=0) (hD : 1≤D) (hr : resultM R P=0) : sumOf (countOf R P D) (listM R P) (listM R P).length=leafM R D.toNat P:=by
 obtain ⟨hV,hS,h0,h12,ht⟩:=perft_zero hE
 have e : D.toNat=(D - 1).toNat + 1:=by omega
 have hl : movesM R P=listM R P:=if_pos hr
 unfold sumOf
 rw [List.take_length,e]
 show _=((movesM R P).map fun m => leafM R (D - 1).toNat (makeM R P m)).sum
 rw [hl]
 congr 1
 refine List.map_congr_left fun m hm => ?_
 have hm' : m ∈ movesM R P:=by rw [hl]; exact hm
 have hc : checkE R (makeM R P m)=0:=check_iff.2 ⟨hV,sound_move hV hS hm'⟩
 have h1:=tree_child (d:=(D - 1).toNat) hm'
 rw [← e] at h1
 exact (perftE_ok hc (by omega) (by omega)).2.2
theorem crowd_zero {R : RulesM} {P : PosM} {D W : Int} (h : crowdE R P D W=0) : perftE R P D=0∧1≤D∧resultM R P=0:=by
 unfold crowdE at h
 by_cases h1 : perftE R P D=0
 ·rw [if_neg (by simpa using h1)] at h
  by_cases h2 : D=0∨W < 1∨8 < W
  ·rw [if_pos h2] at h; omega
  ·rw [if_neg h2] at h
   by_cases h3 : resultM R P=0
   ·have:=(perft_zero h1).2.2.1
    exact ⟨h1,by omega,h3⟩
   ·rw [if_pos h3] at h; omega
 ·rw [if_pos h1] at h; exact absurd h h1
theorem crowd_best {R : RulesM} {P : PosM} {D W : Int} (h1 : 1≤W) (h8 : W≤8) : crowdE R P D W=bestE R P D:=by
 unfold crowdE bestE
 by_cases h : D=0
 ·rw [if_pos (show D=0∨W < 1∨8 < W from .inl h),if_pos h]
 ·rw [if_neg (show ¬(D=0∨W < 1∨8 < W) by omega),if_neg h]
end Go.Proofs.YtdoibgmmijhlfaaGreat
namespace Go.Proofs.YtdoibgmmijhlfaaGreat
open Go.ChangeShapes Go.WideShapes Go.ChangeAt Go.RowKit Go.Shelf
set_option linter.unusedVariables false
def Said (e : Ending) (w : World) : Prop:=(∃ n nw f O c,e=.panicked [{ v:=markV n nw f,recovered:=false }]∧ScPre w n nw f O c)∨(∃ n nw f O,e=.panicked [{ v:=markV n nw f,recovered:=false }]∧CtPre w n nw f O)∨∃ p,e=.panicked [{ v:=markL p,recovered:=false }]∧LdPre w p
def PanE (e : Ending) (w : World) : Prop:=∃ v,e=.panicked [{ v:=v,recovered:=false }]∧Said e w
def LawR (e : Ending) (w : World) : Prop:=e=.returned (.bool true)∨Said e w
theorem panE_sc {n nw : Int} {f : Value} {O : Nat} {c : Nat→Int} {e : Ending} {w : World} (h : e=.panicked [{ v:=markV n nw f,recovered:=false }]) (k : ScPre w n nw f O c) : PanE e w:=⟨_,h,.inl ⟨n,nw,f,O,c,h,k⟩⟩
theorem panE_ct {n nw : Int} {f : Value} {O : Nat} {e : Ending} {w : World} (h : e=.panicked [{ v:=markV n nw f,recovered:=false }]) (k : CtPre w n nw f O) : PanE e w:=⟨_,h,.inr (.inl ⟨n,nw,f,O,h,k⟩)⟩
theorem panE_ld {p : Value} {e : Ending} {w : World} (h : e=.panicked [{ v:=markL p,recovered:=false }]) (k : LdPre w p) : PanE e w:=⟨_,h,.inr (.inr ⟨p,h,k⟩)⟩
section
variable {R : RulesM} {P : PosM} {v u : Value} {D W : Int} {w : World}
theorem ScoresL_yes (hR : RulesAt w v R) (hP : PosAt w u P) (hE : crowdE R P D W=0) {c : Nat→Int} (hc : Row0 R P (D.toNat - 1) c) :
  Calls Crz.prog 13 #[v,u,.int .i64 D,.int .i64 W] w fun e w' => (∃ O,Blk w' O 3 (outRow c (listM R P).length (listM R P).length)∧e=.returned (.tuple #[.slice (some ⟨O,0,none⟩) (listM R P).length (listM R P).length,.int .i64 0])∧Ext w w')∨PanE e w':=by
 obtain ⟨h1,h2,h3⟩:=crowd_zero hE
 obtain ⟨hV,hS,_,h12,_⟩:=perft_zero h1
 refine (crowdScores_yes R P v u D W c w hR hP hc hE hV hS h2 h12).mono fun e w' h => ?_
 rcases h with ⟨O,_,k,e1,x⟩ | ⟨f,O,e1,k⟩
 ·exact .inl ⟨O,k,e1,x⟩
 ·exact .inr (panE_sc e1 k)
theorem CountL_yes (hR : RulesAt w v R) (hP : PosAt w u P) (hE : crowdE R P D W=0) :
  Calls Crz.prog 12 #[v,u,.int .i64 D,.int .i64 W] w fun e w' => (e=.returned (.tuple #[.int .i64 (leafM R D.toNat P),.int .i64 0])∧Ext w w')∨PanE e w':=by
 obtain ⟨h1,h2,h3⟩:=crowd_zero hE
 obtain ⟨hV,hS,_,h12,_⟩:=perft_zero h1
 rw [← count_all h1 h2 h3]
 refine (crowdCount_yes R P v u D W w hR hP hE hV hS h2 h12).mono fun e w' h => ?_
 rcases h with h | ⟨f,O,e1,k⟩ | ⟨p,e1,k⟩
 ·exact .inl h
 ·exact .inr (panE_ct e1 k)
 ·exact .inr (panE_ld e1 k)
end
theorem near_crowd {D W : Int} (hD : D=1∨D=2) (h1 : 1≤W) (h8 : W≤8) : crowdE threeR nearP D W=0:=by
 rw [crowd_best h1 h8]
 rcases hD with rfl | rfl
 ·decide +kernel
 ·exact near_score.2.2.2
theorem near_rows : (listM threeR nearP).length=5∧(listM threeR nearP)[0]? = some ⟨-1,2,0⟩∧scoreOf threeR nearP 0 ⟨-1,2,0⟩=999∧leafM threeR 2 nearP=16∧leafM threeR 1 nearP=5∧firstM threeR 1 nearP=(⟨-1,2,0⟩,999)∧firstM threeR 0 nearP=(⟨-1,2,0⟩,999):=by decide +kernel
theorem near_nine : (makeM threeR nearP ⟨-1,2,0⟩).cells.length=9:=by decide +kernel
theorem mod_idx {n l : Int} (hl : 1≤l) : -l < n.tmod l∧n.tmod l < l∧0≤(n.tmod l + l).tmod l∧(n.tmod l + l).tmod l < l:=by
 have h1 : -l < n.tmod l∧n.tmod l < l:=by
  have a:=Int.tmod_lt_of_pos n (show 0 < l by omega)
  refine ⟨?_,a⟩
  have b:=Int.tmod_lt_of_pos (-n) (show 0 < l by omega)
  rw [Int.neg_tmod] at b
  omega
 refine ⟨h1.1,h1.2,Int.tmod_nonneg _ (by omega),Int.tmod_lt_of_pos _ (by omega)⟩
theorem mod_bd (n : Int) (hn : 1≤n) (hb : n≤1000) (a K : Int) (h : (wrap64 (a.tmod n + n)).tmod n=K) : 0≤K∧K < n:=by
 obtain ⟨h1,h2,h3,h4⟩:=mod_idx (n:=a) (l:=n) hn
 have e : wrap64 (a.tmod n + n)=a.tmod n + n:=by unfold wrap64; omega
 rw [e] at h
 omega
section
variable (W : World) (v1 v2 : Value) (h1 : RulesAt W v1 threeR) (h2 : PosAt W v2 nearP)
include h1 h2
theorem countS12 : Calls Crz.prog 12 #[v1,v2,.int .i64 1,.int .i64 2] W fun e w' => (e=.returned (.tuple #[.int .i64 5,.int .i64 0])∧Ext W w')∨PanE e w':=by
 have h:=CountL_yes h1 h2 (near_crowd (W:=2) (.inl rfl) (by omega) (by omega))
 have e : leafM threeR (1 : Int).toNat nearP=5:=near_rows.2.2.2.2.1
 rw [e] at h
 exact h
theorem scoresS12 : Calls Crz.prog 13 #[v1,v2,.int .i64 1,.int .i64 2] W fun e w' => (∃ O,e=.returned (.tuple #[.slice (some ⟨O,0,none⟩) 5 5,.int .i64 0])∧w'.cell? ⟨O,0,none⟩=some (.int .i64 999)∧Ext W w')∨PanE e w':=by
 obtain ⟨c,hc⟩:=row0_ex threeR nearP 0
 refine (ScoresL_yes h1 h2 (near_crowd (W:=2) (.inl rfl) (by omega) (by omega)) hc).mono fun e w' h => ?_
 rcases h with ⟨O,k,e1,x⟩ | h
 ·refine .inl ⟨O,by rw [near_rows.1] at e1; exact e1,?_,x⟩
  have h0:=hc 0 _ near_rows.2.1
  have:=k.cell 0
  rw [near_rows.1] at this
  rw [this,outRow_get c (by omega : 0 < 5),if_pos (by omega),h0]
  exact congrArg (fun z => some (Value.int .i64 z)) near_rows.2.2.1
 ·exact .inr h
end
end Go.Proofs.YtdoibgmmijhlfaaGreat
namespace Go.Proofs.YtdoibgmmijhlfaaGreat
open Go.ChangeShapes Go.WideShapes Go.ChangeAt Go.RowKit Go.Shelf
set_option linter.unusedVariables false
set_option linter.unusedSimpArgs false
set_option maxHeartbeats 4000000 in
set_option maxRecDepth 100000 in
theorem topWorkers_heavy (R : RulesM) (P : PosM) (v u : Value) (D b : Int) (w : World) (hR : RulesAt w v R) (hP : PosAt w u P) (K : Int) (hK : (wrap64 (b.tmod 8 + 8)).tmod 8=K) (k0 : 0≤K) (k1 : K < 8) (hh : bheavyB R P D=true) :
  Calls Crz.prog 4 #[v,u,.int .i64 D,.int .i64 b] w LawR:=by
 have HHV:=hide (fun W (v1 v2 : Value) (h1 : RulesAt W v1 R) (h2 : PosAt W v2 P) => bheavy_any R P v1 v2 D W h1 h2)
 rw [hh] at HHV
 clear hh
 have HSS:=hide (fun W (v1 v2 : Value) (h1 : RulesAt W v1 threeR) (h2 : PosAt W v2 nearP) => scoresS12 W v1 v2 h1 h2)
 have HCS:=hide (fun W (v1 v2 : Value) (h1 : RulesAt W v1 threeR) (h2 : PosAt W v2 nearP) => countS12 W v1 v2 h1 h2)
 have HD1:=hide (fun W (v1 v2 : Value) (h1 : RulesAt W v1 threeR) (h2 : PosAt W v2 nearP) => Divide_yes threeR nearP v1 v2 1 W h1 h2 near_div.1)
 have HA1:=hide (fun W (v1 v2 : Value) (h1 : RulesAt W v1 threeR) (h2 : PosAt W v2 nearP) => After_yes threeR nearP ⟨-1,2,0⟩ v1 v2 W h1 h2 valid_three sound_near (List.mem_of_getElem? near_rows.2.1))
 have h9 : (makeM threeR nearP ⟨-1,2,0⟩).cells.length=9:=near_nine
 generalize makeM threeR nearP ⟨-1,2,0⟩=Q9 at *
 have H9:=hide h9
 clear h9
 have hwK : IntKind.i64.wrap (K + 1)=K + 1:=by rw [IntKind.wrap_i64]; omega
 have hR0:=hR
 have hP0:=hP
 obtain ⟨pA,pc,sA,sc,eA,ec,rfl,-⟩:=hR0
 obtain ⟨cA,cc,aA,ac,bA,bc,rfl,-⟩:=hP0
 go_enter Crz.func4,Tryz.ntmps4
 go_wp2_with fail
 obtain ⟨xa,kR,kP⟩:=blks2 w #[.string R.name,.int .i64 R.width,.int .i64 R.height,.slice pA R.pieces.length pc,.slice sA R.start.length sc,.bool R.falls,.bool R.keeps,.slice eA R.ends.length ec,.int .i64 R.blocked,.int .i64 R.quiet,.int .i64 R.rept] 26 #[.slice cA P.cells.length cc,.slice aA P.hand0.length ac,.slice bA P.hand1.length bc,.int .i64 P.turn,.int .i64 P.quiet] 29
 replace hR:=hR.ext xa
 replace hP:=hP.ext xa
 have X:=xa
 clear xa
 generalize ((w.alloc (.cells #[.string R.name,.int .i64 R.width,.int .i64 R.height,.slice pA R.pieces.length pc,.slice sA R.start.length sc,.bool R.falls,.bool R.keeps,.slice eA R.ends.length ec,.int .i64 R.blocked,.int .i64 R.quiet,.int .i64 R.rept] 26)).alloc (.cells #[.slice cA P.cells.length cc,.slice aA P.hand0.length ac,.slice bA P.hand1.length bc,.int .i64 P.turn,.int .i64 P.quiet] 29))=w2 at *
 generalize w.heap.size + 1=BP at *
 generalize w.heap.size=BR at *
 refine (bthree_any _).mono ?_
 rintro e w3 ⟨v1,rfl,h1,x⟩
 replace hR:=hR.ext x
 replace hP:=hP.ext x
 replace kR:=kR.ext x
 replace kP:=kP.ext x
 replace X:=ext_trans X x
 clear x
 go_wp2_with fail
 refine (bnear_any _).mono ?_
 rintro e w4 ⟨v2,rfl,h2,x⟩
 replace hR:=hR.ext x
 replace hP:=hP.ext x
 replace kR:=kR.ext x
 replace kP:=kP.ext x
 replace h1:=h1.ext x
 replace X:=ext_trans X x
 clear x
 replace h2:=h2.at_
 go_wp2_with fail
 refine (HSS.out _ _ _ h1 h2).mono ?_
 rintro e w5 (⟨O1,rfl,q1,x⟩ | ⟨pv,rfl,hs⟩)
 rotate_left
 ·have HS:=hide hs
  clear hs
  go_wp2
  exact ⟨rfl,.inr HS.out⟩
 replace hR:=hR.ext x
 replace hP:=hP.ext x
 replace kR:=kR.ext x
 replace kP:=kP.ext x
 replace h1:=h1.ext x
 replace h2:=h2.ext x
 replace X:=ext_trans X x
 clear x
 clear h1 h2
 clear HSS
 go_wp2_with fail
 clear q1
 refine (bscored_any _).mono ?_
 rintro e w6 ⟨rfl,x⟩
 replace hR:=hR.ext x
 replace hP:=hP.ext x
 replace kR:=kR.ext x
 replace kP:=kP.ext x
 replace X:=ext_trans X x
 clear x
 go_wp2_with fail
 refine (bthree_any _).mono ?_
 rintro e w7 ⟨v3,rfl,h3,x⟩
 replace hR:=hR.ext x
 replace hP:=hP.ext x
 replace kR:=kR.ext x
 replace kP:=kP.ext x
 replace X:=ext_trans X x
 clear x
 go_wp2_with fail
 refine (bnear_any _).mono ?_
 rintro e w8 ⟨v4,rfl,h4,x⟩
 replace hR:=hR.ext x
 replace hP:=hP.ext x
 replace kR:=kR.ext x
 replace kP:=kP.ext x
 replace h3:=h3.ext x
 replace X:=ext_trans X x
 clear x
 replace h4:=h4.at_
 go_wp2_with fail
 refine (HCS.out _ _ _ h3 h4).mono ?_
 rintro e w9 (⟨rfl,x⟩ | ⟨pv,rfl,hs⟩)
 rotate_left
 ·have HS:=hide hs
  clear hs
  go_wp2
  exact ⟨rfl,.inr HS.out⟩
 replace hR:=hR.ext x
 replace hP:=hP.ext x
 replace kR:=kR.ext x
 replace kP:=kP.ext x
 replace h3:=h3.ext x
 replace h4:=h4.ext x
 replace X:=ext_trans X x
 clear x
 clear h3 h4
 clear HCS
 go_wp2_with fail
 refine (bthree_any _).mono ?_
 rintro e w10 ⟨v5,rfl,h5,x⟩
 replace hR:=hR.ext x
 replace hP:=hP.ext x
 replace kR:=kR.ext x
 replace kP:=kP.ext x
 replace X:=ext_trans X x
 clear x
 go_wp2_with fail
 refine (bnear_any _).mono ?_
 rintro e w11 ⟨v6,rfl,h6,x⟩
 replace hR:=hR.ext x
 replace hP:=hP.ext x
 replace kR:=kR.ext x
 replace kP:=kP.ext x
 replace h5:=h5.ext x
 replace X:=ext_trans X x
 clear x
 replace h6:=h6.at_
 go_wp2_with fail
 refine (HD1.out _ _ _ h5 h6).mono ?_
 rintro e w12 ⟨v7,rfl,own7,x⟩
 replace hR:=hR.ext x
 replace hP:=hP.ext x
 replace kR:=kR.ext x
 replace kP:=kP.ext x
 replace h5:=h5.ext x
 replace h6:=h6.ext x
 replace X:=ext_trans X x
 clear x
 obtain ⟨A7,c7,rfl,-⟩:=own7
 rw [near_div.2.1]
 clear h5 h6
 clear HD1
 go_wp2_with fail
 refine (bthree_any _).mono ?_
 rintro e w13 ⟨v8,rfl,h8,x⟩
 replace hR:=hR.ext x
 replace hP:=hP.ext x
 replace kR:=kR.ext x
 replace kP:=kP.ext x
 replace X:=ext_trans X x
 clear x
 go_wp2_with fail
 refine (bnear_any _).mono ?_
 rintro e w14 ⟨v9,rfl,h9,x⟩
 replace hR:=hR.ext x
 replace hP:=hP.ext x
 replace kR:=kR.ext x
 replace kP:=kP.ext x
 replace h8:=h8.ext x
 replace X:=ext_trans X x
 clear x
 replace h9:=h9.at_
 go_wp2_with fail
 refine (bput_any 2 _).mono ?_
 rintro e w15 ⟨rfl,x⟩
 replace hR:=hR.ext x
 replace hP:=hP.ext x
 replace kR:=kR.ext x
 replace kP:=kP.ext x
 replace h8:=h8.ext x
 replace h9:=h9.ext x
 replace X:=ext_trans X x
 clear x
 go_wp2_with fail
 refine (HA1.out _ _ _ h8 h9).mono ?_
 rintro e w16 ⟨va,rfl,ha,x⟩
 replace hR:=hR.ext x
 replace hP:=hP.ext x
 replace kR:=kR.ext x
 replace kP:=kP.ext x
 replace h8:=h8.ext x
 replace h9:=h9.ext x
 replace X:=ext_trans X x
 clear x
 replace ha:=ha.at_
 have hav:=ha
 obtain ⟨cA9,cc9,aA9,ac9,bA9,bc9,rfl,-⟩:=hav
 clear ha
 clear h8 h9
 clear HA1
 have t9 : ((Q9.cells.length : Int) != 9)=false:=by rw [H9.out]; rfl
 obtain ⟨xa,kQ⟩:=blks1 w16 #[.slice cA9 Q9.cells.length cc9,.slice aA9 Q9.hand0.length ac9,.slice bA9 Q9.hand1.length bc9,.int .i64 Q9.turn,.int .i64 Q9.quiet] 29
 replace hR:=hR.ext xa
 replace hP:=hP.ext xa
 replace kR:=kR.ext xa
 replace kP:=kP.ext xa
 replace X:=ext_trans X xa
 clear xa
 go_upto_region 11 with fail
 generalize (w16.alloc (.cells #[.slice cA9 Q9.cells.length cc9,.slice aA9 Q9.hand0.length ac9,.slice bA9 Q9.hand1.length bc9,.int .i64 Q9.turn,.int .i64 Q9.quiet] 29))=w17 at *
 generalize w16.heap.size=BQ at *
 have fQ:=kQ.cell
 have fR:=kR.cell
 have fP:=kP.cell
 go_wp2_with fail
 clear fQ
 clear kQ
 refine (HHV.out _ _ _ hR hP).mono ?_
 rintro e w18 ⟨rfl,x⟩
 replace hR:=hR.ext x
 replace hP:=hP.ext x
 replace kR:=kR.ext x
 replace kP:=kP.ext x
 replace X:=ext_trans X x
 replace fR:=kR.cell
 replace fP:=kP.cell
 clear x
 clear HHV t9 H9
 clear fR fP
 go_wp2
 all_goals go_ret
 all_goals exact .inl (by first | rfl | simp)
set_option maxHeartbeats 4000000 in
set_option maxRecDepth 100000 in
theorem topWorkers_no (R : RulesM) (P : PosM) (v u : Value) (D b : Int) (w : World) (hR : RulesAt w v R) (hP : PosAt w u P) (K : Int) (hK : (wrap64 (b.tmod 8 + 8)).tmod 8=K) (k0 : 0≤K) (k1 : K < 8) (hh : bheavyB R P D=false) (he : crowdE R P D (K + 1) ≠ 0) :
  Calls Crz.prog 4 #[v,u,.int .i64 D,.int .i64 b] w LawR:=by
 have HHV:=hide (fun W (v1 v2 : Value) (h1 : RulesAt W v1 R) (h2 : PosAt W v2 P) => bheavy_any R P v1 v2 D W h1 h2)
 rw [hh] at HHV
 clear hh
 have HSS:=hide (fun W (v1 v2 : Value) (h1 : RulesAt W v1 threeR) (h2 : PosAt W v2 nearP) => scoresS12 W v1 v2 h1 h2)
 have HCS:=hide (fun W (v1 v2 : Value) (h1 : RulesAt W v1 threeR) (h2 : PosAt W v2 nearP) => countS12 W v1 v2 h1 h2)
 have HD1:=hide (fun W (v1 v2 : Value) (h1 : RulesAt W v1 threeR) (h2 : PosAt W v2 nearP) => Divide_yes threeR nearP v1 v2 1 W h1 h2 near_div.1)
 have HA1:=hide (fun W (v1 v2 : Value) (h1 : RulesAt W v1 threeR) (h2 : PosAt W v2 nearP) => After_yes threeR nearP ⟨-1,2,0⟩ v1 v2 W h1 h2 valid_three sound_near (List.mem_of_getElem? near_rows.2.1))
 have h9 : (makeM threeR nearP ⟨-1,2,0⟩).cells.length=9:=near_nine
 generalize makeM threeR nearP ⟨-1,2,0⟩=Q9 at *
 have H9:=hide h9
 clear h9
 have hwK : IntKind.i64.wrap (K + 1)=K + 1:=by rw [IntKind.wrap_i64]; omega
 have HSA:=hide (fun W (v1 v2 : Value) (h1 : RulesAt W v1 R) (h2 : PosAt W v2 P) => crowdScores_no R P v1 v2 D (K + 1) W h1 h2 he)
 have t0 : (crowdE R P D (K + 1) != 0)=true:=by simpa using he
 clear he
 generalize crowdE R P D (K + 1)=E at *
 have hR0:=hR
 have hP0:=hP
 obtain ⟨pA,pc,sA,sc,eA,ec,rfl,-⟩:=hR0
 obtain ⟨cA,cc,aA,ac,bA,bc,rfl,-⟩:=hP0
 go_enter Crz.func4,Tryz.ntmps4
 go_wp2_with fail
 obtain ⟨xa,kR,kP⟩:=blks2 w #[.string R.name,.int .i64 R.width,.int .i64 R.height,.slice pA R.pieces.length pc,.slice sA R.start.length sc,.bool R.falls,.bool R.keeps,.slice eA R.ends.length ec,.int .i64 R.blocked,.int .i64 R.quiet,.int .i64 R.rept] 26 #[.slice cA P.cells.length cc,.slice aA P.hand0.length ac,.slice bA P.hand1.length bc,.int .i64 P.turn,.int .i64 P.quiet] 29
 replace hR:=hR.ext xa
 replace hP:=hP.ext xa
 have X:=xa
 clear xa
 generalize ((w.alloc (.cells #[.string R.name,.int .i64 R.width,.int .i64 R.height,.slice pA R.pieces.length pc,.slice sA R.start.length sc,.bool R.falls,.bool R.keeps,.slice eA R.ends.length ec,.int .i64 R.blocked,.int .i64 R.quiet,.int .i64 R.rept] 26)).alloc (.cells #[.slice cA P.cells.length cc,.slice aA P.hand0.length ac,.slice bA P.hand1.length bc,.int .i64 P.turn,.int .i64 P.quiet] 29))=w2 at *
 generalize w.heap.size + 1=BP at *
 generalize w.heap.size=BR at *
 refine (bthree_any _).mono ?_
 rintro e w3 ⟨v1,rfl,h1,x⟩
 replace hR:=hR.ext x
 replace hP:=hP.ext x
 replace kR:=kR.ext x
 replace kP:=kP.ext x
 replace X:=ext_trans X x
 clear x
 go_wp2_with fail
 refine (bnear_any _).mono ?_
 rintro e w4 ⟨v2,rfl,h2,x⟩
 replace hR:=hR.ext x
 replace hP:=hP.ext x
 replace kR:=kR.ext x
 replace kP:=kP.ext x
 replace h1:=h1.ext x
 replace X:=ext_trans X x
 clear x
 replace h2:=h2.at_
 go_wp2_with fail
 refine (HSS.out _ _ _ h1 h2).mono ?_
 rintro e w5 (⟨O1,rfl,q1,x⟩ | ⟨pv,rfl,hs⟩)
 rotate_left
 ·have HS:=hide hs
  clear hs
  go_wp2
  exact ⟨rfl,.inr HS.out⟩
 replace hR:=hR.ext x
 replace hP:=hP.ext x
 replace kR:=kR.ext x
 replace kP:=kP.ext x
 replace h1:=h1.ext x
 replace h2:=h2.ext x
 replace X:=ext_trans X x
 clear x
 clear h1 h2
 clear HSS
 go_wp2_with fail
 clear q1
 refine (bscored_any _).mono ?_
 rintro e w6 ⟨rfl,x⟩
 replace hR:=hR.ext x
 replace hP:=hP.ext x
 replace kR:=kR.ext x
 replace kP:=kP.ext x
 replace X:=ext_trans X x
 clear x
 go_wp2_with fail
 refine (bthree_any _).mono ?_
 rintro e w7 ⟨v3,rfl,h3,x⟩
 replace hR:=hR.ext x
 replace hP:=hP.ext x
 replace kR:=kR.ext x
 replace kP:=kP.ext x
 replace X:=ext_trans X x
 clear x
 go_wp2_with fail
 refine (bnear_any _).mono ?_
 rintro e w8 ⟨v4,rfl,h4,x⟩
 replace hR:=hR.ext x
 replace hP:=hP.ext x
 replace kR:=kR.ext x
 replace kP:=kP.ext x
 replace h3:=h3.ext x
 replace X:=ext_trans X x
 clear x
 replace h4:=h4.at_
 go_wp2_with fail
 refine (HCS.out _ _ _ h3 h4).mono ?_
 rintro e w9 (⟨rfl,x⟩ | ⟨pv,rfl,hs⟩)
 rotate_left
 ·have HS:=hide hs
  clear hs
  go_wp2
  exact ⟨rfl,.inr HS.out⟩
 replace hR:=hR.ext x
 replace hP:=hP.ext x
 replace kR:=kR.ext x
 replace kP:=kP.ext x
 replace h3:=h3.ext x
 replace h4:=h4.ext x
 replace X:=ext_trans X x
 clear x
 clear h3 h4
 clear HCS
 go_wp2_with fail
 refine (bthree_any _).mono ?_
 rintro e w10 ⟨v5,rfl,h5,x⟩
 replace hR:=hR.ext x
 replace hP:=hP.ext x
 replace kR:=kR.ext x
 replace kP:=kP.ext x
 replace X:=ext_trans X x
 clear x
 go_wp2_with fail
 refine (bnear_any _).mono ?_
 rintro e w11 ⟨v6,rfl,h6,x⟩
 replace hR:=hR.ext x
 replace hP:=hP.ext x
 replace kR:=kR.ext x
 replace kP:=kP.ext x
 replace h5:=h5.ext x
 replace X:=ext_trans X x
 clear x
 replace h6:=h6.at_
 go_wp2_with fail
 refine (HD1.out _ _ _ h5 h6).mono ?_
 rintro e w12 ⟨v7,rfl,own7,x⟩
 replace hR:=hR.ext x
 replace hP:=hP.ext x
 replace kR:=kR.ext x
 replace kP:=kP.ext x
 replace h5:=h5.ext x
 replace h6:=h6.ext x
 replace X:=ext_trans X x
 clear x
 obtain ⟨A7,c7,rfl,-⟩:=own7
 rw [near_div.2.1]
 clear h5 h6
 clear HD1
 go_wp2_with fail
 refine (bthree_any _).mono ?_
 rintro e w13 ⟨v8,rfl,h8,x⟩
 replace hR:=hR.ext x
 replace hP:=hP.ext x
 replace kR:=kR.ext x
 replace kP:=kP.ext x
 replace X:=ext_trans X x
 clear x
 go_wp2_with fail
 refine (bnear_any _).mono ?_
 rintro e w14 ⟨v9,rfl,h9,x⟩
 replace hR:=hR.ext x
 replace hP:=hP.ext x
 replace kR:=kR.ext x
 replace kP:=kP.ext x
 replace h8:=h8.ext x
 replace X:=ext_trans X x
 clear x
 replace h9:=h9.at_
 go_wp2_with fail
 refine (bput_any 2 _).mono ?_
 rintro e w15 ⟨rfl,x⟩
 replace hR:=hR.ext x
 replace hP:=hP.ext x
 replace kR:=kR.ext x
 replace kP:=kP.ext x
 replace h8:=h8.ext x
 replace h9:=h9.ext x
 replace X:=ext_trans X x
 clear x
 go_wp2_with fail
 refine (HA1.out _ _ _ h8 h9).mono ?_
 rintro e w16 ⟨va,rfl,ha,x⟩
 replace hR:=hR.ext x
 replace hP:=hP.ext x
 replace kR:=kR.ext x
 replace kP:=kP.ext x
 replace h8:=h8.ext x
 replace h9:=h9.ext x
 replace X:=ext_trans X x
 clear x
 replace ha:=ha.at_
 have hav:=ha
 obtain ⟨cA9,cc9,aA9,ac9,bA9,bc9,rfl,-⟩:=hav
 clear ha
 clear h8 h9
 clear HA1
 have t9 : ((Q9.cells.length : Int) != 9)=false:=by rw [H9.out]; rfl
 obtain ⟨xa,kQ⟩:=blks1 w16 #[.slice cA9 Q9.cells.length cc9,.slice aA9 Q9.hand0.length ac9,.slice bA9 Q9.hand1.length bc9,.int .i64 Q9.turn,.int .i64 Q9.quiet] 29
 replace hR:=hR.ext xa
 replace hP:=hP.ext xa
 replace kR:=kR.ext xa
 replace kP:=kP.ext xa
 replace X:=ext_trans X xa
 clear xa
 go_upto_region 11 with fail
 generalize (w16.alloc (.cells #[.slice cA9 Q9.cells.length cc9,.slice aA9 Q9.hand0.length ac9,.slice bA9 Q9.hand1.length bc9,.int .i64 Q9.turn,.int .i64 Q9.quiet] 29))=w17 at *
 generalize w16.heap.size=BQ at *
 have fQ:=kQ.cell
 have fR:=kR.cell
 have fP:=kP.cell
 go_wp2_with fail
 clear fQ
 clear kQ
 refine (HHV.out _ _ _ hR hP).mono ?_
 rintro e w18 ⟨rfl,x⟩
 replace hR:=hR.ext x
 replace hP:=hP.ext x
 replace kR:=kR.ext x
 replace kP:=kP.ext x
 replace X:=ext_trans X x
 replace fR:=kR.cell
 replace fP:=kP.cell
 clear x
 clear HHV t9 H9
 go_wp2_with fail
 refine (HSA.out _ _ _ hR hP).mono ?_
 rintro e w19 ⟨rfl,x⟩
 replace hR:=hR.ext x
 replace hP:=hP.ext x
 replace kR:=kR.ext x
 replace kP:=kP.ext x
 replace X:=ext_trans X x
 replace fR:=kR.cell
 replace fP:=kP.cell
 clear x
 clear fR fP
 clear HSA
 go_wp2
 all_goals go_ret
 all_goals exact .inl (by first | rfl | simp)
set_option maxHeartbeats 4000000 in
set_option maxRecDepth 100000 in
theorem topWorkers_yes (R : RulesM) (P : PosM) (v u : Value) (D b : Int) (w : World) (hR : RulesAt w v R) (hP : PosAt w u P) (K : Int) (hK : (wrap64 (b.tmod 8 + 8)).tmod 8=K) (k0 : 0≤K) (k1 : K < 8) (hh : bheavyB R P D=false) (he : crowdE R P D (K + 1)=0) :
  Calls Crz.prog 4 #[v,u,.int .i64 D,.int .i64 b] w LawR:=by
 have HHV:=hide (fun W (v1 v2 : Value) (h1 : RulesAt W v1 R) (h2 : PosAt W v2 P) => bheavy_any R P v1 v2 D W h1 h2)
 rw [hh] at HHV
 clear hh
 have HSS:=hide (fun W (v1 v2 : Value) (h1 : RulesAt W v1 threeR) (h2 : PosAt W v2 nearP) => scoresS12 W v1 v2 h1 h2)
 have HCS:=hide (fun W (v1 v2 : Value) (h1 : RulesAt W v1 threeR) (h2 : PosAt W v2 nearP) => countS12 W v1 v2 h1 h2)
 have HD1:=hide (fun W (v1 v2 : Value) (h1 : RulesAt W v1 threeR) (h2 : PosAt W v2 nearP) => Divide_yes threeR nearP v1 v2 1 W h1 h2 near_div.1)
 have HA1:=hide (fun W (v1 v2 : Value) (h1 : RulesAt W v1 threeR) (h2 : PosAt W v2 nearP) => After_yes threeR nearP ⟨-1,2,0⟩ v1 v2 W h1 h2 valid_three sound_near (List.mem_of_getElem? near_rows.2.1))
 have h9 : (makeM threeR nearP ⟨-1,2,0⟩).cells.length=9:=near_nine
 generalize makeM threeR nearP ⟨-1,2,0⟩=Q9 at *
 have H9:=hide h9
 clear h9
 have hwK : IntKind.i64.wrap (K + 1)=K + 1:=by rw [IntKind.wrap_i64]; omega
 obtain ⟨hp,hd1,hr⟩:=crowd_zero he
 obtain ⟨hV,hS,-,hd12,htr⟩:=perft_zero hp
 have h0 : divE R P D=0:=by unfold divE; rw [check_iff.2 ⟨hV,hS⟩,hp]; simp; omega
 obtain ⟨c,hc⟩:=row0_ex R P (D.toNat - 1)
 have hlen : (divM R P D).length=(listM R P).length:=by unfold divM movesM; rw [List.length_map,if_pos hr]
 have HSA:=hide (fun W (v1 v2 : Value) (h1 : RulesAt W v1 R) (h2 : PosAt W v2 P) => ScoresL_yes (W:=K + 1) h1 h2 he hc)
 rw [← hlen] at HSA
 have HCB:=hide (fun W (v1 v2 : Value) (h1 : RulesAt W v1 R) (h2 : PosAt W v2 P) => CountL_yes (W:=K + 1) h1 h2 he)
 have HD:=hide (fun W (v1 v2 : Value) (h1 : RulesAt W v1 R) (h2 : PosAt W v2 P) => Divide_yes R P v1 v2 D W h1 h2 h0)
 have HSU:=hide (div_sum R P D hd1)
 have HCB2:=hide (cntS_bd (div_nonneg R P D))
 have HNB : Hid (leafM R D.toNat P≤treeM R D.toNat P∧treeM R D.toNat P≤50000):=hide ⟨leaf_le _ _ _,htr⟩
 have HLL : Hid ((divM R P D).length≤1000000):=hide (by rw [hlen]; exact listM_len hV hS)
 have HAA:=hide (fun (m : MoveM) (hm : m ∈ listM R P) W (v1 v2 : Value) (h1 : RulesAt W v1 R) (h2 : PosAt W v2 P) => After_yes R P m v1 v2 W h1 h2 hV hS hm)
 have HSM : Hid (∀ (m : MoveM),m ∈ listM R P→∀ W (v1 v2 : Value),RulesAt W v1 R→PosAt W v2 (makeM R P m)→Calls Crz.prog 28 #[v1,v2,.int .i64 (D - 1)] W fun e w' => e=.returned (.tuple #[.int .i64 (ofM R (D - 1).toNat (makeM R P m)),.int .i64 0])∧Ext W w'):=hide (fun m hm W v1 v2 h1 h2 => by
  have h:=MScore_any R (makeM R P m) v1 v2 (D - 1) W h1 h2
  rw [show scoreM R (makeM R P m) (D - 1)=ofM R (D - 1).toNat (makeM R P m) from if_pos (child_zero hp hd1 hr hm),child_zero hp hd1 hr hm] at h
  exact h)
 have HPP : Hid (∀ (k : Nat) (p : PartM),(divM R P D)[k]? = some p→p.1 ∈ listM R P∧c k=nearM (-(ofM R (D - 1).toNat (makeM R P p.1)))∧-1000≤ofM R (D - 1).toNat (makeM R P p.1)∧ofM R (D - 1).toNat (makeM R P p.1)≤1000):=hide (fun k p hk => by
  unfold divM movesM at hk
  rw [if_pos hr,List.getElem?_map] at hk
  obtain ⟨m,hm,rfl⟩:=Option.map_eq_some_iff.1 hk
  have hb:=of_bound R (D - 1).toNat (makeM R P m) (turn_make hS.turn m) (by omega)
  unfold boundB at hb
  refine ⟨List.mem_of_getElem? hm,(hc k m hm).trans ?_,?_,?_⟩
  ·show nearM (-(ofM R (D.toNat - 1) (makeM R P m)))=nearM (-(ofM R (D - 1).toNat (makeM R P m)))
   rw [show D.toNat - 1=(D - 1).toNat by omega]
  ·show -1000≤ofM R (D - 1).toNat (makeM R P m)
   omega
  ·show ofM R (D - 1).toNat (makeM R P m)≤1000
   omega)
 have hwD : IntKind.i64.wrap (D - 1)=D - 1:=by rw [IntKind.wrap_i64]; omega
 clear he h0 hlen hp hd1 hr hV hS hd12 htr hc
 generalize treeM R D.toNat P=T at *
 generalize leafM R D.toNat P=N at *
 generalize divM R P D=ps at *
 have hR0:=hR
 have hP0:=hP
 obtain ⟨pA,pc,sA,sc,eA,ec,rfl,-⟩:=hR0
 obtain ⟨cA,cc,aA,ac,bA,bc,rfl,-⟩:=hP0
 go_enter Crz.func4,Tryz.ntmps4
 go_wp2_with fail
 obtain ⟨xa,kR,kP⟩:=blks2 w #[.string R.name,.int .i64 R.width,.int .i64 R.height,.slice pA R.pieces.length pc,.slice sA R.start.length sc,.bool R.falls,.bool R.keeps,.slice eA R.ends.length ec,.int .i64 R.blocked,.int .i64 R.quiet,.int .i64 R.rept] 26 #[.slice cA P.cells.length cc,.slice aA P.hand0.length ac,.slice bA P.hand1.length bc,.int .i64 P.turn,.int .i64 P.quiet] 29
 replace hR:=hR.ext xa
 replace hP:=hP.ext xa
 have X:=xa
 clear xa
 generalize ((w.alloc (.cells #[.string R.name,.int .i64 R.width,.int .i64 R.height,.slice pA R.pieces.length pc,.slice sA R.start.length sc,.bool R.falls,.bool R.keeps,.slice eA R.ends.length ec,.int .i64 R.blocked,.int .i64 R.quiet,.int .i64 R.rept] 26)).alloc (.cells #[.slice cA P.cells.length cc,.slice aA P.hand0.length ac,.slice bA P.hand1.length bc,.int .i64 P.turn,.int .i64 P.quiet] 29))=w2 at *
 generalize w.heap.size + 1=BP at *
 generalize w.heap.size=BR at *
 refine (bthree_any _).mono ?_
 rintro e w3 ⟨v1,rfl,h1,x⟩
 replace hR:=hR.ext x
 replace hP:=hP.ext x
 replace kR:=kR.ext x
 replace kP:=kP.ext x
 replace X:=ext_trans X x
 clear x
 go_wp2_with fail
 refine (bnear_any _).mono ?_
 rintro e w4 ⟨v2,rfl,h2,x⟩
 replace hR:=hR.ext x
 replace hP:=hP.ext x
 replace kR:=kR.ext x
 replace kP:=kP.ext x
 replace h1:=h1.ext x
 replace X:=ext_trans X x
 clear x
 replace h2:=h2.at_
 go_wp2_with fail
 refine (HSS.out _ _ _ h1 h2).mono ?_
 rintro e w5 (⟨O1,rfl,q1,x⟩ | ⟨pv,rfl,hs⟩)
 rotate_left
 ·have HS:=hide hs
  clear hs
  go_wp2
  exact ⟨rfl,.inr HS.out⟩
 replace hR:=hR.ext x
 replace hP:=hP.ext x
 replace kR:=kR.ext x
 replace kP:=kP.ext x
 replace h1:=h1.ext x
 replace h2:=h2.ext x
 replace X:=ext_trans X x
 clear x
 clear h1 h2
 clear HSS
 go_wp2_with fail
 clear q1
 refine (bscored_any _).mono ?_
 rintro e w6 ⟨rfl,x⟩
 replace hR:=hR.ext x
 replace hP:=hP.ext x
 replace kR:=kR.ext x
 replace kP:=kP.ext x
 replace X:=ext_trans X x
 clear x
 go_wp2_with fail
 refine (bthree_any _).mono ?_
 rintro e w7 ⟨v3,rfl,h3,x⟩
 replace hR:=hR.ext x
 replace hP:=hP.ext x
 replace kR:=kR.ext x
 replace kP:=kP.ext x
 replace X:=ext_trans X x
 clear x
 go_wp2_with fail
 refine (bnear_any _).mono ?_
 rintro e w8 ⟨v4,rfl,h4,x⟩
 replace hR:=hR.ext x
 replace hP:=hP.ext x
 replace kR:=kR.ext x
 replace kP:=kP.ext x
 replace h3:=h3.ext x
 replace X:=ext_trans X x
 clear x
 replace h4:=h4.at_
 go_wp2_with fail
 refine (HCS.out _ _ _ h3 h4).mono ?_
 rintro e w9 (⟨rfl,x⟩ | ⟨pv,rfl,hs⟩)
 rotate_left
 ·have HS:=hide hs
  clear hs
  go_wp2
  exact ⟨rfl,.inr HS.out⟩
 replace hR:=hR.ext x
 replace hP:=hP.ext x
 replace kR:=kR.ext x
 replace kP:=kP.ext x
 replace h3:=h3.ext x
 replace h4:=h4.ext x
 replace X:=ext_trans X x
 clear x
 clear h3 h4
 clear HCS
 go_wp2_with fail
 refine (bthree_any _).mono ?_
 rintro e w10 ⟨v5,rfl,h5,x⟩
 replace hR:=hR.ext x
 replace hP:=hP.ext x
 replace kR:=kR.ext x
 replace kP:=kP.ext x
 replace X:=ext_trans X x
 clear x
 go_wp2_with fail
 refine (bnear_any _).mono ?_
 rintro e w11 ⟨v6,rfl,h6,x⟩
 replace hR:=hR.ext x
 replace hP:=hP.ext x
 replace kR:=kR.ext x
 replace kP:=kP.ext x
 replace h5:=h5.ext x
 replace X:=ext_trans X x
 clear x
 replace h6:=h6.at_
 go_wp2_with fail
 refine (HD1.out _ _ _ h5 h6).mono ?_
 rintro e w12 ⟨v7,rfl,own7,x⟩
 replace hR:=hR.ext x
 replace hP:=hP.ext x
 replace kR:=kR.ext x
 replace kP:=kP.ext x
 replace h5:=h5.ext x
 replace h6:=h6.ext x
 replace X:=ext_trans X x
 clear x
 obtain ⟨A7,c7,rfl,-⟩:=own7
 rw [near_div.2.1]
 clear h5 h6
 clear HD1
 go_wp2_with fail
 refine (bthree_any _).mono ?_
 rintro e w13 ⟨v8,rfl,h8,x⟩
 replace hR:=hR.ext x
 replace hP:=hP.ext x
 replace kR:=kR.ext x
 replace kP:=kP.ext x
 replace X:=ext_trans X x
 clear x
 go_wp2_with fail
 refine (bnear_any _).mono ?_
 rintro e w14 ⟨v9,rfl,h9,x⟩
 replace hR:=hR.ext x
 replace hP:=hP.ext x
 replace kR:=kR.ext x
 replace kP:=kP.ext x
 replace h8:=h8.ext x
 replace X:=ext_trans X x
 clear x
 replace h9:=h9.at_
 go_wp2_with fail
 refine (bput_any 2 _).mono ?_
 rintro e w15 ⟨rfl,x⟩
 replace hR:=hR.ext x
 replace hP:=hP.ext x
 replace kR:=kR.ext x
 replace kP:=kP.ext x
 replace h8:=h8.ext x
 replace h9:=h9.ext x
 replace X:=ext_trans X x
 clear x
 go_wp2_with fail
 refine (HA1.out _ _ _ h8 h9).mono ?_
 rintro e w16 ⟨va,rfl,ha,x⟩
 replace hR:=hR.ext x
 replace hP:=hP.ext x
 replace kR:=kR.ext x
 replace kP:=kP.ext x
 replace h8:=h8.ext x
 replace h9:=h9.ext x
 replace X:=ext_trans X x
 clear x
 replace ha:=ha.at_
 have hav:=ha
 obtain ⟨cA9,cc9,aA9,ac9,bA9,bc9,rfl,-⟩:=hav
 clear ha
 clear h8 h9
 clear HA1
 have t9 : ((Q9.cells.length : Int) != 9)=false:=by rw [H9.out]; rfl
 obtain ⟨xa,kQ⟩:=blks1 w16 #[.slice cA9 Q9.cells.length cc9,.slice aA9 Q9.hand0.length ac9,.slice bA9 Q9.hand1.length bc9,.int .i64 Q9.turn,.int .i64 Q9.quiet] 29
 replace hR:=hR.ext xa
 replace hP:=hP.ext xa
 replace kR:=kR.ext xa
 replace kP:=kP.ext xa
 replace X:=ext_trans X xa
 clear xa
 go_upto_region 11 with fail
 generalize (w16.alloc (.cells #[.slice cA9 Q9.cells.length cc9,.slice aA9 Q9.hand0.length ac9,.slice bA9 Q9.hand1.length bc9,.int .i64 Q9.turn,.int .i64 Q9.quiet] 29))=w17 at *
 generalize w16.heap.size=BQ at *
 have fQ:=kQ.cell
 have fR:=kR.cell
 have fP:=kP.cell
 go_wp2_with fail
 clear fQ
 clear kQ
 refine (HHV.out _ _ _ hR hP).mono ?_
 rintro e w18 ⟨rfl,x⟩
 replace hR:=hR.ext x
 replace hP:=hP.ext x
 replace kR:=kR.ext x
 replace kP:=kP.ext x
 replace X:=ext_trans X x
 replace fR:=kR.cell
 replace fP:=kP.cell
 clear x
 clear HHV t9 H9
 go_wp2_with fail
 refine (HSA.out _ _ _ hR hP).mono ?_
 rintro e w19 (⟨O1,ko1,rfl,x⟩ | ⟨pv,rfl,hs⟩)
 rotate_left
 ·have HS:=hide hs
  clear hs
  go_wp2
  exact ⟨rfl,.inr HS.out⟩
 replace hR:=hR.ext x
 replace hP:=hP.ext x
 replace kR:=kR.ext x
 replace kP:=kP.ext x
 replace X:=ext_trans X x
 replace fR:=kR.cell
 replace fP:=kP.cell
 clear x
 clear HSA
 go_wp2_with fail
 refine (HCB.out _ _ _ hR hP).mono ?_
 rintro e w20 (⟨rfl,x⟩ | ⟨pv,rfl,hs⟩)
 rotate_left
 ·have HS:=hide hs
  clear hs
  go_wp2
  exact ⟨rfl,.inr HS.out⟩
 replace hR:=hR.ext x
 replace hP:=hP.ext x
 replace kR:=kR.ext x
 replace kP:=kP.ext x
 replace ko1:=ko1.ext x
 replace X:=ext_trans X x
 replace fR:=kR.cell
 replace fP:=kP.cell
 clear x
 clear HCB
 go_wp2_with fail
 refine (HD.out _ _ _ hR hP).mono ?_
 rintro e w21 ⟨v7,rfl,own7,x⟩
 replace hR:=hR.ext x
 replace hP:=hP.ext x
 replace kR:=kR.ext x
 replace kP:=kP.ext x
 replace ko1:=ko1.ext x
 replace X:=ext_trans X x
 replace fR:=kR.cell
 replace fP:=kP.cell
 clear x
 obtain ⟨A7,c7,rfl,hrow⟩:=own7
 have hce:=(own_cells hrow).1
 clear hrow
 clear fR fP
 obtain ⟨xa,kE⟩:=blks1 w21 #[.int .i64 0,.int .i64 0] 32
 replace hR:=hR.ext xa
 replace hP:=hP.ext xa
 replace kR:=kR.ext xa
 replace kP:=kP.ext xa
 replace ko1:=ko1.ext xa
 replace hce:=hce.ext xa
 replace X:=ext_trans X xa
 clear xa
 go_wp2_with fail
 generalize (w21.alloc (.cells #[.int .i64 0,.int .i64 0] 32))=w22 at *
 generalize w21.heap.size=BE at *
 refine (fine_ext (bfine_any (some ⟨BE,0,none⟩) 2 2 [0,0] _ rfl (by omega) (blk_ints kE))).mono ?_
 rintro e w23 ⟨rfl,x⟩
 replace hR:=hR.ext x
 replace hP:=hP.ext x
 replace kR:=kR.ext x
 replace kP:=kP.ext x
 replace ko1:=ko1.ext x
 replace hce:=hce.ext x
 replace kE:=kE.ext x
 replace X:=ext_trans X x
 clear x
 rw [show allZero [0,0]=true from rfl]
 clear kE
 have HCE:=hide hce
 have KO:=hide ko1
 have HR:=hide hR
 have HP:=hide hP
 have KR:=hide kR
 have KP:=hide kP
 have hll:=HLL.out
 clear hce ko1 hR hP kR kP X HD
 go_wp2
 go_loopw [20,144] (fun s i wr => ∃ k : Nat,k≤ps.length∧i=.int .i64 k∧s=.int .i64 (N - cntS ps k)∧Ext w23 wr) (fun _ i _ => ps.length - (intOf i).toNat)
 case atStart => exact ⟨0,Nat.zero_le _,rfl,by rw [show cntS ps 0=0 from rfl]; simp,Below.refl _ _⟩
 case round =>
  obtain ⟨k,hk,rfl,rfl,X⟩:=hrel
  by_cases hlt : k < ps.length
  ·obtain ⟨p,hp⟩ : ∃ p,ps[k]? = some p:=⟨ps[k],List.getElem?_eq_getElem _⟩
   obtain ⟨bb,o,rfl,n0,n1,n2,n3⟩:=parts_get (HCE.out.ext X) hp
   have HCS:=hide (cntS_succ hp)
   obtain ⟨hpm,hpc,s0,s1⟩:=HPP.out k p hp
   have HAF:=hide (HAA.out p.1 hpm)
   have HMS:=hide (HSM.out p.1 hpm)
   have b1:=HCB2.out (k + 1)
   rw [HCS.out] at b1
   have b0:=HCB2.out k
   have b2:=HNB.out
   have b3:=HSU.out
   have hw : IntKind.i64.wrap (N - cntS ps k - p.2)=N - cntS ps k - p.2:=by rw [IntKind.wrap_i64]; omega
   have ko1:=KO.out.ext X
   have q1 : wr.cell? ⟨O1,k,none⟩=some (.int .i64 (c k)):=(ko1.cell k).trans ((outRow_get c hlt).trans (by rw [if_pos hlt]))
   rw [hpc] at q1
   have Q1:=hide q1
   have HLT:=hide hlt
   clear ko1 q1 hpm hpc hp b0 b1 b2 b3
   generalize makeM R P p.1=Q at *
   generalize ofM R (D - 1).toNat Q=s9 at *
   have hwn : IntKind.i64.wrap (-s9)=-s9:=by rw [IntKind.wrap_i64]; omega
   have HNE:=hide (fun W => Nearer_any (-s9) W (by omega) (by omega))
   clear s0 s1
   generalize cntS ps k=s at *
   have hR:=HR.out.ext X
   have hP:=HP.out.ext X
   have kR:=KR.out.ext X
   have kP:=KP.out.ext X
   have XW:=hide X
   replace X:=Below.refl wr.heap.size wr
   obtain ⟨xa,k5⟩:=blks1 wr #[.int .i64 p.1.src,.int .i64 p.1.dst,.int .i64 p.1.piece,.int .i64 p.2] 56
   replace hR:=hR.ext xa
   replace hP:=hP.ext xa
   replace kR:=kR.ext xa
   replace kP:=kP.ext xa
   replace X:=ext_trans X xa
   clear xa
   go_upto_region 26 with fail
   generalize (wr.alloc (.cells #[.int .i64 p.1.src,.int .i64 p.1.dst,.int .i64 p.1.piece,.int .i64 p.2] 56))=y2 at *
   generalize wr.heap.size=B5 at *
   clear n0 n1 n2 n3
   have fR:=kR.cell
   have fP:=kP.cell
   have f5:=k5.cell
   go_wp2_with fail
   refine (HAF.out _ _ _ hR hP).mono ?_
   rintro e y3 ⟨v6,rfl,h6,x⟩
   replace hR:=hR.ext x
   replace hP:=hP.ext x
   replace kR:=kR.ext x
   replace kP:=kP.ext x
   replace k5:=k5.ext x
   replace X:=ext_trans X x
   replace fR:=kR.cell
   replace fP:=kP.cell
   replace f5:=k5.cell
   clear x
   replace h6:=h6.at_
   have h6v:=h6
   obtain ⟨cA6,cc6,aA6,ac6,bA6,bc6,rfl,-⟩:=h6v
   clear fP f5
   clear HAF
   obtain ⟨xa,k6⟩:=blks1 y3 #[.slice cA6 Q.cells.length cc6,.slice aA6 Q.hand0.length ac6,.slice bA6 Q.hand1.length bc6,.int .i64 Q.turn,.int .i64 Q.quiet] 29
   replace hR:=hR.ext xa
   replace hP:=hP.ext xa
   replace kR:=kR.ext xa
   replace kP:=kP.ext xa
   replace k5:=k5.ext xa
   replace h6:=h6.ext xa
   replace X:=ext_trans X xa
   have fR':=kR.cell
   clear xa
   go_wp2_with fail
   generalize (y3.alloc (.cells #[.slice cA6 Q.cells.length cc6,.slice aA6 Q.hand0.length ac6,.slice bA6 Q.hand1.length bc6,.int .i64 Q.turn,.int .i64 Q.quiet] 29))=y4 at *
   generalize y3.heap.size=B6 at *
   replace fR:=kR.cell
   clear fR'
   have f6:=k6.cell
   refine (HMS.out _ _ _ hR h6).mono ?_
   rintro e y5 ⟨rfl,x⟩
   replace hR:=hR.ext x
   replace hP:=hP.ext x
   replace kR:=kR.ext x
   replace kP:=kP.ext x
   replace k5:=k5.ext x
   replace h6:=h6.ext x
   replace k6:=k6.ext x
   replace X:=ext_trans X x
   replace fR:=kR.cell
   replace f6:=k6.cell
   clear x
   clear fR f6
   clear h6 k6
   clear HMS
   go_upto_region 28 with fail
   have KC : Hid (y5.cell? ⟨O1,k,none⟩=some (.int .i64 (nearM (-s9)))):=hide (X.cell Q1.out)
   have X2:=hide (ext_trans XW.out X)
   have K5:=hide k5
   clear X XW Q1 hR hP kR kP k5
   have keepK:=hide (fun W (h : Ext y5 W) => (show (fun W => W.cell? ⟨O1,k,none⟩=some (.int .i64 (nearM (-s9)))∧Ext y5 W) W from ⟨h.cell KC.out,h⟩))
   have yy : Ext y5 y5.drew:=Below.drew (Below.refl _ _)
   refine region_K (fun W => W.cell? ⟨O1,k,none⟩=some (.int .i64 (nearM (-s9)))∧Ext y5 W) (fun _ => True) [] (by kernel_rfl) ?_
   have hT0:=keepK.out _ yy
   refine tk 0 hT0 (fun _=>trivial) ?_
   refine tk 1 hT0 (fun _=>trivial) ?_
   refine anyK_on1 2 (by kernel_rfl) ?_
   refine tw 2 (fun K hK=>?_)
   go_simp
   have HKE:=hide (Blk.new y5.drew 32 #[.int .i64 0,.int .i64 0])
   replace yy:=ext_alloc yy (.cells #[.int .i64 0,.int .i64 0] 32)
   have hT1:=keepK.out _ yy
   refine hK.out _ _ hT1 (fun _ => trivial) ?_
   clear hK K
   try simp only [Act.put,List.setIfInBounds_toArray,List.set_cons_zero,List.set_cons_succ]
   refine anyK_on1 3 (by kernel_rfl) ?_
   refine tw 3 (fun K hK=>?_)
   go_simp
   refine (bfine_ok2 HKE.out).mono ?_
   rintro e we ⟨rfl,xx⟩
   try go_wp2_with fail
   replace yy:=ext_trans yy xx
   have hT2:=keepK.out _ yy
   refine hK.out _ _ hT2 (fun _ => trivial) ?_
   clear hK K
   try simp only [Act.put,List.setIfInBounds_toArray,List.set_cons_zero,List.set_cons_succ]
   refine tk 4 hT2 (fun _=>trivial) ?_
   refine tk 5 hT2 (fun _=>trivial) ?_
   refine tk 6 hT2 (fun _=>trivial) ?_
   refine tk 7 hT2 (fun _=>trivial) ?_
   refine tk 8 hT2 (fun _=>trivial) ?_
   refine tl 9 hT2 (fun _=>trivial) (v:=?_) (fun W hW=>?_) ?_
   rotate_left
   ·obtain ⟨z0,z1⟩:=hW;go_simp;first|done|with_reducible rfl
   refine tk 10 hT2 (fun _=>trivial) ?_
   refine tk 11 hT2 (fun _=>trivial) ?_
   refine anyK_on1 12 (by kernel_rfl) ?_
   refine tw 12 (fun K hK=>?_)
   go_simp
   refine (HNE.out _).mono ?_
   rintro e wn ⟨rfl,xx⟩
   try go_wp2_with fail
   replace yy:=ext_trans yy xx
   have hT3:=keepK.out _ yy
   refine hK.out _ _ hT3 (fun _ => trivial) ?_
   clear hK K
   try simp only [Act.put,List.setIfInBounds_toArray,List.set_cons_zero,List.set_cons_succ]
   refine tk 13 hT3 (fun _=>trivial) ?_
   refine tk 14 hT3 (fun _=>trivial) ?_
   refine anyK_done (by kernel_rfl) ?_ _
   clear keepK hT0 hT1 hT2 hT3
   have f5:=(K5.out.ext yy).cell
   have X5:=hide (ext_trans X2.out yy)
   clear yy xx X2 K5 KC HNE HKE
   have hlt:=HLT.out
   go_wp2
   go_roundw
   case rel => exact ⟨k + 1,by omega,by go_num,by rw [HCS.out]; congr 1; omega,X5.out⟩
   case measure => simp [intOf]; omega
  ·obtain rfl : k=ps.length:=by omega
   have HSN : cntS ps ps.length=N:=by unfold cntS; rw [List.take_length]; exact HSU.out
   rw [HSN,Int.sub_self]
   clear HSN X hk hlt hll
   go_wp2
   all_goals go_ret
   all_goals exact .inl (by first | rfl | simp)
theorem topWorkers_law (v : Value) (R : RulesM) (u : Value) (P : PosM) (D b : Int) (w : World) (hR : RulesAt w v R) (hP : PosAt w u P) :
  Calls Crz.prog 4 #[v,u,.int .i64 D,.int .i64 b] w LawR:=by
 obtain ⟨K,hK⟩ : ∃ K,(wrap64 (b.tmod 8 + 8)).tmod 8=K:=⟨_,rfl⟩
 obtain ⟨k0,k1⟩:=mod_bd 8 (by omega) (by omega) b K hK
 cases hh : bheavyB R P D
 ·by_cases he : crowdE R P D (K + 1)=0
  ·exact topWorkers_yes R P v u D b w hR hP K hK k0 k1 hh he
  ·exact topWorkers_no R P v u D b w hR hP K hK k0 k1 hh he
 ·exact topWorkers_heavy R P v u D b w hR hP K hK k0 k1 hh
end Go.Proofs.YtdoibgmmijhlfaaGreat
