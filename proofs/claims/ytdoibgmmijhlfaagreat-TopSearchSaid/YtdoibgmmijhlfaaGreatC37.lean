/- CrE CrC CrW CrV CrB -/
import Derived.Test.YtdoibgmmijhlfaaGreatC35
import Derived.Test.YtdoibgmmijhlfaaGreatC36
namespace Go.Proofs.YtdoibgmmijhlfaaGreat
open Go.ChangeShapes Go.WideShapes Go.ChangeAt Go.RowKit Go.Shelf
set_option linter.unusedVariables false
set_option linter.unusedSimpArgs false
abbrev markV(n nw:Int)(f:Value):Value:=.iface 85 (.func (.func 37) #[] #[.int .i64 n,.int .i64 nw,f])
def outRow(c:Nat→Int)(n k:Nat):Array Value:=((List.range n).map fun i=>Value.int .i64 (if i<k then c i else 0)).toArray
theorem outRow_set(c:Nat→Int){n k:Nat}(hk:k<n):(outRow c n k).setIfInBounds k (.int .i64 (c k))=outRow c n (k+1):=by
 apply Array.ext_getElem?
 intro i
 by_cases hi:k=i
 ·subst hi
  rw [Array.getElem?_setIfInBounds_self]
  simp [outRow,hk]
 ·rw [Array.getElem?_setIfInBounds_ne hi]
  by_cases hn:i<n
  ·simp only [outRow,List.getElem?_toArray,List.getElem?_map,List.getElem?_range hn,Option.map_some]
   have:(i<k)=(i<k+1):=by apply propext;omega
   simp only [this]
  ·simp [outRow,hn]
theorem outRow_get(c:Nat→Int){n k i:Nat}(hi:i<n):(outRow c n k)[i]? = some (.int .i64 (if i<k then c i else 0)):=by
 simp [outRow,hi]
set_option maxHeartbeats 4000000 in
set_option maxRecDepth 100000 in
theorem each_scores(n:Nat)(nw:Int)(u1 u2 u3 u4 u5:Value)(O:Nat)(c:Nat→Int)(w:World)(hn:n≤9223372036854775806)
  (HF:∀ (i:Nat) W,i<n→Gr O w W→Calls Crz.prog 42 #[.int .i64 i,u1,u2,u3,u4,u5] W fun e w'=>e=.returned (.tuple #[.pointer (some ⟨O,i,none⟩),.int .i64 (c i)])∧Ext W w')
  (hO:Blk w O 3 (outRow c n 0)) (hc:∀ i,i<n→IntKind.i64.wrap (c i)=c i) :
  Calls Crz.prog 37 #[.int .i64 n,.int .i64 nw,.func (.func 42) #[] #[u1,u2,u3,u4,u5]] w
   fun e w'=>(e=.returned (.tuple #[])∧Blk w' O 3 (outRow c n n)∧Gr O w w')∨(e=.panicked [{ v:=markV n nw (.func (.func 42) #[] #[u1,u2,u3,u4,u5]),recovered:=false }]∧w.heap=w'.heap∧Gr O w w'):=by
 have HFF:=hide HF
 have HO:=hide hO
 have HC:=hide hc
 clear HF hO hc
 refine calls_of_wp Crz.func37 (c:=?c) ?hb ?_
 case hb =>
  simp only [Sm.eachS,Sm.op1]
  rfl
 simp only [Crz.ntmps37,List.size_toArray,List.length_cons,List.length_nil,Nat.reduceAdd,Nat.reduceSub,Array.replicate_succ,Array.replicate_zero,List.push_toArray,List.append_toArray,List.nil_append,List.cons_append]
 go_wp2_with fail
 refine region_K (fun W=>W=w.drew) (fun _=>True) [] (by kernel_rfl) ?_
 refine anyK_on2 0 1 (by kernel_rfl) ?_ ?_
 ·skip
  refine anyK_one 0 (o:=?aa) ?haa ?kaa
  case haa=>rfl
  case kaa =>
  intro K hK
  go_simp
  refine hK.out _ _ rfl (fun _=>trivial) ?_
  clear hK K
  try simp only [Act.put,List.setIfInBounds_toArray,List.set_cons_zero,List.set_cons_succ]
  refine anyK_on1 1 (by kernel_rfl) ?_
  refine anyK_one 1 (o:=?ab) ?hab ?kab
  case hab=>rfl
  case kab =>
  intro K hK
  go_simp
  refine hK.out _ _ rfl (fun _=>trivial) ?_
  clear hK K
  try simp only [Act.put,List.setIfInBounds_toArray,List.set_cons_zero,List.set_cons_succ]
  refine anyK_done (by kernel_rfl) ?_ _
  have HG:Hid (Gr O w w.drew):=hide ⟨rfl,rfl,rfl,Nat.le_refl _,fun _ _ _=>rfl⟩
  have HO1:=hide (Blk.drew HO.out)
  clear HO
  generalize w.drew=w1 at *
  go_wp2
  go_loopw [6] (fun i wr=>∃ k:Nat,k≤n∧i=.int .i64 k∧Blk wr O 3 (outRow c n k)∧Gr O w wr) (fun i _=>n-(intOf i).toNat)
  case atStart=>exact⟨0,Nat.zero_le _,rfl,HO1.out,HG.out⟩
  case round =>
   obtain⟨k,hk,rfl,kB,gr⟩:=hrel
   by_cases hlt:k<n
   ·have HF1:=hide (HFF.out k wr hlt gr)
    have hck:=HC.out k hlt
    have KB:=hide kB
    have GR:=hide gr
    clear kB gr
    go_wp2_with (go_at_call 42;refine HF1.out.mono ?_;rintro e w3 ⟨rfl,x3⟩;have KB3:=hide (KB.out.ext x3);have GR3:=hide (GR.out.ext x3);have f1:=(KB3.out.cell k).trans (outRow_get c hlt);have f2:=KB3.out.frozen;simp only [Nat.lt_irrefl,if_false] at f1)
    exact⟨⟨k+1,by omega,by go_num,qB KB3.out (outRow_set c hlt),GR3.out.set k _⟩,by simp [intOf];omega⟩
   ·obtain rfl:k=n:=by omega
    go_wp2
    refine bodyPost_end (v:=.tuple #[]) ?_ rfl (.inl ⟨rfl,kB,gr⟩)
    simp [results,Crz.results37,go_sem]
 ·skip
  refine anyK_one 1 (o:=?ba) ?hba ?kba
  case hba=>rfl
  case kba =>
  intro K hK
  go_simp
  refine hK.out _ _ rfl (fun _=>trivial) ?_
  clear hK K
  try simp only [Act.put,List.setIfInBounds_toArray,List.set_cons_zero,List.set_cons_succ]
  refine anyK_on1 0 (by kernel_rfl) ?_
  refine anyK_one 0 (o:=?bb) ?hbb ?kbb
  case hbb=>rfl
  case kbb =>
  intro K hK
  go_simp
  refine hK.out _ _ rfl (fun _=>trivial) ?_
  clear hK K
  try simp only [Act.put,List.setIfInBounds_toArray,List.set_cons_zero,List.set_cons_succ]
  refine anyK_done (by kernel_rfl) ?_ _
  go_wp2
  exact⟨rfl,.inr ⟨rfl,rfl,rfl,rfl,rfl,Nat.le_refl _,fun _ _ _=>rfl⟩⟩
noncomputable def restE:Go.Code:=match Sm.eachS.body with | some (.seq _ c)=>c | _=>.skip
set_option maxHeartbeats 4000000 in
set_option maxRecDepth 100000 in
theorem eachRest_scores(n:Nat)(nw:Int)(u1 u2 u3 u4 u5:Value)(O:Nat)(c:Nat→Int)(w:World)(hn:n≤9223372036854775806)
  (HF:∀ (i:Nat) W,i<n→Gr O w W→Calls Crz.prog 42 #[.int .i64 i,u1,u2,u3,u4,u5] W fun e w'=>e=.returned (.tuple #[.pointer (some ⟨O,i,none⟩),.int .i64 (c i)])∧Ext W w')
  (hO:Blk w O 3 (outRow c n 0)) (hc:∀ i,i<n→IntKind.i64.wrap (c i)=c i) :
  restE.wp Crz.prog (bodyPost Crz.prog Sm.eachS fun e w'=>e=.returned (.tuple #[])∧Blk w' O 3 (outRow c n n)∧Gr O w w') ⟨#[.int .i64 n,.int .i64 nw,.func (.func 42) #[] #[u1,u2,u3,u4,u5],.bool false,undef,undef,undef,undef,undef,undef,undef,undef,undef,undef,undef],[]⟩ w:=by
 have HFF:=hide HF
 have HO1:=hide hO
 have HC:=hide hc
 have HG:Hid (Gr O w w):=hide ⟨rfl,rfl,rfl,Nat.le_refl _,fun _ _ _=>rfl⟩
 clear HF hO hc
 simp only [restE,Sm.eachS,Sm.op1]
 go_wp2
 go_loopw [6] (fun i wr=>∃ k:Nat,k≤n∧i=.int .i64 k∧Blk wr O 3 (outRow c n k)∧Gr O w wr) (fun i _=>n-(intOf i).toNat)
 case atStart=>exact⟨0,Nat.zero_le _,rfl,HO1.out,HG.out⟩
 case round =>
  obtain⟨k,hk,rfl,kB,gr⟩:=hrel
  by_cases hlt:k<n
  ·have HF1:=hide (HFF.out k wr hlt gr)
   have hck:=HC.out k hlt
   have KB:=hide kB
   have GR:=hide gr
   clear kB gr
   go_wp2_with (go_at_call 42;refine HF1.out.mono ?_;rintro e w3 ⟨rfl,x3⟩;have KB3:=hide (KB.out.ext x3);have GR3:=hide (GR.out.ext x3);have f1:=(KB3.out.cell k).trans (outRow_get c hlt);have f2:=KB3.out.frozen;simp only [Nat.lt_irrefl,if_false] at f1)
   exact⟨⟨k+1,by omega,by go_num,qB KB3.out (outRow_set c hlt),GR3.out.set k _⟩,by simp [intOf];omega⟩
  ·obtain rfl:k=n:=by omega
   go_wp2
   refine bodyPost_end (v:=.tuple #[]) ?_ rfl ⟨rfl,kB,gr⟩
   simp [results,Crz.results37,go_sem]
set_option maxHeartbeats 4000000 in
set_option maxRecDepth 100000 in
theorem eachRest_count(n:Nat)(nw:Int)(u1 u2 u3 u4 u5:Value)(O:Nat)(s:Nat→Int)(c:Nat→Int)(w:World)(hn:n≤9223372036854775806)
  (HF:∀ (i:Nat) W,i<n→Gr O w W→Calls Crz.prog 38 #[.int .i64 i,u1,u2,u3,u4,u5] W fun e w'=>e=.returned (.tuple #[.pointer (some ⟨O,0,none⟩),.int .i64 (c i)])∧Ext W w')
  (hO:Blk w O 81 #[.int .i64 (s 0)]) (hc:∀ i,i<n→IntKind.i64.wrap (s i+c i)=s (i+1)) :
  restE.wp Crz.prog (bodyPost Crz.prog Sm.eachS fun e w'=>e=.returned (.tuple #[])∧Blk w' O 81 #[.int .i64 (s n)]∧Gr O w w') ⟨#[.int .i64 n,.int .i64 nw,.func (.func 38) #[] #[u1,u2,u3,u4,u5],.bool false,undef,undef,undef,undef,undef,undef,undef,undef,undef,undef,undef],[]⟩ w:=by
 have HFF:=hide HF
 have HO1:=hide hO
 have HC:=hide hc
 have HG:Hid (Gr O w w):=hide ⟨rfl,rfl,rfl,Nat.le_refl _,fun _ _ _=>rfl⟩
 clear HF hO hc
 simp only [restE,Sm.eachS,Sm.op1]
 go_wp2
 go_loopw [6] (fun i wr=>∃ k:Nat,k≤n∧i=.int .i64 k∧Blk wr O 81 #[.int .i64 (s k)]∧Gr O w wr) (fun i _=>n-(intOf i).toNat)
 case atStart=>exact⟨0,Nat.zero_le _,rfl,HO1.out,HG.out⟩
 case round =>
  obtain⟨k,hk,rfl,kB,gr⟩:=hrel
  by_cases hlt:k<n
  ·have HF1:=hide (HFF.out k wr hlt gr)
   have hck:=HC.out k hlt
   have KB:=hide kB
   have GR:=hide gr
   clear kB gr
   go_wp2_with (go_at_call 38;refine HF1.out.mono ?_;rintro e w3 ⟨rfl,x3⟩;have KB3:=hide (KB.out.ext x3);have GR3:=hide (GR.out.ext x3);have f1:=KB3.out.cell 0;have f2:=KB3.out.frozen)
   exact⟨⟨k+1,by omega,by go_num,qB (i:=0) KB3.out rfl,GR3.out.set 0 _⟩,by simp [intOf];omega⟩
  ·obtain rfl:k=n:=by omega
   go_wp2
   refine bodyPost_end (v:=.tuple #[]) ?_ rfl ⟨rfl,kB,gr⟩
   simp [results,Crz.results37,go_sem]
def crowdE(R:RM)(P:PosM)(D W:Int):Int:=if perftE R P D≠0 then perftE R P D else if D=0∨W<1∨8<W then 1 else if rM R P≠0 then 14 else 0
set_option maxHeartbeats 4000000 in
set_option maxRecDepth 100000 in
theorem crowdCheck_any(R:RM)(P:PosM)(v u:Value)(D W:Int)(w:World)(hR:RA w v R)(hP:PA w u P) :
    Calls Crz.prog 36 #[v,u,.int .i64 D,.int .i64 W] w fun e w'=>e=.returned (.int .i64 (crowdE R P D W))∧Ext w w':=by
  have HT:=hide (fun W (hW:Ext w W)=>PfTree_any R P v u D W (hR.ext hW) (hP.ext hW))
  have HRF:=hide (fun W (hW:Ext w W)=>And.intro (hR.ext hW) (hP.ext hW))
  obtain⟨pA,pc,sA,sc,eA,ec,rfl,-⟩:=hR
  obtain⟨cA,cc,aA,ac,bA,bc,rfl,-⟩:=hP
  obtain⟨x1,k1,k2⟩:=blks2 w #[.string R.name,.int .i64 R.width,.int .i64 R.height,.slice pA R.pieces.length pc,.slice sA R.start.length sc,.bool R.falls,.bool R.keeps,.slice eA R.ends.length ec,.int .i64 R.blocked,.int .i64 R.quiet,.int .i64 R.rept] 26 #[.slice cA P.cells.length cc,.slice aA P.hand0.length ac,.slice bA P.hand1.length bc,.int .i64 P.turn,.int .i64 P.quiet] 29
  have HX:=hide x1
  have K1:=hide k1
  have K2:=hide k2
  clear x1 k1 k2
  have f1:=K1.out.cell
  have f2:=K2.out.cell
  by_cases hz:perftE R P D=0
  · obtain⟨hV,hS,d0,d1,-⟩:=perft_zero hz
    rw [hz] at HT
    have HRS:=hide (fun W (hW:Ext w W)=>Result_any R P _ _ W (HRF.out W hW).1 (HRF.out W hW).2 hV hS)
    have hE:crowdE R P D W=if D=0∨W<1∨8<W then 1 else if rM R P≠0 then 14 else 0:=by unfold crowdE;rw [if_neg (by simpa using hz)]
    rw [hE]
    clear hE hz hV hS d0 d1 HRF
    generalize perftN R P D=N at *
    generalize rM R P=y at *
    obtain⟨bD,hbD⟩:∃ b,b=(D == 0):=⟨_,rfl⟩
    obtain⟨b1,hb1⟩:∃ b,b=decide (W<1):=⟨_,rfl⟩
    obtain⟨b8,hb8⟩:∃ b,b=decide (8<W):=⟨_,rfl⟩
    have t1:=hbD.symm
    have t2:=hb1.symm
    have t3:=hb8.symm
    have HC:Hid ((D=0∨W<1∨8<W)↔(bD || b1 || b8)=true):=hide (by rw [hbD,hb1,hb8];simp [or_assoc])
    clear hbD hb1 hb8
    by_cases ha:D=0∨W<1∨8<W
    · rw [if_pos ha]
      have hc:=HC.out.1 ha
      clear ha
      go_enter Crz.func36,Tryz.ntmps36
      go_wp2_with fail
      refine(HT.out _ HX.out).mono ?_
      rintro e w2 ⟨rfl,x2⟩
      have X2:=hide (qT HX.out x2)
      clear f1 f2 x2
      revert t1 t2 t3 hc
      cases bD <;> cases b1 <;> cases b8 <;> intro t1 t2 t3 hc <;> first
        | (exact absurd hc (by decide))
        | (go_wp2
           go_ret
           exact⟨rfl,X2.out⟩)
    · rw [if_neg ha]
      have hc:(bD || b1 || b8)=false:=by
        cases h:(bD || b1 || b8) with
        | false=>rfl
        | true=>exact absurd (HC.out.2 h) ha
      simp only [Bool.or_eq_false_iff] at hc
      obtain⟨⟨rfl,rfl⟩,rfl⟩:=hc
      clear ha
      obtain⟨q,hq⟩:∃ q:Int,q=if y≠0 then 14 else 0:=⟨_,rfl⟩
      rw [← hq]
      have HQ:=hide hq
      clear hq
      go_enter Crz.func36,Tryz.ntmps36
      go_wp2_with fail
      refine(HT.out _ HX.out).mono ?_
      rintro e w2 ⟨rfl,x2⟩
      have X2:=hide (qT HX.out x2)
      have g1:=(K1.out.ext x2).cell
      have g2:=(K2.out.ext x2).cell
      clear f1 f2 x2
      go_wp2_with fail
      refine(HRS.out _ X2.out).mono ?_
      rintro e w3 ⟨rfl,x3⟩
      have X3:=hide (qT X2.out x3)
      clear g1 g2 x3
      by_cases hr:y=0
      · have t0:(y != 0)=false:=by simpa using hr
        have hq0:q=0:=HQ.out.trans (if_neg (by simpa using hr))
        subst hq0
        go_wp2
        go_ret
        exact⟨rfl,X3.out⟩
      · have t0:(y != 0)=true:=by simpa using hr
        have hq0:q=14:=HQ.out.trans (if_pos hr)
        subst hq0
        go_wp2
        go_ret
        exact⟨rfl,X3.out⟩
  · rw [show crowdE R P D W=perftE R P D from if_pos hz]
    have t0:(perftE R P D != 0)=true:=by simpa using hz
    clear hz HRF
    generalize perftE R P D=E at *
    generalize perftN R P D=N at *
    go_enter Crz.func36,Tryz.ntmps36
    go_wp2_with fail
    refine(HT.out _ HX.out).mono ?_
    rintro e w2 ⟨rfl,x2⟩
    have X2:=hide (qT HX.out x2)
    clear f1 f2 x2
    go_wp2
    go_ret
    exact⟨rfl,X2.out⟩
theorem crowdE_W{R:RM}{P:PosM}{D W:Int}(h:crowdE R P D W=0):1≤W∧W≤8:=by
 unfold crowdE at h
 by_cases h1:perftE R P D≠0
 ·rw [if_pos h1] at h;exact absurd h h1
 ·rw [if_neg h1] at h
  by_cases h2:D=0∨W<1∨8<W
  ·rw [if_pos h2] at h;cases h
  ·omega
structure ScAt(w:World)(R:RM)(P:PosM)(v u:Value)(D:Int)(A:Option Addr)(c3:Nat)(B1 B2 B3 B4 B5 O:Nat):Prop where
 hR:RA w v R
 hP:PA w u P
 hM:CellsAt w A ((listM R P).flatMap MM.vals)
 h1:∃ cs,v=.agg cs∧Rd w B1 cs
 h2:∃ cs,u=.agg cs∧Rd w B2 cs
 h3:Rd w B3 #[.slice A (listM R P).length c3]
 h4:Rd w B4 #[.int .i64 D]
 h5:Rd w B5 #[.slice (some ⟨O,0,none⟩) (listM R P).length (listM R P).length]
def ScPre(w:World)(n nw:Int)(f:Value)(O:Nat)(c:Nat→Int):Prop :=
 ∃ (R:RM) (P:PosM) (v u:Value) (D:Int) (A:Option Addr) (c3 B1 B2 B3 B4 B5:Nat),Valid R∧Sound R P∧1≤D∧D≤12∧1≤nw∧nw≤8∧n=(listM R P).length∧(listM R P).length≤1000000∧0<O ∧
  (∀ i m,(listM R P)[i]? = some m→c i=scoreOf R P (D.toNat-1) m) ∧
  f=.func (.func 42) #[] #[.pointer (some ⟨B1,0,none⟩),.pointer (some ⟨B2,0,none⟩),.pointer (some ⟨B3,0,none⟩),.pointer (some ⟨B4,0,none⟩),.pointer (some ⟨B5,0,none⟩)] ∧
  Blk w O 3 (outRow c (listM R P).length 0)∧∀ W,Gr O w W→ScAt W R P v u D A c3 B1 B2 B3 B4 B5 O
theorem int_info:((Crz.prog.info? 3).map fun i=>(i.zero,i.size,i.bytes))=some (some (.int .i64 0),1,8):=by kernel_rfl
theorem make_out(n:Nat)(h:n≤1000000)(c:Nat→Int)(w:World):(Instr.makeSlice 23 (.int .i64 (n:Int)) (.int .i64 (n:Int))).run Crz.prog w=.ok (.slice (some ⟨w.heap.size,0,none⟩) n n) (w.alloc (.cells (outRow c n 0) 3)):=by
 obtain⟨i,hi,hz,hs,hb⟩:∃ i,Crz.prog.info? 3=some i∧i.zero=some (.int .i64 0)∧i.size=1∧i.bytes=8:=by
  have h:=int_info
  cases hi:Crz.prog.info? 3 with
  | none=>rw [hi] at h;cases h
  | some i =>
   rw [hi] at h
   simp only [Option.map_some,Option.some.injEq,Prod.mk.injEq] at h
   exact⟨i,rfl,h.1,h.2.1,h.2.2⟩
 have e:outRow c n 0=((List.replicate n (0:Int)).map (Value.int .i64)).toArray:=by
  unfold outRow
  exact congrArg List.toArray (List.ext_getElem (by simp) (fun i h1 h2=>by simp))
 rw [e]
 exact make_ints _ _ i Crz.underlying23 hi hz hs hb n (by omega) w
set_option maxHeartbeats 4000000 in
set_option maxRecDepth 100000 in
theorem crowdScores_yes(R:RM)(P:PosM)(v u:Value)(D W:Int)(c0:Nat→Int)(w:World)(hR:RA w v R)(hP:PA w u P)(hc0:∀ i m,(listM R P)[i]? = some m→c0 i=scoreOf R P (D.toNat-1) m)(hE:crowdE R P D W=0)(hV:Valid R)(hS:Sound R P)(hd0:1≤D)(hd:D≤12) :
  Calls Crz.prog 13 #[v,u,.int .i64 D,.int .i64 W] w fun e w'=>(∃ O,w.heap.size≤O∧Blk w' O 3 (outRow c0 (listM R P).length (listM R P).length)∧e=.returned (.tuple #[.slice (some ⟨O,0,none⟩) (listM R P).length (listM R P).length,.int .i64 0])∧Ext w w')∨∃ f O,e=.panicked [{ v:=markV (listM R P).length W f,recovered:=false }]∧ScPre w' (listM R P).length W f O c0:=by
 have HT:=hide (fun W1 (hW:Ext w W1)=>crowdCheck_any R P v u D W W1 (hR.ext hW) (hP.ext hW))
 have HRF:=hide (fun W (hW:Ext w W)=>And.intro (hR.ext hW) (hP.ext hW))
 have HLI:=hide (fun W (hW:Ext w W)=>List_any R P v u W (hR.ext hW) (hP.ext hW) hV hS)
 have HLL:=hide (listM_len hV hS)
 have HWN:=hide (crowdE_W hE)
 rw [hE] at HT
 clear hE
 generalize hL:listM R P=L at *
 obtain⟨pA,pc,sA,sc,eA,ec,rfl,-⟩:=hR
 obtain⟨cA,cc,aA,ac,bA,bc,rfl,-⟩:=hP
 obtain⟨x1,k1,k2,k3⟩:=blks3 w #[.string R.name,.int .i64 R.width,.int .i64 R.height,.slice pA R.pieces.length pc,.slice sA R.start.length sc,.bool R.falls,.bool R.keeps,.slice eA R.ends.length ec,.int .i64 R.blocked,.int .i64 R.quiet,.int .i64 R.rept] 26 #[.slice cA P.cells.length cc,.slice aA P.hand0.length ac,.slice bA P.hand1.length bc,.int .i64 P.turn,.int .i64 P.quiet] 29 #[.int .i64 D] 3
 have HX:=hide x1
 have K1:=hide k1
 have K2:=hide k2
 have K3:=hide k3
 clear x1 k1 k2 k3
 have f1:=K1.out.cell
 have f2:=K2.out.cell
 have f3:=K3.out.cell
 go_enter Crz.func13,Tryz.ntmps13
 go_wp2_with fail
 refine(HT.out _ HX.out).mono ?_
 rintro e w2 ⟨rfl,x2⟩
 have X2:=hide (qT HX.out x2)
 have KA:=hide (K1.out.ext x2)
 have KB:=hide (K2.out.ext x2)
 have KC:=hide (K3.out.ext x2)
 clear f1 f2 f3 x2 K1 K2 K3
 have g1:=KA.out.cell
 have g2:=KB.out.cell
 have g3:=KC.out.cell
 go_wp2_with fail
 refine(HLI.out _ X2.out).mono ?_
 rintro e w3 ⟨v5,rfl,own5,x3⟩
 have X3:=hide (qT X2.out x3)
 have KA3:=hide (KA.out.ext x3)
 have KB3:=hide (KB.out.ext x3)
 have KC3:=hide (KC.out.ext x3)
 have OW:=hide own5
 obtain⟨A5,c5,rfl,-⟩:=own5
 clear g1 g2 g3 x3 KA KB KC HLI
 have hll:=HLL.out
 have hmk:∀ W:World,(Instr.makeSlice 23 (.int .i64 (L.length:Int)) (.int .i64 (L.length:Int))).run Crz.prog W=.ok (.slice (some ⟨W.heap.size,0,none⟩) L.length L.length) (W.alloc (.cells (outRow c0 L.length 0) 3)):=fun W=>make_out L.length HLL.out c0 W
 go_wp2_with fail
 obtain⟨x4,b3,bO,b5⟩:=blks3 w3 #[.slice A5 L.length c5] 69 (outRow c0 L.length 0) 3 #[.slice (some ⟨w3.heap.size+1,0,none⟩) L.length L.length] 23
 have hlt1:=X3.out.size
 have hltA:=KA3.out.lt
 have hltB:=KB3.out.lt
 have hltC:=KC3.out.lt
 have HSC:Hid (∀ W,Gr (w3.heap.size+1) (((w3.alloc (.cells #[.slice A5 L.length c5] 69)).alloc (.cells (outRow c0 L.length 0) 3)).alloc (.cells #[.slice (some ⟨w3.heap.size+1,0,none⟩) L.length L.length] 23)) W→ScAt W R P (.agg #[.string R.name,.int .i64 R.width,.int .i64 R.height,.slice pA R.pieces.length pc,.slice sA R.start.length sc,.bool R.falls,.bool R.keeps,.slice eA R.ends.length ec,.int .i64 R.blocked,.int .i64 R.quiet,.int .i64 R.rept]) (.agg #[.slice cA P.cells.length cc,.slice aA P.hand0.length ac,.slice bA P.hand1.length bc,.int .i64 P.turn,.int .i64 P.quiet]) D A5 c5 w.heap.size (w.heap.size+1) w3.heap.size (w.heap.size+1+1) (w3.heap.size+1+1) (w3.heap.size+1)):=hide (fun W gr=>by
  have xw:=gr.to_ext (qT X3.out x4) (by omega)
  have x3W:=gr.to_ext x4 (by omega)
  have rd:∀ {B:Nat} {ty:TypeId} {cs:Array Value},Blk W B ty cs→Rd W B cs:=fun k i v hv=>(k.cell i).trans hv
  obtain⟨A',c',e',hM⟩:=OW.out.at_.ext x3W
  simp only [Value.slice.injEq] at e'
  obtain⟨rfl,-,rfl⟩:=e'
  rw [← hL] at hM
  refine⟨(HRF.out W xw).1,(HRF.out W xw).2,hM,⟨_,rfl,rd (gr.blk (KA3.out.ext x4) (by omega))⟩,⟨_,rfl,rd (gr.blk (KB3.out.ext x4) (by omega))⟩,?_,rd (gr.blk (KC3.out.ext x4) (by omega)),?_⟩
  ·rw [hL];exact rd (gr.blk b3 (by omega))
  ·rw [hL];exact rd (gr.blk b5 (by omega)))
 have HE:=hide (each_scores L.length W _ _ _ _ _ (w3.heap.size+1) c0 _ (by omega) (fun i W1 hi gr=>by
  have sa:=HSC.out W1 gr
  have hm:L[i]? = some L[i]:=List.getElem?_eq_getElem hi
  have hM:=sa.hM
  have h3:=sa.h3
  have h5:=sa.h5
  rw [hL] at hM h3 h5
  have e:c0 i=scoreOf R P (D.toNat-1) L[i]:=hc0 i _ hm
  rw [e]
  exact ScoresF_any R P hV hS _ _ D hd0 hd L hL.symm i L[i] hm W1 _ _ _ _ _ _ c5 A5 sa.hR sa.hP hM sa.h1 sa.h2 h3 sa.h4 h5 (by omega)) bO (fun i hi=>by
   rw [hc0 i _ (List.getElem?_eq_getElem hi)]
   have hb:=of_bound R (D.toNat-1) (makeM R P L[i]) (turn_make hS.turn L[i]) (by omega)
   unfold scoreOf
   unfold boundB at hb
   have h1:-2000≤ofM R (D.toNat-1) (makeM R P L[i])∧ofM R (D.toNat-1) (makeM R P L[i])≤2000:=by omega
   generalize ofM R (D.toNat-1) (makeM R P L[i])=z at *
   have h2:-2001≤nearM (-z)∧nearM (-z)≤2001:=by unfold nearM;split <;> (try split) <;> omega
   rw [IntKind.wrap_i64];omega))
 have XF:=hide (fun W gr=>Gr.to_ext (w0:=w) (a:=((w3.alloc (.cells #[Value.slice A5 L.length c5] 69)).alloc (.cells (outRow c0 L.length 0) 3)).alloc (.cells #[.slice (some ⟨w3.heap.size+1,0,none⟩) L.length L.length] 23)) (b:=W) (B:=w3.heap.size+1) gr (qT X3.out x4) (by omega))
 refine HE.out.mono ?_
 rintro e w5 (⟨rfl,k9,g9⟩ | ⟨rfl,h9,g9⟩)
 ·have K9:=hide k9
  have b5':=g9.blk b5 (by omega)
  have f5:=b5'.cell
  have X9:=hide (XF.out w5 g9)
  have hO:Hid (w.heap.size≤w3.heap.size+1):=hide (by omega)
  clear HE HSC b3 bO b5 b5' x4 k9 g9 hmk
  go_wp2
  go_ret2
  exact .inl ⟨_,hO.out,K9.out,rfl,X9.out⟩
 ·have hpre:ScPre w5 L.length W (.func (.func 42) #[] #[.pointer (some ⟨w.heap.size,0,none⟩),.pointer (some ⟨w.heap.size+1,0,none⟩),.pointer (some ⟨w3.heap.size,0,none⟩),.pointer (some ⟨w.heap.size+1+1,0,none⟩),.pointer (some ⟨w3.heap.size+1+1,0,none⟩)]) (w3.heap.size+1) c0 :=
   ⟨R,P,_,_,D,A5,c5,_,_,_,_,_,hV,hS,hd0,hd,HWN.out.1,HWN.out.2,by rw [hL],by rw [hL];omega,Nat.succ_pos _,fun i m hm=>hc0 i m (by rw [← hL];exact hm),rfl,by rw [hL];unfold Blk at bO ⊢;rw [← h9];exact bO,fun W1 gr=>HSC.out W1 (g9.trans gr)⟩
  have HPRE:=hide hpre
  clear HE HSC b3 bO b5 x4 g9 h9 hmk hpre
  go_wp2
  exact⟨rfl,.inr ⟨_,_,rfl,HPRE.out⟩⟩
def sumOf(f:MM→Int)(L:List MM)(k:Nat):Int:=((L.take k).map f).sum
theorem sumOf_succ{f:MM→Int}{L:List MM}{k:Nat}{m:MM}(h:L[k]? = some m):sumOf f L (k+1)=sumOf f L k+f m:=by
 unfold sumOf
 rw [List.take_add_one,h]
 simp
theorem count_bound{R:RM}{P:PosM}{D:Int}{m:MM}:0≤countOf R P D m∧countOf R P D m≤50000:=by
 unfold countOf
 by_cases h:perftE R (makeM R P m) (D-1)=0
 ·obtain⟨-,-,-,-,ht⟩:=perft_zero h
  rw [show perftL R (makeM R P m) (D-1)=leafM R (D-1).toNat (makeM R P m) from if_pos h]
  have h1:=leaf_nonneg R (D-1).toNat (makeM R P m)
  have h2:=leaf_le R (D-1).toNat (makeM R P m)
  omega
 ·rw [show perftL R (makeM R P m) (D-1)=0 from if_neg h]
  omega
theorem sumOf_bound{f:MM→Int}(hf:∀ m,0≤f m∧f m≤50000)(L:List MM):∀ k,0≤sumOf f L k∧sumOf f L k≤50000 * k
 | 0=>by simp [sumOf]
 | k+1=>by
  obtain⟨h1,h2⟩:=sumOf_bound hf L k
  cases h:L[k]? with
  | none =>
   have:sumOf f L (k+1)=sumOf f L k:=by unfold sumOf;rw [List.take_add_one,h];simp
   rw [this];omega
  | some m =>
   rw [sumOf_succ h]
   have:=hf m
   omega
structure CtAt(w:World)(R:RM)(P:PosM)(v u:Value)(D:Int)(A:Option Addr)(c3:Nat)(B1 B2 B3 B4:Nat):Prop where
 hR:RA w v R
 hP:PA w u P
 hM:CellsAt w A ((listM R P).flatMap MM.vals)
 h1:∃ cs,v=.agg cs∧Rd w B1 cs
 h2:∃ cs,u=.agg cs∧Rd w B2 cs
 h3:Rd w B3 #[.slice A (listM R P).length c3]
 h4:Rd w B4 #[.int .i64 D]
def CtPre(w:World)(n nw:Int)(f:Value)(O:Nat):Prop :=
 ∃ (R:RM) (P:PosM) (v u:Value) (D:Int) (A:Option Addr) (c3 B1 B2 B3 B4:Nat),Valid R∧Sound R P∧1≤D∧D≤12∧1≤nw∧nw≤8∧n=(listM R P).length∧(listM R P).length≤1000000 ∧
  f=.func (.func 38) #[] #[.pointer (some ⟨B1,0,none⟩),.pointer (some ⟨B2,0,none⟩),.pointer (some ⟨B3,0,none⟩),.pointer (some ⟨B4,0,none⟩),.pointer (some ⟨O,0,none⟩)] ∧
  Blk w O 81 #[.int .i64 0]∧∀ W,Gr O w W→CtAt W R P v u D A c3 B1 B2 B3 B4
abbrev markL(p:Value):Value:=.iface 85 (.func (.func 41) #[] #[p])
def LdPre(w:World)(p:Value):Prop:=∃ (O:Nat) (x:Int),p=.pointer (some ⟨O,0,none⟩)∧Blk w O 81 #[.int .i64 x]
noncomputable def restL:Go.Code:=match Sm.loadS.body with | some (.seq _ c)=>c | _=>.skip
set_option maxHeartbeats 4000000 in
set_option maxRecDepth 100000 in
theorem loadRest(O:Nat)(x:Int)(w:World)(hO:Blk w O 81 #[.int .i64 x]) :
  restL.wp Crz.prog (bodyPost Crz.prog Sm.loadS fun e w'=>e=.returned (.int .i64 x)∧Ext w w') ⟨#[.pointer (some ⟨O,0,none⟩),undef,undef,.bool false,undef,undef,undef,undef,undef,undef,undef,undef],[]⟩ w:=by
 have f1:=hO.cell
 simp only [restL,Sm.loadS,Sm.op1]
 go_wp2
 exact bodyPost_ret (v:=.int .i64 x) (by simp [results,Crz.results41,go_sem]) rfl ⟨rfl,Below.refl _ _⟩
def argI(c:Nat→Int):Nat→Nat
 | 0=>0
 | k+1=>if c (argI c k)<c k then k else argI c k
theorem argI_le(c:Nat→Int):∀ k,argI c k≤k-1
 | 0=>Nat.le_refl _
 | k+1=>by
  have:=argI_le c k
  unfold argI
  split <;> omega
set_option maxHeartbeats 8000000 in
set_option maxRecDepth 100000 in
theorem crowdBest_yes(R:RM)(P:PosM)(v u:Value)(D W:Int)(c0:Nat→Int)(mj:MM)(w:World)(hR:RA w v R)(hP:PA w u P)(hc0:∀ i m,(listM R P)[i]? = some m→c0 i=scoreOf R P (D.toNat-1) m)(hE:crowdE R P D W=0)(hV:Valid R)(hS:Sound R P)(hd0:1≤D)(hd:D≤12)
  (hmj:(listM R P)[argI c0 (listM R P).length]? = some mj) :
  Calls Crz.prog 6 #[v,u,.int .i64 D,.int .i64 W] w fun e w'=>(e=.returned (.tuple #[moveV mj,.int .i64 (c0 (argI c0 (listM R P).length)),.int .i64 0])∧Ext w w')∨∃ f O,e=.panicked [{ v:=markV (listM R P).length W f,recovered:=false }]∧ScPre w' (listM R P).length W f O c0:=by
 have HT:=hide (fun W1 (hW:Ext w W1)=>crowdScores_yes R P v u D W c0 W1 (hR.ext hW) (hP.ext hW) hc0 hE hV hS hd0 hd)
 have HLI:=hide (fun W (hW:Ext w W)=>List_any R P v u W (hR.ext hW) (hP.ext hW) hV hS)
 have HLL:=hide (listM_len hV hS)
 have HMJ:=hide hmj
 clear hE hV hS hd0 hd hc0 hmj
 generalize hL:listM R P=L at *
 obtain⟨pA,pc,sA,sc,eA,ec,rfl,-⟩:=hR
 obtain⟨cA,cc,aA,ac,bA,bc,rfl,-⟩:=hP
 obtain⟨x1,k1,k2,k3⟩:=blks3 w #[.string R.name,.int .i64 R.width,.int .i64 R.height,.slice pA R.pieces.length pc,.slice sA R.start.length sc,.bool R.falls,.bool R.keeps,.slice eA R.ends.length ec,.int .i64 R.blocked,.int .i64 R.quiet,.int .i64 R.rept] 26 #[.slice cA P.cells.length cc,.slice aA P.hand0.length ac,.slice bA P.hand1.length bc,.int .i64 P.turn,.int .i64 P.quiet] 29 #[.int .i64 0,.int .i64 0,.int .i64 0] 31
 have HX:=hide x1
 have K1:=hide k1
 have K2:=hide k2
 have K3:=hide k3
 have hsz:(((w.alloc (.cells #[.string R.name,.int .i64 R.width,.int .i64 R.height,.slice pA R.pieces.length pc,.slice sA R.start.length sc,.bool R.falls,.bool R.keeps,.slice eA R.ends.length ec,.int .i64 R.blocked,.int .i64 R.quiet,.int .i64 R.rept] 26)).alloc (.cells #[.slice cA P.cells.length cc,.slice aA P.hand0.length ac,.slice bA P.hand1.length bc,.int .i64 P.turn,.int .i64 P.quiet] 29)).alloc (.cells #[.int .i64 0,.int .i64 0,.int .i64 0] 31)).heap.size=w.heap.size+1+1+1:=by simp
 have HSZ:=hide hsz
 clear x1 k1 k2 k3 hsz
 have f1:=K1.out.cell
 have f2:=K2.out.cell
 go_enter Crz.func6,Tryz.ntmps6
 go_wp2_with fail
 refine(HT.out _ HX.out).mono ?_
 rintro e w2 (⟨O,hO,kO,rfl,x2⟩ | ⟨f,O,rfl,hpre⟩)
 ·have X2:=hide (qT HX.out x2)
  have KRb:=hide (K1.out.ext x2)
  have KPb:=hide (K2.out.ext x2)
  have KB:=hide (K3.out.ext x2)
  have KOb:=hide kO
  have HNO:Hid (O≠w.heap.size+1+1):=hide (by have:=HSZ.out;omega)
  have HNR:Hid (w.heap.size≠w.heap.size+1+1):=hide (by omega)
  have HNP:Hid (w.heap.size+1≠w.heap.size+1+1):=hide (by omega)
  have HLE:Hid (w.heap.size≤w.heap.size+1+1):=hide (by omega)
  clear f1 f2 x2 K1 K2 K3 kO hO HSZ HT
  have hll:=HLL.out
  have gO:=KOb.out.cell
  go_wp2
  go_loop [13,30] (fun b i=>∃ k:Nat,k≤L.length∧i=.int .i64 k∧b=.int .i64 (argI c0 k:Nat)) (fun _ i=>L.length-(intOf i).toNat)
  case atStart=>exact⟨0,Nat.zero_le _,rfl,rfl⟩
  case round =>
   obtain⟨k,hk,rfl,rfl⟩:=hrel
   by_cases hlt:k<L.length
   ·have ha:argI c0 k<L.length:=by have:=argI_le c0 k;omega
    have h1:w2.cell? ⟨O,k,none⟩=some (.int .i64 (c0 k)):=(gO k).trans ((outRow_get c0 hlt).trans (by rw [if_pos hlt]))
    have h2:w2.cell? ⟨O,argI c0 k,none⟩=some (.int .i64 (c0 (argI c0 k))):=(gO _).trans ((outRow_get c0 ha).trans (by rw [if_pos ha]))
    have HAS:=hide (show argI c0 (k+1)=if c0 (argI c0 k)<c0 k then k else argI c0 k from rfl)
    generalize argI c0 k=a at *
    clear gO
    by_cases hq:c0 a<c0 k
    ·have t0:decide (c0 a<c0 k)=true:=by simpa using hq
     have HA2:=hide (HAS.out.trans (if_pos hq))
     clear HAS hq
     go_wp2
     go_round
     case rel=>exact⟨k+1,by omega,by go_num,by rw [HA2.out]⟩
     case measure=>simp [intOf];omega
    ·have t0:decide (c0 a<c0 k)=false:=by simpa using hq
     have HA2:=hide (HAS.out.trans (if_neg hq))
     clear HAS hq
     go_wp2
     go_round
     case rel=>exact⟨k+1,by omega,by go_num,by rw [HA2.out]⟩
     case measure=>simp [intOf];omega
   ·obtain rfl:k=L.length:=by omega
    clear gO
    have hj:argI c0 L.length<L.length:=(List.getElem?_eq_some_iff.1 HMJ.out).1
    have HOG:=hide ((outRow_get c0 (k:=L.length) hj).trans (by rw [if_pos hj]))
    have KBd:=hide (Blk.drew KB.out)
    have HXW:Hid (∀ W,Gr (w.heap.size+1+1) w2 W→Ext w W):=hide (fun W h=>h.to_ext X2.out HLE.out)
    have HJ:=hide (rfl:argI c0 L.length=argI c0 L.length)
    generalize hjj:argI c0 L.length=j at HMJ hj HOG HJ ⊢
    have HJ2:=hide hjj
    clear HJ hjj
    generalize hwb:w2=wb at *
    clear hwb
    generalize w.heap.size+1+1=BO at *
    generalize w.heap.size+1=BP at *
    generalize w.heap.size=BR at *
    go_upto_region 11 with fail
    have keepK:=hide (fun W (h:Gr BO wb W)=>(show (fun W=>W.cell? ⟨BR,0,none⟩=some (.string R.name)∧W.cell? ⟨BR,1,none⟩=some (.int .i64 R.width)∧W.cell? ⟨BR,2,none⟩=some (.int .i64 R.height)∧W.cell? ⟨BR,3,none⟩=some (.slice pA R.pieces.length pc)∧W.cell? ⟨BR,4,none⟩=some (.slice sA R.start.length sc)∧W.cell? ⟨BR,5,none⟩=some (.bool R.falls)∧W.cell? ⟨BR,6,none⟩=some (.bool R.keeps)∧W.cell? ⟨BR,7,none⟩=some (.slice eA R.ends.length ec)∧W.cell? ⟨BR,8,none⟩=some (.int .i64 R.blocked)∧W.cell? ⟨BR,9,none⟩=some (.int .i64 R.quiet)∧W.cell? ⟨BR,10,none⟩=some (.int .i64 R.rept)∧W.cell? ⟨BP,0,none⟩=some (.slice cA P.cells.length cc)∧W.cell? ⟨BP,1,none⟩=some (.slice aA P.hand0.length ac)∧W.cell? ⟨BP,2,none⟩=some (.slice bA P.hand1.length bc)∧W.cell? ⟨BP,3,none⟩=some (.int .i64 P.turn)∧W.cell? ⟨BP,4,none⟩=some (.int .i64 P.quiet)∧W.cell? ⟨O,j,none⟩=some (.int .i64 (c0 j))∧Gr BO wb W) W from ⟨(Gr.blk h KRb.out HNR.out).cell 0,(Gr.blk h KRb.out HNR.out).cell 1,(Gr.blk h KRb.out HNR.out).cell 2,(Gr.blk h KRb.out HNR.out).cell 3,(Gr.blk h KRb.out HNR.out).cell 4,(Gr.blk h KRb.out HNR.out).cell 5,(Gr.blk h KRb.out HNR.out).cell 6,(Gr.blk h KRb.out HNR.out).cell 7,(Gr.blk h KRb.out HNR.out).cell 8,(Gr.blk h KRb.out HNR.out).cell 9,(Gr.blk h KRb.out HNR.out).cell 10,(Gr.blk h KPb.out HNP.out).cell 0,(Gr.blk h KPb.out HNP.out).cell 1,(Gr.blk h KPb.out HNP.out).cell 2,(Gr.blk h KPb.out HNP.out).cell 3,(Gr.blk h KPb.out HNP.out).cell 4,((Gr.blk h KOb.out HNO.out).cell j).trans HOG.out,h⟩))
    have yy:=(⟨rfl,rfl,rfl,Nat.le_refl _,fun _ _ _=>rfl⟩:Gr BO wb wb.drew)
    refine region_K (fun W=>W.cell? ⟨BR,0,none⟩=some (.string R.name)∧W.cell? ⟨BR,1,none⟩=some (.int .i64 R.width)∧W.cell? ⟨BR,2,none⟩=some (.int .i64 R.height)∧W.cell? ⟨BR,3,none⟩=some (.slice pA R.pieces.length pc)∧W.cell? ⟨BR,4,none⟩=some (.slice sA R.start.length sc)∧W.cell? ⟨BR,5,none⟩=some (.bool R.falls)∧W.cell? ⟨BR,6,none⟩=some (.bool R.keeps)∧W.cell? ⟨BR,7,none⟩=some (.slice eA R.ends.length ec)∧W.cell? ⟨BR,8,none⟩=some (.int .i64 R.blocked)∧W.cell? ⟨BR,9,none⟩=some (.int .i64 R.quiet)∧W.cell? ⟨BR,10,none⟩=some (.int .i64 R.rept)∧W.cell? ⟨BP,0,none⟩=some (.slice cA P.cells.length cc)∧W.cell? ⟨BP,1,none⟩=some (.slice aA P.hand0.length ac)∧W.cell? ⟨BP,2,none⟩=some (.slice bA P.hand1.length bc)∧W.cell? ⟨BP,3,none⟩=some (.int .i64 P.turn)∧W.cell? ⟨BP,4,none⟩=some (.int .i64 P.quiet)∧W.cell? ⟨O,j,none⟩=some (.int .i64 (c0 j))∧Gr BO wb W) (fun _=>True) [] (by kernel_rfl) ?_
    have hT0:=keepK.out _ yy
    refine tl 0 hT0 (fun _=>trivial) (v:=?_) (fun W hW=>?_) ?_
    rotate_left
    ·obtain⟨z0,z1,z2,z3,z4,z5,z6,z7,z8,z9,z10,z11,z12,z13,z14,z15,z16,z17⟩:=hW;go_simp;first|done|with_reducible rfl
    refine tl 1 hT0 (fun _=>trivial) (v:=?_) (fun W hW=>?_) ?_
    rotate_left
    ·obtain⟨z0,z1,z2,z3,z4,z5,z6,z7,z8,z9,z10,z11,z12,z13,z14,z15,z16,z17⟩:=hW;go_simp;first|done|with_reducible rfl
    refine tk 3 hT0 (fun _=>trivial) ?_
    refine tk 6 hT0 (fun _=>trivial) ?_
    refine tk 7 hT0 (fun _=>trivial) ?_
    refine tk 8 hT0 (fun _=>trivial) ?_
    refine tl 9 hT0 (fun _=>trivial) (v:=?_) (fun W hW=>?_) ?_
    rotate_left
    ·obtain⟨z0,z1,z2,z3,z4,z5,z6,z7,z8,z9,z10,z11,z12,z13,z14,z15,z16,z17⟩:=hW;go_simp;first|done|with_reducible rfl
    refine anyK_on1 2 (by kernel_rfl) ?_
    refine tw 2 (fun K hK=>?_)
    go_simp
    refine(HLI.out _ (HXW.out _ yy)).mono ?_
    rintro e w7 ⟨v7,rfl,own7,xx⟩
    try go_wp2_with fail
    replace yy:=Gr.ext yy xx
    have KB7:=hide (KBd.out.ext xx)
    have OW7:=hide own7.at_
    obtain⟨A7,c7,e7,hc7⟩:=own7.at_
    subst e7
    obtain⟨b7,o7,rfl,m0,m1,m2⟩:=moves_get hc7 HMJ.out
    have M0:=hide m0
    have M1:=hide m1
    have M2:=hide m2
    clear own7 hc7 m0 m1 m2
    have hT1:=keepK.out _ yy
    refine hK.out _ _ hT1 (fun _=>trivial) ?_
    clear hK K
    try simp only [Act.put,List.setIfInBounds_toArray,List.set_cons_zero,List.set_cons_succ]
    refine tk 4 hT1 (fun _=>trivial) ?_
    refine anyK_on1 5 (by kernel_rfl) ?_
    refine tw 5 (fun K hK=>?_)
    have m0:=M0.out
    have m1:=M1.out
    have m2:=M2.out
    go_simp
    have hT2:=keepK.out _ yy
    refine hK.out _ _ hT2 (fun _=>trivial) ?_
    clear hK K
    try simp only [Act.put,List.setIfInBounds_toArray,List.set_cons_zero,List.set_cons_succ]
    refine anyK_on1 10 (by kernel_rfl) ?_
    refine tw 10 (fun K hK=>?_)
    have q5:=KB7.out.cell
    have q6:=KB7.out.frozen
    have K9:=hide (qB (i:=2) (u:=.int .i64 mj.piece) (qB (i:=1) (u:=.int .i64 mj.dst) (qB (i:=0) (u:=.int .i64 mj.src) KB7.out rfl) rfl) (cs':=#[.int .i64 mj.src,.int .i64 mj.dst,.int .i64 mj.piece]) rfl)
    replace yy:=((Gr.set yy 0 (.int .i64 mj.src)).set 1 (.int .i64 mj.dst)).set 2 (.int .i64 mj.piece)
    go_simp
    have hT3:=keepK.out _ yy
    refine hK.out _ _ hT3 (fun _=>trivial) ?_
    clear hK K
    try simp only [Act.put,List.setIfInBounds_toArray,List.set_cons_zero,List.set_cons_succ]
    refine tk 11 hT3 (fun _=>trivial) ?_
    refine tk 12 hT3 (fun _=>trivial) ?_
    refine anyK_done (by kernel_rfl) ?_ _
    clear keepK hT0 hT1 hT2 hT3
    have K9:=qB (i:=2) (u:=.int .i64 mj.piece) (qB (i:=1) (u:=.int .i64 mj.dst) (qB (i:=0) (u:=.int .i64 mj.src) KB7.out rfl) rfl) (cs':=#[.int .i64 mj.src,.int .i64 mj.dst,.int .i64 mj.piece]) rfl
    have X9:=hide (HXW.out _ ((((Gr.ext (⟨rfl,rfl,rfl,Nat.le_refl _,fun _ _ _=>rfl⟩:Gr BO wb wb.drew) xx).set 0 (.int .i64 mj.src)).set 1 (.int .i64 mj.dst)).set 2 (.int .i64 mj.piece)))
    generalize (((w7.setCell ⟨BO,0,none⟩ (.int .i64 mj.src)).setCell ⟨BO,1,none⟩ (.int .i64 mj.dst)).setCell ⟨BO,2,none⟩ (.int .i64 mj.piece))=Wf at *
    have rr0:Wf.cell? ⟨BO,0,none⟩=some (.int .i64 mj.src):=K9.cell 0
    have rr1:Wf.cell? ⟨BO,1,none⟩=some (.int .i64 mj.dst):=K9.cell 1
    have rr2:Wf.cell? ⟨BO,2,none⟩=some (.int .i64 mj.piece):=K9.cell 2
    clear K9 HXW
    go_wp2
    refine bodyPost_ret (v:=.tuple #[moveV mj,.int .i64 (c0 j),.int .i64 0]) ?_ rfl (.inl ⟨by rw [HJ2.out],X9.out⟩)
    simp [results,Tryz.results6,go_sem,rr0,rr1,rr2]
 ·have HPRE:=hide hpre
  clear hpre
  go_wp2
  exact⟨rfl,.inr ⟨_,_,rfl,HPRE.out⟩⟩
end Go.Proofs.YtdoibgmmijhlfaaGreat
