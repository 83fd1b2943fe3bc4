/- CrC CrW CrV -/
import Derived.Test.YtdoibgmmijhlfaaGreatB37
import Derived.Test.YtdoibgmmijhlfaaGreatB38
namespace Go.Proofs.YtdoibgmmijhlfaaGreat
open Go.ChangeShapes Go.WideShapes Go.ChangeAt Go.RowKit Go.Shelf
set_option linter.unusedVariables false
set_option linter.unusedSimpArgs false
def crowdE (R : RulesM) (P : PosM) (D W : Int) : Int:=if perftE R P D ≠ 0 then perftE R P D else if D=0∨W < 1∨8 < W then 1 else if resultM R P ≠ 0 then 14 else 0
set_option maxHeartbeats 4000000 in
set_option maxRecDepth 100000 in
theorem crowdCheck_any (R : RulesM) (P : PosM) (v u : Value) (D W : Int) (w : World) (hR : RulesAt w v R) (hP : PosAt w u P) :
    Calls Crz.prog 36 #[v,u,.int .i64 D,.int .i64 W] w fun e w' => e=.returned (.int .i64 (crowdE R P D W))∧Ext w w':=by
  have HT:=hide (fun W (hW : Ext w W) => PfTree_any R P v u D W (hR.ext hW) (hP.ext hW))
  have HRF:=hide (fun W (hW : Ext w W) => And.intro (hR.ext hW) (hP.ext hW))
  obtain ⟨pA,pc,sA,sc,eA,ec,rfl,-⟩:=hR
  obtain ⟨cA,cc,aA,ac,bA,bc,rfl,-⟩:=hP
  obtain ⟨x1,k1,k2⟩:=blks2 w #[.string R.name,.int .i64 R.width,.int .i64 R.height,.slice pA R.pieces.length pc,.slice sA R.start.length sc,.bool R.falls,.bool R.keeps,.slice eA R.ends.length ec,.int .i64 R.blocked,.int .i64 R.quiet,.int .i64 R.rept] 26 #[.slice cA P.cells.length cc,.slice aA P.hand0.length ac,.slice bA P.hand1.length bc,.int .i64 P.turn,.int .i64 P.quiet] 29
  have HX:=hide x1
  have K1:=hide k1
  have K2:=hide k2
  clear x1 k1 k2
  have f1:=K1.out.cell
  have f2:=K2.out.cell
  by_cases hz : perftE R P D=0
  · obtain ⟨hV,hS,d0,d1,-⟩:=perft_zero hz
    rw [hz] at HT
    have HRS:=hide (fun W (hW : Ext w W) => Result_any R P _ _ W (HRF.out W hW).1 (HRF.out W hW).2 hV hS)
    have hE : crowdE R P D W=if D=0∨W < 1∨8 < W then 1 else if resultM R P ≠ 0 then 14 else 0:=by unfold crowdE; rw [if_neg (by simpa using hz)]
    rw [hE]
    clear hE hz hV hS d0 d1 HRF
    generalize perftN R P D=N at *
    generalize resultM R P=y at *
    obtain ⟨bD,hbD⟩ : ∃ b,b=(D == 0):=⟨_,rfl⟩
    obtain ⟨b1,hb1⟩ : ∃ b,b=decide (W < 1):=⟨_,rfl⟩
    obtain ⟨b8,hb8⟩ : ∃ b,b=decide (8 < W):=⟨_,rfl⟩
    have t1:=hbD.symm
    have t2:=hb1.symm
    have t3:=hb8.symm
    have HC : Hid ((D=0∨W < 1∨8 < W) ↔ (bD || b1 || b8)=true):=hide (by rw [hbD,hb1,hb8]; simp [or_assoc])
    clear hbD hb1 hb8
    by_cases ha : D=0∨W < 1∨8 < W
    · rw [if_pos ha]
      have hc:=HC.out.1 ha
      clear ha
      go_enter Crz.func36,Tryz.ntmps36
      go_wp2_with fail
      refine (HT.out _ HX.out).mono ?_
      rintro e w2 ⟨rfl,x2⟩
      have X2:=hide (ext_trans HX.out x2)
      clear f1 f2 x2
      revert t1 t2 t3 hc
      cases bD <;> cases b1 <;> cases b8 <;> intro t1 t2 t3 hc <;> first
        | (exact absurd hc (by decide))
        | (go_wp2
           go_ret
           exact ⟨rfl,X2.out⟩)
    · rw [if_neg ha]
      have hc : (bD || b1 || b8)=false:=by
        cases h : (bD || b1 || b8) with
        | false => rfl
        | true => exact absurd (HC.out.2 h) ha
      simp only [Bool.or_eq_false_iff] at hc
      obtain ⟨⟨rfl,rfl⟩,rfl⟩:=hc
      clear ha
      obtain ⟨q,hq⟩ : ∃ q : Int,q=if y ≠ 0 then 14 else 0:=⟨_,rfl⟩
      rw [← hq]
      have HQ:=hide hq
      clear hq
      go_enter Crz.func36,Tryz.ntmps36
      go_wp2_with fail
      refine (HT.out _ HX.out).mono ?_
      rintro e w2 ⟨rfl,x2⟩
      have X2:=hide (ext_trans HX.out x2)
      have g1:=(K1.out.ext x2).cell
      have g2:=(K2.out.ext x2).cell
      clear f1 f2 x2
      go_wp2_with fail
      refine (HRS.out _ X2.out).mono ?_
      rintro e w3 ⟨rfl,x3⟩
      have X3:=hide (ext_trans X2.out x3)
      clear g1 g2 x3
      by_cases hr : y=0
      · have t0 : (y != 0)=false:=by simpa using hr
        have hq0 : q=0:=HQ.out.trans (if_neg (by simpa using hr))
        subst hq0
        go_wp2
        go_ret
        exact ⟨rfl,X3.out⟩
      · have t0 : (y != 0)=true:=by simpa using hr
        have hq0 : q=14:=HQ.out.trans (if_pos hr)
        subst hq0
        go_wp2
        go_ret
        exact ⟨rfl,X3.out⟩
  · rw [show crowdE R P D W=perftE R P D from if_pos hz]
    have t0 : (perftE R P D != 0)=true:=by simpa using hz
    clear hz HRF
    generalize perftE R P D=E at *
    generalize perftN R P D=N at *
    go_enter Crz.func36,Tryz.ntmps36
    go_wp2_with fail
    refine (HT.out _ HX.out).mono ?_
    rintro e w2 ⟨rfl,x2⟩
    have X2:=hide (ext_trans HX.out x2)
    clear f1 f2 x2
    go_wp2
    go_ret
    exact ⟨rfl,X2.out⟩
set_option maxHeartbeats 4000000 in
set_option maxRecDepth 100000 in
theorem crowdScores_no (R : RulesM) (P : PosM) (v u : Value) (D W : Int) (w : World) (hR : RulesAt w v R) (hP : PosAt w u P) (hE : crowdE R P D W ≠ 0) :
  Calls Crz.prog 13 #[v,u,.int .i64 D,.int .i64 W] w fun e w' => e=.returned (.tuple #[.slice none 0 0,.int .i64 (crowdE R P D W)])∧Ext w w':=by
 have HT:=hide (fun W1 (hW : Ext w W1) => crowdCheck_any R P v u D W W1 (hR.ext hW) (hP.ext hW))
 have t0 : (crowdE R P D W != 0)=true:=by simpa using hE
 clear hE
 generalize crowdE R P D W=E at *
 obtain ⟨pA,pc,sA,sc,eA,ec,rfl,-⟩:=hR
 obtain ⟨cA,cc,aA,ac,bA,bc,rfl,-⟩:=hP
 obtain ⟨x1,k1,k2,k3⟩:=blks3 w #[.string R.name,.int .i64 R.width,.int .i64 R.height,.slice pA R.pieces.length pc,.slice sA R.start.length sc,.bool R.falls,.bool R.keeps,.slice eA R.ends.length ec,.int .i64 R.blocked,.int .i64 R.quiet,.int .i64 R.rept] 26 #[.slice cA P.cells.length cc,.slice aA P.hand0.length ac,.slice bA P.hand1.length bc,.int .i64 P.turn,.int .i64 P.quiet] 29 #[.int .i64 D] 3
 have HX:=hide x1
 have K1:=hide k1
 have K2:=hide k2
 have K3:=hide k3
 clear x1 k1 k2 k3
 have f1:=K1.out.cell
 have f2:=K2.out.cell
 have f3:=K3.out.cell
 go_enter Crz.func13,Tryz.ntmps13
 go_wp2_with fail
 refine (HT.out _ HX.out).mono ?_
 rintro e w2 ⟨rfl,x2⟩
 have X2:=hide (ext_trans HX.out x2)
 clear f1 f2 f3 x2
 go_wp2
 go_ret2
 exact ⟨rfl,X2.out⟩
theorem crowdE_W {R : RulesM} {P : PosM} {D W : Int} (h : crowdE R P D W=0) : 1≤W∧W≤8:=by
 unfold crowdE at h
 by_cases h1 : perftE R P D ≠ 0
 ·rw [if_pos h1] at h; exact absurd h h1
 ·rw [if_neg h1] at h
  by_cases h2 : D=0∨W < 1∨8 < W
  ·rw [if_pos h2] at h; cases h
  ·omega
structure ScAt (w : World) (R : RulesM) (P : PosM) (v u : Value) (D : Int) (A : Option Addr) (c3 : Nat) (B1 B2 B3 B4 B5 O : Nat) : Prop where
 hR : RulesAt w v R
 hP : PosAt w u P
 hM : CellsAt w A ((listM R P).flatMap MoveM.vals)
 h1 : ∃ cs,v=.agg cs∧Rd w B1 cs
 h2 : ∃ cs,u=.agg cs∧Rd w B2 cs
 h3 : Rd w B3 #[.slice A (listM R P).length c3]
 h4 : Rd w B4 #[.int .i64 D]
 h5 : Rd w B5 #[.slice (some ⟨O,0,none⟩) (listM R P).length (listM R P).length]
def ScPre (w : World) (n nw : Int) (f : Value) (O : Nat) (c : Nat→Int) : Prop :=
 ∃ (R : RulesM) (P : PosM) (v u : Value) (D : Int) (A : Option Addr) (c3 B1 B2 B3 B4 B5 : Nat),Valid R∧Sound R P∧1≤D∧D≤12∧1≤nw∧nw≤8∧n=(listM R P).length∧(listM R P).length≤1000000∧0 < O ∧
  (∀ i m,(listM R P)[i]? = some m→c i=scoreOf R P (D.toNat - 1) m) ∧
  f=.func (.func 42) #[] #[.pointer (some ⟨B1,0,none⟩),.pointer (some ⟨B2,0,none⟩),.pointer (some ⟨B3,0,none⟩),.pointer (some ⟨B4,0,none⟩),.pointer (some ⟨B5,0,none⟩)] ∧
  Blk w O 3 (outRow c (listM R P).length 0)∧∀ W,Gr O w W→ScAt W R P v u D A c3 B1 B2 B3 B4 B5 O
theorem int_info : ((Crz.prog.info? 3).map fun i => (i.zero,i.size,i.bytes))=some (some (.int .i64 0),1,8):=by kernel_rfl
theorem make_out (n : Nat) (h : n≤1000000) (c : Nat→Int) (w : World) : (Instr.makeSlice 23 (.int .i64 (n : Int)) (.int .i64 (n : Int))).run Crz.prog w=.ok (.slice (some ⟨w.heap.size,0,none⟩) n n) (w.alloc (.cells (outRow c n 0) 3)):=by
 obtain ⟨i,hi,hz,hs,hb⟩ : ∃ i,Crz.prog.info? 3=some i∧i.zero=some (.int .i64 0)∧i.size=1∧i.bytes=8:=by
  have h:=int_info
  cases hi : Crz.prog.info? 3 with
  | none => rw [hi] at h; cases h
  | some i =>
   rw [hi] at h
   simp only [Option.map_some,Option.some.injEq,Prod.mk.injEq] at h
   exact ⟨i,rfl,h.1,h.2.1,h.2.2⟩
 have e : outRow c n 0=((List.replicate n (0 : Int)).map (Value.int .i64)).toArray:=by
  unfold outRow
  exact congrArg List.toArray (List.ext_getElem (by simp) (fun i h1 h2 => by simp))
 rw [e]
 exact make_ints _ _ i Crz.underlying23 hi hz hs hb n (by omega) w
set_option maxHeartbeats 4000000 in
set_option maxRecDepth 100000 in
theorem crowdScores_yes (R : RulesM) (P : PosM) (v u : Value) (D W : Int) (c0 : Nat→Int) (w : World) (hR : RulesAt w v R) (hP : PosAt w u P) (hc0 : ∀ i m,(listM R P)[i]? = some m→c0 i=scoreOf R P (D.toNat - 1) m) (hE : crowdE R P D W=0) (hV : Valid R) (hS : Sound R P) (hd0 : 1≤D) (hd : D≤12) :
  Calls Crz.prog 13 #[v,u,.int .i64 D,.int .i64 W] w fun e w' => (∃ O,w.heap.size≤O∧Blk w' O 3 (outRow c0 (listM R P).length (listM R P).length)∧e=.returned (.tuple #[.slice (some ⟨O,0,none⟩) (listM R P).length (listM R P).length,.int .i64 0])∧Ext w w')∨∃ f O,e=.panicked [{ v:=markV (listM R P).length W f,recovered:=false }]∧ScPre w' (listM R P).length W f O c0:=by
 have HT:=hide (fun W1 (hW : Ext w W1) => crowdCheck_any R P v u D W W1 (hR.ext hW) (hP.ext hW))
 have HRF:=hide (fun W (hW : Ext w W) => And.intro (hR.ext hW) (hP.ext hW))
 have HLI:=hide (fun W (hW : Ext w W) => List_any R P v u W (hR.ext hW) (hP.ext hW) hV hS)
 have HLL:=hide (listM_len hV hS)
 have HWN:=hide (crowdE_W hE)
 rw [hE] at HT
 clear hE
 generalize hL : listM R P=L at *
 obtain ⟨pA,pc,sA,sc,eA,ec,rfl,-⟩:=hR
 obtain ⟨cA,cc,aA,ac,bA,bc,rfl,-⟩:=hP
 obtain ⟨x1,k1,k2,k3⟩:=blks3 w #[.string R.name,.int .i64 R.width,.int .i64 R.height,.slice pA R.pieces.length pc,.slice sA R.start.length sc,.bool R.falls,.bool R.keeps,.slice eA R.ends.length ec,.int .i64 R.blocked,.int .i64 R.quiet,.int .i64 R.rept] 26 #[.slice cA P.cells.length cc,.slice aA P.hand0.length ac,.slice bA P.hand1.length bc,.int .i64 P.turn,.int .i64 P.quiet] 29 #[.int .i64 D] 3
 have HX:=hide x1
 have K1:=hide k1
 have K2:=hide k2
 have K3:=hide k3
 clear x1 k1 k2 k3
 have f1:=K1.out.cell
 have f2:=K2.out.cell
 have f3:=K3.out.cell
 go_enter Crz.func13,Tryz.ntmps13
 go_wp2_with fail
 refine (HT.out _ HX.out).mono ?_
 rintro e w2 ⟨rfl,x2⟩
 have X2:=hide (ext_trans HX.out x2)
 have KA:=hide (K1.out.ext x2)
 have KB:=hide (K2.out.ext x2)
 have KC:=hide (K3.out.ext x2)
 clear f1 f2 f3 x2 K1 K2 K3
 have g1:=KA.out.cell
 have g2:=KB.out.cell
 have g3:=KC.out.cell
 go_wp2_with fail
 refine (HLI.out _ X2.out).mono ?_
 rintro e w3 ⟨v5,rfl,own5,x3⟩
 have X3:=hide (ext_trans X2.out x3)
 have KA3:=hide (KA.out.ext x3)
 have KB3:=hide (KB.out.ext x3)
 have KC3:=hide (KC.out.ext x3)
 have OW:=hide own5
 obtain ⟨A5,c5,rfl,-⟩:=own5
 clear g1 g2 g3 x3 KA KB KC HLI
 have hll:=HLL.out
 have hmk : ∀ W : World,(Instr.makeSlice 23 (.int .i64 (L.length : Int)) (.int .i64 (L.length : Int))).run Crz.prog W=.ok (.slice (some ⟨W.heap.size,0,none⟩) L.length L.length) (W.alloc (.cells (outRow c0 L.length 0) 3)):=fun W => make_out L.length HLL.out c0 W
 go_wp2_with fail
 obtain ⟨x4,b3,bO,b5⟩:=blks3 w3 #[.slice A5 L.length c5] 69 (outRow c0 L.length 0) 3 #[.slice (some ⟨w3.heap.size + 1,0,none⟩) L.length L.length] 23
 have hlt1:=X3.out.size
 have hltA:=KA3.out.lt
 have hltB:=KB3.out.lt
 have hltC:=KC3.out.lt
 have HSC : Hid (∀ W,Gr (w3.heap.size + 1) (((w3.alloc (.cells #[.slice A5 L.length c5] 69)).alloc (.cells (outRow c0 L.length 0) 3)).alloc (.cells #[.slice (some ⟨w3.heap.size + 1,0,none⟩) L.length L.length] 23)) W→ScAt W R P (.agg #[.string R.name,.int .i64 R.width,.int .i64 R.height,.slice pA R.pieces.length pc,.slice sA R.start.length sc,.bool R.falls,.bool R.keeps,.slice eA R.ends.length ec,.int .i64 R.blocked,.int .i64 R.quiet,.int .i64 R.rept]) (.agg #[.slice cA P.cells.length cc,.slice aA P.hand0.length ac,.slice bA P.hand1.length bc,.int .i64 P.turn,.int .i64 P.quiet]) D A5 c5 w.heap.size (w.heap.size + 1) w3.heap.size (w.heap.size + 1 + 1) (w3.heap.size + 1 + 1) (w3.heap.size + 1)):=hide (fun W gr => by
  have xw:=gr.to_ext (ext_trans X3.out x4) (by omega)
  have x3W:=gr.to_ext x4 (by omega)
  have rd : ∀ {B : Nat} {ty : TypeId} {cs : Array Value},Blk W B ty cs→Rd W B cs:=fun k i v hv => (k.cell i).trans hv
  obtain ⟨A',c',e',hM⟩:=OW.out.at_.ext x3W
  simp only [Value.slice.injEq] at e'
  obtain ⟨rfl,-,rfl⟩:=e'
  rw [← hL] at hM
  refine ⟨(HRF.out W xw).1,(HRF.out W xw).2,hM,⟨_,rfl,rd (gr.blk (KA3.out.ext x4) (by omega))⟩,⟨_,rfl,rd (gr.blk (KB3.out.ext x4) (by omega))⟩,?_,rd (gr.blk (KC3.out.ext x4) (by omega)),?_⟩
  ·rw [hL]; exact rd (gr.blk b3 (by omega))
  ·rw [hL]; exact rd (gr.blk b5 (by omega)))
 have HE:=hide (each_scores L.length W _ _ _ _ _ (w3.heap.size + 1) c0 _ (by omega) (fun i W1 hi gr => by
  have sa:=HSC.out W1 gr
  have hm : L[i]? = some L[i]:=List.getElem?_eq_getElem hi
  have hM:=sa.hM
  have h3:=sa.h3
  have h5:=sa.h5
  rw [hL] at hM h3 h5
  have e : c0 i=scoreOf R P (D.toNat - 1) L[i]:=hc0 i _ hm
  rw [e]
  exact ScoresF_any R P hV hS _ _ D hd0 hd L hL.symm i L[i] hm W1 _ _ _ _ _ _ c5 A5 sa.hR sa.hP hM sa.h1 sa.h2 h3 sa.h4 h5 (by omega)) bO (fun i hi => by
   rw [hc0 i _ (List.getElem?_eq_getElem hi)]
   have hb:=of_bound R (D.toNat - 1) (makeM R P L[i]) (turn_make hS.turn L[i]) (by omega)
   unfold scoreOf
   unfold boundB at hb
   have h1 : -2000≤ofM R (D.toNat - 1) (makeM R P L[i])∧ofM R (D.toNat - 1) (makeM R P L[i])≤2000:=by omega
   generalize ofM R (D.toNat - 1) (makeM R P L[i])=z at *
   have h2 : -2001≤nearM (-z)∧nearM (-z)≤2001:=by unfold nearM; split <;> (try split) <;> omega
   rw [IntKind.wrap_i64]; omega))
 have XF:=hide (fun W gr => Gr.to_ext (w0:=w) (a:=((w3.alloc (.cells #[Value.slice A5 L.length c5] 69)).alloc (.cells (outRow c0 L.length 0) 3)).alloc (.cells #[.slice (some ⟨w3.heap.size + 1,0,none⟩) L.length L.length] 23)) (b:=W) (B:=w3.heap.size + 1) gr (ext_trans X3.out x4) (by omega))
 refine HE.out.mono ?_
 rintro e w5 (⟨rfl,k9,g9⟩ | ⟨rfl,h9,g9⟩)
 ·have K9:=hide k9
  have b5':=g9.blk b5 (by omega)
  have f5:=b5'.cell
  have X9:=hide (XF.out w5 g9)
  have hO : Hid (w.heap.size≤w3.heap.size + 1):=hide (by omega)
  clear HE HSC b3 bO b5 b5' x4 k9 g9 hmk
  go_wp2
  go_ret2
  exact .inl ⟨_,hO.out,K9.out,rfl,X9.out⟩
 ·have hpre : ScPre w5 L.length W (.func (.func 42) #[] #[.pointer (some ⟨w.heap.size,0,none⟩),.pointer (some ⟨w.heap.size + 1,0,none⟩),.pointer (some ⟨w3.heap.size,0,none⟩),.pointer (some ⟨w.heap.size + 1 + 1,0,none⟩),.pointer (some ⟨w3.heap.size + 1 + 1,0,none⟩)]) (w3.heap.size + 1) c0 :=
   ⟨R,P,_,_,D,A5,c5,_,_,_,_,_,hV,hS,hd0,hd,HWN.out.1,HWN.out.2,by rw [hL],by rw [hL]; omega,Nat.succ_pos _,fun i m hm => hc0 i m (by rw [← hL]; exact hm),rfl,by rw [hL]; unfold Blk at bO ⊢; rw [← h9]; exact bO,fun W1 gr => HSC.out W1 (g9.trans gr)⟩
  have HPRE:=hide hpre
  clear HE HSC b3 bO b5 x4 g9 h9 hmk hpre
  go_wp2
  exact ⟨rfl,.inr ⟨_,_,rfl,HPRE.out⟩⟩
def sumOf (f : MoveM→Int) (L : List MoveM) (k : Nat) : Int:=((L.take k).map f).sum
theorem sumOf_succ {f : MoveM→Int} {L : List MoveM} {k : Nat} {m : MoveM} (h : L[k]? = some m) : sumOf f L (k + 1)=sumOf f L k + f m:=by
 unfold sumOf
 rw [List.take_add_one,h]
 simp
theorem count_bound {R : RulesM} {P : PosM} {D : Int} {m : MoveM} : 0≤countOf R P D m∧countOf R P D m≤50000:=by
 unfold countOf
 by_cases h : perftE R (makeM R P m) (D - 1)=0
 ·obtain ⟨-,-,-,-,ht⟩:=perft_zero h
  rw [show perftL R (makeM R P m) (D - 1)=leafM R (D - 1).toNat (makeM R P m) from if_pos h]
  have h1:=leaf_nonneg R (D - 1).toNat (makeM R P m)
  have h2:=leaf_le R (D - 1).toNat (makeM R P m)
  omega
 ·rw [show perftL R (makeM R P m) (D - 1)=0 from if_neg h]
  omega
theorem sumOf_bound {f : MoveM→Int} (hf : ∀ m,0≤f m∧f m≤50000) (L : List MoveM) : ∀ k,0≤sumOf f L k∧sumOf f L k≤50000 * k
 | 0 => by simp [sumOf]
 | k + 1 => by
  obtain ⟨h1,h2⟩:=sumOf_bound hf L k
  cases h : L[k]? with
  | none =>
   have : sumOf f L (k + 1)=sumOf f L k:=by unfold sumOf; rw [List.take_add_one,h]; simp
   rw [this]; omega
  | some m =>
   rw [sumOf_succ h]
   have:=hf m
   omega
structure CtAt (w : World) (R : RulesM) (P : PosM) (v u : Value) (D : Int) (A : Option Addr) (c3 : Nat) (B1 B2 B3 B4 : Nat) : Prop where
 hR : RulesAt w v R
 hP : PosAt w u P
 hM : CellsAt w A ((listM R P).flatMap MoveM.vals)
 h1 : ∃ cs,v=.agg cs∧Rd w B1 cs
 h2 : ∃ cs,u=.agg cs∧Rd w B2 cs
 h3 : Rd w B3 #[.slice A (listM R P).length c3]
 h4 : Rd w B4 #[.int .i64 D]
def CtPre (w : World) (n nw : Int) (f : Value) (O : Nat) : Prop :=
 ∃ (R : RulesM) (P : PosM) (v u : Value) (D : Int) (A : Option Addr) (c3 B1 B2 B3 B4 : Nat),Valid R∧Sound R P∧1≤D∧D≤12∧1≤nw∧nw≤8∧n=(listM R P).length∧(listM R P).length≤1000000 ∧
  f=.func (.func 38) #[] #[.pointer (some ⟨B1,0,none⟩),.pointer (some ⟨B2,0,none⟩),.pointer (some ⟨B3,0,none⟩),.pointer (some ⟨B4,0,none⟩),.pointer (some ⟨O,0,none⟩)] ∧
  Blk w O 81 #[.int .i64 0]∧∀ W,Gr O w W→CtAt W R P v u D A c3 B1 B2 B3 B4
abbrev markL (p : Value) : Value:=.iface 85 (.func (.func 41) #[] #[p])
def LdPre (w : World) (p : Value) : Prop:=∃ (O : Nat) (x : Int),p=.pointer (some ⟨O,0,none⟩)∧Blk w O 81 #[.int .i64 x]
noncomputable def restL : Go.Code:=match Sm.loadS.body with | some (.seq _ c) => c | _ => .skip
set_option maxHeartbeats 4000000 in
set_option maxRecDepth 100000 in
theorem loadRest (O : Nat) (x : Int) (w : World) (hO : Blk w O 81 #[.int .i64 x]) :
  restL.wp Crz.prog (bodyPost Crz.prog Sm.loadS fun e w' => e=.returned (.int .i64 x)∧Ext w w') ⟨#[.pointer (some ⟨O,0,none⟩),undef,undef,.bool false,undef,undef,undef,undef,undef,undef,undef,undef],[]⟩ w:=by
 have f1:=hO.cell
 simp only [restL,Sm.loadS,Sm.op1]
 go_wp2
 exact bodyPost_ret (v:=.int .i64 x) (by simp [results,Crz.results41,go_sem]) rfl ⟨rfl,Below.refl _ _⟩
set_option maxHeartbeats 4000000 in
set_option maxRecDepth 100000 in
theorem Load_any (O : Nat) (x : Int) (w : World) (hO : Blk w O 81 #[.int .i64 x]) :
  Calls Crz.prog 41 #[.pointer (some ⟨O,0,none⟩)] w fun e w' => (e=.returned (.int .i64 x)∧Ext w w')∨(e=.panicked [{ v:=markL (.pointer (some ⟨O,0,none⟩)),recovered:=false }]∧LdPre w' (.pointer (some ⟨O,0,none⟩))):=by
 have HO:=hide hO
 clear hO
 refine calls_of_wp Crz.func41 (c:=?c) ?hb ?_
 case hb =>
  simp only [Sm.loadS,Sm.op1]
  rfl
 simp only [Crz.ntmps41,List.size_toArray,List.length_cons,List.length_nil,Nat.reduceAdd,Nat.reduceSub,Array.replicate_succ,Array.replicate_zero,List.push_toArray,List.append_toArray,List.nil_append,List.cons_append]
 go_wp2_with fail
 refine region_K (fun W => W=w.drew) (fun _ => True) [] (by kernel_rfl) ?_
 refine anyK_on2 0 1 (by kernel_rfl) ?_ ?_
 ·skip
  refine anyK_one 0 (o:=?aa) ?haa ?kaa
  case haa => rfl
  case kaa =>
  intro K hK
  go_simp
  refine hK.out _ _ rfl (fun _ => trivial) ?_
  clear hK K
  try simp only [Act.put,List.setIfInBounds_toArray,List.set_cons_zero,List.set_cons_succ]
  refine anyK_on1 1 (by kernel_rfl) ?_
  refine anyK_one 1 (o:=?ab) ?hab ?kab
  case hab => rfl
  case kab =>
  intro K hK
  go_simp
  refine hK.out _ _ rfl (fun _ => trivial) ?_
  clear hK K
  try simp only [Act.put,List.setIfInBounds_toArray,List.set_cons_zero,List.set_cons_succ]
  refine anyK_done (by kernel_rfl) ?_ _
  have HO1:=hide (Blk.drew HO.out)
  have HE : Hid (Ext w w.drew):=hide ⟨rfl,rfl,rfl,Nat.le_refl _,fun _ _ => rfl⟩
  clear HO
  generalize w.drew=w1 at *
  have f1:=HO1.out.cell
  go_wp2
  exact bodyPost_ret (v:=.int .i64 x) (by simp [results,Crz.results41,go_sem]) rfl (.inl ⟨rfl,HE.out⟩)
 ·skip
  refine anyK_one 1 (o:=?ba) ?hba ?kba
  case hba => rfl
  case kba =>
  intro K hK
  go_simp
  refine hK.out _ _ rfl (fun _ => trivial) ?_
  clear hK K
  try simp only [Act.put,List.setIfInBounds_toArray,List.set_cons_zero,List.set_cons_succ]
  refine anyK_on1 0 (by kernel_rfl) ?_
  refine anyK_one 0 (o:=?bb) ?hbb ?kbb
  case hbb => rfl
  case kbb =>
  intro K hK
  go_simp
  refine hK.out _ _ rfl (fun _ => trivial) ?_
  clear hK K
  try simp only [Act.put,List.setIfInBounds_toArray,List.set_cons_zero,List.set_cons_succ]
  refine anyK_done (by kernel_rfl) ?_ _
  go_wp2
  exact ⟨rfl,.inr ⟨rfl,O,x,rfl,Blk.drew HO.out⟩⟩
set_option maxHeartbeats 4000000 in
set_option maxRecDepth 100000 in
theorem crowdCount_yes (R : RulesM) (P : PosM) (v u : Value) (D W : Int) (w : World) (hR : RulesAt w v R) (hP : PosAt w u P) (hE : crowdE R P D W=0) (hV : Valid R) (hS : Sound R P) (hd0 : 1≤D) (hd : D≤12) :
  Calls Crz.prog 12 #[v,u,.int .i64 D,.int .i64 W] w fun e w' => (e=.returned (.tuple #[.int .i64 (sumOf (countOf R P D) (listM R P) (listM R P).length),.int .i64 0])∧Ext w w')∨(∃ f O,e=.panicked [{ v:=markV (listM R P).length W f,recovered:=false }]∧CtPre w' (listM R P).length W f O)∨∃ p,e=.panicked [{ v:=markL p,recovered:=false }]∧LdPre w' p:=by
 have HT:=hide (fun W1 (hW : Ext w W1) => crowdCheck_any R P v u D W W1 (hR.ext hW) (hP.ext hW))
 have HRF:=hide (fun W (hW : Ext w W) => And.intro (hR.ext hW) (hP.ext hW))
 have HLI:=hide (fun W (hW : Ext w W) => List_any R P v u W (hR.ext hW) (hP.ext hW) hV hS)
 have HLL:=hide (listM_len hV hS)
 have HWN:=hide (crowdE_W hE)
 rw [hE] at HT
 clear hE
 generalize hL : listM R P=L at *
 obtain ⟨pA,pc,sA,sc,eA,ec,rfl,-⟩:=hR
 obtain ⟨cA,cc,aA,ac,bA,bc,rfl,-⟩:=hP
 obtain ⟨x1,k1,k2,k3⟩:=blks3 w #[.string R.name,.int .i64 R.width,.int .i64 R.height,.slice pA R.pieces.length pc,.slice sA R.start.length sc,.bool R.falls,.bool R.keeps,.slice eA R.ends.length ec,.int .i64 R.blocked,.int .i64 R.quiet,.int .i64 R.rept] 26 #[.slice cA P.cells.length cc,.slice aA P.hand0.length ac,.slice bA P.hand1.length bc,.int .i64 P.turn,.int .i64 P.quiet] 29 #[.int .i64 D] 3
 have HX:=hide x1
 have K1:=hide k1
 have K2:=hide k2
 have K3:=hide k3
 clear x1 k1 k2 k3
 have f1:=K1.out.cell
 have f2:=K2.out.cell
 have f3:=K3.out.cell
 go_enter Crz.func12,Tryz.ntmps12
 go_wp2_with fail
 refine (HT.out _ HX.out).mono ?_
 rintro e w2 ⟨rfl,x2⟩
 have X2:=hide (ext_trans HX.out x2)
 have KA:=hide (K1.out.ext x2)
 have KB:=hide (K2.out.ext x2)
 have KC:=hide (K3.out.ext x2)
 clear f1 f2 f3 x2 K1 K2 K3
 have g1:=KA.out.cell
 have g2:=KB.out.cell
 have g3:=KC.out.cell
 go_wp2_with fail
 refine (HLI.out _ X2.out).mono ?_
 rintro e w3 ⟨v5,rfl,own5,x3⟩
 have X3:=hide (ext_trans X2.out x3)
 have KA3:=hide (KA.out.ext x3)
 have KB3:=hide (KB.out.ext x3)
 have KC3:=hide (KC.out.ext x3)
 have OW:=hide own5
 obtain ⟨A5,c5,rfl,-⟩:=own5
 clear g1 g2 g3 x3 KA KB KC HLI
 have hll:=HLL.out
 go_wp2_with fail
 obtain ⟨x4,b3,bO⟩:=blks2 w3 #[.slice A5 L.length c5] 69 #[.int .i64 0] 81
 have hlt1:=X3.out.size
 have hltA:=KA3.out.lt
 have hltB:=KB3.out.lt
 have hltC:=KC3.out.lt
 have HSC : Hid (∀ W,Gr (w3.heap.size + 1) ((w3.alloc (.cells #[.slice A5 L.length c5] 69)).alloc (.cells #[.int .i64 0] 81)) W→CtAt W R P (.agg #[.string R.name,.int .i64 R.width,.int .i64 R.height,.slice pA R.pieces.length pc,.slice sA R.start.length sc,.bool R.falls,.bool R.keeps,.slice eA R.ends.length ec,.int .i64 R.blocked,.int .i64 R.quiet,.int .i64 R.rept]) (.agg #[.slice cA P.cells.length cc,.slice aA P.hand0.length ac,.slice bA P.hand1.length bc,.int .i64 P.turn,.int .i64 P.quiet]) D A5 c5 w.heap.size (w.heap.size + 1) w3.heap.size (w.heap.size + 1 + 1)):=hide (fun W gr => by
  have xw:=gr.to_ext (ext_trans X3.out x4) (by omega)
  have x3W:=gr.to_ext x4 (by omega)
  have rd : ∀ {B : Nat} {ty : TypeId} {cs : Array Value},Blk W B ty cs→Rd W B cs:=fun k i v hv => (k.cell i).trans hv
  obtain ⟨A',c',e',hM⟩:=OW.out.at_.ext x3W
  simp only [Value.slice.injEq] at e'
  obtain ⟨rfl,-,rfl⟩:=e'
  rw [← hL] at hM
  refine ⟨(HRF.out W xw).1,(HRF.out W xw).2,hM,⟨_,rfl,rd (gr.blk (KA3.out.ext x4) (by omega))⟩,⟨_,rfl,rd (gr.blk (KB3.out.ext x4) (by omega))⟩,?_,rd (gr.blk (KC3.out.ext x4) (by omega))⟩
  rw [hL]; exact rd (gr.blk b3 (by omega)))
 have HE:=hide (each_count L.length W _ _ _ _ _ (w3.heap.size + 1) (sumOf (countOf R P D) L) (fun i => countOf R P D (L.getD i ⟨0,0,0⟩)) _ (by omega) (fun i W1 hi gr => by
  have sa:=HSC.out W1 gr
  have hm : L[i]? = some L[i]:=List.getElem?_eq_getElem hi
  have hM:=sa.hM
  have h3:=sa.h3
  rw [hL] at hM h3
  have e : L.getD i ⟨0,0,0⟩=L[i]:=by simp [hi]
  rw [e]
  exact CountF_any R P hV hS _ _ D hd0 hd L hL.symm i L[i] hm W1 _ _ _ _ _ c5 A5 sa.hR sa.hP hM sa.h1 sa.h2 h3 sa.h4 (by omega)) (by simpa [sumOf] using bO) (fun i hi => by
   have e : L.getD i ⟨0,0,0⟩=L[i]:=by simp [hi]
   rw [e,sumOf_succ (List.getElem?_eq_getElem hi)]
   have h1:=sumOf_bound (f:=countOf R P D) (fun m => count_bound) L i
   have h2:=count_bound (R:=R) (P:=P) (D:=D) (m:=L[i])
   generalize sumOf (countOf R P D) L i=y at *
   generalize countOf R P D L[i]=z at *
   rw [IntKind.wrap_i64]; omega))
 have XF:=hide (fun W gr => Gr.to_ext (w0:=w) (a:=(w3.alloc (.cells #[Value.slice A5 L.length c5] 69)).alloc (.cells #[.int .i64 0] 81)) (b:=W) (B:=w3.heap.size + 1) gr (ext_trans X3.out x4) (by omega))
 have hpre0 : Hid (∀ w5,(((w3.alloc (.cells #[.slice A5 L.length c5] 69)).alloc (.cells #[.int .i64 0] 81)).heap=w5.heap)→Gr (w3.heap.size + 1) ((w3.alloc (.cells #[.slice A5 L.length c5] 69)).alloc (.cells #[.int .i64 0] 81)) w5→CtPre w5 L.length W (.func (.func 38) #[] #[.pointer (some ⟨w.heap.size,0,none⟩),.pointer (some ⟨w.heap.size + 1,0,none⟩),.pointer (some ⟨w3.heap.size,0,none⟩),.pointer (some ⟨w.heap.size + 1 + 1,0,none⟩),.pointer (some ⟨w3.heap.size + 1,0,none⟩)]) (w3.heap.size + 1)) :=
  hide (fun w5 h9 g9 => ⟨R,P,_,_,D,A5,c5,_,_,_,_,hV,hS,hd0,hd,HWN.out.1,HWN.out.2,by rw [hL],by rw [hL]; omega,rfl,by unfold Blk at bO ⊢; rw [← h9]; exact bO,fun W1 gr => HSC.out W1 (g9.trans gr)⟩)
 clear HSC
 have hbq:=sumOf_bound (f:=countOf R P D) (fun m => count_bound) L L.length
 generalize hq0 : sumOf (countOf R P D) L L.length=q at *
 have HQ:=hide hq0
 clear hq0
 have hwq : IntKind.i64.wrap q=q:=by rw [IntKind.wrap_i64]; omega
 clear hbq
 refine HE.out.mono ?_
 rintro e w5 (⟨rfl,k9,g9⟩ | ⟨rfl,h9,g9⟩)
 ·have HLD:=hide (Load_any _ _ _ k9)
  have X9:=hide (XF.out w5 g9)
  clear HE hpre0 b3 bO x4 k9 g9
  go_wp2_with fail
  refine HLD.out.mono ?_
  rintro e w6 (⟨rfl,x6⟩ | ⟨rfl,l6⟩)
  ·have X6:=hide (ext_trans X9.out x6)
   clear x6
   go_wp2
   go_ret2
   exact .inl ⟨by rw [HQ.out]; rfl,X6.out⟩
  ·have L6:=hide l6
   clear l6
   go_wp2
   exact ⟨rfl,.inr (.inr ⟨_,rfl,L6.out⟩)⟩
 ·have HPRE:=hide (hpre0.out w5 h9 g9)
  clear HE b3 bO x4 g9 h9 hpre0
  go_wp2
  exact ⟨rfl,.inr (.inl ⟨_,_,rfl,HPRE.out⟩)⟩
end Go.Proofs.YtdoibgmmijhlfaaGreat
