/- CrP CrQ CyL CyG CyW CyE CyB CyS CyU -/
import Derived.Test.YtdoibgmmijhlfaaGreatC46
import Derived.Test.YtdoibgmmijhlfaaGreatC47
import Derived.Conc.AtomicLaws2
import Derived.Conc.CrowdStepW
namespace Go.Proofs.YtdoibgmmijhlfaaGreat.Sm
open Go
set_option linter.unusedVariables false
noncomputable def famL:List Nat:=[3,7,8,6,13,36,35,46,50,55,82,83,84,121,120,141,86,85,122,87,79,116,117,118,140,52,51,44,75,76,115,139,60,74,77,34,58,93,59,61,95,132,133,94,124,125,143,126,144,145,127,146,147,149,128,129,130,131,62,64,96,63,65,39,70,89,42,43,73,45,29,9,10,28,15,17,47,78,48,11,16,12,38,41,14,18,19,4,20,21,22,27,54,49,23,25,24,53,80,81,119,26,5,30,31,32,56,88,90,33,57,91,123,142,148,92,37]
noncomputable def fam(f:FuncId):Bool:=famL.contains f
noncomputable def notM:List Nat:=[37,42,38,41]
noncomputable def famLM:List Nat:=famL.filter fun f=>!notM.contains f
noncomputable def famM(f:FuncId):Bool:=famLM.contains f
noncomputable def cxM:Cx:={ glob:=Tryz.prog.globals.size,mark:=(· == 85),f2:=fam,free:=false }
noncomputable def cx:Cx:={ glob:=Tryz.prog.globals.size,mark:=(· == 85) }
noncomputable def cx0:Cx:={ glob:=Tryz.prog.globals.size,mark:=fun _=>false }
noncomputable def dead(f:FuncId)(t:Nat):Bool:=f == 38 && t == 24
noncomputable def deadM(f:FuncId)(t:Nat):Bool:=f == 13 && t == 30 || f == 12 && t == 27
noncomputable def enters(p:Program)(f:FuncId):Bool:=match p.funcs[f]? with
 | some fn => !(fn.name == "runtime.NumGoroutine") && !fn.body.isNone
 | none=>false
noncomputable def goodFn(p p':Program)(fb:FuncId→Bool)(mk:TypeId→Bool)(d:Nat→Bool)(f:FuncId):Bool:=match p.funcs[f]? with
 | some fn=>(match fn.body with | some b=>goodCode p p' mk fb d b | none=>false)
 | none=>false
noncomputable def otherM(f:FuncId):Bool:=f == 13 || f == 12
theorem fam_enters:(famL.all fun f=>enters Crz.prog f && enters Tryz.prog f)=true:=by kernel_rfl
theorem fam_good_lone:(famL.all fun f=>goodFn Crz.prog Crz.prog fam cx0.mark (fun _=>false) f)=true:=by kernel_rfl
theorem fam_good_main:(famLM.all fun f=>otherM f || goodFn Crz.prog Tryz.prog famM cx.mark (fun _=>false) f)=true:=by kernel_rfl
theorem good_of{p p':Program}{fb:FuncId→Bool}{mk:TypeId→Bool}{d:Nat→Bool}{f:FuncId}(h:goodFn p p' fb mk d f=true):∃ fn b,p.funcs[f]? = some fn∧fn.body=some b∧goodCode p p' mk fb d b=true:=by
 unfold goodFn at h
 split at h
 ·rename_i fn hf
  split at h
  ·rename_i b hb
   exact⟨fn,b,hf,hb,h⟩
  ·cases h
 ·cases h
theorem enters_of{p:Program}{f:FuncId}(h:enters p f=true):Enters p f:=by
 unfold enters at h
 split at h
 ·rename_i fn hf
  simp only [Bool.and_eq_true,Bool.not_eq_true'] at h
  exact⟨fn,hf,h.1,h.2⟩
 ·cases h
theorem fam_mem{f:FuncId}(h:fam f=true):f∈famL:=by simpa [fam] using h
theorem fam_ent{f:FuncId}(h:fam f=true):Enters Crz.prog f∧Enters Tryz.prog f:=by
 have:=List.all_eq_true.1 fam_enters f (fam_mem h)
 simp only [Bool.and_eq_true] at this
 exact⟨enters_of this.1,enters_of this.2⟩
theorem liveRes_none{d:Nat→Bool}(hd:∀ t,d t=false)(fn:Func):liveRes d fn=true:=by
 unfold liveRes
 rw [List.all_eq_true]
 intro r _
 cases r <;> simp [hd]
theorem nm_ok : (Crz.prog.info? 0).all (fun i => (i.methods.find? (·.name == "")).isNone) = true := by kernel_rfl
theorem pL:Pair Crz.prog Crz.prog cx0 fam fam (fun _ _=>false) (fun _ _ _=>False):=by
 refine⟨fun _ _ fn _=>liveRes_none (fun _=>rfl) fn,⟨rfl,rfl,rfl,rfl,nm_ok⟩,?_,fun f h=>⟨(fam_ent h).1,(fam_ent h).1⟩,fun f h=>?_⟩
 ·exact Crz.globals_size
 ·obtain⟨fn,b,h1,h2,h3⟩:=good_of (List.all_eq_true.1 fam_good_lone f (fam_mem h))
  exact⟨fn,fn,b,b,h1,h1,rfl,rfl,h2,h2,CRel.refl h3⟩
inductive SpW:FuncId→Oper→Oper→Prop where
 | store {o o':Oper} (h:o.op=.move (.const (.bool true))) (h':o'.op=.store 3 (.tmp 22) (.tmp 21)) (d:o'.dst=.none):SpW 42 o o'
 | add {o o':Oper} (h:o.op=.move (.const (.bool true))) (h':o'.op=.call { callee:=.value (.func 40),args:=#[.tmp 5,.tmp 23],argTypes:=#[81,2] }) (d:o'.dst=some 24):SpW 38 o o'
def Hands(f g t a b e:Nat):Prop:=(f=13∧g=42∧t=30∧a=28∧b=29∧e=31)∨(f=12∧g=38∧t=27∧a=25∧b=26∧e=28)
inductive SpM:FuncId→Oper→Oper→Prop where
 | mk {f g t a b e:Nat} {o o':Oper} (c:Hands f g t a b e) (h:o.op=.makeFunc (.func g) #[] #[.tmp 4,.tmp 5,.tmp 11,.tmp 6,.tmp 12]) (h':o'.op=o.op) (d:o.dst=some t):SpM f o o'
 | each {f g t a b e:Nat} {o o':Oper} (c:Hands f g t a b e) (h:o.op=.call { callee:=.value (.func 37),args:=#[.tmp a,.tmp b,.tmp t],argTypes:=#[3,3,85] }) (h':o'.op=o.op) (d:o.dst=some e):SpM f o o'
 | ld {o o':Oper} (h:o.op=.call { callee:=.value (.func 41),args:=#[.tmp 12],argTypes:=#[81] }) (h':o'.op=o.op) (d:o.dst=some 29):SpM 12 o o'
def SpA(f:FuncId)(o o':Oper):Prop:=SpM f o o'∨SpW f o o'
noncomputable def deadA(f:FuncId)(t:Nat):Bool:=deadM f t || dead f t
theorem OpsRel.spots{p p':Program}{mk:TypeId→Bool}{fb:FuncId→Bool}{dd:Nat→Bool}{Sp:Oper→Oper→Prop}{ops:Array Oper}(i j:Nat){x y:Oper}(hx:ops[i]? = some x)(hy:ops[j]? = some y)(hg:goodGuards dd ops=true)
  (h:((List.range ops.size).all fun k=>k == i || k == j || match ops[k]? with | some o=>goodOp p p' mk fb dd o.op | .none=>true)=true) (hs:Sp x x) (ht:Sp y y) :
  OpsRel p p' mk fb dd Sp ops ops:=by
 refine⟨rfl,hg,fun k o o' ho ho'=>?_⟩
 rw [ho] at ho'
 cases ho'
 refine⟨rfl,rfl,rfl,?_⟩
 by_cases e1:k=i
 ·subst e1;rw [hx] at ho;cases ho;exact .inr hs
 by_cases e2:k=j
 ·subst e2;rw [hy] at ho;cases ho;exact .inr ht
 have hlt:=(Array.getElem?_eq_some_iff.1 ho).1
 have:=List.all_eq_true.1 h k (List.mem_range.2 hlt)
 rw [ho] at this
 simp only [Bool.or_eq_true,beq_iff_eq] at this
 exact .inl ⟨rfl,rfl,this.resolve_left fun e=>e.elim e1 e2⟩
theorem OpsRel.turned{p p':Program}{mk:TypeId→Bool}{fb:FuncId→Bool}{dd:Nat→Bool}{Sp:Oper→Oper→Prop}{ops:Array Oper}{i:Nat}{g:Oper→Oper}{x:Oper}(hx:ops[i]? = some x)(hg:goodGuards dd (ops.modify i g)=true)
  (h:((List.range ops.size).all fun j=>j == i || match ops[j]? with | some o=>goodOp p p' mk fb dd o.op | .none=>true)=true) (h1:(g x).after=x.after) (h2:(g x).guard=x.guard) (h3:(g x).dst=x.dst) (hs:Sp (g x) x) :
  OpsRel p p' mk fb dd Sp (ops.modify i g) ops:=by
 refine⟨by simp,hg,fun j o o' ho ho'=>?_⟩
 rw [Array.getElem?_modify] at ho
 by_cases hj:i=j
 ·subst hj
  rw [hx] at ho'
  cases ho'
  rw [if_pos rfl,hx] at ho
  cases ho
  exact⟨h1.symm,h2.symm,h3.symm,.inr hs⟩
 ·rw [if_neg hj,ho'] at ho
  cases ho
  have hlt:=(Array.getElem?_eq_some_iff.1 ho').1
  have:=List.all_eq_true.1 h j (List.mem_range.2 hlt)
  rw [ho'] at this
  simp only [Bool.or_eq_true,beq_iff_eq] at this
  exact⟨rfl,rfl,rfl,.inl ⟨rfl,rfl,this.resolve_left (Ne.symm hj)⟩⟩
noncomputable def opsOf:Code→Array Oper
 | .region _ ops _=>ops
 | _=>#[]
noncomputable def fstOf:Code→Code
 | .seq a _=>a
 | _=>.skip
noncomputable def sndOf:Code→Code
 | .seq _ b=>b
 | _=>.skip
noncomputable def scOps:Array Oper:=opsOf (Tryz.f42.body.getD .skip)
noncomputable def ctOps:Array Oper:=opsOf (sndOf (Tryz.f38.body.getD .skip))
noncomputable def ctFst:Code:=fstOf (Tryz.f38.body.getD .skip)
theorem sc_body:Tryz.f42.body=some (.region 0 scOps true):=by kernel_rfl
theorem ct_body:Tryz.f38.body=some (.seq ctFst (.region 1 ctOps false)):=by kernel_rfl
theorem scS_body:scoresS.body=some (.region 0 (scOps.modify 16 mute) true):=by kernel_rfl
theorem ctS_body:countS.body=some (.seq ctFst (.region 1 (ctOps.modify 1 mute) false)):=by kernel_rfl
noncomputable def scOp:Oper:=scOps.getD 16 (op1 none 0 (.move (.tmp 0)))
noncomputable def ctOp:Oper:=ctOps.getD 1 (op1 none 0 (.move (.tmp 0)))
theorem sc_op:scOps[16]? = some scOp:=by kernel_rfl
theorem ct_op:ctOps[1]? = some ctOp:=by kernel_rfl
theorem sc_look:((List.range scOps.size).all fun j=>j == 16 || match scOps[j]? with | some o=>goodOp Crz.prog Tryz.prog cx.mark famM (deadA 42) o.op | .none=>true)=true:=by kernel_rfl
theorem ct_look:((List.range ctOps.size).all fun j=>j == 1 || match ctOps[j]? with | some o=>goodOp Crz.prog Tryz.prog cx.mark famM (deadA 38) o.op | .none=>true)=true:=by kernel_rfl
theorem sc_rel:CRel Crz.prog Tryz.prog cx.mark famM (deadA 42) (SpA 42) (.region 0 (scOps.modify 16 mute) true) (.region 0 scOps true) :=
 .region 0 true (OpsRel.turned sc_op (by kernel_rfl) sc_look rfl rfl rfl (.inr (.store (by kernel_rfl) (by kernel_rfl) (by kernel_rfl))))
theorem ct_rel:CRel Crz.prog Tryz.prog cx.mark famM (deadA 38) (SpA 38) (.seq ctFst (.region 1 (ctOps.modify 1 mute) false)) (.seq ctFst (.region 1 ctOps false)) :=
 .seq (CRel.refl (by kernel_rfl)) (.region 1 false (OpsRel.turned ct_op (by kernel_rfl) ct_look rfl rfl rfl (.inr (.add (by kernel_rfl) (by kernel_rfl) (by kernel_rfl)))))
noncomputable def bdS:Code:=Tryz.f13.body.getD .skip
noncomputable def bdC:Code:=Tryz.f12.body.getD .skip
noncomputable def c1(b:Code):Code:=fstOf b
noncomputable def c2(b:Code):Code:=fstOf (sndOf b)
noncomputable def c3(b:Code):Code:=fstOf (sndOf (sndOf b))
noncomputable def c4(b:Code):Code:=fstOf (sndOf (sndOf (sndOf b)))
noncomputable def c5(b:Code):Array Oper:=opsOf (fstOf (sndOf (sndOf (sndOf (sndOf b)))))
noncomputable def c6(b:Code):Code:=sndOf (sndOf (sndOf (sndOf (sndOf b))))
theorem s_body:Tryz.f13.body=some (.seq (c1 bdS) (.seq (c2 bdS) (.seq (c3 bdS) (.seq (c4 bdS) (.seq (.region 6 (c5 bdS) false) (c6 bdS)))))):=by kernel_rfl
noncomputable def c7:Array Oper:=opsOf (fstOf (c6 bdC))
theorem c_body:Tryz.f12.body=some (.seq (c1 bdC) (.seq (c2 bdC) (.seq (c3 bdC) (.seq (c4 bdC) (.seq (.region 6 (c5 bdC) false) (.seq (.region 7 c7 false) .ret)))))):=by kernel_rfl
noncomputable def c7O:Oper:=c7.getD 0 (op1 none 0 (.move (.tmp 0)))
theorem c7_op:c7[0]? = some c7O:=by kernel_rfl
theorem c7_look:((List.range c7.size).all fun k=>k == 0 || k == 0 || match c7[k]? with | some o=>goodOp Crz.prog Tryz.prog cxM.mark famM (deadM 12) o.op | .none=>true)=true:=by kernel_rfl
noncomputable def spO(b:Code)(i:Nat):Oper:=(c5 b).getD i (op1 none 0 (.move (.tmp 0)))
theorem s_op3:(c5 bdS)[3]? = some (spO bdS 3):=by kernel_rfl
theorem s_op4:(c5 bdS)[4]? = some (spO bdS 4):=by kernel_rfl
theorem c_op3:(c5 bdC)[3]? = some (spO bdC 3):=by kernel_rfl
theorem c_op4:(c5 bdC)[4]? = some (spO bdC 4):=by kernel_rfl
theorem s_look:((List.range (c5 bdS).size).all fun k=>k == 3 || k == 4 || match (c5 bdS)[k]? with | some o=>goodOp Crz.prog Tryz.prog cxM.mark famM (deadM 13) o.op | .none=>true)=true:=by kernel_rfl
theorem s_rel{Sp:Oper→Oper→Prop}(hSp:∀ o o',SpM 13 o o'→Sp o o'):CRel Crz.prog Tryz.prog cxM.mark famM (deadM 13) Sp (.seq (c1 bdS) (.seq (c2 bdS) (.seq (c3 bdS) (.seq (c4 bdS) (.seq (.region 6 (c5 bdS) false) (c6 bdS)))))) (.seq (c1 bdS) (.seq (c2 bdS) (.seq (c3 bdS) (.seq (c4 bdS) (.seq (.region 6 (c5 bdS) false) (c6 bdS)))))) :=
 .seq (CRel.refl (by kernel_rfl)) (.seq (CRel.refl (by kernel_rfl)) (.seq (CRel.refl (by kernel_rfl)) (.seq (CRel.refl (by kernel_rfl)) (.seq (.region 6 false (OpsRel.spots 3 4 s_op3 s_op4 (by kernel_rfl) s_look
  (hSp _ _ (.mk (.inl ⟨rfl,rfl,rfl,rfl,rfl,rfl⟩) (by kernel_rfl) rfl (by kernel_rfl))) (hSp _ _ (.each (.inl ⟨rfl,rfl,rfl,rfl,rfl,rfl⟩) (by kernel_rfl) rfl (by kernel_rfl))))) (CRel.refl (by kernel_rfl))))))
theorem c_look:((List.range (c5 bdC).size).all fun k=>k == 3 || k == 4 || match (c5 bdC)[k]? with | some o=>goodOp Crz.prog Tryz.prog cxM.mark famM (deadM 12) o.op | .none=>true)=true:=by kernel_rfl
theorem c_rel{Sp:Oper→Oper→Prop}(hSp:∀ o o',SpM 12 o o'→Sp o o'):CRel Crz.prog Tryz.prog cxM.mark famM (deadM 12) Sp (.seq (c1 bdC) (.seq (c2 bdC) (.seq (c3 bdC) (.seq (c4 bdC) (.seq (.region 6 (c5 bdC) false) (.seq (.region 7 c7 false) .ret)))))) (.seq (c1 bdC) (.seq (c2 bdC) (.seq (c3 bdC) (.seq (c4 bdC) (.seq (.region 6 (c5 bdC) false) (.seq (.region 7 c7 false) .ret)))))) :=
 .seq (CRel.refl (by kernel_rfl)) (.seq (CRel.refl (by kernel_rfl)) (.seq (CRel.refl (by kernel_rfl)) (.seq (CRel.refl (by kernel_rfl)) (.seq (.region 6 false (OpsRel.spots 3 4 c_op3 c_op4 (by kernel_rfl) c_look
  (hSp _ _ (.mk (.inr ⟨rfl,rfl,rfl,rfl,rfl,rfl⟩) (by kernel_rfl) rfl (by kernel_rfl))) (hSp _ _ (.each (.inr ⟨rfl,rfl,rfl,rfl,rfl,rfl⟩) (by kernel_rfl) rfl (by kernel_rfl))))) (.seq (.region 7 false (OpsRel.spots 0 0 c7_op c7_op (by kernel_rfl) c7_look (hSp _ _ (.ld (by kernel_rfl) rfl (by kernel_rfl))) (hSp _ _ (.ld (by kernel_rfl) rfl (by kernel_rfl))))) .ret)))))
theorem famM_mem{f:FuncId}(h:famM f=true):f∈famLM:=by simpa [famM] using h
theorem famM_fam{f:FuncId}(h:famM f=true):fam f=true:=by
 have:=famM_mem h
 unfold famLM at this
 simpa [fam] using (List.mem_filter.1 this).1
theorem famM_not{f:FuncId}(h:famM f=true):f≠37∧f≠42∧f≠38∧f≠41:=by
 have:=(List.mem_filter.1 (famM_mem h)).2
 simpa [notM] using this
theorem same_of{f:FuncId}(h1:f≠37)(h2:f≠42)(h3:f≠38)(h4:f≠41){fn:Func}(g1:Crz.prog.funcs[f]? = some fn):Tryz.prog.funcs[f]? = some fn:=by
 rw [Tb.funcs_eq,Tb.set_ne h4,Tb.set_ne h3,Tb.set_ne h2,Tb.set_ne h1] at g1
 exact g1
theorem pair_gen{G:Cx}(hg:G.glob=Tryz.prog.globals.size)(hm:G.mark=cxM.mark){dd:FuncId→Nat→Bool}{Sp:FuncId→Oper→Oper→Prop}(hdd:∀ f,famM f=true→dd f=deadM f)(hSp:∀ f o o',SpM f o o'→Sp f o o'):Pair Crz.prog Tryz.prog G famM famM dd Sp:=by
 refine⟨fun f h fn hf=>?_,⟨Tb.tabs.symm,by rw [Crz.rt_eq,Tryz.rt_eq,hm];rfl,by rw [Crz.rt_eq,Tryz.rt_eq,hm];rfl,by rw [Crz.rt_eq,Tryz.rt_eq,hm];rfl,nm_ok⟩,by rw [hg];exact Crz.globals_size,fun f h=>fam_ent (famM_fam h),fun f h=>?_⟩
 all_goals rw [hdd f h]
 ·by_cases e1:f=13
  ·subst e1
   rw [Crz.func13] at hf
   cases hf
   have hl:liveRes (deadM 13) Tryz.f13=true:=by kernel_rfl
   exact hl
  by_cases e2:f=12
  ·subst e2
   rw [Crz.func12] at hf
   cases hf
   have hl:liveRes (deadM 12) Tryz.f12=true:=by kernel_rfl
   exact hl
  exact liveRes_none (fun t=>by simp [deadM,e1,e2]) fn
 ·obtain⟨h1,h2,h3,h4⟩:=famM_not h
  by_cases e1:f=13
  ·subst e1
   exact⟨_,_,_,_,Crz.func13,Tryz.func13,rfl,rfl,s_body,s_body,by rw [hm];exact s_rel (hSp _)⟩
  by_cases e2:f=12
  ·subst e2
   exact⟨_,_,_,_,Crz.func12,Tryz.func12,rfl,rfl,c_body,c_body,by rw [hm];exact c_rel (hSp _)⟩
  have ho:otherM f=false:=by simp [otherM,e1,e2]
  obtain⟨fn,b,g1,g2,g3⟩:=good_of (((Bool.or_eq_true_iff).1 (List.all_eq_true.1 fam_good_main f (famM_mem h))).resolve_left (by rw [ho];exact Bool.false_ne_true))
  have e3:deadM f=fun _=>false:=funext fun t=>by simp [deadM,e1,e2]
  exact⟨fn,fn,b,b,g1,same_of h1 h2 h3 h4 g1,rfl,rfl,g2,g2,by rw [e3,hm];exact CRel.refl g3⟩
theorem pair_main:Pair Crz.prog Tryz.prog cxM famM famM deadM SpM:=pair_gen rfl rfl (fun _ _=>rfl) fun _ _ _ h=>h
theorem pair_work:Pair Crz.prog Tryz.prog cx famM famM deadA SpA:=pair_gen (G:=cx) (dd:=deadA) (Sp:=SpA) rfl rfl (fun f h=>funext fun t=>by unfold deadA dead;simp [(famM_not h).2.2.1]) fun _ _ _ h=>Or.inl h
noncomputable def dops:Array Oper:=#[op1 (some 3) 4 (.assign (.const (.bool true))),op1 (some 3) 4 (.assign (.const (.bool false)))]
theorem sched_ft:∃ k,Region.schedule (Crz.prog.follows .mixedOrders) dops k=[0,1]:=by
 exact⟨0,by kernel_rfl⟩
theorem sched_tf:∃ k,Region.schedule (Crz.prog.follows .mixedOrders) dops k=[1,0]:=by
 exact⟨1,by kernel_rfl⟩
abbrev LWc(R:Ending→World→Prop)(s:LS):Prop:=LW Crz.prog cx0 fam R s
section
variable {R:Ending→World→Prop}{f:FuncId}{ts:Array Value}{k:List Item}{cs:List Frame}{w:World}
theorem LW.seq{a b:Code}(h:LWc R ⟨fr0 f ts (.code (.seq a b) :: k) .run,cs,w⟩):LWc R ⟨fr0 f ts (.code a :: .code b :: k) .run,cs,w⟩∧Nx Crz.prog ⟨fr0 f ts (.code a :: .code b :: k) .run,cs,w⟩ ⟨fr0 f ts (.code (.seq a b) :: k) .run,cs,w⟩ :=
 h.go pL (t:=w.tape) fun m0 rest=>c_seq Crz.prog m0 f ts k (cs++rest) w a b
theorem LW.cond{c:Operand}{a b:Code}(t:Bool)(hc:(fr0 f ts (.code (.cond c a b) :: k) .run).eval c=.bool t)(h:LWc R ⟨fr0 f ts (.code (.cond c a b) :: k) .run,cs,w⟩):LWc R ⟨fr0 f ts (.code (if t then a else b) :: k) .run,cs,w⟩∧Nx Crz.prog ⟨fr0 f ts (.code (if t then a else b) :: k) .run,cs,w⟩ ⟨fr0 f ts (.code (.cond c a b) :: k) .run,cs,w⟩ :=
 h.go pL (t:=w.tape) fun m0 rest=>c_cond Crz.prog m0 f ts k (cs++rest) w c a b t hc
theorem LW.region{id:Nat}{ops:Array Oper}(h:LWc R ⟨fr0 f ts (.code (.region id ops false) :: k) .run,cs,w⟩):LWc R ⟨fr0 f ts (.inRegion ops (List.range ops.size) :: k) .run,cs,w⟩∧Nx Crz.prog ⟨fr0 f ts (.inRegion ops (List.range ops.size) :: k) .run,cs,w⟩ ⟨fr0 f ts (.code (.region id ops false) :: k) .run,cs,w⟩ :=
 h.go pL (t:=w.tape) fun m0 rest=>c_region Crz.prog m0 f ts k (cs++rest) w id ops
theorem LW.regionEnd{ops:Array Oper}(h:LWc R ⟨fr0 f ts (.inRegion ops [] :: k) .run,cs,w⟩):LWc R ⟨fr0 f ts k .run,cs,w⟩∧Nx Crz.prog ⟨fr0 f ts k .run,cs,w⟩ ⟨fr0 f ts (.inRegion ops [] :: k) .run,cs,w⟩ :=
 h.go pL (t:=w.tape) fun m0 rest=>c_regionEnd Crz.prog m0 f ts k (cs++rest) w ops
theorem LW.draw{id:Nat}{ops:Array Oper}(a:Nat)(h:LWc R ⟨fr0 f ts (.code (.region id ops true) :: k) .run,cs,w⟩) :
  LWc R ⟨fr0 f ts (.inRegion ops (Region.schedule (Crz.prog.follows .mixedOrders) ops a) :: k) .run,cs,{ w with tape:=fun _ _=>a,drawn:=w.drawn+1 }⟩∧Nx Crz.prog ⟨fr0 f ts (.inRegion ops (Region.schedule (Crz.prog.follows .mixedOrders) ops a) :: k) .run,cs,{ w with tape:=fun _ _=>a,drawn:=w.drawn+1 }⟩ ⟨fr0 f ts (.code (.region id ops true) :: k) .run,cs,w⟩ :=
 h.go pL (t:=fun _ _=>a) fun m0 rest=>c_draw Crz.prog m0 f ts k (cs++rest) _ id ops
theorem LW.value{ops:Array Oper}{i:Nat}{r:List Nat}{o:Oper}{v:Value}(ho:ops[i]? = some o)(hg:o.guard=none)(hv:(execOp (fr0 f ts (.inRegion ops (i :: r) :: k) .run).eval o).runT Crz.prog w #[]=(.ok (.value v) w,#[]))(h:LWc R ⟨fr0 f ts (.inRegion ops (i :: r) :: k) .run,cs,w⟩) :
  LWc R ⟨(fr0 f ts (.inRegion ops (i :: r) :: k) .run).finish v,cs,w⟩∧Nx Crz.prog ⟨(fr0 f ts (.inRegion ops (i :: r) :: k) .run).finish v,cs,w⟩ ⟨fr0 f ts (.inRegion ops (i :: r) :: k) .run,cs,w⟩ :=
 h.go pL (t:=w.tape) fun m0 rest=>by
  have hw:Region.wanted o (yielded ops ts)=true:=by unfold Region.wanted;rw [hg]
  exact(c_oper Crz.prog m0 f ts k (cs++rest) w ops i r o ho hw).trans (c_value Crz.prog f ts k (cs++rest) w ops i r _ v w #[] hv)
theorem LW.panic{ops:Array Oper}{i:Nat}{r:List Nat}{o:Oper}{v:Value}(ho:ops[i]? = some o)(hg:o.guard=none)(hv:(execOp (fr0 f ts (.inRegion ops (i :: r) :: k) .run).eval o).runT Crz.prog w #[]=(.halt (.panic v) w,#[]))(h:LWc R ⟨fr0 f ts (.inRegion ops (i :: r) :: k) .run,cs,w⟩) :
  LWc R ⟨fr0 f ts (.inRegion ops (i :: r) :: k) (.panicking [{ v,recovered:=false }]),cs,w⟩ :=
 (h.go pL (s1:=⟨fr0 f ts (.inRegion ops (i :: r) :: k) (.panicking [{ v,recovered:=false }]),cs,w⟩) (t:=w.tape) fun m0 rest=>by
  have hw:Region.wanted o (yielded ops ts)=true:=by unfold Region.wanted;rw [hg]
  exact(c_oper Crz.prog m0 f ts k (cs++rest) w ops i r o ho hw).trans (c_panic Crz.prog f ts k (cs++rest) w ops i r _ v w #[] hv)).1
theorem LW.ask{rest:Code}(h:LWc R ⟨fr0 f ts [.code (.seq (.region 0 dops true) rest)] .run,cs,w⟩)(b:Bool):∃ a,
  LWc R ⟨fr0 f ((ts.setIfInBounds 3 (.bool (!b))).setIfInBounds 3 (.bool b)) [.code rest] .run,cs,{ w with tape:=fun _ _=>a,drawn:=w.drawn+1 }⟩ ∧
  Nx' Crz.prog ⟨fr0 f ((ts.setIfInBounds 3 (.bool (!b))).setIfInBounds 3 (.bool b)) [.code rest] .run,cs,{ w with tape:=fun _ _=>a,drawn:=w.drawn+1 }⟩ ⟨fr0 f ts [.code (.seq (.region 0 dops true) rest)] .run,cs,w⟩:=by
 obtain⟨h1,n1⟩:=h.seq
 cases b with
 | false =>
  obtain⟨a,ha⟩:=sched_ft
  obtain⟨h2,n2⟩:=h1.draw a
  rw [ha] at h2 n2
  obtain⟨h3,n3⟩:=h2.value (v:=.bool true) rfl rfl rfl
  obtain⟨h4,n4⟩:=LW.value (v:=.bool false) rfl rfl rfl h3
  obtain⟨h5,n5⟩:=LW.regionEnd h4
  exact⟨a,h5,(((.single n5:Nx' _ _ _).trans (.single n4)).trans (.single n3)).trans ((Relation.TransGen.single n2).trans (.single n1))⟩
 | true =>
  obtain⟨a,ha⟩:=sched_tf
  obtain⟨h2,n2⟩:=h1.draw a
  rw [ha] at h2 n2
  obtain⟨h3,n3⟩:=h2.value (v:=.bool false) rfl rfl rfl
  obtain⟨h4,n4⟩:=LW.value (v:=.bool true) rfl rfl rfl h3
  obtain⟨h5,n5⟩:=LW.regionEnd h4
  exact⟨a,h5,(((.single n5:Nx' _ _ _).trans (.single n4)).trans (.single n3)).trans ((Relation.TransGen.single n2).trans (.single n1))⟩
end
noncomputable def ndE:Code:=match Sm.eachS.body with | some (.seq _ c)=>c | _=>.skip
noncomputable def ndL:Code:=match Sm.loadS.body with | some (.seq _ c)=>c | _=>.skip
theorem each_body:eachS.body=some (.seq (.region 0 dops true) ndE):=rfl
theorem load_body:loadS.body=some (.seq (.region 0 dops true) ndL):=rfl
section
variable {R:Ending→World→Prop}{cs:List Frame}{w:World}
theorem each_enter(x y f:Value):Frame.enter Crz.prog 37 #[x,y,f] .normal=fr0 37 #[x,y,f,undef,undef,undef,undef,undef,undef,undef,undef,undef,undef,undef,undef] [.code (.seq (.region 0 dops true) ndE)] .run:=by
 simp [Frame.enter,Crz.func37,each_body,Crz.ntmps37,fr0]
theorem load_enter(x:Value):Frame.enter Crz.prog 41 #[x] .normal=fr0 41 #[x,undef,undef,undef,undef,undef,undef,undef,undef,undef,undef,undef] [.code (.seq (.region 0 dops true) ndL)] .run:=by
 simp [Frame.enter,Crz.func41,load_body,Crz.ntmps41,fr0]
theorem mkI(ev:Operand→Value)(t:Operand)(d:Option Tmp):(execOp ev (op1 d 85 (.makeInterface 85 t))).runT Crz.prog w #[]=(.ok (.value (.iface 85 (ev t))) w,#[]):=by
 simp [execOp,op1,Instr.makeInterface,go_sem]
theorem mkF3{ev:Operand→Value}{a b c:Operand}{x y z:Value}{d:Option Tmp}{g:FuncId}(h1:ev a=x)(h2:ev b=y)(h3:ev c=z):(execOp ev (op1 d 85 (.makeFunc (.func g) #[] #[a,b,c]))).runT Crz.prog w #[]=(.ok (.value (.func (.func g) #[] #[x,y,z])) w,#[]):=by
 simp [execOp,op1,Instr.makeFunc,h1,h2,h3,go_sem]
theorem mkF1{ev:Operand→Value}{a:Operand}{x:Value}{d:Option Tmp}{g:FuncId}(h1:ev a=x):(execOp ev (op1 d 85 (.makeFunc (.func g) #[] #[a]))).runT Crz.prog w #[]=(.ok (.value (.func (.func g) #[] #[x])) w,#[]):=by
 simp [execOp,op1,Instr.makeFunc,h1,go_sem]
theorem each_panics(hR:∀ w,¬ R .outgrown w){x y f:Value}(h:LWc R ⟨Frame.enter Crz.prog 37 #[x,y,f] .normal,cs,w⟩):∃ t d,R (.panicked [{ v:=.iface 85 (.func (.func 37) #[] #[x,y,f]),recovered:=false }]) { w with tape:=t,drawn:=d }:=by
 rw [each_enter] at h
 obtain⟨a,h1,_⟩:=h.ask true
 obtain⟨h2,_⟩:=LW.seq h1
 obtain⟨h3,_⟩:=LW.cond true rfl h2
 obtain⟨h4,_⟩:=LW.region h3
 obtain⟨h5,_⟩:=LW.value (v:=.func (.func 37) #[] #[x,y,f]) rfl rfl (mkF3 rfl rfl rfl) h4
 obtain⟨h6,_⟩:=LW.value (v:=.iface 85 (.func (.func 37) #[] #[x,y,f])) rfl rfl (mkI _ _ _) h5
 have h7:=LW.panic (v:=.iface 85 (.func (.func 37) #[] #[x,y,f])) rfl rfl rfl h6
 obtain⟨t,r⟩:=LW.panics pL hR _ _ _ _ h7 rfl
 exact⟨_,_,r⟩
theorem load_panics(hR:∀ w,¬ R .outgrown w){x:Value}(h:LWc R ⟨Frame.enter Crz.prog 41 #[x] .normal,cs,w⟩):∃ t d,R (.panicked [{ v:=.iface 85 (.func (.func 41) #[] #[x]),recovered:=false }]) { w with tape:=t,drawn:=d }:=by
 rw [load_enter] at h
 obtain⟨a,h1,_⟩:=h.ask true
 obtain⟨h2,_⟩:=LW.seq h1
 obtain⟨h3,_⟩:=LW.cond true rfl h2
 obtain⟨h4,_⟩:=LW.region h3
 obtain⟨h5,_⟩:=LW.value (v:=.func (.func 41) #[] #[x]) rfl rfl (mkF1 rfl) h4
 obtain⟨h6,_⟩:=LW.value (v:=.iface 85 (.func (.func 41) #[] #[x])) rfl rfl (mkI _ _ _) h5
 have h7:=LW.panic (v:=.iface 85 (.func (.func 41) #[] #[x])) rfl rfl rfl h6
 obtain⟨t,r⟩:=LW.panics pL hR _ _ _ _ h7 rfl
 exact⟨_,_,r⟩
theorem LW.rest{f:FuncId}{fn:Func}{ts:Array Value}{c:Code}{cf:Frame}{Q:Ending→World→Prop}(hf:Crz.prog.funcs[f]? = some fn)(hQ:∀ e w,Q e w→∃ v,e=.returned v)(hc:c.wp Crz.prog (bodyPost Crz.prog fn Q) ⟨ts,[]⟩ w)
  (h:LWc R ⟨fr0 f ts [.code c] .run,cf :: cs,w⟩):∃ v w',Q (.returned v) w'∧LWc R ⟨cf.finish v,cs,w'⟩∧Nx Crz.prog ⟨cf.finish v,cs,w'⟩ ⟨fr0 f ts [.code c] .run,cf :: cs,w⟩:=by
 obtain⟨e,a',w',hq,harr⟩:=hc { (default:Frame) with fn:=f,kind:=.normal } [] (cf :: cs++[c0])
 have fin:∀ {fr:Frame} {v:Value},Q (.returned v) w'→Steps Crz.prog (lone (fr0 f ts [.code c] .run) (cf :: cs++[c0]) w) (lone fr (cf :: cs++[c0]) w')→fr.leaving Crz.prog w' (.returned v)→∃ v w',Q (.returned v) w'∧LWc R ⟨cf.finish v,cs,w'⟩∧Nx Crz.prog ⟨cf.finish v,cs,w'⟩ ⟨fr0 f ts [.code c] .run,cf :: cs,w⟩:=by
  intro fr v q hs hl
  obtain⟨N,hN⟩:=hs
  have hst:=step_leave_returned (c:=cf) (cs:=cs++[c0]) hl
  obtain⟨g,n⟩:=h.run pL (s1:=⟨cf.finish v,cs,w'⟩) (t:=w.tape) (n:=N) (by
   rw [runN_add]
   have hN':runN Crz.prog N (lone (fr0 f ts [.code c] .run) (cf :: cs++[c0]) (w.taped w.tape))=_:=hN
   rw [hN']
   simp only [runN]
   have hst':step Crz.prog (lone fr (cf :: cs++[c0]) w')=_:=hst
   rw [hst'])
  exact⟨v,w',q,g,n⟩
 cases e with
 | normal =>
  obtain⟨hd,v,hr,hR⟩:=hq
  exact fin hR (Steps.trans harr (.one step_end)) ⟨rfl,hd,rfl,fn,hf,hr⟩
 | ret =>
  obtain⟨hd,v,hr,hR⟩:=hq
  obtain⟨todo,hs⟩:=harr
  exact fin hR hs ⟨rfl,hd,rfl,fn,hf,hr⟩
 | panic chain =>
  obtain⟨hd,hR⟩:=hq
  obtain⟨v,hv⟩:=hQ _ _ hR
  cases hv
 | outgrown=>obtain⟨v,hv⟩:=hQ _ _ hq;cases hv
 | exit id=>exact hq.elim
 | goto l=>exact hq.elim
end
end Go.Proofs.YtdoibgmmijhlfaaGreat.Sm
namespace Go.Proofs.YtdoibgmmijhlfaaGreat.Sm
open Go Go.Conc Go.Conc.Lib
set_option linter.unusedVariables false
noncomputable def wl:WgLink:={ add:=66,done:=68,wait:=69,relMerge:=97,disable:=98,enable:=99,inBubble:=100,associate:=101,fatal:=102,uOr:=103,uAdd:=104,raceRead:=105,uLoad:=106,uStore:=107,disassociate:=108,semrelease:=109,acquire:=110,isAssociated:=111,uCas:=112,raceWrite:=113,semacquire:=114,orU64:=134,addU64:=135,loadU64:=136,storeU64:=137,casU64:=138,tWgP:=150,tUP:=152,tAssoc:=153,tWg:=124,tAU:=121,tU64:=119,tUint:=149,tU32:=122,tPU32:=157,tPAU:=184,tPU64:=186,tNoCopy:=118,tANoCopy:=78,tAlign64:=79 }
theorem wgLib:WgLib Tryz.prog wl where
 f_add:=Tryz.func66
 f_done:=Tryz.func68
 f_wait:=Tryz.func69
 f_relMerge:=Tryz.func97
 f_disable:=Tryz.func98
 f_enable:=Tryz.func99
 f_inBubble:=Tryz.func100
 f_associate:=Tryz.func101
 f_fatal:=Tryz.func102
 f_uOr:=Tryz.func103
 f_uAdd:=Tryz.func104
 f_raceRead:=Tryz.func105
 f_uLoad:=Tryz.func106
 f_uStore:=Tryz.func107
 f_disassociate:=Tryz.func108
 f_semrelease:=Tryz.func109
 f_acquire:=Tryz.func110
 f_isAssociated:=Tryz.func111
 f_uCas:=Tryz.func112
 f_raceWrite:=Tryz.func113
 f_semacquire:=Tryz.func114
 f_orU64:=Tryz.func134
 f_addU64:=Tryz.func135
 f_loadU64:=Tryz.func136
 f_storeU64:=Tryz.func137
 f_casU64:=Tryz.func138
 underlying_tWgP:=Tryz.underlying150
 runUnderlying_tWgP:=Tryz.runUnderlying150
 sizeOf_tWgP:=Tryz.sizeOf150
 isAgg_tWgP:=Tryz.isAgg150
 zeroValue_tWgP:=Tryz.zeroValue150
 underlying_tUP:=Tryz.underlying152
 runUnderlying_tUP:=Tryz.runUnderlying152
 sizeOf_tUP:=Tryz.sizeOf152
 isAgg_tUP:=Tryz.isAgg152
 zeroValue_tUP:=Tryz.zeroValue152
 underlying_tI32:=Tryz.underlying153
 runUnderlying_tI32:=Tryz.runUnderlying153
 sizeOf_tI32:=Tryz.sizeOf153
 isAgg_tI32:=Tryz.isAgg153
 zeroValue_tI32:=Tryz.zeroValue153
 underlying_tWg:=Tryz.underlying124
 runUnderlying_tWg:=Tryz.runUnderlying124
 sizeOf_tWg:=Tryz.sizeOf124
 isAgg_tWg:=Tryz.isAgg124
 zeroValue_tWg:=Tryz.zeroValue124
 underlying_tAU:=Tryz.underlying121
 runUnderlying_tAU:=Tryz.runUnderlying121
 sizeOf_tAU:=Tryz.sizeOf121
 isAgg_tAU:=Tryz.isAgg121
 zeroValue_tAU:=Tryz.zeroValue121
 underlying_tU64:=Tryz.underlying119
 runUnderlying_tU64:=Tryz.runUnderlying119
 sizeOf_tU64:=Tryz.sizeOf119
 isAgg_tU64:=Tryz.isAgg119
 zeroValue_tU64:=Tryz.zeroValue119
 underlying_tSh:=Tryz.underlying149
 runUnderlying_tSh:=Tryz.runUnderlying149
 sizeOf_tSh:=Tryz.sizeOf149
 isAgg_tSh:=Tryz.isAgg149
 zeroValue_tSh:=Tryz.zeroValue149
 underlying_tU32:=Tryz.underlying122
 runUnderlying_tU32:=Tryz.runUnderlying122
 sizeOf_tU32:=Tryz.sizeOf122
 isAgg_tU32:=Tryz.isAgg122
 zeroValue_tU32:=Tryz.zeroValue122
 underlying_tPU32:=Tryz.underlying157
 runUnderlying_tPU32:=Tryz.runUnderlying157
 sizeOf_tPU32:=Tryz.sizeOf157
 isAgg_tPU32:=Tryz.isAgg157
 zeroValue_tPU32:=Tryz.zeroValue157
 underlying_tPAU:=Tryz.underlying184
 runUnderlying_tPAU:=Tryz.runUnderlying184
 sizeOf_tPAU:=Tryz.sizeOf184
 isAgg_tPAU:=Tryz.isAgg184
 zeroValue_tPAU:=Tryz.zeroValue184
 underlying_tPU64:=Tryz.underlying186
 runUnderlying_tPU64:=Tryz.runUnderlying186
 sizeOf_tPU64:=Tryz.sizeOf186
 isAgg_tPU64:=Tryz.isAgg186
 zeroValue_tPU64:=Tryz.zeroValue186
 underlying_t0:=Tryz.underlying0
 runUnderlying_t0:=Tryz.runUnderlying0
 sizeOf_t0:=Tryz.sizeOf0
 isAgg_t0:=Tryz.isAgg0
 zeroValue_t0:=Tryz.zeroValue0
 underlying_t3:=Tryz.underlying3
 runUnderlying_t3:=Tryz.runUnderlying3
 sizeOf_t3:=Tryz.sizeOf3
 isAgg_t3:=Tryz.isAgg3
 zeroValue_t3:=Tryz.zeroValue3
 underlying_t4:=Tryz.underlying4
 runUnderlying_t4:=Tryz.runUnderlying4
 sizeOf_t4:=Tryz.sizeOf4
 isAgg_t4:=Tryz.isAgg4
 zeroValue_t4:=Tryz.zeroValue4
 underlying_t9:=Tryz.underlying9
 runUnderlying_t9:=Tryz.runUnderlying9
 sizeOf_t9:=Tryz.sizeOf9
 isAgg_t9:=Tryz.isAgg9
 zeroValue_t9:=Tryz.zeroValue9
 underlying_t20:=Tryz.underlying20
 runUnderlying_t20:=Tryz.runUnderlying20
 sizeOf_t20:=Tryz.sizeOf20
 isAgg_t20:=Tryz.isAgg20
 zeroValue_t20:=Tryz.zeroValue20
 underlying_t21:=Tryz.underlying21
 runUnderlying_t21:=Tryz.runUnderlying21
 sizeOf_t21:=Tryz.sizeOf21
 isAgg_t21:=Tryz.isAgg21
 zeroValue_t21:=Tryz.zeroValue21
 room_tWg:=by kernel_rfl
 room_tU32:=by kernel_rfl
end Go.Proofs.YtdoibgmmijhlfaaGreat.Sm
namespace Go.Proofs.YtdoibgmmijhlfaaGreat.Sm
open Go Go.Conc Go.ConcN Go.ConcN.Gen Go.RowKit Go.Conc.Lib Go.ConcR.Gen Go.Proofs.YtdoibgmmijhlfaaGreat.Wgk
open Go.ConcR (KK wgBlock WgAt stA smA rd wr mk DC0)
set_option linter.unusedVariables false
def bE:Frame:=baseD 67
noncomputable def bot:Frame:={ (default:Frame) with fn:=Tryz.prog.funcs.size,defers:=[],mode:=.panicking [goexitEntry] }
noncomputable def bodyE:Code:=Tryz.f67.body.getD .skip
noncomputable def loopE:Code:=match bodyE with | .seq _ (.seq _ (.block _ (.loop c)))=>c | _=>.skip
noncomputable def regE:Code:=match loopE with | .seq _ (.seq _ r)=>r | _=>.skip
noncomputable def opsE:Array Oper:=match loopE with | .seq _ (.seq (.block _ (.region _ ops _)) _)=>ops | _=>#[]
theorem array15(T:Array Value)(h:T.size=15):∃ v0 v1 v2 v3 v4 v5 v6 v7 v8 v9 v10 v11 v12 v13 v14:Value,T=#[v0,v1,v2,v3,v4,v5,v6,v7,v8,v9,v10,v11,v12,v13,v14]:=by
 obtain⟨l⟩:=T
 simp only [List.size_toArray] at h
 iterate 15 (rcases l with _ | ⟨_,l⟩;· simp at h)
 rcases l with _ | ⟨x,l⟩
 ·exact⟨_,_,_,_,_,_,_,_,_,_,_,_,_,_,_,rfl⟩
 ·simp at h
section
variable (wg nx bn bf:Nat)
def ptrTo(b:Nat):Value:=.pointer (some ⟨b,0,none⟩)
def callE:Deferred:={ target:=.fn (.func 67) #[ptrTo wg,ptrTo nx,ptrTo bn,ptrTo bf],args:=#[] }
def AtF(c:Int)(fv:Value)(c0:Frame):Prop:=∃ T:Array Value,T.size=15∧T[0]? = some (ptrTo wg)∧T[1]? = some (ptrTo nx)∧T[2]? = some (ptrTo bn)∧T[3]? = some (ptrTo bf)∧T[12]? = some fv∧T[13]? = some (.int .i64 c) ∧
 c0=bE.at ⟨T,[dcall 68 #[ptrTo wg]]⟩ (.inRegion opsE [2] :: [.inBlock 1,.code regE,.inLoop loopE,.inBlock 0])
def ACall(c:Int)(fv:Value)(g:Goroutine)(w:World):Prop:=∃ c0,AtF wg nx bn bf c fv c0∧g=G c0 [bot]
def ARf(c:Int)(fv:Value)(g:Goroutine)(w:World):Prop:=g.status=.running∧(w.cell? ⟨bf,0,none⟩=some fv→∃ g',stepG Tryz.prog false g w=.go g' w #[⟨.cell ⟨bf,0,none⟩,false,false⟩]∧GL Tryz.prog false 124 wg (ACall wg nx bn bf c fv) g' w)
def ARd(n:Int)(fv:Value)(c:Int)(g:Goroutine)(w:World):Prop:=g.status=.running∧(w.cell? ⟨bn,0,none⟩=some (.int .i64 n)→∃ g',stepG Tryz.prog false g w=.go g' w #[⟨.cell ⟨bn,0,none⟩,false,false⟩] ∧
 (c<n→GL Tryz.prog false 124 wg (ARf wg nx bn bf c fv) g' w)∧(¬ c<n→GL Tryz.prog false 124 wg (DRel Tryz.prog 124 wg) g' w))
def AAdd(n:Int)(fv:Value)(g:Goroutine)(w:World):Prop:=g.status=.running∧∀ c:Int,0≤c→c<4611686018427387904→w.cell? ⟨nx,0,none⟩=some (.int .i64 c)→w.frozen? ⟨nx,0,none⟩=false →
 ∃ g',stepG Tryz.prog false g w=.go g' (w.setCell ⟨nx,0,none⟩ (.int .i64 (c+1))) #[⟨.cell ⟨nx,0,none⟩,false,true⟩,⟨.cell ⟨nx,0,none⟩,true,true⟩]∧(WgLive 124 wg (w.setCell ⟨nx,0,none⟩ (.int .i64 (c+1)))→GL Tryz.prog false 124 wg (ARd wg nx bn bf n fv c) g' (w.setCell ⟨nx,0,none⟩ (.int .i64 (c+1))))
end
theorem quitsTail(T:Array Value):QuitsD Tryz.prog 2 0 (G { bE.at ⟨T,[]⟩ [] with mode:=.returning } [bot]):=by
 refine QuitsD.ctl (g':=G bot []) rfl (fun w=>?_) ?_
 ·simp [G,stepG,unwind,doReturn,results,Frame.at,bE,baseD,bot,Tryz.func67,Tryz.f67,seen,GStep.after,goexitEntry]
 refine QuitsD.ctl (g':={ G bot [] with status:=.finished }) rfl (fun w=>?_) ⟨rfl,rfl⟩
 simp [G,stepG,unwind,bot,goexitEntry,Frame.catches]
 rfl
theorem born_step(wg nx bn bf:Nat)(w:World):stepG Tryz.prog false (born Tryz.prog (callE wg nx bn bf)) w =
  .go (G (bE.at ⟨#[ptrTo wg,ptrTo nx,ptrTo bn,ptrTo bf,undef,undef,undef,undef,undef,undef,undef,undef,undef,undef,undef],[]⟩ [.code bodyE]) [bot]) w #[]:=by
 simp [born,callE,ptrTo,stepG,unwind,callDeferred,invoke,callFunc,Tryz.func67,Tryz.f67,seen,GStep.after,G,Frame.enter,Frame.at,bE,baseD,bot,bodyE]
theorem stepG_ld3{main:Bool}{b:Frame}{a:Act}{kk:List Item}{cs:List Frame}{w:World}{ops:Array Oper}{i:Nat}{rest:List Nat}{o:Oper}{x:Operand}(ho:ops[i]? = some o)(hw:Region.wanted o (yielded ops a.tmps)=true)(hk:b.kind≠.early)(hop:o.op=.load 3 x)
  {ad:Addr} {v:Value} (hx:a.eval x=.pointer (some ad)) (hc:w.cell? ad=some v) (hq:(Tryz.prog.funcs[b.fn]?).any (·.norace)=false) :
  stepG Tryz.prog main (G (b.at a (.inRegion ops (i :: rest) :: kk)) cs) w=.go (G (b.at (a.put o.dst v) (.inRegion ops rest :: kk)) cs) w #[⟨.cell ad,false,false⟩]:=by
 have hr:(execOp a.eval o).run Tryz.prog w=.ok (.value v) w:=by
  unfold execOp
  simp only [hop,hx]
  simp [go_sem,hc]
 have he:(execOp a.eval o).events Tryz.prog w #[]=#[⟨.cell ad,false,false⟩]:=by
  unfold execOp
  simp only [hop,hx]
  simp [go_sem,hc]
 rw [stepG_value ho hw hk hr]
 unfold listed
 rw [he,seen_eq hq (by simp)]
theorem stepG_ld85{main:Bool}{b:Frame}{a:Act}{kk:List Item}{cs:List Frame}{w:World}{ops:Array Oper}{i:Nat}{rest:List Nat}{o:Oper}{x:Operand}(ho:ops[i]? = some o)(hw:Region.wanted o (yielded ops a.tmps)=true)(hk:b.kind≠.early)(hop:o.op=.load 85 x)
  {ad:Addr} {v:Value} (hx:a.eval x=.pointer (some ad)) (hc:w.cell? ad=some v) (hq:(Tryz.prog.funcs[b.fn]?).any (·.norace)=false) :
  stepG Tryz.prog main (G (b.at a (.inRegion ops (i :: rest) :: kk)) cs) w=.go (G (b.at (a.put o.dst v) (.inRegion ops rest :: kk)) cs) w #[⟨.cell ad,false,false⟩]:=by
 have hr:(execOp a.eval o).run Tryz.prog w=.ok (.value v) w:=by
  unfold execOp
  simp only [hop,hx]
  simp [go_sem,hc]
 have he:(execOp a.eval o).events Tryz.prog w #[]=#[⟨.cell ad,false,false⟩]:=by
  unfold execOp
  simp only [hop,hx]
  simp [go_sem,hc]
 rw [stepG_value ho hw hk hr]
 unfold listed
 rw [he,seen_eq hq (by simp)]
theorem nmA : (Tryz.f40.name == "runtime.NumGoroutine") = false := by kernel_rfl
theorem xA_n : (Tryz.f71.name == "runtime.NumGoroutine") = false := by kernel_rfl
theorem xA_b:Tryz.f71.body.isNone=true:=by kernel_rfl
theorem xA_x:Extern.findNext Tryz.f71=none:=by kernel_rfl
theorem xA_f:Extern.find Tryz.f71=some (Extern.Atomic.update (Op.intArith .add) .i64 true):=by kernel_rfl
theorem loudE:(Tryz.prog.funcs[bE.fn]?).any (·.norace)=false:=by kernel_rfl
set_option maxRecDepth 100000 in
set_option maxHeartbeats 4000000 in
theorem wkBorn{wg nx bn bf:Nat}{n:Int}{fv:Value}{w:World}(hF:WgLive 124 wg w):GL Tryz.prog false 124 wg (AAdd wg nx bn bf n fv) (born Tryz.prog (callE wg nx bn bf)) w:=by
 refine⟨40,Goes.step rfl fun w₁ h₁=>?_⟩
 replace hF:=rR hF h₁
 clear h₁
 rw [born_step]
 refine⟨by u_nil,?_⟩
 simp only [bodyE,Tryz.f67,Option.getD_some,ptrTo]
 u_c stepG_seq rR hF
 u_reg rR hF
 u_defer rR hF
 u_c stepG_region_end rR hF
 u_c stepG_seq rR hF
 u_reg rR hF
 u_call Tryz.func40 nmA Tryz.f40 rR hF
 u_c stepG_seq rR hF
 u_reg rR hF
 u_op rR hF
 u_c stepG_region_end rR hF
 u_c stepG_seq rR hF
 u_reg rR hF
 u_op rR hF
 u_op rR hF
 u_op rR hF
 u_op rR hF
 refine Goes.stop (fun w₂ h₂=>?_)
 clear h₂ hF
 refine⟨rfl,fun c hc0 hc1 hc hz=>?_⟩
 have e1:IntKind.i64.wrap (c+1)=c+1:=by rw [IntKind.wrap_i64];omega
 have e2:IntKind.i64.wrap c=c:=by rw [IntKind.wrap_i64];omega
 have e3:IntKind.i64.wrap (c+1-1)=c:=by rw [IntKind.wrap_i64];omega
 refine⟨_,(stepG_add_atomic rfl rfl (by k_ne) rfl Tryz.func71 xA_n xA_b xA_x .i64 xA_f rfl rfl hc hz).trans (by rw [e1]),fun hF=>⟨100,?_⟩⟩
 clear hc hz
 walk_nrm
 u_op rR hF
 u_c stepG_region_end rR hF
 u_c stepG_ret' rR hF
 u_leave1 Tryz.func40 rR hF
 u_op rR hF
 u_op rR hF
 u_c stepG_region_end rR hF
 u_c stepG_block rR hF
 u_c stepG_loop rR hF
 u_c stepG_seq rR hF
 u_c stepG_seq rR hF
 u_reg rR hF
 u_op rR hF
 refine Goes.stop (fun w₃ h₃=>?_)
 replace hF:=rR hF h₃
 clear h₃
 refine⟨rfl,fun hn=>⟨_,stepG_ld3 rfl rfl (by k_ne) rfl rfl hn loudE,fun hlt=>⟨100,?_⟩,fun hge=>⟨29,?_⟩⟩⟩
 ·clear hn
  walk_nrm
  have hd:decide (c<n)=true:=by simpa using hlt
  u_op rR hF
  u_c stepG_region_end rR hF
  u_cnd true rR hF
  u_c stepG_skip rR hF
  u_c stepG_seq rR hF
  u_c stepG_block rR hF
  u_reg rR hF
  refine Goes.stop (fun w₄ h₄=>?_)
  replace hF:=rR hF h₄
  clear h₄
  refine⟨rfl,fun hf=>⟨_,stepG_ld85 rfl rfl (by k_ne) rfl rfl hf loudE,100,?_⟩⟩
  clear hf
  walk_nrm
  u_op rR hF
  exact Goes.stop (fun w₅ h₅=>⟨_,⟨_,by simp,rfl,rfl,rfl,rfl,rfl,rfl,rfl⟩,rfl⟩)
 ·clear hn
  walk_nrm
  have hd:decide (c<n)=false:=by simpa using hge
  u_op rR hF
  u_c stepG_region_end rR hF
  u_cnd false rR hF
  u_exit rR hF
  u_c stepG_end rR hF
  u_in rR hF
  rw [stepG_unwind_enter rfl Tryz.func68 (nm_done wl) rfl]
  simp only [goes_go]
  refine⟨by u_nil,?_⟩
  walk_nrmf Tryz.f68
  have hA:=@doneW wl Tryz.prog wgLib wg
  simp only [body_done,doneFn,Option.getD_some] at hA
  exact hA rfl (quitsTail _) _ hF
set_option maxRecDepth 100000 in
set_option maxHeartbeats 4000000 in
theorem wkRet{wg nx bn bf:Nat}{n c0:Int}{fv:Value}{w:World}{fr:Frame}(hF:WgLive 124 wg w)(h:AtF wg nx bn bf c0 fv fr):GL Tryz.prog false 124 wg (AAdd wg nx bn bf n fv) (G (fr.finish (.tuple #[])) [bot]) w:=by
 obtain⟨T,hT,t0,t1,t2,t3,_,_,rfl⟩:=h
 obtain⟨v0,v1,v2,v3,v4,v5,v6,v7,v8,v9,v10,v11,v12,v13,v14,rfl⟩:=array15 T hT
 simp only [List.getElem?_toArray,List.getElem?_cons_succ,List.getElem?_cons_zero,Option.some.injEq] at t0 t1 t2 t3
 subst t0;subst t1;subst t2;subst t3
 refine⟨40,?_⟩
 rw [Frame.finish_at]
 simp only [opsE,regE,loopE,bodyE,Tryz.f67,Option.getD_some,ptrTo]
 walk_nrm
 u_c stepG_region_end rR hF
 u_c stepG_inBlock rR hF
 u_reg rR hF
 u_call Tryz.func40 nmA Tryz.f40 rR hF
 u_c stepG_seq rR hF
 u_reg rR hF
 u_op rR hF
 u_c stepG_region_end rR hF
 u_c stepG_seq rR hF
 u_reg rR hF
 u_op rR hF
 u_op rR hF
 u_op rR hF
 u_op rR hF
 refine Goes.stop (fun w₂ h₂=>?_)
 clear h₂ hF
 refine⟨rfl,fun c hc0 hc1 hc hz=>?_⟩
 have e1:IntKind.i64.wrap (c+1)=c+1:=by rw [IntKind.wrap_i64];omega
 have e2:IntKind.i64.wrap c=c:=by rw [IntKind.wrap_i64];omega
 have e3:IntKind.i64.wrap (c+1-1)=c:=by rw [IntKind.wrap_i64];omega
 refine⟨_,(stepG_add_atomic rfl rfl (by k_ne) rfl Tryz.func71 xA_n xA_b xA_x .i64 xA_f rfl rfl hc hz).trans (by rw [e1]),fun hF=>⟨100,?_⟩⟩
 clear hc hz
 walk_nrm
 u_op rR hF
 u_c stepG_region_end rR hF
 u_c stepG_ret' rR hF
 u_leave1 Tryz.func40 rR hF
 u_op rR hF
 u_op rR hF
 u_c stepG_region_end rR hF
 u_c stepG_inLoop rR hF
 u_c stepG_seq rR hF
 u_c stepG_seq rR hF
 u_reg rR hF
 u_op rR hF
 refine Goes.stop (fun w₃ h₃=>?_)
 replace hF:=rR hF h₃
 clear h₃
 refine⟨rfl,fun hn=>⟨_,stepG_ld3 rfl rfl (by k_ne) rfl rfl hn loudE,fun hlt=>⟨100,?_⟩,fun hge=>⟨29,?_⟩⟩⟩
 ·clear hn
  walk_nrm
  have hd:decide (c<n)=true:=by simpa using hlt
  u_op rR hF
  u_c stepG_region_end rR hF
  u_cnd true rR hF
  u_c stepG_skip rR hF
  u_c stepG_seq rR hF
  u_c stepG_block rR hF
  u_reg rR hF
  refine Goes.stop (fun w₄ h₄=>?_)
  replace hF:=rR hF h₄
  clear h₄
  refine⟨rfl,fun hf=>⟨_,stepG_ld85 rfl rfl (by k_ne) rfl rfl hf loudE,100,?_⟩⟩
  clear hf
  walk_nrm
  u_op rR hF
  exact Goes.stop (fun w₅ h₅=>⟨_,⟨_,by simp,rfl,rfl,rfl,rfl,rfl,rfl,rfl⟩,rfl⟩)
 ·clear hn
  walk_nrm
  have hd:decide (c<n)=false:=by simpa using hge
  u_op rR hF
  u_c stepG_region_end rR hF
  u_cnd false rR hF
  u_exit rR hF
  u_c stepG_end rR hF
  u_in rR hF
  rw [stepG_unwind_enter rfl Tryz.func68 (nm_done wl) rfl]
  simp only [goes_go]
  refine⟨by u_nil,?_⟩
  walk_nrmf Tryz.f68
  have hA:=@doneW wl Tryz.prog wgLib wg
  simp only [body_done,doneFn,Option.getD_some] at hA
  exact hA rfl (quitsTail _) _ hF
noncomputable def bodyH:Code:=Tryz.f37.body.getD .skip
noncomputable def loopH:Code:=match bodyH with | .seq _ (.seq _ (.seq _ (.seq (.seq _ (.block _ (.loop c))) _)))=>c | _=>.skip
noncomputable def opsW:Array Oper:=match bodyH with | .seq _ (.seq _ (.seq _ (.seq _ (.region _ ops _))))=>ops | _=>#[]
noncomputable def opsA:Array Oper:=match loopH with | .seq _ (.seq _ (.seq (.block _ (.seq (.region _ ops _) _)) _))=>ops | _=>#[]
noncomputable def goA:Code:=match loopH with | .seq _ (.seq _ (.seq (.block _ (.seq _ c)) _))=>c | _=>.skip
noncomputable def incA:Code:=match loopH with | .seq _ (.seq _ (.seq _ c))=>c | _=>.skip
noncomputable def waitH:Code:=match bodyH with | .seq _ (.seq _ (.seq _ (.seq _ c)))=>c | _=>.skip
def bH:Frame:=base 37
section
variable (wg nx bn bf:Nat)(cs:List Frame)
def AtRet(g:Goroutine)(w:World):Prop:=g.status=.running∧∀ c' rest,cs=c' :: rest→stepG Tryz.prog true g w=.go (G (c'.finish (.tuple #[])) rest) w #[]
def ASpawn(Next:Goroutine→World→Prop)(g:Goroutine)(w:World):Prop:=g.status=.running∧∃ g',stepG Tryz.prog true g w=.spawn g' (born Tryz.prog (callE wg nx bn bf)) w #[]∧(WgLive 124 wg w→Next g' w)
def Spawns:Nat→Goroutine→World→Prop
 | 0,g,w=>∃ (gb:Goroutine) (anch:Goroutine→World→Prop),GL Tryz.prog true 124 wg (WDi Tryz.prog 124 wg anch) g w∧(∀ g w,anch g w→GL Tryz.prog true 124 wg (W1 Tryz.prog 124 wg gb anch) g w)∧∀ w,WgLive 124 wg w→GL Tryz.prog true 124 wg (AtRet cs) gb w
 | r+1,g,w=>∃ gb:Goroutine,GL Tryz.prog true 124 wg (AddDi Tryz.prog 124 wg gb) g w∧∀ w,WgLive 124 wg w→GL Tryz.prog true 124 wg (ASpawn wg nx bn bf (GL Tryz.prog true 124 wg (Spawns r))) gb w
def AtHead(k i:Int)(g:Goroutine):Prop:=∃ T:Array Value,T.size=15∧T[3]? = some (ptrTo bn)∧T[5]? = some (ptrTo bf)∧T[6]? = some (ptrTo nx)∧T[7]? = some (ptrTo wg)∧T[8]? = some (.int .i64 k)∧T[9]? = some (.int .i64 i) ∧
 g=G (bH.at ⟨T,[]⟩ [.code loopH,.inLoop loopH,.inBlock 0,.code waitH]) cs
end
@[go_sem] theorem run_makeFunc'(P:Program)(fn:Fn)(first cap:Array Value)(w:World):(Instr.makeFunc fn first cap).run P w=.ok (.func fn first cap) w:=rfl
@[go_sem] theorem events_makeFunc'(P:Program)(fn:Fn)(first cap:Array Value)(w:World)(es:Array Event):(Instr.makeFunc fn first cap).events P w es=es:=rfl
theorem stepG_goE{main:Bool}{b:Frame}{a:Act}{k:List Item}{cs:List Frame}{w:World}{ops:Array Oper}{i:Nat}{rest:List Nat}{o:Oper}{t:Nat}{f:FuncId}{c:Array Value}(ho:ops[i]? = some o)(hw:Region.wanted o (yielded ops a.tmps)=true)(hk:b.kind≠.early)
  (hop:o.op=.go { callee:=.value (.tmp t),args:=#[],argTypes:=#[] }) (hx:a.eval (.tmp t)=.func (.func f) #[] c) :
  stepG Tryz.prog main (G (b.at a (.inRegion ops (i :: rest) :: k)) cs) w=.spawn (G (b.at (a.put o.dst undef) (.inRegion ops rest :: k)) cs) (born Tryz.prog { target:=.fn (.func f) c,args:=#[] }) w #[]:=by
 have hr:(execOp a.eval o).run Tryz.prog w=.ok (.spawn { target:=.fn (.func f) c,args:=#[] }) w:=by
  unfold execOp
  simp [hop,resolve,Deferred.ofValue,hx]
 have he:(execOp a.eval o).events Tryz.prog w #[]=#[]:=by
  unfold execOp
  simp [hop,resolve,Deferred.ofValue,hx]
 rw [stepG_spawn ho hw hk hr rfl]
 unfold listed
 rw [he]
 simp [seen_none]
theorem nmW : (Tryz.f69.name == "runtime.NumGoroutine") = false := by kernel_rfl
theorem nmG : (Tryz.f66.name == "runtime.NumGoroutine") = false := by kernel_rfl
section
variable {wg nx bn bf:Nat}{cs:List Frame}
theorem spawns0{a₀:Act}{ops₀:Array Oper}{i₀:Nat}{rest₀:List Nat}{k₀:List Item}{g:Goroutine}{w:World}{m:Nat}
  (h:Goes Tryz.prog true (RL 124 wg) DC0 (WDi Tryz.prog 124 wg (AnchWN wl (fun _=>True) wg (bH.at a₀ (.inRegion ops₀ (i₀ :: rest₀) :: k₀)) cs)) m g w)
  (k:∀ w,WgLive 124 wg w→GL Tryz.prog true 124 wg (AtRet cs) (G (bH.at (a₀.put ((ops₀[i₀]?).bind (·.dst)) (.tuple #[])) (.inRegion ops₀ rest₀ :: k₀)) cs) w):Spawns wg nx bn bf cs 0 g w :=
 ⟨_,_,⟨m,h⟩,fun g w h=>waitR (L:=wl) wgLib g w h,k⟩
theorem spawns1{a₀:Act}{ops₀:Array Oper}{i₀:Nat}{rest₀:List Nat}{k₀:List Item}{g:Goroutine}{w:World}{m r:Nat}
  (h:Goes Tryz.prog true (RL 124 wg) DC0 (AddDi Tryz.prog 124 wg (G (bH.at (a₀.put ((ops₀[i₀]?).bind (·.dst)) (.tuple #[])) (.inRegion ops₀ rest₀ :: k₀)) cs)) m g w)
  (k:∀ w,WgLive 124 wg w→GL Tryz.prog true 124 wg (ASpawn wg nx bn bf (GL Tryz.prog true 124 wg (Spawns wg nx bn bf cs r))) (G (bH.at (a₀.put ((ops₀[i₀]?).bind (·.dst)) (.tuple #[])) (.inRegion ops₀ rest₀ :: k₀)) cs) w):Spawns wg nx bn bf cs (r+1) g w :=
 ⟨_,⟨m,h⟩,k⟩
set_option maxRecDepth 100000 in
set_option maxHeartbeats 8000000 in
theorem eachHead:∀ (r:Nat) (i:Int),0≤i→i+r≤9223372036854775807→∀ (g:Goroutine) (w:World),AtHead wg nx bn bf cs (i+r) i g→WgLive 124 wg w→Spawns wg nx bn bf cs r g w:=by
 intro r
 induction r with
 | zero =>
  rintro i h0 hi g w ⟨T,hT,t3,t5,t6,t7,t8,t9,rfl⟩ hF
  obtain⟨v0,v1,v2,v3,v4,v5,v6,v7,v8,v9,v10,v11,v12,v13,v14,rfl⟩:=array15 T hT
  simp only [List.getElem?_toArray,List.getElem?_cons_succ,List.getElem?_cons_zero,Option.some.injEq] at t3 t5 t6 t7 t8 t9
  subst t3;subst t5;subst t6;subst t7;subst t8;subst t9
  have hd:decide (i<i+((0:Nat):Int))=false:=by simp
  obtain⟨K,hK⟩:∃ K,i+((0:Nat):Int)=K:=⟨_,rfl⟩
  rw [hK] at hd ⊢
  have hA:=fun (a₀:Act) (ops₀:Array Oper) (i₀:Nat) (rest₀:List Nat) (k₀:List Item)=>waitW (L:=wl) (P:=Tryz.prog) (Wg:=wg) (b₀:=bH) (a₀:=a₀) (ops₀:=ops₀) (i₀:=i₀) (rest₀:=rest₀) (k₀:=k₀) (cs:=cs) wgLib
  refine spawns0 (a₀:=⟨#[v0,v1,v2,ptrTo bn,v4,ptrTo bf,ptrTo nx,ptrTo wg,.int .i64 K,.int .i64 i,.bool false,v11,v12,v13,v14],[]⟩) (ops₀:=opsW) (i₀:=0) (rest₀:=[]) (k₀:=[]) (m:=12) ?_ ?_
  ·simp only [loopH,opsW,waitH,bodyH,body_wait,Tryz.f37,waitFn,Option.getD_some,ptrTo] at hA ⊢
   u_c stepG_seq rR hF
   u_reg rR hF
   u_op rR hF
   u_c stepG_region_end rR hF
   u_c stepG_seq rR hF
   u_cnd false rR hF
   u_exit rR hF
   u_reg rR hF
   u_in rR hF
   refine goes_call rfl rfl (by decide) rfl Tryz.func69 nmW rfl ⟨by u_nil,?_⟩
   walk_nrmf Tryz.f69
   exact hA _ _ _ _ _ _ hF
  ·intro w hF
   refine⟨20,?_⟩
   simp only [opsW,bodyH,Tryz.f37,Option.getD_some,ptrTo]
   walk_nrm
   u_c stepG_region_end rR hF
   u_c stepG_end rR hF
   exact Goes.stop fun w₁ _=>⟨rfl,fun c' rest e=>by subst e;exact stepG_leave (b:=bH) rfl rfl Tryz.func37 (results_none rfl _ _ _) (events_results_none rfl _ _)⟩
 | succ r ih =>
  rintro i h0 hi g w ⟨T,hT,t3,t5,t6,t7,t8,t9,rfl⟩ hF
  obtain⟨v0,v1,v2,v3,v4,v5,v6,v7,v8,v9,v10,v11,v12,v13,v14,rfl⟩:=array15 T hT
  simp only [List.getElem?_toArray,List.getElem?_cons_succ,List.getElem?_cons_zero,Option.some.injEq] at t3 t5 t6 t7 t8 t9
  subst t3;subst t5;subst t6;subst t7;subst t8;subst t9
  have hd:decide (i<i+((r+1:Nat):Int))=true:=by simp;omega
  obtain⟨K,hK⟩:∃ K,i+((r+1:Nat):Int)=K:=⟨_,rfl⟩
  rw [hK] at hd ⊢
  have hA:=fun (a₀:Act) (ops₀:Array Oper) (i₀:Nat) (rest₀:List Nat) (k₀:List Item)=>addW (L:=wl) (P:=Tryz.prog) (Wg:=wg) (b₀:=bH) (a₀:=a₀) (ops₀:=ops₀) (i₀:=i₀) (rest₀:=rest₀) (k₀:=k₀) (cs:=cs) wgLib
  refine spawns1 (a₀:=⟨#[v0,v1,v2,ptrTo bn,v4,ptrTo bf,ptrTo nx,ptrTo wg,.int .i64 K,.int .i64 i,.bool true,v11,v12,v13,v14],[]⟩) (ops₀:=opsA) (i₀:=0) (rest₀:=[]) (k₀:=[.code goA,.inBlock 1,.code incA,.inLoop loopH,.inBlock 0,.code waitH]) (m:=24) ?_ ?_
  ·simp only [opsA,goA,incA,loopH,waitH,bodyH,body_add,Tryz.f37,addFn,Option.getD_some,ptrTo] at hA ⊢
   u_c stepG_seq rR hF
   u_reg rR hF
   u_op rR hF
   u_c stepG_region_end rR hF
   u_c stepG_seq rR hF
   u_cnd true rR hF
   u_c stepG_skip rR hF
   u_c stepG_seq rR hF
   u_c stepG_block rR hF
   u_c stepG_seq rR hF
   u_reg rR hF
   u_in rR hF
   refine goes_call rfl rfl (by decide) rfl Tryz.func66 nmG rfl ⟨by u_nil,?_⟩
   walk_nrmf Tryz.f66
   exact hA _ _ _ _ _ _ hF
  ·intro w hF
   refine⟨20,?_⟩
   simp only [opsA,goA,incA,loopH,waitH,bodyH,Tryz.f37,Option.getD_some,ptrTo]
   walk_nrm
   u_c stepG_region_end rR hF
   u_reg rR hF
   u_op rR hF
   refine Goes.stop fun w₁ h₁=>?_
   replace hF:=rR hF h₁
   clear h₁
   refine⟨rfl,_,stepG_goE rfl rfl (by decide) rfl rfl,fun hF=>⟨20,?_⟩⟩
   have e1:IntKind.i64.wrap (i+1)=i+1:=by rw [IntKind.wrap_i64];omega
   walk_nrm
   u_c stepG_region_end rR hF
   u_c stepG_inBlock rR hF
   u_reg rR hF
   u_op rR hF
   u_op rR hF
   u_c stepG_region_end rR hF
   u_c stepG_inLoop rR hF
   refine Goes.stop fun w₂ h₂=>?_
   replace hF:=rR hF h₂
   refine ih (i+1) (by omega) (by omega) _ _ ⟨_,?_,?_,?_,?_,?_,?_,?_,rfl⟩ hF
   all_goals first | rfl | (simp;done) | (simp;omega)
end
end Go.Proofs.YtdoibgmmijhlfaaGreat.Sm
namespace Go.Proofs.YtdoibgmmijhlfaaGreat.Sm
open Go Go.Conc Go.ConcN Go.ConcN.Gen Go.RowKit Go.Conc.Lib Go.ConcR.Gen Go.Proofs.YtdoibgmmijhlfaaGreat.Wgk
open Go.ConcR (KK wgBlock WgAt stA smA rd wr mk DC0)
set_option linter.unusedVariables false
set_option linter.unusedSimpArgs false
structure DPre(H:Nat)(w w':World)(es:Array Event):Prop where
 size:w.heap.size≤w'.heap.size
 old:∀ b,b<w.heap.size→w'.heap[b]? = w.heap[b]?
 tape:w'.tape=w.tape
 os:w'.os=w.os
 output:w'.output=w.output
 evs:∀ e∈es,False
theorem dpre_no(H:Nat)(w:World)(es:Array Event)(h:∀ e∈es,False):DPre H w w es:=⟨Nat.le_refl _,fun _ _=>rfl,rfl,rfl,rfl,fun e he=>(h e he).elim⟩
theorem dpre_none(H:Nat)(w:World):DPre H w w #[]:=dpre_no H w #[] (by simp)
theorem dpre_alloc{H:Nat}(w:World)(o:Obj)(es:Array Event)(h:∀ e∈es,False):DPre H w (w.alloc o) es :=
 ⟨by show _≤(w.heap.push o).size;simp,fun b hb=>by show (w.heap.push o)[b]? = _;simp [Array.getElem?_push,Nat.ne_of_lt hb],rfl,rfl,rfl,fun e he=>(h e he).elim⟩
theorem at_alloc(w:World)(d:Nat)(o:Obj):(w.at d).alloc o=(w.alloc o).at d:=rfl
theorem at_size(w:World)(d:Nat):(w.at d).heap.size=w.heap.size:=rfl
theorem al_size(w:World)(o:Obj):(w.alloc o).heap.size=w.heap.size+1:=by show (w.heap.push o).size=_;simp
theorem at_self(w:World)(d:Nat):∃ d',w.at d=w.at d':=⟨d,rfl⟩
theorem at_rely{W w w₁:World}(h:∃ d,w=W.at d)(r:AtW w w₁):∃ d,w₁=W.at d:=by
 obtain⟨d,rfl⟩:=h
 obtain⟨d',rfl⟩:=r
 exact⟨d',rfl⟩
def madeW(w:World)(n:Int)(fv:Value):World:=(((w.alloc (.cells #[.int .i64 n] 3)).alloc (.cells #[fv] 85)).alloc (.cells #[.int .i64 0] 81)).alloc (.cells #[.int .u64 0,.int .u32 0] 124)
set_option maxRecDepth 100000 in
set_option maxHeartbeats 8000000 in
theorem eachStart{cs:List Frame}{w0:World}{n k:Int}{fid:FuncId}{cap:Array Value}:Goes Tryz.prog true AtW (DPre w0.heap.size) (fun g w=>AtHead (w0.heap.size+3) (w0.heap.size+2) w0.heap.size (w0.heap.size+1) cs k 0 g∧∃ d,w=(madeW w0 n (.func (.func fid) #[] cap)).at d) 40
  (G (Frame.enter Tryz.prog 37 #[.int .i64 n,.int .i64 k,.func (.func fid) #[] cap] .normal) cs) w0:=by
 rw [enter_at _ Tryz.func37 rfl]
 obtain⟨d0,hd0⟩:∃ d,w0=w0.at d:=⟨w0.drawn,rfl⟩
 have hF:∃ d,w0=w0.at d:=⟨d0,hd0⟩
 clear hd0 d0
 simp only [Tryz.f37]
 walk_nrm
 refine Goes.step rfl (fun _ h₁=>?_)
 replace hF:=at_rely hF h₁
 clear h₁
 rw [stepG_seq]
 simp only [goes_go]
 refine⟨dpre_none _ _,?_⟩
 refine Goes.step rfl (fun _ h₁=>?_)
 replace hF:=at_rely hF h₁
 clear h₁
 rw [stepG_region]
 simp only [goes_go,List.size_toArray,List.length_cons,List.length_nil,Nat.reduceAdd,Nat.zero_add,List.range,List.range.loop]
 refine⟨dpre_none _ _,?_⟩
 refine Goes.step rfl (fun _ h₁=>?_)
 replace hF:=at_rely hF h₁
 clear h₁
 refine goes_oper_k rfl rfl (by decide) (fun K hK=>?_)
 obtain⟨d,rfl⟩:=hF
 go_simp
 refine hK _ _ ⟨?_,?_⟩
 ·refine dpre_alloc _ _ _ fun e he=>?_
  have hm:=mem_listed he
  simp [go_sem, *] at hm
 clear hK K
 try walk_nrm
 simp only [at_alloc,at_size]
 have hF:=at_self ((w0.alloc (.cells #[.int .i64 n] 3))) d
 refine Goes.step rfl (fun _ h₁=>?_)
 replace hF:=at_rely hF h₁
 clear h₁
 refine goes_oper_k rfl rfl (by decide) (fun K hK=>?_)
 obtain⟨d,rfl⟩:=hF
 go_simp
 refine hK _ _ ⟨?_,?_⟩
 ·refine dpre_alloc _ _ _ fun e he=>?_
  have hm:=mem_listed he
  simp [go_sem, *] at hm
 clear hK K
 try walk_nrm
 simp only [at_alloc,at_size,al_size]
 have hF:=at_self (((w0.alloc (.cells #[.int .i64 n] 3)).alloc (.cells #[.func (.func fid) #[] cap] 85))) d
 refine Goes.step rfl (fun _ h₁=>?_)
 replace hF:=at_rely hF h₁
 clear h₁
 rw [stepG_region_end]
 simp only [goes_go]
 refine⟨dpre_none _ _,?_⟩
 refine Goes.step rfl (fun _ h₁=>?_)
 replace hF:=at_rely hF h₁
 clear h₁
 rw [stepG_seq]
 simp only [goes_go]
 refine⟨dpre_none _ _,?_⟩
 refine Goes.step rfl (fun _ h₁=>?_)
 replace hF:=at_rely hF h₁
 clear h₁
 rw [stepG_region]
 simp only [goes_go,List.size_toArray,List.length_cons,List.length_nil,Nat.reduceAdd,Nat.zero_add,List.range,List.range.loop]
 refine⟨dpre_none _ _,?_⟩
 refine Goes.step rfl (fun _ h₁=>?_)
 replace hF:=at_rely hF h₁
 clear h₁
 refine goes_oper_k rfl rfl (by decide) (fun K hK=>?_)
 obtain⟨d,rfl⟩:=hF
 go_simp
 refine hK _ _ ⟨?_,?_⟩
 ·refine dpre_alloc _ _ _ fun e he=>?_
  have hm:=mem_listed he
  simp [go_sem, *] at hm
 clear hK K
 try walk_nrm
 simp only [at_alloc,at_size,al_size]
 have hF:=at_self ((((w0.alloc (.cells #[.int .i64 n] 3)).alloc (.cells #[.func (.func fid) #[] cap] 85)).alloc (.cells #[.int .i64 0] 81))) d
 refine Goes.step rfl (fun _ h₁=>?_)
 replace hF:=at_rely hF h₁
 clear h₁
 rw [stepG_region_end]
 simp only [goes_go]
 refine⟨dpre_none _ _,?_⟩
 refine Goes.step rfl (fun _ h₁=>?_)
 replace hF:=at_rely hF h₁
 clear h₁
 rw [stepG_seq]
 simp only [goes_go]
 refine⟨dpre_none _ _,?_⟩
 refine Goes.step rfl (fun _ h₁=>?_)
 replace hF:=at_rely hF h₁
 clear h₁
 rw [stepG_region]
 simp only [goes_go,List.size_toArray,List.length_cons,List.length_nil,Nat.reduceAdd,Nat.zero_add,List.range,List.range.loop]
 refine⟨dpre_none _ _,?_⟩
 refine Goes.step rfl (fun _ h₁=>?_)
 replace hF:=at_rely hF h₁
 clear h₁
 refine goes_oper_k rfl rfl (by decide) (fun K hK=>?_)
 obtain⟨d,rfl⟩:=hF
 go_simp
 refine hK _ _ ⟨?_,?_⟩
 ·refine dpre_alloc _ _ _ fun e he=>?_
  have hm:=mem_listed he
  simp [go_sem, *] at hm
 clear hK K
 try walk_nrm
 simp only [at_alloc,at_size,al_size]
 have hF:=at_self (((((w0.alloc (.cells #[.int .i64 n] 3)).alloc (.cells #[.func (.func fid) #[] cap] 85)).alloc (.cells #[.int .i64 0] 81)).alloc (.cells #[.int .u64 0,.int .u32 0] 124))) d
 refine Goes.step rfl (fun _ h₁=>?_)
 replace hF:=at_rely hF h₁
 clear h₁
 rw [stepG_region_end]
 simp only [goes_go]
 refine⟨dpre_none _ _,?_⟩
 refine Goes.step rfl (fun _ h₁=>?_)
 replace hF:=at_rely hF h₁
 clear h₁
 rw [stepG_seq]
 simp only [goes_go]
 refine⟨dpre_none _ _,?_⟩
 refine Goes.step rfl (fun _ h₁=>?_)
 replace hF:=at_rely hF h₁
 clear h₁
 rw [stepG_seq]
 simp only [goes_go]
 refine⟨dpre_none _ _,?_⟩
 refine Goes.step rfl (fun _ h₁=>?_)
 replace hF:=at_rely hF h₁
 clear h₁
 rw [stepG_region]
 simp only [goes_go,List.size_toArray,List.length_cons,List.length_nil,Nat.reduceAdd,Nat.zero_add,List.range,List.range.loop]
 refine⟨dpre_none _ _,?_⟩
 refine Goes.step rfl (fun _ h₁=>?_)
 replace hF:=at_rely hF h₁
 clear h₁
 refine goes_oper_k rfl rfl (by decide) (fun K hK=>?_)
 go_simp
 refine hK _ _ ⟨?_,?_⟩
 ·refine dpre_no _ _ _ (fun e he=>?_)
  have hm:=mem_listed he
  simp [go_sem, *] at hm
 clear hK K
 refine Goes.step rfl (fun _ h₁=>?_)
 replace hF:=at_rely hF h₁
 clear h₁
 refine goes_oper_k rfl rfl (by decide) (fun K hK=>?_)
 go_simp
 refine hK _ _ ⟨?_,?_⟩
 ·refine dpre_no _ _ _ (fun e he=>?_)
  have hm:=mem_listed he
  simp [go_sem, *] at hm
 clear hK K
 refine Goes.step rfl (fun _ h₁=>?_)
 replace hF:=at_rely hF h₁
 clear h₁
 rw [stepG_region_end]
 simp only [goes_go]
 refine⟨dpre_none _ _,?_⟩
 refine Goes.step rfl (fun _ h₁=>?_)
 replace hF:=at_rely hF h₁
 clear h₁
 rw [stepG_block]
 simp only [goes_go]
 refine⟨dpre_none _ _,?_⟩
 refine Goes.step rfl (fun _ h₁=>?_)
 replace hF:=at_rely hF h₁
 clear h₁
 rw [stepG_loop]
 simp only [goes_go]
 refine⟨dpre_none _ _,?_⟩
 refine Goes.stop fun w₁ h₁=>⟨⟨_,?_,?_,?_,?_,?_,?_,?_,rfl⟩,at_rely hF h₁⟩
 all_goals first | rfl | (simp;done)
end Go.Proofs.YtdoibgmmijhlfaaGreat.Sm
namespace Go.Proofs.YtdoibgmmijhlfaaGreat.Sm
open Go Go.Conc Go.ConcN
set_option linter.unusedVariables false
section
variable {p p':Program}{G:Cx}{fb sb:FuncId→Bool}{dd:FuncId→Nat→Bool}{Sp:FuncId→Oper→Oper→Prop}{ρ σ:Ren G}{F:FuncId→Prop}
theorem FRel.finish2{f:FuncId}{ts ts':Array Value}{ops ops':Array Oper}{i:Nat}{r:List Nat}{k k':List Item}{m m':FrameMode}(ht:TmpRel ρ (inF fb) (dd f) ts ts')(ho:OpsRel p p' G.mark fb (dd f) (Sp f) ops ops')(hr:TRel p p' G.mark fb (dd f) (Sp f) k k')(hm:MRel ρ (inF fb) m m'){o:Oper}(hoi:ops[i]? = some o)
  {x y:Value} (hv:∀ d,o.dst=some d→(dd f d=false→VRel ρ (inF fb) x y)∧(G.free=false→dd f d=true→VRel ρ (fun f=>inF fb f∨G.f2 f=true) x y)) :
  FRel p p' fb dd Sp ρ ((fr0 f ts (.inRegion ops (i :: r) :: k) m).finish x) ((fr0 f ts' (.inRegion ops' (i :: r) :: k') m').finish y):=by
 have e:∀ (ops:Array Oper) (ts:Array Value) (k:List Item) (m:FrameMode) (x:Value),(fr0 f ts (.inRegion ops (i :: r) :: k) m).finish x=fr0 f (match (ops[i]?).bind (·.dst) with | some d=>ts.setIfInBounds d x | none=>ts) (.inRegion ops r :: k) m:=fun _ _ _ _ _=>rfl
 rw [e,e]
 refine .mk f ?_ (.cons (.inRegion ho r) hr) hm
 obtain⟨o',ho',hrr⟩:=ho.get hoi
 rw [hoi,ho']
 simp only [Option.bind_some,hrr.dst]
 cases hd:o.dst with
 | none=>exact ht
 | some d=>exact ht.set d (hv d hd).1 (hv d hd).2
theorem run_mk{p:Program}{ev:Operand→Value}{o:Oper}{g:FuncId}{caps:Array Operand}{w:World}(h:o.op=.makeFunc (.func g) #[] caps):(execOp ev o).runT p w #[]=(.ok (.value (.func (.func g) #[] (caps.map ev))) w,#[]):=by
 unfold execOp
 rw [h]
 simp [Instr.makeFunc,go_sem]
theorem run_enter{p:Program}{ev:Operand→Value}{o:Oper}{g:FuncId}{fn:Func}{args:Array Operand}{ats:Array TypeId}{w:World}(h:o.op=.call { callee:=.value (.func g),args,argTypes:=ats })(hev:ev (.func g)=.func (.func g) #[] #[])
  (hf : p.funcs[g]? = some fn) (hname : (fn.name == "runtime.NumGoroutine") = false) (hb : fn.body.isNone = false) : (execOp ev o).runT p w #[] = (.ok (.enter g (args.map ev)) w, #[]) := by
 have h1 : ¬ fn.name = "runtime.NumGoroutine" := by simpa using hname
 have h2:¬ fn.body=none:=by cases hx:fn.body <;> simp_all
 unfold execOp
 simp [h,resolve,Deferred.ofValue,invoke,callFunc,hf,h1,h2,hev]
end
abbrev F2:FuncId→Prop:=fun f=>inF famM f∨cxM.f2 f=true
abbrev CoM(R:Ending→World→Prop)(ρ:Ren cxM)(s:LS)(fr':Frame)(cs':List Frame)(w:World):Prop:=Co Crz.prog Tryz.prog cxM cx0 fam famM famM deadM SpM R ρ s fr' cs' w
abbrev StM(ρ:Ren cxM)(cs cs':List Frame):Prop:=StRel Crz.prog Tryz.prog famM famM deadM SpM ρ cs cs'
structure SJ(w0:World)(N:Nat)(ρ:Ren cxM)(hd:Nat→Bool)(wl w:World)(t:Trace):Prop where
 ts:TS hd N w.heap.size t
 deaf:Deaf t 0=0
 vis:∀ b c,ρ.rel b c→hd c=false
 hdlt:∀ c,hd c=true→c<w.heap.size
 grows:Grows w0 w
 old:∀ c,c<w0.heap.size→w.heap[c]? = w0.heap[c]?
 fz:∀ c o,c<w0.heap.size→¬ MayWrite ρ wl c o
theorem Grows.at{w0 w:World}(h:Grows w0 w)(d:Nat):Grows w0 (w.at d):=⟨h.size,h.row,h.num,h.tape,h.os,h.output⟩
theorem SJ.at{w0:World}{N:Nat}{ρ:Ren cxM}{hd:Nat→Bool}{wl w:World}{t:Trace}(h:SJ w0 N ρ hd wl w t)(d:Nat):SJ w0 N ρ hd wl (w.at d) t:=⟨h.ts,h.deaf,h.vis,h.hdlt,h.grows.at d,h.old,h.fz⟩
theorem SJ.mute{w0:World}{N:Nat}{ρ:Ren cxM}{hd:Nat→Bool}{wl w:World}{t u:Trace}{g:Nat}(h:SJ w0 N ρ hd wl w t)(hg:g<N)(h0:g≠0)(hu:∀ op∈u,op.g=g∧op.act.touch? = none∧∀ ad,op.act≠.mark (.release ad)):SJ w0 N ρ hd wl w (t++u) :=
 ⟨h.ts.mute hg (fun op hop=>(hu op hop).1) (fun op hop=>(hu op hop).2.1) (fun op hop=>(hu op hop).2.2),by rw [Deaf_other t h0 u fun op hop=>(hu op hop).1];exact h.deaf,h.vis,h.hdlt,h.grows,h.old,h.fz⟩
theorem evok_loud{G:Cx}{σ:Ren G}{u:World}{e:Event}(h:EvOk σ u e):e.loc≠.mark .disable∧e.loc≠.mark .enable:=by
 rcases h with rfl | ⟨c,rfl,_⟩ | ⟨c,o,wr,rfl,_⟩
 ·exact⟨by simp,by simp⟩
 ·exact⟨by simp,by simp⟩
 ·exact⟨by simp,by simp⟩
theorem SJ.lone{w0:World}{N:Nat}{ρ:Ren cxM}{hd:Nat→Bool}{wl w v:World}{t:Trace}(h:SJ w0 N ρ hd wl w t)(hv:∀ b c xs e z,ρ.rel b c→v.heap[b]? = some (.cells xs e z)→∃ xs' e',wl.heap[b]? = some (.cells xs' e' z)∧xs'.size=xs.size):SJ w0 N ρ hd v w t:=by
 refine⟨h.ts,h.deaf,h.vis,h.hdlt,h.grows,h.old,?_⟩
 rintro c o hc ⟨b,xs,e,z,hr,h1,h2,h3⟩
 obtain⟨xs',e',k1,k2⟩:=hv b c xs e z hr h1
 exact h.fz c o hc ⟨b,xs',e',z,hr,k1,by omega,h3⟩
theorem SJ.step{w0:World}{N:Nat}{ρ σ:Ren cxM}{hd:Nat→Bool}{wl w w' u u':World}{t:Trace}{fs:Array Event}{fn:FuncId}{pos:String}(h:SJ w0 N ρ hd wl w' t)(hN:0<N)(hW:WRel ρ (inF famM) wl w')(he:w.heap=wl.heap)(hA:After (inF famM) ρ σ w w' u u' fs):SJ w0 N σ hd u u' (t++MemOp.ofEvents 0 fn pos fs):=by
 have hv:∀ b c,σ.rel b c→hd c=false:=fun b c hr=>by
  rcases hA.new b c hr with k | ⟨_,k⟩
  ·exact h.vis b c k
  ·cases hc:hd c with
   | false=>rfl
   | true=>have:=h.hdlt c hc;omega
 have hmw:∀ c o,MayWrite ρ w c o→MayWrite ρ wl c o:=fun c o q=>by unfold MayWrite at *;rw [he] at q;exact q
 have hW1:WRel ρ (inF famM) w w':=⟨fun b c hr=>by rw [he];exact hW.objs b c hr,by rw [he];exact hW.base⟩
 refine⟨h.ts.step hN hA.comp.size hA.evs fun b c hr=>⟨hv b c hr,hA.wrel.lt hr⟩,?_,hv,fun c hc=>Nat.lt_of_lt_of_le (h.hdlt c hc) hA.comp.size,h.grows.trans hA.comp,fun c hc=>?_,?_⟩
 ·rw [Deaf_own,h.deaf]
  exact deafBehind_idle (fun e he=>evok_loud (hA.evs e he)) 0
 ·have hlt:c<w'.heap.size:=Nat.lt_of_lt_of_le hc h.grows.size
  rcases hA.only c hlt with k | ⟨o,k⟩
  ·rw [k];exact h.old c hc
  ·exact absurd (hmw c o k) (h.fz c o hc)
 ·rintro c o hc ⟨b,xs,e,z,hr,h1,h2,h3⟩
  rcases hA.new b c hr with k | ⟨_,k⟩
  ·exact h.fz c o hc (hmw c o (RowsOf hW1 hA k ⟨xs,e,z,h1,h2,h3⟩))
  ·have:=h.grows.size;omega
theorem SJ.still{w0:World}{N:Nat}{ρ:Ren cxM}{hd:Nat→Bool}{wl w:World}{t:Trace}{g:Nat}{fn:FuncId}{pos:String}(h:SJ w0 N ρ hd wl w t):SJ w0 N ρ hd wl w (t++MemOp.ofEvents g fn pos #[]):=by
 have:t++MemOp.ofEvents g fn pos #[]=t:=by simp [MemOp.ofEvents]
 rw [this];exact h
def Solo(R:Ending→World→Prop)(w0:World)(s:LS)(l:List Nat)(m:Machine)(t:Trace):Prop:=∃ gs w sl ρ fr' cs' hd,m=crowd gs w sl∧gs[0]? = some (gor fr' cs')∧Lvs Tryz.prog gs t l∧CoM R ρ s fr' cs' w∧SJ w0 gs.size ρ hd s.w w t
def AtCall(R:Ending→World→Prop)(w0:World)(f0 n:Nat)(s0:LS)(m:Machine)(t:Trace):Prop:=∃ gs w sl ρ l hd c cs c' cs' xs ys wl,m=crowd gs w sl∧gs[0]? = some (gor (Frame.enter Tryz.prog f0 ys .normal) (c' :: cs'))∧Lvs Tryz.prog gs t l ∧
 LWc R ⟨Frame.enter Crz.prog f0 xs .normal,c :: cs,wl⟩∧Nx' Crz.prog ⟨Frame.enter Crz.prog f0 xs .normal,c :: cs,wl⟩ s0∧StM ρ (c :: cs) (c' :: cs')∧WRel ρ (inF famM) wl w∧xs.size=n∧RW ρ F2 xs ys∧SJ w0 gs.size ρ hd wl w t
def AtLeaf(R:Ending→World→Prop)(w0:World)(s0:LS)(m:Machine)(t:Trace):Prop:=∃ s l,(s=s0∨Nx' Crz.prog s s0)∧Solo R w0 s l m t∧s.cs=[]∧s.fr.mode≠.run
def SExit(R:Ending→World→Prop)(w0:World)(s0:LS)(m:Machine)(t:Trace):Prop:=AtLeaf R w0 s0 m t∨AtCall R w0 37 3 s0 m t∨AtCall R w0 41 1 s0 m t
end Go.Proofs.YtdoibgmmijhlfaaGreat.Sm
namespace Go.Proofs.YtdoibgmmijhlfaaGreat.Sm
open Go Go.Conc Go.ConcN
set_option linter.unusedVariables false
section
variable {R:Ending→World→Prop}{w0:World}{ρ:Ren cxM}
theorem WRel.at{G:Cx}{ρ:Ren G}{F:FuncId→Prop}{w w':World}(h:WRel ρ F w w')(d:Nat):WRel ρ F w (w'.at d):=⟨h.objs,h.base⟩
theorem sp_forms{fr fr':Frame}{cs cs':List Frame}(hS:StM ρ (fr :: cs) (fr' :: cs'))(hsp:AtSp SpM fr fr') :
    ∃ f ts ts' ops ops' i r k k' o o',fr=fr0 f ts (.inRegion ops (i :: r) :: k) .run∧fr'=fr0 f ts' (.inRegion ops' (i :: r) :: k') .run∧TmpRel ρ (inF famM) (deadM f) ts ts'∧OpsRel Crz.prog Tryz.prog cxM.mark famM (deadM f) (SpM f) ops ops' ∧
      TRel Crz.prog Tryz.prog cxM.mark famM (deadM f) (SpM f) k k'∧ops[i]? = some o∧ops'[i]? = some o'∧Region.wanted o (yielded ops ts)=true∧Region.wanted o' (yielded ops' ts')=true∧SpM f o o':=by
  obtain⟨hm,ops,ops',i,r,k,k',o,o',e1,e2,ho,ho',hw,hs⟩:=hsp
  have hF:FRel Crz.prog Tryz.prog famM deadM SpM ρ fr fr':=by cases hS with
    | base h=>exact h
    | cons h _ _ _=>exact h
  cases hF with
  | @mk f ts ts' ht kk kk' hk m m' hmm =>
    replace e1:kk=_:=e1
    replace e2:kk'=_:=e2
    replace hm:m=_:=hm
    subst e1;subst e2;subst hm
    cases hmm
    cases hk with
    | cons hi hr =>
      cases hi with
      | inRegion hO r =>
        have hor:=hO.at_ i o o' ho ho'
        exact⟨f,ts,ts',ops,ops',i,r,k,k',o,o',rfl,rfl,ht,hO,hr,ho,ho',hw,by rw [wanted_same hO ht ho hor];exact hw,hs⟩
theorem nmE1 : (eachS.name == "runtime.NumGoroutine") = false := by kernel_rfl
theorem nmE2 : (Tryz.f37.name == "runtime.NumGoroutine") = false := by kernel_rfl
theorem nmL1 : (loadS.name == "runtime.NumGoroutine") = false := by kernel_rfl
theorem nmL2 : (Tryz.f41.name == "runtime.NumGoroutine") = false := by kernel_rfl
theorem Hands.dead{f g t a b e:Nat}(h:Hands f g t a b e):deadM f t=true∧(∀ j∈[4,5,11,6,12,a,b],deadM f j=false)∧fam g=true:=by
  rcases h with ⟨rfl,rfl,rfl,rfl,rfl,rfl⟩ | ⟨rfl,rfl,rfl,rfl,rfl,rfl⟩
  · exact⟨by decide,by decide,by kernel_rfl⟩
  · exact⟨by decide,by decide,by kernel_rfl⟩
theorem solo_main{s:LS}{fr':Frame}{cs':List Frame}{w:World}(h:CoM R ρ s fr' cs' w)(hb:s.fr.mode=.run∨s.cs≠[]) :
    ∃ (g1:Goroutine) (u':World) (fs:Array Event),stepG Tryz.prog true (gor fr' cs') w=.go g1 u' fs ∧
      ((∃ (σ:Ren cxM) (s1:LS) (fr1':Frame) (cs1':List Frame) (w1:World),g1=gor fr1' cs1'∧CoM R σ s1 fr1' cs1' u'∧Nx' Crz.prog s1 s∧((σ=ρ∧u'=w∧fs=#[]∧s1.w=s.w)∨(After (inF famM) ρ σ w1 w s1.w u' fs∧w1.heap=s.w.heap))) ∨
       (u'=w∧fs=#[]∧∃ (f0 n:Nat) (xs ys:Array Value),((f0=37∧n=3)∨(f0=41∧n=1))∧g1=gor (Frame.enter Tryz.prog f0 ys .normal) (fr' :: cs')∧LWc R ⟨Frame.enter Crz.prog f0 xs .normal,s.fr :: s.cs,s.w⟩∧Nx' Crz.prog ⟨Frame.enter Crz.prog f0 xs .normal,s.fr :: s.cs,s.w⟩ s∧xs.size=n∧RW ρ F2 xs ys)):=by
  obtain⟨fr,cs,wl⟩:=s
  by_cases hsp:AtSp SpM fr fr'
  · obtain⟨f,ts,ts',ops,ops',i,r,k,k',o,o',rfl,rfl,ht,hO,hr,ho,ho',hw,hw',hs⟩:=sp_forms h.st hsp
    have hLW:LWc R ⟨fr0 f ts (.inRegion ops (i :: r) :: k) .run,cs,wl⟩:=⟨h.good,h.will⟩
    have ev:∀ x,goodOperand famM (deadM f) x=true→VRel ρ (inF famM) ((fr0 f ts (.inRegion ops (i :: r) :: k) .run).eval x) ((fr0 f ts' (.inRegion ops' (i :: r) :: k') .run).eval x):=fun x hx=>eval_rel ht _ _ _ _ x hx
    cases hs with
    | @mk _ g t a b e _ _ c h1 h2 hd =>
      obtain⟨d1,d2,d3⟩:=c.dead
      obtain⟨hl,hn⟩:=hLW.go pL (t:=wl.tape) (s1:=⟨(fr0 f ts (.inRegion ops (i :: r) :: k) .run).finish _,cs,wl⟩) fun m0 rest=>(c_oper Crz.prog m0 f ts k (cs++rest) wl ops i r o ho hw).trans (c_value Crz.prog f ts k (cs++rest) wl ops i r _ _ wl #[] (run_mk h1))
      refine⟨_,w,#[],(c_oper Tryz.prog true f ts' k' cs' w ops' i r o' ho' hw').trans (c_value Tryz.prog f ts' k' cs' w ops' i r _ _ w #[] (run_mk (h2.trans h1))),.inl ⟨ρ,⟨(fr0 f ts (.inRegion ops (i :: r) :: k) .run).finish (.func (.func g) #[] ((#[.tmp 4,.tmp 5,.tmp 11,.tmp 6,.tmp 12]:Array Operand).map (fr0 f ts (.inRegion ops (i :: r) :: k) .run).eval)),cs,wl⟩,_,_,w,rfl,⟨?_,h.wr,hl.good,hl.will⟩,.single hn,.inl ⟨rfl,rfl,rfl,rfl⟩⟩⟩
      refine h.st.top (Ren.le_refl _) (FRel.finish2 ht hO hr .run ho fun d hd'=>?_) (finish_fn _ _)
      rw [hd] at hd';cases hd'
      refine⟨fun q=>(by rw [d1] at q;cases q),fun _ _=>?_⟩
      have hrow:RW ρ (inF famM) ((#[.tmp 4,.tmp 5,.tmp 11,.tmp 6,.tmp 12]:Array Operand).map (fr0 f ts (.inRegion ops (i :: r) :: k) .run).eval) ((#[.tmp 4,.tmp 5,.tmp 11,.tmp 6,.tmp 12]:Array Operand).map (fr0 f ts' (.inRegion ops' (i :: r) :: k') .run).eval):=by
        refine RW.map _ fun x hx=>ev x ?_
        simp only [List.mem_toArray,List.mem_cons,List.not_mem_nil,or_false] at hx
        rcases hx with rfl | rfl | rfl | rfl | rfl <;> simp [goodOperand,d2]
      exact .func (.inr d3) rfl (fun i x y hx=>by simp at hx) hrow.size fun i x y hx hy=>(hrow.at_ i x y hx hy).wide fun _=>.inl
    | @each _ g t a b e _ _ c h1 h2 hd =>
      obtain⟨d1,d2,d3⟩:=c.dead
      obtain⟨hl,hn⟩:=hLW.go pL (t:=wl.tape) (s1:=⟨Frame.enter Crz.prog 37 _ .normal,fr0 f ts (.inRegion ops (i :: r) :: k) .run :: cs,wl⟩) fun m0 rest=>(c_oper Crz.prog m0 f ts k (cs++rest) wl ops i r o ho hw).trans (c_enter Crz.prog f ts k (cs++rest) wl ops i r _ _ _ wl #[] (run_enter h1 rfl Crz.func37 nmE1 rfl))
      refine⟨_,w,#[],(c_oper Tryz.prog true f ts' k' cs' w ops' i r o' ho' hw').trans (c_enter Tryz.prog f ts' k' cs' w ops' i r _ _ _ w #[] (run_enter (h2.trans h1) rfl Tryz.func37 nmE2 rfl)),.inr ⟨rfl,rfl,_,3,_,_,.inl ⟨rfl,rfl⟩,rfl,hl,.single hn,by simp,?_⟩⟩
      refine RW.map _ fun x hx=>?_
      simp only [List.mem_toArray,List.mem_cons,List.not_mem_nil,or_false] at hx
      rcases hx with rfl | rfl | rfl
      · exact(ev _ (by simp [goodOperand,d2])).wide fun _=>.inl
      · exact(ev _ (by simp [goodOperand,d2])).wide fun _=>.inl
      · show VRel ρ F2 (ts.getD t undef) (ts'.getD t undef)
        rw [Array.getD_eq_getD_getElem?,Array.getD_eq_getD_getElem?]
        cases hx:ts[t]? with
        | none=>rw [ht.none hx];exact VRel.undef
        | some v =>
          have hlt:=(Array.getElem?_eq_some_iff.1 hx).1
          have hlt':t<ts'.size:=ht.size ▸ hlt
          have hy:ts'[t]? = some ts'[t]:=Array.getElem?_eq_getElem hlt'
          rw [hy]
          exact ht.de rfl t _ _ d1 hx hy
    | ld h1 h2 hd =>
      obtain⟨hl,hn⟩:=hLW.go pL (t:=wl.tape) (s1:=⟨Frame.enter Crz.prog 41 _ .normal,fr0 _ ts (.inRegion ops (i :: r) :: k) .run :: cs,wl⟩) fun m0 rest=>(c_oper Crz.prog m0 _ ts k (cs++rest) wl ops i r o ho hw).trans (c_enter Crz.prog _ ts k (cs++rest) wl ops i r _ _ _ wl #[] (run_enter h1 rfl Crz.func41 nmL1 rfl))
      refine⟨_,w,#[],(c_oper Tryz.prog true _ ts' k' cs' w ops' i r o' ho' hw').trans (c_enter Tryz.prog _ ts' k' cs' w ops' i r _ _ _ w #[] (run_enter (h2.trans h1) rfl Tryz.func41 nmL2 rfl)),.inr ⟨rfl,rfl,_,1,_,_,.inr ⟨rfl,rfl⟩,rfl,hl,.single hn,by simp,?_⟩⟩
      refine RW.map _ fun x hx=>?_
      simp only [List.mem_toArray,List.mem_cons,List.not_mem_nil,or_false] at hx
      subst hx
      exact(ev _ (by decide)).wide fun _=>.inl
  · obtain⟨σ,s1,fr1',cs1',u',fs,h1,hA,hB,hg,hw,hn,_⟩:=co_step pL pair_main h hb hsp
    have h2:=h1 true []
    simp only [List.append_nil] at h2
    rcases hB with hB | ⟨f,xs,ys,k1,k2,_⟩
    · exact⟨_,u',fs,h2,.inl ⟨σ,s1,fr1',cs1',_,rfl,Co.next hA hB hg hw,.single hn,.inr ⟨hA,rfl⟩⟩⟩
    · rw [k1] at k2;cases k2
theorem LW.acc{s:LS}(h:LWc R s):Acc (Nx Crz.prog) s:=by
  obtain⟨fr,cs,w⟩:=s
  exact will_acc pL h.will h.good
theorem solo_runs{s:LS}{l:List Nat}{m:Machine}{t:Trace}(h:Solo R w0 s l m t):Leads Tryz.prog m t (SExit R w0 s):=by
  have hA:Acc (Nx Crz.prog) s:=by
    obtain⟨gs,w,sl,ρ,fr',cs',hd,_,_,_,hC,_⟩:=h
    exact LW.acc ⟨hC.good,hC.will⟩
  refine leads_of_inv (r:=Prod.Lex (AS.lt Crz.prog) (Low1 (· < ·))) (Prod.lex ⟨_,AS.wf _⟩ ⟨_,low1_wf Nat.lt_wfRel.wf⟩).wf
    (fun (μ:AS Crz.prog×List Nat) m t=>(μ.1.1=s∨Nx' Crz.prog μ.1.1 s)∧(Solo R w0 μ.1.1 μ.2 m t)∨SExit R w0 s m t) ?_ (⟨s,hA⟩,l) m t (.inl ⟨.inl rfl,h⟩)
  rintro⟨⟨s1,hA1⟩,l⟩ m t (⟨hs,gs,w,sl,ρ,fr',cs',hd,rfl,h0,hL,hC,hJ⟩ | hx)
  · by_cases hleaf:s1.cs=[]∧s1.fr.mode≠.run
    · exact .inl (.inl ⟨s1,l,hs,⟨gs,w,sl,ρ,fr',cs',hd,rfl,h0,hL,hC,hJ⟩,hleaf.1,hleaf.2⟩)
    · have hb:s1.fr.mode=.run∨s1.cs≠[]:=by
        by_cases h1:s1.fr.mode=.run
        · exact .inl h1
        · exact .inr fun h2=>hleaf ⟨h2,h1⟩
      have down:∀ {s2:LS},Nx' Crz.prog s2 s1→Nx' Crz.prog s2 s:=fun hn=>hs.elim (fun e=>e ▸ hn) fun k=>hn.trans k
      have hN:0<gs.size:=(Array.getElem?_eq_some_iff.1 h0).1
      obtain⟨i,g,d,sl',hi,hir,hst⟩:=hL.pick (w:=w) (sl:=sl) h0 rfl
      right
      rw [hst]
      cases i with
      | zero =>
        rw [h0] at hi;cases hi
        have hC':CoM R ρ s1 fr' cs' (w.at d):=⟨hC.st,hC.wr.at d,hC.good,hC.will⟩
        obtain⟨g1,u',fs,hgo,hcase⟩:=solo_main hC' hb
        obtain⟨e1,e2,e3⟩:=hL.main (sl:=sl') h0 rfl hgo
        rcases hcase with ⟨σ,s2,fr1',cs1',w1,rfl,hC2,hn,hAf⟩ | ⟨rfl,rfl,f0,n,xs,ys,hf,rfl,hl,hn,hxs,hrow⟩
        · have hA2:Acc (Nx Crz.prog) s2:=LW.acc ⟨hC2.good,hC2.will⟩
          refine⟨_,_,(⟨s2,hA2⟩,l),e1,.left _ _ hn,.inl ⟨.inr (down hn),_,_,_,σ,_,_,hd,rfl,e3,e2,hC2,?_⟩⟩
          rw [Array.size_setIfInBounds]
          rcases hAf with ⟨rfl,rfl,rfl,he⟩ | ⟨hAf,he⟩
          · rw [he];exact(hJ.at d).still
          · exact(hJ.at d).step hN hC'.wr he hAf
        · have hA2:Acc (Nx Crz.prog) ⟨Frame.enter Crz.prog f0 xs .normal,s1.fr :: s1.cs,s1.w⟩:=LW.acc hl
          refine⟨_,_,(⟨_,hA2⟩,l),e1,.left _ _ hn,.inr (.inr ?_)⟩
          have hcall:AtCall R w0 f0 n s (crowd (gs.setIfInBounds 0 (gor (Frame.enter Tryz.prog f0 ys .normal) (fr' :: cs'))) (w.at d) sl') (t++MemOp.ofEvents 0 fr'.fn fr'.place #[]):=by
            refine⟨_,_,_,ρ,l,hd,_,_,_,_,xs,ys,s1.w,rfl,e3,e2,hl,down hn,hC.st,hC.wr.at d,hxs,hrow,?_⟩
            rw [Array.size_setIfInBounds]
            exact(hJ.at d).still
          rcases hf with ⟨rfl,rfl⟩ | ⟨rfl,rfl⟩
          · exact .inl hcall
          · exact .inr hcall
      | succ i =>
        obtain⟨g',es,l',hm,e1,e2,e3,e4⟩:=hL.leave (w:=w.at d) (sl:=sl') h0 rfl hi hir
        refine⟨_,_,(⟨s1,hA1⟩,l'),e1,.right _ e3,.inl ⟨hs,_,_,_,ρ,_,_,hd,rfl,e4,e2,⟨hC.st,hC.wr.at d,hC.good,hC.will⟩,?_⟩⟩
        rw [Array.size_setIfInBounds]
        exact(hJ.at d).mute (Array.getElem?_eq_some_iff.1 hi).1 (by omega) (mute_ops hm)
  · exact .inl hx
end
end Go.Proofs.YtdoibgmmijhlfaaGreat.Sm
