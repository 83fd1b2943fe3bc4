/- CrD CrT CrF -/
import Derived.Test.YtdoibgmmijhlfaaGreatProg
import Derived.KernelRfl
import Derived.ProofKit
namespace Go.Proofs.YtdoibgmmijhlfaaGreat.Sm
open Go
set_option linter.unusedVariables false
noncomputable def setOp (i : Nat) (g : Oper→Oper) : Code→Code
 | .region id ops d => .region id (ops.modify i g) d
 | c => c
noncomputable def onFst (g : Code→Code) : Code→Code
 | .seq a b => .seq (g a) b
 | c => c
noncomputable def onSnd (g : Code→Code) : Code→Code
 | .seq a b => .seq a (g b)
 | c => c
noncomputable def mute (o : Oper) : Oper:={ o with op:=.move (.const (.bool true)) }
noncomputable def scoresS : Func:={ Tryz.f42 with body:=Tryz.f42.body.map (setOp 16 mute),results:=#[.tmp 22,.tmp 21] }
noncomputable def countS : Func:={ Tryz.f38 with body:=Tryz.f38.body.map (onSnd (setOp 1 mute)),results:=#[.tmp 5,.tmp 23] }
noncomputable def op1 (d : Option Tmp) (t : TypeId) (o : Op) : Oper := { dst := d, op := o, type := t, pos := "", after := #[], guard := none }
noncomputable def loadS : Func:={ Tryz.f41 with ntmps:=12,body:=some (
 .seq (.region 0 #[op1 (some 3) 4 (.assign (.const (.bool true))),op1 (some 3) 4 (.assign (.const (.bool false)))] true) (
 .seq (.cond (.tmp 3)
  (.region 1 #[op1 (some 4) 85 (.makeFunc (.func 41) #[] #[.tmp 0]),op1 (some 5) 85 (.makeInterface 85 (.tmp 4)),op1 none 3 (.panic (.tmp 5))] false)
  .skip) (
 .seq (.region 2 #[op1 (some 6) 126 (.move (.tmp 0)),op1 (some 7) 126 (.nilCheck (.tmp 6)),op1 (some 8) 128 (.fieldAddr 81 (.tmp 7) 2),op1 (some 9) 2 (.load 2 (.tmp 8)),op1 (some 2) 2 (.assign (.tmp 9))] false) .ret))) }
noncomputable def eachS : Func:={ Tryz.f37 with body:=some (
 .seq (.region 0 #[op1 (some 3) 4 (.assign (.const (.bool true))),op1 (some 3) 4 (.assign (.const (.bool false)))] true) (
 .seq (.cond (.tmp 3)
  (.region 1 #[op1 (some 4) 85 (.makeFunc (.func 37) #[] #[.tmp 0,.tmp 1,.tmp 2]),op1 (some 5) 85 (.makeInterface 85 (.tmp 4)),op1 none 3 (.panic (.tmp 5))] false)
  .skip) (
 .seq (.region 2 #[op1 (some 6) 3 (.assign (.const (.int .i64 0)))] false) (
 .block 0 (.loop (
  .seq (.region 3 #[op1 (some 7) 4 (.binOp .lss 3 (.tmp 6) (.tmp 0) 3)] false) (
  .seq (.cond (.tmp 7) .skip (.exit 0)) (
  .seq (.region 4 #[op1 (some 8) 3 (.call { callee:=.value (.tmp 2),args:=#[.tmp 6],argTypes:=#[3] })] false) (
  .region 5 #[op1 (some 9) 200 (.extract (.tmp 8) 0),op1 (some 10) 3 (.extract (.tmp 8) 1),op1 (some 11) 3 (.load 3 (.tmp 9)),op1 (some 12) 3 (.binOp .add 3 (.tmp 11) (.tmp 10) 3),
   op1 none 3 (.store 3 (.tmp 9) (.tmp 12)),op1 (some 13) 3 (.binOp .add 3 (.tmp 6) (.const (.int .i64 1)) 3),op1 (some 6) 3 (.assign (.tmp 13))] false))))))))) }
noncomputable def other (f : FuncId) : Bool:=f == 37 || f == 42 || f == 38 || f == 41
end Go.Proofs.YtdoibgmmijhlfaaGreat.Sm
noncomputable def Go.Proofs.Crz.prog : Go.Program:=open Go.Proofs Go.Proofs.YtdoibgmmijhlfaaGreat.Sm in { toTables:=Tryz.prog.toTables,funcs:=(((Tryz.prog.funcs.setIfInBounds 37 eachS).setIfInBounds 42 scoresS).setIfInBounds 38 countS).setIfInBounds 41 loadS }

namespace Go.Proofs.YtdoibgmmijhlfaaGreat.Sm
open Go
set_option linter.unusedVariables false
namespace Tb
theorem gti {p p' : Program} (e : p'.toTables=p.toTables) (t : TypeId) (w : World) : Sem.run p' (typeInfo t) w=Sem.run p (typeInfo t) w:=by
 have h : p'.info? t=p.info? t:=by cases p; cases p'; simp only at e; subst e; rfl
 simp [typeInfo,h]
 cases p.info? t <;> rfl
theorem gru {p p' : Program} (e : p'.toTables=p.toTables) (t : TypeId) (w : World) : Sem.run p' (underlying t) w=Sem.run p (underlying t) w:=by
 have h : p'.underlying t=p.underlying t:=by cases p; cases p'; simp only at e; subst e; rfl
 simp [underlying,h]
 cases p.underlying t <;> rfl
theorem gze {p p' : Program} (e : p'.toTables=p.toTables) (t : TypeId) (w : World) : Sem.run p' (zeroValue t) w=Sem.run p (zeroValue t) w:=by
 simp [zeroValue,gti e]
 cases Sem.run p (typeInfo t) w with
 | halt _ _ => simp
 | ok i u =>
  cases h : i.zero <;> simp [h]
theorem gsz {p p' : Program} (e : p'.toTables=p.toTables) (t : TypeId) (w : World) : Sem.run p' (sizeOf t) w=Sem.run p (sizeOf t) w:=by
 simp [sizeOf,gti e]
theorem gag {p p' : Program} (e : p'.toTables=p.toTables) (t : TypeId) (w : World) : Sem.run p' (isAgg t) w=Sem.run p (isAgg t) w:=by
 simp [isAgg,gru e]
 cases Sem.run p (underlying t) w with
 | halt _ _ => simp
 | ok i u => cases i <;> simp
theorem geg {p p' : Program} (e : p'.toTables=p.toTables) (t : TypeId) : p'.eqGuardType p'.depth t=p.eqGuardType p.depth t:=by
 have hd : p'.depth=p.depth:=by cases p; cases p'; simp only at e; subst e; rfl
 have hu : p'.underlying=p.underlying:=by cases p; cases p'; simp only at e; subst e; rfl
 have h : ∀ n t,p'.eqGuardType n t=p.eqGuardType n t:=by
  intro n
  induction n with
  | zero => intro t; rfl
  | succ n ih => intro t; simp only [Program.eqGuardType,hu,ih]
 rw [hd,h]
section
variable {t : TypeId}
theorem tabs : Crz.prog.toTables=Tryz.prog.toTables:=by kernel_rfl
theorem un {v : TypeDesc} (h : Tryz.prog.underlying t=some v) : Crz.prog.underlying t=some v:=by
 have : ∀ {p p' : Program},p'.toTables=p.toTables→p.underlying t=some v→p'.underlying t=some v:=fun {p p'} e h => by cases p; cases p'; simp only at e; subst e; exact h
 exact this tabs h
theorem sz {v : Nat} (h : ∀ w,Sem.run Tryz.prog (sizeOf t) w=.ok v w) : ∀ w,Sem.run Crz.prog (sizeOf t) w=.ok v w:=fun w => (gsz tabs t w).trans (h w)
theorem ru {v : TypeDesc} (h : ∀ w,Sem.run Tryz.prog (underlying t) w=.ok v w) : ∀ w,Sem.run Crz.prog (underlying t) w=.ok v w:=fun w => (gru tabs t w).trans (h w)
theorem ag {v : Bool} (h : ∀ w,Sem.run Tryz.prog (isAgg t) w=.ok v w) : ∀ w,Sem.run Crz.prog (isAgg t) w=.ok v w:=fun w => (gag tabs t w).trans (h w)
theorem ze {v : Value} (h : ∀ w,Sem.run Tryz.prog (zeroValue t) w=.ok v w) : ∀ w,Sem.run Crz.prog (zeroValue t) w=.ok v w:=fun w => (gze tabs t w).trans (h w)
theorem eg {v : Bool} (h : Tryz.prog.eqGuardType Tryz.prog.depth t=v) : Crz.prog.eqGuardType Crz.prog.depth t=v:=(geg tabs t).trans h
end
theorem set_ne {a : Array Func} {i j : Nat} {x : Func} (h : j ≠ i) : (a.setIfInBounds i x)[j]? = a[j]?:=Array.getElem?_setIfInBounds_ne (Ne.symm h)
theorem funcs_eq : Crz.prog.funcs=(((Tryz.prog.funcs.setIfInBounds 37 eachS).setIfInBounds 42 scoresS).setIfInBounds 38 countS).setIfInBounds 41 loadS:=by kernel_rfl
theorem fu {f : Nat} {fn : Func} (h : Tryz.prog.funcs[f]? = some fn) (k : other f=false) : Crz.prog.funcs[f]? = some fn:=by
 simp only [other,Bool.or_eq_false_iff,beq_eq_false_iff_ne] at k
 rw [funcs_eq]
 exact (set_ne k.2).trans ((set_ne k.1.2).trans ((set_ne k.1.1.2).trans ((set_ne k.1.1.1).trans h)))
end Tb
end Go.Proofs.YtdoibgmmijhlfaaGreat.Sm
namespace Go.Proofs
open Go Go.Proofs.YtdoibgmmijhlfaaGreat.Sm
set_option linter.unusedVariables false
namespace Crz
@[simp] theorem call115 (args : Array Value) (w : World) : Sem.run Crz.prog (callFunc 115 args) w=.ok (.enter 115 args) w:=by kernel_rfl
@[simp] theorem call116 (args : Array Value) (w : World) : Sem.run Crz.prog (callFunc 116 args) w=.ok (.enter 116 args) w:=by kernel_rfl
@[simp] theorem call118 (args : Array Value) (w : World) : Sem.run Crz.prog (callFunc 118 args) w=.ok (.enter 118 args) w:=by kernel_rfl
@[simp] theorem call119 (args : Array Value) (w : World) : Sem.run Crz.prog (callFunc 119 args) w=.ok (.enter 119 args) w:=by kernel_rfl
@[simp] theorem call12 (args : Array Value) (w : World) : Sem.run Crz.prog (callFunc 12 args) w=.ok (.enter 12 args) w:=by kernel_rfl
@[simp] theorem call120 (args : Array Value) (w : World) : Sem.run Crz.prog (callFunc 120 args) w=.ok (.enter 120 args) w:=by kernel_rfl
@[simp] theorem call121 (args : Array Value) (w : World) : Sem.run Crz.prog (callFunc 121 args) w=.ok (.enter 121 args) w:=by kernel_rfl
@[simp] theorem call122 (args : Array Value) (w : World) : Sem.run Crz.prog (callFunc 122 args) w=.ok (.enter 122 args) w:=by kernel_rfl
@[simp] theorem call13 (args : Array Value) (w : World) : Sem.run Crz.prog (callFunc 13 args) w=.ok (.enter 13 args) w:=by kernel_rfl
@[simp] theorem call139 (args : Array Value) (w : World) : Sem.run Crz.prog (callFunc 139 args) w=.ok (.enter 139 args) w:=by kernel_rfl
@[simp] theorem call140 (args : Array Value) (w : World) : Sem.run Crz.prog (callFunc 140 args) w=.ok (.enter 140 args) w:=by kernel_rfl
@[simp] theorem call141 (args : Array Value) (w : World) : Sem.run Crz.prog (callFunc 141 args) w=.ok (.enter 141 args) w:=by kernel_rfl
@[simp] theorem call16 (args : Array Value) (w : World) : Sem.run Crz.prog (callFunc 16 args) w=.ok (.enter 16 args) w:=by kernel_rfl
@[simp] theorem call18 (args : Array Value) (w : World) : Sem.run Crz.prog (callFunc 18 args) w=.ok (.enter 18 args) w:=by kernel_rfl
@[simp] theorem call20 (args : Array Value) (w : World) : Sem.run Crz.prog (callFunc 20 args) w=.ok (.enter 20 args) w:=by kernel_rfl
@[simp] theorem call21 (args : Array Value) (w : World) : Sem.run Crz.prog (callFunc 21 args) w=.ok (.enter 21 args) w:=by kernel_rfl
@[simp] theorem call22 (args : Array Value) (w : World) : Sem.run Crz.prog (callFunc 22 args) w=.ok (.enter 22 args) w:=by kernel_rfl
@[simp] theorem call23 (args : Array Value) (w : World) : Sem.run Crz.prog (callFunc 23 args) w=.ok (.enter 23 args) w:=by kernel_rfl
@[simp] theorem call24 (args : Array Value) (w : World) : Sem.run Crz.prog (callFunc 24 args) w=.ok (.enter 24 args) w:=by kernel_rfl
@[simp] theorem call25 (args : Array Value) (w : World) : Sem.run Crz.prog (callFunc 25 args) w=.ok (.enter 25 args) w:=by kernel_rfl
@[simp] theorem call26 (args : Array Value) (w : World) : Sem.run Crz.prog (callFunc 26 args) w=.ok (.enter 26 args) w:=by kernel_rfl
@[simp] theorem call27 (args : Array Value) (w : World) : Sem.run Crz.prog (callFunc 27 args) w=.ok (.enter 27 args) w:=by kernel_rfl
@[simp] theorem call28 (args : Array Value) (w : World) : Sem.run Crz.prog (callFunc 28 args) w=.ok (.enter 28 args) w:=by kernel_rfl
@[simp] theorem call29 (args : Array Value) (w : World) : Sem.run Crz.prog (callFunc 29 args) w=.ok (.enter 29 args) w:=by kernel_rfl
@[simp] theorem call34 (args : Array Value) (w : World) : Sem.run Crz.prog (callFunc 34 args) w=.ok (.enter 34 args) w:=by kernel_rfl
@[simp] theorem call35 (args : Array Value) (w : World) : Sem.run Crz.prog (callFunc 35 args) w=.ok (.enter 35 args) w:=by kernel_rfl
@[simp] theorem call36 (args : Array Value) (w : World) : Sem.run Crz.prog (callFunc 36 args) w=.ok (.enter 36 args) w:=by kernel_rfl
@[simp] theorem call37 (args : Array Value) (w : World) : Sem.run Crz.prog (callFunc 37 args) w=.ok (.enter 37 args) w:=by kernel_rfl
@[simp] theorem call38 (args : Array Value) (w : World) : Sem.run Crz.prog (callFunc 38 args) w=.ok (.enter 38 args) w:=by kernel_rfl
@[simp] theorem call39 (args : Array Value) (w : World) : Sem.run Crz.prog (callFunc 39 args) w=.ok (.enter 39 args) w:=by kernel_rfl
@[simp] theorem call41 (args : Array Value) (w : World) : Sem.run Crz.prog (callFunc 41 args) w=.ok (.enter 41 args) w:=by kernel_rfl
@[simp] theorem call42 (args : Array Value) (w : World) : Sem.run Crz.prog (callFunc 42 args) w=.ok (.enter 42 args) w:=by kernel_rfl
@[simp] theorem call43 (args : Array Value) (w : World) : Sem.run Crz.prog (callFunc 43 args) w=.ok (.enter 43 args) w:=by kernel_rfl
@[simp] theorem call44 (args : Array Value) (w : World) : Sem.run Crz.prog (callFunc 44 args) w=.ok (.enter 44 args) w:=by kernel_rfl
@[simp] theorem call45 (args : Array Value) (w : World) : Sem.run Crz.prog (callFunc 45 args) w=.ok (.enter 45 args) w:=by kernel_rfl
@[simp] theorem call46 (args : Array Value) (w : World) : Sem.run Crz.prog (callFunc 46 args) w=.ok (.enter 46 args) w:=by kernel_rfl
@[simp] theorem call47 (args : Array Value) (w : World) : Sem.run Crz.prog (callFunc 47 args) w=.ok (.enter 47 args) w:=by kernel_rfl
@[simp] theorem call49 (args : Array Value) (w : World) : Sem.run Crz.prog (callFunc 49 args) w=.ok (.enter 49 args) w:=by kernel_rfl
@[simp] theorem call50 (args : Array Value) (w : World) : Sem.run Crz.prog (callFunc 50 args) w=.ok (.enter 50 args) w:=by kernel_rfl
@[simp] theorem call51 (args : Array Value) (w : World) : Sem.run Crz.prog (callFunc 51 args) w=.ok (.enter 51 args) w:=by kernel_rfl
@[simp] theorem call52 (args : Array Value) (w : World) : Sem.run Crz.prog (callFunc 52 args) w=.ok (.enter 52 args) w:=by kernel_rfl
@[simp] theorem call53 (args : Array Value) (w : World) : Sem.run Crz.prog (callFunc 53 args) w=.ok (.enter 53 args) w:=by kernel_rfl
@[simp] theorem call54 (args : Array Value) (w : World) : Sem.run Crz.prog (callFunc 54 args) w=.ok (.enter 54 args) w:=by kernel_rfl
@[simp] theorem call55 (args : Array Value) (w : World) : Sem.run Crz.prog (callFunc 55 args) w=.ok (.enter 55 args) w:=by kernel_rfl
@[simp] theorem call58 (args : Array Value) (w : World) : Sem.run Crz.prog (callFunc 58 args) w=.ok (.enter 58 args) w:=by kernel_rfl
@[simp] theorem call59 (args : Array Value) (w : World) : Sem.run Crz.prog (callFunc 59 args) w=.ok (.enter 59 args) w:=by kernel_rfl
@[simp] theorem call60 (args : Array Value) (w : World) : Sem.run Crz.prog (callFunc 60 args) w=.ok (.enter 60 args) w:=by kernel_rfl
@[simp] theorem call61 (args : Array Value) (w : World) : Sem.run Crz.prog (callFunc 61 args) w=.ok (.enter 61 args) w:=by kernel_rfl
@[simp] theorem call63 (args : Array Value) (w : World) : Sem.run Crz.prog (callFunc 63 args) w=.ok (.enter 63 args) w:=by kernel_rfl
@[simp] theorem call64 (args : Array Value) (w : World) : Sem.run Crz.prog (callFunc 64 args) w=.ok (.enter 64 args) w:=by kernel_rfl
@[simp] theorem call65 (args : Array Value) (w : World) : Sem.run Crz.prog (callFunc 65 args) w=.ok (.enter 65 args) w:=by kernel_rfl
@[simp] theorem call70 (args : Array Value) (w : World) : Sem.run Crz.prog (callFunc 70 args) w=.ok (.enter 70 args) w:=by kernel_rfl
@[simp] theorem call73 (args : Array Value) (w : World) : Sem.run Crz.prog (callFunc 73 args) w=.ok (.enter 73 args) w:=by kernel_rfl
@[simp] theorem call74 (args : Array Value) (w : World) : Sem.run Crz.prog (callFunc 74 args) w=.ok (.enter 74 args) w:=by kernel_rfl
@[simp] theorem call76 (args : Array Value) (w : World) : Sem.run Crz.prog (callFunc 76 args) w=.ok (.enter 76 args) w:=by kernel_rfl
@[simp] theorem call77 (args : Array Value) (w : World) : Sem.run Crz.prog (callFunc 77 args) w=.ok (.enter 77 args) w:=by kernel_rfl
@[simp] theorem call78 (args : Array Value) (w : World) : Sem.run Crz.prog (callFunc 78 args) w=.ok (.enter 78 args) w:=by kernel_rfl
@[simp] theorem call79 (args : Array Value) (w : World) : Sem.run Crz.prog (callFunc 79 args) w=.ok (.enter 79 args) w:=by kernel_rfl
@[simp] theorem call80 (args : Array Value) (w : World) : Sem.run Crz.prog (callFunc 80 args) w=.ok (.enter 80 args) w:=by kernel_rfl
@[simp] theorem call81 (args : Array Value) (w : World) : Sem.run Crz.prog (callFunc 81 args) w=.ok (.enter 81 args) w:=by kernel_rfl
@[simp] theorem call82 (args : Array Value) (w : World) : Sem.run Crz.prog (callFunc 82 args) w=.ok (.enter 82 args) w:=by kernel_rfl
@[simp] theorem call83 (args : Array Value) (w : World) : Sem.run Crz.prog (callFunc 83 args) w=.ok (.enter 83 args) w:=by kernel_rfl
@[simp] theorem call84 (args : Array Value) (w : World) : Sem.run Crz.prog (callFunc 84 args) w=.ok (.enter 84 args) w:=by kernel_rfl
@[simp] theorem call85 (args : Array Value) (w : World) : Sem.run Crz.prog (callFunc 85 args) w=.ok (.enter 85 args) w:=by kernel_rfl
@[simp] theorem call87 (args : Array Value) (w : World) : Sem.run Crz.prog (callFunc 87 args) w=.ok (.enter 87 args) w:=by kernel_rfl
@[simp] theorem call89 (args : Array Value) (w : World) : Sem.run Crz.prog (callFunc 89 args) w=.ok (.enter 89 args) w:=by kernel_rfl
@[simp] theorem call93 (args : Array Value) (w : World) : Sem.run Crz.prog (callFunc 93 args) w=.ok (.enter 93 args) w:=by kernel_rfl
@[simp] theorem call96 (args : Array Value) (w : World) : Sem.run Crz.prog (callFunc 96 args) w=.ok (.enter 96 args) w:=by kernel_rfl
@[simp] theorem eqGuardType31 : type_of% (Tb.eg Tryz.eqGuardType31):=Tb.eg Tryz.eqGuardType31
@[simp] theorem func100 : type_of% (Tb.fu Tryz.func100 rfl):=Tb.fu Tryz.func100 rfl
@[simp] theorem func101 : type_of% (Tb.fu Tryz.func101 rfl):=Tb.fu Tryz.func101 rfl
@[simp] theorem func102 : type_of% (Tb.fu Tryz.func102 rfl):=Tb.fu Tryz.func102 rfl
@[simp] theorem func103 : type_of% (Tb.fu Tryz.func103 rfl):=Tb.fu Tryz.func103 rfl
@[simp] theorem func104 : type_of% (Tb.fu Tryz.func104 rfl):=Tb.fu Tryz.func104 rfl
@[simp] theorem func105 : type_of% (Tb.fu Tryz.func105 rfl):=Tb.fu Tryz.func105 rfl
@[simp] theorem func106 : type_of% (Tb.fu Tryz.func106 rfl):=Tb.fu Tryz.func106 rfl
@[simp] theorem func107 : type_of% (Tb.fu Tryz.func107 rfl):=Tb.fu Tryz.func107 rfl
@[simp] theorem func108 : type_of% (Tb.fu Tryz.func108 rfl):=Tb.fu Tryz.func108 rfl
@[simp] theorem func109 : type_of% (Tb.fu Tryz.func109 rfl):=Tb.fu Tryz.func109 rfl
@[simp] theorem func110 : type_of% (Tb.fu Tryz.func110 rfl):=Tb.fu Tryz.func110 rfl
@[simp] theorem func111 : type_of% (Tb.fu Tryz.func111 rfl):=Tb.fu Tryz.func111 rfl
@[simp] theorem func112 : type_of% (Tb.fu Tryz.func112 rfl):=Tb.fu Tryz.func112 rfl
@[simp] theorem func113 : type_of% (Tb.fu Tryz.func113 rfl):=Tb.fu Tryz.func113 rfl
@[simp] theorem func114 : type_of% (Tb.fu Tryz.func114 rfl):=Tb.fu Tryz.func114 rfl
@[simp] theorem func115 : type_of% (Tb.fu Tryz.func115 rfl):=Tb.fu Tryz.func115 rfl
@[simp] theorem func116 : type_of% (Tb.fu Tryz.func116 rfl):=Tb.fu Tryz.func116 rfl
@[simp] theorem func117 : type_of% (Tb.fu Tryz.func117 rfl):=Tb.fu Tryz.func117 rfl
@[simp] theorem func118 : type_of% (Tb.fu Tryz.func118 rfl):=Tb.fu Tryz.func118 rfl
@[simp] theorem func119 : type_of% (Tb.fu Tryz.func119 rfl):=Tb.fu Tryz.func119 rfl
@[simp] theorem func12 : type_of% (Tb.fu Tryz.func12 rfl):=Tb.fu Tryz.func12 rfl
@[simp] theorem func120 : type_of% (Tb.fu Tryz.func120 rfl):=Tb.fu Tryz.func120 rfl
@[simp] theorem func121 : type_of% (Tb.fu Tryz.func121 rfl):=Tb.fu Tryz.func121 rfl
@[simp] theorem func122 : type_of% (Tb.fu Tryz.func122 rfl):=Tb.fu Tryz.func122 rfl
@[simp] theorem func124 : type_of% (Tb.fu Tryz.func124 rfl):=Tb.fu Tryz.func124 rfl
@[simp] theorem func125 : type_of% (Tb.fu Tryz.func125 rfl):=Tb.fu Tryz.func125 rfl
@[simp] theorem func126 : type_of% (Tb.fu Tryz.func126 rfl):=Tb.fu Tryz.func126 rfl
@[simp] theorem func127 : type_of% (Tb.fu Tryz.func127 rfl):=Tb.fu Tryz.func127 rfl
@[simp] theorem func128 : type_of% (Tb.fu Tryz.func128 rfl):=Tb.fu Tryz.func128 rfl
@[simp] theorem func129 : type_of% (Tb.fu Tryz.func129 rfl):=Tb.fu Tryz.func129 rfl
@[simp] theorem func13 : type_of% (Tb.fu Tryz.func13 rfl):=Tb.fu Tryz.func13 rfl
@[simp] theorem func130 : type_of% (Tb.fu Tryz.func130 rfl):=Tb.fu Tryz.func130 rfl
@[simp] theorem func131 : type_of% (Tb.fu Tryz.func131 rfl):=Tb.fu Tryz.func131 rfl
@[simp] theorem func132 : type_of% (Tb.fu Tryz.func132 rfl):=Tb.fu Tryz.func132 rfl
@[simp] theorem func133 : type_of% (Tb.fu Tryz.func133 rfl):=Tb.fu Tryz.func133 rfl
@[simp] theorem func134 : type_of% (Tb.fu Tryz.func134 rfl):=Tb.fu Tryz.func134 rfl
@[simp] theorem func135 : type_of% (Tb.fu Tryz.func135 rfl):=Tb.fu Tryz.func135 rfl
@[simp] theorem func136 : type_of% (Tb.fu Tryz.func136 rfl):=Tb.fu Tryz.func136 rfl
@[simp] theorem func137 : type_of% (Tb.fu Tryz.func137 rfl):=Tb.fu Tryz.func137 rfl
@[simp] theorem func138 : type_of% (Tb.fu Tryz.func138 rfl):=Tb.fu Tryz.func138 rfl
@[simp] theorem func139 : type_of% (Tb.fu Tryz.func139 rfl):=Tb.fu Tryz.func139 rfl
@[simp] theorem func140 : type_of% (Tb.fu Tryz.func140 rfl):=Tb.fu Tryz.func140 rfl
@[simp] theorem func141 : type_of% (Tb.fu Tryz.func141 rfl):=Tb.fu Tryz.func141 rfl
@[simp] theorem func143 : type_of% (Tb.fu Tryz.func143 rfl):=Tb.fu Tryz.func143 rfl
@[simp] theorem func144 : type_of% (Tb.fu Tryz.func144 rfl):=Tb.fu Tryz.func144 rfl
@[simp] theorem func145 : type_of% (Tb.fu Tryz.func145 rfl):=Tb.fu Tryz.func145 rfl
@[simp] theorem func146 : type_of% (Tb.fu Tryz.func146 rfl):=Tb.fu Tryz.func146 rfl
@[simp] theorem func147 : type_of% (Tb.fu Tryz.func147 rfl):=Tb.fu Tryz.func147 rfl
@[simp] theorem func149 : type_of% (Tb.fu Tryz.func149 rfl):=Tb.fu Tryz.func149 rfl
@[simp] theorem func16 : type_of% (Tb.fu Tryz.func16 rfl):=Tb.fu Tryz.func16 rfl
@[simp] theorem func18 : type_of% (Tb.fu Tryz.func18 rfl):=Tb.fu Tryz.func18 rfl
@[simp] theorem func20 : type_of% (Tb.fu Tryz.func20 rfl):=Tb.fu Tryz.func20 rfl
@[simp] theorem func21 : type_of% (Tb.fu Tryz.func21 rfl):=Tb.fu Tryz.func21 rfl
@[simp] theorem func22 : type_of% (Tb.fu Tryz.func22 rfl):=Tb.fu Tryz.func22 rfl
@[simp] theorem func23 : type_of% (Tb.fu Tryz.func23 rfl):=Tb.fu Tryz.func23 rfl
@[simp] theorem func24 : type_of% (Tb.fu Tryz.func24 rfl):=Tb.fu Tryz.func24 rfl
@[simp] theorem func25 : type_of% (Tb.fu Tryz.func25 rfl):=Tb.fu Tryz.func25 rfl
@[simp] theorem func26 : type_of% (Tb.fu Tryz.func26 rfl):=Tb.fu Tryz.func26 rfl
@[simp] theorem func27 : type_of% (Tb.fu Tryz.func27 rfl):=Tb.fu Tryz.func27 rfl
@[simp] theorem func28 : type_of% (Tb.fu Tryz.func28 rfl):=Tb.fu Tryz.func28 rfl
@[simp] theorem func29 : type_of% (Tb.fu Tryz.func29 rfl):=Tb.fu Tryz.func29 rfl
@[simp] theorem func34 : type_of% (Tb.fu Tryz.func34 rfl):=Tb.fu Tryz.func34 rfl
@[simp] theorem func35 : type_of% (Tb.fu Tryz.func35 rfl):=Tb.fu Tryz.func35 rfl
@[simp] theorem func36 : type_of% (Tb.fu Tryz.func36 rfl):=Tb.fu Tryz.func36 rfl
@[simp] theorem func37 : Crz.prog.funcs[37]? = some eachS:=by kernel_rfl
@[simp] theorem func38 : Crz.prog.funcs[38]? = some countS:=by kernel_rfl
@[simp] theorem func39 : type_of% (Tb.fu Tryz.func39 rfl):=Tb.fu Tryz.func39 rfl
@[simp] theorem func4 : type_of% (Tb.fu Tryz.func4 rfl):=Tb.fu Tryz.func4 rfl
@[simp] theorem func40 : type_of% (Tb.fu Tryz.func40 rfl):=Tb.fu Tryz.func40 rfl
@[simp] theorem func41 : Crz.prog.funcs[41]? = some loadS:=by kernel_rfl
@[simp] theorem func42 : Crz.prog.funcs[42]? = some scoresS:=by kernel_rfl
@[simp] theorem func43 : type_of% (Tb.fu Tryz.func43 rfl):=Tb.fu Tryz.func43 rfl
@[simp] theorem func44 : type_of% (Tb.fu Tryz.func44 rfl):=Tb.fu Tryz.func44 rfl
@[simp] theorem func45 : type_of% (Tb.fu Tryz.func45 rfl):=Tb.fu Tryz.func45 rfl
@[simp] theorem func46 : type_of% (Tb.fu Tryz.func46 rfl):=Tb.fu Tryz.func46 rfl
@[simp] theorem func47 : type_of% (Tb.fu Tryz.func47 rfl):=Tb.fu Tryz.func47 rfl
@[simp] theorem func49 : type_of% (Tb.fu Tryz.func49 rfl):=Tb.fu Tryz.func49 rfl
@[simp] theorem func50 : type_of% (Tb.fu Tryz.func50 rfl):=Tb.fu Tryz.func50 rfl
@[simp] theorem func51 : type_of% (Tb.fu Tryz.func51 rfl):=Tb.fu Tryz.func51 rfl
@[simp] theorem func52 : type_of% (Tb.fu Tryz.func52 rfl):=Tb.fu Tryz.func52 rfl
@[simp] theorem func53 : type_of% (Tb.fu Tryz.func53 rfl):=Tb.fu Tryz.func53 rfl
@[simp] theorem func54 : type_of% (Tb.fu Tryz.func54 rfl):=Tb.fu Tryz.func54 rfl
@[simp] theorem func55 : type_of% (Tb.fu Tryz.func55 rfl):=Tb.fu Tryz.func55 rfl
@[simp] theorem func58 : type_of% (Tb.fu Tryz.func58 rfl):=Tb.fu Tryz.func58 rfl
@[simp] theorem func59 : type_of% (Tb.fu Tryz.func59 rfl):=Tb.fu Tryz.func59 rfl
@[simp] theorem func60 : type_of% (Tb.fu Tryz.func60 rfl):=Tb.fu Tryz.func60 rfl
@[simp] theorem func61 : type_of% (Tb.fu Tryz.func61 rfl):=Tb.fu Tryz.func61 rfl
@[simp] theorem func62 : type_of% (Tb.fu Tryz.func62 rfl):=Tb.fu Tryz.func62 rfl
@[simp] theorem func63 : type_of% (Tb.fu Tryz.func63 rfl):=Tb.fu Tryz.func63 rfl
@[simp] theorem func64 : type_of% (Tb.fu Tryz.func64 rfl):=Tb.fu Tryz.func64 rfl
@[simp] theorem func65 : type_of% (Tb.fu Tryz.func65 rfl):=Tb.fu Tryz.func65 rfl
@[simp] theorem func66 : type_of% (Tb.fu Tryz.func66 rfl):=Tb.fu Tryz.func66 rfl
@[simp] theorem func67 : type_of% (Tb.fu Tryz.func67 rfl):=Tb.fu Tryz.func67 rfl
@[simp] theorem func68 : type_of% (Tb.fu Tryz.func68 rfl):=Tb.fu Tryz.func68 rfl
@[simp] theorem func69 : type_of% (Tb.fu Tryz.func69 rfl):=Tb.fu Tryz.func69 rfl
@[simp] theorem func70 : type_of% (Tb.fu Tryz.func70 rfl):=Tb.fu Tryz.func70 rfl
@[simp] theorem func71 : type_of% (Tb.fu Tryz.func71 rfl):=Tb.fu Tryz.func71 rfl
@[simp] theorem func72 : type_of% (Tb.fu Tryz.func72 rfl):=Tb.fu Tryz.func72 rfl
@[simp] theorem func73 : type_of% (Tb.fu Tryz.func73 rfl):=Tb.fu Tryz.func73 rfl
@[simp] theorem func74 : type_of% (Tb.fu Tryz.func74 rfl):=Tb.fu Tryz.func74 rfl
@[simp] theorem func75 : type_of% (Tb.fu Tryz.func75 rfl):=Tb.fu Tryz.func75 rfl
@[simp] theorem func76 : type_of% (Tb.fu Tryz.func76 rfl):=Tb.fu Tryz.func76 rfl
@[simp] theorem func77 : type_of% (Tb.fu Tryz.func77 rfl):=Tb.fu Tryz.func77 rfl
@[simp] theorem func78 : type_of% (Tb.fu Tryz.func78 rfl):=Tb.fu Tryz.func78 rfl
@[simp] theorem func79 : type_of% (Tb.fu Tryz.func79 rfl):=Tb.fu Tryz.func79 rfl
@[simp] theorem func80 : type_of% (Tb.fu Tryz.func80 rfl):=Tb.fu Tryz.func80 rfl
@[simp] theorem func81 : type_of% (Tb.fu Tryz.func81 rfl):=Tb.fu Tryz.func81 rfl
@[simp] theorem func82 : type_of% (Tb.fu Tryz.func82 rfl):=Tb.fu Tryz.func82 rfl
@[simp] theorem func83 : type_of% (Tb.fu Tryz.func83 rfl):=Tb.fu Tryz.func83 rfl
@[simp] theorem func84 : type_of% (Tb.fu Tryz.func84 rfl):=Tb.fu Tryz.func84 rfl
@[simp] theorem func85 : type_of% (Tb.fu Tryz.func85 rfl):=Tb.fu Tryz.func85 rfl
@[simp] theorem func86 : type_of% (Tb.fu Tryz.func86 rfl):=Tb.fu Tryz.func86 rfl
@[simp] theorem func87 : type_of% (Tb.fu Tryz.func87 rfl):=Tb.fu Tryz.func87 rfl
@[simp] theorem func89 : type_of% (Tb.fu Tryz.func89 rfl):=Tb.fu Tryz.func89 rfl
@[simp] theorem func93 : type_of% (Tb.fu Tryz.func93 rfl):=Tb.fu Tryz.func93 rfl
@[simp] theorem func94 : type_of% (Tb.fu Tryz.func94 rfl):=Tb.fu Tryz.func94 rfl
@[simp] theorem func95 : type_of% (Tb.fu Tryz.func95 rfl):=Tb.fu Tryz.func95 rfl
@[simp] theorem func96 : type_of% (Tb.fu Tryz.func96 rfl):=Tb.fu Tryz.func96 rfl
@[simp] theorem func97 : type_of% (Tb.fu Tryz.func97 rfl):=Tb.fu Tryz.func97 rfl
@[simp] theorem func98 : type_of% (Tb.fu Tryz.func98 rfl):=Tb.fu Tryz.func98 rfl
@[simp] theorem func99 : type_of% (Tb.fu Tryz.func99 rfl):=Tb.fu Tryz.func99 rfl
@[simp] theorem isAgg0 : type_of% (Tb.ag Tryz.isAgg0):=Tb.ag Tryz.isAgg0
@[simp] theorem isAgg110 : type_of% (Tb.ag Tryz.isAgg110):=Tb.ag Tryz.isAgg110
@[simp] theorem isAgg116 : type_of% (Tb.ag Tryz.isAgg116):=Tb.ag Tryz.isAgg116
@[simp] theorem isAgg119 : type_of% (Tb.ag Tryz.isAgg119):=Tb.ag Tryz.isAgg119
@[simp] theorem isAgg121 : type_of% (Tb.ag Tryz.isAgg121):=Tb.ag Tryz.isAgg121
@[simp] theorem isAgg122 : type_of% (Tb.ag Tryz.isAgg122):=Tb.ag Tryz.isAgg122
@[simp] theorem isAgg124 : type_of% (Tb.ag Tryz.isAgg124):=Tb.ag Tryz.isAgg124
@[simp] theorem isAgg144 : type_of% (Tb.ag Tryz.isAgg144):=Tb.ag Tryz.isAgg144
@[simp] theorem isAgg149 : type_of% (Tb.ag Tryz.isAgg149):=Tb.ag Tryz.isAgg149
@[simp] theorem isAgg150 : type_of% (Tb.ag Tryz.isAgg150):=Tb.ag Tryz.isAgg150
@[simp] theorem isAgg152 : type_of% (Tb.ag Tryz.isAgg152):=Tb.ag Tryz.isAgg152
@[simp] theorem isAgg153 : type_of% (Tb.ag Tryz.isAgg153):=Tb.ag Tryz.isAgg153
@[simp] theorem isAgg157 : type_of% (Tb.ag Tryz.isAgg157):=Tb.ag Tryz.isAgg157
@[simp] theorem isAgg176 : type_of% (Tb.ag Tryz.isAgg176):=Tb.ag Tryz.isAgg176
@[simp] theorem isAgg177 : type_of% (Tb.ag Tryz.isAgg177):=Tb.ag Tryz.isAgg177
@[simp] theorem isAgg184 : type_of% (Tb.ag Tryz.isAgg184):=Tb.ag Tryz.isAgg184
@[simp] theorem isAgg186 : type_of% (Tb.ag Tryz.isAgg186):=Tb.ag Tryz.isAgg186
@[simp] theorem isAgg197 : type_of% (Tb.ag Tryz.isAgg197):=Tb.ag Tryz.isAgg197
@[simp] theorem isAgg2 : type_of% (Tb.ag Tryz.isAgg2):=Tb.ag Tryz.isAgg2
@[simp] theorem isAgg20 : type_of% (Tb.ag Tryz.isAgg20):=Tb.ag Tryz.isAgg20
@[simp] theorem isAgg200 : type_of% (Tb.ag Tryz.isAgg200):=Tb.ag Tryz.isAgg200
@[simp] theorem isAgg203 : type_of% (Tb.ag Tryz.isAgg203):=Tb.ag Tryz.isAgg203
@[simp] theorem isAgg204 : type_of% (Tb.ag Tryz.isAgg204):=Tb.ag Tryz.isAgg204
@[simp] theorem isAgg21 : type_of% (Tb.ag Tryz.isAgg21):=Tb.ag Tryz.isAgg21
@[simp] theorem isAgg22 : type_of% (Tb.ag Tryz.isAgg22):=Tb.ag Tryz.isAgg22
@[simp] theorem isAgg23 : type_of% (Tb.ag Tryz.isAgg23):=Tb.ag Tryz.isAgg23
@[simp] theorem isAgg24 : type_of% (Tb.ag Tryz.isAgg24):=Tb.ag Tryz.isAgg24
@[simp] theorem isAgg26 : type_of% (Tb.ag Tryz.isAgg26):=Tb.ag Tryz.isAgg26
@[simp] theorem isAgg29 : type_of% (Tb.ag Tryz.isAgg29):=Tb.ag Tryz.isAgg29
@[simp] theorem isAgg3 : type_of% (Tb.ag Tryz.isAgg3):=Tb.ag Tryz.isAgg3
@[simp] theorem isAgg31 : type_of% (Tb.ag Tryz.isAgg31):=Tb.ag Tryz.isAgg31
@[simp] theorem isAgg32 : type_of% (Tb.ag Tryz.isAgg32):=Tb.ag Tryz.isAgg32
@[simp] theorem isAgg4 : type_of% (Tb.ag Tryz.isAgg4):=Tb.ag Tryz.isAgg4
@[simp] theorem isAgg5 : type_of% (Tb.ag Tryz.isAgg5):=Tb.ag Tryz.isAgg5
@[simp] theorem isAgg56 : type_of% (Tb.ag Tryz.isAgg56):=Tb.ag Tryz.isAgg56
@[simp] theorem isAgg69 : type_of% (Tb.ag Tryz.isAgg69):=Tb.ag Tryz.isAgg69
@[simp] theorem isAgg71 : type_of% (Tb.ag Tryz.isAgg71):=Tb.ag Tryz.isAgg71
@[simp] theorem isAgg73 : type_of% (Tb.ag Tryz.isAgg73):=Tb.ag Tryz.isAgg73
@[simp] theorem isAgg75 : type_of% (Tb.ag Tryz.isAgg75):=Tb.ag Tryz.isAgg75
@[simp] theorem isAgg85 : type_of% (Tb.ag Tryz.isAgg85):=Tb.ag Tryz.isAgg85
@[simp] theorem isAgg9 : type_of% (Tb.ag Tryz.isAgg9):=Tb.ag Tryz.isAgg9
@[simp] theorem ntmps37 : eachS.ntmps=15:=by kernel_rfl
@[simp] theorem ntmps38 : countS.ntmps=Tryz.f38.ntmps:=by kernel_rfl
@[simp] theorem ntmps41 : loadS.ntmps=12:=by kernel_rfl
@[simp] theorem ntmps42 : scoresS.ntmps=Tryz.f42.ntmps:=by kernel_rfl
theorem ntmps47 : type_of% Tryz.ntmps47:=Tryz.ntmps47
@[simp] theorem results37 : eachS.results=#[]:=by kernel_rfl
@[simp] theorem results38 : countS.results=#[.tmp 5,.tmp 23]:=by kernel_rfl
@[simp] theorem results41 : loadS.results=#[.tmp 2]:=by kernel_rfl
@[simp] theorem results42 : scoresS.results=#[.tmp 22,.tmp 21]:=by kernel_rfl
@[simp] theorem runUnderlying0 : type_of% (Tb.ru Tryz.runUnderlying0):=Tb.ru Tryz.runUnderlying0
@[simp] theorem runUnderlying110 : type_of% (Tb.ru Tryz.runUnderlying110):=Tb.ru Tryz.runUnderlying110
@[simp] theorem runUnderlying119 : type_of% (Tb.ru Tryz.runUnderlying119):=Tb.ru Tryz.runUnderlying119
@[simp] theorem runUnderlying121 : type_of% (Tb.ru Tryz.runUnderlying121):=Tb.ru Tryz.runUnderlying121
@[simp] theorem runUnderlying122 : type_of% (Tb.ru Tryz.runUnderlying122):=Tb.ru Tryz.runUnderlying122
@[simp] theorem runUnderlying124 : type_of% (Tb.ru Tryz.runUnderlying124):=Tb.ru Tryz.runUnderlying124
@[simp] theorem runUnderlying149 : type_of% (Tb.ru Tryz.runUnderlying149):=Tb.ru Tryz.runUnderlying149
@[simp] theorem runUnderlying150 : type_of% (Tb.ru Tryz.runUnderlying150):=Tb.ru Tryz.runUnderlying150
@[simp] theorem runUnderlying152 : type_of% (Tb.ru Tryz.runUnderlying152):=Tb.ru Tryz.runUnderlying152
@[simp] theorem runUnderlying153 : type_of% (Tb.ru Tryz.runUnderlying153):=Tb.ru Tryz.runUnderlying153
@[simp] theorem runUnderlying157 : type_of% (Tb.ru Tryz.runUnderlying157):=Tb.ru Tryz.runUnderlying157
@[simp] theorem runUnderlying184 : type_of% (Tb.ru Tryz.runUnderlying184):=Tb.ru Tryz.runUnderlying184
@[simp] theorem runUnderlying186 : type_of% (Tb.ru Tryz.runUnderlying186):=Tb.ru Tryz.runUnderlying186
@[simp] theorem runUnderlying191 : type_of% (Tb.ru Tryz.runUnderlying191):=Tb.ru Tryz.runUnderlying191
@[simp] theorem runUnderlying192 : type_of% (Tb.ru Tryz.runUnderlying192):=Tb.ru Tryz.runUnderlying192
@[simp] theorem runUnderlying193 : type_of% (Tb.ru Tryz.runUnderlying193):=Tb.ru Tryz.runUnderlying193
@[simp] theorem runUnderlying20 : type_of% (Tb.ru Tryz.runUnderlying20):=Tb.ru Tryz.runUnderlying20
@[simp] theorem runUnderlying21 : type_of% (Tb.ru Tryz.runUnderlying21):=Tb.ru Tryz.runUnderlying21
@[simp] theorem runUnderlying22 : type_of% (Tb.ru Tryz.runUnderlying22):=Tb.ru Tryz.runUnderlying22
@[simp] theorem runUnderlying23 : type_of% (Tb.ru Tryz.runUnderlying23):=Tb.ru Tryz.runUnderlying23
@[simp] theorem runUnderlying24 : type_of% (Tb.ru Tryz.runUnderlying24):=Tb.ru Tryz.runUnderlying24
@[simp] theorem runUnderlying26 : type_of% (Tb.ru Tryz.runUnderlying26):=Tb.ru Tryz.runUnderlying26
@[simp] theorem runUnderlying27 : type_of% (Tb.ru Tryz.runUnderlying27):=Tb.ru Tryz.runUnderlying27
@[simp] theorem runUnderlying29 : type_of% (Tb.ru Tryz.runUnderlying29):=Tb.ru Tryz.runUnderlying29
@[simp] theorem runUnderlying3 : type_of% (Tb.ru Tryz.runUnderlying3):=Tb.ru Tryz.runUnderlying3
@[simp] theorem runUnderlying31 : type_of% (Tb.ru Tryz.runUnderlying31):=Tb.ru Tryz.runUnderlying31
@[simp] theorem runUnderlying4 : type_of% (Tb.ru Tryz.runUnderlying4):=Tb.ru Tryz.runUnderlying4
@[simp] theorem runUnderlying50 : type_of% (Tb.ru Tryz.runUnderlying50):=Tb.ru Tryz.runUnderlying50
@[simp] theorem runUnderlying56 : type_of% (Tb.ru Tryz.runUnderlying56):=Tb.ru Tryz.runUnderlying56
@[simp] theorem runUnderlying69 : type_of% (Tb.ru Tryz.runUnderlying69):=Tb.ru Tryz.runUnderlying69
@[simp] theorem runUnderlying73 : type_of% (Tb.ru Tryz.runUnderlying73):=Tb.ru Tryz.runUnderlying73
@[simp] theorem runUnderlying75 : type_of% (Tb.ru Tryz.runUnderlying75):=Tb.ru Tryz.runUnderlying75
@[simp] theorem runUnderlying81 : type_of% (Tb.ru Tryz.runUnderlying81):=Tb.ru Tryz.runUnderlying81
@[simp] theorem runUnderlying85 : type_of% (Tb.ru Tryz.runUnderlying85):=Tb.ru Tryz.runUnderlying85
@[simp] theorem runUnderlying9 : type_of% (Tb.ru Tryz.runUnderlying9):=Tb.ru Tryz.runUnderlying9
@[simp] theorem runUnderlying92 : type_of% (Tb.ru Tryz.runUnderlying92):=Tb.ru Tryz.runUnderlying92
@[simp] theorem runUnderlying99 : type_of% (Tb.ru Tryz.runUnderlying99):=Tb.ru Tryz.runUnderlying99
@[simp] theorem sizeOf0 : type_of% (Tb.sz Tryz.sizeOf0):=Tb.sz Tryz.sizeOf0
@[simp] theorem sizeOf110 : type_of% (Tb.sz Tryz.sizeOf110):=Tb.sz Tryz.sizeOf110
@[simp] theorem sizeOf116 : type_of% (Tb.sz Tryz.sizeOf116):=Tb.sz Tryz.sizeOf116
@[simp] theorem sizeOf119 : type_of% (Tb.sz Tryz.sizeOf119):=Tb.sz Tryz.sizeOf119
@[simp] theorem sizeOf121 : type_of% (Tb.sz Tryz.sizeOf121):=Tb.sz Tryz.sizeOf121
@[simp] theorem sizeOf122 : type_of% (Tb.sz Tryz.sizeOf122):=Tb.sz Tryz.sizeOf122
@[simp] theorem sizeOf124 : type_of% (Tb.sz Tryz.sizeOf124):=Tb.sz Tryz.sizeOf124
@[simp] theorem sizeOf144 : type_of% (Tb.sz Tryz.sizeOf144):=Tb.sz Tryz.sizeOf144
@[simp] theorem sizeOf149 : type_of% (Tb.sz Tryz.sizeOf149):=Tb.sz Tryz.sizeOf149
@[simp] theorem sizeOf150 : type_of% (Tb.sz Tryz.sizeOf150):=Tb.sz Tryz.sizeOf150
@[simp] theorem sizeOf152 : type_of% (Tb.sz Tryz.sizeOf152):=Tb.sz Tryz.sizeOf152
@[simp] theorem sizeOf153 : type_of% (Tb.sz Tryz.sizeOf153):=Tb.sz Tryz.sizeOf153
@[simp] theorem sizeOf157 : type_of% (Tb.sz Tryz.sizeOf157):=Tb.sz Tryz.sizeOf157
@[simp] theorem sizeOf176 : type_of% (Tb.sz Tryz.sizeOf176):=Tb.sz Tryz.sizeOf176
@[simp] theorem sizeOf177 : type_of% (Tb.sz Tryz.sizeOf177):=Tb.sz Tryz.sizeOf177
@[simp] theorem sizeOf184 : type_of% (Tb.sz Tryz.sizeOf184):=Tb.sz Tryz.sizeOf184
@[simp] theorem sizeOf186 : type_of% (Tb.sz Tryz.sizeOf186):=Tb.sz Tryz.sizeOf186
@[simp] theorem sizeOf191 : type_of% (Tb.sz Tryz.sizeOf191):=Tb.sz Tryz.sizeOf191
@[simp] theorem sizeOf197 : type_of% (Tb.sz Tryz.sizeOf197):=Tb.sz Tryz.sizeOf197
@[simp] theorem sizeOf2 : type_of% (Tb.sz Tryz.sizeOf2):=Tb.sz Tryz.sizeOf2
@[simp] theorem sizeOf20 : type_of% (Tb.sz Tryz.sizeOf20):=Tb.sz Tryz.sizeOf20
@[simp] theorem sizeOf200 : type_of% (Tb.sz Tryz.sizeOf200):=Tb.sz Tryz.sizeOf200
@[simp] theorem sizeOf203 : type_of% (Tb.sz Tryz.sizeOf203):=Tb.sz Tryz.sizeOf203
@[simp] theorem sizeOf204 : type_of% (Tb.sz Tryz.sizeOf204):=Tb.sz Tryz.sizeOf204
@[simp] theorem sizeOf21 : type_of% (Tb.sz Tryz.sizeOf21):=Tb.sz Tryz.sizeOf21
@[simp] theorem sizeOf22 : type_of% (Tb.sz Tryz.sizeOf22):=Tb.sz Tryz.sizeOf22
@[simp] theorem sizeOf23 : type_of% (Tb.sz Tryz.sizeOf23):=Tb.sz Tryz.sizeOf23
@[simp] theorem sizeOf24 : type_of% (Tb.sz Tryz.sizeOf24):=Tb.sz Tryz.sizeOf24
@[simp] theorem sizeOf26 : type_of% (Tb.sz Tryz.sizeOf26):=Tb.sz Tryz.sizeOf26
@[simp] theorem sizeOf27 : type_of% (Tb.sz Tryz.sizeOf27):=Tb.sz Tryz.sizeOf27
@[simp] theorem sizeOf29 : type_of% (Tb.sz Tryz.sizeOf29):=Tb.sz Tryz.sizeOf29
@[simp] theorem sizeOf3 : type_of% (Tb.sz Tryz.sizeOf3):=Tb.sz Tryz.sizeOf3
@[simp] theorem sizeOf31 : type_of% (Tb.sz Tryz.sizeOf31):=Tb.sz Tryz.sizeOf31
@[simp] theorem sizeOf32 : type_of% (Tb.sz Tryz.sizeOf32):=Tb.sz Tryz.sizeOf32
@[simp] theorem sizeOf4 : type_of% (Tb.sz Tryz.sizeOf4):=Tb.sz Tryz.sizeOf4
@[simp] theorem sizeOf5 : type_of% (Tb.sz Tryz.sizeOf5):=Tb.sz Tryz.sizeOf5
@[simp] theorem sizeOf56 : type_of% (Tb.sz Tryz.sizeOf56):=Tb.sz Tryz.sizeOf56
@[simp] theorem sizeOf69 : type_of% (Tb.sz Tryz.sizeOf69):=Tb.sz Tryz.sizeOf69
@[simp] theorem sizeOf71 : type_of% (Tb.sz Tryz.sizeOf71):=Tb.sz Tryz.sizeOf71
@[simp] theorem sizeOf73 : type_of% (Tb.sz Tryz.sizeOf73):=Tb.sz Tryz.sizeOf73
@[simp] theorem sizeOf75 : type_of% (Tb.sz Tryz.sizeOf75):=Tb.sz Tryz.sizeOf75
@[simp] theorem sizeOf85 : type_of% (Tb.sz Tryz.sizeOf85):=Tb.sz Tryz.sizeOf85
@[simp] theorem sizeOf9 : type_of% (Tb.sz Tryz.sizeOf9):=Tb.sz Tryz.sizeOf9
@[simp] theorem stoodInHeld31 : Crz.prog.stoodInHeld 31=false:=by kernel_rfl
@[simp] theorem underlying0 : type_of% (Tb.un Tryz.underlying0):=Tb.un Tryz.underlying0
@[simp] theorem underlying110 : type_of% (Tb.un Tryz.underlying110):=Tb.un Tryz.underlying110
@[simp] theorem underlying116 : type_of% (Tb.un Tryz.underlying116):=Tb.un Tryz.underlying116
@[simp] theorem underlying119 : type_of% (Tb.un Tryz.underlying119):=Tb.un Tryz.underlying119
@[simp] theorem underlying121 : type_of% (Tb.un Tryz.underlying121):=Tb.un Tryz.underlying121
@[simp] theorem underlying122 : type_of% (Tb.un Tryz.underlying122):=Tb.un Tryz.underlying122
@[simp] theorem underlying124 : type_of% (Tb.un Tryz.underlying124):=Tb.un Tryz.underlying124
@[simp] theorem underlying144 : type_of% (Tb.un Tryz.underlying144):=Tb.un Tryz.underlying144
@[simp] theorem underlying149 : type_of% (Tb.un Tryz.underlying149):=Tb.un Tryz.underlying149
@[simp] theorem underlying150 : type_of% (Tb.un Tryz.underlying150):=Tb.un Tryz.underlying150
@[simp] theorem underlying152 : type_of% (Tb.un Tryz.underlying152):=Tb.un Tryz.underlying152
@[simp] theorem underlying153 : type_of% (Tb.un Tryz.underlying153):=Tb.un Tryz.underlying153
@[simp] theorem underlying157 : type_of% (Tb.un Tryz.underlying157):=Tb.un Tryz.underlying157
@[simp] theorem underlying176 : type_of% (Tb.un Tryz.underlying176):=Tb.un Tryz.underlying176
@[simp] theorem underlying177 : type_of% (Tb.un Tryz.underlying177):=Tb.un Tryz.underlying177
@[simp] theorem underlying184 : type_of% (Tb.un Tryz.underlying184):=Tb.un Tryz.underlying184
@[simp] theorem underlying186 : type_of% (Tb.un Tryz.underlying186):=Tb.un Tryz.underlying186
@[simp] theorem underlying191 : type_of% (Tb.un Tryz.underlying191):=Tb.un Tryz.underlying191
@[simp] theorem underlying193 : type_of% (Tb.un Tryz.underlying193):=Tb.un Tryz.underlying193
@[simp] theorem underlying197 : type_of% (Tb.un Tryz.underlying197):=Tb.un Tryz.underlying197
@[simp] theorem underlying20 : type_of% (Tb.un Tryz.underlying20):=Tb.un Tryz.underlying20
@[simp] theorem underlying200 : type_of% (Tb.un Tryz.underlying200):=Tb.un Tryz.underlying200
@[simp] theorem underlying203 : type_of% (Tb.un Tryz.underlying203):=Tb.un Tryz.underlying203
@[simp] theorem underlying204 : type_of% (Tb.un Tryz.underlying204):=Tb.un Tryz.underlying204
@[simp] theorem underlying21 : type_of% (Tb.un Tryz.underlying21):=Tb.un Tryz.underlying21
@[simp] theorem underlying22 : type_of% (Tb.un Tryz.underlying22):=Tb.un Tryz.underlying22
@[simp] theorem underlying23 : type_of% (Tb.un Tryz.underlying23):=Tb.un Tryz.underlying23
@[simp] theorem underlying24 : type_of% (Tb.un Tryz.underlying24):=Tb.un Tryz.underlying24
@[simp] theorem underlying26 : type_of% (Tb.un Tryz.underlying26):=Tb.un Tryz.underlying26
@[simp] theorem underlying27 : type_of% (Tb.un Tryz.underlying27):=Tb.un Tryz.underlying27
@[simp] theorem underlying29 : type_of% (Tb.un Tryz.underlying29):=Tb.un Tryz.underlying29
@[simp] theorem underlying3 : type_of% (Tb.un Tryz.underlying3):=Tb.un Tryz.underlying3
@[simp] theorem underlying31 : type_of% (Tb.un Tryz.underlying31):=Tb.un Tryz.underlying31
@[simp] theorem underlying4 : type_of% (Tb.un Tryz.underlying4):=Tb.un Tryz.underlying4
@[simp] theorem underlying5 : type_of% (Tb.un Tryz.underlying5):=Tb.un Tryz.underlying5
@[simp] theorem underlying50 : type_of% (Tb.un Tryz.underlying50):=Tb.un Tryz.underlying50
@[simp] theorem underlying69 : type_of% (Tb.un Tryz.underlying69):=Tb.un Tryz.underlying69
@[simp] theorem underlying71 : type_of% (Tb.un Tryz.underlying71):=Tb.un Tryz.underlying71
@[simp] theorem underlying73 : type_of% (Tb.un Tryz.underlying73):=Tb.un Tryz.underlying73
@[simp] theorem underlying75 : type_of% (Tb.un Tryz.underlying75):=Tb.un Tryz.underlying75
@[simp] theorem underlying85 : type_of% (Tb.un Tryz.underlying85):=Tb.un Tryz.underlying85
@[simp] theorem underlying9 : type_of% (Tb.un Tryz.underlying9):=Tb.un Tryz.underlying9
@[simp] theorem underlying92 : type_of% (Tb.un Tryz.underlying92):=Tb.un Tryz.underlying92
@[simp] theorem zeroValue0 : type_of% (Tb.ze Tryz.zeroValue0):=Tb.ze Tryz.zeroValue0
@[simp] theorem zeroValue110 : type_of% (Tb.ze Tryz.zeroValue110):=Tb.ze Tryz.zeroValue110
@[simp] theorem zeroValue116 : type_of% (Tb.ze Tryz.zeroValue116):=Tb.ze Tryz.zeroValue116
@[simp] theorem zeroValue119 : type_of% (Tb.ze Tryz.zeroValue119):=Tb.ze Tryz.zeroValue119
@[simp] theorem zeroValue121 : type_of% (Tb.ze Tryz.zeroValue121):=Tb.ze Tryz.zeroValue121
@[simp] theorem zeroValue122 : type_of% (Tb.ze Tryz.zeroValue122):=Tb.ze Tryz.zeroValue122
@[simp] theorem zeroValue124 : type_of% (Tb.ze Tryz.zeroValue124):=Tb.ze Tryz.zeroValue124
@[simp] theorem zeroValue144 : type_of% (Tb.ze Tryz.zeroValue144):=Tb.ze Tryz.zeroValue144
@[simp] theorem zeroValue149 : type_of% (Tb.ze Tryz.zeroValue149):=Tb.ze Tryz.zeroValue149
@[simp] theorem zeroValue150 : type_of% (Tb.ze Tryz.zeroValue150):=Tb.ze Tryz.zeroValue150
@[simp] theorem zeroValue152 : type_of% (Tb.ze Tryz.zeroValue152):=Tb.ze Tryz.zeroValue152
@[simp] theorem zeroValue153 : type_of% (Tb.ze Tryz.zeroValue153):=Tb.ze Tryz.zeroValue153
@[simp] theorem zeroValue157 : type_of% (Tb.ze Tryz.zeroValue157):=Tb.ze Tryz.zeroValue157
@[simp] theorem zeroValue176 : type_of% (Tb.ze Tryz.zeroValue176):=Tb.ze Tryz.zeroValue176
@[simp] theorem zeroValue177 : type_of% (Tb.ze Tryz.zeroValue177):=Tb.ze Tryz.zeroValue177
@[simp] theorem zeroValue184 : type_of% (Tb.ze Tryz.zeroValue184):=Tb.ze Tryz.zeroValue184
@[simp] theorem zeroValue186 : type_of% (Tb.ze Tryz.zeroValue186):=Tb.ze Tryz.zeroValue186
@[simp] theorem zeroValue191 : type_of% (Tb.ze Tryz.zeroValue191):=Tb.ze Tryz.zeroValue191
@[simp] theorem zeroValue192 : type_of% (Tb.ze Tryz.zeroValue192):=Tb.ze Tryz.zeroValue192
@[simp] theorem zeroValue197 : type_of% (Tb.ze Tryz.zeroValue197):=Tb.ze Tryz.zeroValue197
@[simp] theorem zeroValue20 : type_of% (Tb.ze Tryz.zeroValue20):=Tb.ze Tryz.zeroValue20
@[simp] theorem zeroValue200 : type_of% (Tb.ze Tryz.zeroValue200):=Tb.ze Tryz.zeroValue200
@[simp] theorem zeroValue203 : type_of% (Tb.ze Tryz.zeroValue203):=Tb.ze Tryz.zeroValue203
@[simp] theorem zeroValue204 : type_of% (Tb.ze Tryz.zeroValue204):=Tb.ze Tryz.zeroValue204
@[simp] theorem zeroValue21 : type_of% (Tb.ze Tryz.zeroValue21):=Tb.ze Tryz.zeroValue21
@[simp] theorem zeroValue23 : type_of% (Tb.ze Tryz.zeroValue23):=Tb.ze Tryz.zeroValue23
@[simp] theorem zeroValue26 : type_of% (Tb.ze Tryz.zeroValue26):=Tb.ze Tryz.zeroValue26
@[simp] theorem zeroValue27 : type_of% (Tb.ze Tryz.zeroValue27):=Tb.ze Tryz.zeroValue27
@[simp] theorem zeroValue29 : type_of% (Tb.ze Tryz.zeroValue29):=Tb.ze Tryz.zeroValue29
@[simp] theorem zeroValue3 : type_of% (Tb.ze Tryz.zeroValue3):=Tb.ze Tryz.zeroValue3
@[simp] theorem zeroValue31 : type_of% (Tb.ze Tryz.zeroValue31):=Tb.ze Tryz.zeroValue31
@[simp] theorem zeroValue32 : type_of% (Tb.ze Tryz.zeroValue32):=Tb.ze Tryz.zeroValue32
@[simp] theorem zeroValue4 : type_of% (Tb.ze Tryz.zeroValue4):=Tb.ze Tryz.zeroValue4
@[simp] theorem zeroValue5 : type_of% (Tb.ze Tryz.zeroValue5):=Tb.ze Tryz.zeroValue5
@[simp] theorem zeroValue56 : type_of% (Tb.ze Tryz.zeroValue56):=Tb.ze Tryz.zeroValue56
@[simp] theorem zeroValue69 : type_of% (Tb.ze Tryz.zeroValue69):=Tb.ze Tryz.zeroValue69
@[simp] theorem zeroValue73 : type_of% (Tb.ze Tryz.zeroValue73):=Tb.ze Tryz.zeroValue73
@[simp] theorem zeroValue75 : type_of% (Tb.ze Tryz.zeroValue75):=Tb.ze Tryz.zeroValue75
@[simp] theorem zeroValue81 : type_of% (Tb.ze Tryz.zeroValue81):=Tb.ze Tryz.zeroValue81
@[simp] theorem zeroValue9 : type_of% (Tb.ze Tryz.zeroValue9):=Tb.ze Tryz.zeroValue9
@[simp] theorem zeroValue99 : type_of% (Tb.ze Tryz.zeroValue99):=Tb.ze Tryz.zeroValue99
@[simp] theorem rt_eq : Crz.prog.rt=Tryz.prog.rt:=by rw [Tb.tabs]
@[simp] theorem inits_eq : Crz.prog.inits=Tryz.prog.inits:=by rw [Tb.tabs]
@[simp] theorem globals_size : Crz.prog.globals.size=Tryz.prog.globals.size:=by rw [Tb.tabs]
end Crz
end Go.Proofs
