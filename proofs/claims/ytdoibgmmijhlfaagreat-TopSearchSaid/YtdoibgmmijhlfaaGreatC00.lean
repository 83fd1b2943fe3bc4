/- CrD CrT CrF Mem Mem2 Model MovesP Blks RulesW1 RulesW4 -/
import Derived.Test.YtdoibgmmijhlfaaGreatProg
import Derived.KernelRfl
import Derived.ProofKit
import Derived.WalkKit
import Derived.Below
import Derived.Deep.Draws
import Derived.Laws.MakeOwn
import Derived.Laws.OwnMore
import Derived.OwnWalk
import Derived.WalkSpells
import Derived.Test.YtdoibgmmijhlfaaGreatRows
import Derived.OpenShut
import Derived.Outline
import Derived.Deep.QuietTactic
import Derived.BigQuiet
namespace Go.Proofs.YtdoibgmmijhlfaaGreat.Sm
open Go
set_option linter.unusedVariables false
noncomputable def setOp(i:Nat)(g:Oper→Oper):Code→Code
 | .region id ops d=>.region id (ops.modify i g) d
 | c=>c
noncomputable def onFst(g:Code→Code):Code→Code
 | .seq a b=>.seq (g a) b
 | c=>c
noncomputable def onSnd(g:Code→Code):Code→Code
 | .seq a b=>.seq a (g b)
 | c=>c
noncomputable def mute(o:Oper):Oper:={ o with op:=.move (.const (.bool true)) }
noncomputable def scoresS:Func:={ Tryz.f42 with body:=Tryz.f42.body.map (setOp 16 mute),results:=#[.tmp 22,.tmp 21] }
noncomputable def countS:Func:={ Tryz.f38 with body:=Tryz.f38.body.map (onSnd (setOp 1 mute)),results:=#[.tmp 5,.tmp 23] }
noncomputable def op1 (d : Option Tmp) (t : TypeId) (o : Op) : Oper := { dst := d, op := o, type := t, pos := "", after := #[], guard := none }
noncomputable def loadS:Func:={ Tryz.f41 with ntmps:=12,body:=some (
 .seq (.region 0 #[op1 (some 3) 4 (.assign (.const (.bool true))),op1 (some 3) 4 (.assign (.const (.bool false)))] true) (
 .seq (.cond (.tmp 3)
  (.region 1 #[op1 (some 4) 85 (.makeFunc (.func 41) #[] #[.tmp 0]),op1 (some 5) 85 (.makeInterface 85 (.tmp 4)),op1 none 3 (.panic (.tmp 5))] false)
  .skip) (
 .seq (.region 2 #[op1 (some 6) 126 (.move (.tmp 0)),op1 (some 7) 126 (.nilCheck (.tmp 6)),op1 (some 8) 128 (.fieldAddr 81 (.tmp 7) 2),op1 (some 9) 2 (.load 2 (.tmp 8)),op1 (some 2) 2 (.assign (.tmp 9))] false) .ret))) }
noncomputable def eachS:Func:={ Tryz.f37 with body:=some (
 .seq (.region 0 #[op1 (some 3) 4 (.assign (.const (.bool true))),op1 (some 3) 4 (.assign (.const (.bool false)))] true) (
 .seq (.cond (.tmp 3)
  (.region 1 #[op1 (some 4) 85 (.makeFunc (.func 37) #[] #[.tmp 0,.tmp 1,.tmp 2]),op1 (some 5) 85 (.makeInterface 85 (.tmp 4)),op1 none 3 (.panic (.tmp 5))] false)
  .skip) (
 .seq (.region 2 #[op1 (some 6) 3 (.assign (.const (.int .i64 0)))] false) (
 .block 0 (.loop (
  .seq (.region 3 #[op1 (some 7) 4 (.binOp .lss 3 (.tmp 6) (.tmp 0) 3)] false) (
  .seq (.cond (.tmp 7) .skip (.exit 0)) (
  .seq (.region 4 #[op1 (some 8) 3 (.call { callee:=.value (.tmp 2),args:=#[.tmp 6],argTypes:=#[3] })] false) (
  .region 5 #[op1 (some 9) 200 (.extract (.tmp 8) 0),op1 (some 10) 3 (.extract (.tmp 8) 1),op1 (some 11) 3 (.load 3 (.tmp 9)),op1 (some 12) 3 (.binOp .add 3 (.tmp 11) (.tmp 10) 3),
   op1 none 3 (.store 3 (.tmp 9) (.tmp 12)),op1 (some 13) 3 (.binOp .add 3 (.tmp 6) (.const (.int .i64 1)) 3),op1 (some 6) 3 (.assign (.tmp 13))] false))))))))) }
noncomputable def other(f:FuncId):Bool:=f == 37 || f == 42 || f == 38 || f == 41
end Go.Proofs.YtdoibgmmijhlfaaGreat.Sm
noncomputable def Go.Proofs.Crz.prog:Go.Program:=open Go.Proofs Go.Proofs.YtdoibgmmijhlfaaGreat.Sm in { toTables:=Tryz.prog.toTables,funcs:=(((Tryz.prog.funcs.setIfInBounds 37 eachS).setIfInBounds 42 scoresS).setIfInBounds 38 countS).setIfInBounds 41 loadS }

namespace Go.Proofs.YtdoibgmmijhlfaaGreat.Sm
open Go
set_option linter.unusedVariables false
namespace Tb
theorem gti{p p':Program}(e:p'.toTables=p.toTables)(t:TypeId)(w:World):Sem.run p' (typeInfo t) w=Sem.run p (typeInfo t) w:=by
 have h:p'.info? t=p.info? t:=by cases p;cases p';simp only at e;subst e;rfl
 simp [typeInfo,h]
 cases p.info? t <;> rfl
theorem gru{p p':Program}(e:p'.toTables=p.toTables)(t:TypeId)(w:World):Sem.run p' (underlying t) w=Sem.run p (underlying t) w:=by
 have h:p'.underlying t=p.underlying t:=by cases p;cases p';simp only at e;subst e;rfl
 simp [underlying,h]
 cases p.underlying t <;> rfl
theorem gze{p p':Program}(e:p'.toTables=p.toTables)(t:TypeId)(w:World):Sem.run p' (zeroValue t) w=Sem.run p (zeroValue t) w:=by
 simp [zeroValue,gti e]
 cases Sem.run p (typeInfo t) w with
 | halt _ _=>simp
 | ok i u =>
  cases h:i.zero <;> simp [h]
theorem gsz{p p':Program}(e:p'.toTables=p.toTables)(t:TypeId)(w:World):Sem.run p' (sizeOf t) w=Sem.run p (sizeOf t) w:=by
 simp [sizeOf,gti e]
theorem gag{p p':Program}(e:p'.toTables=p.toTables)(t:TypeId)(w:World):Sem.run p' (isAgg t) w=Sem.run p (isAgg t) w:=by
 simp [isAgg,gru e]
 cases Sem.run p (underlying t) w with
 | halt _ _=>simp
 | ok i u=>cases i <;> simp
theorem geg{p p':Program}(e:p'.toTables=p.toTables)(t:TypeId):p'.eqGuardType p'.depth t=p.eqGuardType p.depth t:=by
 have hd:p'.depth=p.depth:=by cases p;cases p';simp only at e;subst e;rfl
 have hu:p'.underlying=p.underlying:=by cases p;cases p';simp only at e;subst e;rfl
 have h:∀ n t,p'.eqGuardType n t=p.eqGuardType n t:=by
  intro n
  induction n with
  | zero=>intro t;rfl
  | succ n ih=>intro t;simp only [Program.eqGuardType,hu,ih]
 rw [hd,h]
section
variable {t:TypeId}
theorem tabs:Crz.prog.toTables=Tryz.prog.toTables:=by kernel_rfl
theorem un{v:TypeDesc}(h:Tryz.prog.underlying t=some v):Crz.prog.underlying t=some v:=by
 have:∀ {p p':Program},p'.toTables=p.toTables→p.underlying t=some v→p'.underlying t=some v:=fun {p p'} e h=>by cases p;cases p';simp only at e;subst e;exact h
 exact this tabs h
theorem sz{v:Nat}(h:∀ w,Sem.run Tryz.prog (sizeOf t) w=.ok v w):∀ w,Sem.run Crz.prog (sizeOf t) w=.ok v w:=fun w=>(gsz tabs t w).trans (h w)
theorem ru{v:TypeDesc}(h:∀ w,Sem.run Tryz.prog (underlying t) w=.ok v w):∀ w,Sem.run Crz.prog (underlying t) w=.ok v w:=fun w=>(gru tabs t w).trans (h w)
theorem ag{v:Bool}(h:∀ w,Sem.run Tryz.prog (isAgg t) w=.ok v w):∀ w,Sem.run Crz.prog (isAgg t) w=.ok v w:=fun w=>(gag tabs t w).trans (h w)
theorem ze{v:Value}(h:∀ w,Sem.run Tryz.prog (zeroValue t) w=.ok v w):∀ w,Sem.run Crz.prog (zeroValue t) w=.ok v w:=fun w=>(gze tabs t w).trans (h w)
theorem eg{v:Bool}(h:Tryz.prog.eqGuardType Tryz.prog.depth t=v):Crz.prog.eqGuardType Crz.prog.depth t=v:=(geg tabs t).trans h
end
theorem set_ne{a:Array Func}{i j:Nat}{x:Func}(h:j≠i):(a.setIfInBounds i x)[j]? = a[j]?:=Array.getElem?_setIfInBounds_ne (Ne.symm h)
theorem funcs_eq:Crz.prog.funcs=(((Tryz.prog.funcs.setIfInBounds 37 eachS).setIfInBounds 42 scoresS).setIfInBounds 38 countS).setIfInBounds 41 loadS:=by kernel_rfl
theorem fu{f:Nat}{fn:Func}(h:Tryz.prog.funcs[f]? = some fn)(k:other f=false):Crz.prog.funcs[f]? = some fn:=by
 simp only [other,Bool.or_eq_false_iff,beq_eq_false_iff_ne] at k
 rw [funcs_eq]
 exact(set_ne k.2).trans ((set_ne k.1.2).trans ((set_ne k.1.1.2).trans ((set_ne k.1.1.1).trans h)))
end Tb
end Go.Proofs.YtdoibgmmijhlfaaGreat.Sm
namespace Go.Proofs
open Go Go.Proofs.YtdoibgmmijhlfaaGreat.Sm
set_option linter.unusedVariables false
namespace Crz
@[simp] theorem call115(args:Array Value)(w:World):Sem.run Crz.prog (callFunc 115 args) w=.ok (.enter 115 args) w:=by kernel_rfl
@[simp] theorem call116(args:Array Value)(w:World):Sem.run Crz.prog (callFunc 116 args) w=.ok (.enter 116 args) w:=by kernel_rfl
@[simp] theorem call118(args:Array Value)(w:World):Sem.run Crz.prog (callFunc 118 args) w=.ok (.enter 118 args) w:=by kernel_rfl
@[simp] theorem call120(args:Array Value)(w:World):Sem.run Crz.prog (callFunc 120 args) w=.ok (.enter 120 args) w:=by kernel_rfl
@[simp] theorem call121(args:Array Value)(w:World):Sem.run Crz.prog (callFunc 121 args) w=.ok (.enter 121 args) w:=by kernel_rfl
@[simp] theorem call122(args:Array Value)(w:World):Sem.run Crz.prog (callFunc 122 args) w=.ok (.enter 122 args) w:=by kernel_rfl
@[simp] theorem call123(args:Array Value)(w:World):Sem.run Crz.prog (callFunc 123 args) w=.ok (.enter 123 args) w:=by kernel_rfl
@[simp] theorem call13(args:Array Value)(w:World):Sem.run Crz.prog (callFunc 13 args) w=.ok (.enter 13 args) w:=by kernel_rfl
@[simp] theorem call139(args:Array Value)(w:World):Sem.run Crz.prog (callFunc 139 args) w=.ok (.enter 139 args) w:=by kernel_rfl
@[simp] theorem call140(args:Array Value)(w:World):Sem.run Crz.prog (callFunc 140 args) w=.ok (.enter 140 args) w:=by kernel_rfl
@[simp] theorem call141(args:Array Value)(w:World):Sem.run Crz.prog (callFunc 141 args) w=.ok (.enter 141 args) w:=by kernel_rfl
@[simp] theorem call142(args:Array Value)(w:World):Sem.run Crz.prog (callFunc 142 args) w=.ok (.enter 142 args) w:=by kernel_rfl
@[simp] theorem call148(args:Array Value)(w:World):Sem.run Crz.prog (callFunc 148 args) w=.ok (.enter 148 args) w:=by kernel_rfl
@[simp] theorem call15(args:Array Value)(w:World):Sem.run Crz.prog (callFunc 15 args) w=.ok (.enter 15 args) w:=by kernel_rfl
@[simp] theorem call16(args:Array Value)(w:World):Sem.run Crz.prog (callFunc 16 args) w=.ok (.enter 16 args) w:=by kernel_rfl
@[simp] theorem call18(args:Array Value)(w:World):Sem.run Crz.prog (callFunc 18 args) w=.ok (.enter 18 args) w:=by kernel_rfl
@[simp] theorem call20(args:Array Value)(w:World):Sem.run Crz.prog (callFunc 20 args) w=.ok (.enter 20 args) w:=by kernel_rfl
@[simp] theorem call21(args:Array Value)(w:World):Sem.run Crz.prog (callFunc 21 args) w=.ok (.enter 21 args) w:=by kernel_rfl
@[simp] theorem call22(args:Array Value)(w:World):Sem.run Crz.prog (callFunc 22 args) w=.ok (.enter 22 args) w:=by kernel_rfl
@[simp] theorem call26(args:Array Value)(w:World):Sem.run Crz.prog (callFunc 26 args) w=.ok (.enter 26 args) w:=by kernel_rfl
@[simp] theorem call27(args:Array Value)(w:World):Sem.run Crz.prog (callFunc 27 args) w=.ok (.enter 27 args) w:=by kernel_rfl
@[simp] theorem call28(args:Array Value)(w:World):Sem.run Crz.prog (callFunc 28 args) w=.ok (.enter 28 args) w:=by kernel_rfl
@[simp] theorem call29(args:Array Value)(w:World):Sem.run Crz.prog (callFunc 29 args) w=.ok (.enter 29 args) w:=by kernel_rfl
@[simp] theorem call30(args:Array Value)(w:World):Sem.run Crz.prog (callFunc 30 args) w=.ok (.enter 30 args) w:=by kernel_rfl
@[simp] theorem call31(args:Array Value)(w:World):Sem.run Crz.prog (callFunc 31 args) w=.ok (.enter 31 args) w:=by kernel_rfl
@[simp] theorem call32(args:Array Value)(w:World):Sem.run Crz.prog (callFunc 32 args) w=.ok (.enter 32 args) w:=by kernel_rfl
@[simp] theorem call33(args:Array Value)(w:World):Sem.run Crz.prog (callFunc 33 args) w=.ok (.enter 33 args) w:=by kernel_rfl
@[simp] theorem call34(args:Array Value)(w:World):Sem.run Crz.prog (callFunc 34 args) w=.ok (.enter 34 args) w:=by kernel_rfl
@[simp] theorem call35(args:Array Value)(w:World):Sem.run Crz.prog (callFunc 35 args) w=.ok (.enter 35 args) w:=by kernel_rfl
@[simp] theorem call36(args:Array Value)(w:World):Sem.run Crz.prog (callFunc 36 args) w=.ok (.enter 36 args) w:=by kernel_rfl
@[simp] theorem call37(args:Array Value)(w:World):Sem.run Crz.prog (callFunc 37 args) w=.ok (.enter 37 args) w:=by kernel_rfl
@[simp] theorem call38(args:Array Value)(w:World):Sem.run Crz.prog (callFunc 38 args) w=.ok (.enter 38 args) w:=by kernel_rfl
@[simp] theorem call39(args:Array Value)(w:World):Sem.run Crz.prog (callFunc 39 args) w=.ok (.enter 39 args) w:=by kernel_rfl
@[simp] theorem call42(args:Array Value)(w:World):Sem.run Crz.prog (callFunc 42 args) w=.ok (.enter 42 args) w:=by kernel_rfl
@[simp] theorem call43(args:Array Value)(w:World):Sem.run Crz.prog (callFunc 43 args) w=.ok (.enter 43 args) w:=by kernel_rfl
@[simp] theorem call44(args:Array Value)(w:World):Sem.run Crz.prog (callFunc 44 args) w=.ok (.enter 44 args) w:=by kernel_rfl
@[simp] theorem call45(args:Array Value)(w:World):Sem.run Crz.prog (callFunc 45 args) w=.ok (.enter 45 args) w:=by kernel_rfl
@[simp] theorem call46(args:Array Value)(w:World):Sem.run Crz.prog (callFunc 46 args) w=.ok (.enter 46 args) w:=by kernel_rfl
@[simp] theorem call47(args:Array Value)(w:World):Sem.run Crz.prog (callFunc 47 args) w=.ok (.enter 47 args) w:=by kernel_rfl
@[simp] theorem call49(args:Array Value)(w:World):Sem.run Crz.prog (callFunc 49 args) w=.ok (.enter 49 args) w:=by kernel_rfl
@[simp] theorem call50(args:Array Value)(w:World):Sem.run Crz.prog (callFunc 50 args) w=.ok (.enter 50 args) w:=by kernel_rfl
@[simp] theorem call51(args:Array Value)(w:World):Sem.run Crz.prog (callFunc 51 args) w=.ok (.enter 51 args) w:=by kernel_rfl
@[simp] theorem call52(args:Array Value)(w:World):Sem.run Crz.prog (callFunc 52 args) w=.ok (.enter 52 args) w:=by kernel_rfl
@[simp] theorem call54(args:Array Value)(w:World):Sem.run Crz.prog (callFunc 54 args) w=.ok (.enter 54 args) w:=by kernel_rfl
@[simp] theorem call55(args:Array Value)(w:World):Sem.run Crz.prog (callFunc 55 args) w=.ok (.enter 55 args) w:=by kernel_rfl
@[simp] theorem call56(args:Array Value)(w:World):Sem.run Crz.prog (callFunc 56 args) w=.ok (.enter 56 args) w:=by kernel_rfl
@[simp] theorem call57(args:Array Value)(w:World):Sem.run Crz.prog (callFunc 57 args) w=.ok (.enter 57 args) w:=by kernel_rfl
@[simp] theorem call58(args:Array Value)(w:World):Sem.run Crz.prog (callFunc 58 args) w=.ok (.enter 58 args) w:=by kernel_rfl
@[simp] theorem call59(args:Array Value)(w:World):Sem.run Crz.prog (callFunc 59 args) w=.ok (.enter 59 args) w:=by kernel_rfl
@[simp] theorem call6(args:Array Value)(w:World):Sem.run Crz.prog (callFunc 6 args) w=.ok (.enter 6 args) w:=by kernel_rfl
@[simp] theorem call60(args:Array Value)(w:World):Sem.run Crz.prog (callFunc 60 args) w=.ok (.enter 60 args) w:=by kernel_rfl
@[simp] theorem call61(args:Array Value)(w:World):Sem.run Crz.prog (callFunc 61 args) w=.ok (.enter 61 args) w:=by kernel_rfl
@[simp] theorem call63(args:Array Value)(w:World):Sem.run Crz.prog (callFunc 63 args) w=.ok (.enter 63 args) w:=by kernel_rfl
@[simp] theorem call64(args:Array Value)(w:World):Sem.run Crz.prog (callFunc 64 args) w=.ok (.enter 64 args) w:=by kernel_rfl
@[simp] theorem call65(args:Array Value)(w:World):Sem.run Crz.prog (callFunc 65 args) w=.ok (.enter 65 args) w:=by kernel_rfl
@[simp] theorem call70(args:Array Value)(w:World):Sem.run Crz.prog (callFunc 70 args) w=.ok (.enter 70 args) w:=by kernel_rfl
@[simp] theorem call73(args:Array Value)(w:World):Sem.run Crz.prog (callFunc 73 args) w=.ok (.enter 73 args) w:=by kernel_rfl
@[simp] theorem call74(args:Array Value)(w:World):Sem.run Crz.prog (callFunc 74 args) w=.ok (.enter 74 args) w:=by kernel_rfl
@[simp] theorem call76(args:Array Value)(w:World):Sem.run Crz.prog (callFunc 76 args) w=.ok (.enter 76 args) w:=by kernel_rfl
@[simp] theorem call77(args:Array Value)(w:World):Sem.run Crz.prog (callFunc 77 args) w=.ok (.enter 77 args) w:=by kernel_rfl
@[simp] theorem call78(args:Array Value)(w:World):Sem.run Crz.prog (callFunc 78 args) w=.ok (.enter 78 args) w:=by kernel_rfl
@[simp] theorem call79(args:Array Value)(w:World):Sem.run Crz.prog (callFunc 79 args) w=.ok (.enter 79 args) w:=by kernel_rfl
@[simp] theorem call82(args:Array Value)(w:World):Sem.run Crz.prog (callFunc 82 args) w=.ok (.enter 82 args) w:=by kernel_rfl
@[simp] theorem call83(args:Array Value)(w:World):Sem.run Crz.prog (callFunc 83 args) w=.ok (.enter 83 args) w:=by kernel_rfl
@[simp] theorem call84(args:Array Value)(w:World):Sem.run Crz.prog (callFunc 84 args) w=.ok (.enter 84 args) w:=by kernel_rfl
@[simp] theorem call85(args:Array Value)(w:World):Sem.run Crz.prog (callFunc 85 args) w=.ok (.enter 85 args) w:=by kernel_rfl
@[simp] theorem call87(args:Array Value)(w:World):Sem.run Crz.prog (callFunc 87 args) w=.ok (.enter 87 args) w:=by kernel_rfl
@[simp] theorem call88(args:Array Value)(w:World):Sem.run Crz.prog (callFunc 88 args) w=.ok (.enter 88 args) w:=by kernel_rfl
@[simp] theorem call89(args:Array Value)(w:World):Sem.run Crz.prog (callFunc 89 args) w=.ok (.enter 89 args) w:=by kernel_rfl
@[simp] theorem call90(args:Array Value)(w:World):Sem.run Crz.prog (callFunc 90 args) w=.ok (.enter 90 args) w:=by kernel_rfl
@[simp] theorem call91(args:Array Value)(w:World):Sem.run Crz.prog (callFunc 91 args) w=.ok (.enter 91 args) w:=by kernel_rfl
@[simp] theorem call92(args:Array Value)(w:World):Sem.run Crz.prog (callFunc 92 args) w=.ok (.enter 92 args) w:=by kernel_rfl
@[simp] theorem call93(args:Array Value)(w:World):Sem.run Crz.prog (callFunc 93 args) w=.ok (.enter 93 args) w:=by kernel_rfl
@[simp] theorem call96(args:Array Value)(w:World):Sem.run Crz.prog (callFunc 96 args) w=.ok (.enter 96 args) w:=by kernel_rfl
@[simp] theorem eqGuardType31:type_of% (Tb.eg Tryz.eqGuardType31):=Tb.eg Tryz.eqGuardType31
@[simp] theorem func100:type_of% (Tb.fu Tryz.func100 rfl):=Tb.fu Tryz.func100 rfl
@[simp] theorem func101:type_of% (Tb.fu Tryz.func101 rfl):=Tb.fu Tryz.func101 rfl
@[simp] theorem func102:type_of% (Tb.fu Tryz.func102 rfl):=Tb.fu Tryz.func102 rfl
@[simp] theorem func103:type_of% (Tb.fu Tryz.func103 rfl):=Tb.fu Tryz.func103 rfl
@[simp] theorem func104:type_of% (Tb.fu Tryz.func104 rfl):=Tb.fu Tryz.func104 rfl
@[simp] theorem func105:type_of% (Tb.fu Tryz.func105 rfl):=Tb.fu Tryz.func105 rfl
@[simp] theorem func106:type_of% (Tb.fu Tryz.func106 rfl):=Tb.fu Tryz.func106 rfl
@[simp] theorem func107:type_of% (Tb.fu Tryz.func107 rfl):=Tb.fu Tryz.func107 rfl
@[simp] theorem func108:type_of% (Tb.fu Tryz.func108 rfl):=Tb.fu Tryz.func108 rfl
@[simp] theorem func109:type_of% (Tb.fu Tryz.func109 rfl):=Tb.fu Tryz.func109 rfl
@[simp] theorem func110:type_of% (Tb.fu Tryz.func110 rfl):=Tb.fu Tryz.func110 rfl
@[simp] theorem func111:type_of% (Tb.fu Tryz.func111 rfl):=Tb.fu Tryz.func111 rfl
@[simp] theorem func112:type_of% (Tb.fu Tryz.func112 rfl):=Tb.fu Tryz.func112 rfl
@[simp] theorem func113:type_of% (Tb.fu Tryz.func113 rfl):=Tb.fu Tryz.func113 rfl
@[simp] theorem func114:type_of% (Tb.fu Tryz.func114 rfl):=Tb.fu Tryz.func114 rfl
@[simp] theorem func115:type_of% (Tb.fu Tryz.func115 rfl):=Tb.fu Tryz.func115 rfl
@[simp] theorem func116:type_of% (Tb.fu Tryz.func116 rfl):=Tb.fu Tryz.func116 rfl
@[simp] theorem func117:type_of% (Tb.fu Tryz.func117 rfl):=Tb.fu Tryz.func117 rfl
@[simp] theorem func118:type_of% (Tb.fu Tryz.func118 rfl):=Tb.fu Tryz.func118 rfl
@[simp] theorem func12:type_of% (Tb.fu Tryz.func12 rfl):=Tb.fu Tryz.func12 rfl
@[simp] theorem func120:type_of% (Tb.fu Tryz.func120 rfl):=Tb.fu Tryz.func120 rfl
@[simp] theorem func121:type_of% (Tb.fu Tryz.func121 rfl):=Tb.fu Tryz.func121 rfl
@[simp] theorem func122:type_of% (Tb.fu Tryz.func122 rfl):=Tb.fu Tryz.func122 rfl
@[simp] theorem func123:type_of% (Tb.fu Tryz.func123 rfl):=Tb.fu Tryz.func123 rfl
@[simp] theorem func124:type_of% (Tb.fu Tryz.func124 rfl):=Tb.fu Tryz.func124 rfl
@[simp] theorem func125:type_of% (Tb.fu Tryz.func125 rfl):=Tb.fu Tryz.func125 rfl
@[simp] theorem func126:type_of% (Tb.fu Tryz.func126 rfl):=Tb.fu Tryz.func126 rfl
@[simp] theorem func127:type_of% (Tb.fu Tryz.func127 rfl):=Tb.fu Tryz.func127 rfl
@[simp] theorem func128:type_of% (Tb.fu Tryz.func128 rfl):=Tb.fu Tryz.func128 rfl
@[simp] theorem func129:type_of% (Tb.fu Tryz.func129 rfl):=Tb.fu Tryz.func129 rfl
@[simp] theorem func13:type_of% (Tb.fu Tryz.func13 rfl):=Tb.fu Tryz.func13 rfl
@[simp] theorem func130:type_of% (Tb.fu Tryz.func130 rfl):=Tb.fu Tryz.func130 rfl
@[simp] theorem func131:type_of% (Tb.fu Tryz.func131 rfl):=Tb.fu Tryz.func131 rfl
@[simp] theorem func132:type_of% (Tb.fu Tryz.func132 rfl):=Tb.fu Tryz.func132 rfl
@[simp] theorem func133:type_of% (Tb.fu Tryz.func133 rfl):=Tb.fu Tryz.func133 rfl
@[simp] theorem func134:type_of% (Tb.fu Tryz.func134 rfl):=Tb.fu Tryz.func134 rfl
@[simp] theorem func135:type_of% (Tb.fu Tryz.func135 rfl):=Tb.fu Tryz.func135 rfl
@[simp] theorem func136:type_of% (Tb.fu Tryz.func136 rfl):=Tb.fu Tryz.func136 rfl
@[simp] theorem func137:type_of% (Tb.fu Tryz.func137 rfl):=Tb.fu Tryz.func137 rfl
@[simp] theorem func138:type_of% (Tb.fu Tryz.func138 rfl):=Tb.fu Tryz.func138 rfl
@[simp] theorem func139:type_of% (Tb.fu Tryz.func139 rfl):=Tb.fu Tryz.func139 rfl
@[simp] theorem func140:type_of% (Tb.fu Tryz.func140 rfl):=Tb.fu Tryz.func140 rfl
@[simp] theorem func141:type_of% (Tb.fu Tryz.func141 rfl):=Tb.fu Tryz.func141 rfl
@[simp] theorem func142:type_of% (Tb.fu Tryz.func142 rfl):=Tb.fu Tryz.func142 rfl
@[simp] theorem func143:type_of% (Tb.fu Tryz.func143 rfl):=Tb.fu Tryz.func143 rfl
@[simp] theorem func144:type_of% (Tb.fu Tryz.func144 rfl):=Tb.fu Tryz.func144 rfl
@[simp] theorem func145:type_of% (Tb.fu Tryz.func145 rfl):=Tb.fu Tryz.func145 rfl
@[simp] theorem func146:type_of% (Tb.fu Tryz.func146 rfl):=Tb.fu Tryz.func146 rfl
@[simp] theorem func147:type_of% (Tb.fu Tryz.func147 rfl):=Tb.fu Tryz.func147 rfl
@[simp] theorem func148:type_of% (Tb.fu Tryz.func148 rfl):=Tb.fu Tryz.func148 rfl
@[simp] theorem func149:type_of% (Tb.fu Tryz.func149 rfl):=Tb.fu Tryz.func149 rfl
@[simp] theorem func15:type_of% (Tb.fu Tryz.func15 rfl):=Tb.fu Tryz.func15 rfl
@[simp] theorem func16:type_of% (Tb.fu Tryz.func16 rfl):=Tb.fu Tryz.func16 rfl
@[simp] theorem func18:type_of% (Tb.fu Tryz.func18 rfl):=Tb.fu Tryz.func18 rfl
@[simp] theorem func20:type_of% (Tb.fu Tryz.func20 rfl):=Tb.fu Tryz.func20 rfl
@[simp] theorem func21:type_of% (Tb.fu Tryz.func21 rfl):=Tb.fu Tryz.func21 rfl
@[simp] theorem func22:type_of% (Tb.fu Tryz.func22 rfl):=Tb.fu Tryz.func22 rfl
@[simp] theorem func26:type_of% (Tb.fu Tryz.func26 rfl):=Tb.fu Tryz.func26 rfl
@[simp] theorem func27:type_of% (Tb.fu Tryz.func27 rfl):=Tb.fu Tryz.func27 rfl
@[simp] theorem func28:type_of% (Tb.fu Tryz.func28 rfl):=Tb.fu Tryz.func28 rfl
@[simp] theorem func29:type_of% (Tb.fu Tryz.func29 rfl):=Tb.fu Tryz.func29 rfl
@[simp] theorem func30:type_of% (Tb.fu Tryz.func30 rfl):=Tb.fu Tryz.func30 rfl
@[simp] theorem func31:type_of% (Tb.fu Tryz.func31 rfl):=Tb.fu Tryz.func31 rfl
@[simp] theorem func32:type_of% (Tb.fu Tryz.func32 rfl):=Tb.fu Tryz.func32 rfl
@[simp] theorem func33:type_of% (Tb.fu Tryz.func33 rfl):=Tb.fu Tryz.func33 rfl
@[simp] theorem func34:type_of% (Tb.fu Tryz.func34 rfl):=Tb.fu Tryz.func34 rfl
@[simp] theorem func35:type_of% (Tb.fu Tryz.func35 rfl):=Tb.fu Tryz.func35 rfl
@[simp] theorem func36:type_of% (Tb.fu Tryz.func36 rfl):=Tb.fu Tryz.func36 rfl
@[simp] theorem func37:Crz.prog.funcs[37]? = some eachS:=by kernel_rfl
@[simp] theorem func38:Crz.prog.funcs[38]? = some countS:=by kernel_rfl
@[simp] theorem func39:type_of% (Tb.fu Tryz.func39 rfl):=Tb.fu Tryz.func39 rfl
@[simp] theorem func40:type_of% (Tb.fu Tryz.func40 rfl):=Tb.fu Tryz.func40 rfl
@[simp] theorem func41:Crz.prog.funcs[41]? = some loadS:=by kernel_rfl
@[simp] theorem func42:Crz.prog.funcs[42]? = some scoresS:=by kernel_rfl
@[simp] theorem func43:type_of% (Tb.fu Tryz.func43 rfl):=Tb.fu Tryz.func43 rfl
@[simp] theorem func44:type_of% (Tb.fu Tryz.func44 rfl):=Tb.fu Tryz.func44 rfl
@[simp] theorem func45:type_of% (Tb.fu Tryz.func45 rfl):=Tb.fu Tryz.func45 rfl
@[simp] theorem func46:type_of% (Tb.fu Tryz.func46 rfl):=Tb.fu Tryz.func46 rfl
@[simp] theorem func47:type_of% (Tb.fu Tryz.func47 rfl):=Tb.fu Tryz.func47 rfl
@[simp] theorem func49:type_of% (Tb.fu Tryz.func49 rfl):=Tb.fu Tryz.func49 rfl
@[simp] theorem func5:type_of% (Tb.fu Tryz.func5 rfl):=Tb.fu Tryz.func5 rfl
@[simp] theorem func50:type_of% (Tb.fu Tryz.func50 rfl):=Tb.fu Tryz.func50 rfl
@[simp] theorem func51:type_of% (Tb.fu Tryz.func51 rfl):=Tb.fu Tryz.func51 rfl
@[simp] theorem func52:type_of% (Tb.fu Tryz.func52 rfl):=Tb.fu Tryz.func52 rfl
@[simp] theorem func54:type_of% (Tb.fu Tryz.func54 rfl):=Tb.fu Tryz.func54 rfl
@[simp] theorem func55:type_of% (Tb.fu Tryz.func55 rfl):=Tb.fu Tryz.func55 rfl
@[simp] theorem func56:type_of% (Tb.fu Tryz.func56 rfl):=Tb.fu Tryz.func56 rfl
@[simp] theorem func57:type_of% (Tb.fu Tryz.func57 rfl):=Tb.fu Tryz.func57 rfl
@[simp] theorem func58:type_of% (Tb.fu Tryz.func58 rfl):=Tb.fu Tryz.func58 rfl
@[simp] theorem func59:type_of% (Tb.fu Tryz.func59 rfl):=Tb.fu Tryz.func59 rfl
@[simp] theorem func6:type_of% (Tb.fu Tryz.func6 rfl):=Tb.fu Tryz.func6 rfl
@[simp] theorem func60:type_of% (Tb.fu Tryz.func60 rfl):=Tb.fu Tryz.func60 rfl
@[simp] theorem func61:type_of% (Tb.fu Tryz.func61 rfl):=Tb.fu Tryz.func61 rfl
@[simp] theorem func62:type_of% (Tb.fu Tryz.func62 rfl):=Tb.fu Tryz.func62 rfl
@[simp] theorem func63:type_of% (Tb.fu Tryz.func63 rfl):=Tb.fu Tryz.func63 rfl
@[simp] theorem func64:type_of% (Tb.fu Tryz.func64 rfl):=Tb.fu Tryz.func64 rfl
@[simp] theorem func65:type_of% (Tb.fu Tryz.func65 rfl):=Tb.fu Tryz.func65 rfl
@[simp] theorem func66:type_of% (Tb.fu Tryz.func66 rfl):=Tb.fu Tryz.func66 rfl
@[simp] theorem func67:type_of% (Tb.fu Tryz.func67 rfl):=Tb.fu Tryz.func67 rfl
@[simp] theorem func68:type_of% (Tb.fu Tryz.func68 rfl):=Tb.fu Tryz.func68 rfl
@[simp] theorem func69:type_of% (Tb.fu Tryz.func69 rfl):=Tb.fu Tryz.func69 rfl
@[simp] theorem func70:type_of% (Tb.fu Tryz.func70 rfl):=Tb.fu Tryz.func70 rfl
@[simp] theorem func71:type_of% (Tb.fu Tryz.func71 rfl):=Tb.fu Tryz.func71 rfl
@[simp] theorem func72:type_of% (Tb.fu Tryz.func72 rfl):=Tb.fu Tryz.func72 rfl
@[simp] theorem func73:type_of% (Tb.fu Tryz.func73 rfl):=Tb.fu Tryz.func73 rfl
@[simp] theorem func74:type_of% (Tb.fu Tryz.func74 rfl):=Tb.fu Tryz.func74 rfl
@[simp] theorem func75:type_of% (Tb.fu Tryz.func75 rfl):=Tb.fu Tryz.func75 rfl
@[simp] theorem func76:type_of% (Tb.fu Tryz.func76 rfl):=Tb.fu Tryz.func76 rfl
@[simp] theorem func77:type_of% (Tb.fu Tryz.func77 rfl):=Tb.fu Tryz.func77 rfl
@[simp] theorem func78:type_of% (Tb.fu Tryz.func78 rfl):=Tb.fu Tryz.func78 rfl
@[simp] theorem func79:type_of% (Tb.fu Tryz.func79 rfl):=Tb.fu Tryz.func79 rfl
@[simp] theorem func82:type_of% (Tb.fu Tryz.func82 rfl):=Tb.fu Tryz.func82 rfl
@[simp] theorem func83:type_of% (Tb.fu Tryz.func83 rfl):=Tb.fu Tryz.func83 rfl
@[simp] theorem func84:type_of% (Tb.fu Tryz.func84 rfl):=Tb.fu Tryz.func84 rfl
@[simp] theorem func85:type_of% (Tb.fu Tryz.func85 rfl):=Tb.fu Tryz.func85 rfl
@[simp] theorem func86:type_of% (Tb.fu Tryz.func86 rfl):=Tb.fu Tryz.func86 rfl
@[simp] theorem func87:type_of% (Tb.fu Tryz.func87 rfl):=Tb.fu Tryz.func87 rfl
@[simp] theorem func88:type_of% (Tb.fu Tryz.func88 rfl):=Tb.fu Tryz.func88 rfl
@[simp] theorem func89:type_of% (Tb.fu Tryz.func89 rfl):=Tb.fu Tryz.func89 rfl
@[simp] theorem func90:type_of% (Tb.fu Tryz.func90 rfl):=Tb.fu Tryz.func90 rfl
@[simp] theorem func91:type_of% (Tb.fu Tryz.func91 rfl):=Tb.fu Tryz.func91 rfl
@[simp] theorem func92:type_of% (Tb.fu Tryz.func92 rfl):=Tb.fu Tryz.func92 rfl
@[simp] theorem func93:type_of% (Tb.fu Tryz.func93 rfl):=Tb.fu Tryz.func93 rfl
@[simp] theorem func94:type_of% (Tb.fu Tryz.func94 rfl):=Tb.fu Tryz.func94 rfl
@[simp] theorem func95:type_of% (Tb.fu Tryz.func95 rfl):=Tb.fu Tryz.func95 rfl
@[simp] theorem func96:type_of% (Tb.fu Tryz.func96 rfl):=Tb.fu Tryz.func96 rfl
@[simp] theorem func97:type_of% (Tb.fu Tryz.func97 rfl):=Tb.fu Tryz.func97 rfl
@[simp] theorem func98:type_of% (Tb.fu Tryz.func98 rfl):=Tb.fu Tryz.func98 rfl
@[simp] theorem func99:type_of% (Tb.fu Tryz.func99 rfl):=Tb.fu Tryz.func99 rfl
@[simp] theorem isAgg0:type_of% (Tb.ag Tryz.isAgg0):=Tb.ag Tryz.isAgg0
@[simp] theorem isAgg105:type_of% (Tb.ag Tryz.isAgg105):=Tb.ag Tryz.isAgg105
@[simp] theorem isAgg110:type_of% (Tb.ag Tryz.isAgg110):=Tb.ag Tryz.isAgg110
@[simp] theorem isAgg116:type_of% (Tb.ag Tryz.isAgg116):=Tb.ag Tryz.isAgg116
@[simp] theorem isAgg119:type_of% (Tb.ag Tryz.isAgg119):=Tb.ag Tryz.isAgg119
@[simp] theorem isAgg121:type_of% (Tb.ag Tryz.isAgg121):=Tb.ag Tryz.isAgg121
@[simp] theorem isAgg122:type_of% (Tb.ag Tryz.isAgg122):=Tb.ag Tryz.isAgg122
@[simp] theorem isAgg124:type_of% (Tb.ag Tryz.isAgg124):=Tb.ag Tryz.isAgg124
@[simp] theorem isAgg144:type_of% (Tb.ag Tryz.isAgg144):=Tb.ag Tryz.isAgg144
@[simp] theorem isAgg149:type_of% (Tb.ag Tryz.isAgg149):=Tb.ag Tryz.isAgg149
@[simp] theorem isAgg150:type_of% (Tb.ag Tryz.isAgg150):=Tb.ag Tryz.isAgg150
@[simp] theorem isAgg152:type_of% (Tb.ag Tryz.isAgg152):=Tb.ag Tryz.isAgg152
@[simp] theorem isAgg153:type_of% (Tb.ag Tryz.isAgg153):=Tb.ag Tryz.isAgg153
@[simp] theorem isAgg157:type_of% (Tb.ag Tryz.isAgg157):=Tb.ag Tryz.isAgg157
@[simp] theorem isAgg176:type_of% (Tb.ag Tryz.isAgg176):=Tb.ag Tryz.isAgg176
@[simp] theorem isAgg177:type_of% (Tb.ag Tryz.isAgg177):=Tb.ag Tryz.isAgg177
@[simp] theorem isAgg184:type_of% (Tb.ag Tryz.isAgg184):=Tb.ag Tryz.isAgg184
@[simp] theorem isAgg186:type_of% (Tb.ag Tryz.isAgg186):=Tb.ag Tryz.isAgg186
@[simp] theorem isAgg197:type_of% (Tb.ag Tryz.isAgg197):=Tb.ag Tryz.isAgg197
@[simp] theorem isAgg2:type_of% (Tb.ag Tryz.isAgg2):=Tb.ag Tryz.isAgg2
@[simp] theorem isAgg20:type_of% (Tb.ag Tryz.isAgg20):=Tb.ag Tryz.isAgg20
@[simp] theorem isAgg200:type_of% (Tb.ag Tryz.isAgg200):=Tb.ag Tryz.isAgg200
@[simp] theorem isAgg203:type_of% (Tb.ag Tryz.isAgg203):=Tb.ag Tryz.isAgg203
@[simp] theorem isAgg204:type_of% (Tb.ag Tryz.isAgg204):=Tb.ag Tryz.isAgg204
@[simp] theorem isAgg21:type_of% (Tb.ag Tryz.isAgg21):=Tb.ag Tryz.isAgg21
@[simp] theorem isAgg22:type_of% (Tb.ag Tryz.isAgg22):=Tb.ag Tryz.isAgg22
@[simp] theorem isAgg23:type_of% (Tb.ag Tryz.isAgg23):=Tb.ag Tryz.isAgg23
@[simp] theorem isAgg24:type_of% (Tb.ag Tryz.isAgg24):=Tb.ag Tryz.isAgg24
@[simp] theorem isAgg26:type_of% (Tb.ag Tryz.isAgg26):=Tb.ag Tryz.isAgg26
@[simp] theorem isAgg27:type_of% (Tb.ag Tryz.isAgg27):=Tb.ag Tryz.isAgg27
@[simp] theorem isAgg29:type_of% (Tb.ag Tryz.isAgg29):=Tb.ag Tryz.isAgg29
@[simp] theorem isAgg3:type_of% (Tb.ag Tryz.isAgg3):=Tb.ag Tryz.isAgg3
@[simp] theorem isAgg31:type_of% (Tb.ag Tryz.isAgg31):=Tb.ag Tryz.isAgg31
@[simp] theorem isAgg32:type_of% (Tb.ag Tryz.isAgg32):=Tb.ag Tryz.isAgg32
@[simp] theorem isAgg4:type_of% (Tb.ag Tryz.isAgg4):=Tb.ag Tryz.isAgg4
@[simp] theorem isAgg5:type_of% (Tb.ag Tryz.isAgg5):=Tb.ag Tryz.isAgg5
@[simp] theorem isAgg62:type_of% (Tb.ag Tryz.isAgg62):=Tb.ag Tryz.isAgg62
@[simp] theorem isAgg69:type_of% (Tb.ag Tryz.isAgg69):=Tb.ag Tryz.isAgg69
@[simp] theorem isAgg71:type_of% (Tb.ag Tryz.isAgg71):=Tb.ag Tryz.isAgg71
@[simp] theorem isAgg73:type_of% (Tb.ag Tryz.isAgg73):=Tb.ag Tryz.isAgg73
@[simp] theorem isAgg75:type_of% (Tb.ag Tryz.isAgg75):=Tb.ag Tryz.isAgg75
@[simp] theorem isAgg85:type_of% (Tb.ag Tryz.isAgg85):=Tb.ag Tryz.isAgg85
@[simp] theorem isAgg9:type_of% (Tb.ag Tryz.isAgg9):=Tb.ag Tryz.isAgg9
@[simp] theorem ntmps37:eachS.ntmps=15:=by kernel_rfl
@[simp] theorem ntmps38:countS.ntmps=Tryz.f38.ntmps:=by kernel_rfl
@[simp] theorem ntmps41:loadS.ntmps=12:=by kernel_rfl
@[simp] theorem ntmps42:scoresS.ntmps=Tryz.f42.ntmps:=by kernel_rfl
theorem ntmps47:type_of% Tryz.ntmps47:=Tryz.ntmps47
@[simp] theorem results37:eachS.results=#[]:=by kernel_rfl
@[simp] theorem results38:countS.results=#[.tmp 5,.tmp 23]:=by kernel_rfl
@[simp] theorem results41:loadS.results=#[.tmp 2]:=by kernel_rfl
@[simp] theorem results42:scoresS.results=#[.tmp 22,.tmp 21]:=by kernel_rfl
@[simp] theorem runUnderlying0:type_of% (Tb.ru Tryz.runUnderlying0):=Tb.ru Tryz.runUnderlying0
@[simp] theorem runUnderlying107:type_of% (Tb.ru Tryz.runUnderlying107):=Tb.ru Tryz.runUnderlying107
@[simp] theorem runUnderlying110:type_of% (Tb.ru Tryz.runUnderlying110):=Tb.ru Tryz.runUnderlying110
@[simp] theorem runUnderlying119:type_of% (Tb.ru Tryz.runUnderlying119):=Tb.ru Tryz.runUnderlying119
@[simp] theorem runUnderlying121:type_of% (Tb.ru Tryz.runUnderlying121):=Tb.ru Tryz.runUnderlying121
@[simp] theorem runUnderlying122:type_of% (Tb.ru Tryz.runUnderlying122):=Tb.ru Tryz.runUnderlying122
@[simp] theorem runUnderlying124:type_of% (Tb.ru Tryz.runUnderlying124):=Tb.ru Tryz.runUnderlying124
@[simp] theorem runUnderlying149:type_of% (Tb.ru Tryz.runUnderlying149):=Tb.ru Tryz.runUnderlying149
@[simp] theorem runUnderlying150:type_of% (Tb.ru Tryz.runUnderlying150):=Tb.ru Tryz.runUnderlying150
@[simp] theorem runUnderlying152:type_of% (Tb.ru Tryz.runUnderlying152):=Tb.ru Tryz.runUnderlying152
@[simp] theorem runUnderlying153:type_of% (Tb.ru Tryz.runUnderlying153):=Tb.ru Tryz.runUnderlying153
@[simp] theorem runUnderlying157:type_of% (Tb.ru Tryz.runUnderlying157):=Tb.ru Tryz.runUnderlying157
@[simp] theorem runUnderlying174:type_of% (Tb.ru Tryz.runUnderlying174):=Tb.ru Tryz.runUnderlying174
@[simp] theorem runUnderlying184:type_of% (Tb.ru Tryz.runUnderlying184):=Tb.ru Tryz.runUnderlying184
@[simp] theorem runUnderlying186:type_of% (Tb.ru Tryz.runUnderlying186):=Tb.ru Tryz.runUnderlying186
@[simp] theorem runUnderlying191:type_of% (Tb.ru Tryz.runUnderlying191):=Tb.ru Tryz.runUnderlying191
@[simp] theorem runUnderlying192:type_of% (Tb.ru Tryz.runUnderlying192):=Tb.ru Tryz.runUnderlying192
@[simp] theorem runUnderlying193:type_of% (Tb.ru Tryz.runUnderlying193):=Tb.ru Tryz.runUnderlying193
@[simp] theorem runUnderlying20:type_of% (Tb.ru Tryz.runUnderlying20):=Tb.ru Tryz.runUnderlying20
@[simp] theorem runUnderlying21:type_of% (Tb.ru Tryz.runUnderlying21):=Tb.ru Tryz.runUnderlying21
@[simp] theorem runUnderlying22:type_of% (Tb.ru Tryz.runUnderlying22):=Tb.ru Tryz.runUnderlying22
@[simp] theorem runUnderlying23:type_of% (Tb.ru Tryz.runUnderlying23):=Tb.ru Tryz.runUnderlying23
@[simp] theorem runUnderlying24:type_of% (Tb.ru Tryz.runUnderlying24):=Tb.ru Tryz.runUnderlying24
@[simp] theorem runUnderlying26:type_of% (Tb.ru Tryz.runUnderlying26):=Tb.ru Tryz.runUnderlying26
@[simp] theorem runUnderlying27:type_of% (Tb.ru Tryz.runUnderlying27):=Tb.ru Tryz.runUnderlying27
@[simp] theorem runUnderlying29:type_of% (Tb.ru Tryz.runUnderlying29):=Tb.ru Tryz.runUnderlying29
@[simp] theorem runUnderlying3:type_of% (Tb.ru Tryz.runUnderlying3):=Tb.ru Tryz.runUnderlying3
@[simp] theorem runUnderlying31:type_of% (Tb.ru Tryz.runUnderlying31):=Tb.ru Tryz.runUnderlying31
@[simp] theorem runUnderlying4:type_of% (Tb.ru Tryz.runUnderlying4):=Tb.ru Tryz.runUnderlying4
@[simp] theorem runUnderlying62:type_of% (Tb.ru Tryz.runUnderlying62):=Tb.ru Tryz.runUnderlying62
@[simp] theorem runUnderlying69:type_of% (Tb.ru Tryz.runUnderlying69):=Tb.ru Tryz.runUnderlying69
@[simp] theorem runUnderlying71:type_of% (Tb.ru Tryz.runUnderlying71):=Tb.ru Tryz.runUnderlying71
@[simp] theorem runUnderlying73:type_of% (Tb.ru Tryz.runUnderlying73):=Tb.ru Tryz.runUnderlying73
@[simp] theorem runUnderlying75:type_of% (Tb.ru Tryz.runUnderlying75):=Tb.ru Tryz.runUnderlying75
@[simp] theorem runUnderlying81:type_of% (Tb.ru Tryz.runUnderlying81):=Tb.ru Tryz.runUnderlying81
@[simp] theorem runUnderlying85:type_of% (Tb.ru Tryz.runUnderlying85):=Tb.ru Tryz.runUnderlying85
@[simp] theorem runUnderlying9:type_of% (Tb.ru Tryz.runUnderlying9):=Tb.ru Tryz.runUnderlying9
@[simp] theorem runUnderlying92:type_of% (Tb.ru Tryz.runUnderlying92):=Tb.ru Tryz.runUnderlying92
@[simp] theorem runUnderlying99:type_of% (Tb.ru Tryz.runUnderlying99):=Tb.ru Tryz.runUnderlying99
@[simp] theorem sizeOf0:type_of% (Tb.sz Tryz.sizeOf0):=Tb.sz Tryz.sizeOf0
@[simp] theorem sizeOf105:type_of% (Tb.sz Tryz.sizeOf105):=Tb.sz Tryz.sizeOf105
@[simp] theorem sizeOf110:type_of% (Tb.sz Tryz.sizeOf110):=Tb.sz Tryz.sizeOf110
@[simp] theorem sizeOf116:type_of% (Tb.sz Tryz.sizeOf116):=Tb.sz Tryz.sizeOf116
@[simp] theorem sizeOf119:type_of% (Tb.sz Tryz.sizeOf119):=Tb.sz Tryz.sizeOf119
@[simp] theorem sizeOf121:type_of% (Tb.sz Tryz.sizeOf121):=Tb.sz Tryz.sizeOf121
@[simp] theorem sizeOf122:type_of% (Tb.sz Tryz.sizeOf122):=Tb.sz Tryz.sizeOf122
@[simp] theorem sizeOf124:type_of% (Tb.sz Tryz.sizeOf124):=Tb.sz Tryz.sizeOf124
@[simp] theorem sizeOf144:type_of% (Tb.sz Tryz.sizeOf144):=Tb.sz Tryz.sizeOf144
@[simp] theorem sizeOf149:type_of% (Tb.sz Tryz.sizeOf149):=Tb.sz Tryz.sizeOf149
@[simp] theorem sizeOf150:type_of% (Tb.sz Tryz.sizeOf150):=Tb.sz Tryz.sizeOf150
@[simp] theorem sizeOf152:type_of% (Tb.sz Tryz.sizeOf152):=Tb.sz Tryz.sizeOf152
@[simp] theorem sizeOf153:type_of% (Tb.sz Tryz.sizeOf153):=Tb.sz Tryz.sizeOf153
@[simp] theorem sizeOf157:type_of% (Tb.sz Tryz.sizeOf157):=Tb.sz Tryz.sizeOf157
@[simp] theorem sizeOf174:type_of% (Tb.sz Tryz.sizeOf174):=Tb.sz Tryz.sizeOf174
@[simp] theorem sizeOf176:type_of% (Tb.sz Tryz.sizeOf176):=Tb.sz Tryz.sizeOf176
@[simp] theorem sizeOf177:type_of% (Tb.sz Tryz.sizeOf177):=Tb.sz Tryz.sizeOf177
@[simp] theorem sizeOf184:type_of% (Tb.sz Tryz.sizeOf184):=Tb.sz Tryz.sizeOf184
@[simp] theorem sizeOf186:type_of% (Tb.sz Tryz.sizeOf186):=Tb.sz Tryz.sizeOf186
@[simp] theorem sizeOf191:type_of% (Tb.sz Tryz.sizeOf191):=Tb.sz Tryz.sizeOf191
@[simp] theorem sizeOf197:type_of% (Tb.sz Tryz.sizeOf197):=Tb.sz Tryz.sizeOf197
@[simp] theorem sizeOf2:type_of% (Tb.sz Tryz.sizeOf2):=Tb.sz Tryz.sizeOf2
@[simp] theorem sizeOf20:type_of% (Tb.sz Tryz.sizeOf20):=Tb.sz Tryz.sizeOf20
@[simp] theorem sizeOf200:type_of% (Tb.sz Tryz.sizeOf200):=Tb.sz Tryz.sizeOf200
@[simp] theorem sizeOf203:type_of% (Tb.sz Tryz.sizeOf203):=Tb.sz Tryz.sizeOf203
@[simp] theorem sizeOf204:type_of% (Tb.sz Tryz.sizeOf204):=Tb.sz Tryz.sizeOf204
@[simp] theorem sizeOf21:type_of% (Tb.sz Tryz.sizeOf21):=Tb.sz Tryz.sizeOf21
@[simp] theorem sizeOf22:type_of% (Tb.sz Tryz.sizeOf22):=Tb.sz Tryz.sizeOf22
@[simp] theorem sizeOf23:type_of% (Tb.sz Tryz.sizeOf23):=Tb.sz Tryz.sizeOf23
@[simp] theorem sizeOf24:type_of% (Tb.sz Tryz.sizeOf24):=Tb.sz Tryz.sizeOf24
@[simp] theorem sizeOf26:type_of% (Tb.sz Tryz.sizeOf26):=Tb.sz Tryz.sizeOf26
@[simp] theorem sizeOf27:type_of% (Tb.sz Tryz.sizeOf27):=Tb.sz Tryz.sizeOf27
@[simp] theorem sizeOf29:type_of% (Tb.sz Tryz.sizeOf29):=Tb.sz Tryz.sizeOf29
@[simp] theorem sizeOf3:type_of% (Tb.sz Tryz.sizeOf3):=Tb.sz Tryz.sizeOf3
@[simp] theorem sizeOf31:type_of% (Tb.sz Tryz.sizeOf31):=Tb.sz Tryz.sizeOf31
@[simp] theorem sizeOf32:type_of% (Tb.sz Tryz.sizeOf32):=Tb.sz Tryz.sizeOf32
@[simp] theorem sizeOf4:type_of% (Tb.sz Tryz.sizeOf4):=Tb.sz Tryz.sizeOf4
@[simp] theorem sizeOf5:type_of% (Tb.sz Tryz.sizeOf5):=Tb.sz Tryz.sizeOf5
@[simp] theorem sizeOf62:type_of% (Tb.sz Tryz.sizeOf62):=Tb.sz Tryz.sizeOf62
@[simp] theorem sizeOf69:type_of% (Tb.sz Tryz.sizeOf69):=Tb.sz Tryz.sizeOf69
@[simp] theorem sizeOf71:type_of% (Tb.sz Tryz.sizeOf71):=Tb.sz Tryz.sizeOf71
@[simp] theorem sizeOf73:type_of% (Tb.sz Tryz.sizeOf73):=Tb.sz Tryz.sizeOf73
@[simp] theorem sizeOf75:type_of% (Tb.sz Tryz.sizeOf75):=Tb.sz Tryz.sizeOf75
@[simp] theorem sizeOf85:type_of% (Tb.sz Tryz.sizeOf85):=Tb.sz Tryz.sizeOf85
@[simp] theorem sizeOf9:type_of% (Tb.sz Tryz.sizeOf9):=Tb.sz Tryz.sizeOf9
@[simp] theorem stoodInHeld31:Crz.prog.stoodInHeld 31=false:=by kernel_rfl
@[simp] theorem underlying0:type_of% (Tb.un Tryz.underlying0):=Tb.un Tryz.underlying0
@[simp] theorem underlying105:type_of% (Tb.un Tryz.underlying105):=Tb.un Tryz.underlying105
@[simp] theorem underlying110:type_of% (Tb.un Tryz.underlying110):=Tb.un Tryz.underlying110
@[simp] theorem underlying116:type_of% (Tb.un Tryz.underlying116):=Tb.un Tryz.underlying116
@[simp] theorem underlying119:type_of% (Tb.un Tryz.underlying119):=Tb.un Tryz.underlying119
@[simp] theorem underlying121:type_of% (Tb.un Tryz.underlying121):=Tb.un Tryz.underlying121
@[simp] theorem underlying122:type_of% (Tb.un Tryz.underlying122):=Tb.un Tryz.underlying122
@[simp] theorem underlying124:type_of% (Tb.un Tryz.underlying124):=Tb.un Tryz.underlying124
@[simp] theorem underlying144:type_of% (Tb.un Tryz.underlying144):=Tb.un Tryz.underlying144
@[simp] theorem underlying149:type_of% (Tb.un Tryz.underlying149):=Tb.un Tryz.underlying149
@[simp] theorem underlying150:type_of% (Tb.un Tryz.underlying150):=Tb.un Tryz.underlying150
@[simp] theorem underlying152:type_of% (Tb.un Tryz.underlying152):=Tb.un Tryz.underlying152
@[simp] theorem underlying153:type_of% (Tb.un Tryz.underlying153):=Tb.un Tryz.underlying153
@[simp] theorem underlying157:type_of% (Tb.un Tryz.underlying157):=Tb.un Tryz.underlying157
@[simp] theorem underlying176:type_of% (Tb.un Tryz.underlying176):=Tb.un Tryz.underlying176
@[simp] theorem underlying177:type_of% (Tb.un Tryz.underlying177):=Tb.un Tryz.underlying177
@[simp] theorem underlying184:type_of% (Tb.un Tryz.underlying184):=Tb.un Tryz.underlying184
@[simp] theorem underlying186:type_of% (Tb.un Tryz.underlying186):=Tb.un Tryz.underlying186
@[simp] theorem underlying191:type_of% (Tb.un Tryz.underlying191):=Tb.un Tryz.underlying191
@[simp] theorem underlying193:type_of% (Tb.un Tryz.underlying193):=Tb.un Tryz.underlying193
@[simp] theorem underlying197:type_of% (Tb.un Tryz.underlying197):=Tb.un Tryz.underlying197
@[simp] theorem underlying20:type_of% (Tb.un Tryz.underlying20):=Tb.un Tryz.underlying20
@[simp] theorem underlying200:type_of% (Tb.un Tryz.underlying200):=Tb.un Tryz.underlying200
@[simp] theorem underlying203:type_of% (Tb.un Tryz.underlying203):=Tb.un Tryz.underlying203
@[simp] theorem underlying204:type_of% (Tb.un Tryz.underlying204):=Tb.un Tryz.underlying204
@[simp] theorem underlying21:type_of% (Tb.un Tryz.underlying21):=Tb.un Tryz.underlying21
@[simp] theorem underlying22:type_of% (Tb.un Tryz.underlying22):=Tb.un Tryz.underlying22
@[simp] theorem underlying23:type_of% (Tb.un Tryz.underlying23):=Tb.un Tryz.underlying23
@[simp] theorem underlying24:type_of% (Tb.un Tryz.underlying24):=Tb.un Tryz.underlying24
@[simp] theorem underlying26:type_of% (Tb.un Tryz.underlying26):=Tb.un Tryz.underlying26
@[simp] theorem underlying27:type_of% (Tb.un Tryz.underlying27):=Tb.un Tryz.underlying27
@[simp] theorem underlying29:type_of% (Tb.un Tryz.underlying29):=Tb.un Tryz.underlying29
@[simp] theorem underlying3:type_of% (Tb.un Tryz.underlying3):=Tb.un Tryz.underlying3
@[simp] theorem underlying31:type_of% (Tb.un Tryz.underlying31):=Tb.un Tryz.underlying31
@[simp] theorem underlying4:type_of% (Tb.un Tryz.underlying4):=Tb.un Tryz.underlying4
@[simp] theorem underlying5:type_of% (Tb.un Tryz.underlying5):=Tb.un Tryz.underlying5
@[simp] theorem underlying65:type_of% (Tb.un Tryz.underlying65):=Tb.un Tryz.underlying65
@[simp] theorem underlying69:type_of% (Tb.un Tryz.underlying69):=Tb.un Tryz.underlying69
@[simp] theorem underlying71:type_of% (Tb.un Tryz.underlying71):=Tb.un Tryz.underlying71
@[simp] theorem underlying73:type_of% (Tb.un Tryz.underlying73):=Tb.un Tryz.underlying73
@[simp] theorem underlying75:type_of% (Tb.un Tryz.underlying75):=Tb.un Tryz.underlying75
@[simp] theorem underlying85:type_of% (Tb.un Tryz.underlying85):=Tb.un Tryz.underlying85
@[simp] theorem underlying9:type_of% (Tb.un Tryz.underlying9):=Tb.un Tryz.underlying9
@[simp] theorem underlying92:type_of% (Tb.un Tryz.underlying92):=Tb.un Tryz.underlying92
@[simp] theorem zeroValue0:type_of% (Tb.ze Tryz.zeroValue0):=Tb.ze Tryz.zeroValue0
@[simp] theorem zeroValue107:type_of% (Tb.ze Tryz.zeroValue107):=Tb.ze Tryz.zeroValue107
@[simp] theorem zeroValue110:type_of% (Tb.ze Tryz.zeroValue110):=Tb.ze Tryz.zeroValue110
@[simp] theorem zeroValue116:type_of% (Tb.ze Tryz.zeroValue116):=Tb.ze Tryz.zeroValue116
@[simp] theorem zeroValue119:type_of% (Tb.ze Tryz.zeroValue119):=Tb.ze Tryz.zeroValue119
@[simp] theorem zeroValue121:type_of% (Tb.ze Tryz.zeroValue121):=Tb.ze Tryz.zeroValue121
@[simp] theorem zeroValue122:type_of% (Tb.ze Tryz.zeroValue122):=Tb.ze Tryz.zeroValue122
@[simp] theorem zeroValue124:type_of% (Tb.ze Tryz.zeroValue124):=Tb.ze Tryz.zeroValue124
@[simp] theorem zeroValue144:type_of% (Tb.ze Tryz.zeroValue144):=Tb.ze Tryz.zeroValue144
@[simp] theorem zeroValue149:type_of% (Tb.ze Tryz.zeroValue149):=Tb.ze Tryz.zeroValue149
@[simp] theorem zeroValue150:type_of% (Tb.ze Tryz.zeroValue150):=Tb.ze Tryz.zeroValue150
@[simp] theorem zeroValue152:type_of% (Tb.ze Tryz.zeroValue152):=Tb.ze Tryz.zeroValue152
@[simp] theorem zeroValue153:type_of% (Tb.ze Tryz.zeroValue153):=Tb.ze Tryz.zeroValue153
@[simp] theorem zeroValue157:type_of% (Tb.ze Tryz.zeroValue157):=Tb.ze Tryz.zeroValue157
@[simp] theorem zeroValue174:type_of% (Tb.ze Tryz.zeroValue174):=Tb.ze Tryz.zeroValue174
@[simp] theorem zeroValue176:type_of% (Tb.ze Tryz.zeroValue176):=Tb.ze Tryz.zeroValue176
@[simp] theorem zeroValue177:type_of% (Tb.ze Tryz.zeroValue177):=Tb.ze Tryz.zeroValue177
@[simp] theorem zeroValue184:type_of% (Tb.ze Tryz.zeroValue184):=Tb.ze Tryz.zeroValue184
@[simp] theorem zeroValue186:type_of% (Tb.ze Tryz.zeroValue186):=Tb.ze Tryz.zeroValue186
@[simp] theorem zeroValue191:type_of% (Tb.ze Tryz.zeroValue191):=Tb.ze Tryz.zeroValue191
@[simp] theorem zeroValue192:type_of% (Tb.ze Tryz.zeroValue192):=Tb.ze Tryz.zeroValue192
@[simp] theorem zeroValue197:type_of% (Tb.ze Tryz.zeroValue197):=Tb.ze Tryz.zeroValue197
@[simp] theorem zeroValue20:type_of% (Tb.ze Tryz.zeroValue20):=Tb.ze Tryz.zeroValue20
@[simp] theorem zeroValue200:type_of% (Tb.ze Tryz.zeroValue200):=Tb.ze Tryz.zeroValue200
@[simp] theorem zeroValue203:type_of% (Tb.ze Tryz.zeroValue203):=Tb.ze Tryz.zeroValue203
@[simp] theorem zeroValue204:type_of% (Tb.ze Tryz.zeroValue204):=Tb.ze Tryz.zeroValue204
@[simp] theorem zeroValue21:type_of% (Tb.ze Tryz.zeroValue21):=Tb.ze Tryz.zeroValue21
@[simp] theorem zeroValue23:type_of% (Tb.ze Tryz.zeroValue23):=Tb.ze Tryz.zeroValue23
@[simp] theorem zeroValue26:type_of% (Tb.ze Tryz.zeroValue26):=Tb.ze Tryz.zeroValue26
@[simp] theorem zeroValue27:type_of% (Tb.ze Tryz.zeroValue27):=Tb.ze Tryz.zeroValue27
@[simp] theorem zeroValue29:type_of% (Tb.ze Tryz.zeroValue29):=Tb.ze Tryz.zeroValue29
@[simp] theorem zeroValue3:type_of% (Tb.ze Tryz.zeroValue3):=Tb.ze Tryz.zeroValue3
@[simp] theorem zeroValue31:type_of% (Tb.ze Tryz.zeroValue31):=Tb.ze Tryz.zeroValue31
@[simp] theorem zeroValue32:type_of% (Tb.ze Tryz.zeroValue32):=Tb.ze Tryz.zeroValue32
@[simp] theorem zeroValue4:type_of% (Tb.ze Tryz.zeroValue4):=Tb.ze Tryz.zeroValue4
@[simp] theorem zeroValue5:type_of% (Tb.ze Tryz.zeroValue5):=Tb.ze Tryz.zeroValue5
@[simp] theorem zeroValue62:type_of% (Tb.ze Tryz.zeroValue62):=Tb.ze Tryz.zeroValue62
@[simp] theorem zeroValue69:type_of% (Tb.ze Tryz.zeroValue69):=Tb.ze Tryz.zeroValue69
@[simp] theorem zeroValue73:type_of% (Tb.ze Tryz.zeroValue73):=Tb.ze Tryz.zeroValue73
@[simp] theorem zeroValue75:type_of% (Tb.ze Tryz.zeroValue75):=Tb.ze Tryz.zeroValue75
@[simp] theorem zeroValue81:type_of% (Tb.ze Tryz.zeroValue81):=Tb.ze Tryz.zeroValue81
@[simp] theorem zeroValue9:type_of% (Tb.ze Tryz.zeroValue9):=Tb.ze Tryz.zeroValue9
@[simp] theorem zeroValue99:type_of% (Tb.ze Tryz.zeroValue99):=Tb.ze Tryz.zeroValue99
@[simp] theorem rt_eq:Crz.prog.rt=Tryz.prog.rt:=by rw [Tb.tabs]
@[simp] theorem inits_eq:Crz.prog.inits=Tryz.prog.inits:=by rw [Tb.tabs]
@[simp] theorem globals_size:Crz.prog.globals.size=Tryz.prog.globals.size:=by rw [Tb.tabs]
end Crz
end Go.Proofs
namespace Go.Proofs.YtdoibgmmijhlfaaGreat
open Go.RowKit
theorem hide{p:Prop}(h:p):Hid p:=h
theorem ret_int{k:IntKind}{a b:Int}(h:a=b):Ending.returned (.int k a)=.returned (.int k b):=by rw [h]
abbrev Ext(w w':World):Prop:=Below w.heap.size w w'
theorem qT{a b c:World}(h:Ext a b)(k:Ext b c):Ext a c:=Below.trans h (Below.mono k h.size)
def IntsAt(w:World)(A:Option Addr)(zs:List Int):Prop :=
 ∀ i,i<zs.length→∃ b o,A=some ⟨b,o,none⟩∧w.cell? ⟨b,o+i,none⟩=some (.int .i64 (zs.getD i 0))
theorem lt_of_cell{w:World}{a:Addr}{v:Value}(h:w.cell? a=some v):a.block<w.heap.size:=by
 rcases Nat.lt_or_ge a.block w.heap.size with hlt | hge
 ·exact hlt
 ·simp [World.cell?,Array.getElem?_eq_none hge] at h
theorem Ext.cell{w w':World}(h:Ext w w'){a:Addr}{v:Value}(hc:w.cell? a=some v):w'.cell? a=some v :=
 (Below.cell h (lt_of_cell hc)).trans hc
theorem qA{w w':World}(h:Ext w w')(o:Obj):Ext w (w'.alloc o):=Below.alloc h h.size o
theorem qD{w w':World}(h:Ext w w')(n:Nat):Ext w (w'.drewN n):=⟨h.os,h.tape,h.output,h.size,h.block⟩
theorem IntsAt.ext{w w':World}{A:Option Addr}{zs:List Int}(h:IntsAt w A zs)(he:Ext w w'):IntsAt w' A zs:=by
 intro i hi
 obtain⟨b,o,rfl,hc⟩:=h i hi
 exact⟨b,o,rfl,he.cell hc⟩
section
variable {w w':World}{g:Nat}{t:TypeId}{zs:List Int}
end
theorem make_ints{P:Program}(t e:TypeId)(i:TypeInfo)(ht:P.underlying t=some (.slice e))(hi:P.info? e=some i)(hz:i.zero=some (.int .i64 0))(hs:i.size=1)(hby:i.bytes=8)
  (n:Nat) (hn:n≤2 ^ 45) (w:World) :
  (Instr.makeSlice t (.int .i64 (n:Int)) (.int .i64 (n:Int))).run P w=.ok (.slice (some ⟨w.heap.size,0,none⟩) n n) (w.alloc (.cells ((List.replicate n (0:Int)).map (Value.int .i64)).toArray e)):=by
 have hr:=run_make (P:=P) w t e i (.int .i64 0) ht hi hz .i64 .i64 n n (by omega) (by omega) (by rw [hby];omega) (by omega)
 rw [hr,hs]
 have:(madeCells (Value.int .i64 0).cells (n * 1))=((List.replicate n (0:Int)).map (Value.int .i64)).toArray:=by
  apply Array.toList_inj.1
  rw [Nat.mul_one]
  show (madeCells #[Value.int .i64 0] n).toList=_
  rw [toList_madeCells_one]
  simp
 simp only [Int.toNat_natCast,this]
def CellsAt(w:World)(A:Option Addr)(vs:List Value):Prop :=
 ∀ i v,vs[i]? = some v→∃ b o,A=some ⟨b,o,none⟩∧w.cell? ⟨b,o+i,none⟩=some v
theorem CellsAt.ext{w w':World}{A:Option Addr}{vs:List Value}(h:CellsAt w A vs)(he:Ext w w'):CellsAt w' A vs:=by
 intro i v hi
 obtain⟨b,o,rfl,hc⟩:=h i v hi
 exact⟨b,o,rfl,he.cell hc⟩
theorem cellsAt_nil(w:World)(A:Option Addr):CellsAt w A []:=fun i v hi=>by simp at hi
theorem ints_cells{w:World}{A:Option Addr}{zs:List Int}(h:IntsAt w A zs):CellsAt w A (zs.map (Value.int .i64)):=by
 intro i v hi
 have hl:i<zs.length:=by
  have:=(List.getElem?_eq_some_iff.1 hi).1
  simpa using this
 obtain⟨b,o,rfl,hc⟩:=h i hl
 refine⟨b,o,rfl,?_⟩
 rw [hc]
 simp [hl] at hi
 simp [hl,hi]
theorem cells_ints{w:World}{A:Option Addr}{zs:List Int}(h:CellsAt w A (zs.map (Value.int .i64))):IntsAt w A zs:=by
 intro i hi
 obtain⟨b,o,rfl,hc⟩:=h i (.int .i64 zs[i]) (by simp [hi])
 exact⟨b,o,rfl,by simpa [hi] using hc⟩
section
variable {w w':World}{base:Nat}{e:TypeId}{size n c:Nat}{A:Option Addr}{v:Value}{xs:List Value}
theorem own_shape(h:w.ownsRow base e size v n xs):∃ A c,v=.slice A n c∧(A=none→n=0)∧CellsAt w A xs:=by
 rcases h.2 with ⟨rfl,hn⟩ | ⟨g,cap,cur,rfl,hb,hg,hnc,hcm,hcs,ht⟩
 ·have hx:xs=[]:=List.eq_nil_of_length_eq_zero (by rw [h.1,hn,Nat.zero_mul])
  subst hn;subst hx
  exact⟨none,0,rfl,fun _=>rfl,cellsAt_nil _ _⟩
 ·refine⟨_,cap,rfl,fun k=>by simp at k,fun i u hi=>⟨g,0,rfl,?_⟩⟩
  rw [Nat.zero_add,cell_of_row w g i cur e (0,0) hg]
  rw [← ht,List.getElem?_take] at hi
  split at hi
  ·simpa using hi
  ·cases hi
theorem own_cells(h:w.ownsRow base e size (.slice A n c) n xs):CellsAt w A xs∧(A=none→n=0):=by
 obtain⟨A',c',e,h1,h2⟩:=own_shape h
 injection e with e1 e2 e3
 subst e1
 exact⟨h2,h1⟩
theorem own_ext(h:w.ownsRow base e size v n xs)(he:Ext w w'):w'.ownsRow base e size v n xs:=by
 refine⟨h.1,?_⟩
 rcases h.2 with hn | ⟨g,cap,cur,rfl,hb,hg,rest⟩
 ·exact .inl hn
 ·exact .inr ⟨g,cap,cur,rfl,hb,(he.block g (Array.getElem?_eq_some_iff.1 hg).1).trans hg,rest⟩
theorem own_mono{base':Nat}(h:w.ownsRow base e size v n xs)(hb:base'≤base):w.ownsRow base' e size v n xs:=by
 refine⟨h.1,?_⟩
 rcases h.2 with hn | ⟨g,cap,cur,rfl,hb',rest⟩
 ·exact .inl hn
 ·exact .inr ⟨g,cap,cur,rfl,by omega,rest⟩
theorem ext_grown{w0:World}{row:Option Nat}(h:Ext w0 w)(hg:w.grownBy w' row)(hr:∀ k,row=some k→w0.heap.size≤k):Ext w0 w':=h.grown hg h.size hr
theorem own_row(h:w.ownsRow base e size v n xs):∀ k,v.ownBlock=some k→base≤k:=fun k hk=>(h.lt k hk).1
end
theorem add_lit(b o j:Nat):(⟨b,o,none⟩:Addr).add j=⟨b,o+j,none⟩:=by unfold Addr.add;split <;> simp_all
section
variable {P:Program}(w:World)
theorem run_append_cells(base:Nat)(t ty e:TypeId)(i:TypeInfo)(z:Value)(size bytes:Nat)(ht:P.underlying t=some (.slice e))(hi:P.info? e=some i)(hz:i.zero=some z)
  (hsize:i.size=size) (hby:i.bytes=bytes) (hzs:z.cells.size=size) (hsz:0<size)
  (v:Value) (n:Nat) (xs:List Value) (hown:w.ownsRow base e size v n xs)
  (A:Option Addr) (m c:Nat) (news:List Value) (hl:news.length=m * size) (hr:CellsAt w A news) (h1:∀ u∈news,u.oneCell'=true)
  (h63:n+m≤maxLen) (hbytes:(n+m) * bytes≤140737488355328) (hbase:base≤w.heap.size) (hA:A=none→m=0) :
  ∃ v' w',(Builtin.append_ #[t,t] ty #[v,.slice A m c]).run P w=.ok v' w'∧w'.ownsRow base e size v' (n+m) (xs++news)∧w.grownBy w' v.ownBlock:=by
 cases A with
 | none =>
  obtain rfl:=hA rfl
  have hn:news=[]:=List.eq_nil_of_length_eq_zero (by simpa using hl)
  subst hn
  refine⟨v,w,?_,by simpa using hown,⟨rfl,rfl,rfl,Nat.le_refl _,fun _ _ _=>rfl⟩⟩
  rcases hown.2 with ⟨rfl,rfl⟩ | ⟨g,cap,cur,rfl,_,_,hnc,_⟩
  ·simp [Builtin.append_,run_underlying ht,sizeOf,typeInfo,hi,Builtin.lenOf,Builtin.firstCells]
  ·simp [Builtin.append_,run_underlying ht,sizeOf,typeInfo,hi,Builtin.lenOf,Builtin.firstCells,hnc,storeCells]
 | some ad =>
  have hcells:∀ j u,news[j]? = some u→w.cell? (ad.add j)=some u:=by
   intro j u hu
   obtain⟨b,o,e1,hc⟩:=hr j u hu
   injection e1 with e1
   subst e1
   rw [add_lit]
   exact hc
  obtain⟨v',w',hrun,h2,h3,_⟩:=run_append_own (P:=P) w base t ty e i z size bytes ht hi hz hsize hby hzs hsz v n xs hown ad m c news hl hcells h1 h63 hbytes hbase
  exact⟨v',w',hrun,h2,h3⟩
theorem wpList_append_cells{ops:Array Oper}{rest:List Oper}{o:Oper}{a:Act}{Q:Exit→Act→World→Prop}(hgd:o.guard=none)(s x:Operand)(t:TypeId)
  (ho:o.op=.call { callee:=.builtin .append,args:=#[s,x],argTypes:=#[t,t] })
  (base:Nat) (e:TypeId) (i:TypeInfo) (z:Value) (size bytes:Nat) (ht:P.underlying t=some (.slice e)) (hi:P.info? e=some i) (hz:i.zero=some z)
  (hsize:i.size=size) (hby:i.bytes=bytes) (hzs:z.cells.size=size) (hsz:0<size)
  (v:Value) (n:Nat) (xs:List Value) (hs:a.eval s=v) (hown:w.ownsRow base e size v n xs)
  (A:Option Addr) (m c:Nat) (news:List Value) (hx:a.eval x=.slice A m c) (hl:news.length=m * size) (hr:CellsAt w A news) (h1:∀ u∈news,u.oneCell'=true)
  (h63:n+m≤maxLen) (hbytes:(n+m) * bytes≤140737488355328) (hbase:base≤w.heap.size) (hA:A=none→m=0)
  (h:∀ v' w',w'.ownsRow base e size v' (n+m) (xs++news)→w.grownBy w' v.ownBlock→wpList P ops Q rest (a.put o.dst v') w'):wpList P ops Q (o :: rest) a w :=
 wpList_plain hgd fun _ hK=>by
  obtain⟨v',w',hrun,h2,h3⟩:=run_append_cells (P:=P) w base t o.type e i z size bytes ht hi hz hsize hby hzs hsz v n xs hown A m c news hl hr h1 h63 hbytes hbase hA
  unfold Oper.wp execOp
  simp only [ho,resolve,invoke,builtin,Sem.run_bind,Sem.run_pure,Result.andThen_ok,List.map_toArray,List.map_cons,List.map_nil,hs,hx,hrun]
  exact hK _ _ (h v' w' h2 h3)
end
theorem nC(w:World)(cs:Array Value)(t:TypeId)(i:Nat):(w.alloc (.cells cs t)).cell? ⟨w.heap.size,i,none⟩=cs[i]? :=
 cell_of_row _ _ i cs t (0,0) (heap_alloc_new w _)
theorem cellsAt_new(w:World)(t:TypeId)(l:List Value):CellsAt (w.alloc (.cells l.toArray t)) (some ⟨w.heap.size,0,none⟩) l:=fun i v hi=>⟨w.heap.size,0,rfl,by
 rw [Nat.zero_add,nC]
 simpa using hi⟩
def Blk(w:World)(g:Nat)(t:TypeId)(cs:Array Value):Prop:=w.heap[g]? = some (.cells cs t (0,0))
section
variable {w w':World}{g:Nat}{t:TypeId}{cs:Array Value}
theorem Blk.lt(h:Blk w g t cs):g<w.heap.size:=by
 rcases Nat.lt_or_ge g w.heap.size with hlt | hge
 ·exact hlt
 ·unfold Blk at h;rw [Array.getElem?_eq_none hge] at h;cases h
theorem Blk.cell(h:Blk w g t cs)(i:Nat):w.cell? ⟨g,i,none⟩=cs[i]?:=cell_of_row w g i cs t (0,0) h
theorem Blk.frozen(h:Blk w g t cs)(i:Nat):w.frozen? ⟨g,i,none⟩=false:=by
 unfold Blk at h
 simp [World.frozen?,h]
theorem Blk.new(w:World)(t:TypeId)(cs:Array Value):Blk (w.alloc (.cells cs t)) w.heap.size t cs:=heap_alloc_new w _
theorem Blk.drew(h:Blk w g t cs):Blk w.drew g t cs:=h
theorem Blk.alloc(h:Blk w g t cs)(o:Obj):Blk (w.alloc o) g t cs:=(Below.heap_alloc w o g h.lt).trans h
theorem Blk.set_(h:Blk w g t cs)(i:Nat)(u:Value):Blk (w.setCell ⟨g,i,none⟩ u) g t (cs.setIfInBounds i u):=by
 unfold Blk at h ⊢
 simp [World.setCell,Array.getElem?_modify,h]
theorem Blk.far(h:Blk w g t cs){p:Addr}(hp:g≠p.block)(u:Value):Blk (w.setCell p u) g t cs:=(Below.heap_setCell w p u g hp).trans h
theorem Blk.ext(h:Blk w g t cs)(hb:Ext w w'):Blk w' g t cs:=(hb.block g h.lt).trans h
theorem Blk.grown{row:Option Nat}(h:Blk w g t cs)(hb:w.grownBy w' row)(hg:some g≠row):Blk w' g t cs:=(hb.block g h.lt hg).trans h
end
theorem own_set{w:World}{base:Nat}{e:TypeId}{size n:Nat}{v:Value}{xs:List Value}(h:w.ownsRow base e size v n xs){p:Addr}(hp:v.ownBlock≠some p.block)(u:Value):(w.setCell p u).ownsRow base e size v n xs:=by
 refine⟨h.1,?_⟩
 rcases h.2 with hn | ⟨g,cap,cur,rfl,hb,hg,rest⟩
 ·exact .inl hn
 ·refine .inr ⟨g,cap,cur,rfl,hb,?_,rest⟩
  rw [Below.heap_setCell w p u g (by rintro rfl;exact hp rfl)]
  exact hg
theorem own_ne{w:World}{b b':Nat}{e e':TypeId}{s s' n n':Nat}{v v':Value}{xs xs':List Value}(h:w.ownsRow b e s v n xs)(h':w.ownsRow b' e' s' v' n' xs')(hne:e≠e'):v.ownBlock=none∨v.ownBlock≠v'.ownBlock:=by
 rcases h.2 with ⟨rfl,_⟩ | ⟨g,cap,cur,rfl,hb,hg,_⟩
 ·exact .inl rfl
 ·right
  rcases h'.2 with ⟨rfl,_⟩ | ⟨g',cap',cur',rfl,hb',hg',_⟩
  ·simp [Value.ownBlock]
  ·intro e1
   simp [Value.ownBlock] at e1
   subst e1
   rw [hg] at hg'
   injection hg' with hg'
   injection hg' with _ ht
   exact hne ht
theorem own_blk_ne{w:World}{b:Nat}{e t:TypeId}{s n g:Nat}{v:Value}{xs:List Value}{cs:Array Value}(h:w.ownsRow b e s v n xs)(hg:Blk w g t cs)(hne:e≠t):v.ownBlock≠some g:=by
 rcases h.2 with ⟨rfl,_⟩ | ⟨g',cap,cur,rfl,_,hh,_⟩
 ·simp [Value.ownBlock]
 ·intro he
  simp [Value.ownBlock] at he
  subst he
  unfold Blk at hg
  rw [hh] at hg
  injection hg with hg
  injection hg with _ ht
  exact hne ht
theorem own_from{w w':World}{B base:Nat}{e:TypeId}{size n:Nat}{v:Value}{xs:List Value}(h:w.ownsRow base e size v n xs)(hb:B≤base)(hk:∀ k,B≤k→w'.heap[k]? = w.heap[k]?):w'.ownsRow base e size v n xs:=by
 refine⟨h.1,?_⟩
 rcases h.2 with hn | ⟨g,cap,cur,rfl,hb',hg,rest⟩
 ·exact .inl hn
 ·exact .inr ⟨g,cap,cur,rfl,hb',by rw [hk g (by omega)];exact hg,rest⟩
theorem heap_set_from{w w0:World}{B:Nat}(h:∀ k,B≤k→w.heap[k]? = w0.heap[k]?){p:Addr}(hp:p.block<B)(u:Value):∀ k,B≤k→(w.setCell p u).heap[k]? = w0.heap[k]?:=fun k hk=>by
 rw [Below.heap_setCell _ _ _ _ (by omega)]
 exact h k hk
theorem own_cap{w:World}{base:Nat}{e:TypeId}{size n c:Nat}{A:Option Addr}{xs:List Value}(h:w.ownsRow base e size (.slice A n c) n xs):n≤c:=by
 rcases h.2 with ⟨e1,e2⟩ | ⟨g,cap,cur,e1,_,_,e2,_⟩
 ·omega
 ·injection e1 with a b c;omega
theorem qS{w w':World}(h:Ext w w'){p:Addr}(hp:w.heap.size≤p.block)(u:Value):Ext w (w'.setCell p u):=Below.setCell h hp u
theorem one_ints(zs:List Int):∀ u∈zs.map (Value.int .i64),u.oneCell'=true:=by
 intro u hu
 obtain⟨z,_,rfl⟩:=List.mem_map.1 hu
 rfl
structure WayM where
 dx:Int
 dy:Int
 most:Int
 take:Int
structure PieceM where
 letter:Int
 hand:Int
 promote:Int
 ways:List WayM
structure EndM where
 kind:Int
 piece:Int
 count:Int
 loses:Bool
structure RM where
 name:ByteArray
 width:Int
 height:Int
 pieces:List PieceM
 start:List Int
 falls:Bool
 keeps:Bool
 ends:List EndM
 blocked:Int
 quiet:Int
 rept:Int
structure PosM where
 cells:List Int
 hand0:List Int
 hand1:List Int
 turn:Int
 quiet:Int
def letterB(c:UInt8):Bool:=65≤c && c≤90
def digitB(c:UInt8):Bool:=48≤c && c≤57
def nameB(s:ByteArray):Bool:=decide (1≤s.size∧s.size≤8) && (List.range s.size).all fun i=>letterB (s.data.toList.getD i 0) || (decide (0<i) && digitB (s.data.toList.getD i 0))
def inB(n lo hi:Int):Bool:=decide (lo≤n) && decide (n≤hi)
def wayB(x:WayM):Bool:=inB x.dx (-7) 7 && inB x.dy (-7) 7 && !(decide (x.dx=0) && decide (x.dy=0)) && inB x.most 1 7 && inB x.take 0 2
def pieceE(ps:List PieceM)(i:Nat):Int :=
 match ps[i]? with
 | none=>0
 | some p =>
  if !inB p.letter 65 90 then 6
  else if (ps.take i).any (fun q=>decide (q.letter=p.letter)) then 7
  else if !(inB p.hand 0 64 && inB p.promote 0 ps.length) then 4
  else if 16<p.ways.length then 2
  else if p.ways.all wayB then 0 else 4
def firstE(f:Nat→Int):Nat→Nat→Int
 | _,0=>0
 | i,n+1=>if f i=0 then firstE f (i+1) n else f i
def piecesE(ps:List PieceM):Int:=if ps.length=0 then 8 else if 6<ps.length then 2 else firstE (pieceE ps) 0 ps.length
def endE(n:Nat)(es:List EndM)(i:Nat):Int :=
 match es[i]? with
 | none=>0
 | some x =>
  if x.kind=0 then (if inB x.count 1 64 && decide (x.piece=0) then 0 else 4)
  else if x.kind=1 then (if decide (x.count=0) && inB x.piece 0 (n-1) then 0 else 4)
  else if x.kind=2 then (if inB x.count 1 64 && inB x.piece 0 (n-1) then 0 else 4)
  else 1
def endsE(n:Nat)(es:List EndM):Int:=if 6<es.length then 2 else firstE (endE n es) 0 es.length
def lastB(R:RM):Bool:=inB R.blocked 0 2 && inB R.quiet 0 200 && (decide (R.rept=0) || inB R.rept 2 5)
def rulesE(R:RM):Int :=
 if !nameB R.name then 6
 else if !(inB R.width 1 8 && inB R.height 1 8) then 4
 else if piecesE R.pieces≠0 then piecesE R.pieces
 else if (R.start.length:Int)≠R.width * R.height then 3
 else if !(R.start.all fun c=>inB c 0 (2 * R.pieces.length)) then 4
 else if endsE R.pieces.length R.ends≠0 then endsE R.pieces.length R.ends
 else if lastB R then 0 else 4
def formB(R:RM)(P:PosM):Bool:=decide ((P.cells.length:Int)=R.width * R.height) && (decide (P.hand0.length=R.pieces.length) && decide (P.hand1.length=R.pieces.length))
def rangeB(n:Nat)(P:PosM):Bool:=(P.cells.all fun c=>inB c 0 (2 * (n:Int))) && (((P.hand0++P.hand1).all fun c=>inB c 0 1000) && ((decide (P.turn=0) || decide (P.turn=1)) && inB P.quiet 0 200))
def soundE(R:RM)(P:PosM):Int:=if formB R P then (if rangeB R.pieces.length P then 0 else 4) else 3
def checkE(R:RM)(P:PosM):Int:=if rulesE R=0 then soundE R P else rulesE R
theorem firstE_eq(f:Nat→Int):∀ n i k,(∀ j,i≤j→j<k→f j=0)→i≤k→k<i+n→f k≠0→firstE f i n=f k
 | 0,i,k,_,h1,h2,_=>by omega
 | n+1,i,k,hz,h1,h2,hk=>by
  unfold firstE
  by_cases e:i=k
  ·subst e;rw [if_neg hk]
  ·rw [if_pos (hz i (Nat.le_refl _) (by omega))]
   exact firstE_eq f n (i+1) k (fun j a b=>hz j (by omega) b) (by omega) (by omega) hk
theorem firstE_zero(f:Nat→Int):∀ n i,(firstE f i n=0↔∀ j,i≤j→j<i+n→f j=0)
 | 0,i=>by simp [firstE];intro j a b;omega
 | n+1,i=>by
  unfold firstE
  constructor
  ·intro h j a b
   by_cases e:f i=0
   ·rw [if_pos e] at h
    by_cases e2:j=i
    ·subst e2;exact e
    ·exact(firstE_zero f n (i+1)).1 h j (by omega) (by omega)
   ·rw [if_neg e] at h;exact absurd h e
  ·intro h
   rw [if_pos (h i (Nat.le_refl _) (by omega))]
   exact(firstE_zero f n (i+1)).2 (fun j a b=>h j (by omega) (by omega))
def WayM.vals(x:WayM):List Value:=[.int .i64 x.dx,.int .i64 x.dy,.int .i64 x.most,.int .i64 x.take]
def EndM.vals(x:EndM):List Value:=[.int .i64 x.kind,.int .i64 x.piece,.int .i64 x.count,.bool x.loses]
def WaysAt(w:World)(A:Option Addr)(ws:List WayM):Prop:=CellsAt w A (ws.flatMap WayM.vals)
def EndsAt(w:World)(A:Option Addr)(es:List EndM):Prop:=CellsAt w A (es.flatMap EndM.vals)
def PieceVals(w:World)(p:PieceM)(l:List Value):Prop :=
 ∃ A c,l=[.int .u8 p.letter,.int .i64 p.hand,.int .i64 p.promote,.slice A p.ways.length c]∧WaysAt w A p.ways
def PiecesAt(w:World)(A:Option Addr)(ps:List PieceM):Prop :=
 ∃ vss:List (List Value),CellsAt w A vss.flatten∧vss.length=ps.length∧∀ (i:Nat) (p:PieceM) (l:List Value),ps[i]? = some p→vss[i]? = some l→PieceVals w p l
def RA(w:World)(v:Value)(R:RM):Prop :=
 ∃ pA pc sA sc eA ec,v=.agg #[.string R.name,.int .i64 R.width,.int .i64 R.height,.slice pA R.pieces.length pc,.slice sA R.start.length sc,.bool R.falls,.bool R.keeps,.slice eA R.ends.length ec,.int .i64 R.blocked,.int .i64 R.quiet,.int .i64 R.rept] ∧
  PiecesAt w pA R.pieces∧IntsAt w sA R.start∧EndsAt w eA R.ends∧R.pieces.length≤pc∧R.start.length≤sc∧R.ends.length≤ec∧R.name.size≤9223372036854775807
def PA(w:World)(v:Value)(P:PosM):Prop :=
 ∃ cA cc aA ac bA bc,v=.agg #[.slice cA P.cells.length cc,.slice aA P.hand0.length ac,.slice bA P.hand1.length bc,.int .i64 P.turn,.int .i64 P.quiet] ∧
  IntsAt w cA P.cells∧IntsAt w aA P.hand0∧IntsAt w bA P.hand1∧P.cells.length≤cc∧P.hand0.length≤ac∧P.hand1.length≤bc
section
variable {w w':World}
theorem PieceVals.ext{p:PieceM}{l:List Value}(h:PieceVals w p l)(he:Ext w w'):PieceVals w' p l:=by
 obtain⟨A,c,e,h1⟩:=h
 exact⟨A,c,e,CellsAt.ext h1 he⟩
theorem PiecesAt.ext{A:Option Addr}{ps:List PieceM}(h:PiecesAt w A ps)(he:Ext w w'):PiecesAt w' A ps:=by
 obtain⟨vss,h1,h2,h3⟩:=h
 exact⟨vss,h1.ext he,h2,fun i p l a b=>(h3 i p l a b).ext he⟩
theorem RA.ext{v:Value}{R:RM}(h:RA w v R)(he:Ext w w'):RA w' v R:=by
 obtain⟨pA,pc,sA,sc,eA,ec,e,h1,h2,h3,h4⟩:=h
 exact⟨pA,pc,sA,sc,eA,ec,e,h1.ext he,h2.ext he,CellsAt.ext h3 he,h4⟩
theorem PA.ext{v:Value}{P:PosM}(h:PA w v P)(he:Ext w w'):PA w' v P:=by
 obtain⟨cA,cc,aA,ac,bA,bc,e,h1,h2,h3,h4⟩:=h
 exact⟨cA,cc,aA,ac,bA,bc,e,h1.ext he,h2.ext he,h3.ext he,h4⟩
theorem flat_get{α:Type}(f:α→List Value)(s:Nat)(hf:∀ x,(f x).length=s):∀ (l:List α) (k j:Nat) (x:α),l[k]? = some x→j<s→(l.flatMap f)[k * s+j]? = (f x)[j]?
 | [],k,j,x,h,_=>by simp at h
 | a :: l,0,j,x,h,hj=>by
  simp at h
  subst h
  rw [List.flatMap_cons,Nat.zero_mul,Nat.zero_add,List.getElem?_append_left (by rw [hf];exact hj)]
 | a :: l,k+1,j,x,h,hj=>by
  rw [List.flatMap_cons,List.getElem?_append_right (by rw [hf,Nat.add_mul];omega),hf]
  have e:(k+1) * s+j-s=k * s+j:=by rw [Nat.add_mul];omega
  rw [e]
  exact flat_get f s hf l k j x (by simpa using h) hj
theorem flatten_get(s:Nat)(l:List (List Value))(hl:∀ x∈l,x.length=s)(k j:Nat)(x:List Value)(h:l[k]? = some x)(hj:j<s):l.flatten[k * s+j]? = x[j]?:=by
 induction l generalizing k with
 | nil=>simp at h
 | cons a l ih =>
  cases k with
  | zero =>
   simp at h
   subst h
   rw [List.flatten_cons,Nat.zero_mul,Nat.zero_add,List.getElem?_append_left (by rw [hl _ (by simp)];exact hj)]
  | succ k =>
   have ha:=hl a (by simp)
   rw [List.flatten_cons,List.getElem?_append_right (by rw [ha,Nat.add_mul];omega),ha]
   have e:(k+1) * s+j-s=k * s+j:=by rw [Nat.add_mul];omega
   rw [e]
   exact ih (fun x hx=>hl x (by simp [hx])) k (by simpa using h)
theorem WaysAt.get{A:Option Addr}{ws:List WayM}(h:WaysAt w A ws){k:Nat}{x:WayM}(hk:ws[k]? = some x) :
  ∃ b o,A=some ⟨b,o,none⟩∧w.cell? ⟨b,o+k * 4,none⟩=some (.int .i64 x.dx)∧w.cell? ⟨b,o+k * 4+1,none⟩=some (.int .i64 x.dy)∧w.cell? ⟨b,o+k * 4+2,none⟩=some (.int .i64 x.most)∧w.cell? ⟨b,o+k * 4+3,none⟩=some (.int .i64 x.take):=by
 have g:=fun j hj=>flat_get WayM.vals 4 (fun _=>rfl) ws k j x hk hj
 obtain⟨b,o,rfl,h0⟩:=h (k * 4+0) _ (g 0 (by omega))
 obtain⟨_,_,e1,h1⟩:=h (k * 4+1) _ (g 1 (by omega))
 obtain⟨_,_,e2,h2⟩:=h (k * 4+2) _ (g 2 (by omega))
 obtain⟨_,_,e3,h3⟩:=h (k * 4+3) _ (g 3 (by omega))
 simp only [Option.some.injEq,Addr.mk.injEq,and_true] at e1 e2 e3
 obtain⟨rfl,rfl⟩:=e1
 obtain⟨rfl,rfl⟩:=e2
 obtain⟨rfl,rfl⟩:=e3
 exact⟨b,o,rfl,h0,h1,h2,h3⟩
theorem PiecesAt.take{A:Option Addr}{ps:List PieceM}(h:PiecesAt w A ps)(k:Nat):PiecesAt w A (ps.take k):=by
 obtain⟨vss,hc,hl,hv⟩:=h
 refine⟨vss.take k,fun i v hi=>hc i v ?_,by simp [hl],fun i p l hp hl'=>?_⟩
 ·have e:vss.flatten=(vss.take k).flatten++(vss.drop k).flatten:=by rw [← List.flatten_append,List.take_append_drop]
  rw [e,List.getElem?_append_left (List.getElem?_eq_some_iff.1 hi).1]
  exact hi
 ·rw [List.getElem?_take] at hp hl'
  split at hp
  ·rename_i hik
   rw [if_pos hik] at hl'
   exact hv i p l hp hl'
  ·cases hp
theorem EndsAt.get{A:Option Addr}{es:List EndM}(h:EndsAt w A es){k:Nat}{x:EndM}(hk:es[k]? = some x) :
  ∃ b o,A=some ⟨b,o,none⟩∧w.cell? ⟨b,o+k * 4,none⟩=some (.int .i64 x.kind)∧w.cell? ⟨b,o+k * 4+1,none⟩=some (.int .i64 x.piece)∧w.cell? ⟨b,o+k * 4+2,none⟩=some (.int .i64 x.count)∧w.cell? ⟨b,o+k * 4+3,none⟩=some (.bool x.loses):=by
 have g:=fun j hj=>flat_get EndM.vals 4 (fun _=>rfl) es k j x hk hj
 obtain⟨b,o,rfl,h0⟩:=h (k * 4+0) _ (g 0 (by omega))
 obtain⟨_,_,e1,h1⟩:=h (k * 4+1) _ (g 1 (by omega))
 obtain⟨_,_,e2,h2⟩:=h (k * 4+2) _ (g 2 (by omega))
 obtain⟨_,_,e3,h3⟩:=h (k * 4+3) _ (g 3 (by omega))
 simp only [Option.some.injEq,Addr.mk.injEq,and_true] at e1 e2 e3
 obtain⟨rfl,rfl⟩:=e1
 obtain⟨rfl,rfl⟩:=e2
 obtain⟨rfl,rfl⟩:=e3
 exact⟨b,o,rfl,h0,h1,h2,h3⟩
theorem PiecesAt.get{A:Option Addr}{ps:List PieceM}(h:PiecesAt w A ps){k:Nat}{p:PieceM}(hk:ps[k]? = some p) :
  ∃ b o wA wc,A=some ⟨b,o,none⟩∧w.cell? ⟨b,o+k * 4,none⟩=some (.int .u8 p.letter)∧w.cell? ⟨b,o+k * 4+1,none⟩=some (.int .i64 p.hand)∧w.cell? ⟨b,o+k * 4+2,none⟩=some (.int .i64 p.promote)∧w.cell? ⟨b,o+k * 4+3,none⟩=some (.slice wA p.ways.length wc)∧WaysAt w wA p.ways:=by
 obtain⟨vss,hc,hl,hv⟩:=h
 have hkl:k<vss.length:=by rw [hl];exact(List.getElem?_eq_some_iff.1 hk).1
 obtain⟨wA,wc,el,hw⟩:=hv k p vss[k] hk (List.getElem?_eq_getElem hkl)
 have hall:∀ x∈vss,x.length=4:=by
  intro x hx
  obtain⟨i,hi,rfl⟩:=List.mem_iff_getElem.1 hx
  obtain⟨_,_,e,_⟩:=hv i (ps[i]'(by omega)) vss[i] (List.getElem?_eq_getElem (by omega)) (List.getElem?_eq_getElem hi)
  rw [e];rfl
 have g:=fun j hj=>flatten_get 4 vss hall k j vss[k] (List.getElem?_eq_getElem hkl) hj
 rw [el] at g
 obtain⟨b,o,rfl,h0⟩:=hc (k * 4+0) _ (g 0 (by omega))
 obtain⟨_,_,e1,h1⟩:=hc (k * 4+1) _ (g 1 (by omega))
 obtain⟨_,_,e2,h2⟩:=hc (k * 4+2) _ (g 2 (by omega))
 obtain⟨_,_,e3,h3⟩:=hc (k * 4+3) _ (g 3 (by omega))
 simp only [Option.some.injEq,Addr.mk.injEq,and_true] at e1 e2 e3
 obtain⟨rfl,rfl⟩:=e1
 obtain⟨rfl,rfl⟩:=e2
 obtain⟨rfl,rfl⟩:=e3
 exact⟨b,o,wA,wc,rfl,h0,h1,h2,h3,hw⟩
end
theorem blk_set11{w:World}{g:Nat}{t:TypeId}{o0 o1 o2 o3 o4 o5 o6 o7 o8 o9 o10 u0 u1 u2 u3 u4 u5 u6 u7 u8 u9 u10:Value}(h:Blk w g t #[o0,o1,o2,o3,o4,o5,o6,o7,o8,o9,o10]):Blk (((((((((((w.setCell ⟨g,0,none⟩ u0).setCell ⟨g,1,none⟩ u1).setCell ⟨g,2,none⟩ u2).setCell ⟨g,3,none⟩ u3).setCell ⟨g,4,none⟩ u4).setCell ⟨g,5,none⟩ u5).setCell ⟨g,6,none⟩ u6).setCell ⟨g,7,none⟩ u7).setCell ⟨g,8,none⟩ u8).setCell ⟨g,9,none⟩ u9).setCell ⟨g,10,none⟩ u10) g t #[u0,u1,u2,u3,u4,u5,u6,u7,u8,u9,u10]:=by
 have h0:Blk (w.setCell ⟨g,0,none⟩ u0) g t #[u0,o1,o2,o3,o4,o5,o6,o7,o8,o9,o10]:=by have:=h.set_ 0 u0;simpa using this
 have h1:Blk ((w.setCell ⟨g,0,none⟩ u0).setCell ⟨g,1,none⟩ u1) g t #[u0,u1,o2,o3,o4,o5,o6,o7,o8,o9,o10]:=by have:=h0.set_ 1 u1;simpa using this
 have h2:Blk (((w.setCell ⟨g,0,none⟩ u0).setCell ⟨g,1,none⟩ u1).setCell ⟨g,2,none⟩ u2) g t #[u0,u1,u2,o3,o4,o5,o6,o7,o8,o9,o10]:=by have:=h1.set_ 2 u2;simpa using this
 have h3:Blk ((((w.setCell ⟨g,0,none⟩ u0).setCell ⟨g,1,none⟩ u1).setCell ⟨g,2,none⟩ u2).setCell ⟨g,3,none⟩ u3) g t #[u0,u1,u2,u3,o4,o5,o6,o7,o8,o9,o10]:=by have:=h2.set_ 3 u3;simpa using this
 have h4:Blk (((((w.setCell ⟨g,0,none⟩ u0).setCell ⟨g,1,none⟩ u1).setCell ⟨g,2,none⟩ u2).setCell ⟨g,3,none⟩ u3).setCell ⟨g,4,none⟩ u4) g t #[u0,u1,u2,u3,u4,o5,o6,o7,o8,o9,o10]:=by have:=h3.set_ 4 u4;simpa using this
 have h5:Blk ((((((w.setCell ⟨g,0,none⟩ u0).setCell ⟨g,1,none⟩ u1).setCell ⟨g,2,none⟩ u2).setCell ⟨g,3,none⟩ u3).setCell ⟨g,4,none⟩ u4).setCell ⟨g,5,none⟩ u5) g t #[u0,u1,u2,u3,u4,u5,o6,o7,o8,o9,o10]:=by have:=h4.set_ 5 u5;simpa using this
 have h6:Blk (((((((w.setCell ⟨g,0,none⟩ u0).setCell ⟨g,1,none⟩ u1).setCell ⟨g,2,none⟩ u2).setCell ⟨g,3,none⟩ u3).setCell ⟨g,4,none⟩ u4).setCell ⟨g,5,none⟩ u5).setCell ⟨g,6,none⟩ u6) g t #[u0,u1,u2,u3,u4,u5,u6,o7,o8,o9,o10]:=by have:=h5.set_ 6 u6;simpa using this
 have h7:Blk ((((((((w.setCell ⟨g,0,none⟩ u0).setCell ⟨g,1,none⟩ u1).setCell ⟨g,2,none⟩ u2).setCell ⟨g,3,none⟩ u3).setCell ⟨g,4,none⟩ u4).setCell ⟨g,5,none⟩ u5).setCell ⟨g,6,none⟩ u6).setCell ⟨g,7,none⟩ u7) g t #[u0,u1,u2,u3,u4,u5,u6,u7,o8,o9,o10]:=by have:=h6.set_ 7 u7;simpa using this
 have h8:Blk (((((((((w.setCell ⟨g,0,none⟩ u0).setCell ⟨g,1,none⟩ u1).setCell ⟨g,2,none⟩ u2).setCell ⟨g,3,none⟩ u3).setCell ⟨g,4,none⟩ u4).setCell ⟨g,5,none⟩ u5).setCell ⟨g,6,none⟩ u6).setCell ⟨g,7,none⟩ u7).setCell ⟨g,8,none⟩ u8) g t #[u0,u1,u2,u3,u4,u5,u6,u7,u8,o9,o10]:=by have:=h7.set_ 8 u8;simpa using this
 have h9:Blk ((((((((((w.setCell ⟨g,0,none⟩ u0).setCell ⟨g,1,none⟩ u1).setCell ⟨g,2,none⟩ u2).setCell ⟨g,3,none⟩ u3).setCell ⟨g,4,none⟩ u4).setCell ⟨g,5,none⟩ u5).setCell ⟨g,6,none⟩ u6).setCell ⟨g,7,none⟩ u7).setCell ⟨g,8,none⟩ u8).setCell ⟨g,9,none⟩ u9) g t #[u0,u1,u2,u3,u4,u5,u6,u7,u8,u9,o10]:=by have:=h8.set_ 9 u9;simpa using this
 have h10:Blk (((((((((((w.setCell ⟨g,0,none⟩ u0).setCell ⟨g,1,none⟩ u1).setCell ⟨g,2,none⟩ u2).setCell ⟨g,3,none⟩ u3).setCell ⟨g,4,none⟩ u4).setCell ⟨g,5,none⟩ u5).setCell ⟨g,6,none⟩ u6).setCell ⟨g,7,none⟩ u7).setCell ⟨g,8,none⟩ u8).setCell ⟨g,9,none⟩ u9).setCell ⟨g,10,none⟩ u10) g t #[u0,u1,u2,u3,u4,u5,u6,u7,u8,u9,u10]:=by have:=h9.set_ 10 u10;simpa using this
 exact h10
theorem blk_set5{w:World}{g:Nat}{t:TypeId}{o0 o1 o2 o3 o4 u0 u1 u2 u3 u4:Value}(h:Blk w g t #[o0,o1,o2,o3,o4]):Blk (((((w.setCell ⟨g,0,none⟩ u0).setCell ⟨g,1,none⟩ u1).setCell ⟨g,2,none⟩ u2).setCell ⟨g,3,none⟩ u3).setCell ⟨g,4,none⟩ u4) g t #[u0,u1,u2,u3,u4]:=by
 have h0:Blk (w.setCell ⟨g,0,none⟩ u0) g t #[u0,o1,o2,o3,o4]:=by have:=h.set_ 0 u0;simpa using this
 have h1:Blk ((w.setCell ⟨g,0,none⟩ u0).setCell ⟨g,1,none⟩ u1) g t #[u0,u1,o2,o3,o4]:=by have:=h0.set_ 1 u1;simpa using this
 have h2:Blk (((w.setCell ⟨g,0,none⟩ u0).setCell ⟨g,1,none⟩ u1).setCell ⟨g,2,none⟩ u2) g t #[u0,u1,u2,o3,o4]:=by have:=h1.set_ 2 u2;simpa using this
 have h3:Blk ((((w.setCell ⟨g,0,none⟩ u0).setCell ⟨g,1,none⟩ u1).setCell ⟨g,2,none⟩ u2).setCell ⟨g,3,none⟩ u3) g t #[u0,u1,u2,u3,o4]:=by have:=h2.set_ 3 u3;simpa using this
 have h4:Blk (((((w.setCell ⟨g,0,none⟩ u0).setCell ⟨g,1,none⟩ u1).setCell ⟨g,2,none⟩ u2).setCell ⟨g,3,none⟩ u3).setCell ⟨g,4,none⟩ u4) g t #[u0,u1,u2,u3,u4]:=by have:=h3.set_ 4 u4;simpa using this
 exact h4
end Go.Proofs.YtdoibgmmijhlfaaGreat
namespace Go.Proofs.YtdoibgmmijhlfaaGreat
structure MM where
 src:Int
 dst:Int
 piece:Int
deriving DecidableEq
def MM.vals(m:MM):List Value:=[.int .i64 m.src,.int .i64 m.dst,.int .i64 m.piece]
def fillB(cs:List Int)(w:Nat):Nat→Nat→Bool
 | 0,_=>true
 | n+1,s=>if s<w then true else if cs.getD (s-w) 0=0 then false else fillB cs w n (s-w)
def PosM.hand(P:PosM):List Int:=if P.turn=0 then P.hand0 else P.hand1
def putB(R:RM)(P:PosM)(s:Nat):Bool :=
 decide (P.cells.getD s 0=0) && (!R.falls || decide (s<R.width.toNat) || fillB P.cells R.width.toNat s s)
def putsAt(hand:List Int)(s:Nat)(n:Nat):List MM:=(List.range n).flatMap fun k=>if 0<hand.getD k 0 then [⟨-1,s,k⟩] else []
def putsTo(R:RM)(P:PosM)(n:Nat):List MM:=(List.range n).flatMap fun s=>if putB R P s then putsAt P.hand s P.hand.length else []
def putsM(R:RM)(P:PosM):List MM:=putsTo R P P.cells.length
def endsB(turn take c:Int):Bool :=
 (decide (take=0) && decide (c=0)) || (decide (take=1) && (decide (c=0) || (decide (0<c) && decide ((c-1) % 2≠turn)))) || (decide (take=2) && (decide (0<c) && decide ((c-1) % 2≠turn)))
def wayFrom(W H turn take dx dy:Int)(cs:List Int):Nat→Int→Int→List Int
 | 0,_,_=>[]
 | n+1,x,y =>
  if x+dx<0∨W≤x+dx∨y+dy<0∨H≤y+dy then []
  else (if endsB turn take (cs.getD ((y+dy) * W+(x+dx)).toNat 0) then [(y+dy) * W+(x+dx)] else []) ++
   (if cs.getD ((y+dy) * W+(x+dx)).toNat 0=0 then wayFrom W H turn take dx dy cs n (x+dx) (y+dy) else [])
def wayM(R:RM)(P:PosM)(s:Nat)(w:WayM):List Int :=
 wayFrom R.width R.height P.turn w.take w.dx (if P.turn=1 then -w.dy else w.dy) P.cells w.most.toNat ((s:Int) % R.width) ((s:Int) / R.width)
def lastM(R:RM)(player:Int)(s:Int):Bool:=if player=0 then decide (s / R.width=R.height-1) else decide (s / R.width=0)
def stepTo(R:RM)(P:PosM)(s:Nat)(k:Nat)(pr:Int)(t:Int):MM:=⟨s,t,if 0<pr∧lastM R P.turn t=true then pr-1 else k⟩
def stepsBy(R:RM)(P:PosM)(s k:Nat)(pr:Int)(ws:List WayM):List MM:=ws.flatMap fun w=>(wayM R P s w).map (stepTo R P s k pr)
def ownB(P:PosM)(s:Nat):Bool:=decide (P.cells.getD s 0≠0) && decide ((P.cells.getD s 0-1) % 2=P.turn)
def stepsAt(R:RM)(P:PosM)(s:Nat):List MM :=
 if ownB P s then match R.pieces[((P.cells.getD s 0-1) / 2).toNat]? with
  | none=>[]
  | some p=>stepsBy R P s ((P.cells.getD s 0-1) / 2).toNat p.promote p.ways
 else []
def stepsToM(R:RM)(P:PosM)(n:Nat):List MM:=(List.range n).flatMap (stepsAt R P)
def rawM(R:RM)(P:PosM):List MM:=putsM R P++stepsToM R P P.cells.length
def cmpI(a b:Int):Int:=if a<b then -1 else if b<a then 1 else 0
def cmpM(a b:MM):Int:=if cmpI a.src b.src≠0 then cmpI a.src b.src else if cmpI a.dst b.dst≠0 then cmpI a.dst b.dst else cmpI a.piece b.piece
def insM(m:MM):List MM→List MM
 | []=>[m]
 | x :: l=>if cmpM m x<0 then m :: x :: l else if m=x then x :: l else x :: insM m l
def listOf(l:List MM):List MM:=l.foldr insM []
def listM(R:RM)(P:PosM):List MM:=listOf (rawM R P)
def ltM(a b:MM):Prop:=cmpM a b<0
theorem cmpI_lt{a b:Int}:cmpI a b<0↔a<b:=by unfold cmpI;split <;> (try split) <;> omega
theorem cmpI_eq{a b:Int}:cmpI a b=0↔a=b:=by unfold cmpI;split <;> (try split) <;> omega
theorem cmpM_lt{a b:MM}:cmpM a b<0↔a.src<b.src∨(a.src=b.src∧(a.dst<b.dst∨(a.dst=b.dst∧a.piece<b.piece))):=by
 unfold cmpM
 by_cases h1:cmpI a.src b.src=0
 ·rw [if_neg (fun k=>k h1)]
  rw [cmpI_eq] at h1
  by_cases h2:cmpI a.dst b.dst=0
  ·rw [if_neg (fun k=>k h2),cmpI_lt]
   rw [cmpI_eq] at h2
   omega
  ·rw [if_pos h2,cmpI_lt]
   rw [cmpI_eq] at h2
   omega
 ·rw [if_pos h1,cmpI_lt]
  rw [cmpI_eq] at h1
  omega
theorem ltM_iff{a b:MM}:ltM a b↔a.src<b.src∨(a.src=b.src∧(a.dst<b.dst∨(a.dst=b.dst∧a.piece<b.piece))):=cmpM_lt
theorem moveM_ext{a b:MM}(h1:a.src=b.src)(h2:a.dst=b.dst)(h3:a.piece=b.piece):a=b:=by
 cases a;cases b;simp_all
theorem ltM_trans{a b c:MM}(h:ltM a b)(k:ltM b c):ltM a c:=by rw [ltM_iff] at *;omega
theorem ltM_irrefl(a:MM):¬ ltM a a:=by rw [ltM_iff];omega
theorem ltM_total(a b:MM):ltM a b∨a=b∨ltM b a:=by
 rw [ltM_iff,ltM_iff]
 by_cases h:a=b
 ·exact .inr (.inl h)
 ·have:¬ (a.src=b.src∧a.dst=b.dst∧a.piece=b.piece):=fun ⟨x,y,z⟩=>h (moveM_ext x y z)
  omega
theorem mem_insM{m x:MM}{l:List MM}:x∈insM m l↔x=m∨x∈l:=by
 induction l with
 | nil=>simp [insM]
 | cons y l ih =>
  unfold insM
  split
  ·simp
  ·split
   ·rename_i h;subst h;simp
   ·simp only [List.mem_cons,ih]
    constructor
    ·rintro(h | h | h) <;> simp [h]
    ·rintro(h | h | h) <;> simp [h]
theorem mem_listOf{x:MM}{l:List MM}:x∈listOf l↔x∈l:=by
 induction l with
 | nil=>simp [listOf]
 | cons y l ih =>
  show x∈insM y (listOf l)↔_
  rw [mem_insM,ih,List.mem_cons]
def Strict(l:List MM):Prop:=l.Pairwise ltM
theorem strict_insM{m:MM}{l:List MM}(h:Strict l):Strict (insM m l):=by
 induction l with
 | nil=>simp [insM,Strict]
 | cons y l ih =>
  have h':=List.pairwise_cons.1 h
  unfold insM
  split
  ·rename_i hlt
   refine List.pairwise_cons.2 ⟨fun z hz=>?_,h⟩
   rcases List.mem_cons.1 hz with rfl | hz
   ·exact hlt
   ·exact ltM_trans hlt (h'.1 z hz)
  ·split
   ·exact h
   ·rename_i h1 h2
    refine List.pairwise_cons.2 ⟨fun z hz=>?_,ih h'.2⟩
    rcases mem_insM.1 hz with rfl | hz
    ·rcases ltM_total z y with h3 | h3 | h3
     ·exact absurd h3 h1
     ·exact absurd h3 h2
     ·exact h3
    ·exact h'.1 z hz
theorem strict_listOf(l:List MM):Strict (listOf l):=by
 induction l with
 | nil=>exact List.Pairwise.nil
 | cons y l ih=>exact strict_insM ih
theorem strict_ext{l l':List MM}(h:Strict l)(h':Strict l')(hm:∀ x,x∈l↔x∈l'):l=l':=by
 induction l generalizing l' with
 | nil =>
  cases l' with
  | nil=>rfl
  | cons y l'=>exact absurd ((hm y).2 (by simp)) (by simp)
 | cons x l ih =>
  cases l' with
  | nil=>exact absurd ((hm x).1 (by simp)) (by simp)
  | cons y l' =>
   have a:=List.pairwise_cons.1 h
   have b:=List.pairwise_cons.1 h'
   have hxy:x=y:=by
    rcases List.mem_cons.1 ((hm x).1 (by simp)) with e | e
    ·exact e
    ·rcases List.mem_cons.1 ((hm y).2 (by simp)) with e2 | e2
     ·exact e2.symm
     ·exact absurd (ltM_trans (b.1 x e) (a.1 y e2)) (ltM_irrefl y)
   subst hxy
   congr 1
   refine ih a.2 b.2 (fun z=>?_)
   constructor
   ·intro hz
    rcases List.mem_cons.1 ((hm z).1 (by simp [hz])) with e | e
    ·exact absurd (e ▸ a.1 z hz) (ltM_irrefl _)
    ·exact e
   ·intro hz
    rcases List.mem_cons.1 ((hm z).2 (by simp [hz])) with e | e
    ·exact absurd (e ▸ b.1 z hz) (ltM_irrefl _)
    ·exact e
def dedup:List MM→List MM
 | []=>[]
 | [x]=>[x]
 | x :: y :: l=>if x=y then dedup (y :: l) else x :: dedup (y :: l)
theorem mem_dedup{x:MM}:∀ {l:List MM},x∈dedup l↔x∈l
 | []=>by simp [dedup]
 | [y]=>by simp [dedup]
 | y :: z :: l=>by
  unfold dedup
  have ih:=mem_dedup (x:=x) (l:=z :: l)
  split
  ·rename_i h
   subst h
   rw [ih]
   simp
  ·simp only [List.mem_cons,ih]
theorem strict_dedup:∀ {l:List MM},l.Pairwise (fun a b=>¬ ltM b a)→Strict (dedup l)
 | [],_=>List.Pairwise.nil
 | [y],_=>by simp [dedup,Strict]
 | y :: z :: l,h=>by
  have a:=List.pairwise_cons.1 h
  have ih:=strict_dedup a.2
  unfold dedup
  split
  ·exact ih
  ·rename_i hne
   refine List.pairwise_cons.2 ⟨fun u hu=>?_,ih⟩
   have hu':=mem_dedup.1 hu
   rcases ltM_total y u with k | k | k
   ·exact k
   ·subst k
    rcases List.mem_cons.1 hu' with e | e
    ·exact absurd e hne
    ·have b:=List.pairwise_cons.1 a.2
     rcases ltM_total y z with k1 | k1 | k1
     ·exact absurd k1 (b.1 y e)
     ·exact absurd k1 hne
     ·exact absurd k1 (a.1 z (by simp))
   ·exact absurd k (a.1 u hu')
theorem listOf_eq{l l':List MM}(h:∀ x,x∈l'↔x∈l)(hs:l'.Pairwise (fun a b=>¬ ltM b a)):dedup l'=listOf l :=
 strict_ext (strict_dedup hs) (strict_listOf l) (fun x=>by rw [mem_dedup,mem_listOf,h])
def setHand(h:List Int)(k:Nat)(f:Int→Int):List Int:=h.set k (f (h.getD k 0))
def minI(a b:Int):Int:=if a≤b then a else b
def makeM(R:RM)(P:PosM)(m:MM):PosM :=
 let took:=P.cells.getD m.dst.toNat 0
 let c1:=if 0≤m.src then P.cells.set m.src.toNat 0 else P.cells
 let h1:=if 0≤m.src then P.hand else setHand P.hand m.piece.toNat (· - 1)
 let c2:=c1.set m.dst.toNat (2 * m.piece+P.turn+1)
 let h2:=if 0<took∧R.keeps=true then setHand h1 ((took-1) / 2).toNat (fun x=>minI (x+1) 1000) else h1
 let q:=if 0<took∨m.src<0 then 0 else minI (P.quiet+1) 200
 { cells:=c2,hand0:=if P.turn=0 then h2 else P.hand0,hand1:=if P.turn=0 then P.hand1 else h2,turn:=1-P.turn,quiet:=q }
end Go.Proofs.YtdoibgmmijhlfaaGreat
namespace Go.Proofs.YtdoibgmmijhlfaaGreat
open Go.RowKit
theorem blks1(w:World)(c1:Array Value)(t1:TypeId):Ext w (w.alloc (.cells c1 t1))∧Blk (w.alloc (.cells c1 t1)) w.heap.size t1 c1:=⟨qA (Below.refl _ _) _,Blk.new _ _ _⟩
theorem blks2(w:World)(c1:Array Value)(t1:TypeId)(c2:Array Value)(t2:TypeId) :
  Ext w ((w.alloc (.cells c1 t1)).alloc (.cells c2 t2))∧Blk ((w.alloc (.cells c1 t1)).alloc (.cells c2 t2)) w.heap.size t1 c1∧Blk ((w.alloc (.cells c1 t1)).alloc (.cells c2 t2)) (w.heap.size+1) t2 c2:=by
 have h:=Blk.new (w.alloc (.cells c1 t1)) t2 c2
 rw [show (w.alloc (.cells c1 t1)).heap.size=w.heap.size+1 from by simp] at h
 exact⟨qA (qA (Below.refl _ _) _) _,(Blk.new w t1 c1).alloc _,h⟩
theorem blks3(w:World)(c1:Array Value)(t1:TypeId)(c2:Array Value)(t2:TypeId)(c3:Array Value)(t3:TypeId) :
  Ext w (((w.alloc (.cells c1 t1)).alloc (.cells c2 t2)).alloc (.cells c3 t3))∧Blk (((w.alloc (.cells c1 t1)).alloc (.cells c2 t2)).alloc (.cells c3 t3)) w.heap.size t1 c1 ∧
   Blk (((w.alloc (.cells c1 t1)).alloc (.cells c2 t2)).alloc (.cells c3 t3)) (w.heap.size+1) t2 c2∧Blk (((w.alloc (.cells c1 t1)).alloc (.cells c2 t2)).alloc (.cells c3 t3)) (w.heap.size+1+1) t3 c3:=by
 obtain⟨h1,h2,h3⟩:=blks2 w c1 t1 c2 t2
 have h:=Blk.new ((w.alloc (.cells c1 t1)).alloc (.cells c2 t2)) t3 c3
 rw [show ((w.alloc (.cells c1 t1)).alloc (.cells c2 t2)).heap.size=w.heap.size+1+1 from by simp] at h
 exact⟨qA h1 _,h2.alloc _,h3.alloc _,h⟩
end Go.Proofs.YtdoibgmmijhlfaaGreat
namespace Go.Proofs.YtdoibgmmijhlfaaGreat
open Go.ChangeShapes Go.WideShapes Go.ChangeAt Go.RowKit
set_option linter.unusedVariables false
theorem qW(n lo hi:Int)(w:World) :
  Calls Crz.prog 83 #[.int .i64 n,.int .i64 lo,.int .i64 hi] w fun e w'=>e=.returned (.bool (inB n lo hi))∧w=w':=by
 unfold inB
 by_cases h1:lo≤n
 ·by_cases h2:n≤hi
  ·go_enter Crz.func83,Tryz.ntmps83
   go_wp2
   go_ret
   exact⟨by simp [h1,h2],rfl⟩
  ·go_enter Crz.func83,Tryz.ntmps83
   go_wp2
   go_ret
   exact⟨by simp;omega,rfl⟩
 ·go_enter Crz.func83,Tryz.ntmps83
  go_wp2
  go_ret
  exact⟨by simp;omega,rfl⟩
theorem pieces1_any(l l0 h0 p0:Int)(hd pr:Int)(v:Value)(a:Addr)(w:World)(hc:w.cell? a=some (.int .u8 l))(ha:a.spot=none) :
  Calls Crz.prog 121 #[.agg #[.int .u8 l0,.int .i64 h0,.int .i64 p0,v],.pointer (some a)] w fun e w'=>e=.returned (.bool (l0 == l))∧Ext w w':=by
 obtain⟨b,o,s⟩:=a
 obtain rfl:s=none:=ha
 have hlt:=lt_of_cell hc
 go_enter Crz.func121,Tryz.ntmps121
 go_wp2
 go_ret
 exact⟨rfl,qA (Below.refl _ _) _⟩
def charB(s:ByteArray)(i:Nat):Bool:=letterB (s.data.toList.getD i 0) || (decide (0<i) && digitB (s.data.toList.getD i 0))
theorem byte_at(s:ByteArray)(k:Nat)(h:k<s.size):s.data.toList.getD k 0=s[k]:=by
 have h':k<s.data.toList.length:=by simpa using h
 rw [List.getD_eq_getElem?_getD,List.getElem?_eq_getElem h']
 rfl
theorem charB_iff(s:ByteArray)(k:Nat)(h:k<s.size):charB s k=true↔((65≤(s[k].toNat:Int)∧(s[k].toNat:Int)≤90)∨(0<k∧48≤(s[k].toNat:Int)∧(s[k].toNat:Int)≤57)):=by
 unfold charB letterB digitB
 rw [byte_at s k h]
 simp only [Bool.or_eq_true,Bool.and_eq_true,decide_eq_true_eq,UInt8.le_iff_toNat_le]
 simp
 omega
theorem nameB_iff(s:ByteArray):nameB s=true↔(1≤s.size∧s.size≤8∧∀ k,k<s.size→charB s k=true):=by
 unfold nameB
 simp only [Bool.and_eq_true,decide_eq_true_eq,List.all_eq_true,List.mem_range]
 constructor
 ·rintro⟨⟨h1,h2⟩,h3⟩;exact⟨h1,h2,fun k hk=>h3 k hk⟩
 ·rintro⟨h1,h2,h3⟩;exact⟨⟨h1,h2⟩,fun k hk=>h3 k hk⟩
theorem Name_any(s:ByteArray)(w:World)(hs:s.size≤9223372036854775807) :
  Calls Crz.prog 82 #[.string s] w fun e w'=>e=.returned (.bool (nameB s))∧w=w':=by
 have HS:Hid (∀ k,k<s.size→charB s k=false→nameB s=false):=hide (fun k hk hc=>by
  cases h:nameB s
  ·rfl
  ·have:=(nameB_iff s).1 h
   rw [this.2.2 k hk] at hc
   cases hc)
 have HE:Hid ((∀ k,k<s.size→charB s k=true)→nameB s=decide (1≤s.size∧s.size≤8)):=hide (fun h=>by
  by_cases h1:1≤s.size∧s.size≤8
  ·rw [decide_eq_true h1]
   exact(nameB_iff s).2 ⟨h1.1,h1.2,h⟩
  ·rw [decide_eq_false h1]
   cases h2:nameB s
   ·rfl
   ·have:=(nameB_iff s).1 h2
    exact absurd ⟨this.1,this.2.1⟩ h1)
 generalize nameB s=N at *
 go_enter Crz.func82,Tryz.ntmps82
 go_wp2
 go_loop [3,4,7] (fun _ _ i=>∃ k:Nat,k≤s.size∧i=.int .i64 k∧Hid (∀ j,j<k→charB s j=true)) (fun _ _ i=>s.size-(intOf i).toNat)
 case atStart=>exact⟨0,Nat.zero_le _,rfl,hide (fun j hj=>by omega)⟩
 case round =>
  obtain⟨k,hk,rfl,hall⟩:=hrel
  by_cases hlt:k<s.size
  ·have hci:=charB_iff s k hlt
   cases hc:charB s k
   ·have HF:=hide (HS.out k hlt hc)
    have hbad:((s[k].toNat:Int)<65∧k=0)∨(65≤(s[k].toNat:Int)∧90<(s[k].toNat:Int)∧k=0)∨((s[k].toNat:Int)<48∧0<k)∨(57<(s[k].toNat:Int)∧(s[k].toNat:Int)<65∧0<k)∨(65≤(s[k].toNat:Int)∧90<(s[k].toNat:Int)∧0<k):=by
     rw [hc] at hci
     simp only [Bool.false_eq_true,false_iff] at hci
     omega
    clear hci hc HS HE hall
    rcases hbad with ⟨h1,h2⟩ | ⟨h1,h2,h3⟩ | ⟨h1,h2⟩ | ⟨h1,h2,h3⟩ | ⟨h1,h2,h3⟩
    ·have e1:decide (65≤(s[k].toNat:Int))=false:=by simp;omega
     have e5:((k:Int) == 0)=true:=by simp;omega
     clear h1 h2
     go_wp2
     go_ret
     exact⟨by rw [HF.out];rfl,rfl⟩
    ·have e1:decide (65≤(s[k].toNat:Int))=true:=by simp;omega
     have e2:decide ((s[k].toNat:Int)≤90)=false:=by simp;omega
     have e5:((k:Int) == 0)=true:=by simp;omega
     clear h1 h2 h3
     go_wp2
     go_ret
     exact⟨by rw [HF.out];rfl,rfl⟩
    ·have e1:decide (65≤(s[k].toNat:Int))=false:=by simp;omega
     have e3:decide ((s[k].toNat:Int)<48)=true:=by simp;omega
     have e5:((k:Int) == 0)=false:=by simp;omega
     clear h1 h2
     go_wp2
     go_ret
     exact⟨by rw [HF.out];rfl,rfl⟩
    ·have e1:decide (65≤(s[k].toNat:Int))=false:=by simp;omega
     have e3:decide ((s[k].toNat:Int)<48)=false:=by simp;omega
     have e4:decide (57<(s[k].toNat:Int))=true:=by simp;omega
     have e5:((k:Int) == 0)=false:=by simp;omega
     clear h1 h2 h3
     go_wp2
     go_ret
     exact⟨by rw [HF.out];rfl,rfl⟩
    ·have e1:decide (65≤(s[k].toNat:Int))=true:=by simp;omega
     have e2:decide ((s[k].toNat:Int)≤90)=false:=by simp;omega
     have e3:decide ((s[k].toNat:Int)<48)=false:=by simp;omega
     have e4:decide (57<(s[k].toNat:Int))=true:=by simp;omega
     have e5:((k:Int) == 0)=false:=by simp;omega
     clear h1 h2 h3
     go_wp2
     go_ret
     exact⟨by rw [HF.out];rfl,rfl⟩
   ·have HALL:Hid (∀ j,j<k+1→charB s j=true):=hide (fun j hj=>by
     by_cases e:j=k
     ·subst e;exact hc
     ·exact hall.out j (by omega))
    rw [hc] at hci
    have hci:=hci.1 rfl
    clear hc HS HE hall
    rcases hci with ⟨h1,h2⟩ | ⟨h1,h2,h3⟩
    ·have e1:decide (65≤(s[k].toNat:Int))=true:=by simp;omega
     have e2:decide ((s[k].toNat:Int)≤90)=true:=by simp;omega
     clear h1 h2
     go_wp2
     go_round
     case rel=>exact⟨k+1,by omega,by go_num,HALL⟩
     case measure=>simp [intOf];omega
    ·have e1:decide (65≤(s[k].toNat:Int))=false:=by simp;omega
     have e3:decide ((s[k].toNat:Int)<48)=false:=by simp;omega
     have e4:decide (57<(s[k].toNat:Int))=false:=by simp;omega
     have e5:((k:Int) == 0)=false:=by simp;omega
     clear h1 h2 h3
     go_wp2
     go_round
     case rel=>exact⟨k+1,by omega,by go_num,HALL⟩
     case measure=>simp [intOf];omega
  ·obtain rfl:k=s.size:=by omega
   have HF:=hide (HE.out hall.out)
   clear HS HE hall
   by_cases h0:s.size=0
   ·have hl:s.toList=[]:=by rw [ByteArray.toList_eq];exact List.eq_nil_of_length_eq_zero (by simpa using h0)
    have HF0:Hid (N=false):=hide (by rw [HF.out];exact decide_eq_false (by omega))
    clear HF h0
    go_wp2
    go_ret
    exact⟨by rw [HF0.out];rfl,rfl⟩
   ·have hl:¬ s.toList=[]:=by
     intro h
     rw [ByteArray.toList_eq] at h
     have:=congrArg List.length h
     simp at this
     exact h0 (by rw [this];rfl)
    have hl2:s.toList.isEmpty=false:=by simpa using hl
    by_cases h8:s.size≤8
    ·have HF0:Hid (N=true):=hide (by rw [HF.out];exact decide_eq_true (by omega))
     have h8':decide ((s.size:Int)≤8)=true:=by simp;omega
     clear HF h0
     go_wp2
     go_ret
     exact⟨by rw [HF0.out];rfl,rfl⟩
    ·have HF0:Hid (N=false):=hide (by rw [HF.out];exact decide_eq_false (by omega))
     have h8':decide ((s.size:Int)≤8)=false:=by simp;omega
     clear HF h0
     go_wp2
     go_ret
     exact⟨by rw [HF0.out];rfl,rfl⟩
end Go.Proofs.YtdoibgmmijhlfaaGreat
