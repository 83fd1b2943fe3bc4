/- CrP -/
import Derived.Test.YtdoibgmmijhlfaaGreatB44
import Derived.Test.YtdoibgmmijhlfaaGreatB00
namespace Go.Proofs.YtdoibgmmijhlfaaGreat.Sm
open Go
set_option linter.unusedVariables false
noncomputable def famL : List Nat:=[3,7,8,6,13,36,35,46,50,55,82,83,84,121,120,141,86,85,122,87,79,116,117,118,140,52,51,44,75,76,115,139,60,74,77,34,58,93,59,61,95,132,133,94,124,125,143,126,144,145,127,146,147,149,128,129,130,131,62,64,96,63,65,39,70,89,42,43,73,45,29,9,10,28,15,17,47,78,48,11,16,12,38,41,14,18,19,4,20,21,22,27,54,49,23,25,24,53,80,81,119,26,5,30,31,32,56,88,90,33,57,91,123,142,148,92,37]
noncomputable def fam (f : FuncId) : Bool:=famL.contains f
noncomputable def notM : List Nat:=[37,42,38,41]
noncomputable def famLM : List Nat:=famL.filter fun f => !notM.contains f
noncomputable def famM (f : FuncId) : Bool:=famLM.contains f
noncomputable def cxM : Cx:={ glob:=Tryz.prog.globals.size,mark:=(· == 85),f2:=fam,free:=false }
noncomputable def cx : Cx:={ glob:=Tryz.prog.globals.size,mark:=(· == 85) }
noncomputable def cx0 : Cx:={ glob:=Tryz.prog.globals.size,mark:=fun _ => false }
noncomputable def dead (f : FuncId) (t : Nat) : Bool:=f == 38 && t == 24
noncomputable def deadM (f : FuncId) (t : Nat) : Bool:=f == 13 && t == 30 || f == 12 && t == 27
noncomputable def enters (p : Program) (f : FuncId) : Bool:=match p.funcs[f]? with
 | some fn => !(fn.name == "runtime.NumGoroutine") && !fn.body.isNone
 | none => false
noncomputable def goodFn (p p' : Program) (fb : FuncId→Bool) (mk : TypeId→Bool) (d : Nat→Bool) (f : FuncId) : Bool:=match p.funcs[f]? with
 | some fn => (match fn.body with | some b => goodCode p p' mk fb d b | none => false)
 | none => false
noncomputable def otherM (f : FuncId) : Bool:=f == 13 || f == 12
theorem fam_enters : (famL.all fun f => enters Crz.prog f && enters Tryz.prog f)=true:=by kernel_rfl
theorem fam_good_lone : (famL.all fun f => goodFn Crz.prog Crz.prog fam cx0.mark (fun _ => false) f)=true:=by kernel_rfl
theorem fam_good_main : (famLM.all fun f => otherM f || goodFn Crz.prog Tryz.prog famM cx.mark (fun _ => false) f)=true:=by kernel_rfl
end Go.Proofs.YtdoibgmmijhlfaaGreat.Sm
