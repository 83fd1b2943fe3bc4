/- MovesCmp -/
import Derived.Test.YtdoibgmmijhlfaaGreatC00
import Derived.Shelf.SlSortCmp.NoneTotal
import Derived.Deep.RegionHeld3
import Derived.Deep.DrawnRows
namespace Go.Proofs.YtdoibgmmijhlfaaGreat
open Go.ChangeShapes Go.WideShapes Go.ChangeAt Go.RowKit Go.Shelf
set_option linter.unusedVariables false
open Go.Sort
attribute [local go_sem ↓] Go.wp_at_zero Go.wp_at_succ
theorem isNaN_any(x:Int)(w:World):Calls Crz.prog 96 #[.int .i64 x] w fun e w'=>e=.returned (.bool false)∧w=w':=by
 go_enter Crz.func96,Tryz.ntmps96
 go_wp2
 go_ret
 exact⟨by simp,rfl⟩
theorem Compare_any(a b:Int)(w:World):Calls Crz.prog 64 #[.int .i64 a,.int .i64 b] w fun e w'=>e=.returned (.int .i64 (cmpI a b))∧w=w':=by
 unfold cmpI
 rcases(by omega:a<b∨(¬ a<b∧b<a)∨(¬ a<b∧¬ b<a)) with h | ⟨h,h'⟩ | ⟨h,h'⟩
 ·rw [if_pos h]
  go_enter Crz.func64,Tryz.ntmps64
  go_wp2_with (go_at_call 96;refine(isNaN_any _ _).mono ?_;rintro e w' ⟨rfl,rfl⟩)
  go_ret
  exact⟨rfl,rfl⟩
 ·rw [if_neg h,if_pos h']
  go_enter Crz.func64,Tryz.ntmps64
  go_wp2_with (go_at_call 96;refine(isNaN_any _ _).mono ?_;rintro e w' ⟨rfl,rfl⟩)
  go_ret
  exact⟨rfl,rfl⟩
 ·rw [if_neg h,if_neg h']
  go_enter Crz.func64,Tryz.ntmps64
  go_wp2_with (go_at_call 96;refine(isNaN_any _ _).mono ?_;rintro e w' ⟨rfl,rfl⟩)
  go_ret
  exact⟨rfl,rfl⟩
def or3(x y z:Int):Int:=if x≠0 then x else if y≠0 then y else z
theorem or3_cmp(a b:MM):or3 (cmpI a.src b.src) (cmpI a.dst b.dst) (cmpI a.piece b.piece)=cmpM a b:=rfl
theorem Or_three(x y z:Int)(g:Nat)(w:World)(h0:w.cell? ⟨g,0,none⟩=some (.int .i64 x))(h1:w.cell? ⟨g,1,none⟩=some (.int .i64 y))(h2:w.cell? ⟨g,2,none⟩=some (.int .i64 z)) :
  Calls Crz.prog 63 #[.slice (some ⟨g,0,none⟩) 3 3] w fun e w'=>e=.returned (.int .i64 (or3 x y z))∧w=w':=by
 obtain⟨r,hr⟩:∃ r,r=or3 x y z:=⟨_,rfl⟩
 have HR:=hide hr
 rw [← hr]
 clear hr
 go_enter Crz.func63,Tryz.ntmps63
 go_wp2
 go_loop [5,8] (fun _ i=>∃ k:Nat,k≤3∧i=.int .i64 k∧Hid ((0<k→x=0)∧(1<k→y=0)∧(2<k→z=0))) (fun _ i=>3-(intOf i).toNat)
 case atStart=>exact⟨0,by omega,rfl,hide ⟨by omega,by omega,by omega⟩⟩
 case round =>
  obtain⟨k,hk,rfl,q⟩:=hrel
  rcases(by omega:k=0∨k=1∨k=2∨k=3) with rfl | rfl | rfl | rfl
  ·clear q
   by_cases hx:x=0
   ·subst hx
    go_wp2
    go_round
    case rel=>exact⟨1,by omega,by go_num,hide ⟨fun _=>by first | rfl | trivial,by omega,by omega⟩⟩
    case measure=>simp [intOf]
   ·have hx':(x != 0)=true:=by simpa using hx
    go_wp2
    go_ret
    exact⟨by rw [HR.out,or3,if_pos hx];rfl,rfl⟩
  ·obtain rfl:=q.out.1 (by omega)
   clear q
   by_cases hx:y=0
   ·subst hx
    go_wp2
    go_round
    case rel=>exact⟨2,by omega,by go_num,hide ⟨fun _=>by first | rfl | trivial,fun _=>by first | rfl | trivial,by omega⟩⟩
    case measure=>simp [intOf]
   ·have hx':(y != 0)=true:=by simpa using hx
    go_wp2
    go_ret
    exact⟨by rw [HR.out,or3,if_neg (by omega),if_pos hx];rfl,rfl⟩
  ·obtain rfl:=q.out.1 (by omega)
   obtain rfl:=q.out.2.1 (by omega)
   clear q
   by_cases hx:z=0
   ·subst hx
    go_wp2
    go_round
    case rel=>exact⟨3,by omega,by go_num,hide ⟨fun _=>by first | rfl | trivial,fun _=>by first | rfl | trivial,fun _=>by first | rfl | trivial⟩⟩
    case measure=>simp [intOf]
   ·have hx':(z != 0)=true:=by simpa using hx
    go_wp2
    go_ret
    exact⟨by rw [HR.out,or3,if_neg (by omega),if_neg (by omega)];rfl,rfl⟩
  ·obtain rfl:=q.out.1 (by omega)
   obtain rfl:=q.out.2.1 (by omega)
   obtain rfl:=q.out.2.2 (by omega)
   clear q
   go_wp2
   go_ret
   exact⟨by rw [HR.out,or3,if_neg (by omega),if_neg (by omega)];rfl,rfl⟩
set_option maxHeartbeats 4000000 in
set_option maxRecDepth 100000 in
theorem cmpMoves_any(a b:MM)(w:World):Calls Crz.prog 62 #[.agg #[.int .i64 a.src,.int .i64 a.dst,.int .i64 a.piece],.agg #[.int .i64 b.src,.int .i64 b.dst,.int .i64 b.piece]] w fun e w'=>e=.returned (.int .i64 (cmpM a b))∧∃ q os,w'=grow (w.drewN q) os:=by
 have HC:=hide (or3_cmp a b)
 go_enter Crz.func62,Tryz.ntmps62
 go_wp2
 obtain⟨xa,k1,k2⟩:=blks2 w #[.int .i64 a.src,.int .i64 a.dst,.int .i64 a.piece] 31 #[.int .i64 b.src,.int .i64 b.dst,.int .i64 b.piece] 31
 have hw:((w.alloc (.cells #[.int .i64 a.src,.int .i64 a.dst,.int .i64 a.piece] 31)).alloc (.cells #[.int .i64 b.src,.int .i64 b.dst,.int .i64 b.piece] 31))=grow w #[.cells #[.int .i64 a.src,.int .i64 a.dst,.int .i64 a.piece] 31,.cells #[.int .i64 b.src,.int .i64 b.dst,.int .i64 b.piece] 31]:=by rw [alloc_eq_grow,alloc_eq_grow,grow_grow];rfl
 have HW:=hide hw
 clear xa hw
 generalize ((w.alloc _).alloc _)=w2 at *
 generalize w.heap.size+1=B2 at *
 generalize w.heap.size=B1 at *
 have a0:w2.cell? ⟨B1,0,none⟩=some (.int .i64 a.src):=k1.cell 0
 have a1:w2.cell? ⟨B1,1,none⟩=some (.int .i64 a.dst):=k1.cell 1
 have a2:w2.cell? ⟨B1,2,none⟩=some (.int .i64 a.piece):=k1.cell 2
 have b0:w2.cell? ⟨B2,0,none⟩=some (.int .i64 b.src):=k2.cell 0
 have b1:w2.cell? ⟨B2,1,none⟩=some (.int .i64 b.dst):=k2.cell 1
 have b2:w2.cell? ⟨B2,2,none⟩=some (.int .i64 b.piece):=k2.cell 2
 clear k1 k2
 generalize a.src=x0 at *
 generalize a.dst=x1 at *
 generalize a.piece=x2 at *
 generalize b.src=y0 at *
 generalize b.dst=y1 at *
 generalize b.piece=y2 at *
 go_wp2
 first
 | go_region_held3 (fun w'=>w'.cell? ⟨B1,0,none⟩=some (.int .i64 x0)∧w'.cell? ⟨B1,1,none⟩=some (.int .i64 x1)∧w'.cell? ⟨B1,2,none⟩=some (.int .i64 x2)∧w'.cell? ⟨B2,0,none⟩=some (.int .i64 y0)∧w'.cell? ⟨B2,1,none⟩=some (.int .i64 y1)∧w'.cell? ⟨B2,2,none⟩=some (.int .i64 y2)) (go_keep)
   (first
   | (go_at_call 64;refine(Compare_any _ _ _).mono ?_;rintro e w' ⟨rfl,rfl⟩)
   | (go_at_call 63;refine(Or_three (cmpI x0 y0) (cmpI x1 y1) (cmpI x2 y2) _ _ ?_ ?_ ?_).mono ?_;(exact nC _ _ _ 0);(exact nC _ _ _ 1);(exact nC _ _ _ 2);rintro e w' ⟨rfl,rfl⟩))
 | fail
 go_wp2
 go_ret
 refine⟨by rw [← HC.out];rfl,?_⟩
 rw [HW.out]
 exact⟨1,_,by rw [alloc_eq_grow,grow_grow];rfl⟩
end Go.Proofs.YtdoibgmmijhlfaaGreat
