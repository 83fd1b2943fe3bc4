/- SymmP -/
import Derived.WalkKit
import Derived.Laws.BitsLemmas
namespace Go.Proofs.YtdoibgmmijhlfaaGreat
def okSide(a b:Int):Prop:=1≤a∧a≤8∧1≤b∧b≤8
def cnt(a b:Int):Int:=if a=b then 8 else 4
def b0(s:Int):Bool:=s % 2 == 1
def b1(s:Int):Bool:=s / 2 % 2 == 1
def b2(s:Int):Bool:=decide (4≤s)
theorem sq_bd(a b q:Int)(h:okSide a b)(h0:0≤q)(h1:q<a * b):0≤q % a∧q % a<a∧0≤q / a∧q / a<b:=by
 obtain⟨ha,ha',hb,hb'⟩:=h
 refine⟨Int.emod_nonneg _ (by omega),Int.emod_lt_of_pos _ (by omega),Int.ediv_nonneg h0 (by omega),?_⟩
 exact Int.ediv_lt_of_lt_mul (by omega) (by rw [Int.mul_comm];exact h1)
theorem area_bd(a b:Int)(h:okSide a b):1≤a * b∧a * b≤64:=by
 obtain⟨ha,ha',hb,hb'⟩:=h
 have h1:a * b≤8 * 8:=Int.mul_le_mul (by omega) (by omega) (by omega) (by omega)
 have h2:1 * 1≤a * b:=Int.mul_le_mul (by omega) (by omega) (by omega) (by omega)
 omega
theorem sq_mk{a b x y:Int}(hx0:0≤x)(hx:x<a)(hy0:0≤y)(hy:y<b):0≤y * a+x∧y * a+x<a * b:=by
 have h1:0≤y * a:=Int.mul_nonneg hy0 (by omega)
 have h2:(y+1) * a≤b * a:=Int.mul_le_mul_of_nonneg_right (by omega) (by omega)
 rw [Int.add_mul,Int.mul_comm b a] at h2
 omega
end Go.Proofs.YtdoibgmmijhlfaaGreat
