/- IdxInts -/
import Derived.Test.YtdoibgmmijhlfaaGreatDoorR00
import Derived.Test.YtdoibgmmijhlfaaGreatDoorRows
import Derived.ProofKit
import Derived.OpenShut
import Derived.Outline
namespace Go.Proofs.YtdoibgmmijhlfaaGreatDoor
open Go.ChangeShapes Go.WideShapes Go.ChangeAt Go.RowKit
set_option linter.unusedVariables false
def SomeIdx (b : Bool) (w : World) (e : Ending) (w' : World) : Prop:=∃ r : Int,decide (0≤r)=b∧e=.returned (.int .i64 r)∧Ext w w'
theorem idxInts_one (cl : FuncId) (c0_ : Value) (p : Int→Bool) (A : Option Addr) (n c : Nat) (zs : List Int) (w : World) (hn : zs.length=n) (hm : n≤9223372036854775807) (hz : IntsAt w A zs)
  (eg : ∀ args W,(callFunc cl args).run Tryz.prog W=.ok (.enter cl args) W) (hcl : ∀ z W,Ext w W→Calls Tryz.prog cl #[.int .i64 z,c0_] W fun e w' => e=.returned (.bool (p z))∧Ext W w') :
  Calls Tryz.prog 88 #[.slice A n c,.func (.func cl) #[] #[c0_]] w (SomeIdx (zs.any p) w):=by
 have HN:=hide hn
 have HC:=hide hcl
 clear hn hcl
 go_enter Tryz.func88,Tryz.ntmps88
 go_wp2
 go_loopw [5,8] (fun _ i wr => ∃ k : Nat,k≤n∧i=.int .i64 k∧Hid (∀ j,j < k→p (zs.getD j 0)=false)∧Ext w wr) (fun _ i _ => n - (intOf i).toNat)
 case atStart => exact ⟨0,Nat.zero_le _,rfl,hide (fun j hj => by omega),Below.refl _ _⟩
 case round =>
  obtain ⟨k,hk,rfl,hall,hext⟩:=hrel
  by_cases hlt : k < n
  ·have hkl : k < zs.length:=by rw [HN.out]; exact hlt
   obtain ⟨b,o,rfl,hc⟩:=hz.ext hext k hkl
   clear hz
   have HM : Hid (zs.getD k 0 ∈ zs):=hide (by
    have : zs.getD k 0=zs[k]:=by simp [hkl]
    rw [this]; exact List.getElem_mem _)
   have HCALL:=hide (HC.out (zs.getD k 0) wr hext)
   have HSTEP : Hid (p (zs.getD k 0)=false→∀ j,j < k + 1→p (zs.getD j 0)=false):=hide (fun h j hj => by
    by_cases e : j=k
    ·subst e; exact h
    ·exact hall.out j (by omega))
   clear hall HC
   generalize zs.getD k 0=z at *
   generalize hpz : p z=pz at *
   have HPZ:=hide hpz
   clear hpz
   go_wp2_with fail
   refine HCALL.out.mono ?_
   rintro e w1 ⟨rfl,y1⟩
   cases pz
   ·go_wp2
    go_roundw
    case rel => exact ⟨k + 1,by omega,by go_num,hide (HSTEP.out (by simp)),ext_trans hext y1⟩
    case measure => simp [intOf]; omega
   ·go_wp2
    go_ret
    exact ⟨k,by
     have : zs.any p=true:=List.any_eq_true.2 ⟨z,HM.out,HPZ.out⟩
     rw [this]; simp,rfl,ext_trans hext y1⟩
  ·obtain rfl : k=n:=by omega
   have HB : Hid (zs.any p=false):=hide (by
    rw [List.any_eq_false]
    intro q hq
    obtain ⟨j,hj,rfl⟩:=List.mem_iff_getElem.1 hq
    have:=hall.out j (by rw [HN.out] at hj; exact hj)
    simpa [hj] using this)
   clear hall hz HC
   go_wp2
   go_ret
   exact ⟨-1,by rw [HB.out]; simp,rfl,hext⟩
theorem hasInts_one (cl : FuncId) (c0_ : Value) (p : Int→Bool) (A : Option Addr) (n c : Nat) (zs : List Int) (w : World) (hn : zs.length=n) (hm : n≤9223372036854775807) (hz : IntsAt w A zs)
  (eg : ∀ args W,(callFunc cl args).run Tryz.prog W=.ok (.enter cl args) W) (hcl : ∀ z W,Ext w W→Calls Tryz.prog cl #[.int .i64 z,c0_] W fun e w' => e=.returned (.bool (p z))∧Ext W w') :
  Calls Tryz.prog 53 #[.slice A n c,.func (.func cl) #[] #[c0_]] w fun e w' => e=.returned (.bool (zs.any p))∧Ext w w':=by
 have HI:=hide (idxInts_one cl c0_ p A n c zs w hn hm hz eg hcl)
 clear hn hz hcl eg
 generalize zs.any p=b at *
 go_enter Tryz.func53,Tryz.ntmps53
 go_wp2_with fail
 refine HI.out.mono ?_
 rintro e w1 ⟨r,hr,rfl,x1⟩
 have HR:=hide hr
 clear hr
 go_wp2
 go_ret
 exact ⟨by rw [← HR.out]; rfl,x1⟩
theorem idxInts_two (cl : FuncId) (c0_ c1_ : Value) (p : Int→Bool) (A : Option Addr) (n c : Nat) (zs : List Int) (w : World) (hn : zs.length=n) (hm : n≤9223372036854775807) (hz : IntsAt w A zs)
  (eg : ∀ args W,(callFunc cl args).run Tryz.prog W=.ok (.enter cl args) W) (hcl : ∀ z W,Ext w W→Calls Tryz.prog cl #[.int .i64 z,c0_,c1_] W fun e w' => e=.returned (.bool (p z))∧Ext W w') :
  Calls Tryz.prog 88 #[.slice A n c,.func (.func cl) #[] #[c0_,c1_]] w (SomeIdx (zs.any p) w):=by
 have HN:=hide hn
 have HC:=hide hcl
 clear hn hcl
 go_enter Tryz.func88,Tryz.ntmps88
 go_wp2
 go_loopw [5,8] (fun _ i wr => ∃ k : Nat,k≤n∧i=.int .i64 k∧Hid (∀ j,j < k→p (zs.getD j 0)=false)∧Ext w wr) (fun _ i _ => n - (intOf i).toNat)
 case atStart => exact ⟨0,Nat.zero_le _,rfl,hide (fun j hj => by omega),Below.refl _ _⟩
 case round =>
  obtain ⟨k,hk,rfl,hall,hext⟩:=hrel
  by_cases hlt : k < n
  ·have hkl : k < zs.length:=by rw [HN.out]; exact hlt
   obtain ⟨b,o,rfl,hc⟩:=hz.ext hext k hkl
   clear hz
   have HM : Hid (zs.getD k 0 ∈ zs):=hide (by
    have : zs.getD k 0=zs[k]:=by simp [hkl]
    rw [this]; exact List.getElem_mem _)
   have HCALL:=hide (HC.out (zs.getD k 0) wr hext)
   have HSTEP : Hid (p (zs.getD k 0)=false→∀ j,j < k + 1→p (zs.getD j 0)=false):=hide (fun h j hj => by
    by_cases e : j=k
    ·subst e; exact h
    ·exact hall.out j (by omega))
   clear hall HC
   generalize zs.getD k 0=z at *
   generalize hpz : p z=pz at *
   have HPZ:=hide hpz
   clear hpz
   go_wp2_with fail
   refine HCALL.out.mono ?_
   rintro e w1 ⟨rfl,y1⟩
   cases pz
   ·go_wp2
    go_roundw
    case rel => exact ⟨k + 1,by omega,by go_num,hide (HSTEP.out (by simp)),ext_trans hext y1⟩
    case measure => simp [intOf]; omega
   ·go_wp2
    go_ret
    exact ⟨k,by
     have : zs.any p=true:=List.any_eq_true.2 ⟨z,HM.out,HPZ.out⟩
     rw [this]; simp,rfl,ext_trans hext y1⟩
  ·obtain rfl : k=n:=by omega
   have HB : Hid (zs.any p=false):=hide (by
    rw [List.any_eq_false]
    intro q hq
    obtain ⟨j,hj,rfl⟩:=List.mem_iff_getElem.1 hq
    have:=hall.out j (by rw [HN.out] at hj; exact hj)
    simpa [hj] using this)
   clear hall hz HC
   go_wp2
   go_ret
   exact ⟨-1,by rw [HB.out]; simp,rfl,hext⟩
theorem hasInts_two (cl : FuncId) (c0_ c1_ : Value) (p : Int→Bool) (A : Option Addr) (n c : Nat) (zs : List Int) (w : World) (hn : zs.length=n) (hm : n≤9223372036854775807) (hz : IntsAt w A zs)
  (eg : ∀ args W,(callFunc cl args).run Tryz.prog W=.ok (.enter cl args) W) (hcl : ∀ z W,Ext w W→Calls Tryz.prog cl #[.int .i64 z,c0_,c1_] W fun e w' => e=.returned (.bool (p z))∧Ext W w') :
  Calls Tryz.prog 53 #[.slice A n c,.func (.func cl) #[] #[c0_,c1_]] w fun e w' => e=.returned (.bool (zs.any p))∧Ext w w':=by
 have HI:=hide (idxInts_two cl c0_ c1_ p A n c zs w hn hm hz eg hcl)
 clear hn hz hcl eg
 generalize zs.any p=b at *
 go_enter Tryz.func53,Tryz.ntmps53
 go_wp2_with fail
 refine HI.out.mono ?_
 rintro e w1 ⟨r,hr,rfl,x1⟩
 have HR:=hide hr
 clear hr
 go_wp2
 go_ret
 exact ⟨by rw [← HR.out]; rfl,x1⟩
end Go.Proofs.YtdoibgmmijhlfaaGreatDoor
