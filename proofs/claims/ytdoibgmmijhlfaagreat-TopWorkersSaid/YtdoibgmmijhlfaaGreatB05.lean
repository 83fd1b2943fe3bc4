/- RulesW5 -/
import Derived.Test.YtdoibgmmijhlfaaGreatB03
namespace Go.Proofs.YtdoibgmmijhlfaaGreat
open Go.ChangeShapes Go.WideShapes Go.ChangeAt Go.RowKit
set_option linter.unusedVariables false
theorem endE_get {n : Nat} {es : List EndM} {k : Nat} {x : EndM} (h : es[k]? = some x) : endE n es k=(
  if x.kind=0 then (if inB x.count 1 64 && decide (x.piece=0) then 0 else 4)
  else if x.kind=1 then (if decide (x.count=0) && inB x.piece 0 (n - 1) then 0 else 4)
  else if x.kind=2 then (if inB x.count 1 64 && inB x.piece 0 (n - 1) then 0 else 4)
  else 1):=by
 unfold endE
 rw [h]
theorem endsE_at {n : Nat} {es : List EndM} {k : Nat} {c : Int} (h6 : ¬ 6 < es.length) (hz : ∀ j,j < k→endE n es j=0) (hk : k < es.length) (hc : endE n es k=c) (h : c ≠ 0) : endsE n es=c:=by
 unfold endsE
 rw [if_neg h6,firstE_eq (endE n es) es.length 0 k (fun j _ hj => hz j hj) (Nat.zero_le _) (by omega) (by rw [hc]; exact h),hc]
theorem endsE_all {n : Nat} {es : List EndM} (h6 : ¬ 6 < es.length) (hz : ∀ j,j < es.length→endE n es j=0) : endsE n es=0:=by
 unfold endsE
 rw [if_neg h6]
 exact (firstE_zero _ _ _).2 (fun j _ hj => hz j (by omega))
def ECode (c : Int) (w : World) (e : Ending) (w' : World) : Prop:=e=.returned (.int .i64 c)∧Ext w w'
theorem conds_many (v0 v1 v2 v3 v4 v5 v6 v8 v9 v10 : Value) (A : Option Addr) (n c : Nat) (w : World) (h : 6 < n) :
  Calls Crz.prog 87 #[.agg #[v0,v1,v2,v3,v4,v5,v6,.slice A n c,v8,v9,v10]] w (ECode 2 w):=by
 go_enter Crz.func87,Tryz.ntmps87
 go_wp2
 go_ret
 exact ⟨rfl,ext_alloc (Below.refl _ _) _⟩
theorem quiet_left {P : Program} {f : FuncId} {args : Array Value} {w : World} {n : Nat} {v : Value}
  (h : Calls P f args (w.drewN n) fun e w' => e=.returned v∧w.drewN n=w') : Calls P f args (w.drewN n) fun e w' => e=.returned v∧∃ m,w'=w.drewN m :=
 h.mono fun _ _ ⟨he,hm⟩ => ⟨he,n,hm.symm⟩
set_option maxHeartbeats 4000000 in
theorem conds_any (v0 v1 v2 v4 v5 v6 v8 v9 v10 : Value) (pA : Option Addr) (m mc : Nat) (A : Option Addr) (n c : Nat) (es : List EndM) (w : World) (hn : es.length=n) (hn6 : n≤6) (hm : m≤6) (hm1 : 1≤m) (hp : EndsAt w A es) :
  Calls Crz.prog 87 #[.agg #[v0,v1,v2,.slice pA m mc,v4,v5,v6,.slice A n c,v8,v9,v10]] w (ECode (endsE m es) w):=by
 have HN:=hide hn
 have HE : Hid (∀ k c,(∀ j,j < k→endE m es j=0)→k < n→endE m es k=c→c ≠ 0→endsE m es=c):=hide (fun k c hz hk hc h => endsE_at (by omega) hz (by omega) hc h)
 have HA : Hid ((∀ j,j < n→endE m es j=0)→endsE m es=0):=hide (fun hz => endsE_all (by omega) (by rw [hn]; exact hz))
 clear hn
 generalize endsE m es=E at *
 go_enter Crz.func87,Tryz.ntmps87
 go_wp2
 have x1 : Ext w (w.alloc (.cells #[v0,v1,v2,.slice pA m mc,v4,v5,v6,.slice A n c,v8,v9,v10] 26)):=ext_alloc (Below.refl _ _) _
 have f3 : (w.alloc (.cells #[v0,v1,v2,.slice pA m mc,v4,v5,v6,.slice A n c,v8,v9,v10] 26)).cell? ⟨w.heap.size,3,none⟩=some (.slice pA m mc):=new_cell _ _ _ 3
 have hp1:=CellsAt.ext hp x1
 clear hp
 generalize w.alloc (.cells #[v0,v1,v2,.slice pA m mc,v4,v5,v6,.slice A n c,v8,v9,v10] 26)=w1 at *
 generalize w.heap.size=B at *
 go_loopw [4,14] (fun _ i wr => ∃ k : Nat,k≤n∧i=.int .i64 k∧Hid (∀ j,j < k→endE m es j=0)∧Ext w1 wr) (fun _ i _ => n - (intOf i).toNat)
 case atStart => exact ⟨0,Nat.zero_le _,rfl,hide (fun j hj => by omega),Below.refl _ _⟩
 case round =>
  obtain ⟨k,hk,rfl,hz,hext⟩:=hrel
  by_cases hlt : k < n
  ·have hkl : k < es.length:=by rw [HN.out]; exact hlt
   have hget : es[k]? = some es[k]:=List.getElem?_eq_getElem hkl
   obtain ⟨b,o,rfl,c0,c1,c2,c3⟩:=EndsAt.get (CellsAt.ext hp1 hext) hget
   have HP:=hide (endE_get (n:=m) hget)
   clear hget
   generalize es[k]=q at *
   have G3:=Ext.cell (ext_alloc hext (.cells #[.int .i64 q.kind,.int .i64 q.piece,.int .i64 q.count,.bool q.loses] 75)) f3
   have e2 : (wr.alloc (.cells #[.int .i64 q.kind,.int .i64 q.piece,.int .i64 q.count,.bool q.loses] 75)).cell? ⟨wr.heap.size,2,none⟩=some (.int .i64 q.count):=new_cell _ _ _ 2
   have e1 : (wr.alloc (.cells #[.int .i64 q.kind,.int .i64 q.piece,.int .i64 q.count,.bool q.loses] 75)).cell? ⟨wr.heap.size,1,none⟩=some (.int .i64 q.piece):=new_cell _ _ _ 1
   have e0 : (wr.alloc (.cells #[.int .i64 q.kind,.int .i64 q.piece,.int .i64 q.count,.bool q.loses] 75)).cell? ⟨wr.heap.size,0,none⟩=some (.int .i64 q.kind):=new_cell _ _ _ 0
   clear f3 hp1
   by_cases hk0 : q.kind=0
   ·have t0 : (q.kind == 0)=true:=by simpa using hk0
    cases hcb : inB q.count 1 64
    ·skip
     have HF:=hide (HE.out k 4 hz.out hlt (HP.out.trans (by simp [hk0,hcb])) (by omega))
     clear HP HE HA hz hk0
     go_wp2_with fail
     go_quiet ((go_at_call 83; exact quiet_left (within_any _ _ _ _)))
     go_wp2
     go_ret
     exact ⟨by rw [HF.out]; rfl,ext_trans x1 (ext_drewN (ext_alloc hext _) _)⟩
    ·skip
     by_cases hpz : q.piece=0
     ·have tp : (q.piece == 0)=true:=by simpa using hpz
      have HK : Hid (∀ i,i < k + 1→endE m es i=0):=hide (fun i hi => by
       by_cases e : i=k
       ·subst e; exact HP.out.trans (by simp [hk0,hcb,hpz])
       ·exact hz.out i (by omega))
      clear HP HE HA hz hk0 hpz
      go_wp2_with fail
      go_quiet ((go_at_call 83; exact quiet_left (within_any _ _ _ _)))
      go_wp2
      go_roundw
      case rel => exact ⟨k + 1,by omega,by go_num,HK,ext_drewN (ext_alloc hext _) _⟩
      case measure => simp [intOf]; omega
     ·have tp : (q.piece == 0)=false:=by simpa using hpz
      have HF:=hide (HE.out k 4 hz.out hlt (HP.out.trans (by simp [hk0,hcb,hpz])) (by omega))
      clear HP HE HA hz hk0 hpz
      go_wp2_with fail
      go_quiet ((go_at_call 83; exact quiet_left (within_any _ _ _ _)))
      go_wp2
      go_ret
      exact ⟨by rw [HF.out]; rfl,ext_trans x1 (ext_drewN (ext_alloc hext _) _)⟩
   ·have t0 : (q.kind == 0)=false:=by simpa using hk0
    by_cases hk1 : q.kind=1
    ·have t1 : (q.kind == 1)=true:=by simpa using hk1
     by_cases hcz : q.count=0
     ·have tc : (q.count == 0)=true:=by simpa using hcz
      cases hpb : inB q.piece 0 ((m : Int) - 1)
      ·skip
       have HF:=hide (HE.out k 4 hz.out hlt (HP.out.trans (by simp [hk1,hcz,hpb])) (by omega))
       clear HP HE HA hz hk0 hk1 hcz
       go_wp2_with fail
       go_quiet ((go_at_call 83; exact quiet_left (within_any _ _ _ _)))
       go_wp2
       go_ret
       exact ⟨by rw [HF.out]; rfl,ext_trans x1 (ext_drewN (ext_alloc hext _) _)⟩
      ·skip
       have HK : Hid (∀ i,i < k + 1→endE m es i=0):=hide (fun i hi => by
        by_cases e : i=k
        ·subst e; exact HP.out.trans (by simp [hk1,hcz,hpb])
        ·exact hz.out i (by omega))
       clear HP HE HA hz hk0 hk1 hcz
       go_wp2_with fail
       go_quiet ((go_at_call 83; exact quiet_left (within_any _ _ _ _)))
       go_wp2
       go_roundw
       case rel => exact ⟨k + 1,by omega,by go_num,HK,ext_drewN (ext_alloc hext _) _⟩
       case measure => simp [intOf]; omega
     ·have tc : (q.count == 0)=false:=by simpa using hcz
      have HF:=hide (HE.out k 4 hz.out hlt (HP.out.trans (by simp [hk1,hcz])) (by omega))
      clear HP HE HA hz hk0 hk1 hcz
      go_wp2_with fail
      go_quiet ((go_at_call 83; exact quiet_left (within_any _ _ _ _)))
      go_wp2
      go_ret
      exact ⟨by rw [HF.out]; rfl,ext_trans x1 (ext_drewN (ext_alloc hext _) _)⟩
    ·have t1 : (q.kind == 1)=false:=by simpa using hk1
     by_cases hk2 : q.kind=2
     ·have t2 : (q.kind == 2)=true:=by simpa using hk2
      cases hcb : inB q.count 1 64
      ·skip
       have HF:=hide (HE.out k 4 hz.out hlt (HP.out.trans (by simp [hk2,hcb])) (by omega))
       clear HP HE HA hz hk0 hk1 hk2
       go_wp2_with fail
       go_quiet ((go_at_call 83; exact quiet_left (within_any _ _ _ _)))
       go_wp2
       go_ret
       exact ⟨by rw [HF.out]; rfl,ext_trans x1 (ext_drewN (ext_alloc hext _) _)⟩
      ·skip
       cases hpb : inB q.piece 0 ((m : Int) - 1)
       ·skip
        have HF:=hide (HE.out k 4 hz.out hlt (HP.out.trans (by simp [hk2,hcb,hpb])) (by omega))
        clear HP HE HA hz hk0 hk1 hk2
        go_wp2_with fail
        go_quiet ((go_at_call 83; exact quiet_left (within_any _ _ _ _)))
        go_wp2
        go_ret
        exact ⟨by rw [HF.out]; rfl,ext_trans x1 (ext_drewN (ext_alloc hext _) _)⟩
       ·skip
        have HK : Hid (∀ i,i < k + 1→endE m es i=0):=hide (fun i hi => by
         by_cases e : i=k
         ·subst e; exact HP.out.trans (by simp [hk2,hcb,hpb])
         ·exact hz.out i (by omega))
        clear HP HE HA hz hk0 hk1 hk2
        go_wp2_with fail
        go_quiet ((go_at_call 83; exact quiet_left (within_any _ _ _ _)))
        go_wp2
        go_roundw
        case rel => exact ⟨k + 1,by omega,by go_num,HK,ext_drewN (ext_alloc hext _) _⟩
        case measure => simp [intOf]; omega
     ·have t2 : (q.kind == 2)=false:=by simpa using hk2
      have HF:=hide (HE.out k 1 hz.out hlt (HP.out.trans (by simp [hk0,hk1,hk2])) (by omega))
      clear HP HE HA hz hk0 hk1 hk2
      go_wp2_with fail
      go_quiet ((go_at_call 83; exact quiet_left (within_any _ _ _ _)))
      go_wp2
      go_ret
      exact ⟨by rw [HF.out]; rfl,ext_trans x1 (ext_drewN (ext_alloc hext _) _)⟩
  ·obtain rfl : k=n:=by omega
   have HZ:=hide (HA.out hz.out)
   clear hz hp1
   go_wp2
   go_ret
   exact ⟨by rw [HZ.out]; rfl,ext_trans x1 hext⟩
end Go.Proofs.YtdoibgmmijhlfaaGreat
