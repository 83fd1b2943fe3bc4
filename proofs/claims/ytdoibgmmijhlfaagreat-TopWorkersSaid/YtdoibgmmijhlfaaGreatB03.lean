/- RulesW1 RulesW4 -/
import Derived.Test.YtdoibgmmijhlfaaGreatB00
import Derived.Test.YtdoibgmmijhlfaaGreatB01
import Derived.Test.YtdoibgmmijhlfaaGreatRows
import Derived.OpenShut
import Derived.Outline
import Derived.Deep.QuietTactic
import Derived.BigQuiet
namespace Go.Proofs.YtdoibgmmijhlfaaGreat
open Go.ChangeShapes Go.WideShapes Go.ChangeAt Go.RowKit
set_option linter.unusedVariables false
theorem within_any (n lo hi : Int) (w : World) :
  Calls Crz.prog 83 #[.int .i64 n,.int .i64 lo,.int .i64 hi] w fun e w' => e=.returned (.bool (inB n lo hi))∧w=w':=by
 unfold inB
 by_cases h1 : lo≤n
 ·by_cases h2 : n≤hi
  ·go_enter Crz.func83,Tryz.ntmps83
   go_wp2
   go_ret
   exact ⟨by simp [h1,h2],rfl⟩
  ·go_enter Crz.func83,Tryz.ntmps83
   go_wp2
   go_ret
   exact ⟨by simp; omega,rfl⟩
 ·go_enter Crz.func83,Tryz.ntmps83
  go_wp2
  go_ret
  exact ⟨by simp; omega,rfl⟩
theorem pieces1_any (l l0 h0 p0 : Int) (hd pr : Int) (v : Value) (a : Addr) (w : World) (hc : w.cell? a=some (.int .u8 l)) (ha : a.spot=none) :
  Calls Crz.prog 121 #[.agg #[.int .u8 l0,.int .i64 h0,.int .i64 p0,v],.pointer (some a)] w fun e w' => e=.returned (.bool (l0 == l))∧Ext w w':=by
 obtain ⟨b,o,s⟩:=a
 obtain rfl : s=none:=ha
 have hlt:=lt_of_cell hc
 go_enter Crz.func121,Tryz.ntmps121
 go_wp2
 go_ret
 exact ⟨rfl,ext_alloc (Below.refl _ _) _⟩
def charB (s : ByteArray) (i : Nat) : Bool:=letterB (s.data.toList.getD i 0) || (decide (0 < i) && digitB (s.data.toList.getD i 0))
theorem byte_at (s : ByteArray) (k : Nat) (h : k < s.size) : s.data.toList.getD k 0=s[k]:=by
 have h' : k < s.data.toList.length:=by simpa using h
 rw [List.getD_eq_getElem?_getD,List.getElem?_eq_getElem h']
 rfl
theorem charB_iff (s : ByteArray) (k : Nat) (h : k < s.size) : charB s k=true ↔ ((65≤(s[k].toNat : Int)∧(s[k].toNat : Int)≤90)∨(0 < k∧48≤(s[k].toNat : Int)∧(s[k].toNat : Int)≤57)):=by
 unfold charB letterB digitB
 rw [byte_at s k h]
 simp only [Bool.or_eq_true,Bool.and_eq_true,decide_eq_true_eq,UInt8.le_iff_toNat_le]
 simp
 omega
theorem nameB_iff (s : ByteArray) : nameB s=true ↔ (1≤s.size∧s.size≤8∧∀ k,k < s.size→charB s k=true):=by
 unfold nameB
 simp only [Bool.and_eq_true,decide_eq_true_eq,List.all_eq_true,List.mem_range]
 constructor
 ·rintro ⟨⟨h1,h2⟩,h3⟩; exact ⟨h1,h2,fun k hk => h3 k hk⟩
 ·rintro ⟨h1,h2,h3⟩; exact ⟨⟨h1,h2⟩,fun k hk => h3 k hk⟩
theorem Name_any (s : ByteArray) (w : World) (hs : s.size≤9223372036854775807) :
  Calls Crz.prog 82 #[.string s] w fun e w' => e=.returned (.bool (nameB s))∧w=w':=by
 have HS : Hid (∀ k,k < s.size→charB s k=false→nameB s=false):=hide (fun k hk hc => by
  cases h : nameB s
  ·rfl
  ·have:=(nameB_iff s).1 h
   rw [this.2.2 k hk] at hc
   cases hc)
 have HE : Hid ((∀ k,k < s.size→charB s k=true)→nameB s=decide (1≤s.size∧s.size≤8)):=hide (fun h => by
  by_cases h1 : 1≤s.size∧s.size≤8
  ·rw [decide_eq_true h1]
   exact (nameB_iff s).2 ⟨h1.1,h1.2,h⟩
  ·rw [decide_eq_false h1]
   cases h2 : nameB s
   ·rfl
   ·have:=(nameB_iff s).1 h2
    exact absurd ⟨this.1,this.2.1⟩ h1)
 generalize nameB s=N at *
 go_enter Crz.func82,Tryz.ntmps82
 go_wp2
 go_loop [3,4,7] (fun _ _ i => ∃ k : Nat,k≤s.size∧i=.int .i64 k∧Hid (∀ j,j < k→charB s j=true)) (fun _ _ i => s.size - (intOf i).toNat)
 case atStart => exact ⟨0,Nat.zero_le _,rfl,hide (fun j hj => by omega)⟩
 case round =>
  obtain ⟨k,hk,rfl,hall⟩:=hrel
  by_cases hlt : k < s.size
  ·have hci:=charB_iff s k hlt
   cases hc : charB s k
   ·have HF:=hide (HS.out k hlt hc)
    have hbad : ((s[k].toNat : Int) < 65∧k=0)∨(65≤(s[k].toNat : Int)∧90 < (s[k].toNat : Int)∧k=0)∨((s[k].toNat : Int) < 48∧0 < k)∨(57 < (s[k].toNat : Int)∧(s[k].toNat : Int) < 65∧0 < k)∨(65≤(s[k].toNat : Int)∧90 < (s[k].toNat : Int)∧0 < k):=by
     rw [hc] at hci
     simp only [Bool.false_eq_true,false_iff] at hci
     omega
    clear hci hc HS HE hall
    rcases hbad with ⟨h1,h2⟩ | ⟨h1,h2,h3⟩ | ⟨h1,h2⟩ | ⟨h1,h2,h3⟩ | ⟨h1,h2,h3⟩
    ·have e1 : decide (65≤(s[k].toNat : Int))=false:=by simp; omega
     have e5 : ((k : Int) == 0)=true:=by simp; omega
     clear h1 h2
     go_wp2
     go_ret
     exact ⟨by rw [HF.out]; rfl,rfl⟩
    ·have e1 : decide (65≤(s[k].toNat : Int))=true:=by simp; omega
     have e2 : decide ((s[k].toNat : Int)≤90)=false:=by simp; omega
     have e5 : ((k : Int) == 0)=true:=by simp; omega
     clear h1 h2 h3
     go_wp2
     go_ret
     exact ⟨by rw [HF.out]; rfl,rfl⟩
    ·have e1 : decide (65≤(s[k].toNat : Int))=false:=by simp; omega
     have e3 : decide ((s[k].toNat : Int) < 48)=true:=by simp; omega
     have e5 : ((k : Int) == 0)=false:=by simp; omega
     clear h1 h2
     go_wp2
     go_ret
     exact ⟨by rw [HF.out]; rfl,rfl⟩
    ·have e1 : decide (65≤(s[k].toNat : Int))=false:=by simp; omega
     have e3 : decide ((s[k].toNat : Int) < 48)=false:=by simp; omega
     have e4 : decide (57 < (s[k].toNat : Int))=true:=by simp; omega
     have e5 : ((k : Int) == 0)=false:=by simp; omega
     clear h1 h2 h3
     go_wp2
     go_ret
     exact ⟨by rw [HF.out]; rfl,rfl⟩
    ·have e1 : decide (65≤(s[k].toNat : Int))=true:=by simp; omega
     have e2 : decide ((s[k].toNat : Int)≤90)=false:=by simp; omega
     have e3 : decide ((s[k].toNat : Int) < 48)=false:=by simp; omega
     have e4 : decide (57 < (s[k].toNat : Int))=true:=by simp; omega
     have e5 : ((k : Int) == 0)=false:=by simp; omega
     clear h1 h2 h3
     go_wp2
     go_ret
     exact ⟨by rw [HF.out]; rfl,rfl⟩
   ·have HALL : Hid (∀ j,j < k + 1→charB s j=true):=hide (fun j hj => by
     by_cases e : j=k
     ·subst e; exact hc
     ·exact hall.out j (by omega))
    rw [hc] at hci
    have hci:=hci.1 rfl
    clear hc HS HE hall
    rcases hci with ⟨h1,h2⟩ | ⟨h1,h2,h3⟩
    ·have e1 : decide (65≤(s[k].toNat : Int))=true:=by simp; omega
     have e2 : decide ((s[k].toNat : Int)≤90)=true:=by simp; omega
     clear h1 h2
     go_wp2
     go_round
     case rel => exact ⟨k + 1,by omega,by go_num,HALL⟩
     case measure => simp [intOf]; omega
    ·have e1 : decide (65≤(s[k].toNat : Int))=false:=by simp; omega
     have e3 : decide ((s[k].toNat : Int) < 48)=false:=by simp; omega
     have e4 : decide (57 < (s[k].toNat : Int))=false:=by simp; omega
     have e5 : ((k : Int) == 0)=false:=by simp; omega
     clear h1 h2 h3
     go_wp2
     go_round
     case rel => exact ⟨k + 1,by omega,by go_num,HALL⟩
     case measure => simp [intOf]; omega
  ·obtain rfl : k=s.size:=by omega
   have HF:=hide (HE.out hall.out)
   clear HS HE hall
   by_cases h0 : s.size=0
   ·have hl : s.toList=[]:=by rw [ByteArray.toList_eq]; exact List.eq_nil_of_length_eq_zero (by simpa using h0)
    have HF0 : Hid (N=false):=hide (by rw [HF.out]; exact decide_eq_false (by omega))
    clear HF h0
    go_wp2
    go_ret
    exact ⟨by rw [HF0.out]; rfl,rfl⟩
   ·have hl : ¬ s.toList=[]:=by
     intro h
     rw [ByteArray.toList_eq] at h
     have:=congrArg List.length h
     simp at this
     exact h0 (by rw [this]; rfl)
    have hl2 : s.toList.isEmpty=false:=by simpa using hl
    by_cases h8 : s.size≤8
    ·have HF0 : Hid (N=true):=hide (by rw [HF.out]; exact decide_eq_true (by omega))
     have h8' : decide ((s.size : Int)≤8)=true:=by simp; omega
     clear HF h0
     go_wp2
     go_ret
     exact ⟨by rw [HF0.out]; rfl,rfl⟩
    ·have HF0 : Hid (N=false):=hide (by rw [HF.out]; exact decide_eq_false (by omega))
     have h8' : decide ((s.size : Int)≤8)=false:=by simp; omega
     clear HF h0
     go_wp2
     go_ret
     exact ⟨by rw [HF0.out]; rfl,rfl⟩
end Go.Proofs.YtdoibgmmijhlfaaGreat
