/- EqInts Same RulesW4 SameAny -/
import Derived.Test.YtdoibgmmijhlfaaGreatDoorR00
import Derived.Test.YtdoibgmmijhlfaaGreatDoorRows
import Derived.WalkKit
import Derived.ProofKit
import Derived.OpenShut
import Derived.Outline
import Derived.Deep.QuietTactic
import Derived.BigQuiet
import Derived.Test.YtdoibgmmijhlfaaGreatDoorR01
namespace Go.Proofs.YtdoibgmmijhlfaaGreatDoor
open Go.ChangeShapes Go.WideShapes Go.ChangeAt Go.RowKit
set_option linter.unusedVariables false
theorem EqInts_len (A B : Option Addr) (n m c d : Nat) (w : World) (h : n ≠ m) (hn : n≤9223372036854775807) (hm : m≤9223372036854775807) :
  Calls Tryz.prog 69 #[.slice A n c,.slice B m d] w fun e w' => e=.returned (.bool false)∧∃ q,w'=w.drewN q:=by
 have h' : ¬ (n : Int)=(m : Int):=by omega
 go_enter Tryz.func69,Tryz.ntmps69
 go_wp2
 go_ret
 exact ⟨rfl,0,rfl⟩
theorem EqInts_no (A B : Option Addr) (n c d j : Nat) (xs ys : List Int) (w : World) (hx : xs.length=n) (hy : ys.length=n) (hm : n≤9223372036854775807)
  (hA : IntsAt w A xs) (hB : IntsAt w B ys) (hj : j < n) (hbad : xs.getD j 0 ≠ ys.getD j 0) :
  Calls Tryz.prog 69 #[.slice A n c,.slice B n d] w fun e w' => e=.returned (.bool false)∧∃ q,w'=w.drewN q:=by
 have HB:=hide hbad
 clear hbad
 have HX:=hide hx
 have HY:=hide hy
 have hx' : n≤xs.length:=by omega
 have hy' : n≤ys.length:=by omega
 clear hx hy
 go_enter Tryz.func69,Tryz.ntmps69
 go_wp2
 go_loopw [13] (fun i wr => ∃ k q : Nat,k≤j∧i=.int .i64 k∧wr=w.drewN q) (fun i _ => n - (intOf i).toNat)
 case atStart => exact ⟨0,0,Nat.zero_le _,rfl,rfl⟩
 case round =>
  obtain ⟨k,q,hk,rfl,rfl⟩:=hrel
  have hlt : k < n:=by omega
  obtain ⟨b,o,rfl,hc⟩:=hA k (by omega)
  obtain ⟨b',o',rfl,hc'⟩:=hB k (by omega)
  clear hA hB
  by_cases h0 : xs.getD k 0=ys.getD k 0
  ·have hkj : k < j:=by
    rcases Nat.lt_or_ge k j with hlt | hge
    ·exact hlt
    ·obtain rfl : k=j:=by omega
     exact absurd h0 HB.out
   rw [← h0] at hc'
   clear h0 HB
   generalize xs.getD k 0=z at *
   go_wp2
   go_quiet (fail)
   go_wp2
   go_roundw
   case rel => exact ⟨k + 1,_,by omega,by go_num,rfl⟩
   case measure => simp [intOf]; omega
  ·have h0' : (xs.getD k 0 != ys.getD k 0)=true:=by simpa using h0
   clear h0 HB
   generalize xs.getD k 0=z at *
   generalize ys.getD k 0=z' at *
   go_wp2
   go_quiet (fail)
   go_wp2
   go_ret
   exact ⟨rfl,_,World.drewN_drewN _ _ _⟩
theorem EqInts_yes (A B : Option Addr) (n c d : Nat) (xs : List Int) (w : World) (hx : xs.length=n) (hm : n≤9223372036854775807)
  (hA : IntsAt w A xs) (hB : IntsAt w B xs) :
  Calls Tryz.prog 69 #[.slice A n c,.slice B n d] w fun e w' => e=.returned (.bool true)∧∃ q,w'=w.drewN q:=by
 have HX:=hide hx
 have hx' : n≤xs.length:=by omega
 clear hx
 go_enter Tryz.func69,Tryz.ntmps69
 go_wp2
 go_loopw [13] (fun i wr => ∃ k q : Nat,k≤n∧i=.int .i64 k∧wr=w.drewN q) (fun i _ => n - (intOf i).toNat)
 case atStart => exact ⟨0,0,Nat.zero_le _,rfl,rfl⟩
 case round =>
  obtain ⟨k,q,hk,rfl,rfl⟩:=hrel
  by_cases hlt : k < n
  ·obtain ⟨b,o,rfl,hc⟩:=hA k (by omega)
   obtain ⟨b',o',rfl,hc'⟩:=hB k (by omega)
   clear hA hB
   generalize xs.getD k 0=z at *
   go_wp2
   go_quiet (fail)
   go_wp2
   go_roundw
   case rel => exact ⟨k + 1,_,by omega,by go_num,rfl⟩
   case measure => simp [intOf]; omega
  ·clear hA hB
   go_wp2
   go_ret
   exact ⟨rfl,_,rfl⟩
theorem EqInts_any (A B : Option Addr) (n m c d : Nat) (xs ys : List Int) (w : World) (hx : xs.length=n) (hy : ys.length=m) (hn : n≤9223372036854775807) (hm : m≤9223372036854775807)
  (hA : IntsAt w A xs) (hB : IntsAt w B ys) :
  Calls Tryz.prog 69 #[.slice A n c,.slice B m d] w fun e w' => e=.returned (.bool (decide (xs=ys)))∧∃ q,w'=w.drewN q:=by
 by_cases hnm : n=m
 ·subst hnm
  by_cases hxy : xs=ys
  ·subst hxy
   rw [decide_eq_true rfl]
   exact EqInts_yes A B n c d xs w hx hn hA hB
  ·rw [decide_eq_false hxy]
   have : ∃ j,j < n∧xs.getD j 0 ≠ ys.getD j 0:=by
    by_cases hall : ∀ j,j < n→xs.getD j 0=ys.getD j 0
    ·exfalso
     apply hxy
     apply List.ext_getElem (by omega)
     intro j h1 h2
     have:=hall j (by omega)
     simpa [h1,h2] using this
    ·simpa using hall
   obtain ⟨j,hj,hbad⟩:=this
   exact EqInts_no A B n c d j xs ys w hx hy hn hA hB hj hbad
 ·have : xs ≠ ys:=fun e => hnm (by rw [← hx,← hy,e])
  rw [decide_eq_false this]
  exact EqInts_len A B n m c d w hnm hn hm
end Go.Proofs.YtdoibgmmijhlfaaGreatDoor
namespace Go.Proofs.YtdoibgmmijhlfaaGreatDoor
open Go.ChangeShapes Go.WideShapes Go.ChangeAt Go.RowKit
set_option linter.unusedVariables false
theorem eq_ext {f : FuncId} {args : Array Value} {w : World} {v : Value} (h : Calls Tryz.prog f args w fun e w' => e=.returned v∧∃ q,w'=w.drewN q) : Calls Tryz.prog f args w fun e w' => e=.returned v∧Ext w w' :=
 h.mono fun _ _ ⟨he,q,hw⟩ => ⟨he,by rw [hw]; exact ext_drewN (Below.refl _ _) q⟩
theorem PSame_yes (P : PosM) (v u : Value) (w : World) (hP : PosAt w v P) (hQ : PosAt w u P) (h0 : P.cells.length≤100000) (h1 : P.hand0.length≤100000) (h2 : P.hand1.length≤100000) :
  Calls Tryz.prog 40 #[v,u] w fun e w' => e=.returned (.bool true)∧Ext w w':=by
 obtain ⟨cA,cc,aA,ac,bA,bc,rfl,hcA,haA,hbA,-⟩:=hP
 obtain ⟨dA,dc,eA,ec,fA,fc,rfl,hdA,heA,hfA,-⟩:=hQ
 have E0:=hide (fun W (hW : Ext w W) => eq_ext (EqInts_yes cA dA P.cells.length cc dc P.cells W rfl (by omega) (hcA.ext hW) (hdA.ext hW)))
 have E1:=hide (fun W (hW : Ext w W) => eq_ext (EqInts_yes aA eA P.hand0.length ac ec P.hand0 W rfl (by omega) (haA.ext hW) (heA.ext hW)))
 have E2:=hide (fun W (hW : Ext w W) => eq_ext (EqInts_yes bA fA P.hand1.length bc fc P.hand1 W rfl (by omega) (hbA.ext hW) (hfA.ext hW)))
 clear hcA haA hbA hdA heA hfA
 go_enter Tryz.func40,Tryz.ntmps40
 go_wp2_with fail
 obtain ⟨x1,k1,k2⟩:=blks2 w #[.slice cA P.cells.length cc,.slice aA P.hand0.length ac,.slice bA P.hand1.length bc,.int .i64 P.turn,.int .i64 P.quiet] 43 #[.slice dA P.cells.length dc,.slice eA P.hand0.length ec,.slice fA P.hand1.length fc,.int .i64 P.turn,.int .i64 P.quiet] 43
 refine (E0.out _ x1).mono ?_
 rintro e w2 ⟨rfl,x2⟩
 have f1:=(k1.ext x2).cell
 have f2:=(k2.ext x2).cell
 go_wp2_with fail
 refine (E1.out _ (ext_trans x1 x2)).mono ?_
 rintro e w3 ⟨rfl,x3⟩
 have g1:=((k1.ext x2).ext x3).cell
 have g2:=((k2.ext x2).ext x3).cell
 clear f1 f2
 go_wp2_with fail
 refine (E2.out _ (ext_trans x1 (ext_trans x2 x3))).mono ?_
 rintro e w4 ⟨rfl,x4⟩
 have i1:=(((k1.ext x2).ext x3).ext x4).cell
 have i2:=(((k2.ext x2).ext x3).ext x4).cell
 clear g1 g2
 go_wp2
 go_ret
 exact ⟨rfl,ext_trans x1 (ext_trans x2 (ext_trans x3 x4))⟩
end Go.Proofs.YtdoibgmmijhlfaaGreatDoor
namespace Go.Proofs.YtdoibgmmijhlfaaGreatDoor
open Go.ChangeShapes Go.WideShapes Go.ChangeAt Go.RowKit
set_option linter.unusedVariables false
def charB (s : ByteArray) (i : Nat) : Bool:=letterB (s.data.toList.getD i 0) || (decide (0 < i) && digitB (s.data.toList.getD i 0))
theorem byte_at (s : ByteArray) (k : Nat) (h : k < s.size) : s.data.toList.getD k 0=s[k]:=by
 have h' : k < s.data.toList.length:=by simpa using h
 rw [List.getD_eq_getElem?_getD,List.getElem?_eq_getElem h']
 rfl
theorem charB_iff (s : ByteArray) (k : Nat) (h : k < s.size) : charB s k=true ↔ ((65≤(s[k].toNat : Int)∧(s[k].toNat : Int)≤90)∨(0 < k∧48≤(s[k].toNat : Int)∧(s[k].toNat : Int)≤57)):=by
 unfold charB letterB digitB
 rw [byte_at s k h]
 simp only [Bool.or_eq_true,Bool.and_eq_true,decide_eq_true_eq,UInt8.le_iff_toNat_le]
 simp
 omega
theorem nameB_iff (s : ByteArray) : nameB s=true ↔ (1≤s.size∧s.size≤8∧∀ k,k < s.size→charB s k=true):=by
 unfold nameB
 simp only [Bool.and_eq_true,decide_eq_true_eq,List.all_eq_true,List.mem_range]
 constructor
 ·rintro ⟨⟨h1,h2⟩,h3⟩; exact ⟨h1,h2,fun k hk => h3 k hk⟩
 ·rintro ⟨h1,h2,h3⟩; exact ⟨⟨h1,h2⟩,fun k hk => h3 k hk⟩
theorem Name_any (s : ByteArray) (w : World) (hs : s.size≤9223372036854775807) :
  Calls Tryz.prog 50 #[.string s] w fun e w' => e=.returned (.bool (nameB s))∧w=w':=by
 have HS : Hid (∀ k,k < s.size→charB s k=false→nameB s=false):=hide (fun k hk hc => by
  cases h : nameB s
  ·rfl
  ·have:=(nameB_iff s).1 h
   rw [this.2.2 k hk] at hc
   cases hc)
 have HE : Hid ((∀ k,k < s.size→charB s k=true)→nameB s=decide (1≤s.size∧s.size≤8)):=hide (fun h => by
  by_cases h1 : 1≤s.size∧s.size≤8
  ·rw [decide_eq_true h1]
   exact (nameB_iff s).2 ⟨h1.1,h1.2,h⟩
  ·rw [decide_eq_false h1]
   cases h2 : nameB s
   ·rfl
   ·have:=(nameB_iff s).1 h2
    exact absurd ⟨this.1,this.2.1⟩ h1)
 generalize nameB s=N at *
 go_enter Tryz.func50,Tryz.ntmps50
 go_wp2
 go_loop [3,4,7] (fun _ _ i => ∃ k : Nat,k≤s.size∧i=.int .i64 k∧Hid (∀ j,j < k→charB s j=true)) (fun _ _ i => s.size - (intOf i).toNat)
 case atStart => exact ⟨0,Nat.zero_le _,rfl,hide (fun j hj => by omega)⟩
 case round =>
  obtain ⟨k,hk,rfl,hall⟩:=hrel
  by_cases hlt : k < s.size
  ·have hci:=charB_iff s k hlt
   cases hc : charB s k
   ·have HF:=hide (HS.out k hlt hc)
    have hbad : ((s[k].toNat : Int) < 65∧k=0)∨(65≤(s[k].toNat : Int)∧90 < (s[k].toNat : Int)∧k=0)∨((s[k].toNat : Int) < 48∧0 < k)∨(57 < (s[k].toNat : Int)∧(s[k].toNat : Int) < 65∧0 < k)∨(65≤(s[k].toNat : Int)∧90 < (s[k].toNat : Int)∧0 < k):=by
     rw [hc] at hci
     simp only [Bool.false_eq_true,false_iff] at hci
     omega
    clear hci hc HS HE hall
    rcases hbad with ⟨h1,h2⟩ | ⟨h1,h2,h3⟩ | ⟨h1,h2⟩ | ⟨h1,h2,h3⟩ | ⟨h1,h2,h3⟩
    ·have e1 : decide (65≤(s[k].toNat : Int))=false:=by simp; omega
     have e5 : ((k : Int) == 0)=true:=by simp; omega
     clear h1 h2
     go_wp2
     go_ret
     exact ⟨by rw [HF.out]; rfl,rfl⟩
    ·have e1 : decide (65≤(s[k].toNat : Int))=true:=by simp; omega
     have e2 : decide ((s[k].toNat : Int)≤90)=false:=by simp; omega
     have e5 : ((k : Int) == 0)=true:=by simp; omega
     clear h1 h2 h3
     go_wp2
     go_ret
     exact ⟨by rw [HF.out]; rfl,rfl⟩
    ·have e1 : decide (65≤(s[k].toNat : Int))=false:=by simp; omega
     have e3 : decide ((s[k].toNat : Int) < 48)=true:=by simp; omega
     have e5 : ((k : Int) == 0)=false:=by simp; omega
     clear h1 h2
     go_wp2
     go_ret
     exact ⟨by rw [HF.out]; rfl,rfl⟩
    ·have e1 : decide (65≤(s[k].toNat : Int))=false:=by simp; omega
     have e3 : decide ((s[k].toNat : Int) < 48)=false:=by simp; omega
     have e4 : decide (57 < (s[k].toNat : Int))=true:=by simp; omega
     have e5 : ((k : Int) == 0)=false:=by simp; omega
     clear h1 h2 h3
     go_wp2
     go_ret
     exact ⟨by rw [HF.out]; rfl,rfl⟩
    ·have e1 : decide (65≤(s[k].toNat : Int))=true:=by simp; omega
     have e2 : decide ((s[k].toNat : Int)≤90)=false:=by simp; omega
     have e3 : decide ((s[k].toNat : Int) < 48)=false:=by simp; omega
     have e4 : decide (57 < (s[k].toNat : Int))=true:=by simp; omega
     have e5 : ((k : Int) == 0)=false:=by simp; omega
     clear h1 h2 h3
     go_wp2
     go_ret
     exact ⟨by rw [HF.out]; rfl,rfl⟩
   ·have HALL : Hid (∀ j,j < k + 1→charB s j=true):=hide (fun j hj => by
     by_cases e : j=k
     ·subst e; exact hc
     ·exact hall.out j (by omega))
    rw [hc] at hci
    have hci:=hci.1 rfl
    clear hc HS HE hall
    rcases hci with ⟨h1,h2⟩ | ⟨h1,h2,h3⟩
    ·have e1 : decide (65≤(s[k].toNat : Int))=true:=by simp; omega
     have e2 : decide ((s[k].toNat : Int)≤90)=true:=by simp; omega
     clear h1 h2
     go_wp2
     go_round
     case rel => exact ⟨k + 1,by omega,by go_num,HALL⟩
     case measure => simp [intOf]; omega
    ·have e1 : decide (65≤(s[k].toNat : Int))=false:=by simp; omega
     have e3 : decide ((s[k].toNat : Int) < 48)=false:=by simp; omega
     have e4 : decide (57 < (s[k].toNat : Int))=false:=by simp; omega
     have e5 : ((k : Int) == 0)=false:=by simp; omega
     clear h1 h2 h3
     go_wp2
     go_round
     case rel => exact ⟨k + 1,by omega,by go_num,HALL⟩
     case measure => simp [intOf]; omega
  ·obtain rfl : k=s.size:=by omega
   have HF:=hide (HE.out hall.out)
   clear HS HE hall
   by_cases h0 : s.size=0
   ·have hl : s.toList=[]:=by rw [ByteArray.toList_eq]; exact List.eq_nil_of_length_eq_zero (by simpa using h0)
    have HF0 : Hid (N=false):=hide (by rw [HF.out]; exact decide_eq_false (by omega))
    clear HF h0
    go_wp2
    go_ret
    exact ⟨by rw [HF0.out]; rfl,rfl⟩
   ·have hl : ¬ s.toList=[]:=by
     intro h
     rw [ByteArray.toList_eq] at h
     have:=congrArg List.length h
     simp at this
     exact h0 (by rw [this]; rfl)
    have hl2 : s.toList.isEmpty=false:=by simpa using hl
    by_cases h8 : s.size≤8
    ·have HF0 : Hid (N=true):=hide (by rw [HF.out]; exact decide_eq_true (by omega))
     have h8' : decide ((s.size : Int)≤8)=true:=by simp; omega
     clear HF h0
     go_wp2
     go_ret
     exact ⟨by rw [HF0.out]; rfl,rfl⟩
    ·have HF0 : Hid (N=false):=hide (by rw [HF.out]; exact decide_eq_false (by omega))
     have h8' : decide ((s.size : Int)≤8)=false:=by simp; omega
     clear HF h0
     go_wp2
     go_ret
     exact ⟨by rw [HF0.out]; rfl,rfl⟩
end Go.Proofs.YtdoibgmmijhlfaaGreatDoor
namespace Go.Proofs.YtdoibgmmijhlfaaGreatDoor
open Go.ChangeShapes Go.WideShapes Go.ChangeAt Go.RowKit
set_option linter.unusedVariables false
def sameB (P Q : PosM) : Bool:=decide (P.cells=Q.cells) && (decide (P.hand0=Q.hand0) && (decide (P.hand1=Q.hand1) && decide (P.turn=Q.turn)))
set_option maxHeartbeats 2000000 in
set_option maxRecDepth 100000 in
theorem PSame_any (P Q : PosM) (v u : Value) (w : World) (hP : PosAt w v P) (hQ : PosAt w u Q) (h0 : P.cells.length≤100000) (h1 : P.hand0.length≤100000) (h2 : P.hand1.length≤100000) (g0 : Q.cells.length≤100000) (g1 : Q.hand0.length≤100000) (g2 : Q.hand1.length≤100000) :
  Calls Tryz.prog 40 #[v,u] w fun e w' => e=.returned (.bool (sameB P Q))∧Ext w w':=by
 obtain ⟨cA,cc,aA,ac,bA,bc,rfl,hcA,haA,hbA,-⟩:=hP
 obtain ⟨dA,dc,eA,ec,fA,fc,rfl,hdA,heA,hfA,-⟩:=hQ
 have E0:=hide (fun W (hW : Ext w W) => eq_ext (EqInts_any cA dA P.cells.length Q.cells.length cc dc P.cells Q.cells W rfl rfl (by omega) (by omega) (hcA.ext hW) (hdA.ext hW)))
 have E1:=hide (fun W (hW : Ext w W) => eq_ext (EqInts_any aA eA P.hand0.length Q.hand0.length ac ec P.hand0 Q.hand0 W rfl rfl (by omega) (by omega) (haA.ext hW) (heA.ext hW)))
 have E2:=hide (fun W (hW : Ext w W) => eq_ext (EqInts_any bA fA P.hand1.length Q.hand1.length bc fc P.hand1 Q.hand1 W rfl rfl (by omega) (by omega) (hbA.ext hW) (hfA.ext hW)))
 have HSB:=hide (show sameB P Q=(decide (P.cells=Q.cells) && (decide (P.hand0=Q.hand0) && (decide (P.hand1=Q.hand1) && decide (P.turn=Q.turn)))) from rfl)
 clear hcA haA hbA hdA heA hfA
 obtain ⟨x1,k1,k2⟩:=blks2 w #[.slice cA P.cells.length cc,.slice aA P.hand0.length ac,.slice bA P.hand1.length bc,.int .i64 P.turn,.int .i64 P.quiet] 43 #[.slice dA Q.cells.length dc,.slice eA Q.hand0.length ec,.slice fA Q.hand1.length fc,.int .i64 Q.turn,.int .i64 Q.quiet] 43
 have K1:=hide k1
 have K2:=hide k2
 have X1:=hide x1
 clear x1 k1 k2
 have f1:=K1.out.cell
 have f2:=K2.out.cell
 cases b0 : decide (P.cells=Q.cells)
 ·have HV : Hid (sameB P Q=false):=hide (by rw [HSB.out,b0]; rfl)
  rw [b0] at E0
  go_enter Tryz.func40,Tryz.ntmps40
  go_wp2_with fail
  refine (E0.out _ X1.out).mono ?_
  rintro e w2 ⟨rfl,x2⟩
  have X2:=hide (ext_trans X1.out x2)
  have K10:=hide (K1.out.ext x2)
  have K20:=hide (K2.out.ext x2)
  clear f1 f2 x2
  have f1:=K10.out.cell
  have f2:=K20.out.cell
  go_wp2
  go_ret
  exact ⟨by rw [HV.out]; first | rfl | simp,X2.out⟩
 ·rw [b0] at E0
  cases b1 : decide (P.hand0=Q.hand0)
  ·have HV : Hid (sameB P Q=false):=hide (by rw [HSB.out,b0,b1]; rfl)
   rw [b1] at E1
   go_enter Tryz.func40,Tryz.ntmps40
   go_wp2_with fail
   refine (E0.out _ X1.out).mono ?_
   rintro e w2 ⟨rfl,x2⟩
   have X2:=hide (ext_trans X1.out x2)
   have K10:=hide (K1.out.ext x2)
   have K20:=hide (K2.out.ext x2)
   clear f1 f2 x2
   have f1:=K10.out.cell
   have f2:=K20.out.cell
   go_wp2_with fail
   refine (E1.out _ X2.out).mono ?_
   rintro e w3 ⟨rfl,x3⟩
   have X3:=hide (ext_trans X2.out x3)
   have K11:=hide (K10.out.ext x3)
   have K21:=hide (K20.out.ext x3)
   clear f1 f2 x3
   have f1:=K11.out.cell
   have f2:=K21.out.cell
   go_wp2
   go_ret
   exact ⟨by rw [HV.out]; first | rfl | simp,X3.out⟩
  ·rw [b1] at E1
   cases b2 : decide (P.hand1=Q.hand1)
   ·have HV : Hid (sameB P Q=false):=hide (by rw [HSB.out,b0,b1,b2]; rfl)
    rw [b2] at E2
    go_enter Tryz.func40,Tryz.ntmps40
    go_wp2_with fail
    refine (E0.out _ X1.out).mono ?_
    rintro e w2 ⟨rfl,x2⟩
    have X2:=hide (ext_trans X1.out x2)
    have K10:=hide (K1.out.ext x2)
    have K20:=hide (K2.out.ext x2)
    clear f1 f2 x2
    have f1:=K10.out.cell
    have f2:=K20.out.cell
    go_wp2_with fail
    refine (E1.out _ X2.out).mono ?_
    rintro e w3 ⟨rfl,x3⟩
    have X3:=hide (ext_trans X2.out x3)
    have K11:=hide (K10.out.ext x3)
    have K21:=hide (K20.out.ext x3)
    clear f1 f2 x3
    have f1:=K11.out.cell
    have f2:=K21.out.cell
    go_wp2_with fail
    refine (E2.out _ X3.out).mono ?_
    rintro e w4 ⟨rfl,x4⟩
    have X4:=hide (ext_trans X3.out x4)
    have K12:=hide (K11.out.ext x4)
    have K22:=hide (K21.out.ext x4)
    clear f1 f2 x4
    have f1:=K12.out.cell
    have f2:=K22.out.cell
    go_wp2
    go_ret
    exact ⟨by rw [HV.out]; first | rfl | simp,X4.out⟩
   ·rw [b2] at E2
    by_cases h3 : P.turn=Q.turn
    ·have HV : Hid (sameB P Q=true):=hide (by rw [HSB.out,b0,b1,b2]; simp [h3])
     have t3 : (P.turn == Q.turn)=true:=by simpa using h3
     clear h3
     go_enter Tryz.func40,Tryz.ntmps40
     go_wp2_with fail
     refine (E0.out _ X1.out).mono ?_
     rintro e w2 ⟨rfl,x2⟩
     have X2:=hide (ext_trans X1.out x2)
     have K10:=hide (K1.out.ext x2)
     have K20:=hide (K2.out.ext x2)
     clear f1 f2 x2
     have f1:=K10.out.cell
     have f2:=K20.out.cell
     go_wp2_with fail
     refine (E1.out _ X2.out).mono ?_
     rintro e w3 ⟨rfl,x3⟩
     have X3:=hide (ext_trans X2.out x3)
     have K11:=hide (K10.out.ext x3)
     have K21:=hide (K20.out.ext x3)
     clear f1 f2 x3
     have f1:=K11.out.cell
     have f2:=K21.out.cell
     go_wp2_with fail
     refine (E2.out _ X3.out).mono ?_
     rintro e w4 ⟨rfl,x4⟩
     have X4:=hide (ext_trans X3.out x4)
     have K12:=hide (K11.out.ext x4)
     have K22:=hide (K21.out.ext x4)
     clear f1 f2 x4
     have f1:=K12.out.cell
     have f2:=K22.out.cell
     go_wp2
     go_ret
     exact ⟨by rw [HV.out]; first | rfl | simp,X4.out⟩
    ·have HV : Hid (sameB P Q=false):=hide (by rw [HSB.out,b0,b1,b2]; simp [h3])
     have t3 : (P.turn == Q.turn)=false:=by simpa using h3
     clear h3
     go_enter Tryz.func40,Tryz.ntmps40
     go_wp2_with fail
     refine (E0.out _ X1.out).mono ?_
     rintro e w2 ⟨rfl,x2⟩
     have X2:=hide (ext_trans X1.out x2)
     have K10:=hide (K1.out.ext x2)
     have K20:=hide (K2.out.ext x2)
     clear f1 f2 x2
     have f1:=K10.out.cell
     have f2:=K20.out.cell
     go_wp2_with fail
     refine (E1.out _ X2.out).mono ?_
     rintro e w3 ⟨rfl,x3⟩
     have X3:=hide (ext_trans X2.out x3)
     have K11:=hide (K10.out.ext x3)
     have K21:=hide (K20.out.ext x3)
     clear f1 f2 x3
     have f1:=K11.out.cell
     have f2:=K21.out.cell
     go_wp2_with fail
     refine (E2.out _ X3.out).mono ?_
     rintro e w4 ⟨rfl,x4⟩
     have X4:=hide (ext_trans X3.out x4)
     have K12:=hide (K11.out.ext x4)
     have K22:=hide (K21.out.ext x4)
     clear f1 f2 x4
     have f1:=K12.out.cell
     have f2:=K22.out.cell
     go_wp2
     go_ret
     exact ⟨by rw [HV.out]; first | rfl | simp,X4.out⟩
end Go.Proofs.YtdoibgmmijhlfaaGreatDoor
