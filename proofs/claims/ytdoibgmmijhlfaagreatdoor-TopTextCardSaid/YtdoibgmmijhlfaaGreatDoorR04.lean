/- StrLayB Fine Concat OwnR RowIn PlaceE PlaceS PlaceK PlaceH PlaceJ PlaceG DoorT PlaceY PlaceB -/
import Derived.Shelf.Strings.Builder1
import Derived.Shelf.Strings.Builder2
import Derived.Shelf.Strings.OnBuilder
import Derived.Shelf.Small.Wraps
import Derived.Shelf.Utf8.RuneCount
import Derived.Shelf.Strconv.Atoi
import Derived.Shelf.Strconv.Itoa0
import Derived.Shelf.Strconv.Itoa1
import Derived.Shelf.LaysM
import Derived.Shelf.Strconv.Itoa2
import Derived.Shelf.Strconv.Itoa3
import Derived.Shelf.Strconv.AtoiErrFast
import Derived.Shelf.Strconv.ParseIntEmpty
import Derived.Shelf.Strconv.AtoiFail
import Derived.Shelf.Strconv.Clone
import Derived.Shelf.Strconv.SyntaxError
import Derived.Shelf.LaysC
import Derived.Shelf.Strconv.ToError
import Derived.Shelf.Strconv.Lower
import Derived.Shelf.Strconv.ParseUint10
import Derived.Shelf.Strconv.ParseUint10Empty
import Derived.Shelf.Strconv.ParseUint10Any
import Derived.Shelf.Strconv.ParseInt10
import Derived.Shelf.Strconv.AtoiLong
import Derived.Shelf.Strconv.AtoiInnerAll
import Derived.Shelf.Strconv.RangeError
import Derived.Shelf.Strconv.ToErrorRange
import Derived.Shelf.Strconv.AtoiAll
import Derived.Shelf.Strings.Search1
import Derived.Shelf.Strings.Search2
import Derived.Shelf.Strings.Search3
import Derived.Shelf.Strings.Count
import Derived.Shelf.Strings.Shaped
import Derived.Shelf.Strings.Prefix
import Derived.Shelf.Strings.Split
import Derived.Shelf.Strings.SplitShaped
import Derived.Shelf.Unicode.Decode
import Derived.Shelf.Strings.RuneCount
import Derived.Shelf.Strings.Explode
import Derived.Shelf.Unicode.DecodeSlow
import Derived.Shelf.Unicode.DecodeAny
import Derived.Shelf.Slices.Turned
import Derived.Ground.Names2Prog
import Derived.Shelf.Slices.ReverseS
import Derived.Shelf.Slices.Clone
import Derived.Shelf.Slices.Delete
import Derived.Shelf.Slices.Cells
import Derived.Shelf.Slices.Empties
import Derived.Ground.SlgnProg
import Derived.Shelf.SlicesE.Clone
import Derived.Test.YtdoibgmmijhlfaaGreatDoorProg
import Derived.Test.YtdoibgmmijhlfaaGreatDoorR00
import Derived.Test.YtdoibgmmijhlfaaGreatDoorRows
import Derived.WalkKit
import Derived.ProofKit
import Derived.OpenShut
import Derived.Outline
import Derived.Deep.QuietTactic
import Derived.BigQuiet
import Derived.Lib.AppendZeros
import Derived.Test.YtdoibgmmijhlfaaGreatDoorR02
import Derived.Test.YtdoibgmmijhlfaaGreatDoorR01
import Derived.Test.YtdoibgmmijhlfaaGreatDoorR03
import Derived.Lib.SmallJoins
import Derived.Deep.Cut
import Derived.Laws.MakeOwn
import Derived.Test.YtdoibgmmijhlfaaGreatDoorCards
import Derived.Test.YtdoibgmmijhlfaaGreatDoorTie
import Derived.Test.YtdoibgmmijhlfaaGreatDoorChecked
import Derived.LaidMore
import Derived.LaidOnce
import Derived.Lay
import Derived.ChangeOld
import Derived.SevenTiedAt
import Derived.HandedShaped
import Derived.Shelf.Vars
import Derived.Stop.Joined
import Derived.Lib.LaidTab
import Derived.Lib.LaidU8
import Derived.Lib.OwnBridge
namespace Go.Proofs
open Go.Shelf
def Tryz.lays104_ren : Go.Shelf.Ren:=⟨fun | 104 => 24 | 211 => 60 | 207 => 92 | n => n,fun | 9 => 9 | 4 => 4 | 24 => 69 | 3 => 3 | n => n,fun | n => n⟩
theorem Tryz.lays104 : Go.Proofs.Lays.n104 Tryz.prog Tryz.lays104_ren:={
 mixed:=by kernel_rfl
 f104:=Tryz.func24.trans (congrArg some (by kernel_rfl))
 f207:=Tryz.func92.trans (congrArg some (by kernel_rfl))
 f211:=Tryz.func60.trans (congrArg some (by kernel_rfl))
 t3:=Tryz.underlying3
 a3:=Tryz.isAgg3
 z3:=Tryz.sizeOf3
 v3:=Tryz.zeroValue3
 t4:=Tryz.underlying4
 a4:=Tryz.isAgg4
 z4:=Tryz.sizeOf4
 v4:=Tryz.zeroValue4
 t9:=Tryz.underlying9
 a9:=Tryz.isAgg9
 z9:=Tryz.sizeOf9
 v9:=Tryz.zeroValue9
 t24:=Tryz.underlying69
 a24:=Tryz.isAgg69
 z24:=Tryz.sizeOf69
 v24:=Tryz.zeroValue69 }
open Go.RowKit in
theorem Tryz.strings_CutSuffix (s p : ByteArray) (w : World) (hs : s.size≤9223372036854775807) :
  Calls Tryz.prog 24 #[.string s,.string p] w fun e w' => e=.returned (.tuple #[.string ⟨(Lib.trimSuffix s.data.toList p.data.toList).toArray⟩,.bool (Lib.hasSuffix s.data.toList p.data.toList)])∧w'=w:=Any.strings_CutSuffix Tryz.lays104 s p w hs
def Tryz.laysM316_ren : Go.Shelf.Ren:=⟨fun | 316 => 62 | n => n,fun | 9 => 9 | 3 => 3 | 4 => 4 | 37 => 63 | 0 => 0 | 127 => 136 | 5 => 5 | n => n,fun | n => n⟩
theorem Tryz.laysM316 : Go.Proofs.LaysM.n316 Tryz.prog Tryz.laysM316_ren:={
 mixed:=by kernel_rfl
 f316:=Tryz.func62.trans (congrArg some (by kernel_rfl))
 t0:=Tryz.underlying0
 a0:=Tryz.isAgg0
 z0:=Tryz.sizeOf0
 v0:=Tryz.zeroValue0
 t3:=Tryz.underlying3
 a3:=Tryz.isAgg3
 z3:=Tryz.sizeOf3
 v3:=Tryz.zeroValue3
 t4:=Tryz.underlying4
 a4:=Tryz.isAgg4
 z4:=Tryz.sizeOf4
 v4:=Tryz.zeroValue4
 t9:=Tryz.underlying9
 a9:=Tryz.isAgg9
 z9:=Tryz.sizeOf9
 v9:=Tryz.zeroValue9
 t37:=Tryz.underlying63
 a37:=Tryz.isAgg63
 z37:=Tryz.sizeOf63
 v37:=Tryz.zeroValue63
 t127:=Tryz.underlying136
 a127:=Tryz.isAgg136
 z127:=Tryz.sizeOf136
 v127:=Tryz.zeroValue136
 t5:=Tryz.underlying5
 a5:=Tryz.isAgg5
 z5:=Tryz.sizeOf5
 v5:=Tryz.zeroValue5
 i0:=by kernel_rfl
 i3:=by kernel_rfl
 i4:=by kernel_rfl
 i5:=by kernel_rfl
 i9:=by kernel_rfl
 i37:=by kernel_rfl
 i127:=by kernel_rfl }
open Go.RowKit in
theorem Tryz.stringslite_Clone (s : ByteArray) (w : World) (hlim : s.size≤281474976710656) :
  Calls Tryz.prog 62 #[.string s] w fun e w' => e=.returned (.string s)∧Below w.heap.size w w':=Any.stringslite_Clone Tryz.laysM316 s w hlim
def Tryz.lays99_ren : Go.Shelf.Ren:=⟨fun | 99 => 65 | 206 => 100 | n => n,fun | 9 => 9 | 4 => 4 | 3 => 3 | n => n,fun | n => n⟩
theorem Tryz.lays99 : Go.Proofs.Lays.n99 Tryz.prog Tryz.lays99_ren:={
 mixed:=by kernel_rfl
 f99:=Tryz.func65.trans (congrArg some (by kernel_rfl))
 f206:=Tryz.func100.trans (congrArg some (by kernel_rfl))
 t3:=Tryz.underlying3
 a3:=Tryz.isAgg3
 z3:=Tryz.sizeOf3
 v3:=Tryz.zeroValue3
 t4:=Tryz.underlying4
 a4:=Tryz.isAgg4
 z4:=Tryz.sizeOf4
 v4:=Tryz.zeroValue4
 t9:=Tryz.underlying9
 a9:=Tryz.isAgg9
 z9:=Tryz.sizeOf9
 v9:=Tryz.zeroValue9 }
open Go.RowKit Go.Lib in
theorem Tryz.strings_HasPrefix (s p : ByteArray) (w : World) :
  Calls Tryz.prog 65 #[.string s,.string p] w fun e w' => e=.returned (.bool (Lib.hasPrefix s.data.toList p.data.toList))∧w'=w:=Any.strings_HasPrefix Tryz.lays99 s p w
def Tryz.lays109_ren : Go.Shelf.Ren:=⟨fun | 109 => 66 | n => n,fun | 31 => 54 | 9 => 9 | 3 => 3 | 0 => 0 | 4 => 4 | n => n,fun | n => n⟩
theorem Tryz.lays109 : Go.Proofs.Lays.n109 Tryz.prog Tryz.lays109_ren:={
 mixed:=by kernel_rfl
 f109:=Tryz.func66.trans (congrArg some (by kernel_rfl))
 t0:=Tryz.underlying0
 a0:=Tryz.isAgg0
 z0:=Tryz.sizeOf0
 v0:=Tryz.zeroValue0
 t3:=Tryz.underlying3
 a3:=Tryz.isAgg3
 z3:=Tryz.sizeOf3
 v3:=Tryz.zeroValue3
 t4:=Tryz.underlying4
 a4:=Tryz.isAgg4
 z4:=Tryz.sizeOf4
 v4:=Tryz.zeroValue4
 t9:=Tryz.underlying9
 a9:=Tryz.isAgg9
 z9:=Tryz.sizeOf9
 v9:=Tryz.zeroValue9
 t31:=Tryz.underlying54
 a31:=Tryz.isAgg54
 z31:=Tryz.sizeOf54
 v31:=Tryz.zeroValue54 }
open Go.Lib in
theorem Tryz.slices_Index_string (b off n c : Nat) (zs : List ByteArray) (x : ByteArray) (w : World) (hz : n≤zs.length) (hbig : n≤9223372036854775807) (hc : ∀ j,j < zs.length→w.cell? ⟨b,off + j,none⟩=some (.string (zs.getD j ByteArray.empty))) :
  Calls Tryz.prog 66 #[.slice (some ⟨b,off,none⟩) n c,.string x] w fun e w' => e=.returned (.int .i64 (Lib.idxOfS (zs.take n) x))∧w'=w:=Any.slices_Index_string Tryz.lays109 b off n c zs x w hz hbig hc
end Go.Proofs
namespace Go.Proofs.YtdoibgmmijhlfaaGreatDoor
open Go.ChangeShapes Go.WideShapes Go.ChangeAt Go.RowKit
theorem fine1_any (z : Int) (w : World) :
  Calls Tryz.prog 35 #[.int .i64 z] w fun e w' => e=.returned (.bool (z != 0))∧w=w':=by
 go_enter Tryz.func35,Tryz.ntmps35
 go_wp2
 go_ret
 exact ⟨rfl,rfl⟩
theorem fineIdx_no (A : Option Addr) (n c : Nat) (zs : List Int) (w : World) (hn : zs.length=n) (hm : n≤9223372036854775807)
  (hz : IntsAt w A zs) (hall : ∀ i,i < n→zs.getD i 0=0) :
  Calls Tryz.prog 67 #[.slice A n c,.func (.func 35) #[] #[]] w fun e w' => e=.returned (.int .i64 (-1))∧w=w':=by
 subst hn
 go_enter Tryz.func67,Tryz.ntmps67
 go_wp2
 go_loop [8] (fun i => ∃ k : Nat,k≤zs.length∧i=.int .i64 k) (fun i => zs.length - (intOf i).toNat)
 case atStart => exact ⟨0,Nat.zero_le _,rfl⟩
 case round =>
  obtain ⟨k,hk,rfl⟩:=hrel
  by_cases hlt : k < zs.length
  ·obtain ⟨b,o,rfl,hc⟩:=hz k hlt
   rw [hall k hlt] at hc
   clear hall hz
   go_wp2_with (go_at_call 35; refine (fine1_any _ _).mono ?_; rintro e w' ⟨rfl,rfl⟩)
   go_round
   case rel => exact ⟨k + 1,by omega,by go_num⟩
   case measure => simp [intOf]; omega
  ·clear hall hz
   go_wp2
   go_ret
   exact ⟨rfl,rfl⟩
theorem fineIdx_yes (A : Option Addr) (n c j : Nat) (zs : List Int) (w : World) (hn : zs.length=n) (hm : n≤9223372036854775807)
  (hz : IntsAt w A zs) (hj : j < n) (hbad : zs.getD j 0 ≠ 0) :
  Calls Tryz.prog 67 #[.slice A n c,.func (.func 35) #[] #[]] w fun e w' => (∃ i : Nat,e=.returned (.int .i64 i))∧w=w':=by
 subst hn
 have HB:=hide hbad
 clear hbad
 go_enter Tryz.func67,Tryz.ntmps67
 go_wp2
 go_loop [8] (fun i => ∃ k : Nat,k≤j∧i=.int .i64 k) (fun i => zs.length - (intOf i).toNat)
 case atStart => exact ⟨0,Nat.zero_le _,rfl⟩
 case round =>
  obtain ⟨k,hk,rfl⟩:=hrel
  have hlt : k < zs.length:=by omega
  obtain ⟨b,o,rfl,hc⟩:=hz k hlt
  clear hz
  by_cases h0 : zs.getD k 0=0
  ·have hkj : k < j:=by
    rcases Nat.lt_or_ge k j with hlt | hge
    ·exact hlt
    ·obtain rfl : k=j:=by omega
     exact absurd h0 HB.out
   rw [h0] at hc
   clear h0 HB
   go_wp2_with (go_at_call 35; refine (fine1_any _ _).mono ?_; rintro e w' ⟨rfl,rfl⟩)
   go_round
   case rel => exact ⟨k + 1,by omega,by go_num⟩
   case measure => simp [intOf]; omega
  ·have h0' : (zs.getD k 0 != 0)=true:=by simpa using h0
   clear h0 HB
   generalize zs.getD k 0=z at *
   go_wp2_with (go_at_call 35; refine (fine1_any _ _).mono ?_; rintro e w' ⟨rfl,rfl⟩)
   go_ret
   exact ⟨⟨k,rfl⟩,rfl⟩
def allZero (zs : List Int) : Bool:=zs.all (· == 0)
theorem fine_any (A : Option Addr) (n c : Nat) (zs : List Int) (w : World) (hn : zs.length=n) (hm : n≤9223372036854775807) (hz : IntsAt w A zs) :
  Calls Tryz.prog 7 #[.slice A n c] w fun e w' => e=.returned (.bool (allZero zs))∧w=w':=by
 cases h : allZero zs
 ·obtain ⟨z,hz1,hz2⟩ : ∃ z ∈ zs,z ≠ 0:=by
   unfold allZero at h
   rw [List.all_eq_false] at h
   obtain ⟨z,h1,h2⟩:=h
   exact ⟨z,h1,by simpa using h2⟩
  obtain ⟨j,hj,rfl⟩:=List.mem_iff_getElem.1 hz1
  have hbad : zs.getD j 0 ≠ 0:=by simpa [hj] using hz2
  clear h hz1 hz2
  go_enter Tryz.func7,Tryz.ntmps7
  go_wp2_with (first | (go_at_call 67; refine (fineIdx_yes A n c j zs _ hn hm hz (by omega) hbad).mono ?_; rintro e w' ⟨⟨i,rfl⟩,rfl⟩) | (go_at_call 34; go_in))
  go_ret
  exact ⟨rfl,rfl⟩
 ·have hall : ∀ i,i < n→zs.getD i 0=0:=by
   intro i hi
   unfold allZero at h
   rw [List.all_eq_true] at h
   have:=h (zs[i]'(by omega)) (List.getElem_mem _)
   simpa [hn,hi] using this
  clear h
  go_enter Tryz.func7,Tryz.ntmps7
  go_wp2_with (first | (go_at_call 67; refine (fineIdx_no A n c zs _ hn hm hz hall).mono ?_; rintro e w' ⟨rfl,rfl⟩) | (go_at_call 34; go_in))
  go_ret
  exact ⟨rfl,rfl⟩
end Go.Proofs.YtdoibgmmijhlfaaGreatDoor
namespace Go.Proofs.YtdoibgmmijhlfaaGreatDoor
open Go.ChangeShapes Go.WideShapes Go.ChangeAt Go.RowKit
set_option linter.unusedVariables false
theorem intInfoC : (Tryz.prog.info? 3).map (fun i => (i.zero,i.size,i.bytes))=some (some (.int .i64 0),1,8):=by kernel_rfl
def OwnNone (w : World) (e : Ending) (w' : World) : Prop:=∃ A c,e=.returned (.slice A 0 c)∧w'.ownsRow w.heap.size 3 1 (.slice A 0 c) 0 []∧Ext w w'
set_option maxRecDepth 100000 in
theorem Grow_nil (n : Nat) (w : World) (hn : n≤100000) :
  Calls Tryz.prog 124 #[.slice none 0 0,.int .i64 (n : Int)] w (OwnNone w):=by
 obtain ⟨i0,hi,hz0,hz1,hz2⟩:=info_parts intInfoC
 by_cases h0 : n=0
 ·subst h0
  go_enter Tryz.func124,Tryz.ntmps124
  go_wp2
  go_ret
  exact ⟨none,0,rfl,World.ownsRow_nil _ _ _ _,Below.refl _ _⟩
 ·have hap:=fun W => Lib.run_append_nil_zeros (P:=Tryz.prog) W 23 3 23 3 i0 (.int .i64 0) .i64 .i64 Tryz.underlying23 Tryz.underlying3 hi hz0 n (by omega) (by omega) (by omega) (by rw [hz2]; omega)
  have hgc:=grownCap_ge w n 0 3
  have hgm:=grownCap_le_maxLen w n 0 3 (by simp only [maxLen]; omega)
  have hpos : 0 < n:=by omega
  have HAP:=hide hap
  have HGC:=hide hgc
  have HGM:=hide hgm
  clear hap h0 hgc hgm
  go_enter Tryz.func124,Tryz.ntmps124
  go_wp2_with (at_builtin; refine Lib.wpList_append_run _ rfl (.tmp 20) (.tmp 21) 23 3 rfl (.slice none 0 0) (.int .i64 (n : Int)) rfl rfl _ _ (HAP.out _) ?_)
  go_ret
  refine ⟨_,_,rfl,?_,?_⟩
  ·refine World.ownsRow_made w.drew _ _ (Nat.le_refl _) HGM.out ?_
   have:=HGC.out
   simp [Builtin.zeroCells]
   omega
  ·exact Below.alloc (Below.drew (Below.refl _ _)) (Nat.le_refl _) _
theorem ints_none {w : World} {A : Option Addr} {zs : List Int} (h : IntsAt w A zs) (e : A=none) : zs.length=0:=by
 subst e
 by_cases h0 : zs.length=0
 ·exact h0
 ·obtain ⟨_,_,e,_⟩:=h 0 (by omega)
  cases e
def sz2 (n m : Nat) (k : Nat) : Nat:=if k=0 then 0 else if k=1 then n else n + m
def el2 (xs ys : List Int) (k : Nat) : List Int:=if k=0 then [] else if k=1 then xs else xs ++ ys
set_option maxHeartbeats 1000000 in
set_option maxRecDepth 100000 in
theorem Concat_two (L : Addr) (A B : Option Addr) (n m c d e : Nat) (xs ys : List Int) (w : World) (hx : xs.length=n) (hy : ys.length=m) (hn : n≤1000) (hm : m≤1000) (hL : L.spot=none)
  (c0 : w.cell? L=some (.slice A n c)) (c1 : w.cell? ⟨L.block,L.off + 1,none⟩=some (.slice B m d)) (hA : IntsAt w A xs) (hB : IntsAt w B ys) :
  Calls Tryz.prog 103 #[.slice (some L) 2 e] w fun e w' => ∃ A' c',e=.returned (.slice A' (n + m) c')∧IntsAt w' A' (xs ++ ys)∧Ext w w':=by
 obtain ⟨i0,hi,hz0,hz1,hz2⟩:=info_parts intInfoC
 obtain ⟨b,o,s⟩:=L
 obtain rfl : s=none:=hL
 have HX:=hide hx
 have HY:=hide hy
 have hA0:=hide (ints_none hA)
 have hB0:=hide (ints_none hB)
 clear hx hy
 have hc0 : w.cell? ⟨b,o,none⟩=some (.slice A n c):=c0
 have hc1 : w.cell? ⟨b,o + 1,none⟩=some (.slice B m d):=c1
 clear c0 c1
 go_enter Tryz.func103,Tryz.ntmps103
 go_wp2
 go_loop [3,5,11] (fun s _ i => ∃ k : Nat,k≤2∧i=.int .i64 k∧s=.int .i64 (sz2 n m k)) (fun _ _ i => 2 - (intOf i).toNat)
 case atStart => exact ⟨0,by omega,rfl,rfl⟩
 case round =>
  obtain ⟨k,hk,rfl,rfl⟩:=hrel
  rcases (by omega : k=0∨k=1∨k=2) with rfl | rfl | rfl
  ·rw [show sz2 n m 0=0 from rfl]
   go_wp2
   go_round
   case rel => exact ⟨1,by omega,by go_num,by simp [sz2]⟩
   case measure => simp [intOf]
  ·rw [show sz2 n m 1=n from rfl]
   go_wp2
   go_round
   case rel => exact ⟨2,by omega,by go_num,by simp [sz2]⟩
   case measure => simp [intOf]
  ·rw [show sz2 n m 2=n + m from rfl]
   have HG:=hide (Grow_nil (n + m) w (by omega))
   go_wp2_with fail
   refine HG.out.mono ?_
   rintro e w2 ⟨A2,c2,rfl,hown,x2⟩
   have HC0:=hide hc0
   have hc0':=Ext.cell x2 hc0
   have hc1':=Ext.cell x2 hc1
   clear hc0 hc1 HG
   go_wp2_with fail
   have hbw0 : b < w.heap.size:=lt_of_cell HC0.out
   have HBW:=hide hbw0
   clear hbw0
   go_loopw [6,8,27] (fun v _ i wr => ∃ (k : Nat) (Av : Option Addr) (cv : Nat),k≤2∧i=.int .i64 k∧v=.slice Av (sz2 n m k) cv∧wr.ownsRow w.heap.size 3 1 (.slice Av (sz2 n m k) cv) (sz2 n m k) ((el2 xs ys k).map (Value.int .i64))∧Ext w wr∧wr.cell? ⟨b,o,none⟩=some (.slice A n c)∧wr.cell? ⟨b,o + 1,none⟩=some (.slice B m d)) (fun _ _ i _ => 2 - (intOf i).toNat)
   case atStart => exact ⟨0,A2,c2,by omega,rfl,rfl,hown,x2,hc0',hc1'⟩
   case round =>
    obtain ⟨k,Av,cv,hk,rfl,rfl,hown,hext,q0,q1⟩:=hrel
    clear hc0' hc1' x2
    have hsz:=hext.size
    rcases (by omega : k=0∨k=1∨k=2) with rfl | rfl | rfl
    ·have hown' : wr.ownsRow w.heap.size 3 1 (.slice Av 0 cv) 0 []:=hown
     have HO:=hide hown'
     clear hown hown'
     rw [show sz2 n m 0=0 from rfl]
     go_wp2_with (at_builtin; go_must (refine wpList_append_cells _ rfl (.tmp 31) (.tmp 32) 23 rfl w.heap.size 3 i0 (.int .i64 0) 1 8 Tryz.underlying23 hi hz0 hz1 hz2 rfl (by decide) (.slice Av 0 cv) 0 [] rfl HO.out A n c (xs.map (Value.int .i64)) rfl ?len (ints_cells (hA.ext hext)) (one_ints xs) (by simp only [maxLen]; omega) (by omega) hsz ?nil ?_))
     case len => simp [HX.out]
     case nil => intro h; rw [← HX.out]; exact hA0.out h
     intro v4 w4 hown4 hgrow
     have hx4 : Ext w w4:=ext_grown hext hgrow (own_row HO.out)
     have hb : b < wr.heap.size:=lt_of_cell q0
     have hbw : some b ≠ (Value.slice Av 0 cv).ownBlock:=fun h => by have:=(HO.out.lt b h.symm).1; have:=HBW.out; omega
     have q0':=(World.cell?_of_block (a:=⟨b,o,none⟩) (hgrow.block b hb hbw)).trans q0
     have q1':=(World.cell?_of_block (a:=⟨b,o + 1,none⟩) (hgrow.block b hb hbw)).trans q1
     obtain ⟨A4,c4,rfl,_,_⟩:=own_shape hown4
     have HO4:=hide hown4
     have HQ0:=hide q0'
     have HQ1:=hide q1'
     clear hown4 q0' q1' hgrow hbw HO
     go_wp2
     go_roundw
     case rel =>
      refine ⟨1,A4,c4,by omega,rfl,?_,?_,hx4,HQ0.out,HQ1.out⟩
      ·simp [sz2]
      ·simpa [sz2,el2] using HO4.out
     case measure => simp [intOf]
    ·have hown' : wr.ownsRow w.heap.size 3 1 (.slice Av n cv) n (xs.map (Value.int .i64)):=hown
     have HO:=hide hown'
     clear hown hown'
     rw [show sz2 n m 1=n from rfl]
     go_wp2_with (at_builtin; go_must (refine wpList_append_cells _ rfl (.tmp 31) (.tmp 32) 23 rfl w.heap.size 3 i0 (.int .i64 0) 1 8 Tryz.underlying23 hi hz0 hz1 hz2 rfl (by decide) (.slice Av n cv) n (xs.map (Value.int .i64)) rfl HO.out B m d (ys.map (Value.int .i64)) rfl ?len (ints_cells (hB.ext hext)) (one_ints ys) (by simp only [maxLen]; omega) (by omega) hsz ?nil ?_))
     case len => simp [HY.out]
     case nil => intro h; rw [← HY.out]; exact hB0.out h
     intro v4 w4 hown4 hgrow
     have hx4 : Ext w w4:=ext_grown hext hgrow (own_row HO.out)
     have hb : b < wr.heap.size:=lt_of_cell q0
     have hbw : some b ≠ (Value.slice Av n cv).ownBlock:=fun h => by have:=(HO.out.lt b h.symm).1; have:=HBW.out; omega
     have q0':=(World.cell?_of_block (a:=⟨b,o,none⟩) (hgrow.block b hb hbw)).trans q0
     have q1':=(World.cell?_of_block (a:=⟨b,o + 1,none⟩) (hgrow.block b hb hbw)).trans q1
     obtain ⟨A4,c4,rfl,_,_⟩:=own_shape hown4
     have HO4:=hide hown4
     have HQ0:=hide q0'
     have HQ1:=hide q1'
     clear hown4 q0' q1' hgrow hbw HO
     go_wp2
     go_roundw
     case rel =>
      refine ⟨2,A4,c4,by omega,rfl,?_,?_,hx4,HQ0.out,HQ1.out⟩
      ·simp [sz2]
      ·simpa [sz2,el2] using HO4.out
     case measure => simp [intOf]
    ·have HO4 : Hid (wr.ownsRow w.heap.size 3 1 (.slice Av (n + m) cv) (n + m) ((xs ++ ys).map (Value.int .i64))):=hide hown
     clear hown
     rw [show sz2 n m 2=n + m from rfl]
     go_wp2
     go_ret
     exact ⟨Av,cv,rfl,cells_ints (own_cells HO4.out).1,hext⟩
end Go.Proofs.YtdoibgmmijhlfaaGreatDoor
namespace Go.Proofs.YtdoibgmmijhlfaaGreatDoor
open Go.RowKit
set_option linter.unusedVariables false
def OwnR (e : TypeId) (sz : Nat) (w0 w : World) (v : Value) (n : Nat) (cs : List Value) : Prop:=∃ A c,v=.slice A n c∧w.ownsRow w0.heap.size e sz (.slice A n c) n cs
section
variable {e : TypeId} {sz : Nat} {w0 w w' : World} {v : Value} {n : Nat} {cs : List Value}
theorem OwnR.nil (e : TypeId) (sz : Nat) (w0 w : World) : OwnR e sz w0 w (.slice none 0 0) 0 []:=⟨none,0,rfl,World.ownsRow_nil _ _ _ _⟩
theorem OwnR.ext (h : OwnR e sz w0 w v n cs) (he : Ext w w') : OwnR e sz w0 w' v n cs:=by
 obtain ⟨A,c,e,h⟩:=h
 exact ⟨A,c,e,own_ext h he⟩
theorem OwnR.base {w1 : World} (h : OwnR e sz w1 w v n cs) (hb : w0.heap.size≤w1.heap.size) : OwnR e sz w0 w v n cs:=by
 obtain ⟨A,c,e,h⟩:=h
 exact ⟨A,c,e,own_mono h hb⟩
theorem OwnR.cells (h : OwnR e sz w0 w v n cs) : ∃ A c,v=.slice A n c∧CellsAt w A cs∧n≤c∧(A=none→n=0)∧∀ a,A=some a→w0.heap.size≤a.block:=by
 obtain ⟨A,c,rfl,h⟩:=h
 refine ⟨A,c,rfl,(own_cells h).1,own_cap h,(own_cells h).2,fun a ha => ?_⟩
 subst ha
 exact own_row h _ rfl
theorem wp_append_r {ops : Array Oper} {rest : List Oper} {o : Oper} {a : Act} {Q : Exit→Act→World→Prop} (s x : Operand) (hgd : o.guard=none) (S : TypeId)
  (ho : o.op=.call { callee:=.builtin .append,args:=#[s,x],argTypes:=#[S,S] }) (e : TypeId) (sz bytes : Nat) (z : Value) (hS : Tryz.prog.underlying S=some (.slice e))
  (hinfo : (Tryz.prog.info? e).map (fun i => (i.zero,i.size,i.bytes))=some (some z,sz,bytes)) (hzs : z.cells.size=sz) (hsz0 : 0 < sz) (hby : bytes≤1000)
  (w0 w : World) (v : Value) (n : Nat) (cs news : List Value) (hs : a.eval s=v) (hown : OwnR e sz w0 w v n cs) (hx : a.eval x=.slice (some ⟨w.heap.size,0,none⟩) 1 1) (hl : news.length=sz) (h1 : ∀ u ∈ news,u.oneCell'=true)
  (hext : Ext w0 w) (hlen : n≤1000000) (h : ∀ v' w',OwnR e sz w0 w' v' (n + 1) (cs ++ news)→Ext w0 w'→w.grownBy w' v.ownBlock→wpList Tryz.prog ops Q rest (a.put o.dst v') w') :
  wpList Tryz.prog ops Q (o :: rest) a (w.alloc (.cells news.toArray e)):=by
 obtain ⟨A,c,rfl,hown⟩:=hown
 obtain ⟨i0,hi,hz0,hz1,hz2⟩:=info_parts hinfo
 have hsz:=hext.size
 refine wpList_append_cells (P:=Tryz.prog) _ hgd s x S ho w0.heap.size e i0 z sz bytes hS hi hz0 hz1 hz2 hzs hsz0 _ n cs hs (own_ext hown (ext_alloc (Below.refl _ _) _)) _ 1 1 news hx (by rw [hl,Nat.one_mul]) (cellsAt_new w e news) h1 (by simp only [maxLen]; omega) (by
  have : (n + 1) * bytes≤1000001 * 1000:=Nat.mul_le_mul (by omega) hby
  omega) (by simp; omega) (by simp) ?_
 intro v' w' hown' hgrow
 obtain ⟨A',c',rfl,_,_⟩:=own_shape hown'
 refine h _ w' ⟨A',c',rfl,hown'⟩ (ext_grown (ext_alloc hext _) hgrow (own_row hown)) ?_
 exact ⟨hgrow.os,hgrow.tape,hgrow.output,by have:=hgrow.size; simp at this; omega,fun b hb hn => by
  rw [hgrow.block b (by simp; omega) hn]
  exact Below.heap_alloc w _ b hb⟩
theorem oper_append_r {o : Oper} {a : Act} {K : Act→World→Prop} {Q : Exit→Act→World→Prop} (s x : Operand) (S : TypeId)
  (ho : o.op=.call { callee:=.builtin .append,args:=#[s,x],argTypes:=#[S,S] }) (e : TypeId) (sz bytes : Nat) (z : Value) (hS : Tryz.prog.underlying S=some (.slice e))
  (hinfo : (Tryz.prog.info? e).map (fun i => (i.zero,i.size,i.bytes))=some (some z,sz,bytes)) (hzs : z.cells.size=sz) (hsz0 : 0 < sz) (hby : bytes≤1000)
  (w0 w : World) (v : Value) (n : Nat) (cs news : List Value) (hs : a.eval s=v) (hown : OwnR e sz w0 w v n cs) (hx : a.eval x=.slice (some ⟨w.heap.size,0,none⟩) 1 1) (hl : news.length=sz) (h1 : ∀ u ∈ news,u.oneCell'=true)
  (hext : Ext w0 w) (hlen : n≤1000000) (h : ∀ v' w',OwnR e sz w0 w' v' (n + 1) (cs ++ news)→Ext w0 w'→w.grownBy w' v.ownBlock→K (a.put o.dst v') w') :
  Oper.wp Tryz.prog o a (w.alloc (.cells news.toArray e)) K Q:=by
 obtain ⟨A,c,rfl,hown⟩:=hown
 obtain ⟨i0,hi,hz0,hz1,hz2⟩:=info_parts hinfo
 have hsz:=hext.size
 obtain ⟨v',w',hrun,h2,h3⟩:=run_append_cells (P:=Tryz.prog) _ w0.heap.size S o.type e i0 z sz bytes hS hi hz0 hz1 hz2 hzs hsz0 _ n cs (own_ext hown (ext_alloc (Below.refl _ _) _)) (some ⟨w.heap.size,0,none⟩) 1 1 news (by rw [hl,Nat.one_mul]) (cellsAt_new w e news) h1 (by simp only [maxLen]; omega) (by
  have : (n + 1) * bytes≤1000001 * 1000:=Nat.mul_le_mul (by omega) hby
  omega) (by simp; omega) (by simp)
 unfold Oper.wp execOp
 simp only [ho,resolve,invoke,builtin,Sem.run_bind,Sem.run_pure,Result.andThen_ok,List.map_toArray,List.map_cons,List.map_nil,hs,hx,hrun]
 obtain ⟨A',c',rfl,_,_⟩:=own_shape h2
 refine h _ w' ⟨A',c',rfl,h2⟩ (ext_grown (ext_alloc hext _) h3 (own_row hown)) ?_
 exact ⟨h3.os,h3.tape,h3.output,by have:=h3.size; simp at this; omega,fun b hb hn => by
  rw [h3.block b (by simp; omega) hn]
  exact Below.heap_alloc w _ b hb⟩
end
end Go.Proofs.YtdoibgmmijhlfaaGreatDoor
namespace Go.Proofs.YtdoibgmmijhlfaaGreatDoor
open Go.RowKit
set_option linter.unusedVariables false
def IsRow (w : World) (a : Option Addr) (len cap : Nat) (zs : List Int) : Prop :=
 (a=none∧len=0∧cap=0∧zs=[]) ∨
 ∃ x,a=some x∧len≤cap∧cap≤maxLen∧zs.length=cap∧(∀ i,i < zs.length→w.cell? (x.add i)=some (.int .i64 (zs.getD i 0)))∧∀ n ∈ zs,(Lit.int .i64 n).wf=true
theorem spot_none {w : World} {x : Addr} {v : Value} (h : w.cell? x=some v) : x=⟨x.block,x.off,none⟩:=by
 obtain ⟨b,o,s⟩:=x
 cases s with
 | none => rfl
 | some s =>
  exfalso
  unfold World.cell? at h
  simp only at h
  split at h
  ·simp at h
  ·cases h
theorem IsRow.ints {w : World} {a : Option Addr} {len cap : Nat} {zs : List Int} (h : IsRow w a len cap zs) : IntsAt w a (zs.take len)∧(zs.take len).length=len∧(a=none→len=0)∧len≤maxLen:=by
 rcases h with ⟨rfl,rfl,rfl,rfl⟩ | ⟨x,rfl,h1,h2,h3,h4,h5⟩
 ·exact ⟨by simpa using intsAt_nil w _,rfl,fun _ => rfl,by simp [maxLen]⟩
 ·refine ⟨fun i hi => ?_,by simp; omega,fun k => by simp at k,by omega⟩
  have hi2 : i < len:=by simp at hi; omega
  have hx:=spot_none (h4 0 (by omega))
  have hadd : x.add 0=x:=rfl
  rw [hadd] at hx
  refine ⟨x.block,x.off,by rw [← hx],?_⟩
  have:=h4 i (by omega)
  rw [hx,add_lit] at this
  rw [this]
  simp [hi2]
end Go.Proofs.YtdoibgmmijhlfaaGreatDoor
namespace Go.Proofs.YtdoibgmmijhlfaaGreatDoor
set_option linter.unusedVariables false
theorem atoi_rng {l : BL} {v : Int} (h : Lib.atoiAll l=.ok v) : -9223372036854775808≤v∧v≤9223372036854775807:=by
 unfold Lib.atoiAll at h
 split at h
 ·cases h
 ·rename_i c r
  simp only at h
  split at h
  ·cases h
  ·cases h
  ·rename_i u hu
   split at h
   ·cases h
   ·split at h
    ·cases h
    ·injection h with h
     subst h
     split <;> omega
theorem splitL_sub (c : UInt8) : ∀ (s : BL) (x : BL),x ∈ splitL c s→x.length≤s.length
 | [],x,h => by
  obtain rfl:=List.mem_singleton.1 h
  exact Nat.le_refl _
 | b :: l,x,h => by
  rw [splitL] at h
  have ih:=splitL_sub c l
  split at h
  ·rcases List.mem_cons.1 h with rfl | h
   ·simp
   ·have:=ih x h; rw [List.length_cons]; omega
  ·split at h
   ·obtain rfl:=List.mem_singleton.1 h
    simp
   ·rename_i y ys hy
    rcases List.mem_cons.1 h with rfl | h
    ·have:=ih y (by rw [hy]; exact List.mem_cons_self)
     rw [List.length_cons,List.length_cons]; omega
    ·have:=ih x (by rw [hy]; exact List.mem_cons_of_mem _ h)
     rw [List.length_cons]; omega
theorem splitL_cnt (c : UInt8) : ∀ s : BL,(splitL c s).length≤s.length + 1
 | [] => by simp [splitL]
 | b :: l => by
  have ih:=splitL_cnt c l
  rw [splitL]
  split
  ·rw [List.length_cons,List.length_cons]; omega
  ·split
   ·simp
   ·rename_i y ys hy
    rw [hy] at ih
    rw [List.length_cons] at ih ⊢
    rw [List.length_cons]; omega
end Go.Proofs.YtdoibgmmijhlfaaGreatDoor
namespace Go.Proofs.YtdoibgmmijhlfaaGreatDoor
open Go.RowKit
set_option linter.unusedVariables false
theorem splitB_eq (c : UInt8) (s : BL) : Lib.splitB (strU [c]) 0 (Lib.countB (strU s) (strU [c])) (strU s)=(splitL c s).map strU:=by
 have h:=Lib.splitB_data (strU [c]) 0 (Lib.countB (strU s) (strU [c])) (strU s)
 rw [strU_data,strU_data] at h
 have hk : Lib.countB (strU s) (strU [c])=s.count c:=by
  show Lib.count (strU s).data.toList (strU [c]).data.toList=_
  rw [strU_data,strU_data,Lib.count_one]
 rw [hk] at h ⊢
 rw [splitK_eq c s _ rfl] at h
 rw [← h,List.map_map]
 have : ∀ l : List ByteArray,l=l.map (strU ∘ fun x => x.data.toList):=fun l => by
  induction l with
  | nil => rfl
  | cons a l ih =>
   rw [List.map_cons,← ih]
   rfl
 exact this _
theorem splitL_len (c : UInt8) (s : BL) : (splitL c s).length=Lib.countB (strU s) (strU [c]) + 1:=by
 have h1:=splitB_eq c s
 have h2:=Lib.splitB_all (strU [c]) (by rw [strU_size]; simp) 0 _ (strU s) rfl
 rw [h1,List.length_map] at h2
 exact h2
theorem split_any (c : UInt8) (s : BL) (hs : s.length≤8192) (w : World) (hw : LibW w) : Calls Tryz.prog 25 #[.string (strU s),.string (strU [c])] w fun e w' => e=.returned (.slice (some ⟨w.heap.size,0,none⟩) (splitL c s).length (splitL c s).length)∧w'=w.alloc (.cells ((splitL c s).map fun x => Value.string (strU x)).toArray 9):=by
 obtain ⟨m,hm⟩:=hw.max
 refine (Tryz.strings_Split (strU s) (strU [c]) m w (by rw [strU_size]; omega) hm (by rw [strU_size]; simp)).mono ?_
 rintro e w' ⟨rfl,rfl⟩
 refine ⟨by rw [splitL_len],?_⟩
 rw [splitB_eq,List.map_map]
 rfl
end Go.Proofs.YtdoibgmmijhlfaaGreatDoor
namespace Go.Proofs.YtdoibgmmijhlfaaGreatDoor
open Go.ChangeShapes Go.WideShapes Go.ChangeAt Go.RowKit
set_option linter.unusedVariables false
def idxK (ps : List PieceM) (l : Int) : Int:=match ps.findIdx? (fun p => decide (p.letter=l)) with
 | some k => (k : Int)
 | none => -1
theorem idxK_at {ps : List PieceM} {l : Int} {k : Nat} {p : PieceM} (hk : ps[k]? = some p) (hl : p.letter=l) (h : ∀ (j : Nat) (q : PieceM),j < k→ps[j]? = some q→q.letter ≠ l) : idxK ps l=(k : Int):=by
 obtain ⟨hkl,he⟩:=List.getElem?_eq_some_iff.1 hk
 have : ps.findIdx? (fun p => decide (p.letter=l))=some k:=List.findIdx?_eq_some_iff_getElem.2 ⟨hkl,by simp [he,hl],fun j hj e => h j _ hj (List.getElem?_eq_getElem (by omega)) (of_decide_eq_true e)⟩
 unfold idxK
 rw [this]
theorem idxK_none {ps : List PieceM} {l : Int} (h : ∀ (j : Nat) (q : PieceM),ps[j]? = some q→q.letter ≠ l) : idxK ps l=-1:=by
 have : ps.findIdx? (fun p => decide (p.letter=l))=none:=List.findIdx?_eq_none_iff.2 fun x hx => by
  obtain ⟨j,hj,rfl⟩:=List.mem_iff_getElem.1 hx
  simpa using h j _ (List.getElem?_eq_getElem hj)
 unfold idxK
 rw [this]
theorem pieceK_eq (ps : List PieceM) (b : UInt8) : pieceK ps b=idxK ps (b.toNat : Int):=rfl
end Go.Proofs.YtdoibgmmijhlfaaGreatDoor
namespace Go.Proofs.YtdoibgmmijhlfaaGreatDoor
open Go.RowKit
set_option linter.unusedVariables false
set_option linter.unusedSimpArgs false
theorem enc_ascii : ∀ x : Fin 128,Utf8.encode (x.val : Int)=strU [UInt8.ofNat x.val]:=by decide +kernel
theorem run_rune : ∀ (x : Fin 128) (W : World),(convert 21 9 (.int .i32 (x.val : Int))).run Tryz.prog W=.ok (.string (strU [UInt8.ofNat x.val])) W:=by
 intro x W
 have h : Conv.intToString (x.val : Int)=(pure (.string (strU [UInt8.ofNat x.val])) : Sem Value):=by
  unfold Conv.intToString
  rw [enc_ascii x]
 simp [convert,run_underlying Tryz.underlying21,run_underlying Tryz.underlying9,h]
theorem gPow : Tryz.prog.globalNamed "internal/strconv.uint64pow10" = some 0 := by kernel_rfl
theorem LibW.ext {w w' : World} (h : LibW w) (x : Ext w w') : LibW w':=by
 obtain ⟨m,h1⟩:=h.max
 obtain ⟨e2,h2,h2'⟩:=h.syn
 obtain ⟨e3,h3,h3'⟩:=h.rng
 exact ⟨⟨m,Ext.cell x h1⟩,⟨e2,Ext.cell x h2,h2'⟩,⟨e3,Ext.cell x h3,h3'⟩,Go.Joins.tab_stays gPow h.tab x (Nat.le_refl _)⟩
theorem ext_grow (w : World) (k : Nat) (os : Array Obj) : Ext w (Go.Sort.grow (w.drewN k) os):=⟨rfl,rfl,rfl,by show w.heap.size≤(w.heap ++ os).size; rw [Array.size_append]; omega,fun b hb => by show (w.heap ++ os)[b]? = w.heap[b]?; rw [Array.getElem?_append_left hb]⟩
theorem itoa_any (n : Int) (h0 : 0≤n) (h1 : n≤1000) (w : World) (hw : LibW w) : Calls Tryz.prog 17 #[.int .i64 n] w fun e w' => e=.returned (.string (strU (Lib.itoa n)))∧Ext w w':=by
 refine (Tryz.strconv_Itoa n (by omega) (by omega) w hw.tab).mono ?_
 rintro e w' ⟨rfl,k,os,rfl⟩
 exact ⟨rfl,ext_grow _ _ _⟩
theorem strU_app (a b : BL) : strU a ++ strU b=strU (a ++ b):=by
 apply strU_ext
 simp [strU_data]
theorem itoa_len {n : Int} (h0 : 0≤n) (h1 : n≤1000) : (Lib.itoa n).length≤4:=by
 obtain ⟨u,rfl⟩:=Int.eq_ofNat_of_zero_le h0
 rw [Lib.itoa_nonneg,Lib.decDigits_length]
 exact nDigits_le4 (by omega)
end Go.Proofs.YtdoibgmmijhlfaaGreatDoor
namespace Go.Proofs.YtdoibgmmijhlfaaGreatDoor
open Go.RowKit
set_option linter.unusedVariables false
theorem strInfoJ : (Tryz.prog.info? 9).map (fun i => (i.zero,i.size,i.bytes))=some (some (.string ⟨#[]⟩),1,16):=by kernel_rfl
def strsC (L : List BL) : List Value:=L.map fun x => .string (strU x)
theorem strsC_len (L : List BL) : (strsC L).length=L.length:=by simp [strsC]
theorem strsC_snoc (L : List BL) (x : BL) : strsC (L ++ [x])=strsC L ++ [.string (strU x)]:=by simp [strsC]
theorem strsC_get {L : List BL} {i : Nat} {x : BL} (h : L[i]? = some x) : (strsC L)[i]? = some (.string (strU x)):=by
 unfold strsC
 rw [List.getElem?_map,h]
 rfl
theorem join_any (c : UInt8) (L : List BL) (hn : 1≤L.length) (hm : L.length≤100000) (hlen : (joinL c L).length≤100000) (A : Option Addr) (cap : Nat) (w : World) (hc : CellsAt w A (strsC L)) (hcap : L.length≤cap) :
  Calls Tryz.prog 23 #[.slice A L.length cap,.string (strU [c])] w fun e w' => e=.returned (.string (strU (joinL c L)))∧Ext w w':=by
 obtain ⟨x,hx⟩ : ∃ x,L[0]? = some x:=⟨_,List.getElem?_eq_getElem (by omega)⟩
 obtain ⟨b,o,rfl,hc0⟩:=hc 0 _ (strsC_get hx)
 have hxs : ((L.map strU).map (·.data.toList))=L:=by
  rw [List.map_map]
  conv => rhs; rw [← List.map_id L]
  exact List.map_congr_left fun y _ => strU_data y
 have hj : Lib.join ((L.map strU).map (·.data.toList)) (strU [c]).data.toList=joinL c L:=by rw [hxs,strU_data,join_eq]
 have h:=Tryz.strings_Join b o cap (L.map strU) (strU [c]) w (fun j y hy => by
  rw [List.getElem?_map] at hy
  cases hLj : L[j]? with
  | none => rw [hLj] at hy; cases hy
  | some z =>
   rw [hLj] at hy
   have e : strU z=y:=by simpa using hy
   obtain ⟨b',o',e2,hcj⟩:=hc j _ (strsC_get hLj)
   injection e2 with e2
   injection e2 with e3 e4
   subst e3 e4 e
   exact hcj) (lt_of_cell hc0) (by rw [List.length_map]; omega) (by rw [List.length_map]; exact hcap) (by rw [hj]; omega)
 rw [hj,List.length_map] at h
 exact h
end Go.Proofs.YtdoibgmmijhlfaaGreatDoor
namespace Go.Proofs.YtdoibgmmijhlfaaGreatDoor
open Go.RowKit
set_option linter.unusedVariables false
set_option linter.unusedSimpArgs false
theorem intInfoG : (Tryz.prog.info? 3).map (fun i => (i.zero,i.size,i.bytes))=some (some (.int .i64 0),1,8):=by kernel_rfl
theorem makeG (n : Nat) (h : n≤1000) (w : World) : (Instr.makeSlice 23 (.int .i64 (n : Int)) (.int .i64 (n : Int))).run Tryz.prog w=.ok (.slice (some ⟨w.heap.size,0,none⟩) n n) (w.alloc (.cells ((List.replicate n (0 : Int)).map (Value.int .i64)).toArray 3)):=by
 obtain ⟨i,hi,hz,hs,hb⟩ : ∃ i,Tryz.prog.info? 3=some i∧i.zero=some (.int .i64 0)∧i.size=1∧i.bytes=8:=by
  have h:=intInfoG
  cases hi : Tryz.prog.info? 3 with
  | none => rw [hi] at h; cases h
  | some i =>
   rw [hi] at h
   simp only [Option.map_some,Option.some.injEq,Prod.mk.injEq] at h
   exact ⟨i,rfl,h.1,h.2.1,h.2.2⟩
 have hr:=run_make (P:=Tryz.prog) w 23 3 i (.int .i64 0) Tryz.underlying23 hi hz .i64 .i64 (n : Int) (n : Int) (by omega) (Int.le_refl _) (by rw [hb]; omega) (by omega)
 rw [hr,hs]
 have e : madeCells (Value.int .i64 0).cells (n * 1)=((List.replicate n (0 : Int)).map (Value.int .i64)).toArray:=by
  apply Array.ext
  ·simp [madeCells]
  ·intro j h1 h2
   simp [madeCells,Value.cells,Nat.mod_one]
 simp only [Int.toNat_natCast]
 rw [e]
end Go.Proofs.YtdoibgmmijhlfaaGreatDoor
namespace Go.Proofs.YtdoibgmmijhlfaaGreatDoor
open Go.ChangeShapes Go.WideShapes Go.ChangeAt Go.RowKit
set_option linter.unusedVariables false
theorem own : ownKnob Tryz.prog.godebug=none:=by kernel_rfl
def laidP : List (String × DataW Unit):=Rows.topTextRow.laid
theorem gSyn : Tryz.prog.globalNamed "strconv.ErrSyntax" = some 2 := by kernel_rfl
theorem gRng : Tryz.prog.globalNamed "strconv.ErrRange" = some 3 := by kernel_rfl
theorem tSyn : (Tryz.prog.globals[2]?).map (·.type)=some 108:=by kernel_rfl
theorem tRng : (Tryz.prog.globals[3]?).map (·.type)=some 108:=by kernel_rfl
theorem tPow : (Tryz.prog.globals[0]?).map (·.type)=some 181:=by kernel_rfl
theorem laid_pow : (Rows.laid_internal_strconv_uint64pow10 : DataW Unit)=Lib.tabData .u64 Lib.pow10Tab:=by kernel_rfl
theorem iface_of_trod {P : Program} {w : World} {base : Nat} {sp : Nat→Bool} {held : Bool} {fuel : Nat} {t : TypeId} {ms : Array (String × TypeId)} {cs : List Value} {nm : String} {d : DataW Unit} {p : List MemPlace}
  (ht : P.underlying t=some (.interface ms)) (h : DataW.trod (fun _ => ()) P w base sp held fuel t cs=some (.iface nm d,p)) : ∃ u v,cs=[.iface u v]:=by
 cases fuel with
 | zero => simp [DataW.trod] at h
 | succ fuel =>
  match cs,h with
  | [.iface u v],_ => exact ⟨u,v,rfl⟩
  | [],h => simp [DataW.trod,ht] at h
  | [c],h => cases c <;> simp [DataW.trod,ht] at h; exact ⟨_,_,rfl⟩
  | _ :: _ :: _,h => simp [DataW.trod,ht] at h
theorem libW_of {W : World} (h : laidMetH Tryz.prog laidP W) (hs : W.ShapedOpen Tryz.prog) : LibW W:=by
 rw [MakeChecks.laidMetH_plain _ _ _ (by kernel_rfl)] at h
 refine ⟨cell_of_shapedOpen_int (zero:=#[.int .i64 0]) hs (by decide) (by kernel_rfl) (by kernel_rfl) (by kernel_rfl) (by kernel_rfl) Tryz.underlying3,?_,?_,?_⟩
 ·obtain ⟨g, t, cs, fuel, p, h1, h2, h3, h4⟩ := Lib.laidMet.reads h (n := "strconv.ErrSyntax") (d := Rows.laid_strconv_ErrSyntax) (by unfold laidP Rows.topTextRow; simp)
  obtain rfl:=Option.some.inj (gSyn.symm.trans h1)
  obtain rfl:=Option.some.inj (tSyn.symm.trans h2)
  obtain ⟨u,v,e⟩:=iface_of_trod Tryz.underlying108 h4
  refine ⟨.iface u v,?_,.inr ⟨u,v,rfl⟩⟩
  have:=World.var?_cell gSyn h3 0
  rw [this]
  rw [← Array.getElem?_toList,e]
  rfl
 ·obtain ⟨g, t, cs, fuel, p, h1, h2, h3, h4⟩ := Lib.laidMet.reads h (n := "strconv.ErrRange") (d := Rows.laid_strconv_ErrRange) (by unfold laidP Rows.topTextRow; simp)
  obtain rfl:=Option.some.inj (gRng.symm.trans h1)
  obtain rfl:=Option.some.inj (tRng.symm.trans h2)
  obtain ⟨u,v,e⟩:=iface_of_trod Tryz.underlying108 h4
  refine ⟨.iface u v,?_,.inr ⟨u,v,rfl⟩⟩
  have:=World.var?_cell gRng h3 0
  rw [this]
  rw [← Array.getElem?_toList,e]
  rfl
 ·obtain ⟨g, t, cs, fuel, p, h1, h2, h3, h4⟩ := Lib.laidMet.reads h (n := "internal/strconv.uint64pow10") (d := Rows.laid_internal_strconv_uint64pow10) (by unfold laidP Rows.topTextRow; simp)
  obtain rfl:=Option.some.inj (gPow.symm.trans h1)
  obtain rfl:=Option.some.inj (tPow.symm.trans h2)
  rw [laid_pow] at h4
  have e:=Lib.cells_of_tab Tryz.underlying181 Tryz.underlying148 (by kernel_rfl) (by kernel_rfl) h4
  unfold Lib.TabIs
  rw [h3,← e]
section
variable {H : Type} {enc : TypeId × Value→H}
theorem wrap_both {a : Assume} {C : Checked} {os : Os} {f : FuncId} {fn : Func} {s : ChangeSpec} {conds : List PathCond} {apart fresh handsOn again : Bool} {X : World→Array Value→Prop}
  (hX : ∀ (w w' : World) (args : Array Value),w.heap=w'.heap→X w args→X w' args)
  (own : ownKnob C.prog.godebug=none) (started : os.Started) (noInit : C.prog.inits.idxOf? f=none) (hfn : C.prog.funcs[f]? = some fn)
  (witness : ∃ (w : World) (tape : Tape) (i : Input),w.os=os∧(w.forCall tape i).Shaped C.prog∧i.vars=[]∧Input.okWide C.prog (w.forCall tape i) .any w.heap.size f i ∧
   ((s.pre enc C.prog fn conds apart (w.forCall tape i).memory i.args∧X (w.forCall tape i).memory i.args)∧sizedMet enc C.prog fn (OpenSpec.ofChange s) apart (w.forCall tape i).memory i.args)∧a.holds C.prog (lone (Frame.enter C.prog f i.args .normal) [] (w.forCall tape i)))
  (contract : ∀ (W : World) (base : Nat) (args : Array Value) (ds gs : List (DataW H)) (before : List MemPlace),
   (∀ (j : Nat) t v,fn.params[j]? = some t→args[j]? = some v→Value.okWide C.prog W .any base t v) →
   DataW.Whole enc C.prog fn.params.toList s.vars apart W args.toList ds gs before →
   X W args→W.ShapedOpen C.prog →
   Calls C.prog f args W fun e W' => ∃ v,e=.returned v∧s.post enc C.prog fn apart fresh handsOn again W args v W') :
  ReturnsInHanded a C os f .any (fun w args => (s.pre enc C.prog fn conds apart w args∧X w args)∧sizedMet enc C.prog fn (OpenSpec.ofChange s) apart w args) (s.post enc C.prog fn apart fresh handsOn again):=by
 refine returnsInHanded_of_calls own started noInit witness ?_
 intro w tape i _ hsh _ hok hpre _
 obtain ⟨_,_,_,fn',hfn',_,_,_,_,hval⟩:=hok
 obtain rfl : fn'=fn:=Option.some.inj (hfn'.symm.trans hfn)
 obtain ⟨⟨⟨ds,gs,before,hw,-⟩,hx⟩,-⟩:=hpre
 refine (contract (w.forCall tape i) w.heap.size i.args ds gs before hval (DataW.Whole.of_heap (w':=w.forCall tape i) (by rfl) hw) (hX _ _ _ (by rfl) hx) hsh).mono fun e W' ⟨v,he,hp⟩ => ?_
 subst he
 exact ChangeSpec.post_blind hp
end
end Go.Proofs.YtdoibgmmijhlfaaGreatDoor
namespace Go.Proofs.YtdoibgmmijhlfaaGreatDoor
open Go.RowKit
set_option linter.unusedVariables false
set_option linter.unusedSimpArgs false
theorem str_is (s t : BL) : ((strU s).toList == t)=decide (s=t):=by
 rw [Lib.toList_data,strU_data]
 by_cases h : s=t
 ·subst h; simp
 ·rw [decide_eq_false h]; exact beq_eq_false_iff_ne.2 h
theorem pieceK_rng (ps : List PieceM) (b : UInt8) : -1≤pieceK ps b∧pieceK ps b < (ps.length : Int):=by
 unfold pieceK
 split
 ·rename_i k hk
  have:=(List.findIdx?_eq_some_iff_getElem.1 hk).1
  omega
 ·omega
end Go.Proofs.YtdoibgmmijhlfaaGreatDoor
namespace Go.Proofs.YtdoibgmmijhlfaaGreatDoor
open Go.RowKit
set_option linter.unusedVariables false
section
variable {e : TypeId} {sz : Nat} {w0 w w' : World} {v : Value} {n : Nat} {cs : List Value}
theorem run_append_a (S : TypeId) (ty : TypeId) (e : TypeId) (sz bytes : Nat) (z : Value) (hS : Tryz.prog.underlying S=some (.slice e))
  (hinfo : (Tryz.prog.info? e).map (fun i => (i.zero,i.size,i.bytes))=some (some z,sz,bytes)) (hzs : z.cells.size=sz) (hsz0 : 0 < sz) (hby : bytes≤1000)
  (w0 w : World) (v : Value) (n : Nat) (cs news : List Value) (hown : OwnR e sz w0 w v n cs) (A : Option Addr) (m c : Nat) (hl : news.length=m * sz) (hr : CellsAt w A news) (h1 : ∀ u ∈ news,u.oneCell'=true) (hA : A=none→m=0)
  (hext : Ext w0 w) (hlen : n + m≤1000000) : ∃ v' w',(Builtin.append_ #[S,S] ty #[v,.slice A m c]).run Tryz.prog w=.ok v' w'∧OwnR e sz w0 w' v' (n + m) (cs ++ news)∧Ext w0 w'∧w.grownBy w' v.ownBlock:=by
 obtain ⟨A0,c0,rfl,hown⟩:=hown
 obtain ⟨i0,hi,hz0,hz1,hz2⟩:=info_parts hinfo
 obtain ⟨v',w',hrun,h2,h3⟩:=run_append_cells (P:=Tryz.prog) w w0.heap.size S ty e i0 z sz bytes hS hi hz0 hz1 hz2 hzs hsz0 _ n cs hown A m c news hl hr h1 (by simp only [maxLen]; omega) (by
  have : (n + m) * bytes≤1000000 * 1000:=Nat.mul_le_mul (by omega) hby
  omega) hext.size hA
 obtain ⟨A',c',rfl,_,_⟩:=own_shape h2
 exact ⟨_,_,hrun,⟨A',c',rfl,h2⟩,ext_grown hext h3 (own_row hown),h3⟩
theorem oper_append_a {o : Oper} {a : Act} {K : Act→World→Prop} {Q : Exit→Act→World→Prop} (s x : Operand) (S : TypeId)
  (ho : o.op=.call { callee:=.builtin .append,args:=#[s,x],argTypes:=#[S,S] }) (e : TypeId) (sz bytes : Nat) (z : Value) (hS : Tryz.prog.underlying S=some (.slice e))
  (hinfo : (Tryz.prog.info? e).map (fun i => (i.zero,i.size,i.bytes))=some (some z,sz,bytes)) (hzs : z.cells.size=sz) (hsz0 : 0 < sz) (hby : bytes≤1000)
  (w0 w : World) (v : Value) (n : Nat) (cs news : List Value) (hs : a.eval s=v) (hown : OwnR e sz w0 w v n cs) (A : Option Addr) (m c : Nat) (hx : a.eval x=.slice A m c) (hl : news.length=m * sz) (hr : CellsAt w A news) (h1 : ∀ u ∈ news,u.oneCell'=true) (hA : A=none→m=0)
  (hext : Ext w0 w) (hlen : n + m≤1000000) (h : ∀ v' w',OwnR e sz w0 w' v' (n + m) (cs ++ news)→Ext w0 w'→w.grownBy w' v.ownBlock→K (a.put o.dst v') w') :
  Oper.wp Tryz.prog o a w K Q:=by
 obtain ⟨v',w',hrun,h2,h3,h4⟩:=run_append_a S o.type e sz bytes z hS hinfo hzs hsz0 hby w0 w v n cs news hown A m c hl hr h1 hA hext hlen
 unfold Oper.wp execOp
 simp only [ho,resolve,invoke,builtin,Sem.run_bind,Sem.run_pure,Result.andThen_ok,List.map_toArray,List.map_cons,List.map_nil,hs,hx,hrun]
 exact h _ _ h2 h3 h4
end
theorem OwnR.blk_ne {e t : TypeId} {sz g n : Nat} {w0 w : World} {v : Value} {cs : List Value} {xs : Array Value} (h : OwnR e sz w0 w v n cs) (hg : Blk w g t xs) (hne : e ≠ t) : some g ≠ v.ownBlock:=by
 obtain ⟨A,c,rfl,h⟩:=h
 exact (own_blk_ne h hg hne).symm
theorem own_new (w : World) (L : List BL) (hm : L.length≤1000000) : OwnR 9 1 w (w.alloc (.cells (strsC L).toArray 9)) (.slice (some ⟨w.heap.size,0,none⟩) L.length L.length) L.length (strsC L) :=
 ⟨_,_,rfl,⟨by rw [strsC_len,Nat.mul_one],.inr ⟨w.heap.size,L.length,_,rfl,Nat.le_refl _,heap_alloc_new w _,Nat.le_refl _,by simp only [maxLen]; omega,by simp [strsC_len],by
  rw [Nat.mul_one]
  exact List.take_of_length_le (by rw [strsC_len]; exact Nat.le_refl _)⟩⟩⟩
theorem split_blk (c : UInt8) (s : BL) (hs : s.length≤8192) (w : World) (hw : LibW w) : Calls Tryz.prog 25 #[.string (strU s),.string (strU [c])] w fun e w' => ∃ g,e=.returned (.slice (some ⟨g,0,none⟩) (splitL c s).length (splitL c s).length)∧Blk w' g 9 (strsC (splitL c s)).toArray∧w.heap.size≤g∧Ext w w':=by
 refine (split_any c s hs w hw).mono ?_
 rintro e w' ⟨rfl,rfl⟩
 exact ⟨_,rfl,Blk.new w _ _,Nat.le_refl _,ext_alloc (Below.refl _ _) _⟩
end Go.Proofs.YtdoibgmmijhlfaaGreatDoor
