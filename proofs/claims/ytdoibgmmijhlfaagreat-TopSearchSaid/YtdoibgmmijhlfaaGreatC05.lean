/- RulesCheck Mirror PlaceW1 -/
import Derived.Test.YtdoibgmmijhlfaaGreatC02
import Derived.Test.YtdoibgmmijhlfaaGreatC03
import Derived.Shelf.Abstract
import Derived.Test.YtdoibgmmijhlfaaGreatC04
import Derived.StillTailTactics
import Derived.RegionTactic
import Derived.Test.YtdoibgmmijhlfaaGreatC01
namespace Go.Proofs.YtdoibgmmijhlfaaGreat
open Go.ChangeShapes Go.WideShapes Go.ChangeAt Go.RowKit Go.Shelf
set_option linter.unusedVariables false
theorem box11{w W:World}{T:TypeId}{v0 v1 v2 v3 v4 v5 v6 v7 v8 v9 v10:Value}(h:Ext (w.alloc (.cells #[v0,v1,v2,v3,v4,v5,v6,v7,v8,v9,v10] T)) W) :
  W.cell? ⟨w.heap.size,0,none⟩=some v0∧W.cell? ⟨w.heap.size,1,none⟩=some v1∧W.cell? ⟨w.heap.size,2,none⟩=some v2∧W.cell? ⟨w.heap.size,3,none⟩=some v3∧W.cell? ⟨w.heap.size,4,none⟩=some v4∧W.cell? ⟨w.heap.size,5,none⟩=some v5∧W.cell? ⟨w.heap.size,6,none⟩=some v6∧W.cell? ⟨w.heap.size,7,none⟩=some v7∧W.cell? ⟨w.heap.size,8,none⟩=some v8∧W.cell? ⟨w.heap.size,9,none⟩=some v9∧W.cell? ⟨w.heap.size,10,none⟩=some v10 :=
 ⟨Ext.cell h (nC w #[v0,v1,v2,v3,v4,v5,v6,v7,v8,v9,v10] T 0),Ext.cell h (nC w #[v0,v1,v2,v3,v4,v5,v6,v7,v8,v9,v10] T 1),Ext.cell h (nC w #[v0,v1,v2,v3,v4,v5,v6,v7,v8,v9,v10] T 2),Ext.cell h (nC w #[v0,v1,v2,v3,v4,v5,v6,v7,v8,v9,v10] T 3),Ext.cell h (nC w #[v0,v1,v2,v3,v4,v5,v6,v7,v8,v9,v10] T 4),Ext.cell h (nC w #[v0,v1,v2,v3,v4,v5,v6,v7,v8,v9,v10] T 5),Ext.cell h (nC w #[v0,v1,v2,v3,v4,v5,v6,v7,v8,v9,v10] T 6),Ext.cell h (nC w #[v0,v1,v2,v3,v4,v5,v6,v7,v8,v9,v10] T 7),Ext.cell h (nC w #[v0,v1,v2,v3,v4,v5,v6,v7,v8,v9,v10] T 8),Ext.cell h (nC w #[v0,v1,v2,v3,v4,v5,v6,v7,v8,v9,v10] T 9),Ext.cell h (nC w #[v0,v1,v2,v3,v4,v5,v6,v7,v8,v9,v10] T 10)⟩
theorem Check1_any(z:Int)(m c:Nat)(A:Option Addr)(B:Nat)(w:World)(hm:m≤6)(hc:w.cell? ⟨B,3,none⟩=some (.slice A m c)) :
  Calls Crz.prog 86 #[.int .i64 z,.pointer (some ⟨B,0,none⟩)] w fun e w'=>e=.returned (.bool (!inB z 0 (2 * (m:Int))))∧Ext w w':=by
 go_enter Crz.func86,Tryz.ntmps86
 go_wp2_with (go_at_call 83;refine(qW _ _ _ _).mono ?_;rintro e w' ⟨rfl,rfl⟩)
 go_ret
 exact⟨rfl,Below.refl _ _⟩
set_option maxHeartbeats 4000000 in
theorem Check_any(v:Value)(R:RM)(w:World)(hR:RA w v R):Calls Crz.prog 55 #[v] w (ECode (rulesE R) w):=by
 obtain⟨pA,pc,sA,sc,eA,ec,rfl,hp,hs,he,hpc,hsc,hec,hnm⟩:=hR
 have x1:Ext w (w.alloc (.cells #[.string R.name,.int .i64 R.width,.int .i64 R.height,.slice pA R.pieces.length pc,.slice sA R.start.length sc,.bool R.falls,.bool R.keeps,.slice eA R.ends.length ec,.int .i64 R.blocked,.int .i64 R.quiet,.int .i64 R.rept] 26)):=qA (Below.refl _ _) _
 cases hn:nameB R.name
 ·have HF:Hid (rulesE R=6):=hide (by simp [rulesE,hn])
  go_enter Crz.func55,Tryz.ntmps55
  go_wp2_with (go_at_call 82;refine(Name_any _ _ hnm).mono ?_;rintro e w' ⟨rfl,rfl⟩)
  go_ret
  exact⟨by rw [HF.out];rfl,x1⟩
 cases hwd:inB R.width 1 8
 ·have HF:Hid (rulesE R=4):=hide (by simp [rulesE,hn,hwd])
  go_enter Crz.func55,Tryz.ntmps55
  go_wp2_with (first | (go_at_call 82;refine(Name_any _ _ hnm).mono ?_;rintro e w' ⟨rfl,rfl⟩) | (go_at_call 83;refine(qW _ _ _ _).mono ?_;rintro e w' ⟨rfl,rfl⟩))
  go_ret
  exact⟨by rw [HF.out];rfl,x1⟩
 cases hht:inB R.height 1 8
 ·have HF:Hid (rulesE R=4):=hide (by simp [rulesE,hn,hwd,hht])
  go_enter Crz.func55,Tryz.ntmps55
  go_wp2_with (first | (go_at_call 82;refine(Name_any _ _ hnm).mono ?_;rintro e w' ⟨rfl,rfl⟩) | (go_at_call 83;refine(qW _ _ _ _).mono ?_;rintro e w' ⟨rfl,rfl⟩))
  go_ret
  exact⟨by rw [HF.out];rfl,x1⟩
 have hwb:1≤R.width∧R.width≤8:=by simpa [inB] using hwd
 have hhb:1≤R.height∧R.height≤8:=by simpa [inB] using hht
 have HR:Hid (rulesE R=if piecesE R.pieces≠0 then piecesE R.pieces else if (R.start.length:Int)≠R.width * R.height then 3 else if !(R.start.all fun c=>inB c 0 (2 * R.pieces.length)) then 4 else if endsE R.pieces.length R.ends≠0 then endsE R.pieces.length R.ends else if lastB R then 0 else 4):=hide (by simp [rulesE,hn,hwd,hht])
 have HPC:Hid (∀ W,Ext w W→Calls Crz.prog 84 #[.agg #[.string R.name,.int .i64 R.width,.int .i64 R.height,.slice pA R.pieces.length pc,.slice sA R.start.length sc,.bool R.falls,.bool R.keeps,.slice eA R.ends.length ec,.int .i64 R.blocked,.int .i64 R.quiet,.int .i64 R.rept]] W (Code (piecesE R.pieces) W)):=hide (fun W hW=>by
  by_cases h0:R.pieces.length=0
  ·have:piecesE R.pieces=8:=by simp [piecesE,h0]
   rw [this,h0]
   exact pieces_none _ _ _ _ _ _ _ _ _ _ _ _ _
  ·by_cases h6:6<R.pieces.length
   ·have:piecesE R.pieces=2:=by simp [piecesE,h6,h0]
    rw [this]
    exact pieces_many _ _ _ _ _ _ _ _ _ _ _ _ _ _ h6
   ·exact pieces_any _ _ _ _ _ _ _ _ _ _ _ _ _ R.pieces _ rfl (by omega) (by omega) hpc (hp.ext hW))
 have hps:piecesE R.pieces=0→1≤R.pieces.length∧R.pieces.length≤6:=by
  intro h
  unfold piecesE at h
  by_cases h0:R.pieces.length=0
  ·rw [if_pos h0] at h;omega
  ·by_cases h6:6<R.pieces.length
   ·rw [if_neg h0,if_pos h6] at h;omega
   ·omega
 by_cases hpe:piecesE R.pieces=0
 rotate_left
 ·have HF:Hid (rulesE R=piecesE R.pieces):=hide (by rw [HR.out,if_pos hpe])
  have hpe':(piecesE R.pieces != 0)=true:=by simpa using hpe
  clear hps HR hpe
  generalize piecesE R.pieces=E at *
  go_enter Crz.func55,Tryz.ntmps55
  go_wp2_with (first | (go_at_call 82;refine(Name_any _ _ hnm).mono ?_;rintro e w' ⟨rfl,rfl⟩) | (go_at_call 83;refine(qW _ _ _ _).mono ?_;rintro e w' ⟨rfl,rfl⟩))
  refine(HPC.out _ x1).mono ?_
  rintro e w2 ⟨rfl,x2⟩
  obtain⟨g0,g1,g2,g3,g4,g5,g6,g7,g8,g9,g10⟩:=box11 x2
  have X2:=qT x1 x2
  go_wp2
  go_ret
  exact⟨by rw [HF.out];rfl,X2⟩
 obtain⟨hp1,hp6⟩:=hps hpe
 have HR2:=HR.out
 rw [if_neg (fun h=>h hpe)] at HR2
 rw [hpe] at HPC
 have har:R.width * R.height≤64:=by
  have:R.width * R.height≤8 * 8:=Int.mul_le_mul (by omega) (by omega) (by omega) (by omega)
  omega
 have har0:0≤R.width * R.height:=Int.mul_nonneg (by omega) (by omega)
 clear hps HR hpe
 by_cases hln:(R.start.length:Int)=R.width * R.height
 rotate_left
 ·have HF:Hid (rulesE R=3):=hide (by rw [HR2,if_pos hln])
  clear HR2
  go_enter Crz.func55,Tryz.ntmps55
  go_wp2_with (first | (go_at_call 82;refine(Name_any _ _ hnm).mono ?_;rintro e w' ⟨rfl,rfl⟩) | (go_at_call 83;refine(qW _ _ _ _).mono ?_;rintro e w' ⟨rfl,rfl⟩))
  refine(HPC.out _ x1).mono ?_
  rintro e w2 ⟨rfl,x2⟩
  obtain⟨g0,g1,g2,g3,g4,g5,g6,g7,g8,g9,g10⟩:=box11 x2
  have X2:=qT x1 x2
  go_wp2
  go_ret
  exact⟨by rw [HF.out];rfl,X2⟩
 rw [if_neg (fun h=>h hln)] at HR2
 have hln1:R.start.length≤64:=by omega
 have hln2:(R.start.length:Int)≤R.width * R.height:=by omega
 have hln3:R.width * R.height≤R.start.length:=by omega
 have HAS:Hid (∀ B W,Ext w W→W.cell? ⟨B,3,none⟩=some (.slice pA R.pieces.length pc)→Calls Crz.prog 85 #[.slice sA R.start.length sc,.func (.func 86) #[] #[.pointer (some ⟨B,0,none⟩)]] W fun e w'=>e=.returned (.bool (!(R.start.all fun c=>inB c 0 (2 * R.pieces.length))))∧Ext W w'):=hide (fun B W hW hc=>by
  have:=hasInts_one 86 (.pointer (some ⟨B,0,none⟩)) (fun z=>!inB z 0 (2 * (R.pieces.length:Int))) sA R.start.length sc R.start W rfl (by omega) (hs.ext hW) (enters_of Crz.func86 (by kernel_rfl) rfl) (fun z W' hW'=>Check1_any z _ pc pA B W' hp6 (Ext.cell hW' hc))
  rw [List.not_all_eq_any_not]
  exact this)
 have HEN:Hid (∀ W,Ext w W→Calls Crz.prog 87 #[.agg #[.string R.name,.int .i64 R.width,.int .i64 R.height,.slice pA R.pieces.length pc,.slice sA R.start.length sc,.bool R.falls,.bool R.keeps,.slice eA R.ends.length ec,.int .i64 R.blocked,.int .i64 R.quiet,.int .i64 R.rept]] W (ECode (endsE R.pieces.length R.ends) W)):=hide (fun W hW=>by
  by_cases h6:6<R.ends.length
  ·have:endsE R.pieces.length R.ends=2:=by simp [endsE,h6]
   rw [this]
   exact conds_many _ _ _ _ _ _ _ _ _ _ _ _ _ _ h6
  ·exact conds_any _ _ _ _ _ _ _ _ _ _ _ _ _ _ _ R.ends _ rfl (by omega) (by omega) (by omega) (CellsAt.ext he hW))
 clear hln hp hs he
 cases hst:(R.start.all fun c=>inB c 0 (2 * R.pieces.length))
 ·have HF:Hid (rulesE R=4):=hide (by rw [HR2,if_pos (by rw [hst];rfl)])
  rw [hst] at HAS
  clear HR2 hst HEN
  go_enter Crz.func55,Tryz.ntmps55
  go_wp2_with (first | (go_at_call 82;refine(Name_any _ _ hnm).mono ?_;rintro e w' ⟨rfl,rfl⟩) | (go_at_call 83;refine(qW _ _ _ _).mono ?_;rintro e w' ⟨rfl,rfl⟩))
  refine(HPC.out _ x1).mono ?_
  rintro e w2 ⟨rfl,x2⟩
  obtain⟨g0,g1,g2,g3,g4,g5,g6,g7,g8,g9,g10⟩:=box11 x2
  have X2:=qT x1 x2
  go_wp2_with fail
  refine(HAS.out _ _ X2 g3).mono ?_
  rintro e w3 ⟨rfl,x3⟩
  go_wp2
  go_ret
  exact⟨by rw [HF.out];rfl,qT X2 x3⟩
 rw [if_neg (by rw [hst];simp)] at HR2
 rw [hst] at HAS
 clear hst
 by_cases hee:endsE R.pieces.length R.ends=0
 rotate_left
 ·have HF:Hid (rulesE R=endsE R.pieces.length R.ends):=hide (by rw [HR2,if_pos hee])
  have hee':(endsE R.pieces.length R.ends != 0)=true:=by simpa using hee
  clear HR2 hee
  generalize endsE R.pieces.length R.ends=E at *
  go_enter Crz.func55,Tryz.ntmps55
  go_wp2_with (first | (go_at_call 82;refine(Name_any _ _ hnm).mono ?_;rintro e w' ⟨rfl,rfl⟩) | (go_at_call 83;refine(qW _ _ _ _).mono ?_;rintro e w' ⟨rfl,rfl⟩))
  refine(HPC.out _ x1).mono ?_
  rintro e w2 ⟨rfl,x2⟩
  obtain⟨g0,g1,g2,g3,g4,g5,g6,g7,g8,g9,g10⟩:=box11 x2
  have X2:=qT x1 x2
  go_wp2_with fail
  refine(HAS.out _ _ X2 g3).mono ?_
  rintro e w3 ⟨rfl,x3⟩
  clear g0 g1 g2 g3 g4 g5 g6 g7 g8 g9 g10
  obtain⟨g0,g1,g2,g3,g4,g5,g6,g7,g8,g9,g10⟩:=box11 (qT x2 x3)
  go_wp2_with fail
  refine(HEN.out _ (qT X2 x3)).mono ?_
  rintro e w4 ⟨rfl,x4⟩
  clear g0 g1 g2 g3 g4 g5 g6 g7 g8 g9 g10
  obtain⟨g0,g1,g2,g3,g4,g5,g6,g7,g8,g9,g10⟩:=box11 (qT (qT x2 x3) x4)
  go_wp2
  go_ret
  exact⟨by rw [HF.out];rfl,qT (qT X2 x3) x4⟩
 rw [if_neg (fun h=>h hee)] at HR2
 rw [hee] at HEN
 clear hee
 cases hb:inB R.blocked 0 2
 ·skip
  have HF:Hid (rulesE R=4):=hide (by rw [HR2];simp [lastB,hb])
  clear HR2
  go_enter Crz.func55,Tryz.ntmps55
  go_wp2_with (first | (go_at_call 82;refine(Name_any _ _ hnm).mono ?_;rintro e w' ⟨rfl,rfl⟩) | (go_at_call 83;refine(qW _ _ _ _).mono ?_;rintro e w' ⟨rfl,rfl⟩))
  refine(HPC.out _ x1).mono ?_
  rintro e w2 ⟨rfl,x2⟩
  obtain⟨g0,g1,g2,g3,g4,g5,g6,g7,g8,g9,g10⟩:=box11 x2
  have X2:=qT x1 x2
  go_wp2_with fail
  refine(HAS.out _ _ X2 g3).mono ?_
  rintro e w3 ⟨rfl,x3⟩
  clear g0 g1 g2 g3 g4 g5 g6 g7 g8 g9 g10
  obtain⟨g0,g1,g2,g3,g4,g5,g6,g7,g8,g9,g10⟩:=box11 (qT x2 x3)
  go_wp2_with fail
  refine(HEN.out _ (qT X2 x3)).mono ?_
  rintro e w4 ⟨rfl,x4⟩
  clear g0 g1 g2 g3 g4 g5 g6 g7 g8 g9 g10
  obtain⟨g0,g1,g2,g3,g4,g5,g6,g7,g8,g9,g10⟩:=box11 (qT (qT x2 x3) x4)
  go_wp2_with (go_at_call 83;refine(qW _ _ _ _).mono ?_;rintro e w' ⟨rfl,rfl⟩)
  go_ret
  exact⟨by rw [HF.out];rfl,qT (qT X2 x3) x4⟩
 cases hq:inB R.quiet 0 200
 ·skip
  have HF:Hid (rulesE R=4):=hide (by rw [HR2];simp [lastB,hb,hq])
  clear HR2
  go_enter Crz.func55,Tryz.ntmps55
  go_wp2_with (first | (go_at_call 82;refine(Name_any _ _ hnm).mono ?_;rintro e w' ⟨rfl,rfl⟩) | (go_at_call 83;refine(qW _ _ _ _).mono ?_;rintro e w' ⟨rfl,rfl⟩))
  refine(HPC.out _ x1).mono ?_
  rintro e w2 ⟨rfl,x2⟩
  obtain⟨g0,g1,g2,g3,g4,g5,g6,g7,g8,g9,g10⟩:=box11 x2
  have X2:=qT x1 x2
  go_wp2_with fail
  refine(HAS.out _ _ X2 g3).mono ?_
  rintro e w3 ⟨rfl,x3⟩
  clear g0 g1 g2 g3 g4 g5 g6 g7 g8 g9 g10
  obtain⟨g0,g1,g2,g3,g4,g5,g6,g7,g8,g9,g10⟩:=box11 (qT x2 x3)
  go_wp2_with fail
  refine(HEN.out _ (qT X2 x3)).mono ?_
  rintro e w4 ⟨rfl,x4⟩
  clear g0 g1 g2 g3 g4 g5 g6 g7 g8 g9 g10
  obtain⟨g0,g1,g2,g3,g4,g5,g6,g7,g8,g9,g10⟩:=box11 (qT (qT x2 x3) x4)
  go_wp2_with (go_at_call 83;refine(qW _ _ _ _).mono ?_;rintro e w' ⟨rfl,rfl⟩)
  go_ret
  exact⟨by rw [HF.out];rfl,qT (qT X2 x3) x4⟩
 by_cases hr0:R.rept=0
 ·have t0:(R.rept == 0)=true:=by simpa using hr0
  have t0':(R.rept != 0)=false:=by simpa using hr0
  have HF:Hid (rulesE R=0):=hide (by rw [HR2];simp [lastB,hb,hq,hr0])
  clear HR2
  clear hr0
  go_enter Crz.func55,Tryz.ntmps55
  go_wp2_with (first | (go_at_call 82;refine(Name_any _ _ hnm).mono ?_;rintro e w' ⟨rfl,rfl⟩) | (go_at_call 83;refine(qW _ _ _ _).mono ?_;rintro e w' ⟨rfl,rfl⟩))
  refine(HPC.out _ x1).mono ?_
  rintro e w2 ⟨rfl,x2⟩
  obtain⟨g0,g1,g2,g3,g4,g5,g6,g7,g8,g9,g10⟩:=box11 x2
  have X2:=qT x1 x2
  go_wp2_with fail
  refine(HAS.out _ _ X2 g3).mono ?_
  rintro e w3 ⟨rfl,x3⟩
  clear g0 g1 g2 g3 g4 g5 g6 g7 g8 g9 g10
  obtain⟨g0,g1,g2,g3,g4,g5,g6,g7,g8,g9,g10⟩:=box11 (qT x2 x3)
  go_wp2_with fail
  refine(HEN.out _ (qT X2 x3)).mono ?_
  rintro e w4 ⟨rfl,x4⟩
  clear g0 g1 g2 g3 g4 g5 g6 g7 g8 g9 g10
  obtain⟨g0,g1,g2,g3,g4,g5,g6,g7,g8,g9,g10⟩:=box11 (qT (qT x2 x3) x4)
  go_wp2_with (go_at_call 83;refine(qW _ _ _ _).mono ?_;rintro e w' ⟨rfl,rfl⟩)
  go_ret
  exact⟨by rw [HF.out];rfl,qT (qT X2 x3) x4⟩
 have t0:(R.rept == 0)=false:=by simpa using hr0
 have t0':(R.rept != 0)=true:=by simpa using hr0
 cases hr:inB R.rept 2 5
 ·skip
  have HF:Hid (rulesE R=4):=hide (by rw [HR2];simp [lastB,hb,hq,hr0,hr])
  clear HR2
  clear hr0
  go_enter Crz.func55,Tryz.ntmps55
  go_wp2_with (first | (go_at_call 82;refine(Name_any _ _ hnm).mono ?_;rintro e w' ⟨rfl,rfl⟩) | (go_at_call 83;refine(qW _ _ _ _).mono ?_;rintro e w' ⟨rfl,rfl⟩))
  refine(HPC.out _ x1).mono ?_
  rintro e w2 ⟨rfl,x2⟩
  obtain⟨g0,g1,g2,g3,g4,g5,g6,g7,g8,g9,g10⟩:=box11 x2
  have X2:=qT x1 x2
  go_wp2_with fail
  refine(HAS.out _ _ X2 g3).mono ?_
  rintro e w3 ⟨rfl,x3⟩
  clear g0 g1 g2 g3 g4 g5 g6 g7 g8 g9 g10
  obtain⟨g0,g1,g2,g3,g4,g5,g6,g7,g8,g9,g10⟩:=box11 (qT x2 x3)
  go_wp2_with fail
  refine(HEN.out _ (qT X2 x3)).mono ?_
  rintro e w4 ⟨rfl,x4⟩
  clear g0 g1 g2 g3 g4 g5 g6 g7 g8 g9 g10
  obtain⟨g0,g1,g2,g3,g4,g5,g6,g7,g8,g9,g10⟩:=box11 (qT (qT x2 x3) x4)
  go_wp2_with (go_at_call 83;refine(qW _ _ _ _).mono ?_;rintro e w' ⟨rfl,rfl⟩)
  go_ret
  exact⟨by rw [HF.out];rfl,qT (qT X2 x3) x4⟩
 ·skip
  have HF:Hid (rulesE R=0):=hide (by rw [HR2];simp [lastB,hb,hq,hr0,hr])
  clear HR2
  clear hr0
  go_enter Crz.func55,Tryz.ntmps55
  go_wp2_with (first | (go_at_call 82;refine(Name_any _ _ hnm).mono ?_;rintro e w' ⟨rfl,rfl⟩) | (go_at_call 83;refine(qW _ _ _ _).mono ?_;rintro e w' ⟨rfl,rfl⟩))
  refine(HPC.out _ x1).mono ?_
  rintro e w2 ⟨rfl,x2⟩
  obtain⟨g0,g1,g2,g3,g4,g5,g6,g7,g8,g9,g10⟩:=box11 x2
  have X2:=qT x1 x2
  go_wp2_with fail
  refine(HAS.out _ _ X2 g3).mono ?_
  rintro e w3 ⟨rfl,x3⟩
  clear g0 g1 g2 g3 g4 g5 g6 g7 g8 g9 g10
  obtain⟨g0,g1,g2,g3,g4,g5,g6,g7,g8,g9,g10⟩:=box11 (qT x2 x3)
  go_wp2_with fail
  refine(HEN.out _ (qT X2 x3)).mono ?_
  rintro e w4 ⟨rfl,x4⟩
  clear g0 g1 g2 g3 g4 g5 g6 g7 g8 g9 g10
  obtain⟨g0,g1,g2,g3,g4,g5,g6,g7,g8,g9,g10⟩:=box11 (qT (qT x2 x3) x4)
  go_wp2_with (go_at_call 83;refine(qW _ _ _ _).mono ?_;rintro e w' ⟨rfl,rfl⟩)
  go_ret
  exact⟨by rw [HF.out];rfl,qT (qT X2 x3) x4⟩
end Go.Proofs.YtdoibgmmijhlfaaGreat
namespace Go.Proofs.YtdoibgmmijhlfaaGreat
open Go.ChangeShapes Go.WideShapes Go.ChangeAt Go.RowKit
set_option linter.unusedVariables false
structure Valid(R:RM):Prop where
 name:nameB R.name=true
 side:okSide R.width R.height
 pieces0:1≤R.pieces.length
 pieces6:R.pieces.length≤6
 piece:∀ j,j<R.pieces.length→pieceE R.pieces j=0
 area:(R.start.length:Int)=R.width * R.height
 start:∀ c∈R.start,0≤c∧c≤2 * (R.pieces.length:Int)
 ends6:R.ends.length≤6
 ende:endsE R.pieces.length R.ends=0
 last:lastB R=true
theorem inB_iff{n lo hi:Int}:inB n lo hi=true↔lo≤n∧n≤hi:=by simp [inB]
theorem piecesE_zero{ps:List PieceM}:piecesE ps=0↔1≤ps.length∧ps.length≤6∧∀ j,j<ps.length→pieceE ps j=0:=by
 unfold piecesE
 by_cases h0:ps.length=0
 ·rw [if_pos h0];constructor
  ·intro h;omega
  ·intro h;omega
 ·rw [if_neg h0]
  by_cases h6:6<ps.length
  ·rw [if_pos h6];constructor
   ·intro h;omega
   ·intro h;omega
  ·rw [if_neg h6,firstE_zero]
   constructor
   ·intro h;exact⟨by omega,by omega,fun j hj=>h j (Nat.zero_le _) (by omega)⟩
   ·intro h j _ hj;exact h.2.2 j (by omega)
theorem valid_of{R:RM}(h:rulesE R=0):Valid R:=by
 unfold rulesE at h
 cases h1:nameB R.name
 ·rw [h1] at h;simp at h
 rw [h1] at h
 cases h2:inB R.width 1 8 && inB R.height 1 8
 ·rw [h2] at h;simp at h
 rw [h2] at h
 simp only [Bool.not_true,Bool.false_eq_true,if_false] at h
 by_cases h3:piecesE R.pieces=0
 case neg=>rw [if_pos h3] at h;exact absurd h h3
 rw [if_neg (fun k=>k h3)] at h
 by_cases h4:(R.start.length:Int)=R.width * R.height
 case neg=>rw [if_pos h4] at h;omega
 rw [if_neg (fun k=>k h4)] at h
 cases h5:R.start.all fun c=>inB c 0 (2 * (R.pieces.length:Int))
 ·rw [h5] at h;simp at h
 rw [h5] at h
 simp only [Bool.not_true,Bool.false_eq_true,if_false] at h
 by_cases h6:endsE R.pieces.length R.ends=0
 case neg=>rw [if_pos h6] at h;exact absurd h h6
 rw [if_neg (fun k=>k h6)] at h
 cases h7:lastB R
 ·rw [h7] at h;simp at h
 obtain⟨a1,a2⟩:=Bool.and_eq_true_iff.1 h2
 rw [inB_iff] at a1 a2
 obtain⟨p1,p2,p3⟩:=piecesE_zero.1 h3
 refine⟨h1,⟨a1.1,a1.2,a2.1,a2.2⟩,p1,p2,p3,h4,fun c hc=>?_,?_,h6,h7⟩
 ·rw [List.all_eq_true] at h5
  exact inB_iff.1 (h5 c hc)
 ·unfold endsE at h6
  by_cases h8:6<R.ends.length
  ·rw [if_pos h8] at h6;omega
  ·omega
theorem of_valid{R:RM}(h:Valid R):rulesE R=0:=by
 unfold rulesE
 have h3:=piecesE_zero.2 ⟨h.pieces0,h.pieces6,h.piece⟩
 have a1:inB R.width 1 8=true:=inB_iff.2 ⟨h.side.1,h.side.2.1⟩
 have a2:inB R.height 1 8=true:=inB_iff.2 ⟨h.side.2.2.1,h.side.2.2.2⟩
 have h5:(R.start.all fun c=>inB c 0 (2 * (R.pieces.length:Int)))=true:=by
  rw [List.all_eq_true]
  intro c hc
  exact inB_iff.2 (h.start c hc)
 rw [h.name,a1,a2,h3,h5,h.ende,h.last,h.area]
 simp
theorem piece_facts{ps:List PieceM}{p:PieceM}(h:∀ j,j<ps.length→pieceE ps j=0)(hp:p∈ps):(65≤p.letter∧p.letter≤90)∧(0≤p.hand∧p.hand≤64)∧(0≤p.promote∧p.promote≤ps.length)∧p.ways.length≤16∧∀ x∈p.ways,wayB x=true:=by
 obtain⟨k,hk,rfl⟩:=List.mem_iff_getElem.1 hp
 have:=h k hk
 rw [pieceE_get (List.getElem?_eq_getElem hk)] at this
 generalize ps[k]=p at *
 cases h1:inB p.letter 65 90
 ·rw [h1] at this;simp at this
 cases h2:(ps.take k).any (fun q=>decide (q.letter=p.letter))
 ·cases h3:inB p.hand 0 64 && inB p.promote 0 ps.length
  ·rw [h1,h2,h3] at this;simp at this
  ·obtain⟨a,b⟩:=Bool.and_eq_true_iff.1 h3
   rw [h1,h2,h3] at this
   simp only [Bool.not_true,Bool.false_eq_true,if_false] at this
   by_cases h4:16<p.ways.length
   ·rw [if_pos h4] at this;omega
   ·rw [if_neg h4] at this
    cases h5:p.ways.all wayB
    ·rw [h5] at this;simp at this
    ·rw [List.all_eq_true] at h5
     exact⟨inB_iff.1 h1,inB_iff.1 a,inB_iff.1 b,by omega,h5⟩
 ·rw [h1,h2] at this;simp at this
end Go.Proofs.YtdoibgmmijhlfaaGreat
namespace Go.Proofs.YtdoibgmmijhlfaaGreat
open Go.ChangeShapes Go.WideShapes Go.ChangeAt Go.RowKit Go.Shelf
set_option linter.unusedVariables false
theorem out_any(lo hi:Int)(w:World):Calls Crz.prog 116 #[.int .i64 lo,.int .i64 hi] w fun e w'=>∃ b1 b2,e=.returned (.func (.func 117) #[] #[.pointer (some ⟨b1,0,none⟩),.pointer (some ⟨b2,0,none⟩)]) ∧
  w'.cell? ⟨b1,0,none⟩=some (.int .i64 lo)∧w'.cell? ⟨b2,0,none⟩=some (.int .i64 hi)∧Ext w w':=by
 go_enter Crz.func116,Tryz.ntmps116
 go_wp2
 go_ret
 refine⟨_,_,rfl,?_,?_,qA (qA (Below.refl _ _) _) _⟩
 ·exact Ext.cell (qA (Below.refl _ _) _) (nC w #[.int .i64 lo] _ 0)
 ·have:=nC (w.alloc (.cells #[.int .i64 lo] 3)) #[.int .i64 hi] 3 0
  rw [show (w.alloc (.cells #[.int .i64 lo] 3)).heap.size=w.heap.size+1 from by simp] at this
  exact this
theorem out1_any(z lo hi:Int)(b1 b2:Nat)(w:World)(h1:w.cell? ⟨b1,0,none⟩=some (.int .i64 lo))(h2:w.cell? ⟨b2,0,none⟩=some (.int .i64 hi)) :
  Calls Crz.prog 117 #[.int .i64 z,.pointer (some ⟨b1,0,none⟩),.pointer (some ⟨b2,0,none⟩)] w fun e w'=>e=.returned (.bool (!inB z lo hi))∧Ext w w':=by
 unfold inB
 by_cases h3:lo≤z
 ·by_cases h4:z≤hi
  ·go_enter Crz.func117,Tryz.ntmps117
   go_wp2
   go_ret
   exact⟨by simp [h3,h4],Below.refl _ _⟩
  ·go_enter Crz.func117,Tryz.ntmps117
   go_wp2
   go_ret
   exact⟨by simp;omega,Below.refl _ _⟩
 ·go_enter Crz.func117,Tryz.ntmps117
  go_wp2
  go_ret
  exact⟨by simp;omega,Below.refl _ _⟩
theorem hasOut(A:Option Addr)(n c:Nat)(zs:List Int)(lo hi:Int)(b1 b2:Nat)(w:World)(hn:zs.length=n)(hm:n≤9223372036854775807)(hz:IntsAt w A zs)(h1:w.cell? ⟨b1,0,none⟩=some (.int .i64 lo))(h2:w.cell? ⟨b2,0,none⟩=some (.int .i64 hi)) :
  Calls Crz.prog 85 #[.slice A n c,.func (.func 117) #[] #[.pointer (some ⟨b1,0,none⟩),.pointer (some ⟨b2,0,none⟩)]] w fun e w'=>e=.returned (.bool (!(zs.all fun z=>inB z lo hi)))∧Ext w w':=by
 have:=hasInts_two 117 (.pointer (some ⟨b1,0,none⟩)) (.pointer (some ⟨b2,0,none⟩)) (fun z=>!inB z lo hi) A n c zs w hn hm hz (enters_of Crz.func117 (by kernel_rfl) rfl) (fun z W hW=>out1_any z lo hi b1 b2 W (Ext.cell hW h1) (Ext.cell hW h2))
 rw [List.not_all_eq_any_not]
 exact this
set_option maxHeartbeats 2000000 in
set_option maxRecDepth 100000 in
theorem sound_form(R:RM)(P:PosM)(v u:Value)(w:World)(hR:RA w v R)(hP:PA w u P)(hs:okSide R.width R.height)(h:formB R P=false) :
  Calls Crz.prog 79 #[v,u] w (ECode 3 w):=by
 obtain⟨pA,pc,sA,sc,eA,ec,rfl,-⟩:=hR
 obtain⟨cA,cc,aA,ac,bA,bc,rfl,-⟩:=hP
 have har:=area_bd _ _ hs
 obtain⟨ha1,ha2⟩:=har
 have h':¬ (P.cells.length:Int)=R.width * R.height∨((P.cells.length:Int)=R.width * R.height∧¬ (P.hand0.length:Int)=R.pieces.length)∨((P.cells.length:Int)=R.width * R.height∧(P.hand0.length:Int)=R.pieces.length∧¬ (P.hand1.length:Int)=R.pieces.length):=by
  unfold formB at h
  simp at h
  omega
 clear h
 rcases h' with h1 | ⟨h1,h2⟩ | ⟨h1,h2,h3⟩
 ·go_enter Crz.func79,Tryz.ntmps79
  go_wp2
  go_ret
  exact⟨rfl,qA (qA (Below.refl _ _) _) _⟩
 ·have h1':((P.cells.length:Int) != R.width * R.height)=false:=by simpa using h1
  clear h1
  go_enter Crz.func79,Tryz.ntmps79
  go_wp2
  go_ret
  exact⟨rfl,qA (qA (Below.refl _ _) _) _⟩
 ·have h1':((P.cells.length:Int) != R.width * R.height)=false:=by simpa using h1
  have h2':((P.hand0.length:Int) != R.pieces.length)=false:=by simpa using h2
  clear h1 h2
  go_enter Crz.func79,Tryz.ntmps79
  go_wp2
  go_ret
  exact⟨rfl,qA (qA (Below.refl _ _) _) _⟩
end Go.Proofs.YtdoibgmmijhlfaaGreat
