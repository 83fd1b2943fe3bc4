/- Walk: the law BoardKeys. -/
import Derived.Test.YthmldoffonlddaaLBack
import Derived.Test.YthmldoffonlddaaGSmall
import Derived.Test.YthmldoffonlddaaGKeyed
import Derived.Test.YthmldoffonlddaaGPlays
namespace Go.Proofs.Ythmldoffonlddaa
open Go.ChangeShapes Go.WideShapes Go.ChangeAt Go.RowKit Go.Shelf
set_option linter.unusedVariables false
set_option linter.unusedSimpArgs false
theorem keyB_yes (R : RulesM) (P : PosM) (v u : Value) (w : World) (hR : RulesAt w v R) (hP : PosAt w u P) (hV : Valid R) (hS : Sound R P) :
    Calls Try.prog 26 #[v, u] w fun e w' => e = .returned (.tuple #[.int .u64 (keyM P), .int .i64 0]) ∧ Ext w w' := by
  have h := Key_any R P v u w hR hP
  rw [check_iff.2 ⟨hV, hS⟩] at h
  exact h
set_option maxHeartbeats 8000000 in
set_option maxRecDepth 100000 in
theorem boardKeys_bad (v : Value) (R : RulesM) (u : Value) (P : PosM) (A : Option Addr) (n c : Nat) (z : List Int) (w : World) (hR : RulesAt w v R) (hP : PosAt w u P) (he : checkE R P ≠ 0) :
    Calls Try.prog 4 #[v, u, .slice A n c] w fun e w' => e = .returned (.bool true) ∧ Ext w w' := by
  have HNW := hide (fun W (v1 v2 : Value) (h1 : RulesAt W v1 R) (h2 : PosAt W v2 P) => BNew_no R P v1 v2 W h1 h2 he)
  have t0 : (checkE R P != 0) = true := by simpa using he
  clear he
  generalize checkE R P = E at *
  have hR0 := hR
  have hP0 := hP
  obtain ⟨pA, pc, sA, sc, eA, ec, rfl, -⟩ := hR0
  obtain ⟨cA, cc, aA, ac, bA, bc, rfl, -⟩ := hP0
  go_enter Try.func4, Try.ntmps4
  go_wp2_with fail
  obtain ⟨xa, kR, kP⟩ := blks2 w #[.string R.name, .int .i64 R.width, .int .i64 R.height, .slice pA R.pieces.length pc, .slice sA R.start.length sc, .bool R.falls, .bool R.keeps, .slice eA R.ends.length ec, .int .i64 R.blocked, .int .i64 R.quiet, .int .i64 R.rept] 26 #[.slice cA P.cells.length cc, .slice aA P.hand0.length ac, .slice bA P.hand1.length bc, .int .i64 P.turn, .int .i64 P.quiet] 29
  replace hR := hR.ext xa
  replace hP := hP.ext xa
  have X := xa
  clear xa
  generalize ((w.alloc (.cells #[.string R.name, .int .i64 R.width, .int .i64 R.height, .slice pA R.pieces.length pc, .slice sA R.start.length sc, .bool R.falls, .bool R.keeps, .slice eA R.ends.length ec, .int .i64 R.blocked, .int .i64 R.quiet, .int .i64 R.rept] 26)).alloc (.cells #[.slice cA P.cells.length cc, .slice aA P.hand0.length ac, .slice bA P.hand1.length bc, .int .i64 P.turn, .int .i64 P.quiet] 29)) = w2 at *
  generalize w.heap.size + 1 = BP at *
  generalize w.heap.size = BR at *
  refine (boarded_any _).mono ?_
  rintro e w3 ⟨rfl, x⟩
  replace hR := hR.ext x
  replace hP := hP.ext x
  replace kR := kR.ext x
  replace kP := kP.ext x
  replace X := ext_trans X x
  clear x
  go_wp2_with fail
  refine (keyed_any _).mono ?_
  rintro e w4 ⟨rfl, x⟩
  replace hR := hR.ext x
  replace hP := hP.ext x
  replace kR := kR.ext x
  replace kP := kP.ext x
  replace X := ext_trans X x
  clear x
  go_wp2_with fail
  refine (plays_any _).mono ?_
  rintro e w5 ⟨rfl, x⟩
  replace hR := hR.ext x
  replace hP := hP.ext x
  replace kR := kR.ext x
  replace kP := kP.ext x
  replace X := ext_trans X x
  clear x
  have fR := kR.cell
  have fP := kP.cell
  go_wp2_with fail
  refine (HNW.out _ _ _ hR hP).mono ?_
  rintro e w6 ⟨rfl, x⟩
  replace hR := hR.ext x
  replace hP := hP.ext x
  replace kR := kR.ext x
  replace kP := kP.ext x
  replace X := ext_trans X x
  replace fR := kR.cell
  replace fP := kP.cell
  clear x
  clear fR fP
  go_wp2
  all_goals go_ret
  all_goals exact ⟨by first | rfl | simp, X⟩
set_option maxHeartbeats 8000000 in
set_option maxRecDepth 100000 in
theorem boardKeys_nil (v : Value) (R : RulesM) (u : Value) (P : PosM) (A : Option Addr) (n c : Nat) (z : List Int) (w : World) (hR : RulesAt w v R) (hP : PosAt w u P) (hV : Valid R) (hS : Sound R P) (hA : A = none) (hn : n = 0) (hc : c = 0) :
    Calls Try.prog 4 #[v, u, .slice A n c] w fun e w' => e = .returned (.bool true) ∧ Ext w w' := by
  have HNW := hide (fun W (v1 v2 : Value) (h1 : RulesAt W v1 R) (h2 : PosAt W v2 P) => BNew_yes R P v1 v2 W h1 h2 hV hS)
  have HVS := hide (And.intro hV hS)
  clear hV hS
  obtain ⟨q, hq⟩ : ∃ q : Int, min (n : Int) 12 = q := ⟨_, rfl⟩
  have hmin : ∀ W ats ty, (Builtin.min_ ats ty #[.int .i64 (n : Int), .int .i64 12]).run Try.prog W = .ok (.int .i64 q) W := fun W ats ty => by rw [← hq]; exact run_min3 W ats ty n 12
  subst hA hn hc
  obtain rfl : q = 0 := by omega
  clear hq
  have hR0 := hR
  have hP0 := hP
  obtain ⟨pA, pc, sA, sc, eA, ec, rfl, -⟩ := hR0
  obtain ⟨cA, cc, aA, ac, bA, bc, rfl, -⟩ := hP0
  go_enter Try.func4, Try.ntmps4
  go_wp2_with fail
  obtain ⟨xa, kR, kP⟩ := blks2 w #[.string R.name, .int .i64 R.width, .int .i64 R.height, .slice pA R.pieces.length pc, .slice sA R.start.length sc, .bool R.falls, .bool R.keeps, .slice eA R.ends.length ec, .int .i64 R.blocked, .int .i64 R.quiet, .int .i64 R.rept] 26 #[.slice cA P.cells.length cc, .slice aA P.hand0.length ac, .slice bA P.hand1.length bc, .int .i64 P.turn, .int .i64 P.quiet] 29
  replace hR := hR.ext xa
  replace hP := hP.ext xa
  have X := xa
  clear xa
  generalize ((w.alloc (.cells #[.string R.name, .int .i64 R.width, .int .i64 R.height, .slice pA R.pieces.length pc, .slice sA R.start.length sc, .bool R.falls, .bool R.keeps, .slice eA R.ends.length ec, .int .i64 R.blocked, .int .i64 R.quiet, .int .i64 R.rept] 26)).alloc (.cells #[.slice cA P.cells.length cc, .slice aA P.hand0.length ac, .slice bA P.hand1.length bc, .int .i64 P.turn, .int .i64 P.quiet] 29)) = w2 at *
  generalize w.heap.size + 1 = BP at *
  generalize w.heap.size = BR at *
  refine (boarded_any _).mono ?_
  rintro e w3 ⟨rfl, x⟩
  replace hR := hR.ext x
  replace hP := hP.ext x
  replace kR := kR.ext x
  replace kP := kP.ext x
  replace X := ext_trans X x
  clear x
  go_wp2_with fail
  refine (keyed_any _).mono ?_
  rintro e w4 ⟨rfl, x⟩
  replace hR := hR.ext x
  replace hP := hP.ext x
  replace kR := kR.ext x
  replace kP := kP.ext x
  replace X := ext_trans X x
  clear x
  go_wp2_with fail
  refine (plays_any _).mono ?_
  rintro e w5 ⟨rfl, x⟩
  replace hR := hR.ext x
  replace hP := hP.ext x
  replace kR := kR.ext x
  replace kP := kP.ext x
  replace X := ext_trans X x
  clear x
  have fR := kR.cell
  have fP := kP.cell
  go_wp2_with fail
  have HR := hide hR
  have KR := hide kR
  have XB := hide X
  refine (HNW.out _ _ _ hR hP).mono ?_
  rintro e wn ⟨BG, rfl, hG⟩
  have HG := hide hG
  clear hG fR fP hR hP kR kP X HNW
  go_wp2
  go_loopw [48] (fun i wr => i = .int .i64 0 ∧ wr = wn) (fun _ _ => 0)
  case atStart => exact ⟨rfl, rfl⟩
  case round =>
    obtain ⟨rfl, rfl⟩ := hrel
    go_wp2
    go_ret
    exact ⟨rfl, ext_trans XB.out HG.out.old⟩
set_option maxHeartbeats 8000000 in
set_option maxRecDepth 100000 in
theorem boardKeys_zero (v : Value) (R : RulesM) (u : Value) (P : PosM) (A : Option Addr) (n c : Nat) (z : List Int) (w : World) (hR : RulesAt w v R) (hP : PosAt w u P) (hV : Valid R) (hS : Sound R P) (x : Addr) (hA : A = some x) (hn : n = 0) (hc : c = 0) :
    Calls Try.prog 4 #[v, u, .slice A n c] w fun e w' => e = .returned (.bool true) ∧ Ext w w' := by
  have HNW := hide (fun W (v1 v2 : Value) (h1 : RulesAt W v1 R) (h2 : PosAt W v2 P) => BNew_yes R P v1 v2 W h1 h2 hV hS)
  have HVS := hide (And.intro hV hS)
  clear hV hS
  obtain ⟨q, hq⟩ : ∃ q : Int, min (n : Int) 12 = q := ⟨_, rfl⟩
  have hmin : ∀ W ats ty, (Builtin.min_ ats ty #[.int .i64 (n : Int), .int .i64 12]).run Try.prog W = .ok (.int .i64 q) W := fun W ats ty => by rw [← hq]; exact run_min3 W ats ty n 12
  subst hA hn hc
  obtain rfl : q = 0 := by omega
  clear hq
  have hR0 := hR
  have hP0 := hP
  obtain ⟨pA, pc, sA, sc, eA, ec, rfl, -⟩ := hR0
  obtain ⟨cA, cc, aA, ac, bA, bc, rfl, -⟩ := hP0
  go_enter Try.func4, Try.ntmps4
  go_wp2_with fail
  obtain ⟨xa, kR, kP⟩ := blks2 w #[.string R.name, .int .i64 R.width, .int .i64 R.height, .slice pA R.pieces.length pc, .slice sA R.start.length sc, .bool R.falls, .bool R.keeps, .slice eA R.ends.length ec, .int .i64 R.blocked, .int .i64 R.quiet, .int .i64 R.rept] 26 #[.slice cA P.cells.length cc, .slice aA P.hand0.length ac, .slice bA P.hand1.length bc, .int .i64 P.turn, .int .i64 P.quiet] 29
  replace hR := hR.ext xa
  replace hP := hP.ext xa
  have X := xa
  clear xa
  generalize ((w.alloc (.cells #[.string R.name, .int .i64 R.width, .int .i64 R.height, .slice pA R.pieces.length pc, .slice sA R.start.length sc, .bool R.falls, .bool R.keeps, .slice eA R.ends.length ec, .int .i64 R.blocked, .int .i64 R.quiet, .int .i64 R.rept] 26)).alloc (.cells #[.slice cA P.cells.length cc, .slice aA P.hand0.length ac, .slice bA P.hand1.length bc, .int .i64 P.turn, .int .i64 P.quiet] 29)) = w2 at *
  generalize w.heap.size + 1 = BP at *
  generalize w.heap.size = BR at *
  refine (boarded_any _).mono ?_
  rintro e w3 ⟨rfl, x⟩
  replace hR := hR.ext x
  replace hP := hP.ext x
  replace kR := kR.ext x
  replace kP := kP.ext x
  replace X := ext_trans X x
  clear x
  go_wp2_with fail
  refine (keyed_any _).mono ?_
  rintro e w4 ⟨rfl, x⟩
  replace hR := hR.ext x
  replace hP := hP.ext x
  replace kR := kR.ext x
  replace kP := kP.ext x
  replace X := ext_trans X x
  clear x
  go_wp2_with fail
  refine (plays_any _).mono ?_
  rintro e w5 ⟨rfl, x⟩
  replace hR := hR.ext x
  replace hP := hP.ext x
  replace kR := kR.ext x
  replace kP := kP.ext x
  replace X := ext_trans X x
  clear x
  have fR := kR.cell
  have fP := kP.cell
  go_wp2_with fail
  have HR := hide hR
  have KR := hide kR
  have XB := hide X
  refine (HNW.out _ _ _ hR hP).mono ?_
  rintro e wn ⟨BG, rfl, hG⟩
  have HG := hide hG
  clear hG fR fP hR hP kR kP X HNW
  go_wp2
  go_loopw [48] (fun i wr => i = .int .i64 0 ∧ wr = wn) (fun _ _ => 0)
  case atStart => exact ⟨rfl, rfl⟩
  case round =>
    obtain ⟨rfl, rfl⟩ := hrel
    go_wp2
    go_ret
    exact ⟨rfl, ext_trans XB.out HG.out.old⟩
set_option maxHeartbeats 8000000 in
set_option maxRecDepth 100000 in
theorem boardKeys_go (v : Value) (R : RulesM) (u : Value) (P : PosM) (A : Option Addr) (n c : Nat) (z : List Int) (w : World) (hR : RulesAt w v R) (hP : PosAt w u P) (hV : Valid R) (hS : Sound R P) (b : Nat) (o : Nat) (hA : A = some ⟨b, o, none⟩) (hn : n ≤ c) (hz : IntsAt w A (z.take n)) (hzl : (z.take n).length = n) (hcm : c ≤ maxLen) :
    Calls Try.prog 4 #[v, u, .slice A n c] w fun e w' => e = .returned (.bool true) ∧ Ext w w' := by
  have HNW := hide (fun W (v1 v2 : Value) (h1 : RulesAt W v1 R) (h2 : PosAt W v2 P) => BNew_yes R P v1 v2 W h1 h2 hV hS)
  have HVS := hide (And.intro hV hS)
  clear hV hS
  obtain ⟨q, hq⟩ : ∃ q : Int, min (n : Int) 12 = q := ⟨_, rfl⟩
  have hmin : ∀ W ats ty, (Builtin.min_ ats ty #[.int .i64 (n : Int), .int .i64 12]).run Try.prog W = .ok (.int .i64 q) W := fun W ats ty => by rw [← hq]; exact run_min3 W ats ty n 12
  subst hA
  have HZ := hide hz
  have HZL := hide hzl
  have q0 : 0 ≤ q := by omega
  have qc : q ≤ (c : Int) := by omega
  have q30 : q ≤ 12 := by omega
  obtain ⟨qn, hqn⟩ := Int.eq_ofNat_of_zero_le q0
  have hqn' : q = (qn : Int) := hqn
  subst hqn'
  have hq1 : qn ≤ n := by omega
  have hq2 : qn ≤ 12 := by omega
  have hq3 : qn ≤ c := by omega
  have hqw : IntKind.i64.wrap (qn : Int) = (qn : Int) := by rw [IntKind.wrap_i64]; omega
  have HQ := hide (And.intro hq1 (And.intro hq2 hq3))
  clear hq hqn hz hzl hn hcm
  have hR0 := hR
  have hP0 := hP
  obtain ⟨pA, pc, sA, sc, eA, ec, rfl, -⟩ := hR0
  obtain ⟨cA, cc, aA, ac, bA, bc, rfl, -⟩ := hP0
  go_enter Try.func4, Try.ntmps4
  go_wp2_with fail
  obtain ⟨xa, kR, kP⟩ := blks2 w #[.string R.name, .int .i64 R.width, .int .i64 R.height, .slice pA R.pieces.length pc, .slice sA R.start.length sc, .bool R.falls, .bool R.keeps, .slice eA R.ends.length ec, .int .i64 R.blocked, .int .i64 R.quiet, .int .i64 R.rept] 26 #[.slice cA P.cells.length cc, .slice aA P.hand0.length ac, .slice bA P.hand1.length bc, .int .i64 P.turn, .int .i64 P.quiet] 29
  replace hR := hR.ext xa
  replace hP := hP.ext xa
  have X := xa
  clear xa
  generalize ((w.alloc (.cells #[.string R.name, .int .i64 R.width, .int .i64 R.height, .slice pA R.pieces.length pc, .slice sA R.start.length sc, .bool R.falls, .bool R.keeps, .slice eA R.ends.length ec, .int .i64 R.blocked, .int .i64 R.quiet, .int .i64 R.rept] 26)).alloc (.cells #[.slice cA P.cells.length cc, .slice aA P.hand0.length ac, .slice bA P.hand1.length bc, .int .i64 P.turn, .int .i64 P.quiet] 29)) = w2 at *
  generalize w.heap.size + 1 = BP at *
  generalize w.heap.size = BR at *
  refine (boarded_any _).mono ?_
  rintro e w3 ⟨rfl, x⟩
  replace hR := hR.ext x
  replace hP := hP.ext x
  replace kR := kR.ext x
  replace kP := kP.ext x
  replace X := ext_trans X x
  clear x
  go_wp2_with fail
  refine (keyed_any _).mono ?_
  rintro e w4 ⟨rfl, x⟩
  replace hR := hR.ext x
  replace hP := hP.ext x
  replace kR := kR.ext x
  replace kP := kP.ext x
  replace X := ext_trans X x
  clear x
  go_wp2_with fail
  refine (plays_any _).mono ?_
  rintro e w5 ⟨rfl, x⟩
  replace hR := hR.ext x
  replace hP := hP.ext x
  replace kR := kR.ext x
  replace kP := kP.ext x
  replace X := ext_trans X x
  clear x
  have fR := kR.cell
  have fP := kP.cell
  go_wp2_with fail
  have HR := hide hR
  have KR := hide kR
  have XB := hide X
  refine (HNW.out _ _ _ hR hP).mono ?_
  rintro e wn ⟨BG, rfl, hG⟩
  have HG := hide hG
  clear hG fR fP hR hP kR kP X HNW
  go_wp2
  go_loopw [48] (fun i wr => ∃ (k : Nat) (ps : List PosM), k ≤ qn ∧ i = .int .i64 k ∧ BoardAt w5 wr BG R ps ∧ Hid ((∀ Q ∈ ps, Sound R Q) ∧ ps.length ≤ k + 1 ∧ 1 ≤ ps.length)) (fun i _ => qn - (intOf i).toNat)
  case atStart => exact ⟨0, _, Nat.zero_le _, rfl, HG.out, hide ⟨fun Q h => by rw [List.mem_singleton.1 h]; exact HVS.out.2, by simp, by simp⟩⟩
  case round =>
    clear HG
    obtain ⟨k, ps, hk, rfl, hG, hPS⟩ := hrel
    have HGr := hide hG
    clear hG
    by_cases hlt : k < qn
    · have hk20 := HQ.out.2.1
      obtain ⟨Q, hQ⟩ : ∃ Q, ps.getLast? = some Q := ⟨_, List.getLast?_eq_some_getLast (fun h => by have := hPS.out.2.2; rw [h] at this; simp at this)⟩
      have HSQ := hide (hPS.out.1 Q (last_mem hQ))
      have hl100 : ps.length ≤ 100 := by have := hPS.out.2.1; omega
      have HMV := hide (BMoves_any HGr.out (by omega) HVS.out.1 hPS.out.1 hQ)
      have HPO := hide (fun W (x : Ext wr W) => BPosition_any (HGr.out.ext x) (by omega) (fit_of HVS.out.1 hPS.out.1) hQ)
      have HKY := hide (fun W (x : Ext wr W) => BKey_any (HGr.out.ext x) (by omega) HVS.out.1 hPS.out.1 hQ)
      have HRE := hide (fun W (x : Ext wr W) => BResult_any (HGr.out.ext x) (by omega) HVS.out.1 hPS.out.1 hQ)
      have HDO := hide (fun (m : MoveM) (hr : resultM R Q = 0) (hm : m ∈ listM R Q) W (x : Ext wr W) => BDo_yes (HGr.out.ext x) (by omega) HVS.out.1 hPS.out.1 hQ m hr hm)
      have HZK := hide (fun (v : Value) W (x : Ext wr W) (h : PosAt W v Q) => keyB_yes R Q _ v W ((HR.out.ext (HGr.out.old)).ext x) h HVS.out.1 HSQ.out)
      have HAL := hide (fun (v : Value) W (x : Ext wr W) (h : PosAt W v Q) => All_yes R Q _ v W ((HR.out.ext (HGr.out.old)).ext x) h HVS.out.1 HSQ.out)
      have HEO := hide (fun (v : Value) W (x : Ext wr W) (h : PosAt W v Q) => EOf_yes R Q _ v W ((HR.out.ext (HGr.out.old)).ext x) h HVS.out.1 HSQ.out)
      have HMM := hide (show movesM R Q = if resultM R Q = 0 then listM R Q else [] from rfl)
      have HML := hide (listM_len HVS.out.1 HSQ.out)
      have HOP := hide (fun (h : resultM R Q = 0) => open_moves h HSQ.out.turn)
      obtain ⟨b', o', eA, hcell⟩ := (HZ.out.ext (ext_trans XB.out HGr.out.old)) k (by rw [HZL.out]; have := HQ.out.1; omega)
      simp only [Option.some.injEq, Addr.mk.injEq, and_true] at eA
      obtain ⟨rfl, rfl⟩ := eA
      have j0 : (0 : Int) ≤ (k : Int) := by omega
      have j1 : (k : Int) < (qn : Int) := by omega
      have KRr := hide (KR.out.ext HGr.out.old)
      have HSN := hide (fun (m : MoveM) (hm : m ∈ listM R Q) => sound_make HVS.out.1 HSQ.out (mem_listM.1 hm))
      clear hl100
      generalize (z.take n).getD k 0 = pick at *
      generalize hLM : movesM R Q = LM at *
      generalize hL : listM R Q = L at *
      generalize hx : resultM R Q = x at *
      generalize keyM Q = key at *
      clear hLM hL hx
      go_wp2_with fail
      clear hcell
      refine HMV.out.mono ?_
      rintro e wa ⟨va, rfl, oa, xa⟩
      have HMA := hide oa.at_
      obtain ⟨Aa, ca, rfl, -⟩ := oa
      have X10 := hide xa
      have KR10 := hide (KRr.out.ext xa)
      clear xa HMV KRr
      go_upto_region 10 with fail
      have keepK := hide (fun W (h : Ext wa W) => (show (fun W => W.cell? ⟨BR, 0, none⟩ = some (.string R.name) ∧ W.cell? ⟨BR, 1, none⟩ = some (.int .i64 R.width) ∧ W.cell? ⟨BR, 2, none⟩ = some (.int .i64 R.height) ∧ W.cell? ⟨BR, 3, none⟩ = some (.slice pA R.pieces.length pc) ∧ W.cell? ⟨BR, 4, none⟩ = some (.slice sA R.start.length sc) ∧ W.cell? ⟨BR, 5, none⟩ = some (.bool R.falls) ∧ W.cell? ⟨BR, 6, none⟩ = some (.bool R.keeps) ∧ W.cell? ⟨BR, 7, none⟩ = some (.slice eA R.ends.length ec) ∧ W.cell? ⟨BR, 8, none⟩ = some (.int .i64 R.blocked) ∧ W.cell? ⟨BR, 9, none⟩ = some (.int .i64 R.quiet) ∧ W.cell? ⟨BR, 10, none⟩ = some (.int .i64 R.rept) ∧ Ext wa W) W from ⟨(KR10.out.ext h).cell 0, (KR10.out.ext h).cell 1, (KR10.out.ext h).cell 2, (KR10.out.ext h).cell 3, (KR10.out.ext h).cell 4, (KR10.out.ext h).cell 5, (KR10.out.ext h).cell 6, (KR10.out.ext h).cell 7, (KR10.out.ext h).cell 8, (KR10.out.ext h).cell 9, (KR10.out.ext h).cell 10, h⟩))
      have yy : Ext wa wa.drew := Below.drew (Below.refl _ _)
      refine region_K (fun W => W.cell? ⟨BR, 0, none⟩ = some (.string R.name) ∧ W.cell? ⟨BR, 1, none⟩ = some (.int .i64 R.width) ∧ W.cell? ⟨BR, 2, none⟩ = some (.int .i64 R.height) ∧ W.cell? ⟨BR, 3, none⟩ = some (.slice pA R.pieces.length pc) ∧ W.cell? ⟨BR, 4, none⟩ = some (.slice sA R.start.length sc) ∧ W.cell? ⟨BR, 5, none⟩ = some (.bool R.falls) ∧ W.cell? ⟨BR, 6, none⟩ = some (.bool R.keeps) ∧ W.cell? ⟨BR, 7, none⟩ = some (.slice eA R.ends.length ec) ∧ W.cell? ⟨BR, 8, none⟩ = some (.int .i64 R.blocked) ∧ W.cell? ⟨BR, 9, none⟩ = some (.int .i64 R.quiet) ∧ W.cell? ⟨BR, 10, none⟩ = some (.int .i64 R.rept) ∧ Ext wa W) (fun _ => True) [] (by kernel_rfl) ?_
      have hT0 := keepK.out _ yy
      refine anyK_take 0 (oi := ?oo1) ?ho1 (by kernel_rfl) (by kernel_rfl) (by kernel_rfl) (by kernel_rfl) ?hq1 ?hw1 hT0 (fun _ => trivial) (v := ?vv1) ?hy1 ?hk1
      case ho1 => (simp only [List.getElem?_toArray, List.getElem?_cons_succ, List.getElem?_cons_zero]; rfl)
      case hq1 => exact fun _ _ _ h => h
      case hw1 => rfl
      case hy1 =>
        intro W hW
        obtain ⟨z0, z1, z2, z3, z4, z5, z6, z7, z8, z9, z10, z11⟩ := hW
        go_simp
        first | done | with_reducible rfl
      case hk1 =>
      try simp only [Act.put, List.setIfInBounds_toArray, List.set_cons_zero, List.set_cons_succ]
      refine anyK_take 1 (oi := ?oo2) ?ho2 (by kernel_rfl) (by kernel_rfl) (by kernel_rfl) (by kernel_rfl) ?hq2 ?hw2 hT0 (fun _ => trivial) (v := ?vv2) ?hy2 ?hk2
      case ho2 => (simp only [List.getElem?_toArray, List.getElem?_cons_succ, List.getElem?_cons_zero]; rfl)
      case hq2 => exact fun _ _ _ h => h
      case hw2 => rfl
      case hy2 =>
        intro W hW
        go_simp
        first | done | with_reducible rfl
      case hk2 =>
      try simp only [Act.put, List.setIfInBounds_toArray, List.set_cons_zero, List.set_cons_succ]
      refine anyK_on1 2 (by kernel_rfl) ?_
      refine anyK_one 2 (o := ?oo3) ?ho3 ?hk3
      case ho3 => (simp only [List.getElem?_toArray, List.getElem?_cons_succ, List.getElem?_cons_zero]; rfl)
      case hk3 =>
      intro K hK
      go_simp
      refine (HPO.out _ (ext_trans X10.out yy)).mono ?_
      rintro e wp10 ⟨v10, rfl, p10, xx⟩
      try go_wp2_with fail
      replace yy := ext_trans yy xx
      have HP10 := hide p10.at_
      clear p10
      have hT1 := keepK.out _ yy
      refine hK.out _ _ hT1 (fun _ => trivial) ?_
      clear hK K
      try simp only [Act.put, List.setIfInBounds_toArray, List.set_cons_zero, List.set_cons_succ]
      refine anyK_on1 3 (by kernel_rfl) ?_
      refine anyK_one 3 (o := ?oo4) ?ho4 ?hk4
      case ho4 => (simp only [List.getElem?_toArray, List.getElem?_cons_succ, List.getElem?_cons_zero]; rfl)
      case hk4 =>
      intro K hK
      go_simp
      refine (HZK.out _ _ (ext_trans X10.out yy) HP10.out).mono ?_
      rintro e wq10 ⟨rfl, xx⟩
      try go_wp2_with fail
      replace yy := ext_trans yy xx
      have hT2 := keepK.out _ yy
      refine hK.out _ _ hT2 (fun _ => trivial) ?_
      clear hK K
      try simp only [Act.put, List.setIfInBounds_toArray, List.set_cons_zero, List.set_cons_succ]
      refine anyK_take 4 (oi := ?oo5) ?ho5 (by kernel_rfl) (by kernel_rfl) (by kernel_rfl) (by kernel_rfl) ?hq5 ?hw5 hT2 (fun _ => trivial) (v := ?vv5) ?hy5 ?hk5
      case ho5 => (simp only [List.getElem?_toArray, List.getElem?_cons_succ, List.getElem?_cons_zero]; rfl)
      case hq5 => exact fun _ _ _ h => h
      case hw5 => rfl
      case hy5 =>
        intro W hW
        go_simp
        first | done | with_reducible rfl
      case hk5 =>
      try simp only [Act.put, List.setIfInBounds_toArray, List.set_cons_zero, List.set_cons_succ]
      refine anyK_take 5 (oi := ?oo6) ?ho6 (by kernel_rfl) (by kernel_rfl) (by kernel_rfl) (by kernel_rfl) ?hq6 ?hw6 hT2 (fun _ => trivial) (v := ?vv6) ?hy6 ?hk6
      case ho6 => (simp only [List.getElem?_toArray, List.getElem?_cons_succ, List.getElem?_cons_zero]; rfl)
      case hq6 => exact fun _ _ _ h => h
      case hw6 => rfl
      case hy6 =>
        intro W hW
        go_simp
        first | done | with_reducible rfl
      case hk6 =>
      try simp only [Act.put, List.setIfInBounds_toArray, List.set_cons_zero, List.set_cons_succ]
      refine anyK_take 6 (oi := ?oo7) ?ho7 (by kernel_rfl) (by kernel_rfl) (by kernel_rfl) (by kernel_rfl) ?hq7 ?hw7 hT2 (fun _ => trivial) (v := ?vv7) ?hy7 ?hk7
      case ho7 => (simp only [List.getElem?_toArray, List.getElem?_cons_succ, List.getElem?_cons_zero]; rfl)
      case hq7 => exact fun _ _ _ h => h
      case hw7 => rfl
      case hy7 =>
        intro W hW
        go_simp
        first | done | with_reducible rfl
      case hk7 =>
      try simp only [Act.put, List.setIfInBounds_toArray, List.set_cons_zero, List.set_cons_succ]
      refine anyK_take 7 (oi := ?oo8) ?ho8 (by kernel_rfl) (by kernel_rfl) (by kernel_rfl) (by kernel_rfl) ?hq8 ?hw8 hT2 (fun _ => trivial) (v := ?vv8) ?hy8 ?hk8
      case ho8 => (simp only [List.getElem?_toArray, List.getElem?_cons_succ, List.getElem?_cons_zero]; rfl)
      case hq8 => exact fun _ _ _ h => h
      case hw8 => rfl
      case hy8 =>
        intro W hW
        go_simp
        first | done | with_reducible rfl
      case hk8 =>
      try simp only [Act.put, List.setIfInBounds_toArray, List.set_cons_zero, List.set_cons_succ]
      refine anyK_take 8 (oi := ?oo9) ?ho9 (by kernel_rfl) (by kernel_rfl) (by kernel_rfl) (by kernel_rfl) ?hq9 ?hw9 hT2 (fun _ => trivial) (v := ?vv9) ?hy9 ?hk9
      case ho9 => (simp only [List.getElem?_toArray, List.getElem?_cons_succ, List.getElem?_cons_zero]; rfl)
      case hq9 => exact fun _ _ _ h => h
      case hw9 => rfl
      case hy9 =>
        intro W hW
        go_simp
        first | done | with_reducible rfl
      case hk9 =>
      try simp only [Act.put, List.setIfInBounds_toArray, List.set_cons_zero, List.set_cons_succ]
      refine anyK_done (by kernel_rfl) ?_ _
      clear keepK hT0 hT1 hT2
      replace HMA := hide (HMA.out.ext yy)
      have X11 := hide (ext_trans X10.out yy)
      have KR11 := hide (KR10.out.ext yy)
      clear yy xx KR10
      go_upto_region 11 with fail
      have keepK := hide (fun W (h : Ext wq10 W) => (show (fun W => W.cell? ⟨BR, 0, none⟩ = some (.string R.name) ∧ W.cell? ⟨BR, 1, none⟩ = some (.int .i64 R.width) ∧ W.cell? ⟨BR, 2, none⟩ = some (.int .i64 R.height) ∧ W.cell? ⟨BR, 3, none⟩ = some (.slice pA R.pieces.length pc) ∧ W.cell? ⟨BR, 4, none⟩ = some (.slice sA R.start.length sc) ∧ W.cell? ⟨BR, 5, none⟩ = some (.bool R.falls) ∧ W.cell? ⟨BR, 6, none⟩ = some (.bool R.keeps) ∧ W.cell? ⟨BR, 7, none⟩ = some (.slice eA R.ends.length ec) ∧ W.cell? ⟨BR, 8, none⟩ = some (.int .i64 R.blocked) ∧ W.cell? ⟨BR, 9, none⟩ = some (.int .i64 R.quiet) ∧ W.cell? ⟨BR, 10, none⟩ = some (.int .i64 R.rept) ∧ Ext wq10 W) W from ⟨(KR11.out.ext h).cell 0, (KR11.out.ext h).cell 1, (KR11.out.ext h).cell 2, (KR11.out.ext h).cell 3, (KR11.out.ext h).cell 4, (KR11.out.ext h).cell 5, (KR11.out.ext h).cell 6, (KR11.out.ext h).cell 7, (KR11.out.ext h).cell 8, (KR11.out.ext h).cell 9, (KR11.out.ext h).cell 10, h⟩))
      have yy : Ext wq10 wq10.drew := Below.drew (Below.refl _ _)
      refine region_K (fun W => W.cell? ⟨BR, 0, none⟩ = some (.string R.name) ∧ W.cell? ⟨BR, 1, none⟩ = some (.int .i64 R.width) ∧ W.cell? ⟨BR, 2, none⟩ = some (.int .i64 R.height) ∧ W.cell? ⟨BR, 3, none⟩ = some (.slice pA R.pieces.length pc) ∧ W.cell? ⟨BR, 4, none⟩ = some (.slice sA R.start.length sc) ∧ W.cell? ⟨BR, 5, none⟩ = some (.bool R.falls) ∧ W.cell? ⟨BR, 6, none⟩ = some (.bool R.keeps) ∧ W.cell? ⟨BR, 7, none⟩ = some (.slice eA R.ends.length ec) ∧ W.cell? ⟨BR, 8, none⟩ = some (.int .i64 R.blocked) ∧ W.cell? ⟨BR, 9, none⟩ = some (.int .i64 R.quiet) ∧ W.cell? ⟨BR, 10, none⟩ = some (.int .i64 R.rept) ∧ Ext wq10 W) (fun _ => True) [] (by kernel_rfl) ?_
      have hT0 := keepK.out _ yy
      refine anyK_take 0 (oi := ?oo10) ?ho10 (by kernel_rfl) (by kernel_rfl) (by kernel_rfl) (by kernel_rfl) ?hq10 ?hw10 hT0 (fun _ => trivial) (v := ?vv10) ?hy10 ?hk10
      case ho10 => (simp only [List.getElem?_toArray, List.getElem?_cons_succ, List.getElem?_cons_zero]; rfl)
      case hq10 => exact fun _ _ _ h => h
      case hw10 => rfl
      case hy10 =>
        intro W hW
        obtain ⟨z0, z1, z2, z3, z4, z5, z6, z7, z8, z9, z10, z11⟩ := hW
        go_simp
        first | done | with_reducible rfl
      case hk10 =>
      try simp only [Act.put, List.setIfInBounds_toArray, List.set_cons_zero, List.set_cons_succ]
      refine anyK_take 1 (oi := ?oo11) ?ho11 (by kernel_rfl) (by kernel_rfl) (by kernel_rfl) (by kernel_rfl) ?hq11 ?hw11 hT0 (fun _ => trivial) (v := ?vv11) ?hy11 ?hk11
      case ho11 => (simp only [List.getElem?_toArray, List.getElem?_cons_succ, List.getElem?_cons_zero]; rfl)
      case hq11 => exact fun _ _ _ h => h
      case hw11 => rfl
      case hy11 =>
        intro W hW
        go_simp
        first | done | with_reducible rfl
      case hk11 =>
      try simp only [Act.put, List.setIfInBounds_toArray, List.set_cons_zero, List.set_cons_succ]
      refine anyK_on1 2 (by kernel_rfl) ?_
      refine anyK_one 2 (o := ?oo12) ?ho12 ?hk12
      case ho12 => (simp only [List.getElem?_toArray, List.getElem?_cons_succ, List.getElem?_cons_zero]; rfl)
      case hk12 =>
      intro K hK
      go_simp
      refine (HPO.out _ (ext_trans X11.out yy)).mono ?_
      rintro e wp11 ⟨v11, rfl, p11, xx⟩
      try go_wp2_with fail
      replace yy := ext_trans yy xx
      have HP11 := hide p11.at_
      clear p11
      have hT1 := keepK.out _ yy
      refine hK.out _ _ hT1 (fun _ => trivial) ?_
      clear hK K
      try simp only [Act.put, List.setIfInBounds_toArray, List.set_cons_zero, List.set_cons_succ]
      refine anyK_on1 3 (by kernel_rfl) ?_
      refine anyK_one 3 (o := ?oo13) ?ho13 ?hk13
      case ho13 => (simp only [List.getElem?_toArray, List.getElem?_cons_succ, List.getElem?_cons_zero]; rfl)
      case hk13 =>
      intro K hK
      go_simp
      refine (HAL.out _ _ (ext_trans X11.out yy) HP11.out).mono ?_
      rintro e wq11 ⟨v21, rfl, o21, xx⟩
      try go_wp2_with fail
      replace yy := ext_trans yy xx
      have HMB := hide o21.at_
      have ob := o21
      obtain ⟨Ab, cb, rfl, -⟩ := ob
      clear o21
      have hT2 := keepK.out _ yy
      refine hK.out _ _ hT2 (fun _ => trivial) ?_
      clear hK K
      try simp only [Act.put, List.setIfInBounds_toArray, List.set_cons_zero, List.set_cons_succ]
      refine anyK_take 4 (oi := ?oo14) ?ho14 (by kernel_rfl) (by kernel_rfl) (by kernel_rfl) (by kernel_rfl) ?hq14 ?hw14 hT2 (fun _ => trivial) (v := ?vv14) ?hy14 ?hk14
      case ho14 => (simp only [List.getElem?_toArray, List.getElem?_cons_succ, List.getElem?_cons_zero]; rfl)
      case hq14 => exact fun _ _ _ h => h
      case hw14 => rfl
      case hy14 =>
        intro W hW
        go_simp
        first | done | with_reducible rfl
      case hk14 =>
      try simp only [Act.put, List.setIfInBounds_toArray, List.set_cons_zero, List.set_cons_succ]
      refine anyK_take 5 (oi := ?oo15) ?ho15 (by kernel_rfl) (by kernel_rfl) (by kernel_rfl) (by kernel_rfl) ?hq15 ?hw15 hT2 (fun _ => trivial) (v := ?vv15) ?hy15 ?hk15
      case ho15 => (simp only [List.getElem?_toArray, List.getElem?_cons_succ, List.getElem?_cons_zero]; rfl)
      case hq15 => exact fun _ _ _ h => h
      case hw15 => rfl
      case hy15 =>
        intro W hW
        go_simp
        first | done | with_reducible rfl
      case hk15 =>
      try simp only [Act.put, List.setIfInBounds_toArray, List.set_cons_zero, List.set_cons_succ]
      refine anyK_take 6 (oi := ?oo16) ?ho16 (by kernel_rfl) (by kernel_rfl) (by kernel_rfl) (by kernel_rfl) ?hq16 ?hw16 hT2 (fun _ => trivial) (v := ?vv16) ?hy16 ?hk16
      case ho16 => (simp only [List.getElem?_toArray, List.getElem?_cons_succ, List.getElem?_cons_zero]; rfl)
      case hq16 => exact fun _ _ _ h => h
      case hw16 => rfl
      case hy16 =>
        intro W hW
        go_simp
        first | done | with_reducible rfl
      case hk16 =>
      try simp only [Act.put, List.setIfInBounds_toArray, List.set_cons_zero, List.set_cons_succ]
      refine anyK_take 7 (oi := ?oo17) ?ho17 (by kernel_rfl) (by kernel_rfl) (by kernel_rfl) (by kernel_rfl) ?hq17 ?hw17 hT2 (fun _ => trivial) (v := ?vv17) ?hy17 ?hk17
      case ho17 => (simp only [List.getElem?_toArray, List.getElem?_cons_succ, List.getElem?_cons_zero]; rfl)
      case hq17 => exact fun _ _ _ h => h
      case hw17 => rfl
      case hy17 =>
        intro W hW
        go_simp
        first | done | with_reducible rfl
      case hk17 =>
      try simp only [Act.put, List.setIfInBounds_toArray, List.set_cons_zero, List.set_cons_succ]
      refine anyK_take 8 (oi := ?oo18) ?ho18 (by kernel_rfl) (by kernel_rfl) (by kernel_rfl) (by kernel_rfl) ?hq18 ?hw18 hT2 (fun _ => trivial) (v := ?vv18) ?hy18 ?hk18
      case ho18 => (simp only [List.getElem?_toArray, List.getElem?_cons_succ, List.getElem?_cons_zero]; rfl)
      case hq18 => exact fun _ _ _ h => h
      case hw18 => rfl
      case hy18 =>
        intro W hW
        go_simp
        first | done | with_reducible rfl
      case hk18 =>
      try simp only [Act.put, List.setIfInBounds_toArray, List.set_cons_zero, List.set_cons_succ]
      refine anyK_done (by kernel_rfl) ?_ _
      clear keepK hT0 hT1 hT2
      have HMB11 := hide HMB.out
      replace HMA := hide (HMA.out.ext yy)
      have X12 := hide (ext_trans X11.out yy)
      have KR12 := hide (KR11.out.ext yy)
      clear yy xx KR11
      go_upto_region 12 with fail
      have keepK := hide (fun W (h : Ext wq11 W) => (show (fun W => W.cell? ⟨BR, 0, none⟩ = some (.string R.name) ∧ W.cell? ⟨BR, 1, none⟩ = some (.int .i64 R.width) ∧ W.cell? ⟨BR, 2, none⟩ = some (.int .i64 R.height) ∧ W.cell? ⟨BR, 3, none⟩ = some (.slice pA R.pieces.length pc) ∧ W.cell? ⟨BR, 4, none⟩ = some (.slice sA R.start.length sc) ∧ W.cell? ⟨BR, 5, none⟩ = some (.bool R.falls) ∧ W.cell? ⟨BR, 6, none⟩ = some (.bool R.keeps) ∧ W.cell? ⟨BR, 7, none⟩ = some (.slice eA R.ends.length ec) ∧ W.cell? ⟨BR, 8, none⟩ = some (.int .i64 R.blocked) ∧ W.cell? ⟨BR, 9, none⟩ = some (.int .i64 R.quiet) ∧ W.cell? ⟨BR, 10, none⟩ = some (.int .i64 R.rept) ∧ Ext wq11 W) W from ⟨(KR12.out.ext h).cell 0, (KR12.out.ext h).cell 1, (KR12.out.ext h).cell 2, (KR12.out.ext h).cell 3, (KR12.out.ext h).cell 4, (KR12.out.ext h).cell 5, (KR12.out.ext h).cell 6, (KR12.out.ext h).cell 7, (KR12.out.ext h).cell 8, (KR12.out.ext h).cell 9, (KR12.out.ext h).cell 10, h⟩))
      have yy : Ext wq11 wq11.drew := Below.drew (Below.refl _ _)
      refine region_K (fun W => W.cell? ⟨BR, 0, none⟩ = some (.string R.name) ∧ W.cell? ⟨BR, 1, none⟩ = some (.int .i64 R.width) ∧ W.cell? ⟨BR, 2, none⟩ = some (.int .i64 R.height) ∧ W.cell? ⟨BR, 3, none⟩ = some (.slice pA R.pieces.length pc) ∧ W.cell? ⟨BR, 4, none⟩ = some (.slice sA R.start.length sc) ∧ W.cell? ⟨BR, 5, none⟩ = some (.bool R.falls) ∧ W.cell? ⟨BR, 6, none⟩ = some (.bool R.keeps) ∧ W.cell? ⟨BR, 7, none⟩ = some (.slice eA R.ends.length ec) ∧ W.cell? ⟨BR, 8, none⟩ = some (.int .i64 R.blocked) ∧ W.cell? ⟨BR, 9, none⟩ = some (.int .i64 R.quiet) ∧ W.cell? ⟨BR, 10, none⟩ = some (.int .i64 R.rept) ∧ Ext wq11 W) (fun _ => True) [] (by kernel_rfl) ?_
      have hT0 := keepK.out _ yy
      refine anyK_take 0 (oi := ?oo19) ?ho19 (by kernel_rfl) (by kernel_rfl) (by kernel_rfl) (by kernel_rfl) ?hq19 ?hw19 hT0 (fun _ => trivial) (v := ?vv19) ?hy19 ?hk19
      case ho19 => (simp only [List.getElem?_toArray, List.getElem?_cons_succ, List.getElem?_cons_zero]; rfl)
      case hq19 => exact fun _ _ _ h => h
      case hw19 => rfl
      case hy19 =>
        intro W hW
        obtain ⟨z0, z1, z2, z3, z4, z5, z6, z7, z8, z9, z10, z11⟩ := hW
        go_simp
        first | done | with_reducible rfl
      case hk19 =>
      try simp only [Act.put, List.setIfInBounds_toArray, List.set_cons_zero, List.set_cons_succ]
      refine anyK_take 1 (oi := ?oo20) ?ho20 (by kernel_rfl) (by kernel_rfl) (by kernel_rfl) (by kernel_rfl) ?hq20 ?hw20 hT0 (fun _ => trivial) (v := ?vv20) ?hy20 ?hk20
      case ho20 => (simp only [List.getElem?_toArray, List.getElem?_cons_succ, List.getElem?_cons_zero]; rfl)
      case hq20 => exact fun _ _ _ h => h
      case hw20 => rfl
      case hy20 =>
        intro W hW
        go_simp
        first | done | with_reducible rfl
      case hk20 =>
      try simp only [Act.put, List.setIfInBounds_toArray, List.set_cons_zero, List.set_cons_succ]
      refine anyK_on1 2 (by kernel_rfl) ?_
      refine anyK_one 2 (o := ?oo21) ?ho21 ?hk21
      case ho21 => (simp only [List.getElem?_toArray, List.getElem?_cons_succ, List.getElem?_cons_zero]; rfl)
      case hk21 =>
      intro K hK
      go_simp
      refine (HPO.out _ (ext_trans X12.out yy)).mono ?_
      rintro e wp12 ⟨v12, rfl, p12, xx⟩
      try go_wp2_with fail
      replace yy := ext_trans yy xx
      have HP12 := hide p12.at_
      clear p12
      have hT1 := keepK.out _ yy
      refine hK.out _ _ hT1 (fun _ => trivial) ?_
      clear hK K
      try simp only [Act.put, List.setIfInBounds_toArray, List.set_cons_zero, List.set_cons_succ]
      refine anyK_on1 3 (by kernel_rfl) ?_
      refine anyK_one 3 (o := ?oo22) ?ho22 ?hk22
      case ho22 => (simp only [List.getElem?_toArray, List.getElem?_cons_succ, List.getElem?_cons_zero]; rfl)
      case hk22 =>
      intro K hK
      go_simp
      refine (HEO.out _ _ (ext_trans X12.out yy) HP12.out).mono ?_
      rintro e wq12 ⟨rfl, xx⟩
      try go_wp2_with fail
      replace yy := ext_trans yy xx
      have hT2 := keepK.out _ yy
      refine hK.out _ _ hT2 (fun _ => trivial) ?_
      clear hK K
      try simp only [Act.put, List.setIfInBounds_toArray, List.set_cons_zero, List.set_cons_succ]
      refine anyK_take 4 (oi := ?oo23) ?ho23 (by kernel_rfl) (by kernel_rfl) (by kernel_rfl) (by kernel_rfl) ?hq23 ?hw23 hT2 (fun _ => trivial) (v := ?vv23) ?hy23 ?hk23
      case ho23 => (simp only [List.getElem?_toArray, List.getElem?_cons_succ, List.getElem?_cons_zero]; rfl)
      case hq23 => exact fun _ _ _ h => h
      case hw23 => rfl
      case hy23 =>
        intro W hW
        go_simp
        first | done | with_reducible rfl
      case hk23 =>
      try simp only [Act.put, List.setIfInBounds_toArray, List.set_cons_zero, List.set_cons_succ]
      refine anyK_take 5 (oi := ?oo24) ?ho24 (by kernel_rfl) (by kernel_rfl) (by kernel_rfl) (by kernel_rfl) ?hq24 ?hw24 hT2 (fun _ => trivial) (v := ?vv24) ?hy24 ?hk24
      case ho24 => (simp only [List.getElem?_toArray, List.getElem?_cons_succ, List.getElem?_cons_zero]; rfl)
      case hq24 => exact fun _ _ _ h => h
      case hw24 => rfl
      case hy24 =>
        intro W hW
        go_simp
        first | done | with_reducible rfl
      case hk24 =>
      try simp only [Act.put, List.setIfInBounds_toArray, List.set_cons_zero, List.set_cons_succ]
      refine anyK_take 6 (oi := ?oo25) ?ho25 (by kernel_rfl) (by kernel_rfl) (by kernel_rfl) (by kernel_rfl) ?hq25 ?hw25 hT2 (fun _ => trivial) (v := ?vv25) ?hy25 ?hk25
      case ho25 => (simp only [List.getElem?_toArray, List.getElem?_cons_succ, List.getElem?_cons_zero]; rfl)
      case hq25 => exact fun _ _ _ h => h
      case hw25 => rfl
      case hy25 =>
        intro W hW
        go_simp
        first | done | with_reducible rfl
      case hk25 =>
      try simp only [Act.put, List.setIfInBounds_toArray, List.set_cons_zero, List.set_cons_succ]
      refine anyK_take 7 (oi := ?oo26) ?ho26 (by kernel_rfl) (by kernel_rfl) (by kernel_rfl) (by kernel_rfl) ?hq26 ?hw26 hT2 (fun _ => trivial) (v := ?vv26) ?hy26 ?hk26
      case ho26 => (simp only [List.getElem?_toArray, List.getElem?_cons_succ, List.getElem?_cons_zero]; rfl)
      case hq26 => exact fun _ _ _ h => h
      case hw26 => rfl
      case hy26 =>
        intro W hW
        go_simp
        first | done | with_reducible rfl
      case hk26 =>
      try simp only [Act.put, List.setIfInBounds_toArray, List.set_cons_zero, List.set_cons_succ]
      refine anyK_take 8 (oi := ?oo27) ?ho27 (by kernel_rfl) (by kernel_rfl) (by kernel_rfl) (by kernel_rfl) ?hq27 ?hw27 hT2 (fun _ => trivial) (v := ?vv27) ?hy27 ?hk27
      case ho27 => (simp only [List.getElem?_toArray, List.getElem?_cons_succ, List.getElem?_cons_zero]; rfl)
      case hq27 => exact fun _ _ _ h => h
      case hw27 => rfl
      case hy27 =>
        intro W hW
        go_simp
        first | done | with_reducible rfl
      case hk27 =>
      try simp only [Act.put, List.setIfInBounds_toArray, List.set_cons_zero, List.set_cons_succ]
      refine anyK_done (by kernel_rfl) ?_ _
      clear keepK hT0 hT1 hT2
      have HMB := hide (HMB11.out.ext yy)
      have HMA2 := hide (HMA.out.ext yy)
      have X13 := hide (ext_trans X12.out yy)
      clear yy xx KR12 HMB11 HMA HZK HAL HEO HPO HP10 HP11 HP12 X10 X11 X12
      generalize hwd : wq12 = wd at *
      clear hwd
      go_upto_region 13 with fail
      obtain ⟨xe, ke⟩ := blks1 wd #[.int .i64 0, .int .i64 0, .int .i64 0] 32
      have HF3 := hide (fine_ext (fine_any (some ⟨wd.heap.size, 0, none⟩) 3 3 [0, 0, 0] _ rfl (by omega) (blk_ints ke)))
      have XE := hide (ext_trans X13.out xe)
      have HMB2 := hide (HMB.out.ext xe)
      have HMA3 := hide (HMA2.out.ext xe)
      rw [show allZero [0, 0, 0] = true from rfl] at HF3
      clear xe ke X13 HMB HMA2
      go_wp2_with fail
      refine HF3.out.mono ?_
      rintro e we ⟨rfl, x9⟩
      have XF := hide (ext_trans XE.out x9)
      have HMB3 := hide (HMB2.out.ext x9)
      have HMA4 := hide (HMA3.out.ext x9)
      clear x9 HF3 XE HMB2 HMA3
      go_wp2_with fail
      refine (HKY.out _ XF.out).mono ?_
      rintro e wf ⟨rfl, x9⟩
      have XG := hide (ext_trans XF.out x9)
      have HMB4 := hide (HMB3.out.ext x9)
      have HMA5 := hide (HMA4.out.ext x9)
      clear x9 HKY XF HMB3 HMA4
      go_wp2_with fail
      refine (HRE.out _ XG.out).mono ?_
      rintro e wg ⟨rfl, x9⟩
      have XH := hide (ext_trans XG.out x9)
      have HMB5 := hide (HMB4.out.ext x9)
      have HMA6 := hide (HMA5.out.ext x9)
      clear x9 HRE XG HMB4 HMA5
      by_cases hx0 : x = 0
      · subst hx0
        obtain rfl : LM = L := HMM.out.trans (if_pos rfl)
        have hpos := HOP.out rfl
        have t5 : ((LM.length : Int) == 0) = false := by simp; intro h; rw [h] at hpos; simp at hpos
        have hne : LM ≠ [] := by rintro rfl; simp at hpos
        have HSO := hide (fun W (v : Value) (h : MovesAt W v LM) => some_move LM pick v W h HML.out hne)
        have HEQ := hide (EqMoves_yes LM _ _ _ HMB5.out HMA6.out HML.out)
        clear hpos hne HMM HOP
        go_wp2_with fail
        refine HEQ.out.mono ?_
        rintro e wh ⟨rfl, x9⟩
        have XI := hide (ext_trans XH.out x9)
        have HMA7 := hide (HMA6.out.ext x9)
        clear x9 HEQ XH HMB5 HMA6
        by_cases hp : pick = -1
        · have t6 : (pick == -1) = true := by simpa using hp
          clear hp HDO
          go_wp2_with fail
          by_cases h1 : ps.length = 1
          · have e1 : ps = [Q] := by
              rcases ps with _ | ⟨a, l⟩
              · simp at h1
              · rcases l with _ | ⟨b, l⟩
                · simp at hQ; rw [hQ]
                · simp at h1
            have HB := hide (BUndo_no (by rw [← e1]; exact HGr.out.ext XI.out))
            refine HB.out.mono ?_
            rintro e wi ⟨rfl, x9⟩
            have HGi := hide ((HGr.out.ext XI.out).ext x9)
            clear x9 HB e1 h1
            go_wp2
            go_roundw
            case rel => exact ⟨k + 1, ps, by omega, by go_num, HGi.out, hide ⟨hPS.out.1, by have := hPS.out.2.1; omega, hPS.out.2.2⟩⟩
            case measure => simp [intOf]; omega
          · have e1 : ps = ps.dropLast ++ [Q] := by
              rw [List.getLast?_eq_some_iff] at hQ
              obtain ⟨ys, rfl⟩ := hQ
              simp
            have hl0 := hPS.out.2.2
            have hl9 := hPS.out.2.1
            have hd : ps.dropLast.length = ps.length - 1 := by simp
            have HB := hide (BUndo_yes (ps := ps.dropLast) (P := Q) (by rw [← e1]; exact HGr.out.ext XI.out) (by omega) (by omega))
            refine HB.out.mono ?_
            rintro e wi ⟨rfl, h9⟩
            have HGi := hide h9
            clear h9 HB e1
            go_wp2
            go_roundw
            case rel => exact ⟨k + 1, _, by omega, by go_num, HGi.out, hide ⟨fun q hq => hPS.out.1 q (List.dropLast_subset _ hq), by omega, by omega⟩⟩
            case measure => simp [intOf]; omega
        · have t6 : (pick == -1) = false := by simpa using hp
          clear hp
          go_wp2_with fail
          refine (HSO.out _ _ HMA7.out).mono ?_
          rintro e wi ⟨m, hm, rfl, xb⟩
          have HD := hide (HDO.out m (by first | rfl | trivial) hm _ (ext_trans XI.out xb))
          have HS9 := hide (HSN.out m hm)
          clear hm xb HDO HSN HSO HMA7 t5 t6
          go_wp2_with fail
          refine HD.out.mono ?_
          rintro e wc ⟨rfl, hc⟩
          have HGc := hide hc
          clear hc HD
          go_wp2
          go_roundw
          case rel =>
            refine ⟨k + 1, _, by omega, by go_num, HGc.out, hide ⟨?_, ?_, ?_⟩⟩
            · intro q hq
              rcases List.mem_append.1 hq with h | h
              · exact hPS.out.1 q h
              · rw [List.mem_singleton.1 h]; exact HS9.out
            · have := hPS.out.2.1
              simp; omega
            · simp
          case measure => simp [intOf]; omega
      · have t4 : (x == 0) = false := by simpa using hx0
        have t4' : (x != 0) = true := by simpa using hx0
        obtain rfl : LM = [] := HMM.out.trans (if_neg hx0)
        simp only [List.length_nil]
        clear hx0 HMM HDO HOP HMA6 HMB5
        go_wp2
        go_ret
        exact ⟨rfl, ext_trans XB.out (HGr.out.ext XH.out).old⟩
    · obtain rfl : k = qn := by omega
      clear hPS
      go_wp2
      go_ret
      exact ⟨rfl, ext_trans XB.out HGr.out.old⟩
theorem boardKeys_law (v : Value) (R : RulesM) (u : Value) (P : PosM) (A : Option Addr) (n c : Nat) (z : List Int) (w : World) (hR : RulesAt w v R) (hP : PosAt w u P) (hr : IsRow w A n c z) :
    Calls Try.prog 4 #[v, u, .slice A n c] w fun e w' => e = .returned (.bool true) ∧ Ext w w' := by
  by_cases he : checkE R P = 0
  · obtain ⟨hV, hS⟩ := check_iff.1 he
    obtain ⟨h1, h2, h3, h4⟩ := hr.ints
    rcases hr with ⟨rfl, rfl, rfl, rfl⟩ | ⟨x, rfl, a1, a2, a3, a4, a5⟩
    · exact boardKeys_nil v R u P _ _ _ [] w hR hP hV hS rfl rfl rfl
    · by_cases h0 : c = 0
      · exact boardKeys_zero v R u P _ n c z w hR hP hV hS x rfl (by omega) h0
      · have hx := spot_none (a4 0 (by omega))
        rw [show x.add 0 = x from rfl] at hx
        exact boardKeys_go v R u P _ n c z w hR hP hV hS _ _ (by rw [← hx]) a1 h1 h2 a2
  · exact boardKeys_bad v R u P A n c z w hR hP he

end Go.Proofs.Ythmldoffonlddaa
