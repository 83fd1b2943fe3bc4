/- MiniS -/
import Derived.Test.YtdoibgmmijhlfaaGreatB36
namespace Go.Proofs.YtdoibgmmijhlfaaGreat
open Go.ChangeShapes Go.WideShapes Go.ChangeAt Go.RowKit Go.Shelf
set_option linter.unusedVariables false
set_option linter.unusedSimpArgs false
def scoreM (R : RulesM) (P : PosM) (D : Int) : Int:=if perftE R P D=0 then ofM R D.toNat P else 0
def bestE (R : RulesM) (P : PosM) (D : Int) : Int:=if perftE R P D ≠ 0 then perftE R P D else if D=0 then 1 else if resultM R P ≠ 0 then 14 else 0
def bestY (R : RulesM) (P : PosM) (D : Int) : MoveM × Int:=if bestE R P D=0 then firstM R (D.toNat - 1) P else (⟨0,0,0⟩,0)
theorem perft_zero {R : RulesM} {P : PosM} {D : Int} (h : perftE R P D=0) : Valid R∧Sound R P∧0≤D∧D≤12∧treeM R D.toNat P≤50000:=by
 have hck : checkE R P=0:=by
  by_cases hc : checkE R P=0
  ·exact hc
  ·exact absurd h (by rw [(perftE_chk hc).1]; exact hc)
 by_cases ha : D < 0∨12 < D
 ·exact absurd h (by rw [(perftE_arg hck ha).1]; decide)
 ·by_cases ht : 50000 < treeM R D.toNat P
  ·exact absurd h (by rw [(perftE_bound hck ha ht).1]; decide)
  ·obtain ⟨hV,hS⟩:=check_iff.1 hck
   exact ⟨hV,hS,by omega,by omega,by omega⟩
set_option maxHeartbeats 2000000 in
set_option maxRecDepth 100000 in
theorem MScore_any (R : RulesM) (P : PosM) (v u : Value) (D : Int) (w : World) (hR : RulesAt w v R) (hP : PosAt w u P) :
  Calls Crz.prog 28 #[v,u,.int .i64 D] w fun e w' => e=.returned (.tuple #[.int .i64 (scoreM R P D),.int .i64 (perftE R P D)])∧Ext w w':=by
 have HT:=hide (fun W (hW : Ext w W) => PfTree_any R P v u D W (hR.ext hW) (hP.ext hW))
 have HRF:=hide (fun W (hW : Ext w W) => And.intro (hR.ext hW) (hP.ext hW))
 obtain ⟨pA,pc,sA,sc,eA,ec,rfl,-⟩:=hR
 obtain ⟨cA,cc,aA,ac,bA,bc,rfl,-⟩:=hP
 obtain ⟨x1,k1,k2⟩:=blks2 w #[.string R.name,.int .i64 R.width,.int .i64 R.height,.slice pA R.pieces.length pc,.slice sA R.start.length sc,.bool R.falls,.bool R.keeps,.slice eA R.ends.length ec,.int .i64 R.blocked,.int .i64 R.quiet,.int .i64 R.rept] 26 #[.slice cA P.cells.length cc,.slice aA P.hand0.length ac,.slice bA P.hand1.length bc,.int .i64 P.turn,.int .i64 P.quiet] 29
 have HX:=hide x1
 have K1:=hide k1
 have K2:=hide k2
 clear x1 k1 k2
 have f1:=K1.out.cell
 have f2:=K2.out.cell
 by_cases hz : perftE R P D=0
 ·obtain ⟨hV,hS,d0,d1,-⟩:=perft_zero hz
  have HO:=hide (fun W (hW : Ext w W) => of_any R hV D.toNat (by omega) P _ _ D W (by omega) hS (HRF.out W hW).1 (HRF.out W hW).2)
  rw [hz] at HT ⊢
  rw [show scoreM R P D=ofM R D.toNat P from if_pos hz]
  clear hz hV hS d0 d1 HRF
  generalize ofM R D.toNat P=y at *
  generalize perftN R P D=N at *
  go_enter Crz.func28,Tryz.ntmps28
  go_wp2_with fail
  refine (HT.out _ HX.out).mono ?_
  rintro e w2 ⟨rfl,x2⟩
  have X2:=hide (ext_trans HX.out x2)
  have g1:=(K1.out.ext x2).cell
  have g2:=(K2.out.ext x2).cell
  clear f1 f2 x2
  go_wp2_with fail
  refine (HO.out _ X2.out).mono ?_
  rintro e w3 ⟨rfl,x3⟩
  have X3:=hide (ext_trans X2.out x3)
  clear g1 g2 x3
  go_wp2
  go_ret2
  exact ⟨rfl,X3.out⟩
 ·rw [show scoreM R P D=0 from if_neg hz]
  have t0 : (perftE R P D != 0)=true:=by simpa using hz
  clear hz HRF
  generalize perftE R P D=E at *
  generalize perftN R P D=N at *
  go_enter Crz.func28,Tryz.ntmps28
  go_wp2_with fail
  refine (HT.out _ HX.out).mono ?_
  rintro e w2 ⟨rfl,x2⟩
  have X2:=hide (ext_trans HX.out x2)
  clear f1 f2 x2
  go_wp2
  go_ret2
  exact ⟨rfl,X2.out⟩
end Go.Proofs.YtdoibgmmijhlfaaGreat
