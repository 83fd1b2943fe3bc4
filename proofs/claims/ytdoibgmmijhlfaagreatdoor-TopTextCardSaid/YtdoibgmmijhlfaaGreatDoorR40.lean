/- RtO -/
import Derived.Test.YtdoibgmmijhlfaaGreatDoorR37
import Derived.Test.YtdoibgmmijhlfaaGreatDoorR08
import Derived.Lib.SlBytesConst
import Derived.ArgAppend
import Derived.Deep.DeepCutAuto
import Derived.Deep.CutBlock
namespace Go.Proofs.YtdoibgmmijhlfaaGreatDoor
open Go.RowKit
set_option linter.unusedVariables false
set_option linter.unusedSimpArgs false
theorem side_r {R : RulesM} (h : Valid R) : (1≤R.width∧R.width≤8)∧(1≤R.height∧R.height≤8):=by
 have:=h.side
 unfold okSide at this
 omega
theorem strU_name (s : ByteArray) : strU s.data.toList=s:=strU_ext rfl
theorem headT (R : RulesM) : lineT (headWs R)=[103,97,109,101,32] ++ R.name.data.toList ++ [32] ++ Lib.itoa R.width ++ [32] ++ Lib.itoa R.height:=by
 simp [headWs,lineT,joinL]
theorem pieceT (ps : List PieceM) (p : PieceM) : lineT (pieceWs ps p)=[112,105,101,99,101,32] ++ [chU p.letter] ++ [32] ++ Lib.itoa p.hand ++ [32] ++ letT ps p.promote:=by
 simp [pieceWs,lineT,joinL]
theorem wayT (y : WayM) : lineT (wayWs y)=[119,97,121,32] ++ Lib.itoa y.dx ++ [32] ++ Lib.itoa y.dy ++ [32] ++ Lib.itoa y.most ++ [32] ++ takesL.getD y.take.toNat []:=by
 simp [wayWs,lineT,joinL]
theorem wayT0 (y : WayM) (h : y.take=0) : lineT (wayWs y)=[119,97,121,32] ++ Lib.itoa y.dx ++ [32] ++ Lib.itoa y.dy ++ [32] ++ Lib.itoa y.most ++ [32] ++ wNever:=by rw [wayT,h]; rfl
theorem wayT1 (y : WayM) (h : y.take=1) : lineT (wayWs y)=[119,97,121,32] ++ Lib.itoa y.dx ++ [32] ++ Lib.itoa y.dy ++ [32] ++ Lib.itoa y.most ++ [32] ++ wMay:=by rw [wayT,h]; rfl
theorem wayT2 (y : WayM) (h : y.take=2) : lineT (wayWs y)=[119,97,121,32] ++ Lib.itoa y.dx ++ [32] ++ Lib.itoa y.dy ++ [32] ++ Lib.itoa y.most ++ [32] ++ wMust:=by rw [wayT,h]; rfl
theorem wok {y : WayM} (h : wayB y=true) : ((-10000 < y.dx∧y.dx < 10000)∧(-10000 < y.dy∧y.dy < 10000)∧(-10000 < y.most∧y.most < 10000))∧(y.take=0∨y.take=1∨y.take=2):=by
 unfold wayB at h
 simp only [Bool.and_eq_true,inB_iff] at h
 obtain ⟨⟨⟨⟨h1,h2⟩,-⟩,h3⟩,h4⟩:=h
 omega
theorem line2 (a b : BL) : lineT [a,b]=(a ++ [32]) ++ b:=by simp [lineT,joinL]
theorem flat_len {R : RulesM} (hV : Valid R) (k : Nat) : (((R.pieces.take k).flatMap (pieceLs R.pieces)).map lineT).length≤17 * (R.pieces.take k).length:=by
 have h : ∀ p ∈ R.pieces.take k,(pieceLs R.pieces p).length≤17:=fun p hp => by
  have:=(valid_piece hV p (List.mem_of_mem_take hp)).many
  unfold pieceLs
  simp
  omega
 revert h
 generalize R.pieces.take k=qs
 intro h
 rw [List.length_map]
 induction qs with
 | nil => simp
 | cons q qs ih =>
  rw [List.flatMap_cons,List.length_append,List.length_cons]
  have h1:=h q (by simp)
  have h2:=ih (fun p hp => h p (by simp [hp]))
  omega
theorem flat_snoc {R : RulesM} {k : Nat} {p : PieceM} (h : R.pieces[k]? = some p) (L1 : List BL) : L1 ++ ((R.pieces.take (k + 1)).flatMap (pieceLs R.pieces)).map lineT=(L1 ++ ((R.pieces.take k).flatMap (pieceLs R.pieces)).map lineT ++ [lineT (pieceWs R.pieces p)]) ++ p.ways.map (fun y => lineT (wayWs y)):=by
 rw [List.take_add_one,h]
 simp [pieceLs,List.append_assoc,Function.comp_def]
theorem letT_len (ps : List PieceM) (n : Int) : (letT ps n).length=1:=by
 unfold letT
 split <;> rfl
theorem szok {n m : Nat} (h : n≤m) (hm : m≤9223372036854775807) : ¬ (9223372036854775807 < n):=by omega
theorem wrap_one {k : Nat} (h : k≤1000) : IntKind.i64.wrap ((k : Int) + 1)=(k : Int) + 1:=by rw [IntKind.wrap_i64]; omega
theorem pok_hand {ps : List PieceM} {p : PieceM} (h : PieceOk ps p) : -10000 < p.hand∧p.hand < 10000:=by have:=h.hand; omega
theorem pok_prom {ps : List PieceM} {p : PieceM} (h : PieceOk ps p) : p.promote.toNat≤ps.length∧((p.promote.toNat : Nat) : Int)=p.promote:=by have:=h.prom; omega
theorem letter_at (R : RulesM) (v : Value) (k : Nat) (p : PieceM) (w : World) (hR : RulesAt w v R) (hL : Lets R.pieces) (h6 : R.pieces.length≤6) (hpk : R.pieces[k]? = some p) (S : ByteArray) (hS : S=strU [chU p.letter]) :
  Calls Tryz.prog 18 #[v,.int .i64 ((k : Int) + 1)] w fun e w' => e=.returned (.string S)∧Ext w w':=by
 have h:=letter_any R v (k + 1) w hR hL (List.getElem?_eq_some_iff.1 hpk).1 h6
 rw [show (((k + 1 : Nat)) : Int)=(k : Int) + 1 by omega,letT_at hpk,← hS] at h
 exact h
theorem letter_of (R : RulesM) (v : Value) (n : Int) (w : World) (hR : RulesAt w v R) (hL : Lets R.pieces) (h6 : R.pieces.length≤6) (hn : n.toNat≤R.pieces.length∧((n.toNat : Nat) : Int)=n) (S : ByteArray) (hS : S=strU (letT R.pieces n)) :
  Calls Tryz.prog 18 #[v,.int .i64 n] w fun e w' => e=.returned (.string S)∧Ext w w':=by
 have h:=letter_any R v n.toNat w hR hL hn.1 h6
 rw [hn.2,← hS] at h
 exact h
theorem itoa_of (n : Int) (h : -10000 < n∧n < 10000) (w : World) (hw : LibW w) (S : ByteArray) (hS : S=strU (Lib.itoa n)) : Calls Tryz.prog 17 #[.int .i64 n] w fun e w' => e=.returned (.string S)∧Ext w w':=by
 subst hS
 exact itoa_all n (by omega) (by omega) w hw
theorem rowsWs_len (R : RulesM) : (rowsWs R).length=R.height.toNat:=by simp [rowsWs]
theorem rowsWs_get (R : RulesM) {k : Nat} (h : k < R.height.toNat) : (rowsWs R)[k]? = some (rowWs R (R.height.toNat - 1 - k)):=by
 unfold rowsWs
 rw [List.getElem?_reverse (by simpa using h),List.length_map,List.length_range,List.getElem?_map,List.getElem?_range (by omega)]
 rfl
theorem rowT_eq (R : RulesM) (y : Nat) : lineT (rowWs R y)=[114,111,119,32] ++ ((R.start.drop (y * R.width.toNat)).take R.width.toNat).map (cellT R.pieces):=by
 simp [rowWs,lineT,joinL]
abbrev bytC (l : BL) : List Value:=l.map fun b => Value.int .u8 (b.toNat : Int)
theorem bytC_snoc (l : BL) (b : UInt8) : bytC (l ++ [b])=bytC l ++ [.int .u8 (b.toNat : Int)]:=by simp
theorem u8InfoR : (Tryz.prog.info? 5).map (fun i => (i.zero,i.size,i.bytes))=some (some (.int .u8 0),1,1):=by kernel_rfl
theorem conv_back {W : World} {A : Option Addr} {c : Nat} {l : BL} (hc : CellsAt W A (bytC l)) (h0 : 0 < l.length) : (convert 63 9 (.slice A l.length c)).run Tryz.prog W=.ok (.string (strU l)) W:=by
 obtain ⟨b,o,rfl,-⟩:=hc 0 _ (by rw [List.getElem?_map,List.getElem?_eq_getElem h0]; rfl)
 exact run_convert_bytes_back (P:=Tryz.prog) W 63 9 5 ⟨b,o,none⟩ c l Tryz.underlying63 Tryz.underlying5 Tryz.underlying9 (fun j hj => by
  obtain ⟨b',o',e,hcc⟩:=hc j _ (by rw [List.getElem?_map,List.getElem?_eq_getElem hj]; rfl)
  cases e
  rw [Addr.add_lit]
  exact hcc)
def PrSt (w3 : World) (L : List BL) (s : Value) (W : World) : Prop:=OwnR 9 1 w3 W s L.length (strsC L)∧Ext w3 W
theorem PrSt.ext {w3 W W' : World} {L : List BL} {s : Value} (h : PrSt w3 L s W) (x : Ext W W') : PrSt w3 L s W':=⟨h.1.ext x,ext_trans h.2 x⟩
theorem PrSt.other {w3 W W' : World} {L : List BL} {s u : Value} {e : TypeId} {sz n : Nat} {xs : List Value} (h : PrSt w3 L s W) (o : OwnR e sz w3 W u n xs) (g : W.grownBy W' u.ownBlock) (hne : 9 ≠ e) (x : Ext w3 W') : PrSt w3 L s W':=by
 obtain ⟨A,c,e1,ho⟩:=h.1
 obtain ⟨A2,c2,e2,ho2⟩:=o
 subst e1 e2
 exact ⟨⟨A,c,rfl,ho.kept g (own_ne ho ho2 hne)⟩,x⟩
theorem PrSt.shape {w3 W : World} {L : List BL} {s : Value} (h : PrSt w3 L s W) : ∃ A c,s=.slice A L.length c:=by
 obtain ⟨A,c,e,-⟩:=h.1
 exact ⟨A,c,e⟩
def rowP (R : RulesM) (y x : Nat) : BL:=[114,111,119,32] ++ ((R.start.drop (y * R.width.toNat)).take x).map (cellT R.pieces)
theorem rowP_len (R : RulesM) (y x : Nat) (h : x≤8) : (rowP R y x).length≤12:=by
 unfold rowP
 rw [List.length_append,List.length_map,List.length_take]
 simp
 omega
theorem rowP_snoc {R : RulesM} {y x q : Nat} {z : Int} (hq : q=y * R.width.toNat + x) (h : R.start[q]? = some z) : rowP R y (x + 1)=rowP R y x ++ [cellT R.pieces z]:=by
 unfold rowP
 rw [List.take_add_one,List.getElem?_drop,← hq,h]
 simp
def BRow (w3 W : World) (s : Value) (l : BL) : Prop:=OwnR 5 1 w3 W s l.length (bytC l)∨∃ rb,s=.slice (some ⟨rb,0,none⟩) l.length l.length∧CellsAt W (some ⟨rb,0,none⟩) (bytC l)
theorem BRow.ext {w3 W W' : World} {s : Value} {l : BL} (h : BRow w3 W s l) (x : Ext W W') : BRow w3 W' s l:=by
 rcases h with h | ⟨rb,e,h⟩
 ·exact .inl (h.ext x)
 ·exact .inr ⟨rb,e,h.ext x⟩
theorem BRow.shape {w3 W : World} {s : Value} {l : BL} (h : BRow w3 W s l) : ∃ A c,s=.slice A l.length c∧CellsAt W A (bytC l):=by
 rcases h with h | ⟨rb,e,h⟩
 ·obtain ⟨A,c,e,hc,-⟩:=h.cells
  exact ⟨A,c,e,hc⟩
 ·exact ⟨_,_,e,h⟩
theorem brow_new (w3 W : World) (l : BL) (n m : Nat) : BRow w3 (W.alloc (.cells (bytC l).toArray 5 (n,m))) (.slice (some ⟨W.heap.size,0,none⟩) l.length l.length) l:=by
 refine .inr ⟨_,rfl,fun i v hi => ⟨_,_,rfl,?_⟩⟩
 have : (W.alloc (.cells (bytC l).toArray 5 (n,m))).heap[W.heap.size]? = some (.cells (bytC l).toArray 5 (n,m)):=by
  show (W.heap.push _)[W.heap.size]? = _
  simp
 unfold World.cell?
 simp only [this,Nat.zero_add]
 simpa using hi
set_option maxRecDepth 20000 in
theorem oper_append_b {o : Oper} {a : Act} {K : Act→World→Prop} {Q : Exit→Act→World→Prop} (s x : Operand)
  (ho : o.op=.call { callee:=.builtin .append,args:=#[s,x],argTypes:=#[63,63] }) (w3 w : World) (v sO : Value) (l : BL) (b : UInt8) (L : List BL) (hs : a.eval s=v) (hB : BRow w3 w v l) (hx : a.eval x=.slice (some ⟨w.heap.size,0,none⟩) 1 1)
  (hO : PrSt w3 L sO w) (hlen : l.length≤1000) (h : ∀ v' w',OwnR 5 1 w3 w' v' (l ++ [b]).length (bytC (l ++ [b]))→PrSt w3 L sO w'→K (a.put o.dst v') w') :
  Oper.wp Tryz.prog o a (w.alloc (.cells #[.int .u8 (b.toNat : Int)] 5)) K Q:=by
 rcases hB with hB | ⟨rb,rfl,hc⟩
 ·refine oper_append_r s x 63 ho 5 1 1 (.int .u8 0) Tryz.underlying63 u8InfoR rfl (by decide) (by decide) w3 w v l.length (bytC l) [.int .u8 (b.toNat : Int)] hs hB hx rfl (by simp [Value.oneCell']) hO.2 (by omega) ?_
  intro v9 w9 own9 x9 g9
  exact h v9 w9 (by rw [bytC_snoc,List.length_append]; exact own9) (PrSt.other hO hB g9 (by decide) x9)
 ·obtain ⟨i0,hi,hz0,hz1,hz2⟩:=info_parts u8InfoR
  have hxa : Ext w (w.alloc (.cells #[.int .u8 (b.toNat : Int)] 5)):=ext_alloc (Below.refl _ _) _
  have hnew:=cellsAt_new w 5 [.int .u8 (b.toNat : Int)]
  obtain ⟨v',w',hrun,h2,h3⟩:=run_append_arg_grows (P:=Tryz.prog) (w.alloc (.cells #[.int .u8 (b.toNat : Int)] 5)) 63 o.type 5 i0 (.int .u8 0) 1 1 Tryz.underlying63 hi hz0 hz1 hz2 rfl (by decide) ⟨rb,0,none⟩ l.length l.length (bytC l) (by simp) (fun j u hj => by
   obtain ⟨b',o',e,hcc⟩:=hc j u hj
   cases e
   rw [Addr.add_lit]
   exact Ext.cell hxa hcc) ⟨w.heap.size,0,none⟩ 1 1 [.int .u8 (b.toNat : Int)] rfl (fun j u hj => by
   obtain ⟨b',o',e,hcc⟩:=hnew j u hj
   cases e
   rw [Addr.add_lit]
   exact hcc) (by omega) (by simp only [maxLen]; omega) (by omega)
  have hx2 : Ext w w':=ext_trans hxa ⟨h3.os,h3.tape,h3.output,h3.size,fun k hk => h3.block k hk (by simp)⟩
  unfold Oper.wp execOp
  simp only [ho,resolve,invoke,builtin,Sem.run_bind,Sem.run_pure,Result.andThen_ok,List.map_toArray,List.map_cons,List.map_nil,hs,hx,hrun]
  obtain ⟨A',c',rfl,_,_⟩:=own_shape h2
  refine h _ w' ⟨A',c',by rw [List.length_append]; rfl,?_⟩ (hO.ext hx2)
  rw [bytC_snoc,List.length_append]
  exact own_mono h2 (by have:=hO.2.size; have h4:=hxa.size; omega)
set_option maxHeartbeats 8000000 in
set_option maxRecDepth 100000 in
theorem Print_any (R : RulesM) (v : Value) (w : World) (hR : RulesAt w v R) (hw : LibW w) :
  Calls Tryz.prog 4 #[v] w fun e w' => ((rulesE R=0∧e=.returned (.tuple #[.string (strU (printT R)),.int .i64 0]))∨(rulesE R ≠ 0∧e=.returned (.tuple #[.string ⟨#[]⟩,.int .i64 (rulesE R)])))∧Ext w w':=by
 have HC:=Lib.hid (fun W (x : Ext w W) => Check_any v R W (hR.ext x))
 have HRR:=Lib.hid (fun W (x : Ext w W) => hR.ext x)
 have HLW:=Lib.hid (fun W (x : Ext w W) => hw.ext x)
 obtain ⟨pA,pc,sA,sc,eA,ec,rfl,hp,hs,he,-⟩:=hR
 obtain ⟨E,hE⟩ : ∃ E,E=rulesE R:=⟨_,rfl⟩
 rw [← hE] at HC ⊢
 have HEE:=Lib.hid hE
 have HP:=Lib.hid hp
 have HS:=Lib.hid hs
 have HED:=Lib.hid he
 obtain ⟨xa,k1⟩:=blks1 w #[.string R.name,.int .i64 R.width,.int .i64 R.height,.slice pA R.pieces.length pc,.slice sA R.start.length sc,.bool R.falls,.bool R.keeps,.slice eA R.ends.length ec,.int .i64 R.blocked,.int .i64 R.quiet,.int .i64 R.rept] 26
 have XA:=Lib.hid xa
 have KA:=Lib.hid k1
 have hc:=k1.cell
 clear hE hp hs he xa k1 hw
 go_enter Tryz.func4,Tryz.ntmps4
 go_upto_region 1 with fail
 generalize w.alloc _=w1 at *
 obtain ⟨B,hB⟩ : ∃ B,B=w.heap.size:=⟨_,rfl⟩
 rw [← hB] at KA hc ⊢
 clear hB
 go_wp2_with fail
 refine (HC.out _ XA.out).mono ?_
 rintro e w3 ⟨rfl,x3⟩
 have X3:=Lib.hid (ext_trans XA.out x3)
 have KB3:=Lib.hid (KA.out.ext x3)
 clear hc x3 XA KA HC
 by_cases hE0 : E=0
 ·subst hE0
  have hV:=valid_of (R:=R) HEE.out.symm
  have HV:=Lib.hid hV
  have HLT:=Lib.hid (lets_of (R:=R) HEE.out.symm)
  have hsd:=side_r hV
  have HSD:=Lib.hid hsd
  have HI:=Lib.hid (fun (n : Int) (h0 : -10000 < n) (h1 : n < 10000) W (x : Ext w3 W) => itoa_all n (by omega) (by omega) W (HLW.out W (ext_trans X3.out x)))
  obtain ⟨S1,hS1⟩ : ∃ S,S=strU (Lib.itoa R.width):=⟨_,rfl⟩
  obtain ⟨S2,hS2⟩ : ∃ S,S=strU (Lib.itoa R.height):=⟨_,rfl⟩
  have z0 : R.name.size≤8:=by
   have h:=(name_good hV.name).2.1
   rw [Array.length_toList] at h
   exact h
  have z1 : S1.size≤8:=by rw [hS1,strU_size]; exact itoa_len8 (by omega) (by omega)
  have z2 : S2.size≤8:=by rw [hS2,strU_size]; exact itoa_len8 (by omega) (by omega)
  have HI1:=Lib.hid (fun W (x : Ext w3 W) => by
   have h:=HI.out R.width (by omega) (by omega) W x
   rw [← hS1] at h
   exact h)
  have HI2:=Lib.hid (fun W (x : Ext w3 W) => by
   have h:=HI.out R.height (by omega) (by omega) W x
   rw [← hS2] at h
   exact h)
  have lHE0 : (⟨#[103,97,109,101,32]⟩ : ByteArray).size=5:=rfl
  have lHE1 : (⟨#[32]⟩ : ByteArray).size=1:=rfl
  have lHE2 : (⟨#[32]⟩ : ByteArray).size=1:=rfl
  have pHE1 : ¬ (9223372036854775807 < 5 + R.name.size):=szok (Nat.add_le_add (Nat.le_refl 5) z0) (by decide)
  have pHE2 : ¬ (9223372036854775807 < 5 + R.name.size + 1):=szok (Nat.add_le_add (Nat.add_le_add (Nat.le_refl 5) z0) (Nat.le_refl 1)) (by decide)
  have qHE2 : ¬ (9223372036854775807 < 5 + (R.name.size + 1)):=szok (Nat.add_le_add (Nat.le_refl 5) (Nat.add_le_add z0 (Nat.le_refl 1))) (by decide)
  have pHE3 : ¬ (9223372036854775807 < 5 + R.name.size + 1 + S1.size):=szok (Nat.add_le_add (Nat.add_le_add (Nat.add_le_add (Nat.le_refl 5) z0) (Nat.le_refl 1)) z1) (by decide)
  have qHE3 : ¬ (9223372036854775807 < 5 + (R.name.size + (1 + S1.size))):=szok (Nat.add_le_add (Nat.le_refl 5) (Nat.add_le_add z0 (Nat.add_le_add (Nat.le_refl 1) z1))) (by decide)
  have pHE4 : ¬ (9223372036854775807 < 5 + R.name.size + 1 + S1.size + 1):=szok (Nat.add_le_add (Nat.add_le_add (Nat.add_le_add (Nat.add_le_add (Nat.le_refl 5) z0) (Nat.le_refl 1)) z1) (Nat.le_refl 1)) (by decide)
  have qHE4 : ¬ (9223372036854775807 < 5 + (R.name.size + (1 + (S1.size + 1)))):=szok (Nat.add_le_add (Nat.le_refl 5) (Nat.add_le_add z0 (Nat.add_le_add (Nat.le_refl 1) (Nat.add_le_add z1 (Nat.le_refl 1))))) (by decide)
  have pHE5 : ¬ (9223372036854775807 < 5 + R.name.size + 1 + S1.size + 1 + S2.size):=szok (Nat.add_le_add (Nat.add_le_add (Nat.add_le_add (Nat.add_le_add (Nat.add_le_add (Nat.le_refl 5) z0) (Nat.le_refl 1)) z1) (Nat.le_refl 1)) z2) (by decide)
  have qHE5 : ¬ (9223372036854775807 < 5 + (R.name.size + (1 + (S1.size + (1 + S2.size))))):=szok (Nat.add_le_add (Nat.le_refl 5) (Nat.add_le_add z0 (Nat.add_le_add (Nat.le_refl 1) (Nat.add_le_add z1 (Nat.add_le_add (Nat.le_refl 1) z2))))) (by decide)
  have HE:=Lib.hid (show (⟨#[103,97,109,101,32]⟩ : ByteArray) ++ R.name ++ (⟨#[32]⟩ : ByteArray) ++ S1 ++ (⟨#[32]⟩ : ByteArray) ++ S2=strU (lineT (headWs R)) from by
   rw [hS1,hS2,headT R]
   simp only [← strU_app,strU_name]
   rfl)
  clear hS1 hS2 hV hsd
  go_upto_region 4 with fail
  go_cut [5] (fun s5 wx => PrSt w3 [lineT (headWs R)] s5 wx)
  case first =>
   have keepK:=hide (fun W (h : Ext w3 W) => (show (fun W => W.cell? ⟨B,0,none⟩=some (.string R.name)∧W.cell? ⟨B,1,none⟩=some (.int .i64 R.width)∧W.cell? ⟨B,2,none⟩=some (.int .i64 R.height)∧W.cell? ⟨B,3,none⟩=some (.slice pA R.pieces.length pc)∧W.cell? ⟨B,4,none⟩=some (.slice sA R.start.length sc)∧W.cell? ⟨B,5,none⟩=some (.bool R.falls)∧W.cell? ⟨B,6,none⟩=some (.bool R.keeps)∧W.cell? ⟨B,7,none⟩=some (.slice eA R.ends.length ec)∧W.cell? ⟨B,8,none⟩=some (.int .i64 R.blocked)∧W.cell? ⟨B,9,none⟩=some (.int .i64 R.quiet)∧W.cell? ⟨B,10,none⟩=some (.int .i64 R.rept)∧Ext w3 W) W from ⟨(KB3.out.ext h).cell 0,(KB3.out.ext h).cell 1,(KB3.out.ext h).cell 2,(KB3.out.ext h).cell 3,(KB3.out.ext h).cell 4,(KB3.out.ext h).cell 5,(KB3.out.ext h).cell 6,(KB3.out.ext h).cell 7,(KB3.out.ext h).cell 8,(KB3.out.ext h).cell 9,(KB3.out.ext h).cell 10,h⟩))
   have yy : Ext w3 w3.drew:=Below.drew (Below.refl _ _)
   refine region_K (fun W => W.cell? ⟨B,0,none⟩=some (.string R.name)∧W.cell? ⟨B,1,none⟩=some (.int .i64 R.width)∧W.cell? ⟨B,2,none⟩=some (.int .i64 R.height)∧W.cell? ⟨B,3,none⟩=some (.slice pA R.pieces.length pc)∧W.cell? ⟨B,4,none⟩=some (.slice sA R.start.length sc)∧W.cell? ⟨B,5,none⟩=some (.bool R.falls)∧W.cell? ⟨B,6,none⟩=some (.bool R.keeps)∧W.cell? ⟨B,7,none⟩=some (.slice eA R.ends.length ec)∧W.cell? ⟨B,8,none⟩=some (.int .i64 R.blocked)∧W.cell? ⟨B,9,none⟩=some (.int .i64 R.quiet)∧W.cell? ⟨B,10,none⟩=some (.int .i64 R.rept)∧Ext w3 W) (fun _ => True) [] (by kernel_rfl) ?_
   have hT0:=keepK.out _ yy
   refine anyK_take 0 (oi:=?oo1) ?ho1 (by kernel_rfl) (by kernel_rfl) (by kernel_rfl) (by kernel_rfl) ?hq1 ?hw1 hT0 (fun _ => trivial) (v:=?vv1) ?hy1 ?hk1
   case ho1 => (simp only [List.getElem?_toArray,List.getElem?_cons_succ,List.getElem?_cons_zero]; rfl)
   case hq1 => exact fun _ _ _ h => h
   case hw1 => rfl
   case hy1 =>
    intro W hW
    go_simp
    first | done | with_reducible rfl
   case hk1 =>
   try simp only [Act.put,List.setIfInBounds_toArray,List.set_cons_zero,List.set_cons_succ]
   refine anyK_take 1 (oi:=?oo2) ?ho2 (by kernel_rfl) (by kernel_rfl) (by kernel_rfl) (by kernel_rfl) ?hq2 ?hw2 hT0 (fun _ => trivial) (v:=?vv2) ?hy2 ?hk2
   case ho2 => (simp only [List.getElem?_toArray,List.getElem?_cons_succ,List.getElem?_cons_zero]; rfl)
   case hq2 => exact fun _ _ _ h => h
   case hw2 => rfl
   case hy2 =>
    intro W hW
    obtain ⟨z0,z1,z2,z3,z4,z5,z6,z7,z8,z9,z10,z11⟩:=hW
    go_simp
    first | done | with_reducible rfl
   case hk2 =>
   try simp only [Act.put,List.setIfInBounds_toArray,List.set_cons_zero,List.set_cons_succ]
   refine anyK_take 2 (oi:=?oo3) ?ho3 (by kernel_rfl) (by kernel_rfl) (by kernel_rfl) (by kernel_rfl) ?hq3 ?hw3 hT0 (fun _ => trivial) (v:=?vv3) ?hy3 ?hk3
   case ho3 => (simp only [List.getElem?_toArray,List.getElem?_cons_succ,List.getElem?_cons_zero]; rfl)
   case hq3 => exact fun _ _ _ h => h
   case hw3 => rfl
   case hy3 =>
    intro W hW
    go_simp
    first | done | with_reducible rfl
   case hk3 =>
   try simp only [Act.put,List.setIfInBounds_toArray,List.set_cons_zero,List.set_cons_succ]
   refine anyK_take 3 (oi:=?oo4) ?ho4 (by kernel_rfl) (by kernel_rfl) (by kernel_rfl) (by kernel_rfl) ?hq4 ?hw4 hT0 (fun _ => trivial) (v:=?vv4) ?hy4 ?hk4
   case ho4 => (simp only [List.getElem?_toArray,List.getElem?_cons_succ,List.getElem?_cons_zero]; rfl)
   case hq4 => exact fun _ _ _ h => h
   case hw4 => rfl
   case hy4 =>
    intro W hW
    go_simp
    first | done | with_reducible rfl
   case hk4 =>
   try simp only [Act.put,List.setIfInBounds_toArray,List.set_cons_zero,List.set_cons_succ]
   refine anyK_take 4 (oi:=?oo5) ?ho5 (by kernel_rfl) (by kernel_rfl) (by kernel_rfl) (by kernel_rfl) ?hq5 ?hw5 hT0 (fun _ => trivial) (v:=?vv5) ?hy5 ?hk5
   case ho5 => (simp only [List.getElem?_toArray,List.getElem?_cons_succ,List.getElem?_cons_zero]; rfl)
   case hq5 => exact fun _ _ _ h => h
   case hw5 => rfl
   case hy5 =>
    intro W hW
    go_simp
    first | done | with_reducible rfl
   case hk5 =>
   try simp only [Act.put,List.setIfInBounds_toArray,List.set_cons_zero,List.set_cons_succ]
   refine anyK_take 5 (oi:=?oo6) ?ho6 (by kernel_rfl) (by kernel_rfl) (by kernel_rfl) (by kernel_rfl) ?hq6 ?hw6 hT0 (fun _ => trivial) (v:=?vv6) ?hy6 ?hk6
   case ho6 => (simp only [List.getElem?_toArray,List.getElem?_cons_succ,List.getElem?_cons_zero]; rfl)
   case hq6 => exact fun _ _ _ h => h
   case hw6 => rfl
   case hy6 =>
    intro W hW
    obtain ⟨z0,z1,z2,z3,z4,z5,z6,z7,z8,z9,z10,z11⟩:=hW
    go_simp
    first | done | with_reducible rfl
   case hk6 =>
   try simp only [Act.put,List.setIfInBounds_toArray,List.set_cons_zero,List.set_cons_succ]
   refine anyK_take 9 (oi:=?oo7) ?ho7 (by kernel_rfl) (by kernel_rfl) (by kernel_rfl) (by kernel_rfl) ?hq7 ?hw7 hT0 (fun _ => trivial) (v:=?vv7) ?hy7 ?hk7
   case ho7 => (simp only [List.getElem?_toArray,List.getElem?_cons_succ,List.getElem?_cons_zero]; rfl)
   case hq7 => exact fun _ _ _ h => h
   case hw7 => rfl
   case hy7 =>
    intro W hW
    go_simp
    first | done | with_reducible rfl
   case hk7 =>
   try simp only [Act.put,List.setIfInBounds_toArray,List.set_cons_zero,List.set_cons_succ]
   refine anyK_take 10 (oi:=?oo8) ?ho8 (by kernel_rfl) (by kernel_rfl) (by kernel_rfl) (by kernel_rfl) ?hq8 ?hw8 hT0 (fun _ => trivial) (v:=?vv8) ?hy8 ?hk8
   case ho8 => (simp only [List.getElem?_toArray,List.getElem?_cons_succ,List.getElem?_cons_zero]; rfl)
   case hq8 => exact fun _ _ _ h => h
   case hw8 => rfl
   case hy8 =>
    intro W hW
    obtain ⟨z0,z1,z2,z3,z4,z5,z6,z7,z8,z9,z10,z11⟩:=hW
    go_simp
    first | done | with_reducible rfl
   case hk8 =>
   try simp only [Act.put,List.setIfInBounds_toArray,List.set_cons_zero,List.set_cons_succ]
   refine anyK_on1 6 (by kernel_rfl) ?_
   refine anyK_one 6 (o:=?oo9) ?ho9 ?hk9
   case ho9 => (simp only [List.getElem?_toArray,List.getElem?_cons_succ,List.getElem?_cons_zero]; rfl)
   case hk9 =>
   intro K hK
   go_simp
   refine (HI1.out _ yy).mono ?_
   rintro e wa ⟨rfl,xx⟩
   try go_wp2_with fail
   replace yy:=ext_trans yy xx
   have hT1:=keepK.out _ yy
   refine hK.out _ _ hT1 (fun _ => trivial) ?_
   clear hK K
   try simp only [Act.put,List.setIfInBounds_toArray,List.set_cons_zero,List.set_cons_succ]
   refine anyK_take 7 (oi:=?oo10) ?ho10 (by kernel_rfl) (by kernel_rfl) (by kernel_rfl) (by kernel_rfl) ?hq10 ?hw10 hT1 (fun _ => trivial) (v:=?vv10) ?hy10 ?hk10
   case ho10 => (simp only [List.getElem?_toArray,List.getElem?_cons_succ,List.getElem?_cons_zero]; rfl)
   case hq10 => exact fun _ _ _ h => h
   case hw10 => rfl
   case hy10 =>
    intro W hW
    go_simp
    first | done | with_reducible rfl
   case hk10 =>
   try simp only [Act.put,List.setIfInBounds_toArray,List.set_cons_zero,List.set_cons_succ]
   refine anyK_take 8 (oi:=?oo11) ?ho11 (by kernel_rfl) (by kernel_rfl) (by kernel_rfl) (by kernel_rfl) ?hq11 ?hw11 hT1 (fun _ => trivial) (v:=?vv11) ?hy11 ?hk11
   case ho11 => (simp only [List.getElem?_toArray,List.getElem?_cons_succ,List.getElem?_cons_zero]; rfl)
   case hq11 => exact fun _ _ _ h => h
   case hw11 => rfl
   case hy11 =>
    intro W hW
    go_simp
    first | done | with_reducible rfl
   case hk11 =>
   try simp only [Act.put,List.setIfInBounds_toArray,List.set_cons_zero,List.set_cons_succ]
   refine anyK_on1 11 (by kernel_rfl) ?_
   refine anyK_one 11 (o:=?oo12) ?ho12 ?hk12
   case ho12 => (simp only [List.getElem?_toArray,List.getElem?_cons_succ,List.getElem?_cons_zero]; rfl)
   case hk12 =>
   intro K hK
   go_simp
   refine (HI2.out _ yy).mono ?_
   rintro e wb ⟨rfl,xx⟩
   try go_wp2_with fail
   replace yy:=ext_trans yy xx
   have HWB:=Lib.hid yy
   have hT2:=keepK.out _ yy
   refine hK.out _ _ hT2 (fun _ => trivial) ?_
   clear hK K
   try simp only [Act.put,List.setIfInBounds_toArray,List.set_cons_zero,List.set_cons_succ]
   refine anyK_take 12 (oi:=?oo13) ?ho13 (by kernel_rfl) (by kernel_rfl) (by kernel_rfl) (by kernel_rfl) ?hq13 ?hw13 hT2 (fun _ => trivial) (v:=?vv13) ?hy13 ?hk13
   case ho13 => (simp only [List.getElem?_toArray,List.getElem?_cons_succ,List.getElem?_cons_zero]; rfl)
   case hq13 => exact fun _ _ _ h => h
   case hw13 => rfl
   case hy13 =>
    intro W hW
    go_simp
    first | done | with_reducible rfl
   case hk13 =>
   try simp only [Act.put,List.setIfInBounds_toArray,List.set_cons_zero,List.set_cons_succ]
   refine anyK_on1 13 (by kernel_rfl) ?_
   refine anyK_one 13 (o:=?oo14) ?ho14 ?hk14
   case ho14 => (simp only [List.getElem?_toArray,List.getElem?_cons_succ,List.getElem?_cons_zero]; rfl)
   case hk14 =>
   intro K hK
   go_simp
   rw [HE.out]
   replace yy:=ext_alloc yy (.cells #[.string (strU (lineT (headWs R)))] 9)
   have hT3:=keepK.out _ yy
   refine hK.out _ _ hT3 (fun _ => trivial) ?_
   clear hK K
   try simp only [Act.put,List.setIfInBounds_toArray,List.set_cons_zero,List.set_cons_succ]
   refine anyK_take 14 (oi:=?oo15) ?ho15 (by kernel_rfl) (by kernel_rfl) (by kernel_rfl) (by kernel_rfl) ?hq15 ?hw15 hT3 (fun _ => trivial) (v:=?vv15) ?hy15 ?hk15
   case ho15 => (simp only [List.getElem?_toArray,List.getElem?_cons_succ,List.getElem?_cons_zero]; rfl)
   case hq15 => exact fun _ _ _ h => h
   case hw15 => rfl
   case hy15 =>
    intro W hW
    go_simp
    first | done | with_reducible rfl
   case hk15 =>
   try simp only [Act.put,List.setIfInBounds_toArray,List.set_cons_zero,List.set_cons_succ]
   refine anyK_done (by kernel_rfl) ?_ _
   clear keepK hT0 hT1 hT2 hT3
   go_wp2_with fail
   go_meet
   exact ⟨(own_new wb [lineT (headWs R)] (by simp)).base HWB.out.size,ext_alloc HWB.out _⟩
  case rest =>
   obtain ⟨L1,hL1⟩ : ∃ L,L=[lineT (headWs R)]:=⟨_,rfl⟩
   rw [← hL1] at hcut
   have HL1E:=Lib.hid hL1
   have HO1:=Lib.hid hcut
   obtain ⟨n,hn⟩ : ∃ n,n=R.pieces.length:=⟨_,rfl⟩
   have HN:=Lib.hid hn
   have hn6 : n≤6:=by rw [hn]; exact HV.out.pieces6
   have c3 : wc.cell? ⟨B,3,none⟩=some (.slice pA n pc):=by rw [hn]; exact (KB3.out.ext hcut.2).cell 3
   have HLET:=Lib.hid (fun (q : Nat) (hq : q≤R.pieces.length) W (x : Ext w3 W) => letter_any R _ q W (HRR.out W (ext_trans X3.out x)) HLT.out hq HV.out.pieces6)
   clear hcut hL1 hn HI1 HI2 HE z0 z1 z2 lHE0 lHE1 lHE2 pHE1 pHE2 qHE2 pHE3 qHE3 pHE4 qHE4 pHE5 qHE5
   go_upto_block 0 with fail
   go_cut [5] (fun s5 wx => PrSt w3 (L1 ++ (R.pieces.flatMap (pieceLs R.pieces)).map lineT) s5 wx)
   case first => as_aux_lemma =>
    go_wp2_with fail
    clear c3
    go_loopw [5,37] (fun sv kv wr => ∃ k : Nat,k≤n∧kv=.int .i64 (k : Int)∧PrSt w3 (L1 ++ ((R.pieces.take k).flatMap (pieceLs R.pieces)).map lineT) sv wr) (fun sv kv wr => n - (RowKit.intOf kv).toNat)
    case atStart => exact ⟨0,Nat.zero_le _,rfl,by simpa using HO1.out⟩
    case round =>
     obtain ⟨k,hk,rfl,hO⟩:=hrel
     by_cases hkn : k < n
     ·obtain ⟨p,hpk⟩ : ∃ p,R.pieces[k]? = some p:=⟨_,List.getElem?_eq_getElem (by rw [← HN.out]; exact hkn)⟩
      have HOK:=valid_piece HV.out p (List.mem_of_getElem? hpk)
      have HPO:=Lib.hid HOK
      obtain ⟨pb,po,wA,wc2,rfl,p0,p1,p2,p3,hw⟩:=HP.out.get hpk
      replace p0:=Ext.cell (ext_trans X3.out hO.2) p0
      replace p1:=Ext.cell (ext_trans X3.out hO.2) p1
      replace p2:=Ext.cell (ext_trans X3.out hO.2) p2
      replace p3:=Ext.cell (ext_trans X3.out hO.2) p3
      have HWY:=Lib.hid hw
      have HKN:=Lib.hid hkn
      have HSN:=Lib.hid (flat_snoc hpk L1)
      have HPK:=Lib.hid hpk
      obtain ⟨oL,hoL⟩ : ∃ L,L=L1 ++ ((R.pieces.take k).flatMap (pieceLs R.pieces)).map lineT:=⟨_,rfl⟩
      have HOL:=Lib.hid (show oL.length≤200 from by
       have h:=flat_len HV.out k
       have h2:=HL1E.out
       have h3 : (R.pieces.take k).length≤k:=by rw [List.length_take]; omega
       rw [hoL,List.length_append,h2,List.length_singleton]
       omega)
      rw [← hoL] at hO HSN
      obtain ⟨oA,oc,rfl⟩:=hO.shape
      have HO0:=Lib.hid hO
      have t0 : decide ((k : Int) < (n : Int))=true:=decide_eq_true (by omega)
      have t0n : decide (k < n)=true:=decide_eq_true hkn
      have kI : (k : Int) < (n : Int):=by omega
      have hk6 : k≤6:=by omega
      clear hw hO hk hoL hpk hkn
      obtain ⟨x8,kp8⟩:=blks1 wr #[.int .u8 p.letter,.int .i64 p.hand,.int .i64 p.promote,.slice wA p.ways.length wc2] 57
      have HX8:=Lib.hid x8
      have HP8:=Lib.hid kp8
      clear x8 kp8
      go_upto_region 8 with fail
      clear p0 p1 p2 p3
      generalize wr.alloc _=w8 at *
      obtain ⟨PB,hPB⟩ : ∃ PB,PB=wr.heap.size:=⟨_,rfl⟩
      rw [← hPB] at HP8 ⊢
      have KP8:=Lib.hid HP8.out
      have HO:=Lib.hid (HO0.out.ext HX8.out)
      have X8:=Lib.hid (ext_trans HO0.out.2 HX8.out)
      have z0 : Ext w8 w8.drew:=Below.drew (Below.refl _ _)
      obtain ⟨S1,hS1⟩ : ∃ S,S=strU [chU p.letter]:=⟨_,rfl⟩
      obtain ⟨S2,hS2⟩ : ∃ S,S=strU (Lib.itoa p.hand):=⟨_,rfl⟩
      obtain ⟨S3,hS3⟩ : ∃ S,S=strU (letT R.pieces p.promote):=⟨_,rfl⟩
      have z1' : S1.size≤8:=by rw [hS1,strU_size]; simp
      have z2' : S2.size≤8:=by rw [hS2,strU_size]; exact itoa_len8 (pok_hand HPO.out).1 (pok_hand HPO.out).2
      have z3' : S3.size≤8:=by rw [hS3,strU_size,letT_len]; decide
      have HL1:=Lib.hid (fun W (x : Ext w3 W) => letter_at R _ k p W (HRR.out W (ext_trans X3.out x)) HLT.out HV.out.pieces6 HPK.out S1 hS1)
      have HI2:=Lib.hid (fun W (x : Ext w3 W) => itoa_of p.hand (pok_hand HPO.out) W (HLW.out W (ext_trans X3.out x)) S2 hS2)
      have HL3:=Lib.hid (fun W (x : Ext w3 W) => letter_of R _ p.promote W (HRR.out W (ext_trans X3.out x)) HLT.out HV.out.pieces6 (pok_prom HPO.out) S3 hS3)
      have wk1:=wrap_one (k:=k) (Nat.le_trans hk6 (by decide))
      have lHE0 : (⟨#[112,105,101,99,101,32]⟩ : ByteArray).size=6:=rfl
      have lHE1 : (⟨#[32]⟩ : ByteArray).size=1:=rfl
      have lHE2 : (⟨#[32]⟩ : ByteArray).size=1:=rfl
      have pHE1 : ¬ (9223372036854775807 < 6 + S1.size):=szok (Nat.add_le_add (Nat.le_refl 6) z1') (by decide)
      have pHE2 : ¬ (9223372036854775807 < 6 + S1.size + 1):=szok (Nat.add_le_add (Nat.add_le_add (Nat.le_refl 6) z1') (Nat.le_refl 1)) (by decide)
      have qHE2 : ¬ (9223372036854775807 < 6 + (S1.size + 1)):=szok (Nat.add_le_add (Nat.le_refl 6) (Nat.add_le_add z1' (Nat.le_refl 1))) (by decide)
      have pHE3 : ¬ (9223372036854775807 < 6 + S1.size + 1 + S2.size):=szok (Nat.add_le_add (Nat.add_le_add (Nat.add_le_add (Nat.le_refl 6) z1') (Nat.le_refl 1)) z2') (by decide)
      have qHE3 : ¬ (9223372036854775807 < 6 + (S1.size + (1 + S2.size))):=szok (Nat.add_le_add (Nat.le_refl 6) (Nat.add_le_add z1' (Nat.add_le_add (Nat.le_refl 1) z2'))) (by decide)
      have pHE4 : ¬ (9223372036854775807 < 6 + S1.size + 1 + S2.size + 1):=szok (Nat.add_le_add (Nat.add_le_add (Nat.add_le_add (Nat.add_le_add (Nat.le_refl 6) z1') (Nat.le_refl 1)) z2') (Nat.le_refl 1)) (by decide)
      have qHE4 : ¬ (9223372036854775807 < 6 + (S1.size + (1 + (S2.size + 1)))):=szok (Nat.add_le_add (Nat.le_refl 6) (Nat.add_le_add z1' (Nat.add_le_add (Nat.le_refl 1) (Nat.add_le_add z2' (Nat.le_refl 1))))) (by decide)
      have pHE5 : ¬ (9223372036854775807 < 6 + S1.size + 1 + S2.size + 1 + S3.size):=szok (Nat.add_le_add (Nat.add_le_add (Nat.add_le_add (Nat.add_le_add (Nat.add_le_add (Nat.le_refl 6) z1') (Nat.le_refl 1)) z2') (Nat.le_refl 1)) z3') (by decide)
      have qHE5 : ¬ (9223372036854775807 < 6 + (S1.size + (1 + (S2.size + (1 + S3.size))))):=szok (Nat.add_le_add (Nat.le_refl 6) (Nat.add_le_add z1' (Nat.add_le_add (Nat.le_refl 1) (Nat.add_le_add z2' (Nat.add_le_add (Nat.le_refl 1) z3'))))) (by decide)
      have HE:=Lib.hid (show (⟨#[112,105,101,99,101,32]⟩ : ByteArray) ++ S1 ++ (⟨#[32]⟩ : ByteArray) ++ S2 ++ (⟨#[32]⟩ : ByteArray) ++ S3=strU (lineT (pieceWs R.pieces p)) from by
       show strU [112,105,101,99,101,32] ++ S1 ++ strU [32] ++ S2 ++ strU [32] ++ S3=_
       rw [hS1,hS2,hS3,pieceT R.pieces p]
       rw [strU_app,strU_app,strU_app,strU_app,strU_app])
      clear hS1 hS2 hS3 hPB HP8 HX8 HO0
      have keepK:=hide (fun W (h : (Ext w3 W∧Blk W PB 57 #[.int .u8 p.letter,.int .i64 p.hand,.int .i64 p.promote,.slice wA p.ways.length wc2])) => (show (fun W => W.cell? ⟨B,0,none⟩=some (.string R.name)∧W.cell? ⟨B,1,none⟩=some (.int .i64 R.width)∧W.cell? ⟨B,2,none⟩=some (.int .i64 R.height)∧W.cell? ⟨B,3,none⟩=some (.slice (some ⟨pb,po,none⟩) R.pieces.length pc)∧W.cell? ⟨B,4,none⟩=some (.slice sA R.start.length sc)∧W.cell? ⟨B,5,none⟩=some (.bool R.falls)∧W.cell? ⟨B,6,none⟩=some (.bool R.keeps)∧W.cell? ⟨B,7,none⟩=some (.slice eA R.ends.length ec)∧W.cell? ⟨B,8,none⟩=some (.int .i64 R.blocked)∧W.cell? ⟨B,9,none⟩=some (.int .i64 R.quiet)∧W.cell? ⟨B,10,none⟩=some (.int .i64 R.rept)∧W.cell? ⟨PB,0,none⟩=some (.int .u8 p.letter)∧W.cell? ⟨PB,1,none⟩=some (.int .i64 p.hand)∧W.cell? ⟨PB,2,none⟩=some (.int .i64 p.promote)∧W.cell? ⟨PB,3,none⟩=some (.slice wA p.ways.length wc2)∧(Ext w3 W∧Blk W PB 57 #[.int .u8 p.letter,.int .i64 p.hand,.int .i64 p.promote,.slice wA p.ways.length wc2])) W from ⟨(KB3.out.ext h.1).cell 0,(KB3.out.ext h.1).cell 1,(KB3.out.ext h.1).cell 2,(KB3.out.ext h.1).cell 3,(KB3.out.ext h.1).cell 4,(KB3.out.ext h.1).cell 5,(KB3.out.ext h.1).cell 6,(KB3.out.ext h.1).cell 7,(KB3.out.ext h.1).cell 8,(KB3.out.ext h.1).cell 9,(KB3.out.ext h.1).cell 10,h.2.cell 0,h.2.cell 1,h.2.cell 2,h.2.cell 3,h⟩))
      have yy:=And.intro (ext_trans HO.out.2 z0) (KP8.out.ext z0)
      refine region_K (fun W => W.cell? ⟨B,0,none⟩=some (.string R.name)∧W.cell? ⟨B,1,none⟩=some (.int .i64 R.width)∧W.cell? ⟨B,2,none⟩=some (.int .i64 R.height)∧W.cell? ⟨B,3,none⟩=some (.slice (some ⟨pb,po,none⟩) R.pieces.length pc)∧W.cell? ⟨B,4,none⟩=some (.slice sA R.start.length sc)∧W.cell? ⟨B,5,none⟩=some (.bool R.falls)∧W.cell? ⟨B,6,none⟩=some (.bool R.keeps)∧W.cell? ⟨B,7,none⟩=some (.slice eA R.ends.length ec)∧W.cell? ⟨B,8,none⟩=some (.int .i64 R.blocked)∧W.cell? ⟨B,9,none⟩=some (.int .i64 R.quiet)∧W.cell? ⟨B,10,none⟩=some (.int .i64 R.rept)∧W.cell? ⟨PB,0,none⟩=some (.int .u8 p.letter)∧W.cell? ⟨PB,1,none⟩=some (.int .i64 p.hand)∧W.cell? ⟨PB,2,none⟩=some (.int .i64 p.promote)∧W.cell? ⟨PB,3,none⟩=some (.slice wA p.ways.length wc2)∧(Ext w3 W∧Blk W PB 57 #[.int .u8 p.letter,.int .i64 p.hand,.int .i64 p.promote,.slice wA p.ways.length wc2])) (fun _ => True) [] (by kernel_rfl) ?_
      have hT0:=keepK.out _ yy
      refine anyK_take 0 (oi:=?oo16) ?ho16 (by kernel_rfl) (by kernel_rfl) (by kernel_rfl) (by kernel_rfl) ?hq16 ?hw16 hT0 (fun _ => trivial) (v:=?vv16) ?hy16 ?hk16
      case ho16 => (simp only [List.getElem?_toArray,List.getElem?_cons_succ,List.getElem?_cons_zero]; rfl)
      case hq16 => exact fun _ _ _ h => h
      case hw16 => rfl
      case hy16 =>
       intro W hW
       go_simp
       first | done | with_reducible rfl
      case hk16 =>
      try simp only [Act.put,List.setIfInBounds_toArray,List.set_cons_zero,List.set_cons_succ]
      refine anyK_take 1 (oi:=?oo17) ?ho17 (by kernel_rfl) (by kernel_rfl) (by kernel_rfl) (by kernel_rfl) ?hq17 ?hw17 hT0 (fun _ => trivial) (v:=?vv17) ?hy17 ?hk17
      case ho17 => (simp only [List.getElem?_toArray,List.getElem?_cons_succ,List.getElem?_cons_zero]; rfl)
      case hq17 => exact fun _ _ _ h => h
      case hw17 => rfl
      case hy17 =>
       intro W hW
       obtain ⟨z0,z1,z2,z3,z4,z5,z6,z7,z8,z9,z10,z11,z12,z13,z14,z15⟩:=hW
       go_simp
       first | done | with_reducible rfl
      case hk17 =>
      try simp only [Act.put,List.setIfInBounds_toArray,List.set_cons_zero,List.set_cons_succ]
      refine anyK_take 2 (oi:=?oo18) ?ho18 (by kernel_rfl) (by kernel_rfl) (by kernel_rfl) (by kernel_rfl) ?hq18 ?hw18 hT0 (fun _ => trivial) (v:=?vv18) ?hy18 ?hk18
      case ho18 => (simp only [List.getElem?_toArray,List.getElem?_cons_succ,List.getElem?_cons_zero]; rfl)
      case hq18 => exact fun _ _ _ h => h
      case hw18 => rfl
      case hy18 =>
       intro W hW
       go_simp
       first | done | with_reducible rfl
      case hk18 =>
      try simp only [Act.put,List.setIfInBounds_toArray,List.set_cons_zero,List.set_cons_succ]
      refine anyK_take 3 (oi:=?oo19) ?ho19 (by kernel_rfl) (by kernel_rfl) (by kernel_rfl) (by kernel_rfl) ?hq19 ?hw19 hT0 (fun _ => trivial) (v:=?vv19) ?hy19 ?hk19
      case ho19 => (simp only [List.getElem?_toArray,List.getElem?_cons_succ,List.getElem?_cons_zero]; rfl)
      case hq19 => exact fun _ _ _ h => h
      case hw19 => rfl
      case hy19 =>
       intro W hW
       go_simp
       first | done | with_reducible rfl
      case hk19 =>
      try simp only [Act.put,List.setIfInBounds_toArray,List.set_cons_zero,List.set_cons_succ]
      refine anyK_take 7 (oi:=?oo20) ?ho20 (by kernel_rfl) (by kernel_rfl) (by kernel_rfl) (by kernel_rfl) ?hq20 ?hw20 hT0 (fun _ => trivial) (v:=?vv20) ?hy20 ?hk20
      case ho20 => (simp only [List.getElem?_toArray,List.getElem?_cons_succ,List.getElem?_cons_zero]; rfl)
      case hq20 => exact fun _ _ _ h => h
      case hw20 => rfl
      case hy20 =>
       intro W hW
       go_simp
       first | done | with_reducible rfl
      case hk20 =>
      try simp only [Act.put,List.setIfInBounds_toArray,List.set_cons_zero,List.set_cons_succ]
      refine anyK_take 8 (oi:=?oo21) ?ho21 (by kernel_rfl) (by kernel_rfl) (by kernel_rfl) (by kernel_rfl) ?hq21 ?hw21 hT0 (fun _ => trivial) (v:=?vv21) ?hy21 ?hk21
      case ho21 => (simp only [List.getElem?_toArray,List.getElem?_cons_succ,List.getElem?_cons_zero]; rfl)
      case hq21 => exact fun _ _ _ h => h
      case hw21 => rfl
      case hy21 =>
       intro W hW
       obtain ⟨z0,z1,z2,z3,z4,z5,z6,z7,z8,z9,z10,z11,z12,z13,z14,z15⟩:=hW
       go_simp
       first | done | with_reducible rfl
      case hk21 =>
      try simp only [Act.put,List.setIfInBounds_toArray,List.set_cons_zero,List.set_cons_succ]
      refine anyK_take 12 (oi:=?oo22) ?ho22 (by kernel_rfl) (by kernel_rfl) (by kernel_rfl) (by kernel_rfl) ?hq22 ?hw22 hT0 (fun _ => trivial) (v:=?vv22) ?hy22 ?hk22
      case ho22 => (simp only [List.getElem?_toArray,List.getElem?_cons_succ,List.getElem?_cons_zero]; rfl)
      case hq22 => exact fun _ _ _ h => h
      case hw22 => rfl
      case hy22 =>
       intro W hW
       obtain ⟨z0,z1,z2,z3,z4,z5,z6,z7,z8,z9,z10,z11,z12,z13,z14,z15⟩:=hW
       go_simp
       first | done | with_reducible rfl
      case hk22 =>
      try simp only [Act.put,List.setIfInBounds_toArray,List.set_cons_zero,List.set_cons_succ]
      refine anyK_take 13 (oi:=?oo23) ?ho23 (by kernel_rfl) (by kernel_rfl) (by kernel_rfl) (by kernel_rfl) ?hq23 ?hw23 hT0 (fun _ => trivial) (v:=?vv23) ?hy23 ?hk23
      case ho23 => (simp only [List.getElem?_toArray,List.getElem?_cons_succ,List.getElem?_cons_zero]; rfl)
      case hq23 => exact fun _ _ _ h => h
      case hw23 => rfl
      case hy23 =>
       intro W hW
       go_simp
       first | done | with_reducible rfl
      case hk23 =>
      try simp only [Act.put,List.setIfInBounds_toArray,List.set_cons_zero,List.set_cons_succ]
      refine anyK_take 14 (oi:=?oo24) ?ho24 (by kernel_rfl) (by kernel_rfl) (by kernel_rfl) (by kernel_rfl) ?hq24 ?hw24 hT0 (fun _ => trivial) (v:=?vv24) ?hy24 ?hk24
      case ho24 => (simp only [List.getElem?_toArray,List.getElem?_cons_succ,List.getElem?_cons_zero]; rfl)
      case hq24 => exact fun _ _ _ h => h
      case hw24 => rfl
      case hy24 =>
       intro W hW
       obtain ⟨z0,z1,z2,z3,z4,z5,z6,z7,z8,z9,z10,z11,z12,z13,z14,z15⟩:=hW
       go_simp
       first | done | with_reducible rfl
      case hk24 =>
      try simp only [Act.put,List.setIfInBounds_toArray,List.set_cons_zero,List.set_cons_succ]
      refine anyK_on1 4 (by kernel_rfl) ?_
      refine anyK_one 4 (o:=?oo25) ?ho25 ?hk25
      case ho25 => (simp only [List.getElem?_toArray,List.getElem?_cons_succ,List.getElem?_cons_zero]; rfl)
      case hk25 =>
      intro K hK
      go_simp
      refine (HL1.out _ yy.1).mono ?_
      rintro e wa ⟨rfl,xx⟩
      try go_wp2_with fail
      replace yy:=And.intro (ext_trans yy.1 xx) (yy.2.ext xx)
      have z1:=ext_trans z0 xx
      have hT1:=keepK.out _ yy
      refine hK.out _ _ hT1 (fun _ => trivial) ?_
      clear hK K
      try simp only [Act.put,List.setIfInBounds_toArray,List.set_cons_zero,List.set_cons_succ]
      refine anyK_take 5 (oi:=?oo26) ?ho26 (by kernel_rfl) (by kernel_rfl) (by kernel_rfl) (by kernel_rfl) ?hq26 ?hw26 hT1 (fun _ => trivial) (v:=?vv26) ?hy26 ?hk26
      case ho26 => (simp only [List.getElem?_toArray,List.getElem?_cons_succ,List.getElem?_cons_zero]; rfl)
      case hq26 => exact fun _ _ _ h => h
      case hw26 => rfl
      case hy26 =>
       intro W hW
       go_simp
       first | done | with_reducible rfl
      case hk26 =>
      try simp only [Act.put,List.setIfInBounds_toArray,List.set_cons_zero,List.set_cons_succ]
      refine anyK_take 6 (oi:=?oo27) ?ho27 (by kernel_rfl) (by kernel_rfl) (by kernel_rfl) (by kernel_rfl) ?hq27 ?hw27 hT1 (fun _ => trivial) (v:=?vv27) ?hy27 ?hk27
      case ho27 => (simp only [List.getElem?_toArray,List.getElem?_cons_succ,List.getElem?_cons_zero]; rfl)
      case hq27 => exact fun _ _ _ h => h
      case hw27 => rfl
      case hy27 =>
       intro W hW
       go_simp
       first | done | with_reducible rfl
      case hk27 =>
      try simp only [Act.put,List.setIfInBounds_toArray,List.set_cons_zero,List.set_cons_succ]
      refine anyK_on1 9 (by kernel_rfl) ?_
      refine anyK_one 9 (o:=?oo28) ?ho28 ?hk28
      case ho28 => (simp only [List.getElem?_toArray,List.getElem?_cons_succ,List.getElem?_cons_zero]; rfl)
      case hk28 =>
      intro K hK
      go_simp
      refine (HI2.out _ yy.1).mono ?_
      rintro e wb ⟨rfl,xx⟩
      try go_wp2_with fail
      replace yy:=And.intro (ext_trans yy.1 xx) (yy.2.ext xx)
      have z2:=ext_trans z1 xx
      have hT2:=keepK.out _ yy
      refine hK.out _ _ hT2 (fun _ => trivial) ?_
      clear hK K
      try simp only [Act.put,List.setIfInBounds_toArray,List.set_cons_zero,List.set_cons_succ]
      refine anyK_take 10 (oi:=?oo29) ?ho29 (by kernel_rfl) (by kernel_rfl) (by kernel_rfl) (by kernel_rfl) ?hq29 ?hw29 hT2 (fun _ => trivial) (v:=?vv29) ?hy29 ?hk29
      case ho29 => (simp only [List.getElem?_toArray,List.getElem?_cons_succ,List.getElem?_cons_zero]; rfl)
      case hq29 => exact fun _ _ _ h => h
      case hw29 => rfl
      case hy29 =>
       intro W hW
       go_simp
       first | done | with_reducible rfl
      case hk29 =>
      try simp only [Act.put,List.setIfInBounds_toArray,List.set_cons_zero,List.set_cons_succ]
      refine anyK_take 11 (oi:=?oo30) ?ho30 (by kernel_rfl) (by kernel_rfl) (by kernel_rfl) (by kernel_rfl) ?hq30 ?hw30 hT2 (fun _ => trivial) (v:=?vv30) ?hy30 ?hk30
      case ho30 => (simp only [List.getElem?_toArray,List.getElem?_cons_succ,List.getElem?_cons_zero]; rfl)
      case hq30 => exact fun _ _ _ h => h
      case hw30 => rfl
      case hy30 =>
       intro W hW
       go_simp
       first | done | with_reducible rfl
      case hk30 =>
      try simp only [Act.put,List.setIfInBounds_toArray,List.set_cons_zero,List.set_cons_succ]
      refine anyK_on1 15 (by kernel_rfl) ?_
      refine anyK_one 15 (o:=?oo31) ?ho31 ?hk31
      case ho31 => (simp only [List.getElem?_toArray,List.getElem?_cons_succ,List.getElem?_cons_zero]; rfl)
      case hk31 =>
      intro K hK
      go_simp
      refine (HL3.out _ yy.1).mono ?_
      rintro e wd ⟨rfl,xx⟩
      try go_wp2_with fail
      replace yy:=And.intro (ext_trans yy.1 xx) (yy.2.ext xx)
      have z3:=ext_trans z2 xx
      have hT3:=keepK.out _ yy
      refine hK.out _ _ hT3 (fun _ => trivial) ?_
      clear hK K
      try simp only [Act.put,List.setIfInBounds_toArray,List.set_cons_zero,List.set_cons_succ]
      refine anyK_take 16 (oi:=?oo32) ?ho32 (by kernel_rfl) (by kernel_rfl) (by kernel_rfl) (by kernel_rfl) ?hq32 ?hw32 hT3 (fun _ => trivial) (v:=?vv32) ?hy32 ?hk32
      case ho32 => (simp only [List.getElem?_toArray,List.getElem?_cons_succ,List.getElem?_cons_zero]; rfl)
      case hq32 => exact fun _ _ _ h => h
      case hw32 => rfl
      case hy32 =>
       intro W hW
       go_simp
       first | done | with_reducible rfl
      case hk32 =>
      try simp only [Act.put,List.setIfInBounds_toArray,List.set_cons_zero,List.set_cons_succ]
      refine anyK_on1 17 (by kernel_rfl) ?_
      refine anyK_one 17 (o:=?oo33) ?ho33 ?hk33
      case ho33 => (simp only [List.getElem?_toArray,List.getElem?_cons_succ,List.getElem?_cons_zero]; rfl)
      case hk33 =>
      intro K hK
      go_simp
      rw [HE.out]
      have zk:=yy.2
      replace yy:=And.intro (ext_alloc yy.1 (.cells #[.string (strU (lineT (pieceWs R.pieces p)))] 9)) (yy.2.alloc (.cells #[.string (strU (lineT (pieceWs R.pieces p)))] 9))
      have hT4:=keepK.out _ yy
      refine hK.out _ _ hT4 (fun _ => trivial) ?_
      clear hK K
      try simp only [Act.put,List.setIfInBounds_toArray,List.set_cons_zero,List.set_cons_succ]
      refine anyK_on1 18 (by kernel_rfl) ?_
      refine anyK_one 18 (o:=?oo34) ?ho34 ?hk34
      case ho34 => (simp only [List.getElem?_toArray,List.getElem?_cons_succ,List.getElem?_cons_zero]; rfl)
      case hk34 =>
      intro K hK
      refine oper_append_r (.tmp 42) (.tmp 59) 54 rfl 9 1 16 (.string ⟨#[]⟩) Tryz.underlying54 strInfoJ rfl (by decide) (by decide) w3 wd (.slice oA oL.length oc) oL.length (strsC oL) [.string (strU (lineT (pieceWs R.pieces p)))] rfl (HO.out.1.ext z3) rfl rfl (by simp [Value.oneCell']) (ext_trans HO.out.2 z3) (by have:=HOL.out; omega) ?_
      intro v9 w9 own9 x9 g9
      have HO9:=Lib.hid (show PrSt w3 (oL ++ [(lineT (pieceWs R.pieces p))]) v9 w9 from ⟨by rw [strsC_snoc,List.length_append]; exact own9,x9⟩)
      replace yy:=And.intro x9 (zk.grown g9 (OwnR.blk_ne (HO.out.1.ext z3) zk (by decide)))
      clear own9 x9 g9 zk
      have hT5:=keepK.out _ yy
      refine hK.out _ _ hT5 (fun _ => trivial) ?_
      clear hK K
      try simp only [Act.put,List.setIfInBounds_toArray,List.set_cons_zero,List.set_cons_succ]
      refine anyK_take 19 (oi:=?oo35) ?ho35 (by kernel_rfl) (by kernel_rfl) (by kernel_rfl) (by kernel_rfl) ?hq35 ?hw35 hT5 (fun _ => trivial) (v:=?vv35) ?hy35 ?hk35
      case ho35 => (simp only [List.getElem?_toArray,List.getElem?_cons_succ,List.getElem?_cons_zero]; rfl)
      case hq35 => exact fun _ _ _ h => h
      case hw35 => rfl
      case hy35 =>
       intro W hW
       go_simp
       first | done | with_reducible rfl
      case hk35 =>
      try simp only [Act.put,List.setIfInBounds_toArray,List.set_cons_zero,List.set_cons_succ]
      refine anyK_done (by kernel_rfl) ?_ _
      clear keepK hT0 hT1 hT2 hT3 hT4 hT5
      have HP9:=Lib.hid yy.2
      obtain ⟨oA2,oc2,rfl⟩:=HO9.out.shape
      obtain ⟨M,hM⟩ : ∃ M,M=oL ++ [lineT (pieceWs R.pieces p)]:=⟨_,rfl⟩
      rw [← hM] at HO9 HSN ⊢
      obtain ⟨m,hm⟩ : ∃ m,m=p.ways.length:=⟨_,rfl⟩
      have c3 : w9.cell? ⟨PB,3,none⟩=some (.slice wA m wc2):=by rw [hm]; exact HP9.out.cell 3
      have HMM:=Lib.hid hm
      have HML:=Lib.hid (show M.length≤201∧m≤16 from by
       have h1:=HOL.out
       have h2:=HPO.out.many
       rw [hM,hm,List.length_append,List.length_singleton]
       omega)
      have HOM:=Lib.hid HO9.out
      clear yy z0 z1 z2 z3 hM hm HO HO9 HE HL1 HI2 HL3 z1' z2' z3' wk1 lHE0 lHE1 lHE2 pHE1 pHE2 qHE2 pHE3 qHE3 pHE4 qHE4 pHE5 qHE5
      go_wp2_with fail
      go_loopw [5,64] (fun sv jv wr => ∃ j : Nat,j≤m∧jv=.int .i64 (j : Int)∧PrSt w3 (M ++ (p.ways.take j).map (fun y => lineT (wayWs y))) sv wr) (fun sv jv wr => m - (RowKit.intOf jv).toNat)
      case atStart => exact ⟨0,Nat.zero_le _,rfl,by simpa using HOM.out⟩
      case round =>
       obtain ⟨j,hj,rfl,hO⟩:=hrel
       clear c3 HOM HP9 KP8 X8
       by_cases hjm : j < m
       ·obtain ⟨y,hyk⟩ : ∃ y,p.ways[j]? = some y:=⟨_,List.getElem?_eq_getElem (by rw [← HMM.out]; exact hjm)⟩
        have HYO:=Lib.hid (wok (HPO.out.ways y (List.mem_of_getElem? hyk)))
        obtain ⟨yb,yo,rfl,y0,y1,y2,y3⟩:=WaysAt.get (w:=wr) (A:=wA) (ws:=p.ways) (CellsAt.ext HWY.out (ext_trans X3.out hO.2)) hyk
        have HYS:=Lib.hid (show M ++ (p.ways.take (j + 1)).map (fun y => lineT (wayWs y))=(M ++ (p.ways.take j).map (fun y => lineT (wayWs y))) ++ [lineT (wayWs y)] from by
         rw [List.take_add_one,hyk]
         simp)
        obtain ⟨oL,hoL⟩ : ∃ L,L=M ++ (p.ways.take j).map (fun y => lineT (wayWs y)):=⟨_,rfl⟩
        rw [← hoL] at hO HYS
        have HOL:=Lib.hid (show oL.length≤300 from by
         have h:=HML.out
         rw [hoL,List.length_append,List.length_map,List.length_take]
         omega)
        obtain ⟨oA,oc,rfl⟩:=hO.shape
        have HO0:=Lib.hid hO
        have HJM:=Lib.hid hjm
        have t0 : decide ((j : Int) < (m : Int))=true:=decide_eq_true (by omega)
        have t0n : decide (j < m)=true:=decide_eq_true hjm
        have jI : (j : Int) < (m : Int):=by omega
        have j16 : j≤16:=by have:=HML.out; omega
        clear hO hj hoL hyk hjm
        rcases HYO.out.2 with htk | htk | htk
        all_goals have HTK:=Lib.hid htk
        all_goals clear htk
        all_goals have HYB:=HYO
        ·have htk:=HTK.out
         obtain ⟨x8,kp8⟩:=blks1 wr #[.int .i64 y.dx,.int .i64 y.dy,.int .i64 y.most,.int .i64 0] 60
         have HX8:=Lib.hid x8
         have HP8:=Lib.hid kp8
         clear x8 kp8
         rw [htk] at y3
         go_upto_region 12 with fail
         clear y0 y1 y2 y3
         generalize wr.alloc _=w12 at *
         obtain ⟨WB,hWB⟩ : ∃ WB,WB=wr.heap.size:=⟨_,rfl⟩
         rw [← hWB] at HP8 ⊢
         have KW:=Lib.hid HP8.out
         have HO:=Lib.hid (HO0.out.ext HX8.out)
         have z0 : Ext w12 w12.drew:=Below.drew (Below.refl _ _)
         obtain ⟨S1,hS1⟩ : ∃ S,S=strU (Lib.itoa y.dx):=⟨_,rfl⟩
         obtain ⟨S2,hS2⟩ : ∃ S,S=strU (Lib.itoa y.dy):=⟨_,rfl⟩
         obtain ⟨S3,hS3⟩ : ∃ S,S=strU (Lib.itoa y.most):=⟨_,rfl⟩
         have z1' : S1.size≤8:=by rw [hS1,strU_size]; exact itoa_len8 HYO.out.1.1.1 HYO.out.1.1.2
         have z2' : S2.size≤8:=by rw [hS2,strU_size]; exact itoa_len8 HYO.out.1.2.1.1 HYO.out.1.2.1.2
         have z3' : S3.size≤8:=by rw [hS3,strU_size]; exact itoa_len8 HYO.out.1.2.2.1 HYO.out.1.2.2.2
         have z4' : (strU wNever).size≤8:=by rw [strU_size]; decide
         have HI1:=Lib.hid (fun W (x : Ext w3 W) => itoa_of y.dx HYO.out.1.1 W (HLW.out W (ext_trans X3.out x)) S1 hS1)
         have HI2:=Lib.hid (fun W (x : Ext w3 W) => itoa_of y.dy HYO.out.1.2.1 W (HLW.out W (ext_trans X3.out x)) S2 hS2)
         have HI3:=Lib.hid (fun W (x : Ext w3 W) => itoa_of y.most HYO.out.1.2.2 W (HLW.out W (ext_trans X3.out x)) S3 hS3)
         have ix : ∀ W,(Instr.index 61 (.agg #[.string (strU wNever),.string (strU wMay),.string (strU wMust)]) (.int .i64 0)).run Tryz.prog W=.ok (.string (strU wNever)) W:=fun _ => by kernel_rfl
         have lHE0 : (⟨#[119,97,121,32]⟩ : ByteArray).size=4:=rfl
         have lHE1 : (⟨#[32]⟩ : ByteArray).size=1:=rfl
         have lHE2 : (⟨#[32]⟩ : ByteArray).size=1:=rfl
         have lHE3 : (⟨#[32]⟩ : ByteArray).size=1:=rfl
         have pHE1 : ¬ (9223372036854775807 < 4 + S1.size):=szok (Nat.add_le_add (Nat.le_refl 4) z1') (by decide)
         have pHE2 : ¬ (9223372036854775807 < 4 + S1.size + 1):=szok (Nat.add_le_add (Nat.add_le_add (Nat.le_refl 4) z1') (Nat.le_refl 1)) (by decide)
         have qHE2 : ¬ (9223372036854775807 < 4 + (S1.size + 1)):=szok (Nat.add_le_add (Nat.le_refl 4) (Nat.add_le_add z1' (Nat.le_refl 1))) (by decide)
         have pHE3 : ¬ (9223372036854775807 < 4 + S1.size + 1 + S2.size):=szok (Nat.add_le_add (Nat.add_le_add (Nat.add_le_add (Nat.le_refl 4) z1') (Nat.le_refl 1)) z2') (by decide)
         have qHE3 : ¬ (9223372036854775807 < 4 + (S1.size + (1 + S2.size))):=szok (Nat.add_le_add (Nat.le_refl 4) (Nat.add_le_add z1' (Nat.add_le_add (Nat.le_refl 1) z2'))) (by decide)
         have pHE4 : ¬ (9223372036854775807 < 4 + S1.size + 1 + S2.size + 1):=szok (Nat.add_le_add (Nat.add_le_add (Nat.add_le_add (Nat.add_le_add (Nat.le_refl 4) z1') (Nat.le_refl 1)) z2') (Nat.le_refl 1)) (by decide)
         have qHE4 : ¬ (9223372036854775807 < 4 + (S1.size + (1 + (S2.size + 1)))):=szok (Nat.add_le_add (Nat.le_refl 4) (Nat.add_le_add z1' (Nat.add_le_add (Nat.le_refl 1) (Nat.add_le_add z2' (Nat.le_refl 1))))) (by decide)
         have pHE5 : ¬ (9223372036854775807 < 4 + S1.size + 1 + S2.size + 1 + S3.size):=szok (Nat.add_le_add (Nat.add_le_add (Nat.add_le_add (Nat.add_le_add (Nat.add_le_add (Nat.le_refl 4) z1') (Nat.le_refl 1)) z2') (Nat.le_refl 1)) z3') (by decide)
         have qHE5 : ¬ (9223372036854775807 < 4 + (S1.size + (1 + (S2.size + (1 + S3.size))))):=szok (Nat.add_le_add (Nat.le_refl 4) (Nat.add_le_add z1' (Nat.add_le_add (Nat.le_refl 1) (Nat.add_le_add z2' (Nat.add_le_add (Nat.le_refl 1) z3'))))) (by decide)
         have pHE6 : ¬ (9223372036854775807 < 4 + S1.size + 1 + S2.size + 1 + S3.size + 1):=szok (Nat.add_le_add (Nat.add_le_add (Nat.add_le_add (Nat.add_le_add (Nat.add_le_add (Nat.add_le_add (Nat.le_refl 4) z1') (Nat.le_refl 1)) z2') (Nat.le_refl 1)) z3') (Nat.le_refl 1)) (by decide)
         have qHE6 : ¬ (9223372036854775807 < 4 + (S1.size + (1 + (S2.size + (1 + (S3.size + 1)))))):=szok (Nat.add_le_add (Nat.le_refl 4) (Nat.add_le_add z1' (Nat.add_le_add (Nat.le_refl 1) (Nat.add_le_add z2' (Nat.add_le_add (Nat.le_refl 1) (Nat.add_le_add z3' (Nat.le_refl 1))))))) (by decide)
         have pHE7 : ¬ (9223372036854775807 < 4 + S1.size + 1 + S2.size + 1 + S3.size + 1 + (strU wNever).size):=szok (Nat.add_le_add (Nat.add_le_add (Nat.add_le_add (Nat.add_le_add (Nat.add_le_add (Nat.add_le_add (Nat.add_le_add (Nat.le_refl 4) z1') (Nat.le_refl 1)) z2') (Nat.le_refl 1)) z3') (Nat.le_refl 1)) z4') (by decide)
         have qHE7 : ¬ (9223372036854775807 < 4 + (S1.size + (1 + (S2.size + (1 + (S3.size + (1 + ((strU wNever).size)))))))):=szok (Nat.add_le_add (Nat.le_refl 4) (Nat.add_le_add z1' (Nat.add_le_add (Nat.le_refl 1) (Nat.add_le_add z2' (Nat.add_le_add (Nat.le_refl 1) (Nat.add_le_add z3' (Nat.add_le_add (Nat.le_refl 1) z4'))))))) (by decide)
         have HE:=Lib.hid (show (⟨#[119,97,121,32]⟩ : ByteArray) ++ S1 ++ (⟨#[32]⟩ : ByteArray) ++ S2 ++ (⟨#[32]⟩ : ByteArray) ++ S3 ++ (⟨#[32]⟩ : ByteArray) ++ (strU wNever)=strU (lineT (wayWs y)) from by
          show strU [119,97,121,32] ++ S1 ++ strU [32] ++ S2 ++ strU [32] ++ S3 ++ strU [32] ++ (strU wNever)=_
          rw [hS1,hS2,hS3,wayT0 y htk]
          rw [strU_app,strU_app,strU_app,strU_app,strU_app,strU_app,strU_app])
         clear hS1 hS2 hS3 hWB HP8 HX8 HO0 htk
         have keepK:=hide (fun W (h : (Ext w3 W∧Blk W WB 60 #[.int .i64 y.dx,.int .i64 y.dy,.int .i64 y.most,.int .i64 0])) => (show (fun W => W.cell? ⟨WB,0,none⟩=some (.int .i64 y.dx)∧W.cell? ⟨WB,1,none⟩=some (.int .i64 y.dy)∧W.cell? ⟨WB,2,none⟩=some (.int .i64 y.most)∧W.cell? ⟨WB,3,none⟩=some (.int .i64 0)∧(Ext w3 W∧Blk W WB 60 #[.int .i64 y.dx,.int .i64 y.dy,.int .i64 y.most,.int .i64 0])) W from ⟨h.2.cell 0,h.2.cell 1,h.2.cell 2,h.2.cell 3,h⟩))
         have yy:=And.intro (ext_trans HO.out.2 z0) (KW.out.ext z0)
         refine region_K (fun W => W.cell? ⟨WB,0,none⟩=some (.int .i64 y.dx)∧W.cell? ⟨WB,1,none⟩=some (.int .i64 y.dy)∧W.cell? ⟨WB,2,none⟩=some (.int .i64 y.most)∧W.cell? ⟨WB,3,none⟩=some (.int .i64 0)∧(Ext w3 W∧Blk W WB 60 #[.int .i64 y.dx,.int .i64 y.dy,.int .i64 y.most,.int .i64 0])) (fun _ => True) [] (by kernel_rfl) ?_
         have hT0:=keepK.out _ yy
         refine anyK_take 0 (oi:=?oo36) ?ho36 (by kernel_rfl) (by kernel_rfl) (by kernel_rfl) (by kernel_rfl) ?hq36 ?hw36 hT0 (fun _ => trivial) (v:=?vv36) ?hy36 ?hk36
         case ho36 => (simp only [List.getElem?_toArray,List.getElem?_cons_succ,List.getElem?_cons_zero]; rfl)
         case hq36 => exact fun _ _ _ h => h
         case hw36 => rfl
         case hy36 =>
          intro W hW
          go_simp
          first | done | with_reducible rfl
         case hk36 =>
         try simp only [Act.put,List.setIfInBounds_toArray,List.set_cons_zero,List.set_cons_succ]
         refine anyK_take 1 (oi:=?oo37) ?ho37 (by kernel_rfl) (by kernel_rfl) (by kernel_rfl) (by kernel_rfl) ?hq37 ?hw37 hT0 (fun _ => trivial) (v:=?vv37) ?hy37 ?hk37
         case ho37 => (simp only [List.getElem?_toArray,List.getElem?_cons_succ,List.getElem?_cons_zero]; rfl)
         case hq37 => exact fun _ _ _ h => h
         case hw37 => rfl
         case hy37 =>
          intro W hW
          go_simp
          first | done | with_reducible rfl
         case hk37 =>
         try simp only [Act.put,List.setIfInBounds_toArray,List.set_cons_zero,List.set_cons_succ]
         refine anyK_take 2 (oi:=?oo38) ?ho38 (by kernel_rfl) (by kernel_rfl) (by kernel_rfl) (by kernel_rfl) ?hq38 ?hw38 hT0 (fun _ => trivial) (v:=?vv38) ?hy38 ?hk38
         case ho38 => (simp only [List.getElem?_toArray,List.getElem?_cons_succ,List.getElem?_cons_zero]; rfl)
         case hq38 => exact fun _ _ _ h => h
         case hw38 => rfl
         case hy38 =>
          intro W hW
          obtain ⟨z0,z1,z2,z3,z4⟩:=hW
          go_simp
          first | done | with_reducible rfl
         case hk38 =>
         try simp only [Act.put,List.setIfInBounds_toArray,List.set_cons_zero,List.set_cons_succ]
         refine anyK_take 6 (oi:=?oo39) ?ho39 (by kernel_rfl) (by kernel_rfl) (by kernel_rfl) (by kernel_rfl) ?hq39 ?hw39 hT0 (fun _ => trivial) (v:=?vv39) ?hy39 ?hk39
         case ho39 => (simp only [List.getElem?_toArray,List.getElem?_cons_succ,List.getElem?_cons_zero]; rfl)
         case hq39 => exact fun _ _ _ h => h
         case hw39 => rfl
         case hy39 =>
          intro W hW
          go_simp
          first | done | with_reducible rfl
         case hk39 =>
         try simp only [Act.put,List.setIfInBounds_toArray,List.set_cons_zero,List.set_cons_succ]
         refine anyK_take 7 (oi:=?oo40) ?ho40 (by kernel_rfl) (by kernel_rfl) (by kernel_rfl) (by kernel_rfl) ?hq40 ?hw40 hT0 (fun _ => trivial) (v:=?vv40) ?hy40 ?hk40
         case ho40 => (simp only [List.getElem?_toArray,List.getElem?_cons_succ,List.getElem?_cons_zero]; rfl)
         case hq40 => exact fun _ _ _ h => h
         case hw40 => rfl
         case hy40 =>
          intro W hW
          obtain ⟨z0,z1,z2,z3,z4⟩:=hW
          go_simp
          first | done | with_reducible rfl
         case hk40 =>
         try simp only [Act.put,List.setIfInBounds_toArray,List.set_cons_zero,List.set_cons_succ]
         refine anyK_take 11 (oi:=?oo41) ?ho41 (by kernel_rfl) (by kernel_rfl) (by kernel_rfl) (by kernel_rfl) ?hq41 ?hw41 hT0 (fun _ => trivial) (v:=?vv41) ?hy41 ?hk41
         case ho41 => (simp only [List.getElem?_toArray,List.getElem?_cons_succ,List.getElem?_cons_zero]; rfl)
         case hq41 => exact fun _ _ _ h => h
         case hw41 => rfl
         case hy41 =>
          intro W hW
          go_simp
          first | done | with_reducible rfl
         case hk41 =>
         try simp only [Act.put,List.setIfInBounds_toArray,List.set_cons_zero,List.set_cons_succ]
         refine anyK_take 12 (oi:=?oo42) ?ho42 (by kernel_rfl) (by kernel_rfl) (by kernel_rfl) (by kernel_rfl) ?hq42 ?hw42 hT0 (fun _ => trivial) (v:=?vv42) ?hy42 ?hk42
         case ho42 => (simp only [List.getElem?_toArray,List.getElem?_cons_succ,List.getElem?_cons_zero]; rfl)
         case hq42 => exact fun _ _ _ h => h
         case hw42 => rfl
         case hy42 =>
          intro W hW
          obtain ⟨z0,z1,z2,z3,z4⟩:=hW
          go_simp
          first | done | with_reducible rfl
         case hk42 =>
         try simp only [Act.put,List.setIfInBounds_toArray,List.set_cons_zero,List.set_cons_succ]
         refine anyK_take 17 (oi:=?oo43) ?ho43 (by kernel_rfl) (by kernel_rfl) (by kernel_rfl) (by kernel_rfl) ?hq43 ?hw43 hT0 (fun _ => trivial) (v:=?vv43) ?hy43 ?hk43
         case ho43 => (simp only [List.getElem?_toArray,List.getElem?_cons_succ,List.getElem?_cons_zero]; rfl)
         case hq43 => exact fun _ _ _ h => h
         case hw43 => rfl
         case hy43 =>
          intro W hW
          go_simp
          first | done | with_reducible rfl
         case hk43 =>
         try simp only [Act.put,List.setIfInBounds_toArray,List.set_cons_zero,List.set_cons_succ]
         refine anyK_take 18 (oi:=?oo44) ?ho44 (by kernel_rfl) (by kernel_rfl) (by kernel_rfl) (by kernel_rfl) ?hq44 ?hw44 hT0 (fun _ => trivial) (v:=?vv44) ?hy44 ?hk44
         case ho44 => (simp only [List.getElem?_toArray,List.getElem?_cons_succ,List.getElem?_cons_zero]; rfl)
         case hq44 => exact fun _ _ _ h => h
         case hw44 => rfl
         case hy44 =>
          intro W hW
          obtain ⟨z0,z1,z2,z3,z4⟩:=hW
          go_simp
          first | done | with_reducible rfl
         case hk44 =>
         try simp only [Act.put,List.setIfInBounds_toArray,List.set_cons_zero,List.set_cons_succ]
         refine anyK_on1 3 (by kernel_rfl) ?_
         refine anyK_one 3 (o:=?oo45) ?ho45 ?hk45
         case ho45 => (simp only [List.getElem?_toArray,List.getElem?_cons_succ,List.getElem?_cons_zero]; rfl)
         case hk45 =>
         intro K hK
         go_simp
         refine (HI1.out _ yy.1).mono ?_
         rintro e wa ⟨rfl,xx⟩
         try go_wp2_with fail
         replace yy:=And.intro (ext_trans yy.1 xx) (yy.2.ext xx)
         have z1:=ext_trans z0 xx
         have hT1:=keepK.out _ yy
         refine hK.out _ _ hT1 (fun _ => trivial) ?_
         clear hK K
         try simp only [Act.put,List.setIfInBounds_toArray,List.set_cons_zero,List.set_cons_succ]
         refine anyK_take 4 (oi:=?oo46) ?ho46 (by kernel_rfl) (by kernel_rfl) (by kernel_rfl) (by kernel_rfl) ?hq46 ?hw46 hT1 (fun _ => trivial) (v:=?vv46) ?hy46 ?hk46
         case ho46 => (simp only [List.getElem?_toArray,List.getElem?_cons_succ,List.getElem?_cons_zero]; rfl)
         case hq46 => exact fun _ _ _ h => h
         case hw46 => rfl
         case hy46 =>
          intro W hW
          go_simp
          first | done | with_reducible rfl
         case hk46 =>
         try simp only [Act.put,List.setIfInBounds_toArray,List.set_cons_zero,List.set_cons_succ]
         refine anyK_take 5 (oi:=?oo47) ?ho47 (by kernel_rfl) (by kernel_rfl) (by kernel_rfl) (by kernel_rfl) ?hq47 ?hw47 hT1 (fun _ => trivial) (v:=?vv47) ?hy47 ?hk47
         case ho47 => (simp only [List.getElem?_toArray,List.getElem?_cons_succ,List.getElem?_cons_zero]; rfl)
         case hq47 => exact fun _ _ _ h => h
         case hw47 => rfl
         case hy47 =>
          intro W hW
          go_simp
          first | done | with_reducible rfl
         case hk47 =>
         try simp only [Act.put,List.setIfInBounds_toArray,List.set_cons_zero,List.set_cons_succ]
         refine anyK_on1 8 (by kernel_rfl) ?_
         refine anyK_one 8 (o:=?oo48) ?ho48 ?hk48
         case ho48 => (simp only [List.getElem?_toArray,List.getElem?_cons_succ,List.getElem?_cons_zero]; rfl)
         case hk48 =>
         intro K hK
         go_simp
         refine (HI2.out _ yy.1).mono ?_
         rintro e wb ⟨rfl,xx⟩
         try go_wp2_with fail
         replace yy:=And.intro (ext_trans yy.1 xx) (yy.2.ext xx)
         have z2:=ext_trans z1 xx
         have hT2:=keepK.out _ yy
         refine hK.out _ _ hT2 (fun _ => trivial) ?_
         clear hK K
         try simp only [Act.put,List.setIfInBounds_toArray,List.set_cons_zero,List.set_cons_succ]
         refine anyK_take 9 (oi:=?oo49) ?ho49 (by kernel_rfl) (by kernel_rfl) (by kernel_rfl) (by kernel_rfl) ?hq49 ?hw49 hT2 (fun _ => trivial) (v:=?vv49) ?hy49 ?hk49
         case ho49 => (simp only [List.getElem?_toArray,List.getElem?_cons_succ,List.getElem?_cons_zero]; rfl)
         case hq49 => exact fun _ _ _ h => h
         case hw49 => rfl
         case hy49 =>
          intro W hW
          go_simp
          first | done | with_reducible rfl
         case hk49 =>
         try simp only [Act.put,List.setIfInBounds_toArray,List.set_cons_zero,List.set_cons_succ]
         refine anyK_take 10 (oi:=?oo50) ?ho50 (by kernel_rfl) (by kernel_rfl) (by kernel_rfl) (by kernel_rfl) ?hq50 ?hw50 hT2 (fun _ => trivial) (v:=?vv50) ?hy50 ?hk50
         case ho50 => (simp only [List.getElem?_toArray,List.getElem?_cons_succ,List.getElem?_cons_zero]; rfl)
         case hq50 => exact fun _ _ _ h => h
         case hw50 => rfl
         case hy50 =>
          intro W hW
          go_simp
          first | done | with_reducible rfl
         case hk50 =>
         try simp only [Act.put,List.setIfInBounds_toArray,List.set_cons_zero,List.set_cons_succ]
         refine anyK_on1 13 (by kernel_rfl) ?_
         refine anyK_one 13 (o:=?oo51) ?ho51 ?hk51
         case ho51 => (simp only [List.getElem?_toArray,List.getElem?_cons_succ,List.getElem?_cons_zero]; rfl)
         case hk51 =>
         intro K hK
         go_simp
         refine (HI3.out _ yy.1).mono ?_
         rintro e wd ⟨rfl,xx⟩
         try go_wp2_with fail
         replace yy:=And.intro (ext_trans yy.1 xx) (yy.2.ext xx)
         have z3:=ext_trans z2 xx
         have hT3:=keepK.out _ yy
         refine hK.out _ _ hT3 (fun _ => trivial) ?_
         clear hK K
         try simp only [Act.put,List.setIfInBounds_toArray,List.set_cons_zero,List.set_cons_succ]
         refine anyK_take 14 (oi:=?oo52) ?ho52 (by kernel_rfl) (by kernel_rfl) (by kernel_rfl) (by kernel_rfl) ?hq52 ?hw52 hT3 (fun _ => trivial) (v:=?vv52) ?hy52 ?hk52
         case ho52 => (simp only [List.getElem?_toArray,List.getElem?_cons_succ,List.getElem?_cons_zero]; rfl)
         case hq52 => exact fun _ _ _ h => h
         case hw52 => rfl
         case hy52 =>
          intro W hW
          go_simp
          first | done | with_reducible rfl
         case hk52 =>
         try simp only [Act.put,List.setIfInBounds_toArray,List.set_cons_zero,List.set_cons_succ]
         refine anyK_take 15 (oi:=?oo53) ?ho53 (by kernel_rfl) (by kernel_rfl) (by kernel_rfl) (by kernel_rfl) ?hq53 ?hw53 hT3 (fun _ => trivial) (v:=?vv53) ?hy53 ?hk53
         case ho53 => (simp only [List.getElem?_toArray,List.getElem?_cons_succ,List.getElem?_cons_zero]; rfl)
         case hq53 => exact fun _ _ _ h => h
         case hw53 => rfl
         case hy53 =>
          intro W hW
          go_simp
          first | done | with_reducible rfl
         case hk53 =>
         try simp only [Act.put,List.setIfInBounds_toArray,List.set_cons_zero,List.set_cons_succ]
         refine anyK_on1 16 (by kernel_rfl) ?_
         refine anyK_one 16 (o:=?oo54) ?ho54 ?hk54
         case ho54 => (simp only [List.getElem?_toArray,List.getElem?_cons_succ,List.getElem?_cons_zero]; rfl)
         case hk54 =>
         intro K hK
         go_simp
         refine (rtakes_any _).mono ?_
         rintro e we ⟨rfl,xx⟩
         try go_wp2_with fail
         replace yy:=And.intro (ext_trans yy.1 xx) (yy.2.ext xx)
         have z4:=ext_trans z3 xx
         have hT4:=keepK.out _ yy
         refine hK.out _ _ hT4 (fun _ => trivial) ?_
         clear hK K
         try simp only [Act.put,List.setIfInBounds_toArray,List.set_cons_zero,List.set_cons_succ]
         refine anyK_take 19 (oi:=?oo55) ?ho55 (by kernel_rfl) (by kernel_rfl) (by kernel_rfl) (by kernel_rfl) ?hq55 ?hw55 hT4 (fun _ => trivial) (v:=?vv55) ?hy55 ?hk55
         case ho55 => (simp only [List.getElem?_toArray,List.getElem?_cons_succ,List.getElem?_cons_zero]; rfl)
         case hq55 => exact fun _ _ _ h => h
         case hw55 => rfl
         case hy55 =>
          intro W hW
          go_simp
          first | done | with_reducible rfl
         case hk55 =>
         try simp only [Act.put,List.setIfInBounds_toArray,List.set_cons_zero,List.set_cons_succ]
         refine anyK_take 20 (oi:=?oo56) ?ho56 (by kernel_rfl) (by kernel_rfl) (by kernel_rfl) (by kernel_rfl) ?hq56 ?hw56 hT4 (fun _ => trivial) (v:=?vv56) ?hy56 ?hk56
         case ho56 => (simp only [List.getElem?_toArray,List.getElem?_cons_succ,List.getElem?_cons_zero]; rfl)
         case hq56 => exact fun _ _ _ h => h
         case hw56 => rfl
         case hy56 =>
          intro W hW
          go_simp
          first | done | with_reducible rfl
         case hk56 =>
         try simp only [Act.put,List.setIfInBounds_toArray,List.set_cons_zero,List.set_cons_succ]
         refine anyK_on1 21 (by kernel_rfl) ?_
         refine anyK_one 21 (o:=?oo57) ?ho57 ?hk57
         case ho57 => (simp only [List.getElem?_toArray,List.getElem?_cons_succ,List.getElem?_cons_zero]; rfl)
         case hk57 =>
         intro K hK
         go_simp
         rw [HE.out]
         have zk:=yy.2
         replace yy:=And.intro (ext_alloc yy.1 (.cells #[.string (strU (lineT (wayWs y)))] 9)) (yy.2.alloc (.cells #[.string (strU (lineT (wayWs y)))] 9))
         have hT5:=keepK.out _ yy
         refine hK.out _ _ hT5 (fun _ => trivial) ?_
         clear hK K
         try simp only [Act.put,List.setIfInBounds_toArray,List.set_cons_zero,List.set_cons_succ]
         refine anyK_on1 22 (by kernel_rfl) ?_
         refine anyK_one 22 (o:=?oo58) ?ho58 ?hk58
         case ho58 => (simp only [List.getElem?_toArray,List.getElem?_cons_succ,List.getElem?_cons_zero]; rfl)
         case hk58 =>
         intro K hK
         refine oper_append_r (.tmp 68) (.tmp 89) 54 rfl 9 1 16 (.string ⟨#[]⟩) Tryz.underlying54 strInfoJ rfl (by decide) (by decide) w3 we (.slice oA oL.length oc) oL.length (strsC oL) [.string (strU (lineT (wayWs y)))] rfl (HO.out.1.ext z4) rfl rfl (by simp [Value.oneCell']) (ext_trans HO.out.2 z4) (by have:=HOL.out; omega) ?_
         intro v9 w9 own9 x9 g9
         have HO9:=Lib.hid (show PrSt w3 (oL ++ [(lineT (wayWs y))]) v9 w9 from ⟨by rw [strsC_snoc,List.length_append]; exact own9,x9⟩)
         replace yy:=And.intro x9 (zk.grown g9 (OwnR.blk_ne (HO.out.1.ext z4) zk (by decide)))
         clear own9 x9 g9 zk
         have hT6:=keepK.out _ yy
         refine hK.out _ _ hT6 (fun _ => trivial) ?_
         clear hK K
         try simp only [Act.put,List.setIfInBounds_toArray,List.set_cons_zero,List.set_cons_succ]
         refine anyK_take 23 (oi:=?oo59) ?ho59 (by kernel_rfl) (by kernel_rfl) (by kernel_rfl) (by kernel_rfl) ?hq59 ?hw59 hT6 (fun _ => trivial) (v:=?vv59) ?hy59 ?hk59
         case ho59 => (simp only [List.getElem?_toArray,List.getElem?_cons_succ,List.getElem?_cons_zero]; rfl)
         case hq59 => exact fun _ _ _ h => h
         case hw59 => rfl
         case hy59 =>
          intro W hW
          go_simp
          first | done | with_reducible rfl
         case hk59 =>
         try simp only [Act.put,List.setIfInBounds_toArray,List.set_cons_zero,List.set_cons_succ]
         refine anyK_done (by kernel_rfl) ?_ _
         clear keepK hT0 hT1 hT2 hT3 hT4 hT5 hT6
         obtain ⟨oA3,oc3,rfl⟩:=HO9.out.shape
         clear ix yy z0 z1 z2 z3 z4 z1' z2' z3' z4' HE HI1 HI2 HI3 lHE0 lHE1 lHE2 lHE3 pHE1 pHE2 qHE2 pHE3 qHE3 pHE4 qHE4 pHE5 qHE5 pHE6 qHE6 pHE7 qHE7
         go_wp2_with fail
         refine ⟨⟨j + 1,HJM.out,by go_num,by rw [HYS.out]; exact HO9.out⟩,?_⟩
         have:=HJM.out
         simp [RowKit.intOf]
         omega
        ·have htk:=HTK.out
         obtain ⟨x8,kp8⟩:=blks1 wr #[.int .i64 y.dx,.int .i64 y.dy,.int .i64 y.most,.int .i64 1] 60
         have HX8:=Lib.hid x8
         have HP8:=Lib.hid kp8
         clear x8 kp8
         rw [htk] at y3
         go_upto_region 12 with fail
         clear y0 y1 y2 y3
         generalize wr.alloc _=w12 at *
         obtain ⟨WB,hWB⟩ : ∃ WB,WB=wr.heap.size:=⟨_,rfl⟩
         rw [← hWB] at HP8 ⊢
         have KW:=Lib.hid HP8.out
         have HO:=Lib.hid (HO0.out.ext HX8.out)
         have z0 : Ext w12 w12.drew:=Below.drew (Below.refl _ _)
         obtain ⟨S1,hS1⟩ : ∃ S,S=strU (Lib.itoa y.dx):=⟨_,rfl⟩
         obtain ⟨S2,hS2⟩ : ∃ S,S=strU (Lib.itoa y.dy):=⟨_,rfl⟩
         obtain ⟨S3,hS3⟩ : ∃ S,S=strU (Lib.itoa y.most):=⟨_,rfl⟩
         have z1' : S1.size≤8:=by rw [hS1,strU_size]; exact itoa_len8 HYO.out.1.1.1 HYO.out.1.1.2
         have z2' : S2.size≤8:=by rw [hS2,strU_size]; exact itoa_len8 HYO.out.1.2.1.1 HYO.out.1.2.1.2
         have z3' : S3.size≤8:=by rw [hS3,strU_size]; exact itoa_len8 HYO.out.1.2.2.1 HYO.out.1.2.2.2
         have z4' : (strU wMay).size≤8:=by rw [strU_size]; decide
         have HI1:=Lib.hid (fun W (x : Ext w3 W) => itoa_of y.dx HYO.out.1.1 W (HLW.out W (ext_trans X3.out x)) S1 hS1)
         have HI2:=Lib.hid (fun W (x : Ext w3 W) => itoa_of y.dy HYO.out.1.2.1 W (HLW.out W (ext_trans X3.out x)) S2 hS2)
         have HI3:=Lib.hid (fun W (x : Ext w3 W) => itoa_of y.most HYO.out.1.2.2 W (HLW.out W (ext_trans X3.out x)) S3 hS3)
         have ix : ∀ W,(Instr.index 61 (.agg #[.string (strU wNever),.string (strU wMay),.string (strU wMust)]) (.int .i64 1)).run Tryz.prog W=.ok (.string (strU wMay)) W:=fun _ => by kernel_rfl
         have lHE0 : (⟨#[119,97,121,32]⟩ : ByteArray).size=4:=rfl
         have lHE1 : (⟨#[32]⟩ : ByteArray).size=1:=rfl
         have lHE2 : (⟨#[32]⟩ : ByteArray).size=1:=rfl
         have lHE3 : (⟨#[32]⟩ : ByteArray).size=1:=rfl
         have pHE1 : ¬ (9223372036854775807 < 4 + S1.size):=szok (Nat.add_le_add (Nat.le_refl 4) z1') (by decide)
         have pHE2 : ¬ (9223372036854775807 < 4 + S1.size + 1):=szok (Nat.add_le_add (Nat.add_le_add (Nat.le_refl 4) z1') (Nat.le_refl 1)) (by decide)
         have qHE2 : ¬ (9223372036854775807 < 4 + (S1.size + 1)):=szok (Nat.add_le_add (Nat.le_refl 4) (Nat.add_le_add z1' (Nat.le_refl 1))) (by decide)
         have pHE3 : ¬ (9223372036854775807 < 4 + S1.size + 1 + S2.size):=szok (Nat.add_le_add (Nat.add_le_add (Nat.add_le_add (Nat.le_refl 4) z1') (Nat.le_refl 1)) z2') (by decide)
         have qHE3 : ¬ (9223372036854775807 < 4 + (S1.size + (1 + S2.size))):=szok (Nat.add_le_add (Nat.le_refl 4) (Nat.add_le_add z1' (Nat.add_le_add (Nat.le_refl 1) z2'))) (by decide)
         have pHE4 : ¬ (9223372036854775807 < 4 + S1.size + 1 + S2.size + 1):=szok (Nat.add_le_add (Nat.add_le_add (Nat.add_le_add (Nat.add_le_add (Nat.le_refl 4) z1') (Nat.le_refl 1)) z2') (Nat.le_refl 1)) (by decide)
         have qHE4 : ¬ (9223372036854775807 < 4 + (S1.size + (1 + (S2.size + 1)))):=szok (Nat.add_le_add (Nat.le_refl 4) (Nat.add_le_add z1' (Nat.add_le_add (Nat.le_refl 1) (Nat.add_le_add z2' (Nat.le_refl 1))))) (by decide)
         have pHE5 : ¬ (9223372036854775807 < 4 + S1.size + 1 + S2.size + 1 + S3.size):=szok (Nat.add_le_add (Nat.add_le_add (Nat.add_le_add (Nat.add_le_add (Nat.add_le_add (Nat.le_refl 4) z1') (Nat.le_refl 1)) z2') (Nat.le_refl 1)) z3') (by decide)
         have qHE5 : ¬ (9223372036854775807 < 4 + (S1.size + (1 + (S2.size + (1 + S3.size))))):=szok (Nat.add_le_add (Nat.le_refl 4) (Nat.add_le_add z1' (Nat.add_le_add (Nat.le_refl 1) (Nat.add_le_add z2' (Nat.add_le_add (Nat.le_refl 1) z3'))))) (by decide)
         have pHE6 : ¬ (9223372036854775807 < 4 + S1.size + 1 + S2.size + 1 + S3.size + 1):=szok (Nat.add_le_add (Nat.add_le_add (Nat.add_le_add (Nat.add_le_add (Nat.add_le_add (Nat.add_le_add (Nat.le_refl 4) z1') (Nat.le_refl 1)) z2') (Nat.le_refl 1)) z3') (Nat.le_refl 1)) (by decide)
         have qHE6 : ¬ (9223372036854775807 < 4 + (S1.size + (1 + (S2.size + (1 + (S3.size + 1)))))):=szok (Nat.add_le_add (Nat.le_refl 4) (Nat.add_le_add z1' (Nat.add_le_add (Nat.le_refl 1) (Nat.add_le_add z2' (Nat.add_le_add (Nat.le_refl 1) (Nat.add_le_add z3' (Nat.le_refl 1))))))) (by decide)
         have pHE7 : ¬ (9223372036854775807 < 4 + S1.size + 1 + S2.size + 1 + S3.size + 1 + (strU wMay).size):=szok (Nat.add_le_add (Nat.add_le_add (Nat.add_le_add (Nat.add_le_add (Nat.add_le_add (Nat.add_le_add (Nat.add_le_add (Nat.le_refl 4) z1') (Nat.le_refl 1)) z2') (Nat.le_refl 1)) z3') (Nat.le_refl 1)) z4') (by decide)
         have qHE7 : ¬ (9223372036854775807 < 4 + (S1.size + (1 + (S2.size + (1 + (S3.size + (1 + ((strU wMay).size)))))))):=szok (Nat.add_le_add (Nat.le_refl 4) (Nat.add_le_add z1' (Nat.add_le_add (Nat.le_refl 1) (Nat.add_le_add z2' (Nat.add_le_add (Nat.le_refl 1) (Nat.add_le_add z3' (Nat.add_le_add (Nat.le_refl 1) z4'))))))) (by decide)
         have HE:=Lib.hid (show (⟨#[119,97,121,32]⟩ : ByteArray) ++ S1 ++ (⟨#[32]⟩ : ByteArray) ++ S2 ++ (⟨#[32]⟩ : ByteArray) ++ S3 ++ (⟨#[32]⟩ : ByteArray) ++ (strU wMay)=strU (lineT (wayWs y)) from by
          show strU [119,97,121,32] ++ S1 ++ strU [32] ++ S2 ++ strU [32] ++ S3 ++ strU [32] ++ (strU wMay)=_
          rw [hS1,hS2,hS3,wayT1 y htk]
          rw [strU_app,strU_app,strU_app,strU_app,strU_app,strU_app,strU_app])
         clear hS1 hS2 hS3 hWB HP8 HX8 HO0 htk
         have keepK:=hide (fun W (h : (Ext w3 W∧Blk W WB 60 #[.int .i64 y.dx,.int .i64 y.dy,.int .i64 y.most,.int .i64 1])) => (show (fun W => W.cell? ⟨WB,0,none⟩=some (.int .i64 y.dx)∧W.cell? ⟨WB,1,none⟩=some (.int .i64 y.dy)∧W.cell? ⟨WB,2,none⟩=some (.int .i64 y.most)∧W.cell? ⟨WB,3,none⟩=some (.int .i64 1)∧(Ext w3 W∧Blk W WB 60 #[.int .i64 y.dx,.int .i64 y.dy,.int .i64 y.most,.int .i64 1])) W from ⟨h.2.cell 0,h.2.cell 1,h.2.cell 2,h.2.cell 3,h⟩))
         have yy:=And.intro (ext_trans HO.out.2 z0) (KW.out.ext z0)
         refine region_K (fun W => W.cell? ⟨WB,0,none⟩=some (.int .i64 y.dx)∧W.cell? ⟨WB,1,none⟩=some (.int .i64 y.dy)∧W.cell? ⟨WB,2,none⟩=some (.int .i64 y.most)∧W.cell? ⟨WB,3,none⟩=some (.int .i64 1)∧(Ext w3 W∧Blk W WB 60 #[.int .i64 y.dx,.int .i64 y.dy,.int .i64 y.most,.int .i64 1])) (fun _ => True) [] (by kernel_rfl) ?_
         have hT0:=keepK.out _ yy
         refine anyK_take 0 (oi:=?oo60) ?ho60 (by kernel_rfl) (by kernel_rfl) (by kernel_rfl) (by kernel_rfl) ?hq60 ?hw60 hT0 (fun _ => trivial) (v:=?vv60) ?hy60 ?hk60
         case ho60 => (simp only [List.getElem?_toArray,List.getElem?_cons_succ,List.getElem?_cons_zero]; rfl)
         case hq60 => exact fun _ _ _ h => h
         case hw60 => rfl
         case hy60 =>
          intro W hW
          go_simp
          first | done | with_reducible rfl
         case hk60 =>
         try simp only [Act.put,List.setIfInBounds_toArray,List.set_cons_zero,List.set_cons_succ]
         refine anyK_take 1 (oi:=?oo61) ?ho61 (by kernel_rfl) (by kernel_rfl) (by kernel_rfl) (by kernel_rfl) ?hq61 ?hw61 hT0 (fun _ => trivial) (v:=?vv61) ?hy61 ?hk61
         case ho61 => (simp only [List.getElem?_toArray,List.getElem?_cons_succ,List.getElem?_cons_zero]; rfl)
         case hq61 => exact fun _ _ _ h => h
         case hw61 => rfl
         case hy61 =>
          intro W hW
          go_simp
          first | done | with_reducible rfl
         case hk61 =>
         try simp only [Act.put,List.setIfInBounds_toArray,List.set_cons_zero,List.set_cons_succ]
         refine anyK_take 2 (oi:=?oo62) ?ho62 (by kernel_rfl) (by kernel_rfl) (by kernel_rfl) (by kernel_rfl) ?hq62 ?hw62 hT0 (fun _ => trivial) (v:=?vv62) ?hy62 ?hk62
         case ho62 => (simp only [List.getElem?_toArray,List.getElem?_cons_succ,List.getElem?_cons_zero]; rfl)
         case hq62 => exact fun _ _ _ h => h
         case hw62 => rfl
         case hy62 =>
          intro W hW
          obtain ⟨z0,z1,z2,z3,z4⟩:=hW
          go_simp
          first | done | with_reducible rfl
         case hk62 =>
         try simp only [Act.put,List.setIfInBounds_toArray,List.set_cons_zero,List.set_cons_succ]
         refine anyK_take 6 (oi:=?oo63) ?ho63 (by kernel_rfl) (by kernel_rfl) (by kernel_rfl) (by kernel_rfl) ?hq63 ?hw63 hT0 (fun _ => trivial) (v:=?vv63) ?hy63 ?hk63
         case ho63 => (simp only [List.getElem?_toArray,List.getElem?_cons_succ,List.getElem?_cons_zero]; rfl)
         case hq63 => exact fun _ _ _ h => h
         case hw63 => rfl
         case hy63 =>
          intro W hW
          go_simp
          first | done | with_reducible rfl
         case hk63 =>
         try simp only [Act.put,List.setIfInBounds_toArray,List.set_cons_zero,List.set_cons_succ]
         refine anyK_take 7 (oi:=?oo64) ?ho64 (by kernel_rfl) (by kernel_rfl) (by kernel_rfl) (by kernel_rfl) ?hq64 ?hw64 hT0 (fun _ => trivial) (v:=?vv64) ?hy64 ?hk64
         case ho64 => (simp only [List.getElem?_toArray,List.getElem?_cons_succ,List.getElem?_cons_zero]; rfl)
         case hq64 => exact fun _ _ _ h => h
         case hw64 => rfl
         case hy64 =>
          intro W hW
          obtain ⟨z0,z1,z2,z3,z4⟩:=hW
          go_simp
          first | done | with_reducible rfl
         case hk64 =>
         try simp only [Act.put,List.setIfInBounds_toArray,List.set_cons_zero,List.set_cons_succ]
         refine anyK_take 11 (oi:=?oo65) ?ho65 (by kernel_rfl) (by kernel_rfl) (by kernel_rfl) (by kernel_rfl) ?hq65 ?hw65 hT0 (fun _ => trivial) (v:=?vv65) ?hy65 ?hk65
         case ho65 => (simp only [List.getElem?_toArray,List.getElem?_cons_succ,List.getElem?_cons_zero]; rfl)
         case hq65 => exact fun _ _ _ h => h
         case hw65 => rfl
         case hy65 =>
          intro W hW
          go_simp
          first | done | with_reducible rfl
         case hk65 =>
         try simp only [Act.put,List.setIfInBounds_toArray,List.set_cons_zero,List.set_cons_succ]
         refine anyK_take 12 (oi:=?oo66) ?ho66 (by kernel_rfl) (by kernel_rfl) (by kernel_rfl) (by kernel_rfl) ?hq66 ?hw66 hT0 (fun _ => trivial) (v:=?vv66) ?hy66 ?hk66
         case ho66 => (simp only [List.getElem?_toArray,List.getElem?_cons_succ,List.getElem?_cons_zero]; rfl)
         case hq66 => exact fun _ _ _ h => h
         case hw66 => rfl
         case hy66 =>
          intro W hW
          obtain ⟨z0,z1,z2,z3,z4⟩:=hW
          go_simp
          first | done | with_reducible rfl
         case hk66 =>
         try simp only [Act.put,List.setIfInBounds_toArray,List.set_cons_zero,List.set_cons_succ]
         refine anyK_take 17 (oi:=?oo67) ?ho67 (by kernel_rfl) (by kernel_rfl) (by kernel_rfl) (by kernel_rfl) ?hq67 ?hw67 hT0 (fun _ => trivial) (v:=?vv67) ?hy67 ?hk67
         case ho67 => (simp only [List.getElem?_toArray,List.getElem?_cons_succ,List.getElem?_cons_zero]; rfl)
         case hq67 => exact fun _ _ _ h => h
         case hw67 => rfl
         case hy67 =>
          intro W hW
          go_simp
          first | done | with_reducible rfl
         case hk67 =>
         try simp only [Act.put,List.setIfInBounds_toArray,List.set_cons_zero,List.set_cons_succ]
         refine anyK_take 18 (oi:=?oo68) ?ho68 (by kernel_rfl) (by kernel_rfl) (by kernel_rfl) (by kernel_rfl) ?hq68 ?hw68 hT0 (fun _ => trivial) (v:=?vv68) ?hy68 ?hk68
         case ho68 => (simp only [List.getElem?_toArray,List.getElem?_cons_succ,List.getElem?_cons_zero]; rfl)
         case hq68 => exact fun _ _ _ h => h
         case hw68 => rfl
         case hy68 =>
          intro W hW
          obtain ⟨z0,z1,z2,z3,z4⟩:=hW
          go_simp
          first | done | with_reducible rfl
         case hk68 =>
         try simp only [Act.put,List.setIfInBounds_toArray,List.set_cons_zero,List.set_cons_succ]
         refine anyK_on1 3 (by kernel_rfl) ?_
         refine anyK_one 3 (o:=?oo69) ?ho69 ?hk69
         case ho69 => (simp only [List.getElem?_toArray,List.getElem?_cons_succ,List.getElem?_cons_zero]; rfl)
         case hk69 =>
         intro K hK
         go_simp
         refine (HI1.out _ yy.1).mono ?_
         rintro e wa ⟨rfl,xx⟩
         try go_wp2_with fail
         replace yy:=And.intro (ext_trans yy.1 xx) (yy.2.ext xx)
         have z1:=ext_trans z0 xx
         have hT1:=keepK.out _ yy
         refine hK.out _ _ hT1 (fun _ => trivial) ?_
         clear hK K
         try simp only [Act.put,List.setIfInBounds_toArray,List.set_cons_zero,List.set_cons_succ]
         refine anyK_take 4 (oi:=?oo70) ?ho70 (by kernel_rfl) (by kernel_rfl) (by kernel_rfl) (by kernel_rfl) ?hq70 ?hw70 hT1 (fun _ => trivial) (v:=?vv70) ?hy70 ?hk70
         case ho70 => (simp only [List.getElem?_toArray,List.getElem?_cons_succ,List.getElem?_cons_zero]; rfl)
         case hq70 => exact fun _ _ _ h => h
         case hw70 => rfl
         case hy70 =>
          intro W hW
          go_simp
          first | done | with_reducible rfl
         case hk70 =>
         try simp only [Act.put,List.setIfInBounds_toArray,List.set_cons_zero,List.set_cons_succ]
         refine anyK_take 5 (oi:=?oo71) ?ho71 (by kernel_rfl) (by kernel_rfl) (by kernel_rfl) (by kernel_rfl) ?hq71 ?hw71 hT1 (fun _ => trivial) (v:=?vv71) ?hy71 ?hk71
         case ho71 => (simp only [List.getElem?_toArray,List.getElem?_cons_succ,List.getElem?_cons_zero]; rfl)
         case hq71 => exact fun _ _ _ h => h
         case hw71 => rfl
         case hy71 =>
          intro W hW
          go_simp
          first | done | with_reducible rfl
         case hk71 =>
         try simp only [Act.put,List.setIfInBounds_toArray,List.set_cons_zero,List.set_cons_succ]
         refine anyK_on1 8 (by kernel_rfl) ?_
         refine anyK_one 8 (o:=?oo72) ?ho72 ?hk72
         case ho72 => (simp only [List.getElem?_toArray,List.getElem?_cons_succ,List.getElem?_cons_zero]; rfl)
         case hk72 =>
         intro K hK
         go_simp
         refine (HI2.out _ yy.1).mono ?_
         rintro e wb ⟨rfl,xx⟩
         try go_wp2_with fail
         replace yy:=And.intro (ext_trans yy.1 xx) (yy.2.ext xx)
         have z2:=ext_trans z1 xx
         have hT2:=keepK.out _ yy
         refine hK.out _ _ hT2 (fun _ => trivial) ?_
         clear hK K
         try simp only [Act.put,List.setIfInBounds_toArray,List.set_cons_zero,List.set_cons_succ]
         refine anyK_take 9 (oi:=?oo73) ?ho73 (by kernel_rfl) (by kernel_rfl) (by kernel_rfl) (by kernel_rfl) ?hq73 ?hw73 hT2 (fun _ => trivial) (v:=?vv73) ?hy73 ?hk73
         case ho73 => (simp only [List.getElem?_toArray,List.getElem?_cons_succ,List.getElem?_cons_zero]; rfl)
         case hq73 => exact fun _ _ _ h => h
         case hw73 => rfl
         case hy73 =>
          intro W hW
          go_simp
          first | done | with_reducible rfl
         case hk73 =>
         try simp only [Act.put,List.setIfInBounds_toArray,List.set_cons_zero,List.set_cons_succ]
         refine anyK_take 10 (oi:=?oo74) ?ho74 (by kernel_rfl) (by kernel_rfl) (by kernel_rfl) (by kernel_rfl) ?hq74 ?hw74 hT2 (fun _ => trivial) (v:=?vv74) ?hy74 ?hk74
         case ho74 => (simp only [List.getElem?_toArray,List.getElem?_cons_succ,List.getElem?_cons_zero]; rfl)
         case hq74 => exact fun _ _ _ h => h
         case hw74 => rfl
         case hy74 =>
          intro W hW
          go_simp
          first | done | with_reducible rfl
         case hk74 =>
         try simp only [Act.put,List.setIfInBounds_toArray,List.set_cons_zero,List.set_cons_succ]
         refine anyK_on1 13 (by kernel_rfl) ?_
         refine anyK_one 13 (o:=?oo75) ?ho75 ?hk75
         case ho75 => (simp only [List.getElem?_toArray,List.getElem?_cons_succ,List.getElem?_cons_zero]; rfl)
         case hk75 =>
         intro K hK
         go_simp
         refine (HI3.out _ yy.1).mono ?_
         rintro e wd ⟨rfl,xx⟩
         try go_wp2_with fail
         replace yy:=And.intro (ext_trans yy.1 xx) (yy.2.ext xx)
         have z3:=ext_trans z2 xx
         have hT3:=keepK.out _ yy
         refine hK.out _ _ hT3 (fun _ => trivial) ?_
         clear hK K
         try simp only [Act.put,List.setIfInBounds_toArray,List.set_cons_zero,List.set_cons_succ]
         refine anyK_take 14 (oi:=?oo76) ?ho76 (by kernel_rfl) (by kernel_rfl) (by kernel_rfl) (by kernel_rfl) ?hq76 ?hw76 hT3 (fun _ => trivial) (v:=?vv76) ?hy76 ?hk76
         case ho76 => (simp only [List.getElem?_toArray,List.getElem?_cons_succ,List.getElem?_cons_zero]; rfl)
         case hq76 => exact fun _ _ _ h => h
         case hw76 => rfl
         case hy76 =>
          intro W hW
          go_simp
          first | done | with_reducible rfl
         case hk76 =>
         try simp only [Act.put,List.setIfInBounds_toArray,List.set_cons_zero,List.set_cons_succ]
         refine anyK_take 15 (oi:=?oo77) ?ho77 (by kernel_rfl) (by kernel_rfl) (by kernel_rfl) (by kernel_rfl) ?hq77 ?hw77 hT3 (fun _ => trivial) (v:=?vv77) ?hy77 ?hk77
         case ho77 => (simp only [List.getElem?_toArray,List.getElem?_cons_succ,List.getElem?_cons_zero]; rfl)
         case hq77 => exact fun _ _ _ h => h
         case hw77 => rfl
         case hy77 =>
          intro W hW
          go_simp
          first | done | with_reducible rfl
         case hk77 =>
         try simp only [Act.put,List.setIfInBounds_toArray,List.set_cons_zero,List.set_cons_succ]
         refine anyK_on1 16 (by kernel_rfl) ?_
         refine anyK_one 16 (o:=?oo78) ?ho78 ?hk78
         case ho78 => (simp only [List.getElem?_toArray,List.getElem?_cons_succ,List.getElem?_cons_zero]; rfl)
         case hk78 =>
         intro K hK
         go_simp
         refine (rtakes_any _).mono ?_
         rintro e we ⟨rfl,xx⟩
         try go_wp2_with fail
         replace yy:=And.intro (ext_trans yy.1 xx) (yy.2.ext xx)
         have z4:=ext_trans z3 xx
         have hT4:=keepK.out _ yy
         refine hK.out _ _ hT4 (fun _ => trivial) ?_
         clear hK K
         try simp only [Act.put,List.setIfInBounds_toArray,List.set_cons_zero,List.set_cons_succ]
         refine anyK_take 19 (oi:=?oo79) ?ho79 (by kernel_rfl) (by kernel_rfl) (by kernel_rfl) (by kernel_rfl) ?hq79 ?hw79 hT4 (fun _ => trivial) (v:=?vv79) ?hy79 ?hk79
         case ho79 => (simp only [List.getElem?_toArray,List.getElem?_cons_succ,List.getElem?_cons_zero]; rfl)
         case hq79 => exact fun _ _ _ h => h
         case hw79 => rfl
         case hy79 =>
          intro W hW
          go_simp
          first | done | with_reducible rfl
         case hk79 =>
         try simp only [Act.put,List.setIfInBounds_toArray,List.set_cons_zero,List.set_cons_succ]
         refine anyK_take 20 (oi:=?oo80) ?ho80 (by kernel_rfl) (by kernel_rfl) (by kernel_rfl) (by kernel_rfl) ?hq80 ?hw80 hT4 (fun _ => trivial) (v:=?vv80) ?hy80 ?hk80
         case ho80 => (simp only [List.getElem?_toArray,List.getElem?_cons_succ,List.getElem?_cons_zero]; rfl)
         case hq80 => exact fun _ _ _ h => h
         case hw80 => rfl
         case hy80 =>
          intro W hW
          go_simp
          first | done | with_reducible rfl
         case hk80 =>
         try simp only [Act.put,List.setIfInBounds_toArray,List.set_cons_zero,List.set_cons_succ]
         refine anyK_on1 21 (by kernel_rfl) ?_
         refine anyK_one 21 (o:=?oo81) ?ho81 ?hk81
         case ho81 => (simp only [List.getElem?_toArray,List.getElem?_cons_succ,List.getElem?_cons_zero]; rfl)
         case hk81 =>
         intro K hK
         go_simp
         rw [HE.out]
         have zk:=yy.2
         replace yy:=And.intro (ext_alloc yy.1 (.cells #[.string (strU (lineT (wayWs y)))] 9)) (yy.2.alloc (.cells #[.string (strU (lineT (wayWs y)))] 9))
         have hT5:=keepK.out _ yy
         refine hK.out _ _ hT5 (fun _ => trivial) ?_
         clear hK K
         try simp only [Act.put,List.setIfInBounds_toArray,List.set_cons_zero,List.set_cons_succ]
         refine anyK_on1 22 (by kernel_rfl) ?_
         refine anyK_one 22 (o:=?oo82) ?ho82 ?hk82
         case ho82 => (simp only [List.getElem?_toArray,List.getElem?_cons_succ,List.getElem?_cons_zero]; rfl)
         case hk82 =>
         intro K hK
         refine oper_append_r (.tmp 68) (.tmp 89) 54 rfl 9 1 16 (.string ⟨#[]⟩) Tryz.underlying54 strInfoJ rfl (by decide) (by decide) w3 we (.slice oA oL.length oc) oL.length (strsC oL) [.string (strU (lineT (wayWs y)))] rfl (HO.out.1.ext z4) rfl rfl (by simp [Value.oneCell']) (ext_trans HO.out.2 z4) (by have:=HOL.out; omega) ?_
         intro v9 w9 own9 x9 g9
         have HO9:=Lib.hid (show PrSt w3 (oL ++ [(lineT (wayWs y))]) v9 w9 from ⟨by rw [strsC_snoc,List.length_append]; exact own9,x9⟩)
         replace yy:=And.intro x9 (zk.grown g9 (OwnR.blk_ne (HO.out.1.ext z4) zk (by decide)))
         clear own9 x9 g9 zk
         have hT6:=keepK.out _ yy
         refine hK.out _ _ hT6 (fun _ => trivial) ?_
         clear hK K
         try simp only [Act.put,List.setIfInBounds_toArray,List.set_cons_zero,List.set_cons_succ]
         refine anyK_take 23 (oi:=?oo83) ?ho83 (by kernel_rfl) (by kernel_rfl) (by kernel_rfl) (by kernel_rfl) ?hq83 ?hw83 hT6 (fun _ => trivial) (v:=?vv83) ?hy83 ?hk83
         case ho83 => (simp only [List.getElem?_toArray,List.getElem?_cons_succ,List.getElem?_cons_zero]; rfl)
         case hq83 => exact fun _ _ _ h => h
         case hw83 => rfl
         case hy83 =>
          intro W hW
          go_simp
          first | done | with_reducible rfl
         case hk83 =>
         try simp only [Act.put,List.setIfInBounds_toArray,List.set_cons_zero,List.set_cons_succ]
         refine anyK_done (by kernel_rfl) ?_ _
         clear keepK hT0 hT1 hT2 hT3 hT4 hT5 hT6
         obtain ⟨oA3,oc3,rfl⟩:=HO9.out.shape
         clear ix yy z0 z1 z2 z3 z4 z1' z2' z3' z4' HE HI1 HI2 HI3 lHE0 lHE1 lHE2 lHE3 pHE1 pHE2 qHE2 pHE3 qHE3 pHE4 qHE4 pHE5 qHE5 pHE6 qHE6 pHE7 qHE7
         go_wp2_with fail
         refine ⟨⟨j + 1,HJM.out,by go_num,by rw [HYS.out]; exact HO9.out⟩,?_⟩
         have:=HJM.out
         simp [RowKit.intOf]
         omega
        ·have htk:=HTK.out
         obtain ⟨x8,kp8⟩:=blks1 wr #[.int .i64 y.dx,.int .i64 y.dy,.int .i64 y.most,.int .i64 2] 60
         have HX8:=Lib.hid x8
         have HP8:=Lib.hid kp8
         clear x8 kp8
         rw [htk] at y3
         go_upto_region 12 with fail
         clear y0 y1 y2 y3
         generalize wr.alloc _=w12 at *
         obtain ⟨WB,hWB⟩ : ∃ WB,WB=wr.heap.size:=⟨_,rfl⟩
         rw [← hWB] at HP8 ⊢
         have KW:=Lib.hid HP8.out
         have HO:=Lib.hid (HO0.out.ext HX8.out)
         have z0 : Ext w12 w12.drew:=Below.drew (Below.refl _ _)
         obtain ⟨S1,hS1⟩ : ∃ S,S=strU (Lib.itoa y.dx):=⟨_,rfl⟩
         obtain ⟨S2,hS2⟩ : ∃ S,S=strU (Lib.itoa y.dy):=⟨_,rfl⟩
         obtain ⟨S3,hS3⟩ : ∃ S,S=strU (Lib.itoa y.most):=⟨_,rfl⟩
         have z1' : S1.size≤8:=by rw [hS1,strU_size]; exact itoa_len8 HYO.out.1.1.1 HYO.out.1.1.2
         have z2' : S2.size≤8:=by rw [hS2,strU_size]; exact itoa_len8 HYO.out.1.2.1.1 HYO.out.1.2.1.2
         have z3' : S3.size≤8:=by rw [hS3,strU_size]; exact itoa_len8 HYO.out.1.2.2.1 HYO.out.1.2.2.2
         have z4' : (strU wMust).size≤8:=by rw [strU_size]; decide
         have HI1:=Lib.hid (fun W (x : Ext w3 W) => itoa_of y.dx HYO.out.1.1 W (HLW.out W (ext_trans X3.out x)) S1 hS1)
         have HI2:=Lib.hid (fun W (x : Ext w3 W) => itoa_of y.dy HYO.out.1.2.1 W (HLW.out W (ext_trans X3.out x)) S2 hS2)
         have HI3:=Lib.hid (fun W (x : Ext w3 W) => itoa_of y.most HYO.out.1.2.2 W (HLW.out W (ext_trans X3.out x)) S3 hS3)
         have ix : ∀ W,(Instr.index 61 (.agg #[.string (strU wNever),.string (strU wMay),.string (strU wMust)]) (.int .i64 2)).run Tryz.prog W=.ok (.string (strU wMust)) W:=fun _ => by kernel_rfl
         have lHE0 : (⟨#[119,97,121,32]⟩ : ByteArray).size=4:=rfl
         have lHE1 : (⟨#[32]⟩ : ByteArray).size=1:=rfl
         have lHE2 : (⟨#[32]⟩ : ByteArray).size=1:=rfl
         have lHE3 : (⟨#[32]⟩ : ByteArray).size=1:=rfl
         have pHE1 : ¬ (9223372036854775807 < 4 + S1.size):=szok (Nat.add_le_add (Nat.le_refl 4) z1') (by decide)
         have pHE2 : ¬ (9223372036854775807 < 4 + S1.size + 1):=szok (Nat.add_le_add (Nat.add_le_add (Nat.le_refl 4) z1') (Nat.le_refl 1)) (by decide)
         have qHE2 : ¬ (9223372036854775807 < 4 + (S1.size + 1)):=szok (Nat.add_le_add (Nat.le_refl 4) (Nat.add_le_add z1' (Nat.le_refl 1))) (by decide)
         have pHE3 : ¬ (9223372036854775807 < 4 + S1.size + 1 + S2.size):=szok (Nat.add_le_add (Nat.add_le_add (Nat.add_le_add (Nat.le_refl 4) z1') (Nat.le_refl 1)) z2') (by decide)
         have qHE3 : ¬ (9223372036854775807 < 4 + (S1.size + (1 + S2.size))):=szok (Nat.add_le_add (Nat.le_refl 4) (Nat.add_le_add z1' (Nat.add_le_add (Nat.le_refl 1) z2'))) (by decide)
         have pHE4 : ¬ (9223372036854775807 < 4 + S1.size + 1 + S2.size + 1):=szok (Nat.add_le_add (Nat.add_le_add (Nat.add_le_add (Nat.add_le_add (Nat.le_refl 4) z1') (Nat.le_refl 1)) z2') (Nat.le_refl 1)) (by decide)
         have qHE4 : ¬ (9223372036854775807 < 4 + (S1.size + (1 + (S2.size + 1)))):=szok (Nat.add_le_add (Nat.le_refl 4) (Nat.add_le_add z1' (Nat.add_le_add (Nat.le_refl 1) (Nat.add_le_add z2' (Nat.le_refl 1))))) (by decide)
         have pHE5 : ¬ (9223372036854775807 < 4 + S1.size + 1 + S2.size + 1 + S3.size):=szok (Nat.add_le_add (Nat.add_le_add (Nat.add_le_add (Nat.add_le_add (Nat.add_le_add (Nat.le_refl 4) z1') (Nat.le_refl 1)) z2') (Nat.le_refl 1)) z3') (by decide)
         have qHE5 : ¬ (9223372036854775807 < 4 + (S1.size + (1 + (S2.size + (1 + S3.size))))):=szok (Nat.add_le_add (Nat.le_refl 4) (Nat.add_le_add z1' (Nat.add_le_add (Nat.le_refl 1) (Nat.add_le_add z2' (Nat.add_le_add (Nat.le_refl 1) z3'))))) (by decide)
         have pHE6 : ¬ (9223372036854775807 < 4 + S1.size + 1 + S2.size + 1 + S3.size + 1):=szok (Nat.add_le_add (Nat.add_le_add (Nat.add_le_add (Nat.add_le_add (Nat.add_le_add (Nat.add_le_add (Nat.le_refl 4) z1') (Nat.le_refl 1)) z2') (Nat.le_refl 1)) z3') (Nat.le_refl 1)) (by decide)
         have qHE6 : ¬ (9223372036854775807 < 4 + (S1.size + (1 + (S2.size + (1 + (S3.size + 1)))))):=szok (Nat.add_le_add (Nat.le_refl 4) (Nat.add_le_add z1' (Nat.add_le_add (Nat.le_refl 1) (Nat.add_le_add z2' (Nat.add_le_add (Nat.le_refl 1) (Nat.add_le_add z3' (Nat.le_refl 1))))))) (by decide)
         have pHE7 : ¬ (9223372036854775807 < 4 + S1.size + 1 + S2.size + 1 + S3.size + 1 + (strU wMust).size):=szok (Nat.add_le_add (Nat.add_le_add (Nat.add_le_add (Nat.add_le_add (Nat.add_le_add (Nat.add_le_add (Nat.add_le_add (Nat.le_refl 4) z1') (Nat.le_refl 1)) z2') (Nat.le_refl 1)) z3') (Nat.le_refl 1)) z4') (by decide)
         have qHE7 : ¬ (9223372036854775807 < 4 + (S1.size + (1 + (S2.size + (1 + (S3.size + (1 + ((strU wMust).size)))))))):=szok (Nat.add_le_add (Nat.le_refl 4) (Nat.add_le_add z1' (Nat.add_le_add (Nat.le_refl 1) (Nat.add_le_add z2' (Nat.add_le_add (Nat.le_refl 1) (Nat.add_le_add z3' (Nat.add_le_add (Nat.le_refl 1) z4'))))))) (by decide)
         have HE:=Lib.hid (show (⟨#[119,97,121,32]⟩ : ByteArray) ++ S1 ++ (⟨#[32]⟩ : ByteArray) ++ S2 ++ (⟨#[32]⟩ : ByteArray) ++ S3 ++ (⟨#[32]⟩ : ByteArray) ++ (strU wMust)=strU (lineT (wayWs y)) from by
          show strU [119,97,121,32] ++ S1 ++ strU [32] ++ S2 ++ strU [32] ++ S3 ++ strU [32] ++ (strU wMust)=_
          rw [hS1,hS2,hS3,wayT2 y htk]
          rw [strU_app,strU_app,strU_app,strU_app,strU_app,strU_app,strU_app])
         clear hS1 hS2 hS3 hWB HP8 HX8 HO0 htk
         have keepK:=hide (fun W (h : (Ext w3 W∧Blk W WB 60 #[.int .i64 y.dx,.int .i64 y.dy,.int .i64 y.most,.int .i64 2])) => (show (fun W => W.cell? ⟨WB,0,none⟩=some (.int .i64 y.dx)∧W.cell? ⟨WB,1,none⟩=some (.int .i64 y.dy)∧W.cell? ⟨WB,2,none⟩=some (.int .i64 y.most)∧W.cell? ⟨WB,3,none⟩=some (.int .i64 2)∧(Ext w3 W∧Blk W WB 60 #[.int .i64 y.dx,.int .i64 y.dy,.int .i64 y.most,.int .i64 2])) W from ⟨h.2.cell 0,h.2.cell 1,h.2.cell 2,h.2.cell 3,h⟩))
         have yy:=And.intro (ext_trans HO.out.2 z0) (KW.out.ext z0)
         refine region_K (fun W => W.cell? ⟨WB,0,none⟩=some (.int .i64 y.dx)∧W.cell? ⟨WB,1,none⟩=some (.int .i64 y.dy)∧W.cell? ⟨WB,2,none⟩=some (.int .i64 y.most)∧W.cell? ⟨WB,3,none⟩=some (.int .i64 2)∧(Ext w3 W∧Blk W WB 60 #[.int .i64 y.dx,.int .i64 y.dy,.int .i64 y.most,.int .i64 2])) (fun _ => True) [] (by kernel_rfl) ?_
         have hT0:=keepK.out _ yy
         refine anyK_take 0 (oi:=?oo84) ?ho84 (by kernel_rfl) (by kernel_rfl) (by kernel_rfl) (by kernel_rfl) ?hq84 ?hw84 hT0 (fun _ => trivial) (v:=?vv84) ?hy84 ?hk84
         case ho84 => (simp only [List.getElem?_toArray,List.getElem?_cons_succ,List.getElem?_cons_zero]; rfl)
         case hq84 => exact fun _ _ _ h => h
         case hw84 => rfl
         case hy84 =>
          intro W hW
          go_simp
          first | done | with_reducible rfl
         case hk84 =>
         try simp only [Act.put,List.setIfInBounds_toArray,List.set_cons_zero,List.set_cons_succ]
         refine anyK_take 1 (oi:=?oo85) ?ho85 (by kernel_rfl) (by kernel_rfl) (by kernel_rfl) (by kernel_rfl) ?hq85 ?hw85 hT0 (fun _ => trivial) (v:=?vv85) ?hy85 ?hk85
         case ho85 => (simp only [List.getElem?_toArray,List.getElem?_cons_succ,List.getElem?_cons_zero]; rfl)
         case hq85 => exact fun _ _ _ h => h
         case hw85 => rfl
         case hy85 =>
          intro W hW
          go_simp
          first | done | with_reducible rfl
         case hk85 =>
         try simp only [Act.put,List.setIfInBounds_toArray,List.set_cons_zero,List.set_cons_succ]
         refine anyK_take 2 (oi:=?oo86) ?ho86 (by kernel_rfl) (by kernel_rfl) (by kernel_rfl) (by kernel_rfl) ?hq86 ?hw86 hT0 (fun _ => trivial) (v:=?vv86) ?hy86 ?hk86
         case ho86 => (simp only [List.getElem?_toArray,List.getElem?_cons_succ,List.getElem?_cons_zero]; rfl)
         case hq86 => exact fun _ _ _ h => h
         case hw86 => rfl
         case hy86 =>
          intro W hW
          obtain ⟨z0,z1,z2,z3,z4⟩:=hW
          go_simp
          first | done | with_reducible rfl
         case hk86 =>
         try simp only [Act.put,List.setIfInBounds_toArray,List.set_cons_zero,List.set_cons_succ]
         refine anyK_take 6 (oi:=?oo87) ?ho87 (by kernel_rfl) (by kernel_rfl) (by kernel_rfl) (by kernel_rfl) ?hq87 ?hw87 hT0 (fun _ => trivial) (v:=?vv87) ?hy87 ?hk87
         case ho87 => (simp only [List.getElem?_toArray,List.getElem?_cons_succ,List.getElem?_cons_zero]; rfl)
         case hq87 => exact fun _ _ _ h => h
         case hw87 => rfl
         case hy87 =>
          intro W hW
          go_simp
          first | done | with_reducible rfl
         case hk87 =>
         try simp only [Act.put,List.setIfInBounds_toArray,List.set_cons_zero,List.set_cons_succ]
         refine anyK_take 7 (oi:=?oo88) ?ho88 (by kernel_rfl) (by kernel_rfl) (by kernel_rfl) (by kernel_rfl) ?hq88 ?hw88 hT0 (fun _ => trivial) (v:=?vv88) ?hy88 ?hk88
         case ho88 => (simp only [List.getElem?_toArray,List.getElem?_cons_succ,List.getElem?_cons_zero]; rfl)
         case hq88 => exact fun _ _ _ h => h
         case hw88 => rfl
         case hy88 =>
          intro W hW
          obtain ⟨z0,z1,z2,z3,z4⟩:=hW
          go_simp
          first | done | with_reducible rfl
         case hk88 =>
         try simp only [Act.put,List.setIfInBounds_toArray,List.set_cons_zero,List.set_cons_succ]
         refine anyK_take 11 (oi:=?oo89) ?ho89 (by kernel_rfl) (by kernel_rfl) (by kernel_rfl) (by kernel_rfl) ?hq89 ?hw89 hT0 (fun _ => trivial) (v:=?vv89) ?hy89 ?hk89
         case ho89 => (simp only [List.getElem?_toArray,List.getElem?_cons_succ,List.getElem?_cons_zero]; rfl)
         case hq89 => exact fun _ _ _ h => h
         case hw89 => rfl
         case hy89 =>
          intro W hW
          go_simp
          first | done | with_reducible rfl
         case hk89 =>
         try simp only [Act.put,List.setIfInBounds_toArray,List.set_cons_zero,List.set_cons_succ]
         refine anyK_take 12 (oi:=?oo90) ?ho90 (by kernel_rfl) (by kernel_rfl) (by kernel_rfl) (by kernel_rfl) ?hq90 ?hw90 hT0 (fun _ => trivial) (v:=?vv90) ?hy90 ?hk90
         case ho90 => (simp only [List.getElem?_toArray,List.getElem?_cons_succ,List.getElem?_cons_zero]; rfl)
         case hq90 => exact fun _ _ _ h => h
         case hw90 => rfl
         case hy90 =>
          intro W hW
          obtain ⟨z0,z1,z2,z3,z4⟩:=hW
          go_simp
          first | done | with_reducible rfl
         case hk90 =>
         try simp only [Act.put,List.setIfInBounds_toArray,List.set_cons_zero,List.set_cons_succ]
         refine anyK_take 17 (oi:=?oo91) ?ho91 (by kernel_rfl) (by kernel_rfl) (by kernel_rfl) (by kernel_rfl) ?hq91 ?hw91 hT0 (fun _ => trivial) (v:=?vv91) ?hy91 ?hk91
         case ho91 => (simp only [List.getElem?_toArray,List.getElem?_cons_succ,List.getElem?_cons_zero]; rfl)
         case hq91 => exact fun _ _ _ h => h
         case hw91 => rfl
         case hy91 =>
          intro W hW
          go_simp
          first | done | with_reducible rfl
         case hk91 =>
         try simp only [Act.put,List.setIfInBounds_toArray,List.set_cons_zero,List.set_cons_succ]
         refine anyK_take 18 (oi:=?oo92) ?ho92 (by kernel_rfl) (by kernel_rfl) (by kernel_rfl) (by kernel_rfl) ?hq92 ?hw92 hT0 (fun _ => trivial) (v:=?vv92) ?hy92 ?hk92
         case ho92 => (simp only [List.getElem?_toArray,List.getElem?_cons_succ,List.getElem?_cons_zero]; rfl)
         case hq92 => exact fun _ _ _ h => h
         case hw92 => rfl
         case hy92 =>
          intro W hW
          obtain ⟨z0,z1,z2,z3,z4⟩:=hW
          go_simp
          first | done | with_reducible rfl
         case hk92 =>
         try simp only [Act.put,List.setIfInBounds_toArray,List.set_cons_zero,List.set_cons_succ]
         refine anyK_on1 3 (by kernel_rfl) ?_
         refine anyK_one 3 (o:=?oo93) ?ho93 ?hk93
         case ho93 => (simp only [List.getElem?_toArray,List.getElem?_cons_succ,List.getElem?_cons_zero]; rfl)
         case hk93 =>
         intro K hK
         go_simp
         refine (HI1.out _ yy.1).mono ?_
         rintro e wa ⟨rfl,xx⟩
         try go_wp2_with fail
         replace yy:=And.intro (ext_trans yy.1 xx) (yy.2.ext xx)
         have z1:=ext_trans z0 xx
         have hT1:=keepK.out _ yy
         refine hK.out _ _ hT1 (fun _ => trivial) ?_
         clear hK K
         try simp only [Act.put,List.setIfInBounds_toArray,List.set_cons_zero,List.set_cons_succ]
         refine anyK_take 4 (oi:=?oo94) ?ho94 (by kernel_rfl) (by kernel_rfl) (by kernel_rfl) (by kernel_rfl) ?hq94 ?hw94 hT1 (fun _ => trivial) (v:=?vv94) ?hy94 ?hk94
         case ho94 => (simp only [List.getElem?_toArray,List.getElem?_cons_succ,List.getElem?_cons_zero]; rfl)
         case hq94 => exact fun _ _ _ h => h
         case hw94 => rfl
         case hy94 =>
          intro W hW
          go_simp
          first | done | with_reducible rfl
         case hk94 =>
         try simp only [Act.put,List.setIfInBounds_toArray,List.set_cons_zero,List.set_cons_succ]
         refine anyK_take 5 (oi:=?oo95) ?ho95 (by kernel_rfl) (by kernel_rfl) (by kernel_rfl) (by kernel_rfl) ?hq95 ?hw95 hT1 (fun _ => trivial) (v:=?vv95) ?hy95 ?hk95
         case ho95 => (simp only [List.getElem?_toArray,List.getElem?_cons_succ,List.getElem?_cons_zero]; rfl)
         case hq95 => exact fun _ _ _ h => h
         case hw95 => rfl
         case hy95 =>
          intro W hW
          go_simp
          first | done | with_reducible rfl
         case hk95 =>
         try simp only [Act.put,List.setIfInBounds_toArray,List.set_cons_zero,List.set_cons_succ]
         refine anyK_on1 8 (by kernel_rfl) ?_
         refine anyK_one 8 (o:=?oo96) ?ho96 ?hk96
         case ho96 => (simp only [List.getElem?_toArray,List.getElem?_cons_succ,List.getElem?_cons_zero]; rfl)
         case hk96 =>
         intro K hK
         go_simp
         refine (HI2.out _ yy.1).mono ?_
         rintro e wb ⟨rfl,xx⟩
         try go_wp2_with fail
         replace yy:=And.intro (ext_trans yy.1 xx) (yy.2.ext xx)
         have z2:=ext_trans z1 xx
         have hT2:=keepK.out _ yy
         refine hK.out _ _ hT2 (fun _ => trivial) ?_
         clear hK K
         try simp only [Act.put,List.setIfInBounds_toArray,List.set_cons_zero,List.set_cons_succ]
         refine anyK_take 9 (oi:=?oo97) ?ho97 (by kernel_rfl) (by kernel_rfl) (by kernel_rfl) (by kernel_rfl) ?hq97 ?hw97 hT2 (fun _ => trivial) (v:=?vv97) ?hy97 ?hk97
         case ho97 => (simp only [List.getElem?_toArray,List.getElem?_cons_succ,List.getElem?_cons_zero]; rfl)
         case hq97 => exact fun _ _ _ h => h
         case hw97 => rfl
         case hy97 =>
          intro W hW
          go_simp
          first | done | with_reducible rfl
         case hk97 =>
         try simp only [Act.put,List.setIfInBounds_toArray,List.set_cons_zero,List.set_cons_succ]
         refine anyK_take 10 (oi:=?oo98) ?ho98 (by kernel_rfl) (by kernel_rfl) (by kernel_rfl) (by kernel_rfl) ?hq98 ?hw98 hT2 (fun _ => trivial) (v:=?vv98) ?hy98 ?hk98
         case ho98 => (simp only [List.getElem?_toArray,List.getElem?_cons_succ,List.getElem?_cons_zero]; rfl)
         case hq98 => exact fun _ _ _ h => h
         case hw98 => rfl
         case hy98 =>
          intro W hW
          go_simp
          first | done | with_reducible rfl
         case hk98 =>
         try simp only [Act.put,List.setIfInBounds_toArray,List.set_cons_zero,List.set_cons_succ]
         refine anyK_on1 13 (by kernel_rfl) ?_
         refine anyK_one 13 (o:=?oo99) ?ho99 ?hk99
         case ho99 => (simp only [List.getElem?_toArray,List.getElem?_cons_succ,List.getElem?_cons_zero]; rfl)
         case hk99 =>
         intro K hK
         go_simp
         refine (HI3.out _ yy.1).mono ?_
         rintro e wd ⟨rfl,xx⟩
         try go_wp2_with fail
         replace yy:=And.intro (ext_trans yy.1 xx) (yy.2.ext xx)
         have z3:=ext_trans z2 xx
         have hT3:=keepK.out _ yy
         refine hK.out _ _ hT3 (fun _ => trivial) ?_
         clear hK K
         try simp only [Act.put,List.setIfInBounds_toArray,List.set_cons_zero,List.set_cons_succ]
         refine anyK_take 14 (oi:=?oo100) ?ho100 (by kernel_rfl) (by kernel_rfl) (by kernel_rfl) (by kernel_rfl) ?hq100 ?hw100 hT3 (fun _ => trivial) (v:=?vv100) ?hy100 ?hk100
         case ho100 => (simp only [List.getElem?_toArray,List.getElem?_cons_succ,List.getElem?_cons_zero]; rfl)
         case hq100 => exact fun _ _ _ h => h
         case hw100 => rfl
         case hy100 =>
          intro W hW
          go_simp
          first | done | with_reducible rfl
         case hk100 =>
         try simp only [Act.put,List.setIfInBounds_toArray,List.set_cons_zero,List.set_cons_succ]
         refine anyK_take 15 (oi:=?oo101) ?ho101 (by kernel_rfl) (by kernel_rfl) (by kernel_rfl) (by kernel_rfl) ?hq101 ?hw101 hT3 (fun _ => trivial) (v:=?vv101) ?hy101 ?hk101
         case ho101 => (simp only [List.getElem?_toArray,List.getElem?_cons_succ,List.getElem?_cons_zero]; rfl)
         case hq101 => exact fun _ _ _ h => h
         case hw101 => rfl
         case hy101 =>
          intro W hW
          go_simp
          first | done | with_reducible rfl
         case hk101 =>
         try simp only [Act.put,List.setIfInBounds_toArray,List.set_cons_zero,List.set_cons_succ]
         refine anyK_on1 16 (by kernel_rfl) ?_
         refine anyK_one 16 (o:=?oo102) ?ho102 ?hk102
         case ho102 => (simp only [List.getElem?_toArray,List.getElem?_cons_succ,List.getElem?_cons_zero]; rfl)
         case hk102 =>
         intro K hK
         go_simp
         refine (rtakes_any _).mono ?_
         rintro e we ⟨rfl,xx⟩
         try go_wp2_with fail
         replace yy:=And.intro (ext_trans yy.1 xx) (yy.2.ext xx)
         have z4:=ext_trans z3 xx
         have hT4:=keepK.out _ yy
         refine hK.out _ _ hT4 (fun _ => trivial) ?_
         clear hK K
         try simp only [Act.put,List.setIfInBounds_toArray,List.set_cons_zero,List.set_cons_succ]
         refine anyK_take 19 (oi:=?oo103) ?ho103 (by kernel_rfl) (by kernel_rfl) (by kernel_rfl) (by kernel_rfl) ?hq103 ?hw103 hT4 (fun _ => trivial) (v:=?vv103) ?hy103 ?hk103
         case ho103 => (simp only [List.getElem?_toArray,List.getElem?_cons_succ,List.getElem?_cons_zero]; rfl)
         case hq103 => exact fun _ _ _ h => h
         case hw103 => rfl
         case hy103 =>
          intro W hW
          go_simp
          first | done | with_reducible rfl
         case hk103 =>
         try simp only [Act.put,List.setIfInBounds_toArray,List.set_cons_zero,List.set_cons_succ]
         refine anyK_take 20 (oi:=?oo104) ?ho104 (by kernel_rfl) (by kernel_rfl) (by kernel_rfl) (by kernel_rfl) ?hq104 ?hw104 hT4 (fun _ => trivial) (v:=?vv104) ?hy104 ?hk104
         case ho104 => (simp only [List.getElem?_toArray,List.getElem?_cons_succ,List.getElem?_cons_zero]; rfl)
         case hq104 => exact fun _ _ _ h => h
         case hw104 => rfl
         case hy104 =>
          intro W hW
          go_simp
          first | done | with_reducible rfl
         case hk104 =>
         try simp only [Act.put,List.setIfInBounds_toArray,List.set_cons_zero,List.set_cons_succ]
         refine anyK_on1 21 (by kernel_rfl) ?_
         refine anyK_one 21 (o:=?oo105) ?ho105 ?hk105
         case ho105 => (simp only [List.getElem?_toArray,List.getElem?_cons_succ,List.getElem?_cons_zero]; rfl)
         case hk105 =>
         intro K hK
         go_simp
         rw [HE.out]
         have zk:=yy.2
         replace yy:=And.intro (ext_alloc yy.1 (.cells #[.string (strU (lineT (wayWs y)))] 9)) (yy.2.alloc (.cells #[.string (strU (lineT (wayWs y)))] 9))
         have hT5:=keepK.out _ yy
         refine hK.out _ _ hT5 (fun _ => trivial) ?_
         clear hK K
         try simp only [Act.put,List.setIfInBounds_toArray,List.set_cons_zero,List.set_cons_succ]
         refine anyK_on1 22 (by kernel_rfl) ?_
         refine anyK_one 22 (o:=?oo106) ?ho106 ?hk106
         case ho106 => (simp only [List.getElem?_toArray,List.getElem?_cons_succ,List.getElem?_cons_zero]; rfl)
         case hk106 =>
         intro K hK
         refine oper_append_r (.tmp 68) (.tmp 89) 54 rfl 9 1 16 (.string ⟨#[]⟩) Tryz.underlying54 strInfoJ rfl (by decide) (by decide) w3 we (.slice oA oL.length oc) oL.length (strsC oL) [.string (strU (lineT (wayWs y)))] rfl (HO.out.1.ext z4) rfl rfl (by simp [Value.oneCell']) (ext_trans HO.out.2 z4) (by have:=HOL.out; omega) ?_
         intro v9 w9 own9 x9 g9
         have HO9:=Lib.hid (show PrSt w3 (oL ++ [(lineT (wayWs y))]) v9 w9 from ⟨by rw [strsC_snoc,List.length_append]; exact own9,x9⟩)
         replace yy:=And.intro x9 (zk.grown g9 (OwnR.blk_ne (HO.out.1.ext z4) zk (by decide)))
         clear own9 x9 g9 zk
         have hT6:=keepK.out _ yy
         refine hK.out _ _ hT6 (fun _ => trivial) ?_
         clear hK K
         try simp only [Act.put,List.setIfInBounds_toArray,List.set_cons_zero,List.set_cons_succ]
         refine anyK_take 23 (oi:=?oo107) ?ho107 (by kernel_rfl) (by kernel_rfl) (by kernel_rfl) (by kernel_rfl) ?hq107 ?hw107 hT6 (fun _ => trivial) (v:=?vv107) ?hy107 ?hk107
         case ho107 => (simp only [List.getElem?_toArray,List.getElem?_cons_succ,List.getElem?_cons_zero]; rfl)
         case hq107 => exact fun _ _ _ h => h
         case hw107 => rfl
         case hy107 =>
          intro W hW
          go_simp
          first | done | with_reducible rfl
         case hk107 =>
         try simp only [Act.put,List.setIfInBounds_toArray,List.set_cons_zero,List.set_cons_succ]
         refine anyK_done (by kernel_rfl) ?_ _
         clear keepK hT0 hT1 hT2 hT3 hT4 hT5 hT6
         obtain ⟨oA3,oc3,rfl⟩:=HO9.out.shape
         clear ix yy z0 z1 z2 z3 z4 z1' z2' z3' z4' HE HI1 HI2 HI3 lHE0 lHE1 lHE2 lHE3 pHE1 pHE2 qHE2 pHE3 qHE3 pHE4 qHE4 pHE5 qHE5 pHE6 qHE6 pHE7 qHE7
         go_wp2_with fail
         refine ⟨⟨j + 1,HJM.out,by go_num,by rw [HYS.out]; exact HO9.out⟩,?_⟩
         have:=HJM.out
         simp [RowKit.intOf]
         omega
       ·obtain rfl : m=j:=by omega
        have HTK:=Lib.hid (show p.ways.take m=p.ways from List.take_of_length_le (by rw [HMM.out]; exact Nat.le_refl _))
        have HOF:=Lib.hid hO
        rw [HTK.out,← HSN.out] at HOF
        clear hO hj hjm
        go_wp2_with fail
        refine ⟨⟨k + 1,HKN.out,by go_num,HOF.out⟩,?_⟩
        have:=HKN.out
        simp [RowKit.intOf]
        omega
     ·obtain rfl : n=k:=by omega
      have HTK:=Lib.hid (show R.pieces.take n=R.pieces from List.take_of_length_le (by rw [HN.out]; exact Nat.le_refl _))
      have HOF:=Lib.hid hO
      rw [HTK.out] at HOF
      clear hO hk hkn
      go_wp2_with fail
      go_meet
      exact HOF.out
   case rest =>
    obtain ⟨L2,hL2⟩ : ∃ L,L=L1 ++ (R.pieces.flatMap (pieceLs R.pieces)).map lineT:=⟨_,rfl⟩
    rw [← hL2] at hcut
    have HL2E:=Lib.hid hL2
    have HO2:=Lib.hid hcut
    have HL2N:=Lib.hid (show L2.length≤110 from by
     have h:=flat_len HV.out R.pieces.length
     rw [List.take_length] at h
     have h2:=HL1E.out
     have h3:=HV.out.pieces6
     rw [hL2,List.length_append,h2,List.length_singleton]
     omega)
    obtain ⟨ht,hht⟩:=Int.eq_ofNat_of_zero_le (show 0≤R.height by have:=HSD.out; omega)
    obtain ⟨wd,hwd⟩:=Int.eq_ofNat_of_zero_le (show 0≤R.width by have:=HSD.out; omega)
    have ht8 : 1≤ht∧ht≤8:=by have:=HSD.out; omega
    have wd8 : 1≤wd∧wd≤8:=by have:=HSD.out; omega
    have HHT:=Lib.hid hht
    have HWD:=Lib.hid hwd
    have c2 : wc.cell? ⟨B,2,none⟩=some (.int .i64 (ht : Int)):=by rw [← hht]; exact (KB3.out.ext hcut.2).cell 2
    have hw1 : IntKind.i64.wrap ((ht : Int) - 1)=(ht : Int) - 1:=by rw [IntKind.wrap_i64]; omega
    clear hcut hL2 hht hwd
    go_upto_block 4 with fail
    go_cut [5] (fun s5 wx => PrSt w3 (L2 ++ (rowsWs R).map lineT) s5 wx)
    case first => as_aux_lemma =>
     clear hw1
     go_wp2_with fail
     go_loopw [5,10] (fun sv yv wr => ∃ k : Nat,k≤ht∧yv=.int .i64 ((ht : Int) - 1 - (k : Int))∧PrSt w3 (L2 ++ ((rowsWs R).take k).map lineT) sv wr) (fun sv yv wr => (RowKit.intOf yv + 1).toNat)
     case atStart => exact ⟨0,Nat.zero_le _,by go_num,by simpa using HO2.out⟩
     case round =>
      obtain ⟨k,hk,rfl,hO⟩:=hrel
      clear c2 HO2
      by_cases hkn : k < ht
      ·obtain ⟨y,hyq⟩ : ∃ y : Nat,(ht : Int) - 1 - (k : Int)=(y : Int):=⟨ht - 1 - k,by omega⟩
       have hy : y=ht - 1 - k:=by omega
       rw [hyq]
       have ty : decide ((0 : Int)≤(y : Int))=true:=decide_eq_true (by omega)
       have HRG:=Lib.hid (show (rowsWs R)[k]? = some (rowWs R y) from by
        rw [rowsWs_get R (by rw [HHT.out]; exact hkn),HHT.out,hy]
        rfl)
       have HYS:=Lib.hid (show L2 ++ ((rowsWs R).take (k + 1)).map lineT=(L2 ++ ((rowsWs R).take k).map lineT) ++ [lineT (rowWs R y)] from by
        rw [List.take_add_one,HRG.out]
        simp)
       obtain ⟨oL,hoL⟩ : ∃ L,L=L2 ++ ((rowsWs R).take k).map lineT:=⟨_,rfl⟩
       rw [← hoL] at hO HYS
       have HOL:=Lib.hid (show oL.length≤300 from by
        have h:=HL2N.out
        rw [hoL,List.length_append,List.length_map,List.length_take]
        omega)
       obtain ⟨oA,oc,rfl⟩:=hO.shape
       have HO0:=Lib.hid hO
       have HKN:=Lib.hid (And.intro hkn (And.intro hyq hy))
       clear hO hoL hkn hk hyq hy
       have hcs:=fun (W : World) (C : Array Value) => Lib.run_convert_bytes_const (P:=Tryz.prog) W 63 5 C 4 4 Tryz.underlying63 Tryz.underlying5
       go_upto_region 19 with fail
       have HBR:=Lib.hid (brow_new w3 wr [114,111,119,32] 4 5)
       have X18:=Lib.hid (ext_alloc (Below.refl _ _ : Ext wr wr) (.cells #[.int .u8 114,.int .u8 111,.int .u8 119,.int .u8 32] 5 (4,5)))
       have HO:=Lib.hid (HO0.out.ext X18.out)
       have HBR0:=Lib.hid (show BRow w3 (wr.alloc (.cells #[.int .u8 114,.int .u8 111,.int .u8 119,.int .u8 32] 5 (4,5))) (.slice (some ⟨wr.heap.size,0,none⟩) 4 4) (rowP R y 0) from by
        have e : rowP R y 0=[114,111,119,32]:=by unfold rowP; simp
        rw [e]
        exact HBR.out)
       clear HBR hcs
       generalize wr.alloc _=w19 at *
       generalize wr.heap.size=RBK at *
       have c1 : w19.cell? ⟨B,1,none⟩=some (.int .i64 (wd : Int)):=by rw [← HWD.out]; exact (KB3.out.ext HO.out.2).cell 1
       have HO19:=Lib.hid HO.out
       clear HO X18 HO0
       go_wp2_with fail
       go_loopw [11,104] (fun sv xv wr => ∃ x : Nat,x≤wd∧xv=.int .i64 (x : Int)∧BRow w3 wr sv (rowP R y x)∧PrSt w3 oL (.slice oA oL.length oc) wr) (fun sv xv wr => wd - (RowKit.intOf xv).toNat)
       case atStart => exact ⟨0,Nat.zero_le _,rfl,HBR0.out,HO19.out⟩
       case round =>
        obtain ⟨x,hx,rfl,hB,hO⟩:=hrel
        obtain ⟨bA,bc,rfl,hbc⟩:=hB.shape
        clear c1 HO19 HBR0
        by_cases hxw : x < wd
        ·obtain ⟨q,hq⟩ : ∃ q,q=y * wd + x:=⟨_,rfl⟩
         obtain ⟨a,ha⟩ : ∃ a,a=y * wd:=⟨_,rfl⟩
         have hql : q < R.start.length:=by
          have h1:=HV.out.area
          rw [HHT.out,HWD.out,← Int.natCast_mul] at h1
          have h2 : (y + 1) * wd≤ht * wd:=Nat.mul_le_mul_right _ (by have:=HKN.out; omega)
          rw [Nat.add_mul,Nat.one_mul,Nat.mul_comm ht] at h2
          omega
         have hq64 : R.start.length≤64:=by
          have h1:=HV.out.area
          rw [HHT.out,HWD.out,← Int.natCast_mul] at h1
          have h2 : wd * ht≤8 * 8:=Nat.mul_le_mul wd8.2 ht8.2
          omega
         obtain ⟨zc,hzc⟩ : ∃ z,R.start[q]? = some z:=⟨_,List.getElem?_eq_getElem hql⟩
         have hzr:=HV.out.start zc (List.mem_of_getElem? hzc)
         obtain ⟨sb,so,rfl,hcz⟩:=HS.out q hql
         rw [show R.start.getD q 0=zc by rw [List.getD_eq_getElem?_getD,hzc]; rfl] at hcz
         have HZC:=Lib.hid (Ext.cell X3.out hcz)
         have HCE:=Lib.hid (fun W (x : Ext w3 W) => rcell_any R _ zc W (HRR.out W (ext_trans X3.out x)) HLT.out hzr.1 hzr.2 HV.out.pieces6)
         have HSN:=Lib.hid (rowP_snoc (R:=R) (y:=y) (x:=x) (q:=q) (z:=zc) (by rw [hq,HWD.out]; rfl) hzc)
         obtain ⟨BL0,hBL⟩ : ∃ l,l=rowP R y x:=⟨_,rfl⟩
         have HBN:=Lib.hid (show BL0.length≤1000 from by rw [hBL]; exact Nat.le_trans (rowP_len R y x (by omega)) (by decide))
         rw [← hBL] at hB HSN ⊢
         have HBR:=Lib.hid hB
         have HO:=Lib.hid hO
         have HXW:=Lib.hid hxw
         obtain ⟨sv,hsv⟩ : ∃ v,v=Value.slice bA BL0.length bc:=⟨_,rfl⟩
         rw [← hsv] at HBR
         have hm1 : IntKind.i64.wrap ((y : Int) * R.width)=(a : Int):=by rw [HWD.out,← Int.natCast_mul,← ha,IntKind.wrap_i64]; omega
         have hm2 : IntKind.i64.wrap ((a : Int) + (x : Int))=(q : Int):=by rw [IntKind.wrap_i64]; omega
         have qI : (q : Int) < (R.start.length : Int):=by omega
         have t0 : decide ((x : Int) < (wd : Int))=true:=decide_eq_true (by omega)
         have t0n : decide (x < wd)=true:=decide_eq_true hxw
         have xI : (x : Int) < (wd : Int):=by omega
         have x8 : x≤8:=by omega
         have z0 : Ext wr wr.drew:=Below.drew (Below.refl _ _)
         clear hzc hzr hcz hB hO hBL hxw hq ha hx hbc
         go_upto_region 22 with fail
         subst hsv
         have keepK:=hide (fun W (h : Ext w3 W) => (show (fun W => W.cell? ⟨B,0,none⟩=some (.string R.name)∧W.cell? ⟨B,1,none⟩=some (.int .i64 R.width)∧W.cell? ⟨B,2,none⟩=some (.int .i64 R.height)∧W.cell? ⟨B,3,none⟩=some (.slice pA R.pieces.length pc)∧W.cell? ⟨B,4,none⟩=some (.slice (some ⟨sb,so,none⟩) R.start.length sc)∧W.cell? ⟨B,5,none⟩=some (.bool R.falls)∧W.cell? ⟨B,6,none⟩=some (.bool R.keeps)∧W.cell? ⟨B,7,none⟩=some (.slice eA R.ends.length ec)∧W.cell? ⟨B,8,none⟩=some (.int .i64 R.blocked)∧W.cell? ⟨B,9,none⟩=some (.int .i64 R.quiet)∧W.cell? ⟨B,10,none⟩=some (.int .i64 R.rept)∧W.cell? ⟨sb,so + q,none⟩=some (.int .i64 zc)∧Ext w3 W) W from ⟨(KB3.out.ext h).cell 0,(KB3.out.ext h).cell 1,(KB3.out.ext h).cell 2,(KB3.out.ext h).cell 3,(KB3.out.ext h).cell 4,(KB3.out.ext h).cell 5,(KB3.out.ext h).cell 6,(KB3.out.ext h).cell 7,(KB3.out.ext h).cell 8,(KB3.out.ext h).cell 9,(KB3.out.ext h).cell 10,Ext.cell h HZC.out,h⟩))
         have yy:=ext_trans HO.out.2 z0
         refine region_K (fun W => W.cell? ⟨B,0,none⟩=some (.string R.name)∧W.cell? ⟨B,1,none⟩=some (.int .i64 R.width)∧W.cell? ⟨B,2,none⟩=some (.int .i64 R.height)∧W.cell? ⟨B,3,none⟩=some (.slice pA R.pieces.length pc)∧W.cell? ⟨B,4,none⟩=some (.slice (some ⟨sb,so,none⟩) R.start.length sc)∧W.cell? ⟨B,5,none⟩=some (.bool R.falls)∧W.cell? ⟨B,6,none⟩=some (.bool R.keeps)∧W.cell? ⟨B,7,none⟩=some (.slice eA R.ends.length ec)∧W.cell? ⟨B,8,none⟩=some (.int .i64 R.blocked)∧W.cell? ⟨B,9,none⟩=some (.int .i64 R.quiet)∧W.cell? ⟨B,10,none⟩=some (.int .i64 R.rept)∧W.cell? ⟨sb,so + q,none⟩=some (.int .i64 zc)∧Ext w3 W) (fun _ => True) [] (by kernel_rfl) ?_
         have hT0:=keepK.out _ yy
         refine anyK_take 0 (oi:=?oo108) ?ho108 (by kernel_rfl) (by kernel_rfl) (by kernel_rfl) (by kernel_rfl) ?hq108 ?hw108 hT0 (fun _ => trivial) (v:=?vv108) ?hy108 ?hk108
         case ho108 => (simp only [List.getElem?_toArray,List.getElem?_cons_succ,List.getElem?_cons_zero]; rfl)
         case hq108 => exact fun _ _ _ h => h
         case hw108 => rfl
         case hy108 =>
          intro W hW
          go_simp
          first | done | with_reducible rfl
         case hk108 =>
         try simp only [Act.put,List.setIfInBounds_toArray,List.set_cons_zero,List.set_cons_succ]
         refine anyK_take 1 (oi:=?oo109) ?ho109 (by kernel_rfl) (by kernel_rfl) (by kernel_rfl) (by kernel_rfl) ?hq109 ?hw109 hT0 (fun _ => trivial) (v:=?vv109) ?hy109 ?hk109
         case ho109 => (simp only [List.getElem?_toArray,List.getElem?_cons_succ,List.getElem?_cons_zero]; rfl)
         case hq109 => exact fun _ _ _ h => h
         case hw109 => rfl
         case hy109 =>
          intro W hW
          obtain ⟨z0,z1,z2,z3,z4,z5,z6,z7,z8,z9,z10,z11,z12⟩:=hW
          go_simp
          first | done | with_reducible rfl
         case hk109 =>
         try simp only [Act.put,List.setIfInBounds_toArray,List.set_cons_zero,List.set_cons_succ]
         refine anyK_take 2 (oi:=?oo110) ?ho110 (by kernel_rfl) (by kernel_rfl) (by kernel_rfl) (by kernel_rfl) ?hq110 ?hw110 hT0 (fun _ => trivial) (v:=?vv110) ?hy110 ?hk110
         case ho110 => (simp only [List.getElem?_toArray,List.getElem?_cons_succ,List.getElem?_cons_zero]; rfl)
         case hq110 => exact fun _ _ _ h => h
         case hw110 => rfl
         case hy110 =>
          intro W hW
          go_simp
          first | done | with_reducible rfl
         case hk110 =>
         try simp only [Act.put,List.setIfInBounds_toArray,List.set_cons_zero,List.set_cons_succ]
         refine anyK_take 3 (oi:=?oo111) ?ho111 (by kernel_rfl) (by kernel_rfl) (by kernel_rfl) (by kernel_rfl) ?hq111 ?hw111 hT0 (fun _ => trivial) (v:=?vv111) ?hy111 ?hk111
         case ho111 => (simp only [List.getElem?_toArray,List.getElem?_cons_succ,List.getElem?_cons_zero]; rfl)
         case hq111 => exact fun _ _ _ h => h
         case hw111 => rfl
         case hy111 =>
          intro W hW
          obtain ⟨z0,z1,z2,z3,z4,z5,z6,z7,z8,z9,z10,z11,z12⟩:=hW
          go_simp
          first | done | with_reducible rfl
         case hk111 =>
         try simp only [Act.put,List.setIfInBounds_toArray,List.set_cons_zero,List.set_cons_succ]
         refine anyK_take 4 (oi:=?oo112) ?ho112 (by kernel_rfl) (by kernel_rfl) (by kernel_rfl) (by kernel_rfl) ?hq112 ?hw112 hT0 (fun _ => trivial) (v:=?vv112) ?hy112 ?hk112
         case ho112 => (simp only [List.getElem?_toArray,List.getElem?_cons_succ,List.getElem?_cons_zero]; rfl)
         case hq112 => exact fun _ _ _ h => h
         case hw112 => rfl
         case hy112 =>
          intro W hW
          go_simp
          first | done | with_reducible rfl
         case hk112 =>
         try simp only [Act.put,List.setIfInBounds_toArray,List.set_cons_zero,List.set_cons_succ]
         refine anyK_take 5 (oi:=?oo113) ?ho113 (by kernel_rfl) (by kernel_rfl) (by kernel_rfl) (by kernel_rfl) ?hq113 ?hw113 hT0 (fun _ => trivial) (v:=?vv113) ?hy113 ?hk113
         case ho113 => (simp only [List.getElem?_toArray,List.getElem?_cons_succ,List.getElem?_cons_zero]; rfl)
         case hq113 => exact fun _ _ _ h => h
         case hw113 => rfl
         case hy113 =>
          intro W hW
          go_simp
          first | done | with_reducible rfl
         case hk113 =>
         try simp only [Act.put,List.setIfInBounds_toArray,List.set_cons_zero,List.set_cons_succ]
         refine anyK_take 6 (oi:=?oo114) ?ho114 (by kernel_rfl) (by kernel_rfl) (by kernel_rfl) (by kernel_rfl) ?hq114 ?hw114 hT0 (fun _ => trivial) (v:=?vv114) ?hy114 ?hk114
         case ho114 => (simp only [List.getElem?_toArray,List.getElem?_cons_succ,List.getElem?_cons_zero]; rfl)
         case hq114 => exact fun _ _ _ h => h
         case hw114 => rfl
         case hy114 =>
          intro W hW
          obtain ⟨z0,z1,z2,z3,z4,z5,z6,z7,z8,z9,z10,z11,z12⟩:=hW
          go_simp
          first | done | with_reducible rfl
         case hk114 =>
         try simp only [Act.put,List.setIfInBounds_toArray,List.set_cons_zero,List.set_cons_succ]
         refine anyK_take 7 (oi:=?oo115) ?ho115 (by kernel_rfl) (by kernel_rfl) (by kernel_rfl) (by kernel_rfl) ?hq115 ?hw115 hT0 (fun _ => trivial) (v:=?vv115) ?hy115 ?hk115
         case ho115 => (simp only [List.getElem?_toArray,List.getElem?_cons_succ,List.getElem?_cons_zero]; rfl)
         case hq115 => exact fun _ _ _ h => h
         case hw115 => rfl
         case hy115 =>
          intro W hW
          go_simp
          first | done | with_reducible rfl
         case hk115 =>
         try simp only [Act.put,List.setIfInBounds_toArray,List.set_cons_zero,List.set_cons_succ]
         refine anyK_take 8 (oi:=?oo116) ?ho116 (by kernel_rfl) (by kernel_rfl) (by kernel_rfl) (by kernel_rfl) ?hq116 ?hw116 hT0 (fun _ => trivial) (v:=?vv116) ?hy116 ?hk116
         case ho116 => (simp only [List.getElem?_toArray,List.getElem?_cons_succ,List.getElem?_cons_zero]; rfl)
         case hq116 => exact fun _ _ _ h => h
         case hw116 => rfl
         case hy116 =>
          intro W hW
          go_simp
          first | done | with_reducible rfl
         case hk116 =>
         try simp only [Act.put,List.setIfInBounds_toArray,List.set_cons_zero,List.set_cons_succ]
         refine anyK_take 9 (oi:=?oo117) ?ho117 (by kernel_rfl) (by kernel_rfl) (by kernel_rfl) (by kernel_rfl) ?hq117 ?hw117 hT0 (fun _ => trivial) (v:=?vv117) ?hy117 ?hk117
         case ho117 => (simp only [List.getElem?_toArray,List.getElem?_cons_succ,List.getElem?_cons_zero]; rfl)
         case hq117 => exact fun _ _ _ h => h
         case hw117 => rfl
         case hy117 =>
          intro W hW
          go_simp
          first | done | with_reducible rfl
         case hk117 =>
         try simp only [Act.put,List.setIfInBounds_toArray,List.set_cons_zero,List.set_cons_succ]
         refine anyK_take 10 (oi:=?oo118) ?ho118 (by kernel_rfl) (by kernel_rfl) (by kernel_rfl) (by kernel_rfl) ?hq118 ?hw118 hT0 (fun _ => trivial) (v:=?vv118) ?hy118 ?hk118
         case ho118 => (simp only [List.getElem?_toArray,List.getElem?_cons_succ,List.getElem?_cons_zero]; rfl)
         case hq118 => exact fun _ _ _ h => h
         case hw118 => rfl
         case hy118 =>
          intro W hW
          go_simp
          first | done | with_reducible rfl
         case hk118 =>
         try simp only [Act.put,List.setIfInBounds_toArray,List.set_cons_zero,List.set_cons_succ]
         refine anyK_take 11 (oi:=?oo119) ?ho119 (by kernel_rfl) (by kernel_rfl) (by kernel_rfl) (by kernel_rfl) ?hq119 ?hw119 hT0 (fun _ => trivial) (v:=?vv119) ?hy119 ?hk119
         case ho119 => (simp only [List.getElem?_toArray,List.getElem?_cons_succ,List.getElem?_cons_zero]; rfl)
         case hq119 => exact fun _ _ _ h => h
         case hw119 => rfl
         case hy119 =>
          intro W hW
          obtain ⟨z0,z1,z2,z3,z4,z5,z6,z7,z8,z9,z10,z11,z12⟩:=hW
          go_simp
          first | done | with_reducible rfl
         case hk119 =>
         try simp only [Act.put,List.setIfInBounds_toArray,List.set_cons_zero,List.set_cons_succ]
         refine anyK_on1 12 (by kernel_rfl) ?_
         refine anyK_one 12 (o:=?oo120) ?ho120 ?hk120
         case ho120 => (simp only [List.getElem?_toArray,List.getElem?_cons_succ,List.getElem?_cons_zero]; rfl)
         case hk120 =>
         intro K hK
         go_simp
         refine (HCE.out _ yy).mono ?_
         rintro e wa ⟨rfl,xx⟩
         try go_wp2_with fail
         replace yy:=ext_trans yy xx
         have z1:=ext_trans z0 xx
         have hT1:=keepK.out _ yy
         refine hK.out _ _ hT1 (fun _ => trivial) ?_
         clear hK K
         try simp only [Act.put,List.setIfInBounds_toArray,List.set_cons_zero,List.set_cons_succ]
         refine anyK_on1 13 (by kernel_rfl) ?_
         refine anyK_one 13 (o:=?oo121) ?ho121 ?hk121
         case ho121 => (simp only [List.getElem?_toArray,List.getElem?_cons_succ,List.getElem?_cons_zero]; rfl)
         case hk121 =>
         intro K hK
         go_simp
         have zk:=yy
         replace yy:=ext_alloc yy (.cells #[(.int .u8 ((cellT R.pieces zc).toNat : Int))] 5)
         have hT2:=keepK.out _ yy
         refine hK.out _ _ hT2 (fun _ => trivial) ?_
         clear hK K
         try simp only [Act.put,List.setIfInBounds_toArray,List.set_cons_zero,List.set_cons_succ]
         refine anyK_on1 14 (by kernel_rfl) ?_
         refine anyK_one 14 (o:=?oo122) ?ho122 ?hk122
         case ho122 => (simp only [List.getElem?_toArray,List.getElem?_cons_succ,List.getElem?_cons_zero]; rfl)
         case hk122 =>
         intro K hK
         refine oper_append_b (.tmp 107) (.tmp 120) rfl w3 wa (.slice bA BL0.length bc) (.slice oA oL.length oc) BL0 (cellT R.pieces zc) oL rfl (HBR.out.ext z1) rfl (HO.out.ext z1) HBN.out ?_
         intro v9 w9 own9 o9
         have HR9:=Lib.hid own9
         have HO9:=Lib.hid o9
         replace yy:=o9.2
         clear own9 o9 zk
         have hT3:=keepK.out _ yy
         refine hK.out _ _ hT3 (fun _ => trivial) ?_
         clear hK K
         try simp only [Act.put,List.setIfInBounds_toArray,List.set_cons_zero,List.set_cons_succ]
         refine anyK_take 15 (oi:=?oo123) ?ho123 (by kernel_rfl) (by kernel_rfl) (by kernel_rfl) (by kernel_rfl) ?hq123 ?hw123 hT3 (fun _ => trivial) (v:=?vv123) ?hy123 ?hk123
         case ho123 => (simp only [List.getElem?_toArray,List.getElem?_cons_succ,List.getElem?_cons_zero]; rfl)
         case hq123 => exact fun _ _ _ h => h
         case hw123 => rfl
         case hy123 =>
          intro W hW
          go_simp
          first | done | with_reducible rfl
         case hk123 =>
         try simp only [Act.put,List.setIfInBounds_toArray,List.set_cons_zero,List.set_cons_succ]
         refine anyK_done (by kernel_rfl) ?_ _
         clear keepK hT0 hT1 hT2 hT3
         have HR10:=Lib.hid (show BRow w3 w9 v9 (rowP R y (x + 1)) from by rw [HSN.out]; exact .inl HR9.out)
         clear yy HR9
         go_wp2_with fail
         refine ⟨⟨x + 1,HXW.out,by go_num,HR10.out,HO9.out⟩,?_⟩
         have:=HXW.out
         simp [RowKit.intOf]
         omega
        ·obtain rfl : wd=x:=by omega
         have HRT:=Lib.hid (show rowP R y wd=lineT (rowWs R y) from by rw [rowT_eq]; unfold rowP; rw [HWD.out]; rfl)
         have hcb:=conv_back (c:=bc) hbc (by unfold rowP; simp)
         rw [HRT.out] at hcb hB hbc
         rw [HRT.out]
         obtain ⟨LL,hLL⟩ : ∃ l,l=lineT (rowWs R y):=⟨_,rfl⟩
         rw [← hLL] at hcb HYS
         obtain ⟨bl,hbl⟩ : ∃ k,k=LL.length:=⟨_,rfl⟩
         rw [← hLL,← hbl]
         rw [← hbl] at hcb
         have HO:=Lib.hid hO
         clear hB hO hx hxw hbc hLL hbl HRT
         go_wp2_with (at_builtin; refine wp_append_r (.tmp 123) (.tmp 126) rfl 54 rfl 9 1 16 (.string ⟨#[]⟩) Tryz.underlying54 strInfoJ rfl (by decide) (by decide) w3 wr (.slice oA oL.length oc) oL.length (strsC oL) [.string (strU LL)] rfl HO.out.1 rfl rfl (by simp [Value.oneCell']) HO.out.2 (by have:=HOL.out; omega) ?_; intro v24 w24 own24 x24 _)
         have HO9:=Lib.hid (show PrSt w3 (oL ++ [LL]) v24 w24 from ⟨by rw [strsC_snoc,List.length_append]; exact own24,x24⟩)
         clear own24 x24
         have hwy : IntKind.i64.wrap ((y : Int) - 1)=(y : Int) - 1:=by have:=HKN.out; rw [IntKind.wrap_i64]; omega
         go_wp2_with fail
         have hwe : wrap64 ((y : Int) - 1)=(y : Int) - 1:=by have:=HKN.out; unfold wrap64; omega
         (try rw [hwe])
         refine ⟨⟨k + 1,HKN.out.1,by have h:=HKN.out; simp only [Value.int.injEq,true_and]; omega,by rw [HYS.out]; exact HO9.out⟩,?_⟩
         have:=HKN.out
         simp [RowKit.intOf]
         try omega
      ·obtain rfl : ht=k:=by omega
       have hneg : (ht : Int) - 1 - (ht : Int)=-1:=by omega
       rw [hneg]
       have HTK:=Lib.hid (show (rowsWs R).take ht=rowsWs R from List.take_of_length_le (by rw [rowsWs_len,HHT.out]; exact Nat.le_refl _))
       have HOF:=Lib.hid hO
       rw [HTK.out] at HOF
       clear hO hk hkn hneg
       go_wp2_with fail
       go_meet
       exact HOF.out
    case rest =>
     obtain ⟨L3,hL3⟩ : ∃ L,L=L2 ++ (rowsWs R).map lineT:=⟨_,rfl⟩
     rw [← hL3] at hcut
     have HL3E:=Lib.hid hL3
     have HO3:=Lib.hid hcut
     have HL3N:=Lib.hid (show L3.length≤120 from by
      have h:=HL2N.out
      rw [hL3,List.length_append,List.length_map,rowsWs_len,HHT.out]
      have : ((ht : Int)).toNat=ht:=rfl
      omega)
     obtain ⟨fl,hfl⟩ : ∃ b,b=R.falls:=⟨_,rfl⟩
     have HFL:=Lib.hid hfl
     have c5 : wc.cell? ⟨B,5,none⟩=some (.bool fl):=by rw [hfl]; exact (KB3.out.ext hcut.2).cell 5
     clear hcut hL3 hfl hw1
     go_upto_if 129 with fail
     go_cut [5] (fun s5 wx => PrSt w3 (L3 ++ (flagWs fl wFalls).map lineT) s5 wx)
     case first => as_aux_lemma =>
      cases fl with
      | false =>
       go_wp2_with fail
       go_meet
       simpa [flagWs] using HO3.out
      | true =>
       obtain ⟨oL,hoL⟩ : ∃ l,l=L3:=⟨_,rfl⟩
       have hO:=HO3.out
       rw [← hoL] at hO
       obtain ⟨oA,oc,hs⟩:=hO.shape
       subst hs
       have HO:=Lib.hid hO
       have HOL:=Lib.hid (show oL.length≤300 from by rw [hoL]; have:=HL3N.out; omega)
       have HEQ:=Lib.hid hoL
       clear hO hoL c5 HO3
       go_wp2_with (at_builtin; refine wp_append_r (.tmp 130) (.tmp 131) rfl 54 rfl 9 1 16 (.string ⟨#[]⟩) Tryz.underlying54 strInfoJ rfl (by decide) (by decide) w3 wc (.slice oA oL.length oc) oL.length (strsC oL) [.string ⟨#[102,97,108,108,115]⟩] rfl HO.out.1 rfl rfl (by simp [Value.oneCell']) HO.out.2 (by have:=HOL.out; omega) ?_; intro v26 w26 own26 x26 _)
       go_wp2_with fail
       go_meet
       refine ⟨?_,x26⟩
       rw [← HEQ.out]
       show OwnR _ _ _ _ _ (oL ++ [wFalls]).length (strsC (oL ++ [wFalls]))
       rw [strsC_snoc,List.length_append]
       exact own26
     case rest =>
      obtain ⟨L4,hL4⟩ : ∃ L,L=L3 ++ (flagWs fl wFalls).map lineT:=⟨_,rfl⟩
      rw [← hL4] at hcut
      have HL4E:=Lib.hid hL4
      have HO4:=Lib.hid hcut
      have HL4N:=Lib.hid (show L4.length≤121 from by
       have h:=HL3N.out
       rw [hL4,List.length_append,List.length_map]
       have : (flagWs fl wFalls).length≤1:=by unfold flagWs; split <;> simp
       omega)
      obtain ⟨kp,hkp⟩ : ∃ b,b=R.keeps:=⟨_,rfl⟩
      have HKP:=Lib.hid hkp
      have c6 : wc.cell? ⟨B,6,none⟩=some (.bool kp):=by rw [hkp]; exact (KB3.out.ext hcut.2).cell 6
      clear hcut hL4 hkp c5
      go_upto_if 134 with fail
      go_cut [5] (fun s5 wx => PrSt w3 (L4 ++ (flagWs kp wKeeps).map lineT) s5 wx)
      case first => as_aux_lemma =>
       cases kp with
       | false =>
        go_wp2_with fail
        go_meet
        simpa [flagWs] using HO4.out
       | true =>
        obtain ⟨oL,hoL⟩ : ∃ l,l=L4:=⟨_,rfl⟩
        have hO:=HO4.out
        rw [← hoL] at hO
        obtain ⟨oA,oc,hs⟩:=hO.shape
        subst hs
        have HO:=Lib.hid hO
        have HOL:=Lib.hid (show oL.length≤300 from by rw [hoL]; have:=HL4N.out; omega)
        have HEQ:=Lib.hid hoL
        clear hO hoL c6 HO4
        go_wp2_with (at_builtin; refine wp_append_r (.tmp 135) (.tmp 136) rfl 54 rfl 9 1 16 (.string ⟨#[]⟩) Tryz.underlying54 strInfoJ rfl (by decide) (by decide) w3 wc (.slice oA oL.length oc) oL.length (strsC oL) [.string ⟨#[107,101,101,112,115]⟩] rfl HO.out.1 rfl rfl (by simp [Value.oneCell']) HO.out.2 (by have:=HOL.out; omega) ?_; intro v28 w28 own28 x28 _)
        go_wp2_with fail
        go_meet
        refine ⟨?_,x28⟩
        rw [← HEQ.out]
        show OwnR _ _ _ _ _ (oL ++ [wKeeps]).length (strsC (oL ++ [wKeeps]))
        rw [strsC_snoc,List.length_append]
        exact own28
      case rest =>
       obtain ⟨L5,hL5⟩ : ∃ L,L=L4 ++ (flagWs kp wKeeps).map lineT:=⟨_,rfl⟩
       rw [← hL5] at hcut
       have HL5E:=Lib.hid hL5
       have HO5:=Lib.hid hcut
       have HL5N:=Lib.hid (show L5.length≤122 from by
        have h:=HL4N.out
        rw [hL5,List.length_append,List.length_map]
        have : (flagWs kp wKeeps).length≤1:=by unfold flagWs; split <;> simp
        omega)
       obtain ⟨ne,hne⟩ : ∃ n,n=R.ends.length:=⟨_,rfl⟩
       have HNE:=Lib.hid hne
       have hne6 : ne≤6:=by rw [hne]; exact HV.out.ends6
       have c7 : wc.cell? ⟨B,7,none⟩=some (.slice eA ne ec):=by rw [hne]; exact (KB3.out.ext hcut.2).cell 7
       have HEN:=Lib.hid (fun (x : EndM) (hx : x ∈ R.ends) W (y : Ext w3 W) => rend_any R _ x W (HRR.out W (ext_trans X3.out y)) HLT.out HV.out.pieces6 (valid_end HV.out x hx) (HLW.out W (ext_trans X3.out y)))
       clear hcut hL5 hne c6
       go_upto_block 8 with fail
       go_cut [5] (fun s5 wx => PrSt w3 (L5 ++ R.ends.map (fun e => lineT (endWs R.pieces e))) s5 wx)
       case first => as_aux_lemma =>
        go_wp2_with fail
        clear c7
        go_loopw [5,141] (fun sv kv wr => ∃ k : Nat,k≤ne∧kv=.int .i64 (k : Int)∧PrSt w3 (L5 ++ (R.ends.take k).map (fun e => lineT (endWs R.pieces e))) sv wr) (fun sv kv wr => ne - (RowKit.intOf kv).toNat)
        case atStart => exact ⟨0,Nat.zero_le _,rfl,by simpa using HO5.out⟩
        case round =>
         obtain ⟨k,hk,rfl,hO⟩:=hrel
         clear HO5
         by_cases hkn : k < ne
         ·obtain ⟨x,hxk⟩ : ∃ x,R.ends[k]? = some x:=⟨_,List.getElem?_eq_getElem (by rw [← HNE.out]; exact hkn)⟩
          have HEX:=Lib.hid (HEN.out x (List.mem_of_getElem? hxk))
          have HYS:=Lib.hid (show L5 ++ (R.ends.take (k + 1)).map (fun e => lineT (endWs R.pieces e))=(L5 ++ (R.ends.take k).map (fun e => lineT (endWs R.pieces e))) ++ [lineT (endWs R.pieces x)] from by
           rw [List.take_add_one,hxk]
           simp)
          obtain ⟨eb,eo,rfl,y0,y1,y2,y3⟩:=EndsAt.get (w:=wr) (A:=eA) (es:=R.ends) (CellsAt.ext HED.out (ext_trans X3.out hO.2)) hxk
          obtain ⟨oL,hoL⟩ : ∃ L,L=L5 ++ (R.ends.take k).map (fun e => lineT (endWs R.pieces e)):=⟨_,rfl⟩
          rw [← hoL] at hO HYS
          have HOL:=Lib.hid (show oL.length≤300 from by
           have h:=HL5N.out
           rw [hoL,List.length_append,List.length_map,List.length_take]
           omega)
          obtain ⟨oA,oc,rfl⟩:=hO.shape
          have HO0:=Lib.hid hO
          have HKN:=Lib.hid hkn
          have t0 : decide ((k : Int) < (ne : Int))=true:=decide_eq_true (by omega)
          have t0n : decide (k < ne)=true:=decide_eq_true hkn
          have kI : (k : Int) < (ne : Int):=by omega
          have k6 : k≤6:=by omega
          obtain ⟨x8,kp8⟩:=blks1 wr #[.int .i64 x.kind,.int .i64 x.piece,.int .i64 x.count,.bool x.loses] 66
          have HX8:=Lib.hid x8
          have HP8:=Lib.hid kp8
          clear hO hoL hxk hkn hk x8 kp8
          go_upto_region 32 with fail
          clear y0 y1 y2 y3
          generalize wr.alloc _=w31 at *
          obtain ⟨EB,hEB⟩ : ∃ EB,EB=wr.heap.size:=⟨_,rfl⟩
          rw [← hEB] at HP8 ⊢
          have HO1:=Lib.hid (HO0.out.ext HX8.out)
          have hce:=HP8.out.cell
          have hcB:=(KB3.out.ext HO1.out.2).cell
          clear hEB HX8 HO0
          go_wp2_with fail
          refine (HEX.out _ HO1.out.2).mono ?_
          rintro e w32 ⟨rfl,x32⟩
          have HO:=Lib.hid (HO1.out.ext x32)
          clear hce hcB x32 HO1 HP8
          go_wp2_with (at_builtin; refine wp_append_r (.tmp 145) (.tmp 149) rfl 54 rfl 9 1 16 (.string ⟨#[]⟩) Tryz.underlying54 strInfoJ rfl (by decide) (by decide) w3 w32 (.slice oA oL.length oc) oL.length (strsC oL) [.string (strU (lineT (endWs R.pieces x)))] rfl HO.out.1 rfl rfl (by simp [Value.oneCell']) HO.out.2 (by have:=HOL.out; omega) ?_; intro v33 w33 own33 x33 _)
          have HO9:=Lib.hid (show PrSt w3 (oL ++ [lineT (endWs R.pieces x)]) v33 w33 from ⟨by rw [strsC_snoc,List.length_append]; exact own33,x33⟩)
          clear own33 x33
          go_wp2_with fail
          refine ⟨⟨k + 1,HKN.out,by go_num,by rw [HYS.out]; exact HO9.out⟩,?_⟩
          have:=HKN.out
          simp [RowKit.intOf]
          omega
         ·obtain rfl : ne=k:=by omega
          have HTK:=Lib.hid (show R.ends.take ne=R.ends from List.take_of_length_le (by rw [HNE.out]; exact Nat.le_refl _))
          have HOF:=Lib.hid hO
          rw [HTK.out] at HOF
          clear hO hk hkn
          go_wp2_with fail
          go_meet
          exact HOF.out
       case rest =>
        obtain ⟨oL,hoL⟩ : ∃ L,L=L5 ++ R.ends.map (fun e => lineT (endWs R.pieces e)):=⟨_,rfl⟩
        rw [← hoL] at hcut
        have HL6E:=Lib.hid hoL
        have HOL:=Lib.hid (show oL.length≤300 from by
         have h:=HL5N.out
         have h6:=HV.out.ends6
         rw [hoL,List.length_append,List.length_map]
         omega)
        obtain ⟨oA,oc,hs5⟩:=hcut.shape
        subst hs5
        have HO:=Lib.hid hcut
        have HLA:=Lib.hid (valid_last HV.out)
        obtain ⟨S2,hS2⟩ : ∃ S,S=strU (Lib.itoa R.quiet):=⟨_,rfl⟩
        obtain ⟨S3,hS3⟩ : ∃ S,S=strU (Lib.itoa R.rept):=⟨_,rfl⟩
        have hqr : -10000 < R.quiet∧R.quiet < 10000:=by have:=HLA.out; omega
        have hrr : -10000 < R.rept∧R.rept < 10000:=by have:=HLA.out; omega
        have z2' : S2.size≤8:=by rw [hS2,strU_size]; exact itoa_len8 hqr.1 hqr.2
        have z3' : S3.size≤8:=by rw [hS3,strU_size]; exact itoa_len8 hrr.1 hrr.2
        have HI2:=Lib.hid (fun W (x : Ext w3 W) => itoa_of R.quiet hqr W (HLW.out W (ext_trans X3.out x)) S2 hS2)
        have HI3:=Lib.hid (fun W (x : Ext w3 W) => itoa_of R.rept hrr W (HLW.out W (ext_trans X3.out x)) S3 hS3)
        have z0 : Ext wc wc.drew:=Below.drew (Below.refl _ _)
        have hb3 : R.blocked=0∨R.blocked=1∨R.blocked=2:=by have:=HLA.out; omega
        clear hcut hoL c7 hqr hrr
        go_upto_region 34 with fail
        go_cut [5] (fun s5 wx => PrSt w3 (oL ++ (tailWs R).map lineT) s5 wx)
        case first => as_aux_lemma =>
         rcases hb3 with hbk | hbk | hbk
         ·have HBK:=Lib.hid hbk
          have KBZ:=Lib.hid (show Blk w3 B 26 #[.string R.name,.int .i64 R.width,.int .i64 R.height,.slice pA R.pieces.length pc,.slice sA R.start.length sc,.bool R.falls,.bool R.keeps,.slice eA R.ends.length ec,.int .i64 0,.int .i64 R.quiet,.int .i64 R.rept] from hbk ▸ KB3.out)
          have z1' : (strU wLoses).size≤8:=by rw [strU_size]; decide
          have ix : ∀ W,(Instr.index 61 (.agg #[.string (strU wLoses),.string (strU wWins),.string (strU wDraws)]) (.int .i64 0)).run Tryz.prog W=.ok (.string (strU wLoses)) W:=fun _ => by kernel_rfl
          have lHE10 : (⟨#[98,108,111,99,107,101,100,32]⟩ : ByteArray).size=8:=rfl
          have pHE11 : ¬ (9223372036854775807 < 8 + (strU wLoses).size):=szok (Nat.add_le_add (Nat.le_refl 8) z1') (by decide)
          have HE1:=Lib.hid (show (⟨#[98,108,111,99,107,101,100,32]⟩ : ByteArray) ++ (strU wLoses)=strU (lineT [wBlocked,wLoses]) from by
           show strU [98,108,111,99,107,101,100,32] ++ (strU wLoses)=_
           rw [line2 wBlocked wLoses]
           rw [strU_app]
           rfl)
          have lHE20 : (⟨#[113,117,105,101,116,32]⟩ : ByteArray).size=6:=rfl
          have pHE21 : ¬ (9223372036854775807 < 6 + S2.size):=szok (Nat.add_le_add (Nat.le_refl 6) z2') (by decide)
          have HE2:=Lib.hid (show (⟨#[113,117,105,101,116,32]⟩ : ByteArray) ++ S2=strU (lineT [wQuiet,Lib.itoa R.quiet]) from by
           show strU [113,117,105,101,116,32] ++ S2=_
           rw [hS2,line2 wQuiet (Lib.itoa R.quiet)]
           rw [strU_app]
           rfl)
          have lHE30 : (⟨#[114,101,112,101,97,116,32]⟩ : ByteArray).size=7:=rfl
          have pHE31 : ¬ (9223372036854775807 < 7 + S3.size):=szok (Nat.add_le_add (Nat.le_refl 7) z3') (by decide)
          have HE3:=Lib.hid (show (⟨#[114,101,112,101,97,116,32]⟩ : ByteArray) ++ S3=strU (lineT [wRepeat,Lib.itoa R.rept]) from by
           show strU [114,101,112,101,97,116,32] ++ S3=_
           rw [hS3,line2 wRepeat (Lib.itoa R.rept)]
           rw [strU_app]
           rfl)
          clear hbk hS2 hS3
          have keepK:=hide (fun W (h : Ext w3 W) => (show (fun W => W.cell? ⟨B,0,none⟩=some (.string R.name)∧W.cell? ⟨B,1,none⟩=some (.int .i64 R.width)∧W.cell? ⟨B,2,none⟩=some (.int .i64 R.height)∧W.cell? ⟨B,3,none⟩=some (.slice pA R.pieces.length pc)∧W.cell? ⟨B,4,none⟩=some (.slice sA R.start.length sc)∧W.cell? ⟨B,5,none⟩=some (.bool R.falls)∧W.cell? ⟨B,6,none⟩=some (.bool R.keeps)∧W.cell? ⟨B,7,none⟩=some (.slice eA R.ends.length ec)∧W.cell? ⟨B,8,none⟩=some (.int .i64 0)∧W.cell? ⟨B,9,none⟩=some (.int .i64 R.quiet)∧W.cell? ⟨B,10,none⟩=some (.int .i64 R.rept)∧Ext w3 W) W from ⟨(KBZ.out.ext h).cell 0,(KBZ.out.ext h).cell 1,(KBZ.out.ext h).cell 2,(KBZ.out.ext h).cell 3,(KBZ.out.ext h).cell 4,(KBZ.out.ext h).cell 5,(KBZ.out.ext h).cell 6,(KBZ.out.ext h).cell 7,(KBZ.out.ext h).cell 8,(KBZ.out.ext h).cell 9,(KBZ.out.ext h).cell 10,h⟩))
          have yy:=ext_trans HO.out.2 z0
          refine region_K (fun W => W.cell? ⟨B,0,none⟩=some (.string R.name)∧W.cell? ⟨B,1,none⟩=some (.int .i64 R.width)∧W.cell? ⟨B,2,none⟩=some (.int .i64 R.height)∧W.cell? ⟨B,3,none⟩=some (.slice pA R.pieces.length pc)∧W.cell? ⟨B,4,none⟩=some (.slice sA R.start.length sc)∧W.cell? ⟨B,5,none⟩=some (.bool R.falls)∧W.cell? ⟨B,6,none⟩=some (.bool R.keeps)∧W.cell? ⟨B,7,none⟩=some (.slice eA R.ends.length ec)∧W.cell? ⟨B,8,none⟩=some (.int .i64 0)∧W.cell? ⟨B,9,none⟩=some (.int .i64 R.quiet)∧W.cell? ⟨B,10,none⟩=some (.int .i64 R.rept)∧Ext w3 W) (fun _ => True) [] (by kernel_rfl) ?_
          have hT0:=keepK.out _ yy
          refine anyK_take 0 (oi:=?oo124) ?ho124 (by kernel_rfl) (by kernel_rfl) (by kernel_rfl) (by kernel_rfl) ?hq124 ?hw124 hT0 (fun _ => trivial) (v:=?vv124) ?hy124 ?hk124
          case ho124 => (simp only [List.getElem?_toArray,List.getElem?_cons_succ,List.getElem?_cons_zero]; rfl)
          case hq124 => exact fun _ _ _ h => h
          case hw124 => rfl
          case hy124 =>
           intro W hW
           go_simp
           first | done | with_reducible rfl
          case hk124 =>
          try simp only [Act.put,List.setIfInBounds_toArray,List.set_cons_zero,List.set_cons_succ]
          refine anyK_take 2 (oi:=?oo125) ?ho125 (by kernel_rfl) (by kernel_rfl) (by kernel_rfl) (by kernel_rfl) ?hq125 ?hw125 hT0 (fun _ => trivial) (v:=?vv125) ?hy125 ?hk125
          case ho125 => (simp only [List.getElem?_toArray,List.getElem?_cons_succ,List.getElem?_cons_zero]; rfl)
          case hq125 => exact fun _ _ _ h => h
          case hw125 => rfl
          case hy125 =>
           intro W hW
           go_simp
           first | done | with_reducible rfl
          case hk125 =>
          try simp only [Act.put,List.setIfInBounds_toArray,List.set_cons_zero,List.set_cons_succ]
          refine anyK_take 3 (oi:=?oo126) ?ho126 (by kernel_rfl) (by kernel_rfl) (by kernel_rfl) (by kernel_rfl) ?hq126 ?hw126 hT0 (fun _ => trivial) (v:=?vv126) ?hy126 ?hk126
          case ho126 => (simp only [List.getElem?_toArray,List.getElem?_cons_succ,List.getElem?_cons_zero]; rfl)
          case hq126 => exact fun _ _ _ h => h
          case hw126 => rfl
          case hy126 =>
           intro W hW
           obtain ⟨z0,z1,z2,z3,z4,z5,z6,z7,z8,z9,z10,z11⟩:=hW
           go_simp
           first | done | with_reducible rfl
          case hk126 =>
          try simp only [Act.put,List.setIfInBounds_toArray,List.set_cons_zero,List.set_cons_succ]
          refine anyK_take 6 (oi:=?oo127) ?ho127 (by kernel_rfl) (by kernel_rfl) (by kernel_rfl) (by kernel_rfl) ?hq127 ?hw127 hT0 (fun _ => trivial) (v:=?vv127) ?hy127 ?hk127
          case ho127 => (simp only [List.getElem?_toArray,List.getElem?_cons_succ,List.getElem?_cons_zero]; rfl)
          case hq127 => exact fun _ _ _ h => h
          case hw127 => rfl
          case hy127 =>
           intro W hW
           go_simp
           first | done | with_reducible rfl
          case hk127 =>
          try simp only [Act.put,List.setIfInBounds_toArray,List.set_cons_zero,List.set_cons_succ]
          refine anyK_take 7 (oi:=?oo128) ?ho128 (by kernel_rfl) (by kernel_rfl) (by kernel_rfl) (by kernel_rfl) ?hq128 ?hw128 hT0 (fun _ => trivial) (v:=?vv128) ?hy128 ?hk128
          case ho128 => (simp only [List.getElem?_toArray,List.getElem?_cons_succ,List.getElem?_cons_zero]; rfl)
          case hq128 => exact fun _ _ _ h => h
          case hw128 => rfl
          case hy128 =>
           intro W hW
           obtain ⟨z0,z1,z2,z3,z4,z5,z6,z7,z8,z9,z10,z11⟩:=hW
           go_simp
           first | done | with_reducible rfl
          case hk128 =>
          try simp only [Act.put,List.setIfInBounds_toArray,List.set_cons_zero,List.set_cons_succ]
          refine anyK_take 10 (oi:=?oo129) ?ho129 (by kernel_rfl) (by kernel_rfl) (by kernel_rfl) (by kernel_rfl) ?hq129 ?hw129 hT0 (fun _ => trivial) (v:=?vv129) ?hy129 ?hk129
          case ho129 => (simp only [List.getElem?_toArray,List.getElem?_cons_succ,List.getElem?_cons_zero]; rfl)
          case hq129 => exact fun _ _ _ h => h
          case hw129 => rfl
          case hy129 =>
           intro W hW
           go_simp
           first | done | with_reducible rfl
          case hk129 =>
          try simp only [Act.put,List.setIfInBounds_toArray,List.set_cons_zero,List.set_cons_succ]
          refine anyK_take 11 (oi:=?oo130) ?ho130 (by kernel_rfl) (by kernel_rfl) (by kernel_rfl) (by kernel_rfl) ?hq130 ?hw130 hT0 (fun _ => trivial) (v:=?vv130) ?hy130 ?hk130
          case ho130 => (simp only [List.getElem?_toArray,List.getElem?_cons_succ,List.getElem?_cons_zero]; rfl)
          case hq130 => exact fun _ _ _ h => h
          case hw130 => rfl
          case hy130 =>
           intro W hW
           obtain ⟨z0,z1,z2,z3,z4,z5,z6,z7,z8,z9,z10,z11⟩:=hW
           go_simp
           first | done | with_reducible rfl
          case hk130 =>
          try simp only [Act.put,List.setIfInBounds_toArray,List.set_cons_zero,List.set_cons_succ]
          refine anyK_on1 1 (by kernel_rfl) ?_
          refine anyK_one 1 (o:=?oo131) ?ho131 ?hk131
          case ho131 => (simp only [List.getElem?_toArray,List.getElem?_cons_succ,List.getElem?_cons_zero]; rfl)
          case hk131 =>
          intro K hK
          go_simp
          refine (rblocks_any _).mono ?_
          rintro e wa ⟨rfl,xx⟩
          try go_wp2_with fail
          replace yy:=ext_trans yy xx
          have z1:=ext_trans z0 xx
          have hT1:=keepK.out _ yy
          refine hK.out _ _ hT1 (fun _ => trivial) ?_
          clear hK K
          try simp only [Act.put,List.setIfInBounds_toArray,List.set_cons_zero,List.set_cons_succ]
          refine anyK_take 4 (oi:=?oo132) ?ho132 (by kernel_rfl) (by kernel_rfl) (by kernel_rfl) (by kernel_rfl) ?hq132 ?hw132 hT1 (fun _ => trivial) (v:=?vv132) ?hy132 ?hk132
          case ho132 => (simp only [List.getElem?_toArray,List.getElem?_cons_succ,List.getElem?_cons_zero]; rfl)
          case hq132 => exact fun _ _ _ h => h
          case hw132 => rfl
          case hy132 =>
           intro W hW
           go_simp
           first | done | with_reducible rfl
          case hk132 =>
          try simp only [Act.put,List.setIfInBounds_toArray,List.set_cons_zero,List.set_cons_succ]
          refine anyK_take 5 (oi:=?oo133) ?ho133 (by kernel_rfl) (by kernel_rfl) (by kernel_rfl) (by kernel_rfl) ?hq133 ?hw133 hT1 (fun _ => trivial) (v:=?vv133) ?hy133 ?hk133
          case ho133 => (simp only [List.getElem?_toArray,List.getElem?_cons_succ,List.getElem?_cons_zero]; rfl)
          case hq133 => exact fun _ _ _ h => h
          case hw133 => rfl
          case hy133 =>
           intro W hW
           go_simp
           first | done | with_reducible rfl
          case hk133 =>
          try simp only [Act.put,List.setIfInBounds_toArray,List.set_cons_zero,List.set_cons_succ]
          refine anyK_on1 8 (by kernel_rfl) ?_
          refine anyK_one 8 (o:=?oo134) ?ho134 ?hk134
          case ho134 => (simp only [List.getElem?_toArray,List.getElem?_cons_succ,List.getElem?_cons_zero]; rfl)
          case hk134 =>
          intro K hK
          go_simp
          refine (HI2.out _ yy).mono ?_
          rintro e wb ⟨rfl,xx⟩
          try go_wp2_with fail
          replace yy:=ext_trans yy xx
          have z2:=ext_trans z1 xx
          have hT2:=keepK.out _ yy
          refine hK.out _ _ hT2 (fun _ => trivial) ?_
          clear hK K
          try simp only [Act.put,List.setIfInBounds_toArray,List.set_cons_zero,List.set_cons_succ]
          refine anyK_take 9 (oi:=?oo135) ?ho135 (by kernel_rfl) (by kernel_rfl) (by kernel_rfl) (by kernel_rfl) ?hq135 ?hw135 hT2 (fun _ => trivial) (v:=?vv135) ?hy135 ?hk135
          case ho135 => (simp only [List.getElem?_toArray,List.getElem?_cons_succ,List.getElem?_cons_zero]; rfl)
          case hq135 => exact fun _ _ _ h => h
          case hw135 => rfl
          case hy135 =>
           intro W hW
           go_simp
           first | done | with_reducible rfl
          case hk135 =>
          try simp only [Act.put,List.setIfInBounds_toArray,List.set_cons_zero,List.set_cons_succ]
          refine anyK_on1 12 (by kernel_rfl) ?_
          refine anyK_one 12 (o:=?oo136) ?ho136 ?hk136
          case ho136 => (simp only [List.getElem?_toArray,List.getElem?_cons_succ,List.getElem?_cons_zero]; rfl)
          case hk136 =>
          intro K hK
          go_simp
          refine (HI3.out _ yy).mono ?_
          rintro e wd ⟨rfl,xx⟩
          try go_wp2_with fail
          replace yy:=ext_trans yy xx
          have z3:=ext_trans z2 xx
          have hT3:=keepK.out _ yy
          refine hK.out _ _ hT3 (fun _ => trivial) ?_
          clear hK K
          try simp only [Act.put,List.setIfInBounds_toArray,List.set_cons_zero,List.set_cons_succ]
          refine anyK_take 13 (oi:=?oo137) ?ho137 (by kernel_rfl) (by kernel_rfl) (by kernel_rfl) (by kernel_rfl) ?hq137 ?hw137 hT3 (fun _ => trivial) (v:=?vv137) ?hy137 ?hk137
          case ho137 => (simp only [List.getElem?_toArray,List.getElem?_cons_succ,List.getElem?_cons_zero]; rfl)
          case hq137 => exact fun _ _ _ h => h
          case hw137 => rfl
          case hy137 =>
           intro W hW
           go_simp
           first | done | with_reducible rfl
          case hk137 =>
          try simp only [Act.put,List.setIfInBounds_toArray,List.set_cons_zero,List.set_cons_succ]
          refine anyK_on1 14 (by kernel_rfl) ?_
          refine anyK_one 14 (o:=?oo138) ?ho138 ?hk138
          case ho138 => (simp only [List.getElem?_toArray,List.getElem?_cons_succ,List.getElem?_cons_zero]; rfl)
          case hk138 =>
          intro K hK
          go_simp
          rw [HE1.out,HE2.out,HE3.out]
          have zk:=yy
          replace yy:=ext_alloc yy (.cells #[.string (strU (lineT [wBlocked,wLoses])),.string (strU (lineT [wQuiet,Lib.itoa R.quiet])),.string (strU (lineT [wRepeat,Lib.itoa R.rept]))] 9)
          have hT4:=keepK.out _ yy
          refine hK.out _ _ hT4 (fun _ => trivial) ?_
          clear hK K
          try simp only [Act.put,List.setIfInBounds_toArray,List.set_cons_zero,List.set_cons_succ]
          refine anyK_on1 15 (by kernel_rfl) ?_
          refine anyK_one 15 (o:=?oo139) ?ho139 ?hk139
          case ho139 => (simp only [List.getElem?_toArray,List.getElem?_cons_succ,List.getElem?_cons_zero]; rfl)
          case hk139 =>
          intro K hK
          refine oper_append_a (.tmp 152) (.tmp 166) 54 rfl 9 1 16 (.string ⟨#[]⟩) Tryz.underlying54 strInfoJ rfl (by decide) (by decide) w3 (wd.alloc (.cells #[.string (strU (lineT [wBlocked,wLoses])),.string (strU (lineT [wQuiet,Lib.itoa R.quiet])),.string (strU (lineT [wRepeat,Lib.itoa R.rept]))] 9)) (.slice oA oL.length oc) oL.length (strsC oL) [.string (strU (lineT [wBlocked,wLoses])),.string (strU (lineT [wQuiet,Lib.itoa R.quiet])),.string (strU (lineT [wRepeat,Lib.itoa R.rept]))] rfl (HO.out.1.ext (ext_trans z3 (ext_alloc (Below.refl _ _) _))) (some ⟨wd.heap.size,0,none⟩) 3 3 rfl rfl (cellsAt_new wd 9 [.string (strU (lineT [wBlocked,wLoses])),.string (strU (lineT [wQuiet,Lib.itoa R.quiet])),.string (strU (lineT [wRepeat,Lib.itoa R.rept]))]) (by simp [Value.oneCell']) (fun h => by cases h) yy (by have:=HOL.out; omega) ?_
          intro v9 w9 own9 x9 g9
          have HO9:=Lib.hid own9
          replace yy:=x9
          clear own9 x9 g9 zk
          have hT5:=keepK.out _ yy
          refine hK.out _ _ hT5 (fun _ => trivial) ?_
          clear hK K
          try simp only [Act.put,List.setIfInBounds_toArray,List.set_cons_zero,List.set_cons_succ]
          refine anyK_take 16 (oi:=?oo140) ?ho140 (by kernel_rfl) (by kernel_rfl) (by kernel_rfl) (by kernel_rfl) ?hq140 ?hw140 hT5 (fun _ => trivial) (v:=?vv140) ?hy140 ?hk140
          case ho140 => (simp only [List.getElem?_toArray,List.getElem?_cons_succ,List.getElem?_cons_zero]; rfl)
          case hq140 => exact fun _ _ _ h => h
          case hw140 => rfl
          case hy140 =>
           intro W hW
           go_simp
           first | done | with_reducible rfl
          case hk140 =>
          try simp only [Act.put,List.setIfInBounds_toArray,List.set_cons_zero,List.set_cons_succ]
          refine anyK_done (by kernel_rfl) ?_ _
          clear keepK hT0 hT1 hT2 hT3 hT4 hT5
          go_wp2_with fail
          go_meet
          have e7 : (tailWs R).map lineT=[lineT [wBlocked,wLoses],lineT [wQuiet,Lib.itoa R.quiet],lineT [wRepeat,Lib.itoa R.rept]]:=by
           unfold tailWs
           rw [HBK.out]
           rfl
          refine ⟨?_,yy⟩
          rw [e7,List.length_append]
          have e8 : strsC (oL ++ [lineT [wBlocked,wLoses],lineT [wQuiet,Lib.itoa R.quiet],lineT [wRepeat,Lib.itoa R.rept]])=strsC oL ++ [.string (strU (lineT [wBlocked,wLoses])),.string (strU (lineT [wQuiet,Lib.itoa R.quiet])),.string (strU (lineT [wRepeat,Lib.itoa R.rept]))]:=by simp [strsC]
          rw [e8]
          exact HO9.out
         ·have HBK:=Lib.hid hbk
          have KBZ:=Lib.hid (show Blk w3 B 26 #[.string R.name,.int .i64 R.width,.int .i64 R.height,.slice pA R.pieces.length pc,.slice sA R.start.length sc,.bool R.falls,.bool R.keeps,.slice eA R.ends.length ec,.int .i64 1,.int .i64 R.quiet,.int .i64 R.rept] from hbk ▸ KB3.out)
          have z1' : (strU wWins).size≤8:=by rw [strU_size]; decide
          have ix : ∀ W,(Instr.index 61 (.agg #[.string (strU wLoses),.string (strU wWins),.string (strU wDraws)]) (.int .i64 1)).run Tryz.prog W=.ok (.string (strU wWins)) W:=fun _ => by kernel_rfl
          have lHE10 : (⟨#[98,108,111,99,107,101,100,32]⟩ : ByteArray).size=8:=rfl
          have pHE11 : ¬ (9223372036854775807 < 8 + (strU wWins).size):=szok (Nat.add_le_add (Nat.le_refl 8) z1') (by decide)
          have HE1:=Lib.hid (show (⟨#[98,108,111,99,107,101,100,32]⟩ : ByteArray) ++ (strU wWins)=strU (lineT [wBlocked,wWins]) from by
           show strU [98,108,111,99,107,101,100,32] ++ (strU wWins)=_
           rw [line2 wBlocked wWins]
           rw [strU_app]
           rfl)
          have lHE20 : (⟨#[113,117,105,101,116,32]⟩ : ByteArray).size=6:=rfl
          have pHE21 : ¬ (9223372036854775807 < 6 + S2.size):=szok (Nat.add_le_add (Nat.le_refl 6) z2') (by decide)
          have HE2:=Lib.hid (show (⟨#[113,117,105,101,116,32]⟩ : ByteArray) ++ S2=strU (lineT [wQuiet,Lib.itoa R.quiet]) from by
           show strU [113,117,105,101,116,32] ++ S2=_
           rw [hS2,line2 wQuiet (Lib.itoa R.quiet)]
           rw [strU_app]
           rfl)
          have lHE30 : (⟨#[114,101,112,101,97,116,32]⟩ : ByteArray).size=7:=rfl
          have pHE31 : ¬ (9223372036854775807 < 7 + S3.size):=szok (Nat.add_le_add (Nat.le_refl 7) z3') (by decide)
          have HE3:=Lib.hid (show (⟨#[114,101,112,101,97,116,32]⟩ : ByteArray) ++ S3=strU (lineT [wRepeat,Lib.itoa R.rept]) from by
           show strU [114,101,112,101,97,116,32] ++ S3=_
           rw [hS3,line2 wRepeat (Lib.itoa R.rept)]
           rw [strU_app]
           rfl)
          clear hbk hS2 hS3
          have keepK:=hide (fun W (h : Ext w3 W) => (show (fun W => W.cell? ⟨B,0,none⟩=some (.string R.name)∧W.cell? ⟨B,1,none⟩=some (.int .i64 R.width)∧W.cell? ⟨B,2,none⟩=some (.int .i64 R.height)∧W.cell? ⟨B,3,none⟩=some (.slice pA R.pieces.length pc)∧W.cell? ⟨B,4,none⟩=some (.slice sA R.start.length sc)∧W.cell? ⟨B,5,none⟩=some (.bool R.falls)∧W.cell? ⟨B,6,none⟩=some (.bool R.keeps)∧W.cell? ⟨B,7,none⟩=some (.slice eA R.ends.length ec)∧W.cell? ⟨B,8,none⟩=some (.int .i64 1)∧W.cell? ⟨B,9,none⟩=some (.int .i64 R.quiet)∧W.cell? ⟨B,10,none⟩=some (.int .i64 R.rept)∧Ext w3 W) W from ⟨(KBZ.out.ext h).cell 0,(KBZ.out.ext h).cell 1,(KBZ.out.ext h).cell 2,(KBZ.out.ext h).cell 3,(KBZ.out.ext h).cell 4,(KBZ.out.ext h).cell 5,(KBZ.out.ext h).cell 6,(KBZ.out.ext h).cell 7,(KBZ.out.ext h).cell 8,(KBZ.out.ext h).cell 9,(KBZ.out.ext h).cell 10,h⟩))
          have yy:=ext_trans HO.out.2 z0
          refine region_K (fun W => W.cell? ⟨B,0,none⟩=some (.string R.name)∧W.cell? ⟨B,1,none⟩=some (.int .i64 R.width)∧W.cell? ⟨B,2,none⟩=some (.int .i64 R.height)∧W.cell? ⟨B,3,none⟩=some (.slice pA R.pieces.length pc)∧W.cell? ⟨B,4,none⟩=some (.slice sA R.start.length sc)∧W.cell? ⟨B,5,none⟩=some (.bool R.falls)∧W.cell? ⟨B,6,none⟩=some (.bool R.keeps)∧W.cell? ⟨B,7,none⟩=some (.slice eA R.ends.length ec)∧W.cell? ⟨B,8,none⟩=some (.int .i64 1)∧W.cell? ⟨B,9,none⟩=some (.int .i64 R.quiet)∧W.cell? ⟨B,10,none⟩=some (.int .i64 R.rept)∧Ext w3 W) (fun _ => True) [] (by kernel_rfl) ?_
          have hT0:=keepK.out _ yy
          refine anyK_take 0 (oi:=?oo141) ?ho141 (by kernel_rfl) (by kernel_rfl) (by kernel_rfl) (by kernel_rfl) ?hq141 ?hw141 hT0 (fun _ => trivial) (v:=?vv141) ?hy141 ?hk141
          case ho141 => (simp only [List.getElem?_toArray,List.getElem?_cons_succ,List.getElem?_cons_zero]; rfl)
          case hq141 => exact fun _ _ _ h => h
          case hw141 => rfl
          case hy141 =>
           intro W hW
           go_simp
           first | done | with_reducible rfl
          case hk141 =>
          try simp only [Act.put,List.setIfInBounds_toArray,List.set_cons_zero,List.set_cons_succ]
          refine anyK_take 2 (oi:=?oo142) ?ho142 (by kernel_rfl) (by kernel_rfl) (by kernel_rfl) (by kernel_rfl) ?hq142 ?hw142 hT0 (fun _ => trivial) (v:=?vv142) ?hy142 ?hk142
          case ho142 => (simp only [List.getElem?_toArray,List.getElem?_cons_succ,List.getElem?_cons_zero]; rfl)
          case hq142 => exact fun _ _ _ h => h
          case hw142 => rfl
          case hy142 =>
           intro W hW
           go_simp
           first | done | with_reducible rfl
          case hk142 =>
          try simp only [Act.put,List.setIfInBounds_toArray,List.set_cons_zero,List.set_cons_succ]
          refine anyK_take 3 (oi:=?oo143) ?ho143 (by kernel_rfl) (by kernel_rfl) (by kernel_rfl) (by kernel_rfl) ?hq143 ?hw143 hT0 (fun _ => trivial) (v:=?vv143) ?hy143 ?hk143
          case ho143 => (simp only [List.getElem?_toArray,List.getElem?_cons_succ,List.getElem?_cons_zero]; rfl)
          case hq143 => exact fun _ _ _ h => h
          case hw143 => rfl
          case hy143 =>
           intro W hW
           obtain ⟨z0,z1,z2,z3,z4,z5,z6,z7,z8,z9,z10,z11⟩:=hW
           go_simp
           first | done | with_reducible rfl
          case hk143 =>
          try simp only [Act.put,List.setIfInBounds_toArray,List.set_cons_zero,List.set_cons_succ]
          refine anyK_take 6 (oi:=?oo144) ?ho144 (by kernel_rfl) (by kernel_rfl) (by kernel_rfl) (by kernel_rfl) ?hq144 ?hw144 hT0 (fun _ => trivial) (v:=?vv144) ?hy144 ?hk144
          case ho144 => (simp only [List.getElem?_toArray,List.getElem?_cons_succ,List.getElem?_cons_zero]; rfl)
          case hq144 => exact fun _ _ _ h => h
          case hw144 => rfl
          case hy144 =>
           intro W hW
           go_simp
           first | done | with_reducible rfl
          case hk144 =>
          try simp only [Act.put,List.setIfInBounds_toArray,List.set_cons_zero,List.set_cons_succ]
          refine anyK_take 7 (oi:=?oo145) ?ho145 (by kernel_rfl) (by kernel_rfl) (by kernel_rfl) (by kernel_rfl) ?hq145 ?hw145 hT0 (fun _ => trivial) (v:=?vv145) ?hy145 ?hk145
          case ho145 => (simp only [List.getElem?_toArray,List.getElem?_cons_succ,List.getElem?_cons_zero]; rfl)
          case hq145 => exact fun _ _ _ h => h
          case hw145 => rfl
          case hy145 =>
           intro W hW
           obtain ⟨z0,z1,z2,z3,z4,z5,z6,z7,z8,z9,z10,z11⟩:=hW
           go_simp
           first | done | with_reducible rfl
          case hk145 =>
          try simp only [Act.put,List.setIfInBounds_toArray,List.set_cons_zero,List.set_cons_succ]
          refine anyK_take 10 (oi:=?oo146) ?ho146 (by kernel_rfl) (by kernel_rfl) (by kernel_rfl) (by kernel_rfl) ?hq146 ?hw146 hT0 (fun _ => trivial) (v:=?vv146) ?hy146 ?hk146
          case ho146 => (simp only [List.getElem?_toArray,List.getElem?_cons_succ,List.getElem?_cons_zero]; rfl)
          case hq146 => exact fun _ _ _ h => h
          case hw146 => rfl
          case hy146 =>
           intro W hW
           go_simp
           first | done | with_reducible rfl
          case hk146 =>
          try simp only [Act.put,List.setIfInBounds_toArray,List.set_cons_zero,List.set_cons_succ]
          refine anyK_take 11 (oi:=?oo147) ?ho147 (by kernel_rfl) (by kernel_rfl) (by kernel_rfl) (by kernel_rfl) ?hq147 ?hw147 hT0 (fun _ => trivial) (v:=?vv147) ?hy147 ?hk147
          case ho147 => (simp only [List.getElem?_toArray,List.getElem?_cons_succ,List.getElem?_cons_zero]; rfl)
          case hq147 => exact fun _ _ _ h => h
          case hw147 => rfl
          case hy147 =>
           intro W hW
           obtain ⟨z0,z1,z2,z3,z4,z5,z6,z7,z8,z9,z10,z11⟩:=hW
           go_simp
           first | done | with_reducible rfl
          case hk147 =>
          try simp only [Act.put,List.setIfInBounds_toArray,List.set_cons_zero,List.set_cons_succ]
          refine anyK_on1 1 (by kernel_rfl) ?_
          refine anyK_one 1 (o:=?oo148) ?ho148 ?hk148
          case ho148 => (simp only [List.getElem?_toArray,List.getElem?_cons_succ,List.getElem?_cons_zero]; rfl)
          case hk148 =>
          intro K hK
          go_simp
          refine (rblocks_any _).mono ?_
          rintro e wa ⟨rfl,xx⟩
          try go_wp2_with fail
          replace yy:=ext_trans yy xx
          have z1:=ext_trans z0 xx
          have hT1:=keepK.out _ yy
          refine hK.out _ _ hT1 (fun _ => trivial) ?_
          clear hK K
          try simp only [Act.put,List.setIfInBounds_toArray,List.set_cons_zero,List.set_cons_succ]
          refine anyK_take 4 (oi:=?oo149) ?ho149 (by kernel_rfl) (by kernel_rfl) (by kernel_rfl) (by kernel_rfl) ?hq149 ?hw149 hT1 (fun _ => trivial) (v:=?vv149) ?hy149 ?hk149
          case ho149 => (simp only [List.getElem?_toArray,List.getElem?_cons_succ,List.getElem?_cons_zero]; rfl)
          case hq149 => exact fun _ _ _ h => h
          case hw149 => rfl
          case hy149 =>
           intro W hW
           go_simp
           first | done | with_reducible rfl
          case hk149 =>
          try simp only [Act.put,List.setIfInBounds_toArray,List.set_cons_zero,List.set_cons_succ]
          refine anyK_take 5 (oi:=?oo150) ?ho150 (by kernel_rfl) (by kernel_rfl) (by kernel_rfl) (by kernel_rfl) ?hq150 ?hw150 hT1 (fun _ => trivial) (v:=?vv150) ?hy150 ?hk150
          case ho150 => (simp only [List.getElem?_toArray,List.getElem?_cons_succ,List.getElem?_cons_zero]; rfl)
          case hq150 => exact fun _ _ _ h => h
          case hw150 => rfl
          case hy150 =>
           intro W hW
           go_simp
           first | done | with_reducible rfl
          case hk150 =>
          try simp only [Act.put,List.setIfInBounds_toArray,List.set_cons_zero,List.set_cons_succ]
          refine anyK_on1 8 (by kernel_rfl) ?_
          refine anyK_one 8 (o:=?oo151) ?ho151 ?hk151
          case ho151 => (simp only [List.getElem?_toArray,List.getElem?_cons_succ,List.getElem?_cons_zero]; rfl)
          case hk151 =>
          intro K hK
          go_simp
          refine (HI2.out _ yy).mono ?_
          rintro e wb ⟨rfl,xx⟩
          try go_wp2_with fail
          replace yy:=ext_trans yy xx
          have z2:=ext_trans z1 xx
          have hT2:=keepK.out _ yy
          refine hK.out _ _ hT2 (fun _ => trivial) ?_
          clear hK K
          try simp only [Act.put,List.setIfInBounds_toArray,List.set_cons_zero,List.set_cons_succ]
          refine anyK_take 9 (oi:=?oo152) ?ho152 (by kernel_rfl) (by kernel_rfl) (by kernel_rfl) (by kernel_rfl) ?hq152 ?hw152 hT2 (fun _ => trivial) (v:=?vv152) ?hy152 ?hk152
          case ho152 => (simp only [List.getElem?_toArray,List.getElem?_cons_succ,List.getElem?_cons_zero]; rfl)
          case hq152 => exact fun _ _ _ h => h
          case hw152 => rfl
          case hy152 =>
           intro W hW
           go_simp
           first | done | with_reducible rfl
          case hk152 =>
          try simp only [Act.put,List.setIfInBounds_toArray,List.set_cons_zero,List.set_cons_succ]
          refine anyK_on1 12 (by kernel_rfl) ?_
          refine anyK_one 12 (o:=?oo153) ?ho153 ?hk153
          case ho153 => (simp only [List.getElem?_toArray,List.getElem?_cons_succ,List.getElem?_cons_zero]; rfl)
          case hk153 =>
          intro K hK
          go_simp
          refine (HI3.out _ yy).mono ?_
          rintro e wd ⟨rfl,xx⟩
          try go_wp2_with fail
          replace yy:=ext_trans yy xx
          have z3:=ext_trans z2 xx
          have hT3:=keepK.out _ yy
          refine hK.out _ _ hT3 (fun _ => trivial) ?_
          clear hK K
          try simp only [Act.put,List.setIfInBounds_toArray,List.set_cons_zero,List.set_cons_succ]
          refine anyK_take 13 (oi:=?oo154) ?ho154 (by kernel_rfl) (by kernel_rfl) (by kernel_rfl) (by kernel_rfl) ?hq154 ?hw154 hT3 (fun _ => trivial) (v:=?vv154) ?hy154 ?hk154
          case ho154 => (simp only [List.getElem?_toArray,List.getElem?_cons_succ,List.getElem?_cons_zero]; rfl)
          case hq154 => exact fun _ _ _ h => h
          case hw154 => rfl
          case hy154 =>
           intro W hW
           go_simp
           first | done | with_reducible rfl
          case hk154 =>
          try simp only [Act.put,List.setIfInBounds_toArray,List.set_cons_zero,List.set_cons_succ]
          refine anyK_on1 14 (by kernel_rfl) ?_
          refine anyK_one 14 (o:=?oo155) ?ho155 ?hk155
          case ho155 => (simp only [List.getElem?_toArray,List.getElem?_cons_succ,List.getElem?_cons_zero]; rfl)
          case hk155 =>
          intro K hK
          go_simp
          rw [HE1.out,HE2.out,HE3.out]
          have zk:=yy
          replace yy:=ext_alloc yy (.cells #[.string (strU (lineT [wBlocked,wWins])),.string (strU (lineT [wQuiet,Lib.itoa R.quiet])),.string (strU (lineT [wRepeat,Lib.itoa R.rept]))] 9)
          have hT4:=keepK.out _ yy
          refine hK.out _ _ hT4 (fun _ => trivial) ?_
          clear hK K
          try simp only [Act.put,List.setIfInBounds_toArray,List.set_cons_zero,List.set_cons_succ]
          refine anyK_on1 15 (by kernel_rfl) ?_
          refine anyK_one 15 (o:=?oo156) ?ho156 ?hk156
          case ho156 => (simp only [List.getElem?_toArray,List.getElem?_cons_succ,List.getElem?_cons_zero]; rfl)
          case hk156 =>
          intro K hK
          refine oper_append_a (.tmp 152) (.tmp 166) 54 rfl 9 1 16 (.string ⟨#[]⟩) Tryz.underlying54 strInfoJ rfl (by decide) (by decide) w3 (wd.alloc (.cells #[.string (strU (lineT [wBlocked,wWins])),.string (strU (lineT [wQuiet,Lib.itoa R.quiet])),.string (strU (lineT [wRepeat,Lib.itoa R.rept]))] 9)) (.slice oA oL.length oc) oL.length (strsC oL) [.string (strU (lineT [wBlocked,wWins])),.string (strU (lineT [wQuiet,Lib.itoa R.quiet])),.string (strU (lineT [wRepeat,Lib.itoa R.rept]))] rfl (HO.out.1.ext (ext_trans z3 (ext_alloc (Below.refl _ _) _))) (some ⟨wd.heap.size,0,none⟩) 3 3 rfl rfl (cellsAt_new wd 9 [.string (strU (lineT [wBlocked,wWins])),.string (strU (lineT [wQuiet,Lib.itoa R.quiet])),.string (strU (lineT [wRepeat,Lib.itoa R.rept]))]) (by simp [Value.oneCell']) (fun h => by cases h) yy (by have:=HOL.out; omega) ?_
          intro v9 w9 own9 x9 g9
          have HO9:=Lib.hid own9
          replace yy:=x9
          clear own9 x9 g9 zk
          have hT5:=keepK.out _ yy
          refine hK.out _ _ hT5 (fun _ => trivial) ?_
          clear hK K
          try simp only [Act.put,List.setIfInBounds_toArray,List.set_cons_zero,List.set_cons_succ]
          refine anyK_take 16 (oi:=?oo157) ?ho157 (by kernel_rfl) (by kernel_rfl) (by kernel_rfl) (by kernel_rfl) ?hq157 ?hw157 hT5 (fun _ => trivial) (v:=?vv157) ?hy157 ?hk157
          case ho157 => (simp only [List.getElem?_toArray,List.getElem?_cons_succ,List.getElem?_cons_zero]; rfl)
          case hq157 => exact fun _ _ _ h => h
          case hw157 => rfl
          case hy157 =>
           intro W hW
           go_simp
           first | done | with_reducible rfl
          case hk157 =>
          try simp only [Act.put,List.setIfInBounds_toArray,List.set_cons_zero,List.set_cons_succ]
          refine anyK_done (by kernel_rfl) ?_ _
          clear keepK hT0 hT1 hT2 hT3 hT4 hT5
          go_wp2_with fail
          go_meet
          have e7 : (tailWs R).map lineT=[lineT [wBlocked,wWins],lineT [wQuiet,Lib.itoa R.quiet],lineT [wRepeat,Lib.itoa R.rept]]:=by
           unfold tailWs
           rw [HBK.out]
           rfl
          refine ⟨?_,yy⟩
          rw [e7,List.length_append]
          have e8 : strsC (oL ++ [lineT [wBlocked,wWins],lineT [wQuiet,Lib.itoa R.quiet],lineT [wRepeat,Lib.itoa R.rept]])=strsC oL ++ [.string (strU (lineT [wBlocked,wWins])),.string (strU (lineT [wQuiet,Lib.itoa R.quiet])),.string (strU (lineT [wRepeat,Lib.itoa R.rept]))]:=by simp [strsC]
          rw [e8]
          exact HO9.out
         ·have HBK:=Lib.hid hbk
          have KBZ:=Lib.hid (show Blk w3 B 26 #[.string R.name,.int .i64 R.width,.int .i64 R.height,.slice pA R.pieces.length pc,.slice sA R.start.length sc,.bool R.falls,.bool R.keeps,.slice eA R.ends.length ec,.int .i64 2,.int .i64 R.quiet,.int .i64 R.rept] from hbk ▸ KB3.out)
          have z1' : (strU wDraws).size≤8:=by rw [strU_size]; decide
          have ix : ∀ W,(Instr.index 61 (.agg #[.string (strU wLoses),.string (strU wWins),.string (strU wDraws)]) (.int .i64 2)).run Tryz.prog W=.ok (.string (strU wDraws)) W:=fun _ => by kernel_rfl
          have lHE10 : (⟨#[98,108,111,99,107,101,100,32]⟩ : ByteArray).size=8:=rfl
          have pHE11 : ¬ (9223372036854775807 < 8 + (strU wDraws).size):=szok (Nat.add_le_add (Nat.le_refl 8) z1') (by decide)
          have HE1:=Lib.hid (show (⟨#[98,108,111,99,107,101,100,32]⟩ : ByteArray) ++ (strU wDraws)=strU (lineT [wBlocked,wDraws]) from by
           show strU [98,108,111,99,107,101,100,32] ++ (strU wDraws)=_
           rw [line2 wBlocked wDraws]
           rw [strU_app]
           rfl)
          have lHE20 : (⟨#[113,117,105,101,116,32]⟩ : ByteArray).size=6:=rfl
          have pHE21 : ¬ (9223372036854775807 < 6 + S2.size):=szok (Nat.add_le_add (Nat.le_refl 6) z2') (by decide)
          have HE2:=Lib.hid (show (⟨#[113,117,105,101,116,32]⟩ : ByteArray) ++ S2=strU (lineT [wQuiet,Lib.itoa R.quiet]) from by
           show strU [113,117,105,101,116,32] ++ S2=_
           rw [hS2,line2 wQuiet (Lib.itoa R.quiet)]
           rw [strU_app]
           rfl)
          have lHE30 : (⟨#[114,101,112,101,97,116,32]⟩ : ByteArray).size=7:=rfl
          have pHE31 : ¬ (9223372036854775807 < 7 + S3.size):=szok (Nat.add_le_add (Nat.le_refl 7) z3') (by decide)
          have HE3:=Lib.hid (show (⟨#[114,101,112,101,97,116,32]⟩ : ByteArray) ++ S3=strU (lineT [wRepeat,Lib.itoa R.rept]) from by
           show strU [114,101,112,101,97,116,32] ++ S3=_
           rw [hS3,line2 wRepeat (Lib.itoa R.rept)]
           rw [strU_app]
           rfl)
          clear hbk hS2 hS3
          have keepK:=hide (fun W (h : Ext w3 W) => (show (fun W => W.cell? ⟨B,0,none⟩=some (.string R.name)∧W.cell? ⟨B,1,none⟩=some (.int .i64 R.width)∧W.cell? ⟨B,2,none⟩=some (.int .i64 R.height)∧W.cell? ⟨B,3,none⟩=some (.slice pA R.pieces.length pc)∧W.cell? ⟨B,4,none⟩=some (.slice sA R.start.length sc)∧W.cell? ⟨B,5,none⟩=some (.bool R.falls)∧W.cell? ⟨B,6,none⟩=some (.bool R.keeps)∧W.cell? ⟨B,7,none⟩=some (.slice eA R.ends.length ec)∧W.cell? ⟨B,8,none⟩=some (.int .i64 2)∧W.cell? ⟨B,9,none⟩=some (.int .i64 R.quiet)∧W.cell? ⟨B,10,none⟩=some (.int .i64 R.rept)∧Ext w3 W) W from ⟨(KBZ.out.ext h).cell 0,(KBZ.out.ext h).cell 1,(KBZ.out.ext h).cell 2,(KBZ.out.ext h).cell 3,(KBZ.out.ext h).cell 4,(KBZ.out.ext h).cell 5,(KBZ.out.ext h).cell 6,(KBZ.out.ext h).cell 7,(KBZ.out.ext h).cell 8,(KBZ.out.ext h).cell 9,(KBZ.out.ext h).cell 10,h⟩))
          have yy:=ext_trans HO.out.2 z0
          refine region_K (fun W => W.cell? ⟨B,0,none⟩=some (.string R.name)∧W.cell? ⟨B,1,none⟩=some (.int .i64 R.width)∧W.cell? ⟨B,2,none⟩=some (.int .i64 R.height)∧W.cell? ⟨B,3,none⟩=some (.slice pA R.pieces.length pc)∧W.cell? ⟨B,4,none⟩=some (.slice sA R.start.length sc)∧W.cell? ⟨B,5,none⟩=some (.bool R.falls)∧W.cell? ⟨B,6,none⟩=some (.bool R.keeps)∧W.cell? ⟨B,7,none⟩=some (.slice eA R.ends.length ec)∧W.cell? ⟨B,8,none⟩=some (.int .i64 2)∧W.cell? ⟨B,9,none⟩=some (.int .i64 R.quiet)∧W.cell? ⟨B,10,none⟩=some (.int .i64 R.rept)∧Ext w3 W) (fun _ => True) [] (by kernel_rfl) ?_
          have hT0:=keepK.out _ yy
          refine anyK_take 0 (oi:=?oo158) ?ho158 (by kernel_rfl) (by kernel_rfl) (by kernel_rfl) (by kernel_rfl) ?hq158 ?hw158 hT0 (fun _ => trivial) (v:=?vv158) ?hy158 ?hk158
          case ho158 => (simp only [List.getElem?_toArray,List.getElem?_cons_succ,List.getElem?_cons_zero]; rfl)
          case hq158 => exact fun _ _ _ h => h
          case hw158 => rfl
          case hy158 =>
           intro W hW
           go_simp
           first | done | with_reducible rfl
          case hk158 =>
          try simp only [Act.put,List.setIfInBounds_toArray,List.set_cons_zero,List.set_cons_succ]
          refine anyK_take 2 (oi:=?oo159) ?ho159 (by kernel_rfl) (by kernel_rfl) (by kernel_rfl) (by kernel_rfl) ?hq159 ?hw159 hT0 (fun _ => trivial) (v:=?vv159) ?hy159 ?hk159
          case ho159 => (simp only [List.getElem?_toArray,List.getElem?_cons_succ,List.getElem?_cons_zero]; rfl)
          case hq159 => exact fun _ _ _ h => h
          case hw159 => rfl
          case hy159 =>
           intro W hW
           go_simp
           first | done | with_reducible rfl
          case hk159 =>
          try simp only [Act.put,List.setIfInBounds_toArray,List.set_cons_zero,List.set_cons_succ]
          refine anyK_take 3 (oi:=?oo160) ?ho160 (by kernel_rfl) (by kernel_rfl) (by kernel_rfl) (by kernel_rfl) ?hq160 ?hw160 hT0 (fun _ => trivial) (v:=?vv160) ?hy160 ?hk160
          case ho160 => (simp only [List.getElem?_toArray,List.getElem?_cons_succ,List.getElem?_cons_zero]; rfl)
          case hq160 => exact fun _ _ _ h => h
          case hw160 => rfl
          case hy160 =>
           intro W hW
           obtain ⟨z0,z1,z2,z3,z4,z5,z6,z7,z8,z9,z10,z11⟩:=hW
           go_simp
           first | done | with_reducible rfl
          case hk160 =>
          try simp only [Act.put,List.setIfInBounds_toArray,List.set_cons_zero,List.set_cons_succ]
          refine anyK_take 6 (oi:=?oo161) ?ho161 (by kernel_rfl) (by kernel_rfl) (by kernel_rfl) (by kernel_rfl) ?hq161 ?hw161 hT0 (fun _ => trivial) (v:=?vv161) ?hy161 ?hk161
          case ho161 => (simp only [List.getElem?_toArray,List.getElem?_cons_succ,List.getElem?_cons_zero]; rfl)
          case hq161 => exact fun _ _ _ h => h
          case hw161 => rfl
          case hy161 =>
           intro W hW
           go_simp
           first | done | with_reducible rfl
          case hk161 =>
          try simp only [Act.put,List.setIfInBounds_toArray,List.set_cons_zero,List.set_cons_succ]
          refine anyK_take 7 (oi:=?oo162) ?ho162 (by kernel_rfl) (by kernel_rfl) (by kernel_rfl) (by kernel_rfl) ?hq162 ?hw162 hT0 (fun _ => trivial) (v:=?vv162) ?hy162 ?hk162
          case ho162 => (simp only [List.getElem?_toArray,List.getElem?_cons_succ,List.getElem?_cons_zero]; rfl)
          case hq162 => exact fun _ _ _ h => h
          case hw162 => rfl
          case hy162 =>
           intro W hW
           obtain ⟨z0,z1,z2,z3,z4,z5,z6,z7,z8,z9,z10,z11⟩:=hW
           go_simp
           first | done | with_reducible rfl
          case hk162 =>
          try simp only [Act.put,List.setIfInBounds_toArray,List.set_cons_zero,List.set_cons_succ]
          refine anyK_take 10 (oi:=?oo163) ?ho163 (by kernel_rfl) (by kernel_rfl) (by kernel_rfl) (by kernel_rfl) ?hq163 ?hw163 hT0 (fun _ => trivial) (v:=?vv163) ?hy163 ?hk163
          case ho163 => (simp only [List.getElem?_toArray,List.getElem?_cons_succ,List.getElem?_cons_zero]; rfl)
          case hq163 => exact fun _ _ _ h => h
          case hw163 => rfl
          case hy163 =>
           intro W hW
           go_simp
           first | done | with_reducible rfl
          case hk163 =>
          try simp only [Act.put,List.setIfInBounds_toArray,List.set_cons_zero,List.set_cons_succ]
          refine anyK_take 11 (oi:=?oo164) ?ho164 (by kernel_rfl) (by kernel_rfl) (by kernel_rfl) (by kernel_rfl) ?hq164 ?hw164 hT0 (fun _ => trivial) (v:=?vv164) ?hy164 ?hk164
          case ho164 => (simp only [List.getElem?_toArray,List.getElem?_cons_succ,List.getElem?_cons_zero]; rfl)
          case hq164 => exact fun _ _ _ h => h
          case hw164 => rfl
          case hy164 =>
           intro W hW
           obtain ⟨z0,z1,z2,z3,z4,z5,z6,z7,z8,z9,z10,z11⟩:=hW
           go_simp
           first | done | with_reducible rfl
          case hk164 =>
          try simp only [Act.put,List.setIfInBounds_toArray,List.set_cons_zero,List.set_cons_succ]
          refine anyK_on1 1 (by kernel_rfl) ?_
          refine anyK_one 1 (o:=?oo165) ?ho165 ?hk165
          case ho165 => (simp only [List.getElem?_toArray,List.getElem?_cons_succ,List.getElem?_cons_zero]; rfl)
          case hk165 =>
          intro K hK
          go_simp
          refine (rblocks_any _).mono ?_
          rintro e wa ⟨rfl,xx⟩
          try go_wp2_with fail
          replace yy:=ext_trans yy xx
          have z1:=ext_trans z0 xx
          have hT1:=keepK.out _ yy
          refine hK.out _ _ hT1 (fun _ => trivial) ?_
          clear hK K
          try simp only [Act.put,List.setIfInBounds_toArray,List.set_cons_zero,List.set_cons_succ]
          refine anyK_take 4 (oi:=?oo166) ?ho166 (by kernel_rfl) (by kernel_rfl) (by kernel_rfl) (by kernel_rfl) ?hq166 ?hw166 hT1 (fun _ => trivial) (v:=?vv166) ?hy166 ?hk166
          case ho166 => (simp only [List.getElem?_toArray,List.getElem?_cons_succ,List.getElem?_cons_zero]; rfl)
          case hq166 => exact fun _ _ _ h => h
          case hw166 => rfl
          case hy166 =>
           intro W hW
           go_simp
           first | done | with_reducible rfl
          case hk166 =>
          try simp only [Act.put,List.setIfInBounds_toArray,List.set_cons_zero,List.set_cons_succ]
          refine anyK_take 5 (oi:=?oo167) ?ho167 (by kernel_rfl) (by kernel_rfl) (by kernel_rfl) (by kernel_rfl) ?hq167 ?hw167 hT1 (fun _ => trivial) (v:=?vv167) ?hy167 ?hk167
          case ho167 => (simp only [List.getElem?_toArray,List.getElem?_cons_succ,List.getElem?_cons_zero]; rfl)
          case hq167 => exact fun _ _ _ h => h
          case hw167 => rfl
          case hy167 =>
           intro W hW
           go_simp
           first | done | with_reducible rfl
          case hk167 =>
          try simp only [Act.put,List.setIfInBounds_toArray,List.set_cons_zero,List.set_cons_succ]
          refine anyK_on1 8 (by kernel_rfl) ?_
          refine anyK_one 8 (o:=?oo168) ?ho168 ?hk168
          case ho168 => (simp only [List.getElem?_toArray,List.getElem?_cons_succ,List.getElem?_cons_zero]; rfl)
          case hk168 =>
          intro K hK
          go_simp
          refine (HI2.out _ yy).mono ?_
          rintro e wb ⟨rfl,xx⟩
          try go_wp2_with fail
          replace yy:=ext_trans yy xx
          have z2:=ext_trans z1 xx
          have hT2:=keepK.out _ yy
          refine hK.out _ _ hT2 (fun _ => trivial) ?_
          clear hK K
          try simp only [Act.put,List.setIfInBounds_toArray,List.set_cons_zero,List.set_cons_succ]
          refine anyK_take 9 (oi:=?oo169) ?ho169 (by kernel_rfl) (by kernel_rfl) (by kernel_rfl) (by kernel_rfl) ?hq169 ?hw169 hT2 (fun _ => trivial) (v:=?vv169) ?hy169 ?hk169
          case ho169 => (simp only [List.getElem?_toArray,List.getElem?_cons_succ,List.getElem?_cons_zero]; rfl)
          case hq169 => exact fun _ _ _ h => h
          case hw169 => rfl
          case hy169 =>
           intro W hW
           go_simp
           first | done | with_reducible rfl
          case hk169 =>
          try simp only [Act.put,List.setIfInBounds_toArray,List.set_cons_zero,List.set_cons_succ]
          refine anyK_on1 12 (by kernel_rfl) ?_
          refine anyK_one 12 (o:=?oo170) ?ho170 ?hk170
          case ho170 => (simp only [List.getElem?_toArray,List.getElem?_cons_succ,List.getElem?_cons_zero]; rfl)
          case hk170 =>
          intro K hK
          go_simp
          refine (HI3.out _ yy).mono ?_
          rintro e wd ⟨rfl,xx⟩
          try go_wp2_with fail
          replace yy:=ext_trans yy xx
          have z3:=ext_trans z2 xx
          have hT3:=keepK.out _ yy
          refine hK.out _ _ hT3 (fun _ => trivial) ?_
          clear hK K
          try simp only [Act.put,List.setIfInBounds_toArray,List.set_cons_zero,List.set_cons_succ]
          refine anyK_take 13 (oi:=?oo171) ?ho171 (by kernel_rfl) (by kernel_rfl) (by kernel_rfl) (by kernel_rfl) ?hq171 ?hw171 hT3 (fun _ => trivial) (v:=?vv171) ?hy171 ?hk171
          case ho171 => (simp only [List.getElem?_toArray,List.getElem?_cons_succ,List.getElem?_cons_zero]; rfl)
          case hq171 => exact fun _ _ _ h => h
          case hw171 => rfl
          case hy171 =>
           intro W hW
           go_simp
           first | done | with_reducible rfl
          case hk171 =>
          try simp only [Act.put,List.setIfInBounds_toArray,List.set_cons_zero,List.set_cons_succ]
          refine anyK_on1 14 (by kernel_rfl) ?_
          refine anyK_one 14 (o:=?oo172) ?ho172 ?hk172
          case ho172 => (simp only [List.getElem?_toArray,List.getElem?_cons_succ,List.getElem?_cons_zero]; rfl)
          case hk172 =>
          intro K hK
          go_simp
          rw [HE1.out,HE2.out,HE3.out]
          have zk:=yy
          replace yy:=ext_alloc yy (.cells #[.string (strU (lineT [wBlocked,wDraws])),.string (strU (lineT [wQuiet,Lib.itoa R.quiet])),.string (strU (lineT [wRepeat,Lib.itoa R.rept]))] 9)
          have hT4:=keepK.out _ yy
          refine hK.out _ _ hT4 (fun _ => trivial) ?_
          clear hK K
          try simp only [Act.put,List.setIfInBounds_toArray,List.set_cons_zero,List.set_cons_succ]
          refine anyK_on1 15 (by kernel_rfl) ?_
          refine anyK_one 15 (o:=?oo173) ?ho173 ?hk173
          case ho173 => (simp only [List.getElem?_toArray,List.getElem?_cons_succ,List.getElem?_cons_zero]; rfl)
          case hk173 =>
          intro K hK
          refine oper_append_a (.tmp 152) (.tmp 166) 54 rfl 9 1 16 (.string ⟨#[]⟩) Tryz.underlying54 strInfoJ rfl (by decide) (by decide) w3 (wd.alloc (.cells #[.string (strU (lineT [wBlocked,wDraws])),.string (strU (lineT [wQuiet,Lib.itoa R.quiet])),.string (strU (lineT [wRepeat,Lib.itoa R.rept]))] 9)) (.slice oA oL.length oc) oL.length (strsC oL) [.string (strU (lineT [wBlocked,wDraws])),.string (strU (lineT [wQuiet,Lib.itoa R.quiet])),.string (strU (lineT [wRepeat,Lib.itoa R.rept]))] rfl (HO.out.1.ext (ext_trans z3 (ext_alloc (Below.refl _ _) _))) (some ⟨wd.heap.size,0,none⟩) 3 3 rfl rfl (cellsAt_new wd 9 [.string (strU (lineT [wBlocked,wDraws])),.string (strU (lineT [wQuiet,Lib.itoa R.quiet])),.string (strU (lineT [wRepeat,Lib.itoa R.rept]))]) (by simp [Value.oneCell']) (fun h => by cases h) yy (by have:=HOL.out; omega) ?_
          intro v9 w9 own9 x9 g9
          have HO9:=Lib.hid own9
          replace yy:=x9
          clear own9 x9 g9 zk
          have hT5:=keepK.out _ yy
          refine hK.out _ _ hT5 (fun _ => trivial) ?_
          clear hK K
          try simp only [Act.put,List.setIfInBounds_toArray,List.set_cons_zero,List.set_cons_succ]
          refine anyK_take 16 (oi:=?oo174) ?ho174 (by kernel_rfl) (by kernel_rfl) (by kernel_rfl) (by kernel_rfl) ?hq174 ?hw174 hT5 (fun _ => trivial) (v:=?vv174) ?hy174 ?hk174
          case ho174 => (simp only [List.getElem?_toArray,List.getElem?_cons_succ,List.getElem?_cons_zero]; rfl)
          case hq174 => exact fun _ _ _ h => h
          case hw174 => rfl
          case hy174 =>
           intro W hW
           go_simp
           first | done | with_reducible rfl
          case hk174 =>
          try simp only [Act.put,List.setIfInBounds_toArray,List.set_cons_zero,List.set_cons_succ]
          refine anyK_done (by kernel_rfl) ?_ _
          clear keepK hT0 hT1 hT2 hT3 hT4 hT5
          go_wp2_with fail
          go_meet
          have e7 : (tailWs R).map lineT=[lineT [wBlocked,wDraws],lineT [wQuiet,Lib.itoa R.quiet],lineT [wRepeat,Lib.itoa R.rept]]:=by
           unfold tailWs
           rw [HBK.out]
           rfl
          refine ⟨?_,yy⟩
          rw [e7,List.length_append]
          have e8 : strsC (oL ++ [lineT [wBlocked,wDraws],lineT [wQuiet,Lib.itoa R.quiet],lineT [wRepeat,Lib.itoa R.rept]])=strsC oL ++ [.string (strU (lineT [wBlocked,wDraws])),.string (strU (lineT [wQuiet,Lib.itoa R.quiet])),.string (strU (lineT [wRepeat,Lib.itoa R.rept]))]:=by simp [strsC]
          rw [e8]
          exact HO9.out
        case rest =>
         obtain ⟨L7,hL7⟩ : ∃ L,L=oL ++ (tailWs R).map lineT:=⟨_,rfl⟩
         rw [← hL7] at hcut
         have hlt : L7=linesT R:=by
          rw [hL7,HL6E.out,HL5E.out,HL4E.out,HL3E.out,HL2E.out,HL1E.out,HFL.out,HKP.out]
          unfold linesT linesW
          simp [List.append_assoc,Function.comp_def]
         have hpl:=print_len HV.out HLT.out
         have hmn:=lines_many HV.out
         have h7n : L7.length≤130:=by rw [hlt]; unfold linesT; rw [List.length_map]; exact hmn
         have h71 : 1≤L7.length:=by rw [hlt]; unfold linesT linesW; simp
         have hjl : (joinL 10 L7).length≤8192:=by
          have h:=hpl.1
          unfold printT at h
          rw [← hlt,List.length_append] at h
          omega
         obtain ⟨qA,qc,hs5⟩:=hcut.shape
         subst hs5
         obtain ⟨A',c',e',hcl,hcp,-⟩:=hcut.1.cells
         injection e' with e1 e2 e3
         subst e1 e3
         have HJ:=Lib.hid (join_any 10 L7 h71 (Nat.le_trans h7n (by decide)) (Nat.le_trans hjl (by decide)) qA qc wc hcl hcp)
         obtain ⟨S0,hS0⟩ : ∃ S,S=strU (joinL 10 L7):=⟨_,rfl⟩
         rw [← hS0] at HJ
         have HF:=Lib.hid (show strU (printT R)=S0 ++ strU [10] by rw [hS0,strU_app,hlt]; rfl)
         have zs0 : S0.size≤8192:=by rw [hS0,strU_size]; exact hjl
         have zs1 : (⟨#[10]⟩ : ByteArray).size=1:=rfl
         have zs2 : ¬ (9223372036854775807 < S0.size + 1):=by omega
         have XC:=Lib.hid (ext_trans X3.out hcut.2)
         clear hcut hL7 hlt hpl hmn h7n h71 hjl hcl hcp hS0 zs0 z0 z2' z3' hb3 HO HI2 HI3
         go_wp2_with fail
         refine HJ.out.mono ?_
         rintro e w35 ⟨rfl,x35⟩
         have XD:=Lib.hid (ext_trans XC.out x35)
         clear x35 HJ
         go_wp2
         go_ret2
         refine ⟨?_,XD.out⟩
         rw [HF.out]
         rfl
 ·have HN:=Lib.hid hE0
  have te : (E != 0)=true:=by simpa using hE0
  clear hE0
  go_wp2
  go_ret2
  exact ⟨.inr ⟨HN.out,rfl⟩,X3.out⟩
end Go.Proofs.YtdoibgmmijhlfaaGreatDoor
