/- Wgk -/
import Derived.Conc.WgGenN3
namespace Go.Proofs.YtdoibgmmijhlfaaGreat.Wgk
open Go Go.Conc Go.ConcN Go.ConcN.Gen Go.RowKit Go.Conc.Lib Go.ConcR.Gen
open Go.ConcR (KK wgBlock WgAt stA smA rd wr mk Payload DC0)
set_option linter.unusedVariables false
section
variable (P:Program)(main:Bool)(ty:TypeId)(Wg:Nat)
def RL(w w₁:World):Prop:=WgLive ty Wg w→WgLive ty Wg w₁
def GL(Stop:Goroutine→World→Prop)(g:Goroutine)(w:World):Prop:=∃ m,Goes P main (RL ty Wg) DC0 Stop m g w
def Say(es:Array Event)(Next:Goroutine→World→Prop)(g:Goroutine)(w:World):Prop:=g.status=.running∧∃ g',stepG P main g w=.go g' w es∧Next g' w
def Back(gb:Goroutine)(g:Goroutine)(w:World):Prop:=g=gb
end
section
variable (P:Program)(ty:TypeId)(Wg:Nat)(gb:Goroutine)
def AddEn:Goroutine→World→Prop:=Say P true #[mk .enable] (GL P true ty Wg (Back gb))
def AddRead:Goroutine→World→Prop:=Say P true #[⟨.mark (.read (smA Wg)),false,true⟩] (GL P true ty Wg (AddEn P ty Wg gb))
def AddAt(g:Goroutine)(w:World):Prop:=g.status=.running∧∀ v:Nat,v<2147483647→WgAt ty Wg w (v * KK) 0 →
 ∃ g',stepG P true g w=.go g' (w.setCell (stA Wg) (.int .u64 ((v+1) * KK))) #[rd (stA Wg),wr (stA Wg)] ∧
  (v=0→GL P true ty Wg (AddRead P ty Wg gb) g' (w.setCell (stA Wg) (.int .u64 ((v+1) * KK))))∧(v≠0→GL P true ty Wg (AddEn P ty Wg gb) g' (w.setCell (stA Wg) (.int .u64 ((v+1) * KK))))
def AddDi:Goroutine→World→Prop:=Say P true #[mk .disable] (GL P true ty Wg (AddAt P ty Wg gb))
def WAcq:Goroutine→World→Prop:=Say P true #[mk (.acquire (stA Wg))] (GL P true ty Wg (Back gb))
def WEn:Goroutine→World→Prop:=Say P true #[mk .enable] (GL P true ty Wg (WAcq P ty Wg gb))
def W4(g:Goroutine)(w:World):Prop:=g.status=.running∧(WgAt ty Wg w 0 0→∃ g',stepG P true g w=.go g' w #[rd (stA Wg)]∧GL P true ty Wg (WEn P ty Wg gb) g' w)
def W3(g:Goroutine)(w:World):Prop:=g.status=.running∧g.offers=none ∧
 ((∃ st,WgAt ty Wg w st 0)→stepG P true g w=.go { g with status:=.blocked } w #[]) ∧
 (WgAt ty Wg w 0 1→∃ g',stepG P true g w=.go g' (w.setCell (smA Wg) (.int .u32 0)) (semEvents (smA Wg))∧GL P true ty Wg (W4 P ty Wg gb) g' (w.setCell (smA Wg) (.int .u32 0)))
def WWr:Goroutine→World→Prop:=Say P true #[⟨.mark (.write (smA Wg)),false,true⟩] (GL P true ty Wg (W3 P ty Wg gb))
def W2(Anch:Goroutine→World→Prop)(vs:Nat)(g:Goroutine)(w:World):Prop:=g.status=.running∧∀ v:Nat,v<2147483648→WgAt ty Wg w (v * KK) 0 →
 (v=vs→∃ g',stepG P true g w=.go g' (w.setCell (stA Wg) (.int .u64 (v * KK+1))) #[rd (stA Wg),wr (stA Wg)]∧GL P true ty Wg (WWr P ty Wg gb) g' (w.setCell (stA Wg) (.int .u64 (v * KK+1)))) ∧
 (v≠vs→∃ g',stepG P true g w=.go g' w #[rd (stA Wg)]∧GL P true ty Wg Anch g' w)
def W1(Anch:Goroutine→World→Prop)(g:Goroutine)(w:World):Prop:=g.status=.running∧∀ v:Nat,v<2147483648→WgAt ty Wg w (v * KK) 0→∃ g',stepG P true g w=.go g' w #[rd (stA Wg)] ∧
 (v=0→GL P true ty Wg (WEn P ty Wg gb) g' w)∧(v≠0→GL P true ty Wg (W2 P ty Wg gb Anch v) g' w)
def WDi(Anch:Goroutine→World→Prop):Goroutine→World→Prop:=Say P true #[mk .disable] (GL P true ty Wg Anch)
def D4(g:Goroutine)(w:World):Prop:=g.status=.running∧mayWake P g=true∧(WgAt ty Wg w 0 0→∃ g',stepG P false g w=.go g' (w.setCell (smA Wg) (.int .u32 1)) (semEvents (smA Wg))∧∃ q,QuitsD P q 1 g')
def D3(g:Goroutine)(w:World):Prop:=g.status=.running∧(WgAt ty Wg w 1 0→∃ g',stepG P false g w=.go g' (w.setCell (stA Wg) (.int .u64 0)) #[wr (stA Wg)]∧GL P false ty Wg (D4 P ty Wg) g' (w.setCell (stA Wg) (.int .u64 0)))
def D2(g:Goroutine)(w:World):Prop:=g.status=.running∧(WgAt ty Wg w 1 0→∃ g',stepG P false g w=.go g' w #[rd (stA Wg)]∧GL P false ty Wg (D3 P ty Wg) g' w)
def D1(g:Goroutine)(w:World):Prop:=g.status=.running∧∀ v wt:Nat,wt≤1→v<2147483647→WgAt ty Wg w ((v+1) * KK+wt) 0 →
 ∃ g',stepG P false g w=.go g' (w.setCell (stA Wg) (.int .u64 (v * KK+wt))) #[rd (stA Wg),wr (stA Wg)] ∧
  ((v=0∧wt=1)→GL P false ty Wg (D2 P ty Wg) g' (w.setCell (stA Wg) (.int .u64 (v * KK+wt))))∧(¬ (v=0∧wt=1)→∃ q,QuitsD P q 1 g')
def DDi:Goroutine→World→Prop:=Say P false #[mk .disable] (GL P false ty Wg (D1 P ty Wg))
def DRel:Goroutine→World→Prop:=Say P false #[mk (.releaseMerge (stA Wg))] (GL P false ty Wg (DDi P ty Wg))
end
variable {L:WgLink}
theorem rR{ty:TypeId}{Wg:Nat}{w w₁:World}(h:WgLive ty Wg w)(r:RL ty Wg w w₁):WgLive ty Wg w₁:=r h
section
variable {Wg:Nat}{b₀:Frame}{a₀:Act}{ops₀:Array Oper}{i₀:Nat}{rest₀:List Nat}{k₀:List Item}{cs:List Frame}
set_option maxRecDepth 100000 in
set_option maxHeartbeats 8000000 in
theorem addW{P:Program}(H:WgLib P L)(w:World)(hF:WgLive L.tWg Wg w) :
  Goes P true (RL L.tWg Wg) DC0 (AddDi P L.tWg Wg (G (b₀.at (a₀.put ((ops₀[i₀]?).bind (·.dst)) (.tuple #[])) (.inRegion ops₀ rest₀ :: k₀)) cs)) 12
   (G ((base L.add).at ⟨#[.pointer (some ⟨Wg,0,none⟩),.int .i64 1,undef,undef,undef,undef,undef,undef,undef,undef,undef,undef,undef,undef,undef,undef,undef,undef,undef,undef,undef,undef,undef,undef,undef,undef,undef,undef,undef,undef,undef,undef,undef,undef,undef,undef,undef,undef,undef,undef,undef,undef,undef,undef,undef,undef,undef,undef,undef,undef,undef,undef,undef,undef,undef,undef,undef,undef,undef,undef,undef,undef,undef,undef,undef,undef,undef,undef,undef,undef,undef,undef,undef,undef,undef,undef,undef,undef,undef,undef,undef,undef,undef,undef,undef,undef,undef,undef,undef,undef,undef,undef,undef,undef,undef,undef,undef,undef,undef,undef,undef,undef,undef,undef,undef,undef,undef,undef,undef,undef,undef,undef,undef,undef,undef,undef,undef],[]⟩ [.code (body_add L)]) (b₀.at a₀ (.inRegion ops₀ (i₀ :: rest₀) :: k₀) :: cs)) w:=by
 lib_facts
 simp only [body_add,addFn,Option.getD_some]
 u_c stepG_seq rR hF
 u_cond true rR hF
 u_c stepG_seq rR hF
 u_c stepG_seq rR hF
 u_reg rR hF
 u_op rR hF
 u_op rR hF
 u_c stepG_region_end rR hF
 u_cond false rR hF
 u_c stepG_skip rR hF
 u_c stepG_seq rR hF
 u_reg rR hF
 refine Goes.stop (fun w₁ h₁=>?_)
 replace hF:=rR hF h₁
 clear h₁
 refine⟨rfl,_,stepG_mark0 .disable (by simp) rfl rfl (by k_ne) rfl H.f_disable (x_disable_n L) (x_disable_b L) (x_disable_x L) (x_disable_f L),40,?_⟩
 walk_nrm
 u_c stepG_region_end rR hF
 u_reg rR hF
 u_defer rR hF
 u_c stepG_region_end rR hF
 u_c stepG_seq rR hF
 u_reg rR hF
 u_op rR hF
 u_c stepG_region_end rR hF
 u_c stepG_seq rR hF
 u_c stepG_seq rR hF
 u_reg rR hF
 u_bub rR hF
 u_c stepG_region_end rR hF
 u_cond false rR hF
 u_c stepG_skip rR hF
 u_c stepG_seq rR hF
 u_reg rR hF
 u_op rR hF
 u_op rR hF
 u_op rR hF
 u_op rR hF
 u_op rR hF
 u_op rR hF
 u_call H.f_uAdd (nm_uAdd L) uAddFn rR hF
 u_c stepG_seq rR hF
 u_reg rR hF
 u_op rR hF
 u_c stepG_region_end rR hF
 u_c stepG_seq rR hF
 u_reg rR hF
 u_op rR hF
 u_op rR hF
 u_op rR hF
 u_op rR hF
 refine Goes.stop (fun w₂ h₂=>?_)
 replace hF:=rR hF h₂
 clear h₂
 refine⟨rfl,fun v hv hw=>?_⟩
 rcases Nat.eq_zero_or_pos v with rfl | hvp
 ·replace hw:WgAt L.tWg Wg w₂ 0 0:=by simpa using hw
  have z:(((0:Nat):Int)+1) * KK=KK:=by simp
  rw [z]
  have e0:IntKind.u64.wrap (0+4294967296)=KK:=by decide
  refine⟨_,(stepG_add_atomic rfl rfl (by k_ne) rfl H.f_addU64 (x_addU64_n L) (x_addU64_b L) (x_addU64_x L) .u64 (x_addU64_f L) rfl rfl hw.cellSt (hw.thaw 0)).trans (by rw [e0];rfl),fun _=>⟨110,?_⟩,fun h=>absurd rfl h⟩
  replace hF:WgLive L.tWg Wg (w₂.setCell (stA Wg) (.int .u64 KK)):=⟨_,_,hw.setSt _⟩
  clear hw
  simp only [KK] at hF ⊢
  walk_nrm
  u_op rR hF
  u_c stepG_region_end rR hF
  u_c stepG_ret' rR hF
  u_leave1 H.f_uAdd rR hF
  u_op rR hF
  u_c stepG_region_end rR hF
  u_c stepG_seq rR hF
  u_c stepG_seq rR hF
  u_reg rR hF
  u_op rR hF
  u_op rR hF
  u_op rR hF
  u_op rR hF
  u_skip rR hF
  u_skip rR hF
  u_op rR hF
  u_c stepG_region_end rR hF
  u_cond false rR hF
  u_c stepG_skip rR hF
  u_c stepG_seq rR hF
  u_reg rR hF
  u_op rR hF
  u_op rR hF
  u_op rR hF
  u_op rR hF
  u_c stepG_region_end rR hF
  u_c stepG_seq rR hF
  u_reg rR hF
  u_op rR hF
  u_op rR hF
  u_op rR hF
  u_op rR hF
  u_c stepG_region_end rR hF
  u_c stepG_seq rR hF
  u_c stepG_seq rR hF
  u_reg rR hF
  u_op rR hF
  u_op rR hF
  u_op rR hF
  u_op rR hF
  u_op rR hF
  u_op rR hF
  u_op rR hF
  u_op rR hF
  u_op rR hF
  u_op rR hF
  u_c stepG_region_end rR hF
  u_cond true rR hF
  u_reg rR hF
  u_op rR hF
  u_op rR hF
  u_op rR hF
  u_conv H.underlying_tPU32 H.room_tU32 (WgLive.cell1 hF).choose_spec rR hF
  refine Goes.stop (fun w₇ h₇=>?_)
  replace hF:=rR hF h₇
  clear h₇
  refine⟨rfl,_,stepG_markAt .read (by simp) rfl rfl (by k_ne) rfl H.f_raceRead (x_raceRead_n L) (x_raceRead_b L) (x_raceRead_x L) (x_raceRead_f L) (by simp [Act.eval,smA]),60,?_⟩
  walk_nrm
  u_c stepG_region_end rR hF
  u_c stepG_seq rR hF
  u_c stepG_seq rR hF
  u_reg rR hF
  u_op rR hF
  u_op rR hF
  u_c stepG_region_end rR hF
  u_cond false rR hF
  u_c stepG_skip rR hF
  u_c stepG_seq rR hF
  u_c stepG_seq rR hF
  u_reg rR hF
  u_op rR hF
  u_op rR hF
  u_op rR hF
  u_skip rR hF
  u_skip rR hF
  u_op rR hF
  u_op rR hF
  u_skip rR hF
  u_skip rR hF
  u_skip rR hF
  u_skip rR hF
  u_op rR hF
  u_c stepG_region_end rR hF
  u_cond false rR hF
  u_c stepG_skip rR hF
  u_c stepG_seq rR hF
  u_c stepG_seq rR hF
  u_reg rR hF
  u_op rR hF
  u_op rR hF
  u_op rR hF
  u_skip rR hF
  u_skip rR hF
  u_op rR hF
  u_c stepG_region_end rR hF
  u_cond true rR hF
  u_c stepG_ret' rR hF
  refine Goes.stop (fun w₃ h₃=>?_)
  replace hF:=rR hF h₃
  clear h₃
  refine⟨rfl,_,stepG_unwind_entry (v:=.tuple #[]) (evs:=#[mk .enable]) rfl H.f_enable (x_enable_n L) (x_enable_b L) (x_enable_x L) (x_enable_f L) (by simp [Extern.Race.none_]) (by simp [mk]) (by simp [mk]),1,?_⟩
  u_leave0 H.f_add rR hF
  exact Goes.stop (fun _ _=>rfl)
 ·obtain⟨V,hV⟩:∃ V:Int,V=(v:Int)+1:=⟨_,rfl⟩
  obtain⟨S,hS⟩:∃ S:Int,S=V * KK:=⟨_,rfl⟩
  have eS:IntKind.u64.wrap ((v:Int) * KK+4294967296)=S:=by rw [IntKind.wrap_u64,hS,hV];simp only [KK];omega
  rw [← hV,← hS]
  have a1:S / 4294967296=V:=by rw [hS];simp only [KK];omega
  have b1:bits .and .u64 S 2147483648=0:=by rw [hS,hV];have:=st_flag (v+1) 0 (by omega) (by omega);simpa [KK] using this
  have b2:bits .and .u64 S 2147483647=0:=by rw [hS,hV];have:=st_waiters (v+1) 0 (by omega) (by omega);simpa [KK] using this
  have c1:IntKind.i32.wrap V=V:=by rw [IntKind.wrap_i32];omega
  have hV1:1<V:=by omega
  have hV2:V<2147483648:=by omega
  have q1:(V == 1)=false:=by simp;omega
  have q2:decide (V=1)=false:=decide_eq_false (by omega)
  have q3:decide (V<0)=false:=decide_eq_false (by omega)
  have q4:decide (0<V)=true:=decide_eq_true (by omega)
  have q5:(V == 0)=false:=by simp;omega
  have q6:decide (V=0)=false:=decide_eq_false (by omega)
  refine⟨_,(stepG_add_atomic rfl rfl (by k_ne) rfl H.f_addU64 (x_addU64_n L) (x_addU64_b L) (x_addU64_x L) .u64 (x_addU64_f L) rfl rfl hw.cellSt (hw.thaw 0)).trans (by rw [eS];rfl),fun h=>absurd h (by omega),fun _=>⟨110,?_⟩⟩
  replace hF:WgLive L.tWg Wg (w₂.setCell (stA Wg) (.int .u64 S)):=⟨_,_,hw.setSt _⟩
  clear hw hS hV eS
  walk_nrm
  u_op rR hF
  u_c stepG_region_end rR hF
  u_c stepG_ret' rR hF
  u_leave1 H.f_uAdd rR hF
  u_op rR hF
  u_c stepG_region_end rR hF
  u_c stepG_seq rR hF
  u_c stepG_seq rR hF
  u_reg rR hF
  u_op rR hF
  u_op rR hF
  u_op rR hF
  u_op rR hF
  u_skip rR hF
  u_skip rR hF
  u_op rR hF
  u_c stepG_region_end rR hF
  u_cnd false rR hF
  u_c stepG_skip rR hF
  u_c stepG_seq rR hF
  u_reg rR hF
  u_op rR hF
  u_op rR hF
  u_op rR hF
  u_op rR hF
  u_c stepG_region_end rR hF
  u_c stepG_seq rR hF
  u_reg rR hF
  u_op rR hF
  u_op rR hF
  u_op rR hF
  u_op rR hF
  u_c stepG_region_end rR hF
  u_c stepG_seq rR hF
  u_c stepG_seq rR hF
  u_reg rR hF
  u_op rR hF
  u_op rR hF
  u_op rR hF
  u_op rR hF
  u_op rR hF
  u_op rR hF
  u_op rR hF
  u_op rR hF
  u_op rR hF
  u_op rR hF
  u_c stepG_region_end rR hF
  u_cnd false rR hF
  u_c stepG_skip rR hF
  u_c stepG_seq rR hF
  u_c stepG_seq rR hF
  u_reg rR hF
  u_op rR hF
  u_op rR hF
  u_c stepG_region_end rR hF
  u_cnd false rR hF
  u_c stepG_skip rR hF
  u_c stepG_seq rR hF
  u_c stepG_seq rR hF
  u_reg rR hF
  u_op rR hF
  u_op rR hF
  u_op rR hF
  u_skip rR hF
  u_skip rR hF
  u_op rR hF
  u_op rR hF
  u_skip rR hF
  u_skip rR hF
  u_skip rR hF
  u_skip rR hF
  u_op rR hF
  u_c stepG_region_end rR hF
  u_cnd false rR hF
  u_c stepG_skip rR hF
  u_c stepG_seq rR hF
  u_c stepG_seq rR hF
  u_reg rR hF
  u_op rR hF
  u_op rR hF
  u_op rR hF
  u_skip rR hF
  u_skip rR hF
  u_op rR hF
  u_c stepG_region_end rR hF
  u_cnd true rR hF
  u_c stepG_ret' rR hF
  refine Goes.stop (fun w₃ h₃=>?_)
  replace hF:=rR hF h₃
  clear h₃
  refine⟨rfl,_,stepG_unwind_entry (v:=.tuple #[]) (evs:=#[mk .enable]) rfl H.f_enable (x_enable_n L) (x_enable_b L) (x_enable_x L) (x_enable_f L) (by simp [Extern.Race.none_]) (by simp [mk]) (by simp [mk]),1,?_⟩
  u_leave0 H.f_add rR hF
  exact Goes.stop (fun _ _=>rfl)
set_option maxRecDepth 100000 in
theorem waitW{P:Program}(H:WgLib P L)(w:World)(hF:WgLive L.tWg Wg w) :
  Goes P true (RL L.tWg Wg) DC0 (WDi P L.tWg Wg (AnchWN L (fun _=>True) Wg (b₀.at a₀ (.inRegion ops₀ (i₀ :: rest₀) :: k₀)) cs)) 3
   (G ((base L.wait).at ⟨#[.pointer (some ⟨Wg,0,none⟩),undef,undef,undef,undef,undef,undef,undef,undef,undef,undef,undef,undef,undef,undef,undef,undef,undef,undef,undef,undef,undef,undef,undef,undef,undef,undef,undef,undef,undef,undef,undef,undef,undef,undef,undef,undef,undef,undef,undef,undef,undef,undef,undef,undef,undef,undef,undef,undef,undef,undef,undef,undef,undef,undef,undef,undef,undef,undef,undef,undef,undef,undef,undef,undef,undef,undef,undef,undef,undef,undef,undef,undef,undef,undef,undef,undef,undef,undef,undef,undef,undef,undef,undef],[]⟩ [.code (body_wait L)]) (b₀.at a₀ (.inRegion ops₀ (i₀ :: rest₀) :: k₀) :: cs)) w:=by
 lib_facts
 simp only [body_wait,waitFn,Option.getD_some]
 u_c stepG_seq rR hF
 u_cond true rR hF
 u_reg rR hF
 refine Goes.stop (fun w₁ h₁=>?_)
 replace hF:=rR hF h₁
 clear h₁
 refine⟨rfl,_,stepG_mark0 .disable (by simp) rfl rfl (by k_ne) rfl H.f_disable (x_disable_n L) (x_disable_b L) (x_disable_x L) (x_disable_f L),3,?_⟩
 walk_nrm
 u_c stepG_region_end rR hF
 u_c stepG_block rR hF
 u_c stepG_loop rR hF
 exact Goes.stop (fun w₂ h₂=>⟨_,rfl,by simp,by simp,trivial,rR hF h₂⟩)
set_option maxRecDepth 100000 in
set_option maxHeartbeats 8000000 in
theorem waitR{P:Program}(H:WgLib P L)(g:Goroutine)(w:World)(h:AnchWN L (fun _=>True) Wg (b₀.at a₀ (.inRegion ops₀ (i₀ :: rest₀) :: k₀)) cs g w) :
  ∃ m,Goes P true (RL L.tWg Wg) DC0 (W1 P L.tWg Wg (G (b₀.at (a₀.put ((ops₀[i₀]?).bind (·.dst)) (.tuple #[])) (.inRegion ops₀ rest₀ :: k₀)) cs) (AnchWN L (fun _=>True) Wg (b₀.at a₀ (.inRegion ops₀ (i₀ :: rest₀) :: k₀)) cs)) m g w:=by
 lib_facts
 obtain⟨T,rfl,hT84,t0,_,hF⟩:=h
 obtain⟨v0,v1,v2,v3,v4,v5,v6,v7,v8,v9,v10,v11,v12,v13,v14,v15,v16,v17,v18,v19,v20,v21,v22,v23,v24,v25,v26,v27,v28,v29,v30,v31,v32,v33,v34,v35,v36,v37,v38,v39,v40,v41,v42,v43,v44,v45,v46,v47,v48,v49,v50,v51,v52,v53,v54,v55,v56,v57,v58,v59,v60,v61,v62,v63,v64,v65,v66,v67,v68,v69,v70,v71,v72,v73,v74,v75,v76,v77,v78,v79,v80,v81,v82,v83,rfl⟩:=array84 T hT84
 simp only [List.getElem?_toArray,List.getElem?_cons_zero,Option.some.injEq] at t0
 subst t0
 refine⟨30,?_⟩
 simp only [L7,body_wait,waitFn,Option.getD_some]
 u_c stepG_block rR hF
 u_c stepG_seq rR hF
 u_reg rR hF
 u_op rR hF
 u_op rR hF
 u_op rR hF
 u_call H.f_uLoad (nm_uLoad L) uLoadFn rR hF
 u_c stepG_seq rR hF
 u_reg rR hF
 u_op rR hF
 u_c stepG_region_end rR hF
 u_c stepG_seq rR hF
 u_reg rR hF
 u_op rR hF
 u_op rR hF
 u_op rR hF
 refine Goes.stop (fun w₁ h₁=>?_)
 replace hF:=rR hF h₁
 clear h₁
 refine⟨rfl,fun v hv hw=>?_⟩
 rcases Nat.eq_zero_or_pos v with rfl | hvp
 ·replace hw:WgAt L.tWg Wg w₁ 0 0:=by simpa using hw
  refine⟨_,stepG_load_atomic (v:=0) rfl rfl (by k_ne) rfl H.f_loadU64 (x_loadU64_n L) (x_loadU64_b L) (x_loadU64_x L) .u64 (x_loadU64_f L) rfl hw.cellSt,fun _=>⟨50,?_⟩,fun h=>absurd rfl h⟩
  clear hw
  walk_nrm
  u_op rR hF
  u_c stepG_region_end rR hF
  u_c stepG_ret' rR hF
  u_leave1 H.f_uLoad rR hF
  u_op rR hF
  u_c stepG_region_end rR hF
  u_c stepG_seq rR hF
  u_reg rR hF
  u_op rR hF
  u_op rR hF
  u_op rR hF
  u_op rR hF
  u_c stepG_region_end rR hF
  u_c stepG_seq rR hF
  u_reg rR hF
  u_op rR hF
  u_op rR hF
  u_op rR hF
  u_op rR hF
  u_c stepG_region_end rR hF
  u_c stepG_seq rR hF
  u_c stepG_seq rR hF
  u_reg rR hF
  u_op rR hF
  u_op rR hF
  u_c stepG_region_end rR hF
  u_cond true rR hF
  u_c stepG_seq rR hF
  u_cond true rR hF
  u_c stepG_seq rR hF
  u_reg rR hF
  refine Goes.stop (fun w₅ h₅=>?_)
  replace hF:=rR hF h₅
  clear h₅
  refine⟨rfl,_,stepG_mark0 .enable (by simp) rfl rfl (by k_ne) rfl H.f_enable (x_enable_n L) (x_enable_b L) (x_enable_x L) (x_enable_f L),12,?_⟩
  walk_nrm
  u_c stepG_region_end rR hF
  u_reg rR hF
  u_op rR hF
  u_conv H.underlying_tWgP H.room_tWg (WgLive.cell0 hF).choose_spec rR hF
  refine Goes.stop (fun w₆ h₆=>?_)
  replace hF:=rR hF h₆
  clear h₆
  refine⟨rfl,_,stepG_markAt .acquire (by simp) rfl rfl (by k_ne) rfl H.f_acquire (x_acquire_n L) (x_acquire_b L) (x_acquire_x L) (x_acquire_f L) (by simp [Act.eval,stA]),⟨20,?_⟩⟩
  walk_nrm
  u_c stepG_region_end rR hF
  u_c stepG_seq rR hF
  u_c stepG_seq rR hF
  u_reg rR hF
  u_op rR hF
  u_op rR hF
  u_op rR hF
  u_op rR hF
  u_op rR hF
  u_op rR hF
  u_op rR hF
  u_op rR hF
  u_skip rR hF
  u_skip rR hF
  u_op rR hF
  u_c stepG_region_end rR hF
  u_cond false rR hF
  u_c stepG_skip rR hF
  u_c stepG_ret' rR hF
  u_leave0 H.f_wait rR hF
  exact Goes.stop (fun _ _=>rfl)
 ·obtain⟨S,hS⟩:∃ S:Int,(v:Int) * KK=S:=⟨_,rfl⟩
  have a1:S / 4294967296=(v:Int):=by rw [← hS];simp only [KK];omega
  have b1:bits .and .u64 S 2147483648=0:=by rw [← hS];have:=st_flag v 0 (by omega) (by omega);simpa [KK] using this
  have b2:bits .and .u64 S 2147483647=0:=by rw [← hS];have:=st_waiters v 0 (by omega) (by omega);simpa [KK] using this
  have c1:IntKind.i32.wrap (v:Int)=(v:Int):=by rw [IntKind.wrap_i32];omega
  have w1:IntKind.u64.wrap (S+1)=S+1:=by rw [IntKind.wrap_u64,← hS];simp only [KK];omega
  have q3:decide ((v:Int)<0)=false:=decide_eq_false (by omega)
  have q4:decide (0<(v:Int))=true:=decide_eq_true (by omega)
  have q5:((v:Int) == 0)=false:=by simp;omega
  have q6:decide ((v:Int)=0)=false:=decide_eq_false (by omega)
  rw [hS] at hw
  refine⟨_,stepG_load_atomic (v:=S) rfl rfl (by k_ne) rfl H.f_loadU64 (x_loadU64_n L) (x_loadU64_b L) (x_loadU64_x L) .u64 (x_loadU64_f L) rfl hw.cellSt,fun h0=>absurd h0 (by omega),fun _=>⟨60,?_⟩⟩
  clear hw
  walk_nrm
  u_op rR hF
  u_c stepG_region_end rR hF
  u_c stepG_ret' rR hF
  u_leave1 H.f_uLoad rR hF
  u_op rR hF
  u_c stepG_region_end rR hF
  u_c stepG_seq rR hF
  u_reg rR hF
  u_op rR hF
  u_op rR hF
  u_op rR hF
  u_op rR hF
  u_c stepG_region_end rR hF
  u_c stepG_seq rR hF
  u_reg rR hF
  u_op rR hF
  u_op rR hF
  u_op rR hF
  u_op rR hF
  u_c stepG_region_end rR hF
  u_c stepG_seq rR hF
  u_c stepG_seq rR hF
  u_reg rR hF
  u_op rR hF
  u_op rR hF
  u_c stepG_region_end rR hF
  u_cnd false rR hF
  u_c stepG_skip rR hF
  u_c stepG_seq rR hF
  u_reg rR hF
  u_op rR hF
  u_op rR hF
  u_op rR hF
  u_op rR hF
  u_op rR hF
  u_op rR hF
  u_call H.f_uCas (nm_uCas L) uCasFn rR hF
  u_c stepG_seq rR hF
  u_reg rR hF
  u_op rR hF
  u_c stepG_region_end rR hF
  u_c stepG_seq rR hF
  u_reg rR hF
  u_op rR hF
  u_op rR hF
  u_op rR hF
  u_op rR hF
  u_op rR hF
  refine Goes.stop (fun w₂ h₂=>?_)
  replace hF:=rR hF h₂
  clear h₂
  refine⟨rfl,fun v' hv' hw=>⟨fun e=>?_,fun e=>?_⟩⟩
  ·subst e
   rw [hS] at hw ⊢
   refine⟨_,(stepG_cas_hit (v:=S) (n:=S+1) rfl rfl (by k_ne) rfl H.f_casU64 (x_casU64_n L) (x_casU64_b L) (x_casU64_x L) .u64 (x_casU64_f L) rfl rfl rfl hw.cellSt (hw.thaw 0)).trans (by rfl),70,?_⟩
   replace hF:WgLive L.tWg Wg (w₂.setCell (stA Wg) (.int .u64 (S+1))):=⟨_,_,hw.setSt _⟩
   clear hw
   walk_nrm
   u_op rR hF
   u_c stepG_region_end rR hF
   u_c stepG_ret' rR hF
   u_leave1 H.f_uCas rR hF
   u_c stepG_region_end rR hF
   u_cond true rR hF
   u_c stepG_seq rR hF
   u_c stepG_seq rR hF
   u_reg rR hF
   u_op rR hF
   u_op rR hF
   u_op rR hF
   u_op rR hF
   u_c stepG_region_end rR hF
   u_cond true rR hF
   u_reg rR hF
   u_op rR hF
   u_op rR hF
   u_op rR hF
   u_conv H.underlying_tPU32 H.room_tU32 (WgLive.cell1 hF).choose_spec rR hF
   refine Goes.stop (fun w₇ h₇=>?_)
   replace hF:=rR hF h₇
   clear h₇
   refine⟨rfl,_,stepG_markAt .write (by simp) rfl rfl (by k_ne) rfl H.f_raceWrite (x_raceWrite_n L) (x_raceWrite_b L) (x_raceWrite_x L) (x_raceWrite_f L) (by simp [Act.eval,smA]),60,?_⟩
   u_c stepG_region_end rR hF
   u_c stepG_seq rR hF
   u_reg rR hF
   u_op rR hF
   u_c stepG_region_end rR hF
   u_c stepG_seq rR hF
   u_c stepG_seq rR hF
   u_reg rR hF
   u_op rR hF
   u_op rR hF
   u_op rR hF
   u_op rR hF
   u_skip rR hF
   u_op rR hF
   u_c stepG_region_end rR hF
   u_cond false rR hF
   u_c stepG_skip rR hF
   u_c stepG_seq rR hF
   u_reg rR hF
   u_op rR hF
   u_op rR hF
   u_op rR hF
   u_op rR hF
   refine Goes.stop (fun w₃ h₃=>?_)
   replace hF:=rR hF h₃
   clear h₃
   refine⟨rfl,rfl,fun ⟨st,hw⟩=>stepG_semacquire_wait rfl rfl rfl H.f_semacquire (x_semacquire_n L) (x_semacquire_b L) (x_semacquire_x L) (x_semacquire_f L) (by simp [Act.eval,smA]) hw.cellSm,fun hf=>?_⟩
   refine⟨_,(stepG_semacquire (n:=1) rfl rfl (by k_ne) rfl H.f_semacquire (x_semacquire_n L) (x_semacquire_b L) (x_semacquire_x L) (x_semacquire_f L) (by simp [Act.eval,smA]) hf.cellSm (by k_ne) (hf.thaw 1)).trans (by rfl),30,?_⟩
   replace hF:WgLive L.tWg Wg (w₃.setCell (smA Wg) (.int .u32 0)):=⟨_,_,hf.setSm 0⟩
   clear hf
   walk_nrm
   u_c stepG_region_end rR hF
   u_c stepG_seq rR hF
   u_reg rR hF
   u_op rR hF
   u_op rR hF
   u_op rR hF
   u_call H.f_uLoad (nm_uLoad L) uLoadFn rR hF
   u_c stepG_seq rR hF
   u_reg rR hF
   u_op rR hF
   u_c stepG_region_end rR hF
   u_c stepG_seq rR hF
   u_reg rR hF
   u_op rR hF
   u_op rR hF
   u_op rR hF
   refine Goes.stop (fun w₄ h₄=>?_)
   replace hF:=rR hF h₄
   clear h₄
   refine⟨rfl,fun hw=>⟨_,stepG_load_atomic (v:=0) rfl rfl (by k_ne) rfl H.f_loadU64 (x_loadU64_n L) (x_loadU64_b L) (x_loadU64_x L) .u64 (x_loadU64_f L) rfl hw.cellSt,30,?_⟩⟩
   clear hw
   walk_nrm
   u_op rR hF
   u_c stepG_region_end rR hF
   u_c stepG_ret' rR hF
   u_leave1 H.f_uLoad rR hF
   u_op rR hF
   u_op rR hF
   u_c stepG_region_end rR hF
   u_c stepG_seq rR hF
   u_cond true rR hF
   u_c stepG_seq rR hF
   u_reg rR hF
   refine Goes.stop (fun w₅ h₅=>?_)
   replace hF:=rR hF h₅
   clear h₅
   refine⟨rfl,_,stepG_mark0 .enable (by simp) rfl rfl (by k_ne) rfl H.f_enable (x_enable_n L) (x_enable_b L) (x_enable_x L) (x_enable_f L),12,?_⟩
   walk_nrm
   u_c stepG_region_end rR hF
   u_reg rR hF
   u_op rR hF
   u_conv H.underlying_tWgP H.room_tWg (WgLive.cell0 hF).choose_spec rR hF
   refine Goes.stop (fun w₆ h₆=>?_)
   replace hF:=rR hF h₆
   clear h₆
   refine⟨rfl,_,stepG_markAt .acquire (by simp) rfl rfl (by k_ne) rfl H.f_acquire (x_acquire_n L) (x_acquire_b L) (x_acquire_x L) (x_acquire_f L) (by simp [Act.eval,stA]),⟨10,?_⟩⟩
   walk_nrm
   u_c stepG_region_end rR hF
   u_c stepG_seq rR hF
   u_c stepG_seq rR hF
   u_reg rR hF
   u_op rR hF
   u_c stepG_region_end rR hF
   u_cond false rR hF
   u_c stepG_skip rR hF
   u_c stepG_ret' rR hF
   u_leave0 H.f_wait rR hF
   exact Goes.stop (fun _ _=>rfl)
  ·refine⟨_,stepG_cas_miss (v:=(v':Int) * KK) (old:=S) (n:=S+1) rfl rfl (by k_ne) rfl H.f_casU64 (x_casU64_n L) (x_casU64_b L) (x_casU64_x L) .u64 (x_casU64_f L) rfl rfl rfl hw.cellSt (hw.thaw 0) (by rw [← hS];simp only [KK];omega),20,?_⟩
   clear hw
   walk_nrm
   u_op rR hF
   u_c stepG_region_end rR hF
   u_c stepG_ret' rR hF
   u_leave1 H.f_uCas rR hF
   u_c stepG_region_end rR hF
   u_cond false rR hF
   u_c stepG_skip rR hF
   u_c stepG_inBlock rR hF
   u_c stepG_inLoop rR hF
   refine Goes.stop (fun w₃ h₃=>?_)
   replace hF:=rR hF h₃
   exact⟨_,rfl,by simp,by simp,trivial,hF⟩
set_option maxRecDepth 100000 in
set_option maxHeartbeats 8000000 in
theorem addNegW{P:Program}(H:WgLib P L){qt:Nat}(hT:QuitsD P qt 0 (G (b₀.at (a₀.put ((ops₀[i₀]?).bind (·.dst)) (.tuple #[])) (.inRegion ops₀ rest₀ :: k₀)) cs))(w:World)(hK:WgLive L.tWg Wg w) :
  Goes P false (RL L.tWg Wg) DC0 (DRel P L.tWg Wg) 20 (G ((base L.add).at ⟨#[.pointer (some ⟨Wg,0,none⟩),.int .i64 (-1),undef,undef,undef,undef,undef,undef,undef,undef,undef,undef,undef,undef,undef,undef,undef,undef,undef,undef,undef,undef,undef,undef,undef,undef,undef,undef,undef,undef,undef,undef,undef,undef,undef,undef,undef,undef,undef,undef,undef,undef,undef,undef,undef,undef,undef,undef,undef,undef,undef,undef,undef,undef,undef,undef,undef,undef,undef,undef,undef,undef,undef,undef,undef,undef,undef,undef,undef,undef,undef,undef,undef,undef,undef,undef,undef,undef,undef,undef,undef,undef,undef,undef,undef,undef,undef,undef,undef,undef,undef,undef,undef,undef,undef,undef,undef,undef,undef,undef,undef,undef,undef,undef,undef,undef,undef,undef,undef,undef,undef,undef,undef,undef,undef,undef,undef],[]⟩ [.code (body_add L)]) (b₀.at a₀ (.inRegion ops₀ (i₀ :: rest₀) :: k₀) :: cs)) w:=by
 lib_facts
 simp only [body_add,addFn,Option.getD_some]
 u_c stepG_seq rR hK
 u_cond true rR hK
 u_c stepG_seq rR hK
 u_c stepG_seq rR hK
 u_reg rR hK
 u_op rR hK
 u_op rR hK
 u_c stepG_region_end rR hK
 u_cond true rR hK
 u_reg rR hK
 u_op rR hK
 u_conv H.underlying_tWgP H.room_tWg (WgLive.cell0 hK).choose_spec rR hK
 refine Goes.stop (fun w₁ h₁=>?_)
 replace hK:=rR hK h₁
 clear h₁
 refine⟨rfl,_,stepG_markAt .releaseMerge (by simp) rfl rfl (by k_ne) rfl H.f_relMerge (x_relMerge_n L) (x_relMerge_b L) (x_relMerge_x L) (x_relMerge_f L) (by simp [Act.eval,stA]),10,?_⟩
 walk_nrm
 u_c stepG_region_end rR hK
 u_c stepG_seq rR hK
 u_reg rR hK
 refine Goes.stop (fun w₁ h₁=>?_)
 replace hK:=rR hK h₁
 clear h₁
 refine⟨rfl,_,stepG_mark0 .disable (by simp) rfl rfl (by k_ne) rfl H.f_disable (x_disable_n L) (x_disable_b L) (x_disable_x L) (x_disable_f L),50,?_⟩
 walk_nrm
 u_c stepG_region_end rR hK
 u_reg rR hK
 u_defer rR hK
 u_c stepG_region_end rR hK
 u_c stepG_seq rR hK
 u_reg rR hK
 u_op rR hK
 u_c stepG_region_end rR hK
 u_c stepG_seq rR hK
 u_c stepG_seq rR hK
 u_reg rR hK
 u_bub rR hK
 u_c stepG_region_end rR hK
 u_cond false rR hK
 u_c stepG_skip rR hK
 u_c stepG_seq rR hK
 u_reg rR hK
 u_op rR hK
 u_op rR hK
 u_op rR hK
 u_op rR hK
 u_op rR hK
 u_op rR hK
 u_call H.f_uAdd (nm_uAdd L) uAddFn rR hK
 u_c stepG_seq rR hK
 u_reg rR hK
 u_op rR hK
 u_c stepG_region_end rR hK
 u_c stepG_seq rR hK
 u_reg rR hK
 u_op rR hK
 u_op rR hK
 u_op rR hK
 u_op rR hK
 refine Goes.stop (fun w₁ h₁=>?_)
 clear h₁ hK
 refine⟨rfl,fun v wt hwt hv hw=>?_⟩
 have e0:IntKind.u64.wrap (KK+18446744069414584320)=0:=by decide
 have e1:IntKind.u64.wrap (KK+1+18446744069414584320)=1:=by decide
 rcases Nat.eq_zero_or_pos v with rfl | hvp <;> (obtain rfl | rfl:wt=0∨wt=1:=by omega)
 ·replace hw:WgAt L.tWg Wg w₁ KK 0:=by simpa using hw
  have z:((0:Nat):Int) * KK+((0:Nat):Int)=0:=by simp
  rw [z]
  refine⟨_,(stepG_add_atomic rfl rfl (by k_ne) rfl H.f_addU64 (x_addU64_n L) (x_addU64_b L) (x_addU64_x L) .u64 (x_addU64_f L) rfl rfl hw.cellSt (hw.thaw 0)).trans (by rw [e0];rfl),fun hl=>absurd hl.2 (by decide),fun _=>⟨qt+89,?_⟩⟩
  clear hw
  walk_nrm
  q_val (.int .u64 0)
  q_c stepG_region_end
  q_c stepG_ret'
  q_leave1 H.f_uAdd
  q_val (.int .u64 0)
  q_c stepG_region_end
  q_c stepG_seq
  q_c stepG_seq
  q_reg
  q_val (.int .u64 0)
  q_val (.int .u64 0)
  q_val (.bool false)
  q_val (.bool false)
  q_skip
  q_skip
  q_val (.bool false)
  q_c stepG_region_end
  q_cond false
  q_c stepG_skip
  q_c stepG_seq
  q_reg
  q_val (.int .u64 0)
  q_val (.int .u64 0)
  q_val (.int .i32 0)
  q_val (.int .i32 0)
  q_c stepG_region_end
  q_c stepG_seq
  q_reg
  q_val (.int .u64 0)
  q_val (.int .u64 0)
  q_val (.int .u32 0)
  q_val (.int .u32 0)
  q_c stepG_region_end
  q_c stepG_seq
  q_c stepG_seq
  q_reg
  q_val (.bool true)
  q_val (.int .i64 (-1))
  q_val (.bool false)
  q_val (.bool false)
  q_val (.bool false)
  q_skip
  q_skip
  q_skip
  q_skip
  q_val (.bool false)
  q_c stepG_region_end
  q_cond false
  q_c stepG_skip
  q_c stepG_seq
  q_c stepG_seq
  q_reg
  q_val (.int .i32 0)
  q_val (.bool false)
  q_c stepG_region_end
  q_cond false
  q_c stepG_skip
  q_c stepG_seq
  q_c stepG_seq
  q_reg
  q_val (.int .u32 0)
  q_val (.bool false)
  q_val (.bool false)
  q_skip
  q_skip
  q_val (.bool false)
  q_val (.bool false)
  q_skip
  q_skip
  q_skip
  q_skip
  q_val (.bool false)
  q_c stepG_region_end
  q_cond false
  q_c stepG_skip
  q_c stepG_seq
  q_c stepG_seq
  q_reg
  q_val (.int .i32 0)
  q_val (.bool false)
  q_val (.bool false)
  q_val (.int .u32 0)
  q_val (.bool true)
  q_val (.bool true)
  q_c stepG_region_end
  q_cond true
  q_c stepG_ret'
  q_enable
  q_leave0 H.f_add
  exact hT
 ·replace hw:WgAt L.tWg Wg w₁ (KK+1) 0:=by simpa using hw
  have z:((0:Nat):Int) * KK+((1:Nat):Int)=1:=by simp
  rw [z]
  refine⟨_,(stepG_add_atomic rfl rfl (by k_ne) rfl H.f_addU64 (x_addU64_n L) (x_addU64_b L) (x_addU64_x L) .u64 (x_addU64_f L) rfl rfl hw.cellSt (hw.thaw 0)).trans (by rw [e1];rfl),fun _=>⟨120,?_⟩,fun hl=>absurd ⟨rfl,rfl⟩ hl⟩
  have hF:WgLive L.tWg Wg (w₁.setCell (stA Wg) (.int .u64 1)):=⟨_,_,hw.setSt 1⟩
  clear hw
  walk_nrm
  u_op rR hF
  u_c stepG_region_end rR hF
  u_c stepG_ret' rR hF
  u_leave1 H.f_uAdd rR hF
  u_op rR hF
  u_c stepG_region_end rR hF
  u_c stepG_seq rR hF
  u_c stepG_seq rR hF
  u_reg rR hF
  u_op rR hF
  u_op rR hF
  u_op rR hF
  u_op rR hF
  u_skip rR hF
  u_skip rR hF
  u_op rR hF
  u_c stepG_region_end rR hF
  u_cond false rR hF
  u_c stepG_skip rR hF
  u_c stepG_seq rR hF
  u_reg rR hF
  u_op rR hF
  u_op rR hF
  u_op rR hF
  u_op rR hF
  u_c stepG_region_end rR hF
  u_c stepG_seq rR hF
  u_reg rR hF
  u_op rR hF
  u_op rR hF
  u_op rR hF
  u_op rR hF
  u_c stepG_region_end rR hF
  u_c stepG_seq rR hF
  u_c stepG_seq rR hF
  u_reg rR hF
  u_op rR hF
  u_op rR hF
  u_op rR hF
  u_op rR hF
  u_op rR hF
  u_skip rR hF
  u_skip rR hF
  u_skip rR hF
  u_skip rR hF
  u_op rR hF
  u_c stepG_region_end rR hF
  u_cond false rR hF
  u_c stepG_skip rR hF
  u_c stepG_seq rR hF
  u_c stepG_seq rR hF
  u_reg rR hF
  u_op rR hF
  u_op rR hF
  u_c stepG_region_end rR hF
  u_cond false rR hF
  u_c stepG_skip rR hF
  u_c stepG_seq rR hF
  u_c stepG_seq rR hF
  u_reg rR hF
  u_op rR hF
  u_op rR hF
  u_op rR hF
  u_op rR hF
  u_op rR hF
  u_op rR hF
  u_op rR hF
  u_skip rR hF
  u_skip rR hF
  u_skip rR hF
  u_skip rR hF
  u_op rR hF
  u_c stepG_region_end rR hF
  u_cond false rR hF
  u_c stepG_skip rR hF
  u_c stepG_seq rR hF
  u_c stepG_seq rR hF
  u_reg rR hF
  u_op rR hF
  u_op rR hF
  u_op rR hF
  u_op rR hF
  u_op rR hF
  u_op rR hF
  u_c stepG_region_end rR hF
  u_cond false rR hF
  u_c stepG_skip rR hF
  u_c stepG_seq rR hF
  u_c stepG_seq rR hF
  u_reg rR hF
  u_op rR hF
  u_op rR hF
  u_op rR hF
  u_call H.f_uLoad (nm_uLoad L) uLoadFn rR hF
  u_c stepG_seq rR hF
  u_reg rR hF
  u_op rR hF
  u_c stepG_region_end rR hF
  u_c stepG_seq rR hF
  u_reg rR hF
  u_op rR hF
  u_op rR hF
  u_op rR hF
  refine Goes.stop (fun w₂ h₂=>?_)
  clear h₂ hF
  refine⟨rfl,fun hw=>⟨_,stepG_load_atomic rfl rfl (by k_ne) rfl H.f_loadU64 (x_loadU64_n L) (x_loadU64_b L) (x_loadU64_x L) .u64 (x_loadU64_f L) rfl hw.cellSt,40,?_⟩⟩
  have hF:WgLive L.tWg Wg w₂:=⟨_,_,hw⟩
  clear hw
  walk_nrm
  u_op rR hF
  u_c stepG_region_end rR hF
  u_c stepG_ret' rR hF
  u_leave1 H.f_uLoad rR hF
  u_op rR hF
  u_op rR hF
  u_c stepG_region_end rR hF
  u_cond false rR hF
  u_c stepG_skip rR hF
  u_c stepG_seq rR hF
  u_reg rR hF
  u_op rR hF
  u_op rR hF
  u_op rR hF
  u_call H.f_uStore (nm_uStore L) uStoreFn rR hF
  u_reg rR hF
  u_op rR hF
  u_op rR hF
  u_op rR hF
  u_op rR hF
  refine Goes.stop (fun w₃ h₃=>?_)
  clear h₃ hF
  refine⟨rfl,fun hw=>⟨_,stepG_store_atomic rfl rfl (by k_ne) rfl H.f_storeU64 (x_storeU64_n L) (x_storeU64_b L) (x_storeU64_x L) (x_storeU64_f L) rfl rfl hw.cellSt (hw.thaw 0),50,?_⟩⟩
  have hF:WgLive L.tWg Wg (w₃.setCell (stA Wg) (.int .u64 0)):=⟨_,_,hw.setSt 0⟩
  clear hw
  walk_nrm
  u_c stepG_region_end rR hF
  u_c stepG_end rR hF
  u_leave0 H.f_uStore rR hF
  u_c stepG_region_end rR hF
  u_c stepG_seq rR hF
  u_c stepG_seq rR hF
  u_reg rR hF
  u_op rR hF
  u_c stepG_region_end rR hF
  u_cond false rR hF
  u_c stepG_skip rR hF
  u_c stepG_block rR hF
  u_c stepG_loop rR hF
  u_c stepG_seq rR hF
  u_c stepG_seq rR hF
  u_reg rR hF
  u_op rR hF
  u_op rR hF
  u_c stepG_region_end rR hF
  u_cond true rR hF
  u_c stepG_skip rR hF
  u_c stepG_seq rR hF
  u_c stepG_block rR hF
  u_reg rR hF
  u_op rR hF
  u_op rR hF
  u_op rR hF
  refine Goes.stop (fun w₄ h₄=>?_)
  clear h₄ hF
  refine⟨rfl,mayWake_entry rfl rfl H.f_semrelease (x_semrelease_b L),fun hw=>⟨_,(stepG_semrelease rfl rfl (by k_ne) rfl H.f_semrelease (x_semrelease_n L) (x_semrelease_b L) (x_semrelease_x L) (x_semrelease_f L) (by simp [Act.eval,smA]) hw.cellSm (hw.thaw 1)).trans (by rfl),qt+19,?_⟩⟩
  clear hw
  walk_nrm
  q_c stepG_region_end
  q_c stepG_inBlock
  q_reg
  q_val (.int .u32 1)
  q_val (.int .u32 0)
  q_val (.int .u32 0)
  q_c stepG_region_end
  q_c stepG_inLoop
  q_c stepG_seq
  q_c stepG_seq
  q_reg
  q_val (.int .u32 0)
  q_val (.bool false)
  q_c stepG_region_end
  q_cond false
  q_exit
  q_c stepG_end
  q_enable
  q_leave0 H.f_add
  exact hT
 ·replace hw:WgAt L.tWg Wg w₁ (((v:Nat)+1) * KK+0) 0:=by simpa using hw
  have z:((v:Nat):Int) * KK+((0:Nat):Int)=(v:Int) * KK+0:=by simp
  rw [z]
  have hv0:0<v:=by omega
  have eS:IntKind.u64.wrap (((v:Nat)+1) * KK+0+18446744069414584320)=(v:Int) * KK+0:=by rw [IntKind.wrap_u64];simp only [KK];omega
  obtain⟨S,hS⟩:∃ S:Int,S=(v:Int) * KK+0:=⟨_,rfl⟩
  rw [← hS] at eS ⊢
  have a1:S / 4294967296=(v:Int):=by rw [hS];simp only [KK];omega
  have a2:0≤S∧S<9223372036854775808:=by rw [hS];simp only [KK];omega
  have b1:bits .and .u64 S 2147483648=0:=by rw [hS];have:=st_flag v 0 (by omega) (by omega);simpa [KK] using this
  have b2:bits .and .u64 S 2147483647=0:=by rw [hS];have:=st_waiters v 0 (by omega) (by omega);simpa [KK] using this
  clear hS z
  refine⟨_,(stepG_add_atomic rfl rfl (by k_ne) rfl H.f_addU64 (x_addU64_n L) (x_addU64_b L) (x_addU64_x L) .u64 (x_addU64_f L) rfl rfl hw.cellSt (hw.thaw 0)).trans (by rw [eS];rfl),fun hl=>absurd hl.1 (by omega),fun _=>⟨qt+89,?_⟩⟩
  clear hw
  walk_nrm
  q_vn (.int .u64 S)
  q_c stepG_region_end
  q_c stepG_ret'
  q_leave1 H.f_uAdd
  q_vn (.int .u64 S)
  q_c stepG_region_end
  q_c stepG_seq
  q_c stepG_seq
  q_reg
  q_vn (.int .u64 S)
  q_vn (.int .u64 0)
  q_vn (.bool false)
  q_vn (.bool false)
  q_skip
  q_skip
  q_vn (.bool false)
  q_c stepG_region_end
  q_cond false
  q_c stepG_skip
  q_c stepG_seq
  q_reg
  q_vn (.int .u64 S)
  q_vn (.int .u64 (v:Int))
  q_vn (.int .i32 (v:Int))
  q_vn (.int .i32 (v:Int))
  q_c stepG_region_end
  q_c stepG_seq
  q_reg
  q_vn (.int .u64 S)
  q_vn (.int .u64 0)
  q_vn (.int .u32 0)
  q_vn (.int .u32 0)
  q_c stepG_region_end
  q_c stepG_seq
  q_c stepG_seq
  q_reg
  q_vn (.bool true)
  q_vn (.int .i64 (-1))
  q_vn (.bool false)
  q_vn (.bool false)
  q_vn (.bool false)
  q_skip
  q_skip
  q_skip
  q_skip
  q_vn (.bool false)
  q_c stepG_region_end
  q_cond false
  q_c stepG_skip
  q_c stepG_seq
  q_c stepG_seq
  q_reg
  q_vn (.int .i32 (v:Int))
  q_vn (.bool false)
  q_c stepG_region_end
  q_cond false
  q_c stepG_skip
  q_c stepG_seq
  q_c stepG_seq
  q_reg
  q_vn (.int .u32 0)
  q_vn (.bool false)
  q_vn (.bool false)
  q_skip
  q_skip
  q_vn (.bool false)
  q_vn (.bool false)
  q_skip
  q_skip
  q_skip
  q_skip
  q_vn (.bool false)
  q_c stepG_region_end
  q_cond false
  q_c stepG_skip
  q_c stepG_seq
  q_c stepG_seq
  q_reg
  q_vn (.int .i32 (v:Int))
  q_vn (.bool true)
  q_vn (.bool true)
  q_skip
  q_skip
  q_vn (.bool true)
  q_c stepG_region_end
  q_cond true
  q_c stepG_ret'
  q_enable
  q_leave0 H.f_add
  exact hT
 ·replace hw:WgAt L.tWg Wg w₁ (((v:Nat)+1) * KK+1) 0:=by simpa using hw
  have z:((v:Nat):Int) * KK+((1:Nat):Int)=(v:Int) * KK+1:=by simp
  rw [z]
  have hv0:0<v:=by omega
  have eS:IntKind.u64.wrap (((v:Nat)+1) * KK+1+18446744069414584320)=(v:Int) * KK+1:=by rw [IntKind.wrap_u64];simp only [KK];omega
  obtain⟨S,hS⟩:∃ S:Int,S=(v:Int) * KK+1:=⟨_,rfl⟩
  rw [← hS] at eS ⊢
  have a1:S / 4294967296=(v:Int):=by rw [hS];simp only [KK];omega
  have a2:0≤S∧S<9223372036854775808:=by rw [hS];simp only [KK];omega
  have b1:bits .and .u64 S 2147483648=0:=by rw [hS];have:=st_flag v 1 (by omega) (by omega);simpa [KK] using this
  have b2:bits .and .u64 S 2147483647=1:=by rw [hS];have:=st_waiters v 1 (by omega) (by omega);simpa [KK] using this
  clear hS z
  refine⟨_,(stepG_add_atomic rfl rfl (by k_ne) rfl H.f_addU64 (x_addU64_n L) (x_addU64_b L) (x_addU64_x L) .u64 (x_addU64_f L) rfl rfl hw.cellSt (hw.thaw 0)).trans (by rw [eS];rfl),fun hl=>absurd hl.1 (by omega),fun _=>⟨qt+89,?_⟩⟩
  clear hw
  walk_nrm
  q_vn (.int .u64 S)
  q_c stepG_region_end
  q_c stepG_ret'
  q_leave1 H.f_uAdd
  q_vn (.int .u64 S)
  q_c stepG_region_end
  q_c stepG_seq
  q_c stepG_seq
  q_reg
  q_vn (.int .u64 S)
  q_vn (.int .u64 0)
  q_vn (.bool false)
  q_vn (.bool false)
  q_skip
  q_skip
  q_vn (.bool false)
  q_c stepG_region_end
  q_cond false
  q_c stepG_skip
  q_c stepG_seq
  q_reg
  q_vn (.int .u64 S)
  q_vn (.int .u64 (v:Int))
  q_vn (.int .i32 (v:Int))
  q_vn (.int .i32 (v:Int))
  q_c stepG_region_end
  q_c stepG_seq
  q_reg
  q_vn (.int .u64 S)
  q_vn (.int .u64 1)
  q_vn (.int .u32 1)
  q_vn (.int .u32 1)
  q_c stepG_region_end
  q_c stepG_seq
  q_c stepG_seq
  q_reg
  q_vn (.bool true)
  q_vn (.int .i64 (-1))
  q_vn (.bool false)
  q_vn (.bool false)
  q_vn (.bool false)
  q_skip
  q_skip
  q_skip
  q_skip
  q_vn (.bool false)
  q_c stepG_region_end
  q_cond false
  q_c stepG_skip
  q_c stepG_seq
  q_c stepG_seq
  q_reg
  q_vn (.int .i32 (v:Int))
  q_vn (.bool false)
  q_c stepG_region_end
  q_cond false
  q_c stepG_skip
  q_c stepG_seq
  q_c stepG_seq
  q_reg
  q_vn (.int .u32 1)
  q_vn (.bool true)
  q_vn (.bool true)
  q_vn (.int .i64 (-1))
  q_vn (.bool false)
  q_vn (.bool false)
  q_vn (.bool false)
  q_skip
  q_skip
  q_skip
  q_skip
  q_vn (.bool false)
  q_c stepG_region_end
  q_cond false
  q_c stepG_skip
  q_c stepG_seq
  q_c stepG_seq
  q_reg
  q_vn (.int .i32 (v:Int))
  q_vn (.bool true)
  q_vn (.bool true)
  q_skip
  q_skip
  q_vn (.bool true)
  q_c stepG_region_end
  q_cond true
  q_c stepG_ret'
  q_enable
  q_leave0 H.f_add
  exact hT
end
set_option maxRecDepth 100000 in
theorem doneW{P:Program}(H:WgLib P L){Wg:Nat}{c:Frame}{cs:List Frame}{qt:Nat}(hcm:c.mode=.returning)(hT:QuitsD P qt 0 (G c cs))(w:World)(hK:WgLive L.tWg Wg w) :
  Goes P false (RL L.tWg Wg) DC0 (DRel P L.tWg Wg) 23 (G ((baseD L.done).at ⟨#[.pointer (some ⟨Wg,0,none⟩),undef,undef,undef],[]⟩ [.code (body_done L)]) (c :: cs)) w:=by
 lib_facts
 have hA:=@addNegW L Wg
 simp only [body_done,body_add,doneFn,addFn,Option.getD_some] at hA ⊢
 u_reg rR hK
 u_op rR hK
 u_in rR hK
 refine goes_call rfl rfl (by k_ne) rfl H.f_add (nm_add L) rfl ⟨by u_nil,?_⟩
 walk_nrmf addFn
 refine hA H (qt:=qt+3) ?_ _ hK
 q_c stepG_region_end
 q_c stepG_end
 exact QuitsD.leaveD rfl rfl H.f_done rfl hcm hT
end Go.Proofs.YtdoibgmmijhlfaaGreat.Wgk
