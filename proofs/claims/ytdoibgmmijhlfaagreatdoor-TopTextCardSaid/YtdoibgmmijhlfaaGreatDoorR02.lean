/- StrLay PlaceP PlaceQ PlaceL PlaceN RtP RtQ RtR -/
import Derived.Shelf.Strings.OnBuilder
import Derived.Shelf.LaysM
import Derived.Shelf.LaysC
import Derived.Shelf.Strconv.Itoa3
import Derived.Shelf.Strconv.AtoiAll
import Derived.Shelf.Strings.Split
import Derived.Test.YtdoibgmmijhlfaaGreatDoorProg
import Derived.Test.YtdoibgmmijhlfaaGreatDoorR00
import Derived.Lib.AtoiAll
import Derived.Lib.ItoaNum
import Derived.Lib.ItoaMem
import Derived.Lib.Join
import Derived.Lib.Split
import Derived.Lib.SplitLaws
import Derived.Lib.Hide
import Derived.Lib.LaidTab
import Derived.StillTailTactics
import Derived.Deep.QuietTactic
import Derived.BigQuiet
namespace Go.Proofs
open Go.Shelf
def Tryz.lays156_ren : Go.Shelf.Ren:=⟨fun | 156 => 23 | 165 => 57 | 166 => 58 | 169 => 59 | 240 => 90 | 241 => 91 | 276 => 113 | 277 => 114 | n => n,fun | 31 => 54 | 9 => 9 | 3 => 3 | 4 => 4 | 0 => 0 | 20 => 20 | 72 => 105 | 76 => 109 | 70 => 103 | 37 => 63 | 75 => 108 | 127 => 136 | 164 => 153 | 5 => 5 | 80 => 111 | n => n,fun | n => n⟩
theorem Tryz.lays156 : Go.Proofs.Lays.n156 Tryz.prog Tryz.lays156_ren:={
 mixed:=by kernel_rfl
 f156:=Tryz.func23.trans (congrArg some (by kernel_rfl))
 f165:=Tryz.func57.trans (congrArg some (by kernel_rfl))
 f166:=Tryz.func58.trans (congrArg some (by kernel_rfl))
 f169:=Tryz.func59.trans (congrArg some (by kernel_rfl))
 f240:=Tryz.func90.trans (congrArg some (by kernel_rfl))
 f241:=Tryz.func91.trans (congrArg some (by kernel_rfl))
 f276:=Tryz.func113.trans (congrArg some (by kernel_rfl))
 f277:=Tryz.func114.trans (congrArg some (by kernel_rfl))
 t0:=Tryz.underlying0
 a0:=Tryz.isAgg0
 z0:=Tryz.sizeOf0
 v0:=Tryz.zeroValue0
 t3:=Tryz.underlying3
 a3:=Tryz.isAgg3
 z3:=Tryz.sizeOf3
 v3:=Tryz.zeroValue3
 t4:=Tryz.underlying4
 a4:=Tryz.isAgg4
 z4:=Tryz.sizeOf4
 v4:=Tryz.zeroValue4
 t9:=Tryz.underlying9
 a9:=Tryz.isAgg9
 z9:=Tryz.sizeOf9
 v9:=Tryz.zeroValue9
 t20:=Tryz.underlying20
 a20:=Tryz.isAgg20
 z20:=Tryz.sizeOf20
 v20:=Tryz.zeroValue20
 t31:=Tryz.underlying54
 a31:=Tryz.isAgg54
 z31:=Tryz.sizeOf54
 v31:=Tryz.zeroValue54
 t37:=Tryz.underlying63
 a37:=Tryz.isAgg63
 z37:=Tryz.sizeOf63
 v37:=Tryz.zeroValue63
 t70:=Tryz.underlying103
 a70:=Tryz.isAgg103
 z70:=Tryz.sizeOf103
 v70:=Tryz.zeroValue103
 t72:=Tryz.underlying105
 a72:=Tryz.isAgg105
 z72:=Tryz.sizeOf105
 v72:=Tryz.zeroValue105
 t75:=Tryz.underlying108
 a75:=Tryz.isAgg108
 z75:=Tryz.sizeOf108
 v75:=Tryz.zeroValue108
 t76:=Tryz.underlying109
 a76:=Tryz.isAgg109
 z76:=Tryz.sizeOf109
 v76:=Tryz.zeroValue109
 t127:=Tryz.underlying136
 a127:=Tryz.isAgg136
 z127:=Tryz.sizeOf136
 v127:=Tryz.zeroValue136
 t164:=Tryz.underlying153
 a164:=Tryz.isAgg153
 z164:=Tryz.sizeOf153
 v164:=Tryz.zeroValue153 }
theorem Tryz.Builder_Extra_156 : Builder.Extra Tryz.prog Tryz.lays156_ren:={
 sizeBuilder:=by kernel_rfl
 liesBuilder:=by kernel_rfl
 t5:=Tryz.underlying5
 a5:=Tryz.isAgg5
 z5:=Tryz.sizeOf5
 v5:=Tryz.zeroValue5
 infoByte:=by kernel_rfl
 cellsByte:=by kernel_rfl
 sizeByte:=by kernel_rfl
 neB5:=by decide }
open Go.RowKit in
theorem Tryz.strings_Join (bk o c : Nat) (xs : List ByteArray) (sep : ByteArray) (w : World) (hcells : ∀ (j : Nat) x,xs[j]? = some x→w.cell? ⟨bk,o + j,none⟩=some (.string x)) (hbk : bk < w.heap.size) (hN : xs.length≤140737488355328) (hcap : xs.length≤c) (hlen : (Lib.join (xs.map (·.data.toList)) sep.data.toList).length≤140737488355328) :
  Calls Tryz.prog 23 #[.slice (some ⟨bk,o,none⟩) xs.length c,.string sep] w fun e w' => e=.returned (.string ⟨(Lib.join (xs.map (·.data.toList)) sep.data.toList).toArray⟩)∧Below w.heap.size w w':=Any.strings_Join Tryz.lays156 Tryz.Builder_Extra_156 bk o c xs sep w hcells hbk hN hcap hlen
def Tryz.laysM171_ren : Go.Shelf.Ren:=⟨fun | 171 => 17 | 243 => 56 | 246 => 89 | 283 => 109 | 284 => 110 | 285 => 111 | 286 => 112 | 129 => 134 | 317 => 136 | 318 => 137 | 319 => 138 | 320 => 139 | 337 => 152 | 338 => 153 | n => n,fun | 3 => 3 | 9 => 9 | 2 => 2 | 4 => 4 | 171 => 147 | 0 => 0 | 53 => 148 | 37 => 63 | 5 => 5 | 173 => 151 | 212 => 181 | 51 => 176 | 20 => 20 | 213 => 182 | 46 => 145 | 232 => 207 | 233 => 208 | n => n,fun | 17 => 0 | 18 => 6 | 19 => 7 | n => n⟩
theorem Tryz.laysM171 : Go.Proofs.LaysM.n171 Tryz.prog Tryz.laysM171_ren:={
 mixed:=by kernel_rfl
 f129:=Tryz.func134.trans (congrArg some (by kernel_rfl))
 f171:=Tryz.func17.trans (congrArg some (by kernel_rfl))
 f243:=Tryz.func56.trans (congrArg some (by kernel_rfl))
 f246:=Tryz.func89.trans (congrArg some (by kernel_rfl))
 f283:=Tryz.func109.trans (congrArg some (by kernel_rfl))
 f284:=Tryz.func110.trans (congrArg some (by kernel_rfl))
 f285:=Tryz.func111.trans (congrArg some (by kernel_rfl))
 f286:=Tryz.func112.trans (congrArg some (by kernel_rfl))
 f317:=Tryz.func136.trans (congrArg some (by kernel_rfl))
 f318:=Tryz.func137.trans (congrArg some (by kernel_rfl))
 f319:=Tryz.func138.trans (congrArg some (by kernel_rfl))
 f320:=Tryz.func139.trans (congrArg some (by kernel_rfl))
 f337:=Tryz.func152.trans (congrArg some (by kernel_rfl))
 f338:=Tryz.func153.trans (congrArg some (by kernel_rfl))
 t0:=Tryz.underlying0
 a0:=Tryz.isAgg0
 z0:=Tryz.sizeOf0
 v0:=Tryz.zeroValue0
 t2:=Tryz.underlying2
 a2:=Tryz.isAgg2
 z2:=Tryz.sizeOf2
 v2:=Tryz.zeroValue2
 t3:=Tryz.underlying3
 a3:=Tryz.isAgg3
 z3:=Tryz.sizeOf3
 v3:=Tryz.zeroValue3
 t4:=Tryz.underlying4
 a4:=Tryz.isAgg4
 z4:=Tryz.sizeOf4
 v4:=Tryz.zeroValue4
 t5:=Tryz.underlying5
 a5:=Tryz.isAgg5
 z5:=Tryz.sizeOf5
 v5:=Tryz.zeroValue5
 t9:=Tryz.underlying9
 a9:=Tryz.isAgg9
 z9:=Tryz.sizeOf9
 v9:=Tryz.zeroValue9
 t20:=Tryz.underlying20
 a20:=Tryz.isAgg20
 z20:=Tryz.sizeOf20
 v20:=Tryz.zeroValue20
 t37:=Tryz.underlying63
 a37:=Tryz.isAgg63
 z37:=Tryz.sizeOf63
 v37:=Tryz.zeroValue63
 t46:=Tryz.underlying145
 a46:=Tryz.isAgg145
 z46:=Tryz.sizeOf145
 v46:=Tryz.zeroValue145
 t51:=Tryz.underlying176
 a51:=Tryz.isAgg176
 z51:=Tryz.sizeOf176
 v51:=Tryz.zeroValue176
 t53:=Tryz.underlying148
 a53:=Tryz.isAgg148
 z53:=Tryz.sizeOf148
 v53:=Tryz.zeroValue148
 t171:=Tryz.underlying147
 a171:=Tryz.isAgg147
 z171:=Tryz.sizeOf147
 v171:=Tryz.zeroValue147
 t173:=Tryz.underlying151
 a173:=Tryz.isAgg151
 z173:=Tryz.sizeOf151
 v173:=Tryz.zeroValue151
 t212:=Tryz.underlying181
 a212:=Tryz.isAgg181
 z212:=Tryz.sizeOf181
 v212:=Tryz.zeroValue181
 t213:=Tryz.underlying182
 a213:=Tryz.isAgg182
 z213:=Tryz.sizeOf182
 t232:=Tryz.underlying207
 a232:=Tryz.isAgg207
 z232:=Tryz.sizeOf207
 v232:=Tryz.zeroValue207
 t233:=Tryz.underlying208
 a233:=Tryz.isAgg208
 z233:=Tryz.sizeOf208
 v233:=Tryz.zeroValue208
 g17:=by kernel_rfl
 g18:=by kernel_rfl
 g19:=by kernel_rfl
 i0:=by kernel_rfl
 i2:=by kernel_rfl
 i3:=by kernel_rfl
 i4:=by kernel_rfl
 i5:=by kernel_rfl
 i9:=by kernel_rfl
 i20:=by kernel_rfl
 i37:=by kernel_rfl
 i46:=by kernel_rfl
 i51:=by kernel_rfl
 i53:=by kernel_rfl
 i171:=by kernel_rfl
 i173:=by kernel_rfl
 i212:=by kernel_rfl
 i232:=by kernel_rfl
 i233:=by kernel_rfl
 m17:=by kernel_rfl
 m18:=by kernel_rfl
 m19:=by kernel_rfl }
open Go.RowKit Go.Sort Go.Lib in
theorem Tryz.strconv_Itoa (n : Int) (h0 : -9223372036854775808 ≤ n) (h1 : n ≤ 9223372036854775807) (w : World) (htab : Lib.TabIs Tryz.prog w "internal/strconv.uint64pow10" .u64 Lib.pow10Tab) :
  Calls Tryz.prog 17 #[.int .i64 n] w fun e w' => e=.returned (.string ⟨(Lib.itoa n).toArray⟩)∧∃ k os,w'=grow (w.drewN k) os:=Any.strconv_Itoa Tryz.laysM171 n h0 h1 w htab
def Tryz.laysC172_ren : Go.Shelf.Ren:=⟨fun | 172 => 63 | 244 => 96 | 245 => 97 | 247 => 119 | 279 => 120 | 280 => 121 | 281 => 122 | 282 => 123 | 287 => 145 | 316 => 62 | 171 => 17 | 205 => 146 | 321 => 156 | 322 => 157 | 243 => 56 | 246 => 89 | 283 => 109 | 284 => 110 | 285 => 111 | 286 => 112 | 129 => 134 | 317 => 136 | 318 => 137 | 319 => 138 | 320 => 139 | 337 => 152 | 338 => 153 | n => n,fun | 9 => 9 | 3 => 3 | 75 => 108 | 76 => 109 | 4 => 4 | 5 => 5 | 167 => 159 | 37 => 63 | 0 => 0 | 85 => 160 | 2 => 2 | 168 => 162 | 53 => 148 | 175 => 183 | 46 => 145 | 210 => 186 | 127 => 136 | 145 => 203 | 143 => 201 | 21 => 21 | 171 => 147 | 173 => 151 | 212 => 181 | 51 => 176 | 20 => 20 | 213 => 182 | 232 => 207 | 233 => 208 | 80 => 111 | n => n,fun | 15 => 2 | 16 => 3 | 17 => 0 | 18 => 6 | 19 => 7 | n => n⟩
theorem Tryz.laysC172 : Go.Proofs.LaysC.n172 Tryz.prog Tryz.laysC172_ren:={
 mixed:=by kernel_rfl
 f129:=Tryz.func134.trans (congrArg some (by kernel_rfl))
 f171:=Tryz.func17.trans (congrArg some (by kernel_rfl))
 f172:=Tryz.func63.trans (congrArg some (by kernel_rfl))
 f205:=Tryz.func146.trans (congrArg some (by kernel_rfl))
 f243:=Tryz.func56.trans (congrArg some (by kernel_rfl))
 f244:=Tryz.func96.trans (congrArg some (by kernel_rfl))
 f245:=Tryz.func97.trans (congrArg some (by kernel_rfl))
 f246:=Tryz.func89.trans (congrArg some (by kernel_rfl))
 f247:=Tryz.func119.trans (congrArg some (by kernel_rfl))
 f279:=Tryz.func120.trans (congrArg some (by kernel_rfl))
 f280:=Tryz.func121.trans (congrArg some (by kernel_rfl))
 f281:=Tryz.func122.trans (congrArg some (by kernel_rfl))
 f282:=Tryz.func123.trans (congrArg some (by kernel_rfl))
 f283:=Tryz.func109.trans (congrArg some (by kernel_rfl))
 f284:=Tryz.func110.trans (congrArg some (by kernel_rfl))
 f285:=Tryz.func111.trans (congrArg some (by kernel_rfl))
 f286:=Tryz.func112.trans (congrArg some (by kernel_rfl))
 f287:=Tryz.func145.trans (congrArg some (by kernel_rfl))
 f316:=Tryz.func62.trans (congrArg some (by kernel_rfl))
 f317:=Tryz.func136.trans (congrArg some (by kernel_rfl))
 f318:=Tryz.func137.trans (congrArg some (by kernel_rfl))
 f319:=Tryz.func138.trans (congrArg some (by kernel_rfl))
 f320:=Tryz.func139.trans (congrArg some (by kernel_rfl))
 f321:=Tryz.func156.trans (congrArg some (by kernel_rfl))
 f322:=Tryz.func157.trans (congrArg some (by kernel_rfl))
 f337:=Tryz.func152.trans (congrArg some (by kernel_rfl))
 f338:=Tryz.func153.trans (congrArg some (by kernel_rfl))
 t0:=Tryz.underlying0
 a0:=Tryz.isAgg0
 z0:=Tryz.sizeOf0
 v0:=Tryz.zeroValue0
 t2:=Tryz.underlying2
 a2:=Tryz.isAgg2
 z2:=Tryz.sizeOf2
 v2:=Tryz.zeroValue2
 t3:=Tryz.underlying3
 a3:=Tryz.isAgg3
 z3:=Tryz.sizeOf3
 v3:=Tryz.zeroValue3
 t4:=Tryz.underlying4
 a4:=Tryz.isAgg4
 z4:=Tryz.sizeOf4
 v4:=Tryz.zeroValue4
 t5:=Tryz.underlying5
 a5:=Tryz.isAgg5
 z5:=Tryz.sizeOf5
 v5:=Tryz.zeroValue5
 t9:=Tryz.underlying9
 a9:=Tryz.isAgg9
 z9:=Tryz.sizeOf9
 v9:=Tryz.zeroValue9
 t20:=Tryz.underlying20
 a20:=Tryz.isAgg20
 z20:=Tryz.sizeOf20
 v20:=Tryz.zeroValue20
 t21:=Tryz.underlying21
 a21:=Tryz.isAgg21
 z21:=Tryz.sizeOf21
 v21:=Tryz.zeroValue21
 t37:=Tryz.underlying63
 a37:=Tryz.isAgg63
 z37:=Tryz.sizeOf63
 v37:=Tryz.zeroValue63
 t46:=Tryz.underlying145
 a46:=Tryz.isAgg145
 z46:=Tryz.sizeOf145
 v46:=Tryz.zeroValue145
 t51:=Tryz.underlying176
 a51:=Tryz.isAgg176
 z51:=Tryz.sizeOf176
 v51:=Tryz.zeroValue176
 t53:=Tryz.underlying148
 a53:=Tryz.isAgg148
 z53:=Tryz.sizeOf148
 v53:=Tryz.zeroValue148
 t75:=Tryz.underlying108
 a75:=Tryz.isAgg108
 z75:=Tryz.sizeOf108
 v75:=Tryz.zeroValue108
 t76:=Tryz.underlying109
 a76:=Tryz.isAgg109
 z76:=Tryz.sizeOf109
 v76:=Tryz.zeroValue109
 t85:=Tryz.underlying160
 a85:=Tryz.isAgg160
 z85:=Tryz.sizeOf160
 v85:=Tryz.zeroValue160
 t127:=Tryz.underlying136
 a127:=Tryz.isAgg136
 z127:=Tryz.sizeOf136
 v127:=Tryz.zeroValue136
 t143:=Tryz.underlying201
 a143:=Tryz.isAgg201
 z143:=Tryz.sizeOf201
 v143:=Tryz.zeroValue201
 t145:=Tryz.underlying203
 a145:=Tryz.isAgg203
 z145:=Tryz.sizeOf203
 v145:=Tryz.zeroValue203
 t167:=Tryz.underlying159
 a167:=Tryz.isAgg159
 z167:=Tryz.sizeOf159
 v167:=Tryz.zeroValue159
 t168:=Tryz.underlying162
 a168:=Tryz.isAgg162
 z168:=Tryz.sizeOf162
 v168:=Tryz.zeroValue162
 t171:=Tryz.underlying147
 a171:=Tryz.isAgg147
 z171:=Tryz.sizeOf147
 v171:=Tryz.zeroValue147
 t173:=Tryz.underlying151
 a173:=Tryz.isAgg151
 z173:=Tryz.sizeOf151
 v173:=Tryz.zeroValue151
 t175:=Tryz.underlying183
 a175:=Tryz.isAgg183
 z175:=Tryz.sizeOf183
 v175:=Tryz.zeroValue183
 t210:=Tryz.underlying186
 a210:=Tryz.isAgg186
 z210:=Tryz.sizeOf186
 v210:=Tryz.zeroValue186
 t212:=Tryz.underlying181
 a212:=Tryz.isAgg181
 z212:=Tryz.sizeOf181
 v212:=Tryz.zeroValue181
 t213:=Tryz.underlying182
 a213:=Tryz.isAgg182
 z213:=Tryz.sizeOf182
 t232:=Tryz.underlying207
 a232:=Tryz.isAgg207
 z232:=Tryz.sizeOf207
 v232:=Tryz.zeroValue207
 t233:=Tryz.underlying208
 a233:=Tryz.isAgg208
 z233:=Tryz.sizeOf208
 v233:=Tryz.zeroValue208
 g15:=by kernel_rfl
 g16:=by kernel_rfl
 g17:=by kernel_rfl
 g18:=by kernel_rfl
 g19:=by kernel_rfl
 t80:=Tryz.underlying111
 a80:=Tryz.isAgg111
 z80:=Tryz.sizeOf111
 v80:=Tryz.zeroValue111
 i0:=by kernel_rfl
 i2:=by kernel_rfl
 i3:=by kernel_rfl
 i4:=by kernel_rfl
 i5:=by kernel_rfl
 i9:=by kernel_rfl
 i20:=by kernel_rfl
 i21:=by kernel_rfl
 i37:=by kernel_rfl
 i46:=by kernel_rfl
 i51:=by kernel_rfl
 i53:=by kernel_rfl
 i75:=by kernel_rfl
 i76:=by kernel_rfl
 i80:=by kernel_rfl
 i85:=by kernel_rfl
 i127:=by kernel_rfl
 i143:=by kernel_rfl
 i145:=by kernel_rfl
 i167:=by kernel_rfl
 i168:=by kernel_rfl
 i171:=by kernel_rfl
 i173:=by kernel_rfl
 i175:=by kernel_rfl
 i210:=by kernel_rfl
 i212:=by kernel_rfl
 i232:=by kernel_rfl
 i233:=by kernel_rfl
 m15:=by kernel_rfl
 m16:=by kernel_rfl
 m17:=by kernel_rfl
 m18:=by kernel_rfl
 m19:=by kernel_rfl
 c0:=by kernel_rfl
 c2:=by kernel_rfl
 c3:=by kernel_rfl
 c4:=by kernel_rfl
 c5:=by kernel_rfl
 c9:=by kernel_rfl
 c20:=by kernel_rfl
 c21:=by kernel_rfl
 c37:=by kernel_rfl
 c46:=by kernel_rfl
 c51:=by kernel_rfl
 c53:=by kernel_rfl
 c75:=by kernel_rfl
 c76:=by kernel_rfl
 c80:=by kernel_rfl
 c85:=by kernel_rfl
 c127:=by kernel_rfl
 c143:=by kernel_rfl
 c145:=by kernel_rfl
 c167:=by kernel_rfl
 c168:=by kernel_rfl
 c171:=by kernel_rfl
 c173:=by kernel_rfl
 c175:=by kernel_rfl
 c210:=by kernel_rfl
 c212:=by kernel_rfl
 c213:=by kernel_rfl
 c232:=by kernel_rfl
 c233:=by kernel_rfl }
open Go.RowKit in
theorem Tryz.strconv_Atoi_ok (s : ByteArray) (hmax : s.size≤9223372036854775806) (v : Int) (h : Lib.atoiAll s.data.toList=.ok v) (w : World) :
  Calls Tryz.prog 63 #[.string s] w fun e w' => e=.returned (.tuple #[.int .i64 v,.nilIface])∧(w'=w∨∃ t,w'=Lib.bytesWorld w 5 t):=Any.strconv_Atoi_ok Tryz.laysC172 s hmax v h w
open Go.RowKit in
theorem Tryz.strconv_Atoi_bad (s : ByteArray) (hlim : s.size≤281474976710656) (h1 : ∀ v,Lib.atoiAll s.data.toList ≠ .ok v) (h2 : Lib.atoiAll s.data.toList ≠ .range) (ev : Value) (w : World) (hv : w.cell? ⟨2,0,none⟩=some ev) (hev : ev=.nilIface∨∃ te pe,ev=.iface te pe) :
  Calls Tryz.prog 63 #[.string s] w fun e w' => ∃ N,e=.returned (.tuple #[.int .i64 (0),.iface 162 (.pointer (some ⟨N,0,none⟩))])∧w.heap.size≤N∧w'.heap[N]? = some (.cells #[.string ⟨#[65,116,111,105]⟩,.string s,ev] 186 (0,0))∧Below w.heap.size w w':=Any.strconv_Atoi_syntax Tryz.laysC172 s hlim (by
   cases h : Lib.atoiAll s.data.toList with
   | ok v => exact absurd h (h1 v)
   | range => exact absurd h h2
   | _ => rfl) ev w hv hev
open Go.RowKit in
theorem Tryz.strconv_Atoi_range (s : ByteArray) (hlim : s.size≤281474976710656) (h : Lib.atoiAll s.data.toList=.range) (ev : Value) (w : World) (hv : w.cell? ⟨3,0,none⟩=some ev) (hev : ev=.nilIface∨∃ te pe,ev=.iface te pe) :
  Calls Tryz.prog 63 #[.string s] w fun e w' => ∃ N,e=.returned (.tuple #[.int .i64 (Lib.atoiSat s.data.toList),.iface 162 (.pointer (some ⟨N,0,none⟩))])∧w.heap.size≤N∧w'.heap[N]? = some (.cells #[.string ⟨#[65,116,111,105]⟩,.string s,ev] 186 (0,0))∧Below w.heap.size w w':=Any.strconv_Atoi_range Tryz.laysC172 s hlim h ev w hv hev
def Tryz.lays146_ren : Go.Shelf.Ren:=⟨fun | 146 => 25 | 221 => 61 | 268 => 93 | 138 => 94 | 143 => 95 | 195 => 115 | 197 => 116 | 218 => 117 | 219 => 118 | 260 => 140 | 217 => 141 | 225 => 142 | 224 => 143 | 267 => 144 | 266 => 154 | 314 => 155 | n => n,fun | 9 => 9 | 31 => 54 | 3 => 3 | 4 => 4 | 0 => 0 | 105 => 156 | 21 => 21 | 5 => 5 | 46 => 145 | 119 => 194 | 139 => 197 | 138 => 196 | 146 => 198 | 51 => 176 | n => n,fun | 1 => 1 | 3 => 4 | 4 => 5 | n => n⟩
theorem Tryz.lays146 : Go.Proofs.Lays.n146 Tryz.prog Tryz.lays146_ren:={
 mixed:=by kernel_rfl
 f138:=Tryz.func94.trans (congrArg some (by kernel_rfl))
 f143:=Tryz.func95.trans (congrArg some (by kernel_rfl))
 f146:=Tryz.func25.trans (congrArg some (by kernel_rfl))
 f195:=Tryz.func115.trans (congrArg some (by kernel_rfl))
 f197:=Tryz.func116.trans (congrArg some (by kernel_rfl))
 f217:=Tryz.func141.trans (congrArg some (by kernel_rfl))
 f218:=Tryz.func117.trans (congrArg some (by kernel_rfl))
 f219:=Tryz.func118.trans (congrArg some (by kernel_rfl))
 f221:=Tryz.func61.trans (congrArg some (by kernel_rfl))
 f224:=Tryz.func143.trans (congrArg some (by kernel_rfl))
 f225:=Tryz.func142.trans (congrArg some (by kernel_rfl))
 f260:=Tryz.func140.trans (congrArg some (by kernel_rfl))
 f266:=Tryz.func154.trans (congrArg some (by kernel_rfl))
 f267:=Tryz.func144.trans (congrArg some (by kernel_rfl))
 f268:=Tryz.func93.trans (congrArg some (by kernel_rfl))
 f314:=Tryz.func155.trans (congrArg some (by kernel_rfl))
 t0:=Tryz.underlying0
 a0:=Tryz.isAgg0
 z0:=Tryz.sizeOf0
 v0:=Tryz.zeroValue0
 t3:=Tryz.underlying3
 a3:=Tryz.isAgg3
 z3:=Tryz.sizeOf3
 v3:=Tryz.zeroValue3
 t4:=Tryz.underlying4
 a4:=Tryz.isAgg4
 z4:=Tryz.sizeOf4
 v4:=Tryz.zeroValue4
 t5:=Tryz.underlying5
 a5:=Tryz.isAgg5
 z5:=Tryz.sizeOf5
 v5:=Tryz.zeroValue5
 t9:=Tryz.underlying9
 a9:=Tryz.isAgg9
 z9:=Tryz.sizeOf9
 v9:=Tryz.zeroValue9
 t21:=Tryz.underlying21
 a21:=Tryz.isAgg21
 z21:=Tryz.sizeOf21
 v21:=Tryz.zeroValue21
 t31:=Tryz.underlying54
 a31:=Tryz.isAgg54
 z31:=Tryz.sizeOf54
 v31:=Tryz.zeroValue54
 t46:=Tryz.underlying145
 a46:=Tryz.isAgg145
 z46:=Tryz.sizeOf145
 v46:=Tryz.zeroValue145
 t51:=Tryz.underlying176
 a51:=Tryz.isAgg176
 z51:=Tryz.sizeOf176
 v51:=Tryz.zeroValue176
 t105:=Tryz.underlying156
 a105:=Tryz.isAgg156
 z105:=Tryz.sizeOf156
 v105:=Tryz.zeroValue156
 t119:=Tryz.underlying194
 a119:=Tryz.isAgg194
 z119:=Tryz.sizeOf194
 t138:=Tryz.underlying196
 a138:=Tryz.isAgg196
 z138:=Tryz.sizeOf196
 v138:=Tryz.zeroValue196
 t139:=Tryz.underlying197
 a139:=Tryz.isAgg197
 z139:=Tryz.sizeOf197
 v139:=Tryz.zeroValue197
 t146:=Tryz.underlying198
 a146:=Tryz.isAgg198
 z146:=Tryz.sizeOf198
 v146:=Tryz.zeroValue198
 g1:=by kernel_rfl
 g3:=by kernel_rfl
 g4:=by kernel_rfl }
open Go.RowKit Go.Lib in
theorem Tryz.strings_Split (s sep : ByteArray) (m : Int) (w : World) (hs : s.size < 4294967281) (hm : w.cell? ⟨1,0,none⟩=some (.int .i64 m)) (h1 : 1≤sep.size) :
  Calls Tryz.prog 25 #[.string s,.string sep] w fun e w' =>
   e=.returned (.slice (some ⟨w.heap.size,0,none⟩) (Lib.countB s sep + 1) (Lib.countB s sep + 1))∧w'=w.alloc (.cells ((Lib.splitB sep 0 (Lib.countB s sep) s).map Value.string).toArray 9):=Any.strings_Split Tryz.lays146 (by kernel_rfl) s sep m w hs hm h1
end Go.Proofs
namespace Go.Proofs.YtdoibgmmijhlfaaGreatDoor
open Go.Lib
set_option linter.unusedVariables false
abbrev BL:=List UInt8
def digU (b : UInt8) : Bool:=decide (48≤b.toNat) && decide (b.toNat≤57)
theorem digU_iff {b : UInt8} : digU b=true ↔ 48≤b.toNat∧b.toNat≤57:=by unfold digU; simp
theorem dec_dig : ∀ (u : Nat),∀ b ∈ decDigits u,digU b=true:=by
 intro u
 induction u using Nat.strongRecOn with
 | _ u ih =>
  intro b hb
  by_cases h : u < 10
  ·rw [decDigits_one h] at hb
   obtain rfl:=List.mem_singleton.1 hb
   rw [digU_iff,UInt8.toNat_ofNat']
   omega
  ·rw [decDigits,dif_neg h] at hb
   rcases List.mem_append.1 hb with hb | hb
   ·exact ih (u / 10) (by omega) b hb
   ·obtain rfl:=List.mem_singleton.1 hb
    rw [digU_iff,UInt8.toNat_ofNat']
    omega
def valL (acc : Nat) (l : BL) : Nat:=l.foldl (fun a c => a * 10 + (c.toNat - 48)) acc
theorem val_dec : ∀ (u : Nat),valL 0 (decDigits u)=u:=by
 intro u
 induction u using Nat.strongRecOn with
 | _ u ih =>
  by_cases h : u < 10
  ·rw [decDigits_one h]
   unfold valL
   simp only [List.foldl_cons,List.foldl_nil,UInt8.toNat_ofNat']
   omega
  ·rw [decDigits,dif_neg h]
   unfold valL at ih ⊢
   rw [List.foldl_append,ih (u / 10) (by omega)]
   simp only [List.foldl_cons,List.foldl_nil,UInt8.toNat_ofNat']
   omega
theorem parse_val : ∀ (l : BL) (acc : Nat),(∀ b ∈ l,digU b=true)→(acc + 1) * 10 ^ l.length≤1000000→parseUint10 acc l=.ok (valL acc l)
 | [],acc,_,_ => rfl
 | c :: r,acc,h,hb => by
  have hc:=digU_iff.1 (h c List.mem_cons_self)
  have h10 : 1≤10 ^ r.length:=Nat.one_le_pow _ _ (by decide)
  have hb2 : (acc + 1) * 10 * 10 ^ r.length≤1000000:=by
   rw [List.length_cons,Nat.pow_succ] at hb
   calc (acc + 1) * 10 * 10 ^ r.length=(acc + 1) * (10 ^ r.length * 10):=by rw [Nat.mul_assoc,Nat.mul_comm 10]
    _≤_:=hb
  have h1 : (acc + 1) * 10≤1000000:=Nat.le_trans (Nat.le_mul_of_pos_right _ h10) hb2
  have h2 : (acc * 10 + (c.toNat - 48) + 1) * 10 ^ r.length≤1000000:=Nat.le_trans (Nat.mul_le_mul_right _ (by omega)) hb2
  rw [parseUint10,if_pos hc,if_neg (by omega),if_neg (by omega),parse_val r _ (fun b hb => h b (List.mem_cons_of_mem _ hb)) h2]
  rfl
theorem nDigits_le4 {u : Nat} (h : u < 10000) : nDigits u≤4:=by
 by_cases h1 : u < 10
 ·rw [nDigits_small h1]; omega
 rw [nDigits_big h1]
 by_cases h2 : u / 10 < 10
 ·rw [nDigits_small h2]; omega
 rw [nDigits_big h2]
 by_cases h3 : u / 10 / 10 < 10
 ·rw [nDigits_small h3]; omega
 rw [nDigits_big h3,nDigits_small (by omega)]
 omega
theorem dec_ne (u : Nat) : decDigits u ≠ []:=fun e => by
 have h:=decDigits_length u
 have h2:=nDigits_pos u
 rw [e] at h
 simp at h
 omega
theorem atoi_dec {u : Nat} (h : u < 10000) : atoiAll (decDigits u)=.ok (u : Int):=by
 have hd:=dec_dig u
 have hp : parseUint10 0 (decDigits u)=.ok u:=by
  rw [parse_val _ _ hd,val_dec]
  rw [decDigits_length]
  calc (0 + 1) * 10 ^ nDigits u≤1 * 10 ^ 4:=Nat.mul_le_mul_left _ (Nat.pow_le_pow_right (by decide) (nDigits_le4 h))
   _≤1000000:=by decide
 have hne:=dec_ne u
 cases hl : decDigits u with
 | nil => exact absurd hl hne
 | cons c r =>
  rw [hl] at hd hp
  have hc:=digU_iff.1 (hd c List.mem_cons_self)
  unfold atoiAll
  have h1 : ¬ (c.toNat=43∨c.toNat=45):=by omega
  have h2 : ¬ c.toNat=45:=by omega
  have hm : parseMag (c :: r)=.ok u:=by unfold parseMag; rw [if_neg (by simp)]; exact hp
  have h3 : ¬ c.toNat=43:=by omega
  simp only [h2,h3,or_self,not_false_eq_true,true_and,false_and,if_false]
  rw [hm]
  simp only []
  rw [if_neg (by omega)]
def chU (x : Int) : UInt8:=UInt8.ofNat x.toNat
theorem chU_nat {x : Int} (h0 : 0≤x) (h1 : x < 256) : ((chU x).toNat : Int)=x:=by unfold chU; rw [UInt8.toNat_ofNat']; omega
def pieceK (ps : List PieceM) (b : UInt8) : Int:=match ps.findIdx? (fun p => decide (p.letter=(b.toNat : Int))) with
 | some k => (k : Int)
 | none => -1
structure Lets (ps : List PieceM) : Prop where
 in_ : ∀ (i : Nat) p,ps[i]? = some p→65≤p.letter∧p.letter≤90
 one : ∀ (i j : Nat) p q,ps[i]? = some p→ps[j]? = some q→p.letter=q.letter→i=j
theorem piece_at {ps : List PieceM} (h : Lets ps) {k : Nat} {p : PieceM} (hk : ps[k]? = some p) {b : UInt8} (hb : (b.toNat : Int)=p.letter) : pieceK ps b=(k : Int):=by
 have : ps.findIdx? (fun p => decide (p.letter=(b.toNat : Int)))=some k:=by
  obtain ⟨hl,he⟩:=List.getElem?_eq_some_iff.1 hk
  refine List.findIdx?_eq_some_iff_getElem.2 ⟨hl,by simp [he,hb],fun j hj => ?_⟩
  intro e
  have e1:=of_decide_eq_true e
  have:=h.one j k ps[j] p (List.getElem?_eq_getElem (by omega)) hk (by rw [e1,hb])
  omega
 unfold pieceK
 rw [this]
def cellU (ps : List PieceM) (c : Int) : UInt8:=chU ((ps.map (·.letter)).getD ((c - 1) / 2).toNat 0 + (if c % 2=0 then 32 else 0))
def splitL (c : UInt8) : BL→List BL
 | [] => [[]]
 | b :: l => if b=c then [] :: splitL c l else match splitL c l with
  | [] => [[b]]
  | x :: xs => (b :: x) :: xs
def joinL (c : UInt8) : List BL→BL
 | [] => []
 | [x] => x
 | x :: y :: r => x ++ c :: joinL c (y :: r)
theorem split_one {c : UInt8} : ∀ {x : BL},(∀ b ∈ x,b ≠ c)→splitL c x=[x]
 | [],_ => rfl
 | b :: x,h => by
  rw [splitL,if_neg (h b List.mem_cons_self),split_one (x:=x) fun y hy => h y (List.mem_cons_of_mem _ hy)]
theorem split_cat {c : UInt8} : ∀ {x : BL} (r : BL),(∀ b ∈ x,b ≠ c)→splitL c (x ++ c :: r)=x :: splitL c r
 | [],r,_ => by rw [List.nil_append,splitL,if_pos rfl]
 | b :: x,r,h => by
  rw [List.cons_append,splitL,if_neg (h b List.mem_cons_self),split_cat (x:=x) r fun y hy => h y (List.mem_cons_of_mem _ hy)]
theorem split_join {c : UInt8} : ∀ {L : List BL},L ≠ []→(∀ x ∈ L,∀ b ∈ x,b ≠ c)→splitL c (joinL c L)=L
 | [],h,_ => absurd rfl h
 | [x],_,h => split_one (h x List.mem_cons_self)
 | x :: y :: r,_,h => by
  rw [joinL,split_cat _ (h x List.mem_cons_self),split_join (L:=y :: r) (by simp) fun z hz => h z (List.mem_cons_of_mem _ hz)]
theorem join_mem {c b : UInt8} : ∀ {L : List BL},b ∈ joinL c L→b=c∨∃ x ∈ L,b ∈ x
 | [],h => by cases h
 | [x],h => .inr ⟨x,List.mem_cons_self,h⟩
 | x :: y :: r,h => by
  rw [joinL] at h
  rcases List.mem_append.1 h with h | h
  ·exact .inr ⟨x,List.mem_cons_self,h⟩
  ·rcases List.mem_cons.1 h with h | h
   ·exact .inl h
   ·rcases join_mem h with h | ⟨z,hz,hb⟩
    ·exact .inl h
    ·exact .inr ⟨z,List.mem_cons_of_mem _ hz,hb⟩
end Go.Proofs.YtdoibgmmijhlfaaGreatDoor
namespace Go.Proofs.YtdoibgmmijhlfaaGreatDoor
open Go.Lib
set_option linter.unusedVariables false
theorem joinL_len {c : UInt8} {n : Nat} : ∀ {L : List BL},(∀ x ∈ L,x.length≤n)→(joinL c L).length≤L.length * (n + 1)
 | [],_ => by simp [joinL]
 | [x],h => by
  have:=h x List.mem_cons_self
  simp [joinL]
  omega
 | x :: y :: r,h => by
  have h1:=h x List.mem_cons_self
  have ih:=joinL_len (c:=c) (L:=y :: r) fun z hz => h z (List.mem_cons_of_mem _ hz)
  rw [joinL,List.length_append,List.length_cons,@List.length_cons _ _ (y :: r),Nat.add_mul]
  omega
end Go.Proofs.YtdoibgmmijhlfaaGreatDoor
namespace Go.Proofs.YtdoibgmmijhlfaaGreatDoor
set_option linter.unusedVariables false
theorem join_eq (c : UInt8) : ∀ L : List BL,Lib.join L [c]=joinL c L
 | [] => rfl
 | [x] => by simp [Lib.join,List.intercalate,joinL]
 | x :: y :: r => by
  have ih:=join_eq c (y :: r)
  unfold Lib.join List.intercalate at ih ⊢
  rw [joinL,← ih]
  simp [List.intersperse]
theorem piece_zero {ps : List PieceM} {i : Nat} {p : PieceM} (hp : ps[i]? = some p) (h : pieceE ps i=0) : (65≤p.letter∧p.letter≤90)∧∀ (j : Nat) q,j < i→ps[j]? = some q→q.letter ≠ p.letter:=by
 unfold pieceE at h
 rw [hp] at h
 simp only at h
 by_cases h1 : inB p.letter 65 90=true
 ·rw [if_neg (by simp [h1])] at h
  by_cases h2 : (ps.take i).any (fun q => decide (q.letter=p.letter))=true
  ·rw [if_pos h2] at h
   exact absurd h (by decide)
  ·refine ⟨by unfold inB at h1; simpa using h1,fun j q hj hq e => h2 ?_⟩
   rw [List.any_eq_true]
   exact ⟨q,List.mem_of_getElem? (i:=j) (by rw [List.getElem?_take_of_lt hj]; exact hq),by simpa using e⟩
 ·rw [if_pos (by simpa using h1)] at h
  exact absurd h (by decide)
theorem lets_of {R : RulesM} (h : rulesE R=0) : Lets R.pieces:=by
 have hp : piecesE R.pieces=0:=by
  unfold rulesE at h
  by_cases h1 : nameB R.name=true
  ·rw [if_neg (by simp [h1])] at h
   by_cases h2 : (inB R.width 1 8 && inB R.height 1 8)=true
   ·rw [if_neg (by simpa using h2)] at h
    by_cases h3 : piecesE R.pieces=0
    ·exact h3
    ·rw [if_pos h3] at h
     exact h
   ·rw [if_pos (by rw [Bool.not_eq_true] at h2; rw [h2]; rfl)] at h
    exact absurd h (by decide)
  ·rw [if_pos (by simpa using h1)] at h
   exact absurd h (by decide)
 have hz : ∀ j,j < R.pieces.length→pieceE R.pieces j=0:=by
  unfold piecesE at hp
  by_cases h1 : R.pieces.length=0
  ·intro j hj; omega
  ·rw [if_neg h1] at hp
   by_cases h2 : 6 < R.pieces.length
   ·rw [if_pos h2] at hp
    exact absurd hp (by decide)
   ·rw [if_neg h2] at hp
    intro j hj
    exact (firstE_zero _ _ _).1 hp j (Nat.zero_le _) (by omega)
 refine ⟨fun i p hi => (piece_zero hi (hz i (List.getElem?_eq_some_iff.1 hi).1)).1,fun i j p q hi hj he => ?_⟩
 rcases Nat.lt_trichotomy i j with hlt | rfl | hlt
 ·exact absurd he ((piece_zero hj (hz j (List.getElem?_eq_some_iff.1 hj).1)).2 i p hlt hi)
 ·rfl
 ·exact absurd he.symm ((piece_zero hi (hz i (List.getElem?_eq_some_iff.1 hi).1)).2 j q hlt hj)
theorem index_cons (b c : UInt8) (l : BL) (h : b ≠ c) : Lib.index (b :: l) [c]=if Lib.index l [c] == -1 then -1 else Lib.index l [c] + 1:=by
 have hp : ([c] : List UInt8).isPrefixOf (b :: l)=false:=by simp [List.isPrefixOf,Ne.symm h]
 rw [Lib.index,hp]; simp
theorem index_here (c : UInt8) (l : BL) : Lib.index (c :: l) [c]=0:=by rw [Lib.index]; simp [List.isPrefixOf]
theorem splitK_eq (c : UInt8) : ∀ (s : BL) (k : Nat),k=s.count c→Lib.splitK [c] 0 k s=splitL c s
 | [],k,h => by
  have h0 : k=0:=by simpa using h
  subst h0
  rfl
 | b :: l,k,h => by
  by_cases hb : b=c
  ·subst hb
   rw [List.count_cons_self] at h
   subst h
   rw [Lib.splitK,index_here,splitL,if_pos rfl]
   have ih:=splitK_eq b l _ rfl
   simpa using ih
  ·rw [List.count_cons_of_ne hb] at h
   have ih:=splitK_eq c l k h
   rw [splitL,if_neg hb,← ih]
   cases k with
   | zero => rfl
   | succ k =>
    rw [Lib.splitK,Lib.splitK,index_cons b c l hb]
    by_cases hi : Lib.index l [c]=-1
    ·simp [hi]
    ·have hge : 0≤Lib.index l [c]:=by
      have:=Lib.index_ge l [c]
      omega
     obtain ⟨i,hi2⟩:=Int.eq_ofNat_of_zero_le hge
     rw [hi2]
     have e1 : ((i : Int) == -1)=false:=beq_eq_false_iff_ne.2 (by omega)
     have e2 : (((i : Int) + 1) == -1)=false:=beq_eq_false_iff_ne.2 (by omega)
     rw [e1]
     simp only [Bool.false_eq_true,if_false,e2]
     have e3 : ((i : Int) + 1).toNat=i + 1:=by omega
     rw [e3]
     simp
end Go.Proofs.YtdoibgmmijhlfaaGreatDoor
namespace Go.Proofs.YtdoibgmmijhlfaaGreatDoor
open Go.RowKit Go.Lib
set_option linter.unusedVariables false
set_option linter.unusedSimpArgs false
structure LibW (w : World) : Prop where
 max : ∃ m,w.cell? ⟨1,0,none⟩=some (.int .i64 m)
 syn : ∃ ev,w.cell? ⟨2,0,none⟩=some ev∧(ev=.nilIface∨∃ te pe,ev=.iface te pe)
 rng : ∃ ev,w.cell? ⟨3,0,none⟩=some ev∧(ev=.nilIface∨∃ te pe,ev=.iface te pe)
 tab : TabIs Tryz.prog w "internal/strconv.uint64pow10" .u64 pow10Tab
def strU (s : BL) : ByteArray:=⟨s.toArray⟩
theorem strU_size (s : BL) : (strU s).size=s.length:=by simp [strU,ByteArray.size]
theorem strU_data (s : BL) : (strU s).data.toList=s:=by simp [strU]
theorem strU_ext {a : ByteArray} {l : BL} (h : a.data.toList=l) : a=strU l:=by
 apply ByteArray.ext
 apply Array.toList_inj.1
 rw [h,strU_data]
theorem strU_get {l : BL} {k : Nat} {x : UInt8} (hk : l[k]? = some x) (hs : k < (strU l).size) : ((strU l)[k]'hs).toNat=x.toNat:=by
 obtain ⟨hl,rfl⟩:=List.getElem?_eq_some_iff.1 hk
 have e1 : (strU l).data[k]? = some l[k]:=by simp [strU,hl]
 have e2 : (strU l).data[k]? = some ((strU l)[k]'hs):=Array.getElem?_eq_getElem _
 rw [Option.some.inj (e2.symm.trans e1)]
theorem ext_bytes (w : World) (t : TypeId) (b : ByteArray) : Ext w (bytesWorld w t b):=⟨rfl,rfl,rfl,by rw [bytesWorld_size]; omega,fun x hx => bytesWorld_at_old w _ _ x hx⟩
end Go.Proofs.YtdoibgmmijhlfaaGreatDoor
namespace Go.Proofs.YtdoibgmmijhlfaaGreatDoor
open Go.Lib
set_option linter.unusedVariables false
abbrev wGame : BL:=[103,97,109,101]
abbrev wPiece : BL:=[112,105,101,99,101]
abbrev wWay : BL:=[119,97,121]
abbrev wRow : BL:=[114,111,119]
abbrev wFalls : BL:=[102,97,108,108,115]
abbrev wKeeps : BL:=[107,101,101,112,115]
abbrev wEnd : BL:=[101,110,100]
abbrev wLine : BL:=[108,105,110,101]
abbrev wReach : BL:=[114,101,97,99,104]
abbrev wTake : BL:=[116,97,107,101]
abbrev wBlocked : BL:=[98,108,111,99,107,101,100]
abbrev wQuiet : BL:=[113,117,105,101,116]
abbrev wRepeat : BL:=[114,101,112,101,97,116]
abbrev wNever : BL:=[110,101,118,101,114]
abbrev wMay : BL:=[109,97,121]
abbrev wMust : BL:=[109,117,115,116]
abbrev wLoses : BL:=[108,111,115,101,115]
abbrev wWins : BL:=[119,105,110,115]
abbrev wDraws : BL:=[100,114,97,119,115]
abbrev takesL : List BL:=[wNever,wMay,wMust]
abbrev blocksL : List BL:=[wLoses,wWins,wDraws]
abbrev howL : List BL:=[wWins,wLoses]
def letT (ps : List PieceM) (n : Int) : BL:=if n=0 then [45] else [chU ((ps.map (·.letter)).getD (n - 1).toNat 0)]
def wayWs (x : WayM) : List BL:=[wWay,itoa x.dx,itoa x.dy,itoa x.most,takesL.getD x.take.toNat []]
def pieceWs (ps : List PieceM) (p : PieceM) : List BL:=[wPiece,[chU p.letter],itoa p.hand,letT ps p.promote]
def pieceLs (ps : List PieceM) (p : PieceM) : List (List BL):=pieceWs ps p :: p.ways.map wayWs
def cellT (ps : List PieceM) (c : Int) : UInt8:=if c=0 then 46 else cellU ps c
def rowWs (R : RulesM) (y : Nat) : List BL:=[wRow,((R.start.drop (y * R.width.toNat)).take R.width.toNat).map (cellT R.pieces)]
def rowsWs (R : RulesM) : List (List BL):=((List.range R.height.toNat).map (rowWs R)).reverse
def howT (x : EndM) : BL:=if x.loses then wLoses else wWins
def endWs (ps : List PieceM) (x : EndM) : List BL :=
 if x.kind=0 then [wEnd,wLine,itoa x.count,howT x]
 else if x.kind=1 then [wEnd,wReach,letT ps (x.piece + 1),howT x]
 else [wEnd,wTake,letT ps (x.piece + 1),itoa x.count,howT x]
def tailWs (R : RulesM) : List (List BL):=[[wBlocked,blocksL.getD R.blocked.toNat []],[wQuiet,itoa R.quiet],[wRepeat,itoa R.rept]]
def headWs (R : RulesM) : List BL:=[wGame,R.name.data.toList,itoa R.width,itoa R.height]
def flagWs (b : Bool) (w : BL) : List (List BL):=if b then [[w]] else []
def linesW (R : RulesM) : List (List BL):=headWs R :: (R.pieces.flatMap (pieceLs R.pieces) ++ (rowsWs R ++ (flagWs R.falls wFalls ++ (flagWs R.keeps wKeeps ++ (R.ends.map (endWs R.pieces) ++ tailWs R)))))
def lineT (ws : List BL) : BL:=joinL 32 ws
def linesT (R : RulesM) : List BL:=(linesW R).map lineT
def printT (R : RulesM) : BL:=joinL 10 (linesT R) ++ [10]
structure RdM where
 lines : List BL
 r : RulesM
 tos : List BL
 bad : Bool
def RdM.mark (x : RdM) (b : Bool) : RdM:={ x with bad:=x.bad || b }
def nextR (word : BL) (n : Nat) (x : RdM) : Option (List BL × RdM) :=
 match x.lines with
 | [] => none
 | l :: ls => if (splitL 32 l).getD 0 []=word∧(splitL 32 l).length=n + 1 then some ((splitL 32 l).tail,{ x with lines:=ls }) else none
def mustR (word : BL) (n : Nat) (x : RdM) : List BL × RdM :=
 match nextR word n x with
 | some p => p
 | none => (List.replicate n [],x.mark true)
def numV (s : BL) : Int:=match atoiAll s with
 | .ok v => v
 | .range => atoiSat s
 | _ => 0
def numBad (s : BL) : Bool:=match atoiAll s with
 | .ok v => !decide (itoa v=s)
 | _ => true
def ixW (l : List BL) (s : BL) : Int:=match l.findIdx? (fun x => decide (x=s)) with
 | some k => (k : Int)
 | none => -1
def pieceIx (ps : List PieceM) (s : BL) : Int:=match s with
 | [b] => pieceK ps b
 | _ => -1
def wayV (l : List BL) : WayM:=⟨numV (l.getD 0 []),numV (l.getD 1 []),numV (l.getD 2 []),max (ixW takesL (l.getD 3 [])) 0⟩
def wayBad (l : List BL) : Bool:=((numBad (l.getD 0 []) || numBad (l.getD 1 [])) || numBad (l.getD 2 [])) || decide (ixW takesL (l.getD 3 []) < 0)
def waysR : Nat→RdM→List WayM→RdM × List WayM
 | 0,x,ws => (x,ws)
 | f + 1,x,ws => match nextR wWay 4 x with
  | none => (x,ws)
  | some (l,x') => waysR f (x'.mark (wayBad l)) (ws ++ [wayV l])
def promR : Nat→List BL→RdM→RdM
 | _,[],x => x
 | i,s :: r,x => promR (i + 1) r (if s=[45] then x else { x with r:={ x.r with pieces:=x.r.pieces.modify i fun p => { p with promote:=max (pieceIx x.r.pieces s) 0 + 1 } },bad:=x.bad || decide (pieceIx x.r.pieces s < 0) })
def letOf (s : BL) : Option UInt8:=match s with
 | [b] => if 65≤b.toNat∧b.toNat≤90 then some b else none
 | _ => none
def pushR (x : RdM) (b : UInt8) (hand : Int) (ws : List WayM) : RdM:={ x with r:={ x.r with pieces:=x.r.pieces ++ [⟨(b.toNat : Int),hand,0,ws⟩] } }
def piecesL : Nat→RdM→RdM × Bool
 | 0,x => (x,true)
 | f + 1,x => match nextR wPiece 3 x with
  | none => (x,true)
  | some (l,x1) => match letOf (l.getD 0 []) with
   | none => ((x1.mark (numBad (l.getD 1 []))).mark true,false)
   | some b =>
    let y:=waysR (x1.lines.length + 1) { x1.mark (numBad (l.getD 1 [])) with tos:=x1.tos ++ [l.getD 2 []] } []
    piecesL f (pushR y.1 b (numV (l.getD 1 [])) y.2)
def piecesR (x : RdM) : RdM :=
 let y:=piecesL (x.lines.length + 1) x
 if y.2 then promR 0 y.1.tos y.1 else y.1
def runeIx (ps : List PieceM) (b : Nat) : Int:=if b < 128 then pieceK ps (UInt8.ofNat b) else -1
def cellIx (ps : List PieceM) (b : UInt8) : Int:=if 97≤b.toNat∧b.toNat≤122 then runeIx ps (b.toNat - 32) else runeIx ps b.toNat
def cellV (ps : List PieceM) (b : UInt8) : Int:=if b=46 then 0 else 2 * max (cellIx ps b) 0 + (if 97≤b.toNat∧b.toNat≤122 then 2 else 1)
def cellBad (ps : List PieceM) (b : UInt8) : Bool:=!decide (b=46) && decide (cellIx ps b < 0)
def putAt : List Int→Nat→List Int→List Int
 | L,_,[] => L
 | L,k,z :: zs => putAt (L.set k z) (k + 1) zs
def rowR (x : RdM) (y : Nat) (s : BL) : RdM:={ x with r:={ x.r with start:=putAt x.r.start (y * x.r.width.toNat) (s.map (cellV x.r.pieces)) },bad:=x.bad || s.any (cellBad x.r.pieces) }
def rowsL : Nat→RdM→RdM
 | 0,x => x
 | y + 1,x =>
  let l:=mustR wRow 1 x
  if ((l.1.getD 0 []).length : Int)=l.2.r.width then rowsL y (rowR l.2 y (l.1.getD 0 [])) else l.2.mark true
def rowsR (x : RdM) : RdM:=rowsL x.r.height.toNat { x with r:={ x.r with start:=List.replicate (x.r.width * x.r.height).toNat 0 } }
def endV (ps : List PieceM) (l : List BL) : EndM :=
 let how : Bool:=decide (max (ixW howL (l.getLastD [])) 0=1)
 if l.length=4∧l.getD 1 []=wLine then ⟨0,0,numV (l.getD 2 []),how⟩
 else if l.length=4∧l.getD 1 []=wReach then ⟨1,max (pieceIx ps (l.getD 2 [])) 0,0,how⟩
 else if l.length=5∧l.getD 1 []=wTake then ⟨2,max (pieceIx ps (l.getD 2 [])) 0,numV (l.getD 3 []),how⟩
 else ⟨0,0,0,how⟩
def endBad (ps : List PieceM) (l : List BL) : Bool :=
 (if l.length=4∧l.getD 1 []=wLine then numBad (l.getD 2 [])
 else if l.length=4∧l.getD 1 []=wReach then decide (pieceIx ps (l.getD 2 []) < 0)
 else if l.length=5∧l.getD 1 []=wTake then decide (pieceIx ps (l.getD 2 []) < 0) || numBad (l.getD 3 [])
 else true) || decide (ixW howL (l.getLastD []) < 0)
abbrev endPre : BL:=[101,110,100,32]
def endsR : Nat→RdM→RdM
 | 0,x => x
 | f + 1,x => match x.lines with
  | [] => x
  | l :: ls => if endPre.isPrefixOf l=true∧x.bad=false then
    endsR f { x with lines:=ls,r:={ x.r with ends:=x.r.ends ++ [endV x.r.pieces (splitL 32 l)] },bad:=x.bad || endBad x.r.pieces (splitL 32 l) }
   else x
def flagR (w : BL) (x : RdM) : Bool × RdM:=match nextR w 0 x with
 | none => (false,x)
 | some (_,x') => (true,x')
def rules0 : RulesM:=⟨⟨#[]⟩,0,0,[],[],false,false,[],0,0,0⟩
def gameR (body : BL) : RdM :=
 let l:=mustR wGame 3 ⟨splitL 10 body,rules0,[],false⟩
 { l.2 with r:={ l.2.r with name:=⟨(l.1.getD 0 []).toArray⟩,width:=numV (l.1.getD 1 []),height:=numV (l.1.getD 2 []) },bad:=(l.2.bad || numBad (l.1.getD 1 [])) || numBad (l.1.getD 2 []) }
def gameBad (x : RdM) : Bool:=x.bad || (decide (x.r.name.size=0) || (decide (x.r.width < 1) || (decide (8 < x.r.width) || (decide (x.r.height < 1) || decide (8 < x.r.height)))))
def fallsR (x : RdM) : RdM:=let l:=flagR wFalls x; { l.2 with r:={ l.2.r with falls:=l.1 } }
def keepsR (x : RdM) : RdM:=let l:=flagR wKeeps x; { l.2 with r:={ l.2.r with keeps:=l.1 } }
def blockedR (x : RdM) : RdM:=let l:=mustR wBlocked 1 x; { l.2 with r:={ l.2.r with blocked:=max (ixW blocksL (l.1.getD 0 [])) 0 },bad:=l.2.bad || decide (ixW blocksL (l.1.getD 0 []) < 0) }
def quietR (x : RdM) : RdM:=let l:=mustR wQuiet 1 x; { l.2 with r:={ l.2.r with quiet:=numV (l.1.getD 0 []) },bad:=l.2.bad || numBad (l.1.getD 0 []) }
def reptR (x : RdM) : RdM:=let l:=mustR wRepeat 1 x; { l.2 with r:={ l.2.r with rept:=numV (l.1.getD 0 []) },bad:=l.2.bad || numBad (l.1.getD 0 []) }
def restR (x : RdM) : RdM:=let y:=keepsR (fallsR (rowsR x)); reptR (quietR (blockedR (endsR (y.lines.length + 1) y)))
def parseR (s : BL) : Option RulesM :=
 if 8192 < s.length then none
 else if s.getLast? ≠ some 10 then none
 else if gameBad (gameR s.dropLast)=true then none
 else if (piecesR (gameR s.dropLast)).bad=true then none
 else
  let x:=restR (piecesR (gameR s.dropLast))
  if x.bad=true∨x.lines ≠ [] then none
  else if rulesE x.r ≠ 0 then none
  else some x.r
end Go.Proofs.YtdoibgmmijhlfaaGreatDoor
namespace Go.Proofs.YtdoibgmmijhlfaaGreatDoor
open Go.Lib
set_option linter.unusedVariables false
theorem split_pos (c : UInt8) (s : BL) : splitL c s ≠ []:=by
 cases s with
 | nil => simp [splitL]
 | cons b l =>
  rw [splitL]
  split
  ·simp
  ·split <;> simp
theorem join_split (c : UInt8) : ∀ s : BL,joinL c (splitL c s)=s
 | [] => rfl
 | b :: l => by
  have ih:=join_split c l
  rw [splitL]
  split
  ·rename_i h
   subst h
   cases hs : splitL b l with
   | nil => exact absurd hs (split_pos b l)
   | cons x xs => rw [hs] at ih; rw [joinL,ih]; rfl
  ·split
   ·rename_i h
    rw [h] at ih
    rw [← ih]; rfl
   ·rename_i x xs h
    rw [h] at ih
    cases xs with
    | nil => rw [← ih]; rfl
    | cons y r => rw [← ih]; rfl
theorem next_says {word : BL} {n : Nat} {x x' : RdM} {l : List BL} (h : nextR word n x=some (l,x')) : x.lines=lineT (word :: l) :: x'.lines∧l.length=n∧x'={ x with lines:=x'.lines }:=by
 unfold nextR at h
 split at h
 ·cases h
 ·rename_i l0 ls hl
  split at h
  ·rename_i hw
   injection h with h
   obtain ⟨h1,h2⟩:=Prod.mk.inj h
   subst h1 h2
   refine ⟨?_,by rw [List.length_tail,hw.2]; rfl,rfl⟩
   cases hs : splitL 32 l0 with
   | nil => exact absurd hs (split_pos 32 l0)
   | cons w ws =>
    rw [hs] at hw
    have e : w=word:=by simpa using hw.1
    rw [List.tail_cons,← e,← hs]
    unfold lineT
    rw [join_split,hl]
  ·cases h
theorem mark_bad {x : RdM} {b : Bool} (h : (x.mark b).bad=false) : x.bad=false∧b=false:=by
 unfold RdM.mark at h
 simpa using h
theorem num_says {s : BL} (h : numBad s=false) : itoa (numV s)=s:=by
 unfold numBad at h
 unfold numV
 split at h
 ·rename_i v hv
  simpa [hv] using h
 ·cases h
theorem idx_says {l : List BL} {s : BL} (h : decide (ixW l s < 0)=false) : l.getD (max (ixW l s) 0).toNat []=s∧max (ixW l s) 0 < (l.length : Int):=by
 unfold ixW at h ⊢
 cases hf : l.findIdx? (fun x => decide (x=s)) with
 | none => rw [hf] at h; exact absurd h (by decide)
 | some k =>
  obtain ⟨hk,he,-⟩:=List.findIdx?_eq_some_iff_getElem.1 hf
  have e : l[k]=s:=of_decide_eq_true he
  simp only
  rw [show (max (k : Int) 0).toNat=k by omega]
  exact ⟨by rw [List.getD_eq_getElem?_getD,List.getElem?_eq_getElem hk,e]; rfl,by omega⟩
theorem ps_get {ps : List PieceM} {k : Nat} {p : PieceM} (h : ps[k]? = some p) : (ps.map (·.letter)).getD k 0=p.letter:=by
 rw [List.getD_eq_getElem?_getD,List.getElem?_map,h]; rfl
theorem pieceK_says {ps : List PieceM} {b : UInt8} (h : ¬ pieceK ps b < 0) : ∃ (k : Nat) (p : PieceM),pieceK ps b=(k : Int)∧ps[k]? = some p∧p.letter=(b.toNat : Int):=by
 unfold pieceK at h ⊢
 cases hf : ps.findIdx? (fun p => decide (p.letter=(b.toNat : Int))) with
 | none => rw [hf] at h; exact absurd (show (-1 : Int) < 0 by decide) h
 | some k =>
  obtain ⟨hk,he,-⟩:=List.findIdx?_eq_some_iff_getElem.1 hf
  exact ⟨k,ps[k],rfl,List.getElem?_eq_getElem hk,of_decide_eq_true he⟩
theorem chU_of (b : UInt8) : chU (b.toNat : Int)=b:=by
 unfold chU
 rw [Int.toNat_natCast]
 exact UInt8.ofNat_toNat
theorem piece_says {ps : List PieceM} {s : BL} (h : decide (pieceIx ps s < 0)=false) : letT ps (max (pieceIx ps s) 0 + 1)=s:=by
 have h' : ¬ pieceIx ps s < 0:=of_decide_eq_false h
 unfold pieceIx at h' ⊢
 split at h'
 ·rename_i b
  obtain ⟨k,p,e1,e2,e3⟩:=pieceK_says h'
  rw [e1]
  unfold letT
  rw [if_neg (by omega),show (max (k : Int) 0 + 1 - 1).toNat=k by omega,ps_get e2,e3,chU_of]
 ·exact absurd (show (-1 : Int) < 0 by decide) h'
theorem way_says {l : List BL} (h4 : l.length=4) (h : wayBad l=false) : wayWs (wayV l)=wWay :: l:=by
 match l,h4 with
 | [a,b,c,d],_ =>
  unfold wayBad at h
  simp only [List.getD_cons_zero,List.getD_cons_succ,Bool.or_eq_false_iff] at h
  obtain ⟨⟨⟨h1,h2⟩,h3⟩,h5⟩:=h
  show [wWay,itoa (numV a),itoa (numV b),itoa (numV c),takesL.getD (max (ixW takesL d) 0).toNat []]=_
  rw [num_says h1,num_says h2,num_says h3,(idx_says h5).1]
theorem ways_says : ∀ (f : Nat) (x : RdM) (ws : List WayM),(waysR f x ws).1.bad=false→x.bad=false∧∃ more,(waysR f x ws).2=ws ++ more∧x.lines=more.map (fun m => lineT (wayWs m)) ++ (waysR f x ws).1.lines∧(waysR f x ws).1={ x with lines:=(waysR f x ws).1.lines }
 | 0,x,ws,h => ⟨h,[],(List.append_nil ws).symm,rfl,rfl⟩
 | f + 1,x,ws,h => by
  rw [waysR] at h ⊢
  cases hn : nextR wWay 4 x with
  | none =>
   rw [hn] at h
   exact ⟨h,[],(List.append_nil ws).symm,rfl,rfl⟩
  | some p =>
   obtain ⟨l,x'⟩:=p
   rw [hn] at h
   simp only at h ⊢
   obtain ⟨h1,h2,h3⟩:=next_says hn
   obtain ⟨b1,more,e1,e2,e3⟩:=ways_says f _ _ h
   obtain ⟨b2,b3⟩:=mark_bad b1
   refine ⟨by rw [h3] at b2; exact b2,wayV l :: more,by rw [e1,List.append_assoc]; rfl,?_,?_⟩
   ·rw [h1,List.map_cons,way_says h2 b3,List.cons_append]
    exact congrArg _ e2
   ·rw [e3]
    unfold RdM.mark
    rw [b2,b3,h3]
    simp only [Bool.or_false]
    rw [show x.bad=false by rw [h3] at b2; exact b2]
def roughLs (t : BL) (p : PieceM) : List BL:=lineT [wPiece,[chU p.letter],itoa p.hand,t] :: p.ways.map fun m => lineT (wayWs m)
def roughAll : List BL→List PieceM→List BL
 | t :: ts,p :: ps => roughLs t p ++ roughAll ts ps
 | _,_ => []
theorem let_says {s : BL} {b : UInt8} (h : letOf s=some b) : s=[b]∧65≤b.toNat∧b.toNat≤90:=by
 unfold letOf at h
 split at h
 ·split at h
  ·injection h with h
   subst h
   rename_i hb
   exact ⟨rfl,hb⟩
  ·cases h
 ·cases h
theorem pieces_says : ∀ (f : Nat) (x : RdM),(piecesL f x).1.bad=false→x.bad=false∧(piecesL f x).2=true∧∃ (ts : List BL) (ps : List PieceM),ts.length=ps.length∧(∀ p ∈ ps,p.promote=0)∧x.lines=roughAll ts ps ++ (piecesL f x).1.lines∧(piecesL f x).1={ x with lines:=(piecesL f x).1.lines,tos:=x.tos ++ ts,r:={ x.r with pieces:=x.r.pieces ++ ps } }
 | 0,x,h => ⟨h,rfl,[],[],rfl,by simp,rfl,by simp [piecesL]⟩
 | f + 1,x,h => by
  rw [piecesL] at h ⊢
  cases hn : nextR wPiece 3 x with
  | none =>
   rw [hn] at h
   exact ⟨h,rfl,[],[],rfl,by simp,rfl,by simp⟩
  | some p =>
   obtain ⟨l,x1⟩:=p
   rw [hn] at h
   simp only at h ⊢
   obtain ⟨h1,h2,h3⟩:=next_says hn
   cases hl : letOf (l.getD 0 []) with
   | none =>
    rw [hl] at h
    exact absurd (mark_bad h).2 (by decide)
   | some b =>
    rw [hl] at h
    simp only at h ⊢
    have b1:=(pieces_says f _ h).1
    have c1:=(ways_says _ _ _ (show (waysR (x1.lines.length + 1) { x1.mark (numBad (l.getD 1 [])) with tos:=x1.tos ++ [l.getD 2 []] } []).1.bad=false from b1)).1
    obtain ⟨c2,c3⟩:=mark_bad (x:=x1) (b:=numBad (l.getD 1 [])) c1
    have hx0 : x.bad=false:=by rw [h3] at c2; exact c2
    have hZ : ({ x1.mark (numBad (l.getD 1 [])) with tos:=x1.tos ++ [l.getD 2 []] } : RdM)=⟨x1.lines,x.r,x.tos ++ [l.getD 2 []],false⟩:=by
     unfold RdM.mark
     rw [c3,c2,h3]
     rfl
    rw [hZ] at h b1 ⊢
    obtain ⟨-,more,d1,d2,d3⟩:=ways_says _ _ _ (show (waysR (x1.lines.length + 1) ⟨x1.lines,x.r,x.tos ++ [l.getD 2 []],false⟩ []).1.bad=false from b1)
    generalize waysR (x1.lines.length + 1) ⟨x1.lines,x.r,x.tos ++ [l.getD 2 []],false⟩ []=Y at *
    obtain ⟨⟨Ya,Yb,Yc,Yd⟩,Y2⟩:=Y
    simp only [RdM.mk.injEq,List.nil_append] at d1 d2 d3
    obtain ⟨-,rfl,rfl,rfl⟩:=d3
    subst d1
    obtain ⟨-,b0,ts,ps,e1,e2,e3,e4⟩:=pieces_says f _ h
    refine ⟨hx0,b0,l.getD 2 [] :: ts,⟨(b.toNat : Int),numV (l.getD 1 []),0,Y2⟩ :: ps,by simp [e1],?_,?_,?_⟩
    ·intro p hp
     rcases List.mem_cons.1 hp with rfl | hp
     ·rfl
     ·exact e2 p hp
    ·rw [roughAll,roughLs,h1]
     match l,h2 with
     | [u,v,t],_ =>
      obtain ⟨rfl,-⟩:=let_says (show letOf u=some b from hl)
      rw [chU_of]
      have e5 : itoa (numV v)=v:=num_says c3
      show lineT [wPiece,[b],v,t] :: x1.lines=lineT [wPiece,[b],itoa (numV v),t] :: (Y2.map fun m => lineT (wayWs m)) ++ roughAll ts ps ++ _
      rw [e5]
      simp only [List.cons_append,List.append_assoc]
      refine congrArg _ (d2.trans (congrArg _ e3))
    ·rw [e4]
     unfold pushR
     simp only [List.append_assoc,List.singleton_append,hx0]
def proV (ps : List PieceM) (p : PieceM) (s : BL) : PieceM:=if s=[45] then p else { p with promote:=max (pieceIx ps s) 0 + 1 }
def proBad (ps : List PieceM) (s : BL) : Bool:=!decide (s=[45]) && decide (pieceIx ps s < 0)
theorem pieceK_let {ps qs : List PieceM} (h : ps.map (·.letter)=qs.map (·.letter)) (b : UInt8) : pieceK ps b=pieceK qs b:=by
 have e : ∀ l : List PieceM,l.findIdx? (fun p => decide (p.letter=(b.toNat : Int)))=(l.map (·.letter)).findIdx? (fun z => decide (z=(b.toNat : Int))):=fun l => by rw [List.findIdx?_map]; rfl
 unfold pieceK
 rw [e,e,h]
theorem pieceIx_let {ps qs : List PieceM} (h : ps.map (·.letter)=qs.map (·.letter)) (s : BL) : pieceIx ps s=pieceIx qs s:=by
 unfold pieceIx
 split
 ·exact pieceK_let h _
 ·rfl
theorem let_modify (ps : List PieceM) (i : Nat) (q : Int) : (ps.modify i fun p => { p with promote:=q }).map (·.letter)=ps.map (·.letter):=by
 induction ps generalizing i with
 | nil => cases i <;> rfl
 | cons a l ih =>
  cases i with
  | zero => rfl
  | succ i => rw [List.modify_succ_cons,List.map_cons,List.map_cons,ih]
theorem modify_mid {α : Type} (f : α→α) (b : α) (B : List α) : ∀ A : List α,(A ++ b :: B).modify A.length f=A ++ f b :: B
 | [] => rfl
 | a :: A => by rw [List.cons_append,List.length_cons,List.modify_succ_cons,modify_mid f b B A,List.cons_append]
theorem prom_form (ls : List Int) : ∀ (ts : List BL) (i : Nat) (x : RdM) (A B : List PieceM),x.r.pieces=A ++ B→A.length=i→B.length=ts.length→x.r.pieces.map (·.letter)=ls→∀ ps : List PieceM,ps.map (·.letter)=ls →
  promR i ts x={ x with r:={ x.r with pieces:=A ++ List.zipWith (proV ps) B ts },bad:=x.bad || ts.any (proBad ps) }
 | [],i,x,A,B,h1,h2,h3,h4,ps,h5 => by
  have hB : B=[]:=List.length_eq_zero_iff.1 h3
  subst hB
  rw [promR,List.zipWith_nil_left,← h1]
  simp
 | s :: r,i,x,A,[],h1,h2,h3,h4,ps,h5 => by cases h3
 | s :: r,i,x,A,b :: B,h1,h2,h3,h4,ps,h5 => by
  rw [promR,List.zipWith_cons_cons]
  have hpx : pieceIx x.r.pieces s=pieceIx ps s:=pieceIx_let (h4.trans h5.symm) s
  by_cases hs : s=[45]
  ·rw [if_pos hs,prom_form ls r (i + 1) x (A ++ [b]) B (by rw [h1,List.append_assoc]; rfl) (by simp [h2]) (by simpa using h3) h4 ps h5]
   simp [proV,proBad,hs]
  ·rw [if_neg hs]
   have hm : x.r.pieces.modify i (fun p => { p with promote:=max (pieceIx x.r.pieces s) 0 + 1 })=A ++ (proV ps b s :: B):=by
    rw [hpx,h1,← h2,modify_mid]
    unfold proV
    rw [if_neg hs]
   rw [prom_form ls r (i + 1) _ (A ++ [proV ps b s]) B (by simp only; rw [hm,List.append_assoc]; rfl) (by simp [h2]) (by simpa using h3) (by simp only; rw [let_modify]; exact h4) ps h5]
   simp only [List.any_cons,proBad,hs,hpx,decide_false,Bool.not_false,Bool.true_and,List.append_assoc,List.singleton_append,Bool.or_assoc]
theorem proV_let (ps : List PieceM) (p : PieceM) (s : BL) : (proV ps p s).letter=p.letter∧(proV ps p s).hand=p.hand∧(proV ps p s).ways=p.ways:=by
 unfold proV
 split <;> exact ⟨rfl,rfl,rfl⟩
theorem zip_let (ps : List PieceM) : ∀ (B : List PieceM) (ts : List BL),B.length=ts.length→(List.zipWith (proV ps) B ts).map (·.letter)=B.map (·.letter)
 | [],[],_ => rfl
 | b :: B,t :: ts,h => by rw [List.zipWith_cons_cons,List.map_cons,List.map_cons,(proV_let ps b t).1,zip_let ps B ts (by simpa using h)]
theorem letT_let {ps qs : List PieceM} (h : ps.map (·.letter)=qs.map (·.letter)) (n : Int) : letT ps n=letT qs n:=by unfold letT; rw [h]
theorem rough_done (ps qs : List PieceM) (h : ps.map (·.letter)=qs.map (·.letter)) : ∀ (B : List PieceM) (ts : List BL),B.length=ts.length→(∀ p ∈ B,p.promote=0)→ts.any (proBad ps)=false →
  roughAll ts B=((List.zipWith (proV ps) B ts).flatMap (pieceLs qs)).map lineT
 | [],[],_,_,_ => rfl
 | b :: B,t :: ts,hl,h0,hb => by
  rw [List.any_cons,Bool.or_eq_false_iff] at hb
  rw [List.zipWith_cons_cons,List.flatMap_cons,List.map_append,roughAll,rough_done ps qs h B ts (by simpa using hl) (fun p hp => h0 p (List.mem_cons_of_mem _ hp)) hb.2]
  congr 1
  unfold roughLs pieceLs pieceWs
  obtain ⟨e1,e2,e3⟩:=proV_let ps b t
  rw [e1,e2,e3,List.map_cons,List.map_map]
  have e4 : letT qs (proV ps b t).promote=t:=by
   unfold proV
   by_cases ht : t=[45]
   ·rw [if_pos ht,h0 b List.mem_cons_self,ht]; rfl
   ·rw [if_neg ht]
    have:=hb.1
    unfold proBad at this
    rw [decide_eq_false ht,Bool.not_false,Bool.true_and] at this
    rw [← letT_let h,piece_says this]
  rw [e4]
  rfl
end Go.Proofs.YtdoibgmmijhlfaaGreatDoor
namespace Go.Proofs.YtdoibgmmijhlfaaGreatDoor
open Go.Lib
set_option linter.unusedVariables false
theorem put_len : ∀ (zs L : List Int) (k : Nat),(putAt L k zs).length=L.length
 | [],L,k => rfl
 | z :: zs,L,k => by rw [putAt,put_len zs,List.length_set]
theorem put_get : ∀ (zs L : List Int) (k j : Nat),k + zs.length≤L.length→(putAt L k zs)[j]? = if k≤j∧j < k + zs.length then zs[j - k]? else L[j]?
 | [],L,k,j,h => by rw [putAt,if_neg (by simp)]
 | z :: zs,L,k,j,h => by
  rw [List.length_cons] at h ⊢
  rw [putAt,put_get zs (L.set k z) (k + 1) j (by rw [List.length_set]; omega)]
  by_cases h1 : k + 1≤j∧j < k + 1 + zs.length
  ·rw [if_pos h1,if_pos (by omega),show j - k=(j - (k + 1)) + 1 by omega,List.getElem?_cons_succ]
  ·rw [if_neg h1]
   by_cases h2 : j=k
   ·subst h2
    rw [if_pos (by omega),Nat.sub_self,List.getElem?_cons_zero,List.getElem?_set_self (by omega)]
   ·rw [if_neg (by omega),List.getElem?_set_ne (by omega)]
theorem prom_bad : ∀ (ts : List BL) (i : Nat) (x : RdM),(promR i ts x).bad=false→x.bad=false
 | [],_,x,h => h
 | s :: r,i,x,h => by
  rw [promR] at h
  have h2:=prom_bad r (i + 1) _ h
  split at h2
  ·exact h2
  ·exact (Bool.or_eq_false_iff.1 h2).1
theorem piecesR_says {x : RdM} (h0 : x.r.pieces=[]) (h1 : x.tos=[]) (h : (piecesR x).bad=false) : x.bad=false∧∃ (ps : List PieceM) (ts : List BL),piecesR x={ x with lines:=(piecesR x).lines,tos:=ts,r:={ x.r with pieces:=ps } }∧x.lines=(ps.flatMap (pieceLs ps)).map lineT ++ (piecesR x).lines:=by
 unfold piecesR at h ⊢
 simp only at h ⊢
 have hb : (piecesL (x.lines.length + 1) x).1.bad=false:=by
  split at h
  ·exact prom_bad _ _ _ h
  ·exact h
 obtain ⟨b,e0,ts,ps,e1,e2,e3,e4⟩:=pieces_says _ _ hb
 rw [if_pos e0] at h ⊢
 rw [h0,h1,List.nil_append,List.nil_append] at e4
 generalize piecesL (x.lines.length + 1) x=Y at *
 obtain ⟨⟨Ya,Yb,Yc,Yd⟩,Y2⟩:=Y
 simp only [RdM.mk.injEq] at e4
 obtain ⟨-,rfl,rfl,rfl⟩:=e4
 simp only at *
 have hf:=prom_form (ps.map (·.letter)) Yc 0 ⟨Ya,{ x.r with pieces:=ps },Yc,x.bad⟩ [] ps rfl rfl e1.symm rfl ps rfl
 rw [hf] at h ⊢
 have hany:=(Bool.or_eq_false_iff.1 h).2
 refine ⟨b,List.zipWith (proV ps) ps Yc,Yc,?_,?_⟩
 ·simp only [hany,Bool.or_false,List.nil_append]
 ·rw [e3,rough_done ps (List.zipWith (proV ps) ps Yc) (zip_let ps ps Yc e1.symm).symm ps Yc e1.symm e2 hany]
end Go.Proofs.YtdoibgmmijhlfaaGreatDoor
