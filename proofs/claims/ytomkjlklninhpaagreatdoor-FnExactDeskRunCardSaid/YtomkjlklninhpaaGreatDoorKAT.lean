/- Lemmas. -/
import Derived.Test.YtomkjlklninhpaaGreatDoorKAM
import Derived.Shelf.Strings.Builder1
import Derived.Shelf.Strings.Builder2
import Derived.Shelf.Strings.OnBuilder
import Derived.Shelf.Small.Bits
import Derived.Shelf.Small.Wraps
import Derived.Shelf.Strings.BuilderF
import Derived.Shelf.Strings.BuilderK
import Derived.Shelf.Strconv.Atoi
import Derived.Shelf.Strconv.Itoa0
import Derived.Shelf.Strconv.Itoa1
import Derived.Shelf.LaysM
import Derived.Shelf.Strconv.Itoa2
import Derived.Shelf.Strconv.Itoa3
import Derived.Shelf.Strconv.AtoiErrFast
import Derived.Shelf.Strconv.ParseIntEmpty
import Derived.Shelf.Strconv.AtoiFail
import Derived.Shelf.Strconv.Clone
import Derived.Shelf.Strconv.SyntaxError
import Derived.Shelf.LaysC
import Derived.Shelf.Strconv.ToError
import Derived.Shelf.Strconv.Lower
import Derived.Shelf.Strconv.ParseUint10
import Derived.Shelf.Strconv.ParseUint10Empty
import Derived.Shelf.Strconv.ParseUint10Any
import Derived.Shelf.Strconv.ParseInt10
import Derived.Shelf.Strconv.AtoiLong
import Derived.Shelf.Strconv.AtoiInnerAll
import Derived.Shelf.Strconv.RangeError
import Derived.Shelf.Strconv.ToErrorRange
import Derived.Shelf.Strconv.AtoiAll
import Derived.Shelf.Strconv.ErrVarAll
import Derived.Shelf.Strings.Search1
import Derived.Shelf.Strings.Search2
import Derived.Shelf.Strings.Search3
import Derived.Shelf.Strings.Cut
import Derived.Shelf.Strings.Count
import Derived.Shelf.Strings.Shaped
import Derived.Shelf.Strings.Prefix
import Derived.Shelf.Strings.Split
import Derived.Shelf.Strings.SplitShaped
import Derived.Shelf.Unicode.DecodeSlow
import Derived.Shelf.SlSortCmp.WholeK
import Derived.Shelf.SlSortCmp.NoneTotal
import Derived.Test.YtomkjlklninhpaaGreatDoorProg
import Derived.Ground.SlsfProg
set_option maxHeartbeats 16000000
set_option maxRecDepth 8000
set_option linter.all false
section
namespace Go.Proofs
open Go.Shelf
def Tryz.CV:Go.Shelf.Ren:=⟨fun|169=>128|n=>n,fun|70=>140|9=>9|0=>0|72=>142|37=>111|127=>194|3=>3|5=>5|n=>n,fun|n=>n⟩
theorem Tryz.Zp:Go.Proofs.Lays.n169 Tryz.prog Tryz.CV:={
 mixed:=by kernel_rfl
 f169:=Tryz.func128.trans (congrArg some (by kernel_rfl))
 t0:=Tryz.underlying0
 a0:=Tryz.isAgg0
 z0:=Tryz.sizeOf0
 v0:=Tryz.zeroValue0
 t3:=Tryz.underlying3
 a3:=Tryz.isAgg3
 z3:=Tryz.sizeOf3
 v3:=Tryz.zeroValue3
 t9:=Tryz.underlying9
 a9:=Tryz.isAgg9
 z9:=Tryz.sizeOf9
 v9:=Tryz.zeroValue9
 t37:=Tryz.underlying111
 a37:=Tryz.isAgg111
 z37:=Tryz.sizeOf111
 v37:=Tryz.zeroValue111
 t70:=Tryz.underlying140
 a70:=Tryz.isAgg140
 z70:=Tryz.sizeOf140
 v70:=Tryz.zeroValue140
 t72:=Tryz.underlying142
 a72:=Tryz.isAgg142
 z72:=Tryz.sizeOf142
 v72:=Tryz.zeroValue142
 t127:=Tryz.underlying194
 a127:=Tryz.isAgg194
 z127:=Tryz.sizeOf194
 v127:=Tryz.zeroValue194 }
theorem Tryz.zg:Builder.Extra Tryz.prog Tryz.CV:={
 sizeBuilder:=by kernel_rfl
 liesBuilder:=by kernel_rfl
 t5:=Tryz.underlying5
 a5:=Tryz.isAgg5
 z5:=Tryz.sizeOf5
 v5:=Tryz.zeroValue5
 infoByte:=by kernel_rfl
 cellsByte:=by kernel_rfl
 sizeByte:=by kernel_rfl
 neB5:=by decide }
open Go.RowKit in
theorem Tryz.Builder_String_any(B b:Nat)(l:List UInt8)(w:World)(h:Lib.IsBuilder 142 5 B b (Lib.byteCells l) w)(hBw:B<=w.heap.size) :
 Calls Tryz.prog 128 #[.pointer (some ⟨b,0,none⟩)] w fun e w'=>e=.returned (.string ⟨l.toArray⟩)/\Below B w w':=Any.Builder_String_any Tryz.Zp Tryz.zg B b l w h hBw
def Tryz.mF:Go.Shelf.Ren:=⟨fun|156=>130|165=>174|166=>126|169=>128|240=>171|241=>208|276=>206|277=>242|n=>n,fun|31=>31|9=>9|3=>3|4=>4|0=>0|20=>20|72=>142|76=>146|70=>140|37=>111|75=>144|127=>194|164=>217|5=>5|80=>148|n=>n,fun|n=>n⟩
theorem Tryz.wJ:Go.Proofs.Lays.n156 Tryz.prog Tryz.mF:={
 mixed:=by kernel_rfl
 f156:=Tryz.func130.trans (congrArg some (by kernel_rfl))
 f165:=Tryz.func174.trans (congrArg some (by kernel_rfl))
 f166:=Tryz.func126.trans (congrArg some (by kernel_rfl))
 f169:=Tryz.func128.trans (congrArg some (by kernel_rfl))
 f240:=Tryz.func171.trans (congrArg some (by kernel_rfl))
 f241:=Tryz.func208.trans (congrArg some (by kernel_rfl))
 f276:=Tryz.func206.trans (congrArg some (by kernel_rfl))
 f277:=Tryz.func242.trans (congrArg some (by kernel_rfl))
 t0:=Tryz.underlying0
 a0:=Tryz.isAgg0
 z0:=Tryz.sizeOf0
 v0:=Tryz.zeroValue0
 t3:=Tryz.underlying3
 a3:=Tryz.isAgg3
 z3:=Tryz.sizeOf3
 v3:=Tryz.zeroValue3
 t4:=Tryz.underlying4
 a4:=Tryz.isAgg4
 z4:=Tryz.sizeOf4
 v4:=Tryz.zeroValue4
 t9:=Tryz.underlying9
 a9:=Tryz.isAgg9
 z9:=Tryz.sizeOf9
 v9:=Tryz.zeroValue9
 t20:=Tryz.underlying20
 a20:=Tryz.isAgg20
 z20:=Tryz.sizeOf20
 v20:=Tryz.zeroValue20
 t31:=Tryz.underlying31
 a31:=Tryz.isAgg31
 z31:=Tryz.sizeOf31
 v31:=Tryz.zeroValue31
 t37:=Tryz.underlying111
 a37:=Tryz.isAgg111
 z37:=Tryz.sizeOf111
 v37:=Tryz.zeroValue111
 t70:=Tryz.underlying140
 a70:=Tryz.isAgg140
 z70:=Tryz.sizeOf140
 v70:=Tryz.zeroValue140
 t72:=Tryz.underlying142
 a72:=Tryz.isAgg142
 z72:=Tryz.sizeOf142
 v72:=Tryz.zeroValue142
 t75:=Tryz.underlying144
 a75:=Tryz.isAgg144
 z75:=Tryz.sizeOf144
 v75:=Tryz.zeroValue144
 t76:=Tryz.underlying146
 a76:=Tryz.isAgg146
 z76:=Tryz.sizeOf146
 v76:=Tryz.zeroValue146
 t127:=Tryz.underlying194
 a127:=Tryz.isAgg194
 z127:=Tryz.sizeOf194
 v127:=Tryz.zeroValue194
 t164:=Tryz.underlying217
 a164:=Tryz.isAgg217
 z164:=Tryz.sizeOf217
 v164:=Tryz.zeroValue217 }
theorem Tryz.kQ:Builder.Extra Tryz.prog Tryz.mF:={
 sizeBuilder:=by kernel_rfl
 liesBuilder:=by kernel_rfl
 t5:=Tryz.underlying5
 a5:=Tryz.isAgg5
 z5:=Tryz.sizeOf5
 v5:=Tryz.zeroValue5
 infoByte:=by kernel_rfl
 cellsByte:=by kernel_rfl
 sizeByte:=by kernel_rfl
 neB5:=by decide }
open Go.RowKit in
theorem Tryz.strings_Join_none(a:Option Addr)(c:Nat)(sep:ByteArray)(w:World) :
 Calls Tryz.prog 130 #[.slice a 0 c,.string sep] w fun e w'=>e=.returned (.string ⟨#[]⟩)/\w'=w:=Any.strings_Join_none Tryz.wJ Tryz.kQ a c sep w
open Go.RowKit in
theorem Tryz.strings_Join(bk o c:Nat)(xs:List ByteArray)(sep:ByteArray)(w:World)(hcells:∀(j:Nat) x,xs[j]? =some x->w.cell? ⟨bk,o+j,none⟩=some (.string x))(hbk:bk<w.heap.size)(hN:xs.length<=140737488355328)(hcap:xs.length<=c)(hlen:(Lib.join (xs.map (·.data.toList)) sep.data.toList).length<=140737488355328) :
 Calls Tryz.prog 130 #[.slice (some ⟨bk,o,none⟩) xs.length c,.string sep] w fun e w'=>e=.returned (.string ⟨(Lib.join (xs.map (·.data.toList)) sep.data.toList).toArray⟩)/\Below w.heap.size w w':=Any.strings_Join Tryz.wJ Tryz.kQ bk o c xs sep w hcells hbk hN hcap hlen
def Tryz.MP:Go.Shelf.Ren:=⟨fun|103=>176|210=>212|206=>245|n=>n,fun|9=>9|4=>4|24=>197|3=>3|n=>n,fun|n=>n⟩
theorem Tryz.Yq:Go.Proofs.Lays.n103 Tryz.prog Tryz.MP:={
 mixed:=by kernel_rfl
 f103:=Tryz.func176.trans (congrArg some (by kernel_rfl))
 f206:=Tryz.func245.trans (congrArg some (by kernel_rfl))
 f210:=Tryz.func212.trans (congrArg some (by kernel_rfl))
 t3:=Tryz.underlying3
 a3:=Tryz.isAgg3
 z3:=Tryz.sizeOf3
 v3:=Tryz.zeroValue3
 t4:=Tryz.underlying4
 a4:=Tryz.isAgg4
 z4:=Tryz.sizeOf4
 v4:=Tryz.zeroValue4
 t9:=Tryz.underlying9
 a9:=Tryz.isAgg9
 z9:=Tryz.sizeOf9
 v9:=Tryz.zeroValue9
 t24:=Tryz.underlying197
 a24:=Tryz.isAgg197
 z24:=Tryz.sizeOf197
 v24:=Tryz.zeroValue197 }
open Go.RowKit in
theorem Tryz.strings_CutPrefix(s p:ByteArray)(w:World) :
 Calls Tryz.prog 176 #[.string s,.string p] w fun e w'=>e=.returned (.tuple #[.string ⟨(Lib.trimPrefix s.data.toList p.data.toList).toArray⟩,.bool (Lib.hasPrefix s.data.toList p.data.toList)])/\w'=w:=Any.strings_CutPrefix Tryz.Yq s p w
def Tryz.OP:Go.Shelf.Ren:=⟨fun|171=>127|243=>172|246=>207|283=>238|284=>239|285=>240|286=>241|129=>264|317=>263|318=>265|319=>266|320=>267|337=>292|338=>293|n=>n,fun|3=>3|9=>9|2=>2|4=>4|171=>242|0=>0|53=>243|37=>111|5=>5|173=>246|212=>266|51=>226|20=>20|213=>267|46=>192|232=>305|233=>306|n=>n,fun|17=>1|18=>6|19=>7|n=>n⟩
theorem Tryz.X8:Go.Proofs.Lays.n171 Tryz.prog Tryz.OP:={
 mixed:=by kernel_rfl
 f129:=Tryz.func264.trans (congrArg some (by kernel_rfl))
 f171:=Tryz.func127.trans (congrArg some (by kernel_rfl))
 f243:=Tryz.func172.trans (congrArg some (by kernel_rfl))
 f246:=Tryz.func207.trans (congrArg some (by kernel_rfl))
 f283:=Tryz.func238.trans (congrArg some (by kernel_rfl))
 f284:=Tryz.func239.trans (congrArg some (by kernel_rfl))
 f285:=Tryz.func240.trans (congrArg some (by kernel_rfl))
 f286:=Tryz.func241.trans (congrArg some (by kernel_rfl))
 f317:=Tryz.func263.trans (congrArg some (by kernel_rfl))
 f318:=Tryz.func265.trans (congrArg some (by kernel_rfl))
 f319:=Tryz.func266.trans (congrArg some (by kernel_rfl))
 f320:=Tryz.func267.trans (congrArg some (by kernel_rfl))
 f337:=Tryz.func292.trans (congrArg some (by kernel_rfl))
 f338:=Tryz.func293.trans (congrArg some (by kernel_rfl))
 t0:=Tryz.underlying0
 a0:=Tryz.isAgg0
 z0:=Tryz.sizeOf0
 v0:=Tryz.zeroValue0
 t2:=Tryz.underlying2
 a2:=Tryz.isAgg2
 z2:=Tryz.sizeOf2
 v2:=Tryz.zeroValue2
 t3:=Tryz.underlying3
 a3:=Tryz.isAgg3
 z3:=Tryz.sizeOf3
 v3:=Tryz.zeroValue3
 t4:=Tryz.underlying4
 a4:=Tryz.isAgg4
 z4:=Tryz.sizeOf4
 v4:=Tryz.zeroValue4
 t5:=Tryz.underlying5
 a5:=Tryz.isAgg5
 z5:=Tryz.sizeOf5
 v5:=Tryz.zeroValue5
 t9:=Tryz.underlying9
 a9:=Tryz.isAgg9
 z9:=Tryz.sizeOf9
 v9:=Tryz.zeroValue9
 t20:=Tryz.underlying20
 a20:=Tryz.isAgg20
 z20:=Tryz.sizeOf20
 v20:=Tryz.zeroValue20
 t37:=Tryz.underlying111
 a37:=Tryz.isAgg111
 z37:=Tryz.sizeOf111
 v37:=Tryz.zeroValue111
 t46:=Tryz.underlying192
 a46:=Tryz.isAgg192
 z46:=Tryz.sizeOf192
 v46:=Tryz.zeroValue192
 t51:=Tryz.underlying226
 a51:=Tryz.isAgg226
 z51:=Tryz.sizeOf226
 v51:=Tryz.zeroValue226
 t53:=Tryz.underlying243
 a53:=Tryz.isAgg243
 z53:=Tryz.sizeOf243
 v53:=Tryz.zeroValue243
 t171:=Tryz.underlying242
 a171:=Tryz.isAgg242
 z171:=Tryz.sizeOf242
 v171:=Tryz.zeroValue242
 t173:=Tryz.underlying246
 a173:=Tryz.isAgg246
 z173:=Tryz.sizeOf246
 v173:=Tryz.zeroValue246
 t212:=Tryz.underlying266
 a212:=Tryz.isAgg266
 z212:=Tryz.sizeOf266
 v212:=Tryz.zeroValue266
 t213:=Tryz.underlying267
 a213:=Tryz.isAgg267
 z213:=Tryz.sizeOf267
 t232:=Tryz.underlying305
 a232:=Tryz.isAgg305
 z232:=Tryz.sizeOf305
 v232:=Tryz.zeroValue305
 t233:=Tryz.underlying306
 a233:=Tryz.isAgg306
 z233:=Tryz.sizeOf306
 v233:=Tryz.zeroValue306
 g17:=by kernel_rfl
 g18:=by kernel_rfl
 g19:=by kernel_rfl }
open Go.RowKit Go.Sort Go.Lib in
theorem Tryz.strconv_Itoa_small(i:Nat)(hi:i<100)(w:World) :
 Calls Tryz.prog 127 #[.int .i64 i] w fun e w'=>e=.returned (.string ⟨(Lib.decDigits i).toArray⟩)/\w'=w:=Any.strconv_Itoa_small Tryz.X8 i hi w
def Tryz.KN:Go.Shelf.Ren:=⟨fun|172=>177|244=>213|245=>214|247=>246|279=>247|280=>248|281=>249|282=>250|287=>268|316=>269|171=>127|205=>270|321=>294|322=>295|243=>172|246=>207|283=>238|284=>239|285=>240|286=>241|129=>264|317=>263|318=>265|319=>266|320=>267|337=>292|338=>293|n=>n,fun|9=>9|3=>3|75=>144|76=>146|4=>4|5=>5|167=>250|37=>111|0=>0|85=>251|2=>2|168=>253|53=>243|175=>268|46=>192|210=>271|127=>194|145=>295|143=>293|21=>21|171=>242|173=>246|212=>266|51=>226|20=>20|213=>267|232=>305|233=>306|80=>148|n=>n,fun|15=>2|16=>3|17=>1|18=>6|19=>7|n=>n⟩
theorem Tryz.H8:Go.Proofs.LaysC.n172 Tryz.prog Tryz.KN:={
 mixed:=by kernel_rfl
 f129:=Tryz.func264.trans (congrArg some (by kernel_rfl))
 f171:=Tryz.func127.trans (congrArg some (by kernel_rfl))
 f172:=Tryz.func177.trans (congrArg some (by kernel_rfl))
 f205:=Tryz.func270.trans (congrArg some (by kernel_rfl))
 f243:=Tryz.func172.trans (congrArg some (by kernel_rfl))
 f244:=Tryz.func213.trans (congrArg some (by kernel_rfl))
 f245:=Tryz.func214.trans (congrArg some (by kernel_rfl))
 f246:=Tryz.func207.trans (congrArg some (by kernel_rfl))
 f247:=Tryz.func246.trans (congrArg some (by kernel_rfl))
 f279:=Tryz.func247.trans (congrArg some (by kernel_rfl))
 f280:=Tryz.func248.trans (congrArg some (by kernel_rfl))
 f281:=Tryz.func249.trans (congrArg some (by kernel_rfl))
 f282:=Tryz.func250.trans (congrArg some (by kernel_rfl))
 f283:=Tryz.func238.trans (congrArg some (by kernel_rfl))
 f284:=Tryz.func239.trans (congrArg some (by kernel_rfl))
 f285:=Tryz.func240.trans (congrArg some (by kernel_rfl))
 f286:=Tryz.func241.trans (congrArg some (by kernel_rfl))
 f287:=Tryz.func268.trans (congrArg some (by kernel_rfl))
 f316:=Tryz.func269.trans (congrArg some (by kernel_rfl))
 f317:=Tryz.func263.trans (congrArg some (by kernel_rfl))
 f318:=Tryz.func265.trans (congrArg some (by kernel_rfl))
 f319:=Tryz.func266.trans (congrArg some (by kernel_rfl))
 f320:=Tryz.func267.trans (congrArg some (by kernel_rfl))
 f321:=Tryz.func294.trans (congrArg some (by kernel_rfl))
 f322:=Tryz.func295.trans (congrArg some (by kernel_rfl))
 f337:=Tryz.func292.trans (congrArg some (by kernel_rfl))
 f338:=Tryz.func293.trans (congrArg some (by kernel_rfl))
 t0:=Tryz.underlying0
 a0:=Tryz.isAgg0
 z0:=Tryz.sizeOf0
 v0:=Tryz.zeroValue0
 t2:=Tryz.underlying2
 a2:=Tryz.isAgg2
 z2:=Tryz.sizeOf2
 v2:=Tryz.zeroValue2
 t3:=Tryz.underlying3
 a3:=Tryz.isAgg3
 z3:=Tryz.sizeOf3
 v3:=Tryz.zeroValue3
 t4:=Tryz.underlying4
 a4:=Tryz.isAgg4
 z4:=Tryz.sizeOf4
 v4:=Tryz.zeroValue4
 t5:=Tryz.underlying5
 a5:=Tryz.isAgg5
 z5:=Tryz.sizeOf5
 v5:=Tryz.zeroValue5
 t9:=Tryz.underlying9
 a9:=Tryz.isAgg9
 z9:=Tryz.sizeOf9
 v9:=Tryz.zeroValue9
 t20:=Tryz.underlying20
 a20:=Tryz.isAgg20
 z20:=Tryz.sizeOf20
 v20:=Tryz.zeroValue20
 t21:=Tryz.underlying21
 a21:=Tryz.isAgg21
 z21:=Tryz.sizeOf21
 v21:=Tryz.zeroValue21
 t37:=Tryz.underlying111
 a37:=Tryz.isAgg111
 z37:=Tryz.sizeOf111
 v37:=Tryz.zeroValue111
 t46:=Tryz.underlying192
 a46:=Tryz.isAgg192
 z46:=Tryz.sizeOf192
 v46:=Tryz.zeroValue192
 t51:=Tryz.underlying226
 a51:=Tryz.isAgg226
 z51:=Tryz.sizeOf226
 v51:=Tryz.zeroValue226
 t53:=Tryz.underlying243
 a53:=Tryz.isAgg243
 z53:=Tryz.sizeOf243
 v53:=Tryz.zeroValue243
 t75:=Tryz.underlying144
 a75:=Tryz.isAgg144
 z75:=Tryz.sizeOf144
 v75:=Tryz.zeroValue144
 t76:=Tryz.underlying146
 a76:=Tryz.isAgg146
 z76:=Tryz.sizeOf146
 v76:=Tryz.zeroValue146
 t85:=Tryz.underlying251
 a85:=Tryz.isAgg251
 z85:=Tryz.sizeOf251
 v85:=Tryz.zeroValue251
 t127:=Tryz.underlying194
 a127:=Tryz.isAgg194
 z127:=Tryz.sizeOf194
 v127:=Tryz.zeroValue194
 t143:=Tryz.underlying293
 a143:=Tryz.isAgg293
 z143:=Tryz.sizeOf293
 v143:=Tryz.zeroValue293
 t145:=Tryz.underlying295
 a145:=Tryz.isAgg295
 z145:=Tryz.sizeOf295
 v145:=Tryz.zeroValue295
 t167:=Tryz.underlying250
 a167:=Tryz.isAgg250
 z167:=Tryz.sizeOf250
 v167:=Tryz.zeroValue250
 t168:=Tryz.underlying253
 a168:=Tryz.isAgg253
 z168:=Tryz.sizeOf253
 v168:=Tryz.zeroValue253
 t171:=Tryz.underlying242
 a171:=Tryz.isAgg242
 z171:=Tryz.sizeOf242
 v171:=Tryz.zeroValue242
 t173:=Tryz.underlying246
 a173:=Tryz.isAgg246
 z173:=Tryz.sizeOf246
 v173:=Tryz.zeroValue246
 t175:=Tryz.underlying268
 a175:=Tryz.isAgg268
 z175:=Tryz.sizeOf268
 v175:=Tryz.zeroValue268
 t210:=Tryz.underlying271
 a210:=Tryz.isAgg271
 z210:=Tryz.sizeOf271
 v210:=Tryz.zeroValue271
 t212:=Tryz.underlying266
 a212:=Tryz.isAgg266
 z212:=Tryz.sizeOf266
 v212:=Tryz.zeroValue266
 t213:=Tryz.underlying267
 a213:=Tryz.isAgg267
 z213:=Tryz.sizeOf267
 t232:=Tryz.underlying305
 a232:=Tryz.isAgg305
 z232:=Tryz.sizeOf305
 v232:=Tryz.zeroValue305
 t233:=Tryz.underlying306
 a233:=Tryz.isAgg306
 z233:=Tryz.sizeOf306
 v233:=Tryz.zeroValue306
 g15:=by kernel_rfl
 g16:=by kernel_rfl
 g17:=by kernel_rfl
 g18:=by kernel_rfl
 g19:=by kernel_rfl
 t80:=Tryz.underlying148
 a80:=Tryz.isAgg148
 z80:=Tryz.sizeOf148
 v80:=Tryz.zeroValue148
 i0:=by kernel_rfl
 i2:=by kernel_rfl
 i3:=by kernel_rfl
 i4:=by kernel_rfl
 i5:=by kernel_rfl
 i9:=by kernel_rfl
 i20:=by kernel_rfl
 i21:=by kernel_rfl
 i37:=by kernel_rfl
 i46:=by kernel_rfl
 i51:=by kernel_rfl
 i53:=by kernel_rfl
 i75:=by kernel_rfl
 i76:=by kernel_rfl
 i80:=by kernel_rfl
 i85:=by kernel_rfl
 i127:=by kernel_rfl
 i143:=by kernel_rfl
 i145:=by kernel_rfl
 i167:=by kernel_rfl
 i168:=by kernel_rfl
 i171:=by kernel_rfl
 i173:=by kernel_rfl
 i175:=by kernel_rfl
 i210:=by kernel_rfl
 i212:=by kernel_rfl
 i232:=by kernel_rfl
 i233:=by kernel_rfl
 m15:=by kernel_rfl
 m16:=by kernel_rfl
 m17:=by kernel_rfl
 m18:=by kernel_rfl
 m19:=by kernel_rfl
 c0:=by kernel_rfl
 c2:=by kernel_rfl
 c3:=by kernel_rfl
 c4:=by kernel_rfl
 c5:=by kernel_rfl
 c9:=by kernel_rfl
 c20:=by kernel_rfl
 c21:=by kernel_rfl
 c37:=by kernel_rfl
 c46:=by kernel_rfl
 c51:=by kernel_rfl
 c53:=by kernel_rfl
 c75:=by kernel_rfl
 c76:=by kernel_rfl
 c80:=by kernel_rfl
 c85:=by kernel_rfl
 c127:=by kernel_rfl
 c143:=by kernel_rfl
 c145:=by kernel_rfl
 c167:=by kernel_rfl
 c168:=by kernel_rfl
 c171:=by kernel_rfl
 c173:=by kernel_rfl
 c175:=by kernel_rfl
 c210:=by kernel_rfl
 c212:=by kernel_rfl
 c213:=by kernel_rfl
 c232:=by kernel_rfl
 c233:=by kernel_rfl }
open Go.RowKit in
theorem Tryz.strconv_Atoi_ok(s:ByteArray)(hmax:s.size<=9223372036854775806)(v:Int)(h:Lib.atoiAll s.data.toList=.ok v)(w:World) :
 Calls Tryz.prog 177 #[.string s] w fun e w'=>e=.returned (.tuple #[.int .i64 v,.nilIface])/\(w'=w∨∃t,w'=Lib.bytesWorld w 5 t):=Any.strconv_Atoi_ok Tryz.H8 s hmax v h w
open Go.RowKit in
theorem Tryz.strconv_Atoi_syntax(s:ByteArray)(hlim:s.size<=281474976710656)(h:Lib.atoiAll s.data.toList=Lib.NumEnd.syntax)(ev:Value)(w:World)(hv:w.cell? ⟨2,0,none⟩=some ev)(hev:ev=.nilIface∨∃te pe,ev=.iface te pe) :
 Calls Tryz.prog 177 #[.string s] w fun e w'=>∃N,e=.returned (.tuple #[.int .i64 (0),.iface 253 (.pointer (some ⟨N,0,none⟩))])/\w.heap.size<=N/\w'.heap[N]? =some (.cells #[.string ⟨#[65,116,111,105]⟩,.string s,ev] 271 (0,0))/\Below w.heap.size w w':=Any.strconv_Atoi_syntax Tryz.H8 s hlim h ev w hv hev
open Go.RowKit in
theorem Tryz.strconv_Atoi_range(s:ByteArray)(hlim:s.size<=281474976710656)(h:Lib.atoiAll s.data.toList=.range)(ev:Value)(w:World)(hv:w.cell? ⟨3,0,none⟩=some ev)(hev:ev=.nilIface∨∃te pe,ev=.iface te pe) :
 Calls Tryz.prog 177 #[.string s] w fun e w'=>∃N,e=.returned (.tuple #[.int .i64 (Lib.atoiSat s.data.toList),.iface 253 (.pointer (some ⟨N,0,none⟩))])/\w.heap.size<=N/\w'.heap[N]? =some (.cells #[.string ⟨#[65,116,111,105]⟩,.string s,ev] 271 (0,0))/\Below w.heap.size w w':=Any.strconv_Atoi_range Tryz.H8 s hlim h ev w hv hev
def Tryz.MO:Go.Shelf.Ren:=⟨fun|143=>211|219=>147|217=>184|225=>185|224=>186|267=>187|266=>220|314=>221|n=>n,fun|9=>9|3=>3|4=>4|5=>5|46=>192|146=>227|51=>226|n=>n,fun|1=>0|n=>n⟩
theorem Tryz.Zi:Go.Proofs.Lays.n143 Tryz.prog Tryz.MO:={
 mixed:=by kernel_rfl
 f143:=Tryz.func211.trans (congrArg some (by kernel_rfl))
 f217:=Tryz.func184.trans (congrArg some (by kernel_rfl))
 f219:=Tryz.func147.trans (congrArg some (by kernel_rfl))
 f224:=Tryz.func186.trans (congrArg some (by kernel_rfl))
 f225:=Tryz.func185.trans (congrArg some (by kernel_rfl))
 f266:=Tryz.func220.trans (congrArg some (by kernel_rfl))
 f267:=Tryz.func187.trans (congrArg some (by kernel_rfl))
 f314:=Tryz.func221.trans (congrArg some (by kernel_rfl))
 t3:=Tryz.underlying3
 a3:=Tryz.isAgg3
 z3:=Tryz.sizeOf3
 v3:=Tryz.zeroValue3
 t4:=Tryz.underlying4
 a4:=Tryz.isAgg4
 z4:=Tryz.sizeOf4
 v4:=Tryz.zeroValue4
 t5:=Tryz.underlying5
 a5:=Tryz.isAgg5
 z5:=Tryz.sizeOf5
 v5:=Tryz.zeroValue5
 t9:=Tryz.underlying9
 a9:=Tryz.isAgg9
 z9:=Tryz.sizeOf9
 v9:=Tryz.zeroValue9
 t46:=Tryz.underlying192
 a46:=Tryz.isAgg192
 z46:=Tryz.sizeOf192
 v46:=Tryz.zeroValue192
 t51:=Tryz.underlying226
 a51:=Tryz.isAgg226
 z51:=Tryz.sizeOf226
 v51:=Tryz.zeroValue226
 t146:=Tryz.underlying227
 a146:=Tryz.isAgg227
 z146:=Tryz.sizeOf227
 v146:=Tryz.zeroValue227
 g1:=by kernel_rfl }
open Go.RowKit Go.Lib in
theorem Tryz.strings_Index(s sub:ByteArray)(m:Int)(w:World)(hs:s.size<4294967281)(hm:w.cell? ⟨0,0,none⟩=some (.int .i64 m)) :
 Calls Tryz.prog 211 #[.string s,.string sub] w fun e w'=>e=.returned (.int .i64 (Lib.index s.data.toList sub.data.toList))/\w'=w:=Any.strings_Index Tryz.Zi s sub m w hs hm
def Tryz.Mm:Go.Shelf.Ren:=⟨fun|145=>72|220=>104|219=>147|217=>184|225=>185|224=>186|267=>187|266=>220|314=>221|n=>n,fun|9=>9|4=>4|59=>103|3=>3|5=>5|46=>192|146=>227|51=>226|n=>n,fun|1=>0|n=>n⟩
theorem Tryz.XM:Go.Proofs.Lays.n145 Tryz.prog Tryz.Mm:={
 mixed:=by kernel_rfl
 f145:=Tryz.func72.trans (congrArg some (by kernel_rfl))
 f217:=Tryz.func184.trans (congrArg some (by kernel_rfl))
 f219:=Tryz.func147.trans (congrArg some (by kernel_rfl))
 f220:=Tryz.func104.trans (congrArg some (by kernel_rfl))
 f224:=Tryz.func186.trans (congrArg some (by kernel_rfl))
 f225:=Tryz.func185.trans (congrArg some (by kernel_rfl))
 f266:=Tryz.func220.trans (congrArg some (by kernel_rfl))
 f267:=Tryz.func187.trans (congrArg some (by kernel_rfl))
 f314:=Tryz.func221.trans (congrArg some (by kernel_rfl))
 t3:=Tryz.underlying3
 a3:=Tryz.isAgg3
 z3:=Tryz.sizeOf3
 v3:=Tryz.zeroValue3
 t4:=Tryz.underlying4
 a4:=Tryz.isAgg4
 z4:=Tryz.sizeOf4
 v4:=Tryz.zeroValue4
 t5:=Tryz.underlying5
 a5:=Tryz.isAgg5
 z5:=Tryz.sizeOf5
 v5:=Tryz.zeroValue5
 t9:=Tryz.underlying9
 a9:=Tryz.isAgg9
 z9:=Tryz.sizeOf9
 v9:=Tryz.zeroValue9
 t46:=Tryz.underlying192
 a46:=Tryz.isAgg192
 z46:=Tryz.sizeOf192
 v46:=Tryz.zeroValue192
 t51:=Tryz.underlying226
 a51:=Tryz.isAgg226
 z51:=Tryz.sizeOf226
 v51:=Tryz.zeroValue226
 t59:=Tryz.underlying103
 a59:=Tryz.isAgg103
 z59:=Tryz.sizeOf103
 v59:=Tryz.zeroValue103
 t146:=Tryz.underlying227
 a146:=Tryz.isAgg227
 z146:=Tryz.sizeOf227
 v146:=Tryz.zeroValue227
 g1:=by kernel_rfl }
open Go.RowKit Go.Lib in
theorem Tryz.strings_Cut(s sep:ByteArray)(m:Int)(w:World)(hs:s.size<4294967281)(hm:w.cell? ⟨0,0,none⟩=some (.int .i64 m)) :
 Calls Tryz.prog 72 #[.string s,.string sep] w fun e w'=>e=.returned (.tuple #[.string ⟨(Lib.cut s.data.toList sep.data.toList).1.toArray⟩,.string ⟨(Lib.cut s.data.toList sep.data.toList).2.1.toArray⟩,.bool (Lib.cut s.data.toList sep.data.toList).2.2])/\∃n,w'=w.drewN n:=Any.strings_Cut Tryz.XM s sep m w hs hm
def Tryz.Ny:Go.Shelf.Ren:=⟨fun|146=>131|221=>175|268=>209|138=>210|143=>211|195=>243|197=>216|218=>244|219=>147|260=>251|217=>184|225=>185|224=>186|267=>187|266=>220|314=>221|n=>n,fun|9=>9|31=>31|3=>3|4=>4|0=>0|105=>223|21=>21|5=>5|46=>192|119=>273|139=>276|138=>275|146=>227|51=>226|n=>n,fun|1=>0|3=>4|4=>5|n=>n⟩
theorem Tryz.Yx:Go.Proofs.Lays.n146 Tryz.prog Tryz.Ny:={
 mixed:=by kernel_rfl
 f138:=Tryz.func210.trans (congrArg some (by kernel_rfl))
 f143:=Tryz.func211.trans (congrArg some (by kernel_rfl))
 f146:=Tryz.func131.trans (congrArg some (by kernel_rfl))
 f195:=Tryz.func243.trans (congrArg some (by kernel_rfl))
 f197:=Tryz.func216.trans (congrArg some (by kernel_rfl))
 f217:=Tryz.func184.trans (congrArg some (by kernel_rfl))
 f218:=Tryz.func244.trans (congrArg some (by kernel_rfl))
 f219:=Tryz.func147.trans (congrArg some (by kernel_rfl))
 f221:=Tryz.func175.trans (congrArg some (by kernel_rfl))
 f224:=Tryz.func186.trans (congrArg some (by kernel_rfl))
 f225:=Tryz.func185.trans (congrArg some (by kernel_rfl))
 f260:=Tryz.func251.trans (congrArg some (by kernel_rfl))
 f266:=Tryz.func220.trans (congrArg some (by kernel_rfl))
 f267:=Tryz.func187.trans (congrArg some (by kernel_rfl))
 f268:=Tryz.func209.trans (congrArg some (by kernel_rfl))
 f314:=Tryz.func221.trans (congrArg some (by kernel_rfl))
 t0:=Tryz.underlying0
 a0:=Tryz.isAgg0
 z0:=Tryz.sizeOf0
 v0:=Tryz.zeroValue0
 t3:=Tryz.underlying3
 a3:=Tryz.isAgg3
 z3:=Tryz.sizeOf3
 v3:=Tryz.zeroValue3
 t4:=Tryz.underlying4
 a4:=Tryz.isAgg4
 z4:=Tryz.sizeOf4
 v4:=Tryz.zeroValue4
 t5:=Tryz.underlying5
 a5:=Tryz.isAgg5
 z5:=Tryz.sizeOf5
 v5:=Tryz.zeroValue5
 t9:=Tryz.underlying9
 a9:=Tryz.isAgg9
 z9:=Tryz.sizeOf9
 v9:=Tryz.zeroValue9
 t21:=Tryz.underlying21
 a21:=Tryz.isAgg21
 z21:=Tryz.sizeOf21
 v21:=Tryz.zeroValue21
 t31:=Tryz.underlying31
 a31:=Tryz.isAgg31
 z31:=Tryz.sizeOf31
 v31:=Tryz.zeroValue31
 t46:=Tryz.underlying192
 a46:=Tryz.isAgg192
 z46:=Tryz.sizeOf192
 v46:=Tryz.zeroValue192
 t51:=Tryz.underlying226
 a51:=Tryz.isAgg226
 z51:=Tryz.sizeOf226
 v51:=Tryz.zeroValue226
 t105:=Tryz.underlying223
 a105:=Tryz.isAgg223
 z105:=Tryz.sizeOf223
 v105:=Tryz.zeroValue223
 t119:=Tryz.underlying273
 a119:=Tryz.isAgg273
 z119:=Tryz.sizeOf273
 t138:=Tryz.underlying275
 a138:=Tryz.isAgg275
 z138:=Tryz.sizeOf275
 v138:=Tryz.zeroValue275
 t139:=Tryz.underlying276
 a139:=Tryz.isAgg276
 z139:=Tryz.sizeOf276
 v139:=Tryz.zeroValue276
 t146:=Tryz.underlying227
 a146:=Tryz.isAgg227
 z146:=Tryz.sizeOf227
 v146:=Tryz.zeroValue227
 g1:=by kernel_rfl
 g3:=by kernel_rfl
 g4:=by kernel_rfl }
open Go.RowKit Go.Lib in
theorem Tryz.strings_Split(s sep:ByteArray)(m:Int)(w:World)(hs:s.size<4294967281)(hm:w.cell? ⟨0,0,none⟩=some (.int .i64 m))(h1:1<=sep.size) :
 Calls Tryz.prog 131 #[.string s,.string sep] w fun e w'=>
  e=.returned (.slice (some ⟨w.heap.size,0,none⟩) (Lib.countB s sep+1) (Lib.countB s sep+1))/\w'=w.alloc (.cells ((Lib.splitB sep 0 (Lib.countB s sep) s).map Value.string).toArray 9):=Any.strings_Split Tryz.Yx (by kernel_rfl) s sep m w hs hm h1
def Tryz.Li:Go.Shelf.Ren:=⟨fun|6=>227|15=>254|14=>255|28=>280|29=>264|20=>281|21=>282|22=>283|23=>284|24=>285|25=>286|26=>287|27=>288|46=>301|47=>297|48=>298|49=>302|50=>303|57=>306|n=>n,fun|22=>132|24=>177|25=>234|3=>3|39=>192|0=>0|53=>226|55=>243|4=>4|46=>279|45=>278|50=>106|5=>5|9=>9|66=>296|70=>300|76=>307|77=>308|n=>n,fun|n=>n⟩
theorem Tryz.Mq:Go.Proofs.SlLaysF0.n6 Tryz.prog Tryz.Li:={
 mixed:=by kernel_rfl
 f6:=⟨Tryz.f227.name,by decide,Tryz.func227.trans (congrArg some (by kernel_rfl))⟩
 f14:=⟨Tryz.f255.name,by decide,Tryz.func255.trans (congrArg some (by kernel_rfl))⟩
 f15:=Tryz.func254.trans (congrArg some (by kernel_rfl))
 f20:=⟨Tryz.f281.name,by decide,Tryz.func281.trans (congrArg some (by kernel_rfl))⟩
 f21:=⟨Tryz.f282.name,by decide,Tryz.func282.trans (congrArg some (by kernel_rfl))⟩
 f22:=⟨Tryz.f283.name,by decide,Tryz.func283.trans (congrArg some (by kernel_rfl))⟩
 f23:=⟨Tryz.f284.name,by decide,Tryz.func284.trans (congrArg some (by kernel_rfl))⟩
 f24:=⟨Tryz.f285.name,by decide,Tryz.func285.trans (congrArg some (by kernel_rfl))⟩
 f25:=⟨Tryz.f286.name,by decide,Tryz.func286.trans (congrArg some (by kernel_rfl))⟩
 f26:=⟨Tryz.f287.name,by decide,Tryz.func287.trans (congrArg some (by kernel_rfl))⟩
 f27:=⟨Tryz.f288.name,by decide,Tryz.func288.trans (congrArg some (by kernel_rfl))⟩
 f28:=Tryz.func280.trans (congrArg some (by kernel_rfl))
 f29:=Tryz.func264.trans (congrArg some (by kernel_rfl))
 f46:=⟨Tryz.f301.name,by decide,Tryz.func301.trans (congrArg some (by kernel_rfl))⟩
 f47:=Tryz.func297.trans (congrArg some (by kernel_rfl))
 f48:=Tryz.func298.trans (congrArg some (by kernel_rfl))
 f49:=⟨Tryz.f302.name,by decide,Tryz.func302.trans (congrArg some (by kernel_rfl))⟩
 f50:=⟨Tryz.f303.name,by decide,Tryz.func303.trans (congrArg some (by kernel_rfl))⟩
 f57:=⟨Tryz.f306.name,by decide,Tryz.func306.trans (congrArg some (by kernel_rfl))⟩
 t0:=Tryz.underlying0
 a0:=Tryz.isAgg0
 z0:=Tryz.sizeOf0
 v0:=Tryz.zeroValue0
 t3:=Tryz.underlying3
 a3:=Tryz.isAgg3
 z3:=Tryz.sizeOf3
 v3:=Tryz.zeroValue3
 t4:=Tryz.underlying4
 a4:=Tryz.isAgg4
 z4:=Tryz.sizeOf4
 v4:=Tryz.zeroValue4
 t5:=Tryz.underlying5
 a5:=Tryz.isAgg5
 z5:=Tryz.sizeOf5
 v5:=Tryz.zeroValue5
 t9:=Tryz.underlying9
 a9:=Tryz.isAgg9
 z9:=Tryz.sizeOf9
 v9:=Tryz.zeroValue9
 t22:=Tryz.underlying132
 a22:=Tryz.isAgg132
 z22:=Tryz.sizeOf132
 v22:=Tryz.zeroValue132
 t25:=Tryz.underlying234
 a25:=Tryz.isAgg234
 z25:=Tryz.sizeOf234
 v25:=Tryz.zeroValue234
 t39:=Tryz.underlying192
 a39:=Tryz.isAgg192
 z39:=Tryz.sizeOf192
 v39:=Tryz.zeroValue192
 t45:=Tryz.underlying278
 a45:=Tryz.isAgg278
 z45:=Tryz.sizeOf278
 v45:=Tryz.zeroValue278
 t46:=Tryz.underlying279
 a46:=Tryz.isAgg279
 z46:=Tryz.sizeOf279
 v46:=Tryz.zeroValue279
 t50:=Tryz.underlying106
 a50:=Tryz.isAgg106
 z50:=Tryz.sizeOf106
 v50:=Tryz.zeroValue106
 t53:=Tryz.underlying226
 a53:=Tryz.isAgg226
 z53:=Tryz.sizeOf226
 v53:=Tryz.zeroValue226
 t55:=Tryz.underlying243
 a55:=Tryz.isAgg243
 z55:=Tryz.sizeOf243
 v55:=Tryz.zeroValue243
 t66:=Tryz.underlying296
 a66:=Tryz.isAgg296
 z66:=Tryz.sizeOf296
 v66:=Tryz.zeroValue296
 t70:=Tryz.underlying300
 a70:=Tryz.isAgg300
 z70:=Tryz.sizeOf300
 v70:=Tryz.zeroValue300
 t76:=Tryz.underlying307
 a76:=Tryz.isAgg307
 z76:=Tryz.sizeOf307
 v76:=Tryz.zeroValue307
 t77:=Tryz.underlying308
 a77:=Tryz.isAgg308
 z77:=Tryz.sizeOf308
 v77:=Tryz.zeroValue308 }
end Go.Proofs
end
namespace Go.Proofs.YtomkjlklninhpaaGreatDoor
open Go.RowKit
section
attribute [local go_sem] Oper.semAt_some
theorem aaD:(Tryz.prog.info? 3).map (fun i=>(i.zero,i.size,i.bytes))=some (some (.int .i64 0),1,8):=by kernel_rfl
theorem IB(B n₀:Nat)(xs:List Int)(w:World)(hn₀:n₀<=w.heap.size)(hlen:xs.length<=1000)(hseq:Gs n₀ B xs w) :
 Calls Tryz.prog 252 #[.slice none 0 0,.func (.func 226) #[] #[.pointer (some ⟨B,0,none⟩)]] w fun e w'=>∃v,e=.returned v/\Row 3 1 (one encI) w.heap.size w' v xs/\Ext w w':=by
 refine(callsIn_wide (n:=9)).1 ?_
 refine callsIn_of_wp_marks Tryz.func252 rfl trivial ?_ rfl;simp only[Tryz.ntmps252,List.size_toArray,List.length_cons,List.length_nil,Nat.reduceAdd,Nat.reduceSub,Array.replicate_succ,Array.replicate_zero,List.push_toArray,List.append_toArray,List.nil_append,List.cons_append]
 gi_wp2
 have bO:=Boxed.new w 57 (.slice none 0 0);have eB:Ext w (w.alloc (.cells #[.slice none 0 0] 57)):=(Ext.refl _).alloc _;obtain⟨W0,hW0⟩:∃W0,w.alloc (.cells #[.slice none 0 0] 57)=W0:=⟨_,rfl⟩;have hsz:W0.heap.size=w.heap.size+1:=by rw[<-hW0];simp
 rw[hW0]at bO eB ⊢;clear hW0;refine wpIn_rangeFunc_ownG rfl (by omega) (gf:=226) (lb:=#[.pointer (some ⟨B,0,none⟩)]) rfl trivial (enters_of Tryz.func226 (by kernel_rfl) rfl)
  hseq belowK_t (belowK_b (by omega)) eB (fun _=>rfl)
  (fun pre W=>(∃v,Boxed W w.heap.size 57 v/\W.ownsRow w.heap.size 3 1 v pre.length (pre.flatMap (aI 1 (one encI)))/\True)/\Below w.heap.size w W)
  (fun _ _ _=>False)
  (OwnFrom.and (Go.Own.from (holdsRow_own w.heap.size w.heap.size _ _ 1 (fun pre:List Int=>pre.length) (fun pre:List Int=>pre.flatMap (aI 1 (one encI))) (fun _ _=>True)) _) (ownFrom_below (Nat.le_refl _) (by omega)))
  (fun _ _ _ _ _ hs _ _=>hs)
  ⟨⟨_,bO,World.ownsRow_nil _ _ _ _,trivial⟩,eB⟩
  (fun x=>{ tmps:=#[.slice none 0 0,.func (.func 226) #[] #[.pointer (some ⟨B,0,none⟩)],.pointer (some ⟨w.heap.size,0,none⟩),undef,.slice none 0 0,.int .i64 x,.func (.func 226) #[] #[.pointer (some ⟨B,0,none⟩)],.int .i64 x,undef,undef,undef,undef,undef],defers:=[] }) ?assign ?body ?done ?stop
 case assign=>
  intro l x W K hK
  gi_wp2
  exact hK
 case body=>
  rintro l pre x W ⟨⟨v,hO,hrow,-⟩,hB⟩ hlt;obtain⟨i0,hi,hz0,hz1,hz2⟩:=info_parts aaD;have cO:=hO.cell;have fO:=hO.frozen;have HO:=aa hO;have HR:=aa hrow;have HB:=aa hB;have hWs:=hB.size;clear hO hrow hB bO eB
  gi_wp2_with (gi_at_builtin;refine halt ?_)
  refine Halt.go ?_;refine wpListIn_append_own _ rfl _ _ 57 rfl w.heap.size 3 i0 (.int .i64 0) 1 8 Tryz.underlying57 hi hz0 hz1 hz2 rfl (by decide) _ _ _ rfl (World.ownsRow.alloc HR.out _) ⟨_,0,none⟩ 1 1 [.int .i64 x] rfl rfl (Sg _ _ _ _ rfl) (by simp[Value.oneCell']) (by simp only[maxLen];omega) (by omega) (by simp;omega) ?_;intro v' w9 hown' hgrow _;obtain⟨g',cap',rfl⟩:=ownsRow_succ hown';have AP:=aa (Boxed.appended HO.out (by decide) HR.out (by omega) (by omega) hown' hgrow);have hc1:=AP.out.1.cell;have hf1:=AP.out.1.frozen
  gi_wp2
  have hrw:=AP.out.2.2.1;refine⟨AP.out.2.2.2.1.from _,AP.out.2.2.2.2.mono hn₀,⟨_,AP.out.2.1,?_,trivial⟩,HB.out.trans AP.out.2.2.2.2⟩;simp only[List.length_append,List.length_singleton,List.flatMap_append]
  simpa[aI,one,encI] using hrw
 case done=>
  rintro D ys W hD rfl ⟨⟨v,hO,hrow,-⟩,hB⟩ hK;have hr:Row 3 1 (one encI) w.heap.size W v ys:=hrow;have HR:=aa hr;have HB:=aa hB;have cO:=hO.cell;clear hr hrow hO hB bO eB
  gi_wp2
  refine⟨by simp,.inl ⟨_,_,rfl,run_takeDeferred hK,?_⟩⟩;exact⟨_,results_tmp rfl _ _ _,v,rfl,ownsRow_putObj HR.out _ hK rfl,Below.trans HB.out (belowK_b (w:=w) (Nat.le_refl _) _ D _ _ (by omega) hK rfl rfl)⟩
 case stop=>
  rintro D c_ pre W _ _ h _;exact h.elim
theorem MM(B n₀:Nat)(xs:List Int)(w:World)(hn₀:n₀<=w.heap.size)(hlen:xs.length<=1000)(hseq:Gs n₀ B xs w) :
 Calls Tryz.prog 224 #[.func (.func 226) #[] #[.pointer (some ⟨B,0,none⟩)]] w fun e w'=>∃v,e=.returned v/\Row 3 1 (one encI) w.heap.size w' v xs/\Ext w w':=by
 go_enter Tryz.func224,Tryz.ntmps224;go_wp2_with fail
 refine(IB B n₀ xs _ hn₀ hlen hseq).mono ?_
 rintro e w1 ⟨v,rfl,hr,b1⟩;go_wp2;go_returns;exact⟨_,rfl,hr,b1⟩
theorem EU(B n₀:Nat)(xs:List Int)(w:World)(hn₀:n₀<=w.heap.size)(hlen:xs.length<=7)(hseq:Gs n₀ B xs w) :
 Calls Tryz.prog 193 #[.func (.func 226) #[] #[.pointer (some ⟨B,0,none⟩)]] w fun e w'=>∃v ys,e=.returned v/\ys.Perm xs/\ys.Pairwise (·<=·)/\rM encI w' v ys/\Ext w w':=by
 go_enter Tryz.func193,Tryz.ntmps193;go_wp2_with fail
 refine(MM B n₀ xs _ hn₀ (by omega) hseq).mono ?_
 rintro e w1 ⟨v,rfl,hr,b1⟩;have HR:=aa hr;have HB:=aa b1;obtain⟨A,c,rfl,-⟩:=hr.cell.1;clear hr b1;go_wp2_with fail
 refine(SI _ HR.out.cell.1.YB HR.out.cell.2 hlen).mono ?_
 rintro e w2 ⟨rfl,ys,hp,hs,hy,ho⟩;have HP:=aa (And.intro hp hs);have HY:=aa hy;have HO:=aa ho;clear hp hs hy ho;go_wp2;go_returns;exact⟨_,ys,rfl,HP.out.1,HP.out.2,HY.out,Ext.only HB.out HO.out HR.out.cell.2 (Nat.le_refl _)⟩
end
theorem Lt{xs ys:List Int}(hl:xs.length=ys.length)(h:∀(i:Nat) (x y:Int),xs[i]? =some x->ys[i]? =some y->x=y):xs=ys:=by
 apply List.ext_getElem?;intro i;by_cases hi:i<xs.length
 ·have h2:i<ys.length:=by omega
  rw[List.getElem?_eq_getElem hi,List.getElem?_eq_getElem h2];exact congrArg some (h i _ _ (List.getElem?_eq_getElem hi) (List.getElem?_eq_getElem h2))
 ·rw[List.getElem?_eq_none (by omega),List.getElem?_eq_none (by omega)]
theorem Il{v v':Value}{xs ys:List Int}(w:World)(h:rM encI w v xs)(h':rM encI w v' ys)(hlen:xs.length<=2097152) :
 Calls Tryz.prog 195 #[v,v'] w fun e w'=>e=.returned (.bool (decide (xs=ys)))/\Ext w w':=by
 obtain⟨A,c,rfl,h⟩:=h;obtain⟨A',c',rfl,h'⟩:=h';by_cases hl:xs.length=ys.length;case neg=>
  have hd:Hid (decide (xs=ys)=false):=by show _ = _;exact decide_eq_false fun e=>hl (by rw[e])
  have hq:((xs.length:Int)==(ys.length:Int))=false:=by rw[beq_eq_false_iff_ne];omega
  clear h h' hl;go_enter Tryz.func195,Tryz.ntmps195;go_wp2;go_returns;exact⟨aN hd.out.symm,Ext.refl _⟩
 have HL:=aa hl;rw[<-hl]at h';rw[<-hl];clear hl;go_enter Tryz.func195,Tryz.ntmps195;go_wp2;go_loopw [13] (fun i wr=>Ext w wr/\∃k:Nat,k<=xs.length/\i=.int .i64 k/\Hid (∀(i:Nat) (x y:Int),i<k->xs[i]? =some x->ys[i]? =some y->x=y)) (fun i _=>xs.length-(intOf i).toNat)
 case atStart=>exact⟨Ext.refl _,0,Nat.zero_le _,rfl,fun _ _ _ h=>absurd h (Nat.not_lt_zero _)⟩
 case round=>
  obtain⟨hb,k,hk,rfl,HI⟩:=hrel;by_cases hlt:k<xs.length
  ·obtain⟨b,off,rfl,hbl,hc⟩:=h (by omega);obtain⟨b',off',rfl,pg,hc'⟩:=h' (by omega);obtain⟨x,hx⟩:=af hlt;obtain⟨y,hy⟩:=af (show k<ys.length by have:=HL.out;omega);have c0:∀e,(over wr e).cell? ⟨b,off+k,none⟩=some (.int .i64 x):=aG (hb.cell (hc k x hx));have d0:∀e,(over wr e).cell? ⟨b',off'+k,none⟩=some (.int .i64 y):=aG (hb.cell (hc' k y hy));have HX:=aa (And.intro hx hy);clear hx hy h h' hc hc';by_cases hxy:x=y
   ·have hN:Hid (∀(i:Nat) (x y:Int),i<k+1->xs[i]? =some x->ys[i]? =some y->x=y):=fun i x1 y1 hi h1 h2=>by
     by_cases e:i=k
     ·subst e;rw[HX.out.1]at h1;rw[HX.out.2]at h2;cases h1;cases h2;exact hxy
     ·exact HI.out i x1 y1 (by omega) h1 h2
    have hne:(x != y)=false:=by rw[hxy];simp
    clear hxy;go_wp2;refine aO (by kernel_rfl) (by kernel_rfl) ?_;repeat (go_big_quiet_step ((fail)))
    refine wpQuiet_nil ?_;intro w1 hb1;go_wp2;go_roundw;case rel=>exact⟨hb.trans hb1,k+1,by omega,by go_num,hN⟩
    case measure=>simp[intOf];omega
   ·have hd:Hid (decide (xs=ys)=false):=by
     show _ = _;refine decide_eq_false fun e=>hxy ?_;have h1:=HX.out.1;rw[e,HX.out.2]at h1
     exact(Option.some.inj h1).symm
    have hne:(x != y)=true:=by simpa using hxy
    clear hxy;go_wp2;refine aO (by kernel_rfl) (by kernel_rfl) ?_;repeat (go_big_quiet_step ((fail)))
    refine wpQuiet_nil ?_;intro w1 hb1;go_wp2;go_returns;exact⟨aN hd.out.symm,hb.trans hb1⟩
  ·obtain rfl:k=xs.length:=by omega
   have hd:Hid (decide (xs=ys)=true):=by show _ = _;exact decide_eq_true (Lt HL.out fun i x y hx hy=>HI.out i x y (List.getElem?_eq_some_iff.1 hx).1 hx hy)
   go_wp2;go_returns;exact⟨aN hd.out.symm,hb⟩
theorem JC{A:Option Addr}{c:Nat}{xs:List Int}(w:World)(h:I1 w (.slice A xs.length c) xs)(hlen:xs.length<=2097152):Gs w.heap.size w.heap.size xs (w.alloc (.cells #[.slice A xs.length c] 57)):=by
 have acW:Boxed (w.alloc (.cells #[.slice A xs.length c] 57)) w.heap.size 57 (.slice A xs.length c):=Boxed.new _ _ _;have hE:Ext w (w.alloc (.cells #[.slice A xs.length c] 57)):=(Ext.refl _).alloc _;rcases Nat.eq_zero_or_pos xs.length with h0|h0
 ·obtain rfl:xs=[]:=List.eq_nil_of_length_eq_zero h0;exact values_stops w.heap.size w.heap.size c A [] _ (by simp) (by simp) acW.cell 0 0 (fun h=>by simp at h) (fun h=>by simp at h) hE.size (fun i x hx=>by simp at hx)
 ·obtain⟨b,off,rfl,hb,hc⟩:=mo.cells h h0;exact values_stops w.heap.size w.heap.size c _ xs _ (by simp) hlen acW.cell b off (fun _=>rfl) (fun _=>hb) hE.size (fun i x hx=>hE.cell (hc i x hx))
theorem OI{xs ys a b:List Int}(h:xs.Perm ys)(ha:a.Perm xs)(hb:b.Perm ys)(sa:a.Pairwise (·<=·))(sb:b.Pairwise (·<=·)):a=b:=
 List.Perm.eq_of_pairwise (le:=fun x y=>x<=y) (fun x y _ _ h1 h2=>by omega) sa sb ((ha.trans h).trans hb.symm)
def jQ(h:List aA)(os:List (List Int)):Prop:=os.length=3/\∀(k:Nat) o,os[k]? =some o->o.Perm (aP h (k:Int))
theorem yZ{h:List aA}{os:List (List Int)}(hm:os∈eZ h):jQ h os:=by
 unfold eZ at hm;split at hm;case isFalse=>cases hm
 refine⟨lM hm,?_⟩;have key:∀{k:Nat} {x:List (List Int)},x∈bG h k->∀(j:Nat) o,x[j]? =some o->o.Perm (aP h (j:Int)):=by
  intro k
  induction k with
  | zero=>intro x hx j o ho;simp[bG]at hx;subst hx;simp at ho
  | succ k ih=>
    intro x hx j o ho;have hx':=hx;simp only[bG,List.mem_flatMap,List.mem_map]at hx';obtain⟨b,hb,p,hp,rfl⟩:=hx';have hbl:=lM hb;rcases Nat.lt_or_ge j k with h1|h1
    ·rw[List.getElem?_append_left (by omega)]at ho;exact ih hb j o ho
    ·have:j=k:=by
      have:=(List.getElem?_eq_some_iff.1 ho).1
      simp at this;omega
     subst this;rw[List.getElem?_append_right (by omega),hbl]at ho;simp at ho;subst ho;exact nW hp
 exact key hm
theorem rP{v u:Value}{h:List aA}{os:List (List Int)}(w:World)(H:gL w v h)(hok:aC h=true)(hu:I2 w u os)(ho:jQ h os) :
 Calls Tryz.prog 165 #[v,u] w fun e w'=>e=.returned (.bool true)/\Ext w w':=by
 obtain⟨A,c,rfl⟩:=H.slice;obtain⟨Au,cu,rfl,_⟩:=Ls.slice hu;have HH:=aa H;have HU:=aa hu;have dO:=aa hok;have hlen:=aM hok;have hol:os.length=3:=ho.1;have HO:=aa ho.2;have h4:=fun(order:List Int) (k:Nat) (hk:os[k]? =some order)=>(show order.length<=6 by rw[(HO.out k order hk).length_eq];have:=gJ h (k:Int);omega);have HL:=aa h4;clear H hok hu ho h4;rw[hol]at HU ⊢;go_enter Tryz.func165,Tryz.ntmps165;go_wp2_with fail
 refine(bN _ HH.out (by omega) (aD dO.out)).mono ?_
 rw[dO.out];rintro e w1 ⟨rfl,b1⟩;have HB1:=aa b1;clear b1;go_wp2;go_loopw [19] (fun i wr=>Ext w wr/\∃k:Nat,k<=3/\i=.int .i64 k) (fun i _=>3-(intOf i).toNat)
 case atStart=>exact⟨HB1.out,0,by omega,rfl⟩
 case round=>
  obtain⟨hb,k,hk,rfl⟩:=hrel;by_cases hlt:k<3
  ·obtain⟨order,hor⟩:=af (show k<os.length by omega);obtain⟨b,off,rfl,_,hc⟩:=Ls.cells HU.out (by omega);obtain⟨uo,Mx,hP⟩:=hc k order hor;replace Mx:=hb.cell Mx;have h6:=HL.out order k hor;have hP':=mo.ext hP hb;obtain⟨Ao,co,rfl,_⟩:=mo.slice hP';have HP:=aa hP';have HPM:=aa (HO.out k order hor);clear hc hP hP' hor;have hlt3:(k:Int)<3:=by omega
   go_wp2_with fail
   refine(FU _ _ _ _).mono ?_
   rintro e w2 ⟨rfl,rfl⟩;have E2:=aa ((Ext.refl wr).alloc (.cells #[.slice Ao order.length co] 57));go_wp2_with fail
   refine(EU wr.heap.size wr.heap.size order _ E2.out.size (by omega) (JC wr HP.out (by omega))).mono ?_
   rintro e w3 ⟨v3,ya,rfl,hp,hs,hy,b3⟩;have HYA:=aa (And.intro hp (And.intro hs hy));have E3:=aa (hb.trans (E2.out.trans b3));clear hp hs hy b3;obtain⟨A3,c3,rfl,_⟩:=HYA.out.2.2;go_wp2_with fail
   refine(vo (k:Int) _ (HH.out.ext E3.out) dO.out (bL.2 (by omega))).mono ?_
   rintro e w4 ⟨v4,rfl,r4,b4⟩;have hs4:=mo.dm r4;obtain⟨A4,c4,rfl,_⟩:=hs4.slice;have Ay:=aa hs4;have h64:=gJ h (k:Int);have B4:=aa b4;clear r4 hs4 b4;go_wp2_with fail
   refine(FU _ _ _ _).mono ?_
   rintro e w5 ⟨rfl,rfl⟩;have E5:=aa ((Ext.refl w4).alloc (.cells #[.slice A4 (aP h (k:Int)).length c4] 57));go_wp2_with fail
   refine(EU w4.heap.size w4.heap.size (aP h (k:Int)) _ E5.out.size (by omega) (JC w4 Ay.out (by omega))).mono ?_
   rintro e w6 ⟨v6,yb,rfl,hp,hs,hy,b6⟩;have hab:=OI HPM.out HYA.out.1 hp HYA.out.2.1 hs;have B6:=aa (B4.out.trans (E5.out.trans b6));have HYB:=aa hy;have HAB:=aa (decide_eq_true hab);have hyl:ya.length<=6:=by rw[HYA.out.1.length_eq];omega
   obtain⟨A6,c6,rfl,_⟩:=HYB.out;clear hp hs hy b6 hab;go_wp2_with fail
   refine(Il _ (HYA.out.2.2.ext B6.out) HYB.out (by omega)).mono ?_
   rw[HAB.out];rintro e w7 ⟨rfl,b7⟩;have E7:=aa (E3.out.trans (B6.out.trans b7));go_wp2;go_roundw;case rel=>exact⟨E7.out,k+1,by omega,by go_num⟩
   case measure=>simp[intOf];omega
  ·obtain rfl:k=3:=by omega
   go_wp2;go_returns;exact⟨rfl,hb⟩
def xm(x y:Int):Int:=if x<y then -1 else if y<x then 1 else 0
theorem Ki(x y:Int)(w:World):Calls Tryz.prog 257 #[.int .i64 x,.int .i64 y] w fun e w'=>e=.returned (.int .i64 (xm x y))/\w=w':=by
 rcases Int.lt_trichotomy x y with h|h|h
 ·have h1:xm x y=-1:=if_pos h;have h2:decide (x<y)=true:=decide_eq_true h;rw[h1];clear h1;go_enter Tryz.func257,Tryz.ntmps257;go_wp2_with (first|(go_at_call 289;refine(wS _ _).mono ?_;rintro e w' ⟨rfl,rfl⟩))
  go_returns;exact⟨rfl,rfl⟩
 ·subst h;have h1:xm x x=0:=by simp[xm]
  have h2:decide (x<x)=false:=by simp
  rw[h1];clear h1;go_enter Tryz.func257,Tryz.ntmps257;go_wp2_with (first|(go_at_call 289;refine(wS _ _).mono ?_;rintro e w' ⟨rfl,rfl⟩))
  go_returns;exact⟨rfl,rfl⟩
 ·have h1:xm x y=1:=by rw[xm,if_neg (by omega),if_pos h]
  have h2:decide (x<y)=false:=decide_eq_false (by omega);have h3:decide (y<x)=true:=decide_eq_true h;have h4:¬x<y:=by omega
  rw[h1];clear h1;go_enter Tryz.func257,Tryz.ntmps257;go_wp2_with (first|(go_at_call 289;refine(wS _ _).mono ?_;rintro e w' ⟨rfl,rfl⟩))
  go_returns;exact⟨rfl,rfl⟩
def Xv(xs:List Int):Int:=(xs.find? (· != 0)).getD 0
theorem Vk{xs:List Int}{k:Nat}(h:∀(i:Nat) x,i<k->xs[i]? =some x->x=0)(hk:xs.length<=k):Xv xs=0:=by
 unfold Xv;rw[List.find?_eq_none.2]
 ·rfl
 ·intro x hx;obtain⟨i,hi,rfl⟩:=List.getElem_of_mem hx
  have:=h i xs[i] (by omega) (List.getElem?_eq_getElem hi)
  simp[this]
theorem Rf:∀{xs:List Int} {k:Nat} {x:Int},xs[k]? =some x->x≠0->(∀(i:Nat) y,i<k->xs[i]? =some y->y=0)->Xv xs=x
 | [],k,x,h,_,_=>by simp at h
 | a :: xs,0,x,h,hx,_=>by simp at h;subst h;simp[Xv,hx]
 | a :: xs,k+1,x,h,hx,h0=>by
   have ha:a=0:=h0 0 a (by omega) rfl
   have:=Rf (xs:=xs) (k:=k) (by simpa using h) hx (fun i y hi hy=>h0 (i+1) y (by omega) (by simpa using hy))
   unfold Xv at this ⊢;rw[List.find?_cons,ha];exact this
theorem TP{v:Value}{xs:List Int}(w:World)(h:rM encI w v xs)(hlen:xs.length<=1000):Calls Tryz.prog 256 #[v] w fun e w'=>e=.returned (.int .i64 (Xv xs))/\w=w':=by
 obtain⟨A,c,rfl,hc⟩:=h;have HC:=aa hc;clear hc;go_enter Tryz.func256,Tryz.ntmps256;go_wp2;go_loopw [8] (fun i wr=>w=wr/\∃k:Nat,k<=xs.length/\i=.int .i64 k/\Hid (∀(i:Nat) x,i<k->xs[i]? =some x->x=0)) (fun i _=>xs.length-(intOf i).toNat)
 case atStart=>exact⟨rfl,0,Nat.zero_le _,rfl,fun _ _ h=>absurd h (Nat.not_lt_zero _)⟩
 case round=>
  obtain⟨rfl,k,hk,rfl,HI⟩:=hrel;by_cases hlt:k<xs.length
  ·obtain⟨b,off,rfl,hb,hc⟩:=HC.out (by omega);obtain⟨x,hx⟩:=af hlt;have c0:=hc k x hx;simp only[encI]at c0;by_cases h0:x=0
   ·have hz:(x==0)=true:=by simp[h0]
    have HN:Hid (∀(i:Nat) y,i<k+1->xs[i]? =some y->y=0):=fun i y hi hy=>by
     rcases Nat.lt_or_ge i k with h|h
     ·exact HI.out i y h hy
     ·obtain rfl:i=k:=by omega
      rw[hx]at hy;cases hy;exact h0
    clear hc hx HI;go_wp2;go_roundw;case rel=>exact⟨trivial,k+1,by omega,by go_num,HN.out⟩
    case measure=>simp[intOf];omega
   ·have hz:(x==0)=false:=by simp[h0]
    have HN:=aa (Rf hx h0 HI.out);clear hc hx HI;go_wp2;go_returns;exact⟨aX HN.out.symm,rfl⟩
  ·obtain rfl:k=xs.length:=by omega
   have HN:=aa (Vk HI.out (Nat.le_refl _));clear HI;go_wp2;go_returns;exact⟨aX HN.out.symm,rfl⟩
def cfE(x y:Edge):Int:=Xv [xm x.dV y.dV,xm x.to y.to,xm x.kind y.kind]
theorem DX(x y:Edge)(W:World):Calls Tryz.prog 228 #[.agg #[.int .i64 x.dV,.int .i64 x.to,.int .i64 x.kind],.agg #[.int .i64 y.dV,.int .i64 y.to,.int .i64 y.kind]] W fun e w'=>e=.returned (.int .i64 (cfE x y))/\∃q os',w'=Sort.grow (W.drewN q) os':=by
 have e1:Ext W (W.alloc (.cells #[.int .i64 x.dV,.int .i64 x.to,.int .i64 x.kind] 177)):=(Ext.refl _).alloc _;obtain⟨W2,hW2⟩:∃W2,(W.alloc (.cells #[.int .i64 x.dV,.int .i64 x.to,.int .i64 x.kind] 177)).alloc (.cells #[.int .i64 y.dV,.int .i64 y.to,.int .i64 y.kind] 177)=W2:=⟨_,rfl⟩;have hs1:(W.alloc (.cells #[.int .i64 x.dV,.int .i64 x.to,.int .i64 x.kind] 177)).heap.size=W.heap.size+1:=by simp
 have hs2:W2.heap.size=W.heap.size+2:=by rw[<-hW2];simp
 have c0:W2.cell? ⟨W.heap.size,0,none⟩=some (.int .i64 x.dV):=by rw[<-hW2];exact((Ext.refl _).alloc _).cell (av rfl)
 have c1:W2.cell? ⟨W.heap.size,1,none⟩=some (.int .i64 x.to):=by rw[<-hW2];exact((Ext.refl _).alloc _).cell (av rfl)
 have c2:W2.cell? ⟨W.heap.size,2,none⟩=some (.int .i64 x.kind):=by rw[<-hW2];exact((Ext.refl _).alloc _).cell (av rfl)
 have d0:W2.cell? ⟨W.heap.size+1,0,none⟩=some (.int .i64 y.dV):=by rw[<-hW2];exact fT hs1 rfl
 have d1:W2.cell? ⟨W.heap.size+1,1,none⟩=some (.int .i64 y.to):=by rw[<-hW2];exact fT hs1 rfl
 have d2:W2.cell? ⟨W.heap.size+1,2,none⟩=some (.int .i64 y.kind):=by rw[<-hW2];exact fT hs1 rfl
 have hgr:Hid (∀o,W2.drew.alloc o=Sort.grow (W.drewN 1) #[.cells #[.int .i64 x.dV,.int .i64 x.to,.int .i64 x.kind] 177,.cells #[.int .i64 y.dV,.int .i64 y.to,.int .i64 y.kind] 177,o]):=fun o=>by rw[<-hW2];simp only[Sort.alloc_eq_grow,Sort.grow_grow,Sort.drew_grow];rfl
 have HL:Hid (∀o1 o2 o3:Int,rM encI (W2.drew.alloc (.cells #[.int .i64 o1,.int .i64 o2,.int .i64 o3] 3)) (.slice (some ⟨W.heap.size+2,0,none⟩) 3 3) [o1,o2,o3]):=fun o1 o2 o3=>by have h:=(Row.lit (m:=1) (enc:=one encI) W2.drew #[.int .i64 o1,.int .i64 o2,.int .i64 o3] 3 [o1,o2,o3] (by simp[aI,one,encI]) (by simp)).cell.1.YB;have hd:W2.drew.heap.size=W.heap.size+2:=hs2;rw[hd]at h;exact h
 have HR:Hid (cfE x y=Xv [xm x.dV y.dV,xm x.to y.to,xm x.kind y.kind]):=rfl;go_enter Tryz.func228,Tryz.ntmps228;go_wp2;go_region_held3 (fun W'=>W'.cell? ⟨W.heap.size,0,none⟩=some (.int .i64 x.dV)/\W'.cell? ⟨W.heap.size,1,none⟩=some (.int .i64 x.to)/\W'.cell? ⟨W.heap.size,2,none⟩=some (.int .i64 x.kind)/\W'.cell? ⟨W.heap.size+1,0,none⟩=some (.int .i64 y.dV)/\W'.cell? ⟨W.heap.size+1,1,none⟩=some (.int .i64 y.to)/\W'.cell? ⟨W.heap.size+1,2,none⟩=some (.int .i64 y.kind)) (go_keep) ((first|(go_at_call 257;refine(Ki _ _ _).mono ?_;rintro e w' ⟨rfl,rfl⟩)|(go_at_call 256;refine(TP _ (HL.out _ _ _) (by simp)).mono ?_;rintro e w' ⟨rfl,rfl⟩)))
 go_wp2;go_returns;exact⟨aX HR.out.symm,1,_,hgr.out _⟩
def yL(x:Edge):List Value:=[.int .i64 x.dV,.int .i64 x.to,.int .i64 x.kind]
instance:Inhabited Edge:=⟨⟨0,0,0⟩⟩
theorem KD(x:Edge)(j:Nat)(hj:j<3):(yL x)[j]! =aR x j:=by
 match j,hj with
 | 0,_=>rfl
 | 1,_=>rfl
 | 2,_=>rfl
theorem SY{w:World}{b off n c lo:Nat}{es:List Edge}(h:aF 3 aR w (.slice (some ⟨b,off,none⟩) n c) es)(ho:Own lo w (.slice (some ⟨b,off,none⟩) n c)):Sort.HoldsK yL 3 w b off es.toArray:=by
 intro t ht;rw[Sort.size_flatK]at ht;obtain⟨A',c',e,hc⟩:=h;injection e with e1 e2 e3;subst e1 e2 e3;have hn:0<es.length:=by
  rcases Nat.eq_zero_or_pos es.length with h0|h0
  ·simp[h0]at ht
  ·exact h0
 obtain⟨b',off',e,_,hc⟩:=hc hn;injection e with e;injection e with e1 e2;subst e1 e2;have hi:t/3<es.length:=by simp at ht;omega
 have:=hc (t/3) es[t/3] (List.getElem?_eq_getElem hi) (t%3) (by omega)
 refine⟨?_,(ho _ _ _ rfl hn).2.2 _⟩;rw[Sort.get_flatK _ _ _ _ ht];have e1:(es.toArray)[t/3]! =es[t/3]:=by simp[hi]
 rw[e1,KD _ _ (by omega),show off+t=off+t/3*3+t%3 by omega];exact this
theorem Qx{w:World}{b off c:Nat}{d:Array Edge}(h:Sort.HoldsK yL 3 w b off d)(hb:b<w.heap.size):aF 3 aR w (.slice (some ⟨b,off,none⟩) d.size c) d.toList:=by
 refine⟨_,c,by simp,fun _=>⟨b,off,rfl,hb,fun i x hx j hj=>?_⟩⟩;have hi:i<d.size:=by have:=(List.getElem?_eq_some_iff.1 hx).1;simpa using this
 have:=(Sort.HoldsK.cell h hi hj).1
 have e1:d[i]! =x:=by
  have:=(List.getElem?_eq_some_iff.1 hx).2
  simp at this;rw[getElem!_pos d i hi,this]
 rw[this,e1,KD _ _ hj]
theorem vU{w:World}{b off n c m:Nat}{d:Array Edge}{os:Array Obj}(hn:0<n):Only (.slice (some ⟨b,off,none⟩) n c) w (sortWorldK yL 3 w b off m d os):=by
 unfold sortWorldK Sort.grow Sort.putRowK Sort.putRow Sort.mapBlock Sort.ahead;refine⟨rfl,rfl,rfl,by simp,fun k hk hv=>?_,fun p hp=>?_⟩
 ·have hne:=hv _ _ _ rfl hn;simp only at hne;simp only;rw[Array.getElem?_append_left (by simpa using hk),Array.getElem?_modify,if_neg hne]
 ·simp only[World.frozen?];rw[Array.getElem?_append_left (by simpa using hp),Array.getElem?_modify];by_cases e:b=p.block
  ·rw[if_pos e]
   cases w.heap[p.block]? with
   | none=>rfl
   | some o=>cases o<;>rfl
  ·rw[if_neg e]
theorem ae2(a b c:Int):Xv [a,b,c]=if a≠0 then a else if b≠0 then b else c:=by unfold Xv;by_cases ha:a=0<;>by_cases hb:b=0<;>by_cases hc:c=0<;>simp[ha,hb,hc]
theorem Lg(x y:Int):xm x y<0↔x<y:=by unfold xm;split<;>(try split)<;>omega
theorem JG(x y:Int):xm x y=0↔x=y:=by unfold xm;split<;>(try split)<;>omega
theorem QL(x y:Edge):(cfE x y<0)↔(x.dV<y.dV∨(x.dV=y.dV/\(x.to<y.to∨(x.to=y.to/\x.kind<y.kind)))):=by
 unfold cfE;rw[ae2];have h1:=Lg x.dV y.dV;have h2:=JG x.dV y.dV;have h3:=Lg x.to y.to;have h4:=JG x.to y.to;have h5:=Lg x.kind y.kind;split
 ·rename_i h;rw[h1];have:=mt h2.2 h;omega
 ·rename_i h;have h':=h2.1 (by omega);split
  ·rename_i h6;rw[h3];have:=mt h4.2 h6;omega
  ·rename_i h6;have h'':=h4.1 (by omega);rw[h5];omega
open Go.Sort in
theorem aew:SWO (ltOf cfE) where
 irrefl x:=by unfold ltOf;rw[decide_eq_false_iff_not,QL];omega
 trans x y z h1 h2:=by unfold ltOf at *;rw[decide_eq_true_iff,QL]at *;omega
 ntrans x y z h1 h2:=by unfold ltOf at *;rw[decide_eq_false_iff_not,QL]at *;omega
theorem aap(w:World):(isAgg 177).run Tryz.prog w=.ok true w:=by first|exact Yr (by kernel_rfl)|kernel_rfl|rfl
theorem abL(w:World):(Go.sizeOf 177).run Tryz.prog w=.ok 3 w:=by first|kernel_rfl|rfl
theorem G6(args:Array Value)(W:World):(callFunc 228 args).run Tryz.prog W=.ok (.enter 228 args) W:=by kernel_rfl
open Go.Shelf Go.Lib Go.Sort in
theorem BQ{b off n c lo:Nat}{es:List Edge}(w:World)(h:aF 3 aR w (.slice (some ⟨b,off,none⟩) n c) es)(ho:Own lo w (.slice (some ⟨b,off,none⟩) n c))(hb:b<w.heap.size)(hn:0<n)(hlen:es.length<=2097152) :
 Calls Tryz.prog 227 #[.slice (some ⟨b,off,none⟩) n c,.func (.func 228) #[] #[]] w fun e w'=>e=.returned (.tuple #[])/\∃es',es'.Perm es/\aF 3 aR w' (.slice (some ⟨b,off,none⟩) n c) es'/\Only (.slice (some ⟨b,off,none⟩) n c) w w':=by
 obtain rfl:n=es.length:=by obtain⟨A',c',e,_⟩:=id h;injection e
 have hH:=SY h ho;have hcmp:CmpLays Tryz.prog 228 #[] yL 3 cfE b off es.toArray.size w:=fun m os dk _ x y=>DX x y _;have hcon:=AnyQ.slices_SortFunc Tryz.Mq 3 aap abL yL (fun _=>rfl) (fun x v hv=>by simp[yL]at hv;rcases hv with rfl|rfl|rfl<;>rfl) cfE aew 228 #[] b off c es.toArray w G6 hcmp hH hb (by simp;omega)
 change Calls Tryz.prog 227 _ _ _ at hcon;refine hcon.mono ?_;rintro e w' ⟨rfl,d',m,os,hp,_,rfl⟩;have hsz:d'.size=es.length:=by have:=hp.1;simpa using this
 refine⟨rfl,d'.toList,?_,?_,vU hn⟩
 ·have:=hp.2.2
  simp only[List.size_toArray]at this;rw[show d'.extract 0 es.length=d' by rw[<-hsz];simp,show es.toArray.extract 0 es.length=es.toArray by simp]at this;simpa using this
 ·have h2:=holdsK_sortWorldK_c yL 3 w b off es.toArray d' m os hH hb (by simpa using hsz);rw[<-hsz];exact Qx h2 (Nat.lt_of_lt_of_le hb (vU (n:=es.length) (c:=c) hn).size)
theorem Bl(s:Int)(d:Bool){ov:Value}{ops:List aQ}(w:World)(h:aF 3 aj w ov ops)(hlen:ops.length<=2097152) :
 Calls Tryz.prog 199 #[.agg #[.int .i64 s,ov,.bool d]] w fun e w'=>∃A,e=.returned (.slice A (kS ops).length (kS ops).length)/\aF 3 aj w' (.slice A (kS ops).length (kS ops).length) (kS ops)/\iY 71 w' (.slice A (kS ops).length (kS ops).length)/\Ext w w':=by
 obtain⟨A0,c0,rfl,_⟩:=id h;have HS:=aa h;have hmk:=@run_makeMap Tryz.prog;have adK:∀W:World,(Instr.makeSlice 46 (.int .i64 0) (.int .i64 3)).run Tryz.prog W=.ok (.slice (some ⟨W.heap.size,0,none⟩) 0 3) (W.alloc (.cells (madeCells (Value.agg #[Value.int .i64 0,Value.int .i64 0,Value.int .i64 0]).cells (3*3)) 71)):=gY (P:=Tryz.prog) 46 71 Tryz.underlying46 kG 3 (by omega) (by omega);clear h;go_enter Tryz.func199,Tryz.ntmps199;go_wp2;clear hmk adK;go_loopw [3,12] (fun o i wr=>Ext w wr/\∃k:Nat,k<=ops.length/\i=.int .i64 k/\Hid (j4 wr (w.heap.size+2) (Value.int .i64) (Cc (fun _=>.bool true) (ops.take k))/\Row 71 3 aj w.heap.size wr o (zF ops k))) (fun _ i _=>ops.length-(intOf i).toNat)
 case atStart=>
  refine⟨(((Ext.refl _).alloc _).alloc _).alloc _,0,Nat.zero_le _,rfl,?_,?_⟩
  ·have hG:=j4.made ((w.alloc (.cells #[.int .i64 s,.slice A0 ops.length c0,.bool d] 48)).alloc (.cells (madeCells (Value.agg #[Value.int .i64 0,Value.int .i64 0,Value.int .i64 0]).cells (3*3)) 71)) (Value.int .i64);rw[show ((w.alloc (.cells #[.int .i64 s,.slice A0 ops.length c0,.bool d] 48)).alloc (.cells (madeCells (Value.agg #[Value.int .i64 0,Value.int .i64 0,Value.int .i64 0]).cells (3*3)) 71)).heap.size=w.heap.size+2 by simp]at hG;exact hG
  ·have hR:=jN (E:=71) (m:=3) (enc:=aj) (w:=w.alloc (.cells #[.int .i64 s,.slice A0 ops.length c0,.bool d] 48)) (madeCells (Value.agg #[Value.int .i64 0,Value.int .i64 0,Value.int .i64 0]).cells (3*3)) 3 (by unfold maxLen;omega) (size_madeCells _ _);rw[show (w.alloc (.cells #[.int .i64 s,.slice A0 ops.length c0,.bool d] 48)).heap.size=w.heap.size+1 by simp]at hR
   exact(hR.low (by omega)).ext ((Ext.refl _).alloc _)
 case round=>
  obtain⟨hb,k,hk,rfl,HI⟩:=hrel;have hfl:=zu ops k;have hbw:w.heap.size<=wr.heap.size:=hb.size;by_cases hlt:k<ops.length
  ·obtain⟨A2,c2,hA2,hcc⟩:=HS.out.ext hb;injection hA2 with e1 e2 e3;subst e1 e3;obtain⟨b,off,rfl,hbl,hcc⟩:=hcc (by omega);obtain⟨o,ho⟩:=af hlt;have d0:wr.cell? ⟨b,off+k*3,none⟩=some (.int .i64 o.kind):=hcc k o ho 0 (by omega);have d1:wr.cell? ⟨b,off+k*3+1,none⟩=some (.int .i64 o.key):=hcc k o ho 1 (by omega);have d2:wr.cell? ⟨b,off+k*3+2,none⟩=some (.int .i64 o.value):=hcc k o ho 2 (by omega);have Ho:=aa ho;have hg1:w.heap.size<=w.heap.size+2:=by omega
   have hE:Hid (Ext wr ((wr.alloc (.cells #[.int .i64 o.kind,.int .i64 o.key,.int .i64 o.value] 71)).alloc (.cells #[.int .i64 o.kind,.int .i64 o.key,.int .i64 o.value] 71))):=((Ext.refl _).alloc _).alloc _;have hl1:=Ac Tryz.underlying232 (kY Tryz.underlying3) Jz (HI.out.1.ext hE.out) o.key;have hfa:Hid (∀r,before (ops.take k) o.key=r->IC ops k=(mM o&&r.isNone)):=fun r hr=>by subst hr;simp only[IC,ho]
   have hnx:=aa (Je ho);clear hcc ho e2
   cases hbf:before (ops.take k) o.key with
   | none=>
     have hX:Cc (fun _=>Value.bool true) (ops.take k) o.key=none:=by unfold Cc;rw[hbf];rfl
     rw[hX]at hl1;have BD:=aa (hfa.out _ hbf)
     cases hr:(o.kind==1) with
     | true=>
       have hR0:=HI.out.2.ext hE.out;obtain⟨v',w2,hrun,hP⟩:=uR (w:=((wr.alloc (.cells #[.int .i64 o.kind,.int .i64 o.key,.int .i64 o.value] 71)).alloc (.cells #[.int .i64 o.kind,.int .i64 o.key,.int .i64 o.value] 71))) (wr.heap.size+1+1) (by simp) hR0 (Ext.refl _) o (Nat.le_trans hbw hE.out.size) (by omega);have HE2:=aa (hP.2.1 w (hb.trans hE.out) (Nat.le_refl _));have hM2:=(HI.out.1.ext hE.out).pushed hR0 hP;obtain⟨ob,hu,hG,-⟩:=fG Tryz.underlying232 (kY Tryz.underlying3) hM2 o.key (.bool true);have HG:=aa hG;have aU:=aa hrun;have hnew:=HI.out.2.new (Nat.le_refl wr.heap.size);have k0:w2.cell? ⟨wr.heap.size,0,none⟩=some (.int .i64 o.kind):=hP.cell hnew (((Ext.refl _).alloc _).cell (av rfl));have k1:w2.cell? ⟨wr.heap.size,1,none⟩=some (.int .i64 o.key):=hP.cell hnew (((Ext.refl _).alloc _).cell (av rfl));have k2:w2.cell? ⟨wr.heap.size,2,none⟩=some (.int .i64 o.value):=hP.cell hnew (((Ext.refl _).alloc _).cell (av rfl));have HR2:Hid (Row 71 3 aj w.heap.size (aS w2 (w.heap.size+2) ob) v' (zF ops k++[o])):=hP.1.aS hM2 ob;clear hX hbf hrun hP hG hM2 hnew hR0
       go_wp2_with (first
        | (go_at_call 115;refine(fJ _ _ _ _).mono ?_;rw[hr];rintro e w' ⟨rfl,rfl⟩)
        | (at_builtin;refine wpList_append_run rfl rfl rfl rfl aU.out ?_))
       go_roundw;case rel=>exact⟨HE2.out.aS hg1 _,k+1,by omega,by go_num,by
        rw[ah Ho.out];exact⟨HG.out.congr (nJ _ _ _),by rw[hnx.out,BD.out];simpa[mM,hr] using HR2.out⟩⟩
       case measure=>simp[intOf];omega
     | false=>
       obtain⟨ob,hu,hG,-⟩:=fG Tryz.underlying232 (kY Tryz.underlying3) (HI.out.1.ext hE.out) o.key (.bool true);have HG:=aa hG;have HR2:Hid (Row 71 3 aj w.heap.size (aS _ (w.heap.size+2) ob) u3 (zF ops k)):=(HI.out.2.ext hE.out).aS (HI.out.1.ext hE.out) ob;clear hX hbf hG;go_wp2_with (go_at_call 115;refine(fJ _ _ _ _).mono ?_;rw[hr];rintro e w' ⟨rfl,rfl⟩)
       go_roundw;case rel=>exact⟨(hb.trans hE.out).aS hg1 _,k+1,by omega,by go_num,by
        rw[ah Ho.out];exact⟨HG.out.congr (nJ _ _ _),by rw[hnx.out,BD.out];simpa[mM,hr] using HR2.out⟩⟩
       case measure=>simp[intOf];omega
   | some vb=>
     have hX:Cc (fun _=>Value.bool true) (ops.take k) o.key=some (.bool true):=by unfold Cc;rw[hbf];rfl
     rw[hX]at hl1;have BD:=aa (hfa.out _ hbf);obtain⟨ob,hu,hG,-⟩:=fG Tryz.underlying232 (kY Tryz.underlying3) (HI.out.1.ext hE.out) o.key (.bool true);have HG:=aa hG;have HR2:Hid (Row 71 3 aj w.heap.size (aS _ (w.heap.size+2) ob) u3 (zF ops k)):=(HI.out.2.ext hE.out).aS (HI.out.1.ext hE.out) ob;clear hX hbf hG;cases hr:(o.kind==1)<;>(
      go_wp2_with (go_at_call 115;refine(fJ _ _ _ _).mono ?_;rw[hr];rintro e w' ⟨rfl,rfl⟩)
      go_roundw;case rel=>exact⟨(hb.trans hE.out).aS hg1 _,k+1,by omega,by go_num,by
       rw[ah Ho.out];exact⟨HG.out.congr (nJ _ _ _),by rw[hnx.out,BD.out];simpa[mM,hr] using HR2.out⟩⟩
      case measure=>simp[intOf];omega)
  ·obtain rfl:k=ops.length:=by omega
   obtain⟨A',c',rfl,_⟩:=id HI.out.2.cell.1;have hcp:=HI.out.2.cap _ _ _ rfl;go_wp2;go_returns;exact⟨_,rfl,pO HI.out.2.cell.1 _,Bp HI.out.2.KQ _,hb⟩
def idxOf(xs:List Int)(v:Int):Int:=match xs.findIdx? (·==v) with|none=>-1|some i=>(i:Int)
theorem Qc{xs:List Int}{v:Int}(h:∀(i:Nat) x,xs[i]? =some x->x≠v):xs.findIdx? (·==v)=none:=by rw[List.findIdx?_eq_none_iff];intro x hx;obtain⟨i,hi⟩:=List.getElem?_of_mem hx;simpa using h i x hi
theorem EZ:∀{xs:List Int} {v:Int} {k:Nat},xs[k]? =some v->(∀(i:Nat) x,i<k->xs[i]? =some x->x≠v)->xs.findIdx? (·==v)=some k
 | [],v,k,h,_=>by simp at h
 | x :: xs,v,0,h,_=>by simp at h;subst h;simp[List.findIdx?_cons]
 | x :: xs,v,k+1,h,hn=>by
   have hx:x≠v:=hn 0 x (by omega) rfl
   have:=EZ (xs:=xs) (k:=k) (by simpa using h) (fun i y hi hy=>hn (i+1) y (by omega) (by simpa using hy))
   rw[List.findIdx?_cons,this];simp[hx]
theorem qY{u:Value}{xs:List Int}(v:Int)(w:World)(h:rM encI w u xs)(hlen:xs.length<=2097152) :
 Calls Tryz.prog 200 #[u,.int .i64 v] w fun e w'=>e=.returned (.int .i64 (idxOf xs v))/\Ext w w':=by
 obtain⟨A,c,rfl,hc⟩:=h;have HC:=aa hc;clear hc;go_enter Tryz.func200,Tryz.ntmps200;go_wp2;go_loopw [8] (fun i wr=>w=wr/\∃k:Nat,k<=xs.length/\i=.int .i64 k/\Hid (∀(i:Nat) x,i<k->xs[i]? =some x->x≠v)) (fun i _=>xs.length-(intOf i).toNat)
 case atStart=>exact⟨rfl,0,Nat.zero_le _,rfl,fun _ _ h=>absurd h (Nat.not_lt_zero _)⟩
 case round=>
  obtain⟨rfl,k,hk,rfl,HI⟩:=hrel;by_cases hlt:k<xs.length
  ·obtain⟨b,off,rfl,hb,hc⟩:=HC.out (by omega);obtain⟨x,hx⟩:=af hlt;have c0:=hc k x hx;simp only[encI]at c0;by_cases h0:v=x
   ·have hz:(v==x)=true:=by simp[h0]
    have HN:Hid (idxOf xs v=(k:Int)):=by show _ = _;unfold idxOf;rw[EZ (by rw[hx,h0]) HI.out]
    clear hc hx h0 HI;go_wp2;go_returns;exact⟨aX HN.out.symm,Ext.refl _⟩
   ·have hz:(v==x)=false:=by simp[h0]
    have HN:Hid (∀(i:Nat) y,i<k+1->xs[i]? =some y->y≠v):=fun i y hi hy=>by
     rcases Nat.lt_or_ge i k with h|h
     ·exact HI.out i y h hy
     ·obtain rfl:i=k:=by omega
      rw[hx]at hy;cases hy;exact fun e=>h0 e.symm
    clear hc hx h0 HI;go_wp2;go_roundw;case rel=>exact⟨trivial,k+1,by omega,by go_num,HN.out⟩
    case measure=>simp[intOf];omega
  ·obtain rfl:k=xs.length:=by omega
   have HN:Hid (idxOf xs v=-1):=by show _ = _;unfold idxOf;rw[Qc (fun i x hi=>HI.out i x (List.getElem?_eq_some_iff.1 hi).1 hi)]
   clear HI;go_wp2;go_returns;exact⟨aX HN.out.symm,Ext.refl _⟩
