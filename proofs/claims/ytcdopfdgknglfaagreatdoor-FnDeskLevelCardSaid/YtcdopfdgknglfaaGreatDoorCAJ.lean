/- Lemmas. -/
import Derived.Test.YtcdopfdgknglfaaGreatDoorCAI
import Derived.Shelf.Strings.Builder1
import Derived.Shelf.Strings.Builder2
import Derived.Shelf.Strings.OnBuilder
import Derived.Shelf.Small.Bits
import Derived.Shelf.Small.Wraps
import Derived.Shelf.Strings.BuilderF
import Derived.Shelf.Strings.BuilderK
import Derived.Shelf.Utf8.RuneCount
import Derived.Shelf.Strconv.Atoi
import Derived.Shelf.Strconv.Itoa0
import Derived.Shelf.Strconv.Itoa1
import Derived.Shelf.LaysM
import Derived.Shelf.Strconv.Itoa2
import Derived.Shelf.Strconv.Itoa3
import Derived.Shelf.Strconv.AtoiErrFast
import Derived.Shelf.Strconv.ParseIntEmpty
import Derived.Shelf.Strconv.AtoiFail
import Derived.Shelf.Strconv.Clone
import Derived.Shelf.Strconv.SyntaxError
import Derived.Shelf.LaysC
import Derived.Shelf.Strconv.ToError
import Derived.Shelf.Strconv.Lower
import Derived.Shelf.Strconv.ParseUint10
import Derived.Shelf.Strconv.ParseUint10Empty
import Derived.Shelf.Strconv.ParseUint10Any
import Derived.Shelf.Strconv.ParseInt10
import Derived.Shelf.Strconv.AtoiLong
import Derived.Shelf.Strconv.AtoiInnerAll
import Derived.Shelf.Strconv.RangeError
import Derived.Shelf.Strconv.ToErrorRange
import Derived.Shelf.Strconv.AtoiAll
import Derived.Shelf.Strconv.ErrVarAll
import Derived.Shelf.Strings.Search1
import Derived.Shelf.Strings.Search2
import Derived.Shelf.Strings.Search3
import Derived.Shelf.Strings.Cut
import Derived.Shelf.Strings.Count
import Derived.Shelf.Strings.Shaped
import Derived.Shelf.Strings.Prefix
import Derived.Shelf.Strings.Split
import Derived.Shelf.Strings.SplitShaped
import Derived.Shelf.Unicode.Decode
import Derived.Shelf.Strings.RuneCount
import Derived.Shelf.Strings.Explode
import Derived.Shelf.Unicode.DecodeSlow
import Derived.Shelf.Unicode.DecodeAny
import Derived.Ground.Names2Prog
import Derived.Shelf.Slices.Clone
import Derived.Shelf.Slices.SearchI
import Derived.Ground.SlgnProg
import Derived.Shelf.SlicesE.Clone
import Derived.Shelf.SlSortCmp.WholeK
import Derived.Shelf.SlSortCmp.NoneTotal
import Derived.Test.YtcdopfdgknglfaaGreatDoorProg
import Derived.Ground.SlsfProg
set_option maxHeartbeats 16000000
set_option maxRecDepth 8000
set_option linter.all false
section
namespace Go.Proofs
open Go.Shelf
def Tryz.lays169_ren:Go.Shelf.Ren:=⟨fun|169=>94|n=>n,fun|70=>121|9=>9|0=>0|72=>123|37=>22|127=>140|3=>3|5=>5|n=>n,fun|n=>n⟩
theorem Tryz.lays169:Go.Proofs.Lays.n169 Tryz.prog Tryz.lays169_ren:={
 mixed:=by kernel_rfl
 f169:=Tryz.func94.trans (congrArg some (by kernel_rfl))
 t0:=Tryz.underlying0
 a0:=Tryz.isAgg0
 z0:=Tryz.sizeOf0
 v0:=Tryz.zeroValue0
 t3:=Tryz.underlying3
 a3:=Tryz.isAgg3
 z3:=Tryz.sizeOf3
 v3:=Tryz.zeroValue3
 t9:=Tryz.underlying9
 a9:=Tryz.isAgg9
 z9:=Tryz.sizeOf9
 v9:=Tryz.zeroValue9
 t37:=Tryz.underlying22
 a37:=Tryz.isAgg22
 z37:=Tryz.sizeOf22
 v37:=Tryz.zeroValue22
 t70:=Tryz.underlying121
 a70:=Tryz.isAgg121
 z70:=Tryz.sizeOf121
 v70:=Tryz.zeroValue121
 t72:=Tryz.underlying123
 a72:=Tryz.isAgg123
 z72:=Tryz.sizeOf123
 v72:=Tryz.zeroValue123
 t127:=Tryz.underlying140
 a127:=Tryz.isAgg140
 z127:=Tryz.sizeOf140
 v127:=Tryz.zeroValue140 }
theorem Tryz.Builder_Extra_169:Builder.Extra Tryz.prog Tryz.lays169_ren:={
 sizeBuilder:=by kernel_rfl
 liesBuilder:=by kernel_rfl
 t5:=Tryz.underlying5
 a5:=Tryz.isAgg5
 z5:=Tryz.sizeOf5
 v5:=Tryz.zeroValue5
 infoByte:=by kernel_rfl
 cellsByte:=by kernel_rfl
 sizeByte:=by kernel_rfl
 neB5:=by decide }
open Go.RowKit in
theorem Tryz.Builder_String_any(B b:Nat)(l:List UInt8)(w:World)(h:Lib.IsBuilder 123 5 B b (Lib.byteCells l) w)(hBw:B<=w.heap.size) :
 Calls Tryz.prog 94 #[.pointer (some ⟨b,0,none⟩)] w λe w'=>e=.returned (.string ⟨l.toArray⟩)/\Below B w w':=Any.Builder_String_any Tryz.lays169 Tryz.Builder_Extra_169 B b l w h hBw
def Tryz.lays156_ren:Go.Shelf.Ren:=⟨fun|156=>51|165=>92|166=>93|169=>94|240=>125|241=>126|276=>162|277=>163|n=>n,fun|31=>31|9=>9|3=>3|4=>4|0=>0|20=>20|72=>123|76=>127|70=>121|37=>22|75=>126|127=>140|164=>181|5=>5|80=>80|n=>n,fun|n=>n⟩
theorem Tryz.lays156:Go.Proofs.Lays.n156 Tryz.prog Tryz.lays156_ren:={
 mixed:=by kernel_rfl
 f156:=Tryz.func51.trans (congrArg some (by kernel_rfl))
 f165:=Tryz.func92.trans (congrArg some (by kernel_rfl))
 f166:=Tryz.func93.trans (congrArg some (by kernel_rfl))
 f169:=Tryz.func94.trans (congrArg some (by kernel_rfl))
 f240:=Tryz.func125.trans (congrArg some (by kernel_rfl))
 f241:=Tryz.func126.trans (congrArg some (by kernel_rfl))
 f276:=Tryz.func162.trans (congrArg some (by kernel_rfl))
 f277:=Tryz.func163.trans (congrArg some (by kernel_rfl))
 t0:=Tryz.underlying0
 a0:=Tryz.isAgg0
 z0:=Tryz.sizeOf0
 v0:=Tryz.zeroValue0
 t3:=Tryz.underlying3
 a3:=Tryz.isAgg3
 z3:=Tryz.sizeOf3
 v3:=Tryz.zeroValue3
 t4:=Tryz.underlying4
 a4:=Tryz.isAgg4
 z4:=Tryz.sizeOf4
 v4:=Tryz.zeroValue4
 t9:=Tryz.underlying9
 a9:=Tryz.isAgg9
 z9:=Tryz.sizeOf9
 v9:=Tryz.zeroValue9
 t20:=Tryz.underlying20
 a20:=Tryz.isAgg20
 z20:=Tryz.sizeOf20
 v20:=Tryz.zeroValue20
 t31:=Tryz.underlying31
 a31:=Tryz.isAgg31
 z31:=Tryz.sizeOf31
 v31:=Tryz.zeroValue31
 t37:=Tryz.underlying22
 a37:=Tryz.isAgg22
 z37:=Tryz.sizeOf22
 v37:=Tryz.zeroValue22
 t70:=Tryz.underlying121
 a70:=Tryz.isAgg121
 z70:=Tryz.sizeOf121
 v70:=Tryz.zeroValue121
 t72:=Tryz.underlying123
 a72:=Tryz.isAgg123
 z72:=Tryz.sizeOf123
 v72:=Tryz.zeroValue123
 t75:=Tryz.underlying126
 a75:=Tryz.isAgg126
 z75:=Tryz.sizeOf126
 v75:=Tryz.zeroValue126
 t76:=Tryz.underlying127
 a76:=Tryz.isAgg127
 z76:=Tryz.sizeOf127
 v76:=Tryz.zeroValue127
 t127:=Tryz.underlying140
 a127:=Tryz.isAgg140
 z127:=Tryz.sizeOf140
 v127:=Tryz.zeroValue140
 t164:=Tryz.underlying181
 a164:=Tryz.isAgg181
 z164:=Tryz.sizeOf181
 v164:=Tryz.zeroValue181 }
theorem Tryz.Builder_Extra_156:Builder.Extra Tryz.prog Tryz.lays156_ren:={
 sizeBuilder:=by kernel_rfl
 liesBuilder:=by kernel_rfl
 t5:=Tryz.underlying5
 a5:=Tryz.isAgg5
 z5:=Tryz.sizeOf5
 v5:=Tryz.zeroValue5
 infoByte:=by kernel_rfl
 cellsByte:=by kernel_rfl
 sizeByte:=by kernel_rfl
 neB5:=by decide }
open Go.RowKit in
theorem Tryz.strings_Join_none(a:Option Addr)(c:Nat)(sep:ByteArray)(w:World) :
 Calls Tryz.prog 51 #[.slice a 0 c,.string sep] w λe w'=>e=.returned (.string ⟨#[]⟩)/\w'=w:=Any.strings_Join_none Tryz.lays156 Tryz.Builder_Extra_156 a c sep w
open Go.RowKit in
theorem Tryz.strings_Join(bk o c:Nat)(xs:List ByteArray)(sep:ByteArray)(w:World)(hcells:∀(j:Nat) x,xs[j]? =some x->w.cell? ⟨bk,o+j,none⟩=some (.string x))(hbk:bk<w.heap.size)(hN:xs.length<=140737488355328)(hcap:xs.length<=c)(hlen:(Lib.join (xs.map (·.data.toList)) sep.data.toList).length<=140737488355328) :
 Calls Tryz.prog 51 #[.slice (some ⟨bk,o,none⟩) xs.length c,.string sep] w λe w'=>e=.returned (.string ⟨(Lib.join (xs.map (·.data.toList)) sep.data.toList).toArray⟩)/\Below w.heap.size w w':=Any.strings_Join Tryz.lays156 Tryz.Builder_Extra_156 bk o c xs sep w hcells hbk hN hcap hlen
def Tryz.lays103_ren:Go.Shelf.Ren:=⟨fun|103=>176|210=>216|206=>246|n=>n,fun|9=>9|4=>4|24=>193|3=>3|n=>n,fun|n=>n⟩
theorem Tryz.lays103:Go.Proofs.Lays.n103 Tryz.prog Tryz.lays103_ren:={
 mixed:=by kernel_rfl
 f103:=Tryz.func176.trans (congrArg some (by kernel_rfl))
 f206:=Tryz.func246.trans (congrArg some (by kernel_rfl))
 f210:=Tryz.func216.trans (congrArg some (by kernel_rfl))
 t3:=Tryz.underlying3
 a3:=Tryz.isAgg3
 z3:=Tryz.sizeOf3
 v3:=Tryz.zeroValue3
 t4:=Tryz.underlying4
 a4:=Tryz.isAgg4
 z4:=Tryz.sizeOf4
 v4:=Tryz.zeroValue4
 t9:=Tryz.underlying9
 a9:=Tryz.isAgg9
 z9:=Tryz.sizeOf9
 v9:=Tryz.zeroValue9
 t24:=Tryz.underlying193
 a24:=Tryz.isAgg193
 z24:=Tryz.sizeOf193
 v24:=Tryz.zeroValue193 }
open Go.RowKit in
theorem Tryz.strings_CutPrefix(s p:ByteArray)(w:World) :
 Calls Tryz.prog 176 #[.string s,.string p] w λe w'=>e=.returned (.tuple #[.string ⟨(Lib.trimPrefix s.data.toList p.data.toList).toArray⟩,.bool (Lib.hasPrefix s.data.toList p.data.toList)])/\w'=w:=Any.strings_CutPrefix Tryz.lays103 s p w
def Tryz.lays171_ren:Go.Shelf.Ren:=⟨fun|171=>49|243=>91|246=>124|283=>158|284=>159|285=>160|286=>161|129=>194|317=>193|318=>195|319=>196|320=>197|337=>227|338=>228|n=>n,fun|3=>3|9=>9|2=>2|4=>4|171=>175|0=>0|53=>176|37=>22|5=>5|173=>179|212=>210|51=>211|20=>20|213=>212|46=>190|232=>254|233=>255|n=>n,fun|17=>1|18=>2|19=>3|n=>n⟩
theorem Tryz.lays171:Go.Proofs.Lays.n171 Tryz.prog Tryz.lays171_ren:={
 mixed:=by kernel_rfl
 f129:=Tryz.func194.trans (congrArg some (by kernel_rfl))
 f171:=Tryz.func49.trans (congrArg some (by kernel_rfl))
 f243:=Tryz.func91.trans (congrArg some (by kernel_rfl))
 f246:=Tryz.func124.trans (congrArg some (by kernel_rfl))
 f283:=Tryz.func158.trans (congrArg some (by kernel_rfl))
 f284:=Tryz.func159.trans (congrArg some (by kernel_rfl))
 f285:=Tryz.func160.trans (congrArg some (by kernel_rfl))
 f286:=Tryz.func161.trans (congrArg some (by kernel_rfl))
 f317:=Tryz.func193.trans (congrArg some (by kernel_rfl))
 f318:=Tryz.func195.trans (congrArg some (by kernel_rfl))
 f319:=Tryz.func196.trans (congrArg some (by kernel_rfl))
 f320:=Tryz.func197.trans (congrArg some (by kernel_rfl))
 f337:=Tryz.func227.trans (congrArg some (by kernel_rfl))
 f338:=Tryz.func228.trans (congrArg some (by kernel_rfl))
 t0:=Tryz.underlying0
 a0:=Tryz.isAgg0
 z0:=Tryz.sizeOf0
 v0:=Tryz.zeroValue0
 t2:=Tryz.underlying2
 a2:=Tryz.isAgg2
 z2:=Tryz.sizeOf2
 v2:=Tryz.zeroValue2
 t3:=Tryz.underlying3
 a3:=Tryz.isAgg3
 z3:=Tryz.sizeOf3
 v3:=Tryz.zeroValue3
 t4:=Tryz.underlying4
 a4:=Tryz.isAgg4
 z4:=Tryz.sizeOf4
 v4:=Tryz.zeroValue4
 t5:=Tryz.underlying5
 a5:=Tryz.isAgg5
 z5:=Tryz.sizeOf5
 v5:=Tryz.zeroValue5
 t9:=Tryz.underlying9
 a9:=Tryz.isAgg9
 z9:=Tryz.sizeOf9
 v9:=Tryz.zeroValue9
 t20:=Tryz.underlying20
 a20:=Tryz.isAgg20
 z20:=Tryz.sizeOf20
 v20:=Tryz.zeroValue20
 t37:=Tryz.underlying22
 a37:=Tryz.isAgg22
 z37:=Tryz.sizeOf22
 v37:=Tryz.zeroValue22
 t46:=Tryz.underlying190
 a46:=Tryz.isAgg190
 z46:=Tryz.sizeOf190
 v46:=Tryz.zeroValue190
 t51:=Tryz.underlying211
 a51:=Tryz.isAgg211
 z51:=Tryz.sizeOf211
 v51:=Tryz.zeroValue211
 t53:=Tryz.underlying176
 a53:=Tryz.isAgg176
 z53:=Tryz.sizeOf176
 v53:=Tryz.zeroValue176
 t171:=Tryz.underlying175
 a171:=Tryz.isAgg175
 z171:=Tryz.sizeOf175
 v171:=Tryz.zeroValue175
 t173:=Tryz.underlying179
 a173:=Tryz.isAgg179
 z173:=Tryz.sizeOf179
 v173:=Tryz.zeroValue179
 t212:=Tryz.underlying210
 a212:=Tryz.isAgg210
 z212:=Tryz.sizeOf210
 v212:=Tryz.zeroValue210
 t213:=Tryz.underlying212
 a213:=Tryz.isAgg212
 z213:=Tryz.sizeOf212
 t232:=Tryz.underlying254
 a232:=Tryz.isAgg254
 z232:=Tryz.sizeOf254
 v232:=Tryz.zeroValue254
 t233:=Tryz.underlying255
 a233:=Tryz.isAgg255
 z233:=Tryz.sizeOf255
 v233:=Tryz.zeroValue255
 g17:=by kernel_rfl
 g18:=by kernel_rfl
 g19:=by kernel_rfl }
open Go.RowKit Go.Sort Go.Lib in
theorem Tryz.strconv_Itoa_small(i:Nat)(hi:i<100)(w:World) :
 Calls Tryz.prog 49 #[.int .i64 i] w λe w'=>e=.returned (.string ⟨(Lib.decDigits i).toArray⟩)/\w'=w:=Any.strconv_Itoa_small Tryz.lays171 i hi w
def Tryz.laysC172_ren:Go.Shelf.Ren:=⟨fun|172=>177|244=>217|245=>218|247=>247|279=>248|280=>249|281=>250|282=>251|287=>265|316=>266|171=>49|205=>267|321=>289|322=>290|243=>91|246=>124|283=>158|284=>159|285=>160|286=>161|129=>194|317=>193|318=>195|319=>196|320=>197|337=>227|338=>228|n=>n,fun|9=>9|3=>3|75=>126|76=>127|4=>4|5=>5|167=>247|37=>22|0=>0|85=>248|2=>2|168=>250|53=>176|175=>264|46=>190|210=>267|127=>140|145=>290|143=>288|21=>21|171=>175|173=>179|212=>210|51=>211|20=>20|213=>212|232=>254|233=>255|80=>80|n=>n,fun|15=>4|16=>5|17=>1|18=>2|19=>3|n=>n⟩
theorem Tryz.laysC172:Go.Proofs.LaysC.n172 Tryz.prog Tryz.laysC172_ren:={
 mixed:=by kernel_rfl
 f129:=Tryz.func194.trans (congrArg some (by kernel_rfl))
 f171:=Tryz.func49.trans (congrArg some (by kernel_rfl))
 f172:=Tryz.func177.trans (congrArg some (by kernel_rfl))
 f205:=Tryz.func267.trans (congrArg some (by kernel_rfl))
 f243:=Tryz.func91.trans (congrArg some (by kernel_rfl))
 f244:=Tryz.func217.trans (congrArg some (by kernel_rfl))
 f245:=Tryz.func218.trans (congrArg some (by kernel_rfl))
 f246:=Tryz.func124.trans (congrArg some (by kernel_rfl))
 f247:=Tryz.func247.trans (congrArg some (by kernel_rfl))
 f279:=Tryz.func248.trans (congrArg some (by kernel_rfl))
 f280:=Tryz.func249.trans (congrArg some (by kernel_rfl))
 f281:=Tryz.func250.trans (congrArg some (by kernel_rfl))
 f282:=Tryz.func251.trans (congrArg some (by kernel_rfl))
 f283:=Tryz.func158.trans (congrArg some (by kernel_rfl))
 f284:=Tryz.func159.trans (congrArg some (by kernel_rfl))
 f285:=Tryz.func160.trans (congrArg some (by kernel_rfl))
 f286:=Tryz.func161.trans (congrArg some (by kernel_rfl))
 f287:=Tryz.func265.trans (congrArg some (by kernel_rfl))
 f316:=Tryz.func266.trans (congrArg some (by kernel_rfl))
 f317:=Tryz.func193.trans (congrArg some (by kernel_rfl))
 f318:=Tryz.func195.trans (congrArg some (by kernel_rfl))
 f319:=Tryz.func196.trans (congrArg some (by kernel_rfl))
 f320:=Tryz.func197.trans (congrArg some (by kernel_rfl))
 f321:=Tryz.func289.trans (congrArg some (by kernel_rfl))
 f322:=Tryz.func290.trans (congrArg some (by kernel_rfl))
 f337:=Tryz.func227.trans (congrArg some (by kernel_rfl))
 f338:=Tryz.func228.trans (congrArg some (by kernel_rfl))
 t0:=Tryz.underlying0
 a0:=Tryz.isAgg0
 z0:=Tryz.sizeOf0
 v0:=Tryz.zeroValue0
 t2:=Tryz.underlying2
 a2:=Tryz.isAgg2
 z2:=Tryz.sizeOf2
 v2:=Tryz.zeroValue2
 t3:=Tryz.underlying3
 a3:=Tryz.isAgg3
 z3:=Tryz.sizeOf3
 v3:=Tryz.zeroValue3
 t4:=Tryz.underlying4
 a4:=Tryz.isAgg4
 z4:=Tryz.sizeOf4
 v4:=Tryz.zeroValue4
 t5:=Tryz.underlying5
 a5:=Tryz.isAgg5
 z5:=Tryz.sizeOf5
 v5:=Tryz.zeroValue5
 t9:=Tryz.underlying9
 a9:=Tryz.isAgg9
 z9:=Tryz.sizeOf9
 v9:=Tryz.zeroValue9
 t20:=Tryz.underlying20
 a20:=Tryz.isAgg20
 z20:=Tryz.sizeOf20
 v20:=Tryz.zeroValue20
 t21:=Tryz.underlying21
 a21:=Tryz.isAgg21
 z21:=Tryz.sizeOf21
 v21:=Tryz.zeroValue21
 t37:=Tryz.underlying22
 a37:=Tryz.isAgg22
 z37:=Tryz.sizeOf22
 v37:=Tryz.zeroValue22
 t46:=Tryz.underlying190
 a46:=Tryz.isAgg190
 z46:=Tryz.sizeOf190
 v46:=Tryz.zeroValue190
 t51:=Tryz.underlying211
 a51:=Tryz.isAgg211
 z51:=Tryz.sizeOf211
 v51:=Tryz.zeroValue211
 t53:=Tryz.underlying176
 a53:=Tryz.isAgg176
 z53:=Tryz.sizeOf176
 v53:=Tryz.zeroValue176
 t75:=Tryz.underlying126
 a75:=Tryz.isAgg126
 z75:=Tryz.sizeOf126
 v75:=Tryz.zeroValue126
 t76:=Tryz.underlying127
 a76:=Tryz.isAgg127
 z76:=Tryz.sizeOf127
 v76:=Tryz.zeroValue127
 t85:=Tryz.underlying248
 a85:=Tryz.isAgg248
 z85:=Tryz.sizeOf248
 v85:=Tryz.zeroValue248
 t127:=Tryz.underlying140
 a127:=Tryz.isAgg140
 z127:=Tryz.sizeOf140
 v127:=Tryz.zeroValue140
 t143:=Tryz.underlying288
 a143:=Tryz.isAgg288
 z143:=Tryz.sizeOf288
 v143:=Tryz.zeroValue288
 t145:=Tryz.underlying290
 a145:=Tryz.isAgg290
 z145:=Tryz.sizeOf290
 v145:=Tryz.zeroValue290
 t167:=Tryz.underlying247
 a167:=Tryz.isAgg247
 z167:=Tryz.sizeOf247
 v167:=Tryz.zeroValue247
 t168:=Tryz.underlying250
 a168:=Tryz.isAgg250
 z168:=Tryz.sizeOf250
 v168:=Tryz.zeroValue250
 t171:=Tryz.underlying175
 a171:=Tryz.isAgg175
 z171:=Tryz.sizeOf175
 v171:=Tryz.zeroValue175
 t173:=Tryz.underlying179
 a173:=Tryz.isAgg179
 z173:=Tryz.sizeOf179
 v173:=Tryz.zeroValue179
 t175:=Tryz.underlying264
 a175:=Tryz.isAgg264
 z175:=Tryz.sizeOf264
 v175:=Tryz.zeroValue264
 t210:=Tryz.underlying267
 a210:=Tryz.isAgg267
 z210:=Tryz.sizeOf267
 v210:=Tryz.zeroValue267
 t212:=Tryz.underlying210
 a212:=Tryz.isAgg210
 z212:=Tryz.sizeOf210
 v212:=Tryz.zeroValue210
 t213:=Tryz.underlying212
 a213:=Tryz.isAgg212
 z213:=Tryz.sizeOf212
 t232:=Tryz.underlying254
 a232:=Tryz.isAgg254
 z232:=Tryz.sizeOf254
 v232:=Tryz.zeroValue254
 t233:=Tryz.underlying255
 a233:=Tryz.isAgg255
 z233:=Tryz.sizeOf255
 v233:=Tryz.zeroValue255
 g15:=by kernel_rfl
 g16:=by kernel_rfl
 g17:=by kernel_rfl
 g18:=by kernel_rfl
 g19:=by kernel_rfl
 t80:=Tryz.underlying80
 a80:=Tryz.isAgg80
 z80:=Tryz.sizeOf80
 v80:=Tryz.zeroValue80
 i0:=by kernel_rfl
 i2:=by kernel_rfl
 i3:=by kernel_rfl
 i4:=by kernel_rfl
 i5:=by kernel_rfl
 i9:=by kernel_rfl
 i20:=by kernel_rfl
 i21:=by kernel_rfl
 i37:=by kernel_rfl
 i46:=by kernel_rfl
 i51:=by kernel_rfl
 i53:=by kernel_rfl
 i75:=by kernel_rfl
 i76:=by kernel_rfl
 i80:=by kernel_rfl
 i85:=by kernel_rfl
 i127:=by kernel_rfl
 i143:=by kernel_rfl
 i145:=by kernel_rfl
 i167:=by kernel_rfl
 i168:=by kernel_rfl
 i171:=by kernel_rfl
 i173:=by kernel_rfl
 i175:=by kernel_rfl
 i210:=by kernel_rfl
 i212:=by kernel_rfl
 i232:=by kernel_rfl
 i233:=by kernel_rfl
 m15:=by kernel_rfl
 m16:=by kernel_rfl
 m17:=by kernel_rfl
 m18:=by kernel_rfl
 m19:=by kernel_rfl
 c0:=by kernel_rfl
 c2:=by kernel_rfl
 c3:=by kernel_rfl
 c4:=by kernel_rfl
 c5:=by kernel_rfl
 c9:=by kernel_rfl
 c20:=by kernel_rfl
 c21:=by kernel_rfl
 c37:=by kernel_rfl
 c46:=by kernel_rfl
 c51:=by kernel_rfl
 c53:=by kernel_rfl
 c75:=by kernel_rfl
 c76:=by kernel_rfl
 c80:=by kernel_rfl
 c85:=by kernel_rfl
 c127:=by kernel_rfl
 c143:=by kernel_rfl
 c145:=by kernel_rfl
 c167:=by kernel_rfl
 c168:=by kernel_rfl
 c171:=by kernel_rfl
 c173:=by kernel_rfl
 c175:=by kernel_rfl
 c210:=by kernel_rfl
 c212:=by kernel_rfl
 c213:=by kernel_rfl
 c232:=by kernel_rfl
 c233:=by kernel_rfl }
open Go.RowKit in
theorem Tryz.strconv_Atoi_ok(s:ByteArray)(hmax:s.size<=9223372036854775806)(v:Int)(h:Lib.atoiAll s.data.toList=.ok v)(w:World) :
 Calls Tryz.prog 177 #[.string s] w λe w'=>e=.returned (.tuple #[.int .i64 v,.nilIface])/\(w'=w∨∃t,w'=Lib.bytesWorld w 5 t):=Any.strconv_Atoi_ok Tryz.laysC172 s hmax v h w
open Go.RowKit in
theorem Tryz.strconv_Atoi_syntax(s:ByteArray)(hlim:s.size<=281474976710656)(h:Lib.atoiAll s.data.toList=Lib.NumEnd.syntax)(ev:Value)(w:World)(hv:w.cell? ⟨4,0,none⟩=some ev)(hev:ev=.nilIface∨∃te pe,ev=.iface te pe) :
 Calls Tryz.prog 177 #[.string s] w λe w'=>∃N,e=.returned (.tuple #[.int .i64 (0),.iface 250 (.pointer (some ⟨N,0,none⟩))])/\w.heap.size<=N/\w'.heap[N]? =some (.cells #[.string ⟨#[65,116,111,105]⟩,.string s,ev] 267 (0,0))/\Below w.heap.size w w':=Any.strconv_Atoi_syntax Tryz.laysC172 s hlim h ev w hv hev
open Go.RowKit in
theorem Tryz.strconv_Atoi_range(s:ByteArray)(hlim:s.size<=281474976710656)(h:Lib.atoiAll s.data.toList=.range)(ev:Value)(w:World)(hv:w.cell? ⟨5,0,none⟩=some ev)(hev:ev=.nilIface∨∃te pe,ev=.iface te pe) :
 Calls Tryz.prog 177 #[.string s] w λe w'=>∃N,e=.returned (.tuple #[.int .i64 (Lib.atoiSat s.data.toList),.iface 250 (.pointer (some ⟨N,0,none⟩))])/\w.heap.size<=N/\w'.heap[N]? =some (.cells #[.string ⟨#[65,116,111,105]⟩,.string s,ev] 267 (0,0))/\Below w.heap.size w w':=Any.strconv_Atoi_range Tryz.laysC172 s hlim h ev w hv hev
def Tryz.lays143_ren:Go.Shelf.Ren:=⟨fun|143=>215|219=>150|217=>180|225=>181|224=>182|267=>183|266=>222|314=>223|n=>n,fun|9=>9|3=>3|4=>4|5=>5|46=>190|146=>226|51=>211|n=>n,fun|1=>0|n=>n⟩
theorem Tryz.lays143:Go.Proofs.Lays.n143 Tryz.prog Tryz.lays143_ren:={
 mixed:=by kernel_rfl
 f143:=Tryz.func215.trans (congrArg some (by kernel_rfl))
 f217:=Tryz.func180.trans (congrArg some (by kernel_rfl))
 f219:=Tryz.func150.trans (congrArg some (by kernel_rfl))
 f224:=Tryz.func182.trans (congrArg some (by kernel_rfl))
 f225:=Tryz.func181.trans (congrArg some (by kernel_rfl))
 f266:=Tryz.func222.trans (congrArg some (by kernel_rfl))
 f267:=Tryz.func183.trans (congrArg some (by kernel_rfl))
 f314:=Tryz.func223.trans (congrArg some (by kernel_rfl))
 t3:=Tryz.underlying3
 a3:=Tryz.isAgg3
 z3:=Tryz.sizeOf3
 v3:=Tryz.zeroValue3
 t4:=Tryz.underlying4
 a4:=Tryz.isAgg4
 z4:=Tryz.sizeOf4
 v4:=Tryz.zeroValue4
 t5:=Tryz.underlying5
 a5:=Tryz.isAgg5
 z5:=Tryz.sizeOf5
 v5:=Tryz.zeroValue5
 t9:=Tryz.underlying9
 a9:=Tryz.isAgg9
 z9:=Tryz.sizeOf9
 v9:=Tryz.zeroValue9
 t46:=Tryz.underlying190
 a46:=Tryz.isAgg190
 z46:=Tryz.sizeOf190
 v46:=Tryz.zeroValue190
 t51:=Tryz.underlying211
 a51:=Tryz.isAgg211
 z51:=Tryz.sizeOf211
 v51:=Tryz.zeroValue211
 t146:=Tryz.underlying226
 a146:=Tryz.isAgg226
 z146:=Tryz.sizeOf226
 v146:=Tryz.zeroValue226
 g1:=by kernel_rfl }
open Go.RowKit Go.Lib in
theorem Tryz.strings_Index(s sub:ByteArray)(m:Int)(w:World)(hs:s.size<4294967281)(hm:w.cell? ⟨0,0,none⟩=some (.int .i64 m)) :
 Calls Tryz.prog 215 #[.string s,.string sub] w λe w'=>e=.returned (.int .i64 (Lib.index s.data.toList sub.data.toList))/\w'=w:=Any.strings_Index Tryz.lays143 s sub m w hs hm
def Tryz.lays145_ren:Go.Shelf.Ren:=⟨fun|145=>60|220=>105|219=>150|217=>180|225=>181|224=>182|267=>183|266=>222|314=>223|n=>n,fun|9=>9|4=>4|59=>88|3=>3|5=>5|46=>190|146=>226|51=>211|n=>n,fun|1=>0|n=>n⟩
theorem Tryz.lays145:Go.Proofs.Lays.n145 Tryz.prog Tryz.lays145_ren:={
 mixed:=by kernel_rfl
 f145:=Tryz.func60.trans (congrArg some (by kernel_rfl))
 f217:=Tryz.func180.trans (congrArg some (by kernel_rfl))
 f219:=Tryz.func150.trans (congrArg some (by kernel_rfl))
 f220:=Tryz.func105.trans (congrArg some (by kernel_rfl))
 f224:=Tryz.func182.trans (congrArg some (by kernel_rfl))
 f225:=Tryz.func181.trans (congrArg some (by kernel_rfl))
 f266:=Tryz.func222.trans (congrArg some (by kernel_rfl))
 f267:=Tryz.func183.trans (congrArg some (by kernel_rfl))
 f314:=Tryz.func223.trans (congrArg some (by kernel_rfl))
 t3:=Tryz.underlying3
 a3:=Tryz.isAgg3
 z3:=Tryz.sizeOf3
 v3:=Tryz.zeroValue3
 t4:=Tryz.underlying4
 a4:=Tryz.isAgg4
 z4:=Tryz.sizeOf4
 v4:=Tryz.zeroValue4
 t5:=Tryz.underlying5
 a5:=Tryz.isAgg5
 z5:=Tryz.sizeOf5
 v5:=Tryz.zeroValue5
 t9:=Tryz.underlying9
 a9:=Tryz.isAgg9
 z9:=Tryz.sizeOf9
 v9:=Tryz.zeroValue9
 t46:=Tryz.underlying190
 a46:=Tryz.isAgg190
 z46:=Tryz.sizeOf190
 v46:=Tryz.zeroValue190
 t51:=Tryz.underlying211
 a51:=Tryz.isAgg211
 z51:=Tryz.sizeOf211
 v51:=Tryz.zeroValue211
 t59:=Tryz.underlying88
 a59:=Tryz.isAgg88
 z59:=Tryz.sizeOf88
 v59:=Tryz.zeroValue88
 t146:=Tryz.underlying226
 a146:=Tryz.isAgg226
 z146:=Tryz.sizeOf226
 v146:=Tryz.zeroValue226
 g1:=by kernel_rfl }
open Go.RowKit Go.Lib in
theorem Tryz.strings_Cut(s sep:ByteArray)(m:Int)(w:World)(hs:s.size<4294967281)(hm:w.cell? ⟨0,0,none⟩=some (.int .i64 m)) :
 Calls Tryz.prog 60 #[.string s,.string sep] w λe w'=>e=.returned (.tuple #[.string ⟨(Lib.cut s.data.toList sep.data.toList).1.toArray⟩,.string ⟨(Lib.cut s.data.toList sep.data.toList).2.1.toArray⟩,.bool (Lib.cut s.data.toList sep.data.toList).2.2])/\∃n,w'=w.drewN n:=Any.strings_Cut Tryz.lays145 s sep m w hs hm
def Tryz.lays146_ren:Go.Shelf.Ren:=⟨fun|146=>136|221=>175|268=>213|138=>214|143=>215|195=>244|197=>220|218=>245|219=>150|260=>252|217=>180|225=>181|224=>182|267=>183|266=>222|314=>223|n=>n,fun|9=>9|31=>31|3=>3|4=>4|0=>0|105=>224|21=>21|5=>5|46=>190|119=>269|139=>272|138=>271|146=>226|51=>211|n=>n,fun|1=>0|3=>6|4=>7|n=>n⟩
theorem Tryz.lays146:Go.Proofs.Lays.n146 Tryz.prog Tryz.lays146_ren:={
 mixed:=by kernel_rfl
 f138:=Tryz.func214.trans (congrArg some (by kernel_rfl))
 f143:=Tryz.func215.trans (congrArg some (by kernel_rfl))
 f146:=Tryz.func136.trans (congrArg some (by kernel_rfl))
 f195:=Tryz.func244.trans (congrArg some (by kernel_rfl))
 f197:=Tryz.func220.trans (congrArg some (by kernel_rfl))
 f217:=Tryz.func180.trans (congrArg some (by kernel_rfl))
 f218:=Tryz.func245.trans (congrArg some (by kernel_rfl))
 f219:=Tryz.func150.trans (congrArg some (by kernel_rfl))
 f221:=Tryz.func175.trans (congrArg some (by kernel_rfl))
 f224:=Tryz.func182.trans (congrArg some (by kernel_rfl))
 f225:=Tryz.func181.trans (congrArg some (by kernel_rfl))
 f260:=Tryz.func252.trans (congrArg some (by kernel_rfl))
 f266:=Tryz.func222.trans (congrArg some (by kernel_rfl))
 f267:=Tryz.func183.trans (congrArg some (by kernel_rfl))
 f268:=Tryz.func213.trans (congrArg some (by kernel_rfl))
 f314:=Tryz.func223.trans (congrArg some (by kernel_rfl))
 t0:=Tryz.underlying0
 a0:=Tryz.isAgg0
 z0:=Tryz.sizeOf0
 v0:=Tryz.zeroValue0
 t3:=Tryz.underlying3
 a3:=Tryz.isAgg3
 z3:=Tryz.sizeOf3
 v3:=Tryz.zeroValue3
 t4:=Tryz.underlying4
 a4:=Tryz.isAgg4
 z4:=Tryz.sizeOf4
 v4:=Tryz.zeroValue4
 t5:=Tryz.underlying5
 a5:=Tryz.isAgg5
 z5:=Tryz.sizeOf5
 v5:=Tryz.zeroValue5
 t9:=Tryz.underlying9
 a9:=Tryz.isAgg9
 z9:=Tryz.sizeOf9
 v9:=Tryz.zeroValue9
 t21:=Tryz.underlying21
 a21:=Tryz.isAgg21
 z21:=Tryz.sizeOf21
 v21:=Tryz.zeroValue21
 t31:=Tryz.underlying31
 a31:=Tryz.isAgg31
 z31:=Tryz.sizeOf31
 v31:=Tryz.zeroValue31
 t46:=Tryz.underlying190
 a46:=Tryz.isAgg190
 z46:=Tryz.sizeOf190
 v46:=Tryz.zeroValue190
 t51:=Tryz.underlying211
 a51:=Tryz.isAgg211
 z51:=Tryz.sizeOf211
 v51:=Tryz.zeroValue211
 t105:=Tryz.underlying224
 a105:=Tryz.isAgg224
 z105:=Tryz.sizeOf224
 v105:=Tryz.zeroValue224
 t119:=Tryz.underlying269
 a119:=Tryz.isAgg269
 z119:=Tryz.sizeOf269
 t138:=Tryz.underlying271
 a138:=Tryz.isAgg271
 z138:=Tryz.sizeOf271
 v138:=Tryz.zeroValue271
 t139:=Tryz.underlying272
 a139:=Tryz.isAgg272
 z139:=Tryz.sizeOf272
 v139:=Tryz.zeroValue272
 t146:=Tryz.underlying226
 a146:=Tryz.isAgg226
 z146:=Tryz.sizeOf226
 v146:=Tryz.zeroValue226
 g1:=by kernel_rfl
 g3:=by kernel_rfl
 g4:=by kernel_rfl }
open Go.RowKit Go.Lib in
theorem Tryz.strings_Split(s sep:ByteArray)(m:Int)(w:World)(hs:s.size<4294967281)(hm:w.cell? ⟨0,0,none⟩=some (.int .i64 m))(h1:1<=sep.size) :
 Calls Tryz.prog 136 #[.string s,.string sep] w λe w'=>
  e=.returned (.slice (some ⟨w.heap.size,0,none⟩) (Lib.countB s sep+1) (Lib.countB s sep+1))/\w'=w.alloc (.cells ((Lib.splitB sep 0 (Lib.countB s sep) s).map Value.string).toArray 9):=Any.strings_Split Tryz.lays146 (by kernel_rfl) s sep m w hs hm h1
def Tryz.sortEdge_ren:Go.Shelf.Ren:=⟨fun|6=>233|15=>256|14=>257|28=>277|29=>194|20=>278|21=>279|22=>280|23=>281|24=>282|25=>283|26=>284|27=>285|46=>296|47=>292|48=>293|49=>297|50=>298|57=>301|n=>n,fun|22=>172|24=>200|25=>238|3=>3|39=>190|0=>0|53=>211|55=>176|4=>4|46=>275|45=>274|50=>91|5=>5|9=>9|66=>291|70=>295|76=>300|77=>301|n=>n,fun|n=>n⟩
theorem Tryz.sortEdge:Go.Proofs.SlLaysF0.n6 Tryz.prog Tryz.sortEdge_ren:={
 mixed:=by kernel_rfl
 f6:=⟨Tryz.f233.name,by decide,Tryz.func233.trans (congrArg some (by kernel_rfl))⟩
 f14:=⟨Tryz.f257.name,by decide,Tryz.func257.trans (congrArg some (by kernel_rfl))⟩
 f15:=Tryz.func256.trans (congrArg some (by kernel_rfl))
 f20:=⟨Tryz.f278.name,by decide,Tryz.func278.trans (congrArg some (by kernel_rfl))⟩
 f21:=⟨Tryz.f279.name,by decide,Tryz.func279.trans (congrArg some (by kernel_rfl))⟩
 f22:=⟨Tryz.f280.name,by decide,Tryz.func280.trans (congrArg some (by kernel_rfl))⟩
 f23:=⟨Tryz.f281.name,by decide,Tryz.func281.trans (congrArg some (by kernel_rfl))⟩
 f24:=⟨Tryz.f282.name,by decide,Tryz.func282.trans (congrArg some (by kernel_rfl))⟩
 f25:=⟨Tryz.f283.name,by decide,Tryz.func283.trans (congrArg some (by kernel_rfl))⟩
 f26:=⟨Tryz.f284.name,by decide,Tryz.func284.trans (congrArg some (by kernel_rfl))⟩
 f27:=⟨Tryz.f285.name,by decide,Tryz.func285.trans (congrArg some (by kernel_rfl))⟩
 f28:=Tryz.func277.trans (congrArg some (by kernel_rfl))
 f29:=Tryz.func194.trans (congrArg some (by kernel_rfl))
 f46:=⟨Tryz.f296.name,by decide,Tryz.func296.trans (congrArg some (by kernel_rfl))⟩
 f47:=Tryz.func292.trans (congrArg some (by kernel_rfl))
 f48:=Tryz.func293.trans (congrArg some (by kernel_rfl))
 f49:=⟨Tryz.f297.name,by decide,Tryz.func297.trans (congrArg some (by kernel_rfl))⟩
 f50:=⟨Tryz.f298.name,by decide,Tryz.func298.trans (congrArg some (by kernel_rfl))⟩
 f57:=⟨Tryz.f301.name,by decide,Tryz.func301.trans (congrArg some (by kernel_rfl))⟩
 t0:=Tryz.underlying0
 a0:=Tryz.isAgg0
 z0:=Tryz.sizeOf0
 v0:=Tryz.zeroValue0
 t3:=Tryz.underlying3
 a3:=Tryz.isAgg3
 z3:=Tryz.sizeOf3
 v3:=Tryz.zeroValue3
 t4:=Tryz.underlying4
 a4:=Tryz.isAgg4
 z4:=Tryz.sizeOf4
 v4:=Tryz.zeroValue4
 t5:=Tryz.underlying5
 a5:=Tryz.isAgg5
 z5:=Tryz.sizeOf5
 v5:=Tryz.zeroValue5
 t9:=Tryz.underlying9
 a9:=Tryz.isAgg9
 z9:=Tryz.sizeOf9
 v9:=Tryz.zeroValue9
 t22:=Tryz.underlying172
 a22:=Tryz.isAgg172
 z22:=Tryz.sizeOf172
 v22:=Tryz.zeroValue172
 t25:=Tryz.underlying238
 a25:=Tryz.isAgg238
 z25:=Tryz.sizeOf238
 v25:=Tryz.zeroValue238
 t39:=Tryz.underlying190
 a39:=Tryz.isAgg190
 z39:=Tryz.sizeOf190
 v39:=Tryz.zeroValue190
 t45:=Tryz.underlying274
 a45:=Tryz.isAgg274
 z45:=Tryz.sizeOf274
 v45:=Tryz.zeroValue274
 t46:=Tryz.underlying275
 a46:=Tryz.isAgg275
 z46:=Tryz.sizeOf275
 v46:=Tryz.zeroValue275
 t50:=Tryz.underlying91
 a50:=Tryz.isAgg91
 z50:=Tryz.sizeOf91
 v50:=Tryz.zeroValue91
 t53:=Tryz.underlying211
 a53:=Tryz.isAgg211
 z53:=Tryz.sizeOf211
 v53:=Tryz.zeroValue211
 t55:=Tryz.underlying176
 a55:=Tryz.isAgg176
 z55:=Tryz.sizeOf176
 v55:=Tryz.zeroValue176
 t66:=Tryz.underlying291
 a66:=Tryz.isAgg291
 z66:=Tryz.sizeOf291
 v66:=Tryz.zeroValue291
 t70:=Tryz.underlying295
 a70:=Tryz.isAgg295
 z70:=Tryz.sizeOf295
 v70:=Tryz.zeroValue295
 t76:=Tryz.underlying300
 a76:=Tryz.isAgg300
 z76:=Tryz.sizeOf300
 v76:=Tryz.zeroValue300
 t77:=Tryz.underlying301
 a77:=Tryz.isAgg301
 z77:=Tryz.sizeOf301
 v77:=Tryz.zeroValue301 }
end Go.Proofs
end
namespace Go.Proofs.YtcdopfdgknglfaaGreatDoor
open Go.RowKit
section
attribute [local go_sem] Oper.semAt_some
theorem QD:(Tryz.prog.info? 3).map (λi=>(i.zero,i.size,i.bytes))=some (some (.int .i64 0),1,8):=by kernel_rfl
theorem Bv(B n₀:Nat)(xs:List Int)(w:World)(hn₀:n₀<=w.heap.size)(hlen:xs.length<=1000)(hseq:y9 n₀ B xs w) :
 Calls Tryz.prog 254 #[.slice none 0 0,.func (.func 232) #[] #[.pointer (some ⟨B,0,none⟩)]] w λe w'=>∃v,e=.returned v/\Row 3 1 (one encI) w.heap.size w' v xs/\Ext w w':=by
 refine(callsIn_wide (n:=9)).1 ?_
 refine callsIn_of_wp_marks Tryz.func254 rfl trivial ?_ rfl;simp only[Tryz.ntmps254,List.size_toArray,eF,jK,Nat.reduceAdd,Nat.reduceSub,Array.replicate_succ,Array.replicate_zero,List.push_toArray,List.append_toArray,List.nil_append,List.cons_append]
 gi_wp2
 have bO:=Boxed.new w 56 (.slice none 0 0);have eB:Ext w (w.alloc (.cells #[.slice none 0 0] 56)):=(af _).alloc _;obtain⟨W0,hW0⟩:∃W0,w.alloc (.cells #[.slice none 0 0] 56)=W0:=⟨_,rfl⟩;have hsz:W0.heap.size=w.heap.size+1:=by rw[<-hW0];simp
 rw[hW0]at bO eB ⊢;clear hW0;refine wpIn_rangeFunc_ownG rfl (by omega) (gf:=232) (lb:=#[.pointer (some ⟨B,0,none⟩)]) rfl trivial (enters_of Tryz.func232 (by kernel_rfl) rfl)
  hseq belowK_t (belowK_b (by omega)) eB (λ_=>rfl)
  (λpre W=>(∃v,Boxed W w.heap.size 56 v/\W.ownsRow w.heap.size 3 1 v pre.length (pre.flatMap (aG 1 (one encI)))/\True)/\Below w.heap.size w W)
  (λ_ _ _=>False)
  (OwnFrom.and (Go.Own.from (holdsRow_own w.heap.size w.heap.size _ _ 1 (λpre:List Int=>pre.length) (λpre:List Int=>pre.flatMap (aG 1 (one encI))) (λ_ _=>True)) _) (ownFrom_below (ay _) (by omega)))
  (λ_ _ _ _ _ hs _ _=>hs)
  ⟨⟨_,bO,World.ownsRow_nil _ _ _ _,trivial⟩,eB⟩
  (λx=>{ tmps:=#[.slice none 0 0,.func (.func 232) #[] #[.pointer (some ⟨B,0,none⟩)],.pointer (some ⟨w.heap.size,0,none⟩),undef,.slice none 0 0,.int .i64 x,.func (.func 232) #[] #[.pointer (some ⟨B,0,none⟩)],.int .i64 x,undef,undef,undef,undef,undef],defers:=[] }) ?assign ?body ?done ?stop
 case assign=>
  intro l x W K hK
  gi_wp2
  exact hK
 case body=>
  rintro l pre x W ⟨⟨v,hO,hrow,-⟩,hB⟩ hlt;obtain⟨i0,hi,hz0,hz1,hz2⟩:=info_parts QD;have cO:=hO.cell;have fO:=hO.frozen;have HO:=aa hO;have HR:=aa hrow;have HB:=aa hB;have hWs:=hB.size;clear hO hrow hB bO eB
  gi_wp2_with (gi_at_builtin;refine halt ?_)
  refine Halt.go ?_;refine wpListIn_append_own _ rfl _ _ 56 rfl w.heap.size 3 i0 (.int .i64 0) 1 8 Tryz.underlying56 hi hz0 hz1 hz2 rfl (by decide) _ _ _ rfl (World.ownsRow.alloc HR.out _) ⟨_,0,none⟩ 1 1 [.int .i64 x] rfl rfl (Ld _ _ _ _ rfl) (by simp[Value.oneCell']) (by simp only[maxLen];omega) (by omega) (by simp;omega) ?_;intro v' w9 hown' hgrow _;obtain⟨g',cap',rfl⟩:=ownsRow_succ hown';have AP:=aa (Boxed.appended HO.out (by decide) HR.out (by omega) (by omega) hown' hgrow);have hc1:=AP.out.1.cell;have hf1:=AP.out.1.frozen
  gi_wp2
  have hrw:=AP.out.2.2.1;refine⟨AP.out.2.2.2.1.from _,AP.out.2.2.2.2.mono hn₀,⟨_,AP.out.2.1,?_,trivial⟩,HB.out.trans AP.out.2.2.2.2⟩;simp only[bN,nI,kI]
  simpa[aG,one,encI] using hrw
 case done=>
  rintro D ys W hD rfl ⟨⟨v,hO,hrow,-⟩,hB⟩ hK;have hr:Row 3 1 (one encI) w.heap.size W v ys:=hrow;have HR:=aa hr;have HB:=aa hB;have cO:=hO.cell;clear hr hrow hO hB bO eB
  gi_wp2
  refine⟨by simp,.inl ⟨_,_,rfl,run_takeDeferred hK,?_⟩⟩;exact⟨_,results_tmp rfl _ _ _,v,rfl,ownsRow_putObj HR.out _ hK rfl,Below.trans HB.out (belowK_b (w:=w) (ay _) _ D _ _ (by omega) hK rfl rfl)⟩
 case stop=>
  rintro D c_ pre W _ _ h _;exact h.elim
theorem Fv(B n₀:Nat)(xs:List Int)(w:World)(hn₀:n₀<=w.heap.size)(hlen:xs.length<=1000)(hseq:y9 n₀ B xs w) :
 Calls Tryz.prog 230 #[.func (.func 232) #[] #[.pointer (some ⟨B,0,none⟩)]] w λe w'=>∃v,e=.returned v/\Row 3 1 (one encI) w.heap.size w' v xs/\Ext w w':=by
 go_enter Tryz.func230,Tryz.ntmps230;go_wp2_with fail
 refine(Bv B n₀ xs _ hn₀ hlen hseq).mono ?_
 rintro e w1 ⟨v,rfl,hr,b1⟩;go_wp2;go_returns;exact⟨_,rfl,hr,b1⟩
theorem yw(B n₀:Nat)(xs:List Int)(w:World)(hn₀:n₀<=w.heap.size)(hlen:xs.length<=7)(hseq:y9 n₀ B xs w) :
 Calls Tryz.prog 200 #[.func (.func 232) #[] #[.pointer (some ⟨B,0,none⟩)]] w λe w'=>∃v ys,e=.returned v/\ys.Perm xs/\ys.Pairwise (·<=·)/\mD encI w' v ys/\Ext w w':=by
 go_enter Tryz.func200,Tryz.ntmps200;go_wp2_with fail
 refine(Fv B n₀ xs _ hn₀ (by omega) hseq).mono ?_
 rintro e w1 ⟨v,rfl,hr,b1⟩;have HR:=aa hr;have HB:=aa b1;obtain⟨A,c,rfl,-⟩:=hr.cell.1;clear hr b1;go_wp2_with fail
 refine(Kv _ HR.out.cell.1.Si HR.out.cell.2 hlen).mono ?_
 rintro e w2 ⟨rfl,ys,hp,hs,hy,ho⟩;have HP:=aa (aL hp hs);have HY:=aa hy;have HO:=aa ho;clear hp hs hy ho;go_wp2;go_returns;exact⟨_,ys,rfl,HP.out.1,HP.out.2,HY.out,Ext.only HB.out HO.out HR.out.cell.2 (ay _)⟩
end
theorem Dw{xs ys:List Int}(hl:xs.length=ys.length)(h:∀(i:Nat) (x y:Int),xs[i]? =some x->ys[i]? =some y->x=y):xs=ys:=by
 apply List.ext_getElem?;intro i;by_cases hi:i<xs.length
 ·have h2:i<ys.length:=by omega
  rw[dz hi,dz h2];exact fU some (h i _ _ (dz hi) (dz h2))
 ·rw[LW (by omega),LW (by omega)]
theorem BJ{v v':Value}{xs ys:List Int}(w:World)(h:mD encI w v xs)(h':mD encI w v' ys)(hlen:xs.length<=2097152) :
 Calls Tryz.prog 202 #[v,v'] w λe w'=>e=.returned (.bool (decide (xs=ys)))/\Ext w w':=by
 obtain⟨A,c,rfl,h⟩:=h;obtain⟨A',c',rfl,h'⟩:=h';by_cases hl:xs.length=ys.length;case neg=>
  have hd:Hid (decide (xs=ys)=false):=by show _ = _;exact jW λe=>hl (by rw[e])
  have hq:((xs.length:Int)==(ys.length:Int))=false:=by rw[oO];omega
  clear h h' hl;go_enter Tryz.func202,Tryz.ntmps202;go_wp2;go_returns;exact⟨aU hd.out.symm,af _⟩
 have HL:=aa hl;rw[<-hl]at h';rw[<-hl];clear hl;go_enter Tryz.func202,Tryz.ntmps202;go_wp2;go_loopw [13] (λi wr=>Ext w wr/\∃k:Nat,k<=xs.length/\i=.int .i64 k/\Hid (∀(i:Nat) (x y:Int),i<k->xs[i]? =some x->ys[i]? =some y->x=y)) (λi _=>xs.length-(intOf i).toNat)
 case atStart=>exact⟨af _,0,bR _,rfl,λ_ _ _ h=>absurd h (oF _)⟩
 case round=>
  obtain⟨hb,k,hk,rfl,HI⟩:=hrel;by_cases hlt:k<xs.length
  ·obtain⟨b,off,rfl,hbl,hc⟩:=h (by omega);obtain⟨b',off',rfl,DF,hc'⟩:=h' (by omega);obtain⟨x,hx⟩:=au hlt;obtain⟨y,hy⟩:=au (show k<ys.length by have:=HL.out;omega);have c0:∀e,(over wr e).cell? ⟨b,off+k,none⟩=some (.int .i64 x):=fI (hb.cell (hc k x hx));have d0:∀e,(over wr e).cell? ⟨b',off'+k,none⟩=some (.int .i64 y):=fI (hb.cell (hc' k y hy));have HX:=aa (aL hx hy);clear hx hy h h' hc hc';by_cases hxy:x=y
   ·have hN:Hid (∀(i:Nat) (x y:Int),i<k+1->xs[i]? =some x->ys[i]? =some y->x=y):=λi x1 y1 hi h1 h2=>by
     by_cases e:i=k
     ·subst e;rw[HX.out.1]at h1;rw[HX.out.2]at h2;cases h1;cases h2;exact hxy
     ·exact HI.out i x1 y1 (by omega) h1 h2
    have hne:(x != y)=false:=by rw[hxy];simp
    clear hxy;go_wp2;refine fP (by kernel_rfl) (by kernel_rfl) ?_;repeat (go_big_quiet_step ((fail)))
    refine tC ?_;intro w1 hb1;go_wp2;go_roundw;case rel=>exact⟨hb.trans hb1,k+1,by omega,by go_num,hN⟩
    case measure=>simp[intOf];omega
   ·have hd:Hid (decide (xs=ys)=false):=by
     show _ = _;refine jW λe=>hxy ?_;have h1:=HX.out.1;rw[e,HX.out.2]at h1
     exact(dS h1).symm
    have hne:(x != y)=true:=by simpa using hxy
    clear hxy;go_wp2;refine fP (by kernel_rfl) (by kernel_rfl) ?_;repeat (go_big_quiet_step ((fail)))
    refine tC ?_;intro w1 hb1;go_wp2;go_returns;exact⟨aU hd.out.symm,hb.trans hb1⟩
  ·obtain rfl:k=xs.length:=by omega
   have hd:Hid (decide (xs=ys)=true):=by show _ = _;exact kQ (Dw HL.out λi x y hx hy=>HI.out i x y (aS.1 hx).1 hx hy)
   go_wp2;go_returns;exact⟨aU hd.out.symm,hb⟩
theorem CK{A:Option Addr}{c:Nat}{xs:List Int}(w:World)(h:I1 w (.slice A xs.length c) xs)(hlen:xs.length<=2097152):y9 w.heap.size w.heap.size xs (w.alloc (.cells #[.slice A xs.length c] 56)):=by
 have Ur:Boxed (w.alloc (.cells #[.slice A xs.length c] 56)) w.heap.size 56 (.slice A xs.length c):=Boxed.new _ _ _;have hE:Ext w (w.alloc (.cells #[.slice A xs.length c] 56)):=(af _).alloc _;rcases Nat.eq_zero_or_pos xs.length with h0|h0
 ·obtain rfl:xs=[]:=kZ h0;exact values_stops w.heap.size w.heap.size c A [] _ (by simp) (by simp) Ur.cell 0 0 (λh=>by simp at h) (λh=>by simp at h) hE.size (λi x hx=>by simp at hx)
 ·obtain⟨b,off,rfl,hb,hc⟩:=nR.cells h h0;exact values_stops w.heap.size w.heap.size c _ xs _ (by simp) hlen Ur.cell b off (λ_=>rfl) (λ_=>hb) hE.size (λi x hx=>hE.cell (hc i x hx))
theorem Fh{xs ys a b:List Int}(h:xs.Perm ys)(ha:a.Perm xs)(hb:b.Perm ys)(sa:a.Pairwise (·<=·))(sb:b.Pairwise (·<=·)):a=b:=
 List.Perm.eq_of_pairwise (le:=λx y=>x<=y) (λx y _ _ h1 h2=>by omega) sa sb ((ha.trans h).trans hb.symm)
def rE(h:List aF)(os:List (List Int)):Prop:=os.length=3/\∀(k:Nat) o,os[k]? =some o->o.Perm (aP h (k:Int))
theorem D8{h:List aF}{os:List (List Int)}(hm:os∈gD h):rE h os:=by
 unfold gD at hm;split at hm;case isFalse=>cases hm
 refine⟨lN hm,?_⟩;have key:∀{k:Nat} {x:List (List Int)},x∈bq h k->∀(j:Nat) o,x[j]? =some o->o.Perm (aP h (j:Int)):=by
  intro k
  induction k with
  | zero=>intro x hx j o ho;simp[bq]at hx;subst hx;simp at ho
  | succ k ih=>
    intro x hx j o ho;have hx':=hx;simp only[bq,List.mem_flatMap,dX]at hx';obtain⟨b,hb,p,hp,rfl⟩:=hx';have hbl:=lN hb;rcases eX j k with h1|h1
    ·rw[nZ (by omega)]at ho;exact ih hb j o ho
    ·have:j=k:=by
      have:=(aS.1 ho).1
      simp at this;omega
     subst this;rw[qp (by omega),hbl]at ho;simp at ho;subst ho;exact pU hp
 exact key hm
theorem o7{v u:Value}{h:List aF}{os:List (List Int)}(w:World)(H:lV w v h)(hok:aH h=true)(hu:I2 w u os)(ho:rE h os) :
 Calls Tryz.prog 169 #[v,u] w λe w'=>e=.returned (.bool true)/\Ext w w':=by
 obtain⟨A,c,rfl⟩:=H.slice;obtain⟨Au,cu,rfl,_⟩:=Ls.slice hu;have HH:=aa H;have HU:=aa hu;have jh:=aa hok;have hlen:=aT hok;have hol:os.length=3:=ho.1;have HO:=aa ho.2;have h4:=λ(order:List Int) (k:Nat) (hk:os[k]? =some order)=>(show order.length<=6 by rw[(HO.out k order hk).length_eq];have:=jd h (k:Int);omega);have HL:=aa h4;clear H hok hu ho h4;rw[hol]at HU ⊢;go_enter Tryz.func169,Tryz.ntmps169;go_wp2_with fail
 refine(aZ _ HH.out (by omega) (bD jh.out)).mono ?_
 rw[jh.out];rintro e w1 ⟨rfl,b1⟩;have HB1:=aa b1;clear b1;go_wp2;go_loopw [19] (λi wr=>Ext w wr/\∃k:Nat,k<=3/\i=.int .i64 k) (λi _=>3-(intOf i).toNat)
 case atStart=>exact⟨HB1.out,0,by omega,rfl⟩
 case round=>
  obtain⟨hb,k,hk,rfl⟩:=hrel;by_cases hlt:k<3
  ·obtain⟨order,hor⟩:=au (show k<os.length by omega);obtain⟨b,off,rfl,_,hc⟩:=Ls.cells HU.out (by omega);obtain⟨uo,Qx,hP⟩:=hc k order hor;replace Qx:=hb.cell Qx;have h6:=HL.out order k hor;have hP':=nR.ext hP hb;obtain⟨Ao,co,rfl,_⟩:=nR.slice hP';have HP:=aa hP';have HPM:=aa (HO.out k order hor);clear hc hP hP' hor;have hlt3:(k:Int)<3:=by omega
   go_wp2_with fail
   refine(Ac _ _ _ _).mono ?_
   rintro e w2 ⟨rfl,rfl⟩;have E2:=aa ((af wr).alloc (.cells #[.slice Ao order.length co] 56));go_wp2_with fail
   refine(yw wr.heap.size wr.heap.size order _ E2.out.size (by omega) (CK wr HP.out (by omega))).mono ?_
   rintro e w3 ⟨v3,ya,rfl,hp,hs,hy,b3⟩;have TS:=aa (aL hp (aL hs hy));have E3:=aa (hb.trans (E2.out.trans b3));clear hp hs hy b3;obtain⟨A3,c3,rfl,_⟩:=TS.out.2.2;go_wp2_with fail
   refine(qG (k:Int) _ (HH.out.ext E3.out) jh.out (cK.2 (by omega))).mono ?_
   rintro e w4 ⟨v4,rfl,r4,b4⟩;have hs4:=nR.fu r4;obtain⟨A4,c4,rfl,_⟩:=hs4.slice;have GM:=aa hs4;have h64:=jd h (k:Int);have B4:=aa b4;clear r4 hs4 b4;go_wp2_with fail
   refine(Ac _ _ _ _).mono ?_
   rintro e w5 ⟨rfl,rfl⟩;have E5:=aa ((af w4).alloc (.cells #[.slice A4 (aP h (k:Int)).length c4] 56));go_wp2_with fail
   refine(yw w4.heap.size w4.heap.size (aP h (k:Int)) _ E5.out.size (by omega) (CK w4 GM.out (by omega))).mono ?_
   rintro e w6 ⟨v6,yb,rfl,hp,hs,hy,b6⟩;have hab:=Fh HPM.out TS.out.1 hp TS.out.2.1 hs;have B6:=aa (B4.out.trans (E5.out.trans b6));have HYB:=aa hy;have Xx:=aa (kQ hab);have hyl:ya.length<=6:=by rw[TS.out.1.length_eq];omega
   obtain⟨A6,c6,rfl,_⟩:=HYB.out;clear hp hs hy b6 hab;go_wp2_with fail
   refine(BJ _ (TS.out.2.2.ext B6.out) HYB.out (by omega)).mono ?_
   rw[Xx.out];rintro e w7 ⟨rfl,b7⟩;have E7:=aa (E3.out.trans (B6.out.trans b7));go_wp2;go_roundw;case rel=>exact⟨E7.out,k+1,by omega,by go_num⟩
   case measure=>simp[intOf];omega
  ·obtain rfl:k=3:=by omega
   go_wp2;go_returns;exact⟨rfl,hb⟩
def sF(x y:Int):Int:=if x<y then -1 else if y<x then 1 else 0
theorem DV(x y:Int)(w:World):Calls Tryz.prog 259 #[.int .i64 x,.int .i64 y] w λe w'=>e=.returned (.int .i64 (sF x y))/\w=w':=by
 rcases Int.lt_trichotomy x y with h|h|h
 ·have h1:sF x y=-1:=ah h;have h2:decide (x<y)=true:=kQ h;rw[h1];clear h1;go_enter Tryz.func259,Tryz.ntmps259;go_wp2_with (first|(go_at_call 286;refine(rT _ _).mono ?_;rintro e w' ⟨rfl,rfl⟩))
  go_returns;exact⟨rfl,rfl⟩
 ·subst h;have h1:sF x x=0:=by simp[sF]
  have h2:decide (x<x)=false:=by simp
  rw[h1];clear h1;go_enter Tryz.func259,Tryz.ntmps259;go_wp2_with (first|(go_at_call 286;refine(rT _ _).mono ?_;rintro e w' ⟨rfl,rfl⟩))
  go_returns;exact⟨rfl,rfl⟩
 ·have h1:sF x y=1:=by rw[sF,ak (by omega),ah h]
  have h2:decide (x<y)=false:=jW (by omega);have h3:decide (y<x)=true:=kQ h;have h4:¬x<y:=by omega
  rw[h1];clear h1;go_enter Tryz.func259,Tryz.ntmps259;go_wp2_with (first|(go_at_call 286;refine(rT _ _).mono ?_;rintro e w' ⟨rfl,rfl⟩))
  go_returns;exact⟨rfl,rfl⟩
def NV(xs:List Int):Int:=(xs.find? (· != 0)).getD 0
theorem Nz{xs:List Int}{k:Nat}(h:∀(i:Nat) x,i<k->xs[i]? =some x->x=0)(hk:xs.length<=k):NV xs=0:=by
 unfold NV;rw[List.find?_eq_none.2]
 ·rfl
 ·intro x hx;obtain⟨i,hi,rfl⟩:=jw hx
  have:=h i xs[i] (by omega) (dz hi)
  simp[this]
theorem JU:∀{xs:List Int} {k:Nat} {x:Int},xs[k]? =some x->x≠0->(∀(i:Nat) y,i<k->xs[i]? =some y->y=0)->NV xs=x
 | [],k,x,h,_,_=>by simp at h
 | a :: xs,0,x,h,hx,_=>by simp at h;subst h;simp[NV,hx]
 | a :: xs,k+1,x,h,hx,h0=>by
   have ha:a=0:=h0 0 a (by omega) rfl
   have:=JU (xs:=xs) (k:=k) (by simpa using h) hx (λi y hi hy=>h0 (i+1) y (by omega) (by simpa using hy))
   unfold NV at this ⊢;rw[List.find?_cons,ha];exact this
theorem KE{v:Value}{xs:List Int}(w:World)(h:mD encI w v xs)(hlen:xs.length<=1000):Calls Tryz.prog 258 #[v] w λe w'=>e=.returned (.int .i64 (NV xs))/\w=w':=by
 obtain⟨A,c,rfl,hc⟩:=h;have HC:=aa hc;clear hc;go_enter Tryz.func258,Tryz.ntmps258;go_wp2;go_loopw [8] (λi wr=>w=wr/\∃k:Nat,k<=xs.length/\i=.int .i64 k/\Hid (∀(i:Nat) x,i<k->xs[i]? =some x->x=0)) (λi _=>xs.length-(intOf i).toNat)
 case atStart=>exact⟨rfl,0,bR _,rfl,λ_ _ h=>absurd h (oF _)⟩
 case round=>
  obtain⟨rfl,k,hk,rfl,HI⟩:=hrel;by_cases hlt:k<xs.length
  ·obtain⟨b,off,rfl,hb,hc⟩:=HC.out (by omega);obtain⟨x,hx⟩:=au hlt;have c0:=hc k x hx;simp only[encI]at c0;by_cases h0:x=0
   ·have hz:(x==0)=true:=by simp[h0]
    have HN:Hid (∀(i:Nat) y,i<k+1->xs[i]? =some y->y=0):=λi y hi hy=>by
     rcases eX i k with h|h
     ·exact HI.out i y h hy
     ·obtain rfl:i=k:=by omega
      rw[hx]at hy;cases hy;exact h0
    clear hc hx HI;go_wp2;go_roundw;case rel=>exact⟨trivial,k+1,by omega,by go_num,HN.out⟩
    case measure=>simp[intOf];omega
   ·have hz:(x==0)=false:=by simp[h0]
    have HN:=aa (JU hx h0 HI.out);clear hc hx HI;go_wp2;go_returns;exact⟨dH HN.out.symm,rfl⟩
  ·obtain rfl:k=xs.length:=by omega
   have HN:=aa (Nz HI.out (ay _));clear HI;go_wp2;go_returns;exact⟨dH HN.out.symm,rfl⟩
def Qi(x y:Edge):Int:=NV [sF x.iG y.iG,sF x.to y.to,sF x.kind y.kind]
theorem xD(x y:Edge)(W:World):Calls Tryz.prog 234 #[.agg #[.int .i64 x.iG,.int .i64 x.to,.int .i64 x.kind],.agg #[.int .i64 y.iG,.int .i64 y.to,.int .i64 y.kind]] W λe w'=>e=.returned (.int .i64 (Qi x y))/\∃q os',w'=Sort.grow (W.drewN q) os':=by
 have e1:Ext W (W.alloc (.cells #[.int .i64 x.iG,.int .i64 x.to,.int .i64 x.kind] 200)):=(af _).alloc _;obtain⟨W2,hW2⟩:∃W2,(W.alloc (.cells #[.int .i64 x.iG,.int .i64 x.to,.int .i64 x.kind] 200)).alloc (.cells #[.int .i64 y.iG,.int .i64 y.to,.int .i64 y.kind] 200)=W2:=⟨_,rfl⟩;have hs1:(W.alloc (.cells #[.int .i64 x.iG,.int .i64 x.to,.int .i64 x.kind] 200)).heap.size=W.heap.size+1:=by simp
 have hs2:W2.heap.size=W.heap.size+2:=by rw[<-hW2];simp
 have c0:W2.cell? ⟨W.heap.size,0,none⟩=some (.int .i64 x.iG):=by rw[<-hW2];exact((af _).alloc _).cell (az rfl)
 have c1:W2.cell? ⟨W.heap.size,1,none⟩=some (.int .i64 x.to):=by rw[<-hW2];exact((af _).alloc _).cell (az rfl)
 have c2:W2.cell? ⟨W.heap.size,2,none⟩=some (.int .i64 x.kind):=by rw[<-hW2];exact((af _).alloc _).cell (az rfl)
 have d0:W2.cell? ⟨W.heap.size+1,0,none⟩=some (.int .i64 y.iG):=by rw[<-hW2];exact jF hs1 rfl
 have d1:W2.cell? ⟨W.heap.size+1,1,none⟩=some (.int .i64 y.to):=by rw[<-hW2];exact jF hs1 rfl
 have d2:W2.cell? ⟨W.heap.size+1,2,none⟩=some (.int .i64 y.kind):=by rw[<-hW2];exact jF hs1 rfl
 have hgr:Hid (∀o,W2.drew.alloc o=Sort.grow (W.drewN 1) #[.cells #[.int .i64 x.iG,.int .i64 x.to,.int .i64 x.kind] 200,.cells #[.int .i64 y.iG,.int .i64 y.to,.int .i64 y.kind] 200,o]):=λo=>by rw[<-hW2];simp only[Sort.alloc_eq_grow,Sort.grow_grow,Sort.drew_grow];rfl
 have HL:Hid (∀o1 o2 o3:Int,mD encI (W2.drew.alloc (.cells #[.int .i64 o1,.int .i64 o2,.int .i64 o3] 3)) (.slice (some ⟨W.heap.size+2,0,none⟩) 3 3) [o1,o2,o3]):=λo1 o2 o3=>by have h:=(Row.lit (m:=1) (enc:=one encI) W2.drew #[.int .i64 o1,.int .i64 o2,.int .i64 o3] 3 [o1,o2,o3] (by simp[aG,one,encI]) (by simp)).cell.1.Si;have hd:W2.drew.heap.size=W.heap.size+2:=hs2;rw[hd]at h;exact h
 have HR:Hid (Qi x y=NV [sF x.iG y.iG,sF x.to y.to,sF x.kind y.kind]):=rfl;go_enter Tryz.func234,Tryz.ntmps234;go_wp2;go_region_held3 (λW'=>W'.cell? ⟨W.heap.size,0,none⟩=some (.int .i64 x.iG)/\W'.cell? ⟨W.heap.size,1,none⟩=some (.int .i64 x.to)/\W'.cell? ⟨W.heap.size,2,none⟩=some (.int .i64 x.kind)/\W'.cell? ⟨W.heap.size+1,0,none⟩=some (.int .i64 y.iG)/\W'.cell? ⟨W.heap.size+1,1,none⟩=some (.int .i64 y.to)/\W'.cell? ⟨W.heap.size+1,2,none⟩=some (.int .i64 y.kind)) (go_keep) ((first|(go_at_call 259;refine(DV _ _ _).mono ?_;rintro e w' ⟨rfl,rfl⟩)|(go_at_call 258;refine(KE _ (HL.out _ _ _) (by simp)).mono ?_;rintro e w' ⟨rfl,rfl⟩)))
 go_wp2;go_returns;exact⟨dH HR.out.symm,1,_,hgr.out _⟩
def uq(x:Edge):List Value:=[.int .i64 x.iG,.int .i64 x.to,.int .i64 x.kind]
instance:Inhabited Edge:=⟨⟨0,0,0⟩⟩
theorem Eo(x:Edge)(j:Nat)(hj:j<3):(uq x)[j]! =bL x j:=by
 match j,hj with
 | 0,_=>rfl
 | 1,_=>rfl
 | 2,_=>rfl
theorem Ka{w:World}{b off n c lo:Nat}{es:List Edge}(h:aI 3 bL w (.slice (some ⟨b,off,none⟩) n c) es)(ho:Own lo w (.slice (some ⟨b,off,none⟩) n c)):Sort.HoldsK uq 3 w b off es.toArray:=by
 intro t ht;rw[Sort.size_flatK]at ht;obtain⟨A',c',e,hc⟩:=h;injection e with e1 e2 e3;subst e1 e2 e3;have hn:0<es.length:=by
  rcases Nat.eq_zero_or_pos es.length with h0|h0
  ·simp[h0]at ht
  ·exact h0
 obtain⟨b',off',e,_,hc⟩:=hc hn;injection e with e;injection e with e1 e2;subst e1 e2;have hi:t/3<es.length:=by simp at ht;omega
 have:=hc (t/3) es[t/3] (dz hi) (t%3) (by omega)
 refine⟨?_,(ho _ _ _ rfl hn).2.2 _⟩;rw[Sort.get_flatK _ _ _ _ ht];have e1:(es.toArray)[t/3]! =es[t/3]:=by simp[hi]
 rw[e1,Eo _ _ (by omega),show off+t=off+t/3*3+t%3 by omega];exact this
theorem IC{w:World}{b off c:Nat}{d:Array Edge}(h:Sort.HoldsK uq 3 w b off d)(hb:b<w.heap.size):aI 3 bL w (.slice (some ⟨b,off,none⟩) d.size c) d.toList:=by
 refine⟨_,c,by simp,λ_=>⟨b,off,rfl,hb,λi x hx j hj=>?_⟩⟩;have hi:i<d.size:=by have:=(aS.1 hx).1;simpa using this
 have:=(Sort.HoldsK.cell h hi hj).1
 have e1:d[i]! =x:=by
  have:=(aS.1 hx).2
  simp at this;rw[getElem!_pos d i hi,this]
 rw[this,e1,Eo _ _ hj]
theorem rC{w:World}{b off n c m:Nat}{d:Array Edge}{os:Array Obj}(hn:0<n):Only (.slice (some ⟨b,off,none⟩) n c) w (sortWorldK uq 3 w b off m d os):=by
 unfold sortWorldK Sort.grow Sort.putRowK Sort.putRow Sort.mapBlock Sort.ahead;refine⟨rfl,rfl,rfl,by simp,λk hk hv=>?_,λp hp=>?_⟩
 ·have hne:=hv _ _ _ rfl hn;simp only at hne;simp only;rw[Array.getElem?_append_left (by simpa using hk),oM,ak hne]
 ·simp only[World.frozen?];rw[Array.getElem?_append_left (by simpa using hp),oM];by_cases e:b=p.block
  ·rw[ah e]
   cases w.heap[p.block]? with
   | none=>rfl
   | some o=>cases o<;>rfl
  ·rw[ak e]
theorem XD(a b c:Int):NV [a,b,c]=if a≠0 then a else if b≠0 then b else c:=by unfold NV;by_cases ha:a=0<;>by_cases hb:b=0<;>by_cases hc:c=0<;>simp[ha,hb,hc]
theorem Dl(x y:Int):sF x y<0↔x<y:=by unfold sF;split<;>(try split)<;>omega
theorem Cx(x y:Int):sF x y=0↔x=y:=by unfold sF;split<;>(try split)<;>omega
theorem Jh(x y:Edge):(Qi x y<0)↔(x.iG<y.iG∨(x.iG=y.iG/\(x.to<y.to∨(x.to=y.to/\x.kind<y.kind)))):=by
 unfold Qi;rw[XD];have h1:=Dl x.iG y.iG;have h2:=Cx x.iG y.iG;have h3:=Dl x.to y.to;have h4:=Cx x.to y.to;have h5:=Dl x.kind y.kind;split
 ·rename_i h;rw[h1];have:=mt h2.2 h;omega
 ·rename_i h;have h':=h2.1 (by omega);split
  ·rename_i h6;rw[h3];have:=mt h4.2 h6;omega
  ·rename_i h6;have h'':=h4.1 (by omega);rw[h5];omega
open Go.Sort in
theorem V5:SWO (ltOf Qi) where
 irrefl x:=by unfold ltOf;rw[decide_eq_false_iff_not,Jh];omega
 trans x y z h1 h2:=by unfold ltOf at *;rw[decide_eq_true_iff,Jh]at *;omega
 ntrans x y z h1 h2:=by unfold ltOf at *;rw[decide_eq_false_iff_not,Jh]at *;omega
theorem Ru(w:World):(isAgg 200).run Tryz.prog w=.ok true w:=by first|exact Oe (by kernel_rfl)|kernel_rfl|rfl
theorem Uw(w:World):(Go.sizeOf 200).run Tryz.prog w=.ok 3 w:=by first|kernel_rfl|rfl
theorem yA(args:Array Value)(W:World):(callFunc 234 args).run Tryz.prog W=.ok (.enter 234 args) W:=by kernel_rfl
open Go.Shelf Go.Lib Go.Sort in
theorem vJ{b off n c lo:Nat}{es:List Edge}(w:World)(h:aI 3 bL w (.slice (some ⟨b,off,none⟩) n c) es)(ho:Own lo w (.slice (some ⟨b,off,none⟩) n c))(hb:b<w.heap.size)(hn:0<n)(hlen:es.length<=2097152) :
 Calls Tryz.prog 233 #[.slice (some ⟨b,off,none⟩) n c,.func (.func 234) #[] #[]] w λe w'=>e=.returned (.tuple #[])/\∃es',es'.Perm es/\aI 3 bL w' (.slice (some ⟨b,off,none⟩) n c) es'/\Only (.slice (some ⟨b,off,none⟩) n c) w w':=by
 obtain rfl:n=es.length:=by obtain⟨A',c',e,_⟩:=id h;injection e
 have hH:=Ka h ho;have hcmp:CmpLays Tryz.prog 234 #[] uq 3 Qi b off es.toArray.size w:=λm os dk _ x y=>xD x y _;have hcon:=AnyQ.slices_SortFunc Tryz.sortEdge 3 Ru Uw uq (λ_=>rfl) (λx v hv=>by simp[uq]at hv;rcases hv with rfl|rfl|rfl<;>rfl) Qi V5 234 #[] b off c es.toArray w yA hcmp hH hb (by simp;omega)
 change Calls Tryz.prog 233 _ _ _ at hcon;refine hcon.mono ?_;rintro e w' ⟨rfl,d',m,os,hp,_,rfl⟩;have hsz:d'.size=es.length:=by have:=hp.1;simpa using this
 refine⟨rfl,d'.toList,?_,?_,rC hn⟩
 ·have:=hp.2.2
  simp only[List.size_toArray]at this;rw[show d'.extract 0 es.length=d' by rw[<-hsz];simp,show es.toArray.extract 0 es.length=es.toArray by simp]at this;simpa using this
 ·have h2:=holdsK_sortWorldK_c uq 3 w b off es.toArray d' m os hH hb (by simpa using hsz);rw[<-hsz];exact IC h2 (dJ hb (rC (n:=es.length) (c:=c) hn).size)
theorem Edge.ext'{x y:Edge}(h1:x.iG=y.iG)(h2:x.to=y.to)(h3:x.kind=y.kind):x=y:=by cases x;cases y;simp at h1 h2 h3;simp[h1,h2,h3]
instance:DecidableEq Edge:=λx y=>if h:x.iG=y.iG/\x.to=y.to/\x.kind=y.kind then isTrue (Edge.ext' h.1 h.2.1 h.2.2) else isFalse λe=>h (by rw[e];exact⟨rfl,rfl,rfl⟩)
def ddTo(es:List Edge):Nat->List Edge
 | 0=>[]
 | m+1=>match es[m]? with
   | none=>ddTo es m
   | some x=>if 0<m/\es[m-1]? =some x then ddTo es m else ddTo es m++[x]
theorem Gv{es:List Edge}{m:Nat}{x:Edge}(hx:es[m]? =some x)(hm:0<m)(hy:es[m-1]? =some x):ddTo es (m+1)=ddTo es m:=by rw[ddTo,hx];simp[hm,hy]
theorem Nu{es:List Edge}{m:Nat}{x y:Edge}(hx:es[m]? =some x)(hy:es[m-1]? =some y)(hne:x≠y):ddTo es (m+1)=ddTo es m++[x]:=by
 rw[ddTo,hx]
 have:¬(0<m/\es[m-1]? =some x):=λh=>hne (by rw[hy]at h;exact(dS h.2).symm)
 simp only[this,if_false]
theorem EH(es:List Edge):∀m,(ddTo es m).length<=m
 | 0=>ay _
 | m+1=>by
   have:=EH es m
   rw[ddTo];split
   ·omega
   ·split
    ·omega
    ·simp;omega
theorem FM{es:List Edge}:∀{m:Nat},m<=es.length->∀x,x∈ddTo es m↔x∈es.take m
 | 0,_,x=>by simp[ddTo]
 | m+1,h,x=>by
   have ih:=FM (es:=es) (m:=m) (by omega) x;obtain⟨y,hy⟩:=au (show m<es.length by omega);rw[aj hy,iR,wE,ddTo,hy];simp only;split
   ·rename_i h1;rw[ih];constructor
    ·exact .inl
    ·rintro (h2|rfl)
     ·exact h2
     ·refine aN (i:=m-1) ?_;rw[List.getElem?_take_of_lt (by omega)];exact h1.2
   ·rw[iR,wE,ih]
theorem rW{es:List Edge}:∀{k:Nat},k<=es.length->(∀(i:Nat) x y,0<i->i<k->es[i]? =some x->es[i-1]? =some y->x≠y)->ddTo es k=es.take k
 | 0,_,_=>by simp[ddTo]
 | k+1,h,hd=>by
   have ih:=rW (es:=es) (k:=k) (by omega) (λi x y h1 h2=>hd i x y h1 (by omega));obtain⟨x,hx⟩:=au (show k<es.length by omega);rw[aj hx,ddTo,hx,ih];simp only;split
   ·rename_i h1;exact absurd rfl (hd k x x h1.1 (by omega) hx h1.2)
   ·rfl
theorem uK(a b c a' b' c':Int)(W:World):(Op.equalIn 10000 200 (.agg #[.int .i64 a,.int .i64 b,.int .i64 c]) (.agg #[.int .i64 a',.int .i64 b',.int .i64 c'])).run Tryz.prog W=.ok (decide (a=a'/\b=b'/\c=c')) W:=by
 have u3:=Tryz.underlying3;have a3:=Tryz.isAgg3;have z3:=Tryz.sizeOf3;have hS:Tryz.prog.underlying 200=some (.struct (Tryz.prog.fieldsOf 200)):=by kernel_rfl
 have hp:Tryz.prog.stoodInHeld 200=false:=by kernel_rfl
 rw[show (10000:Nat)=9999+1 from rfl,run_equalIn_agg W 9999 _ _ _ hS hp];simp only[Program.fieldsOf,Tryz.underlying200];go_simp;by_cases h1:a=a'<;>by_cases h2:b=b'<;>by_cases h3:c=c'<;>simp[h1,h2,h3]
theorem tN:(Tryz.prog.info? 200).map (λi=>(i.zero,i.size,i.bytes))=some (some (.agg #[.int .i64 0,.int .i64 0,.int .i64 0]),3,24):=by kernel_rfl
theorem IK:Tryz.prog.eqGuardType Tryz.prog.depth 200=false:=by kernel_rfl
theorem qC{P:Program}(w:World)(t e ty:TypeId)(z:Value)(ht:P.underlying t=some (.slice e))(hv:∀w,(zeroValue e).run P w=.ok z w)(b o n c:Nat)(hn:0<n)(cs:List Value)(hcs:(Builtin.zeroCells z.cells n).toList=cs)
 (hc:∀j,j<cs.length->(w.cell? ⟨b,o+j,none⟩).isSome=true) (hf:∀j,j<cs.length->w.frozen? ⟨b,o+j,none⟩=false) (h1:∀v∈cs,v.oneCell'=true) :
 (Builtin.clear_ #[t] ty #[.slice (some ⟨b,o,none⟩) n c]).run P w=.ok (.tuple #[]) (w.setCells b o cs):=by
 have hst:=run_storeCells_cells (P:=P) b o cs 0 w (by simpa using hc) (by simpa using hf) h1;simp only[gL]at hst;obtain⟨m,rfl⟩:∃m,n=m+1:=⟨n-1,by omega⟩;simp[Builtin.clear_,run_underlying ht,hv,hcs,hst]
theorem Ki{w:World}{b off n c:Nat}{zs:List Edge}(h:aI 3 bL w (.slice (some ⟨b,off,none⟩) n c) zs){q:Nat}(hq:q<zs.length)(x:Edge) :
 aI 3 bL (((w.setCell ⟨b,off+q*3,none⟩ (.int .i64 x.iG)).setCell ⟨b,off+q*3+1,none⟩ (.int .i64 x.to)).setCell ⟨b,off+q*3+2,none⟩ (.int .i64 x.kind)) (.slice (some ⟨b,off,none⟩) n c) (zs.set q x):=by
 have hw:(((w.setCell ⟨b,off+q*3,none⟩ (.int .i64 x.iG)).setCell ⟨b,off+q*3+1,none⟩ (.int .i64 x.to)).setCell ⟨b,off+q*3+2,none⟩ (.int .i64 x.kind))=w.setCells b (off+q*3) (uq x):=rfl;rw[hw];obtain⟨A',c',e,hc⟩:=h;injection e with e1 e2 e3;subst e1 e2 e3;refine⟨_,_,by rw[jO],λhn=>?_⟩;rw[jO]at hn;obtain⟨b',off',e,hbl,hc⟩:=hc hn;injection e with e;injection e with e1 e2;subst e1 e2;have hsz:∀(vs:List Value) (o:Nat) (w:World),(w.setCells b o vs).heap.size=w.heap.size:=λvs=>by
  induction vs with
  | nil=>intro o w;rfl
  | cons v r ih=>intro o w;rw[World.setCells,ih];simp[World.setCell]
 refine⟨b,off,rfl,by rw[hsz];exact hbl,λi z hz j hj=>?_⟩;rw[kF]at hz;obtain⟨z0,hz0⟩:=au hq;by_cases hi:q=i
 ·subst hi;rw[ah rfl,ah hq]at hz;cases hz
  have:=World.cell?_setCells_in b (uq x) (off+q*3) w (λj' hj'=>by
   have:=hc q z0 hz0 j' (by simpa[uq] using hj')
   rw[this];rfl) j (by simpa[uq] using hj)
  rw[this,<-Eo x j hj];rw[getElem!_pos (uq x) j (by simpa[uq] using hj)]
 ·rw[ak hi]at hz;rw[World.cell?_setCells_out _ _ _ _ _ (λ_ _=>by
   have:(uq x).length=3:=rfl
   rw[this];simp only
   omega)]
  exact hc i z hz j hj
theorem JI{α:Type}{l r:List α}{q:Nat}(hq:q=l.length){x z:α}(hz:r[0]? =some z):(l++r).set q x=l++[x]++r.drop 1:=by
 subst hq
 cases r with
 | nil=>simp at hz
 | cons a r=>simp
theorem UD{w:World}{b off n c q:Nat}{u1 u2 u3:Value}(hn:0<n):Only (.slice (some ⟨b,off,none⟩) n c) w (((w.setCell ⟨b,q,none⟩ u1).setCell ⟨b,q+1,none⟩ u2).setCell ⟨b,q+2,none⟩ u3):=
 ((Only.setCell (a:=⟨b,off,none⟩) hn q u1).trans (Only.setCell (a:=⟨b,off,none⟩) hn (q+1) u2)).trans (Only.setCell (a:=⟨b,off,none⟩) hn (q+2) u3)
theorem Cu{b off n c:Nat}(hn:0<n):∀(vs:List Value) (o:Nat) (w:World),Only (.slice (some ⟨b,off,none⟩) n c) w (w.setCells b o vs)
 | [],_,w=>Only.aO (af w)
 | v :: r,o,w=>(Only.setCell (a:=⟨b,off,none⟩) hn o v).trans (Cu hn r (o+1) _)
theorem MF{w:World}{b off n c q:Nat}{zs rest:List Edge}(h:aI 3 bL w (.slice (some ⟨b,off,none⟩) n c) (zs++rest))(hq:zs.length=q)(vs:List Value):aI 3 bL (w.setCells b (off+q*3) vs) (.slice (some ⟨b,off,none⟩) q c) zs:=by
 obtain⟨A',c',e,hc⟩:=h;injection e with e1 e2 e3;subst e1 e2 e3;have hsz:∀(vs:List Value) (o:Nat) (w:World),(w.setCells b o vs).heap.size=w.heap.size:=λvs=>by
  induction vs with
  | nil=>intro o w;rfl
  | cons v r ih=>intro o w;rw[World.setCells,ih];simp[World.setCell]
 refine⟨_,_,by rw[hq],λhn=>?_⟩;obtain⟨b',off',e,hbl,hc⟩:=hc (by rw[bN];omega);injection e with e;injection e with e1 e2;subst e1 e2;refine⟨b,off,rfl,by rw[hsz];exact hbl,λi z hz j hj=>?_⟩;have hi:=(aS.1 hz).1;rw[World.cell?_setCells_out _ _ _ _ _ (λ_ _=>by simp only;omega)];exact hc i z (by rw[nZ hi];exact hz) j hj
theorem xW{b off n c lo:Nat}{es:List Edge}(w:World)(h:aI 3 bL w (.slice (some ⟨b,off,none⟩) n c) es)(ho:Own lo w (.slice (some ⟨b,off,none⟩) n c))(hn:0<n)(hlen:es.length<=2097152)(hcap:n<=c/\c<=9223372036854775807) :
 Calls Tryz.prog 236 #[.slice (some ⟨b,off,none⟩) n c] w λe w'=>∃q,q<=n/\e=.returned (.slice (some ⟨b,off,none⟩) q c)/\aI 3 bL w' (.slice (some ⟨b,off,none⟩) q c) (ddTo es es.length)/\Only (.slice (some ⟨b,off,none⟩) n c) w w':=by
 obtain rfl:n=es.length:=by obtain⟨A',c',e,_⟩:=id h;injection e
 have H:=aa h;have hfr:=(ho _ _ _ rfl hn).2;have HF:=aa hfr;have hg:=IK;have hcut:=λ(k:Nat) (hk:k<es.length) W=>(nT (P:=Tryz.prog) (A:=some ⟨b,off,none⟩) (n:=es.length) (c:=c) Tryz.underlying172 tN k (by omega) W);clear h ho hfr;by_cases h2:es.length<2
 ·have hd:Hid (ddTo es es.length=es):=by show _ = _;rw[rW (ay _) (λi x y h1 h2=>by omega),bY]
  clear hcut;go_enter Tryz.func236,Tryz.ntmps236;go_wp2;go_returns;refine⟨_,ay _,rfl,?_,Only.aO (af _)⟩;rw[hd.out];exact H.out
 ·go_enter Tryz.func236,Tryz.ntmps236;have h2d:decide ((es.length:Int)<2)=false:=jW (by omega);go_wp2;go_loopw [3] (λi wr=>Ext w wr/\∃j:Nat,j+1<=es.length/\i=.int .i64 ((j:Int)+1)/\Hid (∀(i:Nat) x y,0<i->i<j+1->es[i]? =some x->es[i-1]? =some y->x≠y)) (λi _=>es.length-(intOf i).toNat)
  case atStart=>exact⟨af _,0,by omega,rfl,λi x y h1 h2=>by omega⟩
  case round=>
   obtain⟨hb,j,hj,rfl,HI⟩:=hrel;by_cases hlt:j+1<es.length
   ·obtain⟨A',c',e,hc⟩:=H.out.ext hb;injection e with e1 e2 e3;subst e1 e3;obtain⟨b',off',e,hbl,hc⟩:=hc (by omega);injection e with e;injection e with e1 e2';subst e1 e2';obtain⟨x,hx⟩:=au hlt;obtain⟨y,hy⟩:=au (show j<es.length by omega);have c0:wr.cell? ⟨b,off+(j+1)*3,none⟩=some (.int .i64 x.iG):=hc (j+1) x hx 0 (by omega);have c1:wr.cell? ⟨b,off+(j+1)*3+1,none⟩=some (.int .i64 x.to):=hc (j+1) x hx 1 (by omega);have c2:wr.cell? ⟨b,off+(j+1)*3+2,none⟩=some (.int .i64 x.kind):=hc (j+1) x hx 2 (by omega);have d0:wr.cell? ⟨b,off+j*3,none⟩=some (.int .i64 y.iG):=hc j y hy 0 (by omega);have d1:wr.cell? ⟨b,off+j*3+1,none⟩=some (.int .i64 y.to):=hc j y hy 1 (by omega);have d2:wr.cell? ⟨b,off+j*3+2,none⟩=some (.int .i64 y.kind):=hc j y hy 2 (by omega);have he:=λW=>uK x.iG x.to x.kind y.iG y.to y.kind W;have HX:=aa (aL hx hy);have i1:(0:Int)<=(j:Int)+1:=by omega
    have i2:(j:Int)+1<(es.length:Int):=by omega
    have i3:(0:Int)<=(j:Int):=by omega
    have w1:IntKind.i64.wrap ((j:Int)+1-1)=(j:Int):=by rw[Int.add_sub_cancel];exact jI _ (by omega)
    have w2:IntKind.i64.wrap (j:Int)=(j:Int):=jI _ (by omega);have i4:(j:Int)<(es.length:Int):=by omega
    have UM:=aa hcut;have hE:=hb.drew;clear hc hx hy e2 hcut;by_cases hm:x.iG=y.iG/\x.to=y.to/\x.kind=y.kind
    ·rw[kQ hm]at he;have hxy:x=y:=Edge.ext' hm.1 hm.2.1 hm.2.2;have HD:Hid (ddTo es (j+2)=es.take (j+1)):=by show _ = _;rw[Gv HX.out.1 (by omega) (by rw[Nat.add_sub_cancel,HX.out.2,hxy]),rW (by omega) HI.out]
     have hc1:∀W,(Instr.slice 172 (.slice (some ⟨b,off,none⟩) es.length c) (some (.int .i64 ((j:Int)+1))) none none).run Tryz.prog W=.ok (.slice (some ⟨b,off+(j+1)*3,none⟩) (es.length-(j+1)) (c-(j+1))) W:=λW=>by
      have:=UM.out (j+1) hlt W
      rw[ak (by omega)]at this
      simpa[Addr.add] using this
     clear hm hxy;go_wp2;go_region_held3 (λW=>W.cell? ⟨b,off+(j+1)*3,none⟩=some (.int .i64 x.iG)/\W.cell? ⟨b,off+(j+1)*3+1,none⟩=some (.int .i64 x.to)/\W.cell? ⟨b,off+(j+1)*3+2,none⟩=some (.int .i64 x.kind)/\W.cell? ⟨b,off+j*3,none⟩=some (.int .i64 y.iG)/\W.cell? ⟨b,off+j*3+1,none⟩=some (.int .i64 y.to)/\W.cell? ⟨b,off+j*3+2,none⟩=some (.int .i64 y.kind)) (go_keep) (fail)
     clear c0 c1 c2 d0 d1 d2 he;go_wp2;have MZ:Hid (aI 3 bL wr.drew (.slice (some ⟨b,off,none⟩) es.length c) (ddTo es (j+0+2)++es.drop (j+1))):=by show aI _ _ _ _ _;rw[gL,HD.out,List.take_append_drop];exact H.out.ext hE
     have HO0:Hid (Only (.slice (some ⟨b,off,none⟩) es.length c) w wr.drew):=Only.aO hE;have QX:Hid (j+1=(ddTo es (j+0+2)).length):=by show _ = _;rw[gL,HD.out,ig];omega
     clear hb hE;obtain⟨wo,rfl⟩:∃wo:World,wo=wr:=⟨_,rfl⟩;generalize hn':es.length-(j+1)=n2;have sw:=aa hn';clear hn' hc1;go_loopw [3,5] (λkv i wr=>∃q m:Nat,j+m+2<=es.length/\q<=j+m+1/\i=.int .i64 ((m:Int)+1)/\kv=.int .i64 (q:Int)/\Hid (Only (.slice (some ⟨b,off,none⟩) es.length c) w wr)/\Hid (q=(ddTo es (j+m+2)).length)/\Hid (aI 3 bL wr (.slice (some ⟨b,off,none⟩) es.length c) (ddTo es (j+m+2)++es.drop q))) (λ_ i _=>es.length-(intOf i).toNat)
     case atStart=>exact⟨j+1,0,by omega,by omega,rfl,by go_num,HO0,QX,MZ⟩
     case round=>
      obtain⟨q,m,hm,hq,rfl,rfl,HO,HL,HS⟩:=hrel;by_cases hmt:j+m+2<es.length
      ·obtain⟨A',c',e,hc⟩:=HS.out;injection e with e1 e2 e3;subst e1 e3;clear e2;have BH:=HL.out;have hzl:(ddTo es (j+m+2)++es.drop q).length=es.length:=by rw[bN,kU,<-BH];omega
       obtain⟨b',off',e,Rf,hc⟩:=hc (by omega);injection e with e;injection e with e1 e2';subst e1 e2';have hz:∀(i:Nat) z,q<=i->es[i]? =some z->(ddTo es (j+m+2)++es.drop q)[i]? =some z:=λi z hi h=>by rw[qp (by omega),<-BH,ry,show q+(i-q)=i by omega];exact h
       obtain⟨x2,hx2⟩:=au hmt;obtain⟨y2,hy2⟩:=au (show j+m+1<es.length by omega);obtain⟨z2,hz2⟩:=au (show q<(ddTo es (j+m+2)++es.drop q).length by omega);have gx:=hc (j+m+2) x2 (hz _ _ (by omega) hx2);have gy:=hc (j+m+1) y2 (hz _ _ (by omega) hy2);have gz:=hc q z2 hz2;rw[show off+(j+m+2)*3=off+(j+1)*3+(m+1)*3 by omega]at gx;rw[show off+(j+m+1)*3=off+(j+1)*3+m*3 by omega]at gy;have c0:wr.drew.cell? ⟨b,off+(j+1)*3+(m+1)*3,none⟩=some (.int .i64 x2.iG):=gx 0 (by omega);have c1:wr.drew.cell? ⟨b,off+(j+1)*3+(m+1)*3+1,none⟩=some (.int .i64 x2.to):=gx 1 (by omega);have c2:wr.drew.cell? ⟨b,off+(j+1)*3+(m+1)*3+2,none⟩=some (.int .i64 x2.kind):=gx 2 (by omega);have d0:wr.drew.cell? ⟨b,off+(j+1)*3+m*3,none⟩=some (.int .i64 y2.iG):=gy 0 (by omega);have d1:wr.drew.cell? ⟨b,off+(j+1)*3+m*3+1,none⟩=some (.int .i64 y2.to):=gy 1 (by omega);have d2:wr.drew.cell? ⟨b,off+(j+1)*3+m*3+2,none⟩=some (.int .i64 y2.kind):=gy 2 (by omega);have e0:wr.drew.cell? ⟨b,off+q*3,none⟩=some (.int .i64 z2.iG):=gz 0 (by omega);have e1:wr.drew.cell? ⟨b,off+q*3+1,none⟩=some (.int .i64 z2.to):=gz 1 (by omega);have e2:wr.drew.cell? ⟨b,off+q*3+2,none⟩=some (.int .i64 z2.kind):=gz 2 (by omega);have e0':wr.cell? ⟨b,off+q*3,none⟩=some (.int .i64 z2.iG):=gz 0 (by omega);have e1':wr.cell? ⟨b,off+q*3+1,none⟩=some (.int .i64 z2.to):=gz 1 (by omega);have e2':wr.cell? ⟨b,off+q*3+2,none⟩=some (.int .i64 z2.kind):=gz 2 (by omega);have hfw:∀i,wr.frozen? ⟨b,i,none⟩=false:=λi=>(HO.out.sD ⟨b,i,none⟩ HF.out.1).trans (HF.out.2 i);have f0':=hfw (off+q*3);have f1':=hfw (off+q*3+1);have f2':=hfw (off+q*3+2);have HOW:=HO;have HSW:=HS;clear hfw;have Js:∀i,wr.drew.frozen? ⟨b,i,none⟩=false:=λi=>(HO.out.sD ⟨b,i,none⟩ HF.out.1).trans (HF.out.2 i);have f0:=Js (off+q*3);have f1:=Js (off+q*3+1);have f2:=Js (off+q*3+2);have he:=λW=>uK x2.iG x2.to x2.kind y2.iG y2.to y2.kind W;have hq1:(q:Int)<(es.length:Int):=by omega
       have i5:(m:Int)+1<(n2:Int):=by have:=sw.out;omega
       have i6:(0:Int)<=(m:Int)+1:=by omega
       have i7:(m:Int)<(n2:Int):=by have:=sw.out;omega
       have v1:IntKind.i64.wrap ((m:Int)+1-1)=(m:Int):=by rw[Int.add_sub_cancel];exact jI _ (by omega)
       have v2:IntKind.i64.wrap (m:Int)=(m:Int):=jI _ (by omega);have Lx:Hid (Only (.slice (some ⟨b,off,none⟩) es.length c) w wr.drew):=HO.out.trans (Only.aO ((af _).drew));have HS2:Hid (aI 3 bL wr.drew (.slice (some ⟨b,off,none⟩) es.length c) (ddTo es (j+m+2)++es.drop q)):=HS.out.ext ((af _).drew);have Ni:=aa (aL hx2 hy2);have Vg:=aa hzl;clear hc hz hx2 hy2 hz2 gx gy gz Js HS HO hzl BH;by_cases hm2:x2.iG=y2.iG/\x2.to=y2.to/\x2.kind=y2.kind
       ·rw[kQ hm2]at he;have hxy:x2=y2:=Edge.ext' hm2.1 hm2.2.1 hm2.2.2;have HN:Hid (ddTo es (j+(m+1)+2)=ddTo es (j+m+2)):=by show _ = _;rw[show j+(m+1)+2=j+m+2+1 by omega,Gv Ni.out.1 (by omega) (by rw[show j+m+2-1=j+m+1 by omega,Ni.out.2,hxy])]
        clear hm2 hxy;go_wp2;go_region_held3 (λW=>W.cell? ⟨b,off+(j+1)*3+(m+1)*3,none⟩=some (.int .i64 x2.iG)/\W.cell? ⟨b,off+(j+1)*3+(m+1)*3+1,none⟩=some (.int .i64 x2.to)/\W.cell? ⟨b,off+(j+1)*3+(m+1)*3+2,none⟩=some (.int .i64 x2.kind)/\W.cell? ⟨b,off+(j+1)*3+m*3,none⟩=some (.int .i64 y2.iG)/\W.cell? ⟨b,off+(j+1)*3+m*3+1,none⟩=some (.int .i64 y2.to)/\W.cell? ⟨b,off+(j+1)*3+m*3+2,none⟩=some (.int .i64 y2.kind)) (go_keep) (fail)
        go_wp2;go_roundw;case rel=>exact⟨q,m+1,by omega,by omega,by go_num,rfl,Lx,by rw[HN.out];exact HL,by rw[HN.out];exact HS2⟩
        case measure=>simp[intOf];omega
       ·rw[jW hm2]at he;have hxy:x2≠y2:=λe=>hm2 (by rw[e];exact⟨rfl,rfl,rfl⟩);have HN:Hid (ddTo es (j+(m+1)+2)=ddTo es (j+m+2)++[x2]):=by show _ = _;rw[show j+(m+1)+2=j+m+2+1 by omega,Nu Ni.out.1 (by rw[show j+m+2-1=j+m+1 by omega];exact Ni.out.2) hxy]
        clear hm2 hxy;go_wp2;go_region_held3 (λW=>W.cell? ⟨b,off+(j+1)*3+(m+1)*3,none⟩=some (.int .i64 x2.iG)/\W.cell? ⟨b,off+(j+1)*3+(m+1)*3+1,none⟩=some (.int .i64 x2.to)/\W.cell? ⟨b,off+(j+1)*3+(m+1)*3+2,none⟩=some (.int .i64 x2.kind)/\W.cell? ⟨b,off+(j+1)*3+m*3,none⟩=some (.int .i64 y2.iG)/\W.cell? ⟨b,off+(j+1)*3+m*3+1,none⟩=some (.int .i64 y2.to)/\W.cell? ⟨b,off+(j+1)*3+m*3+2,none⟩=some (.int .i64 y2.kind)) (go_keep) (fail)
        go_wp2;go_roundw;case rel=>exact⟨q+1,m+1,by omega,by omega,by go_num,by go_num,HOW.out.trans ((UD hn).trans (Only.aO ((af _).drew))),by rw[HN.out,bN,<-HL.out];rfl,by
         have h3:=Ki HSW.out (q:=q) (by rw[Vg.out];omega) x2;obtain⟨zq,WU⟩:=au (show q<es.length by omega);rw[JI HL.out (z:=zq) (by rw[ry];exact WU),DR,<-HN.out]at h3;exact h3.ext ((af _).drew)⟩
        case measure=>simp[intOf];omega
      ·have heq:j+m+2=es.length:=by omega
       have BH:=HL.out;have hzl:(ddTo es (j+m+2)++es.drop q).length=es.length:=by rw[bN,kU,<-BH];omega
       have UT:∀W,(Instr.slice 172 (.slice (some ⟨b,off,none⟩) es.length c) (some (.int .i64 (q:Int))) none none).run Tryz.prog W=.ok (.slice (some ⟨b,off+q*3,none⟩) (es.length-q) (c-q)) W:=λW=>by
        have hadd:(⟨b,off,none⟩:Addr).add (q*3)=⟨b,off+q*3,none⟩:=by unfold Addr.add;split<;>simp_all
        have:=UM.out q (by omega) W
        rw[ak (by omega)]at this;simp only[Option.map_some,hadd]at this;exact this
       have PY:∀W,(Instr.slice 172 (.slice (some ⟨b,off,none⟩) es.length c) none (some (.int .i64 (q:Int))) none).run Tryz.prog W=.ok (.slice (some ⟨b,off,none⟩) q c) W:=λW=>by
        have:=qh (P:=Tryz.prog) (A:=some ⟨b,off,none⟩) (n:=es.length) (c:=c) Tryz.underlying172 tN q (by omega) W
        rw[ak (by omega)]at this
        simpa[Addr.add] using this
       obtain⟨cs,hcs⟩:∃cs,(Builtin.zeroCells (Value.agg #[Value.int .i64 0,Value.int .i64 0,Value.int .i64 0]).cells (es.length-q)).toList=cs:=⟨_,rfl⟩;have Qj:cs.length=(es.length-q)*3:=by rw[<-hcs];simp[Builtin.zeroCells,Value.cells]
       have hcs1:∀v∈cs,v.oneCell'=true:=by
        rw[<-hcs];intro v hv;simp[Builtin.zeroCells,Value.cells]at hv;obtain⟨a,_,rfl⟩:=hv;have h3:a%3<3:=zZ _ (by omega);generalize a%3=r at h3
        match r,h3 with
        | 0,_=>rfl
        | 1,_=>rfl
        | 2,_=>rfl
       have hcl:∀ty,(Builtin.clear_ #[172] ty #[.slice (some ⟨b,off+q*3,none⟩) (es.length-q) (c-q)]).run Tryz.prog wr=.ok (.tuple #[]) (wr.setCells b (off+q*3) cs):=
        λty=>qC wr _ _ ty _ Tryz.underlying172 (λw=>by kernel_rfl) b (off+q*3) _ _ (by omega) cs hcs (λi hi=>by
         obtain⟨A',c',e,hc⟩:=HS.out;injection e with e1 e2 e3;subst e1 e3;obtain⟨b',off',e,_,hc⟩:=hc (by omega);injection e with e;injection e with e1 e2';subst e1 e2';obtain⟨z,hz⟩:=au (show q+i/3<(ddTo es (j+m+2)++es.drop q).length by omega)
         have:=hc (q+i/3) z hz (i%3) (by omega)
         rw[show off+(q+i/3)*3+i%3=off+q*3+i by omega]at this;rw[this];rfl) (λi hi=>(HO.out.sD ⟨b,_,none⟩ HF.out.1).trans (HF.out.2 _)) hcs1
       have HW:Hid (aI 3 bL (wr.setCells b (off+q*3) cs) (.slice (some ⟨b,off,none⟩) q c) (ddTo es es.length)):=by
        have:=HS.out
        rw[heq]at this BH;exact MF this BH.symm cs
       have HOW:Hid (Only (.slice (some ⟨b,off,none⟩) es.length c) w (wr.setCells b (off+q*3) cs)):=HO.out.trans (Cu hn cs _ _);have i5:decide ((m:Int)+1<(n2:Int))=false:=jW (by have:=sw.out;omega);have Oz:q<=es.length:=by omega
       clear HS HO HL hzl BH hcs Qj hcs1 heq;go_wp2;go_returns;exact⟨q,Oz,rfl,HW.out,HOW.out⟩
    ·rw[jW hm]at he;have hne:x≠y:=λe=>hm (by rw[e];exact⟨rfl,rfl,rfl⟩);have HI2:Hid (∀(i:Nat) x y,0<i->i<j+1+1->es[i]? =some x->es[i-1]? =some y->x≠y):=λi x' y' h1 h2 h3 h4=>by
      rcases eX i (j+1) with h5|h5
      ·exact HI.out i x' y' h1 h5 h3 h4
      ·obtain rfl:i=j+1:=by omega
       rw[Nat.add_sub_cancel]at h4;rw[HX.out.1]at h3;rw[HX.out.2]at h4;cases h3;cases h4;exact hne
     clear hm hne;go_wp2;go_region_held3 (λW=>W.cell? ⟨b,off+(j+1)*3,none⟩=some (.int .i64 x.iG)/\W.cell? ⟨b,off+(j+1)*3+1,none⟩=some (.int .i64 x.to)/\W.cell? ⟨b,off+(j+1)*3+2,none⟩=some (.int .i64 x.kind)/\W.cell? ⟨b,off+j*3,none⟩=some (.int .i64 y.iG)/\W.cell? ⟨b,off+j*3+1,none⟩=some (.int .i64 y.to)/\W.cell? ⟨b,off+j*3+2,none⟩=some (.int .i64 y.kind)) (go_keep) (fail)
     go_wp2;go_roundw;case rel=>exact⟨hE,j+1,by omega,by go_num,HI2.out⟩
     case measure=>simp[intOf];omega
   ·have hj':j+1=es.length:=by omega
    have hd:Hid (ddTo es es.length=es):=by show _ = _;rw[rW (ay _) (λi x y h1 h2=>HI.out i x y h1 (by omega)),bY]
    have i2:¬((j:Int)+1<(es.length:Int)):=by omega
    go_wp2;go_returns;refine⟨_,ay _,rfl,?_,Only.aO hb⟩;rw[hd.out];exact H.out.ext hb
theorem oC(A:Option Addr)(n c:Nat)(w:World)(h:n<=c/\c<=9223372036854775807) :
 Calls Tryz.prog 235 #[.slice A n c] w λe w'=>e=.returned (.slice A n n)/\w=w':=by
 go_enter Tryz.func235,Tryz.ntmps235;go_wp2;go_returns;exact⟨rfl,rfl⟩
theorem qB(A:Option Addr)(c:Nat)(w:World) :
 Calls Tryz.prog 236 #[.slice A 0 c] w λe w'=>e=.returned (.slice A 0 c)/\w=w':=by
 go_enter Tryz.func236,Tryz.ntmps236;go_wp2;go_returns;exact⟨rfl,rfl⟩
open Go.Shelf Go.Lib Go.Sort in
theorem oZ(A:Option Addr)(c:Nat)(fv:Value)(w:World) :
 Calls Tryz.prog 233 #[.slice A 0 c,fv] w λe w'=>e=.returned (.tuple #[])/\Ext w w':=by
 have hcon:=AnyF.slices_SortFunc_none Tryz.sortEdge A c fv w;change Calls Tryz.prog 233 _ _ _ at hcon;refine hcon.mono ?_;rintro e w' ⟨rfl,rfl⟩;exact⟨rfl,af _⟩
def uL(es ds:List Edge):Prop:=(∀x,x∈ds↔x∈es)/\ds.length<=es.length
theorem FV{es es':List Edge}(hp:es'.Perm es):uL es (ddTo es' es'.length):=by
 refine⟨λx=>?_,?_⟩
 ·rw[FM (ay _),bY,hp.mem_iff]
 ·have:=EH es' es'.length
  rw[hp.length_eq]at this ⊢;exact this
theorem DU{b off n c lo:Nat}{es:List Edge}(w:World)(h:aI 3 bL w (.slice (some ⟨b,off,none⟩) n c) es)(ho:Own lo w (.slice (some ⟨b,off,none⟩) n c))(hb:b<w.heap.size)(hlen:es.length<=2097152)(hcap:n<=c/\c<=9223372036854775807) :
 Calls Tryz.prog 208 #[.slice (some ⟨b,off,none⟩) n c] w λe w'=>∃q ds,e=.returned (.slice (some ⟨b,off,none⟩) q q)/\uL es ds/\aI 3 bL w' (.slice (some ⟨b,off,none⟩) q q) ds/\Only (.slice (some ⟨b,off,none⟩) n c) w w':=by
 obtain rfl:n=es.length:=by obtain⟨A',c',e,_⟩:=id h;injection e
 have H:=aa h;have HO:=aa ho;have hcp2:∀q,q<=es.length->q<=c/\c<=9223372036854775807:=λq hq=>⟨by omega,hcap.2⟩;have HC:=aa hcp2;clear h ho hcp2;rcases Nat.eq_zero_or_pos es.length with h0|hn
 ·obtain rfl:es=[]:=kZ h0;go_enter Tryz.func208,Tryz.ntmps208;go_wp2_with fail
  refine(oZ _ _ _ _).mono ?_
  rintro e w1 ⟨rfl,b1⟩;go_wp2_with fail
  refine(qB _ _ _).mono ?_
  rintro e w2 ⟨rfl,rfl⟩;go_wp2_with fail
  refine(oC _ _ _ _ (HC.out 0 (ay _))).mono ?_
  rintro e w3 ⟨rfl,rfl⟩;go_wp2;go_returns;exact⟨0,[],rfl,⟨λ_=>Iff.rfl,ay _⟩,⟨_,_,rfl,λh=>by simp at h⟩,Only.aO b1⟩
 ·go_enter Tryz.func208,Tryz.ntmps208;go_wp2_with fail
  refine(vJ _ H.out HO.out hb hn hlen).mono ?_
  rintro e w1 ⟨rfl,es',hp,hs,ho1⟩;have hl:=hp.length_eq;have HS:=aa hs;have ZQ:=aa ho1;have HD:=aa (FV hp);clear hs ho1 hp;go_wp2_with fail
  refine(xW _ HS.out (HO.out.only ZQ.out) hn (by omega) (HC.out _ (ay _))).mono ?_
  rintro e w2 ⟨q,hq,rfl,hs2,ho2⟩;have HS2:=aa hs2;have Lx:=aa ho2;clear hs2 ho2;go_wp2_with fail
  refine(oC _ _ _ _ (HC.out q hq)).mono ?_
  rintro e w3 ⟨rfl,rfl⟩;go_wp2;go_returns;exact⟨q,_,rfl,HD.out,ny HS2.out _,ZQ.out.trans Lx.out⟩
def isDone(h:List aF)(n:Int):Bool:=(h[n.toNat]?.map (·.done)).getD false
def gU(h:List aF)(f t k:Int):List Edge:=if 0<=f/\0<=t/\f≠t/\isDone h f=true/\isDone h t=true then [⟨f,t,k⟩] else []
def chainTo(h:List aF)(key:Int)(order:List Int)(m:Nat):List Edge:=(List.range m).flatMap λi=>gU h (aQ h key (order.getD i 0)) (aQ h key (order.getD (i+1) 0)) 1
def kE(order:List Int)(v:Int):Option Nat:=if v=0 then some 0 else (order.findIdx? (·==v)).map (· + 1)
def overOf(h:List aF)(os:List (List Int))(n:Nat)(o:aJ):List Edge:=
 match kE (os.getD o.key.toNat []) o.value with
 | none=>[]
 | some b=>if b<(os.getD o.key.toNat []).length then gU h n (aQ h o.key ((os.getD o.key.toNat []).getD b 0)) 3 else []
def fJ(h:List aF)(os:List (List Int))(n:Nat)(o:aJ):List Edge:=gU h (aQ h o.key o.value) n 2++overOf h os n o
def gF(h:List aF)(os:List (List Int))(n:Nat)(os':List aJ)(j:Nat):List Edge:=(os'.take j).flatMap (fJ h os n)
def aX(h:List aF)(os:List (List Int)):List Edge:=
 ((List.range 3).flatMap λ(key:Nat)=>chainTo h (key:Int) (os.getD key []) ((os.getD key []).length-1))++(aB h).flatMap λn=>(uD (opsOf h n)).flatMap (fJ h os n)
theorem qb(h:List aF)(f t k:Int):(gU h f t k).length<=1:=by unfold gU;split<;>simp
def iq(w w':World):Prop:=w.heap.size<=w'.heap.size/\∀(k:Nat) (cs:Array Value) (t:TypeId) (fr:Nat × Nat),w.heap[k]? =some (Obj.cells cs t fr)->t≠200->t≠172->w'.heap[k]? =w.heap[k]?
theorem iq.refl(w:World):iq w w:=⟨ay _,λ_ _ _ _ _ _ _=>rfl⟩
theorem iq.aO{w w':World}(h:Ext w w'):iq w w':=⟨h.size,λk _ _ _ hk _ _=>Below.block h k (dB.1 hk).1⟩
theorem iq.trans{a b c:World}(h:iq a b)(k:iq b c):iq a c:=
 ⟨aR h.1 k.1,λi cs t fr hi h1 h2=>(k.2 i cs t fr ((h.2 i cs t fr hi h1 h2).trans hi) h1 h2).trans (h.2 i cs t fr hi h1 h2)⟩
def LB(B base:Nat)(W:World)(es:List Edge):Prop:=∃v,Boxed W B 172 v/\Row 200 3 bL base W v es
theorem Ko(x:Edge)(j:Nat):(bL x j).oneCell'=true:=by unfold bL;split<;>rfl
theorem Mm{base B:Nat}{W:World}{v:Value}{es:List Edge}(hO:Boxed W B 172 v)(H:Row 200 3 bL base W v es)(hbase:base<=W.heap.size)(hB:base<=B)(x:Edge)(hn:es.length+1<=4194304) :
 ∃v' w',(Builtin.append_ #[172,172] 172 #[v,.slice (some ⟨W.heap.size,0,none⟩) 1 1]).run Tryz.prog (W.alloc (.cells #[.int .i64 x.iG,.int .i64 x.to,.int .i64 x.kind] 200))=.ok v' w' /\
  Boxed w' B 172 v/\LB B base (w'.setCell ⟨B,0,none⟩ v') (es++[x])/\Below base W (w'.setCell ⟨B,0,none⟩ v')/\iq W (w'.setCell ⟨B,0,none⟩ v')/\∃A n c,v'=.slice A n c:=by
 obtain⟨i,hi,hz,hs,hby⟩:=mQ tN;obtain⟨v',w',hrun,hown,hg,_,hat⟩:=run_append_own_at (P:=Tryz.prog) (w:=W.alloc (.cells #[.int .i64 x.iG,.int .i64 x.to,.int .i64 x.kind] 200)) base 172 172 200 i _ 3 24 Tryz.underlying172 hi hz hs hby rfl (by omega) v es.length _ (World.ownsRow.alloc H _)
  ⟨W.heap.size,0,none⟩ 1 1 (aG 3 bL x) rfl
  (λj u hu=>by
   have hadd:(⟨W.heap.size,0,none⟩:Addr).add j=⟨W.heap.size,j,none⟩:=by unfold Addr.add;split<;>simp_all
   rw[hadd,cell_of_row _ _ j _ 200 (0,0) (dx W _)];have hcs:(aG 3 bL x)=[.int .i64 x.iG,.int .i64 x.to,.int .i64 x.kind]:=rfl;rw[hcs]at hu;simpa using hu)
  (λu hu=>by simp[aG]at hu;obtain⟨j,_,rfl⟩:=hu;exact Ko x j) (by simp only[maxLen];omega)
  (by omega) (by simp;omega)
 have hrow':World.ownsRow w' base 200 3 v' (es.length+1) ((es++[x]).flatMap (aG 3 bL)):=by rw[kI];simpa using hown
 have AP:=Boxed.appended (tmp:=.cells #[.int .i64 x.iG,.int .i64 x.to,.int .i64 x.kind] 200) hO (by decide) H hbase hB hrow' hg;have hrow2:Row 200 3 bL base (w'.setCell ⟨B,0,none⟩ v') v' (es++[x]):=by unfold Row;rw[bN];exact AP.2.2.1
 refine⟨v',w',hrun,AP.1,⟨v',AP.2.1,hrow2⟩,AP.2.2.2.2,?_,by obtain⟨A,c,e,_⟩:=hrow2.cell.1;exact⟨A,_,c,e⟩⟩;refine⟨AP.2.2.2.2.size,λk cs t fr hk h1 h2=>?_⟩;have hkl:=(dB.1 hk).1;have hkB:k≠B:=λe=>by
  subst e
  have:=hO.symm.trans hk
  injection this with this;injection this with _ e2 _;exact h2 e2.symm
 rw[Below.heap_setCell _ _ _ _ hkB]
 refine(hg.block k (by simp;omega) (λe=>?_)).trans (Below.block ((af W).alloc _) k hkl)
 rcases H.2 with ⟨rfl,_⟩|⟨g,cap,cur,rfl,_,hgb,_⟩
 ·simp[Value.ownBlock]at e
 ·simp[Value.ownBlock]at e;subst e;rw[hgb]at hk;injection hk with hk;injection hk with _ e2 _;exact h1 e2.symm
theorem Cg{h:List aF}{n:Nat}{t:aF}(ht:h[n]? =some t):isDone h (n:Int)=t.done:=by simp[isDone,ht]
def lS(h:List aF)(B base:Nat)(W:World)(es:List Edge)(f t k:Int)(e:Ending)(W':World):Prop:=
 e=.returned (.tuple #[])/\LB B base W' (es++gU h f t k)/\Below base W W'/\iq W W'
theorem lS.none{h:List aF}{B base:Nat}{W:World}{es:List Edge}{f t k:Int}(hL:LB B base W es)(hn:gU h f t k=[]):lS h B base W es f t k (.returned (.tuple #[])) W:=
 ⟨rfl,by rw[hn,oP];exact hL,Below.refl _ _,iq.refl _⟩
theorem pW{bh B base:Nat}{hv:Value}{h:List aF}{es:List Edge}(f t k:Int)(W:World)(ch:W.cell? ⟨bh,0,none⟩=some hv)(H:lV W hv h)(hL:LB B base W es)(hbase:base<=W.heap.size)(hB:base<=B)(hn:es.length<=1000)(hlen:h.length<=6)(hf:f<h.length)(ht:t<h.length) :
 Calls Tryz.prog 203 #[.int .i64 f,.int .i64 t,.int .i64 k,.pointer (some ⟨bh,0,none⟩),.pointer (some ⟨B,0,none⟩)] W (lS h B base W es f t k):=by
 obtain⟨A,c,rfl⟩:=H.slice;have HH:=aa H;have RZ:=aa hL;clear H hL;by_cases h1:0<=f;case neg=>
  have hN:Hid (gU h f t k=[]):=ak (λe=>h1 e.1);go_enter Tryz.func203,Tryz.ntmps203;go_wp2;go_end0
  exact lS.none RZ.out hN.out
 by_cases h2:0<=t;case neg=>
  have hN:Hid (gU h f t k=[]):=ak (λe=>h2 e.2.1);go_enter Tryz.func203,Tryz.ntmps203;go_wp2;go_end0
  exact lS.none RZ.out hN.out
 obtain⟨a,rfl⟩:=iH h1;obtain⟨d,rfl⟩:=iH h2;by_cases h3:(a:Int)=(d:Int)
 ·have hN:Hid (gU h a d k=[]):=ak (λe=>e.2.2.1 h3);have hne:((a:Int) != (d:Int))=false:=by simp[h3]
  clear h3;go_enter Tryz.func203,Tryz.ntmps203;go_wp2;go_end0
  exact lS.none RZ.out hN.out
 have hne:((a:Int) != (d:Int))=true:=by simpa using h3
 obtain⟨b,off,rfl,hbl,hc⟩:=HH.out.head (by omega);obtain⟨ta,Td⟩:=au (show a<h.length by omega);obtain⟨td,htd⟩:=au (show d<h.length by omega);obtain⟨_,_,_,ca,_⟩:=hc a ta Td;obtain⟨_,_,_,cd,_⟩:=hc d td htd;have ia:=Cg Td;have id:=Cg htd
 cases hda:ta.done with
 | false=>
   have hN:Hid (gU h a d k=[]):=ak (λe=>by rw[ia,hda]at e;cases e.2.2.2.1);rw[hda]at ca;clear h3 ia id Td htd hc cd hda;go_enter Tryz.func203,Tryz.ntmps203;go_wp2;go_end0
   exact lS.none RZ.out hN.out
 | true=>
   rw[hda]at ca
   cases hdd:td.done with
   | false=>
     have hN:Hid (gU h a d k=[]):=ak (λe=>by rw[id,hdd]at e;cases e.2.2.2.2);rw[hdd]at cd;clear h3 ia id Td htd hc hda hdd;go_enter Tryz.func203,Tryz.ntmps203;go_wp2;go_end0
     exact lS.none RZ.out hN.out
   | true=>
     have hN:Hid (gU h a d k=[⟨a,d,k⟩]):=ah ⟨h1,h2,h3,by rw[ia,hda],by rw[id,hdd]⟩;rw[hdd]at cd;obtain⟨v,hO,hR⟩:=RZ.out;obtain⟨v',w',hrun,hB1,hL1,hE1,hK1,A1,n1,c1,rfl⟩:=Mm hO hR hbase hB ⟨a,d,k⟩ (by omega);obtain⟨Av,cv,rfl,_⟩:=hR.cell.1;have cB:=hO.cell;have cB1:=hB1.cell;have fB1:=hB1.frozen;have cz:=aa hrun;have Tm:=aa hL1;have Xp:=aa hE1;have U7:=aa hK1;clear h3 ia id Td htd hc hda hdd hO hR hrun hB1 hL1 hE1 hK1;go_enter Tryz.func203,Tryz.ntmps203;go_wp2_with (at_builtin;refine wpList_append_run rfl rfl rfl rfl cz.out ?_)
     go_end0
     exact⟨rfl,by rw[hN.out];exact Tm.out,Xp.out,U7.out⟩
theorem vU(s:Int)(d:Bool){ov:Value}{ops:List aJ}(w:World)(h:aI 3 encOpr w ov ops)(hlen:ops.length<=2097152) :
 Calls Tryz.prog 206 #[.agg #[.int .i64 s,ov,.bool d]] w λe w'=>∃A,e=.returned (.slice A (uD ops).length (uD ops).length)/\aI 3 encOpr w' (.slice A (uD ops).length (uD ops).length) (uD ops)/\fT 67 w' (.slice A (uD ops).length (uD ops).length)/\Ext w w':=by
 obtain⟨A0,c0,rfl,_⟩:=id h;have HS:=aa h;have hmk:=@run_makeMap Tryz.prog;have WL:∀W:World,(Instr.makeSlice 46 (.int .i64 0) (.int .i64 3)).run Tryz.prog W=.ok (.slice (some ⟨W.heap.size,0,none⟩) 0 3) (W.alloc (.cells (madeCells (Value.agg #[Value.int .i64 0,Value.int .i64 0,Value.int .i64 0]).cells (3*3)) 67)):=fM (P:=Tryz.prog) 46 67 Tryz.underlying46 lq 3 (by omega) (by omega);clear h;go_enter Tryz.func206,Tryz.ntmps206;go_wp2;clear hmk WL;go_loopw [3,12] (λo i wr=>Ext w wr/\∃k:Nat,k<=ops.length/\i=.int .i64 k/\Hid (iJ wr (w.heap.size+2) (Value.int .i64) (vP (λ_=>.bool true) (ops.take k))/\Row 67 3 encOpr w.heap.size wr o (zC ops k))) (λ_ i _=>ops.length-(intOf i).toNat)
 case atStart=>
  refine⟨(((af _).alloc _).alloc _).alloc _,0,bR _,rfl,?_,?_⟩
  ·have hG:=iJ.made ((w.alloc (.cells #[.int .i64 s,.slice A0 ops.length c0,.bool d] 48)).alloc (.cells (madeCells (Value.agg #[Value.int .i64 0,Value.int .i64 0,Value.int .i64 0]).cells (3*3)) 67)) (Value.int .i64);rw[show ((w.alloc (.cells #[.int .i64 s,.slice A0 ops.length c0,.bool d] 48)).alloc (.cells (madeCells (Value.agg #[Value.int .i64 0,Value.int .i64 0,Value.int .i64 0]).cells (3*3)) 67)).heap.size=w.heap.size+2 by simp]at hG;exact hG
  ·have hR:=iX (E:=67) (m:=3) (enc:=encOpr) (w:=w.alloc (.cells #[.int .i64 s,.slice A0 ops.length c0,.bool d] 48)) (madeCells (Value.agg #[Value.int .i64 0,Value.int .i64 0,Value.int .i64 0]).cells (3*3)) 3 (by unfold maxLen;omega) (size_madeCells _ _);rw[show (w.alloc (.cells #[.int .i64 s,.slice A0 ops.length c0,.bool d] 48)).heap.size=w.heap.size+1 by simp]at hR
   exact(hR.low (by omega)).ext ((af _).alloc _)
 case round=>
  obtain⟨hb,k,hk,rfl,HI⟩:=hrel;have hfl:=EW ops k;have hbw:w.heap.size<=wr.heap.size:=hb.size;by_cases hlt:k<ops.length
  ·obtain⟨A2,c2,hA2,hcc⟩:=HS.out.ext hb;injection hA2 with e1 e2 e3;subst e1 e3;obtain⟨b,off,rfl,hbl,hcc⟩:=hcc (by omega);obtain⟨o,ho⟩:=au hlt;have d0:wr.cell? ⟨b,off+k*3,none⟩=some (.int .i64 o.kind):=hcc k o ho 0 (by omega);have d1:wr.cell? ⟨b,off+k*3+1,none⟩=some (.int .i64 o.key):=hcc k o ho 1 (by omega);have d2:wr.cell? ⟨b,off+k*3+2,none⟩=some (.int .i64 o.value):=hcc k o ho 2 (by omega);have Ho:=aa ho;have hg1:w.heap.size<=w.heap.size+2:=by omega
   have hE:Hid (Ext wr ((wr.alloc (.cells #[.int .i64 o.kind,.int .i64 o.key,.int .i64 o.value] 67)).alloc (.cells #[.int .i64 o.kind,.int .i64 o.key,.int .i64 o.value] 67))):=((af _).alloc _).alloc _;have hl1:=uX Tryz.underlying236 (jG Tryz.underlying3) Cs (HI.out.1.ext hE.out) o.key;have hfa:Hid (∀r,before (ops.take k) o.key=r->GR ops k=(mh o&&r.isNone)):=λr hr=>by subst hr;simp only[GR,ho]
   have hnx:=aa (Lb ho);clear hcc ho e2
   cases hbf:before (ops.take k) o.key with
   | none=>
     have hX:vP (λ_=>Value.bool true) (ops.take k) o.key=none:=by unfold vP;rw[hbf];rfl
     rw[hX]at hl1;have LK:=aa (hfa.out _ hbf)
     cases hr:(o.kind==1) with
     | true=>
       have hR0:=HI.out.2.ext hE.out;obtain⟨v',w2,hrun,hP⟩:=IQ (w:=((wr.alloc (.cells #[.int .i64 o.kind,.int .i64 o.key,.int .i64 o.value] 67)).alloc (.cells #[.int .i64 o.kind,.int .i64 o.key,.int .i64 o.value] 67))) (wr.heap.size+1+1) (by simp) hR0 (af _) o (aR hbw hE.out.size) (by omega);have HE2:=aa (hP.2.1 w (hb.trans hE.out) (ay _));have hM2:=(HI.out.1.ext hE.out).pushed hR0 hP;obtain⟨ob,hu,hG,-⟩:=dP Tryz.underlying236 (jG Tryz.underlying3) hM2 o.key (.bool true);have HG:=aa hG;have cz:=aa hrun;have hnew:=HI.out.2.new (ay wr.heap.size);have k0:w2.cell? ⟨wr.heap.size,0,none⟩=some (.int .i64 o.kind):=hP.cell hnew (((af _).alloc _).cell (az rfl));have k1:w2.cell? ⟨wr.heap.size,1,none⟩=some (.int .i64 o.key):=hP.cell hnew (((af _).alloc _).cell (az rfl));have k2:w2.cell? ⟨wr.heap.size,2,none⟩=some (.int .i64 o.value):=hP.cell hnew (((af _).alloc _).cell (az rfl));have HR2:Hid (Row 67 3 encOpr w.heap.size (aK w2 (w.heap.size+2) ob) v' (zC ops k++[o])):=hP.1.aK hM2 ob;clear hX hbf hrun hP hG hM2 hnew hR0
       go_wp2_with (first
        | (go_at_call 118;refine(dL _ _ _ _).mono ?_;rw[hr];rintro e w' ⟨rfl,rfl⟩)
        | (at_builtin;refine wpList_append_run rfl rfl rfl rfl cz.out ?_))
       go_roundw;case rel=>exact⟨HE2.out.aK hg1 _,k+1,by omega,by go_num,by
        rw[aj Ho.out];exact⟨HG.out.congr (lK _ _ _),by rw[hnx.out,LK.out];simpa[mh,hr] using HR2.out⟩⟩
       case measure=>simp[intOf];omega
     | false=>
       obtain⟨ob,hu,hG,-⟩:=dP Tryz.underlying236 (jG Tryz.underlying3) (HI.out.1.ext hE.out) o.key (.bool true);have HG:=aa hG;have HR2:Hid (Row 67 3 encOpr w.heap.size (aK _ (w.heap.size+2) ob) u3 (zC ops k)):=(HI.out.2.ext hE.out).aK (HI.out.1.ext hE.out) ob;clear hX hbf hG;go_wp2_with (go_at_call 118;refine(dL _ _ _ _).mono ?_;rw[hr];rintro e w' ⟨rfl,rfl⟩)
       go_roundw;case rel=>exact⟨(hb.trans hE.out).aK hg1 _,k+1,by omega,by go_num,by
        rw[aj Ho.out];exact⟨HG.out.congr (lK _ _ _),by rw[hnx.out,LK.out];simpa[mh,hr] using HR2.out⟩⟩
       case measure=>simp[intOf];omega
   | some vb=>
     have hX:vP (λ_=>Value.bool true) (ops.take k) o.key=some (.bool true):=by unfold vP;rw[hbf];rfl
     rw[hX]at hl1;have LK:=aa (hfa.out _ hbf);obtain⟨ob,hu,hG,-⟩:=dP Tryz.underlying236 (jG Tryz.underlying3) (HI.out.1.ext hE.out) o.key (.bool true);have HG:=aa hG;have HR2:Hid (Row 67 3 encOpr w.heap.size (aK _ (w.heap.size+2) ob) u3 (zC ops k)):=(HI.out.2.ext hE.out).aK (HI.out.1.ext hE.out) ob;clear hX hbf hG;cases hr:(o.kind==1)<;>(
      go_wp2_with (go_at_call 118;refine(dL _ _ _ _).mono ?_;rw[hr];rintro e w' ⟨rfl,rfl⟩)
      go_roundw;case rel=>exact⟨(hb.trans hE.out).aK hg1 _,k+1,by omega,by go_num,by
       rw[aj Ho.out];exact⟨HG.out.congr (lK _ _ _),by rw[hnx.out,LK.out];simpa[mh,hr] using HR2.out⟩⟩
      case measure=>simp[intOf];omega)
  ·obtain rfl:k=ops.length:=by omega
   obtain⟨A',c',rfl,_⟩:=id HI.out.2.cell.1;have hcp:=HI.out.2.cap _ _ _ rfl;go_wp2;go_returns;exact⟨_,rfl,ny HI.out.2.cell.1 _,wh HI.out.2.Ng _,hb⟩
def idxOf(xs:List Int)(v:Int):Int:=match xs.findIdx? (·==v) with|none=>-1|some i=>(i:Int)
theorem H7{xs:List Int}{v:Int}(h:∀(i:Nat) x,xs[i]? =some x->x≠v):xs.findIdx? (·==v)=none:=by rw[List.findIdx?_eq_none_iff];intro x hx;obtain⟨i,hi⟩:=List.getElem?_of_mem hx;simpa using h i x hi
theorem yL:∀{xs:List Int} {v:Int} {k:Nat},xs[k]? =some v->(∀(i:Nat) x,i<k->xs[i]? =some x->x≠v)->xs.findIdx? (·==v)=some k
 | [],v,k,h,_=>by simp at h
 | x :: xs,v,0,h,_=>by simp at h;subst h;simp[List.findIdx?_cons]
 | x :: xs,v,k+1,h,hn=>by
   have hx:x≠v:=hn 0 x (by omega) rfl
   have:=yL (xs:=xs) (k:=k) (by simpa using h) (λi y hi hy=>hn (i+1) y (by omega) (by simpa using hy))
   rw[List.findIdx?_cons,this];simp[hx]
theorem ou{u:Value}{xs:List Int}(v:Int)(w:World)(h:mD encI w u xs)(hlen:xs.length<=2097152) :
 Calls Tryz.prog 207 #[u,.int .i64 v] w λe w'=>e=.returned (.int .i64 (idxOf xs v))/\Ext w w':=by
 obtain⟨A,c,rfl,hc⟩:=h;have HC:=aa hc;clear hc;go_enter Tryz.func207,Tryz.ntmps207;go_wp2;go_loopw [8] (λi wr=>w=wr/\∃k:Nat,k<=xs.length/\i=.int .i64 k/\Hid (∀(i:Nat) x,i<k->xs[i]? =some x->x≠v)) (λi _=>xs.length-(intOf i).toNat)
 case atStart=>exact⟨rfl,0,bR _,rfl,λ_ _ h=>absurd h (oF _)⟩
 case round=>
  obtain⟨rfl,k,hk,rfl,HI⟩:=hrel;by_cases hlt:k<xs.length
  ·obtain⟨b,off,rfl,hb,hc⟩:=HC.out (by omega);obtain⟨x,hx⟩:=au hlt;have c0:=hc k x hx;simp only[encI]at c0;by_cases h0:v=x
   ·have hz:(v==x)=true:=by simp[h0]
    have HN:Hid (idxOf xs v=(k:Int)):=by show _ = _;unfold idxOf;rw[yL (by rw[hx,h0]) HI.out]
    clear hc hx h0 HI;go_wp2;go_returns;exact⟨dH HN.out.symm,af _⟩
   ·have hz:(v==x)=false:=by simp[h0]
    have HN:Hid (∀(i:Nat) y,i<k+1->xs[i]? =some y->y≠v):=λi y hi hy=>by
     rcases eX i k with h|h
     ·exact HI.out i y h hy
     ·obtain rfl:i=k:=by omega
      rw[hx]at hy;cases hy;exact λe=>h0 e.symm
    clear hc hx h0 HI;go_wp2;go_roundw;case rel=>exact⟨trivial,k+1,by omega,by go_num,HN.out⟩
    case measure=>simp[intOf];omega
  ·obtain rfl:k=xs.length:=by omega
   have HN:Hid (idxOf xs v=-1):=by show _ = _;unfold idxOf;rw[H7 (λi x hi=>HI.out i x (aS.1 hi).1 hi)]
   clear HI;go_wp2;go_returns;exact⟨dH HN.out.symm,af _⟩
