/- Lemmas. -/
import Derived.Test.YtcdopfdgknglfaaGreatDoorKAI
import Derived.Shelf.Strings.Builder1
import Derived.Shelf.Strings.Builder2
import Derived.Shelf.Strings.OnBuilder
import Derived.Shelf.Small.Bits
import Derived.Shelf.Small.Wraps
import Derived.Shelf.Strings.BuilderF
import Derived.Shelf.Strings.BuilderK
import Derived.Shelf.Utf8.RuneCount
import Derived.Shelf.Strconv.Atoi
import Derived.Shelf.Strconv.Itoa0
import Derived.Shelf.Strconv.Itoa1
import Derived.Shelf.LaysM
import Derived.Shelf.Strconv.Itoa2
import Derived.Shelf.Strconv.Itoa3
import Derived.Shelf.Strconv.AtoiErrFast
import Derived.Shelf.Strconv.ParseIntEmpty
import Derived.Shelf.Strconv.AtoiFail
import Derived.Shelf.Strconv.Clone
import Derived.Shelf.Strconv.SyntaxError
import Derived.Shelf.LaysC
import Derived.Shelf.Strconv.ToError
import Derived.Shelf.Strconv.Lower
import Derived.Shelf.Strconv.ParseUint10
import Derived.Shelf.Strconv.ParseUint10Empty
import Derived.Shelf.Strconv.ParseUint10Any
import Derived.Shelf.Strconv.ParseInt10
import Derived.Shelf.Strconv.AtoiLong
import Derived.Shelf.Strconv.AtoiInnerAll
import Derived.Shelf.Strconv.RangeError
import Derived.Shelf.Strconv.ToErrorRange
import Derived.Shelf.Strconv.AtoiAll
import Derived.Shelf.Strconv.ErrVarAll
import Derived.Shelf.Strings.Search1
import Derived.Shelf.Strings.Search2
import Derived.Shelf.Strings.Search3
import Derived.Shelf.Strings.Cut
import Derived.Shelf.Strings.Count
import Derived.Shelf.Strings.Shaped
import Derived.Shelf.Strings.Prefix
import Derived.Shelf.Strings.Split
import Derived.Shelf.Strings.SplitShaped
import Derived.Shelf.Unicode.Decode
import Derived.Shelf.Strings.RuneCount
import Derived.Shelf.Strings.Explode
import Derived.Shelf.Unicode.DecodeSlow
import Derived.Shelf.Unicode.DecodeAny
import Derived.Ground.Names2Prog
import Derived.Shelf.Slices.Clone
import Derived.Shelf.Slices.SearchI
import Derived.Ground.SlgnProg
import Derived.Shelf.SlicesE.Clone
import Derived.Shelf.SlSortCmp.WholeK
import Derived.Shelf.SlSortCmp.NoneTotal
import Derived.Test.YtcdopfdgknglfaaGreatDoorProg
import Derived.Ground.SlsfProg
set_option maxHeartbeats 16000000
set_option maxRecDepth 8000
set_option linter.all false
section
namespace Go.Proofs
open Go.Shelf
def Tryz.lays169_ren:Go.Shelf.Ren:=⟨fun|169=>94|n=>n,fun|70=>121|9=>9|0=>0|72=>123|37=>22|127=>140|3=>3|5=>5|n=>n,fun|n=>n⟩
theorem Tryz.lays169:Go.Proofs.Lays.n169 Tryz.prog Tryz.lays169_ren:={
 mixed:=by kernel_rfl
 f169:=Tryz.func94.trans (congrArg some (by kernel_rfl))
 t0:=Tryz.underlying0
 a0:=Tryz.isAgg0
 z0:=Tryz.sizeOf0
 v0:=Tryz.zeroValue0
 t3:=Tryz.underlying3
 a3:=Tryz.isAgg3
 z3:=Tryz.sizeOf3
 v3:=Tryz.zeroValue3
 t9:=Tryz.underlying9
 a9:=Tryz.isAgg9
 z9:=Tryz.sizeOf9
 v9:=Tryz.zeroValue9
 t37:=Tryz.underlying22
 a37:=Tryz.isAgg22
 z37:=Tryz.sizeOf22
 v37:=Tryz.zeroValue22
 t70:=Tryz.underlying121
 a70:=Tryz.isAgg121
 z70:=Tryz.sizeOf121
 v70:=Tryz.zeroValue121
 t72:=Tryz.underlying123
 a72:=Tryz.isAgg123
 z72:=Tryz.sizeOf123
 v72:=Tryz.zeroValue123
 t127:=Tryz.underlying140
 a127:=Tryz.isAgg140
 z127:=Tryz.sizeOf140
 v127:=Tryz.zeroValue140 }
theorem Tryz.Builder_Extra_169:Builder.Extra Tryz.prog Tryz.lays169_ren:={
 sizeBuilder:=by kernel_rfl
 liesBuilder:=by kernel_rfl
 t5:=Tryz.underlying5
 a5:=Tryz.isAgg5
 z5:=Tryz.sizeOf5
 v5:=Tryz.zeroValue5
 infoByte:=by kernel_rfl
 cellsByte:=by kernel_rfl
 sizeByte:=by kernel_rfl
 neB5:=by decide }
open Go.RowKit in
theorem Tryz.Builder_String_any(B b:Nat)(l:List UInt8)(w:World)(h:Lib.IsBuilder 123 5 B b (Lib.byteCells l) w)(hBw:B<=w.heap.size) :
 Calls Tryz.prog 94 #[.pointer (some ⟨b,0,none⟩)] w λe w'=>e=.returned (.string ⟨l.toArray⟩)/\Below B w w':=Any.Builder_String_any Tryz.lays169 Tryz.Builder_Extra_169 B b l w h hBw
def Tryz.lays156_ren:Go.Shelf.Ren:=⟨fun|156=>51|165=>92|166=>93|169=>94|240=>125|241=>126|276=>162|277=>163|n=>n,fun|31=>31|9=>9|3=>3|4=>4|0=>0|20=>20|72=>123|76=>127|70=>121|37=>22|75=>126|127=>140|164=>181|5=>5|80=>80|n=>n,fun|n=>n⟩
theorem Tryz.lays156:Go.Proofs.Lays.n156 Tryz.prog Tryz.lays156_ren:={
 mixed:=by kernel_rfl
 f156:=Tryz.func51.trans (congrArg some (by kernel_rfl))
 f165:=Tryz.func92.trans (congrArg some (by kernel_rfl))
 f166:=Tryz.func93.trans (congrArg some (by kernel_rfl))
 f169:=Tryz.func94.trans (congrArg some (by kernel_rfl))
 f240:=Tryz.func125.trans (congrArg some (by kernel_rfl))
 f241:=Tryz.func126.trans (congrArg some (by kernel_rfl))
 f276:=Tryz.func162.trans (congrArg some (by kernel_rfl))
 f277:=Tryz.func163.trans (congrArg some (by kernel_rfl))
 t0:=Tryz.underlying0
 a0:=Tryz.isAgg0
 z0:=Tryz.sizeOf0
 v0:=Tryz.zeroValue0
 t3:=Tryz.underlying3
 a3:=Tryz.isAgg3
 z3:=Tryz.sizeOf3
 v3:=Tryz.zeroValue3
 t4:=Tryz.underlying4
 a4:=Tryz.isAgg4
 z4:=Tryz.sizeOf4
 v4:=Tryz.zeroValue4
 t9:=Tryz.underlying9
 a9:=Tryz.isAgg9
 z9:=Tryz.sizeOf9
 v9:=Tryz.zeroValue9
 t20:=Tryz.underlying20
 a20:=Tryz.isAgg20
 z20:=Tryz.sizeOf20
 v20:=Tryz.zeroValue20
 t31:=Tryz.underlying31
 a31:=Tryz.isAgg31
 z31:=Tryz.sizeOf31
 v31:=Tryz.zeroValue31
 t37:=Tryz.underlying22
 a37:=Tryz.isAgg22
 z37:=Tryz.sizeOf22
 v37:=Tryz.zeroValue22
 t70:=Tryz.underlying121
 a70:=Tryz.isAgg121
 z70:=Tryz.sizeOf121
 v70:=Tryz.zeroValue121
 t72:=Tryz.underlying123
 a72:=Tryz.isAgg123
 z72:=Tryz.sizeOf123
 v72:=Tryz.zeroValue123
 t75:=Tryz.underlying126
 a75:=Tryz.isAgg126
 z75:=Tryz.sizeOf126
 v75:=Tryz.zeroValue126
 t76:=Tryz.underlying127
 a76:=Tryz.isAgg127
 z76:=Tryz.sizeOf127
 v76:=Tryz.zeroValue127
 t127:=Tryz.underlying140
 a127:=Tryz.isAgg140
 z127:=Tryz.sizeOf140
 v127:=Tryz.zeroValue140
 t164:=Tryz.underlying181
 a164:=Tryz.isAgg181
 z164:=Tryz.sizeOf181
 v164:=Tryz.zeroValue181 }
theorem Tryz.Builder_Extra_156:Builder.Extra Tryz.prog Tryz.lays156_ren:={
 sizeBuilder:=by kernel_rfl
 liesBuilder:=by kernel_rfl
 t5:=Tryz.underlying5
 a5:=Tryz.isAgg5
 z5:=Tryz.sizeOf5
 v5:=Tryz.zeroValue5
 infoByte:=by kernel_rfl
 cellsByte:=by kernel_rfl
 sizeByte:=by kernel_rfl
 neB5:=by decide }
open Go.RowKit in
theorem Tryz.strings_Join_none(a:Option Addr)(c:Nat)(sep:ByteArray)(w:World) :
 Calls Tryz.prog 51 #[.slice a 0 c,.string sep] w λe w'=>e=.returned (.string ⟨#[]⟩)/\w'=w:=Any.strings_Join_none Tryz.lays156 Tryz.Builder_Extra_156 a c sep w
open Go.RowKit in
theorem Tryz.strings_Join(bk o c:Nat)(xs:List ByteArray)(sep:ByteArray)(w:World)(hcells:∀(j:Nat) x,xs[j]? =some x->w.cell? ⟨bk,o+j,none⟩=some (.string x))(hbk:bk<w.heap.size)(hN:xs.length<=140737488355328)(hcap:xs.length<=c)(hlen:(Lib.join (xs.map (·.data.toList)) sep.data.toList).length<=140737488355328) :
 Calls Tryz.prog 51 #[.slice (some ⟨bk,o,none⟩) xs.length c,.string sep] w λe w'=>e=.returned (.string ⟨(Lib.join (xs.map (·.data.toList)) sep.data.toList).toArray⟩)/\Below w.heap.size w w':=Any.strings_Join Tryz.lays156 Tryz.Builder_Extra_156 bk o c xs sep w hcells hbk hN hcap hlen
def Tryz.lays103_ren:Go.Shelf.Ren:=⟨fun|103=>176|210=>216|206=>246|n=>n,fun|9=>9|4=>4|24=>193|3=>3|n=>n,fun|n=>n⟩
theorem Tryz.lays103:Go.Proofs.Lays.n103 Tryz.prog Tryz.lays103_ren:={
 mixed:=by kernel_rfl
 f103:=Tryz.func176.trans (congrArg some (by kernel_rfl))
 f206:=Tryz.func246.trans (congrArg some (by kernel_rfl))
 f210:=Tryz.func216.trans (congrArg some (by kernel_rfl))
 t3:=Tryz.underlying3
 a3:=Tryz.isAgg3
 z3:=Tryz.sizeOf3
 v3:=Tryz.zeroValue3
 t4:=Tryz.underlying4
 a4:=Tryz.isAgg4
 z4:=Tryz.sizeOf4
 v4:=Tryz.zeroValue4
 t9:=Tryz.underlying9
 a9:=Tryz.isAgg9
 z9:=Tryz.sizeOf9
 v9:=Tryz.zeroValue9
 t24:=Tryz.underlying193
 a24:=Tryz.isAgg193
 z24:=Tryz.sizeOf193
 v24:=Tryz.zeroValue193 }
open Go.RowKit in
theorem Tryz.strings_CutPrefix(s p:ByteArray)(w:World) :
 Calls Tryz.prog 176 #[.string s,.string p] w λe w'=>e=.returned (.tuple #[.string ⟨(Lib.trimPrefix s.data.toList p.data.toList).toArray⟩,.bool (Lib.hasPrefix s.data.toList p.data.toList)])/\w'=w:=Any.strings_CutPrefix Tryz.lays103 s p w
def Tryz.lays171_ren:Go.Shelf.Ren:=⟨fun|171=>49|243=>91|246=>124|283=>158|284=>159|285=>160|286=>161|129=>194|317=>193|318=>195|319=>196|320=>197|337=>227|338=>228|n=>n,fun|3=>3|9=>9|2=>2|4=>4|171=>175|0=>0|53=>176|37=>22|5=>5|173=>179|212=>210|51=>211|20=>20|213=>212|46=>190|232=>254|233=>255|n=>n,fun|17=>1|18=>2|19=>3|n=>n⟩
theorem Tryz.lays171:Go.Proofs.Lays.n171 Tryz.prog Tryz.lays171_ren:={
 mixed:=by kernel_rfl
 f129:=Tryz.func194.trans (congrArg some (by kernel_rfl))
 f171:=Tryz.func49.trans (congrArg some (by kernel_rfl))
 f243:=Tryz.func91.trans (congrArg some (by kernel_rfl))
 f246:=Tryz.func124.trans (congrArg some (by kernel_rfl))
 f283:=Tryz.func158.trans (congrArg some (by kernel_rfl))
 f284:=Tryz.func159.trans (congrArg some (by kernel_rfl))
 f285:=Tryz.func160.trans (congrArg some (by kernel_rfl))
 f286:=Tryz.func161.trans (congrArg some (by kernel_rfl))
 f317:=Tryz.func193.trans (congrArg some (by kernel_rfl))
 f318:=Tryz.func195.trans (congrArg some (by kernel_rfl))
 f319:=Tryz.func196.trans (congrArg some (by kernel_rfl))
 f320:=Tryz.func197.trans (congrArg some (by kernel_rfl))
 f337:=Tryz.func227.trans (congrArg some (by kernel_rfl))
 f338:=Tryz.func228.trans (congrArg some (by kernel_rfl))
 t0:=Tryz.underlying0
 a0:=Tryz.isAgg0
 z0:=Tryz.sizeOf0
 v0:=Tryz.zeroValue0
 t2:=Tryz.underlying2
 a2:=Tryz.isAgg2
 z2:=Tryz.sizeOf2
 v2:=Tryz.zeroValue2
 t3:=Tryz.underlying3
 a3:=Tryz.isAgg3
 z3:=Tryz.sizeOf3
 v3:=Tryz.zeroValue3
 t4:=Tryz.underlying4
 a4:=Tryz.isAgg4
 z4:=Tryz.sizeOf4
 v4:=Tryz.zeroValue4
 t5:=Tryz.underlying5
 a5:=Tryz.isAgg5
 z5:=Tryz.sizeOf5
 v5:=Tryz.zeroValue5
 t9:=Tryz.underlying9
 a9:=Tryz.isAgg9
 z9:=Tryz.sizeOf9
 v9:=Tryz.zeroValue9
 t20:=Tryz.underlying20
 a20:=Tryz.isAgg20
 z20:=Tryz.sizeOf20
 v20:=Tryz.zeroValue20
 t37:=Tryz.underlying22
 a37:=Tryz.isAgg22
 z37:=Tryz.sizeOf22
 v37:=Tryz.zeroValue22
 t46:=Tryz.underlying190
 a46:=Tryz.isAgg190
 z46:=Tryz.sizeOf190
 v46:=Tryz.zeroValue190
 t51:=Tryz.underlying211
 a51:=Tryz.isAgg211
 z51:=Tryz.sizeOf211
 v51:=Tryz.zeroValue211
 t53:=Tryz.underlying176
 a53:=Tryz.isAgg176
 z53:=Tryz.sizeOf176
 v53:=Tryz.zeroValue176
 t171:=Tryz.underlying175
 a171:=Tryz.isAgg175
 z171:=Tryz.sizeOf175
 v171:=Tryz.zeroValue175
 t173:=Tryz.underlying179
 a173:=Tryz.isAgg179
 z173:=Tryz.sizeOf179
 v173:=Tryz.zeroValue179
 t212:=Tryz.underlying210
 a212:=Tryz.isAgg210
 z212:=Tryz.sizeOf210
 v212:=Tryz.zeroValue210
 t213:=Tryz.underlying212
 a213:=Tryz.isAgg212
 z213:=Tryz.sizeOf212
 t232:=Tryz.underlying254
 a232:=Tryz.isAgg254
 z232:=Tryz.sizeOf254
 v232:=Tryz.zeroValue254
 t233:=Tryz.underlying255
 a233:=Tryz.isAgg255
 z233:=Tryz.sizeOf255
 v233:=Tryz.zeroValue255
 g17:=by kernel_rfl
 g18:=by kernel_rfl
 g19:=by kernel_rfl }
open Go.RowKit Go.Sort Go.Lib in
theorem Tryz.strconv_Itoa_small(i:Nat)(hi:i<100)(w:World) :
 Calls Tryz.prog 49 #[.int .i64 i] w λe w'=>e=.returned (.string ⟨(Lib.decDigits i).toArray⟩)/\w'=w:=Any.strconv_Itoa_small Tryz.lays171 i hi w
def Tryz.laysC172_ren:Go.Shelf.Ren:=⟨fun|172=>177|244=>217|245=>218|247=>247|279=>248|280=>249|281=>250|282=>251|287=>265|316=>266|171=>49|205=>267|321=>289|322=>290|243=>91|246=>124|283=>158|284=>159|285=>160|286=>161|129=>194|317=>193|318=>195|319=>196|320=>197|337=>227|338=>228|n=>n,fun|9=>9|3=>3|75=>126|76=>127|4=>4|5=>5|167=>247|37=>22|0=>0|85=>248|2=>2|168=>250|53=>176|175=>264|46=>190|210=>267|127=>140|145=>290|143=>288|21=>21|171=>175|173=>179|212=>210|51=>211|20=>20|213=>212|232=>254|233=>255|80=>80|n=>n,fun|15=>4|16=>5|17=>1|18=>2|19=>3|n=>n⟩
theorem Tryz.laysC172:Go.Proofs.LaysC.n172 Tryz.prog Tryz.laysC172_ren:={
 mixed:=by kernel_rfl
 f129:=Tryz.func194.trans (congrArg some (by kernel_rfl))
 f171:=Tryz.func49.trans (congrArg some (by kernel_rfl))
 f172:=Tryz.func177.trans (congrArg some (by kernel_rfl))
 f205:=Tryz.func267.trans (congrArg some (by kernel_rfl))
 f243:=Tryz.func91.trans (congrArg some (by kernel_rfl))
 f244:=Tryz.func217.trans (congrArg some (by kernel_rfl))
 f245:=Tryz.func218.trans (congrArg some (by kernel_rfl))
 f246:=Tryz.func124.trans (congrArg some (by kernel_rfl))
 f247:=Tryz.func247.trans (congrArg some (by kernel_rfl))
 f279:=Tryz.func248.trans (congrArg some (by kernel_rfl))
 f280:=Tryz.func249.trans (congrArg some (by kernel_rfl))
 f281:=Tryz.func250.trans (congrArg some (by kernel_rfl))
 f282:=Tryz.func251.trans (congrArg some (by kernel_rfl))
 f283:=Tryz.func158.trans (congrArg some (by kernel_rfl))
 f284:=Tryz.func159.trans (congrArg some (by kernel_rfl))
 f285:=Tryz.func160.trans (congrArg some (by kernel_rfl))
 f286:=Tryz.func161.trans (congrArg some (by kernel_rfl))
 f287:=Tryz.func265.trans (congrArg some (by kernel_rfl))
 f316:=Tryz.func266.trans (congrArg some (by kernel_rfl))
 f317:=Tryz.func193.trans (congrArg some (by kernel_rfl))
 f318:=Tryz.func195.trans (congrArg some (by kernel_rfl))
 f319:=Tryz.func196.trans (congrArg some (by kernel_rfl))
 f320:=Tryz.func197.trans (congrArg some (by kernel_rfl))
 f321:=Tryz.func289.trans (congrArg some (by kernel_rfl))
 f322:=Tryz.func290.trans (congrArg some (by kernel_rfl))
 f337:=Tryz.func227.trans (congrArg some (by kernel_rfl))
 f338:=Tryz.func228.trans (congrArg some (by kernel_rfl))
 t0:=Tryz.underlying0
 a0:=Tryz.isAgg0
 z0:=Tryz.sizeOf0
 v0:=Tryz.zeroValue0
 t2:=Tryz.underlying2
 a2:=Tryz.isAgg2
 z2:=Tryz.sizeOf2
 v2:=Tryz.zeroValue2
 t3:=Tryz.underlying3
 a3:=Tryz.isAgg3
 z3:=Tryz.sizeOf3
 v3:=Tryz.zeroValue3
 t4:=Tryz.underlying4
 a4:=Tryz.isAgg4
 z4:=Tryz.sizeOf4
 v4:=Tryz.zeroValue4
 t5:=Tryz.underlying5
 a5:=Tryz.isAgg5
 z5:=Tryz.sizeOf5
 v5:=Tryz.zeroValue5
 t9:=Tryz.underlying9
 a9:=Tryz.isAgg9
 z9:=Tryz.sizeOf9
 v9:=Tryz.zeroValue9
 t20:=Tryz.underlying20
 a20:=Tryz.isAgg20
 z20:=Tryz.sizeOf20
 v20:=Tryz.zeroValue20
 t21:=Tryz.underlying21
 a21:=Tryz.isAgg21
 z21:=Tryz.sizeOf21
 v21:=Tryz.zeroValue21
 t37:=Tryz.underlying22
 a37:=Tryz.isAgg22
 z37:=Tryz.sizeOf22
 v37:=Tryz.zeroValue22
 t46:=Tryz.underlying190
 a46:=Tryz.isAgg190
 z46:=Tryz.sizeOf190
 v46:=Tryz.zeroValue190
 t51:=Tryz.underlying211
 a51:=Tryz.isAgg211
 z51:=Tryz.sizeOf211
 v51:=Tryz.zeroValue211
 t53:=Tryz.underlying176
 a53:=Tryz.isAgg176
 z53:=Tryz.sizeOf176
 v53:=Tryz.zeroValue176
 t75:=Tryz.underlying126
 a75:=Tryz.isAgg126
 z75:=Tryz.sizeOf126
 v75:=Tryz.zeroValue126
 t76:=Tryz.underlying127
 a76:=Tryz.isAgg127
 z76:=Tryz.sizeOf127
 v76:=Tryz.zeroValue127
 t85:=Tryz.underlying248
 a85:=Tryz.isAgg248
 z85:=Tryz.sizeOf248
 v85:=Tryz.zeroValue248
 t127:=Tryz.underlying140
 a127:=Tryz.isAgg140
 z127:=Tryz.sizeOf140
 v127:=Tryz.zeroValue140
 t143:=Tryz.underlying288
 a143:=Tryz.isAgg288
 z143:=Tryz.sizeOf288
 v143:=Tryz.zeroValue288
 t145:=Tryz.underlying290
 a145:=Tryz.isAgg290
 z145:=Tryz.sizeOf290
 v145:=Tryz.zeroValue290
 t167:=Tryz.underlying247
 a167:=Tryz.isAgg247
 z167:=Tryz.sizeOf247
 v167:=Tryz.zeroValue247
 t168:=Tryz.underlying250
 a168:=Tryz.isAgg250
 z168:=Tryz.sizeOf250
 v168:=Tryz.zeroValue250
 t171:=Tryz.underlying175
 a171:=Tryz.isAgg175
 z171:=Tryz.sizeOf175
 v171:=Tryz.zeroValue175
 t173:=Tryz.underlying179
 a173:=Tryz.isAgg179
 z173:=Tryz.sizeOf179
 v173:=Tryz.zeroValue179
 t175:=Tryz.underlying264
 a175:=Tryz.isAgg264
 z175:=Tryz.sizeOf264
 v175:=Tryz.zeroValue264
 t210:=Tryz.underlying267
 a210:=Tryz.isAgg267
 z210:=Tryz.sizeOf267
 v210:=Tryz.zeroValue267
 t212:=Tryz.underlying210
 a212:=Tryz.isAgg210
 z212:=Tryz.sizeOf210
 v212:=Tryz.zeroValue210
 t213:=Tryz.underlying212
 a213:=Tryz.isAgg212
 z213:=Tryz.sizeOf212
 t232:=Tryz.underlying254
 a232:=Tryz.isAgg254
 z232:=Tryz.sizeOf254
 v232:=Tryz.zeroValue254
 t233:=Tryz.underlying255
 a233:=Tryz.isAgg255
 z233:=Tryz.sizeOf255
 v233:=Tryz.zeroValue255
 g15:=by kernel_rfl
 g16:=by kernel_rfl
 g17:=by kernel_rfl
 g18:=by kernel_rfl
 g19:=by kernel_rfl
 t80:=Tryz.underlying80
 a80:=Tryz.isAgg80
 z80:=Tryz.sizeOf80
 v80:=Tryz.zeroValue80
 i0:=by kernel_rfl
 i2:=by kernel_rfl
 i3:=by kernel_rfl
 i4:=by kernel_rfl
 i5:=by kernel_rfl
 i9:=by kernel_rfl
 i20:=by kernel_rfl
 i21:=by kernel_rfl
 i37:=by kernel_rfl
 i46:=by kernel_rfl
 i51:=by kernel_rfl
 i53:=by kernel_rfl
 i75:=by kernel_rfl
 i76:=by kernel_rfl
 i80:=by kernel_rfl
 i85:=by kernel_rfl
 i127:=by kernel_rfl
 i143:=by kernel_rfl
 i145:=by kernel_rfl
 i167:=by kernel_rfl
 i168:=by kernel_rfl
 i171:=by kernel_rfl
 i173:=by kernel_rfl
 i175:=by kernel_rfl
 i210:=by kernel_rfl
 i212:=by kernel_rfl
 i232:=by kernel_rfl
 i233:=by kernel_rfl
 m15:=by kernel_rfl
 m16:=by kernel_rfl
 m17:=by kernel_rfl
 m18:=by kernel_rfl
 m19:=by kernel_rfl
 c0:=by kernel_rfl
 c2:=by kernel_rfl
 c3:=by kernel_rfl
 c4:=by kernel_rfl
 c5:=by kernel_rfl
 c9:=by kernel_rfl
 c20:=by kernel_rfl
 c21:=by kernel_rfl
 c37:=by kernel_rfl
 c46:=by kernel_rfl
 c51:=by kernel_rfl
 c53:=by kernel_rfl
 c75:=by kernel_rfl
 c76:=by kernel_rfl
 c80:=by kernel_rfl
 c85:=by kernel_rfl
 c127:=by kernel_rfl
 c143:=by kernel_rfl
 c145:=by kernel_rfl
 c167:=by kernel_rfl
 c168:=by kernel_rfl
 c171:=by kernel_rfl
 c173:=by kernel_rfl
 c175:=by kernel_rfl
 c210:=by kernel_rfl
 c212:=by kernel_rfl
 c213:=by kernel_rfl
 c232:=by kernel_rfl
 c233:=by kernel_rfl }
open Go.RowKit in
theorem Tryz.strconv_Atoi_ok(s:ByteArray)(hmax:s.size<=9223372036854775806)(v:Int)(h:Lib.atoiAll s.data.toList=.ok v)(w:World) :
 Calls Tryz.prog 177 #[.string s] w λe w'=>e=.returned (.tuple #[.int .i64 v,.nilIface])/\(w'=w∨∃t,w'=Lib.bytesWorld w 5 t):=Any.strconv_Atoi_ok Tryz.laysC172 s hmax v h w
open Go.RowKit in
theorem Tryz.strconv_Atoi_syntax(s:ByteArray)(hlim:s.size<=281474976710656)(h:Lib.atoiAll s.data.toList=Lib.NumEnd.syntax)(ev:Value)(w:World)(hv:w.cell? ⟨4,0,none⟩=some ev)(hev:ev=.nilIface∨∃te pe,ev=.iface te pe) :
 Calls Tryz.prog 177 #[.string s] w λe w'=>∃N,e=.returned (.tuple #[.int .i64 (0),.iface 250 (.pointer (some ⟨N,0,none⟩))])/\w.heap.size<=N/\w'.heap[N]? =some (.cells #[.string ⟨#[65,116,111,105]⟩,.string s,ev] 267 (0,0))/\Below w.heap.size w w':=Any.strconv_Atoi_syntax Tryz.laysC172 s hlim h ev w hv hev
open Go.RowKit in
theorem Tryz.strconv_Atoi_range(s:ByteArray)(hlim:s.size<=281474976710656)(h:Lib.atoiAll s.data.toList=.range)(ev:Value)(w:World)(hv:w.cell? ⟨5,0,none⟩=some ev)(hev:ev=.nilIface∨∃te pe,ev=.iface te pe) :
 Calls Tryz.prog 177 #[.string s] w λe w'=>∃N,e=.returned (.tuple #[.int .i64 (Lib.atoiSat s.data.toList),.iface 250 (.pointer (some ⟨N,0,none⟩))])/\w.heap.size<=N/\w'.heap[N]? =some (.cells #[.string ⟨#[65,116,111,105]⟩,.string s,ev] 267 (0,0))/\Below w.heap.size w w':=Any.strconv_Atoi_range Tryz.laysC172 s hlim h ev w hv hev
def Tryz.lays143_ren:Go.Shelf.Ren:=⟨fun|143=>215|219=>150|217=>180|225=>181|224=>182|267=>183|266=>222|314=>223|n=>n,fun|9=>9|3=>3|4=>4|5=>5|46=>190|146=>226|51=>211|n=>n,fun|1=>0|n=>n⟩
theorem Tryz.lays143:Go.Proofs.Lays.n143 Tryz.prog Tryz.lays143_ren:={
 mixed:=by kernel_rfl
 f143:=Tryz.func215.trans (congrArg some (by kernel_rfl))
 f217:=Tryz.func180.trans (congrArg some (by kernel_rfl))
 f219:=Tryz.func150.trans (congrArg some (by kernel_rfl))
 f224:=Tryz.func182.trans (congrArg some (by kernel_rfl))
 f225:=Tryz.func181.trans (congrArg some (by kernel_rfl))
 f266:=Tryz.func222.trans (congrArg some (by kernel_rfl))
 f267:=Tryz.func183.trans (congrArg some (by kernel_rfl))
 f314:=Tryz.func223.trans (congrArg some (by kernel_rfl))
 t3:=Tryz.underlying3
 a3:=Tryz.isAgg3
 z3:=Tryz.sizeOf3
 v3:=Tryz.zeroValue3
 t4:=Tryz.underlying4
 a4:=Tryz.isAgg4
 z4:=Tryz.sizeOf4
 v4:=Tryz.zeroValue4
 t5:=Tryz.underlying5
 a5:=Tryz.isAgg5
 z5:=Tryz.sizeOf5
 v5:=Tryz.zeroValue5
 t9:=Tryz.underlying9
 a9:=Tryz.isAgg9
 z9:=Tryz.sizeOf9
 v9:=Tryz.zeroValue9
 t46:=Tryz.underlying190
 a46:=Tryz.isAgg190
 z46:=Tryz.sizeOf190
 v46:=Tryz.zeroValue190
 t51:=Tryz.underlying211
 a51:=Tryz.isAgg211
 z51:=Tryz.sizeOf211
 v51:=Tryz.zeroValue211
 t146:=Tryz.underlying226
 a146:=Tryz.isAgg226
 z146:=Tryz.sizeOf226
 v146:=Tryz.zeroValue226
 g1:=by kernel_rfl }
open Go.RowKit Go.Lib in
theorem Tryz.strings_Index(s sub:ByteArray)(m:Int)(w:World)(hs:s.size<4294967281)(hm:w.cell? ⟨0,0,none⟩=some (.int .i64 m)) :
 Calls Tryz.prog 215 #[.string s,.string sub] w λe w'=>e=.returned (.int .i64 (Lib.index s.data.toList sub.data.toList))/\w'=w:=Any.strings_Index Tryz.lays143 s sub m w hs hm
def Tryz.lays145_ren:Go.Shelf.Ren:=⟨fun|145=>60|220=>105|219=>150|217=>180|225=>181|224=>182|267=>183|266=>222|314=>223|n=>n,fun|9=>9|4=>4|59=>88|3=>3|5=>5|46=>190|146=>226|51=>211|n=>n,fun|1=>0|n=>n⟩
theorem Tryz.lays145:Go.Proofs.Lays.n145 Tryz.prog Tryz.lays145_ren:={
 mixed:=by kernel_rfl
 f145:=Tryz.func60.trans (congrArg some (by kernel_rfl))
 f217:=Tryz.func180.trans (congrArg some (by kernel_rfl))
 f219:=Tryz.func150.trans (congrArg some (by kernel_rfl))
 f220:=Tryz.func105.trans (congrArg some (by kernel_rfl))
 f224:=Tryz.func182.trans (congrArg some (by kernel_rfl))
 f225:=Tryz.func181.trans (congrArg some (by kernel_rfl))
 f266:=Tryz.func222.trans (congrArg some (by kernel_rfl))
 f267:=Tryz.func183.trans (congrArg some (by kernel_rfl))
 f314:=Tryz.func223.trans (congrArg some (by kernel_rfl))
 t3:=Tryz.underlying3
 a3:=Tryz.isAgg3
 z3:=Tryz.sizeOf3
 v3:=Tryz.zeroValue3
 t4:=Tryz.underlying4
 a4:=Tryz.isAgg4
 z4:=Tryz.sizeOf4
 v4:=Tryz.zeroValue4
 t5:=Tryz.underlying5
 a5:=Tryz.isAgg5
 z5:=Tryz.sizeOf5
 v5:=Tryz.zeroValue5
 t9:=Tryz.underlying9
 a9:=Tryz.isAgg9
 z9:=Tryz.sizeOf9
 v9:=Tryz.zeroValue9
 t46:=Tryz.underlying190
 a46:=Tryz.isAgg190
 z46:=Tryz.sizeOf190
 v46:=Tryz.zeroValue190
 t51:=Tryz.underlying211
 a51:=Tryz.isAgg211
 z51:=Tryz.sizeOf211
 v51:=Tryz.zeroValue211
 t59:=Tryz.underlying88
 a59:=Tryz.isAgg88
 z59:=Tryz.sizeOf88
 v59:=Tryz.zeroValue88
 t146:=Tryz.underlying226
 a146:=Tryz.isAgg226
 z146:=Tryz.sizeOf226
 v146:=Tryz.zeroValue226
 g1:=by kernel_rfl }
open Go.RowKit Go.Lib in
theorem Tryz.strings_Cut(s sep:ByteArray)(m:Int)(w:World)(hs:s.size<4294967281)(hm:w.cell? ⟨0,0,none⟩=some (.int .i64 m)) :
 Calls Tryz.prog 60 #[.string s,.string sep] w λe w'=>e=.returned (.tuple #[.string ⟨(Lib.cut s.data.toList sep.data.toList).1.toArray⟩,.string ⟨(Lib.cut s.data.toList sep.data.toList).2.1.toArray⟩,.bool (Lib.cut s.data.toList sep.data.toList).2.2])/\∃n,w'=w.drewN n:=Any.strings_Cut Tryz.lays145 s sep m w hs hm
def Tryz.lays146_ren:Go.Shelf.Ren:=⟨fun|146=>136|221=>175|268=>213|138=>214|143=>215|195=>244|197=>220|218=>245|219=>150|260=>252|217=>180|225=>181|224=>182|267=>183|266=>222|314=>223|n=>n,fun|9=>9|31=>31|3=>3|4=>4|0=>0|105=>224|21=>21|5=>5|46=>190|119=>269|139=>272|138=>271|146=>226|51=>211|n=>n,fun|1=>0|3=>6|4=>7|n=>n⟩
theorem Tryz.lays146:Go.Proofs.Lays.n146 Tryz.prog Tryz.lays146_ren:={
 mixed:=by kernel_rfl
 f138:=Tryz.func214.trans (congrArg some (by kernel_rfl))
 f143:=Tryz.func215.trans (congrArg some (by kernel_rfl))
 f146:=Tryz.func136.trans (congrArg some (by kernel_rfl))
 f195:=Tryz.func244.trans (congrArg some (by kernel_rfl))
 f197:=Tryz.func220.trans (congrArg some (by kernel_rfl))
 f217:=Tryz.func180.trans (congrArg some (by kernel_rfl))
 f218:=Tryz.func245.trans (congrArg some (by kernel_rfl))
 f219:=Tryz.func150.trans (congrArg some (by kernel_rfl))
 f221:=Tryz.func175.trans (congrArg some (by kernel_rfl))
 f224:=Tryz.func182.trans (congrArg some (by kernel_rfl))
 f225:=Tryz.func181.trans (congrArg some (by kernel_rfl))
 f260:=Tryz.func252.trans (congrArg some (by kernel_rfl))
 f266:=Tryz.func222.trans (congrArg some (by kernel_rfl))
 f267:=Tryz.func183.trans (congrArg some (by kernel_rfl))
 f268:=Tryz.func213.trans (congrArg some (by kernel_rfl))
 f314:=Tryz.func223.trans (congrArg some (by kernel_rfl))
 t0:=Tryz.underlying0
 a0:=Tryz.isAgg0
 z0:=Tryz.sizeOf0
 v0:=Tryz.zeroValue0
 t3:=Tryz.underlying3
 a3:=Tryz.isAgg3
 z3:=Tryz.sizeOf3
 v3:=Tryz.zeroValue3
 t4:=Tryz.underlying4
 a4:=Tryz.isAgg4
 z4:=Tryz.sizeOf4
 v4:=Tryz.zeroValue4
 t5:=Tryz.underlying5
 a5:=Tryz.isAgg5
 z5:=Tryz.sizeOf5
 v5:=Tryz.zeroValue5
 t9:=Tryz.underlying9
 a9:=Tryz.isAgg9
 z9:=Tryz.sizeOf9
 v9:=Tryz.zeroValue9
 t21:=Tryz.underlying21
 a21:=Tryz.isAgg21
 z21:=Tryz.sizeOf21
 v21:=Tryz.zeroValue21
 t31:=Tryz.underlying31
 a31:=Tryz.isAgg31
 z31:=Tryz.sizeOf31
 v31:=Tryz.zeroValue31
 t46:=Tryz.underlying190
 a46:=Tryz.isAgg190
 z46:=Tryz.sizeOf190
 v46:=Tryz.zeroValue190
 t51:=Tryz.underlying211
 a51:=Tryz.isAgg211
 z51:=Tryz.sizeOf211
 v51:=Tryz.zeroValue211
 t105:=Tryz.underlying224
 a105:=Tryz.isAgg224
 z105:=Tryz.sizeOf224
 v105:=Tryz.zeroValue224
 t119:=Tryz.underlying269
 a119:=Tryz.isAgg269
 z119:=Tryz.sizeOf269
 t138:=Tryz.underlying271
 a138:=Tryz.isAgg271
 z138:=Tryz.sizeOf271
 v138:=Tryz.zeroValue271
 t139:=Tryz.underlying272
 a139:=Tryz.isAgg272
 z139:=Tryz.sizeOf272
 v139:=Tryz.zeroValue272
 t146:=Tryz.underlying226
 a146:=Tryz.isAgg226
 z146:=Tryz.sizeOf226
 v146:=Tryz.zeroValue226
 g1:=by kernel_rfl
 g3:=by kernel_rfl
 g4:=by kernel_rfl }
open Go.RowKit Go.Lib in
theorem Tryz.strings_Split(s sep:ByteArray)(m:Int)(w:World)(hs:s.size<4294967281)(hm:w.cell? ⟨0,0,none⟩=some (.int .i64 m))(h1:1<=sep.size) :
 Calls Tryz.prog 136 #[.string s,.string sep] w λe w'=>
  e=.returned (.slice (some ⟨w.heap.size,0,none⟩) (Lib.countB s sep+1) (Lib.countB s sep+1))/\w'=w.alloc (.cells ((Lib.splitB sep 0 (Lib.countB s sep) s).map Value.string).toArray 9):=Any.strings_Split Tryz.lays146 (by kernel_rfl) s sep m w hs hm h1
def Tryz.sortEdge_ren:Go.Shelf.Ren:=⟨fun|6=>233|15=>256|14=>257|28=>277|29=>194|20=>278|21=>279|22=>280|23=>281|24=>282|25=>283|26=>284|27=>285|46=>296|47=>292|48=>293|49=>297|50=>298|57=>301|n=>n,fun|22=>172|24=>200|25=>238|3=>3|39=>190|0=>0|53=>211|55=>176|4=>4|46=>275|45=>274|50=>91|5=>5|9=>9|66=>291|70=>295|76=>300|77=>301|n=>n,fun|n=>n⟩
theorem Tryz.sortEdge:Go.Proofs.SlLaysF0.n6 Tryz.prog Tryz.sortEdge_ren:={
 mixed:=by kernel_rfl
 f6:=⟨Tryz.f233.name,by decide,Tryz.func233.trans (congrArg some (by kernel_rfl))⟩
 f14:=⟨Tryz.f257.name,by decide,Tryz.func257.trans (congrArg some (by kernel_rfl))⟩
 f15:=Tryz.func256.trans (congrArg some (by kernel_rfl))
 f20:=⟨Tryz.f278.name,by decide,Tryz.func278.trans (congrArg some (by kernel_rfl))⟩
 f21:=⟨Tryz.f279.name,by decide,Tryz.func279.trans (congrArg some (by kernel_rfl))⟩
 f22:=⟨Tryz.f280.name,by decide,Tryz.func280.trans (congrArg some (by kernel_rfl))⟩
 f23:=⟨Tryz.f281.name,by decide,Tryz.func281.trans (congrArg some (by kernel_rfl))⟩
 f24:=⟨Tryz.f282.name,by decide,Tryz.func282.trans (congrArg some (by kernel_rfl))⟩
 f25:=⟨Tryz.f283.name,by decide,Tryz.func283.trans (congrArg some (by kernel_rfl))⟩
 f26:=⟨Tryz.f284.name,by decide,Tryz.func284.trans (congrArg some (by kernel_rfl))⟩
 f27:=⟨Tryz.f285.name,by decide,Tryz.func285.trans (congrArg some (by kernel_rfl))⟩
 f28:=Tryz.func277.trans (congrArg some (by kernel_rfl))
 f29:=Tryz.func194.trans (congrArg some (by kernel_rfl))
 f46:=⟨Tryz.f296.name,by decide,Tryz.func296.trans (congrArg some (by kernel_rfl))⟩
 f47:=Tryz.func292.trans (congrArg some (by kernel_rfl))
 f48:=Tryz.func293.trans (congrArg some (by kernel_rfl))
 f49:=⟨Tryz.f297.name,by decide,Tryz.func297.trans (congrArg some (by kernel_rfl))⟩
 f50:=⟨Tryz.f298.name,by decide,Tryz.func298.trans (congrArg some (by kernel_rfl))⟩
 f57:=⟨Tryz.f301.name,by decide,Tryz.func301.trans (congrArg some (by kernel_rfl))⟩
 t0:=Tryz.underlying0
 a0:=Tryz.isAgg0
 z0:=Tryz.sizeOf0
 v0:=Tryz.zeroValue0
 t3:=Tryz.underlying3
 a3:=Tryz.isAgg3
 z3:=Tryz.sizeOf3
 v3:=Tryz.zeroValue3
 t4:=Tryz.underlying4
 a4:=Tryz.isAgg4
 z4:=Tryz.sizeOf4
 v4:=Tryz.zeroValue4
 t5:=Tryz.underlying5
 a5:=Tryz.isAgg5
 z5:=Tryz.sizeOf5
 v5:=Tryz.zeroValue5
 t9:=Tryz.underlying9
 a9:=Tryz.isAgg9
 z9:=Tryz.sizeOf9
 v9:=Tryz.zeroValue9
 t22:=Tryz.underlying172
 a22:=Tryz.isAgg172
 z22:=Tryz.sizeOf172
 v22:=Tryz.zeroValue172
 t25:=Tryz.underlying238
 a25:=Tryz.isAgg238
 z25:=Tryz.sizeOf238
 v25:=Tryz.zeroValue238
 t39:=Tryz.underlying190
 a39:=Tryz.isAgg190
 z39:=Tryz.sizeOf190
 v39:=Tryz.zeroValue190
 t45:=Tryz.underlying274
 a45:=Tryz.isAgg274
 z45:=Tryz.sizeOf274
 v45:=Tryz.zeroValue274
 t46:=Tryz.underlying275
 a46:=Tryz.isAgg275
 z46:=Tryz.sizeOf275
 v46:=Tryz.zeroValue275
 t50:=Tryz.underlying91
 a50:=Tryz.isAgg91
 z50:=Tryz.sizeOf91
 v50:=Tryz.zeroValue91
 t53:=Tryz.underlying211
 a53:=Tryz.isAgg211
 z53:=Tryz.sizeOf211
 v53:=Tryz.zeroValue211
 t55:=Tryz.underlying176
 a55:=Tryz.isAgg176
 z55:=Tryz.sizeOf176
 v55:=Tryz.zeroValue176
 t66:=Tryz.underlying291
 a66:=Tryz.isAgg291
 z66:=Tryz.sizeOf291
 v66:=Tryz.zeroValue291
 t70:=Tryz.underlying295
 a70:=Tryz.isAgg295
 z70:=Tryz.sizeOf295
 v70:=Tryz.zeroValue295
 t76:=Tryz.underlying300
 a76:=Tryz.isAgg300
 z76:=Tryz.sizeOf300
 v76:=Tryz.zeroValue300
 t77:=Tryz.underlying301
 a77:=Tryz.isAgg301
 z77:=Tryz.sizeOf301
 v77:=Tryz.zeroValue301 }
end Go.Proofs
end
namespace Go.Proofs.YtcdopfdgknglfaaGreatDoor
open Go.RowKit
section
attribute [local go_sem] Oper.semAt_some
theorem ab7:(Tryz.prog.info? 3).map (λi=>(i.zero,i.size,i.bytes))=some (some (.int .i64 0),1,8):=by kernel_rfl
theorem J7(B n₀:Nat)(xs:List Int)(w:World)(hn₀:n₀<=w.heap.size)(hlen:xs.length<=1000)(hseq:IJ n₀ B xs w) :
 Calls Tryz.prog 254 #[.slice none 0 0,.func (.func 232) #[] #[.pointer (some ⟨B,0,none⟩)]] w λe w'=>∃v,e=.returned v/\Row 3 1 (one encI) w.heap.size w' v xs/\Ext w w':=by
 refine(callsIn_wide (n:=9)).1 ?_
 refine callsIn_of_wp_marks Tryz.func254 rfl trivial ?_ rfl;simp only[Tryz.ntmps254,List.size_toArray,eO,iJ,Nat.reduceAdd,Nat.reduceSub,Array.replicate_succ,Array.replicate_zero,List.push_toArray,List.append_toArray,List.nil_append,List.cons_append]
 gi_wp2
 have bO:=Boxed.new w 56 (.slice none 0 0);have eB:Ext w (w.alloc (.cells #[.slice none 0 0] 56)):=(af _).alloc _;obtain⟨W0,hW0⟩:∃W0,w.alloc (.cells #[.slice none 0 0] 56)=W0:=⟨_,rfl⟩;have hsz:W0.heap.size=w.heap.size+1:=by rw[<-hW0];simp
 rw[hW0]at bO eB ⊢;clear hW0;refine wpIn_rangeFunc_ownG rfl (by omega) (gf:=232) (lb:=#[.pointer (some ⟨B,0,none⟩)]) rfl trivial (enters_of Tryz.func232 (by kernel_rfl) rfl)
  hseq belowK_t (belowK_b (by omega)) eB (λ_=>rfl)
  (λpre W=>(∃v,Boxed W w.heap.size 56 v/\W.ownsRow w.heap.size 3 1 v pre.length (pre.flatMap (aH 1 (one encI)))/\True)/\Below w.heap.size w W)
  (λ_ _ _=>False)
  (OwnFrom.and (Go.Own.from (holdsRow_own w.heap.size w.heap.size _ _ 1 (λpre:List Int=>pre.length) (λpre:List Int=>pre.flatMap (aH 1 (one encI))) (λ_ _=>True)) _) (ownFrom_below (av _) (by omega)))
  (λ_ _ _ _ _ hs _ _=>hs)
  ⟨⟨_,bO,World.ownsRow_nil _ _ _ _,trivial⟩,eB⟩
  (λx=>{ tmps:=#[.slice none 0 0,.func (.func 232) #[] #[.pointer (some ⟨B,0,none⟩)],.pointer (some ⟨w.heap.size,0,none⟩),undef,.slice none 0 0,.int .i64 x,.func (.func 232) #[] #[.pointer (some ⟨B,0,none⟩)],.int .i64 x,undef,undef,undef,undef,undef],defers:=[] }) ?assign ?body ?done ?stop
 case assign=>
  intro l x W K hK
  gi_wp2
  exact hK
 case body=>
  rintro l pre x W ⟨⟨v,hO,hrow,-⟩,hB⟩ hlt;obtain⟨i0,hi,hz0,hz1,hz2⟩:=info_parts ab7;have cO:=hO.cell;have fO:=hO.frozen;have HO:=aa hO;have HR:=aa hrow;have HB:=aa hB;have hWs:=hB.size;clear hO hrow hB bO eB
  gi_wp2_with (gi_at_builtin;refine halt ?_)
  refine Halt.go ?_;refine wpListIn_append_own _ rfl _ _ 56 rfl w.heap.size 3 i0 (.int .i64 0) 1 8 Mm hi hz0 hz1 hz2 rfl (by decide) _ _ _ rfl (World.ownsRow.alloc HR.out _) ⟨_,0,none⟩ 1 1 [.int .i64 x] rfl rfl (VW _ _ _ _ rfl) (by simp[Value.oneCell']) (by simp only[maxLen];omega) (by omega) (by simp;omega) ?_;intro v' w9 hown' hgrow _;obtain⟨g',cap',rfl⟩:=ownsRow_succ hown';have AP:=aa (Boxed.appended HO.out (by decide) HR.out (by omega) (by omega) hown' hgrow);have hc1:=AP.out.1.cell;have hf1:=AP.out.1.frozen
  gi_wp2
  have hrw:=AP.out.2.2.1;refine⟨AP.out.2.2.2.1.from _,AP.out.2.2.2.2.mono hn₀,⟨_,AP.out.2.1,?_,trivial⟩,HB.out.trans AP.out.2.2.2.2⟩;simp only[dw,oN,lq]
  simpa[aH,one,encI] using hrw
 case done=>
  rintro D ys W hD rfl ⟨⟨v,hO,hrow,-⟩,hB⟩ hK;have hr:Row 3 1 (one encI) w.heap.size W v ys:=hrow;have HR:=aa hr;have HB:=aa hB;have cO:=hO.cell;clear hr hrow hO hB bO eB
  gi_wp2
  refine⟨by simp,.inl ⟨_,_,rfl,run_takeDeferred hK,?_⟩⟩;exact⟨_,results_tmp rfl _ _ _,v,rfl,ownsRow_putObj HR.out _ hK rfl,Below.trans HB.out (belowK_b (w:=w) (av _) _ D _ _ (by omega) hK rfl rfl)⟩
 case stop=>
  rintro D c_ pre W _ _ h _;exact h.elim
theorem Ob(B n₀:Nat)(xs:List Int)(w:World)(hn₀:n₀<=w.heap.size)(hlen:xs.length<=1000)(hseq:IJ n₀ B xs w) :
 Calls Tryz.prog 230 #[.func (.func 232) #[] #[.pointer (some ⟨B,0,none⟩)]] w λe w'=>∃v,e=.returned v/\Row 3 1 (one encI) w.heap.size w' v xs/\Ext w w':=by
 go_enter Tryz.func230,Tryz.ntmps230;go_wp2_with fail
 refine(J7 B n₀ xs _ hn₀ hlen hseq).mono ?_
 rintro e w1 ⟨v,rfl,hr,b1⟩;go_wp2;go_returns;exact⟨_,rfl,hr,b1⟩
theorem IP(B n₀:Nat)(xs:List Int)(w:World)(hn₀:n₀<=w.heap.size)(hlen:xs.length<=7)(hseq:IJ n₀ B xs w) :
 Calls Tryz.prog 200 #[.func (.func 232) #[] #[.pointer (some ⟨B,0,none⟩)]] w λe w'=>∃v ys,e=.returned v/\ys.Perm xs/\ys.Pairwise (·<=·)/\oZ encI w' v ys/\Ext w w':=by
 go_enter Tryz.func200,Tryz.ntmps200;go_wp2_with fail
 refine(Ob B n₀ xs _ hn₀ (by omega) hseq).mono ?_
 rintro e w1 ⟨v,rfl,hr,b1⟩;have HR:=aa hr;have HB:=aa b1;obtain⟨A,c,rfl,-⟩:=hr.cell.1;clear hr b1;go_wp2_with fail
 refine(Vr _ HR.out.cell.1.to1 HR.out.cell.2 hlen).mono ?_
 rintro e w2 ⟨rfl,ys,hp,hs,hy,ho⟩;have HP:=aa (aB hp hs);have HY:=aa hy;have HO:=aa ho;clear hp hs hy ho;go_wp2;go_returns;exact⟨_,ys,rfl,HP.out.1,HP.out.2,HY.out,Ext.only HB.out HO.out HR.out.cell.2 (av _)⟩
end
theorem MI{xs ys:List Int}(hl:xs.length=ys.length)(h:∀(i:Nat) (x y:Int),xs[i]? =some x->ys[i]? =some y->x=y):xs=ys:=by
 apply List.ext_getElem?;intro i;by_cases hi:i<xs.length
 ·have h2:i<ys.length:=by omega
  rw[dJ hi,dJ h2];exact agB some (h i _ _ (dJ hi) (dJ h2))
 ·rw[agI (by omega),agI (by omega)]
theorem J2{v v':Value}{xs ys:List Int}(w:World)(h:oZ encI w v xs)(h':oZ encI w v' ys)(hlen:xs.length<=2097152) :
 Calls Tryz.prog 202 #[v,v'] w λe w'=>e=.returned (.bool (decide (xs=ys)))/\Ext w w':=by
 obtain⟨A,c,rfl,h⟩:=h;obtain⟨A',c',rfl,h'⟩:=h';by_cases hl:xs.length=ys.length;case neg=>
  have hd:Hid (decide (xs=ys)=false):=by show _ = _;exact dU λe=>hl (by rw[e])
  have hq:((xs.length:Int)==(ys.length:Int))=false:=by rw[fU];omega
  clear h h' hl;go_enter Tryz.func202,Tryz.ntmps202;go_wp2;go_returns;exact⟨aS hd.out.symm,af _⟩
 have HL:=aa hl;rw[<-hl]at h';rw[<-hl];clear hl;go_enter Tryz.func202,Tryz.ntmps202;go_wp2;go_loopw [13] (λi wr=>Ext w wr/\∃k:Nat,k<=xs.length/\i=.int .i64 k/\Hid (∀(i:Nat) (x y:Int),i<k->xs[i]? =some x->ys[i]? =some y->x=y)) (λi _=>xs.length-(intOf i).toNat)
 case atStart=>exact⟨af _,0,aT _,rfl,λ_ _ _ h=>absurd h (gu _)⟩
 case round=>
  obtain⟨hb,k,hk,rfl,HI⟩:=hrel;by_cases hlt:k<xs.length
  ·obtain⟨b,off,rfl,hbl,hc⟩:=h (by omega);obtain⟨b',off',rfl,ru,hc'⟩:=h' (by omega);obtain⟨x,hx⟩:=ah hlt;obtain⟨y,hy⟩:=ah (show k<ys.length by have:=HL.out;omega);have c0:∀e,(over wr e).cell? ⟨b,off+k,none⟩=some (.int .i64 x):=aK (hb.cell (hc k x hx));have d0:∀e,(over wr e).cell? ⟨b',off'+k,none⟩=some (.int .i64 y):=aK (hb.cell (hc' k y hy));have HX:=aa (aB hx hy);clear hx hy h h' hc hc';by_cases hxy:x=y
   ·have hN:Hid (∀(i:Nat) (x y:Int),i<k+1->xs[i]? =some x->ys[i]? =some y->x=y):=λi x1 y1 hi h1 h2=>by
     by_cases e:i=k
     ·subst e;rw[HX.out.1]at h1;rw[HX.out.2]at h2;cases h1;cases h2;exact hxy
     ·exact HI.out i x1 y1 (by omega) h1 h2
    have hne:(x != y)=false:=by rw[hxy];simp
    clear hxy;go_wp2;refine aU (by kernel_rfl) (by kernel_rfl) ?_;repeat (go_big_quiet_step ((fail)))
    refine j5 ?_;intro w1 hb1;go_wp2;go_roundw;case rel=>exact⟨hb.trans hb1,k+1,by omega,by go_num,hN⟩
    case measure=>simp[intOf];omega
   ·have hd:Hid (decide (xs=ys)=false):=by
     show _ = _;refine dU λe=>hxy ?_;have h1:=HX.out.1;rw[e,HX.out.2]at h1
     exact(M5 h1).symm
    have hne:(x != y)=true:=by simpa using hxy
    clear hxy;go_wp2;refine aU (by kernel_rfl) (by kernel_rfl) ?_;repeat (go_big_quiet_step ((fail)))
    refine j5 ?_;intro w1 hb1;go_wp2;go_returns;exact⟨aS hd.out.symm,hb.trans hb1⟩
  ·obtain rfl:k=xs.length:=by omega
   have hd:Hid (decide (xs=ys)=true):=by show _ = _;exact jw (MI HL.out λi x y hx hy=>HI.out i x y (bG.1 hx).1 hx hy)
   go_wp2;go_returns;exact⟨aS hd.out.symm,hb⟩
theorem KG{A:Option Addr}{c:Nat}{xs:List Int}(w:World)(h:I1 w (.slice A xs.length c) xs)(hlen:xs.length<=2097152):IJ w.heap.size w.heap.size xs (w.alloc (.cells #[.slice A xs.length c] 56)):=by
 have adW:Boxed (w.alloc (.cells #[.slice A xs.length c] 56)) w.heap.size 56 (.slice A xs.length c):=Boxed.new _ _ _;have hE:Ext w (w.alloc (.cells #[.slice A xs.length c] 56)):=(af _).alloc _;rcases Nat.eq_zero_or_pos xs.length with h0|h0
 ·obtain rfl:xs=[]:=mZ h0;exact values_stops w.heap.size w.heap.size c A [] _ (by simp) (by simp) adW.cell 0 0 (λh=>by simp at h) (λh=>by simp at h) hE.size (λi x hx=>by simp at hx)
 ·obtain⟨b,off,rfl,hb,hc⟩:=ou.cells h h0;exact values_stops w.heap.size w.heap.size c _ xs _ (by simp) hlen adW.cell b off (λ_=>rfl) (λ_=>hb) hE.size (λi x hx=>hE.cell (hc i x hx))
theorem Ox{xs ys a b:List Int}(h:xs.Perm ys)(ha:a.Perm xs)(hb:b.Perm ys)(sa:a.Pairwise (·<=·))(sb:b.Pairwise (·<=·)):a=b:=
 List.Perm.eq_of_pairwise (le:=λx y=>x<=y) (λx y _ _ h1 h2=>by omega) sa sb ((ha.trans h).trans hb.symm)
def lu(h:List aG)(os:List (List Int)):Prop:=os.length=3/\∀(k:Nat) o,os[k]? =some o->o.Perm (aW h (k:Int))
theorem Bt{h:List aG}{os:List (List Int)}(hm:os∈gJ h):lu h os:=by
 unfold gJ at hm;split at hm;case isFalse=>cases hm
 refine⟨nD hm,?_⟩;have key:∀{k:Nat} {x:List (List Int)},x∈bY h k->∀(j:Nat) o,x[j]? =some o->o.Perm (aW h (j:Int)):=by
  intro k
  induction k with
  | zero=>intro x hx j o ho;simp[bY]at hx;subst hx;simp at ho
  | succ k ih=>
    intro x hx j o ho;have hx':=hx;simp only[bY,List.mem_flatMap,fV]at hx';obtain⟨b,hb,p,hp,rfl⟩:=hx';have hbl:=nD hb;rcases eP j k with h1|h1
    ·rw[oK (by omega)]at ho;exact ih hb j o ho
    ·have:j=k:=by
      have:=(bG.1 ho).1
      simp at this;omega
     subst this;rw[agG (by omega),hbl]at ho;simp at ho;subst ho;exact pY hp
 exact key hm
theorem uR{v u:Value}{h:List aG}{os:List (List Int)}(w:World)(H:iM w v h)(hok:aD h=true)(hu:I2 w u os)(ho:lu h os) :
 Calls Tryz.prog 169 #[v,u] w λe w'=>e=.returned (.bool true)/\Ext w w':=by
 obtain⟨A,c,rfl⟩:=H.slice;obtain⟨Au,cu,rfl,_⟩:=Ls.slice hu;have HH:=aa H;have HU:=aa hu;have fu:=aa hok;have hlen:=aR hok;have hol:os.length=3:=ho.1;have HO:=aa ho.2;have h4:=λ(order:List Int) (k:Nat) (hk:os[k]? =some order)=>(show order.length<=6 by rw[(HO.out k order hk).length_eq];have:=je h (k:Int);omega);have HL:=aa h4;clear H hok hu ho h4;rw[hol]at HU ⊢;go_enter Tryz.func169,Tryz.ntmps169;go_wp2_with fail
 refine(bZ _ HH.out (by omega) (aJ fu.out)).mono ?_
 rw[fu.out];rintro e w1 ⟨rfl,b1⟩;have HB1:=aa b1;clear b1;go_wp2;go_loopw [19] (λi wr=>Ext w wr/\∃k:Nat,k<=3/\i=.int .i64 k) (λi _=>3-(intOf i).toNat)
 case atStart=>exact⟨HB1.out,0,by omega,rfl⟩
 case round=>
  obtain⟨hb,k,hk,rfl⟩:=hrel;by_cases hlt:k<3
  ·obtain⟨order,hor⟩:=ah (show k<os.length by omega);obtain⟨b,off,rfl,_,hc⟩:=Ls.cells HU.out (by omega);obtain⟨uo,Od,hP⟩:=hc k order hor;replace Od:=hb.cell Od;have h6:=HL.out order k hor;have hP':=ou.ext hP hb;obtain⟨Ao,co,rfl,_⟩:=ou.slice hP';have HP:=aa hP';have HPM:=aa (HO.out k order hor);clear hc hP hP' hor;have hlt3:(k:Int)<3:=by omega
   go_wp2_with fail
   refine(GR _ _ _ _).mono ?_
   rintro e w2 ⟨rfl,rfl⟩;have E2:=aa ((af wr).alloc (.cells #[.slice Ao order.length co] 56));go_wp2_with fail
   refine(IP wr.heap.size wr.heap.size order _ E2.out.size (by omega) (KG wr HP.out (by omega))).mono ?_
   rintro e w3 ⟨v3,ya,rfl,hp,hs,hy,b3⟩;have HYA:=aa (aB hp (aB hs hy));have E3:=aa (hb.trans (E2.out.trans b3));clear hp hs hy b3;obtain⟨A3,c3,rfl,_⟩:=HYA.out.2.2;go_wp2_with fail
   refine(xX (k:Int) _ (HH.out.ext E3.out) fu.out (cK.2 (by omega))).mono ?_
   rintro e w4 ⟨v4,rfl,r4,b4⟩;have hs4:=ou.dS r4;obtain⟨A4,c4,rfl,_⟩:=hs4.slice;have K6:=aa hs4;have h64:=je h (k:Int);have B4:=aa b4;clear r4 hs4 b4;go_wp2_with fail
   refine(GR _ _ _ _).mono ?_
   rintro e w5 ⟨rfl,rfl⟩;have E5:=aa ((af w4).alloc (.cells #[.slice A4 (aW h (k:Int)).length c4] 56));go_wp2_with fail
   refine(IP w4.heap.size w4.heap.size (aW h (k:Int)) _ E5.out.size (by omega) (KG w4 K6.out (by omega))).mono ?_
   rintro e w6 ⟨v6,yb,rfl,hp,hs,hy,b6⟩;have hab:=Ox HPM.out HYA.out.1 hp HYA.out.2.1 hs;have B6:=aa (B4.out.trans (E5.out.trans b6));have HYB:=aa hy;have HAB:=aa (jw hab);have hyl:ya.length<=6:=by rw[HYA.out.1.length_eq];omega
   obtain⟨A6,c6,rfl,_⟩:=HYB.out;clear hp hs hy b6 hab;go_wp2_with fail
   refine(J2 _ (HYA.out.2.2.ext B6.out) HYB.out (by omega)).mono ?_
   rw[HAB.out];rintro e w7 ⟨rfl,b7⟩;have E7:=aa (E3.out.trans (B6.out.trans b7));go_wp2;go_roundw;case rel=>exact⟨E7.out,k+1,by omega,by go_num⟩
   case measure=>simp[intOf];omega
  ·obtain rfl:k=3:=by omega
   go_wp2;go_returns;exact⟨rfl,hb⟩
def ze(x y:Int):Int:=if x<y then -1 else if y<x then 1 else 0
theorem MK(x y:Int)(w:World):Calls Tryz.prog 259 #[.int .i64 x,.int .i64 y] w λe w'=>e=.returned (.int .i64 (ze x y))/\w=w':=by
 rcases Int.lt_trichotomy x y with h|h|h
 ·have h1:ze x y=-1:=aj h;have h2:decide (x<y)=true:=jw h;rw[h1];clear h1;go_enter Tryz.func259,Tryz.ntmps259;go_wp2_with (first|(go_at_call 286;refine(yT _ _).mono ?_;rintro e w' ⟨rfl,rfl⟩))
  go_returns;exact⟨rfl,rfl⟩
 ·subst h;have h1:ze x x=0:=by simp[ze]
  have h2:decide (x<x)=false:=by simp
  rw[h1];clear h1;go_enter Tryz.func259,Tryz.ntmps259;go_wp2_with (first|(go_at_call 286;refine(yT _ _).mono ?_;rintro e w' ⟨rfl,rfl⟩))
  go_returns;exact⟨rfl,rfl⟩
 ·have h1:ze x y=1:=by rw[ze,au (by omega),aj h]
  have h2:decide (x<y)=false:=dU (by omega);have h3:decide (y<x)=true:=jw h;have h4:¬x<y:=by omega
  rw[h1];clear h1;go_enter Tryz.func259,Tryz.ntmps259;go_wp2_with (first|(go_at_call 286;refine(yT _ _).mono ?_;rintro e w' ⟨rfl,rfl⟩))
  go_returns;exact⟨rfl,rfl⟩
def Y2(xs:List Int):Int:=(xs.find? (· != 0)).getD 0
theorem Xq{xs:List Int}{k:Nat}(h:∀(i:Nat) x,i<k->xs[i]? =some x->x=0)(hk:xs.length<=k):Y2 xs=0:=by
 unfold Y2;rw[List.find?_eq_none.2]
 ·rfl
 ·intro x hx;obtain⟨i,hi,rfl⟩:=jq hx
  have:=h i xs[i] (by omega) (dJ hi)
  simp[this]
theorem TV:∀{xs:List Int} {k:Nat} {x:Int},xs[k]? =some x->x≠0->(∀(i:Nat) y,i<k->xs[i]? =some y->y=0)->Y2 xs=x
 | [],k,x,h,_,_=>by simp at h
 | a :: xs,0,x,h,hx,_=>by simp at h;subst h;simp[Y2,hx]
 | a :: xs,k+1,x,h,hx,h0=>by
   have ha:a=0:=h0 0 a (by omega) rfl
   have:=TV (xs:=xs) (k:=k) (by simpa using h) hx (λi y hi hy=>h0 (i+1) y (by omega) (by simpa using hy))
   unfold Y2 at this ⊢;rw[List.find?_cons,ha];exact this
theorem Vi{v:Value}{xs:List Int}(w:World)(h:oZ encI w v xs)(hlen:xs.length<=1000):Calls Tryz.prog 258 #[v] w λe w'=>e=.returned (.int .i64 (Y2 xs))/\w=w':=by
 obtain⟨A,c,rfl,hc⟩:=h;have HC:=aa hc;clear hc;go_enter Tryz.func258,Tryz.ntmps258;go_wp2;go_loopw [8] (λi wr=>w=wr/\∃k:Nat,k<=xs.length/\i=.int .i64 k/\Hid (∀(i:Nat) x,i<k->xs[i]? =some x->x=0)) (λi _=>xs.length-(intOf i).toNat)
 case atStart=>exact⟨rfl,0,aT _,rfl,λ_ _ h=>absurd h (gu _)⟩
 case round=>
  obtain⟨rfl,k,hk,rfl,HI⟩:=hrel;by_cases hlt:k<xs.length
  ·obtain⟨b,off,rfl,hb,hc⟩:=HC.out (by omega);obtain⟨x,hx⟩:=ah hlt;have c0:=hc k x hx;simp only[encI]at c0;by_cases h0:x=0
   ·have hz:(x==0)=true:=by simp[h0]
    have HN:Hid (∀(i:Nat) y,i<k+1->xs[i]? =some y->y=0):=λi y hi hy=>by
     rcases eP i k with h|h
     ·exact HI.out i y h hy
     ·obtain rfl:i=k:=by omega
      rw[hx]at hy;cases hy;exact h0
    clear hc hx HI;go_wp2;go_roundw;case rel=>exact⟨trivial,k+1,by omega,by go_num,HN.out⟩
    case measure=>simp[intOf];omega
   ·have hz:(x==0)=false:=by simp[h0]
    have HN:=aa (TV hx h0 HI.out);clear hc hx HI;go_wp2;go_returns;exact⟨bU HN.out.symm,rfl⟩
  ·obtain rfl:k=xs.length:=by omega
   have HN:=aa (Xq HI.out (av _));clear HI;go_wp2;go_returns;exact⟨bU HN.out.symm,rfl⟩
def cfE(x y:Edge):Int:=Y2 [ze x.fH y.fH,ze x.to y.to,ze x.kind y.kind]
theorem Fx(x y:Edge)(W:World):Calls Tryz.prog 234 #[.agg #[.int .i64 x.fH,.int .i64 x.to,.int .i64 x.kind],.agg #[.int .i64 y.fH,.int .i64 y.to,.int .i64 y.kind]] W λe w'=>e=.returned (.int .i64 (cfE x y))/\∃q os',w'=Sort.grow (W.drewN q) os':=by
 have e1:Ext W (W.alloc (.cells #[.int .i64 x.fH,.int .i64 x.to,.int .i64 x.kind] 200)):=(af _).alloc _;obtain⟨W2,hW2⟩:∃W2,(W.alloc (.cells #[.int .i64 x.fH,.int .i64 x.to,.int .i64 x.kind] 200)).alloc (.cells #[.int .i64 y.fH,.int .i64 y.to,.int .i64 y.kind] 200)=W2:=⟨_,rfl⟩;have hs1:(W.alloc (.cells #[.int .i64 x.fH,.int .i64 x.to,.int .i64 x.kind] 200)).heap.size=W.heap.size+1:=by simp
 have hs2:W2.heap.size=W.heap.size+2:=by rw[<-hW2];simp
 have c0:W2.cell? ⟨W.heap.size,0,none⟩=some (.int .i64 x.fH):=by rw[<-hW2];exact((af _).alloc _).cell (aF rfl)
 have c1:W2.cell? ⟨W.heap.size,1,none⟩=some (.int .i64 x.to):=by rw[<-hW2];exact((af _).alloc _).cell (aF rfl)
 have c2:W2.cell? ⟨W.heap.size,2,none⟩=some (.int .i64 x.kind):=by rw[<-hW2];exact((af _).alloc _).cell (aF rfl)
 have d0:W2.cell? ⟨W.heap.size+1,0,none⟩=some (.int .i64 y.fH):=by rw[<-hW2];exact iU hs1 rfl
 have d1:W2.cell? ⟨W.heap.size+1,1,none⟩=some (.int .i64 y.to):=by rw[<-hW2];exact iU hs1 rfl
 have d2:W2.cell? ⟨W.heap.size+1,2,none⟩=some (.int .i64 y.kind):=by rw[<-hW2];exact iU hs1 rfl
 have hgr:Hid (∀o,W2.drew.alloc o=Sort.grow (W.drewN 1) #[.cells #[.int .i64 x.fH,.int .i64 x.to,.int .i64 x.kind] 200,.cells #[.int .i64 y.fH,.int .i64 y.to,.int .i64 y.kind] 200,o]):=λo=>by rw[<-hW2];simp only[Sort.alloc_eq_grow,Sort.grow_grow,Sort.drew_grow];rfl
 have HL:Hid (∀o1 o2 o3:Int,oZ encI (W2.drew.alloc (.cells #[.int .i64 o1,.int .i64 o2,.int .i64 o3] 3)) (.slice (some ⟨W.heap.size+2,0,none⟩) 3 3) [o1,o2,o3]):=λo1 o2 o3=>by have h:=(Row.lit (m:=1) (enc:=one encI) W2.drew #[.int .i64 o1,.int .i64 o2,.int .i64 o3] 3 [o1,o2,o3] (by simp[aH,one,encI]) (by simp)).cell.1.to1;have hd:W2.drew.heap.size=W.heap.size+2:=hs2;rw[hd]at h;exact h
 have HR:Hid (cfE x y=Y2 [ze x.fH y.fH,ze x.to y.to,ze x.kind y.kind]):=rfl;go_enter Tryz.func234,Tryz.ntmps234;go_wp2;go_region_held3 (λW'=>W'.cell? ⟨W.heap.size,0,none⟩=some (.int .i64 x.fH)/\W'.cell? ⟨W.heap.size,1,none⟩=some (.int .i64 x.to)/\W'.cell? ⟨W.heap.size,2,none⟩=some (.int .i64 x.kind)/\W'.cell? ⟨W.heap.size+1,0,none⟩=some (.int .i64 y.fH)/\W'.cell? ⟨W.heap.size+1,1,none⟩=some (.int .i64 y.to)/\W'.cell? ⟨W.heap.size+1,2,none⟩=some (.int .i64 y.kind)) (go_keep) ((first|(go_at_call 259;refine(MK _ _ _).mono ?_;rintro e w' ⟨rfl,rfl⟩)|(go_at_call 258;refine(Vi _ (HL.out _ _ _) (by simp)).mono ?_;rintro e w' ⟨rfl,rfl⟩)))
 go_wp2;go_returns;exact⟨bU HR.out.symm,1,_,hgr.out _⟩
def Bb(x:Edge):List Value:=[.int .i64 x.fH,.int .i64 x.to,.int .i64 x.kind]
instance:Inhabited Edge:=⟨⟨0,0,0⟩⟩
theorem MO(x:Edge)(j:Nat)(hj:j<3):(Bb x)[j]! =aZ x j:=by
 match j,hj with
 | 0,_=>rfl
 | 1,_=>rfl
 | 2,_=>rfl
theorem VL{w:World}{b off n c lo:Nat}{es:List Edge}(h:aL 3 aZ w (.slice (some ⟨b,off,none⟩) n c) es)(ho:Own lo w (.slice (some ⟨b,off,none⟩) n c)):Sort.HoldsK Bb 3 w b off es.toArray:=by
 intro t ht;rw[Sort.size_flatK]at ht;obtain⟨A',c',e,hc⟩:=h;injection e with e1 e2 e3;subst e1 e2 e3;have hn:0<es.length:=by
  rcases Nat.eq_zero_or_pos es.length with h0|h0
  ·simp[h0]at ht
  ·exact h0
 obtain⟨b',off',e,_,hc⟩:=hc hn;injection e with e;injection e with e1 e2;subst e1 e2;have hi:t/3<es.length:=by simp at ht;omega
 have:=hc (t/3) es[t/3] (dJ hi) (t%3) (by omega)
 refine⟨?_,(ho _ _ _ rfl hn).2.2 _⟩;rw[Sort.get_flatK _ _ _ _ ht];have e1:(es.toArray)[t/3]! =es[t/3]:=by simp[hi]
 rw[e1,MO _ _ (by omega),show off+t=off+t/3*3+t%3 by omega];exact this
theorem RQ{w:World}{b off c:Nat}{d:Array Edge}(h:Sort.HoldsK Bb 3 w b off d)(hb:b<w.heap.size):aL 3 aZ w (.slice (some ⟨b,off,none⟩) d.size c) d.toList:=by
 refine⟨_,c,by simp,λ_=>⟨b,off,rfl,hb,λi x hx j hj=>?_⟩⟩;have hi:i<d.size:=by have:=(bG.1 hx).1;simpa using this
 have:=(Sort.HoldsK.cell h hi hj).1
 have e1:d[i]! =x:=by
  have:=(bG.1 hx).2
  simp at this;rw[getElem!_pos d i hi,this]
 rw[this,e1,MO _ _ hj]
theorem yC{w:World}{b off n c m:Nat}{d:Array Edge}{os:Array Obj}(hn:0<n):Only (.slice (some ⟨b,off,none⟩) n c) w (sortWorldK Bb 3 w b off m d os):=by
 unfold sortWorldK Sort.grow Sort.putRowK Sort.putRow Sort.mapBlock Sort.ahead;refine⟨rfl,rfl,rfl,by simp,λk hk hv=>?_,λp hp=>?_⟩
 ·have hne:=hv _ _ _ rfl hn;simp only at hne;simp only;rw[Array.getElem?_append_left (by simpa using hk),lW,au hne]
 ·simp only[World.frozen?];rw[Array.getElem?_append_left (by simpa using hp),lW];by_cases e:b=p.block
  ·rw[aj e]
   cases w.heap[p.block]? with
   | none=>rfl
   | some o=>cases o<;>rfl
  ·rw[au e]
theorem afW(a b c:Int):Y2 [a,b,c]=if a≠0 then a else if b≠0 then b else c:=by unfold Y2;by_cases ha:a=0<;>by_cases hb:b=0<;>by_cases hc:c=0<;>simp[ha,hb,hc]
theorem Nw(x y:Int):ze x y<0↔x<y:=by unfold ze;split<;>(try split)<;>omega
theorem KY(x y:Int):ze x y=0↔x=y:=by unfold ze;split<;>(try split)<;>omega
theorem RA(x y:Edge):(cfE x y<0)↔(x.fH<y.fH∨(x.fH=y.fH/\(x.to<y.to∨(x.to=y.to/\x.kind<y.kind)))):=by
 unfold cfE;rw[afW];have h1:=Nw x.fH y.fH;have h2:=KY x.fH y.fH;have h3:=Nw x.to y.to;have h4:=KY x.to y.to;have h5:=Nw x.kind y.kind;split
 ·rename_i h;rw[h1];have:=mt h2.2 h;omega
 ·rename_i h;have h':=h2.1 (by omega);split
  ·rename_i h6;rw[h3];have:=mt h4.2 h6;omega
  ·rename_i h6;have h'':=h4.1 (by omega);rw[h5];omega
open Go.Sort in
theorem ael:SWO (ltOf cfE) where
 irrefl x:=by unfold ltOf;rw[decide_eq_false_iff_not,RA];omega
 trans x y z h1 h2:=by unfold ltOf at *;rw[decide_eq_true_iff,RA]at *;omega
 ntrans x y z h1 h2:=by unfold ltOf at *;rw[decide_eq_false_iff_not,RA]at *;omega
theorem aby(w:World):(isAgg 200).run Tryz.prog w=.ok true w:=by first|exact aan (by kernel_rfl)|kernel_rfl|rfl
theorem adw(w:World):(Go.sizeOf 200).run Tryz.prog w=.ok 3 w:=by first|kernel_rfl|rfl
theorem GM(args:Array Value)(W:World):(callFunc 234 args).run Tryz.prog W=.ok (.enter 234 args) W:=by kernel_rfl
open Go.Shelf Go.Lib Go.Sort in
theorem DL{b off n c lo:Nat}{es:List Edge}(w:World)(h:aL 3 aZ w (.slice (some ⟨b,off,none⟩) n c) es)(ho:Own lo w (.slice (some ⟨b,off,none⟩) n c))(hb:b<w.heap.size)(hn:0<n)(hlen:es.length<=2097152) :
 Calls Tryz.prog 233 #[.slice (some ⟨b,off,none⟩) n c,.func (.func 234) #[] #[]] w λe w'=>e=.returned (.tuple #[])/\∃es',es'.Perm es/\aL 3 aZ w' (.slice (some ⟨b,off,none⟩) n c) es'/\Only (.slice (some ⟨b,off,none⟩) n c) w w':=by
 obtain rfl:n=es.length:=by obtain⟨A',c',e,_⟩:=id h;injection e
 have hH:=VL h ho;have hcmp:CmpLays Tryz.prog 234 #[] Bb 3 cfE b off es.toArray.size w:=λm os dk _ x y=>Fx x y _;have hcon:=AnyQ.slices_SortFunc Tryz.sortEdge 3 aby adw Bb (λ_=>rfl) (λx v hv=>by simp[Bb]at hv;rcases hv with rfl|rfl|rfl<;>rfl) cfE ael 234 #[] b off c es.toArray w GM hcmp hH hb (by simp;omega)
 change Calls Tryz.prog 233 _ _ _ at hcon;refine hcon.mono ?_;rintro e w' ⟨rfl,d',m,os,hp,_,rfl⟩;have hsz:d'.size=es.length:=by have:=hp.1;simpa using this
 refine⟨rfl,d'.toList,?_,?_,yC hn⟩
 ·have:=hp.2.2
  simp only[List.size_toArray]at this;rw[show d'.extract 0 es.length=d' by rw[<-hsz];simp,show es.toArray.extract 0 es.length=es.toArray by simp]at this;simpa using this
 ·have h2:=holdsK_sortWorldK_c Bb 3 w b off es.toArray d' m os hH hb (by simpa using hsz);rw[<-hsz];exact RQ h2 (bR hb (yC (n:=es.length) (c:=c) hn).size)
theorem Edge.ext'{x y:Edge}(h1:x.fH=y.fH)(h2:x.to=y.to)(h3:x.kind=y.kind):x=y:=by cases x;cases y;simp at h1 h2 h3;simp[h1,h2,h3]
instance:DecidableEq Edge:=λx y=>if h:x.fH=y.fH/\x.to=y.to/\x.kind=y.kind then isTrue (Edge.ext' h.1 h.2.1 h.2.2) else isFalse λe=>h (by rw[e];exact⟨rfl,rfl,rfl⟩)
def ddTo(es:List Edge):Nat->List Edge
 | 0=>[]
 | m+1=>match es[m]? with
   | none=>ddTo es m
   | some x=>if 0<m/\es[m-1]? =some x then ddTo es m else ddTo es m++[x]
theorem Oe{es:List Edge}{m:Nat}{x:Edge}(hx:es[m]? =some x)(hm:0<m)(hy:es[m-1]? =some x):ddTo es (m+1)=ddTo es m:=by rw[ddTo,hx];simp[hm,hy]
theorem XD{es:List Edge}{m:Nat}{x y:Edge}(hx:es[m]? =some x)(hy:es[m-1]? =some y)(hne:x≠y):ddTo es (m+1)=ddTo es m++[x]:=by
 rw[ddTo,hx]
 have:¬(0<m/\es[m-1]? =some x):=λh=>hne (by rw[hy]at h;exact(M5 h.2).symm)
 simp only[this,if_false]
theorem PZ(es:List Edge):∀m,(ddTo es m).length<=m
 | 0=>av _
 | m+1=>by
   have:=PZ es m
   rw[ddTo];split
   ·omega
   ·split
    ·omega
    ·simp;omega
theorem OZ{es:List Edge}:∀{m:Nat},m<=es.length->∀x,x∈ddTo es m↔x∈es.take m
 | 0,_,x=>by simp[ddTo]
 | m+1,h,x=>by
   have ih:=OZ (es:=es) (m:=m) (by omega) x;obtain⟨y,hy⟩:=ah (show m<es.length by omega);rw[ak hy,iR,pF,ddTo,hy];simp only;split
   ·rename_i h1;rw[ih];constructor
    ·exact .inl
    ·rintro (h2|rfl)
     ·exact h2
     ·refine aM (i:=m-1) ?_;rw[List.getElem?_take_of_lt (by omega)];exact h1.2
   ·rw[iR,pF,ih]
theorem yI{es:List Edge}:∀{k:Nat},k<=es.length->(∀(i:Nat) x y,0<i->i<k->es[i]? =some x->es[i-1]? =some y->x≠y)->ddTo es k=es.take k
 | 0,_,_=>by simp[ddTo]
 | k+1,h,hd=>by
   have ih:=yI (es:=es) (k:=k) (by omega) (λi x y h1 h2=>hd i x y h1 (by omega));obtain⟨x,hx⟩:=ah (show k<es.length by omega);rw[ak hx,ddTo,hx,ih];simp only;split
   ·rename_i h1;exact absurd rfl (hd k x x h1.1 (by omega) hx h1.2)
   ·rfl
theorem vg(a b c a' b' c':Int)(W:World):(Op.equalIn 10000 200 (.agg #[.int .i64 a,.int .i64 b,.int .i64 c]) (.agg #[.int .i64 a',.int .i64 b',.int .i64 c'])).run Tryz.prog W=.ok (decide (a=a'/\b=b'/\c=c')) W:=by
 have u3:=agC;have a3:=Tryz.isAgg3;have z3:=Tryz.sizeOf3;have hS:Tryz.prog.underlying 200=some (.struct (Tryz.prog.fieldsOf 200)):=by kernel_rfl
 have hp:Tryz.prog.stoodInHeld 200=false:=by kernel_rfl
 rw[show (10000:Nat)=9999+1 from rfl,run_equalIn_agg W 9999 _ _ _ hS hp];simp only[Program.fieldsOf,Tryz.underlying200];go_simp;by_cases h1:a=a'<;>by_cases h2:b=b'<;>by_cases h3:c=c'<;>simp[h1,h2,h3]
theorem wJ:(Tryz.prog.info? 200).map (λi=>(i.zero,i.size,i.bytes))=some (some (.agg #[.int .i64 0,.int .i64 0,.int .i64 0]),3,24):=by kernel_rfl
theorem Ji:Tryz.prog.eqGuardType Tryz.prog.depth 200=false:=by kernel_rfl
theorem wU{P:Program}(w:World)(t e ty:TypeId)(z:Value)(ht:P.underlying t=some (.slice e))(hv:∀w,(zeroValue e).run P w=.ok z w)(b o n c:Nat)(hn:0<n)(cs:List Value)(hcs:(Builtin.zeroCells z.cells n).toList=cs)
 (hc:∀j,j<cs.length->(w.cell? ⟨b,o+j,none⟩).isSome=true) (hf:∀j,j<cs.length->w.frozen? ⟨b,o+j,none⟩=false) (h1:∀v∈cs,v.oneCell'=true) :
 (Builtin.clear_ #[t] ty #[.slice (some ⟨b,o,none⟩) n c]).run P w=.ok (.tuple #[]) (w.setCells b o cs):=by
 have hst:=run_storeCells_cells (P:=P) b o cs 0 w (by simpa using hc) (by simpa using hf) h1;simp only[fE]at hst;obtain⟨m,rfl⟩:∃m,n=m+1:=⟨n-1,by omega⟩;simp[Builtin.clear_,run_underlying ht,hv,hcs,hst]
theorem Vn{w:World}{b off n c:Nat}{zs:List Edge}(h:aL 3 aZ w (.slice (some ⟨b,off,none⟩) n c) zs){q:Nat}(hq:q<zs.length)(x:Edge) :
 aL 3 aZ (((w.setCell ⟨b,off+q*3,none⟩ (.int .i64 x.fH)).setCell ⟨b,off+q*3+1,none⟩ (.int .i64 x.to)).setCell ⟨b,off+q*3+2,none⟩ (.int .i64 x.kind)) (.slice (some ⟨b,off,none⟩) n c) (zs.set q x):=by
 have hw:(((w.setCell ⟨b,off+q*3,none⟩ (.int .i64 x.fH)).setCell ⟨b,off+q*3+1,none⟩ (.int .i64 x.to)).setCell ⟨b,off+q*3+2,none⟩ (.int .i64 x.kind))=w.setCells b (off+q*3) (Bb x):=rfl;rw[hw];obtain⟨A',c',e,hc⟩:=h;injection e with e1 e2 e3;subst e1 e2 e3;refine⟨_,_,by rw[iE],λhn=>?_⟩;rw[iE]at hn;obtain⟨b',off',e,hbl,hc⟩:=hc hn;injection e with e;injection e with e1 e2;subst e1 e2;have hsz:∀(vs:List Value) (o:Nat) (w:World),(w.setCells b o vs).heap.size=w.heap.size:=λvs=>by
  induction vs with
  | nil=>intro o w;rfl
  | cons v r ih=>intro o w;rw[World.setCells,ih];simp[World.setCell]
 refine⟨b,off,rfl,by rw[hsz];exact hbl,λi z hz j hj=>?_⟩;rw[iO]at hz;obtain⟨z0,hz0⟩:=ah hq;by_cases hi:q=i
 ·subst hi;rw[aj rfl,aj hq]at hz;cases hz
  have:=World.cell?_setCells_in b (Bb x) (off+q*3) w (λj' hj'=>by
   have:=hc q z0 hz0 j' (by simpa[Bb] using hj')
   rw[this];rfl) j (by simpa[Bb] using hj)
  rw[this,<-MO x j hj];rw[getElem!_pos (Bb x) j (by simpa[Bb] using hj)]
 ·rw[au hi]at hz;rw[World.cell?_setCells_out _ _ _ _ _ (λ_ _=>by
   have:(Bb x).length=3:=rfl
   rw[this];simp only
   omega)]
  exact hc i z hz j hj
theorem Tk{α:Type}{l r:List α}{q:Nat}(hq:q=l.length){x z:α}(hz:r[0]? =some z):(l++r).set q x=l++[x]++r.drop 1:=by
 subst hq
 cases r with
 | nil=>simp at hz
 | cons a r=>simp
theorem acD{w:World}{b off n c q:Nat}{u1 u2 u3:Value}(hn:0<n):Only (.slice (some ⟨b,off,none⟩) n c) w (((w.setCell ⟨b,q,none⟩ u1).setCell ⟨b,q+1,none⟩ u2).setCell ⟨b,q+2,none⟩ u3):=
 ((Only.setCell (a:=⟨b,off,none⟩) hn q u1).trans (Only.setCell (a:=⟨b,off,none⟩) hn (q+1) u2)).trans (Only.setCell (a:=⟨b,off,none⟩) hn (q+2) u3)
theorem Ll{b off n c:Nat}(hn:0<n):∀(vs:List Value) (o:Nat) (w:World),Only (.slice (some ⟨b,off,none⟩) n c) w (w.setCells b o vs)
 | [],_,w=>Only.bK (af w)
 | v :: r,o,w=>(Only.setCell (a:=⟨b,off,none⟩) hn o v).trans (Ll hn r (o+1) _)
theorem WJ{w:World}{b off n c q:Nat}{zs rest:List Edge}(h:aL 3 aZ w (.slice (some ⟨b,off,none⟩) n c) (zs++rest))(hq:zs.length=q)(vs:List Value):aL 3 aZ (w.setCells b (off+q*3) vs) (.slice (some ⟨b,off,none⟩) q c) zs:=by
 obtain⟨A',c',e,hc⟩:=h;injection e with e1 e2 e3;subst e1 e2 e3;have hsz:∀(vs:List Value) (o:Nat) (w:World),(w.setCells b o vs).heap.size=w.heap.size:=λvs=>by
  induction vs with
  | nil=>intro o w;rfl
  | cons v r ih=>intro o w;rw[World.setCells,ih];simp[World.setCell]
 refine⟨_,_,by rw[hq],λhn=>?_⟩;obtain⟨b',off',e,hbl,hc⟩:=hc (by rw[dw];omega);injection e with e;injection e with e1 e2;subst e1 e2;refine⟨b,off,rfl,by rw[hsz];exact hbl,λi z hz j hj=>?_⟩;have hi:=(bG.1 hz).1;rw[World.cell?_setCells_out _ _ _ _ _ (λ_ _=>by simp only;omega)];exact hc i z (by rw[oK hi];exact hz) j hj
theorem Fg{b off n c lo:Nat}{es:List Edge}(w:World)(h:aL 3 aZ w (.slice (some ⟨b,off,none⟩) n c) es)(ho:Own lo w (.slice (some ⟨b,off,none⟩) n c))(hn:0<n)(hlen:es.length<=2097152)(hcap:n<=c/\c<=9223372036854775807) :
 Calls Tryz.prog 236 #[.slice (some ⟨b,off,none⟩) n c] w λe w'=>∃q,q<=n/\e=.returned (.slice (some ⟨b,off,none⟩) q c)/\aL 3 aZ w' (.slice (some ⟨b,off,none⟩) q c) (ddTo es es.length)/\Only (.slice (some ⟨b,off,none⟩) n c) w w':=by
 obtain rfl:n=es.length:=by obtain⟨A',c',e,_⟩:=id h;injection e
 have H:=aa h;have hfr:=(ho _ _ _ rfl hn).2;have HF:=aa hfr;have hg:=Ji;have hcut:=λ(k:Nat) (hk:k<es.length) W=>(mK (P:=Tryz.prog) (A:=some ⟨b,off,none⟩) (n:=es.length) (c:=c) Tryz.underlying172 wJ k (by omega) W);clear h ho hfr;by_cases h2:es.length<2
 ·have hd:Hid (ddTo es es.length=es):=by show _ = _;rw[yI (av _) (λi x y h1 h2=>by omega),bM]
  clear hcut;go_enter Tryz.func236,Tryz.ntmps236;go_wp2;go_returns;refine⟨_,av _,rfl,?_,Only.bK (af _)⟩;rw[hd.out];exact H.out
 ·go_enter Tryz.func236,Tryz.ntmps236;have h2d:decide ((es.length:Int)<2)=false:=dU (by omega);go_wp2;go_loopw [3] (λi wr=>Ext w wr/\∃j:Nat,j+1<=es.length/\i=.int .i64 ((j:Int)+1)/\Hid (∀(i:Nat) x y,0<i->i<j+1->es[i]? =some x->es[i-1]? =some y->x≠y)) (λi _=>es.length-(intOf i).toNat)
  case atStart=>exact⟨af _,0,by omega,rfl,λi x y h1 h2=>by omega⟩
  case round=>
   obtain⟨hb,j,hj,rfl,HI⟩:=hrel;by_cases hlt:j+1<es.length
   ·obtain⟨A',c',e,hc⟩:=H.out.ext hb;injection e with e1 e2 e3;subst e1 e3;obtain⟨b',off',e,hbl,hc⟩:=hc (by omega);injection e with e;injection e with e1 e2';subst e1 e2';obtain⟨x,hx⟩:=ah hlt;obtain⟨y,hy⟩:=ah (show j<es.length by omega);have c0:wr.cell? ⟨b,off+(j+1)*3,none⟩=some (.int .i64 x.fH):=hc (j+1) x hx 0 (by omega);have c1:wr.cell? ⟨b,off+(j+1)*3+1,none⟩=some (.int .i64 x.to):=hc (j+1) x hx 1 (by omega);have c2:wr.cell? ⟨b,off+(j+1)*3+2,none⟩=some (.int .i64 x.kind):=hc (j+1) x hx 2 (by omega);have d0:wr.cell? ⟨b,off+j*3,none⟩=some (.int .i64 y.fH):=hc j y hy 0 (by omega);have d1:wr.cell? ⟨b,off+j*3+1,none⟩=some (.int .i64 y.to):=hc j y hy 1 (by omega);have d2:wr.cell? ⟨b,off+j*3+2,none⟩=some (.int .i64 y.kind):=hc j y hy 2 (by omega);have he:=λW=>vg x.fH x.to x.kind y.fH y.to y.kind W;have HX:=aa (aB hx hy);have i1:(0:Int)<=(j:Int)+1:=by omega
    have i2:(j:Int)+1<(es.length:Int):=by omega
    have i3:(0:Int)<=(j:Int):=by omega
    have w1:IntKind.i64.wrap ((j:Int)+1-1)=(j:Int):=by rw[Int.add_sub_cancel];exact dL _ (by omega)
    have w2:IntKind.i64.wrap (j:Int)=(j:Int):=dL _ (by omega);have i4:(j:Int)<(es.length:Int):=by omega
    have adB:=aa hcut;have hE:=hb.drew;clear hc hx hy e2 hcut;by_cases hm:x.fH=y.fH/\x.to=y.to/\x.kind=y.kind
    ·rw[jw hm]at he;have hxy:x=y:=Edge.ext' hm.1 hm.2.1 hm.2.2;have HD:Hid (ddTo es (j+2)=es.take (j+1)):=by show _ = _;rw[Oe HX.out.1 (by omega) (by rw[Nat.add_sub_cancel,HX.out.2,hxy]),yI (by omega) HI.out]
     have hc1:∀W,(Instr.slice 172 (.slice (some ⟨b,off,none⟩) es.length c) (some (.int .i64 ((j:Int)+1))) none none).run Tryz.prog W=.ok (.slice (some ⟨b,off+(j+1)*3,none⟩) (es.length-(j+1)) (c-(j+1))) W:=λW=>by
      have:=adB.out (j+1) hlt W
      rw[au (by omega)]at this
      simpa[Addr.add] using this
     clear hm hxy;go_wp2;go_region_held3 (λW=>W.cell? ⟨b,off+(j+1)*3,none⟩=some (.int .i64 x.fH)/\W.cell? ⟨b,off+(j+1)*3+1,none⟩=some (.int .i64 x.to)/\W.cell? ⟨b,off+(j+1)*3+2,none⟩=some (.int .i64 x.kind)/\W.cell? ⟨b,off+j*3,none⟩=some (.int .i64 y.fH)/\W.cell? ⟨b,off+j*3+1,none⟩=some (.int .i64 y.to)/\W.cell? ⟨b,off+j*3+2,none⟩=some (.int .i64 y.kind)) (go_keep) (fail)
     clear c0 c1 c2 d0 d1 d2 he;go_wp2;have TN:Hid (aL 3 aZ wr.drew (.slice (some ⟨b,off,none⟩) es.length c) (ddTo es (j+0+2)++es.drop (j+1))):=by show aL _ _ _ _ _;rw[fE,HD.out,List.take_append_drop];exact H.out.ext hE
     have HO0:Hid (Only (.slice (some ⟨b,off,none⟩) es.length c) w wr.drew):=Only.bK hE;have HL0:Hid (j+1=(ddTo es (j+0+2)).length):=by show _ = _;rw[fE,HD.out,eY];omega
     clear hb hE;obtain⟨wo,rfl⟩:∃wo:World,wo=wr:=⟨_,rfl⟩;generalize hn':es.length-(j+1)=n2;have vT:=aa hn';clear hn' hc1;go_loopw [3,5] (λkv i wr=>∃q m:Nat,j+m+2<=es.length/\q<=j+m+1/\i=.int .i64 ((m:Int)+1)/\kv=.int .i64 (q:Int)/\Hid (Only (.slice (some ⟨b,off,none⟩) es.length c) w wr)/\Hid (q=(ddTo es (j+m+2)).length)/\Hid (aL 3 aZ wr (.slice (some ⟨b,off,none⟩) es.length c) (ddTo es (j+m+2)++es.drop q))) (λ_ i _=>es.length-(intOf i).toNat)
     case atStart=>exact⟨j+1,0,by omega,by omega,rfl,by go_num,HO0,HL0,TN⟩
     case round=>
      obtain⟨q,m,hm,hq,rfl,rfl,HO,HL,HS⟩:=hrel;by_cases hmt:j+m+2<es.length
      ·obtain⟨A',c',e,hc⟩:=HS.out;injection e with e1 e2 e3;subst e1 e3;clear e2;have Mh:=HL.out;have hzl:(ddTo es (j+m+2)++es.drop q).length=es.length:=by rw[dw,rX,<-Mh];omega
       obtain⟨b',off',e,Xu,hc⟩:=hc (by omega);injection e with e;injection e with e1 e2';subst e1 e2';have hz:∀(i:Nat) z,q<=i->es[i]? =some z->(ddTo es (j+m+2)++es.drop q)[i]? =some z:=λi z hi h=>by rw[agG (by omega),<-Mh,Bd,show q+(i-q)=i by omega];exact h
       obtain⟨x2,hx2⟩:=ah hmt;obtain⟨y2,hy2⟩:=ah (show j+m+1<es.length by omega);obtain⟨z2,hz2⟩:=ah (show q<(ddTo es (j+m+2)++es.drop q).length by omega);have gx:=hc (j+m+2) x2 (hz _ _ (by omega) hx2);have gy:=hc (j+m+1) y2 (hz _ _ (by omega) hy2);have gz:=hc q z2 hz2;rw[show off+(j+m+2)*3=off+(j+1)*3+(m+1)*3 by omega]at gx;rw[show off+(j+m+1)*3=off+(j+1)*3+m*3 by omega]at gy;have c0:wr.drew.cell? ⟨b,off+(j+1)*3+(m+1)*3,none⟩=some (.int .i64 x2.fH):=gx 0 (by omega);have c1:wr.drew.cell? ⟨b,off+(j+1)*3+(m+1)*3+1,none⟩=some (.int .i64 x2.to):=gx 1 (by omega);have c2:wr.drew.cell? ⟨b,off+(j+1)*3+(m+1)*3+2,none⟩=some (.int .i64 x2.kind):=gx 2 (by omega);have d0:wr.drew.cell? ⟨b,off+(j+1)*3+m*3,none⟩=some (.int .i64 y2.fH):=gy 0 (by omega);have d1:wr.drew.cell? ⟨b,off+(j+1)*3+m*3+1,none⟩=some (.int .i64 y2.to):=gy 1 (by omega);have d2:wr.drew.cell? ⟨b,off+(j+1)*3+m*3+2,none⟩=some (.int .i64 y2.kind):=gy 2 (by omega);have e0:wr.drew.cell? ⟨b,off+q*3,none⟩=some (.int .i64 z2.fH):=gz 0 (by omega);have e1:wr.drew.cell? ⟨b,off+q*3+1,none⟩=some (.int .i64 z2.to):=gz 1 (by omega);have e2:wr.drew.cell? ⟨b,off+q*3+2,none⟩=some (.int .i64 z2.kind):=gz 2 (by omega);have e0':wr.cell? ⟨b,off+q*3,none⟩=some (.int .i64 z2.fH):=gz 0 (by omega);have Zg:wr.cell? ⟨b,off+q*3+1,none⟩=some (.int .i64 z2.to):=gz 1 (by omega);have e2':wr.cell? ⟨b,off+q*3+2,none⟩=some (.int .i64 z2.kind):=gz 2 (by omega);have hfw:∀i,wr.frozen? ⟨b,i,none⟩=false:=λi=>(HO.out.wY ⟨b,i,none⟩ HF.out.1).trans (HF.out.2 i);have f0':=hfw (off+q*3);have f1':=hfw (off+q*3+1);have f2':=hfw (off+q*3+2);have HOW:=HO;have HSW:=HS;clear hfw;have TJ:∀i,wr.drew.frozen? ⟨b,i,none⟩=false:=λi=>(HO.out.wY ⟨b,i,none⟩ HF.out.1).trans (HF.out.2 i);have f0:=TJ (off+q*3);have f1:=TJ (off+q*3+1);have f2:=TJ (off+q*3+2);have he:=λW=>vg x2.fH x2.to x2.kind y2.fH y2.to y2.kind W;have hq1:(q:Int)<(es.length:Int):=by omega
       have i5:(m:Int)+1<(n2:Int):=by have:=vT.out;omega
       have i6:(0:Int)<=(m:Int)+1:=by omega
       have i7:(m:Int)<(n2:Int):=by have:=vT.out;omega
       have v1:IntKind.i64.wrap ((m:Int)+1-1)=(m:Int):=by rw[Int.add_sub_cancel];exact dL _ (by omega)
       have v2:IntKind.i64.wrap (m:Int)=(m:Int):=dL _ (by omega);have Su:Hid (Only (.slice (some ⟨b,off,none⟩) es.length c) w wr.drew):=HO.out.trans (Only.bK ((af _).drew));have HS2:Hid (aL 3 aZ wr.drew (.slice (some ⟨b,off,none⟩) es.length c) (ddTo es (j+m+2)++es.drop q)):=HS.out.ext ((af _).drew);have sV:=aa (aB hx2 hy2);have HZL:=aa hzl;clear hc hz hx2 hy2 hz2 gx gy gz TJ HS HO hzl Mh;by_cases hm2:x2.fH=y2.fH/\x2.to=y2.to/\x2.kind=y2.kind
       ·rw[jw hm2]at he;have hxy:x2=y2:=Edge.ext' hm2.1 hm2.2.1 hm2.2.2;have HN:Hid (ddTo es (j+(m+1)+2)=ddTo es (j+m+2)):=by show _ = _;rw[show j+(m+1)+2=j+m+2+1 by omega,Oe sV.out.1 (by omega) (by rw[show j+m+2-1=j+m+1 by omega,sV.out.2,hxy])]
        clear hm2 hxy;go_wp2;go_region_held3 (λW=>W.cell? ⟨b,off+(j+1)*3+(m+1)*3,none⟩=some (.int .i64 x2.fH)/\W.cell? ⟨b,off+(j+1)*3+(m+1)*3+1,none⟩=some (.int .i64 x2.to)/\W.cell? ⟨b,off+(j+1)*3+(m+1)*3+2,none⟩=some (.int .i64 x2.kind)/\W.cell? ⟨b,off+(j+1)*3+m*3,none⟩=some (.int .i64 y2.fH)/\W.cell? ⟨b,off+(j+1)*3+m*3+1,none⟩=some (.int .i64 y2.to)/\W.cell? ⟨b,off+(j+1)*3+m*3+2,none⟩=some (.int .i64 y2.kind)) (go_keep) (fail)
        go_wp2;go_roundw;case rel=>exact⟨q,m+1,by omega,by omega,by go_num,rfl,Su,by rw[HN.out];exact HL,by rw[HN.out];exact HS2⟩
        case measure=>simp[intOf];omega
       ·rw[dU hm2]at he;have hxy:x2≠y2:=λe=>hm2 (by rw[e];exact⟨rfl,rfl,rfl⟩);have HN:Hid (ddTo es (j+(m+1)+2)=ddTo es (j+m+2)++[x2]):=by show _ = _;rw[show j+(m+1)+2=j+m+2+1 by omega,XD sV.out.1 (by rw[show j+m+2-1=j+m+1 by omega];exact sV.out.2) hxy]
        clear hm2 hxy;go_wp2;go_region_held3 (λW=>W.cell? ⟨b,off+(j+1)*3+(m+1)*3,none⟩=some (.int .i64 x2.fH)/\W.cell? ⟨b,off+(j+1)*3+(m+1)*3+1,none⟩=some (.int .i64 x2.to)/\W.cell? ⟨b,off+(j+1)*3+(m+1)*3+2,none⟩=some (.int .i64 x2.kind)/\W.cell? ⟨b,off+(j+1)*3+m*3,none⟩=some (.int .i64 y2.fH)/\W.cell? ⟨b,off+(j+1)*3+m*3+1,none⟩=some (.int .i64 y2.to)/\W.cell? ⟨b,off+(j+1)*3+m*3+2,none⟩=some (.int .i64 y2.kind)) (go_keep) (fail)
        go_wp2;go_roundw;case rel=>exact⟨q+1,m+1,by omega,by omega,by go_num,by go_num,HOW.out.trans ((acD hn).trans (Only.bK ((af _).drew))),by rw[HN.out,dw,<-HL.out];rfl,by
         have h3:=Vn HSW.out (q:=q) (by rw[HZL.out];omega) x2;obtain⟨zq,hzq⟩:=ah (show q<es.length by omega);rw[Tk HL.out (z:=zq) (by rw[Bd];exact hzq),agM,<-HN.out]at h3;exact h3.ext ((af _).drew)⟩
        case measure=>simp[intOf];omega
      ·have heq:j+m+2=es.length:=by omega
       have Mh:=HL.out;have hzl:(ddTo es (j+m+2)++es.drop q).length=es.length:=by rw[dw,rX,<-Mh];omega
       have acZ:∀W,(Instr.slice 172 (.slice (some ⟨b,off,none⟩) es.length c) (some (.int .i64 (q:Int))) none none).run Tryz.prog W=.ok (.slice (some ⟨b,off+q*3,none⟩) (es.length-q) (c-q)) W:=λW=>by
        have hadd:(⟨b,off,none⟩:Addr).add (q*3)=⟨b,off+q*3,none⟩:=by unfold Addr.add;split<;>simp_all
        have:=adB.out q (by omega) W
        rw[au (by omega)]at this;simp only[Option.map_some,hadd]at this;exact this
       have EB:∀W,(Instr.slice 172 (.slice (some ⟨b,off,none⟩) es.length c) none (some (.int .i64 (q:Int))) none).run Tryz.prog W=.ok (.slice (some ⟨b,off,none⟩) q c) W:=λW=>by
        have:=mW (P:=Tryz.prog) (A:=some ⟨b,off,none⟩) (n:=es.length) (c:=c) Tryz.underlying172 wJ q (by omega) W
        rw[au (by omega)]at this
        simpa[Addr.add] using this
       obtain⟨cs,hcs⟩:∃cs,(Builtin.zeroCells (Value.agg #[Value.int .i64 0,Value.int .i64 0,Value.int .i64 0]).cells (es.length-q)).toList=cs:=⟨_,rfl⟩;have aa3:cs.length=(es.length-q)*3:=by rw[<-hcs];simp[Builtin.zeroCells,Value.cells]
       have hcs1:∀v∈cs,v.oneCell'=true:=by
        rw[<-hcs];intro v hv;simp[Builtin.zeroCells,Value.cells]at hv;obtain⟨a,_,rfl⟩:=hv;have h3:a%3<3:=R5 _ (by omega);generalize a%3=r at h3
        match r,h3 with
        | 0,_=>rfl
        | 1,_=>rfl
        | 2,_=>rfl
       have hcl:∀ty,(Builtin.clear_ #[172] ty #[.slice (some ⟨b,off+q*3,none⟩) (es.length-q) (c-q)]).run Tryz.prog wr=.ok (.tuple #[]) (wr.setCells b (off+q*3) cs):=
        λty=>wU wr _ _ ty _ Tryz.underlying172 (λw=>by kernel_rfl) b (off+q*3) _ _ (by omega) cs hcs (λi hi=>by
         obtain⟨A',c',e,hc⟩:=HS.out;injection e with e1 e2 e3;subst e1 e3;obtain⟨b',off',e,_,hc⟩:=hc (by omega);injection e with e;injection e with e1 e2';subst e1 e2';obtain⟨z,hz⟩:=ah (show q+i/3<(ddTo es (j+m+2)++es.drop q).length by omega)
         have:=hc (q+i/3) z hz (i%3) (by omega)
         rw[show off+(q+i/3)*3+i%3=off+q*3+i by omega]at this;rw[this];rfl) (λi hi=>(HO.out.wY ⟨b,_,none⟩ HF.out.1).trans (HF.out.2 _)) hcs1
       have HW:Hid (aL 3 aZ (wr.setCells b (off+q*3) cs) (.slice (some ⟨b,off,none⟩) q c) (ddTo es es.length)):=by
        have:=HS.out
        rw[heq]at this Mh;exact WJ this Mh.symm cs
       have HOW:Hid (Only (.slice (some ⟨b,off,none⟩) es.length c) w (wr.setCells b (off+q*3) cs)):=HO.out.trans (Ll hn cs _ _);have i5:decide ((m:Int)+1<(n2:Int))=false:=dU (by have:=vT.out;omega);have OJ:q<=es.length:=by omega
       clear HS HO HL hzl Mh hcs aa3 hcs1 heq;go_wp2;go_returns;exact⟨q,OJ,rfl,HW.out,HOW.out⟩
    ·rw[dU hm]at he;have hne:x≠y:=λe=>hm (by rw[e];exact⟨rfl,rfl,rfl⟩);have HI2:Hid (∀(i:Nat) x y,0<i->i<j+1+1->es[i]? =some x->es[i-1]? =some y->x≠y):=λi x' y' h1 h2 h3 h4=>by
      rcases eP i (j+1) with h5|h5
      ·exact HI.out i x' y' h1 h5 h3 h4
      ·obtain rfl:i=j+1:=by omega
       rw[Nat.add_sub_cancel]at h4;rw[HX.out.1]at h3;rw[HX.out.2]at h4;cases h3;cases h4;exact hne
     clear hm hne;go_wp2;go_region_held3 (λW=>W.cell? ⟨b,off+(j+1)*3,none⟩=some (.int .i64 x.fH)/\W.cell? ⟨b,off+(j+1)*3+1,none⟩=some (.int .i64 x.to)/\W.cell? ⟨b,off+(j+1)*3+2,none⟩=some (.int .i64 x.kind)/\W.cell? ⟨b,off+j*3,none⟩=some (.int .i64 y.fH)/\W.cell? ⟨b,off+j*3+1,none⟩=some (.int .i64 y.to)/\W.cell? ⟨b,off+j*3+2,none⟩=some (.int .i64 y.kind)) (go_keep) (fail)
     go_wp2;go_roundw;case rel=>exact⟨hE,j+1,by omega,by go_num,HI2.out⟩
     case measure=>simp[intOf];omega
   ·have hj':j+1=es.length:=by omega
    have hd:Hid (ddTo es es.length=es):=by show _ = _;rw[yI (av _) (λi x y h1 h2=>HI.out i x y h1 (by omega)),bM]
    have i2:¬((j:Int)+1<(es.length:Int)):=by omega
    go_wp2;go_returns;refine⟨_,av _,rfl,?_,Only.bK hb⟩;rw[hd.out];exact H.out.ext hb
theorem uq(A:Option Addr)(n c:Nat)(w:World)(h:n<=c/\c<=9223372036854775807) :
 Calls Tryz.prog 235 #[.slice A n c] w λe w'=>e=.returned (.slice A n n)/\w=w':=by
 go_enter Tryz.func235,Tryz.ntmps235;go_wp2;go_returns;exact⟨rfl,rfl⟩
theorem wL(A:Option Addr)(c:Nat)(w:World) :
 Calls Tryz.prog 236 #[.slice A 0 c] w λe w'=>e=.returned (.slice A 0 c)/\w=w':=by
 go_enter Tryz.func236,Tryz.ntmps236;go_wp2;go_returns;exact⟨rfl,rfl⟩
open Go.Shelf Go.Lib Go.Sort in
theorem uT(A:Option Addr)(c:Nat)(fv:Value)(w:World) :
 Calls Tryz.prog 233 #[.slice A 0 c,fv] w λe w'=>e=.returned (.tuple #[])/\Ext w w':=by
 have hcon:=AnyF.slices_SortFunc_none Tryz.sortEdge A c fv w;change Calls Tryz.prog 233 _ _ _ at hcon;refine hcon.mono ?_;rintro e w' ⟨rfl,rfl⟩;exact⟨rfl,af _⟩
def Cb(es ds:List Edge):Prop:=(∀x,x∈ds↔x∈es)/\ds.length<=es.length
theorem Qw{es es':List Edge}(hp:es'.Perm es):Cb es (ddTo es' es'.length):=by
 refine⟨λx=>?_,?_⟩
 ·rw[OZ (av _),bM,hp.mem_iff]
 ·have:=PZ es' es'.length
  rw[hp.length_eq]at this ⊢;exact this
theorem Nj{b off n c lo:Nat}{es:List Edge}(w:World)(h:aL 3 aZ w (.slice (some ⟨b,off,none⟩) n c) es)(ho:Own lo w (.slice (some ⟨b,off,none⟩) n c))(hb:b<w.heap.size)(hlen:es.length<=2097152)(hcap:n<=c/\c<=9223372036854775807) :
 Calls Tryz.prog 208 #[.slice (some ⟨b,off,none⟩) n c] w λe w'=>∃q ds,e=.returned (.slice (some ⟨b,off,none⟩) q q)/\Cb es ds/\aL 3 aZ w' (.slice (some ⟨b,off,none⟩) q q) ds/\Only (.slice (some ⟨b,off,none⟩) n c) w w':=by
 obtain rfl:n=es.length:=by obtain⟨A',c',e,_⟩:=id h;injection e
 have H:=aa h;have HO:=aa ho;have hcp2:∀q,q<=es.length->q<=c/\c<=9223372036854775807:=λq hq=>⟨by omega,hcap.2⟩;have HC:=aa hcp2;clear h ho hcp2;rcases Nat.eq_zero_or_pos es.length with h0|hn
 ·obtain rfl:es=[]:=mZ h0;go_enter Tryz.func208,Tryz.ntmps208;go_wp2_with fail
  refine(uT _ _ _ _).mono ?_
  rintro e w1 ⟨rfl,b1⟩;go_wp2_with fail
  refine(wL _ _ _).mono ?_
  rintro e w2 ⟨rfl,rfl⟩;go_wp2_with fail
  refine(uq _ _ _ _ (HC.out 0 (av _))).mono ?_
  rintro e w3 ⟨rfl,rfl⟩;go_wp2;go_returns;exact⟨0,[],rfl,⟨λ_=>Iff.rfl,av _⟩,⟨_,_,rfl,λh=>by simp at h⟩,Only.bK b1⟩
 ·go_enter Tryz.func208,Tryz.ntmps208;go_wp2_with fail
  refine(DL _ H.out HO.out hb hn hlen).mono ?_
  rintro e w1 ⟨rfl,es',hp,hs,ho1⟩;have hl:=hp.length_eq;have HS:=aa hs;have HO1:=aa ho1;have HD:=aa (Qw hp);clear hs ho1 hp;go_wp2_with fail
  refine(Fg _ HS.out (HO.out.only HO1.out) hn (by omega) (HC.out _ (av _))).mono ?_
  rintro e w2 ⟨q,hq,rfl,hs2,ho2⟩;have HS2:=aa hs2;have Su:=aa ho2;clear hs2 ho2;go_wp2_with fail
  refine(uq _ _ _ _ (HC.out q hq)).mono ?_
  rintro e w3 ⟨rfl,rfl⟩;go_wp2;go_returns;exact⟨q,_,rfl,HD.out,rM HS2.out _,HO1.out.trans Su.out⟩
def isDone(h:List aG)(n:Int):Bool:=(h[n.toNat]?.map (·.done)).getD false
def j6(h:List aG)(f t k:Int):List Edge:=if 0<=f/\0<=t/\f≠t/\isDone h f=true/\isDone h t=true then [⟨f,t,k⟩] else []
def chainTo(h:List aG)(key:Int)(order:List Int)(m:Nat):List Edge:=(List.range m).flatMap λi=>j6 h (aI h key (order.getD i 0)) (aI h key (order.getD (i+1) 0)) 1
def l7(order:List Int)(v:Int):Option Nat:=if v=0 then some 0 else (order.findIdx? (·==v)).map (· + 1)
def overOf(h:List aG)(os:List (List Int))(n:Nat)(o:aV):List Edge:=
 match l7 (os.getD o.key.toNat []) o.value with
 | none=>[]
 | some b=>if b<(os.getD o.key.toNat []).length then j6 h n (aI h o.key ((os.getD o.key.toNat []).getD b 0)) 3 else []
def jS(h:List aG)(os:List (List Int))(n:Nat)(o:aV):List Edge:=j6 h (aI h o.key o.value) n 2++overOf h os n o
def ku(h:List aG)(os:List (List Int))(n:Nat)(os':List aV)(j:Nat):List Edge:=(os'.take j).flatMap (jS h os n)
def dN(h:List aG)(os:List (List Int)):List Edge:=
 ((List.range 3).flatMap λ(key:Nat)=>chainTo h (key:Int) (os.getD key []) ((os.getD key []).length-1))++(aN h).flatMap λn=>(mH (opsOf h n)).flatMap (jS h os n)
theorem wD(h:List aG)(f t k:Int):(j6 h f t k).length<=1:=by unfold j6;split<;>simp
def kU(w w':World):Prop:=w.heap.size<=w'.heap.size/\∀(k:Nat) (cs:Array Value) (t:TypeId) (fr:Nat × Nat),w.heap[k]? =some (Obj.cells cs t fr)->t≠200->t≠172->w'.heap[k]? =w.heap[k]?
theorem kU.refl(w:World):kU w w:=⟨av _,λ_ _ _ _ _ _ _=>rfl⟩
theorem kU.bK{w w':World}(h:Ext w w'):kU w w':=⟨h.size,λk _ _ _ hk _ _=>Below.block h k (fF.1 hk).1⟩
theorem kU.trans{a b c:World}(h:kU a b)(k:kU b c):kU a c:=
 ⟨aX h.1 k.1,λi cs t fr hi h1 h2=>(k.2 i cs t fr ((h.2 i cs t fr hi h1 h2).trans hi) h1 h2).trans (h.2 i cs t fr hi h1 h2)⟩
def LB(B base:Nat)(W:World)(es:List Edge):Prop:=∃v,Boxed W B 172 v/\Row 200 3 aZ base W v es
theorem Lr(x:Edge)(j:Nat):(aZ x j).oneCell'=true:=by unfold aZ;split<;>rfl
theorem YS{base B:Nat}{W:World}{v:Value}{es:List Edge}(hO:Boxed W B 172 v)(H:Row 200 3 aZ base W v es)(hbase:base<=W.heap.size)(hB:base<=B)(x:Edge)(hn:es.length+1<=4194304) :
 ∃v' w',(Builtin.append_ #[172,172] 172 #[v,.slice (some ⟨W.heap.size,0,none⟩) 1 1]).run Tryz.prog (W.alloc (.cells #[.int .i64 x.fH,.int .i64 x.to,.int .i64 x.kind] 200))=.ok v' w' /\
  Boxed w' B 172 v/\LB B base (w'.setCell ⟨B,0,none⟩ v') (es++[x])/\Below base W (w'.setCell ⟨B,0,none⟩ v')/\kU W (w'.setCell ⟨B,0,none⟩ v')/\∃A n c,v'=.slice A n c:=by
 obtain⟨i,hi,hz,hs,hby⟩:=qo wJ;obtain⟨v',w',hrun,hown,hg,_,hat⟩:=run_append_own_at (P:=Tryz.prog) (w:=W.alloc (.cells #[.int .i64 x.fH,.int .i64 x.to,.int .i64 x.kind] 200)) base 172 172 200 i _ 3 24 Tryz.underlying172 hi hz hs hby rfl (by omega) v es.length _ (World.ownsRow.alloc H _)
  ⟨W.heap.size,0,none⟩ 1 1 (aH 3 aZ x) rfl
  (λj u hu=>by
   have hadd:(⟨W.heap.size,0,none⟩:Addr).add j=⟨W.heap.size,j,none⟩:=by unfold Addr.add;split<;>simp_all
   rw[hadd,cell_of_row _ _ j _ 200 (0,0) (dP W _)];have hcs:(aH 3 aZ x)=[.int .i64 x.fH,.int .i64 x.to,.int .i64 x.kind]:=rfl;rw[hcs]at hu;simpa using hu)
  (λu hu=>by simp[aH]at hu;obtain⟨j,_,rfl⟩:=hu;exact Lr x j) (by simp only[maxLen];omega)
  (by omega) (by simp;omega)
 have hrow':World.ownsRow w' base 200 3 v' (es.length+1) ((es++[x]).flatMap (aH 3 aZ)):=by rw[lq];simpa using hown
 have AP:=Boxed.appended (tmp:=.cells #[.int .i64 x.fH,.int .i64 x.to,.int .i64 x.kind] 200) hO (by decide) H hbase hB hrow' hg;have hrow2:Row 200 3 aZ base (w'.setCell ⟨B,0,none⟩ v') v' (es++[x]):=by unfold Row;rw[dw];exact AP.2.2.1
 refine⟨v',w',hrun,AP.1,⟨v',AP.2.1,hrow2⟩,AP.2.2.2.2,?_,by obtain⟨A,c,e,_⟩:=hrow2.cell.1;exact⟨A,_,c,e⟩⟩;refine⟨AP.2.2.2.2.size,λk cs t fr hk h1 h2=>?_⟩;have hkl:=(fF.1 hk).1;have hkB:k≠B:=λe=>by
  subst e
  have:=hO.symm.trans hk
  injection this with this;injection this with _ e2 _;exact h2 e2.symm
 rw[Below.heap_setCell _ _ _ _ hkB]
 refine(hg.block k (by simp;omega) (λe=>?_)).trans (Below.block ((af W).alloc _) k hkl)
 rcases H.2 with ⟨rfl,_⟩|⟨g,cap,cur,rfl,_,hgb,_⟩
 ·simp[Value.ownBlock]at e
 ·simp[Value.ownBlock]at e;subst e;rw[hgb]at hk;injection hk with hk;injection hk with _ e2 _;exact h1 e2.symm
theorem uE{h:List aG}{n:Nat}{t:aG}(ht:h[n]? =some t):isDone h (n:Int)=t.done:=by simp[isDone,ht]
def qy(h:List aG)(B base:Nat)(W:World)(es:List Edge)(f t k:Int)(e:Ending)(W':World):Prop:=
 e=.returned (.tuple #[])/\LB B base W' (es++j6 h f t k)/\Below base W W'/\kU W W'
theorem qy.none{h:List aG}{B base:Nat}{W:World}{es:List Edge}{f t k:Int}(hL:LB B base W es)(hn:j6 h f t k=[]):qy h B base W es f t k (.returned (.tuple #[])) W:=
 ⟨rfl,by rw[hn,jh];exact hL,Below.refl _ _,kU.refl _⟩
theorem vP{bh B base:Nat}{hv:Value}{h:List aG}{es:List Edge}(f t k:Int)(W:World)(ch:W.cell? ⟨bh,0,none⟩=some hv)(H:iM W hv h)(hL:LB B base W es)(hbase:base<=W.heap.size)(hB:base<=B)(hn:es.length<=1000)(hlen:h.length<=6)(hf:f<h.length)(ht:t<h.length) :
 Calls Tryz.prog 203 #[.int .i64 f,.int .i64 t,.int .i64 k,.pointer (some ⟨bh,0,none⟩),.pointer (some ⟨B,0,none⟩)] W (qy h B base W es f t k):=by
 obtain⟨A,c,rfl⟩:=H.slice;have HH:=aa H;have Wo:=aa hL;clear H hL;by_cases h1:0<=f;case neg=>
  have hN:Hid (j6 h f t k=[]):=au (λe=>h1 e.1);go_enter Tryz.func203,Tryz.ntmps203;go_wp2;go_end0
  exact qy.none Wo.out hN.out
 by_cases h2:0<=t;case neg=>
  have hN:Hid (j6 h f t k=[]):=au (λe=>h2 e.2.1);go_enter Tryz.func203,Tryz.ntmps203;go_wp2;go_end0
  exact qy.none Wo.out hN.out
 obtain⟨a,rfl⟩:=dZ h1;obtain⟨d,rfl⟩:=dZ h2;by_cases h3:(a:Int)=(d:Int)
 ·have hN:Hid (j6 h a d k=[]):=au (λe=>e.2.2.1 h3);have hne:((a:Int) != (d:Int))=false:=by simp[h3]
  clear h3;go_enter Tryz.func203,Tryz.ntmps203;go_wp2;go_end0
  exact qy.none Wo.out hN.out
 have hne:((a:Int) != (d:Int))=true:=by simpa using h3
 obtain⟨b,off,rfl,hbl,hc⟩:=HH.out.head (by omega);obtain⟨ta,hta⟩:=ah (show a<h.length by omega);obtain⟨td,htd⟩:=ah (show d<h.length by omega);obtain⟨_,_,_,ca,_⟩:=hc a ta hta;obtain⟨_,_,_,cd,_⟩:=hc d td htd;have ia:=uE hta;have id:=uE htd
 cases hda:ta.done with
 | false=>
   have hN:Hid (j6 h a d k=[]):=au (λe=>by rw[ia,hda]at e;cases e.2.2.2.1);rw[hda]at ca;clear h3 ia id hta htd hc cd hda;go_enter Tryz.func203,Tryz.ntmps203;go_wp2;go_end0
   exact qy.none Wo.out hN.out
 | true=>
   rw[hda]at ca
   cases hdd:td.done with
   | false=>
     have hN:Hid (j6 h a d k=[]):=au (λe=>by rw[id,hdd]at e;cases e.2.2.2.2);rw[hdd]at cd;clear h3 ia id hta htd hc hda hdd;go_enter Tryz.func203,Tryz.ntmps203;go_wp2;go_end0
     exact qy.none Wo.out hN.out
   | true=>
     have hN:Hid (j6 h a d k=[⟨a,d,k⟩]):=aj ⟨h1,h2,h3,by rw[ia,hda],by rw[id,hdd]⟩;rw[hdd]at cd;obtain⟨v,hO,hR⟩:=Wo.out;obtain⟨v',w',hrun,hB1,hL1,hE1,hK1,A1,n1,c1,rfl⟩:=YS hO hR hbase hB ⟨a,d,k⟩ (by omega);obtain⟨Av,cv,rfl,_⟩:=hR.cell.1;have cB:=hO.cell;have cB1:=hB1.cell;have fB1:=hB1.frozen;have bH:=aa hrun;have HL1:=aa hL1;have Il:=aa hE1;have HK1:=aa hK1;clear h3 ia id hta htd hc hda hdd hO hR hrun hB1 hL1 hE1 hK1;go_enter Tryz.func203,Tryz.ntmps203;go_wp2_with (at_builtin;refine wpList_append_run rfl rfl rfl rfl bH.out ?_)
     go_end0
     exact⟨rfl,by rw[hN.out];exact HL1.out,Il.out,HK1.out⟩
theorem DK(s:Int)(d:Bool){ov:Value}{ops:List aV}(w:World)(h:aL 3 encOpr w ov ops)(hlen:ops.length<=2097152) :
 Calls Tryz.prog 206 #[.agg #[.int .i64 s,ov,.bool d]] w λe w'=>∃A,e=.returned (.slice A (mH ops).length (mH ops).length)/\aL 3 encOpr w' (.slice A (mH ops).length (mH ops).length) (mH ops)/\jD 67 w' (.slice A (mH ops).length (mH ops).length)/\Ext w w':=by
 obtain⟨A0,c0,rfl,_⟩:=id h;have HS:=aa h;have hmk:=@run_makeMap Tryz.prog;have afG:∀W:World,(Instr.makeSlice 46 (.int .i64 0) (.int .i64 3)).run Tryz.prog W=.ok (.slice (some ⟨W.heap.size,0,none⟩) 0 3) (W.alloc (.cells (madeCells (Value.agg #[Value.int .i64 0,Value.int .i64 0,Value.int .i64 0]).cells (3*3)) 67)):=jo (P:=Tryz.prog) 46 67 eG mq 3 (by omega) (by omega);clear h;go_enter Tryz.func206,Tryz.ntmps206;go_wp2;clear hmk afG;go_loopw [3,12] (λo i wr=>Ext w wr/\∃k:Nat,k<=ops.length/\i=.int .i64 k/\Hid (lY wr (w.heap.size+2) (Value.int .i64) (CV (λ_=>.bool true) (ops.take k))/\Row 67 3 encOpr w.heap.size wr o (Cy ops k))) (λ_ i _=>ops.length-(intOf i).toNat)
 case atStart=>
  refine⟨(((af _).alloc _).alloc _).alloc _,0,aT _,rfl,?_,?_⟩
  ·have hG:=lY.made ((w.alloc (.cells #[.int .i64 s,.slice A0 ops.length c0,.bool d] 48)).alloc (.cells (madeCells (Value.agg #[Value.int .i64 0,Value.int .i64 0,Value.int .i64 0]).cells (3*3)) 67)) (Value.int .i64);rw[show ((w.alloc (.cells #[.int .i64 s,.slice A0 ops.length c0,.bool d] 48)).alloc (.cells (madeCells (Value.agg #[Value.int .i64 0,Value.int .i64 0,Value.int .i64 0]).cells (3*3)) 67)).heap.size=w.heap.size+2 by simp]at hG;exact hG
  ·have hR:=lC (E:=67) (m:=3) (enc:=encOpr) (w:=w.alloc (.cells #[.int .i64 s,.slice A0 ops.length c0,.bool d] 48)) (madeCells (Value.agg #[Value.int .i64 0,Value.int .i64 0,Value.int .i64 0]).cells (3*3)) 3 (by unfold maxLen;omega) (size_madeCells _ _);rw[show (w.alloc (.cells #[.int .i64 s,.slice A0 ops.length c0,.bool d] 48)).heap.size=w.heap.size+1 by simp]at hR
   exact(hR.low (by omega)).ext ((af _).alloc _)
 case round=>
  obtain⟨hb,k,hk,rfl,HI⟩:=hrel;have hfl:=BZ ops k;have hbw:w.heap.size<=wr.heap.size:=hb.size;by_cases hlt:k<ops.length
  ·obtain⟨A2,c2,hA2,hcc⟩:=HS.out.ext hb;injection hA2 with e1 e2 e3;subst e1 e3;obtain⟨b,off,rfl,hbl,hcc⟩:=hcc (by omega);obtain⟨o,ho⟩:=ah hlt;have d0:wr.cell? ⟨b,off+k*3,none⟩=some (.int .i64 o.kind):=hcc k o ho 0 (by omega);have d1:wr.cell? ⟨b,off+k*3+1,none⟩=some (.int .i64 o.key):=hcc k o ho 1 (by omega);have d2:wr.cell? ⟨b,off+k*3+2,none⟩=some (.int .i64 o.value):=hcc k o ho 2 (by omega);have Ho:=aa ho;have hg1:w.heap.size<=w.heap.size+2:=by omega
   have hE:Hid (Ext wr ((wr.alloc (.cells #[.int .i64 o.kind,.int .i64 o.key,.int .i64 o.value] 67)).alloc (.cells #[.int .i64 o.kind,.int .i64 o.key,.int .i64 o.value] 67))):=((af _).alloc _).alloc _;have hl1:=CJ Tryz.underlying236 (mU agC) Lp (HI.out.1.ext hE.out) o.key;have hfa:Hid (∀r,before (ops.take k) o.key=r->J4 ops k=(oH o&&r.isNone)):=λr hr=>by subst hr;simp only[J4,ho]
   have hnx:=aa (Lg ho);clear hcc ho e2
   cases hbf:before (ops.take k) o.key with
   | none=>
     have hX:CV (λ_=>Value.bool true) (ops.take k) o.key=none:=by unfold CV;rw[hbf];rfl
     rw[hX]at hl1;have CW:=aa (hfa.out _ hbf)
     cases hr:(o.kind==1) with
     | true=>
       have hR0:=HI.out.2.ext hE.out;obtain⟨v',w2,hrun,hP⟩:=yj (w:=((wr.alloc (.cells #[.int .i64 o.kind,.int .i64 o.key,.int .i64 o.value] 67)).alloc (.cells #[.int .i64 o.kind,.int .i64 o.key,.int .i64 o.value] 67))) (wr.heap.size+1+1) (by simp) hR0 (af _) o (aX hbw hE.out.size) (by omega);have HE2:=aa (hP.2.1 w (hb.trans hE.out) (av _));have hM2:=(HI.out.1.ext hE.out).pushed hR0 hP;obtain⟨ob,hu,hG,-⟩:=iB Tryz.underlying236 (mU agC) hM2 o.key (.bool true);have HG:=aa hG;have bH:=aa hrun;have hnew:=HI.out.2.new (av wr.heap.size);have k0:w2.cell? ⟨wr.heap.size,0,none⟩=some (.int .i64 o.kind):=hP.cell hnew (((af _).alloc _).cell (aF rfl));have k1:w2.cell? ⟨wr.heap.size,1,none⟩=some (.int .i64 o.key):=hP.cell hnew (((af _).alloc _).cell (aF rfl));have k2:w2.cell? ⟨wr.heap.size,2,none⟩=some (.int .i64 o.value):=hP.cell hnew (((af _).alloc _).cell (aF rfl));have HR2:Hid (Row 67 3 encOpr w.heap.size (bD w2 (w.heap.size+2) ob) v' (Cy ops k++[o])):=hP.1.bD hM2 ob;clear hX hbf hrun hP hG hM2 hnew hR0
       go_wp2_with (first
        | (go_at_call 118;refine(iA _ _ _ _).mono ?_;rw[hr];rintro e w' ⟨rfl,rfl⟩)
        | (at_builtin;refine wpList_append_run rfl rfl rfl rfl bH.out ?_))
       go_roundw;case rel=>exact⟨HE2.out.bD hg1 _,k+1,by omega,by go_num,by
        rw[ak Ho.out];exact⟨HG.out.congr (pR _ _ _),by rw[hnx.out,CW.out];simpa[oH,hr] using HR2.out⟩⟩
       case measure=>simp[intOf];omega
     | false=>
       obtain⟨ob,hu,hG,-⟩:=iB Tryz.underlying236 (mU agC) (HI.out.1.ext hE.out) o.key (.bool true);have HG:=aa hG;have HR2:Hid (Row 67 3 encOpr w.heap.size (bD _ (w.heap.size+2) ob) u3 (Cy ops k)):=(HI.out.2.ext hE.out).bD (HI.out.1.ext hE.out) ob;clear hX hbf hG;go_wp2_with (go_at_call 118;refine(iA _ _ _ _).mono ?_;rw[hr];rintro e w' ⟨rfl,rfl⟩)
       go_roundw;case rel=>exact⟨(hb.trans hE.out).bD hg1 _,k+1,by omega,by go_num,by
        rw[ak Ho.out];exact⟨HG.out.congr (pR _ _ _),by rw[hnx.out,CW.out];simpa[oH,hr] using HR2.out⟩⟩
       case measure=>simp[intOf];omega
   | some vb=>
     have hX:CV (λ_=>Value.bool true) (ops.take k) o.key=some (.bool true):=by unfold CV;rw[hbf];rfl
     rw[hX]at hl1;have CW:=aa (hfa.out _ hbf);obtain⟨ob,hu,hG,-⟩:=iB Tryz.underlying236 (mU agC) (HI.out.1.ext hE.out) o.key (.bool true);have HG:=aa hG;have HR2:Hid (Row 67 3 encOpr w.heap.size (bD _ (w.heap.size+2) ob) u3 (Cy ops k)):=(HI.out.2.ext hE.out).bD (HI.out.1.ext hE.out) ob;clear hX hbf hG;cases hr:(o.kind==1)<;>(
      go_wp2_with (go_at_call 118;refine(iA _ _ _ _).mono ?_;rw[hr];rintro e w' ⟨rfl,rfl⟩)
      go_roundw;case rel=>exact⟨(hb.trans hE.out).bD hg1 _,k+1,by omega,by go_num,by
       rw[ak Ho.out];exact⟨HG.out.congr (pR _ _ _),by rw[hnx.out,CW.out];simpa[oH,hr] using HR2.out⟩⟩
      case measure=>simp[intOf];omega)
  ·obtain rfl:k=ops.length:=by omega
   obtain⟨A',c',rfl,_⟩:=id HI.out.2.cell.1;have hcp:=HI.out.2.cap _ _ _ rfl;go_wp2;go_returns;exact⟨_,rfl,rM HI.out.2.cell.1 _,De HI.out.2.Gl _,hb⟩
def idxOf(xs:List Int)(v:Int):Int:=match xs.findIdx? (·==v) with|none=>-1|some i=>(i:Int)
theorem R6{xs:List Int}{v:Int}(h:∀(i:Nat) x,xs[i]? =some x->x≠v):xs.findIdx? (·==v)=none:=by rw[List.findIdx?_eq_none_iff];intro x hx;obtain⟨i,hi⟩:=List.getElem?_of_mem hx;simpa using h i x hi
theorem IG:∀{xs:List Int} {v:Int} {k:Nat},xs[k]? =some v->(∀(i:Nat) x,i<k->xs[i]? =some x->x≠v)->xs.findIdx? (·==v)=some k
 | [],v,k,h,_=>by simp at h
 | x :: xs,v,0,h,_=>by simp at h;subst h;simp[List.findIdx?_cons]
 | x :: xs,v,k+1,h,hn=>by
   have hx:x≠v:=hn 0 x (by omega) rfl
   have:=IG (xs:=xs) (k:=k) (by simpa using h) (λi y hi hy=>hn (i+1) y (by omega) (by simpa using hy))
   rw[List.findIdx?_cons,this];simp[hx]
theorem uk{u:Value}{xs:List Int}(v:Int)(w:World)(h:oZ encI w u xs)(hlen:xs.length<=2097152) :
 Calls Tryz.prog 207 #[u,.int .i64 v] w λe w'=>e=.returned (.int .i64 (idxOf xs v))/\Ext w w':=by
 obtain⟨A,c,rfl,hc⟩:=h;have HC:=aa hc;clear hc;go_enter Tryz.func207,Tryz.ntmps207;go_wp2;go_loopw [8] (λi wr=>w=wr/\∃k:Nat,k<=xs.length/\i=.int .i64 k/\Hid (∀(i:Nat) x,i<k->xs[i]? =some x->x≠v)) (λi _=>xs.length-(intOf i).toNat)
 case atStart=>exact⟨rfl,0,aT _,rfl,λ_ _ h=>absurd h (gu _)⟩
 case round=>
  obtain⟨rfl,k,hk,rfl,HI⟩:=hrel;by_cases hlt:k<xs.length
  ·obtain⟨b,off,rfl,hb,hc⟩:=HC.out (by omega);obtain⟨x,hx⟩:=ah hlt;have c0:=hc k x hx;simp only[encI]at c0;by_cases h0:v=x
   ·have hz:(v==x)=true:=by simp[h0]
    have HN:Hid (idxOf xs v=(k:Int)):=by show _ = _;unfold idxOf;rw[IG (by rw[hx,h0]) HI.out]
    clear hc hx h0 HI;go_wp2;go_returns;exact⟨bU HN.out.symm,af _⟩
   ·have hz:(v==x)=false:=by simp[h0]
    have HN:Hid (∀(i:Nat) y,i<k+1->xs[i]? =some y->y≠v):=λi y hi hy=>by
     rcases eP i k with h|h
     ·exact HI.out i y h hy
     ·obtain rfl:i=k:=by omega
      rw[hx]at hy;cases hy;exact λe=>h0 e.symm
    clear hc hx h0 HI;go_wp2;go_roundw;case rel=>exact⟨trivial,k+1,by omega,by go_num,HN.out⟩
    case measure=>simp[intOf];omega
  ·obtain rfl:k=xs.length:=by omega
   have HN:Hid (idxOf xs v=-1):=by show _ = _;unfold idxOf;rw[R6 (λi x hi=>HI.out i x (bG.1 hi).1 hi)]
   clear HI;go_wp2;go_returns;exact⟨bU HN.out.symm,af _⟩
def gp(h:List aG)(os:List (List Int))(k:Nat):List Edge:=(List.range k).flatMap λ(key:Nat)=>chainTo h (key:Int) (os.getD key []) ((os.getD key []).length-1)
theorem zU(h:List aG)(os:List (List Int))(k:Nat):gp h os (k+1)=gp h os k++chainTo h (k:Int) (os.getD k []) ((os.getD k []).length-1):=by unfold gp;rw[vU,lq];simp
theorem Mi(h:List aG)(key:Int)(order:List Int)(m:Nat){x y:Int}(hx:order[m]? =some x)(hy:order[m+1]? =some y):chainTo h key order (m+1)=chainTo h key order m++j6 h (aI h key x) (aI h key y) 1:=by unfold chainTo;rw[vU,lq];simp[List.getD,hx,hy]
theorem DZ(h:List aG)(key:Int)(order:List Int):∀m,(chainTo h key order m).length<=m:=λm=>by
 induction m with
 | zero=>simp[chainTo]
 | succ m ih=>
   unfold chainTo at ih ⊢;rw[vU,lq,dw]
   have:=wD h (aI h key (order.getD m 0)) (aI h key (order.getD (m+1) 0)) 1
   simp only[agD,List.flatMap_nil,jh];omega
theorem rD{h:List aG}{os:List (List Int)}(hl:∀k:Nat,(os.getD k []).length<=6):∀k,(gp h os k).length<=k*6:=λk=>by
 induction k with
 | zero=>simp[gp]
 | succ k ih=>
   rw[zU,dw]
   have:=DZ h (k:Int) (os.getD k []) ((os.getD k []).length-1)
   have:=hl k
   omega
def jK(h:List aG)(os:List (List Int))(m:Nat):List Edge:=((aN h).take m).flatMap λn=>(mH (opsOf h n)).flatMap (jS h os n)
theorem Cm{h:List aG}{os:List (List Int)}{m n:Nat}(hn:(aN h)[m]? =some n):jK h os (m+1)=jK h os m++ku h os n (mH (opsOf h n)) (mH (opsOf h n)).length:=by unfold jK ku;rw[ak hn,lq,bM];simp
theorem Bv{h:List aG}{os:List (List Int)}{n j:Nat}{l:List aV}{o:aV}(ho:l[j]? =some o):ku h os n l (j+1)=ku h os n l j++jS h os n o:=by unfold ku;rw[ak ho,lq];simp
theorem RH(h:List aG)(os:List (List Int))(n:Nat)(o:aV):(overOf h os n o).length<=1:=by
 unfold overOf;split
 ·simp
 ·split
  ·exact wD _ _ _ _
  ·simp
theorem Kb(h:List aG)(os:List (List Int))(n:Nat)(o:aV):(jS h os n o).length<=2:=by unfold jS;rw[dw];have h1:=wD h (aI h o.key o.value) n 2;have h2:=RH h os n o;omega
theorem Ee(h:List aG)(os:List (List Int))(n:Nat)(l:List aV)(j:Nat):(ku h os n l j).length<=j*2:=by
 induction j with
 | zero=>simp[ku]
 | succ j ih=>
   by_cases hj:j<l.length
   ·obtain⟨o,ho⟩:=ah hj;rw[Bv ho,dw]
    have:=Kb h os n o
    omega
   ·unfold ku at ih ⊢;rw[jX (by omega)]at ih ⊢;omega
theorem raw_eq(h:List aG)(os:List (List Int)):dN h os=gp h os 3++jK h os (aN h).length:=by unfold dN gp jK;rw[bM]
theorem kI{n:Nat}{w w':World}(h:Below n w w'){p:Addr}{v:Value}(hp:p.block<n)(hc:w.cell? p=some v):w'.cell? p=some v:=(h.cell hp).trans hc
theorem LB.ext{B base:Nat}{W W':World}{es:List Edge}(h:LB B base W es)(hb:Ext W W'):LB B base W' es:=by obtain⟨v,h1,h2⟩:=h;exact⟨v,(Below.block hb B h1.lt).trans h1,h2.ext hb⟩
theorem Row.WL{α:Type}{e:TypeId}{m:Nat}{enc:α->Nat->Value}{b0:Nat}{w w':World}{v:Value}{xs:List α}(h:Row e m enc b0 w v xs)(hk:kU w w')(h1:e≠200)(h2:e≠172):Row e m enc b0 w' v xs:=
 h.same λk hk'=>by
  rcases h.2 with ⟨rfl,_⟩|⟨g,cap,cur,rfl,hb,hg,_⟩
  ·simp[Value.ownBlock]at hk'
  ·simp[Value.ownBlock]at hk';subst hk';exact hk.2 _ _ _ _ hg h1 h2
theorem aL.WL{α:Type}{T:TypeId}{m:Nat}{enc:α->Nat->Value}{w w':World}{v:Value}{xs:List α}(h:aL m enc w v xs)(hi:jD T w v)(hk:kU w w')(h1:T≠200)(h2:T≠172):aL m enc w' v xs:=by obtain⟨A,c,rfl,hc⟩:=h;refine⟨A,c,rfl,λhn=>?_⟩;obtain⟨b,off,rfl,hlt,hc⟩:=hc hn;obtain⟨cs,fr,hg⟩:=hi _ _ _ rfl hn;have hb:=hk.2 b cs T fr hg h1 h2;exact⟨b,off,rfl,bR hlt hk.1,λi x hx j hj=>by rw[<-hc i x hx j hj];simp only[World.cell?,hb]⟩
theorem qy.ab9{h:List aG}{B base:Nat}{w2 W W':World}{es:List Edge}{f t k:Int}(hp:qy h B base W es f t k (.returned (.tuple #[])) W')(hb:Ext w2 W)(hs:w2.heap.size=base):Ext w2 W':=by show Below _ _ _;rw[hs];exact Below.trans (by have:Below w2.heap.size w2 W:=hb;rwa [hs]at this) hp.2.2.1
theorem Gh{w w':World}(h:Ext w w'){k:Nat}{o:Obj}(hg:w.heap[k]? =some o):w'.heap[k]? =some o:=(Below.block h k (fF.1 hg).1).trans hg
theorem CZ{w w':World}{k:Nat}{cs:Array Value}{T:TypeId}(hk:kU w w')(hg:w.heap[k]? =some (.cells cs T (0,0)))(h1:T≠200)(h2:T≠172):w'.heap[k]? =some (.cells cs T (0,0)):=(hk.2 k cs T _ hg h1 h2).trans hg
theorem BR{w:World}{k i:Nat}{cs:Array Value}{T:TypeId}{v:Value}(hg:w.heap[k]? =some (.cells cs T (0,0)))(hv:cs[i]? =some v):w.cell? ⟨k,i,none⟩=some v:=by simp[World.cell?,hg,hv]
theorem Ce(ops:List aV):(mH ops).length<=ops.length:=BZ ops ops.length
theorem yG{h:List aG}{os:List (List Int)}{L:Nat}(hl:∀n,(opsOf h n).length<=L)(m:Nat):(jK h os m).length<=m*(L*2):=by
 induction m with
 | zero=>simp[jK]
 | succ m ih=>
   by_cases hm:m<(aN h).length
   ·obtain⟨n,hn⟩:=ah hm;rw[Cm hn,dw,Nat.succ_mul];have h1:=Ee h os n (mH (opsOf h n)) (mH (opsOf h n)).length;have h2:=Ce (opsOf h n);have h3:=hl n;omega
   ·unfold jK at ih ⊢;rw[jX (by omega)]at ih ⊢;rw[Nat.succ_mul];omega
theorem Zc{h:List aG}{os:List (List Int)}(hok:aD h=true)(h6:∀k:Nat,(os.getD k []).length<=6):(dN h os).length<=2097152:=by
 rw[raw_eq,dw];have h1:=rD (h:=h) h6 3;have h2:=yG (h:=h) (os:=os) (L:=1000) (λn=>by
  unfold opsOf
  cases hn:h[n]? with
  | none=>simp
  | some t=>have:=dF (dH hok (aM hn));simp;omega) (aN h).length
 have h3:=lK h;have h4:=aR hok;omega
theorem Ip(A:Option Addr)(c:Nat)(w:World)(hc:c<=9223372036854775807) :
 Calls Tryz.prog 208 #[.slice A 0 c] w λe w'=>e=.returned (.slice A 0 0)/\Ext w w':=by
 go_enter Tryz.func208,Tryz.ntmps208;go_wp2_with fail
 refine(uT _ _ _ _).mono ?_
 rintro e w1 ⟨rfl,b1⟩;go_wp2_with fail
 refine(wL _ _ _).mono ?_
 rintro e w2 ⟨rfl,rfl⟩;go_wp2_with fail
 refine(uq _ _ _ _ ⟨aT _,hc⟩).mono ?_
 rintro e w3 ⟨rfl,rfl⟩;go_wp2;go_returns;exact⟨rfl,b1⟩
theorem Nz{v u:Value}{h:List aG}{os:List (List Int)}(w:World)(H:iM w v h)(hok:aD h=true)(hu:I2 w u os)(ho:lu h os) :
 Calls Tryz.prog 170 #[v,u] w λe w'=>∃u' ds,e=.returned u'/\Cb (dN h os) ds/\aL 3 aZ w' u' ds/\Ext w w':=by
 obtain⟨A,c,rfl⟩:=H.slice;obtain⟨Au,cu,rfl,_⟩:=Ls.slice hu;have fu:=aa hok;have HOO:=aa ho;have hlen:=aR hok;have hdl:=lK h;have hol:os.length=3:=ho.1;have h6:∀k:Nat,(os.getD k []).length<=6:=λk=>by
  cases hk:os[k]? with
  | none=>simp[List.getD,hk]
  | some o=>simp only[List.getD,hk,Option.getD_some];rw[(ho.2 k o hk).length_eq];have:=je h (k:Int);omega
 have H6:=aa h6;have b0:Ext w (w.alloc (.cells #[.slice A h.length c] 23)):=(af _).alloc _;have HH:=aa (H.ext b0);have HU:=aa (Ls.ext hu (T':=101) (fT (by decide)) b0);have HB0:=aa b0;have cb:(w.alloc (.cells #[.slice A h.length c] 23)).cell? ⟨w.heap.size,0,none⟩=some (.slice A h.length c):=aF rfl;have hbh:w.heap.size<(w.alloc (.cells #[.slice A h.length c] 23)).heap.size:=by simp
 obtain⟨w0,hw0⟩:∃w0,w.alloc (.cells #[.slice A h.length c] 23)=w0:=⟨_,rfl⟩;rw[hw0]at HH HU HB0 cb hbh;obtain⟨bh,aek⟩:∃bh,w.heap.size=bh:=⟨_,rfl⟩;rw[aek]at cb hbh;clear H hu ho hok h6 b0;rw[hol]at HU ⊢;go_enter Tryz.func170,Tryz.ntmps170;go_wp2_with fail
 refine(uR _ HH.out fu.out HU.out HOO.out).mono ?_
 rintro e w2 ⟨rfl,b2⟩;have CB:=b2.cell cb;have HBH:=bR hbh b2.size;have XV:=aa (HH.out.ext b2);have HU2:=aa (Ls.ext HU.out (T':=101) (fT (by decide)) b2);have HB2:=aa (HB0.out.trans b2);clear b2 cb hbh HH HU HB0;go_wp2;have hsz:(w2.alloc (.cells #[] 200)).heap.size=w2.heap.size+1:=by simp
 have hL0:LB (w2.heap.size+1) w2.heap.size ((w2.alloc (.cells #[] 200)).alloc (.cells #[.slice (some ⟨w2.heap.size,0,none⟩) 0 0] 172)) (gp h os 0):=by
  refine⟨_,?_,(dD).ext ((af _).alloc _)⟩
  have:=Boxed.new (w2.alloc (.cells #[] 200)) 172 (.slice (some ⟨w2.heap.size,0,none⟩) 0 0)
  rw[hsz]at this;exact this
 have HL0:=aa hL0;have hE0:Hid (Ext w2 ((w2.alloc (.cells #[] 200)).alloc (.cells #[.slice (some ⟨w2.heap.size,0,none⟩) 0 0] 172))):=((af _).alloc _).alloc _;have hwr:=λ(key value:Int) (w':World) (hb:Ext w2 w')=>uf key value w' (XV.out.ext hb) fu.out;have HWR:=aa hwr;clear hL0 hsz hwr;obtain⟨base,hbs⟩:∃base,w2.heap.size=base:=⟨_,rfl⟩;have Gt:=aa hbs;rw[hbs]at HL0 HBH hE0 ⊢;clear hbs;go_loopw [25] (λi wr=>Ext w2 wr/\∃k:Nat,k<=3/\i=.int .i64 k/\Hid (LB (base+1) base wr (gp h os k))) (λi _=>3-(intOf i).toNat)
 case atStart=>exact⟨hE0.out,0,by omega,rfl,HL0.out⟩
 case round=>
  obtain⟨hb,k,hk,rfl,HI⟩:=hrel;by_cases hlt:k<3
  ·have hlt3:(k:Int)<3:=by omega
   obtain⟨bo,oo,rfl,_,hc⟩:=Ls.cells HU2.out (by omega);obtain⟨order,hor⟩:=ah (show k<os.length by omega);obtain⟨uo,Od,hP⟩:=hc k order hor;replace Od:=hb.cell Od;obtain⟨Ao,co,rfl,_⟩:=ou.slice hP;have HP:=aa hP;have hod:os.getD k []=order:=by simp[List.getD,hor]
   have hcl:=rD (h:=h) H6.out k;have h6o:=H6.out k;rw[hod]at h6o;have hnx:=zU h os k;rw[hod]at hnx;have jC:=aa hnx;have HI0:Hid (LB (base+1) base wr (gp h os k++chainTo h (k:Int) order 0)):=by
    show LB _ _ _ _
    simpa[chainTo] using HI.out
   have hb':=hb;obtain⟨wo,rfl⟩:∃wo:World,wo=wr:=⟨_,rfl⟩;clear hc hP hor hod hnx hb HI;go_wp2;go_loopw [9] (λi wr=>Ext w2 wr/\∃m:Nat,m<=order.length-1/\i=.int .i64 ((m:Int)+1)/\Hid (LB (base+1) base wr (gp h os k++chainTo h (k:Int) order m))) (λi _=>order.length-(intOf i).toNat)
   case atStart=>exact⟨hb',0,by omega,rfl,HI0.out⟩
   case round=>
    obtain⟨hb,m,hm,rfl,HJ⟩:=hrel;by_cases hmt:m+1<order.length
    ·obtain⟨x,hx⟩:=ah (show m<order.length by omega);obtain⟨y,hy⟩:=ah hmt;obtain⟨b3,o3,rfl,hb3,hc3⟩:=ou.cells HP.out (by omega);have ad5:b3<base:=by have:=Gt.out;omega
     have hbd:=hb.drew;have c0:wr.drew.cell? ⟨bh,0,none⟩=some (.slice A h.length c):=hb.cell CB;have c1:wr.drew.cell? ⟨b3,o3+m,none⟩=some (.int .i64 x):=hb.cell (hc3 m x hx);have c2:wr.drew.cell? ⟨b3,o3+(m+1),none⟩=some (.int .i64 y):=hb.cell (hc3 (m+1) y hy);have QB:=aa (Mi h (k:Int) order m hx hy);have adq:=DZ h (k:Int) order m;have hwx:=gK (h:=h) (k:Int) x;have hwy:=gK (h:=h) (k:Int) y;have HWX:=aa (HWR.out (k:Int) x);have HWY:=aa (HWR.out (k:Int) y);obtain⟨zx,hzx⟩:∃z,aI h (k:Int) x=z:=⟨_,rfl⟩;obtain⟨zy,UY⟩:∃z,aI h (k:Int) y=z:=⟨_,rfl⟩;rw[hzx]at hwx QB HWX;rw[UY]at hwy QB HWY;have i1:(0:Int)<=(m:Int)+1:=by omega
     have i2:(m:Int)+1<(order.length:Int):=by omega
     have i3:(0:Int)<=(m:Int):=by omega
     have i4:(m:Int)<(order.length:Int):=by omega
     have w1':IntKind.i64.wrap ((m:Int)+1-1)=(m:Int):=by rw[Int.add_sub_cancel];exact dL _ (by omega)
     have w2':IntKind.i64.wrap (m:Int)=(m:Int):=dL _ (by omega);obtain⟨es,hes⟩:∃es,es=gp h os k++chainTo h (k:Int) order m:=⟨_,rfl⟩;have hel:es.length<=1000:=by rw[hes,dw];omega
     have hJ:=HJ.out;rw[<-hes]at hJ;have HJ1:Hid (LB (base+1) base wr.drew es):=hJ.ext ((af _).drew);have Br:=aa hes;have hbw:base<=wr.heap.size:=by rw[<-Gt.out];exact hb.size
     clear hc3 hx hy hzx UY HJ hJ hes;go_wp2
     go_region_held3 (λW=>W.cell? ⟨bh,0,none⟩=some (.slice A h.length c)/\W.cell? ⟨b3,o3+m,none⟩=some (.int .i64 x)/\W.cell? ⟨b3,o3+(m+1),none⟩=some (.int .i64 y)) (exact⟨by assumption,by assumption,by assumption⟩) ((first
      | (go_at_call 204;refine(HWY.out wA bA').mono ?_;rintro e wB ⟨rfl,bB⟩;have bB':=bA'.trans bB;have cB0:=bB.cell cA0;have cB1:=bB.cell cA1;have cB2:=bB.cell cA2;have HJB:=aa (HJA.out.ext bB);have ad7:=aX hszA bB.size)
      | (go_at_call 204;refine(HWX.out _ hbd).mono ?_;rintro e wA ⟨rfl,bA⟩;have bA':=hbd.trans bA;have cA0:=bA.cell c0;have cA1:=bA.cell c1;have cA2:=bA.cell c2;have HJA:=aa (HJ1.out.ext bA);have hszA:=aX (show base<=wr.drew.heap.size from hbw) bA.size)
      | (go_at_call 203;refine(vP zx zy 1 wB cB0 (XV.out.ext bB') HJB.out ad7 (iD _) hel hlen hwx.2 hwy.2).mono ?_;rintro e wP hPP;obtain⟨rfl,hP1,hP2,hP3⟩:=hPP;have cP0:=kI hP2 (p:=⟨bh,0,none⟩) HBH cB0;have cP1:=kI hP2 (p:=⟨b3,o3+m,none⟩) ad5 cB1;have cP2:=kI hP2 (p:=⟨b3,o3+(m+1),none⟩) ad5 cB2)))
     have Il:Hid (Ext w2 wP):=by show Below _ _ _;rw[Gt.out];exact Below.trans (by have:Below w2.heap.size w2 wB:=bB';rwa [Gt.out]at this) hP2
     have HL1:Hid (LB (base+1) base wP (gp h os k++chainTo h (k:Int) order (m+1))):=by show LB _ _ _ _;rw[QB.out,<-jM,<-Br.out];exact hP1
     clear hP1 hP2 hP3 cP0 cP1 cP2 bA bA' cA0 cA1 cA2 HJA hszA bB bB' cB0 cB1 cB2 HJB ad7 c0 c1 c2 hbd;go_wp2;go_roundw;case rel=>exact⟨Il.out,m+1,by omega,by go_num,HL1.out⟩
     case measure=>simp[intOf];omega
    ·obtain rfl:m=order.length-1:=by omega
     have hj:=HJ.out;rw[<-jC.out]at hj;have HJ':=aa hj;have hnl:¬(((order.length-1:Nat):Int)+1<(order.length:Int)):=by omega
     clear hj HJ;go_wp2;go_roundw;case rel=>exact⟨hb,k+1,by omega,by go_num,HJ'.out⟩
     case measure=>simp[intOf];omega
  ·obtain rfl:k=3:=by omega
   have c0:wr.cell? ⟨bh,0,none⟩=some (.slice A h.length c):=hb.cell CB;go_wp2_with fail
   refine(uG _ (XV.out.ext hb) (by omega)).mono ?_
   rintro e w3 ⟨vd,rfl,rd,b3⟩;have RD:=aa rd;obtain⟨Ad,cd,rfl,_⟩:=id rd.cell.1;have HI3:Hid (LB (base+1) base w3 (gp h os 3++jK h os 0)):=by
    show LB _ _ _ _
    simpa[jK] using HI.out.ext b3
   have HB3:=aa (hb.trans b3);rw[show ((3:Nat):Int)=3 from rfl];clear rd b3 c0 hb HI;go_wp2;go_loopw [57] (λi wr=>Ext w2 wr/\Hid (kU w3 wr)/\∃m:Nat,m<=(aN h).length/\i=.int .i64 m/\Hid (LB (base+1) base wr (gp h os 3++jK h os m))) (λi _=>(aN h).length-(intOf i).toNat)
   case atStart=>exact⟨HB3.out,kU.refl _,0,by omega,rfl,HI3.out⟩
   case round=>
    obtain⟨hb,HK,m,hm,rfl,HJ⟩:=hrel;by_cases hmt:m<(aN h).length
    ·obtain⟨n,hn⟩:=ah hmt;obtain⟨hnl,hnd⟩:=qg (aM hn);obtain⟨-,bd,UU,rfl,hbd,hcd⟩:=Gf (RD.out.WL HK.out (by decide) (by decide)) (by omega);have cn:=hcd m n hn;obtain⟨b,off,rfl,hbl,hc⟩:=XV.out.head (by omega);obtain⟨t,ht⟩:=ah hnl;obtain⟨ov,c0,c1,c2,hs⟩:=hc n t ht;replace c0:=hb.cell c0;replace c1:=hb.cell c1;replace c2:=hb.cell c2;have cb:=hb.cell CB;have hto:=dH fu.out (aM ht);have hol:=dF hto;have VZ:=aa hto;have HS:=aa hs;have hnx:=Cm (os:=os) hn;rw[dV ht]at hnx;have jC:=aa hnx;clear hn hnd hc ht hs hto hcd hnx;go_wp2_with fail
     refine(DK t.az t.done _ (HS.out.ext hb) (by omega)).mono ?_
     rintro e w4 ⟨A4,rfl,hs4,ht4,b4⟩;have K6:=aa (aB hs4 ht4);have uW:=aa (hb.trans b4);have HK4:=aa (HK.out.trans (kU.bK b4));have HJ4:Hid (LB (base+1) base w4 (gp h os 3++jK h os m++ku h os n (mH t.ops) 0)):=by
      show LB _ _ _ _
      simpa[ku] using HJ.out.ext b4
     clear hs4 ht4 b4 hb HK HJ c0 c1 c2 cb;obtain⟨wo,rfl⟩:∃wo:World,wo=wr:=⟨_,rfl⟩;have hfl:=Ce t.ops;go_wp2;go_loopw [67] (λi wr=>Ext w2 wr/\Hid (kU w4 wr)/\∃j:Nat,j<=(mH t.ops).length/\i=.int .i64 j/\Hid (LB (base+1) base wr (gp h os 3++jK h os m++ku h os n (mH t.ops) j))) (λi _=>(mH t.ops).length-(intOf i).toNat)
     case atStart=>exact⟨uW.out,kU.refl _,0,by omega,rfl,HJ4.out⟩
     case round=>
      obtain⟨hb,HK,j,hj,rfl,HL⟩:=hrel;by_cases hjt:j<(mH t.ops).length
      ·obtain⟨o,ho⟩:=ah hjt;obtain⟨A5,c5,e5,hcc⟩:=K6.out.1.WL K6.out.2 HK.out (by decide) (by decide);injection e5 with e1 e2 e3;subst e1;clear e2 e3;obtain⟨b',off',rfl,ru,hcc⟩:=hcc (by omega);have yZ:iY o=true:=by obtain⟨i,hi,_⟩:=Gc.1 (aM ho);exact gD VZ.out (aM hi)
       have hky:=jE yZ;have d0:wr.cell? ⟨b',off'+j*3,none⟩=some (.int .i64 o.kind):=hcc j o ho 0 (by omega);have d1:wr.cell? ⟨b',off'+j*3+1,none⟩=some (.int .i64 o.key):=hcc j o ho 1 (by omega);have d2:wr.cell? ⟨b',off'+j*3+2,none⟩=some (.int .i64 o.value):=hcc j o ho 2 (by omega);have Wd:=aa (Bv (h:=h) (os:=os) (n:=n) ho);have hg0:(wr.alloc (.cells #[.int .i64 o.kind,.int .i64 o.key,.int .i64 o.value] 67)).heap[wr.heap.size]? =some (.cells #[.int .i64 o.kind,.int .i64 o.key,.int .i64 o.value] 67 (0,0)):=World.alloc_heap_new wr _;have hEa:Ext wr (wr.alloc (.cells #[.int .i64 o.kind,.int .i64 o.key,.int .i64 o.value] 67)):=(af _).alloc _;have hba:=hb.trans hEa;have ca:=hba.cell CB;have hwz:=gK (h:=h) o.key o.value;have HW:=aa (HWR.out o.key o.value _ hba);obtain⟨z,hz⟩:∃z,aI h o.key o.value=z:=⟨_,rfl⟩;rw[hz]at hwz HW;have HZ:=aa hz;have QI:(n:Int)<(h.length:Int):=by omega
       have HKa:=aa (HK.out.trans (kU.bK hEa));obtain⟨es,hes⟩:∃es,es=gp h os 3++jK h os m++ku h os n (mH t.ops) j:=⟨_,rfl⟩;have hel:es.length<=999:=by
        have q1:=rD (h:=h) H6.out 3;have q2:=yG (h:=h) (os:=os) (L:=6) (λn=>by
         unfold opsOf
         cases hn:h[n]? with
         | none=>simp
         | some t=>have:=dF (dH fu.out (aM hn));simpa using this) m
        have q3:=Ee h os n (mH t.ops) j;have q4:=Ce t.ops;rw[hes,dw,dw];omega
       have hL1:=HL.out.ext hEa;rw[<-hes]at hL1;have HL1:=aa hL1;have Br:=aa hes;have hbw:base<=wr.heap.size:=by rw[<-Gt.out];exact hb.size
       have Wj:=aa hg0;clear hcc ho yZ hz hL1 hes HL HK hg0;go_wp2_with fail
       refine HW.out.mono ?_;rintro e wB ⟨rfl,bB⟩;have hbB:=hba.trans bB;have cB:=hbB.cell CB;go_wp2_with fail
       refine(vP z n 2 wB cB (XV.out.ext hbB) (HL1.out.ext bB) (aX hbw (hEa.trans bB).size) (iD _) (by omega) hlen hwz.2 QI).mono ?_
       rintro e wP hPP;obtain⟨rfl,hP1,hP2,hP3⟩:=id hPP;obtain⟨kk,hkk⟩:=dZ hky.1;have HKK:=aa hkk;have hk3:kk<os.length:=by omega
       obtain⟨order,hor⟩:=ah hk3;obtain⟨bo,oo,rfl,_,hco⟩:=Ls.cells HU2.out (by omega);obtain⟨uo,Od,hPo⟩:=hco kk order hor;obtain⟨Ao,co,rfl,_⟩:=ou.slice hPo;have YV:=aa hPo;have NL:Hid (o.key.toNat=kk):=by show _ = _;omega
       have HOD:Hid (os.getD kk []=order):=by show _ = _;simp[List.getD,hor]
       have h6o:order.length<=6:=by rw[<-HOD.out];exact H6.out kk
       have hbP:=hPP.ab9 hbB Gt.out;have cuP:=hbP.cell Od;have cbW:=kI hP2 (p:=⟨bh,0,none⟩) HBH cB;have GB:wB.heap[wr.heap.size]? =some (.cells #[.int .i64 o.kind,.int .i64 o.key,.int .i64 o.value] 67 (0,0)):=Gh bB Wj.out;have GW:=CZ hP3 GB (by decide) (by decide);have kW1:wP.cell? ⟨wr.heap.size,1,none⟩=some (.int .i64 (kk:Int)):=BR GW (by rw[hkk];rfl);have kW2:wP.cell? ⟨wr.heap.size,2,none⟩=some (.int .i64 o.value):=BR GW rfl;have X3:Hid (kU w4 wP):=HKa.out.trans ((kU.bK bB).trans hP3);have LBW:=aa hP1;have acG:(es++j6 h z n 2).length<=1000:=by have:=wD h z n 2;rw[dw];omega
       have hbW:=hbP;have i1:(kk:Int)<3:=by omega
       have agd:(kk:Int)<((3:Nat):Int):=by omega
       clear hP1 hP2 hP3 hPP bB hbB cB GB hPo hco hor hkk hba ca hEa;by_cases hv0:o.value=0
       ·have hvz:(o.value != 0)=false:=by simp[hv0]
        have ZG:Hid (l7 order o.value=some 0):=by show _ = _;simp[l7,hv0]
        clear hv0;by_cases R9:0<order.length
        ·obtain⟨y,hy⟩:=ah R9;obtain⟨bz,oz,rfl,hbz,hcz⟩:=ou.cells YV.out (by omega);have aa7:bz<base:=by have:=Gt.out;omega
         have c0:wP.drew.cell? ⟨bh,0,none⟩=some (.slice (some ⟨b,off,none⟩) h.length c):=cbW;have c1:wP.drew.cell? ⟨wr.heap.size,1,none⟩=some (.int .i64 (kk:Int)):=kW1;have c2:wP.drew.cell? ⟨bz,oz,none⟩=some (.int .i64 y):=hbW.cell (by have:=hcz (0) y hy;simpa[encI] using this);have sZ:Hid (overOf h os n o=j6 h n (aI h (kk:Int) y) 3):=by
          show _ = _;unfold overOf;rw[NL.out,HOD.out,ZG.out];have hgd:order.getD (0) 0=y:=by simp[List.getD,hy]
          simp only[aj R9,hgd,HKK.out]
         have hwy:=gK (h:=h) (kk:Int) y;have hbd:=hbW.drew;have HWY:=aa (HWR.out (kk:Int) y _ hbd);obtain⟨zy,UY⟩:∃z,aI h (kk:Int) y=z:=⟨_,rfl⟩;rw[UY]at hwy HWY sZ;have HLd:=aa (LBW.out.ext (af wP).drew);have abm:base<=wP.heap.size:=by rw[<-Gt.out];exact hbW.size
         have i4:(0:Int)<(order.length:Int):=by omega
         clear hcz hy UY;go_wp2
         go_region_held3 (λV=>V.cell? ⟨bh,0,none⟩=some (.slice (some ⟨b,off,none⟩) h.length c)/\V.cell? ⟨wr.heap.size,1,none⟩=some (.int .i64 (kk:Int))/\V.cell? ⟨bz,oz,none⟩=some (.int .i64 y)) (exact⟨by assumption,by assumption,by assumption⟩) ((first
          | (go_at_call 204;refine HWY.out.mono ?_;rintro e wC ⟨rfl,bC⟩;have hbC:=hbd.trans bC;have cC0:=bC.cell c0;have cC1:=bC.cell c1;have cC2:=bC.cell c2;have HLC:=aa (HLd.out.ext bC);have Ww:=aX (show base<=wP.drew.heap.size from abm) bC.size)
          | (go_at_call 203;refine(vP n zy 3 wC cC0 (XV.out.ext hbC) HLC.out Ww (iD _) acG hlen QI hwy.2).mono ?_;rintro e wQ hQQ;obtain⟨rfl,hQ1,hQ2,hQ3⟩:=id hQQ;have cQ0:=kI hQ2 (p:=⟨bh,0,none⟩) HBH cC0;have cQ2:=kI hQ2 (p:=⟨bz,oz,none⟩) aa7 cC2;have gQ:=CZ hQ3 (Gh bC (GW:wP.drew.heap[wr.heap.size]? = _)) (by decide) (by decide);have cQ1:wQ.cell? ⟨wr.heap.size,1,none⟩=some (.int .i64 (kk:Int)):=BR gQ (by rw[HKK.out];rfl))))
         have Qz:=aa (hQQ.ab9 hbC Gt.out);have HK9:Hid (kU w4 wQ):=X3.out.trans ((kU.bK ((af wP).drew.trans bC)).trans hQ3);have Wi:Hid (LB (base+1) base wQ (gp h os 3++jK h os m++ku h os n (mH t.ops) (j+1))):=by show LB _ _ _ _;rw[Wd.out,jS,sZ.out,<-jM,<-jM,<-Br.out,HZ.out];exact hQ1
         clear hQQ hQ1 hQ2 hQ3 cQ0 cQ1 cQ2 gQ hbC cC0 cC1 cC2 HLC Ww bC;go_wp2;go_roundw;case rel=>exact⟨Qz.out,HK9,j+1,hjt,by go_num,Wi.out⟩
         case measure=>simp[intOf];omega
        ·have sZ:Hid (overOf h os n o=[]):=by show _ = _;unfold overOf;rw[NL.out,HOD.out,ZG.out];simp[R9]
         have i4:¬((0:Int)<(order.length:Int)):=by omega
         have Wi:Hid (LB (base+1) base wP (gp h os 3++jK h os m++ku h os n (mH t.ops) (j+1))):=by show LB _ _ _ _;rw[Wd.out,jS,sZ.out,jh,<-jM,<-Br.out,HZ.out];exact LBW.out
         go_wp2;go_roundw;case rel=>exact⟨hbW,X3,j+1,hjt,by go_num,Wi.out⟩
         case measure=>simp[intOf];omega
       ·have hvz:(o.value != 0)=true:=by simpa using hv0
        cases hfi:order.findIdx? (·==o.value) with
        | none=>
          have hix:idxOf order o.value=-1:=by simp[idxOf,hfi]
          have sZ:Hid (overOf h os n o=[]):=by show _ = _;unfold overOf;rw[NL.out,HOD.out,show l7 order o.value=none by simp[l7,hv0,hfi]]
          have Wi:Hid (LB (base+1) base wP (gp h os 3++jK h os m++ku h os n (mH t.ops) (j+1))):=by show LB _ _ _ _;rw[Wd.out,jS,sZ.out,jh,<-jM,<-Br.out,HZ.out];exact LBW.out
          clear hv0 hfi;go_wp2_with fail
          refine(uk o.value _ (ou.ext YV.out hbP).1 (by omega)).mono ?_
          rw[hix];rintro e wI ⟨rfl,bI⟩;go_wp2;go_roundw;case rel=>exact⟨hbP.trans bI,X3.out.trans (kU.bK bI),j+1,hjt,by go_num,Wi.out.ext bI⟩
          case measure=>simp[intOf];omega
        | some i=>
          have hix:idxOf order o.value=(i:Int):=by simp[idxOf,hfi]
          have ZG:Hid (l7 order o.value=some (i+1)):=by show _ = _;simp[l7,hv0,hfi]
          have hil:i<order.length:=by
           have:=List.findIdx?_eq_some_iff_getElem.1 hfi
           exact this.1
          clear hv0 hfi;go_wp2_with fail
          refine(uk o.value _ (ou.ext YV.out hbP).1 (by omega)).mono ?_
          rw[hix];rintro e wI ⟨rfl,bI⟩;replace hbW:=hbP.trans bI;replace cbW:=bI.cell cbW;replace kW1:=bI.cell kW1;replace GW:=Gh bI GW;have hkw:=X3.out.trans (kU.bK bI);replace X3:=aa hkw;have LC:=LBW.out.ext bI;replace LBW:=aa LC;have hi0:¬((i:Int)<0):=by omega
          clear hkw LC cuP kW2 hbP;by_cases R9:(i+1)<order.length
          ·obtain⟨y,hy⟩:=ah R9;obtain⟨bz,oz,rfl,hbz,hcz⟩:=ou.cells YV.out (by omega);have aa7:bz<base:=by have:=Gt.out;omega
           have c0:wI.drew.cell? ⟨bh,0,none⟩=some (.slice (some ⟨b,off,none⟩) h.length c):=cbW;have c1:wI.drew.cell? ⟨wr.heap.size,1,none⟩=some (.int .i64 (kk:Int)):=kW1;have c2:wI.drew.cell? ⟨bz,oz+(i+1),none⟩=some (.int .i64 y):=hbW.cell (by have:=hcz ((i+1)) y hy;simpa[encI] using this);have sZ:Hid (overOf h os n o=j6 h n (aI h (kk:Int) y) 3):=by
            show _ = _;unfold overOf;rw[NL.out,HOD.out,ZG.out];have hgd:order.getD (i+1) 0=y:=by simp[List.getD,hy]
            simp only[aj R9,hgd,HKK.out]
           have hwy:=gK (h:=h) (kk:Int) y;have hbd:=hbW.drew;have HWY:=aa (HWR.out (kk:Int) y _ hbd);obtain⟨zy,UY⟩:∃z,aI h (kk:Int) y=z:=⟨_,rfl⟩;rw[UY]at hwy HWY sZ;have HLd:=aa (LBW.out.ext (af wI).drew);have abm:base<=wI.heap.size:=by rw[<-Gt.out];exact hbW.size
           have i4:(i:Int)+1<(order.length:Int):=by omega
           have i5:(0:Int)<=(i:Int)+1:=by omega
           clear hcz hy UY;go_wp2
           go_region_held3 (λV=>V.cell? ⟨bh,0,none⟩=some (.slice (some ⟨b,off,none⟩) h.length c)/\V.cell? ⟨wr.heap.size,1,none⟩=some (.int .i64 (kk:Int))/\V.cell? ⟨bz,oz+(i+1),none⟩=some (.int .i64 y)) (exact⟨by assumption,by assumption,by assumption⟩) ((first
            | (go_at_call 204;refine HWY.out.mono ?_;rintro e wC ⟨rfl,bC⟩;have hbC:=hbd.trans bC;have cC0:=bC.cell c0;have cC1:=bC.cell c1;have cC2:=bC.cell c2;have HLC:=aa (HLd.out.ext bC);have Ww:=aX (show base<=wI.drew.heap.size from abm) bC.size)
            | (go_at_call 203;refine(vP n zy 3 wC cC0 (XV.out.ext hbC) HLC.out Ww (iD _) acG hlen QI hwy.2).mono ?_;rintro e wQ hQQ;obtain⟨rfl,hQ1,hQ2,hQ3⟩:=id hQQ;have cQ0:=kI hQ2 (p:=⟨bh,0,none⟩) HBH cC0;have cQ2:=kI hQ2 (p:=⟨bz,oz+(i+1),none⟩) aa7 cC2;have gQ:=CZ hQ3 (Gh bC (GW:wI.drew.heap[wr.heap.size]? = _)) (by decide) (by decide);have cQ1:wQ.cell? ⟨wr.heap.size,1,none⟩=some (.int .i64 (kk:Int)):=BR gQ (by rw[HKK.out];rfl))))
           have Qz:=aa (hQQ.ab9 hbC Gt.out);have HK9:Hid (kU w4 wQ):=X3.out.trans ((kU.bK ((af wI).drew.trans bC)).trans hQ3);have Wi:Hid (LB (base+1) base wQ (gp h os 3++jK h os m++ku h os n (mH t.ops) (j+1))):=by show LB _ _ _ _;rw[Wd.out,jS,sZ.out,<-jM,<-jM,<-Br.out,HZ.out];exact hQ1
           clear hQQ hQ1 hQ2 hQ3 cQ0 cQ1 cQ2 gQ hbC cC0 cC1 cC2 HLC Ww bC;go_wp2;go_roundw;case rel=>exact⟨Qz.out,HK9,j+1,hjt,by go_num,Wi.out⟩
           case measure=>simp[intOf];omega
          ·have sZ:Hid (overOf h os n o=[]):=by show _ = _;unfold overOf;rw[NL.out,HOD.out,ZG.out];simp[R9]
           have i4:¬((i:Int)+1<(order.length:Int)):=by omega
           have Wi:Hid (LB (base+1) base wI (gp h os 3++jK h os m++ku h os n (mH t.ops) (j+1))):=by show LB _ _ _ _;rw[Wd.out,jS,sZ.out,jh,<-jM,<-Br.out,HZ.out];exact LBW.out
           go_wp2;go_roundw;case rel=>exact⟨hbW,X3,j+1,hjt,by go_num,Wi.out⟩
           case measure=>simp[intOf];omega
      ·obtain rfl:j=(mH t.ops).length:=by omega
       go_wp2;go_roundw;case rel=>exact⟨hb,HK4.out.trans HK.out,m+1,by omega,by go_num,by rw[jC.out,<-jM];exact HL.out⟩
       case measure=>simp[intOf];omega
    ·obtain rfl:m=(aN h).length:=by omega
     obtain⟨lv,hO,hR⟩:=HJ.out;have cl:=hO.cell;rw[<-raw_eq]at hR;have hrl:=Zc (os:=os) fu.out H6.out;obtain⟨es,hes⟩:∃es,dN h os=es:=⟨_,rfl⟩;rw[hes]at hR hrl;have Br:=aa hes;clear hes;have hcap:=hR.cap;have hown:=hR.cell.2;have hsl:=hR.cell.1;have HB:=aa (HB2.out.trans hb);rcases hR.2 with ⟨rfl,h0⟩|⟨g,cap,cur,rfl,hbg,hg,_⟩
     ·obtain⟨A9,c9,e9,_⟩:=id hsl;injection e9 with e1 e2 e3;have hnil:es=[]:=mZ e2.symm;have HN:=aa hnil;clear hR hO hsl hown hcap hnil e1 e2 e3 HJ;go_wp2_with fail
      refine(Ip _ _ _ (by omega)).mono ?_
      rintro e w9 ⟨rfl,b9⟩;go_wp2;go_returns;exact⟨_,[],rfl,by rw[Br.out,HN.out];exact⟨λ_=>Iff.rfl,av _⟩,⟨_,_,rfl,λh=>by simp at h⟩,HB.out.trans b9⟩
     ·have hgl:=(fF.1 hg).1;have hcp:=hcap _ _ _ rfl;have HSL:=aa hsl;have HOW:=aa hown;clear hR hO hsl hown hcap hg HJ;go_wp2_with fail
      refine(Nj _ HSL.out HOW.out hgl hrl hcp).mono ?_
      rintro e w9 ⟨q,ds,rfl,hd,hs9,ho9⟩;have HD:=aa hd;have HS9:=aa hs9;have Qz:Hid (Ext w w9):=Ext.only HB.out ho9 HOW.out (by have:=Gt.out;have:=HB2.out.size;omega);clear hd hs9 ho9;go_wp2;go_returns;exact⟨_,ds,rfl,by rw[Br.out];exact HD.out,HS9.out,Qz.out⟩
