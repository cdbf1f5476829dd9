import Derived.Shelf.Strings.Builder1
import Derived.Shelf.Strings.Builder2
import Derived.Shelf.Strings.OnBuilder
import Derived.Shelf.Strings.Trim
import Derived.Shelf.Small.Utf8
import Derived.Shelf.Small.Strs
import Derived.Shelf.Small.Wraps
import Derived.Shelf.Strings.BuilderF
import Derived.Shelf.Strings.BuilderK
import Derived.Shelf.Utf8.RuneCount
import Derived.Shelf.Strings.Builder2Cap
import Derived.Shelf.Strconv.Itoa0
import Derived.Shelf.Strconv.Itoa1
import Derived.Shelf.LaysM
import Derived.Shelf.Strconv.Itoa2
import Derived.Shelf.Strconv.Itoa3
import Derived.Shelf.Strconv.Clone
import Derived.Shelf.Strconv.SyntaxError
import Derived.Shelf.LaysC
import Derived.Shelf.Strconv.ToError
import Derived.Shelf.Strconv.Lower
import Derived.Shelf.Strconv.ParseUint10
import Derived.Shelf.Strconv.ParseUint10Empty
import Derived.Shelf.Strconv.ParseUint10Any
import Derived.Shelf.Strconv.RangeError
import Derived.Shelf.Strconv.ToErrorRange
import Derived.Shelf.Strconv.ParseUintEmpty
import Derived.Shelf.Strconv.ParseUint10b64
import Derived.Shelf.Strconv.ParseUint10b32
import Derived.Shelf.Strconv.ParseUint10b16
import Derived.Shelf.Strconv.ParseUint10b8
import Derived.Shelf.Strconv.ParseUint10At
import Derived.Ground.MpProg
import Derived.Shelf.Pu.ParseUintPublic10
import Derived.Shelf.Pu.ErrVarParseUint
import Derived.Shelf.Strings.Search1
import Derived.Shelf.Strings.Search2
import Derived.Shelf.Strings.Search3
import Derived.Shelf.Strings.Cut
import Derived.Shelf.Strings.Count
import Derived.Shelf.Strings.Shaped
import Derived.Shelf.Strings.Prefix
import Derived.Shelf.Strings.Split
import Derived.Shelf.Strings.SplitShaped
import Derived.Shelf.Unicode.Decode
import Derived.Shelf.Strings.Runes
import Derived.Shelf.Strings.RuneCount
import Derived.Shelf.Strings.AsciiSet
import Derived.Shelf.Strings.Explode
import Derived.Shelf.Unicode.DecodeSlow
import Derived.Shelf.Unicode.DecodeAny
import Derived.Shelf.Unicode.DecodeLast
import Derived.Shelf.Strings.BuilderCap
import Derived.Shelf.Slices.Turned
import Derived.Ground.Names2Prog
import Derived.Shelf.Slices.Clone
import Derived.Ground.SlgnProg
import Derived.Shelf.SlicesE.Clone
import Derived.Lib.Walk
import Derived.Lib.ItoaMem
import Derived.Lib.AppendIntMem
import Derived.WalkKit
import Derived.BigCall
import Derived.BigGuard
import Derived.WalkSmall
import Derived.Test.YtkihibnffkpnkaaGreatDoorBRowLR8
set_option linter.unusedVariables false
set_option linter.unusedSimpArgs false
set_option maxRecDepth 100000
set_option maxHeartbeats 4000000
open Go.GL (zk)
open List (length_drop)
namespace Go.Proofs
def Tryz.lays156_ren:Go.Shelf.Ren:=⟨fun|156=>83|165=>143|166=>28|169=>29|240=>56|241=>181|276=>107|277=>208|n=>n,fun|31=>32|9=>9|3=>3|4=>4|0=>0|20=>20|72=>69|76=>72|70=>67|37=>59|75=>71|127=>97|164=>146|5=>5|80=>47|n=>n,fun|n=>n⟩
theorem Tryz.lays156:Go.Proofs.Lays.n156 Tryz.prog Tryz.lays156_ren:={
 mixed:=by kernel_rfl
 f156:=Tryz.func83.trans zCs
 f165:=Tryz.func143.trans zCs
 f166:=Tryz.func28.trans zCs
 f169:=Tryz.func29.trans zCs
 f240:=Tryz.func56.trans zCs
 f241:=Tryz.func181.trans zCs
 f276:=Tryz.func107.trans zCs
 f277:=Tryz.func208.trans zCs
 t0:=Tryz.underlying0
 a0:=Tryz.isAgg0
 z0:=Tryz.sizeOf0
 v0:=Tryz.zeroValue0
 t3:=Tryz.underlying3
 a3:=Tryz.isAgg3
 z3:=Tryz.sizeOf3
 v3:=Tryz.zeroValue3
 t4:=Tryz.underlying4
 a4:=Tryz.isAgg4
 z4:=Tryz.sizeOf4
 v4:=Tryz.zeroValue4
 t9:=Tryz.underlying9
 a9:=Tryz.isAgg9
 z9:=Tryz.sizeOf9
 v9:=Tryz.zeroValue9
 t20:=Tryz.underlying20
 a20:=Tryz.isAgg20
 z20:=Tryz.sizeOf20
 v20:=Tryz.zeroValue20
 t31:=Tryz.underlying32
 a31:=Tryz.isAgg32
 z31:=Tryz.sizeOf32
 v31:=Tryz.zeroValue32
 t37:=Tryz.underlying59
 a37:=Tryz.isAgg59
 z37:=Tryz.sizeOf59
 v37:=Tryz.zeroValue59
 t70:=Tryz.underlying67
 a70:=Tryz.isAgg67
 z70:=Tryz.sizeOf67
 v70:=Tryz.zeroValue67
 t72:=Tryz.underlying69
 a72:=Tryz.isAgg69
 z72:=Tryz.sizeOf69
 v72:=Tryz.zeroValue69
 t75:=Tryz.underlying71
 a75:=Tryz.isAgg71
 z75:=Tryz.sizeOf71
 v75:=Tryz.zeroValue71
 t76:=Tryz.underlying72
 a76:=Tryz.isAgg72
 z76:=Tryz.sizeOf72
 v76:=Tryz.zeroValue72
 t127:=Tryz.underlying97
 a127:=Tryz.isAgg97
 z127:=Tryz.sizeOf97
 v127:=Tryz.zeroValue97
 t164:=Tryz.underlying146
 a164:=Tryz.isAgg146
 z164:=Tryz.sizeOf146
 v164:=Tryz.zeroValue146 }
theorem Tryz.Builder_Extra_156:Builder.Extra Tryz.prog Tryz.lays156_ren:={
 sizeBuilder:=by kernel_rfl
 liesBuilder:=by kernel_rfl
 t5:=Tryz.underlying5
 a5:=Tryz.isAgg5
 z5:=Tryz.sizeOf5
 v5:=Tryz.zeroValue5
 infoByte:=by kernel_rfl
 cellsByte:=by kernel_rfl
 sizeByte:=by kernel_rfl
 neB5:=by decide }
open Go.RowKit in
theorem Tryz.strings_Join_none(a:Option Addr)(c:Nat)(sep:ByteArray)(w:World) :
  Calls Tryz.prog 83 #[.slice a 0 c,.string sep] w λe w'=>e=.returned (.string ⟨#[]⟩)/\w'=w:=Any.strings_Join_none Tryz.lays156 Tryz.Builder_Extra_156 a c sep w
open Go.RowKit in
theorem Tryz.strings_Join(bk o c:Nat)(xs:List ByteArray)(sep:ByteArray)(w:World)(hcells:∀ (j:Nat) x,xs[j]? = some x->w.cell? ⟨bk,o+j,none⟩=some (.string x))(hbk:bk<w.heap.size)(hN:xs.length<=140737488355328)(hcap:xs.length<=c)(hlen:(Lib.join (xs.map (·.data.toList)) sep.data.toList).length<=140737488355328) :
  Calls Tryz.prog 83 #[.slice (some ⟨bk,o,none⟩) xs.length c,.string sep] w λe w'=>e=.returned (.string ⟨(Lib.join (xs.map (·.data.toList)) sep.data.toList).toArray⟩)/\Below w.heap.size w w':=Any.strings_Join Tryz.lays156 Tryz.Builder_Extra_156 bk o c xs sep w hcells hbk hN hcap hlen
def Tryz.lays160_ren:Go.Shelf.Ren:=⟨fun|160=>194|232=>214|231=>213|227=>215|234=>217|233=>216|236=>219|235=>218|228=>245|271=>247|151=>246|197=>243|120=>262|152=>261|260=>260|137=>265|119=>266|224=>173|225=>172|217=>171|266=>202|n=>n,fun|9=>9|4=>4|3=>3|5=>5|117=>224|116=>223|0=>0|124=>227|21=>21|105=>248|46=>58|119=>269|139=>272|138=>271|n=>n,fun|3=>4|4=>5|n=>n⟩
theorem Tryz.lays160:Go.Proofs.Lays.n160 Tryz.prog Tryz.lays160_ren:={
 mixed:=by kernel_rfl
 f119:=Tryz.func266.trans zCs
 f120:=Tryz.func262.trans zCs
 f137:=Tryz.func265.trans zCs
 f151:=Tryz.func246.trans zCs
 f152:=Tryz.func261.trans zCs
 f160:=Tryz.func194.trans zCs
 f197:=Tryz.func243.trans zCs
 f217:=Tryz.func171.trans zCs
 f224:=Tryz.func173.trans zCs
 f225:=Tryz.func172.trans zCs
 f227:=Tryz.func215.trans zCs
 f228:=Tryz.func245.trans zCs
 f231:=Tryz.func213.trans zCs
 f232:=Tryz.func214.trans zCs
 f233:=Tryz.func216.trans zCs
 f234:=Tryz.func217.trans zCs
 f235:=Tryz.func218.trans zCs
 f236:=Tryz.func219.trans zCs
 f260:=Tryz.func260.trans zCs
 f266:=Tryz.func202.trans zCs
 f271:=Tryz.func247.trans zCs
 t0:=Tryz.underlying0
 a0:=Tryz.isAgg0
 z0:=Tryz.sizeOf0
 v0:=Tryz.zeroValue0
 t3:=Tryz.underlying3
 a3:=Tryz.isAgg3
 z3:=Tryz.sizeOf3
 v3:=Tryz.zeroValue3
 t4:=Tryz.underlying4
 a4:=Tryz.isAgg4
 z4:=Tryz.sizeOf4
 v4:=Tryz.zeroValue4
 t5:=Tryz.underlying5
 a5:=Tryz.isAgg5
 z5:=Tryz.sizeOf5
 v5:=Tryz.zeroValue5
 t9:=Tryz.underlying9
 a9:=Tryz.isAgg9
 z9:=Tryz.sizeOf9
 v9:=Tryz.zeroValue9
 t21:=Tryz.underlying21
 a21:=Tryz.isAgg21
 z21:=Tryz.sizeOf21
 v21:=Tryz.zeroValue21
 t46:=Tryz.underlying58
 a46:=Tryz.isAgg58
 z46:=Tryz.sizeOf58
 v46:=Tryz.zeroValue58
 t105:=Tryz.underlying248
 a105:=Tryz.isAgg248
 z105:=Tryz.sizeOf248
 v105:=Tryz.zeroValue248
 t116:=Tryz.underlying223
 a116:=Tryz.isAgg223
 z116:=Tryz.sizeOf223
 t117:=Tryz.underlying224
 a117:=Tryz.isAgg224
 z117:=Tryz.sizeOf224
 v117:=Tryz.zeroValue224
 t119:=Tryz.underlying269
 a119:=Tryz.isAgg269
 z119:=Tryz.sizeOf269
 t124:=Tryz.underlying227
 a124:=Tryz.isAgg227
 z124:=Tryz.sizeOf227
 v124:=Tryz.zeroValue227
 t138:=Tryz.underlying271
 a138:=Tryz.isAgg271
 z138:=Tryz.sizeOf271
 v138:=Tryz.zeroValue271
 t139:=Tryz.underlying272
 a139:=Tryz.isAgg272
 z139:=Tryz.sizeOf272
 v139:=Tryz.zeroValue272
 g3:=by kernel_rfl
 g4:=by kernel_rfl }
def Tryz.lays103_ren:Go.Shelf.Ren:=⟨fun|103=>182|210=>209|206=>163|n=>n,fun|9=>9|4=>4|24=>172|3=>3|n=>n,fun|n=>n⟩
theorem Tryz.lays103:Go.Proofs.Lays.n103 Tryz.prog Tryz.lays103_ren:={
 mixed:=by kernel_rfl
 f103:=Tryz.func182.trans zCs
 f206:=Tryz.func163.trans zCs
 f210:=Tryz.func209.trans zCs
 t3:=Tryz.underlying3
 a3:=Tryz.isAgg3
 z3:=Tryz.sizeOf3
 v3:=Tryz.zeroValue3
 t4:=Tryz.underlying4
 a4:=Tryz.isAgg4
 z4:=Tryz.sizeOf4
 v4:=Tryz.zeroValue4
 t9:=Tryz.underlying9
 a9:=Tryz.isAgg9
 z9:=Tryz.sizeOf9
 v9:=Tryz.zeroValue9
 t24:=Tryz.underlying172
 a24:=Tryz.isAgg172
 z24:=Tryz.sizeOf172
 v24:=Tryz.zeroValue172 }
open Go.RowKit in
theorem Tryz.strings_CutPrefix(s p:ByteArray)(w:World) :
  Calls Tryz.prog 182 #[.string s,.string p] w λe w'=>e=.returned (.tuple #[.string ⟨(Lib.trimPrefix s.data.toList p.data.toList).toArray⟩,.bool (Lib.hasPrefix s.data.toList p.data.toList)])/\w'=w:=Any.strings_CutPrefix Tryz.lays103 s p w
def Tryz.lays104_ren:Go.Shelf.Ren:=⟨fun|104=>192|211=>212|207=>244|n=>n,fun|9=>9|4=>4|24=>172|3=>3|n=>n,fun|n=>n⟩
theorem Tryz.lays104:Go.Proofs.Lays.n104 Tryz.prog Tryz.lays104_ren:={
 mixed:=by kernel_rfl
 f104:=Tryz.func192.trans zCs
 f207:=Tryz.func244.trans zCs
 f211:=Tryz.func212.trans zCs
 t3:=Tryz.underlying3
 a3:=Tryz.isAgg3
 z3:=Tryz.sizeOf3
 v3:=Tryz.zeroValue3
 t4:=Tryz.underlying4
 a4:=Tryz.isAgg4
 z4:=Tryz.sizeOf4
 v4:=Tryz.zeroValue4
 t9:=Tryz.underlying9
 a9:=Tryz.isAgg9
 z9:=Tryz.sizeOf9
 v9:=Tryz.zeroValue9
 t24:=Tryz.underlying172
 a24:=Tryz.isAgg172
 z24:=Tryz.sizeOf172
 v24:=Tryz.zeroValue172 }
open Go.RowKit in
theorem Tryz.strings_CutSuffix(s p:ByteArray)(w:World)(hs:s.size<=9223372036854775807) :
  Calls Tryz.prog 192 #[.string s,.string p] w λe w'=>e=.returned (.tuple #[.string ⟨(Lib.trimSuffix s.data.toList p.data.toList).toArray⟩,.bool (Lib.hasSuffix s.data.toList p.data.toList)])/\w'=w:=Any.strings_CutSuffix Tryz.lays104 s p w hs
def Tryz.lays283_ren:Go.Shelf.Ren:=⟨fun|283=>226|n=>n,fun|3=>3|9=>9|4=>4|n=>n,fun|n=>n⟩
theorem Tryz.lays283:Go.Proofs.Lays.n283 Tryz.prog Tryz.lays283_ren:={
 mixed:=by kernel_rfl
 f283:=Tryz.func226.trans zCs
 t3:=Tryz.underlying3
 a3:=Tryz.isAgg3
 z3:=Tryz.sizeOf3
 v3:=Tryz.zeroValue3
 t4:=Tryz.underlying4
 a4:=Tryz.isAgg4
 z4:=Tryz.sizeOf4
 v4:=Tryz.zeroValue4
 t9:=Tryz.underlying9
 a9:=Tryz.isAgg9
 z9:=Tryz.sizeOf9
 v9:=Tryz.zeroValue9 }
open Go.Lib in
theorem Tryz.internal_strconv_small(i:Nat)(h:i<100)(w:World) :
  Calls Tryz.prog 226 #[.int .i64 i] w λe w'=>e=.returned (.string ⟨(Lib.decDigits i).toArray⟩)/\w'=w:=Any.internal_strconv_small Tryz.lays283 i h w
def Tryz.laysM284_ren:Go.Shelf.Ren:=⟨fun|284=>227|129=>251|317=>250|318=>252|n=>n,fun|53=>186|3=>3|212=>255|0=>0|4=>4|46=>58|5=>5|9=>9|n=>n,fun|17=>3|n=>n⟩
theorem Tryz.laysM284:Go.Proofs.LaysM.n284 Tryz.prog Tryz.laysM284_ren:={
 mixed:=by kernel_rfl
 f129:=Tryz.func251.trans zCs
 f284:=Tryz.func227.trans zCs
 f317:=Tryz.func250.trans zCs
 f318:=Tryz.func252.trans zCs
 t0:=Tryz.underlying0
 a0:=Tryz.isAgg0
 z0:=Tryz.sizeOf0
 v0:=Tryz.zeroValue0
 t3:=Tryz.underlying3
 a3:=Tryz.isAgg3
 z3:=Tryz.sizeOf3
 v3:=Tryz.zeroValue3
 t4:=Tryz.underlying4
 a4:=Tryz.isAgg4
 z4:=Tryz.sizeOf4
 v4:=Tryz.zeroValue4
 t5:=Tryz.underlying5
 a5:=Tryz.isAgg5
 z5:=Tryz.sizeOf5
 v5:=Tryz.zeroValue5
 t9:=Tryz.underlying9
 a9:=Tryz.isAgg9
 z9:=Tryz.sizeOf9
 v9:=Tryz.zeroValue9
 t46:=Tryz.underlying58
 a46:=Tryz.isAgg58
 z46:=Tryz.sizeOf58
 v46:=Tryz.zeroValue58
 t53:=Tryz.underlying186
 a53:=Tryz.isAgg186
 z53:=Tryz.sizeOf186
 v53:=Tryz.zeroValue186
 t212:=Tryz.underlying255
 a212:=Tryz.isAgg255
 z212:=Tryz.sizeOf255
 v212:=Tryz.zeroValue255
 g17:=by kernel_rfl
 i0:=by kernel_rfl
 i3:=by kernel_rfl
 i4:=by kernel_rfl
 i5:=by kernel_rfl
 i9:=by kernel_rfl
 i46:=by kernel_rfl
 i53:=by kernel_rfl
 i212:=by kernel_rfl
 m17:=by kernel_rfl }
open Go.Lib in
theorem Tryz.internal_strconv_numDigits (u : Nat) (h1 : 1 ≤ u) (h2 : u < 18446744073709551616) (w : World) (htab : Lib.TabIs Tryz.prog w "internal/strconv.uint64pow10" .u64 Lib.pow10Tab) :
  Calls Tryz.prog 227 #[.int .u64 u] w λe w'=>e=.returned (.int .i64 (Lib.nDigits u))/\w'=w:=Any.internal_strconv_numDigits Tryz.laysM284 u h1 h2 w htab
def Tryz.lays285_ren:Go.Shelf.Ren:=⟨fun|285=>228|n=>n,fun|37=>59|53=>186|3=>3|4=>4|51=>30|9=>9|5=>5|0=>0|n=>n,fun|n=>n⟩
theorem Tryz.lays285:Go.Proofs.Lays.n285 Tryz.prog Tryz.lays285_ren:={
 mixed:=by kernel_rfl
 f285:=Tryz.func228.trans zCs
 t0:=Tryz.underlying0
 a0:=Tryz.isAgg0
 z0:=Tryz.sizeOf0
 v0:=Tryz.zeroValue0
 t3:=Tryz.underlying3
 a3:=Tryz.isAgg3
 z3:=Tryz.sizeOf3
 v3:=Tryz.zeroValue3
 t4:=Tryz.underlying4
 a4:=Tryz.isAgg4
 z4:=Tryz.sizeOf4
 v4:=Tryz.zeroValue4
 t5:=Tryz.underlying5
 a5:=Tryz.isAgg5
 z5:=Tryz.sizeOf5
 v5:=Tryz.zeroValue5
 t9:=Tryz.underlying9
 a9:=Tryz.isAgg9
 z9:=Tryz.sizeOf9
 v9:=Tryz.zeroValue9
 t37:=Tryz.underlying59
 a37:=Tryz.isAgg59
 z37:=Tryz.sizeOf59
 v37:=Tryz.zeroValue59
 t51:=Tryz.underlying30
 a51:=Tryz.isAgg30
 z51:=Tryz.sizeOf30
 v51:=Tryz.zeroValue30
 t53:=Tryz.underlying186
 a53:=Tryz.isAgg186
 z53:=Tryz.sizeOf186
 v53:=Tryz.zeroValue186 }
open Go.RowKit Go.Sort Go.Lib in
theorem Tryz.internal_strconv_formatBase10(blk off cap:Nat)(u:Nat)(d:Array UInt8)(w:World)(hH:Holds (λ(b:UInt8)=>Value.int .u8 (b.toNat:Int)) w blk off d)(hu:u<10 ^ d.size)(hu64:u<18446744073709551616)(hsz:d.size<4611686018427387904) :
  Calls Tryz.prog 228 #[.slice (some ⟨blk,off,none⟩) d.size cap,.int .u64 u] w λe w'=>
   e=.returned (.tuple #[])/\∃ (n v':Nat) (dk:Array UInt8),w'=(putRow (λ(b:UInt8)=>Value.int .u8 (b.toNat:Int)) w blk off dk).drewN n/\FmtInv d.size u 0 v' dk:=Any.internal_strconv_formatBase10 Tryz.lays285 blk off cap u d w hH hu hu64 hsz
def Tryz.laysM171_ren:Go.Shelf.Ren:=⟨fun|171=>168|243=>198|246=>230|283=>226|284=>227|285=>228|286=>229|129=>251|317=>250|318=>252|319=>253|320=>254|337=>263|338=>264|n=>n,fun|3=>3|9=>9|2=>2|4=>4|171=>233|0=>0|53=>186|37=>59|5=>5|173=>236|212=>255|51=>30|20=>20|213=>256|46=>58|232=>274|233=>275|n=>n,fun|17=>3|18=>6|19=>7|n=>n⟩
theorem Tryz.laysM171:Go.Proofs.LaysM.n171 Tryz.prog Tryz.laysM171_ren:={
 mixed:=by kernel_rfl
 f129:=Tryz.func251.trans zCs
 f171:=Tryz.func168.trans zCs
 f243:=Tryz.func198.trans zCs
 f246:=Tryz.func230.trans zCs
 f283:=Tryz.func226.trans zCs
 f284:=Tryz.func227.trans zCs
 f285:=Tryz.func228.trans zCs
 f286:=Tryz.func229.trans zCs
 f317:=Tryz.func250.trans zCs
 f318:=Tryz.func252.trans zCs
 f319:=Tryz.func253.trans zCs
 f320:=Tryz.func254.trans zCs
 f337:=Tryz.func263.trans zCs
 f338:=Tryz.func264.trans zCs
 t0:=Tryz.underlying0
 a0:=Tryz.isAgg0
 z0:=Tryz.sizeOf0
 v0:=Tryz.zeroValue0
 t2:=Tryz.underlying2
 a2:=Tryz.isAgg2
 z2:=Tryz.sizeOf2
 v2:=Tryz.zeroValue2
 t3:=Tryz.underlying3
 a3:=Tryz.isAgg3
 z3:=Tryz.sizeOf3
 v3:=Tryz.zeroValue3
 t4:=Tryz.underlying4
 a4:=Tryz.isAgg4
 z4:=Tryz.sizeOf4
 v4:=Tryz.zeroValue4
 t5:=Tryz.underlying5
 a5:=Tryz.isAgg5
 z5:=Tryz.sizeOf5
 v5:=Tryz.zeroValue5
 t9:=Tryz.underlying9
 a9:=Tryz.isAgg9
 z9:=Tryz.sizeOf9
 v9:=Tryz.zeroValue9
 t20:=Tryz.underlying20
 a20:=Tryz.isAgg20
 z20:=Tryz.sizeOf20
 v20:=Tryz.zeroValue20
 t37:=Tryz.underlying59
 a37:=Tryz.isAgg59
 z37:=Tryz.sizeOf59
 v37:=Tryz.zeroValue59
 t46:=Tryz.underlying58
 a46:=Tryz.isAgg58
 z46:=Tryz.sizeOf58
 v46:=Tryz.zeroValue58
 t51:=Tryz.underlying30
 a51:=Tryz.isAgg30
 z51:=Tryz.sizeOf30
 v51:=Tryz.zeroValue30
 t53:=Tryz.underlying186
 a53:=Tryz.isAgg186
 z53:=Tryz.sizeOf186
 v53:=Tryz.zeroValue186
 t171:=Tryz.underlying233
 a171:=Tryz.isAgg233
 z171:=Tryz.sizeOf233
 v171:=Tryz.zeroValue233
 t173:=Tryz.underlying236
 a173:=Tryz.isAgg236
 z173:=Tryz.sizeOf236
 v173:=Tryz.zeroValue236
 t212:=Tryz.underlying255
 a212:=Tryz.isAgg255
 z212:=Tryz.sizeOf255
 v212:=Tryz.zeroValue255
 t213:=Tryz.underlying256
 a213:=Tryz.isAgg256
 z213:=Tryz.sizeOf256
 t232:=Tryz.underlying274
 a232:=Tryz.isAgg274
 z232:=Tryz.sizeOf274
 v232:=Tryz.zeroValue274
 t233:=Tryz.underlying275
 a233:=Tryz.isAgg275
 z233:=Tryz.sizeOf275
 v233:=Tryz.zeroValue275
 g17:=by kernel_rfl
 g18:=by kernel_rfl
 g19:=by kernel_rfl
 i0:=by kernel_rfl
 i2:=by kernel_rfl
 i3:=by kernel_rfl
 i4:=by kernel_rfl
 i5:=by kernel_rfl
 i9:=by kernel_rfl
 i20:=by kernel_rfl
 i37:=by kernel_rfl
 i46:=by kernel_rfl
 i51:=by kernel_rfl
 i53:=by kernel_rfl
 i171:=by kernel_rfl
 i173:=by kernel_rfl
 i212:=by kernel_rfl
 i232:=by kernel_rfl
 i233:=by kernel_rfl
 m17:=by kernel_rfl
 m18:=by kernel_rfl
 m19:=by kernel_rfl }
open Go.RowKit Go.Sort Go.Lib in
theorem Tryz.strconv_Itoa (n : Int) (h0 : -9223372036854775808 ≤ n) (h1 : n ≤ 9223372036854775807) (w : World) (htab : Lib.TabIs Tryz.prog w "internal/strconv.uint64pow10" .u64 Lib.pow10Tab) :
  Calls Tryz.prog 168 #[.int .i64 n] w λe w'=>e=.returned (.string ⟨(Lib.itoa n).toArray⟩)/\∃ k os,w'=grow (w.drewN k) os:=Any.strconv_Itoa Tryz.laysM171 n h0 h1 w htab
def Tryz.laysPu14_ren:Go.Shelf.Ren:=⟨fun|14=>164|16=>195|17=>196|19=>220|20=>221|21=>222|22=>223|23=>224|24=>225|25=>248|27=>168|26=>249|28=>198|29=>230|30=>226|31=>227|32=>228|33=>229|35=>251|34=>250|36=>252|37=>253|38=>254|39=>263|40=>264|n=>n,fun|9=>9|3=>3|22=>186|24=>71|25=>187|4=>4|34=>228|5=>5|36=>58|37=>59|0=>0|39=>230|21=>21|44=>252|47=>97|50=>266|48=>264|2=>2|52=>233|55=>236|59=>255|60=>30|20=>20|61=>256|65=>274|66=>275|67=>47|n=>n,fun|0=>1|1=>2|2=>3|3=>6|4=>7|n=>n⟩
theorem Tryz.laysPu14:Go.Proofs.LaysPu.n14 Tryz.prog Tryz.laysPu14_ren:={
 mixed:=by kernel_rfl
 f14:=Tryz.func164.trans zCs
 f16:=Tryz.func195.trans zCs
 f17:=Tryz.func196.trans zCs
 f19:=Tryz.func220.trans zCs
 f20:=Tryz.func221.trans zCs
 f21:=Tryz.func222.trans zCs
 f22:=Tryz.func223.trans zCs
 f23:=Tryz.func224.trans zCs
 f24:=Tryz.func225.trans zCs
 f25:=Tryz.func248.trans zCs
 f26:=Tryz.func249.trans zCs
 f27:=Tryz.func168.trans zCs
 f28:=Tryz.func198.trans zCs
 f29:=Tryz.func230.trans zCs
 f30:=Tryz.func226.trans zCs
 f31:=Tryz.func227.trans zCs
 f32:=Tryz.func228.trans zCs
 f33:=Tryz.func229.trans zCs
 f34:=Tryz.func250.trans zCs
 f35:=Tryz.func251.trans zCs
 f36:=Tryz.func252.trans zCs
 f37:=Tryz.func253.trans zCs
 f38:=Tryz.func254.trans zCs
 f39:=Tryz.func263.trans zCs
 f40:=Tryz.func264.trans zCs
 t0:=Tryz.underlying0
 a0:=Tryz.isAgg0
 z0:=Tryz.sizeOf0
 v0:=Tryz.zeroValue0
 i0:=by kernel_rfl
 t2:=Tryz.underlying2
 a2:=Tryz.isAgg2
 z2:=Tryz.sizeOf2
 v2:=Tryz.zeroValue2
 i2:=by kernel_rfl
 t3:=Tryz.underlying3
 a3:=Tryz.isAgg3
 z3:=Tryz.sizeOf3
 v3:=Tryz.zeroValue3
 i3:=by kernel_rfl
 t4:=Tryz.underlying4
 a4:=Tryz.isAgg4
 z4:=Tryz.sizeOf4
 v4:=Tryz.zeroValue4
 i4:=by kernel_rfl
 t5:=Tryz.underlying5
 a5:=Tryz.isAgg5
 z5:=Tryz.sizeOf5
 v5:=Tryz.zeroValue5
 i5:=by kernel_rfl
 t9:=Tryz.underlying9
 a9:=Tryz.isAgg9
 z9:=Tryz.sizeOf9
 v9:=Tryz.zeroValue9
 i9:=by kernel_rfl
 t20:=Tryz.underlying20
 a20:=Tryz.isAgg20
 z20:=Tryz.sizeOf20
 v20:=Tryz.zeroValue20
 i20:=by kernel_rfl
 t21:=Tryz.underlying21
 a21:=Tryz.isAgg21
 z21:=Tryz.sizeOf21
 v21:=Tryz.zeroValue21
 i21:=by kernel_rfl
 t22:=Tryz.underlying186
 a22:=Tryz.isAgg186
 z22:=Tryz.sizeOf186
 v22:=Tryz.zeroValue186
 i22:=by kernel_rfl
 t24:=Tryz.underlying71
 a24:=Tryz.isAgg71
 z24:=Tryz.sizeOf71
 v24:=Tryz.zeroValue71
 i24:=by kernel_rfl
 t25:=Tryz.underlying187
 a25:=Tryz.isAgg187
 z25:=Tryz.sizeOf187
 v25:=Tryz.zeroValue187
 i25:=by kernel_rfl
 t34:=Tryz.underlying228
 a34:=Tryz.isAgg228
 z34:=Tryz.sizeOf228
 v34:=Tryz.zeroValue228
 i34:=by kernel_rfl
 c34:=by kernel_rfl
 t36:=Tryz.underlying58
 a36:=Tryz.isAgg58
 z36:=Tryz.sizeOf58
 v36:=Tryz.zeroValue58
 i36:=by kernel_rfl
 t37:=Tryz.underlying59
 a37:=Tryz.isAgg59
 z37:=Tryz.sizeOf59
 v37:=Tryz.zeroValue59
 i37:=by kernel_rfl
 t39:=Tryz.underlying230
 a39:=Tryz.isAgg230
 z39:=Tryz.sizeOf230
 v39:=Tryz.zeroValue230
 i39:=by kernel_rfl
 t44:=Tryz.underlying252
 a44:=Tryz.isAgg252
 z44:=Tryz.sizeOf252
 v44:=Tryz.zeroValue252
 i44:=by kernel_rfl
 t47:=Tryz.underlying97
 a47:=Tryz.isAgg97
 z47:=Tryz.sizeOf97
 v47:=Tryz.zeroValue97
 i47:=by kernel_rfl
 t48:=Tryz.underlying264
 a48:=Tryz.isAgg264
 z48:=Tryz.sizeOf264
 v48:=Tryz.zeroValue264
 i48:=by kernel_rfl
 t50:=Tryz.underlying266
 a50:=Tryz.isAgg266
 z50:=Tryz.sizeOf266
 v50:=Tryz.zeroValue266
 i50:=by kernel_rfl
 t52:=Tryz.underlying233
 a52:=Tryz.isAgg233
 z52:=Tryz.sizeOf233
 v52:=Tryz.zeroValue233
 i52:=by kernel_rfl
 t55:=Tryz.underlying236
 a55:=Tryz.isAgg236
 z55:=Tryz.sizeOf236
 v55:=Tryz.zeroValue236
 i55:=by kernel_rfl
 t59:=Tryz.underlying255
 a59:=Tryz.isAgg255
 z59:=Tryz.sizeOf255
 v59:=Tryz.zeroValue255
 i59:=by kernel_rfl
 t60:=Tryz.underlying30
 a60:=Tryz.isAgg30
 z60:=Tryz.sizeOf30
 v60:=Tryz.zeroValue30
 i60:=by kernel_rfl
 t61:=Tryz.underlying256
 a61:=Tryz.isAgg256
 z61:=Tryz.sizeOf256
 t65:=Tryz.underlying274
 a65:=Tryz.isAgg274
 z65:=Tryz.sizeOf274
 v65:=Tryz.zeroValue274
 i65:=by kernel_rfl
 t66:=Tryz.underlying275
 a66:=Tryz.isAgg275
 z66:=Tryz.sizeOf275
 v66:=Tryz.zeroValue275
 i66:=by kernel_rfl
 t67:=Tryz.underlying47
 a67:=Tryz.isAgg47
 z67:=Tryz.sizeOf47
 v67:=Tryz.zeroValue47
 i67:=by kernel_rfl
 g0:=by kernel_rfl
 m0:=by kernel_rfl
 g1:=by kernel_rfl
 m1:=by kernel_rfl
 g2:=by kernel_rfl
 m2:=by kernel_rfl
 g3:=by kernel_rfl
 m3:=by kernel_rfl
 g4:=by kernel_rfl
 m4:=by kernel_rfl }
open Go.RowKit in
theorem Tryz.strconv_ParseUint_10_at32_ok(s:ByteArray)(hmax:s.size<=9223372036854775806)(u:Nat)(h:Lib.parseUintB 32 s.data.toList=.ok u)(w:World) :
  Calls Tryz.prog 164 #[.string s,.int .i64 10,.int .i64 32] w λe w'=>e=.returned (.tuple #[.int .u64 u,.nilIface])/\(w'=w∨w'=Lib.bytesWorld w 5 s):=Any.strconv_ParseUint_10_at32_ok Tryz.laysPu14 s hmax u h w
open Go.RowKit in
theorem Tryz.strconv_ParseUint_10_at32_syntax_var (s : ByteArray) (hlim : s.size ≤ 281474976710656) (h : (∀ u, Lib.parseUintB 32 s.data.toList ≠ .ok u) ∧ Lib.parseUintB 32 s.data.toList ≠ .range) (tp : TypeId) (p : Value) (w : World) (hvar : w.var? Tryz.prog "strconv.ErrSyntax" = some #[.iface tp p]) :
  Calls Tryz.prog 164 #[.string s,.int .i64 10,.int .i64 32] w λe w'=>∃ N,e=.returned (.tuple #[.int .u64 0,.iface 230 (.pointer (some ⟨N,0,none⟩))])/\w.heap.size<=N/\w'.heap[N]? = some (.cells #[.string ⟨#[80,97,114,115,101,85,105,110,116]⟩,.string s,.iface tp p] 252 (0,0))/\Below w.heap.size w w':=by
 refine Any.strconv_ParseUint_10_at32_syntax_var Tryz.laysPu14 s hlim ?_ tp p w hvar
 cases hq:Lib.parseUintB 32 s.data.toList with
 |ok u=>exact absurd hq (h.1 u)
 |range=>exact absurd hq h.2
 |_=>rfl
open Go.RowKit in
theorem Tryz.strconv_ParseUint_10_at32_range_var (s : ByteArray) (hlim : s.size ≤ 281474976710656) (h : Lib.parseUintB 32 s.data.toList = .range) (tp : TypeId) (p : Value) (w : World) (hvar : w.var? Tryz.prog "strconv.ErrRange" = some #[.iface tp p]) :
  Calls Tryz.prog 164 #[.string s,.int .i64 10,.int .i64 32] w λe w'=>∃ N,e=.returned (.tuple #[.int .u64 4294967295,.iface 230 (.pointer (some ⟨N,0,none⟩))])/\w.heap.size<=N/\w'.heap[N]? = some (.cells #[.string ⟨#[80,97,114,115,101,85,105,110,116]⟩,.string s,.iface tp p] 252 (0,0))/\Below w.heap.size w w':=Any.strconv_ParseUint_10_at32_range_var Tryz.laysPu14 s hlim h tp p w hvar
def Tryz.lays144_ren:Go.Shelf.Ren:=⟨fun|144=>33|143=>66|219=>128|217=>171|225=>172|224=>173|267=>174|266=>202|314=>203|n=>n,fun|9=>9|4=>4|3=>3|5=>5|46=>58|146=>214|51=>30|n=>n,fun|1=>0|n=>n⟩
theorem Tryz.lays144:Go.Proofs.Lays.n144 Tryz.prog Tryz.lays144_ren:={
 mixed:=by kernel_rfl
 f143:=Tryz.func66.trans zCs
 f144:=Tryz.func33.trans zCs
 f217:=Tryz.func171.trans zCs
 f219:=Tryz.func128.trans zCs
 f224:=Tryz.func173.trans zCs
 f225:=Tryz.func172.trans zCs
 f266:=Tryz.func202.trans zCs
 f267:=Tryz.func174.trans zCs
 f314:=Tryz.func203.trans zCs
 t3:=Tryz.underlying3
 a3:=Tryz.isAgg3
 z3:=Tryz.sizeOf3
 v3:=Tryz.zeroValue3
 t4:=Tryz.underlying4
 a4:=Tryz.isAgg4
 z4:=Tryz.sizeOf4
 v4:=Tryz.zeroValue4
 t5:=Tryz.underlying5
 a5:=Tryz.isAgg5
 z5:=Tryz.sizeOf5
 v5:=Tryz.zeroValue5
 t9:=Tryz.underlying9
 a9:=Tryz.isAgg9
 z9:=Tryz.sizeOf9
 v9:=Tryz.zeroValue9
 t46:=Tryz.underlying58
 a46:=Tryz.isAgg58
 z46:=Tryz.sizeOf58
 v46:=Tryz.zeroValue58
 t51:=Tryz.underlying30
 a51:=Tryz.isAgg30
 z51:=Tryz.sizeOf30
 v51:=Tryz.zeroValue30
 t146:=Tryz.underlying214
 a146:=Tryz.isAgg214
 z146:=Tryz.sizeOf214
 v146:=Tryz.zeroValue214
 g1:=by kernel_rfl }
open Go.RowKit Go.Lib in
theorem Tryz.strings_Contains(s sub:ByteArray)(m:Int)(w:World)(hs:s.size<4294967281)(hm:w.cell? ⟨0,0,none⟩=some (.int .i64 m)) :
  Calls Tryz.prog 33 #[.string s,.string sub] w λe w'=>e=.returned (.bool (Lib.contains s.data.toList sub.data.toList))/\w'=w:=Any.strings_Contains Tryz.lays144 s sub m w hs hm
def Tryz.lays145_ren:Go.Shelf.Ren:=⟨fun|145=>155|220=>191|219=>128|217=>171|225=>172|224=>173|267=>174|266=>202|314=>203|n=>n,fun|9=>9|4=>4|59=>181|3=>3|5=>5|46=>58|146=>214|51=>30|n=>n,fun|1=>0|n=>n⟩
theorem Tryz.lays145:Go.Proofs.Lays.n145 Tryz.prog Tryz.lays145_ren:={
 mixed:=by kernel_rfl
 f145:=Tryz.func155.trans zCs
 f217:=Tryz.func171.trans zCs
 f219:=Tryz.func128.trans zCs
 f220:=Tryz.func191.trans zCs
 f224:=Tryz.func173.trans zCs
 f225:=Tryz.func172.trans zCs
 f266:=Tryz.func202.trans zCs
 f267:=Tryz.func174.trans zCs
 f314:=Tryz.func203.trans zCs
 t3:=Tryz.underlying3
 a3:=Tryz.isAgg3
 z3:=Tryz.sizeOf3
 v3:=Tryz.zeroValue3
 t4:=Tryz.underlying4
 a4:=Tryz.isAgg4
 z4:=Tryz.sizeOf4
 v4:=Tryz.zeroValue4
 t5:=Tryz.underlying5
 a5:=Tryz.isAgg5
 z5:=Tryz.sizeOf5
 v5:=Tryz.zeroValue5
 t9:=Tryz.underlying9
 a9:=Tryz.isAgg9
 z9:=Tryz.sizeOf9
 v9:=Tryz.zeroValue9
 t46:=Tryz.underlying58
 a46:=Tryz.isAgg58
 z46:=Tryz.sizeOf58
 v46:=Tryz.zeroValue58
 t51:=Tryz.underlying30
 a51:=Tryz.isAgg30
 z51:=Tryz.sizeOf30
 v51:=Tryz.zeroValue30
 t59:=Tryz.underlying181
 a59:=Tryz.isAgg181
 z59:=Tryz.sizeOf181
 v59:=Tryz.zeroValue181
 t146:=Tryz.underlying214
 a146:=Tryz.isAgg214
 z146:=Tryz.sizeOf214
 v146:=Tryz.zeroValue214
 g1:=by kernel_rfl }
open Go.RowKit Go.Lib in
theorem Tryz.strings_Cut(s sep:ByteArray)(m:Int)(w:World)(hs:s.size<4294967281)(hm:w.cell? ⟨0,0,none⟩=some (.int .i64 m)) :
  Calls Tryz.prog 155 #[.string s,.string sep] w λe w'=>e=.returned (.tuple #[.string ⟨(Lib.cut s.data.toList sep.data.toList).1.toArray⟩,.string ⟨(Lib.cut s.data.toList sep.data.toList).2.1.toArray⟩,.bool (Lib.cut s.data.toList sep.data.toList).2.2])/\∃ n,w'=w.drewN n:=Any.strings_Cut Tryz.lays145 s sep m w hs hm
def Tryz.lays138_ren:Go.Shelf.Ren:=⟨fun|138=>59|195=>118|218=>119|143=>66|219=>128|217=>171|225=>172|224=>173|267=>174|266=>202|314=>203|n=>n,fun|9=>9|3=>3|4=>4|5=>5|0=>0|46=>58|146=>214|51=>30|n=>n,fun|1=>0|n=>n⟩
theorem Tryz.lays138:Go.Proofs.Lays.n138 Tryz.prog Tryz.lays138_ren:={
 mixed:=by kernel_rfl
 f138:=Tryz.func59.trans zCs
 f143:=Tryz.func66.trans zCs
 f195:=Tryz.func118.trans zCs
 f217:=Tryz.func171.trans zCs
 f218:=Tryz.func119.trans zCs
 f219:=Tryz.func128.trans zCs
 f224:=Tryz.func173.trans zCs
 f225:=Tryz.func172.trans zCs
 f266:=Tryz.func202.trans zCs
 f267:=Tryz.func174.trans zCs
 f314:=Tryz.func203.trans zCs
 t0:=Tryz.underlying0
 a0:=Tryz.isAgg0
 z0:=Tryz.sizeOf0
 v0:=Tryz.zeroValue0
 t3:=Tryz.underlying3
 a3:=Tryz.isAgg3
 z3:=Tryz.sizeOf3
 v3:=Tryz.zeroValue3
 t4:=Tryz.underlying4
 a4:=Tryz.isAgg4
 z4:=Tryz.sizeOf4
 v4:=Tryz.zeroValue4
 t5:=Tryz.underlying5
 a5:=Tryz.isAgg5
 z5:=Tryz.sizeOf5
 v5:=Tryz.zeroValue5
 t9:=Tryz.underlying9
 a9:=Tryz.isAgg9
 z9:=Tryz.sizeOf9
 v9:=Tryz.zeroValue9
 t46:=Tryz.underlying58
 a46:=Tryz.isAgg58
 z46:=Tryz.sizeOf58
 v46:=Tryz.zeroValue58
 t51:=Tryz.underlying30
 a51:=Tryz.isAgg30
 z51:=Tryz.sizeOf30
 v51:=Tryz.zeroValue30
 t146:=Tryz.underlying214
 a146:=Tryz.isAgg214
 z146:=Tryz.sizeOf214
 v146:=Tryz.zeroValue214
 g1:=by kernel_rfl }
open Go.RowKit Go.Lib in
theorem Tryz.strings_Count_one(s:ByteArray)(c:UInt8)(w:World) :
  Calls Tryz.prog 59 #[.string s,.string ⟨#[c]⟩] w λe w'=>e=.returned (.int .i64 (Lib.countByte s.data.toList c))/\w'=w:=Any.strings_Count_one Tryz.lays138 s c w
def Tryz.lays99_ren:Go.Shelf.Ren:=⟨fun|99=>108|206=>163|n=>n,fun|9=>9|4=>4|3=>3|n=>n,fun|n=>n⟩
theorem Tryz.lays99:Go.Proofs.Lays.n99 Tryz.prog Tryz.lays99_ren:={
 mixed:=by kernel_rfl
 f99:=Tryz.func108.trans zCs
 f206:=Tryz.func163.trans zCs
 t3:=Tryz.underlying3
 a3:=Tryz.isAgg3
 z3:=Tryz.sizeOf3
 v3:=Tryz.zeroValue3
 t4:=Tryz.underlying4
 a4:=Tryz.isAgg4
 z4:=Tryz.sizeOf4
 v4:=Tryz.zeroValue4
 t9:=Tryz.underlying9
 a9:=Tryz.isAgg9
 z9:=Tryz.sizeOf9
 v9:=Tryz.zeroValue9 }
open Go.RowKit Go.Lib in
theorem Tryz.strings_HasPrefix(s p:ByteArray)(w:World) :
  Calls Tryz.prog 108 #[.string s,.string p] w λe w'=>e=.returned (.bool (Lib.hasPrefix s.data.toList p.data.toList))/\w'=w:=Any.strings_HasPrefix Tryz.lays99 s p w
def Tryz.lays146_ren:Go.Shelf.Ren:=⟨fun|146=>154|221=>190|268=>211|138=>59|143=>66|195=>118|197=>243|218=>119|219=>128|260=>260|217=>171|225=>172|224=>173|267=>174|266=>202|314=>203|n=>n,fun|9=>9|31=>32|3=>3|4=>4|0=>0|105=>248|21=>21|5=>5|46=>58|119=>269|139=>272|138=>271|146=>214|51=>30|n=>n,fun|1=>0|3=>4|4=>5|n=>n⟩
theorem Tryz.lays146:Go.Proofs.Lays.n146 Tryz.prog Tryz.lays146_ren:={
 mixed:=by kernel_rfl
 f138:=Tryz.func59.trans zCs
 f143:=Tryz.func66.trans zCs
 f146:=Tryz.func154.trans zCs
 f195:=Tryz.func118.trans zCs
 f197:=Tryz.func243.trans zCs
 f217:=Tryz.func171.trans zCs
 f218:=Tryz.func119.trans zCs
 f219:=Tryz.func128.trans zCs
 f221:=Tryz.func190.trans zCs
 f224:=Tryz.func173.trans zCs
 f225:=Tryz.func172.trans zCs
 f260:=Tryz.func260.trans zCs
 f266:=Tryz.func202.trans zCs
 f267:=Tryz.func174.trans zCs
 f268:=Tryz.func211.trans zCs
 f314:=Tryz.func203.trans zCs
 t0:=Tryz.underlying0
 a0:=Tryz.isAgg0
 z0:=Tryz.sizeOf0
 v0:=Tryz.zeroValue0
 t3:=Tryz.underlying3
 a3:=Tryz.isAgg3
 z3:=Tryz.sizeOf3
 v3:=Tryz.zeroValue3
 t4:=Tryz.underlying4
 a4:=Tryz.isAgg4
 z4:=Tryz.sizeOf4
 v4:=Tryz.zeroValue4
 t5:=Tryz.underlying5
 a5:=Tryz.isAgg5
 z5:=Tryz.sizeOf5
 v5:=Tryz.zeroValue5
 t9:=Tryz.underlying9
 a9:=Tryz.isAgg9
 z9:=Tryz.sizeOf9
 v9:=Tryz.zeroValue9
 t21:=Tryz.underlying21
 a21:=Tryz.isAgg21
 z21:=Tryz.sizeOf21
 v21:=Tryz.zeroValue21
 t31:=Tryz.underlying32
 a31:=Tryz.isAgg32
 z31:=Tryz.sizeOf32
 v31:=Tryz.zeroValue32
 t46:=Tryz.underlying58
 a46:=Tryz.isAgg58
 z46:=Tryz.sizeOf58
 v46:=Tryz.zeroValue58
 t51:=Tryz.underlying30
 a51:=Tryz.isAgg30
 z51:=Tryz.sizeOf30
 v51:=Tryz.zeroValue30
 t105:=Tryz.underlying248
 a105:=Tryz.isAgg248
 z105:=Tryz.sizeOf248
 v105:=Tryz.zeroValue248
 t119:=Tryz.underlying269
 a119:=Tryz.isAgg269
 z119:=Tryz.sizeOf269
 t138:=Tryz.underlying271
 a138:=Tryz.isAgg271
 z138:=Tryz.sizeOf271
 v138:=Tryz.zeroValue271
 t139:=Tryz.underlying272
 a139:=Tryz.isAgg272
 z139:=Tryz.sizeOf272
 v139:=Tryz.zeroValue272
 t146:=Tryz.underlying214
 a146:=Tryz.isAgg214
 z146:=Tryz.sizeOf214
 v146:=Tryz.zeroValue214
 g1:=by kernel_rfl
 g3:=by kernel_rfl
 g4:=by kernel_rfl }
open Go.RowKit Go.Lib in
theorem Tryz.strings_Split(s sep:ByteArray)(m:Int)(w:World)(hs:s.size<4294967281)(hm:w.cell? ⟨0,0,none⟩=some (.int .i64 m))(h1:1<=sep.size) :
  Calls Tryz.prog 154 #[.string s,.string sep] w λe w'=>
   e=.returned (.slice (some ⟨w.heap.size,0,none⟩) (Lib.countB s sep+1) (Lib.countB s sep+1))/\w'=w.alloc (.cells ((Lib.splitB sep 0 (Lib.countB s sep) s).map Value.string).toArray 9):=Any.strings_Split Tryz.lays146 zk s sep m w hs hm h1
end Go.Proofs
namespace Go.Proofs.YtkihibnffkpnkaaGreatDoor
open Go.GL Go.RowKit Go.Stele
attribute [local irreducible] LOps qag qae LCalls Go.GL.Pure qaz qam qad
section
variable{B0:Nat}{w0:World}
theorem qgd{f:FuncId} [TEnter Tryz.prog f](p:UInt8->Bool)(hp:∀ c:UInt8,LCalls (KC B0 w0) f [int .u8 c.toNat] [] (Ret (bool (p c))))(s:List UInt8)(hs:s.length<=1000000000) :
  LCalls (KC B0 w0) 109 [str s,.atom (.func (.func f) #[] #[])] [] (Ret (str (s.takeWhile p))):=by
 refine zcI Tryz.func109 rfl (n:=22) rfl rfl rfl ?_;refine gac ?_
 refine zoL (λk l H=>∃ m:Nat,k=s.length-m/\l=[(0,str s),(1,.atom (.func (.func f) #[] #[])),(5,int .i64 m)]/\H=[]/\m<=s.length/\s.takeWhile p=s.take m++(s.drop m).takeWhile p)
  ⟨_,_,_,⟨0,rfl,rfl,rfl,by omega,by simp⟩,⟨rfl,rfl,rfl,trivial⟩,zhR _⟩ ?_
 rintro k l H ⟨m,rfl,rfl,rfl,hm,hI⟩ j hj;refine gaa ?_;refine zoB 10 rfl (λht=>?_) (λht=>?_);have hlt:m<s.length:=by simpa using ht
 refine gaj ?_;refine oP (pI (c:=s[m]) rfl rfl zo (by simp)) rfl<|LOps.want rfl rfl ?_;refine oS (S.fnV [_] rfl rfl (hp s[m]) ?_) rfl;refine gab ?_;refine zoC rfl (λhc=>?_) (λhc=>?_);refine gac ?_;exact⟨_,_,_,by omega,⟨m+1,rfl,rfl,rfl,by omega,(qgt hlt hI).1 (by simpa using hc)⟩,⟨rfl,rfl,qap zo,trivial⟩,zhR _,hj⟩;refine gac ?_;refine oP (Pure.sslice (i:=0) (j:=m) rfl rfl ⟨_,rfl⟩ zo zo zo) rfl<|gaf ?_
 exact qac hj (zra rfl) (by
  rw[(qgt hlt hI).2 (by simpa using hc)]
  simp[qbJ])
 have hge:s.length<=m:=by simpa using ht
 refine gab ?_;refine zoC rfl (λhc=>?_) (λhc=>?_);cases hc;refine gac ?_;refine oP (Pure.sslice (i:=0) (j:=m) rfl rfl ⟨_,rfl⟩ zo zo zo) rfl<|gaf ?_
 exact qac hj (zra rfl) (by
  rw[qlC hge hI]
  simp[qbJ])
theorem qgq(s p:List UInt8):LCalls (KC B0 w0) 108 [str s,str p] [] (Ret (bool (p.isPrefixOf s))):=
 LCalls.ret_of (vs:=[.string ⟨s.toArray⟩,.string ⟨p.toArray⟩]) λw _=>(Go.Proofs.Tryz.strings_HasPrefix _ _ w).mono λe w' he=>by
  obtain⟨h1,h2⟩:=he;subst h2;exact⟨by simpa [Go.Lib.hasPrefix] using h1,Below.refl _ _⟩
theorem qsI(s:List UInt8)(hs:s.length<=1000000000):LCalls (KC B0 w0) 57 [str s] [] (Ret (int .i64 (qbp s))):=by
 refine zcI Tryz.func57 rfl (n:=11) rfl rfl rfl ?_;refine gao ?_;refine oS (sF [_,_] rfl (qgq s [47,47]) ?_) rfl;refine gaf ?_;refine zoC rfl (λhc=>?_) (λhc=>?_);refine gag ?_;refine oS (sF [_,_] rfl (qgd qv8 qqh s hs) ?_) rfl;refine gad ?_;exact qac rfl (zra rfl) (by simp only[qbJ,qbp,hc,if_true]);refine gac ?_;refine oS (sF [_,_] rfl (qgd qdz qqP s hs) ?_) rfl;refine gad ?_;exact qac rfl (zra rfl) (by simp only[qbJ,qbp,hc,Bool.false_eq_true,if_false])
end
end Go.Proofs.YtkihibnffkpnkaaGreatDoor
namespace Go.Proofs.YtkihibnffkpnkaaGreatDoor
open Go Go.Shelf Go.RowKit Go.Sort Go.Lib
set_option maxHeartbeats 6400000
variable{i op:Nat}
theorem qjR (u : Nat) (hu64 : u < 18446744073709551616) (w : World) (htab : Lib.TabIs Tryz.prog w "internal/strconv.uint64pow10" .u64 Lib.pow10Tab) :
  Calls Tryz.prog 197 #[.int .u64 u,.int .i64 10] w λe w'=>e=.returned (.string ⟨(Lib.decDigits u).toArray⟩)/\Below w.heap.size w w':=by
 have mixed:Tryz.prog.follows .mixedOrders=true:=by kernel_rfl
 have t3:=Tryz.underlying3;have a3:=Tryz.isAgg3;have z3:=Tryz.sizeOf3;have v3:=Tryz.zeroValue3;have t9:=Tryz.underlying9;have a9:=Tryz.isAgg9;have z9:=Tryz.sizeOf9;have v9:=Tryz.zeroValue9;have t4:=Tryz.underlying4;have a4:=Tryz.isAgg4;have z4:=Tryz.sizeOf4;have v4:=Tryz.zeroValue4;have t142:=Tryz.underlying233;have a142:=Tryz.isAgg233;have z142:=Tryz.sizeOf233;have v142:=Tryz.zeroValue233;have t0:=Tryz.underlying0;have a0:=Tryz.isAgg0;have z0:=Tryz.sizeOf0;have v0:=Tryz.zeroValue0;have t119:=Tryz.underlying186;have a119:=Tryz.isAgg186;have z119:=Tryz.sizeOf186;have v119:=Tryz.zeroValue186;have t85:=Tryz.underlying59;have a85:=Tryz.isAgg59;have z85:=Tryz.sizeOf59;have v85:=Tryz.zeroValue59;have t5:=Tryz.underlying5;have a5:=Tryz.isAgg5;have z5:=Tryz.sizeOf5;have v5:=Tryz.zeroValue5;have e137:∀ args w,(callFunc 226 args).run Tryz.prog w=.ok (.enter 226 args) w:=enters_of Tryz.func226 zk rfl;have e138:∀ args w,(callFunc 227 args).run Tryz.prog w=.ok (.enter 227 args) w:=enters_of Tryz.func227 zk rfl;have e139:∀ args w,(callFunc 228 args).run Tryz.prog w=.ok (.enter 228 args) w:=enters_of Tryz.func228 zk rfl
 by_cases hs:u<100
 go_enter Tryz.func197,Tryz.ntmps197
 go_wp2_with (go_at_fn (226);refine(Tryz.internal_strconv_small u hs _).mono ?_;rintro e w' ⟨rfl,rfl⟩)
 go_ret
 exact⟨rfl,Below.refl _ _⟩;have hu1:1<=u:=by omega
 have hnd20:Lib.nDigits u<=20:=by have:=Lib.numDigits_eq u hu1 hu64;split at this <;> omega
 have hal:Tryz.prog.arrayLen 233=24:=by simp[Program.arrayLen,Tryz.underlying233]
 have hsl:∀ W,(Instr.sliceAt 233 (.pointer (some ⟨w.heap.size,0,none⟩)) none (some (.int .i64 (Lib.nDigits u:Int))) none).run Tryz.prog W=.ok (.slice (some ⟨w.heap.size,0,none⟩) (Lib.nDigits u) 24) W:=λW=>by
  rw[run_sliceAt_array_h W 233 ⟨w.heap.size,0,none⟩ (by simp[Program.arrayLen,Program.elem,Tryz.underlying233]) .i64 (Lib.nDigits u:Int) (by omega) (by rw[hal];omega)]
  go_simp
 have hH0:=Lib.holds_zero0 w 233 (Lib.nDigits u) (by omega);have hfmt:=Tryz.internal_strconv_formatBase10 w.heap.size 0 24 u (Array.replicate (Lib.nDigits u) 0) (w.alloc (.cells Lib.zeros24 233)) hH0 (by rw[Array.size_replicate];exact Lib.lt_pow_nDigits u) hu64 (by rw[Array.size_replicate];omega);rw[Array.size_replicate] at hfmt;have HH0:=Lib.hid hH0;clear hH0 hal
 go_enter Tryz.func197,Tryz.ntmps197
 go_wp2_with (first
  |(go_at_fn (227);refine(Tryz.internal_strconv_numDigits u hu1 hu64 _ (Lib.tabIs_alloc htab _)).mono ?_;rintro e w' ⟨rfl,rfl⟩))
 go_at_fn (228)
 refine hfmt.mono ?_;rintro e w' ⟨rfl,k,v',dk,rfl,hF⟩
 have hcv:(convert 59 9 (.slice (some ⟨w.heap.size,0,none⟩) (Lib.nDigits u) 24)).run Tryz.prog ((putRow (λ(b:UInt8)=>Value.int .u8 (b.toNat:Int)) (w.alloc (.cells Lib.zeros24 233)) w.heap.size 0 dk).drewN k)=.ok (.string ⟨(Lib.decDigits u).toArray⟩) ((putRow (λ(b:UInt8)=>Value.int .u8 (b.toNat:Int)) (w.alloc (.cells Lib.zeros24 233)) w.heap.size 0 dk).drewN k):=by
  have h:=run_convert_bytes_back (P:=Tryz.prog) ((putRow (λ(b:UInt8)=>Value.int .u8 (b.toNat:Int)) (w.alloc (.cells Lib.zeros24 233)) w.heap.size 0 dk).drewN k) 59 9 5 ⟨w.heap.size,0,none⟩ 24 (Lib.decDigits u) Tryz.underlying59 Tryz.underlying5 Tryz.underlying9 (λj hj=>by
   rw[Lib.row_is_numeral hF j hj,Lib.add_plain,World.cell?_drewN]
   exact cell?_putRow (λ(b:UInt8)=>Value.int .u8 (b.toNat:Int)) _ w.heap.size 0 _ dk HH0.out (by rw[hF.size,Array.size_replicate]) j (by rw[hF.size];rw[Lib.decDigits_length] at hj;exact hj))
  rw[Lib.decDigits_length] at h;exact h
 go_wp2
 go_ret
 refine⟨rfl,?_⟩;obtain⟨os,eo⟩:=Lib.fin_at w (.cells Lib.zeros24 233) dk k 0;rw[eo];exact Lib.below_grow _ w (zNr _) k os
open Go.GL Go.RowKit Go.Stele
attribute [local irreducible] LOps qag qae LCalls Go.GL.Pure qaz qam qad
structure GW(B0:Nat)(w0:World):Prop where
 pow10 : Go.Lib.TabIs Tryz.prog w0 "internal/strconv.uint64pow10" .u64 Go.Lib.pow10Tab
 errRange : ∃ tp p, w0.var? Tryz.prog "strconv.ErrRange" = some #[.iface tp p]
 big:8<=B0
section
variable{B0:Nat}{w0:World}
theorem GW.tab (h : GW B0 w0) {w : World} (hb : Below B0 w0 w) : Go.Lib.TabIs Tryz.prog w "internal/strconv.uint64pow10" .u64 Go.Lib.pow10Tab := by
 have hg : Tryz.prog.globalNamed "internal/strconv.uint64pow10" = some 3 := by kernel_rfl
 exact var?_below hb hg (Nat.lt_of_lt_of_le zDd h.big) h.pow10
theorem GW.err (h : GW B0 w0) {w : World} (hb : Below B0 w0 w) : ∃ tp p, w.var? Tryz.prog "strconv.ErrRange" = some #[.iface tp p] := by
 have hg : Tryz.prog.globalNamed "strconv.ErrRange" = some 2 := by kernel_rfl
 obtain⟨tp,p,hv⟩:=h.errRange;exact⟨tp,p,var?_below hb hg (Nat.lt_of_lt_of_le zDd h.big) hv⟩
theorem qdr(hG:GW B0 w0)(u:Nat)(hu:u<=9223372036854775807):LCalls (KC B0 w0) 168 [int .i64 u] [] (Ret (str (Go.Lib.decDigits u))):=
 LCalls.ret_of (vs:=[.int .i64 u]) λw hw=>(Go.Proofs.Tryz.strconv_Itoa u zo zo w (hG.tab hw)).mono λe w' he=>by
  obtain⟨h1,k,os,h2⟩:=he;rw[Go.Lib.itoa_nonneg] at h1;exact⟨h1,by rw[h2];exact Go.Lib.below_grow _ w (zNr _) k os⟩
theorem fmtUint_spec(hG:GW B0 w0)(u:Nat)(hu:u<18446744073709551616):LCalls (KC B0 w0) 165 [int .u64 u,int .i64 10] [] (Ret (str (Go.Lib.decDigits u))):=by
 refine zcI Tryz.func165 rfl (n:=8) rfl rfl rfl ?_;refine gao ?_;refine oS (sF [_,_] rfl (LCalls.ret_of (vs:=[.int .u64 u,.int .i64 10]) λw hw=>qjR u hu w (hG.tab hw)) ?_) rfl;refine gaf ?_;exact qac rfl (zra rfl) rfl
theorem qiv(s:List UInt8)(hs:s.length<=1000000000)(u:Nat)(h:Go.Lib.parseUintB 32 s=.ok u) :
  LCalls (KC B0 w0) 164 [str s,int .i64 10,int .i64 32] [] (Ret (.tuple [int .u64 u,.atom .nilIface])):=by
 refine LCalls.mono (LCalls.of_belowT (vs:=[.string ⟨s.toArray⟩,.int .i64 10,.int .i64 32]) (p:=λus=>us=[.int .u64 u,.nilIface]) λw hw=>?_) ?_;refine(Go.Proofs.Tryz.strconv_ParseUint_10_at32_ok ⟨s.toArray⟩ ?_ u (by simpa using h) w).mono λe w' he=>⟨_,he.1,rfl,?_⟩;show s.toArray.size<=_
 simp
 omega;rcases he.2 with h2|h2;rw[h2];exact Below.refl _ _;rw[h2];exact⟨rfl,rfl,rfl,by rw[Go.Lib.bytesWorld_size];omega,λk hk=>Go.Lib.bytesWorld_at_old w 5 _ k hk⟩;rintro r H ⟨v,rfl,⟨us,rfl,rfl⟩,rfl⟩;exact⟨rfl,rfl⟩
theorem qkj(hG:GW B0 w0)(s:List UInt8)(hs:s.length<=1000000000)(h:Go.Lib.parseUintB 32 s=.range) :
  LCalls (KC B0 w0) 164 [str s,int .i64 10,int .i64 32] [] (qgY λlv=>∃ v t p,lv=.tuple [int .u64 v,.atom (.iface t p)]):=by
 refine LCalls.mono (LCalls.of_belowT (vs:=[.string ⟨s.toArray⟩,.int .i64 10,.int .i64 32]) (p:=λus=>∃ v t p,us=[.int .u64 v,.iface t p]) λw hw=>?_) ?_;obtain⟨tp,p,hv⟩:=hG.err hw;refine(Go.Proofs.Tryz.strconv_ParseUint_10_at32_range_var ⟨s.toArray⟩ ?_ (by simpa using h) tp p w hv).mono λe w' he=>?_;show s.toArray.size<=_
 simp
 omega;obtain⟨N,h1,_,_,h4⟩:=he;exact⟨_,h1,⟨_,_,_,rfl⟩,h4⟩;rintro r H ⟨v,rfl,⟨us,⟨a,t,p,rfl⟩,rfl⟩,rfl⟩;exact⟨_,rfl,⟨a,t,p,rfl⟩,rfl⟩
theorem qiz(s:List UInt8):LCalls (KC B0 w0) 59 [str s,str [10]] [] (Ret (int .i64 (s.count 10))):=
 LCalls.ret_of (vs:=[.string ⟨s.toArray⟩,.string ⟨#[10]⟩]) λw _=>(Go.Proofs.Tryz.strings_Count_one _ _ w).mono λe w' he=>by
  obtain⟨h1,h2⟩:=he;subst h2;exact⟨by simpa [Go.Lib.countByte] using h1,Below.refl _ _⟩
end
variable{T:List Tok}
def qdt(t:Tok):LV:=.agg [int .i64 t.kind,str t.text,int .i64 t.line]
def qlA(r:TokR):LV:=.tuple [qdt r.1,int .i64 r.2.1,int .i64 r.2.2]
theorem qaY(l:List (List UInt8)):qdA 1 (l.map str):=λv hv=>by
 obtain⟨x,_,rfl⟩:=List.mem_map.1 hv;exact⟨rfl,rfl⟩
section
variable{B0:Nat}{w0:World}
theorem qhl:LCalls (KC B0 w0) 167 [] [] (Ret (.list (qdn.map str))):=by
 refine zcI Tryz.func167 rfl (n:=2) rfl rfl rfl ?_;refine gar ?_;refine oS (sL [_,_,_,_,_,_,_,_] rfl (qaY qdn) rfl rfl rfl ?_) rfl;refine gad ?_;exact qac rfl (rC (rT (v:=.list _) rfl zsr) rN) rfl
theorem qqj:LCalls (KC B0 w0) 117 [] [] (Ret (.list (qcO.map str))):=by
 refine zcI Tryz.func117 rfl (n:=2) rfl rfl rfl ?_;refine gar ?_;refine oS (sL [_,_,_,_,_,_,_,_,_,_,_,_,_,_,_,_,_,_,_,_,_,_,_,_] rfl (qaY qcO) rfl rfl rfl ?_) rfl;refine gad ?_;exact qac rfl (rC (rT (v:=.list _) rfl zsr) rN) rfl
theorem qqF(l:List (List UInt8))(x:List UInt8)(hl:l.length<=1000000000):LCalls (KC B0 w0) 169 [.list (l.map str),str x] [] (qgY λlv=>∃ n:Int,lv=int .i64 n/\decide (0<=n)=l.contains x):=by
 refine zcI Tryz.func169 rfl (n:=19) rfl rfl rfl ?_;refine gaa ?_
 refine zoL (λk ls H=>∃ m:Nat,k=l.length-m/\ls=[(0,.list (l.map str)),(1,str x),(7,int .i64 (l.map str).length),(8,int .i64 m)]/\H=[]/\m<=l.length/\l.contains x=(l.drop m).contains x)
  ⟨_,_,_,⟨0,rfl,rfl,rfl,by omega,by simp⟩,⟨rfl,rfl,rfl,rfl,trivial⟩,zhR _⟩ ?_
 rintro k ls H ⟨m,rfl,rfl,rfl,hm,hI⟩ j hj;refine gai ?_;refine zoC rfl (λhc=>?_) (λhc=>?_);have hlt:m<l.length:=by simpa using hc
 refine gac ?_;refine oP (xR (el':=str l[m]) rfl rfl zo (by simp) rfl rfl) rfl<|gad ?_;refine zoC rfl (λhe=>?_) (λhe=>?_);refine gac ?_;have hx:x=l[m]:=by simpa using he
 exact qcl hj (zra rfl) ⟨m,rfl,by
  rw[hx,decide_eq_true zo]
  simp⟩
 refine gac ?_;have hx:¬ x=l[m]:=by simpa using he
 exact⟨_,_,_,by omega,⟨m+1,rfl,rfl,rfl,by omega,by
  rw[hI,List.drop_eq_getElem_cons hlt,List.contains_cons]
  simp[hx]⟩,⟨rfl,rfl,rfl,qap zo,trivial⟩,zhR _,hj⟩
 have hge:l.length<=m:=by simpa using hc
 refine gac ?_
 exact qcl hj (zra rfl) ⟨-1,rfl,by
  rw[hI,List.drop_eq_nil_of_le hge]
  rfl⟩
theorem qdP(l:List (List UInt8))(x:List UInt8)(hl:l.length<=1000000000):LCalls (KC B0 w0) 120 [.list (l.map str),str x] [] (Ret (bool (l.contains x))):=by
 refine zcI Tryz.func120 rfl (n:=9) rfl rfl rfl ?_;refine gac ?_;refine oS (S.fnIf [_,_] rfl (qqF l x hl) ?_) rfl;rintro lv ⟨n,rfl,hn⟩;refine gad ?_;exact qac rfl (zra rfl) (by rw[<-hn];rfl)
theorem qsv(s:List UInt8)(hs:s.length<=1000000000):LCalls (KC B0 w0) 115 [str s] [] (Ret (qlA (qfF s))):=by
 refine zcI Tryz.func115 rfl (n:=21) rfl rfl rfl ?_;refine gah ?_;refine oS (zsA λb=>?_) rfl;refine gao ?_;refine oS (sF [_,_] rfl (qgd qaW qqy s hs) ?_) rfl;refine gaa ?_;refine zoC rfl (λhc=>?_) (λhc=>?_);refine gaa ?_
 exact qac rfl (rC (rA rfl zm0 rfl zsr) (rC (zrt rfl) (zra rfl))) (by
  rw[qfF,zp (by have:=zt hc;omega)]
  rfl)
 refine gac ?_;refine oS (sF [] rfl qhl ?_) rfl;refine gaj ?_;refine oS (sF [_,_] rfl (qdP qdn (s.takeWhile qaW) zDd) ?_) rfl;refine gaf ?_;refine zoC rfl (λhk=>?_) (λhk=>?_);refine gaa ?_
 exact qac rfl (rC (rA rfl zm0 rfl zsr) (rC (zrt rfl) (zra rfl))) (by
  rw[qfF,zn (by have:=zf hc;omega),zp hk]
  rfl)
 refine gaa ?_
 exact qac rfl (rC (rA rfl zm0 rfl zsr) (rC (zrt rfl) (zra rfl))) (by
  rw[qfF,zn (by have:=zf hc;omega),zn (by rw[hk];decide)]
  rfl)
end
theorem qif(M:Nat)(acc:Nat)(l:List UInt8)(h:∀ c∈l,qao c=true):Go.Lib.parseUintM M acc l=.range∨∃ u,Go.Lib.parseUintM M acc l=.ok u:=by
 induction l generalizing acc with
 |nil=>exact .inr ⟨acc,rfl⟩
 |cons c r ih=>
  have hc:=h c List.mem_cons_self;simp only[qao,zBa,zDe,cv] at hc;rw[Go.Lib.parseUintM,zp zo];split;exact .inl rfl;split;exact .inl rfl;exact ih _ (λc hc=>h c (zMo _ hc))
theorem qiF(M:Nat)(acc:Nat)(l:List UInt8)(ha:acc<=M){u:Nat}(h:Go.Lib.parseUintM M acc l=.ok u):u<=M:=by
 induction l generalizing acc with
 |nil=>simp only[Go.Lib.parseUintM,Go.Lib.NumEnd.ok.injEq] at h;omega
 |cons c r ih=>
  rw[Go.Lib.parseUintM] at h;split at h;split at h;cases h;split at h;cases h;exact ih _ zo h;cases h
theorem qiC(s:List UInt8)(hne:s.takeWhile qao≠[]):Go.Lib.parseUintB 32 (s.takeWhile qao)=.range∨∃ u,u<18446744073709551616/\Go.Lib.parseUintB 32 (s.takeWhile qao)=.ok u:=by
 unfold Go.Lib.parseUintB;rw[zn hne]
 have hall:∀ (s:List UInt8),∀ c∈s.takeWhile qao,qao c=true:=λs c hc=>by
  induction s with
  |nil=>cases hc
  |cons a r ih=>
   by_cases ha:qao a=true
   rw[List.takeWhile_cons_of_pos ha] at hc;rcases zMi.1 hc with rfl|hc;exact ha;exact ih hc;rw[List.takeWhile_cons_of_neg ha] at hc;cases hc
 rcases qif (2 ^ 32-1) 0 (s.takeWhile qao) (hall s) with h|⟨u,h⟩;exact .inl h;have:=qiF _ _ _ zo h;exact .inr ⟨u,by omega,h⟩
instance:TIface zTp 71:=.of zk
section
variable{B0:Nat}{w0:World}
theorem qdf(hG:GW B0 w0)(s:List UInt8)(hs:s.length<=1000000000)(hne:s.takeWhile qao≠[]):LCalls (KC B0 w0) 113 [str s] [] (Ret (qlA (qdq s))):=by
 refine zcI Tryz.func113 rfl (n:=43) rfl rfl rfl ?_;refine gah ?_;refine oS (zsA λb=>?_) rfl;refine gao ?_;refine oS (sF [_,_] rfl (qgd qao qhG s hs) ?_) rfl;refine gaa ?_;refine LOps.cut [(0,str s),(2,ptr b 0),(5,str (s.takeWhile qao)),(28,bool (qdm s (s.takeWhile qao).length))] ?_ (λj hj=>?_);refine zoB 17 rfl (λht=>?_) (λht=>?_);have hlt:(s.takeWhile qao).length<s.length:=by simpa using ht
 have hw:qdm s (s.takeWhile qao).length=(qaV s[(s.takeWhile qao).length] || decide (cv s[(s.takeWhile qao).length]=95)):=by
  rw[qdm,List.getElem?_eq_getElem hlt]
 refine gaj ?_;refine oP (pI (c:=s[(s.takeWhile qao).length]) rfl rfl zo (by simp)) rfl<|LOps.want rfl rfl ?_;refine oS (sF [_] rfl (qgK _) ?_) rfl;refine gaj ?_;refine zoB 22 rfl (λhl=>?_) (λhl=>?_);refine gab ?_;exact⟨⟨rfl,rfl,rfl,qau (by rw[hw,hl];rfl),trivial⟩,rfl,rfl⟩;refine gaj ?_;refine oP (pI (c:=s[(s.takeWhile qao).length]) rfl rfl zo (by simp)) rfl<|gab ?_;exact⟨⟨rfl,rfl,rfl,qau (by rw[hw,hl];rfl),trivial⟩,rfl,rfl⟩;have hge:s.length<=(s.takeWhile qao).length:=by simpa using ht
 refine gad ?_;exact⟨⟨rfl,rfl,rfl,qau (by rw[qdm,List.getElem?_eq_none hge]),trivial⟩,rfl,rfl⟩
 skip
 refine zoC rfl (λhc=>?_) (λhc=>?_);refine gaa ?_
 exact qac hj (rC (rA rfl zm0 rfl zsr) (rC (zrt rfl) (zra rfl))) (by
  rw[qdq,zp hc]
  rfl)
 refine gac ?_;rcases qiC s hne with hp|⟨u,hu,hp⟩;refine oS (S.fnIf [_,_,_] rfl (qkj hG (s.takeWhile qao) (zNt (List.takeWhile_prefix qao).length_le hs) hp) ?_) rfl;rintro lv ⟨v,t,p,rfl⟩;refine gaa ?_;refine zoC rfl (λhc=>?_) (λhc=>?_);refine gaa ?_
 exact qac hj (rC (rA rfl zm0 rfl zsr) (rC (zrt rfl) (zra rfl))) (by
  rw[qdq,zn (by rw[‹qdm s _=false›];decide),hp]
  rfl)
 cases hc;refine oS (sF [_,_,_] rfl (qiv (s.takeWhile qao) (zNt (List.takeWhile_prefix qao).length_le hs) u hp) ?_) rfl;refine gaa ?_;refine zoC rfl (λhc=>?_) (λhc=>?_);cases hc;refine gac ?_;refine oS (sF [_,_] rfl (fmtUint_spec hG u hu) ?_) rfl;refine gad ?_
 exact qac hj (rC (rA rfl zm0 rfl zsr) (rC (zrt rfl) (zra rfl))) (by
  rw[qdq,zn (by rw[‹qdm s _=false›];decide),hp]
  rfl)
theorem qno(hG:GW B0 w0)(s:List UInt8)(hs:s.length<=1000000000):LCalls (KC B0 w0) 116 [str s] [] (Ret (qlA (qcr s))):=by
 by_cases h3:s.length<3
 have hl:qcr s=qcb 3:=by
  match s,h3 with
  |[],_=>rfl
  |[_],_=>rfl
  |[_,_],_=>rfl
 refine zcI Tryz.func116 rfl (n:=39) rfl rfl rfl ?_;refine gah ?_;refine oS (zsA λb=>?_) rfl;refine gaa ?_;refine zoB 8 rfl (λht=>?_) (λht=>?_);refine gab ?_;refine zoC rfl (λhc=>?_) (λhc=>?_);refine gaa ?_;exact qac rfl (rC (rA rfl zm0 rfl zsr) (rC (zrt rfl) (zra rfl))) (by rw[hl];rfl);cases hc;exact absurd (zf ht) zo
 match s,h3 with
 |[],h=>exact absurd (by simp) h
 |[_],h=>exact absurd (by simp) h
 |[_,_],h=>exact absurd (by simp) h
 |x::c1::c2::r,h=>
  refine zcI Tryz.func116 rfl (n:=39) rfl rfl rfl ?_;refine gah ?_;refine oS (zsA λb=>?_) rfl;refine gaa ?_;refine LOps.cut [(0,str (x::c1::c2::r)),(2,ptr b 0),(32,bool ((!decide (cv c2=39)) || decide (cv c1<32) || decide (126<cv c1) || decide (cv c1=39) || decide (cv c1=92)))] ?_ (λj hj=>?_)
  ·refine zoB 8 rfl (λht=>?_) (λht0=>?_);exact absurd (zt ht) (by simp only[zLc];omega)
   skip
   refine oP (pI (c:=c2) rfl rfl zDd rfl) rfl<|gad ?_;refine zoB 13 rfl (λht=>?_) (λht1=>?_);refine gab ?_;exact⟨⟨rfl,rfl,qau (by rw[ht];rfl),trivial⟩,rfl,rfl⟩;refine zQ50 ?_;refine gab ?_;refine zoB 18 rfl (λht=>?_) (λht2=>?_);refine gab ?_;exact⟨⟨rfl,rfl,qau (by rw[ht1,ht];rfl),trivial⟩,rfl,rfl⟩;refine zQ50 ?_;refine gad ?_;refine zoB 23 rfl (λht=>?_) (λht3=>?_);refine gab ?_;exact⟨⟨rfl,rfl,qau (by rw[ht1,ht2,ht];rfl),trivial⟩,rfl,rfl⟩;refine zQ50 ?_;refine gab ?_;refine zoB 28 rfl (λht=>?_) (λht4=>?_);refine gab ?_;exact⟨⟨rfl,rfl,qau (by rw[ht1,ht2,ht3,ht];rfl),trivial⟩,rfl,rfl⟩;refine zQ50 ?_;refine gab ?_;exact⟨⟨rfl,rfl,qau (by rw[ht1,ht2,ht3,ht4];rfl),trivial⟩,rfl,rfl⟩
  skip
  refine zoC rfl (λhc=>?_) (λhc=>?_);refine gaa ?_;exact qac hj (rC (rA rfl zm0 rfl zsr) (rC (zrt rfl) (zra rfl))) (by rw[qcr,zp hc];rfl);refine gac ?_;refine oP (pI (c:=c1) rfl rfl zDd rfl) rfl<|oP (Pure.cvt rfl) rfl ?_;have hw:IntKind.i64.wrap (c1.toNat:Int)=((c1.toNat:Nat):Int):=qff (by have:=c1.toNat_lt;omega);rw[hw];refine oS (sF [_] rfl (qdr hG c1.toNat (by have:=c1.toNat_lt;omega)) ?_) rfl;refine gad ?_;exact qac hj (rC (rA rfl zm0 rfl zsr) (rC (zrt rfl) (zra rfl))) (by rw[qcr,zn (by rw[hc];decide)];rfl)
theorem qqr(hG:GW B0 w0)(s:List UInt8)(hs:s.length<=1000000000)(hne:s≠[]):LCalls (KC B0 w0) 58 [str s] [] (Ret (qlA (qaw s))):=by
 match s,hne with
 |c::r,_=>
  refine zcI Tryz.func58 rfl (n:=49) rfl rfl rfl ?_;refine gah ?_;refine oS (zsA λb=>?_) rfl;refine gac ?_;refine oP (pI (c:=c) rfl rfl zDd rfl) rfl<|oS (sF [_] rfl (qhG c) ?_) rfl;refine gaf ?_;refine zoC rfl (λhc=>?_) (λhc=>?_);refine gag ?_;refine oS (sF [_] rfl (qdf hG (c::r) hs (by rw[List.takeWhile_cons_of_pos hc];simp)) ?_) rfl;refine gad ?_;exact qac rfl (rC (rA rfl zm0 rfl zsr) (rC (zrt rfl) (zra rfl))) (by simp only[qaw,hc,if_true];rfl);refine gag ?_;refine oP (pI (c:=c) rfl rfl zDd rfl) rfl<|oS (sF [_] rfl (qgK c) ?_) rfl;refine gaf ?_;refine zoC rfl (λhl=>?_) (λhl=>?_);refine gag ?_;refine oS (sF [_] rfl (qsv (c::r) hs) ?_) rfl;refine gad ?_;exact qac rfl (rC (rA rfl zm0 rfl zsr) (rC (zrt rfl) (zra rfl))) (by simp only[qaw,hc,hl,if_true,Bool.false_eq_true,if_false];rfl);refine gag ?_;refine oP (pI (c:=c) rfl rfl zDd rfl) rfl<|gab ?_;refine zoC rfl (λhq=>?_) (λhq=>?_);refine gag ?_;refine oS (sF [_] rfl (qno hG (c::r) hs) ?_) rfl;refine gad ?_;exact qac rfl (rC (rA rfl zm0 rfl zsr) (rC (zrt rfl) (zra rfl))) (by simp only[qaw,hc,hl,Bool.false_eq_true,if_false];rw[zp hq];rfl);have htok:qaw (c::r)=qgx (c::r):=by simp only[qaw,hc,hl,Bool.false_eq_true,if_false];rw[zn (by rw[hq];decide)]
  refine gac ?_;refine oS (sF [] rfl qqj ?_) rfl;refine gad ?_
  refine zoL (λk ls H=>∃ m:Nat,k=qcO.length-m/\ls=[(0,str (c::r)),(2,ptr b 0),(34,.list (qcO.map str)),(35,int .i64 24),(36,int .i64 m)]/\H=[(b,.cells 100 [int .i64 0,str [],int .i64 0])]/\m<=24/\qcO.find? (λx=>x.isPrefixOf (c::r))=(qcO.drop m).find? (λx=>x.isPrefixOf (c::r)))
   ⟨_,_,_,⟨0,rfl,rfl,rfl,by omega,by simp⟩,⟨rfl,rfl,rfl,rfl,rfl,trivial⟩,zhR _⟩ ?_
  rintro k ls H ⟨m,rfl,rfl,rfl,hm,hI⟩ j hj;have h24:qcO.length=24:=rfl;refine gai ?_;refine zoC rfl (λht=>?_) (λht=>?_);have hlt:m<qcO.length:=by have:=zt ht;omega
  refine gak ?_;refine oP (xR (el':=str qcO[m]) rfl rfl zo (by simp) rfl rfl) rfl<|gaa ?_;refine oS (sF [_,_] rfl (qgq (c::r) qcO[m]) ?_) rfl;refine gaf ?_;refine zoC rfl (λhp=>?_) (λhp=>?_);refine gaa ?_
  exact qac hj (rC (rA rfl zm0 rfl zsr) (rC (zrt rfl) (zra rfl))) (by
   rw[htok,qgx,hI,List.drop_eq_getElem_cons hlt,List.find?_cons_of_pos (by simpa using hp)]
   rfl)
  refine gac ?_
  exact⟨_,_,_,by omega,⟨m+1,rfl,rfl,rfl,by omega,by
   rw[hI,List.drop_eq_getElem_cons hlt,List.find?_cons_of_neg (by rw[hp];decide)]⟩,⟨rfl,rfl,rfl,rfl,qap zo,trivial⟩,zhR _,hj⟩
  have hge:qcO.length<=m:=by have:=zf ht;omega
  refine gaa ?_
  exact qac hj (rC (rA rfl zm0 rfl zsr) (rC (zrt rfl) (zra rfl))) (by
   rw[htok,qgx,hI,List.drop_eq_nil_of_le hge]
   rfl)
end
def qc5(s:List UInt8):Except (Int×Int) (List Tok):=if 60000<s.length then .error (0,6) else lexP s.length s 1
def qpu:Except (Int×Int) (List Tok)->LV
 |.ok T=>.tuple [.list (T.map qdt),int .i64 0,int .i64 0]
 |.error (l,e)=>.tuple [.list [],int .i64 l,int .i64 e]
theorem qqA{A B D:Type}(f:A->B)(h:B->D)(r:Except (Int×Int) A):(r.map f).map h=r.map (λx=>h (f x)):=by cases r <;> rfl
section
variable{B0:Nat}{w0:World}
theorem qpT(hG:GW B0 w0)(s:List UInt8):LCalls (KC B0 w0) 30 [str s] [] (Ret (qpu (qc5 s))):=by
 refine zcI Tryz.func30 rfl (n:=49) rfl rfl rfl ?_;refine gaa ?_;refine zoC rfl (λhc=>?_) (λhc=>?_);refine gap ?_
 exact qac rfl (rC (rT (v:=qab) rfl vN) (rC (zrt rfl) (zra rfl))) (by
  rw[qc5,zp (by have:=zt hc;omega)]
  rfl)
 have hlen:s.length<=60000:=by have:=zf hc;omega
 refine gac ?_
 refine zoL (λk ls H=>∃ (v:LV) (out:List Tok) (rest:List UInt8) (line:Int) (fuel:Nat),k=rest.length/\ls=[(5,v),(6,int .i64 line),(7,str rest)]/\Acc 3 v (out.map qdt) H [] /\
   rest.length<=fuel/\0<=line/\line+rest.length<=60001/\out.length+rest.length<=60000/\lexP s.length s 1=(lexP fuel rest line).map (out++·))
  ⟨_,_,_,⟨qab,[],s,1,s.length,rfl,rfl,Acc.nil,by omega,by omega,by omega,by simp;omega,by cases lexP s.length s 1 <;> rfl⟩,⟨rfl,rfl,rfl,trivial⟩,zhR _⟩ ?_
 rintro k ls H ⟨v,out,rest,line,fuel,rfl,rfl,hacc,hf,hl0,hl1,ho,hI⟩ j hj;refine gaa ?_;refine zoC rfl (λhne=>?_) (λhne=>?_);have hrest:rest≠[]:=by simpa using hne
 obtain⟨f,rfl⟩:∃ f,fuel=f+1:=⟨fuel-1,by
  have:0<rest.length:=List.length_pos_iff.2 hrest
  omega⟩
 rw[lexP,zn hrest] at hI;have hsk:=qkF rest;refine gac ?_;refine oS (sF [_] rfl (qsI rest zo) ?_) rfl;refine gac ?_;refine zoC rfl (λhz=>?_) (λhz=>?_);have hz':qbp rest=0:=by have:=zt hz;omega
 rw[zp hz'] at hI;refine gag ?_;refine oS (sF [_] rfl (qqr hG rest zo hrest) ?_) rfl;refine gad ?_;refine oS (zsA λb=>?_) rfl;refine gaa ?_;refine zoC rfl (λhe=>?_) (λhe=>?_);have he':(qaw rest).2.2≠0:=by simpa using he
 rw[zp he'] at hI;refine gac ?_
 exact qac hj (rC (rT (v:=qab) rfl vN) (rC (zrt rfl) (zra rfl))) (by
  rw[qc5,zn zo,hI]
  rfl)
 have he':(qaw rest).2.2=0:=by simpa using he
 rw[zn (by simpa using he')] at hI;obtain⟨hs0,hs1⟩:=qfd rest he';refine gaa ?_;refine zQ14 ?_;refine gad ?_;refine zQ0 ?_;refine LOps.weak (zhD zhr) ?_;refine oS (S.acc rfl hacc rfl (by simp;rfl) rfl (by simp;omega) λv' H' hacc'=>?_) rfl;refine zQ19 ?_;refine gao ?_;refine oP (Pure.sslice (i:=0) (j:=(qaw rest).2.1) rfl rfl ⟨_,rfl⟩ zo zo zo) rfl<|oS (sF [_,_] rfl (qiz _) ?_) rfl;have hcnt:(List.drop (Int.toNat 0) (List.take ((qaw rest).2.1:Int).toNat rest)).count 10<=(qaw rest).2.1:=zNt List.count_le_length (by simp;omega);refine gac ?_;refine oP (Pure.sslice (i:=(qaw rest).2.1) (j:=rest.length) rfl ⟨_,rfl⟩ rfl zo zo zo) rfl<|gab ?_
 have hacc2:Acc 3 v' ((out++[{ (qaw rest).1 with line:=line }]).map qdt) H' []:=by
  rw[zMa];exact hacc'
 exact⟨_,_,_,by simp only[length_drop];omega,⟨v',out++[{ (qaw rest).1 with line:=line }],rest.drop (qaw rest).2.1,line+((rest.take (qaw rest).2.1).count 10:Nat),f,rfl,rfl,hacc2,
  by simp only[length_drop];omega,by omega,by simp only[length_drop];simp at hcnt;omega,by simp only[length_drop,zLa,List.length_singleton];omega,by
   rw[hI,qqA];congr 1;funext x
   simp⟩,⟨rfl,qap (by simp),qmT (by simp),trivial⟩,zhR _,hj⟩
 have hz':¬ qbp rest=0:=by have:=zf hz;omega
 rw[zn hz'] at hI;refine gac ?_;refine oP (Pure.sslice (i:=0) (j:=qbp rest) rfl rfl ⟨_,rfl⟩ zo zo zo) rfl<|oS (sF [_,_] rfl (qiz _) ?_) rfl;have hcnt:(List.drop (Int.toNat 0) (List.take (qbp rest:Int).toNat rest)).count 10<=qbp rest:=zNt List.count_le_length (by simp;omega);refine gac ?_;refine oP (Pure.sslice (i:=qbp rest) (j:=rest.length) rfl ⟨_,rfl⟩ rfl zo zo zo) rfl<|gab ?_
 exact⟨_,_,_,by simp only[length_drop];omega,⟨v,out,rest.drop (qbp rest),line+((rest.take (qbp rest)).count 10:Nat),f,rfl,rfl,hacc,
   by simp only[length_drop];omega,by omega,by simp only[length_drop];simp at hcnt;omega,by simp only[length_drop];omega,hI⟩,⟨rfl,qap (by simp),qmT (by simp),trivial⟩,zhR _,hj⟩
 have hrest:rest=[]:=by simpa using hne
 refine gac ?_;refine zQ30 ?_
 exact qac hj (rC (rT (v:=v) rfl hacc.sub) (rC (zrt rfl) (zra rfl))) (by
  rw[qc5,zn zo,hI,hrest]
  cases fuel <;> simp[lexP,Except.map,qpu,qbJ])
end
attribute [local irreducible] LQ LAny qaI qan
@[reducible] def srcH(sb:Nat)(T:List Tok)(i op:Nat):Nat×LObj:=(sb,.cells 82 [.list (T.map qdt),int .i64 i,int .i64 op])
def pan(l e:Int):List PanicEntry:=[{ v:=.iface 78 (.agg #[.int .i64 l,.int .i64 e]),recovered:=false }]
def qdy{A:Type}(sb:Nat)(T:List Tok)(enc:A->LV)(res:Res A)(r:LRes)(H:Heap):Prop:=match res with
 |.ok v i op=>r=.ret (enc v)/\H=[srcH sb T i op]
 |.err l e=>r=.panic (pan l e)/\∃ i op:Nat,H=[srcH sb T i op]
def encU:Unit->LV:=λ_=>.tuple []
theorem qbj{A:Type}(f:A->LV)(l:List A)(i:Nat)(h:i<l.length):(l.map f)[((i:Nat):Int).toNat]? = some (f l[i]):=by
 rw[Int.toNat_natCast,List.getElem?_map,List.getElem?_eq_getElem h];rfl
section
variable{B0:Nat}{w0:World}
theorem qcp(sb:Nat)(T:List Tok)(i op:Nat)(xs:List (List UInt8))(hT:T.length<=100000)(hi:i<=1000000)(hx:xs.length<=1000) :
  LCalls (KC B0 w0) 60 [ptr sb 0,.list (xs.map str)] [srcH sb T i op] (λr H=>r=.ret (bool (isTok T i xs))/\H=[srcH sb T i op]):=by
 refine zcI Tryz.func60 rfl (n:=40) rfl rfl rfl ?_;refine gar ?_;refine zcC [(0,ptr sb 0),(1,.list (xs.map str)),(15,bool (decide (T.length<=i)))] ?_ (λj hj=>?_);refine zQ29 ?_;exact⟨⟨rfl,rfl,qau (by rw[decide_eq_decide];simp),trivial⟩,rfl,rfl⟩
 skip
 refine zoC rfl (λhc=>?_) (λhc=>?_);refine gap ?_;exact rR hj (zra rfl) zhr ⟨by rw[isTok,List.getElem?_eq_none (zt hc)];rfl,rfl⟩;have hlt:i<T.length:=by have:=zf hc;omega
 refine gab ?_;refine cD (m:=12) rfl [srcH sb T i op]<|zQ9 ?_;refine aT 3 rfl rfl (pL (c:=.list _) rfl zm0 rfl)<|aT 4 rfl rfl (pM (lv:=.atom _) rfl)<|aT 5 rfl rfl (pN rfl)<|aT 6 rfl rfl (pF rfl)<|aT 7 rfl rfl (pL (c:=.atom _) rfl zm0 rfl)<|LAny.take (i:=8) zhr rfl zk zk zk rfl (xR (el':=qdt T[i]) (cs:=[_,_,_]) rfl rfl zo (qbj _ _ _ hlt) rfl rfl)<|aT 9 rfl rfl (pR (cs':=[_,_,_]) rfl rfl rfl)<|aL ?_ zhr;refine lO 10 (lS (H1:=[]) (F:=[srcH sb T i op]) rfl (.inl rfl) rfl zpr zhr (zsA λb=>?_));refine lO 11 (lS (H1:=[(b,_)]) (F:=[srcH sb T i op]) rfl (.inl rfl) rfl zpr zhr (sS (cs':=[_,_,_]) rfl pH rfl rfl rfl rfl rfl ?_));refine lD zk ?_;refine gac ?_;have hsp:isTok T i xs=((decide (T[i].kind=3) || decide (T[i].kind=4)) && xs.contains T[i].text):=by rw[isTok,List.getElem?_eq_getElem hlt]
 rw[hsp];refine zoB 29 rfl (λh3=>?_) (λh3=>?_);refine gab ?_;refine oS (sF [_,_] rfl (qdP xs T[i].text zo) ?_) rfl;refine gab ?_;exact rR hj (zra rfl) (zhD zhr) ⟨by rw[h3];rfl,rfl⟩;refine gab ?_;refine zoB 34 rfl (λh4=>?_) (λh4=>?_);refine gab ?_;refine oS (sF [_,_] rfl (qdP xs T[i].text zo) ?_) rfl;refine gab ?_;exact rR hj (zra rfl) (zhD zhr) ⟨by rw[h3,h4];rfl,rfl⟩;refine gab ?_;exact rR hj (zra rfl) (zhD zhr) ⟨by rw[h3,h4];rfl,rfl⟩
end
section steps
variable{C:Ctx}{e:Env}{H:Heap}{dst:Option Nat}{ty:TypeId}{pos:String}{aft:Array Edge}{g:Option (Nat×Bool)}{K:LV->Heap->Prop}{X:List PanicEntry->Heap->Prop}
theorem sH{f:FuncId} [TEnter C.P f](args:List Operand){ats:Array TypeId}{av:List LV}{lv:LV}{p p':Nat×LObj}{F:Heap}(has:args.map e.ev=av)(hp:Pick p H F)(hc:LCalls C f av [p] (λr H=>r=.ret lv/\H=[p']))(hk:K lv (p'::F)) :
  qae C ⟨dst,.call { callee:=.value (.func f),args:=args.toArray,argTypes:=ats },ty,pos,aft,g⟩ e H K X:=
 S.call1 args has hp hc (by rintro v H' ⟨h,rfl⟩;cases h;exact hk) (by rintro ch H' ⟨h,_⟩;cases h)
theorem sP{A:Type}{enc:A->LV}{res:Res A}{sb:Nat}{f:FuncId} [TEnter C.P f](args:List Operand){ats:Array TypeId}{av:List LV}{F:Heap}(has:args.map e.ev=av)(hp:Pick (srcH sb T i op) H F)
  (hc:LCalls C f av [srcH sb T i op] (qdy sb T enc res)) (hk:∀ v i' op',res=.ok v i' op'->K (enc v) (srcH sb T i' op'::F)) (hx:∀ l er i' op',res=.err l er->X (pan l er) (srcH sb T i' op'::F)) :
  qae C ⟨dst,.call { callee:=.value (.func f),args:=args.toArray,argTypes:=ats },ty,pos,aft,g⟩ e H K X:=by
 refine S.call1 args has hp hc ?_ ?_;intro v H' h
 cases hr:res with
 |ok u i' op'=>
  rw[hr] at h;obtain⟨h1,rfl⟩:=h;cases h1
  exact hk _ _ _ hr
 |err l er=>
  rw[hr] at h;obtain⟨h1,_⟩:=h;cases h1
 intro ch H' h
 cases hr:res with
 |ok u i' op'=>
  rw[hr] at h;obtain⟨h1,_⟩:=h
  cases h1
 |err l er=>
  rw[hr] at h;obtain⟨h1,i',op',rfl⟩:=h;cases h1;exact hx _ _ _ _ hr
theorem retP{A:Type}{enc:A->LV}{res:Res A}{sb:Nat}{n:Nat}{rs:List ResultVar}{vs:List LV}{v:A}(hd:e.ds=[])(h:qbX C n e H rs vs)(hr:res=.ok v i op)(hv:qbJ vs=enc v)(hH:HSub [srcH sb T i op] H) :
  qad C n rs (qdy sb T enc res) .ret e H:=rR hd h hH (by rw[hr];exact⟨by rw[hv],rfl⟩)
theorem qwW{A:Type}{enc:A->LV}{res:Res A}{sb:Nat}{n:Nat}{rs:List ResultVar}{vs:List LV}{v:A}(hd:e.ds=[])(h:qbX C n e H rs vs)(hr:res=.ok v i op)(hv:qbJ vs=enc v)(hH:HSub [srcH sb T i op] H) :
  qad C n rs (qdy sb T enc res) .normal e H:=rO hd h hH (by rw[hr];exact⟨by rw[hv],rfl⟩)
theorem panP{A:Type}{enc:A->LV}{res:Res A}{sb:Nat}{n:Nat}{rs:List ResultVar}{l er:Int}(hd:e.ds=[])(hr:res=.err l er)(hH:HSub [srcH sb T i op] H) :
  qad C n rs (qdy sb T enc res) (.panic (pan l er)) e H:=qad.panic hd hH (by rw[hr];exact⟨rfl,i,op,rfl⟩)
end steps
section
variable{B0:Nat}{w0:World}
theorem qfP{A:Type}(enc:A->LV)(sb:Nat)(T:List Tok)(i op:Nat)(er:Int)(hT:T.length<=100000)(hi:i<=1000000) :
  LCalls (KC B0 w0) 65 [ptr sb 0,int .i64 er] [srcH sb T i op] (qdy sb T enc (.err (qf3 T i) er)):=by
 have hml:(T.map qdt).length=T.length:=zLm _;refine zcI Tryz.func65 rfl (n:=31) rfl rfl rfl ?_;refine gaa ?_;refine zcC [(0,ptr sb 0),(1,int .i64 er),(4,int .i64 (qf3 T i))] ?_ (λj hj=>?_);refine zoC rfl (λhc=>?_) (λhc=>?_);have hpos:0<T.length:=by have:=zt hc;simp at this;omega
 have hmin:min i (T.length-1)<T.length:=by omega
 have hmv:(if ((T.map qdt).length:Int)-1<(i:Int) then ((T.map qdt).length:Int)-1 else (i:Int))=((min i (T.length-1):Nat):Int):=by
  rw[zLm];split <;> omega
 refine zQ29 ?_;refine qP (xR (n:=((min i (T.length-1):Nat):Int)) (el':=qdt T[min i (T.length-1)]) (cs:=[_,_,_]) rfl (congrArg (int .i64) hmv) zo (qbj _ _ _ hmin) rfl rfl) rfl ?_;refine gad ?_;exact⟨⟨rfl,rfl,qap (by rw[qf3,List.getElem?_eq_getElem hmin]),trivial⟩,rfl,rfl⟩
 have hz:T=[]:=by
  have:=zf hc;exact List.length_eq_zero_iff.1 zo
 refine gab ?_;exact⟨⟨rfl,rfl,qap (by rw[qf3,hz];rfl),trivial⟩,rfl,rfl⟩;refine gaa ?_;refine oS (qae.panic rfl λe' he'=>?_) rfl;exact panP (he'.trans hj) rfl zhr
theorem qcD(sb:Nat)(T:List Tok)(i op:Nat)(x:List UInt8)(hT:T.length<=100000)(hi:i<=1000000) :
  LCalls (KC B0 w0) 62 [ptr sb 0,str x] [srcH sb T i op] (λr H=>r=.ret (bool (isTok T i [x]))/\H=[srcH sb T (if isTok T i [x] then i+1 else i) op]):=by
 refine zcI Tryz.func62 rfl (n:=17) rfl rfl rfl ?_;refine gao ?_;refine zQ0 ?_;refine oS (sH [_,_] rfl pH (qcp sb T i op [x] hT hi (by simp)) ?_) rfl;refine gad ?_;refine zoC rfl (λhc=>?_) (λhc=>?_);have h:isTok T i [x]=false:=by simpa using hc
 refine gap ?_;exact rR rfl (zra rfl) zhr ⟨by rw[h];rfl,by rw[h];rfl⟩;have h:isTok T i [x]=true:=by simpa using hc
 refine gaa ?_;exact rR rfl (zra rfl) zhr ⟨by rw[h];rfl,by rw[h];rfl⟩
theorem qd1(sb:Nat)(T:List Tok)(i op:Nat)(x:List UInt8)(hT:T.length<=100000)(hi:i<=1000000) :
  LCalls (KC B0 w0) 122 [ptr sb 0,str x] [srcH sb T i op] (qdy sb T encU (qdu T x i op)):=by
 refine zcI Tryz.func122 rfl (n:=10) rfl rfl rfl ?_;refine gag ?_;refine oS (sH [_,_] rfl pH (qcD sb T i op x hT hi) ?_) rfl;refine gad ?_;refine zoC rfl (λhc=>?_) (λhc=>?_);have h:isTok T i [x]=false:=by simpa using hc
 simp only[h,Bool.false_eq_true,if_false];refine gag ?_;refine oS (sP [_,_] rfl pH (qfP encU sb T i op 3 hT hi) (λ_ _ _ h=>by cases h) (λl er i' op' h e' he'=>?_)) rfl;cases h;exact panP (he'.trans rfl) (by rw[qdu,h,zn zDd];rfl) zhr;have h:isTok T i [x]=true:=by simpa using hc
 simp only[h,if_true];refine gab ?_;exact qwW rfl rN (by rw[qdu,h,zp rfl]) rfl zhr
theorem qaQ(sb:Nat)(T:List Tok)(i op:Nat)(k:Int)(hT:T.length<=100000)(hi:i<=1000000) :
  LCalls (KC B0 w0) 123 [ptr sb 0,int .i64 k] [srcH sb T i op] (qdy sb T str (qc9 T k i op)):=by
 have hml:(T.map qdt).length=T.length:=zLm _;refine zcI Tryz.func123 rfl (n:=51) rfl rfl rfl ?_;refine gar ?_;refine zcC [(0,ptr sb 0),(1,int .i64 k),(29,bool (match T[i]? with|some t=>!decide (t.kind=k)|none=>true))] ?_ (λj hj=>?_);refine zQ29 ?_;refine LQ.bcase 15 rfl (λh=>?_) (λh=>?_);have hge:T.length<=i:=by have:=zt h;omega
 refine gad ?_;exact⟨⟨rfl,rfl,qau (by rw[List.getElem?_eq_none hge]),trivial⟩,rfl,rfl⟩;have hlt:i<T.length:=by have:=zf h;omega
 refine gad ?_;refine qP (xR (el':=qdt T[i]) (cs:=[_,_,_]) rfl rfl zo (qbj _ _ _ hlt) rfl rfl) rfl ?_;refine gad ?_;exact⟨⟨rfl,rfl,qau (by rw[List.getElem?_eq_getElem hlt]),trivial⟩,rfl,rfl⟩
 skip
 refine zoC rfl (λhc=>?_) (λhc=>?_)
 have hs:qc9 T k i op=qiu T i:=by
  unfold qc9
  cases hg:T[i]? with
  |none=>rfl
  |some t=>
   rw[hg] at hc;have:¬ t.kind=k:=by simpa using hc
   simp only;rw[zn this]
 refine gag ?_;refine oS (sP [_,_] rfl pH (qfP str sb T i op 3 hT hi) (λ_ _ _ h=>by cases h) (λl er i' op' h e' he'=>?_)) rfl;cases h;refine gal ?_;exact panP (he'.trans hj) hs zhr
 have hlt:i<T.length:=by
  rcases Nat.lt_or_ge i T.length with h|h;exact h;rw[List.getElem?_eq_none h] at hc;cases hc
 rw[List.getElem?_eq_getElem hlt] at hc;have hk:T[i].kind=k:=by simpa using hc
 have hs:qc9 T k i op=.ok T[i].text (i+1) op:=by rw[qc9,List.getElem?_eq_getElem hlt];simp only;rw[zp hk]
 refine gaa ?_;refine zcC [(0,ptr sb 0),(4,str T[i].text)] ?_ (λj2 hj2=>?_);refine zQ29 ?_;refine qP (xR (n:=((i:Nat):Int)) (el':=qdt T[i]) (cs:=[_,_,_]) rfl (qap zo) zo (qbj _ _ _ hlt) rfl rfl) rfl ?_;refine gad ?_;exact⟨⟨rfl,rfl,trivial⟩,rfl,rfl⟩;refine gaf ?_;exact retP (hj2.trans hj) (zra rfl) hs rfl zhr
theorem qcw(sb:Nat)(T:List Tok)(i op:Nat)(x:List UInt8)(hT:T.length<=100000)(hi:i<=1000000)(ho:op<=1000000) :
  LCalls (KC B0 w0) 124 [ptr sb 0,str x] [srcH sb T i op] (qdy sb T encU (qbW T x i op)):=by
 refine zcI Tryz.func124 rfl (n:=32) rfl rfl rfl ?_;refine gag ?_;refine zQ0 ?_;refine oS (sH [_,_] rfl pH (qcp sb T i op [x] hT hi (by simp)) ?_) rfl;refine gad ?_;refine zoC rfl (λhc=>?_) (λhc=>?_);have h:isTok T i [x]=false:=by simpa using hc
 refine gag ?_;refine oS (sP [_,_] rfl pH (qfP encU sb T i op 3 hT hi) (λ_ _ _ h=>by cases h) (λl er i' op' h' e' he'=>?_)) rfl;cases h';refine gal ?_;exact panP (he'.trans rfl) (by rw[qbW,h,zn zDd];rfl) zhr;have h:isTok T i [x]=true:=by simpa using hc
 refine gaa ?_;refine zoC rfl (λhd=>?_) (λhd=>?_);have hd':100<=op:=by have:=zt hd;omega
 refine gag ?_;refine oS (sP [_,_] rfl pH (qfP encU sb T i op 6 hT hi) (λ_ _ _ h=>by cases h) (λl er i' op' h' e' he'=>?_)) rfl;cases h';refine gal ?_;exact panP (he'.trans rfl) (by rw[qbW,h,zp rfl,zp hd']) zhr;have hd':¬ 100<=op:=by have:=zf hd;omega
 refine gaa ?_;exact qwW rfl rN (by rw[qbW,h,zp rfl,zn hd']) rfl zhr
theorem qfh(sb:Nat)(T:List Tok)(i op:Nat)(x:List UInt8)(hT:T.length<=100000)(hi:i<=1000000)(ho:op<=1000000)(h1:1<=op) :
  LCalls (KC B0 w0) 126 [ptr sb 0,str x] [srcH sb T i op] (qdy sb T encU (sEnd T x i op)):=by
 refine zcI Tryz.func126 rfl (n:=14) rfl rfl rfl ?_;refine gag ?_;refine oS (sP [_,_] rfl pH (qd1 sb T i op x hT hi) (λv i' op' h=>?_) (λl er i' op' h e' he'=>?_)) rfl
 have hop:op'=op:=by
  unfold qdu at h;split at h;cases h;rfl;cases h
 subst hop;refine gaa ?_;rw[show((op':Int)-1)=((op'-1:Nat):Int) by omega];exact qwW rfl rN (by rw[sEnd,h];rfl) rfl zhr;refine gal ?_;exact panP (he'.trans rfl) (by rw[sEnd,h];rfl) zhr
end
theorem qal{A B:Type}{v:A}{f:A->Nat->Nat->OR B}:qaD (some (.ok v i op)) f=f v i op:=rfl
theorem qat{A B:Type}{l e:Int}{f:A->Nat->Nat->OR B}:qaD (some (.err l e)) f=some (.err l e):=rfl
theorem qaS{A B:Type}{r:OR A}{f:A->Nat->Nat->OR B}{q:Res B}(h:qaD r f=some q):∃ r1,r=some r1:=by
 cases r with
 |none=>cases h
 |some r1=>exact⟨r1,rfl⟩
structure TOK(T:List Tok):Prop where
 len:T.length<=100000
 txt:∀ t∈T,t.text.length<=100000
 num:∀ t∈T,t.kind=1->∃ u,u<4294967296/\Go.Lib.parseUintB 32 t.text=.ok u
theorem quF{n:Int}(h:0<=n/\n<=4294967295):IntKind.u32.wrap n=n:=by
 simp only[IntKind.wrap,IntKind.bits,IntKind.signed,Bool.false_and]
 simp
 omega
theorem qdS{k:Int}{i' op':Nat}{s:List UInt8}(h:qc9 T k i op=.ok s i' op'):i'=i+1/\op'=op/\∃ t,T[i]? = some t/\t.kind=k/\t.text=s:=by
 unfold qc9 at h;split at h
 rename_i t ht
 split at h
 rename_i hk
 cases h;exact⟨rfl,rfl,t,ht,hk,rfl⟩;cases h;cases h
def qoQ(l:List (List UInt8)):LV:=.list (l.map str)
def encN(n:Nat):LV:=int .u32 n
def qlE(B0:Nat)(w0:World)(sb:Nat)(T:List Tok)(f:Nat):Prop:=
 ∀ i op r,i<=T.length->op<=100->eLev T f 0 i op=some r->LCalls (KC B0 w0) 199 [ptr sb 0] [srcH sb T i op] (qdy sb T encE r)
section
variable{B0:Nat}{w0:World}
theorem qio(hG:GW B0 w0)(sb:Nat)(T:List Tok)(hT:TOK T)(i op:Nat)(hi:i<=1000000):LCalls (KC B0 w0) 125 [ptr sb 0] [srcH sb T i op] (qdy sb T encN (qcQ T i op)):=by
 have hl:=hT.len;refine zcI Tryz.func125 rfl (n:=13) rfl rfl rfl ?_;refine gao ?_;refine oS (sP [_,_] rfl pH (qaQ sb T i op 1 hl hi) (λs i1 op1 h1=>?_) (λl er i1 op1 h1 e' he'=>?_)) rfl;obtain⟨rfl,rfl,t,ht,hk,rfl⟩:=qdS h1;have hmem:=List.mem_of_getElem? ht;obtain⟨u,hu,hp⟩:=hT.num t hmem hk;have htx:=hT.txt t hmem;have hn:qsy t.text=u:=by rw[qsy,hp]
 have hw:IntKind.u32.wrap (u:Int)=(u:Int):=quF zo;refine oS (sF [_,_,_] rfl (qiv t.text zo u hp) ?_) rfl;refine gaa ?_;exact retP (v:=qsy t.text) rfl (zra rfl) (by rw[qcQ,h1];rfl) (by rw[hn];exact qap hw) zhr;refine gal ?_;exact panP (he'.trans rfl) (by rw[qcQ,h1];rfl) zhr
theorem qi8(sb:Nat)(T:List Tok)(hT:TOK T)(f i op:Nat)(r:Res (List (List UInt8)))(hi:i<=T.length)(hr:qeo T f i op=some r) :
  LCalls (KC B0 w0) 121 [ptr sb 0] [srcH sb T i op] (qdy sb T qoQ r):=by
 have hl:=hT.len;rw[qeo] at hr;refine zcI Tryz.func121 rfl (n:=15) rfl rfl rfl ?_;refine gao ?_;refine oS (sP [_,_] rfl pH (qaQ sb T i op 2 hl zo) (λs i1 op1 h1=>?_) (λl er i1 op1 h1 e' he'=>?_)) rfl;rw[h1,qal] at hr
 have hi1:i1<=T.length:=by
  have:=qbK T 2 i op;rw[h1] at this;exact this.2.2.1 hi
 refine oS (S.litA [_] rfl (eC rfl rfl eN) rfl rfl rfl λb=>?_) rfl;refine gad ?_
 refine zoL (λk ls H=>∃ (v:LV) (l:List (List UInt8)) (i2:Nat) (Ha:Heap),ls=[(0,ptr sb 0),(3,v)]/\H=srcH sb T i2 op1::Ha/\Acc 1 v (l.map str) Ha []/\i2<=T.length/\l.length<=i2+1/\qaR T k l i2 op1=some r)
  ⟨f,_,srcH sb T i1 op1::[(b,.row 1)],⟨.app b 1 1 [str s],[s],i1,_,rfl,rfl,Acc.row,hi1,by simp,hr⟩,⟨rfl,rfl,trivial⟩,zhP zp1 zhr⟩ ?_
 rintro k ls H ⟨v,l,i2,Ha,rfl,rfl,hacc,hi2,hll,hI⟩ j hj
 obtain⟨k,rfl⟩:∃ k',k=k'+1:=by
  cases k with
  |zero=>rw[qaR] at hI;cases hI
  |succ k=>exact⟨k,rfl⟩
 rw[qaR] at hI;refine gag ?_;refine oS (sH [_,_] rfl pH (qcD sb T i2 op1 [44] hl zo) ?_) rfl;refine gaf ?_;refine zoC rfl (λhc=>?_) (λhc=>?_);have hlt:=qaH hc;rw[zp hc] at hI;simp only[hc,if_true];refine gak ?_;refine zQ14 ?_;refine gaj ?_;refine oS (sP [_,_] rfl pH (qaQ sb T (i2+1) op1 2 hl zo) (λs2 i3 op3 h3=>?_) (λl er i3 op3 h3 e' he'=>?_)) rfl;rw[h3,qal] at hI;obtain⟨rfl,rfl,t,ht,_,_⟩:=qdS h3;have:=qjK ht;refine zQ0 ?_;refine oS (S.acc1 rfl hacc rfl (by simp;rfl) rfl (by simp;omega) λv' H' hacc'=>?_) rfl;refine zQ19 ?_;refine gab ?_;exact⟨k,_,_,by omega,⟨v',l++[s2],i2+1+1,H',rfl,rfl,by rw[zMa];exact hacc',by omega,by simp;omega,hI⟩,⟨rfl,rfl,trivial⟩,zhR _,hj⟩;rw[h3,qat] at hI;refine gae ?_;exact panP (he'.trans hj) (by cases hI;rfl) zhp;have hc':isTok T i2 [[44]]=false:=hc;rw[zn (by rw[hc'];decide)] at hI;simp only[hc',Bool.false_eq_true,if_false];refine gac ?_;refine zQ30 ?_;exact retP (v:=l) hj (rC (rT (v:=v) rfl hacc.sub) rN) (by cases hI;rfl) rfl zhp;exact zT20
theorem qh8(sb:Nat)(T:List Tok)(hT:TOK T)(f:Nat)(hE:qlE B0 w0 sb T f)(i op:Nat)(r:Res Ex)(hi:i<=T.length)(ho:op<=100)(hr:qci T (f+1) i op=some r) :
  LCalls (KC B0 w0) 236 [ptr sb 0] [srcH sb T i op] (qdy sb T encE r):=by
 have hl:=hT.len;rw[qci] at hr;refine zcI Tryz.func236 rfl (n:=11) rfl rfl rfl ?_;refine gah ?_;refine oS (zsA λb=>?_) rfl;refine gam ?_;refine oS (sP [_,_] rfl zp1 (qcw sb T i op [91] hl zo zo) (λv i1 op1 h1=>?_) (λl er i1 op1 h1 e' he'=>?_)) rfl;rw[h1,qal] at hr;obtain⟨rfl,rfl,ho1,hi1⟩:=qbC h1;refine gam ?_;obtain⟨r1,hr1⟩:=qaS hr;refine oS (sP [_] rfl pH (hE _ _ r1 zo zo hr1) (λv i2 op2 h2=>?_) (λl er i2 op2 h2 e' he'=>?_)) rfl;rw[hr1,h2,qal] at hr;obtain⟨g1,_,g3,rfl⟩:=(qcU T f).1 0 _ _ _ (hr1.trans (congrArg some h2));have g4:=g3 zo;refine oS (zsA λb2=>?_) rfl;refine gaa ?_;refine oS (sP [_,_] rfl zp1 (qfh sb T i2 (op+1) [93] hl zo zo zo) (λu i3 op3 h3=>?_) (λl er i3 op3 h3 e' he'=>?_)) rfl;rw[h3,qal] at hr;refine gaa ?_;exact retP rfl (rC (rA rfl zm0 rfl zsr) rN) (by cases hr;rfl) rfl (zhD zhp);rw[h3,qat] at hr;refine gal ?_;exact panP (he'.trans rfl) (by cases hr;rfl) zhp;rw[hr1,h2,qat] at hr;refine gal ?_;exact panP (he'.trans rfl) (by cases hr;rfl) zhp;exact zT20
end
def encEL(l:List Ex):LV:=.list (l.map encE)
section
variable{B0:Nat}{w0:World}
theorem qmp(sb:Nat)(T:List Tok)(hT:TOK T)(f:Nat)(hE:∀ g,g<f->qlE B0 w0 sb T g)(i op:Nat)(r:Res (List Ex))(hi:i<=T.length)(ho:op<=100)(hr:qee T f i op=some r) :
  LCalls (KC B0 w0) 235 [ptr sb 0] [srcH sb T i op] (qdy sb T encEL r):=by
 have hl:=hT.len
 obtain⟨f,rfl⟩:∃ g,f=g+1:=by
  cases f with
  |zero=>rw[qee] at hr;cases hr
  |succ g=>exact⟨g,rfl⟩
 rw[qee] at hr;refine zcI Tryz.func235 rfl (n:=23) rfl rfl rfl ?_;refine gao ?_;refine oS (sP [_,_] rfl pH (qcw sb T i op [40] hl zo zo) (λv i1 op1 h1=>?_) (λl er i1 op1 h1 e' he'=>?_)) rfl;rw[h1,qal] at hr;obtain⟨rfl,rfl,ho1,hi1⟩:=qbC h1;refine gac ?_;obtain⟨r1,hr1⟩:=qaS hr
 refine zoL (λk ls H=>∃ (v:LV) (l:List Ex) (i2:Nat) (Ha:Heap),k<=f/\ls=[(0,ptr sb 0),(3,v)]/\H=srcH sb T i2 (op+1)::Ha/\Acc 4 v (l.map encE) Ha []/\i2<=T.length/\l.length<=i2+1/\qaP T k l i2 (op+1)=some r1)
  ⟨f,_,srcH sb T (i+1) (op+1)::[],⟨qab,[],i+1,_,zNr _,rfl,rfl,Acc.nil,by omega,by simp,hr1⟩,⟨rfl,rfl,trivial⟩,zhR _⟩ ?_
 rintro k ls H ⟨v,l,i2,Ha,hkf,rfl,rfl,hacc,hi2,hll,hI⟩ j hj
 obtain⟨k,rfl⟩:∃ k',k=k'+1:=by
  cases k with
  |zero=>rw[qaP] at hI;cases hI
  |succ k=>exact⟨k,rfl⟩
 rw[qaP] at hI;refine gag ?_;refine zQ0 ?_;refine oS (sH [_,_] rfl pH (qcp sb T i2 (op+1) [[41]] hl zo (by simp)) ?_) rfl;refine gad ?_;refine zoC rfl (λhc=>?_) (λhc=>?_);have hc':isTok T i2 [[41]]=false:=by simpa using hc
 rw[zn (by rw[hc'];decide)] at hI;refine gak ?_;refine zQ14 ?_;refine oP (Pure.llen hacc.elems) rfl<|gad ?_;refine zoC rfl (λhd=>?_) (λhd=>?_)
 have hl0:¬ l=[]:=by
  rintro rfl;have:=zt hd;simp at this
 rw[zn hl0] at hI;refine gag ?_;refine oS (sP [_,_] rfl pH (qd1 sb T i2 (op+1) [44] hl zo) (λu i3 op3 h3=>?_) (λl er i3 op3 h3 e' he'=>?_)) rfl;rw[h3,qal] at hI
 obtain⟨q1,q2,q3,rfl⟩:i2<=i3/\(true=true->i2<i3)/\(i2<=T.length->i3<=T.length)/\op3=op+1:=by
  have:=qbg T [44] i2 (op+1);rw[h3] at this;exact this
 have q4:=q3 hi2;refine gai ?_;refine zQ14 ?_;refine gaj ?_;obtain⟨r2,hr2⟩:=qaS hI;refine oS (sP [_] rfl pH (hE k zo _ _ r2 zo zo hr2) (λe2 i4 op4 h4=>?_) (λl er i4 op4 h4 e' he'=>?_)) rfl;exact zT9;rw[hr2,h4,qat] at hI;rw[hr1] at hr;cases hI;rw[qat] at hr;refine gae ?_;exact panP (he'.trans hj) (by cases hr;rfl) zhp;rw[h3,qat] at hI;rw[hr1] at hr;cases hI;rw[qat] at hr;refine gae ?_;exact panP (he'.trans hj) (by cases hr;rfl) zhp
 have hl0:l=[]:=by
  have:=zf hd;simp at this;exact this
 rw[zp hl0,qal] at hI;refine gak ?_;refine zQ14 ?_;refine gaj ?_;obtain⟨r2,hr2⟩:=qaS hI;refine oS (sP [_] rfl pH (hE k zo _ _ r2 zo zo hr2) (λe2 i4 op4 h4=>?_) (λl er i4 op4 h4 e' he'=>?_)) rfl;exact zT9;rw[hr2,h4,qat] at hI;rw[hr1] at hr;cases hI;rw[qat] at hr;refine gae ?_;exact panP (he'.trans hj) (by cases hr;rfl) zhp;have hc':isTok T i2 [[41]]=true:=by simpa using hc
 rw[zp hc'] at hI;refine gac ?_;rw[hr1] at hr;cases hI;rw[qal] at hr;refine oS (sP [_,_] rfl pH (qfh sb T i2 (op+1) [41] hl zo zo zo) (λu i3 op3 h3=>?_) (λl er i3 op3 h3 e' he'=>?_)) rfl;rw[h3,qal] at hr;refine gai ?_;refine zQ30 ?_;exact retP (v:=l) hj (rC (rT (v:=v) rfl hacc.sub) rN) (by cases hr;rfl) rfl zhp;rw[h3,qat] at hr;refine gal ?_;exact panP (he'.trans hj) (by cases hr;rfl) zhp;exact zT20
theorem qji(sb:Nat)(T:List Tok)(hT:TOK T)(f:Nat)(hE:∀ g,g<f->qlE B0 w0 sb T g)(i op:Nat)(r:Res Ex)(hi:i<=T.length)(ho:op<=100)(hr:qci T f i op=some r) :
  LCalls (KC B0 w0) 236 [ptr sb 0] [srcH sb T i op] (qdy sb T encE r):=by
 cases f with
 |zero=>rw[qci] at hr;cases hr
 |succ f=>exact qh8 sb T hT f (hE f zo) i op r hi ho hr
theorem qti(hG:GW B0 w0)(sb:Nat)(T:List Tok)(hT:TOK T)(f:Nat)(hE:∀ g,g<f->qlE B0 w0 sb T g)(i op:Nat)(r:Res Ex)(hi:i<=T.length)(ho:op<=100)(hr:qel T f i op=some r) :
  LCalls (KC B0 w0) 255 [ptr sb 0] [srcH sb T i op] (qdy sb T encE r):=by
 have hl:=hT.len;have hml:(T.map qdt).length=T.length:=zLm _
 obtain⟨f,rfl⟩:∃ g,f=g+1:=by
  cases f with
  |zero=>rw[qel] at hr;cases hr
  |succ g=>exact⟨g,rfl⟩
 rw[qel] at hr;refine zcI Tryz.func255 rfl (n:=63) rfl rfl rfl ?_;refine gah ?_;refine oS (zsA λb=>?_) rfl;refine gam ?_;refine zQ0 ?_;refine oS (sH [_,_] rfl zp1 (qcp sb T i op [[40]] hl zo (by simp)) ?_) rfl;refine gaf ?_;refine zoC rfl (λhp=>?_) (λhp=>?_);rw[zp hp] at hr;refine gag ?_;refine oS (sP [_,_] rfl pH (qcw sb T i op [40] hl zo zo) (λv i1 op1 h1=>?_) (λl er i1 op1 h1 e' he'=>?_)) rfl;rw[h1,qal] at hr;obtain⟨rfl,rfl,ho1,hi1⟩:=qbC h1;refine gam ?_;obtain⟨r1,hr1⟩:=qaS hr;refine oS (sP [_] rfl pH (hE f zo _ _ r1 zo zo hr1) (λv i2 op2 h2=>?_) (λl er i2 op2 h2 e' he'=>?_)) rfl;rw[hr1,h2,qal] at hr;obtain⟨g1,_,g3,rfl⟩:=(qcU T f).1 0 _ _ _ (hr1.trans (congrArg some h2));have g4:=g3 zo;refine oS (zsA λb2=>?_) rfl;refine gaa ?_;refine oS (sP [_,_] rfl zp1 (qfh sb T i2 (op+1) [41] hl zo zo zo) (λu i3 op3 h3=>?_) (λl er i3 op3 h3 e' he'=>?_)) rfl;rw[h3,qal] at hr;refine gaa ?_;exact retP rfl (rC (rA rfl zm0 rfl zsr) rN) (by cases hr;rfl) rfl (zhD zhp);rw[h3,qat] at hr;refine gal ?_;exact panP (he'.trans rfl) (by cases hr;rfl) zhp;rw[hr1,h2,qat] at hr;refine gal ?_;exact panP (he'.trans rfl) (by cases hr;rfl) zhp;exact zT20;have hp':isTok T i [[40]]=false:=hp;rw[zn (by rw[hp'];decide)] at hr;refine gab ?_;refine zcC [(0,ptr sb 0),(2,ptr b 0),(38,bool (decide (qj3 T i=1)))] ?_ (λj hj=>?_);refine zQ29 ?_;refine LQ.bcase 25 rfl (λh=>?_) (λh=>?_);have hlt:i<T.length:=by have:=zt h;omega
 refine gad ?_;refine qP (xR (el':=qdt T[i]) (cs:=[_,_,_]) rfl rfl zo (qbj _ _ _ hlt) rfl rfl) rfl ?_;refine gad ?_;exact⟨⟨rfl,rfl,qau (by rw[qj3,List.getElem?_eq_getElem hlt]),trivial⟩,rfl,rfl⟩;have hge:T.length<=i:=by have:=zf h;omega
 refine gad ?_;exact⟨⟨rfl,rfl,qau (by rw[qj3,List.getElem?_eq_none hge];rfl),trivial⟩,rfl,rfl⟩
 skip
 refine zoC rfl (λhk=>?_) (λhk=>?_);rw[zp (zt hk)] at hr;refine gag ?_;refine oS (sP [_] rfl pH (qio hG sb T hT i op zo) (λn i1 op1 h1=>?_) (λl er i1 op1 h1 e' he'=>?_)) rfl;rw[h1,qal] at hr;refine gad ?_;exact retP (v:=.mk nNum n [] []) hj (rC (rA (k:=4) rfl zm0 rfl (vA (bs:=[_,_,_,.list []]) ⟨vR _,vR _,vR _,vN,trivial⟩)) rN) (by cases hr;rfl) (by rw[qd5];rfl) (zhP zp1 zhn);rw[h1,qat] at hr;refine gal ?_;exact panP (he'.trans hj) (by cases hr;rfl) zhp;rw[zn (zf hk)] at hr;refine gac ?_;refine oS (sP [_,_] rfl pH (qaQ sb T i op 2 hl zo) (λs i1 op1 h1=>?_) (λl er i1 op1 h1 e' he'=>?_)) rfl;rw[h1,qal] at hr;obtain⟨rfl,rfl,t,ht,_,_⟩:=qdS h1;have:=qjK ht;refine gac ?_;refine zQ0 ?_;refine oS (sH [_,_] rfl pH (qcp sb T (i+1) op1 [[91]] hl zo (by simp)) ?_) rfl;refine gaf ?_;refine zoC rfl (λhx=>?_) (λhx=>?_);rw[zp hx] at hr;obtain⟨r1,hr1⟩:=qaS hr;refine gag ?_;refine oS (sP [_] rfl pH (qji sb T hT f (λg hg=>hE g zo) (i+1) op1 r1 zo zo hr1) (λe2 i2 op2 h2=>?_) (λl er i2 op2 h2 e' he'=>?_)) rfl;rw[hr1,h2,qal] at hr;refine zQ0 ?_;refine gad ?_;exact retP (v:=.mk qeh 0 s [e2]) hj (rC (rA rfl zm0 rfl zsr) rN) (by cases hr;rfl) (by rw[qd5];rfl) (zhP zp1 zhn);exact zT19;have hx':isTok T (i+1) [[91]]=false:=hx;rw[zn (by rw[hx'];decide)] at hr;refine gag ?_;refine zQ0 ?_;refine oS (sH [_,_] rfl pH (qcp sb T (i+1) op1 [[40]] hl zo (by simp)) ?_) rfl;refine gaf ?_;refine zoC rfl (λhy=>?_) (λhy=>?_);rw[zp hy] at hr;obtain⟨r1,hr1⟩:=qaS hr;refine gag ?_;refine oS (sP [_] rfl pH (qmp sb T hT f (λg hg=>hE g zo) (i+1) op1 r1 zo zo hr1) (λe2 i2 op2 h2=>?_) (λl er i2 op2 h2 e' he'=>?_)) rfl;rw[hr1,h2,qal] at hr;refine gad ?_;exact retP (v:=.mk qbB 0 s e2) hj (rC (rA rfl zm0 rfl zsr) rN) (by cases hr;rfl) (by rw[qd5];rfl) (zhP zp1 zhn);exact zT19;have hy':isTok T (i+1) [[40]]=false:=hy;rw[zn (by rw[hy'];decide)] at hr;refine gaa ?_;exact retP (v:=.mk nVar 0 s []) hj (rC (rA (k:=4) rfl zm0 rfl (vA (bs:=[_,_,_,.list []]) ⟨vR _,vR _,vR _,vN,trivial⟩)) rN) (by cases hr;rfl) (by rw[qd5];rfl) (zhP zp1 zhn);rw[h1,qat] at hr;refine gal ?_;exact panP (he'.trans hj) (by cases hr;rfl) zhp
end
def e45:MapEntry:={ key:=.string ⟨#[45]⟩,val:=.string ⟨#[110,101,103]⟩,born:=0 }
def e33:MapEntry:={ key:=.string ⟨#[33]⟩,val:=.string ⟨#[110,111,116]⟩,born:=1 }
section
variable{B0:Nat}{w0:World}
def qxA(B0:Nat)(w0:World)(sb:Nat)(T:List Tok)(f:Nat):Prop:=
 ∀ i op r,i<=T.length->op<=100->qb6 T f i op=some r->LCalls (KC B0 w0) 231 [ptr sb 0] [srcH sb T i op] (qdy sb T encE r)
def qmB(T:List Tok)(i:Nat)(seen:Array Nat):Prop:=
 seen=#[]∨(seen=#[0]/\isTok T i [[45]]=false)∨(seen=#[1]/\isTok T i [[33]]=false)∨((seen=#[0,1]∨seen=#[1,0])/\isTok T i [[45]]=false/\isTok T i [[33]]=false)
theorem qq5{seen:Array Nat}(h:qmB T i seen)(ho:#[e45,e33].filter (λe=>!seen.contains e.born)=#[]):isTok T i [[45]]=false/\isTok T i [[33]]=false:=by
 have h1:=Array.filter_eq_empty_iff.1 ho e45 (by simp);have h2:=Array.filter_eq_empty_iff.1 ho e33 (by simp);rcases h with rfl|⟨rfl,_⟩|⟨rfl,_⟩|⟨_,h3,h4⟩;simp[e45] at h1;simp[e33] at h2;simp[e45] at h1;exact⟨h3,h4⟩
theorem qq9{seen:Array Nat}{e:MapEntry}(h:qmB T i seen)(he:e∈(#[e45,e33].filter (λe=>!seen.contains e.born)).toList) :
  seen.size<2/\((e=e45/\(isTok T i [[45]]=false->qmB T i (seen.push 0)))∨(e=e33/\(isTok T i [[33]]=false->qmB T i (seen.push 1)))):=by
 have he':=Array.mem_filter.1 (Array.mem_toList_iff.1 he);have hor:e=e45∨e=e33:=by simpa using he'.1
 have hno:=he'.2;rcases h with rfl|⟨rfl,h1⟩|⟨rfl,h1⟩|⟨rfl|rfl,_,_⟩;rcases hor with rfl|rfl;exact⟨by decide,.inl ⟨rfl,λh=>.inr (.inl ⟨rfl,h⟩)⟩⟩;exact⟨by decide,.inr ⟨rfl,λh=>.inr (.inr (.inl ⟨rfl,h⟩))⟩⟩;rcases hor with rfl|rfl;simp[e45] at hno;exact⟨by decide,.inr ⟨rfl,λh=>.inr (.inr (.inr ⟨.inl rfl,h1,h⟩))⟩⟩;rcases hor with rfl|rfl;exact⟨by decide,.inl ⟨rfl,λh=>.inr (.inr (.inr ⟨.inr rfl,h,h1⟩))⟩⟩;simp[e33] at hno;rcases hor with rfl|rfl;simp[e45] at hno;simp[e33] at hno;rcases hor with rfl|rfl;simp[e45] at hno;simp[e33] at hno
theorem qp5(h:isTok T i [[33]]=true):isTok T i [[45]]=false:=by
 unfold isTok at h ⊢;split at h
 rename_i t ht
 simp only[zBa] at h;have h2:t.text=[33]:=by simpa using h.2
 rw[h2]
 simp
 cases h
theorem qqm(hG:GW B0 w0)(sb:Nat)(T:List Tok)(hT:TOK T):∀ f:Nat,(∀ g,g<f->qlE B0 w0 sb T g)->qxA B0 w0 sb T f:=by
 intro f
 induction f with
 |zero=>intro _ i op r _ _ hr;rw[qb6] at hr;cases hr
 |succ f ih=>
  intro hE i op r hi ho hr;have hl:=hT.len;rw[qb6] at hr;refine zcI Tryz.func231 rfl (n:=36) rfl rfl rfl ?_;refine gah ?_;refine oS (zsA λb=>?_) rfl;refine gai ?_;refine oS (S.makeMap λmb=>oS (S.insert (k:=⟨#[45]⟩) (v:=.string ⟨#[110,101,103]⟩) (kt:=9) (el:=9) zk zk rfl rfl rfl pH (by simp) ?_) rfl) rfl;refine oS (S.insert (k:=⟨#[33]⟩) (v:=.string ⟨#[110,111,116]⟩) (kt:=9) (el:=9) zk zk rfl rfl rfl pH (λe he=>⟨⟨#[45]⟩,by simp at he;rw[he],by decide⟩)<|oP (pM (lv:=.atom _) rfl) rfl<|oS (S.range (kt:=9) (el:=9) zk rfl zm0 λrb=>?_) rfl) rfl;refine gab ?_
  refine zoL (λk ls H=>∃ seen:Array Nat,k=2-seen.size/\ls=[(0,ptr sb 0),(2,ptr b 0),(8,ptr rb 0)]/\H=[(rb,.obj (.mapIter (some mb) 2 seen 2)),(mb,.obj (.map #[e45,e33] 2)),(b,.cells 202 [str [],int .u32 0,str [],qab]),srcH sb T i op]/\qmB T i seen)
   ⟨_,_,_,⟨#[],rfl,rfl,rfl,.inl rfl⟩,⟨rfl,rfl,rfl,trivial⟩,zhR _⟩ ?_
  rintro k ls H ⟨seen,rfl,rfl,rfl,hS⟩ j hj;refine gah ?_;refine oS (S.next (F:=[(b,.cells 202 [str [],int .u32 0,str [],qab]),srcH sb T i op]) rfl zpr zDd (λhov=>?_) (λen hen=>?_)) rfl;obtain⟨hn1,hn2⟩:=qq5 hS hov;rw[zn (by rw[hn1];decide),zn (by rw[hn2];decide)] at hr;refine gab ?_;refine zoC rfl (λhcc=>?_) (λhcc=>?_);cases hcc;refine gac ?_;refine oS (sP [_] rfl zp3 (qti hG sb T hT f (λg hg=>hE g zo) i op r hi ho hr) (λv i1 op1 h1=>?_) (λl er i1 op1 h1 e' he'=>?_)) rfl;refine gad ?_;exact retP (v:=v) hj (rC (rA rfl zm0 rfl zsr) rN) h1 rfl (zhP zp1 zhn);refine gal ?_;exact panP (he'.trans hj) h1 zhp;obtain⟨hsz,⟨rfl,hnext⟩|⟨rfl,hnext⟩⟩:=qq9 hS hen;refine gab ?_;refine zoC rfl (λhcc=>?_) (λhcc=>?_);refine gak ?_;refine oP (Pure.entry (en:=e45) (stamp:=0) rfl zm0 zm1 rfl (by show(seen.push 0).back? = _;simp) rfl) rfl ?_;refine gac ?_;refine zQ0 ?_;refine oS (sH [_,_] rfl zp3 (qcp sb T i op [[45]] hl zo (by simp)) ?_) rfl;refine gaf ?_;refine zoC rfl (λhc=>?_) (λhc=>?_);rw[zp hc] at hr;refine gag ?_;refine oS (sP [_,_] rfl pH (qcw sb T i op [45] hl zo zo) (λv i1 op1 h1=>?_) (λl er i1 op1 h1 e' he'=>?_)) rfl;rw[h1,qal] at hr;obtain⟨rfl,rfl,ho1,hi1⟩:=qbC h1;refine gam ?_;obtain⟨r1,hr1⟩:=qaS hr;refine oS (sP [_] rfl pH (ih (λg hg=>hE g zo) _ _ r1 zo zo hr1) (λe2 i2 op2 h2=>?_) (λl er i2 op2 h2 e' he'=>?_)) rfl;rw[hr1,h2,qal] at hr;obtain⟨g1,_,g3,rfl⟩:=(qcU T f).2.2.1 _ _ _ (hr1.trans (congrArg some h2));have g4:=g3 zo;refine zQ0 ?_;refine gad ?_;refine oS (zsA λb2=>?_) rfl;refine gaa ?_
  exact retP (v:=.mk nNeg 0 [] [e2]) hj (rC (rA rfl zm0 rfl zsr) rN) (by cases hr;rfl) (by rw[qd5];rfl) (by
   rw[show(((op+1:Nat):Int)-1)=((op+1-1:Nat):Int) by omega]
   exact zhP zp1 zhn)
  exact zT19;rw[h1,qat] at hr;refine gae ?_;exact panP (he'.trans hj) (by cases hr;rfl) zhp;refine gab ?_;exact⟨_,_,_,by have:=hsz;simp;omega,⟨seen.push 0,rfl,rfl,rfl,hnext hc⟩,⟨rfl,rfl,rfl,trivial⟩,zhP zp1 (zhP zp1 (zhP zp1 zhp)),hj⟩;cases hcc;refine gab ?_;refine zoC rfl (λhcc=>?_) (λhcc=>?_);refine gak ?_;refine oP (Pure.entry (en:=e33) (stamp:=1) rfl zm0 zm1 rfl (by show(seen.push 1).back? = _;simp) rfl) rfl ?_;refine gac ?_;refine zQ0 ?_;refine oS (sH [_,_] rfl zp3 (qcp sb T i op [[33]] hl zo (by simp)) ?_) rfl;refine gaf ?_;refine zoC rfl (λhc=>?_) (λhc=>?_);rw[zn (by rw[qp5 hc];decide),zp hc] at hr;refine gag ?_;refine oS (sP [_,_] rfl pH (qcw sb T i op [33] hl zo zo) (λv i1 op1 h1=>?_) (λl er i1 op1 h1 e' he'=>?_)) rfl;rw[h1,qal] at hr;obtain⟨rfl,rfl,ho1,hi1⟩:=qbC h1;refine gam ?_;obtain⟨r1,hr1⟩:=qaS hr;refine oS (sP [_] rfl pH (ih (λg hg=>hE g zo) _ _ r1 zo zo hr1) (λe2 i2 op2 h2=>?_) (λl er i2 op2 h2 e' he'=>?_)) rfl;rw[hr1,h2,qal] at hr;obtain⟨g1,_,g3,rfl⟩:=(qcU T f).2.2.1 _ _ _ (hr1.trans (congrArg some h2));have g4:=g3 zo;refine zQ0 ?_;refine gad ?_;refine oS (zsA λb2=>?_) rfl;refine gaa ?_
  exact retP (v:=.mk nNot 0 [] [e2]) hj (rC (rA rfl zm0 rfl zsr) rN) (by cases hr;rfl) (by rw[qd5];rfl) (by
   rw[show(((op+1:Nat):Int)-1)=((op+1-1:Nat):Int) by omega]
   exact zhP zp1 zhn)
  exact zT19;rw[h1,qat] at hr;refine gae ?_;exact panP (he'.trans hj) (by cases hr;rfl) zhp;refine gab ?_;exact⟨_,_,_,by have:=hsz;simp;omega,⟨seen.push 1,rfl,rfl,rfl,hnext hc⟩,⟨rfl,rfl,rfl,trivial⟩,zhP zp1 (zhP zp1 (zhP zp1 zhp)),hj⟩;cases hcc
end
end Go.Proofs.YtkihibnffkpnkaaGreatDoor
