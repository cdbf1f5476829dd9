/- Texts joined: Shelf, Lex2, FmtUint, Lex3, Lex4, ChkSize, ChkW3, GlMax, ChkW4, ChkW5, ChkW6. -/
import Derived.Shelf.Strings.Builder1
import Derived.Shelf.Strings.Builder2
import Derived.Shelf.Strings.OnBuilder
import Derived.Shelf.Strings.Trim
import Derived.Shelf.Small.Utf8
import Derived.Shelf.Small.Strs
import Derived.Shelf.Small.Wraps
import Derived.Shelf.Strings.BuilderF
import Derived.Shelf.Strings.BuilderK
import Derived.Shelf.Utf8.RuneCount
import Derived.Shelf.Strings.Builder2Cap
import Derived.Shelf.Strconv.Itoa0
import Derived.Shelf.Strconv.Itoa1
import Derived.Shelf.LaysM
import Derived.Shelf.Strconv.Itoa2
import Derived.Shelf.Strconv.Itoa3
import Derived.Shelf.Strconv.Clone
import Derived.Shelf.Strconv.SyntaxError
import Derived.Shelf.LaysC
import Derived.Shelf.Strconv.ToError
import Derived.Shelf.Strconv.Lower
import Derived.Shelf.Strconv.ParseUint10
import Derived.Shelf.Strconv.ParseUint10Empty
import Derived.Shelf.Strconv.ParseUint10Any
import Derived.Shelf.Strconv.RangeError
import Derived.Shelf.Strconv.ToErrorRange
import Derived.Shelf.Strconv.ParseUintEmpty
import Derived.Shelf.Strconv.ParseUint10b64
import Derived.Shelf.Strconv.ParseUint10b32
import Derived.Shelf.Strconv.ParseUint10b16
import Derived.Shelf.Strconv.ParseUint10b8
import Derived.Shelf.Strconv.ParseUint10At
import Derived.Ground.MpProg
import Derived.Shelf.Pu.ParseUintPublic10
import Derived.Shelf.Pu.ErrVarParseUint
import Derived.Shelf.Strings.Search1
import Derived.Shelf.Strings.Search2
import Derived.Shelf.Strings.Search3
import Derived.Shelf.Strings.Cut
import Derived.Shelf.Strings.Count
import Derived.Shelf.Strings.Shaped
import Derived.Shelf.Strings.Prefix
import Derived.Shelf.Strings.Split
import Derived.Shelf.Strings.SplitShaped
import Derived.Shelf.Unicode.Decode
import Derived.Shelf.Strings.Runes
import Derived.Shelf.Strings.RuneCount
import Derived.Shelf.Strings.AsciiSet
import Derived.Shelf.Strings.Explode
import Derived.Shelf.Unicode.DecodeSlow
import Derived.Shelf.Unicode.DecodeAny
import Derived.Shelf.Strings.BuilderCap
import Derived.Shelf.Slices.Turned
import Derived.Ground.Names2Prog
import Derived.Shelf.Slices.Clone
import Derived.Test.YthmhncflhnbedaaGreatDoorProg
import Derived.Lib.Walk
import Derived.Lib.ItoaMem
import Derived.Lib.AppendIntMem
import Derived.WalkKit
import Derived.BigCall
import Derived.BigGuard
import Derived.Below
import Derived.WalkSmall
import Derived.Deep.WholeRow
import Derived.Test.YthmhncflhnbedaaGreatDoorBRowCB2
import Derived.Test.YthmhncflhnbedaaGreatDoorBRowCB3
import Derived.Test.YthmhncflhnbedaaGreatDoorBRowCB4
set_option linter.unusedVariables false
set_option linter.unusedSimpArgs false
set_option maxRecDepth 100000
set_option maxHeartbeats 4000000
namespace Go.Proofs
def Tryz.lays156_ren:Go.Shelf.Ren:=⟨fun|156=>22|165=>61|166=>62|169=>63|240=>120|241=>121|276=>162|277=>163|n=>n,fun|31=>30|9=>9|3=>3|4=>4|0=>0|20=>20|72=>123|76=>127|70=>120|37=>121|75=>126|127=>184|164=>202|5=>5|80=>77|n=>n,fun|n=>n⟩
theorem Tryz.lays156:Go.Proofs.Lays.n156 Tryz.prog Tryz.lays156_ren:={
 mixed:=by kernel_rfl
 f156:=Tryz.func22.trans zCs
 f165:=Tryz.func61.trans zCs
 f166:=Tryz.func62.trans zCs
 f169:=Tryz.func63.trans zCs
 f240:=Tryz.func120.trans zCs
 f241:=Tryz.func121.trans zCs
 f276:=Tryz.func162.trans zCs
 f277:=Tryz.func163.trans zCs
 t0:=Tryz.underlying0
 a0:=Tryz.isAgg0
 z0:=Tryz.sizeOf0
 v0:=Tryz.zeroValue0
 t3:=Tryz.underlying3
 a3:=Tryz.isAgg3
 z3:=Tryz.sizeOf3
 v3:=Tryz.zeroValue3
 t4:=Tryz.underlying4
 a4:=Tryz.isAgg4
 z4:=Tryz.sizeOf4
 v4:=Tryz.zeroValue4
 t9:=Tryz.underlying9
 a9:=Tryz.isAgg9
 z9:=Tryz.sizeOf9
 v9:=Tryz.zeroValue9
 t20:=Tryz.underlying20
 a20:=Tryz.isAgg20
 z20:=Tryz.sizeOf20
 v20:=Tryz.zeroValue20
 t31:=Tryz.underlying30
 a31:=Tryz.isAgg30
 z31:=Tryz.sizeOf30
 v31:=Tryz.zeroValue30
 t37:=Tryz.underlying121
 a37:=Tryz.isAgg121
 z37:=Tryz.sizeOf121
 v37:=Tryz.zeroValue121
 t70:=Tryz.underlying120
 a70:=Tryz.isAgg120
 z70:=Tryz.sizeOf120
 v70:=Tryz.zeroValue120
 t72:=Tryz.underlying123
 a72:=Tryz.isAgg123
 z72:=Tryz.sizeOf123
 v72:=Tryz.zeroValue123
 t75:=Tryz.underlying126
 a75:=Tryz.isAgg126
 z75:=Tryz.sizeOf126
 v75:=Tryz.zeroValue126
 t76:=Tryz.underlying127
 a76:=Tryz.isAgg127
 z76:=Tryz.sizeOf127
 v76:=Tryz.zeroValue127
 t127:=Tryz.underlying184
 a127:=Tryz.isAgg184
 z127:=Tryz.sizeOf184
 v127:=Tryz.zeroValue184
 t164:=Tryz.underlying202
 a164:=Tryz.isAgg202
 z164:=Tryz.sizeOf202
 v164:=Tryz.zeroValue202 }
theorem Tryz.Builder_Extra_156:Builder.Extra Tryz.prog Tryz.lays156_ren:={
 sizeBuilder:=by kernel_rfl
 liesBuilder:=by kernel_rfl
 t5:=Tryz.underlying5
 a5:=Tryz.isAgg5
 z5:=Tryz.sizeOf5
 v5:=Tryz.zeroValue5
 infoByte:=by kernel_rfl
 cellsByte:=by kernel_rfl
 sizeByte:=by kernel_rfl
 neB5:=by decide }
open Go.RowKit in
theorem Tryz.strings_Join_none (a:Option Addr) (c:Nat) (sep:ByteArray) (w:World) :
  Calls Tryz.prog 22 #[.slice a 0 c,.string sep] w fun e w'=>e=.returned (.string ⟨#[]⟩)/\w'=w:=Any.strings_Join_none Tryz.lays156 Tryz.Builder_Extra_156 a c sep w
open Go.RowKit in
theorem Tryz.strings_Join (bk o c:Nat) (xs:List ByteArray) (sep:ByteArray) (w:World) (hcells:∀ (j:Nat) x,xs[j]? = some x->w.cell? ⟨bk,o+j,none⟩=some (.string x)) (hbk:bk<w.heap.size) (hN:xs.length<=140737488355328) (hcap:xs.length<=c) (hlen:(Lib.join (xs.map (·.data.toList)) sep.data.toList).length<=140737488355328) :
  Calls Tryz.prog 22 #[.slice (some ⟨bk,o,none⟩) xs.length c,.string sep] w fun e w'=>e=.returned (.string ⟨(Lib.join (xs.map (·.data.toList)) sep.data.toList).toArray⟩)/\Below w.heap.size w w':=Any.strings_Join Tryz.lays156 Tryz.Builder_Extra_156 bk o c xs sep w hcells hbk hN hcap hlen
def Tryz.lays160_ren:Go.Shelf.Ren:=⟨fun|160=>127|232=>168|231=>167|227=>169|234=>171|233=>170|236=>173|235=>172|228=>202|271=>204|151=>203|197=>200|120=>234|152=>233|260=>232|137=>249|119=>250|224=>191|225=>190|217=>189|266=>220|n=>n,fun|9=>9|4=>4|3=>3|5=>5|117=>209|116=>208|0=>0|124=>212|21=>21|105=>228|46=>223|119=>261|139=>264|138=>263|n=>n,fun|3=>4|4=>5|n=>n⟩
theorem Tryz.lays160:Go.Proofs.Lays.n160 Tryz.prog Tryz.lays160_ren:={
 mixed:=by kernel_rfl
 f119:=Tryz.func250.trans zCs
 f120:=Tryz.func234.trans zCs
 f137:=Tryz.func249.trans zCs
 f151:=Tryz.func203.trans zCs
 f152:=Tryz.func233.trans zCs
 f160:=Tryz.func127.trans zCs
 f197:=Tryz.func200.trans zCs
 f217:=Tryz.func189.trans zCs
 f224:=Tryz.func191.trans zCs
 f225:=Tryz.func190.trans zCs
 f227:=Tryz.func169.trans zCs
 f228:=Tryz.func202.trans zCs
 f231:=Tryz.func167.trans zCs
 f232:=Tryz.func168.trans zCs
 f233:=Tryz.func170.trans zCs
 f234:=Tryz.func171.trans zCs
 f235:=Tryz.func172.trans zCs
 f236:=Tryz.func173.trans zCs
 f260:=Tryz.func232.trans zCs
 f266:=Tryz.func220.trans zCs
 f271:=Tryz.func204.trans zCs
 t0:=Tryz.underlying0
 a0:=Tryz.isAgg0
 z0:=Tryz.sizeOf0
 v0:=Tryz.zeroValue0
 t3:=Tryz.underlying3
 a3:=Tryz.isAgg3
 z3:=Tryz.sizeOf3
 v3:=Tryz.zeroValue3
 t4:=Tryz.underlying4
 a4:=Tryz.isAgg4
 z4:=Tryz.sizeOf4
 v4:=Tryz.zeroValue4
 t5:=Tryz.underlying5
 a5:=Tryz.isAgg5
 z5:=Tryz.sizeOf5
 v5:=Tryz.zeroValue5
 t9:=Tryz.underlying9
 a9:=Tryz.isAgg9
 z9:=Tryz.sizeOf9
 v9:=Tryz.zeroValue9
 t21:=Tryz.underlying21
 a21:=Tryz.isAgg21
 z21:=Tryz.sizeOf21
 v21:=Tryz.zeroValue21
 t46:=Tryz.underlying223
 a46:=Tryz.isAgg223
 z46:=Tryz.sizeOf223
 v46:=Tryz.zeroValue223
 t105:=Tryz.underlying228
 a105:=Tryz.isAgg228
 z105:=Tryz.sizeOf228
 v105:=Tryz.zeroValue228
 t116:=Tryz.underlying208
 a116:=Tryz.isAgg208
 z116:=Tryz.sizeOf208
 t117:=Tryz.underlying209
 a117:=Tryz.isAgg209
 z117:=Tryz.sizeOf209
 v117:=Tryz.zeroValue209
 t119:=Tryz.underlying261
 a119:=Tryz.isAgg261
 z119:=Tryz.sizeOf261
 t124:=Tryz.underlying212
 a124:=Tryz.isAgg212
 z124:=Tryz.sizeOf212
 v124:=Tryz.zeroValue212
 t138:=Tryz.underlying263
 a138:=Tryz.isAgg263
 z138:=Tryz.sizeOf263
 v138:=Tryz.zeroValue263
 t139:=Tryz.underlying264
 a139:=Tryz.isAgg264
 z139:=Tryz.sizeOf264
 v139:=Tryz.zeroValue264
 g3:=by kernel_rfl
 g4:=by kernel_rfl }
def Tryz.lays103_ren:Go.Shelf.Ren:=⟨fun|103=>126|210=>166|206=>148|n=>n,fun|9=>9|4=>4|24=>134|3=>3|n=>n,fun|n=>n⟩
theorem Tryz.lays103:Go.Proofs.Lays.n103 Tryz.prog Tryz.lays103_ren:={
 mixed:=by kernel_rfl
 f103:=Tryz.func126.trans zCs
 f206:=Tryz.func148.trans zCs
 f210:=Tryz.func166.trans zCs
 t3:=Tryz.underlying3
 a3:=Tryz.isAgg3
 z3:=Tryz.sizeOf3
 v3:=Tryz.zeroValue3
 t4:=Tryz.underlying4
 a4:=Tryz.isAgg4
 z4:=Tryz.sizeOf4
 v4:=Tryz.zeroValue4
 t9:=Tryz.underlying9
 a9:=Tryz.isAgg9
 z9:=Tryz.sizeOf9
 v9:=Tryz.zeroValue9
 t24:=Tryz.underlying134
 a24:=Tryz.isAgg134
 z24:=Tryz.sizeOf134
 v24:=Tryz.zeroValue134 }
open Go.RowKit in
theorem Tryz.strings_CutPrefix (s p:ByteArray) (w:World) :
  Calls Tryz.prog 126 #[.string s,.string p] w fun e w'=>e=.returned (.tuple #[.string ⟨(Lib.trimPrefix s.data.toList p.data.toList).toArray⟩,.bool (Lib.hasPrefix s.data.toList p.data.toList)])/\w'=w:=Any.strings_CutPrefix Tryz.lays103 s p w
def Tryz.lays104_ren:Go.Shelf.Ren:=⟨fun|104=>124|211=>165|207=>201|n=>n,fun|9=>9|4=>4|24=>134|3=>3|n=>n,fun|n=>n⟩
theorem Tryz.lays104:Go.Proofs.Lays.n104 Tryz.prog Tryz.lays104_ren:={
 mixed:=by kernel_rfl
 f104:=Tryz.func124.trans zCs
 f207:=Tryz.func201.trans zCs
 f211:=Tryz.func165.trans zCs
 t3:=Tryz.underlying3
 a3:=Tryz.isAgg3
 z3:=Tryz.sizeOf3
 v3:=Tryz.zeroValue3
 t4:=Tryz.underlying4
 a4:=Tryz.isAgg4
 z4:=Tryz.sizeOf4
 v4:=Tryz.zeroValue4
 t9:=Tryz.underlying9
 a9:=Tryz.isAgg9
 z9:=Tryz.sizeOf9
 v9:=Tryz.zeroValue9
 t24:=Tryz.underlying134
 a24:=Tryz.isAgg134
 z24:=Tryz.sizeOf134
 v24:=Tryz.zeroValue134 }
open Go.RowKit in
theorem Tryz.strings_CutSuffix (s p:ByteArray) (w:World) (hs:s.size<=9223372036854775807) :
  Calls Tryz.prog 124 #[.string s,.string p] w fun e w'=>e=.returned (.tuple #[.string ⟨(Lib.trimSuffix s.data.toList p.data.toList).toArray⟩,.bool (Lib.hasSuffix s.data.toList p.data.toList)])/\w'=w:=Any.strings_CutSuffix Tryz.lays104 s p w hs
def Tryz.lays283_ren:Go.Shelf.Ren:=⟨fun|283=>216|n=>n,fun|3=>3|9=>9|4=>4|n=>n,fun|n=>n⟩
theorem Tryz.lays283:Go.Proofs.Lays.n283 Tryz.prog Tryz.lays283_ren:={
 mixed:=by kernel_rfl
 f283:=Tryz.func216.trans zCs
 t3:=Tryz.underlying3
 a3:=Tryz.isAgg3
 z3:=Tryz.sizeOf3
 v3:=Tryz.zeroValue3
 t4:=Tryz.underlying4
 a4:=Tryz.isAgg4
 z4:=Tryz.sizeOf4
 v4:=Tryz.zeroValue4
 t9:=Tryz.underlying9
 a9:=Tryz.isAgg9
 z9:=Tryz.sizeOf9
 v9:=Tryz.zeroValue9 }
open Go.Lib in
theorem Tryz.internal_strconv_small (i:Nat) (h:i<100) (w:World) :
  Calls Tryz.prog 216 #[.int .i64 i] w fun e w'=>e=.returned (.string ⟨(Lib.decDigits i).toArray⟩)/\w'=w:=Any.internal_strconv_small Tryz.lays283 i h w
def Tryz.laysM284_ren:Go.Shelf.Ren:=⟨fun|284=>217|129=>240|317=>239|318=>241|n=>n,fun|53=>195|3=>3|212=>255|0=>0|4=>4|46=>223|5=>5|9=>9|n=>n,fun|17=>3|n=>n⟩
theorem Tryz.laysM284:Go.Proofs.LaysM.n284 Tryz.prog Tryz.laysM284_ren:={
 mixed:=by kernel_rfl
 f129:=Tryz.func240.trans zCs
 f284:=Tryz.func217.trans zCs
 f317:=Tryz.func239.trans zCs
 f318:=Tryz.func241.trans zCs
 t0:=Tryz.underlying0
 a0:=Tryz.isAgg0
 z0:=Tryz.sizeOf0
 v0:=Tryz.zeroValue0
 t3:=Tryz.underlying3
 a3:=Tryz.isAgg3
 z3:=Tryz.sizeOf3
 v3:=Tryz.zeroValue3
 t4:=Tryz.underlying4
 a4:=Tryz.isAgg4
 z4:=Tryz.sizeOf4
 v4:=Tryz.zeroValue4
 t5:=Tryz.underlying5
 a5:=Tryz.isAgg5
 z5:=Tryz.sizeOf5
 v5:=Tryz.zeroValue5
 t9:=Tryz.underlying9
 a9:=Tryz.isAgg9
 z9:=Tryz.sizeOf9
 v9:=Tryz.zeroValue9
 t46:=Tryz.underlying223
 a46:=Tryz.isAgg223
 z46:=Tryz.sizeOf223
 v46:=Tryz.zeroValue223
 t53:=Tryz.underlying195
 a53:=Tryz.isAgg195
 z53:=Tryz.sizeOf195
 v53:=Tryz.zeroValue195
 t212:=Tryz.underlying255
 a212:=Tryz.isAgg255
 z212:=Tryz.sizeOf255
 v212:=Tryz.zeroValue255
 g17:=by kernel_rfl
 i0:=by kernel_rfl
 i3:=by kernel_rfl
 i4:=by kernel_rfl
 i5:=by kernel_rfl
 i9:=by kernel_rfl
 i46:=by kernel_rfl
 i53:=by kernel_rfl
 i212:=by kernel_rfl
 m17:=by kernel_rfl }
open Go.Lib in
theorem Tryz.internal_strconv_numDigits (u : Nat) (h1 : 1 ≤ u) (h2 : u < 18446744073709551616) (w : World) (htab : Lib.TabIs Tryz.prog w "internal/strconv.uint64pow10" .u64 Lib.pow10Tab) :
  Calls Tryz.prog 217 #[.int .u64 u] w fun e w'=>e=.returned (.int .i64 (Lib.nDigits u))/\w'=w:=Any.internal_strconv_numDigits Tryz.laysM284 u h1 h2 w htab
def Tryz.lays285_ren:Go.Shelf.Ren:=⟨fun|285=>218|n=>n,fun|37=>121|53=>195|3=>3|4=>4|51=>80|9=>9|5=>5|0=>0|n=>n,fun|n=>n⟩
theorem Tryz.lays285:Go.Proofs.Lays.n285 Tryz.prog Tryz.lays285_ren:={
 mixed:=by kernel_rfl
 f285:=Tryz.func218.trans zCs
 t0:=Tryz.underlying0
 a0:=Tryz.isAgg0
 z0:=Tryz.sizeOf0
 v0:=Tryz.zeroValue0
 t3:=Tryz.underlying3
 a3:=Tryz.isAgg3
 z3:=Tryz.sizeOf3
 v3:=Tryz.zeroValue3
 t4:=Tryz.underlying4
 a4:=Tryz.isAgg4
 z4:=Tryz.sizeOf4
 v4:=Tryz.zeroValue4
 t5:=Tryz.underlying5
 a5:=Tryz.isAgg5
 z5:=Tryz.sizeOf5
 v5:=Tryz.zeroValue5
 t9:=Tryz.underlying9
 a9:=Tryz.isAgg9
 z9:=Tryz.sizeOf9
 v9:=Tryz.zeroValue9
 t37:=Tryz.underlying121
 a37:=Tryz.isAgg121
 z37:=Tryz.sizeOf121
 v37:=Tryz.zeroValue121
 t51:=Tryz.underlying80
 a51:=Tryz.isAgg80
 z51:=Tryz.sizeOf80
 v51:=Tryz.zeroValue80
 t53:=Tryz.underlying195
 a53:=Tryz.isAgg195
 z53:=Tryz.sizeOf195
 v53:=Tryz.zeroValue195 }
open Go.RowKit Go.Sort Go.Lib in
theorem Tryz.internal_strconv_formatBase10 (blk off cap:Nat) (u:Nat) (d:Array UInt8) (w:World) (hH:Holds (fun (b:UInt8)=>Value.int .u8 (b.toNat:Int)) w blk off d) (hu:u<10 ^ d.size) (hu64:u<18446744073709551616) (hsz:d.size<4611686018427387904) :
  Calls Tryz.prog 218 #[.slice (some ⟨blk,off,none⟩) d.size cap,.int .u64 u] w fun e w'=>
   e=.returned (.tuple #[])/\∃ (n v':Nat) (dk:Array UInt8),w'=(putRow (fun (b:UInt8)=>Value.int .u8 (b.toNat:Int)) w blk off dk).drewN n/\FmtInv d.size u 0 v' dk:=Any.internal_strconv_formatBase10 Tryz.lays285 blk off cap u d w hH hu hu64 hsz
def Tryz.laysM171_ren:Go.Shelf.Ren:=⟨fun|171=>116|243=>158|246=>197|283=>216|284=>217|285=>218|286=>219|129=>240|317=>239|318=>241|319=>242|320=>243|337=>251|338=>252|n=>n,fun|3=>3|9=>9|2=>2|4=>4|171=>237|0=>0|53=>195|37=>121|5=>5|173=>240|212=>255|51=>80|20=>20|213=>256|46=>223|232=>271|233=>272|n=>n,fun|17=>3|18=>6|19=>7|n=>n⟩
theorem Tryz.laysM171:Go.Proofs.LaysM.n171 Tryz.prog Tryz.laysM171_ren:={
 mixed:=by kernel_rfl
 f129:=Tryz.func240.trans zCs
 f171:=Tryz.func116.trans zCs
 f243:=Tryz.func158.trans zCs
 f246:=Tryz.func197.trans zCs
 f283:=Tryz.func216.trans zCs
 f284:=Tryz.func217.trans zCs
 f285:=Tryz.func218.trans zCs
 f286:=Tryz.func219.trans zCs
 f317:=Tryz.func239.trans zCs
 f318:=Tryz.func241.trans zCs
 f319:=Tryz.func242.trans zCs
 f320:=Tryz.func243.trans zCs
 f337:=Tryz.func251.trans zCs
 f338:=Tryz.func252.trans zCs
 t0:=Tryz.underlying0
 a0:=Tryz.isAgg0
 z0:=Tryz.sizeOf0
 v0:=Tryz.zeroValue0
 t2:=Tryz.underlying2
 a2:=Tryz.isAgg2
 z2:=Tryz.sizeOf2
 v2:=Tryz.zeroValue2
 t3:=Tryz.underlying3
 a3:=Tryz.isAgg3
 z3:=Tryz.sizeOf3
 v3:=Tryz.zeroValue3
 t4:=Tryz.underlying4
 a4:=Tryz.isAgg4
 z4:=Tryz.sizeOf4
 v4:=Tryz.zeroValue4
 t5:=Tryz.underlying5
 a5:=Tryz.isAgg5
 z5:=Tryz.sizeOf5
 v5:=Tryz.zeroValue5
 t9:=Tryz.underlying9
 a9:=Tryz.isAgg9
 z9:=Tryz.sizeOf9
 v9:=Tryz.zeroValue9
 t20:=Tryz.underlying20
 a20:=Tryz.isAgg20
 z20:=Tryz.sizeOf20
 v20:=Tryz.zeroValue20
 t37:=Tryz.underlying121
 a37:=Tryz.isAgg121
 z37:=Tryz.sizeOf121
 v37:=Tryz.zeroValue121
 t46:=Tryz.underlying223
 a46:=Tryz.isAgg223
 z46:=Tryz.sizeOf223
 v46:=Tryz.zeroValue223
 t51:=Tryz.underlying80
 a51:=Tryz.isAgg80
 z51:=Tryz.sizeOf80
 v51:=Tryz.zeroValue80
 t53:=Tryz.underlying195
 a53:=Tryz.isAgg195
 z53:=Tryz.sizeOf195
 v53:=Tryz.zeroValue195
 t171:=Tryz.underlying237
 a171:=Tryz.isAgg237
 z171:=Tryz.sizeOf237
 v171:=Tryz.zeroValue237
 t173:=Tryz.underlying240
 a173:=Tryz.isAgg240
 z173:=Tryz.sizeOf240
 v173:=Tryz.zeroValue240
 t212:=Tryz.underlying255
 a212:=Tryz.isAgg255
 z212:=Tryz.sizeOf255
 v212:=Tryz.zeroValue255
 t213:=Tryz.underlying256
 a213:=Tryz.isAgg256
 z213:=Tryz.sizeOf256
 t232:=Tryz.underlying271
 a232:=Tryz.isAgg271
 z232:=Tryz.sizeOf271
 v232:=Tryz.zeroValue271
 t233:=Tryz.underlying272
 a233:=Tryz.isAgg272
 z233:=Tryz.sizeOf272
 v233:=Tryz.zeroValue272
 g17:=by kernel_rfl
 g18:=by kernel_rfl
 g19:=by kernel_rfl
 i0:=by kernel_rfl
 i2:=by kernel_rfl
 i3:=by kernel_rfl
 i4:=by kernel_rfl
 i5:=by kernel_rfl
 i9:=by kernel_rfl
 i20:=by kernel_rfl
 i37:=by kernel_rfl
 i46:=by kernel_rfl
 i51:=by kernel_rfl
 i53:=by kernel_rfl
 i171:=by kernel_rfl
 i173:=by kernel_rfl
 i212:=by kernel_rfl
 i232:=by kernel_rfl
 i233:=by kernel_rfl
 m17:=by kernel_rfl
 m18:=by kernel_rfl
 m19:=by kernel_rfl }
open Go.RowKit Go.Sort Go.Lib in
theorem Tryz.strconv_Itoa (n : Int) (h0 : -9223372036854775808 ≤ n) (h1 : n ≤ 9223372036854775807) (w : World) (htab : Lib.TabIs Tryz.prog w "internal/strconv.uint64pow10" .u64 Lib.pow10Tab) :
  Calls Tryz.prog 116 #[.int .i64 n] w fun e w'=>e=.returned (.string ⟨(Lib.itoa n).toArray⟩)/\∃ k os,w'=grow (w.drewN k) os:=Any.strconv_Itoa Tryz.laysM171 n h0 h1 w htab
def Tryz.laysPu14_ren:Go.Shelf.Ren:=⟨fun|14=>149|16=>186|17=>187|19=>210|20=>211|21=>212|22=>213|23=>214|24=>215|25=>237|27=>116|26=>238|28=>158|29=>197|30=>216|31=>217|32=>218|33=>219|35=>240|34=>239|36=>241|37=>242|38=>243|39=>251|40=>252|n=>n,fun|9=>9|3=>3|22=>195|24=>126|25=>196|4=>4|34=>232|5=>5|36=>223|37=>121|0=>0|39=>234|21=>21|44=>252|47=>184|50=>268|48=>266|2=>2|52=>237|55=>240|59=>255|60=>80|20=>20|61=>256|65=>271|66=>272|67=>77|n=>n,fun|0=>1|1=>2|2=>3|3=>6|4=>7|n=>n⟩
theorem Tryz.laysPu14:Go.Proofs.LaysPu.n14 Tryz.prog Tryz.laysPu14_ren:={
 mixed:=by kernel_rfl
 f14:=Tryz.func149.trans zCs
 f16:=Tryz.func186.trans zCs
 f17:=Tryz.func187.trans zCs
 f19:=Tryz.func210.trans zCs
 f20:=Tryz.func211.trans zCs
 f21:=Tryz.func212.trans zCs
 f22:=Tryz.func213.trans zCs
 f23:=Tryz.func214.trans zCs
 f24:=Tryz.func215.trans zCs
 f25:=Tryz.func237.trans zCs
 f26:=Tryz.func238.trans zCs
 f27:=Tryz.func116.trans zCs
 f28:=Tryz.func158.trans zCs
 f29:=Tryz.func197.trans zCs
 f30:=Tryz.func216.trans zCs
 f31:=Tryz.func217.trans zCs
 f32:=Tryz.func218.trans zCs
 f33:=Tryz.func219.trans zCs
 f34:=Tryz.func239.trans zCs
 f35:=Tryz.func240.trans zCs
 f36:=Tryz.func241.trans zCs
 f37:=Tryz.func242.trans zCs
 f38:=Tryz.func243.trans zCs
 f39:=Tryz.func251.trans zCs
 f40:=Tryz.func252.trans zCs
 t0:=Tryz.underlying0
 a0:=Tryz.isAgg0
 z0:=Tryz.sizeOf0
 v0:=Tryz.zeroValue0
 i0:=by kernel_rfl
 t2:=Tryz.underlying2
 a2:=Tryz.isAgg2
 z2:=Tryz.sizeOf2
 v2:=Tryz.zeroValue2
 i2:=by kernel_rfl
 t3:=Tryz.underlying3
 a3:=Tryz.isAgg3
 z3:=Tryz.sizeOf3
 v3:=Tryz.zeroValue3
 i3:=by kernel_rfl
 t4:=Tryz.underlying4
 a4:=Tryz.isAgg4
 z4:=Tryz.sizeOf4
 v4:=Tryz.zeroValue4
 i4:=by kernel_rfl
 t5:=Tryz.underlying5
 a5:=Tryz.isAgg5
 z5:=Tryz.sizeOf5
 v5:=Tryz.zeroValue5
 i5:=by kernel_rfl
 t9:=Tryz.underlying9
 a9:=Tryz.isAgg9
 z9:=Tryz.sizeOf9
 v9:=Tryz.zeroValue9
 i9:=by kernel_rfl
 t20:=Tryz.underlying20
 a20:=Tryz.isAgg20
 z20:=Tryz.sizeOf20
 v20:=Tryz.zeroValue20
 i20:=by kernel_rfl
 t21:=Tryz.underlying21
 a21:=Tryz.isAgg21
 z21:=Tryz.sizeOf21
 v21:=Tryz.zeroValue21
 i21:=by kernel_rfl
 t22:=Tryz.underlying195
 a22:=Tryz.isAgg195
 z22:=Tryz.sizeOf195
 v22:=Tryz.zeroValue195
 i22:=by kernel_rfl
 t24:=Tryz.underlying126
 a24:=Tryz.isAgg126
 z24:=Tryz.sizeOf126
 v24:=Tryz.zeroValue126
 i24:=by kernel_rfl
 t25:=Tryz.underlying196
 a25:=Tryz.isAgg196
 z25:=Tryz.sizeOf196
 v25:=Tryz.zeroValue196
 i25:=by kernel_rfl
 t34:=Tryz.underlying232
 a34:=Tryz.isAgg232
 z34:=Tryz.sizeOf232
 v34:=Tryz.zeroValue232
 i34:=by kernel_rfl
 c34:=by kernel_rfl
 t36:=Tryz.underlying223
 a36:=Tryz.isAgg223
 z36:=Tryz.sizeOf223
 v36:=Tryz.zeroValue223
 i36:=by kernel_rfl
 t37:=Tryz.underlying121
 a37:=Tryz.isAgg121
 z37:=Tryz.sizeOf121
 v37:=Tryz.zeroValue121
 i37:=by kernel_rfl
 t39:=Tryz.underlying234
 a39:=Tryz.isAgg234
 z39:=Tryz.sizeOf234
 v39:=Tryz.zeroValue234
 i39:=by kernel_rfl
 t44:=Tryz.underlying252
 a44:=Tryz.isAgg252
 z44:=Tryz.sizeOf252
 v44:=Tryz.zeroValue252
 i44:=by kernel_rfl
 t47:=Tryz.underlying184
 a47:=Tryz.isAgg184
 z47:=Tryz.sizeOf184
 v47:=Tryz.zeroValue184
 i47:=by kernel_rfl
 t48:=Tryz.underlying266
 a48:=Tryz.isAgg266
 z48:=Tryz.sizeOf266
 v48:=Tryz.zeroValue266
 i48:=by kernel_rfl
 t50:=Tryz.underlying268
 a50:=Tryz.isAgg268
 z50:=Tryz.sizeOf268
 v50:=Tryz.zeroValue268
 i50:=by kernel_rfl
 t52:=Tryz.underlying237
 a52:=Tryz.isAgg237
 z52:=Tryz.sizeOf237
 v52:=Tryz.zeroValue237
 i52:=by kernel_rfl
 t55:=Tryz.underlying240
 a55:=Tryz.isAgg240
 z55:=Tryz.sizeOf240
 v55:=Tryz.zeroValue240
 i55:=by kernel_rfl
 t59:=Tryz.underlying255
 a59:=Tryz.isAgg255
 z59:=Tryz.sizeOf255
 v59:=Tryz.zeroValue255
 i59:=by kernel_rfl
 t60:=Tryz.underlying80
 a60:=Tryz.isAgg80
 z60:=Tryz.sizeOf80
 v60:=Tryz.zeroValue80
 i60:=by kernel_rfl
 t61:=Tryz.underlying256
 a61:=Tryz.isAgg256
 z61:=Tryz.sizeOf256
 t65:=Tryz.underlying271
 a65:=Tryz.isAgg271
 z65:=Tryz.sizeOf271
 v65:=Tryz.zeroValue271
 i65:=by kernel_rfl
 t66:=Tryz.underlying272
 a66:=Tryz.isAgg272
 z66:=Tryz.sizeOf272
 v66:=Tryz.zeroValue272
 i66:=by kernel_rfl
 t67:=Tryz.underlying77
 a67:=Tryz.isAgg77
 z67:=Tryz.sizeOf77
 v67:=Tryz.zeroValue77
 i67:=by kernel_rfl
 g0:=by kernel_rfl
 m0:=by kernel_rfl
 g1:=by kernel_rfl
 m1:=by kernel_rfl
 g2:=by kernel_rfl
 m2:=by kernel_rfl
 g3:=by kernel_rfl
 m3:=by kernel_rfl
 g4:=by kernel_rfl
 m4:=by kernel_rfl }
open Go.RowKit in
theorem Tryz.strconv_ParseUint_10_at32_ok (s:ByteArray) (hmax:s.size<=9223372036854775806) (u:Nat) (h:Lib.parseUintB 32 s.data.toList=.ok u) (w:World) :
  Calls Tryz.prog 149 #[.string s,.int .i64 10,.int .i64 32] w fun e w'=>e=.returned (.tuple #[.int .u64 u,.nilIface])/\(w'=w∨w'=Lib.bytesWorld w 5 s):=Any.strconv_ParseUint_10_at32_ok Tryz.laysPu14 s hmax u h w
open Go.RowKit in
theorem Tryz.strconv_ParseUint_10_at32_range_var (s : ByteArray) (hlim : s.size ≤ 281474976710656) (h : Lib.parseUintB 32 s.data.toList = .range) (tp : TypeId) (p : Value) (w : World) (hvar : w.var? Tryz.prog "strconv.ErrRange" = some #[.iface tp p]) :
  Calls Tryz.prog 149 #[.string s,.int .i64 10,.int .i64 32] w fun e w'=>∃ N,e=.returned (.tuple #[.int .u64 4294967295,.iface 234 (.pointer (some ⟨N,0,none⟩))])/\w.heap.size<=N/\w'.heap[N]? = some (.cells #[.string ⟨#[80,97,114,115,101,85,105,110,116]⟩,.string s,.iface tp p] 252 (0,0))/\Below w.heap.size w w':=Any.strconv_ParseUint_10_at32_range_var Tryz.laysPu14 s hlim h tp p w hvar
def Tryz.lays145_ren:Go.Shelf.Ren:=⟨fun|145=>65|220=>123|219=>153|217=>189|225=>190|224=>191|267=>192|266=>220|314=>221|n=>n,fun|9=>9|4=>4|59=>130|3=>3|5=>5|46=>223|146=>242|51=>80|n=>n,fun|1=>0|n=>n⟩
theorem Tryz.lays145:Go.Proofs.Lays.n145 Tryz.prog Tryz.lays145_ren:={
 mixed:=by kernel_rfl
 f145:=Tryz.func65.trans zCs
 f217:=Tryz.func189.trans zCs
 f219:=Tryz.func153.trans zCs
 f220:=Tryz.func123.trans zCs
 f224:=Tryz.func191.trans zCs
 f225:=Tryz.func190.trans zCs
 f266:=Tryz.func220.trans zCs
 f267:=Tryz.func192.trans zCs
 f314:=Tryz.func221.trans zCs
 t3:=Tryz.underlying3
 a3:=Tryz.isAgg3
 z3:=Tryz.sizeOf3
 v3:=Tryz.zeroValue3
 t4:=Tryz.underlying4
 a4:=Tryz.isAgg4
 z4:=Tryz.sizeOf4
 v4:=Tryz.zeroValue4
 t5:=Tryz.underlying5
 a5:=Tryz.isAgg5
 z5:=Tryz.sizeOf5
 v5:=Tryz.zeroValue5
 t9:=Tryz.underlying9
 a9:=Tryz.isAgg9
 z9:=Tryz.sizeOf9
 v9:=Tryz.zeroValue9
 t46:=Tryz.underlying223
 a46:=Tryz.isAgg223
 z46:=Tryz.sizeOf223
 v46:=Tryz.zeroValue223
 t51:=Tryz.underlying80
 a51:=Tryz.isAgg80
 z51:=Tryz.sizeOf80
 v51:=Tryz.zeroValue80
 t59:=Tryz.underlying130
 a59:=Tryz.isAgg130
 z59:=Tryz.sizeOf130
 v59:=Tryz.zeroValue130
 t146:=Tryz.underlying242
 a146:=Tryz.isAgg242
 z146:=Tryz.sizeOf242
 v146:=Tryz.zeroValue242
 g1:=by kernel_rfl }
open Go.RowKit Go.Lib in
theorem Tryz.strings_Cut (s sep:ByteArray) (m:Int) (w:World) (hs:s.size<4294967281) (hm:w.cell? ⟨0,0,none⟩=some (.int .i64 m)) :
  Calls Tryz.prog 65 #[.string s,.string sep] w fun e w'=>e=.returned (.tuple #[.string ⟨(Lib.cut s.data.toList sep.data.toList).1.toArray⟩,.string ⟨(Lib.cut s.data.toList sep.data.toList).2.1.toArray⟩,.bool (Lib.cut s.data.toList sep.data.toList).2.2])/\∃ n,w'=w.drewN n:=Any.strings_Cut Tryz.lays145 s sep m w hs hm
def Tryz.lays138_ren:Go.Shelf.Ren:=⟨fun|138=>44|195=>101|218=>102|143=>103|219=>153|217=>189|225=>190|224=>191|267=>192|266=>220|314=>221|n=>n,fun|9=>9|3=>3|4=>4|5=>5|0=>0|46=>223|146=>242|51=>80|n=>n,fun|1=>0|n=>n⟩
theorem Tryz.lays138:Go.Proofs.Lays.n138 Tryz.prog Tryz.lays138_ren:={
 mixed:=by kernel_rfl
 f138:=Tryz.func44.trans zCs
 f143:=Tryz.func103.trans zCs
 f195:=Tryz.func101.trans zCs
 f217:=Tryz.func189.trans zCs
 f218:=Tryz.func102.trans zCs
 f219:=Tryz.func153.trans zCs
 f224:=Tryz.func191.trans zCs
 f225:=Tryz.func190.trans zCs
 f266:=Tryz.func220.trans zCs
 f267:=Tryz.func192.trans zCs
 f314:=Tryz.func221.trans zCs
 t0:=Tryz.underlying0
 a0:=Tryz.isAgg0
 z0:=Tryz.sizeOf0
 v0:=Tryz.zeroValue0
 t3:=Tryz.underlying3
 a3:=Tryz.isAgg3
 z3:=Tryz.sizeOf3
 v3:=Tryz.zeroValue3
 t4:=Tryz.underlying4
 a4:=Tryz.isAgg4
 z4:=Tryz.sizeOf4
 v4:=Tryz.zeroValue4
 t5:=Tryz.underlying5
 a5:=Tryz.isAgg5
 z5:=Tryz.sizeOf5
 v5:=Tryz.zeroValue5
 t9:=Tryz.underlying9
 a9:=Tryz.isAgg9
 z9:=Tryz.sizeOf9
 v9:=Tryz.zeroValue9
 t46:=Tryz.underlying223
 a46:=Tryz.isAgg223
 z46:=Tryz.sizeOf223
 v46:=Tryz.zeroValue223
 t51:=Tryz.underlying80
 a51:=Tryz.isAgg80
 z51:=Tryz.sizeOf80
 v51:=Tryz.zeroValue80
 t146:=Tryz.underlying242
 a146:=Tryz.isAgg242
 z146:=Tryz.sizeOf242
 v146:=Tryz.zeroValue242
 g1:=by kernel_rfl }
open Go.RowKit Go.Lib in
theorem Tryz.strings_Count_one (s:ByteArray) (c:UInt8) (w:World) :
  Calls Tryz.prog 44 #[.string s,.string ⟨#[c]⟩] w fun e w'=>e=.returned (.int .i64 (Lib.countByte s.data.toList c))/\w'=w:=Any.strings_Count_one Tryz.lays138 s c w
def Tryz.lays99_ren:Go.Shelf.Ren:=⟨fun|99=>91|206=>148|n=>n,fun|9=>9|4=>4|3=>3|n=>n,fun|n=>n⟩
theorem Tryz.lays99:Go.Proofs.Lays.n99 Tryz.prog Tryz.lays99_ren:={
 mixed:=by kernel_rfl
 f99:=Tryz.func91.trans zCs
 f206:=Tryz.func148.trans zCs
 t3:=Tryz.underlying3
 a3:=Tryz.isAgg3
 z3:=Tryz.sizeOf3
 v3:=Tryz.zeroValue3
 t4:=Tryz.underlying4
 a4:=Tryz.isAgg4
 z4:=Tryz.sizeOf4
 v4:=Tryz.zeroValue4
 t9:=Tryz.underlying9
 a9:=Tryz.isAgg9
 z9:=Tryz.sizeOf9
 v9:=Tryz.zeroValue9 }
open Go.RowKit Go.Lib in
theorem Tryz.strings_HasPrefix (s p:ByteArray) (w:World) :
  Calls Tryz.prog 91 #[.string s,.string p] w fun e w'=>e=.returned (.bool (Lib.hasPrefix s.data.toList p.data.toList))/\w'=w:=Any.strings_HasPrefix Tryz.lays99 s p w
def Tryz.lays146_ren:Go.Shelf.Ren:=⟨fun|146=>64|221=>122|268=>164|138=>44|143=>103|195=>101|197=>200|218=>102|219=>153|260=>232|217=>189|225=>190|224=>191|267=>192|266=>220|314=>221|n=>n,fun|9=>9|31=>30|3=>3|4=>4|0=>0|105=>228|21=>21|5=>5|46=>223|119=>261|139=>264|138=>263|146=>242|51=>80|n=>n,fun|1=>0|3=>4|4=>5|n=>n⟩
theorem Tryz.lays146:Go.Proofs.Lays.n146 Tryz.prog Tryz.lays146_ren:={
 mixed:=by kernel_rfl
 f138:=Tryz.func44.trans zCs
 f143:=Tryz.func103.trans zCs
 f146:=Tryz.func64.trans zCs
 f195:=Tryz.func101.trans zCs
 f197:=Tryz.func200.trans zCs
 f217:=Tryz.func189.trans zCs
 f218:=Tryz.func102.trans zCs
 f219:=Tryz.func153.trans zCs
 f221:=Tryz.func122.trans zCs
 f224:=Tryz.func191.trans zCs
 f225:=Tryz.func190.trans zCs
 f260:=Tryz.func232.trans zCs
 f266:=Tryz.func220.trans zCs
 f267:=Tryz.func192.trans zCs
 f268:=Tryz.func164.trans zCs
 f314:=Tryz.func221.trans zCs
 t0:=Tryz.underlying0
 a0:=Tryz.isAgg0
 z0:=Tryz.sizeOf0
 v0:=Tryz.zeroValue0
 t3:=Tryz.underlying3
 a3:=Tryz.isAgg3
 z3:=Tryz.sizeOf3
 v3:=Tryz.zeroValue3
 t4:=Tryz.underlying4
 a4:=Tryz.isAgg4
 z4:=Tryz.sizeOf4
 v4:=Tryz.zeroValue4
 t5:=Tryz.underlying5
 a5:=Tryz.isAgg5
 z5:=Tryz.sizeOf5
 v5:=Tryz.zeroValue5
 t9:=Tryz.underlying9
 a9:=Tryz.isAgg9
 z9:=Tryz.sizeOf9
 v9:=Tryz.zeroValue9
 t21:=Tryz.underlying21
 a21:=Tryz.isAgg21
 z21:=Tryz.sizeOf21
 v21:=Tryz.zeroValue21
 t31:=Tryz.underlying30
 a31:=Tryz.isAgg30
 z31:=Tryz.sizeOf30
 v31:=Tryz.zeroValue30
 t46:=Tryz.underlying223
 a46:=Tryz.isAgg223
 z46:=Tryz.sizeOf223
 v46:=Tryz.zeroValue223
 t51:=Tryz.underlying80
 a51:=Tryz.isAgg80
 z51:=Tryz.sizeOf80
 v51:=Tryz.zeroValue80
 t105:=Tryz.underlying228
 a105:=Tryz.isAgg228
 z105:=Tryz.sizeOf228
 v105:=Tryz.zeroValue228
 t119:=Tryz.underlying261
 a119:=Tryz.isAgg261
 z119:=Tryz.sizeOf261
 t138:=Tryz.underlying263
 a138:=Tryz.isAgg263
 z138:=Tryz.sizeOf263
 v138:=Tryz.zeroValue263
 t139:=Tryz.underlying264
 a139:=Tryz.isAgg264
 z139:=Tryz.sizeOf264
 v139:=Tryz.zeroValue264
 t146:=Tryz.underlying242
 a146:=Tryz.isAgg242
 z146:=Tryz.sizeOf242
 v146:=Tryz.zeroValue242
 g1:=by kernel_rfl
 g3:=by kernel_rfl
 g4:=by kernel_rfl }
open Go.RowKit Go.Lib in
theorem Tryz.strings_Split (s sep:ByteArray) (m:Int) (w:World) (hs:s.size<4294967281) (hm:w.cell? ⟨0,0,none⟩=some (.int .i64 m)) (h1:1<=sep.size) :
  Calls Tryz.prog 64 #[.string s,.string sep] w fun e w'=>
   e=.returned (.slice (some ⟨w.heap.size,0,none⟩) (Lib.countB s sep+1) (Lib.countB s sep+1))/\w'=w.alloc (.cells ((Lib.splitB sep 0 (Lib.countB s sep) s).map Value.string).toArray 9):=Any.strings_Split Tryz.lays146 (by kernel_rfl) s sep m w hs hm h1
end Go.Proofs
namespace Go.Proofs.YthmhncflhnbedaaGreatDoor
open Go.GL Go.RowKit Go.Stele
attribute [local irreducible] LOps qae qag LCalls Go.GL.Pure qaA qaq qah
section
variable {B0:Nat} {w0:World}
theorem qhT {f:FuncId} [TEnter Tryz.prog f] (p:UInt8->Bool) (hp:∀ c:UInt8,LCalls (KC B0 w0) f [int .u8 c.toNat] [] (Ret (bool (p c)))) (s:List UInt8) (hs:s.length<=1000000000) :
  LCalls (KC B0 w0) 92 [str s,.atom (.func (.func f) #[] #[])] [] (Ret (str (s.takeWhile p))):=by
 refine cI Tryz.func92 rfl (n:=22) rfl rfl rfl ?_;refine gaa ?_
 refine oL (fun k l H=>∃ m:Nat,k=s.length-m/\l=[(0,str s),(1,.atom (.func (.func f) #[] #[])),(5,int .i64 m)]/\H=[]/\m<=s.length/\s.takeWhile p=s.take m++(s.drop m).takeWhile p)
  ⟨_,_,_,⟨0,rfl,rfl,rfl,by omega,by simp⟩,⟨rfl,rfl,rfl,trivial⟩,zhR _⟩ ?_
 rintro k l H ⟨m,rfl,rfl,rfl,hm,hI⟩ j hj;refine gab ?_;refine oB 10 rfl (fun ht=>?_) (fun ht=>?_)
 ·have hlt:m<s.length:=by simpa using ht
  refine zQ88 ?_;refine oS (S.fnV [_] rfl rfl (hp s[m]) ?_) rfl;refine gad ?_;refine oC rfl (fun hc=>?_) (fun hc=>?_)
  ·refine gaa ?_;exact ⟨_,_,_,by omega,⟨m+1,rfl,rfl,rfl,by omega,(qbA hlt hI).1 (by simpa using hc)⟩,⟨rfl,rfl,qaf zo,trivial⟩,zhR _,hj⟩
  ·refine gaa ?_;refine zQ92 ?_;refine gae ?_
   exact qac hj (zra rfl) (by
    rw[(qbA hlt hI).2 (by simpa using hc)]
    simp[qbv])
 ·have hge:s.length<=m:=by simpa using ht
  refine gae ?_;refine oC rfl (fun hc=>?_) (fun hc=>?_)
  ·cases hc
  ·refine gaa ?_;refine zQ92 ?_;refine gae ?_
   exact qac hj (zra rfl) (by
    rw[qdD hge hI]
    simp[qbv])
theorem qfT (s p:List UInt8):LCalls (KC B0 w0) 91 [str s,str p] [] (Ret (bool (p.isPrefixOf s))):=
 LCalls.ret_of (vs:=[.string ⟨s.toArray⟩,.string ⟨p.toArray⟩]) fun w _=>(Go.Proofs.Tryz.strings_HasPrefix _ _ w).mono fun e w' he=>by
  obtain ⟨h1,h2⟩:=he;subst h2;exact ⟨by simpa [Go.Lib.hasPrefix] using h1,Below.refl _ _⟩
theorem qpU (s:List UInt8) (hs:s.length<=1000000000):LCalls (KC B0 w0) 42 [str s] [] (Ret (int .i64 (qa4 s))):=by
 refine cI Tryz.func42 rfl (n:=11) rfl rfl rfl ?_;refine gaw ?_;refine oS (sF [_,_] rfl (qfT s [47,47]) ?_) rfl;refine gam ?_;refine oC rfl (fun hc=>?_) (fun hc=>?_)
 ·refine gaf ?_;refine oS (sF [_,_] rfl (qhT qe8 qnQ s hs) ?_) rfl;refine gac ?_;exact qac rfl (zra rfl) (by simp only[qbv,qa4,hc,if_true])
 ·refine gau ?_;refine oS (sF [_,_] rfl (qhT qbm qn2 s hs) ?_) rfl;refine gac ?_;exact qac rfl (zra rfl) (by simp only[qbv,qa4,hc,Bool.false_eq_true,if_false])
end
end Go.Proofs.YthmhncflhnbedaaGreatDoor
namespace Go.Proofs.YthmhncflhnbedaaGreatDoor
open Go Go.Shelf Go.RowKit Go.Sort Go.Lib
set_option maxHeartbeats 6400000
theorem qil (u : Nat) (hu64 : u < 18446744073709551616) (w : World) (htab : Lib.TabIs Tryz.prog w "internal/strconv.uint64pow10" .u64 Lib.pow10Tab) :
  Calls Tryz.prog 188 #[.int .u64 u,.int .i64 10] w fun e w'=>e=.returned (.string ⟨(Lib.decDigits u).toArray⟩)/\Below w.heap.size w w':=by
 have mixed:Tryz.prog.follows .mixedOrders=true:=by kernel_rfl
 have t3:=Tryz.underlying3;have a3:=Tryz.isAgg3;have z3:=Tryz.sizeOf3;have v3:=Tryz.zeroValue3;have t9:=Tryz.underlying9;have a9:=Tryz.isAgg9;have z9:=Tryz.sizeOf9;have v9:=Tryz.zeroValue9;have t4:=Tryz.underlying4;have a4:=Tryz.isAgg4;have z4:=Tryz.sizeOf4;have v4:=Tryz.zeroValue4;have t142:=Tryz.underlying237;have a142:=Tryz.isAgg237;have z142:=Tryz.sizeOf237;have v142:=Tryz.zeroValue237;have t0:=Tryz.underlying0;have a0:=Tryz.isAgg0;have z0:=Tryz.sizeOf0;have v0:=Tryz.zeroValue0;have t119:=Tryz.underlying195;have a119:=Tryz.isAgg195;have z119:=Tryz.sizeOf195;have v119:=Tryz.zeroValue195;have t85:=Tryz.underlying121;have a85:=Tryz.isAgg121;have z85:=Tryz.sizeOf121;have v85:=Tryz.zeroValue121;have t5:=Tryz.underlying5;have a5:=Tryz.isAgg5;have z5:=Tryz.sizeOf5;have v5:=Tryz.zeroValue5;have e137:∀ args w,(callFunc 216 args).run Tryz.prog w=.ok (.enter 216 args) w:=enters_of Tryz.func216 (by kernel_rfl) rfl;have e138:∀ args w,(callFunc 217 args).run Tryz.prog w=.ok (.enter 217 args) w:=enters_of Tryz.func217 (by kernel_rfl) rfl;have e139:∀ args w,(callFunc 218 args).run Tryz.prog w=.ok (.enter 218 args) w:=enters_of Tryz.func218 (by kernel_rfl) rfl
 by_cases hs:u<100
 ·go_enter Tryz.func188,Tryz.ntmps188
  go_wp2_with (go_at_fn (216);refine (Tryz.internal_strconv_small u hs _).mono ?_;rintro e w' ⟨rfl,rfl⟩)
  go_ret
  exact ⟨rfl,Below.refl _ _⟩
 ·have hu1:1<=u:=by omega
  have hnd20:Lib.nDigits u<=20:=by have:=Lib.numDigits_eq u hu1 hu64;split at this <;> omega
  have hal:Tryz.prog.arrayLen 237=24:=by simp[Program.arrayLen,Tryz.underlying237]
  have hsl:∀ W,(Instr.sliceAt 237 (.pointer (some ⟨w.heap.size,0,none⟩)) none (some (.int .i64 (Lib.nDigits u:Int))) none).run Tryz.prog W=.ok (.slice (some ⟨w.heap.size,0,none⟩) (Lib.nDigits u) 24) W:=fun W=>by
   rw[run_sliceAt_array_h W 237 ⟨w.heap.size,0,none⟩ (by simp[Program.arrayLen,Program.elem,Tryz.underlying237]) .i64 (Lib.nDigits u:Int) (by omega) (by rw[hal];omega)]
   go_simp
  have hH0:=Lib.holds_zero0 w 237 (Lib.nDigits u) (by omega);have hfmt:=Tryz.internal_strconv_formatBase10 w.heap.size 0 24 u (Array.replicate (Lib.nDigits u) 0) (w.alloc (.cells Lib.zeros24 237)) hH0 (by rw[Array.size_replicate];exact Lib.lt_pow_nDigits u) hu64 (by rw[Array.size_replicate];omega);rw[Array.size_replicate] at hfmt;have HH0:=Lib.hid hH0;clear hH0 hal
  go_enter Tryz.func188,Tryz.ntmps188
  go_wp2_with (first
   |(go_at_fn (217);refine (Tryz.internal_strconv_numDigits u hu1 hu64 _ (Lib.tabIs_alloc htab _)).mono ?_;rintro e w' ⟨rfl,rfl⟩))
  go_at_fn (218)
  refine hfmt.mono ?_;rintro e w' ⟨rfl,k,v',dk,rfl,hF⟩
  have hcv:(convert 121 9 (.slice (some ⟨w.heap.size,0,none⟩) (Lib.nDigits u) 24)).run Tryz.prog ((putRow (fun (b:UInt8)=>Value.int .u8 (b.toNat:Int)) (w.alloc (.cells Lib.zeros24 237)) w.heap.size 0 dk).drewN k)=.ok (.string ⟨(Lib.decDigits u).toArray⟩) ((putRow (fun (b:UInt8)=>Value.int .u8 (b.toNat:Int)) (w.alloc (.cells Lib.zeros24 237)) w.heap.size 0 dk).drewN k):=by
   have h:=run_convert_bytes_back (P:=Tryz.prog) ((putRow (fun (b:UInt8)=>Value.int .u8 (b.toNat:Int)) (w.alloc (.cells Lib.zeros24 237)) w.heap.size 0 dk).drewN k) 121 9 5 ⟨w.heap.size,0,none⟩ 24 (Lib.decDigits u) Tryz.underlying121 Tryz.underlying5 Tryz.underlying9 (fun j hj=>by
    rw[Lib.row_is_numeral hF j hj,Lib.add_plain,World.cell?_drewN]
    exact cell?_putRow (fun (b:UInt8)=>Value.int .u8 (b.toNat:Int)) _ w.heap.size 0 _ dk HH0.out (by rw[hF.size,Array.size_replicate]) j (by rw[hF.size];rw[Lib.decDigits_length] at hj;exact hj))
   rw[Lib.decDigits_length] at h;exact h
  go_wp2
  go_ret
  refine ⟨rfl,?_⟩;obtain ⟨os,eo⟩:=Lib.fin_at w (.cells Lib.zeros24 237) dk k 0;rw[eo];exact Lib.below_grow _ w (zNr _) k os
end Go.Proofs.YthmhncflhnbedaaGreatDoor
namespace Go.Proofs.YthmhncflhnbedaaGreatDoor
open Go.GL Go.RowKit Go.Stele
attribute [local irreducible] LOps qae qag LCalls Go.GL.Pure qaA qaq qah
structure GW (B0:Nat) (w0:World):Prop where
 pow10 : Go.Lib.TabIs Tryz.prog w0 "internal/strconv.uint64pow10" .u64 Go.Lib.pow10Tab
 errRange : ∃ tp p, w0.var? Tryz.prog "strconv.ErrRange" = some #[.iface tp p]
 big:8<=B0
section
variable {B0:Nat} {w0:World}
theorem GW.tab (h : GW B0 w0) {w : World} (hb : Below B0 w0 w) : Go.Lib.TabIs Tryz.prog w "internal/strconv.uint64pow10" .u64 Go.Lib.pow10Tab := by
 have hg : Tryz.prog.globalNamed "internal/strconv.uint64pow10" = some 3 := by kernel_rfl
 exact var?_below hb hg (Nat.lt_of_lt_of_le zDd h.big) h.pow10
theorem GW.err (h : GW B0 w0) {w : World} (hb : Below B0 w0 w) : ∃ tp p, w.var? Tryz.prog "strconv.ErrRange" = some #[.iface tp p] := by
 have hg : Tryz.prog.globalNamed "strconv.ErrRange" = some 2 := by kernel_rfl
 obtain ⟨tp,p,hv⟩:=h.errRange;exact ⟨tp,p,var?_below hb hg (Nat.lt_of_lt_of_le zDd h.big) hv⟩
theorem qdu (hG:GW B0 w0) (u:Nat) (hu:u<=9223372036854775807):LCalls (KC B0 w0) 116 [int .i64 u] [] (Ret (str (Go.Lib.decDigits u))):=
 LCalls.ret_of (vs:=[.int .i64 u]) fun w hw=>(Go.Proofs.Tryz.strconv_Itoa u zo zo w (hG.tab hw)).mono fun e w' he=>by
  obtain ⟨h1,k,os,h2⟩:=he;rw[Go.Lib.itoa_nonneg] at h1;exact ⟨h1,by rw[h2];exact Go.Lib.below_grow _ w (zNr _) k os⟩
theorem qhq (hG:GW B0 w0) (u:Nat) (hu:u<18446744073709551616):LCalls (KC B0 w0) 150 [int .u64 u,int .i64 10] [] (Ret (str (Go.Lib.decDigits u))):=by
 refine cI Tryz.func150 rfl (n:=8) rfl rfl rfl ?_;refine gaw ?_;refine oS (sF [_,_] rfl (LCalls.ret_of (vs:=[.int .u64 u,.int .i64 10]) fun w hw=>qil u hu w (hG.tab hw)) ?_) rfl;refine gae ?_;exact qac rfl (zra rfl) rfl
theorem qhs (s:List UInt8) (hs:s.length<=1000000000) (u:Nat) (h:Go.Lib.parseUintB 32 s=.ok u) :
  LCalls (KC B0 w0) 149 [str s,int .i64 10,int .i64 32] [] (Ret (.tuple [int .u64 u,.atom .nilIface])):=by
 refine LCalls.mono (LCalls.of_belowT (vs:=[.string ⟨s.toArray⟩,.int .i64 10,.int .i64 32]) (p:=fun us=>us=[.int .u64 u,.nilIface]) fun w hw=>?_) ?_
 ·refine (Go.Proofs.Tryz.strconv_ParseUint_10_at32_ok ⟨s.toArray⟩ ?_ u (by simpa using h) w).mono fun e w' he=>⟨_,he.1,rfl,?_⟩
  ·show s.toArray.size<=_
   simp
   omega
  ·rcases he.2 with h2|h2
   ·rw[h2];exact Below.refl _ _
   ·rw[h2];exact ⟨rfl,rfl,rfl,by rw[Go.Lib.bytesWorld_size];omega,fun k hk=>Go.Lib.bytesWorld_at_old w 5 _ k hk⟩
 ·rintro r H ⟨v,rfl,⟨us,rfl,rfl⟩,rfl⟩;exact ⟨rfl,rfl⟩
theorem qi6 (hG:GW B0 w0) (s:List UInt8) (hs:s.length<=1000000000) (h:Go.Lib.parseUintB 32 s=.range) :
  LCalls (KC B0 w0) 149 [str s,int .i64 10,int .i64 32] [] (qh0 fun lv=>∃ v t p,lv=.tuple [int .u64 v,.atom (.iface t p)]):=by
 refine LCalls.mono (LCalls.of_belowT (vs:=[.string ⟨s.toArray⟩,.int .i64 10,.int .i64 32]) (p:=fun us=>∃ v t p,us=[.int .u64 v,.iface t p]) fun w hw=>?_) ?_
 ·obtain ⟨tp,p,hv⟩:=hG.err hw;refine (Go.Proofs.Tryz.strconv_ParseUint_10_at32_range_var ⟨s.toArray⟩ ?_ (by simpa using h) tp p w hv).mono fun e w' he=>?_
  ·show s.toArray.size<=_
   simp
   omega
  ·obtain ⟨N,h1,_,_,h4⟩:=he;exact ⟨_,h1,⟨_,_,_,rfl⟩,h4⟩
 ·rintro r H ⟨v,rfl,⟨us,⟨a,t,p,rfl⟩,rfl⟩,rfl⟩;exact ⟨_,rfl,⟨a,t,p,rfl⟩,rfl⟩
theorem qhv (s:List UInt8):LCalls (KC B0 w0) 44 [str s,str [10]] [] (Ret (int .i64 (s.count 10))):=
 LCalls.ret_of (vs:=[.string ⟨s.toArray⟩,.string ⟨#[10]⟩]) fun w _=>(Go.Proofs.Tryz.strings_Count_one _ _ w).mono fun e w' he=>by
  obtain ⟨h1,h2⟩:=he;subst h2;exact ⟨by simpa [Go.Lib.countByte] using h1,Below.refl _ _⟩
end
end Go.Proofs.YthmhncflhnbedaaGreatDoor
namespace Go.Proofs.YthmhncflhnbedaaGreatDoor
open Go.GL Go.RowKit Go.Stele
attribute [local irreducible] LOps qae qag LCalls Go.GL.Pure qaA qaq qah
def qbJ (t:Tok):LV:=.agg [int .i64 t.kind,str t.text,int .i64 t.line]
def qj0 (r:TokR):LV:=.tuple [qbJ r.1,int .i64 r.2.1,int .i64 r.2.2]
theorem qaC (l:List (List UInt8)):qdc 1 (l.map str):=fun v hv=>by
 obtain ⟨x,_,rfl⟩:=List.mem_map.1 hv;exact ⟨rfl,rfl⟩
section
variable {B0:Nat} {w0:World}
theorem qgc:LCalls (KC B0 w0) 152 [] [] (Ret (.list (qaX.map str))):=by
 refine cI Tryz.func152 rfl (n:=2) rfl rfl rfl ?_;refine ga0 ?_;refine oS (sL [_,_,_,_,_,_,_,_] rfl (qaC qaX) rfl rfl rfl ?_) rfl;refine gac ?_;exact qac rfl (rC (rT (v:=.list _) rfl zsr) rN) rfl
theorem qoy:LCalls (KC B0 w0) 100 [] [] (Ret (.list (qcL.map str))):=by
 refine cI Tryz.func100 rfl (n:=2) rfl rfl rfl ?_;refine ga0 ?_;refine oS (sL [_,_,_,_,_,_,_,_,_,_,_,_,_,_,_,_,_,_,_,_,_,_,_,_] rfl (qaC qcL) rfl rfl rfl ?_) rfl;refine gac ?_;exact qac rfl (rC (rT (v:=.list _) rfl zsr) rN) rfl
theorem qoi (l:List (List UInt8)) (x:List UInt8) (hl:l.length<=1000000000):LCalls (KC B0 w0) 154 [.list (l.map str),str x] [] (qh0 fun lv=>∃ n:Int,lv=int .i64 n/\decide (0<=n)=l.contains x):=by
 refine cI Tryz.func154 rfl (n:=19) rfl rfl rfl ?_;refine gaa ?_
 refine oL (fun k ls H=>∃ m:Nat,k=l.length-m/\ls=[(0,.list (l.map str)),(1,str x),(7,int .i64 (l.map str).length),(8,int .i64 m)]/\H=[]/\m<=l.length/\l.contains x=(l.drop m).contains x)
  ⟨_,_,_,⟨0,rfl,rfl,rfl,by omega,by simp⟩,⟨rfl,rfl,rfl,rfl,trivial⟩,zhR _⟩ ?_
 rintro k ls H ⟨m,rfl,rfl,rfl,hm,hI⟩ j hj;refine gai ?_;refine oC rfl (fun hc=>?_) (fun hc=>?_)
 ·have hlt:m<l.length:=by simpa using hc
  refine gaa ?_;refine oP (xR (el':=str l[m]) rfl rfl zo (by simp) rfl rfl) rfl ?_;refine gac ?_;refine oC rfl (fun he=>?_) (fun he=>?_)
  ·refine gaa ?_;have hx:x=l[m]:=by simpa using he
   exact qb4 hj (zra rfl) ⟨m,rfl,by
    rw[hx,decide_eq_true zo]
    simp⟩
  ·refine gaa ?_;have hx:¬ x=l[m]:=by simpa using he
   exact ⟨_,_,_,by omega,⟨m+1,rfl,rfl,rfl,by omega,by
    rw[hI,List.drop_eq_getElem_cons hlt,List.contains_cons]
    simp[hx]⟩,⟨rfl,rfl,rfl,qaf zo,trivial⟩,zhR _,hj⟩
 ·have hge:l.length<=m:=by simpa using hc
  refine gaa ?_
  exact qb4 hj (zra rfl) ⟨-1,rfl,by
   rw[hI,List.drop_eq_nil_of_le hge]
   rfl⟩
theorem qdC (l:List (List UInt8)) (x:List UInt8) (hl:l.length<=1000000000):LCalls (KC B0 w0) 104 [.list (l.map str),str x] [] (Ret (bool (l.contains x))):=by
 refine cI Tryz.func104 rfl (n:=9) rfl rfl rfl ?_;refine gaa ?_;refine oS (S.fnIf [_,_] rfl (qoi l x hl) ?_) rfl;rintro lv ⟨n,rfl,hn⟩;refine gac ?_;exact qac rfl (zra rfl) (by rw[<-hn];rfl)
theorem qoZ (s:List UInt8) (hs:s.length<=1000000000):LCalls (KC B0 w0) 98 [str s] [] (Ret (qj0 (qcv s))):=by
 refine cI Tryz.func98 rfl (n:=21) rfl rfl rfl ?_;refine gag ?_;refine oS (sA fun b=>?_) rfl;refine gaw ?_;refine oS (sF [_,_] rfl (qhT qaH qoc s hs) ?_) rfl;refine gab ?_;refine oC rfl (fun hc=>?_) (fun hc=>?_)
 ·refine gab ?_
  exact qac rfl (rC (rA rfl zm0 rfl zsr) (rC (zrt rfl) (zra rfl))) (by
   rw[qcv,if_pos (by have:=zt hc;omega)]
   rfl)
 ·refine gaa ?_;refine oS (sF [] rfl qgc ?_) rfl;refine gax ?_;refine oS (sF [_,_] rfl (qdC qaX (s.takeWhile qaH) zDd) ?_) rfl;refine gam ?_;refine oC rfl (fun hk=>?_) (fun hk=>?_)
  ·refine gab ?_
   exact qac rfl (rC (rA rfl zm0 rfl zsr) (rC (zrt rfl) (zra rfl))) (by
    rw[qcv,if_neg (by have:=zf hc;omega),if_pos hk]
    rfl)
  ·refine gab ?_
   exact qac rfl (rC (rA rfl zm0 rfl zsr) (rC (zrt rfl) (zra rfl))) (by
    rw[qcv,if_neg (by have:=zf hc;omega),if_neg (by rw[hk];decide)]
    rfl)
end
end Go.Proofs.YthmhncflhnbedaaGreatDoor
namespace Go.Stele
mutual
def ndE:Ex->Nat
 |.mk op num name args=>1+ndEs args
def ndEs:List Ex->Nat
 |[]=>0
 |x::l=>ndE x+ndEs l
end
mutual
def ndS:Sm->Nat
 |.mk kind name index value thn els=>1+(ndEs index+ndEs value+ndSs thn+ndSs els)
def ndSs:List Sm->Nat
 |[]=>0
 |x::l=>ndS x+ndSs l
end
def ndF (f:FnD):Nat:=1+f.params.length+f.locals.length+ndSs f.body
def ndFs:List FnD->Nat
 |[]=>0
 |f::l=>ndF f+ndFs l
theorem qgN (x:Ex):1<=ndE x:=by
 obtain ⟨op,num,name,args⟩:=x;rw[ndE];omega
theorem qkv (x:Sm):1<=ndS x:=by
 obtain ⟨k,n,i,v,t,e⟩:=x;rw[ndS];omega
theorem qbT:∀ l:List Ex,l.length<=ndEs l
 |[]=>zNr _
 |x::l=>by
  have h1:=qgN x;have h2:=qbT l;rw[ndEs,zLc];omega
theorem qcn:∀ l:List Sm,l.length<=ndSs l
 |[]=>zNr _
 |x::l=>by
  have h1:=qkv x;have h2:=qcn l;rw[ndSs,zLc];omega
theorem qdF:∀ l:List FnD,l.length<=ndFs l
 |[]=>zNr _
 |x::l=>by
  have h2:=qdF l;rw[ndFs,zLc];unfold ndF;omega
theorem qc8:∀ {l:List FnD} {f:FnD},f∈l->ndF f<=ndFs l
 |g::l,f,h=>by
  rw[ndFs];rcases zMi.1 h with rfl|h
  ·omega
  ·have:=qc8 h;omega
theorem qdo:∀ {l:List Ex} {f:Ex},f∈l->ndE f<=ndEs l
 |g::l,f,h=>by
  rw[ndEs];rcases zMi.1 h with rfl|h
  ·omega
  ·have:=qdo h;omega
mutual
theorem qsL:∀ x:Ex,ndE x<=2000000->smE x
 |.mk op num name args,h=>by
  rw[ndE] at h;have:=qbT args;exact ⟨show args.length<=2000000 by omega,qkG args (by omega)⟩
theorem qkG:∀ l:List Ex,ndEs l<=2000000->smEs l
 |[],_=>trivial
 |x::l,h=>by
  rw[ndEs] at h;exact ⟨qsL x (by omega),qkG l (by omega)⟩
end
mutual
theorem qtd:∀ x:Sm,ndS x<=2000000->smS x
 |.mk k n i v t e,h=>by
  rw[ndS] at h;have h1:=qbT i;have h2:=qbT v;have h3:=qcn t;have h4:=qcn e;exact ⟨show i.length<=2000000 by omega,show v.length<=2000000 by omega,show t.length<=2000000 by omega,show e.length<=2000000 by omega,qkG i (by omega),qkG v (by omega),qki t (by omega),qki e (by omega)⟩
theorem qki:∀ l:List Sm,ndSs l<=2000000->smSs l
 |[],_=>trivial
 |x::l,h=>by
  rw[ndSs] at h;exact ⟨qtd x (by omega),qki l (by omega)⟩
end
theorem qi5 {f:FnD} (h:ndF f<=2000000):SmF f:=by
 unfold ndF at h;have:=qcn f.body;exact ⟨show f.params.length<=2000000 by omega,show f.locals.length<=2000000 by omega,show f.body.length<=2000000 by omega,qki _ (by omega)⟩
/-! ### Needs and depths -/
def KnB (B D:Nat) (known:List FSum):Prop:=∀ k∈known,k.need<=B/\k.params+1<=B/\k.depth<=D
theorem qnJ (B:Nat) (c:CEnv):∀ (l:List Ex) (i m:Nat),(∀ x∈l,qa9 c x<=4 * ndE x+B)->qfg i (qaK c l) m<=max m (4 * ndEs l+i+B)
 |[],i,m,_=>by rw[qaK,qfg];exact Nat.le_max_left _ _
 |x::l,i,m,h=>by
  rw[qaK,qfg,ndEs];have h1:=h x zMs;have h2:=qnJ B c l (i+1) (max m (i+qa9 c x)) (fun y hy=>h y (zMo _ hy));have h3:=qgN x;omega
mutual
theorem qef (B D:Nat) (c:CEnv) (hB:KnB B D c.funcs):∀ x:Ex,qa9 c x<=4 * ndE x+B
 |.mk op num name args=>by
  rw[qa9,ndE];have ha:=qkT B D c hB args
  have h0:(qaK c args).headD 0<=4 * ndEs args+B:=by
   cases args with
   |nil=>rw[qaK];exact Nat.zero_le _
   |cons x l=>
    have:=ha x zMs;rw[qaK,ndEs];show qa9 c x<=_;omega
  have h1:(qaK c args).tail.headD 0<=4 * ndEs args+B:=by
   cases args with
   |nil=>rw[qaK];exact Nat.zero_le _
   |cons x l=>
    cases l with
    |nil=>rw[qaK,qaK];exact Nat.zero_le _
    |cons y l=>
     have:=ha y (zMo _ zMs);rw[qaK,qaK,ndEs,ndEs];show qa9 c y<=_;omega
  have hc:qkw c name (qaK c args)<=4 * (1+ndEs args)+B:=by
   unfold qkw;split
   ·omega
   split
   ·omega
   ·unfold CEnv.fn;split
    ·rename_i k hk
     have hkb:=hB k (List.mem_of_find?_eq_some hk);have:=qnJ B c args 0 (max (k.params+1) k.need) ha;omega
    ·omega
  unfold opN;split
  ·omega
  split
  ·omega
  split
  ·exact hc
  split
  ·omega
  split
  ·omega
  split
  ·omega
  split
  ·omega
  split
  ·omega
  ·omega
theorem qkT (B D:Nat) (c:CEnv) (hB:KnB B D c.funcs):∀ (l:List Ex),∀ x∈l,qa9 c x<=4 * ndE x+B
 |[],x,h=>(List.not_mem_nil h).elim
 |a::l,x,h=>by
  rcases zMi.1 h with h1|h1
  ·rw[h1];exact qef B D c hB a
  ·exact qkT B D c hB l x h1
end
theorem qq8 {B D:Nat} {c:CEnv} (hB:KnB B D c.funcs) (op name:Nm):qeR c op name<=D+1:=by
 unfold qeR;split
 ·unfold CEnv.fn;split
  ·rename_i k hk
   have:=hB k (List.mem_of_find?_eq_some hk);omega
  ·omega
 ·omega
mutual
theorem qmE (B D:Nat) (c:CEnv) (hB:KnB B D c.funcs):∀ x:Ex,depE c x<=D+1
 |.mk op num name args=>by
  rw[depE];have h1:=qgl B D c hB args;have h2:=qq8 hB op name;omega
theorem qgl (B D:Nat) (c:CEnv) (hB:KnB B D c.funcs):∀ l:List Ex,qcg c l<=D+1
 |[]=>Nat.zero_le _
 |x::l=>by
  rw[qcg];have h1:=qmE B D c hB x;have h2:=qgl B D c hB l;omega
end
theorem qio {B D:Nat} {c:CEnv} (hB:KnB B D c.funcs) (l:List Ex):qa9 c (l.headD default)<=4 * (ndEs l+1)+B:=by
 cases l with
 |nil=>
  have:=qef B D c hB (default:Ex)
  have h1:ndE (default:Ex)=1:=by
   show ndE (.mk [] 0 [] [])=1;rw[ndE,ndEs]
  show qa9 c default<=_;rw[ndEs]
  omega
 |cons x l=>
  have:=qef B D c hB x;show qa9 c x<=_;rw[ndEs];omega
mutual
theorem qqJ (B D:Nat) (c:CEnv) (hB:KnB B D c.funcs):∀ x:Sm,qiw c x<=8 * ndS x+B
 |.mk k n i v t e=>by
  rw[qiw,ndS];have h1:=qio hB v;have h2:=qio hB i;have h3:=qfm B D c hB t;have h4:=qfm B D c hB e;split
  ·omega
  split
  ·omega
  split
  ·omega
  ·omega
theorem qfm (B D:Nat) (c:CEnv) (hB:KnB B D c.funcs):∀ l:List Sm,qaW c l<=8 * ndSs l+B
 |[]=>by rw[qaW];exact Nat.zero_le _
 |x::l=>by
  rw[qaW,ndSs];have h1:=qqJ B D c hB x;have h2:=qfm B D c hB l;omega
end
mutual
theorem qqp (B D:Nat) (c:CEnv) (hB:KnB B D c.funcs):∀ x:Sm,depS c x<=D+1
 |.mk k n i v t e=>by
  rw[depS];have h1:=qgl B D c hB v;have h2:=qgl B D c hB i;have h3:=qeK B D c hB t;have h4:=qeK B D c hB e;omega
theorem qeK (B D:Nat) (c:CEnv) (hB:KnB B D c.funcs):∀ l:List Sm,qcO c l<=D+1
 |[]=>by rw[qcO];exact Nat.zero_le _
 |x::l=>by
  rw[qcO];have h1:=qqp B D c hB x;have h2:=qeK B D c hB l;omega
end
theorem qpu {B D:Nat} {vars arrays later:List Nm} {known:List FSum} {f:FnD} (hB:KnB B D known):(sumF vars arrays later known f).need<=8 * ndF f+B/\(sumF vars arrays later known f).params+1<=8 * ndF f+B/\(sumF vars arrays later known f).depth<=D+1:=by
 have h1:=qfm B D (envF vars arrays later known f) hB f.body;have h2:=qeK B D (envF vars arrays later known f) hB f.body;unfold sumF ndF;simp only;omega
end Go.Stele
namespace Go.Proofs.YthmhncflhnbedaaGreatDoor.Chk
open Go.GL Go.RowKit Go.Stele
def vio (nm:List UInt8) (e:Int):List PanicEntry:=[{ v:=.iface 103 (.agg #[.string ⟨nm.toArray⟩,.int .i64 e]),recovered:=false }]
def chkN:Nat->List UInt8->Bool
 |_,[]=>true
 |i,c::r=>(if i=0 then qaz c else qaH c) && chkN (i+1) r
theorem qjG:∀ (r:List UInt8) (i:Nat),i≠0->chkN i r=r.all qaH
 |[],_,_=>rfl
 |c::r,i,h=>by rw[chkN,if_neg h,qjG r (i+1) zo];rfl
theorem qrN {s:List UInt8} (h0:s≠[]) (h1:s.length<=24) (h2:qfP.contains s=false):isNm s=chkN 0 s:=by
 unfold isNm;rw[decide_eq_true h1,h2]
 cases s with
 |nil=>exact absurd rfl h0
 |cons c r=>
  rw[chkN,if_pos rfl,qjG r 1 zDd];rfl
theorem qpy (s:List UInt8):qfP.contains s=(qaX.contains s || decide (s=[105,110]) || decide (s=[111,117,116])):=by
 have h:qfP.contains s=(qaX.contains s || (decide (s=[105,110]) || decide (s=[111,117,116]))):=by
  unfold qfP;rw[Bool.eq_iff_iff]
  simp
 rw[h,Bool.or_assoc]
instance:TMap Tryz.prog 55 3 (.int .i64 0) (int .i64 0):=⟨⟨9,by kernel_rfl,by kernel_rfl⟩,fun w=>(Go.zero_of_info (P:=Tryz.prog) (n:=1) zk).1 w,fun _ _=>qar⟩
instance:TMap Tryz.prog 106 4 (.bool false) (bool false):=⟨⟨9,by kernel_rfl,by kernel_rfl⟩,fun w=>(Go.zero_of_info (P:=Tryz.prog) (n:=1) zk).1 w,fun _ _=>qar⟩
instance:TMap Tryz.prog 107 173 (.agg [.int .i64 0,.int .i64 0,.int .i64 0].toArray) (.agg ([.int .i64 0,.int .i64 0,.int .i64 0].map .atom)):=⟨⟨9,by kernel_rfl,by kernel_rfl⟩,fun w=>(Go.zero_of_info (P:=Tryz.prog) (n:=3) zk).1 w,fun w L=>qrj w L _⟩
def opKV:KV:=[([110,117,109],int .i64 0),([118,97,114],int .i64 0),([101,108,101,109],int .i64 1),([110,101,103],int .i64 1),([110,111,116],int .i64 1),([99,97,108,108],int .i64 (-1)),([124,124],int .i64 2),([38,38],int .i64 2),([61,61],int .i64 2),([33,61],int .i64 2),([60],int .i64 2),([62],int .i64 2),([60,61],int .i64 2),([62,61],int .i64 2),([94],int .i64 2),([43],int .i64 2),([45],int .i64 2),([42],int .i64 2),([47],int .i64 2),([37],int .i64 2)]
theorem qrg (op:List UInt8):GL.kvGet opKV op=if qba op = -2 then none else some (int .i64 (qba op)):=by
 have key:∀ x∈[[110,117,109],[118,97,114],[101,108,101,109],[110,101,103],[110,111,116],[99,97,108,108],[124,124],[38,38],[61,61],[33,61],[60],[62],[60,61],[62,61],[94],[43],[45],[42],[47],[37]],GL.kvGet opKV x=if qba x = -2 then none else some (int .i64 (qba x)):=by
  intro x hx;simp only[zMi,List.not_mem_nil,or_false] at hx;rcases hx with rfl|rfl|rfl|rfl|rfl|rfl|rfl|rfl|rfl|rfl|rfl|rfl|rfl|rfl|rfl|rfl|rfl|rfl|rfl|rfl <;> rfl
 by_cases h:op∈[[110,117,109],[118,97,114],[101,108,101,109],[110,101,103],[110,111,116],[99,97,108,108],[124,124],[38,38],[61,61],[33,61],[60],[62],[60,61],[62,61],[94],[43],[45],[42],[47],[37]]
 ·exact key op h
 ·simp only[zMi,List.not_mem_nil,or_false,not_or] at h
  have h2:qba op = -2:=by
   obtain ⟨a1,a2,a3,a4,a5,a6,a7,a8,a9,a10,a11,a12,a13,a14,a15,a16,a17,a18,a19,a20⟩:=h;unfold qba;rw[if_neg (fun h=>h.elim a1 a2),if_neg (fun h=>h.elim a3 (fun h=>h.elim a4 a5)),if_neg (show ¬ op=qa8 from a6),if_neg];unfold qeW;simp only[zMi,List.not_mem_nil,or_false,not_or];exact ⟨a7,a8,a9,a10,a11,a12,a13,a14,a15,a16,a17,a18,a19,a20⟩
  rw[if_pos h2];obtain ⟨a1,a2,a3,a4,a5,a6,a7,a8,a9,a10,a11,a12,a13,a14,a15,a16,a17,a18,a19,a20⟩:=h;unfold opKV;simp only[GL.kvGet];rw[if_neg (Ne.symm a1),if_neg (Ne.symm a2),if_neg (Ne.symm a3),if_neg (Ne.symm a4),if_neg (Ne.symm a5),if_neg (Ne.symm a6),if_neg (Ne.symm a7),if_neg (Ne.symm a8),if_neg (Ne.symm a9),if_neg (Ne.symm a10),if_neg (Ne.symm a11),if_neg (Ne.symm a12),if_neg (Ne.symm a13),if_neg (Ne.symm a14),if_neg (Ne.symm a15),if_neg (Ne.symm a16),if_neg (Ne.symm a17),if_neg (Ne.symm a18),if_neg (Ne.symm a19),if_neg (Ne.symm a20)]
attribute [local irreducible] LOps qae qag LCalls Go.GL.Pure qaA qaq qah LQ LAny qaF qap LS
section
variable {B0:Nat} {w0:World} {H:Heap}
theorem qli (b:Bool) (nm:List UInt8) (e:Int):LCalls (KC B0 w0) 113 [bool b,str nm,int .i64 e] H (fun r H'=>H'=H/\r=if b=true then .ret (.tuple []) else .panic (vio nm e)):=by
 refine cI Tryz.func113 rfl (n:=12) rfl rfl rfl ?_;refine gaa ?_;refine oC rfl (fun hc=>?_) (fun hc=>?_)
 ·have hb:b=false:=by simpa using hc
  subst hb;refine gab ?_;refine oS (qag.panic rfl fun e' he'=>?_) rfl;exact qah.panic (he'.trans rfl) zhr ⟨rfl,rfl⟩
 ·have hb:b=true:=by simpa using hc
  subst hb;refine gar ?_;exact rO rfl rN zhr ⟨rfl,rfl⟩
theorem qj7 (op:List UInt8):LCalls (KC B0 w0) 247 [str op] [] (Ret (int .i64 (qba op))):=by
 refine cI Tryz.func247 rfl (n:=15) rfl rfl rfl ?_;refine ga0 ?_;refine oS (S.kvNew fun om=>?_) rfl;refine oS (S.kvInsE (m:=opKV.take 0) (k:=[110,117,109]) (lv:=int .i64 (0)) (opKV.take 1) rfl rfl rfl pH zk fun c0=>?_) rfl;refine oS (S.kvInsE (m:=opKV.take 1) (k:=[118,97,114]) (lv:=int .i64 (0)) (opKV.take 2) rfl rfl rfl pH zk fun c1=>?_) rfl;refine oS (S.kvInsE (m:=opKV.take 2) (k:=[101,108,101,109]) (lv:=int .i64 (1)) (opKV.take 3) rfl rfl rfl pH zk fun c2=>?_) rfl;refine oS (S.kvInsE (m:=opKV.take 3) (k:=[110,101,103]) (lv:=int .i64 (1)) (opKV.take 4) rfl rfl rfl pH zk fun c3=>?_) rfl;refine oS (S.kvInsE (m:=opKV.take 4) (k:=[110,111,116]) (lv:=int .i64 (1)) (opKV.take 5) rfl rfl rfl pH zk fun c4=>?_) rfl;refine oS (S.kvInsE (m:=opKV.take 5) (k:=[99,97,108,108]) (lv:=int .i64 (-1)) (opKV.take 6) rfl rfl rfl pH zk fun c5=>?_) rfl;refine oS (S.kvInsE (m:=opKV.take 6) (k:=[124,124]) (lv:=int .i64 (2)) (opKV.take 7) rfl rfl rfl pH zk fun c6=>?_) rfl;refine oS (S.kvInsE (m:=opKV.take 7) (k:=[38,38]) (lv:=int .i64 (2)) (opKV.take 8) rfl rfl rfl pH zk fun c7=>?_) rfl;refine oS (S.kvInsE (m:=opKV.take 8) (k:=[61,61]) (lv:=int .i64 (2)) (opKV.take 9) rfl rfl rfl pH zk fun c8=>?_) rfl;refine oS (S.kvInsE (m:=opKV.take 9) (k:=[33,61]) (lv:=int .i64 (2)) (opKV.take 10) rfl rfl rfl pH zk fun c9=>?_) rfl;refine oS (S.kvInsE (m:=opKV.take 10) (k:=[60]) (lv:=int .i64 (2)) (opKV.take 11) rfl rfl rfl pH zk fun c10=>?_) rfl;refine oS (S.kvInsE (m:=opKV.take 11) (k:=[62]) (lv:=int .i64 (2)) (opKV.take 12) rfl rfl rfl pH zk fun c11=>?_) rfl;refine oS (S.kvInsE (m:=opKV.take 12) (k:=[60,61]) (lv:=int .i64 (2)) (opKV.take 13) rfl rfl rfl pH zk fun c12=>?_) rfl;refine oS (S.kvInsE (m:=opKV.take 13) (k:=[62,61]) (lv:=int .i64 (2)) (opKV.take 14) rfl rfl rfl pH zk fun c13=>?_) rfl;refine oS (S.kvInsE (m:=opKV.take 14) (k:=[94]) (lv:=int .i64 (2)) (opKV.take 15) rfl rfl rfl pH zk fun c14=>?_) rfl;refine oS (S.kvInsE (m:=opKV.take 15) (k:=[43]) (lv:=int .i64 (2)) (opKV.take 16) rfl rfl rfl pH zk fun c15=>?_) rfl;refine oS (S.kvInsE (m:=opKV.take 16) (k:=[45]) (lv:=int .i64 (2)) (opKV.take 17) rfl rfl rfl pH zk fun c16=>?_) rfl;refine oS (S.kvInsE (m:=opKV.take 17) (k:=[42]) (lv:=int .i64 (2)) (opKV.take 18) rfl rfl rfl pH zk fun c17=>?_) rfl;refine oS (S.kvInsE (m:=opKV.take 18) (k:=[47]) (lv:=int .i64 (2)) (opKV.take 19) rfl rfl rfl pH zk fun c18=>?_) rfl;refine oS (S.kvInsE (m:=opKV.take 19) (k:=[37]) (lv:=int .i64 (2)) (opKV.take 20) rfl rfl rfl pH zk fun c19=>?_) rfl;refine LOps.weak (H':=[(om,.map (kvs opKV) c19)]) zhr ?_;refine gax ?_;have hg:=qrg op
 by_cases h0:qba op = -2
 ·rw[if_pos h0] at hg;refine oP (Pure.kvMiss2 rfl rfl zm0 (show GL.kvGet opKV op=none from hg)) rfl ?_;refine gaa ?_;refine oC rfl (fun _=>?_) (fun hc=>by cases hc);refine gap ?_;exact rR rfl (zra rfl) zhn ⟨by rw[h0];rfl,rfl⟩
 ·rw[if_neg h0] at hg;refine oP (Pure.kvHit2 rfl rfl zm0 (show GL.kvGet opKV op=some (int .i64 (qba op)) from hg)) rfl ?_;refine gaa ?_;refine oC rfl (fun hc=>by cases hc) (fun _=>?_);refine gaa ?_;exact rR rfl (zra rfl) zhn ⟨rfl,rfl⟩
theorem qiT (s:List UInt8):LCalls (KC B0 w0) 156 [str s] [] (Ret (bool (isNm s))):=by
 refine cI Tryz.func156 rfl (n:=65) rfl rfl rfl ?_;refine gaa ?_
 have retF:∀ (h:isNm s=false) {e:Env} {C:Ctx} {n:Nat},e.ds=[]->e.s 2=bool false->qah C n [ResultVar.tmp 2] (Ret (bool (isNm s))) .ret e []:=fun h {e C n} hd he=>by
  rw[h];exact qac hd (rC (rT he zsr) rN) rfl
 refine oB 7 rfl (fun h1=>?_) (fun h1=>?_)
 ·have h0:s=[]:=zt h1;refine gad ?_;refine oC rfl (fun _=>?_) (fun hc=>by cases hc);refine gap ?_;exact retF (by rw[h0];rfl) rfl rfl
 have h0:s≠[]:=zf h1;refine gac ?_;refine oB 12 rfl (fun h2=>?_) (fun h2=>?_)
 ·have hl:24<s.length:=by
   have:=zt h2;omega
  refine gad ?_;refine oC rfl (fun _=>?_) (fun hc=>by cases hc);refine gap ?_;exact retF (by unfold isNm;rw[decide_eq_false zo];rfl) rfl rfl
 have hl:s.length<=24:=by
  have:=zf h2;omega
 refine gad ?_;refine oB 16 rfl (fun h3=>?_) (fun h3=>?_)
 ·have h4:s=[105,110]:=zt h3;refine gad ?_;refine oC rfl (fun _=>?_) (fun hc=>by cases hc);refine gap ?_;exact retF (by rw[h4];rfl) rfl rfl
 refine gad ?_;refine oB 20 rfl (fun h5=>?_) (fun h5=>?_)
 ·have h4:s=[111,117,116]:=zt h5;refine gad ?_;refine oC rfl (fun _=>?_) (fun hc=>by cases hc);refine gap ?_;exact retF (by rw[h4];rfl) rfl rfl
 refine gal ?_;refine oS (sF [] rfl qgc ?_) rfl;refine gal ?_;refine oS (sF [_,_] rfl (qdC qaX s zDd) ?_) rfl;refine gae ?_;have hnn:=qpy s;rw[h3,h5,Bool.or_false,Bool.or_false] at hnn;refine oC rfl (fun hk=>?_) (fun hk=>?_)
 ·have hk':qaX.contains s=true:=hk;refine gap ?_
  exact retF (by
   unfold isNm
   rw[hnn,hk',Bool.not_true,Bool.and_false,Bool.false_and]) rfl rfl
 have hk':qaX.contains s=false:=hk;rw[hk'] at hnn;have heq:=qrN h0 hl hnn;refine gab ?_
 refine oL (fun k ls H'=>∃ pre l1,s=pre++l1/\k=l1.length/\ls=[(0,str s),(26,int .i64 (s.length:Int)),(27,int .i64 (pre.length:Int))]/\H'=[]/\isNm s=chkN pre.length l1)
  ⟨s.length,_,_,⟨[],s,rfl,rfl,rfl,rfl,heq⟩,⟨rfl,rfl,rfl,trivial⟩,zhR _⟩ ?_
 rintro k ls H' ⟨pre,l1,hLe,rfl,rfl,rfl,hI⟩ j hj
 have hb2:pre.length<=24:=by
  rw[hLe,zLa] at hl;omega
 refine gai ?_;refine oC rfl (fun hc=>?_) (fun hc=>?_);rotate_left
 ·have hlen:=zf hc;rw[hLe,zLa] at hlen
  obtain rfl:l1=[]:=by
   cases l1 with
   |nil=>rfl
   |cons a l2=>simp at hlen;omega
  refine gaa ?_;exact qac hj (zra rfl) (by rw[hI];rfl)
 have hlen:=zt hc;rw[hLe,zLa] at hlen
 obtain ⟨a,l2,rfl⟩:∃ a l2,l1=a::l2:=by
  cases l1 with
  |nil=>simp at hlen
  |cons a l2=>exact ⟨a,l2,rfl⟩
 have hget:s[((pre.length:Nat):Int).toNat]? = some a:=by
  rw[Int.toNat_natCast,hLe,List.getElem?_append_right (zNr _),Nat.sub_self];rfl
 rw[chkN] at hI
 have next:∀ {e:Env} {ds:List Deferred} (h:(if pre.length=0 then qaz a else qaH a)=true),e.ds=ds->e.s 0=str s->e.s 26=int .i64 (s.length:Int)->e.s 27=int .i64 ((pre.length:Int)+1)->qew (fun k ls H'=>∃ pre l1,s=pre++l1/\k=l1.length/\ls=[(0,str s),(26,int .i64 (s.length:Int)),(27,int .i64 (pre.length:Int))]/\H'=[]/\isNm s=chkN pre.length l1) (a::l2).length ds e []:=fun {e ds} h hd e0 e26 e27=>by
  rw[h,Bool.true_and] at hI;exact ⟨l2.length,_,_,Nat.lt_succ_self _,⟨pre++[a],l2,by rw[hLe];simp,rfl,rfl,rfl,by rw[hI,zLa];rfl⟩,⟨e0,e26,e27.trans (qaf (by simp)),trivial⟩,zhR _,hd⟩
 refine gaa ?_;refine zQ56 ?_;refine LOps.cut [(0,str s),(3,int .i64 (pre.length:Int)),(4,bool (qaz a)),(26,int .i64 (s.length:Int)),(27,int .i64 (pre.length:Int))] ?_ (fun j2 hj2=>?_)
 ·refine oB 34 rfl (fun h6=>?_) (fun h6=>?_)
  ·refine gal ?_;refine zQ56 ?_;exact ⟨⟨rfl,rfl,qai (by unfold qaz;rw[show decide (97<=cv a)=true from h6,Bool.true_and]),rfl,rfl,trivial⟩,rfl,rfl⟩
  ·refine gae ?_;exact ⟨⟨rfl,rfl,qai (by unfold qaz;rw[show decide (97<=cv a)=false from h6,Bool.false_and]),rfl,rfl,trivial⟩,rfl,rfl⟩
 refine gaa ?_;refine oB 42 rfl (fun h7=>?_) (fun h7=>?_);rotate_left
 ·have hl1:qaz a=true:=by simpa using h7
  refine gac ?_;refine oC rfl (fun hc=>by cases hc) (fun _=>?_);refine gaa ?_;refine next ?_ ?_ ?_ ?_ ?_
  ·rw[hl1];unfold qaH;rw[hl1];split <;> rfl
  ·exact hj2.trans hj
  ·rfl
  ·rfl
  ·rfl
 have hl0:qaz a=false:=by simpa using h7
 refine gaq ?_;refine oB 45 rfl (fun h8=>?_) (fun h8=>?_)
 ·have hp0:pre.length=0:=by have:=zt h8;omega
  refine gac ?_;refine oC rfl (fun _=>?_) (fun hc=>by cases hc);refine gaz ?_;exact retF (by rw[hI,if_pos hp0,hl0,Bool.false_and]) (hj2.trans hj) rfl
 have hp0:¬ pre.length=0:=by have:=zf h8;omega
 rw[if_neg hp0] at hI;refine gal ?_;refine zQ56 ?_;refine oB 50 rfl (fun h9=>?_) (fun h9=>?_);rotate_left
 ·have h95:decide (cv a=95)=true:=by simpa using h9
  refine gac ?_;refine oC rfl (fun hc=>by cases hc) (fun _=>?_);refine gaa ?_;refine next ?_ ?_ ?_ ?_ ?_
  ·rw[if_neg hp0];unfold qaH;rw[h95,Bool.or_true]
  ·exact hj2.trans hj
  ·rfl
  ·rfl
  ·rfl
 have h95:decide (cv a=95)=false:=by simpa using h9
 refine gal ?_;refine oP (pI (c:=a) rfl rfl zo hget) rfl ?_;refine gad ?_;refine oB 55 rfl (fun h10=>?_) (fun h10=>?_)
 ·have h48:decide (48<=cv a)=false:=by
   have:cv a<48:=zt h10;exact decide_eq_false zo
  refine gad ?_;refine oC rfl (fun _=>?_) (fun hc=>by cases hc);refine gaz ?_;exact retF (by rw[hI];unfold qaH qao;rw[hl0,h95,h48];rfl) (hj2.trans hj) rfl
 have h48:decide (48<=cv a)=true:=by
  have:¬ cv a<48:=zf h10;exact decide_eq_true zo
 refine gal ?_;refine zQ56 ?_;refine oC rfl (fun h11=>?_) (fun h11=>?_)
 ·have h57:decide (cv a<=57)=false:=by
   have:57<cv a:=zt h11;exact decide_eq_false zo
  refine gaz ?_;exact retF (by rw[hI];unfold qaH qao;rw[hl0,h95,h57,Bool.and_false];rfl) (hj2.trans hj) rfl
 ·have h57:decide (cv a<=57)=true:=by
   have:¬ 57<cv a:=zf h11;exact decide_eq_true zo
  refine gaa ?_;refine next ?_ ?_ ?_ ?_ ?_
  ·rw[if_neg hp0];unfold qaH qao;rw[h48,h57];simp
  ·exact hj2.trans hj
  ·rfl
  ·rfl
  ·rfl
end
end Go.Proofs.YthmhncflhnbedaaGreatDoor.Chk
namespace Go.GL
open Go.RowKit
section
variable {C:Ctx} {e:Env} {H:Heap} {dst:Option Nat} {ty:TypeId} {pos:String} {aft:Array Edge} {g:Option (Nat×Bool)} {K:LV->Heap->Prop} {X:List PanicEntry->Heap->Prop} {x y z:Operand} {k:IntKind}
theorem qqt (a b:Nat):(if (a:Int)<(b:Int) then (b:Int) else (a:Int))=((max a b:Nat):Int):=by
 split <;> omega
theorem Pure.max2 {a b:Nat} (hx:e.ev x=int k (a:Int)) (hy:e.ev y=int k (b:Int)) {t u:TypeId}:Pure C ⟨dst,.call { callee:=.builtin .max,args:=#[x,y],argTypes:=#[t,u] },ty,pos,aft,g⟩ e H (int k ((max a b:Nat):Int)):=
 .of_any fun ρ _ _ h=>⟨_,qar,fun w'=>by
  have h0:∀ (cs:Array Bool) (args:Array Value),builtin .max #[t,u] ty cs args=(do Pure.pure (.value (<-Builtin.max_ #[t,u] ty args))):=fun _ _=>rfl;rw[qaI,h0];have:=qqt a b;simp[Builtin.max_,Builtin.max2,qam h hx,qam h hy]
  split <;> omega⟩
theorem Pure.max3 {a b c:Nat} (hx:e.ev x=int k (a:Int)) (hy:e.ev y=int k (b:Int)) (hz:e.ev z=int k (c:Int)) {t u v:TypeId}:Pure C ⟨dst,.call { callee:=.builtin .max,args:=#[x,y,z],argTypes:=#[t,u,v] },ty,pos,aft,g⟩ e H (int k ((max (max a b) c:Nat):Int)):=
 .of_any fun ρ _ _ h=>⟨_,qar,fun w'=>by
  have h0:∀ (cs:Array Bool) (args:Array Value),builtin .max #[t,u,v] ty cs args=(do Pure.pure (.value (<-Builtin.max_ #[t,u,v] ty args))):=fun _ _=>rfl;rw[qaI,h0];simp[Builtin.max_,Builtin.max2,qam h hx,qam h hy,qam h hz]
  repeat' split
  all_goals omega⟩
theorem Pure.max2e {A B:Int} (a b:Nat) (hx:e.ev x=int k A) (hy:e.ev y=int k B) (ha:A=(a:Int)) (hb:B=(b:Int)) {t u:TypeId}:Pure C ⟨dst,.call { callee:=.builtin .max,args:=#[x,y],argTypes:=#[t,u] },ty,pos,aft,g⟩ e H (int k ((max a b:Nat):Int)):=by
 subst ha hb;exact Pure.max2 hx hy
theorem Pure.max3e {A B D:Int} (a b d:Nat) (hx:e.ev x=int k A) (hy:e.ev y=int k B) (hz:e.ev z=int k D) (ha:A=(a:Int)) (hb:B=(b:Int)) (hd:D=(d:Int)) {t u v:TypeId}:Pure C ⟨dst,.call { callee:=.builtin .max,args:=#[x,y,z],argTypes:=#[t,u,v] },ty,pos,aft,g⟩ e H (int k ((max (max a b) d:Nat):Int)):=by
 subst ha hb hd;exact Pure.max3 hx hy hz
theorem Pure.eqlT {a b:Int} {xT yT:TypeId} (h:a=b) (hx:e.ev x=int k a) (hy:e.ev y=int k b):Pure C ⟨dst,.binOp .eql xT x y yT,ty,pos,aft,g⟩ e H (bool true):=by
 have:=Pure.eql (C:=C) (H:=H) (dst:=dst) (ty:=ty) (pos:=pos) (aft:=aft) (g:=g) (xT:=xT) (yT:=yT) hx hy
 rwa [decide_eq_true h] at this
theorem Pure.eqlF {a b:Int} {xT yT:TypeId} (h:¬ a=b) (hx:e.ev x=int k a) (hy:e.ev y=int k b):Pure C ⟨dst,.binOp .eql xT x y yT,ty,pos,aft,g⟩ e H (bool false):=by
 have:=Pure.eql (C:=C) (H:=H) (dst:=dst) (ty:=ty) (pos:=pos) (aft:=aft) (g:=g) (xT:=xT) (yT:=yT) hx hy
 rwa [decide_eq_false h] at this
def qdG (m:KV) (l:List (List UInt8)):Prop:=∀ k,kvGet m k=if k∈l then some (bool true) else none
theorem qdG.nil:qdG [] []:=fun k=>by simp[kvGet]
theorem qdG.add {m:KV} {l:List (List UInt8)} (h:qdG m l) (s:List UInt8):qdG (kvPut m s (bool true)) (l++[s]):=fun k=>by
 rw[kvGet_put,h k]
 by_cases h1:s=k
 ·rw[if_pos h1,if_pos (by rw[h1];simp)]
 ·rw[if_neg h1]
  by_cases h2:k∈l
  ·rw[if_pos h2,if_pos (List.mem_append_left _ h2)]
  ·rw[if_neg h2,if_neg (by
    intro h3;rcases List.mem_append.1 h3 with h3|h3
    ·exact h2 h3
    ·exact h1 (List.mem_singleton.1 h3).symm)]
theorem Pure.setHas {t el:TypeId} {zv:Value} [h:TMap C.P t el zv (bool false)] {b clock:Nat} {m:KV} {l:List (List UInt8)} {s:List UInt8} (hm:e.ev x=.atom (.map (some b))) (hx:e.ev y=str s) (hb:(b,.map (kvs m) clock)∈H) (hs:qdG m l) :
  Pure C ⟨dst,.lookup t x y false,ty,pos,aft,g⟩ e H (bool (decide (s∈l))):=by
 by_cases h1:s∈l
 ·rw[decide_eq_true h1];exact Pure.kvHit hm hx hb (by rw[hs s,if_pos h1])
 ·rw[decide_eq_false h1];exact Pure.kvMiss hm hx hb (by rw[hs s,if_neg h1])
end
end Go.GL
namespace Go.Proofs.YthmhncflhnbedaaGreatDoor.Chk
open Go.GL Go.RowKit Go.Stele
structure KB where
 cb:Nat
 gm:Nat
 vm:Nat
 am:Nat
 fm:Nat
 om:Nat
 G:KV
 V:KV
 A:KV
 F:KV
 O:KV
 g1:Nat
 g2:Nat
 g3:Nat
 g4:Nat
 g5:Nat
 name:List UInt8
def qi9 (f:FSum):LV:=.agg [int .i64 (f.params:Int),int .i64 (f.need:Int),int .i64 (f.depth:Int)]
structure KBok (k:KB) (c:CEnv):Prop where
 G:qdG k.G c.globals
 V:qdG k.V c.vars
 A:qdG k.A c.arrays
 O:qdG k.O c.own
 F:∀ n,GL.kvGet k.F n=(c.fn n).map qi9
def ckH (k:KB) (d:Nat):Heap:=[(k.cb,.cells 109 [.atom (.map (some k.gm)),.atom (.map (some k.vm)),.atom (.map (some k.am)),.atom (.map (some k.fm)),str k.name,.atom (.map (some k.om)),int .i64 (d:Int)]),(k.gm,.map (kvs k.G) k.g1),(k.vm,.map (kvs k.V) k.g2),(k.am,.map (kvs k.A) k.g3),(k.fm,.map (kvs k.F) k.g4),(k.om,.map (kvs k.O) k.g5)]
def qgS (err:Int) (lv:LV) (H':Heap) (r:LRes) (H:Heap):Prop:=(err=0/\r=.ret lv/\H=H')∨(err≠0/\(∃ nm,r=.panic (vio nm err))/\H=[])
section
variable {C:Ctx} {n:Nat} {e:Env} {H:Heap} {dst:Option Nat} {ty:TypeId} {pos:String} {aft:Array Edge} {g:Option (Nat×Bool)} {K:LV->Heap->Prop} {X:List PanicEntry->Heap->Prop}
theorem sK {err:Int} {lv:LV} {H1 H' F:Heap} {f:FuncId} [TEnter C.P f] (args:List Operand) {ats:Array TypeId} {av:List LV} (has:args.map e.ev=av) (hp:H.Perm (H1++F))
  (hc:LCalls C f av H1 (qgS err lv H')) (hk:err=0->K lv (H'++F)) (hx:∀ nm,err≠0->X (vio nm err) F):qag C ⟨dst,.call { callee:=.value (.func f),args:=args.toArray,argTypes:=ats },ty,pos,aft,g⟩ e H K X:=by
 refine S.callH args has hp hc ?_ ?_
 ·rintro v H2 (⟨h1,h2,rfl⟩|⟨_,⟨nm,h2⟩,_⟩)
  ·cases h2;exact hk h1
  ·cases h2
 ·rintro ch H2 (⟨_,h2,_⟩|⟨h1,⟨nm,h2⟩,rfl⟩)
  ·cases h2
  ·cases h2;exact hx nm h1
theorem qag.callK {err:Int} {lv:LV} {H':Heap} {f:FuncId} [TEnter C.P f] (args:List Operand) {ats:Array TypeId} {av:List LV} (has:args.map e.ev=av)
  (hc:LCalls C f av H (qgS err lv H')) (hk:err=0->K lv H') (hx:∀ nm,err≠0->X (vio nm err) []):qag C ⟨dst,.call { callee:=.value (.func f),args:=args.toArray,argTypes:=ats },ty,pos,aft,g⟩ e H K X:=by
 refine qag.conseq (sK (F:=[]) (K:=fun lv H'=>K lv H') (X:=X) args has (by rw[zLz]) hc (fun h=>by rw[zLz];exact hk h) hx) (fun lv H' h=>⟨lv,H',vR _,zhR _,h⟩)
theorem retK {err:Int} {lv:LV} {H':Heap} {rs:List ResultVar} {vs:List LV} (hd:e.ds=[]) (h:qbF C n e H rs vs) (he:err=0) (hv:qbv vs=lv) (hH:HSub H' H):qah C n rs (qgS err lv H') .ret e H:=
 rR hd h hH (.inl ⟨he,by rw[hv],rfl⟩)
theorem qsn {err:Int} {lv:LV} {H':Heap} {rs:List ResultVar} {vs:List LV} (hd:e.ds=[]) (h:qbF C n e H rs vs) (he:err=0) (hv:qbv vs=lv) (hH:HSub H' H):qah C n rs (qgS err lv H') .normal e H:=
 rO hd h hH (.inl ⟨he,by rw[hv],rfl⟩)
theorem panK {err er:Int} {lv:LV} {H':Heap} {rs:List ResultVar} {nm:List UInt8} (hd:e.ds=[]) (he:err=er) (h0:er≠0):qah C n rs (qgS err lv H') (.panic (vio nm er)) e H:=
 qah.panic hd zhn (.inr ⟨by rw[he];exact h0,⟨nm,by rw[he]⟩,rfl⟩)
end
attribute [local irreducible] LOps qae qag LCalls Go.GL.Pure qaA qaq qah LQ LAny qaF qap LS
section
variable {B0:Nat} {w0:World}
theorem qaB (b:Bool) (nm:List UInt8) (er:Int) (h0:er≠0):LCalls (KC B0 w0) 113 [bool b,str nm,int .i64 er] [] (qgS (if b=true then 0 else er) (.tuple []) []):=
 LCalls.mono (qli b nm er) fun r H ⟨h1,h2⟩=>by
  cases b with
  |true=>exact .inl ⟨rfl,h2,h1⟩
  |false=>exact .inr ⟨h0,⟨nm,h2⟩,h1⟩
theorem qb7 {k:KB} {c:CEnv} (hk:KBok k c) (d:Nat) (name:List UInt8):LCalls (KC B0 w0) 230 [ptr k.cb 0,str name] (ckH k d) (qgS (qbj c name) (.tuple []) (ckH k d)):=by
 generalize hI:qbj c name=E;unfold qbj at hI;refine cI Tryz.func230 rfl (n:=34) rfl rfl rfl ?_;refine gaa ?_;refine oP (Pure.setHas rfl rfl zm2 hk.V) rfl ?_;have both:∀ {e:Env} {Q:Post} {ops:Array Oper} {rest:List Oper} {n:Nat},True:=fun {_ _ _ _ _}=>trivial;refine oB 10 rfl (fun h1=>?_) (fun h1=>?_)
 ·have hin:name∈c.vars∨name∈c.own:=.inl (zt h1);refine gaa ?_;refine oS (sK (H1:=[]) (F:=ckH k d) [_,_,_] rfl zpr (qaB true name 10 zDd) (fun _=>?_) (fun nm h=>absurd rfl h)) rfl;refine gan ?_;refine oS (sK (H1:=[]) (F:=ckH k d) [_,_,_] rfl zpr (qaB true name 7 zDd) (fun _=>?_) (fun nm h=>absurd rfl h)) rfl;refine gam ?_;exact qsn rfl rN (by rw[<-hI,if_pos hin]) rfl zhr
 have hv:name ∉ c.vars:=zf h1;refine gad ?_;refine oP (Pure.setHas rfl rfl zm5 hk.O) rfl ?_;refine oB 17 rfl (fun h2=>?_) (fun h2=>?_)
 ·have hin:name∈c.vars∨name∈c.own:=.inr (zt h2);refine gaa ?_;refine oS (sK (H1:=[]) (F:=ckH k d) [_,_,_] rfl zpr (qaB true name 10 zDd) (fun _=>?_) (fun nm h=>absurd rfl h)) rfl;refine gan ?_;refine oS (sK (H1:=[]) (F:=ckH k d) [_,_,_] rfl zpr (qaB true name 7 zDd) (fun _=>?_) (fun nm h=>absurd rfl h)) rfl;refine gam ?_;exact qsn rfl rN (by rw[<-hI,if_pos hin]) rfl zhr
 have ho:name ∉ c.own:=zf h2;rw[if_neg (fun h=>h.elim hv ho)] at hI;refine gaa ?_;refine oP (Pure.setHas rfl rfl zm1 hk.G) rfl ?_;refine oB 26 rfl (fun h3=>?_) (fun h3=>?_)
 ·rw[if_pos (zt h3)] at hI;refine gad ?_;refine oS (sK (H1:=[]) (F:=ckH k d) [_,_,_] rfl zpr (qaB false name 10 zDd) (fun h=>absurd h zDd) (fun nm _ e' he'=>?_)) rfl;refine gas ?_;exact panK (he'.trans rfl) (by rw[<-hI];rfl) zDd
 ·rw[if_neg (zf h3)] at hI;refine gad ?_;refine oS (sK (H1:=[]) (F:=ckH k d) [_,_,_] rfl zpr (qaB true name 10 zDd) (fun _=>?_) (fun nm h=>absurd rfl h)) rfl;refine gan ?_;refine oS (sK (H1:=[]) (F:=ckH k d) [_,_,_] rfl zpr (qaB false name 7 zDd) (fun h=>absurd h zDd) (fun nm _ e' he'=>?_)) rfl;exact panK (he'.trans rfl) (by rw[<-hI];rfl) zDd
theorem qem {k:KB} {c:CEnv} (hk:KBok k c) (d:Nat) (name:List UInt8):LCalls (KC B0 w0) 231 [ptr k.cb 0,str name] (ckH k d) (qgS (qdr c name) (.tuple []) (ckH k d)):=by
 generalize hI:qdr c name=E;unfold qdr at hI;refine cI Tryz.func231 rfl (n:=35) rfl rfl rfl ?_;refine gaa ?_;refine oP (Pure.setHas rfl rfl zm3 hk.A) rfl ?_;refine oB 10 rfl (fun h1=>?_) (fun h1=>?_)
 ·refine gab ?_;refine oS (sK (H1:=[]) (F:=ckH k d) [_,_,_] rfl zpr (qaB true name 10 zDd) (fun _=>?_) (fun nm h=>absurd rfl h)) rfl;refine gan ?_;refine oS (sK (H1:=[]) (F:=ckH k d) [_,_,_] rfl zpr (qaB true name 7 zDd) (fun _=>?_) (fun nm h=>absurd rfl h)) rfl;refine gam ?_;exact qsn rfl rN (by rw[<-hI,if_pos (zt h1)]) rfl zhr
 rw[if_neg (zf h1)] at hI;refine gaa ?_;refine oP (Pure.setHas rfl rfl zm1 hk.G) rfl ?_;refine oB 18 rfl (fun h2=>?_) (fun h2=>?_)
 ·have hin:name∈c.globals∨name∈c.own:=.inl (zt h2);refine gad ?_;refine oS (sK (H1:=[]) (F:=ckH k d) [_,_,_] rfl zpr (qaB false name 10 zDd) (fun h=>absurd h zDd) (fun nm _ e' he'=>?_)) rfl;refine gas ?_;exact panK (he'.trans rfl) (by rw[<-hI,if_pos hin];rfl) zDd
 refine gad ?_;refine oP (Pure.setHas rfl rfl zm5 hk.O) rfl ?_;refine oB 26 rfl (fun h3=>?_) (fun h3=>?_)
 ·have hin:name∈c.globals∨name∈c.own:=.inr (zt h3);refine gad ?_;refine oS (sK (H1:=[]) (F:=ckH k d) [_,_,_] rfl zpr (qaB false name 10 zDd) (fun h=>absurd h zDd) (fun nm _ e' he'=>?_)) rfl;refine gas ?_;exact panK (he'.trans rfl) (by rw[<-hI,if_pos hin];rfl) zDd
 rw[if_neg (fun h=>h.elim (zf h2) (zf h3))] at hI;refine gad ?_;refine oS (sK (H1:=[]) (F:=ckH k d) [_,_,_] rfl zpr (qaB true name 10 zDd) (fun _=>?_) (fun nm h=>absurd rfl h)) rfl;refine gan ?_;refine oS (sK (H1:=[]) (F:=ckH k d) [_,_,_] rfl zpr (qaB false name 7 zDd) (fun h=>absurd h zDd) (fun nm _ e' he'=>?_)) rfl;exact panK (he'.trans rfl) (by rw[<-hI];rfl) zDd
end
end Go.Proofs.YthmhncflhnbedaaGreatDoor.Chk
namespace Go.Proofs.YthmhncflhnbedaaGreatDoor.Chk
open Go.GL Go.RowKit Go.Stele
@[reducible] def iv (n:Nat):LV:=int .i64 (n:Int)
attribute [local irreducible] LOps qae qag LCalls Go.GL.Pure qaA qaq qah LQ LAny qaF qap LS
section
variable {B0:Nat} {w0:World}
theorem qoS {k:KB} {c:CEnv} (hk:KBok k c) {B D:Nat} (hB:KnB B D c.funcs) (hB8:B<=100000000) (hD8:D<=100000000) (d:Nat) (hd:d<=1000000000) (name:List UInt8) (ns:List Nat) (hl:ns.length<=2000000) (hns:∀ n∈ns,n<=1000000000) :
  LCalls (KC B0 w0) 248 [ptr k.cb 0,str name,.list (ns.map iv)] (ckH k d) (qgS (callE c name ns.length) (iv (qkw c name ns)) (ckH k (max d (qeR c qa8 name)))):=by
 generalize hI:callE c name ns.length=E;generalize hN:qkw c name ns=N;generalize hDD:qeR c qa8 name=DD;unfold callE at hI;unfold qkw at hN;unfold qeR at hDD;have hll:(ns.map iv).length=ns.length:=zLm _;refine cI Tryz.func248 rfl (n:=110) rfl rfl rfl ?_;refine gaa ?_
 by_cases hin:name=[105,110]
 ·rw[if_pos hin] at hI hN;rw[if_neg (fun h=>h.2.1 hin)] at hDD;subst hDD;refine oC rfl (fun _=>?_) (fun hc=>absurd hin (zf hc));refine gaa ?_;refine oS (sK (H1:=[]) (F:=ckH k d) [_,_,_] rfl zpr (qaB (decide (((ns.map iv).length:Int)=0)) name 1 zDd) (fun h=>?_) (fun nm h e' he'=>?_)) rfl
  ·have h0:ns.length=0:=by
    by_cases h1:((ns.map iv).length:Int)=0
    ·omega
    ·rw[decide_eq_false h1] at h;cases h
   refine gaz ?_;exact retK rfl (zra rfl) (by rw[<-hI,if_pos h0]) (by rw[<-hN];rfl) (by rw[Nat.max_zero];exact zhR _)
  ·have h0:¬ ns.length=0:=by
    intro h1;rw[decide_eq_true (show ((ns.map iv).length:Int)=0 by omega)] at h;exact h rfl
   rw[show (if decide (((ns.map iv).length:Int)=0)=true then (0:Int) else 1)=1 by rw[if_neg];simp only[zDe];omega];refine gah ?_;exact panK (he'.trans rfl) (by rw[<-hI,if_neg h0]) zDd
 rw[if_neg hin] at hI hN;refine oC rfl (fun hc=>absurd (zt hc) hin) (fun _=>?_);refine gaj ?_
 by_cases hout:name=[111,117,116]
 ·rw[if_pos hout] at hI hN;rw[if_neg (fun h=>h.2.2 hout)] at hDD;subst hDD;refine oC rfl (fun _=>?_) (fun hc=>absurd hout (zf hc));refine gaa ?_;refine oS (sK (H1:=[]) (F:=ckH k d) [_,_,_] rfl zpr (qaB (decide (((ns.map iv).length:Int)=1)) name 1 zDd) (fun h=>?_) (fun nm h e' he'=>?_)) rfl
  ·have h0:ns.length=1:=by
    by_cases h1:((ns.map iv).length:Int)=1
    ·omega
    ·rw[decide_eq_false h1] at h;cases h
   obtain ⟨a,l,rfl⟩:∃ a l,ns=a::l:=by
    cases ns with
    |nil=>simp at h0
    |cons a l=>exact ⟨a,l,rfl⟩
   refine gaa ?_;refine oP (xR (el':=iv a) (cs:=[iv a]) rfl rfl zo rfl rfl rfl) rfl ?_;refine gac ?_;exact retK rfl (zra rfl) (by rw[<-hI,if_pos h0]) (by rw[<-hN];rfl) (by rw[Nat.max_zero];exact zhR _)
  ·have h0:¬ ns.length=1:=by
    intro h1;rw[decide_eq_true (show ((ns.map iv).length:Int)=1 by omega)] at h;exact h rfl
   rw[show (if decide (((ns.map iv).length:Int)=1)=true then (0:Int) else 1)=1 by rw[if_neg];simp only[zDe];omega];refine gah ?_;exact panK (he'.trans rfl) (by rw[<-hI,if_neg h0]) zDd
 rw[if_neg hout] at hI hN;rw[if_pos ⟨rfl,hin,hout⟩] at hDD;refine oC rfl (fun hc=>absurd (zt hc) hout) (fun _=>?_);refine gaa ?_;have hF:=hk.F name
 cases hfn:c.fn name with
 |none=>
  rw[hfn] at hI hF;refine oP (Pure.kvMiss2 rfl rfl zm4 hF) rfl ?_;refine gac ?_;refine oS (sA fun b7=>?_) rfl;refine gab ?_;refine oP (Pure.setHas rfl rfl zm3 hk.V) rfl ?_;refine oB 46 rfl (fun h2=>?_) (fun h2=>?_)
  ·have hbad:name∈c.vars∨name∈c.arrays∨name∈c.own:=.inl (zt h2);refine gad ?_;refine oS (sK (H1:=[]) (F:=_::ckH k d) [_,_,_] rfl zpr (qaB false name 10 zDd) (fun h=>absurd h zDd) (fun nm _ e' he'=>?_)) rfl;refine gas ?_;exact panK (he'.trans rfl) (by rw[<-hI];exact if_pos hbad) zDd
  refine gac ?_;refine oP (Pure.setHas rfl rfl zm4 hk.A) rfl ?_;refine oB 54 rfl (fun h3=>?_) (fun h3=>?_)
  ·have hbad:name∈c.vars∨name∈c.arrays∨name∈c.own:=.inr (.inl (zt h3));refine gad ?_;refine oS (sK (H1:=[]) (F:=_::ckH k d) [_,_,_] rfl zpr (qaB false name 10 zDd) (fun h=>absurd h zDd) (fun nm _ e' he'=>?_)) rfl;refine gas ?_;exact panK (he'.trans rfl) (by rw[<-hI];exact if_pos hbad) zDd
  refine gac ?_;refine oP (Pure.setHas rfl rfl zm6 hk.O) rfl ?_;refine oB 63 rfl (fun h4=>?_) (fun h4=>?_)
  ·have hbad:name∈c.vars∨name∈c.arrays∨name∈c.own:=.inr (.inr (zt h4));refine gad ?_;refine oS (sK (H1:=[]) (F:=_::ckH k d) [_,_,_] rfl zpr (qaB false name 10 zDd) (fun h=>absurd h zDd) (fun nm _ e' he'=>?_)) rfl;refine gas ?_;exact panK (he'.trans rfl) (by rw[<-hI];exact if_pos hbad) zDd
  refine gad ?_;refine oS (sK (H1:=[]) (F:=_::ckH k d) [_,_,_] rfl zpr (qaB true name 10 zDd) (fun _=>?_) (fun nm h=>absurd rfl h)) rfl;refine gan ?_;refine oS (sK (H1:=[]) (F:=_::ckH k d) [_,_,_] rfl zpr (qaB false name 7 zDd) (fun h=>absurd h zDd) (fun nm _ e' he'=>?_)) rfl;refine gas ?_
  exact panK (he'.trans rfl) (by rw[<-hI];exact if_neg (fun h=>h.elim (zf h2) (fun h=>h.elim (zf h3) (zf h4)))) zDd
 |some f=>
  rw[hfn] at hI hF hN hDD;have hkb:=hB f (List.mem_of_find?_eq_some hfn);refine oP (Pure.kvHit2 rfl rfl zm4 hF) rfl ?_;refine gac ?_;refine oS (sA fun b7=>?_) rfl;refine gab ?_;refine oS (sK (H1:=[]) (F:=_::ckH k d) [_,_,_] rfl zpr (qaB true name 10 zDd) (fun _=>?_) (fun nm h=>absurd rfl h)) rfl;refine gan ?_;refine oS (sK (H1:=[]) (F:=_::ckH k d) [_,_,_] rfl zpr (qaB true name 7 zDd) (fun _=>?_) (fun nm h=>absurd rfl h)) rfl;refine gaa ?_
  by_cases h0:ns.length=f.params
  rotate_left
  ·have h0':¬ ((ns.map iv).length:Int)=(f.params:Int):=by omega
   refine oB 76 rfl (fun h=>absurd (zt h) h0') (fun _=>?_);refine oS (sK (H1:=[]) (F:=_::ckH k d) [_,_,_] rfl zpr (qaB false name 1 zDd) (fun h=>absurd h zDd) (fun nm _ e' he'=>?_)) rfl;refine gas ?_;exact panK (he'.trans rfl) (by rw[<-hI];exact if_neg h0) zDd
  have h0':((ns.map iv).length:Int)=(f.params:Int):=by omega
  refine oB 76 rfl (fun _=>?_) (fun h=>absurd h0' (zf h));have hI0:E=0:=by rw[<-hI];exact if_pos h0
  refine oS (sK (H1:=[]) (F:=_::ckH k d) [_,_,_] rfl zpr (qaB true name 1 zDd) (fun _=>?_) (fun nm h=>absurd rfl h)) rfl;refine gad ?_;refine cD (m:=12) rfl [(b7,.cells 173 [iv f.params,iv f.need,iv f.depth])] ?_;refine zQ53 ?_;refine aT 7 rfl rfl (Pure.add rfl rfl zo) ?_;refine aL ?_ zhp;refine lO 4 (lH rfl rfl (pL (c:=iv d) rfl zm1 rfl) ?_);refine lO 8 (lH rfl rfl (Pure.max2e d (f.depth+1) rfl rfl zo zo) ?_);refine lO 9 (lH rfl rfl (pN rfl) ?_);refine lO 10 (lH rfl rfl (pF rfl) ?_);refine lO 11 (lS (H1:=[(k.cb,.cells 109 [.atom (.map (some k.gm)),.atom (.map (some k.vm)),.atom (.map (some k.am)),.atom (.map (some k.fm)),str k.name,.atom (.map (some k.om)),int .i64 (d:Int)])]) rfl (.inl rfl) rfl (show Pick _ _ _ from pT pH) zhp (sS (n:=1) (cs':=[_,_,_,_,_,_,iv (max d (f.depth+1))]) rfl pH rfl rfl rfl rfl rfl ?_));refine lD zk ?_;have hdd:max d DD=max d (f.depth+1):=by rw[<-hDD]
  rw[hdd];refine qN ?_;refine qae.perm (H':=(b7,.cells 173 [iv f.params,iv f.need,iv f.depth])::ckH k (max d (f.depth+1))) (List.Perm.swap _ _ _) ?_;refine gaa ?_;refine oP (Pure.max2e (f.params+1) f.need rfl rfl zo zo) rfl ?_;refine gaa ?_
  refine oL (fun kk ls H'=>∃ (pre l1:List Nat) (m:Nat),ns=pre++l1/\kk=l1.length/\ls=[(9,iv m),(96,.list (ns.map iv)),(97,int .i64 ((ns.map iv).length:Int)),(98,iv pre.length)]/\H'=ckH k (max d (f.depth+1))/\qfg pre.length l1 m=N)
   ⟨ns.length,_,_,⟨[],ns,max (f.params+1) f.need,rfl,rfl,rfl,rfl,hN⟩,⟨rfl,rfl,rfl,rfl,trivial⟩,zhD zhr⟩ ?_
  rintro kk ls H' ⟨pre,l1,m,hLe,rfl,rfl,rfl,hS⟩ j hj
  have hb2:pre.length<=2000000:=by
   rw[hLe,zLa] at hl;omega
  refine gai ?_;refine oC rfl (fun hc=>?_) (fun hc=>?_)
  ·have hlen:=zt hc;rw[zLm,hLe,zLa] at hlen
   obtain ⟨a,l2,rfl⟩:∃ a l2,l1=a::l2:=by
    cases l1 with
    |nil=>simp at hlen
    |cons a l2=>exact ⟨a,l2,rfl⟩
   have ha:a<=1000000000:=hns a (by rw[hLe];exact List.mem_append_right _ zMs);rw[qfg] at hS;refine gaa ?_;refine oP (xR (el':=iv a) (cs:=[iv a]) rfl rfl zo (by rw[hLe];exact get_mid iv pre a l2) rfl rfl) rfl ?_;refine gab ?_;refine oP (Pure.max2e m (pre.length+a) rfl rfl zo zo) rfl ?_;refine gaa ?_;exact ⟨l2.length,_,_,Nat.lt_succ_self _,⟨pre++[a],l2,max m (pre.length+a),by rw[hLe];simp,rfl,rfl,rfl,by rw[zLa];exact hS⟩,⟨rfl,rfl,rfl,qaf (by simp),trivial⟩,zhR _,hj⟩
  ·have hlen:=zf hc;rw[zLm,hLe,zLa] at hlen
   obtain rfl:l1=[]:=by
    cases l1 with
    |nil=>rfl
    |cons a l2=>simp at hlen;omega
   rw[qfg] at hS;refine gaa ?_;exact retK hj (zra rfl) hI0 (by rw[<-hS];rfl) zhr
end
end Go.Proofs.YthmhncflhnbedaaGreatDoor.Chk
namespace Go.Proofs.YthmhncflhnbedaaGreatDoor.Chk
open Go.GL Go.RowKit Go.Stele
theorem qmX {x y:Nat×LObj} {A B:Heap}:List.Perm (x::y::(A++B)) (A++(x::y::B)):=by
 have h:List.Perm (([x,y]++A)++B) ((A++[x,y])++B):=zPc.append_right B;rw[zAs A] at h;exact h
theorem qiy {x:Nat×LObj} {A B:Heap}:List.Perm (x::(A++B)) (A++(x::B)):=by
 have h:List.Perm (([x]++A)++B) ((A++[x])++B):=zPc.append_right B;rw[zAs A] at h;exact h
theorem qrS {x y:Nat×LObj} {A B:Heap}:List.Perm (A++(x::y::B)) (B++(x::y::A)):=by
 refine qmX.symm.trans ?_;exact (zPc (l₁:=x::y::A) (l₂:=B))
theorem qtf (n:Nat):∀ v∈[iv n],v.cells.length=1:=fun v hv=>by rw[List.mem_singleton.1 hv];rfl
theorem qcp (c:CEnv):∀ l:List Ex,(qaK c l).length=l.length
 |[]=>rfl
 |x::l=>by rw[qaK,zLc,zLc,qcp c l]
theorem qjA (c:CEnv) (x:Ex):∀ l:List Ex,qaK c (l++[x])=qaK c l++[qa9 c x]
 |[]=>rfl
 |y::l=>by
  show qaK c (y::(l++[x]))=_;rw[qaK,qjA c x l,qaK];rfl
theorem qfb (c:CEnv) (x:Ex):∀ l:List Ex,qcg c (l++[x])=max (qcg c l) (depE c x)
 |[]=>by
  show max (depE c x) 0=max 0 (depE c x)
  omega
 |y::l=>by
  show qcg c (y::(l++[x]))=_;rw[qcg,qfb c x l,qcg,Nat.max_assoc]
theorem qjx {c:CEnv} {B D:Nat} (hB:KnB B D c.funcs):∀ {l:List Ex} {n:Nat},n∈qaK c l->n<=4 * ndEs l+B
 |[],n,h=>by rw[qaK] at h;cases h
 |x::l,n,h=>by
  rw[qaK] at h;rw[ndEs];rcases zMi.1 h with rfl|h
  ·have:=qef B D c hB x;omega
  ·have:=qjx hB h;omega
attribute [local irreducible] LOps qae qag LCalls Go.GL.Pure qaA qaq qah LQ LAny qaF qap LS
section
variable {B0:Nat} {w0:World}
def qql (B0:Nat) (w0:World) (k:KB) (c:CEnv) (n:Nat):Prop:=∀ (x:Ex) (d:Nat),ndE x<=n->d<=200000000->LCalls (KC B0 w0) 229 [ptr k.cb 0,encE x] (ckH k d) (qgS (errE c x) (iv (qa9 c x)) (ckH k (max d (depE c x))))
theorem qcF {k:KB} {c:CEnv} (hk:KBok k c) {B D:Nat} (hB:KnB B D c.funcs) (hB8:B<=100000000) (hD8:D<=100000000):∀ n:Nat,n<=2000000->qql B0 w0 k c n
 |0,_=>fun x d h _=>by have:=qgN x;omega
 |n+1,hn6=>by
  have ih:=qcF hk hB hB8 hD8 n zo;intro x d hnd hd;obtain ⟨op,num,name,args⟩:=x;rw[ndE] at hnd;have hal:=qbT args;have hall:(args.map encE).length=args.length:=zLm _;generalize hI:errE c (Ex.mk op num name args)=E;rw[errE] at hI;rw[qa9,depE];rw[qbW];refine cI Tryz.func229 rfl (n:=121) rfl rfl rfl ?_;refine gag ?_;refine oS (sB rfl fun b3=>?_) rfl;refine gaa ?_;refine oS (sF [_] rfl (qj7 op) ?_) rfl;refine gad ?_;refine cM (A:=Unit) (fun _=>[(0,ptr k.cb 0),(3,ptr b3 0)]) (fun _=>(b3,.cells 182 [str op,int .u32 (num:Int),str name,.list (args.map encE)])::ckH k d) (fun _=>qba op = -1∨qba op=args.length) ?_ (fun _ hop j hj=>?_)
  ·refine cD (m:=14) rfl [(b3,.cells 182 [str op,int .u32 (num:Int),str name,.list (args.map encE)]),(k.cb,.cells 109 [.atom (.map (some k.gm)),.atom (.map (some k.vm)),.atom (.map (some k.am)),.atom (.map (some k.fm)),str k.name,.atom (.map (some k.om)),int .i64 (d:Int)])] ?_;refine aT 0 rfl rfl (pM (lv:=.atom _) rfl) ?_
   by_cases h1:qba op = -1
   ·refine LAny.take (i:=1) (zhP pH zhp) rfl zk zk zk rfl (Pure.eqlT h1 rfl rfl) ?_;refine aT 2 rfl rfl (pM (lv:=.atom _) rfl) ?_;refine LAny.takeSkip (i:=3) rfl rfl rfl rfl zk zk zk rfl ?_;refine zQ95 ?_;refine aT 8 rfl rfl (Pure.pickT (lv:=.atom _) rfl rfl) ?_;refine zQ64 ?_;refine lO 13 (lS (H1:=[]) rfl (.inl rfl) rfl zpr (zhP pH zhp) (qag.callK [_,_,_] rfl (qaB true k.name 3 zDd) (fun _=>?_) (fun nm h=>absurd rfl h)));refine qhE ?_;exact ⟨(),.inl h1,⟨rfl,rfl,trivial⟩,zhR _,rfl⟩
   ·refine LAny.take (i:=1) (zhP pH zhp) rfl zk zk zk rfl (Pure.eqlF h1 rfl rfl) ?_;refine aT 2 rfl rfl (pM (lv:=.atom _) rfl) ?_;refine LAny.tkW 3 rfl rfl rfl rfl (pM (lv:=.atom _) rfl) ?_;refine LAny.tkW 4 rfl rfl rfl rfl (pF rfl) ?_;refine LAny.tkW 5 rfl rfl rfl rfl (pL (c:=.list _) rfl zm0 rfl) ?_;refine LAny.tkW 6 rfl rfl rfl rfl (Pure.llen rfl) ?_
    by_cases h2:qba op=args.length
    ·refine LAny.takeWant (i:=7) (zhP pH zhp) rfl rfl rfl zk zk zk rfl (Pure.eqlT (show qba op=((args.map encE).length:Int) by rw[hall];exact h2) rfl rfl) ?_;refine aT 8 rfl rfl (Pure.pickF (lv:=.atom _) rfl rfl) ?_;refine zQ64 ?_;refine lO 13 (lS (H1:=[]) rfl (.inl rfl) rfl zpr (zhP pH zhp) (qag.callK [_,_,_] rfl (qaB true k.name 3 zDd) (fun _=>?_) (fun nm h=>absurd rfl h)));refine qhE ?_;exact ⟨(),.inr h2,⟨rfl,rfl,trivial⟩,zhR _,rfl⟩
    ·refine LAny.takeWant (i:=7) (zhP pH zhp) rfl rfl rfl zk zk zk rfl (Pure.eqlF (show ¬ qba op=((args.map encE).length:Int) by rw[hall];exact h2) rfl rfl) ?_;refine aT 8 rfl rfl (Pure.pickF (lv:=.atom _) rfl rfl) ?_;refine zQ64 ?_;refine lO 13 (lS (H1:=[]) rfl (.inl rfl) rfl zpr (zhP pH zhp) (qag.callK [_,_,_] rfl (qaB false k.name 3 zDd) (fun h=>absurd h zDd) (fun nm _ e' he'=>?_)));refine gas ?_;exact panK (he'.trans rfl) (by rw[<-hI,if_neg (fun h=>h.elim h1 h2)];rfl) zDd
  rw[if_pos hop] at hI;refine gaa ?_
  refine oL (fun kk ls H'=>∃ (pre l1:List Ex) (v:LV) (Ha:Heap),args=pre++l1/\kk=l1.length/\ls=[(0,ptr k.cb 0),(3,ptr b3 0),(6,v),(29,.list (args.map encE)),(30,int .i64 ((args.map encE).length:Int)),(31,int .i64 (pre.length:Int))] /\
    H'=(b3,.cells 182 [str op,int .u32 (num:Int),str name,.list (args.map encE)])::(ckH k (max d (qcg c pre))++Ha)/\GL.Acc 1 v ((qaK c pre).map iv) Ha []/\orE (qaZ c l1) (useE c op name args.length)=E)
   ⟨args.length,_,_,⟨[],args,qaa,[],rfl,rfl,rfl,rfl,Acc.nil,hI⟩,⟨rfl,rfl,rfl,rfl,rfl,rfl,trivial⟩,⟨[],by
    rw[zLz,zLz,qcg,Nat.max_zero]⟩⟩ ?_
  rintro kk ls H' ⟨pre,l1,v,Ha,hLe,rfl,rfl,rfl,hacc,hI2⟩ j2 hj2
  have hb2:pre.length<=2000000:=by
   have:=congrArg List.length hLe;rw[zLa] at this;omega
  have hdp:max d (qcg c pre)<=200000000:=by
   have:=qgl B D c hB pre;omega
  refine gai ?_;refine oC rfl (fun hc=>?_) (fun hc=>?_)
  ·have hlen:=zt hc;rw[zLm,hLe,zLa] at hlen
   obtain ⟨a,l2,rfl⟩:∃ a l2,l1=a::l2:=by
    cases l1 with
    |nil=>simp at hlen
    |cons a l2=>exact ⟨a,l2,rfl⟩
   have ham:ndE a<=ndEs args:=qdo (by rw[hLe];exact List.mem_append_right _ zMs);rw[qaZ] at hI2;refine gak ?_;refine oP (xR (el':=encE a) (cs:=[_,_,_,_]) rfl rfl zo (by rw[hLe];exact get_mid encE pre a l2) rfl rfl) rfl ?_;refine gav ?_;refine oS (sA fun b8=>?_) rfl;refine gab ?_;refine zQ60 ?_;refine gac ?_;refine oS (sK [_,_] rfl qmX (ih a _ zo hdp) (fun h0=>?_) (fun nm h0 e' he'=>?_)) rfl
   ·rw[h0] at hI2;refine oS (sL (es:=[iv (qa9 c a)]) [_] rfl (zeC rfl rfl eN) rfl rfl rfl ?_) rfl;refine oS (sG qrS rfl hacc rfl (qtf _) rfl (by rw[zLm,qcp,zLc,zLn];omega) fun v' Ha' hacc'=>?_) rfl;refine zQ62 ?_;refine gat ?_
    exact ⟨l2.length,_,_,Nat.lt_succ_self _,⟨pre++[a],l2,v',Ha',by rw[hLe];simp,rfl,rfl,rfl,by rw[qjA,zMa];exact hacc',by rw[<-hI2];rfl⟩,⟨rfl,rfl,rfl,rfl,rfl,qaf (by simp),trivial⟩,by
     rw[qfb,<-Nat.max_assoc]
     exact zhD zhr,hj2⟩
   ·refine gah ?_;exact panK ((he'.trans hj2).trans hj) (by rw[<-hI2];unfold orE;rw[if_pos h0,if_pos h0]) h0
  have hlen:=zf hc;rw[zLm,hLe,zLa] at hlen
  obtain rfl:l1=[]:=by
   cases l1 with
   |nil=>rfl
   |cons a l2=>simp at hlen;omega
  rw[zLz] at hLe;subst hLe;have hI3:useE c op name args.length=E:=by rw[<-hI2];rfl
  have hds:j2.ds=[]:=hj2.trans hj;generalize hd1:max d (qcg c args)=d1 at hdp ⊢;have hdd:max d (max (qcg c args) (qeR c op name))=max d1 (qeR c op name):=by rw[<-hd1,Nat.max_assoc]
  rw[hdd];generalize hns:qaK c args=ns at hacc ⊢;have hnl:ns.length=args.length:=by rw[<-hns,qcp]
  have hnb:∀ m∈ns,m<=1000000000:=fun m hm=>by
   rw[<-hns] at hm;have:=qjx hB hm;omega
  have hel:=hacc.elems;refine gaa ?_
  have ret1:∀ (nd:LV) {e:Env} {H:Heap},E=0->e.ds=[]->e.s 4=nd->HSub (ckH k d1) H->qeR c op name=0->iv (opN c op name ns)=nd->qah (KC B0 w0) 121 [ResultVar.tmp 4] (qgS E (iv (opN c op name ns)) (ckH k (max d1 (qeR c op name)))) .ret e H:=fun nd {e H} h0 hd he hH hcd hn=>by
   rw[hcd,Nat.max_zero];exact retK hd (rC (rT he zsr) rN) h0 hn.symm hH
  have hcall0:¬ op=qa8->qeR c op name=0:=fun h=>by
   unfold qeR;rw[if_neg (fun h2=>h h2.1)]
  have hE0:¬ op=nVar->¬ op=qdH->¬ op=qa8->E=0:=fun a1 a2 a3=>by
   rw[<-hI3];unfold useE;rw[if_neg a1,if_neg a2,if_neg a3]
  have HS:HSub (ckH k d1) ((b3,.cells 182 [str op,int .u32 (num:Int),str name,.list (args.map encE)])::(ckH k d1++Ha)):=zhD qc5
  by_cases h1:op=[110,117,109]
  ·refine oC rfl (fun _=>?_) (fun hc=>absurd h1 (zf hc));refine gaz ?_;refine ret1 (iv 1) ?_ ?_ ?_ ?_ ?_ ?_
   ·subst h1;exact hE0 zDd zDd zDd
   ·exact hds
   ·rfl
   ·exact HS
   ·subst h1;exact hcall0 zDd
   ·subst h1;rfl
  refine oC rfl (fun hc=>absurd (zt hc) h1) (fun _=>?_);refine gaj ?_
  by_cases h2:op=[118,97,114]
  ·refine oC rfl (fun _=>?_) (fun hc=>absurd h2 (zf hc));have hI4:qbj c name=E:=by rw[<-hI3];subst h2;rfl
   refine gaa ?_;refine oS (sK [_,_] rfl qiy (qb7 hk d1 name) (fun h0=>?_) (fun nm h0 e' he'=>?_)) rfl
   ·rw[hI4] at h0;refine gaz ?_;refine ret1 (iv 1) h0 ?_ ?_ ?_ ?_ ?_
    ·exact hds
    ·rfl
    ·exact qc5
    ·subst h2;exact hcall0 zDd
    ·subst h2;rfl
   ·refine gah ?_;exact panK (he'.trans hds) hI4.symm h0
  refine oC rfl (fun hc=>absurd (zt hc) h2) (fun _=>?_);refine gaj ?_
  by_cases h3:op=[101,108,101,109]
  ·refine oC rfl (fun _=>?_) (fun hc=>absurd h3 (zf hc));have hI4:qdr c name=E:=by rw[<-hI3];subst h3;rfl
   obtain ⟨n0,rfl⟩:∃ n0,ns=[n0]:=by
    have h9:ns.length=1:=by
     rcases hop with h|h
     ·subst h3;exact absurd h zDd
     ·subst h3;have h9:(1:Int)=(args.length:Int):=h;omega
    cases ns with
    |nil=>cases h9
    |cons a l=>
     cases l with
     |nil=>exact ⟨a,rfl⟩
     |cons b l=>simp at h9
   have hn0:=hnb n0 zMs;refine gaa ?_;refine oS (sK [_,_] rfl qiy (qem hk d1 name) (fun h0=>?_) (fun nm h0 e' he'=>?_)) rfl
   ·rw[hI4] at h0;refine gai ?_;refine qsh ?_;refine ret1 (int .i64 (1+(n0:Int))) h0 ?_ ?_ ?_ ?_ ?_
    ·exact hds
    ·rfl
    ·exact qc5
    ·subst h3;exact hcall0 zDd
    ·subst h3;exact qaf (show ((1+n0:Nat):Int)=_ by omega)
   ·refine gah ?_;exact panK (he'.trans hds) hI4.symm h0
  refine oC rfl (fun hc=>absurd (zt hc) h3) (fun _=>?_);refine gaj ?_
  by_cases h4:op=[99,97,108,108]
  ·refine oC rfl (fun _=>?_) (fun hc=>absurd h4 (zf hc));have hI4:callE c name ns.length=E:=by rw[<-hI3,hnl];subst h4;rfl
   have hN4:opN c op name ns=qkw c name ns:=by subst h4;rfl
   have hD4:qeR c op name=qeR c qa8 name:=by subst h4;rfl
   refine gaa ?_;refine zQ60 ?_;refine LOps.sub 67 rfl hacc.sub ?_;refine oS (sK [_,_,_] rfl qiy (qoS hk hB hB8 hD8 d1 zo name ns zo hnb) (fun h0=>?_) (fun nm h0 e' he'=>?_)) rfl
   ·rw[hI4] at h0;refine gae ?_;rw[hN4,hD4];exact retK hds (zra rfl) h0 rfl qc5
   ·refine gah ?_;exact panK (he'.trans hds) hI4.symm h0
  refine oC rfl (fun hc=>absurd (zt hc) h4) (fun _=>?_);have hE00:=hE0 h2 h3 h4;have hcd:=hcall0 h4;refine gaj ?_
  by_cases h5:op=[110,101,103]
  ·refine oC rfl (fun _=>?_) (fun hc=>absurd h5 (zf hc))
   obtain ⟨n0,rfl⟩:∃ n0,ns=[n0]:=by
    have h9:ns.length=1:=by
     rcases hop with h|h
     ·subst h5;exact absurd h zDd
     ·subst h5;have h9:(1:Int)=(args.length:Int):=h;omega
    cases ns with
    |nil=>cases h9
    |cons a l=>
     cases l with
     |nil=>exact ⟨a,rfl⟩
     |cons b l=>simp at h9
   have hn0:=hnb n0 zMs;refine gag ?_;refine qsh ?_;refine ret1 (int .i64 (1+(n0:Int))) hE00 ?_ ?_ ?_ hcd ?_
   ·exact hds
   ·rfl
   ·exact HS
   ·subst h5;exact qaf (show ((1+n0:Nat):Int)=_ by omega)
  refine oC rfl (fun hc=>absurd (zt hc) h5) (fun _=>?_);have h5n:=h5;clear h5;refine gaj ?_
  by_cases h5:op=[110,111,116]
  ·refine oC rfl (fun _=>?_) (fun hc=>absurd h5 (zf hc))
   obtain ⟨n0,rfl⟩:∃ n0,ns=[n0]:=by
    have h9:ns.length=1:=by
     rcases hop with h|h
     ·subst h5;exact absurd h zDd
     ·subst h5;have h9:(1:Int)=(args.length:Int):=h;omega
    cases ns with
    |nil=>cases h9
    |cons a l=>
     cases l with
     |nil=>exact ⟨a,rfl⟩
     |cons b l=>simp at h9
   have hn0:=hnb n0 zMs;refine gag ?_;refine qsh ?_;refine oP (Pure.max2e 2 n0 rfl rfl rfl rfl) rfl ?_;refine gae ?_;refine ret1 (iv (max 2 n0)) hE00 ?_ ?_ ?_ hcd ?_
   ·exact hds
   ·rfl
   ·exact HS
   ·subst h5;rfl
  refine oC rfl (fun hc=>absurd (zt hc) h5) (fun _=>?_)
  have hbin:ns.length=2:=by
   unfold qba at hop;rw[if_neg (fun h=>h.elim h1 h2),if_neg (fun h=>h.elim h3 (fun h=>h.elim h5n h5)),if_neg (show ¬ op=qa8 from h4)] at hop;split at hop
   ·rcases hop with h|h <;> omega
   ·rcases hop with h|h <;> omega
  obtain ⟨a,b,rfl⟩:∃ a b,ns=[a,b]:=by
   match ns,hbin with
   |[a,b],_=>exact ⟨a,b,rfl⟩
  have ha:=hnb a zMs;have hb:=hnb b (zMo _ zMs);refine gad ?_;refine zQ85 ?_;refine qP (pM (lv:=v) rfl) rfl ?_;refine qP (xR (el':=iv a) (cs:=[iv a]) hel rfl zo rfl rfl rfl) rfl ?_;refine gao ?_;refine qP (pM (lv:=v) rfl) rfl ?_;refine qP (xR (el':=iv b) (cs:=[iv b]) hel rfl zo rfl rfl rfl) rfl ?_;refine gab ?_
  by_cases h6:op=[62]
  ·refine oC rfl (fun _=>?_) (fun hc=>absurd h6 (zf hc));refine gar ?_;refine oC rfl (fun _=>?_) (fun hc=>absurd h6 (zf hc));refine gaa ?_;refine oP (Pure.max3e 3 a (1+b) rfl rfl rfl rfl rfl zo) rfl ?_;refine gae ?_;refine ret1 (iv (max (max 3 a) (1+b))) hE00 ?_ ?_ ?_ hcd ?_
   ·exact hds
   ·rfl
   ·exact HS
   ·subst h6;rfl
  refine oC rfl (fun hc=>absurd (zt hc) h6) (fun _=>?_);have h6n:=h6;clear h6;refine gaj ?_
  by_cases h6:op=[60,61]
  ·refine oC rfl (fun _=>?_) (fun hc=>absurd h6 (zf hc));refine gaa ?_;refine oP (Pure.max3e 3 a (1+b) rfl rfl rfl rfl rfl zo) rfl ?_;refine gae ?_;refine ret1 (iv (max (max 3 a) (1+b))) hE00 ?_ ?_ ?_ hcd ?_
   ·exact hds
   ·rfl
   ·exact HS
   ·subst h6;rfl
  refine oC rfl (fun hc=>absurd (zt hc) h6) (fun _=>?_);refine gaj ?_
  by_cases h7:op=[33,61]
  ·refine oC rfl (fun _=>?_) (fun hc=>absurd h7 (zf hc));refine gaa ?_;refine oP (Pure.max3e 3 (1+a) (2+b) rfl rfl rfl rfl zo zo) rfl ?_;refine gae ?_;refine ret1 (iv (max (max 3 (1+a)) (2+b))) hE00 ?_ ?_ ?_ hcd ?_
   ·exact hds
   ·rfl
   ·exact HS
   ·subst h7;rfl
  refine oC rfl (fun hc=>absurd (zt hc) h7) (fun _=>?_);refine gaj ?_
  by_cases h8:op=[38,38]
  ·refine oC rfl (fun _=>?_) (fun hc=>absurd h8 (zf hc));refine gaa ?_;refine oP (Pure.max2e (1+a) (2+b) rfl rfl zo zo) rfl ?_;refine gae ?_;refine ret1 (iv (max (1+a) (2+b))) hE00 ?_ ?_ ?_ hcd ?_
   ·exact hds
   ·rfl
   ·exact HS
   ·subst h8;rfl
  refine oC rfl (fun hc=>absurd (zt hc) h8) (fun _=>?_);refine gaj ?_
  by_cases h9:op=[124,124]
  ·refine oC rfl (fun _=>?_) (fun hc=>absurd h9 (zf hc));refine gaa ?_;refine oP (Pure.max2e (2+a) (3+b) rfl rfl zo zo) rfl ?_;refine gae ?_;refine ret1 (iv (max (2+a) (3+b))) hE00 ?_ ?_ ?_ hcd ?_
   ·exact hds
   ·rfl
   ·exact HS
   ·subst h9;rfl
  refine oC rfl (fun hc=>absurd (zt hc) h9) (fun _=>?_);refine gaa ?_;refine oP (Pure.max3e 2 a (1+b) rfl rfl rfl rfl rfl zo) rfl ?_;refine gae ?_;refine ret1 (iv (max (max 2 a) (1+b))) hE00 ?_ ?_ ?_ hcd ?_
  ·exact hds
  ·rfl
  ·exact HS
  ·unfold opN;rw[if_neg (fun h=>h.elim h1 h2),if_neg (fun h=>h.elim h3 h5n),if_neg (show ¬ op=qa8 from h4),if_neg (show ¬ op=nNot from h5),if_neg (fun h=>h.elim h6n h6),if_neg h7,if_neg h8,if_neg h9];rfl
end
end Go.Proofs.YthmhncflhnbedaaGreatDoor.Chk
