/- Steps (Shelf Base LA LB P A B C D E LC LD). Conditions: as stated. -/
import Derived.Shelf.Strings.Builder1
import Derived.Shelf.Strings.Builder2
import Derived.Shelf.Strings.OnBuilder
import Derived.Shelf.Strings.Trim
import Derived.Shelf.Small.Utf8
import Derived.Shelf.Small.Strs
import Derived.Shelf.Strings.BuilderF
import Derived.Shelf.Strings.BuilderK
import Derived.Shelf.Strings.BuilderRune
import Derived.Shelf.Utf8.AppendRune
import Derived.Shelf.Utf8.AppendRunePlain
import Derived.Shelf.Utf8.RuneCount
import Derived.Shelf.Strings.Builder2Cap
import Derived.Shelf.Strings.Search2
import Derived.Shelf.Strings.Search3
import Derived.Shelf.Strings.Count
import Derived.Shelf.LaysM
import Derived.Shelf.Strings.Shaped
import Derived.Shelf.Strings.Prefix
import Derived.Shelf.Strings.Split
import Derived.Shelf.Strings.Fields
import Derived.Shelf.Strings.Replace
import Derived.Shelf.Strings.SplitShaped
import Derived.Shelf.Unicode.Latin
import Derived.Shelf.Unicode.Decode
import Derived.Shelf.Strings.Runes
import Derived.Shelf.Strings.RuneCount
import Derived.Shelf.Strings.IndexAny
import Derived.Shelf.Strings.AsciiSet
import Derived.Shelf.Strings.IndexAnyAll
import Derived.Shelf.Unicode.DecodeSlow
import Derived.Shelf.Unicode.DecodeAny
import Derived.Shelf.Unicode.Is16White
import Derived.Shelf.Unicode.IsSpaceAny
import Derived.Shelf.Unicode.DecodeLast
import Derived.Shelf.Unicode.Is16WhiteD
import Derived.Shelf.Unicode.IsSpaceAnyD
import Derived.Shelf.Strings.FieldsAny
import Derived.Shelf.Unicode.CaseLookup
import Derived.Shelf.Unicode.CaseConvert
import Derived.Shelf.Unicode.CaseTo
import Derived.Shelf.Unicode.CaseLaid
import Derived.Shelf.Strings.MapAny
import Derived.Shelf.Strings.CaseAny
import Derived.Shelf.Unicode.Is16Any
import Derived.Shelf.Unicode.Is32Any
import Derived.Shelf.Unicode.ExclAny
import Derived.Shelf.Strings.FieldsFuncGrows
import Derived.Shelf.Strings.BuilderCap
import Derived.Shelf.Strings.MapGrows
import Derived.Test.YtnobjeelihkjmaaGreatDoorProg
import Derived.Test.YtnobjeelihkjmaaGreatDoorRows
import Derived.WalkSpells
import Derived.WalkLawsBesides
import Derived.Deep.RegionHeld3
import Derived.TacticsInMore
import Derived.Lib.Hide
set_option maxHeartbeats 2000000
set_option maxRecDepth 100000
namespace Go.Proofs
open Go.Shelf
def Tryz.lays169_ren:Go.Shelf.Ren:=⟨fun|169=>65|n=>n,fun|70=>102|9=>9|0=>0|72=>104|37=>41|127=>157|3=>3|5=>5|n=>n,fun|n=>n⟩
theorem Tryz.lays169:Go.Proofs.Lays.n169 Tryz.prog Tryz.lays169_ren:= {
 mixed:=by kernel_rfl
 f169:=Tryz.func65.trans (congrArg some (by kernel_rfl))
 t0:=Tryz.underlying0
 a0:=Tryz.isAgg0
 z0:=Tryz.sizeOf0
 v0:=Tryz.zeroValue0
 t3:=Tryz.underlying3
 a3:=Tryz.isAgg3
 z3:=Tryz.sizeOf3
 v3:=Tryz.zeroValue3
 t9:=Tryz.underlying9
 a9:=Tryz.isAgg9
 z9:=Tryz.sizeOf9
 v9:=Tryz.zeroValue9
 t37:=Tryz.underlying41
 a37:=Tryz.isAgg41
 z37:=Tryz.sizeOf41
 v37:=Tryz.zeroValue41
 t70:=Tryz.underlying102
 a70:=Tryz.isAgg102
 z70:=Tryz.sizeOf102
 v70:=Tryz.zeroValue102
 t72:=Tryz.underlying104
 a72:=Tryz.isAgg104
 z72:=Tryz.sizeOf104
 v72:=Tryz.zeroValue104
 t127:=Tryz.underlying157
 a127:=Tryz.isAgg157
 z127:=Tryz.sizeOf157
 v127:=Tryz.zeroValue157 }
theorem Tryz.Builder_Extra_169:Builder.Extra Tryz.prog Tryz.lays169_ren:= {
 sizeBuilder:=by kernel_rfl
 liesBuilder:=by kernel_rfl
 t5:=Tryz.underlying5
 a5:=Tryz.isAgg5
 z5:=Tryz.sizeOf5
 v5:=Tryz.zeroValue5
 infoByte:=by kernel_rfl
 cellsByte:=by kernel_rfl
 sizeByte:=by kernel_rfl
 neB5:=by decide }
open Go.RowKit in
theorem Tryz.Builder_String_any (B b:Nat) (l:List UInt8) (w:World) (h:Lib.IsBuilder 104 5 B b (Lib.byteCells l) w) (hBw:B≤w.heap.size):
  Calls Tryz.prog 65 #[.pointer (some ⟨b,0,none⟩)] w fun e w'=>e= .returned (.string ⟨l.toArray⟩)∧Below B w w':=Any.Builder_String_any Tryz.lays169 Tryz.Builder_Extra_169 B b l w h hBw
def Tryz.lays159_ren:Go.Shelf.Ren:=⟨fun|159=>68|165=>110|166=>112|167=>64|169=>65|230=>121|204=>122|240=>115|241=>173|197=>113|118=>183|168=>184|270=>185|262=>186|276=>177|277=>221|260=>175|242=>230|313=>231|278=>260|274=>261|275=>262|n=>n,fun|9=>9|4=>4|3=>3|5=>5|72=>104|0=>0|76=>148|75=>106|107=>168|70=>102|20=>20|37=>41|127=>157|21=>21|105=>150|164=>193|162=>229|203=>227|119=>175|46=>24|139=>223|138=>222|51=>209|160=>259|208=>289|206=>287|80=>108|n=>n,fun|13=>5|3=>3|4=>4|n=>n⟩
theorem Tryz.lays159:Go.Proofs.Lays.n159 Tryz.prog Tryz.lays159_ren:= {
 mixed:=by kernel_rfl
 f118:=Tryz.func183.trans (congrArg some (by kernel_rfl))
 f159:=Tryz.func68.trans (congrArg some (by kernel_rfl))
 f165:=Tryz.func110.trans (congrArg some (by kernel_rfl))
 f166:=Tryz.func112.trans (congrArg some (by kernel_rfl))
 f167:=Tryz.func64.trans (congrArg some (by kernel_rfl))
 f168:=Tryz.func184.trans (congrArg some (by kernel_rfl))
 f169:=Tryz.func65.trans (congrArg some (by kernel_rfl))
 f197:=Tryz.func113.trans (congrArg some (by kernel_rfl))
 f204:=Tryz.func122.trans (congrArg some (by kernel_rfl))
 f230:=Tryz.func121.trans (congrArg some (by kernel_rfl))
 f240:=Tryz.func115.trans (congrArg some (by kernel_rfl))
 f241:=Tryz.func173.trans (congrArg some (by kernel_rfl))
 f242:=Tryz.func230.trans (congrArg some (by kernel_rfl))
 f260:=Tryz.func175.trans (congrArg some (by kernel_rfl))
 f262:=Tryz.func186.trans (congrArg some (by kernel_rfl))
 f270:=Tryz.func185.trans (congrArg some (by kernel_rfl))
 f274:=Tryz.func261.trans (congrArg some (by kernel_rfl))
 f275:=Tryz.func262.trans (congrArg some (by kernel_rfl))
 f276:=Tryz.func177.trans (congrArg some (by kernel_rfl))
 f277:=Tryz.func221.trans (congrArg some (by kernel_rfl))
 f278:=Tryz.func260.trans (congrArg some (by kernel_rfl))
 f313:=Tryz.func231.trans (congrArg some (by kernel_rfl))
 t0:=Tryz.underlying0
 a0:=Tryz.isAgg0
 z0:=Tryz.sizeOf0
 v0:=Tryz.zeroValue0
 t3:=Tryz.underlying3
 a3:=Tryz.isAgg3
 z3:=Tryz.sizeOf3
 v3:=Tryz.zeroValue3
 t4:=Tryz.underlying4
 a4:=Tryz.isAgg4
 z4:=Tryz.sizeOf4
 v4:=Tryz.zeroValue4
 t5:=Tryz.underlying5
 a5:=Tryz.isAgg5
 z5:=Tryz.sizeOf5
 v5:=Tryz.zeroValue5
 t9:=Tryz.underlying9
 a9:=Tryz.isAgg9
 z9:=Tryz.sizeOf9
 v9:=Tryz.zeroValue9
 t20:=Tryz.underlying20
 a20:=Tryz.isAgg20
 z20:=Tryz.sizeOf20
 v20:=Tryz.zeroValue20
 t21:=Tryz.underlying21
 a21:=Tryz.isAgg21
 z21:=Tryz.sizeOf21
 v21:=Tryz.zeroValue21
 t37:=Tryz.underlying41
 a37:=Tryz.isAgg41
 z37:=Tryz.sizeOf41
 v37:=Tryz.zeroValue41
 t46:=Tryz.underlying24
 a46:=Tryz.isAgg24
 z46:=Tryz.sizeOf24
 v46:=Tryz.zeroValue24
 t51:=Tryz.underlying209
 a51:=Tryz.isAgg209
 z51:=Tryz.sizeOf209
 v51:=Tryz.zeroValue209
 t70:=Tryz.underlying102
 a70:=Tryz.isAgg102
 z70:=Tryz.sizeOf102
 v70:=Tryz.zeroValue102
 t72:=Tryz.underlying104
 a72:=Tryz.isAgg104
 z72:=Tryz.sizeOf104
 v72:=Tryz.zeroValue104
 t75:=Tryz.underlying106
 a75:=Tryz.isAgg106
 z75:=Tryz.sizeOf106
 v75:=Tryz.zeroValue106
 t76:=Tryz.underlying148
 a76:=Tryz.isAgg148
 z76:=Tryz.sizeOf148
 v76:=Tryz.zeroValue148
 t105:=Tryz.underlying150
 a105:=Tryz.isAgg150
 z105:=Tryz.sizeOf150
 v105:=Tryz.zeroValue150
 t107:=Tryz.underlying168
 a107:=Tryz.isAgg168
 z107:=Tryz.sizeOf168
 v107:=Tryz.zeroValue168
 t119:=Tryz.underlying175
 a119:=Tryz.isAgg175
 z119:=Tryz.sizeOf175
 t127:=Tryz.underlying157
 a127:=Tryz.isAgg157
 z127:=Tryz.sizeOf157
 v127:=Tryz.zeroValue157
 t138:=Tryz.underlying222
 a138:=Tryz.isAgg222
 z138:=Tryz.sizeOf222
 v138:=Tryz.zeroValue222
 t139:=Tryz.underlying223
 a139:=Tryz.isAgg223
 z139:=Tryz.sizeOf223
 v139:=Tryz.zeroValue223
 t160:=Tryz.underlying259
 a160:=Tryz.isAgg259
 z160:=Tryz.sizeOf259
 v160:=Tryz.zeroValue259
 t162:=Tryz.underlying229
 a162:=Tryz.isAgg229
 z162:=Tryz.sizeOf229
 v162:=Tryz.zeroValue229
 t164:=Tryz.underlying193
 a164:=Tryz.isAgg193
 z164:=Tryz.sizeOf193
 v164:=Tryz.zeroValue193
 t203:=Tryz.underlying227
 a203:=Tryz.isAgg227
 z203:=Tryz.sizeOf227
 v203:=Tryz.zeroValue227
 t206:=Tryz.underlying287
 a206:=Tryz.isAgg287
 z206:=Tryz.sizeOf287
 v206:=Tryz.zeroValue287
 t208:=Tryz.underlying289
 a208:=Tryz.isAgg289
 z208:=Tryz.sizeOf289
 v208:=Tryz.zeroValue289
 g3:=by kernel_rfl
 g4:=by kernel_rfl
 g13:=by kernel_rfl }
theorem Tryz.Builder_Extra_159:Builder.Extra Tryz.prog Tryz.lays159_ren:= {
 sizeBuilder:=by kernel_rfl
 liesBuilder:=by kernel_rfl
 t5:=Tryz.underlying5
 a5:=Tryz.isAgg5
 z5:=Tryz.sizeOf5
 v5:=Tryz.zeroValue5
 infoByte:=by kernel_rfl
 cellsByte:=by kernel_rfl
 sizeByte:=by kernel_rfl
 neB5:=by decide }
open Go.RowKit in
theorem Tryz.strings_ToLower_ascii (s:ByteArray) (w:World) (hs:s.size≤140737488355328) (hascii: ∀(j:Nat) (b:UInt8),s.data.toList[j]? =some b→b.toNat<128):
  Calls Tryz.prog 68 #[.string s] w fun e w'=>e= .returned (.string ⟨(Lib.toLowerA s.data.toList).toArray⟩)∧Below w.heap.size w w':=Any.strings_ToLower_ascii Tryz.lays159 Tryz.Builder_Extra_159 s w hs hascii
def Tryz.lays161_ren:Go.Shelf.Ren:=⟨fun|161=>67|231=>117|227=>118|233=>119|235=>120|228=>181|197=>113|151=>182|260=>175|152=>188|137=>95|119=>233|224=>223|225=>222|217=>165|266=>220|n=>n,fun|9=>9|4=>4|3=>3|5=>5|117=>163|116=>162|0=>0|124=>166|105=>150|21=>21|119=>175|46=>24|139=>223|138=>222|n=>n,fun|3=>3|4=>4|n=>n⟩
theorem Tryz.lays161:Go.Proofs.Lays.n161 Tryz.prog Tryz.lays161_ren:= {
 mixed:=by kernel_rfl
 f119:=Tryz.func233.trans (congrArg some (by kernel_rfl))
 f137:=Tryz.func95.trans (congrArg some (by kernel_rfl))
 f151:=Tryz.func182.trans (congrArg some (by kernel_rfl))
 f152:=Tryz.func188.trans (congrArg some (by kernel_rfl))
 f161:=Tryz.func67.trans (congrArg some (by kernel_rfl))
 f197:=Tryz.func113.trans (congrArg some (by kernel_rfl))
 f217:=Tryz.func165.trans (congrArg some (by kernel_rfl))
 f224:=Tryz.func223.trans (congrArg some (by kernel_rfl))
 f225:=Tryz.func222.trans (congrArg some (by kernel_rfl))
 f227:=Tryz.func118.trans (congrArg some (by kernel_rfl))
 f228:=Tryz.func181.trans (congrArg some (by kernel_rfl))
 f231:=Tryz.func117.trans (congrArg some (by kernel_rfl))
 f233:=Tryz.func119.trans (congrArg some (by kernel_rfl))
 f235:=Tryz.func120.trans (congrArg some (by kernel_rfl))
 f260:=Tryz.func175.trans (congrArg some (by kernel_rfl))
 f266:=Tryz.func220.trans (congrArg some (by kernel_rfl))
 t0:=Tryz.underlying0
 a0:=Tryz.isAgg0
 z0:=Tryz.sizeOf0
 v0:=Tryz.zeroValue0
 t3:=Tryz.underlying3
 a3:=Tryz.isAgg3
 z3:=Tryz.sizeOf3
 v3:=Tryz.zeroValue3
 t4:=Tryz.underlying4
 a4:=Tryz.isAgg4
 z4:=Tryz.sizeOf4
 v4:=Tryz.zeroValue4
 t5:=Tryz.underlying5
 a5:=Tryz.isAgg5
 z5:=Tryz.sizeOf5
 v5:=Tryz.zeroValue5
 t9:=Tryz.underlying9
 a9:=Tryz.isAgg9
 z9:=Tryz.sizeOf9
 v9:=Tryz.zeroValue9
 t21:=Tryz.underlying21
 a21:=Tryz.isAgg21
 z21:=Tryz.sizeOf21
 v21:=Tryz.zeroValue21
 t46:=Tryz.underlying24
 a46:=Tryz.isAgg24
 z46:=Tryz.sizeOf24
 v46:=Tryz.zeroValue24
 t105:=Tryz.underlying150
 a105:=Tryz.isAgg150
 z105:=Tryz.sizeOf150
 v105:=Tryz.zeroValue150
 t116:=Tryz.underlying162
 a116:=Tryz.isAgg162
 z116:=Tryz.sizeOf162
 t117:=Tryz.underlying163
 a117:=Tryz.isAgg163
 z117:=Tryz.sizeOf163
 v117:=Tryz.zeroValue163
 t119:=Tryz.underlying175
 a119:=Tryz.isAgg175
 z119:=Tryz.sizeOf175
 t124:=Tryz.underlying166
 a124:=Tryz.isAgg166
 z124:=Tryz.sizeOf166
 v124:=Tryz.zeroValue166
 t138:=Tryz.underlying222
 a138:=Tryz.isAgg222
 z138:=Tryz.sizeOf222
 v138:=Tryz.zeroValue222
 t139:=Tryz.underlying223
 a139:=Tryz.isAgg223
 z139:=Tryz.sizeOf223
 v139:=Tryz.zeroValue223
 g3:=by kernel_rfl
 g4:=by kernel_rfl }
open Go.RowKit in
theorem Tryz.strings_TrimLeft_one (s:ByteArray) (c:UInt8) (hc:c.toNat<128) (w:World):
  Calls Tryz.prog 67 #[.string s,.string ⟨#[c]⟩] w fun e w'=>e= .returned (.string ⟨(Lib.trimLeftB s.data.toList c).toArray⟩)∧w'=w:=Any.strings_TrimLeft_one Tryz.lays161 s c hc w
def Tryz.lays162_ren:Go.Shelf.Ren:=⟨fun|162=>71|232=>123|227=>118|234=>124|236=>125|228=>181|271=>187|151=>182|120=>232|197=>113|152=>188|260=>175|137=>95|119=>233|224=>223|225=>222|217=>165|266=>220|n=>n,fun|9=>9|4=>4|3=>3|5=>5|117=>163|116=>162|0=>0|124=>166|21=>21|105=>150|46=>24|119=>175|139=>223|138=>222|n=>n,fun|3=>3|4=>4|n=>n⟩
theorem Tryz.lays162:Go.Proofs.Lays.n162 Tryz.prog Tryz.lays162_ren:= {
 mixed:=by kernel_rfl
 f119:=Tryz.func233.trans (congrArg some (by kernel_rfl))
 f120:=Tryz.func232.trans (congrArg some (by kernel_rfl))
 f137:=Tryz.func95.trans (congrArg some (by kernel_rfl))
 f151:=Tryz.func182.trans (congrArg some (by kernel_rfl))
 f152:=Tryz.func188.trans (congrArg some (by kernel_rfl))
 f162:=Tryz.func71.trans (congrArg some (by kernel_rfl))
 f197:=Tryz.func113.trans (congrArg some (by kernel_rfl))
 f217:=Tryz.func165.trans (congrArg some (by kernel_rfl))
 f224:=Tryz.func223.trans (congrArg some (by kernel_rfl))
 f225:=Tryz.func222.trans (congrArg some (by kernel_rfl))
 f227:=Tryz.func118.trans (congrArg some (by kernel_rfl))
 f228:=Tryz.func181.trans (congrArg some (by kernel_rfl))
 f232:=Tryz.func123.trans (congrArg some (by kernel_rfl))
 f234:=Tryz.func124.trans (congrArg some (by kernel_rfl))
 f236:=Tryz.func125.trans (congrArg some (by kernel_rfl))
 f260:=Tryz.func175.trans (congrArg some (by kernel_rfl))
 f266:=Tryz.func220.trans (congrArg some (by kernel_rfl))
 f271:=Tryz.func187.trans (congrArg some (by kernel_rfl))
 t0:=Tryz.underlying0
 a0:=Tryz.isAgg0
 z0:=Tryz.sizeOf0
 v0:=Tryz.zeroValue0
 t3:=Tryz.underlying3
 a3:=Tryz.isAgg3
 z3:=Tryz.sizeOf3
 v3:=Tryz.zeroValue3
 t4:=Tryz.underlying4
 a4:=Tryz.isAgg4
 z4:=Tryz.sizeOf4
 v4:=Tryz.zeroValue4
 t5:=Tryz.underlying5
 a5:=Tryz.isAgg5
 z5:=Tryz.sizeOf5
 v5:=Tryz.zeroValue5
 t9:=Tryz.underlying9
 a9:=Tryz.isAgg9
 z9:=Tryz.sizeOf9
 v9:=Tryz.zeroValue9
 t21:=Tryz.underlying21
 a21:=Tryz.isAgg21
 z21:=Tryz.sizeOf21
 v21:=Tryz.zeroValue21
 t46:=Tryz.underlying24
 a46:=Tryz.isAgg24
 z46:=Tryz.sizeOf24
 v46:=Tryz.zeroValue24
 t105:=Tryz.underlying150
 a105:=Tryz.isAgg150
 z105:=Tryz.sizeOf150
 v105:=Tryz.zeroValue150
 t116:=Tryz.underlying162
 a116:=Tryz.isAgg162
 z116:=Tryz.sizeOf162
 t117:=Tryz.underlying163
 a117:=Tryz.isAgg163
 z117:=Tryz.sizeOf163
 v117:=Tryz.zeroValue163
 t119:=Tryz.underlying175
 a119:=Tryz.isAgg175
 z119:=Tryz.sizeOf175
 t124:=Tryz.underlying166
 a124:=Tryz.isAgg166
 z124:=Tryz.sizeOf166
 v124:=Tryz.zeroValue166
 t138:=Tryz.underlying222
 a138:=Tryz.isAgg222
 z138:=Tryz.sizeOf222
 v138:=Tryz.zeroValue222
 t139:=Tryz.underlying223
 a139:=Tryz.isAgg223
 z139:=Tryz.sizeOf223
 v139:=Tryz.zeroValue223
 g3:=by kernel_rfl
 g4:=by kernel_rfl }
open Go.RowKit in
theorem Tryz.strings_TrimRight_one (s:ByteArray) (c:UInt8) (hc:c.toNat<128) (w:World) (hs:s.size≤9223372036854775807):
  Calls Tryz.prog 71 #[.string s,.string ⟨#[c]⟩] w fun e w'=>e= .returned (.string ⟨(Lib.trimRightB s.data.toList c).toArray⟩)∧w'=w:=Any.strings_TrimRight_one Tryz.lays162 s c hc w hs
def Tryz.lays119_ren:Go.Shelf.Ren:=⟨fun|119=>233|n=>n,fun|21=>21|4=>4|n=>n,fun|n=>n⟩
theorem Tryz.lays119:Go.Proofs.Lays.n119 Tryz.prog Tryz.lays119_ren:= {
 mixed:=by kernel_rfl
 f119:=Tryz.func233.trans (congrArg some (by kernel_rfl))
 t4:=Tryz.underlying4
 a4:=Tryz.isAgg4
 z4:=Tryz.sizeOf4
 v4:=Tryz.zeroValue4
 t21:=Tryz.underlying21
 a21:=Tryz.isAgg21
 z21:=Tryz.sizeOf21
 v21:=Tryz.zeroValue21 }
theorem Tryz.utf8_ValidRune (r:Int) (w:World):
  Calls Tryz.prog 233 #[.int .i32 r] w fun e w'=>e= .returned (.bool (Lib.validRune r))∧w'=w:=Any.utf8_ValidRune Tryz.lays119 r w
def Tryz.lays137_ren:Go.Shelf.Ren:=⟨fun|137=>95|217=>165|266=>220|n=>n,fun|9=>9|5=>5|3=>3|n=>n,fun|n=>n⟩
theorem Tryz.lays137:Go.Proofs.Lays.n137 Tryz.prog Tryz.lays137_ren:= {
 mixed:=by kernel_rfl
 f137:=Tryz.func95.trans (congrArg some (by kernel_rfl))
 f217:=Tryz.func165.trans (congrArg some (by kernel_rfl))
 f266:=Tryz.func220.trans (congrArg some (by kernel_rfl))
 t3:=Tryz.underlying3
 a3:=Tryz.isAgg3
 z3:=Tryz.sizeOf3
 v3:=Tryz.zeroValue3
 t5:=Tryz.underlying5
 a5:=Tryz.isAgg5
 z5:=Tryz.sizeOf5
 v5:=Tryz.zeroValue5
 t9:=Tryz.underlying9
 a9:=Tryz.isAgg9
 z9:=Tryz.sizeOf9
 v9:=Tryz.zeroValue9 }
open Go.RowKit in
theorem Tryz.strings_IndexByte (s:ByteArray) (c:Int) (w:World):
  Calls Tryz.prog 95 #[.string s,.int .u8 c] w fun e w'=>e= .returned (.int .i64 (Lib.indexByte s.data.toList c.toNat.toUInt8))∧w'=w:=Any.strings_IndexByte Tryz.lays137 s c w
def Tryz.lays99_ren:Go.Shelf.Ren:=⟨fun|99=>31|206=>54|n=>n,fun|9=>9|4=>4|3=>3|n=>n,fun|n=>n⟩
theorem Tryz.lays99:Go.Proofs.Lays.n99 Tryz.prog Tryz.lays99_ren:= {
 mixed:=by kernel_rfl
 f99:=Tryz.func31.trans (congrArg some (by kernel_rfl))
 f206:=Tryz.func54.trans (congrArg some (by kernel_rfl))
 t3:=Tryz.underlying3
 a3:=Tryz.isAgg3
 z3:=Tryz.sizeOf3
 v3:=Tryz.zeroValue3
 t4:=Tryz.underlying4
 a4:=Tryz.isAgg4
 z4:=Tryz.sizeOf4
 v4:=Tryz.zeroValue4
 t9:=Tryz.underlying9
 a9:=Tryz.isAgg9
 z9:=Tryz.sizeOf9
 v9:=Tryz.zeroValue9 }
open Go.RowKit Go.Lib in
theorem Tryz.strings_HasPrefix (s p:ByteArray) (w:World):
  Calls Tryz.prog 31 #[.string s,.string p] w fun e w'=>e= .returned (.bool (Lib.hasPrefix s.data.toList p.data.toList))∧w'=w:=Any.strings_HasPrefix Tryz.lays99 s p w
def Tryz.lays101_ren:Go.Shelf.Ren:=⟨fun|101=>179|208=>229|206=>54|n=>n,fun|9=>9|4=>4|3=>3|n=>n,fun|n=>n⟩
theorem Tryz.lays101:Go.Proofs.Lays.n101 Tryz.prog Tryz.lays101_ren:= {
 mixed:=by kernel_rfl
 f101:=Tryz.func179.trans (congrArg some (by kernel_rfl))
 f206:=Tryz.func54.trans (congrArg some (by kernel_rfl))
 f208:=Tryz.func229.trans (congrArg some (by kernel_rfl))
 t3:=Tryz.underlying3
 a3:=Tryz.isAgg3
 z3:=Tryz.sizeOf3
 v3:=Tryz.zeroValue3
 t4:=Tryz.underlying4
 a4:=Tryz.isAgg4
 z4:=Tryz.sizeOf4
 v4:=Tryz.zeroValue4
 t9:=Tryz.underlying9
 a9:=Tryz.isAgg9
 z9:=Tryz.sizeOf9
 v9:=Tryz.zeroValue9 }
open Go.RowKit Go.Lib in
theorem Tryz.strings_TrimPrefix (s p:ByteArray) (w:World):
  Calls Tryz.prog 179 #[.string s,.string p] w fun e w'=>e= .returned (.string ⟨(Lib.trimPrefix s.data.toList p.data.toList).toArray⟩)∧w'=w:=Any.strings_TrimPrefix Tryz.lays101 s p w
def Tryz.lays157_ren:Go.Shelf.Ren:=⟨fun|157=>79|229=>147|199=>148|261=>211|311=>248|312=>249|n=>n,fun|9=>9|31=>23|3=>3|5=>5|4=>4|119=>175|0=>0|40=>177|152=>206|21=>21|154=>208|51=>209|141=>211|196=>236|193=>233|198=>239|49=>237|194=>234|201=>242|226=>268|46=>24|227=>269|n=>n,fun|0=>0|6=>1|n=>n⟩
theorem Tryz.lays157:Go.Proofs.Lays.n157 Tryz.prog Tryz.lays157_ren:= {
 mixed:=by kernel_rfl
 f157:=Tryz.func79.trans (congrArg some (by kernel_rfl))
 f199:=Tryz.func148.trans (congrArg some (by kernel_rfl))
 f229:=Tryz.func147.trans (congrArg some (by kernel_rfl))
 f261:=Tryz.func211.trans (congrArg some (by kernel_rfl))
 f311:=Tryz.func248.trans (congrArg some (by kernel_rfl))
 f312:=Tryz.func249.trans (congrArg some (by kernel_rfl))
 t0:=Tryz.underlying0
 a0:=Tryz.isAgg0
 z0:=Tryz.sizeOf0
 v0:=Tryz.zeroValue0
 t3:=Tryz.underlying3
 a3:=Tryz.isAgg3
 z3:=Tryz.sizeOf3
 v3:=Tryz.zeroValue3
 t4:=Tryz.underlying4
 a4:=Tryz.isAgg4
 z4:=Tryz.sizeOf4
 v4:=Tryz.zeroValue4
 t5:=Tryz.underlying5
 a5:=Tryz.isAgg5
 z5:=Tryz.sizeOf5
 v5:=Tryz.zeroValue5
 t9:=Tryz.underlying9
 a9:=Tryz.isAgg9
 z9:=Tryz.sizeOf9
 v9:=Tryz.zeroValue9
 t21:=Tryz.underlying21
 a21:=Tryz.isAgg21
 z21:=Tryz.sizeOf21
 v21:=Tryz.zeroValue21
 t31:=Tryz.underlying23
 a31:=Tryz.isAgg23
 z31:=Tryz.sizeOf23
 v31:=Tryz.zeroValue23
 t40:=Tryz.underlying177
 a40:=Tryz.isAgg177
 z40:=Tryz.sizeOf177
 v40:=Tryz.zeroValue177
 t46:=Tryz.underlying24
 a46:=Tryz.isAgg24
 z46:=Tryz.sizeOf24
 v46:=Tryz.zeroValue24
 t49:=Tryz.underlying237
 a49:=Tryz.isAgg237
 z49:=Tryz.sizeOf237
 v49:=Tryz.zeroValue237
 t51:=Tryz.underlying209
 a51:=Tryz.isAgg209
 z51:=Tryz.sizeOf209
 v51:=Tryz.zeroValue209
 t119:=Tryz.underlying175
 a119:=Tryz.isAgg175
 z119:=Tryz.sizeOf175
 t141:=Tryz.underlying211
 a141:=Tryz.isAgg211
 z141:=Tryz.sizeOf211
 v141:=Tryz.zeroValue211
 t152:=Tryz.underlying206
 a152:=Tryz.isAgg206
 z152:=Tryz.sizeOf206
 v152:=Tryz.zeroValue206
 t154:=Tryz.underlying208
 a154:=Tryz.isAgg208
 z154:=Tryz.sizeOf208
 v154:=Tryz.zeroValue208
 t193:=Tryz.underlying233
 a193:=Tryz.isAgg233
 z193:=Tryz.sizeOf233
 v193:=Tryz.zeroValue233
 t194:=Tryz.underlying234
 a194:=Tryz.isAgg234
 z194:=Tryz.sizeOf234
 v194:=Tryz.zeroValue234
 t196:=Tryz.underlying236
 a196:=Tryz.isAgg236
 z196:=Tryz.sizeOf236
 v196:=Tryz.zeroValue236
 t198:=Tryz.underlying239
 a198:=Tryz.isAgg239
 z198:=Tryz.sizeOf239
 v198:=Tryz.zeroValue239
 t201:=Tryz.underlying242
 a201:=Tryz.isAgg242
 z201:=Tryz.sizeOf242
 v201:=Tryz.zeroValue242
 t226:=Tryz.underlying268
 a226:=Tryz.isAgg268
 z226:=Tryz.sizeOf268
 v226:=Tryz.zeroValue268
 t227:=Tryz.underlying269
 a227:=Tryz.isAgg269
 z227:=Tryz.sizeOf269
 v227:=Tryz.zeroValue269
 g0:=by kernel_rfl
 g6:=by kernel_rfl }
open Go.RowKit Go.Lib in
theorem Tryz.strings_Fields (s:ByteArray) (w:World) (hs:s.size<4294967281) (hascii: ∀(j:Nat) b,s.data.toList[j]? =some b→b.toNat<128) (htab:Lib.TabIs Tryz.prog w "strings.asciiSpace" .u8 Lib.asciiSpaceTab):
  Calls Tryz.prog 79 #[.string s] w fun e w'=>
   e= .returned (.slice (some ⟨w.heap.size,0,none⟩) (Lib.fields s.data.toList).length (Lib.fields s.data.toList).length)∧w'=w.alloc (.cells ((Lib.fields s.data.toList).map fun l=>Value.string ⟨l.toArray⟩).toArray 9):=Any.strings_Fields Tryz.lays157 (by kernel_rfl) (by kernel_rfl) s w hs hascii htab
def Tryz.lays154_ren:Go.Shelf.Ren:=⟨fun|154=>62|138=>109|165=>110|143=>111|166=>112|197=>113|169=>65|195=>171|218=>172|240=>115|241=>173|219=>174|260=>175|276=>177|277=>221|217=>165|225=>222|224=>223|267=>224|266=>220|314=>258|n=>n,fun|9=>9|3=>3|4=>4|72=>104|0=>0|76=>148|105=>150|21=>21|5=>5|70=>102|20=>20|37=>41|75=>106|127=>157|164=>193|46=>24|119=>175|139=>223|138=>222|146=>255|51=>209|80=>108|n=>n,fun|1=>2|3=>3|4=>4|n=>n⟩
theorem Tryz.lays154:Go.Proofs.Lays.n154 Tryz.prog Tryz.lays154_ren:= {
 mixed:=by kernel_rfl
 f138:=Tryz.func109.trans (congrArg some (by kernel_rfl))
 f143:=Tryz.func111.trans (congrArg some (by kernel_rfl))
 f154:=Tryz.func62.trans (congrArg some (by kernel_rfl))
 f165:=Tryz.func110.trans (congrArg some (by kernel_rfl))
 f166:=Tryz.func112.trans (congrArg some (by kernel_rfl))
 f169:=Tryz.func65.trans (congrArg some (by kernel_rfl))
 f195:=Tryz.func171.trans (congrArg some (by kernel_rfl))
 f197:=Tryz.func113.trans (congrArg some (by kernel_rfl))
 f217:=Tryz.func165.trans (congrArg some (by kernel_rfl))
 f218:=Tryz.func172.trans (congrArg some (by kernel_rfl))
 f219:=Tryz.func174.trans (congrArg some (by kernel_rfl))
 f224:=Tryz.func223.trans (congrArg some (by kernel_rfl))
 f225:=Tryz.func222.trans (congrArg some (by kernel_rfl))
 f240:=Tryz.func115.trans (congrArg some (by kernel_rfl))
 f241:=Tryz.func173.trans (congrArg some (by kernel_rfl))
 f260:=Tryz.func175.trans (congrArg some (by kernel_rfl))
 f266:=Tryz.func220.trans (congrArg some (by kernel_rfl))
 f267:=Tryz.func224.trans (congrArg some (by kernel_rfl))
 f276:=Tryz.func177.trans (congrArg some (by kernel_rfl))
 f277:=Tryz.func221.trans (congrArg some (by kernel_rfl))
 f314:=Tryz.func258.trans (congrArg some (by kernel_rfl))
 t0:=Tryz.underlying0
 a0:=Tryz.isAgg0
 z0:=Tryz.sizeOf0
 v0:=Tryz.zeroValue0
 t3:=Tryz.underlying3
 a3:=Tryz.isAgg3
 z3:=Tryz.sizeOf3
 v3:=Tryz.zeroValue3
 t4:=Tryz.underlying4
 a4:=Tryz.isAgg4
 z4:=Tryz.sizeOf4
 v4:=Tryz.zeroValue4
 t5:=Tryz.underlying5
 a5:=Tryz.isAgg5
 z5:=Tryz.sizeOf5
 v5:=Tryz.zeroValue5
 t9:=Tryz.underlying9
 a9:=Tryz.isAgg9
 z9:=Tryz.sizeOf9
 v9:=Tryz.zeroValue9
 t20:=Tryz.underlying20
 a20:=Tryz.isAgg20
 z20:=Tryz.sizeOf20
 v20:=Tryz.zeroValue20
 t21:=Tryz.underlying21
 a21:=Tryz.isAgg21
 z21:=Tryz.sizeOf21
 v21:=Tryz.zeroValue21
 t37:=Tryz.underlying41
 a37:=Tryz.isAgg41
 z37:=Tryz.sizeOf41
 v37:=Tryz.zeroValue41
 t46:=Tryz.underlying24
 a46:=Tryz.isAgg24
 z46:=Tryz.sizeOf24
 v46:=Tryz.zeroValue24
 t51:=Tryz.underlying209
 a51:=Tryz.isAgg209
 z51:=Tryz.sizeOf209
 v51:=Tryz.zeroValue209
 t70:=Tryz.underlying102
 a70:=Tryz.isAgg102
 z70:=Tryz.sizeOf102
 v70:=Tryz.zeroValue102
 t72:=Tryz.underlying104
 a72:=Tryz.isAgg104
 z72:=Tryz.sizeOf104
 v72:=Tryz.zeroValue104
 t75:=Tryz.underlying106
 a75:=Tryz.isAgg106
 z75:=Tryz.sizeOf106
 v75:=Tryz.zeroValue106
 t76:=Tryz.underlying148
 a76:=Tryz.isAgg148
 z76:=Tryz.sizeOf148
 v76:=Tryz.zeroValue148
 t105:=Tryz.underlying150
 a105:=Tryz.isAgg150
 z105:=Tryz.sizeOf150
 v105:=Tryz.zeroValue150
 t119:=Tryz.underlying175
 a119:=Tryz.isAgg175
 z119:=Tryz.sizeOf175
 t127:=Tryz.underlying157
 a127:=Tryz.isAgg157
 z127:=Tryz.sizeOf157
 v127:=Tryz.zeroValue157
 t138:=Tryz.underlying222
 a138:=Tryz.isAgg222
 z138:=Tryz.sizeOf222
 v138:=Tryz.zeroValue222
 t139:=Tryz.underlying223
 a139:=Tryz.isAgg223
 z139:=Tryz.sizeOf223
 v139:=Tryz.zeroValue223
 t146:=Tryz.underlying255
 a146:=Tryz.isAgg255
 z146:=Tryz.sizeOf255
 v146:=Tryz.zeroValue255
 t164:=Tryz.underlying193
 a164:=Tryz.isAgg193
 z164:=Tryz.sizeOf193
 v164:=Tryz.zeroValue193
 g1:=by kernel_rfl
 g3:=by kernel_rfl
 g4:=by kernel_rfl }
theorem Tryz.Builder_Extra_154:Builder.Extra Tryz.prog Tryz.lays154_ren:= {
 sizeBuilder:=by kernel_rfl
 liesBuilder:=by kernel_rfl
 t5:=Tryz.underlying5
 a5:=Tryz.isAgg5
 z5:=Tryz.sizeOf5
 v5:=Tryz.zeroValue5
 infoByte:=by kernel_rfl
 cellsByte:=by kernel_rfl
 sizeByte:=by kernel_rfl
 neB5:=by decide }
def Tryz.lays155_ren:Go.Shelf.Ren:=⟨fun|155=>36|154=>62|138=>109|165=>110|143=>111|166=>112|197=>113|169=>65|195=>171|218=>172|240=>115|241=>173|219=>174|260=>175|276=>177|277=>221|217=>165|225=>222|224=>223|267=>224|266=>220|314=>258|n=>n,fun|9=>9|3=>3|4=>4|72=>104|0=>0|76=>148|105=>150|21=>21|5=>5|70=>102|20=>20|37=>41|75=>106|127=>157|164=>193|46=>24|119=>175|139=>223|138=>222|146=>255|51=>209|80=>108|n=>n,fun|1=>2|3=>3|4=>4|n=>n⟩
theorem Tryz.lays155:Go.Proofs.Lays.n155 Tryz.prog Tryz.lays155_ren:= {
 mixed:=by kernel_rfl
 f138:=Tryz.func109.trans (congrArg some (by kernel_rfl))
 f143:=Tryz.func111.trans (congrArg some (by kernel_rfl))
 f154:=Tryz.func62.trans (congrArg some (by kernel_rfl))
 f155:=Tryz.func36.trans (congrArg some (by kernel_rfl))
 f165:=Tryz.func110.trans (congrArg some (by kernel_rfl))
 f166:=Tryz.func112.trans (congrArg some (by kernel_rfl))
 f169:=Tryz.func65.trans (congrArg some (by kernel_rfl))
 f195:=Tryz.func171.trans (congrArg some (by kernel_rfl))
 f197:=Tryz.func113.trans (congrArg some (by kernel_rfl))
 f217:=Tryz.func165.trans (congrArg some (by kernel_rfl))
 f218:=Tryz.func172.trans (congrArg some (by kernel_rfl))
 f219:=Tryz.func174.trans (congrArg some (by kernel_rfl))
 f224:=Tryz.func223.trans (congrArg some (by kernel_rfl))
 f225:=Tryz.func222.trans (congrArg some (by kernel_rfl))
 f240:=Tryz.func115.trans (congrArg some (by kernel_rfl))
 f241:=Tryz.func173.trans (congrArg some (by kernel_rfl))
 f260:=Tryz.func175.trans (congrArg some (by kernel_rfl))
 f266:=Tryz.func220.trans (congrArg some (by kernel_rfl))
 f267:=Tryz.func224.trans (congrArg some (by kernel_rfl))
 f276:=Tryz.func177.trans (congrArg some (by kernel_rfl))
 f277:=Tryz.func221.trans (congrArg some (by kernel_rfl))
 f314:=Tryz.func258.trans (congrArg some (by kernel_rfl))
 t0:=Tryz.underlying0
 a0:=Tryz.isAgg0
 z0:=Tryz.sizeOf0
 v0:=Tryz.zeroValue0
 t3:=Tryz.underlying3
 a3:=Tryz.isAgg3
 z3:=Tryz.sizeOf3
 v3:=Tryz.zeroValue3
 t4:=Tryz.underlying4
 a4:=Tryz.isAgg4
 z4:=Tryz.sizeOf4
 v4:=Tryz.zeroValue4
 t5:=Tryz.underlying5
 a5:=Tryz.isAgg5
 z5:=Tryz.sizeOf5
 v5:=Tryz.zeroValue5
 t9:=Tryz.underlying9
 a9:=Tryz.isAgg9
 z9:=Tryz.sizeOf9
 v9:=Tryz.zeroValue9
 t20:=Tryz.underlying20
 a20:=Tryz.isAgg20
 z20:=Tryz.sizeOf20
 v20:=Tryz.zeroValue20
 t21:=Tryz.underlying21
 a21:=Tryz.isAgg21
 z21:=Tryz.sizeOf21
 v21:=Tryz.zeroValue21
 t37:=Tryz.underlying41
 a37:=Tryz.isAgg41
 z37:=Tryz.sizeOf41
 v37:=Tryz.zeroValue41
 t46:=Tryz.underlying24
 a46:=Tryz.isAgg24
 z46:=Tryz.sizeOf24
 v46:=Tryz.zeroValue24
 t51:=Tryz.underlying209
 a51:=Tryz.isAgg209
 z51:=Tryz.sizeOf209
 v51:=Tryz.zeroValue209
 t70:=Tryz.underlying102
 a70:=Tryz.isAgg102
 z70:=Tryz.sizeOf102
 v70:=Tryz.zeroValue102
 t72:=Tryz.underlying104
 a72:=Tryz.isAgg104
 z72:=Tryz.sizeOf104
 v72:=Tryz.zeroValue104
 t75:=Tryz.underlying106
 a75:=Tryz.isAgg106
 z75:=Tryz.sizeOf106
 v75:=Tryz.zeroValue106
 t76:=Tryz.underlying148
 a76:=Tryz.isAgg148
 z76:=Tryz.sizeOf148
 v76:=Tryz.zeroValue148
 t105:=Tryz.underlying150
 a105:=Tryz.isAgg150
 z105:=Tryz.sizeOf150
 v105:=Tryz.zeroValue150
 t119:=Tryz.underlying175
 a119:=Tryz.isAgg175
 z119:=Tryz.sizeOf175
 t127:=Tryz.underlying157
 a127:=Tryz.isAgg157
 z127:=Tryz.sizeOf157
 v127:=Tryz.zeroValue157
 t138:=Tryz.underlying222
 a138:=Tryz.isAgg222
 z138:=Tryz.sizeOf222
 v138:=Tryz.zeroValue222
 t139:=Tryz.underlying223
 a139:=Tryz.isAgg223
 z139:=Tryz.sizeOf223
 v139:=Tryz.zeroValue223
 t146:=Tryz.underlying255
 a146:=Tryz.isAgg255
 z146:=Tryz.sizeOf255
 v146:=Tryz.zeroValue255
 t164:=Tryz.underlying193
 a164:=Tryz.isAgg193
 z164:=Tryz.sizeOf193
 v164:=Tryz.zeroValue193
 g1:=by kernel_rfl
 g3:=by kernel_rfl
 g4:=by kernel_rfl }
theorem Tryz.Builder_Extra_155:Builder.Extra Tryz.prog Tryz.lays155_ren:= {
 sizeBuilder:=by kernel_rfl
 liesBuilder:=by kernel_rfl
 t5:=Tryz.underlying5
 a5:=Tryz.isAgg5
 z5:=Tryz.sizeOf5
 v5:=Tryz.zeroValue5
 infoByte:=by kernel_rfl
 cellsByte:=by kernel_rfl
 sizeByte:=by kernel_rfl
 neB5:=by decide }
open Go.RowKit Go.Lib in
theorem Tryz.strings_ReplaceAll (s old new:ByteArray) (m:Int) (w:World) (hs:s.size<4294967281) (hm:w.cell? ⟨2,0,none⟩=some (.int .i64 m)) (h1:1≤old.size) (hlen:s.size+Lib.countB s old*new.size≤140737488355328):
  Calls Tryz.prog 36 #[.string s,.string old,.string new] w fun e w'=>
   e= .returned (.string ⟨(Lib.replaceAll s.data.toList old.data.toList new.data.toList).toArray⟩)∧Below w.heap.size w w':=Any.strings_ReplaceAll Tryz.lays155 Tryz.Builder_Extra_155 s old new m w hs hm h1 hlen
def Tryz.lays197_ren:Go.Shelf.Ren:=⟨fun|197=>113|260=>175|n=>n,fun|9=>9|21=>21|3=>3|4=>4|5=>5|105=>150|119=>175|0=>0|46=>24|139=>223|138=>222|n=>n,fun|3=>3|4=>4|n=>n⟩
theorem Tryz.lays197:Go.Proofs.Lays.n197 Tryz.prog Tryz.lays197_ren:= {
 mixed:=by kernel_rfl
 f197:=Tryz.func113.trans (congrArg some (by kernel_rfl))
 f260:=Tryz.func175.trans (congrArg some (by kernel_rfl))
 t0:=Tryz.underlying0
 a0:=Tryz.isAgg0
 z0:=Tryz.sizeOf0
 v0:=Tryz.zeroValue0
 t3:=Tryz.underlying3
 a3:=Tryz.isAgg3
 z3:=Tryz.sizeOf3
 v3:=Tryz.zeroValue3
 t4:=Tryz.underlying4
 a4:=Tryz.isAgg4
 z4:=Tryz.sizeOf4
 v4:=Tryz.zeroValue4
 t5:=Tryz.underlying5
 a5:=Tryz.isAgg5
 z5:=Tryz.sizeOf5
 v5:=Tryz.zeroValue5
 t9:=Tryz.underlying9
 a9:=Tryz.isAgg9
 z9:=Tryz.sizeOf9
 v9:=Tryz.zeroValue9
 t21:=Tryz.underlying21
 a21:=Tryz.isAgg21
 z21:=Tryz.sizeOf21
 v21:=Tryz.zeroValue21
 t46:=Tryz.underlying24
 a46:=Tryz.isAgg24
 z46:=Tryz.sizeOf24
 v46:=Tryz.zeroValue24
 t105:=Tryz.underlying150
 a105:=Tryz.isAgg150
 z105:=Tryz.sizeOf150
 v105:=Tryz.zeroValue150
 t119:=Tryz.underlying175
 a119:=Tryz.isAgg175
 z119:=Tryz.sizeOf175
 t138:=Tryz.underlying222
 a138:=Tryz.isAgg222
 z138:=Tryz.sizeOf222
 v138:=Tryz.zeroValue222
 t139:=Tryz.underlying223
 a139:=Tryz.isAgg223
 z139:=Tryz.sizeOf223
 v139:=Tryz.zeroValue223
 g3:=by kernel_rfl
 g4:=by kernel_rfl }
def Tryz.lays152_ren:Go.Shelf.Ren:=⟨fun|152=>188|137=>95|119=>233|224=>223|225=>222|217=>165|266=>220|n=>n,fun|9=>9|21=>21|3=>3|4=>4|5=>5|0=>0|46=>24|n=>n,fun|n=>n⟩
theorem Tryz.lays152:Go.Proofs.Lays.n152 Tryz.prog Tryz.lays152_ren:= {
 mixed:=by kernel_rfl
 f119:=Tryz.func233.trans (congrArg some (by kernel_rfl))
 f137:=Tryz.func95.trans (congrArg some (by kernel_rfl))
 f152:=Tryz.func188.trans (congrArg some (by kernel_rfl))
 f217:=Tryz.func165.trans (congrArg some (by kernel_rfl))
 f224:=Tryz.func223.trans (congrArg some (by kernel_rfl))
 f225:=Tryz.func222.trans (congrArg some (by kernel_rfl))
 f266:=Tryz.func220.trans (congrArg some (by kernel_rfl))
 t0:=Tryz.underlying0
 a0:=Tryz.isAgg0
 z0:=Tryz.sizeOf0
 v0:=Tryz.zeroValue0
 t3:=Tryz.underlying3
 a3:=Tryz.isAgg3
 z3:=Tryz.sizeOf3
 v3:=Tryz.zeroValue3
 t4:=Tryz.underlying4
 a4:=Tryz.isAgg4
 z4:=Tryz.sizeOf4
 v4:=Tryz.zeroValue4
 t5:=Tryz.underlying5
 a5:=Tryz.isAgg5
 z5:=Tryz.sizeOf5
 v5:=Tryz.zeroValue5
 t9:=Tryz.underlying9
 a9:=Tryz.isAgg9
 z9:=Tryz.sizeOf9
 v9:=Tryz.zeroValue9
 t21:=Tryz.underlying21
 a21:=Tryz.isAgg21
 z21:=Tryz.sizeOf21
 v21:=Tryz.zeroValue21
 t46:=Tryz.underlying24
 a46:=Tryz.isAgg24
 z46:=Tryz.sizeOf24
 v46:=Tryz.zeroValue24 }
open Go.RowKit Go.Lib in
theorem Tryz.strings_IndexRune_ascii (s:ByteArray) (r:Int) (w:World) (h0:0≤r) (h1:r<128):
  Calls Tryz.prog 188 #[.string s,.int .i32 r] w fun e w'=>e= .returned (.int .i64 (Lib.indexByte s.data.toList r.toNat.toUInt8))∧w'=w:=Any.strings_IndexRune_ascii Tryz.lays152 s r w h0 h1
def Tryz.lays260_ren:Go.Shelf.Ren:=⟨fun|260=>175|n=>n,fun|9=>9|21=>21|3=>3|4=>4|5=>5|119=>175|0=>0|46=>24|139=>223|138=>222|n=>n,fun|3=>3|4=>4|n=>n⟩
theorem Tryz.lays260:Go.Proofs.Lays.n260 Tryz.prog Tryz.lays260_ren:= {
 mixed:=by kernel_rfl
 f260:=Tryz.func175.trans (congrArg some (by kernel_rfl))
 t0:=Tryz.underlying0
 a0:=Tryz.isAgg0
 z0:=Tryz.sizeOf0
 v0:=Tryz.zeroValue0
 t3:=Tryz.underlying3
 a3:=Tryz.isAgg3
 z3:=Tryz.sizeOf3
 v3:=Tryz.zeroValue3
 t4:=Tryz.underlying4
 a4:=Tryz.isAgg4
 z4:=Tryz.sizeOf4
 v4:=Tryz.zeroValue4
 t5:=Tryz.underlying5
 a5:=Tryz.isAgg5
 z5:=Tryz.sizeOf5
 v5:=Tryz.zeroValue5
 t9:=Tryz.underlying9
 a9:=Tryz.isAgg9
 z9:=Tryz.sizeOf9
 v9:=Tryz.zeroValue9
 t21:=Tryz.underlying21
 a21:=Tryz.isAgg21
 z21:=Tryz.sizeOf21
 v21:=Tryz.zeroValue21
 t46:=Tryz.underlying24
 a46:=Tryz.isAgg24
 z46:=Tryz.sizeOf24
 v46:=Tryz.zeroValue24
 t119:=Tryz.underlying175
 a119:=Tryz.isAgg175
 z119:=Tryz.sizeOf175
 t138:=Tryz.underlying222
 a138:=Tryz.isAgg222
 z138:=Tryz.sizeOf222
 v138:=Tryz.zeroValue222
 t139:=Tryz.underlying223
 a139:=Tryz.isAgg223
 z139:=Tryz.sizeOf223
 v139:=Tryz.zeroValue223
 g3:=by kernel_rfl
 g4:=by kernel_rfl }
open Go.RowKit Go.Lib in
theorem Tryz.utf8_DecodeRuneInString (s:ByteArray) (w:World) (hT:Lib.Utf8Tabs 3 4 w):
  Calls Tryz.prog 113 #[.string s] w fun e w'=>e= .returned (.tuple #[.int .i32 (Lib.decodeGo s).1,.int .i64 (Lib.decodeGo s).2])∧Below w.heap.size w w':=Any.utf8_DecodeRuneInString Tryz.lays197 s w hT
end Go.Proofs
namespace Go.Proofs.YtnobjeelihkjmaaGreatDoor
theorem hJ {p:Prop} (h:p):Go.RowKit.Hid p:=h
section
open Go.RowKit
theorem or32 (c:UInt8):bits BinOp.or IntKind.u8 (c.toNat:Int) 32=((c.toNat|||32:Nat):Int):=by
 have h: ∀n:Fin 256,bits BinOp.or IntKind.u8 ((n.val:Nat):Int) 32=((n.val|||32:Nat):Int):=by decide+kernel
 exact h ⟨c.toNat,c.toNat_lt⟩
theorem aT5 (c:UInt8):(c.toNat|||32)<256:=by
 have h: ∀n:Fin 256,(n.val|||32)<256:=by decide+kernel
 exact h ⟨c.toNat,c.toNat_lt⟩
theorem ax2 {a b:Bool} (h:a=b):Ending.returned (.bool a)= .returned (.bool b):=by rw [h]
theorem bG0 {k:IntKind} {a b:Int} (h:a=b):Ending.returned (.int k a)= .returned (.int k b):=by rw [h]
theorem ac5 (s:ByteArray) (k:Nat) (h:k<s.size):s.data.toList.drop k=s[k]::s.data.toList.drop (k+1):=by
 rw [List.drop_eq_getElem_cons (by simpa using h)];rfl
theorem av5 (s:ByteArray):s.data.toList.drop s.size= []:=List.drop_eq_nil_of_le (by simp)
theorem ofl (s:ByteArray):s.data.toList.length=s.size:=by simp
theorem bs5 (s:ByteArray) (i:Nat) (h:i<s.size):s.data.toList[i]? =some s[i]:=by rw [List.getElem?_eq_getElem (by simpa using h)];rfl
theorem ab9 (a:ByteArray) (l:List UInt8) (h:a.data.toList=l):(⟨l.toArray⟩:ByteArray)=a:=by subst h;cases a;simp
theorem aM5 {a b:ByteArray} (h:a.data.toList=b.data.toList):a=b:=by
 cases a;cases b
 simp at h
 subst h
 rfl
theorem aq9 {c:UInt8} {d:UInt8} (h:c=d):(((c.toNat:Nat):Int)==((d.toNat:Nat):Int))=true:=by rw [h];exact beq_self_eq_true _
theorem ap3 {c:UInt8} {d:UInt8} (h:c≠d):(((c.toNat:Nat):Int)==((d.toNat:Nat):Int))=false:=by
 rw [beq_eq_false_iff_ne]
 exact fun e=>h (UInt8.toNat.inj (by omega))
theorem aa0 {w w1 w2:World} (h:Below w.heap.size w w1) (h2:Below w1.heap.size w1 w2):Below w.heap.size w w2:=h.trans (h2.mono h.size)
theorem aa3 {B:Nat} {a w:World} (h:Below B a w) (n:Nat):Below B a (w.drewN n):=h.trans ⟨rfl,rfl,rfl,Nat.le_refl _,fun _ _=>rfl⟩
theorem ai0 {a w:World} (h:Below a.heap.size a w) (o:Obj):Below a.heap.size a (w.alloc o):=Below.alloc h h.size o
theorem bJ6 {w:World} {base base' size n:Nat} {e:TypeId} {v:Value} {xs:List Value} (h:w.ownsRow base e size v n xs) (hb:base'≤base):w.ownsRow base' e size v n xs:=by
 rcases h with ⟨h1,h2⟩
 refine⟨h1,?_⟩
 rcases h2 with h2|⟨g,cap,cur,hv,hg,rest⟩
 ·exact .inl h2
 ·exact .inr ⟨g,cap,cur,hv,Nat.le_trans hb hg,rest⟩
theorem az8 (s:ByteArray) (k:Nat):(s.extract 0 k).data.toList=s.data.toList.take k:=by rw [Lib.extract_data,List.drop_zero,Nat.sub_zero]
theorem af9 (s:ByteArray) (k:Nat):(s.extract k s.size).data.toList=s.data.toList.drop k:=by
 rw [Lib.extract_data,List.take_of_length_le]
 rw [List.length_drop,ofl]
 exact Nat.le_refl _
end
section
open Go.RowKit
def aY4 (w:World) (g:Nat) (l:List Int):Prop:= ∀j (h:j<l.length),w.cell? ⟨g,j,none⟩=some (.int .i64 l[j])
theorem ah6 (w:World) (l:List Int) (t:TypeId):aY4 (w.alloc (.cells (l.map (Value.int .i64)).toArray t)) w.heap.size l:=by
 intro j h
 have e:(w.alloc (.cells (l.map (Value.int .i64)).toArray t)).heap[w.heap.size]? =some (.cells (l.map (Value.int .i64)).toArray t (0,0)):=heap_alloc_new _ _
 simp only [World.cell?,e]
 simp [h]
theorem ap1 (w:World) (l:List Int) (t:TypeId) (g:Nat) (hg:g=w.heap.size):aY4 (w.alloc (.cells (l.map (Value.int .i64)).toArray t)) g l:=by
 subst hg
 exact ah6 w l t
def oneL (r:Int):List Int→Bool
 |a::l=>if r=a then true else oneL r l
 |_=>false
theorem bn4 (r:Int) (l:List Int) (k:Nat) (h:k<l.length):oneL r (l.drop k)=if r=l[k] then true else oneL r (l.drop (k+1)):=by
 rw [List.drop_eq_getElem_cons h,oneL]
theorem bx0 (r:Int) (l:List Int) (k:Nat) (h:l.length≤k):oneL r (l.drop k)=false:=by rw [List.drop_of_length_le h];rfl
def inL (r:Int):List Int→Bool
 |a::b::l=>if a≤r∧r≤b then true else inL r l
 |_=>false
theorem bt0 (r:Int) (l:List Int) (k:Nat) (h:k+1<l.length):inL r (l.drop k)=if l[k]≤r∧r≤l[k+1] then true else inL r (l.drop (k+2)):=by
 rw [List.drop_eq_getElem_cons (by omega:k<l.length),List.drop_eq_getElem_cons h,inL]
theorem bC9 (r:Int) (l:List Int) (k:Nat) (h:l.length≤k+1):inL r (l.drop k)=false:=by
 by_cases h1:l.length≤k
 ·rw [List.drop_of_length_le h1];rfl
 ·rw [List.drop_eq_getElem_cons (by omega:k<l.length),List.drop_of_length_le (by omega)]
  rfl
theorem au0 (r:Int) (l:List Int) (g cap:Nat) (w:World) (hl:l.length≤1000) (hc:aY4 w g l):
  Calls Tryz.prog 163 #[.int .i64 r,.slice (some ⟨g,0,none⟩) l.length cap] w fun e w'=>e= .returned (.bool (oneL r l))∧w=w':=by
 have HC:=hJ hc
 clear hc
 go_enter Tryz.func163,Tryz.ntmps163
 go_wp2
 go_loop [9] (fun i=> ∃k:Nat,k≤l.length∧i= .int .i64 k∧oneL r l=oneL r (l.drop k)) (fun i=>l.length - (intOf i).toNat)
 case atStart=>exact⟨0,Nat.zero_le _,rfl,rfl⟩
 case round=>
  obtain⟨k,hk,rfl,hv⟩:=hrel
  by_cases hlt:k<l.length
  ·have hcell:=HC.out k hlt
   rw [bn4 r l k hlt] at hv
   by_cases he:r=l[k]
   ·have b0:(r==l[k])=true:=by rw [beq_iff_eq];exact he
    rw [if_pos he] at hv
    have HV:=hJ hv
    clear hv he
    go_wp2_with fail
    go_ret
    exact⟨by rw [HV.out];rfl,rfl⟩
   ·have b0:(r==l[k])=false:=by rw [beq_eq_false_iff_ne];exact he
    rw [if_neg he] at hv
    have HV:=hJ hv
    clear hv he
    go_wp2_with fail
    go_round
    case rel=>exact⟨k+1,by omega,by go_num,HV.out⟩
    case measure=>simp [intOf];omega
  ·rw [bx0 r l k (by omega)] at hv
   have HV:=hJ hv
   clear hv
   go_wp2_with fail
   go_ret
   exact⟨by rw [HV.out];rfl,rfl⟩
theorem aZ8 (r:Int) (l:List Int) (g cap:Nat) (w:World) (hl:l.length≤1000) (hc:aY4 w g l):
  Calls Tryz.prog 164 #[.int .i64 r,.slice (some ⟨g,0,none⟩) l.length cap] w fun e w'=>e= .returned (.bool (inL r l))∧w=w':=by
 have HC:=hJ hc
 clear hc
 go_enter Tryz.func164,Tryz.ntmps164
 go_wp2
 go_loop [5] (fun i=> ∃k:Nat,k≤l.length+1∧i= .int .i64 k∧inL r l=inL r (l.drop k)) (fun i=>l.length+1 - (intOf i).toNat)
 case atStart=>exact⟨0,Nat.zero_le _,rfl,rfl⟩
 case round=>
  obtain⟨k,hk,rfl,hv⟩:=hrel
  by_cases hlt:k+1<l.length
  ·have hcell:=HC.out k (by omega)
   have hcell2:=HC.out (k+1) hlt
   rw [bt0 r l k hlt] at hv
   by_cases h1:l[k]≤r
   ·by_cases h2:r≤l[k+1]
    ·rw [if_pos ⟨h1,h2⟩] at hv
     have HV:=hJ hv
     clear hv
     go_wp2_with fail
     go_ret
     exact⟨by rw [HV.out];rfl,rfl⟩
    ·rw [if_neg (fun h=>h2 h.2)] at hv
     have HV:=hJ hv
     clear hv
     go_wp2_with fail
     go_round
     case rel=>exact⟨k+2,by omega,by go_num,HV.out⟩
     case measure=>simp [intOf];omega
   ·rw [if_neg (fun h=>h1 h.1)] at hv
    have HV:=hJ hv
    clear hv
    go_wp2_with fail
    go_round
    case rel=>exact⟨k+2,by omega,by go_num,HV.out⟩
    case measure=>simp [intOf];omega
  ·rw [bC9 r l k (by omega)] at hv
   have HV:=hJ hv
   clear hv
   go_wp2_with fail
   go_ret
   exact⟨by rw [HV.out];rfl,rfl⟩
abbrev bC2:List Int:= [10,13,8232,8233]
abbrev aH7:List Int:= [9,11,12,32,160,5760,8239,8287,12288,65279]
abbrev bb7:List Int:= [65,90,97,122]
abbrev aJ5:List Int:= [170,181,186,902]
abbrev aG1:List Int:= [192,214,216,246,248,705,880,883,904,1023,1024,1153,1162,1327,1329,1366,1488,1514,1568,1610,2308,2361,3585,3632,7680,8191,12353,12438,12449,12538,13312,19903,19968,40959,44032,55203,131072,173791]
abbrev bx3:List Int:= [48,57,768,879,1155,1159,1632,1641,2406,2415,8204,8205,65296,65305]
def at6 (c:Int):Bool:=oneL c bC2
def az6 (c:Int):Bool:=oneL c aH7||inL c [8192,8202]
def ae2 (c:Int):Bool:=if c<128 then oneL c [36,95]||inL c bb7 else oneL c aJ5||inL c aG1
def ay6 (c:Int):Bool:=ae2 c||inL c bx3
theorem aK8 (c:Int) (w:World):Calls Tryz.prog 91 #[.int .i64 c] w fun e w'=>e= .returned (.bool (at6 c))∧Below w.heap.size w w':=by
 go_enter Tryz.func91,Tryz.ntmps91
 go_wp2_with (go_at_call 163;refine(au0 c bC2 _ _ _ (by decide) (ah6 w bC2 3)).mono ?_;rintro e w1 ⟨rfl,rfl⟩)
 go_ret
 exact⟨rfl,(Below.refl _ _).alloc (Nat.le_refl _) _⟩
theorem bi5 (c:Int) (w:World):Calls Tryz.prog 92 #[.int .i64 c] w fun e w'=>e= .returned (.bool (az6 c))∧Below w.heap.size w w':=by
 cases h:oneL c aH7 with
 |true=>
  have HV:=hJ (show az6 c=true by unfold az6;rw [h];rfl)
  have h1:=fun g cap W hi=>au0 c aH7 g cap W (by decide) hi
  rw [h] at h1
  have H1:=hJ h1
  clear h h1
  go_enter Tryz.func92,Tryz.ntmps92
  go_wp2_with (go_at_call 163;refine(H1.out _ _ _ (ah6 w aH7 3)).mono ?_;rintro e w1 ⟨rfl,rfl⟩)
  go_ret
  exact⟨by rw [HV.out];rfl,(Below.refl _ _).alloc (Nat.le_refl _) _⟩
 |false=>
  have HV:=hJ (show az6 c=inL c [8192,8202] by unfold az6;rw [h];rfl)
  have h1:=fun g cap W hi=>au0 c aH7 g cap W (by decide) hi
  rw [h] at h1
  have H1:=hJ h1
  clear h h1
  go_enter Tryz.func92,Tryz.ntmps92
  go_wp2_with (first|(go_at_call 163;refine(H1.out _ _ _ (ah6 w aH7 3)).mono ?_;rintro e w1 ⟨rfl,rfl⟩)|(go_at_call 164;refine(aZ8 c [8192,8202] _ _ _ (by decide) (ap1 _ [8192,8202] 3 _ (by first|rfl|simp))).mono ?_;rintro e w1 ⟨rfl,rfl⟩))
  go_ret
  exact⟨by rw [HV.out];rfl,((Below.refl _ _).alloc (Nat.le_refl _) _).alloc (by simp) _⟩
end
section
open Go.RowKit
theorem bk7 (c:Int) (w:World) (g:Nat) (hg:g=w.heap.size):Calls Tryz.prog 164 #[.int .i64 c,.slice (some ⟨g,0,none⟩) 38 38] (w.alloc (.cells #[.int .i64 192,.int .i64 214,.int .i64 216,.int .i64 246,.int .i64 248,.int .i64 705,.int .i64 880,.int .i64 883,.int .i64 904,.int .i64 1023,.int .i64 1024,.int .i64 1153,.int .i64 1162,.int .i64 1327,.int .i64 1329,.int .i64 1366,.int .i64 1488,.int .i64 1514,.int .i64 1568,.int .i64 1610,.int .i64 2308,.int .i64 2361,.int .i64 3585,.int .i64 3632,.int .i64 7680,.int .i64 8191,.int .i64 12353,.int .i64 12438,.int .i64 12449,.int .i64 12538,.int .i64 13312,.int .i64 19903,.int .i64 19968,.int .i64 40959,.int .i64 44032,.int .i64 55203,.int .i64 131072,.int .i64 173791] 3)) fun e w'=>e= .returned (.bool (inL c aG1))∧w.alloc (.cells #[.int .i64 192,.int .i64 214,.int .i64 216,.int .i64 246,.int .i64 248,.int .i64 705,.int .i64 880,.int .i64 883,.int .i64 904,.int .i64 1023,.int .i64 1024,.int .i64 1153,.int .i64 1162,.int .i64 1327,.int .i64 1329,.int .i64 1366,.int .i64 1488,.int .i64 1514,.int .i64 1568,.int .i64 1610,.int .i64 2308,.int .i64 2361,.int .i64 3585,.int .i64 3632,.int .i64 7680,.int .i64 8191,.int .i64 12353,.int .i64 12438,.int .i64 12449,.int .i64 12538,.int .i64 13312,.int .i64 19903,.int .i64 19968,.int .i64 40959,.int .i64 44032,.int .i64 55203,.int .i64 131072,.int .i64 173791] 3)=w':=by
 have e:(aG1.map (Value.int .i64)).toArray= #[.int .i64 192,.int .i64 214,.int .i64 216,.int .i64 246,.int .i64 248,.int .i64 705,.int .i64 880,.int .i64 883,.int .i64 904,.int .i64 1023,.int .i64 1024,.int .i64 1153,.int .i64 1162,.int .i64 1327,.int .i64 1329,.int .i64 1366,.int .i64 1488,.int .i64 1514,.int .i64 1568,.int .i64 1610,.int .i64 2308,.int .i64 2361,.int .i64 3585,.int .i64 3632,.int .i64 7680,.int .i64 8191,.int .i64 12353,.int .i64 12438,.int .i64 12449,.int .i64 12538,.int .i64 13312,.int .i64 19903,.int .i64 19968,.int .i64 40959,.int .i64 44032,.int .i64 55203,.int .i64 131072,.int .i64 173791]:=rfl
 have h:=aZ8 c aG1 g 38 (w.alloc (.cells (aG1.map (Value.int .i64)).toArray 3)) (by decide) (ap1 w aG1 3 g hg)
 rw [e] at h
 exact h
theorem aG5 (w:World) (a b:Obj):Below w.heap.size w ((w.alloc a).alloc b):=((Below.refl _ _).alloc (Nat.le_refl _) _).alloc (by simp) _
theorem am0 (c:Int) (w:World):Calls Tryz.prog 166 #[.int .i64 c] w fun e w'=>e= .returned (.bool (ae2 c))∧Below w.heap.size w w':=by
 by_cases hc:c<128
 ·cases h:oneL c [36,95] with
  |true=>
   have HV:=hJ (show ae2 c=true by unfold ae2;rw [if_pos hc,h];rfl)
   have h1:=fun g cap W hi=>au0 c [36,95] g cap W (by decide) hi
   rw [h] at h1
   have H1:=hJ h1
   clear h h1
   go_enter Tryz.func166,Tryz.ntmps166
   go_wp2_with (go_at_call 163;refine(H1.out _ _ _ (ah6 w [36,95] 3)).mono ?_;rintro e w1 ⟨rfl,rfl⟩)
   go_ret
   exact⟨by rw [HV.out];rfl,(Below.refl _ _).alloc (Nat.le_refl _) _⟩
  |false=>
   have HV:=hJ (show ae2 c=inL c bb7 by unfold ae2;rw [if_pos hc,h];rfl)
   have h1:=fun g cap W hi=>au0 c [36,95] g cap W (by decide) hi
   rw [h] at h1
   have H1:=hJ h1
   clear h h1
   go_enter Tryz.func166,Tryz.ntmps166
   go_wp2_with (first|(go_at_call 163;refine(H1.out _ _ _ (ah6 w [36,95] 3)).mono ?_;rintro e w1 ⟨rfl,rfl⟩)|(go_at_call 164;refine(aZ8 c bb7 _ _ _ (by decide) (ap1 _ bb7 3 _ (by first|rfl|simp))).mono ?_;rintro e w1 ⟨rfl,rfl⟩))
   go_ret
   exact⟨by rw [HV.out];rfl,aG5 _ _ _⟩
 ·cases h:oneL c aJ5 with
  |true=>
   have HV:=hJ (show ae2 c=true by unfold ae2;rw [if_neg hc,h];rfl)
   have h1:=fun g cap W hi=>au0 c aJ5 g cap W (by decide) hi
   rw [h] at h1
   have H1:=hJ h1
   clear h h1
   go_enter Tryz.func166,Tryz.ntmps166
   go_wp2_with (go_at_call 163;refine(H1.out _ _ _ (ah6 w aJ5 3)).mono ?_;rintro e w1 ⟨rfl,rfl⟩)
   go_ret
   exact⟨by rw [HV.out];rfl,(Below.refl _ _).alloc (Nat.le_refl _) _⟩
  |false=>
   have HV:=hJ (show ae2 c=inL c aG1 by unfold ae2;rw [if_neg hc,h];rfl)
   have h1:=fun g cap W hi=>au0 c aJ5 g cap W (by decide) hi
   rw [h] at h1
   have H1:=hJ h1
   clear h h1
   go_enter Tryz.func166,Tryz.ntmps166
   go_wp2_with (first|(go_at_call 163;refine(H1.out _ _ _ (ah6 w aJ5 3)).mono ?_;rintro e w1 ⟨rfl,rfl⟩)|(go_at_call 164;refine(bk7 c _ _ (by first|(simp;done)|rfl)).mono ?_;rintro e w1 ⟨rfl,rfl⟩))
   go_ret
   exact⟨by rw [HV.out];rfl,aG5 _ _ _⟩
theorem aw6 (c:Int) (w:World):Calls Tryz.prog 167 #[.int .i64 c] w fun e w'=>e= .returned (.bool (ay6 c))∧Below w.heap.size w w':=by
 cases h:ae2 c with
 |true=>
  have HV:=hJ (show ay6 c=true by unfold ay6;rw [h];rfl)
  have h1:=fun W=>am0 c W
  rw [h] at h1
  have H1:=hJ h1
  clear h h1
  go_enter Tryz.func167,Tryz.ntmps167
  go_wp2_with (go_at_call 166;refine(H1.out _).mono ?_;rintro e w1 ⟨rfl,hb1⟩)
  go_ret
  exact⟨by rw [HV.out];rfl,hb1⟩
 |false=>
  have HV:=hJ (show ay6 c=inL c bx3 by unfold ay6;rw [h];rfl)
  have h1:=fun W=>am0 c W
  rw [h] at h1
  have H1:=hJ h1
  clear h h1
  go_enter Tryz.func167,Tryz.ntmps167
  go_wp2_with (first|(go_at_call 166;refine(H1.out _).mono ?_;rintro e w1 ⟨rfl,hb1⟩)|(go_at_call 164;refine(aZ8 c bx3 _ _ _ (by decide) (ap1 _ bx3 3 _ (by first|rfl|simp))).mono ?_;rintro e w1 ⟨rfl,rfl⟩))
  go_ret
  exact⟨by rw [HV.out];rfl,ai0 hb1 _⟩
end
section
def isD (b:Nat) (c:UInt8):Bool:=
 if 48≤c.toNat∧c.toNat≤49 then true
 else if 50≤c.toNat∧c.toNat≤55 then decide (b≠98)
 else if 56≤c.toNat∧c.toNat≤57 then decide (b≠98∧b≠111)
 else decide (b=120∧97≤(c.toNat|||32)∧(c.toNat|||32)≤102∧65≤c.toNat)
def headD (b:Nat):List UInt8→Bool
 | []=>false
 |c::_=>isD b c
def runN (b:Nat):Bool→List UInt8→Nat
 |_,[]=>0
 |p,c::l=>if isD b c=true then runN b true l+1 else if c=95∧p=true∧headD b l=true then runN b false l+1 else 0
theorem aL8 (b:Nat): ∀(p:Bool) (l:List UInt8),runN b p l≤l.length
 |_,[]=>Nat.le_refl _
 |p,c::l=>by
  rw [runN,List.length_cons]
  have h1:=aL8 b true l
  have h2:=aL8 b false l
  split
  ·omega
  ·split<;>omega
theorem bI6 (b:Nat):isD b 95=false:=by
 unfold isD
 rw [if_neg (by decide),if_neg (by decide),if_neg (by decide)]
 have: ¬(b=120∧97≤((95:UInt8).toNat|||32)∧((95:UInt8).toNat|||32)≤102∧65≤(95:UInt8).toNat):=fun h=>absurd h.2.2.1 (by decide)
 exact decide_eq_false this
end
section
open Go.RowKit
theorem al1 (c:UInt8) (b:Nat) (w:World) (hb:b<256):
  Calls Tryz.prog 228 #[.int .u8 c.toNat,.int .u8 b] w fun e w'=>e= .returned (.bool (isD b c))∧w=w':=by
 have ho:=or32 c
 have hl:=aT5 c
 have hc:=c.toNat_lt
 go_enter Tryz.func228,Tryz.ntmps228
 go_wp2
 all_goals
  go_ret
  refine⟨ax2 ?_,rfl⟩
  rw [Bool.eq_iff_iff]
  unfold isD
  repeat' split
  all_goals first
   |omega
   |(simp<;>omega)
theorem bs8 (b:Nat) (s:ByteArray) (k:Nat) (h:k<s.size):headD b (s.data.toList.drop k)=isD b s[k]:=by rw [ac5 s k h];rfl
theorem bk3 (b:Nat) (s:ByteArray) (k:Nat) (h:s.size≤k):headD b (s.data.toList.drop k)=false:=by
 rw [List.drop_of_length_le (by rw [ofl];exact h)]
 rfl
structure RunR (b:Nat) (s:ByteArray) (k:Nat) (p:Bool):Prop where
 eq:runN b false s.data.toList=k+runN b p (s.data.toList.drop k)
 at0:k=0→p=false
 prev: ∀h:k - 1<s.size,0<k→p= !(s[k - 1]==95)
theorem az0 {b:Nat} {s:ByteArray} {k:Nat} {p:Bool} (h:RunR b s k p) (hw:runN b p (s.data.toList.drop k)=0):runN b false s.data.toList=k:=by rw [h.eq,hw];rfl
theorem aL9 (s:ByteArray) (b:Nat) (w:World) (hb:b<256) (hs:s.size≤16777216):
  Calls Tryz.prog 178 #[.string s,.int .u8 b] w fun e w'=>e= .returned (.tuple #[.string (s.extract 0 (runN b false s.data.toList)),.string (s.extract (runN b false s.data.toList) s.size)])∧Below w.heap.size w w':=by
 go_enter Tryz.func178,Tryz.ntmps178
 go_upto_block 0 with fail
 go_cut [6] (fun i wx=>i= .int .i64 (runN b false s.data.toList:Nat)∧wx=w)
 case first=>
  go_wp2_with fail
  go_loop [6] (fun i=> ∃(k:Nat) (p:Bool),k≤s.size∧i= .int .i64 k∧RunR b s k p) (fun i=>s.size - (intOf i).toNat)
  case atStart=>exact⟨0,false,Nat.zero_le _,rfl,by simp,fun _=>rfl,fun _ h=>absurd h (by omega)⟩
  case round=>
   obtain⟨k,p,hk,rfl,hr⟩:=hrel
   have HR:=hJ hr
   clear hr
   by_cases hlt:k<s.size
   ·have hx:=ac5 s k hlt
    cases hd:isD b s[k] with
    |true=>
     have HN:=hJ (show RunR b s (k+1) true from⟨by rw [HR.out.eq,hx,runN,if_pos hd];omega,fun h=>by omega,fun h _=>by
      have:s[k]≠95:=fun e=>by rw [e,bI6] at hd;cases hd
      simp [this]⟩)
     skip
     clear hx
     go_wp2_with (go_at_call 228;refine(al1 _ b _ hb).mono ?_;rintro e w' ⟨rfl,rfl⟩)
     go_round
     case rel=>exact⟨k+1,true,by omega,by go_num,HN.out⟩
     case measure=>simp [intOf];omega
    |false=>
     skip
     by_cases h95:s[k]=95
     ·have b1:(((s[k].toNat:Nat):Int)==95)=true:=aq9 h95
      by_cases hk0:0<k
      ·have hk1:k - 1<s.size:=by omega
       by_cases hp:s[k - 1]=95
       ·have b2:(((s[k - 1].toNat:Nat):Int) !=95)=false:=by rw [bne_eq_false_iff_eq,hp];rfl
        have hpf:p=false:=by rw [HR.out.prev hk1 hk0,hp];rfl
        have hw:runN b p (s.data.toList.drop k)=0:=by rw [hx,runN,if_neg (by rw [hd];decide),if_neg (by rw [hpf];exact fun h=>absurd h.2.1 (by decide))]
        clear hp hpf h95
        have HE:=hJ (az0 HR.out hw)
        clear HR hx
        go_wp2_with (go_at_call 228;refine(al1 _ b _ hb).mono ?_;rintro e w' ⟨rfl,rfl⟩)
        go_meet
        exact⟨by rw [HE.out],rfl⟩
       ·have b2:(((s[k - 1].toNat:Nat):Int) !=95)=true:=by rw [bne_iff_ne];exact fun e=>hp (UInt8.toNat.inj (by rw [show s[k - 1].toNat=95 by omega];rfl))
        have hpt:p=true:=by rw [HR.out.prev hk1 hk0];simp [hp]
        by_cases hl2:k+1<s.size
        ·have hh:=bs8 b s (k+1) hl2
         cases hd2:isD b s[k+1] with
         |false=>
          rw [hd2] at hh
          have hw:runN b p (s.data.toList.drop k)=0:=by rw [hx,runN,if_neg (by rw [hd];decide),if_neg (by rw [hh];exact fun h=>absurd h.2.2 (by decide))]
          clear hp hpt h95 hh
          have HE:=hJ (az0 HR.out hw)
          clear HR hx
          go_wp2_with (go_at_call 228;refine(al1 _ b _ hb).mono ?_;rintro e w' ⟨rfl,rfl⟩)
          go_meet
          exact⟨by rw [HE.out],rfl⟩
         |true=>
          rw [hd2] at hh
          have HN:=hJ (show RunR b s (k+1) false from⟨by rw [HR.out.eq,hx,runN,if_neg (by rw [hd];decide),if_pos ⟨h95,hpt,hh⟩];omega,fun h=>by omega,fun h _=>by simp [h95]⟩)
          clear hp hpt h95 hh HR hx
          go_wp2_with (go_at_call 228;refine(al1 _ b _ hb).mono ?_;rintro e w' ⟨rfl,rfl⟩)
          go_round
          case rel=>exact⟨k+1,false,by omega,by go_num,HN.out⟩
          case measure=>simp [intOf];omega
        ·have hh:=bk3 b s (k+1) (by omega)
         have hw:runN b p (s.data.toList.drop k)=0:=by rw [hx,runN,if_neg (by rw [hd];decide),if_neg (by rw [hh];exact fun h=>absurd h.2.2 (by decide))]
         clear hp hpt h95 hh
         have HE:=hJ (az0 HR.out hw)
         clear HR hx
         go_wp2_with (go_at_call 228;refine(al1 _ b _ hb).mono ?_;rintro e w' ⟨rfl,rfl⟩)
         go_meet
         exact⟨by rw [HE.out],rfl⟩
      ·have hpf:=HR.out.at0 (by omega)
       have hw:runN b p (s.data.toList.drop k)=0:=by rw [hx,runN,if_neg (by rw [hd];decide),if_neg (by rw [hpf];exact fun h=>absurd h.2.1 (by decide))]
       have hk00:k=0:=by omega
       subst hk00
       clear hpf h95 hk0
       have HE:=hJ (az0 HR.out hw)
       clear HR hx
       go_wp2_with (go_at_call 228;refine(al1 _ b _ hb).mono ?_;rintro e w' ⟨rfl,rfl⟩)
       go_meet
       exact⟨by rw [HE.out];rfl,rfl⟩
     ·have b1:(((s[k].toNat:Nat):Int)==95)=false:=ap3 h95
      have hw:runN b p (s.data.toList.drop k)=0:=by rw [hx,runN,if_neg (by rw [hd];decide),if_neg (fun h=>h95 h.1)]
      clear h95
      have HE:=hJ (az0 HR.out hw)
      clear HR hx
      go_wp2_with (go_at_call 228;refine(al1 _ b _ hb).mono ?_;rintro e w' ⟨rfl,rfl⟩)
      go_meet
      exact⟨by rw [HE.out],rfl⟩
   ·obtain rfl:k=s.size:=by omega
    have hw:runN b p (s.data.toList.drop s.size)=0:=by rw [av5];cases p<;>rfl
    have hx:True:=trivial
    have HE:=hJ (az0 HR.out hw)
    clear HR hx
    go_wp2_with fail
    go_meet
    exact⟨by rw [HE.out],rfl⟩
 case rest=>
  obtain⟨rfl,hwc⟩:=hcut
  subst hwc
  have hle:=aL8 b false s.data.toList
  rw [ofl] at hle
  generalize hN:runN b false s.data.toList=n at*
  have HN:=hJ hN
  clear hN
  go_upto_region 4 with fail
  go_quiet (fail)
  go_wp2_with fail
  go_ret2
  exact⟨by rw [HN.out];rfl,aa3 (Below.refl _ _) _⟩
end
section
open Go.RowKit
def aq1 (w:World):Prop:= ∃m:Int,w.cell? ⟨2,0,none⟩=some (.int .i64 m)
theorem aq1.below {w w':World} (h:aq1 w) (hb:Below w.heap.size w w'):aq1 w':=by
 obtain⟨m,hm⟩:=h
 exact⟨m,by rw [hb.cell (World.block_lt_of_cell? _ _ hm)];exact hm⟩
def ah0 (l:List UInt8):List UInt8:=l.filter (· ≠95)
theorem aA3 (c:UInt8): ∀s:List UInt8,Lib.replaceK [c] [] (s.count c) s=s.filter (· ≠c)
 | []=>rfl
 |b::l=>by
  have ih:=aA3 c l
  by_cases h:b=c
  ·subst h
   rw [List.count_cons_self,Lib.replaceK_hit _ _ _ _ 0 (by rw [Lib.index_one];simp [Lib.indexByte])]
   simp only [List.take_zero,List.nil_append,List.length_singleton,Nat.zero_add,List.drop_succ_cons,List.drop_zero]
   rw [ih]
   simp
  ·have hc:(b::l).count c=l.count c:=by rw [List.count_cons];simp [h]
   rw [hc,List.filter_cons,if_pos (by simp [h]),←ih]
   cases hk:l.count c with
   |zero=>rfl
   |succ k=>
    obtain⟨i,hi⟩:=Lib.index_of_count (s:=l) (old:= [c]) (by rw [Lib.count_one,hk];omega)
    have hi2:Lib.index (b::l) [c]=((i+1:Nat):Int):=by
     rw [Lib.index_one] at hi⊢
     rw [Lib.indexByte,if_neg (by simp [h]),hi,if_neg (fun e=>by have:=beq_iff_eq.1 e;omega)]
     omega
    rw [Lib.replaceK_hit _ _ _ _ _ hi2,Lib.replaceK_hit _ _ _ _ _ hi]
    rfl
theorem aB0 (s:List UInt8):Lib.replaceAll s [95] []=ah0 s:=by
 unfold Lib.replaceAll Lib.replace Lib.replaceNum
 rw [if_neg (by decide),if_pos (.inl (by decide)),Lib.count_one]
 exact aA3 95 s
theorem as6 (l:List UInt8):(ah0 l).length≤l.length:=List.length_filter_le _ _
theorem ar8 (s:ByteArray) (w:World) (hs:s.size≤16777216) (hM:aq1 w):
  Calls Tryz.prog 69 #[.string s] w fun e w'=>e= .returned (.string ⟨(ah0 s.data.toList).toArray⟩)∧Below w.heap.size w w':=by
 obtain⟨m,hm⟩:=hM
 have h:=Tryz.strings_ReplaceAll s ⟨#[95]⟩ ⟨#[]⟩ m w (by omega) hm (by decide) (by
  have e:(ByteArray.mk #[]).size=0:=rfl
  rw [e]
  omega)
 rw [show (ByteArray.mk #[95]).data.toList= [95] from rfl,show(ByteArray.mk #[]).data.toList= [] from rfl,aB0] at h
 have H:=hJ h
 clear h hm
 go_enter Tryz.func69,Tryz.ntmps69
 go_wp2_with (go_at_call 36;refine H.out.mono ?_;rintro e w' ⟨rfl,hb⟩)
 go_ret
 exact⟨rfl,hb⟩
def aj4 (big:Bool):ByteArray:=if big then ⟨#[110]⟩ else ⟨#[]⟩
theorem ao8 (b:Nat) (big:Bool) (w:World) (h:w.cell? ⟨b,7,none⟩=some (.bool big)):
  Calls Tryz.prog 70 #[.pointer (some ⟨b,0,none⟩)] w fun e w'=>e= .returned (.string (aj4 big))∧w=w':=by
 cases big
 all_goals
  go_enter Tryz.func70,Tryz.ntmps70
  go_wp2
  go_ret
  exact⟨rfl,rfl⟩
def digB (n:Nat):UInt8:=UInt8.ofNat (48+n)
theorem ae0 {n:Nat} (h:n<10):(digB n).toNat=48+n:=by
 show(UInt8.ofNat (48+n)).toNat=_
 rw [UInt8.toNat_ofNat']
 omega
def decL (n:Nat):List UInt8:=if n<10 then [digB n] else decL (n / 10)++ [digB (n % 10)]
theorem aj3 {n:Nat} (h:n<10):decL n= [digB n]:=by rw [decL,if_pos h]
theorem aZ5 {n:Nat} (h: ¬n<10):decL n=decL (n / 10)++decL (n % 10):=by rw [decL,if_neg h,aj3 (Nat.mod_lt _ (by decide))]
theorem aZ6: ∀n:Nat,(decL n).length≤n+1:=by
 intro n
 induction n using Nat.strongRecOn with
 |ind n ih=>
  rw [decL]
  split
  ·simp
  ·have:=ih (n / 10) (by omega)
   rw [List.length_append,List.length_singleton]
   omega
theorem aY1 {w:World} {B:Nat} {v:Value} {l:List UInt8} (h:w.ownsRow B 5 1 v l.length (Lib.byteCells l)):(convert 41 9 v).run Tryz.prog w= .ok (.string ⟨l.toArray⟩) w:=by
 have hb:=h
 rcases h.2 with ⟨rfl,h0⟩|⟨g,cap,cur,rfl,_⟩
 ·rw [List.length_eq_zero_iff.1 h0]
  exact run_convert_bytes_nil w 41 5 (by kernel_rfl) (by kernel_rfl) 0 0 9 (by kernel_rfl)
 ·refine run_convert_bytes_back w 41 9 5 ⟨g,0,none⟩ cap l (by kernel_rfl) (by kernel_rfl) (by kernel_rfl) fun j hj=> ?_
  refine hb.cells (g:=g) rfl j _ ?_
  simp [Lib.byteCells,List.getElem?_eq_getElem hj]
theorem bd5 (w:World) (n:Nat) (h:n<10):(convert 41 9 (.slice (some ⟨w.heap.size,0,none⟩) 1 1)).run Tryz.prog (w.alloc (.cells #[.int .u8 (48+(n:Int))] 5))= .ok (.string ⟨#[digB n]⟩) (w.alloc (.cells #[.int .u8 (48+(n:Int))] 5)):=by
 have e:(digB n).toNat=48+n:=ae0 h
 have ho:=World.ownsRow_lit (base:=w.heap.size) (e:=5) (size:=1) w #[.int .u8 (48+(n:Int))] 1 (Nat.le_refl _) (by decide) rfl
 refine aY1 (l:= [digB n]) (B:=w.heap.size) ?_
 have e2:Lib.byteCells [digB n]= [Value.int .u8 (48+(n:Int))]:=by
  show [Value.int .u8 ((digB n).toNat:Int)]=_
  rw [e]
  rfl
 rw [e2]
 exact ho
theorem by7: ∀(n:Nat),n≤16000000→∀(w:World) (z:Int),z=(n:Int)→Calls Tryz.prog 127 #[.int .i64 z] w fun e w'=>e= .returned (.string ⟨(decL n).toArray⟩)∧Below w.heap.size w w':=by
 intro n
 induction n using Nat.strongRecOn with
 |ind n ih=>
  intro hn w z hz
  subst hz
  by_cases h10:n<10
  ·have hcv:=bd5 w n h10
   have hd:=aj3 h10
   rw [hd]
   clear ih hd
   go_enter Tryz.func127,Tryz.ntmps127
   go_wp2_with fail
   go_ret
   exact⟨rfl,(Below.refl _ _).alloc (Nat.le_refl _) _⟩
  ·have hd:=aZ5 h10
   have h1:=ih (n / 10) (by omega) (by omega)
   have h2:=ih (n % 10) (by omega) (by omega)
   have l1:(decL (n / 10)).length≤16000001:=by have:=aZ6 (n / 10);omega
   have l2:(decL (n % 10)).length≤16000001:=by have:=aZ6 (n % 10);omega
   have H1:=hJ h1
   have H2:=hJ h2
   have HD:=hJ hd
   clear ih hd h1 h2
   have hs: ∀a b:List UInt8,(⟨a.toArray⟩:ByteArray)++⟨b.toArray⟩=⟨(a++b).toArray⟩:=fun a b=>(ab9 _ _ (by simp)).symm
   have HS:=hJ hs
   clear hs
   go_enter Tryz.func127,Tryz.ntmps127
   go_wp2_with (first|(go_at_call 127;refine(H1.out _ _ (by omega)).mono ?_;rintro e w1 ⟨rfl,hb1⟩)|(go_at_call 127;refine(H2.out _ _ (by omega)).mono ?_;rintro e w2 ⟨rfl,hb2⟩))
   go_ret
   refine⟨?_,aa0 hb1 hb2⟩
   rw [HD.out,←HS.out]
   rfl
end
section
open Go.RowKit
structure Lit where
 base:Nat
 whole:ByteArray
 point:Bool
 part:ByteArray
 ex:Bool
 minus:Bool
 power:ByteArray
 big:Bool
def Lit.cells (x:Lit):Array Value:= #[.int .i64 x.base,.string x.whole,.bool x.point,.string x.part,.bool x.ex,.bool x.minus,.string x.power,.bool x.big]
def Lit.val (x:Lit):Value:= .agg x.cells
def aa9 (w:World) (b:Nat) (x:Lit):Prop:=w.heap[b]? =some (.cells x.cells 110 (0,0))
theorem aa9.lt {w:World} {b:Nat} {x:Lit} (h:aa9 w b x):b<w.heap.size:=(Array.getElem?_eq_some_iff.1 h).1
theorem aa9.below {w w':World} {b B:Nat} {x:Lit} (h:aa9 w b x) (hb:Below B w w') (hB:b<B):aa9 w' b x:=(hb.block b hB).trans h
theorem aa9.cell {w:World} {b:Nat} {x:Lit} (h:aa9 w b x) (k:Nat):w.cell? ⟨b,k,none⟩=x.cells[k]? :=by
 unfold aa9 at h
 simp [World.cell?,h]
theorem aa9.frozen {w:World} {b:Nat} {x:Lit} (h:aa9 w b x) (k:Nat):w.frozen? ⟨b,k,none⟩=false:=frozen_of_row w b k x.cells _ h
theorem aa9.set {w:World} {b:Nat} {x y:Lit} (h:aa9 w b x) (k:Nat) (v:Value) (hy:x.cells.setIfInBounds k v=y.cells):aa9 (w.setCell ⟨b,k,none⟩ v) b y:=by
 have:=heap_setCell_same w b k x.cells 110 v h
 rw [hy] at this
 exact this
def as0 (d:ByteArray):Bool × ByteArray:=(Lib.hasPrefix d.data.toList [45],if (Lib.hasPrefix d.data.toList [45]||Lib.hasPrefix d.data.toList [43])=true then d.extract 1 d.size else d)
def powO (m:Bool) (d:ByteArray):Option (Bool × ByteArray × ByteArray):=
 if runN 0 false d.data.toList=0∨9<(Lib.trimLeftB (ah0 (d.extract 0 (runN 0 false d.data.toList)).data.toList) 48).length then none
 else some (m,d.extract 0 (runN 0 false d.data.toList),d.extract (runN 0 false d.data.toList) d.size)
def expO (s:ByteArray):Option (Bool × ByteArray × ByteArray):=
 if h:0<s.size then if (s[0].toNat|||32)=101 then powO (as0 (s.extract 1 s.size)).1 (as0 (s.extract 1 s.size)).2 else none else none
def bB1 (b:Nat) (x:Lit) (s:ByteArray) (w:World) (o:Option (Bool × ByteArray × ByteArray)) (e:Ending) (w':World):Prop:=
 match o with
 |none=>e= .returned (.string s)∧Below w.heap.size w w'
 |some (m,p,r)=>e= .returned (.string r)∧aa9 w' b { x with ex:=true,minus:=m,power:=p } ∧Below b w w'
theorem az3 (d:ByteArray):(as0 d).2.size≤d.size:=by
 unfold as0
 simp only
 split
 ·rw [ByteArray.size_extract];omega
 ·exact Nat.le_refl _
theorem ah4 {s:ByteArray} (h:0<s.size):s.toList.isEmpty=false:=by
 rw [Lib.toList_data]
 cases hl:s.data.toList with
 |nil=>have:=congrArg List.length hl;rw [ofl,List.length_nil] at this;omega
 |cons x l=>rfl
theorem ag0 {s:ByteArray} (h:s.size=0):s.toList.isEmpty=true:=by
 rw [Lib.toList_data,List.length_eq_zero_iff.1 (show s.data.toList.length=0 by rw [ofl];exact h)]
 rfl
theorem ag5 {d:ByteArray} {c:UInt8} (h:Lib.hasPrefix d.data.toList [c]=true):0<d.size:=by
 rw [←ofl]
 cases hl:d.data.toList with
 |nil=>rw [hl] at h;cases h
 |cons x l=>simp
theorem bC6 (b:Nat) (x:Lit) (s:ByteArray) (w:World) (hx:aa9 w b x) (hs:s.size≤16777216) (hM:aq1 w):
  Calls Tryz.prog 180 #[.pointer (some ⟨b,0,none⟩),.string s] w fun e w'=>bB1 b x s w (expO s) e w':=by
 by_cases h0:0<s.size
 ·have ho:=or32 s[0]
  by_cases he:(s[0].toNat|||32)=101
  ·have b1:(((s[0].toNat|||32:Nat):Int) !=101)=false:=by rw [he];rfl
   have hE:expO s=powO (as0 (s.extract 1 s.size)).1 (as0 (s.extract 1 s.size)).2:=by unfold expO;rw [dif_pos h0,if_pos he]
   have HE:=hJ hE
   have hds:(s.extract 1 s.size).size≤16777216:=by rw [ByteArray.size_extract];omega
   have HX:=hJ hx
   have HM:=hJ hM
   clear hE hx hM
   go_enter Tryz.func180,Tryz.ntmps180
   have hem:=ah4 h0
   go_upto_block 0 with fail
   generalize hd:s.extract 1 s.size=d at*
   have HD:=hJ hd
   clear hd
   go_cut [5,6] (fun t m wx=>t= .string (as0 d).2∧m= .bool (as0 d).1∧wx=w)
   case first=>
    have H1:=hJ (Tryz.strings_HasPrefix d ⟨#[45]⟩)
    have H2:=hJ (Tryz.strings_HasPrefix d ⟨#[43]⟩)
    rw [show (ByteArray.mk #[45]).data.toList= [45] from rfl] at H1
    rw [show (ByteArray.mk #[43]).data.toList= [43] from rfl] at H2
    cases hm:Lib.hasPrefix d.data.toList [45] with
    |true=>
     have HS:=hJ (show as0 d=(true,d.extract 1 d.size) by unfold as0;rw [hm];rfl)
     have hpos:=ag5 hm
     rw [hm] at H1
     clear hm
     go_wp2_with (go_at_call 31;refine(H1.out _).mono ?_;rintro e w' ⟨rfl,rfl⟩)
     go_meet
     exact⟨by rw [HS.out],by rw [HS.out],rfl⟩
    |false=>
     rw [hm] at H1
     cases hp:Lib.hasPrefix d.data.toList [43] with
     |true=>
      have HS:=hJ (show as0 d=(false,d.extract 1 d.size) by unfold as0;rw [hm,hp];rfl)
      have hpos:=ag5 hp
      rw [hp] at H2
      clear hm hp
      go_wp2_with (first|(go_at_call 31;refine(H1.out _).mono ?_;rintro e w' ⟨rfl,rfl⟩)|(go_at_call 31;refine(H2.out _).mono ?_;rintro e w' ⟨rfl,rfl⟩))
      go_meet
      exact⟨by rw [HS.out],by rw [HS.out],rfl⟩
     |false=>
      have HS:=hJ (show as0 d=(false,d) by unfold as0;rw [hm,hp];rfl)
      rw [hp] at H2
      clear hm hp
      go_wp2_with (first|(go_at_call 31;refine(H1.out _).mono ?_;rintro e w' ⟨rfl,rfl⟩)|(go_at_call 31;refine(H2.out _).mono ?_;rintro e w' ⟨rfl,rfl⟩))
      go_meet
      exact⟨by rw [HS.out],by rw [HS.out],rfl⟩
   case rest=>
    obtain⟨rfl,rfl,hwc⟩:=hcut
    subst hwc
    have hts:(as0 d).2.size≤16777216:=Nat.le_trans (az3 d) hds
    generalize (as0 d).2=t at*
    generalize (as0 d).1=m at*
    have hle:=aL8 0 false t.data.toList
    rw [ofl] at hle
    have hR:=fun W=>aL9 t 0 W (by decide) hts
    have hpw:=ar8 (t.extract 0 (runN 0 false t.data.toList))
    have hP:powO m t=if runN 0 false t.data.toList=0∨9<(Lib.trimLeftB (ah0 (t.extract 0 (runN 0 false t.data.toList)).data.toList) 48).length then none else some (m,t.extract 0 (runN 0 false t.data.toList),t.extract (runN 0 false t.data.toList) t.size):=rfl
    generalize runN 0 false t.data.toList=n at*
    have hps:(t.extract 0 n).size=n:=by rw [ByteArray.size_extract];omega
    have HR:=hJ hR
    have HPW:=hJ hpw
    have HP:=hJ hP
    clear hR hP hpw
    by_cases hn0:n=0
    ·have HO:=hJ (show expO s=none by rw [HE.out,HP.out,if_pos (.inl hn0)])
     have hpe:=ag0 (hps.trans hn0)
     clear hn0
     go_wp2_with (go_at_call 178;refine(HR.out _).mono ?_;rintro e w1 ⟨rfl,hb1⟩)
     go_ret
     rw [HO.out]
     exact⟨rfl,hb1⟩
    ·have hpe:=ah4 (show 0<(t.extract 0 n).size by omega)
     obtain⟨Q,hQ⟩: ∃Q:ByteArray,(⟨(ah0 (t.extract 0 n).data.toList).toArray⟩:ByteArray)=Q:=⟨_,rfl⟩
     have hQl:Q.data.toList=ah0 (t.extract 0 n).data.toList:=by rw [←hQ]
     have hPQ:=HPW.out
     rw [hQ] at hPQ
     have HPQ:=hJ hPQ
     obtain⟨T,hT0⟩: ∃T:ByteArray,(⟨(Lib.trimLeftB Q.data.toList 48).toArray⟩:ByteArray)=T:=⟨_,rfl⟩
     have hTs:T.size=(Lib.trimLeftB (ah0 (t.extract 0 n).data.toList) 48).length:=by rw [←hT0,hQl];rfl
     have hT:=fun W=>Tryz.strings_TrimLeft_one Q 48 (by decide) W
     rw [hT0] at hT
     clear hT0 hQ hQl hPQ HPW
     by_cases h9:9<(Lib.trimLeftB (ah0 (t.extract 0 n).data.toList) 48).length
     ·have HO:=hJ (show expO s=none by rw [HE.out,HP.out,if_pos (.inr h9)])
      rw [←hTs] at h9
      have HT:=hJ hT
      clear hT hTs HP hn0
      go_upto_region 10 with (go_at_call 178;refine(HR.out _).mono ?_;rintro e w1 ⟨rfl,hb1⟩)
      have HPL:=hJ (HPQ.out w1 (by rw [hps];omega) (HM.out.below hb1))
      go_wp2_with (first|(go_at_call 69;refine HPL.out.mono ?_;rintro e w2p ⟨rfl,hb2⟩)|(go_at_call 67;refine(HT.out _).mono ?_;rintro e w2 ⟨rfl,rfl⟩))
      go_ret
      rw [HO.out]
      exact⟨rfl,aa0 hb1 hb2⟩
     ·have HO:=hJ (show expO s=some (m,t.extract 0 n,t.extract n t.size) by rw [HE.out,HP.out,if_neg (fun h=>h.elim hn0 h9)])
      rw [←hTs] at h9
      have HT:=hJ hT
      clear hT hTs HP hn0
      go_upto_region 10 with (go_at_call 178;refine(HR.out _).mono ?_;rintro e w1 ⟨rfl,hb1⟩)
      have HPL:=hJ (HPQ.out w1 (by rw [hps];omega) (HM.out.below hb1))
      go_upto_region 12 with (first|(go_at_call 69;refine HPL.out.mono ?_;rintro e w2p ⟨rfl,hb2⟩)|(go_at_call 67;refine(HT.out _).mono ?_;rintro e w2 ⟨rfl,rfl⟩))
      have hbb:=aa0 hb1 hb2
      have hlt:=HX.out.lt
      have hl2:=HX.out.below hbb hlt
      have c4:w2.cell? ⟨b,4,none⟩=some (.bool x.ex):=hl2.cell 4
      have c5:w2.cell? ⟨b,5,none⟩=some (.bool x.minus):=hl2.cell 5
      have c6:w2.cell? ⟨b,6,none⟩=some (.string x.power):=hl2.cell 6
      have f4:=hl2.frozen 4
      have f5:=hl2.frozen 5
      have f6:=hl2.frozen 6
      have HL2:=hJ hl2
      clear hl2
      go_wp2_with fail
      go_ret
      rw [HO.out]
      refine⟨rfl,?_,(((hbb.mono (Nat.le_of_lt hlt)).setCell (Nat.le_refl _) _).setCell (Nat.le_refl _) _).setCell (Nat.le_refl _) _⟩
      exact aa9.set (x:= { x with ex:=true,minus:=m }) (aa9.set (x:= { x with ex:=true }) (aa9.set (x:=x) HL2.out 4 _ rfl) 5 _ rfl) 6 _ rfl
  ·have b1:(((s[0].toNat|||32:Nat):Int) !=101)=true:=by rw [bne_iff_ne];omega
   have hE:expO s=none:=by unfold expO;rw [dif_pos h0,if_neg he]
   have hem:=ah4 h0
   rw [hE]
   clear hE he hx hM
   go_enter Tryz.func180,Tryz.ntmps180
   go_wp2_with fail
   go_ret
   exact⟨rfl,Below.refl _ _⟩
 ·have hE:expO s=none:=by unfold expO;rw [dif_neg h0]
  have hem:=ag0 (show s.size=0 by omega)
  rw [hE]
  clear hE hx hM
  go_enter Tryz.func180,Tryz.ntmps180
  go_wp2_with fail
  go_ret
  exact⟨rfl,Below.refl _ _⟩
end
section
open Go.RowKit
theorem aa9.facts {w:World} {b base:Nat} {whole part power:ByteArray} {point ex minus big:Bool} (h:aa9 w b ⟨base,whole,point,part,ex,minus,power,big⟩):
  w.cell? ⟨b,0,none⟩=some (.int .i64 base)∧w.cell? ⟨b,1,none⟩=some (.string whole)∧w.cell? ⟨b,2,none⟩=some (.bool point)∧w.cell? ⟨b,3,none⟩=some (.string part)∧w.cell? ⟨b,4,none⟩=some (.bool ex)∧w.cell? ⟨b,5,none⟩=some (.bool minus)∧w.cell? ⟨b,6,none⟩=some (.string power)∧w.cell? ⟨b,7,none⟩=some (.bool big)∧
  w.frozen? ⟨b,0,none⟩=false∧w.frozen? ⟨b,1,none⟩=false∧w.frozen? ⟨b,2,none⟩=false∧w.frozen? ⟨b,3,none⟩=false∧w.frozen? ⟨b,4,none⟩=false∧w.frozen? ⟨b,5,none⟩=false∧w.frozen? ⟨b,6,none⟩=false∧w.frozen? ⟨b,7,none⟩=false:=
 ⟨h.cell 0,h.cell 1,h.cell 2,h.cell 3,h.cell 4,h.cell 5,h.cell 6,h.cell 7,h.frozen 0,h.frozen 1,h.frozen 2,h.frozen 3,h.frozen 4,h.frozen 5,h.frozen 6,h.frozen 7⟩
theorem aa9.again {w:World} {b base:Nat} {whole part power:ByteArray} {point ex minus big:Bool} (h:aa9 w b ⟨base,whole,point,part,ex,minus,power,big⟩):
  aa9 ((((((((w.setCell ⟨b,0,none⟩ (.int .i64 base)).setCell ⟨b,1,none⟩ (.string whole)).setCell ⟨b,2,none⟩ (.bool point)).setCell ⟨b,3,none⟩ (.string part)).setCell ⟨b,4,none⟩ (.bool ex)).setCell ⟨b,5,none⟩ (.bool minus)).setCell ⟨b,6,none⟩ (.string power)).setCell ⟨b,7,none⟩ (.bool big)) b ⟨base,whole,point,part,ex,minus,power,big⟩:=
 (aa9.set (y:=⟨base,whole,point,part,ex,minus,power,big⟩) (aa9.set (y:=⟨base,whole,point,part,ex,minus,power,big⟩) (aa9.set (y:=⟨base,whole,point,part,ex,minus,power,big⟩) (aa9.set (y:=⟨base,whole,point,part,ex,minus,power,big⟩) (aa9.set (y:=⟨base,whole,point,part,ex,minus,power,big⟩) (aa9.set (y:=⟨base,whole,point,part,ex,minus,power,big⟩) (aa9.set (y:=⟨base,whole,point,part,ex,minus,power,big⟩) (aa9.set (y:=⟨base,whole,point,part,ex,minus,power,big⟩) h 0 (.int .i64 base) rfl) 1 (.string whole) rfl) 2 (.bool point) rfl) 3 (.string part) rfl) 4 (.bool ex) rfl) 5 (.bool minus) rfl) 6 (.string power) rfl) 7 (.bool big) rfl)
theorem af7 {B b:Nat} {a w:World} {base:Nat} {whole part power:ByteArray} {point ex minus big:Bool} (h:Below B a w) (hb:B≤b):
  Below B a ((((((((w.setCell ⟨b,0,none⟩ (.int .i64 base)).setCell ⟨b,1,none⟩ (.string whole)).setCell ⟨b,2,none⟩ (.bool point)).setCell ⟨b,3,none⟩ (.string part)).setCell ⟨b,4,none⟩ (.bool ex)).setCell ⟨b,5,none⟩ (.bool minus)).setCell ⟨b,6,none⟩ (.string power)).setCell ⟨b,7,none⟩ (.bool big)):=
 (Below.setCell (Below.setCell (Below.setCell (Below.setCell (Below.setCell (Below.setCell (Below.setCell (Below.setCell h (p:=⟨b,0,none⟩) hb (.int .i64 base)) (p:=⟨b,1,none⟩) hb (.string whole)) (p:=⟨b,2,none⟩) hb (.bool point)) (p:=⟨b,3,none⟩) hb (.string part)) (p:=⟨b,4,none⟩) hb (.bool ex)) (p:=⟨b,5,none⟩) hb (.bool minus)) (p:=⟨b,6,none⟩) hb (.string power)) (p:=⟨b,7,none⟩) hb (.bool big))
theorem bp1 {w:World} {b:Nat} {x:Lit} (h:aa9 w b x):(loadVar 110 ⟨b,0,none⟩).run Tryz.prog w= .ok x.val w:=
 run_loadVar_row w b 110 110 x.cells (0,0) _ h Tryz.underlying110 rfl (by kernel_rfl)
theorem ah9 {fn:Func} {p u v:Tmp} (h:fn.results= #[.cell p 110,.tmp u,.tmp v]) (tmps:Array Value) (w:World) (b:Nat) (x:Lit) (hp:tmps.getD p undef= .pointer (some ⟨b,0,none⟩)) (hx:aa9 w b x):
  (results fn tmps).run Tryz.prog w= .ok (.tuple #[x.val,tmps.getD u undef,tmps.getD v undef]) w:=by
 have hp':tmps[p]?.getD undef= .pointer (some ⟨b,0,none⟩):=by simpa using hp
 simp [results,h,hp',asAddr,bp1 hx]
theorem aA5 {fn:Func} {p u:Tmp} (h:fn.results= #[.cell p 110,.tmp u]) (tmps:Array Value) (w:World) (b:Nat) (x:Lit) (hp:tmps.getD p undef= .pointer (some ⟨b,0,none⟩)) (hx:aa9 w b x):
  (results fn tmps).run Tryz.prog w= .ok (.tuple #[x.val,tmps.getD u undef]) w:=by
 have hp':tmps[p]?.getD undef= .pointer (some ⟨b,0,none⟩):=by simpa using hp
 simp [results,h,hp',asAddr,bp1 hx]
def runB (b:Nat) (s:ByteArray):ByteArray × ByteArray:=(s.extract 0 (runN b false s.data.toList),s.extract (runN b false s.data.toList) s.size)
def emp:ByteArray:=⟨#[]⟩
def litZ:Lit:=⟨0,emp,false,emp,false,false,emp,false⟩
def an7 (s:ByteArray):Bool:=if h:2<s.size then (s[0]==48) && ((s[1].toNat|||32)==120||(s[1].toNat|||32)==111||(s[1].toNat|||32)==98) && decide (65≤s[1].toNat) else false
def aF8 (s:ByteArray):Lit × ByteArray × Bool:=
 let r:=runB (s.data.toList[1]!.toNat|||32) (s.extract 2 s.size)
 (⟨16,r.1,false,emp,false,false,emp,Lib.hasPrefix r.2.data.toList [110]⟩,⟨(Lib.trimPrefix r.2.data.toList [110]).toArray⟩,decide (0<r.1.size))
def ac3 (s:ByteArray):ByteArray × ByteArray:=if Lib.hasPrefix s.data.toList [48]=true then (⟨#[48]⟩,s.extract 1 s.size) else runB 0 s
def ag6 (s:ByteArray):Bool × ByteArray × ByteArray:=if Lib.hasPrefix s.data.toList [46]=true then (true,runB 0 (s.extract 1 s.size)) else (false,emp,s)
def ai2 (w:ByteArray) (pt:Bool) (p:ByteArray):Lit:=⟨10,w,pt,p,false,false,emp,false⟩
def expL (x:Lit) (s:ByteArray):Lit × ByteArray:=match expO s with
 |none=>(x,s)
 |some (m,p,r)=>({ x with ex:=true,minus:=m,power:=p },r)
def bigL (x:Lit) (s:ByteArray):Lit × ByteArray:=if (!x.point && !x.ex && Lib.hasPrefix s.data.toList [110])=true then ({ x with big:=true },s.extract 1 s.size) else (x,s)
def aF7 (s:ByteArray):Lit × ByteArray × Bool:=
 let w:=ac3 s
 let p:=ag6 w.2
 if (decide (w.1.size=0) && decide (p.2.1.size=0))=true then (ai2 w.1 p.1 p.2.1,p.2.2,false)
 else
  let e:=expL (ai2 w.1 p.1 p.2.1) p.2.2
  let g:=bigL e.1 e.2
  (g.1,g.2,true)
def ak3 (s:ByteArray):Lit × ByteArray × Bool:=if an7 s=true then aF8 s else aF7 s
theorem al8 (b:Nat) (s:ByteArray):(runB b s).2.size≤s.size∧(runB b s).1.size≤s.size:=by
 unfold runB
 simp only [ByteArray.size_extract]
 omega
theorem au4 (s:ByteArray):(ac3 s).2.size≤s.size:=by
 unfold ac3
 split
 ·simp only [ByteArray.size_extract];omega
 ·exact(al8 0 s).1
theorem ay7 (s:ByteArray):(ag6 s).2.2.size≤s.size:=by
 unfold ag6
 split
 ·have:=(al8 0 (s.extract 1 s.size)).1
  rw [ByteArray.size_extract] at this
  simp only
  omega
 ·exact Nat.le_refl _
theorem bo3 (m:Bool) (d:ByteArray) {q} (h:powO m d=some q):q.2.2.size≤d.size:=by
 unfold powO at h
 split at h
 ·cases h
 ·cases h
  simp only [ByteArray.size_extract]
  omega
theorem aN7 (x:Lit) (s:ByteArray):(expL x s).2.size≤s.size:=by
 unfold expL
 cases h:expO s with
 |none=>exact Nat.le_refl _
 |some q=>
  obtain⟨m,p,r⟩:=q
  unfold expO at h
  split at h
  ·split at h
   ·have h1:=bo3 _ _ h
    have h2:=az3 (s.extract 1 s.size)
    rw [ByteArray.size_extract] at h2
    simp only at h1⊢
    omega
   ·cases h
  ·cases h
theorem bp7 (A:ByteArray):decide (0<A.size)= !A.toList.isEmpty:=by
 by_cases h:0<A.size
 ·rw [ah4 h,decide_eq_true h];rfl
 ·rw [ag0 (show A.size=0 by omega),decide_eq_false h];rfl
theorem aa9.drew {w:World} {b:Nat} {x:Lit} (h:aa9 w b x):aa9 w.drew b x:=h
theorem aI4 {s:ByteArray} (h:an7 s=true):2<s.size:=by
 unfold an7 at h
 split at h
 ·assumption
 ·cases h
theorem ax4 {s:ByteArray} (h:s.toList.isEmpty=true):s.size=0:=by
 rw [Lib.toList_data] at h
 rw [←ofl,List.isEmpty_iff.1 h]
 rfl
theorem bL0 (c:UInt8):decide (0≤Lib.indexByte [120,111,98] c)=(c.toNat==120||c.toNat==111||c.toNat==98):=by
 have g: ∀n:Fin 256,decide (0≤Lib.indexByte [120,111,98] (UInt8.ofNat n.val))=(n.val==120||n.val==111||n.val==98):=by decide+kernel
 have:=g ⟨c.toNat,c.toNat_lt⟩
 simpa using this
theorem bb6 (s:ByteArray) (w:World) (hs:s.size≤16777216) (hM:aq1 w):
  Calls Tryz.prog 116 #[.string s] w fun e w'=>e= .returned (.tuple #[(ak3 s).1.val,.string (ak3 s).2.1,.bool (ak3 s).2.2])∧Below w.heap.size w w':=by
 have HM:=hJ hM
 clear hM
 go_enter Tryz.func116,Tryz.ntmps116
 go_upto_region 1 with fail
 go_cut [25] from 6 to 24 (fun v wx=>v= .bool (an7 s)∧wx=w.alloc (.cells litZ.cells 110))
 case first=>
  clear HM
  by_cases h2:2<s.size
  ·have h1:1<s.size:=by omega
   have h0:0<s.size:=by omega
   have hO:an7 s=((s[0]==48) && ((s[1].toNat|||32)==120||(s[1].toNat|||32)==111||(s[1].toNat|||32)==98) && decide (65≤s[1].toNat)):=by unfold an7;rw [dif_pos h2]
   have ho:=or32 s[1]
   have hx:=bL0 (UInt8.ofNat (s[1].toNat|||32))
   rw [show (UInt8.ofNat (s[1].toNat|||32)).toNat=(s[1].toNat|||32) by rw [UInt8.toNat_ofNat'];have:=aT5 s[1];omega] at hx
   have hI:=fun W=>Tryz.strings_IndexByte ⟨#[120,111,98]⟩ ((s[1].toNat|||32:Nat):Int) W
   rw [show (ByteArray.mk #[120,111,98]).data.toList= [120,111,98] from rfl] at hI
   simp only [Int.toNat_natCast] at hI
   rw [show (s[1].toNat|||32).toUInt8=UInt8.ofNat (s[1].toNat|||32) from rfl] at hI
   rw [←hx] at hO
   generalize Lib.indexByte [120,111,98] (UInt8.ofNat (s[1].toNat|||32))=iv at*
   have HI:=hJ hI
   have HO:=hJ hO
   clear hI hO hx
   by_cases h48:s[0]=48
   ·have b0:(((s[0].toNat:Nat):Int)==48)=true:=aq9 h48
    rw [h48] at HO
    clear h48
    by_cases hi:0≤iv
    ·by_cases h65:65≤s[1].toNat
     ·have HO2:=hJ (show an7 s=true by rw [HO.out];simp [hi,h65])
      go_wp2_with (go_at_call 95;refine(HI.out _).mono ?_;rintro e w6 ⟨rfl,rfl⟩)
      go_meet
      exact⟨by rw [HO2.out,decide_eq_true (show(65:Int)≤(s[1].toNat:Int) by omega)],rfl⟩
     ·have HO2:=hJ (show an7 s=false by rw [HO.out];simp [hi,h65])
      go_wp2_with (go_at_call 95;refine(HI.out _).mono ?_;rintro e w6 ⟨rfl,rfl⟩)
      go_meet
      exact⟨by rw [HO2.out,decide_eq_false (show¬(65:Int)≤(s[1].toNat:Int) by omega)],rfl⟩
    ·have HO2:=hJ (show an7 s=false by rw [HO.out];simp [hi])
     go_wp2_with (go_at_call 95;refine(HI.out _).mono ?_;rintro e w6 ⟨rfl,rfl⟩)
     go_meet
     exact⟨by rw [HO2.out],rfl⟩
   ·have b0:(((s[0].toNat:Nat):Int)==48)=false:=ap3 h48
    have HO2:=hJ (show an7 s=false by rw [HO.out];simp [h48])
    clear h48
    go_wp2_with fail
    go_meet
    exact⟨by rw [HO2.out],rfl⟩
  ·have HO2:=hJ (show an7 s=false by unfold an7;rw [dif_neg h2])
   go_wp2_with fail
   go_meet
   exact⟨by rw [HO2.out],rfl⟩
 case rest=>
  obtain⟨rfl,hwc⟩:=hcut
  have hL:aa9 wc w.heap.size litZ:=by rw [hwc];exact heap_alloc_new _ _
  have hB:Below w.heap.size w wc:=by rw [hwc];exact(Below.refl _ _).alloc (Nat.le_refl _) _
  clear hwc
  cases ho:an7 s with
  |true=>
   have h2:2<s.size:=aI4 ho
   have h1:1<s.size:=by omega
   have hor:=or32 s[1]
   have hlt:=aT5 s[1]
   have hB0:ak3 s=aF8 s:=by unfold ak3;rw [if_pos ho]
   unfold aF8 at hB0
   rw [show s.data.toList[1]! =s[1] from getElem!_pos s.data.toList 1 (by rw [ofl];exact h1)] at hB0
   have hds:(s.extract 2 s.size).size≤16777216:=by rw [ByteArray.size_extract];omega
   generalize hD:s.extract 2 s.size=D at*
   generalize hbv:s[1].toNat|||32=bv at*
   have hR:=fun W'=>aL9 D bv W' hlt hds
   have hR2: ∀W':World,Calls Tryz.prog 178 #[.string D,.int .u8 bv] W' fun e w'=>e= .returned (.tuple #[.string (runB bv D).1,.string (runB bv D).2])∧Below W'.heap.size W' w':=hR
   clear hR
   generalize runB bv D=rr at*
   obtain⟨A,B⟩:=rr
   simp only at hB0 hR2
   have HR:=hJ hR2
   have HB0:=hJ hB0
   have HH:=hJ (Tryz.strings_HasPrefix B ⟨#[110]⟩)
   have HT:=hJ (Tryz.strings_TrimPrefix B ⟨#[110]⟩)
   rw [show (ByteArray.mk #[110]).data.toList= [110] from rfl] at HH HT
   obtain⟨c0,c1,c2,c3,c4,c5,c6,c7,f0,f1,f2,f3,f4,f5,f6,f7⟩:=aa9.facts hL
   have HL:=hJ hL
   clear hL hR2 hB0 ho
   go_upto_region 4 with fail
   have hL2:=aa9.set (y:=⟨16,emp,false,emp,false,false,emp,false⟩) HL.out 0 (.int .i64 16) rfl
   have hB2:Below w.heap.size w (wc.setCell ⟨w.heap.size,0,none⟩ (.int .i64 16)):=hB.setCell (Nat.le_refl _) _
   clear c0 c1 c2 c3 c4 c5 c6 c7 f0 f1 f2 f3 f4 f5 f6 f7
   generalize wc.setCell ⟨w.heap.size,0,none⟩ (.int .i64 16)=w2 at*
   have HL2:=hJ hL2
   clear hL2 HL hB
   go_upto_region 5 with (go_at_call 178;refine(HR.out _).mono ?_;rintro e w3 ⟨rfl,hb3⟩;obtain⟨c0,c1,c2,c3,c4,c5,c6,c7,f0,f1,f2,f3,f4,f5,f6,f7⟩:=aa9.facts (HL2.out.below hb3 HL2.out.lt))
   have hL4:=aa9.set (y:=⟨16,A,false,emp,false,false,emp,false⟩) (HL2.out.below hb3 HL2.out.lt) 1 (.string A) rfl
   have hB4:Below w.heap.size w (w3.setCell ⟨w.heap.size,1,none⟩ (.string A)):=(aa0 hB2 hb3).setCell (Nat.le_refl _) _
   clear c0 c1 c2 c3 c4 c5 c6 c7 f0 f1 f2 f3 f4 f5 f6 f7
   generalize w3.setCell ⟨w.heap.size,1,none⟩ (.string A)=w4 at*
   obtain⟨c0,c1,c2,c3,c4,c5,c6,c7,f0,f1,f2,f3,f4,f5,f6,f7⟩:=aa9.facts hL4
   have HL4:=hJ hL4
   clear hL4
   go_upto_region 6 with (go_at_call 31;refine(HH.out _).mono ?_;rintro e w5 ⟨rfl,rfl⟩)
   have hL6:=aa9.set (y:=⟨16,A,false,emp,false,false,emp,Lib.hasPrefix B.data.toList [110]⟩) HL4.out 7 (.bool (Lib.hasPrefix B.data.toList [110])) rfl
   have hB6:Below w.heap.size w (w5.setCell ⟨w.heap.size,7,none⟩ (.bool (Lib.hasPrefix B.data.toList [110]))):=hB4.setCell (Nat.le_refl _) _
   clear c0 c1 c2 c3 c4 c5 c6 c7 f0 f1 f2 f3 f4 f5 f6 f7
   generalize w5.setCell ⟨w.heap.size,7,none⟩ (.bool (Lib.hasPrefix B.data.toList [110]))=w7 at*
   obtain⟨c0,c1,c2,c3,c4,c5,c6,c7,f0,f1,f2,f3,f4,f5,f6,f7⟩:=aa9.facts hL6
   have HL6:=hJ hL6
   clear hL6
   go_cut [3,4] (fun t v wx=>t= .string ⟨(Lib.trimPrefix B.data.toList [110]).toArray⟩∧v= .bool (!A.toList.isEmpty)∧aa9 wx w.heap.size ⟨16,A,false,emp,false,false,emp,Lib.hasPrefix B.data.toList [110]⟩∧Below w.heap.size w wx)
   case first=>
    clear HB0 HR HH
    go_region_with (go_at_call 179;refine(HT.out _).mono ?_;rintro e w8 ⟨rfl,rfl⟩)
    all_goals go_wp2_with fail
    all_goals go_meet
    all_goals exact⟨rfl,rfl,aa9.drew (aa9.again HL6.out),(af7 hB6 (Nat.le_refl _)).drew⟩
   case rest=>
    obtain⟨rfl,rfl,hL9,hB9⟩:=hcut
    go_wp2_with fail
    (try simp only [Exit.inBlock,Exit.then])
    refine bodyPost_ret (ah9 rfl _ _ _ _ rfl hL9) rfl ?_
    rw [HB0.out]
    exact⟨by rw [bp7 A];rfl,hB9⟩
  |false=>
   obtain⟨c0,c1,c2,c3,c4,c5,c6,c7,f0,f1,f2,f3,f4,f5,f6,f7⟩:=aa9.facts hL
   have HL:=hJ hL
   clear hL
   go_upto_region 8 with fail
   have hL2:aa9 (wc.setCell ⟨w.heap.size,0,none⟩ (.int .i64 10)) w.heap.size (ai2 emp false emp):=aa9.set HL.out 0 _ rfl
   have hB2:Below w.heap.size w (wc.setCell ⟨w.heap.size,0,none⟩ (.int .i64 10)):=hB.setCell (Nat.le_refl _) _
   clear c0 c1 c2 c3 c4 c5 c6 c7 f0 f1 f2 f3 f4 f5 f6 f7 hB HL
   generalize wc.setCell ⟨w.heap.size,0,none⟩ (.int .i64 10)=w2 at*
   have hH:=Tryz.strings_HasPrefix s ⟨#[48]⟩
   rw [show (ByteArray.mk #[48]).data.toList= [48] from rfl] at hH
   have HH:=hJ hH
   clear hH
   go_upto_if 49 with (go_at_call 31;refine(HH.out _).mono ?_;rintro e w2 ⟨rfl,rfl⟩)
   go_cut [0] (fun t wx=>t= .string (ac3 s).2∧aa9 wx w.heap.size (ai2 (ac3 s).1 false emp)∧Below w.heap.size w wx)
   case first=>
    have HL:=hJ hL2
    clear hL2
    cases hp:Lib.hasPrefix s.data.toList [48] with
    |true=>
     have HW:=hJ (show ac3 s=(⟨#[48]⟩,s.extract 1 s.size) by unfold ac3;rw [if_pos hp])
     have hpos:=ag5 hp
     clear hp HH
     obtain⟨c0,c1,c2,c3,c4,c5,c6,c7,f0,f1,f2,f3,f4,f5,f6,f7⟩:=aa9.facts HL.out
     go_wp2_with fail
     go_region
     all_goals go_wp2_with fail
     all_goals go_meet
     all_goals rw [HW.out]
     all_goals exact⟨rfl,aa9.set (x:=ai2 emp false emp) HL.out 1 _ rfl,(hB2.setCell (p:=⟨w.heap.size,1,none⟩) (Nat.le_refl _) _).drew⟩
    |false=>
     have HW:=hJ (show ac3 s=runB 0 s by unfold ac3;rw [if_neg (by rw [hp];decide)])
     have hR:=aL9 s 0 w2 (by decide) hs
     have HR:=hJ hR
     clear hp HH hR
     go_wp2_with (go_at_call 178;refine HR.out.mono ?_;rintro e w3 ⟨rfl,hb3⟩;obtain⟨c0,c1,c2,c3,c4,c5,c6,c7,f0,f1,f2,f3,f4,f5,f6,f7⟩:=aa9.facts (HL.out.below hb3 HL.out.lt))
     go_meet
     rw [HW.out]
     have hL3:=HL.out.below hb3 HL.out.lt
     exact⟨rfl,aa9.set (x:=ai2 emp false emp) hL3 1 _ rfl,(hB2.trans (hb3.mono hB2.size)).setCell (Nat.le_refl _) _⟩
   case rest=>
    obtain⟨rfl,hL3,hB3⟩:=hcut
    have hs1:(ac3 s).2.size≤16777216:=Nat.le_trans (au4 s) hs
    have hBdec:ak3 s=aF7 s:=by unfold ak3;rw [if_neg (by rw [ho];decide)]
    unfold aF7 at hBdec
    generalize ac3 s=wo at*
    obtain⟨W,s1⟩:=wo
    simp only at hL3 hs1 hBdec
    have HBD:=hJ hBdec
    clear hBdec HH hB2 hL2 ho
    rename_i w2'
    have hH:=Tryz.strings_HasPrefix s1 ⟨#[46]⟩
    rw [show (ByteArray.mk #[46]).data.toList= [46] from rfl] at hH
    have HH:=hJ hH
    clear hH
    have HL:=hJ hL3
    clear hL3
    go_upto_if 60 with (go_at_call 31;refine(HH.out _).mono ?_;rintro e w2 ⟨rfl,rfl⟩)
    rename_i w4
    go_cut [0] (fun t wx=>t= .string (ag6 s1).2.2∧aa9 wx w.heap.size (ai2 W (ag6 s1).1 (ag6 s1).2.1)∧Below w.heap.size w wx)
    case first=>
     cases hp:Lib.hasPrefix s1.data.toList [46] with
     |true=>
      have HW:=hJ (show ag6 s1=(true,runB 0 (s1.extract 1 s1.size)) by unfold ag6;rw [if_pos hp])
      have hpos:=ag5 hp
      have hds:(s1.extract 1 s1.size).size≤16777216:=by rw [ByteArray.size_extract];omega
      generalize hD:s1.extract 1 s1.size=D at*
      have HR:=hJ (fun W'=>aL9 D 0 W' (by decide) hds)
      clear hp HH HBD
      obtain⟨c0,c1,c2,c3,c4,c5,c6,c7,f0,f1,f2,f3,f4,f5,f6,f7⟩:=aa9.facts HL.out
      go_upto_region 13 with fail
      have hL5:=aa9.set (y:=ai2 W true emp) HL.out 2 (.bool true) rfl
      have hB5:Below w.heap.size w (w2.setCell ⟨w.heap.size,2,none⟩ (.bool true)):=hB3.setCell (Nat.le_refl _) _
      clear c0 c1 c2 c3 c4 c5 c6 c7 f0 f1 f2 f3 f4 f5 f6 f7
      generalize w2.setCell ⟨w.heap.size,2,none⟩ (.bool true)=w5 at*
      have HL5:=hJ hL5
      clear hL5
      go_wp2_with (go_at_call 178;refine(HR.out _).mono ?_;rintro e w3 ⟨rfl,hb3⟩;obtain⟨c0,c1,c2,c3,c4,c5,c6,c7,f0,f1,f2,f3,f4,f5,f6,f7⟩:=aa9.facts (HL5.out.below hb3 HL5.out.lt))
      go_meet
      rw [HW.out]
      have hL6:=HL5.out.below hb3 HL5.out.lt
      exact⟨rfl,aa9.set (x:=ai2 W true emp) hL6 3 _ rfl,(hB5.trans (hb3.mono hB5.size)).setCell (Nat.le_refl _) _⟩
     |false=>
      have HW:=hJ (show ag6 s1=(false,emp,s1) by unfold ag6;rw [if_neg (by rw [hp];decide)])
      clear hp HH HBD
      go_wp2_with fail
      go_meet
      rw [HW.out]
      exact⟨rfl,HL.out,hB3⟩
    case rest=>
     obtain⟨rfl,hL6,hB6⟩:=hcut
     have hs2:(ag6 s1).2.2.size≤16777216:=Nat.le_trans (ay7 s1) hs1
     have hBdec:=HBD.out
     generalize ag6 s1=po at*
     obtain⟨pt,P,s2⟩:=po
     simp only at hL6 hs2 hBdec
     have HBD2:=hJ hBdec
     clear hBdec HH HL hB3 HBD
     have HL:=hJ hL6
     clear hL6
     obtain⟨c0,c1,c2,c3,c4,c5,c6,c7,f0,f1,f2,f3,f4,f5,f6,f7⟩:=aa9.facts HL.out
     go_upto_region 14 with fail
     go_cut [76] from 69 to 75 (fun v wx=>v= .bool (W.toList.isEmpty && P.toList.isEmpty)∧wx=wc)
     case first=>
      clear HBD2
      cases he1:W.toList.isEmpty with
      |true=>
       have H1:=hJ he1
       go_wp2_with fail
       go_meet
       exact⟨by rw [H1.out];rfl,rfl⟩
      |false=>
       have H1:=hJ he1
       go_wp2_with fail
       go_meet
       exact⟨by rw [H1.out];rfl,rfl⟩
     case rest=>
      obtain⟨rfl,hwc⟩:=hcut
      subst hwc
      cases hb:(W.toList.isEmpty && P.toList.isEmpty) with
      |true=>
       have hb2:W.toList.isEmpty=true∧P.toList.isEmpty=true:=by simpa using hb
       have HS:=hJ (show ak3 s=(ai2 W pt P,s2,false) by rw [HBD2.out,if_pos (by simp [ax4 hb2.1,ax4 hb2.2])])
       clear hb hb2 HBD2
       go_wp2_with fail
       (try simp only [Exit.inBlock,Exit.then])
       refine bodyPost_ret (ah9 rfl _ _ _ _ rfl (aa9.again HL.out)) rfl ?_
       rw [HS.out]
       exact⟨rfl,af7 hB6 (Nat.le_refl _)⟩
      |false=>
       have hS:ak3 s=((bigL (expL (ai2 W pt P) s2).1 (expL (ai2 W pt P) s2).2).1,(bigL (expL (ai2 W pt P) s2).1 (expL (ai2 W pt P) s2).2).2,true):=by
        rw [HBD2.out,if_neg (by
         simp only [Bool.and_eq_true,decide_eq_true_eq]
         rintro⟨h1,h2⟩
         rw [ag0 h1,ag0 h2] at hb
         cases hb)]
       have HS:=hJ hS
       have hM2:=HM.out.below hB6
       have hE0:=bC6 w.heap.size (ai2 W pt P) s2 _ HL.out hs2 hM2
       have HE:=hJ hE0
       clear hb HBD2 hS hM2 hE0
       go_upto_region 16 with fail
       go_cut [0] (fun t wx=>t= .string (expL (ai2 W pt P) s2).2∧aa9 wx w.heap.size (expL (ai2 W pt P) s2).1∧Below w.heap.size w wx)
       case first=>
        clear c0 c1 c2 c3 c4 c5 c6 c7 f0 f1 f2 f3 f4 f5 f6 f7
        have hE:=HE.out
        cases heo:expO s2 with
        |none=>
         have HX:=hJ (show expL (ai2 W pt P) s2=(ai2 W pt P,s2) by unfold expL;rw [heo])
         rw [heo] at hE
         have HE2:=hJ hE
         clear hE HE heo HS
         go_wp2_with (go_at_call 180;refine HE2.out.mono ?_;rintro e w5 ⟨rfl,hb5⟩)
         go_meet
         rw [HX.out]
         exact⟨rfl,HL.out.below hb5 HL.out.lt,aa0 hB6 hb5⟩
        |some q=>
         obtain⟨m,pw,r⟩:=q
         have HX:=hJ (show expL (ai2 W pt P) s2=({ ai2 W pt P with ex:=true,minus:=m,power:=pw },r) by unfold expL;rw [heo])
         rw [heo] at hE
         have HE2:=hJ hE
         clear hE HE heo HS
         go_wp2_with (go_at_call 180;refine HE2.out.mono ?_;rintro e w5 ⟨rfl,hl5,hb5⟩)
         go_meet
         rw [HX.out]
         exact⟨rfl,hl5,hB6.trans hb5⟩
       case rest=>
        obtain⟨rfl,hL7,hB7⟩:=hcut
        have hs3:(expL (ai2 W pt P) s2).2.size≤16777216:=Nat.le_trans (aN7 _ _) hs2
        have hS2:=HS.out
        generalize expL (ai2 W pt P) s2=xe at*
        obtain⟨⟨base,whole,point,part,ex,minus,power,big⟩,s3⟩:=xe
        simp only at hL7 hs3 hS2
        clear c0 c1 c2 c3 c4 c5 c6 c7 f0 f1 f2 f3 f4 f5 f6 f7
        obtain⟨c0,c1,c2,c3,c4,c5,c6,c7,f0,f1,f2,f3,f4,f5,f6,f7⟩:=aa9.facts hL7
        have HL7:=hJ hL7
        have HS2:=hJ hS2
        have HH:=hJ (Tryz.strings_HasPrefix s3 ⟨#[110]⟩)
        rw [show (ByteArray.mk #[110]).data.toList= [110] from rfl] at HH
        clear hL7 hS2 HE HS HL hB6
        cases hpt:point with
        |true=>
         subst hpt
         have HF:=hJ (HS2.out.trans (show _=((⟨base,whole,true,part,ex,minus,power,big⟩:Lit),s3,true) from rfl))
         clear HS2
         go_wp2_with fail
         (try simp only [Exit.inBlock,Exit.then])
         refine bodyPost_ret (ah9 rfl _ _ _ _ rfl (aa9.again HL7.out)) rfl ?_
         rw [HF.out]
         exact⟨rfl,af7 hB7 (Nat.le_refl _)⟩
        |false=>
         subst hpt
         cases hex:ex with
         |true=>
          subst hex
          have HF:=hJ (HS2.out.trans (show _=((⟨base,whole,false,part,true,minus,power,big⟩:Lit),s3,true) from rfl))
          clear HS2
          go_wp2_with fail
          (try simp only [Exit.inBlock,Exit.then])
          refine bodyPost_ret (ah9 rfl _ _ _ _ rfl (aa9.again HL7.out)) rfl ?_
          rw [HF.out]
          exact⟨rfl,af7 hB7 (Nat.le_refl _)⟩
         |false=>
          subst hex
          cases hpn:Lib.hasPrefix s3.data.toList [110] with
          |true=>
           have HF:=hJ (HS2.out.trans (show _=((⟨base,whole,false,part,false,minus,power,true⟩:Lit),s3.extract 1 s3.size,true) by unfold bigL;simp [hpn]))
           have hpos:=ag5 hpn
           rw [hpn] at HH
           clear HS2 hpn
           go_upto_region 19 with (go_at_call 31;refine(HH.out _).mono ?_;rintro e w6 ⟨rfl,rfl⟩)
           have hL8:=aa9.set (y:=⟨base,whole,false,part,false,minus,power,true⟩) HL7.out 7 (.bool true) rfl
           have hB8:Below w.heap.size w (w6.setCell ⟨w.heap.size,7,none⟩ (.bool true)):=hB7.setCell (Nat.le_refl _) _
           clear c0 c1 c2 c3 c4 c5 c6 c7 f0 f1 f2 f3 f4 f5 f6 f7
           generalize w6.setCell ⟨w.heap.size,7,none⟩ (.bool true)=w7 at*
           obtain⟨c0,c1,c2,c3,c4,c5,c6,c7,f0,f1,f2,f3,f4,f5,f6,f7⟩:=aa9.facts hL8
           have HL8:=hJ hL8
           clear hL8
           go_wp2_with fail
           (try simp only [Exit.inBlock,Exit.then])
           refine bodyPost_ret (ah9 rfl _ _ _ _ rfl (aa9.again HL8.out)) rfl ?_
           rw [HF.out]
           exact⟨rfl,af7 hB8 (Nat.le_refl _)⟩
          |false=>
           have HF:=hJ (HS2.out.trans (show _=((⟨base,whole,false,part,false,minus,power,big⟩:Lit),s3,true) by unfold bigL;simp [hpn]))
           rw [hpn] at HH
           clear HS2 hpn
           go_wp2_with (go_at_call 31;refine(HH.out _).mono ?_;rintro e w6 ⟨rfl,rfl⟩)
           (try simp only [Exit.inBlock,Exit.then])
           refine bodyPost_ret (ah9 rfl _ _ _ _ rfl (aa9.again HL7.out)) rfl ?_
           rw [HF.out]
           exact⟨rfl,af7 hB7 (Nat.le_refl _)⟩
end
section
open Go.RowKit
theorem aa9.lay {w:World} {b base0 base:Nat} {whole0 part0 power0 whole part power:ByteArray} {point0 ex0 minus0 big0 point ex minus big:Bool} (h:aa9 w b ⟨base0,whole0,point0,part0,ex0,minus0,power0,big0⟩):
  aa9 ((((((((w.setCell ⟨b,0,none⟩ (.int .i64 base)).setCell ⟨b,1,none⟩ (.string whole)).setCell ⟨b,2,none⟩ (.bool point)).setCell ⟨b,3,none⟩ (.string part)).setCell ⟨b,4,none⟩ (.bool ex)).setCell ⟨b,5,none⟩ (.bool minus)).setCell ⟨b,6,none⟩ (.string power)).setCell ⟨b,7,none⟩ (.bool big)) b ⟨base,whole,point,part,ex,minus,power,big⟩:=
 (aa9.set (y:=⟨base,whole,point,part,ex,minus,power,big⟩) (aa9.set (y:=⟨base,whole,point,part,ex,minus,power,big0⟩) (aa9.set (y:=⟨base,whole,point,part,ex,minus,power0,big0⟩) (aa9.set (y:=⟨base,whole,point,part,ex,minus0,power0,big0⟩) (aa9.set (y:=⟨base,whole,point,part,ex0,minus0,power0,big0⟩) (aa9.set (y:=⟨base,whole,point,part0,ex0,minus0,power0,big0⟩) (aa9.set (y:=⟨base,whole,point0,part0,ex0,minus0,power0,big0⟩) (aa9.set (y:=⟨base,whole0,point0,part0,ex0,minus0,power0,big0⟩) h 0 (.int .i64 base) rfl) 1 (.string whole) rfl) 2 (.bool point) rfl) 3 (.string part) rfl) 4 (.bool ex) rfl) 5 (.bool minus) rfl) 6 (.string power) rfl) 7 (.bool big) rfl)
def ax1 (s:ByteArray):Lit × Bool:=((ak3 s).1,(ak3 s).2.2 && (ak3 s).2.1.toList.isEmpty)
theorem bo7 (s:ByteArray) (w:World) (hs:s.size≤16777216) (hM:aq1 w):
  Calls Tryz.prog 66 #[.string s] w fun e w'=>e= .returned (.tuple #[(ax1 s).1.val,.bool (ax1 s).2])∧Below w.heap.size w w':=by
 have hS:=fun W (h:aq1 W)=>bb6 s W hs h
 have hr:ax1 s=((ak3 s).1,(ak3 s).2.2 && (ak3 s).2.1.toList.isEmpty):=rfl
 rw [hr]
 clear hr
 generalize ak3 s=q at*
 obtain⟨⟨base,whole,point,part,ex,minus,power,big⟩,r,f⟩:=q
 have HS:=hJ hS
 have HM:=hJ hM
 clear hS hM
 go_enter Tryz.func66,Tryz.ntmps66
 go_upto_region 1 with fail
 have hL:aa9 (w.alloc (.cells litZ.cells 110)) w.heap.size litZ:=heap_alloc_new _ _
 have hB:Below w.heap.size w (w.alloc (.cells litZ.cells 110)):=(Below.refl _ _).alloc (Nat.le_refl _) _
 have hM1:=HM.out.below hB
 have e0:(w.alloc (.cells litZ.cells 110))=w.alloc (.cells #[.int .i64 0,.string ⟨#[]⟩,.bool false,.string ⟨#[]⟩,.bool false,.bool false,.string ⟨#[]⟩,.bool false] 110):=rfl
 rw [e0] at hL hB hM1
 generalize w.alloc (.cells #[.int .i64 0,.string ⟨#[]⟩,.bool false,.string ⟨#[]⟩,.bool false,.bool false,.string ⟨#[]⟩,.bool false] 110)=w0 at*
 have HS1:=hJ (HS.out w0 hM1)
 have HL:=hJ hL
 clear e0 hL HS hM1
 go_upto_region 2 with (go_at_call 116;refine HS1.out.mono ?_;rintro e w1 ⟨rfl,hb1⟩;unfold Lit.val Lit.cells)
 have hLx:aa9 (w1.alloc (.cells (Lit.cells ⟨base,whole,point,part,ex,minus,power,big⟩) 110)) w1.heap.size ⟨base,whole,point,part,ex,minus,power,big⟩:=heap_alloc_new _ _
 have hlt1:w.heap.size<w1.heap.size:=Nat.lt_of_lt_of_le HL.out.lt hb1.size
 have hb2:Below w0.heap.size w0 (w1.alloc (.cells (Lit.cells ⟨base,whole,point,part,ex,minus,power,big⟩) 110)):=ai0 hb1 _
 unfold Lit.cells at hLx hb2
 simp only at hLx hb2
 have hZ:aa9 _ w.heap.size litZ:=HL.out.below hb2 HL.out.lt
 have hBf:=hB.trans (hb2.mono hB.size)
 generalize w1.alloc (.cells #[.int .i64 base,.string whole,.bool point,.string part,.bool ex,.bool minus,.string power,.bool big] 110)=w2 at*
 generalize w1.heap.size=b4 at*
 obtain⟨c0,c1,c2,c3,c4,c5,c6,c7,f0,f1,f2,f3,f4,f5,f6,f7⟩:=aa9.facts hLx
 obtain⟨d0,d1,d2,d3,d4,d5,d6,d7,g0,g1,g2,g3,g4,g5,g6,g7⟩:=aa9.facts hZ
 have HZ:=hJ hZ
 have HBf:=hJ hBf
 clear hZ hLx hBf hb2 HS1 HL hb1 hB
 cases f with
 |true=>
  go_wp2_with fail
  (try simp only [Exit.inBlock,Exit.then])
  refine bodyPost_ret (aA5 rfl _ _ _ _ rfl (aa9.lay HZ.out)) rfl ?_
  exact⟨rfl,af7 HBf.out (Nat.le_refl _)⟩
 |false=>
  go_wp2_with fail
  (try simp only [Exit.inBlock,Exit.then])
  refine bodyPost_ret (aA5 rfl _ _ _ _ rfl (aa9.lay HZ.out)) rfl ?_
  exact⟨rfl,af7 HBf.out (Nat.le_refl _)⟩
end
section
open Go.RowKit
structure Rd where
 at':Nat
 line:Bool
 fail:Int
 code:Int
def Rd.cells (s:ByteArray) (x:Rd):Array Value:= #[.int .i64 x.at',.string s,.bool x.line,.int .i64 x.fail,.int .i64 x.code]
def RdAt (w:World) (b:Nat) (s:ByteArray) (x:Rd):Prop:=w.heap[b]? =some (.cells (x.cells s) 89 (0,0))
structure But (b:Nat) (w w':World):Prop where
 os:w'.os=w.os
 tape:w'.tape=w.tape
 output:w'.output=w.output
 size:w.heap.size≤w'.heap.size
 block: ∀k,k<w.heap.size→k≠b→w'.heap[k]? =w.heap[k]?
theorem But.refl (b:Nat) (w:World):But b w w:=⟨rfl,rfl,rfl,Nat.le_refl _,fun _ _ _=>rfl⟩
theorem But.trans {b:Nat} {u v w:World} (h:But b u v) (k:But b v w):But b u w:=
 ⟨k.os.trans h.os,k.tape.trans h.tape,k.output.trans h.output,Nat.le_trans h.size k.size,fun i h1 h2=>(k.block i (Nat.lt_of_lt_of_le h1 h.size) h2).trans (h.block i h1 h2)⟩
theorem But.of_below {b:Nat} {w w':World} (h:Below w.heap.size w w'):But b w w':=⟨h.os,h.tape,h.output,h.size,fun k hk _=>h.block k hk⟩
theorem But.bel {b:Nat} {u v w:World} (h:But b u v) (k:Below v.heap.size v w):But b u w:=h.trans (.of_below k)
theorem But.below {b B:Nat} {w w':World} (h:But b w w') (h1:B≤b) (h2:B≤w.heap.size):Below B w w':=⟨h.os,h.tape,h.output,h.size,fun k hk=>h.block k (by omega) (by omega)⟩
theorem But.setCell {b:Nat} {u w:World} (h:But b u w) (j:Nat) (v:Value):But b u (w.setCell ⟨b,j,none⟩ v):=
 ⟨h.os,h.tape,h.output,by have:=h.size;simpa [World.setCell] using this,fun k h1 h2=>(Below.heap_setCell _ _ _ _ h2).trans (h.block k h1 h2)⟩
theorem But.drewN {b:Nat} {u w:World} (h:But b u w) (n:Nat):But b u (w.drewN n):=⟨h.os,h.tape,h.output,h.size,h.block⟩
theorem RdAt.lt {w:World} {b:Nat} {s:ByteArray} {x:Rd} (h:RdAt w b s x):b<w.heap.size:=(Array.getElem?_eq_some_iff.1 h).1
theorem RdAt.bel {w w':World} {b:Nat} {s:ByteArray} {x:Rd} (h:RdAt w b s x) (hb:Below w.heap.size w w'):RdAt w' b s x:=(hb.block b h.lt).trans h
theorem RdAt.cell {w:World} {b:Nat} {s:ByteArray} {x:Rd} (h:RdAt w b s x) (k:Nat):w.cell? ⟨b,k,none⟩=(x.cells s)[k]? :=by
 unfold RdAt at h
 simp [World.cell?,h]
theorem RdAt.frozen {w:World} {b:Nat} {s:ByteArray} {x:Rd} (h:RdAt w b s x) (k:Nat):w.frozen? ⟨b,k,none⟩=false:=frozen_of_row w b k (x.cells s) _ h
theorem RdAt.set {w:World} {b:Nat} {s:ByteArray} {x y:Rd} (h:RdAt w b s x) (k:Nat) (v:Value) (hy:(x.cells s).setIfInBounds k v=y.cells s):RdAt (w.setCell ⟨b,k,none⟩ v) b s y:=by
 have:=heap_setCell_same w b k (x.cells s) 89 v h
 rw [hy] at this
 exact this
theorem RdAt.facts {w:World} {b:Nat} {s:ByteArray} {p:Nat} {line:Bool} {fail code:Int} (h:RdAt w b s ⟨p,line,fail,code⟩):
  w.cell? ⟨b,0,none⟩=some (.int .i64 p)∧w.cell? ⟨b,1,none⟩=some (.string s)∧w.cell? ⟨b,2,none⟩=some (.bool line)∧w.cell? ⟨b,3,none⟩=some (.int .i64 fail)∧w.cell? ⟨b,4,none⟩=some (.int .i64 code)∧
  w.frozen? ⟨b,0,none⟩=false∧w.frozen? ⟨b,1,none⟩=false∧w.frozen? ⟨b,2,none⟩=false∧w.frozen? ⟨b,3,none⟩=false∧w.frozen? ⟨b,4,none⟩=false:=
 ⟨h.cell 0,h.cell 1,h.cell 2,h.cell 3,h.cell 4,h.frozen 0,h.frozen 1,h.frozen 2,h.frozen 3,h.frozen 4⟩
def ae6 (b:Nat) (w:World):Prop:= ∃w0:World,w0.heap.size≤b∧Lib.Utf8Tabs 3 4 w0∧aq1 w0∧Below w0.heap.size w0 w
theorem ae6.tabs {b:Nat} {w:World} (h:ae6 b w):Lib.Utf8Tabs 3 4 w:=by
 obtain⟨w0,_,h1,_,h2⟩:=h
 exact Utf8Tabs_below h1 h2
theorem ae6.max {b:Nat} {w:World} (h:ae6 b w):aq1 w:=by
 obtain⟨w0,_,_,h1,h2⟩:=h
 exact h1.below h2
theorem ae6.bel {b:Nat} {w w':World} (h:ae6 b w) (hb:Below b w w'):ae6 b w':=by
 obtain⟨w0,h0,h1,h2,h3⟩:=h
 exact⟨w0,h0,h1,h2,h3.trans (hb.mono h0)⟩
theorem ae6.but {b:Nat} {w w':World} (h:ae6 b w) (hl:b<w.heap.size) (hb:But b w w'):ae6 b w':=h.bel (hb.below (Nat.le_refl _) (Nat.le_of_lt hl))
theorem ae6.next {b:Nat} {w w':World} (h:ae6 b w) (hl:b<w.heap.size) (hb:Below w.heap.size w w'):ae6 b w':=h.bel (hb.mono (Nat.le_of_lt hl))
def nx (l:List UInt8):Int × Int:=
 let d:=Lib.decodeGo ⟨l.toArray⟩
 if d.1=65533∧d.2=1 then (0,-1) else (d.1,d.2)
theorem at5 (A:ByteArray):(Lib.decodeGo A).2≤4∧(Lib.decodeGo A).1<1114112:=by
 unfold Lib.decodeGo
 split
 ·decide
 ·refine⟨?_,by have:=Lib.rune_le A 0;omega⟩
  rw [Lib.decode_at]
  unfold Lib.decodeN
  repeat' split
  all_goals simp
theorem aB7 (s:ByteArray) (p:Nat) (w:World) (hp:p≤s.size) (hT:Lib.Utf8Tabs 3 4 w) (z:Int) (hz:z=p):
  Calls Tryz.prog 162 #[.string s,.int .i64 z] w fun e w'=>e= .returned (.tuple #[.int .i64 (nx (s.data.toList.drop p)).1,.int .i64 (nx (s.data.toList.drop p)).2])∧Below w.heap.size w w':=by
 subst hz
 have hd:=Tryz.utf8_DecodeRuneInString (s.extract p s.size) w hT
 have hn:nx (s.data.toList.drop p)=if (Lib.decodeGo (s.extract p s.size)).1=65533∧(Lib.decodeGo (s.extract p s.size)).2=1 then (((0:Int),(-1:Int)):Int × Int) else (((Lib.decodeGo (s.extract p s.size)).1:Int),((Lib.decodeGo (s.extract p s.size)).2:Int)):=by
  unfold nx
  rw [ab9 (s.extract p s.size) (s.data.toList.drop p) (af9 s p)]
 have hle:=at5 (s.extract p s.size)
 obtain⟨⟨c,n⟩,hcn⟩: ∃q,Lib.decodeGo (s.extract p s.size)=q:=⟨_,rfl⟩
 rw [hcn] at hd hn hle
 simp only at hd hn hle
 obtain⟨hl1,hl2⟩:=hle
 have HD:=hJ hd
 clear hcn hd hT
 by_cases h1:c=65533
 ·by_cases h2:n=1
  ·rw [if_pos ⟨h1,h2⟩] at hn
   have b1:((c:Int)==65533)=true:=by rw [beq_iff_eq];omega
   have b2:((n:Int)==1)=true:=by rw [beq_iff_eq];omega
   have HN:=hJ hn
   clear hn h1 h2
   go_enter Tryz.func162,Tryz.ntmps162
   go_wp2_with (go_at_call 113;refine HD.out.mono ?_;rintro e w1 ⟨rfl,hb1⟩)
   go_ret2
   exact⟨by rw [HN.out];rfl,hb1⟩
  ·rw [if_neg (fun h=>h2 h.2)] at hn
   have b1:((c:Int)==65533)=true:=by rw [beq_iff_eq];omega
   have b2:((n:Int)==1)=false:=by rw [beq_eq_false_iff_ne];omega
   have HN:=hJ hn
   clear hn h1 h2
   go_enter Tryz.func162,Tryz.ntmps162
   go_wp2_with (go_at_call 113;refine HD.out.mono ?_;rintro e w1 ⟨rfl,hb1⟩)
   go_ret2
   exact⟨by rw [HN.out];rfl,hb1⟩
 ·rw [if_neg (fun h=>h1 h.1)] at hn
  have b1:((c:Int)==65533)=false:=by rw [beq_eq_false_iff_ne];omega
  have HN:=hJ hn
  clear hn h1
  go_enter Tryz.func162,Tryz.ntmps162
  go_wp2_with (go_at_call 113;refine HD.out.mono ?_;rintro e w1 ⟨rfl,hb1⟩)
  go_ret2
  exact⟨by rw [HN.out];rfl,hb1⟩
theorem af4 (b:Nat) (s:ByteArray) (x:Rd) (w:World) (hx:RdAt w b s x) (hr:ae6 b w) (hp:x.at'≤s.size):
  Calls Tryz.prog 90 #[.pointer (some ⟨b,0,none⟩)] w fun e w'=>e= .returned (.tuple #[.int .i64 (nx (s.data.toList.drop x.at')).1,.int .i64 (nx (s.data.toList.drop x.at')).2])∧Below w.heap.size w w':=by
 obtain⟨p,line,fail,code⟩:=x
 simp only at hp⊢
 have hn:=fun W h z hz=>aB7 s p W hp h z hz
 generalize nx (s.data.toList.drop p)=q at*
 obtain⟨c,n⟩:=q
 have HN:=hJ hn
 have HR:=hJ hr
 obtain⟨c0,c1,c2,c3,c4,f0,f1,f2,f3,f4⟩:=RdAt.facts hx
 clear hn hr hx
 go_enter Tryz.func90,Tryz.ntmps90
 go_wp2_with fail
 go_region_with (go_at_call 162;refine(HN.out _ (ae6.tabs (HR.out.bel (Below.drew (Below.refl _ _)))) _ rfl).mono ?_;rintro e w1 ⟨rfl,hb1⟩)
 all_goals go_wp2_with fail
 all_goals go_ret2
 all_goals exact⟨rfl,(Below.drew (Below.refl _ _)).trans hb1⟩
theorem bI7 (b:Nat) (s:ByteArray) (x:Rd) (p:ByteArray) (w:World) (hx:RdAt w b s x) (hp:x.at'≤s.size):
  Calls Tryz.prog 97 #[.pointer (some ⟨b,0,none⟩),.string p] w fun e w'=>e= .returned (.bool (Lib.hasPrefix (s.data.toList.drop x.at') p.data.toList))∧Below w.heap.size w w':=by
 obtain⟨q,line,fail,code⟩:=x
 simp only at hp⊢
 have hh:=fun W=>Tryz.strings_HasPrefix (s.extract q s.size) p W
 rw [af9] at hh
 generalize Lib.hasPrefix (s.data.toList.drop q) p.data.toList=r at*
 have HH:=hJ hh
 obtain⟨c0,c1,c2,c3,c4,f0,f1,f2,f3,f4⟩:=RdAt.facts hx
 clear hh hx
 go_enter Tryz.func97,Tryz.ntmps97
 go_wp2_with fail
 go_region_with (go_at_call 31;refine(HH.out _).mono ?_;rintro e w1 ⟨rfl,rfl⟩)
 all_goals go_wp2_with fail
 all_goals go_ret
 all_goals exact⟨rfl,Below.drew (Below.refl _ _)⟩
theorem ae5 (b:Nat) (s:ByteArray) (x:Rd) (code at':Int) (w:World) (hx:RdAt w b s x):
  Calls Tryz.prog 99 #[.pointer (some ⟨b,0,none⟩),.int .i64 code,.int .i64 at'] w fun e w'=>e= .returned (.bool false)∧RdAt w' b s { x with fail:=at',code:=code } ∧But b w w':=by
 have HX:=hJ hx
 obtain⟨p,line,fl,cd⟩:=x
 obtain⟨c0,c1,c2,c3,c4,f0,f1,f2,f3,f4⟩:=RdAt.facts hx
 clear hx
 go_enter Tryz.func99,Tryz.ntmps99
 go_wp2_with fail
 go_ret
 refine⟨rfl,?_,(((But.refl b w).setCell 4 _).setCell 3 _)⟩
 exact RdAt.set (x:=⟨p,line,fl,code⟩) (RdAt.set (x:=⟨p,line,fl,cd⟩) HX.out 4 _ rfl) 3 _ rfl
theorem bn0 {l:List UInt8} (h:(nx l).2<0):nx l=(0,-1)∧l≠ []:=by
 unfold nx at h⊢
 by_cases e:(Lib.decodeGo ⟨l.toArray⟩).1=65533∧(Lib.decodeGo ⟨l.toArray⟩).2=1
 ·simp only [if_pos e]
  refine⟨trivial,fun he=> ?_⟩
  subst he
  exact absurd e.2 (by decide)
 ·simp only [if_neg e] at h
  omega
theorem aj0 {l:List UInt8} (h:0≤(nx l).2): ∃n:Nat,(nx l).2=n∧n≤l.length∧n≤4∧(l= []↔n=0):=by
 have h4:=(at5 ⟨l.toArray⟩).1
 by_cases hl:l= []
 ·subst hl
  exact⟨0,rfl,Nat.le_refl _,by decide,by simp⟩
 ·unfold nx at h⊢
  by_cases e:(Lib.decodeGo ⟨l.toArray⟩).1=65533∧(Lib.decodeGo ⟨l.toArray⟩).2=1
  ·simp only [if_pos e] at h
   omega
  ·simp only [if_neg e]
   have hd:Lib.decodeGo ⟨l.toArray⟩=Lib.decodeL l:=by
    unfold Lib.decodeGo Lib.decodeL
    rw [if_neg]
    show l.length≠0
    exact fun e=>hl (List.length_eq_zero_iff.1 e)
   rw [hd] at h4⊢
   have h1:=Lib.decodeL_width l
   have h2:=Lib.decodeL_le l hl
   exact⟨_,rfl,h2,h4,⟨fun h=>absurd h hl,fun h=>by omega⟩⟩
theorem aB8 (b:Nat) (s:ByteArray) (x:Rd) (w:World) (hx:RdAt w b s x) (hr:ae6 b w) (hp:x.at'≤s.size) (hn:(nx (s.data.toList.drop x.at')).2<0):
  Calls Tryz.prog 96 #[.pointer (some ⟨b,0,none⟩)] w fun e w'=>e= .returned (.bool false)∧RdAt w' b s { x with fail:=x.at',code:=502 } ∧But b w w':=by
 have hN:=af4 b s x w hx hr hp
 rw [(bn0 hn).1] at hN
 have HX:=hJ hx
 have HN:=hJ hN
 clear hN hn hx hr
 obtain⟨p,line,fl,cd⟩:=x
 go_enter Tryz.func96,Tryz.ntmps96
 go_wp2_with (first|(go_at_call 90;refine HN.out.mono ?_;rintro e w1 ⟨rfl,hb1⟩;have HX1:=hJ (HX.out.bel hb1);obtain⟨c0,c1,c2,c3,c4,f0,f1,f2,f3,f4⟩:=RdAt.facts HX1.out)|(go_at_call 99;refine(ae5 b s _ _ _ _ HX1.out).mono ?_;rintro e w2 ⟨rfl,hx2,hb2⟩))
 go_ret
 exact⟨rfl,hx2,(But.of_below hb1).trans hb2⟩
theorem ai5 (b:Nat) (s:ByteArray) (x:Rd) (w:World) (n:Nat) (hx:RdAt w b s x) (hr:ae6 b w) (hs:s.size≤16777216) (hp:x.at'≤s.size) (hn:(nx (s.data.toList.drop x.at')).2=n):
  Calls Tryz.prog 96 #[.pointer (some ⟨b,0,none⟩)] w fun e w'=>e= .returned (.bool (decide (0<n)))∧RdAt w' b s { x with at':=x.at'+n } ∧But b w w':=by
 have hN:=af4 b s x w hx hr hp
 have hle:n≤4:=by
  obtain⟨m,h1,_,h2,_⟩:=aj0 (l:=s.data.toList.drop x.at') (by omega)
  omega
 rw [hn] at hN
 generalize (nx (s.data.toList.drop x.at')).1=c at*
 have HX:=hJ hx
 have HN:=hJ hN
 clear hN hn hx hr
 obtain⟨p,line,fl,cd⟩:=x
 simp only at hp⊢
 go_enter Tryz.func96,Tryz.ntmps96
 go_wp2_with (go_at_call 90;refine HN.out.mono ?_;rintro e w1 ⟨rfl,hb1⟩;have HX1:=hJ (HX.out.bel hb1);obtain⟨c0,c1,c2,c3,c4,f0,f1,f2,f3,f4⟩:=RdAt.facts HX1.out)
 go_ret
 refine⟨?_,RdAt.set (x:=⟨p,line,fl,cd⟩) HX1.out 0 _ rfl,(But.of_below hb1).setCell 0 _⟩
 refine ax2 ?_
 simp
def ak5 (l:List UInt8):Bool:=match l with
 | []=>false
 |c::_=>decide (48≤c.toNat∧c.toNat≤57)
theorem an9 (s:ByteArray) (p:Nat) (w:World) (z:Int) (hz:z=p):
  Calls Tryz.prog 102 #[.string s,.int .i64 z] w fun e w'=>e= .returned (.bool (ak5 (s.data.toList.drop p)))∧w=w':=by
 subst hz
 by_cases hp:p<s.size
 ·have hd:=ac5 s p hp
  have hc:=s[p].toNat_lt
  have HV:=hJ (show ak5 (s.data.toList.drop p)=decide (48≤s[p].toNat∧s[p].toNat≤57) by rw [hd];rfl)
  clear hd
  by_cases h1:48≤s[p].toNat
  ·by_cases h2:s[p].toNat≤57
   ·have HW:=hJ (HV.out.trans (decide_eq_true ⟨h1,h2⟩))
    go_enter Tryz.func102,Tryz.ntmps102
    go_wp2_with fail
    go_ret
    exact⟨by rw [HW.out];exact ax2 (by simp;omega),rfl⟩
   ·have HW:=hJ (HV.out.trans (decide_eq_false (fun h=>h2 h.2)))
    go_enter Tryz.func102,Tryz.ntmps102
    go_wp2_with fail
    go_ret
    exact⟨by rw [HW.out];exact ax2 (by simp;omega),rfl⟩
  ·have HW:=hJ (HV.out.trans (decide_eq_false (fun h=>h1 h.1)))
   go_enter Tryz.func102,Tryz.ntmps102
   go_wp2_with fail
   go_ret
   exact⟨by rw [HW.out];rfl,rfl⟩
 ·have HW:=hJ (show ak5 (s.data.toList.drop p)=false by rw [List.drop_of_length_le (by rw [ofl];omega)];rfl)
  go_enter Tryz.func102,Tryz.ntmps102
  go_wp2_with fail
  go_ret
  exact⟨by rw [HW.out];rfl,rfl⟩
end
section
open Go.RowKit
theorem ak7 (b:Nat) (s:ByteArray) (x:Rd) (w:World) (hx:RdAt w b s x) (hr:ae6 b w) (hp:x.at'≤s.size) (hn:(nx (s.data.toList.drop x.at')).2<0):
  Calls Tryz.prog 101 #[.pointer (some ⟨b,0,none⟩)] w fun e w'=>e= .returned (.bool true)∧RdAt w' b s { x with fail:=x.at',code:=502 } ∧But b w w':=by
 have hN:=af4 b s x w hx hr hp
 rw [(bn0 hn).1] at hN
 have HX:=hJ hx
 have HN:=hJ hN
 clear hN hn hx hr
 obtain⟨p,line,fl,cd⟩:=x
 go_enter Tryz.func101,Tryz.ntmps101
 go_wp2_with (first|(go_at_call 90;refine HN.out.mono ?_;rintro e w1 ⟨rfl,hb1⟩;have HX1:=hJ (HX.out.bel hb1);obtain⟨c0,c1,c2,c3,c4,f0,f1,f2,f3,f4⟩:=RdAt.facts HX1.out)|(go_at_call 99;refine(ae5 b s _ _ _ _ HX1.out).mono ?_;rintro e w2 ⟨rfl,hx2,hb2⟩))
 go_ret
 exact⟨rfl,hx2,(But.of_below hb1).trans hb2⟩
theorem aj2 (b:Nat) (s:ByteArray) (x:Rd) (w:World) (hx:RdAt w b s x) (hr:ae6 b w) (hp:x.at'≤s.size) (hn:0≤(nx (s.data.toList.drop x.at')).2):
  Calls Tryz.prog 101 #[.pointer (some ⟨b,0,none⟩)] w fun e w'=>e= .returned (.bool false)∧Below w.heap.size w w':=by
 have hN:=af4 b s x w hx hr hp
 generalize (nx (s.data.toList.drop x.at')).1=c at*
 generalize (nx (s.data.toList.drop x.at')).2=n at*
 have HN:=hJ hN
 clear hN hx hr
 go_enter Tryz.func101,Tryz.ntmps101
 go_wp2_with (go_at_call 90;refine HN.out.mono ?_;rintro e w1 ⟨rfl,hb1⟩)
 go_ret
 refine⟨ax2 ?_,hb1⟩
 simp
 omega
def ap0 (dash:Bool) (l:List UInt8):Bool:=decide (0<(nx l).2) && (ay6 (nx l).1||(dash && decide ((nx l).1=45)))
def an0 (dash:Bool):Nat→List UInt8→Nat
 |0,_=>0
 |f+1,l=>if ap0 dash l=true then (nx l).2.toNat+an0 dash f (l.drop (nx l).2.toNat) else 0
theorem an6 {dash:Bool} {l:List UInt8} (h:ap0 dash l=true): ∃n:Nat,(nx l).2=n∧0<n∧n≤l.length∧n≤4:=by
 unfold ap0 at h
 simp only [Bool.and_eq_true,decide_eq_true_eq] at h
 obtain⟨n,h1,h2,h3,_⟩:=aj0 (l:=l) (by omega)
 exact⟨n,h1,by omega,h2,h3⟩
theorem aI7 (dash:Bool): ∀(f:Nat) (l:List UInt8),an0 dash f l≤l.length
 |0,_=>Nat.zero_le _
 |f+1,l=>by
  rw [an0]
  split
  ·rename_i h
   obtain⟨n,h1,h2,h3,_⟩:=an6 h
   have:=aI7 dash f (l.drop (nx l).2.toNat)
   rw [List.length_drop] at this
   omega
  ·omega
theorem aA1 (dash:Bool): ∀(f g:Nat) (l:List UInt8),l.length≤f→l.length≤g→an0 dash f l=an0 dash g l
 |0,g,l,h1,_=>by
  have:l= []:=List.length_eq_zero_iff.1 (by omega)
  subst this
  cases g with
  |zero=>rfl
  |succ g=>rfl
 |f+1,0,l,_,h2=>by
  have:l= []:=List.length_eq_zero_iff.1 (by omega)
  subst this
  rfl
 |f+1,g+1,l,h1,h2=>by
  rw [an0,an0]
  by_cases h:ap0 dash l=true
  ·obtain⟨n,h3,h4,h5,_⟩:=an6 h
   rw [if_pos h,if_pos h,aA1 dash f g _ (by rw [List.length_drop];omega) (by rw [List.length_drop];omega)]
  ·rw [if_neg h,if_neg h]
def ae9 (dash:Bool) (l:List UInt8):Nat:=an0 dash l.length l
theorem as4 {dash:Bool} {l:List UInt8} (h:ap0 dash l=true):ae9 dash l=(nx l).2.toNat+ae9 dash (l.drop (nx l).2.toNat):=by
 obtain⟨n,h1,h2,h3,_⟩:=an6 h
 unfold ae9
 cases hl:l.length with
 |zero=>omega
 |succ k=>
  rw [an0,if_pos h]
  congr 1
  refine aA1 dash _ _ _ ?_ (Nat.le_refl _)
  rw [List.length_drop]
  omega
theorem aE9 {dash:Bool} {l:List UInt8} (h:ap0 dash l=false):ae9 dash l=0:=by
 unfold ae9
 cases l.length with
 |zero=>rfl
 |succ k=>rw [an0,if_neg (by rw [h];decide)]
def al5 (dash:Bool) (l:List UInt8):Nat:=if 0<(nx l).2∧ae2 (nx l).1=true then ae9 dash l else 0
theorem aD3 {dash:Bool} {l:List UInt8} (h:0<(nx l).2∧ae2 (nx l).1=true):ap0 dash l=true:=by
 unfold ap0 ay6
 rw [decide_eq_true h.1,h.2]
 rfl
theorem bm6 (b:Nat) (s:ByteArray) (x:Rd) (dash:Bool) (w:World) (hx:RdAt w b s x) (hr:ae6 b w) (hp:x.at'≤s.size) (hn: ¬(0<(nx (s.data.toList.drop x.at')).2∧ae2 (nx (s.data.toList.drop x.at')).1=true)):
  Calls Tryz.prog 100 #[.pointer (some ⟨b,0,none⟩),.bool dash] w fun e w'=>e= .returned (.bool false)∧Below w.heap.size w w':=by
 have hN:=af4 b s x w hx hr hp
 generalize (nx (s.data.toList.drop x.at')).1=c at*
 generalize (nx (s.data.toList.drop x.at')).2=n at*
 have HN:=hJ hN
 clear hN hx hr
 by_cases h0:0<n
 ·have hst:ae2 c=false:=by
   cases h:ae2 c with
   |false=>rfl
   |true=>exact absurd ⟨h0,h⟩ hn
  have hS:=fun W=>am0 c W
  rw [hst] at hS
  have HS:=hJ hS
  clear hn hS hst
  go_enter Tryz.func100,Tryz.ntmps100
  go_wp2_with (first|(go_at_call 90;refine HN.out.mono ?_;rintro e w1 ⟨rfl,hb1⟩)|(go_at_call 166;refine(HS.out _).mono ?_;rintro e w2 ⟨rfl,hb2⟩))
  go_ret
  exact⟨rfl,aa0 hb1 hb2⟩
 ·clear hn
  go_enter Tryz.func100,Tryz.ntmps100
  go_wp2_with (go_at_call 90;refine HN.out.mono ?_;rintro e w1 ⟨rfl,hb1⟩)
  go_ret
  exact⟨rfl,hb1⟩
def aU1 (w:World) (b:Nat):Nat:=match w.cell? ⟨b,0,none⟩ with
 |some (.int _ z)=>z.toNat
 |_=>0
theorem RdAt.pos {w:World} {b:Nat} {s:ByteArray} {x:Rd} (h:RdAt w b s x):aU1 w b=x.at':=by
 unfold aU1
 rw [h.cell 0]
 rfl
def bH1 (dash:Bool) (b:Nat) (s:ByteArray) (p:Nat) (line:Bool) (fl cd:Int) (w wr:World) (k:Nat):Prop:=
 k≤s.size∧p≤k∧RdAt wr b s ⟨k,line,fl,cd⟩∧But b w wr∧ae6 b wr∧k+ae9 dash (s.data.toList.drop k)=p+ae9 dash (s.data.toList.drop p)
theorem ba8 (b:Nat) (s:ByteArray) (x:Rd) (dash:Bool) (w:World) (hx:RdAt w b s x) (hr:ae6 b w) (hs:s.size≤16777216) (hp:x.at'≤s.size) (hn:0<(nx (s.data.toList.drop x.at')).2∧ae2 (nx (s.data.toList.drop x.at')).1=true):
  Calls Tryz.prog 100 #[.pointer (some ⟨b,0,none⟩),.bool dash] w fun e w'=>e= .returned (.bool true)∧RdAt w' b s { x with at':=x.at'+al5 dash (s.data.toList.drop x.at') } ∧But b w w':=by
 have hL:al5 dash (s.data.toList.drop x.at')=ae9 dash (s.data.toList.drop x.at'):=by unfold al5;rw [if_pos hn]
 rw [hL]
 have hN:=af4 b s x w hx hr hp
 obtain⟨p,line,fl,cd⟩:=x
 simp only at hp hN hn⊢
 obtain⟨q,hq⟩: ∃q,nx (s.data.toList.drop p)=q:=⟨_,rfl⟩
 rw [hq] at hN hn
 obtain⟨c,n⟩:=q
 simp only at hN hn
 obtain⟨h0,hst⟩:=hn
 have hS:=fun W=>am0 c W
 rw [hst] at hS
 have HS:=hJ hS
 have HN:=hJ hN
 have HX:=hJ hx
 have HR:=hJ hr
 have hbl:=hx.lt
 have HQ:=hJ hq
 clear hS hst hN hx hr hq hL
 go_enter Tryz.func100,Tryz.ntmps100
 go_upto_region 4 with (first|(go_at_call 90;refine HN.out.mono ?_;rintro e w1 ⟨rfl,hb1⟩)|(go_at_call 166;refine(HS.out _).mono ?_;rintro e w2 ⟨rfl,hb2⟩))
 have hb:=aa0 hb1 hb2
 have hrel0:bH1 dash b s p line fl cd w w2 p:=⟨hp,Nat.le_refl _,HX.out.bel hb,.of_below hb,HR.out.next hbl hb,rfl⟩
 clear HS HN hb hb1 hb2 HX HR
 go_loopw [5,6] (fun cv nv wr=> ∃k:Nat,cv= .int .i64 (nx (s.data.toList.drop k)).1∧nv= .int .i64 (nx (s.data.toList.drop k)).2∧bH1 dash b s p line fl cd w wr k) (fun _ _ wr=>s.size - aU1 wr b)
 case atStart=>exact⟨p,by rw [HQ.out],by rw [HQ.out],hrel0⟩
 case round=>
  obtain⟨k,rfl,rfl,hk,hpk,hx,hbut,hrd,heq⟩:=hrel
  have HPOS:=hJ hx.pos
  clear hrel0 HQ
  cases hg:ap0 dash (s.data.toList.drop k) with
  |true=>
   have hy:=as4 hg
   obtain⟨m,hm,hm0,hml,hm4⟩:=an6 hg
   rw [List.length_drop,ofl] at hml
   rw [hm,Int.toNat_natCast,List.drop_drop] at hy
   unfold ap0 at hg
   simp only [Bool.and_eq_true,Bool.or_eq_true,decide_eq_true_eq] at hg
   have HNX:=hJ (fun W hx hr=>af4 b s ⟨k+m,line,fl,cd⟩ W hx hr (by simp only;omega))
   have HEQ:=hJ (show(k+m)+ae9 dash (s.data.toList.drop (k+m))=p+ae9 dash (s.data.toList.drop p) by omega)
   have hcase:ay6 (nx (s.data.toList.drop k)).1=true∨(ay6 (nx (s.data.toList.drop k)).1=false∧dash=true∧(nx (s.data.toList.drop k)).1=45):=by
    cases hpc:ay6 (nx (s.data.toList.drop k)).1 with
    |true=>exact .inl rfl
    |false=>
     rcases hg.2 with h|h
     ·rw [hpc] at h;cases h
     ·exact .inr ⟨rfl,h.1,h.2⟩
   have hP:=fun W=>aw6 (nx (s.data.toList.drop k)).1 W
   rw [hm]
   generalize hc1:(nx (s.data.toList.drop k)).1=c1 at*
   have HX:=hJ hx
   have HR:=hJ hrd
   have HB:=hJ hbut
   have hbk:=hx.lt
   clear hg hy heq hm hc1 hx hrd hbut
   rcases hcase with hc|⟨hc,rfl,rfl⟩
   ·rw [hc] at hP
    have HP:=hJ hP
    clear hP hc
    go_upto_region 5 with (go_at_call 167;refine(HP.out _).mono ?_;rintro e w3 ⟨rfl,hb3⟩)
    have HX3:=hJ (HX.out.bel hb3)
    have HR3:=hJ (HR.out.next hbk hb3)
    have hB3:=HB.out.bel hb3
    obtain⟨c0,c1',c2,c3,c4,f0,f1,f2,f3,f4⟩:=RdAt.facts HX3.out
    clear HX HR HB HP
    go_upto_region 6 with fail
    have HX4:=hJ (RdAt.set (y:=⟨k+m,line,fl,cd⟩) HX3.out 0 (.int .i64 ((k:Int)+(m:Int))) rfl)
    have HR4:=hJ (HR3.out.but HX3.out.lt ((But.refl b w3).setCell 0 (.int .i64 ((k:Int)+(m:Int)))))
    have hB4:=hB3.setCell 0 (.int .i64 ((k:Int)+(m:Int)))
    clear c0 c1' c2 c3 c4 f0 f1 f2 f3 f4 HX3 HR3 hB3
    generalize w3.setCell ⟨b,0,none⟩ (.int .i64 ((k:Int)+(m:Int)))=w4 at*
    go_wp2_with (go_at_call 90;refine(HNX.out _ HX4.out HR4.out).mono ?_;rintro e w5 ⟨rfl,hb5⟩)
    have HX5:=hJ (HX4.out.bel hb5)
    have HR5:=hJ (HR4.out.next HX4.out.lt hb5)
    have hB5:=hB4.bel hb5
    go_roundw
    case rel=>exact⟨k+m,rfl,rfl,by omega,by omega,HX5.out,hB5,HR5.out,HEQ.out⟩
    case measure=>rw [HX5.out.pos,HPOS.out];simp only;omega
   ·rw [hc] at hP
    have HP:=hJ hP
    clear hP hc
    go_upto_region 5 with (go_at_call 167;refine(HP.out _).mono ?_;rintro e w3 ⟨rfl,hb3⟩)
    have HX3:=hJ (HX.out.bel hb3)
    have HR3:=hJ (HR.out.next hbk hb3)
    have hB3:=HB.out.bel hb3
    obtain⟨c0,c1',c2,c3,c4,f0,f1,f2,f3,f4⟩:=RdAt.facts HX3.out
    clear HX HR HB HP
    go_upto_region 6 with fail
    have HX4:=hJ (RdAt.set (y:=⟨k+m,line,fl,cd⟩) HX3.out 0 (.int .i64 ((k:Int)+(m:Int))) rfl)
    have HR4:=hJ (HR3.out.but HX3.out.lt ((But.refl b w3).setCell 0 (.int .i64 ((k:Int)+(m:Int)))))
    have hB4:=hB3.setCell 0 (.int .i64 ((k:Int)+(m:Int)))
    clear c0 c1' c2 c3 c4 f0 f1 f2 f3 f4 HX3 HR3 hB3
    generalize w3.setCell ⟨b,0,none⟩ (.int .i64 ((k:Int)+(m:Int)))=w4 at*
    go_wp2_with (go_at_call 90;refine(HNX.out _ HX4.out HR4.out).mono ?_;rintro e w5 ⟨rfl,hb5⟩)
    have HX5:=hJ (HX4.out.bel hb5)
    have HR5:=hJ (HR4.out.next HX4.out.lt hb5)
    have hB5:=hB4.bel hb5
    go_roundw
    case rel=>exact⟨k+m,rfl,rfl,by omega,by omega,HX5.out,hB5,HR5.out,HEQ.out⟩
    case measure=>rw [HX5.out.pos,HPOS.out];simp only;omega
  |false=>
   have hno:=aE9 hg
   have HEQ:=hJ (show k=p+ae9 dash (s.data.toList.drop p) by omega)
   unfold ap0 at hg
   generalize (nx (s.data.toList.drop k)).1=c1 at*
   generalize (nx (s.data.toList.drop k)).2=n1 at*
   have HX:=hJ hx
   have HB:=hJ hbut
   clear hno heq hx hbut hrd
   by_cases hn1:0<n1
   ·rw [decide_eq_true hn1,Bool.true_and,Bool.or_eq_false_iff] at hg
    obtain⟨hg1,hg2⟩:=hg
    have hP:=fun W=>aw6 c1 W
    rw [hg1] at hP
    have HP:=hJ hP
    clear hP hg1
    cases dash with
    |true=>
     have h45:(c1==45)=false:=by
      rw [Bool.true_and,decide_eq_false_iff_not] at hg2
      rw [beq_eq_false_iff_ne]
      exact hg2
     clear hg2
     go_wp2_with (go_at_call 167;refine(HP.out _).mono ?_;rintro e w3 ⟨rfl,hb3⟩)
     go_ret
     exact⟨rfl,by rw [←HEQ.out];exact HX.out.bel hb3,HB.out.bel hb3⟩
    |false=>
     clear hg2
     go_wp2_with (go_at_call 167;refine(HP.out _).mono ?_;rintro e w3 ⟨rfl,hb3⟩)
     go_ret
     exact⟨rfl,by rw [←HEQ.out];exact HX.out.bel hb3,HB.out.bel hb3⟩
   ·clear hg
    go_wp2_with fail
    go_ret
    exact⟨rfl,by rw [←HEQ.out];exact HX.out,HB.out⟩
end
end Go.Proofs.YtnobjeelihkjmaaGreatDoor
