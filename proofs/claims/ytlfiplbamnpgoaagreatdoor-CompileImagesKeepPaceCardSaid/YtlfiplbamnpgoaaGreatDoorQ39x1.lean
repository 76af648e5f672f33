/- Part 1. -/
import Derived.Shelf.Strings.Builder1
import Derived.Shelf.Strings.Builder2
import Derived.Shelf.Strings.OnBuilder
import Derived.Shelf.Small.Wraps
import Derived.Shelf.Strings.BuilderF
import Derived.Shelf.Strings.BuilderK
import Derived.Shelf.Utf8.RuneCount
import Derived.Shelf.Strings.Builder2Cap
import Derived.Shelf.Strconv.Itoa0
import Derived.Shelf.Strconv.Itoa1
import Derived.Shelf.LaysM
import Derived.Shelf.Strconv.Itoa2
import Derived.Shelf.Strconv.Itoa3
import Derived.Shelf.Strconv.Clone
import Derived.Shelf.Strconv.SyntaxError
import Derived.Shelf.LaysC
import Derived.Shelf.Strconv.ToError
import Derived.Shelf.Strconv.Lower
import Derived.Shelf.Strconv.ParseUint10
import Derived.Shelf.Strconv.ParseUint10Empty
import Derived.Shelf.Strconv.ParseUint10Any
import Derived.Shelf.Strconv.RangeError
import Derived.Shelf.Strconv.ToErrorRange
import Derived.Shelf.Strconv.ParseUintEmpty
import Derived.Shelf.Strconv.ParseUint10b64
import Derived.Shelf.Strconv.ParseUint10b32
import Derived.Shelf.Strconv.ParseUint10b16
import Derived.Shelf.Strconv.ParseUint10b8
import Derived.Shelf.Strconv.ParseUint10At
import Derived.Ground.MpProg
import Derived.Shelf.Pu.ParseUintPublic10
import Derived.Shelf.Pu.ErrVarParseUint
import Derived.Shelf.Strings.Search1
import Derived.Shelf.Strings.Search2
import Derived.Shelf.Strings.Search3
import Derived.Shelf.Strings.Cut
import Derived.Shelf.Strings.Count
import Derived.Shelf.Strings.Shaped
import Derived.Shelf.GgClosure.StringsIndexFunc
import Derived.Ground.GgwProg
import Derived.Shelf.GgClosure.StringsIndexFuncTop
import Derived.Shelf.GgClosure.StringsRunes
import Derived.Shelf.Strings.Prefix
import Derived.Shelf.Strings.Split
import Derived.Shelf.Strings.Fields
import Derived.Shelf.Strings.SplitShaped
import Derived.Shelf.Unicode.Latin
import Derived.Shelf.Unicode.Decode
import Derived.Shelf.Strings.RuneCount
import Derived.Shelf.Strings.Explode
import Derived.Shelf.Bits.Mul64
import Derived.Shelf.Strings.Repeat
import Derived.Shelf.Unicode.DecodeSlow
import Derived.Shelf.Unicode.DecodeAny
import Derived.Shelf.Unicode.Is16White
import Derived.Shelf.Unicode.IsSpaceAny
import Derived.Shelf.Unicode.Is16WhiteD
import Derived.Shelf.Unicode.IsSpaceAnyD
import Derived.Shelf.Strings.FieldsAny
import Derived.Shelf.Strings.FieldsFuncAny
import Derived.Shelf.Unicode.Is16Any
import Derived.Shelf.Unicode.Is32Any
import Derived.Shelf.Unicode.ExclAny
import Derived.Shelf.Strings.FuncGrows
import Derived.Shelf.Strings.FieldsFuncGrows
import Derived.Shelf.Strings.BuilderCap
import Derived.Shelf.Slices.Turned
import Derived.Test.YtlfiplbamnpgoaaGreatDoorProg
import Derived.Tactics
import Derived.Below
import Derived.Orders
import Derived.Laws.Rows
import Derived.WalkKit
import Derived.Deep.LoopGhost
import Derived.OrdersHeld
import Derived.IntWalk
set_option linter.unusedVariables false
set_option linter.defProp false
set_option linter.unusedSimpArgs false
set_option linter.unnecessarySimpa false
set_option maxRecDepth 100000
set_option maxHeartbeats 8000000
namespace Go.Proofs
open Go.Shelf
def Tryz.lays156_ren:Go.Shelf.Ren:=⟨fun|156=>60|165=>102|166=>59|169=>38|240=>101|241=>134|276=>133|277=>171|n=>n,fun|31=>61|9=>9|3=>3|4=>4|0=>0|20=>20|72=>102|76=>154|70=>100|37=>26|75=>153|127=>158|164=>237|5=>5|80=>112|n=>n,fun|n=>n⟩
def Tryz.lays156:Go.Proofs.Lays.n156 Tryz.prog Tryz.lays156_ren:={
 mixed:=by kernel_rfl
 f156:=Tryz.func60.trans (congrArg some (by kernel_rfl))
 f165:=Tryz.func102.trans (congrArg some (by kernel_rfl))
 f166:=Tryz.func59.trans (congrArg some (by kernel_rfl))
 f169:=Tryz.func38.trans (congrArg some (by kernel_rfl))
 f240:=Tryz.func101.trans (congrArg some (by kernel_rfl))
 f241:=Tryz.func134.trans (congrArg some (by kernel_rfl))
 f276:=Tryz.func133.trans (congrArg some (by kernel_rfl))
 f277:=Tryz.func171.trans (congrArg some (by kernel_rfl))
 t0:=Tryz.underlying0
 a0:=Tryz.isAgg0
 z0:=Tryz.sizeOf0
 v0:=Tryz.zeroValue0
 t3:=Tryz.underlying3
 a3:=Tryz.isAgg3
 z3:=Tryz.sizeOf3
 v3:=Tryz.zeroValue3
 t4:=Tryz.underlying4
 a4:=Tryz.isAgg4
 z4:=Tryz.sizeOf4
 v4:=Tryz.zeroValue4
 t9:=Tryz.underlying9
 a9:=Tryz.isAgg9
 z9:=Tryz.sizeOf9
 v9:=Tryz.zeroValue9
 t20:=Tryz.underlying20
 a20:=Tryz.isAgg20
 z20:=Tryz.sizeOf20
 v20:=Tryz.zeroValue20
 t31:=Tryz.underlying61
 a31:=Tryz.isAgg61
 z31:=Tryz.sizeOf61
 v31:=Tryz.zeroValue61
 t37:=Tryz.underlying26
 a37:=Tryz.isAgg26
 z37:=Tryz.sizeOf26
 v37:=Tryz.zeroValue26
 t70:=Tryz.underlying100
 a70:=Tryz.isAgg100
 z70:=Tryz.sizeOf100
 v70:=Tryz.zeroValue100
 t72:=Tryz.underlying102
 a72:=Tryz.isAgg102
 z72:=Tryz.sizeOf102
 v72:=Tryz.zeroValue102
 t75:=Tryz.underlying153
 a75:=Tryz.isAgg153
 z75:=Tryz.sizeOf153
 v75:=Tryz.zeroValue153
 t76:=Tryz.underlying154
 a76:=Tryz.isAgg154
 z76:=Tryz.sizeOf154
 v76:=Tryz.zeroValue154
 t127:=Tryz.underlying158
 a127:=Tryz.isAgg158
 z127:=Tryz.sizeOf158
 v127:=Tryz.zeroValue158
 t164:=Tryz.underlying237
 a164:=Tryz.isAgg237
 z164:=Tryz.sizeOf237
 v164:=Tryz.zeroValue237 }
def Tryz.Builder_Extra_156:Builder.Extra Tryz.prog Tryz.lays156_ren:={
 sizeBuilder:=by kernel_rfl
 liesBuilder:=by kernel_rfl
 t5:=Tryz.underlying5
 a5:=Tryz.isAgg5
 z5:=Tryz.sizeOf5
 v5:=Tryz.zeroValue5
 infoByte:=by kernel_rfl
 cellsByte:=by kernel_rfl
 sizeByte:=by kernel_rfl
 neB5:=by decide }
def Tryz.lays104_ren:Go.Shelf.Ren:=⟨fun|104=>147|211=>185|207=>215|n=>n,fun|9=>9|4=>4|24=>249|3=>3|n=>n,fun|n=>n⟩
def Tryz.lays104:Go.Proofs.Lays.n104 Tryz.prog Tryz.lays104_ren:={
 mixed:=by kernel_rfl
 f104:=Tryz.func147.trans (congrArg some (by kernel_rfl))
 f207:=Tryz.func215.trans (congrArg some (by kernel_rfl))
 f211:=Tryz.func185.trans (congrArg some (by kernel_rfl))
 t3:=Tryz.underlying3
 a3:=Tryz.isAgg3
 z3:=Tryz.sizeOf3
 v3:=Tryz.zeroValue3
 t4:=Tryz.underlying4
 a4:=Tryz.isAgg4
 z4:=Tryz.sizeOf4
 v4:=Tryz.zeroValue4
 t9:=Tryz.underlying9
 a9:=Tryz.isAgg9
 z9:=Tryz.sizeOf9
 v9:=Tryz.zeroValue9
 t24:=Tryz.underlying249
 a24:=Tryz.isAgg249
 z24:=Tryz.sizeOf249
 v24:=Tryz.zeroValue249 }
def Tryz.lays283_ren:Go.Shelf.Ren:=⟨fun|283=>172|n=>n,fun|3=>3|9=>9|4=>4|n=>n,fun|n=>n⟩
def Tryz.lays283:Go.Proofs.Lays.n283 Tryz.prog Tryz.lays283_ren:={
 mixed:=by kernel_rfl
 f283:=Tryz.func172.trans (congrArg some (by kernel_rfl))
 t3:=Tryz.underlying3
 a3:=Tryz.isAgg3
 z3:=Tryz.sizeOf3
 v3:=Tryz.zeroValue3
 t4:=Tryz.underlying4
 a4:=Tryz.isAgg4
 z4:=Tryz.sizeOf4
 v4:=Tryz.zeroValue4
 t9:=Tryz.underlying9
 a9:=Tryz.isAgg9
 z9:=Tryz.sizeOf9
 v9:=Tryz.zeroValue9 }
def Tryz.laysM284_ren:Go.Shelf.Ren:=⟨fun|284=>173|129=>205|317=>204|318=>206|n=>n,fun|53=>231|3=>3|212=>294|0=>0|4=>4|46=>296|5=>5|9=>9|n=>n,fun|17=>1|n=>n⟩
def Tryz.laysM284:Go.Proofs.LaysM.n284 Tryz.prog Tryz.laysM284_ren:={
 mixed:=by kernel_rfl
 f129:=Tryz.func205.trans (congrArg some (by kernel_rfl))
 f284:=Tryz.func173.trans (congrArg some (by kernel_rfl))
 f317:=Tryz.func204.trans (congrArg some (by kernel_rfl))
 f318:=Tryz.func206.trans (congrArg some (by kernel_rfl))
 t0:=Tryz.underlying0
 a0:=Tryz.isAgg0
 z0:=Tryz.sizeOf0
 v0:=Tryz.zeroValue0
 t3:=Tryz.underlying3
 a3:=Tryz.isAgg3
 z3:=Tryz.sizeOf3
 v3:=Tryz.zeroValue3
 t4:=Tryz.underlying4
 a4:=Tryz.isAgg4
 z4:=Tryz.sizeOf4
 v4:=Tryz.zeroValue4
 t5:=Tryz.underlying5
 a5:=Tryz.isAgg5
 z5:=Tryz.sizeOf5
 v5:=Tryz.zeroValue5
 t9:=Tryz.underlying9
 a9:=Tryz.isAgg9
 z9:=Tryz.sizeOf9
 v9:=Tryz.zeroValue9
 t46:=Tryz.underlying296
 a46:=Tryz.isAgg296
 z46:=Tryz.sizeOf296
 v46:=Tryz.zeroValue296
 t53:=Tryz.underlying231
 a53:=Tryz.isAgg231
 z53:=Tryz.sizeOf231
 v53:=Tryz.zeroValue231
 t212:=Tryz.underlying294
 a212:=Tryz.isAgg294
 z212:=Tryz.sizeOf294
 v212:=Tryz.zeroValue294
 g17:=by kernel_rfl
 i0:=by kernel_rfl
 i3:=by kernel_rfl
 i4:=by kernel_rfl
 i5:=by kernel_rfl
 i9:=by kernel_rfl
 i46:=by kernel_rfl
 i53:=by kernel_rfl
 i212:=by kernel_rfl
 m17:=by kernel_rfl }
def Tryz.lays285_ren:Go.Shelf.Ren:=⟨fun|285=>174|n=>n,fun|37=>26|53=>231|3=>3|4=>4|51=>34|9=>9|5=>5|0=>0|n=>n,fun|n=>n⟩
def Tryz.lays285:Go.Proofs.Lays.n285 Tryz.prog Tryz.lays285_ren:={
 mixed:=by kernel_rfl
 f285:=Tryz.func174.trans (congrArg some (by kernel_rfl))
 t0:=Tryz.underlying0
 a0:=Tryz.isAgg0
 z0:=Tryz.sizeOf0
 v0:=Tryz.zeroValue0
 t3:=Tryz.underlying3
 a3:=Tryz.isAgg3
 z3:=Tryz.sizeOf3
 v3:=Tryz.zeroValue3
 t4:=Tryz.underlying4
 a4:=Tryz.isAgg4
 z4:=Tryz.sizeOf4
 v4:=Tryz.zeroValue4
 t5:=Tryz.underlying5
 a5:=Tryz.isAgg5
 z5:=Tryz.sizeOf5
 v5:=Tryz.zeroValue5
 t9:=Tryz.underlying9
 a9:=Tryz.isAgg9
 z9:=Tryz.sizeOf9
 v9:=Tryz.zeroValue9
 t37:=Tryz.underlying26
 a37:=Tryz.isAgg26
 z37:=Tryz.sizeOf26
 v37:=Tryz.zeroValue26
 t51:=Tryz.underlying34
 a51:=Tryz.isAgg34
 z51:=Tryz.sizeOf34
 v51:=Tryz.zeroValue34
 t53:=Tryz.underlying231
 a53:=Tryz.isAgg231
 z53:=Tryz.sizeOf231
 v53:=Tryz.zeroValue231 }
def Tryz.laysM171_ren:Go.Shelf.Ren:=⟨fun|171=>61|243=>103|246=>135|283=>172|284=>173|285=>174|286=>175|129=>205|317=>204|318=>206|319=>207|320=>208|337=>225|338=>226|n=>n,fun|3=>3|9=>9|2=>2|4=>4|171=>271|0=>0|53=>231|37=>26|5=>5|173=>274|212=>294|51=>34|20=>20|213=>295|46=>296|232=>322|233=>323|n=>n,fun|17=>1|18=>6|19=>7|n=>n⟩
def Tryz.laysM171:Go.Proofs.LaysM.n171 Tryz.prog Tryz.laysM171_ren:={
 mixed:=by kernel_rfl
 f129:=Tryz.func205.trans (congrArg some (by kernel_rfl))
 f171:=Tryz.func61.trans (congrArg some (by kernel_rfl))
 f243:=Tryz.func103.trans (congrArg some (by kernel_rfl))
 f246:=Tryz.func135.trans (congrArg some (by kernel_rfl))
 f283:=Tryz.func172.trans (congrArg some (by kernel_rfl))
 f284:=Tryz.func173.trans (congrArg some (by kernel_rfl))
 f285:=Tryz.func174.trans (congrArg some (by kernel_rfl))
 f286:=Tryz.func175.trans (congrArg some (by kernel_rfl))
 f317:=Tryz.func204.trans (congrArg some (by kernel_rfl))
 f318:=Tryz.func206.trans (congrArg some (by kernel_rfl))
 f319:=Tryz.func207.trans (congrArg some (by kernel_rfl))
 f320:=Tryz.func208.trans (congrArg some (by kernel_rfl))
 f337:=Tryz.func225.trans (congrArg some (by kernel_rfl))
 f338:=Tryz.func226.trans (congrArg some (by kernel_rfl))
 t0:=Tryz.underlying0
 a0:=Tryz.isAgg0
 z0:=Tryz.sizeOf0
 v0:=Tryz.zeroValue0
 t2:=Tryz.underlying2
 a2:=Tryz.isAgg2
 z2:=Tryz.sizeOf2
 v2:=Tryz.zeroValue2
 t3:=Tryz.underlying3
 a3:=Tryz.isAgg3
 z3:=Tryz.sizeOf3
 v3:=Tryz.zeroValue3
 t4:=Tryz.underlying4
 a4:=Tryz.isAgg4
 z4:=Tryz.sizeOf4
 v4:=Tryz.zeroValue4
 t5:=Tryz.underlying5
 a5:=Tryz.isAgg5
 z5:=Tryz.sizeOf5
 v5:=Tryz.zeroValue5
 t9:=Tryz.underlying9
 a9:=Tryz.isAgg9
 z9:=Tryz.sizeOf9
 v9:=Tryz.zeroValue9
 t20:=Tryz.underlying20
 a20:=Tryz.isAgg20
 z20:=Tryz.sizeOf20
 v20:=Tryz.zeroValue20
 t37:=Tryz.underlying26
 a37:=Tryz.isAgg26
 z37:=Tryz.sizeOf26
 v37:=Tryz.zeroValue26
 t46:=Tryz.underlying296
 a46:=Tryz.isAgg296
 z46:=Tryz.sizeOf296
 v46:=Tryz.zeroValue296
 t51:=Tryz.underlying34
 a51:=Tryz.isAgg34
 z51:=Tryz.sizeOf34
 v51:=Tryz.zeroValue34
 t53:=Tryz.underlying231
 a53:=Tryz.isAgg231
 z53:=Tryz.sizeOf231
 v53:=Tryz.zeroValue231
 t171:=Tryz.underlying271
 a171:=Tryz.isAgg271
 z171:=Tryz.sizeOf271
 v171:=Tryz.zeroValue271
 t173:=Tryz.underlying274
 a173:=Tryz.isAgg274
 z173:=Tryz.sizeOf274
 v173:=Tryz.zeroValue274
 t212:=Tryz.underlying294
 a212:=Tryz.isAgg294
 z212:=Tryz.sizeOf294
 v212:=Tryz.zeroValue294
 t213:=Tryz.underlying295
 a213:=Tryz.isAgg295
 z213:=Tryz.sizeOf295
 t232:=Tryz.underlying322
 a232:=Tryz.isAgg322
 z232:=Tryz.sizeOf322
 v232:=Tryz.zeroValue322
 t233:=Tryz.underlying323
 a233:=Tryz.isAgg323
 z233:=Tryz.sizeOf323
 v233:=Tryz.zeroValue323
 g17:=by kernel_rfl
 g18:=by kernel_rfl
 g19:=by kernel_rfl
 i0:=by kernel_rfl
 i2:=by kernel_rfl
 i3:=by kernel_rfl
 i4:=by kernel_rfl
 i5:=by kernel_rfl
 i9:=by kernel_rfl
 i20:=by kernel_rfl
 i37:=by kernel_rfl
 i46:=by kernel_rfl
 i51:=by kernel_rfl
 i53:=by kernel_rfl
 i171:=by kernel_rfl
 i173:=by kernel_rfl
 i212:=by kernel_rfl
 i232:=by kernel_rfl
 i233:=by kernel_rfl
 m17:=by kernel_rfl
 m18:=by kernel_rfl
 m19:=by kernel_rfl }
def Tryz.laysPu14_ren:Go.Shelf.Ren:=⟨fun|14=>217|16=>230|17=>231|19=>236|20=>237|21=>238|22=>239|23=>240|24=>241|25=>244|27=>61|26=>245|28=>103|29=>135|30=>172|31=>173|32=>174|33=>175|35=>205|34=>204|36=>206|37=>207|38=>208|39=>225|40=>226|n=>n,fun|9=>9|3=>3|22=>231|24=>153|25=>301|4=>4|34=>324|5=>5|36=>296|37=>26|0=>0|39=>326|21=>21|44=>342|47=>158|50=>348|48=>346|2=>2|52=>271|55=>274|59=>294|60=>34|20=>20|61=>295|65=>322|66=>323|67=>112|n=>n,fun|0=>8|1=>9|2=>1|3=>6|4=>7|n=>n⟩
def Tryz.laysPu14:Go.Proofs.LaysPu.n14 Tryz.prog Tryz.laysPu14_ren:={
 mixed:=by kernel_rfl
 f14:=Tryz.func217.trans (congrArg some (by kernel_rfl))
 f16:=Tryz.func230.trans (congrArg some (by kernel_rfl))
 f17:=Tryz.func231.trans (congrArg some (by kernel_rfl))
 f19:=Tryz.func236.trans (congrArg some (by kernel_rfl))
 f20:=Tryz.func237.trans (congrArg some (by kernel_rfl))
 f21:=Tryz.func238.trans (congrArg some (by kernel_rfl))
 f22:=Tryz.func239.trans (congrArg some (by kernel_rfl))
 f23:=Tryz.func240.trans (congrArg some (by kernel_rfl))
 f24:=Tryz.func241.trans (congrArg some (by kernel_rfl))
 f25:=Tryz.func244.trans (congrArg some (by kernel_rfl))
 f26:=Tryz.func245.trans (congrArg some (by kernel_rfl))
 f27:=Tryz.func61.trans (congrArg some (by kernel_rfl))
 f28:=Tryz.func103.trans (congrArg some (by kernel_rfl))
 f29:=Tryz.func135.trans (congrArg some (by kernel_rfl))
 f30:=Tryz.func172.trans (congrArg some (by kernel_rfl))
 f31:=Tryz.func173.trans (congrArg some (by kernel_rfl))
 f32:=Tryz.func174.trans (congrArg some (by kernel_rfl))
 f33:=Tryz.func175.trans (congrArg some (by kernel_rfl))
 f34:=Tryz.func204.trans (congrArg some (by kernel_rfl))
 f35:=Tryz.func205.trans (congrArg some (by kernel_rfl))
 f36:=Tryz.func206.trans (congrArg some (by kernel_rfl))
 f37:=Tryz.func207.trans (congrArg some (by kernel_rfl))
 f38:=Tryz.func208.trans (congrArg some (by kernel_rfl))
 f39:=Tryz.func225.trans (congrArg some (by kernel_rfl))
 f40:=Tryz.func226.trans (congrArg some (by kernel_rfl))
 t0:=Tryz.underlying0
 a0:=Tryz.isAgg0
 z0:=Tryz.sizeOf0
 v0:=Tryz.zeroValue0
 i0:=by kernel_rfl
 t2:=Tryz.underlying2
 a2:=Tryz.isAgg2
 z2:=Tryz.sizeOf2
 v2:=Tryz.zeroValue2
 i2:=by kernel_rfl
 t3:=Tryz.underlying3
 a3:=Tryz.isAgg3
 z3:=Tryz.sizeOf3
 v3:=Tryz.zeroValue3
 i3:=by kernel_rfl
 t4:=Tryz.underlying4
 a4:=Tryz.isAgg4
 z4:=Tryz.sizeOf4
 v4:=Tryz.zeroValue4
 i4:=by kernel_rfl
 t5:=Tryz.underlying5
 a5:=Tryz.isAgg5
 z5:=Tryz.sizeOf5
 v5:=Tryz.zeroValue5
 i5:=by kernel_rfl
 t9:=Tryz.underlying9
 a9:=Tryz.isAgg9
 z9:=Tryz.sizeOf9
 v9:=Tryz.zeroValue9
 i9:=by kernel_rfl
 t20:=Tryz.underlying20
 a20:=Tryz.isAgg20
 z20:=Tryz.sizeOf20
 v20:=Tryz.zeroValue20
 i20:=by kernel_rfl
 t21:=Tryz.underlying21
 a21:=Tryz.isAgg21
 z21:=Tryz.sizeOf21
 v21:=Tryz.zeroValue21
 i21:=by kernel_rfl
 t22:=Tryz.underlying231
 a22:=Tryz.isAgg231
 z22:=Tryz.sizeOf231
 v22:=Tryz.zeroValue231
 i22:=by kernel_rfl
 t24:=Tryz.underlying153
 a24:=Tryz.isAgg153
 z24:=Tryz.sizeOf153
 v24:=Tryz.zeroValue153
 i24:=by kernel_rfl
 t25:=Tryz.underlying301
 a25:=Tryz.isAgg301
 z25:=Tryz.sizeOf301
 v25:=Tryz.zeroValue301
 i25:=by kernel_rfl
 t34:=Tryz.underlying324
 a34:=Tryz.isAgg324
 z34:=Tryz.sizeOf324
 v34:=Tryz.zeroValue324
 i34:=by kernel_rfl
 c34:=by kernel_rfl
 t36:=Tryz.underlying296
 a36:=Tryz.isAgg296
 z36:=Tryz.sizeOf296
 v36:=Tryz.zeroValue296
 i36:=by kernel_rfl
 t37:=Tryz.underlying26
 a37:=Tryz.isAgg26
 z37:=Tryz.sizeOf26
 v37:=Tryz.zeroValue26
 i37:=by kernel_rfl
 t39:=Tryz.underlying326
 a39:=Tryz.isAgg326
 z39:=Tryz.sizeOf326
 v39:=Tryz.zeroValue326
 i39:=by kernel_rfl
 t44:=Tryz.underlying342
 a44:=Tryz.isAgg342
 z44:=Tryz.sizeOf342
 v44:=Tryz.zeroValue342
 i44:=by kernel_rfl
 t47:=Tryz.underlying158
 a47:=Tryz.isAgg158
 z47:=Tryz.sizeOf158
 v47:=Tryz.zeroValue158
 i47:=by kernel_rfl
 t48:=Tryz.underlying346
 a48:=Tryz.isAgg346
 z48:=Tryz.sizeOf346
 v48:=Tryz.zeroValue346
 i48:=by kernel_rfl
 t50:=Tryz.underlying348
 a50:=Tryz.isAgg348
 z50:=Tryz.sizeOf348
 v50:=Tryz.zeroValue348
 i50:=by kernel_rfl
 t52:=Tryz.underlying271
 a52:=Tryz.isAgg271
 z52:=Tryz.sizeOf271
 v52:=Tryz.zeroValue271
 i52:=by kernel_rfl
 t55:=Tryz.underlying274
 a55:=Tryz.isAgg274
 z55:=Tryz.sizeOf274
 v55:=Tryz.zeroValue274
 i55:=by kernel_rfl
 t59:=Tryz.underlying294
 a59:=Tryz.isAgg294
 z59:=Tryz.sizeOf294
 v59:=Tryz.zeroValue294
 i59:=by kernel_rfl
 t60:=Tryz.underlying34
 a60:=Tryz.isAgg34
 z60:=Tryz.sizeOf34
 v60:=Tryz.zeroValue34
 i60:=by kernel_rfl
 t61:=Tryz.underlying295
 a61:=Tryz.isAgg295
 z61:=Tryz.sizeOf295
 t65:=Tryz.underlying322
 a65:=Tryz.isAgg322
 z65:=Tryz.sizeOf322
 v65:=Tryz.zeroValue322
 i65:=by kernel_rfl
 t66:=Tryz.underlying323
 a66:=Tryz.isAgg323
 z66:=Tryz.sizeOf323
 v66:=Tryz.zeroValue323
 i66:=by kernel_rfl
 t67:=Tryz.underlying112
 a67:=Tryz.isAgg112
 z67:=Tryz.sizeOf112
 v67:=Tryz.zeroValue112
 i67:=by kernel_rfl
 g0:=by kernel_rfl
 m0:=by kernel_rfl
 g1:=by kernel_rfl
 m1:=by kernel_rfl
 g2:=by kernel_rfl
 m2:=by kernel_rfl
 g3:=by kernel_rfl
 m3:=by kernel_rfl
 g4:=by kernel_rfl
 m4:=by kernel_rfl }
def Tryz.lays219_ren:Go.Shelf.Ren:=⟨fun|219=>183|217=>211|225=>212|224=>213|267=>214|266=>227|314=>228|n=>n,fun|9=>9|3=>3|4=>4|5=>5|46=>296|146=>313|51=>34|n=>n,fun|1=>0|n=>n⟩
def Tryz.lays219:Go.Proofs.Lays.n219 Tryz.prog Tryz.lays219_ren:={
 mixed:=by kernel_rfl
 f217:=Tryz.func211.trans (congrArg some (by kernel_rfl))
 f219:=Tryz.func183.trans (congrArg some (by kernel_rfl))
 f224:=Tryz.func213.trans (congrArg some (by kernel_rfl))
 f225:=Tryz.func212.trans (congrArg some (by kernel_rfl))
 f266:=Tryz.func227.trans (congrArg some (by kernel_rfl))
 f267:=Tryz.func214.trans (congrArg some (by kernel_rfl))
 f314:=Tryz.func228.trans (congrArg some (by kernel_rfl))
 t3:=Tryz.underlying3
 a3:=Tryz.isAgg3
 z3:=Tryz.sizeOf3
 v3:=Tryz.zeroValue3
 t4:=Tryz.underlying4
 a4:=Tryz.isAgg4
 z4:=Tryz.sizeOf4
 v4:=Tryz.zeroValue4
 t5:=Tryz.underlying5
 a5:=Tryz.isAgg5
 z5:=Tryz.sizeOf5
 v5:=Tryz.zeroValue5
 t9:=Tryz.underlying9
 a9:=Tryz.isAgg9
 z9:=Tryz.sizeOf9
 v9:=Tryz.zeroValue9
 t46:=Tryz.underlying296
 a46:=Tryz.isAgg296
 z46:=Tryz.sizeOf296
 v46:=Tryz.zeroValue296
 t51:=Tryz.underlying34
 a51:=Tryz.isAgg34
 z51:=Tryz.sizeOf34
 v51:=Tryz.zeroValue34
 t146:=Tryz.underlying313
 a146:=Tryz.isAgg313
 z146:=Tryz.sizeOf313
 v146:=Tryz.zeroValue313
 g1:=by kernel_rfl }
def Tryz.laysGw17_ren:Go.Shelf.Ren:=⟨fun|17=>186|15=>216|20=>229|n=>n,fun|9=>9|23=>248|4=>4|3=>3|0=>0|21=>21|n=>n,fun|n=>n⟩
def Tryz.laysGw17:Go.Proofs.LaysGw.n17 Tryz.prog Tryz.laysGw17_ren:={
 mixed:=by kernel_rfl
 f15:=Tryz.func216.trans (congrArg some (by kernel_rfl))
 f17:=Tryz.func186.trans (congrArg some (by kernel_rfl))
 f20:=Tryz.func229.trans (congrArg some (by kernel_rfl))
 t0:=Tryz.underlying0
 a0:=Tryz.isAgg0
 z0:=Tryz.sizeOf0
 v0:=Tryz.zeroValue0
 i0:=by kernel_rfl
 t3:=Tryz.underlying3
 a3:=Tryz.isAgg3
 z3:=Tryz.sizeOf3
 v3:=Tryz.zeroValue3
 i3:=by kernel_rfl
 t4:=Tryz.underlying4
 a4:=Tryz.isAgg4
 z4:=Tryz.sizeOf4
 v4:=Tryz.zeroValue4
 i4:=by kernel_rfl
 t9:=Tryz.underlying9
 a9:=Tryz.isAgg9
 z9:=Tryz.sizeOf9
 v9:=Tryz.zeroValue9
 i9:=by kernel_rfl
 t21:=Tryz.underlying21
 a21:=Tryz.isAgg21
 z21:=Tryz.sizeOf21
 v21:=Tryz.zeroValue21
 i21:=by kernel_rfl
 t23:=Tryz.underlying248
 a23:=Tryz.isAgg248
 z23:=Tryz.sizeOf248
 v23:=Tryz.zeroValue248
 i23:=by kernel_rfl }
def Tryz.lays221_ren:Go.Shelf.Ren:=⟨fun|221=>105|268=>141|138=>142|143=>143|195=>180|197=>181|218=>182|219=>183|260=>210|217=>211|225=>212|224=>213|267=>214|266=>227|314=>228|n=>n,fun|9=>9|3=>3|31=>61|4=>4|0=>0|105=>276|21=>21|5=>5|46=>296|119=>303|139=>312|138=>311|146=>313|51=>34|n=>n,fun|1=>0|3=>3|4=>4|n=>n⟩
def Tryz.lays221:Go.Proofs.Lays.n221 Tryz.prog Tryz.lays221_ren:={
 mixed:=by kernel_rfl
 f138:=Tryz.func142.trans (congrArg some (by kernel_rfl))
 f143:=Tryz.func143.trans (congrArg some (by kernel_rfl))
 f195:=Tryz.func180.trans (congrArg some (by kernel_rfl))
 f197:=Tryz.func181.trans (congrArg some (by kernel_rfl))
 f217:=Tryz.func211.trans (congrArg some (by kernel_rfl))
 f218:=Tryz.func182.trans (congrArg some (by kernel_rfl))
 f219:=Tryz.func183.trans (congrArg some (by kernel_rfl))
 f221:=Tryz.func105.trans (congrArg some (by kernel_rfl))
 f224:=Tryz.func213.trans (congrArg some (by kernel_rfl))
 f225:=Tryz.func212.trans (congrArg some (by kernel_rfl))
 f260:=Tryz.func210.trans (congrArg some (by kernel_rfl))
 f266:=Tryz.func227.trans (congrArg some (by kernel_rfl))
 f267:=Tryz.func214.trans (congrArg some (by kernel_rfl))
 f268:=Tryz.func141.trans (congrArg some (by kernel_rfl))
 f314:=Tryz.func228.trans (congrArg some (by kernel_rfl))
 t0:=Tryz.underlying0
 a0:=Tryz.isAgg0
 z0:=Tryz.sizeOf0
 v0:=Tryz.zeroValue0
 t3:=Tryz.underlying3
 a3:=Tryz.isAgg3
 z3:=Tryz.sizeOf3
 v3:=Tryz.zeroValue3
 t4:=Tryz.underlying4
 a4:=Tryz.isAgg4
 z4:=Tryz.sizeOf4
 v4:=Tryz.zeroValue4
 t5:=Tryz.underlying5
 a5:=Tryz.isAgg5
 z5:=Tryz.sizeOf5
 v5:=Tryz.zeroValue5
 t9:=Tryz.underlying9
 a9:=Tryz.isAgg9
 z9:=Tryz.sizeOf9
 v9:=Tryz.zeroValue9
 t21:=Tryz.underlying21
 a21:=Tryz.isAgg21
 z21:=Tryz.sizeOf21
 v21:=Tryz.zeroValue21
 t31:=Tryz.underlying61
 a31:=Tryz.isAgg61
 z31:=Tryz.sizeOf61
 v31:=Tryz.zeroValue61
 t46:=Tryz.underlying296
 a46:=Tryz.isAgg296
 z46:=Tryz.sizeOf296
 v46:=Tryz.zeroValue296
 t51:=Tryz.underlying34
 a51:=Tryz.isAgg34
 z51:=Tryz.sizeOf34
 v51:=Tryz.zeroValue34
 t105:=Tryz.underlying276
 a105:=Tryz.isAgg276
 z105:=Tryz.sizeOf276
 v105:=Tryz.zeroValue276
 t119:=Tryz.underlying303
 a119:=Tryz.isAgg303
 z119:=Tryz.sizeOf303
 t138:=Tryz.underlying311
 a138:=Tryz.isAgg311
 z138:=Tryz.sizeOf311
 v138:=Tryz.zeroValue311
 t139:=Tryz.underlying312
 a139:=Tryz.isAgg312
 z139:=Tryz.sizeOf312
 v139:=Tryz.zeroValue312
 t146:=Tryz.underlying313
 a146:=Tryz.isAgg313
 z146:=Tryz.sizeOf313
 v146:=Tryz.zeroValue313
 g1:=by kernel_rfl
 g3:=by kernel_rfl
 g4:=by kernel_rfl }
def Tryz.lays157_ren:Go.Shelf.Ren:=⟨fun|157=>190|229=>145|199=>218|261=>232|311=>242|312=>243|n=>n,fun|9=>9|31=>61|3=>3|5=>5|4=>4|119=>303|0=>0|40=>248|152=>279|21=>21|154=>281|51=>34|141=>318|196=>332|193=>329|198=>335|49=>333|194=>330|201=>338|226=>344|46=>296|227=>345|n=>n,fun|0=>2|6=>5|n=>n⟩
def Tryz.lays157:Go.Proofs.Lays.n157 Tryz.prog Tryz.lays157_ren:={
 mixed:=by kernel_rfl
 f157:=Tryz.func190.trans (congrArg some (by kernel_rfl))
 f199:=Tryz.func218.trans (congrArg some (by kernel_rfl))
 f229:=Tryz.func145.trans (congrArg some (by kernel_rfl))
 f261:=Tryz.func232.trans (congrArg some (by kernel_rfl))
 f311:=Tryz.func242.trans (congrArg some (by kernel_rfl))
 f312:=Tryz.func243.trans (congrArg some (by kernel_rfl))
 t0:=Tryz.underlying0
 a0:=Tryz.isAgg0
 z0:=Tryz.sizeOf0
 v0:=Tryz.zeroValue0
 t3:=Tryz.underlying3
 a3:=Tryz.isAgg3
 z3:=Tryz.sizeOf3
 v3:=Tryz.zeroValue3
 t4:=Tryz.underlying4
 a4:=Tryz.isAgg4
 z4:=Tryz.sizeOf4
 v4:=Tryz.zeroValue4
 t5:=Tryz.underlying5
 a5:=Tryz.isAgg5
 z5:=Tryz.sizeOf5
 v5:=Tryz.zeroValue5
 t9:=Tryz.underlying9
 a9:=Tryz.isAgg9
 z9:=Tryz.sizeOf9
 v9:=Tryz.zeroValue9
 t21:=Tryz.underlying21
 a21:=Tryz.isAgg21
 z21:=Tryz.sizeOf21
 v21:=Tryz.zeroValue21
 t31:=Tryz.underlying61
 a31:=Tryz.isAgg61
 z31:=Tryz.sizeOf61
 v31:=Tryz.zeroValue61
 t40:=Tryz.underlying248
 a40:=Tryz.isAgg248
 z40:=Tryz.sizeOf248
 v40:=Tryz.zeroValue248
 t46:=Tryz.underlying296
 a46:=Tryz.isAgg296
 z46:=Tryz.sizeOf296
 v46:=Tryz.zeroValue296
 t49:=Tryz.underlying333
 a49:=Tryz.isAgg333
 z49:=Tryz.sizeOf333
 v49:=Tryz.zeroValue333
 t51:=Tryz.underlying34
 a51:=Tryz.isAgg34
 z51:=Tryz.sizeOf34
 v51:=Tryz.zeroValue34
 t119:=Tryz.underlying303
 a119:=Tryz.isAgg303
 z119:=Tryz.sizeOf303
 t141:=Tryz.underlying318
 a141:=Tryz.isAgg318
 z141:=Tryz.sizeOf318
 v141:=Tryz.zeroValue318
 t152:=Tryz.underlying279
 a152:=Tryz.isAgg279
 z152:=Tryz.sizeOf279
 v152:=Tryz.zeroValue279
 t154:=Tryz.underlying281
 a154:=Tryz.isAgg281
 z154:=Tryz.sizeOf281
 v154:=Tryz.zeroValue281
 t193:=Tryz.underlying329
 a193:=Tryz.isAgg329
 z193:=Tryz.sizeOf329
 v193:=Tryz.zeroValue329
 t194:=Tryz.underlying330
 a194:=Tryz.isAgg330
 z194:=Tryz.sizeOf330
 v194:=Tryz.zeroValue330
 t196:=Tryz.underlying332
 a196:=Tryz.isAgg332
 z196:=Tryz.sizeOf332
 v196:=Tryz.zeroValue332
 t198:=Tryz.underlying335
 a198:=Tryz.isAgg335
 z198:=Tryz.sizeOf335
 v198:=Tryz.zeroValue335
 t201:=Tryz.underlying338
 a201:=Tryz.isAgg338
 z201:=Tryz.sizeOf338
 v201:=Tryz.zeroValue338
 t226:=Tryz.underlying344
 a226:=Tryz.isAgg344
 z226:=Tryz.sizeOf344
 v226:=Tryz.zeroValue344
 t227:=Tryz.underlying345
 a227:=Tryz.isAgg345
 z227:=Tryz.sizeOf345
 v227:=Tryz.zeroValue345
 g0:=by kernel_rfl
 g6:=by kernel_rfl }
def Tryz.lays105_ren:Go.Shelf.Ren:=⟨fun|105=>193|212=>219|99=>220|165=>102|166=>59|170=>221|169=>38|263=>233|264=>234|206=>235|240=>101|241=>134|276=>133|277=>171|n=>n,fun|9=>9|3=>3|4=>4|20=>20|0=>0|46=>296|109=>304|5=>5|72=>102|76=>154|51=>34|146=>313|53=>231|148=>320|70=>100|37=>26|75=>153|127=>158|164=>237|80=>112|n=>n,fun|n=>n⟩
def Tryz.lays105:Go.Proofs.Lays.n105 Tryz.prog Tryz.lays105_ren:={
 mixed:=by kernel_rfl
 f99:=Tryz.func220.trans (congrArg some (by kernel_rfl))
 f105:=Tryz.func193.trans (congrArg some (by kernel_rfl))
 f165:=Tryz.func102.trans (congrArg some (by kernel_rfl))
 f166:=Tryz.func59.trans (congrArg some (by kernel_rfl))
 f169:=Tryz.func38.trans (congrArg some (by kernel_rfl))
 f170:=Tryz.func221.trans (congrArg some (by kernel_rfl))
 f206:=Tryz.func235.trans (congrArg some (by kernel_rfl))
 f212:=Tryz.func219.trans (congrArg some (by kernel_rfl))
 f240:=Tryz.func101.trans (congrArg some (by kernel_rfl))
 f241:=Tryz.func134.trans (congrArg some (by kernel_rfl))
 f263:=Tryz.func233.trans (congrArg some (by kernel_rfl))
 f264:=Tryz.func234.trans (congrArg some (by kernel_rfl))
 f276:=Tryz.func133.trans (congrArg some (by kernel_rfl))
 f277:=Tryz.func171.trans (congrArg some (by kernel_rfl))
 t0:=Tryz.underlying0
 a0:=Tryz.isAgg0
 z0:=Tryz.sizeOf0
 v0:=Tryz.zeroValue0
 t3:=Tryz.underlying3
 a3:=Tryz.isAgg3
 z3:=Tryz.sizeOf3
 v3:=Tryz.zeroValue3
 t4:=Tryz.underlying4
 a4:=Tryz.isAgg4
 z4:=Tryz.sizeOf4
 v4:=Tryz.zeroValue4
 t5:=Tryz.underlying5
 a5:=Tryz.isAgg5
 z5:=Tryz.sizeOf5
 v5:=Tryz.zeroValue5
 t9:=Tryz.underlying9
 a9:=Tryz.isAgg9
 z9:=Tryz.sizeOf9
 v9:=Tryz.zeroValue9
 t20:=Tryz.underlying20
 a20:=Tryz.isAgg20
 z20:=Tryz.sizeOf20
 v20:=Tryz.zeroValue20
 t37:=Tryz.underlying26
 a37:=Tryz.isAgg26
 z37:=Tryz.sizeOf26
 v37:=Tryz.zeroValue26
 t46:=Tryz.underlying296
 a46:=Tryz.isAgg296
 z46:=Tryz.sizeOf296
 v46:=Tryz.zeroValue296
 t51:=Tryz.underlying34
 a51:=Tryz.isAgg34
 z51:=Tryz.sizeOf34
 v51:=Tryz.zeroValue34
 t53:=Tryz.underlying231
 a53:=Tryz.isAgg231
 z53:=Tryz.sizeOf231
 v53:=Tryz.zeroValue231
 t70:=Tryz.underlying100
 a70:=Tryz.isAgg100
 z70:=Tryz.sizeOf100
 v70:=Tryz.zeroValue100
 t72:=Tryz.underlying102
 a72:=Tryz.isAgg102
 z72:=Tryz.sizeOf102
 v72:=Tryz.zeroValue102
 t75:=Tryz.underlying153
 a75:=Tryz.isAgg153
 z75:=Tryz.sizeOf153
 v75:=Tryz.zeroValue153
 t76:=Tryz.underlying154
 a76:=Tryz.isAgg154
 z76:=Tryz.sizeOf154
 v76:=Tryz.zeroValue154
 t109:=Tryz.underlying304
 a109:=Tryz.isAgg304
 z109:=Tryz.sizeOf304
 v109:=Tryz.zeroValue304
 t127:=Tryz.underlying158
 a127:=Tryz.isAgg158
 z127:=Tryz.sizeOf158
 v127:=Tryz.zeroValue158
 t146:=Tryz.underlying313
 a146:=Tryz.isAgg313
 z146:=Tryz.sizeOf313
 v146:=Tryz.zeroValue313
 t148:=Tryz.underlying320
 a148:=Tryz.isAgg320
 z148:=Tryz.sizeOf320
 v148:=Tryz.zeroValue320
 t164:=Tryz.underlying237
 a164:=Tryz.isAgg237
 z164:=Tryz.sizeOf237
 v164:=Tryz.zeroValue237 }
def Tryz.Builder_Extra_105:Builder.Extra Tryz.prog Tryz.lays105_ren:={
 sizeBuilder:=by kernel_rfl
 liesBuilder:=by kernel_rfl
 t5:=Tryz.underlying5
 a5:=Tryz.isAgg5
 z5:=Tryz.sizeOf5
 v5:=Tryz.zeroValue5
 infoByte:=by kernel_rfl
 cellsByte:=by kernel_rfl
 sizeByte:=by kernel_rfl
 neB5:=by decide }
def Tryz.lays229_ren:Go.Shelf.Ren:=⟨fun|229=>145|n=>n,fun|9=>9|40=>248|31=>61|152=>279|3=>3|0=>0|4=>4|21=>21|154=>281|n=>n,fun|n=>n⟩
def Tryz.lays229:Go.Proofs.Lays.n229 Tryz.prog Tryz.lays229_ren:={
 mixed:=by kernel_rfl
 f229:=Tryz.func145.trans (congrArg some (by kernel_rfl))
 t0:=Tryz.underlying0
 a0:=Tryz.isAgg0
 z0:=Tryz.sizeOf0
 v0:=Tryz.zeroValue0
 t3:=Tryz.underlying3
 a3:=Tryz.isAgg3
 z3:=Tryz.sizeOf3
 v3:=Tryz.zeroValue3
 t4:=Tryz.underlying4
 a4:=Tryz.isAgg4
 z4:=Tryz.sizeOf4
 v4:=Tryz.zeroValue4
 t9:=Tryz.underlying9
 a9:=Tryz.isAgg9
 z9:=Tryz.sizeOf9
 v9:=Tryz.zeroValue9
 t21:=Tryz.underlying21
 a21:=Tryz.isAgg21
 z21:=Tryz.sizeOf21
 v21:=Tryz.zeroValue21
 t31:=Tryz.underlying61
 a31:=Tryz.isAgg61
 z31:=Tryz.sizeOf61
 v31:=Tryz.zeroValue61
 t40:=Tryz.underlying248
 a40:=Tryz.isAgg248
 z40:=Tryz.sizeOf248
 v40:=Tryz.zeroValue248
 t152:=Tryz.underlying279
 a152:=Tryz.isAgg279
 z152:=Tryz.sizeOf279
 v152:=Tryz.zeroValue279
 t154:=Tryz.underlying281
 a154:=Tryz.isAgg281
 z154:=Tryz.sizeOf281
 v154:=Tryz.zeroValue281 }
end Go.Proofs
namespace Go.FL
open Go Go.RowKit
variable{α:Type}{p A B:Prop}{s w s' w':World}{α0 α1 α2 α3 α4 α5:Type _}{a:Int}{b k i n d0 d1 d2 d3 t' off e m j f fo:Nat}{c x y:Operand}{u v v0 v1 v2 v3 v4:Value}{l:List UInt8}{vs ys zs:List Value}{ik ik':IntKind}{os:List Nat}{rs:List ResultVar}{lo hi:Option Value}
def cQ9{α:Type _}{a:α}{x y:List α}:a::x++y=a::(x++y):=rfl
def nQ9{α:Type _}{x:List α}:[]++x=x:=rfl
def _root_.Go.V(h:p:=by kernel_rfl):p:=h
def _root_.Go.X1(a:A)(h:A→B:=by intro h;refine qaq 6 V<|qd0 Z Tt 2 (_::_::_::_::_::_::_::_::_::_::_::_) Z Z Z Z Z Z Z Z Z (sM (qkG (sbE _)))<|H3 ?_;refine qaq 10 V ?_;refine qd0 Z Tt 2 (_::_::_::_::_::_::_::_::_::_::_::_) Z Z Z Z Z Z Z Z Z (sM (qkG (sbE _)))<|qah V<|Zb ?_;exact h):B:=h a
def _root_.Go.X2(a:A)(h:A→B:=by intro h;refine qae (qak Z Z Z (gc1.le (Lr D)) Z) Z<|qae (qaQ Z Z Z Z Z Z h0n) Z<|qae (qak Z Z Z (hcE.le (Lr D)) Z) Z<|Zqm Z Z ?_;exact h):B:=h a
def _root_.Go.X3(a:A)(h:A→B:=by intro h;refine Jb Z Tt Z Z Z (tsr D d _ _ d p Ag _ ng cg nf cf (hGl.le (e20.t h21|>.t h23|>.t h24)) (hFn.le (e20.t h21|>.t h23|>.t h24)) x B1 B2 B3 m1 d1 m2 d2 m3 d3 (hpx.le e24) (hlx.le e24) (hOK.sz x (List.mem_of_getElem? hx)) hOK.pok B3 m3 d3 x.body (hbx.le e24) (hOK.st (List.mem_of_getElem? hx)).1 (hOK.st (List.mem_of_getElem? hx)).2) ?_;exact h):B:=h a
def _root_.Go.X4(a:A)(h:A→B:=by intro h;refine H2 ?_;refine qaq 12 V<|Wu Z Tt 2 [_,_,_,_,_,_] Y9 (sM (qgA (sb0 _)))<|qah V<|G3 ?_;exact h):B:=h a
def _root_.Go.X5(a:A)(h:A→B:=by intro h;refine G5 ?_;refine qeV 2 (_::_::_::_::_::_::_::_::_::_::_::_) Z Z Z Z Z Z Z Z Z<|G3 ?_;exact h):B:=h a
def _root_.Go.X6(a:A)(h:A→B:=by intro h;refine qaq 2 V<|Wu Z Tt 1 [_,_] Y9 (sM (qgA (sbE _)))<|qah V<|G3 ?_;exact h):B:=h a
def _root_.Go.X7(a:A)(h:A→B:=by intro h;refine qaq 10 V<|Wu Z Tt 1 [_] Y9 (sM (sbN (qgn (sbE _))))<|qaq 11 V<|Wu Z Tt 0 [_] Y9 (sM (sbN (qgn (sbE _))))<|qah V ?_;exact h):B:=h a
def _root_.Go.X8(a:A)(h:A→B:=by intro h;refine qaq 10 V<|Wu Z Tt 0 [_] Y9 (sM (sbN (qgn (sbE _))))<|qaq 11 V<|Wu Z Tt 1 [_] Y9 (sM (sbN (qgn (sbE _))))<|qah V ?_;exact h):B:=h a
def _root_.Go.X9(a:A)(h:A→B:=by intro h;refine Ys<|Yr<|Yqa Z Z<|Yn<|Yt<|Yo<|Yc<|Yu<|Yu<|Yc<|Yu<|?_;exact h):B:=h a
def _root_.Go.X10(a:A)(h:A→B:=by intro h;refine G3 ?_;refine qcN (first:=[]) (captured:=[_,_]) Z Z Z (qgh D _ _ _ _ _ _ _ _ _ _ _ _ _ _ _ _ _ _ _ hsm _ a ba oa _ _ (hca.le e5) ha.tgt) ?_;exact h):B:=h a
def _root_.Go.X11(a:A)(h:A→B:=by intro h;refine Sr<|qae (qaj 2 [_,_,_,_,_,_] Z Z Z Z Z) Z<|G2 ?_;exact h):B:=h a
def _root_.Go.X12(a:A)(h:A→B:=by intro h;refine Yf Z Z Z Z<|Yf Z Z Z Z<|Yf Z Z Z Z<|Yf Z Z Z Z<|Yf Z Z Z Z<|Yf Z Z Z Z<|Yf Z Z Z Z<|Yf Z Z Z Z<|YqT Z Z Z<|Yn<|Yt<|Yy Z<|?_;exact h):B:=h a
def _root_.Go.X13(a:A)(h:A→B:=by intro h;refine qae (qai [] [_,_] Z Z Z Z Z Z) Z<|Zqa Z Z<|Wt 1 [_,_] Y9<|G3 ?_;exact h):B:=h a
def _root_.Go.X14(a:A)(h:A→B:=by intro h;refine G4 ?_;refine Wt 0 [_,_,_,_,_] Y9<|At Z Z<|Sr<|qae (qaj 0 [_,_,_,_,_] Z Z Z Z Z) Z<|Zqm Z Z<|Wt 1 [_,_,_,_,_] Y9<|G4 ?_;exact h):B:=h a
def _root_.Go.X15(a:A)(h:A→B:=by intro h;refine qbH Z Tt (Wd 1 Y5) Z<|qaq 10 V<|qbH Z Tt (Wd 1 Y5) Z<|H1 ?_;exact h):B:=h a
def _root_.Go.X16(a:A)(h:A→B:=by intro h;refine Wt 0 [_,_,_,_,_,_,_,_,_,_,_,_] Y9<|G8 ?_;exact h):B:=h a
def _root_.Go.X17(a:A)(h:A→B:=by intro h;refine G5 ?_;refine Jc Z Z Z (AC.mid [_,_] [_] _ (qfs D _ _ _ _ _ _ _ _ _ _ _ _ _ _ _ _ _ _ _ hsm _ hux hnc)) ?_;exact h):B:=h a
def _root_.Go.X18(a:A)(h:A→B:=by intro h;refine G12 ?_;refine Zu ?_;exact h):B:=h a
def _root_.Go.X19(a:A)(h:A→B:=by intro h;refine Zqm Z Z<|qae (qai [] [_,_] Z Z Z Z Z Z) Z<|Wt 2 [_,_,_,_,_,_,_,_,_,_] Y9<|Zqa Z Z<|Wt 1 [_,_] Y9<|G3 ?_;exact h):B:=h a
def _root_.Go.X20(a:A)(h:A→B:=by intro h;refine Sr<|qae (qbj Z) Z<|G6 ?_;exact h):B:=h a
def _root_.Go.X21(a:A)(h:A→B:=by intro h;refine qae (qaj 0 [_,_] Z Z Z Z Z) Z<|G5 ?_;exact h):B:=h a
def _root_.Go.X22(a:A)(h:A→B:=by intro h;refine G5 ?_;refine qae (qak Z Z Z (hca.le e5) Z) Z<|G2 ?_;exact h):B:=h a
def _root_.Go.X23(a:A)(h:A→B:=by intro h;refine Wt 4 [_,_,_,_,_,_,_,_,_,_] Y9<|Wt 3 [_,_] Y9<|G3 ?_;exact h):B:=h a
def _root_.Go.X24(a:A)(h:A→B:=by intro h;refine za 2 Z (qaC (v':=.bool true) (qdD Z Z) (bT g4)) Z<|H5 ?_;refine zg 8 Z ⟨_,Z,Z⟩ (Wd 4 Y5) Z<|H2 ?_;exact h):B:=h a
def _root_.Go.X25(a:A)(h:A→B:=by intro h;refine qbH Z Tt (Wd 0 Y5) Z ?_;exact h):B:=h a
def _root_.Go.Q1(h:p:=by exact congrArg some (by kernel_rfl)):p:=h
def _root_.Go.Q2(h:p:=by first|omega|(simp only [qag,qal,List.length_append,List.length_nil];omega)):p:=h
def _root_.Go.Q3(h:p:=by intro x hx;exact qau hx):p:=h
def _root_.Go.Q4(h:p:=by simpa using h):p:=h
def _root_.Go.Q5(h:p:=by rw [w64 O O];omega):p:=h
def _root_.Go.Q6(h:p:=by simpa using h1):p:=h
def _root_.Go.Q7(h:p:=by simp;omega):p:=h
def _root_.Go.Q8(h:p:=by rw [w64 O O];simp):p:=h
def _root_.Go.Q9(h:p:=by simp only [List.length_cons,List.length_nil];omega):p:=h
def _root_.Go.Q10(h:p:=by simp [ti34];omega):p:=h
def _root_.Go.Q11(h:p:=by simpa using hb):p:=h
def _root_.Go.Q12(h:p:=by simpa using h2):p:=h
def _root_.Go.Q13(h:p:=by (try simp only [List.length_append,List.length_cons,List.length_nil,qa4]);omega):p:=h
def _root_.Go.Q14(h:p:=by have:=A.hi;omega):p:=h
def _root_.Go.Q15(h:p:=by first|rfl|(simp only [List.length_append,List.length_cons,List.length_nil];refine congrArg some (congrArg (Value.int .i64) ?_);omega)):p:=h
def _root_.Go.Q16(h:p:=by simp only [Stm.kind];omega):p:=h
def _root_.Go.Q17(h:p:=by rw [hkk];rfl):p:=h
def _root_.Go.Q18(h:p:=by simpa using hc):p:=h
def _root_.Go.Q19(h:p:=by rw [hc];omega):p:=h
def _root_.Go.Q20(h:p:=by first|exact ⟨qcO (qjj hg2 o2 (qjb hxk)) o3 (qjb hxk),qeO ew1 hsp hhas,rfl,qjI ew1 hsp hhas hnm,rfl⟩|exact ⟨qcO hg2 o3 (qjb hxk),qeO ew1 hsp hhas,rfl,qfj hnm,rfl⟩|exact ⟨hg2,qoL ew1 hsp hhas,rfl,qfi hhas,rfl⟩):p:=h
def _root_.Go.Q21(h:p:=by first|exact ⟨qn8 (ck:=ck1) hg0 o1 (qjb O) hrep,Z,Z,(if_neg hxl).symm,fun _=>hrep⟩|exact ⟨hg0,Z,Z,(if_pos hxl).symm,fun h=>absurd hxl h⟩):p:=h
def _root_.Go.Q22(h:p:=by rintro _ _ _ _ ⟨rfl,rfl⟩;exact ⟨rfl,rfl⟩):p:=h
def _root_.Go.Q23(h:p:=by first|exact List.mem_cons_of_mem _ (List.mem_of_getElem? hw2)|exact List.mem_of_getElem? hw2):p:=h
def _root_.Go.Q24(h:p:=by first|exact ⟨qcO hg0 o1 hyc,by simp [hown],rfl,rfl,rfl⟩|exact ⟨hg0,by simp [hown],rfl,rfl,rfl⟩):p:=h
def _root_.Go.Q25(h:p:=by first|exact fun h=>absurd h.1 (by rw [show (qcH t.ins xo).isSome=true by assumption];decide)|exact ⟨fun h=>h.2,fun h=>⟨by assumption,h⟩⟩):p:=h
def _root_.Go.Q26(h:p:=by first|exact fun h=>absurd h.1 As|exact ⟨fun h=>h.2,fun h=>⟨by assumption,h⟩⟩):p:=h
def _root_.Go.Q27(h:p:=by simp only [List.length_append,List.length_cons,List.length_nil,qa4];omega):p:=h
def _root_.Go.Q28(h:p:=by have e1:=hcn _ _ _ hst;have e2:=qdh hcn hr2;have e3:=qdh hcn hr3;omega):p:=h
def _root_.Go.Q29(h:p:=by simp only [List.length_append,List.length_cons,List.length_nil] at hcv;omega):p:=h
def _root_.Go.Tt:True:=True.intro
def _root_.Go.Oz(h:p:=by simp only;omega):p:=h
def _root_.Go.Dc(h:p:=by decide):p:=h
def _root_.Go.Pr{α:Type _}{l:List α}:l.Perm l:=List.Perm.refl l
def _root_.Go.Mc{α:Type _}{a:α}{l:List α}:a∈a::l:=List.mem_cons_self ..
def _root_.Go.O(h:p:=by omega):p:=h
def _root_.Go.As(h:p:=by assumption):p:=h
def _root_.Go.Og(h:p:=by first|omega|grind):p:=h
def _root_.Go.Ut(h:p:=by (try simp only [List.length_append,List.length_cons,List.length_nil]);omega):p:=h
def _root_.Go.Uo(h:p:=by simp only [List.length_append,List.length_cons,List.length_nil];omega):p:=h
abbrev Hl:=List (Nat×Obj)
variable{L:Hl}{R R':Value→Hl→World→Prop}
def dum(D:Nat):Obj:=.mapIter none D #[] 0
def qbq(w:World)(b:Nat)(o:Obj):World:={ w with heap:=w.heap.setIfInBounds b o }
def fill:Hl→World→World
 | [],s=>s
 | x::L,s=>qbq (fill L s) x.1 x.2
structure OKL(D:Nat)(L:Hl)(s:World):Prop where
 nd:(L.map (·.1)).Nodup
 dm:∀ x∈L,s.heap[x.1]?=some (dum D)
structure Le(D:Nat)(s s':World):Prop where
 os:s'.os=s.os
 tape:s'.tape=s.tape
 output:s'.output=s.output
 size:s.heap.size≤s'.heap.size
 block:∀ k,k < s.heap.size→s.heap[k]?=some (dum D)∨s'.heap[k]?=s.heap[k]?
variable{D:Nat}
def Le.refl(s:World):Le D s s:=⟨rfl,rfl,rfl,Nat.le_refl _,fun _ _=>.inr rfl⟩
def Lr(D:Nat):Le D s s:=Le.refl s
def Z{α:Sort _}{a:α}:a=a:=rfl
def Y4{a0:α0}{a1:α1}{a2:α2}{a3:α3}:a0=a0∧a1=a1∧a2=a2∧a3=a3:=⟨rfl,rfl,rfl,rfl⟩
def Y5{a0:α0}{a1:α1}{a2:α2}{a3:α3}{a4:α4}:a0=a0∧a1=a1∧a2=a2∧a3=a3∧a4=a4:=⟨rfl,rfl,rfl,rfl,rfl⟩
def Y6{a0:α0}{a1:α1}{a2:α2}{a3:α3}{a4:α4}{a5:α5}:a0=a0∧a1=a1∧a2=a2∧a3=a3∧a4=a4∧a5=a5:=⟨rfl,rfl,rfl,rfl,rfl,rfl⟩
def Y9{a0:α0}{a1:α1}{a2:α2}{a3:α3}{a4:α4}{a5:α5}{α6:Type _}{a6:α6}{α7:Type _}{a7:α7}{α8:Type _}{a8:α8}:a0=a0∧a1=a1∧a2=a2∧a3=a3∧a4=a4∧a5=a5∧a6=a6∧a7=a7∧a8=a8:=⟨rfl,rfl,rfl,rfl,rfl,rfl,rfl,rfl,rfl⟩
def Le.trans{a b c:World}(h:Le D a b)(k:Le D b c):Le D a c:=
  ⟨k.os.trans h.os,k.tape.trans h.tape,k.output.trans h.output,Nat.le_trans h.size k.size,fun i hi=>by
    rcases h.block i hi with h1|h1
    · exact .inl h1
    · rcases k.block i (Nat.lt_of_lt_of_le hi h.size) with h2|h2
      · exact .inl (h1▸h2)
      · exact .inr (h2.trans h1)⟩
def Le.t{D:Nat}{a b c:World}(h:Le D a b)(k:Le D b c):Le D a c:=Le.trans h k
def qcP{a:Addr}(h:w.cell? a=some u):a.block < w.heap.size:=World.block_lt_of_cell? w a h
def qf6{a:Addr}(h:w.cell? a=some u):w.heap[a.block]?≠some (dum D):=by
 intro e;simp [World.cell?,e,dum] at h
def Le.cell(h:Le D s s'){a:Addr}(hc:s.cell? a=some u):s'.cell? a=some u:=by
 rcases h.block a.block (qcP hc) with h1|h1
 · exact absurd h1 (qf6 hc)
 · rw [← hc];exact World.cell?_of_block h1
@[simp] theorem setBlk_size (w:World) (b:Nat) (o:Obj):(qbq w b o).heap.size=w.heap.size:=by simp [qbq]
def qdk(o:Obj)(h:b < w.heap.size):(qbq w b o).heap[b]?=some o:=by
 simp [qbq,h]
def qbT(o:Obj)(h:b≠k):(qbq w b o).heap[k]?=w.heap[k]?:=by grind [qbq]
def qaF(L:Hl)(s:World):(fill L s).heap.size=s.heap.size:=by
 induction L with
 | nil=>rfl
 | cons x L ih=>simp [fill,ih]
def qdd(L:Hl)(s:World):(fill L s).os=s.os:=by induction L with
 | nil=>rfl
 | cons x L ih=>exact ih
def qbR(L:Hl)(s:World):(fill L s).tape=s.tape:=by induction L with
 | nil=>rfl
 | cons x L ih=>exact ih
def qc5(L:Hl)(s:World):(fill L s).drawn=s.drawn:=by induction L with
 | nil=>rfl
 | cons x L ih=>exact ih
def qbv(L:Hl)(s:World):(fill L s).output=s.output:=by induction L with
 | nil=>rfl
 | cons x L ih=>exact ih
def qbk(h:k ∉ L.map (·.1)):(fill L s).heap[k]?=s.heap[k]?:=by
 induction L with
 | nil=>rfl
 | cons x L ih=>
  simp only [List.map_cons,List.mem_cons,not_or] at h;rw [fill,qbT _ (fun e=>h.1 e.symm),ih h.2]
def OKL.lt(h:OKL D L s){x:Nat×Obj}(hx:x∈L):x.1 < s.heap.size:=by
 have:=h.dm x hx;rcases Nat.lt_or_ge x.1 s.heap.size with h1|h1
 · exact h1
 · rw [Array.getElem?_eq_none h1] at this;cases this
def OKL.tail{x:Nat×Obj}(h:OKL D (x::L) s):OKL D L s:=
 ⟨by have:=h.nd;simp only [List.map_cons,List.nodup_cons] at this;exact this.2,fun y hy=>h.dm y (List.mem_cons_of_mem _ hy)⟩
def qa3(h:OKL D L s){o:Obj}(hx:(b,o)∈L):(fill L s).heap[b]?=some o:=by
  induction L with
  | nil=>cases hx
  | cons x L ih=>
    have hnd:=h.nd;simp only [List.map_cons,List.nodup_cons] at hnd;rcases List.mem_cons.1 hx with rfl|hx
    · rw [fill];exact qdk _ (by rw [qaF];exact h.lt Mc)
    · rw [fill,qbT]
      · exact ih h.tail hx
      · intro e;exact hnd.1 (by rw [e];exact List.mem_map.2 ⟨_,hx,rfl⟩)
def qiL(h:OKL D L s)(hk:s.heap[k]?≠some (dum D)):k ∉ L.map (·.1):=by
 intro hm;obtain ⟨x,hx,rfl⟩:=List.mem_map.1 hm;exact hk (h.dm x hx)
def qec(h:OKL D L s){a:Addr}(hc:s.cell? a=some u):(fill L s).cell? a=some u:=by
 rw [← hc];exact World.cell?_of_block (qbk (qiL h (qf6 hc)))
def qe2(h:OKL D L s):Le D s (fill L s):=
 ⟨qdd L s,qbR L s,qbv L s,by rw [qaF];exact Nat.le_refl _,fun k hk=>by
  by_cases hd:s.heap[k]?=some (dum D)
  · exact .inl hd
  · exact .inr (qbk (qiL h hd))⟩
def qdA(h1:w.heap=w'.heap)(h2:w.tape=w'.tape)(h3:w.drawn=w'.drawn)(h4:w.os=w'.os)(h5:w.output=w'.output):w=w':=by
 cases w;cases w';simp_all
def qdv{a b:Array Obj}(h:∀ k:Nat,a[k]?=b[k]?):a=b:=Array.ext_getElem? h
def qe1(A B:Hl)(s:World):fill (A++B) s=fill A (fill B s):=by
 induction A with
 | nil=>rfl
 | cons x A ih=>simp [fill,ih]
def qe9{c:Nat}(o p:Obj)(h:b≠c):qbq (qbq w b o) c p=qbq (qbq w c p) b o:=by
 unfold qbq;simp [Array.setIfInBounds_comm _ _ h]
def qk5{o:Obj}(h:b ∉ L.map (·.1)):fill L (qbq s b o)=qbq (fill L s) b o:=by
 induction L with
 | nil=>rfl
 | cons x L ih=>
  simp only [List.map_cons,List.mem_cons,not_or] at h;rw [fill,ih h.2,fill,qe9 _ _ h.1]
def qoU{A B:Hl}(h:((A++B).map (·.1)).Nodup):fill A (fill B s)=fill B (fill A s):=by
 induction A with
 | nil=>rfl
 | cons x A ih=>
  simp only [List.cons_append,List.map_cons,List.nodup_cons] at h;rw [fill,ih h.2,fill,qk5];intro hb;exact h.1 (by rw [List.map_append];exact List.mem_append_right _ hb)
def OKL.left{A B:Hl}(h:OKL D (A++B) s):OKL D A s:=
 ⟨by have:=h.nd;rw [List.map_append] at this;exact (List.nodup_append.1 this).1,fun x hx=>h.dm x (List.mem_append_left _ hx)⟩
def OKL.right{A B:Hl}(h:OKL D (A++B) s):OKL D B s:=
 ⟨by have:=h.nd;rw [List.map_append] at this;exact (List.nodup_append.1 this).2.1,fun x hx=>h.dm x (List.mem_append_right _ hx)⟩
def qbp{A B:Hl}(h:OKL D (A++B) s):fill (A++B) s=fill B (fill A s)∧OKL D B (fill A s)∧Le D s (fill A s):=by
  refine ⟨by rw [qe1,qoU h.nd],⟨h.right.nd,fun x hx=>?_⟩,qe2 h.left⟩;rw [qbk]
  · exact h.right.dm x hx
  · intro hm
    have:=h.nd;rw [List.map_append] at this;exact (List.nodup_append.1 this).2.2 _ hm _ (List.mem_map.2 ⟨x,hx,rfl⟩) rfl
def qcF(D:Nat):Hl→World→World
 | [],w=>w
 | x::L,w=>qbq (qcF D L w) x.1 (dum D)
def qfL(L:Hl)(w:World):(qcF D L w).heap.size=w.heap.size:=by
 induction L with
 | nil=>rfl
 | cons x L ih=>simp [qcF,ih]
def qdb(h:k ∉ L.map (·.1)):(qcF D L w).heap[k]?=w.heap[k]?:=by
 induction L with
 | nil=>rfl
 | cons x L ih=>
  simp only [List.map_cons,List.mem_cons,not_or] at h;rw [qcF,qbT _ (fun e=>h.1 e.symm),ih h.2]
def qjv(hlt:∀ x∈L,x.1 < w.heap.size)(h:k∈L.map (·.1)):(qcF D L w).heap[k]?=some (dum D):=by
  induction L with
  | nil=>cases h
  | cons x L ih=>
    by_cases hk:x.1=k
    · subst hk;rw [qcF];exact qdk _ (by rw [qfL];exact hlt x Mc)
    · rw [qcF,qbT _ hk]
      simp only [List.map_cons,List.mem_cons] at h;exact ih (fun y hy=>hlt y (List.mem_cons_of_mem _ hy)) (h.resolve_left (fun e=>hk e.symm))
def qgu(L:Hl)(s:World):(qcF D L s).os=s.os:=by induction L with
 | nil=>rfl
 | cons x L ih=>exact ih
def qev(L:Hl)(s:World):(qcF D L s).tape=s.tape:=by induction L with
 | nil=>rfl
 | cons x L ih=>exact ih
def qgO(L:Hl)(s:World):(qcF D L s).drawn=s.drawn:=by induction L with
 | nil=>rfl
 | cons x L ih=>exact ih
def qds(L:Hl)(s:World):(qcF D L s).output=s.output:=by induction L with
 | nil=>rfl
 | cons x L ih=>exact ih
def qC4(h:OKL D L s)(hb:Below (fill L s).heap.size (fill L s) w'):
    w'=fill L (qcF D L w')∧OKL D L (qcF D L w')∧Le D s (qcF D L w'):=by
  have hsz:s.heap.size≤w'.heap.size:=by have:=hb.size;rwa [qaF] at this
  have hlt:∀ x∈L,x.1 < w'.heap.size:=fun x hx=>Nat.lt_of_lt_of_le (h.lt hx) hsz;have hok:OKL D L (qcF D L w'):=⟨h.nd,fun x hx=>qjv hlt (List.mem_map.2 ⟨x,hx,rfl⟩)⟩;refine ⟨qdA (qdv fun k=>?_) ?_ ?_ ?_ ?_,hok,⟨?_,?_,?_,by rw [qfL];exact hsz,fun k hk=>?_⟩⟩
  · by_cases hk:k∈L.map (·.1)
    · obtain ⟨x,hx,rfl⟩:=List.mem_map.1 hk
      rw [qa3 hok hx,hb.block x.1 (by rw [qaF];exact h.lt hx),qa3 h hx]
    · rw [qbk hk,qdb hk]
  · rw [qbR,qev]
  · rw [qc5,qgO]
  · rw [qdd,qgu]
  · rw [qbv,qds]
  · rw [qgu,hb.os,qdd]
  · rw [qev,hb.tape,qbR]
  · rw [qds,hb.output,qbv]
  · by_cases hd:s.heap[k]?=some (dum D)
    · exact .inl hd
    · have hk':=qiL h hd
      exact .inr (by rw [qdb hk',hb.block k (by rw [qaF];exact hk),qbk hk'])
def qaD(h:OKL D L s)(o:Obj):
    (fill L s).alloc o=fill ((s.heap.size,o)::L) (s.alloc (dum D))∧OKL D ((s.heap.size,o)::L) (s.alloc (dum D))∧Le D s (s.alloc (dum D)):=by
  have hold:∀ k,k < s.heap.size→(s.alloc (dum D)).heap[k]?=s.heap[k]?:=fun k hk=>Below.heap_alloc s _ k hk;have hok:OKL D ((s.heap.size,o)::L) (s.alloc (dum D)):=by
    refine ⟨?_,?_⟩
    · simp only [List.map_cons,List.nodup_cons]
      refine ⟨fun hm=>?_,h.nd⟩;obtain ⟨x,hx,he⟩:=List.mem_map.1 hm;have:=h.lt hx;omega
    · intro x hx
      rcases List.mem_cons.1 hx with rfl|hx
      · exact heap_alloc_new s _
      · rw [hold _ (h.lt hx)];exact h.dm x hx
  refine ⟨qdA (qdv fun k=>?_) ?_ ?_ ?_ ?_,hok,⟨Z,Z,Z,by simp,fun k hk=>.inr (hold k hk)⟩⟩
  · rcases Nat.lt_trichotomy k s.heap.size with hk|rfl|hk
    · rw [Below.heap_alloc _ _ _ (by rw [qaF];exact hk)]
      by_cases hm:k∈L.map (·.1)
      · obtain ⟨x,hx,rfl⟩:=List.mem_map.1 hm
        rw [qa3 h hx,qa3 hok (List.mem_cons_of_mem _ hx)]
      · rw [qbk hm,qbk (by simp only [List.map_cons,List.mem_cons,not_or];exact ⟨by omega,hm⟩),hold k hk]
    · rw [qa3 hok Mc,← qaF L s];exact heap_alloc_new _ _
    · rw [Array.getElem?_eq_none (by simp [qaF];omega),Array.getElem?_eq_none (by rw [qaF];simp;omega)]
  · show (fill L s).tape=_;rw [qbR,qbR];rfl
  · show (fill L s).drawn=_;rw [qc5,qc5];rfl
  · show (fill L s).os=_;rw [qdd,qdd];rfl
  · show (fill L s).output=_;rw [qbv,qbv];rfl
def qch(L:Hl)(i:Nat)(o:Obj):Hl:=match L,i with
 | [],_=>[]
 | x::L,0=>(x.1,o)::L
 | x::L,i+1=>x::qch L i o
def qko(L:Hl)(i:Nat)(o:Obj):(qch L i o).map (·.1)=L.map (·.1):=by
 induction L generalizing i with
 | nil=>cases i<;>rfl
 | cons x L ih=>cases i with
  | zero=>rfl
  | succ i=>simp [qch,ih]
def qel(h:OKL D L s)(i:Nat)(o:Obj):OKL D (qch L i o) s:=by
 refine ⟨by rw [qko];exact h.nd,fun x hx=>?_⟩;have:x.1∈(qch L i o).map (·.1):=List.mem_map.2 ⟨x,hx,rfl⟩;rw [qko] at this;obtain ⟨y,hy,he⟩:=List.mem_map.1 this;rw [← he];exact h.dm y hy
def qiR(w:World)(b:Nat)(o p:Obj):qbq (qbq w b o) b p=qbq w b p:=by
 unfold qbq;simp
def qcG(h:OKL D L s){p:Obj}(hi:L[i]?=some (b,p))(o:Obj):fill (qch L i o) s=qbq (fill L s) b o:=by
 induction L generalizing i with
 | nil=>cases hi
 | cons x L ih=>
  cases i with
  | zero=>
   simp only [List.getElem?_cons_zero,Option.some.injEq] at hi;subst hi;simp only [qch,fill];rw [qiR]
  | succ i=>
   simp only [List.getElem?_cons_succ] at hi;have hnd:=h.nd;simp only [List.map_cons,List.nodup_cons] at hnd;simp only [qch,fill];rw [ih h.tail hi,qe9];intro e;exact hnd.1 (by rw [← e];exact List.mem_map.2 ⟨_,List.mem_of_getElem? hi,rfl⟩)
def qjG(L:Hl)(s:World):(fill L s).drew=fill L s.drew:=by
 induction L with
 | nil=>rfl
 | cons x L ih=>show qbq (fill L s).drew x.1 x.2=qbq (fill L s.drew) x.1 x.2;rw [ih]
def Le.drew(s:World):Le D s s.drew:=⟨rfl,rfl,rfl,Nat.le_refl _,fun _ _=>.inr rfl⟩
def OKL.drew(h:OKL D L s):OKL D L s.drew:=⟨h.nd,h.dm⟩
abbrev Fr:=List (Nat×Value)
def qaS:Fr→Nat→Option Value
 | [],_=>none
 | (d,v)::r,t=>bif Nat.beq d t then some v else qaS r t
def lk(fr:Fr):Operand→Option Value
 | .tmp t=>qaS fr t
 | .const v=>some v
 | .global g=>some (.pointer (some ⟨g,0,none⟩))
 | .func f=>some (.func (.func f) #[] #[])
structure FrRel(n:Nat)(a:Act)(fr:Fr):Prop where
 size:a.tmps.size=n
 defers:a.defers=[]
 slot:∀ t,t < n→∀ v,qaS fr t=some v→a.tmps[t]?=some v
 top:∀ t v,qaS fr t=some v→t < n
def FrRel.ev{a:Act}{fr:Fr}(h:FrRel n a fr)(hx:lk fr x=some v):a.eval x=v:=by
 cases x with
 | tmp t=>
  have:=h.slot t (h.top t v hx) v hx;simp [Act.eval,this]
 | const u=>simpa [lk,Act.eval] using hx
 | global g=>simpa [lk,Act.eval] using hx
 | func f=>simpa [lk,Act.eval] using hx
def qa9(d:Nat)(v:Value)(fr:Fr)(t:Nat):qaS ((d,v)::fr) t=if d=t then some v else qaS fr t:=by
  simp only [qaS,cond_eq_ite];by_cases h:d=t
  · subst h;simp
  · have:Nat.beq d t=false:=by
      cases hb:Nat.beq d t with
      | false=>rfl
      | true=>exact absurd (Nat.eq_of_beq_eq_true hb) h
    simp [h,this]
def FrRel.put{a:Act}{fr:Fr}(h:FrRel n a fr){d:Nat}(hd:Nat.blt d n=true)(v:Value):FrRel n (a.put (some d) v) ((d,v)::fr):=by
  have hd':d < n:=Nat.le_of_ble_eq_true hd;refine ⟨by simp [Act.put,h.size],by simp [Act.put,h.defers],fun t ht u hu=>?_,fun t u hu=>?_⟩
  · rw [qa9] at hu
    by_cases he:d=t
    · subst he;simp at hu;subst hu;simp [Act.put,h.size,hd']
    · simp only [he,if_false] at hu
      simp only [Act.put,Array.getElem?_setIfInBounds_ne he];exact h.slot t ht u hu
  · rw [qa9] at hu
    by_cases he:d=t
    · subst he;exact hd'
    · simp only [he,if_false] at hu;exact h.top t u hu
inductive TK where
 | sc
 | sl (elem:Nat)
 | st (offs:List Nat)
 | ar (len elem:Nat)
def qeg:TK→Bool
 | .sc=>true
 | .sl _=>true
 | _=>false
structure TI where
 kind:TK
 desc:TypeDesc
 size:Nat
 bytes:Nat
 zeros:List Value
 fsz:List Nat:=[]
variable{ti te:TI}
def TI.zero(x:TI):Value:=match x.kind with
 | .st _=>.agg x.zeros.toArray
 | .ar _ _=>.agg x.zeros.toArray
 | _=>x.zeros.headD undef
abbrev qaM:=List (Nat×TI)
def TK.fits:TK→TypeDesc→Prop
 | .sc,.struct _=>False
 | .sc,.array _ _=>False
 | .sc,_=>True
 | .sl e,d=>d=.slice e
 | .st offs,.struct fs=>fs.toList.map (·.offset)=offs
 | .st _,_=>False
 | .ar n e,d=>d=.array n e
def qoS(P:Program):TypeDesc→Bool
 | .struct fs=>fs.toList.all (fun f=>decide (0 < P.cellsOf f.type))
 | _=>true
def qmW(P:Program):TypeDesc→List Nat
 | .struct fs=>fs.toList.map fun f=>P.cellsOf f.type
 | _=>[]
def TI.ok(P:Program)(t:Nat)(x:TI):Prop:=
 P.underlying t=some x.desc∧x.kind.fits x.desc∧(P.info? t).map (fun i=>(i.size,i.bytes,i.zero))=some (x.size,x.bytes,some x.zero)∧x.zeros.length=x.size∧x.zeros.all (·.oneCell')=true∧0 < x.size∧(qeg x.kind=true→x.size=1) ∧
 qoS P x.desc=true∧qmW P x.desc=x.fsz
def TabOK(P:Program)(TT:qaM):Prop:=∀ x∈TT,x.2.ok P x.1
def qay:qaM→Nat→Option TI
 | [],_=>none
 | (d,v)::r,t=>bif Nat.beq d t then some v else qay r t
def qqz{TT:qaM}{t:Nat}{x:TI}(h:qay TT t=some x):(t,x)∈TT:=by
  induction TT with
  | nil=>cases h
  | cons y TT ih=>
    obtain ⟨d,v⟩:=y;simp only [qay,cond_eq_ite] at h;by_cases he:Nat.beq d t=true
    · simp only [he,if_true,Option.some.injEq] at h
      have:d=t:=by simpa using he
      subst h;subst this;exact List.mem_cons_self ..
    · simp only [he] at h;exact List.mem_cons_of_mem _ (ih h)
def TabOK.at_{P:Program}{TT:qaM}(h:TabOK P TT){t:Nat}{x:TI}(hx:qay TT t=some x):x.ok P t:=h _ (qqz hx)
abbrev qbs:=Exit→Fr→Hl→World→Prop
def conc(D n:Nat)(Q:qbs):Exit→Act→World→Prop:=fun e a w=>∃ fr L s,FrRel n a fr∧OKL D L s∧w=fill L s∧Q e fr L s
def JC(P:Program)(TT:qaM)(D n:Nat)(Q:qbs)(c:Code)(fr:Fr)(L:Hl)(s:World):Prop:=
 TabOK P TT→∀ a,FrRel n a fr→OKL D L s→c.wp P (conc D n Q) a (fill L s)
def JO(P:Program)(TT:qaM)(D n:Nat)(ops:Array Oper)(Q:qbs)(l:List Oper)(fr:Fr)(L:Hl)(s:World):Prop:=
 TabOK P TT→∀ a,FrRel n a fr→OKL D L s→wpList P ops (conc D n Q) l a (fill L s)
section control
variable{P:Program}{TT:qaM}{D n:Nat}{Q:qbs}{fr:Fr}{L:Hl}{s:World}
def qaJ(J:Fr→Hl→World→Prop)(Q:qbs):qbs
 | .normal,fr,L,s=>J fr L s
 | e,fr,L,s=>Q e fr L s
def qax(id:Nat)(Q:qbs):qbs
 | .exit i,fr,L,s=>if i=id then Q .normal fr L s else Q (.exit i) fr L s
 | e,fr,L,s=>Q e fr L s
def qwv(h:Q .normal fr L s):JC P TT D n Q .skip fr L s:=fun _ _ hr ho=>wp_skip ⟨fr,L,s,hr,ho,rfl,h⟩
def qwu{id:Nat}(h:Q (.exit id) fr L s):JC P TT D n Q (.exit id) fr L s:=fun _ _ hr ho=>wp_exit ⟨fr,L,s,hr,ho,rfl,h⟩
def qBh(h:Q .ret fr L s):JC P TT D n Q .ret fr L s:=fun _ _ hr ho=>wp_ret ⟨fr,L,s,hr,ho,rfl,h⟩
def qu3{x y:Code}(h:JC P TT D n (qaJ (JC P TT D n Q y) Q) x fr L s):JC P TT D n Q (.seq x y) fr L s:=fun ht a hr ho=>
 wp_seq (wp_mono (h ht a hr ho) fun e a w ⟨fr',L',s',h1,h2,h3,h4⟩=>by
  cases e with
  | normal=>subst h3;exact h4 ht a h1 h2
  | _=>exact ⟨fr',L',s',h1,h2,h3,h4⟩)
def qqX{id:Nat}{c:Code}(h:JC P TT D n (qax id Q) c fr L s):JC P TT D n Q (.block id c) fr L s:=fun ht a hr ho=>
 wp_block (wp_mono (h ht a hr ho) fun e a w ⟨fr',L',s',h1,h2,h3,h4⟩=>by
  cases e with
  | exit i=>
   simp only [qax] at h4;simp only [Exit.inBlock];by_cases hi:i=id
   · simp only [hi,if_true] at h4 ⊢;exact ⟨fr',L',s',h1,h2,h3,h4⟩
   · simp only [hi,if_false] at h4 ⊢;exact ⟨fr',L',s',h1,h2,h3,h4⟩
  | _=>exact ⟨fr',L',s',h1,h2,h3,h4⟩)
def qd1{x y:Code}{b:Bool}(hc:lk fr c=some (.bool b))(h1:b=true→JC P TT D n Q x fr L s)(h2:b=false→JC P TT D n Q y fr L s):JC P TT D n Q (.cond c x y) fr L s:=
 fun ht a hr ho=>wp_cond_split (hr.ev hc) (fun hb=>h1 hb ht a hr ho) (fun hb=>h2 hb ht a hr ho)
def qaa{x y:Code}[Decidable p](hc:lk fr c=some (.bool (decide p)))(h1:p→JC P TT D n Q x fr L s)(h2:¬ p→JC P TT D n Q y fr L s):JC P TT D n Q (.cond c x y) fr L s:=
 qd1 hc (fun hb=>h1 (of_decide_eq_true hb)) (fun hb=>h2 (of_decide_eq_false hb))
def qaR{x y:Code}[Decidable p](hc:lk fr c=some (.bool (!decide p)))(h1:¬ p→JC P TT D n Q x fr L s)(h2:p→JC P TT D n Q y fr L s):JC P TT D n Q (.cond c x y) fr L s:=
 qd1 hc (fun hb=>h1 Q11) (fun hb=>h2 Q11)
def qc8{x y:Code}{b:Bool}(hc:lk fr c=some (.bool (!b)))(h1:b=false→JC P TT D n Q x fr L s)(h2:b=true→JC P TT D n Q y fr L s):JC P TT D n Q (.cond c x y) fr L s:=
 qd1 hc (fun hb=>h1 Q11) (fun hb=>h2 Q11)
def qBg{c:Operand}{x y:Code}(hc:lk fr c=some (.bool true))(h1:JC P TT D n Q x fr L s):JC P TT D n Q (.cond c x y) fr L s:=
 qd1 hc (fun _=>h1) (fun hb=>by cases hb)
def qBf{c:Operand}{x y:Code}(hc:lk fr c=some (.bool false))(h2:JC P TT D n Q y fr L s):JC P TT D n Q (.cond c x y) fr L s:=
 qd1 hc (fun hb=>by cases hb) (fun _=>h2)
def qgG{id:Nat}{l:List Oper}(h:JO P TT D n l.toArray Q l fr L s):JC P TT D n Q (.region id l.toArray false) fr L s:=
 fun ht a hr ho=>wp_region_lit (h ht a hr ho)
def qu5{ops:Array Oper}(h:Q .normal fr L s):JO P TT D n ops Q [] fr L s:=fun _ _ hr ho=>⟨fr,L,s,hr,ho,rfl,h⟩
def qjT{l fr:Fr}(t:Nat):qaS (l++fr) t=(qaS l t).or (qaS fr t):=by
 induction l with
 | nil=>simp [qaS]
 | cons x l ih=>
  obtain ⟨d,v⟩:=x;rw [List.cons_append,qa9,qa9];by_cases h:d=t<;>simp [h,ih]
def FrRel.sub{n:Nat}{a:Act}{fr l:Fr}(h:FrRel n a fr)(hs:∀ t v,qaS l t=some v→qaS fr t=some v):FrRel n a l:=
 ⟨h.size,h.defers,fun t ht v hv=>h.slot t ht v (hs t v hv),fun t v hv=>h.top t v (hs t v hv)⟩
def Keeps(fr l:Fr):Prop:=∀ t v,qaS l t=some v→qaS fr t=some v
def Keeps.nil(fr:Fr):Keeps fr []:=fun _ _ h=>by cases h
def Keeps.cons{fr l:Fr}{d:Nat}{v:Value}(h1:qaS fr d=some v)(h:Keeps fr l):Keeps fr ((d,v)::l):=fun t u hu=>by
 rw [qa9] at hu;by_cases he:d=t
 · subst he;simp at hu;subst hu;exact h1
 · simp only [he,if_false] at hu;exact h t u hu
def Keeps.c6{fr l:Fr}{d4:Nat}{d5:Nat}{v5:Value}(h0:qaS fr d0=some v0)(h1:qaS fr d1=some v1)(h2:qaS fr d2=some v2)(h3:qaS fr d3=some v3)(h4:qaS fr d4=some v4)(h5:qaS fr d5=some v5)(h:Keeps fr l):Keeps fr ((d0,v0)::(d1,v1)::(d2,v2)::(d3,v3)::(d4,v4)::(d5,v5)::l):=Keeps.cons h0 (Keeps.cons h1 (Keeps.cons h2 (Keeps.cons h3 (Keeps.cons h4 (Keeps.cons h5 (h))))))
def Keeps.c5{fr l:Fr}{d4:Nat}(h0:qaS fr d0=some v0)(h1:qaS fr d1=some v1)(h2:qaS fr d2=some v2)(h3:qaS fr d3=some v3)(h4:qaS fr d4=some v4)(h:Keeps fr l):Keeps fr ((d0,v0)::(d1,v1)::(d2,v2)::(d3,v3)::(d4,v4)::l):=Keeps.cons h0 (Keeps.cons h1 (Keeps.cons h2 (Keeps.cons h3 (Keeps.cons h4 (h)))))
def Keeps.c4{fr l:Fr}(h0:qaS fr d0=some v0)(h1:qaS fr d1=some v1)(h2:qaS fr d2=some v2)(h3:qaS fr d3=some v3)(h:Keeps fr l):Keeps fr ((d0,v0)::(d1,v1)::(d2,v2)::(d3,v3)::l):=Keeps.cons h0 (Keeps.cons h1 (Keeps.cons h2 (Keeps.cons h3 (h))))
def Keeps.c3{fr l:Fr}(h0:qaS fr d0=some v0)(h1:qaS fr d1=some v1)(h2:qaS fr d2=some v2)(h:Keeps fr l):Keeps fr ((d0,v0)::(d1,v1)::(d2,v2)::l):=Keeps.cons h0 (Keeps.cons h1 (Keeps.cons h2 (h)))
def Keeps.c2{fr l:Fr}(h0:qaS fr d0=some v0)(h1:qaS fr d1=some v1)(h:Keeps fr l):Keeps fr ((d0,v0)::(d1,v1)::l):=Keeps.cons h0 (Keeps.cons h1 (h))
def qwd{p:Prop} (h:p:=by
 obtain ⟨e,d1,d2⟩:=qbp k2;exact ⟨μ g',j4,g',_,rfl,k1.sub j1,d1,e,mono _ _ _ j3 d2⟩):p:=h
def qaH{γ:Type}{c:Code}(S:γ→Fr)(H:γ→Hl)(I:γ→World→Prop)(μ:γ→Nat)(mono:∀ g s s',I g s→Le D s s'→I g s')(g0:γ)
  (hS:Keeps fr (S g0)) (hL:L=H g0) (hI:I g0 s)
  (round:∀ g s,I g s→JC P TT D n (qaJ (fun fr' L' s'=>∃ g' A,Keeps fr' (S g')∧L'=A++H g'∧I g' s'∧μ g' < μ g) Q) c (S g) (H g) s) :
  JC P TT D n Q (.loop c) fr L s:=fun ht a hr ho=>by
 refine wp_loop_ghost (fun m a w=>∃ g s,μ g=m∧FrRel n a (S g)∧OKL D (H g) s∧w=fill (H g) s∧I g s) (μ g0) ⟨g0,s,Z,hr.sub hS,hL▸ho,hL▸Z,hI⟩ ?_;rintro m a w ⟨g,s,rfl,h1,h2,rfl,h4⟩;refine wp_mono (round g s h4 ht a h1 h2) ?_;rintro e a' w' ⟨fr',L',s',k1,k2,rfl,k4⟩;cases e with
 | normal=>
  obtain ⟨g',A,j1,rfl,j3,j4⟩:=k4;exact qwd
 | _=>exact ⟨fr',L',s',k1,k2,rfl,k4⟩
end control
def cb(zs:List Value)(t:Nat):Obj:=.cells zs.toArray t (0,0)
abbrev St(l:List UInt8):Value:=.string ⟨l.toArray⟩
def Ev(P:Program)(TT:qaM)(D:Nat)(fr:Fr)(op:Op)(ty:Nat)(L:Hl)(s:World)(r:Next)(L':Hl)(s':World):Prop:=
 TabOK P TT→OKL D L s→∀ (dst:Option Nat) (pos:String) (af:Array Edge) (g:Option (Nat×Bool)) (ρ:Operand→Value),(∀ x v,lk fr x=some v→ρ x=v)→(execOp ρ ⟨dst,op,ty,pos,af,g⟩).run P (fill L s)=.ok r (fill L' s')∧OKL D L' s'
def QE(P:Program)(TT:qaM)(D:Nat)(fr:Fr)(op:Op)(ty:Nat)(K:Hl)(s0:World)(v:Value):Prop:=
 TabOK P TT→∀ (dst:Option Nat) (pos:String) (af:Array Edge) (g:Option (Nat×Bool)) (ρ:Operand→Value),(∀ x v,lk fr x=some v→ρ x=v) →
  ∀ L s,OKL D L s→Le D s0 s→(∀ x∈K,x∈L)→(execOp ρ ⟨dst,op,ty,pos,af,g⟩).run P (fill L s)=.ok (.value v) (fill L s)
def QE.pure{P:Program}{TT:qaM}{D:Nat}{fr:Fr}{op:Op}{ty:Nat}{K:Hl}{s0:World}{v:Value}
  (h:TabOK P TT→∀ (dst:Option Nat) (pos:String) (af:Array Edge) (g:Option (Nat×Bool)) (ρ:Operand→Value),(∀ x v,lk fr x=some v→ρ x=v)→∀ w,(execOp ρ ⟨dst,op,ty,pos,af,g⟩).run P w=.ok (.value v) w):QE P TT D fr op ty K s0 v:=
 fun ht dst pos af g ρ hρ L s _ _ _=>h ht dst pos af g ρ hρ _
section
variable{P:Program}{TT:qaM}{D n:Nat}{Q:qbs}{fr:Fr}{L L':Hl}{s s':World}{ops:Array Oper}{rest:List Oper}{d ty:Nat}{op:Op}{pos:String}{af:Array Edge}{v:Value}
def qgH(hd:Nat.blt d n=true)(h:Ev P TT D fr op ty L s (.value v) L' s')(k:JO P TT D n ops Q rest ((d,v)::fr) L' s'):
  JO P TT D n ops Q (⟨some d,op,ty,pos,af,none⟩::rest) fr L s:=fun ht a hr ho=>by
 obtain ⟨h1,h2⟩:=h ht ho (some d) pos af none a.eval (fun x v hx=>hr.ev hx);simp only [wpList,Region.wanted,if_true];refine .inl ?_;simp only [Oper.wp,h1,Oper.upon];exact k ht _ (hr.put hd v) h2
def qqZ(h:Ev P TT D fr op ty L s .skip L' s')(k:JO P TT D n ops Q rest fr L' s'):
  JO P TT D n ops Q (⟨none,op,ty,pos,af,none⟩::rest) fr L s:=fun ht a hr ho=>by
 obtain ⟨h1,h2⟩:=h ht ho none pos af none a.eval (fun x v hx=>hr.ev hx);simp only [wpList,Region.wanted,if_true];refine .inl ?_;simp only [Oper.wp,h1,Oper.upon];exact k ht _ hr h2
def qae(h:QE P TT D fr op ty L s v)(hd:Nat.blt d n=true)(k:JO P TT D n ops Q rest ((d,v)::fr) L s):JO P TT D n ops Q (⟨some d,op,ty,pos,af,none⟩::rest) fr L s:=
 qgH hd (fun ht ho dst pos af g ρ hρ=>⟨h ht dst pos af g ρ hρ L s ho (Le.refl _) (fun _ hx=>hx),ho⟩) k
def qeJ(ops:Array Oper)(j:Nat):Option Nat:=(ops[j]?).bind (·.dst)
def qEz{dst:Option Nat}{j t:Nat}{w:Bool}(hj:qeJ ops j=some t)(hv:qaS fr t=some (.bool w))
  (k:JO P TT D n ops Q (⟨dst,op,ty,pos,af,none⟩::rest) fr L s):JO P TT D n ops Q (⟨dst,op,ty,pos,af,some (j,w)⟩::rest) fr L s:=fun ht a hr ho=>by
 have k1:=k ht a hr ho;have hy:yielded ops a.tmps j=some w:=by
  have h1:=hr.slot t (hr.top _ _ hv) _ hv;unfold qeJ at hj;simp [yielded,hj,h1]
 simp only [wpList,Region.wanted,if_true] at k1;simp only [wpList,Region.wanted,hy,beq_self_eq_true,if_true];exact k1
def qBk{d:Nat}{j t:Nat}{w b:Bool}(hd:Nat.blt d n=true)(hj:qeJ ops j=some t)(hv:qaS fr t=some (.bool b))(hb:(b != w)=true)
  (k:JO P TT D n ops Q rest ((d,undef)::fr) L s):JO P TT D n ops Q (⟨some d,op,ty,pos,af,some (j,w)⟩::rest) fr L s:=fun ht a hr ho=>by
 have hy:yielded ops a.tmps j=some b:=by
  have h1:=hr.slot t (hr.top _ _ hv) _ hv;unfold qeJ at hj;simp [yielded,hj,h1]
 have hne:(some b == some w)=false:=by cases b<;>cases w<;>simp_all
 simp only [wpList,Region.wanted,hy,hne,Bool.false_eq_true,if_false];exact k ht _ (hr.put hd undef) ho
def Wf{d:Nat}{j t:Nat}{w b:Bool}(hY:(Nat.blt d n=true)∧(qeJ ops j=some t)∧(qaS fr t=some (.bool b))∧((b != w)=true))
  (k:JO P TT D n ops Q rest ((d,undef)::fr) L s):JO P TT D n ops Q (⟨some d,op,ty,pos,af,some (j,w)⟩::rest) fr L s:=qBk hY.1 hY.2.1 hY.2.2.1 hY.2.2.2 k
def qEA{d:Nat}{j t:Nat}{w:Bool}(hd:Nat.blt d n=true)(hj:qeJ ops j=some t)(hv:qaS fr t=some undef)
  (k:JO P TT D n ops Q rest ((d,undef)::fr) L s):JO P TT D n ops Q (⟨some d,op,ty,pos,af,some (j,w)⟩::rest) fr L s:=fun ht a hr ho=>by
 have hy:yielded ops a.tmps j=none:=by
  have h1:=hr.slot t (hr.top _ _ hv) _ hv;unfold qeJ at hj;simp [yielded,hj,h1,undef]
 simp only [wpList,Region.wanted,hy];exact k ht _ (hr.put hd undef) ho
def Ez44{p:Prop} (h:p:=by
 cases b with
 | true=>exact h1 rfl ht a (hr.sub fun t' v' h=>by rw [qa9] at h;split at h<;>simp_all) ho
 | false=>exact h2 rfl ht a (hr.sub fun t' v' h=>by rw [qa9] at h;split at h<;>simp_all) ho):p:=h
def qfK{l:List Oper}{t:Nat}{b:Bool}(hv:qaS fr t=some (.bool b))(h1:b=true→JO P TT D n ops Q l ((t,.bool true)::fr) L s)(h2:b=false→JO P TT D n ops Q l ((t,.bool false)::fr) L s):
  JO P TT D n ops Q l fr L s:=fun ht a hr ho=>by
 exact Ez44
def qap{l:List Oper}{t:Nat}[Decidable p](hv:qaS fr t=some (.bool (decide p)))(h1:p→JO P TT D n ops Q l ((t,.bool true)::fr) L s)(h2:¬ p→JO P TT D n ops Q l ((t,.bool false)::fr) L s):
  JO P TT D n ops Q l fr L s:=qfK hv (fun h=>h1 (of_decide_eq_true h)) (fun h=>h2 (of_decide_eq_false h))
def qdN{l:List Oper}{t:Nat}{b:Bool}(hv:qaS fr t=some (.bool (!b)))(h1:b=false→JO P TT D n ops Q l ((t,.bool true)::fr) L s)(h2:b=true→JO P TT D n ops Q l ((t,.bool false)::fr) L s):
  JO P TT D n ops Q l fr L s:=qfK hv (fun h=>h1 Q4) (fun h=>h2 Q4)
def qbg{l:List Oper}{t:Nat}[Decidable p](hv:qaS fr t=some (.bool (!decide p)))(h1:¬ p→JO P TT D n ops Q l ((t,.bool true)::fr) L s)(h2:p→JO P TT D n ops Q l ((t,.bool false)::fr) L s):
  JO P TT D n ops Q l fr L s:=qfK hv (fun h=>h1 Q4) (fun h=>h2 Q4)
end
section
variable{P:Program}{TT:qaM}{D:Nat}{fr:Fr}{ty:Nat}{v:Value}{K:Hl}{s0:World}
def qam(hx:lk fr x=some v):QE P TT D fr (.move x) ty K s0 v:=QE.pure fun _ dst pos af g ρ hρ w=>by simp [execOp,hρ x v hx]
def qa7(hx:lk fr x=some v):QE P TT D fr (.assign x) ty K s0 v:=QE.pure fun _ dst pos af g ρ hρ w=>by simp [execOp,hρ x v hx]
def qdr(hc:lk fr c=some (.bool true))(hx:lk fr x=some v):QE P TT D fr (.pick c x y) ty K s0 v:=QE.pure fun _ dst pos af g ρ hρ w=>by simp [execOp,hρ x v hx,hρ c _ hc,asBool]
def qdq(hc:lk fr c=some (.bool false))(hx:lk fr y=some v):QE P TT D fr (.pick c x y) ty K s0 v:=QE.pure fun _ dst pos af g ρ hρ w=>by simp [execOp,hρ y v hx,hρ c _ hc,asBool]
def qlw{b:Bool}{t:Nat}(hx:lk fr x=some (.bool b)):QE P TT D fr (.unOp .not t x) ty K s0 (.bool (!b)):=QE.pure fun _ dst pos af g ρ hρ w=>by simp [execOp,hρ x _ hx,Op.unary]
def qwG{t:Nat}(hx:lk fr x=some (.bool true)):QE P TT D fr (.unOp .not t x) ty K s0 (.bool false):=qlw hx
def qwF{t:Nat}(hx:lk fr x=some (.bool false)):QE P TT D fr (.unOp .not t x) ty K s0 (.bool true):=qlw hx
def nth:List Value→Nat→Option Value
 | [],_=>none
 | x::_,0=>some x
 | _::r,k+1=>nth r k
theorem qdK(l:List Value)(i:Nat):nth l i=l[i]?:=by
 induction l generalizing i with
 | nil=>rfl
 | cons x l ih=>cases i<;>simp [nth,ih]
def qb4(hx:lk fr x=some (.tuple vs.toArray))(hi:nth vs i=some v):QE P TT D fr (.extract x i) ty K s0 v:=
 QE.pure fun _ dst pos af g ρ hρ w=>by rw [qdK] at hi;simp [execOp,hρ x _ hx,Instr.extract,hi]
def qan{a:Addr}(hx:lk fr x=some (.pointer (some a))):QE P TT D fr (.nilCheck x) ty K s0 (.pointer (some a)):=QE.pure fun _ dst pos af g ρ hρ w=>by simp [execOp,hρ x _ hx]
def qdD{b:Int}{t:Nat}(hx:lk fr x=some (.int ik a))(hy:lk fr y=some (.int ik b)):QE P TT D fr (.binOp .eql t x y t') ty K s0 (.bool (decide (a=b))):=
 QE.pure fun _ dst pos af g ρ hρ w=>by simp [execOp,hρ x _ hx,hρ y _ hy,eqGuard,binOp,Op.intCmp];rfl
def qmN{b:Int}{t:Nat}(hx:lk fr x=some (.int ik a))(hy:lk fr y=some (.int ik b)):QE P TT D fr (.binOp .neq t x y t') ty K s0 (.bool (!decide (a=b))):=
 QE.pure fun _ dst pos af g ρ hρ w=>by simp [execOp,hρ x _ hx,hρ y _ hy,eqGuard,binOp,Op.intCmp];rfl
def qwD{b:Int}{t:Nat}(hx:lk fr x=some (.int ik a))(hy:lk fr y=some (.int ik b)):QE P TT D fr (.binOp .lss t x y t') ty K s0 (.bool (decide (a < b))):=
 QE.pure fun _ dst pos af g ρ hρ w=>by simp [execOp,hρ x _ hx,hρ y _ hy,eqGuard,binOp,Op.intCmp]
def qmM{b:Int}{t:Nat}(hx:lk fr x=some (.int ik a))(hy:lk fr y=some (.int ik b)):QE P TT D fr (.binOp .leq t x y t') ty K s0 (.bool (decide (a≤b))):=
 QE.pure fun _ dst pos af g ρ hρ w=>by simp [execOp,hρ x _ hx,hρ y _ hy,eqGuard,binOp,Op.intCmp]
def qwB{b:Int}{t:Nat}(hx:lk fr x=some (.int ik a))(hy:lk fr y=some (.int ik b)):QE P TT D fr (.binOp .gtr t x y t') ty K s0 (.bool (decide (b < a))):=
 QE.pure fun _ dst pos af g ρ hρ w=>by simp [execOp,hρ x _ hx,hρ y _ hy,eqGuard,binOp,Op.intCmp]
def qq1{b:Int}{t:Nat}(hx:lk fr x=some (.int ik a))(hy:lk fr y=some (.int ik b)):QE P TT D fr (.binOp .geq t x y t') ty K s0 (.bool (decide (b≤a))):=
 QE.pure fun _ dst pos af g ρ hρ w=>by simp [execOp,hρ x _ hx,hρ y _ hy,eqGuard,binOp,Op.intCmp]
def qlu{b:Int}{t:Nat}(hx:lk fr x=some (.int ik a))(hy:lk fr y=some (.int ik b)):QE P TT D fr (.binOp .add t x y t') ty K s0 (.int ik (ik.wrap (a+b))):=
 QE.pure fun _ dst pos af g ρ hρ w=>by simp [execOp,hρ x _ hx,hρ y _ hy,eqGuard,binOp,Op.intArith]
def qaI{b c:Int}{t:Nat}(hx:lk fr x=some (.int ik a))(hy:lk fr y=some (.int ik b))(hc:ik.wrap (a+b)=c):QE P TT D fr (.binOp .add t x y t') ty K s0 (.int ik c):=hc▸qlu hx hy
def qly{b:Int}{t:Nat}(hx:lk fr x=some (.int ik a))(hy:lk fr y=some (.int ik b)):QE P TT D fr (.binOp .sub t x y t') ty K s0 (.int ik (ik.wrap (a - b))):=
 QE.pure fun _ dst pos af g ρ hρ w=>by simp [execOp,hρ x _ hx,hρ y _ hy,eqGuard,binOp,Op.intArith]
def qbB{b c:Int}{t:Nat}(hx:lk fr x=some (.int ik a))(hy:lk fr y=some (.int ik b))(hc:ik.wrap (a - b)=c):QE P TT D fr (.binOp .sub t x y t') ty K s0 (.int ik c):=hc▸qly hx hy
def qnS{b:Int}{t:Nat}(hx:lk fr x=some (.int ik a))(hy:lk fr y=some (.int ik b)):QE P TT D fr (.binOp .mul t x y t') ty K s0 (.int ik (ik.wrap (a * b))):=
 QE.pure fun _ dst pos af g ρ hρ w=>by simp [execOp,hρ x _ hx,hρ y _ hy,eqGuard,binOp,Op.intArith]
def qnT{b c:Int}{t:Nat}(hx:lk fr x=some (.int ik a))(hy:lk fr y=some (.int ik b))(hc:ik.wrap (a * b)=c):QE P TT D fr (.binOp .mul t x y t') ty K s0 (.int ik c):=hc▸qnS hx hy
def qva{b:Int}{t:Nat}(hx:lk fr x=some (.int ik a))(hy:lk fr y=some (.int ik b))(hb:b≠0):QE P TT D fr (.binOp .quo t x y t') ty K s0 (.int ik (ik.wrap (a.tdiv b))):=
 QE.pure fun _ dst pos af g ρ hρ w=>by simp [execOp,hρ x _ hx,hρ y _ hy,eqGuard,binOp,Op.intDiv,hb]
def qvb{b:Int}{t:Nat}(hx:lk fr x=some (.int ik a))(hy:lk fr y=some (.int ik b))(hb:b≠0):QE P TT D fr (.binOp .rem t x y t') ty K s0 (.int ik (a.tmod b)):=
 QE.pure fun _ dst pos af g ρ hρ w=>by simp [execOp,hρ x _ hx,hρ y _ hy,eqGuard,binOp,Op.intDiv,hb]
def qeL{jk:IntKind}{b:Int}{t:Nat}{bo:BinOp}(hx:lk fr x=some (.int ik a))(hy:lk fr y=some (.int jk b))(hne:bo≠.eql∧bo≠.neq)(h:∀ w,(binOp bo t (.int ik a) (.int jk b)).run P w=.ok v w):QE P TT D fr (.binOp bo t x y t') ty K s0 v:=
 QE.pure fun _ dst pos af g ρ hρ w=>by
  have hg:(eqGuard bo t x y (.int ik a) (.int jk b)).run P w=.ok () w:=by cases bo<;>simp_all [eqGuard]
  simp [execOp,hρ x _ hx,hρ y _ hy,hg,h w]
def qvc{a b:List UInt8}{t:Nat}(hx:lk fr x=some (St a))(hy:lk fr y=some (St b)):QE P TT D fr (.binOp .eql t x y t') ty K s0 (.bool (decide (a=b))):=
 QE.pure fun _ dst pos af g ρ hρ w=>by simp [execOp,hρ x _ hx,hρ y _ hy,eqGuard,binOp,Op.stringOp];by_cases h:a=b<;>simp [h]
def qBq{a b:List UInt8}{t:Nat}(hx:lk fr x=some (St a))(hy:lk fr y=some (St b)):QE P TT D fr (.binOp .neq t x y t') ty K s0 (.bool (!decide (a=b))):=
 QE.pure fun _ dst pos af g ρ hρ w=>by simp [execOp,hρ x _ hx,hρ y _ hy,eqGuard,binOp,Op.stringOp];by_cases h:a=b<;>simp [h]
def qke{P:Program}{t:Nat}(h:P.underlying t=some .bool)(a b:Bool)(w:World):(Op.equal t (.bool a) (.bool b)).run P w=.ok (decide (a=b)) w:=by
 rw [run_equal_bool w t a b h];cases a<;>cases b<;>rfl
def EqA(P:Program)(t:Nat)(xs ys:List Value)(b:Bool):Prop:=P.eqGuardType P.depth t=false∧∀ w,(Op.equal t (.agg xs.toArray) (.agg ys.toArray)).run P w=.ok b w
def qBm{xs:List Value}{b:Bool}{t:Nat}(hx:lk fr x=some (.agg xs.toArray))(hy:lk fr y=some (.agg ys.toArray))(hE:EqA P t xs ys b):QE P TT D fr (.binOp .eql t x y t') ty K s0 (.bool b):=
 QE.pure fun ht dst pos af g ρ hρ w=>by simp [execOp,hρ x _ hx,hρ y _ hy,eqGuard,binOp,hE.1,hE.2 w]
def qcU{xs:List Value}{b:Bool}{t:Nat}(hx:lk fr x=some (.agg xs.toArray))(hy:lk fr y=some (.agg ys.toArray))(hE:EqA P t xs ys b):QE P TT D fr (.binOp .neq t x y t') ty K s0 (.bool (!b)):=
 QE.pure fun ht dst pos af g ρ hρ w=>by simp [execOp,hρ x _ hx,hρ y _ hy,eqGuard,binOp,hE.1,hE.2 w]
def qu6{a b:Bool}{t:Nat}(hx:lk fr x=some (.bool a))(hy:lk fr y=some (.bool b))(hu:qay TT t=some ti)(hu':ti.desc=.bool):QE P TT D fr (.binOp .neq t x y t') ty K s0 (.bool (!decide (a=b))):=
 QE.pure fun ht dst pos af g ρ hρ w=>by
  have h1:=(ht.at_ hu).1;rw [hu'] at h1;simp [execOp,hρ x _ hx,hρ y _ hy,eqGuard,binOp,qke h1]
end
def CellsAt(s:World)(b off:Nat)(vs:List Value):Prop:=∀ j v,vs[j]?=some v→s.cell? ⟨b,off+j,none⟩=some v
def CellsAt.le{D:Nat}(h:CellsAt s b off vs)(hl:Le D s s'):CellsAt s' b off vs:=fun j v hj=>hl.cell (h j v hj)
def CellsAt.one(h:s.cell? ⟨b,off,none⟩=some v):CellsAt s b off [v]:=fun j u hj=>by
 cases j with
 | zero=>simp at hj;subst hj;exact h
 | succ j=>simp at hj
def add_lit(b off j:Nat):(⟨b,off,none⟩:Addr).add j=⟨b,off+j,none⟩:=by unfold Addr.add;split<;>simp_all
section
variable{P:Program}{TT:qaM}{D:Nat}
def Ez69{p:Prop} (h:p:=by
 obtain ⟨h1,h2,_⟩:=h;rw [hk] at h2;unfold isAgg;simp only [Sem.run_bind,run_underlying h1,Result.andThen_ok];generalize ti.desc=dd at h2;cases dd<;>simp_all [TK.fits]):p:=h
def qkh{t:Nat}(h:ti.ok P t)(hk:ti.kind=.sc)(w:World):(isAgg t).run P w=.ok false w:=by
 exact Ez69
def qA4{p:Prop} (h:p:=by
 obtain ⟨h1,h2,_⟩:=h;rw [hk] at h2;unfold isAgg;simp only [TK.fits] at h2;simp [run_underlying h1,h2]):p:=h
def qki{t:Nat}(h:ti.ok P t)(hk:ti.kind=.sl e)(w:World):(isAgg t).run P w=.ok false w:=by
 exact qA4
def qkj{t:Nat}(h:ti.ok P t)(hk:ti.kind=.st os)(w:World):(isAgg t).run P w=.ok true w:=by
 exact Ez69
def qkg{t:Nat}(h:ti.ok P t)(hk:ti.kind=.ar m e)(w:World):(isAgg t).run P w=.ok true w:=by
 exact qA4
def qdR{t:Nat}(h:ti.ok P t):∃ i,P.info? t=some i∧i.size=ti.size∧i.bytes=ti.bytes∧i.zero=some ti.zero:=by
 obtain ⟨_,_,h3,_⟩:=h;cases hi:P.info? t with
 | none=>simp [hi] at h3
 | some i=>simp [hi] at h3;exact ⟨i,rfl,h3.1,h3.2.1,h3.2.2⟩
def qbw{t:Nat}(h:ti.ok P t)(w:World):(sizeOf t).run P w=.ok ti.size w:=by
 obtain ⟨i,h1,h2,_,_⟩:=qdR h;simp [sizeOf,typeInfo,h1,h2]
def qcK{t:Nat}(h:ti.ok P t)(w:World):(zeroValue t).run P w=.ok ti.zero w:=by
 obtain ⟨i,h1,_,_,h2⟩:=qdR h;simp [zeroValue,typeInfo,h1,h2]
def qf3{t:Nat}(h:ti.ok P t)(w:World):(isAgg t).run P w=.ok (!qeg ti.kind) w:=by
 cases hk:ti.kind with
 | sc=>exact qkh h hk w
 | sl e=>exact qki h hk w
 | st os=>exact qkj h hk w
 | ar m e=>exact qkg h hk w
def Ez46{p:Prop} (h:p:=by
 have hl:ti.zeros.length=1:=by rw [h4];exact h7 (by rw [hk];rfl)
 match hz:ti.zeros,hl with
 | [z],_=>rw [hz] at h5;simp at h5;simp only [List.headD];cases z<;>simp_all [Value.oneCell',Value.cells]):p:=h
def qc7{t:Nat}(h:ti.ok P t):ti.zero.cells=ti.zeros.toArray:=by
 obtain ⟨h1,h2,h3,h4,h5,h6,h7,_⟩:=h;unfold TI.zero;cases hk:ti.kind with
 | st os=>rfl
 | ar m e=>rfl
 | sc=>
  exact Ez46
 | sl e=>
  exact Ez46
def qhh(t:TypeId)(cs:Array Value)(w:World):(newRow t cs).run P w=.ok ⟨w.heap.size,0,none⟩ (w.alloc (.cells cs t)):=by
 simp [newRow]
def qa2:Value→List Value
 | .agg cs=>cs.toList
 | v=>[v]
def qdt(v:Value):v.cells=(qa2 v).toArray:=by cases v<;>simp [Value.cells,qa2]
def qdj{t:Nat}(h:ti.ok P t)(hk:qeg ti.kind=true){a:Addr}(hc:w.cell? a=some v):(loadVar t a).run P w=.ok v w:=by
 simp [loadVar,qf3 h,hk,hc]
def qdi{t:Nat}{ti:TI}(h:ti.ok P t)(hk:qeg ti.kind=false){w:World}{b off:Nat}{vs:List Value}(hl:vs.length=ti.size)
  (hc:∀ j v,vs[j]?=some v→w.cell? ⟨b,off+j,none⟩=some v):(loadVar t ⟨b,off,none⟩).run P w=.ok (.agg vs.toArray) w:=by
 have h1:=run_loadCells_list (P:=P) w ⟨b,off,none⟩ vs (fun j v hj=>by rw [add_lit];exact hc j v hj);simp [loadVar,qf3 h,hk,qbw h,← hl,h1]
def qow(ho:OKL D L s){t:Nat}(hi:L[i]?=some (b,cb zs t))(j:Nat):(fill L s).cell? ⟨b,j,none⟩=zs[j]?:=by
 have:=qa3 ho (List.mem_of_getElem? hi);simp [World.cell?,this,cb]
def cut(zs:List Value)(off:Nat):Nat→Option (List Value)
 | 0=>some []
 | n+1=>match nth zs off with
  | some v=>match cut zs (off+1) n with
   | some r=>some (v::r)
   | none=>none
  | none=>none
def qiw(h:cut zs off n=some vs):vs.length=n∧∀ j v,vs[j]?=some v→zs[off+j]?=some v:=by
 induction n generalizing off vs with
 | zero=>simp [cut] at h;subst h;simp
 | succ n ih=>
  simp only [cut] at h;cases h1:nth zs off with
  | none=>simp [h1] at h
  | some x=>
   cases h2:cut zs (off+1) n with
   | none=>simp [h1,h2] at h
   | some r=>
    simp [h1,h2] at h;subst h;obtain ⟨k1,k2⟩:=ih h2;refine ⟨by simp [k1],fun j v hj=>?_⟩;cases j with
    | zero=>simp at hj;subst hj;rw [qdK] at h1;exact h1
    | succ j=>simp at hj;have:=k2 j v hj;rwa [Nat.add_right_comm,Nat.add_assoc] at this
end
section
variable{P:Program}{TT:qaM}{D n:Nat}{Q:qbs}{fr:Fr}{L L' K:Hl}{s s' s0:World}{ops:Array Oper}{rest:List Oper}{d ty:Nat}{op:Op}{pos:String}{af:Array Edge}{v:Value}
def qgq{t:Nat}(ht:qay TT t=some ti)(ho:OKL D L s):Ev P TT D fr (.alloc t) ty L s (.value (.pointer (some ⟨s.heap.size,0,none⟩))) ((s.heap.size,cb ti.zeros t)::L) (s.alloc (dum D)):=fun hT _ dst pos af g ρ _=>by
 obtain ⟨h1,h2,h3⟩:=qaD ho (cb ti.zeros t);refine ⟨?_,h2⟩;have hz:=qc7 (hT.at_ ht);simp only [execOp,Instr.alloc,Sem.run_bind,qcK (hT.at_ ht),Result.andThen_ok,newVar,qhh,hz,Sem.run_pure,qaF];rw [← h1];rfl
def qnB{t:Nat}(hx:lk fr x=some v)(hz:qa2 v=zs)(ho:OKL D L s):Ev P TT D fr (.box t x) ty L s (.value (.pointer (some ⟨s.heap.size,0,none⟩))) ((s.heap.size,cb zs t)::L) (s.alloc (dum D)):=fun hT _ dst pos af g ρ hρ=>by
 obtain ⟨h1,h2,h3⟩:=qaD ho (cb zs t);refine ⟨?_,h2⟩;simp only [execOp,Instr.box,Sem.run_bind,Result.andThen_ok,newVar,qhh,Sem.run_pure,qaF,hρ x v hx,qdt,hz];rw [← h1];rfl
def qqY{t:Nat}{ti:TI}(ht:qay TT t=some ti)(hd:Nat.blt d n=true)
  (k:∀ β s',Le D s s'→JO P TT D n ops Q rest ((d,.pointer (some ⟨β,0,none⟩))::fr) ((β,cb ti.zeros t)::L) s'):JO P TT D n ops Q (⟨some d,.alloc t,ty,pos,af,none⟩::rest) fr L s:=fun hT a hr ho=>
 qgH hd (qgq ht ho) (k _ _ (qaD ho (cb ti.zeros t)).2.2) hT a hr ho
def qac{t:Nat}{ti:TI}(ht:qay TT t=some ti)(zs:List Value)(hz:ti.zeros=zs)(hd:Nat.blt d n=true)
  (k:∀ β s',Le D s s'→JO P TT D n ops Q rest ((d,.pointer (some ⟨β,0,none⟩))::fr) ((β,cb zs t)::L) s'):JO P TT D n ops Q (⟨some d,.alloc t,ty,pos,af,none⟩::rest) fr L s:=by subst hz;exact qqY ht hd k
def qeK{t:Nat}{x:Operand}{zs:List Value}(hx:lk fr x=some v)(hz:qa2 v=zs)(hd:Nat.blt d n=true)
  (k:∀ β s',Le D s s'→JO P TT D n ops Q rest ((d,.pointer (some ⟨β,0,none⟩))::fr) ((β,cb zs t)::L) s'):JO P TT D n ops Q (⟨some d,.box t x,ty,pos,af,none⟩::rest) fr L s:=fun hT a hr ho=>
 qgH hd (qnB hx hz ho) (k _ _ (qaD ho (cb zs t)).2.2) hT a hr ho
def qar{t:Nat}{x:Operand}{zs:List Value}(hx:lk fr x=some (.agg zs.toArray))(hd:Nat.blt d n=true)
  (k:∀ β s',Le D s s'→JO P TT D n ops Q rest ((d,.pointer (some ⟨β,0,none⟩))::fr) ((β,cb zs t)::L) s'):JO P TT D n ops Q (⟨some d,.box t x,ty,pos,af,none⟩::rest) fr L s:=
 qeK hx (by simp [qa2]) hd k
def qc2{t:Nat}(ho:OKL D L s)(hi:(b,cb zs t)∈L):(fill L s).cell? ⟨b,j,none⟩=zs[j]?:=by
 have:=qa3 ho hi;simp [World.cell?,this,cb]
def qb5{t b off:Nat}{x:Operand}{ti:TI}{t':Nat}{zs:List Value}(i:Nat)(hx:lk fr x=some (.pointer (some ⟨b,off,none⟩)))(hi:K[i]?=some (b,cb zs t'))(ht:qay TT t=some ti)(hk:qeg ti.kind=true)
  (hv:nth zs off=some v):QE P TT D fr (.load t x) ty K s0 v:=fun hT dst pos af g ρ hρ L s ho _ hK=>by
 have hc:(fill L s).cell? ⟨b,off,none⟩=some v:=by rw [qc2 ho (hK _ (List.mem_of_getElem? hi)),← qdK];exact hv
 simp [execOp,hρ x _ hx,Instr.loadAt,Instr.sureAddr,qdj (hT.at_ ht) hk hc]
def Wd{t:Nat}(i:Nat)(hY:(lk fr x=some (.pointer (some ⟨b,off,none⟩)))∧(K[i]?=some (b,cb zs t'))∧(qay TT t=some ti)∧(qeg ti.kind=true)∧(nth zs off=some v)):QE P TT D fr (.load t x) ty K s0 v:=qb5 i hY.1 hY.2.1 hY.2.2.1 hY.2.2.2.1 hY.2.2.2.2
def qaj{t b off:Nat}{x:Operand}{ti:TI}{t':Nat}{zs:List Value}(i:Nat)(vs:List Value)(hx:lk fr x=some (.pointer (some ⟨b,off,none⟩)))(hi:K[i]?=some (b,cb zs t'))(ht:qay TT t=some ti)(hk:qeg ti.kind=false)
  (hv:cut zs off ti.size=some vs):QE P TT D fr (.load t x) ty K s0 (.agg vs.toArray):=fun hT dst pos af g ρ hρ L s ho _ hK=>by
 obtain ⟨h1,h2⟩:=qiw hv;have hc:∀ j v,vs[j]?=some v→(fill L s).cell? ⟨b,off+j,none⟩=some v:=fun j v hj=>by rw [qc2 ho (hK _ (List.mem_of_getElem? hi))];exact h2 j v hj
 simp [execOp,hρ x _ hx,Instr.loadAt,Instr.sureAddr,qdi (hT.at_ ht) hk h1 hc]
def qu8{t b off:Nat}{x:Operand}{ti:TI}(hx:lk fr x=some (.pointer (some ⟨b,off,none⟩)))(ht:qay TT t=some ti)(hk:qeg ti.kind=true)
  (hv:s0.cell? ⟨b,off,none⟩=some v):QE P TT D fr (.load t x) ty K s0 v:=fun hT dst pos af g ρ hρ L s ho hl _=>by
 simp [execOp,hρ x _ hx,Instr.loadAt,Instr.sureAddr,qdj (hT.at_ ht) hk (qec ho (hl.cell hv))]
def qat{t b off:Nat}{x:Operand}{ti:TI}{vs:List Value}(hx:lk fr x=some (.pointer (some ⟨b,off,none⟩)))(ht:qay TT t=some ti)(hk:qeg ti.kind=false)
  (hv:CellsAt s0 b off vs) (hl:vs.length=ti.size):QE P TT D fr (.load t x) ty K s0 (.agg vs.toArray):=fun hT dst pos af g ρ hρ L s ho hle _=>by
 simp [execOp,hρ x _ hx,Instr.loadAt,Instr.sureAddr,qdi (hT.at_ ht) hk hl (fun j v hj=>qec ho (hle.cell (hv j v hj)))]
def qa8{t b off:Nat}{x:Operand}{ti:TI}{vs:List Value}(j:Nat)(hx:lk fr x=some (.pointer (some ⟨b,off+j,none⟩)))(ht:qay TT t=some ti)(hk:qeg ti.kind=true)
  (hv:CellsAt s0 b off vs) (hj:nth vs j=some v):QE P TT D fr (.load t x) ty K s0 v:=qu8 hx ht hk (hv j v (by rw [← qdK];exact hj))
def qak{t b off:Nat}{x:Operand}{ti:TI}{vs:List Value}(hx:lk fr x=some (.pointer (some ⟨b,off,none⟩)))(ht:qay TT t=some ti)(hk:qeg ti.kind=true)
  (hv:CellsAt s0 b off vs) (hj:nth vs 0=some v):QE P TT D fr (.load t x) ty K s0 v:=qu8 hx ht hk (hv 0 v (by rw [← qdK];exact hj))
def qbx(zs:List Value)(off:Nat)(vs:List Value):List Value:=match vs with
 | []=>zs
 | v::vs=>match zs,off with
  | [],_=>[]
  | _::zs,0=>v::qbx zs 0 vs
  | z::zs,o+1=>z::qbx zs o (v::vs)
def qdl(zs:List Value)(off:Nat)(vs:List Value)(h:off+vs.length≤zs.length):qbx zs off vs=zs.take off++vs++zs.drop (off+vs.length):=by
 induction zs generalizing off vs with
 | nil=>cases vs<;>simp_all [qbx]
 | cons z zs ih=>
  cases vs with
  | nil=>simp [qbx]
  | cons v vs=>
   cases off with
   | zero=>simp only [qbx];rw [ih 0 vs (by simp at h ⊢;omega)];simp
   | succ o=>simp only [qbx];rw [ih o (v::vs) (by simp at h ⊢;omega)];simp;rw [show o+1+(vs.length+1)=(o+(vs.length+1))+1 by omega];rfl
def qfC{t:Nat}{cs:Array Value}{fz:Nat×Nat}(h:w.heap[b]?=some (.cells cs t fz))(ds:Array Value):w.setRow b ds=qbq w b (.cells ds t fz):=by
  refine qdA (qdv fun k=>?_) Z Z Z Z;by_cases hk:k=b
  · subst hk
    rw [setRow_heap w k cs ds t fz h,qdk];rcases Nat.lt_or_ge k w.heap.size with h1|h1
    · exact h1
    · rw [Array.getElem?_eq_none h1] at h;cases h
  · rw [setRow_other w b k ds hk,qbT _ (fun e=>hk e.symm)]
def qqR{t b off:Nat}{x y:Operand}{ti:TI}{t':Nat}{zs:List Value}(i:Nat)(zs':List Value)(hx:lk fr x=some (.pointer (some ⟨b,off,none⟩)))(hy:lk fr y=some v)(hi:L[i]?=some (b,cb zs t'))(ht:qay TT t=some ti)
  (hl:(qa2 v).length=ti.size) (hle:Nat.ble (off+ti.size) zs.length=true) (h1:(qa2 v).all (·.oneCell')=true) (hs:qbx zs off (qa2 v)=zs'):Ev P TT D fr (.store t x y) ty L s .skip (qch L i (cb zs' t')) s:=fun hT ho dst pos af g ρ hρ=>⟨by
  have hg:=qa3 ho (List.mem_of_getElem? hi);have hle':off+ti.size≤zs.length:=Nat.le_of_ble_eq_true hle;have hst:=run_storeCells_at (P:=P) b off t' (qa2 v) 0 zs.toArray (fill L s) hg (by simp [hl];omega) Q6;rw [qcG ho hi,← hs,qdl zs off (qa2 v) (by rw [hl];exact hle'),cb,← qfC hg];simp only [Nat.add_zero,List.toList_toArray] at hst;have hsz:(qa2 v).toArray.size=ti.size:=by simpa using hl
  simp only [execOp,hρ x _ hx,hρ y _ hy,Instr.storeAt,Instr.sureAddr,storeVar,qdt,Sem.run_bind,Sem.run_pure,Result.andThen_ok,qbw (hT.at_ ht),hsz,ne_eq,not_true,if_false,hst,List.toList_toArray],qel ho _ _⟩
def qeV{t b off:Nat}{x y:Operand}{ti:TI}{t':Nat}{zs:List Value}(i:Nat)(zs':List Value){L':Hl}(hx:lk fr x=some (.pointer (some ⟨b,off,none⟩)))(hy:lk fr y=some v)(hi:L[i]?=some (b,cb zs t'))(ht:qay TT t=some ti)
  (hl:(qa2 v).length=ti.size) (hle:Nat.ble (off+ti.size) zs.length=true) (h1:(qa2 v).all (·.oneCell')=true) (hs:qbx zs off (qa2 v)=zs') (hL:qch L i (cb zs' t')=L')
  (k:JO P TT D n ops Q rest fr L' s):JO P TT D n ops Q (⟨none,.store t x y,ty,pos,af,none⟩::rest) fr L s:=by
 subst hL;exact qqZ (qqR i zs' hx hy hi ht hl hle h1 hs) k
def Wt{t b off:Nat}{x y:Operand}{ti:TI}{t':Nat}{zs:List Value}(i:Nat)(zs':List Value){L':Hl}(hY:(lk fr x=some (.pointer (some ⟨b,off,none⟩)))∧(lk fr y=some v)∧(L[i]?=some (b,cb zs t'))∧(qay TT t=some ti)∧((qa2 v).length=ti.size)∧(Nat.ble (off+ti.size) zs.length=true)∧((qa2 v).all (·.oneCell')=true)∧(qbx zs off (qa2 v)=zs')∧(qch L i (cb zs' t')=L'))
  (k:JO P TT D n ops Q rest fr L' s):JO P TT D n ops Q (⟨none,.store t x y,ty,pos,af,none⟩::rest) fr L s:=qeV i zs' hY.1 hY.2.1 hY.2.2.1 hY.2.2.2.1 hY.2.2.2.2.1 hY.2.2.2.2.2.1 hY.2.2.2.2.2.2.1 hY.2.2.2.2.2.2.2.1 hY.2.2.2.2.2.2.2.2 k
end
section
variable{P:Program}{TT:qaM}{D n:Nat}{Q:qbs}{fr:Fr}{L L' K:Hl}{s s' s0:World}{ops:Array Oper}{rest:List Oper}{d ty:Nat}{op:Op}{pos:String}{af:Array Edge}{v:Value}
def qmg:List Nat→Nat→Option Nat
 | [],_=>none
 | x::_,0=>some x
 | _::r,k+1=>qmg r k
def qyn(l:List Nat)(i:Nat):qmg l i=l[i]?:=by
 induction l generalizing i with
 | nil=>rfl
 | cons x l ih=>cases i<;>simp [qmg,ih]
def qlm{t:Nat}(h:ti.ok P t)(hk:ti.kind=.st os)(hf:qmg os f=some fo)(w:World):
  (Instr.fieldAt t (.pointer (some ⟨b,off,none⟩)) f).run P w=.ok (.pointer (some ⟨b,off+fo,none⟩)) w:=by
 obtain ⟨h1,h2,_,_,_,_,_,h8,_⟩:=h;rw [hk] at h2;cases hd:ti.desc with
 | struct fs=>
  rw [hd] at h1 h2 h8;simp only [TK.fits] at h2;rw [qyn,← h2,List.getElem?_map] at hf;cases hff:fs.toList[f]? with
  | none=>simp [hff] at hf
  | some fld=>
   simp [hff] at hf;have hpos:0 < P.cellsOf fld.type:=by
    have:=List.all_eq_true.1 (show fs.toList.all (fun f=>decide (0 < P.cellsOf f.type))=true from h8) fld (List.mem_of_getElem? hff);simpa using this
   have hff':fs[f]?=some fld:=by simpa using hff
   have hsz:∀ w,(sizeOf fld.type).run P w=.ok (P.cellsOf fld.type) w:=by
    intro w;unfold Program.cellsOf at hpos ⊢;cases hi:P.info? fld.type with
    | none=>simp [hi] at hpos
    | some i=>simp [sizeOf,typeInfo,hi]
   simp [Instr.fieldAt,run_underlying h1,hff',Instr.sureAddr,fieldPlace,hsz,Nat.pos_iff_ne_zero.1 hpos,add_lit,hf]
 | _=>rw [hd] at h2;simp [TK.fits] at h2
def qbD{t:Nat}(hx:lk fr x=some (.pointer (some ⟨b,off,none⟩)))(ht:qay TT t=some ti)(hk:ti.kind=.st os)(hf:qmg os f=some fo):QE P TT D fr (.fieldAddr t x f) ty K s0 (.pointer (some ⟨b,off+fo,none⟩)):=
 QE.pure fun hT dst pos af g ρ hρ w=>by simp [execOp,hρ x _ hx,qlm (hT.at_ ht) hk hf]
def qaz{t:Nat}(hx:lk fr x=some (.pointer (some ⟨b,off,none⟩)))(ht:qay TT t=some ti)(hk:ti.kind=.st os)(hf:qmg os f=some 0):QE P TT D fr (.fieldAddr t x f) ty K s0 (.pointer (some ⟨b,off,none⟩)):=qbD hx ht hk hf
def qnP{t:Nat}(hx:lk fr x=some (.pointer (some ⟨b,0,none⟩)))(ht:qay TT t=some ti)(hk:ti.kind=.st os)(hf:qmg os f=some fo):QE P TT D fr (.fieldAddr t x f) ty K s0 (.pointer (some ⟨b,fo,none⟩)):=by
 have:=qbD (P:=P) (D:=D) (ty:=ty) (K:=K) (s0:=s0) hx ht hk hf;simpa using this
def We{t:Nat}(hY:(lk fr x=some (.pointer (some ⟨b,0,none⟩)))∧(qay TT t=some ti)∧(ti.kind=.st os)∧(qmg os f=some fo)):QE P TT D fr (.fieldAddr t x f) ty K s0 (.pointer (some ⟨b,fo,none⟩)):=qnP hY.1 hY.2.1 hY.2.2.1 hY.2.2.2
def qf2{t len cap:Nat}{i:Int}(h:ti.ok P t)(hk:ti.kind=.sl e)(he:te.ok P e)(h0:0≤i)(h1:i < len)(w:World):
  (Instr.indexAt t (.slice (some ⟨b,off,none⟩) len cap) (.int ik i)).run P w=.ok (.pointer (some ⟨b,off+i.toNat * te.size,none⟩)) w:=by
 obtain ⟨k1,k2,_⟩:=h;rw [hk] at k2;simp only [TK.fits] at k2;rw [k2] at k1;simp [Instr.indexAt,asIntOf,run_underlying k1,h0,h1,qbw he,add_lit]
def qEC{t e b off len cap:Nat}{x y:Operand}{ti te:TI}{ik:IntKind}{i:Int}(hx:lk fr x=some (.slice (some ⟨b,off,none⟩) len cap))(hy:lk fr y=some (.int ik i))(ht:qay TT t=some ti)(hk:ti.kind=.sl e)(he:qay TT e=some te)
  (h0:0≤i) (h1:i < len):QE P TT D fr (.indexAddr t x y) ty K s0 (.pointer (some ⟨b,off+i.toNat * te.size,none⟩)):=
 QE.pure fun hT dst pos af g ρ hρ w=>by simp [execOp,hρ x _ hx,hρ y _ hy,qf2 (hT.at_ ht) hk (hT.at_ he) h0 h1]
def qaw{t e b off len cap:Nat}{x y:Operand}{ti te:TI}{ik:IntKind}{j sz:Nat}(hx:lk fr x=some (.slice (some ⟨b,off,none⟩) len cap))(hy:lk fr y=some (.int ik (j:Int)))(ht:qay TT t=some ti)(hk:ti.kind=.sl e)(he:qay TT e=some te)
  (hs:te.size=sz) (h1:j < len):QE P TT D fr (.indexAddr t x y) ty K s0 (.pointer (some ⟨b,off+j * sz,none⟩)):=by
 have:=qEC (P:=P) (D:=D) (ty:=ty) (K:=K) (s0:=s0) hx hy ht hk he (Int.natCast_nonneg _) O
 rwa [Int.toNat_natCast,hs] at this
def qaQ{t e b off len cap:Nat}{x y:Operand}{ti te:TI}{ik:IntKind}{j:Nat}(hx:lk fr x=some (.slice (some ⟨b,off,none⟩) len cap))(hy:lk fr y=some (.int ik (j:Int)))(ht:qay TT t=some ti)(hk:ti.kind=.sl e)(he:qay TT e=some te)
  (hs:te.size=1) (h1:j < len):QE P TT D fr (.indexAddr t x y) ty K s0 (.pointer (some ⟨b,off+j,none⟩)):=by
 have:=qaw (P:=P) (D:=D) (ty:=ty) (K:=K) (s0:=s0) hx hy ht hk he hs h1
 rwa [Nat.mul_one] at this
def qu7{t e b off len:Nat}{x y:Operand}{ti te:TI}{ik:IntKind}{j sz:Nat}(hx:lk fr x=some (.pointer (some ⟨b,off,none⟩)))(hy:lk fr y=some (.int ik (j:Int)))(ht:qay TT t=some ti)(hk:ti.kind=.ar len e)(he:qay TT e=some te)
  (hs:te.size=sz) (h1:j < len):QE P TT D fr (.indexAddr t x y) ty K s0 (.pointer (some ⟨b,off+j * sz,none⟩)):=
 QE.pure fun hT dst pos af g ρ hρ w=>by
  obtain ⟨k1,k2,_⟩:=hT.at_ ht;rw [hk] at k2;simp only [TK.fits] at k2;rw [k2] at k1;simp [execOp,hρ x _ hx,hρ y _ hy,Instr.indexAt,asIntOf,run_underlying k1,Instr.sureAddr,h1,qbw (hT.at_ he),add_lit,hs]
def qhB{t:Nat}{c:UInt8}(hx:lk fr x=some (St l))(hy:lk fr y=some (.int ik (j:Int)))(ht:qay TT t=some ti)(hk:ti.desc=.string)(hc:l[j]?=some c):QE P TT D fr (.index t x y) ty K s0 (.int .u8 (c.toNat:Int)):=
 QE.pure fun hT dst pos af g ρ hρ w=>by
  have k1:=(hT.at_ ht).1;rw [hk] at k1;have hb:(⟨l.toArray⟩:ByteArray)[j]?=some c:=by
   obtain ⟨hlt,hv⟩:=List.getElem?_eq_some_iff.1 hc;have hlt':j < (⟨l.toArray⟩:ByteArray).size:=by simpa [ByteArray.size] using hlt
   rw [getElem?_pos (⟨l.toArray⟩:ByteArray) j hlt'];simp only [ByteArray.getElem_eq_getElem_data,List.getElem_toArray,hv]
  simp [execOp,hρ x _ hx,hρ y _ hy,Instr.index,asIntOf,run_underlying k1,hb]
def qbc{t:Nat}{A:Option Addr}{c:Nat}(hx:lk fr x=some (.slice A m c))(ht:qay TT t=some ti)(hk:ti.kind=.sl e):QE P TT D fr (.call { callee:=.builtin .len,args:=#[x],argTypes:=#[t] }) ty K s0 (.int .i64 (m:Int)):=
 QE.pure fun hT dst pos af g ρ hρ w=>by
  obtain ⟨k1,k2,_⟩:=hT.at_ ht;rw [hk] at k2;simp only [TK.fits] at k2;rw [k2] at k1;simp [execOp,resolve,invoke,builtin,hρ x _ hx,Builtin.len_,run_underlying k1,goInt]
def qnR{t:Nat}(hx:lk fr x=some (St l))(ht:qay TT t=some ti)(hk:ti.desc=.string):QE P TT D fr (.call { callee:=.builtin .len,args:=#[x],argTypes:=#[t] }) ty K s0 (.int .i64 (l.length:Int)):=
 QE.pure fun hT dst pos af g ρ hρ w=>by
  have k1:=(hT.at_ ht).1;rw [hk] at k1;have hsz:(⟨l.toArray⟩:ByteArray).size=l.length:=by simp [ByteArray.size]
  simp [execOp,resolve,invoke,builtin,hρ x _ hx,Builtin.len_,run_underlying k1,goInt,hsz]
def qgI{t:Nat}{ti':TI}(hx:lk fr x=some (.int ik a))(ht:qay TT t=some ti)(ht':qay TT t'=some ti')(hk:ti.desc=.int ik)(hk':ti'.desc=.int ik'):QE P TT D fr (.convert t t' x) ty K s0 (.int ik' (ik'.wrap a)):=
 QE.pure fun hT dst pos af g ρ hρ w=>by
  have k1:=(hT.at_ ht).1;have k2:=(hT.at_ ht').1;rw [hk] at k1;rw [hk'] at k2;simp [execOp,hρ x _ hx,convert,run_underlying k1,run_underlying k2,Conv.intToInt]
def qbe{t:Nat}{c:Int}{ti':TI}(hx:lk fr x=some (.int ik a))(ht:qay TT t=some ti)(ht':qay TT t'=some ti')(hk:ti.desc=.int ik)(hk':ti'.desc=.int ik')(hc:ik'.wrap a=c):QE P TT D fr (.convert t t' x) ty K s0 (.int ik' c):=hc▸qgI hx ht ht' hk hk'
def lks(fr:Fr):List Operand→Option (List Value)
 | []=>some []
 | x::r=>match lk fr x with
  | some v=>match lks fr r with
   | some vs=>some (v::vs)
   | none=>none
  | none=>none
def qle{fr:Fr}{ρ:Operand→Value}(hρ:∀ x v,lk fr x=some v→ρ x=v){xs:List Operand}(h:lks fr xs=some vs):xs.map ρ=vs:=by
 induction xs generalizing vs with
 | nil=>simp [lks] at h;subst h;rfl
 | cons x xs ih=>
  simp only [lks] at h;cases h1:lk fr x with
  | none=>simp [h1] at h
  | some v=>
   cases h2:lks fr xs with
   | none=>simp [h1,h2] at h
   | some r=>simp [h1,h2] at h;subst h;simp [hρ x v h1,ih h2]
def qbj{f:FuncId}{xs:List Operand}(hv:lks fr xs=some vs):QE P TT D fr (.makeFunc (.func f) #[] xs.toArray) ty K s0 (.func (.func f) #[] vs.toArray):=
 QE.pure fun hT dst pos af g ρ hρ w=>by simp [execOp,Instr.makeFunc,qle hρ hv]
def qil(P:Program)(f:FuncId):Prop:=∃ fn,P.funcs[f]?=some fn∧(fn.name == "runtime.NumGoroutine")=false∧fn.body.isNone=false
def AC(P:Program)(D:Nat)(f:FuncId)(args:List Value)(L:Hl)(s:World)(R:Value→Hl→World→Prop):Prop:=
 qil P f∧(OKL D L s→Calls P f args.toArray (fill L s) fun e w'=>∃ v L' s',e=.returned v∧w'=fill L' s'∧OKL D L' s'∧Le D s s'∧R v L' s')
def AC.mono{f:FuncId}{args:List Value}(h:AC P D f args L s R)(hr:∀ v L' s',Le D s s'→R v L' s'→R' v L' s'):AC P D f args L s R':=
 ⟨h.1,fun ho=>(h.2 ho).mono fun _ _ ⟨v,L',s',h1,h2,h3,h4,h5⟩=>⟨v,L',s',h1,h2,h3,h4,hr _ _ _ h4 h5⟩⟩
def qwe{p:Prop} (h:p:=by
 rintro e w' ⟨v,L',s',rfl,rfl,h4,h5,h6⟩;exact k v L' s' h5 h6 hT _ (hr.put hd v) h4):p:=h
def qwl{p:Prop} (h:p:=by
 have h2':¬ fn.name = "runtime.NumGoroutine" := by simpa using h2
 have h3':¬ fn.body=none:=by intro e;simp [e] at h3
 simp [execOp,resolve,Deferred.ofValue,invoke,callFunc,hρ x _ hx,qle hρ hv,h1,h2',h3']):p:=h
def qcN{f:FuncId}{x:Operand}{xs:List Operand}{first captured vs:List Value}{ts:Array TypeId}{R:Value→Hl→World→Prop}(hx:lk fr x=some (.func (.func f) first.toArray captured.toArray))(hv:lks fr xs=some vs)
  (hd:Nat.blt d n=true) (h:AC P D f (first++vs++captured) L s R) (k:∀ v L' s',Le D s s'→R v L' s'→JO P TT D n ops Q rest ((d,v)::fr) L' s') :
  JO P TT D n ops Q (⟨some d,.call { callee:=.value x,args:=xs.toArray,argTypes:=ts },ty,pos,af,none⟩::rest) fr L s:=fun hT a hr ho=>by
 obtain ⟨⟨fn,h1,h2,h3⟩,hc⟩:=h;have hρ:∀ x v,lk fr x=some v→a.eval x=v:=fun x v hx=>hr.ev hx;simp only [wpList,Region.wanted,if_true];refine .inl ?_;have hrun:(execOp a.eval ⟨some d,.call { callee:=.value x,args:=xs.toArray,argTypes:=ts },ty,pos,af,none⟩).run P (fill L s)=.ok (.enter f (first++vs++captured).toArray) (fill L s):=by
  exact qwl
 simp only [Oper.wp,hrun,Oper.upon];refine (hc ho).mono ?_;exact qwe
def Jc{f:FuncId}{x:Operand}{xs:List Operand}{vs:List Value}{ts:Array TypeId}{R:Value→Hl→World→Prop}(hx:lk fr x=some (.func (.func f) ([]:List Value).toArray ([]:List Value).toArray))(hv:lks fr xs=some vs)
  (hd:Nat.blt d n=true) (h:AC P D f (([]:List Value)++vs++[]) L s R) (k:∀ v L' s',Le D s s'→R v L' s'→JO P TT D n ops Q rest ((d,v)::fr) L' s') :
  JO P TT D n ops Q (⟨some d,.call { callee:=.value x,args:=xs.toArray,argTypes:=ts },ty,pos,af,none⟩::rest) fr L s:=qcN (first:=[]) (captured:=[]) hx hv hd h k
def Je{f:FuncId}{x:Operand}{xs:List Operand}{vs:List Value}{ts:Array TypeId}{w:Value}(hx:lk fr x=some (.func (.func f) ([]:List Value).toArray ([]:List Value).toArray))(hv:lks fr xs=some vs)
  (hd:Nat.blt d n=true) (h:AC P D f (([]:List Value)++vs++[]) L s fun v L' _=>v=w∧L=L') (k:∀ s',Le D s s'→JO P TT D n ops Q rest ((d,w)::fr) L s') :
  JO P TT D n ops Q (⟨some d,.call { callee:=.value x,args:=xs.toArray,argTypes:=ts },ty,pos,af,none⟩::rest) fr L s:=Jc hx hv hd h (fun v L' s' hl e=>by obtain ⟨rfl,rfl⟩:=e;exact k s' hl)
inductive Res(TT:qaM)(fr:Fr)(L:Hl):List ResultVar→List Value→Prop
 | nil:Res TT fr L [] []
 | tmp {t:Nat} {v:Value} {rs vs} (h:qaS fr t=some v) (k:Res TT fr L rs vs):Res TT fr L (.tmp t::rs) (v::vs)
 | one {a t t' b:Nat} {ti:TI} {zs:List Value} {v:Value} {rs vs} (i:Nat) (h:qaS fr a=some (.pointer (some ⟨b,0,none⟩))) (hi:L[i]?=some (b,cb zs t')) (ht:qay TT t=some ti) (hk:qeg ti.kind=true) (hv:nth zs 0=some v) (k:Res TT fr L rs vs):Res TT fr L (.cell a t::rs) (v::vs)
 | agg {a t t' b:Nat} {ti:TI} {zs us:List Value} {rs vs} (i:Nat) (h:qaS fr a=some (.pointer (some ⟨b,0,none⟩))) (hi:L[i]?=some (b,cb zs t')) (ht:qay TT t=some ti) (hk:qeg ti.kind=false) (hv:cut zs 0 ti.size=some us) (k:Res TT fr L rs vs):Res TT fr L (.cell a t::rs) (.agg us.toArray::vs)
def Res.t1{TT:qaM}{fr:Fr}{L:Hl}{t:Nat}{v:Value}(h:qaS fr t=some v):Res TT fr L [.tmp t] [v]:=.tmp h .nil
def qbP:List Value→Value
 | [v]=>v
 | vs=>.tuple vs.toArray
def qvT(tmps:Array Value):ResultVar→Sem Value
 | .tmp t=>pure (tmps.getD t undef)
 | .cell a t=>do loadVar t (← asAddr (tmps.getD a undef))
def qf0(fn:Func)(tmps:Array Value):results fn tmps=(do let vs ← fn.results.mapM (qvT tmps);pure (if h:vs.size=1 then vs[0] else .tuple vs)):=by
 unfold results;congr 1
def Res.run(hT:TabOK P TT){a:Act}(hr:FrRel n a fr)(ho:OKL D L s)(h:Res TT fr L rs vs):
  (rs.mapM (qvT a.tmps)).run P (fill L s)=.ok vs (fill L s):=by
 have hs:∀ t v,qaS fr t=some v→a.tmps.getD t undef=v:=fun t v hv=>by
  have:=hr.slot t (hr.top t v hv) v hv;simp [this]
 induction h with
 | nil=>simp
 | tmp h k ih=>simp only [List.mapM_cons,qvT,hs _ _ h,Sem.run_bind,Sem.run_pure,Result.andThen_ok,ih]
 | one i h hi ht hk hv k ih=>
  rename_i b _ zs v _ _;have hc:(fill L s).cell? ⟨b,0,none⟩=some v:=by rw [qow ho hi,← qdK];exact hv
  simp only [List.mapM_cons,qvT,hs _ _ h,asAddr,Sem.run_bind,Sem.run_pure,Result.andThen_ok,qdj (hT.at_ ht) hk hc,ih]
 | agg i h hi ht hk hv k ih=>
  rename_i b _ zs us _ _;obtain ⟨h1,h2⟩:=qiw hv;have hc:∀ j v,us[j]?=some v→(fill L s).cell? ⟨b,0+j,none⟩=some v:=fun j v hj=>by rw [qow ho hi];exact h2 j v hj
  simp only [List.mapM_cons,qvT,hs _ _ h,asAddr,Sem.run_bind,Sem.run_pure,Result.andThen_ok,qdi (hT.at_ ht) hk h1 hc,ih]
def qbN(TT:qaM)(D:Nat)(rs:List ResultVar)(s0:World)(R:Value→Hl→World→Prop):qbs:=fun e fr L s=>
 (e=.normal∨e=.ret)∧∃ vs A L',Res TT fr L rs vs∧L=A++L'∧Le D s0 s∧∀ s',Le D s s'→R (qbP vs) L' s'
def slots(k:Nat):List Value→Fr
 | []=>[]
 | v::vs=>(k,v)::slots (k+1) vs
def qdQ(vs:List Value)(k t:Nat):qaS (slots k vs) t=if k≤t then vs[t - k]? else none:=by
  induction vs generalizing k with
  | nil=>simp [slots,qaS]
  | cons v vs ih=>
    rw [slots,qa9,ih];by_cases h:k=t
    · subst h;simp
    · by_cases h2:k+1≤t
      · have:t - k=(t - (k+1))+1:=by omega
        simp [h,h2,show k≤t by omega,this]
      · simp [h,h2,show ¬ k≤t by omega]
def qEq{p:Prop} (h:p:=by
  refine ⟨by simp [hnt];omega,Z,fun t ht v hv=>?_,fun t v hv=>?_⟩
  · rw [qdQ] at hv
    simp at hv;obtain ⟨hlt,_⟩:=List.getElem?_eq_some_iff.1 hv;simp [Array.getElem?_append,hlt];exact (List.getElem?_eq_some_iff.1 hv).2
  · rw [qdQ] at hv
    simp at hv;obtain ⟨hlt,_⟩:=List.getElem?_eq_some_iff.1 hv;omega):p:=h
def Ez25{p:Prop} (h:p:=by
 have h1:=Res.run hT k1 k2 hres;have h2:(fn.results.mapM (qvT a.tmps)).run P (fill (A++L') s1)=.ok vs.toArray (fill (A++L') s1):=by
  rw [Array.mapM_eq_mapM_toList];simp only [map_eq_pure_bind,Sem.run_bind,h1,Result.andThen_ok,Sem.run_pure]
 rw [qf0];simp only [Sem.run_bind,h2,Result.andThen_ok,Sem.run_pure];congr 1;match vs with
 | []=>rfl
 | [v]=>rfl
 | v::u::r=>simp [qbP]):p:=h
def qad{f:FuncId}{fn:Func}{c:Code}{args:List Value}{R:Value→Hl→World→Prop}(hT:TabOK P TT)(hf:P.funcs[f]?=some fn)(hn:(fn.name == "runtime.NumGoroutine")=false)(hb:fn.body=some c)(hnt:fn.ntmps=n)(hle:Nat.ble args.length n=true){rs:List ResultVar}(hrs:fn.results.toList=rs)(fr0:Fr)(hfr:slots 0 args=fr0)
  (h:JC P TT D n (qbN TT D rs s R) c fr0 L s):AC P D f args L s R:=by
 subst hfr;subst hrs;refine ⟨⟨fn,hf,hn,by simp [hb]⟩,fun ho=>calls_of_wp hf hb ?_⟩;have hle':args.length≤n:=Nat.le_of_ble_eq_true hle;have hr:FrRel n { tmps:=args.toArray++Array.replicate (fn.ntmps - args.toArray.size) undef,defers:=[] } (slots 0 args):=by
  exact qEq
 refine wp_mono (h hT _ hr ho) ?_;rintro e a w ⟨fr',L1,s1,k1,k2,rfl,he,vs,A,L',hres,rfl,hle1,hR⟩;obtain ⟨d1,d2,d3⟩:=qbp k2;have hrun:(results fn a.tmps).run P (fill (A++L') s1)=.ok (qbP vs) (fill (A++L') s1):=by
  exact Ez25
 have hpost:∃ v,(results fn a.tmps).run P (fill (A++L') s1)=.ok v (fill (A++L') s1)∧∃ v_1 L'_1 s',Ending.returned v=.returned v_1∧fill (A++L') s1=fill L'_1 s'∧OKL D L'_1 s'∧Le D s s'∧R v_1 L'_1 s':=
  ⟨_,hrun,_,L',fill A s1,rfl,d1,d2,hle1.trans d3,hR _ d3⟩
 rcases he with rfl|rfl
 · exact ⟨k1.defers,hpost⟩
 · exact ⟨k1.defers,hpost⟩
def qaf{J:Fr→Hl→World→Prop}(h:J fr L s):qaJ J Q .normal fr L s:=h
def qzd{J:Fr→Hl→World→Prop}(h:Q .ret fr L s):qaJ J Q .ret fr L s:=h
def qze{J:Fr→Hl→World→Prop}{i:Nat}(h:Q (.exit i) fr L s):qaJ J Q (.exit i) fr L s:=h
def qrs{id:Nat}(h:Q .normal fr L s):qax id Q .normal fr L s:=h
def qrt{id:Nat}(h:Q .ret fr L s):qax id Q .ret fr L s:=h
def qru{id:Nat}(h:Q .normal fr L s):qax id Q (.exit id) fr L s:=by simpa [qax] using h
def qon{id i:Nat}(hi:Nat.beq i id=false)(h:Q (.exit i) fr L s):qax id Q (.exit i) fr L s:=by
 have:i≠id:=fun e=>by subst e;simp at hi
 simpa [qax,this] using h
def qas{s0:World}{e:Exit}(A L':Hl)(he:e=.normal∨e=.ret)(h:Res TT fr L rs vs)(hL:L=A++L')(hl:Le D s0 s)(hR:∀ s',Le D s s'→R (qbP vs) L' s'):qbN TT D rs s0 R e fr L s:=
 ⟨he,vs,A,L',h,hL,hl,hR⟩
def rR{s0:World}(A L':Hl)(h:Res TT fr L rs vs)(hL:L=A++L')(hl:Le D s0 s)(hR:∀ s',Le D s s'→R (qbP vs) L' s'):qbN TT D rs s0 R .ret fr L s:=qas A L' (.inr rfl) h hL hl hR
def rX{D r:Nat}{v:Value}{TT:qaM}{s0 s:World}{fr:Fr}{L:Hl}(A L':Hl)(h:qaS fr r=some v)(hl:Le D s0 s)(hR:∀ s',Le D s s'→R (qbP [v]) L' s')(hL:L=A++L':=by exact Z):qbN TT D [.tmp r] s0 R .ret fr L s:=rR A L' (.t1 h) hL hl hR
def rY{D r:Nat}{v:Value}{TT:qaM}{s:World}{fr:Fr}{L:Hl}(h:qaS fr r=some v)(hR:∀ s',Le D s s'→R (qbP [v]) L s'):qbN TT D [.tmp r] s R .ret fr L s:=rR [] L (.t1 h) Z (Lr D) hR
end
def SH(D:Nat)(K:Hl)(s0:World):World→Prop:=fun w=>∃ L s,w=fill L s∧OKL D L s∧Le D s0 s∧∀ x∈K,x∈L
def noPan(Q:Exit→Act→World→Prop):Exit→Act→World→Prop
 | .panic _,_,_=>False
 | e,a,w=>Q e a w
def qsG(D n:Nat)(Q:qbs):Exit→Act→World→Prop
 | .panic ch,a,w=>FrRel n a []∧∃ L s,OKL D L s∧w=fill L s∧∀ fr,Q (.panic ch) fr L s
 | e,a,w=>conc D n Q e a w
def FrRel.bare{a:Act}{fr:Fr}(h:FrRel n a fr):FrRel n a []:=⟨h.size,h.defers,fun t ht v hv=>by simp [qaS] at hv,fun t v hv=>by simp [qaS] at hv⟩
def FrRel.unput{a:Act}{d:Option Nat}(h:FrRel n (a.put d v) []):FrRel n a []:=by
  refine ⟨?_,?_,fun t ht v hv=>by simp [qaS] at hv,fun t v hv=>by simp [qaS] at hv⟩
  · have:=h.size
    cases d<;>simpa [Act.put] using this
  · have:=h.defers
    cases d<;>simpa [Act.put] using this
def JA(P:Program)(TT:qaM)(D n:Nat)(ops:Array Oper)(Q:qbs)(K:Hl)(s0:World)(fuel:Nat)(listed:Array Bool)(fr:Fr)(L:Hl)(s:World):Prop:=
 TabOK P TT→∀ a,FrRel n a fr→OKL D L s→Le D s0 s→(∀ x∈K,x∈L)→wpAnyH P .any ops (qsG D n Q) (SH D K s0) fuel listed a (fill L s)
def JB(P:Program)(TT:qaM)(D n:Nat)(ops:Array Oper)(Q:qbs)(K:Hl)(s0:World)(fuel:Nat)(listed:Array Bool)(i:Nat)(fr:Fr)(L:Hl)(s:World):Prop:=
 TabOK P TT→∀ a,FrRel n a fr→OKL D L s→Le D s0 s→(∀ x∈K,x∈L) →
  wpOp P ops (qsG D n Q) i (fun a' w'=>SH D K s0 w'∧wpAnyH P .any ops (qsG D n Q) (SH D K s0) fuel (listed.setIfInBounds i true) a' w') a (fill L s)
def GOK(ops:Array Oper)(fr:Fr):Option (Nat×Bool)→Prop
 | none=>True
 | some (j,w)=>∃ t,qeJ ops j=some t∧qaS fr t=some (.bool w)
section
variable{P:Program}{TT:qaM}{D n:Nat}{Q:qbs}{fr:Fr}{L L' K:Hl}{s s' s0:World}{ops:Array Oper}{d ty:Nat}{op:Op}{pos:String}{af:Array Edge}{g:Option (Nat×Bool)}{v:Value}{fuel:Nat}{listed:Array Bool}
def GOK.wanted{dst:Option Nat}{a:Act}(hr:FrRel n a fr)(h:GOK ops fr g):Region.wanted ⟨dst,op,ty,pos,af,g⟩ (yielded ops a.tmps)=true:=by
 cases g with
 | none=>rfl
 | some jw=>
  obtain ⟨j,w⟩:=jw;obtain ⟨t,h1,h2⟩:=h;have h3:=hr.slot t (hr.top _ _ h2) _ h2;unfold qeJ at h1;simp [Region.wanted,yielded,h1,h3]
def qhV{L:Hl}{x:Nat×Obj}(h:x∈L.eraseIdx i)(o:Obj):x∈qch L i o:=by
 induction L generalizing i with
 | nil=>simp at h
 | cons y L ih=>
  cases i with
  | zero=>exact List.mem_cons_of_mem _ Q4
  | succ i=>
   simp only [List.eraseIdx_cons_succ,List.mem_cons] at h;rcases h with rfl|h
   · exact List.mem_cons_self ..
   · exact List.mem_cons_of_mem _ (ih h)
def sbY{a b:List α}{x:α}(h:a.Sublist b):(x::a).Sublist (x::b):=List.cons_sublist_cons.2 h
def sbN{a b:List α}{x:α}(h:a.Sublist b):a.Sublist (x::b):=List.Sublist.cons _ h
def sbn2{a b:List α}{x0 x1:α}(h:a.Sublist b):(a).Sublist (x0::x1::b):=sbN (sbN (h))
def sbn3{a b:List α}{x0 x1 x2:α}(h:a.Sublist b):(a).Sublist (x0::x1::x2::b):=sbN (sbN (sbN (h)))
def sbn4{a b:List α}{x0 x1 x2 x3:α}(h:a.Sublist b):(a).Sublist (x0::x1::x2::x3::b):=sbN (sbN (sbN (sbN (h))))
def qgA{a b:List α}{x0 x1:α}(h:a.Sublist b):(x0::x1::a).Sublist (x0::x1::b):=sbY (sbY (h))
def qgn{a b:List α}{x0 x1 x2:α}(h:a.Sublist b):(x0::x1::x2::a).Sublist (x0::x1::x2::b):=sbY (sbY (sbY (h)))
def qkG{a b:List α}{x0 x1 x2 x3:α}(h:a.Sublist b):(x0::x1::x2::x3::a).Sublist (x0::x1::x2::x3::b):=sbY (sbY (sbY (sbY (h))))
def sbE(a:List α):a.Sublist a:=List.Sublist.refl a
def sb0(a:List α):([]:List α).Sublist a:=List.nil_sublist a
def qFZ{a b:List α}{x:α}(h:a.Sublist b)(hx:x∈a):x∈b:=h.subset hx
def sM{a b:List α}(h:a.Sublist b):∀ x∈a,x∈b:=fun _ hx=>h.subset hx
def qaL{id:Nat}{l:List Oper}(hm:P.follows .mixedOrders=true)(N:Nat)(hN:l.length=N)(K:Hl)(hK:∀ x∈K,x∈L)
  (h:∀ s',Le D s s'→JA P TT D n l.toArray Q K s' N (Array.replicate N false) fr L s'):JC P TT D n Q (.region id l.toArray true) fr L s:=fun ht a hr ho=>by
 subst hN;have h1:=h s.drew (Le.drew s) ht a hr ho.drew (Le.refl _) hK;refine wp_mono (wp_region_held (Q:=qsG D n Q) (S:=SH D K s.drew) hm ?_) (fun e a w hq=>by
  cases e with
  | panic ch=>obtain ⟨h1,L1,s1,h2,h3,h4⟩:=hq;exact ⟨[],L1,s1,h1,h2,h3,h4 []⟩
  | _=>exact hq)
 rw [← qjG] at h1;simpa using h1
def qah(hr:Region.ready .any ops listed=[])(h:Q .normal fr L s):JA P TT D n ops Q K s0 fuel listed fr L s:=fun _ a hf ho _ _=>
 wpAnyH_done hr ⟨fr,L,s,hf,ho,rfl,h⟩ fuel
def JA_q(i:Nat)(hi:ops[i]?=some ⟨some d,op,ty,pos,af,g⟩)(hs:Region.noSelect ops=true)(hf:Region.free .any ops listed i=true)(hr:(Region.ready .any ops listed).contains i=true)(hg:GOK ops fr g)
  (hq:QE P TT D fr op ty K s0 v) (hd:Nat.blt d n=true) (k:JA P TT D n ops Q K s0 fuel (listed.setIfInBounds i true) ((d,v)::fr) L s):JA P TT D n ops Q K s0 (fuel+1) listed fr L s:=fun ht a hfr ho hl hK=>by
 refine wpAnyH_take hi hs hf hr (fun _ _ _ h=>⟨h.1.unput,h.2⟩) (v:=v) (.inl ⟨hg.wanted hfr,?_⟩) ⟨L,s,Z,ho,hl,hK⟩ (k ht _ (hfr.put hd v) ho hl hK);rintro w ⟨L2,s2,rfl,h1,h2,h3⟩;exact hq ht _ _ _ _ _ (fun x v hx=>hfr.ev hx) L2 s2 h1 h2 h3
def qEw(i:Nat){j t:Nat}{w b:Bool}(hi:ops[i]?=some ⟨some d,op,ty,pos,af,some (j,w)⟩)(hs:Region.noSelect ops=true)(hf:Region.free .any ops listed i=true)(hr:(Region.ready .any ops listed).contains i=true)
  (hj:qeJ ops j=some t) (hv:qaS fr t=some (.bool b)) (hb:(b != w)=true) (hd:Nat.blt d n=true) (k:JA P TT D n ops Q K s0 fuel (listed.setIfInBounds i true) ((d,undef)::fr) L s):JA P TT D n ops Q K s0 (fuel+1) listed fr L s:=fun ht a hfr ho hl hK=>by
 refine wpAnyH_take hi hs hf hr (fun _ _ _ h=>⟨h.1.unput,h.2⟩) (v:=undef) (.inr ⟨?_,Z⟩) ⟨L,s,Z,ho,hl,hK⟩ (k ht _ (hfr.put hd undef) ho hl hK);have h3:=hfr.slot t (hfr.top _ _ hv) _ hv;unfold qeJ at hj;have hne:(some b == some w)=false:=by cases b<;>cases w<;>simp_all
 simp [Region.wanted,yielded,hj,h3,hne]
def qwo{t:Nat}{b:Bool}(hv:qaS fr t=some (.bool b))(h1:b=true→JA P TT D n ops Q K s0 fuel listed ((t,.bool true)::fr) L s)(h2:b=false→JA P TT D n ops Q K s0 fuel listed ((t,.bool false)::fr) L s):
  JA P TT D n ops Q K s0 fuel listed fr L s:=fun ht a hr ho hl hK=>by
 cases b with
 | true=>exact h1 rfl ht a (hr.sub fun t' v' h=>by rw [qa9] at h;split at h<;>simp_all) ho hl hK
 | false=>exact h2 rfl ht a (hr.sub fun t' v' h=>by rw [qa9] at h;split at h<;>simp_all) ho hl hK
def qgr{t:Nat}[Decidable p](hv:qaS fr t=some (.bool (decide p)))(h1:p→JA P TT D n ops Q K s0 fuel listed ((t,.bool true)::fr) L s)(h2:¬ p→JA P TT D n ops Q K s0 fuel listed ((t,.bool false)::fr) L s):
  JA P TT D n ops Q K s0 fuel listed fr L s:=qwo hv (fun h=>h1 (of_decide_eq_true h)) (fun h=>h2 (of_decide_eq_false h))
def qnG{rs:List Nat}(hr:Region.ready .any ops listed=rs)(hne:rs≠[])(h:∀ i∈rs,JB P TT D n ops Q K s0 fuel listed i fr L s):JA P TT D n ops Q K s0 (fuel+1) listed fr L s:=fun ht a hf ho hl hK=>
 wpAnyH_all hr hne fun i hi=>h i hi ht a hf ho hl hK
def qaq(i:Nat)(hr:Region.ready .any ops listed=[i])(h:JB P TT D n ops Q K s0 fuel listed i fr L s):JA P TT D n ops Q K s0 (fuel+1) listed fr L s:=
 qnG hr (by simp) Q4
def qdB(i j:Nat)(hr:Region.ready .any ops listed=[i,j])(h:JB P TT D n ops Q K s0 fuel listed i fr L s)(h':JB P TT D n ops Q K s0 fuel listed j fr L s):JA P TT D n ops Q K s0 (fuel+1) listed fr L s:=
 qnG hr (by simp) (by simpa using ⟨h,h'⟩)
def qBc(i j m:Nat)(hr:Region.ready .any ops listed=[i,j,m])(h:JB P TT D n ops Q K s0 fuel listed i fr L s)(h':JB P TT D n ops Q K s0 fuel listed j fr L s)(h'':JB P TT D n ops Q K s0 fuel listed m fr L s):JA P TT D n ops Q K s0 (fuel+1) listed fr L s:=
 qnG hr (by simp) (by simpa using ⟨h,h',h''⟩)
def qhz(hi:ops[i]?=some ⟨some d,op,ty,pos,af,g⟩)(hg:GOK ops fr g)(h:Ev P TT D fr op ty L s (.value v) L' s')(hle:Le D s s')(hK':∀ x∈K,x∈L→x∈L')(hd:Nat.blt d n=true)(k:JA P TT D n ops Q K s0 fuel (listed.setIfInBounds i true) ((d,v)::fr) L' s'):
  JB P TT D n ops Q K s0 fuel listed i fr L s:=fun ht a hf ho hl hK=>by
 obtain ⟨h1,h2⟩:=h ht ho (some d) pos af g a.eval (fun x v hx=>hf.ev hx);simp only [wpOp,hi,hg.wanted hf,if_true];refine .inl ?_;simp only [Oper.wp,h1,Oper.upon];have hK2:∀ x∈K,x∈L':=fun x hx=>hK' x hx (hK x hx);exact ⟨⟨L',s',rfl,h2,hl.trans hle,hK2⟩,k ht _ (hf.put hd v) h2 (hl.trans hle) hK2⟩
def qBd(hi:ops[i]?=some ⟨none,op,ty,pos,af,g⟩)(hg:GOK ops fr g)(h:Ev P TT D fr op ty L s .skip L' s')(hle:Le D s s')(hK':∀ x∈K,x∈L→x∈L')(k:JA P TT D n ops Q K s0 fuel (listed.setIfInBounds i true) fr L' s'):
  JB P TT D n ops Q K s0 fuel listed i fr L s:=fun ht a hf ho hl hK=>by
 obtain ⟨h1,h2⟩:=h ht ho none pos af g a.eval (fun x v hx=>hf.ev hx);simp only [wpOp,hi,hg.wanted hf,if_true];refine .inl ?_;simp only [Oper.wp,h1,Oper.upon];have hK2:∀ x∈K,x∈L':=fun x hx=>hK' x hx (hK x hx);exact ⟨⟨L',s',rfl,h2,hl.trans hle,hK2⟩,k ht _ hf h2 (hl.trans hle) hK2⟩
def qbH(hi:ops[i]?=some ⟨some d,op,ty,pos,af,g⟩)(hg:GOK ops fr g)(h:QE P TT D fr op ty L s v)(hd:Nat.blt d n=true)(k:JA P TT D n ops Q K s0 fuel (listed.setIfInBounds i true) ((d,v)::fr) L s):
  JB P TT D n ops Q K s0 fuel listed i fr L s:=
 qhz hi hg (fun ht ho dst pos af g ρ hρ=>⟨h ht dst pos af g ρ hρ L s ho (Le.refl _) (fun _ hx=>hx),ho⟩) (Le.refl _) (fun _ _ h=>h) hd k
def Ez92{p:Prop} (h:p:=by
 have hK2:∀ x∈K,x∈L':=fun x hx=>k1 x hx (hK x hx);exact ⟨⟨L',s',rfl,h4,hl.trans h5,hK2⟩,k2 hT _ (hf.put hd v) h4 (hl.trans h5) hK2⟩):p:=h
def qwq{i:Nat}{f:FuncId}{x:Operand}{xs:List Operand}{first captured vs:List Value}{ts:Array TypeId}{R:Value→Hl→World→Prop}(hi:ops[i]?=some ⟨some d,.call { callee:=.value x,args:=xs.toArray,argTypes:=ts },ty,pos,af,g⟩)(hg:GOK ops fr g)
  (hx:lk fr x=some (.func (.func f) first.toArray captured.toArray)) (hv:lks fr xs=some vs) (hd:Nat.blt d n=true) (h:AC P D f (first++vs++captured) L s R)
  (k:∀ v L' s',Le D s s'→R v L' s'→(∀ x∈K,x∈L→x∈L')∧JA P TT D n ops Q K s0 fuel (listed.setIfInBounds i true) ((d,v)::fr) L' s') :
  JB P TT D n ops Q K s0 fuel listed i fr L s:=fun hT a hf ho hl hK=>by
 obtain ⟨⟨fn,h1,h2,h3⟩,hc⟩:=h;have hρ:∀ x v,lk fr x=some v→a.eval x=v:=fun x v hx=>hf.ev hx;simp only [wpOp,hi,hg.wanted hf,if_true];refine .inl ?_;have hrun:(execOp a.eval ⟨some d,.call { callee:=.value x,args:=xs.toArray,argTypes:=ts },ty,pos,af,g⟩).run P (fill L s)=.ok (.enter f (first++vs++captured).toArray) (fill L s):=by
  exact qwl
 simp only [Oper.wp,hrun,Oper.upon];refine (hc ho).mono ?_;rintro e w' ⟨v,L',s',rfl,rfl,h4,h5,h6⟩;obtain ⟨k1,k2⟩:=k v L' s' h5 h6;exact Ez92
def Jb{i:Nat}{f:FuncId}{x:Operand}{xs:List Operand}{vs:List Value}{ts:Array TypeId}{R:Value→Hl→World→Prop}(hi:ops[i]?=some ⟨some d,.call { callee:=.value x,args:=xs.toArray,argTypes:=ts },ty,pos,af,g⟩)(hg:GOK ops fr g)
  (hx:lk fr x=some (.func (.func f) ([]:List Value).toArray ([]:List Value).toArray)) (hv:lks fr xs=some vs) (hd:Nat.blt d n=true) (h:AC P D f (([]:List Value)++vs++[]) L s R)
  (k:∀ v L' s',Le D s s'→R v L' s'→(∀ x∈K,x∈L→x∈L')∧JA P TT D n ops Q K s0 fuel (listed.setIfInBounds i true) ((d,v)::fr) L' s') :
  JB P TT D n ops Q K s0 fuel listed i fr L s:=qwq (first:=[]) (captured:=[]) hi hg hx hv hd h k
def Jf{i:Nat}{f:FuncId}{x:Operand}{xs:List Operand}{vs:List Value}{ts:Array TypeId}{w:Value}(hi:ops[i]?=some ⟨some d,.call { callee:=.value x,args:=xs.toArray,argTypes:=ts },ty,pos,af,g⟩)(hg:GOK ops fr g)
  (hx:lk fr x=some (.func (.func f) ([]:List Value).toArray ([]:List Value).toArray)) (hv:lks fr xs=some vs) (hd:Nat.blt d n=true) (h:AC P D f (([]:List Value)++vs++[]) L s fun v L' _=>v=w∧L=L')
  (k:∀ s',Le D s s'→JA P TT D n ops Q K s0 fuel (listed.setIfInBounds i true) ((d,w)::fr) L s') :
  JB P TT D n ops Q K s0 fuel listed i fr L s:=Jb hi hg hx hv hd h (fun v L' s' hl e=>by obtain ⟨rfl,rfl⟩:=e;exact ⟨fun _ _ h=>h,k s' hl⟩)
def qaK{i t:Nat}{ti:TI}(hi:ops[i]?=some ⟨some d,.alloc t,ty,pos,af,g⟩)(hg:GOK ops fr g)(ht:qay TT t=some ti)(zs:List Value)(hz:ti.zeros=zs)(hd:Nat.blt d n=true)
  (k:∀ β s',Le D s s'→JA P TT D n ops Q K s0 fuel (listed.setIfInBounds i true) ((d,.pointer (some ⟨β,0,none⟩))::fr) ((β,cb zs t)::L) s'):JB P TT D n ops Q K s0 fuel listed i fr L s:=fun hT a hf ho hl hK=>by
 subst hz;exact qhz hi hg (qgq ht ho) (qaD ho (cb ti.zeros t)).2.2 (fun x _ h=>List.mem_cons_of_mem _ h) hd (k _ _ (qaD ho (cb ti.zeros t)).2.2) hT a hf ho hl hK
def qd0{i0 t b off:Nat}{x y:Operand}{ti:TI}{t':Nat}{zs:List Value}(hi0:ops[i0]?=some ⟨none,.store t x y,ty,pos,af,g⟩)(hg:GOK ops fr g)(i:Nat)(zs':List Value){L':Hl}(hx:lk fr x=some (.pointer (some ⟨b,off,none⟩)))(hy:lk fr y=some v)(hi:L[i]?=some (b,cb zs t'))(ht:qay TT t=some ti)
  (hl:(qa2 v).length=ti.size) (hle:Nat.ble (off+ti.size) zs.length=true) (h1:(qa2 v).all (·.oneCell')=true) (hs:qbx zs off (qa2 v)=zs') (hL:qch L i (cb zs' t')=L') (hK':∀ x∈K,x∈L.eraseIdx i)
  (k:JA P TT D n ops Q K s0 fuel (listed.setIfInBounds i0 true) fr L' s):JB P TT D n ops Q K s0 fuel listed i0 fr L s:=by
 subst hL;exact qBd hi0 hg (qqR i zs' hx hy hi ht hl hle h1 hs) (Le.refl _) (fun x hx _=>qhV (hK' x hx) _) k
def Wu{i0 t b off:Nat}{x y:Operand}{ti:TI}{t':Nat}{zs:List Value}(hi0:ops[i0]?=some ⟨none,.store t x y,ty,pos,af,g⟩)(hg:GOK ops fr g)(i:Nat)(zs':List Value){L':Hl}(hY:(lk fr x=some (.pointer (some ⟨b,off,none⟩)))∧(lk fr y=some v)∧(L[i]?=some (b,cb zs t'))∧(qay TT t=some ti)∧((qa2 v).length=ti.size)∧(Nat.ble (off+ti.size) zs.length=true)∧((qa2 v).all (·.oneCell')=true)∧(qbx zs off (qa2 v)=zs')∧(qch L i (cb zs' t')=L'))(hK':∀ x∈K,x∈L.eraseIdx i)
  (k:JA P TT D n ops Q K s0 fuel (listed.setIfInBounds i0 true) fr L' s):JB P TT D n ops Q K s0 fuel listed i0 fr L s:=qd0 hi0 hg i zs' hY.1 hY.2.1 hY.2.2.1 hY.2.2.2.1 hY.2.2.2.2.1 hY.2.2.2.2.2.1 hY.2.2.2.2.2.2.1 hY.2.2.2.2.2.2.2.1 hY.2.2.2.2.2.2.2.2 hK' k
def qa5{A B:Hl}(h:A.Perm B):∀ s,OKL D A s→fill A s=fill B s:=by
 induction h with
 | nil=>intro s _;rfl
 | cons x _ ih=>intro s ho;simp only [fill];rw [ih s ho.tail]
 | swap x y l=>
  intro s ho;simp only [fill];have:=ho.nd;simp only [List.map_cons,List.nodup_cons,List.mem_cons,not_or] at this;exact qe9 _ _ (fun e=>this.1.1 e.symm)
 | trans h1 h2 ih1 ih2=>
  intro s ho;rw [ih1 s ho,ih2 s ⟨(h1.map _).nodup_iff.1 ho.nd,fun x hx=>ho.dm x (h1.mem_iff.2 hx)⟩]
def OKL.perm{A B:Hl}(h:A.Perm B)(ho:OKL D A s):OKL D B s:=⟨(h.map _).nodup_iff.1 ho.nd,fun x hx=>ho.dm x (h.mem_iff.2 hx)⟩
def Mid{γ:Type}(S:γ→Fr)(H:γ→Hl)(I:γ→World→Prop):Fr→Hl→World→Prop:=fun fr' L' s'=>∃ g A,Keeps fr' (S g)∧L'.Perm (A++H g)∧I g s'
def Mid.mk{γ:Type}{S:γ→Fr}{H:γ→Hl}{I:γ→World→Prop}(g:γ)(A:Hl)(h1:Keeps fr (S g))(h2:L.Perm (A++H g))(h3:I g s):Mid S H I fr L s:=⟨g,A,h1,h2,h3⟩
def qBe{γ:Type}{x y:Code}(S:γ→Fr)(H:γ→Hl)(I:γ→World→Prop)(mono:∀ g s s',I g s→Le D s s'→I g s')(h1:JC P TT D n (qaJ (Mid S H I) Q) x fr L s)
  (h2:∀ g s',I g s'→JC P TT D n Q y (S g) (H g) s'):JC P TT D n Q (.seq x y) fr L s:=fun ht a hr ho=>
 wp_seq (wp_mono (h1 ht a hr ho) fun e a w ⟨fr',L',s',k1,k2,k3,k4⟩=>by
  cases e with
  | normal=>
   subst k3;obtain ⟨g,A,j1,j2,j3⟩:=k4;rw [qa5 j2 _ k2];obtain ⟨e,d1,d2⟩:=qbp (k2.perm j2);rw [e];exact h2 g _ (mono _ _ _ j3 d2) ht a (k1.sub j1) d1
  | _=>exact ⟨fr',L',s',k1,k2,k3,k4⟩)
end
def w64(h1:-9223372036854775808≤a)(h2:a≤9223372036854775807):IntKind.i64.wrap a=a:=by
 rw [IntKind.wrap_i64];omega
def bld(places:List (Nat×Nat)):List Value→List (Nat×Value)→Option (List Value)
 | zs,[]=>some zs
 | zs,(i,v)::rest=>match places[i]? with
  | none=>none
  | some (off,size)=>bif (Nat.beq (qa2 v).length size && Nat.ble (off+size) zs.length) then bld places (qbx zs off (qa2 v)) rest else none
def qf8(vs:List Value)(off k:Nat)(zs:List Value)(h:off+k+vs.length≤zs.length):
  (vs.zipIdx k).foldl (fun (cs:Array Value) (x:Value×Nat)=>cs.setIfInBounds (off+x.2) x.1) zs.toArray=(qbx zs (off+k) vs).toArray:=by
 induction vs generalizing k zs with
 | nil=>cases zs<;>simp [qbx]
 | cons v vs ih=>
  simp only [List.zipIdx_cons,List.foldl_cons];have h0:off+k < zs.length:=by simp at h;omega
  rw [List.setIfInBounds_toArray,ih (k+1) _ (by simp at h ⊢;omega)];congr 1;rw [qdl _ _ _ (by simp at h ⊢;omega),qdl _ _ _ Q4];simp only [List.length_cons];rw [show off+(k+1)=off+k+1 by omega];rw [List.take_succ_eq_append_getElem (by simpa using h0),List.take_set_of_le O,List.drop_set];simp [show ¬ (off+k+1+vs.length≤off+k) by omega,show off+k < off+k+1+vs.length by omega];congr 1;omega
def qlW(places:List (Nat×Nat))(f:Nat→Option (Nat×Nat))(hf:∀ i,f i=places[i]?)(zs:List Value)(parts:List (Nat×Value))(h:bld places zs parts=some vs):
    Instr.fill f zs.toArray parts=some vs.toArray:=by
  induction parts generalizing zs with
  | nil=>simp [bld] at h;subst h;rfl
  | cons p rest ih=>
    obtain ⟨i,v⟩:=p;simp only [bld] at h;simp only [Instr.fill,hf];cases hp:places[i]? with
    | none=>simp [hp] at h
    | some os=>
      obtain ⟨off,size⟩:=os;simp only [hp,cond_eq_ite] at h;by_cases hc:(Nat.beq (qa2 v).length size && Nat.ble (off+size) zs.length)=true
      · simp only [hc,if_true] at h
        simp only [Bool.and_eq_true] at hc;have h1:(qa2 v).length=size:=Nat.eq_of_beq_eq_true hc.1;have h2:off+size≤zs.length:=Nat.le_of_ble_eq_true hc.2;have h3:=qf8 (qa2 v) off 0 zs O;simp only [qdt,List.size_toArray,h1,ne_eq,not_true,decide_false,Bool.false_or,gt_iff_lt,decide_eq_true_eq,show ¬ zs.length < off+size by omega,if_false];have e:(qa2 v).toArray.zipIdx=((qa2 v).zipIdx 0).toArray:=by simp
        rw [e];simp only [List.foldl_toArray,Nat.add_zero] at h3 ⊢;rw [h3];exact ih _ h
      · simp only [hc] at h;cases h
section
variable{P:Program}{TT:qaM}{D n:Nat}{Q:qbs}{fr:Fr}{L L' K:Hl}{s s' s0:World}{ops:Array Oper}{rest:List Oper}{d ty:Nat}{op:Op}{pos:String}{af:Array Edge}{v:Value}
def lkp(fr:Fr):List (Nat×Operand)→Option (List (Nat×Value))
 | []=>some []
 | (i,x)::r=>match lk fr x with
  | some v=>match lkp fr r with
   | some vs=>some ((i,v)::vs)
   | none=>none
  | none=>none
def qpo{fr:Fr}{ρ:Operand→Value}(hρ:∀ x v,lk fr x=some v→ρ x=v){xs:List (Nat×Operand)}{vs:List (Nat×Value)}(h:lkp fr xs=some vs):xs.map (fun p=>(p.1,ρ p.2))=vs:=by
 induction xs generalizing vs with
 | nil=>simp [lkp] at h;subst h;rfl
 | cons p xs ih=>
  obtain ⟨i,x⟩:=p;simp only [lkp] at h;cases h1:lk fr x with
  | none=>simp [h1] at h
  | some v=>
   cases h2:lkp fr xs with
   | none=>simp [h1,h2] at h
   | some r=>simp [h1,h2] at h;subst h;simp [hρ x v h1,ih h2]
def qnl{fs:List Field}{l:List Nat}(h:fs.map (fun f=>P.cellsOf f.type)=l)(hp:fs.all (fun f=>decide (0 < P.cellsOf f.type))=true)(w:World):
  (fs.mapM (m:=Sem) fun f=>do pure (f.offset,← sizeOf f.type)).run P w=.ok ((fs.map (·.offset)).zip l) w:=by
 induction fs generalizing l with
 | nil=>subst h;simp
 | cons f fs ih=>
  subst h;simp only [List.all_cons,Bool.and_eq_true,decide_eq_true_eq] at hp;have hsz:(sizeOf f.type).run P w=.ok (P.cellsOf f.type) w:=by
   have hpos:=hp.1;unfold Program.cellsOf at hpos ⊢;cases hi:P.info? f.type with
   | none=>simp [hi] at hpos
   | some i=>simp [sizeOf,typeInfo,hi]
  simp only [List.mapM_cons,Sem.run_bind,hsz,Result.andThen_ok,Sem.run_pure,ih rfl hp.2,List.map_cons,List.zip_cons_cons]
def qai{t:Nat}{ps:List (Nat×Operand)}{ti:TI}{os:List Nat}(vals:List (Nat×Value))(vs:List Value)(ht:qay TT t=some ti)(hk:ti.kind=.st os)(hv:lkp fr ps=some vals){zs fz:List _}(hz:ti.zeros=zs)(hfz:ti.fsz=fz)
  (hb:bld (os.zip fz) zs vals=some vs):QE P TT D fr (.build t ps.toArray) ty K s0 (.agg vs.toArray):=
 QE.pure fun hT dst pos af g ρ hρ w=>by
  subst hz;subst hfz;have hok:=hT.at_ ht;have hok2:=hok;obtain ⟨h1,h2,_,_,_,_,_,h8,h9⟩:=hok2;rw [hk] at h2;cases hd:ti.desc with
  | struct fs=>
   rw [hd] at h1 h2 h8 h9;simp only [TK.fits] at h2;have hpl:=qnl (P:=P) (w:=w) (fs:=fs.toList) (show fs.toList.map (fun f=>P.cellsOf f.type)=ti.fsz from h9) h8;have hz:ti.zero.cells=ti.zeros.toArray:=qc7 hok;have hpl':(fs.mapM (m:=Sem) fun f=>do pure (f.offset,← sizeOf f.type)).run P w=.ok (os.zip ti.fsz).toArray w:=by
    rw [Array.mapM_eq_mapM_toList];simp only [map_eq_pure_bind,Sem.run_bind,hpl,Result.andThen_ok,Sem.run_pure,h2]
   have hfill:=qlW (os.zip ti.fsz) ((os.zip ti.fsz).toArray[·]?) (fun i=>by simp) ti.zeros vals hb;have hm:(ps.toArray.map fun p=>(p.1,ρ p.2)).toList=vals:=by simpa using qpo hρ hv
   simp only [execOp,Instr.build,Sem.run_bind,qcK hok,Result.andThen_ok,run_underlying h1,hpl',hz];have hm':(ps.toArray.map fun (x:Nat×Operand)=>match x with|(i,x)=>(i,ρ x)).toList=vals:=hm;rw [hm',hfill];rfl
  | _=>rw [hd] at h2;simp [TK.fits] at h2
def qnQ{t e b off len:Nat}{x y:Operand}{ti te:TI}{ik:IntKind}(j:Nat){sz:Nat}(hx:lk fr x=some (.pointer (some ⟨b,off,none⟩)))(hy:lk fr y=some (.int ik (Int.ofNat j)))(ht:qay TT t=some ti)(hk:ti.kind=.ar len e)(he:qay TT e=some te)
  (hs:te.size=1) (h1:j < len):QE P TT D fr (.indexAddr t x y) ty K s0 (.pointer (some ⟨b,off+j,none⟩)):=by
 have:=qu7 (P:=P) (D:=D) (ty:=ty) (K:=K) (s0:=s0) (j:=j) hx hy ht hk he hs h1
 rwa [Nat.mul_one] at this
def qgv(L:Hl):List Nat→Hl
 | []=>L
 | i::r=>qgv (L.eraseIdx i) r
def qau{L:Hl}{r:List Nat}{x:Nat×Obj}(h:x∈qgv L r):x∈L:=by
 induction r generalizing L with
 | nil=>exact h
 | cons i r ih=>exact List.mem_of_mem_eraseIdx (ih h)
def qaU{id:Nat}{l:List Oper}(hm:P.follows .mixedOrders=true)(N:Nat)(hN:l.length=N)(r:List Nat)(hK:∀ x∈qgv L r,x∈L)
  (h:∀ s',Le D s s'→JA P TT D n l.toArray Q (qgv L r) s' N (Array.replicate N false) fr L s'):JC P TT D n Q (.region id l.toArray true) fr L s:=qaL hm N hN _ hK h
def qrX(zs:List Value)(len i:Nat)(h:i < len * zs.length):((List.replicate len zs).flatten)[i]?=zs[i % zs.length]?:=by
 induction len generalizing i with
 | zero=>simp at h
 | succ len ih=>
  rw [List.replicate_succ,List.flatten_cons];by_cases hi:i < zs.length
  · rw [List.getElem?_append_left hi,Nat.mod_eq_of_lt hi]
  · rw [List.getElem?_append_right O,ih (i - zs.length) (by rw [Nat.succ_mul] at h;omega),Nat.mod_eq_sub_mod (by omega:i≥zs.length)]
def qAq(zs:List Value)(len:Nat)(h:0 < zs.length):(Array.range (len * zs.length)).map (fun i=>zs.toArray[i % zs.toArray.size]!)=((List.replicate len zs).flatten).toArray:=by
  apply Array.ext_getElem?;intro i;by_cases hi:i < len * zs.length
  · have hm:i % zs.length < zs.length:=Nat.mod_lt _ h
    have:=qrX zs len i hi;simp only [List.getElem?_toArray,this];simp [hi,hm]
  · have hl:((List.replicate len zs).flatten).length=len * zs.length:=by simp
    rw [Array.getElem?_eq_none Q7,Array.getElem?_eq_none (by simp only [List.size_toArray,hl];omega)]
def qgm(size:Nat):Nat→Nat→List (Nat×Nat)
 | _,0=>[]
 | o,n+1=>(o,size)::qgm size (o+size) n
def qp2(size o n i:Nat)(h:i < n):(qgm size o n)[i]?=some (o+i * size,size):=by
 induction n generalizing o i with
 | zero=>omega
 | succ n ih=>
  cases i with
  | zero=>simp [qgm]
  | succ i=>simp only [qgm,List.getElem?_cons_succ];rw [ih (o+size) i O,Nat.succ_mul];congr 2;omega
def qrT(size len:Nat)(zs:List Value)(parts:List (Nat×Value))(hp:parts.all (fun x=>Nat.blt x.1 len)=true)(h:bld (qgm size 0 len) zs parts=some vs):
    Instr.fill (fun i=>some (i * size,size)) zs.toArray parts=some vs.toArray:=by
  induction parts generalizing zs with
  | nil=>simp [bld] at h;subst h;rfl
  | cons x rest ih=>
    obtain ⟨i,v⟩:=x;simp only [List.all_cons,Bool.and_eq_true] at hp;have hi:i < len:=Nat.le_of_ble_eq_true hp.1;have hg:=qp2 size 0 len i hi;rw [Nat.zero_add] at hg;have h1:=qlW (qgm size 0 len) ((qgm size 0 len)[·]?) (fun _=>rfl) zs ((i,v)::rest) h;simp only [bld,hg,cond_eq_ite] at h;simp only [Instr.fill,hg] at h1 ⊢;by_cases hc:(Nat.beq (qa2 v).length size && Nat.ble (i * size+size) zs.length)=true
    · simp only [hc,if_true] at h
      simp only [Bool.and_eq_true] at hc;have e1:(qa2 v).length=size:=Nat.eq_of_beq_eq_true hc.1;have e2:i * size+size≤zs.length:=Nat.le_of_ble_eq_true hc.2;have h3:=qf8 (qa2 v) (i * size) 0 zs O;simp only [qdt,List.size_toArray,e1,ne_eq,not_true,decide_false,Bool.false_or,gt_iff_lt,decide_eq_true_eq,show ¬ zs.length < i * size+size by omega,if_false];have e:(qa2 v).toArray.zipIdx=((qa2 v).zipIdx 0).toArray:=by simp
      rw [e];simp only [List.foldl_toArray,Nat.add_zero] at h3 ⊢;rw [h3];exact ih _ hp.2 h
    · simp only [hc] at h;cases h
def qhJ{t e len:Nat}{ti te:TI}(hti:ti.ok P t)(hk:ti.kind=.sl e)(hte:te.ok P e)(hsz:Nat.ble (len * te.size) 16777216=true)(hpos:0 < len)(vals:List (Nat×Value))(vs:List Value)(hp:vals.all (fun x=>Nat.blt x.1 len)=true)
  (hb:bld (qgm te.size 0 len) (List.replicate len te.zeros).flatten vals=some vs) (w:World):(Instr.buildSlice t len vals.toArray).run P w=.ok (.slice (some ⟨w.heap.size,0,none⟩) len len) (w.alloc (cb vs e)):=by
 obtain ⟨k1,k2,_⟩:=hti;rw [hk] at k2;simp only [TK.fits] at k2;rw [k2] at k1;have hte2:=hte;obtain ⟨_,_,_,z1,_,z3,_⟩:=hte2;have hz:=qc7 hte;have hle:¬ (2 ^ 24 < len * te.size):=by have:=Nat.le_of_ble_eq_true hsz;omega
 have hne:¬ (len * te.size=0):=by
  intro h0;have:=Nat.mul_pos hpos z3;omega
 have hrow:=qAq te.zeros len O;rw [z1] at hrow;have hfr:=qrT te.size len _ vals hp hb;simp only [Instr.buildSlice,Sem.run_bind,run_underlying k1,Result.andThen_ok,qbw hte,gt_iff_lt,hle,if_false,Sem.run_pure,hne,qcK hte,hz];rw [hrow,hfr];simp only [Sem.run_bind,qhh,Result.andThen_ok,Sem.run_pure];rfl
def qEp{t e len:Nat}{ti te:TI}{ps:List (Nat×Operand)}(vals:List (Nat×Value))(vs:List Value)(ht:qay TT t=some ti)(hk:ti.kind=.sl e)(he:qay TT e=some te)(hv:lkp fr ps=some vals)(hsz:Nat.ble (len * te.size) 16777216=true)(hpos:Nat.blt 0 len=true)(hp:vals.all (fun x=>Nat.blt x.1 len)=true)
  (hb:bld (qgm te.size 0 len) (List.replicate len te.zeros).flatten vals=some vs) (ho:OKL D L s):Ev P TT D fr (.buildSlice t len ps.toArray) ty L s (.value (.slice (some ⟨s.heap.size,0,none⟩) len len)) ((s.heap.size,cb vs e)::L) (s.alloc (dum D)):=fun hT _ dst pos af g ρ hρ=>by
 obtain ⟨h1,h2,h3⟩:=qaD ho (cb vs e);refine ⟨?_,h2⟩;have hm:(ps.toArray.map fun (x:Nat×Operand)=>match x with|(i,x)=>(i,ρ x))=vals.toArray:=by
  have:=qpo hρ hv;rw [← this];simp
 have hpos':0 < len:=Nat.le_of_ble_eq_true hpos;simp only [execOp,hm,Sem.run_bind,qhJ (hT.at_ ht) hk (hT.at_ he) hsz hpos' vals vs hp hb,Result.andThen_ok,Sem.run_pure,qaF];rw [← h1]
def qfO{t:Nat}(ho:OKL D ((b,cb vs t)::L) s):CellsAt (fill [(b,cb vs t)] s) b 0 vs:=fun j v hj=>by
 have h1:OKL D [(b,cb vs t)] s:=⟨by simp,fun x hx=>ho.dm x (by simp at hx;subst hx;exact List.mem_cons_self ..)⟩;rw [qc2 h1 Mc,Nat.zero_add];exact hj
def qwg{p:Prop} (h:p:=by
 rw [← d1];exact (qEp vals vs ht hk he hv hsz hpos hp hb ho hT ho dst pos af g ρ hρ).1):p:=h
def qbd{t e len:Nat}{ti te:TI}{ps:List (Nat×Operand)}(vals:List (Nat×Value))(vs:List Value)(ht:qay TT t=some ti)(hk:ti.kind=.sl e)(he:qay TT e=some te)(hv:lkp fr ps=some vals)(hsz:Nat.ble (len * te.size) 16777216=true)(hpos:Nat.blt 0 len=true)(hp:vals.all (fun x=>Nat.blt x.1 len)=true)
  (hb:bld (qgm te.size 0 len) (List.replicate len te.zeros).flatten vals=some vs) (hd:Nat.blt d n=true) (k:∀ β s',Le D s s'→CellsAt s' β 0 vs→JO P TT D n ops Q rest ((d,.slice (some ⟨β,0,none⟩) len len)::fr) L s') :
  JO P TT D n ops Q (⟨some d,.buildSlice t len ps.toArray,ty,pos,af,none⟩::rest) fr L s:=fun hT a hr ho=>by
 obtain ⟨h1,h2,h3⟩:=qaD ho (cb vs e);obtain ⟨d1,d2,d3⟩:=qbp (A:=[(s.heap.size,cb vs e)]) (B:=L) h2;refine qgH (L':=L) (s':=fill [(s.heap.size,cb vs e)] (s.alloc (dum D))) hd (fun hT _ dst pos af g ρ hρ=>⟨?_,d2⟩) (k _ _ (h3.trans d3) (qfO h2)) hT a hr ho;exact qwg
def qci{i t e len:Nat}{g:Option (Nat×Bool)}{fuel:Nat}{listed:Array Bool}{ti te:TI}{ps:List (Nat×Operand)}(hi:ops[i]?=some ⟨some d,.buildSlice t len ps.toArray,ty,pos,af,g⟩)(hg:GOK ops fr g)(vals:List (Nat×Value))(vs:List Value)(ht:qay TT t=some ti)(hk:ti.kind=.sl e)(he:qay TT e=some te)(hv:lkp fr ps=some vals)(hsz:Nat.ble (len * te.size) 16777216=true)(hpos:Nat.blt 0 len=true)(hp:vals.all (fun x=>Nat.blt x.1 len)=true)
  (hb:bld (qgm te.size 0 len) (List.replicate len te.zeros).flatten vals=some vs) (hd:Nat.blt d n=true) (k:∀ β s',Le D s s'→CellsAt s' β 0 vs→JA P TT D n ops Q K s0 fuel (listed.setIfInBounds i true) ((d,.slice (some ⟨β,0,none⟩) len len)::fr) L s') :
  JB P TT D n ops Q K s0 fuel listed i fr L s:=fun hT a hr ho hl hK=>by
 obtain ⟨h1,h2,h3⟩:=qaD ho (cb vs e);obtain ⟨d1,d2,d3⟩:=qbp (A:=[(s.heap.size,cb vs e)]) (B:=L) h2;refine qhz (L':=L) (s':=fill [(s.heap.size,cb vs e)] (s.alloc (dum D))) hi hg (fun hT _ dst pos af g ρ hρ=>⟨?_,d2⟩) (h3.trans d3) (fun _ _ h=>h) hd (k _ _ (h3.trans d3) (qfO h2)) hT a hr ho hl hK;exact qwg
end
section
variable{P:Program}{TT:qaM}{D n:Nat}{Q:qbs}{fr:Fr}{L L' K:Hl}{s s' s0:World}{ops:Array Oper}{rest:List Oper}{d ty:Nat}{op:Op}{pos:String}{af:Array Edge}{v:Value}
def qfg{y:Nat}{c:BoundsCode}(h:j≤y)(w:World):(Instr.sliceBound (.int ik (j:Int)) y c).run P w=.ok j w:=by simp_all [Instr.sliceBound,asIntOf]
def qiU{t:Nat}{x:Value}{mx:Option Value}(h:ti.ok P t)(hk:ti.kind=.sl e):∀ w,(Instr.sliceAt t x lo hi mx).run P w=(Instr.slice t x lo hi mx).run P w:=by
 obtain ⟨k1,k2,_⟩:=h;rw [hk] at k2;simp only [TK.fits] at k2;rw [k2] at k1;intro w;simp [Instr.sliceAt,run_underlying k1]
def qge{t e:Nat}{A:Option Addr}{m c:Nat}{lo hi:Option Value}{ti te:TI}(h:ti.ok P t)(hk:ti.kind=.sl e)(he:te.ok P e){l u:Nat}(w:World)
  (hb:(Instr.sliceBounds true m c lo hi none).run P w=.ok (l,u,c) w):(Instr.sliceAt t (.slice A m c) lo hi none).run P w=.ok (.slice (if c=l then A else A.map (·.add (l * te.size))) (u - l) (c - l)) w:=by
 rw [qiU h hk];obtain ⟨k1,k2,_⟩:=h;rw [hk] at k2;simp only [TK.fits] at k2;rw [k2] at k1;simp [Instr.slice,run_underlying k1,hb,qbw he]
def add0(A:Option Addr)(k:Nat):A.map (·.add (0 * k))=A:=by cases A<;>simp [Addr.add]
def qgJ{t:Nat}{A:Option Addr}{c:Nat}(hx:lk fr x=some (.slice A m c))(hy:lk fr y=some (.int ik (j:Int)))(ht:qay TT t=some ti)(hk:ti.kind=.sl e)(he:qay TT e=some te)(hj:j≤c):
  QE P TT D fr (.slice t x none (some y) none) ty K s0 (.slice A j c):=
 QE.pure fun hT dst pos af g ρ hρ w=>by
  have hb:(Instr.sliceBounds true m c none (some (.int ik (j:Int))) none).run P w=.ok (0,j,c) w:=by simp [Instr.sliceBounds,qfg hj]
  have hr:=qge (A:=A) (hT.at_ ht) hk (hT.at_ he) w hb;simp only [execOp,hρ x _ hx,Option.map_none,Option.map_some,hρ y _ hy,Sem.run_bind,hr,Result.andThen_ok,Sem.run_pure,add0];simp
def qAN{p:Prop} (h:p:=by
 simp only [execOp,hρ x _ hx,Option.map_none,Option.map_some,hρ y _ hy,Sem.run_bind,hr,Result.andThen_ok,Sem.run_pure]):p:=h
def qnU{t:Nat}{A:Option Addr}{c:Nat}(hx:lk fr x=some (.slice A m c))(hy:lk fr y=some (.int ik (j:Int)))(ht:qay TT t=some ti)(hk:ti.kind=.sl e)(he:qay TT e=some te)(hj:j≤m):
  QE P TT D fr (.slice t x (some y) none none) ty K s0 (.slice (if c=j then A else A.map (·.add (j * te.size))) (m - j) (c - j)):=
 QE.pure fun hT dst pos af g ρ hρ w=>by
  have hb:(Instr.sliceBounds true m c (some (.int ik (j:Int))) none none).run P w=.ok (j,m,c) w:=by simp [Instr.sliceBounds,qfg hj]
  have hr:=qge (A:=A) (hT.at_ ht) hk (hT.at_ he) w hb;exact qAN
def qjQ(l:List UInt8)(lo hi:Nat)(h:lo≤hi):(⟨l.toArray⟩:ByteArray).extract lo hi=⟨((l.drop lo).take (hi - lo)).toArray⟩:=by
 apply ByteArray.ext;simp [List.take_drop,Nat.add_sub_cancel' h]
def qfB{t:Nat}(h:ti.ok P t)(hk:ti.desc=.string){a u:Nat}(hau:a≤u)(w:World)(hb:(Instr.sliceBounds false l.length l.length lo hi none).run P w=.ok (a,u,l.length) w):
  (Instr.sliceAt t (St l) lo hi none).run P w=.ok (St ((l.drop a).take (u - a))) w:=by
 have k1:=h.1;rw [hk] at k1;have hsz:(⟨l.toArray⟩:ByteArray).size=l.length:=by simp [ByteArray.size]
 have hx:=qjQ l a u hau;simp only [Instr.sliceAt,Sem.run_bind,run_underlying k1,Result.andThen_ok,Instr.slice,Option.isSome_none,Bool.false_eq_true,if_false,hsz,hb,Sem.run_pure,hx]
def qBr{t:Nat}{u:Nat}(hx:lk fr x=some (St l))(hy:lk fr y=some (.int ik (u:Int)))(ht:qay TT t=some ti)(hk:ti.desc=.string)(hu:u≤l.length):
  QE P TT D fr (.slice t x none (some y) none) ty K s0 (St (l.take u)):=
 QE.pure fun hT dst pos af g ρ hρ w=>by
  have hb:(Instr.sliceBounds false l.length l.length none (some (.int ik (u:Int))) none).run P w=.ok (0,u,l.length) w:=by simp [Instr.sliceBounds,qfg hu]
  have hr:=qfB (hT.at_ ht) hk (Nat.zero_le u) w hb;simp only [execOp,hρ x _ hx,Option.map_none,Option.map_some,hρ y _ hy,Sem.run_bind,hr,Result.andThen_ok,Sem.run_pure];simp
def qBs{t:Nat}{a:Nat}(hx:lk fr x=some (St l))(hy:lk fr y=some (.int ik (a:Int)))(ht:qay TT t=some ti)(hk:ti.desc=.string)(ha:a≤l.length):
  QE P TT D fr (.slice t x (some y) none none) ty K s0 (St (l.drop a)):=
 QE.pure fun hT dst pos af g ρ hρ w=>by
  have hb:(Instr.sliceBounds false l.length l.length (some (.int ik (a:Int))) none none).run P w=.ok (a,l.length,l.length) w:=by simp [Instr.sliceBounds,qfg ha]
  have hr:=qfB (hT.at_ ht) hk ha w hb;simp only [execOp,hρ x _ hx,Option.map_none,Option.map_some,hρ y _ hy,Sem.run_bind,hr,Result.andThen_ok,Sem.run_pure];have:(l.drop a).take (l.length - a)=l.drop a:=List.take_of_length_le (by simp);rw [this]
end
end Go.FL
