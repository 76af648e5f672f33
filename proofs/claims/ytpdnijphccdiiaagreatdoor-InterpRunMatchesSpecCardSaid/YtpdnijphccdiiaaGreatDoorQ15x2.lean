/- Part 2. -/
import Derived.Test.YtpdnijphccdiiaaGreatDoorQ15x1
import Derived.Shelf.Strings.Builder1
import Derived.Shelf.Strings.Builder2
import Derived.Shelf.Strings.OnBuilder
import Derived.Shelf.Small.Bits
import Derived.Shelf.Small.Wraps
import Derived.Shelf.Strings.BuilderF
import Derived.Shelf.Strings.BuilderK
import Derived.Shelf.Strings.Builder2Cap
import Derived.Shelf.Strconv.Itoa0
import Derived.Shelf.Strconv.Itoa1
import Derived.Shelf.LaysM
import Derived.Shelf.Strconv.Itoa2
import Derived.Shelf.Sort.Plain
import Derived.Shelf.GgClosure.StringsIndexFunc
import Derived.Ground.GgwProg
import Derived.Shelf.GgClosure.StringsIndexFuncTop
import Derived.Shelf.GgClosure.StringsRunes
import Derived.Shelf.Strings.Prefix
import Derived.Shelf.Strings.Fields
import Derived.Shelf.Strings.SplitShaped
import Derived.Shelf.Unicode.Latin
import Derived.Shelf.Bits.Mul64
import Derived.Shelf.Strings.Repeat
import Derived.Shelf.Unicode.Is16White
import Derived.Shelf.Unicode.IsSpaceAny
import Derived.Shelf.Unicode.Is16WhiteD
import Derived.Shelf.Unicode.IsSpaceAnyD
import Derived.Shelf.Strings.FieldsAny
import Derived.Shelf.Strings.FieldsFuncAny
import Derived.Shelf.Unicode.Is16Any
import Derived.Shelf.Unicode.Is32Any
import Derived.Shelf.Unicode.ExclAny
import Derived.Shelf.Strings.FuncGrows
import Derived.Shelf.Strings.FieldsFuncGrows
import Derived.Shelf.Strings.BuilderCap
import Derived.Shelf.Slices.Turned
import Derived.Ground.Names2Prog
import Derived.Shelf.Slices.Clone
import Derived.Shelf.Slices.CompactI
import Derived.Shelf.Slices.SearchI
import Derived.Shelf.Slices.Cells
import Derived.Shelf.Slices.In.SortNone
import Derived.Test.YtpdnijphccdiiaaGreatDoorProg
import Derived.KernelRfl
import Derived.Laws.StructEq
import Derived.Laws.RangeAny
import Derived.Lib.DecodeN
import Derived.Lib.SmallJoins
import Derived.Lib.ItoaMem
import Derived.Lib.AppendStr
import Derived.Laws.IdiomStrings
import Derived.WideLaws
import Derived.Laws.Externs
import Derived.Shelf.Slices.Empties2
import Derived.Lib.Builder
import Derived.Lib.UnsafeStr
set_option linter.unusedVariables false
set_option linter.unusedSimpArgs false
set_option linter.unnecessarySimpa false
set_option maxRecDepth 100000
set_option maxHeartbeats 8000000
namespace Go.Proofs
open Go.Shelf
def Tryz.lays156_ren:Go.Shelf.Ren:=⟨fun | 156=>117 | 165=>160 | 166=>158 | 169=>119 | 240=>186 | 241=>188 | 276=>206 | 277=>211 | n=>n,fun | 31=>54 | 9=>9 | 3=>3 | 4=>4 | 0=>0 | 20=>20 | 72=>181 | 76=>223 | 70=>179 | 37=>26 | 75=>222 | 127=>227 | 164=>260 | 5=>5 | 80=>188 | n=>n,fun | n=>n⟩
theorem Tryz.lays156:Go.Proofs.Lays.n156 Tryz.prog Tryz.lays156_ren:={
 mixed:=by kernel_rfl
 f156:=Tryz.func117.trans (congrArg some V)
 f165:=Tryz.func160.trans (congrArg some V)
 f166:=Tryz.func158.trans (congrArg some V)
 f169:=Tryz.func119.trans (congrArg some V)
 f240:=Tryz.func186.trans (congrArg some V)
 f241:=Tryz.func188.trans (congrArg some V)
 f276:=Tryz.func206.trans (congrArg some V)
 f277:=Tryz.func211.trans (congrArg some V)
 t0:=Tryz.underlying0
 a0:=Tryz.isAgg0
 z0:=Tryz.sizeOf0
 v0:=Tryz.zeroValue0
 t3:=Tryz.underlying3
 a3:=Tryz.isAgg3
 z3:=Tryz.sizeOf3
 v3:=Tryz.zeroValue3
 t4:=Tryz.underlying4
 a4:=Tryz.isAgg4
 z4:=Tryz.sizeOf4
 v4:=Tryz.zeroValue4
 t9:=Tryz.underlying9
 a9:=Tryz.isAgg9
 z9:=Tryz.sizeOf9
 v9:=Tryz.zeroValue9
 t20:=Tryz.underlying20
 a20:=Tryz.isAgg20
 z20:=Tryz.sizeOf20
 v20:=Tryz.zeroValue20
 t31:=Tryz.underlying54
 a31:=Tryz.isAgg54
 z31:=Tryz.sizeOf54
 v31:=Tryz.zeroValue54
 t37:=Tryz.underlying26
 a37:=Tryz.isAgg26
 z37:=Tryz.sizeOf26
 v37:=Tryz.zeroValue26
 t70:=Tryz.underlying179
 a70:=Tryz.isAgg179
 z70:=Tryz.sizeOf179
 v70:=Tryz.zeroValue179
 t72:=Tryz.underlying181
 a72:=Tryz.isAgg181
 z72:=Tryz.sizeOf181
 v72:=Tryz.zeroValue181
 t75:=Tryz.underlying222
 a75:=Tryz.isAgg222
 z75:=Tryz.sizeOf222
 v75:=Tryz.zeroValue222
 t76:=Tryz.underlying223
 a76:=Tryz.isAgg223
 z76:=Tryz.sizeOf223
 v76:=Tryz.zeroValue223
 t127:=Tryz.underlying227
 a127:=Tryz.isAgg227
 z127:=Tryz.sizeOf227
 v127:=Tryz.zeroValue227
 t164:=Tryz.underlying260
 a164:=Tryz.isAgg260
 z164:=Tryz.sizeOf260
 v164:=Tryz.zeroValue260 }
theorem Tryz.Builder_Extra_156:Builder.Extra Tryz.prog Tryz.lays156_ren:={
 sizeBuilder:=by kernel_rfl
 liesBuilder:=by kernel_rfl
 t5:=Tryz.underlying5
 a5:=Tryz.isAgg5
 z5:=Tryz.sizeOf5
 v5:=Tryz.zeroValue5
 infoByte:=by kernel_rfl
 cellsByte:=by kernel_rfl
 sizeByte:=by kernel_rfl
 neB5:=by decide }
def Tryz.lays283_ren:Go.Shelf.Ren:=⟨fun | 283=>207 | n=>n,fun | 3=>3 | 9=>9 | 4=>4 | n=>n,fun | n=>n⟩
theorem Tryz.lays283:Go.Proofs.Lays.n283 Tryz.prog Tryz.lays283_ren:={
 mixed:=by kernel_rfl
 f283:=Tryz.func207.trans (congrArg some V)
 t3:=Tryz.underlying3
 a3:=Tryz.isAgg3
 z3:=Tryz.sizeOf3
 v3:=Tryz.zeroValue3
 t4:=Tryz.underlying4
 a4:=Tryz.isAgg4
 z4:=Tryz.sizeOf4
 v4:=Tryz.zeroValue4
 t9:=Tryz.underlying9
 a9:=Tryz.isAgg9
 z9:=Tryz.sizeOf9
 v9:=Tryz.zeroValue9 }
def Tryz.laysM284_ren:Go.Shelf.Ren:=⟨fun | 284=>208 | 129=>150 | 317=>222 | 318=>223 | n=>n,fun | 53=>195 | 3=>3 | 212=>281 | 0=>0 | 4=>4 | 46=>173 | 5=>5 | 9=>9 | n=>n,fun | 17=>2 | n=>n⟩
theorem Tryz.laysM284:Go.Proofs.LaysM.n284 Tryz.prog Tryz.laysM284_ren:={
 mixed:=by kernel_rfl
 f129:=Tryz.func150.trans (congrArg some V)
 f284:=Tryz.func208.trans (congrArg some V)
 f317:=Tryz.func222.trans (congrArg some V)
 f318:=Tryz.func223.trans (congrArg some V)
 t0:=Tryz.underlying0
 a0:=Tryz.isAgg0
 z0:=Tryz.sizeOf0
 v0:=Tryz.zeroValue0
 t3:=Tryz.underlying3
 a3:=Tryz.isAgg3
 z3:=Tryz.sizeOf3
 v3:=Tryz.zeroValue3
 t4:=Tryz.underlying4
 a4:=Tryz.isAgg4
 z4:=Tryz.sizeOf4
 v4:=Tryz.zeroValue4
 t5:=Tryz.underlying5
 a5:=Tryz.isAgg5
 z5:=Tryz.sizeOf5
 v5:=Tryz.zeroValue5
 t9:=Tryz.underlying9
 a9:=Tryz.isAgg9
 z9:=Tryz.sizeOf9
 v9:=Tryz.zeroValue9
 t46:=Tryz.underlying173
 a46:=Tryz.isAgg173
 z46:=Tryz.sizeOf173
 v46:=Tryz.zeroValue173
 t53:=Tryz.underlying195
 a53:=Tryz.isAgg195
 z53:=Tryz.sizeOf195
 v53:=Tryz.zeroValue195
 t212:=Tryz.underlying281
 a212:=Tryz.isAgg281
 z212:=Tryz.sizeOf281
 v212:=Tryz.zeroValue281
 g17:=by kernel_rfl
 i0:=by kernel_rfl
 i3:=by kernel_rfl
 i4:=by kernel_rfl
 i5:=by kernel_rfl
 i9:=by kernel_rfl
 i46:=by kernel_rfl
 i53:=by kernel_rfl
 i212:=by kernel_rfl
 m17:=by kernel_rfl }
def Tryz.lays285_ren:Go.Shelf.Ren:=⟨fun | 285=>209 | n=>n,fun | 37=>26 | 53=>195 | 3=>3 | 4=>4 | 51=>29 | 9=>9 | 5=>5 | 0=>0 | n=>n,fun | n=>n⟩
theorem Tryz.lays285:Go.Proofs.Lays.n285 Tryz.prog Tryz.lays285_ren:={
 mixed:=by kernel_rfl
 f285:=Tryz.func209.trans (congrArg some V)
 t0:=Tryz.underlying0
 a0:=Tryz.isAgg0
 z0:=Tryz.sizeOf0
 v0:=Tryz.zeroValue0
 t3:=Tryz.underlying3
 a3:=Tryz.isAgg3
 z3:=Tryz.sizeOf3
 v3:=Tryz.zeroValue3
 t4:=Tryz.underlying4
 a4:=Tryz.isAgg4
 z4:=Tryz.sizeOf4
 v4:=Tryz.zeroValue4
 t5:=Tryz.underlying5
 a5:=Tryz.isAgg5
 z5:=Tryz.sizeOf5
 v5:=Tryz.zeroValue5
 t9:=Tryz.underlying9
 a9:=Tryz.isAgg9
 z9:=Tryz.sizeOf9
 v9:=Tryz.zeroValue9
 t37:=Tryz.underlying26
 a37:=Tryz.isAgg26
 z37:=Tryz.sizeOf26
 v37:=Tryz.zeroValue26
 t51:=Tryz.underlying29
 a51:=Tryz.isAgg29
 z51:=Tryz.sizeOf29
 v51:=Tryz.zeroValue29
 t53:=Tryz.underlying195
 a53:=Tryz.isAgg195
 z53:=Tryz.sizeOf195
 v53:=Tryz.zeroValue195 }
def Tryz.laysGw17_ren:Go.Shelf.Ren:=⟨fun | 17=>180 | 15=>200 | 20=>217 | n=>n,fun | 9=>9 | 23=>243 | 4=>4 | 3=>3 | 0=>0 | 21=>21 | n=>n,fun | n=>n⟩
theorem Tryz.laysGw17:Go.Proofs.LaysGw.n17 Tryz.prog Tryz.laysGw17_ren:={
 mixed:=by kernel_rfl
 f15:=Tryz.func200.trans (congrArg some V)
 f17:=Tryz.func180.trans (congrArg some V)
 f20:=Tryz.func217.trans (congrArg some V)
 t0:=Tryz.underlying0
 a0:=Tryz.isAgg0
 z0:=Tryz.sizeOf0
 v0:=Tryz.zeroValue0
 i0:=by kernel_rfl
 t3:=Tryz.underlying3
 a3:=Tryz.isAgg3
 z3:=Tryz.sizeOf3
 v3:=Tryz.zeroValue3
 i3:=by kernel_rfl
 t4:=Tryz.underlying4
 a4:=Tryz.isAgg4
 z4:=Tryz.sizeOf4
 v4:=Tryz.zeroValue4
 i4:=by kernel_rfl
 t9:=Tryz.underlying9
 a9:=Tryz.isAgg9
 z9:=Tryz.sizeOf9
 v9:=Tryz.zeroValue9
 i9:=by kernel_rfl
 t21:=Tryz.underlying21
 a21:=Tryz.isAgg21
 z21:=Tryz.sizeOf21
 v21:=Tryz.zeroValue21
 i21:=by kernel_rfl
 t23:=Tryz.underlying243
 a23:=Tryz.isAgg243
 z23:=Tryz.sizeOf243
 v23:=Tryz.zeroValue243
 i23:=by kernel_rfl }
def Tryz.lays157_ren:Go.Shelf.Ren:=⟨fun | 157=>182 | 229=>201 | 199=>202 | 261=>218 | 311=>227 | 312=>228 | n=>n,fun | 9=>9 | 31=>54 | 3=>3 | 5=>5 | 4=>4 | 119=>254 | 0=>0 | 40=>243 | 152=>271 | 21=>21 | 154=>273 | 51=>29 | 141=>275 | 196=>287 | 193=>284 | 198=>290 | 49=>288 | 194=>285 | 201=>293 | 226=>295 | 46=>173 | 227=>296 | n=>n,fun | 0=>0 | 6=>1 | n=>n⟩
theorem Tryz.lays157:Go.Proofs.Lays.n157 Tryz.prog Tryz.lays157_ren:={
 mixed:=by kernel_rfl
 f157:=Tryz.func182.trans (congrArg some V)
 f199:=Tryz.func202.trans (congrArg some V)
 f229:=Tryz.func201.trans (congrArg some V)
 f261:=Tryz.func218.trans (congrArg some V)
 f311:=Tryz.func227.trans (congrArg some V)
 f312:=Tryz.func228.trans (congrArg some V)
 t0:=Tryz.underlying0
 a0:=Tryz.isAgg0
 z0:=Tryz.sizeOf0
 v0:=Tryz.zeroValue0
 t3:=Tryz.underlying3
 a3:=Tryz.isAgg3
 z3:=Tryz.sizeOf3
 v3:=Tryz.zeroValue3
 t4:=Tryz.underlying4
 a4:=Tryz.isAgg4
 z4:=Tryz.sizeOf4
 v4:=Tryz.zeroValue4
 t5:=Tryz.underlying5
 a5:=Tryz.isAgg5
 z5:=Tryz.sizeOf5
 v5:=Tryz.zeroValue5
 t9:=Tryz.underlying9
 a9:=Tryz.isAgg9
 z9:=Tryz.sizeOf9
 v9:=Tryz.zeroValue9
 t21:=Tryz.underlying21
 a21:=Tryz.isAgg21
 z21:=Tryz.sizeOf21
 v21:=Tryz.zeroValue21
 t31:=Tryz.underlying54
 a31:=Tryz.isAgg54
 z31:=Tryz.sizeOf54
 v31:=Tryz.zeroValue54
 t40:=Tryz.underlying243
 a40:=Tryz.isAgg243
 z40:=Tryz.sizeOf243
 v40:=Tryz.zeroValue243
 t46:=Tryz.underlying173
 a46:=Tryz.isAgg173
 z46:=Tryz.sizeOf173
 v46:=Tryz.zeroValue173
 t49:=Tryz.underlying288
 a49:=Tryz.isAgg288
 z49:=Tryz.sizeOf288
 v49:=Tryz.zeroValue288
 t51:=Tryz.underlying29
 a51:=Tryz.isAgg29
 z51:=Tryz.sizeOf29
 v51:=Tryz.zeroValue29
 t119:=Tryz.underlying254
 a119:=Tryz.isAgg254
 z119:=Tryz.sizeOf254
 t141:=Tryz.underlying275
 a141:=Tryz.isAgg275
 z141:=Tryz.sizeOf275
 v141:=Tryz.zeroValue275
 t152:=Tryz.underlying271
 a152:=Tryz.isAgg271
 z152:=Tryz.sizeOf271
 v152:=Tryz.zeroValue271
 t154:=Tryz.underlying273
 a154:=Tryz.isAgg273
 z154:=Tryz.sizeOf273
 v154:=Tryz.zeroValue273
 t193:=Tryz.underlying284
 a193:=Tryz.isAgg284
 z193:=Tryz.sizeOf284
 v193:=Tryz.zeroValue284
 t194:=Tryz.underlying285
 a194:=Tryz.isAgg285
 z194:=Tryz.sizeOf285
 v194:=Tryz.zeroValue285
 t196:=Tryz.underlying287
 a196:=Tryz.isAgg287
 z196:=Tryz.sizeOf287
 v196:=Tryz.zeroValue287
 t198:=Tryz.underlying290
 a198:=Tryz.isAgg290
 z198:=Tryz.sizeOf290
 v198:=Tryz.zeroValue290
 t201:=Tryz.underlying293
 a201:=Tryz.isAgg293
 z201:=Tryz.sizeOf293
 v201:=Tryz.zeroValue293
 t226:=Tryz.underlying295
 a226:=Tryz.isAgg295
 z226:=Tryz.sizeOf295
 v226:=Tryz.zeroValue295
 t227:=Tryz.underlying296
 a227:=Tryz.isAgg296
 z227:=Tryz.sizeOf296
 v227:=Tryz.zeroValue296
 g0:=by kernel_rfl
 g6:=by kernel_rfl }
def Tryz.lays105_ren:Go.Shelf.Ren:=⟨fun | 105=>185 | 212=>203 | 99=>204 | 165=>160 | 166=>158 | 170=>205 | 169=>119 | 263=>219 | 264=>220 | 206=>221 | 240=>186 | 241=>188 | 276=>206 | 277=>211 | n=>n,fun | 9=>9 | 3=>3 | 4=>4 | 20=>20 | 0=>0 | 46=>173 | 109=>256 | 5=>5 | 72=>181 | 76=>223 | 51=>29 | 146=>276 | 53=>195 | 148=>278 | 70=>179 | 37=>26 | 75=>222 | 127=>227 | 164=>260 | 80=>188 | n=>n,fun | n=>n⟩
theorem Tryz.lays105:Go.Proofs.Lays.n105 Tryz.prog Tryz.lays105_ren:={
 mixed:=by kernel_rfl
 f99:=Tryz.func204.trans (congrArg some V)
 f105:=Tryz.func185.trans (congrArg some V)
 f165:=Tryz.func160.trans (congrArg some V)
 f166:=Tryz.func158.trans (congrArg some V)
 f169:=Tryz.func119.trans (congrArg some V)
 f170:=Tryz.func205.trans (congrArg some V)
 f206:=Tryz.func221.trans (congrArg some V)
 f212:=Tryz.func203.trans (congrArg some V)
 f240:=Tryz.func186.trans (congrArg some V)
 f241:=Tryz.func188.trans (congrArg some V)
 f263:=Tryz.func219.trans (congrArg some V)
 f264:=Tryz.func220.trans (congrArg some V)
 f276:=Tryz.func206.trans (congrArg some V)
 f277:=Tryz.func211.trans (congrArg some V)
 t0:=Tryz.underlying0
 a0:=Tryz.isAgg0
 z0:=Tryz.sizeOf0
 v0:=Tryz.zeroValue0
 t3:=Tryz.underlying3
 a3:=Tryz.isAgg3
 z3:=Tryz.sizeOf3
 v3:=Tryz.zeroValue3
 t4:=Tryz.underlying4
 a4:=Tryz.isAgg4
 z4:=Tryz.sizeOf4
 v4:=Tryz.zeroValue4
 t5:=Tryz.underlying5
 a5:=Tryz.isAgg5
 z5:=Tryz.sizeOf5
 v5:=Tryz.zeroValue5
 t9:=Tryz.underlying9
 a9:=Tryz.isAgg9
 z9:=Tryz.sizeOf9
 v9:=Tryz.zeroValue9
 t20:=Tryz.underlying20
 a20:=Tryz.isAgg20
 z20:=Tryz.sizeOf20
 v20:=Tryz.zeroValue20
 t37:=Tryz.underlying26
 a37:=Tryz.isAgg26
 z37:=Tryz.sizeOf26
 v37:=Tryz.zeroValue26
 t46:=Tryz.underlying173
 a46:=Tryz.isAgg173
 z46:=Tryz.sizeOf173
 v46:=Tryz.zeroValue173
 t51:=Tryz.underlying29
 a51:=Tryz.isAgg29
 z51:=Tryz.sizeOf29
 v51:=Tryz.zeroValue29
 t53:=Tryz.underlying195
 a53:=Tryz.isAgg195
 z53:=Tryz.sizeOf195
 v53:=Tryz.zeroValue195
 t70:=Tryz.underlying179
 a70:=Tryz.isAgg179
 z70:=Tryz.sizeOf179
 v70:=Tryz.zeroValue179
 t72:=Tryz.underlying181
 a72:=Tryz.isAgg181
 z72:=Tryz.sizeOf181
 v72:=Tryz.zeroValue181
 t75:=Tryz.underlying222
 a75:=Tryz.isAgg222
 z75:=Tryz.sizeOf222
 v75:=Tryz.zeroValue222
 t76:=Tryz.underlying223
 a76:=Tryz.isAgg223
 z76:=Tryz.sizeOf223
 v76:=Tryz.zeroValue223
 t109:=Tryz.underlying256
 a109:=Tryz.isAgg256
 z109:=Tryz.sizeOf256
 v109:=Tryz.zeroValue256
 t127:=Tryz.underlying227
 a127:=Tryz.isAgg227
 z127:=Tryz.sizeOf227
 v127:=Tryz.zeroValue227
 t146:=Tryz.underlying276
 a146:=Tryz.isAgg276
 z146:=Tryz.sizeOf276
 v146:=Tryz.zeroValue276
 t148:=Tryz.underlying278
 a148:=Tryz.isAgg278
 z148:=Tryz.sizeOf278
 v148:=Tryz.zeroValue278
 t164:=Tryz.underlying260
 a164:=Tryz.isAgg260
 z164:=Tryz.sizeOf260
 v164:=Tryz.zeroValue260 }
theorem Tryz.Builder_Extra_105:Builder.Extra Tryz.prog Tryz.lays105_ren:={
 sizeBuilder:=by kernel_rfl
 liesBuilder:=by kernel_rfl
 t5:=Tryz.underlying5
 a5:=Tryz.isAgg5
 z5:=Tryz.sizeOf5
 v5:=Tryz.zeroValue5
 infoByte:=by kernel_rfl
 cellsByte:=by kernel_rfl
 sizeByte:=by kernel_rfl
 neB5:=by decide }
end Go.Proofs
namespace Go.FL
open Go Go.Proofs
theorem TabOK.nil{P:Program}:TabOK P []:=fun _ h=>by cases h
theorem TabOK.cons{P:Program}{x:Nat×TI}{r:qaZ}(h:x.2.ok P x.1)(k:TabOK P r):TabOK P (x::r):=fun y hy=>by
 rcases List.mem_cons.1 hy with rfl | hy
 · exact h
 · exact k y hy
abbrev fD9(n:String)(t o:Nat)(p:String)(b:Nat):Field:={ name:=n,type:=t,offset:=o,embedded:=false,tag := "", pkgPath:=p,byteOffset:=b }
def ti2:TI:={ kind:=.sc,desc:=.int .i64,size:=1,bytes:=8,zeros:=[.int .i64 0] }
theorem qsR:ti2.ok Tryz.prog 2:=⟨Tryz.underlying2,trivial,by kernel_rfl,rfl,rfl,by decide,fun _=>rfl,by kernel_rfl,by kernel_rfl⟩
def ti3:TI:={ kind:=.sc,desc:=.int .i64,size:=1,bytes:=8,zeros:=[.int .i64 0] }
theorem qpL:ti3.ok Tryz.prog 3:=⟨Tryz.underlying3,trivial,by kernel_rfl,rfl,rfl,by decide,fun _=>rfl,by kernel_rfl,by kernel_rfl⟩
def ti4:TI:={ kind:=.sc,desc:=.bool,size:=1,bytes:=1,zeros:=[.bool false] }
theorem qs2:ti4.ok Tryz.prog 4:=⟨Tryz.underlying4,trivial,by kernel_rfl,rfl,rfl,by decide,fun _=>rfl,by kernel_rfl,by kernel_rfl⟩
def ti5:TI:={ kind:=.sc,desc:=.int .u8,size:=1,bytes:=1,zeros:=[.int .u8 0] }
theorem qtu:ti5.ok Tryz.prog 5:=⟨Tryz.underlying5,trivial,by kernel_rfl,rfl,rfl,by decide,fun _=>rfl,by kernel_rfl,by kernel_rfl⟩
def ti6:TI:={ kind:=.sc,desc:=.int .u8,size:=1,bytes:=1,zeros:=[.int .u8 0] }
theorem qs9:ti6.ok Tryz.prog 6:=⟨Tryz.underlying6,trivial,by kernel_rfl,rfl,rfl,by decide,fun _=>rfl,by kernel_rfl,by kernel_rfl⟩
def ti7:TI:={ kind:=.st [0,1,2,3],desc:=.struct #[fD9 "x" 2 0 "runtime" 0,fD9 "y" 3 1 "runtime" 8,fD9 "signed" 4 2 "runtime" 16,fD9 "code" 6 3 "runtime" 17],size:=4,bytes:=24,zeros:=[.int .i64 0,.int .i64 0,.bool false,.int .u8 0],fsz:=[1,1,1,1] }
theorem qtH:ti7.ok Tryz.prog 7:=⟨Tryz.underlying7,rfl,by kernel_rfl,rfl,rfl,by decide,(fun h=>by cases h),by kernel_rfl,by kernel_rfl⟩
def ti8:TI:={ kind:=.st [0,1,2,3],desc:=.struct #[fD9 "x" 2 0 "runtime" 0,fD9 "y" 3 1 "runtime" 8,fD9 "signed" 4 2 "runtime" 16,fD9 "code" 6 3 "runtime" 17],size:=4,bytes:=24,zeros:=[.int .i64 0,.int .i64 0,.bool false,.int .u8 0],fsz:=[1,1,1,1] }
theorem qsD:ti8.ok Tryz.prog 8:=⟨Tryz.underlying8,rfl,by kernel_rfl,rfl,rfl,by decide,(fun h=>by cases h),by kernel_rfl,by kernel_rfl⟩
def ti9:TI:={ kind:=.sc,desc:=.string,size:=1,bytes:=16,zeros:=[St []] }
theorem qtr:ti9.ok Tryz.prog 9:=⟨Tryz.underlying9,trivial,by kernel_rfl,rfl,rfl,by decide,fun _=>rfl,by kernel_rfl,by kernel_rfl⟩
def ti10:TI:={ kind:=.sc,desc:=.string,size:=1,bytes:=16,zeros:=[St []] }
theorem qrH:ti10.ok Tryz.prog 10:=⟨Tryz.underlying10,trivial,by kernel_rfl,rfl,rfl,by decide,fun _=>rfl,by kernel_rfl,by kernel_rfl⟩
def ti11:TI:={ kind:=.sc,desc:=.string,size:=1,bytes:=16,zeros:=[St []] }
theorem qrv:ti11.ok Tryz.prog 11:=⟨Tryz.underlying11,trivial,by kernel_rfl,rfl,rfl,by decide,fun _=>rfl,by kernel_rfl,by kernel_rfl⟩
def ti12:TI:={ kind:=.sc,desc:=.int .u64,size:=1,bytes:=8,zeros:=[.int .u64 0] }
theorem qrC:ti12.ok Tryz.prog 12:=⟨Tryz.underlying12,trivial,by kernel_rfl,rfl,rfl,by decide,fun _=>rfl,by kernel_rfl,by kernel_rfl⟩
def ti13:TI:={ kind:=.st [0,1],desc:=.struct #[fD9 "msg" 9 0 "runtime" 0,fD9 "addr" 12 1 "runtime" 16],size:=2,bytes:=24,zeros:=[St [],.int .u64 0],fsz:=[1,1] }
theorem qp9:ti13.ok Tryz.prog 13:=⟨Tryz.underlying13,rfl,by kernel_rfl,rfl,rfl,by decide,(fun h=>by cases h),by kernel_rfl,by kernel_rfl⟩
def ti14:TI:={ kind:=.st [0,1],desc:=.struct #[fD9 "msg" 9 0 "runtime" 0,fD9 "addr" 12 1 "runtime" 16],size:=2,bytes:=24,zeros:=[St [],.int .u64 0],fsz:=[1,1] }
theorem qqy:ti14.ok Tryz.prog 14:=⟨Tryz.underlying14,rfl,by kernel_rfl,rfl,rfl,by decide,(fun h=>by cases h),by kernel_rfl,by kernel_rfl⟩
def ti15:TI:={ kind:=.sc,desc:=.pointer 300,size:=1,bytes:=8,zeros:=[.pointer none] }
theorem qqF:ti15.ok Tryz.prog 15:=⟨Tryz.underlying15,trivial,by kernel_rfl,rfl,rfl,by decide,fun _=>rfl,by kernel_rfl,by kernel_rfl⟩
def ti16:TI:={ kind:=.sc,desc:=.pointer 303,size:=1,bytes:=8,zeros:=[.pointer none] }
theorem qp6:ti16.ok Tryz.prog 16:=⟨Tryz.underlying16,trivial,by kernel_rfl,rfl,rfl,by decide,fun _=>rfl,by kernel_rfl,by kernel_rfl⟩
def ti17:TI:={ kind:=.sc,desc:=.pointer 310,size:=1,bytes:=8,zeros:=[.pointer none] }
theorem qq6:ti17.ok Tryz.prog 17:=⟨Tryz.underlying17,trivial,by kernel_rfl,rfl,rfl,by decide,fun _=>rfl,by kernel_rfl,by kernel_rfl⟩
def ti18:TI:={ kind:=.st [0],desc:=.struct #[fD9 "typ" 17 0 "internal/runtime/maps" 0],size:=1,bytes:=8,zeros:=[.pointer none],fsz:=[1] }
theorem qsh:ti18.ok Tryz.prog 18:=⟨Tryz.underlying18,rfl,by kernel_rfl,rfl,rfl,by decide,(fun h=>by cases h),by kernel_rfl,by kernel_rfl⟩
def ti19:TI:={ kind:=.st [0],desc:=.struct #[fD9 "typ" 17 0 "internal/runtime/maps" 0],size:=1,bytes:=8,zeros:=[.pointer none],fsz:=[1] }
theorem qqO:ti19.ok Tryz.prog 19:=⟨Tryz.underlying19,rfl,by kernel_rfl,rfl,rfl,by decide,(fun h=>by cases h),by kernel_rfl,by kernel_rfl⟩
def ti21:TI:={ kind:=.sc,desc:=.int .i32,size:=1,bytes:=4,zeros:=[.int .i32 0] }
theorem qqU:ti21.ok Tryz.prog 21:=⟨Tryz.underlying21,trivial,by kernel_rfl,rfl,rfl,by decide,fun _=>rfl,by kernel_rfl,by kernel_rfl⟩
def ti22:TI:={ kind:=.sl 53,desc:=.slice 53,size:=1,bytes:=24,zeros:=[.slice none 0 0] }
theorem qsg:ti22.ok Tryz.prog 22:=⟨Tryz.underlying22,rfl,by kernel_rfl,rfl,rfl,by decide,fun _=>rfl,by kernel_rfl,by kernel_rfl⟩
def ti23:TI:={ kind:=.sl 57,desc:=.slice 57,size:=1,bytes:=24,zeros:=[.slice none 0 0] }
theorem qrY:ti23.ok Tryz.prog 23:=⟨Tryz.underlying23,rfl,by kernel_rfl,rfl,rfl,by decide,fun _=>rfl,by kernel_rfl,by kernel_rfl⟩
def ti24:TI:={ kind:=.st [0,1],desc:=.struct #[fD9 "Globals" 22 0 "" 0,fD9 "Functions" 23 1 "" 24],size:=2,bytes:=48,zeros:=[.slice none 0 0,.slice none 0 0],fsz:=[1,1] }
theorem qrF:ti24.ok Tryz.prog 24:=⟨Tryz.underlying24,rfl,by kernel_rfl,rfl,rfl,by decide,(fun h=>by cases h),by kernel_rfl,by kernel_rfl⟩
def ti25:TI:={ kind:=.st [0,1],desc:=.struct #[fD9 "Globals" 22 0 "" 0,fD9 "Functions" 23 1 "" 24],size:=2,bytes:=48,zeros:=[.slice none 0 0,.slice none 0 0],fsz:=[1,1] }
theorem qqS:ti25.ok Tryz.prog 25:=⟨Tryz.underlying25,rfl,by kernel_rfl,rfl,rfl,by decide,(fun h=>by cases h),by kernel_rfl,by kernel_rfl⟩
def ti26:TI:={ kind:=.sl 5,desc:=.slice 5,size:=1,bytes:=24,zeros:=[.slice none 0 0] }
theorem qqa:ti26.ok Tryz.prog 26:=⟨Tryz.underlying26,rfl,by kernel_rfl,rfl,rfl,by decide,fun _=>rfl,by kernel_rfl,by kernel_rfl⟩
def ti29:TI:={ kind:=.sc,desc:=.int .u32,size:=1,bytes:=4,zeros:=[.int .u32 0] }
theorem qr3:ti29.ok Tryz.prog 29:=⟨Tryz.underlying29,trivial,by kernel_rfl,rfl,rfl,by decide,fun _=>rfl,by kernel_rfl,by kernel_rfl⟩
def ti30:TI:={ kind:=.st [0,1,2,3],desc:=.struct #[fD9 "Output" 26 0 "" 0,fD9 "Stop" 3 1 "" 24,fD9 "Code" 29 2 "" 32,fD9 "Steps" 3 3 "" 40],size:=4,bytes:=48,zeros:=[.slice none 0 0,.int .i64 0,.int .u32 0,.int .i64 0],fsz:=[1,1,1,1] }
theorem qqL:ti30.ok Tryz.prog 30:=⟨Tryz.underlying30,rfl,by kernel_rfl,rfl,rfl,by decide,(fun h=>by cases h),by kernel_rfl,by kernel_rfl⟩
def ti31:TI:={ kind:=.st [0,1,2,3],desc:=.struct #[fD9 "Output" 26 0 "" 0,fD9 "Stop" 3 1 "" 24,fD9 "Code" 29 2 "" 32,fD9 "Steps" 3 3 "" 40],size:=4,bytes:=48,zeros:=[.slice none 0 0,.int .i64 0,.int .u32 0,.int .i64 0],fsz:=[1,1,1,1] }
theorem qrR:ti31.ok Tryz.prog 31:=⟨Tryz.underlying31,rfl,by kernel_rfl,rfl,rfl,by decide,(fun h=>by cases h),by kernel_rfl,by kernel_rfl⟩
def ti32:TI:={ kind:=.st [0,1],desc:=.struct #[fD9 "Code" 3 0 "" 0,fD9 "Index" 3 1 "" 8],size:=2,bytes:=16,zeros:=[.int .i64 0,.int .i64 0],fsz:=[1,1] }
theorem qqs:ti32.ok Tryz.prog 32:=⟨Tryz.underlying32,rfl,by kernel_rfl,rfl,rfl,by decide,(fun h=>by cases h),by kernel_rfl,by kernel_rfl⟩
def ti33:TI:={ kind:=.st [0,1],desc:=.struct #[fD9 "Code" 3 0 "" 0,fD9 "Index" 3 1 "" 8],size:=2,bytes:=16,zeros:=[.int .i64 0,.int .i64 0],fsz:=[1,1] }
theorem qrj:ti33.ok Tryz.prog 33:=⟨Tryz.underlying33,rfl,by kernel_rfl,rfl,rfl,by decide,(fun h=>by cases h),by kernel_rfl,by kernel_rfl⟩
def ti46:TI:={ kind:=.sc,desc:=.pointer 51,size:=1,bytes:=8,zeros:=[.pointer none] }
theorem qqD:ti46.ok Tryz.prog 46:=⟨Tryz.underlying46,trivial,by kernel_rfl,rfl,rfl,by decide,fun _=>rfl,by kernel_rfl,by kernel_rfl⟩
def ti47:TI:={ kind:=.sl 29,desc:=.slice 29,size:=1,bytes:=24,zeros:=[.slice none 0 0] }
theorem qqz:ti47.ok Tryz.prog 47:=⟨Tryz.underlying47,rfl,by kernel_rfl,rfl,rfl,by decide,fun _=>rfl,by kernel_rfl,by kernel_rfl⟩
def ti48:TI:={ kind:=.sl 47,desc:=.slice 47,size:=1,bytes:=24,zeros:=[.slice none 0 0] }
theorem qpW:ti48.ok Tryz.prog 48:=⟨Tryz.underlying48,rfl,by kernel_rfl,rfl,rfl,by decide,fun _=>rfl,by kernel_rfl,by kernel_rfl⟩
def ti49:TI:={ kind:=.sl 63,desc:=.slice 63,size:=1,bytes:=24,zeros:=[.slice none 0 0] }
theorem qqg:ti49.ok Tryz.prog 49:=⟨Tryz.underlying49,rfl,by kernel_rfl,rfl,rfl,by decide,fun _=>rfl,by kernel_rfl,by kernel_rfl⟩
def ti50:TI:={ kind:=.st [0,1,2,3,4,5,6,7,8],desc:=.struct #[fD9 "functions" 49 0 "scriptorium/interp" 0,fD9 "globals" 47 1 "scriptorium/interp" 24,fD9 "arrays" 48 2 "scriptorium/interp" 48,fD9 "frame" 47 3 "scriptorium/interp" 72,fD9 "result" 29 4 "scriptorium/interp" 96,fD9 "calls" 3 5 "scriptorium/interp" 104,fD9 "input" 26 6 "scriptorium/interp" 112,fD9 "left" 3 7 "scriptorium/interp" 136,fD9 "out" 31 8 "scriptorium/interp" 144],size:=12,bytes:=192,zeros:=[.slice none 0 0,.slice none 0 0,.slice none 0 0,.slice none 0 0,.int .u32 0,.int .i64 0,.slice none 0 0,.int .i64 0,.slice none 0 0,.int .i64 0,.int .u32 0,.int .i64 0],fsz:=[1,1,1,1,1,1,1,1,4] }
theorem qrB:ti50.ok Tryz.prog 50:=⟨Tryz.underlying50,rfl,by kernel_rfl,rfl,rfl,by decide,(fun h=>by cases h),by kernel_rfl,by kernel_rfl⟩
def ti51:TI:={ kind:=.st [0,1,2,3,4,5,6,7,8],desc:=.struct #[fD9 "functions" 49 0 "scriptorium/interp" 0,fD9 "globals" 47 1 "scriptorium/interp" 24,fD9 "arrays" 48 2 "scriptorium/interp" 48,fD9 "frame" 47 3 "scriptorium/interp" 72,fD9 "result" 29 4 "scriptorium/interp" 96,fD9 "calls" 3 5 "scriptorium/interp" 104,fD9 "input" 26 6 "scriptorium/interp" 112,fD9 "left" 3 7 "scriptorium/interp" 136,fD9 "out" 31 8 "scriptorium/interp" 144],size:=12,bytes:=192,zeros:=[.slice none 0 0,.slice none 0 0,.slice none 0 0,.slice none 0 0,.int .u32 0,.int .i64 0,.slice none 0 0,.int .i64 0,.slice none 0 0,.int .i64 0,.int .u32 0,.int .i64 0],fsz:=[1,1,1,1,1,1,1,1,4] }
theorem qp8:ti51.ok Tryz.prog 51:=⟨Tryz.underlying51,rfl,by kernel_rfl,rfl,rfl,by decide,(fun h=>by cases h),by kernel_rfl,by kernel_rfl⟩
def ti52:TI:={ kind:=.st [0,1,2,3],desc:=.struct #[fD9 "Kind" 3 0 "" 0,fD9 "Name" 9 1 "" 8,fD9 "Number" 29 2 "" 24,fD9 "Initial" 47 3 "" 32],size:=4,bytes:=56,zeros:=[.int .i64 0,St [],.int .u32 0,.slice none 0 0],fsz:=[1,1,1,1] }
theorem qp5:ti52.ok Tryz.prog 52:=⟨Tryz.underlying52,rfl,by kernel_rfl,rfl,rfl,by decide,(fun h=>by cases h),by kernel_rfl,by kernel_rfl⟩
def ti53:TI:={ kind:=.st [0,1,2,3],desc:=.struct #[fD9 "Kind" 3 0 "" 0,fD9 "Name" 9 1 "" 8,fD9 "Number" 29 2 "" 24,fD9 "Initial" 47 3 "" 32],size:=4,bytes:=56,zeros:=[.int .i64 0,St [],.int .u32 0,.slice none 0 0],fsz:=[1,1,1,1] }
theorem qrS:ti53.ok Tryz.prog 53:=⟨Tryz.underlying53,rfl,by kernel_rfl,rfl,rfl,by decide,(fun h=>by cases h),by kernel_rfl,by kernel_rfl⟩
def ti54:TI:={ kind:=.sl 9,desc:=.slice 9,size:=1,bytes:=24,zeros:=[.slice none 0 0] }
theorem qqP:ti54.ok Tryz.prog 54:=⟨Tryz.underlying54,rfl,by kernel_rfl,rfl,rfl,by decide,fun _=>rfl,by kernel_rfl,by kernel_rfl⟩
def ti55:TI:={ kind:=.sl 95,desc:=.slice 95,size:=1,bytes:=24,zeros:=[.slice none 0 0] }
theorem qrI:ti55.ok Tryz.prog 55:=⟨Tryz.underlying55,rfl,by kernel_rfl,rfl,rfl,by decide,fun _=>rfl,by kernel_rfl,by kernel_rfl⟩
def ti56:TI:={ kind:=.st [0,1,2,3],desc:=.struct #[fD9 "Name" 9 0 "" 0,fD9 "Parameters" 54 1 "" 16,fD9 "Locals" 54 2 "" 40,fD9 "Body" 55 3 "" 64],size:=4,bytes:=88,zeros:=[St [],.slice none 0 0,.slice none 0 0,.slice none 0 0],fsz:=[1,1,1,1] }
theorem qr9:ti56.ok Tryz.prog 56:=⟨Tryz.underlying56,rfl,by kernel_rfl,rfl,rfl,by decide,(fun h=>by cases h),by kernel_rfl,by kernel_rfl⟩
def ti57:TI:={ kind:=.st [0,1,2,3],desc:=.struct #[fD9 "Name" 9 0 "" 0,fD9 "Parameters" 54 1 "" 16,fD9 "Locals" 54 2 "" 40,fD9 "Body" 55 3 "" 64],size:=4,bytes:=88,zeros:=[St [],.slice none 0 0,.slice none 0 0,.slice none 0 0],fsz:=[1,1,1,1] }
theorem qru:ti57.ok Tryz.prog 57:=⟨Tryz.underlying57,rfl,by kernel_rfl,rfl,rfl,by decide,(fun h=>by cases h),by kernel_rfl,by kernel_rfl⟩
def ti58:TI:={ kind:=.st [0,2],desc:=.struct #[fD9 "program" 25 0 "scriptorium/interp" 0,fD9 "function" 57 2 "scriptorium/interp" 48],size:=6,bytes:=136,zeros:=[.slice none 0 0,.slice none 0 0,St [],.slice none 0 0,.slice none 0 0,.slice none 0 0],fsz:=[2,4] }
theorem qqd:ti58.ok Tryz.prog 58:=⟨Tryz.underlying58,rfl,by kernel_rfl,rfl,rfl,by decide,(fun h=>by cases h),by kernel_rfl,by kernel_rfl⟩
def ti59:TI:={ kind:=.st [0,2],desc:=.struct #[fD9 "program" 25 0 "scriptorium/interp" 0,fD9 "function" 57 2 "scriptorium/interp" 48],size:=6,bytes:=136,zeros:=[.slice none 0 0,.slice none 0 0,St [],.slice none 0 0,.slice none 0 0,.slice none 0 0],fsz:=[2,4] }
theorem qpQ:ti59.ok Tryz.prog 59:=⟨Tryz.underlying59,rfl,by kernel_rfl,rfl,rfl,by decide,(fun h=>by cases h),by kernel_rfl,by kernel_rfl⟩
def ti60:TI:={ kind:=.sl 114,desc:=.slice 114,size:=1,bytes:=24,zeros:=[.slice none 0 0] }
theorem qrf:ti60.ok Tryz.prog 60:=⟨Tryz.underlying60,rfl,by kernel_rfl,rfl,rfl,by decide,fun _=>rfl,by kernel_rfl,by kernel_rfl⟩
def ti62:TI:={ kind:=.st [0,1],desc:=.struct #[fD9 "size" 3 0 "scriptorium/interp" 0,fD9 "body" 60 1 "scriptorium/interp" 8],size:=2,bytes:=32,zeros:=[.int .i64 0,.slice none 0 0],fsz:=[1,1] }
theorem qqq:ti62.ok Tryz.prog 62:=⟨Tryz.underlying62,rfl,by kernel_rfl,rfl,rfl,by decide,(fun h=>by cases h),by kernel_rfl,by kernel_rfl⟩
def ti63:TI:={ kind:=.st [0,1],desc:=.struct #[fD9 "size" 3 0 "scriptorium/interp" 0,fD9 "body" 60 1 "scriptorium/interp" 8],size:=2,bytes:=32,zeros:=[.int .i64 0,.slice none 0 0],fsz:=[1,1] }
theorem qqV:ti63.ok Tryz.prog 63:=⟨Tryz.underlying63,rfl,by kernel_rfl,rfl,rfl,by decide,(fun h=>by cases h),by kernel_rfl,by kernel_rfl⟩
def ti64:TI:={ kind:=.sc,desc:=.func #[3] #[] false,size:=1,bytes:=8,zeros:=[.nilFunc] }
theorem qpV:ti64.ok Tryz.prog 64:=⟨Tryz.underlying64,trivial,by kernel_rfl,rfl,rfl,by decide,fun _=>rfl,by kernel_rfl,by kernel_rfl⟩
def ti67:TI:={ kind:=.sl 71,desc:=.slice 71,size:=1,bytes:=24,zeros:=[.slice none 0 0] }
theorem qqh:ti67.ok Tryz.prog 67:=⟨Tryz.underlying67,rfl,by kernel_rfl,rfl,rfl,by decide,fun _=>rfl,by kernel_rfl,by kernel_rfl⟩
def ti70:TI:={ kind:=.st [0,1,2,3],desc:=.struct #[fD9 "Name" 9 0 "" 0,fD9 "Use" 9 1 "" 16,fD9 "Count" 3 2 "" 32,fD9 "Loops" 3 3 "" 40],size:=4,bytes:=48,zeros:=[St [],St [],.int .i64 0,.int .i64 0],fsz:=[1,1,1,1] }
theorem qqK:ti70.ok Tryz.prog 70:=⟨Tryz.underlying70,rfl,by kernel_rfl,rfl,rfl,by decide,(fun h=>by cases h),by kernel_rfl,by kernel_rfl⟩
def ti71:TI:={ kind:=.st [0,1,2,3],desc:=.struct #[fD9 "Name" 9 0 "" 0,fD9 "Use" 9 1 "" 16,fD9 "Count" 3 2 "" 32,fD9 "Loops" 3 3 "" 40],size:=4,bytes:=48,zeros:=[St [],St [],.int .i64 0,.int .i64 0],fsz:=[1,1,1,1] }
theorem qqR:ti71.ok Tryz.prog 71:=⟨Tryz.underlying71,rfl,by kernel_rfl,rfl,rfl,by decide,(fun h=>by cases h),by kernel_rfl,by kernel_rfl⟩
def ti72:TI:={ kind:=.st [0,2,3,4,5,6,7,8,9,10,11],desc:=.struct #[fD9 "P" 25 0 "" 0,fD9 "Vars" 47 2 "" 48,fD9 "Arrays" 48 3 "" 72,fD9 "In" 26 4 "" 96,fD9 "Out" 26 5 "" 120,fD9 "Left" 3 6 "" 144,fD9 "Calls" 3 7 "" 152,fD9 "Value" 29 8 "" 160,fD9 "Done" 4 9 "" 164,fD9 "Stop" 3 10 "" 168,fD9 "Code" 29 11 "" 176],size:=12,bytes:=184,zeros:=[.slice none 0 0,.slice none 0 0,.slice none 0 0,.slice none 0 0,.slice none 0 0,.slice none 0 0,.int .i64 0,.int .i64 0,.int .u32 0,.bool false,.int .i64 0,.int .u32 0],fsz:=[2,1,1,1,1,1,1,1,1,1,1] }
theorem qr1:ti72.ok Tryz.prog 72:=⟨Tryz.underlying72,rfl,by kernel_rfl,rfl,rfl,by decide,(fun h=>by cases h),by kernel_rfl,by kernel_rfl⟩
def ti73:TI:={ kind:=.st [0,2,3,4,5,6,7,8,9,10,11],desc:=.struct #[fD9 "P" 25 0 "" 0,fD9 "Vars" 47 2 "" 48,fD9 "Arrays" 48 3 "" 72,fD9 "In" 26 4 "" 96,fD9 "Out" 26 5 "" 120,fD9 "Left" 3 6 "" 144,fD9 "Calls" 3 7 "" 152,fD9 "Value" 29 8 "" 160,fD9 "Done" 4 9 "" 164,fD9 "Stop" 3 10 "" 168,fD9 "Code" 29 11 "" 176],size:=12,bytes:=184,zeros:=[.slice none 0 0,.slice none 0 0,.slice none 0 0,.slice none 0 0,.slice none 0 0,.slice none 0 0,.int .i64 0,.int .i64 0,.int .u32 0,.bool false,.int .i64 0,.int .u32 0],fsz:=[2,1,1,1,1,1,1,1,1,1,1] }
theorem qrc:ti73.ok Tryz.prog 73:=⟨Tryz.underlying73,rfl,by kernel_rfl,rfl,rfl,by decide,(fun h=>by cases h),by kernel_rfl,by kernel_rfl⟩
def ti78:TI:={ kind:=.st [0,1],desc:=.struct #[fD9 "Kind" 3 0 "" 0,fD9 "Index" 3 1 "" 8],size:=2,bytes:=16,zeros:=[.int .i64 0,.int .i64 0],fsz:=[1,1] }
theorem qrO:ti78.ok Tryz.prog 78:=⟨Tryz.underlying78,rfl,by kernel_rfl,rfl,rfl,by decide,(fun h=>by cases h),by kernel_rfl,by kernel_rfl⟩
def ti79:TI:={ kind:=.st [0,1],desc:=.struct #[fD9 "Kind" 3 0 "" 0,fD9 "Index" 3 1 "" 8],size:=2,bytes:=16,zeros:=[.int .i64 0,.int .i64 0],fsz:=[1,1] }
theorem qmv:ti79.ok Tryz.prog 79:=⟨Tryz.underlying79,rfl,by kernel_rfl,rfl,rfl,by decide,(fun h=>by cases h),by kernel_rfl,by kernel_rfl⟩
def ti82:TI:={ kind:=.sl 91,desc:=.slice 91,size:=1,bytes:=24,zeros:=[.slice none 0 0] }
theorem qrG:ti82.ok Tryz.prog 82:=⟨Tryz.underlying82,rfl,by kernel_rfl,rfl,rfl,by decide,fun _=>rfl,by kernel_rfl,by kernel_rfl⟩
def ti87:TI:={ kind:=.sl 89,desc:=.slice 89,size:=1,bytes:=24,zeros:=[.slice none 0 0] }
theorem qsi:ti87.ok Tryz.prog 87:=⟨Tryz.underlying87,rfl,by kernel_rfl,rfl,rfl,by decide,fun _=>rfl,by kernel_rfl,by kernel_rfl⟩
def ti88:TI:={ kind:=.st [0,1,2,3,4],desc:=.struct #[fD9 "Kind" 3 0 "" 0,fD9 "Op" 3 1 "" 8,fD9 "Number" 29 2 "" 16,fD9 "Name" 9 3 "" 24,fD9 "Args" 87 4 "" 40],size:=5,bytes:=64,zeros:=[.int .i64 0,.int .i64 0,.int .u32 0,St [],.slice none 0 0],fsz:=[1,1,1,1,1] }
theorem qp2:ti88.ok Tryz.prog 88:=⟨Tryz.underlying88,rfl,by kernel_rfl,rfl,rfl,by decide,(fun h=>by cases h),by kernel_rfl,by kernel_rfl⟩
def ti89:TI:={ kind:=.st [0,1,2,3,4],desc:=.struct #[fD9 "Kind" 3 0 "" 0,fD9 "Op" 3 1 "" 8,fD9 "Number" 29 2 "" 16,fD9 "Name" 9 3 "" 24,fD9 "Args" 87 4 "" 40],size:=5,bytes:=64,zeros:=[.int .i64 0,.int .i64 0,.int .u32 0,St [],.slice none 0 0],fsz:=[1,1,1,1,1] }
theorem qpS:ti89.ok Tryz.prog 89:=⟨Tryz.underlying89,rfl,by kernel_rfl,rfl,rfl,by decide,(fun h=>by cases h),by kernel_rfl,by kernel_rfl⟩
def ti91:TI:={ kind:=.sl 3,desc:=.slice 3,size:=1,bytes:=24,zeros:=[.slice none 0 0] }
theorem qp4:ti91.ok Tryz.prog 91:=⟨Tryz.underlying91,rfl,by kernel_rfl,rfl,rfl,by decide,fun _=>rfl,by kernel_rfl,by kernel_rfl⟩
def ti94:TI:={ kind:=.st [0,1,2,3,4],desc:=.struct #[fD9 "Kind" 3 0 "" 0,fD9 "Name" 9 1 "" 8,fD9 "Exprs" 87 2 "" 24,fD9 "Body" 55 3 "" 48,fD9 "Else" 55 4 "" 72],size:=5,bytes:=96,zeros:=[.int .i64 0,St [],.slice none 0 0,.slice none 0 0,.slice none 0 0],fsz:=[1,1,1,1,1] }
theorem qqp:ti94.ok Tryz.prog 94:=⟨Tryz.underlying94,rfl,by kernel_rfl,rfl,rfl,by decide,(fun h=>by cases h),by kernel_rfl,by kernel_rfl⟩
def ti95:TI:={ kind:=.st [0,1,2,3,4],desc:=.struct #[fD9 "Kind" 3 0 "" 0,fD9 "Name" 9 1 "" 8,fD9 "Exprs" 87 2 "" 24,fD9 "Body" 55 3 "" 48,fD9 "Else" 55 4 "" 72],size:=5,bytes:=96,zeros:=[.int .i64 0,St [],.slice none 0 0,.slice none 0 0,.slice none 0 0],fsz:=[1,1,1,1,1] }
theorem qqA:ti95.ok Tryz.prog 95:=⟨Tryz.underlying95,rfl,by kernel_rfl,rfl,rfl,by decide,(fun h=>by cases h),by kernel_rfl,by kernel_rfl⟩
def ti96:TI:={ kind:=.sc,desc:=.map 9 79,size:=1,bytes:=8,zeros:=[.map none] }
theorem qp1:ti96.ok Tryz.prog 96:=⟨Tryz.underlying96,trivial,by kernel_rfl,rfl,rfl,by decide,fun _=>rfl,by kernel_rfl,by kernel_rfl⟩
def ti97:TI:={ kind:=.st [0,2],desc:=.struct #[fD9 "program" 25 0 "scriptorium/check" 0,fD9 "globals" 96 2 "scriptorium/check" 48],size:=3,bytes:=56,zeros:=[.slice none 0 0,.slice none 0 0,.map none],fsz:=[2,1] }
theorem qql:ti97.ok Tryz.prog 97:=⟨Tryz.underlying97,rfl,by kernel_rfl,rfl,rfl,by decide,(fun h=>by cases h),by kernel_rfl,by kernel_rfl⟩
def ti98:TI:={ kind:=.st [0,2],desc:=.struct #[fD9 "program" 25 0 "scriptorium/check" 0,fD9 "globals" 96 2 "scriptorium/check" 48],size:=3,bytes:=56,zeros:=[.slice none 0 0,.slice none 0 0,.map none],fsz:=[2,1] }
theorem qrX:ti98.ok Tryz.prog 98:=⟨Tryz.underlying98,rfl,by kernel_rfl,rfl,rfl,by decide,(fun h=>by cases h),by kernel_rfl,by kernel_rfl⟩
def ti100:TI:={ kind:=.sl 4,desc:=.slice 4,size:=1,bytes:=24,zeros:=[.slice none 0 0] }
theorem qoC:ti100.ok Tryz.prog 100:=⟨Tryz.underlying100,rfl,by kernel_rfl,rfl,rfl,by decide,fun _=>rfl,by kernel_rfl,by kernel_rfl⟩
def ti103:TI:={ kind:=.st [0,3],desc:=.struct #[{ name := "names", type:=98,offset:=0,embedded:=true,tag := "", pkgPath := "scriptorium/check", byteOffset:=0 },fD9 "function" 57 3 "scriptorium/check" 56],size:=7,bytes:=144,zeros:=[.slice none 0 0,.slice none 0 0,.map none,St [],.slice none 0 0,.slice none 0 0,.slice none 0 0],fsz:=[3,4] }
theorem qnk:ti103.ok Tryz.prog 103:=⟨Tryz.underlying103,rfl,by kernel_rfl,rfl,rfl,by decide,(fun h=>by cases h),by kernel_rfl,by kernel_rfl⟩
def ti104:TI:={ kind:=.st [0,3],desc:=.struct #[{ name := "names", type:=98,offset:=0,embedded:=true,tag := "", pkgPath := "scriptorium/check", byteOffset:=0 },fD9 "function" 57 3 "scriptorium/check" 56],size:=7,bytes:=144,zeros:=[.slice none 0 0,.slice none 0 0,.map none,St [],.slice none 0 0,.slice none 0 0,.slice none 0 0],fsz:=[3,4] }
theorem qm5:ti104.ok Tryz.prog 104:=⟨Tryz.underlying104,rfl,by kernel_rfl,rfl,rfl,by decide,(fun h=>by cases h),by kernel_rfl,by kernel_rfl⟩
def ti108:TI:={ kind:=.sc,desc:=.pointer 95,size:=1,bytes:=8,zeros:=[.pointer none] }
theorem qoo:ti108.ok Tryz.prog 108:=⟨Tryz.underlying108,trivial,by kernel_rfl,rfl,rfl,by decide,fun _=>rfl,by kernel_rfl,by kernel_rfl⟩
def ti109:TI:={ kind:=.sc,desc:=.pointer 89,size:=1,bytes:=8,zeros:=[.pointer none] }
theorem qok:ti109.ok Tryz.prog 109:=⟨Tryz.underlying109,trivial,by kernel_rfl,rfl,rfl,by decide,fun _=>rfl,by kernel_rfl,by kernel_rfl⟩
def ti110:TI:={ kind:=.st [0,1,2],desc:=.struct #[fD9 "statement" 108 0 "scriptorium/check" 0,fD9 "expr" 109 1 "scriptorium/check" 8,fD9 "loops" 3 2 "scriptorium/check" 16],size:=3,bytes:=24,zeros:=[.pointer none,.pointer none,.int .i64 0],fsz:=[1,1,1] }
theorem qoJ:ti110.ok Tryz.prog 110:=⟨Tryz.underlying110,rfl,by kernel_rfl,rfl,rfl,by decide,(fun h=>by cases h),by kernel_rfl,by kernel_rfl⟩
def ti111:TI:={ kind:=.st [0,1,2],desc:=.struct #[fD9 "statement" 108 0 "scriptorium/check" 0,fD9 "expr" 109 1 "scriptorium/check" 8,fD9 "loops" 3 2 "scriptorium/check" 16],size:=3,bytes:=24,zeros:=[.pointer none,.pointer none,.int .i64 0],fsz:=[1,1,1] }
theorem qny:ti111.ok Tryz.prog 111:=⟨Tryz.underlying111,rfl,by kernel_rfl,rfl,rfl,by decide,(fun h=>by cases h),by kernel_rfl,by kernel_rfl⟩
def ti114:TI:={ kind:=.sc,desc:=.func #[46] #[3] false,size:=1,bytes:=8,zeros:=[.nilFunc] }
theorem qoL:ti114.ok Tryz.prog 114:=⟨Tryz.underlying114,trivial,by kernel_rfl,rfl,rfl,by decide,fun _=>rfl,by kernel_rfl,by kernel_rfl⟩
def ti134:TI:={ kind:=.st [0,1,2],desc:=.struct #[fD9 "name" 9 0 "scriptorium/check" 0,fD9 "kind" 3 1 "scriptorium/check" 16,fD9 "arguments" 3 2 "scriptorium/check" 24],size:=3,bytes:=32,zeros:=[St [],.int .i64 0,.int .i64 0],fsz:=[1,1,1] }
theorem qoj:ti134.ok Tryz.prog 134:=⟨Tryz.underlying134,rfl,by kernel_rfl,rfl,rfl,by decide,(fun h=>by cases h),by kernel_rfl,by kernel_rfl⟩
def ti135:TI:={ kind:=.st [0,1,2],desc:=.struct #[fD9 "name" 9 0 "scriptorium/check" 0,fD9 "kind" 3 1 "scriptorium/check" 16,fD9 "arguments" 3 2 "scriptorium/check" 24],size:=3,bytes:=32,zeros:=[St [],.int .i64 0,.int .i64 0],fsz:=[1,1,1] }
theorem qoG:ti135.ok Tryz.prog 135:=⟨Tryz.underlying135,rfl,by kernel_rfl,rfl,rfl,by decide,(fun h=>by cases h),by kernel_rfl,by kernel_rfl⟩
def ti144:TI:={ kind:=.sc,desc:=.pointer 146,size:=1,bytes:=8,zeros:=[.pointer none] }
theorem qmY:ti144.ok Tryz.prog 144:=⟨Tryz.underlying144,trivial,by kernel_rfl,rfl,rfl,by decide,fun _=>rfl,by kernel_rfl,by kernel_rfl⟩
def ti145:TI:={ kind:=.st [0],desc:=.struct #[fD9 "nodes" 3 0 "scriptorium/syntax" 0],size:=1,bytes:=8,zeros:=[.int .i64 0],fsz:=[1] }
theorem qmD:ti145.ok Tryz.prog 145:=⟨Tryz.underlying145,rfl,by kernel_rfl,rfl,rfl,by decide,(fun h=>by cases h),by kernel_rfl,by kernel_rfl⟩
def ti146:TI:={ kind:=.st [0],desc:=.struct #[fD9 "nodes" 3 0 "scriptorium/syntax" 0],size:=1,bytes:=8,zeros:=[.int .i64 0],fsz:=[1] }
theorem qoP:ti146.ok Tryz.prog 146:=⟨Tryz.underlying146,rfl,by kernel_rfl,rfl,rfl,by decide,(fun h=>by cases h),by kernel_rfl,by kernel_rfl⟩
def ti154:TI:={ kind:=.sl 158,desc:=.slice 158,size:=1,bytes:=24,zeros:=[.slice none 0 0] }
theorem qnl:ti154.ok Tryz.prog 154:=⟨Tryz.underlying154,rfl,by kernel_rfl,rfl,rfl,by decide,fun _=>rfl,by kernel_rfl,by kernel_rfl⟩
def ti158:TI:={ kind:=.sc,desc:=.func #[46] #[29] false,size:=1,bytes:=8,zeros:=[.nilFunc] }
theorem qnY:ti158.ok Tryz.prog 158:=⟨Tryz.underlying158,trivial,by kernel_rfl,rfl,rfl,by decide,fun _=>rfl,by kernel_rfl,by kernel_rfl⟩
def ti173:TI:={ kind:=.sc,desc:=.int .u64,size:=1,bytes:=8,zeros:=[.int .u64 0] }
theorem qoZ:ti173.ok Tryz.prog 173:=⟨Tryz.underlying173,trivial,by kernel_rfl,rfl,rfl,by decide,fun _=>rfl,by kernel_rfl,by kernel_rfl⟩
def ti178:TI:={ kind:=.sc,desc:=.pointer 183,size:=1,bytes:=8,zeros:=[.pointer none] }
theorem qnx:ti178.ok Tryz.prog 178:=⟨Tryz.underlying178,trivial,by kernel_rfl,rfl,rfl,by decide,fun _=>rfl,by kernel_rfl,by kernel_rfl⟩
def ti179:TI:={ kind:=.sc,desc:=.pointer 181,size:=1,bytes:=8,zeros:=[.pointer none] }
theorem qmK:ti179.ok Tryz.prog 179:=⟨Tryz.underlying179,trivial,by kernel_rfl,rfl,rfl,by decide,fun _=>rfl,by kernel_rfl,by kernel_rfl⟩
def ti180:TI:={ kind:=.st [0,1],desc:=.struct #[fD9 "addr" 179 0 "strings" 0,fD9 "buf" 26 1 "strings" 8],size:=2,bytes:=32,zeros:=[.pointer none,.slice none 0 0],fsz:=[1,1] }
theorem qmV:ti180.ok Tryz.prog 180:=⟨Tryz.underlying180,rfl,by kernel_rfl,rfl,rfl,by decide,(fun h=>by cases h),by kernel_rfl,by kernel_rfl⟩
def ti181:TI:={ kind:=.st [0,1],desc:=.struct #[fD9 "addr" 179 0 "strings" 0,fD9 "buf" 26 1 "strings" 8],size:=2,bytes:=32,zeros:=[.pointer none,.slice none 0 0],fsz:=[1,1] }
theorem qoi:ti181.ok Tryz.prog 181:=⟨Tryz.underlying181,rfl,by kernel_rfl,rfl,rfl,by decide,(fun h=>by cases h),by kernel_rfl,by kernel_rfl⟩
def ti182:TI:={ kind:=.st [0],desc:=.struct #[{ name := "Builder", type:=181,offset:=0,embedded:=true,tag := "", pkgPath := "", byteOffset:=0 }],size:=2,bytes:=32,zeros:=[.pointer none,.slice none 0 0],fsz:=[2] }
theorem qo2:ti182.ok Tryz.prog 182:=⟨Tryz.underlying182,rfl,by kernel_rfl,rfl,rfl,by decide,(fun h=>by cases h),by kernel_rfl,by kernel_rfl⟩
def ti183:TI:={ kind:=.st [0],desc:=.struct #[{ name := "Builder", type:=181,offset:=0,embedded:=true,tag := "", pkgPath := "", byteOffset:=0 }],size:=2,bytes:=32,zeros:=[.pointer none,.slice none 0 0],fsz:=[2] }
theorem qoY:ti183.ok Tryz.prog 183:=⟨Tryz.underlying183,rfl,by kernel_rfl,rfl,rfl,by decide,(fun h=>by cases h),by kernel_rfl,by kernel_rfl⟩
def ti189:TI:={ kind:=.sl 54,desc:=.slice 54,size:=1,bytes:=24,zeros:=[.slice none 0 0] }
theorem qol:ti189.ok Tryz.prog 189:=⟨Tryz.underlying189,rfl,by kernel_rfl,rfl,rfl,by decide,fun _=>rfl,by kernel_rfl,by kernel_rfl⟩
def ti195:TI:={ kind:=.sc,desc:=.int .u64,size:=1,bytes:=8,zeros:=[.int .u64 0] }
theorem qnA:ti195.ok Tryz.prog 195:=⟨Tryz.underlying195,trivial,by kernel_rfl,rfl,rfl,by decide,fun _=>rfl,by kernel_rfl,by kernel_rfl⟩
def ti206:TI:={ kind:=.sc,desc:=.int .i64,size:=1,bytes:=8,zeros:=[.int .i64 0] }
theorem qoA:ti206.ok Tryz.prog 206:=⟨Tryz.underlying206,trivial,by kernel_rfl,rfl,rfl,by decide,fun _=>rfl,by kernel_rfl,by kernel_rfl⟩
def ti220:TI:={ kind:=.sl 55,desc:=.slice 55,size:=1,bytes:=24,zeros:=[.slice none 0 0] }
theorem qmU:ti220.ok Tryz.prog 220:=⟨Tryz.underlying220,rfl,by kernel_rfl,rfl,rfl,by decide,fun _=>rfl,by kernel_rfl,by kernel_rfl⟩
def ti227:TI:={ kind:=.sc,desc:=.pointer 5,size:=1,bytes:=8,zeros:=[.pointer none] }
theorem qoR:ti227.ok Tryz.prog 227:=⟨Tryz.underlying227,trivial,by kernel_rfl,rfl,rfl,by decide,fun _=>rfl,by kernel_rfl,by kernel_rfl⟩
def ti236:TI:={ kind:=.sc,desc:=.int .u64,size:=1,bytes:=8,zeros:=[.int .u64 0] }
theorem qow:ti236.ok Tryz.prog 236:=⟨Tryz.underlying236,trivial,by kernel_rfl,rfl,rfl,by decide,fun _=>rfl,by kernel_rfl,by kernel_rfl⟩
def ti240:TI:={ kind:=.sc,desc:=.pointer 3,size:=1,bytes:=8,zeros:=[.pointer none] }
theorem qnZ:ti240.ok Tryz.prog 240:=⟨Tryz.underlying240,trivial,by kernel_rfl,rfl,rfl,by decide,fun _=>rfl,by kernel_rfl,by kernel_rfl⟩
def ti251:TI:={ kind:=.sc,desc:=.pointer 236,size:=1,bytes:=8,zeros:=[.pointer none] }
theorem qnc:ti251.ok Tryz.prog 251:=⟨Tryz.underlying251,trivial,by kernel_rfl,rfl,rfl,by decide,fun _=>rfl,by kernel_rfl,by kernel_rfl⟩
def ti254:TI:={ kind:=.ar 256 5,desc:=.array 256 5,size:=256,bytes:=256,zeros:=(List.replicate 256 (.int .u8 0)) }
theorem qob:ti254.ok Tryz.prog 254:=⟨Tryz.underlying254,rfl,by kernel_rfl,by kernel_rfl,by kernel_rfl,by decide,(fun h=>by cases h),by kernel_rfl,by kernel_rfl⟩
def ti262:TI:={ kind:=.ar 24 5,desc:=.array 24 5,size:=24,bytes:=24,zeros:=(List.replicate 24 (.int .u8 0)) }
theorem qop:ti262.ok Tryz.prog 262:=⟨Tryz.underlying262,rfl,by kernel_rfl,rfl,rfl,by decide,(fun h=>by cases h),by kernel_rfl,by kernel_rfl⟩
def ti271:TI:={ kind:=.sl 273,desc:=.slice 273,size:=1,bytes:=24,zeros:=[.slice none 0 0] }
theorem qmT:ti271.ok Tryz.prog 271:=⟨Tryz.underlying271,rfl,by kernel_rfl,rfl,rfl,by decide,fun _=>rfl,by kernel_rfl,by kernel_rfl⟩
def ti272:TI:={ kind:=.st [0,1],desc:=.struct #[fD9 "start" 3 0 "strings" 0,fD9 "end" 3 1 "strings" 8],size:=2,bytes:=16,zeros:=[.int .i64 0,.int .i64 0],fsz:=[1,1] }
theorem qnr:ti272.ok Tryz.prog 272:=⟨Tryz.underlying272,rfl,by kernel_rfl,rfl,rfl,by decide,(fun h=>by cases h),by kernel_rfl,by kernel_rfl⟩
def ti273:TI:={ kind:=.st [0,1],desc:=.struct #[fD9 "start" 3 0 "strings" 0,fD9 "end" 3 1 "strings" 8],size:=2,bytes:=16,zeros:=[.int .i64 0,.int .i64 0],fsz:=[1,1] }
theorem qog:ti273.ok Tryz.prog 273:=⟨Tryz.underlying273,rfl,by kernel_rfl,rfl,rfl,by decide,(fun h=>by cases h),by kernel_rfl,by kernel_rfl⟩
def ti275:TI:={ kind:=.sc,desc:=.pointer 287,size:=1,bytes:=8,zeros:=[.pointer none] }
theorem qm4:ti275.ok Tryz.prog 275:=⟨Tryz.underlying275,trivial,by kernel_rfl,rfl,rfl,by decide,fun _=>rfl,by kernel_rfl,by kernel_rfl⟩
def ti281:TI:={ kind:=.ar 20 195,desc:=.array 20 195,size:=20,bytes:=160,zeros:=(List.replicate 20 (.int .u64 0)) }
theorem qm8:ti281.ok Tryz.prog 281:=⟨Tryz.underlying281,rfl,by kernel_rfl,rfl,rfl,by decide,(fun h=>by cases h),by kernel_rfl,by kernel_rfl⟩
def ti282:TI:={ kind:=.ar 65 5,desc:=.array 65 5,size:=65,bytes:=65,zeros:=(List.replicate 65 (.int .u8 0)) }
theorem qnL:ti282.ok Tryz.prog 282:=⟨Tryz.underlying282,rfl,by kernel_rfl,by kernel_rfl,by kernel_rfl,by decide,(fun h=>by cases h),by kernel_rfl,by kernel_rfl⟩
def ti284:TI:={ kind:=.sl 290,desc:=.slice 290,size:=1,bytes:=24,zeros:=[.slice none 0 0] }
theorem qoK:ti284.ok Tryz.prog 284:=⟨Tryz.underlying284,rfl,by kernel_rfl,rfl,rfl,by decide,fun _=>rfl,by kernel_rfl,by kernel_rfl⟩
def ti285:TI:={ kind:=.sl 293,desc:=.slice 293,size:=1,bytes:=24,zeros:=[.slice none 0 0] }
theorem qnK:ti285.ok Tryz.prog 285:=⟨Tryz.underlying285,rfl,by kernel_rfl,rfl,rfl,by decide,fun _=>rfl,by kernel_rfl,by kernel_rfl⟩
def ti286:TI:={ kind:=.st [0,1,2],desc:=.struct #[fD9 "R16" 284 0 "" 0,fD9 "R32" 285 1 "" 24,fD9 "LatinOffset" 3 2 "" 48],size:=3,bytes:=56,zeros:=[.slice none 0 0,.slice none 0 0,.int .i64 0],fsz:=[1,1,1] }
theorem qne:ti286.ok Tryz.prog 286:=⟨Tryz.underlying286,rfl,by kernel_rfl,rfl,rfl,by decide,(fun h=>by cases h),by kernel_rfl,by kernel_rfl⟩
def ti287:TI:={ kind:=.st [0,1,2],desc:=.struct #[fD9 "R16" 284 0 "" 0,fD9 "R32" 285 1 "" 24,fD9 "LatinOffset" 3 2 "" 48],size:=3,bytes:=56,zeros:=[.slice none 0 0,.slice none 0 0,.int .i64 0],fsz:=[1,1,1] }
theorem qm9:ti287.ok Tryz.prog 287:=⟨Tryz.underlying287,rfl,by kernel_rfl,rfl,rfl,by decide,(fun h=>by cases h),by kernel_rfl,by kernel_rfl⟩
def ti288:TI:={ kind:=.sc,desc:=.int .u16,size:=1,bytes:=2,zeros:=[.int .u16 0] }
theorem qnU:ti288.ok Tryz.prog 288:=⟨Tryz.underlying288,trivial,by kernel_rfl,rfl,rfl,by decide,fun _=>rfl,by kernel_rfl,by kernel_rfl⟩
def ti289:TI:={ kind:=.st [0,1,2],desc:=.struct #[fD9 "Lo" 288 0 "" 0,fD9 "Hi" 288 1 "" 2,fD9 "Stride" 288 2 "" 4],size:=3,bytes:=6,zeros:=[.int .u16 0,.int .u16 0,.int .u16 0],fsz:=[1,1,1] }
theorem qo1:ti289.ok Tryz.prog 289:=⟨Tryz.underlying289,rfl,by kernel_rfl,rfl,rfl,by decide,(fun h=>by cases h),by kernel_rfl,by kernel_rfl⟩
def ti290:TI:={ kind:=.st [0,1,2],desc:=.struct #[fD9 "Lo" 288 0 "" 0,fD9 "Hi" 288 1 "" 2,fD9 "Stride" 288 2 "" 4],size:=3,bytes:=6,zeros:=[.int .u16 0,.int .u16 0,.int .u16 0],fsz:=[1,1,1] }
theorem qnD:ti290.ok Tryz.prog 290:=⟨Tryz.underlying290,rfl,by kernel_rfl,rfl,rfl,by decide,(fun h=>by cases h),by kernel_rfl,by kernel_rfl⟩
def ti292:TI:={ kind:=.st [0,1,2],desc:=.struct #[fD9 "Lo" 29 0 "" 0,fD9 "Hi" 29 1 "" 4,fD9 "Stride" 29 2 "" 8],size:=3,bytes:=12,zeros:=[.int .u32 0,.int .u32 0,.int .u32 0],fsz:=[1,1,1] }
theorem qnS:ti292.ok Tryz.prog 292:=⟨Tryz.underlying292,rfl,by kernel_rfl,rfl,rfl,by decide,(fun h=>by cases h),by kernel_rfl,by kernel_rfl⟩
def ti293:TI:={ kind:=.st [0,1,2],desc:=.struct #[fD9 "Lo" 29 0 "" 0,fD9 "Hi" 29 1 "" 4,fD9 "Stride" 29 2 "" 8],size:=3,bytes:=12,zeros:=[.int .u32 0,.int .u32 0,.int .u32 0],fsz:=[1,1,1] }
theorem qos:ti293.ok Tryz.prog 293:=⟨Tryz.underlying293,rfl,by kernel_rfl,rfl,rfl,by decide,(fun h=>by cases h),by kernel_rfl,by kernel_rfl⟩
def ti295:TI:={ kind:=.sc,desc:=.pointer 290,size:=1,bytes:=8,zeros:=[.pointer none] }
theorem qm2:ti295.ok Tryz.prog 295:=⟨Tryz.underlying295,trivial,by kernel_rfl,rfl,rfl,by decide,fun _=>rfl,by kernel_rfl,by kernel_rfl⟩
def ti296:TI:={ kind:=.sc,desc:=.pointer 293,size:=1,bytes:=8,zeros:=[.pointer none] }
theorem qnw:ti296.ok Tryz.prog 296:=⟨Tryz.underlying296,trivial,by kernel_rfl,rfl,rfl,by decide,fun _=>rfl,by kernel_rfl,by kernel_rfl⟩
def ti297:TI:={ kind:=.ar 32 5,desc:=.array 32 5,size:=32,bytes:=32,zeros:=(List.replicate 32 (.int .u8 0)) }
theorem qox:ti297.ok Tryz.prog 297:=⟨Tryz.underlying297,rfl,by kernel_rfl,rfl,rfl,by decide,(fun h=>by cases h),by kernel_rfl,by kernel_rfl⟩
def ti298:TI:={ kind:=.ar 64 5,desc:=.array 64 5,size:=64,bytes:=64,zeros:=(List.replicate 64 (.int .u8 0)) }
theorem qmC:ti298.ok Tryz.prog 298:=⟨Tryz.underlying298,rfl,by kernel_rfl,by kernel_rfl,by kernel_rfl,by decide,(fun h=>by cases h),by kernel_rfl,by kernel_rfl⟩
def ti299:TI:={ kind:=.st [0,1,2,3],desc:=.struct #[fD9 "_interface" 17 0 "runtime" 0,fD9 "concrete" 17 1 "runtime" 8,fD9 "asserted" 17 2 "runtime" 16,fD9 "missingMethod" 9 3 "runtime" 24],size:=4,bytes:=40,zeros:=[.pointer none,.pointer none,.pointer none,St []],fsz:=[1,1,1,1] }
theorem qoe:ti299.ok Tryz.prog 299:=⟨Tryz.underlying299,rfl,by kernel_rfl,rfl,rfl,by decide,(fun h=>by cases h),by kernel_rfl,by kernel_rfl⟩
def ti300:TI:={ kind:=.st [0,1,2,3],desc:=.struct #[fD9 "_interface" 17 0 "runtime" 0,fD9 "concrete" 17 1 "runtime" 8,fD9 "asserted" 17 2 "runtime" 16,fD9 "missingMethod" 9 3 "runtime" 24],size:=4,bytes:=40,zeros:=[.pointer none,.pointer none,.pointer none,St []],fsz:=[1,1,1,1] }
theorem qoQ:ti300.ok Tryz.prog 300:=⟨Tryz.underlying300,rfl,by kernel_rfl,rfl,rfl,by decide,(fun h=>by cases h),by kernel_rfl,by kernel_rfl⟩
def ti304:TI:={ kind:=.sc,desc:=.int .u8,size:=1,bytes:=1,zeros:=[.int .u8 0] }
theorem qnH:ti304.ok Tryz.prog 304:=⟨Tryz.underlying304,trivial,by kernel_rfl,rfl,rfl,by decide,fun _=>rfl,by kernel_rfl,by kernel_rfl⟩
def ti305:TI:={ kind:=.sc,desc:=.int .u8,size:=1,bytes:=1,zeros:=[.int .u8 0] }
theorem qnC:ti305.ok Tryz.prog 305:=⟨Tryz.underlying305,trivial,by kernel_rfl,rfl,rfl,by decide,fun _=>rfl,by kernel_rfl,by kernel_rfl⟩
def ti307:TI:={ kind:=.sc,desc:=.int .i32,size:=1,bytes:=4,zeros:=[.int .i32 0] }
theorem qmO:ti307.ok Tryz.prog 307:=⟨Tryz.underlying307,trivial,by kernel_rfl,rfl,rfl,by decide,fun _=>rfl,by kernel_rfl,by kernel_rfl⟩
def ti308:TI:={ kind:=.sc,desc:=.int .i32,size:=1,bytes:=4,zeros:=[.int .i32 0] }
theorem qnp:ti308.ok Tryz.prog 308:=⟨Tryz.underlying308,trivial,by kernel_rfl,rfl,rfl,by decide,fun _=>rfl,by kernel_rfl,by kernel_rfl⟩
def ti309:TI:={ kind:=.st [0,1,2,3,4,5,6,7,8,9,10],desc:=.struct #[fD9 "Size_" 12 0 "" 0,fD9 "PtrBytes" 12 1 "" 8,fD9 "Hash" 29 2 "" 16,fD9 "TFlag" 304 3 "" 20,fD9 "Align_" 5 4 "" 21,fD9 "FieldAlign_" 5 5 "" 22,fD9 "Kind_" 305 6 "" 23,fD9 "Equal" 306 7 "" 24,fD9 "GCData" 227 8 "" 32,fD9 "Str" 307 9 "" 40,fD9 "PtrToThis" 308 10 "" 44],size:=11,bytes:=48,zeros:=[.int .u64 0,.int .u64 0,.int .u32 0,.int .u8 0,.int .u8 0,.int .u8 0,.int .u8 0,.nilFunc,.pointer none,.int .i32 0,.int .i32 0],fsz:=[1,1,1,1,1,1,1,1,1,1,1] }
theorem qoO:ti309.ok Tryz.prog 309:=⟨Tryz.underlying309,rfl,by kernel_rfl,rfl,rfl,by decide,(fun h=>by cases h),by kernel_rfl,by kernel_rfl⟩
def ti310:TI:={ kind:=.st [0,1,2,3,4,5,6,7,8,9,10],desc:=.struct #[fD9 "Size_" 12 0 "" 0,fD9 "PtrBytes" 12 1 "" 8,fD9 "Hash" 29 2 "" 16,fD9 "TFlag" 304 3 "" 20,fD9 "Align_" 5 4 "" 21,fD9 "FieldAlign_" 5 5 "" 22,fD9 "Kind_" 305 6 "" 23,fD9 "Equal" 306 7 "" 24,fD9 "GCData" 227 8 "" 32,fD9 "Str" 307 9 "" 40,fD9 "PtrToThis" 308 10 "" 44],size:=11,bytes:=48,zeros:=[.int .u64 0,.int .u64 0,.int .u32 0,.int .u8 0,.int .u8 0,.int .u8 0,.int .u8 0,.nilFunc,.pointer none,.int .i32 0,.int .i32 0],fsz:=[1,1,1,1,1,1,1,1,1,1,1] }
theorem qmS:ti310.ok Tryz.prog 310:=⟨Tryz.underlying310,rfl,by kernel_rfl,rfl,rfl,by decide,(fun h=>by cases h),by kernel_rfl,by kernel_rfl⟩
def TT:qaZ:=[(2,ti2),(3,ti3),(4,ti4),(5,ti5),(6,ti6),(7,ti7),(8,ti8),(9,ti9),(10,ti10),(11,ti11),(12,ti12),(13,ti13),(14,ti14),(15,ti15),(16,ti16),(17,ti17),(18,ti18),(19,ti19),(21,ti21),(22,ti22),(23,ti23),(24,ti24),(25,ti25),(26,ti26),(29,ti29),(30,ti30),(31,ti31),(32,ti32),(33,ti33),(46,ti46),(47,ti47),(48,ti48),(49,ti49),(50,ti50),(51,ti51),(52,ti52),(53,ti53),(54,ti54),(55,ti55),(56,ti56),(57,ti57),(58,ti58),(59,ti59),(60,ti60),(62,ti62),(63,ti63),(64,ti64),(67,ti67),(70,ti70),(71,ti71),(72,ti72),(73,ti73),(78,ti78),(79,ti79),(82,ti82),(87,ti87),(88,ti88),(89,ti89),(91,ti91),(94,ti94),(95,ti95),(96,ti96),(97,ti97),(98,ti98),(100,ti100),(103,ti103),(104,ti104),(108,ti108),(109,ti109),(110,ti110),(111,ti111),(114,ti114),(134,ti134),(135,ti135),(144,ti144),(145,ti145),(146,ti146),(154,ti154),(158,ti158),(173,ti173),(178,ti178),(179,ti179),(180,ti180),(181,ti181),(182,ti182),(183,ti183),(189,ti189),(195,ti195),(206,ti206),(220,ti220),(227,ti227),(236,ti236),(240,ti240),(251,ti251),(254,ti254),(262,ti262),(271,ti271),(272,ti272),(273,ti273),(275,ti275),(281,ti281),(282,ti282),(284,ti284),(285,ti285),(286,ti286),(287,ti287),(288,ti288),(289,ti289),(290,ti290),(292,ti292),(293,ti293),(295,ti295),(296,ti296),(297,ti297),(298,ti298),(299,ti299),(300,ti300),(304,ti304),(305,ti305),(307,ti307),(308,ti308),(309,ti309),(310,ti310)]
theorem qao:TabOK Tryz.prog TT:=TabOK.cons qsR (TabOK.cons qpL (TabOK.cons qs2 (TabOK.cons qtu (TabOK.cons qs9 (TabOK.cons qtH (TabOK.cons qsD (TabOK.cons qtr (TabOK.cons qrH (TabOK.cons qrv (TabOK.cons qrC (TabOK.cons qp9 (TabOK.cons qqy (TabOK.cons qqF (TabOK.cons qp6 (TabOK.cons qq6 (TabOK.cons qsh (TabOK.cons qqO (TabOK.cons qqU (TabOK.cons qsg (TabOK.cons qrY (TabOK.cons qrF (TabOK.cons qqS (TabOK.cons qqa (TabOK.cons qr3 (TabOK.cons qqL (TabOK.cons qrR (TabOK.cons qqs (TabOK.cons qrj (TabOK.cons qqD (TabOK.cons qqz (TabOK.cons qpW (TabOK.cons qqg (TabOK.cons qrB (TabOK.cons qp8 (TabOK.cons qp5 (TabOK.cons qrS (TabOK.cons qqP (TabOK.cons qrI (TabOK.cons qr9 (TabOK.cons qru (TabOK.cons qqd (TabOK.cons qpQ (TabOK.cons qrf (TabOK.cons qqq (TabOK.cons qqV (TabOK.cons qpV (TabOK.cons qqh (TabOK.cons qqK (TabOK.cons qqR (TabOK.cons qr1 (TabOK.cons qrc (TabOK.cons qrO (TabOK.cons qmv (TabOK.cons qrG (TabOK.cons qsi (TabOK.cons qp2 (TabOK.cons qpS (TabOK.cons qp4 (TabOK.cons qqp (TabOK.cons qqA (TabOK.cons qp1 (TabOK.cons qql (TabOK.cons qrX (TabOK.cons qoC (TabOK.cons qnk (TabOK.cons qm5 (TabOK.cons qoo (TabOK.cons qok (TabOK.cons qoJ (TabOK.cons qny (TabOK.cons qoL (TabOK.cons qoj (TabOK.cons qoG (TabOK.cons qmY (TabOK.cons qmD (TabOK.cons qoP (TabOK.cons qnl (TabOK.cons qnY (TabOK.cons qoZ (TabOK.cons qnx (TabOK.cons qmK (TabOK.cons qmV (TabOK.cons qoi (TabOK.cons qo2 (TabOK.cons qoY (TabOK.cons qol (TabOK.cons qnA (TabOK.cons qoA (TabOK.cons qmU (TabOK.cons qoR (TabOK.cons qow (TabOK.cons qnZ (TabOK.cons qnc (TabOK.cons qob (TabOK.cons qop (TabOK.cons qmT (TabOK.cons qnr (TabOK.cons qog (TabOK.cons qm4 (TabOK.cons qm8 (TabOK.cons qnL (TabOK.cons qoK (TabOK.cons qnK (TabOK.cons qne (TabOK.cons qm9 (TabOK.cons qnU (TabOK.cons qo1 (TabOK.cons qnD (TabOK.cons qnS (TabOK.cons qos (TabOK.cons qm2 (TabOK.cons qnw (TabOK.cons qox (TabOK.cons qmC (TabOK.cons qoe (TabOK.cons qoQ (TabOK.cons qnH (TabOK.cons qnC (TabOK.cons qmO (TabOK.cons qnp (TabOK.cons qoO (TabOK.cons qmS ( TabOK.nil)))))))))))))))))))))))))))))))))))))))))))))))))))))))))))))))))))))))))))))))))))))))))))))))))))))))))))))))))))))))))))
theorem qad:Tryz.prog.follows .mixedOrders=true:=by kernel_rfl
end Go.FL
namespace Go.Proofs.YtpdnijphccdiiaaGreatDoor
open Go Go.FL
theorem quz{P:Program}{t:Nat}{ti:TI}(h:ti.ok P t)(hk:qdO ti.kind=true)(w:World):(isAgg t).run P w=.ok false w:=by rw [qeH h,hk];rfl
theorem qc8(a b c d:Int):EqA Tryz.prog 33 [.int .i64 a,.int .i64 b] [.int .i64 c,.int .i64 d] (decide (a=c∧b=d)):=⟨by kernel_rfl,fun w=>by
 show (Op.equalIn (9998+2) 33 _ _).run Tryz.prog w=_
 rw [run_equalIn_agg w 9999 33 _ _ V V]
 simp only [Program.fieldsOf,Tryz.underlying33,Op.eqFields,part]
 simp [quz qpL rfl,run_equalIn_int w 9998 3 .i64 .i64 _ _ Tryz.underlying3]
 by_cases h1:a=c <;> by_cases h2:b=d <;> simp [h1,h2]⟩
end Go.Proofs.YtpdnijphccdiiaaGreatDoor
namespace Go.FL
open Go Go.RowKit
section
variable{P:Program}{TT:qaZ}{D n:Nat}{Q:qbD}{fr:Fr}{L:Hl}{s:World}{ops:Array Oper}{rest:List Oper}{d ty:Nat}{pos:String}{af:Array Edge}{v:Value}
theorem Zqm{x:Operand}(hx:lk fr x=some v)(hd:Nat.blt d n=true)(k:JO P TT D n ops Q rest ((d,v)::fr) L s):JO P TT D n ops Q (⟨some d,.move x,ty,pos,af,none⟩::rest) fr L s:=qac (qan hx) hd k
theorem Zqa{x:Operand}(hx:lk fr x=some v)(hd:Nat.blt d n=true)(k:JO P TT D n ops Q rest ((d,v)::fr) L s):JO P TT D n ops Q (⟨some d,.assign x,ty,pos,af,none⟩::rest) fr L s:=qac (qaM hx) hd k
theorem Zqx{x:Operand}{i:Nat}{vs:List Value}(hx:lk fr x=some (.tuple vs.toArray))(hi:nth vs i=some v)(hd:Nat.blt d n=true)(k:JO P TT D n ops Q rest ((d,v)::fr) L s):JO P TT D n ops Q (⟨some d,.extract x i,ty,pos,af,none⟩::rest) fr L s:=qac (qaX hx hi) hd k
theorem ZqT{c x y:Operand}(hc:lk fr c=some (.bool true))(hx:lk fr x=some v)(hd:Nat.blt d n=true)(k:JO P TT D n ops Q rest ((d,v)::fr) L s):JO P TT D n ops Q (⟨some d,.pick c x y,ty,pos,af,none⟩::rest) fr L s:=qac (qep hc hx) hd k
theorem ZqF{c x y:Operand}(hc:lk fr c=some (.bool false))(hx:lk fr y=some v)(hd:Nat.blt d n=true)(k:JO P TT D n ops Q rest ((d,v)::fr) L s):JO P TT D n ops Q (⟨some d,.pick c x y,ty,pos,af,none⟩::rest) fr L s:=qac (qeo hc hx) hd k
theorem qar{x y:Operand}{ik:IntKind}{a b:Int}{t t':Nat}(hx:lk fr x=some (.int ik a))(hy:lk fr y=some (.int ik b))(hd:Nat.blt d n=true)(k:JO P TT D n ops Q rest ((d,.bool (decide (a=b)))::fr) L s):JO P TT D n ops Q (⟨some d,.binOp .eql t x y t',ty,pos,af,none⟩::rest) fr L s:=qac (qa9 hx hy) hd k
theorem qb2{x y:Operand}{ik:IntKind}{a b:Int}{t t':Nat}(hx:lk fr x=some (.int ik a))(hy:lk fr y=some (.int ik b))(hd:Nat.blt d n=true)(k:JO P TT D n ops Q rest ((d,.bool (!decide (a=b)))::fr) L s):JO P TT D n ops Q (⟨some d,.binOp .neq t x y t',ty,pos,af,none⟩::rest) fr L s:=qac (qec hx hy) hd k
theorem qbh{x y:Operand}{ik:IntKind}{a b:Int}{t t':Nat}(hx:lk fr x=some (.int ik a))(hy:lk fr y=some (.int ik b))(hd:Nat.blt d n=true)(k:JO P TT D n ops Q rest ((d,.bool (decide (a < b)))::fr) L s):JO P TT D n ops Q (⟨some d,.binOp .lss t x y t',ty,pos,af,none⟩::rest) fr L s:=qac (qb7 hx hy) hd k
theorem qmx{x y:Operand}{ik:IntKind}{a b:Int}{t t':Nat}(hx:lk fr x=some (.int ik a))(hy:lk fr y=some (.int ik b))(hd:Nat.blt d n=true)(k:JO P TT D n ops Q rest ((d,.bool (decide (a≤b)))::fr) L s):JO P TT D n ops Q (⟨some d,.binOp .leq t x y t',ty,pos,af,none⟩::rest) fr L s:=qac (qrL hx hy) hd k
theorem qbv{x y:Operand}{ik:IntKind}{a b:Int}{t t':Nat}(hx:lk fr x=some (.int ik a))(hy:lk fr y=some (.int ik b))(hd:Nat.blt d n=true)(k:JO P TT D n ops Q rest ((d,.bool (decide (b < a)))::fr) L s):JO P TT D n ops Q (⟨some d,.binOp .gtr t x y t',ty,pos,af,none⟩::rest) fr L s:=qac (qdn hx hy) hd k
theorem qfa{x y:Operand}{ik:IntKind}{a b:Int}{t t':Nat}(hx:lk fr x=some (.int ik a))(hy:lk fr y=some (.int ik b))(hd:Nat.blt d n=true)(k:JO P TT D n ops Q rest ((d,.bool (decide (b≤a)))::fr) L s):JO P TT D n ops Q (⟨some d,.binOp .geq t x y t',ty,pos,af,none⟩::rest) fr L s:=qac (qtl hx hy) hd k
theorem qka{x y:Operand}{a b:List UInt8}{t t':Nat}(hx:lk fr x=some (St a))(hy:lk fr y=some (St b))(hd:Nat.blt d n=true)(k:JO P TT D n ops Q rest ((d,.bool (decide (a=b)))::fr) L s):JO P TT D n ops Q (⟨some d,.binOp .eql t x y t',ty,pos,af,none⟩::rest) fr L s:=qac (qiZ hx hy) hd k
theorem qti{x y:Operand}{a b:List UInt8}{t t':Nat}(hx:lk fr x=some (St a))(hy:lk fr y=some (St b))(hd:Nat.blt d n=true)(k:JO P TT D n ops Q rest ((d,.bool (!decide (a=b)))::fr) L s):JO P TT D n ops Q (⟨some d,.binOp .neq t x y t',ty,pos,af,none⟩::rest) fr L s:=qac (qsY hx hy) hd k
theorem ZqnT{x:Operand}{t:Nat}(hx:lk fr x=some (.bool true))(hd:Nat.blt d n=true)(k:JO P TT D n ops Q rest ((d,.bool false)::fr) L s):JO P TT D n ops Q (⟨some d,.unOp .not t x,ty,pos,af,none⟩::rest) fr L s:=qac (qqZ hx) hd k
theorem qsu{x:Operand}{t:Nat}(hx:lk fr x=some (.bool false))(hd:Nat.blt d n=true)(k:JO P TT D n ops Q rest ((d,.bool true)::fr) L s):JO P TT D n ops Q (⟨some d,.unOp .not t x,ty,pos,af,none⟩::rest) fr L s:=qac (qse hx) hd k
theorem qbV{x:Operand}{b:Bool}{t:Nat}(hx:lk fr x=some (.bool b))(hd:Nat.blt d n=true)(k:JO P TT D n ops Q rest ((d,.bool (!b))::fr) L s):JO P TT D n ops Q (⟨some d,.unOp .not t x,ty,pos,af,none⟩::rest) fr L s:=qac (qiO hx) hd k
theorem Zqls{x:Operand}{t:Nat}{A:Option Addr}{m c:Nat}{ti:TI}{e:Nat}(hx:lk fr x=some (.slice A m c))(ht:qaB TT t=some ti)(hk:ti.kind=.sl e)(hd:Nat.blt d n=true)(k:JO P TT D n ops Q rest ((d,.int .i64 (m:Int))::fr) L s):JO P TT D n ops Q (⟨some d,.call { callee:=.builtin .len,args:=#[x],argTypes:=#[t] },ty,pos,af,none⟩::rest) fr L s:=qac (qbR hx ht hk) hd k
theorem Ws{x:Operand}{t:Nat}{A:Option Addr}{m c:Nat}{ti:TI}{e:Nat}(hY:(lk fr x=some (.slice A m c))∧(qaB TT t=some ti)∧(ti.kind=.sl e)∧(Nat.blt d n=true))(k:JO P TT D n ops Q rest ((d,.int .i64 (m:Int))::fr) L s):JO P TT D n ops Q (⟨some d,.call { callee:=.builtin .len,args:=#[x],argTypes:=#[t] },ty,pos,af,none⟩::rest) fr L s:=Zqls hY.1 hY.2.1 hY.2.2.1 hY.2.2.2 k
theorem qgR{x:Operand}{t:Nat}{l:List UInt8}{ti:TI}(hx:lk fr x=some (St l))(ht:qaB TT t=some ti)(hk:ti.desc=.string)(hd:Nat.blt d n=true)(k:JO P TT D n ops Q rest ((d,.int .i64 (l.length:Int))::fr) L s):JO P TT D n ops Q (⟨some d,.call { callee:=.builtin .len,args:=#[x],argTypes:=#[t] },ty,pos,af,none⟩::rest) fr L s:=qac (qqT hx ht hk) hd k
theorem qcd{x:Operand}{a:Addr}(hx:lk fr x=some (.pointer (some a)))(hd:Nat.blt d n=true)(k:JO P TT D n ops Q rest ((d,.pointer (some a))::fr) L s):JO P TT D n ops Q (⟨some d,.nilCheck x,ty,pos,af,none⟩::rest) fr L s:=qac (qbx hx) hd k
theorem Zqf0{t f b off:Nat}{x:Operand}{ti:TI}{os:List Nat}(hx:lk fr x=some (.pointer (some ⟨b,off,none⟩)))(ht:qaB TT t=some ti)(hk:ti.kind=.st os)(hf:qiM os f=some 0)(hd:Nat.blt d n=true)(k:JO P TT D n ops Q rest ((d,.pointer (some ⟨b,off,none⟩))::fr) L s):JO P TT D n ops Q (⟨some d,.fieldAddr t x f,ty,pos,af,none⟩::rest) fr L s:=qac (qbp hx ht hk hf) hd k
theorem W0{t f b off:Nat}{x:Operand}{ti:TI}{os:List Nat}(hY:(lk fr x=some (.pointer (some ⟨b,off,none⟩)))∧(qaB TT t=some ti)∧(ti.kind=.st os)∧(qiM os f=some 0)∧(Nat.blt d n=true))(k:JO P TT D n ops Q rest ((d,.pointer (some ⟨b,off,none⟩))::fr) L s):JO P TT D n ops Q (⟨some d,.fieldAddr t x f,ty,pos,af,none⟩::rest) fr L s:=Zqf0 hY.1 hY.2.1 hY.2.2.1 hY.2.2.2.1 hY.2.2.2.2 k
theorem ZqfB{t f fo b:Nat}{x:Operand}{ti:TI}{os:List Nat}(hx:lk fr x=some (.pointer (some ⟨b,0,none⟩)))(ht:qaB TT t=some ti)(hk:ti.kind=.st os)(hf:qiM os f=some fo)(hd:Nat.blt d n=true)(k:JO P TT D n ops Q rest ((d,.pointer (some ⟨b,fo,none⟩))::fr) L s):JO P TT D n ops Q (⟨some d,.fieldAddr t x f,ty,pos,af,none⟩::rest) fr L s:=qac (qlb hx ht hk hf) hd k
theorem Wb{t f fo b:Nat}{x:Operand}{ti:TI}{os:List Nat}(hY:(lk fr x=some (.pointer (some ⟨b,0,none⟩)))∧(qaB TT t=some ti)∧(ti.kind=.st os)∧(qiM os f=some fo)∧(Nat.blt d n=true))(k:JO P TT D n ops Q rest ((d,.pointer (some ⟨b,fo,none⟩))::fr) L s):JO P TT D n ops Q (⟨some d,.fieldAddr t x f,ty,pos,af,none⟩::rest) fr L s:=ZqfB hY.1 hY.2.1 hY.2.2.1 hY.2.2.2.1 hY.2.2.2.2 k
theorem Zql{t b off:Nat}{x:Operand}{ti:TI}{t':Nat}{zs:List Value}(i:Nat)(hx:lk fr x=some (.pointer (some ⟨b,off,none⟩)))(hi:L[i]?=some (b,cb zs t'))(ht:qaB TT t=some ti)(hk:qdO ti.kind=true)(hv:nth zs off=some v)(hd:Nat.blt d n=true)(k:JO P TT D n ops Q rest ((d,v)::fr) L s):JO P TT D n ops Q (⟨some d,.load t x,ty,pos,af,none⟩::rest) fr L s:=qac (qdE i hx hi ht hk hv) hd k
theorem Wl{t b off:Nat}{x:Operand}{ti:TI}{t':Nat}{zs:List Value}(i:Nat)(hY:(lk fr x=some (.pointer (some ⟨b,off,none⟩)))∧(L[i]?=some (b,cb zs t'))∧(qaB TT t=some ti)∧(qdO ti.kind=true)∧(nth zs off=some v)∧(Nat.blt d n=true))(k:JO P TT D n ops Q rest ((d,v)::fr) L s):JO P TT D n ops Q (⟨some d,.load t x,ty,pos,af,none⟩::rest) fr L s:=Zql i hY.1 hY.2.1 hY.2.2.1 hY.2.2.2.1 hY.2.2.2.2.1 hY.2.2.2.2.2 k
theorem qaF{x y:Operand}{ik:IntKind}{a b c:Int}{t t':Nat}(hx:lk fr x=some (.int ik a))(hy:lk fr y=some (.int ik b))(hd:Nat.blt d n=true)(hc:ik.wrap (a+b)=c)(k:JO P TT D n ops Q rest ((d,.int ik c)::fr) L s):JO P TT D n ops Q (⟨some d,.binOp .add t x y t',ty,pos,af,none⟩::rest) fr L s:=qac (qaR hx hy hc) hd k
theorem qhH{x y:Operand}{ik:IntKind}{a b c:Int}{t t':Nat}(hx:lk fr x=some (.int ik a))(hy:lk fr y=some (.int ik b))(hd:Nat.blt d n=true)(hc:ik.wrap (a - b)=c)(k:JO P TT D n ops Q rest ((d,.int ik c)::fr) L s):JO P TT D n ops Q (⟨some d,.binOp .sub t x y t',ty,pos,af,none⟩::rest) fr L s:=qac (qbd hx hy hc) hd k
end
abbrev Zs:=@qpC
abbrev Zr:=@qhR
abbrev Zn:=@qpd
abbrev Zt:=@qab
abbrev Zu:=@qqr
abbrev Zv:=@qqj
abbrev Zb:=@qor
abbrev Zc:=@qoE
abbrev Zd:=@qnV
abbrev Ze:=@qkx
abbrev Zk:=@qrp
abbrev Zl:=@qrg
abbrev Zo:=@qt6
abbrev Zp:=@qnR
abbrev Zy:=@qtD
abbrev Zz:=@quf
abbrev Zg:=@quP
abbrev Zf:=@qsK
abbrev Zh:=@qvs
theorem Nt{P:Program}{TT:qaZ}{D n:Nat}{Q:qbD}{fr:Fr}{L:Hl}{s:World}{J:Fr→Hl→World→Prop}{ops:Array Oper}(h:J fr L s):JO P TT D n ops (qaJ J Q) [] fr L s:=qpd (qab h)
theorem Sr{P:Program}{TT:qaZ}{D n:Nat}{Q:qbD}{fr:Fr}{L:Hl}{s:World}{id:Nat}{l:List Oper}{y:Code}(h:JO P TT D n l.toArray (qaJ (JC P TT D n Q y) Q) l fr L s):JC P TT D n Q (.seq (.region id l.toArray false) y) fr L s:=qpC (qhR h)
theorem At{P:Program}{TT:qaZ}{D n:Nat}{Q:qbD}{fr:Fr}{L:Hl}{s:World}{J:Fr→Hl→World→Prop}{ops:Array Oper}{d ty:Nat}{pos:String}{af:Array Edge}{v:Value}{x:Operand}(hx:lk fr x=some v)(hd:Nat.blt d n=true)(h:J ((d,v)::fr) L s):JO P TT D n ops (qaJ J Q) [⟨some d,.assign x,ty,pos,af,none⟩] fr L s:=Zqa hx hd (Nt h)
theorem sk{fr fr':Fr}(h:Suf fr fr':=by repeat (first | exact Suf.refl | refine Suf.push rfl ?_)):Keeps fr' fr:=h.keeps
theorem kp{fr l:Fr}(h:Keeps fr l:=by repeat (first | exact Keeps.nil _ | refine Keeps.cons rfl ?_)):Keeps fr l:=h
section
variable{P:Program}{TT:qaZ}{D n:Nat}{Q:qbD}{fr:Fr}{L K:Hl}{s s0:World}{ops:Array Oper}{d ty:Nat}{op:Op}{pos:String}{af:Array Edge}{v:Value}{fuel:Nat}{listed:Array Bool}
def okA(ops:Array Oper)(listed:Array Bool)(i:Nat):Bool:=Region.noSelect ops && Region.free .any ops listed i && (Region.ready .any ops listed).contains i
theorem za(i:Nat)(hi:ops[i]?=some ⟨some d,op,ty,pos,af,none⟩)(hq:QE P TT D fr op ty K s0 v)(hd:Nat.blt d n=true)(k:JA P TT D n ops Q K s0 fuel (listed.setIfInBounds i true) ((d,v)::fr) L s)(hs:okA ops listed i=true:=by kernel_rfl):JA P TT D n ops Q K s0 (fuel+1) listed fr L s:=by
 simp only [okA,Bool.and_eq_true] at hs
 exact JA_q i hi hs.1.1 hs.1.2 hs.2 trivial hq hd k
theorem zg(i:Nat){e:Nat×Bool}(hi:ops[i]?=some ⟨some d,op,ty,pos,af,some e⟩)(hg:GOK ops fr (some e))(hq:QE P TT D fr op ty K s0 v)(hd:Nat.blt d n=true)(k:JA P TT D n ops Q K s0 fuel (listed.setIfInBounds i true) ((d,v)::fr) L s)(hs:okA ops listed i=true:=by kernel_rfl):JA P TT D n ops Q K s0 (fuel+1) listed fr L s:=by
 simp only [okA,Bool.and_eq_true] at hs
 exact JA_q i hi hs.1.1 hs.1.2 hs.2 hg hq hd k
theorem zn(i:Nat){j t:Nat}{w b:Bool}(hi:ops[i]?=some ⟨some d,op,ty,pos,af,some (j,w)⟩)(hj:qd3 ops j=some t)(hv:qa1 fr t=some (.bool b))(hb:(b != w)=true)(hd:Nat.blt d n=true)(k:JA P TT D n ops Q K s0 fuel (listed.setIfInBounds i true) ((d,undef)::fr) L s)(hs:okA ops listed i=true:=by kernel_rfl):JA P TT D n ops Q K s0 (fuel+1) listed fr L s:=by
 simp only [okA,Bool.and_eq_true] at hs
 exact qve i hi hs.1.1 hs.1.2 hs.2 hj hv hb hd k
end
end Go.FL
namespace Go.Proofs.YtpdnijphccdiiaaGreatDoor
open Go.Proofs.Tryz
open Go.FL
attribute [local irreducible] JC JO JA JB qaJ qaw qbM AC fill CellsAt QE Ev Mid
theorem qcY(D:Nat)(L:Hl)(s:World)(x lo hi:Int):AC prog D 8 [.int .i64 x,.int .i64 lo,.int .i64 hi] L s fun v L' _=>v=.bool (decide (lo≤x∧x≤hi))∧L=L':=by
 refine qai (fn:=f8) qao func8 V Z ntmps8 Z (rs:=[.tmp 6]) Z [(0,_),(1,_),(2,_)] Z<|Sr<|At Z Z<|Sr<|Zqm Z Z<|Zqm Z Z<|qfa Z Z Z<|Zqm Z Z<|?_
 refine qak (t:=10) Z (fun c1=>?_) (fun c1=>?_)
 ·
  refine Zg Z Z<|Zqm Z Z<|Zg Z Z<|Zqm Z Z<|Zg Z Z<|qmx Z Z Z<|ZqT Z Z Z<|At Z Z<|Zo<|?_
  refine rR [] L (.t1 Z) Z (Lr D) fun _ hS2=>?_
  exact ⟨by simp [qat, *],rfl⟩
 refine Wf Y4<|Wf Y4<|Wf Y4<|ZqF Z Z Z<|At Z Z<|Zo<|?_
 refine rR [] L (.t1 Z) Z (Lr D) fun _ hS2=>?_
 exact ⟨by simp [qat, *],rfl⟩
theorem qdB(D:Nat)(L:Hl)(s:World)(c i:Int):AC prog D 11 [.int .i64 c,.int .i64 i] L s fun v L' _=>v=.agg #[.int .i64 c,.int .i64 i]∧L=L':=by
 refine qai (fn:=f11) qao func11 V Z ntmps11 Z (rs:=[.cell 4 33]) Z [(0,_),(1,_)] Z<|Sr<|qaj Z [_,_] Z Z ?_
 intro β1 s1 h1
 refine Nt<|Sr<|Zqm Z Z<|Zqm Z Z<|qac (qam [(_,_),(_,_)] [_,_] Z Z Z Z Z Z) Z<|Wt 0 [_,_] Y9<|Nt<|Zo<|?_
 refine rR [_] L (.agg (us:=[_,_]) 0 Z Z Z Z Z (.nil)) Z h1 fun _ hS2=>?_
 exact ⟨rfl,rfl⟩
theorem qlm(D:Nat)(L:Hl)(s:World)(l:List UInt8)(m:Int)(hl:l.length≤9223372036854775807):AC prog D 131 [St l,.int .i64 m] L s fun v L' _=>v=.bool (decide (l≠[]) && decide ((l.length:Int)≤m) && qbq 0 l)∧L=L':=by
 refine qai (fn:=f131) qao func131 V Z ntmps131 Z (rs:=[.tmp 4]) Z [(0,_),(1,_)] Z<|Sr<|At Z Z<|Zs<|Sr<|Zqm Z Z<|qgR Z Z Z Z<|qbh Z Z Z<|Zqm Z Z<|?_
 refine qak (t:=11) Z (fun c1=>?_) (fun c1=>?_)
 ·
  refine Wf Y4<|Wf Y4<|Wf Y4<|Wf Y4<|ZqT Z Z Z<|Nt<|Zy Z<|Sr<|At Z Z<|Zo<|Zu<|?_
  refine rR [] L (.t1 Z) Z (Lr D) fun _ hS2=>?_
  refine ⟨?_,Z⟩
  have hnil:l=[]↔l.length=0:=by cases l <;> simp
  have h0:l=[]:=by rw [hnil];omega
  simp [qat,h0];done
 refine Zg Z Z<|Zqm Z Z<|Zg Z Z<|qgR Z Z Z Z<|Zg Z Z<|Zqm Z Z<|Zg Z Z<|qbv Z Z Z<|ZqF Z Z Z<|Nt<|?_
 refine qaa Z (fun c2=>?_) (fun c2=>?_)
 ·
  refine Sr<|At Z Z<|Zo<|Zu<|?_
  refine rR [] L (.t1 Z) Z (Lr D) fun _ hS2=>?_
  refine ⟨?_,Z⟩
  have hnil:l=[]↔l.length=0:=by cases l <;> simp
  have h0:¬ (l.length:Int)≤m:=by omega
  simp [qat,h0];done
 refine Zk<|Zt<|Zs<|Sr<|At Z Z<|Zp<|qav (γ:=Nat) (fun k=>[(0,_),(4,_),(5,.int .i64 (k:Int))]) (fun _=>_) (fun k tw=>Le D s tw∧(k≤l.length∧∀ i c,i < k→l[i]?=some c→qfg i c=true)) (fun k=>l.length - k) (fun _ _ _ h hl=>⟨h.1.trans hl,h.2⟩) 0 (.c3 Z Z Z (.nil _)) Z ⟨Le.refl _,⟨Nat.zero_le _,fun i c hi=>by omega⟩⟩ ?_
 intro k s3 I3
 have hk0:=I3.2.1
 have hI:=I3.2.2
 refine Zs<|Sr<|Zqm Z Z<|Zqm Z Z<|qgR Z Z Z Z<|qbh Z Z Z<|Nt<|?_
 refine qaa Z (fun c4=>?_) (fun c4=>?_)
 ·
  have hk:k < l.length:=by omega
  obtain ⟨ch,hch⟩:∃ ch,l[k]?=some ch:=⟨_,List.getElem?_eq_getElem hk⟩
  refine Zk<|Zt<|Zs<|Zp<|Sr<|Zqm Z Z<|Zqm Z Z<|qac (qfA Z Z Z Z hch) Z<|qfa Z Z Z<|Zqm Z Z<|?_
  refine qak (t:=27) Z (fun c5=>?_) (fun c5=>?_)
  ·
   refine Zg Z Z<|Zqm Z Z<|Zg Z Z<|Zqm Z Z<|Zg Z Z<|qac (qfA Z Z Z Z hch) Z<|Zg Z Z<|qmx Z Z Z<|ZqT Z Z Z<|At Z Z<|Sr<|Zqm Z Z<|Zqm Z Z<|qac (qfA Z Z Z Z hch) Z<|qfa Z Z Z<|Zqm Z Z<|?_
   refine qak (t:=37) Z (fun c6=>?_) (fun c6=>?_)
   ·
    refine Zg Z Z<|Zqm Z Z<|Zg Z Z<|Zqm Z Z<|Zg Z Z<|qac (qfA Z Z Z Z hch) Z<|Zg Z Z<|qmx Z Z Z<|ZqT Z Z Z<|At Z Z<|Sr<|Zqm Z Z<|qbV Z Z<|Zqm Z Z<|?_
    refine qaE (t:=45) Z (fun c7=>?_) (fun c7=>?_)
    ·
     refine Zg Z Z<|Zqm Z Z<|Zg Z Z<|Zqm Z Z<|?_
     refine qak (t:=47) Z (fun c8=>?_) (fun c8=>?_)
     ·
      refine Zg Z Z<|Zqm Z Z<|Zg Z Z<|qbv Z Z Z<|Zg Z Z<|ZqT Z Z Z<|Zg Z Z<|qbV Z Z<|ZqT Z Z Z<|Nt<|?_
      refine qaP Z (fun c9=>?_) (fun c9=>?_)
      ·
       refine Sr<|At Z Z<|Zo<|Zc<|Zu<|Zu<|Zc<|Zu<|?_
       refine rR [] L (.t1 Z) Z I3.1 fun _ hS2=>?_
       refine ⟨?_,Z⟩
       have hnil:l=[]↔l.length=0:=by cases l <;> simp
       have h0:l=[]:=by rw [hnil];omega
       simp [qat,h0];done
      refine Zk<|Zb<|Zt<|Zr<|Zqm Z Z<|qaF Z Z Z (w64 O O)<|Zqa Z Z<|Zn<|?_
      have hOK:qfg k ch=true:=by simp only [qfg,qh0,qj8,Bool.or_eq_true,Bool.and_eq_true,decide_eq_true_eq,ne_eq];omega
      refine qab ⟨(k+1),[],kp,Z,⟨I3.1,⟨by omega,qbc hI hch hOK⟩⟩,O⟩
     refine Wf Y4<|Wf Y4<|Zg Z Z<|ZqF Z Z Z<|Zg Z Z<|qsu Z Z<|ZqT Z Z Z<|Nt<|Zy Z<|Sr<|At Z Z<|Zo<|Zc<|Zu<|Zu<|Zc<|Zu<|?_
     refine rR [] L (.t1 Z) Z I3.1 fun _ hS2=>?_
     refine ⟨?_,Z⟩
     have hnil:l=[]↔l.length=0:=by cases l <;> simp
     have hb:qfg k ch=false:=by
       rw [Bool.eq_false_iff];simp only [qfg,qh0,qj8,Bool.or_eq_true,Bool.and_eq_true,decide_eq_true_eq,ne_eq];omega
     simp [qat,qes hch hb];done
    refine Wf Y4<|Wf Y4<|Zh Z Z Z<|Zh Z Z Z<|Wf Y4<|Wf Y4<|ZqF Z Z Z<|Nt<|Zz Z<|Zk<|Zb<|Zt<|Zr<|Zqm Z Z<|qaF Z Z Z (w64 O O)<|Zqa Z Z<|Zn<|?_
    have hOK:qfg k ch=true:=by simp only [qfg,qh0,qj8,Bool.or_eq_true,Bool.and_eq_true,decide_eq_true_eq,ne_eq];omega
    refine qab ⟨(k+1),[],kp,Z,⟨I3.1,⟨by omega,qbc hI hch hOK⟩⟩,O⟩
   refine Wf Y4<|Wf Y4<|Wf Y4<|Wf Y4<|ZqF Z Z Z<|At Z Z<|Sr<|Zqm Z Z<|qbV Z Z<|Zqm Z Z ?_
   refine qaE (t:=45) Z (fun c10=>?_) (fun c10=>?_)
   ·
    refine Zg Z Z<|Zqm Z Z<|Zg Z Z<|Zqm Z Z<|Wf Y4<|Wf Y4<|Zg Z Z<|ZqF Z Z Z<|Zg Z Z<|qsu Z Z<|ZqT Z Z Z<|Nt<|Zy Z<|Sr<|At Z Z<|Zo<|Zc<|Zu<|Zu<|Zc<|Zu ?_
    refine rR [] L (.t1 Z) Z I3.1 fun _ hS2=>?_
    refine ⟨?_,Z⟩
    have hnil:l=[]↔l.length=0:=by cases l <;> simp
    have h0:l=[]:=by rw [hnil];omega
    simp [qat,h0];done
   refine Wf Y4<|Wf Y4<|Zh Z Z Z<|Zh Z Z Z<|Wf Y4<|Wf Y4<|ZqF Z Z Z<|Nt<|Zz Z<|Zk<|Zb<|Zt<|Zr<|Zqm Z Z<|qaF Z Z Z (w64 O O)<|Zqa Z Z<|Zn<|?_
   have hOK:qfg k ch=true:=by simp only [qfg,qh0,qj8,Bool.or_eq_true,Bool.and_eq_true,decide_eq_true_eq,ne_eq];omega
   refine qab ⟨(k+1),[],kp,Z,⟨I3.1,⟨by omega,qbc hI hch hOK⟩⟩,O⟩
  refine Wf Y4<|Wf Y4<|Wf Y4<|Wf Y4<|ZqF Z Z Z<|At Z Z<|Sr<|Zqm Z Z<|Zqm Z Z<|qac (qfA Z Z Z Z hch) Z<|qfa Z Z Z<|Zqm Z Z<|?_
  refine qak (t:=37) Z (fun c11=>?_) (fun c11=>?_)
  ·
   refine Zg Z Z<|Zqm Z Z<|Zg Z Z<|Zqm Z Z<|Zg Z Z<|qac (qfA Z Z Z Z hch) Z<|Zg Z Z<|qmx Z Z Z<|ZqT Z Z Z<|At Z Z<|Sr<|Zqm Z Z<|qsu Z Z<|Zqm Z Z<|Zg Z Z<|Zqm Z Z<|Zg Z Z<|Zqm Z Z<|?_
   refine qak (t:=47) Z (fun c12=>?_) (fun c12=>?_)
   ·
    refine Zg Z Z<|Zqm Z Z<|Zg Z Z<|qbv Z Z Z<|Zg Z Z<|ZqT Z Z Z<|Zg Z Z<|qbV Z Z<|ZqT Z Z Z<|Nt<|?_
    refine qaP Z (fun c13=>?_) (fun c13=>?_)
    ·
     refine Sr<|At Z Z<|Zo<|Zc<|Zu<|Zu<|Zc<|Zu<|?_
     refine rR [] L (.t1 Z) Z I3.1 fun _ hS2=>?_
     refine ⟨?_,Z⟩
     have hnil:l=[]↔l.length=0:=by cases l <;> simp
     have hb:qfg k ch=false:=by
       rw [Bool.eq_false_iff];simp only [qfg,qh0,qj8,Bool.or_eq_true,Bool.and_eq_true,decide_eq_true_eq,ne_eq];omega
     simp [qat,qes hch hb];done
    refine Zk<|Zb<|Zt<|Zr<|Zqm Z Z<|qaF Z Z Z (w64 O O)<|Zqa Z Z<|Zn<|?_
    have hOK:qfg k ch=true:=by simp only [qfg,qh0,qj8,Bool.or_eq_true,Bool.and_eq_true,decide_eq_true_eq,ne_eq];omega
    refine qab ⟨(k+1),[],kp,Z,⟨I3.1,⟨by omega,qbc hI hch hOK⟩⟩,O⟩
   refine Wf Y4<|Wf Y4<|Zg Z Z<|ZqF Z Z Z<|Zg Z Z<|qsu Z Z<|ZqT Z Z Z<|Nt<|Zy Z<|Sr<|At Z Z<|Zo<|Zc<|Zu<|Zu<|Zc<|Zu<|?_
   refine rR [] L (.t1 Z) Z I3.1 fun _ hS2=>?_
   refine ⟨?_,Z⟩
   have hnil:l=[]↔l.length=0:=by cases l <;> simp
   have hb:qfg k ch=false:=by
     rw [Bool.eq_false_iff];simp only [qfg,qh0,qj8,Bool.or_eq_true,Bool.and_eq_true,decide_eq_true_eq,ne_eq];omega
   simp [qat,qes hch hb];done
  refine Wf Y4<|Wf Y4<|Wf Y4<|Wf Y4<|ZqF Z Z Z<|At Z Z<|Sr<|Zqm Z Z<|qsu Z Z<|Zqm Z Z<|Zg Z Z<|Zqm Z Z<|Zg Z Z<|Zqm Z Z<|Wf Y4<|Wf Y4<|Zg Z Z<|ZqF Z Z Z<|Zg Z Z<|qsu Z Z<|ZqT Z Z Z<|Nt<|Zy Z<|Sr<|At Z Z<|Zo<|Zc<|Zu<|Zu<|Zc<|Zu<|?_
  refine rR [] L (.t1 Z) Z I3.1 fun _ hS2=>?_
  refine ⟨?_,Z⟩
  have hnil:l=[]↔l.length=0:=by cases l <;> simp
  have hb:qfg k ch=false:=by
    rw [Bool.eq_false_iff];simp only [qfg,qh0,qj8,Bool.or_eq_true,Bool.and_eq_true,decide_eq_true_eq,ne_eq];omega
  simp [qat,qes hch hb];done
 refine Zl<|Zv<|Zv<|Zd<|Zt<|Sr<|At Z Z<|Zo<|?_
 refine rR [] L (.t1 Z) Z I3.1 fun _ hS2=>?_
 refine ⟨?_,Z⟩
 have hnil:l=[]↔l.length=0:=by cases l <;> simp
 have hb:=qkj (fun i c hi hc=>hI i c O hc)
 have h6:(l.length:Int)≤m:=by omega
 have h0:¬ l=[]:=by rw [hnil];omega
 simp [qat,hb,h6,h0];done
theorem qqJ{l:List UInt8}{p:UInt8→Bool}{k:Nat}{c:UInt8}(hk:l[k]?=some c)(h:p c=true):l.any p=true:=List.any_eq_true.2 ⟨c,List.mem_of_getElem? hk,h⟩
theorem qoU{l:List UInt8}{p:UInt8→Bool}(h:∀ i c,i < l.length→l[i]?=some c→p c=false):l.any p=false:=by
 rw [List.any_eq_false];intro c hc
 obtain ⟨i,hi,he⟩:=List.getElem_of_mem hc
 have:=h i c hi (by rw [List.getElem?_eq_getElem hi,he])
 simp [this]
end Go.Proofs.YtpdnijphccdiiaaGreatDoor
namespace Go.Proofs.YtpdnijphccdiiaaGreatDoor
open Go Go.FL
def qcZ(c:Int):List UInt8→List UInt8→List (List UInt8)
 | cur,[]=>[cur]
 | cur,x::r=>if (x.toNat:Int)=c then cur::qcZ c [] r else qcZ c (cur++[x]) r
def qfE(c:Int)(l:List UInt8):List (List UInt8):=qcZ c [] l
theorem qhs(c:Int)(cur l:List UInt8):∀ p∈qcZ c cur l,p.length≤cur.length+l.length:=by
  induction l generalizing cur with
  | nil=>intro p hp;simp [qcZ] at hp;subst hp;simp
  | cons x r ih=>
    intro p hp
    simp only [qcZ] at hp
    split at hp
    · rcases List.mem_cons.1 hp with rfl | hp
      · simp only [List.length_cons];omega
      · have:=ih [] p hp;simp only [List.length_nil,List.length_cons] at this ⊢;omega
    · have:=ih (cur++[x]) p hp;simp only [List.length_append,List.length_cons,List.length_nil] at this ⊢;omega
theorem qhI{l:List UInt8}{c:Int}{i f:Nat}{x:UInt8}(h:l[i]?=some x)(hx:(x.toNat:Int)=c):qcZ c ((l.drop f).take (i - f)) (l.drop i)=((l.drop f).take (i - f))::qcZ c ((l.drop (i+1)).take ((i+1) - (i+1))) (l.drop (i+1)):=by
 obtain ⟨hi,rfl⟩:=List.getElem?_eq_some_iff.1 h
 rw [List.drop_eq_getElem_cons hi]
 simp only [qcZ,hx,if_true,Nat.sub_self,List.take_zero]
theorem qgy{l:List UInt8}{c:Int}{i f:Nat}{x:UInt8}(h:l[i]?=some x)(hx:¬ (x.toNat:Int)=c)(hf:f≤i):qcZ c ((l.drop f).take (i - f)) (l.drop i)=qcZ c ((l.drop f).take ((i+1) - f)) (l.drop (i+1)):=by
 obtain ⟨hi,rfl⟩:=List.getElem?_eq_some_iff.1 h
 rw [List.drop_eq_getElem_cons hi]
 simp only [qcZ,hx,if_false]
 congr 1
 rw [show i+1 - f=(i - f)+1 by omega,List.take_add_one,List.getElem?_drop,show f+(i - f)=i by omega,List.getElem?_eq_getElem hi];rfl
theorem qkR{l:List UInt8}{c:Int}{f:Nat}:qcZ c ((l.drop f).take (l.length - f)) (l.drop l.length)=[l.drop f]:=by
 rw [List.drop_length,List.take_of_length_le (by simp)];rfl
def sb(l:List (List UInt8)):List Value:=l.map fun x=>St x
theorem qio(l:List (List UInt8))(x:List UInt8):sb (l++[x])=sb l++[St x]:=by simp [sb]
theorem Own.strs{e:Nat}{A:Hl}{Ad:Option Addr}{n c:Nat}{l:List (List UInt8)}{s:World}(h:FL.Own e 1 A (.slice Ad n c) n (sb l))(hu:∀ x∈l,x.length≤9223372036854775807)(hp:Pub A s)(hn:n=l.length):Strs s Ad n c l:=by
 have he:sb l=(l.map fun x=>[St x]).flatten:=by
  clear h hu hn
  induction l with
  | nil=>rfl
  | cons x r ih=>simp [sb] at ih ⊢;exact ih
 rw [he] at h
 refine Own.rows h hp ?_ hn
 clear h he hn
 induction l with
 | nil=>exact .nil
 | cons x r ih=>exact .cons ⟨rfl,rfl,hu x Mc⟩ (ih fun y hy=>hu y (List.mem_cons_of_mem _ hy))
open Go.FL
attribute [local irreducible] JC JO JA JB qaJ qaw qbM AC fill CellsAt QE Ev Mid
theorem qk6(D:Nat)(L:Hl)(s:World)(l:List UInt8)(c:Int)(hl:l.length≤1000000000):AC Tryz.prog D 58 [St l,.int .u8 c] L s fun v L' s'=>∃ M',L'=M'++L∧∀ s2,Le D s' s2→Pub M' s2→∃ A n c',v=.slice A n c'∧Strs s2 A n c' (qfE c l):=by
 refine qai (fn:=Tryz.f58) qao Tryz.func58 V Z Tryz.ntmps58 Z (rs:=[.tmp 4]) Z [(0,_),(1,_)] Z<|Sr<|At Z Z<|Sr<|At Z Z<|Sr<|At Z Z<|Zs<|Sr<|At Z Z<|Zp<|?_
 refine qav (γ:=Nat×Nat×Value×Hl×List (List UInt8)) (fun g=>[(0,_),(1,_),(4,_),(5,g.2.2.1),(6,.int .i64 (g.2.1:Int)),(7,.int .i64 (g.1:Int))]) (fun g=>g.2.2.2.1++L) (fun g tw=>Le D s tw∧(g.1≤l.length∧g.2.1≤g.1∧FL.Own 9 1 g.2.2.2.1 g.2.2.1 g.2.2.2.2.length (sb g.2.2.2.2)∧g.2.2.2.2.length≤g.1∧qfE c l=g.2.2.2.2++qcZ c ((l.drop g.2.1).take (g.1 - g.2.1)) (l.drop g.1))) (fun g=>l.length - g.1) (fun _ _ _ h hl=>⟨h.1.trans hl,h.2⟩) (0,0,.slice none 0 0,[],[]) (.c6 Z Z Z Z Z Z (.nil _)) Z ⟨Le.refl _,⟨Nat.zero_le _,Nat.le_refl _,Own.nil,Nat.le_refl _,by simp [qfE]⟩⟩ ?_
 intro g s1 I1
 obtain ⟨i,f,vo,Mo,out⟩:=g
 obtain ⟨hi0,hf,hO,hol,hS⟩:=I1.2
 simp only at hi0 hf hO hol hS
 dsimp only
 refine Zs<|Sr<|Zqm Z Z<|Zqm Z Z<|qgR Z Z Z Z<|qbh Z Z Z<|Nt<|?_
 refine qaa Z (fun c2=>?_) (fun c2=>?_)
 ·
  have hk:i < l.length:=by omega
  obtain ⟨ch,hch⟩:∃ ch,l[i]?=some ch:=⟨_,List.getElem?_eq_getElem hk⟩
  refine Zk<|Zt<|Zs<|Zp<|Sr<|Zqm Z Z<|Zqm Z Z<|qac (qfA Z Z Z Z hch) Z<|Zqm Z Z<|qar Z Z Z<|Nt<|?_
  refine qaa Z (fun c3=>?_) (fun c3=>?_)
  ·
   have hne:=c3
   refine Sr<|Zqm Z Z<|Zqm Z Z<|Zqm Z Z<|Zqm Z Z<|qac (qrh Z Z Z Z Z O O) Z<|qbk [(_,_)] [_] Z Z Z Z Z Z Z Z Z ?_
   intro βn s4 h4 hcb
   refine qba (sz:=1) [] Mo L Z Z Z Z Z Z Z hO (Row.of_cells (hcb.le (Lr D)) Z Z) ⟨by simp [ti9];omega,by omega⟩ Z ?_
   intro v2 A2x s5 h5 o2
   obtain ⟨Av2,cv2,rfl,_,_⟩:=Own.slice o2
   simp only [List.nil_append]
   refine At Z Z<|Zr<|Zqm Z Z<|qaF Z Z Z (w64 O O)<|Zqa Z Z<|Zn<|Zb<|Zt<|Zr<|Zqm Z Z<|qaF Z Z Z (w64 O O)<|Zqa Z Z<|Zn<|?_
   refine qab ⟨(i+1,i+1,.slice Av2 (out.length+1) cv2,A2x,out++[(l.drop f).take (i - f)]),[],kp,Z,⟨(I1.1.t h4|>.t h5),by first | exact ⟨by simp only;omega,by simp only;omega,by simp only [List.length_append,List.length_cons,List.length_nil,qio];exact o2,by simp;omega,by simp only;rw [hS,qhI hch hne,List.append_assoc];rfl⟩ | exact ⟨by simp only;omega,by simp only;omega,hO,by simp only;omega,by simp only;rw [hS,qgy hch hne hf]⟩⟩,Oz⟩
  have hne:=c3
  refine Zk<|Zb<|Zt<|Zr<|Zqm Z Z<|qaF Z Z Z (w64 O O)<|Zqa Z Z<|Zn<|?_
  refine qab ⟨(i+1,f,vo,Mo,out),[],kp,Z,⟨I1.1,by first | exact ⟨by simp only;omega,by simp only;omega,by simp only [List.length_append,List.length_cons,List.length_nil,qio];exact o2,by simp;omega,by simp only;rw [hS,qhI hch hne,List.append_assoc];rfl⟩ | exact ⟨by simp only;omega,by simp only;omega,hO,by simp only;omega,by simp only;rw [hS,qgy hch hne hf]⟩⟩,Oz⟩
 have hiE:i=l.length:=by omega
 subst hiE
 rw [qkR] at hS
 refine Zl<|Zv<|Zv<|Zd<|Zt<|Sr<|Zqm Z Z<|Zqm Z Z<|Zqm Z Z<|qac (qty Z Z Z Z O) Z<|qbk [(_,_)] [_] Z Z Z Z Z Z Z Z Z ?_
 intro βn s6 h6 hcb
 refine qba (sz:=1) [] Mo L Z Z Z Z Z Z Z hO (Row.of_cells (hcb.le (Lr D)) Z Z) ⟨by simp [ti9];omega,by omega⟩ Z ?_
 intro v2 A2x s7 h7 o2
 obtain ⟨Av2,cv2,rfl,_,_⟩:=Own.slice o2
 simp only [List.nil_append]
 refine At Z Z<|Zo<|?_
 refine rR [] _ (.t1 Z) Z (I1.1.t h6|>.t h7) fun _ hS2=>?_
 refine ⟨_,Z,fun s2 hs2 hp=>⟨_,_,_,Z,?_⟩⟩
 rw [hS]
 exact Own.strs (by rw [qio];exact o2) (fun x hx=>by rw [← hS] at hx;have:=qhs c [] l x hx;simp at this;omega) hp (by simp)
theorem qgQ(D:Nat)(L:Hl)(s:World)(l:List UInt8)(c:Int)(hl:l.length≤1000000000):AC Tryz.prog D 58 [St l,.int .u8 c] L s fun v L' s'=>L=L'∧∃ A n c',v=.slice A n c'∧Strs s' A n c' (qfE c l):=AC.pubW (qk6 D L s l c hl)
end Go.Proofs.YtpdnijphccdiiaaGreatDoor
namespace Go.FL
open Go Go.RowKit
section
variable{P:Program}{D:Nat}{L:Hl}{s:World}
theorem AC.of_calls{f:FuncId}{args:List Value}{R:Value→Hl→World→Prop}(hf:qjy P f)
  (h:OKL D L s→Calls P f args.toArray (fill L s) fun e w'=>∃ v,e=.returned v∧Below (fill L s).heap.size (fill L s) w'∧∀ s',w'=fill L s'→Le D s s'→(∀ k,s.heap.size≤k→s'.heap[k]?=w'.heap[k]?)→R v L s'):AC P D f args L s R:=
 ⟨hf,fun ho=>(h ho).mono fun e w' ⟨v,he,hb,hr⟩=>by
  obtain ⟨e1,o1,l1⟩:=quh ho hb
  refine ⟨v,L,qcq D L w',he,e1,o1,l1,hr _ e1 l1 fun k hk=>qcQ fun hm=>?_⟩
  obtain ⟨x,hx,rfl⟩:=List.mem_map.1 hm
  have:=ho.lt hx
  omega⟩
theorem qeT(w:World):Below w.heap.size w w:=Below.refl _ _
theorem qjG(l:List Obj):∃ D,∀ E,D≤E→∀ o∈l,o≠dum E:=by
  induction l with
  | nil=>exact ⟨0,fun _ _ _ h=>by cases h⟩
  | cons x l ih=>
    obtain ⟨D,h⟩:=ih
    by_cases hx:∃ E,x=dum E
    · obtain ⟨E0,rfl⟩:=hx
      refine ⟨D+E0+1,fun E hE o ho=>?_⟩
      rcases List.mem_cons.1 ho with rfl | ho
      · intro e;simp only [dum] at e;injection e;omega
      · exact h E O o ho
    · refine ⟨D,fun E hE o ho=>?_⟩
      rcases List.mem_cons.1 ho with rfl | ho
      · exact fun e=>hx ⟨E,e⟩
      · exact h E hE o ho
theorem qh8(W:World):∃ D,∀ k:Nat,W.heap[k]?≠some (dum D):=by
 obtain ⟨D,h⟩:=qjG W.heap.toList
 refine ⟨D,fun k hk=>h D (Nat.le_refl _) _ ?_ Z⟩
 rw [← Array.getElem?_toList] at hk
 exact List.mem_of_getElem? hk
theorem qiw{f:FuncId}{args:List Value}{W:World}{v0:Value}(h:∀ D,AC P D f args [] W fun v L' _=>v=v0∧[]=L') :
  Calls P f args.toArray W fun e w'=>e=.returned v0∧Below W.heap.size W w':=by
 obtain ⟨D,hD⟩:=qh8 W
 refine ((h D).2 ⟨List.nodup_nil,fun _ h=>by cases h⟩).mono ?_
 rintro e w' ⟨v,L',s',he,hw,_,hl,hv,hL⟩
 subst hL
 have hw':w'=s':=hw
 subst hw'
 refine ⟨by rw [he,hv],⟨hl.os,hl.tape,hl.output,hl.size,fun k hk=>?_⟩⟩
 rcases hl.block k hk with h1 | h1
 · exact absurd h1 (hD k)
 · exact h1
end
end Go.FL
namespace Go.Proofs.YtpdnijphccdiiaaGreatDoor
open Go Go.FL Go.RowKit
structure GW(s:World):Prop where
 pow:∃ ty fz,s.heap[Tryz.laysM284_ren.g 17]?=some (.cells (Lib.pow10Tab.map fun z=>Value.int .u64 z).toArray ty fz)
theorem qlP{D:Nat}{s s':World}{k:Nat}{cs:Array Value}{ty:TypeId}{fz:Nat×Nat}(h:s.heap[k]?=some (.cells cs ty fz))(hl:Le D s s'):s'.heap[k]?=some (.cells cs ty fz):=by
 have hk:k < s.heap.size:=by
  rcases Nat.lt_or_ge k s.heap.size with h1 | h1
  · exact h1
  · rw [Array.getElem?_eq_none h1] at h;cases h
 rcases hl.block k hk with h1 | h1
 · rw [h] at h1;simp [dum] at h1
 · rw [h1,h]
theorem GW.le{D:Nat}{s s':World}(h:GW s)(hl:Le D s s'):GW s':=by
 obtain ⟨⟨t,f,h1⟩⟩:=h
 exact ⟨⟨t,f,qlP h1 hl⟩⟩
theorem que{w:World}{nm:String}(hg:Tryz.prog.globalNamed nm=some (Tryz.laysM284_ren.g 17))(h:GW w):Lib.TabIs Tryz.prog w nm .u64 Lib.pow10Tab:=by
 obtain ⟨t,f,h1⟩:=h.pow
 simp only [Lib.TabIs,World.var?,hg,Option.bind_some,h1]
end Go.Proofs.YtpdnijphccdiiaaGreatDoor
namespace Go.FL
open Go Go.RowKit
theorem qpM{P:Program}{TT:qaZ}{D:Nat}{fr:Fr}{ty:Nat}{K:Hl}{s0:World}{t e b m:Nat}{x y:Operand}{ti te:TI}{ik:IntKind}{j:Nat}(hx:lk fr x=some (.pointer (some ⟨b,0,none⟩)))(hy:lk fr y=some (.int ik (j:Int)))(ht:qaB TT t=some ti)(hk:ti.kind=.ar m e)(he:qaB TT e=some te)(hj:j≤m) :
  QE P TT D fr (.slice t x none (some y) none) ty K s0 (.slice (some ⟨b,0,none⟩) j m):=
 QE.pure fun hT dst pos af g ρ hρ w=>by
  have hb:(Instr.sliceBounds false m m none (some (.int ik (j:Int))) none).run P w=.ok (0,j,m) w:=by simp [Instr.sliceBounds,qdX hj]
  have hu:P.underlying t=some (.array m e):=by
   obtain ⟨h1,h2,_⟩:=hT.at_ ht
   rw [hk] at h2
   rw [h1]
   exact congrArg some h2
  have hr:(Instr.sliceAt t (.pointer (some ⟨b,0,none⟩)) none (some (.int ik (j:Int))) none).run P w=.ok (.slice (some ⟨b,0,none⟩) j m) w:=by
   simp [Instr.sliceAt,Instr.sureAddr,run_underlying hu,hb,qbH (hT.at_ he),Addr.add]
  simp only [execOp,hρ x _ hx,Option.map_none,Option.map_some,hρ y _ hy,Sem.run_bind,hr,Result.andThen_ok,Sem.run_pure]
theorem qjM(L:Hl)(s:World)(n:Nat):(fill L s).drewN n=fill L (s.drewN n):=by
 induction L with
 | nil=>rfl
 | cons x L ih=>show qbn ((fill L s).drewN n) x.1 x.2=qbn (fill L (s.drewN n)) x.1 x.2;rw [ih]
theorem Le.drewN{D:Nat}(s:World)(n:Nat):Le D s (s.drewN n):=⟨rfl,rfl,rfl,Nat.le_refl _,fun _ _=>.inr rfl⟩
theorem qhf(w:World)(b ty:Nat)(zs:List Value)(f:Array Value→Array Value):Sort.mapBlock (qbn w b (cb zs ty)) b f=qbn w b (cb (f zs.toArray).toList ty):=by
  refine qc3 (qc4 fun k=>?_) Z Z Z Z
  show ((w.heap.setIfInBounds b _).modify b _)[k]?=(w.heap.setIfInBounds b _)[k]?
  rw [Array.getElem?_modify]
  by_cases hk:b=k
  · subst hk
    rw [if_pos rfl,Array.getElem?_setIfInBounds_self,Array.getElem?_setIfInBounds_self]
    split
    · simp [Sort.onCells,cb]
    · rfl
  · rw [if_neg hk,Array.getElem?_setIfInBounds_ne hk,Array.getElem?_setIfInBounds_ne hk]
end Go.FL
namespace Go.Proofs.YtpdnijphccdiiaaGreatDoor
open Go.Proofs.Tryz
open Go Go.FL Go.RowKit
section
variable(D:Nat)(L:Hl)(s:World)
theorem qjE:qjy prog 207:=⟨_,func207,by kernel_rfl,by kernel_rfl⟩
theorem qso:qjy prog 208:=⟨_,func208,by kernel_rfl,by kernel_rfl⟩
theorem qnM:qjy prog 209:=⟨_,func209,by kernel_rfl,by kernel_rfl⟩
theorem qoq(u:Nat)(h:u < 100):AC prog D 207 [.int .i64 (u:Int)] L s fun v L' _=>v=St (Lib.decDigits u)∧L=L':=
 AC.of_calls qjE fun _=>(Any.internal_strconv_small lays283 u h (fill L s)).mono fun e w' ⟨he,hw⟩=>⟨_,he,by rw [hw];exact qeT _,fun s' _ _ _=>⟨rfl,rfl⟩⟩
theorem qu9(hG:GW s)(u:Nat)(h1:1≤u)(h2:u < 4294967296):AC prog D 208 [.int .u64 (u:Int)] L s fun v L' _=>v=.int .i64 (Lib.nDigits u:Int)∧L=L':=
 AC.of_calls qso fun ho=>(Any.internal_strconv_numDigits laysM284 u h1 O (fill L s) (que laysM284.m17 (hG.le (qfw ho)))).mono fun e w' ⟨he,hw⟩=>⟨_,he,by rw [hw];exact qeT _,fun s' _ _ _=>⟨rfl,rfl⟩⟩
theorem qqt{u:Nat}(h:u < 4294967296):Lib.nDigits u≤20:=by
  by_cases h1:1≤u
  · have:=Lib.numDigits_eq u h1 O;split at this <;> omega
  · obtain rfl:u=0:=by omega
    rw [Lib.nDigits];simp
def z24:List Value:=List.replicate 24 (.int .u8 0)
theorem qkH(u:Nat)(h2:u < 4294967296)(b ty:Nat):AC prog D 209 [.slice (some ⟨b,0,none⟩) (Lib.nDigits u) 24,.int .u64 (u:Int)] ((b,cb z24 ty)::L) s
    fun v L' _=>v=.tuple #[]∧∃ ys,L'=(b,cb (bv (Lib.decDigits u)++ys) ty)::L∧(Lib.decDigits u).length+ys.length=24:=by
  refine ⟨qnM,fun ho=>?_⟩
  have hnd:=qqt h2
  have hblk:(fill ((b,cb z24 ty)::L) s).heap[b]?=some (cb z24 ty):=qa8 ho Mc
  have hH:Sort.Holds (fun (x:UInt8)=>Value.int .u8 (x.toNat:Int)) (fill ((b,cb z24 ty)::L) s) b 0 (Array.replicate (Lib.nDigits u) (0:UInt8)):=by
    intro j hj
    have hj':j < Lib.nDigits u:=by simpa using hj
    refine ⟨?_,by unfold World.frozen?;rw [hblk];simp [cb]⟩
    rw [Nat.zero_add,qcC ho Mc,getElem!_pos _ j hj,z24,List.getElem?_replicate,if_pos O]
    simp
  have h:=Any.internal_strconv_formatBase10 lays285 b 0 24 u (Array.replicate (Lib.nDigits u) 0) _ hH (by rw [Array.size_replicate];exact Lib.lt_pow_nDigits u) O (by rw [Array.size_replicate];omega)
  rw [Array.size_replicate] at h
  refine h.mono ?_
  rintro e w' ⟨he,n,v',dk,hw,hF⟩
  have hsz:dk.size=Lib.nDigits u:=hF.size
  have hlen:(Lib.decDigits u).length=Lib.nDigits u:=Lib.decDigits_length u
  have hcells:(Sort.putCells (fun (x:UInt8)=>Value.int .u8 (x.toNat:Int)) 0 dk z24.toArray).toList=bv (Lib.decDigits u)++List.replicate (24 - Lib.nDigits u) (.int .u8 0):=by
    apply List.ext_getElem?
    intro k
    simp only [Sort.putCells,Array.toList_mapIdx,List.getElem?_mapIdx,Nat.zero_le,true_and,Nat.zero_add,Nat.sub_zero]
    by_cases hk:k < Lib.nDigits u
    · rw [List.getElem?_append_left (by simp [bv];omega)]
      have h24:z24[k]?=some (.int .u8 0):=by rw [z24,List.getElem?_replicate,if_pos O]
      rw [h24]
      simp only [Option.map_some,hsz,hk,if_true,bv,List.getElem?_map]
      rw [List.getElem?_eq_getElem O,← Lib.row_is_numeral hF k O]
      rfl
    · rw [List.getElem?_append_right (by simp [bv];omega)]
      have hk':¬ k < dk.size:=by omega
      have hbl:(bv (Lib.decDigits u)).length=Lib.nDigits u:=by simp [bv,hlen]
      rw [hbl]
      by_cases h24:k < 24
      · have e1:z24[k]?=some (.int .u8 0):=by rw [z24,List.getElem?_replicate,if_pos O]
        rw [e1]
        simp [hk',List.getElem?_replicate]
        omega
      · have e1:z24[k]?=none:=by simp [z24];omega
        rw [e1]
        simp [List.getElem?_replicate]
        omega
  have hworld:w'=fill ((b,cb (bv (Lib.decDigits u)++List.replicate (24 - Lib.nDigits u) (.int .u8 0)) ty)::L) (s.drewN n):=by
    rw [hw,Sort.putRow]
    show (Sort.mapBlock (qbn (fill L s) b (cb z24 ty)) b _).drewN n=_
    rw [qhf,hcells]
    exact qjM ((b,cb (bv (Lib.decDigits u)++List.replicate (24 - Lib.nDigits u) (.int .u8 0)) ty)::L) s n
  exact ⟨_,_,_,he,hworld,⟨ho.nd,fun x hx=>by
    rcases List.mem_cons.1 hx with rfl | hx
    · exact ho.dm (b,cb z24 ty) Mc
    · exact ho.dm x (List.mem_cons_of_mem _ hx)⟩,Le.drewN s n,rfl,_,rfl,by simp;omega⟩
end
end Go.Proofs.YtpdnijphccdiiaaGreatDoor
namespace Go.FL
open Go Go.RowKit
structure Apps(P:Program)(w:World)(t u ty e:Nat)(i:TypeInfo)(z:Value)(y:Value)(m:Nat)(news:List Value):Prop where
 none:m=0→(Builtin.append_ #[t,u] ty #[.slice none 0 0,y]).run P w=.ok (.slice none 0 0) w
 nil:0 < m→m≤9223372036854775807→m * i.bytes≤140737488355328→(Builtin.append_ #[t,u] ty #[.slice .none 0 0,y]).run P w=.ok (.slice (some ⟨w.heap.size,0,.none⟩) m (grownCap w m 0 e)) (w.drew.alloc (.cells (news.toArray++Builtin.zeroCells z.cells (grownCap w m 0 e - m)) e))
 room:∀ g sLen sCap (cur:Array Value),w.heap[g]?=some (.cells cur e (0,0))→sLen+m≤sCap→sLen * i.size+news.length≤cur.size→(Builtin.append_ #[t,u] ty #[.slice (some ⟨g,0,.none⟩) sLen sCap,y]).run P w=.ok (.slice (some ⟨g,0,.none⟩) (sLen+m) sCap) (w.setRow g (cur.toList.take (sLen * i.size)++news++cur.toList.drop (sLen * i.size+news.length)).toArray)
 grow:∀ g n cap (xs:List Value),xs.length=n * i.size→(∀ j v,xs[j]?=some v→w.cell? ((⟨g,0,.none⟩:Addr).add j)=some v)→cap < n+m→n+m≤9223372036854775807→(n+m) * i.bytes≤140737488355328 →
  (Builtin.append_ #[t,u] ty #[.slice (some ⟨g,0,.none⟩) n cap,y]).run P w=.ok (.slice (some ⟨w.heap.size,0,.none⟩) (n+m) (grownCap w (n+m) cap e)) (w.drew.alloc (.cells (xs.toArray++news.toArray++Builtin.zeroCells z.cells (grownCap w (n+m) cap e - (n+m))) e))
theorem qm3{P:Program}{w:World}{t u ty e:Nat}{i:TypeInfo}{z y:Value}{m size bytes:Nat}{news:List Value}(hS:Apps P w t u ty e i z y m news)(hsize:i.size=size)(hby:i.bytes=bytes)(hzs:z.cells.size=size)
    (v:Value) (n:Nat) (xs:List Value) (hown:w.ownsRow 0 e size v n xs) (hl:news.length=m * size) (h63:n+m≤maxLen) (hbytes:(n+m) * bytes≤140737488355328) :
    ∃ v' w',(Builtin.append_ #[t,u] ty #[v,y]).run P w=.ok v' w'∧w'.ownsRow 0 e size v' (n+m) (xs++news)∧w.grownBy w' v.ownBlock∧(v'.ownBlock=v.ownBlock∨v'.ownBlock=some w.heap.size)∧(v=.slice none 0 0→m=0→v'=.slice none 0 0):=by
  subst hsize
  subst hby
  have hsmall:n+m≤9223372036854775807:=by simp only [maxLen] at h63;omega
  have hlen:(xs++news).length=(n+m) * i.size:=by rw [List.length_append,hown.1,hl,Nat.add_mul]
  have grown:∀ (old:Nat),old < n+m→∀ (row:Option Nat),
      (w.drew.alloc (.cells (xs.toArray++news.toArray++Builtin.zeroCells z.cells (grownCap w (n+m) old e - (n+m))) e)).ownsRow 0 e i.size
        (.slice (some ⟨w.heap.size,0,none⟩) (n+m) (grownCap w (n+m) old e)) (n+m) (xs++news) ∧
      w.grownBy (w.drew.alloc (.cells (xs.toArray++news.toArray++Builtin.zeroCells z.cells (grownCap w (n+m) old e - (n+m))) e)) row:=by
    intro old ho row
    have hge:=grownCap_ge w (n+m) old e
    have hcm:grownCap w (n+m) old e≤maxLen:=grownCap_le_maxLen w (n+m) old e h63
    refine ⟨⟨hlen,.inr ⟨w.heap.size,_,_,Z,Nat.zero_le _,heap_alloc_new w.drew _,hge,hcm,?_,?_⟩⟩,⟨Z,Z,Z,by simp,fun k hk _=>by show (w.heap.push _)[k]?=w.heap[k]?;rw [Array.getElem?_push,if_neg (Nat.ne_of_lt hk)]⟩⟩
    · simp only [Array.size_append,List.size_toArray,size_zeroCells,hzs,hown.1,hl,← Nat.add_mul]
      congr 1
      omega
    · simp only [Array.toList_append,List.append_assoc]
      rw [← List.append_assoc,← hlen]
      exact List.take_left
  rcases hown.2 with ⟨rfl,rfl⟩ | ⟨g,cap,cur,rfl,hbg,hg,hnc,hcm,hcs,htake⟩
  · have hx:xs=[]:=List.eq_nil_of_length_eq_zero (by simpa using hown.1)
    subst hx
    by_cases hm:m=0
    · have hn:news=[]:=List.eq_nil_of_length_eq_zero (by rw [hl,hm];simp)
      refine ⟨.slice none 0 0,w,hS.none hm,?_,⟨Z,Z,Z,Nat.le_refl _,fun _ _ _=>rfl⟩,Or.inl Z,fun _ _=>rfl⟩
      rw [hn,hm];exact World.ownsRow_nil w 0 e i.size
    · have hr:=hS.nil O O (by have hb:=hbytes;simp only [Nat.zero_add] at hb;exact hb)
      have hgr:=grown 0 O (Value.ownBlock (.slice none 0 0))
      simp only [Nat.zero_add,List.nil_append,Array.empty_append] at hgr ⊢
      exact ⟨_,_,hr,hgr.1,hgr.2,Or.inr rfl,fun _ h=>absurd h hm⟩
  · by_cases hroom:n+m≤cap
    · have hfit:n * i.size+news.length≤cur.size:=by rw [hl,hcs,← Nat.add_mul];exact Nat.mul_le_mul_right _ hroom
      have hr:=hS.room g n cap cur hg hroom hfit
      refine ⟨_,_,hr,⟨hlen,.inr ⟨g,cap,_,Z,hbg,setRow_heap w g cur _ e _ hg,hroom,hcm,?_,?_⟩⟩,⟨Z,Z,Z,by simp,fun k _ hk=>setRow_other w g k _ (fun e=>hk (by simp [Value.ownBlock,e]))⟩,Or.inl Z,fun h=>by cases h⟩
      · simp only [List.size_toArray,List.length_append,List.length_take,List.length_drop,Array.length_toList]
        omega
      · rw [htake,← hlen]
        exact List.take_left
    · have holds:∀ j u,xs[j]?=some u→w.cell? ((⟨g,0,none⟩:Addr).add j)=some u:=hown.cells (g:=g) rfl
      have hr:=hS.grow g n cap xs hown.1 holds O hsmall hbytes
      have hgr:=grown cap O (Value.ownBlock (.slice (some ⟨g,0,none⟩) n cap))
      exact ⟨_,_,hr,hgr.1,hgr.2,Or.inr rfl,fun h=>by cases h⟩
section
variable{P:Program}{TT:qaZ}{D n:Nat}{Q:qbD}{fr:Fr}{L L' K:Hl}{s s' s0:World}{ops:Array Oper}{rest:List Oper}{d ty:Nat}{op:Op}{pos:String}{af:Array Edge}{v:Value}
theorem qra{t u e m k sz:Nat}{x y:Operand}{yv:Value}{ti te:TI}{news xs:List Value}(B A L0:Hl)(hT:TabOK P TT)(hx:lk fr x=some v)(hy:lk fr y=some yv)(ht:qaB TT t=some ti)(hk:ti.kind=.sl e)(he:qaB TT e=some te)(hsz:te.size=sz)
  (hO:FL.Own e sz A v k xs) (hl:news.length=m * sz) (hS:∀ w i,P.underlying t=some (.slice e)→P.info? e=some i→i.size=te.size→i.bytes=te.bytes→i.zero=some te.zero→Apps P w t u ty e i te.zero yv m news) (h63:(k+m) * te.bytes≤140737488355328∧k+m≤9223372036854775807) (ho:OKL D (B++(A++L0)) s) :
  ∃ v' A' s',Ev P TT D fr (.call { callee:=.builtin .append,args:=#[x,y],argTypes:=#[t,u] }) ty (B++(A++L0)) s (.value v') (B++(A'++L0)) s'∧Le D s s'∧FL.Own e sz A' v' (k+m) (xs++news)∧(v=.slice none 0 0→m=0→v'=.slice none 0 0):=by
 obtain ⟨k1,k2,_⟩:=hT.at_ ht
 rw [hk] at k2
 simp only [TK.fits] at k2
 rw [k2] at k1
 have hte:=hT.at_ he
 obtain ⟨i,i1,i2,i3,i4⟩:=qdu hte
 have hzs:te.zero.cells.size=te.size:=by rw [qcD hte];simpa using hte.2.2.2.1
 have hin:∀ x∈A,(fill (B++(A++L0)) s).heap[x.1]?=some x.2:=fun x hx=>qa8 ho (mem_mid.2 (.inr (.inl hx)))
 obtain ⟨v',w',hrun,hown',hgr,hat,hnl⟩:=qm3 (hS (fill (B++(A++L0)) s) i k1 i1 i2 i3 i4) (i2.trans hsz) i3 (by rw [hzs,hsz]) v k xs (hO.owns hin) hl (by simpa [maxLen] using h63.2) h63.1
 obtain ⟨A',hO',hA'⟩:=Own.of_owns hown'
 rw [qaG] at hat
 obtain ⟨r1,r2,r3⟩:=qpw (D:=D) ho hO hO' hA' hgr hat
 refine ⟨v',A',qcq D (B++(A'++L0)) w',fun hT ho dst pos af g ρ hρ=>⟨?_,r2⟩,r3,hO',hnl⟩
 rw [← r1]
 simp only [execOp,resolve,invoke,builtin,Sem.run_bind,Sem.run_pure,Result.andThen_ok,List.map_toArray,List.map_cons,List.map_nil,hρ x _ hx,hρ y _ hy,hrun]
theorem ql4{t u e m k sz:Nat}{x y:Operand}{yv:Value}{ti te:TI}{news xs:List Value}(B A L0:Hl)(hL:L=B++(A++L0))(hx:lk fr x=some v)(hy:lk fr y=some yv)(ht:qaB TT t=some ti)(hk:ti.kind=.sl e)(he:qaB TT e=some te)(hsz:te.size=sz)
  (hO:FL.Own e sz A v k xs) (hl:news.length=m * sz) (hS:TabOK P TT→∀ w i,P.underlying t=some (.slice e)→P.info? e=some i→i.size=te.size→i.bytes=te.bytes→i.zero=some te.zero→Apps P w t u ty e i te.zero yv m news) (h63:(k+m) * te.bytes≤140737488355328∧k+m≤9223372036854775807) (hd:Nat.blt d n=true)
  (kk:∀ v' A' s',Le D s s'→FL.Own e sz A' v' (k+m) (xs++news)→(v=.slice none 0 0→m=0→v'=.slice none 0 0)→JO P TT D n ops Q rest ((d,v')::fr) (B++(A'++L0)) s') :
  JO P TT D n ops Q (⟨some d,.call { callee:=.builtin .append,args:=#[x,y],argTypes:=#[t,u] },ty,pos,af,none⟩::rest) fr L s:=fun hT a hr ho=>by
 subst hL
 obtain ⟨v',A',s',h1,h2,h3,h4⟩:=qra (ty:=ty) B A L0 hT hx hy ht hk he hsz hO hl (hS hT) h63 ho
 exact qf6 hd h1 (kk v' A' s' h2 h3 h4) hT a hr ho
end
theorem qmP{P:Program}{w:World}{t u ty e:Nat}{i:TypeInfo}{z:Value}(l:List UInt8)(ht:P.underlying t=some (.slice e))(hu:P.underlying u=some .string)(hi:P.info? e=some i)(hs:i.size=1)(hb:i.bytes=1)(hz:i.zero=some z) :
    Apps P w t u ty e i z (St l) l.length (l.map fun b=>Value.int .u8 (b.toNat:Int)):=by
  have hsz:(⟨l.toArray⟩:ByteArray).size=l.length:=by simp [ByteArray.size]
  have hcs:Lib.strCells ⟨l.toArray⟩=l.map fun b=>Value.int .u8 (b.toNat:Int):=by simp [Lib.strCells]
  refine ⟨fun h0=>?_,fun h1 h2 h3=>?_,fun g sLen sCap cur hg hr hf=>?_,fun g n cap xs hl hc hcap h63 hby=>?_⟩
  · have hf:=Lib.run_firstCells_string (P:=P) w 1 ⟨l.toArray⟩
    have hl:l=[]:=List.eq_nil_of_length_eq_zero h0
    subst hl
    simp [Builtin.append_,run_underlying ht,run_underlying hu,sizeOf,typeInfo,hi,hs,Builtin.lenOf,Builtin.firstCells,ByteArray.size]
  · have hr:=run_append_nil_string (P:=P) w t u ty e i z ht hu hi hz ⟨l.toArray⟩ (by rw [hsz];exact h1) (by rw [hsz];omega) (by rw [hsz];exact Nat.le_trans h3 O)
    rw [hsz] at hr
    have e1:((⟨l.toArray⟩:ByteArray).data.map fun b=>Value.int .u8 (b.toNat:Int))=(l.map fun b=>Value.int .u8 (b.toNat:Int)).toArray:=by apply Array.ext';simp
    rw [e1] at hr
    exact hr
  · have hr':=Lib.run_append_room_string (P:=P) (ty:=ty) w t u e i ht hu hi hs g sLen sCap cur hg ⟨l.toArray⟩ (by rw [hsz];exact hr) (by rw [hsz];simpa [hs] using hf)
    rw [hsz,hcs] at hr'
    rw [hs,Nat.mul_one,List.length_map]
    exact hr'
  · have hr:=Lib.run_append_grow_string (P:=P) (ty:=ty) w t u e i z ht hu hi hz ⟨g,0,none⟩ n cap xs hl hc ⟨l.toArray⟩ (by rw [hsz];exact hcap) (by rw [hsz];omega) (by rw [hsz];exact growslice_fits hcap hby)
    rw [hsz,hcs] at hr
    exact hr
theorem qk5{P:Program}{w:World}{t u ty e:Nat}{i:TypeInfo}{z:Value}{ik:IntKind}(m:Nat)(ht:P.underlying t=some (.slice e))(hu:P.underlying u=some (.int ik))(hi:P.info? e=some i)(hs:i.size=1)(hz:i.zero=some z)(hzc:z.cells=#[z])(h1c:z.oneCell'=true)(hm:m≤9223372036854775807)(hmb:(m:Int) * i.bytes≤281474976710656) :
    Apps P w t u ty e i z (.int ik (m:Int)) m (List.replicate m z):=by
  have hw:IntKind.i64.wrap (m:Int)=(m:Int):=w64 O O
  have h0:¬ ((m:Int) < 0):=by omega
  have hmb':¬ (281474976710656 < (m:Int) * (i.bytes:Int)):=by omega
  have hzz:Builtin.zeroCells z.cells m=(List.replicate m z).toArray:=by
    rw [hzc];apply Array.ext';simp only [Builtin.zeroCells]
    apply List.ext_getElem
    · simp
    · intro k h1 h2;simp [Nat.mod_one]
  have happ:∀ w':World,(if m * i.size=0 then (pure #[]:Sem (Array Value)) else do pure (Builtin.zeroCells (← zeroValue e).cells m)).run P w'=.ok (List.replicate m z).toArray w':=fun w'=>by
    by_cases hm0:m=0
    · subst hm0;simp
    · rw [if_neg (by rw [hs];omega)];simp [zeroValue,typeInfo,hi,hz,hzz]
  refine ⟨fun h0=>?_,fun h1 h2 h3=>?_,fun g sLen sCap cur hg hr hf=>?_,fun g n cap xs hl hc hcap h63 hby=>?_⟩
  · subst h0
    have hw0:IntKind.i64.wrap 0=0:=hw
    simp [Builtin.append_,run_underlying ht,run_underlying hu,sizeOf,typeInfo,hi,hs,asInt,asIntOf,hw0]
  · have hn:¬ (m=0):=by omega
    have h63':¬ (9223372036854775807 < (m:Int)):=by omega
    have h48':¬ (281474976710656 < Builtin.nextslicecap m 0 * i.bytes):=by rw [nextslicecap_zero h1];omega
    simp [Builtin.append_,run_underlying ht,run_underlying hu,sizeOf,typeInfo,zeroValue,hi,hz,hs,asInt,asIntOf,hw,h0,hmb',hn,h63',h48',Question.forced,newRow,grownCap,Builtin.firstCells,hzz]
  · have hst:=run_storeCells_at P g sLen e (List.replicate m z) 0 cur w hg (by simpa [hs] using hf) (fun u hu=>by rw [(List.mem_replicate.1 hu).2];exact h1c)
    simp only [Nat.add_zero] at hst
    by_cases hm0:m=0
    · subst hm0
      have hw0:IntKind.i64.wrap 0=0:=hw
      have hr0:sLen≤sCap:=hr
      simp at hst
      simp [Builtin.append_,run_underlying ht,run_underlying hu,sizeOf,typeInfo,zeroValue,hi,hz,hs,asInt,asIntOf,hw0,hr0,Addr.add_lit,hst]
    · simp [Builtin.append_,run_underlying ht,run_underlying hu,sizeOf,typeInfo,zeroValue,hi,hz,hs,asInt,asIntOf,hw,h0,hmb',hr,hm0,Addr.add_lit,hzz,hst]
  · have hn:¬ (n+m≤cap):=by omega
    have h63':¬ (9223372036854775807 < ((n:Int)+(m:Int))):=by omega
    have hgs:=growslice_fits hcap hby
    have h48':¬ (281474976710656 < Builtin.nextslicecap (n+m) cap * i.bytes):=by omega
    have hfo:=run_firstCells_some (P:=P) w.drew i.size n ⟨g,0,none⟩ n cap xs hl (by simpa using hc)
    by_cases hm0:m=0
    · subst hm0
      rw [hs] at hfo
      have hw0:IntKind.i64.wrap 0=0:=hw
      have hn0:¬ (n≤cap):=hn
      have h630:¬ (9223372036854775807 < (n:Int)):=by omega
      simp [Builtin.append_,run_underlying ht,run_underlying hu,sizeOf,typeInfo,zeroValue,hi,hz,hs,asInt,asIntOf,hw0,hn0,h630,Question.forced,newRow,grownCap,hfo]
      try exact fun h=>absurd h h48'
    · rw [hs] at hfo
      simp [Builtin.append_,run_underlying ht,run_underlying hu,sizeOf,typeInfo,zeroValue,hi,hz,hs,asInt,asIntOf,hw,h0,hmb',hn,hm0,h63',h48',Question.forced,newRow,grownCap,hfo,hzz]
section
variable{P:Program}{TT:qaZ}{D n:Nat}{Q:qbD}{fr:Fr}{L L' K:Hl}{s s' s0:World}{ops:Array Oper}{rest:List Oper}{d ty:Nat}{op:Op}{pos:String}{af:Array Edge}{v:Value}
theorem qaf{x y:Operand}{a b:List UInt8}{t t':Nat}(hx:lk fr x=some (St a))(hy:lk fr y=some (St b))(h:a.length+b.length≤9223372036854775807):QE P TT D fr (.binOp .add t x y t') ty K s0 (St (a++b)):=
 QE.pure fun _ dst pos af g ρ hρ w=>by
  have h1:¬ (9223372036854775807 < ((a.length:Int)+(b.length:Int))):=by omega
  have e:(⟨a.toArray⟩:ByteArray)++⟨b.toArray⟩=⟨(a++b).toArray⟩:=by
   apply ByteArray.ext;simp
  simp [execOp,hρ x _ hx,hρ y _ hy,eqGuard,binOp,Op.stringOp,ByteArray.size,h1,e]
end
section
variable{P:Program}{TT:qaZ}{D n:Nat}{Q:qbD}{fr:Fr}{L:Hl}{s:World}
inductive SufO(ks:List Nat)(fr:Fr):Fr→Prop
 | refl:SufO ks fr fr
 | push {d:Nat} {v:Value} {fr':Fr} (hd:((qa1 fr d).isNone || ks.any (Nat.beq d))=true) (h:SufO ks fr fr'):SufO ks fr ((d,v)::fr')
theorem So{p:Prop}(h:p:=by repeat (first | exact SufO.refl | refine SufO.push rfl ?_)):p:=h
theorem SufO.at_{ks:List Nat}{fr fr':Fr}(h:SufO ks fr fr'){t:Nat}{v:Value}(ht:ks.any (Nat.beq t)=false)(hv:qa1 fr t=some v):qa1 fr' t=some v:=by
 induction h with
 | refl=>exact hv
 | @push d u fr' hd _ ih=>
  rw [qbo]
  by_cases he:d=t
  · subst he;rw [hv,ht] at hd;cases hd
  · rw [if_neg he];exact ih
theorem qjP{l:Fr}{t:Nat}(h:qa1 l t=none):(l.map (·.1)).any (Nat.beq t)=false:=by
  induction l with
  | nil=>rfl
  | cons x l ih=>
    obtain ⟨d,v⟩:=x
    rw [qbo] at h
    by_cases he:d=t
    · rw [if_pos he] at h;cases h
    · rw [if_neg he] at h
      simp only [List.map_cons,List.any_cons,ih h,Bool.or_false]
      cases hb:Nat.beq t d with
      | false=>rfl
      | true=>exact absurd (Nat.eq_of_beq_eq_true hb).symm he
theorem qsP{new fr fr':Fr}(h1:Keeps fr' new)(h2:SufO (new.map (·.1)) fr fr'):Keeps fr' (new++fr):=by
 intro t v h
 rw [qhS] at h
 cases hn:qa1 new t with
 | none=>rw [hn] at h;exact h2.at_ (qjP hn) h
 | some u=>rw [hn] at h;exact h1 t v (by rw [hn];exact h)
def MidG{γ:Type}(D:Nat)(s:World)(fr:Fr)(new:γ→Fr)(X:Hl)(H:γ→Hl)(I:γ→World→Prop):Fr→Hl→World→Prop:=fun fr' L' s'=>∃ g A,Le D s s'∧L'.Perm (A++(X++H g))∧I g s'∧Keeps fr' (new g++fr)
theorem MidG.mk{γ:Type}{new:γ→Fr}{X:Hl}{H:γ→Hl}{I:γ→World→Prop}{fr':Fr}{L':Hl}{s':World}(g:γ)(A:Hl)(hl:Le D s s')(hK:Keeps fr' (new g))(hS:SufO ((new g).map (·.1)) fr fr')(hp:L'.Perm (A++(X++H g)))(hI:I g s'):MidG D s fr new X H I fr' L' s':=⟨g,A,hl,hp,hI,qsP hK hS⟩
theorem qd9{γ:Type}{x y:Code}(new:γ→Fr)(X:Hl){Y:Hl}(_hX:L=X++Y)(H:γ→Hl)(I:γ→World→Prop)(mono:∀ g s s',I g s→Le D s s'→I g s')(h1:JC P TT D n (qaJ (MidG D s fr new X H I) Q) x fr L s)
  (h2:∀ g s',Le D s s'→I g s'→JC P TT D n Q y (new g++fr) (X++H g) s'):JC P TT D n Q (.seq x y) fr L s:=fun ht a hr ho=>
 wp_seq (wp_mono (h1 ht a hr ho) fun e a w ⟨fr',L',s',k1,k2,k3,k4⟩=>by
  cases e with
  | normal=>
   subst k3
   obtain ⟨g,A,j0,j2,j3,j1⟩:=k4
   rw [qa7 j2 _ k2]
   obtain ⟨e,d1,d2⟩:=qbm (k2.perm j2)
   rw [e]
   exact h2 g _ (j0.trans d2) (mono _ _ _ j3 d2) ht a (k1.sub j1) d1
  | _=>exact ⟨fr',L',s',k1,k2,k3,k4⟩)
end
theorem qbw{p q:Prop} [Decidable p] [Decidable q] (h:p↔¬ q):(!decide q)=decide p:=by
  by_cases hq:q
  · have hp:¬ p:=fun x=>(h.1 x) hq
    simp [hq,hp]
  · simp [hq,h.2 hq]
theorem Kb{p:Prop}(h:p:=by first | rfl | exact congrArg (fun b=>some (Value.bool b)) (decide_eq_true Og).symm | exact congrArg (fun b=>some (Value.bool b)) (decide_eq_false Og).symm | exact congrArg (fun b=>some (Value.bool b)) (decide_eq_decide.2 Og) | exact congrArg (fun b=>some (Value.bool b)) (qbw Og)):p:=h
theorem AC.perm{P:Program}{D:Nat}{f:FuncId}{args:List Value}{L L1:Hl}{s:World}{R R':Value→Hl→World→Prop}(hp:L.Perm L1)(h:AC P D f args L1 s R)(hq:∀ v L1' s',R v L1' s'→∃ L',L1'.Perm L'∧R' v L' s'):AC P D f args L s R':=
 ⟨h.1,fun ho=>by
  rw [qa7 hp _ ho]
  refine (h.2 (ho.perm hp)).mono ?_
  rintro e w' ⟨v,L1',s',he,hw,hok,hl,hr⟩
  obtain ⟨L',h1,h2⟩:=hq v L1' s' hr
  exact ⟨v,L',s',he,by rw [hw,qa7 h1 _ hok],hok.perm h1,hl,h2⟩⟩
end Go.FL
namespace Go.Proofs.YtpdnijphccdiiaaGreatDoor
open Go Go.FL Go.RowKit
theorem quC{l:List UInt8}{pos:Nat}(h:pos < (⟨l.toArray⟩:ByteArray).size):∃ c,l[pos]?=some c∧(⟨l.toArray⟩:ByteArray)[pos]'h=c:=by
 have h':pos < l.length:=by simpa [Lib.size_eq] using h
 exact ⟨l[pos],List.getElem?_eq_getElem h',by simp [ByteArray.getElem_eq_getElem_data]⟩
structure GP(s:World):Prop where
 gw:GW s
 asc:∃ ty fz,s.heap[0]?=some (.cells (Lib.asciiSpaceTab.map fun z=>Value.int .u8 z).toArray ty fz)
theorem GP.le{D:Nat}{s s':World}(h:GP s)(hl:Le D s s'):GP s':=by
 obtain ⟨h1,⟨t,f,h2⟩⟩:=h
 exact ⟨h1.le hl,⟨t,f,qlP h2 hl⟩⟩
theorem qsA{w:World}(h:GP w):Lib.TabIs Tryz.prog w "strings.asciiSpace" .u8 Lib.asciiSpaceTab:=by
 obtain ⟨t,f,h1⟩:=h.asc
 have hg:Tryz.prog.globalNamed "strings.asciiSpace" = some 0:=by kernel_rfl
 simp only [Lib.TabIs,World.var?,hg,Option.bind_some,h1]
section
variable(D:Nat)(L:Hl)(s:World)
theorem qhj:qjy Tryz.prog 182:=⟨_,Tryz.func182,by kernel_rfl,by kernel_rfl⟩
theorem qhg:qjy Tryz.prog 117:=⟨_,Tryz.func117,by kernel_rfl,by kernel_rfl⟩
def okA(l:List UInt8):Bool:=l.all fun c=>decide (c.toNat < 128) && (decide (c=32) || decide (c=10) || !(decide (c.toNat=9) || decide (c.toNat=11) || decide (c.toNat=12) || decide (c.toNat=13)))
end
section
variable(D:Nat)(L:Hl)(s:World)
theorem qjZ{A:Option Addr}{n c:Nat}{ws:List (List UInt8)}{w:World}(h:Strs s A n c ws)(hl:Le D s w){b off:Nat}(hA:A=some ⟨b,off,none⟩):∀ (j:Nat) (x:ByteArray),(ws.map fun x=>(⟨x.toArray⟩:ByteArray))[j]?=some x→w.cell? ⟨b,off+j,none⟩=some (.string x):=by
 intro j x hj
 rw [List.getElem?_map] at hj
 obtain ⟨y,hy,rfl⟩:=Option.map_eq_some_iff.1 hj
 obtain ⟨b',off',cs,h1,h2,_,rfl,_⟩:=h.2.2.2 j y hy
 rw [hA] at h1;injection h1 with h1;injection h1 with e1 e2;subst e1;subst e2
 exact hl.cell (by simpa using h2 0 (St y) rfl)
end
end Go.Proofs.YtpdnijphccdiiaaGreatDoor
namespace Go.FL
open Go Go.RowKit
theorem qni{e:Nat}{M:Hl}{Ad:Option Addr}{n c:Nat}{xs:List Value}(h:FL.Own e 1 M (.slice Ad n c) n xs)(hn:0 < n):∃ b ys,Ad=some ⟨b,0,none⟩∧M=[(b,cb (xs++ys) e)]∧xs.length=n∧xs.length+ys.length=c∧n≤c∧c≤9223372036854775807:=by
 cases h with
 | nil=>omega
 | blk b cap _ _ ys h1 h2 h3 h4=>exact ⟨b,ys,rfl,rfl,by simpa using h1,by simpa using h2,h3,h4⟩
section
variable{P:Program}{TT:qaZ}{D n:Nat}{Q:qbD}{fr:Fr}{L L' K:Hl}{s s' s0:World}{ops:Array Oper}{rest:List Oper}{d ty:Nat}{op:Op}{pos:String}{af:Array Edge}{v:Value}
theorem qt7{x:Operand}{p:Option Addr}{t t' te:Nat}(hp:P.underlying t=some (.pointer te))(hx:lk fr x=some (.pointer p)):QE P TT D fr (.binOp .eql t x (.const (.pointer none)) t') ty K s0 (.bool p.isNone):=
 QE.pure fun _ dst pos af g ρ hρ w=>by
  have hc:=hρ (.const (.pointer none)) _ rfl
  have h:∀ k:Nat,(Op.equalIn (k+1) t (.pointer p) (.pointer none)).run P w=.ok p.isNone w:=fun k=>by cases p <;> simp [Op.equalIn,run_underlying hp]
  have h2:(binOp .eql t (.pointer p) (.pointer none)).run P w=.ok (.bool p.isNone) w:=by simp only [binOp];simp [Op.equal,Op.maxDepth,h 9999]
  simp [execOp,hρ x _ hx,hc,eqGuard,h2]
theorem qjp{x:Operand}{p:Option Addr}{t t' te:Nat}(hp:P.underlying t=some (.pointer te))(hx:lk fr x=some (.pointer p)):QE P TT D fr (.binOp .neq t x (.const (.pointer none)) t') ty K s0 (.bool p.isSome):=
 QE.pure fun _ dst pos af g ρ hρ w=>by
  have hc:=hρ (.const (.pointer none)) _ rfl
  have h:∀ k:Nat,(Op.equalIn (k+1) t (.pointer p) (.pointer none)).run P w=.ok p.isNone w:=fun k=>by cases p <;> simp [Op.equalIn,run_underlying hp]
  have h2:(binOp .neq t (.pointer p) (.pointer none)).run P w=.ok (.bool p.isSome) w:=by simp only [binOp];cases p <;> simp [Op.equal,Op.maxDepth,h 9999]
  simp [execOp,hρ x _ hx,hc,eqGuard,h2]
theorem qtI{x y:Operand}{a:Addr}{t t' te:Nat}{ti:TI}(hp:P.underlying t=some (.pointer te))(hte:qaB TT te=some ti)(hx:lk fr x=some (.pointer (some a)))(hy:lk fr y=some (.pointer (some a))):QE P TT D fr (.binOp .neq t x y t') ty K s0 (.bool false):=
 QE.pure fun hT dst pos af g ρ hρ w=>by
  obtain ⟨i,i1,_⟩:=qdu (hT.at_ hte)
  simp [execOp,hρ x _ hx,hρ y _ hy,eqGuard,Lib.run_neq_ptr_same w a hp i1]
theorem qfZ{zs:List Value}{b e:Nat}(ho:OKL D L s)(hi:(b,cb zs e)∈L):(fill L s).shape? b=some (e,zs.length):=by
 have:=qa8 ho hi
 unfold World.shape?
 rw [this]
 simp [cb]
theorem qte{t t' te b e:Nat}{x:Operand}{ti:TI}{zs:List Value}(i:Nat)(hs:P.underlying t=some (.pointer te))(hd:P.underlying t'=some .unsafePointer)(hte:qaB TT te=some ti)(hx:lk fr x=some (.pointer (some ⟨b,0,none⟩)))(hi:K[i]?=some (b,cb zs e))(hz:Nat.blt 0 zs.length=true):QE P TT D fr (.convert t t' x) ty K s0 (.pointer (some ⟨b,0,none⟩)):=
 fun hT dst pos af g ρ hρ L s ho hl hK=>by
  obtain ⟨i0,i1,i2,_⟩:=qdu (hT.at_ hte)
  have hpos:0 < ti.size:=(hT.at_ hte).2.2.2.2.2.1
  have hr:=Lib.run_to_unsafe (P:=P) (fill L s) ⟨b,0,none⟩ hs hd i1 (by rw [i2];omega) (qfZ ho (hK _ (List.mem_of_getElem? hi))) (by simpa using hz)
  simp only [execOp,hρ x _ hx,Sem.run_bind,hr,Result.andThen_ok,Sem.run_pure]
theorem qou{t t' te b e:Nat}{x:Operand}{ti:TI}{zs:List Value}(i:Nat)(hs:P.underlying t=some .unsafePointer)(hd:P.underlying t'=some (.pointer te))(hte:qaB TT te=some ti)(hx:lk fr x=some (.pointer (some ⟨b,0,none⟩)))(hi:K[i]?=some (b,cb zs e))(hlies:liesAt P P.depth e (zs.length / P.cellsOf e) 0 te 1=true):QE P TT D fr (.convert t t' x) ty K s0 (.pointer (some ⟨b,0,none⟩)):=
 fun hT dst pos af g ρ hρ L s ho hl hK=>by
  obtain ⟨i0,i1,i2,_⟩:=qdu (hT.at_ hte)
  have hr:=Lib.run_from_unsafe (P:=P) (fill L s) ⟨b,0,none⟩ hs hd i1 (qfZ ho (hK _ (List.mem_of_getElem? hi))) hlies
  simp only [execOp,hρ x _ hx,Sem.run_bind,hr,Result.andThen_ok,Sem.run_pure]
theorem qsn{f:FuncId}{fn:Func}{x y:Operand}{ts:Array TypeId}(hf:P.funcs[f]?=some fn)(hname:(fn.name == "runtime.NumGoroutine")=false)(hb:fn.body.isNone=true)(hn:Extern.findNext fn=none)(he:Extern.find fn=some Extern.AbiNoEscape.same)(hx:lk fr x=some (.func (.func f) #[] #[]))(hy:lk fr y=some v) :
  QE P TT D fr (.call { callee:=.value x,args:=#[y],argTypes:=ts }) ty K s0 v:=
 QE.pure fun hT dst pos af g ρ hρ w=>by
  have hr:=run_callFunc_extern hf hname hb hn he #[v] w
  rw [Lib.run_noEscape] at hr
  simp [execOp,resolve,Deferred.ofValue,invoke,hρ x _ hx,hρ y _ hy,hr]
theorem qtW{x:Operand}{ts:Array TypeId}{A:Option Addr}{m c:Nat}(hx:lk fr x=some (.slice A m c))(hc:A=none∨c≠0):QE P TT D fr (.call { callee:=.builtin .unsafeSliceData,args:=#[x],argTypes:=ts }) ty K s0 (.pointer A):=
  QE.pure fun hT dst pos af g ρ hρ w=>by
    rcases hc with rfl | hc
    · simp [execOp,resolve,invoke,builtin,hρ x _ hx,Lib.run_unsafeSliceData_nil]
    · cases A with
      | none=>simp [execOp,resolve,invoke,builtin,hρ x _ hx,Lib.run_unsafeSliceData_nil]
      | some a=>simp [execOp,resolve,invoke,builtin,hρ x _ hx,Lib.run_unsafeSliceData_row _ _ _ _ _ _ hc]
theorem qj1(w:World)(g e k:Nat)(cs:Array Value)(hk:k≠0)(hg:g < w.heap.size):(qbn w g (.cells cs e (0,0))).freeze ⟨g,0,none⟩ k=qbn w g (.cells cs e (0,k)):=by
  unfold World.freeze
  rw [if_neg hk]
  refine qc3 (qc4 fun j=>?_) Z Z Z Z
  show ((w.heap.setIfInBounds g _).modify g _)[j]?=(w.heap.setIfInBounds g _)[j]?
  rw [Array.getElem?_modify]
  by_cases hj:g=j
  · subst hj
    rw [if_pos rfl,Array.getElem?_setIfInBounds_self,Array.getElem?_setIfInBounds_self]
    simp [hg]
  · rw [if_neg hj,Array.getElem?_setIfInBounds_ne hj,Array.getElem?_setIfInBounds_ne hj]
end
open Go Go.RowKit Go.Proofs.YtpdnijphccdiiaaGreatDoor
section
variable{P:Program}{TT:qaZ}{D n:Nat}{Q:qbD}{fr:Fr}{L L' K:Hl}{s s' s0:World}{ops:Array Oper}{rest:List Oper}{d ty:Nat}{op:Op}{pos:String}{af:Array Edge}{v:Value}
theorem qq8{tp ti0 e:Nat}{x y:Operand}{A:Option Addr}{l:List UInt8}{c:Nat}(X M L0:Hl)(hp:P.underlying tp=some (.pointer e))(hce:P.cellsOf e=1)(hx:lk fr x=some (.pointer A))(hy:lk fr y=some (.int .i64 (l.length:Int)))(hO:FL.Own e 1 M (.slice A l.length c) l.length (bv l))(hn:l=[]→M=[])(ho:OKL D (X++(M++L0)) s) :
    ∃ s',Ev P TT D fr (.call { callee:=.builtin .unsafeString,args:=#[x,y],argTypes:=#[tp,ti0] }) ty (X++(M++L0)) s (.value (St l)) (X++L0) s'∧Le D s s':=by
  by_cases h0:l=[]
  · subst h0
    have hM:=hn rfl
    subst hM
    refine ⟨s,fun hT ho dst pos af g ρ hρ=>⟨?_,by simpa using ho⟩,Le.refl _⟩
    simp only [List.length_nil] at hy
    have hr:=Lib.run_unsafeString_none (P:=P) (fill (X++([]++L0)) s) tp ti0 ty A
    simp [execOp,resolve,invoke,builtin,hρ x _ hx,hρ y _ hy]
    simp at hr
    rw [hr]
    rfl
  · have hl0:l.length≠0:=by simpa using h0
    obtain ⟨g,ys,hA,hM,g1,g2,g3,g4⟩:∃ g ys,A=some ⟨g,0,none⟩∧M=[(g,cb (bv l++ys) e)]∧(bv l).length=l.length∧(bv l).length+ys.length=c∧l.length≤c∧c≤9223372036854775807:=qni hO O
    subst hA
    subst hM
    have hperm:(X++([(g,cb (bv l++ys) e)]++L0)).Perm ((g,cb (bv l++ys) e)::(X++L0)):=by simpa using List.perm_middle
    have ho2:=ho.perm hperm
    have hgs:g < s.heap.size:=ho2.lt Mc
    have hgs2:g < (fill (X++L0) s).heap.size:=by rw [qaG];exact hgs
    have ho3:OKL D ([(g,Obj.cells (bv l++ys).toArray e (0,l.length))]++(X++L0)) s:=⟨by simpa using ho2.nd,fun x hx=>by
      rcases List.mem_cons.1 hx with rfl | hx
      · exact ho2.dm (g,cb (bv l++ys) e) Mc
      · exact ho2.dm x (List.mem_cons_of_mem _ hx)⟩
    obtain ⟨d1,d2,d3⟩:=qbm ho3
    have hbl:(bv l).length=l.length:=g1
    have hus:=Lib.run_unsafeString_row (P:=P) (fill (X++([(g,cb (bv l++ys) e)]++L0)) s) tp ti0 ty e hp hce g ((bv l++ys).length) (qfZ ho (by simp)) l h0 (by simp [hbl]) O (fun j x hx=>by
      rw [add_lit,Nat.zero_add,qcC ho (zs:=bv l++ys) (t:=e) (by simp),List.getElem?_append_left (by rw [hbl];exact (List.getElem?_eq_some_iff.1 hx).1)]
      simp [bv,hx])
    have hw:(fill (X++([(g,cb (bv l++ys) e)]++L0)) s).freeze ⟨g,0,none⟩ l.length=fill (X++L0) (fill [(g,Obj.cells (bv l++ys).toArray e (0,l.length))] s):=by
      rw [qa7 hperm _ ho,← d1]
      exact qj1 (fill (X++L0) s) g e l.length (bv l++ys).toArray hl0 hgs2
    refine ⟨fill [(g,Obj.cells (bv l++ys).toArray e (0,l.length))] s,fun hT _ dst pos af gg ρ hρ=>⟨?_,d2⟩,d3⟩
    rw [hw] at hus
    simp only [execOp,resolve,invoke,builtin,Sem.run_bind,Sem.run_pure,Result.andThen_ok,List.map_toArray,List.map_cons,List.map_nil,hρ x _ hx,hρ y _ hy,hus]
theorem qpY{i0 tp ti0 e:Nat}{g:Option (Nat×Bool)}{fuel:Nat}{listed:Array Bool}{x y:Operand}{A:Option Addr}{l:List UInt8}{c:Nat}(hi0:ops[i0]?=some ⟨some d,.call { callee:=.builtin .unsafeString,args:=#[x,y],argTypes:=#[tp,ti0] },ty,pos,af,g⟩)(hgk:GOK ops fr g)
  (X M L0:Hl) (hL:L=X++(M++L0)) (hp:P.underlying tp=some (.pointer e)) (hce:P.cellsOf e=1) (hx:lk fr x=some (.pointer A)) (hy:lk fr y=some (.int .i64 (l.length:Int))) (hO:FL.Own e 1 M (.slice A l.length c) l.length (bv l)) (hn:l=[]→M=[]) (hd:Nat.blt d n=true) (hK:∀ x∈K,x∈X++(M++L0)→x∈X++L0)
  (kk:∀ s',Le D s s'→JA P TT D n ops Q K s0 fuel (listed.setIfInBounds i0 true) ((d,St l)::fr) (X++L0) s'):JB P TT D n ops Q K s0 fuel listed i0 fr L s:=fun hT a hr ho hl0 hKL=>by
 subst hL
 obtain ⟨s',h1,h2⟩:=qq8 (ty:=ty) X M L0 hp hce hx hy hO hn ho
 exact qhw hi0 hgk h1 h2 hK hd (kk s' h2) hT a hr ho hl0 hKL
end
end Go.FL
namespace Go.Proofs.YtpdnijphccdiiaaGreatDoor
open Go.FL
attribute [local irreducible] JC JO JA JB qaJ qaw qbM AC fill CellsAt QE Ev Mid
theorem qjA(D:Nat)(L:Hl)(s:World)(r:Int):AC Tryz.prog D 181 [.int .i32 r] L s fun v L' _=>v=.bool (decide ((r < 97∨122 < r)∧(r < 48∨57 < r)))∧L=L':=by
 refine qai (fn:=Tryz.f181) qao Tryz.func181 V Z Tryz.ntmps181 Z (rs:=[.tmp 2]) Z [(0,_)] Z<|Sr<|At Z Z<|Sr<|Zqm Z Z<|qbh Z Z Z<|Zqm Z Z<|?_
 refine qak (t:=5) Z (fun c1=>?_) (fun c1=>?_)
 ·
  refine Wf Y4<|Wf Y4<|ZqT Z Z Z<|Zqm Z Z<|Zg Z Z<|Zqm Z Z<|Zg Z Z<|qbh Z Z Z<|Zg Z Z<|Zqm Z Z<|?_
  refine qak (t:=12) Z (fun c2=>?_) (fun c2=>?_)
  ·
   refine Wf Y4<|Wf Y4<|Zg Z Z<|ZqT Z Z Z<|ZqT Z Z Z<|At Z Z<|Zo<|?_
   refine rR [] L (.t1 Z) Z (Lr D) fun _ hS2=>?_
   exact ⟨by simp_all [qat] <;> omega,rfl⟩
  refine Zg Z Z<|Zqm Z Z<|Zg Z Z<|qbv Z Z Z<|Zg Z Z<|ZqF Z Z Z<|ZqT Z Z Z<|At Z Z<|Zo<|?_
  refine rR [] L (.t1 Z) Z (Lr D) fun _ hS2=>?_
  exact ⟨by simp_all [qat] <;> omega,rfl⟩
 refine Zg Z Z<|Zqm Z Z<|Zg Z Z<|qbv Z Z Z<|ZqF Z Z Z<|Zqm Z Z<|?_
 refine qak (t:=9) Z (fun c3=>?_) (fun c3=>?_)
 ·
  refine Zg Z Z<|Zqm Z Z<|Zg Z Z<|qbh Z Z Z<|Zg Z Z<|Zqm Z Z<|?_
  refine qak (t:=12) Z (fun c4=>?_) (fun c4=>?_)
  ·
   refine Wf Y4<|Wf Y4<|Zg Z Z<|ZqT Z Z Z<|ZqT Z Z Z<|At Z Z<|Zo<|?_
   refine rR [] L (.t1 Z) Z (Lr D) fun _ hS2=>?_
   exact ⟨by simp_all [qat] <;> omega,rfl⟩
  refine Zg Z Z<|Zqm Z Z<|Zg Z Z<|qbv Z Z Z<|Zg Z Z<|ZqF Z Z Z<|ZqT Z Z Z<|At Z Z<|Zo<|?_
  refine rR [] L (.t1 Z) Z (Lr D) fun _ hS2=>?_
  exact ⟨by simp_all [qat] <;> omega,rfl⟩
 refine Wf Y4<|Wf Y4<|Wf Y4<|Zh Z Z Z<|Zh Z Z Z<|Wf Y4<|ZqF Z Z Z<|At Z Z<|Zo<|?_
 refine rR [] L (.t1 Z) Z (Lr D) fun _ hS2=>?_
 exact ⟨by simp_all [qat] <;> omega,rfl⟩
end Go.Proofs.YtpdnijphccdiiaaGreatDoor
namespace Go.Proofs.YtpdnijphccdiiaaGreatDoor
open Go.Proofs.Tryz
open Go Go.FL Go.RowKit
section
variable(D:Nat)(L:Hl)(s:World)
theorem qg2:qjy prog 180:=⟨_,func180,by kernel_rfl,by kernel_rfl⟩
theorem qiq:qjy prog 185:=⟨_,func185,by kernel_rfl,by kernel_rfl⟩
def qlT(c:UInt8):Bool:=!(qh0 c || qj8 c)
def qr2(x:Nat):Bool:=decide (((x:Int) < 97∨122 < (x:Int))∧((x:Int) < 48∨57 < (x:Int)))
theorem qhc(c:UInt8):qr2 c.toNat=qlT c:=by
 simp only [qr2,qlT,qh0,qj8]
 rw [Bool.eq_iff_iff]
 simp only [decide_eq_true_eq,Bool.not_eq_true',Bool.or_eq_false_iff,Bool.and_eq_false_iff,decide_eq_false_iff_not]
 omega
theorem qr7(l:List UInt8)(f pos:Nat)(h:l.length≤pos+f):decide (0≤Lib.idxFuncFrom qr2 true ⟨l.toArray⟩ f pos)=(l.drop pos).any qlT:=by
  have hsz:(⟨l.toArray⟩:ByteArray).size=l.length:=by simp [Lib.size_eq]
  induction f generalizing pos with
  | zero=>rw [List.drop_of_length_le O];rfl
  | succ f ih=>
    by_cases hp:pos < (⟨l.toArray⟩:ByteArray).size
    · obtain ⟨c,hc,hg⟩:=quC hp
      have hd:l.drop pos=c::l.drop (pos+1):=by
        obtain ⟨h1,h2⟩:=List.getElem?_eq_some_iff.1 hc
        rw [List.drop_eq_getElem_cons h1,h2]
      rw [hd,List.any_cons]
      by_cases ha:c.toNat < 128
      · have e:=decode_ascii ⟨l.toArray⟩ pos hp (by rw [hg];exact ha)
        simp only [Lib.idxFuncFrom,hp,if_true,e,hg,qhc]
        cases hb:qlT c with
        | true=>simp
        | false=>simpa using ih (pos+1) O
      · have e:=(decode_high ⟨l.toArray⟩ pos hp (by rw [hg];omega)).1
        have hb:qlT c=true:=by rw [← qhc];simp only [qr2,decide_eq_true_eq];omega
        have hr:qr2 (Utf8.decode ⟨l.toArray⟩ pos).1=true:=by simp only [qr2,decide_eq_true_eq];omega
        simp only [Lib.idxFuncFrom,hp,if_true,hr,hb]
        simp
    · rw [Lib.idxFuncFrom_end _ _ _ _ _ hp,List.drop_of_length_le O];rfl
theorem qik:∀ args w,(callFunc 181 args).run prog w=.ok (.enter 181 args) w:=enters_of func181 V rfl
theorem qif(l:List UInt8):AC prog D 180 [St l,.func (.func 181) #[] #[]] L s fun v L' _=>v=.bool (l.any qlT)∧L=L':=
  AC.of_calls qg2 fun _=>by
    refine (Any.strings_ContainsFunc_grows laysGw17 181 #[] qik qr2 ⟨l.toArray⟩ (fill L s) (fun W x _ _=>?_)).mono ?_
    · exact qiw (args:=[.int .i32 (x:Int)]) fun D=>qjA D [] W x
    · rintro e w' ⟨he,hb⟩
      refine ⟨_,he,hb,fun s' _ _ _=>⟨?_,Z⟩⟩
      have:=qr7 l (⟨l.toArray⟩:ByteArray).size 0 (by simp [Lib.size_eq])
      rw [List.drop_zero] at this
      rw [← this];rfl
theorem qnj(A:Option Addr)(n c:Nat)(ws:List (List UInt8))(hS:Strs s A n c ws)(sep:List UInt8)(hlen:(Lib.join ws sep).length≤140737488355328)(hn:ws.length≤140737488355328):AC prog D 117 [.slice A n c,St sep] L s fun v L' _=>v=St (Lib.join ws sep)∧L=L':=by
  obtain rfl:=hS.1
  by_cases h0:ws=[]
  · subst h0
    refine AC.of_calls qhg fun _=>(Any.strings_Join_none lays156 Tryz.Builder_Extra_156 A c ⟨sep.toArray⟩ (fill L s)).mono fun e w' ⟨he,hw⟩=>?_
    exact ⟨_,he,by rw [hw];exact qeT _,fun s' _ _ _=>⟨rfl,rfl⟩⟩
  · obtain ⟨x,r,rfl⟩:∃ x r,ws=x::r:=by cases ws with
      | nil=>exact absurd rfl h0
      | cons x r=>exact ⟨x,r,rfl⟩
    obtain ⟨b,off,cs,hA,hc,_,rfl,_⟩:=hS.2.2.2 0 x rfl
    subst hA
    have hmap:((x::r).map fun x=>(⟨x.toArray⟩:ByteArray)).map (·.data.toList)=x::r:=by
      rw [List.map_map];exact List.map_id'' (fun _=>rfl) _
    refine AC.of_calls qhg fun ho=>?_
    have hbk:b < (fill L s).heap.size:=by rw [qaG];exact qlc (hc 0 (St x) rfl)
    have:=Any.strings_Join lays156 Tryz.Builder_Extra_156 b off c ((x::r).map fun x=>(⟨x.toArray⟩:ByteArray)) ⟨sep.toArray⟩ (fill L s) (qjZ D s hS (qfw ho) rfl) hbk (by rw [List.length_map];exact hn) (by rw [List.length_map];exact hS.2.1) (by rw [hmap];exact hlen)
    rw [List.length_map,hmap] at this
    refine this.mono fun e w' ⟨he,hb⟩=>⟨_,he,hb,fun s' _ _ _=>⟨Z,Z⟩⟩
theorem qjC(hG:GP s)(l:List UInt8)(ws:List (List UInt8))(hf:Lib.fields l=ws)(ha:l.all (fun b=>decide (b.toNat < 128))=true)(hl:l.length≤4000000):AC prog D 182 [St l] L s fun v L' _=>∃ β,L'=(β,cb (sb ws) 9)::L∧v=.slice (some ⟨β,0,none⟩) ws.length ws.length:=
  ⟨qhj,fun ho=>by
    have hsz:(⟨l.toArray⟩:ByteArray).size=l.length:=by simp [Lib.size_eq]
    refine (Any.strings_Fields lays157 V V ⟨l.toArray⟩ (fill L s) O (fun j b hj=>?_) (qsA (hG.le (qfw ho)))).mono ?_
    · have hm:b∈l:=List.mem_of_getElem? (by simpa using hj)
      exact of_decide_eq_true (List.all_eq_true.1 ha b hm)
    · rintro e w' ⟨he,hw⟩
      have hf:Lib.fields (⟨l.toArray⟩:ByteArray).data.toList=ws:=hf
      obtain ⟨h1,h2,h3⟩:=qaH ho (cb (sb ws) 9)
      refine ⟨_,_,_,he,?_,h2,h3,s.heap.size,Z,?_⟩
      · rw [hw,hf,← h1];rfl
      · rw [hf,qaG]⟩
theorem qlv(l:List UInt8)(n:Nat)(h1:n≤9223372036854775807)(h2:l.length * n≤140737488355328):AC prog D 185 [St l,.int .i64 (n:Int)] L s fun v L' _=>v=St (Lib.repeatL l n)∧L=L':=
 AC.of_calls qiq fun _=>by
  refine (Any.strings_Repeat lays105 Tryz.Builder_Extra_105 ⟨l.toArray⟩ n (fill L s) h1 (by simpa [Lib.size_eq] using h2)).mono ?_
  rintro e w' ⟨he,hb⟩
  exact ⟨_,he,hb,fun s' _ _ _=>⟨rfl,rfl⟩⟩
end
open Go.FL
attribute [local irreducible] JC JO JA JB qaJ qaw qbM AC fill CellsAt QE Ev Mid
theorem qn5(D:Nat)(L:Hl)(s:World)(hG:GW s)(u:Nat)(hu:u < 4294967296):AC prog D 187 [.int .u64 (u:Int),.int .i64 10] L s fun v L' _=>v=St (Lib.decDigits u)∧L=L':=by
 refine qai (fn:=f187) qao func187 V Z ntmps187 Z (rs:=[.tmp 4]) Z [(0,_),(1,_)] Z<|Sr<|At Z Z<|Zs<|Sr<|Zqm Z Z<|qar Z Z Z<|Nt<|?_
 refine qaa Z (fun c1=>?_) (fun c1=>?_)
 ·
  refine Zs<|Sr<|Zqm Z Z<|qbh Z Z Z<|Nt<|?_
  refine qaa Z (fun c2=>?_) (fun c2=>?_)
  ·
   refine Sr<|Zqm Z Z<|qac (qbl Z Z Z Z Z (w64 O O)) Z<|Jc Z Z Z (qoq D _ _ u O) ?_
   rintro _ _ s3 h3 ⟨rfl,rfl⟩
   refine At Z Z<|Zo<|Zu<|Zu<|?_
   refine rR [] L (.t1 Z) Z h3 fun _ hS2=>?_
   exact ⟨rfl,rfl⟩
  refine Zk<|Zt<|Sr<|qaj Z [_,_,_,_,_,_,_,_,_,_,_,_,_,_,_,_,_,_,_,_,_,_,_,_] Z Z ?_
  intro β4 s4 h4
  refine Nt<|Sr<|Zqm Z Z<|Jc Z Z Z (qu9 D _ _ (hG.le h4) u O hu) ?_
  rintro _ _ s5 h5 ⟨rfl,rfl⟩
  refine At Z Z<|Sr<|Zqm Z Z<|qac (qpM Z Z Z Z Z (by have:=qqt hu;omega)) Z<|Zqm Z Z<|Jc Z Z Z (qkH D _ _ u hu _ _) ?_
  rintro _ _ s6 h6 ⟨rfl,ys,rfl,hys⟩
  refine Nt<|Zs<|qbC [] [_] _ ?_
  intro s7 h7 hpub7
  simp only [cQ9,nQ9]
  have hbt:=qms (l:=Lib.decDigits u) (hpub7 _ _ _ Mc) hys O
  rw [Lib.decDigits_length] at hbt
  refine Zr<|Zqm Z Z<|qac (qpM Z Z Z Z Z (by have:=qqt hu;omega)) Z<|qac (qi0 Z Z Z Z Z Z Z (hbt.le (Lr D))) Z<|At Z Z<|Zo<|Zu<|?_
  refine rR [] L (.t1 Z) Z (h4.t h5|>.t h6|>.t h7) fun _ hS2=>?_
  exact ⟨rfl,rfl⟩
 exact absurd rfl c1 --end
theorem qsd(D:Nat)(L:Hl)(s:World)(hG:GW s)(u:Nat)(hu:u < 4294967296):AC prog D 159 [.int .u64 (u:Int),.int .i64 10] L s fun v L' _=>v=St (Lib.decDigits u)∧L=L':=by
 refine qai (fn:=f159) qao func159 V Z ntmps159 Z (rs:=[.tmp 4]) Z [(0,_),(1,_)] Z<|Sr<|At Z Z<|Sr<|Zqm Z Z<|Zqm Z Z<|Jc Z Z Z (qn5 D _ _ (hG.le (Lr D)) u hu) ?_
 rintro _ _ s1 h1 ⟨rfl,rfl⟩
 refine At Z Z<|Zo<|?_
 refine rR [] L (.t1 Z) Z h1 fun _ hS2=>?_
 exact ⟨rfl,rfl⟩
theorem qtN{α:Type}{l:List α}{x:α}(h:l[0]?=some x):∃ r,l=x::r:=by
 cases l with
 | nil=>cases h
 | cons y r=>simp at h;subst h;exact ⟨r,rfl⟩
theorem qlA{l:List UInt8}{i:Nat}(hi:i≠0):qbq i l=!l.any qlT:=by
 induction l generalizing i with
 | nil=>rfl
 | cons c l ih=>
  simp only [qbq,List.any_cons,ih (by omega:i+1≠0),qfg,qlT,hi,ne_eq,not_false_eq_true,decide_true,Bool.and_true,Bool.not_or]
  cases qh0 c <;> cases qj8 c <;> rfl
def qde(l:List UInt8):Bool:=decide (l≠[]) && qbq 0 l
theorem qlW{l:List UInt8}{c:UInt8}(h:l[0]?=some c)(hc:¬ ((c.toNat:Int) < 97)∧¬ (122 < (c.toNat:Int))):qde l=!l.any qlT:=by
 obtain ⟨r,rfl⟩:=qtN h
 have hl:qh0 c=true:=by simp only [qh0,Bool.and_eq_true,decide_eq_true_eq];omega
 have hb:qlT c=false:=by simp [qlT,hl]
 simp only [qde,qbq,qfg,hl,Bool.true_or,Bool.true_and,List.any_cons,hb,Bool.false_or,qlA (l:=r) (i:=0+1) O]
 simp
theorem qjt{l:List UInt8}{c:UInt8}(h:l[0]?=some c)(hc:(c.toNat:Int) < 97∨122 < (c.toNat:Int)):qde l=false:=by
 obtain ⟨r,rfl⟩:=qtN h
 have hl:qh0 c=false:=by rw [Bool.eq_false_iff];simp only [qh0,ne_eq,Bool.and_eq_true,decide_eq_true_eq];omega
 simp [qde,qbq,qfg,hl]
theorem qeM(l:List UInt8):qaT l=(qde l && decide ((l.length:Int)≤12) && !kwB l):=by
 unfold qaT qde
 cases decide (l≠[]) <;> cases decide ((l.length:Int)≤12) <;> cases qbq 0 l <;> simp
def kwT:Str:=[97,114,114,97,121,32,98,114,101,97,107,32,99,111,110,115,116,32,99,111,110,116,105,110,117,101,32,101,108,115,101,32,102,117,110,99,32,103,101,116,32,105,102,32,112,117,116,32,114,101,116,117,114,110,32,115,116,111,112,32,118,97,114,32,119,104,105,108,101]
def sgT:Str:=[33,32,45,32,126,32,42,32,47,32,37,32,60,60,32,62,62,32,38,32,43,32,45,32,124,32,94,32,61,61,32,33,61,32,60,32,60,61,32,62,32,62,61,32,38,38,32,124,124]
theorem qqo:Lib.fields kwT=kwords:=by decide +kernel
theorem qr6:Lib.fields sgT=signL.tail:=by decide +kernel
theorem qsL(l:Str):decide (0≤qbb (fun x=>decide (l=x)) kwords 0)=kwB l:=by
 rw [ql1,kwB];congr 1;funext w;exact decide_eq_decide.2 eq_comm
theorem qlF{α β:Type}{R:α→β→Prop}(f:α→β)(l:List α)(h:∀ x∈l,R x (f x)):All2 R l (l.map f):=by
 induction l with
 | nil=>exact All2.nil
 | cons x l ih=>exact All2.cons (h x Mc) (ih fun y hy=>h y (List.mem_cons_of_mem _ hy))
theorem qrb(l:List Str):(l.map fun x=>[St x]).flatten=sb l:=by
 induction l with
 | nil=>rfl
 | cons x r ih=>show [St x]++(r.map fun x=>[St x]).flatten=St x::sb r;rw [ih];rfl
theorem qgh(D:Nat)(L:Hl)(s:World)(hG:GP s)(l:List UInt8)(ws:List Str)(hf:Lib.fields l=ws)(ha:l.all (fun b=>decide (b.toNat < 128))=true)(hl:l.length≤4000000)(hn:ws.length≤1000)(hx:∀ x∈ws,x.length≤1000):AC prog D 182 [St l] L s fun v L' s'=>L=L'∧∃ A n c,v=.slice A n c∧Strs s' A n c ws:=
 AC.pubW ((qjC D L s hG l ws hf ha hl).mono fun v L' s' _ ⟨β,h1,h2⟩=>⟨[_],h1,fun s2 h3 hp=>⟨_,_,_,h2,by
  exact Sl.lit (R:=fun _ x cs=>cs=[St x]∧x.length≤9223372036854775807) (ws.map fun x=>[St x]) (hp _ _ _ Mc) (qrb ws) (qlF (fun x=>[St x]) ws fun x hx1=>⟨rfl,rfl,by have:=hx x hx1;omega⟩) _ rfl O⟩⟩)
theorem qf0(D:Nat)(L:Hl)(s:World)(A:Option Addr)(n c:Nat)(l:List (List UInt8))(hA:Strs s A n c l)(w:List UInt8):AC prog D 107 [.slice A n c,St w] L s fun v L' _=>v=.int .i64 (qbb (fun x=>decide (w=x)) l 0)∧L=L':=by
 have hn:=hA.1
 have hc1:=hA.2.1
 have hc2:=hA.2.2.1
 refine qai (fn:=f107) qao func107 V Z ntmps107 Z (rs:=[.tmp 4]) Z [(0,_),(1,_)] Z<|Sr<|At Z Z<|Zs<|Sr<|Zqm Z Z<|Ws Y4<|Zqm Z Z<|Nt<|Zp<|?_
 refine qav (γ:=Nat) (fun k=>[(0,_),(1,_),(4,_),(7,_),(8,.int .i64 (k:Int))]) (fun _=>_) (fun k tw=>Le D s tw∧(k≤n∧∀ i x,i < k→l[i]?=some x→decide (w=x)=false)) (fun k=>n - k) (fun _ _ _ h hl=>⟨h.1.trans hl,h.2⟩) 0 (.c5 Z Z Z Z Z (.nil _)) Z ⟨Le.refl _,⟨Nat.zero_le _,fun i x hi=>by omega⟩⟩ ?_
 intro k s1 I1
 have hk0:=I1.2.1
 have hI:=I1.2.2
 refine Sr<|qbh Z Z Z<|Nt<|Zs<|?_
 refine qaa Z (fun c2=>?_) (fun c2=>?_)
 ·
  have hk:k < n:=by omega
  obtain ⟨b,off,x,rfl,hx,hcx,_⟩:=Strs.at_ (hA.le I1.1) hk
  refine Zk<|Zt<|Zs<|Zp<|Sr<|Zqm Z Z<|At Z Z<|Sr<|Zqm Z Z<|Zqm Z Z<|Zqm Z Z<|qac (qas Z Z Z Z Z Z hk) Z<|qac (qah Z Z Z hcx Z) Z<|qka Z Z Z<|Nt<|?_
  refine qaa Z (fun c3=>?_) (fun c3=>?_)
  ·
   have hz:=decide_eq_true c3
   refine Sr<|Zqm Z Z<|At Z Z<|Zo<|Zc<|Zu<|Zu<|Zc<|Zu<|?_
   refine rR [] L (.t1 Z) Z I1.1 fun _ hS2=>?_
   refine ⟨?_,Z⟩
   simp only [qat];rw [qca hI hx hz,Nat.zero_add]
  have hz:=decide_eq_false c3
  refine Zk<|Zb<|Zt<|Zr<|qaF Z Z Z (w64 O O)<|Zqm Z Z<|Zn<|?_
  refine qab ⟨(k+1),[],kp,Z,⟨I1.1,⟨by omega,qbc hI hx hz⟩⟩,O⟩
 refine Zl<|Zv<|Zv<|Zd<|Zt<|Sr<|At Z Z<|Zo<|?_
 refine rR [] L (.t1 Z) Z I1.1 fun _ hS2=>?_
 refine ⟨?_,Z⟩
 simp only [qat];rw [qcj (fun i a hi h=>hI i a O h)]
theorem qiy(D:Nat)(L:Hl)(s:World)(A:Option Addr)(n c:Nat)(l:List (List UInt8))(hA:Strs s A n c l)(w:List UInt8):AC prog D 77 [.slice A n c,St w] L s fun v L' _=>v=.bool (decide (0≤qbb (fun x=>decide (w=x)) l 0))∧L=L':=by
 refine qai (fn:=f77) qao func77 V Z ntmps77 Z (rs:=[.tmp 4]) Z [(0,_),(1,_)] Z<|Sr<|At Z Z<|Sr<|Zqm Z Z<|Zqm Z Z<|Jc Z Z Z (qf0 D _ _ A n c l (hA.le (Lr D)) w) ?_
 rintro _ _ s1 h1 ⟨rfl,rfl⟩
 refine qfa Z Z Z<|At Z Z<|Zo<|?_
 refine rR [] L (.t1 Z) Z h1 fun _ hS2=>?_
 exact ⟨rfl,rfl⟩
theorem qjz(D:Nat)(L:Hl)(s:World)(hG:GP s)(l:List UInt8):AC prog D 153 [St l] L s fun v L' _=>v=.bool (kwB l)∧L=L':=by
 refine qai (fn:=f153) qao func153 V Z ntmps153 Z (rs:=[.tmp 2]) Z [(0,_)] Z<|Sr<|At Z Z<|Sr<|Jc Z Z Z (qgh D _ _ (hG.le (Lr D)) kwT kwords qqo (by decide +kernel) Dc Dc Dc) ?_
 rintro _ _ s1 h1 ⟨rfl,Ak,nk,ck,rfl,hK⟩
 refine Zqm Z Z<|Jc Z Z Z (qiy D _ _ Ak nk ck kwords (hK.le (Lr D)) l) ?_
 rintro _ _ s2 h2 ⟨rfl,rfl⟩
 refine At Z Z<|Zo<|?_
 refine rR [] L (.t1 Z) Z (h1.t h2) fun _ hS2=>?_
 exact ⟨by simp only [qat,qsL],rfl⟩
theorem qkp(D:Nat)(L:Hl)(s:World)(l:List UInt8):AC prog D 152 [St l] L s fun v L' _=>v=.bool (qde l)∧L=L':=by
 refine qai (fn:=f152) qao func152 V Z ntmps152 Z (rs:=[.tmp 2]) Z [(0,_)] Z<|Sr<|At Z Z<|Zs<|Sr<|Zqm Z Z<|qka Z Z Z<|Zqm Z Z<|?_
 refine qak (t:=5) Z (fun c1=>?_) (fun c1=>?_)
 ·
  refine Wf Y4<|Wf Y4<|Wf Y4<|ZqT Z Z Z<|Zqm Z Z<|Wf Y4<|Wf Y4<|Wf Y4<|ZqT Z Z Z<|Nt<|Zy Z<|Sr<|At Z Z<|Zo<|Zu<|?_
  refine rR [] L (.t1 Z) Z (Lr D) fun _ hS2=>?_
  refine ⟨?_,Z⟩
  simp [qat,qde, *];done
 refine Zg Z Z<|Zqm Z Z<|Zg Z Z<|?_
 obtain ⟨ch,hch⟩:∃ ch,l[0]?=some ch:=⟨_,List.getElem?_eq_getElem (List.length_pos_iff.2 As)⟩
 refine qac (qfA Z Z Z Z hch) Z<|Zg Z Z<|qbh Z Z Z<|ZqF Z Z Z<|Zqm Z Z<|?_
 refine qak (t:=10) Z (fun c2=>?_) (fun c2=>?_)
 ·
  refine Wf Y4<|Wf Y4<|Wf Y4<|ZqT Z Z Z<|Nt<|Zy Z<|Sr<|At Z Z<|Zo<|Zu<|?_
  refine rR [] L (.t1 Z) Z (Lr D) fun _ hS2=>?_
  refine ⟨?_,Z⟩
  rw [show qde l=false from qjt hch O];rfl
 refine Zg Z Z<|Zqm Z Z<|Zg Z Z<|qac (qfA Z Z Z Z hch) Z<|Zg Z Z<|qbv Z Z Z<|ZqF Z Z Z<|Nt<|?_
 refine qaa Z (fun c3=>?_) (fun c3=>?_)
 ·
  refine Sr<|At Z Z<|Zo<|Zu<|?_
  refine rR [] L (.t1 Z) Z (Lr D) fun _ hS2=>?_
  refine ⟨?_,Z⟩
  rw [show qde l=false from qjt hch O];rfl
 refine Zk<|Zt<|Sr<|Zqm Z Z<|Jc Z Z Z (qif D _ _ _) ?_
 rintro _ _ s4 h4 ⟨rfl,rfl⟩
 refine qbV Z Z<|At Z Z<|Zo<|?_
 refine rR [] L (.t1 Z) Z h4 fun _ hS2=>?_
 refine ⟨?_,Z⟩
 rw [qlW hch ⟨by omega,by omega⟩];rfl
theorem qer(D:Nat)(L:Hl)(s:World)(hG:GP s)(l:List UInt8):AC prog D 112 [St l] L s fun v L' _=>v=.bool (qaT l)∧L=L':=by
 refine qai (fn:=f112) qao func112 V Z ntmps112 Z (rs:=[.tmp 2]) Z [(0,_)] Z<|Sr<|At Z Z<|Sr<|Zqm Z Z<|Jc Z Z Z (qkp D _ _ l) ?_
 rintro _ _ s1 h1 ⟨rfl,rfl⟩
 refine Zqm Z Z ?_
 refine qc9 (t:=5) Z (fun c2=>?_) (fun c2=>?_)
 ·
  refine Zg Z Z<|Zqm Z Z<|Zg Z Z<|qgR Z Z Z Z<|Zg Z Z<|qmx Z Z Z<|ZqT Z Z Z<|Zqm Z Z<|?_
  refine qak (t:=10) Z (fun c3=>?_) (fun c3=>?_)
  ·
   refine Zg Z Z<|Zqm Z Z<|Zg Z Z<|Jc Z Z Z (qjz D _ _ (hG.le h1) l) ?_
   rintro _ _ s4 h4 ⟨rfl,rfl⟩
   refine Zg Z Z<|qbV Z Z<|ZqT Z Z Z<|At Z Z<|Zo<|?_
   refine rR [] L (.t1 Z) Z (h1.t h4) fun _ hS2=>?_
   refine ⟨?_,Z⟩
   rw [qeM];simp only [qat]
   rw [show qde l=true by assumption,show decide ((l.length:Int)≤12)=true from decide_eq_true O];rfl
  refine Wf Y4<|Wf Y4<|Wf Y4<|ZqF Z Z Z<|At Z Z<|Zo<|?_
  refine rR [] L (.t1 Z) Z h1 fun _ hS2=>?_
  refine ⟨?_,Z⟩
  rw [qeM];simp only [qat]
  rw [show qde l=true by assumption,show decide ((l.length:Int)≤12)=false from decide_eq_false O];rfl
 refine Wf Y4<|Wf Y4<|Wf Y4<|ZqF Z Z Z<|Zqm Z Z<|Wf Y4<|Wf Y4<|Wf Y4<|ZqF Z Z Z<|At Z Z<|Zo ?_
 refine rR [] L (.t1 Z) Z h1 fun _ hS2=>?_
 refine ⟨?_,Z⟩
 rw [qeM];simp only [qat]
 rw [show qde l=false by assumption];rfl
theorem qis(D:Nat)(L:Hl)(s:World)(hG:GP s)(o:Int)(ho:1≤o∧o≤21):AC prog D 212 [.int .i64 o] L s fun v L' _=>v=St (qjO o)∧L=L':=by
 obtain ⟨j,rfl⟩:∃ j:Nat,o=(j:Int)+1:=⟨(o - 1).toNat,by omega⟩
 refine qai (fn:=f212) qao func212 V Z ntmps212 Z (rs:=[.tmp 2]) Z [(0,_)] Z<|Sr<|At Z Z<|Sr<|Jc Z Z Z (qgh D _ _ (hG.le (Lr D)) sgT signL.tail qr6 (by decide +kernel) Dc Dc Dc) ?_
 rintro _ _ s1 h1 ⟨rfl,Ak,nk,ck,rfl,hK⟩
 have hnk:nk=21:=hK.1
 obtain ⟨bk,ok,xk,rfl,hxk,hck,_⟩:=Strs.at_ hK (show j < nk by omega)
 refine Zqm Z Z<|qac (qbd (c:=((j:Nat):Int)) Z Z (by rw [w64 O O];omega)) Z<|qac (qas Z Z Z Z Z Z (show j < nk by omega)) Z<|qac (qah Z Z Z (hck.le (Lr D)) Z) Z<|At Z Z<|Zo<|?_
 refine rR [] L (.t1 Z) Z h1 fun _ hS2=>?_
 refine ⟨?_,Z⟩
 rw [qjO,show ((j:Int)+1).toNat=j+1 by omega,List.getD,show signL[j+1]?=signL.tail[j]? from rfl,hxk];rfl
theorem qcR(D:Nat)(L:Hl)(s:World)(o:Int):AC prog D 214 [.int .i64 o] L s fun v L' _=>v=.int .i64 (qbB o)∧L=L':=by
 refine qai (fn:=f214) qao func214 V Z ntmps214 Z (rs:=[.tmp 2]) Z [(0,_)] Z<|Sr<|At Z Z<|Zs<|Sr<|Zqm Z Z<|Nt<|Zp<|Sr<|qar Z Z Z<|At Z Z<|?_
 refine qaa Z (fun c1=>?_) (fun c1=>?_)
 ·
  refine Sr<|At Z Z<|Zo<|Zc<|Zu<|?_
  refine rR [] L (.t1 Z) Z (Lr D) fun _ hS2=>?_
  refine ⟨?_,Z⟩
  simp only [qat];unfold qbB
  repeat' split
  all_goals (first | rfl | (exfalso;omega))
 refine Sr<|qar Z Z Z<|At Z Z<|?_
 refine qaa Z (fun c2=>?_) (fun c2=>?_)
 ·
  refine Sr<|At Z Z<|Zo<|Zc<|Zu<|?_
  refine rR [] L (.t1 Z) Z (Lr D) fun _ hS2=>?_
  refine ⟨?_,Z⟩
  simp only [qat];unfold qbB
  repeat' split
  all_goals (first | rfl | (exfalso;omega))
 refine Zs<|Sr<|qar Z Z Z<|At Z Z<|?_
 refine qaa Z (fun c3=>?_) (fun c3=>?_)
 ·
  refine Zk<|Zt<|?_
  refine qaa Z (fun c4=>?_) (fun c4=>?_)
  ·
   refine Sr<|At Z Z<|Zo<|Zc<|Zu<|?_
   refine rR [] L (.t1 Z) Z (Lr D) fun _ hS2=>?_
   refine ⟨?_,Z⟩
   simp only [qat];unfold qbB
   repeat' split
   all_goals (first | rfl | (exfalso;omega))
  refine Zs<|Sr<|qar Z Z Z<|At Z Z<|?_
  refine qaa Z (fun c5=>?_) (fun c5=>?_)
  ·
   refine Zk<|Zt<|?_
   refine qaa Z (fun c6=>?_) (fun c6=>?_)
   ·
    refine Sr<|At Z Z<|Zo<|Zc<|Zu<|?_
    refine rR [] L (.t1 Z) Z (Lr D) fun _ hS2=>?_
    refine ⟨?_,Z⟩
    simp only [qat];unfold qbB
    repeat' split
    all_goals (first | rfl | (exfalso;omega))
   refine Zk<|Zb<|Zt<|Sr<|At Z Z<|Zo<|?_
   refine rR [] L (.t1 Z) Z (Lr D) fun _ hS2=>?_
   refine ⟨?_,Z⟩
   simp only [qat];unfold qbB
   repeat' split
   all_goals (first | rfl | (exfalso;omega))
  refine Sr<|qar Z Z Z<|At Z Z<|?_
  refine qaa Z (fun c7=>?_) (fun c7=>?_)
  ·
   refine Zk<|Zt<|?_
   refine qaa Z (fun c8=>?_) (fun c8=>?_)
   ·
    refine Sr<|At Z Z<|Zo<|Zc<|Zu<|?_
    refine rR [] L (.t1 Z) Z (Lr D) fun _ hS2=>?_
    refine ⟨?_,Z⟩
    simp only [qat];unfold qbB
    repeat' split
    all_goals (first | rfl | (exfalso;omega))
   refine Zk<|Zb<|Zt<|Sr<|At Z Z<|Zo<|?_
   refine rR [] L (.t1 Z) Z (Lr D) fun _ hS2=>?_
   refine ⟨?_,Z⟩
   simp only [qat];unfold qbB
   repeat' split
   all_goals (first | rfl | (exfalso;omega))
  refine Sr<|qar Z Z Z<|At Z Z<|?_
  refine qaa Z (fun c9=>?_) (fun c9=>?_)
  ·
   refine Zk<|Zt<|?_
   refine qaa Z (fun c10=>?_) (fun c10=>?_)
   ·
    refine Sr<|At Z Z<|Zo<|Zc<|Zu<|?_
    refine rR [] L (.t1 Z) Z (Lr D) fun _ hS2=>?_
    refine ⟨?_,Z⟩
    simp only [qat];unfold qbB
    repeat' split
    all_goals (first | rfl | (exfalso;omega))
   refine Zk<|Zb<|Zt<|Sr<|At Z Z<|Zo<|?_
   refine rR [] L (.t1 Z) Z (Lr D) fun _ hS2=>?_
   refine ⟨?_,Z⟩
   simp only [qat];unfold qbB
   repeat' split
   all_goals (first | rfl | (exfalso;omega))
  refine Zr<|qar Z Z Z<|At Z Z<|?_
  refine qaa Z (fun c11=>?_) (fun c11=>?_)
  ·
   refine Sr<|At Z Z<|Zo<|Zc<|Zu<|?_
   refine rR [] L (.t1 Z) Z (Lr D) fun _ hS2=>?_
   refine ⟨?_,Z⟩
   simp only [qat];unfold qbB
   repeat' split
   all_goals (first | rfl | (exfalso;omega))
  refine Zk<|Zb<|Zt<|Sr<|At Z Z<|Zo<|?_
  refine rR [] L (.t1 Z) Z (Lr D) fun _ hS2=>?_
  refine ⟨?_,Z⟩
  simp only [qat];unfold qbB
  repeat' split
  all_goals (first | rfl | (exfalso;omega))
 refine Sr<|qar Z Z Z<|At Z Z<|?_
 refine qaa Z (fun c12=>?_) (fun c12=>?_)
 ·
  refine Zk<|Zt<|?_
  refine qaa Z (fun c13=>?_) (fun c13=>?_)
  ·
   refine Sr<|At Z Z<|Zo<|Zc<|Zu<|?_
   refine rR [] L (.t1 Z) Z (Lr D) fun _ hS2=>?_
   refine ⟨?_,Z⟩
   simp only [qat];unfold qbB
   repeat' split
   all_goals (first | rfl | (exfalso;omega))
  refine Zs<|Sr<|qar Z Z Z<|At Z Z<|?_
  refine qaa Z (fun c14=>?_) (fun c14=>?_)
  ·
   refine Zk<|Zt<|?_
   refine qaa Z (fun c15=>?_) (fun c15=>?_)
   ·
    refine Sr<|At Z Z<|Zo<|Zc<|Zu<|?_
    refine rR [] L (.t1 Z) Z (Lr D) fun _ hS2=>?_
    refine ⟨?_,Z⟩
    simp only [qat];unfold qbB
    repeat' split
    all_goals (first | rfl | (exfalso;omega))
   refine Zk<|Zb<|Zt<|Sr<|At Z Z<|Zo<|?_
   refine rR [] L (.t1 Z) Z (Lr D) fun _ hS2=>?_
   refine ⟨?_,Z⟩
   simp only [qat];unfold qbB
   repeat' split
   all_goals (first | rfl | (exfalso;omega))
  refine Sr<|qar Z Z Z<|At Z Z<|?_
  refine qaa Z (fun c16=>?_) (fun c16=>?_)
  ·
   refine Zk<|Zt<|?_
   refine qaa Z (fun c17=>?_) (fun c17=>?_)
   ·
    refine Sr<|At Z Z<|Zo<|Zc<|Zu<|?_
    refine rR [] L (.t1 Z) Z (Lr D) fun _ hS2=>?_
    refine ⟨?_,Z⟩
    simp only [qat];unfold qbB
    repeat' split
    all_goals (first | rfl | (exfalso;omega))
   refine Zk<|Zb<|Zt<|Sr<|At Z Z<|Zo<|?_
   refine rR [] L (.t1 Z) Z (Lr D) fun _ hS2=>?_
   refine ⟨?_,Z⟩
   simp only [qat];unfold qbB
   repeat' split
   all_goals (first | rfl | (exfalso;omega))
  refine Sr<|qar Z Z Z<|At Z Z<|?_
  refine qaa Z (fun c18=>?_) (fun c18=>?_)
  ·
   refine Zk<|Zt<|?_
   refine qaa Z (fun c19=>?_) (fun c19=>?_)
   ·
    refine Sr<|At Z Z<|Zo<|Zc<|Zu<|?_
    refine rR [] L (.t1 Z) Z (Lr D) fun _ hS2=>?_
    refine ⟨?_,Z⟩
    simp only [qat];unfold qbB
    repeat' split
    all_goals (first | rfl | (exfalso;omega))
   refine Zk<|Zb<|Zt<|Sr<|At Z Z<|Zo<|?_
   refine rR [] L (.t1 Z) Z (Lr D) fun _ hS2=>?_
   refine ⟨?_,Z⟩
   simp only [qat];unfold qbB
   repeat' split
   all_goals (first | rfl | (exfalso;omega))
  refine Zr<|qar Z Z Z<|At Z Z<|?_
  refine qaa Z (fun c20=>?_) (fun c20=>?_)
  ·
   refine Sr<|At Z Z<|Zo<|Zc<|Zu<|?_
   refine rR [] L (.t1 Z) Z (Lr D) fun _ hS2=>?_
   refine ⟨?_,Z⟩
   simp only [qat];unfold qbB
   repeat' split
   all_goals (first | rfl | (exfalso;omega))
  refine Zk<|Zb<|Zt<|Sr<|At Z Z<|Zo<|?_
  refine rR [] L (.t1 Z) Z (Lr D) fun _ hS2=>?_
  refine ⟨?_,Z⟩
  simp only [qat];unfold qbB
  repeat' split
  all_goals (first | rfl | (exfalso;omega))
 refine Sr<|qar Z Z Z<|At Z Z<|?_
 refine qaa Z (fun c21=>?_) (fun c21=>?_)
 ·
  refine Zk<|Zt<|?_
  refine qaa Z (fun c22=>?_) (fun c22=>?_)
  ·
   refine Sr<|At Z Z<|Zo<|Zc<|Zu<|?_
   refine rR [] L (.t1 Z) Z (Lr D) fun _ hS2=>?_
   refine ⟨?_,Z⟩
   simp only [qat];unfold qbB
   repeat' split
   all_goals (first | rfl | (exfalso;omega))
  refine Zs<|Sr<|qar Z Z Z<|At Z Z<|?_
  refine qaa Z (fun c23=>?_) (fun c23=>?_)
  ·
   refine Zk<|Zt<|?_
   refine qaa Z (fun c24=>?_) (fun c24=>?_)
   ·
    refine Sr<|At Z Z<|Zo<|Zc<|Zu<|?_
    refine rR [] L (.t1 Z) Z (Lr D) fun _ hS2=>?_
    refine ⟨?_,Z⟩
    simp only [qat];unfold qbB
    repeat' split
    all_goals (first | rfl | (exfalso;omega))
   refine Zk<|Zb<|Zt<|Sr<|At Z Z<|Zo<|?_
   refine rR [] L (.t1 Z) Z (Lr D) fun _ hS2=>?_
   refine ⟨?_,Z⟩
   simp only [qat];unfold qbB
   repeat' split
   all_goals (first | rfl | (exfalso;omega))
  refine Sr<|qar Z Z Z<|At Z Z<|?_
  refine qaa Z (fun c25=>?_) (fun c25=>?_)
  ·
   refine Zk<|Zt<|?_
   refine qaa Z (fun c26=>?_) (fun c26=>?_)
   ·
    refine Sr<|At Z Z<|Zo<|Zc<|Zu<|?_
    refine rR [] L (.t1 Z) Z (Lr D) fun _ hS2=>?_
    refine ⟨?_,Z⟩
    simp only [qat];unfold qbB
    repeat' split
    all_goals (first | rfl | (exfalso;omega))
   refine Zk<|Zb<|Zt<|Sr<|At Z Z<|Zo<|?_
   refine rR [] L (.t1 Z) Z (Lr D) fun _ hS2=>?_
   refine ⟨?_,Z⟩
   simp only [qat];unfold qbB
   repeat' split
   all_goals (first | rfl | (exfalso;omega))
  refine Sr<|qar Z Z Z<|At Z Z<|?_
  refine qaa Z (fun c27=>?_) (fun c27=>?_)
  ·
   refine Zk<|Zt<|?_
   refine qaa Z (fun c28=>?_) (fun c28=>?_)
   ·
    refine Sr<|At Z Z<|Zo<|Zc<|Zu<|?_
    refine rR [] L (.t1 Z) Z (Lr D) fun _ hS2=>?_
    refine ⟨?_,Z⟩
    simp only [qat];unfold qbB
    repeat' split
    all_goals (first | rfl | (exfalso;omega))
   refine Zk<|Zb<|Zt<|Sr<|At Z Z<|Zo<|?_
   refine rR [] L (.t1 Z) Z (Lr D) fun _ hS2=>?_
   refine ⟨?_,Z⟩
   simp only [qat];unfold qbB
   repeat' split
   all_goals (first | rfl | (exfalso;omega))
  refine Zr<|qar Z Z Z<|At Z Z<|?_
  refine qaa Z (fun c29=>?_) (fun c29=>?_)
  ·
   refine Sr<|At Z Z<|Zo<|Zc<|Zu<|?_
   refine rR [] L (.t1 Z) Z (Lr D) fun _ hS2=>?_
   refine ⟨?_,Z⟩
   simp only [qat];unfold qbB
   repeat' split
   all_goals (first | rfl | (exfalso;omega))
  refine Zk<|Zb<|Zt<|Sr<|At Z Z<|Zo<|?_
  refine rR [] L (.t1 Z) Z (Lr D) fun _ hS2=>?_
  refine ⟨?_,Z⟩
  simp only [qat];unfold qbB
  repeat' split
  all_goals (first | rfl | (exfalso;omega))
 refine Sr<|qar Z Z Z<|At Z Z<|?_
 refine qaa Z (fun c30=>?_) (fun c30=>?_)
 ·
  refine Zk<|Zt<|?_
  refine qaa Z (fun c31=>?_) (fun c31=>?_)
  ·
   refine Sr<|At Z Z<|Zo<|Zc<|Zu<|?_
   refine rR [] L (.t1 Z) Z (Lr D) fun _ hS2=>?_
   refine ⟨?_,Z⟩
   simp only [qat];unfold qbB
   repeat' split
   all_goals (first | rfl | (exfalso;omega))
  refine Zs<|Sr<|qar Z Z Z<|At Z Z<|?_
  refine qaa Z (fun c32=>?_) (fun c32=>?_)
  ·
   refine Zk<|Zt<|?_
   refine qaa Z (fun c33=>?_) (fun c33=>?_)
   ·
    refine Sr<|At Z Z<|Zo<|Zc<|Zu<|?_
    refine rR [] L (.t1 Z) Z (Lr D) fun _ hS2=>?_
    refine ⟨?_,Z⟩
    simp only [qat];unfold qbB
    repeat' split
    all_goals (first | rfl | (exfalso;omega))
   refine Zk<|Zb<|Zt<|Sr<|At Z Z<|Zo<|?_
   refine rR [] L (.t1 Z) Z (Lr D) fun _ hS2=>?_
   refine ⟨?_,Z⟩
   simp only [qat];unfold qbB
   repeat' split
   all_goals (first | rfl | (exfalso;omega))
  refine Sr<|qar Z Z Z<|At Z Z<|?_
  refine qaa Z (fun c34=>?_) (fun c34=>?_)
  ·
   refine Zk<|Zt<|?_
   refine qaa Z (fun c35=>?_) (fun c35=>?_)
   ·
    refine Sr<|At Z Z<|Zo<|Zc<|Zu<|?_
    refine rR [] L (.t1 Z) Z (Lr D) fun _ hS2=>?_
    refine ⟨?_,Z⟩
    simp only [qat];unfold qbB
    repeat' split
    all_goals (first | rfl | (exfalso;omega))
   refine Zk<|Zb<|Zt<|Sr<|At Z Z<|Zo<|?_
   refine rR [] L (.t1 Z) Z (Lr D) fun _ hS2=>?_
   refine ⟨?_,Z⟩
   simp only [qat];unfold qbB
   repeat' split
   all_goals (first | rfl | (exfalso;omega))
  refine Sr<|qar Z Z Z<|At Z Z<|?_
  refine qaa Z (fun c36=>?_) (fun c36=>?_)
  ·
   refine Zk<|Zt<|?_
   refine qaa Z (fun c37=>?_) (fun c37=>?_)
   ·
    refine Sr<|At Z Z<|Zo<|Zc<|Zu<|?_
    refine rR [] L (.t1 Z) Z (Lr D) fun _ hS2=>?_
    refine ⟨?_,Z⟩
    simp only [qat];unfold qbB
    repeat' split
    all_goals (first | rfl | (exfalso;omega))
   refine Zk<|Zb<|Zt<|Sr<|At Z Z<|Zo<|?_
   refine rR [] L (.t1 Z) Z (Lr D) fun _ hS2=>?_
   refine ⟨?_,Z⟩
   simp only [qat];unfold qbB
   repeat' split
   all_goals (first | rfl | (exfalso;omega))
  refine Zr<|qar Z Z Z<|At Z Z<|?_
  refine qaa Z (fun c38=>?_) (fun c38=>?_)
  ·
   refine Sr<|At Z Z<|Zo<|Zc<|Zu<|?_
   refine rR [] L (.t1 Z) Z (Lr D) fun _ hS2=>?_
   refine ⟨?_,Z⟩
   simp only [qat];unfold qbB
   repeat' split
   all_goals (first | rfl | (exfalso;omega))
  refine Zk<|Zb<|Zt<|Sr<|At Z Z<|Zo<|?_
  refine rR [] L (.t1 Z) Z (Lr D) fun _ hS2=>?_
  refine ⟨?_,Z⟩
  simp only [qat];unfold qbB
  repeat' split
  all_goals (first | rfl | (exfalso;omega))
 refine Sr<|qar Z Z Z<|At Z Z<|?_
 refine qaa Z (fun c39=>?_) (fun c39=>?_)
 ·
  refine Zk<|Zt<|?_
  refine qaa Z (fun c40=>?_) (fun c40=>?_)
  ·
   refine Sr<|At Z Z<|Zo<|Zc<|Zu<|?_
   refine rR [] L (.t1 Z) Z (Lr D) fun _ hS2=>?_
   refine ⟨?_,Z⟩
   simp only [qat];unfold qbB
   repeat' split
   all_goals (first | rfl | (exfalso;omega))
  refine Zs<|Sr<|qar Z Z Z<|At Z Z<|?_
  refine qaa Z (fun c41=>?_) (fun c41=>?_)
  ·
   refine Zk<|Zt<|?_
   refine qaa Z (fun c42=>?_) (fun c42=>?_)
   ·
    refine Sr<|At Z Z<|Zo<|Zc<|Zu<|?_
    refine rR [] L (.t1 Z) Z (Lr D) fun _ hS2=>?_
    refine ⟨?_,Z⟩
    simp only [qat];unfold qbB
    repeat' split
    all_goals (first | rfl | (exfalso;omega))
   refine Zk<|Zb<|Zt<|Sr<|At Z Z<|Zo<|?_
   refine rR [] L (.t1 Z) Z (Lr D) fun _ hS2=>?_
   refine ⟨?_,Z⟩
   simp only [qat];unfold qbB
   repeat' split
   all_goals (first | rfl | (exfalso;omega))
  refine Sr<|qar Z Z Z<|At Z Z<|?_
  refine qaa Z (fun c43=>?_) (fun c43=>?_)
  ·
   refine Zk<|Zt<|?_
   refine qaa Z (fun c44=>?_) (fun c44=>?_)
   ·
    refine Sr<|At Z Z<|Zo<|Zc<|Zu<|?_
    refine rR [] L (.t1 Z) Z (Lr D) fun _ hS2=>?_
    refine ⟨?_,Z⟩
    simp only [qat];unfold qbB
    repeat' split
    all_goals (first | rfl | (exfalso;omega))
   refine Zk<|Zb<|Zt<|Sr<|At Z Z<|Zo<|?_
   refine rR [] L (.t1 Z) Z (Lr D) fun _ hS2=>?_
   refine ⟨?_,Z⟩
   simp only [qat];unfold qbB
   repeat' split
   all_goals (first | rfl | (exfalso;omega))
  refine Sr<|qar Z Z Z<|At Z Z<|?_
  refine qaa Z (fun c45=>?_) (fun c45=>?_)
  ·
   refine Zk<|Zt<|?_
   refine qaa Z (fun c46=>?_) (fun c46=>?_)
   ·
    refine Sr<|At Z Z<|Zo<|Zc<|Zu<|?_
    refine rR [] L (.t1 Z) Z (Lr D) fun _ hS2=>?_
    refine ⟨?_,Z⟩
    simp only [qat];unfold qbB
    repeat' split
    all_goals (first | rfl | (exfalso;omega))
   refine Zk<|Zb<|Zt<|Sr<|At Z Z<|Zo<|?_
   refine rR [] L (.t1 Z) Z (Lr D) fun _ hS2=>?_
   refine ⟨?_,Z⟩
   simp only [qat];unfold qbB
   repeat' split
   all_goals (first | rfl | (exfalso;omega))
  refine Zr<|qar Z Z Z<|At Z Z<|?_
  refine qaa Z (fun c47=>?_) (fun c47=>?_)
  ·
   refine Sr<|At Z Z<|Zo<|Zc<|Zu<|?_
   refine rR [] L (.t1 Z) Z (Lr D) fun _ hS2=>?_
   refine ⟨?_,Z⟩
   simp only [qat];unfold qbB
   repeat' split
   all_goals (first | rfl | (exfalso;omega))
  refine Zk<|Zb<|Zt<|Sr<|At Z Z<|Zo<|?_
  refine rR [] L (.t1 Z) Z (Lr D) fun _ hS2=>?_
  refine ⟨?_,Z⟩
  simp only [qat];unfold qbB
  repeat' split
  all_goals (first | rfl | (exfalso;omega))
 refine Zr<|qar Z Z Z<|At Z Z<|?_
 refine qaa Z (fun c48=>?_) (fun c48=>?_)
 ·
  refine Sr<|At Z Z<|Zo<|Zc<|Zu<|?_
  refine rR [] L (.t1 Z) Z (Lr D) fun _ hS2=>?_
  refine ⟨?_,Z⟩
  simp only [qat];unfold qbB
  repeat' split
  all_goals (first | rfl | (exfalso;omega))
 refine Zs<|Sr<|qar Z Z Z<|At Z Z<|?_
 refine qaa Z (fun c49=>?_) (fun c49=>?_)
 ·
  refine Zk<|Zt<|?_
  refine qaa Z (fun c50=>?_) (fun c50=>?_)
  ·
   refine Sr<|At Z Z<|Zo<|Zc<|Zu<|?_
   refine rR [] L (.t1 Z) Z (Lr D) fun _ hS2=>?_
   refine ⟨?_,Z⟩
   simp only [qat];unfold qbB
   repeat' split
   all_goals (first | rfl | (exfalso;omega))
  refine Zk<|Zb<|Zt<|Sr<|At Z Z<|Zo<|?_
  refine rR [] L (.t1 Z) Z (Lr D) fun _ hS2=>?_
  refine ⟨?_,Z⟩
  simp only [qat];unfold qbB
  repeat' split
  all_goals (first | rfl | (exfalso;omega))
 refine Sr<|qar Z Z Z<|At Z Z<|?_
 refine qaa Z (fun c51=>?_) (fun c51=>?_)
 ·
  refine Zk<|Zt<|?_
  refine qaa Z (fun c52=>?_) (fun c52=>?_)
  ·
   refine Sr<|At Z Z<|Zo<|Zc<|Zu<|?_
   refine rR [] L (.t1 Z) Z (Lr D) fun _ hS2=>?_
   refine ⟨?_,Z⟩
   simp only [qat];unfold qbB
   repeat' split
   all_goals (first | rfl | (exfalso;omega))
  refine Zk<|Zb<|Zt<|Sr<|At Z Z<|Zo<|?_
  refine rR [] L (.t1 Z) Z (Lr D) fun _ hS2=>?_
  refine ⟨?_,Z⟩
  simp only [qat];unfold qbB
  repeat' split
  all_goals (first | rfl | (exfalso;omega))
 refine Sr<|qar Z Z Z<|At Z Z<|?_
 refine qaa Z (fun c53=>?_) (fun c53=>?_)
 ·
  refine Zk<|Zt<|?_
  refine qaa Z (fun c54=>?_) (fun c54=>?_)
  ·
   refine Sr<|At Z Z<|Zo<|Zc<|Zu<|?_
   refine rR [] L (.t1 Z) Z (Lr D) fun _ hS2=>?_
   refine ⟨?_,Z⟩
   simp only [qat];unfold qbB
   repeat' split
   all_goals (first | rfl | (exfalso;omega))
  refine Zk<|Zb<|Zt<|Sr<|At Z Z<|Zo<|?_
  refine rR [] L (.t1 Z) Z (Lr D) fun _ hS2=>?_
  refine ⟨?_,Z⟩
  simp only [qat];unfold qbB
  repeat' split
  all_goals (first | rfl | (exfalso;omega))
 refine Zr<|qar Z Z Z<|At Z Z<|?_
 refine qaa Z (fun c55=>?_) (fun c55=>?_)
 ·
  refine Sr<|At Z Z<|Zo<|Zc<|Zu<|?_
  refine rR [] L (.t1 Z) Z (Lr D) fun _ hS2=>?_
  refine ⟨?_,Z⟩
  simp only [qat];unfold qbB
  repeat' split
  all_goals (first | rfl | (exfalso;omega))
 refine Zk<|Zb<|Zt<|Sr<|At Z Z<|Zo<|?_
 refine rR [] L (.t1 Z) Z (Lr D) fun _ hS2=>?_
 refine ⟨?_,Z⟩
 simp only [qat];unfold qbB
 repeat' split
 all_goals (first | rfl | (exfalso;omega))
theorem w64u{a:Int}(h1:0≤a)(h2:a < 18446744073709551616):IntKind.u64.wrap a=a:=by simp [IntKind.wrap,IntKind.bits,IntKind.signed];omega
theorem qdH(D:Nat)(L:Hl)(s:World)(hG:GP s)(n:Int)(hu:U32 n):AC prog D 115 [.int .u32 n] L s fun v L' _=>v=St (qeB n)∧L=L':=by
 have h2:=hu.2
 obtain ⟨u,rfl⟩:=Int.eq_ofNat_of_zero_le hu.1
 refine qai (fn:=f115) qao func115 V Z ntmps115 Z (rs:=[.tmp 2]) Z [(0,_)] Z<|Sr<|At Z Z<|Sr<|Zqm Z Z<|qac (qbl Z Z Z Z Z (w64u O O)) Z<|Jc Z Z Z (qsd D _ _ (hG.gw.le (Lr D)) u O) ?_
 rintro _ _ s1 h1 ⟨rfl,rfl⟩
 refine At Z Z<|Zo<|?_
 refine rR [] L (.t1 Z) Z h1 fun _ hS2=>?_
 exact ⟨rfl,rfl⟩
end Go.Proofs.YtpdnijphccdiiaaGreatDoor
namespace Go.Proofs.YtpdnijphccdiiaaGreatDoor
open Go Go.FL
mutual
def exN:Ex→Nat
 | .mk _ _ _ _ az=>1+qdD az
def qdD:List Ex→Nat
 | []=>0
 | x::r=>exN x+qdD r
end
mutual
def exV:Ex→Bool
 | .mk k o n nm az=>decide (exC k o n nm az.length=0) && qix az
def qix:List Ex→Bool
 | []=>true
 | x::r=>exV x && qix r
end
mutual
def exU:Ex→Bool
 | .mk _ _ n _ az=>decide (0≤n∧n < 4294967296) && qkb az
def qkb:List Ex→Bool
 | []=>true
 | x::r=>exU x && qkb r
end
mutual
def stN:Stm→Nat
 | .mk _ _ es b e=>1+qdD es+qch b+qch e
def qch:List Stm→Nat
 | []=>0
 | x::r=>stN x+qch r
end
mutual
def stV:Stm→Nat→Bool
 | .mk k nm es b e,lv=>decide (lv≤16) && decide (stC k nm es.length b.length e.length=0) && qix es && qdN b (lv+1) && qdN e (lv+1)
def qdN:List Stm→Nat→Bool
 | [],_=>true
 | x::r,lv=>stV x lv && qdN r lv
end
mutual
def stU:Stm→Bool
 | .mk _ _ es b e=>qkb es && qgs b && qgs e
def qgs:List Stm→Bool
 | []=>true
 | x::r=>stU x && qgs r
end
mutual
theorem quD:∀ (x:Ex) (lv c:Nat),(wkX x lv c).2=0→exV x=true∧(wkX x lv c).1=c+exN x∧c+exN x≤2000
 | .mk k o n nm az,lv,c,h=>by
  simp only [wkX] at h ⊢
  split at h
  · cases h
  rename_i h1
  split at h
  · rename_i h2;exact absurd h h2
  rename_i h2
  rw [if_neg h1,if_neg h2]
  obtain ⟨k1,k2,k3⟩:=qeR az (lv+1) (c+1) h
  refine ⟨by simp only [exV,k1,Bool.and_true,decide_eq_true_eq];simpa using h2,by rw [k2,exN];omega,by rw [exN];rcases k3 with k3 | k3 <;> omega⟩
theorem qeR:∀ (l:List Ex) (lv c:Nat),(qco l lv c).2=0→qix l=true∧(qco l lv c).1=c+qdD l∧(qdD l=0∨c+qdD l≤2000)
 | [],_,c,_=>⟨rfl,rfl,.inl rfl⟩
 | x::r,lv,c,h=>by
  simp only [qco] at h ⊢
  split at h
  · rename_i h1;exact absurd h h1
  rename_i h1
  rw [if_neg h1]
  obtain ⟨a1,a2,a3⟩:=quD x lv c (by simpa using h1)
  obtain ⟨b1,b2,b3⟩:=qeR r lv _ h
  refine ⟨by simp only [qix,a1,b1,Bool.and_true],by rw [b2,a2,qdD];omega,.inr ?_⟩
  rw [a2] at b3
  rw [qdD]
  rcases b3 with b3 | b3 <;> omega
end
mutual
theorem qsB:∀ (x:Stm) (lv c:Nat),(wkS x lv c).2=0→stV x lv=true∧(wkS x lv c).1=c+stN x∧c+stN x≤2000
  | .mk k nm es b e,lv,c,h=>by
    simp only [wkS] at h ⊢
    split at h
    · cases h
    rename_i h1
    split at h
    · rename_i h2;exact absurd h h2
    rename_i h2
    split at h
    · rename_i h3;exact absurd h h3
    rename_i h3
    split at h
    · rename_i h4;exact absurd h h4
    rename_i h4
    rw [if_neg h1,if_neg h2,if_neg h3,if_neg h4]
    obtain ⟨a1,a2,a3⟩:=qeR es 1 (c+1) (by simpa using h3)
    obtain ⟨b1,b2,b3⟩:=qdq b (lv+1) _ (by simpa using h4)
    obtain ⟨e1,e2,e3⟩:=qdq e (lv+1) _ h
    rw [b2,a2] at e3 e2
    rw [a2] at b3
    refine ⟨?_,by rw [b2,a2,e2,stN];omega,?_⟩
    · simp only [stV,a1,b1,e1,Bool.and_true,Bool.and_eq_true,decide_eq_true_eq]
      exact ⟨by omega,by simpa using h2⟩
    · rw [stN]
      rcases a3 with a3 | a3 <;> rcases b3 with b3 | b3 <;> rcases e3 with e3 | e3 <;> omega
theorem qdq:∀ (l:List Stm) (lv c:Nat),(qb3 l lv c).2=0→qdN l lv=true∧(qb3 l lv c).1=c+qch l∧(qch l=0∨c+qch l≤2000)
 | [],_,c,_=>⟨rfl,rfl,.inl rfl⟩
 | x::r,lv,c,h=>by
  simp only [qb3] at h ⊢
  split at h
  · rename_i h1;exact absurd h h1
  rename_i h1
  rw [if_neg h1]
  obtain ⟨a1,a2,a3⟩:=qsB x lv c (by simpa using h1)
  obtain ⟨b1,b2,b3⟩:=qdq r lv _ h
  refine ⟨by simp only [qdN,a1,b1,Bool.and_true],by rw [b2,a2,qch];omega,.inr ?_⟩
  rw [a2] at b3
  rw [qch]
  rcases b3 with b3 | b3 <;> omega
end
def qf4(l:List Str):Nat:=(l.map fun w=>w.length+2).sum
theorem qbE(w:Str)(l:List Str):qf4 (w::l)=w.length+2+qf4 l:=by simp [qf4]
theorem qbf:∀ l:List Str,(qaV l).length≤qf4 l
 | []=>Nat.zero_le _
 | [x]=>by simp [qaV,qf4]
 | x::y::r=>by
  have:=qbf (y::r)
  rw [qaV,qbE]
  simp only [List.length_append,List.length_cons] at this ⊢
  omega
theorem qgF(l:List Str):(l.getD 0 []).length≤qf4 l:=by
 cases l with
 | nil=>exact Nat.zero_le _
 | cons x r=>rw [qbE];simp only [List.getD_cons_zero];omega
theorem qhL(l:List Str):(l.getD 0 []).length+(l.getD 1 []).length≤qf4 l:=by
 match l with
 | []=>exact Nat.zero_le _
 | [x]=>simp [qf4]
 | x::y::r=>rw [qbE,qbE];simp only [List.getD_cons_zero,List.getD_cons_succ];omega
theorem qkC(o:Int):(qjO o).length≤2:=by
 unfold qjO
 have h:∀ x∈signL,x.length≤2:=by decide
 by_cases hk:o.toNat < signL.length
 · rw [List.getD,List.getElem?_eq_getElem hk];exact h _ (List.getElem_mem hk)
 · rw [List.getD,List.getElem?_eq_none O];exact Nat.zero_le _
theorem qds{n:Int}(h:0≤n∧n < 4294967296):(qeB n).length≤10:=(qic (u:=n.toNat) O).2
theorem qbF{l:Str}(h:qaT l=true):l.length≤12:=by
 unfold qaT at h
 simp only [Bool.and_eq_true,decide_eq_true_eq] at h
 have:=h.1.1.2;omega
theorem qgB{k o n:Int}{nm:Str}{na:Nat}(h:exC k o n nm na=0):nm.length≤12:=by
 unfold exC at h
 split at h
 · cases h
 split at h
 · cases h
 rename_i h2
 split at h
 · cases h
 rename_i h3
 cases hn:qkg k with
 | true=>
  cases hi:qaT nm with
  | true=>exact qbF hi
  | false=>exact absurd ⟨hn,hi⟩ h2
 | false=>
  by_cases he:nm=[]
  · rw [he];exact Nat.zero_le _
  · exact absurd (.inl ⟨hn,he⟩) h3
theorem qqX{k o n:Int}{nm:Str}{az:List Str}{out:Int}(hn:0≤n∧n < 4294967296)(hm:nm.length≤12):(exW k o n nm az out).length≤20+qf4 az:=by
 have h0:=qds hn
 have h1:=qbf az
 have h2:=qgF az
 have h3:=qhL az
 have h4:=qkC o
 unfold exW
 repeat' split
 all_goals ((try simp only [List.length_append,List.length_cons,List.length_nil]);omega)
mutual
theorem qfV:∀ (x:Ex) (out:Int),exV x=true→exU x=true→(exT x out).length+2≤40 * exN x
 | .mk k o n nm az,out,hv,hu=>by
  simp only [exV,Bool.and_eq_true,decide_eq_true_eq] at hv
  simp only [exU,Bool.and_eq_true,decide_eq_true_eq] at hu
  have h1:=qdp az (qeZ k o) hv.2 hu.2
  have h2:=qqX (k:=k) (o:=o) (az:=qdt az (qeZ k o)) (out:=out) hu.1 (qgB hv.1)
  simp only [exT,exN]
  omega
theorem qdp:∀ (l:List Ex) (os:List Int),qix l=true→qkb l=true→qf4 (qdt l os)≤40 * qdD l
 | [],_,_,_=>Nat.zero_le _
 | x::r,os,hv,hu=>by
  simp only [qix,Bool.and_eq_true] at hv
  simp only [qkb,Bool.and_eq_true] at hu
  have h1:=qfV x (os.headD 0) hv.1 hu.1
  have h2:=qdp r os.tail hv.2 hu.2
  simp only [qdt,qbE,qdD]
  omega
end
theorem qbL(n:Nat):(qaO n).length=2 * n:=by
 induction n with
 | zero=>rfl
 | succ n ih=>simp only [qaO,List.length_append,List.length_cons,List.length_nil,ih];omega
theorem qiX{k:Int}{nm:Str}{a b c:Nat}(h:stC k nm a b c=0):nm.length≤12:=by
 unfold stC at h
 split at h
 · cases h
 split at h
 · cases h
 rename_i h2
 split at h
 · cases h
 rename_i h3
 cases hn:qcc k with
 | true=>
  cases hi:qaT nm with
  | true=>exact qbF hi
  | false=>exact absurd ⟨hn,hi⟩ h2
 | false=>
  by_cases he:nm=[]
  · rw [he];exact Nat.zero_le _
  · exact absurd (.inl ⟨hn,he⟩) h3
theorem qoF{k:Int}{nm:Str}{es:List Str}(hm:nm.length≤12):(qf5 k nm es).length≤30+qf4 es:=by
 have h1:=qbf es
 have h3:=qhL es
 have h2:=qgF es
 unfold qf5
 repeat' split
 all_goals ((try simp only [List.length_append,List.length_cons,List.length_nil]);omega)
mutual
theorem qem:∀ (x:Stm) (lv m:Nat),lv≤m→stV x m=true→stV x lv=true
 | .mk k nm es b e,lv,m,hl,hv=>by
  simp only [stV,Bool.and_eq_true,decide_eq_true_eq] at hv ⊢
  exact ⟨⟨⟨⟨by omega,hv.1.1.1.2⟩,hv.1.1.2⟩,qfH b (lv+1) (m+1) O hv.1.2⟩,qfH e (lv+1) (m+1) O hv.2⟩
theorem qfH:∀ (l:List Stm) (lv m:Nat),lv≤m→qdN l m=true→qdN l lv=true
 | [],_,_,_,_=>rfl
 | x::r,lv,m,hl,hv=>by
  simp only [qdN,Bool.and_eq_true] at hv ⊢
  exact ⟨qem x lv m hl hv.1,qfH r lv m hl hv.2⟩
end
mutual
theorem qfD:∀ (x:Stm) (lv:Nat),stV x lv=true→stU x=true→(stT x lv).length+34≤200 * stN x
 | .mk k nm es b e,lv,hv,hu=>by
  simp only [stV,Bool.and_eq_true,decide_eq_true_eq] at hv
  simp only [stU,Bool.and_eq_true] at hu
  have h1:=qdp es [] hv.1.1.2 hu.1.1
  have h2:=qcB b (lv+1) hv.1.2 hu.1.2
  have h3:=qcB e (lv+1) hv.2 hu.2
  have h4:=qgF (qdt es [])
  have h5:=qbL lv
  have h6:=qoF (k:=k) (es:=qdt es []) (qiX hv.1.1.1.2)
  have h7:=hv.1.1.1.1
  have h8:=qqb e lv hu.2 hv.2
  simp only [stT,stN]
  repeat' split
  all_goals ((try simp only [List.length_append,List.length_cons,List.length_nil]);omega)
theorem qcB:∀ (l:List Stm) (lv:Nat),qdN l lv=true→qgs l=true→(qdc l lv).length≤200 * qch l
 | [],_,_,_=>Nat.zero_le _
 | x::r,lv,hv,hu=>by
  simp only [qdN,Bool.and_eq_true] at hv
  simp only [qgs,Bool.and_eq_true] at hu
  have h1:=qfD x lv hv.1 hu.1
  have h2:=qcB r lv hv.2 hu.2
  have h3:=qbL lv
  have h4:lv≤16:=by
   have:=hv.1
   cases x with
   | mk k nm es b e=>simp only [stV,Bool.and_eq_true,decide_eq_true_eq] at this;exact this.1.1.1.1
  simp only [qdc,List.length_append,qch]
  omega
theorem qqb:∀ (l:List Stm) (lv:Nat),qgs l=true→qdN l (lv+1)=true→(st1 l lv).length≤200 * qch l
 | [],_,_,_=>Nat.zero_le _
 | x::r,lv,hu,hv=>by
  simp only [qdN,Bool.and_eq_true] at hv
  simp only [qgs,Bool.and_eq_true] at hu
  have h1:=qfD x lv (qem x lv (lv+1) O hv.1) hu.1
  simp only [st1,qch]
  omega
end
end Go.Proofs.YtpdnijphccdiiaaGreatDoor
