/- Part 2. -/
import Derived.Test.YtlfiplbamnpgoaaGreatDoorQ39x1
import Derived.KernelRfl
import Derived.Test.YtlfiplbamnpgoaaGreatDoorProg
import Derived.Laws.StructEq
import Derived.Maps.AppendAt
import Derived.Laws.MakeOwn
import Derived.Laws.CopyRow
import Derived.MapKept
import Derived.Laws.BytesString
set_option linter.unusedVariables false
set_option linter.defProp false
set_option linter.unusedSimpArgs false
set_option linter.unnecessarySimpa false
set_option maxRecDepth 100000
set_option maxHeartbeats 8000000
namespace Go.FL
open Go Go.Proofs
def TabOK.nil{P:Program}:TabOK P []:=fun _ h=>by cases h
def TabOK.cons{P:Program}{x:Nat×TI}{r:qaM}(h:x.2.ok P x.1)(k:TabOK P r):TabOK P (x::r):=fun y hy=>by
 rcases List.mem_cons.1 hy with rfl|hy
 · exact h
 · exact k y hy
abbrev fD9(n:String)(t o:Nat)(p:String)(b:Nat):Field:={ name:=n,type:=t,offset:=o,embedded:=false,tag := "", pkgPath:=p,byteOffset:=b }
def tB9{p:Prop}(h:p:=by refine ⟨by first|trivial|rfl,by kernel_rfl,by first|rfl|kernel_rfl,by first|rfl|kernel_rfl,by decide,by first|exact fun _=>rfl|(intro h;cases h),by kernel_rfl,by kernel_rfl⟩):p:=h
def ti2:TI:=⟨.sc,.int .i64,1,8,[.int .i64 0],[]⟩
def qkx:ti2.ok Tryz.prog 3:=⟨Tryz.underlying3,tB9⟩
def ti4:TI:=⟨.sc,.bool,1,1,[.bool false],[]⟩
def ti5:TI:=⟨.sc,.int .u8,1,1,[.int .u8 0],[]⟩
def ti7:TI:=⟨.st [0,1,2,3],.struct #[fD9 "x" 2 0 "runtime" 0,fD9 "y" 3 1 "runtime" 8,fD9 "signed" 4 2 "runtime" 16,fD9 "code" 6 3 "runtime" 17],4,24,[.int .i64 0,.int .i64 0,.bool false,.int .u8 0],[1,1,1,1]⟩
def ti9:TI:=⟨.sc,.string,1,16,[St []],[]⟩
def ti12:TI:=⟨.sc,.int .u64,1,8,[.int .u64 0],[]⟩
def ti13:TI:=⟨.st [0,1],.struct #[fD9 "msg" 9 0 "runtime" 0,fD9 "addr" 12 1 "runtime" 16],2,24,[St [],.int .u64 0],[1,1]⟩
def ti15:TI:=⟨.sc,.pointer 350,1,8,[.pointer none],[]⟩
def ti16:TI:=⟨.sc,.pointer 353,1,8,[.pointer none],[]⟩
def ti17:TI:=⟨.sc,.pointer 360,1,8,[.pointer none],[]⟩
def ti18:TI:=⟨.st [0],.struct #[fD9 "typ" 17 0 "internal/runtime/maps" 0],1,8,[.pointer none],[1]⟩
def ti21:TI:=⟨.sc,.int .i32,1,4,[.int .i32 0],[]⟩
def ti22:TI:=⟨.sl 60,.slice 60,1,24,[.slice none 0 0],[]⟩
def ti23:TI:=⟨.sl 64,.slice 64,1,24,[.slice none 0 0],[]⟩
def ti24:TI:=⟨.st [0,1],.struct #[fD9 "Globals" 22 0 "" 0,fD9 "Functions" 23 1 "" 24],2,48,[.slice none 0 0,.slice none 0 0],[1,1]⟩
def ti26:TI:=⟨.sl 5,.slice 5,1,24,[.slice none 0 0],[]⟩
def ti28:TI:=⟨.sl 34,.slice 34,1,24,[.slice none 0 0],[]⟩
def ti29:TI:=⟨.st [0,1],.struct #[fD9 "Code" 3 0 "" 0,fD9 "Index" 3 1 "" 8],2,16,[.int .i64 0,.int .i64 0],[1,1]⟩
def ti34:TI:=⟨.sc,.int .u32,1,4,[.int .u32 0],[]⟩
def qlp:ti34.ok Tryz.prog 34:=⟨Tryz.underlying34,tB9⟩
def ti35:TI:=⟨.st [0,1,2,3],.struct #[fD9 "Output" 26 0 "" 0,fD9 "Stop" 3 1 "" 24,fD9 "Code" 34 2 "" 32,fD9 "Steps" 3 3 "" 40],4,48,[.slice none 0 0,.int .i64 0,.int .u32 0,.int .i64 0],[1,1,1,1]⟩
def ti40:TI:=⟨.sl 84,.slice 84,1,24,[.slice none 0 0],[]⟩
def ti41:TI:=⟨.st [0,1],.struct #[fD9 "Cells" 3 0 "" 0,fD9 "Instructions" 40 1 "" 8],2,32,[.int .i64 0,.slice none 0 0],[1,1]⟩
def ti54:TI:=⟨.sc,.pointer 58,1,8,[.pointer none],[]⟩
def ti55:TI:=⟨.sl 28,.slice 28,1,24,[.slice none 0 0],[]⟩
def ti56:TI:=⟨.sl 70,.slice 70,1,24,[.slice none 0 0],[]⟩
def ti57:TI:=⟨.st [0,1,2,3,4,5,6,7,8],.struct #[fD9 "functions" 56 0 "scriptorium/interp" 0,fD9 "globals" 28 1 "scriptorium/interp" 24,fD9 "arrays" 55 2 "scriptorium/interp" 48,fD9 "frame" 28 3 "scriptorium/interp" 72,fD9 "result" 34 4 "scriptorium/interp" 96,fD9 "calls" 3 5 "scriptorium/interp" 104,fD9 "input" 26 6 "scriptorium/interp" 112,fD9 "left" 3 7 "scriptorium/interp" 136,fD9 "out" 36 8 "scriptorium/interp" 144],12,192,[.slice none 0 0,.slice none 0 0,.slice none 0 0,.slice none 0 0,.int .u32 0,.int .i64 0,.slice none 0 0,.int .i64 0,.slice none 0 0,.int .i64 0,.int .u32 0,.int .i64 0],[1,1,1,1,1,1,1,1,4]⟩
def ti59:TI:=⟨.st [0,1,2,3],.struct #[fD9 "Kind" 3 0 "" 0,fD9 "Name" 9 1 "" 8,fD9 "Number" 34 2 "" 24,fD9 "Initial" 28 3 "" 32],4,56,[.int .i64 0,St [],.int .u32 0,.slice none 0 0],[1,1,1,1]⟩
def ti61:TI:=⟨.sl 9,.slice 9,1,24,[.slice none 0 0],[]⟩
def qqy:ti61.ok Tryz.prog 61:=⟨Tryz.underlying61,tB9⟩
def ti62:TI:=⟨.sl 97,.slice 97,1,24,[.slice none 0 0],[]⟩
def ti63:TI:=⟨.st [0,1,2,3],.struct #[fD9 "Name" 9 0 "" 0,fD9 "Parameters" 61 1 "" 16,fD9 "Locals" 61 2 "" 40,fD9 "Body" 62 3 "" 64],4,88,[St [],.slice none 0 0,.slice none 0 0,.slice none 0 0],[1,1,1,1]⟩
def ti65:TI:=⟨.st [0,2],.struct #[fD9 "program" 25 0 "scriptorium/interp" 0,fD9 "function" 64 2 "scriptorium/interp" 48],6,136,[.slice none 0 0,.slice none 0 0,St [],.slice none 0 0,.slice none 0 0,.slice none 0 0],[2,4]⟩
def ti67:TI:=⟨.sl 133,.slice 133,1,24,[.slice none 0 0],[]⟩
def ti69:TI:=⟨.st [0,1],.struct #[fD9 "size" 3 0 "scriptorium/interp" 0,fD9 "body" 67 1 "scriptorium/interp" 8],2,32,[.int .i64 0,.slice none 0 0],[1,1]⟩
def ti72:TI:=⟨.ar 5 34,.array 5 34,5,20,[.int .u32 0,.int .u32 0,.int .u32 0,.int .u32 0,.int .u32 0],[]⟩
def ti73:TI:=⟨.st [0,1,6,7,8,9],.struct #[fD9 "Cells" 28 0 "" 0,fD9 "Regs" 72 1 "" 24,fD9 "Input" 26 6 "" 48,fD9 "Output" 26 7 "" 72,fD9 "Stop" 3 8 "" 96,fD9 "Code" 34 9 "" 104],10,112,[.slice none 0 0,.int .u32 0,.int .u32 0,.int .u32 0,.int .u32 0,.int .u32 0,.slice none 0 0,.slice none 0 0,.int .i64 0,.int .u32 0],[1,5,1,1,1,1]⟩
def ti79:TI:=⟨.st [0,1],.struct #[fD9 "Kind" 3 0 "" 0,fD9 "Value" 34 1 "" 8],2,16,[.int .i64 0,.int .u32 0],[1,1]⟩
def ti82:TI:=⟨.sl 88,.slice 88,1,24,[.slice none 0 0],[]⟩
def ti83:TI:=⟨.st [0,1,2,3],.struct #[fD9 "Name" 9 0 "" 0,fD9 "Code" 34 1 "" 16,fD9 "Operand" 4 2 "" 20,fD9 "Actions" 82 3 "" 24],4,48,[St [],.int .u32 0,.bool false,.slice none 0 0],[1,1,1,1]⟩
def ti86:TI:=⟨.sl 80,.slice 80,1,24,[.slice none 0 0],[]⟩
def ti87:TI:=⟨.st [0,1,2,4],.struct #[fD9 "Kind" 3 0 "" 0,fD9 "To" 3 1 "" 8,fD9 "X" 80 2 "" 16,fD9 "Y" 80 4 "" 32],6,48,[.int .i64 0,.int .i64 0,.int .i64 0,.int .u32 0,.int .i64 0,.int .u32 0],[1,1,2,2]⟩
def ti92:TI:=⟨.sl 94,.slice 94,1,24,[.slice none 0 0],[]⟩
def ti93:TI:=⟨.st [0,1,2,3,4],.struct #[fD9 "Kind" 3 0 "" 0,fD9 "Op" 3 1 "" 8,fD9 "Number" 34 2 "" 16,fD9 "Name" 9 3 "" 24,fD9 "Args" 92 4 "" 40],5,64,[.int .i64 0,.int .i64 0,.int .u32 0,St [],.slice none 0 0],[1,1,1,1,1]⟩
def ti96:TI:=⟨.st [0,1,2,3,4],.struct #[fD9 "Kind" 3 0 "" 0,fD9 "Name" 9 1 "" 8,fD9 "Exprs" 92 2 "" 24,fD9 "Body" 62 3 "" 48,fD9 "Else" 62 4 "" 72],5,96,[.int .i64 0,St [],.slice none 0 0,.slice none 0 0,.slice none 0 0],[1,1,1,1,1]⟩
def ti98:TI:=⟨.sc,.pointer 106,1,8,[.pointer none],[]⟩
def ti99:TI:=⟨.sc,.map 9 3,1,8,[.map none],[]⟩
def ti100:TI:=⟨.sc,.pointer 102,1,8,[.pointer none],[]⟩
def ti101:TI:=⟨.st [0,1],.struct #[fD9 "addr" 100 0 "strings" 0,fD9 "buf" 26 1 "strings" 8],2,32,[.pointer none,.slice none 0 0],[1,1]⟩
def ti103:TI:=⟨.st [0,2],.struct #[{ name := "Builder", type:=102,offset:=0,embedded:=true,tag := "", pkgPath := "", byteOffset:=0 },fD9 "labels" 3 2 "scriptorium/compile" 32],3,40,[.pointer none,.slice none 0 0,.int .i64 0],[2,1]⟩
def ti105:TI:=⟨.st [0,3,5,6,7,8,9,10,11],.struct #[{ name := "writer", type:=104,offset:=0,embedded:=true,tag := "", pkgPath := "scriptorium/compile", byteOffset:=0 },fD9 "program" 25 3 "scriptorium/compile" 40,fD9 "globals" 99 5 "scriptorium/compile" 88,fD9 "functions" 99 6 "scriptorium/compile" 96,fD9 "slots" 99 7 "scriptorium/compile" 104,fD9 "size" 3 8 "scriptorium/compile" 112,fD9 "locals" 3 9 "scriptorium/compile" 120,fD9 "waiting" 3 10 "scriptorium/compile" 128,fD9 "loops" 61 11 "scriptorium/compile" 136],12,160,[.pointer none,.slice none 0 0,.int .i64 0,.slice none 0 0,.slice none 0 0,.map none,.map none,.map none,.int .i64 0,.int .i64 0,.int .i64 0,.slice none 0 0],[3,2,1,1,1,1,1,1,1]⟩
def ti113:TI:=⟨.sc,.pointer 120,1,8,[.pointer none],[]⟩
def ti116:TI:=⟨.sl 211,.slice 211,1,24,[.slice none 0 0],[]⟩
def ti117:TI:=⟨.sc,.map 9 34,1,8,[.map none],[]⟩
def ti118:TI:=⟨.sl 164,.slice 164,1,24,[.slice none 0 0],[]⟩
def ti119:TI:=⟨.st [0,2,3,4,5],.struct #[fD9 "table" 42 0 "scriptorium/asm" 0,fD9 "words" 28 2 "scriptorium/asm" 32,fD9 "labels" 116 3 "scriptorium/asm" 56,fD9 "addresses" 117 4 "scriptorium/asm" 80,fD9 "references" 118 5 "scriptorium/asm" 88],6,112,[.int .i64 0,.slice none 0 0,.slice none 0 0,.slice none 0 0,.map none,.slice none 0 0],[2,1,1,1,1]⟩
def ti121:TI:=⟨.sc,.map 9 176,1,8,[.map none],[]⟩
def ti122:TI:=⟨.st [0,2],.struct #[fD9 "program" 25 0 "scriptorium/check" 0,fD9 "globals" 121 2 "scriptorium/check" 48],3,56,[.slice none 0 0,.slice none 0 0,.map none],[2,1]⟩
def ti127:TI:=⟨.sc,.pointer 97,1,8,[.pointer none],[]⟩
def ti128:TI:=⟨.sc,.pointer 94,1,8,[.pointer none],[]⟩
def ti129:TI:=⟨.st [0,1,2],.struct #[fD9 "statement" 127 0 "scriptorium/check" 0,fD9 "expr" 128 1 "scriptorium/check" 8,fD9 "loops" 3 2 "scriptorium/check" 16],3,24,[.pointer none,.pointer none,.int .i64 0],[1,1,1]⟩
def ti133:TI:=⟨.sc,.func #[54] #[3] false,1,8,[.nilFunc],[]⟩
def ti143:TI:=⟨.sc,.pointer 148,1,8,[.pointer none],[]⟩
def ti145:TI:=⟨.ar 256 3,.array 256 3,256,2048,(List.replicate 256 (.int .i64 0)),[]⟩
def ti146:TI:=⟨.sc,.map 34 3,1,8,[.map none],[]⟩
def ti147:TI:=⟨.st [0,10,11,267,268],.struct #[{ name := "State", type:=74,offset:=0,embedded:=true,tag := "", pkgPath := "", byteOffset:=0 },fD9 "instructions" 40 10 "scriptorium/tiny" 112,fD9 "small" 145 11 "scriptorium/tiny" 136,fD9 "others" 146 267 "scriptorium/tiny" 2184,fD9 "operand" 34 268 "scriptorium/tiny" 2192],269,2200,([.slice none 0 0,.int .u32 0,.int .u32 0,.int .u32 0,.int .u32 0,.int .u32 0,.slice none 0 0,.slice none 0 0,.int .i64 0,.int .u32 0,.slice none 0 0]++(List.replicate 256 (.int .i64 0)++[.map none,.int .u32 0])),[10,1,256,1,1]⟩
def ti151:TI:=⟨.sc,.pointer 104,1,8,[.pointer none],[]⟩
def ti158:TI:=⟨.sc,.pointer 5,1,8,[.pointer none],[]⟩
def ti161:TI:=⟨.st [0,1],.struct #[fD9 "name" 9 0 "scriptorium/asm" 0,fD9 "number" 34 1 "scriptorium/asm" 16],2,24,[St [],.int .u32 0],[1,1]⟩
def ti163:TI:=⟨.st [0,1,2],.struct #[fD9 "line" 3 0 "scriptorium/asm" 0,fD9 "at" 3 1 "scriptorium/asm" 8,fD9 "operand" 162 2 "scriptorium/asm" 16],4,40,[.int .i64 0,.int .i64 0,St [],.int .u32 0],[1,1,2]⟩
def ti167:TI:=⟨.sc,.pointer 169,1,8,[.pointer none],[]⟩
def ti168:TI:=⟨.st [0],.struct #[fD9 "nodes" 3 0 "scriptorium/syntax" 0],1,8,[.int .i64 0],[1]⟩
def ti175:TI:=⟨.st [0,1],.struct #[fD9 "Kind" 3 0 "" 0,fD9 "Index" 3 1 "" 8],2,16,[.int .i64 0,.int .i64 0],[1,1]⟩
def qmB:ti175.ok Tryz.prog 176:=⟨Tryz.underlying176,tB9⟩
def ti179:TI:=⟨.st [0,1,2],.struct #[fD9 "name" 9 0 "scriptorium/check" 0,fD9 "kind" 3 1 "scriptorium/check" 16,fD9 "arguments" 3 2 "scriptorium/check" 24],3,32,[St [],.int .i64 0,.int .i64 0],[1,1,1]⟩
def ti185:TI:=⟨.sl 189,.slice 189,1,24,[.slice none 0 0],[]⟩
def ti189:TI:=⟨.sc,.func #[54] #[34] false,1,8,[.nilFunc],[]⟩
def ti199:TI:=⟨.sc,.pointer 84,1,8,[.pointer none],[]⟩
def ti203:TI:=⟨.sc,.pointer 88,1,8,[.pointer none],[]⟩
def ti206:TI:=⟨.st [0,1,2,3],.struct #[fD9 "label" 9 0 "scriptorium/asm" 0,fD9 "operation" 9 1 "scriptorium/asm" 16,fD9 "has" 4 2 "scriptorium/asm" 32,fD9 "operand" 162 3 "scriptorium/asm" 40],5,64,[St [],St [],.bool false,St [],.int .u32 0],[1,1,1,2]⟩
def ti210:TI:=⟨.st [0,1],.struct #[fD9 "Name" 9 0 "" 0,fD9 "Address" 34 1 "" 16],2,24,[St [],.int .u32 0],[1,1]⟩
def ti217:TI:=⟨.sc,.pointer 219,1,8,[.pointer none],[]⟩
def ti218:TI:=⟨.st [0],.struct #[{ name := "Builder", type:=102,offset:=0,embedded:=true,tag := "", pkgPath := "", byteOffset:=0 }],2,32,[.pointer none,.slice none 0 0],[2]⟩
def ti225:TI:=⟨.sl 61,.slice 61,1,24,[.slice none 0 0],[]⟩
def ti257:TI:=⟨.sl 62,.slice 62,1,24,[.slice none 0 0],[]⟩
def ti271:TI:=⟨.ar 24 5,.array 24 5,24,24,(List.replicate 24 (.int .u8 0)),[]⟩
def ti279:TI:=⟨.sl 281,.slice 281,1,24,[.slice none 0 0],[]⟩
def ti280:TI:=⟨.st [0,1],.struct #[fD9 "start" 3 0 "strings" 0,fD9 "end" 3 1 "strings" 8],2,16,[.int .i64 0,.int .i64 0],[1,1]⟩
def ti294:TI:=⟨.ar 20 231,.array 20 231,20,160,(List.replicate 20 (.int .u64 0)),[]⟩
def ti295:TI:=⟨.ar 65 5,.array 65 5,65,65,(List.replicate 65 (.int .u8 0)),[]⟩
def ti303:TI:=⟨.ar 256 5,.array 256 5,256,256,(List.replicate 256 (.int .u8 0)),[]⟩
def ti309:TI:=⟨.sc,.map 3 61,1,8,[.map none],[]⟩
def ti310:TI:=⟨.st [0,1],.struct #[fD9 "lo" 5 0 "unicode/utf8" 0,fD9 "hi" 5 1 "unicode/utf8" 1],2,2,[.int .u8 0,.int .u8 0],[1,1]⟩
def ti312:TI:=⟨.ar 16 311,.array 16 311,32,32,(List.replicate 32 (.int .u8 0)),[]⟩
def ti318:TI:=⟨.sc,.pointer 332,1,8,[.pointer none],[]⟩
def ti322:TI:=⟨.ar 32 5,.array 32 5,32,32,(List.replicate 32 (.int .u8 0)),[]⟩
def ti323:TI:=⟨.ar 64 5,.array 64 5,64,64,(List.replicate 64 (.int .u8 0)),[]⟩
def ti326:TI:=⟨.sc,.pointer 342,1,8,[.pointer none],[]⟩
def ti329:TI:=⟨.sl 335,.slice 335,1,24,[.slice none 0 0],[]⟩
def ti330:TI:=⟨.sl 338,.slice 338,1,24,[.slice none 0 0],[]⟩
def ti331:TI:=⟨.st [0,1,2],.struct #[fD9 "R16" 329 0 "" 0,fD9 "R32" 330 1 "" 24,fD9 "LatinOffset" 3 2 "" 48],3,56,[.slice none 0 0,.slice none 0 0,.int .i64 0],[1,1,1]⟩
def ti333:TI:=⟨.sc,.int .u16,1,2,[.int .u16 0],[]⟩
def ti334:TI:=⟨.st [0,1,2],.struct #[fD9 "Lo" 333 0 "" 0,fD9 "Hi" 333 1 "" 2,fD9 "Stride" 333 2 "" 4],3,6,[.int .u16 0,.int .u16 0,.int .u16 0],[1,1,1]⟩
def ti337:TI:=⟨.st [0,1,2],.struct #[fD9 "Lo" 34 0 "" 0,fD9 "Hi" 34 1 "" 4,fD9 "Stride" 34 2 "" 8],3,12,[.int .u32 0,.int .u32 0,.int .u32 0],[1,1,1]⟩
def ti341:TI:=⟨.st [0,1,2],.struct #[fD9 "Func" 9 0 "" 0,fD9 "Num" 9 1 "" 16,fD9 "Err" 153 2 "" 32],3,48,[St [],St [],.nilIface],[1,1,1]⟩
def ti344:TI:=⟨.sc,.pointer 335,1,8,[.pointer none],[]⟩
def ti345:TI:=⟨.sc,.pointer 338,1,8,[.pointer none],[]⟩
def ti346:TI:=⟨.sc,.pointer 348,1,8,[.pointer none],[]⟩
def ti347:TI:=⟨.st [0],.struct #[fD9 "s" 9 0 "errors" 0],1,16,[St []],[1]⟩
def ti349:TI:=⟨.st [0,1,2,3],.struct #[fD9 "_interface" 17 0 "runtime" 0,fD9 "concrete" 17 1 "runtime" 8,fD9 "asserted" 17 2 "runtime" 16,fD9 "missingMethod" 9 3 "runtime" 24],4,40,[.pointer none,.pointer none,.pointer none,St []],[1,1,1,1]⟩
def ti359:TI:=⟨.st [0,1,2,3,4,5,6,7,8,9,10],.struct #[fD9 "Size_" 12 0 "" 0,fD9 "PtrBytes" 12 1 "" 8,fD9 "Hash" 34 2 "" 16,fD9 "TFlag" 354 3 "" 20,fD9 "Align_" 5 4 "" 21,fD9 "FieldAlign_" 5 5 "" 22,fD9 "Kind_" 355 6 "" 23,fD9 "Equal" 356 7 "" 24,fD9 "GCData" 158 8 "" 32,fD9 "Str" 357 9 "" 40,fD9 "PtrToThis" 358 10 "" 44],11,48,[.int .u64 0,.int .u64 0,.int .u32 0,.int .u8 0,.int .u8 0,.int .u8 0,.int .u8 0,.nilFunc,.pointer none,.int .i32 0,.int .i32 0],[1,1,1,1,1,1,1,1,1,1,1]⟩
def TT:qaM:=[(2,ti2),(3,ti2),(4,ti4),(5,ti5),(6,ti5),(7,ti7),(8,ti7),(9,ti9),(10,ti9),(11,ti9),(12,ti12),(13,ti13),(14,ti13),(15,ti15),(16,ti16),(17,ti17),(18,ti18),(19,ti18),(21,ti21),(22,ti22),(23,ti23),(24,ti24),(25,ti24),(26,ti26),(28,ti28),(29,ti29),(30,ti29),(34,ti34),(35,ti35),(36,ti35),(40,ti40),(41,ti41),(42,ti41),(54,ti54),(55,ti55),(56,ti56),(57,ti57),(58,ti57),(59,ti59),(60,ti59),(61,ti61),(62,ti62),(63,ti63),(64,ti63),(65,ti65),(66,ti65),(67,ti67),(69,ti69),(70,ti69),(72,ti72),(73,ti73),(74,ti73),(79,ti79),(80,ti79),(82,ti82),(83,ti83),(84,ti83),(86,ti86),(87,ti87),(88,ti87),(92,ti92),(93,ti93),(94,ti93),(96,ti96),(97,ti96),(98,ti98),(99,ti99),(100,ti100),(101,ti101),(102,ti101),(103,ti103),(104,ti103),(105,ti105),(106,ti105),(113,ti113),(116,ti116),(117,ti117),(118,ti118),(119,ti119),(120,ti119),(121,ti121),(122,ti122),(123,ti122),(127,ti127),(128,ti128),(129,ti129),(130,ti129),(133,ti133),(143,ti143),(145,ti145),(146,ti146),(147,ti147),(148,ti147),(151,ti151),(158,ti158),(161,ti161),(162,ti161),(163,ti163),(164,ti163),(167,ti167),(168,ti168),(169,ti168),(175,ti175),(176,ti175),(179,ti179),(180,ti179),(185,ti185),(189,ti189),(199,ti199),(203,ti203),(206,ti206),(207,ti206),(210,ti210),(211,ti210),(217,ti217),(218,ti218),(219,ti218),(225,ti225),(231,ti12),(257,ti257),(271,ti271),(279,ti279),(280,ti280),(281,ti280),(294,ti294),(295,ti295),(296,ti12),(303,ti303),(309,ti309),(310,ti310),(311,ti310),(312,ti312),(318,ti318),(322,ti322),(323,ti323),(324,ti2),(326,ti326),(329,ti329),(330,ti330),(331,ti331),(332,ti331),(333,ti333),(334,ti334),(335,ti334),(337,ti337),(338,ti337),(341,ti341),(342,ti341),(344,ti344),(345,ti345),(346,ti346),(347,ti347),(348,ti347),(349,ti349),(350,ti349),(354,ti5),(355,ti5),(357,ti21),(358,ti21),(359,ti359),(360,ti359)]
def tC{P:Program}{t:Nat}{x:TI}{r:qaM}(h:P.underlying t=some x.desc)(k:TabOK P r)(b:x.kind.fits x.desc∧(P.info? t).map (fun i=>(i.size,i.bytes,i.zero))=some (x.size,x.bytes,some x.zero)∧x.zeros.length=x.size∧x.zeros.all (·.oneCell')=true∧0 < x.size∧(qeg x.kind=true→x.size=1) ∧qoS P x.desc=true∧qmW P x.desc=x.fsz:=by refine ⟨by first|trivial|rfl,by kernel_rfl,by first|rfl|kernel_rfl,by first|rfl|kernel_rfl,by decide,by first|exact fun _=>rfl|(intro h;cases h),by kernel_rfl,by kernel_rfl⟩):TabOK P ((t,x)::r):=.cons ⟨h,b⟩ k
def qao:TabOK Tryz.prog TT:=tC Tryz.underlying2<|tC Tryz.underlying3<|tC Tryz.underlying4<|tC Tryz.underlying5<|tC Tryz.underlying6<|tC Tryz.underlying7<|tC Tryz.underlying8<|tC Tryz.underlying9<|tC Tryz.underlying10<|tC Tryz.underlying11<|tC Tryz.underlying12<|tC Tryz.underlying13<|tC Tryz.underlying14<|tC Tryz.underlying15<|tC Tryz.underlying16<|tC Tryz.underlying17<|tC Tryz.underlying18<|tC Tryz.underlying19<|tC Tryz.underlying21<|tC Tryz.underlying22<|tC Tryz.underlying23<|tC Tryz.underlying24<|tC Tryz.underlying25<|tC Tryz.underlying26<|tC Tryz.underlying28<|tC Tryz.underlying29<|tC Tryz.underlying30<|tC Tryz.underlying34<|tC Tryz.underlying35<|tC Tryz.underlying36<|tC Tryz.underlying40<|tC Tryz.underlying41<|tC Tryz.underlying42<|tC Tryz.underlying54<|tC Tryz.underlying55<|tC Tryz.underlying56<|tC Tryz.underlying57<|tC Tryz.underlying58<|tC Tryz.underlying59<|tC Tryz.underlying60<|tC Tryz.underlying61<|tC Tryz.underlying62<|tC Tryz.underlying63<|tC Tryz.underlying64<|tC Tryz.underlying65<|tC Tryz.underlying66<|tC Tryz.underlying67<|tC Tryz.underlying69<|tC Tryz.underlying70<|tC Tryz.underlying72<|tC Tryz.underlying73<|tC Tryz.underlying74<|tC Tryz.underlying79<|tC Tryz.underlying80<|tC Tryz.underlying82<|tC Tryz.underlying83<|tC Tryz.underlying84<|tC Tryz.underlying86<|tC Tryz.underlying87<|tC Tryz.underlying88<|tC Tryz.underlying92<|tC Tryz.underlying93<|tC Tryz.underlying94<|tC Tryz.underlying96<|tC Tryz.underlying97<|tC Tryz.underlying98<|tC Tryz.underlying99<|tC Tryz.underlying100<|tC Tryz.underlying101<|tC Tryz.underlying102<|tC Tryz.underlying103<|tC Tryz.underlying104<|tC Tryz.underlying105<|tC Tryz.underlying106<|tC Tryz.underlying113<|tC Tryz.underlying116<|tC Tryz.underlying117<|tC Tryz.underlying118<|tC Tryz.underlying119<|tC Tryz.underlying120<|tC Tryz.underlying121<|tC Tryz.underlying122<|tC Tryz.underlying123<|tC Tryz.underlying127<|tC Tryz.underlying128<|tC Tryz.underlying129<|tC Tryz.underlying130<|tC Tryz.underlying133<|tC Tryz.underlying143<|tC Tryz.underlying145<|tC Tryz.underlying146<|tC Tryz.underlying147<|tC Tryz.underlying148<|tC Tryz.underlying151<|tC Tryz.underlying158<|tC Tryz.underlying161<|tC Tryz.underlying162<|tC Tryz.underlying163<|tC Tryz.underlying164<|tC Tryz.underlying167<|tC Tryz.underlying168<|tC Tryz.underlying169<|tC Tryz.underlying175<|tC Tryz.underlying176<|tC Tryz.underlying179<|tC Tryz.underlying180<|tC Tryz.underlying185<|tC Tryz.underlying189<|tC Tryz.underlying199<|tC Tryz.underlying203<|tC Tryz.underlying206<|tC Tryz.underlying207<|tC Tryz.underlying210<|tC Tryz.underlying211<|tC Tryz.underlying217<|tC Tryz.underlying218<|tC Tryz.underlying219<|tC Tryz.underlying225<|tC Tryz.underlying231<|tC Tryz.underlying257<|tC Tryz.underlying271<|tC Tryz.underlying279<|tC Tryz.underlying280<|tC Tryz.underlying281<|tC Tryz.underlying294<|tC Tryz.underlying295<|tC Tryz.underlying296<|tC Tryz.underlying303<|tC Tryz.underlying309<|tC Tryz.underlying310<|tC Tryz.underlying311<|tC Tryz.underlying312<|tC Tryz.underlying318<|tC Tryz.underlying322<|tC Tryz.underlying323<|tC Tryz.underlying324<|tC Tryz.underlying326<|tC Tryz.underlying329<|tC Tryz.underlying330<|tC Tryz.underlying331<|tC Tryz.underlying332<|tC Tryz.underlying333<|tC Tryz.underlying334<|tC Tryz.underlying335<|tC Tryz.underlying337<|tC Tryz.underlying338<|tC Tryz.underlying341<|tC Tryz.underlying342<|tC Tryz.underlying344<|tC Tryz.underlying345<|tC Tryz.underlying346<|tC Tryz.underlying347<|tC Tryz.underlying348<|tC Tryz.underlying349<|tC Tryz.underlying350<|tC Tryz.underlying354<|tC Tryz.underlying355<|tC Tryz.underlying357<|tC Tryz.underlying358<|tC Tryz.underlying359<|tC Tryz.underlying360<|TabOK.nil
def qab:Tryz.prog.follows .mixedOrders=true:=by kernel_rfl
end Go.FL
namespace Go.Proofs.YtlfiplbamnpgoaaGreatDoor
open Go Go.FL
variable{α:Type}{D n c k j:Nat}{s s':World}{A:Option Addr}{l:List UInt8}
structure Tm where
 kind:Int
 val:Int
 deriving DecidableEq
structure Ac where
 kind:Int
 tgt:Int
 x:Tm
 y:Tm
 deriving DecidableEq
structure Ins where
 name:List UInt8
 code:Int
 operand:Bool
 acts:List Ac
 deriving DecidableEq
structure Tab where
 cells:Int
 ins:List Ins
 deriving DecidableEq
def Sl(sz:Nat)(R:World→α→List Value→Prop)(s:World)(A:Option Addr)(n c:Nat)(l:List α):Prop:=
 n=l.length∧n≤c∧c≤9223372036854775807∧∀ i x,l[i]?=some x→∃ b off cs,A=some ⟨b,off,none⟩∧CellsAt s b (off+i * sz) cs∧cs.length=sz∧R s x cs
def Sl.le{sz:Nat}{R:World→α→List Value→Prop}{l:List α}(hR:∀ x cs,R s x cs→R s' x cs)(h:Sl sz R s A n c l)(hl:Le D s s'):Sl sz R s' A n c l:=
 ⟨h.1,h.2.1,h.2.2.1,fun i x hi=>by
  obtain ⟨b,off,cs,h1,h2,h3,h4⟩:=h.2.2.2 i x hi;exact ⟨b,off,cs,h1,h2.le hl,h3,hR x cs h4⟩⟩
def U32(x:Int):Prop:=0≤x∧x < 4294967296
def Ac.cs(a:Ac):List Value:=[.int .i64 a.kind,.int .i64 a.tgt,.int .i64 a.x.kind,.int .u32 a.x.val,.int .i64 a.y.kind,.int .u32 a.y.val]
def Acs(s:World)(A:Option Addr)(n c:Nat)(l:List Ac):Prop:=Sl 6 (fun _ a cs=>cs=a.cs∧U32 a.x.val∧U32 a.y.val) s A n c l
def Acs.le{l:List Ac}(h:Acs s A n c l)(hl:Le D s s'):Acs s' A n c l:=Sl.le (fun _ _ h=>h) h hl
def InsR(s:World)(x:Ins)(cs:List Value):Prop:=∃ A n c,cs=[St x.name,.int .u32 x.code,.bool x.operand,.slice A n c]∧Acs s A n c x.acts∧x.name.length≤9223372036854775807∧U32 x.code
def Inss(s:World)(A:Option Addr)(n c:Nat)(l:List Ins):Prop:=Sl 4 InsR s A n c l
def InsR.le{x:Ins}{cs:List Value}(h:InsR s x cs)(hl:Le D s s'):InsR s' x cs:=by
 obtain ⟨A,n,c,h1,h2,h3⟩:=h;exact ⟨A,n,c,h1,h2.le hl,h3⟩
def Inss.le{l:List Ins}(h:Inss s A n c l)(hl:Le D s s'):Inss s' A n c l:=Sl.le (fun _ _ h=>h.le hl) h hl
def Acs.at_{l:List Ac}(h:Acs s A n c l)(hk:k < n):∃ b off a,A=some ⟨b,off,none⟩∧l[k]?=some a ∧
  CellsAt s b (off+k * 6) [.int .i64 a.kind,.int .i64 a.tgt,.int .i64 a.x.kind,.int .u32 a.x.val,.int .i64 a.y.kind,.int .u32 a.y.val]∧U32 a.x.val∧U32 a.y.val:=by
 have hl:k < l.length:=by rw [← h.1];exact hk
 obtain ⟨b,off,cs,h1,h2,_,rfl,h5⟩:=h.2.2.2 k l[k] (List.getElem?_eq_getElem hl);exact ⟨b,off,l[k],h1,List.getElem?_eq_getElem hl,h2,h5⟩
def Inss.at_{l:List Ins}(h:Inss s A n c l)(hk:k < n):∃ b off x A' n' c',A=some ⟨b,off,none⟩∧l[k]?=some x ∧
  CellsAt s b (off+k * 4) [St x.name,.int .u32 x.code,.bool x.operand,.slice A' n' c']∧Acs s A' n' c' x.acts∧x.name.length≤9223372036854775807∧U32 x.code:=by
 have hl:k < l.length:=by rw [← h.1];exact hk
 obtain ⟨b,off,cs,h1,h2,_,A',n',c',rfl,h5,h6⟩:=h.2.2.2 k l[k] (List.getElem?_eq_getElem hl);exact ⟨b,off,l[k],A',n',c',h1,List.getElem?_eq_getElem hl,h2,h5,h6⟩
def Sl.take{sz:Nat}{R:World→α→List Value→Prop}{l:List α}(h:Sl sz R s A n c l)(hk:k < n):Sl sz R s A k c (l.take k):=
 ⟨by have:=h.1;simp;omega,by have:=h.2.1;omega,h.2.2.1,fun i x hi=>h.2.2.2 i x (by
  rw [List.getElem?_take] at hi;split at hi
  · exact hi
  · cases hi)⟩
def Inss.take{l:List Ins}(h:Inss s A n c l)(hk:k < n):Inss s A k c (l.take k):=Sl.take h hk
def Wds(s:World)(A:Option Addr)(n c:Nat)(l:List Int):Prop:=Sl 1 (fun _ x cs=>cs=[.int .u32 x]∧U32 x) s A n c l
def Bts(s:World)(A:Option Addr)(n c:Nat)(l:List UInt8):Prop:=Sl 1 (fun _ x cs=>cs=[.int .u8 (x.toNat:Int)]) s A n c l
def Wds.le{l:List Int}(h:Wds s A n c l)(hl:Le D s s'):Wds s' A n c l:=Sl.le (fun _ _ h=>h) h hl
def Bts.le(h:Bts s A n c l)(hl:Le D s s'):Bts s' A n c l:=Sl.le (fun _ _ h=>h) h hl
def Ez47{p:Prop} (h:p:=by
 have hl:k < l.length:=by rw [← h.1];exact hk
 obtain ⟨b,off,cs,h1,h2,_,rfl,h4⟩:=h.2.2.2 k l[k] (List.getElem?_eq_getElem hl);exact ⟨b,off,l[k],h1,List.getElem?_eq_getElem hl,by simpa using h2,h4⟩):p:=h
def Wds.at_{l:List Int}(h:Wds s A n c l)(hk:k < n):∃ b off x,A=some ⟨b,off,none⟩∧l[k]?=some x∧CellsAt s b (off+k) [.int .u32 x]∧U32 x:=by
 exact Ez47
def Bts.at_(h:Bts s A n c l)(hk:k < n):∃ b off x,A=some ⟨b,off,none⟩∧l[k]?=some x∧CellsAt s b (off+k) [.int .u8 (x.toNat:Int)]:=by
 have hl:k < l.length:=by rw [← h.1];exact hk
 obtain ⟨b,off,cs,h1,h2,_,rfl⟩:=h.2.2.2 k l[k] (List.getElem?_eq_getElem hl);exact ⟨b,off,l[k],h1,List.getElem?_eq_getElem hl,by simpa using h2⟩
structure Mst where
 cells:List Int
 r0:Int
 r1:Int
 r2:Int
 r3:Int
 r4:Int
 input:List UInt8
 output:List UInt8
 stop:Int
 code:Int
 deriving DecidableEq
def qcw{p:Nat→α→Prop}{l:List α}{a:α}(h:∀ i b,i < k→l[i]?=some b→p i b)(hk:l[k]?=some a)(ha:p k a):∀ i b,i < k+1→l[i]?=some b→p i b:=by grind
def qiH(c:UInt8):Bool:=decide (97≤c.toNat) && decide (c.toNat≤122)
def qhF(c:UInt8):Bool:=decide (48≤c.toNat) && decide (c.toNat≤57)
def qhT(i:Nat)(c:UInt8):Bool:=qiH c || (qhF c && decide (i≠0))
def qa1(i:Nat):List UInt8→Bool
 | []=>true
 | c::r=>qhT i c && qa1 (i+1) r
def qfh(l:List UInt8)(i:Nat):qa1 i l=true↔∀ j c,l[j]?=some c→qhT (i+j) c=true:=by
  induction l generalizing i with
  | nil=>simp [qa1]
  | cons c r ih=>
    simp only [qa1,Bool.and_eq_true,ih];constructor
    · rintro ⟨h1,h2⟩ j d hj
      cases j with
      | zero=>simp at hj;subst hj;exact h1
      | succ j=>simp at hj;have:=h2 j d hj;rwa [Nat.add_assoc,Nat.add_comm 1 j] at this
    · intro h
      exact ⟨by simpa using h 0 c (by simp),fun j d hj=>by have:=h (j+1) d (by simpa using hj);rwa [Nat.add_assoc,Nat.add_comm 1 j]⟩
def qoA(h:∀ i c,i < l.length→l[i]?=some c→qhT i c=true):qa1 0 l=true:=
 (qfh l 0).2 fun j c hj=>by
  have hl:j < l.length:=(List.getElem?_eq_some_iff.1 hj).1;simpa using h j c hl hj
def qoC{c:UInt8}(hk:l[k]?=some c)(h:qhT k c=false):qa1 0 l=false:=by
 cases hb:qa1 0 l with
 | false=>rfl
 | true=>have:=(qfh l 0).1 hb k c hk;simp at this;rw [this] at h;cases h
def qa6(l:List UInt8):Bool:=decide (l≠[]) && decide (l.length≤6) && qa1 0 l
def qnd(l:List UInt8):Bool:=qa6 l && decide (l≠[119,111,114,100]) && decide (l≠[115,112,97,99,101])
def qdP:List Int→Int
 | []=>0
 | c::r=>if c≠0 then c else qdP r
def qk7{f:α→Int}{l:List α}{a:α}(h:∀ i b,i < k→l[i]?=some b→f b=0)(hk:l[k]?=some a)(ha:f a≠0):qdP (l.map f)=f a:=by
 induction l generalizing k with
 | nil=>simp at hk
 | cons b r ih=>
  cases k with
  | zero=>simp at hk;subst hk;simp [qdP,ha]
  | succ k=>
   have h0:=h 0 b O (by simp);simp only [List.map_cons,qdP,h0,ne_eq,not_true,if_false];exact ih (k:=k) (fun i c hi hc=>h (i+1) c O Q18) (by simpa using hk)
def qjS{f:α→Int}{l:List α}(h:∀ i b,i < l.length→l[i]?=some b→f b=0):qdP (l.map f)=0:=by
 induction l with
 | nil=>rfl
 | cons b r ih=>
  have h0:=h 0 b (by simp) (by simp);simp only [List.map_cons,qdP,h0,ne_eq,not_true,if_false];exact ih fun i c hi hc=>h (i+1) c Q7 Q18
def qcc(f:Nat→Int):Nat→Nat→Int×Int
 | 0,_=>(0,0)
 | m+1,k=>if f k≠0 then (f k,(k:Int)) else qcc f m (k+1)
def qf7{f:Nat→Int}{m:Nat}(h:∀ i,j≤i→i < k→f i=0)(hj:j≤k)(hk:f k≠0)(hm:k < j+m):qcc f m j=(f k,(k:Int)):=by
  induction m generalizing j with
  | zero=>omega
  | succ m ih=>
    by_cases he:j=k
    · subst he;simp [qcc,hk]
    · have h0:=h j (Nat.le_refl _) O
      simp only [qcc,h0,ne_eq,not_true,if_false];exact ih (fun i h1 h2=>h i O h2) O O
def qiz{f:Nat→Int}{m:Nat}(h:∀ i,j≤i→i < j+m→f i=0):qcc f m j=(0,0):=by
 induction m generalizing j with
 | zero=>rfl
 | succ m ih=>
  have h0:=h j (Nat.le_refl _) O;simp only [qcc,h0,ne_eq,not_true,if_false];exact ih fun i h1 h2=>h i O O
def qAb(k:Int):Bool:=!(decide (k=14) || decide (k=18) || decide (k=16) || decide (k=17))
def qAc(k:Int):Bool:=!(decide (k=15))
def qAd(k:Int):Bool:=!(decide (k=16) || decide (k=17) || decide (k=15) || decide (k=0) || decide (k=13))
def qnt(t:Tm)(u o:Bool):Bool:=if u then (decide (t.kind=0) || decide (t.kind=1) && decide (t.val≤4) || decide (t.kind=2) && decide (t.val=0) && o) else decide (t.kind=0) && decide (t.val=0)
def qeW(a:Ac)(o:Bool):Int:=
 if a.kind < 0∨20≤a.kind then 5 else if a.tgt < 0∨4 < a.tgt then 4
 else if (!qAb a.kind && decide (a.tgt≠0)) || !qnt a.x (qAc a.kind) o || !qnt a.y (qAd a.kind) o then 6 else 0
def qcy(x:Ins):Int:=if qnd x.name=false then 7 else if 8 < x.acts.length then 2 else qdP (x.acts.map fun a=>qeW a x.operand)
def qf4(x y:Ins):Bool:=decide (x.name=y.name) || decide (x.code=y.code)
def qaN{α:Type}(p:α→Bool):List α→Nat→Int
 | [],_=>-1
 | x::r,k=>if p x then (k:Int) else qaN p r (k+1)
def qee{p:α→Bool}{l:List α}{a:α}(h:∀ i b,i < k→l[i]?=some b→p b=false)(hk:l[k]?=some a)(ha:p a=true):qaN p l j=(j+k:Nat):=by
 induction l generalizing k j with
 | nil=>simp at hk
 | cons b r ih=>
  cases k with
  | zero=>simp at hk;subst hk;simp [qaN,ha]
  | succ k=>
   have h0:=h 0 b O (by simp);simp only [qaN,h0,Bool.false_eq_true,if_false];rw [ih (k:=k) (fun i c hi hc=>h (i+1) c O Q18) (by simpa using hk)];congr 1;omega
def qfT{p:α→Bool}{l:List α}(h:∀ i b,i < l.length→l[i]?=some b→p b=false):qaN p l j=-1:=by
 induction l generalizing j with
 | nil=>rfl
 | cons b r ih=>
  have h0:=h 0 b (by simp) (by simp);simp only [qaN,h0,Bool.false_eq_true,if_false];exact ih fun i c hi hc=>h (i+1) c Q7 Q18
theorem qjY{α:Type}(p:α→Bool)(l:List α)(j:Nat):decide (0≤qaN p l j)=l.any p:=by
 induction l generalizing j with
 | nil=>simp [qaN]
 | cons b r ih=>
  by_cases hb:p b=true
  · simp [qaN,hb]
  · simp only [qaN,hb];simpa [hb] using ih (j+1)
def qdg(l:List Ins)(k:Nat):Int:=match l[k]? with
 | none=>0
 | some x=>if qcy x≠0 then qcy x else if (l.take k).any (qf4 x) then 8 else 0
def qaG(t:Tab):Int×Int:=
 if t.cells < 1∨65536 < t.cells then (4,-1) else if 64 < t.ins.length then (2,-1) else qcc (qdg t.ins) t.ins.length 0
open Go.Proofs.Tryz
def qn9{P:Program}{t:Nat}{ti:TI}(h:ti.ok P t)(hk:qeg ti.kind=true)(w:World):(isAgg t).run P w=.ok false w:=by rw [qf3 h,hk];rfl
def qrL(d:Nat)(a b c e:Int)(w:World):(Op.equalIn (d+2) 80 (.agg #[.int .i64 a,.int .u32 b]) (.agg #[.int .i64 c,.int .u32 e])).run prog w=.ok (decide (a=c) && decide (b=e)) w:=by
 rw [run_equalIn_agg w (d+1) 80 _ _ V V];simp only [Program.fieldsOf,underlying80,Op.eqFields,part];simp [qn9 qkx rfl,qn9 qlp rfl,run_equalIn_int w d 3 .i64 .i64 _ _ underlying3,run_equalIn_int w d 34 .u32 .u32 _ _ underlying34];by_cases h1:a=c<;>by_cases h2:b=e<;>simp [h1,h2]
def qCq(a b c d:Int):EqA prog 80 [.int .i64 a,.int .u32 b] [.int .i64 c,.int .u32 d] (decide (a=c) && decide (b=d)):=⟨by kernel_rfl,fun w=>qrL 9998 a b c d w⟩
def qb3(a b c d:Int):EqA prog 30 [.int .i64 a,.int .i64 b] [.int .i64 c,.int .i64 d] (decide (a=c∧b=d)):=⟨by kernel_rfl,fun w=>by
 show (Op.equalIn (9998+2) 30 _ _).run prog w=_;rw [run_equalIn_agg w 9999 30 _ _ V V];simp only [Program.fieldsOf,underlying30,Op.eqFields,part];simp [qn9 qkx rfl,run_equalIn_int w 9998 3 .i64 .i64 _ _ underlying3];by_cases h1:a=c<;>by_cases h2:b=d<;>simp [h1,h2]⟩
end Go.Proofs.YtlfiplbamnpgoaaGreatDoor
namespace Go.FL
open Go Go.RowKit
variable{s s' w:World}{b off m sz e n t f ck t':Nat}{news xs args zs:List Value}{A B C:Prop}{v z:Value}{x y:Operand}{ti:TI}{ik:IntKind}{fr' fr:Fr}{c a:Int}{os:List Nat}{P:Program}
variable{D:Nat}
def qsv{L L':Hl}{s w':World}(h:OKL D L s)(hos:w'.os=s.os)(htp:w'.tape=s.tape)(hout:w'.output=s.output)(hsz:s.heap.size≤w'.heap.size)(hnd:(L'.map (·.1)).Nodup)
    (hin:∀ x∈L',w'.heap[x.1]?=some x.2) (hkeys:∀ x∈L',x.1∈L.map (·.1)∨s.heap.size≤x.1) (hold:∀ k,k < s.heap.size→k ∉ L.map (·.1)→w'.heap[k]?=s.heap[k]?) :
    w'=fill L' (qcF D L' w')∧OKL D L' (qcF D L' w')∧Le D s (qcF D L' w'):=by
  have hlt:∀ x∈L',x.1 < w'.heap.size:=fun x hx=>by
    have:=hin x hx;rcases Nat.lt_or_ge x.1 w'.heap.size with h1|h1
    · exact h1
    · rw [Array.getElem?_eq_none h1] at this;cases this
  have hok:OKL D L' (qcF D L' w'):=⟨hnd,fun x hx=>qjv hlt (List.mem_map.2 ⟨x,hx,rfl⟩)⟩;refine ⟨qdA (qdv fun k=>?_) ?_ ?_ ?_ ?_,hok,⟨?_,?_,?_,by rw [qfL];exact hsz,fun k hk=>?_⟩⟩
  · by_cases hk:k∈L'.map (·.1)
    · obtain ⟨x,hx,rfl⟩:=List.mem_map.1 hk
      rw [qa3 hok hx,hin x hx]
    · rw [qbk hk,qdb hk]
  · rw [qbR,qev]
  · rw [qc5,qgO]
  · rw [qdd,qgu]
  · rw [qbv,qds]
  · rw [qgu,hos]
  · rw [qev,htp]
  · rw [qds,hout]
  · by_cases hd:s.heap[k]?=some (dum D)
    · exact .inl hd
    · have hk1:=qiL h hd
      have hk2:k ∉ L'.map (·.1):=fun hm=>by
        obtain ⟨x,hx,rfl⟩:=List.mem_map.1 hm;rcases hkeys x hx with h1|h1
        · exact hk1 h1
        · omega
      exact .inr (by rw [qdb hk2,hold k hk hk1])
inductive Own(e sz:Nat):Hl→Value→Nat→List Value→Prop
 | nil:FL.Own e sz [] (.slice none 0 0) 0 []
 | blk (b cap n:Nat) (xs ys:List Value) (hn:xs.length=n * sz) (hc:xs.length+ys.length=cap * sz) (hnc:n≤cap) (hm:cap≤9223372036854775807):FL.Own e sz [(b,cb (xs++ys) e)] (.slice (some ⟨b,0,none⟩) n cap) n xs
def Row(s:World)(A:Option Addr)(m sz:Nat)(news:List Value):Prop:=
 news.length=m * sz∧(∀ u∈news,u.oneCell'=true)∧∀ j u,news[j]?=some u→∃ b off,A=some ⟨b,off,none⟩∧s.cell? ⟨b,off+j,none⟩=some u
def Row.of_cells(h:CellsAt s b off news)(hl:news.length=m * sz)(h1:news.all (·.oneCell')=true):Row s (some ⟨b,off,none⟩) m sz news:=
 ⟨hl,fun u hu=>List.all_eq_true.1 h1 u hu,fun j u hj=>⟨b,off,rfl,h j u hj⟩⟩
def Row.le{A:Option Addr}(h:Row s A m sz news)(hl:Le D s s'):Row s' A m sz news:=
 ⟨h.1,h.2.1,fun j u hj=>by obtain ⟨b,off,h1,h2⟩:=h.2.2 j u hj;exact ⟨b,off,h1,hl.cell h2⟩⟩
def Own.owns{A:Hl}(h:FL.Own e sz A v n xs)(hw:∀ x∈A,w.heap[x.1]?=some x.2):w.ownsRow 0 e sz v n xs:=by
 cases h with
 | nil=>exact World.ownsRow_nil w 0 e sz
 | blk b cap n xs ys hn hc hnc hm=>
  refine ⟨hn,.inr ⟨b,cap,(xs++ys).toArray,Z,Nat.zero_le _,hw _ Mc,hnc,by simpa [maxLen] using hm,by simpa using hc,?_⟩⟩;rw [← hn];simp
def Own.key{A:Hl}(h:FL.Own e sz A v n xs)(k:Nat):k∈A.map (·.1)↔v.ownBlock=some k:=by
 cases h with
 | nil=>simp [Value.ownBlock]
 | blk b cap n xs ys=>simp [Value.ownBlock,eq_comm]
def Own.of_owns(h:w.ownsRow 0 e sz v n xs):∃ A,FL.Own e sz A v n xs∧∀ x∈A,w.heap[x.1]?=some x.2:=by
  obtain ⟨h1,h2⟩:=h;rcases h2 with ⟨rfl,rfl⟩|⟨g,cap,cur,rfl,_,hg,hnc,hcm,hcs,ht⟩
  · have:xs=[]:=List.eq_nil_of_length_eq_zero Q6
    subst this;exact ⟨[],.nil,fun x hx=>by cases hx⟩
  · have he:cur=(xs++cur.toList.drop (n * sz)).toArray:=by
      rw [← ht,List.take_append_drop]
    have hcs':xs.length+(cur.toList.drop (n * sz)).length=cap * sz:=by
      rw [← hcs,← List.length_append];have:=congrArg Array.size he;simpa using this.symm
    refine ⟨[(g,cb (xs++cur.toList.drop (n * sz)) e)],.blk g cap n xs _ h1 hcs' hnc (by simpa [maxLen] using hcm),fun x hx=>?_⟩;simp only [List.mem_singleton] at hx;subst hx;rw [hg,cb,← he]
def mem_mid{B A L0:Hl}{x:Nat×Obj}:x∈B++(A++L0)↔x∈B∨x∈A∨x∈L0:=by simp
def qvN{B A A' L0:Hl}{s w':World}{e sz:Nat}{v v':Value}{n n':Nat}{xs xs':List Value}(h:OKL D (B++(A++L0)) s)(hO:FL.Own e sz A v n xs)(hO':FL.Own e sz A' v' n' xs')(hA':∀ x∈A',w'.heap[x.1]?=some x.2)
    (hg:(fill (B++(A++L0)) s).grownBy w' v.ownBlock) (hat:v'.ownBlock=v.ownBlock∨v'.ownBlock=some s.heap.size) :
    w'=fill (B++(A'++L0)) (qcF D (B++(A'++L0)) w')∧OKL D (B++(A'++L0)) (qcF D (B++(A'++L0)) w')∧Le D s (qcF D (B++(A'++L0)) w'):=by
  have hnd:=h.nd;have hkA':∀ k,k∈A'.map (·.1)→k∈A.map (·.1)∨k=s.heap.size:=fun k hk=>by
    rw [hO'.key] at hk;rcases hat with h1|h1
    · exact .inl ((hO.key k).2 (h1▸hk))
    · rw [h1] at hk;injection hk with hk;exact .inr hk.symm
  have hsize:=hg.size;rw [qaF] at hsize;have hlt:∀ x∈B++(A++L0),x.1 < s.heap.size:=fun x hx=>h.lt hx;simp only [List.map_append,List.nodup_append,List.mem_append] at hnd;obtain ⟨nB,⟨nA,nL,dAL⟩,dB⟩:=hnd;have hrest:∀ x,x∈B∨x∈L0→w'.heap[x.1]?=some x.2:=fun x hx=>by
    have hmem:x∈B++(A++L0):=mem_mid.2 (by rcases hx with h1|h1;exact .inl h1;exact .inr (.inr h1));rw [hg.block x.1 (by rw [qaF];exact hlt x hmem),qa3 h hmem];intro he;have hk:=(hO.key x.1).2 he.symm;rcases hx with h1|h1
    · exact dB _ (List.mem_map.2 ⟨x,h1,rfl⟩) _ (.inl hk) rfl
    · exact dAL _ hk _ (List.mem_map.2 ⟨x,h1,rfl⟩) rfl
  refine qsv h (hg.os.trans (qdd _ _)) (hg.tape.trans (qbR _ _)) (hg.output.trans (qbv _ _)) hsize ?_ ?_ ?_ ?_
  · have nA':(A'.map (·.1)).Nodup:=by cases hO'<;>simp
    simp only [List.map_append,List.nodup_append,List.mem_append];refine ⟨nB,⟨nA',nL,fun a ha b hb he=>?_⟩,fun a ha b hb he=>?_⟩
    · subst he
      rcases hkA' a ha with h1|h1
      · exact dAL _ h1 _ hb rfl
      · obtain ⟨x,hx,rfl⟩:=List.mem_map.1 hb
        have:=hlt x (mem_mid.2 (.inr (.inr hx)));omega
    · subst he
      rcases hb with hb|hb
      · rcases hkA' a hb with h1|h1
        · exact dB _ ha _ (.inl h1) rfl
        · obtain ⟨x,hx,rfl⟩:=List.mem_map.1 ha
          have:=hlt x (mem_mid.2 (.inl hx));omega
      · exact dB _ ha _ (.inr hb) rfl
  · intro x hx
    rcases mem_mid.1 hx with h1|h1|h1
    · exact hrest x (.inl h1)
    · exact hA' x h1
    · exact hrest x (.inr h1)
  · intro x hx
    rcases mem_mid.1 hx with h1|h1|h1
    · exact .inl (List.mem_map.2 ⟨x,mem_mid.2 (.inl h1),rfl⟩)
    · rcases hkA' x.1 (List.mem_map.2 ⟨x,h1,rfl⟩) with h2|h2
      · exact .inl (by rw [List.map_append,List.map_append];simp only [List.mem_append];exact .inr (.inl h2))
      · exact .inr O
    · exact .inl (List.mem_map.2 ⟨x,mem_mid.2 (.inr (.inr h1)),rfl⟩)
  · intro k hk hn
    rw [hg.block k (by rw [qaF];exact hk),qbk hn];intro he;exact hn (by rw [List.map_append,List.map_append];simp only [List.mem_append];exact .inr (.inl ((hO.key k).2 he.symm)))
section
variable{P:Program}{TT:qaM}{n:Nat}{Q:qbs}{fr:Fr}{L L' K:Hl}{s s' s0:World}{ops:Array Oper}{rest:List Oper}{d ty:Nat}{op:Op}{pos:String}{af:Array Edge}{v:Value}
def Ez68{p:Prop} (h:p:=by
 rw [← r1];simp only [execOp,resolve,invoke,builtin,Sem.run_bind,Sem.run_pure,Result.andThen_ok,List.map_toArray,List.map_cons,List.map_nil,hρ x _ hx,hρ y _ hy,hrun]):p:=h
def Ez37{p:Prop} (h:p:=by
 obtain ⟨b,off,h1,_⟩:=hR.2.2 0 news[0] (List.getElem?_eq_getElem hl);refine ⟨b,off,h1,fun j u hj=>?_⟩;obtain ⟨b',off',h1',h2⟩:=hR.2.2 j u hj;rw [h1] at h1';injection h1' with h1';injection h1' with e1 e2;subst e1;subst e2
 exact h2):p:=h
def qu0{t e m c k sz:Nat}{x y:Operand}{ti te:TI}{A1:Option Addr}{news xs:List Value}(B A L0:Hl)(hT:TabOK P TT)(hx:lk fr x=some v)(hy:lk fr y=some (.slice A1 m c))(ht:qay TT t=some ti)(hk:ti.kind=.sl e)(he:qay TT e=some te)(hsz:te.size=sz)
    (hO:FL.Own e sz A v k xs) (hR:Row s A1 m sz news) (h63:(k+m) * te.bytes≤140737488355328∧k+m≤9223372036854775807) (ho:OKL D (B++(A++L0)) s) :
    ∃ v' A' s',Ev P TT D fr (.call { callee:=.builtin .append,args:=#[x,y],argTypes:=#[t,t] }) ty (B++(A++L0)) s (.value v') (B++(A'++L0)) s'∧Le D s s'∧FL.Own e sz A' v' (k+m) (xs++news):=by
  have hok:=hT.at_ ht;obtain ⟨k1,k2,_⟩:=hok;rw [hk] at k2;simp only [TK.fits] at k2;rw [k2] at k1;have hte:=hT.at_ he;obtain ⟨i,i1,i2,i3,i4⟩:=qdR hte;have hpos:0 < te.size:=hte.2.2.2.2.2.1;have hzs:te.zero.cells.size=te.size:=by rw [qc7 hte];simpa using hte.2.2.2.1
  have hin:∀ x∈A,(fill (B++(A++L0)) s).heap[x.1]?=some x.2:=fun x hx=>qa3 ho (mem_mid.2 (.inr (.inl hx)));have hown:=hO.owns hin;by_cases hm:m=0
  · subst hm
    have hn:news=[]:=List.eq_nil_of_length_eq_zero (by simpa using hR.1);subst hn;refine ⟨v,A,s,fun hT ho dst pos af g ρ hρ=>⟨?_,ho⟩,Le.refl _,by simpa using hO⟩;have hle:∀ (A2:Option Addr) (w:World),(Builtin.firstCells te.size 0 (.slice A2 0 c)).run P w=.ok #[] w:=fun A2 w=>by
      cases A2<;>simp [Builtin.firstCells,loadCells,loadCellsFrom]
    cases hO with
    | nil=>simp [execOp,resolve,invoke,builtin,Builtin.append_,hρ x _ hx,hρ y _ hy,run_underlying k1,qbw hte,Builtin.lenOf,hle]
    | blk b cap n xs ys hn hc hnc hm=>simp [execOp,resolve,invoke,builtin,Builtin.append_,hρ x _ hx,hρ y _ hy,run_underlying k1,qbw hte,Builtin.lenOf,hle,hnc,storeCells]
  · have h0:∃ b off,A1=some ⟨b,off,none⟩∧CellsAt s b off news:=by
      have hl:0 < news.length:=by rw [hR.1,← hsz];exact Nat.mul_pos (Nat.pos_of_ne_zero hm) hpos
      exact Ez37
    obtain ⟨b,off,rfl,hcells⟩:=h0;obtain ⟨v',w',hrun,hown',hgr,_,hat⟩:=run_append_own_at (P:=P) (fill (B++(A++L0)) s) 0 t ty e i te.zero sz te.bytes k1 i1 i4 (i2.trans hsz) i3 (by rw [hzs,hsz]) (by rw [← hsz];exact hpos) v k xs hown ⟨b,off,none⟩ m c news hR.1
      (fun j u hj=>by rw [add_lit];exact qec ho (hcells j u hj)) hR.2.1 (by simpa [maxLen] using h63.2) h63.1 (Nat.zero_le _)
    obtain ⟨A',hO',hA'⟩:=Own.of_owns hown';rw [qaF] at hat;obtain ⟨r1,r2,r3⟩:=qvN (D:=D) ho hO hO' hA' hgr hat;refine ⟨v',A',qcF D (B++(A'++L0)) w',fun hT ho dst pos af g ρ hρ=>⟨?_,r2⟩,r3,hO'⟩;exact Ez68
def qcT{t e m c k sz:Nat}{x y:Operand}{ti te:TI}{A1:Option Addr}{news xs:List Value}(B A L0:Hl)(hL:L=B++(A++L0))(hx:lk fr x=some v)(hy:lk fr y=some (.slice A1 m c))(ht:qay TT t=some ti)(hk:ti.kind=.sl e)(he:qay TT e=some te)(hsz:te.size=sz)
  (hO:FL.Own e sz A v k xs) (hR:Row s A1 m sz news) (h63:(k+m) * te.bytes≤140737488355328∧k+m≤9223372036854775807) (hd:Nat.blt d n=true)
  (kk:∀ v' A' s',Le D s s'→FL.Own e sz A' v' (k+m) (xs++news)→JO P TT D n ops Q rest ((d,v')::fr) (B++(A'++L0)) s') :
  JO P TT D n ops Q (⟨some d,.call { callee:=.builtin .append,args:=#[x,y],argTypes:=#[t,t] },ty,pos,af,none⟩::rest) fr L s:=fun hT a hr ho=>by
 subst hL;obtain ⟨v',A',s',h1,h2,h3⟩:=qu0 (ty:=ty) B A L0 hT hx hy ht hk he hsz hO hR h63 ho;exact qgH hd h1 (kk v' A' s' h2 h3) hT a hr ho
def qcS{i0 t e m c k sz:Nat}{g:Option (Nat×Bool)}{fuel:Nat}{listed:Array Bool}{x y:Operand}{ti te:TI}{A1:Option Addr}{news xs:List Value}(hi0:ops[i0]?=some ⟨some d,.call { callee:=.builtin .append,args:=#[x,y],argTypes:=#[t,t] },ty,pos,af,g⟩)(hgk:GOK ops fr g)
  (B A L0:Hl) (hL:L=B++(A++L0)) (hx:lk fr x=some v) (hy:lk fr y=some (.slice A1 m c)) (ht:qay TT t=some ti) (hk:ti.kind=.sl e) (he:qay TT e=some te) (hsz:te.size=sz)
  (hO:FL.Own e sz A v k xs) (hR:Row s A1 m sz news) (h63:(k+m) * te.bytes≤140737488355328∧k+m≤9223372036854775807) (hd:Nat.blt d n=true) (hK:∀ A',∀ x∈K,x∈B++(A++L0)→x∈B++(A'++L0))
  (kk:∀ v' A' s',Le D s s'→FL.Own e sz A' v' (k+m) (xs++news)→JA P TT D n ops Q K s0 fuel (listed.setIfInBounds i0 true) ((d,v')::fr) (B++(A'++L0)) s') :
  JB P TT D n ops Q K s0 fuel listed i0 fr L s:=fun hT a hr ho hl hKL=>by
 subst hL;obtain ⟨v',A',s',h1,h2,h3⟩:=qu0 (ty:=ty) B A L0 hT hx hy ht hk he hsz hO hR h63 ho;exact qhz hi0 hgk h1 h2 (hK A') hd (kk v' A' s' h2 h3) hT a hr ho hl hKL
def qnL{te:TI}(ht:qay TT t=some ti)(hk:ti.kind=.sl e)(he:qay TT e=some te)(hd:Nat.blt d n=true)(k:∀ β s',Le D s s'→FL.Own e sz [(β,cb [] e)] (.slice (some ⟨β,0,none⟩) 0 0) 0 []→JO P TT D n ops Q rest ((d,.slice (some ⟨β,0,none⟩) 0 0)::fr) ((β,cb [] e)::L) s'):
  JO P TT D n ops Q (⟨some d,.buildSlice t 0 #[],ty,pos,af,none⟩::rest) fr L s:=fun hT a hr ho=>by
 obtain ⟨h1,h2,h3⟩:=qaD ho (cb [] e);obtain ⟨k1,k2,_⟩:=hT.at_ ht;rw [hk] at k2;simp only [TK.fits] at k2;rw [k2] at k1;refine qgH hd (L':=(s.heap.size,cb [] e)::L) (s':=s.alloc (dum D)) (v:=.slice (some ⟨s.heap.size,0,none⟩) 0 0) (fun hT _ dst pos af g ρ hρ=>⟨?_,h2⟩) (k _ _ h3 (.blk s.heap.size 0 0 [] [] (by simp) (by simp) (Nat.le_refl _) O)) hT a hr ho;rw [← h1];simp [execOp,Instr.buildSlice,run_underlying k1,qbw (hT.at_ he),Instr.fill,qhh,qaF,cb,show Array.range 0=#[] from rfl]
def qAG{te:TI}(hT:TabOK P TT)(hx:lk fr x=some (.int ik (m:Int)))(ht:qay TT t=some ti)(hk:ti.kind=.sl e)(he:qay TT e=some te)(hz:te.zeros=[z])(hb:te.bytes * m≤281474976710656)(hm:m≤9223372036854775807)(ho:OKL D L s):
  Ev P TT D fr (.makeSlice t x x) ty L s (.value (.slice (some ⟨s.heap.size,0,none⟩) m m)) ((s.heap.size,cb (List.replicate m z) e)::L) (s.alloc (dum D)):=fun _ _ dst pos af g ρ hρ=>by
 obtain ⟨h1,h2,h3⟩:=qaD ho (cb (List.replicate m z) e);refine ⟨?_,h2⟩;obtain ⟨k1,k2,_⟩:=hT.at_ ht;rw [hk] at k2;simp only [TK.fits] at k2;rw [k2] at k1;have hte:=hT.at_ he;obtain ⟨i,i1,i2,i3,i4⟩:=qdR hte;have hs1:te.size=1:=by rw [← hte.2.2.2.1,hz];rfl
 have hb':(i.bytes:Int) * (m:Int)≤281474976710656:=by
  have h:((te.bytes * m:Nat):Int)≤281474976710656:=by omega
  rwa [Int.natCast_mul,← i3] at h
 have hr:=run_make (P:=P) (fill L s) t e i te.zero k1 i1 i4 ik ik m m O O hb' O;have hc:madeCells te.zero.cells ((m:Int).toNat * i.size)=(List.replicate m z).toArray:=by
  rw [i2,hs1,qc7 hte,hz];apply Array.ext_getElem?;intro j;simp only [madeCells,Int.toNat_natCast,Nat.mul_one];by_cases hj:j < m
  · simp [hj,Nat.mod_one]
  · rw [Array.getElem?_eq_none Q7,Array.getElem?_eq_none Q7]
 rw [hc] at hr;simp only [execOp,hρ x _ hx,Sem.run_bind,hr,Result.andThen_ok,Sem.run_pure,qaF,Int.toNat_natCast];rw [← h1];rfl
def qEB{t e m:Nat}{x:Operand}{ti te:TI}{ik:IntKind}{z:Value}(hx:lk fr x=some (.int ik (m:Int)))(ht:qay TT t=some ti)(hk:ti.kind=.sl e)(he:qay TT e=some te)(hz:te.zeros=[z])(hb:te.bytes * m≤281474976710656)(hm:m≤9223372036854775807)(hd:Nat.blt d n=true)
  (k:∀ β s',Le D s s'→JO P TT D n ops Q rest ((d,.slice (some ⟨β,0,none⟩) m m)::fr) ((β,cb (List.replicate m z) e)::L) s'):JO P TT D n ops Q (⟨some d,.makeSlice t x x,ty,pos,af,none⟩::rest) fr L s:=fun hT a hr ho=>
 qgH hd (qAG hT hx ht hk he hz hb hm ho) (k _ _ (qaD ho (cb (List.replicate m z) e)).2.2) hT a hr ho
def qhA{i0 t e m:Nat}{g:Option (Nat×Bool)}{fuel:Nat}{listed:Array Bool}{x:Operand}{ti te:TI}{ik:IntKind}{z:Value}(hi0:ops[i0]?=some ⟨some d,.makeSlice t x x,ty,pos,af,g⟩)(hgk:GOK ops fr g)(hx:lk fr x=some (.int ik (m:Int)))(ht:qay TT t=some ti)(hk:ti.kind=.sl e)(he:qay TT e=some te)(hz:te.zeros=[z])(hb:te.bytes * m≤281474976710656)(hm:m≤9223372036854775807)(hd:Nat.blt d n=true)
  (k:∀ β s',Le D s s'→JA P TT D n ops Q K s0 fuel (listed.setIfInBounds i0 true) ((d,.slice (some ⟨β,0,none⟩) m m)::fr) ((β,cb (List.replicate m z) e)::L) s'):JB P TT D n ops Q K s0 fuel listed i0 fr L s:=fun hT a hr ho hl hK=>
 qhz hi0 hgk (qAG hT hx ht hk he hz hb hm ho) (qaD ho (cb (List.replicate m z) e)).2.2 (fun x _ h=>List.mem_cons_of_mem _ h) hd (k _ _ (qaD ho (cb (List.replicate m z) e)).2.2) hT a hr ho hl hK
def qnC{t e t' b dl dc m c:Nat}{x y:Operand}{ti te:TI}{A1:Option Addr}{news zs:List Value}(i:Nat)(ho:OKL D L s)(hx:lk fr x=some (.slice (some ⟨b,0,none⟩) dl dc))(hy:lk fr y=some (.slice A1 m c))(ht:qay TT t=some ti)(hk:ti.kind=.sl e)(he:qay TT e=some te)(hsz:te.size=1)
    (hi:L[i]?=some (b,cb zs t')) (hR:Row s A1 m 1 news) (hm:m≤dl) (hdl:dl≤zs.length):Ev P TT D fr (.call { callee:=.builtin .copy,args:=#[x,y],argTypes:=#[t,t] }) ty L s (.value (.int .i64 (m:Int))) (qch L i (cb (news++zs.drop m) t')) s:=fun hT _ dst pos af g ρ hρ=>by
  obtain ⟨k1,k2,_⟩:=hT.at_ ht;rw [hk] at k2;simp only [TK.fits] at k2;rw [k2] at k1;have hte:=hT.at_ he;obtain ⟨inf,i1,i2,i3,i4⟩:=qdR hte;have hg:=qa3 ho (List.mem_of_getElem? hi);have hnl:news.length=m:=by simpa using hR.1
  refine ⟨?_,qel ho _ _⟩;rw [qcG ho hi];by_cases h0:m=0
  · subst h0
    have hn:news=[]:=List.eq_nil_of_length_eq_zero hnl;subst hn;have hself:qbq (fill L s) b (cb ([]++zs.drop 0) t')=fill L s:=by
      refine qdA (qdv fun j=>?_) Z Z Z Z;by_cases hj:b=j
      · subst hj
        rw [qdk _ (by rcases Nat.lt_or_ge b (fill L s).heap.size with h1|h1;exact h1;rw [Array.getElem?_eq_none h1] at hg;cases hg),hg];simp
      · rw [qbT _ hj]
    rw [hself];have hle:∀ (A2:Option Addr) (w:World),(Builtin.firstCells te.size 0 (.slice A2 0 c)).run P w=.ok #[] w:=fun A2 w=>by
      cases A2<;>simp [Builtin.firstCells,loadCells,loadCellsFrom]
    simp [execOp,resolve,invoke,builtin,Builtin.copy_,hρ x _ hx,hρ y _ hy,run_underlying k1,qbw hte,Builtin.lenOf,hle,storeCells,goInt]
  · have h0:∃ b off,A1=some ⟨b,off,none⟩∧CellsAt s b off news:=by
      have hl:0 < news.length:=by omega
      exact Ez37
    obtain ⟨b1,off1,rfl,hcells⟩:=h0;have hrun:=run_copy_row (P:=P) (fill L s) t t ty e b 0 dl dc ⟨b1,off1,none⟩ m c zs.toArray t' news k1 (by rw [i1];simp [i2,hsz]) hg (by rw [hnl];exact (Nat.min_eq_left hm).symm) (fun j u hj=>by rw [add_lit];exact qec ho (hcells j u hj)) Q7 hR.2.1;simp only [execOp,resolve,invoke,builtin,Sem.run_bind,Sem.run_pure,Result.andThen_ok,List.map_toArray,List.map_cons,List.map_nil,hρ x _ hx,hρ y _ hy,hrun,goInt,hnl];rw [qfC hg];simp [cb]
def qeU{t e t' b dl dc m c:Nat}{x y:Operand}{ti te:TI}{A1:Option Addr}{news zs:List Value}(i:Nat){L':Hl}(hx:lk fr x=some (.slice (some ⟨b,0,none⟩) dl dc))(hy:lk fr y=some (.slice A1 m c))(ht:qay TT t=some ti)(hk:ti.kind=.sl e)(he:qay TT e=some te)(hsz:te.size=1)
  (hi:L[i]?=some (b,cb zs t')) (hR:Row s A1 m 1 news) (hm:m≤dl) (hdl:dl≤zs.length) (hL:qch L i (cb (news++zs.drop m) t')=L') (hd:Nat.blt d n=true) (k:JO P TT D n ops Q rest ((d,.int .i64 (m:Int))::fr) L' s) :
  JO P TT D n ops Q (⟨some d,.call { callee:=.builtin .copy,args:=#[x,y],argTypes:=#[t,t] },ty,pos,af,none⟩::rest) fr L s:=fun hT a hr ho=>by
 subst hL;exact qgH hd (qnC i ho hx hy ht hk he hsz hi hR hm hdl) k hT a hr ho
def qwr{i0:Nat}{g:Option (Nat×Bool)}{fuel:Nat}{listed:Array Bool}{t e t' b dl dc m c:Nat}{x y:Operand}{ti te:TI}{A1:Option Addr}{news zs:List Value}(hi0:ops[i0]?=some ⟨some d,.call { callee:=.builtin .copy,args:=#[x,y],argTypes:=#[t,t] },ty,pos,af,g⟩)(hgk:GOK ops fr g)(i:Nat){L':Hl}(hx:lk fr x=some (.slice (some ⟨b,0,none⟩) dl dc))(hy:lk fr y=some (.slice A1 m c))(ht:qay TT t=some ti)(hk:ti.kind=.sl e)(he:qay TT e=some te)(hsz:te.size=1)
  (hi:L[i]?=some (b,cb zs t')) (hR:Row s A1 m 1 news) (hm:m≤dl) (hdl:dl≤zs.length) (hL:qch L i (cb (news++zs.drop m) t')=L') (hd:Nat.blt d n=true) (hK':∀ x∈K,x∈L→x∈L') (k:JA P TT D n ops Q K s0 fuel (listed.setIfInBounds i0 true) ((d,.int .i64 (m:Int))::fr) L' s) :
  JB P TT D n ops Q K s0 fuel listed i0 fr L s:=fun hT a hr ho hl hK=>by
 subst hL;exact qhz hi0 hgk (qnC i ho hx hy ht hk he hsz hi hR hm hdl) (Le.refl _) hK' hd k hT a hr ho hl hK
def qqT{p:Prop} (h:p:=by
 rw [← List.append_assoc,← List.append_assoc];exact (List.perm_append_comm).append_right Y):p:=h
def AC.mid{f:FuncId}{R:Value→Hl→World→Prop}(X M Y:Hl)(h:AC P D f args (M++(X++Y)) s (fun v L' s'=>∃ M',L'=M'++(X++Y)∧R v M' s')):
  AC P D f args (X++(M++Y)) s (fun v L' s'=>∃ M',L'=X++(M'++Y)∧R v M' s'):=by
 have hp:∀ M':Hl,(X++(M'++Y)).Perm (M'++(X++Y)):=fun M'=>by
  exact qqT
 refine ⟨h.1,fun ho=>?_⟩;rw [qa5 (hp M) _ ho];refine (h.2 (ho.perm (hp M))).mono ?_;rintro e w' ⟨v,L',s',h1,rfl,h3,h4,M',rfl,h6⟩;exact ⟨v,X++(M'++Y),s',h1,(qa5 (hp M').symm _ h3),h3.perm (hp M').symm,h4,M',rfl,h6⟩
end
structure KeyK(κ:Type) [DecidableEq κ] (d:TypeDesc) (kf:κ→Value):Prop where
 same:∀ a b,Instr.sameNow d (kf a) (kf b)=some (decide (a=b))
 bits:∀ a,Instr.sameBits 10000 (kf a) (kf a)=true
 check:∀ (P:Program) (w:World) (t:Nat) (e:Bool) (a:κ),P.underlying t=some d→(Instr.checkKey e 10000 t (kf a)).run P w=.ok () w
def KeyK.int(k:IntKind):KeyK Int (.int k) (Value.int k):=
 ⟨fun a b=>by simp [Instr.sameNow];rfl,fun a=>by simp [Instr.sameBits],fun P w t e a h=>by unfold Instr.checkKey;simp [run_underlying h]⟩
def qvk(a b:List UInt8):((⟨a.toArray⟩:ByteArray) == ⟨b.toArray⟩)=decide (a=b):=by
 have e:((⟨a.toArray⟩:ByteArray) == ⟨b.toArray⟩)=(a.toArray == b.toArray):=rfl;rw [e];by_cases h:a=b<;>simp [h]
def KeyK.str:KeyK (List UInt8) .string (fun l=>St l):=
 ⟨fun a b=>by simp only [Instr.sameNow,qvk],fun a=>by simp [Instr.sameBits,qvk],fun P w t e a h=>by unfold Instr.checkKey;simp [run_underlying h]⟩
section
variable{κ:Type} [DecidableEq κ] {dk:TypeDesc} {kf:κ→Value}
def mp(kf:κ→Value)(es:List (κ×Value×Nat))(ck:Nat):Obj:=.map (es.map fun x=>⟨kf x.1,x.2.1,x.2.2⟩).toArray ck
def qaW:List (κ×Value×Nat)→κ→Option Value
 | [],_=>none
 | x::r,k=>if k=x.1 then some x.2.1 else qaW r k
def qi9(es:List (κ×Value×Nat))(k:κ)(v:Value)(ck:Nat):List (κ×Value×Nat):=match es with
 | []=>[(k,v,ck)]
 | x::r=>if k=x.1 then (x.1,v,x.2.2)::r else x::qi9 r k v ck
def qeu(es:List (κ×Value×Nat))(k:κ)(v:Value)(ck:Nat)(j:κ):qaW (qi9 es k v ck) j=if j=k then some v else qaW es j:=by
  induction es with
  | nil=>simp [qi9,qaW]
  | cons x r ih=>
    simp only [qi9];by_cases h:k=x.1
    · simp only [h,if_true,qaW]
      by_cases hj:j=x.1<;>simp [hj,h]
    · simp only [h,if_false,qaW,ih]
      by_cases hj:j=x.1
      · have:¬ x.1=k:=fun e=>h e.symm
        simp [hj,this]
      · simp [hj]
def qfl(K:KeyK κ dk kf)(es:List (κ×Value×Nat))(k:κ)(i:Nat):
    (qaW es k=none∧Instr.findNow dk (kf k) (es.map fun x=>⟨kf x.1,x.2.1,x.2.2⟩) i=some none) ∨
    ∃ j v b,qaW es k=some v∧es[j]?=some (k,v,b)∧(∀ v' ck,qi9 es k v' ck=es.set j (k,v',b))∧Instr.findNow dk (kf k) (es.map fun x=>⟨kf x.1,x.2.1,x.2.2⟩) i=some (some (i+j,v)):=by
  induction es generalizing i with
  | nil=>exact .inl ⟨rfl,rfl⟩
  | cons x r ih=>
    obtain ⟨a,v,b⟩:=x;simp only [List.map_cons,Instr.findNow,K.same];by_cases h:k=a
    · subst h
      exact .inr ⟨0,v,b,by simp [qaW],rfl,fun v' ck=>by simp [qi9],by simp⟩
    · rcases ih (i+1) with ⟨h1,h2⟩|⟨j,v',b',h1,h2,h3,h4⟩
      · exact .inl ⟨by simp [qaW,h,h1],by simp [h,h2]⟩
      · exact .inr ⟨j+1,v',b',by simp [qaW,h,h1],by simpa using h2,fun v'' ck=>by simp [qi9,h,h3],by simp [h,h4];omega⟩
variable{P:Program}{TT:qaM}{D n:Nat}{Q:qbs}{fr:Fr}{L L' K:Hl}{s s' s0:World}{ops:Array Oper}{rest:List Oper}{d ty:Nat}{op:Op}{pos:String}{af:Array Edge}{v:Value}
def qfd(P:Program)(t:Nat)(dk:TypeDesc)(z:Value):Prop:=∃ kt et,P.underlying t=some (.map kt et)∧P.underlying kt=some dk∧∀ w,(zeroValue et).run P w=.ok z w
def qhg(KK:KeyK κ dk kf)(hm:qfd P t dk z){es:List (κ×Value×Nat)}(hb:w.heap[b]?=some (mp kf es ck))(k:κ)(c:Bool):
    (Instr.lookup t (.map (some b)) (kf k) c).run P w=.ok (if c then .tuple #[(qaW es k).getD z,.bool (qaW es k).isSome] else (qaW es k).getD z) w:=by
  obtain ⟨kt,et,h1,h2,h3⟩:=hm;rcases qfl KK es k 0 with ⟨a1,a2⟩|⟨j,v,bn,a1,_,_,a2⟩
  · simp only [Instr.lookup,Sem.run_bind,run_underlying h1,Result.andThen_ok,Go.MapKept.run_getObj_map hb,Sem.run_pure,KK.check P w kt _ k h2,Go.MapKept.run_findKey h2 a2,h3,a1]
    cases c<;>rfl
  · simp only [Instr.lookup,Sem.run_bind,run_underlying h1,Result.andThen_ok,Go.MapKept.run_getObj_map hb,Sem.run_pure,KK.check P w kt _ k h2,Go.MapKept.run_findKey h2 a2,a1]
    cases c<;>rfl
def Ez76{p:Prop} (h:p:=by
 have hb:=qa3 ho (hK _ (List.mem_of_getElem? hi));simp only [execOp,hρ x _ hx,hρ y _ hy,Sem.run_bind,qhg KK hm hb,Result.andThen_ok,Sem.run_pure];rfl):p:=h
def qjf(KK:KeyK κ dk kf)(i:Nat)(hm:qfd P t dk z){es:List (κ×Value×Nat)}{k:κ}(hx:lk fr x=some (.map (some b)))(hy:lk fr y=some (kf k))(hi:K[i]?=some (b,mp kf es ck)):
  QE P TT D fr (.lookup t x y false) ty K s0 ((qaW es k).getD z):=fun hT dst pos af g ρ hρ L s ho _ hK=>by
 exact Ez76
def qhL(KK:KeyK κ dk kf)(i:Nat)(hm:qfd P t dk z){es:List (κ×Value×Nat)}{k:κ}(hx:lk fr x=some (.map (some b)))(hy:lk fr y=some (kf k))(hi:K[i]?=some (b,mp kf es ck)):
  QE P TT D fr (.lookup t x y true) ty K s0 (.tuple #[(qaW es k).getD z,.bool (qaW es k).isSome]):=fun hT dst pos af g ρ hρ L s ho _ hK=>by
 exact Ez76
omit [DecidableEq κ] in
def qlr(kf:κ→Value)(ho:OKL D L s):Ev P TT D fr (.makeMap t none) ty L s (.value (.map (some s.heap.size))) ((s.heap.size,mp kf [] 0)::L) (s.alloc (dum D)):=fun hT _ dst pos af g ρ _=>by
 obtain ⟨h1,h2,h3⟩:=qaD ho (mp kf [] 0);refine ⟨?_,h2⟩;rw [← h1];simp [execOp,Instr.makeMap,qaF,mp]
omit [DecidableEq κ] in
def qer(kf:κ→Value)(hd:Nat.blt d n=true)(k:∀ β s',Le D s s'→JO P TT D n ops Q rest ((d,.map (some β))::fr) ((β,mp kf [] 0)::L) s'):
  JO P TT D n ops Q (⟨some d,.makeMap t none,ty,pos,af,none⟩::rest) fr L s:=fun hT a hr ho=>qgH hd (qlr kf ho) (k _ _ (qaD ho (mp kf [] 0)).2.2) hT a hr ho
def qkH(KK:KeyK κ dk kf){z:Operand}{zv:Value}(i:Nat)(hm:qfd P t dk zv){es:List (κ×Value×Nat)}{k:κ}(hx:lk fr x=some (.map (some b)))(hy:lk fr y=some (kf k))(hz:lk fr z=some v)(hi:L[i]?=some (b,mp kf es ck)):
    ∃ ck',Ev P TT D fr (.mapUpdate t x y z) ty L s .skip (qch L i (mp kf (qi9 es k v ck) ck')) s:=by
  obtain ⟨kt,et,h1,h2,h3⟩:=hm;rcases qfl KK es k 0 with ⟨a1,a2⟩|⟨j,v',bn,a1,a3,a4,a2⟩
  · refine ⟨ck+1,fun hT ho dst pos af g ρ hρ=>⟨?_,qel ho _ _⟩⟩
    have hb:=qa3 ho (List.mem_of_getElem? hi);have hms:qi9 es k v ck=es++[(k,v,ck)]:=by
      clear hi a2 hb;induction es with
      | nil=>rfl
      | cons x r ih=>
        simp only [qaW] at a1;split at a1
        · cases a1
        · rename_i h;simp [qi9,h,ih a1]
    rw [qcG ho hi];simp only [execOp,hρ x _ hx,hρ y _ hy,hρ z _ hz,Instr.mapUpdate,Sem.run_bind,run_underlying h1,Result.andThen_ok,Go.MapKept.run_getObj_map hb,Sem.run_pure,KK.check P _ kt _ k h2,Go.MapKept.run_findKey h2 a2,Go.MapKept.run_setObj_map _ hb];simp [qbq,mp,hms]
  · refine ⟨ck,fun hT ho dst pos af g ρ hρ=>⟨?_,qel ho _ _⟩⟩
    have hb:=qa3 ho (List.mem_of_getElem? hi);rw [qcG ho hi];have hkey:((((es.map fun x=>(⟨kf x.1,x.2.1,x.2.2⟩:MapEntry)).toArray)[0+j]?.map (·.key)).getD (kf k))=kf k:=by simp [a3]
    simp only [execOp,hρ x _ hx,hρ y _ hy,hρ z _ hz,Instr.mapUpdate,Sem.run_bind,run_underlying h1,Result.andThen_ok,Go.MapKept.run_getObj_map hb,Sem.run_pure,KK.check P _ kt _ k h2,Go.MapKept.run_findKey h2 a2,hkey,Instr.keyThatStays,KK.bits,if_true,Go.MapKept.run_setObj_map _ hb,a4];have hmod:((es.map fun x=>(⟨kf x.1,x.2.1,x.2.2⟩:MapEntry)).toArray).modify (0+j) (fun e=>{ e with key:=kf k,val:=v })=((es.set j (k,v,bn)).map fun x=>(⟨kf x.1,x.2.1,x.2.2⟩:MapEntry)).toArray:=by
      apply Array.ext_getElem?;intro q;rw [Array.getElem?_modify];by_cases hq:0+j=q
      · have:j=q:=by omega
        subst this;obtain ⟨hlt,_⟩:=List.getElem?_eq_some_iff.1 a3;simp [hlt,a3];have:=List.getElem?_eq_some_iff.1 a3;obtain ⟨_,e⟩:=this;simp [e]
      · have hne:j≠q:=by omega
        simp [hq,hne]
    rw [hmod];rfl
def qkK(KK:KeyK κ dk kf){t b:Nat}{x y z:Operand}{zv:Value}(i:Nat)(hm:qfd P t dk zv){es:List (κ×Value×Nat)}{ck:Nat}{k:κ}(hx:lk fr x=some (.map (some b)))(hy:lk fr y=some (kf k))(hz:lk fr z=some v)(hi:L[i]?=some (b,mp kf es ck))
  (kk:∀ ck',JO P TT D n ops Q rest fr (qch L i (mp kf (qi9 es k v ck) ck')) s):JO P TT D n ops Q (⟨none,.mapUpdate t x y z,ty,pos,af,none⟩::rest) fr L s:=by
 obtain ⟨ck',h⟩:=qkH (TT:=TT) (D:=D) (s:=s) (ty:=ty) KK i hm hx hy hz hi;exact qqZ h (kk ck')
def qgE{i0:Nat}{g:Option (Nat×Bool)}{fuel:Nat}{listed:Array Bool}(KK:KeyK κ dk kf){t b:Nat}{x y z:Operand}{zv:Value}(hi0:ops[i0]?=some ⟨none,.mapUpdate t x y z,ty,pos,af,g⟩)(hg:GOK ops fr g)(i:Nat)(hm:qfd P t dk zv){es:List (κ×Value×Nat)}{ck:Nat}{k:κ}(hx:lk fr x=some (.map (some b)))(hy:lk fr y=some (kf k))(hz:lk fr z=some v)(hi:L[i]?=some (b,mp kf es ck))
  (hK':∀ x∈K,x∈L.eraseIdx i) (kk:∀ ck',JA P TT D n ops Q K s0 fuel (listed.setIfInBounds i0 true) fr (qch L i (mp kf (qi9 es k v ck) ck')) s):JB P TT D n ops Q K s0 fuel listed i0 fr L s:=by
 obtain ⟨ck',h⟩:=qkH (TT:=TT) (D:=D) (s:=s) (ty:=ty) KK i hm hx hy hz hi;exact qBd hi0 hg h (Le.refl _) (fun x hx _=>qhV (hK' x hx) _) (kk ck')
end
section
variable{P:Program}{TT:qaM}{D n:Nat}{Q:qbs}{fr:Fr}{L:Hl}{s:World}
def qc0{γ:Type}{c:Code}(X:Hl)(S:γ→Fr)(H:γ→Hl)(I:γ→World→Prop)(μ:γ→Nat)(mono:∀ g s s',I g s→Le D s s'→I g s')(g0:γ)
  (hS:Keeps fr (S g0)) (hL:L=X++H g0) (hI:I g0 s)
  (round:∀ g s,I g s→JC P TT D n (qaJ (fun fr' L' s'=>∃ g' A,Keeps fr' (S g')∧L'=A++(X++H g')∧I g' s'∧μ g' < μ g) Q) c (S g) (X++H g) s) :
  JC P TT D n Q (.loop c) fr L s:=qaH S (fun g=>X++H g) I μ mono g0 hS hL hI round
inductive Suf(fr:Fr):Fr→Prop
 | refl:Suf fr fr
 | push {d:Nat} {v:Value} {fr':Fr} (hd:(qaS fr d).isNone=true) (h:Suf fr fr'):Suf fr ((d,v)::fr')
def Sb{p:Prop}(h:p:=by repeat (first|exact Suf.refl|refine Suf.push rfl ?_)):p:=h
def Suf.keeps{fr:Fr}(h:Suf fr fr'):Keeps fr' fr:=by
 induction h with
 | refl=>exact fun _ _ h=>h
 | @push d v fr' hd _ ih=>
  intro t u hu;rw [qa9];by_cases he:d=t
  · subst he;rw [hu] at hd;cases hd
  · rw [if_neg he];exact ih t u hu
def MidB(D:Nat)(s:World)(fr:Fr)(L:Hl)(t:Nat)(p:Prop)[Decidable p]:Fr→Hl→World→Prop:=fun fr' L' s'=>Le D s s'∧L'=L∧Keeps fr' ((t,.bool (decide p))::fr)
def MidB.mk{p:Prop}[Decidable p]{b:Bool}(hl:Le D s s')(hS:Suf fr fr')(ht:qaS fr' t=some (.bool b))(hb:b=decide p):MidB D s fr L t p fr' L s':=by
 subst hb;exact ⟨hl,rfl,Keeps.cons ht hS.keeps⟩
def qbA{x y:Code}(t:Nat)(p:Prop) [Decidable p] (h1:JC P TT D n (qaJ (MidB D s fr L t p) Q) x fr L s)
  (h2:∀ s',Le D s s'→JC P TT D n Q y ((t,.bool (decide p))::fr) L s'):JC P TT D n Q (.seq x y) fr L s:=fun ht a hr ho=>
 wp_seq (wp_mono (h1 ht a hr ho) fun e a w ⟨fr',L',s',k1,k2,k3,k4⟩=>by
  cases e with
  | normal=>
   subst k3;obtain ⟨j1,j2,j3⟩:=k4;subst j2;exact h2 s' j1 ht a (k1.sub j3) k2
  | _=>exact ⟨fr',L',s',k1,k2,k3,k4⟩)
def MidN{γ:Type}(D:Nat)(s:World)(fr:Fr)(L:Hl)(new:γ→Fr)(B:γ→Hl)(I:γ→World→Prop):Fr→Hl→World→Prop:=fun fr' L' s'=>∃ g A,Le D s s'∧L'.Perm (A++(B g++L))∧I g s'∧Keeps fr' (new g++fr)
def MidN.mk{γ:Type}{new:γ→Fr}{B:γ→Hl}{I:γ→World→Prop}{L':Hl}(g:γ)(A:Hl)(hl:Le D s s')(hK:Keeps fr' (new g++fr))(hp:L'.Perm (A++(B g++L)))(hI:I g s'):MidN D s fr L new B I fr' L' s':=⟨g,A,hl,hp,hI,hK⟩
def qEt{p:Prop} (h:p:=by
 subst k3;obtain ⟨g,A,j0,j2,j3,j1⟩:=k4;rw [qa5 j2 _ k2];obtain ⟨e,d1,d2⟩:=qbp (k2.perm j2);rw [e];exact h2 g _ (j0.trans d2) (mono _ _ _ j3 d2) ht a (k1.sub j1) d1):p:=h
def qkI{γ:Type}{x y:Code}(new:γ→Fr)(B:γ→Hl)(I:γ→World→Prop)(mono:∀ g s s',I g s→Le D s s'→I g s')(h1:JC P TT D n (qaJ (MidN D s fr L new B I) Q) x fr L s)
  (h2:∀ g s',Le D s s'→I g s'→JC P TT D n Q y (new g++fr) (B g++L) s'):JC P TT D n Q (.seq x y) fr L s:=fun ht a hr ho=>
 wp_seq (wp_mono (h1 ht a hr ho) fun e a w ⟨fr',L',s',k1,k2,k3,k4⟩=>by
  cases e with
  | normal=>
   exact qEt
  | _=>exact ⟨fr',L',s',k1,k2,k3,k4⟩)
def Pub(M:Hl)(s:World):Prop:=∀ b zs t,(b,cb zs t)∈M→CellsAt s b 0 zs
def Pub.tail{x:Nat×Obj}{M:Hl}{s:World}(h:Pub (x::M) s):Pub M s:=fun b zs t hm=>h b zs t (List.mem_cons_of_mem _ hm)
def AC.pubW{f:FuncId}{R:Value→World→Prop}(h:AC P D f args L s (fun v L' s'=>∃ M',L'=M'++L∧∀ s2,Le D s' s2→Pub M' s2→R v s2)):
  AC P D f args L s (fun v L' s'=>L=L'∧R v s'):=by
 refine ⟨h.1,fun ho=>(h.2 ho).mono ?_⟩;rintro e w' ⟨v,L',s',h1,rfl,h3,h4,M',rfl,h6⟩;obtain ⟨d1,d2,d3⟩:=qbp h3;refine ⟨v,L,fill M' s',h1,d1,d2,h4.trans d3,Z,h6 _ d3 fun b zs t hm j u hj=>?_⟩;rw [qc2 h3.left hm,Nat.zero_add];exact hj
end
section
variable{P:Program}{TT:qaM}{D n:Nat}{Q:qbs}{fr:Fr}{L:Hl}{s:World}{ops:Array Oper}{rest:List Oper}{d ty:Nat}{pos:String}{af:Array Edge}{v:Value}
def Zqm(hx:lk fr x=some v)(hd:Nat.blt d n=true)(k:JO P TT D n ops Q rest ((d,v)::fr) L s):JO P TT D n ops Q (⟨some d,.move x,ty,pos,af,none⟩::rest) fr L s:=qae (qam hx) hd k
def Zqa(hx:lk fr x=some v)(hd:Nat.blt d n=true)(k:JO P TT D n ops Q rest ((d,v)::fr) L s):JO P TT D n ops Q (⟨some d,.assign x,ty,pos,af,none⟩::rest) fr L s:=qae (qa7 hx) hd k
def Zqx{i:Nat}{vs:List Value}(hx:lk fr x=some (.tuple vs.toArray))(hi:nth vs i=some v)(hd:Nat.blt d n=true)(k:JO P TT D n ops Q rest ((d,v)::fr) L s):JO P TT D n ops Q (⟨some d,.extract x i,ty,pos,af,none⟩::rest) fr L s:=qae (qb4 hx hi) hd k
def ZqT{c:Operand}(hc:lk fr c=some (.bool true))(hx:lk fr x=some v)(hd:Nat.blt d n=true)(k:JO P TT D n ops Q rest ((d,v)::fr) L s):JO P TT D n ops Q (⟨some d,.pick c x y,ty,pos,af,none⟩::rest) fr L s:=qae (qdr hc hx) hd k
def ZqF{c:Operand}(hc:lk fr c=some (.bool false))(hx:lk fr y=some v)(hd:Nat.blt d n=true)(k:JO P TT D n ops Q rest ((d,v)::fr) L s):JO P TT D n ops Q (⟨some d,.pick c x y,ty,pos,af,none⟩::rest) fr L s:=qae (qdq hc hx) hd k
def qaA{b:Int}(hx:lk fr x=some (.int ik a))(hy:lk fr y=some (.int ik b))(hd:Nat.blt d n=true)(k:JO P TT D n ops Q rest ((d,.bool (decide (a=b)))::fr) L s):JO P TT D n ops Q (⟨some d,.binOp .eql t x y t',ty,pos,af,none⟩::rest) fr L s:=qae (qdD hx hy) hd k
def qd2{b:Int}(hx:lk fr x=some (.int ik a))(hy:lk fr y=some (.int ik b))(hd:Nat.blt d n=true)(k:JO P TT D n ops Q rest ((d,.bool (!decide (a=b)))::fr) L s):JO P TT D n ops Q (⟨some d,.binOp .neq t x y t',ty,pos,af,none⟩::rest) fr L s:=qae (qmN hx hy) hd k
def qbt{b:Int}(hx:lk fr x=some (.int ik a))(hy:lk fr y=some (.int ik b))(hd:Nat.blt d n=true)(k:JO P TT D n ops Q rest ((d,.bool (decide (a < b)))::fr) L s):JO P TT D n ops Q (⟨some d,.binOp .lss t x y t',ty,pos,af,none⟩::rest) fr L s:=qae (qwD hx hy) hd k
def qwQ{b:Int}(hx:lk fr x=some (.int ik a))(hy:lk fr y=some (.int ik b))(hd:Nat.blt d n=true)(k:JO P TT D n ops Q rest ((d,.bool (decide (a≤b)))::fr) L s):JO P TT D n ops Q (⟨some d,.binOp .leq t x y t',ty,pos,af,none⟩::rest) fr L s:=qae (qmM hx hy) hd k
def qcg{b:Int}(hx:lk fr x=some (.int ik a))(hy:lk fr y=some (.int ik b))(hd:Nat.blt d n=true)(k:JO P TT D n ops Q rest ((d,.bool (decide (b < a)))::fr) L s):JO P TT D n ops Q (⟨some d,.binOp .gtr t x y t',ty,pos,af,none⟩::rest) fr L s:=qae (qwB hx hy) hd k
def qi6{b:Int}(hx:lk fr x=some (.int ik a))(hy:lk fr y=some (.int ik b))(hd:Nat.blt d n=true)(k:JO P TT D n ops Q rest ((d,.bool (decide (b≤a)))::fr) L s):JO P TT D n ops Q (⟨some d,.binOp .geq t x y t',ty,pos,af,none⟩::rest) fr L s:=qae (qq1 hx hy) hd k
def qio{a b:List UInt8}(hx:lk fr x=some (St a))(hy:lk fr y=some (St b))(hd:Nat.blt d n=true)(k:JO P TT D n ops Q rest ((d,.bool (decide (a=b)))::fr) L s):JO P TT D n ops Q (⟨some d,.binOp .eql t x y t',ty,pos,af,none⟩::rest) fr L s:=qae (qvc hx hy) hd k
def qBC{a b:List UInt8}(hx:lk fr x=some (St a))(hy:lk fr y=some (St b))(hd:Nat.blt d n=true)(k:JO P TT D n ops Q rest ((d,.bool (!decide (a=b)))::fr) L s):JO P TT D n ops Q (⟨some d,.binOp .neq t x y t',ty,pos,af,none⟩::rest) fr L s:=qae (qBq hx hy) hd k
def qEI(hx:lk fr x=some (.bool true))(hd:Nat.blt d n=true)(k:JO P TT D n ops Q rest ((d,.bool false)::fr) L s):JO P TT D n ops Q (⟨some d,.unOp .not t x,ty,pos,af,none⟩::rest) fr L s:=qae (qwG hx) hd k
def qD6(hx:lk fr x=some (.bool false))(hd:Nat.blt d n=true)(k:JO P TT D n ops Q rest ((d,.bool true)::fr) L s):JO P TT D n ops Q (⟨some d,.unOp .not t x,ty,pos,af,none⟩::rest) fr L s:=qae (qwF hx) hd k
def qcL{b:Bool}(hx:lk fr x=some (.bool b))(hd:Nat.blt d n=true)(k:JO P TT D n ops Q rest ((d,.bool (!b))::fr) L s):JO P TT D n ops Q (⟨some d,.unOp .not t x,ty,pos,af,none⟩::rest) fr L s:=qae (qlw hx) hd k
def Zqls{A:Option Addr}{c:Nat}(hx:lk fr x=some (.slice A m c))(ht:qay TT t=some ti)(hk:ti.kind=.sl e)(hd:Nat.blt d n=true)(k:JO P TT D n ops Q rest ((d,.int .i64 (m:Int))::fr) L s):JO P TT D n ops Q (⟨some d,.call { callee:=.builtin .len,args:=#[x],argTypes:=#[t] },ty,pos,af,none⟩::rest) fr L s:=qae (qbc hx ht hk) hd k
def Ws{A:Option Addr}{c:Nat}(hY:(lk fr x=some (.slice A m c))∧(qay TT t=some ti)∧(ti.kind=.sl e)∧(Nat.blt d n=true))(k:JO P TT D n ops Q rest ((d,.int .i64 (m:Int))::fr) L s):JO P TT D n ops Q (⟨some d,.call { callee:=.builtin .len,args:=#[x],argTypes:=#[t] },ty,pos,af,none⟩::rest) fr L s:=Zqls hY.1 hY.2.1 hY.2.2.1 hY.2.2.2 k
def qjg{l:List UInt8}(hx:lk fr x=some (St l))(ht:qay TT t=some ti)(hk:ti.desc=.string)(hd:Nat.blt d n=true)(k:JO P TT D n ops Q rest ((d,.int .i64 (l.length:Int))::fr) L s):JO P TT D n ops Q (⟨some d,.call { callee:=.builtin .len,args:=#[x],argTypes:=#[t] },ty,pos,af,none⟩::rest) fr L s:=qae (qnR hx ht hk) hd k
def qaO{a:Addr}(hx:lk fr x=some (.pointer (some a)))(hd:Nat.blt d n=true)(k:JO P TT D n ops Q rest ((d,.pointer (some a))::fr) L s):JO P TT D n ops Q (⟨some d,.nilCheck x,ty,pos,af,none⟩::rest) fr L s:=qae (qan hx) hd k
def Zqf0(hx:lk fr x=some (.pointer (some ⟨b,off,none⟩)))(ht:qay TT t=some ti)(hk:ti.kind=.st os)(hf:qmg os f=some 0)(hd:Nat.blt d n=true)(k:JO P TT D n ops Q rest ((d,.pointer (some ⟨b,off,none⟩))::fr) L s):JO P TT D n ops Q (⟨some d,.fieldAddr t x f,ty,pos,af,none⟩::rest) fr L s:=qae (qaz hx ht hk hf) hd k
def W0(hY:(lk fr x=some (.pointer (some ⟨b,off,none⟩)))∧(qay TT t=some ti)∧(ti.kind=.st os)∧(qmg os f=some 0)∧(Nat.blt d n=true))(k:JO P TT D n ops Q rest ((d,.pointer (some ⟨b,off,none⟩))::fr) L s):JO P TT D n ops Q (⟨some d,.fieldAddr t x f,ty,pos,af,none⟩::rest) fr L s:=Zqf0 hY.1 hY.2.1 hY.2.2.1 hY.2.2.2.1 hY.2.2.2.2 k
def ZqfB{fo:Nat}(hx:lk fr x=some (.pointer (some ⟨b,0,none⟩)))(ht:qay TT t=some ti)(hk:ti.kind=.st os)(hf:qmg os f=some fo)(hd:Nat.blt d n=true)(k:JO P TT D n ops Q rest ((d,.pointer (some ⟨b,fo,none⟩))::fr) L s):JO P TT D n ops Q (⟨some d,.fieldAddr t x f,ty,pos,af,none⟩::rest) fr L s:=qae (qnP hx ht hk hf) hd k
def Wb{fo:Nat}(hY:(lk fr x=some (.pointer (some ⟨b,0,none⟩)))∧(qay TT t=some ti)∧(ti.kind=.st os)∧(qmg os f=some fo)∧(Nat.blt d n=true))(k:JO P TT D n ops Q rest ((d,.pointer (some ⟨b,fo,none⟩))::fr) L s):JO P TT D n ops Q (⟨some d,.fieldAddr t x f,ty,pos,af,none⟩::rest) fr L s:=ZqfB hY.1 hY.2.1 hY.2.2.1 hY.2.2.2.1 hY.2.2.2.2 k
def Zql(i:Nat)(hx:lk fr x=some (.pointer (some ⟨b,off,none⟩)))(hi:L[i]?=some (b,cb zs t'))(ht:qay TT t=some ti)(hk:qeg ti.kind=true)(hv:nth zs off=some v)(hd:Nat.blt d n=true)(k:JO P TT D n ops Q rest ((d,v)::fr) L s):JO P TT D n ops Q (⟨some d,.load t x,ty,pos,af,none⟩::rest) fr L s:=qae (qb5 i hx hi ht hk hv) hd k
def Wl(i:Nat)(hY:(lk fr x=some (.pointer (some ⟨b,off,none⟩)))∧(L[i]?=some (b,cb zs t'))∧(qay TT t=some ti)∧(qeg ti.kind=true)∧(nth zs off=some v)∧(Nat.blt d n=true))(k:JO P TT D n ops Q rest ((d,v)::fr) L s):JO P TT D n ops Q (⟨some d,.load t x,ty,pos,af,none⟩::rest) fr L s:=Zql i hY.1 hY.2.1 hY.2.2.1 hY.2.2.2.1 hY.2.2.2.2.1 hY.2.2.2.2.2 k
def qaV{b:Int}(hx:lk fr x=some (.int ik a))(hy:lk fr y=some (.int ik b))(hd:Nat.blt d n=true)(hc:ik.wrap (a+b)=c)(k:JO P TT D n ops Q rest ((d,.int ik c)::fr) L s):JO P TT D n ops Q (⟨some d,.binOp .add t x y t',ty,pos,af,none⟩::rest) fr L s:=qae (qaI hx hy hc) hd k
def qn1{b:Int}(hx:lk fr x=some (.int ik a))(hy:lk fr y=some (.int ik b))(hd:Nat.blt d n=true)(hc:ik.wrap (a - b)=c)(k:JO P TT D n ops Q rest ((d,.int ik c)::fr) L s):JO P TT D n ops Q (⟨some d,.binOp .sub t x y t',ty,pos,af,none⟩::rest) fr L s:=qae (qbB hx hy hc) hd k
def qEH{b:Int}(hx:lk fr x=some (.int ik a))(hy:lk fr y=some (.int ik b))(hd:Nat.blt d n=true)(hc:ik.wrap (a * b)=c)(k:JO P TT D n ops Q rest ((d,.int ik c)::fr) L s):JO P TT D n ops Q (⟨some d,.binOp .mul t x y t',ty,pos,af,none⟩::rest) fr L s:=qae (qnT hx hy hc) hd k
end
abbrev Zs:=@qu3
abbrev Zr:=@qgG
abbrev Zn:=@qu5
abbrev Zt:=@qaf
abbrev Zu:=@qzd
abbrev Zv:=@qze
abbrev Zb:=@qrs
abbrev Zc:=@qrt
abbrev Zd:=@qru
abbrev Ze:=@qon
abbrev Zk:=@qwv
abbrev Zl:=@qwu
abbrev Zo:=@qBh
abbrev Zp:=@qqX
abbrev Zy:=@qBg
abbrev Zz:=@qBf
abbrev Zg:=@qEz
abbrev Zf:=@qBk
abbrev Zh:=@qEA
def Nt{TT:qaM}{D:Nat}{Q:qbs}{L:Hl}{J:Fr→Hl→World→Prop}{ops:Array Oper}(h:J fr L s):JO P TT D n ops (qaJ J Q) [] fr L s:=qu5 (qaf h)
def Sr{TT:qaM}{D:Nat}{Q:qbs}{L:Hl}{id:Nat}{l:List Oper}{y:Code}(h:JO P TT D n l.toArray (qaJ (JC P TT D n Q y) Q) l fr L s):JC P TT D n Q (.seq (.region id l.toArray false) y) fr L s:=qu3 (qgG h)
def At{TT:qaM}{D:Nat}{Q:qbs}{L:Hl}{J:Fr→Hl→World→Prop}{ops:Array Oper}{d ty:Nat}{pos:String}{af:Array Edge}(hx:lk fr x=some v)(hd:Nat.blt d n=true)(h:J ((d,v)::fr) L s):JO P TT D n ops (qaJ J Q) [⟨some d,.assign x,ty,pos,af,none⟩] fr L s:=Zqa hx hd (Nt h)
def sk(h:Suf fr fr':=by repeat (first|exact Suf.refl|refine Suf.push rfl ?_)):Keeps fr' fr:=h.keeps
def kp{l:Fr}(h:Keeps fr l:=by repeat (first|exact Keeps.nil _|refine Keeps.cons rfl ?_)):Keeps fr l:=h
section
variable{P:Program}{TT:qaM}{D n:Nat}{Q:qbs}{fr:Fr}{L K:Hl}{s s0:World}{ops:Array Oper}{d ty:Nat}{op:Op}{pos:String}{af:Array Edge}{v:Value}{fuel:Nat}{listed:Array Bool}
def okA(ops:Array Oper)(listed:Array Bool)(i:Nat):Bool:=Region.noSelect ops && Region.free .any ops listed i && (Region.ready .any ops listed).contains i
def za(i:Nat)(hi:ops[i]?=some ⟨some d,op,ty,pos,af,none⟩)(hq:QE P TT D fr op ty K s0 v)(hd:Nat.blt d n=true)(k:JA P TT D n ops Q K s0 fuel (listed.setIfInBounds i true) ((d,v)::fr) L s)(hs:okA ops listed i=true:=by kernel_rfl):JA P TT D n ops Q K s0 (fuel+1) listed fr L s:=by
 simp only [okA,Bool.and_eq_true] at hs;exact JA_q i hi hs.1.1 hs.1.2 hs.2 trivial hq hd k
def zg(i:Nat){e:Nat×Bool}(hi:ops[i]?=some ⟨some d,op,ty,pos,af,some e⟩)(hg:GOK ops fr (some e))(hq:QE P TT D fr op ty K s0 v)(hd:Nat.blt d n=true)(k:JA P TT D n ops Q K s0 fuel (listed.setIfInBounds i true) ((d,v)::fr) L s)(hs:okA ops listed i=true:=by kernel_rfl):JA P TT D n ops Q K s0 (fuel+1) listed fr L s:=by
 simp only [okA,Bool.and_eq_true] at hs;exact JA_q i hi hs.1.1 hs.1.2 hs.2 hg hq hd k
def zn(i:Nat){j:Nat}{w b:Bool}(hi:ops[i]?=some ⟨some d,op,ty,pos,af,some (j,w)⟩)(hj:qeJ ops j=some t)(hv:qaS fr t=some (.bool b))(hb:(b != w)=true)(hd:Nat.blt d n=true)(k:JA P TT D n ops Q K s0 fuel (listed.setIfInBounds i true) ((d,undef)::fr) L s)(hs:okA ops listed i=true:=by kernel_rfl):JA P TT D n ops Q K s0 (fuel+1) listed fr L s:=by
 simp only [okA,Bool.and_eq_true] at hs;exact qEw i hi hs.1.1 hs.1.2 hs.2 hj hv hb hd k
def T1(a:A)(h:A→B:=by intro h;first|exact Zqm Z Z h|exact Zn h|exact Zt h|exact Zqa Z Z h|exact Zs h|exact Zr h|exact Wf Y4 h|exact Zg Z Z h|exact Zo h|exact Zu h|exact Wb Y5 h|exact Wl 0 Y6 h|exact Zk h|exact W0 Y5 h|exact Zc h|exact Zb h|exact ZqT Z Z Z h|exact Zp h|exact Ws Y4 h|exact ZqF Z Z Z h|exact Zv h|exact Wl 1 Y6 h|exact Zqx Z Z Z h|exact Zd h|exact Zl h|exact Wl 2 Y6 h|exact Zy Z h|exact Zz Z h|exact Zh Z Z Z h|exact qaA Z Z Z h|exact qaO Z Z h|exact qbt Z Z Z h|exact qcg Z Z Z h|exact qcL Z Z h|exact qd2 Z Z Z h):B:=h a
def G2(a:A)(h:A→B:=by intro h;(iterate 2 refine T1 ?_);exact h):B:=h a
def G3(a:A)(h:A→B:=by intro h;(iterate 3 refine T1 ?_);exact h):B:=h a
def G4(a:A)(h:A→B:=by intro h;(iterate 4 refine T1 ?_);exact h):B:=h a
def G5(a:A)(h:A→B:=by intro h;(iterate 5 refine T1 ?_);exact h):B:=h a
def G6(a:A)(h:A→B:=by intro h;(iterate 6 refine T1 ?_);exact h):B:=h a
def G7(a:A)(h:A→B:=by intro h;(iterate 7 refine T1 ?_);exact h):B:=h a
def G8(a:A)(h:A→B:=by intro h;(iterate 8 refine T1 ?_);exact h):B:=h a
def G9(a:A)(h:A→B:=by intro h;(iterate 9 refine T1 ?_);exact h):B:=h a
def G10(a:A)(h:A→B:=by intro h;(iterate 10 refine T1 ?_);exact h):B:=h a
def G11(a:A)(h:A→B:=by intro h;(iterate 11 refine T1 ?_);exact h):B:=h a
def G12(a:A)(h:A→B:=by intro h;(iterate 12 refine T1 ?_);exact h):B:=h a
def G13(a:A)(h:A→B:=by intro h;(iterate 13 refine T1 ?_);exact h):B:=h a
def G14(a:A)(h:A→B:=by intro h;(iterate 14 refine T1 ?_);exact h):B:=h a
def G15(a:A)(h:A→B:=by intro h;(iterate 15 refine T1 ?_);exact h):B:=h a
def G16(a:A)(h:A→B:=by intro h;(iterate 16 refine T1 ?_);exact h):B:=h a
def G17(a:A)(h:A→B:=by intro h;(iterate 17 refine T1 ?_);exact h):B:=h a
def G18(a:A)(h:A→B:=by intro h;(iterate 18 refine T1 ?_);exact h):B:=h a
def G19(a:A)(h:A→B:=by intro h;(iterate 19 refine T1 ?_);exact h):B:=h a
def G20(a:A)(h:A→B:=by intro h;(iterate 20 refine T1 ?_);exact h):B:=h a
def G21(a:A)(h:A→B:=by intro h;(iterate 21 refine T1 ?_);exact h):B:=h a
def G22(a:A)(h:A→B:=by intro h;(iterate 22 refine T1 ?_);exact h):B:=h a
def G24(a:A)(h:A→B:=by intro h;(iterate 24 refine T1 ?_);exact h):B:=h a
def G26(a:A)(h:A→B:=by intro h;(iterate 26 refine T1 ?_);exact h):B:=h a
def J2(a:A)(b:B)(h:A→B→C:=by intro a b;(iterate 2 refine T1 ?_);exact qaa Z a b):C:=h a b
def J3(a:A)(b:B)(h:A→B→C:=by intro a b;(iterate 3 refine T1 ?_);exact qaa Z a b):C:=h a b
def J4(a:A)(b:B)(h:A→B→C:=by intro a b;(iterate 4 refine T1 ?_);exact qaa Z a b):C:=h a b
def J5(a:A)(b:B)(h:A→B→C:=by intro a b;(iterate 5 refine T1 ?_);exact qaa Z a b):C:=h a b
def J6(a:A)(b:B)(h:A→B→C:=by intro a b;(iterate 6 refine T1 ?_);exact qaa Z a b):C:=h a b
def J7(a:A)(b:B)(h:A→B→C:=by intro a b;(iterate 7 refine T1 ?_);exact qaa Z a b):C:=h a b
def J8(a:A)(b:B)(h:A→B→C:=by intro a b;(iterate 8 refine T1 ?_);exact qaa Z a b):C:=h a b
def J9(a:A)(b:B)(h:A→B→C:=by intro a b;(iterate 9 refine T1 ?_);exact qaa Z a b):C:=h a b
def J10(a:A)(b:B)(h:A→B→C:=by intro a b;(iterate 10 refine T1 ?_);exact qaa Z a b):C:=h a b
def J12(a:A)(b:B)(h:A→B→C:=by intro a b;(iterate 12 refine T1 ?_);exact qaa Z a b):C:=h a b
def J15(a:A)(b:B)(h:A→B→C:=by intro a b;(iterate 15 refine T1 ?_);exact qaa Z a b):C:=h a b
def J16(a:A)(b:B)(h:A→B→C:=by intro a b;(iterate 16 refine T1 ?_);exact qaa Z a b):C:=h a b
def J17(a:A)(b:B)(h:A→B→C:=by intro a b;(iterate 17 refine T1 ?_);exact qaa Z a b):C:=h a b
def J18(a:A)(b:B)(h:A→B→C:=by intro a b;(iterate 18 refine T1 ?_);exact qaa Z a b):C:=h a b
def J19(a:A)(b:B)(h:A→B→C:=by intro a b;(iterate 19 refine T1 ?_);exact qaa Z a b):C:=h a b
def J20(a:A)(b:B)(h:A→B→C:=by intro a b;(iterate 20 refine T1 ?_);exact qaa Z a b):C:=h a b
def J22(a:A)(b:B)(h:A→B→C:=by intro a b;(iterate 22 refine T1 ?_);exact qaa Z a b):C:=h a b
def J28(a:A)(b:B)(h:A→B→C:=by intro a b;(iterate 28 refine T1 ?_);exact qaa Z a b):C:=h a b
def T3{P:Program}{TT:qaM}{D ty:Nat}{fr:Fr}{op:Op}{K:Hl}{s0:World}{v:Value}(h:QE P TT D fr op ty K s0 v:=by first|exact qam Z|exact We Y4|exact qan Z|exact qaz Z Z Z Z|exact Wd 0 Y5|exact qa7 Z|exact Wd 1 Y5|exact qbc Z Z Z|exact qb4 Z Z|exact qbD Z Z Z Z|exact qdr Z Z|exact qdq Z Z):QE P TT D fr op ty K s0 v:=h
def zA(i:Nat)(hf:listed.getD i true=false)(hi:ops[i]?=some ⟨some d,op,ty,pos,af,none⟩)(hq:QE P TT D fr op ty K s0 v)(hd:Nat.blt d n=true)(k:JA P TT D n ops Q K s0 fuel (listed.setIfInBounds i true) ((d,v)::fr) L s)(hs:okA ops listed i=true:=by kernel_rfl):JA P TT D n ops Q K s0 (fuel+1) listed fr L s:=za i hi hq hd k hs
def zN(i:Nat)(hf:listed.getD i true=false){j:Nat}{w b:Bool}(hi:ops[i]?=some ⟨some d,op,ty,pos,af,some (j,w)⟩)(hj:qeJ ops j=some t)(hv:qaS fr t=some (.bool b))(hb:(b != w)=true)(hd:Nat.blt d n=true)(k:JA P TT D n ops Q K s0 fuel (listed.setIfInBounds i true) ((d,undef)::fr) L s)(hs:okA ops listed i=true:=by kernel_rfl):JA P TT D n ops Q K s0 (fuel+1) listed fr L s:=zn i hi hj hv hb hd k hs
def zG(i:Nat)(hf:listed.getD i true=false){e:Nat×Bool}(hi:ops[i]?=some ⟨some d,op,ty,pos,af,some e⟩)(hg:GOK ops fr (some e))(hq:QE P TT D fr op ty K s0 v)(hd:Nat.blt d n=true)(k:JA P TT D n ops Q K s0 fuel (listed.setIfInBounds i true) ((d,v)::fr) L s)(hs:okA ops listed i=true:=by kernel_rfl):JA P TT D n ops Q K s0 (fuel+1) listed fr L s:=zg i hi hg hq hd k hs
def T2(a:A)(h:A→B:=by intro h;first|exact zA 0 Z Z T3 Z h|exact zN 0 Z Z Z Z Z Z h|exact zG 0 Z Z ⟨_,Z,Z⟩ T3 Z h|exact zA 1 Z Z T3 Z h|exact zN 1 Z Z Z Z Z Z h|exact zG 1 Z Z ⟨_,Z,Z⟩ T3 Z h|exact zA 2 Z Z T3 Z h|exact zN 2 Z Z Z Z Z Z h|exact zG 2 Z Z ⟨_,Z,Z⟩ T3 Z h|exact zA 3 Z Z T3 Z h|exact zN 3 Z Z Z Z Z Z h|exact zG 3 Z Z ⟨_,Z,Z⟩ T3 Z h|exact zA 4 Z Z T3 Z h|exact zN 4 Z Z Z Z Z Z h|exact zG 4 Z Z ⟨_,Z,Z⟩ T3 Z h|exact zA 5 Z Z T3 Z h|exact zN 5 Z Z Z Z Z Z h|exact zG 5 Z Z ⟨_,Z,Z⟩ T3 Z h|exact zA 6 Z Z T3 Z h|exact zN 6 Z Z Z Z Z Z h|exact zG 6 Z Z ⟨_,Z,Z⟩ T3 Z h|exact zA 7 Z Z T3 Z h|exact zN 7 Z Z Z Z Z Z h|exact zG 7 Z Z ⟨_,Z,Z⟩ T3 Z h|exact zA 8 Z Z T3 Z h|exact zN 8 Z Z Z Z Z Z h|exact zG 8 Z Z ⟨_,Z,Z⟩ T3 Z h|exact zA 9 Z Z T3 Z h|exact zN 9 Z Z Z Z Z Z h|exact zG 9 Z Z ⟨_,Z,Z⟩ T3 Z h|exact zA 10 Z Z T3 Z h|exact zN 10 Z Z Z Z Z Z h|exact zG 10 Z Z ⟨_,Z,Z⟩ T3 Z h|exact zA 11 Z Z T3 Z h|exact zN 11 Z Z Z Z Z Z h|exact zG 11 Z Z ⟨_,Z,Z⟩ T3 Z h|exact zA 12 Z Z T3 Z h|exact zN 12 Z Z Z Z Z Z h|exact zG 12 Z Z ⟨_,Z,Z⟩ T3 Z h|exact zA 13 Z Z T3 Z h|exact zN 13 Z Z Z Z Z Z h|exact zG 13 Z Z ⟨_,Z,Z⟩ T3 Z h|exact zA 14 Z Z T3 Z h|exact zN 14 Z Z Z Z Z Z h|exact zG 14 Z Z ⟨_,Z,Z⟩ T3 Z h|exact zA 15 Z Z T3 Z h|exact zN 15 Z Z Z Z Z Z h|exact zG 15 Z Z ⟨_,Z,Z⟩ T3 Z h|exact zA 16 Z Z T3 Z h|exact zN 16 Z Z Z Z Z Z h|exact zG 16 Z Z ⟨_,Z,Z⟩ T3 Z h|exact zA 17 Z Z T3 Z h|exact zN 17 Z Z Z Z Z Z h|exact zG 17 Z Z ⟨_,Z,Z⟩ T3 Z h|exact zA 18 Z Z T3 Z h|exact zN 18 Z Z Z Z Z Z h|exact zG 18 Z Z ⟨_,Z,Z⟩ T3 Z h|exact zA 19 Z Z T3 Z h|exact zN 19 Z Z Z Z Z Z h|exact zG 19 Z Z ⟨_,Z,Z⟩ T3 Z h|exact zA 20 Z Z T3 Z h|exact zN 20 Z Z Z Z Z Z h|exact zG 20 Z Z ⟨_,Z,Z⟩ T3 Z h|exact zA 21 Z Z T3 Z h|exact zN 21 Z Z Z Z Z Z h|exact zG 21 Z Z ⟨_,Z,Z⟩ T3 Z h):B:=h a
def H1(a:A)(h:A→B:=by intro h;(iterate 1 refine T2 ?_);exact h):B:=h a
def H2(a:A)(h:A→B:=by intro h;(iterate 2 refine T2 ?_);exact h):B:=h a
def H3(a:A)(h:A→B:=by intro h;(iterate 3 refine T2 ?_);exact h):B:=h a
def H4(a:A)(h:A→B:=by intro h;(iterate 4 refine T2 ?_);exact h):B:=h a
def H5(a:A)(h:A→B:=by intro h;(iterate 5 refine T2 ?_);exact h):B:=h a
def H6(a:A)(h:A→B:=by intro h;(iterate 6 refine T2 ?_);exact h):B:=h a
def H7(a:A)(h:A→B:=by intro h;(iterate 7 refine T2 ?_);exact h):B:=h a
def H8(a:A)(h:A→B:=by intro h;(iterate 8 refine T2 ?_);exact h):B:=h a
def H9(a:A)(h:A→B:=by intro h;(iterate 9 refine T2 ?_);exact h):B:=h a
def H10(a:A)(h:A→B:=by intro h;(iterate 10 refine T2 ?_);exact h):B:=h a
def H11(a:A)(h:A→B:=by intro h;(iterate 11 refine T2 ?_);exact h):B:=h a
def H15(a:A)(h:A→B:=by intro h;(iterate 15 refine T2 ?_);exact h):B:=h a
end
end Go.FL
namespace Go.Proofs.YtlfiplbamnpgoaaGreatDoor
open Go.Proofs.Tryz
open Go.FL
attribute [local irreducible] JC JO JA JB qaJ qax qbN AC fill CellsAt QE Ev Mid
variable(D:Nat)(L:Hl)(s:World)
def Cz0{p:Prop} (h:p:=by
 exact ⟨rfl,rfl⟩):p:=h
def qAu{p:Prop} (h:p:=by
 intro β1 s1 h1;refine G6 ?_;refine qae (qai [(_,_),(_,_)] [_,_] Z Z Z Z Z Z) Z<|Wt 0 [_,_] Y9<|G3 ?_;exact rR [_] L (.agg (us:=[_,_]) 0 Z Z Z Z Z (.nil)) Z h1 fun _ hS2=>Cz0):p:=h
def qbE(c i:Int):AC prog D 22 [.int .i64 c,.int .i64 i] L s fun v L' _=>v=.agg #[.int .i64 c,.int .i64 i]∧L=L':=by
 refine qad (fn:=f22) qao func22 V Z ntmps22 Z (rs:=[.cell 4 30]) Z [(0,_),(1,_)] Z<|Sr<|qac Z [_,_] Z Z ?_;exact qAu
def Cz1{p:Prop} (h:p:=by
 exact ⟨by simp_all [qbP,qAb,qAc,qAd],rfl⟩):p:=h
def qD3{p:Prop} (h:p:=by
 refine G16 ?_;exact rR [] L (.tmp Z (.tmp Z (.t1 Z))) Z (Lr D) fun _ hS2=>Cz1):p:=h
def qEr{p:Prop} (h:p:=by
 refine G17 ?_;exact rR [] L (.tmp Z (.tmp Z (.t1 Z))) Z (Lr D) fun _ hS2=>Cz1):p:=h
def qAe(k:Int):AC prog D 168 [.int .i64 k] L s fun v L' _=>v=.tuple #[.bool (qAb k),.bool (qAc k),.bool (qAd k)]∧L=L':=by
 refine qad (fn:=f168) qao func168 V Z ntmps168 Z (rs:=[.tmp 2,.tmp 3,.tmp 4]) Z [(0,_)] Z<|J28 ?_ ?_<;>intro c1
 ·refine J2 ?_ ?_<;>intro c2;·exact qD3
  exfalso;omega
 refine J5 ?_ ?_<;>intro c2;·exact qD3
 refine J7 ?_ ?_<;>intro c3
 ·refine J2 ?_ ?_<;>intro c4;·exact qEr
  exfalso;omega
 refine J5 ?_ ?_<;>intro c4;·exact qEr
 refine J6 ?_ ?_<;>intro c5;·exact qEr
 refine J7 ?_ ?_<;>intro c6
 ·refine J2 ?_ ?_<;>intro c7;·exact qD3
  exfalso;omega
 refine J5 ?_ ?_<;>intro c7;·exact qD3
 refine G14 ?_;exact rR [] L (.tmp Z (.tmp Z (.t1 Z))) Z (Lr D) fun _ hS2=>Cz1
def Cz2{p:Prop} (h:p:=by
 exact ⟨by simp_all [qbP,qnt],rfl⟩):p:=h
def qdz(x:Tm)(u o:Bool):AC prog D 169 [.agg #[.int .i64 x.kind,.int .u32 x.val],.bool u,.bool o] L s fun v L' _=>v=.bool (qnt x u o)∧L=L':=by
 refine qad (fn:=f169) qao func169 V Z ntmps169 Z (rs:=[.tmp 6]) Z [(0,_),(1,_),(2,_)] Z<|Sr<|qar Z Z fun β1 s1 h1=>G12 ?_;refine qc8 Z ?_ ?_<;>intro c2;·refine Sr<|qae (qaj 0 [_,_] Z Z Z Z Z) Z<|qae (qai [] [_,_] Z Z Z Z Z Z) Z<|qae (qBm Z Z (qCq _ _ _ _)) Z<|G6 ?_;exact rX [_] L Z h1 fun _ hS2=>Cz2
 refine J8 ?_ ?_<;>intro c3;·refine G8 ?_;exact rX [_] L Z h1 fun _ hS2=>Cz2
 refine J8 ?_ ?_<;>intro c4;·refine G4 ?_;refine qwQ Z Z Z<|G6 ?_;exact rX [_] L Z h1 fun _ hS2=>Cz2
 refine G9 ?_;refine qap (t:=27) Z ?_ ?_<;>intro c5
 ·refine G8 ?_;refine qap (t:=32) Z ?_ ?_<;>intro c6;·refine G7 ?_;exact rX [_] L Z h1 fun _ hS2=>Cz2
  refine G6 ?_;exact rX [_] L Z h1 fun _ hS2=>Cz2
 refine G11 ?_;exact rX [_] L Z h1 fun _ hS2=>Cz2
def Cz3{p:Prop} (h:p:=by
 exact ⟨by (try simp_all [qbP,qeW])<;>grind,rfl⟩):p:=h
def qA8{p:Prop} (h:p:=by
 refine G8 ?_;exact rX [_] L Z h1 fun _ hS2=>Cz3):p:=h
def Ez84{p:Prop} (h:p:=by
 refine G16 ?_;exact rX [_] L Z h1 fun _ hS2=>Cz3):p:=h
def qhE(a:Ac)(o:Bool):AC prog D 128 [.agg #[.int .i64 a.kind,.int .i64 a.tgt,.int .i64 a.x.kind,.int .u32 a.x.val,.int .i64 a.y.kind,.int .u32 a.y.val],.bool o] L s fun v L' _=>v=.int .i64 (qeW a o)∧L=L':=by
 refine qad (fn:=f128) qao func128 V Z ntmps128 Z (rs:=[.tmp 4]) Z [(0,_),(1,_)] Z<|Sr<|qar Z Z fun β1 s1 h1=>G11 ?_;refine qap (t:=12) Z ?_ ?_<;>intro c2;·exact Ez84
 refine G5 ?_;refine qi6 Z Z Z<|J4 ?_ ?_<;>intro c3;·exact qA8
 refine G6 ?_;refine qap (t:=21) Z ?_ ?_<;>intro c4;·exact Ez84
 refine J10 ?_ ?_<;>intro c5;·exact qA8
 refine G7 ?_;refine Je Z Z Z (qAe D _ _ _) fun s6 h6=>G15 ?_;have e6:=h1.t h6;refine qdN (t:=35) Z ?_ ?_<;>intro c7
 ·refine G8 ?_;refine qbg (t:=40) Z ?_ ?_<;>intro c8;·refine G24 ?_;refine Zu ?_;exact rX [_] L Z e6 fun _ hS2=>Cz3
  refine G3 ?_;refine X21 ?_;refine Je Z Z Z (qdz D _ _ _ _ _) fun s9 h9=>G4 ?_;refine qdN (t:=48) Z ?_ ?_<;>intro c10;·refine G17 ?_;exact rX [_] L Z (e6.t h9) fun _ hS2=>Cz3
  refine G3 ?_;refine X21 ?_;refine Je Z Z Z (qdz D _ _ _ _ _) fun s11 h11=>G5 ?_;refine qc8 Z ?_ ?_<;>intro c12;·refine G7 ?_;exact rX [_] L Z (e6.t h9|>.t h11) fun _ hS2=>Cz3
  refine G8 ?_;exact rX [_] L Z (e6.t h9|>.t h11) fun _ hS2=>Cz3
 refine G8 ?_;refine X21 ?_;refine Je Z Z Z (qdz D _ _ _ _ _) fun s8 h8=>G4 ?_;refine qdN (t:=48) Z ?_ ?_<;>intro c9;·refine G17 ?_;exact rX [_] L Z (e6.t h8) fun _ hS2=>Cz3
 refine G3 ?_;refine X21 ?_;refine Je Z Z Z (qdz D _ _ _ _ _) fun s10 h10=>G5 ?_;refine qc8 Z ?_ ?_<;>intro c11;·refine G7 ?_;exact rX [_] L Z (e6.t h8|>.t h10) fun _ hS2=>Cz3
 refine G8 ?_;exact rX [_] L Z (e6.t h8|>.t h10) fun _ hS2=>Cz3
def Cz4{p:Prop} (h:p:=by
 refine ⟨?_,Z⟩;simp [qbP,qnd,qa6, *];done):p:=h
def Cz5{p:Prop} (h:p:=by
 refine ⟨?_,Z⟩;have hb:qhT k ch=false:=by
  rw [Bool.eq_false_iff];simp only [qhT,qiH,qhF,Bool.or_eq_true,Bool.and_eq_true,decide_eq_true_eq,ne_eq];omega
 simp [qbP,qnd,qa6,qoC hch hb];done):p:=h
def qwk{p:Prop} (h:p:=by
 exact rX [] L Z (I5.1.t h7) fun _ hS2=>Cz5):p:=h
def qwh{p:Prop} (h:p:=by
  refine qaa Z ?_ ?_<;>intro c12;·exfalso;omega
  exfalso;omega):p:=h
def Ez58{p:Prop} (h:p:=by
 refine G19 ?_;exact rX [] L Z (I5.1.t h7) fun _ hS2=>Cz5):p:=h
def Ez27{p:Prop} (h:p:=by
 refine G14 ?_;refine qaV Z Z Z (w64 O O)<|G2 ?_;have hOK:qhT k ch=true:=by simp only [qhT,qiH,qhF,Bool.or_eq_true,Bool.and_eq_true,decide_eq_true_eq,ne_eq];omega
 refine qaf ⟨(k+1),[],kp,Z,⟨(I5.1.t h7),⟨by omega,qcw hI hch hOK⟩⟩,O⟩):p:=h
def qiF(l:List UInt8):AC prog D 127 [St l] L s fun v L' _=>v=.bool (qnd l)∧L=L':=by
 refine qad (fn:=f127) qao func127 V Z ntmps127 Z (rs:=[.tmp 2]) Z [(0,_)] Z<|G9 ?_;refine qio Z Z Z<|Zqm Z Z<|?_;refine qap (t:=8) Z ?_ ?_<;>intro c1;·refine G22 ?_;exact rY Z fun _ hS2=>Cz4
 refine G3 ?_;refine qjg Z Z Z Z<|G4 ?_;refine qap (t:=13) Z ?_ ?_<;>intro c2
 ·refine G17 ?_;refine rR [] L (.t1 Z) Z (Lr D) fun _ hS2=>?_;refine ⟨?_,Z⟩;have h6:¬ l.length≤6:=by omega
  simp [qbP,qnd,qa6,h6];done
 refine G3 ?_;refine qio Z Z Z<|G2 ?_;refine qap (t:=17) Z ?_ ?_<;>intro c3;·refine X18 ?_;exact rY Z fun _ hS2=>Cz4
 refine G3 ?_;refine qio Z Z Z<|J3 ?_ ?_<;>intro c4;·refine G7 ?_;exact rY Z fun _ hS2=>Cz4
 refine G6 ?_;refine qjg Z Z Z Z<|G4 ?_;refine qaH (γ:=Nat) (fun k=>[(0,_),(2,_),(22,_),(23,.int .i64 (k:Int))]) (fun _=>_) (fun k tw=>Le D s tw∧(k≤l.length∧∀ i c,i < k→l[i]?=some c→qhT i c=true)) (fun k=>l.length - k) (fun _ _ _ h hl=>⟨h.1.trans hl,h.2⟩) 0 (.c4 Z Z Z Z (.nil _)) Z ⟨Le.refl _,⟨Nat.zero_le _,fun i c hi=>by omega⟩⟩ ?_;intro k s5 I5;have hk0:=I5.2.1;have hI:=I5.2.2;refine J6 ?_ ?_<;>intro c6
 ·have hk:k < l.length:=by omega
  obtain ⟨ch,hch⟩:∃ ch,l[k]?=some ch:=⟨_,List.getElem?_eq_getElem hk⟩;refine G11 ?_;refine qaL qab 22 Z _ (fun _ h=>h) fun s7 h7=>H2 ?_;refine za 2 Z (qhB Z Z Z Z hch) Z<|za 3 Z (qq1 Z Z) Z<|H1 ?_;refine qgr (t:=30) Z ?_ ?_<;>intro c8
  ·refine H2 ?_;refine zg 7 Z ⟨_,Z,Z⟩ (qhB Z Z Z Z hch) Z<|zg 8 Z ⟨_,Z,Z⟩ (qmM Z Z) Z<|H3 ?_;refine za 12 Z (qhB Z Z Z Z hch) Z<|za 13 Z (qq1 Z Z) Z<|H1 ?_;refine qgr (t:=40) Z ?_ ?_<;>intro c9
   ·refine H2 ?_;refine zg 17 Z ⟨_,Z,Z⟩ (qhB Z Z Z Z hch) Z<|zg 18 Z ⟨_,Z,Z⟩ (qmM Z Z) Z<|H3 ?_;refine qah V<|G6 ?_;refine qbg (t:=48) Z ?_ ?_<;>intro c10
    ·refine G6 ?_;refine qbg (t:=51) Z ?_ ?_<;>intro c11;·exact Ez58
     refine G9 ?_;exact qwh
    exact Ez27
   refine H7 ?_;refine qah V<|G6 ?_;refine qbg (t:=48) Z ?_ ?_<;>intro c10;·refine G3 ?_;refine qD6 Z Z<|G20 ?_;refine Zu ?_;exact qwk
   exact Ez27
  refine H7 ?_;refine za 12 Z (qhB Z Z Z Z hch) Z<|za 13 Z (qq1 Z Z) Z<|H1 ?_;refine qgr (t:=40) Z ?_ ?_<;>intro c9
  ·refine H2 ?_;refine zg 17 Z ⟨_,Z,Z⟩ (qhB Z Z Z Z hch) Z<|zg 18 Z ⟨_,Z,Z⟩ (qmM Z Z) Z<|H3 ?_;refine qah V<|G4 ?_;refine qD6 Z Z<|G7 ?_;refine qbg (t:=51) Z ?_ ?_<;>intro c10;·exact Ez58
   refine J9 ?_ ?_<;>intro c11;·refine G11 ?_;exact qwk
   refine G4 ?_;refine qaV Z Z Z (w64 O O)<|G2 ?_;have hOK:qhT k ch=true:=by simp only [qhT,qiH,qhF,Bool.or_eq_true,Bool.and_eq_true,decide_eq_true_eq,ne_eq];omega
   refine qaf ⟨(k+1),[],kp,Z,⟨(I5.1.t h7),⟨by omega,qcw hI hch hOK⟩⟩,O⟩
  refine H7 ?_;refine qah V<|G4 ?_;refine qD6 Z Z<|G4 ?_;refine qD6 Z Z<|G21 ?_;exact qwk
 refine G11 ?_;refine rR [] L (.t1 Z) Z I5.1 fun _ hS2=>?_;refine ⟨?_,Z⟩;have hb:=qoA (fun i c hi hc=>hI i c O hc);have h6:l.length≤6:=by omega
 simp [qbP,qnd,qa6,hb,h6, *];done
def qeZ(x:Ins)(A:Option Addr)(n c:Nat)(hA:Acs s A n c x.acts):AC prog D 94 [.agg #[St x.name,.int .u32 x.code,.bool x.operand,.slice A n c]] L s fun v L' _=>v=.int .i64 (qcy x)∧L=L':=by
 have hn:=hA.1;refine qad (fn:=f94) qao func94 V Z ntmps94 Z (rs:=[.tmp 2]) Z [(0,_)] Z<|Sr<|qar Z Z fun β1 s1 h1=>G9 ?_;refine Je Z Z Z (qiF D _ _ _) fun s2 h2=>G4 ?_;have e2:=h1.t h2;refine qc8 Z ?_ ?_<;>intro c3;·refine G8 ?_;refine rR [_] L (.t1 Z) Z e2 fun _ hS2=>?_;refine ⟨?_,Z⟩;simp [qbP,qcy, *];done
 refine J9 ?_ ?_<;>intro c4
 ·refine G8 ?_;refine rR [_] L (.t1 Z) Z e2 fun _ hS2=>?_;refine ⟨?_,Z⟩;have h8:8 < x.acts.length:=by omega
  simp [qbP,qcy,h8, *];done
 refine G13 ?_;refine qaH (γ:=Nat) (fun k=>[(1,_),(2,_),(17,_),(18,_),(19,.int .i64 (k:Int))]) (fun _=>_) (fun k tw=>Le D s2 tw∧(k≤n∧∀ i a,i < k→x.acts[i]?=some a→qeW a x.operand=0)) (fun k=>n - k) (fun _ _ _ h hl=>⟨h.1.trans hl,h.2⟩) 0 (.c5 Z Z Z Z Z (.nil _)) Z ⟨Le.refl _,⟨Nat.zero_le _,fun i c hi=>by omega⟩⟩ ?_;intro k s5 I5;have hI:=I5.2.2;refine J6 ?_ ?_<;>intro c6
 ·have hk:k < n:=by omega
  obtain ⟨b,off,a,rfl,ha,hca,hau⟩:=Acs.at_ (hA.le (e2.t I5.1)) hk;refine G6 ?_;refine qae (qaw Z Z Z Z Z Z hk) Z<|qae (qat Z Z Z hca Z) Z<|qac Z [_,_,_,_,_,_] Z Z fun β7 s7 h7=>Wt 0 [_,_,_,_,_,_] Y9<|Nt<|Sr<|qae (qaj 0 [_,_,_,_,_,_] Z Z Z Z Z) Z<|G2 ?_;refine Je Z Z Z (qhE D _ _ _ _) fun s8 h8=>G9 ?_;refine qaR Z ?_ ?_<;>intro c9
  ·have hz:qeW a x.operand≠0:=by simpa using c9
   refine G12 ?_;refine rR [_,_] L (.t1 Z) Z (e2.t I5.1|>.t h7|>.t h8) fun _ hS2=>?_;refine ⟨?_,Z⟩;have h8:¬ 8 < x.acts.length:=by omega
   simp [qbP,qcy,h8,qk7 hI ha hz, *];done
  have hz:qeW a x.operand=0:=by simpa using c9
  refine G4 ?_;refine qaV Z Z Z (w64 O O)<|G2 ?_;refine qaf ⟨(k+1),[_],kp,Z,⟨(I5.1.t h7|>.t h8),⟨by omega,qcw hI ha hz⟩⟩,O⟩
 refine G11 ?_;refine rR [_] L (.t1 Z) Z (e2.t I5.1) fun _ hS2=>?_;refine ⟨?_,Z⟩;have h8:¬ 8 < x.acts.length:=by omega
 simp [qbP,qcy,h8,qjS (fun i a hi h=>hI i a O h), *];done
def Ez82{p:Prop} (h:p:=by
 exact rR [_] ((β,cb [St x.name,.int .u32 x.code,.bool x.operand,.slice A n c] 84)::L) (.t1 Z) Z h1 fun _ hS2=>⟨by simp_all [qbP,qf4],rfl⟩):p:=h
def qkC(x y:Ins)(A A':Option Addr)(n c n' c' β:Nat):AC prog D 96 [.agg #[St y.name,.int .u32 y.code,.bool y.operand,.slice A' n' c'],.pointer (some ⟨β,0,none⟩)] ((β,cb [St x.name,.int .u32 x.code,.bool x.operand,.slice A n c] 84)::L) s fun v L' _=>v=.bool (qf4 x y)∧(β,cb [St x.name,.int .u32 x.code,.bool x.operand,.slice A n c] 84)::L=L':=by
 refine qad (fn:=f96) qao func96 V Z ntmps96 Z (rs:=[.tmp 3]) Z [(0,_),(1,_)] Z<|Sr<|qar Z Z fun β1 s1 h1=>G9 ?_;refine qio Z Z Z<|Zqm Z Z<|?_;refine qap (t:=9) Z ?_ ?_<;>intro c2;·refine G10 ?_;exact Ez82
 refine G15 ?_;exact Ez82
def qgb(A:Option Addr)(n c:Nat)(l:List Ins)(hA:Inss s A n c l)(f:FuncId)(cap:List Value)(p:Ins→Bool)(hp:∀ s' x A' n' c',AC prog D f ([.agg #[St x.name,.int .u32 x.code,.bool x.operand,.slice A' n' c']]++cap) L s' fun v L' _=>v=.bool (p x)∧L=L'):AC prog D 129 [.slice A n c,.func (.func f) #[] cap.toArray] L s fun v L' _=>v=.int .i64 (qaN p l 0)∧L=L':=by
 have hn:=hA.1;have hc1:=hA.2.1;have hc2:=hA.2.2.1;refine qad (fn:=f129) qao func129 V Z ntmps129 Z (rs:=[.tmp 4]) Z [(0,_),(1,_)] Z<|G14 ?_;refine qaH (γ:=Nat) (fun k=>[(0,_),(1,_),(4,_),(7,_),(8,.int .i64 (k:Int))]) (fun _=>_) (fun k tw=>Le D s tw∧(k≤n∧∀ i x,i < k→l[i]?=some x→p x=false)) (fun k=>n - k) (fun _ _ _ h hl=>⟨h.1.trans hl,h.2⟩) 0 (.c5 Z Z Z Z Z (.nil _)) Z ⟨Le.refl _,⟨Nat.zero_le _,fun i c hi=>by omega⟩⟩ ?_;intro k s1 I1;have hI:=I1.2.2;refine J6 ?_ ?_<;>intro c2
 ·have hk:k < n:=by omega
  obtain ⟨b,off,x,A',n',c',rfl,hx,hcx,hax,hnl,hcd⟩:=Inss.at_ (hA.le I1.1) hk;refine G15 ?_;refine qae (qaw Z Z Z Z Z Z hk) Z<|qae (qat Z Z Z hcx Z) Z<|qcN (first:=[]) (captured:=cap) Z Z Z (hp _ x _ _ _) ?_;rintro _ _ s3 h3 ⟨rfl,rfl⟩;refine G2 ?_;refine qd1 Z ?_ ?_<;>intro c4;·have hz:=c4;refine G12 ?_;refine rR [] L (.t1 Z) Z (I1.1.t h3) fun _ hS2=>?_;refine ⟨?_,Z⟩;simp [qbP,qee hI hx hz];done
  have hz:=c4;refine G4 ?_;refine qaV Z Z Z (w64 O O)<|G2 ?_;refine qaf ⟨(k+1),[],kp,Z,⟨(I1.1.t h3),⟨by omega,qcw hI hx hz⟩⟩,O⟩
 refine G11 ?_;refine rR [] L (.t1 Z) Z I1.1 fun _ hS2=>?_;refine ⟨?_,Z⟩;simp [qbP,qfT (fun i a hi h=>hI i a O h)];done
def qgV(A:Option Addr)(n c:Nat)(l:List Ins)(hA:Inss s A n c l)(f:FuncId)(cap:List Value)(p:Ins→Bool)(hp:∀ s' x A' n' c',AC prog D f ([.agg #[St x.name,.int .u32 x.code,.bool x.operand,.slice A' n' c']]++cap) L s' fun v L' _=>v=.bool (p x)∧L=L'):AC prog D 95 [.slice A n c,.func (.func f) #[] cap.toArray] L s fun v L' _=>v=.bool (l.any p)∧L=L':=by
 refine qad (fn:=f95) qao func95 V Z ntmps95 Z (rs:=[.tmp 4]) Z [(0,_),(1,_)] Z<|G9 ?_;refine Je Z Z Z (qgb D _ _ _ _ _ l hA f cap p hp) fun s1 h1=>qi6 Z Z Z<|G4 ?_;exact rX [] L Z h1 fun _ hS2=>⟨by simp only [qbP,qjY],rfl⟩
def Cz6{p:Prop} (h:p:=by
 refine ⟨?_,Z⟩;have h0:t.cells < 1∨65536 < t.cells:=by omega
 simp [qbP,qaG,h0];done):p:=h
def qfa(t:Tab)(A:Option Addr)(n c:Nat)(hA:Inss s A n c t.ins):AC prog D 52 [.agg #[.int .i64 t.cells,.slice A n c]] L s fun v L' _=>v=.agg #[.int .i64 (qaG t).1,.int .i64 (qaG t).2]∧L=L':=by
 have hn:=hA.1;have hc1:=hA.2.1;have hc2:=hA.2.2.1;refine qad (fn:=f52) qao func52 V Z ntmps52 Z (rs:=[.cell 2 30]) Z [(0,_)] Z<|Sr<|qar Z Z fun β1 s1 h1=>qac Z [_,_] Z Z fun β2 s2 h2=>G10 ?_;have e2:=h1.t h2;refine qap (t:=10) Z ?_ ?_<;>intro c3;·refine G10 ?_;refine Je Z Z Z (qbE D _ _ _ _) fun s4 h4=>Wt 0 [_,_] Y9<|G5 ?_;exact rR [_,_] L (.agg (us:=[_,_]) 0 Z Z Z Z Z (.nil)) Z (e2.t h4) fun _ hS2=>Cz6
 refine J10 ?_ ?_<;>intro c4;·refine Sr<|Je Z Z Z (qbE D _ _ _ _) fun s5 h5=>Wt 0 [_,_] Y9<|G5 ?_;exact rR [_,_] L (.agg (us:=[_,_]) 0 Z Z Z Z Z (.nil)) Z (e2.t h5) fun _ hS2=>Cz6
 refine J9 ?_ ?_<;>intro c5
 ·refine Sr<|Je Z Z Z (qbE D _ _ _ _) fun s6 h6=>Wt 0 [_,_] Y9<|G5 ?_;refine rR [_,_] L (.agg (us:=[_,_]) 0 Z Z Z Z Z (.nil)) Z (e2.t h6) fun _ hS2=>?_;refine ⟨?_,Z⟩;have h0:¬ (t.cells < 1∨65536 < t.cells):=by omega
  have h1:64 < t.ins.length:=by omega
  simp [qbP,qaG,h0,h1];done
 refine G13 ?_;refine qaH (γ:=Nat) (fun k=>[(1,_),(2,_),(23,_),(24,_),(25,.int .i64 (k:Int))]) (fun _=>_) (fun k tw=>Le D s2 tw∧(k≤n∧∀ i,i < k→qdg t.ins i=0)) (fun k=>n - k) (fun _ _ _ h hl=>⟨h.1.trans hl,h.2⟩) 0 (.c5 Z Z Z Z Z (.nil _)) Z ⟨Le.refl _,⟨Nat.zero_le _,fun i hi=>by omega⟩⟩ ?_;intro k s6 I6;have e6:=e2.t I6.1;have hk0:=I6.2.1;have hI:=I6.2.2;refine J6 ?_ ?_<;>intro c7
 ·have hk:k < n:=by omega
  obtain ⟨b,off,x,A',n',c',rfl,hx,hcx,hax,hnl,hcd⟩:=Inss.at_ (hA.le e6) hk;refine G7 ?_;refine qae (qaw Z Z Z Z Z Z hk) Z<|qae (qat Z Z Z hcx Z) Z<|qac Z [_,_,_,_] Z Z fun β8 s8 h8=>Zqa Z Z<|Wt 0 [_,_,_,_] Y9<|Nt<|Zs<|Sr<|qae (qaj 0 [_,_,_,_] Z Z Z Z Z) Z<|Je Z Z Z (qeZ D _ _ _ _ _ _ (hax.le h8)) fun s9 h9=>G9 ?_;have e9:=e6.t h8|>.t h9;refine qaR Z ?_ ?_<;>intro c10
  ·have hz:qcy x≠0:=by simpa using c10
   refine G4 ?_;refine Je Z Z Z (qbE D _ _ _ _) fun s11 h11=>Wt 1 [_,_] Y9<|G9 ?_;refine rR [_,_,_] L (.agg (us:=[_,_]) 1 Z Z Z Z Z (.nil)) Z (e9.t h11) fun _ hS2=>?_;refine ⟨?_,Z⟩;have h0:¬ (t.cells < 1∨65536 < t.cells):=by omega
   have h1:¬ 64 < t.ins.length:=by omega
   have hr:qdg t.ins k=qcy x:=by simp [qdg,hx,hz]
   have hb:=qf7 (f:=qdg t.ins) (m:=t.ins.length) (j:=0) (k:=k) (fun i _ hi=>hI i hi) O (by rw [hr];exact hz) O;simp [qbP,qaG,h0,h1,hb,hr];done
  have hz:qcy x=0:=by simpa using c10
  refine G7 ?_;refine qae (qgJ Z Z Z Z Z O) Z<|qae (qbj Z) Z<|Je Z Z Z (qgV D _ _ _ _ _ (t.ins.take k) (Inss.take (hA.le e9) hk) _ _ (qf4 x) (fun s' y A'' n'' c''=>qkC D _ _ _ _ _ _ _ _ _ _ _)) fun s11 h11=>G2 ?_;refine qd1 Z ?_ ?_<;>intro c12
  ·have hy:=c12;refine Sr<|Zqm Z Z<|Je Z Z Z (qbE D _ _ _ _) fun s13 h13=>Wt 1 [_,_] Y9<|G8 ?_;refine rR [_,_,_] L (.agg (us:=[_,_]) 1 Z Z Z Z Z (.nil)) Z (e9.t h11|>.t h13) fun _ hS2=>?_;refine ⟨?_,Z⟩;have h0:¬ (t.cells < 1∨65536 < t.cells):=by omega
   have h1:¬ 64 < t.ins.length:=by omega
   have hr:qdg t.ins k=8:=by simp [qdg,hx,hz,hy]
   have hb:=qf7 (f:=qdg t.ins) (m:=t.ins.length) (j:=0) (k:=k) (fun i _ hi=>hI i hi) O (by rw [hr];decide) O;simp [qbP,qaG,h0,h1,hb,hr];done
  have hy:=c12;refine G4 ?_;refine qaV Z Z Z (w64 O O)<|G2 ?_;refine qaf ⟨(k+1),[_],kp,rfl,⟨(I6.1.t h8|>.t h9|>.t h11),⟨by omega,fun i hi=>by rcases Nat.lt_succ_iff_lt_or_eq.1 hi with h|rfl;exact hI i h;simp [qdg,hx,hz,hy]⟩⟩,O⟩
 refine G7 ?_;refine qae (qai [] [_,_] Z Z Z Z Z Z) Z<|Wt 0 [_,_] Y9<|G3 ?_;refine rR [_,_] L (.agg (us:=[_,_]) 0 Z Z Z Z Z (.nil)) Z e6 fun _ hS2=>?_;refine ⟨?_,Z⟩;have h0:¬ (t.cells < 1∨65536 < t.cells):=by omega
 have h1:¬ 64 < t.ins.length:=by omega
 have hb:=qiz (f:=qdg t.ins) (m:=t.ins.length) (j:=0) (fun i _ hi=>hI i O);simp [qbP,qaG,h0,h1,hb];done
def qqU{p:Prop} (h:p:=by
 exact rY Z fun _ hS2=>⟨by simp [qbP, *],rfl⟩):p:=h
def qFs(x lo hi:Int):AC Tryz.prog D 7 [.int .i64 x,.int .i64 lo,.int .i64 hi] L s fun v L' _=>v=.bool (decide (lo≤x∧x≤hi))∧L=L':=by
 refine qad (fn:=Tryz.f7) qao Tryz.func7 V Z Tryz.ntmps7 Z (rs:=[.tmp 6]) Z [(0,_),(1,_),(2,_)] Z<|G9 ?_;refine qi6 Z Z Z<|Zqm Z Z<|?_;refine qap (t:=10) Z ?_ ?_<;>intro c1;·refine G5 ?_;refine qwQ Z Z Z<|G5 ?_;exact qqU
 refine G8 ?_;exact qqU
end Go.Proofs.YtlfiplbamnpgoaaGreatDoor
namespace Go.FL
open Go Go.RowKit Go.Proofs.YtlfiplbamnpgoaaGreatDoor
def qmR(l:List UInt8)(r:ByteArray):(l.map (fun x=>(x.toNat:Int))).foldl (fun r n=>r.push (UInt8.ofNat n.toNat)) r=⟨r.data++l.toArray⟩:=by
 induction l generalizing r with
 | nil=>cases r;simp
 | cons x l ih=>
  simp only [List.map_cons,List.foldl_cons,ih];apply ByteArray.ext;simp [ByteArray.push]
def qje{P:Program}{TT:qaM}{D:Nat}{fr:Fr}{ty:Nat}{K:Hl}{s0:World}{x:Operand}{t t' e:Nat}{A:Option Addr}{n c:Nat}{l:List UInt8}{ti ti' te:TI}(hx:lk fr x=some (.slice A n c))(ht:qay TT t=some ti)(hk:ti.kind=.sl e)(he:qay TT e=some te)(hke:te.desc=.int .u8)
  (ht':qay TT t'=some ti') (hk':ti'.desc=.string) (h:Bts s0 A n c l):QE P TT D fr (.convert t t' x) ty K s0 (St l):=fun hT dst pos af g ρ hρ L s ho hl _=>by
 obtain ⟨k1,k2,_⟩:=hT.at_ ht;rw [hk] at k2;simp only [TK.fits] at k2;rw [k2] at k1;have k3:=(hT.at_ he).1;rw [hke] at k3;have k4:=(hT.at_ ht').1;rw [hk'] at k4;have hc:=run_convert_bytes_string (P:=P) (fill L s) t t' e A n c k1 k3 k4;simp only [execOp,hρ x _ hx,Sem.run_bind,hc];cases A with
 | none=>
  have:l=[]:=by
   cases l with
   | nil=>rfl
   | cons y l=>obtain ⟨b,off,cs,h1,_⟩:=h.2.2.2 0 y rfl;cases h1
  subst this;simp [Conv.bytesToString];rfl
 | some a=>
  have hcells:∀ j v,(l.map (fun x=>Value.int .u8 (x.toNat:Int)))[j]?=some v→(fill L s).cell? (a.add j)=some v:=fun j v hj=>by
   rw [List.getElem?_map] at hj;cases hx:l[j]? with
   | none=>simp [hx] at hj
   | some y=>
    simp [hx] at hj;obtain ⟨b,off,cs,h1,h2,h3,rfl⟩:=h.2.2.2 j y hx;injection h1 with h1;subst h1
    have:=h2 0 _ rfl;rw [add_lit,← hj];simpa using qec ho (hl.cell this)
  have hload:=run_loadCells_list (P:=P) (fill L s) a (l.map (fun x=>Value.int .u8 (x.toNat:Int))) hcells;rw [List.length_map,← h.1] at hload;have hr:=run_bytesToString (P:=P) (fill L s) a n c (l.map (fun x=>(x.toNat:Int))) (by rw [hload,List.map_map];rfl);rw [hr,qmR];have he:(⟨ByteArray.empty.data++l.toArray⟩:ByteArray)=⟨l.toArray⟩:=by apply ByteArray.ext;exact Array.empty_append
  simp only [Result.andThen_ok,Sem.run_pure,he]
end Go.FL
namespace Go.Proofs.YtlfiplbamnpgoaaGreatDoor
open Go Go.FL
variable(D:Nat)(L:Hl)(s:World)
def qiA(f:Nat→Int)(m j:Nat):(qcc f m j).1=0→(qcc f m j).2=0:=by
 induction m generalizing j with
 | zero=>intro _;rfl
 | succ m ih=>
  simp only [qcc];split
  · intro h;contradiction
  · exact ih _
def qiZ(t:Tab):(qaG t).1=0→(qaG t).2=0:=by
 unfold qaG;split
 · intro h;cases h
 split
 · intro h;cases h
 · exact qiA _ _ _
def qbF(t:Tab)(m:Mst):Int×Int:=
 if (qaG t).1≠0 then qaG t
 else if (m.cells.length:Int)≠t.cells then (9,-2)
 else if 400000 < m.input.length∨20000 < m.output.length then (3,-2)
 else if m.stop < 0∨5 < m.stop then (4,-2)
 else if m.code≠0∧m.stop≠1 then (6,-2)
 else (0,0)
def qaP(t:Tab)(image:List Int)(input:List UInt8):Int×Int:=
 if (qaG t).1≠0 then qaG t
 else if t.cells < (image.length:Int) then (3,-2)
 else if 400000 < input.length then (3,-3)
 else (0,0)
open Go.Proofs.Tryz
open Go.FL
attribute [local irreducible] JC JO JA JB qaJ qax qbN AC fill CellsAt QE Ev Mid
def qgf(A:Option Addr)(n c:Nat)(l:List UInt8)(hA:Bts s A n c l)(A1:Option Addr)(n1 c1:Nat)(l1:List UInt8)(hB:Bts s A1 n1 c1 l1):AC prog D 12 [.slice A n c,.slice A1 n1 c1] L s fun v L' _=>v=.bool (decide (l=l1))∧L=L':=by
 refine qad (fn:=f12) qao func12 V Z ntmps12 Z (rs:=[.tmp 4]) Z [(0,_),(1,_)] Z<|G8 ?_;refine qae (qje Z Z Z Z Z Z Z (hA.le (Lr D))) Z<|Zqm Z Z<|qae (qje Z Z Z Z Z Z Z (hB.le (Lr D))) Z<|qio Z Z Z<|G4 ?_;exact rY Z fun _ hS2=>Cz0
def Cz7{p:Prop} (h:p:=by
 exact ⟨by simp only [qbP,qbF] at *;grind,rfl⟩):p:=h
def qwb{p:Prop} (h:p:=by
 exact rR [_,_,_,_] L (.agg (us:=[_,_]) 1 Z Z Z Z Z (.nil)) Z (h1.t h2|>.t h3|>.t h4|>.t h5) fun _ hS2=>Cz7):p:=h
def quS(t:Tab)(A:Option Addr)(n c:Nat)(hA:Inss s A n c t.ins)(m:Mst)(Ax Bx Ox:Option Addr)(nAx cAx nBx cBx nOx cOx:Nat)(hAx:Wds s Ax nAx cAx m.cells)(hBx:Bts s Bx nBx cBx m.input)(hOx:Bts s Ox nOx cOx m.output):AC prog D 54 [.agg #[.int .i64 t.cells,.slice A n c],.agg #[.slice Ax nAx cAx,.int .u32 m.r0,.int .u32 m.r1,.int .u32 m.r2,.int .u32 m.r3,.int .u32 m.r4,.slice Bx nBx cBx,.slice Ox nOx cOx,.int .i64 m.stop,.int .u32 m.code]] L s fun v L' _=>v=.agg #[.int .i64 (qbF t m).1,.int .i64 (qbF t m).2]∧L=L':=by
 have hn1:=hAx.1;have hn2:=hBx.1;have hn3:=hOx.1;have hF:=qiZ t;refine qad (fn:=f54) qao func54 V Z ntmps54 Z (rs:=[.cell 4 30]) Z [(0,_),(1,_)] Z<|Sr<|qar Z Z fun β1 s1 h1=>qar Z Z fun β2 s2 h2=>qac Z [_,_] Z Z fun β3 s3 h3=>Nt<|Zs<|Sr<|qae (qaj 2 [_,_] Z Z Z Z Z) Z<|Je Z Z Z (qfa D _ _ _ _ _ _ (hA.le (h1.t h2|>.t h3))) fun s4 h4=>qac Z [_,_] Z Z fun β5 s5 h5=>Wt 0 [_,_] Y9<|Nt<|Sr<|qae (qaj 0 [_,_] Z Z Z Z Z) Z<|qae (qai [] [_,_] Z Z Z Z Z Z) Z<|qae (qcU Z Z (qb3 _ _ _ _)) Z<|G2 ?_;have e5:=h1.t h2|>.t h3|>.t h4|>.t h5;refine qaR Z ?_ ?_<;>intro c6;·refine Sr<|qae (qaj 0 [_,_] Z Z Z Z Z) Z<|Wt 1 [_,_] Y9<|G4 ?_;exact qwb
 refine G10 ?_;refine Wl 3 Y6<|G4 ?_;refine qaR Z ?_ ?_<;>intro c7;·refine Sr<|Je Z Z Z (qbE D _ _ _ _) fun s8 h8=>Wt 1 [_,_] Y9<|G5 ?_;exact rR [_,_,_,_] L (.agg (us:=[_,_]) 1 Z Z Z Z Z (.nil)) Z (e5.t h8) fun _ hS2=>Cz7
 refine G7 ?_;refine qap (t:=25) Z ?_ ?_<;>intro c8;·refine G11 ?_;refine Je Z Z Z (qbE D _ _ _ _) fun s9 h9=>Wt 1 [_,_] Y9<|G5 ?_;exact rR [_,_,_,_] L (.agg (us:=[_,_]) 1 Z Z Z Z Z (.nil)) Z (e5.t h9) fun _ hS2=>Cz7
 refine J12 ?_ ?_<;>intro c9;·refine Sr<|Je Z Z Z (qbE D _ _ _ _) fun s10 h10=>Wt 1 [_,_] Y9<|G5 ?_;exact rR [_,_,_,_] L (.agg (us:=[_,_]) 1 Z Z Z Z Z (.nil)) Z (e5.t h10) fun _ hS2=>Cz7
 refine G6 ?_;refine qap (t:=36) Z ?_ ?_<;>intro c10;·refine G10 ?_;refine Je Z Z Z (qbE D _ _ _ _) fun s11 h11=>Wt 1 [_,_] Y9<|G5 ?_;exact rR [_,_,_,_] L (.agg (us:=[_,_]) 1 Z Z Z Z Z (.nil)) Z (e5.t h11) fun _ hS2=>Cz7
 refine J10 ?_ ?_<;>intro c11;·refine Sr<|Je Z Z Z (qbE D _ _ _ _) fun s12 h12=>Wt 1 [_,_] Y9<|G5 ?_;exact rR [_,_,_,_] L (.agg (us:=[_,_]) 1 Z Z Z Z Z (.nil)) Z (e5.t h12) fun _ hS2=>Cz7
 refine G6 ?_;refine qbg (t:=46) Z ?_ ?_<;>intro c12
 ·refine G10 ?_;refine qaR Z ?_ ?_<;>intro c13;·refine Sr<|Je Z Z Z (qbE D _ _ _ _) fun s14 h14=>Wt 1 [_,_] Y9<|G5 ?_;exact rR [_,_,_,_] L (.agg (us:=[_,_]) 1 Z Z Z Z Z (.nil)) Z (e5.t h14) fun _ hS2=>Cz7
  refine G5 ?_;refine qae (qai [] [_,_] Z Z Z Z Z Z) Z<|Wt 1 [_,_] Y9<|G3 ?_;exact qwb
 refine G13 ?_;refine qae (qai [] [_,_] Z Z Z Z Z Z) Z<|Wt 1 [_,_] Y9<|G3 ?_;exact qwb
end Go.Proofs.YtlfiplbamnpgoaaGreatDoor
namespace Go.FL
open Go Go.RowKit
section
variable{P:Program}{D:Nat}{L:Hl}{s:World}
def AC.pub{f:FuncId}{args:List Value}{R:Value→Hl→World→Prop}(h:AC P D f args L s (fun v L' s'=>∃ M',L'=M'++L∧R v M' s')) :
  AC P D f args L s (fun v L' s'=>L=L'∧∃ M' s1,R v M' s1∧Le D s1 s'∧∀ b zs t,(b,cb zs t)∈M'→CellsAt s' b 0 zs):=by
 refine ⟨h.1,fun ho=>(h.2 ho).mono ?_⟩;rintro e w' ⟨v,L',s',h1,rfl,h3,h4,M',rfl,h6⟩;obtain ⟨d1,d2,d3⟩:=qbp h3;refine ⟨v,L,fill M' s',h1,d1,d2,h4.trans d3,Z,M',s',h6,d3,fun b zs t hm j u hj=>?_⟩;rw [qc2 h3.left hm,Nat.zero_add];exact hj
end
end Go.FL
namespace Go.Proofs.YtlfiplbamnpgoaaGreatDoor
open Go Go.FL
variable{s:World}{A Ad:Option Addr}{n c e:Nat}{l:List UInt8}
def wv(l:List Int):List Value:=l.map (Value.int .u32)
def bv(l:List UInt8):List Value:=l.map fun x=>Value.int .u8 (x.toNat:Int)
def iv(l:List Int):List Value:=l.map (Value.int .i64)
def av(l:List Ac):List Value:=l.flatMap Ac.cs
def qdZ(l:List Int):(wv l).length=l.length:=by simp [wv]
def qB3(l:List UInt8):(bv l).length=l.length:=by simp [bv]
def Wds.row{l:List Int}(h:Wds s A n c l):Row s A n 1 (wv l):=
 ⟨by simp [wv,h.1],fun u hu=>by simp [wv] at hu;obtain ⟨x,_,rfl⟩:=hu;rfl,fun j u hj=>by
  simp only [wv,List.getElem?_map] at hj;cases hx:l[j]? with
  | none=>simp [hx] at hj
  | some x=>
   simp [hx] at hj;subst hj;obtain ⟨b,off,cs,h1,h2,_,rfl,_⟩:=h.2.2.2 j x hx;exact ⟨b,off,h1,by simpa using h2 0 _ rfl⟩⟩
def Bts.row(h:Bts s A n c l):Row s A n 1 (bv l):=
 ⟨by simp [bv,h.1],fun u hu=>by simp [bv] at hu;obtain ⟨x,_,rfl⟩:=hu;rfl,fun j u hj=>by
  simp only [bv,List.getElem?_map] at hj;cases hx:l[j]? with
  | none=>simp [hx] at hj
  | some x=>
   simp [hx] at hj;subst hj;obtain ⟨b,off,cs,h1,h2,_,rfl⟩:=h.2.2.2 j x hx;exact ⟨b,off,h1,by simpa using h2 0 _ rfl⟩⟩
def Bts.nil(s:World)(A:Option Addr)(c:Nat)(hc:c≤9223372036854775807):Bts s A 0 c []:=⟨rfl,Nat.zero_le _,hc,fun i x h=>by cases h⟩
def Wds.nil(s:World)(A:Option Addr)(c:Nat)(hc:c≤9223372036854775807):Wds s A 0 c []:=⟨rfl,Nat.zero_le _,hc,fun i x h=>by cases h⟩
def Own.slice{sz:Nat}{A:Hl}{v:Value}{xs:List Value}(h:FL.Own e sz A v n xs):∃ Ad c,v=.slice Ad n c∧n≤c∧c≤9223372036854775807:=by
 cases h with
 | nil=>exact ⟨none,0,rfl,Nat.le_refl _,by omega⟩
 | blk b cap n xs ys hn hc hnc hm=>exact ⟨_,cap,rfl,hnc,hm⟩
def Own.bts{A:Hl}(h:FL.Own e 1 A (.slice Ad n c) n (bv l))(hp:∀ b zs t,(b,cb zs t)∈A→CellsAt s b 0 zs):Bts s Ad n c l:=by
 generalize hv:Value.slice Ad n c=v at h;generalize hx:bv l=xs at h;cases h with
 | nil=>
  injection hv with e1 e2 e3;have:l=[]:=by cases l with
   | nil=>rfl
   | cons y l=>simp [bv] at hx
  subst this;subst e3;exact Bts.nil s Ad 0 O
 | blk b cap n xs ys hn hc hnc hm=>
  injection hv with e1 e2 e3;subst e1;subst e3;subst hx;refine ⟨by simpa [bv] using hn.symm,hnc,hm,fun i x hi=>⟨b,0,[.int .u8 (x.toNat:Int)],Z,fun j u hj=>?_,Z,Z⟩⟩;have hc:=hp b _ e Mc;cases j with
  | zero=>
   simp at hj;subst hj;have:=hc i (.int .u8 (x.toNat:Int)) (by rw [List.getElem?_append_left (by simp [bv];exact (List.getElem?_eq_some_iff.1 hi).1)];simp [bv,hi]);simpa using this
  | succ j=>simp at hj
def Own.wds{A:Hl}{l:List Int}(h:FL.Own e 1 A (.slice Ad n c) n (wv l))(hu:∀ x∈l,U32 x)(hp:∀ b zs t,(b,cb zs t)∈A→CellsAt s b 0 zs):Wds s Ad n c l:=by
 generalize hv:Value.slice Ad n c=v at h;generalize hx:wv l=xs at h;cases h with
 | nil=>
  injection hv with e1 e2 e3;have:l=[]:=by cases l with
   | nil=>rfl
   | cons y l=>simp [wv] at hx
  subst this;subst e3;exact Wds.nil s Ad 0 O
 | blk b cap n xs ys hn hc hnc hm=>
  injection hv with e1 e2 e3;subst e1;subst e3;subst hx;refine ⟨by simpa [wv] using hn.symm,hnc,hm,fun i x hi=>⟨b,0,[.int .u32 x],Z,fun j u hj=>?_,Z,Z,hu x (List.mem_of_getElem? hi)⟩⟩;have hc:=hp b _ e Mc;cases j with
  | zero=>
   simp at hj;subst hj;have:=hc i (.int .u32 x) (by rw [List.getElem?_append_left (by simp [wv];exact (List.getElem?_eq_some_iff.1 hi).1)];simp [wv,hi]);simpa using this
  | succ j=>simp at hj
def Wds.u32{l:List Int}(h:Wds s A n c l):∀ x∈l,U32 x:=fun x hx=>by
 obtain ⟨i,hi⟩:=List.getElem?_of_mem hx;obtain ⟨b,off,cs,h1,h2,_,rfl,h4⟩:=h.2.2.2 i x hi;exact h4
def Bts.tail{x:UInt8}(h:Bts s A n c (x::l)):Bts s (if c=1 then A else A.map (·.add (1 * 1))) (n - 1) (c - 1) l:=
 ⟨by have:=h.1;simp at this;omega,by have:=h.2.1;omega,by have:=h.2.2.1;omega,fun i y hi=>by
  obtain ⟨b,off,cs,h1,h2,h3,h4⟩:=h.2.2.2 (i+1) y (by simpa using hi);have hl:i < l.length:=(List.getElem?_eq_some_iff.1 hi).1;have hn:=h.1;simp at hn;have hc:=h.2.1;subst h1;refine ⟨b,off+1,cs,?_,?_,h3,h4⟩
  · rw [if_neg O];simp [add_lit]
  · rw [show off+1+i * 1=off+(i+1) * 1 by omega];exact h2⟩
def qg3(m:Mst)(i:Int):Int:=if i=0 then m.r0 else if i=1 then m.r1 else if i=2 then m.r2 else if i=3 then m.r3 else m.r4
def qdo(m:Mst)(i v:Int):Mst:={ m with r0:=if i=0 then v else m.r0,r1:=if i=1 then v else m.r1,r2:=if i=2 then v else m.r2,r3:=if i=3 then v else m.r3,r4:=if i=4 then v else m.r4 }
def qbY(m:Mst)(op:Int)(x:Tm):Int:=if x.kind=1 then qg3 m x.val else if x.kind=2 then op else x.val
def w32(x:Int):Int:=x % 4294967296
def comp(k x y:Int):Int:=
 if k=1 then w32 (x+y) else if k=2 then w32 (x - y) else if k=3 then w32 (x * y) else if k=4 then x / y else if k=5 then x % y
 else if k=6 then ((x.toNat &&& y.toNat:Nat):Int) else if k=7 then ((x.toNat ||| y.toNat:Nat):Int) else if k=8 then ((x.toNat ^^^ y.toNat:Nat):Int)
 else if k=9 then (((x.toNat <<< y.toNat) % 4294967296:Nat):Int) else if k=10 then ((x.toNat >>> y.toNat:Nat):Int)
 else if k=11 then (if x=y then 1 else 0) else if k=12 then (if x < y then 1 else 0) else x
def qbz(m:Mst)(a:Ac)(op:Int):Mst:=
 let x:=qbY m op a.x;let y:=qbY m op a.y
 if (a.kind=4∨a.kind=5)∧y=0 then { m with stop:=4 }
 else if (a.kind=13∨a.kind=14)∧(m.cells.length:Int)≤x then { m with stop:=3 }
 else if a.kind=16∧m.output.length=20000 then { m with stop:=5 }
 else if a.kind=13 then qdo m a.tgt (m.cells.getD x.toNat 0)
 else if a.kind=14 then { m with cells:=m.cells.set x.toNat y }
 else if a.kind=15 then (match m.input with
  | []=>qdo m a.tgt 4294967295
  | c::r=>{ qdo m a.tgt (c.toNat:Int) with input:=r })
 else if a.kind=16 then { m with output:=m.output++[UInt8.ofNat (x.toNat % 256)] }
 else if a.kind=17∨(a.kind=18∧y=0) then { m with stop:=1,code:=x }
 else if a.kind≤12∨(a.kind=19∧y=0) then qdo m a.tgt (comp a.kind x y)
 else m
def qbu(m:Mst)(op:Int):List Ac→Mst
 | []=>m
 | a::r=>if (qbz m a op).stop=0 then qbu (qbz m a op) op r else qbz m a op
def qeI(ins:List Ins)(c:Int):Option Ins:=ins.find? fun x=>decide (x.code=c)
def qbi(t:Tab)(m:Mst):Mst:=
 if (m.cells.length:Int)≤m.r4 then { m with stop:=3 }
 else match qeI t.ins (m.cells.getD m.r4.toNat 0) with
  | none=>{ m with stop:=2 }
  | some x=>
   if x.operand then
    if m.r4+1=(m.cells.length:Int) then { m with stop:=3 } else qbu { m with r4:=m.r4+2 } (m.cells.getD (m.r4+1).toNat 0) x.acts
   else qbu { m with r4:=m.r4+1 } 0 x.acts
def qd4(t:Tab)(m:Mst):Nat→Mst×Nat
 | 0=>(m,0)
 | n+1=>if m.stop=0 then ((qd4 t (qbi t m) n).1,(qd4 t (qbi t m) n).2+1) else (m,0)
def qfb(ins:List Ins)(c:Int):Nat→Nat
 | 0=>0
 | k+1=>match ins[k]? with
  | some x=>if x.code=c then k+1 else qfb ins c k
  | none=>qfb ins c k
structure MOK(m:Mst):Prop where
 cells:m.cells.length≤65536
 wide:∀ x∈m.cells,U32 x
 u0:U32 m.r0
 u1:U32 m.r1
 u2:U32 m.r2
 u3:U32 m.r3
 u4:U32 m.r4
 output:m.output.length≤20000
 input:m.input.length≤400000
 code:U32 m.code
end Go.Proofs.YtlfiplbamnpgoaaGreatDoor
namespace Go.FL
open Go Go.RowKit Go.Proofs.YtlfiplbamnpgoaaGreatDoor
def qaC{P:Program}{TT:qaM}{D:Nat}{fr:Fr}{ty:Nat}{op:Op}{K:Hl}{s0:World}{v v':Value}(h:QE P TT D fr op ty K s0 v)(e:v=v'):QE P TT D fr op ty K s0 v':=e▸h
def qj2:(BinOp.and≠.eql∧BinOp.and≠.neq):=by simp
def qmf:(BinOp.or≠.eql∧BinOp.or≠.neq):=by simp
def qj5:(BinOp.xor≠.eql∧BinOp.xor≠.neq):=by simp
def qj3:(BinOp.shl≠.eql∧BinOp.shl≠.neq):=by simp
def qj4:(BinOp.shr≠.eql∧BinOp.shr≠.neq):=by simp
def qfY{x:Int}(h:U32 x):(BitVec.ofInt 32 x).toNat=x.toNat:=by
 obtain ⟨h1,h2⟩:=h;rw [BitVec.toNat_ofInt];omega
def qqI{n:Nat}(h:n < 4294967296):IntKind.u32.wrap (n:Int)=(n:Int):=by rw [IntKind.wrap_u32];omega
section
variable{P:Program}{t:Nat}{x y:Int}
def qkd(hx:U32 x)(hy:U32 y)(w:World):(binOp .and t (.int .u32 x) (.int .u32 y)).run P w=.ok (.int .u32 ((x.toNat &&& y.toNat:Nat):Int)) w:=by
 have h:(BitVec.ofInt 32 x &&& BitVec.ofInt 32 y).toNat=x.toNat &&& y.toNat:=by rw [BitVec.toNat_and,qfY hx,qfY hy]
 have h2:x.toNat &&& y.toNat < 4294967296:=h▸(BitVec.ofInt 32 x &&& BitVec.ofInt 32 y).isLt;have h3:Op.intBits .and .u32 x y=pure (.int .u32 (IntKind.u32.wrap ((BitVec.ofInt 32 x &&& BitVec.ofInt 32 y).toNat:Int))):=rfl;simp only [binOp,h3,h,qqI h2];rfl
def qmo(hx:U32 x)(hy:U32 y)(w:World):(binOp .or t (.int .u32 x) (.int .u32 y)).run P w=.ok (.int .u32 ((x.toNat ||| y.toNat:Nat):Int)) w:=by
 have h:(BitVec.ofInt 32 x ||| BitVec.ofInt 32 y).toNat=x.toNat ||| y.toNat:=by rw [BitVec.toNat_or,qfY hx,qfY hy]
 have h2:x.toNat ||| y.toNat < 4294967296:=h▸(BitVec.ofInt 32 x ||| BitVec.ofInt 32 y).isLt
 have h3:Op.intBits .or .u32 x y=pure (.int .u32 (IntKind.u32.wrap ((BitVec.ofInt 32 x ||| BitVec.ofInt 32 y).toNat:Int))):=rfl;simp only [binOp,h3,h,qqI h2];rfl
def qhi(hx:U32 x)(hy:U32 y)(w:World):(binOp .xor t (.int .u32 x) (.int .u32 y)).run P w=.ok (.int .u32 ((x.toNat ^^^ y.toNat:Nat):Int)) w:=by
 have h:(BitVec.ofInt 32 x ^^^ BitVec.ofInt 32 y).toNat=x.toNat ^^^ y.toNat:=by rw [BitVec.toNat_xor,qfY hx,qfY hy]
 have h2:x.toNat ^^^ y.toNat < 4294967296:=h▸(BitVec.ofInt 32 x ^^^ BitVec.ofInt 32 y).isLt;have h3:Op.intBits .xor .u32 x y=pure (.int .u32 (IntKind.u32.wrap ((BitVec.ofInt 32 x ^^^ BitVec.ofInt 32 y).toNat:Int))):=rfl;simp only [binOp,h3,h,qqI h2];rfl
def qi1{n:Nat}(h:32≤n):(2:Nat) ^ n=4294967296 * 2 ^ (n - 32):=by
 rw [show n=32+(n - 32) by omega,Nat.pow_add];simp
def qyY(X Y:Nat):(X * 2 ^ min Y 32) % 4294967296=(X <<< Y) % 4294967296:=by
  rw [Nat.shiftLeft_eq];rcases Nat.le_total Y 32 with h|h
  · rw [Nat.min_eq_left h]
  · rw [Nat.min_eq_right h,qi1 h]
    rw [show X * (4294967296 * 2 ^ (Y - 32))=4294967296 * (X * 2 ^ (Y - 32)) by rw [Nat.mul_left_comm]];omega
def qyZ{X:Nat}(hX:X < 4294967296)(Y:Nat):X / 2 ^ min Y 32=X >>> Y:=by
  rw [Nat.shiftRight_eq_div_pow];rcases Nat.le_total Y 32 with h|h
  · rw [Nat.min_eq_left h]
  · rw [Nat.min_eq_right h,Nat.div_eq_of_lt O,Nat.div_eq_of_lt]
    have:(2:Nat) ^ 32≤2 ^ Y:=Nat.pow_le_pow_right O h;omega
def qkl(hx:U32 x)(hy:U32 y)(w:World):(binOp .shl t (.int .u32 x) (.int .u32 y)).run P w=.ok (.int .u32 (((x.toNat <<< y.toNat) % 4294967296:Nat):Int)) w:=by
 obtain ⟨X,rfl⟩:=Int.eq_ofNat_of_zero_le hx.1;obtain ⟨Y,rfl⟩:=Int.eq_ofNat_of_zero_le hy.1;have h3:Op.shift .shl .u32 (X:Int) .u32 (Y:Int)=pure (.int .u32 (IntKind.u32.wrap ((X:Int) * 2 ^ min Y 32))):=by
  unfold Op.shift;rw [if_neg O];rfl
 have h4:IntKind.u32.wrap ((X:Int) * 2 ^ min Y 32)=(((X <<< Y) % 4294967296:Nat):Int):=by
  rw [IntKind.wrap_u32,← qyY];have:((X * 2 ^ min Y 32:Nat):Int)=(X:Int) * 2 ^ min Y 32:=by push_cast;rfl
  rw [← this];omega
 simp only [binOp,h3,h4,Int.toNat_natCast];rfl
def qkm(hx:U32 x)(hy:U32 y)(w:World):(binOp .shr t (.int .u32 x) (.int .u32 y)).run P w=.ok (.int .u32 ((x.toNat >>> y.toNat:Nat):Int)) w:=by
 obtain ⟨X,rfl⟩:=Int.eq_ofNat_of_zero_le hx.1;obtain ⟨Y,rfl⟩:=Int.eq_ofNat_of_zero_le hy.1;have h3:Op.shift .shr .u32 (X:Int) .u32 (Y:Int)=pure (.int .u32 ((X:Int).fdiv (2 ^ min Y 32))):=by
  unfold Op.shift;rw [if_neg O];rfl
 have h4:(X:Int).fdiv (2 ^ min Y 32)=((X >>> Y:Nat):Int):=by
  rw [← qyZ (by have:=hx.2;omega)];have:((2 ^ min Y 32:Nat):Int)=(2:Int) ^ min Y 32:=by push_cast;rfl
  rw [← this,Int.fdiv_eq_ediv_of_nonneg _ (Int.natCast_nonneg _)];rfl
 simp only [binOp,h3,h4,Int.toNat_natCast];rfl
end
end Go.FL
namespace Go.Proofs.YtlfiplbamnpgoaaGreatDoor
open Go Go.FL
open Go.Proofs.Tryz
open Go.FL
attribute [local irreducible] JC JO JA JB qaJ qax qbN AC fill CellsAt QE Ev Mid
variable(D:Nat)(L:Hl)(s:World)
def qii{a:Int}(h1:0≤a)(h2:a < 4294967296):IntKind.u32.wrap a=a:=by rw [IntKind.wrap_u32];omega
def qqK(a:Int):IntKind.u32.wrap a=w32 a:=IntKind.wrap_u32 a
def divW{x y:Int}(hx:U32 x)(hy:U32 y):w32 (x.tdiv y)=x / y:=by
 obtain ⟨h1,h2⟩:=hx;obtain ⟨h3,h4⟩:=hy;rw [Int.tdiv_eq_ediv_of_nonneg h1];have h5:0≤x / y:=Int.ediv_nonneg h1 h3;have h6:x / y≤x:=Int.ediv_le_self _ h1;unfold w32;omega
def modW{x y:Int}(hx:U32 x):x.tmod y=x % y:=Int.tmod_eq_emod_of_nonneg hx.1
def qvO(b:Bool):AC prog D 170 [.bool b] L s fun v L' _=>v=.int .u32 (if b then 1 else 0)∧L=L':=by
 refine qad (fn:=f170) qao func170 V Z ntmps170 Z (rs:=[.tmp 2]) Z [(0,_)] Z<|G11 ?_;refine qd1 Z ?_ ?_<;>intro c1;·refine G7 ?_;exact qqU
 refine G8 ?_;exact qqU
def Cz8{p:Prop} (h:p:=by
 refine ⟨?_,Z⟩;simp [qbP,comp,qqK, *];done):p:=h
def qmU(k:Int)(x y:Int)(hx:U32 x)(hy:U32 y)(hk:1≤k∧k≤12∧k≠4∧k≠5):AC prog D 132 [.int .i64 k,.int .u32 x,.int .u32 y] L s fun v L' _=>v=.int .u32 (comp k x y)∧L=L':=by
 refine qad (fn:=f132) qao func132 V Z ntmps132 Z (rs:=[.tmp 6]) Z [(0,_),(1,_),(2,_)] Z<|J18 ?_ ?_<;>intro c1;·refine G4 ?_;refine qae (qlu Z Z) Z<|G6 ?_;exact rY Z fun _ hS2=>Cz8
 refine J6 ?_ ?_<;>intro c2;·refine G4 ?_;refine qae (qly Z Z) Z<|G6 ?_;exact rY Z fun _ hS2=>Cz8
 refine J6 ?_ ?_<;>intro c3;·refine G4 ?_;refine qae (qnS Z Z) Z<|G6 ?_;exact rY Z fun _ hS2=>Cz8
 refine J6 ?_ ?_<;>intro c4;·refine G4 ?_;refine qae (qeL Z Z qj2 (qkd hx hy)) Z<|G6 ?_;exact rY Z fun _ hS2=>Cz8
 refine J6 ?_ ?_<;>intro c5;·refine G4 ?_;refine qae (qeL Z Z qmf (qmo hx hy)) Z<|G6 ?_;exact rY Z fun _ hS2=>Cz8
 refine J6 ?_ ?_<;>intro c6;·refine G4 ?_;refine qae (qeL Z Z qj5 (qhi hx hy)) Z<|G6 ?_;exact rY Z fun _ hS2=>Cz8
 refine J6 ?_ ?_<;>intro c7;·refine G4 ?_;refine qae (qeL Z Z qj3 (qkl hx hy)) Z<|G6 ?_;exact rY Z fun _ hS2=>Cz8
 refine J6 ?_ ?_<;>intro c8;·refine G4 ?_;refine qae (qeL Z Z qj4 (qkm hx hy)) Z<|G6 ?_;exact rY Z fun _ hS2=>Cz8
 refine J6 ?_ ?_<;>intro c9;·refine G5 ?_;refine Je Z Z Z (qvO D _ _ _) fun s10 h10=>G6 ?_;exact rX [] L Z h10 fun _ hS2=>Cz8
 refine G8 ?_;refine Je Z Z Z (qvO D _ _ _) fun s10 h10=>G4 ?_;refine rR [] L (.t1 Z) Z h10 fun _ hS2=>?_;refine ⟨?_,Z⟩;have h12:k=12:=by omega
 simp [qbP,comp,h12];done
end Go.Proofs.YtlfiplbamnpgoaaGreatDoor
namespace Go.FL
open Go Go.RowKit
section
variable{P:Program}{TT:qaM}{D n:Nat}{Q:qbs}{fr:Fr}{L L' K:Hl}{s s' s0:World}{ops:Array Oper}{rest:List Oper}{d ty:Nat}{op:Op}{pos:String}{af:Array Edge}{v:Value}
def qaB{id:Nat}{l:List Oper}(hm:P.follows .mixedOrders=true)(N:Nat)(hN:l.length=N)(j:Nat)
  (h:∀ s',Le D s s'→JA P TT D n l.toArray Q (L.take j) s' N (Array.replicate N false) fr L s'):JC P TT D n Q (.region id l.toArray true) fr L s:=qaL hm N hN _ (fun _ hx=>List.mem_of_mem_take hx) h
end
section
variable{P:Program}{TT:qaM}{D n:Nat}{Q:qbs}{fr:Fr}{L L' K:Hl}{s s' s0:World}{ops:Array Oper}{rest:List Oper}{d ty:Nat}{op:Op}{pos:String}{af:Array Edge}{v:Value}
def qlv{t e b off len:Nat}{x y:Operand}{ti te:TI}{ik:IntKind}{i:Int}(hx:lk fr x=some (.pointer (some ⟨b,off,none⟩)))(hy:lk fr y=some (.int ik i))(ht:qay TT t=some ti)(hk:ti.kind=.ar len e)(he:qay TT e=some te)
  (hs:te.size=1) (h0:0≤i) (h1:i < len):QE P TT D fr (.indexAddr t x y) ty K s0 (.pointer (some ⟨b,off+i.toNat * 1,none⟩)):=by
 obtain ⟨j,rfl⟩:=Int.eq_ofNat_of_zero_le h0;exact qu7 hx hy ht hk he hs O
def qc9{t e b off len cap:Nat}{x y:Operand}{ti te:TI}{ik:IntKind}{i:Int}(hx:lk fr x=some (.slice (some ⟨b,off,none⟩) len cap))(hy:lk fr y=some (.int ik i))(ht:qay TT t=some ti)(hk:ti.kind=.sl e)(he:qay TT e=some te)
  (hs:te.size=1) (h0:0≤i) (h1:i < len):QE P TT D fr (.indexAddr t x y) ty K s0 (.pointer (some ⟨b,off+i.toNat,none⟩)):=by
 obtain ⟨j,rfl⟩:=Int.eq_ofNat_of_zero_le h0;exact qaQ hx hy ht hk he hs O
def qnV{x:Operand}{t t':Nat}{A:Option Addr}{m c:Nat}{ti:TI}{e:Nat}(hx:lk fr x=some (.slice A m c))(ht:qay TT t=some ti)(hk:ti.kind=.sl e):QE P TT D fr (.binOp .eql t x (.const (.slice none 0 0)) t') ty K s0 (.bool A.isNone):=
 QE.pure fun hT dst pos af g ρ hρ w=>by
  obtain ⟨k1,k2,_⟩:=hT.at_ ht;rw [hk] at k2;simp only [TK.fits] at k2;rw [k2] at k1;have h0:ρ (.const (.slice none 0 0))=.slice none 0 0:=hρ _ _ rfl;have he:(Op.equal t (.slice A m c) (.slice none 0 0)).run P w=.ok A.isNone w:=by
   show (Op.equalIn (9999+1) t (.slice A m c) (.slice none 0 0)).run P w=_;unfold Op.equalIn;simp only [Sem.run_bind,run_underlying k1,Result.andThen_ok];cases A<;>simp
  simp [execOp,hρ x _ hx,h0,eqGuard,binOp,he]
end
end Go.FL
namespace Go.Proofs.YtlfiplbamnpgoaaGreatDoor
open Go Go.FL
variable{j:Nat}{l:List Int}{y:List Value}
def qyo(m:Mst){i:Int}(h:0≤i∧i≤4)(C:Value)(tl:List Value):nth (C::.int .u32 m.r0::.int .u32 m.r1::.int .u32 m.r2::.int .u32 m.r3::.int .u32 m.r4::tl) (1+i.toNat * 1)=some (.int .u32 (qg3 m i)):=by
 have:i=0∨i=1∨i=2∨i=3∨i=4:=by omega
 rcases this with rfl|rfl|rfl|rfl|rfl<;>rfl
def qy3(m:Mst){i:Int}(h:0≤i∧i≤4)(v:Int)(C:Value)(tl:List Value):qbx (C::.int .u32 m.r0::.int .u32 m.r1::.int .u32 m.r2::.int .u32 m.r3::.int .u32 m.r4::tl) (1+i.toNat * 1) [.int .u32 v] =
  C::.int .u32 (qdo m i v).r0::.int .u32 (qdo m i v).r1::.int .u32 (qdo m i v).r2::.int .u32 (qdo m i v).r3::.int .u32 (qdo m i v).r4::tl:=by
 have:i=0∨i=1∨i=2∨i=3∨i=4:=by omega
 rcases this with rfl|rfl|rfl|rfl|rfl<;>simp [qbx,qdo]
def qxm{i:Int}(h:0≤i∧i≤4)(a0 a1 a2 a3 a4 a5:Value)(tl:List Value):Nat.ble (1+i.toNat * 1+1) (a0::a1::a2::a3::a4::a5::tl).length=true:=by
 rw [Nat.ble_eq];simp;omega
section
variable(a0 a1 a2 a3 a4 a5 a6 a7 a8 a9 a10 q o:Value){sm:List Int}
def qCW(h:sm.length=256):nth (a0::a1::a2::a3::a4::a5::a6::a7::a8::a9::a10::(iv sm++[q,o])) 268=some o:=by simp_all [qdK,iv]
def qpD(h:sm.length=256):nth (a0::a1::a2::a3::a4::a5::a6::a7::a8::a9::a10::(iv sm++[q,o])) 267=some q:=by simp_all [qdK,iv]
def qpF{p:Int}(h:sm[j]?=some p):nth (a0::a1::a2::a3::a4::a5::a6::a7::a8::a9::a10::(iv sm++[q,o])) (11+j * 1)=some (.int .i64 p):=by
 rw [qdK,Nat.mul_one,Nat.add_comm];simp only [List.getElem?_cons_succ];rw [List.getElem?_append_left (by simp [iv];exact (List.getElem?_eq_some_iff.1 h).1)];simp [iv,h]
def qqf(p:Int)(h:j < sm.length):qbx (a0::a1::a2::a3::a4::a5::a6::a7::a8::a9::a10::(iv sm++[q,o])) (11+j * 1) [.int .i64 p]=a0::a1::a2::a3::a4::a5::a6::a7::a8::a9::a10::(iv (sm.set j p)++[q,o]):=by
 rw [Nat.mul_one,Nat.add_comm];simp only [qbx];have:∀ (l:List Value) (r:List Value) (i:Nat) (v:Value),i < l.length→qbx (l++r) i [v]=l.set i v++r:=by
  intro l;induction l with
  | nil=>intro r i v h;simp at h
  | cons x l ih=>
   intro r i v h;cases i with
   | zero=>simp [qbx]
   | succ i=>simp only [List.cons_append,qbx,List.set_cons_succ];rw [ih r i v Q4]
 rw [this _ _ _ _ (by simpa [iv] using h)];simp [iv,List.map_set]
def qDt(v:Value)(h:sm.length=256):qbx (a0::a1::a2::a3::a4::a5::a6::a7::a8::a9::a10::(iv sm++[q,o])) 268 [v]=a0::a1::a2::a3::a4::a5::a6::a7::a8::a9::a10::(iv sm++[q,v]):=by
 rw [qdl _ _ _ (by simp [iv,h])];have h1:(iv sm).length=256:=by simp [iv,h]
 simp only [List.length_cons,List.length_nil,List.take_succ_cons,List.drop_succ_cons,List.cons_append];rw [List.take_append,List.drop_eq_nil_of_le (by simp [h1])];simp [h1,List.take_of_length_le]
def qB0(h:sm.length=256):Nat.ble (268+1) (a0::a1::a2::a3::a4::a5::a6::a7::a8::a9::a10::(iv sm++[q,o])).length=true:=by
 rw [Nat.ble_eq];simp [iv,h]
def qol(h:sm.length=256)(hj:j < 256):Nat.ble (11+j * 1+1) (a0::a1::a2::a3::a4::a5::a6::a7::a8::a9::a10::(iv sm++[q,o])).length=true:=by
 rw [Nat.ble_eq];simp [iv,h];omega
end
def qCX{x:Int}(h:l[j]?=some x):nth (wv l++y) j=some (.int .u32 x):=by grind [qdK,wv]
def qDu(v:Int)(h:j < l.length):qbx (wv l++y) j [.int .u32 v]=wv (l.set j v)++y:=by
 rw [qdl _ _ _ (by simp [wv];omega)];have h1:(wv l).length=l.length:=by simp [wv]
 rw [List.take_append_of_le_length O,List.drop_append_of_le_length Q7];simp only [wv,List.map_set];rw [List.set_eq_take_append_cons_drop];simp [h]
def qB1(h:j < l.length):Nat.ble (j+1) (wv l++y).length=true:=by
 rw [Nat.ble_eq];simp [wv];omega
def qjd(bm:Nat)(X:Value)(sm:List Int)(bq:Nat)(es:List (Int×Value×Nat))(ck:Nat)(op:Int)(m:Mst)(M:Hl)(s:World):Prop:=
 ∃ bc cc yc Oq9 Ao co Ai ni ci,M=(bm,cb (.slice (some ⟨bc,0,none⟩) m.cells.length cc::.int .u32 m.r0::.int .u32 m.r1::.int .u32 m.r2::.int .u32 m.r3::.int .u32 m.r4::.slice Ai ni ci::.slice Ao m.output.length co::.int .i64 m.stop::.int .u32 m.code::X ::
  (iv sm++[.map (some bq),.int .u32 op])) 148)::(bc,cb (wv m.cells++yc) 34)::(bq,mp (Value.int .u32) es ck)::Oq9∧FL.Own 5 1 Oq9 (.slice Ao m.output.length co) m.output.length (bv m.output)∧Bts s Ai ni ci m.input
  ∧ m.cells.length+yc.length=cc∧cc≤9223372036854775807
def fp(A:Option Addr)(p:Nat):Option Addr:=if p=0 then none else A.map (·.add ((p - 1) * 4))
def qx1{b off p:Nat}(h:p≠0):fp (some ⟨b,off,none⟩) p=some ⟨b,off+(p - 1) * 4,none⟩:=by simp [fp,h,add_lit]
def qF4{a:Int}(h1:0≤a)(h2:a < 18446744073709551616):IntKind.u64.wrap a=a:=by simp [IntKind.wrap,IntKind.bits,IntKind.signed];omega
end Go.Proofs.YtlfiplbamnpgoaaGreatDoor
