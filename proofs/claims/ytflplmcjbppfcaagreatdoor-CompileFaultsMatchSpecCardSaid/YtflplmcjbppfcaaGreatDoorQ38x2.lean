/- Part 2. -/
import Derived.Test.YtflplmcjbppfcaaGreatDoorQ38x1
import Derived.KernelRfl
import Derived.Test.YtflplmcjbppfcaaGreatDoorProg
import Derived.Laws.StructEq
import Derived.Maps.AppendAt
import Derived.Laws.MakeOwn
import Derived.Laws.CopyRow
import Derived.MapKept
import Derived.Laws.BytesString
set_option linter.unusedVariables false
set_option linter.defProp false
set_option linter.unusedSimpArgs false
set_option linter.unnecessarySimpa false
set_option maxRecDepth 100000
set_option maxHeartbeats 8000000
namespace Go.FL
open Go Go.Proofs
def TabOK.nil{P:Program}:TabOK P []:=fun _ h=>by cases h
def TabOK.cons{P:Program}{x:Nat×TI}{r:qa5}(h:x.2.ok P x.1)(k:TabOK P r):TabOK P (x::r):=fun y hy=>by
 rcases List.mem_cons.1 hy with rfl|hy
 · exact h
 · exact k y hy
abbrev fD9(n:String)(t o:Nat)(p:String)(b:Nat):Field:={ name:=n,type:=t,offset:=o,embedded:=false,tag := "", pkgPath:=p,byteOffset:=b }
def tB9{p:Prop}(h:p:=by refine ⟨by first|trivial|rfl,by kernel_rfl,by first|rfl|kernel_rfl,by first|rfl|kernel_rfl,by decide,by first|exact fun _=>rfl|(intro h;cases h),by kernel_rfl,by kernel_rfl⟩):p:=h
def ti2:TI:=⟨.sc,.int .i64,1,8,[.int .i64 0],[]⟩
def ti3:TI:=⟨.sc,.int .i64,1,8,[.int .i64 0],[]⟩
def qj3:ti3.ok Tryz.prog 3:=⟨Tryz.underlying3,tB9⟩
def ti4:TI:=⟨.sc,.bool,1,1,[.bool false],[]⟩
def ti5:TI:=⟨.sc,.int .u8,1,1,[.int .u8 0],[]⟩
def ti6:TI:=⟨.sc,.int .u8,1,1,[.int .u8 0],[]⟩
def ti7:TI:=⟨.st [0,1,2,3],.struct #[fD9 "x" 2 0 "runtime" 0,fD9 "y" 3 1 "runtime" 8,fD9 "signed" 4 2 "runtime" 16,fD9 "code" 6 3 "runtime" 17],4,24,[.int .i64 0,.int .i64 0,.bool false,.int .u8 0],[1,1,1,1]⟩
def ti8:TI:=⟨.st [0,1,2,3],.struct #[fD9 "x" 2 0 "runtime" 0,fD9 "y" 3 1 "runtime" 8,fD9 "signed" 4 2 "runtime" 16,fD9 "code" 6 3 "runtime" 17],4,24,[.int .i64 0,.int .i64 0,.bool false,.int .u8 0],[1,1,1,1]⟩
def ti9:TI:=⟨.sc,.string,1,16,[St []],[]⟩
def ti10:TI:=⟨.sc,.string,1,16,[St []],[]⟩
def ti11:TI:=⟨.sc,.string,1,16,[St []],[]⟩
def ti12:TI:=⟨.sc,.int .u64,1,8,[.int .u64 0],[]⟩
def ti13:TI:=⟨.st [0,1],.struct #[fD9 "msg" 9 0 "runtime" 0,fD9 "addr" 12 1 "runtime" 16],2,24,[St [],.int .u64 0],[1,1]⟩
def ti14:TI:=⟨.st [0,1],.struct #[fD9 "msg" 9 0 "runtime" 0,fD9 "addr" 12 1 "runtime" 16],2,24,[St [],.int .u64 0],[1,1]⟩
def ti15:TI:=⟨.sc,.pointer 331,1,8,[.pointer none],[]⟩
def ti16:TI:=⟨.sc,.pointer 334,1,8,[.pointer none],[]⟩
def ti17:TI:=⟨.sc,.pointer 341,1,8,[.pointer none],[]⟩
def ti18:TI:=⟨.st [0],.struct #[fD9 "typ" 17 0 "internal/runtime/maps" 0],1,8,[.pointer none],[1]⟩
def ti19:TI:=⟨.st [0],.struct #[fD9 "typ" 17 0 "internal/runtime/maps" 0],1,8,[.pointer none],[1]⟩
def ti21:TI:=⟨.sc,.int .i32,1,4,[.int .i32 0],[]⟩
def ti22:TI:=⟨.sl 48,.slice 48,1,24,[.slice none 0 0],[]⟩
def ti23:TI:=⟨.sl 52,.slice 52,1,24,[.slice none 0 0],[]⟩
def ti24:TI:=⟨.st [0,1],.struct #[fD9 "Globals" 22 0 "" 0,fD9 "Functions" 23 1 "" 24],2,48,[.slice none 0 0,.slice none 0 0],[1,1]⟩
def ti25:TI:=⟨.st [0,1],.struct #[fD9 "Globals" 22 0 "" 0,fD9 "Functions" 23 1 "" 24],2,48,[.slice none 0 0,.slice none 0 0],[1,1]⟩
def ti26:TI:=⟨.st [0,1],.struct #[fD9 "Code" 3 0 "" 0,fD9 "Index" 3 1 "" 8],2,16,[.int .i64 0,.int .i64 0],[1,1]⟩
def ti27:TI:=⟨.st [0,1],.struct #[fD9 "Code" 3 0 "" 0,fD9 "Index" 3 1 "" 8],2,16,[.int .i64 0,.int .i64 0],[1,1]⟩
def ti32:TI:=⟨.sl 46,.slice 46,1,24,[.slice none 0 0],[]⟩
def ti40:TI:=⟨.sl 95,.slice 95,1,24,[.slice none 0 0],[]⟩
def ti41:TI:=⟨.st [0,1],.struct #[fD9 "Cells" 3 0 "" 0,fD9 "Instructions" 40 1 "" 8],2,32,[.int .i64 0,.slice none 0 0],[1,1]⟩
def ti42:TI:=⟨.st [0,1],.struct #[fD9 "Cells" 3 0 "" 0,fD9 "Instructions" 40 1 "" 8],2,32,[.int .i64 0,.slice none 0 0],[1,1]⟩
def ti46:TI:=⟨.sc,.int .u32,1,4,[.int .u32 0],[]⟩
def qkR:ti46.ok Tryz.prog 46:=⟨Tryz.underlying46,tB9⟩
def ti47:TI:=⟨.st [0,1,2,3],.struct #[fD9 "Kind" 3 0 "" 0,fD9 "Name" 9 1 "" 8,fD9 "Number" 46 2 "" 24,fD9 "Initial" 32 3 "" 32],4,56,[.int .i64 0,St [],.int .u32 0,.slice none 0 0],[1,1,1,1]⟩
def ti48:TI:=⟨.st [0,1,2,3],.struct #[fD9 "Kind" 3 0 "" 0,fD9 "Name" 9 1 "" 8,fD9 "Number" 46 2 "" 24,fD9 "Initial" 32 3 "" 32],4,56,[.int .i64 0,St [],.int .u32 0,.slice none 0 0],[1,1,1,1]⟩
def ti49:TI:=⟨.sl 9,.slice 9,1,24,[.slice none 0 0],[]⟩
def qpK:ti49.ok Tryz.prog 49:=⟨Tryz.underlying49,tB9⟩
def ti50:TI:=⟨.sl 115,.slice 115,1,24,[.slice none 0 0],[]⟩
def ti51:TI:=⟨.st [0,1,2,3],.struct #[fD9 "Name" 9 0 "" 0,fD9 "Parameters" 49 1 "" 16,fD9 "Locals" 49 2 "" 40,fD9 "Body" 50 3 "" 64],4,88,[St [],.slice none 0 0,.slice none 0 0,.slice none 0 0],[1,1,1,1]⟩
def ti52:TI:=⟨.st [0,1,2,3],.struct #[fD9 "Name" 9 0 "" 0,fD9 "Parameters" 49 1 "" 16,fD9 "Locals" 49 2 "" 40,fD9 "Body" 50 3 "" 64],4,88,[St [],.slice none 0 0,.slice none 0 0,.slice none 0 0],[1,1,1,1]⟩
def ti54:TI:=⟨.sc,.pointer 63,1,8,[.pointer none],[]⟩
def ti55:TI:=⟨.sc,.map 9 3,1,8,[.map none],[]⟩
def ti56:TI:=⟨.sc,.pointer 59,1,8,[.pointer none],[]⟩
def ti57:TI:=⟨.sl 5,.slice 5,1,24,[.slice none 0 0],[]⟩
def ti58:TI:=⟨.st [0,1],.struct #[fD9 "addr" 56 0 "strings" 0,fD9 "buf" 57 1 "strings" 8],2,32,[.pointer none,.slice none 0 0],[1,1]⟩
def ti59:TI:=⟨.st [0,1],.struct #[fD9 "addr" 56 0 "strings" 0,fD9 "buf" 57 1 "strings" 8],2,32,[.pointer none,.slice none 0 0],[1,1]⟩
def ti60:TI:=⟨.st [0,2],.struct #[{ name := "Builder", type:=59,offset:=0,embedded:=true,tag := "", pkgPath := "", byteOffset:=0 },fD9 "labels" 3 2 "scriptorium/compile" 32],3,40,[.pointer none,.slice none 0 0,.int .i64 0],[2,1]⟩
def ti61:TI:=⟨.st [0,2],.struct #[{ name := "Builder", type:=59,offset:=0,embedded:=true,tag := "", pkgPath := "", byteOffset:=0 },fD9 "labels" 3 2 "scriptorium/compile" 32],3,40,[.pointer none,.slice none 0 0,.int .i64 0],[2,1]⟩
def ti62:TI:=⟨.st [0,3,5,6,7,8,9,10,11],.struct #[{ name := "writer", type:=61,offset:=0,embedded:=true,tag := "", pkgPath := "scriptorium/compile", byteOffset:=0 },fD9 "program" 25 3 "scriptorium/compile" 40,fD9 "globals" 55 5 "scriptorium/compile" 88,fD9 "functions" 55 6 "scriptorium/compile" 96,fD9 "slots" 55 7 "scriptorium/compile" 104,fD9 "size" 3 8 "scriptorium/compile" 112,fD9 "locals" 3 9 "scriptorium/compile" 120,fD9 "waiting" 3 10 "scriptorium/compile" 128,fD9 "loops" 49 11 "scriptorium/compile" 136],12,160,[.pointer none,.slice none 0 0,.int .i64 0,.slice none 0 0,.slice none 0 0,.map none,.map none,.map none,.int .i64 0,.int .i64 0,.int .i64 0,.slice none 0 0],[3,2,1,1,1,1,1,1,1]⟩
def ti63:TI:=⟨.st [0,3,5,6,7,8,9,10,11],.struct #[{ name := "writer", type:=61,offset:=0,embedded:=true,tag := "", pkgPath := "scriptorium/compile", byteOffset:=0 },fD9 "program" 25 3 "scriptorium/compile" 40,fD9 "globals" 55 5 "scriptorium/compile" 88,fD9 "functions" 55 6 "scriptorium/compile" 96,fD9 "slots" 55 7 "scriptorium/compile" 104,fD9 "size" 3 8 "scriptorium/compile" 112,fD9 "locals" 3 9 "scriptorium/compile" 120,fD9 "waiting" 3 10 "scriptorium/compile" 128,fD9 "loops" 49 11 "scriptorium/compile" 136],12,160,[.pointer none,.slice none 0 0,.int .i64 0,.slice none 0 0,.slice none 0 0,.map none,.map none,.map none,.int .i64 0,.int .i64 0,.int .i64 0,.slice none 0 0],[3,2,1,1,1,1,1,1,1]⟩
def ti71:TI:=⟨.sl 75,.slice 75,1,24,[.slice none 0 0],[]⟩
def ti74:TI:=⟨.st [0,1,2,3],.struct #[fD9 "Name" 9 0 "" 0,fD9 "Use" 9 1 "" 16,fD9 "Count" 3 2 "" 32,fD9 "Loops" 3 3 "" 40],4,48,[St [],St [],.int .i64 0,.int .i64 0],[1,1,1,1]⟩
def ti75:TI:=⟨.st [0,1,2,3],.struct #[fD9 "Name" 9 0 "" 0,fD9 "Use" 9 1 "" 16,fD9 "Count" 3 2 "" 32,fD9 "Loops" 3 3 "" 40],4,48,[St [],St [],.int .i64 0,.int .i64 0],[1,1,1,1]⟩
def ti77:TI:=⟨.st [0,1,2,3],.struct #[fD9 "Output" 57 0 "" 0,fD9 "Stop" 3 1 "" 24,fD9 "Code" 46 2 "" 32,fD9 "Steps" 3 3 "" 40],4,48,[.slice none 0 0,.int .i64 0,.int .u32 0,.int .i64 0],[1,1,1,1]⟩
def ti78:TI:=⟨.st [0,1,2,3],.struct #[fD9 "Output" 57 0 "" 0,fD9 "Stop" 3 1 "" 24,fD9 "Code" 46 2 "" 32,fD9 "Steps" 3 3 "" 40],4,48,[.slice none 0 0,.int .i64 0,.int .u32 0,.int .i64 0],[1,1,1,1]⟩
def ti82:TI:=⟨.sc,.pointer 89,1,8,[.pointer none],[]⟩
def ti85:TI:=⟨.sl 192,.slice 192,1,24,[.slice none 0 0],[]⟩
def ti86:TI:=⟨.sc,.map 9 46,1,8,[.map none],[]⟩
def ti87:TI:=⟨.sl 147,.slice 147,1,24,[.slice none 0 0],[]⟩
def ti88:TI:=⟨.st [0,2,3,4,5],.struct #[fD9 "table" 42 0 "scriptorium/asm" 0,fD9 "words" 32 2 "scriptorium/asm" 32,fD9 "labels" 85 3 "scriptorium/asm" 56,fD9 "addresses" 86 4 "scriptorium/asm" 80,fD9 "references" 87 5 "scriptorium/asm" 88],6,112,[.int .i64 0,.slice none 0 0,.slice none 0 0,.slice none 0 0,.map none,.slice none 0 0],[2,1,1,1,1]⟩
def ti89:TI:=⟨.st [0,2,3,4,5],.struct #[fD9 "table" 42 0 "scriptorium/asm" 0,fD9 "words" 32 2 "scriptorium/asm" 32,fD9 "labels" 85 3 "scriptorium/asm" 56,fD9 "addresses" 86 4 "scriptorium/asm" 80,fD9 "references" 87 5 "scriptorium/asm" 88],6,112,[.int .i64 0,.slice none 0 0,.slice none 0 0,.slice none 0 0,.map none,.slice none 0 0],[2,1,1,1,1]⟩
def ti90:TI:=⟨.st [0,1],.struct #[fD9 "Kind" 3 0 "" 0,fD9 "Value" 46 1 "" 8],2,16,[.int .i64 0,.int .u32 0],[1,1]⟩
def ti91:TI:=⟨.st [0,1],.struct #[fD9 "Kind" 3 0 "" 0,fD9 "Value" 46 1 "" 8],2,16,[.int .i64 0,.int .u32 0],[1,1]⟩
def ti93:TI:=⟨.sl 99,.slice 99,1,24,[.slice none 0 0],[]⟩
def ti94:TI:=⟨.st [0,1,2,3],.struct #[fD9 "Name" 9 0 "" 0,fD9 "Code" 46 1 "" 16,fD9 "Operand" 4 2 "" 20,fD9 "Actions" 93 3 "" 24],4,48,[St [],.int .u32 0,.bool false,.slice none 0 0],[1,1,1,1]⟩
def ti95:TI:=⟨.st [0,1,2,3],.struct #[fD9 "Name" 9 0 "" 0,fD9 "Code" 46 1 "" 16,fD9 "Operand" 4 2 "" 20,fD9 "Actions" 93 3 "" 24],4,48,[St [],.int .u32 0,.bool false,.slice none 0 0],[1,1,1,1]⟩
def ti97:TI:=⟨.sl 91,.slice 91,1,24,[.slice none 0 0],[]⟩
def ti98:TI:=⟨.st [0,1,2,4],.struct #[fD9 "Kind" 3 0 "" 0,fD9 "To" 3 1 "" 8,fD9 "X" 91 2 "" 16,fD9 "Y" 91 4 "" 32],6,48,[.int .i64 0,.int .i64 0,.int .i64 0,.int .u32 0,.int .i64 0,.int .u32 0],[1,1,2,2]⟩
def ti99:TI:=⟨.st [0,1,2,4],.struct #[fD9 "Kind" 3 0 "" 0,fD9 "To" 3 1 "" 8,fD9 "X" 91 2 "" 16,fD9 "Y" 91 4 "" 32],6,48,[.int .i64 0,.int .i64 0,.int .i64 0,.int .u32 0,.int .i64 0,.int .u32 0],[1,1,2,2]⟩
def ti102:TI:=⟨.sc,.map 9 128,1,8,[.map none],[]⟩
def ti103:TI:=⟨.st [0,2],.struct #[fD9 "program" 25 0 "scriptorium/check" 0,fD9 "globals" 102 2 "scriptorium/check" 48],3,56,[.slice none 0 0,.slice none 0 0,.map none],[2,1]⟩
def ti104:TI:=⟨.st [0,2],.struct #[fD9 "program" 25 0 "scriptorium/check" 0,fD9 "globals" 102 2 "scriptorium/check" 48],3,56,[.slice none 0 0,.slice none 0 0,.map none],[2,1]⟩
def ti108:TI:=⟨.sc,.pointer 115,1,8,[.pointer none],[]⟩
def ti109:TI:=⟨.sc,.pointer 132,1,8,[.pointer none],[]⟩
def ti110:TI:=⟨.st [0,1,2],.struct #[fD9 "statement" 108 0 "scriptorium/check" 0,fD9 "expr" 109 1 "scriptorium/check" 8,fD9 "loops" 3 2 "scriptorium/check" 16],3,24,[.pointer none,.pointer none,.int .i64 0],[1,1,1]⟩
def ti111:TI:=⟨.st [0,1,2],.struct #[fD9 "statement" 108 0 "scriptorium/check" 0,fD9 "expr" 109 1 "scriptorium/check" 8,fD9 "loops" 3 2 "scriptorium/check" 16],3,24,[.pointer none,.pointer none,.int .i64 0],[1,1,1]⟩
def ti113:TI:=⟨.sl 132,.slice 132,1,24,[.slice none 0 0],[]⟩
def ti114:TI:=⟨.st [0,1,2,3,4],.struct #[fD9 "Kind" 3 0 "" 0,fD9 "Name" 9 1 "" 8,fD9 "Exprs" 113 2 "" 24,fD9 "Body" 50 3 "" 48,fD9 "Else" 50 4 "" 72],5,96,[.int .i64 0,St [],.slice none 0 0,.slice none 0 0,.slice none 0 0],[1,1,1,1,1]⟩
def ti115:TI:=⟨.st [0,1,2,3,4],.struct #[fD9 "Kind" 3 0 "" 0,fD9 "Name" 9 1 "" 8,fD9 "Exprs" 113 2 "" 24,fD9 "Body" 50 3 "" 48,fD9 "Else" 50 4 "" 72],5,96,[.int .i64 0,St [],.slice none 0 0,.slice none 0 0,.slice none 0 0],[1,1,1,1,1]⟩
def ti117:TI:=⟨.sc,.pointer 61,1,8,[.pointer none],[]⟩
def ti124:TI:=⟨.sc,.pointer 5,1,8,[.pointer none],[]⟩
def ti127:TI:=⟨.st [0,1],.struct #[fD9 "Kind" 3 0 "" 0,fD9 "Index" 3 1 "" 8],2,16,[.int .i64 0,.int .i64 0],[1,1]⟩
def ti128:TI:=⟨.st [0,1],.struct #[fD9 "Kind" 3 0 "" 0,fD9 "Index" 3 1 "" 8],2,16,[.int .i64 0,.int .i64 0],[1,1]⟩
def qmc:ti128.ok Tryz.prog 128:=⟨Tryz.underlying128,tB9⟩
def ti131:TI:=⟨.st [0,1,2,3,4],.struct #[fD9 "Kind" 3 0 "" 0,fD9 "Op" 3 1 "" 8,fD9 "Number" 46 2 "" 16,fD9 "Name" 9 3 "" 24,fD9 "Args" 113 4 "" 40],5,64,[.int .i64 0,.int .i64 0,.int .u32 0,St [],.slice none 0 0],[1,1,1,1,1]⟩
def ti132:TI:=⟨.st [0,1,2,3,4],.struct #[fD9 "Kind" 3 0 "" 0,fD9 "Op" 3 1 "" 8,fD9 "Number" 46 2 "" 16,fD9 "Name" 9 3 "" 24,fD9 "Args" 113 4 "" 40],5,64,[.int .i64 0,.int .i64 0,.int .u32 0,St [],.slice none 0 0],[1,1,1,1,1]⟩
def ti134:TI:=⟨.ar 5 46,.array 5 46,5,20,[.int .u32 0,.int .u32 0,.int .u32 0,.int .u32 0,.int .u32 0],[]⟩
def ti135:TI:=⟨.st [0,1,6,7,8,9],.struct #[fD9 "Cells" 32 0 "" 0,fD9 "Regs" 134 1 "" 24,fD9 "Input" 57 6 "" 48,fD9 "Output" 57 7 "" 72,fD9 "Stop" 3 8 "" 96,fD9 "Code" 46 9 "" 104],10,112,[.slice none 0 0,.int .u32 0,.int .u32 0,.int .u32 0,.int .u32 0,.int .u32 0,.slice none 0 0,.slice none 0 0,.int .i64 0,.int .u32 0],[1,5,1,1,1,1]⟩
def ti136:TI:=⟨.st [0,1,6,7,8,9],.struct #[fD9 "Cells" 32 0 "" 0,fD9 "Regs" 134 1 "" 24,fD9 "Input" 57 6 "" 48,fD9 "Output" 57 7 "" 72,fD9 "Stop" 3 8 "" 96,fD9 "Code" 46 9 "" 104],10,112,[.slice none 0 0,.int .u32 0,.int .u32 0,.int .u32 0,.int .u32 0,.int .u32 0,.slice none 0 0,.slice none 0 0,.int .i64 0,.int .u32 0],[1,5,1,1,1,1]⟩
def ti144:TI:=⟨.st [0,1],.struct #[fD9 "name" 9 0 "scriptorium/asm" 0,fD9 "number" 46 1 "scriptorium/asm" 16],2,24,[St [],.int .u32 0],[1,1]⟩
def ti145:TI:=⟨.st [0,1],.struct #[fD9 "name" 9 0 "scriptorium/asm" 0,fD9 "number" 46 1 "scriptorium/asm" 16],2,24,[St [],.int .u32 0],[1,1]⟩
def ti146:TI:=⟨.st [0,1,2],.struct #[fD9 "line" 3 0 "scriptorium/asm" 0,fD9 "at" 3 1 "scriptorium/asm" 8,fD9 "operand" 145 2 "scriptorium/asm" 16],4,40,[.int .i64 0,.int .i64 0,St [],.int .u32 0],[1,1,2]⟩
def ti147:TI:=⟨.st [0,1,2],.struct #[fD9 "line" 3 0 "scriptorium/asm" 0,fD9 "at" 3 1 "scriptorium/asm" 8,fD9 "operand" 145 2 "scriptorium/asm" 16],4,40,[.int .i64 0,.int .i64 0,St [],.int .u32 0],[1,1,2]⟩
def ti150:TI:=⟨.sc,.pointer 152,1,8,[.pointer none],[]⟩
def ti151:TI:=⟨.st [0],.struct #[fD9 "nodes" 3 0 "scriptorium/syntax" 0],1,8,[.int .i64 0],[1]⟩
def ti152:TI:=⟨.st [0],.struct #[fD9 "nodes" 3 0 "scriptorium/syntax" 0],1,8,[.int .i64 0],[1]⟩
def ti159:TI:=⟨.st [0,1,2],.struct #[fD9 "name" 9 0 "scriptorium/check" 0,fD9 "kind" 3 1 "scriptorium/check" 16,fD9 "arguments" 3 2 "scriptorium/check" 24],3,32,[St [],.int .i64 0,.int .i64 0],[1,1,1]⟩
def ti160:TI:=⟨.st [0,1,2],.struct #[fD9 "name" 9 0 "scriptorium/check" 0,fD9 "kind" 3 1 "scriptorium/check" 16,fD9 "arguments" 3 2 "scriptorium/check" 24],3,32,[St [],.int .i64 0,.int .i64 0],[1,1,1]⟩
def ti176:TI:=⟨.sc,.pointer 181,1,8,[.pointer none],[]⟩
def ti178:TI:=⟨.ar 256 3,.array 256 3,256,2048,(List.replicate 256 (.int .i64 0)),[]⟩
def ti179:TI:=⟨.sc,.map 46 3,1,8,[.map none],[]⟩
def ti180:TI:=⟨.st [0,10,11,267,268],.struct #[{ name := "State", type:=136,offset:=0,embedded:=true,tag := "", pkgPath := "", byteOffset:=0 },fD9 "instructions" 40 10 "scriptorium/tiny" 112,fD9 "small" 178 11 "scriptorium/tiny" 136,fD9 "others" 179 267 "scriptorium/tiny" 2184,fD9 "operand" 46 268 "scriptorium/tiny" 2192],269,2200,[.slice none 0 0,.int .u32 0,.int .u32 0,.int .u32 0,.int .u32 0,.int .u32 0,.slice none 0 0,.slice none 0 0,.int .i64 0,.int .u32 0,.slice none 0 0,.int .i64 0,.int .i64 0,.int .i64 0,.int .i64 0,.int .i64 0,.int .i64 0,.int .i64 0,.int .i64 0,.int .i64 0,.int .i64 0,.int .i64 0,.int .i64 0,.int .i64 0,.int .i64 0,.int .i64 0,.int .i64 0,.int .i64 0,.int .i64 0,.int .i64 0,.int .i64 0,.int .i64 0,.int .i64 0,.int .i64 0,.int .i64 0,.int .i64 0,.int .i64 0,.int .i64 0,.int .i64 0,.int .i64 0,.int .i64 0,.int .i64 0,.int .i64 0,.int .i64 0,.int .i64 0,.int .i64 0,.int .i64 0,.int .i64 0,.int .i64 0,.int .i64 0,.int .i64 0,.int .i64 0,.int .i64 0,.int .i64 0,.int .i64 0,.int .i64 0,.int .i64 0,.int .i64 0,.int .i64 0,.int .i64 0,.int .i64 0,.int .i64 0,.int .i64 0,.int .i64 0,.int .i64 0,.int .i64 0,.int .i64 0,.int .i64 0,.int .i64 0,.int .i64 0,.int .i64 0,.int .i64 0,.int .i64 0,.int .i64 0,.int .i64 0,.int .i64 0,.int .i64 0,.int .i64 0,.int .i64 0,.int .i64 0,.int .i64 0,.int .i64 0,.int .i64 0,.int .i64 0,.int .i64 0,.int .i64 0,.int .i64 0,.int .i64 0,.int .i64 0,.int .i64 0,.int .i64 0,.int .i64 0,.int .i64 0,.int .i64 0,.int .i64 0,.int .i64 0,.int .i64 0,.int .i64 0,.int .i64 0,.int .i64 0,.int .i64 0,.int .i64 0,.int .i64 0,.int .i64 0,.int .i64 0,.int .i64 0,.int .i64 0,.int .i64 0,.int .i64 0,.int .i64 0,.int .i64 0,.int .i64 0,.int .i64 0,.int .i64 0,.int .i64 0,.int .i64 0,.int .i64 0,.int .i64 0,.int .i64 0,.int .i64 0,.int .i64 0,.int .i64 0,.int .i64 0,.int .i64 0,.int .i64 0,.int .i64 0,.int .i64 0,.int .i64 0,.int .i64 0,.int .i64 0,.int .i64 0,.int .i64 0,.int .i64 0,.int .i64 0,.int .i64 0,.int .i64 0,.int .i64 0,.int .i64 0,.int .i64 0,.int .i64 0,.int .i64 0,.int .i64 0,.int .i64 0,.int .i64 0,.int .i64 0,.int .i64 0,.int .i64 0,.int .i64 0,.int .i64 0,.int .i64 0,.int .i64 0,.int .i64 0,.int .i64 0,.int .i64 0,.int .i64 0,.int .i64 0,.int .i64 0,.int .i64 0,.int .i64 0,.int .i64 0,.int .i64 0,.int .i64 0,.int .i64 0,.int .i64 0,.int .i64 0,.int .i64 0,.int .i64 0,.int .i64 0,.int .i64 0,.int .i64 0,.int .i64 0,.int .i64 0,.int .i64 0,.int .i64 0,.int .i64 0,.int .i64 0,.int .i64 0,.int .i64 0,.int .i64 0,.int .i64 0,.int .i64 0,.int .i64 0,.int .i64 0,.int .i64 0,.int .i64 0,.int .i64 0,.int .i64 0,.int .i64 0,.int .i64 0,.int .i64 0,.int .i64 0,.int .i64 0,.int .i64 0,.int .i64 0,.int .i64 0,.int .i64 0,.int .i64 0,.int .i64 0,.int .i64 0,.int .i64 0,.int .i64 0,.int .i64 0,.int .i64 0,.int .i64 0,.int .i64 0,.int .i64 0,.int .i64 0,.int .i64 0,.int .i64 0,.int .i64 0,.int .i64 0,.int .i64 0,.int .i64 0,.int .i64 0,.int .i64 0,.int .i64 0,.int .i64 0,.int .i64 0,.int .i64 0,.int .i64 0,.int .i64 0,.int .i64 0,.int .i64 0,.int .i64 0,.int .i64 0,.int .i64 0,.int .i64 0,.int .i64 0,.int .i64 0,.int .i64 0,.int .i64 0,.int .i64 0,.int .i64 0,.int .i64 0,.int .i64 0,.int .i64 0,.int .i64 0,.int .i64 0,.int .i64 0,.int .i64 0,.int .i64 0,.int .i64 0,.int .i64 0,.int .i64 0,.int .i64 0,.int .i64 0,.int .i64 0,.int .i64 0,.int .i64 0,.int .i64 0,.int .i64 0,.int .i64 0,.int .i64 0,.int .i64 0,.int .i64 0,.int .i64 0,.int .i64 0,.int .i64 0,.int .i64 0,.int .i64 0,.int .i64 0,.int .i64 0,.int .i64 0,.int .i64 0,.int .i64 0,.int .i64 0,.int .i64 0,.map none,.int .u32 0],[10,1,256,1,1]⟩
def ti181:TI:=⟨.st [0,10,11,267,268],.struct #[{ name := "State", type:=136,offset:=0,embedded:=true,tag := "", pkgPath := "", byteOffset:=0 },fD9 "instructions" 40 10 "scriptorium/tiny" 112,fD9 "small" 178 11 "scriptorium/tiny" 136,fD9 "others" 179 267 "scriptorium/tiny" 2184,fD9 "operand" 46 268 "scriptorium/tiny" 2192],269,2200,[.slice none 0 0,.int .u32 0,.int .u32 0,.int .u32 0,.int .u32 0,.int .u32 0,.slice none 0 0,.slice none 0 0,.int .i64 0,.int .u32 0,.slice none 0 0,.int .i64 0,.int .i64 0,.int .i64 0,.int .i64 0,.int .i64 0,.int .i64 0,.int .i64 0,.int .i64 0,.int .i64 0,.int .i64 0,.int .i64 0,.int .i64 0,.int .i64 0,.int .i64 0,.int .i64 0,.int .i64 0,.int .i64 0,.int .i64 0,.int .i64 0,.int .i64 0,.int .i64 0,.int .i64 0,.int .i64 0,.int .i64 0,.int .i64 0,.int .i64 0,.int .i64 0,.int .i64 0,.int .i64 0,.int .i64 0,.int .i64 0,.int .i64 0,.int .i64 0,.int .i64 0,.int .i64 0,.int .i64 0,.int .i64 0,.int .i64 0,.int .i64 0,.int .i64 0,.int .i64 0,.int .i64 0,.int .i64 0,.int .i64 0,.int .i64 0,.int .i64 0,.int .i64 0,.int .i64 0,.int .i64 0,.int .i64 0,.int .i64 0,.int .i64 0,.int .i64 0,.int .i64 0,.int .i64 0,.int .i64 0,.int .i64 0,.int .i64 0,.int .i64 0,.int .i64 0,.int .i64 0,.int .i64 0,.int .i64 0,.int .i64 0,.int .i64 0,.int .i64 0,.int .i64 0,.int .i64 0,.int .i64 0,.int .i64 0,.int .i64 0,.int .i64 0,.int .i64 0,.int .i64 0,.int .i64 0,.int .i64 0,.int .i64 0,.int .i64 0,.int .i64 0,.int .i64 0,.int .i64 0,.int .i64 0,.int .i64 0,.int .i64 0,.int .i64 0,.int .i64 0,.int .i64 0,.int .i64 0,.int .i64 0,.int .i64 0,.int .i64 0,.int .i64 0,.int .i64 0,.int .i64 0,.int .i64 0,.int .i64 0,.int .i64 0,.int .i64 0,.int .i64 0,.int .i64 0,.int .i64 0,.int .i64 0,.int .i64 0,.int .i64 0,.int .i64 0,.int .i64 0,.int .i64 0,.int .i64 0,.int .i64 0,.int .i64 0,.int .i64 0,.int .i64 0,.int .i64 0,.int .i64 0,.int .i64 0,.int .i64 0,.int .i64 0,.int .i64 0,.int .i64 0,.int .i64 0,.int .i64 0,.int .i64 0,.int .i64 0,.int .i64 0,.int .i64 0,.int .i64 0,.int .i64 0,.int .i64 0,.int .i64 0,.int .i64 0,.int .i64 0,.int .i64 0,.int .i64 0,.int .i64 0,.int .i64 0,.int .i64 0,.int .i64 0,.int .i64 0,.int .i64 0,.int .i64 0,.int .i64 0,.int .i64 0,.int .i64 0,.int .i64 0,.int .i64 0,.int .i64 0,.int .i64 0,.int .i64 0,.int .i64 0,.int .i64 0,.int .i64 0,.int .i64 0,.int .i64 0,.int .i64 0,.int .i64 0,.int .i64 0,.int .i64 0,.int .i64 0,.int .i64 0,.int .i64 0,.int .i64 0,.int .i64 0,.int .i64 0,.int .i64 0,.int .i64 0,.int .i64 0,.int .i64 0,.int .i64 0,.int .i64 0,.int .i64 0,.int .i64 0,.int .i64 0,.int .i64 0,.int .i64 0,.int .i64 0,.int .i64 0,.int .i64 0,.int .i64 0,.int .i64 0,.int .i64 0,.int .i64 0,.int .i64 0,.int .i64 0,.int .i64 0,.int .i64 0,.int .i64 0,.int .i64 0,.int .i64 0,.int .i64 0,.int .i64 0,.int .i64 0,.int .i64 0,.int .i64 0,.int .i64 0,.int .i64 0,.int .i64 0,.int .i64 0,.int .i64 0,.int .i64 0,.int .i64 0,.int .i64 0,.int .i64 0,.int .i64 0,.int .i64 0,.int .i64 0,.int .i64 0,.int .i64 0,.int .i64 0,.int .i64 0,.int .i64 0,.int .i64 0,.int .i64 0,.int .i64 0,.int .i64 0,.int .i64 0,.int .i64 0,.int .i64 0,.int .i64 0,.int .i64 0,.int .i64 0,.int .i64 0,.int .i64 0,.int .i64 0,.int .i64 0,.int .i64 0,.int .i64 0,.int .i64 0,.int .i64 0,.int .i64 0,.int .i64 0,.int .i64 0,.int .i64 0,.int .i64 0,.int .i64 0,.int .i64 0,.int .i64 0,.int .i64 0,.int .i64 0,.int .i64 0,.int .i64 0,.int .i64 0,.int .i64 0,.int .i64 0,.int .i64 0,.int .i64 0,.int .i64 0,.int .i64 0,.int .i64 0,.int .i64 0,.int .i64 0,.int .i64 0,.int .i64 0,.int .i64 0,.int .i64 0,.int .i64 0,.int .i64 0,.map none,.int .u32 0],[10,1,256,1,1]⟩
def ti187:TI:=⟨.st [0,1,2,3],.struct #[fD9 "label" 9 0 "scriptorium/asm" 0,fD9 "operation" 9 1 "scriptorium/asm" 16,fD9 "has" 4 2 "scriptorium/asm" 32,fD9 "operand" 145 3 "scriptorium/asm" 40],5,64,[St [],St [],.bool false,St [],.int .u32 0],[1,1,1,2]⟩
def ti188:TI:=⟨.st [0,1,2,3],.struct #[fD9 "label" 9 0 "scriptorium/asm" 0,fD9 "operation" 9 1 "scriptorium/asm" 16,fD9 "has" 4 2 "scriptorium/asm" 32,fD9 "operand" 145 3 "scriptorium/asm" 40],5,64,[St [],St [],.bool false,St [],.int .u32 0],[1,1,1,2]⟩
def ti191:TI:=⟨.st [0,1],.struct #[fD9 "Name" 9 0 "" 0,fD9 "Address" 46 1 "" 16],2,24,[St [],.int .u32 0],[1,1]⟩
def ti192:TI:=⟨.st [0,1],.struct #[fD9 "Name" 9 0 "" 0,fD9 "Address" 46 1 "" 16],2,24,[St [],.int .u32 0],[1,1]⟩
def ti197:TI:=⟨.sc,.pointer 199,1,8,[.pointer none],[]⟩
def ti198:TI:=⟨.st [0],.struct #[{ name := "Builder", type:=59,offset:=0,embedded:=true,tag := "", pkgPath := "", byteOffset:=0 }],2,32,[.pointer none,.slice none 0 0],[2]⟩
def ti199:TI:=⟨.st [0],.struct #[{ name := "Builder", type:=59,offset:=0,embedded:=true,tag := "", pkgPath := "", byteOffset:=0 }],2,32,[.pointer none,.slice none 0 0],[2]⟩
def ti203:TI:=⟨.sl 49,.slice 49,1,24,[.slice none 0 0],[]⟩
def ti218:TI:=⟨.sc,.pointer 95,1,8,[.pointer none],[]⟩
def ti222:TI:=⟨.sc,.pointer 99,1,8,[.pointer none],[]⟩
def ti239:TI:=⟨.sl 50,.slice 50,1,24,[.slice none 0 0],[]⟩
def ti241:TI:=⟨.sc,.int .u64,1,8,[.int .u64 0],[]⟩
def ti244:TI:=⟨.ar 24 5,.array 24 5,24,24,(List.replicate 24 (.int .u8 0)),[]⟩
def ti261:TI:=⟨.sl 263,.slice 263,1,24,[.slice none 0 0],[]⟩
def ti262:TI:=⟨.st [0,1],.struct #[fD9 "start" 3 0 "strings" 0,fD9 "end" 3 1 "strings" 8],2,16,[.int .i64 0,.int .i64 0],[1,1]⟩
def ti263:TI:=⟨.st [0,1],.struct #[fD9 "start" 3 0 "strings" 0,fD9 "end" 3 1 "strings" 8],2,16,[.int .i64 0,.int .i64 0],[1,1]⟩
def ti274:TI:=⟨.ar 20 241,.array 20 241,20,160,(List.replicate 20 (.int .u64 0)),[]⟩
def ti275:TI:=⟨.ar 65 5,.array 65 5,65,65,(List.replicate 65 (.int .u8 0)),[]⟩
def ti276:TI:=⟨.sc,.int .u64,1,8,[.int .u64 0],[]⟩
def ti284:TI:=⟨.ar 256 5,.array 256 5,256,256,(List.replicate 256 (.int .u8 0)),[]⟩
def ti290:TI:=⟨.sc,.map 3 49,1,8,[.map none],[]⟩
def ti291:TI:=⟨.st [0,1],.struct #[fD9 "lo" 5 0 "unicode/utf8" 0,fD9 "hi" 5 1 "unicode/utf8" 1],2,2,[.int .u8 0,.int .u8 0],[1,1]⟩
def ti292:TI:=⟨.st [0,1],.struct #[fD9 "lo" 5 0 "unicode/utf8" 0,fD9 "hi" 5 1 "unicode/utf8" 1],2,2,[.int .u8 0,.int .u8 0],[1,1]⟩
def ti293:TI:=⟨.ar 16 292,.array 16 292,32,32,(List.replicate 32 (.int .u8 0)),[]⟩
def ti299:TI:=⟨.sc,.pointer 313,1,8,[.pointer none],[]⟩
def ti303:TI:=⟨.ar 32 5,.array 32 5,32,32,(List.replicate 32 (.int .u8 0)),[]⟩
def ti304:TI:=⟨.ar 64 5,.array 64 5,64,64,(List.replicate 64 (.int .u8 0)),[]⟩
def ti305:TI:=⟨.sc,.int .i64,1,8,[.int .i64 0],[]⟩
def ti307:TI:=⟨.sc,.pointer 323,1,8,[.pointer none],[]⟩
def ti310:TI:=⟨.sl 316,.slice 316,1,24,[.slice none 0 0],[]⟩
def ti311:TI:=⟨.sl 319,.slice 319,1,24,[.slice none 0 0],[]⟩
def ti312:TI:=⟨.st [0,1,2],.struct #[fD9 "R16" 310 0 "" 0,fD9 "R32" 311 1 "" 24,fD9 "LatinOffset" 3 2 "" 48],3,56,[.slice none 0 0,.slice none 0 0,.int .i64 0],[1,1,1]⟩
def ti313:TI:=⟨.st [0,1,2],.struct #[fD9 "R16" 310 0 "" 0,fD9 "R32" 311 1 "" 24,fD9 "LatinOffset" 3 2 "" 48],3,56,[.slice none 0 0,.slice none 0 0,.int .i64 0],[1,1,1]⟩
def ti314:TI:=⟨.sc,.int .u16,1,2,[.int .u16 0],[]⟩
def ti315:TI:=⟨.st [0,1,2],.struct #[fD9 "Lo" 314 0 "" 0,fD9 "Hi" 314 1 "" 2,fD9 "Stride" 314 2 "" 4],3,6,[.int .u16 0,.int .u16 0,.int .u16 0],[1,1,1]⟩
def ti316:TI:=⟨.st [0,1,2],.struct #[fD9 "Lo" 314 0 "" 0,fD9 "Hi" 314 1 "" 2,fD9 "Stride" 314 2 "" 4],3,6,[.int .u16 0,.int .u16 0,.int .u16 0],[1,1,1]⟩
def ti318:TI:=⟨.st [0,1,2],.struct #[fD9 "Lo" 46 0 "" 0,fD9 "Hi" 46 1 "" 4,fD9 "Stride" 46 2 "" 8],3,12,[.int .u32 0,.int .u32 0,.int .u32 0],[1,1,1]⟩
def ti319:TI:=⟨.st [0,1,2],.struct #[fD9 "Lo" 46 0 "" 0,fD9 "Hi" 46 1 "" 4,fD9 "Stride" 46 2 "" 8],3,12,[.int .u32 0,.int .u32 0,.int .u32 0],[1,1,1]⟩
def ti322:TI:=⟨.st [0,1,2],.struct #[fD9 "Func" 9 0 "" 0,fD9 "Num" 9 1 "" 16,fD9 "Err" 119 2 "" 32],3,48,[St [],St [],.nilIface],[1,1,1]⟩
def ti323:TI:=⟨.st [0,1,2],.struct #[fD9 "Func" 9 0 "" 0,fD9 "Num" 9 1 "" 16,fD9 "Err" 119 2 "" 32],3,48,[St [],St [],.nilIface],[1,1,1]⟩
def ti325:TI:=⟨.sc,.pointer 316,1,8,[.pointer none],[]⟩
def ti326:TI:=⟨.sc,.pointer 319,1,8,[.pointer none],[]⟩
def ti327:TI:=⟨.sc,.pointer 329,1,8,[.pointer none],[]⟩
def ti328:TI:=⟨.st [0],.struct #[fD9 "s" 9 0 "errors" 0],1,16,[St []],[1]⟩
def ti329:TI:=⟨.st [0],.struct #[fD9 "s" 9 0 "errors" 0],1,16,[St []],[1]⟩
def ti330:TI:=⟨.st [0,1,2,3],.struct #[fD9 "_interface" 17 0 "runtime" 0,fD9 "concrete" 17 1 "runtime" 8,fD9 "asserted" 17 2 "runtime" 16,fD9 "missingMethod" 9 3 "runtime" 24],4,40,[.pointer none,.pointer none,.pointer none,St []],[1,1,1,1]⟩
def ti331:TI:=⟨.st [0,1,2,3],.struct #[fD9 "_interface" 17 0 "runtime" 0,fD9 "concrete" 17 1 "runtime" 8,fD9 "asserted" 17 2 "runtime" 16,fD9 "missingMethod" 9 3 "runtime" 24],4,40,[.pointer none,.pointer none,.pointer none,St []],[1,1,1,1]⟩
def ti335:TI:=⟨.sc,.int .u8,1,1,[.int .u8 0],[]⟩
def ti336:TI:=⟨.sc,.int .u8,1,1,[.int .u8 0],[]⟩
def ti338:TI:=⟨.sc,.int .i32,1,4,[.int .i32 0],[]⟩
def ti339:TI:=⟨.sc,.int .i32,1,4,[.int .i32 0],[]⟩
def ti340:TI:=⟨.st [0,1,2,3,4,5,6,7,8,9,10],.struct #[fD9 "Size_" 12 0 "" 0,fD9 "PtrBytes" 12 1 "" 8,fD9 "Hash" 46 2 "" 16,fD9 "TFlag" 335 3 "" 20,fD9 "Align_" 5 4 "" 21,fD9 "FieldAlign_" 5 5 "" 22,fD9 "Kind_" 336 6 "" 23,fD9 "Equal" 337 7 "" 24,fD9 "GCData" 124 8 "" 32,fD9 "Str" 338 9 "" 40,fD9 "PtrToThis" 339 10 "" 44],11,48,[.int .u64 0,.int .u64 0,.int .u32 0,.int .u8 0,.int .u8 0,.int .u8 0,.int .u8 0,.nilFunc,.pointer none,.int .i32 0,.int .i32 0],[1,1,1,1,1,1,1,1,1,1,1]⟩
def ti341:TI:=⟨.st [0,1,2,3,4,5,6,7,8,9,10],.struct #[fD9 "Size_" 12 0 "" 0,fD9 "PtrBytes" 12 1 "" 8,fD9 "Hash" 46 2 "" 16,fD9 "TFlag" 335 3 "" 20,fD9 "Align_" 5 4 "" 21,fD9 "FieldAlign_" 5 5 "" 22,fD9 "Kind_" 336 6 "" 23,fD9 "Equal" 337 7 "" 24,fD9 "GCData" 124 8 "" 32,fD9 "Str" 338 9 "" 40,fD9 "PtrToThis" 339 10 "" 44],11,48,[.int .u64 0,.int .u64 0,.int .u32 0,.int .u8 0,.int .u8 0,.int .u8 0,.int .u8 0,.nilFunc,.pointer none,.int .i32 0,.int .i32 0],[1,1,1,1,1,1,1,1,1,1,1]⟩
def TT:qa5:=[(2,ti2),(3,ti3),(4,ti4),(5,ti5),(6,ti6),(7,ti7),(8,ti8),(9,ti9),(10,ti10),(11,ti11),(12,ti12),(13,ti13),(14,ti14),(15,ti15),(16,ti16),(17,ti17),(18,ti18),(19,ti19),(21,ti21),(22,ti22),(23,ti23),(24,ti24),(25,ti25),(26,ti26),(27,ti27),(32,ti32),(40,ti40),(41,ti41),(42,ti42),(46,ti46),(47,ti47),(48,ti48),(49,ti49),(50,ti50),(51,ti51),(52,ti52),(54,ti54),(55,ti55),(56,ti56),(57,ti57),(58,ti58),(59,ti59),(60,ti60),(61,ti61),(62,ti62),(63,ti63),(71,ti71),(74,ti74),(75,ti75),(77,ti77),(78,ti78),(82,ti82),(85,ti85),(86,ti86),(87,ti87),(88,ti88),(89,ti89),(90,ti90),(91,ti91),(93,ti93),(94,ti94),(95,ti95),(97,ti97),(98,ti98),(99,ti99),(102,ti102),(103,ti103),(104,ti104),(108,ti108),(109,ti109),(110,ti110),(111,ti111),(113,ti113),(114,ti114),(115,ti115),(117,ti117),(124,ti124),(127,ti127),(128,ti128),(131,ti131),(132,ti132),(134,ti134),(135,ti135),(136,ti136),(144,ti144),(145,ti145),(146,ti146),(147,ti147),(150,ti150),(151,ti151),(152,ti152),(159,ti159),(160,ti160),(176,ti176),(178,ti178),(179,ti179),(180,ti180),(181,ti181),(187,ti187),(188,ti188),(191,ti191),(192,ti192),(197,ti197),(198,ti198),(199,ti199),(203,ti203),(218,ti218),(222,ti222),(239,ti239),(241,ti241),(244,ti244),(261,ti261),(262,ti262),(263,ti263),(274,ti274),(275,ti275),(276,ti276),(284,ti284),(290,ti290),(291,ti291),(292,ti292),(293,ti293),(299,ti299),(303,ti303),(304,ti304),(305,ti305),(307,ti307),(310,ti310),(311,ti311),(312,ti312),(313,ti313),(314,ti314),(315,ti315),(316,ti316),(318,ti318),(319,ti319),(322,ti322),(323,ti323),(325,ti325),(326,ti326),(327,ti327),(328,ti328),(329,ti329),(330,ti330),(331,ti331),(335,ti335),(336,ti336),(338,ti338),(339,ti339),(340,ti340),(341,ti341)]
def qav:TabOK Tryz.prog TT:=.cons ⟨Tryz.underlying2,tB9⟩<|.cons ⟨Tryz.underlying3,tB9⟩<|.cons ⟨Tryz.underlying4,tB9⟩<|.cons ⟨Tryz.underlying5,tB9⟩<|.cons ⟨Tryz.underlying6,tB9⟩<|.cons ⟨Tryz.underlying7,tB9⟩<|.cons ⟨Tryz.underlying8,tB9⟩<|.cons ⟨Tryz.underlying9,tB9⟩<|.cons ⟨Tryz.underlying10,tB9⟩<|.cons ⟨Tryz.underlying11,tB9⟩<|.cons ⟨Tryz.underlying12,tB9⟩<|.cons ⟨Tryz.underlying13,tB9⟩<|.cons ⟨Tryz.underlying14,tB9⟩<|.cons ⟨Tryz.underlying15,tB9⟩<|.cons ⟨Tryz.underlying16,tB9⟩<|.cons ⟨Tryz.underlying17,tB9⟩<|.cons ⟨Tryz.underlying18,tB9⟩<|.cons ⟨Tryz.underlying19,tB9⟩<|.cons ⟨Tryz.underlying21,tB9⟩<|.cons ⟨Tryz.underlying22,tB9⟩<|.cons ⟨Tryz.underlying23,tB9⟩<|.cons ⟨Tryz.underlying24,tB9⟩<|.cons ⟨Tryz.underlying25,tB9⟩<|.cons ⟨Tryz.underlying26,tB9⟩<|.cons ⟨Tryz.underlying27,tB9⟩<|.cons ⟨Tryz.underlying32,tB9⟩<|.cons ⟨Tryz.underlying40,tB9⟩<|.cons ⟨Tryz.underlying41,tB9⟩<|.cons ⟨Tryz.underlying42,tB9⟩<|.cons ⟨Tryz.underlying46,tB9⟩<|.cons ⟨Tryz.underlying47,tB9⟩<|.cons ⟨Tryz.underlying48,tB9⟩<|.cons ⟨Tryz.underlying49,tB9⟩<|.cons ⟨Tryz.underlying50,tB9⟩<|.cons ⟨Tryz.underlying51,tB9⟩<|.cons ⟨Tryz.underlying52,tB9⟩<|.cons ⟨Tryz.underlying54,tB9⟩<|.cons ⟨Tryz.underlying55,tB9⟩<|.cons ⟨Tryz.underlying56,tB9⟩<|.cons ⟨Tryz.underlying57,tB9⟩<|.cons ⟨Tryz.underlying58,tB9⟩<|.cons ⟨Tryz.underlying59,tB9⟩<|.cons ⟨Tryz.underlying60,tB9⟩<|.cons ⟨Tryz.underlying61,tB9⟩<|.cons ⟨Tryz.underlying62,tB9⟩<|.cons ⟨Tryz.underlying63,tB9⟩<|.cons ⟨Tryz.underlying71,tB9⟩<|.cons ⟨Tryz.underlying74,tB9⟩<|.cons ⟨Tryz.underlying75,tB9⟩<|.cons ⟨Tryz.underlying77,tB9⟩<|.cons ⟨Tryz.underlying78,tB9⟩<|.cons ⟨Tryz.underlying82,tB9⟩<|.cons ⟨Tryz.underlying85,tB9⟩<|.cons ⟨Tryz.underlying86,tB9⟩<|.cons ⟨Tryz.underlying87,tB9⟩<|.cons ⟨Tryz.underlying88,tB9⟩<|.cons ⟨Tryz.underlying89,tB9⟩<|.cons ⟨Tryz.underlying90,tB9⟩<|.cons ⟨Tryz.underlying91,tB9⟩<|.cons ⟨Tryz.underlying93,tB9⟩<|.cons ⟨Tryz.underlying94,tB9⟩<|.cons ⟨Tryz.underlying95,tB9⟩<|.cons ⟨Tryz.underlying97,tB9⟩<|.cons ⟨Tryz.underlying98,tB9⟩<|.cons ⟨Tryz.underlying99,tB9⟩<|.cons ⟨Tryz.underlying102,tB9⟩<|.cons ⟨Tryz.underlying103,tB9⟩<|.cons ⟨Tryz.underlying104,tB9⟩<|.cons ⟨Tryz.underlying108,tB9⟩<|.cons ⟨Tryz.underlying109,tB9⟩<|.cons ⟨Tryz.underlying110,tB9⟩<|.cons ⟨Tryz.underlying111,tB9⟩<|.cons ⟨Tryz.underlying113,tB9⟩<|.cons ⟨Tryz.underlying114,tB9⟩<|.cons ⟨Tryz.underlying115,tB9⟩<|.cons ⟨Tryz.underlying117,tB9⟩<|.cons ⟨Tryz.underlying124,tB9⟩<|.cons ⟨Tryz.underlying127,tB9⟩<|.cons ⟨Tryz.underlying128,tB9⟩<|.cons ⟨Tryz.underlying131,tB9⟩<|.cons ⟨Tryz.underlying132,tB9⟩<|.cons ⟨Tryz.underlying134,tB9⟩<|.cons ⟨Tryz.underlying135,tB9⟩<|.cons ⟨Tryz.underlying136,tB9⟩<|.cons ⟨Tryz.underlying144,tB9⟩<|.cons ⟨Tryz.underlying145,tB9⟩<|.cons ⟨Tryz.underlying146,tB9⟩<|.cons ⟨Tryz.underlying147,tB9⟩<|.cons ⟨Tryz.underlying150,tB9⟩<|.cons ⟨Tryz.underlying151,tB9⟩<|.cons ⟨Tryz.underlying152,tB9⟩<|.cons ⟨Tryz.underlying159,tB9⟩<|.cons ⟨Tryz.underlying160,tB9⟩<|.cons ⟨Tryz.underlying176,tB9⟩<|.cons ⟨Tryz.underlying178,tB9⟩<|.cons ⟨Tryz.underlying179,tB9⟩<|.cons ⟨Tryz.underlying180,tB9⟩<|.cons ⟨Tryz.underlying181,tB9⟩<|.cons ⟨Tryz.underlying187,tB9⟩<|.cons ⟨Tryz.underlying188,tB9⟩<|.cons ⟨Tryz.underlying191,tB9⟩<|.cons ⟨Tryz.underlying192,tB9⟩<|.cons ⟨Tryz.underlying197,tB9⟩<|.cons ⟨Tryz.underlying198,tB9⟩<|.cons ⟨Tryz.underlying199,tB9⟩<|.cons ⟨Tryz.underlying203,tB9⟩<|.cons ⟨Tryz.underlying218,tB9⟩<|.cons ⟨Tryz.underlying222,tB9⟩<|.cons ⟨Tryz.underlying239,tB9⟩<|.cons ⟨Tryz.underlying241,tB9⟩<|.cons ⟨Tryz.underlying244,tB9⟩<|.cons ⟨Tryz.underlying261,tB9⟩<|.cons ⟨Tryz.underlying262,tB9⟩<|.cons ⟨Tryz.underlying263,tB9⟩<|.cons ⟨Tryz.underlying274,tB9⟩<|.cons ⟨Tryz.underlying275,tB9⟩<|.cons ⟨Tryz.underlying276,tB9⟩<|.cons ⟨Tryz.underlying284,tB9⟩<|.cons ⟨Tryz.underlying290,tB9⟩<|.cons ⟨Tryz.underlying291,tB9⟩<|.cons ⟨Tryz.underlying292,tB9⟩<|.cons ⟨Tryz.underlying293,tB9⟩<|.cons ⟨Tryz.underlying299,tB9⟩<|.cons ⟨Tryz.underlying303,tB9⟩<|.cons ⟨Tryz.underlying304,tB9⟩<|.cons ⟨Tryz.underlying305,tB9⟩<|.cons ⟨Tryz.underlying307,tB9⟩<|.cons ⟨Tryz.underlying310,tB9⟩<|.cons ⟨Tryz.underlying311,tB9⟩<|.cons ⟨Tryz.underlying312,tB9⟩<|.cons ⟨Tryz.underlying313,tB9⟩<|.cons ⟨Tryz.underlying314,tB9⟩<|.cons ⟨Tryz.underlying315,tB9⟩<|.cons ⟨Tryz.underlying316,tB9⟩<|.cons ⟨Tryz.underlying318,tB9⟩<|.cons ⟨Tryz.underlying319,tB9⟩<|.cons ⟨Tryz.underlying322,tB9⟩<|.cons ⟨Tryz.underlying323,tB9⟩<|.cons ⟨Tryz.underlying325,tB9⟩<|.cons ⟨Tryz.underlying326,tB9⟩<|.cons ⟨Tryz.underlying327,tB9⟩<|.cons ⟨Tryz.underlying328,tB9⟩<|.cons ⟨Tryz.underlying329,tB9⟩<|.cons ⟨Tryz.underlying330,tB9⟩<|.cons ⟨Tryz.underlying331,tB9⟩<|.cons ⟨Tryz.underlying335,tB9⟩<|.cons ⟨Tryz.underlying336,tB9⟩<|.cons ⟨Tryz.underlying338,tB9⟩<|.cons ⟨Tryz.underlying339,tB9⟩<|.cons ⟨Tryz.underlying340,tB9⟩<|.cons ⟨Tryz.underlying341,tB9⟩<|TabOK.nil
def qac:Tryz.prog.follows .mixedOrders=true:=by kernel_rfl
end Go.FL
namespace Go.Proofs.YtflplmcjbppfcaaGreatDoor
open Go Go.FL
structure Tm where
 kind:Int
 val:Int
 deriving DecidableEq
structure Ac where
 kind:Int
 tgt:Int
 x:Tm
 y:Tm
 deriving DecidableEq
structure Ins where
 name:List UInt8
 code:Int
 operand:Bool
 acts:List Ac
 deriving DecidableEq
structure Tab where
 cells:Int
 ins:List Ins
 deriving DecidableEq
def Sl{α:Type}(sz:Nat)(R:World→α→List Value→Prop)(s:World)(A:Option Addr)(n c:Nat)(l:List α):Prop:=
 n=l.length∧n≤c∧c≤9223372036854775807∧∀ i x,l[i]?=some x→∃ b off cs,A=some ⟨b,off,none⟩∧CellsAt s b (off+i * sz) cs∧cs.length=sz∧R s x cs
def Sl.le{α:Type}{sz:Nat}{R:World→α→List Value→Prop}{D:Nat}{s s':World}{A:Option Addr}{n c:Nat}{l:List α}(hR:∀ x cs,R s x cs→R s' x cs)(h:Sl sz R s A n c l)(hl:Le D s s'):Sl sz R s' A n c l:=
 ⟨h.1,h.2.1,h.2.2.1,fun i x hi=>by
  obtain ⟨b,off,cs,h1,h2,h3,h4⟩:=h.2.2.2 i x hi;exact ⟨b,off,cs,h1,h2.le hl,h3,hR x cs h4⟩⟩
def U32(x:Int):Prop:=0≤x∧x < 4294967296
def Ac.cs(a:Ac):List Value:=[.int .i64 a.kind,.int .i64 a.tgt,.int .i64 a.x.kind,.int .u32 a.x.val,.int .i64 a.y.kind,.int .u32 a.y.val]
def Acs(s:World)(A:Option Addr)(n c:Nat)(l:List Ac):Prop:=Sl 6 (fun _ a cs=>cs=a.cs∧U32 a.x.val∧U32 a.y.val) s A n c l
def Acs.le{D:Nat}{s s':World}{A:Option Addr}{n c:Nat}{l:List Ac}(h:Acs s A n c l)(hl:Le D s s'):Acs s' A n c l:=Sl.le (fun _ _ h=>h) h hl
def InsR(s:World)(x:Ins)(cs:List Value):Prop:=∃ A n c,cs=[St x.name,.int .u32 x.code,.bool x.operand,.slice A n c]∧Acs s A n c x.acts∧x.name.length≤9223372036854775807∧U32 x.code
def Inss(s:World)(A:Option Addr)(n c:Nat)(l:List Ins):Prop:=Sl 4 InsR s A n c l
def InsR.le{D:Nat}{s s':World}{x:Ins}{cs:List Value}(h:InsR s x cs)(hl:Le D s s'):InsR s' x cs:=by
 obtain ⟨A,n,c,h1,h2,h3⟩:=h;exact ⟨A,n,c,h1,h2.le hl,h3⟩
def Inss.le{D:Nat}{s s':World}{A:Option Addr}{n c:Nat}{l:List Ins}(h:Inss s A n c l)(hl:Le D s s'):Inss s' A n c l:=Sl.le (fun _ _ h=>h.le hl) h hl
def Acs.at_{s:World}{A:Option Addr}{n c k:Nat}{l:List Ac}(h:Acs s A n c l)(hk:k < n):∃ b off a,A=some ⟨b,off,none⟩∧l[k]?=some a ∧
  CellsAt s b (off+k * 6) [.int .i64 a.kind,.int .i64 a.tgt,.int .i64 a.x.kind,.int .u32 a.x.val,.int .i64 a.y.kind,.int .u32 a.y.val]∧U32 a.x.val∧U32 a.y.val:=by
 have hl:k < l.length:=by rw [← h.1];exact hk
 obtain ⟨b,off,cs,h1,h2,_,rfl,h5⟩:=h.2.2.2 k l[k] (List.getElem?_eq_getElem hl);exact ⟨b,off,l[k],h1,List.getElem?_eq_getElem hl,h2,h5⟩
def Inss.at_{s:World}{A:Option Addr}{n c k:Nat}{l:List Ins}(h:Inss s A n c l)(hk:k < n):∃ b off x A' n' c',A=some ⟨b,off,none⟩∧l[k]?=some x ∧
  CellsAt s b (off+k * 4) [St x.name,.int .u32 x.code,.bool x.operand,.slice A' n' c']∧Acs s A' n' c' x.acts∧x.name.length≤9223372036854775807∧U32 x.code:=by
 have hl:k < l.length:=by rw [← h.1];exact hk
 obtain ⟨b,off,cs,h1,h2,_,A',n',c',rfl,h5,h6⟩:=h.2.2.2 k l[k] (List.getElem?_eq_getElem hl);exact ⟨b,off,l[k],A',n',c',h1,List.getElem?_eq_getElem hl,h2,h5,h6⟩
def Sl.take{α:Type}{sz:Nat}{R:World→α→List Value→Prop}{s:World}{A:Option Addr}{n c k:Nat}{l:List α}(h:Sl sz R s A n c l)(hk:k < n):Sl sz R s A k c (l.take k):=
 ⟨by have:=h.1;simp;omega,by have:=h.2.1;omega,h.2.2.1,fun i x hi=>h.2.2.2 i x (by
  rw [List.getElem?_take] at hi;split at hi
  · exact hi
  · cases hi)⟩
def Inss.take{s:World}{A:Option Addr}{n c k:Nat}{l:List Ins}(h:Inss s A n c l)(hk:k < n):Inss s A k c (l.take k):=Sl.take h hk
def Wds(s:World)(A:Option Addr)(n c:Nat)(l:List Int):Prop:=Sl 1 (fun _ x cs=>cs=[.int .u32 x]∧U32 x) s A n c l
def Bts(s:World)(A:Option Addr)(n c:Nat)(l:List UInt8):Prop:=Sl 1 (fun _ x cs=>cs=[.int .u8 (x.toNat:Int)]) s A n c l
def Wds.le{D:Nat}{s s':World}{A:Option Addr}{n c:Nat}{l:List Int}(h:Wds s A n c l)(hl:Le D s s'):Wds s' A n c l:=Sl.le (fun _ _ h=>h) h hl
def Bts.le{D:Nat}{s s':World}{A:Option Addr}{n c:Nat}{l:List UInt8}(h:Bts s A n c l)(hl:Le D s s'):Bts s' A n c l:=Sl.le (fun _ _ h=>h) h hl
def Wds.at_{s:World}{A:Option Addr}{n c k:Nat}{l:List Int}(h:Wds s A n c l)(hk:k < n):∃ b off x,A=some ⟨b,off,none⟩∧l[k]?=some x∧CellsAt s b (off+k) [.int .u32 x]∧U32 x:=by
 have hl:k < l.length:=by rw [← h.1];exact hk
 obtain ⟨b,off,cs,h1,h2,_,rfl,h4⟩:=h.2.2.2 k l[k] (List.getElem?_eq_getElem hl);exact ⟨b,off,l[k],h1,List.getElem?_eq_getElem hl,by simpa using h2,h4⟩
def Bts.at_{s:World}{A:Option Addr}{n c k:Nat}{l:List UInt8}(h:Bts s A n c l)(hk:k < n):∃ b off x,A=some ⟨b,off,none⟩∧l[k]?=some x∧CellsAt s b (off+k) [.int .u8 (x.toNat:Int)]:=by
 have hl:k < l.length:=by rw [← h.1];exact hk
 obtain ⟨b,off,cs,h1,h2,_,rfl⟩:=h.2.2.2 k l[k] (List.getElem?_eq_getElem hl);exact ⟨b,off,l[k],h1,List.getElem?_eq_getElem hl,by simpa using h2⟩
structure Mst where
 cells:List Int
 r0:Int
 r1:Int
 r2:Int
 r3:Int
 r4:Int
 input:List UInt8
 output:List UInt8
 stop:Int
 code:Int
 deriving DecidableEq
def qa1{α:Type}{p:Nat→α→Prop}{l:List α}{k:Nat}{a:α}(h:∀ i b,i < k→l[i]?=some b→p i b)(hk:l[k]?=some a)(ha:p k a):∀ i b,i < k+1→l[i]?=some b→p i b:=by
 intro i b hi hb;rcases Nat.lt_succ_iff_lt_or_eq.1 hi with h1|rfl
 · exact h i b h1 hb
 · rw [hk] at hb;injection hb with hb;subst hb;exact ha
def qgf(c:UInt8):Bool:=decide (97≤c.toNat) && decide (c.toNat≤122)
def qfM(c:UInt8):Bool:=decide (48≤c.toNat) && decide (c.toNat≤57)
def qef(i:Nat)(c:UInt8):Bool:=qgf c || (qfM c && decide (i≠0))
def qaX(i:Nat):List UInt8→Bool
 | []=>true
 | c::r=>qef i c && qaX (i+1) r
def qfi(l:List UInt8)(i:Nat):qaX i l=true↔∀ j c,l[j]?=some c→qef (i+j) c=true:=by
  induction l generalizing i with
  | nil=>simp [qaX]
  | cons c r ih=>
    simp only [qaX,Bool.and_eq_true,ih];constructor
    · rintro ⟨h1,h2⟩ j d hj
      cases j with
      | zero=>simp at hj;subst hj;exact h1
      | succ j=>simp at hj;have:=h2 j d hj;rwa [Nat.add_assoc,Nat.add_comm 1 j] at this
    · intro h
      exact ⟨by simpa using h 0 c (by simp),fun j d hj=>by have:=h (j+1) d (by simpa using hj);rwa [Nat.add_assoc,Nat.add_comm 1 j]⟩
def qjf{l:List UInt8}(h:∀ i c,i < l.length→l[i]?=some c→qef i c=true):qaX 0 l=true:=
 (qfi l 0).2 fun j c hj=>by
  have hl:j < l.length:=(List.getElem?_eq_some_iff.1 hj).1;simpa using h j c hl hj
def qjh{l:List UInt8}{k:Nat}{c:UInt8}(hk:l[k]?=some c)(h:qef k c=false):qaX 0 l=false:=by
 cases hb:qaX 0 l with
 | false=>rfl
 | true=>have:=(qfi l 0).1 hb k c hk;simp at this;rw [this] at h;cases h
def qbd(l:List UInt8):Bool:=decide (l≠[]) && decide (l.length≤6) && qaX 0 l
def qmL(l:List UInt8):Bool:=qbd l && decide (l≠[119,111,114,100]) && decide (l≠[115,112,97,99,101])
def qdV:List Int→Int
 | []=>0
 | c::r=>if c≠0 then c else qdV r
def qku{α:Type}{f:α→Int}{l:List α}{k:Nat}{a:α}(h:∀ i b,i < k→l[i]?=some b→f b=0)(hk:l[k]?=some a)(ha:f a≠0):qdV (l.map f)=f a:=by
 induction l generalizing k with
 | nil=>simp at hk
 | cons b r ih=>
  cases k with
  | zero=>simp at hk;subst hk;simp [qdV,ha]
  | succ k=>
   have h0:=h 0 b O (by simp);simp only [List.map_cons,qdV,h0,ne_eq,not_true,if_false];exact ih (k:=k) (fun i c hi hc=>h (i+1) c O (by simpa using hc)) (by simpa using hk)
def qjy{α:Type}{f:α→Int}{l:List α}(h:∀ i b,i < l.length→l[i]?=some b→f b=0):qdV (l.map f)=0:=by
 induction l with
 | nil=>rfl
 | cons b r ih=>
  have h0:=h 0 b (by simp) (by simp);simp only [List.map_cons,qdV,h0,ne_eq,not_true,if_false];exact ih fun i c hi hc=>h (i+1) c (by simp;omega) (by simpa using hc)
def qb1(f:Nat→Int):Nat→Nat→Int×Int
 | 0,_=>(0,0)
 | m+1,k=>if f k≠0 then (f k,(k:Int)) else qb1 f m (k+1)
def qgb{f:Nat→Int}{m k j:Nat}(h:∀ i,j≤i→i < k→f i=0)(hj:j≤k)(hk:f k≠0)(hm:k < j+m):qb1 f m j=(f k,(k:Int)):=by
  induction m generalizing j with
  | zero=>omega
  | succ m ih=>
    by_cases he:j=k
    · subst he;simp [qb1,hk]
    · have h0:=h j (Nat.le_refl _) O
      simp only [qb1,h0,ne_eq,not_true,if_false];exact ih (fun i h1 h2=>h i O h2) O O
def qio{f:Nat→Int}{m j:Nat}(h:∀ i,j≤i→i < j+m→f i=0):qb1 f m j=(0,0):=by
 induction m generalizing j with
 | zero=>rfl
 | succ m ih=>
  have h0:=h j (Nat.le_refl _) O;simp only [qb1,h0,ne_eq,not_true,if_false];exact ih fun i h1 h2=>h i O O
def qxA(k:Int):Bool:=!(decide (k=14) || decide (k=18) || decide (k=16) || decide (k=17))
def qxB(k:Int):Bool:=!(decide (k=15))
def qxC(k:Int):Bool:=!(decide (k=16) || decide (k=17) || decide (k=15) || decide (k=0) || decide (k=13))
def qm5(t:Tm)(u o:Bool):Bool:=if u then (decide (t.kind=0) || decide (t.kind=1) && decide (t.val≤4) || decide (t.kind=2) && decide (t.val=0) && o) else decide (t.kind=0) && decide (t.val=0)
def qeW(a:Ac)(o:Bool):Int:=
 if a.kind < 0∨20≤a.kind then 5 else if a.tgt < 0∨4 < a.tgt then 4
 else if (!qxA a.kind && decide (a.tgt≠0)) || !qm5 a.x (qxB a.kind) o || !qm5 a.y (qxC a.kind) o then 6 else 0
def qcs(x:Ins):Int:=if qmL x.name=false then 7 else if 8 < x.acts.length then 2 else qdV (x.acts.map fun a=>qeW a x.operand)
def qe5(x y:Ins):Bool:=decide (x.name=y.name) || decide (x.code=y.code)
def qbt{α:Type}(p:α→Bool):List α→Nat→Int
 | [],_=>-1
 | x::r,k=>if p x then (k:Int) else qbt p r (k+1)
def qfo{α:Type}{p:α→Bool}{l:List α}{k j:Nat}{a:α}(h:∀ i b,i < k→l[i]?=some b→p b=false)(hk:l[k]?=some a)(ha:p a=true):qbt p l j=(j+k:Nat):=by
 induction l generalizing k j with
 | nil=>simp at hk
 | cons b r ih=>
  cases k with
  | zero=>simp at hk;subst hk;simp [qbt,ha]
  | succ k=>
   have h0:=h 0 b O (by simp);simp only [qbt,h0,Bool.false_eq_true,if_false];rw [ih (k:=k) (fun i c hi hc=>h (i+1) c O (by simpa using hc)) (by simpa using hk)];congr 1;omega
def qeC{α:Type}{p:α→Bool}{l:List α}{j:Nat}(h:∀ i b,i < l.length→l[i]?=some b→p b=false):qbt p l j=-1:=by
 induction l generalizing j with
 | nil=>rfl
 | cons b r ih=>
  have h0:=h 0 b (by simp) (by simp);simp only [qbt,h0,Bool.false_eq_true,if_false];exact ih fun i c hi hc=>h (i+1) c (by simp;omega) (by simpa using hc)
def qjF{α:Type}(p:α→Bool)(l:List α)(j:Nat):decide (0≤qbt p l j)=l.any p:=by
 induction l generalizing j with
 | nil=>simp [qbt]
 | cons b r ih=>
  by_cases hb:p b=true
  · simp [qbt,hb]
  · simp only [qbt,hb];simpa [hb] using ih (j+1)
def qdd(l:List Ins)(k:Nat):Int:=match l[k]? with
 | none=>0
 | some x=>if qcs x≠0 then qcs x else if (l.take k).any (qe5 x) then 8 else 0
def qaO(t:Tab):Int×Int:=
 if t.cells < 1∨65536 < t.cells then (4,-1) else if 64 < t.ins.length then (2,-1) else qb1 (qdd t.ins) t.ins.length 0
open Go.Proofs.Tryz
def qnE{P:Program}{t:Nat}{ti:TI}(h:ti.ok P t)(hk:qem ti.kind=true)(w:World):(isAgg t).run P w=.ok false w:=by rw [qf4 h,hk];rfl
def qqV(d:Nat)(a b c e:Int)(w:World):(Op.equalIn (d+2) 91 (.agg #[.int .i64 a,.int .u32 b]) (.agg #[.int .i64 c,.int .u32 e])).run prog w=.ok (decide (a=c) && decide (b=e)) w:=by
 rw [run_equalIn_agg w (d+1) 91 _ _ V V];simp only [Program.fieldsOf,underlying91,Op.eqFields,part];simp [qnE qj3 rfl,qnE qkR rfl,run_equalIn_int w d 3 .i64 .i64 _ _ underlying3,run_equalIn_int w d 46 .u32 .u32 _ _ underlying46];by_cases h1:a=c<;>by_cases h2:b=e<;>simp [h1,h2]
def qyR(a b c d:Int):EqA prog 91 [.int .i64 a,.int .u32 b] [.int .i64 c,.int .u32 d] (decide (a=c) && decide (b=d)):=⟨by kernel_rfl,fun w=>qqV 9998 a b c d w⟩
def qbL(a b c d:Int):EqA prog 27 [.int .i64 a,.int .i64 b] [.int .i64 c,.int .i64 d] (decide (a=c∧b=d)):=⟨by kernel_rfl,fun w=>by
 show (Op.equalIn (9998+2) 27 _ _).run prog w=_;rw [run_equalIn_agg w 9999 27 _ _ V V];simp only [Program.fieldsOf,underlying27,Op.eqFields,part];simp [qnE qj3 rfl,run_equalIn_int w 9998 3 .i64 .i64 _ _ underlying3];by_cases h1:a=c<;>by_cases h2:b=d<;>simp [h1,h2]⟩
end Go.Proofs.YtflplmcjbppfcaaGreatDoor
namespace Go.FL
open Go Go.RowKit
variable{D:Nat}
def qrt{L L':Hl}{s w':World}(h:OKL D L s)(hos:w'.os=s.os)(htp:w'.tape=s.tape)(hout:w'.output=s.output)(hsz:s.heap.size≤w'.heap.size)(hnd:(L'.map (·.1)).Nodup)
    (hin:∀ x∈L',w'.heap[x.1]?=some x.2) (hkeys:∀ x∈L',x.1∈L.map (·.1)∨s.heap.size≤x.1) (hold:∀ k,k < s.heap.size→k ∉ L.map (·.1)→w'.heap[k]?=s.heap[k]?) :
    w'=fill L' (qcy D L' w')∧OKL D L' (qcy D L' w')∧Le D s (qcy D L' w'):=by
  have hlt:∀ x∈L',x.1 < w'.heap.size:=fun x hx=>by
    have:=hin x hx;rcases Nat.lt_or_ge x.1 w'.heap.size with h1|h1
    · exact h1
    · rw [Array.getElem?_eq_none h1] at this;cases this
  have hok:OKL D L' (qcy D L' w'):=⟨hnd,fun x hx=>qjb hlt (List.mem_map.2 ⟨x,hx,rfl⟩)⟩;refine ⟨qdz (qdt fun k=>?_) ?_ ?_ ?_ ?_,hok,⟨?_,?_,?_,by rw [qfR];exact hsz,fun k hk=>?_⟩⟩
  · by_cases hk:k∈L'.map (·.1)
    · obtain ⟨x,hx,rfl⟩:=List.mem_map.1 hk
      rw [qa7 hok hx,hin x hx]
    · rw [qbj hk,qc7 hk]
  · rw [qbT,qez]
  · rw [qc2,qgQ]
  · rw [qc9,qgv]
  · rw [qbu,qdo]
  · rw [qgv,hos]
  · rw [qez,htp]
  · rw [qdo,hout]
  · by_cases hd:s.heap[k]?=some (dum D)
    · exact .inl hd
    · have hk1:=qiA h hd
      have hk2:k ∉ L'.map (·.1):=fun hm=>by
        obtain ⟨x,hx,rfl⟩:=List.mem_map.1 hm;rcases hkeys x hx with h1|h1
        · exact hk1 h1
        · omega
      exact .inr (by rw [qc7 hk2,hold k hk hk1])
inductive Own(e sz:Nat):Hl→Value→Nat→List Value→Prop
 | nil:FL.Own e sz [] (.slice none 0 0) 0 []
 | blk (b cap n:Nat) (xs ys:List Value) (hn:xs.length=n * sz) (hc:xs.length+ys.length=cap * sz) (hnc:n≤cap) (hm:cap≤9223372036854775807):FL.Own e sz [(b,cb (xs++ys) e)] (.slice (some ⟨b,0,none⟩) n cap) n xs
def Row(s:World)(A:Option Addr)(m sz:Nat)(news:List Value):Prop:=
 news.length=m * sz∧(∀ u∈news,u.oneCell'=true)∧∀ j u,news[j]?=some u→∃ b off,A=some ⟨b,off,none⟩∧s.cell? ⟨b,off+j,none⟩=some u
def Row.of_cells{s:World}{b off m sz:Nat}{news:List Value}(h:CellsAt s b off news)(hl:news.length=m * sz)(h1:news.all (·.oneCell')=true):Row s (some ⟨b,off,none⟩) m sz news:=
 ⟨hl,fun u hu=>List.all_eq_true.1 h1 u hu,fun j u hj=>⟨b,off,rfl,h j u hj⟩⟩
def Row.le{s s':World}{A:Option Addr}{m sz:Nat}{news:List Value}(h:Row s A m sz news)(hl:Le D s s'):Row s' A m sz news:=
 ⟨h.1,h.2.1,fun j u hj=>by obtain ⟨b,off,h1,h2⟩:=h.2.2 j u hj;exact ⟨b,off,h1,hl.cell h2⟩⟩
def Own.owns{e sz:Nat}{A:Hl}{v:Value}{n:Nat}{xs:List Value}(h:FL.Own e sz A v n xs){w:World}(hw:∀ x∈A,w.heap[x.1]?=some x.2):w.ownsRow 0 e sz v n xs:=by
 cases h with
 | nil=>exact World.ownsRow_nil w 0 e sz
 | blk b cap n xs ys hn hc hnc hm=>
  refine ⟨hn,.inr ⟨b,cap,(xs++ys).toArray,Z,Nat.zero_le _,hw _ Mc,hnc,by simpa [maxLen] using hm,by simpa using hc,?_⟩⟩;rw [← hn];simp
def Own.key{e sz:Nat}{A:Hl}{v:Value}{n:Nat}{xs:List Value}(h:FL.Own e sz A v n xs)(k:Nat):k∈A.map (·.1)↔v.ownBlock=some k:=by
 cases h with
 | nil=>simp [Value.ownBlock]
 | blk b cap n xs ys=>simp [Value.ownBlock,eq_comm]
def Own.of_owns{e sz:Nat}{w:World}{v:Value}{n:Nat}{xs:List Value}(h:w.ownsRow 0 e sz v n xs):∃ A,FL.Own e sz A v n xs∧∀ x∈A,w.heap[x.1]?=some x.2:=by
  obtain ⟨h1,h2⟩:=h;rcases h2 with ⟨rfl,rfl⟩|⟨g,cap,cur,rfl,_,hg,hnc,hcm,hcs,ht⟩
  · have:xs=[]:=List.eq_nil_of_length_eq_zero (by simpa using h1)
    subst this;exact ⟨[],.nil,fun x hx=>by cases hx⟩
  · have he:cur=(xs++cur.toList.drop (n * sz)).toArray:=by
      rw [← ht,List.take_append_drop]
    have hcs':xs.length+(cur.toList.drop (n * sz)).length=cap * sz:=by
      rw [← hcs,← List.length_append];have:=congrArg Array.size he;simpa using this.symm
    refine ⟨[(g,cb (xs++cur.toList.drop (n * sz)) e)],.blk g cap n xs _ h1 hcs' hnc (by simpa [maxLen] using hcm),fun x hx=>?_⟩;simp only [List.mem_singleton] at hx;subst hx;rw [hg,cb,← he]
def mem_mid{B A L0:Hl}{x:Nat×Obj}:x∈B++(A++L0)↔x∈B∨x∈A∨x∈L0:=by simp
def qub{B A A' L0:Hl}{s w':World}{e sz:Nat}{v v':Value}{n n':Nat}{xs xs':List Value}(h:OKL D (B++(A++L0)) s)(hO:FL.Own e sz A v n xs)(hO':FL.Own e sz A' v' n' xs')(hA':∀ x∈A',w'.heap[x.1]?=some x.2)
    (hg:(fill (B++(A++L0)) s).grownBy w' v.ownBlock) (hat:v'.ownBlock=v.ownBlock∨v'.ownBlock=some s.heap.size) :
    w'=fill (B++(A'++L0)) (qcy D (B++(A'++L0)) w')∧OKL D (B++(A'++L0)) (qcy D (B++(A'++L0)) w')∧Le D s (qcy D (B++(A'++L0)) w'):=by
  have hnd:=h.nd;have hkA':∀ k,k∈A'.map (·.1)→k∈A.map (·.1)∨k=s.heap.size:=fun k hk=>by
    rw [hO'.key] at hk;rcases hat with h1|h1
    · exact .inl ((hO.key k).2 (h1▸hk))
    · rw [h1] at hk;injection hk with hk;exact .inr hk.symm
  have hsize:=hg.size;rw [qaN] at hsize;have hlt:∀ x∈B++(A++L0),x.1 < s.heap.size:=fun x hx=>h.lt hx;simp only [List.map_append,List.nodup_append,List.mem_append] at hnd;obtain ⟨nB,⟨nA,nL,dAL⟩,dB⟩:=hnd;have hrest:∀ x,x∈B∨x∈L0→w'.heap[x.1]?=some x.2:=fun x hx=>by
    have hmem:x∈B++(A++L0):=mem_mid.2 (by rcases hx with h1|h1;exact .inl h1;exact .inr (.inr h1));rw [hg.block x.1 (by rw [qaN];exact hlt x hmem),qa7 h hmem];intro he;have hk:=(hO.key x.1).2 he.symm;rcases hx with h1|h1
    · exact dB _ (List.mem_map.2 ⟨x,h1,rfl⟩) _ (.inl hk) rfl
    · exact dAL _ hk _ (List.mem_map.2 ⟨x,h1,rfl⟩) rfl
  refine qrt h (hg.os.trans (qc9 _ _)) (hg.tape.trans (qbT _ _)) (hg.output.trans (qbu _ _)) hsize ?_ ?_ ?_ ?_
  · have nA':(A'.map (·.1)).Nodup:=by cases hO'<;>simp
    simp only [List.map_append,List.nodup_append,List.mem_append];refine ⟨nB,⟨nA',nL,fun a ha b hb he=>?_⟩,fun a ha b hb he=>?_⟩
    · subst he
      rcases hkA' a ha with h1|h1
      · exact dAL _ h1 _ hb rfl
      · obtain ⟨x,hx,rfl⟩:=List.mem_map.1 hb
        have:=hlt x (mem_mid.2 (.inr (.inr hx)));omega
    · subst he
      rcases hb with hb|hb
      · rcases hkA' a hb with h1|h1
        · exact dB _ ha _ (.inl h1) rfl
        · obtain ⟨x,hx,rfl⟩:=List.mem_map.1 ha
          have:=hlt x (mem_mid.2 (.inl hx));omega
      · exact dB _ ha _ (.inr hb) rfl
  · intro x hx
    rcases mem_mid.1 hx with h1|h1|h1
    · exact hrest x (.inl h1)
    · exact hA' x h1
    · exact hrest x (.inr h1)
  · intro x hx
    rcases mem_mid.1 hx with h1|h1|h1
    · exact .inl (List.mem_map.2 ⟨x,mem_mid.2 (.inl h1),rfl⟩)
    · rcases hkA' x.1 (List.mem_map.2 ⟨x,h1,rfl⟩) with h2|h2
      · exact .inl (by rw [List.map_append,List.map_append];simp only [List.mem_append];exact .inr (.inl h2))
      · exact .inr O
    · exact .inl (List.mem_map.2 ⟨x,mem_mid.2 (.inr (.inr h1)),rfl⟩)
  · intro k hk hn
    rw [hg.block k (by rw [qaN];exact hk),qbj hn];intro he;exact hn (by rw [List.map_append,List.map_append];simp only [List.mem_append];exact .inr (.inl ((hO.key k).2 he.symm)))
section
variable{P:Program}{TT:qa5}{n:Nat}{Q:qbC}{fr:Fr}{L L' K:Hl}{s s' s0:World}{ops:Array Oper}{rest:List Oper}{d ty:Nat}{op:Op}{pos:String}{af:Array Edge}{v:Value}
def qtz{t e m c k sz:Nat}{x y:Operand}{ti te:TI}{A1:Option Addr}{news xs:List Value}(B A L0:Hl)(hT:TabOK P TT)(hx:lk fr x=some v)(hy:lk fr y=some (.slice A1 m c))(ht:qaE TT t=some ti)(hk:ti.kind=.sl e)(he:qaE TT e=some te)(hsz:te.size=sz)
    (hO:FL.Own e sz A v k xs) (hR:Row s A1 m sz news) (h63:(k+m) * te.bytes≤140737488355328∧k+m≤9223372036854775807) (ho:OKL D (B++(A++L0)) s) :
    ∃ v' A' s',Ev P TT D fr (.call { callee:=.builtin .append,args:=#[x,y],argTypes:=#[t,t] }) ty (B++(A++L0)) s (.value v') (B++(A'++L0)) s'∧Le D s s'∧FL.Own e sz A' v' (k+m) (xs++news):=by
  have hok:=hT.at_ ht;obtain ⟨k1,k2,_⟩:=hok;rw [hk] at k2;simp only [TK.fits] at k2;rw [k2] at k1;have hte:=hT.at_ he;obtain ⟨i,i1,i2,i3,i4⟩:=qdY hte;have hpos:0 < te.size:=hte.2.2.2.2.2.1;have hzs:te.zero.cells.size=te.size:=by rw [qc4 hte];simpa using hte.2.2.2.1
  have hin:∀ x∈A,(fill (B++(A++L0)) s).heap[x.1]?=some x.2:=fun x hx=>qa7 ho (mem_mid.2 (.inr (.inl hx)));have hown:=hO.owns hin;by_cases hm:m=0
  · subst hm
    have hn:news=[]:=List.eq_nil_of_length_eq_zero (by simpa using hR.1);subst hn;refine ⟨v,A,s,fun hT ho dst pos af g ρ hρ=>⟨?_,ho⟩,Le.refl _,by simpa using hO⟩;have hle:∀ (A2:Option Addr) (w:World),(Builtin.firstCells te.size 0 (.slice A2 0 c)).run P w=.ok #[] w:=fun A2 w=>by
      cases A2<;>simp [Builtin.firstCells,loadCells,loadCellsFrom]
    cases hO with
    | nil=>simp [execOp,resolve,invoke,builtin,Builtin.append_,hρ x _ hx,hρ y _ hy,run_underlying k1,qbw hte,Builtin.lenOf,hle]
    | blk b cap n xs ys hn hc hnc hm=>simp [execOp,resolve,invoke,builtin,Builtin.append_,hρ x _ hx,hρ y _ hy,run_underlying k1,qbw hte,Builtin.lenOf,hle,hnc,storeCells]
  · have h0:∃ b off,A1=some ⟨b,off,none⟩∧CellsAt s b off news:=by
      have hl:0 < news.length:=by rw [hR.1,← hsz];exact Nat.mul_pos (Nat.pos_of_ne_zero hm) hpos
      obtain ⟨b,off,h1,_⟩:=hR.2.2 0 news[0] (List.getElem?_eq_getElem hl);refine ⟨b,off,h1,fun j u hj=>?_⟩;obtain ⟨b',off',h1',h2⟩:=hR.2.2 j u hj;rw [h1] at h1';injection h1' with h1';injection h1' with e1 e2;subst e1;subst e2
      exact h2
    obtain ⟨b,off,rfl,hcells⟩:=h0;obtain ⟨v',w',hrun,hown',hgr,_,hat⟩:=run_append_own_at (P:=P) (fill (B++(A++L0)) s) 0 t ty e i te.zero sz te.bytes k1 i1 i4 (i2.trans hsz) i3 (by rw [hzs,hsz]) (by rw [← hsz];exact hpos) v k xs hown ⟨b,off,none⟩ m c news hR.1
      (fun j u hj=>by rw [add_lit];exact qeh ho (hcells j u hj)) hR.2.1 (by simpa [maxLen] using h63.2) h63.1 (Nat.zero_le _)
    obtain ⟨A',hO',hA'⟩:=Own.of_owns hown';rw [qaN] at hat;obtain ⟨r1,r2,r3⟩:=qub (D:=D) ho hO hO' hA' hgr hat;refine ⟨v',A',qcy D (B++(A'++L0)) w',fun hT ho dst pos af g ρ hρ=>⟨?_,r2⟩,r3,hO'⟩;rw [← r1];simp only [execOp,resolve,invoke,builtin,Sem.run_bind,Sem.run_pure,Result.andThen_ok,List.map_toArray,List.map_cons,List.map_nil,hρ x _ hx,hρ y _ hy,hrun]
def qbq{t e m c k sz:Nat}{x y:Operand}{ti te:TI}{A1:Option Addr}{news xs:List Value}(B A L0:Hl)(hL:L=B++(A++L0))(hx:lk fr x=some v)(hy:lk fr y=some (.slice A1 m c))(ht:qaE TT t=some ti)(hk:ti.kind=.sl e)(he:qaE TT e=some te)(hsz:te.size=sz)
  (hO:FL.Own e sz A v k xs) (hR:Row s A1 m sz news) (h63:(k+m) * te.bytes≤140737488355328∧k+m≤9223372036854775807) (hd:Nat.blt d n=true)
  (kk:∀ v' A' s',Le D s s'→FL.Own e sz A' v' (k+m) (xs++news)→JO P TT D n ops Q rest ((d,v')::fr) (B++(A'++L0)) s') :
  JO P TT D n ops Q (⟨some d,.call { callee:=.builtin .append,args:=#[x,y],argTypes:=#[t,t] },ty,pos,af,none⟩::rest) fr L s:=fun hT a hr ho=>by
 subst hL;obtain ⟨v',A',s',h1,h2,h3⟩:=qtz (ty:=ty) B A L0 hT hx hy ht hk he hsz hO hR h63 ho;exact qh8 hd h1 (kk v' A' s' h2 h3) hT a hr ho
def qbE{i0 t e m c k sz:Nat}{g:Option (Nat×Bool)}{fuel:Nat}{listed:Array Bool}{x y:Operand}{ti te:TI}{A1:Option Addr}{news xs:List Value}(hi0:ops[i0]?=some ⟨some d,.call { callee:=.builtin .append,args:=#[x,y],argTypes:=#[t,t] },ty,pos,af,g⟩)(hgk:GOK ops fr g)
  (B A L0:Hl) (hL:L=B++(A++L0)) (hx:lk fr x=some v) (hy:lk fr y=some (.slice A1 m c)) (ht:qaE TT t=some ti) (hk:ti.kind=.sl e) (he:qaE TT e=some te) (hsz:te.size=sz)
  (hO:FL.Own e sz A v k xs) (hR:Row s A1 m sz news) (h63:(k+m) * te.bytes≤140737488355328∧k+m≤9223372036854775807) (hd:Nat.blt d n=true) (hK:∀ A',∀ x∈K,x∈B++(A++L0)→x∈B++(A'++L0))
  (kk:∀ v' A' s',Le D s s'→FL.Own e sz A' v' (k+m) (xs++news)→JA P TT D n ops Q K s0 fuel (listed.setIfInBounds i0 true) ((d,v')::fr) (B++(A'++L0)) s') :
  JB P TT D n ops Q K s0 fuel listed i0 fr L s:=fun hT a hr ho hl hKL=>by
 subst hL;obtain ⟨v',A',s',h1,h2,h3⟩:=qtz (ty:=ty) B A L0 hT hx hy ht hk he hsz hO hR h63 ho;exact qiW hi0 hgk h1 h2 (hK A') hd (kk v' A' s' h2 h3) hT a hr ho hl hKL
def qnj{t e sz:Nat}{ti te:TI}(ht:qaE TT t=some ti)(hk:ti.kind=.sl e)(he:qaE TT e=some te)(hd:Nat.blt d n=true)(k:∀ β s',Le D s s'→FL.Own e sz [(β,cb [] e)] (.slice (some ⟨β,0,none⟩) 0 0) 0 []→JO P TT D n ops Q rest ((d,.slice (some ⟨β,0,none⟩) 0 0)::fr) ((β,cb [] e)::L) s') :
  JO P TT D n ops Q (⟨some d,.buildSlice t 0 #[],ty,pos,af,none⟩::rest) fr L s:=fun hT a hr ho=>by
 obtain ⟨h1,h2,h3⟩:=qaP ho (cb [] e);obtain ⟨k1,k2,_⟩:=hT.at_ ht;rw [hk] at k2;simp only [TK.fits] at k2;rw [k2] at k1;refine qh8 hd (L':=(s.heap.size,cb [] e)::L) (s':=s.alloc (dum D)) (v:=.slice (some ⟨s.heap.size,0,none⟩) 0 0) (fun hT _ dst pos af g ρ hρ=>⟨?_,h2⟩) (k _ _ h3 (.blk s.heap.size 0 0 [] [] (by simp) (by simp) (Nat.le_refl _) O)) hT a hr ho;rw [← h1];simp [execOp,Instr.buildSlice,run_underlying k1,qbw (hT.at_ he),Instr.fill,qiE,qaN,cb,show Array.range 0=#[] from rfl]
def qAx{t e m:Nat}{x:Operand}{ti te:TI}{ik:IntKind}{z:Value}(hT:TabOK P TT)(hx:lk fr x=some (.int ik (m:Int)))(ht:qaE TT t=some ti)(hk:ti.kind=.sl e)(he:qaE TT e=some te)(hz:te.zeros=[z])(hb:te.bytes * m≤281474976710656)(hm:m≤9223372036854775807)(ho:OKL D L s) :
  Ev P TT D fr (.makeSlice t x x) ty L s (.value (.slice (some ⟨s.heap.size,0,none⟩) m m)) ((s.heap.size,cb (List.replicate m z) e)::L) (s.alloc (dum D)):=fun _ _ dst pos af g ρ hρ=>by
 obtain ⟨h1,h2,h3⟩:=qaP ho (cb (List.replicate m z) e);refine ⟨?_,h2⟩;obtain ⟨k1,k2,_⟩:=hT.at_ ht;rw [hk] at k2;simp only [TK.fits] at k2;rw [k2] at k1;have hte:=hT.at_ he;obtain ⟨i,i1,i2,i3,i4⟩:=qdY hte;have hs1:te.size=1:=by rw [← hte.2.2.2.1,hz];rfl
 have hb':(i.bytes:Int) * (m:Int)≤281474976710656:=by
  have h:((te.bytes * m:Nat):Int)≤281474976710656:=by omega
  rwa [Int.natCast_mul,← i3] at h
 have hr:=run_make (P:=P) (fill L s) t e i te.zero k1 i1 i4 ik ik m m O O hb' O;have hc:madeCells te.zero.cells ((m:Int).toNat * i.size)=(List.replicate m z).toArray:=by
  rw [i2,hs1,qc4 hte,hz];apply Array.ext_getElem?;intro j;simp only [madeCells,Int.toNat_natCast,Nat.mul_one];by_cases hj:j < m
  · simp [hj,Nat.mod_one]
  · rw [Array.getElem?_eq_none (by simp;omega),Array.getElem?_eq_none (by simp;omega)]
 rw [hc] at hr;simp only [execOp,hρ x _ hx,Sem.run_bind,hr,Result.andThen_ok,Sem.run_pure,qaN,Int.toNat_natCast];rw [← h1];rfl
def qng{i0 t e m:Nat}{g:Option (Nat×Bool)}{fuel:Nat}{listed:Array Bool}{x:Operand}{ti te:TI}{ik:IntKind}{z:Value}(hi0:ops[i0]?=some ⟨some d,.makeSlice t x x,ty,pos,af,g⟩)(hgk:GOK ops fr g)(hx:lk fr x=some (.int ik (m:Int)))(ht:qaE TT t=some ti)(hk:ti.kind=.sl e)(he:qaE TT e=some te)(hz:te.zeros=[z])(hb:te.bytes * m≤281474976710656)(hm:m≤9223372036854775807)(hd:Nat.blt d n=true)
  (k:∀ β s',Le D s s'→JA P TT D n ops Q K s0 fuel (listed.setIfInBounds i0 true) ((d,.slice (some ⟨β,0,none⟩) m m)::fr) ((β,cb (List.replicate m z) e)::L) s'):JB P TT D n ops Q K s0 fuel listed i0 fr L s:=fun hT a hr ho hl hK=>
 qiW hi0 hgk (qAx hT hx ht hk he hz hb hm ho) (qaP ho (cb (List.replicate m z) e)).2.2 (fun x _ h=>List.mem_cons_of_mem _ h) hd (k _ _ (qaP ho (cb (List.replicate m z) e)).2.2) hT a hr ho hl hK
def quy{t e t' b dl dc m c:Nat}{x y:Operand}{ti te:TI}{A1:Option Addr}{news zs:List Value}(i:Nat)(ho:OKL D L s)(hx:lk fr x=some (.slice (some ⟨b,0,none⟩) dl dc))(hy:lk fr y=some (.slice A1 m c))(ht:qaE TT t=some ti)(hk:ti.kind=.sl e)(he:qaE TT e=some te)(hsz:te.size=1)
    (hi:L[i]?=some (b,cb zs t')) (hR:Row s A1 m 1 news) (hm:m≤dl) (hdl:dl≤zs.length):Ev P TT D fr (.call { callee:=.builtin .copy,args:=#[x,y],argTypes:=#[t,t] }) ty L s (.value (.int .i64 (m:Int))) (qco L i (cb (news++zs.drop m) t')) s:=fun hT _ dst pos af g ρ hρ=>by
  obtain ⟨k1,k2,_⟩:=hT.at_ ht;rw [hk] at k2;simp only [TK.fits] at k2;rw [k2] at k1;have hte:=hT.at_ he;obtain ⟨inf,i1,i2,i3,i4⟩:=qdY hte;have hg:=qa7 ho (List.mem_of_getElem? hi);have hnl:news.length=m:=by simpa using hR.1
  refine ⟨?_,qeu ho _ _⟩;rw [qcA ho hi];by_cases h0:m=0
  · subst h0
    have hn:news=[]:=List.eq_nil_of_length_eq_zero hnl;subst hn;have hself:qbo (fill L s) b (cb ([]++zs.drop 0) t')=fill L s:=by
      refine qdz (qdt fun j=>?_) Z Z Z Z;by_cases hj:b=j
      · subst hj
        rw [qdg _ (by rcases Nat.lt_or_ge b (fill L s).heap.size with h1|h1;exact h1;rw [Array.getElem?_eq_none h1] at hg;cases hg),hg];simp
      · rw [qbU _ hj]
    rw [hself];have hle:∀ (A2:Option Addr) (w:World),(Builtin.firstCells te.size 0 (.slice A2 0 c)).run P w=.ok #[] w:=fun A2 w=>by
      cases A2<;>simp [Builtin.firstCells,loadCells,loadCellsFrom]
    simp [execOp,resolve,invoke,builtin,Builtin.copy_,hρ x _ hx,hρ y _ hy,run_underlying k1,qbw hte,Builtin.lenOf,hle,storeCells,goInt]
  · have h0:∃ b off,A1=some ⟨b,off,none⟩∧CellsAt s b off news:=by
      have hl:0 < news.length:=by omega
      obtain ⟨b,off,h1,_⟩:=hR.2.2 0 news[0] (List.getElem?_eq_getElem hl);refine ⟨b,off,h1,fun j u hj=>?_⟩;obtain ⟨b',off',h1',h2⟩:=hR.2.2 j u hj;rw [h1] at h1';injection h1' with h1';injection h1' with e1 e2;subst e1;subst e2
      exact h2
    obtain ⟨b1,off1,rfl,hcells⟩:=h0;have hrun:=run_copy_row (P:=P) (fill L s) t t ty e b 0 dl dc ⟨b1,off1,none⟩ m c zs.toArray t' news k1 (by rw [i1];simp [i2,hsz]) hg (by rw [hnl];exact (Nat.min_eq_left hm).symm) (fun j u hj=>by rw [add_lit];exact qeh ho (hcells j u hj)) (by simp;omega) hR.2.1;simp only [execOp,resolve,invoke,builtin,Sem.run_bind,Sem.run_pure,Result.andThen_ok,List.map_toArray,List.map_cons,List.map_nil,hρ x _ hx,hρ y _ hy,hrun,goInt,hnl];rw [qfB hg];simp [cb]
def qfP{t e t' b dl dc m c:Nat}{x y:Operand}{ti te:TI}{A1:Option Addr}{news zs:List Value}(i:Nat){L':Hl}(hx:lk fr x=some (.slice (some ⟨b,0,none⟩) dl dc))(hy:lk fr y=some (.slice A1 m c))(ht:qaE TT t=some ti)(hk:ti.kind=.sl e)(he:qaE TT e=some te)(hsz:te.size=1)
  (hi:L[i]?=some (b,cb zs t')) (hR:Row s A1 m 1 news) (hm:m≤dl) (hdl:dl≤zs.length) (hL:qco L i (cb (news++zs.drop m) t')=L') (hd:Nat.blt d n=true) (k:JO P TT D n ops Q rest ((d,.int .i64 (m:Int))::fr) L' s) :
  JO P TT D n ops Q (⟨some d,.call { callee:=.builtin .copy,args:=#[x,y],argTypes:=#[t,t] },ty,pos,af,none⟩::rest) fr L s:=fun hT a hr ho=>by
 subst hL;exact qh8 hd (quy i ho hx hy ht hk he hsz hi hR hm hdl) k hT a hr ho
def AC.mid{f:FuncId}{args:List Value}{R:Value→Hl→World→Prop}(X M Y:Hl)(h:AC P D f args (M++(X++Y)) s (fun v L' s'=>∃ M',L'=M'++(X++Y)∧R v M' s')) :
  AC P D f args (X++(M++Y)) s (fun v L' s'=>∃ M',L'=X++(M'++Y)∧R v M' s'):=by
 have hp:∀ M':Hl,(X++(M'++Y)).Perm (M'++(X++Y)):=fun M'=>by
  rw [← List.append_assoc,← List.append_assoc];exact (List.perm_append_comm).append_right Y
 refine ⟨h.1,fun ho=>?_⟩;rw [qbv (hp M) _ ho];refine (h.2 (ho.perm (hp M))).mono ?_;rintro e w' ⟨v,L',s',h1,rfl,h3,h4,M',rfl,h6⟩;exact ⟨v,X++(M'++Y),s',h1,(qbv (hp M').symm _ h3),h3.perm (hp M').symm,h4,M',rfl,h6⟩
end
structure KeyK(κ:Type) [DecidableEq κ] (d:TypeDesc) (kf:κ→Value):Prop where
 same:∀ a b,Instr.sameNow d (kf a) (kf b)=some (decide (a=b))
 bits:∀ a,Instr.sameBits 10000 (kf a) (kf a)=true
 check:∀ (P:Program) (w:World) (t:Nat) (e:Bool) (a:κ),P.underlying t=some d→(Instr.checkKey e 10000 t (kf a)).run P w=.ok () w
def KeyK.int(k:IntKind):KeyK Int (.int k) (Value.int k):=
 ⟨fun a b=>by simp [Instr.sameNow];rfl,fun a=>by simp [Instr.sameBits],fun P w t e a h=>by unfold Instr.checkKey;simp [run_underlying h]⟩
def qtQ(a b:List UInt8):((⟨a.toArray⟩:ByteArray) == ⟨b.toArray⟩)=decide (a=b):=by
 have e:((⟨a.toArray⟩:ByteArray) == ⟨b.toArray⟩)=(a.toArray == b.toArray):=rfl;rw [e];by_cases h:a=b<;>simp [h]
def KeyK.str:KeyK (List UInt8) .string (fun l=>St l):=
 ⟨fun a b=>by simp only [Instr.sameNow,qtQ],fun a=>by simp [Instr.sameBits,qtQ],fun P w t e a h=>by unfold Instr.checkKey;simp [run_underlying h]⟩
section
variable{κ:Type} [DecidableEq κ] {dk:TypeDesc} {kf:κ→Value}
def mp(kf:κ→Value)(es:List (κ×Value×Nat))(ck:Nat):Obj:=.map (es.map fun x=>⟨kf x.1,x.2.1,x.2.2⟩).toArray ck
def qaW:List (κ×Value×Nat)→κ→Option Value
 | [],_=>none
 | x::r,k=>if k=x.1 then some x.2.1 else qaW r k
def qix(es:List (κ×Value×Nat))(k:κ)(v:Value)(ck:Nat):List (κ×Value×Nat):=match es with
 | []=>[(k,v,ck)]
 | x::r=>if k=x.1 then (x.1,v,x.2.2)::r else x::qix r k v ck
def qey(es:List (κ×Value×Nat))(k:κ)(v:Value)(ck:Nat)(j:κ):qaW (qix es k v ck) j=if j=k then some v else qaW es j:=by
  induction es with
  | nil=>simp [qix,qaW]
  | cons x r ih=>
    simp only [qix];by_cases h:k=x.1
    · simp only [h,if_true,qaW]
      by_cases hj:j=x.1<;>simp [hj,h]
    · simp only [h,if_false,qaW,ih]
      by_cases hj:j=x.1
      · have:¬ x.1=k:=fun e=>h e.symm
        simp [hj,this]
      · simp [hj]
def qfk(K:KeyK κ dk kf)(es:List (κ×Value×Nat))(k:κ)(i:Nat) :
    (qaW es k=none∧Instr.findNow dk (kf k) (es.map fun x=>⟨kf x.1,x.2.1,x.2.2⟩) i=some none) ∨
    ∃ j v b,qaW es k=some v∧es[j]?=some (k,v,b)∧(∀ v' ck,qix es k v' ck=es.set j (k,v',b))∧Instr.findNow dk (kf k) (es.map fun x=>⟨kf x.1,x.2.1,x.2.2⟩) i=some (some (i+j,v)):=by
  induction es generalizing i with
  | nil=>exact .inl ⟨rfl,rfl⟩
  | cons x r ih=>
    obtain ⟨a,v,b⟩:=x;simp only [List.map_cons,Instr.findNow,K.same];by_cases h:k=a
    · subst h
      exact .inr ⟨0,v,b,by simp [qaW],rfl,fun v' ck=>by simp [qix],by simp⟩
    · rcases ih (i+1) with ⟨h1,h2⟩|⟨j,v',b',h1,h2,h3,h4⟩
      · exact .inl ⟨by simp [qaW,h,h1],by simp [h,h2]⟩
      · exact .inr ⟨j+1,v',b',by simp [qaW,h,h1],by simpa using h2,fun v'' ck=>by simp [qix,h,h3],by simp [h,h4];omega⟩
variable{P:Program}{TT:qa5}{D n:Nat}{Q:qbC}{fr:Fr}{L L' K:Hl}{s s' s0:World}{ops:Array Oper}{rest:List Oper}{d ty:Nat}{op:Op}{pos:String}{af:Array Edge}{v:Value}
def qfe(P:Program)(t:Nat)(dk:TypeDesc)(z:Value):Prop:=∃ kt et,P.underlying t=some (.map kt et)∧P.underlying kt=some dk∧∀ w,(zeroValue et).run P w=.ok z w
def qd3(KK:KeyK κ dk kf){t b:Nat}{z:Value}(hm:qfe P t dk z){es:List (κ×Value×Nat)}{ck:Nat}{w:World}(hb:w.heap[b]?=some (mp kf es ck))(k:κ)(c:Bool) :
    (Instr.lookup t (.map (some b)) (kf k) c).run P w=.ok (if c then .tuple #[(qaW es k).getD z,.bool (qaW es k).isSome] else (qaW es k).getD z) w:=by
  obtain ⟨kt,et,h1,h2,h3⟩:=hm;rcases qfk KK es k 0 with ⟨a1,a2⟩|⟨j,v,bn,a1,_,_,a2⟩
  · simp only [Instr.lookup,Sem.run_bind,run_underlying h1,Result.andThen_ok,Go.MapKept.run_getObj_map hb,Sem.run_pure,KK.check P w kt _ k h2,Go.MapKept.run_findKey h2 a2,h3,a1]
    cases c<;>rfl
  · simp only [Instr.lookup,Sem.run_bind,run_underlying h1,Result.andThen_ok,Go.MapKept.run_getObj_map hb,Sem.run_pure,KK.check P w kt _ k h2,Go.MapKept.run_findKey h2 a2,a1]
    cases c<;>rfl
def qiZ(KK:KeyK κ dk kf){t b:Nat}{x y:Operand}{z:Value}(i:Nat)(hm:qfe P t dk z){es:List (κ×Value×Nat)}{ck:Nat}{k:κ}(hx:lk fr x=some (.map (some b)))(hy:lk fr y=some (kf k))(hi:K[i]?=some (b,mp kf es ck)) :
  QE P TT D fr (.lookup t x y false) ty K s0 ((qaW es k).getD z):=fun hT dst pos af g ρ hρ L s ho _ hK=>by
 have hb:=qa7 ho (hK _ (List.mem_of_getElem? hi));simp only [execOp,hρ x _ hx,hρ y _ hy,Sem.run_bind,qd3 KK hm hb,Result.andThen_ok,Sem.run_pure];rfl
def qhA(KK:KeyK κ dk kf){t b:Nat}{x y:Operand}{z:Value}(i:Nat)(hm:qfe P t dk z){es:List (κ×Value×Nat)}{ck:Nat}{k:κ}(hx:lk fr x=some (.map (some b)))(hy:lk fr y=some (kf k))(hi:K[i]?=some (b,mp kf es ck)) :
  QE P TT D fr (.lookup t x y true) ty K s0 (.tuple #[(qaW es k).getD z,.bool (qaW es k).isSome]):=fun hT dst pos af g ρ hρ L s ho _ hK=>by
 have hb:=qa7 ho (hK _ (List.mem_of_getElem? hi));simp only [execOp,hρ x _ hx,hρ y _ hy,Sem.run_bind,qd3 KK hm hb,Result.andThen_ok,Sem.run_pure];rfl
omit [DecidableEq κ] in
def qkU{t:Nat}(kf:κ→Value)(ho:OKL D L s):Ev P TT D fr (.makeMap t none) ty L s (.value (.map (some s.heap.size))) ((s.heap.size,mp kf [] 0)::L) (s.alloc (dum D)):=fun hT _ dst pos af g ρ _=>by
 obtain ⟨h1,h2,h3⟩:=qaP ho (mp kf [] 0);refine ⟨?_,h2⟩;rw [← h1];simp [execOp,Instr.makeMap,qaN,mp]
omit [DecidableEq κ] in
def qex{t:Nat}(kf:κ→Value)(hd:Nat.blt d n=true)(k:∀ β s',Le D s s'→JO P TT D n ops Q rest ((d,.map (some β))::fr) ((β,mp kf [] 0)::L) s') :
  JO P TT D n ops Q (⟨some d,.makeMap t none,ty,pos,af,none⟩::rest) fr L s:=fun hT a hr ho=>qh8 hd (qkU kf ho) (k _ _ (qaP ho (mp kf [] 0)).2.2) hT a hr ho
def qj7(KK:KeyK κ dk kf){t b:Nat}{x y z:Operand}{zv:Value}(i:Nat)(hm:qfe P t dk zv){es:List (κ×Value×Nat)}{ck:Nat}{k:κ}(hx:lk fr x=some (.map (some b)))(hy:lk fr y=some (kf k))(hz:lk fr z=some v)(hi:L[i]?=some (b,mp kf es ck)) :
    ∃ ck',Ev P TT D fr (.mapUpdate t x y z) ty L s .skip (qco L i (mp kf (qix es k v ck) ck')) s:=by
  obtain ⟨kt,et,h1,h2,h3⟩:=hm;rcases qfk KK es k 0 with ⟨a1,a2⟩|⟨j,v',bn,a1,a3,a4,a2⟩
  · refine ⟨ck+1,fun hT ho dst pos af g ρ hρ=>⟨?_,qeu ho _ _⟩⟩
    have hb:=qa7 ho (List.mem_of_getElem? hi);have hms:qix es k v ck=es++[(k,v,ck)]:=by
      clear hi a2 hb;induction es with
      | nil=>rfl
      | cons x r ih=>
        simp only [qaW] at a1;split at a1
        · cases a1
        · rename_i h;simp [qix,h,ih a1]
    rw [qcA ho hi];simp only [execOp,hρ x _ hx,hρ y _ hy,hρ z _ hz,Instr.mapUpdate,Sem.run_bind,run_underlying h1,Result.andThen_ok,Go.MapKept.run_getObj_map hb,Sem.run_pure,KK.check P _ kt _ k h2,Go.MapKept.run_findKey h2 a2,Go.MapKept.run_setObj_map _ hb];simp [qbo,mp,hms]
  · refine ⟨ck,fun hT ho dst pos af g ρ hρ=>⟨?_,qeu ho _ _⟩⟩
    have hb:=qa7 ho (List.mem_of_getElem? hi);rw [qcA ho hi];have hkey:((((es.map fun x=>(⟨kf x.1,x.2.1,x.2.2⟩:MapEntry)).toArray)[0+j]?.map (·.key)).getD (kf k))=kf k:=by simp [a3]
    simp only [execOp,hρ x _ hx,hρ y _ hy,hρ z _ hz,Instr.mapUpdate,Sem.run_bind,run_underlying h1,Result.andThen_ok,Go.MapKept.run_getObj_map hb,Sem.run_pure,KK.check P _ kt _ k h2,Go.MapKept.run_findKey h2 a2,hkey,Instr.keyThatStays,KK.bits,if_true,Go.MapKept.run_setObj_map _ hb,a4];have hmod:((es.map fun x=>(⟨kf x.1,x.2.1,x.2.2⟩:MapEntry)).toArray).modify (0+j) (fun e=>{ e with key:=kf k,val:=v })=((es.set j (k,v,bn)).map fun x=>(⟨kf x.1,x.2.1,x.2.2⟩:MapEntry)).toArray:=by
      apply Array.ext_getElem?;intro q;rw [Array.getElem?_modify];by_cases hq:0+j=q
      · have:j=q:=by omega
        subst this;obtain ⟨hlt,_⟩:=List.getElem?_eq_some_iff.1 a3;simp [hlt,a3];have:=List.getElem?_eq_some_iff.1 a3;obtain ⟨_,e⟩:=this;simp [e]
      · have hne:j≠q:=by omega
        simp [hq,hne]
    rw [hmod];rfl
def qj9(KK:KeyK κ dk kf){t b:Nat}{x y z:Operand}{zv:Value}(i:Nat)(hm:qfe P t dk zv){es:List (κ×Value×Nat)}{ck:Nat}{k:κ}(hx:lk fr x=some (.map (some b)))(hy:lk fr y=some (kf k))(hz:lk fr z=some v)(hi:L[i]?=some (b,mp kf es ck))
  (kk:∀ ck',JO P TT D n ops Q rest fr (qco L i (mp kf (qix es k v ck) ck')) s):JO P TT D n ops Q (⟨none,.mapUpdate t x y z,ty,pos,af,none⟩::rest) fr L s:=by
 obtain ⟨ck',h⟩:=qj7 (TT:=TT) (D:=D) (s:=s) (ty:=ty) KK i hm hx hy hz hi;exact quI h (kk ck')
def qgJ{i0:Nat}{g:Option (Nat×Bool)}{fuel:Nat}{listed:Array Bool}(KK:KeyK κ dk kf){t b:Nat}{x y z:Operand}{zv:Value}(hi0:ops[i0]?=some ⟨none,.mapUpdate t x y z,ty,pos,af,g⟩)(hg:GOK ops fr g)(i:Nat)(hm:qfe P t dk zv){es:List (κ×Value×Nat)}{ck:Nat}{k:κ}(hx:lk fr x=some (.map (some b)))(hy:lk fr y=some (kf k))(hz:lk fr z=some v)(hi:L[i]?=some (b,mp kf es ck))
  (hK':∀ x∈K,x∈L.eraseIdx i) (kk:∀ ck',JA P TT D n ops Q K s0 fuel (listed.setIfInBounds i0 true) fr (qco L i (mp kf (qix es k v ck) ck')) s):JB P TT D n ops Q K s0 fuel listed i0 fr L s:=by
 obtain ⟨ck',h⟩:=qj7 (TT:=TT) (D:=D) (s:=s) (ty:=ty) KK i hm hx hy hz hi;exact qxW hi0 hg h (Le.refl _) (fun x hx _=>qhK (hK' x hx) _) (kk ck')
end
section
variable{P:Program}{TT:qa5}{D n:Nat}{Q:qbC}{fr:Fr}{L:Hl}{s:World}
def qbV{γ:Type}{c:Code}(X:Hl)(S:γ→Fr)(H:γ→Hl)(I:γ→World→Prop)(μ:γ→Nat)(mono:∀ g s s',I g s→Le D s s'→I g s')(g0:γ)
  (hS:Keeps fr (S g0)) (hL:L=X++H g0) (hI:I g0 s)
  (round:∀ g s,I g s→JC P TT D n (qaZ (fun fr' L' s'=>∃ g' A,Keeps fr' (S g')∧L'=A++(X++H g')∧I g' s'∧μ g' < μ g) Q) c (S g) (X++H g) s) :
  JC P TT D n Q (.loop c) fr L s:=qaA S (fun g=>X++H g) I μ mono g0 hS hL hI round
inductive Suf(fr:Fr):Fr→Prop
 | refl:Suf fr fr
 | push {d:Nat} {v:Value} {fr':Fr} (hd:(qa0 fr d).isNone=true) (h:Suf fr fr'):Suf fr ((d,v)::fr')
def Sb{p:Prop}(h:p:=by repeat (first|exact Suf.refl|refine Suf.push rfl ?_)):p:=h
def Suf.keeps{fr fr':Fr}(h:Suf fr fr'):Keeps fr' fr:=by
 induction h with
 | refl=>exact fun _ _ h=>h
 | @push d v fr' hd _ ih=>
  intro t u hu;rw [qbb];by_cases he:d=t
  · subst he;rw [hu] at hd;cases hd
  · rw [if_neg he];exact ih t u hu
def MidB(D:Nat)(s:World)(fr:Fr)(L:Hl)(t:Nat)(p:Prop) [Decidable p]:Fr→Hl→World→Prop:=fun fr' L' s'=>Le D s s'∧L'=L∧Keeps fr' ((t,.bool (decide p))::fr)
def MidB.mk{t:Nat}{p:Prop} [Decidable p] {fr':Fr} {s':World} {b:Bool} (hl:Le D s s') (hS:Suf fr fr') (ht:qa0 fr' t=some (.bool b)) (hb:b=decide p):MidB D s fr L t p fr' L s':=by
 subst hb;exact ⟨hl,rfl,Keeps.cons ht hS.keeps⟩
def qa9{x y:Code}(t:Nat)(p:Prop) [Decidable p] (h1:JC P TT D n (qaZ (MidB D s fr L t p) Q) x fr L s)
  (h2:∀ s',Le D s s'→JC P TT D n Q y ((t,.bool (decide p))::fr) L s'):JC P TT D n Q (.seq x y) fr L s:=fun ht a hr ho=>
 wp_seq (wp_mono (h1 ht a hr ho) fun e a w ⟨fr',L',s',k1,k2,k3,k4⟩=>by
  cases e with
  | normal=>
   subst k3;obtain ⟨j1,j2,j3⟩:=k4;subst j2;exact h2 s' j1 ht a (k1.sub j3) k2
  | _=>exact ⟨fr',L',s',k1,k2,k3,k4⟩)
def MidN{γ:Type}(D:Nat)(s:World)(fr:Fr)(L:Hl)(new:γ→Fr)(B:γ→Hl)(I:γ→World→Prop):Fr→Hl→World→Prop:=fun fr' L' s'=>∃ g A,Le D s s'∧L'.Perm (A++(B g++L))∧I g s'∧Keeps fr' (new g++fr)
def MidN.mk{γ:Type}{new:γ→Fr}{B:γ→Hl}{I:γ→World→Prop}{fr':Fr}{L':Hl}{s':World}(g:γ)(A:Hl)(hl:Le D s s')(hK:Keeps fr' (new g++fr))(hp:L'.Perm (A++(B g++L)))(hI:I g s'):MidN D s fr L new B I fr' L' s':=⟨g,A,hl,hp,hI,hK⟩
def quF{γ:Type}{x y:Code}(new:γ→Fr)(B:γ→Hl)(I:γ→World→Prop)(mono:∀ g s s',I g s→Le D s s'→I g s')(h1:JC P TT D n (qaZ (MidN D s fr L new B I) Q) x fr L s)
  (h2:∀ g s',Le D s s'→I g s'→JC P TT D n Q y (new g++fr) (B g++L) s'):JC P TT D n Q (.seq x y) fr L s:=fun ht a hr ho=>
 wp_seq (wp_mono (h1 ht a hr ho) fun e a w ⟨fr',L',s',k1,k2,k3,k4⟩=>by
  cases e with
  | normal=>
   subst k3;obtain ⟨g,A,j0,j2,j3,j1⟩:=k4;rw [qbv j2 _ k2];obtain ⟨e,d1,d2⟩:=qbn (k2.perm j2);rw [e];exact h2 g _ (j0.trans d2) (mono _ _ _ j3 d2) ht a (k1.sub j1) d1
  | _=>exact ⟨fr',L',s',k1,k2,k3,k4⟩)
def Pub(M:Hl)(s:World):Prop:=∀ b zs t,(b,cb zs t)∈M→CellsAt s b 0 zs
def Pub.tail{x:Nat×Obj}{M:Hl}{s:World}(h:Pub (x::M) s):Pub M s:=fun b zs t hm=>h b zs t (List.mem_cons_of_mem _ hm)
def AC.pubW{f:FuncId}{args:List Value}{R:Value→World→Prop}(h:AC P D f args L s (fun v L' s'=>∃ M',L'=M'++L∧∀ s2,Le D s' s2→Pub M' s2→R v s2)) :
  AC P D f args L s (fun v L' s'=>L=L'∧R v s'):=by
 refine ⟨h.1,fun ho=>(h.2 ho).mono ?_⟩;rintro e w' ⟨v,L',s',h1,rfl,h3,h4,M',rfl,h6⟩;obtain ⟨d1,d2,d3⟩:=qbn h3;refine ⟨v,L,fill M' s',h1,d1,d2,h4.trans d3,Z,h6 _ d3 fun b zs t hm j u hj=>?_⟩;rw [qcV h3.left hm,Nat.zero_add];exact hj
end
section
variable{P:Program}{TT:qa5}{D n:Nat}{Q:qbC}{fr:Fr}{L:Hl}{s:World}{ops:Array Oper}{rest:List Oper}{d ty:Nat}{pos:String}{af:Array Edge}{v:Value}
def Zqm{x:Operand}(hx:lk fr x=some v)(hd:Nat.blt d n=true)(k:JO P TT D n ops Q rest ((d,v)::fr) L s):JO P TT D n ops Q (⟨some d,.move x,ty,pos,af,none⟩::rest) fr L s:=qad (qan hx) hd k
def Zqa{x:Operand}(hx:lk fr x=some v)(hd:Nat.blt d n=true)(k:JO P TT D n ops Q rest ((d,v)::fr) L s):JO P TT D n ops Q (⟨some d,.assign x,ty,pos,af,none⟩::rest) fr L s:=qad (qa6 hx) hd k
def Zqx{x:Operand}{i:Nat}{vs:List Value}(hx:lk fr x=some (.tuple vs.toArray))(hi:nth vs i=some v)(hd:Nat.blt d n=true)(k:JO P TT D n ops Q rest ((d,v)::fr) L s):JO P TT D n ops Q (⟨some d,.extract x i,ty,pos,af,none⟩::rest) fr L s:=qad (qff hx hi) hd k
def ZqT{c x y:Operand}(hc:lk fr c=some (.bool true))(hx:lk fr x=some v)(hd:Nat.blt d n=true)(k:JO P TT D n ops Q rest ((d,v)::fr) L s):JO P TT D n ops Q (⟨some d,.pick c x y,ty,pos,af,none⟩::rest) fr L s:=qad (qdn hc hx) hd k
def ZqF{c x y:Operand}(hc:lk fr c=some (.bool false))(hx:lk fr y=some v)(hd:Nat.blt d n=true)(k:JO P TT D n ops Q rest ((d,v)::fr) L s):JO P TT D n ops Q (⟨some d,.pick c x y,ty,pos,af,none⟩::rest) fr L s:=qad (qdm hc hx) hd k
def qax{x y:Operand}{ik:IntKind}{a b:Int}{t t':Nat}(hx:lk fr x=some (.int ik a))(hy:lk fr y=some (.int ik b))(hd:Nat.blt d n=true)(k:JO P TT D n ops Q rest ((d,.bool (decide (a=b)))::fr) L s):JO P TT D n ops Q (⟨some d,.binOp .eql t x y t',ty,pos,af,none⟩::rest) fr L s:=qad (qdR hx hy) hd k
def qcb{x y:Operand}{ik:IntKind}{a b:Int}{t t':Nat}(hx:lk fr x=some (.int ik a))(hy:lk fr y=some (.int ik b))(hd:Nat.blt d n=true)(k:JO P TT D n ops Q rest ((d,.bool (!decide (a=b)))::fr) L s):JO P TT D n ops Q (⟨some d,.binOp .neq t x y t',ty,pos,af,none⟩::rest) fr L s:=qad (qhr hx hy) hd k
def qa8{x y:Operand}{ik:IntKind}{a b:Int}{t t':Nat}(hx:lk fr x=some (.int ik a))(hy:lk fr y=some (.int ik b))(hd:Nat.blt d n=true)(k:JO P TT D n ops Q rest ((d,.bool (decide (a < b)))::fr) L s):JO P TT D n ops Q (⟨some d,.binOp .lss t x y t',ty,pos,af,none⟩::rest) fr L s:=qad (qnp hx hy) hd k
def qp3{x y:Operand}{ik:IntKind}{a b:Int}{t t':Nat}(hx:lk fr x=some (.int ik a))(hy:lk fr y=some (.int ik b))(hd:Nat.blt d n=true)(k:JO P TT D n ops Q rest ((d,.bool (decide (a≤b)))::fr) L s):JO P TT D n ops Q (⟨some d,.binOp .leq t x y t',ty,pos,af,none⟩::rest) fr L s:=qad (qka hx hy) hd k
def qbl{x y:Operand}{ik:IntKind}{a b:Int}{t t':Nat}(hx:lk fr x=some (.int ik a))(hy:lk fr y=some (.int ik b))(hd:Nat.blt d n=true)(k:JO P TT D n ops Q rest ((d,.bool (decide (b < a)))::fr) L s):JO P TT D n ops Q (⟨some d,.binOp .gtr t x y t',ty,pos,af,none⟩::rest) fr L s:=qad (qnm hx hy) hd k
def qhn{x y:Operand}{ik:IntKind}{a b:Int}{t t':Nat}(hx:lk fr x=some (.int ik a))(hy:lk fr y=some (.int ik b))(hd:Nat.blt d n=true)(k:JO P TT D n ops Q rest ((d,.bool (decide (b≤a)))::fr) L s):JO P TT D n ops Q (⟨some d,.binOp .geq t x y t',ty,pos,af,none⟩::rest) fr L s:=qad (qqe hx hy) hd k
def qht{x y:Operand}{a b:List UInt8}{t t':Nat}(hx:lk fr x=some (St a))(hy:lk fr y=some (St b))(hd:Nat.blt d n=true)(k:JO P TT D n ops Q rest ((d,.bool (decide (a=b)))::fr) L s):JO P TT D n ops Q (⟨some d,.binOp .eql t x y t',ty,pos,af,none⟩::rest) fr L s:=qad (qhB hx hy) hd k
def quY{x y:Operand}{a b:List UInt8}{t t':Nat}(hx:lk fr x=some (St a))(hy:lk fr y=some (St b))(hd:Nat.blt d n=true)(k:JO P TT D n ops Q rest ((d,.bool (!decide (a=b)))::fr) L s):JO P TT D n ops Q (⟨some d,.binOp .neq t x y t',ty,pos,af,none⟩::rest) fr L s:=qad (qx7 hx hy) hd k
def ZqnT{x:Operand}{t:Nat}(hx:lk fr x=some (.bool true))(hd:Nat.blt d n=true)(k:JO P TT D n ops Q rest ((d,.bool false)::fr) L s):JO P TT D n ops Q (⟨some d,.unOp .not t x,ty,pos,af,none⟩::rest) fr L s:=qad (quN hx) hd k
def qp4{x:Operand}{t:Nat}(hx:lk fr x=some (.bool false))(hd:Nat.blt d n=true)(k:JO P TT D n ops Q rest ((d,.bool true)::fr) L s):JO P TT D n ops Q (⟨some d,.unOp .not t x,ty,pos,af,none⟩::rest) fr L s:=qad (quM hx) hd k
def qbF{x:Operand}{b:Bool}{t:Nat}(hx:lk fr x=some (.bool b))(hd:Nat.blt d n=true)(k:JO P TT D n ops Q rest ((d,.bool (!b))::fr) L s):JO P TT D n ops Q (⟨some d,.unOp .not t x,ty,pos,af,none⟩::rest) fr L s:=qad (qk0 hx) hd k
def Zqls{x:Operand}{t:Nat}{A:Option Addr}{m c:Nat}{ti:TI}{e:Nat}(hx:lk fr x=some (.slice A m c))(ht:qaE TT t=some ti)(hk:ti.kind=.sl e)(hd:Nat.blt d n=true)(k:JO P TT D n ops Q rest ((d,.int .i64 (m:Int))::fr) L s):JO P TT D n ops Q (⟨some d,.call { callee:=.builtin .len,args:=#[x],argTypes:=#[t] },ty,pos,af,none⟩::rest) fr L s:=qad (qbi hx ht hk) hd k
def Ws{x:Operand}{t:Nat}{A:Option Addr}{m c:Nat}{ti:TI}{e:Nat}(hY:(lk fr x=some (.slice A m c))∧(qaE TT t=some ti)∧(ti.kind=.sl e)∧(Nat.blt d n=true))(k:JO P TT D n ops Q rest ((d,.int .i64 (m:Int))::fr) L s):JO P TT D n ops Q (⟨some d,.call { callee:=.builtin .len,args:=#[x],argTypes:=#[t] },ty,pos,af,none⟩::rest) fr L s:=Zqls hY.1 hY.2.1 hY.2.2.1 hY.2.2.2 k
def qfg{x:Operand}{t:Nat}{l:List UInt8}{ti:TI}(hx:lk fr x=some (St l))(ht:qaE TT t=some ti)(hk:ti.desc=.string)(hd:Nat.blt d n=true)(k:JO P TT D n ops Q rest ((d,.int .i64 (l.length:Int))::fr) L s):JO P TT D n ops Q (⟨some d,.call { callee:=.builtin .len,args:=#[x],argTypes:=#[t] },ty,pos,af,none⟩::rest) fr L s:=qad (qno hx ht hk) hd k
def qaQ{x:Operand}{a:Addr}(hx:lk fr x=some (.pointer (some a)))(hd:Nat.blt d n=true)(k:JO P TT D n ops Q rest ((d,.pointer (some a))::fr) L s):JO P TT D n ops Q (⟨some d,.nilCheck x,ty,pos,af,none⟩::rest) fr L s:=qad (qam hx) hd k
def Zqf0{t f b off:Nat}{x:Operand}{ti:TI}{os:List Nat}(hx:lk fr x=some (.pointer (some ⟨b,off,none⟩)))(ht:qaE TT t=some ti)(hk:ti.kind=.st os)(hf:qlP os f=some 0)(hd:Nat.blt d n=true)(k:JO P TT D n ops Q rest ((d,.pointer (some ⟨b,off,none⟩))::fr) L s):JO P TT D n ops Q (⟨some d,.fieldAddr t x f,ty,pos,af,none⟩::rest) fr L s:=qad (qat hx ht hk hf) hd k
def W0{t f b off:Nat}{x:Operand}{ti:TI}{os:List Nat}(hY:(lk fr x=some (.pointer (some ⟨b,off,none⟩)))∧(qaE TT t=some ti)∧(ti.kind=.st os)∧(qlP os f=some 0)∧(Nat.blt d n=true))(k:JO P TT D n ops Q rest ((d,.pointer (some ⟨b,off,none⟩))::fr) L s):JO P TT D n ops Q (⟨some d,.fieldAddr t x f,ty,pos,af,none⟩::rest) fr L s:=Zqf0 hY.1 hY.2.1 hY.2.2.1 hY.2.2.2.1 hY.2.2.2.2 k
def ZqfB{t f fo b:Nat}{x:Operand}{ti:TI}{os:List Nat}(hx:lk fr x=some (.pointer (some ⟨b,0,none⟩)))(ht:qaE TT t=some ti)(hk:ti.kind=.st os)(hf:qlP os f=some fo)(hd:Nat.blt d n=true)(k:JO P TT D n ops Q rest ((d,.pointer (some ⟨b,fo,none⟩))::fr) L s):JO P TT D n ops Q (⟨some d,.fieldAddr t x f,ty,pos,af,none⟩::rest) fr L s:=qad (qnl hx ht hk hf) hd k
def Wb{t f fo b:Nat}{x:Operand}{ti:TI}{os:List Nat}(hY:(lk fr x=some (.pointer (some ⟨b,0,none⟩)))∧(qaE TT t=some ti)∧(ti.kind=.st os)∧(qlP os f=some fo)∧(Nat.blt d n=true))(k:JO P TT D n ops Q rest ((d,.pointer (some ⟨b,fo,none⟩))::fr) L s):JO P TT D n ops Q (⟨some d,.fieldAddr t x f,ty,pos,af,none⟩::rest) fr L s:=ZqfB hY.1 hY.2.1 hY.2.2.1 hY.2.2.2.1 hY.2.2.2.2 k
def Zql{t b off:Nat}{x:Operand}{ti:TI}{t':Nat}{zs:List Value}(i:Nat)(hx:lk fr x=some (.pointer (some ⟨b,off,none⟩)))(hi:L[i]?=some (b,cb zs t'))(ht:qaE TT t=some ti)(hk:qem ti.kind=true)(hv:nth zs off=some v)(hd:Nat.blt d n=true)(k:JO P TT D n ops Q rest ((d,v)::fr) L s):JO P TT D n ops Q (⟨some d,.load t x,ty,pos,af,none⟩::rest) fr L s:=qad (qca i hx hi ht hk hv) hd k
def Wl{t b off:Nat}{x:Operand}{ti:TI}{t':Nat}{zs:List Value}(i:Nat)(hY:(lk fr x=some (.pointer (some ⟨b,off,none⟩)))∧(L[i]?=some (b,cb zs t'))∧(qaE TT t=some ti)∧(qem ti.kind=true)∧(nth zs off=some v)∧(Nat.blt d n=true))(k:JO P TT D n ops Q rest ((d,v)::fr) L s):JO P TT D n ops Q (⟨some d,.load t x,ty,pos,af,none⟩::rest) fr L s:=Zql i hY.1 hY.2.1 hY.2.2.1 hY.2.2.2.1 hY.2.2.2.2.1 hY.2.2.2.2.2 k
def qaD{x y:Operand}{ik:IntKind}{a b c:Int}{t t':Nat}(hx:lk fr x=some (.int ik a))(hy:lk fr y=some (.int ik b))(hd:Nat.blt d n=true)(hc:ik.wrap (a+b)=c)(k:JO P TT D n ops Q rest ((d,.int ik c)::fr) L s):JO P TT D n ops Q (⟨some d,.binOp .add t x y t',ty,pos,af,none⟩::rest) fr L s:=qad (qaC hx hy hc) hd k
def qhu{x y:Operand}{ik:IntKind}{a b c:Int}{t t':Nat}(hx:lk fr x=some (.int ik a))(hy:lk fr y=some (.int ik b))(hd:Nat.blt d n=true)(hc:ik.wrap (a - b)=c)(k:JO P TT D n ops Q rest ((d,.int ik c)::fr) L s):JO P TT D n ops Q (⟨some d,.binOp .sub t x y t',ty,pos,af,none⟩::rest) fr L s:=qad (qba hx hy hc) hd k
def quX{x y:Operand}{ik:IntKind}{a b c:Int}{t t':Nat}(hx:lk fr x=some (.int ik a))(hy:lk fr y=some (.int ik b))(hd:Nat.blt d n=true)(hc:ik.wrap (a * b)=c)(k:JO P TT D n ops Q rest ((d,.int ik c)::fr) L s):JO P TT D n ops Q (⟨some d,.binOp .mul t x y t',ty,pos,af,none⟩::rest) fr L s:=qad (quL hx hy hc) hd k
end
abbrev Zs:=@qtC
abbrev Zr:=@qgK
abbrev Zn:=@qtE
abbrev Zt:=@qab
abbrev Zu:=@qwF
abbrev Zv:=@qwG
abbrev Zb:=@qqA
abbrev Zc:=@qqB
abbrev Zd:=@qqC
abbrev Zk:=@quH
abbrev Zl:=@quG
abbrev Zo:=@qx0
abbrev Zp:=@qqb
abbrev Zy:=@qxZ
abbrev Zz:=@qxY
abbrev Zg:=@qAC
abbrev Zf:=@qx3
abbrev Zh:=@qAD
def Nt{P:Program}{TT:qa5}{D n:Nat}{Q:qbC}{fr:Fr}{L:Hl}{s:World}{J:Fr→Hl→World→Prop}{ops:Array Oper}(h:J fr L s):JO P TT D n ops (qaZ J Q) [] fr L s:=qtE (qab h)
def Sr{P:Program}{TT:qa5}{D n:Nat}{Q:qbC}{fr:Fr}{L:Hl}{s:World}{id:Nat}{l:List Oper}{y:Code}(h:JO P TT D n l.toArray (qaZ (JC P TT D n Q y) Q) l fr L s):JC P TT D n Q (.seq (.region id l.toArray false) y) fr L s:=qtC (qgK h)
def At{P:Program}{TT:qa5}{D n:Nat}{Q:qbC}{fr:Fr}{L:Hl}{s:World}{J:Fr→Hl→World→Prop}{ops:Array Oper}{d ty:Nat}{pos:String}{af:Array Edge}{v:Value}{x:Operand}(hx:lk fr x=some v)(hd:Nat.blt d n=true)(h:J ((d,v)::fr) L s):JO P TT D n ops (qaZ J Q) [⟨some d,.assign x,ty,pos,af,none⟩] fr L s:=Zqa hx hd (Nt h)
def sk{fr fr':Fr}(h:Suf fr fr':=by repeat (first|exact Suf.refl|refine Suf.push rfl ?_)):Keeps fr' fr:=h.keeps
def kp{fr l:Fr}(h:Keeps fr l:=by repeat (first|exact Keeps.nil _|refine Keeps.cons rfl ?_)):Keeps fr l:=h
section
variable{P:Program}{TT:qa5}{D n:Nat}{Q:qbC}{fr:Fr}{L K:Hl}{s s0:World}{ops:Array Oper}{d ty:Nat}{op:Op}{pos:String}{af:Array Edge}{v:Value}{fuel:Nat}{listed:Array Bool}
def okA(ops:Array Oper)(listed:Array Bool)(i:Nat):Bool:=Region.noSelect ops && Region.free .any ops listed i && (Region.ready .any ops listed).contains i
def za(i:Nat)(hi:ops[i]?=some ⟨some d,op,ty,pos,af,none⟩)(hq:QE P TT D fr op ty K s0 v)(hd:Nat.blt d n=true)(k:JA P TT D n ops Q K s0 fuel (listed.setIfInBounds i true) ((d,v)::fr) L s)(hs:okA ops listed i=true:=by kernel_rfl):JA P TT D n ops Q K s0 (fuel+1) listed fr L s:=by
 simp only [okA,Bool.and_eq_true] at hs;exact JA_q i hi hs.1.1 hs.1.2 hs.2 trivial hq hd k
def zg(i:Nat){e:Nat×Bool}(hi:ops[i]?=some ⟨some d,op,ty,pos,af,some e⟩)(hg:GOK ops fr (some e))(hq:QE P TT D fr op ty K s0 v)(hd:Nat.blt d n=true)(k:JA P TT D n ops Q K s0 fuel (listed.setIfInBounds i true) ((d,v)::fr) L s)(hs:okA ops listed i=true:=by kernel_rfl):JA P TT D n ops Q K s0 (fuel+1) listed fr L s:=by
 simp only [okA,Bool.and_eq_true] at hs;exact JA_q i hi hs.1.1 hs.1.2 hs.2 hg hq hd k
def zn(i:Nat){j t:Nat}{w b:Bool}(hi:ops[i]?=some ⟨some d,op,ty,pos,af,some (j,w)⟩)(hj:qeO ops j=some t)(hv:qa0 fr t=some (.bool b))(hb:(b != w)=true)(hd:Nat.blt d n=true)(k:JA P TT D n ops Q K s0 fuel (listed.setIfInBounds i true) ((d,undef)::fr) L s)(hs:okA ops listed i=true:=by kernel_rfl):JA P TT D n ops Q K s0 (fuel+1) listed fr L s:=by
 simp only [okA,Bool.and_eq_true] at hs;exact qAz i hi hs.1.1 hs.1.2 hs.2 hj hv hb hd k
end
end Go.FL
namespace Go.Proofs.YtflplmcjbppfcaaGreatDoor
open Go.Proofs.Tryz
open Go.FL
attribute [local irreducible] JC JO JA JB qaZ qaL qb4 AC fill CellsAt QE Ev Mid
def qby(D:Nat)(L:Hl)(s:World)(c i:Int):AC prog D 59 [.int .i64 c,.int .i64 i] L s fun v L' _=>v=.agg #[.int .i64 c,.int .i64 i]∧L=L':=by
 refine qae (fn:=f59) qav func59 V Z ntmps59 Z (rs:=[.cell 4 27]) Z [(0,_),(1,_)] Z<|Sr<|qag Z [_,_] Z Z fun β1 s1 h1=>Nt<|Sr<|Zqm Z Z<|Zqm Z Z<|qad (qak [(_,_),(_,_)] [_,_] Z Z Z Z Z Z) Z<|Wt 0 [_,_] Y9<|Nt<|Zo<|?_;exact rR [_] L (.agg (us:=[_,_]) 0 Z Z Z Z Z (.nil)) Z h1 fun _ hS2=>⟨rfl,rfl⟩
def Cz0{p:Prop} (h:p:=by
 exact ⟨by simp_all [qbP,qxA,qxB,qxC],rfl⟩):p:=h
def qxD(D:Nat)(L:Hl)(s:World)(k:Int):AC prog D 162 [.int .i64 k] L s fun v L' _=>v=.tuple #[.bool (qxA k),.bool (qxB k),.bool (qxC k)]∧L=L':=by
 refine qae (fn:=f162) qav func162 V Z ntmps162 Z (rs:=[.tmp 2,.tmp 3,.tmp 4]) Z [(0,_)] Z<|Sr<|Zqa Z Z<|Zqa Z Z<|At Z Z<|Sr<|Zqa Z Z<|Zqa Z Z<|At Z Z<|Zs<|Sr<|Zqm Z Z<|Nt<|Zp<|Zs<|Sr<|qax Z Z Z<|At Z Z<|?_;refine qaa Z ?_ ?_<;>intro c1
 ·refine Zk<|Zt<|?_;refine qaa Z ?_ ?_<;>intro c2;·refine Zr<|Zqa Z Z<|Zn<|Zb<|Zt<|Sr<|Zqm Z Z<|Zqm Z Z<|Zqm Z Z<|Zqa Z Z<|Zqa Z Z<|At Z Z<|Zo<|?_;exact rR [] L (.tmp Z (.tmp Z (.t1 Z))) Z (Lr D) fun _ hS2=>Cz0
  refine Zs<|Sr<|qax Z Z Z<|At Z Z<|?_;refine qaa Z ?_ ?_<;>intro c3
  ·refine Zk<|Zt<|?_;refine qaa Z ?_ ?_<;>intro c4;·refine Zr<|Zqa Z Z<|Zqa Z Z<|Zn<|Zb<|Zt<|Sr<|Zqm Z Z<|Zqm Z Z<|Zqm Z Z<|Zqa Z Z<|Zqa Z Z<|At Z Z<|Zo<|?_;exact rR [] L (.tmp Z (.tmp Z (.t1 Z))) Z (Lr D) fun _ hS2=>Cz0
   refine Sr<|qax Z Z Z<|At Z Z<|?_;refine qaa Z ?_ ?_<;>intro c5;·refine Zr<|Zqa Z Z<|Zqa Z Z<|Zn<|Zb<|Zt<|Sr<|Zqm Z Z<|Zqm Z Z<|Zqm Z Z<|Zqa Z Z<|Zqa Z Z<|At Z Z<|Zo<|?_;exact rR [] L (.tmp Z (.tmp Z (.t1 Z))) Z (Lr D) fun _ hS2=>Cz0
   refine Zs<|Sr<|qax Z Z Z<|At Z Z<|?_;refine qaa Z ?_ ?_<;>intro c6
   ·refine Zk<|Zt<|?_;refine qaa Z ?_ ?_<;>intro c7;·refine Zr<|Zqa Z Z<|Zn<|Zb<|Zt<|Sr<|Zqm Z Z<|Zqm Z Z<|Zqm Z Z<|Zqa Z Z<|Zqa Z Z<|At Z Z<|Zo<|?_;exact rR [] L (.tmp Z (.tmp Z (.t1 Z))) Z (Lr D) fun _ hS2=>Cz0
    refine Zk<|Zb<|Zt<|Sr<|Zqm Z Z<|Zqm Z Z<|Zqm Z Z<|Zqa Z Z<|Zqa Z Z<|At Z Z<|Zo<|?_;exact rR [] L (.tmp Z (.tmp Z (.t1 Z))) Z (Lr D) fun _ hS2=>Cz0
   refine Zr<|qax Z Z Z<|At Z Z<|?_;refine qaa Z ?_ ?_<;>intro c8;·refine Zr<|Zqa Z Z<|Zn<|Zb<|Zt<|Sr<|Zqm Z Z<|Zqm Z Z<|Zqm Z Z<|Zqa Z Z<|Zqa Z Z<|At Z Z<|Zo<|?_;exact rR [] L (.tmp Z (.tmp Z (.t1 Z))) Z (Lr D) fun _ hS2=>Cz0
   refine Zk<|Zb<|Zt<|Sr<|Zqm Z Z<|Zqm Z Z<|Zqm Z Z<|Zqa Z Z<|Zqa Z Z<|At Z Z<|Zo<|?_;exact rR [] L (.tmp Z (.tmp Z (.t1 Z))) Z (Lr D) fun _ hS2=>Cz0
  refine Zr<|qax Z Z Z<|At Z Z<|?_;refine qaa Z ?_ ?_<;>intro c9;·refine Zr<|Zqa Z Z<|Zqa Z Z<|Zn<|Zb<|Zt<|Sr<|Zqm Z Z<|Zqm Z Z<|Zqm Z Z<|Zqa Z Z<|Zqa Z Z<|At Z Z<|Zo<|?_;exact rR [] L (.tmp Z (.tmp Z (.t1 Z))) Z (Lr D) fun _ hS2=>Cz0
  refine Sr<|qax Z Z Z<|At Z Z<|?_;refine qaa Z ?_ ?_<;>intro c10;·refine Zr<|Zqa Z Z<|Zqa Z Z<|Zn<|Zb<|Zt<|Sr<|Zqm Z Z<|Zqm Z Z<|Zqm Z Z<|Zqa Z Z<|Zqa Z Z<|At Z Z<|Zo<|?_;exact rR [] L (.tmp Z (.tmp Z (.t1 Z))) Z (Lr D) fun _ hS2=>Cz0
  refine Zs<|Sr<|qax Z Z Z<|At Z Z<|?_;refine qaa Z ?_ ?_<;>intro c11
  ·refine Zk<|Zt<|?_;refine qaa Z ?_ ?_<;>intro c12;·refine Zr<|Zqa Z Z<|Zn<|Zb<|Zt<|Sr<|Zqm Z Z<|Zqm Z Z<|Zqm Z Z<|Zqa Z Z<|Zqa Z Z<|At Z Z<|Zo<|?_;exact rR [] L (.tmp Z (.tmp Z (.t1 Z))) Z (Lr D) fun _ hS2=>Cz0
   refine Zk<|Zb<|Zt<|Sr<|Zqm Z Z<|Zqm Z Z<|Zqm Z Z<|Zqa Z Z<|Zqa Z Z<|At Z Z<|Zo<|?_;exact rR [] L (.tmp Z (.tmp Z (.t1 Z))) Z (Lr D) fun _ hS2=>Cz0
  refine Zr<|qax Z Z Z<|At Z Z<|?_;refine qaa Z ?_ ?_<;>intro c13;·refine Zr<|Zqa Z Z<|Zn<|Zb<|Zt<|Sr<|Zqm Z Z<|Zqm Z Z<|Zqm Z Z<|Zqa Z Z<|Zqa Z Z<|At Z Z<|Zo<|?_;exact rR [] L (.tmp Z (.tmp Z (.t1 Z))) Z (Lr D) fun _ hS2=>Cz0
  refine Zk<|Zb<|Zt<|Sr<|Zqm Z Z<|Zqm Z Z<|Zqm Z Z<|Zqa Z Z<|Zqa Z Z<|At Z Z<|Zo<|?_;exact rR [] L (.tmp Z (.tmp Z (.t1 Z))) Z (Lr D) fun _ hS2=>Cz0
 refine Zr<|qax Z Z Z<|At Z Z<|?_;refine qaa Z ?_ ?_<;>intro c14;·refine Zr<|Zqa Z Z<|Zn<|Zb<|Zt<|Sr<|Zqm Z Z<|Zqm Z Z<|Zqm Z Z<|Zqa Z Z<|Zqa Z Z<|At Z Z<|Zo<|?_;exact rR [] L (.tmp Z (.tmp Z (.t1 Z))) Z (Lr D) fun _ hS2=>Cz0
 refine Zs<|Sr<|qax Z Z Z<|At Z Z<|?_;refine qaa Z ?_ ?_<;>intro c15
 ·refine Zk<|Zt<|?_;refine qaa Z ?_ ?_<;>intro c16;·refine Zr<|Zqa Z Z<|Zqa Z Z<|Zn<|Zb<|Zt<|Sr<|Zqm Z Z<|Zqm Z Z<|Zqm Z Z<|Zqa Z Z<|Zqa Z Z<|At Z Z<|Zo<|?_;exact rR [] L (.tmp Z (.tmp Z (.t1 Z))) Z (Lr D) fun _ hS2=>Cz0
  refine Sr<|qax Z Z Z<|At Z Z<|?_;refine qaa Z ?_ ?_<;>intro c17;·refine Zr<|Zqa Z Z<|Zqa Z Z<|Zn<|Zb<|Zt<|Sr<|Zqm Z Z<|Zqm Z Z<|Zqm Z Z<|Zqa Z Z<|Zqa Z Z<|At Z Z<|Zo<|?_;exact rR [] L (.tmp Z (.tmp Z (.t1 Z))) Z (Lr D) fun _ hS2=>Cz0
  refine Zs<|Sr<|qax Z Z Z<|At Z Z<|?_;refine qaa Z ?_ ?_<;>intro c18
  ·refine Zk<|Zt<|?_;refine qaa Z ?_ ?_<;>intro c19;·refine Zr<|Zqa Z Z<|Zn<|Zb<|Zt<|Sr<|Zqm Z Z<|Zqm Z Z<|Zqm Z Z<|Zqa Z Z<|Zqa Z Z<|At Z Z<|Zo<|?_;exact rR [] L (.tmp Z (.tmp Z (.t1 Z))) Z (Lr D) fun _ hS2=>Cz0
   refine Zk<|Zb<|Zt<|Sr<|Zqm Z Z<|Zqm Z Z<|Zqm Z Z<|Zqa Z Z<|Zqa Z Z<|At Z Z<|Zo<|?_;exact rR [] L (.tmp Z (.tmp Z (.t1 Z))) Z (Lr D) fun _ hS2=>Cz0
  refine Zr<|qax Z Z Z<|At Z Z<|?_;refine qaa Z ?_ ?_<;>intro c20;·refine Zr<|Zqa Z Z<|Zn<|Zb<|Zt<|Sr<|Zqm Z Z<|Zqm Z Z<|Zqm Z Z<|Zqa Z Z<|Zqa Z Z<|At Z Z<|Zo<|?_;exact rR [] L (.tmp Z (.tmp Z (.t1 Z))) Z (Lr D) fun _ hS2=>Cz0
  refine Zk<|Zb<|Zt<|Sr<|Zqm Z Z<|Zqm Z Z<|Zqm Z Z<|Zqa Z Z<|Zqa Z Z<|At Z Z<|Zo<|?_;exact rR [] L (.tmp Z (.tmp Z (.t1 Z))) Z (Lr D) fun _ hS2=>Cz0
 refine Zr<|qax Z Z Z<|At Z Z<|?_;refine qaa Z ?_ ?_<;>intro c21;·refine Zr<|Zqa Z Z<|Zqa Z Z<|Zn<|Zb<|Zt<|Sr<|Zqm Z Z<|Zqm Z Z<|Zqm Z Z<|Zqa Z Z<|Zqa Z Z<|At Z Z<|Zo<|?_;exact rR [] L (.tmp Z (.tmp Z (.t1 Z))) Z (Lr D) fun _ hS2=>Cz0
 refine Sr<|qax Z Z Z<|At Z Z<|?_;refine qaa Z ?_ ?_<;>intro c22;·refine Zr<|Zqa Z Z<|Zqa Z Z<|Zn<|Zb<|Zt<|Sr<|Zqm Z Z<|Zqm Z Z<|Zqm Z Z<|Zqa Z Z<|Zqa Z Z<|At Z Z<|Zo<|?_;exact rR [] L (.tmp Z (.tmp Z (.t1 Z))) Z (Lr D) fun _ hS2=>Cz0
 refine Zs<|Sr<|qax Z Z Z<|At Z Z<|?_;refine qaa Z ?_ ?_<;>intro c23
 ·refine Zk<|Zt<|?_;refine qaa Z ?_ ?_<;>intro c24;·refine Zr<|Zqa Z Z<|Zn<|Zb<|Zt<|Sr<|Zqm Z Z<|Zqm Z Z<|Zqm Z Z<|Zqa Z Z<|Zqa Z Z<|At Z Z<|Zo<|?_;exact rR [] L (.tmp Z (.tmp Z (.t1 Z))) Z (Lr D) fun _ hS2=>Cz0
  refine Zk<|Zb<|Zt<|Sr<|Zqm Z Z<|Zqm Z Z<|Zqm Z Z<|Zqa Z Z<|Zqa Z Z<|At Z Z<|Zo<|?_;exact rR [] L (.tmp Z (.tmp Z (.t1 Z))) Z (Lr D) fun _ hS2=>Cz0
 refine Zr<|qax Z Z Z<|At Z Z<|?_;refine qaa Z ?_ ?_<;>intro c25;·refine Zr<|Zqa Z Z<|Zn<|Zb<|Zt<|Sr<|Zqm Z Z<|Zqm Z Z<|Zqm Z Z<|Zqa Z Z<|Zqa Z Z<|At Z Z<|Zo<|?_;exact rR [] L (.tmp Z (.tmp Z (.t1 Z))) Z (Lr D) fun _ hS2=>Cz0
 refine Zk<|Zb<|Zt<|Sr<|Zqm Z Z<|Zqm Z Z<|Zqm Z Z<|Zqa Z Z<|Zqa Z Z<|At Z Z<|Zo<|?_;exact rR [] L (.tmp Z (.tmp Z (.t1 Z))) Z (Lr D) fun _ hS2=>Cz0
def Cz1{p:Prop} (h:p:=by
 exact ⟨by simp_all [qbP,qm5],rfl⟩):p:=h
def qdy(D:Nat)(L:Hl)(s:World)(x:Tm)(u o:Bool):AC prog D 163 [.agg #[.int .i64 x.kind,.int .u32 x.val],.bool u,.bool o] L s fun v L' _=>v=.bool (qm5 x u o)∧L=L':=by
 refine qae (fn:=f163) qav func163 V Z ntmps163 Z (rs:=[.tmp 6]) Z [(0,_),(1,_),(2,_)] Z<|Sr<|qay Z Z fun β1 s1 h1=>At Z Z<|Zs<|Zp<|Sr<|Zqm Z Z<|qbF Z Z<|At Z Z<|?_;refine qb8 Z ?_ ?_<;>intro c2;·refine Sr<|qad (qao 0 [_,_] Z Z Z Z Z) Z<|qad (qak [] [_,_] Z Z Z Z Z Z) Z<|qad (qx4 Z Z (qyR _ _ _ _)) Z<|At Z Z<|Zo<|Zc<|Zu<|?_;exact rR [_] L (.t1 Z) Z h1 fun _ hS2=>Cz1
 refine Sr<|W0 Y5<|Wl 0 Y6<|qax Z Z Z<|At Z Z<|?_;refine qaa Z ?_ ?_<;>intro c3;·refine Sr<|At Z Z<|Zo<|Zc<|Zu<|?_;exact rR [_] L (.t1 Z) Z h1 fun _ hS2=>Cz1
 refine Sr<|W0 Y5<|Wl 0 Y6<|qax Z Z Z<|At Z Z<|?_;refine qaa Z ?_ ?_<;>intro c4;·refine Sr<|Wb Y5<|Wl 0 Y6<|qp3 Z Z Z<|At Z Z<|Zo<|Zc<|Zu<|?_;exact rR [_] L (.t1 Z) Z h1 fun _ hS2=>Cz1
 refine Zk<|Zb<|Zt<|Sr<|W0 Y5<|Wl 0 Y6<|qax Z Z Z<|Zqm Z Z<|?_;refine qai (t:=27) Z ?_ ?_<;>intro c5
 ·refine Zg Z Z<|Wb Y5<|Zg Z Z<|Wl 0 Y6<|Zg Z Z<|qax Z Z Z<|ZqT Z Z Z<|Zqm Z Z<|?_;refine qai (t:=32) Z ?_ ?_<;>intro c6;·refine Zg Z Z<|Zqm Z Z<|ZqT Z Z Z<|At Z Z<|Zo<|?_;exact rR [_] L (.t1 Z) Z h1 fun _ hS2=>Cz1
  refine Wf Y4<|ZqF Z Z Z<|At Z Z<|Zo<|?_;exact rR [_] L (.t1 Z) Z h1 fun _ hS2=>Cz1
 refine Wf Y4<|Wf Y4<|Wf Y4<|ZqF Z Z Z<|Zqm Z Z<|Wf Y4<|ZqF Z Z Z<|At Z Z<|Zo<|?_;exact rR [_] L (.t1 Z) Z h1 fun _ hS2=>Cz1
def Cz2{p:Prop} (h:p:=by
 exact ⟨by (try simp_all [qbP,qeW])<;>grind,rfl⟩):p:=h
def qhw(D:Nat)(L:Hl)(s:World)(a:Ac)(o:Bool):AC prog D 128 [.agg #[.int .i64 a.kind,.int .i64 a.tgt,.int .i64 a.x.kind,.int .u32 a.x.val,.int .i64 a.y.kind,.int .u32 a.y.val],.bool o] L s fun v L' _=>v=.int .i64 (qeW a o)∧L=L':=by
 refine qae (fn:=f128) qav func128 V Z ntmps128 Z (rs:=[.tmp 4]) Z [(0,_),(1,_)] Z<|Sr<|qay Z Z fun β1 s1 h1=>At Z Z<|Zs<|Zp<|Sr<|W0 Y5<|Wl 0 Y6<|qa8 Z Z Z<|Zqm Z Z<|?_;refine qai (t:=12) Z ?_ ?_<;>intro c2;·refine Wf Y4<|Wf Y4<|Wf Y4<|ZqT Z Z Z<|At Z Z<|Zy Z<|Sr<|At Z Z<|Zo<|Zc<|Zu<|?_;exact rR [_] L (.t1 Z) Z h1 fun _ hS2=>Cz2
 refine Zg Z Z<|W0 Y5<|Zg Z Z<|Wl 0 Y6<|Zg Z Z<|qhn Z Z Z<|ZqF Z Z Z<|At Z Z<|?_;refine qaa Z ?_ ?_<;>intro c3;·refine Sr<|At Z Z<|Zo<|Zc<|Zu<|?_;exact rR [_] L (.t1 Z) Z h1 fun _ hS2=>Cz2
 refine Sr<|Wb Y5<|Wl 0 Y6<|qa8 Z Z Z<|Zqm Z Z<|?_;refine qai (t:=21) Z ?_ ?_<;>intro c4;·refine Wf Y4<|Wf Y4<|Wf Y4<|ZqT Z Z Z<|At Z Z<|Zy Z<|Sr<|At Z Z<|Zo<|Zc<|Zu<|?_;exact rR [_] L (.t1 Z) Z h1 fun _ hS2=>Cz2
 refine Zg Z Z<|Wb Y5<|Zg Z Z<|Wl 0 Y6<|Zg Z Z<|qbl Z Z Z<|ZqF Z Z Z<|At Z Z<|?_;refine qaa Z ?_ ?_<;>intro c5;·refine Sr<|At Z Z<|Zo<|Zc<|Zu<|?_;exact rR [_] L (.t1 Z) Z h1 fun _ hS2=>Cz2
 refine Zk<|Zb<|Zt<|Sr<|W0 Y5<|Wl 0 Y6<|Je Z Z Z (qxD D _ _ _) fun s6 h6=>Zqm Z Z<|Zqx Z Z Z<|Zqx Z Z Z<|Zqx Z Z Z<|Zqa Z Z<|Zqa Z Z<|At Z Z<|Zs<|Sr<|Zqm Z Z<|qbF Z Z<|Zqm Z Z<|?_;have e6:=h1.t h6;refine qdQ (t:=35) Z ?_ ?_<;>intro c7
 ·refine Zg Z Z<|Wb Y5<|Zg Z Z<|Wl 0 Y6<|Zg Z Z<|qcb Z Z Z<|ZqT Z Z Z<|Zqm Z Z<|?_;refine qaI (t:=40) Z ?_ ?_<;>intro c8;·refine Wf Y4<|Wf Y4<|Wf Y4<|Wf Y4<|Wf Y4<|Wf Y4<|ZqT Z Z Z<|Zqm Z Z<|Wf Y4<|Wf Y4<|Wf Y4<|Wf Y4<|Wf Y4<|Wf Y4<|ZqT Z Z Z<|Nt<|Zy Z<|Sr<|At Z Z<|Zo<|Zu ?_;exact rR [_] L (.t1 Z) Z e6 fun _ hS2=>Cz2
  refine Zg Z Z<|Wb Y5<|Zg Z Z<|qad (qao 0 [_,_] Z Z Z Z Z) Z<|Zg Z Z<|Zqm Z Z<|Zg Z Z<|Zqm Z Z<|Zg Z Z<|Je Z Z Z (qdy D _ _ _ _ _) fun s9 h9=>Zg Z Z<|qbF Z Z<|ZqF Z Z Z<|Zqm Z Z<|?_;refine qdQ (t:=48) Z ?_ ?_<;>intro c10;·refine Wf Y4<|Wf Y4<|Wf Y4<|Wf Y4<|Wf Y4<|Wf Y4<|ZqT Z Z Z<|Nt<|Zy Z<|Sr<|At Z Z<|Zo<|Zu<|?_;exact rR [_] L (.t1 Z) Z (e6.t h9) fun _ hS2=>Cz2
  refine Zg Z Z<|Wb Y5<|Zg Z Z<|qad (qao 0 [_,_] Z Z Z Z Z) Z<|Zg Z Z<|Zqm Z Z<|Zg Z Z<|Zqm Z Z<|Zg Z Z<|Je Z Z Z (qdy D _ _ _ _ _) fun s11 h11=>Zg Z Z<|qbF Z Z<|ZqF Z Z Z<|Nt<|?_;refine qb8 Z ?_ ?_<;>intro c12;·refine Sr<|At Z Z<|Zo<|Zu<|?_;exact rR [_] L (.t1 Z) Z (e6.t h9|>.t h11) fun _ hS2=>Cz2
  refine Zk<|Zt<|Sr<|At Z Z<|Zo<|?_;exact rR [_] L (.t1 Z) Z (e6.t h9|>.t h11) fun _ hS2=>Cz2
 refine Wf Y4<|Wf Y4<|Wf Y4<|ZqF Z Z Z<|Zqm Z Z<|Zg Z Z<|Wb Y5<|Zg Z Z<|qad (qao 0 [_,_] Z Z Z Z Z) Z<|Zg Z Z<|Zqm Z Z<|Zg Z Z<|Zqm Z Z<|Zg Z Z<|Je Z Z Z (qdy D _ _ _ _ _) fun s13 h13=>Zg Z Z<|qbF Z Z<|ZqF Z Z Z<|Zqm Z Z<|?_;refine qdQ (t:=48) Z ?_ ?_<;>intro c14;·refine Wf Y4<|Wf Y4<|Wf Y4<|Wf Y4<|Wf Y4<|Wf Y4<|ZqT Z Z Z<|Nt<|Zy Z<|Sr<|At Z Z<|Zo<|Zu<|?_;exact rR [_] L (.t1 Z) Z (e6.t h13) fun _ hS2=>Cz2
 refine Zg Z Z<|Wb Y5<|Zg Z Z<|qad (qao 0 [_,_] Z Z Z Z Z) Z<|Zg Z Z<|Zqm Z Z<|Zg Z Z<|Zqm Z Z<|Zg Z Z<|Je Z Z Z (qdy D _ _ _ _ _) fun s15 h15=>Zg Z Z<|qbF Z Z<|ZqF Z Z Z<|Nt<|?_;refine qb8 Z ?_ ?_<;>intro c16;·refine Sr<|At Z Z<|Zo<|Zu<|?_;exact rR [_] L (.t1 Z) Z (e6.t h13|>.t h15) fun _ hS2=>Cz2
 refine Zk<|Zt<|Sr<|At Z Z<|Zo<|?_;exact rR [_] L (.t1 Z) Z (e6.t h13|>.t h15) fun _ hS2=>Cz2
def Cz3{p:Prop} (h:p:=by
 refine ⟨?_,Z⟩;simp [qbP,qmL,qbd, *];done):p:=h
def Cz4{p:Prop} (h:p:=by
 refine ⟨?_,Z⟩;have hb:qef k ch=false:=by
  rw [Bool.eq_false_iff];simp only [qef,qgf,qfM,Bool.or_eq_true,Bool.and_eq_true,decide_eq_true_eq,ne_eq];omega
 simp [qbP,qmL,qbd,qjh hch hb];done):p:=h
def qiv(D:Nat)(L:Hl)(s:World)(l:List UInt8):AC prog D 127 [St l] L s fun v L' _=>v=.bool (qmL l)∧L=L':=by
 refine qae (fn:=f127) qav func127 V Z ntmps127 Z (rs:=[.tmp 2]) Z [(0,_)] Z<|Sr<|At Z Z<|Zs<|Sr<|Zqm Z Z<|qht Z Z Z<|Zqm Z Z<|?_;refine qai (t:=8) Z ?_ ?_<;>intro c1;·refine Wf Y4<|Wf Y4<|Wf Y4<|ZqT Z Z Z<|Zqm Z Z<|Wf Y4<|Wf Y4<|ZqT Z Z Z<|Zqm Z Z<|Wf Y4<|Wf Y4<|ZqT Z Z Z<|Nt<|Zy Z<|Sr<|At Z Z<|Zo<|Zu<|?_;exact rR [] L (.t1 Z) Z (Lr D) fun _ hS2=>Cz3
 refine Zg Z Z<|Zqm Z Z<|Zg Z Z<|qfg Z Z Z Z<|Zg Z Z<|qbl Z Z Z<|ZqF Z Z Z<|Zqm Z Z<|?_;refine qai (t:=13) Z ?_ ?_<;>intro c2
 ·refine Wf Y4<|Wf Y4<|ZqT Z Z Z<|Zqm Z Z<|Wf Y4<|Wf Y4<|ZqT Z Z Z<|Nt<|Zy Z<|Sr<|At Z Z<|Zo<|Zu<|?_;refine rR [] L (.t1 Z) Z (Lr D) fun _ hS2=>?_;refine ⟨?_,Z⟩;have h6:¬ l.length≤6:=by omega
  simp [qbP,qmL,qbd,h6];done
 refine Zg Z Z<|Zqm Z Z<|Zg Z Z<|qht Z Z Z<|ZqF Z Z Z<|Zqm Z Z<|?_;refine qai (t:=17) Z ?_ ?_<;>intro c3;·refine Wf Y4<|Wf Y4<|ZqT Z Z Z<|Nt<|Zy Z<|Sr<|At Z Z<|Zo<|Zu ?_;exact rR [] L (.t1 Z) Z (Lr D) fun _ hS2=>Cz3
 refine Zg Z Z<|Zqm Z Z<|Zg Z Z<|qht Z Z Z<|ZqF Z Z Z<|Nt<|?_;refine qaa Z ?_ ?_<;>intro c4;·refine Sr<|At Z Z<|Zo<|Zu<|?_;exact rR [] L (.t1 Z) Z (Lr D) fun _ hS2=>Cz3
 refine Zk<|Zt<|Zs<|Sr<|Zqm Z Z<|qfg Z Z Z Z<|Zqm Z Z<|Nt<|Zp<|qaA (γ:=Nat) (fun k=>[(0,_),(2,_),(22,_),(23,.int .i64 (k:Int))]) (fun _=>_) (fun k tw=>Le D s tw∧(k≤l.length∧∀ i c,i < k→l[i]?=some c→qef i c=true)) (fun k=>l.length - k) (fun _ _ _ h hl=>⟨h.1.trans hl,h.2⟩) 0 (.c4 Z Z Z Z (.nil _)) Z ⟨Le.refl _,⟨Nat.zero_le _,fun i c hi=>by omega⟩⟩ ?_;intro k s5 I5;have hk0:=I5.2.1;have hI:=I5.2.2;refine Sr<|qa8 Z Z Z<|Nt<|Zs<|?_;refine qaa Z ?_ ?_<;>intro c6
 ·have hk:k < l.length:=by omega
  obtain ⟨ch,hch⟩:∃ ch,l[k]?=some ch:=⟨_,List.getElem?_eq_getElem hk⟩;refine Zk<|Zt<|Zs<|Zp<|Sr<|Zqm Z Z<|At Z Z<|Zs<|qaJ qac 22 Z _ (fun _ h=>h) fun s7 h7=>za 0 Z (qan Z) Z<|za 1 Z (qan Z) Z<|za 2 Z (qd8 Z Z Z Z hch) Z<|za 3 Z (qqe Z Z) Z<|za 4 Z (qan Z) Z ?_;have e7:=I5.1.t h7;refine qh6 (t:=30) Z ?_ ?_<;>intro c8
  ·refine zg 5 Z ⟨_,Z,Z⟩ (qan Z) Z<|zg 6 Z ⟨_,Z,Z⟩ (qan Z) Z<|zg 7 Z ⟨_,Z,Z⟩ (qd8 Z Z Z Z hch) Z<|zg 8 Z ⟨_,Z,Z⟩ (qka Z Z) Z<|za 9 Z (qdn Z Z) Z<|za 10 Z (qan Z) Z<|za 11 Z (qan Z) Z<|za 12 Z (qd8 Z Z Z Z hch) Z<|za 13 Z (qqe Z Z) Z<|za 14 Z (qan Z) Z ?_;refine qh6 (t:=40) Z ?_ ?_<;>intro c9
   ·refine zg 15 Z ⟨_,Z,Z⟩ (qan Z) Z<|zg 16 Z ⟨_,Z,Z⟩ (qan Z) Z<|zg 17 Z ⟨_,Z,Z⟩ (qd8 Z Z Z Z hch) Z<|zg 18 Z ⟨_,Z,Z⟩ (qka Z Z) Z<|za 19 Z (qdn Z Z) Z<|za 20 Z (qa6 Z) Z<|za 21 Z (qa6 Z) Z<|qaf V<|Zt<|Sr<|Zqm Z Z<|qbF Z Z<|Zqm Z Z<|?_;refine qaI (t:=48) Z ?_ ?_<;>intro c10
    ·refine Zg Z Z<|Zqm Z Z<|Zg Z Z<|qbF Z Z<|Zg Z Z<|Zqm Z Z<|?_;refine qaI (t:=51) Z ?_ ?_<;>intro c11;·refine Wf Y4<|Wf Y4<|Zg Z Z<|ZqT Z Z Z<|ZqT Z Z Z<|Nt<|Zy Z<|Sr<|At Z Z<|Zo<|Zc<|Zu<|Zu<|Zc<|Zu<|?_;exact rR [] L (.t1 Z) Z e7 fun _ hS2=>Cz4
     refine Zg Z Z<|Zqm Z Z<|Zg Z Z<|qax Z Z Z<|Zg Z Z<|ZqF Z Z Z<|ZqT Z Z Z<|Nt<|?_;refine qaa Z ?_ ?_<;>intro c12;·refine Sr<|At Z Z<|Zo<|Zc<|Zu<|Zu<|Zc<|Zu<|?_;exact rR [] L (.t1 Z) Z e7 fun _ hS2=>Cz4
     refine Zk<|Zb<|Zt<|Zr<|qaD Z Z Z (w64 O O)<|Zqm Z Z<|Zn<|?_;have hOK:qef k ch=true:=by simp only [qef,qgf,qfM,Bool.or_eq_true,Bool.and_eq_true,decide_eq_true_eq,ne_eq];omega
     refine qab ⟨(k+1),[],kp,Z,⟨e7,⟨by omega,qa1 hI hch hOK⟩⟩,O⟩
    refine Wf Y4<|Wf Y4<|Wf Y4<|Zh Z Z Z<|Zh Z Z Z<|Wf Y4<|ZqF Z Z Z<|Nt<|Zz Z<|Zk<|Zb<|Zt<|Zr<|qaD Z Z Z (w64 O O)<|Zqm Z Z<|Zn<|?_;have hOK:qef k ch=true:=by simp only [qef,qgf,qfM,Bool.or_eq_true,Bool.and_eq_true,decide_eq_true_eq,ne_eq];omega
    refine qab ⟨(k+1),[],kp,Z,⟨e7,⟨by omega,qa1 hI hch hOK⟩⟩,O⟩
   refine zn 15 Z Z Z Z Z<|zn 16 Z Z Z Z Z<|zn 17 Z Z Z Z Z<|zn 18 Z Z Z Z Z<|za 19 Z (qdm Z Z) Z<|za 20 Z (qa6 Z) Z<|za 21 Z (qa6 Z) Z<|qaf V<|Zt<|Sr<|Zqm Z Z<|qbF Z Z<|Zqm Z Z<|?_;refine qaI (t:=48) Z ?_ ?_<;>intro c13;·refine Zg Z Z<|Zqm Z Z<|Zg Z Z<|qp4 Z Z<|Zg Z Z<|Zqm Z Z<|Wf Y4<|Wf Y4<|Zg Z Z<|ZqT Z Z Z<|ZqT Z Z Z<|Nt<|Zy Z<|Sr<|At Z Z<|Zo<|Zc<|Zu<|Zu<|Zc<|Zu ?_;exact rR [] L (.t1 Z) Z e7 fun _ hS2=>Cz4
   refine Wf Y4<|Wf Y4<|Wf Y4<|Zh Z Z Z<|Zh Z Z Z<|Wf Y4<|ZqF Z Z Z<|Nt<|Zz Z<|Zk<|Zb<|Zt<|Zr<|qaD Z Z Z (w64 O O)<|Zqm Z Z<|Zn<|?_;have hOK:qef k ch=true:=by simp only [qef,qgf,qfM,Bool.or_eq_true,Bool.and_eq_true,decide_eq_true_eq,ne_eq];omega
   refine qab ⟨(k+1),[],kp,Z,⟨e7,⟨by omega,qa1 hI hch hOK⟩⟩,O⟩
  refine zn 5 Z Z Z Z Z<|zn 6 Z Z Z Z Z<|zn 7 Z Z Z Z Z<|zn 8 Z Z Z Z Z<|za 9 Z (qdm Z Z) Z<|za 10 Z (qan Z) Z<|za 11 Z (qan Z) Z<|za 12 Z (qd8 Z Z Z Z hch) Z<|za 13 Z (qqe Z Z) Z<|za 14 Z (qan Z) Z ?_;refine qh6 (t:=40) Z ?_ ?_<;>intro c14
  ·refine zg 15 Z ⟨_,Z,Z⟩ (qan Z) Z<|zg 16 Z ⟨_,Z,Z⟩ (qan Z) Z<|zg 17 Z ⟨_,Z,Z⟩ (qd8 Z Z Z Z hch) Z<|zg 18 Z ⟨_,Z,Z⟩ (qka Z Z) Z<|za 19 Z (qdn Z Z) Z<|za 20 Z (qa6 Z) Z<|za 21 Z (qa6 Z) Z<|qaf V<|Zt<|Sr<|Zqm Z Z<|qp4 Z Z<|Zqm Z Z<|Zg Z Z<|Zqm Z Z<|Zg Z Z<|qbF Z Z<|Zg Z Z<|Zqm Z Z<|?_;refine qaI (t:=51) Z ?_ ?_<;>intro c15;·refine Wf Y4<|Wf Y4<|Zg Z Z<|ZqT Z Z Z<|ZqT Z Z Z<|Nt<|Zy Z<|Sr<|At Z Z<|Zo<|Zc<|Zu<|Zu<|Zc<|Zu<|?_;exact rR [] L (.t1 Z) Z e7 fun _ hS2=>Cz4
   refine Zg Z Z<|Zqm Z Z<|Zg Z Z<|qax Z Z Z<|Zg Z Z<|ZqF Z Z Z<|ZqT Z Z Z<|Nt<|?_;refine qaa Z ?_ ?_<;>intro c16;·refine Sr<|At Z Z<|Zo<|Zc<|Zu<|Zu<|Zc<|Zu<|?_;exact rR [] L (.t1 Z) Z e7 fun _ hS2=>Cz4
   refine Zk<|Zb<|Zt<|Zr<|qaD Z Z Z (w64 O O)<|Zqm Z Z<|Zn<|?_;have hOK:qef k ch=true:=by simp only [qef,qgf,qfM,Bool.or_eq_true,Bool.and_eq_true,decide_eq_true_eq,ne_eq];omega
   refine qab ⟨(k+1),[],kp,Z,⟨e7,⟨by omega,qa1 hI hch hOK⟩⟩,O⟩
  refine zn 15 Z Z Z Z Z<|zn 16 Z Z Z Z Z<|zn 17 Z Z Z Z Z<|zn 18 Z Z Z Z Z<|za 19 Z (qdm Z Z) Z<|za 20 Z (qa6 Z) Z<|za 21 Z (qa6 Z) Z<|qaf V<|Zt<|Sr<|Zqm Z Z<|qp4 Z Z<|Zqm Z Z<|Zg Z Z<|Zqm Z Z<|Zg Z Z<|qp4 Z Z<|Zg Z Z<|Zqm Z Z<|Wf Y4<|Wf Y4<|Zg Z Z<|ZqT Z Z Z<|ZqT Z Z Z<|Nt<|Zy Z<|Sr<|At Z Z<|Zo<|Zc<|Zu<|Zu<|Zc<|Zu<|?_;exact rR [] L (.t1 Z) Z e7 fun _ hS2=>Cz4
 refine Zl<|Zv<|Zv<|Zd<|Zt<|Sr<|At Z Z<|Zo<|?_;refine rR [] L (.t1 Z) Z I5.1 fun _ hS2=>?_;refine ⟨?_,Z⟩;have hb:=qjf (fun i c hi hc=>hI i c O hc);have h6:l.length≤6:=by omega
 simp [qbP,qmL,qbd,hb,h6, *];done
def qeZ(D:Nat)(L:Hl)(s:World)(x:Ins)(A:Option Addr)(n c:Nat)(hA:Acs s A n c x.acts):AC prog D 93 [.agg #[St x.name,.int .u32 x.code,.bool x.operand,.slice A n c]] L s fun v L' _=>v=.int .i64 (qcs x)∧L=L':=by
 have hn:=hA.1;have hc1:=hA.2.1;have hc2:=hA.2.2.1;refine qae (fn:=f93) qav func93 V Z ntmps93 Z (rs:=[.tmp 2]) Z [(0,_)] Z<|Sr<|qay Z Z fun β1 s1 h1=>At Z Z<|Zs<|Zp<|Sr<|W0 Y5<|Wl 0 Y6<|Je Z Z Z (qiv D _ _ _) fun s2 h2=>qbF Z Z<|At Z Z<|?_;have e2:=h1.t h2;refine qb8 Z ?_ ?_<;>intro c3;·refine Sr<|At Z Z<|Zo<|Zc<|Zu<|?_;refine rR [_] L (.t1 Z) Z e2 fun _ hS2=>?_;refine ⟨?_,Z⟩;simp [qbP,qcs, *];done
 refine Sr<|Wb Y5<|Wl 0 Y6<|Ws Y4<|qbl Z Z Z<|At Z Z<|?_;refine qaa Z ?_ ?_<;>intro c4
 ·refine Sr<|At Z Z<|Zo<|Zc<|Zu<|?_;refine rR [_] L (.t1 Z) Z e2 fun _ hS2=>?_;refine ⟨?_,Z⟩;have h8:8 < x.acts.length:=by omega
  simp [qbP,qcs,h8, *];done
 refine Zk<|Zb<|Zt<|Zs<|Sr<|Wb Y5<|Wl 0 Y6<|Ws Y4<|Zqm Z Z<|Nt<|Zp<|qaA (γ:=Nat) (fun k=>[(1,_),(2,_),(17,_),(18,_),(19,.int .i64 (k:Int))]) (fun _=>_) (fun k tw=>Le D s2 tw∧(k≤n∧∀ i a,i < k→x.acts[i]?=some a→qeW a x.operand=0)) (fun k=>n - k) (fun _ _ _ h hl=>⟨h.1.trans hl,h.2⟩) 0 (.c5 Z Z Z Z Z (.nil _)) Z ⟨Le.refl _,⟨Nat.zero_le _,fun i c hi=>by omega⟩⟩ ?_;intro k s5 I5;have hk0:=I5.2.1;have hI:=I5.2.2;refine Sr<|qa8 Z Z Z<|Nt<|Zs<|?_;refine qaa Z ?_ ?_<;>intro c6
 ·have hk:k < n:=by omega
  obtain ⟨b,off,a,rfl,ha,hca,hau⟩:=Acs.at_ (hA.le (e2.t I5.1)) hk;refine Zk<|Zt<|Zs<|Zp<|Sr<|qad (qau Z Z Z Z Z Z hk) Z<|qad (qaw Z Z Z hca Z) Z<|qag Z [_,_,_,_,_,_] Z Z fun β7 s7 h7=>Wt 0 [_,_,_,_,_,_] Y9<|Nt<|Sr<|qad (qao 0 [_,_,_,_,_,_] Z Z Z Z Z) Z<|Wb Y5<|Wl 1 Y6<|Je Z Z Z (qhw D _ _ _ _) fun s8 h8=>At Z Z<|Sr<|Zqm Z Z<|qcb Z Z Z<|Nt<|?_;refine qaM Z ?_ ?_<;>intro c9
  ·have hz:qeW a x.operand≠0:=by simpa using c9
   refine Sr<|Zqm Z Z<|At Z Z<|Zo<|Zc<|Zu<|Zu<|Zc<|Zu<|?_;refine rR [_,_] L (.t1 Z) Z (e2.t I5.1|>.t h7|>.t h8) fun _ hS2=>?_;refine ⟨?_,Z⟩;have h8:¬ 8 < x.acts.length:=by omega
   simp [qbP,qcs,h8,qku hI ha hz, *];done
  have hz:qeW a x.operand=0:=by simpa using c9
  refine Zk<|Zb<|Zt<|Zr<|qaD Z Z Z (w64 O O)<|Zqm Z Z<|Zn<|?_;refine qab ⟨(k+1),[_],kp,Z,⟨(I5.1.t h7|>.t h8),⟨by omega,qa1 hI ha hz⟩⟩,O⟩
 refine Zl<|Zv<|Zv<|Zd<|Zt<|Sr<|At Z Z<|Zo<|?_;refine rR [_] L (.t1 Z) Z (e2.t I5.1) fun _ hS2=>?_;refine ⟨?_,Z⟩;have h8:¬ 8 < x.acts.length:=by omega
 simp [qbP,qcs,h8,qjy (fun i a hi h=>hI i a O h), *];done
def qj5(D:Nat)(L:Hl)(s:World)(x y:Ins)(A A':Option Addr)(n c n' c' β:Nat):AC prog D 95 [.agg #[St y.name,.int .u32 y.code,.bool y.operand,.slice A' n' c'],.pointer (some ⟨β,0,none⟩)] ((β,cb [St x.name,.int .u32 x.code,.bool x.operand,.slice A n c] 95)::L) s fun v L' _=>v=.bool (qe5 x y)∧(β,cb [St x.name,.int .u32 x.code,.bool x.operand,.slice A n c] 95)::L=L':=by
 refine qae (fn:=f95) qav func95 V Z ntmps95 Z (rs:=[.tmp 3]) Z [(0,_),(1,_)] Z<|Sr<|qay Z Z fun β1 s1 h1=>At Z Z<|Sr<|W0 Y5<|Wl 1 Y6<|W0 Y5<|Wl 0 Y6<|qht Z Z Z<|Zqm Z Z<|?_;refine qai (t:=9) Z ?_ ?_<;>intro c2;·refine Wf Y4<|Wf Y4<|Wf Y4<|Wf Y4<|Wf Y4<|ZqT Z Z Z<|At Z Z<|Zo<|?_;exact rR [_] ((β,cb [St x.name,.int .u32 x.code,.bool x.operand,.slice A n c] 95)::L) (.t1 Z) Z h1 fun _ hS2=>⟨by simp_all [qbP,qe5],rfl⟩
 refine Zg Z Z<|Wb Y5<|Zg Z Z<|Wl 1 Y6<|Zg Z Z<|Wb Y5<|Zg Z Z<|Wl 0 Y6<|Zg Z Z<|qax Z Z Z<|ZqF Z Z Z<|At Z Z<|Zo<|?_;exact rR [_] ((β,cb [St x.name,.int .u32 x.code,.bool x.operand,.slice A n c] 95)::L) (.t1 Z) Z h1 fun _ hS2=>⟨by simp_all [qbP,qe5],rfl⟩
def qge(D:Nat)(L:Hl)(s:World)(A:Option Addr)(n c:Nat)(l:List Ins)(hA:Inss s A n c l)(f:FuncId)(cap:List Value)(p:Ins→Bool)(hp:∀ s' x A' n' c',AC prog D f ([.agg #[St x.name,.int .u32 x.code,.bool x.operand,.slice A' n' c']]++cap) L s' fun v L' _=>v=.bool (p x)∧L=L'):AC prog D 129 [.slice A n c,.func (.func f) #[] cap.toArray] L s fun v L' _=>v=.int .i64 (qbt p l 0)∧L=L':=by
 have hn:=hA.1;have hc1:=hA.2.1;have hc2:=hA.2.2.1;refine qae (fn:=f129) qav func129 V Z ntmps129 Z (rs:=[.tmp 4]) Z [(0,_),(1,_)] Z<|Sr<|At Z Z<|Zs<|Sr<|Zqm Z Z<|Ws Y4<|Zqm Z Z<|Nt<|Zp<|?_;refine qaA (γ:=Nat) (fun k=>[(0,_),(1,_),(4,_),(7,_),(8,.int .i64 (k:Int))]) (fun _=>_) (fun k tw=>Le D s tw∧(k≤n∧∀ i x,i < k→l[i]?=some x→p x=false)) (fun k=>n - k) (fun _ _ _ h hl=>⟨h.1.trans hl,h.2⟩) 0 (.c5 Z Z Z Z Z (.nil _)) Z ⟨Le.refl _,⟨Nat.zero_le _,fun i c hi=>by omega⟩⟩ ?_;intro k s1 I1;have hk0:=I1.2.1;have hI:=I1.2.2;refine Sr<|qa8 Z Z Z<|Nt<|Zs<|?_;refine qaa Z ?_ ?_<;>intro c2
 ·have hk:k < n:=by omega
  obtain ⟨b,off,x,A',n',c',rfl,hx,hcx,hax,hnl,hcd⟩:=Inss.at_ (hA.le I1.1) hk;refine Zk<|Zt<|Zs<|Zp<|Sr<|Zqm Z Z<|At Z Z<|Sr<|Zqm Z Z<|Zqm Z Z<|Zqm Z Z<|qad (qau Z Z Z Z Z Z hk) Z<|qad (qaw Z Z Z hcx Z) Z<|qbg (first:=[]) (captured:=cap) Z Z Z (hp _ x _ _ _) ?_;rintro _ _ s3 h3 ⟨rfl,rfl⟩;refine Nt<|?_;refine qeN Z ?_ ?_<;>intro c4;·have hz:=c4;refine Sr<|Zqm Z Z<|At Z Z<|Zo<|Zc<|Zu<|Zu<|Zc<|Zu<|?_;refine rR [] L (.t1 Z) Z (I1.1.t h3) fun _ hS2=>?_;refine ⟨?_,Z⟩;simp [qbP,qfo hI hx hz];done
  have hz:=c4;refine Zk<|Zb<|Zt<|Zr<|qaD Z Z Z (w64 O O)<|Zqm Z Z<|Zn<|?_;refine qab ⟨(k+1),[],kp,Z,⟨(I1.1.t h3),⟨by omega,qa1 hI hx hz⟩⟩,O⟩
 refine Zl<|Zv<|Zv<|Zd<|Zt<|Sr<|At Z Z<|Zo<|?_;refine rR [] L (.t1 Z) Z I1.1 fun _ hS2=>?_;refine ⟨?_,Z⟩;simp [qbP,qeC (fun i a hi h=>hI i a O h)];done
def qgW(D:Nat)(L:Hl)(s:World)(A:Option Addr)(n c:Nat)(l:List Ins)(hA:Inss s A n c l)(f:FuncId)(cap:List Value)(p:Ins→Bool)(hp:∀ s' x A' n' c',AC prog D f ([.agg #[St x.name,.int .u32 x.code,.bool x.operand,.slice A' n' c']]++cap) L s' fun v L' _=>v=.bool (p x)∧L=L'):AC prog D 94 [.slice A n c,.func (.func f) #[] cap.toArray] L s fun v L' _=>v=.bool (l.any p)∧L=L':=by
 refine qae (fn:=f94) qav func94 V Z ntmps94 Z (rs:=[.tmp 4]) Z [(0,_),(1,_)] Z<|Sr<|At Z Z<|Sr<|Zqm Z Z<|Zqm Z Z<|Je Z Z Z (qge D _ _ _ _ _ l hA f cap p hp) fun s1 h1=>qhn Z Z Z<|At Z Z<|Zo<|?_;exact rR [] L (.t1 Z) Z h1 fun _ hS2=>⟨by simp only [qbP,qjF],rfl⟩
def Cz5{p:Prop} (h:p:=by
 refine ⟨?_,Z⟩;have h0:t.cells < 1∨65536 < t.cells:=by omega
 simp [qbP,qaO,h0];done):p:=h
def qe8(D:Nat)(L:Hl)(s:World)(t:Tab)(A:Option Addr)(n c:Nat)(hA:Inss s A n c t.ins):AC prog D 61 [.agg #[.int .i64 t.cells,.slice A n c]] L s fun v L' _=>v=.agg #[.int .i64 (qaO t).1,.int .i64 (qaO t).2]∧L=L':=by
 have hn:=hA.1;have hc1:=hA.2.1;have hc2:=hA.2.2.1;refine qae (fn:=f61) qav func61 V Z ntmps61 Z (rs:=[.cell 2 27]) Z [(0,_)] Z<|Sr<|qay Z Z fun β1 s1 h1=>qag Z [_,_] Z Z fun β2 s2 h2=>Nt<|Zs<|Zp<|Sr<|W0 Y5<|Wl 1 Y6<|qa8 Z Z Z<|Zqm Z Z<|?_;have e2:=h1.t h2;refine qai (t:=10) Z ?_ ?_<;>intro c3;·refine Wf Y4<|Wf Y4<|Wf Y4<|ZqT Z Z Z<|At Z Z<|Zy Z<|Sr<|Je Z Z Z (qby D _ _ _ _) fun s4 h4=>Wt 0 [_,_] Y9<|Nt<|Zo<|Zc<|Zu<|?_;exact rR [_,_] L (.agg (us:=[_,_]) 0 Z Z Z Z Z (.nil)) Z (e2.t h4) fun _ hS2=>Cz5
 refine Zg Z Z<|W0 Y5<|Zg Z Z<|Wl 1 Y6<|Zg Z Z<|qbl Z Z Z<|ZqF Z Z Z<|At Z Z<|?_;refine qaa Z ?_ ?_<;>intro c5;·refine Sr<|Je Z Z Z (qby D _ _ _ _) fun s6 h6=>Wt 0 [_,_] Y9<|Nt<|Zo<|Zc<|Zu<|?_;exact rR [_,_] L (.agg (us:=[_,_]) 0 Z Z Z Z Z (.nil)) Z (e2.t h6) fun _ hS2=>Cz5
 refine Sr<|Wb Y5<|Wl 1 Y6<|Ws Y4<|qbl Z Z Z<|At Z Z<|?_;refine qaa Z ?_ ?_<;>intro c7
 ·refine Sr<|Je Z Z Z (qby D _ _ _ _) fun s8 h8=>Wt 0 [_,_] Y9<|Nt<|Zo<|Zc<|Zu<|?_;refine rR [_,_] L (.agg (us:=[_,_]) 0 Z Z Z Z Z (.nil)) Z (e2.t h8) fun _ hS2=>?_;refine ⟨?_,Z⟩;have h0:¬ (t.cells < 1∨65536 < t.cells):=by omega
  have h1:64 < t.ins.length:=by omega
  simp [qbP,qaO,h0,h1];done
 refine Zk<|Zb<|Zt<|Zs<|Sr<|Wb Y5<|Wl 1 Y6<|Ws Y4<|Zqm Z Z<|Nt<|Zp<|qaA (γ:=Nat) (fun k=>[(1,_),(2,_),(23,_),(24,_),(25,.int .i64 (k:Int))]) (fun _=>_) (fun k tw=>Le D s2 tw∧(k≤n∧∀ i,i < k→qdd t.ins i=0)) (fun k=>n - k) (fun _ _ _ h hl=>⟨h.1.trans hl,h.2⟩) 0 (.c5 Z Z Z Z Z (.nil _)) Z ⟨Le.refl _,⟨Nat.zero_le _,fun i hi=>by omega⟩⟩ ?_;intro k s9 I9;have e9:=e2.t I9.1;have hk0:=I9.2.1;have hI:=I9.2.2;refine Sr<|qa8 Z Z Z<|Nt<|Zs<|?_;refine qaa Z ?_ ?_<;>intro c10
 ·have hk:k < n:=by omega
  obtain ⟨b,off,x,A',n',c',rfl,hx,hcx,hax,hnl,hcd⟩:=Inss.at_ (hA.le e9) hk;refine Zk<|Zt<|Zs<|Zp<|Sr<|Zqm Z Z<|qad (qau Z Z Z Z Z Z hk) Z<|qad (qaw Z Z Z hcx Z) Z<|qag Z [_,_,_,_] Z Z fun β11 s11 h11=>Zqa Z Z<|Wt 0 [_,_,_,_] Y9<|Nt<|Zs<|Sr<|qad (qao 0 [_,_,_,_] Z Z Z Z Z) Z<|Je Z Z Z (qeZ D _ _ _ _ _ _ (hax.le h11)) fun s12 h12=>At Z Z<|Sr<|Zqm Z Z<|qcb Z Z Z<|Nt<|?_;have e12:=e9.t h11|>.t h12;refine qaM Z ?_ ?_<;>intro c13
  ·have hz:qcs x≠0:=by simpa using c13
   refine Sr<|Zqm Z Z<|Zqm Z Z<|Je Z Z Z (qby D _ _ _ _) fun s14 h14=>Wt 1 [_,_] Y9<|Nt<|Zo<|Zu<|Zc<|Zu<|Zu<|Zc<|Zu<|?_;refine rR [_,_,_] L (.agg (us:=[_,_]) 1 Z Z Z Z Z (.nil)) Z (e12.t h14) fun _ hS2=>?_;refine ⟨?_,Z⟩;have h0:¬ (t.cells < 1∨65536 < t.cells):=by omega
   have h1:¬ 64 < t.ins.length:=by omega
   have hr:qdd t.ins k=qcs x:=by simp [qdd,hx,hz]
   have hb:=qgb (f:=qdd t.ins) (m:=t.ins.length) (j:=0) (k:=k) (fun i _ hi=>hI i hi) O (by rw [hr];exact hz) O;simp [qbP,qaO,h0,h1,hb,hr];done
  have hz:qcs x=0:=by simpa using c13
  refine Zk<|Zt<|Sr<|Wb Y5<|Wl 2 Y6<|Zqm Z Z<|qad (qhC Z Z Z Z Z O) Z<|qad (qfQ Z) Z<|Je Z Z Z (qgW D _ _ _ _ _ (t.ins.take k) (Inss.take (hA.le e12) hk) _ _ (qe5 x) (fun s' y A'' n'' c''=>qj5 D _ _ _ _ _ _ _ _ _ _ _)) fun s15 h15=>Nt<|?_;refine qeN Z ?_ ?_<;>intro c16
  ·have hy:=c16;refine Sr<|Zqm Z Z<|Je Z Z Z (qby D _ _ _ _) fun s17 h17=>Wt 1 [_,_] Y9<|Nt<|Zo<|Zc<|Zu<|Zu<|Zc<|Zu<|?_;refine rR [_,_,_] L (.agg (us:=[_,_]) 1 Z Z Z Z Z (.nil)) Z (e12.t h15|>.t h17) fun _ hS2=>?_;refine ⟨?_,Z⟩;have h0:¬ (t.cells < 1∨65536 < t.cells):=by omega
   have h1:¬ 64 < t.ins.length:=by omega
   have hr:qdd t.ins k=8:=by simp [qdd,hx,hz,hy]
   have hb:=qgb (f:=qdd t.ins) (m:=t.ins.length) (j:=0) (k:=k) (fun i _ hi=>hI i hi) O (by rw [hr];decide) O;simp [qbP,qaO,h0,h1,hb,hr];done
  have hy:=c16;refine Zk<|Zb<|Zt<|Zr<|qaD Z Z Z (w64 O O)<|Zqm Z Z<|Zn<|?_;refine qab ⟨(k+1),[_],kp,rfl,⟨(I9.1.t h11|>.t h12|>.t h15),⟨by omega,fun i hi=>by rcases Nat.lt_succ_iff_lt_or_eq.1 hi with h|rfl;exact hI i h;simp [qdd,hx,hz,hy]⟩⟩,O⟩
 refine Zl<|Zv<|Zv<|Zd<|Zt<|Sr<|qad (qak [] [_,_] Z Z Z Z Z Z) Z<|Wt 0 [_,_] Y9<|Nt<|Zo<|?_;refine rR [_,_] L (.agg (us:=[_,_]) 0 Z Z Z Z Z (.nil)) Z e9 fun _ hS2=>?_;refine ⟨?_,Z⟩;have h0:¬ (t.cells < 1∨65536 < t.cells):=by omega
 have h1:¬ 64 < t.ins.length:=by omega
 have hb:=qio (f:=qdd t.ins) (m:=t.ins.length) (j:=0) (fun i _ hi=>hI i O);simp [qbP,qaO,h0,h1,hb];done
def qdX(D:Nat)(L:Hl)(s:World)(x lo hi:Int):AC prog D 87 [.int .i64 x,.int .i64 lo,.int .i64 hi] L s fun v L' _=>v=.bool (decide (lo≤x∧x≤hi))∧L=L':=by
 refine qae (fn:=f87) qav func87 V Z ntmps87 Z (rs:=[.tmp 6]) Z [(0,_),(1,_),(2,_)] Z<|Sr<|At Z Z<|Sr<|Zqm Z Z<|Zqm Z Z<|qhn Z Z Z<|Zqm Z Z<|?_;refine qai (t:=10) Z ?_ ?_<;>intro c1;·refine Zg Z Z<|Zqm Z Z<|Zg Z Z<|Zqm Z Z<|Zg Z Z<|qp3 Z Z Z<|ZqT Z Z Z<|At Z Z<|Zo<|?_;exact rR [] L (.t1 Z) Z (Lr D) fun _ hS2=>⟨by simp [qbP, *],rfl⟩
 refine Wf Y4<|Wf Y4<|Wf Y4<|ZqF Z Z Z<|At Z Z<|Zo<|?_;exact rR [] L (.t1 Z) Z (Lr D) fun _ hS2=>⟨by simp [qbP, *],rfl⟩
def qee(D:Nat)(L:Hl)(s:World)(c i:Int):AC prog D 10 [.int .i64 c,.int .i64 i] L s fun v L' _=>v=.agg #[.int .i64 c,.int .i64 i]∧L=L':=by
 refine qae (fn:=f10) qav func10 V Z ntmps10 Z (rs:=[.cell 4 27]) Z [(0,_),(1,_)] Z<|Sr<|qag Z [_,_] Z Z fun β1 s1 h1=>Nt<|Sr<|Zqm Z Z<|Zqm Z Z<|qad (qak [(_,_),(_,_)] [_,_] Z Z Z Z Z Z) Z<|Wt 0 [_,_] Y9<|Nt<|Zo<|?_;exact rR [_] L (.agg (us:=[_,_]) 0 Z Z Z Z Z (.nil)) Z h1 fun _ hS2=>⟨rfl,rfl⟩
def Cz6{p:Prop} (h:p:=by
 refine ⟨?_,Z⟩;have hnil:l=[]↔l.length=0:=by cases l<;>simp
 have h0:l=[]:=by rw [hnil];omega
 simp [qbP,h0];done):p:=h
def Cz7{p:Prop} (h:p:=by
 refine ⟨?_,Z⟩;have hnil:l=[]↔l.length=0:=by cases l<;>simp
 have hb:qef k ch=false:=by
  rw [Bool.eq_false_iff];simp only [qef,qgf,qfM,Bool.or_eq_true,Bool.and_eq_true,decide_eq_true_eq,ne_eq];omega
 simp [qbP,qjh hch hb];done):p:=h
def qot(D:Nat)(L:Hl)(s:World)(l:List UInt8)(m:Int)(hl:l.length≤9223372036854775807):AC prog D 117 [St l,.int .i64 m] L s fun v L' _=>v=.bool (decide (l≠[]) && decide ((l.length:Int)≤m) && qaX 0 l)∧L=L':=by
 refine qae (fn:=f117) qav func117 V Z ntmps117 Z (rs:=[.tmp 4]) Z [(0,_),(1,_)] Z<|Sr<|At Z Z<|Zs<|Sr<|Zqm Z Z<|qfg Z Z Z Z<|qa8 Z Z Z<|Zqm Z Z<|?_;refine qai (t:=11) Z ?_ ?_<;>intro c1;·refine Wf Y4<|Wf Y4<|Wf Y4<|Wf Y4<|ZqT Z Z Z<|Nt<|Zy Z<|Sr<|At Z Z<|Zo<|Zu<|?_;exact rR [] L (.t1 Z) Z (Lr D) fun _ hS2=>Cz6
 refine Zg Z Z<|Zqm Z Z<|Zg Z Z<|qfg Z Z Z Z<|Zg Z Z<|Zqm Z Z<|Zg Z Z<|qbl Z Z Z<|ZqF Z Z Z<|Nt<|?_;refine qaa Z ?_ ?_<;>intro c2
 ·refine Sr<|At Z Z<|Zo<|Zu<|?_;refine rR [] L (.t1 Z) Z (Lr D) fun _ hS2=>?_;refine ⟨?_,Z⟩;have hnil:l=[]↔l.length=0:=by cases l<;>simp
  have h0:¬ (l.length:Int)≤m:=by omega
  simp [qbP,h0];done
 refine Zk<|Zt<|Zs<|Sr<|At Z Z<|Zp<|qaA (γ:=Nat) (fun k=>[(0,_),(4,_),(5,.int .i64 (k:Int))]) (fun _=>_) (fun k tw=>Le D s tw∧(k≤l.length∧∀ i c,i < k→l[i]?=some c→qef i c=true)) (fun k=>l.length - k) (fun _ _ _ h hl=>⟨h.1.trans hl,h.2⟩) 0 (.c3 Z Z Z (.nil _)) Z ⟨Le.refl _,⟨Nat.zero_le _,fun i c hi=>by omega⟩⟩ ?_;intro k s3 I3;have hk0:=I3.2.1;have hI:=I3.2.2;refine Zs<|Sr<|Zqm Z Z<|Zqm Z Z<|qfg Z Z Z Z<|qa8 Z Z Z<|Nt<|?_;refine qaa Z ?_ ?_<;>intro c4
 ·have hk:k < l.length:=by omega
  obtain ⟨ch,hch⟩:∃ ch,l[k]?=some ch:=⟨_,List.getElem?_eq_getElem hk⟩;refine Zk<|Zt<|Zs<|Zp<|Sr<|Zqm Z Z<|Zqm Z Z<|qad (qd8 Z Z Z Z hch) Z<|qhn Z Z Z<|Zqm Z Z<|?_;refine qai (t:=27) Z ?_ ?_<;>intro c5
  ·refine Zg Z Z<|Zqm Z Z<|Zg Z Z<|Zqm Z Z<|Zg Z Z<|qad (qd8 Z Z Z Z hch) Z<|Zg Z Z<|qp3 Z Z Z<|ZqT Z Z Z<|At Z Z<|Sr<|Zqm Z Z<|Zqm Z Z<|qad (qd8 Z Z Z Z hch) Z<|qhn Z Z Z<|Zqm Z Z<|?_;refine qai (t:=37) Z ?_ ?_<;>intro c6
   ·refine Zg Z Z<|Zqm Z Z<|Zg Z Z<|Zqm Z Z<|Zg Z Z<|qad (qd8 Z Z Z Z hch) Z<|Zg Z Z<|qp3 Z Z Z<|ZqT Z Z Z<|At Z Z<|Sr<|Zqm Z Z<|qbF Z Z<|Zqm Z Z<|?_;refine qaI (t:=45) Z ?_ ?_<;>intro c7
    ·refine Zg Z Z<|Zqm Z Z<|Zg Z Z<|Zqm Z Z<|?_;refine qai (t:=47) Z ?_ ?_<;>intro c8
     ·refine Zg Z Z<|Zqm Z Z<|Zg Z Z<|qbl Z Z Z<|Zg Z Z<|ZqT Z Z Z<|Zg Z Z<|qbF Z Z<|ZqT Z Z Z<|Nt<|?_;refine qaM Z ?_ ?_<;>intro c9;·refine Sr<|At Z Z<|Zo<|Zc<|Zu<|Zu<|Zc<|Zu<|?_;exact rR [] L (.t1 Z) Z I3.1 fun _ hS2=>Cz6
      refine Zk<|Zb<|Zt<|Zr<|Zqm Z Z<|qaD Z Z Z (w64 O O)<|Zqa Z Z<|Zn<|?_;have hOK:qef k ch=true:=by simp only [qef,qgf,qfM,Bool.or_eq_true,Bool.and_eq_true,decide_eq_true_eq,ne_eq];omega
      refine qab ⟨(k+1),[],kp,Z,⟨I3.1,⟨by omega,qa1 hI hch hOK⟩⟩,O⟩
     refine Wf Y4<|Wf Y4<|Zg Z Z<|ZqF Z Z Z<|Zg Z Z<|qp4 Z Z<|ZqT Z Z Z<|Nt<|Zy Z<|Sr<|At Z Z<|Zo<|Zc<|Zu<|Zu<|Zc<|Zu<|?_;exact rR [] L (.t1 Z) Z I3.1 fun _ hS2=>Cz7
    refine Wf Y4<|Wf Y4<|Zh Z Z Z<|Zh Z Z Z<|Wf Y4<|Wf Y4<|ZqF Z Z Z<|Nt<|Zz Z<|Zk<|Zb<|Zt<|Zr<|Zqm Z Z<|qaD Z Z Z (w64 O O)<|Zqa Z Z<|Zn<|?_;have hOK:qef k ch=true:=by simp only [qef,qgf,qfM,Bool.or_eq_true,Bool.and_eq_true,decide_eq_true_eq,ne_eq];omega
    refine qab ⟨(k+1),[],kp,Z,⟨I3.1,⟨by omega,qa1 hI hch hOK⟩⟩,O⟩
   refine Wf Y4<|Wf Y4<|Wf Y4<|Wf Y4<|ZqF Z Z Z<|At Z Z<|Sr<|Zqm Z Z<|qbF Z Z<|Zqm Z Z ?_;refine qaI (t:=45) Z ?_ ?_<;>intro c10;·refine Zg Z Z<|Zqm Z Z<|Zg Z Z<|Zqm Z Z<|Wf Y4<|Wf Y4<|Zg Z Z<|ZqF Z Z Z<|Zg Z Z<|qp4 Z Z<|ZqT Z Z Z<|Nt<|Zy Z<|Sr<|At Z Z<|Zo<|Zc<|Zu<|Zu<|Zc<|Zu ?_;exact rR [] L (.t1 Z) Z I3.1 fun _ hS2=>Cz6
   refine Wf Y4<|Wf Y4<|Zh Z Z Z<|Zh Z Z Z<|Wf Y4<|Wf Y4<|ZqF Z Z Z<|Nt<|Zz Z<|Zk<|Zb<|Zt<|Zr<|Zqm Z Z<|qaD Z Z Z (w64 O O)<|Zqa Z Z<|Zn<|?_;have hOK:qef k ch=true:=by simp only [qef,qgf,qfM,Bool.or_eq_true,Bool.and_eq_true,decide_eq_true_eq,ne_eq];omega
   refine qab ⟨(k+1),[],kp,Z,⟨I3.1,⟨by omega,qa1 hI hch hOK⟩⟩,O⟩
  refine Wf Y4<|Wf Y4<|Wf Y4<|Wf Y4<|ZqF Z Z Z<|At Z Z<|Sr<|Zqm Z Z<|Zqm Z Z<|qad (qd8 Z Z Z Z hch) Z<|qhn Z Z Z<|Zqm Z Z<|?_;refine qai (t:=37) Z ?_ ?_<;>intro c11
  ·refine Zg Z Z<|Zqm Z Z<|Zg Z Z<|Zqm Z Z<|Zg Z Z<|qad (qd8 Z Z Z Z hch) Z<|Zg Z Z<|qp3 Z Z Z<|ZqT Z Z Z<|At Z Z<|Sr<|Zqm Z Z<|qp4 Z Z<|Zqm Z Z<|Zg Z Z<|Zqm Z Z<|Zg Z Z<|Zqm Z Z<|?_;refine qai (t:=47) Z ?_ ?_<;>intro c12
   ·refine Zg Z Z<|Zqm Z Z<|Zg Z Z<|qbl Z Z Z<|Zg Z Z<|ZqT Z Z Z<|Zg Z Z<|qbF Z Z<|ZqT Z Z Z<|Nt<|?_;refine qaM Z ?_ ?_<;>intro c13;·refine Sr<|At Z Z<|Zo<|Zc<|Zu<|Zu<|Zc<|Zu<|?_;exact rR [] L (.t1 Z) Z I3.1 fun _ hS2=>Cz7
    refine Zk<|Zb<|Zt<|Zr<|Zqm Z Z<|qaD Z Z Z (w64 O O)<|Zqa Z Z<|Zn<|?_;have hOK:qef k ch=true:=by simp only [qef,qgf,qfM,Bool.or_eq_true,Bool.and_eq_true,decide_eq_true_eq,ne_eq];omega
    refine qab ⟨(k+1),[],kp,Z,⟨I3.1,⟨by omega,qa1 hI hch hOK⟩⟩,O⟩
   refine Wf Y4<|Wf Y4<|Zg Z Z<|ZqF Z Z Z<|Zg Z Z<|qp4 Z Z<|ZqT Z Z Z<|Nt<|Zy Z<|Sr<|At Z Z<|Zo<|Zc<|Zu<|Zu<|Zc<|Zu<|?_;exact rR [] L (.t1 Z) Z I3.1 fun _ hS2=>Cz7
  refine Wf Y4<|Wf Y4<|Wf Y4<|Wf Y4<|ZqF Z Z Z<|At Z Z<|Sr<|Zqm Z Z<|qp4 Z Z<|Zqm Z Z<|Zg Z Z<|Zqm Z Z<|Zg Z Z<|Zqm Z Z<|Wf Y4<|Wf Y4<|Zg Z Z<|ZqF Z Z Z<|Zg Z Z<|qp4 Z Z<|ZqT Z Z Z<|Nt<|Zy Z<|Sr<|At Z Z<|Zo<|Zc<|Zu<|Zu<|Zc<|Zu<|?_;exact rR [] L (.t1 Z) Z I3.1 fun _ hS2=>Cz7
 refine Zl<|Zv<|Zv<|Zd<|Zt<|Sr<|At Z Z<|Zo<|?_;refine rR [] L (.t1 Z) Z I3.1 fun _ hS2=>?_;refine ⟨?_,Z⟩;have hnil:l=[]↔l.length=0:=by cases l<;>simp
 have hb:=qjf (fun i c hi hc=>hI i c O hc);have h6:(l.length:Int)≤m:=by omega
 have h0:¬ l=[]:=by rw [hnil];omega
 simp [qbP,hb,h6,h0];done
end Go.Proofs.YtflplmcjbppfcaaGreatDoor
namespace Go.FL
open Go Go.RowKit Go.Proofs.YtflplmcjbppfcaaGreatDoor
def qml(l:List UInt8)(r:ByteArray):(l.map (fun x=>(x.toNat:Int))).foldl (fun r n=>r.push (UInt8.ofNat n.toNat)) r=⟨r.data++l.toArray⟩:=by
 induction l generalizing r with
 | nil=>cases r;simp
 | cons x l ih=>
  simp only [List.map_cons,List.foldl_cons,ih];apply ByteArray.ext;simp [ByteArray.push]
def qkY{P:Program}{TT:qa5}{D:Nat}{fr:Fr}{ty:Nat}{K:Hl}{s0:World}{x:Operand}{t t' e:Nat}{A:Option Addr}{n c:Nat}{l:List UInt8}{ti ti' te:TI}(hx:lk fr x=some (.slice A n c))(ht:qaE TT t=some ti)(hk:ti.kind=.sl e)(he:qaE TT e=some te)(hke:te.desc=.int .u8)
  (ht':qaE TT t'=some ti') (hk':ti'.desc=.string) (h:Bts s0 A n c l):QE P TT D fr (.convert t t' x) ty K s0 (St l):=fun hT dst pos af g ρ hρ L s ho hl _=>by
 obtain ⟨k1,k2,_⟩:=hT.at_ ht;rw [hk] at k2;simp only [TK.fits] at k2;rw [k2] at k1;have k3:=(hT.at_ he).1;rw [hke] at k3;have k4:=(hT.at_ ht').1;rw [hk'] at k4;have hc:=run_convert_bytes_string (P:=P) (fill L s) t t' e A n c k1 k3 k4;simp only [execOp,hρ x _ hx,Sem.run_bind,hc];cases A with
 | none=>
  have:l=[]:=by
   cases l with
   | nil=>rfl
   | cons y l=>obtain ⟨b,off,cs,h1,_⟩:=h.2.2.2 0 y rfl;cases h1
  subst this;simp [Conv.bytesToString];rfl
 | some a=>
  have hcells:∀ j v,(l.map (fun x=>Value.int .u8 (x.toNat:Int)))[j]?=some v→(fill L s).cell? (a.add j)=some v:=fun j v hj=>by
   rw [List.getElem?_map] at hj;cases hx:l[j]? with
   | none=>simp [hx] at hj
   | some y=>
    simp [hx] at hj;obtain ⟨b,off,cs,h1,h2,h3,rfl⟩:=h.2.2.2 j y hx;injection h1 with h1;subst h1
    have:=h2 0 _ rfl;rw [add_lit,← hj];simpa using qeh ho (hl.cell this)
  have hload:=run_loadCells_list (P:=P) (fill L s) a (l.map (fun x=>Value.int .u8 (x.toNat:Int))) hcells;rw [List.length_map,← h.1] at hload;have hr:=run_bytesToString (P:=P) (fill L s) a n c (l.map (fun x=>(x.toNat:Int))) (by rw [hload,List.map_map];rfl);rw [hr,qml];have he:(⟨ByteArray.empty.data++l.toArray⟩:ByteArray)=⟨l.toArray⟩:=by apply ByteArray.ext;exact Array.empty_append
  simp only [Result.andThen_ok,Sem.run_pure,he]
end Go.FL
namespace Go.Proofs.YtflplmcjbppfcaaGreatDoor
open Go Go.FL
def qmU{α:Type}{l m:List α}(hl:l.length=m.length)(h:∀ i x,i < l.length→l[i]?=some x→m[i]?=some x):l=m:=by
 apply List.ext_getElem?;intro i;by_cases hi:i < l.length
 · rw [h i _ hi (List.getElem?_eq_getElem hi),List.getElem?_eq_getElem hi]
 · rw [List.getElem?_eq_none O,List.getElem?_eq_none O]
def qmq{α:Type}{l m:List α}{i:Nat}{x y:α}(h1:l[i]?=some x)(h2:m[i]?=some y)(h:x≠y):l≠m:=fun e=>by
 subst e;rw [h1] at h2;injection h2;contradiction
def qip(f:Nat→Int)(m j:Nat):(qb1 f m j).1=0→(qb1 f m j).2=0:=by
 induction m generalizing j with
 | zero=>intro _;rfl
 | succ m ih=>
  simp only [qb1];split
  · intro h;contradiction
  · exact ih _
def qiN(t:Tab):(qaO t).1=0→(qaO t).2=0:=by
 unfold qaO;split
 · intro h;cases h
 split
 · intro h;cases h
 · exact qip _ _ _
def qbI(t:Tab)(m:Mst):Int×Int:=
 if (qaO t).1≠0 then qaO t
 else if (m.cells.length:Int)≠t.cells then (9,-2)
 else if 400000 < m.input.length∨20000 < m.output.length then (3,-2)
 else if m.stop < 0∨5 < m.stop then (4,-2)
 else if m.code≠0∧m.stop≠1 then (6,-2)
 else (0,0)
def qa3(t:Tab)(image:List Int)(input:List UInt8):Int×Int:=
 if (qaO t).1≠0 then qaO t
 else if t.cells < (image.length:Int) then (3,-2)
 else if 400000 < input.length then (3,-3)
 else (0,0)
open Go.Proofs.Tryz
open Go.FL
attribute [local irreducible] JC JO JA JB qaZ qaL qb4 AC fill CellsAt QE Ev Mid
def qjU(D:Nat)(L:Hl)(s:World)(A:Option Addr)(n c:Nat)(l:List Int)(hA:Wds s A n c l)(A1:Option Addr)(n1 c1:Nat)(l1:List Int)(hB:Wds s A1 n1 c1 l1):AC prog D 13 [.slice A n c,.slice A1 n1 c1] L s fun v L' _=>v=.bool (decide (l=l1))∧L=L':=by
 have hn:=hA.1;have hc1:=hA.2.1;have hc2:=hA.2.2.1;have hn1:=hB.1;refine qae (fn:=f13) qav func13 V Z ntmps13 Z (rs:=[.tmp 4]) Z [(0,_),(1,_)] Z<|Sr<|At Z Z<|Zs<|Sr<|Zqm Z Z<|Ws Y4<|Zqm Z Z<|Ws Y4<|qcb Z Z Z<|Nt<|?_;refine qaM Z ?_ ?_<;>intro c1
 ·refine Sr<|At Z Z<|Zo<|Zu<|?_;refine rR [] L (.t1 Z) Z (Lr D) fun _ hS2=>?_;refine ⟨?_,Z⟩;have h0:l≠l1:=fun e=>by subst e;omega
  simp [qbP,h0];done
 refine Zk<|Zt<|Zs<|Sr<|At Z Z<|Zp<|qaA (γ:=Nat) (fun k=>[(0,_),(1,_),(4,_),(5,.int .i64 (k:Int))]) (fun _=>_) (fun k tw=>Le D s tw∧(k≤n∧∀ i x,i < k→l[i]?=some x→l1[i]?=some x)) (fun k=>n - k) (fun _ _ _ h hl=>⟨h.1.trans hl,h.2⟩) 0 (.c4 Z Z Z Z (.nil _)) Z ⟨Le.refl _,⟨Nat.zero_le _,fun i c hi=>by omega⟩⟩ ?_;intro k s2 I2;have hk0:=I2.2.1;have hI:=I2.2.2;refine Zs<|Sr<|Zqm Z Z<|Zqm Z Z<|Ws Y4<|qa8 Z Z Z<|Nt<|?_;refine qaa Z ?_ ?_<;>intro c3
 ·have hk:k < n:=by omega
  obtain ⟨b,off,x,rfl,hx,hcx,_⟩:=Wds.at_ (hA.le I2.1) hk;obtain ⟨b1,off1,y,rfl,hy,hcy,_⟩:=Wds.at_ (hB.le I2.1) (show k < n1 by omega);refine Zk<|Zt<|Zs<|Zp<|Zs<|qaJ qac 9 Z _ (fun _ h=>h) fun s4 h4=>za 0 Z (qan Z) Z<|za 1 Z (qan Z) Z<|za 2 Z (qaU Z Z Z Z Z Z hk) Z<|za 3 Z (qaq Z Z Z (hcx.le h4) Z) Z<|za 4 Z (qan Z) Z<|za 5 Z (qan Z) Z<|za 6 Z (qaU Z Z Z Z Z Z (show k < n1 by omega)) Z<|za 7 Z (qaq Z Z Z (hcy.le h4) Z) Z<|za 8 Z (qhr Z Z) Z<|qaf V<|Zt ?_;refine qaM Z ?_ ?_<;>intro c5
  ·have hE:x≠y:=by assumption
   refine Sr<|At Z Z<|Zo<|Zc<|Zu<|Zu<|Zc<|Zu<|?_;refine rR [] L (.t1 Z) Z (I2.1.t h4) fun _ hS2=>?_;refine ⟨?_,Z⟩;have h0:l≠l1:=qmq hx hy hE;simp [qbP,h0];done
  have hE:x=y:=by simpa using c5
  refine Zk<|Zb<|Zt<|Zr<|Zqm Z Z<|qaD Z Z Z (w64 O O)<|Zqa Z Z<|Zn<|?_;refine qab ⟨(k+1),[],kp,Z,⟨(I2.1.t h4),⟨by omega,qa1 hI hx (hE▸hy)⟩⟩,O⟩
 refine Zl<|Zv<|Zv<|Zd<|Zt<|Sr<|At Z Z<|Zo<|?_;refine rR [] L (.t1 Z) Z I2.1 fun _ hS2=>?_;refine ⟨?_,Z⟩;have h0:l=l1:=qmU O (fun i x hi h=>hI i x O h);simp [qbP,h0];done
def qjT(D:Nat)(L:Hl)(s:World)(A:Option Addr)(n c:Nat)(l:List UInt8)(hA:Bts s A n c l)(A1:Option Addr)(n1 c1:Nat)(l1:List UInt8)(hB:Bts s A1 n1 c1 l1):AC prog D 32 [.slice A n c,.slice A1 n1 c1] L s fun v L' _=>v=.bool (decide (l=l1))∧L=L':=by
 refine qae (fn:=f32) qav func32 V Z ntmps32 Z (rs:=[.tmp 4]) Z [(0,_),(1,_)] Z<|Sr<|At Z Z<|Sr<|Zqm Z Z<|qad (qkY Z Z Z Z Z Z Z (hA.le (Lr D))) Z<|Zqm Z Z<|qad (qkY Z Z Z Z Z Z Z (hB.le (Lr D))) Z<|qht Z Z Z<|At Z Z<|Zo<|?_;exact rR [] L (.t1 Z) Z (Lr D) fun _ hS2=>⟨rfl,rfl⟩
def Cz8{p:Prop} (h:p:=by
 exact ⟨by simp only [qbP,qbI] at *;grind,rfl⟩):p:=h
def qtv(D:Nat)(L:Hl)(s:World)(t:Tab)(A:Option Addr)(n c:Nat)(hA:Inss s A n c t.ins)(m:Mst)(Ax Bx Ox:Option Addr)(nAx cAx nBx cBx nOx cOx:Nat)(hAx:Wds s Ax nAx cAx m.cells)(hBx:Bts s Bx nBx cBx m.input)(hOx:Bts s Ox nOx cOx m.output):AC prog D 89 [.agg #[.int .i64 t.cells,.slice A n c],.agg #[.slice Ax nAx cAx,.int .u32 m.r0,.int .u32 m.r1,.int .u32 m.r2,.int .u32 m.r3,.int .u32 m.r4,.slice Bx nBx cBx,.slice Ox nOx cOx,.int .i64 m.stop,.int .u32 m.code]] L s fun v L' _=>v=.agg #[.int .i64 (qbI t m).1,.int .i64 (qbI t m).2]∧L=L':=by
 have hn1:=hAx.1;have hn2:=hBx.1;have hn3:=hOx.1;have hF:=qiN t;refine qae (fn:=f89) qav func89 V Z ntmps89 Z (rs:=[.cell 4 27]) Z [(0,_),(1,_)] Z<|Sr<|qay Z Z fun β1 s1 h1=>qay Z Z fun β2 s2 h2=>qag Z [_,_] Z Z fun β3 s3 h3=>Nt<|Zs<|Sr<|qad (qao 2 [_,_] Z Z Z Z Z) Z<|Je Z Z Z (qe8 D _ _ _ _ _ _ (hA.le (h1.t h2|>.t h3))) fun s4 h4=>qag Z [_,_] Z Z fun β5 s5 h5=>Wt 0 [_,_] Y9<|Nt<|Sr<|qad (qao 0 [_,_] Z Z Z Z Z) Z<|qad (qak [] [_,_] Z Z Z Z Z Z) Z<|qad (qb9 Z Z (qbL _ _ _ _)) Z<|Nt<|?_;have e5:=h1.t h2|>.t h3|>.t h4|>.t h5;refine qaM Z ?_ ?_<;>intro c6;·refine Sr<|qad (qao 0 [_,_] Z Z Z Z Z) Z<|Wt 1 [_,_] Y9<|Nt<|Zo<|Zu<|?_;exact rR [_,_,_,_] L (.agg (us:=[_,_]) 1 Z Z Z Z Z (.nil)) Z e5 fun _ hS2=>Cz8
 refine Zk<|Zt<|Zs<|Zp<|Sr<|W0 Y5<|Wl 2 Y6<|Ws Y4<|W0 Y5<|Wl 3 Y6<|qcb Z Z Z<|At Z Z<|?_;refine qaM Z ?_ ?_<;>intro c7;·refine Sr<|Je Z Z Z (qby D _ _ _ _) fun s8 h8=>Wt 1 [_,_] Y9<|Nt<|Zo<|Zc<|Zu<|?_;exact rR [_,_,_,_] L (.agg (us:=[_,_]) 1 Z Z Z Z Z (.nil)) Z (e5.t h8) fun _ hS2=>Cz8
 refine Sr<|Wb Y5<|Wl 2 Y6<|Ws Y4<|qbl Z Z Z<|Zqm Z Z<|?_;refine qai (t:=25) Z ?_ ?_<;>intro c9;·refine Wf Y4<|Wf Y4<|Wf Y4<|Wf Y4<|ZqT Z Z Z<|At Z Z<|Zy Z<|Sr<|Je Z Z Z (qby D _ _ _ _) fun s10 h10=>Wt 1 [_,_] Y9<|Nt<|Zo<|Zc<|Zu<|?_;exact rR [_,_,_,_] L (.agg (us:=[_,_]) 1 Z Z Z Z Z (.nil)) Z (e5.t h10) fun _ hS2=>Cz8
 refine Zg Z Z<|Wb Y5<|Zg Z Z<|Wl 2 Y6<|Zg Z Z<|Ws Y4<|Zg Z Z<|qbl Z Z Z<|ZqF Z Z Z<|At Z Z<|?_;refine qaa Z ?_ ?_<;>intro c11;·refine Sr<|Je Z Z Z (qby D _ _ _ _) fun s12 h12=>Wt 1 [_,_] Y9<|Nt<|Zo<|Zc<|Zu<|?_;exact rR [_,_,_,_] L (.agg (us:=[_,_]) 1 Z Z Z Z Z (.nil)) Z (e5.t h12) fun _ hS2=>Cz8
 refine Sr<|Wb Y5<|Wl 2 Y6<|qa8 Z Z Z<|Zqm Z Z<|?_;refine qai (t:=36) Z ?_ ?_<;>intro c13;·refine Wf Y4<|Wf Y4<|Wf Y4<|ZqT Z Z Z<|At Z Z<|Zy Z<|Sr<|Je Z Z Z (qby D _ _ _ _) fun s14 h14=>Wt 1 [_,_] Y9<|Nt<|Zo<|Zc<|Zu<|?_;exact rR [_,_,_,_] L (.agg (us:=[_,_]) 1 Z Z Z Z Z (.nil)) Z (e5.t h14) fun _ hS2=>Cz8
 refine Zg Z Z<|Wb Y5<|Zg Z Z<|Wl 2 Y6<|Zg Z Z<|qbl Z Z Z<|ZqF Z Z Z<|At Z Z<|?_;refine qaa Z ?_ ?_<;>intro c15;·refine Sr<|Je Z Z Z (qby D _ _ _ _) fun s16 h16=>Wt 1 [_,_] Y9<|Nt<|Zo<|Zc<|Zu<|?_;exact rR [_,_,_,_] L (.agg (us:=[_,_]) 1 Z Z Z Z Z (.nil)) Z (e5.t h16) fun _ hS2=>Cz8
 refine Sr<|Wb Y5<|Wl 2 Y6<|qcb Z Z Z<|Zqm Z Z<|?_;refine qaI (t:=46) Z ?_ ?_<;>intro c17
 ·refine Zg Z Z<|Wb Y5<|Zg Z Z<|Wl 2 Y6<|Zg Z Z<|qcb Z Z Z<|ZqT Z Z Z<|At Z Z<|?_;refine qaM Z ?_ ?_<;>intro c18;·refine Sr<|Je Z Z Z (qby D _ _ _ _) fun s19 h19=>Wt 1 [_,_] Y9<|Nt<|Zo<|Zc<|Zu<|?_;exact rR [_,_,_,_] L (.agg (us:=[_,_]) 1 Z Z Z Z Z (.nil)) Z (e5.t h19) fun _ hS2=>Cz8
  refine Zk<|Zb<|Zt<|Sr<|qad (qak [] [_,_] Z Z Z Z Z Z) Z<|Wt 1 [_,_] Y9<|Nt<|Zo<|?_;exact rR [_,_,_,_] L (.agg (us:=[_,_]) 1 Z Z Z Z Z (.nil)) Z e5 fun _ hS2=>Cz8
 refine Wf Y4<|Wf Y4<|Wf Y4<|ZqF Z Z Z<|At Z Z<|Zz Z<|Zk<|Zb<|Zt<|Sr<|qad (qak [] [_,_] Z Z Z Z Z Z) Z<|Wt 1 [_,_] Y9<|Nt<|Zo<|?_;exact rR [_,_,_,_] L (.agg (us:=[_,_]) 1 Z Z Z Z Z (.nil)) Z e5 fun _ hS2=>Cz8
end Go.Proofs.YtflplmcjbppfcaaGreatDoor
namespace Go.FL
open Go Go.RowKit
section
variable{P:Program}{D:Nat}{L:Hl}{s:World}
def AC.pub{f:FuncId}{args:List Value}{R:Value→Hl→World→Prop}(h:AC P D f args L s (fun v L' s'=>∃ M',L'=M'++L∧R v M' s')) :
  AC P D f args L s (fun v L' s'=>L=L'∧∃ M' s1,R v M' s1∧Le D s1 s'∧∀ b zs t,(b,cb zs t)∈M'→CellsAt s' b 0 zs):=by
 refine ⟨h.1,fun ho=>(h.2 ho).mono ?_⟩;rintro e w' ⟨v,L',s',h1,rfl,h3,h4,M',rfl,h6⟩;obtain ⟨d1,d2,d3⟩:=qbn h3;refine ⟨v,L,fill M' s',h1,d1,d2,h4.trans d3,Z,M',s',h6,d3,fun b zs t hm j u hj=>?_⟩;rw [qcV h3.left hm,Nat.zero_add];exact hj
end
end Go.FL
namespace Go.Proofs.YtflplmcjbppfcaaGreatDoor
open Go Go.FL
def wv(l:List Int):List Value:=l.map (Value.int .u32)
def bv(l:List UInt8):List Value:=l.map fun x=>Value.int .u8 (x.toNat:Int)
def iv(l:List Int):List Value:=l.map (Value.int .i64)
def qcj(l:List Int):(wv l).length=l.length:=by simp [wv]
def qyx(l:List UInt8):(bv l).length=l.length:=by simp [bv]
def Wds.row{s:World}{A:Option Addr}{n c:Nat}{l:List Int}(h:Wds s A n c l):Row s A n 1 (wv l):=
 ⟨by simp [wv,h.1],fun u hu=>by simp [wv] at hu;obtain ⟨x,_,rfl⟩:=hu;rfl,fun j u hj=>by
  simp only [wv,List.getElem?_map] at hj;cases hx:l[j]? with
  | none=>simp [hx] at hj
  | some x=>
   simp [hx] at hj;subst hj;obtain ⟨b,off,cs,h1,h2,_,rfl,_⟩:=h.2.2.2 j x hx;exact ⟨b,off,h1,by simpa using h2 0 _ rfl⟩⟩
def Bts.row{s:World}{A:Option Addr}{n c:Nat}{l:List UInt8}(h:Bts s A n c l):Row s A n 1 (bv l):=
 ⟨by simp [bv,h.1],fun u hu=>by simp [bv] at hu;obtain ⟨x,_,rfl⟩:=hu;rfl,fun j u hj=>by
  simp only [bv,List.getElem?_map] at hj;cases hx:l[j]? with
  | none=>simp [hx] at hj
  | some x=>
   simp [hx] at hj;subst hj;obtain ⟨b,off,cs,h1,h2,_,rfl⟩:=h.2.2.2 j x hx;exact ⟨b,off,h1,by simpa using h2 0 _ rfl⟩⟩
def Bts.nil(s:World)(A:Option Addr)(c:Nat)(hc:c≤9223372036854775807):Bts s A 0 c []:=⟨rfl,Nat.zero_le _,hc,fun i x h=>by cases h⟩
def Wds.nil(s:World)(A:Option Addr)(c:Nat)(hc:c≤9223372036854775807):Wds s A 0 c []:=⟨rfl,Nat.zero_le _,hc,fun i x h=>by cases h⟩
def Own.slice{e sz:Nat}{A:Hl}{v:Value}{n:Nat}{xs:List Value}(h:FL.Own e sz A v n xs):∃ Ad c,v=.slice Ad n c∧n≤c∧c≤9223372036854775807:=by
 cases h with
 | nil=>exact ⟨none,0,rfl,Nat.le_refl _,by omega⟩
 | blk b cap n xs ys hn hc hnc hm=>exact ⟨_,cap,rfl,hnc,hm⟩
def Own.bts{e:Nat}{A:Hl}{Ad:Option Addr}{n c:Nat}{l:List UInt8}{s:World}(h:FL.Own e 1 A (.slice Ad n c) n (bv l))(hp:∀ b zs t,(b,cb zs t)∈A→CellsAt s b 0 zs):Bts s Ad n c l:=by
 generalize hv:Value.slice Ad n c=v at h;generalize hx:bv l=xs at h;cases h with
 | nil=>
  injection hv with e1 e2 e3;have:l=[]:=by cases l with
   | nil=>rfl
   | cons y l=>simp [bv] at hx
  subst this;subst e3;exact Bts.nil s Ad 0 O
 | blk b cap n xs ys hn hc hnc hm=>
  injection hv with e1 e2 e3;subst e1;subst e3;subst hx;refine ⟨by simpa [bv] using hn.symm,hnc,hm,fun i x hi=>⟨b,0,[.int .u8 (x.toNat:Int)],Z,fun j u hj=>?_,Z,Z⟩⟩;have hc:=hp b _ e Mc;cases j with
  | zero=>
   simp at hj;subst hj;have:=hc i (.int .u8 (x.toNat:Int)) (by rw [List.getElem?_append_left (by simp [bv];exact (List.getElem?_eq_some_iff.1 hi).1)];simp [bv,hi]);simpa using this
  | succ j=>simp at hj
def Own.wds{e:Nat}{A:Hl}{Ad:Option Addr}{n c:Nat}{l:List Int}{s:World}(h:FL.Own e 1 A (.slice Ad n c) n (wv l))(hu:∀ x∈l,U32 x)(hp:∀ b zs t,(b,cb zs t)∈A→CellsAt s b 0 zs):Wds s Ad n c l:=by
 generalize hv:Value.slice Ad n c=v at h;generalize hx:wv l=xs at h;cases h with
 | nil=>
  injection hv with e1 e2 e3;have:l=[]:=by cases l with
   | nil=>rfl
   | cons y l=>simp [wv] at hx
  subst this;subst e3;exact Wds.nil s Ad 0 O
 | blk b cap n xs ys hn hc hnc hm=>
  injection hv with e1 e2 e3;subst e1;subst e3;subst hx;refine ⟨by simpa [wv] using hn.symm,hnc,hm,fun i x hi=>⟨b,0,[.int .u32 x],Z,fun j u hj=>?_,Z,Z,hu x (List.mem_of_getElem? hi)⟩⟩;have hc:=hp b _ e Mc;cases j with
  | zero=>
   simp at hj;subst hj;have:=hc i (.int .u32 x) (by rw [List.getElem?_append_left (by simp [wv];exact (List.getElem?_eq_some_iff.1 hi).1)];simp [wv,hi]);simpa using this
  | succ j=>simp at hj
def Wds.u32{s:World}{A:Option Addr}{n c:Nat}{l:List Int}(h:Wds s A n c l):∀ x∈l,U32 x:=fun x hx=>by
 obtain ⟨i,hi⟩:=List.getElem?_of_mem hx;obtain ⟨b,off,cs,h1,h2,_,rfl,h4⟩:=h.2.2.2 i x hi;exact h4
def Bts.tail{s:World}{A:Option Addr}{n c:Nat}{x:UInt8}{l:List UInt8}(h:Bts s A n c (x::l)):Bts s (if c=1 then A else A.map (·.add (1 * 1))) (n - 1) (c - 1) l:=
 ⟨by have:=h.1;simp at this;omega,by have:=h.2.1;omega,by have:=h.2.2.1;omega,fun i y hi=>by
  obtain ⟨b,off,cs,h1,h2,h3,h4⟩:=h.2.2.2 (i+1) y (by simpa using hi);have hl:i < l.length:=(List.getElem?_eq_some_iff.1 hi).1;have hn:=h.1;simp at hn;have hc:=h.2.1;subst h1;refine ⟨b,off+1,cs,?_,?_,h3,h4⟩
  · rw [if_neg O];simp [add_lit]
  · rw [show off+1+i * 1=off+(i+1) * 1 by omega];exact h2⟩
def qA5(m:Mst)(i:Int):Int:=if i=0 then m.r0 else if i=1 then m.r1 else if i=2 then m.r2 else if i=3 then m.r3 else m.r4
def qf5(m:Mst)(i v:Int):Mst:={ m with r0:=if i=0 then v else m.r0,r1:=if i=1 then v else m.r1,r2:=if i=2 then v else m.r2,r3:=if i=3 then v else m.r3,r4:=if i=4 then v else m.r4 }
def qdj(m:Mst)(op:Int)(x:Tm):Int:=if x.kind=1 then qA5 m x.val else if x.kind=2 then op else x.val
def w32(x:Int):Int:=x % 4294967296
def comp(k x y:Int):Int:=
 if k=1 then w32 (x+y) else if k=2 then w32 (x - y) else if k=3 then w32 (x * y) else if k=4 then x / y else if k=5 then x % y
 else if k=6 then ((x.toNat &&& y.toNat:Nat):Int) else if k=7 then ((x.toNat ||| y.toNat:Nat):Int) else if k=8 then ((x.toNat ^^^ y.toNat:Nat):Int)
 else if k=9 then (((x.toNat <<< y.toNat) % 4294967296:Nat):Int) else if k=10 then ((x.toNat >>> y.toNat:Nat):Int)
 else if k=11 then (if x=y then 1 else 0) else if k=12 then (if x < y then 1 else 0) else x
def qcc(m:Mst)(a:Ac)(op:Int):Mst:=
 let x:=qdj m op a.x;let y:=qdj m op a.y
 if (a.kind=4∨a.kind=5)∧y=0 then { m with stop:=4 }
 else if (a.kind=13∨a.kind=14)∧(m.cells.length:Int)≤x then { m with stop:=3 }
 else if a.kind=16∧m.output.length=20000 then { m with stop:=5 }
 else if a.kind=13 then qf5 m a.tgt (m.cells.getD x.toNat 0)
 else if a.kind=14 then { m with cells:=m.cells.set x.toNat y }
 else if a.kind=15 then (match m.input with
  | []=>qf5 m a.tgt 4294967295
  | c::r=>{ qf5 m a.tgt (c.toNat:Int) with input:=r })
 else if a.kind=16 then { m with output:=m.output++[UInt8.ofNat (x.toNat % 256)] }
 else if a.kind=17∨(a.kind=18∧y=0) then { m with stop:=1,code:=x }
 else if a.kind≤12∨(a.kind=19∧y=0) then qf5 m a.tgt (comp a.kind x y)
 else m
def qcO(m:Mst)(op:Int):List Ac→Mst
 | []=>m
 | a::r=>if (qcc m a op).stop=0 then qcO (qcc m a op) op r else qcc m a op
def qin(ins:List Ins)(c:Int):Option Ins:=ins.find? fun x=>decide (x.code=c)
def qcZ(t:Tab)(m:Mst):Mst:=
 if (m.cells.length:Int)≤m.r4 then { m with stop:=3 }
 else match qin t.ins (m.cells.getD m.r4.toNat 0) with
  | none=>{ m with stop:=2 }
  | some x=>
   if x.operand then
    if m.r4+1=(m.cells.length:Int) then { m with stop:=3 } else qcO { m with r4:=m.r4+2 } (m.cells.getD (m.r4+1).toNat 0) x.acts
   else qcO { m with r4:=m.r4+1 } 0 x.acts
def qfN(t:Tab)(m:Mst):Nat→Mst×Nat
 | 0=>(m,0)
 | n+1=>if m.stop=0 then ((qfN t (qcZ t m) n).1,(qfN t (qcZ t m) n).2+1) else (m,0)
def qfb(ins:List Ins)(c:Int):Nat→Nat
 | 0=>0
 | k+1=>match ins[k]? with
  | some x=>if x.code=c then k+1 else qfb ins c k
  | none=>qfb ins c k
structure MOK(m:Mst):Prop where
 cells:m.cells.length≤65536
 wide:∀ x∈m.cells,U32 x
 u0:U32 m.r0
 u1:U32 m.r1
 u2:U32 m.r2
 u3:U32 m.r3
 u4:U32 m.r4
 output:m.output.length≤20000
 input:m.input.length≤400000
 code:U32 m.code
end Go.Proofs.YtflplmcjbppfcaaGreatDoor
namespace Go.FL
open Go Go.RowKit Go.Proofs.YtflplmcjbppfcaaGreatDoor
def qaz{P:Program}{TT:qa5}{D:Nat}{fr:Fr}{ty:Nat}{op:Op}{K:Hl}{s0:World}{v v':Value}(h:QE P TT D fr op ty K s0 v)(e:v=v'):QE P TT D fr op ty K s0 v':=e▸h
def qoN:(BinOp.and≠.eql∧BinOp.and≠.neq):=⟨(by intro h;cases h),(by intro h;cases h)⟩
def qrs:(BinOp.or≠.eql∧BinOp.or≠.neq):=⟨(by intro h;cases h),(by intro h;cases h)⟩
def qoQ:(BinOp.xor≠.eql∧BinOp.xor≠.neq):=⟨(by intro h;cases h),(by intro h;cases h)⟩
def qoO:(BinOp.shl≠.eql∧BinOp.shl≠.neq):=⟨(by intro h;cases h),(by intro h;cases h)⟩
def qoP:(BinOp.shr≠.eql∧BinOp.shr≠.neq):=⟨(by intro h;cases h),(by intro h;cases h)⟩
def qf1{x:Int}(h:U32 x):(BitVec.ofInt 32 x).toNat=x.toNat:=by
 obtain ⟨h1,h2⟩:=h;rw [BitVec.toNat_ofInt];omega
def qpY{n:Nat}(h:n < 4294967296):IntKind.u32.wrap (n:Int)=(n:Int):=by rw [IntKind.wrap_u32];omega
section
variable{P:Program}{t:Nat}{x y:Int}
def qph(hx:U32 x)(hy:U32 y)(w:World):(binOp .and t (.int .u32 x) (.int .u32 y)).run P w=.ok (.int .u32 ((x.toNat &&& y.toNat:Nat):Int)) w:=by
 have h:(BitVec.ofInt 32 x &&& BitVec.ofInt 32 y).toNat=x.toNat &&& y.toNat:=by rw [BitVec.toNat_and,qf1 hx,qf1 hy]
 have h2:x.toNat &&& y.toNat < 4294967296:=h▸(BitVec.ofInt 32 x &&& BitVec.ofInt 32 y).isLt;have h3:Op.intBits .and .u32 x y=pure (.int .u32 (IntKind.u32.wrap ((BitVec.ofInt 32 x &&& BitVec.ofInt 32 y).toNat:Int))):=rfl;simp only [binOp,h3,h,qpY h2];rfl
def qrR(hx:U32 x)(hy:U32 y)(w:World):(binOp .or t (.int .u32 x) (.int .u32 y)).run P w=.ok (.int .u32 ((x.toNat ||| y.toNat:Nat):Int)) w:=by
 have h:(BitVec.ofInt 32 x ||| BitVec.ofInt 32 y).toNat=x.toNat ||| y.toNat:=by rw [BitVec.toNat_or,qf1 hx,qf1 hy]
 have h2:x.toNat ||| y.toNat < 4294967296:=h▸(BitVec.ofInt 32 x ||| BitVec.ofInt 32 y).isLt
 have h3:Op.intBits .or .u32 x y=pure (.int .u32 (IntKind.u32.wrap ((BitVec.ofInt 32 x ||| BitVec.ofInt 32 y).toNat:Int))):=rfl;simp only [binOp,h3,h,qpY h2];rfl
def qpl(hx:U32 x)(hy:U32 y)(w:World):(binOp .xor t (.int .u32 x) (.int .u32 y)).run P w=.ok (.int .u32 ((x.toNat ^^^ y.toNat:Nat):Int)) w:=by
 have h:(BitVec.ofInt 32 x ^^^ BitVec.ofInt 32 y).toNat=x.toNat ^^^ y.toNat:=by rw [BitVec.toNat_xor,qf1 hx,qf1 hy]
 have h2:x.toNat ^^^ y.toNat < 4294967296:=h▸(BitVec.ofInt 32 x ^^^ BitVec.ofInt 32 y).isLt;have h3:Op.intBits .xor .u32 x y=pure (.int .u32 (IntKind.u32.wrap ((BitVec.ofInt 32 x ^^^ BitVec.ofInt 32 y).toNat:Int))):=rfl;simp only [binOp,h3,h,qpY h2];rfl
def qiP{n:Nat}(h:32≤n):(2:Nat) ^ n=4294967296 * 2 ^ (n - 32):=by
 rw [show n=32+(n - 32) by omega,Nat.pow_add];simp
def qwp(X Y:Nat):(X * 2 ^ min Y 32) % 4294967296=(X <<< Y) % 4294967296:=by
  rw [Nat.shiftLeft_eq];rcases Nat.le_total Y 32 with h|h
  · rw [Nat.min_eq_left h]
  · rw [Nat.min_eq_right h,qiP h]
    rw [show X * (4294967296 * 2 ^ (Y - 32))=4294967296 * (X * 2 ^ (Y - 32)) by rw [Nat.mul_left_comm]];omega
def qwq{X:Nat}(hX:X < 4294967296)(Y:Nat):X / 2 ^ min Y 32=X >>> Y:=by
  rw [Nat.shiftRight_eq_div_pow];rcases Nat.le_total Y 32 with h|h
  · rw [Nat.min_eq_left h]
  · rw [Nat.min_eq_right h,Nat.div_eq_of_lt O,Nat.div_eq_of_lt]
    have:(2:Nat) ^ 32≤2 ^ Y:=Nat.pow_le_pow_right O h;omega
def qpj(hx:U32 x)(hy:U32 y)(w:World):(binOp .shl t (.int .u32 x) (.int .u32 y)).run P w=.ok (.int .u32 (((x.toNat <<< y.toNat) % 4294967296:Nat):Int)) w:=by
 obtain ⟨X,rfl⟩:=Int.eq_ofNat_of_zero_le hx.1;obtain ⟨Y,rfl⟩:=Int.eq_ofNat_of_zero_le hy.1;have h3:Op.shift .shl .u32 (X:Int) .u32 (Y:Int)=pure (.int .u32 (IntKind.u32.wrap ((X:Int) * 2 ^ min Y 32))):=by
  unfold Op.shift;rw [if_neg O];rfl
 have h4:IntKind.u32.wrap ((X:Int) * 2 ^ min Y 32)=(((X <<< Y) % 4294967296:Nat):Int):=by
  rw [IntKind.wrap_u32,← qwp];have:((X * 2 ^ min Y 32:Nat):Int)=(X:Int) * 2 ^ min Y 32:=by push_cast;rfl
  rw [← this];omega
 simp only [binOp,h3,h4,Int.toNat_natCast];rfl
def qpk(hx:U32 x)(hy:U32 y)(w:World):(binOp .shr t (.int .u32 x) (.int .u32 y)).run P w=.ok (.int .u32 ((x.toNat >>> y.toNat:Nat):Int)) w:=by
 obtain ⟨X,rfl⟩:=Int.eq_ofNat_of_zero_le hx.1;obtain ⟨Y,rfl⟩:=Int.eq_ofNat_of_zero_le hy.1;have h3:Op.shift .shr .u32 (X:Int) .u32 (Y:Int)=pure (.int .u32 ((X:Int).fdiv (2 ^ min Y 32))):=by
  unfold Op.shift;rw [if_neg O];rfl
 have h4:(X:Int).fdiv (2 ^ min Y 32)=((X >>> Y:Nat):Int):=by
  rw [← qwq (by have:=hx.2;omega)];have:((2 ^ min Y 32:Nat):Int)=(2:Int) ^ min Y 32:=by push_cast;rfl
  rw [← this,Int.fdiv_eq_ediv_of_nonneg _ (Int.natCast_nonneg _)];rfl
 simp only [binOp,h3,h4,Int.toNat_natCast];rfl
end
end Go.FL
namespace Go.Proofs.YtflplmcjbppfcaaGreatDoor
open Go Go.FL
open Go.Proofs.Tryz
open Go.FL
attribute [local irreducible] JC JO JA JB qaZ qaL qb4 AC fill CellsAt QE Ev Mid
def qfL{a:Int}(h1:0≤a)(h2:a < 4294967296):IntKind.u32.wrap a=a:=by rw [IntKind.wrap_u32];omega
def qxJ(a:Int):IntKind.u32.wrap a=w32 a:=IntKind.wrap_u32 a
def divW{x y:Int}(hx:U32 x)(hy:U32 y):w32 (x.tdiv y)=x / y:=by
 obtain ⟨h1,h2⟩:=hx;obtain ⟨h3,h4⟩:=hy;rw [Int.tdiv_eq_ediv_of_nonneg h1];have h5:0≤x / y:=Int.ediv_nonneg h1 h3;have h6:x / y≤x:=Int.ediv_le_self _ h1;unfold w32;omega
def modW{x y:Int}(hx:U32 x):x.tmod y=x % y:=Int.tmod_eq_emod_of_nonneg hx.1
def quc(D:Nat)(L:Hl)(s:World)(b:Bool):AC prog D 190 [.bool b] L s fun v L' _=>v=.int .u32 (if b then 1 else 0)∧L=L':=by
 refine qae (fn:=f190) qav func190 V Z ntmps190 Z (rs:=[.tmp 2]) Z [(0,_)] Z<|Sr<|At Z Z<|Zs<|Sr<|Zqm Z Z<|Nt<|?_;refine qeN Z ?_ ?_<;>intro c1;·refine Sr<|At Z Z<|Zo<|Zu<|?_;exact rR [] L (.t1 Z) Z (Lr D) fun _ hS2=>⟨by simp [qbP, *],rfl⟩
 refine Zk<|Zt<|Sr<|At Z Z<|Zo<|?_;exact rR [] L (.t1 Z) Z (Lr D) fun _ hS2=>⟨by simp [qbP, *],rfl⟩
def Cz9{p:Prop} (h:p:=by
 refine ⟨?_,Z⟩;simp [qbP,comp,qxJ, *];done):p:=h
def qb5(D:Nat)(L:Hl)(s:World)(k:Int)(x y:Int)(hx:U32 x)(hy:U32 y)(hk:1≤k∧k≤12∧k≠4∧k≠5):AC prog D 161 [.int .i64 k,.int .u32 x,.int .u32 y] L s fun v L' _=>v=.int .u32 (comp k x y)∧L=L':=by
 refine qae (fn:=f161) qav func161 V Z ntmps161 Z (rs:=[.tmp 6]) Z [(0,_),(1,_),(2,_)] Z<|Sr<|At Z Z<|Zs<|Sr<|Zqm Z Z<|Nt<|Zp<|Sr<|qax Z Z Z<|At Z Z<|?_;refine qaa Z ?_ ?_<;>intro c1;·refine Sr<|Zqm Z Z<|Zqm Z Z<|qad (qkX Z Z) Z<|At Z Z<|Zo<|Zc<|Zu<|?_;exact rR [] L (.t1 Z) Z (Lr D) fun _ hS2=>Cz9
 refine Sr<|qax Z Z Z<|At Z Z<|?_;refine qaa Z ?_ ?_<;>intro c2;·refine Sr<|Zqm Z Z<|Zqm Z Z<|qad (qk2 Z Z) Z<|At Z Z<|Zo<|Zc<|Zu<|?_;exact rR [] L (.t1 Z) Z (Lr D) fun _ hS2=>Cz9
 refine Sr<|qax Z Z Z<|At Z Z<|?_;refine qaa Z ?_ ?_<;>intro c3;·refine Sr<|Zqm Z Z<|Zqm Z Z<|qad (qtI Z Z) Z<|At Z Z<|Zo<|Zc<|Zu<|?_;exact rR [] L (.t1 Z) Z (Lr D) fun _ hS2=>Cz9
 refine Sr<|qax Z Z Z<|At Z Z<|?_;refine qaa Z ?_ ?_<;>intro c4;·refine Sr<|Zqm Z Z<|Zqm Z Z<|qad (qiY Z Z qoN (qph hx hy)) Z<|At Z Z<|Zo<|Zc<|Zu<|?_;exact rR [] L (.t1 Z) Z (Lr D) fun _ hS2=>Cz9
 refine Sr<|qax Z Z Z<|At Z Z<|?_;refine qaa Z ?_ ?_<;>intro c5;·refine Sr<|Zqm Z Z<|Zqm Z Z<|qad (qiY Z Z qrs (qrR hx hy)) Z<|At Z Z<|Zo<|Zc<|Zu<|?_;exact rR [] L (.t1 Z) Z (Lr D) fun _ hS2=>Cz9
 refine Sr<|qax Z Z Z<|At Z Z<|?_;refine qaa Z ?_ ?_<;>intro c6;·refine Sr<|Zqm Z Z<|Zqm Z Z<|qad (qiY Z Z qoQ (qpl hx hy)) Z<|At Z Z<|Zo<|Zc<|Zu<|?_;exact rR [] L (.t1 Z) Z (Lr D) fun _ hS2=>Cz9
 refine Sr<|qax Z Z Z<|At Z Z<|?_;refine qaa Z ?_ ?_<;>intro c7;·refine Sr<|Zqm Z Z<|Zqm Z Z<|qad (qiY Z Z qoO (qpj hx hy)) Z<|At Z Z<|Zo<|Zc<|Zu<|?_;exact rR [] L (.t1 Z) Z (Lr D) fun _ hS2=>Cz9
 refine Sr<|qax Z Z Z<|At Z Z<|?_;refine qaa Z ?_ ?_<;>intro c8;·refine Sr<|Zqm Z Z<|Zqm Z Z<|qad (qiY Z Z qoP (qpk hx hy)) Z<|At Z Z<|Zo<|Zc<|Zu<|?_;exact rR [] L (.t1 Z) Z (Lr D) fun _ hS2=>Cz9
 refine Sr<|qax Z Z Z<|At Z Z<|?_;refine qaa Z ?_ ?_<;>intro c9;·refine Sr<|Zqm Z Z<|Zqm Z Z<|qax Z Z Z<|Je Z Z Z (quc D _ _ _) fun s10 h10=>At Z Z<|Zo<|Zc<|Zu<|?_;exact rR [] L (.t1 Z) Z h10 fun _ hS2=>Cz9
 refine Zk<|Zb<|Zt<|Sr<|Zqm Z Z<|Zqm Z Z<|qa8 Z Z Z<|Je Z Z Z (quc D _ _ _) fun s11 h11=>At Z Z<|Zo<|?_;refine rR [] L (.t1 Z) Z h11 fun _ hS2=>?_;refine ⟨?_,Z⟩;have h12:k=12:=by omega
 simp [qbP,comp,h12];done
end Go.Proofs.YtflplmcjbppfcaaGreatDoor
