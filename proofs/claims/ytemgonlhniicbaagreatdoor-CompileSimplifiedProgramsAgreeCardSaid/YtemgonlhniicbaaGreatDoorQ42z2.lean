/- Part 2. -/
import Derived.Test.YtemgonlhniicbaaGreatDoorQ42z1
set_option linter.unusedVariables false
set_option linter.defProp false
set_option linter.unusedSimpArgs false
set_option linter.unnecessarySimpa false
set_option maxRecDepth 100000
set_option maxHeartbeats 8000000
namespace Go.Proofs.YtemgonlhniicbaaGreatDoor
open Go Go.RowKit Go.Proofs.Tryz
def aC:=@List.nil_append
def aL:=@List.drop_eq_nil_of_le
def aZ:=@Int.eq_ofNat_of_zero_le
def bh:=@List.getElem?_of_mem
def db:=@Bool.or_eq_true
def dh:=@List.getElem?_eq_none
def dr:=@List.set_cons_succ
def dP:=@IntKind.wrap_u32
def dZ:=@Go.MapKept.run_getObj_map
def eb:=@List.mem_of_mem_take
def eh:=@List.drop_succ_cons
def ej:=@List.take_append_of_le_length
def eo:=@Go.MapKept.run_findKey
def eD:=@Bool.eq_false_iff
def eW:=@UInt8.toNat_ofNat'
def fc:=@List.set_eq_take_append_cons_drop
def fe:=@Nat.add_comm
def fg:=@Array.getElem?_modify
def fA:=@List.drop_append_of_le_length
def fJ:=@run_equalIn_int
def fN:=@List.take_succ_cons
def fR:=@List.map_map
def fY:=@Nat.ble_eq
def gj:=@Go.MapKept.run_setObj_map
def gr:=@List.ext_getElem?
def gB:=@Nat.lt_succ_iff_lt_or_eq
def gI:=@Int.ediv_le_self
def gL:=@List.map_set
def gR:=@run_equalIn_agg
def gS:=@Int.ediv_nonneg
variable{P:Program}{s s0 s':World}{l l1:List UInt8}{L K L' M:Hl}{af:Array Edge}{v zv z C:Value}{D n ty c e d off jd ck j t' n1 c1 i0 X:Nat}{iL:String}{Q:pS}{b i a k:Int}{A Ad Ax A':iE}{iI:List Oper}{x y:Operand}{ik:IntKind}{ti te:TI}{zs xs vs:iz}{r:kD}{os:List Nat}{dk:TypeDesc}{o w:Bool}
section
open Go.Proofs
def jV.nil:jV P []:=λ_ h=>by cases h
def jV.cons{x:Nat×TI}(h:x.2.ok P x.1)(k:jV P r):jV P (x::r):=λy hy=>by
 rcases aR.1 hy with rfl|hy
 . exact h
 . exact k y hy
def PU{p:Prop}(h:p:=by refine ⟨by first|trivial|kernel_rfl,by kernel_rfl,by first|rfl|kernel_rfl,by first|rfl|kernel_rfl,by decide,by first|exact λ_=>rfl|(intro h;cases h),by kernel_rfl,by kernel_rfl⟩):p:=h
noncomputable section
def nY(k:Nat):TypeDesc:=(Tryz.prog.underlying k).getD .bool
def GR:TI:=⟨.sc,.int .i64,1,8,[iB 0],[]⟩
def KM:GR.ok Tryz.prog 3:=⟨Tryz.underlying3,PU⟩
def ti4:TI:=⟨.sc,.bool,1,1,[.bool false],[]⟩
def Da:TI:=⟨.sc,.int .u8,1,1,[.int .u8 0],[]⟩
def ti7:TI:=⟨.st [0,1,2,3],nY 7,4,24,[iB 0,iB 0,.bool false,.int .u8 0],[1,1,1,1]⟩
def zM:TI:=⟨.sc,.string,1,16,[St []],[]⟩
def C9:TI:=⟨.sc,.int .u64,1,8,[.int .u64 0],[]⟩
def Lt:TI:=⟨.st [0,1],nY 13,2,24,[St [],.int .u64 0],[1,1]⟩
def Vu:TI:=⟨.sc,.pointer 392,1,8,[.pointer none],[]⟩
def Vv:TI:=⟨.sc,.pointer 395,1,8,[.pointer none],[]⟩
def Vw:TI:=⟨.sc,.pointer 402,1,8,[.pointer none],[]⟩
def LD:TI:=⟨.st [0],nY 18,1,8,[.pointer none],[1]⟩
def FA:TI:=⟨.sc,.int .i32,1,4,[.int .i32 0],[]⟩
def Vx:TI:=⟨.sl 84,.slice 84,1,24,[.slice none 0 0],[]⟩
def Vy:TI:=⟨.sl 64,.slice 64,1,24,[.slice none 0 0],[]⟩
def LP:TI:=⟨.st [0,1],nY 24,2,48,[.slice none 0 0,.slice none 0 0],[1,1]⟩
def Vz:TI:=⟨.sl 5,.slice 5,1,24,[.slice none 0 0],[]⟩
def FB:TI:=⟨.sl 34,.slice 34,1,24,[.slice none 0 0],[]⟩
def LS:TI:=⟨.st [0,1],nY 29,2,16,[iB 0,iB 0],[1,1]⟩
def pY:TI:=⟨.sc,.int .u32,1,4,[iJ 0],[]⟩
def qnm:pY.ok Tryz.prog 34:=⟨Tryz.underlying34,PU⟩
def L4:TI:=⟨.st [0,1,2,3],nY 35,4,48,[.slice none 0 0,iB 0,iJ 0,iB 0],[1,1,1,1]⟩
def VA:TI:=⟨.sl 111,.slice 111,1,24,[.slice none 0 0],[]⟩
def Mu:TI:=⟨.st [0,1],nY 43,2,32,[iB 0,.slice none 0 0],[1,1]⟩
def FC:TI:=⟨.st [0,1],nY 54,2,16,[iB 0,iB 0],[1,1]⟩
def qtx:FC.ok Tryz.prog 55:=⟨Tryz.underlying55,PU⟩
def VB:TI:=⟨.sl 72,.slice 72,1,24,[.slice none 0 0],[]⟩
def Mv:TI:=⟨.sl 9,.slice 9,1,24,[.slice none 0 0],[]⟩
def qty:Mv.ok Tryz.prog 61:=⟨Tryz.underlying61,PU⟩
def VC:TI:=⟨.sl 76,.slice 76,1,24,[.slice none 0 0],[]⟩
def Db:TI:=⟨.st [0,1,2,3],nY 63,4,88,[St [],.slice none 0 0,.slice none 0 0,.slice none 0 0],[1,1,1,1]⟩
def VD:TI:=⟨.sl 69,.slice 69,1,24,[.slice none 0 0],[]⟩
def FD:TI:=⟨.st [0,1,2,3,4],nY 68,5,64,[iB 0,iB 0,iJ 0,St [],.slice none 0 0],[1,1,1,1,1]⟩
def My:TI:=⟨.sl 3,.slice 3,1,24,[.slice none 0 0],[]⟩
def FE:TI:=⟨.st [0,1,2,3,4],nY 75,5,96,[iB 0,St [],.slice none 0 0,.slice none 0 0,.slice none 0 0],[1,1,1,1,1]⟩
def VF:TI:=⟨.sc,.pointer 82,1,8,[.pointer none],[]⟩
def VG:TI:=⟨.sl 28,.slice 28,1,24,[.slice none 0 0],[]⟩
def VH:TI:=⟨.sl 90,.slice 90,1,24,[.slice none 0 0],[]⟩
def Mz:TI:=⟨.st [0,1,2,3,4,5,6,7,8],nY 81,12,192,[.slice none 0 0,.slice none 0 0,.slice none 0 0,.slice none 0 0,iJ 0,iB 0,.slice none 0 0,iB 0,.slice none 0 0,iB 0,iJ 0,iB 0],[1,1,1,1,1,1,1,1,4]⟩
def Dd:TI:=⟨.st [0,1,2,3],nY 83,4,56,[iB 0,St [],iJ 0,.slice none 0 0],[1,1,1,1]⟩
def MA:TI:=⟨.st [0,2],nY 85,6,136,[.slice none 0 0,.slice none 0 0,St [],.slice none 0 0,.slice none 0 0,.slice none 0 0],[2,4]⟩
def VI:TI:=⟨.sl 160,.slice 160,1,24,[.slice none 0 0],[]⟩
def De:TI:=⟨.st [0,1],nY 89,2,32,[iB 0,.slice none 0 0],[1,1]⟩
def VJ:TI:=⟨.sc,.func #[3] #[] false,1,8,[.nilFunc],[]⟩
def VK:TI:=⟨.sc,.map 9 55,1,8,[.map none],[]⟩
def MD:TI:=⟨.st [0,2],nY 93,3,56,[.slice none 0 0,.slice none 0 0,.map none],[2,1]⟩
def VL:TI:=⟨.sl 4,.slice 4,1,24,[.slice none 0 0],[]⟩
def VM:TI:=⟨.ar 5 34,.array 5 34,5,20,[iJ 0,iJ 0,iJ 0,iJ 0,iJ 0],[]⟩
def D8:TI:=⟨.st [0,1,6,7,8,9],nY 100,10,112,[.slice none 0 0,iJ 0,iJ 0,iJ 0,iJ 0,iJ 0,.slice none 0 0,.slice none 0 0,iB 0,iJ 0],[1,5,1,1,1,1]⟩
def D9:TI:=⟨.st [0,1],nY 106,2,16,[iB 0,iJ 0],[1,1]⟩
def Lm:TI:=⟨.sl 115,.slice 115,1,24,[.slice none 0 0],[]⟩
def yL:TI:=⟨.st [0,1,2,3],nY 110,4,48,[St [],iJ 0,.bool false,.slice none 0 0],[1,1,1,1]⟩
def Lo:TI:=⟨.sl 107,.slice 107,1,24,[.slice none 0 0],[]⟩
def yM:TI:=⟨.st [0,1,2,4],nY 114,6,48,[iB 0,iB 0,iB 0,iJ 0,iB 0,iJ 0],[1,1,2,2]⟩
def Ea:TI:=⟨.st [0,3],nY 118,7,144,[.slice none 0 0,.slice none 0 0,.map none,St [],.slice none 0 0,.slice none 0 0,.slice none 0 0],[3,4]⟩
def Lp:TI:=⟨.sc,.pointer 130,1,8,[.pointer none],[]⟩
def Lq:TI:=⟨.sc,.map 9 3,1,8,[.map none],[]⟩
def Ls:TI:=⟨.sc,.pointer 126,1,8,[.pointer none],[]⟩
def Eb:TI:=⟨.st [0,1],nY 125,2,32,[.pointer none,.slice none 0 0],[1,1]⟩
def Ec:TI:=⟨.st [0,2],nY 127,3,40,[.pointer none,.slice none 0 0,iB 0],[2,1]⟩
def Ed:TI:=⟨.st [0,3,5,6,7,8,9,10,11],nY 129,12,160,[.pointer none,.slice none 0 0,iB 0,.slice none 0 0,.slice none 0 0,.map none,.map none,.map none,iB 0,iB 0,iB 0,.slice none 0 0],[3,2,1,1,1,1,1,1,1]⟩
def Lu:TI:=⟨.sc,.pointer 76,1,8,[.pointer none],[]⟩
def Lv:TI:=⟨.sc,.pointer 69,1,8,[.pointer none],[]⟩
def Ee:TI:=⟨.st [0,1,2],nY 145,3,24,[.pointer none,.pointer none,iB 0],[1,1,1]⟩
def Lw:TI:=⟨.sc,.pointer 158,1,8,[.pointer none],[]⟩
def Lx:TI:=⟨.sl 256,.slice 256,1,24,[.slice none 0 0],[]⟩
def Ly:TI:=⟨.sc,.map 9 34,1,8,[.map none],[]⟩
def Lz:TI:=⟨.sl 212,.slice 212,1,24,[.slice none 0 0],[]⟩
def Eh:TI:=⟨.st [0,2,3,4,5],nY 157,6,112,[iB 0,.slice none 0 0,.slice none 0 0,.slice none 0 0,.map none,.slice none 0 0],[2,1,1,1,1]⟩
def Ei:TI:=⟨.sc,.func #[78] #[3] false,1,8,[.nilFunc],[]⟩
def Ej:TI:=⟨.st [0,1,2],nY 167,3,32,[St [],iB 0,iB 0],[1,1,1]⟩
def LC:TI:=⟨.sc,.pointer 183,1,8,[.pointer none],[]⟩
def LF:TI:=⟨.ar 256 3,.array 256 3,256,2048,(List.replicate 256 (iB 0)),[]⟩
def LG:TI:=⟨.sc,.map 34 3,1,8,[.map none],[]⟩
def Ek:TI:=⟨.st [0,10,11,267,268],nY 182,269,2200,([.slice none 0 0,iJ 0,iJ 0,iJ 0,iJ 0,iJ 0,.slice none 0 0,.slice none 0 0,iB 0,iJ 0,.slice none 0 0]++(List.replicate 256 (iB 0)++[.map none,iJ 0])),[10,1,256,1,1]⟩
def LH:TI:=⟨.sc,.pointer 189,1,8,[.pointer none],[]⟩
def El:TI:=⟨.st [0],nY 188,1,8,[iB 0],[1]⟩
def LI:TI:=⟨.sc,.pointer 128,1,8,[.pointer none],[]⟩
def LJ:TI:=⟨.sc,.pointer 5,1,8,[.pointer none],[]⟩
def Em:TI:=⟨.st [0,1],nY 209,2,24,[St [],iJ 0],[1,1]⟩
def yN:TI:=⟨.st [0,1,2],nY 211,4,40,[iB 0,iB 0,St [],iJ 0],[1,1,2]⟩
def LK:TI:=⟨.sl 218,.slice 218,1,24,[.slice none 0 0],[]⟩
def En:TI:=⟨.sc,.func #[78] #[34] false,1,8,[.nilFunc],[]⟩
def LL:TI:=⟨.sc,.pointer 111,1,8,[.pointer none],[]⟩
def LN:TI:=⟨.sc,.pointer 115,1,8,[.pointer none],[]⟩
def LO:TI:=⟨.sc,.pointer 241,1,8,[.pointer none],[]⟩
def Eo:TI:=⟨.st [0],nY 240,2,32,[.pointer none,.slice none 0 0],[2]⟩
def LQ:TI:=⟨.sl 61,.slice 61,1,24,[.slice none 0 0],[]⟩
def Ep:TI:=⟨.st [0,1,2,3],nY 251,5,64,[St [],St [],.bool false,St [],iJ 0],[1,1,1,2]⟩
def yO:TI:=⟨.st [0,1],nY 255,2,24,[St [],iJ 0],[1,1]⟩
def LR:TI:=⟨.sl 62,.slice 62,1,24,[.slice none 0 0],[]⟩
def LU:TI:=⟨.sc,.pointer 3,1,8,[.pointer none],[]⟩
def LV:TI:=⟨.ar 24 5,.array 24 5,24,24,(List.replicate 24 (.int .u8 0)),[]⟩
def LW:TI:=⟨.sl 333,.slice 333,1,24,[.slice none 0 0],[]⟩
def Er:TI:=⟨.st [0,1],nY 332,2,16,[iB 0,iB 0],[1,1]⟩
def LX:TI:=⟨.sc,.pointer 305,1,8,[.pointer none],[]⟩
def LY:TI:=⟨.ar 256 5,.array 256 5,256,256,(List.replicate 256 (.int .u8 0)),[]⟩
def LZ:TI:=⟨.ar 20 263,.array 20 263,20,160,(List.replicate 20 (.int .u64 0)),[]⟩
def L3:TI:=⟨.ar 65 5,.array 65 5,65,65,(List.replicate 65 (.int .u8 0)),[]⟩
def L5:TI:=⟨.sc,.pointer 367,1,8,[.pointer none],[]⟩
def L7:TI:=⟨.sc,.map 3 61,1,8,[.map none],[]⟩
def Es:TI:=⟨.st [0,1],nY 359,2,2,[.int .u8 0,.int .u8 0],[1,1]⟩
def L8:TI:=⟨.ar 16 360,.array 16 360,32,32,(List.replicate 32 (.int .u8 0)),[]⟩
def L9:TI:=⟨.sl 370,.slice 370,1,24,[.slice none 0 0],[]⟩
def Ma:TI:=⟨.sl 373,.slice 373,1,24,[.slice none 0 0],[]⟩
def Et:TI:=⟨.st [0,1,2],nY 366,3,56,[.slice none 0 0,.slice none 0 0,iB 0],[1,1,1]⟩
def Mb:TI:=⟨.sc,.int .u16,1,2,[.int .u16 0],[]⟩
def Eu:TI:=⟨.st [0,1,2],nY 369,3,6,[.int .u16 0,.int .u16 0,.int .u16 0],[1,1,1]⟩
def Ew:TI:=⟨.st [0,1,2],nY 372,3,12,[iJ 0,iJ 0,iJ 0],[1,1,1]⟩
def Md:TI:=⟨.ar 32 5,.array 32 5,32,32,(List.replicate 32 (.int .u8 0)),[]⟩
def Me:TI:=⟨.ar 64 5,.array 64 5,64,64,(List.replicate 64 (.int .u8 0)),[]⟩
def Mh:TI:=⟨.sc,.pointer 386,1,8,[.pointer none],[]⟩
def Mm:TI:=⟨.sc,.pointer 370,1,8,[.pointer none],[]⟩
def Mp:TI:=⟨.sc,.pointer 373,1,8,[.pointer none],[]⟩
def Ey:TI:=⟨.st [0,1,2],nY 385,3,48,[St [],St [],.nilIface],[1,1,1]⟩
def Mt:TI:=⟨.sc,.pointer 390,1,8,[.pointer none],[]⟩
def Ez:TI:=⟨.st [0],nY 389,1,16,[St []],[1]⟩
def EA:TI:=⟨.st [0,1,2,3],nY 391,4,40,[.pointer none,.pointer none,.pointer none,St []],[1,1,1,1]⟩
def EB:TI:=⟨.st [0,1,2,3,4,5,6,7,8,9,10],nY 401,11,48,[.int .u64 0,.int .u64 0,iJ 0,.int .u8 0,.int .u8 0,.int .u8 0,.int .u8 0,.nilFunc,.pointer none,.int .i32 0,.int .i32 0],[1,1,1,1,1,1,1,1,1,1,1]⟩
def TT:kD:=[(2,GR),(3,GR),(4,ti4),(5,Da),(6,Da),(7,ti7),(8,ti7),(9,zM),(10,zM),(11,zM),(12,C9),(13,Lt),(14,Lt),(15,Vu),(16,Vv),(17,Vw),(18,LD),(19,LD),(21,FA),(22,Vx),(23,Vy),(24,LP),(25,LP),(26,Vz),(28,FB),(29,LS),(30,LS),(34,pY),(35,L4),(36,L4),(42,VA),(43,Mu),(44,Mu),(54,FC),(55,FC),(58,VB),(61,Mv),(62,VC),(63,Db),(64,Db),(67,VD),(68,FD),(69,FD),(72,My),(75,FE),(76,FE),(78,VF),(79,VG),(80,VH),(81,Mz),(82,Mz),(83,Dd),(84,Dd),(85,MA),(86,MA),(87,VI),(89,De),(90,De),(91,VJ),(92,VK),(93,MD),(94,MD),(96,VL),(99,VM),(100,D8),(101,D8),(106,D9),(107,D9),(109,Lm),(110,yL),(111,yL),(113,Lo),(114,yM),(115,yM),(118,Ea),(119,Ea),(122,Lp),(123,Lq),(124,Ls),(125,Eb),(126,Eb),(127,Ec),(128,Ec),(129,Ed),(130,Ed),(143,Lu),(144,Lv),(145,Ee),(146,Ee),(151,Lw),(154,Lx),(155,Ly),(156,Lz),(157,Eh),(158,Eh),(160,Ei),(167,Ej),(168,Ej),(178,LC),(180,LF),(181,LG),(182,Ek),(183,Ek),(187,LH),(188,El),(189,El),(193,LI),(199,LJ),(209,Em),(210,Em),(211,yN),(212,yN),(214,LK),(218,En),(225,C9),(231,LL),(235,LN),(239,LO),(240,Eo),(241,Eo),(247,LQ),(251,Ep),(252,Ep),(255,yO),(256,yO),(263,C9),(265,GR),(283,LR),(305,C9),(309,LU),(324,LV),(331,LW),(332,Er),(333,Er),(335,LX),(338,LY),(346,LZ),(347,L3),(353,L5),(358,L7),(359,Es),(360,Es),(361,L8),(364,L9),(365,Ma),(366,Et),(367,Et),(368,Mb),(369,Eu),(370,Eu),(372,Ew),(373,Ew),(375,Md),(376,Me),(377,GR),(379,Mh),(382,Mm),(383,Mp),(385,Ey),(386,Ey),(388,Mt),(389,Ez),(390,Ez),(391,EA),(392,EA),(396,Da),(397,Da),(399,FA),(400,FA),(401,EB),(402,EB)]
end
def tC{t:Nat}{x:TI}(h:P.underlying t=some x.desc)(k:jV P r)(b:x.kind.fits x.desc/\(P.info? t).map (λi=>(i.size,i.bytes,i.zero))=some (x.size,x.bytes,some x.zero)/\x.J.length=x.size/\x.J.all (·.oneCell')=true/\0 < x.size/\(uY x.kind=true->x.size=1) /\qrv P x.desc=true/\qpl P x.desc=x.fsz:=by refine ⟨by first|trivial|kernel_rfl,by kernel_rfl,by first|rfl|kernel_rfl,by first|rfl|kernel_rfl,by decide,by first|exact λ_=>rfl|(intro h;cases h),by kernel_rfl,by kernel_rfl⟩):jV P ((t,x)::r):=.cons ⟨h,b⟩ k
def jb:jV Tryz.prog TT:=by repeat (first|exact jV.nil|refine tC V ?_)
def jt:Tryz.prog.follows .mixedOrders=true:=by kernel_rfl
end
section
variable{α:Type}{k:Nat}
structure Tm where
 kind:Int
 val:Int
 deriving DecidableEq
structure Ac where
 kind:Int
 tgt:Int
 x:Tm
 y:Tm
 deriving DecidableEq
structure Ins where
 name:List UInt8
 code:Int
 I:Bool
 ad:List Ac
 deriving DecidableEq
structure oK where
 cells:Int
 U:List Ins
 deriving DecidableEq
def Sl(sz:Nat)(R:World->α->iz->Prop)(s:World)(A:iE)(n c:Nat)(l:List α):Prop:=
 n=l.length/\n<=c/\c<=9223372036854775807/\∀ i x,l[i]?=some x->∃ b off cs,A=some ⟨b,off,none⟩/\iy s b (off+i * sz) cs/\cs.length=sz/\R s x cs
def Sl.le{sz:Nat}{R:World->α->iz->Prop}{l:List α}(hR:∀ x cs,R s x cs->R s' x cs)(h:Sl sz R s A n c l)(hl:Le D s s'):Sl sz R s' A n c l:=
 ⟨h.1,h.2.1,h.2.2.1,λi x hi=>by
  obtain ⟨b,off,cs,h1,h2,h3,h4⟩:=h.2.2.2 i x hi;exact ⟨b,off,cs,h1,h2.le hl,h3,hR x cs h4⟩⟩
def iQ(x:Int):Prop:=0<=x/\x < 4294967296
def Ac.cs(a:Ac):iz:=[iB a.kind,iB a.tgt,iB a.x.kind,iJ a.x.val,iB a.y.kind,iJ a.y.val]
def qn(s:World)(A:iE)(n c:Nat)(l:List Ac):Prop:=Sl 6 (λ_ a cs=>cs=a.cs/\iQ a.x.val/\iQ a.y.val) s A n c l
def qn.le{l:List Ac}(h:qn s A n c l)(hl:Le D s s'):qn s' A n c l:=Sl.le (λ_ _ h=>h) h hl
def xj(s:World)(x:Ins)(cs:iz):Prop:=∃ A n c,cs=[St x.name,iJ x.code,.bool x.I,.slice A n c]/\qn s A n c x.ad/\x.name.length<=9223372036854775807/\iQ x.code
def ki(s:World)(A:iE)(n c:Nat)(l:List Ins):Prop:=Sl 4 xj s A n c l
def xj.le{x:Ins}{cs:iz}(h:xj s x cs)(hl:Le D s s'):xj s' x cs:=by
 obtain ⟨A,n,c,h1,h2,h3⟩:=h;exact ⟨A,n,c,h1,h2.le hl,h3⟩
def ki.le{l:List Ins}(h:ki s A n c l)(hl:Le D s s'):ki s' A n c l:=Sl.le (λ_ _ h=>h.le hl) h hl
def qn.at_{l:List Ac}(h:qn s A n c l)(hk:k < n):∃ b off a,A=some ⟨b,off,none⟩/\l[k]?=some a /\
  iy s b (off+k * 6) [iB a.kind,iB a.tgt,iB a.x.kind,iJ a.x.val,iB a.y.kind,iJ a.y.val]/\iQ a.x.val/\iQ a.y.val:=by
 have hl:k < l.length:=by rw [<- h.1];exact hk
 obtain ⟨b,off,cs,h1,h2,_,rfl,h5⟩:=h.2.2.2 k l[k] (ap hl);exact ⟨b,off,l[k],h1,ap hl,h2,h5⟩
def ki.at_{l:List Ins}(h:ki s A n c l)(hk:k < n):∃ b off x A' n' c',A=some ⟨b,off,none⟩/\l[k]?=some x /\
  iy s b (off+k * 4) [St x.name,iJ x.code,.bool x.I,.slice A' n' c']/\qn s A' n' c' x.ad/\x.name.length<=9223372036854775807/\iQ x.code:=by
 have hl:k < l.length:=by rw [<- h.1];exact hk
 obtain ⟨b,off,cs,h1,h2,_,A',n',c',rfl,h5,h6⟩:=h.2.2.2 k l[k] (ap hl);exact ⟨b,off,l[k],A',n',c',h1,ap hl,h2,h5,h6⟩
def Sl.take{sz:Nat}{R:World->α->iz->Prop}{l:List α}(h:Sl sz R s A n c l)(hk:k < n):Sl sz R s A k c (l.take k):=
 ⟨by have:=h.1;simp;omega,by have:=h.2.1;omega,h.2.2.1,λi x hi=>h.2.2.2 i x (by
  rw [List.getElem?_take] at hi;split at hi
  . exact hi
  . cases hi)⟩
def ki.take{l:List Ins}(h:ki s A n c l)(hk:k < n):ki s A k c (l.take k):=Sl.take h hk
abbrev iG:=List Int
def lX(s:World)(A:iE)(n c:Nat)(l:iG):Prop:=Sl 1 (λ_ x cs=>cs=[iJ x]/\iQ x) s A n c l
def lP(s:World)(A:iE)(n c:Nat)(l:List UInt8):Prop:=Sl 1 (λ_ x cs=>cs=[.int .u8 (x.toNat:Int)]) s A n c l
def lX.le{l:iG}(h:lX s A n c l)(hl:Le D s s'):lX s' A n c l:=Sl.le (λ_ _ h=>h) h hl
def lP.le(h:lP s A n c l)(hl:Le D s s'):lP s' A n c l:=Sl.le (λ_ _ h=>h) h hl
def II{p:Prop} (h:p:=by
 have hl:k < l.length:=by rw [<- h.1];exact hk
 obtain ⟨b,off,cs,h1,h2,_,rfl,h4⟩:=h.2.2.2 k l[k] (ap hl);exact ⟨b,off,l[k],h1,ap hl,by simpa using h2,h4⟩):p:=h
def lX.at_{l:iG}(h:lX s A n c l)(hk:k < n):∃ b off x,A=some ⟨b,off,none⟩/\l[k]?=some x/\iy s b (off+k) [iJ x]/\iQ x:=by
 exact II
def lP.at_(h:lP s A n c l)(hk:k < n):∃ b off x,A=some ⟨b,off,none⟩/\l[k]?=some x/\iy s b (off+k) [.int .u8 (x.toNat:Int)]:=by
 have hl:k < l.length:=by rw [<- h.1];exact hk
 obtain ⟨b,off,cs,h1,h2,_,rfl⟩:=h.2.2.2 k l[k] (ap hl);exact ⟨b,off,l[k],h1,ap hl,by simpa using h2⟩
structure lH where
 cells:iG
 r0:Int
 r1:Int
 r2:Int
 r3:Int
 r4:Int
 aa:List UInt8
 output:List UInt8
 stop:Int
 code:Int
 deriving DecidableEq
theorem Dq{p:Nat->α->Prop}{l:List α}{a:α}(h:∀ i b,i < k->l[i]?=some b->p i b)(hk:l[k]?=some a)(ha:p k a):∀ i b,i < k+1->l[i]?=some b->p i b:=by grind
def vc(c:UInt8):Bool:=decide (97<=c.toNat) && decide (c.toNat<=122)
def un(c:UInt8):Bool:=decide (48<=c.toNat) && decide (c.toNat<=57)
def uH(i:Nat)(c:UInt8):Bool:=vc c || (un c && decide (i≠0))
def tF(i:Nat):List UInt8->Bool
 | []=>true
 | c::r=>uH i c && tF (i+1) r
def ZV(l:List UInt8)(i:Nat):tF i l=true↔∀ j c,l[j]?=some c->uH (i+j) c=true:=by
  induction l generalizing i with
  | nil=>simp [tF]
  | cons c r ih=>
    simp only [tF,aA,ih];constructor
    . rintro ⟨h1,h2⟩ j d hj
      cases j with
      | zero=>simp at hj;subst hj;exact h1
      | succ j=>simp at hj;have:=h2 j d hj;rwa [dA,fe 1 j] at this
    . intro h
      exact ⟨by simpa using h 0 c Ξ,λj d hj=>by have:=h (j+1) d Q18;rwa [dA,fe 1 j]⟩
def qq9(h:∀ i c,i < l.length->l[i]?=some c->uH i c=true):tF 0 l=true:=
 (ZV l 0).2 λj c hj=>by
  have hl:j < l.length:=(al.1 hj).1;simpa using h j c hl hj
def qrb{c:UInt8}(hk:l[k]?=some c)(h:uH k c=false):tF 0 l=false:=by
 cases hb:tF 0 l with
 | false=>rfl
 | true=>have:=(ZV l 0).1 hb k c hk;simp at this;rw [this] at h;cases h
def od(l:List UInt8):Bool:=decide (l≠[]) && decide (l.length<=6) && tF 0 l
def GO(l:List UInt8):Bool:=od l && decide (l≠[119,111,114,100]) && decide (l≠[115,112,97,99,101])
def CQ:iG->Int
 | []=>0
 | c::r=>if c≠0 then c else CQ r
def qmX{f:α->Int}{l:List α}{a:α}(h:∀ i b,i < k->l[i]?=some b->f b=0)(hk:l[k]?=some a)(ha:f a≠0):CQ (l.map f)=f a:=by
 induction l generalizing k with
 | nil=>simp at hk
 | cons b r ih=>
  cases k with
  | zero=>simp at hk;subst hk;simp [CQ,ha]
  | succ k=>
   have h0:=h 0 b O Ξ;simp only [aN,CQ,h0,fM,gD,bY];exact ih (k:=k) (λi c hi hc=>h (i+1) c O Q19) (by simpa using hk)
def qlB{f:α->Int}{l:List α}(h:∀ i b,i < l.length->l[i]?=some b->f b=0):CQ (l.map f)=0:=by
 induction l with
 | nil=>rfl
 | cons b r ih=>
  have h0:=h 0 b Ξ Ξ;simp only [aN,CQ,h0,fM,gD,bY];exact ih λi c hi hc=>h (i+1) c Q6 Q19
def Am(f:Nat->Int):Nat->Nat->Int×Int
 | 0,_=>(0,0)
 | m+1,k=>if f k≠0 then (f k,(k:Int)) else Am f m (k+1)
def Z2{f:Nat->Int}{m:Nat}(h:∀ i,j<=i->i < k->f i=0)(hj:j<=k)(hk:f k≠0)(hm:k < j+m):Am f m j=(f k,(k:Int)):=by
  induction m generalizing j with
  | zero=>omega
  | succ m ih=>
    by_cases he:j=k
    . subst he;simp [Am,hk]
    . have h0:=h j (ay _) O
      simp only [Am,h0,fM,gD,bY];exact ih (λi h1 h2=>h i O h2) O O
def qj6{f:Nat->Int}{m:Nat}(h:∀ i,j<=i->i < j+m->f i=0):Am f m j=(0,0):=by
 induction m generalizing j with
 | zero=>rfl
 | succ m ih=>
  have h0:=h j (ay _) O;simp only [Am,h0,fM,gD,bY];exact ih λi h1 h2=>h i O O
def PO(k:Int):Bool:=!(decide (k=14) || decide (k=18) || decide (k=16) || decide (k=17))
def Sm(k:Int):Bool:=!(decide (k=15))
def Sn(k:Int):Bool:=!(decide (k=16) || decide (k=17) || decide (k=15) || decide (k=0) || decide (k=13))
def GL(t:Tm)(u o:Bool):Bool:=if u then (decide (t.kind=0) || decide (t.kind=1) && decide (t.val<=4) || decide (t.kind=2) && decide (t.val=0) && o) else decide (t.kind=0) && decide (t.val=0)
def Fh(a:Ac)(o:Bool):Int:=
 if a.kind < 0\/20<=a.kind then 5 else if a.tgt < 0\/4 < a.tgt then 4
 else if (!PO a.kind && decide (a.tgt≠0)) || !GL a.x (Sm a.kind) o || !GL a.y (Sn a.kind) o then 6 else 0
def zu(x:Ins):Int:=if GO x.name=false then 7 else if 8 < x.ad.length then 2 else CQ (x.ad.map λa=>Fh a x.I)
def Gv(x y:Ins):Bool:=decide (x.name=y.name) || decide (x.code=y.code)
def j6{α:Type}(p:α->Bool):List α->Nat->Int
 | [],_=>-1
 | x::r,k=>if p x then (k:Int) else j6 p r (k+1)
def F8{p:α->Bool}{l:List α}{a:α}(h:∀ i b,i < k->l[i]?=some b->p b=false)(hk:l[k]?=some a)(ha:p a=true):j6 p l j=(j+k:Nat):=by
 induction l generalizing k j with
 | nil=>simp at hk
 | cons b r ih=>
  cases k with
  | zero=>simp at hk;subst hk;simp [j6,ha]
  | succ k=>
   have h0:=h 0 b O Ξ;simp only [j6,h0,dq,bY];rw [ih (k:=k) (λi c hi hc=>h (i+1) c O Q19) (by simpa using hk)];congr 1;omega
def Tj{p:α->Bool}{l:List α}(h:∀ i b,i < l.length->l[i]?=some b->p b=false):j6 p l j=-1:=by
 induction l generalizing j with
 | nil=>rfl
 | cons b r ih=>
  have h0:=h 0 b Ξ Ξ;simp only [j6,h0,dq,bY];exact ih λi c hi hc=>h (i+1) c Q6 Q19
theorem U_{α:Type}(p:α->Bool)(l:List α)(j:Nat):decide (0<=j6 p l j)=l.any p:=by
 induction l generalizing j with
 | nil=>simp [j6]
 | cons b r ih=>
  by_cases hb:p b=true
  . simp [j6,hb]
  . simp only [j6,hb];simpa [hb] using ih (j+1)
def BF(l:List Ins)(k:Nat):Int:=match l[k]? with
 | none=>0
 | some x=>if zu x≠0 then zu x else if (l.take k).any (Gv x) then 8 else 0
def o5(t:oK):Int×Int:=
 if t.cells < 1\/65536 < t.cells then (4,-1) else if 64 < t.U.length then (2,-1) else Am (BF t.U) t.U.length 0
def OT{t:Nat}(h:ti.ok P t)(hk:uY ti.kind=true)(w:World):(isAgg t).run P w=.ok false w:=by rw [NF h,hk];rfl
def qu2(d:Nat)(a b c e:Int)(w:World):(Op.equalIn (d+2) 107 (.agg #[iB a,iJ b]) (.agg #[iB c,iJ e])).run prog w=.ok (decide (a=c) && decide (b=e)) w:=by
 rw [gR w (d+1) 107 _ _ V V];simp only [Program.fieldsOf,underlying107,Op.eqFields,part];simp [OT KM rfl,OT qnm rfl,fJ w d 3 .i64 .i64 _ _ underlying3,fJ w d 34 .u32 .u32 _ _ underlying34];by_cases h1:a=c<;>by_cases h2:b=e<;>simp [h1,h2]
def qHJ{c d:Int}:HF prog 107 [iB a,iJ b] [iB c,iJ d] (decide (a=c) && decide (b=d)):=⟨V,λw=>qu2 9998 a b c d w⟩
def sp{c d:Int}:HF prog 30 [iB a,iB b] [iB c,iB d] (decide (a=c/\b=d)):=⟨V,λw=>by
 show (Op.equalIn (9998+2) 30 _ _).run prog w=_;rw [gR w 9999 30 _ _ V V];simp only [Program.fieldsOf,underlying30,Op.eqFields,part];simp [OT KM rfl,fJ w 9998 3 .i64 .i64 _ _ underlying3];by_cases h1:a=c<;>by_cases h2:b=d<;>simp [h1,h2]⟩
end
variable{m:lH}{sm:iG}
section
variable{t b f:Nat}{jN fr:Fr}{c:Int}{A B C:Prop}
structure jO(κ:Type) [DecidableEq κ] (d:TypeDesc) (kf:κ->Value):Prop where
 same:∀ a b,Instr.sameNow d (kf a) (kf b)=some (decide (a=b))
 bits:∀ a,Instr.sameBits 10000 (kf a) (kf a)=true
 check:∀ (P:Program) (w:World) (t:Nat) (e:Bool) (a:κ),P.underlying t=some d->(Instr.checkKey e 10000 t (kf a)).run P w=.ok () w
def jO.int(k:IntKind):jO Int (.int k) (Value.int k):=
 ⟨λa b=>by simp [Instr.sameNow];rfl,λa=>by simp [Instr.sameBits],λP w t e a h=>by unfold Instr.checkKey;simp [aQ h]⟩
def qzc(a b:List UInt8):((⟨a.toArray⟩:ByteArray) == ⟨b.toArray⟩)=decide (a=b):=by
 have e:((⟨a.toArray⟩:ByteArray) == ⟨b.toArray⟩)=(a.toArray == b.toArray):=rfl;rw [e];by_cases h:a=b<;>simp [h]
def jO.str:jO (List UInt8) .string (λl=>St l):=
 ⟨λa b=>by simp only [Instr.sameNow,qzc],λa=>by simp [Instr.sameBits,qzc],λP w t e a h=>by unfold Instr.checkKey;simp [aQ h]⟩
section
variable{κ:Type} [DecidableEq κ]  {kf:κ->Value}
def mp(kf:κ->Value)(es:List (κ×Value×Nat))(ck:Nat):Obj:=.map (es.map λx=>⟨kf x.1,x.2.1,x.2.2⟩).toArray ck
def kX:List (κ×Value×Nat)->κ->Option Value
 | [],_=>none
 | x::r,k=>if k=x.1 then some x.2.1 else kX r k
def vB(es:List (κ×Value×Nat))(k:κ)(v:Value)(ck:Nat):List (κ×Value×Nat):=match es with
 | []=>[(k,v,ck)]
 | x::r=>if k=x.1 then (x.1,v,x.2.2)::r else x::vB r k v ck
def NH(es:List (κ×Value×Nat))(k:κ)(v:Value)(ck:Nat)(j:κ):kX (vB es k v ck) j=if j=k then some v else kX es j:=by
  induction es with
  | nil=>simp [vB,kX]
  | cons x r ih=>
    simp only [vB];by_cases h:k=x.1
    . simp only [h,bV,kX]
      by_cases hj:j=x.1<;>simp [hj,h]
    . simp only [h,bY,kX,ih]
      by_cases hj:j=x.1
      . have:¬ x.1=k:=λe=>h e.symm
        simp [hj,this]
      . simp [hj]
def ZW(K:jO κ dk kf)(es:List (κ×Value×Nat))(k:κ)(i:Nat):
    (kX es k=none/\Instr.findNow dk (kf k) (es.map λx=>⟨kf x.1,x.2.1,x.2.2⟩) i=some none) \/
    ∃ j v b,kX es k=some v/\es[j]?=some (k,v,b)/\(∀ v' ck,vB es k v' ck=es.set j (k,v',b))/\Instr.findNow dk (kf k) (es.map λx=>⟨kf x.1,x.2.1,x.2.2⟩) i=some (some (i+j,v)):=by
  induction es generalizing i with
  | nil=>exact .inl ⟨rfl,rfl⟩
  | cons x r ih=>
    obtain ⟨a,v,b⟩:=x;simp only [aN,Instr.findNow,K.same];by_cases h:k=a
    . subst h
      exact .inr ⟨0,v,b,by simp [kX],rfl,λv' ck=>by simp [vB],Ξ⟩
    . rcases ih (i+1) with ⟨h1,h2⟩|⟨j,v',b',h1,h2,h3,h4⟩
      . exact .inl ⟨by simp [kX,h,h1],by simp [h,h2]⟩
      . exact .inr ⟨j+1,v',b',by simp [kX,h,h1],by simpa using h2,λv'' ck=>by simp [vB,h,h3],by simp [h,h4];omega⟩
variable{TT:kD}{fr:Fr}{ops:Array Oper}{op:Op}
def yB(P:Program)(t:Nat)(dk:TypeDesc)(z:Value):Prop:=∃ kt et,P.underlying t=some (.map kt et)/\P.underlying kt=some dk/\∀ w,(zeroValue et).run P w=.ok z w
def B'(KK:jO κ dk kf)(hm:yB P t dk z){es:List (κ×Value×Nat)}{w:World}(hb:w.heap[b]?=some (mp kf es ck))(k:κ)(c:Bool):
    (Instr.lookup t (.map (some b)) (kf k) c).run P w=.ok (if c then .tuple #[(kX es k).getD z,.bool (kX es k).isSome] else (kX es k).getD z) w:=by
  obtain ⟨kt,et,h1,h2,h3⟩:=hm;rcases ZW KK es k 0 with ⟨a1,a2⟩|⟨j,v,bn,a1,_,_,a2⟩
  . simp only [Instr.lookup,bA,aQ h1,aP,dZ hb,bG,KK.check P w kt _ k h2,eo h2 a2,h3,a1]
    cases c<;>rfl
  . simp only [Instr.lookup,bA,aQ h1,aP,dZ hb,bG,KK.check P w kt _ k h2,eo h2 a2,a1]
    cases c<;>rfl
def WN{p:Prop} (h:p:=by
 have hb:=qM ho (hK _ (ax hi));simp only [execOp,hρ x _ hx,hρ y _ hy,bA,B' KK hm hb,aP,bG];rfl):p:=h
def G_(KK:jO κ dk kf)(i:Nat)(hm:yB P t dk z){es:List (κ×Value×Nat)}{k:κ}(hx:lk fr x=some (.map (some b)))(hy:lk fr y=some (kf k))(hi:K[i]?=some (b,mp kf es ck)):
  QE P TT D fr (.lookup t x y false) ty K s0 ((kX es k).getD z):=λhT dst iL af g ρ hρ L s ho _ hK=>by
 exact WN
def m_(KK:jO κ dk kf)(i:Nat)(hm:yB P t dk z){es:List (κ×Value×Nat)}{k:κ}(hx:lk fr x=some (.map (some b)))(hy:lk fr y=some (kf k))(hi:K[i]?=some (b,mp kf es ck)):
  QE P TT D fr (.lookup t x y true) ty K s0 (.tuple #[(kX es k).getD z,.bool (kX es k).isSome]):=λhT dst iL af g ρ hρ L s ho _ hK=>by
 exact WN
omit [DecidableEq κ] in
def qnp(kf:κ->Value)(ho:jQ D L s):Ev P TT D fr (.makeMap t none) ty L s (.value (.map (some s.heap.size))) ((s.heap.size,mp kf [] 0)::L) (s.alloc (mJ D)):=λhT _ dst iL af g ρ _=>by
 obtain ⟨h1,h2,h3⟩:=qB ho (mp kf [] 0);refine ⟨?_,h2⟩;rw [<- h1];simp [execOp,Instr.makeMap,oB,mp]
omit [DecidableEq κ] in
def Gb(kf:κ->Value)(hd:Nat.blt d n=true)(k:∀ β s',Le D s s'->JO P TT D n ops Q iI ((d,.map (some β))::fr) ((β,mp kf [] 0)::L) s'):
  JO P TT D n ops Q (⟨some d,.makeMap t none,ty,iL,af,none⟩::iI) fr L s:=λhT a hr ho=>AH hd (qnp kf ho) (k _ _ (qB ho (mp kf [] 0)).2.2) hT a hr ho
def Uw(KK:jO κ dk kf){z:Operand}(i:Nat)(hm:yB P t dk zv){es:List (κ×Value×Nat)}{k:κ}(hx:lk fr x=some (.map (some b)))(hy:lk fr y=some (kf k))(hz:lk fr z=some v)(hi:L[i]?=some (b,mp kf es ck)):
    ∃ yZ,Ev P TT D fr (.mapUpdate t x y z) ty L s .skip (lV L i (mp kf (vB es k v ck) yZ)) s:=by
  obtain ⟨kt,et,h1,h2,h3⟩:=hm;rcases ZW KK es k 0 with ⟨a1,a2⟩|⟨j,v',bn,a1,a3,a4,a2⟩
  . refine ⟨ck+1,λhT ho dst iL af g ρ hρ=>⟨?_,DB ho _ _⟩⟩
    have hb:=qM ho (ax hi);have hms:vB es k v ck=es++[(k,v,ck)]:=by
      clear hi a2 hb;induction es with
      | nil=>rfl
      | cons x r ih=>
        simp only [kX] at a1;split at a1
        . cases a1
        . rename_i h;simp [vB,h,ih a1]
    rw [Dr ho hi];simp only [execOp,hρ x _ hx,hρ y _ hy,hρ z _ hz,Instr.mapUpdate,bA,aQ h1,aP,dZ hb,bG,KK.check P _ kt _ k h2,eo h2 a2,gj _ hb];simp [pz,mp,hms]
  . refine ⟨ck,λhT ho dst iL af g ρ hρ=>⟨?_,DB ho _ _⟩⟩
    have hb:=qM ho (ax hi);rw [Dr ho hi];have hkey:((((es.map λx=>(⟨kf x.1,x.2.1,x.2.2⟩:MapEntry)).toArray)[0+j]?.map (·.key)).getD (kf k))=kf k:=by simp [a3]
    simp only [execOp,hρ x _ hx,hρ y _ hy,hρ z _ hz,Instr.mapUpdate,bA,aQ h1,aP,dZ hb,bG,KK.check P _ kt _ k h2,eo h2 a2,hkey,Instr.keyThatStays,KK.bits,bV,gj _ hb,a4];have hmod:((es.map λx=>(⟨kf x.1,x.2.1,x.2.2⟩:MapEntry)).toArray).modify (0+j) (λe=>{ e with key:=kf k,val:=v })=((es.set j (k,v,bn)).map λx=>(⟨kf x.1,x.2.1,x.2.2⟩:MapEntry)).toArray:=by
      apply eU;intro q;rw [fg];by_cases hq:0+j=q
      . have:j=q:=O
        subst this;obtain ⟨kZ,_⟩:=al.1 a3;simp [kZ,a3];have:=al.1 a3;obtain ⟨_,e⟩:=this;simp [e]
      . have mL:j≠q:=O
        simp [hq,mL]
    rw [hmod];rfl
def Ui(KK:jO κ dk kf){t b:Nat}{z:Operand}(i:Nat)(hm:yB P t dk zv){es:List (κ×Value×Nat)}{k:κ}(hx:lk fr x=some (.map (some b)))(hy:lk fr y=some (kf k))(hz:lk fr z=some v)(hi:L[i]?=some (b,mp kf es ck))
  (kk:∀ yZ,JO P TT D n ops Q iI fr (lV L i (mp kf (vB es k v ck) yZ)) s):JO P TT D n ops Q (⟨none,.mapUpdate t x y z,ty,iL,af,none⟩::iI) fr L s:=by
 obtain ⟨yZ,h⟩:=Uw (TT:=TT) (D:=D) (s:=s) (ty:=ty) KK i hm hx hy hz hi;exact Pp h (kk yZ)
def KA{g:Option (Nat×Bool)}{iC:Array Bool}(KK:jO κ dk kf){t b:Nat}{z:Operand}(rO:ops[i0]?=some ⟨none,.mapUpdate t x y z,ty,iL,af,g⟩)(hg:sf ops fr g)(i:Nat)(hm:yB P t dk zv){es:List (κ×Value×Nat)}{k:κ}(hx:lk fr x=some (.map (some b)))(hy:lk fr y=some (kf k))(hz:lk fr z=some v)(hi:L[i]?=some (b,mp kf es ck))
  (AZ:∀ x∈K,x∈L.eraseIdx i) (kk:∀ yZ,JA P TT D n ops Q K s0 jd (iC.setIfInBounds i0 true) fr (lV L i (mp kf (vB es k v ck) yZ)) s):JB P TT D n ops Q K s0 jd iC i0 fr L s:=by
 obtain ⟨yZ,h⟩:=Uw (TT:=TT) (D:=D) (s:=s) (ty:=ty) KK i hm hx hy hz hi;exact YG rO hg h (Le.refl _) (λx hx _=>r_ (AZ x hx)) (kk yZ)
end
section
variable{TT:kD}{fr:Fr}
def CN{γ:Type}{c:Code}(X:Hl)(S:γ->Fr)(H:γ->Hl)(I:γ->World->Prop)(μ:γ->Nat)(mono:∀ g s s',I g s->Le D s s'->I g s')(g0:γ)
  (hS:iY fr (S g0)) (hL:L=X++H g0) (hI:I g0 s)
  (round:∀ g s,I g s->JC P TT D n (ma (λjN L' s'=>∃ g' A,iY jN (S g')/\L'=A++(X++H g')/\I g' s'/\μ g' < μ g) Q) c (S g) (X++H g) s) :
  JC P TT D n Q (.loop c) fr L s:=lJ S (λg=>X++H g) I μ mono g0 hS hL hI round
inductive AV(fr:Fr):Fr->Prop
 | refl:AV fr fr
 | push {d:Nat} {v:Value} {jN:Fr} (hd:(kQ fr d).isNone=true) (h:AV fr jN):AV fr ((d,v)::jN)
def Sb{p:Prop}(h:p:=by repeat (first|exact AV.refl|refine AV.push rfl ?_)):p:=h
def AV.keeps{fr:Fr}(h:AV fr jN):iY jN fr:=by
 induction h with
 | refl=>exact λ_ _ h=>h
 | @push d v jN hd _ ih=>
  intro t u hu;rw [vW];by_cases he:d=t
  . subst he;rw [hu] at hd;cases hd
  . rw [ak he];exact ih t u hu
def kB(D:Nat)(s:World)(fr:Fr)(L:Hl)(t:Nat)(p:Prop)[Decidable p]:Fr->Hl->World->Prop:=λjN L' s'=>Le D s s'/\L'=L/\iY jN ((t,.bool (decide p))::fr)
def kB.mk{p:Prop}[Decidable p]{b:Bool}(hl:Le D s s')(hS:AV fr jN)(ht:kQ jN t=some (.bool b))(hb:b=decide p):kB D s fr L t p jN L s':=by
 subst hb;exact ⟨hl,rfl,iY.cons ht hS.keeps⟩
def rW{x y:Code}(t:Nat)(p:Prop) [Decidable p] (h1:JC P TT D n (ma (kB D s fr L t p) Q) x fr L s)
  (h2:∀ s',Le D s s'->JC P TT D n Q y ((t,.bool (decide p))::fr) L s'):JC P TT D n Q (.seq x y) fr L s:=λht a hr ho=>
 iu (eS (h1 ht a hr ho) λe a w ⟨jN,L',s',k1,k2,k3,k4⟩=>by
  cases e with
  | normal=>
   subst k3;obtain ⟨j1,j2,j3⟩:=k4;subst j2;exact h2 s' j1 ht a (k1.sub j3) k2
  | _=>exact ⟨jN,L',s',k1,k2,k3,k4⟩)
def jP{γ:Type}(D:Nat)(s:World)(fr:Fr)(L:Hl)(new:γ->Fr)(B:γ->Hl)(I:γ->World->Prop):Fr->Hl->World->Prop:=λjN L' s'=>∃ g A,Le D s s'/\L'.Perm (A++(B g++L))/\I g s'/\iY jN (new g++fr)
def jP.mk{γ:Type}{new:γ->Fr}{B:γ->Hl}{I:γ->World->Prop}(g:γ)(A:Hl)(hl:Le D s s')(hK:iY jN (new g++fr))(hp:L'.Perm (A++(B g++L)))(hI:I g s'):jP D s fr L new B I jN L' s':=⟨g,A,hl,hp,hI,hK⟩
def Sw{p:Prop} (h:p:=by
 subst k3;obtain ⟨g,A,j0,j2,j3,j1⟩:=k4;rw [uc j2 _ k2];obtain ⟨e,d1,d2⟩:=tI (k2.perm j2);rw [e];exact h2 g _ (j0.trans d2) (mono _ _ _ j3 d2) ht a (k1.sub j1) d1):p:=h
def Kv{γ:Type}{x y:Code}(new:γ->Fr)(B:γ->Hl)(I:γ->World->Prop)(mono:∀ g s s',I g s->Le D s s'->I g s')(h1:JC P TT D n (ma (jP D s fr L new B I) Q) x fr L s)
  (h2:∀ g s',Le D s s'->I g s'->JC P TT D n Q y (new g++fr) (B g++L) s'):JC P TT D n Q (.seq x y) fr L s:=λht a hr ho=>
 iu (eS (h1 ht a hr ho) λe a w ⟨jN,L',s',k1,k2,k3,k4⟩=>by
  cases e with
  | normal=>
   exact Sw
  | _=>exact ⟨jN,L',s',k1,k2,k3,k4⟩)
def mI(M:Hl)(s:World):Prop:=∀ b zs t,(b,cb zs t)∈M->iy s b 0 zs
def mI.tail{x:Nat×Obj}(h:mI (x::M) s):mI M s:=λb zs t hm=>h b zs t (an _ hm)
def mI.left{A B:Hl}(h:mI (A++B) s):mI A s:=λb zs t hm=>h b zs t (aI _ hm)
def mI.right{A B:Hl}(h:mI (A++B) s):mI B s:=λb zs t hm=>h b zs t (aF _ hm)
def AC.pubW{f:FuncId}{args:iz}{R:Value->World->Prop}(h:AC P D f args L s (λv L' s'=>∃ M',L'=M'++L/\∀ s2,Le D s' s2->mI M' s2->R v s2)):
  AC P D f args L s (λv L' s'=>L=L'/\R v s'):=by
 refine ⟨h.1,λho=>(h.2 ho).mono ?_⟩;rintro e w' ⟨v,L',s',h1,rfl,h3,h4,M',rfl,h6⟩;obtain ⟨d1,d2,d3⟩:=tI h3;refine ⟨v,L,fill M' s',h1,d1,d2,h4.trans d3,Z,h6 _ d3 λb zs t hm j u hj=>?_⟩;rw [Ca h3.left hm,aX];exact hj
end
section
variable{TT:kD}{fr:Fr}{ops:Array Oper}
def kb(hY:lk fr x=some v/\Nat.blt d n=true)(k:JO P TT D n ops Q iI ((d,v)::fr) L s):JO P TT D n ops Q (⟨some d,.move x,ty,iL,af,none⟩::iI) fr L s:=have ⟨hx,hd⟩:=hY;iA (E3 hx) hd k
def mo(hY:lk fr x=some v/\Nat.blt d n=true)(k:JO P TT D n ops Q iI ((d,v)::fr) L s):JO P TT D n ops Q (⟨some d,.assign x,ty,iL,af,none⟩::iI) fr L s:=have ⟨hx,hd⟩:=hY;iA (Ny hx) hd k
def Zqx{i:Nat}(hx:lk fr x=some (.tuple vs.toArray))(hi:nth vs i=some v)(hd:Nat.blt d n=true)(k:JO P TT D n ops Q iI ((d,v)::fr) L s):JO P TT D n ops Q (⟨some d,.extract x i,ty,iL,af,none⟩::iI) fr L s:=iA (S6 hx hi) hd k
def ZqT{c:Operand}(hc:lk fr c=some (.bool true))(hx:lk fr x=some v)(hd:Nat.blt d n=true)(k:JO P TT D n ops Q iI ((d,v)::fr) L s):JO P TT D n ops Q (⟨some d,.pick c x y,ty,iL,af,none⟩::iI) fr L s:=iA (FU hc hx) hd k
def ZqF{c:Operand}(hc:lk fr c=some (.bool false))(hx:lk fr y=some v)(hd:Nat.blt d n=true)(k:JO P TT D n ops Q iI ((d,v)::fr) L s):JO P TT D n ops Q (⟨some d,.pick c x y,ty,iL,af,none⟩::iI) fr L s:=iA (FZ hc hx) hd k
def qaH{b:Int}(hx:lk fr x=some (.int ik a))(hy:lk fr y=some (.int ik b))(hd:Nat.blt d n=true)(k:JO P TT D n ops Q iI ((d,.bool (decide (a=b)))::fr) L s):JO P TT D n ops Q (⟨some d,.binOp .eql t x y t',ty,iL,af,none⟩::iI) fr L s:=iA (uj hx hy) hd k
def qeo{b:Int}(hx:lk fr x=some (.int ik a))(hy:lk fr y=some (.int ik b))(hd:Nat.blt d n=true)(k:JO P TT D n ops Q iI ((d,.bool (!decide (a=b)))::fr) L s):JO P TT D n ops Q (⟨some d,.binOp .neq t x y t',ty,iL,af,none⟩::iI) fr L s:=iA (rD hx hy) hd k
def qbq{b:Int}(hx:lk fr x=some (.int ik a))(hy:lk fr y=some (.int ik b))(hd:Nat.blt d n=true)(k:JO P TT D n ops Q iI ((d,.bool (decide (a < b)))::fr) L s):JO P TT D n ops Q (⟨some d,.binOp .lss t x y t',ty,iL,af,none⟩::iI) fr L s:=iA (Ru hx hy) hd k
def EP{b:Int}(hx:lk fr x=some (.int ik a))(hy:lk fr y=some (.int ik b))(hd:Nat.blt d n=true)(k:JO P TT D n ops Q iI ((d,.bool (decide (a<=b)))::fr) L s):JO P TT D n ops Q (⟨some d,.binOp .leq t x y t',ty,iL,af,none⟩::iI) fr L s:=iA (K8 hx hy) hd k
def qcS{b:Int}(hx:lk fr x=some (.int ik a))(hy:lk fr y=some (.int ik b))(hd:Nat.blt d n=true)(k:JO P TT D n ops Q iI ((d,.bool (decide (b < a)))::fr) L s):JO P TT D n ops Q (⟨some d,.binOp .gtr t x y t',ty,iL,af,none⟩::iI) fr L s:=iA (Rt hx hy) hd k
def va{b:Int}(hY:lk fr x=some (.int ik a)/\lk fr y=some (.int ik b)/\Nat.blt d n=true)(k:JO P TT D n ops Q iI ((d,.bool (decide (b<=a)))::fr) L s):JO P TT D n ops Q (⟨some d,.binOp .geq t x y t',ty,iL,af,none⟩::iI) fr L s:=have ⟨hx,hy,hd⟩:=hY;iA (PB hx hy) hd k
def uZ{a b:List UInt8}(hY:lk fr x=some (St a)/\lk fr y=some (St b)/\Nat.blt d n=true)(k:JO P TT D n ops Q iI ((d,.bool (decide (a=b)))::fr) L s):JO P TT D n ops Q (⟨some d,.binOp .eql t x y t',ty,iL,af,none⟩::iI) fr L s:=have ⟨hx,hy,hd⟩:=hY;iA (qGF hx hy) hd k
def JX{a b:List UInt8}(hx:lk fr x=some (St a))(hy:lk fr y=some (St b))(hd:Nat.blt d n=true)(k:JO P TT D n ops Q iI ((d,.bool (!decide (a=b)))::fr) L s):JO P TT D n ops Q (⟨some d,.binOp .neq t x y t',ty,iL,af,none⟩::iI) fr L s:=iA (KO hx hy) hd k
def AM(hx:lk fr x=some (.bool true))(hd:Nat.blt d n=true)(k:JO P TT D n ops Q iI ((d,.bool false)::fr) L s):JO P TT D n ops Q (⟨some d,.unOp .not t x,ty,iL,af,none⟩::iI) fr L s:=iA (qAR hx) hd k
def Nk(hx:lk fr x=some (.bool false))(hd:Nat.blt d n=true)(k:JO P TT D n ops Q iI ((d,.bool true)::fr) L s):JO P TT D n ops Q (⟨some d,.unOp .not t x,ty,iL,af,none⟩::iI) fr L s:=iA (qAQ hx) hd k
def qda{b:Bool}(hx:lk fr x=some (.bool b))(hd:Nat.blt d n=true)(k:JO P TT D n ops Q iI ((d,.bool (!b))::fr) L s):JO P TT D n ops Q (⟨some d,.unOp .not t x,ty,iL,af,none⟩::iI) fr L s:=iA (O0 hx) hd k
def QB{A:iE}{m c:Nat}(hx:lk fr x=some (.slice A m c))(ht:jz TT t=some ti)(hk:ti.kind=.sl e)(hd:Nat.blt d n=true)(k:JO P TT D n ops Q iI ((d,iB (m:Int))::fr) L s):JO P TT D n ops Q (⟨some d,.call { callee:=.builtin .len,args:=#[x],argTypes:=#[t] },ty,iL,af,none⟩::iI) fr L s:=iA (S5 hx ht hk) hd k
def Ws{A:iE}{m c:Nat}(hY:(lk fr x=some (.slice A m c))/\(jz TT t=some ti)/\(ti.kind=.sl e)/\(Nat.blt d n=true))(k:JO P TT D n ops Q iI ((d,iB (m:Int))::fr) L s):JO P TT D n ops Q (⟨some d,.call { callee:=.builtin .len,args:=#[x],argTypes:=#[t] },ty,iL,af,none⟩::iI) fr L s:=QB hY.1 hY.2.1 hY.2.2.1 hY.2.2.2 k
def DT(hx:lk fr x=some (St l))(ht:jz TT t=some ti)(hk:ti.desc=.string)(hd:Nat.blt d n=true)(k:JO P TT D n ops Q iI ((d,iB (l.length:Int))::fr) L s):JO P TT D n ops Q (⟨some d,.call { callee:=.builtin .len,args:=#[x],argTypes:=#[t] },ty,iL,af,none⟩::iI) fr L s:=iA (qqr hx ht hk) hd k
def qaY{a:Addr}(hx:lk fr x=some (.pointer (some a)))(hd:Nat.blt d n=true)(k:JO P TT D n ops Q iI ((d,.pointer (some a))::fr) L s):JO P TT D n ops Q (⟨some d,.nilCheck x,ty,iL,af,none⟩::iI) fr L s:=iA (S4 hx) hd k
def Qz(hx:lk fr x=some (.pointer (some ⟨b,off,none⟩)))(ht:jz TT t=some ti)(hk:ti.kind=.st os)(hf:xX os f=some 0)(hd:Nat.blt d n=true)(k:JO P TT D n ops Q iI ((d,.pointer (some ⟨b,off,none⟩))::fr) L s):JO P TT D n ops Q (⟨some d,.fieldAddr t x f,ty,iL,af,none⟩::iI) fr L s:=iA (S3 hx ht hk hf) hd k
def W0(hY:(lk fr x=some (.pointer (some ⟨b,off,none⟩)))/\(jz TT t=some ti)/\(ti.kind=.st os)/\(xX os f=some 0)/\(Nat.blt d n=true))(k:JO P TT D n ops Q iI ((d,.pointer (some ⟨b,off,none⟩))::fr) L s):JO P TT D n ops Q (⟨some d,.fieldAddr t x f,ty,iL,af,none⟩::iI) fr L s:=Qz hY.1 hY.2.1 hY.2.2.1 hY.2.2.2.1 hY.2.2.2.2 k
def QA{fo:Nat}(hx:lk fr x=some (iT b))(ht:jz TT t=some ti)(hk:ti.kind=.st os)(hf:xX os f=some fo)(hd:Nat.blt d n=true)(k:JO P TT D n ops Q iI ((d,.pointer (some ⟨b,fo,none⟩))::fr) L s):JO P TT D n ops Q (⟨some d,.fieldAddr t x f,ty,iL,af,none⟩::iI) fr L s:=iA (UO hx ht hk hf) hd k
def Wb{fo:Nat}(hY:(lk fr x=some (iT b))/\(jz TT t=some ti)/\(ti.kind=.st os)/\(xX os f=some fo)/\(Nat.blt d n=true))(k:JO P TT D n ops Q iI ((d,.pointer (some ⟨b,fo,none⟩))::fr) L s):JO P TT D n ops Q (⟨some d,.fieldAddr t x f,ty,iL,af,none⟩::iI) fr L s:=QA hY.1 hY.2.1 hY.2.2.1 hY.2.2.2.1 hY.2.2.2.2 k
def Zql(i:Nat)(hx:lk fr x=some (.pointer (some ⟨b,off,none⟩)))(hi:L[i]?=some (b,cb zs t'))(ht:jz TT t=some ti)(hk:uY ti.kind=true)(hv:nth zs off=some v)(hd:Nat.blt d n=true)(k:JO P TT D n ops Q iI ((d,v)::fr) L s):JO P TT D n ops Q (⟨some d,.load t x,ty,iL,af,none⟩::iI) fr L s:=iA (rS i ⟨hx,hi,ht,hk⟩ hv) hd k
def Wl(i:Nat)(hY:(lk fr x=some (.pointer (some ⟨b,off,none⟩)))/\(L[i]?=some (b,cb zs t'))/\(jz TT t=some ti)/\(uY ti.kind=true)/\(nth zs off=some v)/\(Nat.blt d n=true))(k:JO P TT D n ops Q iI ((d,v)::fr) L s):JO P TT D n ops Q (⟨some d,.load t x,ty,iL,af,none⟩::iI) fr L s:=Zql i hY.1 hY.2.1 hY.2.2.1 hY.2.2.2.1 hY.2.2.2.2.1 hY.2.2.2.2.2 k
def kq{b:Int}(hY:lk fr x=some (.int ik a)/\lk fr y=some (.int ik b)/\Nat.blt d n=true)(hc:ik.wrap (a+b)=c)(k:JO P TT D n ops Q iI ((d,.int ik c)::fr) L s):JO P TT D n ops Q (⟨some d,.binOp .add t x y t',ty,iL,af,none⟩::iI) fr L s:=have ⟨hx,hy,hd⟩:=hY;iA (nV hx hy hc) hd k
def Lb{b:Int}(hx:lk fr x=some (.int ik a))(hy:lk fr y=some (.int ik b))(hd:Nat.blt d n=true)(hc:ik.wrap (a - b)=c)(k:JO P TT D n ops Q iI ((d,.int ik c)::fr) L s):JO P TT D n ops Q (⟨some d,.binOp .sub t x y t',ty,iL,af,none⟩::iI) fr L s:=iA (tD hx hy hc) hd k
def qKi{b:Int}(hx:lk fr x=some (.int ik a))(hy:lk fr y=some (.int ik b))(hd:Nat.blt d n=true)(hc:ik.wrap (a * b)=c)(k:JO P TT D n ops Q iI ((d,.int ik c)::fr) L s):JO P TT D n ops Q (⟨some d,.binOp .mul t x y t',ty,iL,af,none⟩::iI) fr L s:=iA (Uj hx hy hc) hd k
end
abbrev Zs:=@qyP
abbrev Zr:=@To
abbrev Zn:=@qyR
abbrev Zt:=@iU
abbrev Zu:=@qDF
abbrev Zv:=@qDG
abbrev Zb:=@quI
abbrev Zc:=@quJ
abbrev Zd:=@quK
abbrev Ze:=@qqV
abbrev Zk:=@qAF
abbrev Zl:=@qAE
abbrev Zo:=@qGw
abbrev Zp:=@qt6
abbrev Zy:=@qGv
abbrev Zz:=@qGu
abbrev Zg:=@qJ8
abbrev Zf:=@YJ
abbrev Zh:=@qJ9
def Nt{TT:kD}{J:Fr->Hl->World->Prop}{ops:Array Oper}(h:J fr L s):JO P TT D n ops (ma J Q) [] fr L s:=qyR (iU h)
def Sr{TT:kD}{id:Nat}{l:List Oper}{y:Code}(h:JO P TT D n l.toArray (ma (JC P TT D n Q y) Q) l fr L s):JC P TT D n Q (.seq (.region id l.toArray false) y) fr L s:=qyP (To h)
def At{TT:kD}{J:Fr->Hl->World->Prop}{ops:Array Oper}(hx:lk fr x=some v)(hd:Nat.blt d n=true)(h:J ((d,v)::fr) L s):JO P TT D n ops (ma J Q) [⟨some d,.assign x,ty,iL,af,none⟩] fr L s:=mo ⟨hx,hd⟩ (Nt h)
def sk(h:AV fr jN:=by repeat (first|exact AV.refl|refine AV.push rfl ?_)):iY jN fr:=h.keeps
def kp{l:Fr}(h:iY fr l:=by repeat (first|exact iY.nil _|refine iY.cons rfl ?_)):iY fr l:=h
section
variable{TT:kD}{fr:Fr}{ops:Array Oper}{op:Op}{iC:Array Bool}
def qL(ops:Array Oper)(iC:Array Bool)(i:Nat):Bool:=Region.noSelect ops && Region.free .any ops iC i && (Region.ready .any ops iC).contains i
def za(i:Nat)(hi:ops[i]?=some ⟨some d,op,ty,iL,af,none⟩)(hq:QE P TT D fr op ty K s0 v)(hd:Nat.blt d n=true)(k:JA P TT D n ops Q K s0 jd (iC.setIfInBounds i true) ((d,v)::fr) L s)(hs:qL ops iC i=true:=by kernel_rfl):JA P TT D n ops Q K s0 (jd+1) iC fr L s:=by
 simp only [qL,aA] at hs;exact Jp i hi hs.1.1 hs.1.2 hs.2 trivial hq hd k
def zg(i:Nat){e:Nat×Bool}(hi:ops[i]?=some ⟨some d,op,ty,iL,af,some e⟩)(hg:sf ops fr (some e))(hq:QE P TT D fr op ty K s0 v)(hd:Nat.blt d n=true)(k:JA P TT D n ops Q K s0 jd (iC.setIfInBounds i true) ((d,v)::fr) L s)(hs:qL ops iC i=true:=by kernel_rfl):JA P TT D n ops Q K s0 (jd+1) iC fr L s:=by
 simp only [qL,aA] at hs;exact Jp i hi hs.1.1 hs.1.2 hs.2 hg hq hd k
def zn(i:Nat){b:Bool}(hi:ops[i]?=some ⟨some d,op,ty,iL,af,some (j,w)⟩)(hj:we ops j=some t)(hv:kQ fr t=some (.bool b))(hb:(b != w)=true)(hd:Nat.blt d n=true)(k:JA P TT D n ops Q K s0 jd (iC.setIfInBounds i true) ((d,undef)::fr) L s)(hs:qL ops iC i=true:=by kernel_rfl):JA P TT D n ops Q K s0 (jd+1) iC fr L s:=by
 simp only [qL,aA] at hs;exact qJ5 i hi hs.1.1 hs.1.2 hs.2 hj hv hb hd k
def T1(a:A)(h:A->B:=by intro h;first|exact kb Y2 h|exact Zn h|exact Zt h|exact mo Y2 h|exact Zs h|exact Zr h|exact Wf Y4 h|exact Zg Z Z h|exact Zo h|exact Zu h|exact Wb Y5 h|exact Wl 0 Y6 h|exact Zk h|exact W0 Y5 h|exact Zc h|exact Zb h|exact ZqT Z Z Z h|exact Zp h|exact Ws Y4 h|exact ZqF Z Z Z h|exact Zv h|exact Wl 1 Y6 h|exact Zqx Z Z Z h|exact Zd h|exact Zl h|exact Wl 2 Y6 h|exact Zy Z h|exact Zz Z h|exact Zh Z Z Z h|exact qaH Z Z Z h|exact qaY Z Z h|exact qbq Z Z Z h|exact qcS Z Z Z h|exact qda Z Z h|exact qeo Z Z Z h):B:=h a
def G2(a:A)(h:A->B:=by intro h;(iterate 2 refine T1 ?_);exact h):B:=h a
def G3(a:A)(h:A->B:=by intro h;(iterate 3 refine T1 ?_);exact h):B:=h a
def G4(a:A)(h:A->B:=by intro h;(iterate 4 refine T1 ?_);exact h):B:=h a
def G5(a:A)(h:A->B:=by intro h;(iterate 5 refine T1 ?_);exact h):B:=h a
def G6(a:A)(h:A->B:=by intro h;(iterate 6 refine T1 ?_);exact h):B:=h a
def G7(a:A)(h:A->B:=by intro h;(iterate 7 refine T1 ?_);exact h):B:=h a
def G8(a:A)(h:A->B:=by intro h;(iterate 8 refine T1 ?_);exact h):B:=h a
def G9(a:A)(h:A->B:=by intro h;(iterate 9 refine T1 ?_);exact h):B:=h a
def lM(a:A)(h:A->B:=by intro h;(iterate 10 refine T1 ?_);exact h):B:=h a
def lw(a:A)(h:A->B:=by intro h;(iterate 11 refine T1 ?_);exact h):B:=h a
def mY(a:A)(h:A->B:=by intro h;(iterate 12 refine T1 ?_);exact h):B:=h a
def Jo(a:A)(h:A->B:=by intro h;(iterate 13 refine T1 ?_);exact h):B:=h a
def rH(a:A)(h:A->B:=by intro h;(iterate 14 refine T1 ?_);exact h):B:=h a
def xe(a:A)(h:A->B:=by intro h;(iterate 15 refine T1 ?_);exact h):B:=h a
def Dj(a:A)(h:A->B:=by intro h;(iterate 16 refine T1 ?_);exact h):B:=h a
def Cw(a:A)(h:A->B:=by intro h;(iterate 17 refine T1 ?_);exact h):B:=h a
def Wa(a:A)(h:A->B:=by intro h;(iterate 18 refine T1 ?_);exact h):B:=h a
def zP(a:A)(h:A->B:=by intro h;(iterate 19 refine T1 ?_);exact h):B:=h a
def Wc(a:A)(h:A->B:=by intro h;(iterate 20 refine T1 ?_);exact h):B:=h a
def MT(a:A)(h:A->B:=by intro h;(iterate 21 refine T1 ?_);exact h):B:=h a
def Wg(a:A)(h:A->B:=by intro h;(iterate 22 refine T1 ?_);exact h):B:=h a
def Wh(a:A)(h:A->B:=by intro h;(iterate 24 refine T1 ?_);exact h):B:=h a
def G26(a:A)(h:A->B:=by intro h;(iterate 26 refine T1 ?_);exact h):B:=h a
def J2(a:A)(b:B)(h:A->B->C:=by intro a b;(iterate 2 refine T1 ?_);exact mG Z a b):C:=h a b
def J3(a:A)(b:B)(h:A->B->C:=by intro a b;(iterate 3 refine T1 ?_);exact mG Z a b):C:=h a b
def J4(a:A)(b:B)(h:A->B->C:=by intro a b;(iterate 4 refine T1 ?_);exact mG Z a b):C:=h a b
def J5(a:A)(b:B)(h:A->B->C:=by intro a b;(iterate 5 refine T1 ?_);exact mG Z a b):C:=h a b
def J6(a:A)(b:B)(h:A->B->C:=by intro a b;(iterate 6 refine T1 ?_);exact mG Z a b):C:=h a b
def J7(a:A)(b:B)(h:A->B->C:=by intro a b;(iterate 7 refine T1 ?_);exact mG Z a b):C:=h a b
def J8(a:A)(b:B)(h:A->B->C:=by intro a b;(iterate 8 refine T1 ?_);exact mG Z a b):C:=h a b
def J9(a:A)(b:B)(h:A->B->C:=by intro a b;(iterate 9 refine T1 ?_);exact mG Z a b):C:=h a b
def tQ(a:A)(b:B)(h:A->B->C:=by intro a b;(iterate 10 refine T1 ?_);exact mG Z a b):C:=h a b
def Wk(a:A)(b:B)(h:A->B->C:=by intro a b;(iterate 11 refine T1 ?_);exact mG Z a b):C:=h a b
def x8(a:A)(b:B)(h:A->B->C:=by intro a b;(iterate 12 refine T1 ?_);exact mG Z a b):C:=h a b
def EE(a:A)(b:B)(h:A->B->C:=by intro a b;(iterate 15 refine T1 ?_);exact mG Z a b):C:=h a b
def MW(a:A)(b:B)(h:A->B->C:=by intro a b;(iterate 16 refine T1 ?_);exact mG Z a b):C:=h a b
def MX(a:A)(b:B)(h:A->B->C:=by intro a b;(iterate 17 refine T1 ?_);exact mG Z a b):C:=h a b
def Cx(a:A)(b:B)(h:A->B->C:=by intro a b;(iterate 18 refine T1 ?_);exact mG Z a b):C:=h a b
def Qr(a:A)(b:B)(h:A->B->C:=by intro a b;(iterate 19 refine T1 ?_);exact mG Z a b):C:=h a b
def J20(a:A)(b:B)(h:A->B->C:=by intro a b;(iterate 20 refine T1 ?_);exact mG Z a b):C:=h a b
def J22(a:A)(b:B)(h:A->B->C:=by intro a b;(iterate 22 refine T1 ?_);exact mG Z a b):C:=h a b
def J28(a:A)(b:B)(h:A->B->C:=by intro a b;(iterate 28 refine T1 ?_);exact mG Z a b):C:=h a b
def T3{TT:kD}{fr:Fr}{op:Op}(h:QE P TT D fr op ty K s0 v:=by first|exact We Y4|exact E3 Z|exact S4 Z|exact Ny Z|exact Wd 0 Y5|exact S3 Z Z Z Z|exact Wd 1 Y5|exact S6 Z Z|exact S5 Z Z Z|exact pU Y4|exact FU Z Z):QE P TT D fr op ty K s0 v:=h
def zA(i:Nat)(hf:iC.getD i true=false)(hi:ops[i]?=some ⟨some d,op,ty,iL,af,none⟩)(hq:QE P TT D fr op ty K s0 v)(hd:Nat.blt d n=true)(k:JA P TT D n ops Q K s0 jd (iC.setIfInBounds i true) ((d,v)::fr) L s)(hs:qL ops iC i=true:=by kernel_rfl):JA P TT D n ops Q K s0 (jd+1) iC fr L s:=za i hi hq hd k hs
def zN(i:Nat)(hf:iC.getD i true=false){b:Bool}(hi:ops[i]?=some ⟨some d,op,ty,iL,af,some (j,w)⟩)(hj:we ops j=some t)(hv:kQ fr t=some (.bool b))(hb:(b != w)=true)(hd:Nat.blt d n=true)(k:JA P TT D n ops Q K s0 jd (iC.setIfInBounds i true) ((d,undef)::fr) L s)(hs:qL ops iC i=true:=by kernel_rfl):JA P TT D n ops Q K s0 (jd+1) iC fr L s:=zn i hi hj hv hb hd k hs
def zG(i:Nat)(hf:iC.getD i true=false){e:Nat×Bool}(hi:ops[i]?=some ⟨some d,op,ty,iL,af,some e⟩)(hg:sf ops fr (some e))(hq:QE P TT D fr op ty K s0 v)(hd:Nat.blt d n=true)(k:JA P TT D n ops Q K s0 jd (iC.setIfInBounds i true) ((d,v)::fr) L s)(hs:qL ops iC i=true:=by kernel_rfl):JA P TT D n ops Q K s0 (jd+1) iC fr L s:=zg i hi hg hq hd k hs
def T2(a:A)(h:A->B:=by intro h;first|exact zA 0 Z Z T3 Z h|exact zN 0 Z Z Z Z Z Z h|exact zG 0 Z Z ⟨_,Z,Z⟩ T3 Z h|exact zA 1 Z Z T3 Z h|exact zN 1 Z Z Z Z Z Z h|exact zG 1 Z Z ⟨_,Z,Z⟩ T3 Z h|exact zA 2 Z Z T3 Z h|exact zN 2 Z Z Z Z Z Z h|exact zG 2 Z Z ⟨_,Z,Z⟩ T3 Z h|exact zA 3 Z Z T3 Z h|exact zN 3 Z Z Z Z Z Z h|exact zG 3 Z Z ⟨_,Z,Z⟩ T3 Z h|exact zA 4 Z Z T3 Z h|exact zN 4 Z Z Z Z Z Z h|exact zG 4 Z Z ⟨_,Z,Z⟩ T3 Z h|exact zA 5 Z Z T3 Z h|exact zN 5 Z Z Z Z Z Z h|exact zG 5 Z Z ⟨_,Z,Z⟩ T3 Z h|exact zA 6 Z Z T3 Z h|exact zN 6 Z Z Z Z Z Z h|exact zG 6 Z Z ⟨_,Z,Z⟩ T3 Z h|exact zA 7 Z Z T3 Z h|exact zN 7 Z Z Z Z Z Z h|exact zG 7 Z Z ⟨_,Z,Z⟩ T3 Z h|exact zA 8 Z Z T3 Z h|exact zN 8 Z Z Z Z Z Z h|exact zG 8 Z Z ⟨_,Z,Z⟩ T3 Z h|exact zA 9 Z Z T3 Z h|exact zN 9 Z Z Z Z Z Z h|exact zG 9 Z Z ⟨_,Z,Z⟩ T3 Z h|exact zA 10 Z Z T3 Z h|exact zN 10 Z Z Z Z Z Z h|exact zG 10 Z Z ⟨_,Z,Z⟩ T3 Z h|exact zA 11 Z Z T3 Z h|exact zN 11 Z Z Z Z Z Z h|exact zG 11 Z Z ⟨_,Z,Z⟩ T3 Z h|exact zA 12 Z Z T3 Z h|exact zN 12 Z Z Z Z Z Z h|exact zG 12 Z Z ⟨_,Z,Z⟩ T3 Z h|exact zA 13 Z Z T3 Z h|exact zN 13 Z Z Z Z Z Z h|exact zG 13 Z Z ⟨_,Z,Z⟩ T3 Z h|exact zA 14 Z Z T3 Z h|exact zN 14 Z Z Z Z Z Z h|exact zG 14 Z Z ⟨_,Z,Z⟩ T3 Z h|exact zA 15 Z Z T3 Z h|exact zN 15 Z Z Z Z Z Z h|exact zG 15 Z Z ⟨_,Z,Z⟩ T3 Z h|exact zA 16 Z Z T3 Z h|exact zN 16 Z Z Z Z Z Z h|exact zG 16 Z Z ⟨_,Z,Z⟩ T3 Z h|exact zA 17 Z Z T3 Z h|exact zN 17 Z Z Z Z Z Z h|exact zG 17 Z Z ⟨_,Z,Z⟩ T3 Z h|exact zA 18 Z Z T3 Z h|exact zN 18 Z Z Z Z Z Z h|exact zG 18 Z Z ⟨_,Z,Z⟩ T3 Z h|exact zA 19 Z Z T3 Z h|exact zN 19 Z Z Z Z Z Z h|exact zG 19 Z Z ⟨_,Z,Z⟩ T3 Z h|exact zA 20 Z Z T3 Z h|exact zN 20 Z Z Z Z Z Z h|exact zG 20 Z Z ⟨_,Z,Z⟩ T3 Z h|exact zA 21 Z Z T3 Z h|exact zN 21 Z Z Z Z Z Z h|exact zG 21 Z Z ⟨_,Z,Z⟩ T3 Z h|exact zA 22 Z Z T3 Z h|exact zN 22 Z Z Z Z Z Z h|exact zG 22 Z Z ⟨_,Z,Z⟩ T3 Z h|exact zA 23 Z Z T3 Z h|exact zN 23 Z Z Z Z Z Z h|exact zG 23 Z Z ⟨_,Z,Z⟩ T3 Z h|exact zA 24 Z Z T3 Z h|exact zN 24 Z Z Z Z Z Z h|exact zG 24 Z Z ⟨_,Z,Z⟩ T3 Z h|exact zA 25 Z Z T3 Z h|exact zN 25 Z Z Z Z Z Z h|exact zG 25 Z Z ⟨_,Z,Z⟩ T3 Z h|exact zA 26 Z Z T3 Z h|exact zN 26 Z Z Z Z Z Z h|exact zG 26 Z Z ⟨_,Z,Z⟩ T3 Z h|exact zA 27 Z Z T3 Z h|exact zN 27 Z Z Z Z Z Z h|exact zG 27 Z Z ⟨_,Z,Z⟩ T3 Z h|exact zA 28 Z Z T3 Z h|exact zN 28 Z Z Z Z Z Z h|exact zG 28 Z Z ⟨_,Z,Z⟩ T3 Z h|exact zA 29 Z Z T3 Z h|exact zN 29 Z Z Z Z Z Z h|exact zG 29 Z Z ⟨_,Z,Z⟩ T3 Z h):B:=h a
def H1(a:A)(h:A->B:=by intro h;(iterate 1 refine T2 ?_);exact h):B:=h a
def H2(a:A)(h:A->B:=by intro h;(iterate 2 refine T2 ?_);exact h):B:=h a
def H3(a:A)(h:A->B:=by intro h;(iterate 3 refine T2 ?_);exact h):B:=h a
def H4(a:A)(h:A->B:=by intro h;(iterate 4 refine T2 ?_);exact h):B:=h a
def H5(a:A)(h:A->B:=by intro h;(iterate 5 refine T2 ?_);exact h):B:=h a
def H6(a:A)(h:A->B:=by intro h;(iterate 6 refine T2 ?_);exact h):B:=h a
def H7(a:A)(h:A->B:=by intro h;(iterate 7 refine T2 ?_);exact h):B:=h a
def H8(a:A)(h:A->B:=by intro h;(iterate 8 refine T2 ?_);exact h):B:=h a
def H9(a:A)(h:A->B:=by intro h;(iterate 9 refine T2 ?_);exact h):B:=h a
def Qp(a:A)(h:A->B:=by intro h;(iterate 10 refine T2 ?_);exact h):B:=h a
def H11(a:A)(h:A->B:=by intro h;(iterate 11 refine T2 ?_);exact h):B:=h a
def H13(a:A)(h:A->B:=by intro h;(iterate 13 refine T2 ?_);exact h):B:=h a
end
end
section
attribute [local irreducible] JC JO JA JB ma mO mX AC fill iy QE Ev my
def qH{p:Prop} (h:p:=by
 exact ⟨rfl,rfl⟩):p:=h
def ES{p:Prop} (h:p:=by
 intro β1 s1 h1;refine G6 ?_;refine iA (jB [(_,_),(_,_)] [_,_] Y3 Z Z Z) Z<|Wt 0 [_,_] Y9<|G3 ?_;exact rR [_] L (.agg (us:=[_,_]) 0 Z Z Z Z Z (.nil)) Z h1 λ_ iD=>qH):p:=h
abbrev jU:=AC Tryz.prog
abbrev jT(D:Nat)(f:FuncId)(a:iz)(L:Hl)(s:World)(x:Value):Prop:=AC Tryz.prog D f a L s λv L' _=>v=x/\L=L'
abbrev pQ(D:Nat)(f:FuncId)(a:iz)(L:Hl)(s:World)(R:Value->Hl->World->Prop):Prop:=AC Tryz.prog D f a L s λv L' s'=>∃ M',L'=M'++L/\R v M' s'
abbrev po(D:Nat)(f:FuncId)(a:iz)(M L:Hl)(s:World)(R:Value->Hl->World->Prop):Prop:=AC Tryz.prog D f a (M++L) s λv L' s'=>∃ M',L'=M'++L/\R v M' s'
def vU{c:Int}:jT D 34 [iB c,iB i] L s (.agg #[iB c,iB i]):=by
 refine jn (fn:=f34) jb func34 V Z ntmps34 Z (rs:=[.cell 4 30]) Z [(0,_),(1,_)] Z<|Sr<|jh Z [_,_] Y2 ?_;exact ES
def PZ{p:Prop} (h:p:=by
 exact ⟨by simp_all [kU,PO,Sm,Sn],rfl⟩):p:=h
def Nf{p:Prop} (h:p:=by
 refine Dj ?_;exact rR [] L (.tmp Z (.tmp Z (.t1 Z))) Z (Lr D) λ_ iD=>PZ):p:=h
def Sv{p:Prop} (h:p:=by
 refine Cw ?_;exact rR [] L (.tmp Z (.tmp Z (.t1 Z))) Z (Lr D) λ_ iD=>PZ):p:=h
def qEC:jT D 210 [iB k] L s (.tuple #[.bool (PO k),.bool (Sm k),.bool (Sn k)]):=by
 refine jn (fn:=f210) jb func210 V Z ntmps210 Z (rs:=[.tmp 2,.tmp 3,.tmp 4]) Z [(0,_)] Z<|J28 ?_ ?_<;>intro c1
 .refine J2 ?_ ?_<;>intro c2;.exact Nf
  exfalso;omega
 refine J5 ?_ ?_<;>intro c2;.exact Nf
 refine J7 ?_ ?_<;>intro c3
 .refine J2 ?_ ?_<;>intro c4;.exact Sv
  exfalso;omega
 refine J5 ?_ ?_<;>intro c4;.exact Sv
 refine J6 ?_ ?_<;>intro c5;.exact Sv
 refine J7 ?_ ?_<;>intro c6
 .refine J2 ?_ ?_<;>intro c7;.exact Nf
  exfalso;omega
 refine J5 ?_ ?_<;>intro c7;.exact Nf
 refine rH ?_;exact rR [] L (.tmp Z (.tmp Z (.t1 Z))) Z (Lr D) λ_ iD=>PZ
def FG{p:Prop} (h:p:=by
 exact ⟨by simp_all [kU,GL],rfl⟩):p:=h
def ND{x:Tm}{u:Bool}:jT D 211 [.agg #[iB x.kind,iJ x.val],.bool u,.bool o] L s (.bool (GL x u o)):=by
 refine jn (fn:=f211) jb func211 V Z ntmps211 Z (rs:=[.tmp 6]) Z [(0,_),(1,_),(2,_)] Z<|Sr<|kF Y2 λβ1 s1 h1=>mY ?_;refine vZ Z ?_ ?_<;>intro c2;.refine Sr<|iA (iZ 0 [_,_] Y5) Z<|iA (jB [] [_,_] Y3 Z Z Z) Z<|iA (KN Z Z (qHJ)) Z<|G6 ?_;exact rX [_] L Z h1 λ_ iD=>FG
 refine J8 ?_ ?_<;>intro c3;.refine G8 ?_;exact rX [_] L Z h1 λ_ iD=>FG
 refine J8 ?_ ?_<;>intro c4;.refine G4 ?_;refine EP Z Z Z<|G6 ?_;exact rX [_] L Z h1 λ_ iD=>FG
 refine G9 ?_;refine ld (t:=27) Z ?_ ?_<;>intro c5
 .refine G8 ?_;refine ld (t:=32) Z ?_ ?_<;>intro c6;.refine G7 ?_;exact rX [_] L Z h1 λ_ iD=>FG
  refine G6 ?_;exact rX [_] L Z h1 λ_ iD=>FG
 refine lw ?_;exact rX [_] L Z h1 λ_ iD=>FG
theorem EC{p:Prop} (h:p:=by
 exact ⟨by (try simp_all [kU,Fh])<;>grind,rfl⟩):p:=h
def Ym{p:Prop} (h:p:=by
 refine G8 ?_;exact rX [_] L Z Lc λ_ iD=>EC):p:=h
def Yj{p:Prop} (h:p:=by
 refine G8 ?_;exact rX [_] L Z h1 λ_ iD=>EC):p:=h
def Xz{p:Prop} (h:p:=by
 refine Dj ?_;exact rX [_] L Z h1 λ_ iD=>EC):p:=h
def Jj{p:Prop} (h:p:=by
 refine Cw ?_;exact rX [_] L Z Lc λ_ iD=>EC):p:=h
def qi8{a:Ac}:jT D 164 [.agg #[iB a.kind,iB a.tgt,iB a.x.kind,iJ a.x.val,iB a.y.kind,iJ a.y.val],.bool o] L s (iB (Fh a o)):=by
 refine jn (fn:=f164) jb func164 V Z ntmps164 Z (rs:=[.tmp 4]) Z [(0,_),(1,_)] Z<|Sr<|kF Y2 λβ1 s1 h1=>lw ?_;refine ld (t:=12) Z ?_ ?_<;>intro c2;.exact Xz
 refine G5 ?_;refine va Y3<|J4 ?_ ?_<;>intro c3;.exact Yj
 refine G6 ?_;refine ld (t:=21) Z ?_ ?_<;>intro c4;.exact Xz
 refine tQ ?_ ?_<;>intro c5;.exact Yj
 refine G7 ?_;refine Je Y3 (qEC) λs6 h6=>xe ?_;refine Fa (t:=35) Z ?_ ?_<;>intro c7
 .refine G8 ?_;refine tG (t:=40) Z ?_ ?_<;>intro c8;.refine Wh ?_;refine Zu ?_;exact rX [_] L Z Lc λ_ iD=>EC
  refine G3 ?_;refine X36 ?_;refine Je Y3 (ND) λs9 h9=>G4 ?_;refine Fa (t:=48) Z ?_ ?_<;>intro mz;.exact Jj
  refine G3 ?_;refine X36 ?_;refine Je Y3 (ND) λkz jM=>G5 ?_;refine vZ Z ?_ ?_<;>intro oL;.refine G7 ?_;exact rX [_] L Z Lc λ_ iD=>EC
  exact Ym
 refine G8 ?_;refine X36 ?_;refine Je Y3 (ND) λs8 h8=>G4 ?_;refine Fa (t:=48) Z ?_ ?_<;>intro c9;.exact Jj
 refine G3 ?_;refine X36 ?_;refine Je Y3 (ND) λkH jG=>G5 ?_;refine vZ Z ?_ ?_<;>intro nZ;.refine G7 ?_;exact rX [_] L Z Lc λ_ iD=>EC
 exact Ym
def Qd{p:Prop} (h:p:=by
 refine ⟨?_,Z⟩;simp [kU,GO,od, *];done):p:=h
def MQ{p:Prop} (h:p:=by
 refine ⟨?_,Z⟩;have hb:uH k ch=false:=by
  rw [eD];simp only [uH,vc,un,db,aA,aH,fM];omega
 simp [kU,GO,od,qrb ry hb];done):p:=h
def RP{p:Prop} (h:p:=by
  refine mG Z ?_ ?_<;>intro oL;.exfalso;omega
  exfalso;omega):p:=h
def IY{p:Prop} (h:p:=by
 refine zP ?_;exact rX [] L Z Lc λ_ iD=>MQ):p:=h
def Ik{p:Prop} (h:p:=by
 refine rH ?_;refine kq Y3 (jq O O)<|G2 ?_;have p7:uH k ch=true:=by simp only [uH,vc,un,db,aA,aH,fM];omega
 refine iU ⟨(k+1),[],kp,Z,⟨Lc,⟨by omega,Dq hI ry p7⟩⟩,O⟩):p:=h
def qkd:jT D 163 [St l] L s (.bool (GO l)):=by
 refine jn (fn:=f163) jb func163 V Z ntmps163 Z (rs:=[.tmp 2]) Z [(0,_)] Z<|G9 ?_;refine uZ Y3<|kb Y2<|?_;refine ld (t:=8) Z ?_ ?_<;>intro c1;.refine Wg ?_;exact rY Z λ_ iD=>Qd
 refine G3 ?_;refine DT Z Z Z Z<|G4 ?_;refine ld (t:=13) Z ?_ ?_<;>intro c2
 .refine Cw ?_;refine rR [] L (.t1 Z) Z (Lr D) λ_ iD=>?_;refine ⟨?_,Z⟩;have h6:¬ l.length<=6:=O
  simp [kU,GO,od,h6];done
 refine G3 ?_;refine uZ Y3<|G2 ?_;refine ld (t:=17) Z ?_ ?_<;>intro c3;.refine mY ?_;refine Zu ?_;exact rY Z λ_ iD=>Qd
 refine G3 ?_;refine uZ Y3<|J3 ?_ ?_<;>intro c4;.refine G7 ?_;exact rY Z λ_ iD=>Qd
 refine G6 ?_;refine DT Z Z Z Z<|G4 ?_;refine lJ (γ:=Nat) (λk=>[(0,_),(2,_),(22,_),(23,iB (k:Int))]) (λ_=>_) (λk tw=>Le D s tw/\(k<=l.length/\∀ i c,i < k->l[i]?=some c->uH i c=true)) (λk=>l.length - k) (λ_ _ _ h hl=>⟨h.1.trans hl,h.2⟩) 0 (.c4 Z Z Z Z (.nil _)) Z ⟨Le.refl _,⟨aB _,λi c hi=>O⟩⟩ ?_;intro k s5 I5;have ko:=I5.2.1;have hI:=I5.2.2;refine J6 ?_ ?_<;>intro c6
 .have hk:k < l.length:=O
  obtain ⟨ch,ry⟩:∃ ch,l[k]?=some ch:=⟨_,ap hk⟩;refine lw ?_;refine mr jt 22 Z _ (λ_ h=>h) λs7 h7=>H2 ?_;refine za 2 Z (Co Y4 ry) Z<|za 3 Z (PB Z Z) Z<|H1 ?_;refine TV (t:=30) Z ?_ ?_<;>intro c8
  .refine H2 ?_;refine zg 7 Z ⟨_,Z,Z⟩ (Co Y4 ry) Z<|zg 8 Z ⟨_,Z,Z⟩ (K8 Z Z) Z<|H3 ?_;refine za 12 Z (Co Y4 ry) Z<|za 13 Z (PB Z Z) Z<|H1 ?_;refine TV (t:=40) Z ?_ ?_<;>intro c9
   .refine H2 ?_;refine zg 17 Z ⟨_,Z,Z⟩ (Co Y4 ry) Z<|zg 18 Z ⟨_,Z,Z⟩ (K8 Z Z) Z<|H3 ?_;refine ji V<|G6 ?_;refine tG (t:=48) Z ?_ ?_<;>intro mz
    .refine G6 ?_;refine tG (t:=51) Z ?_ ?_<;>intro nZ;.exact IY
     refine G9 ?_;exact RP
    exact Ik
   refine H4 ?_;refine za 19 Z (FZ Z Z) Z<|H2 ?_;refine ji V<|G6 ?_;refine tG (t:=48) Z ?_ ?_<;>intro mz;.refine G3 ?_;refine Nk Z Z<|Wc ?_;refine Zu ?_;exact rX [] L Z Lc λ_ iD=>MQ
   exact Ik
  refine H4 ?_;refine za 9 Z (FZ Z Z) Z<|H2 ?_;refine za 12 Z (Co Y4 ry) Z<|za 13 Z (PB Z Z) Z<|H1 ?_;refine TV (t:=40) Z ?_ ?_<;>intro c9
  .refine H2 ?_;refine zg 17 Z ⟨_,Z,Z⟩ (Co Y4 ry) Z<|zg 18 Z ⟨_,Z,Z⟩ (K8 Z Z) Z<|H3 ?_;refine ji V<|G4 ?_;refine Nk Z Z<|G7 ?_;refine tG (t:=51) Z ?_ ?_<;>intro mz;.exact IY
   refine J9 ?_ ?_<;>intro nZ;.refine lw ?_;exact rX [] L Z Lc λ_ iD=>MQ
   refine G4 ?_;refine kq Y3 (jq O O)<|G2 ?_;have p7:uH k ch=true:=by simp only [uH,vc,un,db,aA,aH,fM];omega
   refine iU ⟨(k+1),[],kp,Z,⟨Lc,⟨O,Dq hI ry p7⟩⟩,O⟩
  refine H4 ?_;refine za 19 Z (FZ Z Z) Z<|H2 ?_;refine ji V<|G4 ?_;refine Nk Z Z<|G4 ?_;refine Nk Z Z<|MT ?_;exact rX [] L Z Lc λ_ iD=>MQ
 refine lw ?_;refine rR [] L (.t1 Z) Z I5.1 λ_ iD=>?_;refine ⟨?_,Z⟩;have hb:=qq9 (λi c hi hc=>hI i c O hc);have h6:l.length<=6:=O
 simp [kU,GO,od,hb,h6, *];done
def qfV{x:Ins}(hA:qn s A n c x.ad):jT D 120 [.agg #[St x.name,iJ x.code,.bool x.I,.slice A n c]] L s (iB (zu x)):=by
 have hn:=hA.1;have nI:=hA.2.1;have pt:=hA.2.2.1;refine jn (fn:=f120) jb func120 V Z ntmps120 Z (rs:=[.tmp 2]) Z [(0,_)] Z<|Sr<|kF Y2 λβ1 s1 h1=>G9 ?_;refine Je Y3 (qkd) λs2 h2=>G4 ?_;have e2:=h1.t h2;refine vZ Z ?_ ?_<;>intro c3;.refine G8 ?_;refine rR [_] L (.t1 Z) Z e2 λ_ iD=>?_;refine ⟨?_,Z⟩;simp [kU,zu, *];done
 refine J9 ?_ ?_<;>intro c4
 .refine G8 ?_;refine rR [_] L (.t1 Z) Z e2 λ_ iD=>?_;refine ⟨?_,Z⟩;have h8:8 < x.ad.length:=O
  simp [kU,zu,h8, *];done
 refine Jo ?_;refine lJ (γ:=Nat) (λk=>[(1,_),(2,_),(17,_),(18,_),(19,iB (k:Int))]) (λ_=>_) (λk tw=>Le D s2 tw/\(k<=n/\∀ i a,i < k->x.ad[i]?=some a->Fh a x.I=0)) (λk=>n - k) (λ_ _ _ h hl=>⟨h.1.trans hl,h.2⟩) 0 (.c5 Z Z Z Z Z (.nil _)) Z ⟨Le.refl _,⟨aB _,λi c hi=>O⟩⟩ ?_;intro k s5 I5;have ko:=I5.2.1;have hI:=I5.2.2;refine J6 ?_ ?_<;>intro c6
 .have hk:k < n:=O
  obtain ⟨b,off,a,rfl,ha,vO,hau⟩:=qn.at_ (hA.le (e2.t I5.1)) hk;refine G6 ?_;refine iA (jK Y6 hk) Z<|iA (ku Y3 vO Z) Z<|jh Z [_,_,_,_,_,_] Y2 λβ7 s7 h7=>Wt 0 [_,_,_,_,_,_] Y9<|Nt<|Sr<|iA (iZ 0 [_,_,_,_,_,_] Y5) Z<|G2 ?_;refine Je Y3 (qi8) λs8 h8=>G9 ?_;refine lL Z ?_ ?_<;>intro c9
  .have hz:Fh a x.I≠0:=by simpa using c9
   refine mY ?_;refine rR [_,_] L (.t1 Z) Z (e2.t I5.1|>.t h7|>.t h8) λ_ iD=>?_;refine ⟨?_,Z⟩;have h8:¬ 8 < x.ad.length:=O
   simp [kU,zu,h8,qmX hI ha hz, *];done
  have hz:Fh a x.I=0:=by simpa using c9
  refine G4 ?_;refine kq Y3 (jq O O)<|G2 ?_;refine iU ⟨(k+1),[_],kp,Z,⟨(I5.1.t h7|>.t h8),⟨O,Dq hI ha hz⟩⟩,O⟩
 refine lw ?_;refine rR [_] L (.t1 Z) Z (e2.t I5.1) λ_ iD=>?_;refine ⟨?_,Z⟩;have h8:¬ 8 < x.ad.length:=O
 simp [kU,zu,h8,qlB (λi a hi h=>hI i a O h), *];done
def WQ{p:Prop} (h:p:=by
 exact rR [_] ((β,cb [St x.name,iJ x.code,.bool x.I,.slice A n c] 111)::L) (.t1 Z) Z h1 λ_ iD=>⟨by simp_all [kU,Gv],rfl⟩):p:=h
def qmt{x y:Ins}{n' c' β:Nat}:jU D 122 [.agg #[St y.name,iJ y.code,.bool y.I,.slice A' n' c'],iT β] ((β,cb [St x.name,iJ x.code,.bool x.I,.slice A n c] 111)::L) s λv L' _=>v=.bool (Gv x y)/\(β,cb [St x.name,iJ x.code,.bool x.I,.slice A n c] 111)::L=L':=by
 refine jn (fn:=f122) jb func122 V Z ntmps122 Z (rs:=[.tmp 3]) Z [(0,_),(1,_)] Z<|Sr<|kF Y2 λβ1 s1 h1=>G9 ?_;refine uZ Y3<|kb Y2<|?_;refine ld (t:=9) Z ?_ ?_<;>intro c2;.refine lM ?_;exact WQ
 refine xe ?_;exact WQ
def Z5{l:List Ins}(hA:ki s A n c l){f:FuncId}{cap:iz}(p:Ins->Bool)(hp:∀ s' x A' n' c',jT D f ([.agg #[St x.name,iJ x.code,.bool x.I,.slice A' n' c']]++cap) L s' (.bool (p x))):jT D 165 [.slice A n c,.func (.func f) #[] cap.toArray] L s (iB (j6 p l 0)):=by
 have hn:=hA.1;have nI:=hA.2.1;have pt:=hA.2.2.1;refine jn (fn:=f165) jb func165 V Z ntmps165 Z (rs:=[.tmp 4]) Z [(0,_),(1,_)] Z<|rH ?_;refine lJ (γ:=Nat) (λk=>[(0,_),(1,_),(4,_),(7,_),(8,iB (k:Int))]) (λ_=>_) (λk tw=>Le D s tw/\(k<=n/\∀ i x,i < k->l[i]?=some x->p x=false)) (λk=>n - k) (λ_ _ _ h hl=>⟨h.1.trans hl,h.2⟩) 0 (.c5 Z Z Z Z Z (.nil _)) Z ⟨Le.refl _,⟨aB _,λi c hi=>O⟩⟩ ?_;intro k s1 I1;have ko:=I1.2.1;have hI:=I1.2.2;refine J6 ?_ ?_<;>intro c2
 .have hk:k < n:=O
  obtain ⟨b,off,x,A',n',c',rfl,hx,hcx,hax,kL,je⟩:=ki.at_ (hA.le I1.1) hk;refine xe ?_;refine iA (jK Y6 hk) Z<|iA (ku Y3 hcx Z) Z<|ub (first:=[]) (captured:=cap) Z Z Z (hp _ x _ _ _) ?_;rintro _ _ s3 h3 ⟨rfl,rfl⟩;refine G2 ?_;refine su Z ?_ ?_<;>intro c4;.have hz:=c4;refine mY ?_;refine rR [] L (.t1 Z) Z (I1.1.t h3) λ_ iD=>?_;refine ⟨?_,Z⟩;simp [kU,F8 hI hx hz];done
  have hz:=c4;refine G4 ?_;refine kq Y3 (jq O O)<|G2 ?_;refine iU ⟨(k+1),[],kp,Z,⟨(I1.1.t h3),⟨O,Dq hI hx hz⟩⟩,O⟩
 refine lw ?_;refine rR [] L (.t1 Z) Z I1.1 λ_ iD=>?_;refine ⟨?_,Z⟩;simp [kU,Tj (λi a hi h=>hI i a O h)];done
def qig{l:List Ins}(hA:ki s A n c l){f:FuncId}{cap:iz}(p:Ins->Bool)(hp:∀ s' x A' n' c',jT D f ([.agg #[St x.name,iJ x.code,.bool x.I,.slice A' n' c']]++cap) L s' (.bool (p x))):jT D 121 [.slice A n c,.func (.func f) #[] cap.toArray] L s (.bool (l.any p)):=by
 refine jn (fn:=f121) jb func121 V Z ntmps121 Z (rs:=[.tmp 4]) Z [(0,_),(1,_)] Z<|G9 ?_;refine Je Y3 (Z5 hA p hp) λs1 h1=>va Y3<|G4 ?_;exact rX [] L Z h1 λ_ iD=>⟨by simp only [kU,U_],rfl⟩
def VX{p:Prop} (h:p:=by
 refine ⟨?_,Z⟩;have h0:t.cells < 1\/65536 < t.cells:=by omega
 simp [kU,o5,h0];done):p:=h
def Td{t:oK}(hA:ki s A n c t.U):jT D 75 [.agg #[iB t.cells,.slice A n c]] L s (.agg #[iB (o5 t).1,iB (o5 t).2]):=by
 have hn:=hA.1;have nI:=hA.2.1;have pt:=hA.2.2.1;refine jn (fn:=f75) jb func75 V Z ntmps75 Z (rs:=[.cell 2 30]) Z [(0,_)] Z<|Sr<|kF Y2 λβ1 s1 h1=>jh Z [_,_] Y2 λβ2 s2 h2=>lM ?_;have e2:=h1.t h2;refine ld (t:=10) Z ?_ ?_<;>intro c3;.refine lM ?_;refine Je Y3 (vU) λs4 h4=>Wt 0 [_,_] Y9<|G5 ?_;exact rR [_,_] L (.agg (us:=[_,_]) 0 Z Z Z Z Z (.nil)) Z (e2.t h4) λ_ iD=>VX
 refine tQ ?_ ?_<;>intro c4;.refine Sr<|Je Y3 (vU) λs5 h5=>Wt 0 [_,_] Y9<|G5 ?_;exact rR [_,_] L (.agg (us:=[_,_]) 0 Z Z Z Z Z (.nil)) Z (e2.t h5) λ_ iD=>VX
 refine J9 ?_ ?_<;>intro c5
 .refine Sr<|Je Y3 (vU) λs6 h6=>Wt 0 [_,_] Y9<|G5 ?_;refine rR [_,_] L (.agg (us:=[_,_]) 0 Z Z Z Z Z (.nil)) Z (e2.t h6) λ_ iD=>?_;refine ⟨?_,Z⟩;have h0:¬ (t.cells < 1\/65536 < t.cells):=O
  have h1:64 < t.U.length:=O
  simp [kU,o5,h0,h1];done
 refine Jo ?_;refine lJ (γ:=Nat) (λk=>[(1,_),(2,_),(23,_),(24,_),(25,iB (k:Int))]) (λ_=>_) (λk tw=>Le D s2 tw/\(k<=n/\∀ i,i < k->BF t.U i=0)) (λk=>n - k) (λ_ _ _ h hl=>⟨h.1.trans hl,h.2⟩) 0 (.c5 Z Z Z Z Z (.nil _)) Z ⟨Le.refl _,⟨aB _,λi hi=>O⟩⟩ ?_;intro k s6 I6;have e6:=e2.t I6.1;have ko:=I6.2.1;have hI:=I6.2.2;refine J6 ?_ ?_<;>intro c7
 .have hk:k < n:=O
  obtain ⟨b,off,x,A',n',c',rfl,hx,hcx,hax,kL,je⟩:=ki.at_ (hA.le e6) hk;refine G7 ?_;refine iA (jK Y6 hk) Z<|iA (ku Y3 hcx Z) Z<|jh Z [_,_,_,_] Y2 λβ8 s8 h8=>mo Y2<|Wt 0 [_,_,_,_] Y9<|Nt<|Zs<|Sr<|iA (iZ 0 [_,_,_,_] Y5) Z<|Je Y3 (qfV (hax.le h8)) λs9 h9=>G9 ?_;have e9:=e6.t h8|>.t h9;refine lL Z ?_ ?_<;>intro mz
  .have hz:zu x≠0:=by simpa using mz
   refine G4 ?_;refine Je Y3 (vU) λkz jM=>Wt 1 [_,_] Y9<|G9 ?_;refine rR [_,_,_] L (.agg (us:=[_,_]) 1 Z Z Z Z Z (.nil)) Z (e9.t jM) λ_ iD=>?_;refine ⟨?_,Z⟩;have h0:¬ (t.cells < 1\/65536 < t.cells):=O
   have h1:¬ 64 < t.U.length:=O
   have hr:BF t.U k=zu x:=by simp [BF,hx,hz]
   have hb:=Z2 (f:=BF t.U) (m:=t.U.length) (j:=0) (k:=k) (λi _ hi=>hI i hi) O (by rw [hr];exact hz) O;simp [kU,o5,h0,h1,hb,hr];done
  have hz:zu x=0:=by simpa using mz
  refine G7 ?_;refine iA (GB Z Z Z Z Z O) Z<|iA (qZ Z) Z<|Je Y3 (qig (ki.take (hA.le e9) hk) (Gv x) (λs' y A'' n'' c''=>qmt)) λkz jM=>G2 ?_;refine su Z ?_ ?_<;>intro oL
  .have hy:=oL;refine Sr<|kb Y2<|Je Y3 (vU) λlq kV=>Wt 1 [_,_] Y9<|G8 ?_;refine rR [_,_,_] L (.agg (us:=[_,_]) 1 Z Z Z Z Z (.nil)) Z (e9.t jM|>.t kV) λ_ iD=>?_;refine ⟨?_,Z⟩;have h0:¬ (t.cells < 1\/65536 < t.cells):=O
   have h1:¬ 64 < t.U.length:=O
   have hr:BF t.U k=8:=by simp [BF,hx,hz,hy]
   have hb:=Z2 (f:=BF t.U) (m:=t.U.length) (j:=0) (k:=k) (λi _ hi=>hI i hi) O (by rw [hr];decide) O;simp [kU,o5,h0,h1,hb,hr];done
  have hy:=oL;refine G4 ?_;refine kq Y3 (jq O O)<|G2 ?_;refine iU ⟨(k+1),[_],kp,rfl,⟨(I6.1.t h8|>.t h9|>.t jM),⟨O,λi hi=>by rcases gB.1 hi with h|rfl;exact hI i h;simp [BF,hx,hz,hy]⟩⟩,O⟩
 refine G7 ?_;refine iA (jB [] [_,_] Y3 Z Z Z) Z<|Wt 0 [_,_] Y9<|G3 ?_;refine rR [_,_] L (.agg (us:=[_,_]) 0 Z Z Z Z Z (.nil)) Z e6 λ_ iD=>?_;refine ⟨?_,Z⟩;have h0:¬ (t.cells < 1\/65536 < t.cells):=O
 have h1:¬ 64 < t.U.length:=O
 have hb:=qj6 (f:=BF t.U) (m:=t.U.length) (j:=0) (λi _ hi=>hI i O);simp [kU,o5,h0,h1,hb];done
def Pn{p:Prop} (h:p:=by
 exact rY Z λ_ iD=>⟨by simp [kU, *],rfl⟩):p:=h
def qK8{x lo hi:Int}:jT D 7 [iB x,iB lo,iB hi] L s (.bool (decide (lo<=x/\x<=hi))):=by
 refine jn (fn:=f7) jb func7 V Z ntmps7 Z (rs:=[.tmp 6]) Z [(0,_),(1,_),(2,_)] Z<|G9 ?_;refine va Y3<|kb Y2<|?_;refine ld (t:=10) Z ?_ ?_<;>intro c1;.refine G5 ?_;refine EP Z Z Z<|G5 ?_;exact Pn
 refine G8 ?_;exact Pn
def YR{c:Int}:jT D 14 [iB c,iB i] L s (.agg #[iB c,iB i]):=by
 refine jn (fn:=f14) jb func14 V Z ntmps14 Z (rs:=[.cell 4 30]) Z [(0,_),(1,_)] Z<|Sr<|jh Z [_,_] Y2 ?_;exact ES
end
def qo8(l:List UInt8)(r:ByteArray):(l.map (λx=>(x.toNat:Int))).foldl (λr n=>r.push (UInt8.ofNat n.toNat)) r=⟨r.data++l.toArray⟩:=by
 induction l generalizing r with
 | nil=>cases r;simp
 | cons x l ih=>
  simp only [aN,gP,ih];apply fu;simp [ByteArray.push]
def UN{TT:kD}{fr:Fr}{t:Nat}{BR:TI}(hx:lk fr x=some (.slice A n c))(ht:jz TT t=some ti)(hk:ti.kind=.sl e)(he:jz TT e=some te)(hke:te.desc=.int .u8)
  (ht':jz TT t'=some BR) (sN:BR.desc=.string) (h:lP s0 A n c l):QE P TT D fr (.convert t t' x) ty K s0 (St l):=λhT dst iL af g ρ hρ L s ho hl _=>by
 obtain ⟨k1,k2,_⟩:=hT.at_ ht;rw [hk] at k2;simp only [TK.fits] at k2;rw [k2] at k1;have k3:=(hT.at_ he).1;rw [hke] at k3;have k4:=(hT.at_ ht').1;rw [sN] at k4;have hc:=run_convert_bytes_string (P:=P) (fill L s) t t' e A n c k1 k3 k4;simp only [execOp,hρ x _ hx,bA,hc];cases A with
 | none=>
  have:l=[]:=by
   cases l with
   | nil=>rfl
   | cons y l=>obtain ⟨b,off,cs,h1,_⟩:=h.2.2.2 0 y rfl;cases h1
  subst this;simp [Conv.bytesToString];rfl
 | some a=>
  have hcells:∀ j v,(l.map (λx=>Value.int .u8 (x.toNat:Int)))[j]?=some v->(fill L s).cell? (a.add j)=some v:=λj v hj=>by
   rw [bQ] at hj;cases hx:l[j]? with
   | none=>simp [hx] at hj
   | some y=>
    simp [hx] at hj;obtain ⟨b,off,cs,h1,h2,h3,rfl⟩:=h.2.2.2 j y hx;injection h1 with h1;subst h1
    have:=h2 0 _ rfl;rw [add_lit,<- hj];simpa using E7 ho (hl.cell this)
  have hload:=run_loadCells_list (P:=P) (fill L s) a (l.map (λx=>Value.int .u8 (x.toNat:Int))) hcells;rw [bB,<- h.1] at hload;have hr:=run_bytesToString (P:=P) (fill L s) a n c (l.map (λx=>(x.toNat:Int))) (by rw [hload,fR];rfl);rw [hr,qo8];have he:(⟨ByteArray.empty.data++l.toArray⟩:ByteArray)=⟨l.toArray⟩:=by apply fu;exact Array.empty_append
  simp only [aP,bG,he]
section
variable{A1:iE}
def qpR{α:Type}{l m:List α}(hl:l.length=m.length)(h:∀ i x,i < l.length->l[i]?=some x->m[i]?=some x):l=m:=by
 apply gr;intro i;by_cases hi:i < l.length
 . rw [h i _ hi (ap hi),ap hi]
 . rw [dh O,dh O]
theorem qpj{α:Type}{l m:List α}{i:Nat}{x y:α}(h1:l[i]?=some x)(h2:m[i]?=some y)(h:x≠y):l≠m:=by grind
def qj7{f:Nat->Int}(m j:Nat):(Am f m j).1=0->(Am f m j).2=0:=by
 induction m generalizing j with
 | zero=>intro _;rfl
 | succ m ih=>
  simp only [Am];split
  . intro h;contradiction
  . exact ih _
def Ud(t:oK):(o5 t).1=0->(o5 t).2=0:=by
 unfold o5;split
 . intro h;cases h
 split
 . intro h;cases h
 . exact qj7 _ _
def uA(t:oK)(m:lH):Int×Int:=
 if (o5 t).1≠0 then o5 t
 else if (m.cells.length:Int)≠t.cells then (9,-2)
 else if 400000 < m.aa.length\/20000 < m.output.length then (3,-2)
 else if m.stop < 0\/5 < m.stop then (4,-2)
 else if m.code≠0/\m.stop≠1 then (6,-2)
 else (0,0)
def tB(t:oK)(image:iG)(input:List UInt8):Int×Int:=
 if (o5 t).1≠0 then o5 t
 else if t.cells < (image.length:Int) then (3,-2)
 else if 400000 < input.length then (3,-3)
 else (0,0)
attribute [local irreducible] JC JO JA JB ma mO mX AC fill iy QE Ev my
def Cz7{p:Prop} (h:p:=by
 refine ⟨?_,Z⟩;have h0:l≠l1:=λe=>by subst e;omega
 simp [kU,h0];done):p:=h
def Cz8{p:Prop} (h:p:=by
 refine ⟨?_,Z⟩;have h0:l≠l1:=qpj hx hy hE;simp [kU,h0];done):p:=h
def Cz9{p:Prop} (h:p:=by
 refine ⟨?_,Z⟩;have h0:l=l1:=qpR O (λi x hi h=>hI i x O h);simp [kU,h0];done):p:=h
def YA{p:Prop} (h:p:=by
 refine G7 ?_;exact rY Z λ_ iD=>Cz7):p:=h
def Xs{p:Prop} (h:p:=by
 refine lw ?_;exact rR [] L (.t1 Z) Z I2.1 λ_ iD=>Cz9):p:=h
def Ih{p:Prop} (h:p:=by
  refine lL Z ?_ ?_<;>intro c5
  .have hE:x≠y:=by assumption
   refine lw ?_;exact rX [] L Z Lc λ_ iD=>Cz8
  have hE:x=y:=by simpa using c5
  refine G5 ?_;refine kq Y3 (jq O O)<|G2 ?_;refine iU ⟨(k+1),[],kp,Z,⟨Lc,⟨by omega,Dq hI hx (hE▸hy)⟩⟩,O⟩):p:=h
def qme{l:iG}(hA:lX s A n c l){l1:iG}(hB:lX s A1 n1 c1 l1):jT D 59 [.slice A n c,.slice A1 n1 c1] L s (.bool (decide (l=l1))):=by
 have hn:=hA.1;have nI:=hA.2.1;have pt:=hA.2.2.1;have l7:=hB.1;refine jn (fn:=f59) jb func59 V Z ntmps59 Z (rs:=[.tmp 4]) Z [(0,_),(1,_)] Z<|xe ?_;refine lL Z ?_ ?_<;>intro c1;.exact YA
 refine G9 ?_;refine lJ (γ:=Nat) (λk=>[(0,_),(1,_),(4,_),(5,iB (k:Int))]) (λ_=>_) (λk tw=>Le D s tw/\(k<=n/\∀ i x,i < k->l[i]?=some x->l1[i]?=some x)) (λk=>n - k) (λ_ _ _ h hl=>⟨h.1.trans hl,h.2⟩) 0 (.c4 Z Z Z Z (.nil _)) Z ⟨Le.refl _,⟨aB _,λi c hi=>O⟩⟩ ?_;intro k s2 I2;have ko:=I2.2.1;have hI:=I2.2.2;refine J9 ?_ ?_<;>intro c3
 .have hk:k < n:=O
  obtain ⟨b,off,x,rfl,hx,hcx,_⟩:=lX.at_ Pz hk;obtain ⟨b1,off1,y,rfl,hy,hcy,_⟩:=lX.at_ Pz (show k < n1 by omega);refine G5 ?_;refine mr jt 9 Z _ (λ_ h=>h) λs4 h4=>H2 ?_;refine za 2 Z (lK Y6 hk) Z<|za 3 Z (jS Y3 Pz Z) Z<|H2 ?_;refine za 6 Z (lK Y6 (show k < n1 by omega)) Z<|za 7 Z (jS Y3 Pz Z) Z<|za 8 Z (rD Z Z) Z<|ji V<|Zt ?_;exact Ih
 exact Xs
def Z8(hA:lP s A n c l)(hB:lP s A1 n1 c1 l1):jT D 12 [.slice A n c,.slice A1 n1 c1] L s (.bool (decide (l=l1))):=by
 refine jn (fn:=f12) jb func12 V Z ntmps12 Z (rs:=[.tmp 4]) Z [(0,_),(1,_)] Z<|G8 ?_;refine iA (UN Z Z Z Z Z Z Z Pz) Z<|kb Y2<|iA (UN Z Z Z Z Z Z Z Pz) Z<|uZ Y3<|G4 ?_;exact rY Z λ_ iD=>qH
theorem GV{p:Prop} (h:p:=by
 exact ⟨by simp only [kU,uA] at *;grind,rfl⟩):p:=h
def RF{p:Prop} (h:p:=by
 exact rR [_,_,_,_] L (.agg (us:=[_,_]) 1 Z Z Z Z Z (.nil)) Z Lc λ_ iD=>GV):p:=h
def GH{p:Prop} (h:p:=by
 refine Wt 1 [_,_] Y9<|G5 ?_;exact rR [_,_,_,_] L (.agg (us:=[_,_]) 1 Z Z Z Z Z (.nil)) Z Lc λ_ iD=>GV):p:=h
def qyE{t:oK}(hA:ki s A n c t.U){Bx Ox:iE}{nAx cAx yt cBx nOx cOx:Nat}(xB:lX s Ax nAx cAx m.cells)(vp:lP s Bx yt cBx m.aa)(yj:lP s Ox nOx cOx m.output):jT D 77 [.agg #[iB t.cells,.slice A n c],.agg #[.slice Ax nAx cAx,iJ m.r0,iJ m.r1,iJ m.r2,iJ m.r3,iJ m.r4,.slice Bx yt cBx,.slice Ox nOx cOx,iB m.stop,iJ m.code]] L s (.agg #[iB (uA t m).1,iB (uA t m).2]):=by
 have l7:=xB.1;have oW:=vp.1;have yp:=yj.1;have hF:=Ud t;refine jn (fn:=f77) jb func77 V Z ntmps77 Z (rs:=[.cell 4 30]) Z [(0,_),(1,_)] Z<|Sr<|kF Y2 λβ1 s1 h1=>kF Y2 λβ2 s2 h2=>jh Z [_,_] Y2 λβ3 s3 h3=>Nt<|Zs<|Sr<|iA (iZ 2 [_,_] Y5) Z<|Je Y3 (Td Pz) λs4 h4=>jh Z [_,_] Y2 λβ5 s5 h5=>Wt 0 [_,_] Y9<|Nt<|Sr<|iA (iZ 0 [_,_] Y5) Z<|iA (jB [] [_,_] Y3 Z Z Z) Z<|iA (ui Z Z (sp)) Z<|G2 ?_;refine lL Z ?_ ?_<;>intro c6;.refine Sr<|iA (iZ 0 [_,_] Y5) Z<|Wt 1 [_,_] Y9<|G4 ?_;exact RF
 refine lM ?_;refine Wl 3 Y6<|G4 ?_;refine lL Z ?_ ?_<;>intro c7;.refine Sr<|Je Y3 (vU) λs8 h8=>?_;exact GH
 refine G7 ?_;refine ld (t:=25) Z ?_ ?_<;>intro c8;.refine lw ?_;refine Je Y3 (vU) λs9 h9=>?_;exact GH
 refine x8 ?_ ?_<;>intro c9;.refine Sr<|Je Y3 (vU) λkH jG=>?_;exact GH
 refine G6 ?_;refine ld (t:=36) Z ?_ ?_<;>intro mz;.refine lM ?_;refine Je Y3 (vU) λkz jM=>?_;exact GH
 refine tQ ?_ ?_<;>intro nZ;.refine Sr<|Je Y3 (vU) λkh jE=>?_;exact GH
 refine G6 ?_;refine tG (t:=46) Z ?_ ?_<;>intro oL
 .refine lM ?_;refine lL Z ?_ ?_<;>intro pZ;.refine Sr<|Je Y3 (vU) λlG kI=>?_;exact GH
  refine G5 ?_;refine iA (jB [] [_,_] Y3 Z Z Z) Z<|Wt 1 [_,_] Y9<|G3 ?_;exact RF
 refine Jo ?_;refine iA (jB [] [_,_] Y3 Z Z Z) Z<|Wt 1 [_,_] Y9<|G3 ?_;exact RF
end
section
def AC.pub{f:FuncId}{args:iz}{R:Value->Hl->World->Prop}(h:AC P D f args L s (λv L' s'=>∃ M',L'=M'++L/\R v M' s')) :
  AC P D f args L s (λv L' s'=>L=L'/\∃ M' s1,R v M' s1/\Le D s1 s'/\∀ b zs t,(b,cb zs t)∈M'->iy s' b 0 zs):=by
 refine ⟨h.1,λho=>(h.2 ho).mono ?_⟩;rintro e w' ⟨v,L',s',h1,rfl,h3,h4,M',rfl,h6⟩;obtain ⟨d1,d2,d3⟩:=tI h3;refine ⟨v,L,fill M' s',h1,d1,d2,h4.trans d3,Z,M',s',h6,d3,λb zs t hm j u hj=>?_⟩;rw [Ca h3.left hm,aX];exact hj
end
section
def wv(l:iG):iz:=l.map (Value.int .u32)
def bv(l:List UInt8):iz:=l.map λx=>Value.int .u8 (x.toNat:Int)
def iv(l:iG):iz:=l.map (Value.int .i64)
def av(l:List Ac):iz:=l.flatMap Ac.cs
def AE(l:iG):(wv l).length=l.length:=by simp [wv]
def qHk(l:List UInt8):(bv l).length=l.length:=by simp [bv]
def lX.row{l:iG}(h:lX s A n c l):Row s A n 1 (wv l):=
 ⟨by simp [wv,h.1],λu hu=>by simp [wv] at hu;obtain ⟨x,_,rfl⟩:=hu;rfl,λj u hj=>by
  simp only [wv,bQ] at hj;cases hx:l[j]? with
  | none=>simp [hx] at hj
  | some x=>
   simp [hx] at hj;subst hj;obtain ⟨b,off,cs,h1,h2,_,rfl,_⟩:=h.2.2.2 j x hx;exact ⟨b,off,h1,by simpa using h2 0 _ rfl⟩⟩
def lP.row(h:lP s A n c l):Row s A n 1 (bv l):=
 ⟨by simp [bv,h.1],λu hu=>by simp [bv] at hu;obtain ⟨x,_,rfl⟩:=hu;rfl,λj u hj=>by
  simp only [bv,bQ] at hj;cases hx:l[j]? with
  | none=>simp [hx] at hj
  | some x=>
   simp [hx] at hj;subst hj;obtain ⟨b,off,cs,h1,h2,_,rfl⟩:=h.2.2.2 j x hx;exact ⟨b,off,h1,by simpa using h2 0 _ rfl⟩⟩
def lP.nil(s:World)(A:iE)(c:Nat)(hc:c<=9223372036854775807):lP s A 0 c []:=⟨rfl,aB _,hc,λi x h=>by cases h⟩
def lX.nil(s:World)(A:iE)(c:Nat)(hc:c<=9223372036854775807):lX s A 0 c []:=⟨rfl,aB _,hc,λi x h=>by cases h⟩
def Own.slice{sz:Nat}{A:Hl}(h:Own e sz A v n xs):∃ Ad c,v=.slice Ad n c/\n<=c/\c<=9223372036854775807:=by
 cases h with
 | nil=>exact ⟨none,0,rfl,ay _,O⟩
 | blk b cap n xs ys hn hc rz hm=>exact ⟨_,cap,rfl,rz,hm⟩
def Own.bts{A:Hl}(h:Own e 1 A (.slice Ad n c) n (bv l))(hp:∀ b zs t,(b,cb zs t)∈A->iy s b 0 zs):lP s Ad n c l:=by
 generalize hv:Value.slice Ad n c=v at h;generalize hx:bv l=xs at h;cases h with
 | nil=>
  injection hv with e1 e2 e3;have:l=[]:=by cases l with
   | nil=>rfl
   | cons y l=>simp [bv] at hx
  subst this;subst e3;exact lP.nil s Ad 0 O
 | blk b cap n xs ys hn hc rz hm=>
  injection hv with e1 e2 e3;subst e1;subst e3;subst hx;refine ⟨by simpa [bv] using hn.symm,rz,hm,λi x hi=>⟨b,0,[.int .u8 (x.toNat:Int)],Z,λj u hj=>?_,Z,Z⟩⟩;have hc:=hp b _ e Mc;cases j with
  | zero=>
   simp at hj;subst hj;have:=hc i (.int .u8 (x.toNat:Int)) (by rw [aV (by simp [bv];exact (al.1 hi).1)];simp [bv,hi]);simpa using this
  | succ j=>simp at hj
def Own.wds{A:Hl}{l:iG}(h:Own e 1 A (.slice Ad n c) n (wv l))(hu:∀ x∈l,iQ x)(hp:∀ b zs t,(b,cb zs t)∈A->iy s b 0 zs):lX s Ad n c l:=by
 generalize hv:Value.slice Ad n c=v at h;generalize hx:wv l=xs at h;cases h with
 | nil=>
  injection hv with e1 e2 e3;have:l=[]:=by cases l with
   | nil=>rfl
   | cons y l=>simp [wv] at hx
  subst this;subst e3;exact lX.nil s Ad 0 O
 | blk b cap n xs ys hn hc rz hm=>
  injection hv with e1 e2 e3;subst e1;subst e3;subst hx;refine ⟨by simpa [wv] using hn.symm,rz,hm,λi x hi=>⟨b,0,[iJ x],Z,λj u hj=>?_,Z,Z,hu x (ax hi)⟩⟩;have hc:=hp b _ e Mc;cases j with
  | zero=>
   simp at hj;subst hj;have:=hc i (iJ x) (by rw [aV (by simp [wv];exact (al.1 hi).1)];simp [wv,hi]);simpa using this
  | succ j=>simp at hj
def lX.u32{l:iG}(h:lX s A n c l):∀ x∈l,iQ x:=λx hx=>by
 obtain ⟨i,hi⟩:=bh hx;obtain ⟨b,off,cs,h1,h2,_,rfl,h4⟩:=h.2.2.2 i x hi;exact h4
def lP.tail{x:UInt8}(h:lP s A n c (x::l)):lP s (if c=1 then A else A.map (·.add (1 * 1))) (n - 1) (c - 1) l:=
 ⟨by have:=h.1;simp at this;omega,by have:=h.2.1;omega,by have:=h.2.2.1;omega,λi y hi=>by
  obtain ⟨b,off,cs,h1,h2,h3,h4⟩:=h.2.2.2 (i+1) y (by simpa using hi);have hl:i < l.length:=(al.1 hi).1;have hn:=h.1;simp at hn;have hc:=h.2.1;subst h1;refine ⟨b,off+1,cs,?_,?_,h3,h4⟩
  . rw [ak O];simp [add_lit]
  . rw [show off+1+i * 1=off+(i+1) * 1 by omega];exact h2⟩
def td(m:lH)(i:Int):Int:=if i=0 then m.r0 else if i=1 then m.r1 else if i=2 then m.r2 else if i=3 then m.r3 else m.r4
def nC(m:lH)(i v:Int):lH:={ m with r0:=if i=0 then v else m.r0,r1:=if i=1 then v else m.r1,r2:=if i=2 then v else m.r2,r3:=if i=3 then v else m.r3,r4:=if i=4 then v else m.r4 }
def lu(m:lH)(op:Int)(x:Tm):Int:=if x.kind=1 then td m x.val else if x.kind=2 then op else x.val
def mc(x:Int):Int:=x % 4294967296
def jR(k x y:Int):Int:=
 if k=1 then mc (x+y) else if k=2 then mc (x - y) else if k=3 then mc (x * y) else if k=4 then x / y else if k=5 then x % y
 else if k=6 then ((x.toNat &&& y.toNat:Nat):Int) else if k=7 then ((x.toNat ||| y.toNat:Nat):Int) else if k=8 then ((x.toNat ^^^ y.toNat:Nat):Int)
 else if k=9 then (((x.toNat <<< y.toNat) % 4294967296:Nat):Int) else if k=10 then ((x.toNat >>> y.toNat:Nat):Int)
 else if k=11 then (if x=y then 1 else 0) else if k=12 then (if x < y then 1 else 0) else x
def kn(m:lH)(a:Ac)(op:Int):lH:=
 let x:=lu m op a.x;let y:=lu m op a.y
 if (a.kind=4\/a.kind=5)/\y=0 then { m with stop:=4 }
 else if (a.kind=13\/a.kind=14)/\(m.cells.length:Int)<=x then { m with stop:=3 }
 else if a.kind=16/\m.output.length=20000 then { m with stop:=5 }
 else if a.kind=13 then nC m a.tgt (m.cells.getD x.toNat 0)
 else if a.kind=14 then { m with cells:=m.cells.set x.toNat y }
 else if a.kind=15 then (match m.aa with
  | []=>nC m a.tgt 4294967295
  | c::r=>{ nC m a.tgt (c.toNat:Int) with aa:=r })
 else if a.kind=16 then { m with output:=m.output++[UInt8.ofNat (x.toNat % 256)] }
 else if a.kind=17\/(a.kind=18/\y=0) then { m with stop:=1,code:=x }
 else if a.kind<=12\/(a.kind=19/\y=0) then nC m a.tgt (jR a.kind x y)
 else m
def mW(m:lH)(op:Int):List Ac->lH
 | []=>m
 | a::r=>if (kn m a op).stop=0 then mW (kn m a op) op r else kn m a op
def xa(pR:List Ins)(c:Int):Option Ins:=pR.find? λx=>decide (x.code=c)
def l9(t:oK)(m:lH):lH:=
 if (m.cells.length:Int)<=m.r4 then { m with stop:=3 }
 else match xa t.U (m.cells.getD m.r4.toNat 0) with
  | none=>{ m with stop:=2 }
  | some x=>
   if x.I then
    if m.r4+1=(m.cells.length:Int) then { m with stop:=3 } else mW { m with r4:=m.r4+2 } (m.cells.getD (m.r4+1).toNat 0) x.ad
   else mW { m with r4:=m.r4+1 } 0 x.ad
def pd(t:oK)(m:lH):Nat->lH×Nat
 | 0=>(m,0)
 | n+1=>if m.stop=0 then ((pd t (l9 t m) n).1,(pd t (l9 t m) n).2+1) else (m,0)
def qG(pR:List Ins)(c:Int):Nat->Nat
 | 0=>0
 | k+1=>match pR[k]? with
  | some x=>if x.code=c then k+1 else qG pR c k
  | none=>qG pR c k
structure sF(m:lH):Prop where
 cells:m.cells.length<=65536
 wide:∀ x∈m.cells,iQ x
 u0:iQ m.r0
 u1:iQ m.r1
 u2:iQ m.r2
 u3:iQ m.r3
 u4:iQ m.r4
 output:m.output.length<=20000
 aa:m.aa.length<=400000
 code:iQ m.code
end
def kK{TT:kD}{fr:Fr}{op:Op}{v':Value}(h:QE P TT D fr op ty K s0 v)(e:v=v'):QE P TT D fr op ty K s0 v':=e▸h
def Z_:(BinOp.and≠.eql/\BinOp.and≠.neq):=by simp
def qov:(BinOp.or≠.eql/\BinOp.or≠.neq):=by simp
def qlV:(BinOp.xor≠.eql/\BinOp.xor≠.neq):=by simp
def qlT:(BinOp.shl≠.eql/\BinOp.shl≠.neq):=by simp
def qlU:(BinOp.shr≠.eql/\BinOp.shr≠.neq):=by simp
def Gp{x:Int}(h:iQ x):(BitVec.ofInt 32 x).toNat=x.toNat:=by
 obtain ⟨h1,h2⟩:=h;rw [BitVec.toNat_ofInt];omega
def Ve(h:n < 4294967296):IntKind.u32.wrap (n:Int)=(n:Int):=by rw [dP];omega
section
variable{t:Nat}{x y:Int}
def N_(hx:iQ x)(hy:iQ y)(w:World):(binOp .and t (iJ x) (iJ y)).run P w=.ok (iJ ((x.toNat &&& y.toNat:Nat):Int)) w:=by
 have h:(BitVec.ofInt 32 x &&& BitVec.ofInt 32 y).toNat=x.toNat &&& y.toNat:=by rw [BitVec.toNat_and,Gp hx,Gp hy]
 have h2:x.toNat &&& y.toNat < 4294967296:=h▸(BitVec.ofInt 32 x &&& BitVec.ofInt 32 y).isLt;have h3:Op.intBits .and .u32 x y=pure (iJ (IntKind.u32.wrap ((BitVec.ofInt 32 x &&& BitVec.ofInt 32 y).toNat:Int))):=rfl;simp only [binOp,h3,h,Ve h2];rfl
def qoH(hx:iQ x)(hy:iQ y)(w:World):(binOp .or t (iJ x) (iJ y)).run P w=.ok (iJ ((x.toNat ||| y.toNat:Nat):Int)) w:=by
 have h:(BitVec.ofInt 32 x ||| BitVec.ofInt 32 y).toNat=x.toNat ||| y.toNat:=by rw [BitVec.toNat_or,Gp hx,Gp hy]
 have h2:x.toNat ||| y.toNat < 4294967296:=h▸(BitVec.ofInt 32 x ||| BitVec.ofInt 32 y).isLt
 have h3:Op.intBits .or .u32 x y=pure (iJ (IntKind.u32.wrap ((BitVec.ofInt 32 x ||| BitVec.ofInt 32 y).toNat:Int))):=rfl;simp only [binOp,h3,h,Ve h2];rfl
def Tv(hx:iQ x)(hy:iQ y)(w:World):(binOp .xor t (iJ x) (iJ y)).run P w=.ok (iJ ((x.toNat ^^^ y.toNat:Nat):Int)) w:=by
 have h:(BitVec.ofInt 32 x ^^^ BitVec.ofInt 32 y).toNat=x.toNat ^^^ y.toNat:=by rw [BitVec.toNat_xor,Gp hx,Gp hy]
 have h2:x.toNat ^^^ y.toNat < 4294967296:=h▸(BitVec.ofInt 32 x ^^^ BitVec.ofInt 32 y).isLt;have h3:Op.intBits .xor .u32 x y=pure (iJ (IntKind.u32.wrap ((BitVec.ofInt 32 x ^^^ BitVec.ofInt 32 y).toNat:Int))):=rfl;simp only [binOp,h3,h,Ve h2];rfl
def qkC(h:32<=n):(2:Nat) ^ n=4294967296 * 2 ^ (n - 32):=by
 rw [show n=32+(n - 32) by omega,Nat.pow_add];simp
def qDl(X Y:Nat):(X * 2 ^ min Y 32) % 4294967296=(X <<< Y) % 4294967296:=by
  rw [Nat.shiftLeft_eq];rcases Nat.le_total Y 32 with h|h
  . rw [gQ h]
  . rw [Nat.min_eq_right h,qkC h]
    rw [show X * (4294967296 * 2 ^ (Y - 32))=4294967296 * (X * 2 ^ (Y - 32)) by rw [Nat.mul_left_comm]];omega
def qDm(hX:X < 4294967296)(Y:Nat):X / 2 ^ min Y 32=X >>> Y:=by
  rw [Nat.shiftRight_eq_div_pow];rcases Nat.le_total Y 32 with h|h
  . rw [gQ h]
  . rw [Nat.min_eq_right h,Nat.div_eq_of_lt O,Nat.div_eq_of_lt]
    have:(2:Nat) ^ 32<=2 ^ Y:=Nat.pow_le_pow_right O h;omega
def qmc(hx:iQ x)(hy:iQ y)(w:World):(binOp .shl t (iJ x) (iJ y)).run P w=.ok (iJ (((x.toNat <<< y.toNat) % 4294967296:Nat):Int)) w:=by
 obtain ⟨X,rfl⟩:=aZ hx.1;obtain ⟨Y,rfl⟩:=aZ hy.1;have h3:Op.shift .shl .u32 (X:Int) .u32 (Y:Int)=pure (iJ (IntKind.u32.wrap ((X:Int) * 2 ^ min Y 32))):=by
  unfold Op.shift;rw [ak O];rfl
 have h4:IntKind.u32.wrap ((X:Int) * 2 ^ min Y 32)=(((X <<< Y) % 4294967296:Nat):Int):=by
  rw [dP,<- qDl];have:((X * 2 ^ min Y 32:Nat):Int)=(X:Int) * 2 ^ min Y 32:=by push_cast;rfl
  rw [<- this];omega
 simp only [binOp,h3,h4,aD];rfl
def qmd(hx:iQ x)(hy:iQ y)(w:World):(binOp .shr t (iJ x) (iJ y)).run P w=.ok (iJ ((x.toNat >>> y.toNat:Nat):Int)) w:=by
 obtain ⟨X,rfl⟩:=aZ hx.1;obtain ⟨Y,rfl⟩:=aZ hy.1;have h3:Op.shift .shr .u32 (X:Int) .u32 (Y:Int)=pure (iJ ((X:Int).fdiv (2 ^ min Y 32))):=by
  unfold Op.shift;rw [ak O];rfl
 have h4:(X:Int).fdiv (2 ^ min Y 32)=((X >>> Y:Nat):Int):=by
  rw [<- qDm (by have:=hx.2;omega)];have:((2 ^ min Y 32:Nat):Int)=(2:Int) ^ min Y 32:=by push_cast;rfl
  rw [<- this,Int.fdiv_eq_ediv_of_nonneg _ (dN _)];rfl
 simp only [binOp,h3,h4,aD];rfl
end
section
attribute [local irreducible] JC JO JA JB ma mO mX AC fill iy QE Ev my
variable{x y:Int}
def Gz(h1:0<=a)(h2:a < 4294967296):IntKind.u32.wrap a=a:=by rw [dP];omega
def Lg(a:Int):IntKind.u32.wrap a=mc a:=dP a
def JI(hx:iQ x)(hy:iQ y):mc (x.tdiv y)=x / y:=by
 obtain ⟨h1,h2⟩:=hx;obtain ⟨h3,h4⟩:=hy;rw [Int.tdiv_eq_ediv_of_nonneg h1];have h5:0<=x / y:=gS h1 h3;have h6:x / y<=x:=gI _ h1;unfold mc;omega
def JP(hx:iQ x):x.tmod y=x % y:=Int.tmod_eq_emod_of_nonneg hx.1
def qzN{b:Bool}:jT D 212 [.bool b] L s (iJ (if b then 1 else 0)):=by
 refine jn (fn:=f212) jb func212 V Z ntmps212 Z (rs:=[.tmp 2]) Z [(0,_)] Z<|lw ?_;refine su Z ?_ ?_<;>intro c1;.refine G7 ?_;exact Pn
 refine G8 ?_;exact Pn
def CY{p:Prop} (h:p:=by
 refine ⟨?_,Z⟩;simp [kU,jR,Lg, *];done):p:=h
def qph(hx:iQ x)(hy:iQ y)(hk:1<=k/\k<=12/\k≠4/\k≠5):jT D 168 [iB k,iJ x,iJ y] L s (iJ (jR k x y)):=by
 refine jn (fn:=f168) jb func168 V Z ntmps168 Z (rs:=[.tmp 6]) Z [(0,_),(1,_),(2,_)] Z<|Cx ?_ ?_<;>intro c1;.refine G4 ?_;refine iA (OY Z Z) Z<|G6 ?_;exact rY Z λ_ iD=>CY
 refine J6 ?_ ?_<;>intro c2;.refine G4 ?_;refine iA (O4 Z Z) Z<|G6 ?_;exact rY Z λ_ iD=>CY
 refine J6 ?_ ?_<;>intro c3;.refine G4 ?_;refine iA (UQ Z Z) Z<|G6 ?_;exact rY Z λ_ iD=>CY
 refine J6 ?_ ?_<;>intro c4;.refine G4 ?_;refine iA (Ci Z Z Z_ (N_ hx hy)) Z<|G6 ?_;exact rY Z λ_ iD=>CY
 refine J6 ?_ ?_<;>intro c5;.refine G4 ?_;refine iA (Ci Z Z qov (qoH hx hy)) Z<|G6 ?_;exact rY Z λ_ iD=>CY
 refine J6 ?_ ?_<;>intro c6;.refine G4 ?_;refine iA (Ci Z Z qlV (Tv hx hy)) Z<|G6 ?_;exact rY Z λ_ iD=>CY
 refine J6 ?_ ?_<;>intro c7;.refine G4 ?_;refine iA (Ci Z Z qlT (qmc hx hy)) Z<|G6 ?_;exact rY Z λ_ iD=>CY
 refine J6 ?_ ?_<;>intro c8;.refine G4 ?_;refine iA (Ci Z Z qlU (qmd hx hy)) Z<|G6 ?_;exact rY Z λ_ iD=>CY
 refine J6 ?_ ?_<;>intro c9;.refine G5 ?_;refine Je Y3 (qzN) λkH jG=>G6 ?_;exact rX [] L Z jG λ_ iD=>CY
 refine G8 ?_;refine Je Y3 (qzN) λkH jG=>G4 ?_;refine rR [] L (.t1 Z) Z jG λ_ iD=>?_;refine ⟨?_,Z⟩;have jE:k=12:=O
 simp [kU,jR,jE];done
end
section
variable{TT:kD}{fr:Fr}{ops:Array Oper}{op:Op}
def mv{id:Nat}{l:List Oper}(hm:P.follows .mixedOrders=true)(N:Nat)(hN:l.length=N)(j:Nat)
  (h:∀ s',Le D s s'->JA P TT D n l.toArray Q (L.take j) s' N (Array.replicate N false) fr L s'):JC P TT D n Q (.region id l.toArray true) fr L s:=mr hm N hN _ (λ_ hx=>eb hx) h
end
section
variable{TT:kD}{fr:Fr}{ops:Array Oper}{op:Op}
def OZ{t b len:Nat}(hx:lk fr x=some (.pointer (some ⟨b,off,none⟩)))(hy:lk fr y=some (.int ik i))(ht:jz TT t=some ti)(hk:ti.kind=.ar len e)(he:jz TT e=some te)
  (hs:te.size=1) (h0:0<=i) (h1:i < len):QE P TT D fr (.indexAddr t x y) ty K s0 (.pointer (some ⟨b,off+i.toNat * 1,none⟩)):=by
 obtain ⟨j,rfl⟩:=aZ h0;exact qyT hx hy ht hk he hs O
def xQ{t b len cap:Nat}(hY:lk fr x=some (.slice (some ⟨b,off,none⟩) len cap)/\lk fr y=some (.int ik i)/\jz TT t=some ti/\ti.kind=.sl e/\jz TT e=some te/\te.size=1) (h0:0<=i) (h1:i < len):QE P TT D fr (.indexAddr t x y) ty K s0 (.pointer (some ⟨b,off+i.toNat,none⟩)):=by
 obtain ⟨hx,hy,ht,hk,he,hs⟩:=hY
 obtain ⟨j,rfl⟩:=aZ h0;exact lK ⟨hx,hy,ht,hk,he,hs⟩ O
def qqu{t:Nat}{m:Nat}(hx:lk fr x=some (.slice A m c))(ht:jz TT t=some ti)(hk:ti.kind=.sl e):QE P TT D fr (.binOp .eql t x (.const (.slice none 0 0)) t') ty K s0 (.bool A.isNone):=
 QE.pure λhT dst iL af g ρ hρ w=>by
  obtain ⟨k1,k2,_⟩:=hT.at_ ht;rw [hk] at k2;simp only [TK.fits] at k2;rw [k2] at k1;have h0:ρ (.const (.slice none 0 0))=.slice none 0 0:=hρ _ _ rfl;have he:(Op.equal t (.slice A m c) (.slice none 0 0)).run P w=.ok A.isNone w:=by
   show (Op.equalIn (9999+1) t (.slice A m c) (.slice none 0 0)).run P w=_;unfold Op.equalIn;simp only [bA,aQ k1,aP];cases A<;>simp
  simp [execOp,hρ x _ hx,h0,eqGuard,binOp,he]
end
section
variable{op:Int}{tl y:iz}{bm bc bq nc cc ni ci no co nx cx:Nat}{l:iG}{Ai Ao:iE}
def qCH(m:lH)(h:0<=i/\i<=4):nth (C::iJ m.r0::iJ m.r1::iJ m.r2::iJ m.r3::iJ m.r4::tl) (1+i.toNat * 1)=some (iJ (td m i)):=by
 have:i=0\/i=1\/i=2\/i=3\/i=4:=O
 rcases this with rfl|rfl|rfl|rfl|rfl<;>rfl
def qDs(m:lH)(h:0<=i/\i<=4)(v:Int):pk (C::iJ m.r0::iJ m.r1::iJ m.r2::iJ m.r3::iJ m.r4::tl) (1+i.toNat * 1) [iJ v] =
  C::iJ (nC m i v).r0::iJ (nC m i v).r1::iJ (nC m i v).r2::iJ (nC m i v).r3::iJ (nC m i v).r4::tl:=by
 have:i=0\/i=1\/i=2\/i=3\/i=4:=O
 rcases this with rfl|rfl|rfl|rfl|rfl<;>simp [pk,nC]
def qBw(h:0<=i/\i<=4){a0 a1 a2 a3 a4 a5:Value}:Nat.ble (1+i.toNat * 1+1) (a0::a1::a2::a3::a4::a5::tl).length=true:=by
 rw [fY];simp;omega
section
variable(a0 a1 a2 a3 a4 a5 a6 a7 a8 a9 a10 q o:Value)
def qIl(h:sm.length=256):nth (a0::a1::a2::a3::a4::a5::a6::a7::a8::a9::a10::(iv sm++[q,o])) 268=some o:=by simp_all [wc,iv]
def qss(h:sm.length=256):nth (a0::a1::a2::a3::a4::a5::a6::a7::a8::a9::a10::(iv sm++[q,o])) 267=some q:=by simp_all [wc,iv]
def qsu{p:Int}(h:sm[j]?=some p):nth (a0::a1::a2::a3::a4::a5::a6::a7::a8::a9::a10::(iv sm++[q,o])) (11+j * 1)=some (iB p):=by
 rw [wc,eK,fe];simp only [bH];rw [aV (by simp [iv];exact (al.1 h).1)];simp [iv,h]
def qte(p:Int)(h:j < sm.length):pk (a0::a1::a2::a3::a4::a5::a6::a7::a8::a9::a10::(iv sm++[q,o])) (11+j * 1) [iB p]=a0::a1::a2::a3::a4::a5::a6::a7::a8::a9::a10::(iv (sm.set j p)++[q,o]):=by
 rw [eK,fe];simp only [pk];have:∀ (l:iz) (r:iz) (i:Nat) (v:Value),i < l.length->pk (l++r) i [v]=l.set i v++r:=by
  intro l;induction l with
  | nil=>intro r i v h;simp at h
  | cons x l ih=>
   intro r i v h;cases i with
   | zero=>simp [pk]
   | succ i=>simp only [ao,pk,dr];rw [ih r i v Q2]
 rw [this _ _ _ _ (by simpa [iv] using h)];simp [iv,gL]
def qIY(h:sm.length=256):pk (a0::a1::a2::a3::a4::a5::a6::a7::a8::a9::a10::(iv sm++[q,o])) 268 [v]=a0::a1::a2::a3::a4::a5::a6::a7::a8::a9::a10::(iv sm++[q,v]):=by
 rw [Du _ _ _ (by simp [iv,h])];have h1:(iv sm).length=256:=by simp [iv,h]
 simp only [aw,aq,fN,eh,ao];rw [List.take_append,aL (by simp [h1])];simp [h1,aK]
def qHh(h:sm.length=256):Nat.ble (268+1) (a0::a1::a2::a3::a4::a5::a6::a7::a8::a9::a10::(iv sm++[q,o])).length=true:=by
 rw [fY];simp [iv,h]
def qqT(h:sm.length=256)(hj:j < 256):Nat.ble (11+j * 1+1) (a0::a1::a2::a3::a4::a5::a6::a7::a8::a9::a10::(iv sm++[q,o])).length=true:=by
 rw [fY];simp [iv,h];omega
end
theorem qIm{x:Int}(h:l[j]?=some x):nth (wv l++y) j=some (iJ x):=by grind [wc,wv]
def qIZ(v:Int)(h:j < l.length):pk (wv l++y) j [iJ v]=wv (l.set j v)++y:=by
 rw [Du _ _ _ (by simp [wv];omega)];have h1:(wv l).length=l.length:=by simp [wv]
 rw [ej O,fA Q6];simp only [wv,gL];rw [fc];simp [h]
def qHi(h:j < l.length):Nat.ble (j+1) (wv l++y).length=true:=by
 rw [fY];simp [wv];omega
def DS(bm:Nat)(X:Value)(sm:iG)(bq:Nat)(es:List (Int×Value×Nat))(ck:Nat)(op:Int)(m:lH)(M:Hl)(s:World):Prop:=
 ∃ bc cc yc Oq9 Ao co Ai ni ci,M=(bm,cb (.slice (jZ bc) m.cells.length cc::iJ m.r0::iJ m.r1::iJ m.r2::iJ m.r3::iJ m.r4::.slice Ai ni ci::.slice Ao m.output.length co::iB m.stop::iJ m.code::X ::
  (iv sm++[.map (some bq),iJ op])) 183)::(bc,cb (wv m.cells++yc) 34)::(bq,mp (Value.int .u32) es ck)::Oq9/\Own 5 1 Oq9 (.slice Ao m.output.length co) m.output.length (bv m.output)/\lP s Ai ni ci m.aa
  /\ m.cells.length+yc.length=cc/\cc<=9223372036854775807
def fp(A:iE)(p:Nat):iE:=if p=0 then none else A.map (·.add ((p - 1) * 4))
def qCe{b p:Nat}(h:p≠0):fp (some ⟨b,off,none⟩) p=some ⟨b,off+(p - 1) * 4,none⟩:=by simp [fp,h,add_lit]
def SW(h1:0<=a)(h2:a < 18446744073709551616):IntKind.u64.wrap a=a:=by simp [IntKind.wrap,IntKind.bits,IntKind.signed];omega
attribute [local irreducible] JC JO JA JB ma mO mX AC fill iy QE Ev my
def P0{p:Prop} (h:p:=by
 have hz:A=none:=by cases A<;>simp_all
 subst hz;have hl:l=[]:=by
  cases l with
  | nil=>rfl
  | cons x l=>obtain ⟨b,off,cs,h1,_⟩:=hA.2.2.2 0 x rfl;cases h1
 have hn0:=hA.1;subst hl;simp at hn0;subst hn0;exact ⟨[],rfl,none,0,rfl,ay _,by omega,.nil⟩):p:=h
def P4{p:Prop} (h:p:=by
 simp only [aX,aC] at o1;obtain ⟨Ad,c',rfl,k1,k2⟩:=Own.slice o1;exact ⟨_,rfl,Ad,c',rfl,k1,k2,o1⟩):p:=h
def Yx{p:Prop} (h:p:=by
 refine G7 ?_;exact rR [] _ (.t1 Z) Z (Lr D) λ_ iD=>P0):p:=h
def W6{p:Prop} (h:p:=by
 intro v1 A1 s3 h3 o1;simp only [aC];refine G4 ?_;exact rR [] _ (.t1 Z) Z Lc λ_ iD=>P4):p:=h
def sV{l:List UInt8}(hA:lP s A n c l)(hn:n<=1000000):pQ D 76 [.slice A n c] L s λv M' _=>∃ Ad c',v=.slice Ad n c'/\n<=c'/\c'<=9223372036854775807/\Own 5 1 M' (.slice Ad n c') n (bv l):=by
 refine jn (fn:=f76) jb func76 V Z ntmps76 Z (rs:=[.tmp 2]) Z [(0,_)] Z<|G9 ?_;refine iA (qqu Z Z Z) Z<|G2 ?_;refine su Z ?_ ?_<;>intro c1;.exact Yx
 refine Zk<|Zt<|Sr<|KQ (sz:=1) Z Z Z Z λβo s2 h2 oo=>kb Y2<|rQ [] [_] _ Y7 oo (hA.row.le h2) ⟨by simp [Da];omega,O⟩ Z ?_;exact W6
def F5(hA:lX s A n c l)(hn:n<=1000000):pQ D 72 [.slice A n c] L s λv M' _=>∃ Ad c',v=.slice Ad n c'/\n<=c'/\c'<=9223372036854775807/\Own 34 1 M' (.slice Ad n c') n (wv l):=by
 refine jn (fn:=f72) jb func72 V Z ntmps72 Z (rs:=[.tmp 2]) Z [(0,_)] Z<|G9 ?_;refine iA (qqu Z Z Z) Z<|G2 ?_;refine su Z ?_ ?_<;>intro c1;.exact Yx
 refine Zk<|Zt<|Sr<|KQ (sz:=1) Z Z Z Z λβo s2 h2 oo=>kb Y2<|rQ [] [_] _ Y7 oo (hA.row.le h2) ⟨by simp [pY];omega,O⟩ Z ?_;exact W6
def Sz{p:Prop} (h:p:=by
 exact ⟨[_],rfl,by simp [kU,lu, *],rfl⟩):p:=h
def qoW(oc:sm.length=256){x:Tm}(hv:x.kind=1->0<=x.val/\x.val<=4):po D 166 [iT bm,.agg #[iB x.kind,iJ x.val]] [(bm,cb (.slice (jZ bc) nc cc::iJ m.r0::iJ m.r1::iJ m.r2::iJ m.r3::iJ m.r4::.slice Ai ni ci::.slice Ao no co::iB m.stop::iJ m.code::.slice Ax nx cx::(iv sm++[.map (some bq),iJ op])) 183)] L s λv M' _=>v=iJ (lu m op x)/\M'=[(bm,cb (.slice (jZ bc) nc cc::iJ m.r0::iJ m.r1::iJ m.r2::iJ m.r3::iJ m.r4::.slice Ai ni ci::.slice Ao no co::iB m.stop::iJ m.code::.slice Ax nx cx::(iv sm++[.map (some bq),iJ op])) 183)]:=by
 refine jn (fn:=f166) jb func166 V Z ntmps166 Z (rs:=[.tmp 4]) Z [(0,_),(1,_)] Z<|Sr<|kF Y2 λβ1 s1 h1=>MX ?_ ?_<;>intro c2;.have hk:=c2;refine Zs<|mr jt 9 Z _ (λ_ h=>h) λs3 h3=>H6 ?_;refine za 6 Z (OZ Z Z Z Z Z Z (hv hk).1 (by have:=(hv hk).2;omega)) Z<|za 7 Z (rS 1 Y4 (qCH m (hv hk))) Z<|H1 ?_;refine ji V<|G4 ?_;exact rR [_] _ (.t1 Z) Z Lc λ_ iD=>Sz
 refine J6 ?_ ?_<;>intro c3;.refine G5 ?_;refine iA (rS 1 Y4 (qIl _ _ _ _ _ _ _ _ _ _ _ _ _ oc)) Z<|G6 ?_;exact rR [_] _ (.t1 Z) Z h1 λ_ iD=>Sz
 refine lw ?_;exact rR [_] _ (.t1 Z) Z h1 λ_ iD=>Sz
def NZ(oc:sm.length=256){x:Int}(hx:iQ x)(rz:nc<=65536):po D 123 [iT bm,iJ x] [(bm,cb (.slice (jZ bc) nc cc::iJ m.r0::iJ m.r1::iJ m.r2::iJ m.r3::iJ m.r4::.slice Ai ni ci::.slice Ao no co::iB m.stop::iJ m.code::.slice Ax nx cx::(iv sm++[.map (some bq),iJ op])) 183)] L s λv M' _=>v=.bool (decide (x < (nc:Int)))/\M'=[(bm,cb (.slice (jZ bc) nc cc::iJ m.r0::iJ m.r1::iJ m.r2::iJ m.r3::iJ m.r4::.slice Ai ni ci::.slice Ao no co::iB m.stop::iJ m.code::.slice Ax nx cx::(iv sm++[.map (some bq),iJ op])) 183)]:=by
 have z7:=hx.1;have tY:=hx.2;refine jn (fn:=f123) jb func123 V Z ntmps123 Z (rs:=[.tmp 4]) Z [(0,_),(1,_)] Z<|G8 ?_;refine iA (sW Y5 (SW O O)) Z<|G6 ?_;refine iA (sW Y5 (SW O O)) Z<|G5 ?_;exact rR [] _ (.t1 Z) Z (Lr D) λ_ iD=>⟨[_],rfl,rfl,rfl⟩
def ZH(w:World):yB prog 181 (.int .u32) (iB 0):=⟨_,_,underlying181,underlying34,λw=>by rw [Dt KM];rfl⟩
def GX{p:Prop} (h:p:=by
 exact ⟨[_,_,_],rfl,by simp [kU,fp,Bn,add_lit,yL],rfl⟩):p:=h
def HW{p:Prop} (h:p:=by
  refine mG Z ?_ ?_<;>intro c2
  .have Bn:p=0:=by omega
   refine G8 ?_;exact rR [] _ (.tmp Z (.t1 Z)) Z (Lr D) λ_ iD=>GX
  have Bn:p≠0:=by omega
  obtain ⟨bx,ox,ix,A',n',c',rfl,_,_⟩:=ki.at_ hX (show p - 1 < nx by omega);refine G9 ?_;refine iA (kK (O4 Z Z) (show Value.int .i64 (IntKind.i64.wrap ((p:Int) - 1))=iB ((p - 1:Nat):Int) from by rw [jq O O];congr 1;omega)) Z<|iA (jK Y6 O) Z<|G5 ?_;exact rR [] _ (.tmp Z (.t1 Z)) Z (Lr D) λ_ iD=>GX):p:=h
def qB2(oc:sm.length=256)(es:List (Int×Value×Nat))(ck:Nat)(l:List Ins)(hX:ki s Ax nx cx l){c:Int}(hc:iQ c)(p:Nat)(hp:p<=nx)(h1:c < 256->sm[c.toNat]?=some (p:Int))(h2:256<=c->(kX es c).getD (iB 0)=iB (p:Int)):po D 124 [iT bm,iJ c] [(bm,cb (.slice (jZ bc) nc cc::iJ m.r0::iJ m.r1::iJ m.r2::iJ m.r3::iJ m.r4::.slice Ai ni ci::.slice Ao no co::iB m.stop::iJ m.code::.slice Ax nx cx::(iv sm++[.map (some bq),iJ op])) 183),(bc,cb zs 34),(bq,mp (Value.int .u32) es ck)] L s λv M' _=>v=.tuple #[.pointer (fp Ax p),.bool (decide (p≠0))]/\M'=[(bm,cb (.slice (jZ bc) nc cc::iJ m.r0::iJ m.r1::iJ m.r2::iJ m.r3::iJ m.r4::.slice Ai ni ci::.slice Ao no co::iB m.stop::iJ m.code::.slice Ax nx cx::(iv sm++[.map (some bq),iJ op])) 183),(bc,cb zs 34),(bq,mp (Value.int .u32) es ck)]:=by
 have nI:=hc.1;have pt:=hc.2;have hn:=hX.1;have hcx1:=hX.2.1;have hcx2:=hX.2.2.1;refine jn (fn:=f124) jb func124 V Z ntmps124 Z (rs:=[.tmp 4,.tmp 5]) Z [(0,_),(1,_)] Z<|Cx ?_ ?_<;>intro c1;.have hsmall:=h1 O;refine G5 ?_;refine iA (OZ Z Z Z Z Z Z O O) Z<|iA (rS 0 Y4 (qsu _ _ _ _ _ _ _ _ _ _ _ _ _ hsmall)) Z<|lM ?_;exact HW
 have hbig:=h2 O;refine G4 ?_;refine iA (rS 0 Y4 (qss _ _ _ _ _ _ _ _ _ _ _ _ _ oc)) Z<|kb Y2<|iA (kK (G_ (jO.int .u32) 2 (ZH default) Z Z Z) hbig) Z<|lM ?_;exact HW
def DN(oc:sm.length=256){v:Int}(a:Ac)(ba oa:Nat){βa βm:Nat}(vO:iy s ba oa [iB a.kind,iB a.tgt,iB a.x.kind,iJ a.x.val,iB a.y.kind,iJ a.y.val])(ht:0<=a.tgt/\a.tgt<=4):jU D 167 [iJ v,iT βm,iT βa] ((βa,cb [.pointer (some ⟨ba,oa,none⟩)] 235)::(βm,cb [iT bm] 178)::(bm,cb (.slice (jZ bc) nc cc::iJ m.r0::iJ m.r1::iJ m.r2::iJ m.r3::iJ m.r4::.slice Ai ni ci::.slice Ao no co::iB m.stop::iJ m.code::.slice Ax nx cx::(iv sm++[.map (some bq),iJ op])) 183)::L) s λw L' _=>w=.tuple #[]/\L'=(βa,cb [.pointer (some ⟨ba,oa,none⟩)] 235)::(βm,cb [iT bm] 178)::(bm,cb (.slice (jZ bc) nc cc::iJ (nC m a.tgt v).r0::iJ (nC m a.tgt v).r1::iJ (nC m a.tgt v).r2::iJ (nC m a.tgt v).r3::iJ (nC m a.tgt v).r4::.slice Ai ni ci::.slice Ao no co::iB m.stop::iJ m.code::.slice Ax nx cx::(iv sm++[.map (some bq),iJ op])) 183)::L:=by
 refine jn (fn:=f167) jb func167 V Z ntmps167 Z (rs:=[]) Z [(0,_),(1,_),(2,_)] Z<|pM jt 11 Z [2] Q4 λs1 h1=>H4 ?_;refine za 4 Z (nK 1 Y3 Pz Z) Z<|H4 ?_;refine za 9 Z (OZ Z Z Z Z Z Z ht.1 (by have:=ht.2;omega)) Z<|iF 10 V<|w8 Z Tt 2 _ Y5 (qBw ht) Z (qDs m ht v) Z (λx hx=>hx)<|ji V ?_;refine lF [] _ (.inl Z) (.nil) Z h1 λ_ iD=>?_;exact qH
end
def PJ(L:Hl)(i:Nat):Hl:=match L[i]? with
 | some x=>x::L.eraseIdx i
 | none=>L
def jA(L:Hl)(i:Nat):L.Perm (PJ L i):=by
 unfold PJ;cases h:L[i]? with
 | none=>exact eJ _
 | some x=>
  induction L generalizing i with
  | nil=>simp at h
  | cons y L ih=>
   cases i with
   | zero=>simp at h;subst h;exact eJ _
   | succ i=>
    simp at h;simp only [eZ];exact ((ih i h).cons y).trans (List.Perm.swap x y _)
def sq{TT:kD}{fr:Fr}{c:Code}(i:Nat)(h:JC P TT D n Q c fr (PJ L i) s):JC P TT D n Q c fr L s:=λht a hr ho=>by
 rw [uc (jA L i) _ ho];exact h ht a hr (ho.perm (jA L i))
def iy.sub{b:Nat}{us:iz}(j:Nat)(h:iy s b off vs)(hc:cut vs j us.length=some us):iy s b (off+j) us:=λi v hi=>by
 obtain ⟨_,h2⟩:=TQ hc;rw [dA];exact h (j+i) v (h2 i v hi)
def Own.blk_of(h:Own e 1 M (.slice Ad n c) n xs)(hn:0 < n):∃ b ys,M=[(b,cb (xs++ys) e)]/\Ad=jZ b/\xs.length+ys.length=c/\c<=9223372036854775807:=by
 generalize hv:Value.slice Ad n c=v at h;cases h with
 | nil=>omega
 | blk b cap n xs ys h1 h2 h3 h4=>
  injection hv with e1 e2 e3;exact ⟨b,ys,rfl,e1,O,O⟩
section
variable{l:iG}{y:iz}
def TH{α:Type}{l:List α}{x:α}(h:l[0]?=some x):∃ r,l=x::r:=by
 cases l with
 | nil=>cases h
 | cons y r=>simp at h;exact ⟨r,by rw [h]⟩
structure AQ(a:Ac):Prop where
 kind:0<=a.kind/\a.kind<=19
 tgt:0<=a.tgt/\a.tgt<=4
 x:a.x.kind=1->0<=a.x.val/\a.x.val<=4
 y:a.y.kind=1->0<=a.y.val/\a.y.val<=4
 ux:iQ a.x.val
 uy:iQ a.y.val
def OC(h:sF m){op:Int}(ho:iQ op){x:Tm}(hx:iQ x.val):iQ (lu m op x):=by
 unfold lu td;have:=h.u0;have:=h.u1;have:=h.u2;have:=h.u3;have:=h.u4;repeat' split
 all_goals assumption
section
variable{a:Ac}{op:Int}
def qGR(h:a.kind=0):kn m a op=nC m a.tgt (lu m op a.x):=by simp [kn,h,jR]
def qA6(h:a.kind=19)(hy:lu m op a.y=0):kn m a op=nC m a.tgt (lu m op a.x):=by simp [kn,h,hy,jR]
def quq(h:a.kind=19)(hy:¬ lu m op a.y=0):kn m a op=m:=by simp [kn,h,hy]
def qA7(h:a.kind=4)(hy:lu m op a.y=0):kn m a op={ m with stop:=4 }:=by simp [kn,h,hy]
def qA8(h:a.kind=5)(hy:lu m op a.y=0):kn m a op={ m with stop:=4 }:=by simp [kn,h,hy]
def qGS(h:a.kind=4)(hy:¬ lu m op a.y=0):kn m a op=nC m a.tgt (lu m op a.x / lu m op a.y):=by simp [kn,h,hy,jR]
def qGT(h:a.kind=5)(hy:¬ lu m op a.y=0):kn m a op=nC m a.tgt (lu m op a.x % lu m op a.y):=by simp [kn,h,hy,jR]
def quk(h:a.kind=13)(hx:¬ lu m op a.x < (m.cells.length:Int)):kn m a op={ m with stop:=3 }:=by
 have:(m.cells.length:Int)<=lu m op a.x:=O
 simp [kn,h,this]
def qul(h:a.kind=14)(hx:¬ lu m op a.x < (m.cells.length:Int)):kn m a op={ m with stop:=3 }:=by
 have:(m.cells.length:Int)<=lu m op a.x:=O
 simp [kn,h,this]
def qA0(h:a.kind=13)(hx:lu m op a.x < (m.cells.length:Int)):kn m a op=nC m a.tgt (m.cells.getD (lu m op a.x).toNat 0):=by
 have:¬ (m.cells.length:Int)<=lu m op a.x:=O
 simp [kn,h,this]
def qA1(h:a.kind=14)(hx:lu m op a.x < (m.cells.length:Int)):kn m a op={ m with cells:=m.cells.set (lu m op a.x).toNat (lu m op a.y) }:=by
 have:¬ (m.cells.length:Int)<=lu m op a.x:=O
 simp [kn,h,this]
def qum(h:a.kind=15)(hi:m.aa=[]):kn m a op=nC m a.tgt 4294967295:=by simp [kn,h,hi]
def qA2(h:a.kind=15){c:UInt8}{r:List UInt8}(hi:m.aa=c::r):kn m a op={ nC m a.tgt (c.toNat:Int) with aa:=r }:=by simp [kn,h,hi]
def qun(h:a.kind=16)(hm:sF m)(ho:20000<=m.output.length):kn m a op={ m with stop:=5 }:=by
 have:m.output.length=20000:=by have:=hm.output;omega
 simp [kn,h,this]
def qA3(h:a.kind=16)(ho:¬ 20000<=m.output.length):kn m a op={ m with output:=m.output++[UInt8.ofNat ((lu m op a.x).toNat % 256)] }:=by
 have:¬ m.output.length=20000:=O
 simp [kn,h,this]
def qA4(h:a.kind=17):kn m a op={ m with stop:=1,code:=lu m op a.x }:=by simp [kn,h]
def qA5(h:a.kind=18)(hy:lu m op a.y=0):kn m a op={ m with stop:=1,code:=lu m op a.x }:=by simp [kn,h,hy]
def qup(h:a.kind=18)(hy:¬ lu m op a.y=0):kn m a op=m:=by simp [kn,h,hy]
theorem quj(h:1<=a.kind/\a.kind<=12/\a.kind≠4/\a.kind≠5):kn m a op=nC m a.tgt (jR a.kind (lu m op a.x) (lu m op a.y)):=by grind [kn]
end
def ON(h0:0<=i)(h:i < l.length):nth (wv l++y) (0+i.toNat)=some (iJ (l.getD i.toNat 0)):=by
 rw [aX];exact qIm (by rw [ap O];simp [List.getD,show i.toNat < l.length by omega])
def qtf(v:Int)(h0:0<=i)(h:i < l.length):pk (wv l++y) (0+i.toNat) [iJ v]=wv (l.set i.toNat v)++y:=by
 rw [aX];exact qIZ v O
def qqU(h0:0<=i)(h:i < l.length):Nat.ble (0+i.toNat+1) (wv l++y).length=true:=by
 rw [aX];exact qHi O
def qKo{x:Int}(h:iQ x):IntKind.u8.wrap x=((UInt8.ofNat (x.toNat % 256)).toNat:Int):=by
 obtain ⟨h1,h2⟩:=h;rw [IntKind.wrap_u8];simp [eW];omega
end
end Go.Proofs.YtemgonlhniicbaaGreatDoor
