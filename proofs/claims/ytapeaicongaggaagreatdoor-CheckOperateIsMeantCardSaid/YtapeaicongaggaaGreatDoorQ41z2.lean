/- Part 2. -/
import Derived.Test.YtapeaicongaggaaGreatDoorQ41z1
set_option linter.unusedVariables false
set_option linter.defProp false
set_option linter.unusedSimpArgs false
set_option linter.unnecessarySimpa false
set_option maxRecDepth 100000
set_option maxHeartbeats 8000000
namespace Go.Proofs.YtapeaicongaggaaGreatDoor
open Go Go.RowKit Go.Proofs.Tryz
def an:=@List.append_assoc
def ax:=@List.getElem?_eq_getElem
def aG:=@List.eq_nil_of_length_eq_zero
def aU:=@List.mem_append
def aV:=@List.mem_singleton
def aX:=@Int.eq_ofNat_of_zero_le
def bC:=@List.getElem?_of_mem
def bO:=@decide_eq_true
def bQ:=@decide_eq_false
def cQ:=@IntKind.wrap_u32
def dh:=@Bool.or_eq_true
def di:=@List.getElem?_eq_none
def dJ:=@List.perm_append_comm
def dR:=@List.map_nil
def dY:=@Go.MapKept.run_getObj_map
def eo:=@Go.MapKept.run_findKey
def eB:=@List.take_append_drop
def eD:=@Bool.eq_false_iff
def eJ:=@Nat.pow_le_pow_right
def eO:=@Nat.add_comm
def eP:=@Nat.pow_succ
def fg:=@Array.getElem?_modify
def fj:=@Nat.min_eq_right
def fK:=@run_equalIn_int
def fP:=@List.getElem_of_mem
def fU:=@List.map_map
def gb:=@Nat.xor_lt_two_pow
def gn:=@Go.MapKept.run_setObj_map
def gv:=@List.ext_getElem?
def gy:=@Nat.or_lt_two_pow
def gD:=@Nat.lt_succ_iff_lt_or_eq
def gI:=@List.map_toArray
def gJ:=@Nat.div_eq_of_lt
def gP:=@Nat.testBit_lt_two_pow
def gX:=@run_equalIn_agg
def gY:=@Nat.min_eq_left
variable{A A1 A' Ad Ax Bx Ox:OAdr9}{P:Program}{s s0 s' w':World}{l:List UInt8}{x y:Operand}{n D c jr ty m e k i0 d ck t' j fo i X dl dc n' Zq9:Nat}{af:Array Edge}{news xs zs vs xs':LVal9}{v zv z v':Value}{b:Int}{iS:String}{ti te:TI}{Q:qd}{L L' K L0:Hl}{iP:List Oper}{ik:IntKind}{r:kG}{os:List Nat}{dk:TypeDesc}{o:Bool}
section
open Go.Proofs
def jZ.nil:jZ P []:=λ_ h=>by cases h
def jZ.cons{x:Nat×TI}(h:x.2.ok P x.1)(k:jZ P r):jZ P (x::r):=λy hy=>by
 rcases aW.1 hy with rfl|hy
 . exact h
 . exact k y hy
def OT{p:Prop}(h:p:=by refine ⟨by first|trivial|kernel_rfl,by kernel_rfl,by first|rfl|kernel_rfl,by first|rfl|kernel_rfl,by decide,by first|exact λ_=>rfl|(intro h;cases h),by kernel_rfl,by kernel_rfl⟩):p:=h
noncomputable section
def nH(k:Nat):TypeDesc:=(Tryz.prog.underlying k).getD .bool
def Gv:TI:=⟨.sc,.int .i64,1,8,[iJ 0],[]⟩
def Kf:Gv.ok Tryz.prog 3:=⟨Tryz.underlying3,OT⟩
def ti4:TI:=⟨.sc,.bool,1,1,[.bool false],[]⟩
def CQ:TI:=⟨.sc,.int .u8,1,1,[.int .u8 0],[]⟩
def ti7:TI:=⟨.st [0,1,2,3],nH 7,4,24,[iJ 0,iJ 0,.bool false,.int .u8 0],[1,1,1,1]⟩
def zw:TI:=⟨.sc,.string,1,16,[St []],[]⟩
def CO:TI:=⟨.sc,.int .u64,1,8,[.int .u64 0],[]⟩
def KF:TI:=⟨.st [0,1],nH 13,2,24,[St [],.int .u64 0],[1,1]⟩
def Uh:TI:=⟨.sc,.pointer 396,1,8,[.pointer none],[]⟩
def Ui:TI:=⟨.sc,.pointer 399,1,8,[.pointer none],[]⟩
def Uj:TI:=⟨.sc,.pointer 406,1,8,[.pointer none],[]⟩
def KT:TI:=⟨.st [0],nH 18,1,8,[.pointer none],[1]⟩
def Ff:TI:=⟨.sc,.int .i32,1,4,[.int .i32 0],[]⟩
def pw:TI:=⟨.sc,.int .u32,1,4,[iO 0],[]⟩
def T':pw.ok Tryz.prog 22:=⟨Tryz.underlying22,OT⟩
def KY:TI:=⟨.st [0,1],nH 23,2,16,[iJ 0,iJ 0],[1,1]⟩
def Uk:TI:=⟨.sl 34,.slice 34,1,24,[.slice none 0 0],[]⟩
def Fg:TI:=⟨.st [0,1,2,3,4],nH 33,5,64,[iJ 0,iJ 0,iO 0,St [],.slice none 0 0],[1,1,1,1,1]⟩
def Ul:TI:=⟨.sl 38,.slice 38,1,24,[.slice none 0 0],[]⟩
def Fh:TI:=⟨.st [0,1,2,3,4],nH 37,5,96,[iJ 0,St [],.slice none 0 0,.slice none 0 0,.slice none 0 0],[1,1,1,1,1]⟩
def Ls:TI:=⟨.sl 9,.slice 9,1,24,[.slice none 0 0],[]⟩
def qsv:Ls.ok Tryz.prog 39:=⟨Tryz.underlying39,OT⟩
def CP:TI:=⟨.st [0,1,2,3],nH 40,4,88,[St [],.slice none 0 0,.slice none 0 0,.slice none 0 0],[1,1,1,1]⟩
def Um:TI:=⟨.sl 41,.slice 41,1,24,[.slice none 0 0],[]⟩
def Un:TI:=⟨.sl 85,.slice 85,1,24,[.slice none 0 0],[]⟩
def Lu:TI:=⟨.st [0,1],nH 44,2,48,[.slice none 0 0,.slice none 0 0],[1,1]⟩
def Up:TI:=⟨.sl 5,.slice 5,1,24,[.slice none 0 0],[]⟩
def Lv:TI:=⟨.st [0,1,2,3],nH 47,4,48,[.slice none 0 0,iJ 0,iO 0,iJ 0],[1,1,1,1]⟩
def Fi:TI:=⟨.sl 22,.slice 22,1,24,[.slice none 0 0],[]⟩
def Uq:TI:=⟨.sl 108,.slice 108,1,24,[.slice none 0 0],[]⟩
def Lw:TI:=⟨.st [0,1],nH 56,2,32,[iJ 0,.slice none 0 0],[1,1]⟩
def Fj:TI:=⟨.st [0,1],nH 65,2,16,[iJ 0,iJ 0],[1,1]⟩
def qsw:Fj.ok Tryz.prog 66:=⟨Tryz.underlying66,OT⟩
def Ur:TI:=⟨.sl 74,.slice 74,1,24,[.slice none 0 0],[]⟩
def Lx:TI:=⟨.sl 3,.slice 3,1,24,[.slice none 0 0],[]⟩
def Us:TI:=⟨.sl 4,.slice 4,1,24,[.slice none 0 0],[]⟩
def Uu:TI:=⟨.sc,.pointer 83,1,8,[.pointer none],[]⟩
def Uv:TI:=⟨.sl 51,.slice 51,1,24,[.slice none 0 0],[]⟩
def Uw:TI:=⟨.sl 91,.slice 91,1,24,[.slice none 0 0],[]⟩
def Ly:TI:=⟨.st [0,1,2,3,4,5,6,7,8],nH 82,12,192,[.slice none 0 0,.slice none 0 0,.slice none 0 0,.slice none 0 0,iO 0,iJ 0,.slice none 0 0,iJ 0,.slice none 0 0,iJ 0,iO 0,iJ 0],[1,1,1,1,1,1,1,1,4]⟩
def CS:TI:=⟨.st [0,1,2,3],nH 84,4,56,[iJ 0,St [],iO 0,.slice none 0 0],[1,1,1,1]⟩
def Lz:TI:=⟨.st [0,2],nH 86,6,136,[.slice none 0 0,.slice none 0 0,St [],.slice none 0 0,.slice none 0 0,.slice none 0 0],[2,4]⟩
def Ux:TI:=⟨.sl 141,.slice 141,1,24,[.slice none 0 0],[]⟩
def CU:TI:=⟨.st [0,1],nH 90,2,32,[iJ 0,.slice none 0 0],[1,1]⟩
def Uy:TI:=⟨.sc,.func #[3] #[] false,1,8,[.nilFunc],[]⟩
def Uz:TI:=⟨.ar 5 22,.array 5 22,5,20,[iO 0,iO 0,iO 0,iO 0,iO 0],[]⟩
def LC:TI:=⟨.st [0,1,6,7,8,9],nH 97,10,112,[.slice none 0 0,iO 0,iO 0,iO 0,iO 0,iO 0,.slice none 0 0,.slice none 0 0,iJ 0,iO 0],[1,5,1,1,1,1]⟩
def DP:TI:=⟨.st [0,1],nH 103,2,16,[iJ 0,iO 0],[1,1]⟩
def KC:TI:=⟨.sl 112,.slice 112,1,24,[.slice none 0 0],[]⟩
def yp:TI:=⟨.st [0,1,2,3],nH 107,4,48,[St [],iO 0,.bool false,.slice none 0 0],[1,1,1,1]⟩
def KD:TI:=⟨.sl 104,.slice 104,1,24,[.slice none 0 0],[]⟩
def yq:TI:=⟨.st [0,1,2,4],nH 111,6,48,[iJ 0,iJ 0,iJ 0,iO 0,iJ 0,iO 0],[1,1,2,2]⟩
def KE:TI:=⟨.sc,.map 9 66,1,8,[.map none],[]⟩
def DQ:TI:=⟨.st [0,2],nH 118,3,56,[.slice none 0 0,.slice none 0 0,.map none],[2,1]⟩
def DR:TI:=⟨.st [0,3],nH 123,7,144,[.slice none 0 0,.slice none 0 0,.map none,St [],.slice none 0 0,.slice none 0 0,.slice none 0 0],[3,4]⟩
def KG:TI:=⟨.sc,.pointer 38,1,8,[.pointer none],[]⟩
def KH:TI:=⟨.sc,.pointer 34,1,8,[.pointer none],[]⟩
def DS:TI:=⟨.st [0,1,2],nH 132,3,24,[.pointer none,.pointer none,iJ 0],[1,1,1]⟩
def DT:TI:=⟨.sc,.func #[79] #[3] false,1,8,[.nilFunc],[]⟩
def KI:TI:=⟨.sc,.pointer 156,1,8,[.pointer none],[]⟩
def KJ:TI:=⟨.sc,.map 9 3,1,8,[.map none],[]⟩
def KL:TI:=⟨.sc,.pointer 152,1,8,[.pointer none],[]⟩
def DU:TI:=⟨.st [0,1],nH 151,2,32,[.pointer none,.slice none 0 0],[1,1]⟩
def DV:TI:=⟨.st [0,2],nH 153,3,40,[.pointer none,.slice none 0 0,iJ 0],[2,1]⟩
def DW:TI:=⟨.st [0,3,5,6,7,8,9,10,11],nH 155,12,160,[.pointer none,.slice none 0 0,iJ 0,.slice none 0 0,.slice none 0 0,.map none,.map none,.map none,iJ 0,iJ 0,iJ 0,.slice none 0 0],[3,2,1,1,1,1,1,1,1]⟩
def KM:TI:=⟨.sc,.pointer 170,1,8,[.pointer none],[]⟩
def KN:TI:=⟨.sl 265,.slice 265,1,24,[.slice none 0 0],[]⟩
def KO:TI:=⟨.sc,.map 9 22,1,8,[.map none],[]⟩
def KP:TI:=⟨.sl 226,.slice 226,1,24,[.slice none 0 0],[]⟩
def DX:TI:=⟨.st [0,2,3,4,5],nH 169,6,112,[iJ 0,.slice none 0 0,.slice none 0 0,.slice none 0 0,.map none,.slice none 0 0],[2,1,1,1,1]⟩
def KQ:TI:=⟨.sc,.pointer 179,1,8,[.pointer none],[]⟩
def KR:TI:=⟨.ar 256 3,.array 256 3,256,2048,(List.replicate 256 (iJ 0)),[]⟩
def KS:TI:=⟨.sc,.map 22 3,1,8,[.map none],[]⟩
def DY:TI:=⟨.st [0,10,11,267,268],nH 178,269,2200,([.slice none 0 0,iO 0,iO 0,iO 0,iO 0,iO 0,.slice none 0 0,.slice none 0 0,iJ 0,iO 0,.slice none 0 0]++(List.replicate 256 (iJ 0)++[.map none,iO 0])),[10,1,256,1,1]⟩
def DZ:TI:=⟨.st [0,1,2],nH 182,3,32,[St [],iJ 0,iJ 0],[1,1,1]⟩
def KU:TI:=⟨.sc,.pointer 194,1,8,[.pointer none],[]⟩
def D0:TI:=⟨.st [0],nH 193,1,8,[iJ 0],[1]⟩
def KV:TI:=⟨.sl 209,.slice 209,1,24,[.slice none 0 0],[]⟩
def D3:TI:=⟨.sc,.func #[79] #[22] false,1,8,[.nilFunc],[]⟩
def KW:TI:=⟨.sc,.pointer 154,1,8,[.pointer none],[]⟩
def KX:TI:=⟨.sc,.pointer 5,1,8,[.pointer none],[]⟩
def D4:TI:=⟨.st [0,1],nH 223,2,24,[St [],iO 0],[1,1]⟩
def yr:TI:=⟨.st [0,1,2],nH 225,4,40,[iJ 0,iJ 0,St [],iO 0],[1,1,2]⟩
def KZ:TI:=⟨.sc,.pointer 108,1,8,[.pointer none],[]⟩
def K0:TI:=⟨.sc,.pointer 112,1,8,[.pointer none],[]⟩
def K1:TI:=⟨.sc,.pointer 246,1,8,[.pointer none],[]⟩
def D5:TI:=⟨.st [0],nH 245,2,32,[.pointer none,.slice none 0 0],[2]⟩
def K2:TI:=⟨.sl 39,.slice 39,1,24,[.slice none 0 0],[]⟩
def D6:TI:=⟨.st [0,1,2,3],nH 260,5,64,[St [],St [],.bool false,St [],iO 0],[1,1,1,2]⟩
def yt:TI:=⟨.st [0,1],nH 264,2,24,[St [],iO 0],[1,1]⟩
def K3:TI:=⟨.sl 36,.slice 36,1,24,[.slice none 0 0],[]⟩
def K4:TI:=⟨.sc,.pointer 3,1,8,[.pointer none],[]⟩
def K5:TI:=⟨.ar 24 5,.array 24 5,24,24,(List.replicate 24 (.int .u8 0)),[]⟩
def K6:TI:=⟨.sl 337,.slice 337,1,24,[.slice none 0 0],[]⟩
def D7:TI:=⟨.st [0,1],nH 336,2,16,[iJ 0,iJ 0],[1,1]⟩
def K7:TI:=⟨.sc,.pointer 313,1,8,[.pointer none],[]⟩
def K8:TI:=⟨.ar 256 5,.array 256 5,256,256,(List.replicate 256 (.int .u8 0)),[]⟩
def La:TI:=⟨.ar 20 257,.array 20 257,20,160,(List.replicate 20 (.int .u64 0)),[]⟩
def Lb:TI:=⟨.ar 65 5,.array 65 5,65,65,(List.replicate 65 (.int .u8 0)),[]⟩
def Ld:TI:=⟨.sc,.pointer 371,1,8,[.pointer none],[]⟩
def Lf:TI:=⟨.sc,.map 3 39,1,8,[.map none],[]⟩
def D8:TI:=⟨.st [0,1],nH 363,2,2,[.int .u8 0,.int .u8 0],[1,1]⟩
def Lg:TI:=⟨.ar 16 364,.array 16 364,32,32,(List.replicate 32 (.int .u8 0)),[]⟩
def Lh:TI:=⟨.sl 374,.slice 374,1,24,[.slice none 0 0],[]⟩
def Lj:TI:=⟨.sl 377,.slice 377,1,24,[.slice none 0 0],[]⟩
def D9:TI:=⟨.st [0,1,2],nH 370,3,56,[.slice none 0 0,.slice none 0 0,iJ 0],[1,1,1]⟩
def Lk:TI:=⟨.sc,.int .u16,1,2,[.int .u16 0],[]⟩
def Ea:TI:=⟨.st [0,1,2],nH 373,3,6,[.int .u16 0,.int .u16 0,.int .u16 0],[1,1,1]⟩
def Eb:TI:=⟨.st [0,1,2],nH 376,3,12,[iO 0,iO 0,iO 0],[1,1,1]⟩
def Ll:TI:=⟨.ar 32 5,.array 32 5,32,32,(List.replicate 32 (.int .u8 0)),[]⟩
def Lm:TI:=⟨.ar 64 5,.array 64 5,64,64,(List.replicate 64 (.int .u8 0)),[]⟩
def Lo:TI:=⟨.sc,.pointer 390,1,8,[.pointer none],[]⟩
def Lp:TI:=⟨.sc,.pointer 374,1,8,[.pointer none],[]⟩
def Lq:TI:=⟨.sc,.pointer 377,1,8,[.pointer none],[]⟩
def Ec:TI:=⟨.st [0,1,2],nH 389,3,48,[St [],St [],.nilIface],[1,1,1]⟩
def Lt:TI:=⟨.sc,.pointer 394,1,8,[.pointer none],[]⟩
def Ed:TI:=⟨.st [0],nH 393,1,16,[St []],[1]⟩
def Ee:TI:=⟨.st [0,1,2,3],nH 395,4,40,[.pointer none,.pointer none,.pointer none,St []],[1,1,1,1]⟩
def Eh:TI:=⟨.st [0,1,2,3,4,5,6,7,8,9,10],nH 405,11,48,[.int .u64 0,.int .u64 0,iO 0,.int .u8 0,.int .u8 0,.int .u8 0,.int .u8 0,.nilFunc,.pointer none,.int .i32 0,.int .i32 0],[1,1,1,1,1,1,1,1,1,1,1]⟩
def TT:kG:=[(2,Gv),(3,Gv),(4,ti4),(5,CQ),(6,CQ),(7,ti7),(8,ti7),(9,zw),(10,zw),(11,zw),(12,CO),(13,KF),(14,KF),(15,Uh),(16,Ui),(17,Uj),(18,KT),(19,KT),(21,Ff),(22,pw),(23,KY),(24,KY),(32,Uk),(33,Fg),(34,Fg),(36,Ul),(37,Fh),(38,Fh),(39,Ls),(40,CP),(41,CP),(42,Um),(43,Un),(44,Lu),(45,Lu),(46,Up),(47,Lv),(48,Lv),(51,Fi),(55,Uq),(56,Lw),(57,Lw),(65,Fj),(66,Fj),(70,Ur),(74,Lx),(78,Us),(79,Uu),(80,Uv),(81,Uw),(82,Ly),(83,Ly),(84,CS),(85,CS),(86,Lz),(87,Lz),(88,Ux),(90,CU),(91,CU),(92,Uy),(96,Uz),(97,LC),(98,LC),(103,DP),(104,DP),(106,KC),(107,yp),(108,yp),(110,KD),(111,yq),(112,yq),(117,KE),(118,DQ),(119,DQ),(123,DR),(124,DR),(130,KG),(131,KH),(132,DS),(133,DS),(141,DT),(148,KI),(149,KJ),(150,KL),(151,DU),(152,DU),(153,DV),(154,DV),(155,DW),(156,DW),(163,KM),(166,KN),(167,KO),(168,KP),(169,DX),(170,DX),(174,KQ),(176,KR),(177,KS),(178,DY),(179,DY),(182,DZ),(183,DZ),(192,KU),(193,D0),(194,D0),(205,KV),(209,D3),(214,KW),(220,KX),(223,D4),(224,D4),(225,yr),(226,yr),(231,KZ),(235,K0),(239,CO),(244,K1),(245,D5),(246,D5),(251,K2),(257,CO),(260,D6),(261,D6),(264,yt),(265,yt),(274,Gv),(288,K3),(313,CO),(317,K4),(328,K5),(335,K6),(336,D7),(337,D7),(339,K7),(342,K8),(350,La),(351,Lb),(357,Ld),(362,Lf),(363,D8),(364,D8),(365,Lg),(368,Lh),(369,Lj),(370,D9),(371,D9),(372,Lk),(373,Ea),(374,Ea),(376,Eb),(377,Eb),(379,Ll),(380,Lm),(381,Gv),(383,Lo),(386,Lp),(387,Lq),(389,Ec),(390,Ec),(392,Lt),(393,Ed),(394,Ed),(395,Ee),(396,Ee),(400,CQ),(401,CQ),(403,Ff),(404,Ff),(405,Eh),(406,Eh)]
end
def tC{t:Nat}{x:TI}(h:P.underlying t=some x.desc)(k:jZ P r)(b:x.kind.fits x.desc/\(P.info? t).map (λi=>(i.size,i.bytes,i.zero))=some (x.size,x.bytes,some x.zero)/\x.J.length=x.size/\x.J.all (·.oneCell')=true/\0 < x.size/\(uC x.kind=true->x.size=1) /\qqC P x.desc=true/\qoD P x.desc=x.fsz:=by refine ⟨by first|trivial|kernel_rfl,by kernel_rfl,by first|rfl|kernel_rfl,by first|rfl|kernel_rfl,by decide,by first|exact λ_=>rfl|(intro h;cases h),by kernel_rfl,by kernel_rfl⟩):jZ P ((t,x)::r):=.cons ⟨h,b⟩ k
def jl:jZ Tryz.prog TT:=by repeat (first|exact jZ.nil|refine tC (by kernel_rfl) ?_)
def jF:Tryz.prog.follows .mixedOrders=true:=by kernel_rfl
end
section
variable{α:Type}
structure Tm where
 kind:Int
 val:Int
 deriving DecidableEq
structure Ac where
 kind:Int
 tgt:Int
 x:Tm
 y:Tm
 deriving DecidableEq
structure Ins where
 name:List UInt8
 code:Int
 I:Bool
 ad:List Ac
 deriving DecidableEq
structure l7 where
 cells:Int
 U:List Ins
 deriving DecidableEq
def Sl(sz:Nat)(R:World->α->LVal9->Prop)(s:World)(A:OAdr9)(n c:Nat)(l:List α):Prop:=
 n=l.length/\n<=c/\c<=9223372036854775807/\∀ i x,l[i]?=some x->∃ b off cs,A=some ⟨b,off,none⟩/\iH s b (off+i * sz) cs/\cs.length=sz/\R s x cs
def Sl.le{sz:Nat}{R:World->α->LVal9->Prop}{l:List α}(hR:∀ x cs,R s x cs->R s' x cs)(h:Sl sz R s A n c l)(hl:Le D s s'):Sl sz R s' A n c l:=
 ⟨h.1,h.2.1,h.2.2.1,λi x hi=>by
  obtain ⟨b,off,cs,h1,h2,h3,h4⟩:=h.2.2.2 i x hi;exact ⟨b,off,cs,h1,h2.le hl,h3,hR x cs h4⟩⟩
def iY(x:Int):Prop:=0<=x/\x < 4294967296
def Ac.cs(a:Ac):LVal9:=[iJ a.kind,iJ a.tgt,iJ a.x.kind,iO a.x.val,iJ a.y.kind,iO a.y.val]
def pH(s:World)(A:OAdr9)(n c:Nat)(l:List Ac):Prop:=Sl 6 (λ_ a cs=>cs=a.cs/\iY a.x.val/\iY a.y.val) s A n c l
def pH.le{l:List Ac}(h:pH s A n c l)(hl:Le D s s'):pH s' A n c l:=Sl.le (λ_ _ h=>h) h hl
def wO(s:World)(x:Ins)(cs:LVal9):Prop:=∃ A n c,cs=[St x.name,iO x.code,.bool x.I,.slice A n c]/\pH s A n c x.ad/\x.name.length<=9223372036854775807/\iY x.code
def ky(s:World)(A:OAdr9)(n c:Nat)(l:List Ins):Prop:=Sl 4 wO s A n c l
def wO.le{x:Ins}{cs:LVal9}(h:wO s x cs)(hl:Le D s s'):wO s' x cs:=by
 obtain ⟨A,n,c,h1,h2,h3⟩:=h;exact ⟨A,n,c,h1,h2.le hl,h3⟩
def ky.le{l:List Ins}(h:ky s A n c l)(hl:Le D s s'):ky s' A n c l:=Sl.le (λ_ _ h=>h.le hl) h hl
def pH.at_{l:List Ac}(h:pH s A n c l)(hk:k < n):∃ b off a,A=some ⟨b,off,none⟩/\l[k]?=some a /\
  iH s b (off+k * 6) [iJ a.kind,iJ a.tgt,iJ a.x.kind,iO a.x.val,iJ a.y.kind,iO a.y.val]/\iY a.x.val/\iY a.y.val:=by
 have hl:k < l.length:=by rw [<- h.1];exact hk
 obtain ⟨b,off,cs,h1,h2,_,rfl,h5⟩:=h.2.2.2 k l[k] (ax hl);exact ⟨b,off,l[k],h1,ax hl,h2,h5⟩
def ky.at_{l:List Ins}(h:ky s A n c l)(hk:k < n):∃ b off x A' n' c',A=some ⟨b,off,none⟩/\l[k]?=some x /\
  iH s b (off+k * 4) [St x.name,iO x.code,.bool x.I,.slice A' n' c']/\pH s A' n' c' x.ad/\x.name.length<=9223372036854775807/\iY x.code:=by
 have hl:k < l.length:=by rw [<- h.1];exact hk
 obtain ⟨b,off,cs,h1,h2,_,A',n',c',rfl,h5,h6⟩:=h.2.2.2 k l[k] (ax hl);exact ⟨b,off,l[k],A',n',c',h1,ax hl,h2,h5,h6⟩
def Sl.take{sz:Nat}{R:World->α->LVal9->Prop}{l:List α}(h:Sl sz R s A n c l)(hk:k < n):Sl sz R s A k c (l.take k):=
 ⟨by have:=h.1;simp;omega,by have:=h.2.1;omega,h.2.2.1,λi x hi=>h.2.2.2 i x (by
  rw [List.getElem?_take] at hi;split at hi
  . exact hi
  . cases hi)⟩
def ky.take{l:List Ins}(h:ky s A n c l)(hk:k < n):ky s A k c (l.take k):=Sl.take h hk
abbrev LInt9:=List Int
def lV(s:World)(A:OAdr9)(n c:Nat)(l:LInt9):Prop:=Sl 1 (λ_ x cs=>cs=[iO x]/\iY x) s A n c l
def lL(s:World)(A:OAdr9)(n c:Nat)(l:List UInt8):Prop:=Sl 1 (λ_ x cs=>cs=[.int .u8 (x.toNat:Int)]) s A n c l
def lV.le{l:LInt9}(h:lV s A n c l)(hl:Le D s s'):lV s' A n c l:=Sl.le (λ_ _ h=>h) h hl
def lL.le(h:lL s A n c l)(hl:Le D s s'):lL s' A n c l:=Sl.le (λ_ _ h=>h) h hl
def Ir{p:Prop} (h:p:=by
 have hl:k < l.length:=by rw [<- h.1];exact hk
 obtain ⟨b,off,cs,h1,h2,_,rfl,h4⟩:=h.2.2.2 k l[k] (ax hl);exact ⟨b,off,l[k],h1,ax hl,by simpa using h2,h4⟩):p:=h
def lV.at_{l:LInt9}(h:lV s A n c l)(hk:k < n):∃ b off x,A=some ⟨b,off,none⟩/\l[k]?=some x/\iH s b (off+k) [iO x]/\iY x:=by
 exact Ir
def lL.at_(h:lL s A n c l)(hk:k < n):∃ b off x,A=some ⟨b,off,none⟩/\l[k]?=some x/\iH s b (off+k) [.int .u8 (x.toNat:Int)]:=by
 have hl:k < l.length:=by rw [<- h.1];exact hk
 obtain ⟨b,off,cs,h1,h2,_,rfl⟩:=h.2.2.2 k l[k] (ax hl);exact ⟨b,off,l[k],h1,ax hl,by simpa using h2⟩
structure lj where
 cells:LInt9
 r0:Int
 r1:Int
 r2:Int
 r3:Int
 r4:Int
 aa:List UInt8
 output:List UInt8
 stop:Int
 code:Int
 deriving DecidableEq
theorem Cv{p:Nat->α->Prop}{l:List α}{a:α}(h:∀ i b,i < k->l[i]?=some b->p i b)(hk:l[k]?=some a)(ha:p k a):∀ i b,i < k+1->l[i]?=some b->p i b:=by grind
def uG(c:UInt8):Bool:=decide (97<=c.toNat) && decide (c.toNat<=122)
def tB(c:UInt8):Bool:=decide (48<=c.toNat) && decide (c.toNat<=57)
def tV(i:Nat)(c:UInt8):Bool:=uG c || (tB c && decide (i≠0))
def sG(i:Nat):List UInt8->Bool
 | []=>true
 | c::r=>tV i c && sG (i+1) r
def XL(l:List UInt8)(i:Nat):sG i l=true↔∀ j c,l[j]?=some c->tV (i+j) c=true:=by
  induction l generalizing i with
  | nil=>simp [sG]
  | cons c r ih=>
    simp only [sG,aA,ih];constructor
    . rintro ⟨h1,h2⟩ j d hj
      cases j with
      | zero=>simp at hj;subst hj;exact h1
      | succ j=>simp at hj;have:=h2 j d hj;rwa [dV,eO 1 j] at this
    . intro h
      exact ⟨by simpa using h 0 c (by simp),λj d hj=>by have:=h (j+1) d Q19;rwa [dV,eO 1 j]⟩
def qqj(h:∀ i c,i < l.length->l[i]?=some c->tV i c=true):sG 0 l=true:=
 (XL l 0).2 λj c hj=>by
  have hl:j < l.length:=(al.1 hj).1;simpa using h j c hl hj
def qql{c:UInt8}(hk:l[k]?=some c)(h:tV k c=false):sG 0 l=false:=by
 cases hb:sG 0 l with
 | false=>rfl
 | true=>have:=(XL l 0).1 hb k c hk;simp at this;rw [this] at h;cases h
def nJ(l:List UInt8):Bool:=decide (l≠[]) && decide (l.length<=6) && sG 0 l
def Gm(l:List UInt8):Bool:=nJ l && decide (l≠[119,111,114,100]) && decide (l≠[115,112,97,99,101])
def CA:LInt9->Int
 | []=>0
 | c::r=>if c≠0 then c else CA r
def qmk{f:α->Int}{l:List α}{a:α}(h:∀ i b,i < k->l[i]?=some b->f b=0)(hk:l[k]?=some a)(ha:f a≠0):CA (l.map f)=f a:=by
 induction l generalizing k with
 | nil=>simp at hk
 | cons b r ih=>
  cases k with
  | zero=>simp at hk;subst hk;simp [CA,ha]
  | succ k=>
   have h0:=h 0 b O (by simp);simp only [aS,CA,h0,fO,gG,cm];exact ih (k:=k) (λi c hi hc=>h (i+1) c O Q20) (by simpa using hk)
def qk3{f:α->Int}{l:List α}(h:∀ i b,i < l.length->l[i]?=some b->f b=0):CA (l.map f)=0:=by
 induction l with
 | nil=>rfl
 | cons b r ih=>
  have h0:=h 0 b (by simp) (by simp);simp only [aS,CA,h0,fO,gG,cm];exact ih λi c hi hc=>h (i+1) c Q8 Q20
def zS(f:Nat->Int):Nat->Nat->Int×Int
 | 0,_=>(0,0)
 | m+1,k=>if f k≠0 then (f k,(k:Int)) else zS f m (k+1)
def XR{f:Nat->Int}(h:∀ i,j<=i->i < k->f i=0)(hj:j<=k)(hk:f k≠0)(hm:k < j+m):zS f m j=(f k,(k:Int)):=by
  induction m generalizing j with
  | zero=>omega
  | succ m ih=>
    by_cases he:j=k
    . subst he;simp [zS,hk]
    . have h0:=h j (aC _) O
      simp only [zS,h0,fO,gG,cm];exact ih (λi h1 h2=>h i O h2) O O
def qjA{f:Nat->Int}(h:∀ i,j<=i->i < j+m->f i=0):zS f m j=(0,0):=by
 induction m generalizing j with
 | zero=>rfl
 | succ m ih=>
  have h0:=h j (aC _) O;simp only [zS,h0,fO,gG,cm];exact ih λi h1 h2=>h i O O
def QA(k:Int):Bool:=!(decide (k=14) || decide (k=18) || decide (k=16) || decide (k=17))
def QB(k:Int):Bool:=!(decide (k=15))
def QC(k:Int):Bool:=!(decide (k=16) || decide (k=17) || decide (k=15) || decide (k=0) || decide (k=13))
def Gt(t:Tm)(u o:Bool):Bool:=if u then (decide (t.kind=0) || decide (t.kind=1) && decide (t.val<=4) || decide (t.kind=2) && decide (t.val=0) && o) else decide (t.kind=0) && decide (t.val=0)
def EQ(a:Ac)(o:Bool):Int:=
 if a.kind < 0\/20<=a.kind then 5 else if a.tgt < 0\/4 < a.tgt then 4
 else if (!QA a.kind && decide (a.tgt≠0)) || !Gt a.x (QB a.kind) o || !Gt a.y (QC a.kind) o then 6 else 0
def zb(x:Ins):Int:=if Gm x.name=false then 7 else if 8 < x.ad.length then 2 else CA (x.ad.map λa=>EQ a x.I)
def F8(x y:Ins):Bool:=decide (x.name=y.name) || decide (x.code=y.code)
def kM{α:Type}(p:α->Bool):List α->Nat->Int
 | [],_=>-1
 | x::r,k=>if p x then (k:Int) else kM p r (k+1)
def Jy{p:α->Bool}{l:List α}{a:α}(h:∀ i b,i < k->l[i]?=some b->p b=false)(hk:l[k]?=some a)(ha:p a=true):kM p l j=(j+k:Nat):=by
 induction l generalizing k j with
 | nil=>simp at hk
 | cons b r ih=>
  cases k with
  | zero=>simp at hk;subst hk;simp [kM,ha]
  | succ k=>
   have h0:=h 0 b O (by simp);simp only [kM,h0,dr,cm];rw [ih (k:=k) (λi c hi hc=>h (i+1) c O Q20) (by simpa using hk)];congr 1;omega
def RB{p:α->Bool}{l:List α}(h:∀ i b,i < l.length->l[i]?=some b->p b=false):kM p l j=-1:=by
 induction l generalizing j with
 | nil=>rfl
 | cons b r ih=>
  have h0:=h 0 b (by simp) (by simp);simp only [kM,h0,dr,cm];exact ih λi c hi hc=>h (i+1) c Q8 Q20
theorem ZW{α:Type}(p:α->Bool)(l:List α)(j:Nat):decide (0<=kM p l j)=l.any p:=by
 induction l generalizing j with
 | nil=>simp [kM]
 | cons b r ih=>
  by_cases hb:p b=true
  . simp [kM,hb]
  . simp only [kM,hb];simpa [hb] using ih (j+1)
def Bq(l:List Ins)(k:Nat):Int:=match l[k]? with
 | none=>0
 | some x=>if zb x≠0 then zb x else if (l.take k).any (F8 x) then 8 else 0
def oI(t:l7):Int×Int:=
 if t.cells < 1\/65536 < t.cells then (4,-1) else if 64 < t.U.length then (2,-1) else zS (Bq t.U) t.U.length 0
def NX{t:Nat}(h:ti.ok P t)(hk:uC ti.kind=true)(w:World):(isAgg t).run P w=.ok false w:=by rw [MZ h,hk];rfl
def qtL(d:Nat)(a b c e:Int)(w:World):(Op.equalIn (d+2) 104 (.agg #[iJ a,iO b]) (.agg #[iJ c,iO e])).run prog w=.ok (decide (a=c) && decide (b=e)) w:=by
 rw [gX w (d+1) 104 _ _ V V];simp only [Program.fieldsOf,underlying104,Op.eqFields,part];simp [NX Kf rfl,NX T' rfl,fK w d 3 .i64 .i64 _ _ underlying3,fK w d 22 .u32 .u32 _ _ underlying22];by_cases h1:a=c<;>by_cases h2:b=e<;>simp [h1,h2]
def qFV{a c d:Int}:Hj prog 104 [iJ a,iO b] [iJ c,iO d] (decide (a=c) && decide (b=d)):=⟨by kernel_rfl,λw=>qtL 9998 a b c d w⟩
def rq{a c d:Int}:Hj prog 24 [iJ a,iJ b] [iJ c,iJ d] (decide (a=c/\b=d)):=⟨by kernel_rfl,λw=>by
 show (Op.equalIn (9998+2) 24 _ _).run prog w=_;rw [gX w 9999 24 _ _ V V];simp only [Program.fieldsOf,underlying24,Op.eqFields,part];simp [NX Kf rfl,fK w 9998 3 .i64 .i64 _ _ underlying3];by_cases h1:a=c<;>by_cases h2:b=d<;>simp [h1,h2]⟩
end
section
variable{w:World}{b off sz t f:Nat}{args:LVal9}{A B C:Prop}{jS fr:Fr}{c a:Int}
def Sq(h:jX D L s)(hos:w'.os=s.os)(htp:w'.tape=s.tape)(r9:w'.output=s.output)(jA:s.heap.size<=w'.heap.size)(lQ:(L'.map (·.1)).Nodup)
    (rV:∀ x∈L',w'.heap[x.1]?=some x.2) (hkeys:∀ x∈L',x.1∈L.map (·.1)\/s.heap.size<=x.1) (hold:∀ k,k < s.heap.size->k ∉ L.map (·.1)->w'.heap[k]?=s.heap[k]?) :
    w'=fill L' (qU D L' w')/\jX D L' (qU D L' w')/\Le D s (qU D L' w'):=by
  have lm:∀ x∈L',x.1 < w'.heap.size:=λx hx=>by
    have:=rV x hx;rcases eM x.1 w'.heap.size with h1|h1
    . exact h1
    . rw [bU h1] at this;cases this
  have l9:jX D L' (qU D L' w'):=⟨lQ,λx hx=>Zm lm (bh.2 ⟨x,hx,rfl⟩)⟩;refine ⟨C9 (C8 λk=>?_) ?_ ?_ ?_ ?_,l9,⟨?_,?_,?_,by rw [RJ];exact jA,λk hk=>?_⟩⟩
  . by_cases hk:k∈L'.map (·.1)
    . obtain ⟨x,hx,rfl⟩:=bh.1 hk
      rw [qc l9 hx,rV x hx]
    . rw [vy hk,Ju hk]
  . rw [y0,ML]
  . rw [FJ,XZ]
  . rw [y9,Np]
  . rw [y5,MH]
  . rw [Np,hos]
  . rw [ML,htp]
  . rw [MH,r9]
  . by_cases hd:s.heap[k]?=some (mA D)
    . exact .inl hd
    . have un:=NJ h hd
      have AW:k ∉ L'.map (·.1):=λhm=>by
        obtain ⟨x,hx,rfl⟩:=bh.1 hm;rcases hkeys x hx with h1|h1
        . exact un h1
        . omega
      exact .inr (by rw [Ju AW,hold k hk un])
inductive Own(e sz:Nat):Hl->Value->Nat->LVal9->Prop
 | nil:Own e sz [] (.slice none 0 0) 0 []
 | blk (b cap n:Nat) (xs ys:LVal9) (hn:xs.length=n * sz) (hc:xs.length+ys.length=cap * sz) (rh:n<=cap) (hm:cap<=9223372036854775807):Own e sz [(b,cb (xs++ys) e)] (.slice (some ⟨b,0,none⟩) n cap) n xs
def Row(s:World)(A:OAdr9)(m sz:Nat)(news:LVal9):Prop:=
 news.length=m * sz/\(∀ u∈news,u.oneCell'=true)/\∀ j u,news[j]?=some u->∃ b off,A=some ⟨b,off,none⟩/\s.cell? ⟨b,off+j,none⟩=some u
def Row.of_cells(h:iH s b off news)(hl:news.length=m * sz)(h1:news.all (·.oneCell')=true):Row s (some ⟨b,off,none⟩) m sz news:=
 ⟨hl,λu hu=>bV.1 h1 u hu,λj u hj=>⟨b,off,rfl,h j u hj⟩⟩
def Row.le{A:OAdr9}(h:Row s A m sz news)(hl:Le D s s'):Row s' A m sz news:=
 ⟨h.1,h.2.1,λj u hj=>by obtain ⟨b,off,h1,h2⟩:=h.2.2 j u hj;exact ⟨b,off,h1,hl.cell h2⟩⟩
def Own.owns{A:Hl}(h:Own e sz A v n xs)(hw:∀ x∈A,w.heap[x.1]?=some x.2):w.ownsRow 0 e sz v n xs:=by
 cases h with
 | nil=>exact World.ownsRow_nil w 0 e sz
 | blk b cap n xs ys hn hc rh hm=>
  refine ⟨hn,.inr ⟨b,cap,(xs++ys).toArray,Z,aB _,hw _ Mc,rh,by simpa [maxLen] using hm,by simpa using hc,?_⟩⟩;rw [<- hn];simp
def Own.key{A:Hl}(h:Own e sz A v n xs)(k:Nat):k∈A.map (·.1)↔v.ownBlock=some k:=by
 cases h with
 | nil=>simp [Value.ownBlock]
 | blk b cap n xs ys=>simp [Value.ownBlock,eq_comm]
def Own.of_owns(h:w.ownsRow 0 e sz v n xs):∃ A,Own e sz A v n xs/\∀ x∈A,w.heap[x.1]?=some x.2:=by
  obtain ⟨h1,h2⟩:=h;rcases h2 with ⟨rfl,rfl⟩|⟨g,cap,lA,rfl,_,hg,rh,hcm,tg,ht⟩
  . have:xs=[]:=aG Q7
    subst this;exact ⟨[],.nil,λx hx=>by cases hx⟩
  . have he:lA=(xs++lA.toList.drop (n * sz)).toArray:=by
      rw [<- ht,eB]
    have hcs':xs.length+(lA.toList.drop (n * sz)).length=cap * sz:=by
      rw [<- tg,<- ac];have:=bj Array.size he;simpa using this.symm
    refine ⟨[(g,cb (xs++lA.toList.drop (n * sz)) e)],.blk g cap n xs _ h1 hcs' rh (by simpa [maxLen] using hcm),λx hx=>?_⟩;simp only [aV] at hx;subst hx;rw [hg,cb,<- he]
def mD{B A:Hl}{x:Nat×Obj}:x∈B++(A++L0)↔x∈B\/x∈A\/x∈L0:=by simp
def qx6{B A A':Hl}{sz:Nat}(h:jX D (B++(A++L0)) s)(hO:Own e sz A v n xs)(hO':Own e sz A' v' n' xs')(hA':∀ x∈A',w'.heap[x.1]?=some x.2)
    (hg:(fill (B++(A++L0)) s).grownBy w' v.ownBlock) (hat:v'.ownBlock=v.ownBlock\/v'.ownBlock=some s.heap.size) :
    w'=fill (B++(A'++L0)) (qU D (B++(A'++L0)) w')/\jX D (B++(A'++L0)) (qU D (B++(A'++L0)) w')/\Le D s (qU D (B++(A'++L0)) w'):=by
  have lQ:=h.nd;have hkA':∀ k,k∈A'.map (·.1)->k∈A.map (·.1)\/k=s.heap.size:=λk hk=>by
    rw [hO'.key] at hk;rcases hat with h1|h1
    . exact .inl ((hO.key k).2 (h1▸hk))
    . rw [h1] at hk;injection hk with hk;exact .inr hk.symm
  have hsize:=hg.size;rw [nR] at hsize;have lm:∀ x∈B++(A++L0),x.1 < s.heap.size:=λx hx=>h.lt hx;simp only [bR,bL,aU] at lQ;obtain ⟨nB,⟨nA,nL,dAL⟩,dB⟩:=lQ;have hrest:∀ x,x∈B\/x∈L0->w'.heap[x.1]?=some x.2:=λx hx=>by
    have oT:x∈B++(A++L0):=mD.2 (by rcases hx with h1|h1;exact .inl h1;exact .inr (.inr h1));rw [hg.block x.1 (by rw [nR];exact lm x oT),qc h oT];intro he;have hk:=(hO.key x.1).2 he.symm;rcases hx with h1|h1
    . exact dB _ (bh.2 ⟨x,h1,rfl⟩) _ (.inl hk) rfl
    . exact dAL _ hk _ (bh.2 ⟨x,h1,rfl⟩) rfl
  refine Sq h (hg.os.trans (y9 _ _)) (hg.tape.trans (y0 _ _)) (hg.output.trans (y5 _ _)) hsize ?_ ?_ ?_ ?_
  . have nA':(A'.map (·.1)).Nodup:=by cases hO'<;>simp
    simp only [bR,bL,aU];refine ⟨nB,⟨nA',nL,λa ha b hb he=>?_⟩,λa ha b hb he=>?_⟩
    . subst he
      rcases hkA' a ha with h1|h1
      . exact dAL _ h1 _ hb rfl
      . obtain ⟨x,hx,rfl⟩:=bh.1 hb
        have:=lm x (mD.2 (.inr (.inr hx)));omega
    . subst he
      rcases hb with hb|hb
      . rcases hkA' a hb with h1|h1
        . exact dB _ ha _ (.inl h1) rfl
        . obtain ⟨x,hx,rfl⟩:=bh.1 ha
          have:=lm x (mD.2 (.inl hx));omega
      . exact dB _ ha _ (.inr hb) rfl
  . intro x hx
    rcases mD.1 hx with h1|h1|h1
    . exact hrest x (.inl h1)
    . exact hA' x h1
    . exact hrest x (.inr h1)
  . intro x hx
    rcases mD.1 hx with h1|h1|h1
    . exact .inl (bh.2 ⟨x,mD.2 (.inl h1),rfl⟩)
    . rcases hkA' x.1 (bh.2 ⟨x,h1,rfl⟩) with h2|h2
      . exact .inl (by rw [bR,bR];simp only [aU];exact .inr (.inl h2))
      . exact .inr O
    . exact .inl (bh.2 ⟨x,mD.2 (.inr (.inr h1)),rfl⟩)
  . intro k hk hn
    rw [hg.block k (by rw [nR];exact hk),vy hn];intro he;exact hn (by rw [bR,bR];simp only [aU];exact .inr (.inl ((hO.key k).2 he.symm)))
section
variable{TT:kG}{fr:Fr}{ops:Array Oper}{op:Op}
def QV{p:Prop} (h:p:=by
 rw [<- r1];simp only [execOp,resolve,invoke,builtin,bA,bG,aP,gI,aS,dR,hρ x _ hx,hρ y _ hy,jO]):p:=h
def QR{p:Prop} (h:p:=by
 obtain ⟨b,off,h1,_⟩:=hR.2.2 0 news[0] (ax hl);refine ⟨b,off,h1,λj u hj=>?_⟩;obtain ⟨b',off',h1',h2⟩:=hR.2.2 j u hj;rw [h1] at h1';injection h1' with h1';injection h1' with e1 e2;subst e1;subst e2
 exact h2):p:=h
def S9{t c sz:Nat}(B A L0:Hl)(hT:jZ P TT)(hx:lk fr x=some v)(hy:lk fr y=some (.slice A1 m c))(ht:jH TT t=some ti)(hk:ti.kind=.sl e)(he:jH TT e=some te)(jA:te.size=sz)
    (hO:Own e sz A v k xs) (hR:Row s A1 m sz news) (qZ:(k+m) * te.bytes<=140737488355328/\k+m<=9223372036854775807) (ho:jX D (B++(A++L0)) s) :
    ∃ v' A' s',Ev P TT D fr (.call { callee:=.builtin .append,args:=#[x,y],argTypes:=#[t,t] }) ty (B++(A++L0)) s (.value v') (B++(A'++L0)) s'/\Le D s s'/\Own e sz A' v' (k+m) (xs++news):=by
  have l9:=hT.at_ ht;obtain ⟨k1,k2,_⟩:=l9;rw [hk] at k2;simp only [TK.fits] at k2;rw [k2] at k1;have pg:=hT.at_ he;obtain ⟨i,i1,i2,i3,i4⟩:=BU pg;have mC:0 < te.size:=pg.2.2.2.2.2.1;have hzs:te.zero.cells.size=te.size:=by rw [EE pg];simpa using pg.2.2.2.1
  have rV:∀ x∈A,(fill (B++(A++L0)) s).heap[x.1]?=some x.2:=λx hx=>qc ho (mD.2 (.inr (.inl hx)));have oU:=hO.owns rV;by_cases hm:m=0
  . subst hm
    have hn:news=[]:=aG (by simpa using hR.1);subst hn;refine ⟨v,A,s,λhT ho dst iS af g ρ hρ=>⟨?_,ho⟩,Le.refl _,by simpa using hO⟩;have ka:∀ (A2:OAdr9) (w:World),(Builtin.firstCells te.size 0 (.slice A2 0 c)).run P w=.ok #[] w:=λA2 w=>by
      cases A2<;>simp [Builtin.firstCells,loadCells,loadCellsFrom]
    cases hO with
    | nil=>simp [execOp,resolve,invoke,builtin,Builtin.append_,hρ x _ hx,hρ y _ hy,aQ k1,Bk pg,Builtin.lenOf,ka]
    | blk b cap n xs ys hn hc rh hm=>simp [execOp,resolve,invoke,builtin,Builtin.append_,hρ x _ hx,hρ y _ hy,aQ k1,Bk pg,Builtin.lenOf,ka,rh,storeCells]
  . have h0:∃ b off,A1=some ⟨b,off,none⟩/\iH s b off news:=by
      have hl:0 < news.length:=by rw [hR.1,<- jA];exact iC (Nat.pos_of_ne_zero hm) mC
      exact QR
    obtain ⟨b,off,rfl,hcells⟩:=h0;obtain ⟨v',w',jO,hown',vn,_,hat⟩:=run_append_own_at (P:=P) (fill (B++(A++L0)) s) 0 t ty e i te.zero sz te.bytes k1 i1 i4 (i2.trans jA) i3 (by rw [hzs,jA]) (by rw [<- jA];exact mC) v k xs oU ⟨b,off,none⟩ m c news hR.1
      (λj u hj=>by rw [add_lit];exact EH ho (hcells j u hj)) hR.2.1 (by simpa [maxLen] using qZ.2) qZ.1 (aB _)
    obtain ⟨A',hO',hA'⟩:=Own.of_owns hown';rw [nR] at hat;obtain ⟨r1,r2,r3⟩:=qx6 (D:=D) ho hO hO' hA' vn hat;refine ⟨v',A',qU D (B++(A'++L0)) w',λhT ho dst iS af g ρ hρ=>⟨?_,r2⟩,r3,hO'⟩;exact QV
def rp{t c sz:Nat}(B A L0:Hl)(hY:L=B++(A++L0)/\lk fr x=some v/\lk fr y=some (.slice A1 m c)/\jH TT t=some ti/\ti.kind=.sl e/\jH TT e=some te/\te.size=sz)
  (hO:Own e sz A v k xs) (hR:Row s A1 m sz news) (qZ:(k+m) * te.bytes<=140737488355328/\k+m<=9223372036854775807) (hd:Nat.blt d n=true)
  (kk:∀ v' A' s',Le D s s'->Own e sz A' v' (k+m) (xs++news)->JO P TT D n ops Q iP ((d,v')::fr) (B++(A'++L0)) s') :
  JO P TT D n ops Q (⟨some d,.call { callee:=.builtin .append,args:=#[x,y],argTypes:=#[t,t] },ty,iS,af,none⟩::iP) fr L s:=have ⟨hL,hx,hy,ht,hk,he,jA⟩:=hY;λhT a hr ho=>by
 subst hL;obtain ⟨v',A',s',h1,h2,h3⟩:=S9 (ty:=ty) B A L0 hT hx hy ht hk he jA hO hR qZ ho;exact zY hd h1 (kk v' A' s' h2 h3) hT a hr ho
def wD{t c sz:Nat}{g:Option (Nat×Bool)}{iK:Array Bool}(rf:ops[i0]?=some ⟨some d,.call { callee:=.builtin .append,args:=#[x,y],argTypes:=#[t,t] },ty,iS,af,g⟩)(re:rz ops fr g)
  (B A:Hl) (hL:L=B++(A++L0)) (hx:lk fr x=some v) (hy:lk fr y=some (.slice A1 m c)) (ht:jH TT t=some ti) (hk:ti.kind=.sl e) (he:jH TT e=some te) (jA:te.size=sz)
  (hO:Own e sz A v k xs) (hR:Row s A1 m sz news) (qZ:(k+m) * te.bytes<=140737488355328/\k+m<=9223372036854775807) (hd:Nat.blt d n=true) (hK:∀ A',∀ x∈K,x∈B++(A++L0)->x∈B++(A'++L0))
  (kk:∀ v' A' s',Le D s s'->Own e sz A' v' (k+m) (xs++news)->JA P TT D n ops Q K s0 jr (iK.setIfInBounds i0 true) ((d,v')::fr) (B++(A'++L0)) s') :
  JB P TT D n ops Q K s0 jr iK i0 fr L s:=λhT a hr ho hl hKL=>by
 subst hL;obtain ⟨v',A',s',h1,h2,h3⟩:=S9 (ty:=ty) B A L0 hT hx hy ht hk he jA hO hR qZ ho;exact Ca rf re h1 h2 (hK A') hd (kk v' A' s' h2 h3) hT a hr ho hl hKL
def Kk(ht:jH TT t=some ti)(hk:ti.kind=.sl e)(he:jH TT e=some te)(hd:Nat.blt d n=true)(k:∀ β s',Le D s s'->Own e sz [(β,cb [] e)] (.slice (j6 β) 0 0) 0 []->JO P TT D n ops Q iP ((d,.slice (j6 β) 0 0)::fr) ((β,cb [] e)::L) s'):
  JO P TT D n ops Q (⟨some d,.buildSlice t 0 #[],ty,iS,af,none⟩::iP) fr L s:=λhT a hr ho=>by
 obtain ⟨h1,h2,h3⟩:=pU ho (cb [] e);obtain ⟨k1,k2,_⟩:=hT.at_ ht;rw [hk] at k2;simp only [TK.fits] at k2;rw [k2] at k1;refine zY hd (L':=(s.heap.size,cb [] e)::L) (s':=s.alloc (mA D)) (v:=.slice (some ⟨s.heap.size,0,none⟩) 0 0) (λhT _ dst iS af g ρ hρ=>⟨?_,h2⟩) (k _ _ h3 (.blk s.heap.size 0 0 [] [] (by simp) (by simp) (aC _) O)) hT a hr ho;rw [<- h1];simp [execOp,Instr.buildSlice,aQ k1,Bk (hT.at_ he),Instr.fill,Ka,nR,cb,show Array.range 0=#[] from rfl]
def V1(hT:jZ P TT)(hx:lk fr x=some (.int ik (m:Int)))(ht:jH TT t=some ti)(hk:ti.kind=.sl e)(he:jH TT e=some te)(hz:te.J=[z])(hb:te.bytes * m<=281474976710656)(hm:m<=9223372036854775807)(ho:jX D L s):
  Ev P TT D fr (.makeSlice t x x) ty L s (.value (.slice (some ⟨s.heap.size,0,none⟩) m m)) ((s.heap.size,cb (List.replicate m z) e)::L) (s.alloc (mA D)):=λ_ _ dst iS af g ρ hρ=>by
 obtain ⟨h1,h2,h3⟩:=pU ho (cb (List.replicate m z) e);refine ⟨?_,h2⟩;obtain ⟨k1,k2,_⟩:=hT.at_ ht;rw [hk] at k2;simp only [TK.fits] at k2;rw [k2] at k1;have pg:=hT.at_ he;obtain ⟨i,i1,i2,i3,i4⟩:=BU pg;have pJ:te.size=1:=by rw [<- pg.2.2.2.1,hz];rfl
 have hb':(i.bytes:Int) * (m:Int)<=281474976710656:=by
  have h:((te.bytes * m:Nat):Int)<=281474976710656:=by omega
  rwa [Int.natCast_mul,<- i3] at h
 have hr:=run_make (P:=P) (fill L s) t e i te.zero k1 i1 i4 ik ik m m O O hb' O;have hc:madeCells te.zero.cells ((m:Int).toNat * i.size)=(List.replicate m z).toArray:=by
  rw [i2,pJ,EE pg,hz];apply eW;intro j;simp only [madeCells,aH,eG];by_cases hj:j < m
  . simp [hj,Nat.mod_one]
  . rw [bU Q8,bU Q8]
 rw [hc] at hr;simp only [execOp,hρ x _ hx,bA,hr,aP,bG,nR,aH];rw [<- h1];rfl
def qIk{t:Nat}(hx:lk fr x=some (.int ik (m:Int)))(ht:jH TT t=some ti)(hk:ti.kind=.sl e)(he:jH TT e=some te)(hz:te.J=[z])(hb:te.bytes * m<=281474976710656)(hm:m<=9223372036854775807)(hd:Nat.blt d n=true)
  (k:∀ β s',Le D s s'->JO P TT D n ops Q iP ((d,.slice (j6 β) m m)::fr) ((β,cb (List.replicate m z) e)::L) s'):JO P TT D n ops Q (⟨some d,.makeSlice t x x,ty,iS,af,none⟩::iP) fr L s:=λhT a hr ho=>
 zY hd (V1 hT hx ht hk he hz hb hm ho) (k _ _ (pU ho (cb (List.replicate m z) e)).2.2) hT a hr ho
def mK{t:Nat}{g:Option (Nat×Bool)}{iK:Array Bool}(rf:ops[i0]?=some ⟨some d,.makeSlice t x x,ty,iS,af,g⟩)(re:rz ops fr g)(hY:lk fr x=some (.int ik (m:Int))/\jH TT t=some ti/\ti.kind=.sl e/\jH TT e=some te/\te.J=[z])(hb:te.bytes * m<=281474976710656)(hm:m<=9223372036854775807)(hd:Nat.blt d n=true)
  (k:∀ β s',Le D s s'->JA P TT D n ops Q K s0 jr (iK.setIfInBounds i0 true) ((d,.slice (j6 β) m m)::fr) ((β,cb (List.replicate m z) e)::L) s'):JB P TT D n ops Q K s0 jr iK i0 fr L s:=have ⟨hx,ht,hk,he,hz⟩:=hY;λhT a hr ho hl hK=>
 Ca rf re (V1 hT hx ht hk he hz hb hm ho) (pU ho (cb (List.replicate m z) e)).2.2 (λx _ h=>aq _ h) hd (k _ _ (pU ho (cb (List.replicate m z) e)).2.2) hT a hr ho hl hK
def qps{t b c:Nat}(i:Nat)(ho:jX D L s)(hx:lk fr x=some (.slice (j6 b) dl dc))(hy:lk fr y=some (.slice A1 m c))(ht:jH TT t=some ti)(hk:ti.kind=.sl e)(he:jH TT e=some te)(jA:te.size=1)
    (hi:L[i]?=some (b,cb zs t')) (hR:Row s A1 m 1 news) (hm:m<=dl) (hdl:dl<=zs.length):Ev P TT D fr (.call { callee:=.builtin .copy,args:=#[x,y],argTypes:=#[t,t] }) ty L s (.value (iJ (m:Int))) (lO L i (cb (news++zs.drop m) t')) s:=λhT _ dst iS af g ρ hρ=>by
  obtain ⟨k1,k2,_⟩:=hT.at_ ht;rw [hk] at k2;simp only [TK.fits] at k2;rw [k2] at k1;have pg:=hT.at_ he;obtain ⟨inf,i1,i2,i3,i4⟩:=BU pg;have hg:=qc ho (ay hi);have kK:news.length=m:=by simpa using hR.1
  refine ⟨?_,Do ho _ _⟩;rw [Da ho hi];by_cases h0:m=0
  . subst h0
    have hn:news=[]:=aG kK;subst hn;have hself:oX (fill L s) b (cb ([]++zs.drop 0) t')=fill L s:=by
      refine C9 (C8 λj=>?_) Z Z Z Z;by_cases hj:b=j
      . subst hj
        rw [Jt _ (by rcases eM b (fill L s).heap.size with h1|h1;exact h1;rw [bU h1] at hg;cases hg),hg];simp
      . rw [EG _ hj]
    rw [hself];have ka:∀ (A2:OAdr9) (w:World),(Builtin.firstCells te.size 0 (.slice A2 0 c)).run P w=.ok #[] w:=λA2 w=>by
      cases A2<;>simp [Builtin.firstCells,loadCells,loadCellsFrom]
    simp [execOp,resolve,invoke,builtin,Builtin.copy_,hρ x _ hx,hρ y _ hy,aQ k1,Bk pg,Builtin.lenOf,ka,storeCells,goInt]
  . have h0:∃ b off,A1=some ⟨b,off,none⟩/\iH s b off news:=by
      have hl:0 < news.length:=by omega
      exact QR
    obtain ⟨b1,off1,rfl,hcells⟩:=h0;have jO:=run_copy_row (P:=P) (fill L s) t t ty e b 0 dl dc ⟨b1,off1,none⟩ m c zs.toArray t' news k1 (by rw [i1];simp [i2,jA]) hg (by rw [kK];exact (gY hm).symm) (λj u hj=>by rw [add_lit];exact EH ho (hcells j u hj)) Q8 hR.2.1;simp only [execOp,resolve,invoke,builtin,bA,bG,aP,gI,aS,dR,hρ x _ hx,hρ y _ hy,jO,goInt,kK];rw [XV hg];simp [cb]
def JV{t b c:Nat}(i:Nat)(hY:lk fr x=some (.slice (j6 b) dl dc)/\lk fr y=some (.slice A1 m c)/\jH TT t=some ti/\ti.kind=.sl e/\jH TT e=some te/\te.size=1/\L[i]?=some (b,cb zs t')) (hR:Row s A1 m 1 news) (hm:m<=dl) (hdl:dl<=zs.length) (hL:lO L i (cb (news++zs.drop m) t')=L') (hd:Nat.blt d n=true) (k:JO P TT D n ops Q iP ((d,iJ (m:Int))::fr) L' s) :
  JO P TT D n ops Q (⟨some d,.call { callee:=.builtin .copy,args:=#[x,y],argTypes:=#[t,t] },ty,iS,af,none⟩::iP) fr L s:=have ⟨hx,hy,ht,hk,he,jA,hi⟩:=hY;λhT a hr ho=>by
 subst hL;exact zY hd (qps i ho hx hy ht hk he jA hi hR hm hdl) k hT a hr ho
def qyU{g:Option (Nat×Bool)}{iK:Array Bool}{t b c:Nat}(rf:ops[i0]?=some ⟨some d,.call { callee:=.builtin .copy,args:=#[x,y],argTypes:=#[t,t] },ty,iS,af,g⟩)(re:rz ops fr g)(i:Nat)(hx:lk fr x=some (.slice (j6 b) dl dc))(hy:lk fr y=some (.slice A1 m c))(ht:jH TT t=some ti)(hk:ti.kind=.sl e)(he:jH TT e=some te)(jA:te.size=1)
  (hi:L[i]?=some (b,cb zs t')) (hR:Row s A1 m 1 news) (hm:m<=dl) (hdl:dl<=zs.length) (hL:lO L i (cb (news++zs.drop m) t')=L') (hd:Nat.blt d n=true) (AO:∀ x∈K,x∈L->x∈L') (k:JA P TT D n ops Q K s0 jr (iK.setIfInBounds i0 true) ((d,iJ (m:Int))::fr) L' s) :
  JB P TT D n ops Q K s0 jr iK i0 fr L s:=λhT a hr ho hl hK=>by
 subst hL;exact Ca rf re (qps i ho hx hy ht hk he jA hi hR hm hdl) (Le.refl _) AO hd k hT a hr ho hl hK
def Ou{p:Prop} (h:p:=by
 rw [<- an,<- an];exact (dJ).append_right Y):p:=h
def AC.mid{f:FuncId}{R:Value->Hl->World->Prop}(X M Y:Hl)(h:AC P D f args (M++(X++Y)) s (λv L' s'=>∃ M',L'=M'++(X++Y)/\R v M' s')):
  AC P D f args (X++(M++Y)) s (λv L' s'=>∃ M',L'=X++(M'++Y)/\R v M' s'):=by
 have hp:∀ M':Hl,(X++(M'++Y)).Perm (M'++(X++Y)):=λM'=>by
  exact Ou
 refine ⟨h.1,λho=>?_⟩;rw [tr (hp M) _ ho];refine (h.2 (ho.perm (hp M))).mono ?_;rintro e w' ⟨v,L',s',h1,rfl,h3,h4,M',rfl,h6⟩;exact ⟨v,X++(M'++Y),s',h1,(tr (hp M').symm _ h3),h3.perm (hp M').symm,h4,M',rfl,h6⟩
end
structure jU(κ:Type) [DecidableEq κ] (d:TypeDesc) (kf:κ->Value):Prop where
 same:∀ a b,Instr.sameNow d (kf a) (kf b)=some (decide (a=b))
 bits:∀ a,Instr.sameBits 10000 (kf a) (kf a)=true
 check:∀ (P:Program) (w:World) (t:Nat) (e:Bool) (a:κ),P.underlying t=some d->(Instr.checkKey e 10000 t (kf a)).run P w=.ok () w
def jU.int(k:IntKind):jU Int (.int k) (Value.int k):=
 ⟨λa b=>by simp [Instr.sameNow];rfl,λa=>by simp [Instr.sameBits],λP w t e a h=>by unfold Instr.checkKey;simp [aQ h]⟩
def qxC(a b:List UInt8):((⟨a.toArray⟩:ByteArray) == ⟨b.toArray⟩)=decide (a=b):=by
 have e:((⟨a.toArray⟩:ByteArray) == ⟨b.toArray⟩)=(a.toArray == b.toArray):=rfl;rw [e];by_cases h:a=b<;>simp [h]
def jU.str:jU (List UInt8) .string (λl=>St l):=
 ⟨λa b=>by simp only [Instr.sameNow,qxC],λa=>by simp [Instr.sameBits,qxC],λP w t e a h=>by unfold Instr.checkKey;simp [aQ h]⟩
section
variable{κ:Type} [DecidableEq κ]  {kf:κ->Value}
def mp(kf:κ->Value)(es:List (κ×Value×Nat))(ck:Nat):Obj:=.map (es.map λx=>⟨kf x.1,x.2.1,x.2.2⟩).toArray ck
def kS:List (κ×Value×Nat)->κ->Option Value
 | [],_=>none
 | x::r,k=>if k=x.1 then some x.2.1 else kS r k
def u9(es:List (κ×Value×Nat))(k:κ)(v:Value)(ck:Nat):List (κ×Value×Nat):=match es with
 | []=>[(k,v,ck)]
 | x::r=>if k=x.1 then (x.1,v,x.2.2)::r else x::u9 r k v ck
def MK(es:List (κ×Value×Nat))(k:κ)(v:Value)(ck:Nat)(j:κ):kS (u9 es k v ck) j=if j=k then some v else kS es j:=by
  induction es with
  | nil=>simp [u9,kS]
  | cons x r ih=>
    simp only [u9];by_cases h:k=x.1
    . simp only [h,bS,kS]
      by_cases hj:j=x.1<;>simp [hj,h]
    . simp only [h,cm,kS,ih]
      by_cases hj:j=x.1
      . have:¬ x.1=k:=λe=>h e.symm
        simp [hj,this]
      . simp [hj]
def XI(K:jU κ dk kf)(es:List (κ×Value×Nat))(k:κ)(i:Nat):
    (kS es k=none/\Instr.findNow dk (kf k) (es.map λx=>⟨kf x.1,x.2.1,x.2.2⟩) i=some none) \/
    ∃ j v b,kS es k=some v/\es[j]?=some (k,v,b)/\(∀ v' ck,u9 es k v' ck=es.set j (k,v',b))/\Instr.findNow dk (kf k) (es.map λx=>⟨kf x.1,x.2.1,x.2.2⟩) i=some (some (i+j,v)):=by
  induction es generalizing i with
  | nil=>exact .inl ⟨rfl,rfl⟩
  | cons x r ih=>
    obtain ⟨a,v,b⟩:=x;simp only [aS,Instr.findNow,K.same];by_cases h:k=a
    . subst h
      exact .inr ⟨0,v,b,by simp [kS],rfl,λv' ck=>by simp [u9],by simp⟩
    . rcases ih (i+1) with ⟨h1,h2⟩|⟨j,v',b',h1,h2,h3,h4⟩
      . exact .inl ⟨by simp [kS,h,h1],by simp [h,h2]⟩
      . exact .inr ⟨j+1,v',b',by simp [kS,h,h1],by simpa using h2,λv'' ck=>by simp [u9,h,h3],by simp [h,h4];omega⟩
variable{TT:kG}{fr:Fr}{ops:Array Oper}{op:Op}
def yg(P:Program)(t:Nat)(dk:TypeDesc)(z:Value):Prop:=∃ kt et,P.underlying t=some (.map kt et)/\P.underlying kt=some dk/\∀ w,(zeroValue et).run P w=.ok z w
def YK(KK:jU κ dk kf)(hm:yg P t dk z){es:List (κ×Value×Nat)}(hb:w.heap[b]?=some (mp kf es ck))(k:κ)(c:Bool):
    (Instr.lookup t (.map (some b)) (kf k) c).run P w=.ok (if c then .tuple #[(kS es k).getD z,.bool (kS es k).isSome] else (kS es k).getD z) w:=by
  obtain ⟨kt,et,h1,h2,h3⟩:=hm;rcases XI KK es k 0 with ⟨a1,a2⟩|⟨j,v,bn,a1,_,_,a2⟩
  . simp only [Instr.lookup,bA,aQ h1,aP,dY hb,bG,KK.check P w kt _ k h2,eo h2 a2,h3,a1]
    cases c<;>rfl
  . simp only [Instr.lookup,bA,aQ h1,aP,dY hb,bG,KK.check P w kt _ k h2,eo h2 a2,a1]
    cases c<;>rfl
def V7{p:Prop} (h:p:=by
 have hb:=qc ho (hK _ (ay hi));simp only [execOp,hρ x _ hx,hρ y _ hy,bA,YK KK hm hb,aP,bG];rfl):p:=h
def ZE(KK:jU κ dk kf)(i:Nat)(hm:yg P t dk z){es:List (κ×Value×Nat)}{k:κ}(hx:lk fr x=some (.map (some b)))(hy:lk fr y=some (kf k))(hi:K[i]?=some (b,mp kf es ck)):
  QE P TT D fr (.lookup t x y false) ty K s0 ((kS es k).getD z):=λhT dst iS af g ρ hρ L s ho _ hK=>by
 exact V7
def YA(KK:jU κ dk kf)(i:Nat)(hm:yg P t dk z){es:List (κ×Value×Nat)}{k:κ}(hx:lk fr x=some (.map (some b)))(hy:lk fr y=some (kf k))(hi:K[i]?=some (b,mp kf es ck)):
  QE P TT D fr (.lookup t x y true) ty K s0 (.tuple #[(kS es k).getD z,.bool (kS es k).isSome]):=λhT dst iS af g ρ hρ L s ho _ hK=>by
 exact V7
omit [DecidableEq κ] in
def U'(kf:κ->Value)(ho:jX D L s):Ev P TT D fr (.makeMap t none) ty L s (.value (.map (some s.heap.size))) ((s.heap.size,mp kf [] 0)::L) (s.alloc (mA D)):=λhT _ dst iS af g ρ _=>by
 obtain ⟨h1,h2,h3⟩:=pU ho (mp kf [] 0);refine ⟨?_,h2⟩;rw [<- h1];simp [execOp,Instr.makeMap,nR,mp]
omit [DecidableEq κ] in
def FL(kf:κ->Value)(hd:Nat.blt d n=true)(k:∀ β s',Le D s s'->JO P TT D n ops Q iP ((d,.map (some β))::fr) ((β,mp kf [] 0)::L) s'):
  JO P TT D n ops Q (⟨some d,.makeMap t none,ty,iS,af,none⟩::iP) fr L s:=λhT a hr ho=>zY hd (U' kf ho) (k _ _ (pU ho (mp kf [] 0)).2.2) hT a hr ho
def SG(KK:jU κ dk kf){z:Operand}(i:Nat)(hm:yg P t dk zv){es:List (κ×Value×Nat)}{k:κ}(hx:lk fr x=some (.map (some b)))(hy:lk fr y=some (kf k))(hz:lk fr z=some v)(hi:L[i]?=some (b,mp kf es ck)):
    ∃ yF,Ev P TT D fr (.mapUpdate t x y z) ty L s .skip (lO L i (mp kf (u9 es k v ck) yF)) s:=by
  obtain ⟨kt,et,h1,h2,h3⟩:=hm;rcases XI KK es k 0 with ⟨a1,a2⟩|⟨j,v',bn,a1,a3,a4,a2⟩
  . refine ⟨ck+1,λhT ho dst iS af g ρ hρ=>⟨?_,Do ho _ _⟩⟩
    have hb:=qc ho (ay hi);have hms:u9 es k v ck=es++[(k,v,ck)]:=by
      clear hi a2 hb;induction es with
      | nil=>rfl
      | cons x r ih=>
        simp only [kS] at a1;split at a1
        . cases a1
        . rename_i h;simp [u9,h,ih a1]
    rw [Da ho hi];simp only [execOp,hρ x _ hx,hρ y _ hy,hρ z _ hz,Instr.mapUpdate,bA,aQ h1,aP,dY hb,bG,KK.check P _ kt _ k h2,eo h2 a2,gn _ hb];simp [oX,mp,hms]
  . refine ⟨ck,λhT ho dst iS af g ρ hρ=>⟨?_,Do ho _ _⟩⟩
    have hb:=qc ho (ay hi);rw [Da ho hi];have hkey:((((es.map λx=>(⟨kf x.1,x.2.1,x.2.2⟩:MapEntry)).toArray)[0+j]?.map (·.key)).getD (kf k))=kf k:=by simp [a3]
    simp only [execOp,hρ x _ hx,hρ y _ hy,hρ z _ hz,Instr.mapUpdate,bA,aQ h1,aP,dY hb,bG,KK.check P _ kt _ k h2,eo h2 a2,hkey,Instr.keyThatStays,KK.bits,bS,gn _ hb,a4];have hmod:((es.map λx=>(⟨kf x.1,x.2.1,x.2.2⟩:MapEntry)).toArray).modify (0+j) (λe=>{ e with key:=kf k,val:=v })=((es.set j (k,v,bn)).map λx=>(⟨kf x.1,x.2.1,x.2.2⟩:MapEntry)).toArray:=by
      apply eW;intro q;rw [fg];by_cases hq:0+j=q
      . have:j=q:=by omega
        subst this;obtain ⟨lm,_⟩:=al.1 a3;simp [lm,a3];have:=al.1 a3;obtain ⟨_,e⟩:=this;simp [e]
      . have mB:j≠q:=by omega
        simp [hq,mB]
    rw [hmod];rfl
def SL(KK:jU κ dk kf){t b:Nat}{z:Operand}(i:Nat)(hm:yg P t dk zv){es:List (κ×Value×Nat)}{k:κ}(hx:lk fr x=some (.map (some b)))(hy:lk fr y=some (kf k))(hz:lk fr z=some v)(hi:L[i]?=some (b,mp kf es ck))
  (kk:∀ yF,JO P TT D n ops Q iP fr (lO L i (mp kf (u9 es k v ck) yF)) s):JO P TT D n ops Q (⟨none,.mapUpdate t x y z,ty,iS,af,none⟩::iP) fr L s:=by
 obtain ⟨yF,h⟩:=SG (TT:=TT) (D:=D) (s:=s) (ty:=ty) KK i hm hx hy hz hi;exact Ow h (kk yF)
def JT{g:Option (Nat×Bool)}{iK:Array Bool}(KK:jU κ dk kf){t b:Nat}{z:Operand}(rf:ops[i0]?=some ⟨none,.mapUpdate t x y z,ty,iS,af,g⟩)(hg:rz ops fr g)(i:Nat)(hm:yg P t dk zv){es:List (κ×Value×Nat)}{k:κ}(hx:lk fr x=some (.map (some b)))(hy:lk fr y=some (kf k))(hz:lk fr z=some v)(hi:L[i]?=some (b,mp kf es ck))
  (AO:∀ x∈K,x∈L.eraseIdx i) (kk:∀ yF,JA P TT D n ops Q K s0 jr (iK.setIfInBounds i0 true) fr (lO L i (mp kf (u9 es k v ck) yF)) s):JB P TT D n ops Q K s0 jr iK i0 fr L s:=by
 obtain ⟨yF,h⟩:=SG (TT:=TT) (D:=D) (s:=s) (ty:=ty) KK i hm hx hy hz hi;exact Wz rf hg h (Le.refl _) (λx hx _=>YG (AO x hx)) (kk yF)
end
section
variable{TT:kG}{fr:Fr}
def Cz{γ:Type}{c:Code}(X:Hl)(S:γ->Fr)(H:γ->Hl)(I:γ->World->Prop)(μ:γ->Nat)(mono:∀ g s s',I g s->Le D s s'->I g s')(g0:γ)
  (hS:je fr (S g0)) (hL:L=X++H g0) (hI:I g0 s)
  (round:∀ g s,I g s->JC P TT D n (lZ (λjS L' s'=>∃ g' A,je jS (S g')/\L'=A++(X++H g')/\I g' s'/\μ g' < μ g) Q) c (S g) (X++H g) s) :
  JC P TT D n Q (.loop c) fr L s:=lw S (λg=>X++H g) I μ mono g0 hS hL hI round
inductive AD(fr:Fr):Fr->Prop
 | refl:AD fr fr
 | push {d:Nat} {v:Value} {jS:Fr} (hd:(kO fr d).isNone=true) (h:AD fr jS):AD fr ((d,v)::jS)
def Sb{p:Prop}(h:p:=by repeat (first|exact AD.refl|refine AD.push rfl ?_)):p:=h
def AD.keeps{fr:Fr}(h:AD fr jS):je jS fr:=by
 induction h with
 | refl=>exact λ_ _ h=>h
 | @push d v jS hd _ ih=>
  intro t u hu;rw [vz];by_cases he:d=t
  . subst he;rw [hu] at hd;cases hd
  . rw [am he];exact ih t u hu
def kE(D:Nat)(s:World)(fr:Fr)(L:Hl)(t:Nat)(p:Prop)[Decidable p]:Fr->Hl->World->Prop:=λjS L' s'=>Le D s s'/\L'=L/\je jS ((t,.bool (decide p))::fr)
def kE.mk{p:Prop}[Decidable p]{b:Bool}(hl:Le D s s')(hS:AD fr jS)(ht:kO jS t=some (.bool b))(hb:b=decide p):kE D s fr L t p jS L s':=by
 subst hb;exact ⟨hl,rfl,je.cons ht hS.keeps⟩
def rm{x y:Code}(t:Nat)(p:Prop) [Decidable p] (h1:JC P TT D n (lZ (kE D s fr L t p) Q) x fr L s)
  (h2:∀ s',Le D s s'->JC P TT D n Q y ((t,.bool (decide p))::fr) L s'):JC P TT D n Q (.seq x y) fr L s:=λht a hr ho=>
 iF (eU (h1 ht a hr ho) λe a w ⟨jS,L',s',k1,k2,k3,k4⟩=>by
  cases e with
  | normal=>
   subst k3;obtain ⟨j1,j2,j3⟩:=k4;subst j2;exact h2 s' j1 ht a (k1.sub j3) k2
  | _=>exact ⟨jS,L',s',k1,k2,k3,k4⟩)
def jV{γ:Type}(D:Nat)(s:World)(fr:Fr)(L:Hl)(new:γ->Fr)(B:γ->Hl)(I:γ->World->Prop):Fr->Hl->World->Prop:=λjS L' s'=>∃ g A,Le D s s'/\L'.Perm (A++(B g++L))/\I g s'/\je jS (new g++fr)
def jV.mk{γ:Type}{new:γ->Fr}{B:γ->Hl}{I:γ->World->Prop}(g:γ)(A:Hl)(hl:Le D s s')(hK:je jS (new g++fr))(hp:L'.Perm (A++(B g++L)))(hI:I g s'):jV D s fr L new B I jS L' s':=⟨g,A,hl,hp,hI,hK⟩
def QT{p:Prop} (h:p:=by
 subst k3;obtain ⟨g,A,j0,j2,j3,j1⟩:=k4;rw [tr j2 _ k2];obtain ⟨e,d1,d2⟩:=sK (k2.perm j2);rw [e];exact h2 g _ (j0.trans d2) (mono _ _ _ j3 d2) ht a (k1.sub j1) d1):p:=h
def JU{γ:Type}{x y:Code}(new:γ->Fr)(B:γ->Hl)(I:γ->World->Prop)(mono:∀ g s s',I g s->Le D s s'->I g s')(h1:JC P TT D n (lZ (jV D s fr L new B I) Q) x fr L s)
  (h2:∀ g s',Le D s s'->I g s'->JC P TT D n Q y (new g++fr) (B g++L) s'):JC P TT D n Q (.seq x y) fr L s:=λht a hr ho=>
 iF (eU (h1 ht a hr ho) λe a w ⟨jS,L',s',k1,k2,k3,k4⟩=>by
  cases e with
  | normal=>
   exact QT
  | _=>exact ⟨jS,L',s',k1,k2,k3,k4⟩)
def mz(M:Hl)(s:World):Prop:=∀ b zs t,(b,cb zs t)∈M->iH s b 0 zs
def mz.tail{x:Nat×Obj}{M:Hl}(h:mz (x::M) s):mz M s:=λb zs t hm=>h b zs t (aq _ hm)
def mz.left{A B:Hl}(h:mz (A++B) s):mz A s:=λb zs t hm=>h b zs t (aN _ hm)
def mz.right{A B:Hl}(h:mz (A++B) s):mz B s:=λb zs t hm=>h b zs t (aJ _ hm)
def AC.pubW{f:FuncId}{R:Value->World->Prop}(h:AC P D f args L s (λv L' s'=>∃ M',L'=M'++L/\∀ s2,Le D s' s2->mz M' s2->R v s2)):
  AC P D f args L s (λv L' s'=>L=L'/\R v s'):=by
 refine ⟨h.1,λho=>(h.2 ho).mono ?_⟩;rintro e w' ⟨v,L',s',h1,rfl,h3,h4,M',rfl,h6⟩;obtain ⟨d1,d2,d3⟩:=sK h3;refine ⟨v,L,fill M' s',h1,d1,d2,h4.trans d3,Z,h6 _ d3 λb zs t hm j u hj=>?_⟩;rw [BO h3.left hm,aZ];exact hj
end
section
variable{TT:kG}{fr:Fr}{ops:Array Oper}
def jY(hY:lk fr x=some v/\Nat.blt d n=true)(k:JO P TT D n ops Q iP ((d,v)::fr) L s):JO P TT D n ops Q (⟨some d,.move x,ty,iS,af,none⟩::iP) fr L s:=have ⟨hx,hd⟩:=hY;iI (EC hx) hd k
def me(hY:lk fr x=some v/\Nat.blt d n=true)(k:JO P TT D n ops Q iP ((d,v)::fr) L s):JO P TT D n ops Q (⟨some d,.assign x,ty,iS,af,none⟩::iP) fr L s:=have ⟨hx,hd⟩:=hY;iI (MF hx) hd k
def Zqx(hx:lk fr x=some (.tuple vs.toArray))(hi:nth vs i=some v)(hd:Nat.blt d n=true)(k:JO P TT D n ops Q iP ((d,v)::fr) L s):JO P TT D n ops Q (⟨some d,.extract x i,ty,iS,af,none⟩::iP) fr L s:=iI (Rl hx hi) hd k
def ZqT{c:Operand}(hc:lk fr c=some (.bool true))(hx:lk fr x=some v)(hd:Nat.blt d n=true)(k:JO P TT D n ops Q iP ((d,v)::fr) L s):JO P TT D n ops Q (⟨some d,.pick c x y,ty,iS,af,none⟩::iP) fr L s:=iI (FD hc hx) hd k
def PA{c:Operand}(hc:lk fr c=some (.bool false))(hx:lk fr y=some v)(hd:Nat.blt d n=true)(k:JO P TT D n ops Q iP ((d,v)::fr) L s):JO P TT D n ops Q (⟨some d,.pick c x y,ty,iS,af,none⟩::iP) fr L s:=iI (Ro hc hx) hd k
def qaF{b:Int}(hx:lk fr x=some (.int ik a))(hy:lk fr y=some (.int ik b))(hd:Nat.blt d n=true)(k:JO P TT D n ops Q iP ((d,.bool (decide (a=b)))::fr) L s):JO P TT D n ops Q (⟨some d,.binOp .eql t x y t',ty,iS,af,none⟩::iP) fr L s:=iI (pW hx hy) hd k
def qed{b:Int}(hx:lk fr x=some (.int ik a))(hy:lk fr y=some (.int ik b))(hd:Nat.blt d n=true)(k:JO P TT D n ops Q iP ((d,.bool (!decide (a=b)))::fr) L s):JO P TT D n ops Q (⟨some d,.binOp .neq t x y t',ty,iS,af,none⟩::iP) fr L s:=iI (qM hx hy) hd k
def qbi{b:Int}(hx:lk fr x=some (.int ik a))(hy:lk fr y=some (.int ik b))(hd:Nat.blt d n=true)(k:JO P TT D n ops Q iP ((d,.bool (decide (a < b)))::fr) L s):JO P TT D n ops Q (⟨some d,.binOp .lss t x y t',ty,iS,af,none⟩::iP) fr L s:=iI (qK hx hy) hd k
def Fb{b:Int}(hx:lk fr x=some (.int ik a))(hy:lk fr y=some (.int ik b))(hd:Nat.blt d n=true)(k:JO P TT D n ops Q iP ((d,.bool (decide (a<=b)))::fr) L s):JO P TT D n ops Q (⟨some d,.binOp .leq t x y t',ty,iS,af,none⟩::iP) fr L s:=iI (Kr hx hy) hd k
def qcA{b:Int}(hx:lk fr x=some (.int ik a))(hy:lk fr y=some (.int ik b))(hd:Nat.blt d n=true)(k:JO P TT D n ops Q iP ((d,.bool (decide (b < a)))::fr) L s):JO P TT D n ops Q (⟨some d,.binOp .gtr t x y t',ty,iS,af,none⟩::iP) fr L s:=iI (uB hx hy) hd k
def uH{b:Int}(hY:lk fr x=some (.int ik a)/\lk fr y=some (.int ik b)/\Nat.blt d n=true)(k:JO P TT D n ops Q iP ((d,.bool (decide (b<=a)))::fr) L s):JO P TT D n ops Q (⟨some d,.binOp .geq t x y t',ty,iS,af,none⟩::iP) fr L s:=have ⟨hx,hy,hd⟩:=hY;iI (Oy hx hy) hd k
def uX{a b:List UInt8}(hY:lk fr x=some (St a)/\lk fr y=some (St b)/\Nat.blt d n=true)(k:JO P TT D n ops Q iP ((d,.bool (decide (a=b)))::fr) L s):JO P TT D n ops Q (⟨some d,.binOp .eql t x y t',ty,iS,af,none⟩::iP) fr L s:=have ⟨hx,hy,hd⟩:=hY;iI (qEU hx hy) hd k
def Jn{a b:List UInt8}(hx:lk fr x=some (St a))(hy:lk fr y=some (St b))(hd:Nat.blt d n=true)(k:JO P TT D n ops Q iP ((d,.bool (!decide (a=b)))::fr) L s):JO P TT D n ops Q (⟨some d,.binOp .neq t x y t',ty,iS,af,none⟩::iP) fr L s:=iI (NC hx hy) hd k
def Cc(hx:lk fr x=some (.bool true))(hd:Nat.blt d n=true)(k:JO P TT D n ops Q iP ((d,.bool false)::fr) L s):JO P TT D n ops Q (⟨some d,.unOp .not t x,ty,iS,af,none⟩::iP) fr L s:=iI (qy8 hx) hd k
def Mm(hx:lk fr x=some (.bool false))(hd:Nat.blt d n=true)(k:JO P TT D n ops Q iP ((d,.bool true)::fr) L s):JO P TT D n ops Q (⟨some d,.unOp .not t x,ty,iS,af,none⟩::iP) fr L s:=iI (qy7 hx) hd k
def qcS{b:Bool}(hx:lk fr x=some (.bool b))(hd:Nat.blt d n=true)(k:JO P TT D n ops Q iP ((d,.bool (!b))::fr) L s):JO P TT D n ops Q (⟨some d,.unOp .not t x,ty,iS,af,none⟩::iP) fr L s:=iI (NT hx) hd k
def PF{A:OAdr9}{c:Nat}(hx:lk fr x=some (.slice A m c))(ht:jH TT t=some ti)(hk:ti.kind=.sl e)(hd:Nat.blt d n=true)(k:JO P TT D n ops Q iP ((d,iJ (m:Int))::fr) L s):JO P TT D n ops Q (⟨some d,.call { callee:=.builtin .len,args:=#[x],argTypes:=#[t] },ty,iS,af,none⟩::iP) fr L s:=iI (Ri hx ht hk) hd k
def Ws{A:OAdr9}{c:Nat}(hY:(lk fr x=some (.slice A m c))/\(jH TT t=some ti)/\(ti.kind=.sl e)/\(Nat.blt d n=true))(k:JO P TT D n ops Q iP ((d,iJ (m:Int))::fr) L s):JO P TT D n ops Q (⟨some d,.call { callee:=.builtin .len,args:=#[x],argTypes:=#[t] },ty,iS,af,none⟩::iP) fr L s:=PF hY.1 hY.2.1 hY.2.2.1 hY.2.2.2 k
def DD(hx:lk fr x=some (St l))(ht:jH TT t=some ti)(hk:ti.desc=.string)(hd:Nat.blt d n=true)(k:JO P TT D n ops Q iP ((d,iJ (l.length:Int))::fr) L s):JO P TT D n ops Q (⟨some d,.call { callee:=.builtin .len,args:=#[x],argTypes:=#[t] },ty,iS,af,none⟩::iP) fr L s:=iI (qpF hx ht hk) hd k
def qaV{a:Addr}(hx:lk fr x=some (.pointer (some a)))(hd:Nat.blt d n=true)(k:JO P TT D n ops Q iP ((d,.pointer (some a))::fr) L s):JO P TT D n ops Q (⟨some d,.nilCheck x,ty,iS,af,none⟩::iP) fr L s:=iI (Rh hx) hd k
def PB(hx:lk fr x=some (.pointer (some ⟨b,off,none⟩)))(ht:jH TT t=some ti)(hk:ti.kind=.st os)(hf:xH os f=some 0)(hd:Nat.blt d n=true)(k:JO P TT D n ops Q iP ((d,.pointer (some ⟨b,off,none⟩))::fr) L s):JO P TT D n ops Q (⟨some d,.fieldAddr t x f,ty,iS,af,none⟩::iP) fr L s:=iI (Rf hx ht hk hf) hd k
def W0(hY:(lk fr x=some (.pointer (some ⟨b,off,none⟩)))/\(jH TT t=some ti)/\(ti.kind=.st os)/\(xH os f=some 0)/\(Nat.blt d n=true))(k:JO P TT D n ops Q iP ((d,.pointer (some ⟨b,off,none⟩))::fr) L s):JO P TT D n ops Q (⟨some d,.fieldAddr t x f,ty,iS,af,none⟩::iP) fr L s:=PB hY.1 hY.2.1 hY.2.2.1 hY.2.2.2.1 hY.2.2.2.2 k
def PD(hx:lk fr x=some (jc b))(ht:jH TT t=some ti)(hk:ti.kind=.st os)(hf:xH os f=some fo)(hd:Nat.blt d n=true)(k:JO P TT D n ops Q iP ((d,.pointer (some ⟨b,fo,none⟩))::fr) L s):JO P TT D n ops Q (⟨some d,.fieldAddr t x f,ty,iS,af,none⟩::iP) fr L s:=iI (S4 hx ht hk hf) hd k
def Wb(hY:(lk fr x=some (jc b))/\(jH TT t=some ti)/\(ti.kind=.st os)/\(xH os f=some fo)/\(Nat.blt d n=true))(k:JO P TT D n ops Q iP ((d,.pointer (some ⟨b,fo,none⟩))::fr) L s):JO P TT D n ops Q (⟨some d,.fieldAddr t x f,ty,iS,af,none⟩::iP) fr L s:=PD hY.1 hY.2.1 hY.2.2.1 hY.2.2.2.1 hY.2.2.2.2 k
def Zql(i:Nat)(hx:lk fr x=some (.pointer (some ⟨b,off,none⟩)))(hi:L[i]?=some (b,cb zs t'))(ht:jH TT t=some ti)(hk:uC ti.kind=true)(hv:nth zs off=some v)(hd:Nat.blt d n=true)(k:JO P TT D n ops Q iP ((d,v)::fr) L s):JO P TT D n ops Q (⟨some d,.load t x,ty,iS,af,none⟩::iP) fr L s:=iI (rj i ⟨hx,hi,ht,hk⟩ hv) hd k
def Wl(i:Nat)(hY:(lk fr x=some (.pointer (some ⟨b,off,none⟩)))/\(L[i]?=some (b,cb zs t'))/\(jH TT t=some ti)/\(uC ti.kind=true)/\(nth zs off=some v)/\(Nat.blt d n=true))(k:JO P TT D n ops Q iP ((d,v)::fr) L s):JO P TT D n ops Q (⟨some d,.load t x,ty,iS,af,none⟩::iP) fr L s:=Zql i hY.1 hY.2.1 hY.2.2.1 hY.2.2.2.1 hY.2.2.2.2.1 hY.2.2.2.2.2 k
def ki{b:Int}(hY:lk fr x=some (.int ik a)/\lk fr y=some (.int ik b)/\Nat.blt d n=true)(hc:ik.wrap (a+b)=c)(k:JO P TT D n ops Q iP ((d,.int ik c)::fr) L s):JO P TT D n ops Q (⟨some d,.binOp .add t x y t',ty,iS,af,none⟩::iP) fr L s:=have ⟨hx,hy,hd⟩:=hY;iI (nD hx hy hc) hd k
def Kt{b:Int}(hx:lk fr x=some (.int ik a))(hy:lk fr y=some (.int ik b))(hd:Nat.blt d n=true)(hc:ik.wrap (a - b)=c)(k:JO P TT D n ops Q iP ((d,.int ik c)::fr) L s):JO P TT D n ops Q (⟨some d,.binOp .sub t x y t',ty,iS,af,none⟩::iP) fr L s:=iI (rn hx hy hc) hd k
def qIs{b:Int}(hx:lk fr x=some (.int ik a))(hy:lk fr y=some (.int ik b))(hd:Nat.blt d n=true)(hc:ik.wrap (a * b)=c)(k:JO P TT D n ops Q iP ((d,.int ik c)::fr) L s):JO P TT D n ops Q (⟨some d,.binOp .mul t x y t',ty,iS,af,none⟩::iP) fr L s:=iI (qy6 hx hy hc) hd k
end
abbrev Zs:=@qxk
abbrev Zr:=@RP
abbrev Zn:=@qxm
abbrev Zt:=@jd
abbrev Zu:=@qBT
abbrev Zv:=@qBU
abbrev Zb:=@qtv
abbrev Zc:=@qtw
abbrev Zd:=@qtx
abbrev Ze:=@qp7
abbrev Zk:=@qyX
abbrev Zl:=@qyW
abbrev Zo:=@qEL
abbrev Zp:=@qsU
abbrev Zy:=@qEK
abbrev Zz:=@qEJ
abbrev Zg:=@qIi
abbrev Zf:=@WD
abbrev Zh:=@qIj
def Nt{TT:kG}{J:Fr->Hl->World->Prop}{ops:Array Oper}(h:J fr L s):JO P TT D n ops (lZ J Q) [] fr L s:=qxm (jd h)
def Sr{TT:kG}{id:Nat}{l:List Oper}{y:Code}(h:JO P TT D n l.toArray (lZ (JC P TT D n Q y) Q) l fr L s):JC P TT D n Q (.seq (.region id l.toArray false) y) fr L s:=qxk (RP h)
def At{TT:kG}{J:Fr->Hl->World->Prop}{ops:Array Oper}(hx:lk fr x=some v)(hd:Nat.blt d n=true)(h:J ((d,v)::fr) L s):JO P TT D n ops (lZ J Q) [⟨some d,.assign x,ty,iS,af,none⟩] fr L s:=me ⟨hx,hd⟩ (Nt h)
def sk(h:AD fr jS:=by repeat (first|exact AD.refl|refine AD.push rfl ?_)):je jS fr:=h.keeps
def kp{l:Fr}(h:je fr l:=by repeat (first|exact je.nil _|refine je.cons rfl ?_)):je fr l:=h
section
variable{TT:kG}{fr:Fr}{ops:Array Oper}{op:Op}{iK:Array Bool}
def p9(ops:Array Oper)(iK:Array Bool)(i:Nat):Bool:=Region.noSelect ops && Region.free .any ops iK i && (Region.ready .any ops iK).contains i
def za(i:Nat)(hi:ops[i]?=some ⟨some d,op,ty,iS,af,none⟩)(hq:QE P TT D fr op ty K s0 v)(hd:Nat.blt d n=true)(k:JA P TT D n ops Q K s0 jr (iK.setIfInBounds i true) ((d,v)::fr) L s)(hs:p9 ops iK i=true:=by kernel_rfl):JA P TT D n ops Q K s0 (jr+1) iK fr L s:=by
 simp only [p9,aA] at hs;exact IP i hi hs.1.1 hs.1.2 hs.2 trivial hq hd k
def zg(i:Nat){e:Nat×Bool}(hi:ops[i]?=some ⟨some d,op,ty,iS,af,some e⟩)(hg:rz ops fr (some e))(hq:QE P TT D fr op ty K s0 v)(hd:Nat.blt d n=true)(k:JA P TT D n ops Q K s0 jr (iK.setIfInBounds i true) ((d,v)::fr) L s)(hs:p9 ops iK i=true:=by kernel_rfl):JA P TT D n ops Q K s0 (jr+1) iK fr L s:=by
 simp only [p9,aA] at hs;exact IP i hi hs.1.1 hs.1.2 hs.2 hg hq hd k
def zn(i:Nat){w b:Bool}(hi:ops[i]?=some ⟨some d,op,ty,iS,af,some (j,w)⟩)(hj:vF ops j=some t)(hv:kO fr t=some (.bool b))(hb:(b != w)=true)(hd:Nat.blt d n=true)(k:JA P TT D n ops Q K s0 jr (iK.setIfInBounds i true) ((d,undef)::fr) L s)(hs:p9 ops iK i=true:=by kernel_rfl):JA P TT D n ops Q K s0 (jr+1) iK fr L s:=by
 simp only [p9,aA] at hs;exact qIf i hi hs.1.1 hs.1.2 hs.2 hj hv hb hd k
def T1(a:A)(h:A->B:=by intro h;first|exact jY Y2 h|exact Zn h|exact Zt h|exact me Y2 h|exact Zs h|exact Zr h|exact Wf Y4 h|exact Zg Z Z h|exact Zo h|exact Zu h|exact Wb Y5 h|exact Wl 0 Y6 h|exact Zk h|exact W0 Y5 h|exact Zc h|exact Zb h|exact ZqT Z Z Z h|exact Zp h|exact Ws Y4 h|exact PA Z Z Z h|exact Zv h|exact Wl 1 Y6 h|exact Zqx Z Z Z h|exact Zd h|exact Zl h|exact Wl 2 Y6 h|exact Zy Z h|exact Zz Z h|exact Zh Z Z Z h|exact qaF Z Z Z h|exact qaV Z Z h|exact qbi Z Z Z h|exact qcA Z Z Z h|exact qcS Z Z h|exact qed Z Z Z h):B:=h a
def G2(a:A)(h:A->B:=by intro h;(iterate 2 refine T1 ?_);exact h):B:=h a
def G3(a:A)(h:A->B:=by intro h;(iterate 3 refine T1 ?_);exact h):B:=h a
def G4(a:A)(h:A->B:=by intro h;(iterate 4 refine T1 ?_);exact h):B:=h a
def G5(a:A)(h:A->B:=by intro h;(iterate 5 refine T1 ?_);exact h):B:=h a
def G6(a:A)(h:A->B:=by intro h;(iterate 6 refine T1 ?_);exact h):B:=h a
def G7(a:A)(h:A->B:=by intro h;(iterate 7 refine T1 ?_);exact h):B:=h a
def G8(a:A)(h:A->B:=by intro h;(iterate 8 refine T1 ?_);exact h):B:=h a
def G9(a:A)(h:A->B:=by intro h;(iterate 9 refine T1 ?_);exact h):B:=h a
def lF(a:A)(h:A->B:=by intro h;(iterate 10 refine T1 ?_);exact h):B:=h a
def k8(a:A)(h:A->B:=by intro h;(iterate 11 refine T1 ?_);exact h):B:=h a
def mn(a:A)(h:A->B:=by intro h;(iterate 12 refine T1 ?_);exact h):B:=h a
def IN(a:A)(h:A->B:=by intro h;(iterate 13 refine T1 ?_);exact h):B:=h a
def qP(a:A)(h:A->B:=by intro h;(iterate 14 refine T1 ?_);exact h):B:=h a
def wN(a:A)(h:A->B:=by intro h;(iterate 15 refine T1 ?_);exact h):B:=h a
def CX(a:A)(h:A->B:=by intro h;(iterate 16 refine T1 ?_);exact h):B:=h a
def Cj(a:A)(h:A->B:=by intro h;(iterate 17 refine T1 ?_);exact h):B:=h a
def UV(a:A)(h:A->B:=by intro h;(iterate 18 refine T1 ?_);exact h):B:=h a
def zx(a:A)(h:A->B:=by intro h;(iterate 19 refine T1 ?_);exact h):B:=h a
def UW(a:A)(h:A->B:=by intro h;(iterate 20 refine T1 ?_);exact h):B:=h a
def LS(a:A)(h:A->B:=by intro h;(iterate 21 refine T1 ?_);exact h):B:=h a
def Po(a:A)(h:A->B:=by intro h;(iterate 22 refine T1 ?_);exact h):B:=h a
def UX(a:A)(h:A->B:=by intro h;(iterate 24 refine T1 ?_);exact h):B:=h a
def G26(a:A)(h:A->B:=by intro h;(iterate 26 refine T1 ?_);exact h):B:=h a
def J2(a:A)(b:B)(h:A->B->C:=by intro a b;(iterate 2 refine T1 ?_);exact mE Z a b):C:=h a b
def J3(a:A)(b:B)(h:A->B->C:=by intro a b;(iterate 3 refine T1 ?_);exact mE Z a b):C:=h a b
def J4(a:A)(b:B)(h:A->B->C:=by intro a b;(iterate 4 refine T1 ?_);exact mE Z a b):C:=h a b
def J5(a:A)(b:B)(h:A->B->C:=by intro a b;(iterate 5 refine T1 ?_);exact mE Z a b):C:=h a b
def J6(a:A)(b:B)(h:A->B->C:=by intro a b;(iterate 6 refine T1 ?_);exact mE Z a b):C:=h a b
def J7(a:A)(b:B)(h:A->B->C:=by intro a b;(iterate 7 refine T1 ?_);exact mE Z a b):C:=h a b
def J8(a:A)(b:B)(h:A->B->C:=by intro a b;(iterate 8 refine T1 ?_);exact mE Z a b):C:=h a b
def J9(a:A)(b:B)(h:A->B->C:=by intro a b;(iterate 9 refine T1 ?_);exact mE Z a b):C:=h a b
def sA(a:A)(b:B)(h:A->B->C:=by intro a b;(iterate 10 refine T1 ?_);exact mE Z a b):C:=h a b
def U1(a:A)(b:B)(h:A->B->C:=by intro a b;(iterate 11 refine T1 ?_);exact mE Z a b):C:=h a b
def vT(a:A)(b:B)(h:A->B->C:=by intro a b;(iterate 12 refine T1 ?_);exact mE Z a b):C:=h a b
def Ek(a:A)(b:B)(h:A->B->C:=by intro a b;(iterate 15 refine T1 ?_);exact mE Z a b):C:=h a b
def LU(a:A)(b:B)(h:A->B->C:=by intro a b;(iterate 16 refine T1 ?_);exact mE Z a b):C:=h a b
def LV(a:A)(b:B)(h:A->B->C:=by intro a b;(iterate 17 refine T1 ?_);exact mE Z a b):C:=h a b
def Cl(a:A)(b:B)(h:A->B->C:=by intro a b;(iterate 18 refine T1 ?_);exact mE Z a b):C:=h a b
def Ps(a:A)(b:B)(h:A->B->C:=by intro a b;(iterate 19 refine T1 ?_);exact mE Z a b):C:=h a b
def J20(a:A)(b:B)(h:A->B->C:=by intro a b;(iterate 20 refine T1 ?_);exact mE Z a b):C:=h a b
def J22(a:A)(b:B)(h:A->B->C:=by intro a b;(iterate 22 refine T1 ?_);exact mE Z a b):C:=h a b
def J28(a:A)(b:B)(h:A->B->C:=by intro a b;(iterate 28 refine T1 ?_);exact mE Z a b):C:=h a b
def T3{TT:kG}{fr:Fr}{op:Op}(h:QE P TT D fr op ty K s0 v:=by first|exact We Y4|exact EC Z|exact Rh Z|exact MF Z|exact Wd 0 Y5|exact Rf Z Z Z Z|exact Wd 1 Y5|exact Rl Z Z|exact Ri Z Z Z|exact pu Y4|exact FD Z Z|exact Ro Z Z):QE P TT D fr op ty K s0 v:=h
def zA(i:Nat)(hf:iK.getD i true=false)(hi:ops[i]?=some ⟨some d,op,ty,iS,af,none⟩)(hq:QE P TT D fr op ty K s0 v)(hd:Nat.blt d n=true)(k:JA P TT D n ops Q K s0 jr (iK.setIfInBounds i true) ((d,v)::fr) L s)(hs:p9 ops iK i=true:=by kernel_rfl):JA P TT D n ops Q K s0 (jr+1) iK fr L s:=za i hi hq hd k hs
def zN(i:Nat)(hf:iK.getD i true=false){w b:Bool}(hi:ops[i]?=some ⟨some d,op,ty,iS,af,some (j,w)⟩)(hj:vF ops j=some t)(hv:kO fr t=some (.bool b))(hb:(b != w)=true)(hd:Nat.blt d n=true)(k:JA P TT D n ops Q K s0 jr (iK.setIfInBounds i true) ((d,undef)::fr) L s)(hs:p9 ops iK i=true:=by kernel_rfl):JA P TT D n ops Q K s0 (jr+1) iK fr L s:=zn i hi hj hv hb hd k hs
def zG(i:Nat)(hf:iK.getD i true=false){e:Nat×Bool}(hi:ops[i]?=some ⟨some d,op,ty,iS,af,some e⟩)(hg:rz ops fr (some e))(hq:QE P TT D fr op ty K s0 v)(hd:Nat.blt d n=true)(k:JA P TT D n ops Q K s0 jr (iK.setIfInBounds i true) ((d,v)::fr) L s)(hs:p9 ops iK i=true:=by kernel_rfl):JA P TT D n ops Q K s0 (jr+1) iK fr L s:=zg i hi hg hq hd k hs
def T2(a:A)(h:A->B:=by intro h;first|exact zA 0 Z Z T3 Z h|exact zN 0 Z Z Z Z Z Z h|exact zG 0 Z Z ⟨_,Z,Z⟩ T3 Z h|exact zA 1 Z Z T3 Z h|exact zN 1 Z Z Z Z Z Z h|exact zG 1 Z Z ⟨_,Z,Z⟩ T3 Z h|exact zA 2 Z Z T3 Z h|exact zN 2 Z Z Z Z Z Z h|exact zG 2 Z Z ⟨_,Z,Z⟩ T3 Z h|exact zA 3 Z Z T3 Z h|exact zN 3 Z Z Z Z Z Z h|exact zG 3 Z Z ⟨_,Z,Z⟩ T3 Z h|exact zA 4 Z Z T3 Z h|exact zN 4 Z Z Z Z Z Z h|exact zG 4 Z Z ⟨_,Z,Z⟩ T3 Z h|exact zA 5 Z Z T3 Z h|exact zN 5 Z Z Z Z Z Z h|exact zG 5 Z Z ⟨_,Z,Z⟩ T3 Z h|exact zA 6 Z Z T3 Z h|exact zN 6 Z Z Z Z Z Z h|exact zG 6 Z Z ⟨_,Z,Z⟩ T3 Z h|exact zA 7 Z Z T3 Z h|exact zN 7 Z Z Z Z Z Z h|exact zG 7 Z Z ⟨_,Z,Z⟩ T3 Z h|exact zA 8 Z Z T3 Z h|exact zN 8 Z Z Z Z Z Z h|exact zG 8 Z Z ⟨_,Z,Z⟩ T3 Z h|exact zA 9 Z Z T3 Z h|exact zN 9 Z Z Z Z Z Z h|exact zG 9 Z Z ⟨_,Z,Z⟩ T3 Z h|exact zA 10 Z Z T3 Z h|exact zN 10 Z Z Z Z Z Z h|exact zG 10 Z Z ⟨_,Z,Z⟩ T3 Z h|exact zA 11 Z Z T3 Z h|exact zN 11 Z Z Z Z Z Z h|exact zG 11 Z Z ⟨_,Z,Z⟩ T3 Z h|exact zA 12 Z Z T3 Z h|exact zN 12 Z Z Z Z Z Z h|exact zG 12 Z Z ⟨_,Z,Z⟩ T3 Z h|exact zA 13 Z Z T3 Z h|exact zN 13 Z Z Z Z Z Z h|exact zG 13 Z Z ⟨_,Z,Z⟩ T3 Z h|exact zA 14 Z Z T3 Z h|exact zN 14 Z Z Z Z Z Z h|exact zG 14 Z Z ⟨_,Z,Z⟩ T3 Z h|exact zA 15 Z Z T3 Z h|exact zN 15 Z Z Z Z Z Z h|exact zG 15 Z Z ⟨_,Z,Z⟩ T3 Z h|exact zA 16 Z Z T3 Z h|exact zN 16 Z Z Z Z Z Z h|exact zG 16 Z Z ⟨_,Z,Z⟩ T3 Z h|exact zA 17 Z Z T3 Z h|exact zN 17 Z Z Z Z Z Z h|exact zG 17 Z Z ⟨_,Z,Z⟩ T3 Z h|exact zA 18 Z Z T3 Z h|exact zN 18 Z Z Z Z Z Z h|exact zG 18 Z Z ⟨_,Z,Z⟩ T3 Z h|exact zA 19 Z Z T3 Z h|exact zN 19 Z Z Z Z Z Z h|exact zG 19 Z Z ⟨_,Z,Z⟩ T3 Z h|exact zA 20 Z Z T3 Z h|exact zN 20 Z Z Z Z Z Z h|exact zG 20 Z Z ⟨_,Z,Z⟩ T3 Z h|exact zA 21 Z Z T3 Z h|exact zN 21 Z Z Z Z Z Z h|exact zG 21 Z Z ⟨_,Z,Z⟩ T3 Z h|exact zA 22 Z Z T3 Z h|exact zN 22 Z Z Z Z Z Z h|exact zG 22 Z Z ⟨_,Z,Z⟩ T3 Z h|exact zA 23 Z Z T3 Z h|exact zN 23 Z Z Z Z Z Z h|exact zG 23 Z Z ⟨_,Z,Z⟩ T3 Z h|exact zA 24 Z Z T3 Z h|exact zN 24 Z Z Z Z Z Z h|exact zG 24 Z Z ⟨_,Z,Z⟩ T3 Z h|exact zA 25 Z Z T3 Z h|exact zN 25 Z Z Z Z Z Z h|exact zG 25 Z Z ⟨_,Z,Z⟩ T3 Z h|exact zA 26 Z Z T3 Z h|exact zN 26 Z Z Z Z Z Z h|exact zG 26 Z Z ⟨_,Z,Z⟩ T3 Z h|exact zA 27 Z Z T3 Z h|exact zN 27 Z Z Z Z Z Z h|exact zG 27 Z Z ⟨_,Z,Z⟩ T3 Z h|exact zA 28 Z Z T3 Z h|exact zN 28 Z Z Z Z Z Z h|exact zG 28 Z Z ⟨_,Z,Z⟩ T3 Z h|exact zA 29 Z Z T3 Z h|exact zN 29 Z Z Z Z Z Z h|exact zG 29 Z Z ⟨_,Z,Z⟩ T3 Z h):B:=h a
def H1(a:A)(h:A->B:=by intro h;(iterate 1 refine T2 ?_);exact h):B:=h a
def H2(a:A)(h:A->B:=by intro h;(iterate 2 refine T2 ?_);exact h):B:=h a
def H3(a:A)(h:A->B:=by intro h;(iterate 3 refine T2 ?_);exact h):B:=h a
def H4(a:A)(h:A->B:=by intro h;(iterate 4 refine T2 ?_);exact h):B:=h a
def H5(a:A)(h:A->B:=by intro h;(iterate 5 refine T2 ?_);exact h):B:=h a
def H6(a:A)(h:A->B:=by intro h;(iterate 6 refine T2 ?_);exact h):B:=h a
def H7(a:A)(h:A->B:=by intro h;(iterate 7 refine T2 ?_);exact h):B:=h a
def H8(a:A)(h:A->B:=by intro h;(iterate 8 refine T2 ?_);exact h):B:=h a
def H9(a:A)(h:A->B:=by intro h;(iterate 9 refine T2 ?_);exact h):B:=h a
def Pp(a:A)(h:A->B:=by intro h;(iterate 10 refine T2 ?_);exact h):B:=h a
def H11(a:A)(h:A->B:=by intro h;(iterate 11 refine T2 ?_);exact h):B:=h a
def UY(a:A)(h:A->B:=by intro h;(iterate 15 refine T2 ?_);exact h):B:=h a
end
end
section
attribute [local irreducible] JC JO JA JB lZ mF mM AC fill iH QE Ev mq
variable(D:Nat)(L:Hl)
def ry{p:Prop} (h:p:=by
 exact ⟨rfl,rfl⟩):p:=h
def E6{p:Prop} (h:p:=by
 intro β1 s1 h1;refine G6 ?_;refine iI (jC [(_,_),(_,_)] [_,_] Y3 Z Z Z) Z<|Wt 0 [_,_] Y9<|G3 ?_;exact rR [_] L (.agg (us:=[_,_]) 0 Z Z Z Z Z (.nil)) Z h1 λ_ iL=>ry):p:=h
abbrev Ap9:=AC Tryz.prog
abbrev AV9(D:Nat)(f:FuncId)(a:LVal9)(L:Hl)(s:World)(x:Value):Prop:=AC Tryz.prog D f a L s λv L' _=>v=x/\L=L'
abbrev AN9(D:Nat)(f:FuncId)(a:LVal9)(L:Hl)(s:World)(R:Value->Hl->World->Prop):Prop:=AC Tryz.prog D f a L s λv L' s'=>∃ M',L'=M'++L/\R v M' s'
abbrev AM9(D:Nat)(f:FuncId)(a:LVal9)(M L:Hl)(s:World)(R:Value->Hl->World->Prop):Prop:=AC Tryz.prog D f a (M++L) s λv L' s'=>∃ M',L'=M'++L/\R v M' s'
def vx{c i:Int}:AV9 D 36 [iJ c,iJ i] L s (.agg #[iJ c,iJ i]):=by
 refine jv (fn:=f36) jl func36 V Z ntmps36 Z (rs:=[.cell 4 24]) Z [(0,_),(1,_)] Z<|Sr<|jp Z [_,_] Y2 ?_;exact E6
def OW{p:Prop} (h:p:=by
 exact ⟨by simp_all [kB,QA,QB,QC],rfl⟩):p:=h
def Md{p:Prop} (h:p:=by
 refine CX ?_;exact rR [] L (.tmp Z (.tmp Z (.t1 Z))) Z (Lr D) λ_ iL=>OW):p:=h
def QS{p:Prop} (h:p:=by
 refine Cj ?_;exact rR [] L (.tmp Z (.tmp Z (.t1 Z))) Z (Lr D) λ_ iL=>OW):p:=h
def qCS{k:Int}:AV9 D 211 [iJ k] L s (.tuple #[.bool (QA k),.bool (QB k),.bool (QC k)]):=by
 refine jv (fn:=f211) jl func211 V Z ntmps211 Z (rs:=[.tmp 2,.tmp 3,.tmp 4]) Z [(0,_)] Z<|J28 ?_ ?_<;>intro c1
 .refine J2 ?_ ?_<;>intro c2;.exact Md
  exfalso;omega
 refine J5 ?_ ?_<;>intro c2;.exact Md
 refine J7 ?_ ?_<;>intro c3
 .refine J2 ?_ ?_<;>intro c4;.exact QS
  exfalso;omega
 refine J5 ?_ ?_<;>intro c4;.exact QS
 refine J6 ?_ ?_<;>intro c5;.exact QS
 refine J7 ?_ ?_<;>intro c6
 .refine J2 ?_ ?_<;>intro c7;.exact Md
  exfalso;omega
 refine J5 ?_ ?_<;>intro c7;.exact Md
 refine qP ?_;exact rR [] L (.tmp Z (.tmp Z (.t1 Z))) Z (Lr D) λ_ iL=>OW
def Fl{p:Prop} (h:p:=by
 exact ⟨by simp_all [kB,Gt],rfl⟩):p:=h
def MJ{x:Tm}{u:Bool}:AV9 D 212 [.agg #[iJ x.kind,iO x.val],.bool u,.bool o] L s (.bool (Gt x u o)):=by
 refine jv (fn:=f212) jl func212 V Z ntmps212 Z (rs:=[.tmp 6]) Z [(0,_),(1,_),(2,_)] Z<|Sr<|kH Y2 λβ1 s1 h1=>mn ?_;refine vB Z ?_ ?_<;>intro c2;.refine Sr<|iI (jh 0 [_,_] Y5) Z<|iI (jC [] [_,_] Y3 Z Z Z) Z<|iI (J0 Z Z (qFV)) Z<|G6 ?_;exact rX [_] L Z h1 λ_ iL=>Fl
 refine J8 ?_ ?_<;>intro c3;.refine G8 ?_;exact rX [_] L Z h1 λ_ iL=>Fl
 refine J8 ?_ ?_<;>intro c4;.refine G4 ?_;refine Fb Z Z Z<|G6 ?_;exact rX [_] L Z h1 λ_ iL=>Fl
 refine G9 ?_;refine kT (t:=27) Z ?_ ?_<;>intro c5
 .refine G8 ?_;refine kT (t:=32) Z ?_ ?_<;>intro c6;.refine G7 ?_;exact rX [_] L Z h1 λ_ iL=>Fl
  refine G6 ?_;exact rX [_] L Z h1 λ_ iL=>Fl
 refine k8 ?_;exact rX [_] L Z h1 λ_ iL=>Fl
theorem Ei{p:Prop} (h:p:=by
 exact ⟨by (try simp_all [kB,EQ])<;>grind,rfl⟩):p:=h
def W5{p:Prop} (h:p:=by
 refine G8 ?_;exact rX [_] L Z Lc λ_ iL=>Ei):p:=h
def W4{p:Prop} (h:p:=by
 refine G8 ?_;exact rX [_] L Z h1 λ_ iL=>Ei):p:=h
def Wi{p:Prop} (h:p:=by
 refine CX ?_;exact rX [_] L Z h1 λ_ iL=>Ei):p:=h
def V4{p:Prop} (h:p:=by
 refine Cj ?_;exact rX [_] L Z Lc λ_ iL=>Ei):p:=h
def qiC{a:Ac}:AV9 D 160 [.agg #[iJ a.kind,iJ a.tgt,iJ a.x.kind,iO a.x.val,iJ a.y.kind,iO a.y.val],.bool o] L s (iJ (EQ a o)):=by
 refine jv (fn:=f160) jl func160 V Z ntmps160 Z (rs:=[.tmp 4]) Z [(0,_),(1,_)] Z<|Sr<|kH Y2 λβ1 s1 h1=>k8 ?_;refine kT (t:=12) Z ?_ ?_<;>intro c2;.exact Wi
 refine G5 ?_;refine uH Y3<|J4 ?_ ?_<;>intro c3;.exact W4
 refine G6 ?_;refine kT (t:=21) Z ?_ ?_<;>intro c4;.exact Wi
 refine sA ?_ ?_<;>intro c5;.exact W4
 refine G7 ?_;refine Je Y3 (qCS D _) λs6 h6=>wN ?_;refine EL (t:=35) Z ?_ ?_<;>intro c7
 .refine G8 ?_;refine tt (t:=40) Z ?_ ?_<;>intro c8;.refine UX ?_;refine Zu ?_;exact rX [_] L Z Lc λ_ iL=>Ei
  refine G3 ?_;refine X38 ?_;refine Je Y3 (MJ D _) λs9 h9=>G4 ?_;refine EL (t:=48) Z ?_ ?_<;>intro my;.exact V4
  refine G3 ?_;refine X38 ?_;refine Je Y3 (MJ D _) λkv jP=>G5 ?_;refine vB Z ?_ ?_<;>intro nU;.refine G7 ?_;exact rX [_] L Z Lc λ_ iL=>Ei
  exact W5
 refine G8 ?_;refine X38 ?_;refine Je Y3 (MJ D _) λs8 h8=>G4 ?_;refine EL (t:=48) Z ?_ ?_<;>intro c9;.exact V4
 refine G3 ?_;refine X38 ?_;refine Je Y3 (MJ D _) λku jN=>G5 ?_;refine vB Z ?_ ?_<;>intro mN;.refine G7 ?_;exact rX [_] L Z Lc λ_ iL=>Ei
 exact W5
def Pa{p:Prop} (h:p:=by
 refine ⟨?_,Z⟩;simp [kB,Gm,nJ, *];done):p:=h
def LQ{p:Prop} (h:p:=by
 refine ⟨?_,Z⟩;have hb:tV k ch=false:=by
  rw [eD];simp only [tV,uG,tB,dh,aA,aF,fO];omega
 simp [kB,Gm,nJ,qql pQ hb];done):p:=h
def TP{p:Prop} (h:p:=by
  refine mE Z ?_ ?_<;>intro nU;.exfalso;omega
  exfalso;omega):p:=h
def IG{p:Prop} (h:p:=by
 refine zx ?_;exact rX [] L Z Lc λ_ iL=>LQ):p:=h
def HR{p:Prop} (h:p:=by
 refine qP ?_;refine ki Y3 (jB O O)<|G2 ?_;have px:tV k ch=true:=by simp only [tV,uG,tB,dh,aA,aF,fO];omega
 refine jd ⟨(k+1),[],kp,Z,⟨Lc,⟨by omega,Cv hI pQ px⟩⟩,O⟩):p:=h
def qjI:AV9 D 159 [St l] L s (.bool (Gm l)):=by
 refine jv (fn:=f159) jl func159 V Z ntmps159 Z (rs:=[.tmp 2]) Z [(0,_)] Z<|G9 ?_;refine uX Y3<|jY Y2<|?_;refine kT (t:=8) Z ?_ ?_<;>intro c1;.refine Po ?_;exact rY Z λ_ iL=>Pa
 refine G3 ?_;refine DD Z Z Z Z<|G4 ?_;refine kT (t:=13) Z ?_ ?_<;>intro c2
 .refine Cj ?_;refine rR [] L (.t1 Z) Z (Lr D) λ_ iL=>?_;refine ⟨?_,Z⟩;have h6:¬ l.length<=6:=by omega
  simp [kB,Gm,nJ,h6];done
 refine G3 ?_;refine uX Y3<|G2 ?_;refine kT (t:=17) Z ?_ ?_<;>intro c3;.refine mn ?_;refine Zu ?_;exact rY Z λ_ iL=>Pa
 refine G3 ?_;refine uX Y3<|J3 ?_ ?_<;>intro c4;.refine G7 ?_;exact rY Z λ_ iL=>Pa
 refine G6 ?_;refine DD Z Z Z Z<|G4 ?_;refine lw (γ:=Nat) (λk=>[(0,_),(2,_),(22,_),(23,iJ (k:Int))]) (λ_=>_) (λk tw=>Le D s tw/\(k<=l.length/\∀ i c,i < k->l[i]?=some c->tV i c=true)) (λk=>l.length - k) (λ_ _ _ h hl=>⟨h.1.trans hl,h.2⟩) 0 (.c4 Z Z Z Z (.nil _)) Z ⟨Le.refl _,⟨aB _,λi c hi=>by omega⟩⟩ ?_;intro k s5 I5;have kh:=I5.2.1;have hI:=I5.2.2;refine J6 ?_ ?_<;>intro c6
 .have hk:k < l.length:=by omega
  obtain ⟨ch,pQ⟩:∃ ch,l[k]?=some ch:=⟨_,ax hk⟩;refine k8 ?_;refine ma jF 22 Z _ (λ_ h=>h) λs7 h7=>H2 ?_;refine za 2 Z (Bu Y4 pQ) Z<|za 3 Z (Oy Z Z) Z<|H1 ?_;refine Sv (t:=30) Z ?_ ?_<;>intro c8
  .refine H2 ?_;refine zg 7 Z ⟨_,Z,Z⟩ (Bu Y4 pQ) Z<|zg 8 Z ⟨_,Z,Z⟩ (Kr Z Z) Z<|H3 ?_;refine za 12 Z (Bu Y4 pQ) Z<|za 13 Z (Oy Z Z) Z<|H1 ?_;refine Sv (t:=40) Z ?_ ?_<;>intro c9
   .refine H2 ?_;refine zg 17 Z ⟨_,Z,Z⟩ (Bu Y4 pQ) Z<|zg 18 Z ⟨_,Z,Z⟩ (Kr Z Z) Z<|H3 ?_;refine jq V<|G6 ?_;refine tt (t:=48) Z ?_ ?_<;>intro my
    .refine G6 ?_;refine tt (t:=51) Z ?_ ?_<;>intro mN;.exact IG
     refine G9 ?_;exact TP
    exact HR
   refine H7 ?_;refine jq V<|G6 ?_;refine tt (t:=48) Z ?_ ?_<;>intro my;.refine G3 ?_;refine Mm Z Z<|UW ?_;refine Zu ?_;exact rX [] L Z Lc λ_ iL=>LQ
   exact HR
  refine H7 ?_;refine za 12 Z (Bu Y4 pQ) Z<|za 13 Z (Oy Z Z) Z<|H1 ?_;refine Sv (t:=40) Z ?_ ?_<;>intro c9
  .refine H2 ?_;refine zg 17 Z ⟨_,Z,Z⟩ (Bu Y4 pQ) Z<|zg 18 Z ⟨_,Z,Z⟩ (Kr Z Z) Z<|H3 ?_;refine jq V<|G4 ?_;refine Mm Z Z<|G7 ?_;refine tt (t:=51) Z ?_ ?_<;>intro my;.exact IG
   refine J9 ?_ ?_<;>intro mN;.refine k8 ?_;exact rX [] L Z Lc λ_ iL=>LQ
   refine G4 ?_;refine ki Y3 (jB O O)<|G2 ?_;have px:tV k ch=true:=by simp only [tV,uG,tB,dh,aA,aF,fO];omega
   refine jd ⟨(k+1),[],kp,Z,⟨Lc,⟨by omega,Cv hI pQ px⟩⟩,O⟩
  refine H7 ?_;refine jq V<|G4 ?_;refine Mm Z Z<|G4 ?_;refine Mm Z Z<|LS ?_;exact rX [] L Z Lc λ_ iL=>LQ
 refine k8 ?_;refine rR [] L (.t1 Z) Z I5.1 λ_ iL=>?_;refine ⟨?_,Z⟩;have hb:=qqj (λi c hi hc=>hI i c O hc);have h6:l.length<=6:=by omega
 simp [kB,Gm,nJ,hb,h6, *];done
def qfC{x:Ins}(hA:pH s A n c x.ad):AV9 D 123 [.agg #[St x.name,iO x.code,.bool x.I,.slice A n c]] L s (iJ (zb x)):=by
 have hn:=hA.1;have mX:=hA.2.1;have oR:=hA.2.2.1;refine jv (fn:=f123) jl func123 V Z ntmps123 Z (rs:=[.tmp 2]) Z [(0,_)] Z<|Sr<|kH Y2 λβ1 s1 h1=>G9 ?_;refine Je Y3 (qjI D _) λs2 h2=>G4 ?_;have e2:=h1.t h2;refine vB Z ?_ ?_<;>intro c3;.refine G8 ?_;refine rR [_] L (.t1 Z) Z e2 λ_ iL=>?_;refine ⟨?_,Z⟩;simp [kB,zb, *];done
 refine J9 ?_ ?_<;>intro c4
 .refine G8 ?_;refine rR [_] L (.t1 Z) Z e2 λ_ iL=>?_;refine ⟨?_,Z⟩;have h8:8 < x.ad.length:=by omega
  simp [kB,zb,h8, *];done
 refine IN ?_;refine lw (γ:=Nat) (λk=>[(1,_),(2,_),(17,_),(18,_),(19,iJ (k:Int))]) (λ_=>_) (λk tw=>Le D s2 tw/\(k<=n/\∀ i a,i < k->x.ad[i]?=some a->EQ a x.I=0)) (λk=>n - k) (λ_ _ _ h hl=>⟨h.1.trans hl,h.2⟩) 0 (.c5 Z Z Z Z Z (.nil _)) Z ⟨Le.refl _,⟨aB _,λi c hi=>by omega⟩⟩ ?_;intro k s5 I5;have kh:=I5.2.1;have hI:=I5.2.2;refine J6 ?_ ?_<;>intro c6
 .have hk:k < n:=by omega
  obtain ⟨b,off,a,rfl,ha,uj,hau⟩:=pH.at_ (hA.le (e2.t I5.1)) hk;refine G6 ?_;refine iI (jR Y6 hk) Z<|iI (kq Y3 uj Z) Z<|jp Z [_,_,_,_,_,_] Y2 λβ7 s7 h7=>Wt 0 [_,_,_,_,_,_] Y9<|Nt<|Sr<|iI (jh 0 [_,_,_,_,_,_] Y5) Z<|G2 ?_;refine Je Y3 (qiC D _) λs8 h8=>G9 ?_;refine lD Z ?_ ?_<;>intro c9
  .have hz:EQ a x.I≠0:=by simpa using c9
   refine mn ?_;refine rR [_,_] L (.t1 Z) Z (e2.t I5.1|>.t h7|>.t h8) λ_ iL=>?_;refine ⟨?_,Z⟩;have h8:¬ 8 < x.ad.length:=by omega
   simp [kB,zb,h8,qmk hI ha hz, *];done
  have hz:EQ a x.I=0:=by simpa using c9
  refine G4 ?_;refine ki Y3 (jB O O)<|G2 ?_;refine jd ⟨(k+1),[_],kp,Z,⟨(I5.1.t h7|>.t h8),⟨by omega,Cv hI ha hz⟩⟩,O⟩
 refine k8 ?_;refine rR [_] L (.t1 Z) Z (e2.t I5.1) λ_ iL=>?_;refine ⟨?_,Z⟩;have h8:¬ 8 < x.ad.length:=by omega
 simp [kB,zb,h8,qk3 (λi a hi h=>hI i a O h), *];done
def V9{p:Prop} (h:p:=by
 exact rR [_] ((β,cb [St x.name,iO x.code,.bool x.I,.slice A n c] 108)::L) (.t1 Z) Z h1 λ_ iL=>⟨by simp_all [kB,F8],rfl⟩):p:=h
def qlO{x y:Ins}{c' β:Nat}:Ap9 D 125 [.agg #[St y.name,iO y.code,.bool y.I,.slice A' n' c'],jc β] ((β,cb [St x.name,iO x.code,.bool x.I,.slice A n c] 108)::L) s λv L' _=>v=.bool (F8 x y)/\(β,cb [St x.name,iO x.code,.bool x.I,.slice A n c] 108)::L=L':=by
 refine jv (fn:=f125) jl func125 V Z ntmps125 Z (rs:=[.tmp 3]) Z [(0,_),(1,_)] Z<|Sr<|kH Y2 λβ1 s1 h1=>G9 ?_;refine uX Y3<|jY Y2<|?_;refine kT (t:=9) Z ?_ ?_<;>intro c2;.refine lF ?_;exact V9
 refine wN ?_;exact V9
def XN(l:List Ins)(hA:ky s A n c l)(f:FuncId)(cap:LVal9)(p:Ins->Bool)(hp:∀ s' x A' n' c',AV9 D f ([.agg #[St x.name,iO x.code,.bool x.I,.slice A' n' c']]++cap) L s' (.bool (p x))):AV9 D 161 [.slice A n c,.func (.func f) #[] cap.toArray] L s (iJ (kM p l 0)):=by
 have hn:=hA.1;have mX:=hA.2.1;have oR:=hA.2.2.1;refine jv (fn:=f161) jl func161 V Z ntmps161 Z (rs:=[.tmp 4]) Z [(0,_),(1,_)] Z<|qP ?_;refine lw (γ:=Nat) (λk=>[(0,_),(1,_),(4,_),(7,_),(8,iJ (k:Int))]) (λ_=>_) (λk tw=>Le D s tw/\(k<=n/\∀ i x,i < k->l[i]?=some x->p x=false)) (λk=>n - k) (λ_ _ _ h hl=>⟨h.1.trans hl,h.2⟩) 0 (.c5 Z Z Z Z Z (.nil _)) Z ⟨Le.refl _,⟨aB _,λi c hi=>by omega⟩⟩ ?_;intro k s1 I1;have kh:=I1.2.1;have hI:=I1.2.2;refine J6 ?_ ?_<;>intro c2
 .have hk:k < n:=by omega
  obtain ⟨b,off,x,A',n',c',rfl,hx,hcx,hax,kK,jo⟩:=ky.at_ (hA.le I1.1) hk;refine wN ?_;refine iI (jR Y6 hk) Z<|iI (kq Y3 hcx Z) Z<|vv (first:=[]) (captured:=cap) Y3 (hp _ x _ _ _) ?_;rintro _ _ s3 h3 ⟨rfl,rfl⟩;refine G2 ?_;refine qT Z ?_ ?_<;>intro c4;.have hz:=c4;refine mn ?_;refine rR [] L (.t1 Z) Z (I1.1.t h3) λ_ iL=>?_;refine ⟨?_,Z⟩;simp [kB,Jy hI hx hz];done
  have hz:=c4;refine G4 ?_;refine ki Y3 (jB O O)<|G2 ?_;refine jd ⟨(k+1),[],kp,Z,⟨(I1.1.t h3),⟨by omega,Cv hI hx hz⟩⟩,O⟩
 refine k8 ?_;refine rR [] L (.t1 Z) Z I1.1 λ_ iL=>?_;refine ⟨?_,Z⟩;simp [kB,RB (λi a hi h=>hI i a O h)];done
def qhU(l:List Ins)(hA:ky s A n c l){f:FuncId}{cap:LVal9}(p:Ins->Bool)(hp:∀ s' x A' n' c',AV9 D f ([.agg #[St x.name,iO x.code,.bool x.I,.slice A' n' c']]++cap) L s' (.bool (p x))):AV9 D 124 [.slice A n c,.func (.func f) #[] cap.toArray] L s (.bool (l.any p)):=by
 refine jv (fn:=f124) jl func124 V Z ntmps124 Z (rs:=[.tmp 4]) Z [(0,_),(1,_)] Z<|G9 ?_;refine Je Y3 (XN D _ l hA f cap p hp) λs1 h1=>uH Y3<|G4 ?_;exact rX [] L Z h1 λ_ iL=>⟨by simp only [kB,ZW],rfl⟩
def UJ{p:Prop} (h:p:=by
 refine ⟨?_,Z⟩;have h0:t.cells < 1\/65536 < t.cells:=by omega
 simp [kB,oI,h0];done):p:=h
def Rz{t:l7}(hA:ky s A n c t.U):AV9 D 74 [.agg #[iJ t.cells,.slice A n c]] L s (.agg #[iJ (oI t).1,iJ (oI t).2]):=by
 have hn:=hA.1;have mX:=hA.2.1;have oR:=hA.2.2.1;refine jv (fn:=f74) jl func74 V Z ntmps74 Z (rs:=[.cell 2 24]) Z [(0,_)] Z<|Sr<|kH Y2 λβ1 s1 h1=>jp Z [_,_] Y2 λβ2 s2 h2=>lF ?_;have e2:=h1.t h2;refine kT (t:=10) Z ?_ ?_<;>intro c3;.refine lF ?_;refine Je Y3 (vx D _) λs4 h4=>Wt 0 [_,_] Y9<|G5 ?_;exact rR [_,_] L (.agg (us:=[_,_]) 0 Z Z Z Z Z (.nil)) Z (e2.t h4) λ_ iL=>UJ
 refine sA ?_ ?_<;>intro c4;.refine Sr<|Je Y3 (vx D _) λs5 h5=>Wt 0 [_,_] Y9<|G5 ?_;exact rR [_,_] L (.agg (us:=[_,_]) 0 Z Z Z Z Z (.nil)) Z (e2.t h5) λ_ iL=>UJ
 refine J9 ?_ ?_<;>intro c5
 .refine Sr<|Je Y3 (vx D _) λs6 h6=>Wt 0 [_,_] Y9<|G5 ?_;refine rR [_,_] L (.agg (us:=[_,_]) 0 Z Z Z Z Z (.nil)) Z (e2.t h6) λ_ iL=>?_;refine ⟨?_,Z⟩;have h0:¬ (t.cells < 1\/65536 < t.cells):=by omega
  have h1:64 < t.U.length:=by omega
  simp [kB,oI,h0,h1];done
 refine IN ?_;refine lw (γ:=Nat) (λk=>[(1,_),(2,_),(23,_),(24,_),(25,iJ (k:Int))]) (λ_=>_) (λk tw=>Le D s2 tw/\(k<=n/\∀ i,i < k->Bq t.U i=0)) (λk=>n - k) (λ_ _ _ h hl=>⟨h.1.trans hl,h.2⟩) 0 (.c5 Z Z Z Z Z (.nil _)) Z ⟨Le.refl _,⟨aB _,λi hi=>by omega⟩⟩ ?_;intro k s6 I6;have e6:=e2.t I6.1;have kh:=I6.2.1;have hI:=I6.2.2;refine J6 ?_ ?_<;>intro c7
 .have hk:k < n:=by omega
  obtain ⟨b,off,x,A',n',c',rfl,hx,hcx,hax,kK,jo⟩:=ky.at_ (hA.le e6) hk;refine G7 ?_;refine iI (jR Y6 hk) Z<|iI (kq Y3 hcx Z) Z<|jp Z [_,_,_,_] Y2 λβ8 s8 h8=>me Y2<|Wt 0 [_,_,_,_] Y9<|Nt<|Zs<|Sr<|iI (jh 0 [_,_,_,_] Y5) Z<|Je Y3 (qfC D _ (hax.le h8)) λs9 h9=>G9 ?_;have e9:=e6.t h8|>.t h9;refine lD Z ?_ ?_<;>intro my
  .have hz:zb x≠0:=by simpa using my
   refine G4 ?_;refine Je Y3 (vx D _) λkv jP=>Wt 1 [_,_] Y9<|G9 ?_;refine rR [_,_,_] L (.agg (us:=[_,_]) 1 Z Z Z Z Z (.nil)) Z (e9.t jP) λ_ iL=>?_;refine ⟨?_,Z⟩;have h0:¬ (t.cells < 1\/65536 < t.cells):=by omega
   have h1:¬ 64 < t.U.length:=by omega
   have hr:Bq t.U k=zb x:=by simp [Bq,hx,hz]
   have hb:=XR (f:=Bq t.U) (m:=t.U.length) (j:=0) (k:=k) (λi _ hi=>hI i hi) O (by rw [hr];exact hz) O;simp [kB,oI,h0,h1,hb,hr];done
  have hz:zb x=0:=by simpa using my
  refine G7 ?_;refine iI (Gc Z Z Z Z Z O) Z<|iI (qw Z) Z<|Je Y3 (qhU D _ (t.U.take k) (ky.take (hA.le e9) hk) (F8 x) (λs' y A'' n'' c''=>qlO D _)) λkv jP=>G2 ?_;refine qT Z ?_ ?_<;>intro nU
  .have hy:=nU;refine Sr<|jY Y2<|Je Y3 (vx D _) λkY kN=>Wt 1 [_,_] Y9<|G8 ?_;refine rR [_,_,_] L (.agg (us:=[_,_]) 1 Z Z Z Z Z (.nil)) Z (e9.t jP|>.t kN) λ_ iL=>?_;refine ⟨?_,Z⟩;have h0:¬ (t.cells < 1\/65536 < t.cells):=by omega
   have h1:¬ 64 < t.U.length:=by omega
   have hr:Bq t.U k=8:=by simp [Bq,hx,hz,hy]
   have hb:=XR (f:=Bq t.U) (m:=t.U.length) (j:=0) (k:=k) (λi _ hi=>hI i hi) O (by rw [hr];decide) O;simp [kB,oI,h0,h1,hb,hr];done
  have hy:=nU;refine G4 ?_;refine ki Y3 (jB O O)<|G2 ?_;refine jd ⟨(k+1),[_],kp,rfl,⟨(I6.1.t h8|>.t h9|>.t jP),⟨by omega,λi hi=>by rcases gD.1 hi with h|rfl;exact hI i h;simp [Bq,hx,hz,hy]⟩⟩,O⟩
 refine G7 ?_;refine iI (jC [] [_,_] Y3 Z Z Z) Z<|Wt 0 [_,_] Y9<|G3 ?_;refine rR [_,_] L (.agg (us:=[_,_]) 0 Z Z Z Z Z (.nil)) Z e6 λ_ iL=>?_;refine ⟨?_,Z⟩;have h0:¬ (t.cells < 1\/65536 < t.cells):=by omega
 have h1:¬ 64 < t.U.length:=by omega
 have hb:=qjA (f:=Bq t.U) (m:=t.U.length) (j:=0) (λi _ hi=>hI i O);simp [kB,oI,h0,h1,hb];done
def LR{p:Prop} (h:p:=by
 exact ⟨by simp [kB, *],rfl⟩):p:=h
def qI8{x lo hi:Int}:AV9 D 7 [iJ x,iJ lo,iJ hi] L s (.bool (decide (lo<=x/\x<=hi))):=by
 refine jv (fn:=f7) jl func7 V Z ntmps7 Z (rs:=[.tmp 6]) Z [(0,_),(1,_),(2,_)] Z<|G9 ?_;refine uH Y3<|jY Y2<|?_;refine kT (t:=10) Z ?_ ?_<;>intro c1;.refine G5 ?_;refine Fb Z Z Z<|G5 ?_;exact rY Z λ_ iL=>LR
 refine G8 ?_;exact rY Z λ_ iL=>LR
def TW{c i:Int}:AV9 D 8 [iJ c,iJ i] L s (.agg #[iJ c,iJ i]):=by
 refine jv (fn:=f8) jl func8 V Z ntmps8 Z (rs:=[.cell 4 24]) Z [(0,_),(1,_)] Z<|Sr<|jp Z [_,_] Y2 ?_;exact E6
theorem qzG{p:UInt8->Bool}{c:UInt8}(hk:l[k]?=some c)(h:p c=true):l.any p=true:=by grind
def qtj{p:UInt8->Bool}(h:∀ i c,i < l.length->l[i]?=some c->p c=false):l.any p=false:=by
 rw [List.any_eq_false];intro c hc;obtain ⟨i,hi,he⟩:=fP hc;have:=h i c hi (by rw [ax hi,he]);simp [this]
def qGf{c:Int}(hl:l.length<=9223372036854775807):AV9 D 99 [St l,.int .u8 c] L s (.bool (l.any λx=>decide ((x.toNat:Int)=c))):=by
 refine jv (fn:=f99) jl func99 V Z ntmps99 Z (rs:=[.tmp 4]) Z [(0,_),(1,_)] Z<|mn ?_;refine lw (γ:=Nat) (λk=>[(0,_),(1,_),(4,_),(5,iJ (k:Int))]) (λ_=>_) (λk tw=>Le D s tw/\(k<=l.length/\∀ i x,i < k->l[i]?=some x->decide ((x.toNat:Int)=c)=false)) (λk=>l.length - k) (λ_ _ _ h hl=>⟨h.1.trans hl,h.2⟩) 0 (.c4 Z Z Z Z (.nil _)) Z ⟨Le.refl _,⟨aB _,λi c hi=>by omega⟩⟩ ?_;intro k s1 I1;have kh:=I1.2.1;have hI:=I1.2.2;refine G5 ?_;refine DD Z Z Z Z<|J3 ?_ ?_<;>intro c2
 .have hk:k < l.length:=by omega
  obtain ⟨ch,pQ⟩:∃ ch,l[k]?=some ch:=⟨_,ax hk⟩;refine G8 ?_;refine iI (Bu Y4 pQ) Z<|J4 ?_ ?_<;>intro c3;.have hz:=bO c3;refine k8 ?_;refine rR [] L (.t1 Z) Z I1.1 λ_ iL=>?_;refine ⟨?_,Z⟩;simp only [kB];rw [qzG pQ hz];done
  have hz:=bQ c3;refine G5 ?_;refine ki Y3 (jB O O)<|G2 ?_;refine jd ⟨(k+1),[],kp,Z,⟨I1.1,⟨by omega,Cv hI pQ hz⟩⟩,O⟩
 refine k8 ?_;refine rR [] L (.t1 Z) Z I1.1 λ_ iL=>?_;refine ⟨?_,Z⟩;simp only [kB];rw [qtj (λi x hi hx=>hI i x O hx)];done
end
def qoo(l:List UInt8)(r:ByteArray):(l.map (λx=>(x.toNat:Int))).foldl (λr n=>r.push (UInt8.ofNat n.toNat)) r=⟨r.data++l.toArray⟩:=by
 induction l generalizing r with
 | nil=>cases r;simp
 | cons x l ih=>
  simp only [aS,gW,ih];apply fu;simp [ByteArray.push]
def qEQ{TT:kG}{fr:Fr}{t:Nat}{BG:TI}(hx:lk fr x=some (.slice A n c))(ht:jH TT t=some ti)(hk:ti.kind=.sl e)(he:jH TT e=some te)(hke:te.desc=.int .u8)
  (ht':jH TT t'=some BG) (rW:BG.desc=.string) (h:lL s0 A n c l):QE P TT D fr (.convert t t' x) ty K s0 (St l):=λhT dst iS af g ρ hρ L s ho hl _=>by
 obtain ⟨k1,k2,_⟩:=hT.at_ ht;rw [hk] at k2;simp only [TK.fits] at k2;rw [k2] at k1;have k3:=(hT.at_ he).1;rw [hke] at k3;have k4:=(hT.at_ ht').1;rw [rW] at k4;have hc:=run_convert_bytes_string (P:=P) (fill L s) t t' e A n c k1 k3 k4;simp only [execOp,hρ x _ hx,bA,hc];cases A with
 | none=>
  have:l=[]:=by
   cases l with
   | nil=>rfl
   | cons y l=>obtain ⟨b,off,cs,h1,_⟩:=h.2.2.2 0 y rfl;cases h1
  subst this;simp [Conv.bytesToString];rfl
 | some a=>
  have hcells:∀ j v,(l.map (λx=>Value.int .u8 (x.toNat:Int)))[j]?=some v->(fill L s).cell? (a.add j)=some v:=λj v hj=>by
   rw [db] at hj;cases hx:l[j]? with
   | none=>simp [hx] at hj
   | some y=>
    simp [hx] at hj;obtain ⟨b,off,cs,h1,h2,h3,rfl⟩:=h.2.2.2 j y hx;injection h1 with h1;subst h1
    have:=h2 0 _ rfl;rw [add_lit,<- hj];simpa using EH ho (hl.cell this)
  have hload:=run_loadCells_list (P:=P) (fill L s) a (l.map (λx=>Value.int .u8 (x.toNat:Int))) hcells;rw [bI,<- h.1] at hload;have hr:=run_bytesToString (P:=P) (fill L s) a n c (l.map (λx=>(x.toNat:Int))) (by rw [hload,fU];rfl);rw [hr,qoo];have he:(⟨ByteArray.empty.data++l.toArray⟩:ByteArray)=⟨l.toArray⟩:=by apply fu;exact Array.empty_append
  simp only [aP,bG,he]
section
variable(L:Hl)
def qo6{α:Type}{l m:List α}(hl:l.length=m.length)(h:∀ i x,i < l.length->l[i]?=some x->m[i]?=some x):l=m:=by
 apply gv;intro i;by_cases hi:i < l.length
 . rw [h i _ hi (ax hi),ax hi]
 . rw [di O,di O]
theorem qoz{α:Type}{l m:List α}{x y:α}(h1:l[i]?=some x)(h2:m[i]?=some y)(h:x≠y):l≠m:=by grind
def qjB{f:Nat->Int}(m j:Nat):(zS f m j).1=0->(zS f m j).2=0:=by
 induction m generalizing j with
 | zero=>intro _;rfl
 | succ m ih=>
  simp only [zS];split
  . intro h;contradiction
  . exact ih _
def Sg(t:l7):(oI t).1=0->(oI t).2=0:=by
 unfold oI;split
 . intro h;cases h
 split
 . intro h;cases h
 . exact qjB _ _
def tP(t:l7)(m:lj):Int×Int:=
 if (oI t).1≠0 then oI t
 else if (m.cells.length:Int)≠t.cells then (9,-2)
 else if 400000 < m.aa.length\/20000 < m.output.length then (3,-2)
 else if m.stop < 0\/5 < m.stop then (4,-2)
 else if m.code≠0/\m.stop≠1 then (6,-2)
 else (0,0)
def sH(t:l7)(image:LInt9)(input:List UInt8):Int×Int:=
 if (oI t).1≠0 then oI t
 else if t.cells < (image.length:Int) then (3,-2)
 else if 400000 < input.length then (3,-3)
 else (0,0)
attribute [local irreducible] JC JO JA JB lZ mF mM AC fill iH QE Ev mq
def Cz8{p:Prop} (h:p:=by
 refine ⟨?_,Z⟩;have h0:l≠l1:=λe=>by subst e;omega
 simp [kB,h0];done):p:=h
def Cz9{p:Prop} (h:p:=by
 refine ⟨?_,Z⟩;have h0:l≠l1:=qoz hx hy hE;simp [kB,h0];done):p:=h
def OY{p:Prop} (h:p:=by
 refine ⟨?_,Z⟩;have h0:l=l1:=qo6 O (λi x hi h=>hI i x O h);simp [kB,h0];done):p:=h
def Wv{p:Prop} (h:p:=by
 refine G7 ?_;exact rY Z λ_ iL=>Cz8):p:=h
def Vt{p:Prop} (h:p:=by
 refine k8 ?_;exact rR [] L (.t1 Z) Z I2.1 λ_ iL=>OY):p:=h
def HO{p:Prop} (h:p:=by
  refine lD Z ?_ ?_<;>intro c5
  .have hE:x≠y:=by assumption
   refine k8 ?_;exact rX [] L Z Lc λ_ iL=>Cz9
  have hE:x=y:=by simpa using c5
  refine G5 ?_;refine ki Y3 (jB O O)<|G2 ?_;refine jd ⟨(k+1),[],kp,Z,⟨Lc,⟨by omega,Cv hI hx (hE▸hy)⟩⟩,O⟩):p:=h
def qly(A:OAdr9)(n c:Nat)(l:LInt9)(hA:lV s A n c l)(A1:OAdr9)(n1 c1:Nat)(l1:LInt9)(hB:lV s A1 n1 c1 l1):AV9 D 54 [.slice A n c,.slice A1 n1 c1] L s (.bool (decide (l=l1))):=by
 have hn:=hA.1;have mX:=hA.2.1;have oR:=hA.2.2.1;have lX:=hB.1;refine jv (fn:=f54) jl func54 V Z ntmps54 Z (rs:=[.tmp 4]) Z [(0,_),(1,_)] Z<|wN ?_;refine lD Z ?_ ?_<;>intro c1;.exact Wv
 refine G9 ?_;refine lw (γ:=Nat) (λk=>[(0,_),(1,_),(4,_),(5,iJ (k:Int))]) (λ_=>_) (λk tw=>Le D s tw/\(k<=n/\∀ i x,i < k->l[i]?=some x->l1[i]?=some x)) (λk=>n - k) (λ_ _ _ h hl=>⟨h.1.trans hl,h.2⟩) 0 (.c4 Z Z Z Z (.nil _)) Z ⟨Le.refl _,⟨aB _,λi c hi=>by omega⟩⟩ ?_;intro k s2 I2;have kh:=I2.2.1;have hI:=I2.2.2;refine J9 ?_ ?_<;>intro c3
 .have hk:k < n:=by omega
  obtain ⟨b,off,x,rfl,hx,hcx,_⟩:=lV.at_ Pz hk;obtain ⟨b1,off1,y,rfl,hy,hcy,_⟩:=lV.at_ Pz (show k < n1 by omega);refine G5 ?_;refine ma jF 9 Z _ (λ_ h=>h) λs4 h4=>H2 ?_;refine za 2 Z (ly Y6 hk) Z<|za 3 Z (jW Y3 Pz Z) Z<|H2 ?_;refine za 6 Z (ly Y6 (show k < n1 by omega)) Z<|za 7 Z (jW Y3 Pz Z) Z<|za 8 Z (qM Z Z) Z<|jq V<|Zt ?_;exact HO
 exact Vt
theorem Gy{p:Prop} (h:p:=by
 exact ⟨by simp only [kB,tP] at *;grind,rfl⟩):p:=h
def TG{p:Prop} (h:p:=by
 exact rR [_,_,_,_] L (.agg (us:=[_,_]) 1 Z Z Z Z Z (.nil)) Z Lc λ_ iL=>Gy):p:=h
def Gp{p:Prop} (h:p:=by
 refine Wt 1 [_,_] Y9<|G5 ?_;exact rR [_,_,_,_] L (.agg (us:=[_,_]) 1 Z Z Z Z Z (.nil)) Z Lc λ_ iL=>Gy):p:=h
def qxc{t:l7}(hA:ky s A n c t.U){m:lj}{zO zC vu zD zP zE:Nat}(wW:lV s Ax zO zC m.cells)(ta:lL s Bx vu zD m.aa)(xR:lL s Ox zP zE m.output):AV9 D 76 [.agg #[iJ t.cells,.slice A n c],.agg #[.slice Ax zO zC,iO m.r0,iO m.r1,iO m.r2,iO m.r3,iO m.r4,.slice Bx vu zD,.slice Ox zP zE,iJ m.stop,iO m.code]] L s (.agg #[iJ (tP t m).1,iJ (tP t m).2]):=by
 have lX:=wW.1;have oB:=ta.1;have xW:=xR.1;have hF:=Sg t;refine jv (fn:=f76) jl func76 V Z ntmps76 Z (rs:=[.cell 4 24]) Z [(0,_),(1,_)] Z<|Sr<|kH Y2 λβ1 s1 h1=>kH Y2 λβ2 s2 h2=>jp Z [_,_] Y2 λβ3 s3 h3=>Nt<|Zs<|Sr<|iI (jh 2 [_,_] Y5) Z<|Je Y3 (Rz D _ Pz) λs4 h4=>jp Z [_,_] Y2 λβ5 s5 h5=>Wt 0 [_,_] Y9<|Nt<|Sr<|iI (jh 0 [_,_] Y5) Z<|iI (jC [] [_,_] Y3 Z Z Z) Z<|iI (sL Z Z (rq)) Z<|G2 ?_;refine lD Z ?_ ?_<;>intro c6;.refine Sr<|iI (jh 0 [_,_] Y5) Z<|Wt 1 [_,_] Y9<|G4 ?_;exact TG
 refine lF ?_;refine Wl 3 Y6<|G4 ?_;refine lD Z ?_ ?_<;>intro c7;.refine Sr<|Je Y3 (vx D _) λs8 h8=>?_;exact Gp
 refine G7 ?_;refine kT (t:=25) Z ?_ ?_<;>intro c8;.refine k8 ?_;refine Je Y3 (vx D _) λs9 h9=>?_;exact Gp
 refine vT ?_ ?_<;>intro c9;.refine Sr<|Je Y3 (vx D _) λku jN=>?_;exact Gp
 refine G6 ?_;refine kT (t:=36) Z ?_ ?_<;>intro my;.refine lF ?_;refine Je Y3 (vx D _) λkv jP=>?_;exact Gp
 refine sA ?_ ?_<;>intro mN;.refine Sr<|Je Y3 (vx D _) λkc jL=>?_;exact Gp
 refine G6 ?_;refine tt (t:=46) Z ?_ ?_<;>intro nU
 .refine lF ?_;refine lD Z ?_ ?_<;>intro oP;.refine Sr<|Je Y3 (vx D _) λli kz=>?_;exact Gp
  refine G5 ?_;refine iI (jC [] [_,_] Y3 Z Z Z) Z<|Wt 1 [_,_] Y9<|G3 ?_;exact TG
 refine IN ?_;refine iI (jC [] [_,_] Y3 Z Z Z) Z<|Wt 1 [_,_] Y9<|G3 ?_;exact TG
end
section
def AC.pub{f:FuncId}{args:LVal9}{R:Value->Hl->World->Prop}(h:AC P D f args L s (λv L' s'=>∃ M',L'=M'++L/\R v M' s')) :
  AC P D f args L s (λv L' s'=>L=L'/\∃ M' s1,R v M' s1/\Le D s1 s'/\∀ b zs t,(b,cb zs t)∈M'->iH s' b 0 zs):=by
 refine ⟨h.1,λho=>(h.2 ho).mono ?_⟩;rintro e w' ⟨v,L',s',h1,rfl,h3,h4,M',rfl,h6⟩;obtain ⟨d1,d2,d3⟩:=sK h3;refine ⟨v,L,fill M' s',h1,d1,d2,h4.trans d3,Z,M',s',h6,d3,λb zs t hm j u hj=>?_⟩;rw [BO h3.left hm,aZ];exact hj
end
section
def wv(l:LInt9):LVal9:=l.map (Value.int .u32)
def bv(l:List UInt8):LVal9:=l.map λx=>Value.int .u8 (x.toNat:Int)
def iv(l:LInt9):LVal9:=l.map (Value.int .i64)
def av(l:List Ac):LVal9:=l.flatMap Ac.cs
def zW(l:LInt9):(wv l).length=l.length:=by simp [wv]
def qFv(l:List UInt8):(bv l).length=l.length:=by simp [bv]
def lV.row{l:LInt9}(h:lV s A n c l):Row s A n 1 (wv l):=
 ⟨by simp [wv,h.1],λu hu=>by simp [wv] at hu;obtain ⟨x,_,rfl⟩:=hu;rfl,λj u hj=>by
  simp only [wv,db] at hj;cases hx:l[j]? with
  | none=>simp [hx] at hj
  | some x=>
   simp [hx] at hj;subst hj;obtain ⟨b,off,cs,h1,h2,_,rfl,_⟩:=h.2.2.2 j x hx;exact ⟨b,off,h1,by simpa using h2 0 _ rfl⟩⟩
def lL.row(h:lL s A n c l):Row s A n 1 (bv l):=
 ⟨by simp [bv,h.1],λu hu=>by simp [bv] at hu;obtain ⟨x,_,rfl⟩:=hu;rfl,λj u hj=>by
  simp only [bv,db] at hj;cases hx:l[j]? with
  | none=>simp [hx] at hj
  | some x=>
   simp [hx] at hj;subst hj;obtain ⟨b,off,cs,h1,h2,_,rfl⟩:=h.2.2.2 j x hx;exact ⟨b,off,h1,by simpa using h2 0 _ rfl⟩⟩
def lL.nil(s:World)(A:OAdr9)(c:Nat)(hc:c<=9223372036854775807):lL s A 0 c []:=⟨rfl,aB _,hc,λi x h=>by cases h⟩
def lV.nil(s:World)(A:OAdr9)(c:Nat)(hc:c<=9223372036854775807):lV s A 0 c []:=⟨rfl,aB _,hc,λi x h=>by cases h⟩
def Own.slice{sz:Nat}{A:Hl}(h:Own e sz A v n xs):∃ Ad c,v=.slice Ad n c/\n<=c/\c<=9223372036854775807:=by
 cases h with
 | nil=>exact ⟨none,0,rfl,aC _,by omega⟩
 | blk b cap n xs ys hn hc rh hm=>exact ⟨_,cap,rfl,rh,hm⟩
def Own.bts{A:Hl}(h:Own e 1 A (.slice Ad n c) n (bv l))(hp:∀ b zs t,(b,cb zs t)∈A->iH s b 0 zs):lL s Ad n c l:=by
 generalize hv:Value.slice Ad n c=v at h;generalize hx:bv l=xs at h;cases h with
 | nil=>
  injection hv with e1 e2 e3;have:l=[]:=by cases l with
   | nil=>rfl
   | cons y l=>simp [bv] at hx
  subst this;subst e3;exact lL.nil s Ad 0 O
 | blk b cap n xs ys hn hc rh hm=>
  injection hv with e1 e2 e3;subst e1;subst e3;subst hx;refine ⟨by simpa [bv] using hn.symm,rh,hm,λi x hi=>⟨b,0,[.int .u8 (x.toNat:Int)],Z,λj u hj=>?_,Z,Z⟩⟩;have hc:=hp b _ e Mc;cases j with
  | zero=>
   simp at hj;subst hj;have:=hc i (.int .u8 (x.toNat:Int)) (by rw [aR (by simp [bv];exact (al.1 hi).1)];simp [bv,hi]);simpa using this
  | succ j=>simp at hj
def Own.wds{A:Hl}{l:LInt9}(h:Own e 1 A (.slice Ad n c) n (wv l))(hu:∀ x∈l,iY x)(hp:∀ b zs t,(b,cb zs t)∈A->iH s b 0 zs):lV s Ad n c l:=by
 generalize hv:Value.slice Ad n c=v at h;generalize hx:wv l=xs at h;cases h with
 | nil=>
  injection hv with e1 e2 e3;have:l=[]:=by cases l with
   | nil=>rfl
   | cons y l=>simp [wv] at hx
  subst this;subst e3;exact lV.nil s Ad 0 O
 | blk b cap n xs ys hn hc rh hm=>
  injection hv with e1 e2 e3;subst e1;subst e3;subst hx;refine ⟨by simpa [wv] using hn.symm,rh,hm,λi x hi=>⟨b,0,[iO x],Z,λj u hj=>?_,Z,Z,hu x (ay hi)⟩⟩;have hc:=hp b _ e Mc;cases j with
  | zero=>
   simp at hj;subst hj;have:=hc i (iO x) (by rw [aR (by simp [wv];exact (al.1 hi).1)];simp [wv,hi]);simpa using this
  | succ j=>simp at hj
def lV.u32{l:LInt9}(h:lV s A n c l):∀ x∈l,iY x:=λx hx=>by
 obtain ⟨i,hi⟩:=bC hx;obtain ⟨b,off,cs,h1,h2,_,rfl,h4⟩:=h.2.2.2 i x hi;exact h4
def lL.tail{x:UInt8}(h:lL s A n c (x::l)):lL s (if c=1 then A else A.map (·.add (1 * 1))) (n - 1) (c - 1) l:=
 ⟨by have:=h.1;simp at this;omega,by have:=h.2.1;omega,by have:=h.2.2.1;omega,λi y hi=>by
  obtain ⟨b,off,cs,h1,h2,h3,h4⟩:=h.2.2.2 (i+1) y (by simpa using hi);have hl:i < l.length:=(al.1 hi).1;have hn:=h.1;simp at hn;have hc:=h.2.1;subst h1;refine ⟨b,off+1,cs,?_,?_,h3,h4⟩
  . rw [am O];simp [add_lit]
  . rw [show off+1+i * 1=off+(i+1) * 1 by omega];exact h2⟩
def sq(m:lj)(i:Int):Int:=if i=0 then m.r0 else if i=1 then m.r1 else if i=2 then m.r2 else if i=3 then m.r3 else m.r4
def mS(m:lj)(i v:Int):lj:={ m with r0:=if i=0 then v else m.r0,r1:=if i=1 then v else m.r1,r2:=if i=2 then v else m.r2,r3:=if i=3 then v else m.r3,r4:=if i=4 then v else m.r4 }
def lh(m:lj)(op:Int)(x:Tm):Int:=if x.kind=1 then sq m x.val else if x.kind=2 then op else x.val
def lK(x:Int):Int:=x % 4294967296
def jK(k x y:Int):Int:=
 if k=1 then lK (x+y) else if k=2 then lK (x - y) else if k=3 then lK (x * y) else if k=4 then x / y else if k=5 then x % y
 else if k=6 then ((x.toNat &&& y.toNat:Nat):Int) else if k=7 then ((x.toNat ||| y.toNat:Nat):Int) else if k=8 then ((x.toNat ^^^ y.toNat:Nat):Int)
 else if k=9 then (((x.toNat <<< y.toNat) % 4294967296:Nat):Int) else if k=10 then ((x.toNat >>> y.toNat:Nat):Int)
 else if k=11 then (if x=y then 1 else 0) else if k=12 then (if x < y then 1 else 0) else x
def kn(m:lj)(a:Ac)(op:Int):lj:=
 let x:=lh m op a.x;let y:=lh m op a.y
 if (a.kind=4\/a.kind=5)/\y=0 then { m with stop:=4 }
 else if (a.kind=13\/a.kind=14)/\(m.cells.length:Int)<=x then { m with stop:=3 }
 else if a.kind=16/\m.output.length=20000 then { m with stop:=5 }
 else if a.kind=13 then mS m a.tgt (m.cells.getD x.toNat 0)
 else if a.kind=14 then { m with cells:=m.cells.set x.toNat y }
 else if a.kind=15 then (match m.aa with
  | []=>mS m a.tgt 4294967295
  | c::r=>{ mS m a.tgt (c.toNat:Int) with aa:=r })
 else if a.kind=16 then { m with output:=m.output++[UInt8.ofNat (x.toNat % 256)] }
 else if a.kind=17\/(a.kind=18/\y=0) then { m with stop:=1,code:=x }
 else if a.kind<=12\/(a.kind=19/\y=0) then mS m a.tgt (jK a.kind x y)
 else m
def mL(m:lj)(op:Int):List Ac->lj
 | []=>m
 | a::r=>if (kn m a op).stop=0 then mL (kn m a op) op r else kn m a op
def wK(pt:List Ins)(c:Int):Option Ins:=pt.find? λx=>decide (x.code=c)
def lY(t:l7)(m:lj):lj:=
 if (m.cells.length:Int)<=m.r4 then { m with stop:=3 }
 else match wK t.U (m.cells.getD m.r4.toNat 0) with
  | none=>{ m with stop:=2 }
  | some x=>
   if x.I then
    if m.r4+1=(m.cells.length:Int) then { m with stop:=3 } else mL { m with r4:=m.r4+2 } (m.cells.getD (m.r4+1).toNat 0) x.ad
   else mL { m with r4:=m.r4+1 } 0 x.ad
def oK(t:l7)(m:lj):Nat->lj×Nat
 | 0=>(m,0)
 | n+1=>if m.stop=0 then ((oK t (lY t m) n).1,(oK t (lY t m) n).2+1) else (m,0)
def pY(pt:List Ins)(c:Int):Nat->Nat
 | 0=>0
 | k+1=>match pt[k]? with
  | some x=>if x.code=c then k+1 else pY pt c k
  | none=>pY pt c k
structure rM(m:lj):Prop where
 cells:m.cells.length<=65536
 wide:∀ x∈m.cells,iY x
 u0:iY m.r0
 u1:iY m.r1
 u2:iY m.r2
 u3:iY m.r3
 u4:iY m.r4
 output:m.output.length<=20000
 aa:m.aa.length<=400000
 code:iY m.code
end
def jD{TT:kG}{fr:Fr}{op:Op}(h:QE P TT D fr op ty K s0 v)(e:v=v'):QE P TT D fr op ty K s0 v':=e▸h
def ZZ:(BinOp.and≠.eql/\BinOp.and≠.neq):=by simp
def y_:(BinOp.or≠.eql/\BinOp.or≠.neq):=by simp
def Z3:(BinOp.xor≠.eql/\BinOp.xor≠.neq):=by simp
def Z0:(BinOp.shl≠.eql/\BinOp.shl≠.neq):=by simp
def Z2:(BinOp.shr≠.eql/\BinOp.shr≠.neq):=by simp
def F6{x:Int}(h:iY x):(BitVec.ofInt 32 x).toNat=x.toNat:=by
 obtain ⟨h1,h2⟩:=h;rw [BitVec.toNat_ofInt];omega
def Tx(h:n < 4294967296):IntKind.u32.wrap (n:Int)=(n:Int):=by rw [cQ];omega
section
variable{t:Nat}{x y:Int}
def Z6(hx:iY x)(hy:iY y)(w:World):(binOp .and t (iO x) (iO y)).run P w=.ok (iO ((x.toNat &&& y.toNat:Nat):Int)) w:=by
 have h:(BitVec.ofInt 32 x &&& BitVec.ofInt 32 y).toNat=x.toNat &&& y.toNat:=by rw [BitVec.toNat_and,F6 hx,F6 hy]
 have h2:x.toNat &&& y.toNat < 4294967296:=h▸(BitVec.ofInt 32 x &&& BitVec.ofInt 32 y).isLt;have h3:Op.intBits .and .u32 x y=pure (iO (IntKind.u32.wrap ((BitVec.ofInt 32 x &&& BitVec.ofInt 32 y).toNat:Int))):=rfl;simp only [binOp,h3,h,Tx h2];rfl
def F_(hx:iY x)(hy:iY y)(w:World):(binOp .or t (iO x) (iO y)).run P w=.ok (iO ((x.toNat ||| y.toNat:Nat):Int)) w:=by
 have h:(BitVec.ofInt 32 x ||| BitVec.ofInt 32 y).toNat=x.toNat ||| y.toNat:=by rw [BitVec.toNat_or,F6 hx,F6 hy]
 have h2:x.toNat ||| y.toNat < 4294967296:=h▸(BitVec.ofInt 32 x ||| BitVec.ofInt 32 y).isLt
 have h3:Op.intBits .or .u32 x y=pure (iO (IntKind.u32.wrap ((BitVec.ofInt 32 x ||| BitVec.ofInt 32 y).toNat:Int))):=rfl;simp only [binOp,h3,h,Tx h2];rfl
def R5(hx:iY x)(hy:iY y)(w:World):(binOp .xor t (iO x) (iO y)).run P w=.ok (iO ((x.toNat ^^^ y.toNat:Nat):Int)) w:=by
 have h:(BitVec.ofInt 32 x ^^^ BitVec.ofInt 32 y).toNat=x.toNat ^^^ y.toNat:=by rw [BitVec.toNat_xor,F6 hx,F6 hy]
 have h2:x.toNat ^^^ y.toNat < 4294967296:=h▸(BitVec.ofInt 32 x ^^^ BitVec.ofInt 32 y).isLt;have h3:Op.intBits .xor .u32 x y=pure (iO (IntKind.u32.wrap ((BitVec.ofInt 32 x ^^^ BitVec.ofInt 32 y).toNat:Int))):=rfl;simp only [binOp,h3,h,Tx h2];rfl
def qj7(h:32<=n):(2:Nat) ^ n=4294967296 * 2 ^ (n - 32):=by
 rw [show n=32+(n - 32) by omega,Nat.pow_add];simp
def qr4(X Y:Nat):(X * 2 ^ min Y 32) % 4294967296=(X <<< Y) % 4294967296:=by
  rw [Nat.shiftLeft_eq];rcases Nat.le_total Y 32 with h|h
  . rw [gY h]
  . rw [fj h,qj7 h]
    rw [show X * (4294967296 * 2 ^ (Y - 32))=4294967296 * (X * 2 ^ (Y - 32)) by rw [Nat.mul_left_comm]];omega
def qr5(hX:X < 4294967296)(Y:Nat):X / 2 ^ min Y 32=X >>> Y:=by
  rw [Nat.shiftRight_eq_div_pow];rcases Nat.le_total Y 32 with h|h
  . rw [gY h]
  . rw [fj h,gJ O,gJ]
    have:(2:Nat) ^ 32<=2 ^ Y:=eJ O h;omega
def Z7(hx:iY x)(hy:iY y)(w:World):(binOp .shl t (iO x) (iO y)).run P w=.ok (iO (((x.toNat <<< y.toNat) % 4294967296:Nat):Int)) w:=by
 obtain ⟨X,rfl⟩:=aX hx.1;obtain ⟨Y,rfl⟩:=aX hy.1;have h3:Op.shift .shl .u32 (X:Int) .u32 (Y:Int)=pure (iO (IntKind.u32.wrap ((X:Int) * 2 ^ min Y 32))):=by
  unfold Op.shift;rw [am O];rfl
 have h4:IntKind.u32.wrap ((X:Int) * 2 ^ min Y 32)=(((X <<< Y) % 4294967296:Nat):Int):=by
  rw [cQ,<- qr4];have:((X * 2 ^ min Y 32:Nat):Int)=(X:Int) * 2 ^ min Y 32:=by push_cast;rfl
  rw [<- this];omega
 simp only [binOp,h3,h4,aH];rfl
def Z8(hx:iY x)(hy:iY y)(w:World):(binOp .shr t (iO x) (iO y)).run P w=.ok (iO ((x.toNat >>> y.toNat:Nat):Int)) w:=by
 obtain ⟨X,rfl⟩:=aX hx.1;obtain ⟨Y,rfl⟩:=aX hy.1;have h3:Op.shift .shr .u32 (X:Int) .u32 (Y:Int)=pure (iO ((X:Int).fdiv (2 ^ min Y 32))):=by
  unfold Op.shift;rw [am O];rfl
 have h4:(X:Int).fdiv (2 ^ min Y 32)=((X >>> Y:Nat):Int):=by
  rw [<- qr5 (by have:=hx.2;omega)];have:((2 ^ min Y 32:Nat):Int)=(2:Int) ^ min Y 32:=by push_cast;rfl
  rw [<- this,Int.fdiv_eq_ediv_of_nonneg _ (dM _)];rfl
 simp only [binOp,h3,h4,aH];rfl
end
section
variable{Y:Nat}
def sY(f:Nat->Bool)(X Y:Nat):Nat->Nat
 | 0=>0
 | k+1=>sY f X Y k+if f (X / 2 ^ k % 2+Y / 2 ^ k % 2) then 2 ^ k else 0
def qxF(f:Nat->Bool)(X Y k:Nat):sY f X Y k < 2 ^ k:=by
 induction k with
 | zero=>simp [sY]
 | succ k ih=>simp only [sY,eP];split<;>omega
def qzT(f:Nat->Bool)(X Y k i:Nat):(sY f X Y k).testBit i=(decide (i < k) && f (X / 2 ^ i % 2+Y / 2 ^ i % 2)):=by
  induction k with
  | zero=>simp [sY]
  | succ k ih=>
    have lm:=qxF f X Y k;simp only [sY];by_cases hf:f (X / 2 ^ k % 2+Y / 2 ^ k % 2)=true
    . rw [aw hf,eO]
      rcases fe i k with h|h|h
      . rw [Nat.testBit_two_pow_add_gt h,ih];simp [h,Nat.lt_succ_of_lt h]
      . subst h;rw [Nat.testBit_two_pow_add_eq,ih];simp [hf]
      . rw [gP]
        . simp [show ¬ i < k+1 by omega]
        . calc 2 ^ k+sY f X Y k < 2 ^ k+2 ^ k:=by omega
            _=2 ^ (k+1):=by rw [eP];omega
            _<=2 ^ i:=eJ O O
    . rw [am hf,bB,ih]
      rcases fe i k with h|h|h
      . simp [h,Nat.lt_succ_of_lt h]
      . subst h;simp [hf]
      . simp [show ¬ i < k+1 by omega,show ¬ i < k by omega]
def FE(X i:Nat):X.testBit i=decide (X / 2 ^ i % 2=1):=by
 rw [Nat.testBit_eq_decide_div_mod_eq]
def TY{f:Nat->Bool}(hZ:Zq9 < 4294967296)(h:∀ i,Zq9.testBit i=f (X / 2 ^ i % 2+Y / 2 ^ i % 2)\/32<=i):sY f X Y 32=Zq9:=by
  apply Nat.eq_of_testBit_eq;intro i;rw [qzT];by_cases hi:i < 32
  . rcases h i with h|h
    . simp [hi,h]
    . omega
  . rw [gP (x:=Zq9) (i:=i)]
    . simp [hi]
    . have h32:(2:Nat) ^ 32<=2 ^ i:=eJ O O
      omega
def qFw(hX:X < 4294967296):sY (λd=>decide (d=2)) X Y 32=X &&& Y:=by
 refine TY (Nat.lt_of_le_of_lt Nat.and_le_left hX) λi=>.inl ?_;rw [Nat.testBit_and,FE,FE];rw [dF];simp;omega
def qIw(hX:X < 4294967296)(hY:Y < 4294967296):sY (λd=>decide (d=1) || decide (d=2)) X Y 32=X ||| Y:=by
 refine TY (gy (n:=32) hX hY) λi=>.inl ?_;rw [Nat.testBit_or,FE,FE];rw [dF];simp;omega
def qFy(hX:X < 4294967296)(hY:Y < 4294967296):sY (λd=>decide (d=1)) X Y 32=X ^^^ Y:=by
 refine TY (gb (n:=32) hX hY) λi=>.inl ?_;rw [Nat.testBit_xor,FE,FE];rw [dF];simp;omega
def tF(left:Bool)(X:Nat):Nat->Nat
 | 0=>X
 | k+1=>if left then (tF left X k+tF left X k) % 4294967296 else tF left X k / 2
def i_(hX:X < 4294967296)(k:Nat):tF true X k=(X <<< k) % 4294967296:=by
 induction k with
 | zero=>simp [tF,eN hX]
 | succ k ih=>simp only [tF,bS,ih,Nat.shiftLeft_eq,eP];rw [<- Nat.mul_assoc];omega
def ZP(X k:Nat):tF false X k=X >>> k:=by
 induction k with
 | zero=>simp [tF]
 | succ k ih=>simp only [tF,ih,Nat.shiftRight_succ];rfl
def qG0(hX:X < 4294967296)(b:Bool)(k:Nat):tF b X k < 4294967296:=by
 induction k with
 | zero=>exact hX
 | succ k ih=>simp only [tF];split<;>omega
def qG1(hX:X < 4294967296)(hk:32 < k)(b:Bool):tF b X k=0:=by
 cases b with
 | true=>
  rw [i_ hX,<- qr4,fj O];omega
 | false=>
  rw [ZP,<- qr5 hX,fj O,gJ O]
end
end Go.Proofs.YtapeaicongaggaaGreatDoor
