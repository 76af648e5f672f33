/- Part 3. -/
import Derived.Test.YtapeaicongaggaaGreatDoorQ41z2
set_option linter.unusedVariables false
set_option linter.defProp false
set_option linter.unusedSimpArgs false
set_option linter.unnecessarySimpa false
set_option maxRecDepth 100000
set_option maxHeartbeats 8000000
namespace Go.Proofs.YtapeaicongaggaaGreatDoor
open Go Go.RowKit Go.Proofs.Tryz
def aD:=@List.nil_append
def aK:=@List.drop_eq_nil_of_le
def aL:=@List.drop_eq_getElem_cons
def bl:=@List.getElem?_set_ne
def bD:=@Option.isNone_iff_eq_none
def bJ:=@decide_eq_decide
def bK:=@List.getElem?_set_self
def cD:=@Option.some.inj
def cK:=@List.getElem?_replicate
def cM:=@List.mem_of_find?_eq_some
def dt:=@List.mem_range
def dD:=@Bool.not_eq_true'
def dN:=@List.set_cons_succ
def dO:=@List.getElem_mem
def dP:=@Nat.le_of_not_lt
def dQ:=@List.mem_replicate
def dU:=@List.drop_of_length_le
def dZ:=@List.mem_of_mem_take
def ea:=@or_false
def ee:=@List.drop_succ_cons
def eh:=@Option.getD_some
def ej:=@List.take_append_of_le_length
def eK:=@Int.tdiv_eq_ediv_of_nonneg
def eQ:=@List.not_mem_nil
def fc:=@List.set_eq_take_append_cons_drop
def fl:=@beq_iff_eq
def fq:=@List.any_eq_true
def fw:=@Prod.mk.injEq
def fx:=@List.any_cons
def fC:=@List.drop_append_of_le_length
def fD:=@getD_set_ne
def fL:=@Int.ediv_nonneg
def fQ:=@List.take_succ_cons
def fV:=@dif_pos
def gd:=@Nat.ble_eq
def gf:=@UInt8.toNat_ofNat'
def gj:=@List.find?_eq_none
def gp:=@List.mem_or_eq_of_mem_set
def gK:=@Int.ediv_le_self
def gL:=@List.ext_getElem
def gQ:=@List.map_set
def gZ:=@Int.emod_nonneg
def iD:=@Nat.add_mul
def iG:=@true_and
variable{s s' w s0:World}{P:Program}{A Ax Ad Ai Ao A1 Bx Ox:OAdr9}{D n e c ty k off d nx cx j t' cc bc bm bq nc ni ci no co p jr ck i0 b0 o0:Nat}{sm l:LInt9}{x y:Operand}{L L' M Y K X:Hl}{af:Array Edge}{m:lj}{iP:List Oper}{v yv C z:Value}{iS:String}{news xs tl zs yc vs ys us:LVal9}{Q:qd}{css:List LVal9}{i a:Int}{b:Bool}{ti te:TI}{es:List (Int×Value×Nat)}{ik:IntKind}{ts:Array TypeId}{ps:List (Nat×Operand)}{jS:Fr}{r:List UInt8}{pt:List Ins}{ds js ks:List Nat}{o:Oper}
section
attribute [local irreducible] JC JO JA JB lZ mF mM AC fill iH QE Ev mq
variable{x y:Int}{X:Nat}
def Dw(h1:0<=a)(h2:a < 4294967296):IntKind.u32.wrap a=a:=by rw [cQ];omega
def CI(a:Int):IntKind.u32.wrap a=lK a:=cQ a
def Mp(hx:iY x)(hy:iY y):lK (x.tdiv y)=x / y:=by
 obtain ⟨h1,h2⟩:=hx;obtain ⟨h3,h4⟩:=hy;rw [eK h1];have h5:0<=x / y:=fL h1 h3;have h6:x / y<=x:=gK _ h1;unfold lK;omega
def Jg(hx:iY x):x.tmod y=x % y:=Int.tmod_eq_emod_of_nonneg hx.1
def Qf(hx:iY x)(hy:iY y)(h0:y≠0):lK (x - lK (lK (x.tdiv y) * y))=x % y:=by
 rw [Mp hx hy];have h1:=Int.mul_ediv_add_emod x y;have h2:=gZ x h0;rw [Int.mul_comm] at h1;have h4:=hx.1;have h5:=hx.2;have h6:0<=x / y * y:=Int.mul_nonneg (fL h4 hy.1) hy.1;unfold lK;omega
def qu6(h:b=true)(X k:Nat):Value.int .u32 (IntKind.u32.wrap (((tF b X k:Nat):Int)+((tF b X k:Nat):Int)))=iO ((tF b X (k+1):Nat):Int):=by simp_all [cQ,tF,bS]
def qu7(h:b=false)(hX:X < 4294967296):Value.int .u32 (IntKind.u32.wrap (((tF b X k:Nat):Int).tdiv 2))=iO ((tF b X (k+1):Nat):Int):=by
 have:=qG0 hX b k;subst h;rw [cQ];simp only [tF];congr 1;rw [eK O];simp;omega
def MQ(hX:X < 4294967296)(k:Nat):Value.int .u32 (IntKind.u32.wrap (((X / 2 ^ k:Nat):Int).tdiv 2))=iO ((X / 2 ^ (k+1):Nat):Int):=by
 have h1:X / 2 ^ k<=X:=Nat.div_le_self _ _;rw [eP,<- Nat.div_div_eq_div_mul];generalize X / 2 ^ k=Zq9 at h1;rw [cQ,eK O];congr 1;omega
def ZU(k:Nat):Value.int .u32 (IntKind.u32.wrap (((2 ^ k % 4294967296:Nat):Int) * 2))=iO ((2 ^ (k+1) % 4294967296:Nat):Int):=by
 rw [cQ,eP];congr 1;omega
theorem qoA(a b:Nat):Value.int .u8 (IntKind.u8.wrap (48+IntKind.u8.wrap (IntKind.u32.wrap (((a:Nat):Int).tmod 2+((b:Nat):Int).tmod 2))))=.int .u8 ((48+(a % 2+b % 2):Nat):Int):=by grind [IntKind.wrap_u32,IntKind.wrap_u8]
def xB(l:List UInt8)(d:Nat):Bool:=l.any λx=>decide ((x.toNat:Int)=((48+d:Nat):Int))
def qFx{l:List UInt8}{Y:Nat}(hk:k < 32)(h:(l.any λx=>decide ((x.toNat:Int)=((48+(X / 2 ^ k % 2+Y / 2 ^ k % 2):Nat):Int)))=true):Value.int .u32 (IntKind.u32.wrap (((sY (xB l) X Y k:Nat):Int)+((2 ^ k % 4294967296:Nat):Int)))=iO ((sY (xB l) X Y (k+1):Nat):Int):=by
 have h1:=qxF (xB l) X Y (k+1);have h2:(2:Nat) ^ (k+1)<=2 ^ 32:=eJ O O;have h3:xB l (X / 2 ^ k % 2+Y / 2 ^ k % 2)=true:=h;have h5:(2:Nat) ^ k < 4294967296:=by rw [eP] at h2;have:(0:Nat) < 2 ^ k:=Nat.pos_of_ne_zero (by simp);omega
 simp only [sY,h3,bS] at h1 ⊢;rw [cQ,eN h5];congr 1;omega
def qzV{l:List UInt8}{Y:Nat}(h:(l.any λx=>decide ((x.toNat:Int)=((48+(X / 2 ^ k % 2+Y / 2 ^ k % 2):Nat):Int)))=false):Value.int .u32 ((sY (xB l) X Y k:Nat):Int)=iO ((sY (xB l) X Y (k+1):Nat):Int):=by
 have h3:xB l (X / 2 ^ k % 2+Y / 2 ^ k % 2)=false:=h;simp [sY,h3]
def qGE:xB [50]=λd=>decide (d=2):=by funext d;unfold xB;rw [dF];simp;omega
def qGD:xB [49]=λd=>decide (d=1):=by funext d;unfold xB;rw [dF];simp;omega
def qA6:xB [49,50]=λd=>decide (d=1) || decide (d=2):=by funext d;unfold xB;rw [dF];simp;omega
def Ig{p:Prop} (h:p:=by
  refine qT Z ?_ ?_<;>intro c1;.refine G7 ?_;exact rY Z λ_ iL=>LR
  refine G8 ?_;exact rY Z λ_ iL=>LR):p:=h
def qx7:AV9 D 213 [.bool b] L s (iO (if b then 1 else 0)):=by
 refine jv (fn:=f213) jl func213 V Z ntmps213 Z (rs:=[.tmp 2]) Z [(0,_)] Z<|k8 ?_;exact Ig
def JQ:AV9 D 28 [.bool b] L s (iO (if b then 1 else 0)):=by
 refine jv (fn:=f28) jl func28 V Z ntmps28 Z (rs:=[.tmp 2]) Z [(0,_)] Z<|k8 ?_;exact Ig
def xE{p:Prop} (h:p:=by
 refine ⟨?_,Z⟩;simp [kB,jK,CI, *];done):p:=h
def qox{k:Int}{x y:Int}(hx:iY x)(hy:iY y)(hk:1<=k/\k<=12/\k≠4/\k≠5):AV9 D 164 [iJ k,iO x,iO y] L s (iO (jK k x y)):=by
 refine jv (fn:=f164) jl func164 V Z ntmps164 Z (rs:=[.tmp 6]) Z [(0,_),(1,_),(2,_)] Z<|Cl ?_ ?_<;>intro c1;.refine G4 ?_;refine iI (CC Z Z) Z<|G6 ?_;exact rY Z λ_ iL=>xE
 refine J6 ?_ ?_<;>intro c2;.refine G4 ?_;refine iI (ET Z Z) Z<|G6 ?_;exact rY Z λ_ iL=>xE
 refine J6 ?_ ?_<;>intro c3;.refine G4 ?_;refine iI (ES Z Z) Z<|G6 ?_;exact rY Z λ_ iL=>xE
 refine J6 ?_ ?_<;>intro c4;.refine G4 ?_;refine iI (BX Z Z ZZ (Z6 hx hy)) Z<|G6 ?_;exact rY Z λ_ iL=>xE
 refine J6 ?_ ?_<;>intro c5;.refine G4 ?_;refine iI (BX Z Z y_ (F_ hx hy)) Z<|G6 ?_;exact rY Z λ_ iL=>xE
 refine J6 ?_ ?_<;>intro c6;.refine G4 ?_;refine iI (BX Z Z Z3 (R5 hx hy)) Z<|G6 ?_;exact rY Z λ_ iL=>xE
 refine J6 ?_ ?_<;>intro c7;.refine G4 ?_;refine iI (BX Z Z Z0 (Z7 hx hy)) Z<|G6 ?_;exact rY Z λ_ iL=>xE
 refine J6 ?_ ?_<;>intro c8;.refine G4 ?_;refine iI (BX Z Z Z2 (Z8 hx hy)) Z<|G6 ?_;exact rY Z λ_ iL=>xE
 refine J6 ?_ ?_<;>intro c9;.refine G5 ?_;refine Je Y3 (qx7) λku jN=>G6 ?_;exact rX [] L Z jN λ_ iL=>xE
 refine G8 ?_;refine Je Y3 (qx7) λku jN=>G4 ?_;refine rR [] L (.t1 Z) Z jN λ_ iL=>?_;refine ⟨?_,Z⟩;have jL:k=12:=by omega
 simp [kB,jK,jL];done
def YU{x y:Int}(hx:iY x)(hy:iY y):AV9 D 58 [iO x,iO y,.bool b] L s (iO ((tF b x.toNat y.toNat:Nat):Int)):=by
 obtain ⟨X,rfl⟩:=aX hx.1;obtain ⟨Y,rfl⟩:=aX hy.1;have hX:X < 4294967296:=by have:=hx.2;omega
 refine jv (fn:=f58) jl func58 V Z ntmps58 Z (rs:=[.tmp 6]) Z [(0,_),(1,_),(2,_)] Z<|vT ?_ ?_<;>intro c1;.refine G7 ?_;refine rR [] L (.t1 Z) Z (Lr D) λ_ iL=>?_;refine ⟨?_,Z⟩;have hf:=qG1 hX (show 32 < Y by omega) b;simp [kB,hf];done
 refine G9 ?_;refine lw (γ:=Nat) (λk=>[(0,iO ((tF b X k:Nat):Int)),(1,_),(2,_),(6,_),(7,iO (k:Int))]) (λ_=>_) (λk tw=>Le D s tw/\(k<=Y)) (λk=>Y - k) (λ_ _ _ h hl=>⟨h.1.trans hl,h.2⟩) 0 (.c5 Z Z Z Z Z (.nil _)) Z ⟨Le.refl _,aB _⟩ ?_;intro k s2 I2;have kh:=I2.2;refine J8 ?_ ?_<;>intro c3
 .refine G9 ?_;refine qT Z ?_ ?_<;>intro c4;.have hl:=c4;refine G3 ?_;refine iI (jD (CC Z Z) (qu6 hl X k)) Z<|G6 ?_;refine iI (nD Z Z (Dw O O)) Z<|G2 ?_;refine jd ⟨(k+1),[],kp,Z,⟨I2.1,O⟩,O⟩
  have hl:=c4;refine Zr<|jY Y2<|iI (jD (CD Z Z Dc) (qu7 hl hX)) Z<|G6 ?_;refine iI (nD Z Z (Dw O O)) Z<|G2 ?_;refine jd ⟨(k+1),[],kp,Z,⟨I2.1,O⟩,O⟩
 refine mn ?_;refine rR [] L (.t1 Z) Z I2.1 λ_ iL=>?_;refine ⟨?_,Z⟩;have he:k=Y:=by omega
 subst he;simp [kB];done
def Wh{p:Prop} (h:p:=by
 refine jd ⟨(k+1),[],(.cons rfl (.cons rfl (.cons rfl (.cons rfl (.cons (by first|rfl|exact bj some (qzV hb)) kp))))),rfl,⟨Lc,O⟩,O⟩):p:=h
def RI{x y:Int}(hx:iY x)(hy:iY y)(l:List UInt8)(hl:l.length<=9223372036854775807):AV9 D 57 [iO x,iO y,St l] L s (iO ((sY (xB l) x.toNat y.toNat 32:Nat):Int)):=by
 obtain ⟨X,rfl⟩:=aX hx.1;obtain ⟨Y,rfl⟩:=aX hy.1;have hX:X < 4294967296:=by have:=hx.2;omega
 have hY:Y < 4294967296:=by have:=hy.2;omega
 refine jv (fn:=f57) jl func57 V Z ntmps57 Z (rs:=[.tmp 6]) Z [(0,_),(1,_),(2,_)] Z<|Po ?_;refine lw (γ:=Nat) (λk=>[(0,iO ((X / 2 ^ k:Nat):Int)),(1,iO ((Y / 2 ^ k:Nat):Int)),(2,_),(6,_),(7,iO ((sY (xB l) X Y k:Nat):Int)),(8,iO ((2 ^ k % 4294967296:Nat):Int)),(9,iJ (k:Int))]) (λ_=>_) (λk tw=>Le D s tw/\(k<=32)) (λk=>32 - k) (λ_ _ _ h hl=>⟨h.1.trans hl,h.2⟩) 0 (.cons (by simp;rfl) (.cons (by simp;rfl) (.c2 Z Z (.cons (by simp [sY];rfl) (.cons (by simp;rfl) (.cons Z (.nil _))))))) Z ⟨Le.refl _,aB _⟩ ?_;intro k s1 I1;have kh:=I1.2;refine J7 ?_ ?_<;>intro c2
 .refine G7 ?_;refine iI (NV Z Z O) Z<|jY Y2<|iI (NV Z Z O) Z<|iI (CC Z Z) Z<|iI (Ga Z Z Z Z Z) Z<|iI (jD (CC Z Z) (qoA (X / 2 ^ k) (Y / 2 ^ k))) Z<|G8 ?_;refine Je Y3 (qGf D _ hl) λs3 h3=>G2 ?_;refine qT Z ?_ ?_<;>intro c4;.have hb:=c4;refine G3 ?_;refine iI (jD (CC Z Z) (qFx O hb)) Z<|G6 ?_;refine iI (jD (ES Z Z) (ZU k)) Z<|G6 ?_;refine iI (jD (CD Z Z Dc) (MQ hX k)) Z<|G5 ?_;refine iI (jD (CD Z Z Dc) (MQ hY k)) Z<|G6 ?_;refine ki Y3 (jB O O)<|G2 ?_;exact Wh
  have hb:=c4;refine G5 ?_;refine iI (jD (ES Z Z) (ZU k)) Z<|G6 ?_;refine iI (jD (CD Z Z Dc) (MQ hX k)) Z<|G5 ?_;refine iI (jD (CD Z Z Dc) (MQ hY k)) Z<|G6 ?_;refine ki Y3 (jB O O)<|G2 ?_;exact Wh
 refine mn ?_;refine rR [] L (.t1 Z) Z I1.1 λ_ iL=>?_;have he:k=32:=by omega
 subst he;exact ⟨by simp [kB],rfl⟩
def ql8(k:Int)(x y:Int)(hx:iY x)(hy:iY y)(hz:k=4\/k=5->y≠0):AV9 D 29 [iJ k,iO x,iO y] L s (iO (jK k x y)):=by
 have hX:x.toNat < 4294967296:=by have:=hx.2;omega
 have hY:y.toNat < 4294967296:=by have:=hy.2;omega
 have e2:=qFw (Y:=y.toNat) hX;have e1:=qFy hX hY;have e3:=qIw hX hY;have e4:=i_ hX y.toNat;have e5:=ZP x.toNat y.toNat;refine jv (fn:=f29) jl func29 V Z ntmps29 Z (rs:=[.tmp 6]) Z [(0,_),(1,_),(2,_)] Z<|vT ?_ ?_<;>intro c1;.refine G4 ?_;refine iI (CC Z Z) Z<|G5 ?_;exact rY Z λ_ iL=>xE
 refine J9 ?_ ?_<;>intro c2;.refine G4 ?_;refine iI (ET Z Z) Z<|G5 ?_;exact rY Z λ_ iL=>xE
 refine J9 ?_ ?_<;>intro c3;.refine G4 ?_;refine iI (ES Z Z) Z<|G5 ?_;exact rY Z λ_ iL=>xE
 refine J9 ?_ ?_<;>intro c4
 .refine G4 ?_;refine iI (CD Z Z (hz (.inl As))) Z<|G5 ?_;refine rR [] L (.t1 Z) Z (Lr D) λ_ iL=>?_;refine ⟨?_,Z⟩;have h4:k=4:=by assumption
  simp [kB,jK,CI,Mp hx hy,h4];done
 refine J9 ?_ ?_<;>intro c5
 .refine G5 ?_;refine iI (CD Z Z (hz (.inr As))) Z<|jY Y2<|iI (ES Z Z) Z<|iI (ET Z Z) Z<|G5 ?_;refine rR [] L (.t1 Z) Z (Lr D) λ_ iL=>?_;refine ⟨?_,Z⟩;have h5:k=5:=by assumption
  simp [kB,jK,CI,Qf hx hy (hz (.inr h5)),h5];done
 refine J9 ?_ ?_<;>intro c6
 .refine G4 ?_;refine Je Y3 (RI hx hy [50] Dc) λs7 h7=>G5 ?_;refine rR [] L (.t1 Z) Z h7 λ_ iL=>?_;refine ⟨?_,Z⟩;have h6:k=6:=by assumption
  simp [kB,jK,qGE,e2,h6];done
 refine J9 ?_ ?_<;>intro c7
 .refine G4 ?_;refine Je Y3 (RI hx hy [49,50] Dc) λs8 h8=>G5 ?_;refine rR [] L (.t1 Z) Z h8 λ_ iL=>?_;refine ⟨?_,Z⟩;have h7:k=7:=by assumption
  simp only [kB,jK,qA6,e3,h7];simp;done
 refine J9 ?_ ?_<;>intro c8
 .refine G4 ?_;refine Je Y3 (RI hx hy [49] Dc) λs9 h9=>G5 ?_;refine rR [] L (.t1 Z) Z h9 λ_ iL=>?_;refine ⟨?_,Z⟩;have h8:k=8:=by assumption
  simp [kB,jK,qGD,e1,h8];done
 refine G8 ?_;refine kT (t:=53) Z ?_ ?_<;>intro c9
 .refine mn ?_;refine Je Y3 (YU hx hy) λku jN=>G5 ?_;refine rR [] L (.t1 Z) Z jN λ_ iL=>?_;refine ⟨?_,Z⟩;have h9:k=9:=by assumption
  simp [kB,jK,e4,h9];done
 refine J7 ?_ ?_<;>intro my
 .refine G6 ?_;refine Je Y3 (YU hx hy) λkv jP=>G5 ?_;refine rR [] L (.t1 Z) Z jP λ_ iL=>?_;refine ⟨?_,Z⟩;have jN:k=10:=by assumption
  simp [kB,jK,e5,jN];done
 refine J9 ?_ ?_<;>intro mN;.refine G5 ?_;refine Je Y3 (JQ) λkc jL=>G5 ?_;exact rX [] L Z jL λ_ iL=>xE
 refine J9 ?_ ?_<;>intro nU;.refine G5 ?_;refine Je Y3 (JQ) λkY kN=>G5 ?_;exact rX [] L Z kN λ_ iL=>xE
 refine G9 ?_;exact rY Z λ_ iL=>xE
end
section
variable{TT:kG}{fr:Fr}{ops:Array Oper}{op:Op}
def mh{id:Nat}{l:List Oper}(hm:P.follows .mixedOrders=true)(N:Nat)(hN:l.length=N)(j:Nat)
  (h:∀ s',Le D s s'->JA P TT D n l.toArray Q (L.take j) s' N (Array.replicate N false) fr L s'):JC P TT D n Q (.region id l.toArray true) fr L s:=ma hm N hN _ (λ_ hx=>dZ hx) h
end
section
variable{TT:kG}{fr:Fr}{ops:Array Oper}{op:Op}
def NS{t b len:Nat}(hx:lk fr x=some (.pointer (some ⟨b,off,none⟩)))(hy:lk fr y=some (.int ik i))(ht:jH TT t=some ti)(hk:ti.kind=.ar len e)(he:jH TT e=some te)
  (hs:te.size=1) (h0:0<=i) (h1:i < len):QE P TT D fr (.indexAddr t x y) ty K s0 (.pointer (some ⟨b,off+i.toNat * 1,none⟩)):=by
 obtain ⟨j,rfl⟩:=aX h0;exact qxo hx hy ht hk he hs O
def xw{t b len cap:Nat}(hY:lk fr x=some (.slice (some ⟨b,off,none⟩) len cap)/\lk fr y=some (.int ik i)/\jH TT t=some ti/\ti.kind=.sl e/\jH TT e=some te/\te.size=1) (h0:0<=i) (h1:i < len):QE P TT D fr (.indexAddr t x y) ty K s0 (.pointer (some ⟨b,off+i.toNat,none⟩)):=by
 obtain ⟨hx,hy,ht,hk,he,hs⟩:=hY
 obtain ⟨j,rfl⟩:=aX h0;exact ly ⟨hx,hy,ht,hk,he,hs⟩ O
def qpH{t:Nat}{m:Nat}(hx:lk fr x=some (.slice A m c))(ht:jH TT t=some ti)(hk:ti.kind=.sl e):QE P TT D fr (.binOp .eql t x (.const (.slice none 0 0)) t') ty K s0 (.bool A.isNone):=
 QE.pure λhT dst iS af g ρ hρ w=>by
  obtain ⟨k1,k2,_⟩:=hT.at_ ht;rw [hk] at k2;simp only [TK.fits] at k2;rw [k2] at k1;have h0:ρ (.const (.slice none 0 0))=.slice none 0 0:=hρ _ _ rfl;have he:(Op.equal t (.slice A m c) (.slice none 0 0)).run P w=.ok A.isNone w:=by
   show (Op.equalIn (9999+1) t (.slice A m c) (.slice none 0 0)).run P w=_;unfold Op.equalIn;simp only [bA,aQ k1,aP];cases A<;>simp
  simp [execOp,hρ x _ hx,h0,eqGuard,binOp,he]
end
section
variable(D:Nat){y:LVal9}
def qA0(m:lj)(h:0<=i/\i<=4):nth (C::iO m.r0::iO m.r1::iO m.r2::iO m.r3::iO m.r4::tl) (1+i.toNat * 1)=some (iO (sq m i)):=by
 have:i=0\/i=1\/i=2\/i=3\/i=4:=by omega
 rcases this with rfl|rfl|rfl|rfl|rfl<;>rfl
def qBH(m:lj)(h:0<=i/\i<=4)(v:Int):oO (C::iO m.r0::iO m.r1::iO m.r2::iO m.r3::iO m.r4::tl) (1+i.toNat * 1) [iO v] =
  C::iO (mS m i v).r0::iO (mS m i v).r1::iO (mS m i v).r2::iO (mS m i v).r3::iO (mS m i v).r4::tl:=by
 have:i=0\/i=1\/i=2\/i=3\/i=4:=by omega
 rcases this with rfl|rfl|rfl|rfl|rfl<;>simp [oO,mS]
def qzP(h:0<=i/\i<=4){a0 a1 a2 a3 a4 a5:Value}:Nat.ble (1+i.toNat * 1+1) (a0::a1::a2::a3::a4::a5::tl).length=true:=by
 rw [gd];simp;omega
section
variable(a0 a1 a2 a3 a4 a5 a6 a7 a8 a9 AE q o:Value)
def qGu(h:sm.length=256):nth (a0::a1::a2::a3::a4::a5::a6::a7::a8::a9::AE::(iv sm++[q,o])) 268=some o:=by simp_all [uU,iv]
def qrt(h:sm.length=256):nth (a0::a1::a2::a3::a4::a5::a6::a7::a8::a9::AE::(iv sm++[q,o])) 267=some q:=by simp_all [uU,iv]
def qrv{p:Int}(h:sm[j]?=some p):nth (a0::a1::a2::a3::a4::a5::a6::a7::a8::a9::AE::(iv sm++[q,o])) (11+j * 1)=some (iJ p):=by
 rw [uU,eG,eO];simp only [bH];rw [aR (by simp [iv];exact (al.1 h).1)];simp [iv,h]
def qsc(p:Int)(h:j < sm.length):oO (a0::a1::a2::a3::a4::a5::a6::a7::a8::a9::AE::(iv sm++[q,o])) (11+j * 1) [iJ p]=a0::a1::a2::a3::a4::a5::a6::a7::a8::a9::AE::(iv (sm.set j p)++[q,o]):=by
 rw [eG,eO];simp only [oO];have:∀ (l:LVal9) (r:LVal9) (i:Nat) (v:Value),i < l.length->oO (l++r) i [v]=l.set i v++r:=by
  intro l;induction l with
  | nil=>intro r i v h;simp at h
  | cons x l ih=>
   intro r i v h;cases i with
   | zero=>simp [oO]
   | succ i=>simp only [ao,oO,dN];rw [ih r i v Q4]
 rw [this _ _ _ _ (by simpa [iv] using h)];simp [iv,gQ]
def qG5(h:sm.length=256):oO (a0::a1::a2::a3::a4::a5::a6::a7::a8::a9::AE::(iv sm++[q,o])) 268 [v]=a0::a1::a2::a3::a4::a5::a6::a7::a8::a9::AE::(iv sm++[q,v]):=by
 rw [Dd _ _ _ (by simp [iv,h])];have h1:(iv sm).length=256:=by simp [iv,h]
 simp only [au,ap,fQ,ee,ao];rw [List.take_append,aK (by simp [h1])];simp [h1,aI]
def qFs(h:sm.length=256):Nat.ble (268+1) (a0::a1::a2::a3::a4::a5::a6::a7::a8::a9::AE::(iv sm++[q,o])).length=true:=by
 rw [gd];simp [iv,h]
def qp5(h:sm.length=256)(hj:j < 256):Nat.ble (11+j * 1+1) (a0::a1::a2::a3::a4::a5::a6::a7::a8::a9::AE::(iv sm++[q,o])).length=true:=by
 rw [gd];simp [iv,h];omega
end
theorem qGv{x:Int}(h:l[j]?=some x):nth (wv l++y) j=some (iO x):=by grind [uU,wv]
def qG6(v:Int)(h:j < l.length):oO (wv l++y) j [iO v]=wv (l.set j v)++y:=by
 rw [Dd _ _ _ (by simp [wv];omega)];have h1:(wv l).length=l.length:=by simp [wv]
 rw [ej O,fC Q8];simp only [wv,gQ];rw [fc];simp [h]
def qFt(h:j < l.length):Nat.ble (j+1) (wv l++y).length=true:=by
 rw [gd];simp [wv];omega
def DB(bm:Nat)(X:Value)(sm:LInt9)(bq:Nat)(es:List (Int×Value×Nat))(ck:Nat)(op:Int)(m:lj)(M:Hl)(s:World):Prop:=
 ∃ bc cc yc Oq9 Ao co Ai ni ci,M=(bm,cb (.slice (j6 bc) m.cells.length cc::iO m.r0::iO m.r1::iO m.r2::iO m.r3::iO m.r4::.slice Ai ni ci::.slice Ao m.output.length co::iJ m.stop::iO m.code::X ::
  (iv sm++[.map (some bq),iO op])) 179)::(bc,cb (wv m.cells++yc) 22)::(bq,mp (Value.int .u32) es ck)::Oq9/\Own 5 1 Oq9 (.slice Ao m.output.length co) m.output.length (bv m.output)/\lL s Ai ni ci m.aa
  /\ m.cells.length+yc.length=cc/\cc<=9223372036854775807
def fp(A:OAdr9)(p:Nat):OAdr9:=if p=0 then none else A.map (·.add ((p - 1) * 4))
def qAz{b:Nat}(h:p≠0):fp (some ⟨b,off,none⟩) p=some ⟨b,off+(p - 1) * 4,none⟩:=by simp [fp,h,add_lit]
def Q0(h1:0<=a)(h2:a < 18446744073709551616):IntKind.u64.wrap a=a:=by simp [IntKind.wrap,IntKind.bits,IntKind.signed];omega
attribute [local irreducible] JC JO JA JB lZ mF mM AC fill iH QE Ev mq
def OZ{p:Prop} (h:p:=by
 have hz:A=none:=by cases A<;>simp_all
 subst hz;have hl:l=[]:=by
  cases l with
  | nil=>rfl
  | cons x l=>obtain ⟨b,off,cs,h1,_⟩:=hA.2.2.2 0 x rfl;cases h1
 have hn0:=hA.1;subst hl;simp at hn0;subst hn0;exact ⟨[],rfl,none,0,rfl,aC _,by omega,.nil⟩):p:=h
def O0{p:Prop} (h:p:=by
 simp only [aZ,aD] at o1;obtain ⟨Ad,c',rfl,k1,k2⟩:=Own.slice o1;exact ⟨_,rfl,Ad,c',rfl,k1,k2,o1⟩):p:=h
def Wp{p:Prop} (h:p:=by
 refine G7 ?_;exact rR [] _ (.t1 Z) Z (Lr D) λ_ iL=>OZ):p:=h
def VR{p:Prop} (h:p:=by
 intro v1 A1 s3 h3 o1;simp only [aD];refine G4 ?_;exact rR [] _ (.t1 Z) Z Lc λ_ iL=>O0):p:=h
def sj{l:List UInt8}(hA:lL s A n c l)(hn:n<=1000000):AN9 D 75 [.slice A n c] L s λv M' _=>∃ Ad c',v=.slice Ad n c'/\n<=c'/\c'<=9223372036854775807/\Own 5 1 M' (.slice Ad n c') n (bv l):=by
 refine jv (fn:=f75) jl func75 V Z ntmps75 Z (rs:=[.tmp 2]) Z [(0,_)] Z<|G9 ?_;refine iI (qpH Z Z Z) Z<|G2 ?_;refine qT Z ?_ ?_<;>intro c1;.exact Wp
 refine Zk<|Zt<|Sr<|Kk (sz:=1) Z Z Z Z λβo s2 h2 oo=>jY Y2<|rp [] [_] _ Y7 oo (hA.row.le h2) ⟨by simp [CQ];omega,by omega⟩ Z ?_;exact VR
def FH(hA:lV s A n c l)(hn:n<=1000000):AN9 D 84 [.slice A n c] L s λv M' _=>∃ Ad c',v=.slice Ad n c'/\n<=c'/\c'<=9223372036854775807/\Own 22 1 M' (.slice Ad n c') n (wv l):=by
 refine jv (fn:=f84) jl func84 V Z ntmps84 Z (rs:=[.tmp 2]) Z [(0,_)] Z<|G9 ?_;refine iI (qpH Z Z Z) Z<|G2 ?_;refine qT Z ?_ ?_<;>intro c1;.exact Wp
 refine Zk<|Zt<|Sr<|Kk (sz:=1) Z Z Z Z λβo s2 h2 oo=>jY Y2<|rp [] [_] _ Y7 oo (hA.row.le h2) ⟨by simp [pw];omega,by omega⟩ Z ?_;exact VR
def QP{p:Prop} (h:p:=by
 exact ⟨[_],rfl,by simp [kB,lh, *],rfl⟩):p:=h
def qoa{op:Int}(nQ:sm.length=256)(x:Tm)(hv:x.kind=1->0<=x.val/\x.val<=4):AM9 D 162 [jc bm,.agg #[iJ x.kind,iO x.val]] [(bm,cb (.slice (j6 bc) nc cc::iO m.r0::iO m.r1::iO m.r2::iO m.r3::iO m.r4::.slice Ai ni ci::.slice Ao no co::iJ m.stop::iO m.code::.slice Ax nx cx::(iv sm++[.map (some bq),iO op])) 179)] L s λv M' _=>v=iO (lh m op x)/\M'=[(bm,cb (.slice (j6 bc) nc cc::iO m.r0::iO m.r1::iO m.r2::iO m.r3::iO m.r4::.slice Ai ni ci::.slice Ao no co::iJ m.stop::iO m.code::.slice Ax nx cx::(iv sm++[.map (some bq),iO op])) 179)]:=by
 refine jv (fn:=f162) jl func162 V Z ntmps162 Z (rs:=[.tmp 4]) Z [(0,_),(1,_)] Z<|Sr<|kH Y2 λβ1 s1 h1=>LV ?_ ?_<;>intro c2;.have hk:=c2;refine Zs<|ma jF 9 Z _ (λ_ h=>h) λs3 h3=>H6 ?_;refine za 6 Z (NS Z Z Z Z Z Z (hv hk).1 (by have:=(hv hk).2;omega)) Z<|za 7 Z (rj 1 Y4 (qA0 m (hv hk))) Z<|H1 ?_;refine jq V<|G4 ?_;exact rR [_] _ (.t1 Z) Z Lc λ_ iL=>QP
 refine J6 ?_ ?_<;>intro c3;.refine G5 ?_;refine iI (rj 1 Y4 (qGu _ _ _ _ _ _ _ _ _ _ _ _ _ nQ)) Z<|G6 ?_;exact rR [_] _ (.t1 Z) Z h1 λ_ iL=>QP
 refine k8 ?_;exact rR [_] _ (.t1 Z) Z h1 λ_ iL=>QP
def RH{op:Int}(nQ:sm.length=256){x:Int}(hx:iY x)(rh:nc<=65536):AM9 D 126 [jc bm,iO x] [(bm,cb (.slice (j6 bc) nc cc::iO m.r0::iO m.r1::iO m.r2::iO m.r3::iO m.r4::.slice Ai ni ci::.slice Ao no co::iJ m.stop::iO m.code::.slice Ax nx cx::(iv sm++[.map (some bq),iO op])) 179)] L s λv M' _=>v=.bool (decide (x < (nc:Int)))/\M'=[(bm,cb (.slice (j6 bc) nc cc::iO m.r0::iO m.r1::iO m.r2::iO m.r3::iO m.r4::.slice Ai ni ci::.slice Ao no co::iJ m.stop::iO m.code::.slice Ax nx cx::(iv sm++[.map (some bq),iO op])) 179)]:=by
 have yV:=hx.1;have uu:=hx.2;refine jv (fn:=f126) jl func126 V Z ntmps126 Z (rs:=[.tmp 4]) Z [(0,_),(1,_)] Z<|G8 ?_;refine iI (sn Y5 (Q0 O O)) Z<|G6 ?_;refine iI (sn Y5 (Q0 O O)) Z<|G5 ?_;exact rR [] _ (.t1 Z) Z (Lr D) λ_ iL=>⟨[_],rfl,rfl,rfl⟩
def XA(w:World):yg prog 177 (.int .u32) (iJ 0):=⟨_,_,underlying177,underlying22,λw=>by rw [Db Kf];rfl⟩
def Gz{p:Prop} (h:p:=by
 exact ⟨[_,_,_],rfl,by simp [kB,fp,hp0,add_lit,yp],rfl⟩):p:=h
def HE{p:Prop} (h:p:=by
  refine mE Z ?_ ?_<;>intro c2
  .have hp0:p=0:=by omega
   refine G8 ?_;exact rR [] _ (.tmp Z (.t1 Z)) Z (Lr D) λ_ iL=>Gz
  have hp0:p≠0:=by omega
  obtain ⟨bx,ox,ix,A',n',c',rfl,_,_⟩:=ky.at_ hX (show p - 1 < nx by omega);refine G9 ?_;refine iI (jD (ET Z Z) (show Value.int .i64 (IntKind.i64.wrap ((p:Int) - 1))=iJ ((p - 1:Nat):Int) from by rw [jB O O];congr 1;omega)) Z<|iI (jR Y6 O) Z<|G5 ?_;exact rR [] _ (.tmp Z (.t1 Z)) Z (Lr D) λ_ iL=>Gz):p:=h
def qAn{op:Int}(nQ:sm.length=256)(es:List (Int×Value×Nat))(ck:Nat)(l:List Ins)(hX:ky s Ax nx cx l){c:Int}(hc:iY c)(p:Nat)(hp:p<=nx)(h1:c < 256->sm[c.toNat]?=some (p:Int))(h2:256<=c->(kS es c).getD (iJ 0)=iJ (p:Int)):AM9 D 127 [jc bm,iO c] [(bm,cb (.slice (j6 bc) nc cc::iO m.r0::iO m.r1::iO m.r2::iO m.r3::iO m.r4::.slice Ai ni ci::.slice Ao no co::iJ m.stop::iO m.code::.slice Ax nx cx::(iv sm++[.map (some bq),iO op])) 179),(bc,cb zs 22),(bq,mp (Value.int .u32) es ck)] L s λv M' _=>v=.tuple #[.pointer (fp Ax p),.bool (decide (p≠0))]/\M'=[(bm,cb (.slice (j6 bc) nc cc::iO m.r0::iO m.r1::iO m.r2::iO m.r3::iO m.r4::.slice Ai ni ci::.slice Ao no co::iJ m.stop::iO m.code::.slice Ax nx cx::(iv sm++[.map (some bq),iO op])) 179),(bc,cb zs 22),(bq,mp (Value.int .u32) es ck)]:=by
 have mX:=hc.1;have oR:=hc.2;have hn:=hX.1;have hcx1:=hX.2.1;have hcx2:=hX.2.2.1;refine jv (fn:=f127) jl func127 V Z ntmps127 Z (rs:=[.tmp 4,.tmp 5]) Z [(0,_),(1,_)] Z<|Cl ?_ ?_<;>intro c1;.have hsmall:=h1 O;refine G5 ?_;refine iI (NS Z Z Z Z Z Z O O) Z<|iI (rj 0 Y4 (qrv _ _ _ _ _ _ _ _ _ _ _ _ _ hsmall)) Z<|lF ?_;exact HE
 have hbig:=h2 O;refine G4 ?_;refine iI (rj 0 Y4 (qrt _ _ _ _ _ _ _ _ _ _ _ _ _ nQ)) Z<|jY Y2<|iI (jD (ZE (jU.int .u32) 2 (XA default) Z Z Z) hbig) Z<|lF ?_;exact HE
def Du{op:Int}(nQ:sm.length=256){v:Int}(a:Ac)(ba oa:Nat){βa βm:Nat}(uj:iH s ba oa [iJ a.kind,iJ a.tgt,iJ a.x.kind,iO a.x.val,iJ a.y.kind,iO a.y.val])(ht:0<=a.tgt/\a.tgt<=4):Ap9 D 163 [iO v,jc βm,jc βa] ((βa,cb [.pointer (some ⟨ba,oa,none⟩)] 235)::(βm,cb [jc bm] 174)::(bm,cb (.slice (j6 bc) nc cc::iO m.r0::iO m.r1::iO m.r2::iO m.r3::iO m.r4::.slice Ai ni ci::.slice Ao no co::iJ m.stop::iO m.code::.slice Ax nx cx::(iv sm++[.map (some bq),iO op])) 179)::L) s λw L' _=>w=.tuple #[]/\L'=(βa,cb [.pointer (some ⟨ba,oa,none⟩)] 235)::(βm,cb [jc bm] 174)::(bm,cb (.slice (j6 bc) nc cc::iO (mS m a.tgt v).r0::iO (mS m a.tgt v).r1::iO (mS m a.tgt v).r2::iO (mS m a.tgt v).r3::iO (mS m a.tgt v).r4::.slice Ai ni ci::.slice Ao no co::iJ m.stop::iO m.code::.slice Ax nx cx::(iv sm++[.map (some bq),iO op])) 179)::L:=by
 refine jv (fn:=f163) jl func163 V Z ntmps163 Z (rs:=[]) Z [(0,_),(1,_),(2,_)] Z<|pm jF 11 Z [2] Q3 λs1 h1=>H4 ?_;refine za 4 Z (nh 1 Y3 Pz Z) Z<|H4 ?_;refine za 9 Z (NS Z Z Z Z Z Z ht.1 (by have:=ht.2;omega)) Z<|iM 10 V<|ye Z Tt 2 _ Y5 (qzP ht) Z (qBH m ht v) Z (λx hx=>hx)<|jq V ?_;refine lC [] _ (.inl Z) (.nil) Z h1 λ_ iL=>?_;exact ry
end
def OB(L:Hl)(i:Nat):Hl:=match L[i]? with
 | some x=>x::L.eraseIdx i
 | none=>L
def jJ(L:Hl)(i:Nat):L.Perm (OB L i):=by
 unfold OB;cases h:L[i]? with
 | none=>exact eF _
 | some x=>
  induction L generalizing i with
  | nil=>simp at h
  | cons y L ih=>
   cases i with
   | zero=>simp at h;subst h;exact eF _
   | succ i=>
    simp at h;simp only [fa];exact ((ih i h).cons y).trans (List.Perm.swap x y _)
def rG{TT:kG}{fr:Fr}{c:Code}(i:Nat)(h:JC P TT D n Q c fr (OB L i) s):JC P TT D n Q c fr L s:=λht a hr ho=>by
 rw [tr (jJ L i) _ ho];exact h ht a hr (ho.perm (jJ L i))
def iH.sub{b:Nat}(j:Nat)(h:iH s b off vs)(hc:cut vs j us.length=some us):iH s b (off+j) us:=λi v hi=>by
 obtain ⟨_,h2⟩:=Sx hc;rw [dV];exact h (j+i) v (h2 i v hi)
def Own.blk_of(h:Own e 1 M (.slice Ad n c) n xs)(hn:0 < n):∃ b ys,M=[(b,cb (xs++ys) e)]/\Ad=j6 b/\xs.length+ys.length=c/\c<=9223372036854775807:=by
 generalize hv:Value.slice Ad n c=v at h;cases h with
 | nil=>omega
 | blk b cap n xs ys h1 h2 h3 h4=>
  injection hv with e1 e2 e3;exact ⟨b,ys,rfl,e1,by omega,by omega⟩
section
variable{y:LVal9}
def RL{α:Type}{l:List α}{x:α}(h:l[0]?=some x):∃ r,l=x::r:=by
 cases l with
 | nil=>cases h
 | cons y r=>simp at h;exact ⟨r,by rw [h]⟩
structure An(a:Ac):Prop where
 kind:0<=a.kind/\a.kind<=19
 tgt:0<=a.tgt/\a.tgt<=4
 x:a.x.kind=1->0<=a.x.val/\a.x.val<=4
 y:a.y.kind=1->0<=a.y.val/\a.y.val<=4
 ux:iY a.x.val
 uy:iY a.y.val
def NP(h:rM m){op:Int}(ho:iY op){x:Tm}(hx:iY x.val):iY (lh m op x):=by
 unfold lh sq;have:=h.u0;have:=h.u1;have:=h.u2;have:=h.u3;have:=h.u4;repeat' split
 all_goals assumption
section
variable{a:Ac}{op:Int}
def qE6(h:a.kind=0):kn m a op=mS m a.tgt (lh m op a.x):=by simp [kn,h,jK]
def qzo(h:a.kind=19)(hy:lh m op a.y=0):kn m a op=mS m a.tgt (lh m op a.x):=by simp [kn,h,hy,jK]
def qtc(h:a.kind=19)(hy:¬ lh m op a.y=0):kn m a op=m:=by simp [kn,h,hy]
def qzp(h:a.kind=4)(hy:lh m op a.y=0):kn m a op={ m with stop:=4 }:=by simp [kn,h,hy]
def qzq(h:a.kind=5)(hy:lh m op a.y=0):kn m a op={ m with stop:=4 }:=by simp [kn,h,hy]
def qE7(h:a.kind=4)(hy:¬ lh m op a.y=0):kn m a op=mS m a.tgt (lh m op a.x / lh m op a.y):=by simp [kn,h,hy,jK]
def qE8(h:a.kind=5)(hy:¬ lh m op a.y=0):kn m a op=mS m a.tgt (lh m op a.x % lh m op a.y):=by simp [kn,h,hy,jK]
def qs7(h:a.kind=13)(hx:¬ lh m op a.x < (m.cells.length:Int)):kn m a op={ m with stop:=3 }:=by
 have:(m.cells.length:Int)<=lh m op a.x:=by omega
 simp [kn,h,this]
def qs8(h:a.kind=14)(hx:¬ lh m op a.x < (m.cells.length:Int)):kn m a op={ m with stop:=3 }:=by
 have:(m.cells.length:Int)<=lh m op a.x:=by omega
 simp [kn,h,this]
def qzi(h:a.kind=13)(hx:lh m op a.x < (m.cells.length:Int)):kn m a op=mS m a.tgt (m.cells.getD (lh m op a.x).toNat 0):=by
 have:¬ (m.cells.length:Int)<=lh m op a.x:=by omega
 simp [kn,h,this]
def qzj(h:a.kind=14)(hx:lh m op a.x < (m.cells.length:Int)):kn m a op={ m with cells:=m.cells.set (lh m op a.x).toNat (lh m op a.y) }:=by
 have:¬ (m.cells.length:Int)<=lh m op a.x:=by omega
 simp [kn,h,this]
def qs9(h:a.kind=15)(hi:m.aa=[]):kn m a op=mS m a.tgt 4294967295:=by simp [kn,h,hi]
def qzk(h:a.kind=15){c:UInt8}(hi:m.aa=c::r):kn m a op={ mS m a.tgt (c.toNat:Int) with aa:=r }:=by simp [kn,h,hi]
def qta(h:a.kind=16)(hm:rM m)(ho:20000<=m.output.length):kn m a op={ m with stop:=5 }:=by
 have:m.output.length=20000:=by have:=hm.output;omega
 simp [kn,h,this]
def qzl(h:a.kind=16)(ho:¬ 20000<=m.output.length):kn m a op={ m with output:=m.output++[UInt8.ofNat ((lh m op a.x).toNat % 256)] }:=by
 have:¬ m.output.length=20000:=by omega
 simp [kn,h,this]
def qzm(h:a.kind=17):kn m a op={ m with stop:=1,code:=lh m op a.x }:=by simp [kn,h]
def qzn(h:a.kind=18)(hy:lh m op a.y=0):kn m a op={ m with stop:=1,code:=lh m op a.x }:=by simp [kn,h,hy]
def qtb(h:a.kind=18)(hy:¬ lh m op a.y=0):kn m a op=m:=by simp [kn,h,hy]
theorem qs6(h:1<=a.kind/\a.kind<=12/\a.kind≠4/\a.kind≠5):kn m a op=mS m a.tgt (jK a.kind (lh m op a.x) (lh m op a.y)):=by grind [kn]
end
def NK(h0:0<=i)(h:i < l.length):nth (wv l++y) (0+i.toNat)=some (iO (l.getD i.toNat 0)):=by
 rw [aZ];exact qGv (by rw [ax O];simp [List.getD,show i.toNat < l.length by omega])
def qsd(v:Int)(h0:0<=i)(h:i < l.length):oO (wv l++y) (0+i.toNat) [iO v]=wv (l.set i.toNat v)++y:=by
 rw [aZ];exact qG6 v O
def qp6(h0:0<=i)(h:i < l.length):Nat.ble (0+i.toNat+1) (wv l++y).length=true:=by
 rw [aZ];exact qFt O
def qIx{x:Int}(h:iY x):IntKind.u8.wrap x=((UInt8.ofNat (x.toNat % 256)).toNat:Int):=by
 obtain ⟨h1,h2⟩:=h;rw [IntKind.wrap_u8];simp [gf];omega
attribute [local irreducible] JC JO JA JB lZ mF mM AC fill iH QE Ev mq
def O3{p:Prop} (h:p:=by
 refine ⟨_::_::_::A1,Z,Z,?_⟩;rw [qzl As O];have hb:bv (m.output++[UInt8.ofNat ((lh m op a.x).toNat % 256)])=bv m.output++[Value.int .u8 ((UInt8.ofNat ((lh m op a.x).toNat % 256)).toNat:Int)]:=by simp [bv]
 exact ⟨bc,cc,yc,A1,Ao1,co1,Ai,ni,ci,by simp,by simpa [hb] using o1,hI.le Lc,mv,hcc2⟩):p:=h
def HQ{p:Prop} (h:p:=by
 intro v1 A1 tE qR o1;obtain ⟨Ao1,co1,rfl,ko1,ko2⟩:=Own.slice o1;simp only [iU,iV];refine H3 ?_;refine iM 13 V<|ye Z Tt 2 (_::_::_::_::_::_::_::_::_::_::_::_) Y5 Z Z Z Z (sM (kX (pG)))<|jq V<|Zb ?_;refine lC [_,_] _ (.inl Z) (.nil) Z Lc λ_ iL=>?_;exact O3):p:=h
theorem qxu(bm:Nat)(sm:LInt9)(nQ:sm.length=256)(bq:Nat)(es:List (Int×Value×Nat))(ck:Nat)(op:Int)(m:lj)(hM:DB bm (.slice Ax nx cx) sm bq es ck op m M s)(a:Ac){ba oa:Nat}(uj:iH s ba oa [iJ a.kind,iJ a.tgt,iJ a.x.kind,iO a.x.val,iJ a.y.kind,iO a.y.val])(l9:rM m)(uQ:iY op)(ha:An a):Ap9 D 128 [jc bm,.pointer (some ⟨ba,oa,none⟩)] (M++L) s λv L' s'=>∃ M',L'=M'++L/\v=.tuple #[]/\DB bm (.slice Ax nx cx) sm bq es ck op (kn m a op) M' s':=by
 obtain ⟨bc,cc,yc,Oq9,Ao,co,Ai,ni,ci,rfl,hO,hI,mv,hcc2⟩:=hM;have oh:=NP l9 uQ ha.ux;have ph:=NP l9 uQ ha.uy;have hux1:=oh.1;have hux2:=oh.2;have rh:=l9.cells;have hni:=hI.1;have hno:=l9.output;simp only [ao];refine jv (fn:=Tryz.f128) jl Tryz.func128 V Z Tryz.ntmps128 Z (rs:=[]) Z [(0,_),(1,_)] Z<|Sr<|Bs Z Z Z λβ1 s1 h1=>Bs Z Z Z λβ2 s2 h2=>Nt<|Zs<|ma jF 14 Z _ (λ_ h=>h) λs3 h3=>H4 ?_;refine za 4 Z (kq Y3 (iH.sub (us:=[_,_]) 2 Pz Z) Z) Z<|H4 ?_;refine za 10 Z (kq Y3 (iH.sub (us:=[_,_]) 4 Pz Z) Z) Z<|iM 5 V<|Jb Z Tt Z Z Z (AC.mid [_,_] [_] _ (qoa D nQ a.x ha.x)) ?_;rintro _ _ s4 h4 ⟨_,rfl,rfl,rfl⟩;refine ⟨λ_ _ h=>h,?_⟩;simp only [iU,iV];refine iM 11 V<|Jb Z Tt Z Z Z (AC.mid [_,_] [_] _ (qoa D nQ a.y ha.y)) ?_;rintro _ _ s5 h5 ⟨_,rfl,rfl,rfl⟩;refine ⟨λ_ _ h=>h,?_⟩;simp only [iU,iV];refine H2 ?_;refine jq V<|Zt<|Sr<|iI (qw Z) Z<|G8 ?_;refine iI (jW Y3 Pz Z) Z<|J9 ?_ ?_<;>intro c6;.refine G3 ?_;refine vv (first:=[]) (captured:=[_,_]) Y3 (Du D nQ a ba oa Pz ha.tgt) ?_;rintro _ _ s7 h7 ⟨rfl,rfl⟩;refine G2 ?_;refine lC [_,_] _ (.inl Z) (.nil) Z Lc λ_ iL=>?_;refine ⟨_::_::_::Oq9,Z,Z,?_⟩;rw [qE6 As];exact ⟨bc,cc,yc,Oq9,Ao,co,Ai,ni,ci,rfl,hO,hI.le Lc,mv,hcc2⟩
 refine J6 ?_ ?_<;>intro c7
 .refine J6 ?_ ?_<;>intro c8;.refine G3 ?_;refine vv (first:=[]) (captured:=[_,_]) Y3 (Du D nQ a ba oa Pz ha.tgt) ?_;rintro _ _ s9 h9 ⟨rfl,rfl⟩;refine G2 ?_;refine lC [_,_] _ (.inl Z) (.nil) Z Lc λ_ iL=>?_;refine ⟨_::_::_::Oq9,Z,Z,?_⟩;rw [qzo As As];exact ⟨bc,cc,yc,Oq9,Ao,co,Ai,ni,ci,rfl,hO,hI.le Lc,mv,hcc2⟩
  refine G2 ?_;refine lC [_,_] _ (.inl Z) (.nil) Z Lc λ_ iL=>?_;refine ⟨_::_::_::Oq9,Z,Z,?_⟩;rw [qtc As As];exact ⟨bc,cc,yc,Oq9,Ao,co,Ai,ni,ci,rfl,hO,hI.le Lc,mv,hcc2⟩
 refine J7 ?_ ?_<;>intro c8
 .refine J2 ?_ ?_<;>intro c9
  .refine J8 ?_ ?_<;>intro my;.refine X10 ?_;refine lC [_,_] _ (.inl Z) (.nil) Z Lc λ_ iL=>?_;refine ⟨_::_::_::Oq9,Z,Z,?_⟩;rw [qzp As As];exact ⟨bc,cc,yc,Oq9,Ao,co,Ai,ni,ci,rfl,hO,hI.le Lc,mv,hcc2⟩
   refine G5 ?_;refine iI (jW Y3 Pz Z) Z<|J4 ?_ ?_<;>intro mN;.refine G4 ?_;refine iI (CD Z Z As) Z<|vv (first:=[]) (captured:=[_,_]) Y3 (Du D nQ a ba oa Pz ha.tgt) ?_;rintro _ _ kc jL ⟨rfl,rfl⟩;refine G3 ?_;refine lC [_,_] _ (.inl Z) (.nil) Z Lc λ_ iL=>?_;refine ⟨_::_::_::Oq9,Z,Z,?_⟩;rw [qE7 As As,<- Mp oh ph,<- CI];exact ⟨bc,cc,yc,Oq9,Ao,co,Ai,ni,ci,rfl,hO,hI.le Lc,mv,hcc2⟩
   exfalso;omega
  exfalso;omega
 refine J5 ?_ ?_<;>intro c9
 .refine J8 ?_ ?_<;>intro my;.refine X10 ?_;refine lC [_,_] _ (.inl Z) (.nil) Z Lc λ_ iL=>?_;refine ⟨_::_::_::Oq9,Z,Z,?_⟩;rw [qzq As As];exact ⟨bc,cc,yc,Oq9,Ao,co,Ai,ni,ci,rfl,hO,hI.le Lc,mv,hcc2⟩
  refine G5 ?_;refine iI (jW Y3 Pz Z) Z<|J4 ?_ ?_<;>intro mN;.exfalso;omega
  refine G4 ?_;refine iI (NV Z Z As) Z<|vv (first:=[]) (captured:=[_,_]) Y3 (Du D nQ a ba oa Pz ha.tgt) ?_;rintro _ _ kc jL ⟨rfl,rfl⟩;refine G3 ?_;refine lC [_,_] _ (.inl Z) (.nil) Z Lc λ_ iL=>?_;refine ⟨_::_::_::Oq9,Z,Z,?_⟩;rw [qE8 As As,<- Jg oh];exact ⟨bc,cc,yc,Oq9,Ao,co,Ai,ni,ci,rfl,hO,hI.le Lc,mv,hcc2⟩
 refine J7 ?_ ?_<;>intro my
 .refine J2 ?_ ?_<;>intro mN
  .refine X33 ?_;rintro _ _ kc jL ⟨_,rfl,rfl,rfl⟩;simp only [iU,iV];refine G4 ?_;refine lD Z ?_ ?_<;>intro oP;.refine X10 ?_;refine lC [_,_] _ (.inl Z) (.nil) Z Lc λ_ iL=>?_;refine ⟨_::_::_::Oq9,Z,Z,?_⟩;rw [qs7 As As];exact ⟨bc,cc,yc,Oq9,Ao,co,Ai,ni,ci,rfl,hO,hI.le Lc,mv,hcc2⟩
   refine G5 ?_;refine iI (jW Y3 Pz Z) Z<|J4 ?_ ?_<;>intro rO;.refine G8 ?_;refine iI (xw Y6 hux1 As) Z<|iI (rj 3 Y4 (NK hux1 As)) Z<|vv (first:=[]) (captured:=[_,_]) Y3 (Du D nQ a ba oa Pz ha.tgt) ?_;rintro _ _ lJ lr ⟨rfl,rfl⟩;refine G3 ?_;refine lC [_,_] _ (.inl Z) (.nil) Z Lc λ_ iL=>?_;refine ⟨_::_::_::Oq9,Z,Z,?_⟩;rw [qzi As As];exact ⟨bc,cc,yc,Oq9,Ao,co,Ai,ni,ci,rfl,hO,hI.le Lc,mv,hcc2⟩
   exfalso;omega
  exfalso;omega
 refine J5 ?_ ?_<;>intro mN
 .refine X33 ?_;rintro _ _ kc jL ⟨_,rfl,rfl,rfl⟩;simp only [iU,iV];refine G4 ?_;refine lD Z ?_ ?_<;>intro oP;.refine X10 ?_;refine lC [_,_] _ (.inl Z) (.nil) Z Lc λ_ iL=>?_;refine ⟨_::_::_::Oq9,Z,Z,?_⟩;rw [qs8 As As];exact ⟨bc,cc,yc,Oq9,Ao,co,Ai,ni,ci,rfl,hO,hI.le Lc,mv,hcc2⟩
  refine G5 ?_;refine iI (jW Y3 Pz Z) Z<|J4 ?_ ?_<;>intro rO;.exfalso;omega
  refine G8 ?_;refine iI (xw Y6 hux1 As) Z<|xy 3 _ Y5 (qp6 hux1 As) Z (qsd _ hux1 As) Z<|G3 ?_;refine lC [_,_] _ (.inl Z) (.nil) Z Lc λ_ iL=>?_;refine ⟨_::_::_::Oq9,Z,Z,?_⟩;rw [qzj As As];exact ⟨bc,cc,yc,Oq9,Ao,co,Ai,ni,ci,by simp,hO,hI.le Lc,by simp;exact mv,hcc2⟩
 refine J6 ?_ ?_<;>intro nU
 .refine vT ?_ ?_<;>intro oP;.refine Sr<|jY Y2<|vv (first:=[]) (captured:=[_,_]) Y3 (Du D nQ a ba oa Pz ha.tgt) ?_;rintro _ _ li kz ⟨rfl,rfl⟩;refine G5 ?_;refine rR [_,_] _ (.nil) Z Lc λ_ iL=>?_;refine ⟨_::_::_::Oq9,Z,Z,?_⟩;have rf:m.aa=[]:=aG O;rw [qs9 As rf];exact ⟨bc,cc,yc,Oq9,Ao,co,Ai,ni,ci,rfl,hO,hI.le Lc,mv,hcc2⟩
  obtain ⟨bi,oi,xi,rfl,hxi,hci⟩:=lL.at_ Pz (show 0 < ni by omega);refine lF ?_;refine iI (xw Y6 Dc O) Z<|iI (jW Y3 Pz Z) Z<|iI (sn Y5 (Dw O (by have:=xi.toNat_lt;omega))) Z<|vv (first:=[]) (captured:=[_,_]) Y3 (Du D nQ a ba oa Pz ha.tgt) ?_;rintro _ _ li kz ⟨rfl,rfl⟩;refine Nt<|pm jF 11 Z [2] Q3 λlJ lr=>H5 ?_;refine iM 5 V<|j5 Z Tt (Wd 2 Y5) Z<|za 6 Z (S6 (j:=1) Z Z Z Z Z O) Z<|H3 ?_;refine iM 10 V<|ye Z Tt 2 (_::_::_::_::_::_::_::_::_::_::_::_) Y5 Z Z Z Z (sM (kP (jT)))<|jq V<|Zb ?_;refine lC [_,_] _ (.inl Z) (.nil) Z Lc λ_ iL=>?_;refine ⟨_::_::_::Oq9,Z,Z,?_⟩;obtain ⟨r,hr⟩:=RL hxi;rw [qzk As hr];rw [hr] at hI;exact ⟨bc,cc,yc,Oq9,Ao,co,_,_,_,rfl,hO,(lL.tail hI).le Lc,mv,hcc2⟩
 refine J6 ?_ ?_<;>intro oP
 .refine G9 ?_;refine uH Y3<|J2 ?_ ?_<;>intro rO;.refine G6 ?_;refine xy 2 (_::_::_::_::_::_::_::_::_::_::_::_) Y5 Z Z Z Z<|G5 ?_;refine rR [_,_] _ (.nil) Z Lc λ_ iL=>?_;refine ⟨_::_::_::Oq9,Z,Z,?_⟩;rw [qta As l9 O];exact ⟨bc,cc,yc,Oq9,Ao,co,Ai,ni,ci,rfl,hO,hI.le Lc,mv,hcc2⟩
  refine Zk<|Zt<|mh jF 14 Z 2 λlJ lr=>H6 ?_;refine za 7 Z (jD (Ga Z Z Z Z Z) (bj (Value.int .u8) (qIx oh))) Z ?_;refine kD 5 8 V ?_ ?_;.refine j5 Z Tt (Wd 2 Y5) Z<|iM 8 V<|pV Z Tt [(_,_)] [_] Y9 λβn qW qD ot=>iM 9 V<|wD (sz:=1) Z (by exact Tt) [_,_,_,_,_] Oq9 Z Z Z Z Z Z Z hO (Row.of_cells Pz Z Z) ⟨by simp [CQ];omega,by omega⟩ Z (λA2 x hx _=>aN _ (by simp at hx ⊢;grind)) ?_;exact HQ
  refine pV Z Tt [(_,_)] [_] Y9 λβn qW qD ot=>iM 5 V<|j5 Z Tt (Wd 2 Y5) Z<|iM 9 V<|wD (sz:=1) Z (by exact Tt) [_,_,_,_,_] Oq9 Z Z Z Z Z Z Z hO (Row.of_cells Pz Z Z) ⟨by simp [CQ];omega,by omega⟩ Z (λA2 x hx _=>aN _ (by simp at hx ⊢;grind)) ?_;exact HQ
 refine J7 ?_ ?_<;>intro rO
 .refine J2 ?_ ?_<;>intro ve
  .refine G5 ?_;refine iI (jW Y3 Pz Z) Z<|G2 ?_;refine kT (t:=172) Z ?_ ?_<;>intro c16;.refine G6 ?_;refine pm jF 11 Z [2] Q3 λtE qR=>H6 ?_;refine X3 ?_;refine lC [_,_] _ (.inl Z) (.nil) Z Lc λ_ iL=>?_;refine ⟨_::_::_::Oq9,Z,Z,?_⟩;rw [qzm As];exact ⟨bc,cc,yc,Oq9,Ao,co,Ai,ni,ci,rfl,hO,hI.le Lc,mv,hcc2⟩
   refine J7 ?_ ?_<;>intro yE;.exfalso;omega
   exfalso;omega
  exfalso;omega
 refine J5 ?_ ?_<;>intro ve
 .refine G5 ?_;refine iI (jW Y3 Pz Z) Z<|G2 ?_;refine kT (t:=172) Z ?_ ?_<;>intro c16;.refine G6 ?_;refine pm jF 11 Z [2] Q3 λtE qR=>H6 ?_;refine X3 ?_;refine lC [_,_] _ (.inl Z) (.nil) Z Lc λ_ iL=>?_;exfalso;omega
  refine J7 ?_ ?_<;>intro yE;.refine pm jF 11 Z [2] Q3 λyl vm=>H6 ?_;refine X3 ?_;refine lC [_,_] _ (.inl Z) (.nil) Z Lc λ_ iL=>?_;refine ⟨_::_::_::Oq9,Z,Z,?_⟩;rw [qzn As As];exact ⟨bc,cc,yc,Oq9,Ao,co,Ai,ni,ci,rfl,hO,hI.le Lc,mv,hcc2⟩
  refine G2 ?_;refine lC [_,_] _ (.inl Z) (.nil) Z Lc λ_ iL=>?_;refine ⟨_::_::_::Oq9,Z,Z,?_⟩;rw [qtb As As];exact ⟨bc,cc,yc,Oq9,Ao,co,Ai,ni,ci,rfl,hO,hI.le Lc,mv,hcc2⟩
 refine G5 ?_;refine iI (jW Y3 Pz Z) Z<|G2 ?_;refine Je Y3 (qox oh ph (by have:=ha.kind;omega)) λqW qD=>vv (first:=[]) (captured:=[_,_]) Y3 (Du D nQ a ba oa Pz ha.tgt) ?_;rintro _ _ tE qR ⟨rfl,rfl⟩;refine G2 ?_;refine lC [_,_] _ (.inl Z) (.nil) Z Lc λ_ iL=>?_;refine ⟨_::_::_::Oq9,Z,Z,?_⟩;rw [qs6 (by have:=ha.kind;omega)];exact ⟨bc,cc,yc,Oq9,Ao,co,Ai,ni,ci,rfl,hO,hI.le Lc,mv,hcc2⟩
end
section
variable(D:Nat){x:Ins}{a:Ac}{c op:Int}{l:List Ac}
structure yB(t:l7):Prop where
 cells:1<=t.cells/\t.cells<=65536
 len:t.U.length<=64
 codes:∀ (i j:Nat) (x y:Ins),t.U[i]?=some x->t.U[j]?=some y->x.code=y.code->i=j
 ad:∀ (i:Nat) (x:Ins) (a:Ac),t.U[i]?=some x->a∈x.ad->An a/\(x.I=false->a.x.kind≠2/\a.y.kind≠2)
 few:∀ (i:Nat) (x:Ins),t.U[i]?=some x->x.ad.length<=8
def qk2{f:Nat->Int}{m j:Nat}(h:(zS f m j).1=0):∀ i,j<=i->i < j+m->f i=0:=by
  induction m generalizing j with
  | zero=>intro i h1 h2;omega
  | succ m ih=>
    simp only [zS] at h;split at h
    . contradiction
    . rename_i h0
      simp at h0;intro i h1 h2;rcases Nat.eq_or_lt_of_le h1 with rfl|h3
      . exact h0
      . exact ih h i h3 O
def qmj{α:Type}{f:α->Int}{l:List α}(h:CA (l.map f)=0):∀ a∈l,f a=0:=by
  induction l with
  | nil=>intro a ha;cases ha
  | cons x l ih=>
    simp only [aS,CA] at h;split at h
    . contradiction
    . rename_i h0
      simp at h0;intro a ha;rcases aW.1 ha with rfl|ha
      . exact h0
      . exact ih h a ha
def ky.u32{c:Nat}{l:List Ins}(h:ky s A n c l){i:Nat}(hi:l[i]?=some x)(ha:a∈x.ad):iY a.x.val/\iY a.y.val:=by
 obtain ⟨b,off,cs,h1,h2,h3,A',n',c',rfl,h5,h6⟩:=h.2.2.2 i x hi;obtain ⟨j,hj⟩:=bC ha;obtain ⟨_,_,_,_,_,_,_,h7⟩:=h5.2.2.2 j a hj;exact h7
def qst{x:Tm}{u o:Bool}(h:Gt x u o=true):(x.kind=1->x.val<=4)/\(o=false->x.kind≠2):=by
 unfold Gt at h;cases u<;>cases o<;>simp at h ⊢<;>omega
def MA{t:l7}{c:Nat}(hX:ky s A n c t.U)(h:(oI t).1=0):yB t:=by
  unfold oI at h;split at h
  . cases h
  rename_i h1;split at h
  . cases h
  rename_i h2;have hr:=qk2 h;have hrow:∀ (i:Nat) (x:Ins),t.U[i]?=some x->zb x=0/\(t.U.take i).any (F8 x)=false:=λi x hi=>by
    have hl:i < t.U.length:=(al.1 hi).1;have:=hr i (aB _) O;simp only [Bq,hi] at this;split at this
    . contradiction
    . rename_i h0
      simp at h0;refine ⟨h0,?_⟩;split at this
      . cases this
      . rename_i h3;simpa using h3
  refine ⟨by omega,by omega,?_,?_,?_⟩
  . have key:∀ (i j:Nat) (x y:Ins),i < j->t.U[i]?=some x->t.U[j]?=some y->x.code≠y.code:=λi j x y hij hi hj he=>by
      have:=(hrow j y hj).2;rw [List.any_eq_false] at this;have hx:x∈t.U.take j:=ay (i:=i) (by rw [List.getElem?_take,aw hij];exact hi);have:=this x hx;simp [F8,he] at this
    intro i j x y hi hj he;rcases fe i j with h|h|h
    . exact absurd he (key i j x y h hi hj)
    . exact h
    . exact absurd he.symm (key j i y x h hj hi)
  . intro i x a hi ha
    obtain ⟨pr,oE⟩:=ky.u32 hX hi ha;have hc:=(hrow i x hi).1;unfold zb at hc;split at hc
    . cases hc
    split at hc
    . cases hc
    have hac:=qmj hc a ha;unfold EQ at hac;split at hac
    . cases hac
    split at hac
    . cases hac
    split at hac
    . cases hac
    rename_i k1 k2 k3;simp only [dh,il,dD,Bool.not_eq_false] at k3;have hx:=qst k3.1.2;have hy:=qst k3.2;exact ⟨⟨by omega,by omega,λe=>⟨pr.1,hx.1 e⟩,λe=>⟨oE.1,hy.1 e⟩,pr,oE⟩,λe=>⟨hx.2 e,hy.2 e⟩⟩
  . intro i x hi
    have hc:=(hrow i x hi).1;unfold zb at hc;split at hc
    . cases hc
    split at hc
    . cases hc
    omega
def qBi(pt:List Ins)(c:Int)(k:Nat):pY pt c k<=k:=by
 induction k with
 | zero=>exact aC _
 | succ k ih=>simp only [pY];split<;>(try split)<;>omega
def qrN(h:pY pt c k=0):∀ i x,i < k->pt[i]?=some x->x.code≠c:=by
  induction k with
  | zero=>intro i x hi;omega
  | succ k ih=>
    intro i x hi hx;simp only [pY] at h;cases hk:pt[k]? with
    | none=>
      rw [hk] at h;by_cases e:i=k
      . subst e;rw [hk] at hx;cases hx
      . exact ih h i x O hx
    | some y=>
      rw [hk] at h;simp only at h;split at h
      . omega
      . rename_i hy
        by_cases e:i=k
        . subst e;rw [hk] at hx;injection hx with hx;subst hx;exact hy
        . exact ih h i x O hx
def quQ(h:pY pt c k≠0):∃ x,pt[pY pt c k - 1]?=some x/\x.code=c:=by
 induction k with
 | zero=>exact absurd rfl h
 | succ k ih=>
  simp only [pY] at h ⊢;cases hk:pt[k]? with
  | none=>simp only [hk] at h ⊢;exact ih h
  | some y=>
   simp only [hk] at h ⊢;by_cases hy:y.code=c
   . simp only [hy,bS];exact ⟨y,hk,hy⟩
   . simp only [hy,cm] at h ⊢;exact ih h
def qoF(h:∀ i x,i < pt.length->pt[i]?=some x->x.code≠c):wK pt c=none:=by
 unfold wK;rw [gj];intro x hx;obtain ⟨i,hi⟩:=bC hx;have:=h i x (al.1 hi).1 hi;simp [this]
def qoG{t:l7}(hG:yB t)(hx:t.U[p]?=some x)(hc:x.code=c):wK t.U c=some x:=by
 unfold wK;cases hf:t.U.find? (λx=>decide (x.code=c)) with
 | none=>
  rw [gj] at hf;have:=hf x (ay hx);simp [hc] at this
 | some y=>
  have h1:=List.find?_some hf;obtain ⟨j,hj⟩:=bC (cM hf);have:=hG.codes p j x y hx hj (by rw [hc];simpa using (cU h1).symm);subst this;rw [hx] at hj;exact hj.symm
def NN(h:rM m){v:Int}(hv:iY v):rM (mS m i v):=by
 refine ⟨h.cells,h.wide,?_,?_,?_,?_,?_,h.output,h.aa,h.code⟩<;>simp only [mS]<;>split<;>first|exact hv|exact h.u0|exact h.u1|exact h.u2|exact h.u3|exact h.u4
def wC{k x y:Int}(hx:iY x)(hy:iY y):iY (jK k x y):=by
  obtain ⟨x1,x2⟩:=hx;obtain ⟨y1,y2⟩:=hy;have hX:x.toNat < 2 ^ 32:=by omega
  have hY:y.toNat < 2 ^ 32:=by omega
  have a1:=Nat.and_lt_two_pow x.toNat hY;have a2:=gy hX hY;have a3:=gb hX hY;have a4:x.toNat >>> y.toNat<=x.toNat:=Nat.shiftRight_le _ _;have d1:0<=x / y:=fL x1 y1;have d2:x / y<=x:=gK _ x1;have e1:0<=x % y/\x % y<=x:=by
    by_cases h0:y=0
    . subst h0;simp;omega
    . exact ⟨gZ x h0,by have:=Int.emod_add_mul_ediv x y;have:0<=y * (x / y):=Int.mul_nonneg y1 d1;omega⟩
  unfold jK lK;by_cases h1:k=1
  . rw [aw h1];unfold iY;omega
  rw [am h1];by_cases h2:k=2
  . rw [aw h2];unfold iY;omega
  rw [am h2];by_cases h3:k=3
  . rw [aw h3];unfold iY;omega
  rw [am h3];by_cases h4:k=4
  . rw [aw h4];unfold iY;omega
  rw [am h4];by_cases h5:k=5
  . rw [aw h5];unfold iY;omega
  rw [am h5];by_cases h6:k=6
  . rw [aw h6];unfold iY;omega
  rw [am h6];by_cases h7:k=7
  . rw [aw h7];unfold iY;omega
  rw [am h7];by_cases h8:k=8
  . rw [aw h8];unfold iY;omega
  rw [am h8];by_cases h9:k=9
  . rw [aw h9];unfold iY;omega
  rw [am h9];by_cases jN:k=10
  . rw [aw jN];clear a1 a2 a3;generalize x.toNat >>> y.toNat=z at a4 ⊢;unfold iY;omega
  rw [am jN];by_cases jP:k=11
  . rw [aw jP];by_cases e:x=y
    . rw [aw e];exact ⟨by decide,by decide⟩
    . rw [am e];exact ⟨by decide,by decide⟩
  rw [am jP];by_cases jL:k=12
  . rw [aw jL];by_cases e:x < y
    . rw [aw e];exact ⟨by decide,by decide⟩
    . rw [am e];exact ⟨by decide,by decide⟩
  rw [am jL];exact ⟨x1,x2⟩
def qxv(h:rM m)(ha:An a)(ho:iY op):rM (kn m a op):=by
  have hx:=NP h ho ha.ux;have hy:=NP h ho ha.uy;unfold kn;simp only;repeat' split
  all_goals first
    | exact h
    | exact ⟨h.cells,h.wide,h.u0,h.u1,h.u2,h.u3,h.u4,h.output,h.aa,h.code⟩
    | exact NN h (wC hx hy)
    | exact NN h ⟨by decide,by decide⟩
    | exact ⟨h.cells,h.wide,h.u0,h.u1,h.u2,h.u3,h.u4,h.output,h.aa,hx⟩
    | skip
  . refine NN h ?_
    by_cases hl:(lh m op a.x).toNat < m.cells.length
    . simp only [List.getD,ax hl,eh]
      exact h.wide _ (dO hl)
    . simp [List.getD,di (dP hl)];exact ⟨by decide,by decide⟩
  . refine ⟨by simpa using h.cells,λx hx=>?_,h.u0,h.u1,h.u2,h.u3,h.u4,h.output,h.aa,h.code⟩
    rcases gp hx with h1|h1
    . exact h.wide x h1
    . rw [h1];exact hy
  . rename_i c r hi
    have hu:iY (c.toNat:Int):=⟨by omega,by have:=c.toNat_lt;omega⟩;have h2:=NN (i:=a.tgt) h hu;have h3:=h.aa;rw [hi] at h3;exact ⟨h2.cells,h2.wide,h2.u0,h2.u1,h2.u2,h2.u3,h2.u4,h2.output,by simp at h3;show r.length<=400000;omega,h2.code⟩
  . rename_i k1 _ _ _ k2
    have h1:=h.output;refine ⟨h.cells,h.wide,h.u0,h.u1,h.u2,h.u3,h.u4,?_,h.aa,h.code⟩;simp only [ac,au,ap];have:m.output.length≠20000:=λe=>k1 ⟨k2,e⟩;omega
def qE9(hx:a.x.kind≠2)(hy:a.y.kind≠2)(o o':Int):kn m a o=kn m a o':=by simp [lh,hx,hy,kn]
def qzu(h:∀ a∈l,a.x.kind≠2/\a.y.kind≠2)(m:lj)(o o':Int):mL m o l=mL m o' l:=by
 induction l generalizing m with
 | nil=>rfl
 | cons a r ih=>
  have h1:=h a Mc;simp only [mL,qE9 h1.1 h1.2 o o'];rw [ih (λb hb=>h b (aq _ hb))]
attribute [local irreducible] JC JO JA JB lZ mF mM AC fill iH QE Ev mq
section
variable{t:l7}{x:Ins}
def qvk(h:¬ m.r4 < (m.cells.length:Int)):lY t m={ m with stop:=3 }:=by unfold lY;rw [aw O]
def qvl(h:m.r4 < (m.cells.length:Int))(hf:wK t.U (m.cells.getD m.r4.toNat 0)=none):lY t m={ m with stop:=2 }:=by unfold lY;rw [am O,hf]
def qvj(h:m.r4 < (m.cells.length:Int))(hf:wK t.U (m.cells.getD m.r4.toNat 0)=some x)(ho:x.I=true)(h1:¬ m.r4+1 < (m.cells.length:Int)):lY t m={ m with stop:=3 }:=by
 unfold lY;rw [am O,hf];simp only [ho,bS];rw [aw O]
def qso(h:m.r4 < (m.cells.length:Int))(hf:wK t.U (m.cells.getD m.r4.toNat 0)=some x)(ho:x.I=true)(h1:m.r4+1 < (m.cells.length:Int)):lY t m=mL { m with r4:=m.r4+2 } (m.cells.getD (m.r4+1).toNat 0) x.ad:=by
 unfold lY;rw [am O,hf];simp only [ho,bS];rw [am O]
def qsn(h:m.r4 < (m.cells.length:Int))(hf:wK t.U (m.cells.getD m.r4.toNat 0)=some x)(ho:x.I=false)(ha:∀ a∈x.ad,a.x.kind≠2/\a.y.kind≠2){op:Int}:lY t m=mL { m with r4:=m.r4+1 } op x.ad:=by
 unfold lY;rw [am O,hf];simp only [ho];rw [qzu ha _ op 0];rfl
end
def W1{p:Prop} (h:p:=by
 obtain ⟨hk,rfl⟩:=al.1 h;rw [aL hk];simp [mL,hs]):p:=h
def qzt(h:l[k]?=some a)(hs:(kn m a op).stop=0):mL m op (l.drop k)=mL (kn m a op) op (l.drop (k+1)):=by
 exact W1
def qpP(h:l[k]?=some a)(hs:¬ (kn m a op).stop=0):mL m op (l.drop k)=kn m a op:=by
 exact W1
def qpO(h:l.length<=k):mL m op (l.drop k)=m:=by rw [aK h];rfl
def Sj{l:LInt9}(h:∀ x∈l,iY x)(i:Nat):iY (l.getD i 0):=by
 by_cases hl:i < l.length
 . simp only [List.getD,ax hl,eh];exact h _ (dO hl)
 . simp [List.getD,di (dP hl)];exact ⟨by decide,by decide⟩
def Xt(h:rM m){v:Int}(hv:iY v):rM { m with r4:=v }:=⟨h.cells,h.wide,h.u0,h.u1,h.u2,h.u3,hv,h.output,h.aa,h.code⟩
def GA{p:Prop} (h:p:=by
 refine ⟨_::_::_::O2,Z,Z,opk,hop1,?_⟩;rw [hact,qpP ha kb];exact ⟨bc2,cc2,yc2,O2,Ao2,co2,Ai2,ni2,ci2,rfl,hO2,wY.le Lc,hcc22,hcc23⟩):p:=h
def O4{p:Prop} (h:p:=by
 refine ⟨_::_::_::O1,Z,Z,opk,hop1,?_⟩;rw [hact,qpO O];exact ⟨bc1,cc1,yc1,O1,Ao1,co1,Ai1,ni1,ci1,rfl,hO1,hI1.le Lc,hcc1,hcc21⟩):p:=h
def W2{p:Prop} (h:p:=by
 refine G4 ?_;refine lC [] _ (.inl Z) (.nil) Z Lc λ_ iL=>?_;exact O4):p:=h
def HY{p:Prop} (h:p:=by
 refine G4 ?_;refine ki Y3 (jB O O)<|G2 ?_;refine jd ⟨(k+1,kn mk a opk,opk,_::_::_::O2),[],kp,Z,⟨Lc,⟨by omega,⟨bc2,cc2,yc2,O2,Ao2,co2,Ai2,ni2,ci2,Z,hO2,wY.le (Lr D),hcc22,hcc23⟩,qxv hok1 hacOK.1 hop1,hop1,kb,by rw [hact,qzt ha kb]⟩⟩,Oz⟩):p:=h
def qBN(bm:Nat)(sm:LInt9)(nQ:sm.length=256)(bq:Nat)(es:List (Int×Value×Nat))(ck:Nat)(op:Int)(m:lj)(hM:DB bm (.slice Ax nx cx) sm bq es ck op m M s)(t:l7)(hX:ky s Ax nx cx t.U)(hG:yB t)(l9:rM m)(uQ:iY op)(mY:m.stop=0)(hS:∀ c,0<=c->c < 256->sm[c.toNat]?=some (pY t.U c nx:Int))(hB:∀ c,256<=c->(kS es c).getD (iJ 0)=iJ (pY t.U c nx:Int)):Ap9 D 78 [jc bm] (M++L) s λv L' s'=>∃ M',L'=M'++L/\v=.tuple #[]/\∃ op',iY op'/\DB bm (.slice Ax nx cx) sm bq es ck op' (lY t m) M' s':=by
 obtain ⟨bc,cc,yc,Oq9,Ao,co,Ai,ni,ci,rfl,hO,hI,mv,hcc2⟩:=hM;have hu4:=l9.u4;have xX:=hu4.1;have tM:=hu4.2;have rh:=l9.cells;have hnx:=hX.1;have hple:=qBi t.U (m.cells.getD m.r4.toNat 0) nx;have hcu:=Sj l9.wide m.r4.toNat;simp only [ao];refine jv (fn:=Tryz.f78) jl Tryz.func78 V Z Tryz.ntmps78 Z (rs:=[]) Z [(0,_)] Z<|G6 ?_;refine iI (S5 (sz:=1) 4 Z Z Z Z Z Z Dc) Z<|G9 ?_;refine Jc Y3 (AC.mid [] [_] _ (RH D nQ hu4 rh)) ?_;rintro _ _ s1 h1 ⟨_,rfl,rfl,rfl⟩;simp only [iU,iV];refine G3 ?_;refine lD Z ?_ ?_<;>intro c2;.have oS:=c2;refine G6 ?_;refine xy 0 (_::_::_::_::_::_::_::_::_::_::_::_) Y5 Z Z Z Z<|G4 ?_;refine rR [] _ (.nil) Z h1 λ_ iL=>?_;refine ⟨_::_::_::Oq9,Z,Z,op,uQ,?_⟩;rw [qvk oS];exact ⟨bc,cc,yc,Oq9,Ao,co,Ai,ni,ci,rfl,hO,hI.le Lc,mv,hcc2⟩
 have oS:m.r4 < (m.cells.length:Int):=c2;refine k8 ?_;refine iI (xw Y6 xX oS) Z<|iI (rj 1 Y4 (NK xX oS)) Z<|Jc Y3 (qAn D nQ es ck t.U Pz hcu (pY t.U (m.cells.getD m.r4.toNat 0) nx) hple (hS _ hcu.1) (hB _)) ?_;rintro _ _ s3 h3 ⟨_,rfl,rfl,rfl⟩;simp only [iU,iV];refine CX ?_;refine lD Z ?_ ?_<;>intro c4
 .have hp0:pY t.U (m.cells.getD m.r4.toNat 0) nx=0:=by simpa using c4
  have hfi:=qoF (λi x hi hx=>qrN hp0 i x O hx);refine G6 ?_;refine xy 0 (_::_::_::_::_::_::_::_::_::_::_::_) Y5 Z Z Z Z<|G5 ?_;refine rR [] _ (.nil) Z Lc λ_ iL=>?_;refine ⟨_::_::_::Oq9,Z,Z,op,uQ,?_⟩;rw [qvl oS hfi];exact ⟨bc,cc,yc,Oq9,Ao,co,Ai,ni,ci,rfl,hO,hI.le Lc,mv,hcc2⟩
 have hp0:pY t.U (m.cells.getD m.r4.toNat 0) nx≠0:=by simpa using c4
 obtain ⟨bx,ox,x,A',n',c',wW,hx,hcx,hax,_,_⟩:=ky.at_ Pz (show pY t.U (m.cells.getD m.r4.toNat 0) nx - 1 < nx by omega);subst wW;rw [qAz hp0];obtain ⟨x',hx',hxc⟩:=quQ hp0;rw [hx] at hx';injection hx' with hx'
 subst hx';have hfi:=qoG hG hx hxc;have hn':=hax.1;have hfew:=hG.few _ _ hx;refine G4 ?_;refine iI (pu Y4) Z<|iI (nh 2 Y3 Pz Z) Z<|G4 ?_;refine vB Z ?_ ?_<;>intro c5
 .have hopd:=c5;refine G3 ?_;refine iI (nD Z Z (Dw O O)) Z<|G3 ?_;refine iI (S5 (sz:=1) 4 Z Z Z Z Z Z Dc) Z<|xy 0 (_::_::_::_::_::_::_::_::_::_::_::_) Y5 Z Z Z Z<|G7 ?_;refine iI (pu Y4) Z<|iI (nh 3 Y3 Pz Z) Z<|G5 ?_;refine lw (γ:=Nat×lj×Int×Hl) (λg=>[(0,_),(3,_),(86,_),(87,iJ (g.1:Int))]) (λg=>g.2.2.2++L) (λg tw=>Le D s3 tw/\(g.1<=n'/\DB bm (.slice (some ⟨bx,ox,none⟩) nx cx) sm bq es ck g.2.2.1 g.2.1 g.2.2.2 tw/\rM g.2.1/\iY g.2.2.1/\g.2.1.stop=0/\lY t m=mL g.2.1 g.2.2.1 (x.ad.drop g.1))) (λg=>n' - g.1) (λ_ _ _ h hl=>⟨h.1.trans hl,by obtain ⟨_,k1,⟨bc,cc,yc,Oq9,Ao,co,Ai,ni,ci,k2,k3,k4,k5⟩,k6⟩:=h;exact ⟨k1,⟨bc,cc,yc,Oq9,Ao,co,Ai,ni,ci,k2,k3,k4.le hl,k5⟩,k6⟩⟩) (0,{ m with r4:=m.r4+1 },op,_::_::_::Oq9) (.c4 Z Z Z Z (.nil _)) Z ⟨Le.refl _,⟨aB _,⟨bc,cc,yc,Oq9,Ao,co,Ai,ni,ci,Z,hO,hI.le Lc,mv,hcc2⟩,Xt l9 (by constructor<;>omega),by first|exact uQ|exact Sj l9.wide _,mY,by first|exact qso oS hfi hopd hnext|exact qsn oS hfi hopd (λa ha=>(hG.ad _ _ _ hx ha).2 hopd)⟩⟩ ?_;intro g s6 I6;obtain ⟨k,mk,opk,Mk⟩:=g;obtain ⟨kh,⟨bc1,cc1,yc1,O1,Ao1,co1,Ai1,ni1,ci1,wZ,hO1,hI1,hcc1,hcc21⟩,hok1,hop1,hst1,hact⟩:=I6.2;simp only at kh wZ hO1 hI1 hcc1 hok1 hop1 hst1 hact;subst wZ;simp only [ao];refine J6 ?_ ?_<;>intro c7
  .have hk:k < n':=by omega
   obtain ⟨b2,off2,a,rfl,ha,uj,hau⟩:=pH.at_ Pz hk;have hacOK:=hG.ad _ _ _ hx (ay ha);refine wN ?_;refine iI (pu Y4) Z<|iI (nh 3 Y3 Pz Z) Z<|jY Y2<|iI (jR Y6 hk) Z<|Jc Y3 (qxu bm sm nQ bq es ck opk mk ⟨bc1,cc1,yc1,O1,Ao1,co1,Ai1,ni1,ci1,Z,hO1,hI1.le (Lr D),hcc1,hcc21⟩ a Pz hok1 hop1 hacOK.1) ?_;rintro _ _ s8 h8 ⟨M2,rfl,rfl,bc2,cc2,yc2,O2,Ao2,co2,Ai2,ni2,ci2,rfl,hO2,wY,hcc22,hcc23⟩;simp only [ao];refine mn ?_;refine lD Z ?_ ?_<;>intro c9;.have kb:=c9;refine G5 ?_;exact rR [] _ (.nil) Z Lc λ_ iL=>GA
   have kb:=c9;exact HY
  exact W2
 have hopd:=c5;refine G4 ?_;refine iI (nD Z Z (Dw O O)) Z<|Jc Y3 (AC.mid [] [_] _ (RH D nQ (show iY (m.r4+1) from ⟨by omega,by omega⟩) rh)) ?_;rintro _ _ s6 h6 ⟨_,rfl,rfl,rfl⟩;simp only [iU,iV];refine G4 ?_;refine lD Z ?_ ?_<;>intro c7;.have hnext:=c7;refine G6 ?_;refine xy 0 (_::_::_::_::_::_::_::_::_::_::_::_) Y5 Z Z Z Z<|G5 ?_;refine rR [] _ (.nil) Z Lc λ_ iL=>?_;refine ⟨_::_::_::Oq9,Z,Z,op,uQ,?_⟩;rw [qvj oS hfi hopd hnext];exact ⟨bc,cc,yc,Oq9,Ao,co,Ai,ni,ci,rfl,hO,hI.le Lc,mv,hcc2⟩
 have hnext:m.r4+1 < (m.cells.length:Int):=c7;refine G9 ?_;refine iI (nD Z Z (Dw O O)) Z<|iI (xw Y6 O hnext) Z<|iI (rj 1 Y4 (NK O hnext)) Z<|G2 ?_;refine xy 0 _ Y5 (qFs _ _ _ _ _ _ _ _ _ _ _ _ _ nQ) Z (qG5 _ _ _ _ _ _ _ _ _ _ _ _ _ nQ) Z<|G5 ?_;refine iI (nD Z Z (Dw O O)) Z<|G3 ?_;refine iI (S5 (sz:=1) 4 Z Z Z Z Z Z Dc) Z ?_;refine xy 0 (_::_::_::_::_::_::_::_::_::_::_::_) Y5 Z Z Z Z<|G7 ?_;refine iI (pu Y4) Z<|iI (nh 3 Y3 Pz Z) Z<|G5 ?_;refine lw (γ:=Nat×lj×Int×Hl) (λg=>[(0,_),(3,_),(86,_),(87,iJ (g.1:Int))]) (λg=>g.2.2.2++L) (λg tw=>Le D s6 tw/\(g.1<=n'/\DB bm (.slice (some ⟨bx,ox,none⟩) nx cx) sm bq es ck g.2.2.1 g.2.1 g.2.2.2 tw/\rM g.2.1/\iY g.2.2.1/\g.2.1.stop=0/\lY t m=mL g.2.1 g.2.2.1 (x.ad.drop g.1))) (λg=>n' - g.1) (λ_ _ _ h hl=>⟨h.1.trans hl,by obtain ⟨_,k1,⟨bc,cc,yc,Oq9,Ao,co,Ai,ni,ci,k2,k3,k4,k5⟩,k6⟩:=h;exact ⟨k1,⟨bc,cc,yc,Oq9,Ao,co,Ai,ni,ci,k2,k3,k4.le hl,k5⟩,k6⟩⟩) (0,{ m with r4:=m.r4+2 },m.cells.getD (m.r4+1).toNat 0,_::_::_::Oq9) (.c4 Z Z Z Z (.nil _)) Z ⟨Le.refl _,⟨aB _,⟨bc,cc,yc,Oq9,Ao,co,Ai,ni,ci,Z,hO,hI.le Lc,mv,hcc2⟩,Xt l9 (by constructor<;>omega),by first|exact uQ|exact Sj l9.wide _,mY,by first|exact qso oS hfi hopd hnext|exact qsn oS hfi hopd (λa ha=>(hG.ad _ _ _ hx ha).2 hopd)⟩⟩ ?_;intro g s9 I9;obtain ⟨k,mk,opk,Mk⟩:=g;obtain ⟨kh,⟨bc1,cc1,yc1,O1,Ao1,co1,Ai1,ni1,ci1,wZ,hO1,hI1,hcc1,hcc21⟩,hok1,hop1,hst1,hact⟩:=I9.2;simp only at kh wZ hO1 hI1 hcc1 hok1 hop1 hst1 hact;subst wZ;simp only [ao];refine J6 ?_ ?_<;>intro my
 .have hk:k < n':=by omega
  obtain ⟨b2,off2,a,rfl,ha,uj,hau⟩:=pH.at_ Pz hk;have hacOK:=hG.ad _ _ _ hx (ay ha);refine wN ?_;refine iI (pu Y4) Z<|iI (nh 3 Y3 Pz Z) Z<|jY Y2<|iI (jR Y6 hk) Z<|Jc Y3 (qxu bm sm nQ bq es ck opk mk ⟨bc1,cc1,yc1,O1,Ao1,co1,Ai1,ni1,ci1,Z,hO1,hI1.le (Lr D),hcc1,hcc21⟩ a Pz hok1 hop1 hacOK.1) ?_;rintro _ _ kv jP ⟨M2,rfl,rfl,bc2,cc2,yc2,O2,Ao2,co2,Ai2,ni2,ci2,rfl,hO2,wY,hcc22,hcc23⟩;simp only [ao];refine mn ?_;refine lD Z ?_ ?_<;>intro nU;.have kb:=nU;refine G5 ?_;exact rR [] _ (.nil) Z Lc λ_ iL=>GA
  have kb:=nU;exact HY
 exact W2
def Z5{op:Int}(nQ:sm.length=256)(hI:lL s Ai ni ci m.aa)(hni:ni<=1000000):AM9 D 79 [jc bm] [(bm,cb (.slice (j6 bc) nc cc::iO m.r0::iO m.r1::iO m.r2::iO m.r3::iO m.r4::.slice Ai ni ci::.slice Ao no co::iJ m.stop::iO m.code::.slice Ax nx cx::(iv sm++[.map (some bq),iO op])) 179)] L s λv M' s'=>M'=[(bm,cb (.slice (j6 bc) nc cc::iO m.r0::iO m.r1::iO m.r2::iO m.r3::iO m.r4::.slice Ai ni ci::.slice Ao no co::iJ m.stop::iO m.code::.slice Ax nx cx::(iv sm++[.map (some bq),iO op])) 179)]/\∃ Ad c',v=.agg #[.slice (j6 bc) nc cc,iO m.r0,iO m.r1,iO m.r2,iO m.r3,iO m.r4,.slice Ad ni c',.slice Ao no co,iJ m.stop,iO m.code]/\lL s' Ad ni c' m.aa:=by
 refine jv (fn:=f79) jl func79 V Z ntmps79 Z (rs:=[.cell 2 98]) Z [(0,_)] Z<|Sr<|jp Z [_,_,_,_,_,_,_,_,_,_] Y2 λβ1 s1 h1=>G7 ?_;refine iI (jh 1 [_,_,_,_,_,_,_,_,_,_] Y5) Z<|jp Z [_,_,_,_,_,_,_,_,_,_] Y2 λβ2 s2 h2=>Wt 0 [_,_,_,_,_,_,_,_,_,_] Y9<|G6 ?_;refine Jc Y3 (AC.pub (sj D Pz hni)) ?_;rintro _ _ s3 h3 ⟨rfl,M1,sw,⟨Ad,c1,rfl,_,_,ui⟩,hsw,hcw⟩;have hB1:=Own.bts ui hcw;refine Wb Y5<|Wt 0 [_,_,_,_,_,_,_,_,_,_] Y9<|Nt<|Sr<|iI (jh 0 [_,_,_,_,_,_,_,_,_,_] Y5) Z<|Wt 1 [_,_,_,_,_,_,_,_,_,_] Y9<|G3 ?_;exact rR [_,_] _ (.agg (us:=[_,_,_,_,_,_,_,_,_,_]) 1 Z Z Z Z Z (.nil)) Z (h1.t h2|>.t h3) λ_ iL=>⟨[_],rfl,rfl,Ad,c1,rfl,hB1.le Lc⟩
def Ng(h:pt[k]?=some x)(c:Int):pY pt c (k+1)=if x.code=c then k+1 else pY pt c k:=by simp [pY,h]
def Nj(h:pt[k]?=some x)(hx:iY x.code)(lm:x.code < 256)(hl:sm.length=256)(hS:∀ c:Int,0<=c->c < 256->sm[c.toNat]?=some (pY pt c k:Int)):
    (sm.set x.code.toNat ((k:Int)+1)).length=256/\∀ c:Int,0<=c->c < 256->(sm.set x.code.toNat ((k:Int)+1))[c.toNat]?=some (pY pt c (k+1):Int):=by
  refine ⟨by simpa using hl,λc h1 h2=>?_⟩;have hx0:=hx.1;rw [Ng h];by_cases e:x.code=c
  . subst e
    rw [aw rfl,bK O];simp
  . rw [am e,bl O];exact hS c h1 h2
def ZQ(h:pt[k]?=some x)(lm:x.code < 256)(hB:∀ c:Int,256<=c->(kS es c).getD (iJ 0)=iJ (pY pt c k:Int)):
  ∀ c:Int,256<=c->(kS es c).getD (iJ 0)=iJ (pY pt c (k+1):Int):=λc hc=>by
 rw [Ng h,am O];exact hB c hc
def Zj(h:pt[k]?=some x)(hge:¬ x.code < 256)(hS:∀ c:Int,0<=c->c < 256->sm[c.toNat]?=some (pY pt c k:Int)):
  ∀ c:Int,0<=c->c < 256->sm[c.toNat]?=some (pY pt c (k+1):Int):=λc h1 h2=>by
 rw [Ng h,am O];exact hS c h1 h2
def qp4(h:pt[k]?=some x)(hB:∀ c:Int,256<=c->(kS es c).getD (iJ 0)=iJ (pY pt c k:Int)):
  ∀ c:Int,256<=c->(kS (u9 es x.code (iJ ((k:Int)+1)) ck) c).getD (iJ 0)=iJ (pY pt c (k+1):Int):=λc hc=>by
 rw [MK,Ng h];by_cases e:c=x.code
 . rw [aw e,aw e.symm];simp
 . rw [am e,am (λh=>e h.symm)];exact hB c hc
def Hw{p:Prop} (h:p:=by
 rintro _ _ s6 h6 ⟨rfl,Mi,swi,⟨Ai1,ci1,rfl,_,_,hOi⟩,hswi,hcwi⟩;refine ⟨λ_ _ h=>h,?_⟩;have rC:=Own.bts hOi hcwi;refine iM 8 V<|Jb Z Tt Z Z Z (AC.mid [_,_,_] [] _ (sj D (xR.le (h1.t h2|>.t h4|>.t h5|>.t h6)) O)) ?_;rintro _ _ s7 h7 ⟨Oq9,rfl,Ao1,co1,rfl,_,_,uP⟩;refine ⟨(λx h _=>by cases h),?_⟩;simp only [iU,iV];refine iM 10 V<|Wu Z Tt 0 [_,_,_,_,_,_,_,_,_,_] Y9 (λx hx=>by cases hx)<|H1 ?_;refine iM 12 V<|Wu Z Tt 0 [_,_,_,_,_,_,_,_,_,_] Y9 (λx hx=>by cases hx)<|H1 ?_;refine iM 14 V<|Wu Z Tt 0 [_,_,_,_,_,_,_,_,_,_] Y9 (λx hx=>by cases hx)<|jq V ?_;refine jd (mq.mk (bc,c1,yc,Oq9,Ao1,co1,Ai1,ci1) [] kp Pr ⟨(h4.t h5|>.t h6|>.t h7),⟨uP,rC.le h7,by rw [<- hcy,zW],hcy2⟩⟩)):p:=h
def UR{p:Prop} (h:p:=by
 refine j5 Z Tt (Wd 0 Y5) Z<|iM 1 V<|j5 Z Tt (Wd 0 Y5) Z<|iM 2 V<|Jb Z Tt Z Z Z (AC.mid [_,_] [] _ (FH D (wW.le (h1.t h2|>.t h4)) O)) ?_;rintro _ _ s5 h5 ⟨M1,rfl,Ad,c1,rfl,_,_,hO1⟩;have e5:=h1.t h2|>.t h4|>.t h5;refine ⟨(λx h _=>by cases h),?_⟩;obtain ⟨bc,yc,rfl,rfl,hcy,hcy2⟩:=Own.blk_of hO1 hc0;simp only [iU,iV];refine H1 ?_;refine iM 5 V<|Jb Z Tt Z Z Z (AC.pub (sj D (ta.le e5) O)) ?_;rintro _ _ s6 h6 ⟨rfl,Mi,swi,⟨Ai1,ci1,rfl,_,_,hOi⟩,hswi,hcwi⟩;refine ⟨λ_ _ h=>h,?_⟩;have rC:=Own.bts hOi hcwi;refine iM 8 V<|Jb Z Tt Z Z Z (AC.mid [_,_,_] [] _ (sj D (xR.le (e5.t h6)) O)) ?_;rintro _ _ s7 h7 ⟨Oq9,rfl,Ao1,co1,rfl,_,_,uP⟩;refine ⟨(λx h _=>by cases h),?_⟩;simp only [iU,iV];refine iM 10 V<|Wu Z Tt 0 [_,_,_,_,_,_,_,_,_,_] Y9 (λx hx=>by cases hx)<|H1 ?_;refine iM 12 V<|Wu Z Tt 0 [_,_,_,_,_,_,_,_,_,_] Y9 (λx hx=>by cases hx)<|H1 ?_;refine iM 14 V<|Wu Z Tt 0 [_,_,_,_,_,_,_,_,_,_] Y9 (λx hx=>by cases hx)<|jq V ?_;refine jd (mq.mk (bc,c1,yc,Oq9,Ao1,co1,Ai1,ci1) [] kp Pr ⟨(h4.t h5|>.t h6|>.t h7),⟨uP,rC.le h7,by rw [<- hcy,zW],hcy2⟩⟩)):p:=h
def UO{p:Prop} (h:p:=by
  refine j5 Z Tt (Wd 0 Y5) Z ?_;refine kD 2 4 V ?_ ?_;.refine Jb Z Tt Z Z Z (AC.mid [_,_] [] _ (FH D (wW.le (h1.t h2|>.t h4)) O)) ?_;rintro _ _ s5 h5 ⟨M1,rfl,Ad,c1,rfl,_,_,hO1⟩;have e5:=h1.t h2|>.t h4|>.t h5;refine ⟨(λx h _=>by cases h),?_⟩;obtain ⟨bc,yc,rfl,rfl,hcy,hcy2⟩:=Own.blk_of hO1 hc0;simp only [iU,iV];refine iM 4 V<|j5 Z Tt (Wd 0 Y5) Z<|H1 ?_;refine iM 5 V<|Jb Z Tt Z Z Z (AC.pub (sj D (ta.le e5) O)) ?_;rintro _ _ s6 h6 ⟨rfl,Mi,swi,⟨Ai1,ci1,rfl,_,_,hOi⟩,hswi,hcwi⟩;refine ⟨λ_ _ h=>h,?_⟩;have rC:=Own.bts hOi hcwi;refine iM 8 V<|Jb Z Tt Z Z Z (AC.mid [_,_,_] [] _ (sj D (xR.le (e5.t h6)) O)) ?_;rintro _ _ s7 h7 ⟨Oq9,rfl,Ao1,co1,rfl,_,_,uP⟩;refine ⟨(λx h _=>by cases h),?_⟩;simp only [iU,iV];refine iM 10 V<|Wu Z Tt 0 [_,_,_,_,_,_,_,_,_,_] Y9 (λx hx=>by cases hx)<|H1 ?_;refine iM 12 V<|Wu Z Tt 0 [_,_,_,_,_,_,_,_,_,_] Y9 (λx hx=>by cases hx)<|H1 ?_;refine iM 14 V<|Wu Z Tt 0 [_,_,_,_,_,_,_,_,_,_] Y9 (λx hx=>by cases hx)<|jq V ?_;refine jd (mq.mk (bc,c1,yc,Oq9,Ao1,co1,Ai1,ci1) [] kp Pr ⟨(h4.t h5|>.t h6|>.t h7),⟨uP,rC.le h7,by rw [<- hcy,zW],hcy2⟩⟩)
  refine j5 Z Tt (Wd 0 Y5) Z<|iM 2 V<|Jb Z Tt Z Z Z (AC.mid [_,_] [] _ (FH D (wW.le (h1.t h2|>.t h4)) O)) ?_;rintro _ _ s5 h5 ⟨M1,rfl,Ad,c1,rfl,_,_,hO1⟩;have e5:=h1.t h2|>.t h4|>.t h5;refine ⟨(λx h _=>by cases h),?_⟩;obtain ⟨bc,yc,rfl,rfl,hcy,hcy2⟩:=Own.blk_of hO1 hc0;simp only [iU,iV];refine H1 ?_;refine iM 5 V<|Jb Z Tt Z Z Z (AC.pub (sj D (ta.le e5) O)) ?_;rintro _ _ s6 h6 ⟨rfl,Mi,swi,⟨Ai1,ci1,rfl,_,_,hOi⟩,hswi,hcwi⟩;refine ⟨λ_ _ h=>h,?_⟩;have rC:=Own.bts hOi hcwi;refine iM 8 V<|Jb Z Tt Z Z Z (AC.mid [_,_,_] [] _ (sj D (xR.le (e5.t h6)) O)) ?_;rintro _ _ s7 h7 ⟨Oq9,rfl,Ao1,co1,rfl,_,_,uP⟩;refine ⟨(λx h _=>by cases h),?_⟩;simp only [iU,iV];refine iM 10 V<|Wu Z Tt 0 [_,_,_,_,_,_,_,_,_,_] Y9 (λx hx=>by cases hx)<|H1 ?_;refine iM 12 V<|Wu Z Tt 0 [_,_,_,_,_,_,_,_,_,_] Y9 (λx hx=>by cases hx)<|H1 ?_;refine iM 14 V<|Wu Z Tt 0 [_,_,_,_,_,_,_,_,_,_] Y9 (λx hx=>by cases hx)<|jq V ?_;refine jd (mq.mk (bc,c1,yc,Oq9,Ao1,co1,Ai1,ci1) [] kp Pr ⟨(h4.t h5|>.t h6|>.t h7),⟨uP,rC.le h7,by rw [<- hcy,zW],hcy2⟩⟩)):p:=h
def UK{p:Prop} (h:p:=by
  refine j5 Z Tt (Wd 0 Y5) Z ?_;refine kD 2 7 V ?_ ?_
  .refine Jb Z Tt Z Z Z (AC.mid [_,_] [] _ (FH D (wW.le (h1.t h2|>.t h4)) O)) ?_;have e4:=h1.t h2|>.t h4;rintro _ _ s5 h5 ⟨M1,rfl,Ad,c1,rfl,_,_,hO1⟩;refine ⟨(λx h _=>by cases h),?_⟩;obtain ⟨bc,yc,rfl,rfl,hcy,hcy2⟩:=Own.blk_of hO1 hc0;simp only [iU,iV];refine kD 5 7 V ?_ ?_;.refine Jb Z Tt Z Z Z (AC.pub (sj D (ta.le (e4.t h5)) O)) ?_;rintro _ _ s6 h6 ⟨rfl,Mi,swi,⟨Ai1,ci1,rfl,_,_,hOi⟩,hswi,hcwi⟩;refine ⟨λ_ _ h=>h,?_⟩;have rC:=Own.bts hOi hcwi;refine X13 ?_;refine iM 8 V<|Jb Z Tt Z Z Z (AC.mid [_,_,_] [] _ (sj D (xR.le (e4.t h5|>.t h6)) O)) ?_;rintro _ _ s7 h7 ⟨Oq9,rfl,Ao1,co1,rfl,_,_,uP⟩;refine ⟨(λx h _=>by cases h),?_⟩;simp only [iU,iV];refine iM 10 V<|Wu Z Tt 0 [_,_,_,_,_,_,_,_,_,_] Y9 (λx hx=>by cases hx)<|H1 ?_;refine iM 12 V<|Wu Z Tt 0 [_,_,_,_,_,_,_,_,_,_] Y9 (λx hx=>by cases hx)<|H1 ?_;refine iM 14 V<|Wu Z Tt 0 [_,_,_,_,_,_,_,_,_,_] Y9 (λx hx=>by cases hx)<|jq V ?_;refine jd (mq.mk (bc,c1,yc,Oq9,Ao1,co1,Ai1,ci1) [] kp Pr ⟨(h4.t h5|>.t h6|>.t h7),⟨uP,rC.le h7,by rw [<- hcy,zW],hcy2⟩⟩)
   refine j5 Z Tt (Wd 0 Y5) Z<|H1 ?_;refine iM 5 V<|Jb Z Tt Z Z Z (AC.pub (sj D (ta.le (e4.t h5)) O)) ?_;rintro _ _ s6 h6 ⟨rfl,Mi,swi,⟨Ai1,ci1,rfl,_,_,hOi⟩,hswi,hcwi⟩;refine ⟨λ_ _ h=>h,?_⟩;have rC:=Own.bts hOi hcwi;refine iM 8 V<|Jb Z Tt Z Z Z (AC.mid [_,_,_] [] _ (sj D (xR.le (e4.t h5|>.t h6)) O)) ?_;rintro _ _ s7 h7 ⟨Oq9,rfl,Ao1,co1,rfl,_,_,uP⟩;refine ⟨(λx h _=>by cases h),?_⟩;simp only [iU,iV];refine iM 10 V<|Wu Z Tt 0 [_,_,_,_,_,_,_,_,_,_] Y9 (λx hx=>by cases hx)<|H1 ?_;refine iM 12 V<|Wu Z Tt 0 [_,_,_,_,_,_,_,_,_,_] Y9 (λx hx=>by cases hx)<|H1 ?_;refine iM 14 V<|Wu Z Tt 0 [_,_,_,_,_,_,_,_,_,_] Y9 (λx hx=>by cases hx)<|jq V ?_;refine jd (mq.mk (bc,c1,yc,Oq9,Ao1,co1,Ai1,ci1) [] kp Pr ⟨(h4.t h5|>.t h6|>.t h7),⟨uP,rC.le h7,by rw [<- hcy,zW],hcy2⟩⟩)
  refine j5 Z Tt (Wd 0 Y5) Z<|iM 2 V<|Jb Z Tt Z Z Z (AC.mid [_,_] [] _ (FH D (wW.le (h1.t h2|>.t h4)) O)) ?_;rintro _ _ s5 h5 ⟨M1,rfl,Ad,c1,rfl,_,_,hO1⟩;have e5:=h1.t h2|>.t h4|>.t h5;refine ⟨(λx h _=>by cases h),?_⟩;obtain ⟨bc,yc,rfl,rfl,hcy,hcy2⟩:=Own.blk_of hO1 hc0;simp only [iU,iV];refine H1 ?_;refine iM 5 V<|Jb Z Tt Z Z Z (AC.pub (sj D (ta.le e5) O)) ?_;rintro _ _ s6 h6 ⟨rfl,Mi,swi,⟨Ai1,ci1,rfl,_,_,hOi⟩,hswi,hcwi⟩;refine ⟨λ_ _ h=>h,?_⟩;have rC:=Own.bts hOi hcwi;refine iM 8 V<|Jb Z Tt Z Z Z (AC.mid [_,_,_] [] _ (sj D (xR.le (e5.t h6)) O)) ?_;rintro _ _ s7 h7 ⟨Oq9,rfl,Ao1,co1,rfl,_,_,uP⟩;refine ⟨(λx h _=>by cases h),?_⟩;simp only [iU,iV];refine iM 10 V<|Wu Z Tt 0 [_,_,_,_,_,_,_,_,_,_] Y9 (λx hx=>by cases hx)<|H1 ?_;refine iM 12 V<|Wu Z Tt 0 [_,_,_,_,_,_,_,_,_,_] Y9 (λx hx=>by cases hx)<|H1 ?_;refine iM 14 V<|Wu Z Tt 0 [_,_,_,_,_,_,_,_,_,_] Y9 (λx hx=>by cases hx)<|jq V ?_;refine jd (mq.mk (bc,c1,yc,Oq9,Ao1,co1,Ai1,ci1) [] kp Pr ⟨(h4.t h5|>.t h6|>.t h7),⟨uP,rC.le h7,by rw [<- hcy,zW],hcy2⟩⟩)):p:=h
def qBa{t:l7}{c:Nat}(hA:ky s A n c t.U){zO zC vu zD zP zE:Nat}(wW:lV s Ax zO zC m.cells)(ta:lL s Bx vu zD m.aa)(xR:lL s Ox zP zE m.output)(l9:rM m)(hc0:0 < m.cells.length):AN9 D 77 [.agg #[iJ t.cells,.slice A n c],.agg #[.slice Ax zO zC,iO m.r0,iO m.r1,iO m.r2,iO m.r3,iO m.r4,.slice Bx vu zD,.slice Ox zP zE,iJ m.stop,iO m.code]] L s λv M' s'=>∃ bm sm bq es ck,v=jc bm/\sm.length=256/\(∀ c:Int,0<=c->c < 256->sm[c.toNat]?=some (pY t.U c n:Int))/\(∀ c:Int,256<=c->(kS es c).getD (iJ 0)=iJ (pY t.U c n:Int))/\DB bm (.slice A n c) sm bq es ck 0 m M' s':=by
 obtain rfl:=wW.1;obtain rfl:=xR.1;have hnB:=ta.1;have pd:=l9.cells;have tf:=l9.aa;have yO:=l9.output;have hn:=hA.1;have ot:=hA.2.1;have hcm:=hA.2.2.1;refine jv (fn:=f77) jl func77 V Z ntmps77 Z (rs:=[.tmp 4]) Z [(0,_),(1,_)] Z<|Sr<|kH Y2 λβ1 s1 h1=>kH Y2 λβ2 s2 h2=>G3 ?_;have e2:=h1.t h2;refine qEI (γ:=Nat×Nat×LVal9×Hl×OAdr9×Nat×OAdr9×Nat) (λg=>[(2,jc β1),(3,jc β2),(4,.pointer none)]) (λg=>(β2,cb [.slice (some ⟨g.1,0,none⟩) m.cells.length g.2.1,iO m.r0,iO m.r1,iO m.r2,iO m.r3,iO m.r4,.slice g.2.2.2.2.2.2.1 vu g.2.2.2.2.2.2.2,.slice g.2.2.2.2.1 m.output.length g.2.2.2.2.2.1,iJ m.stop,iO m.code] 98)::(β1,cb [iJ t.cells,.slice A n c] 57)::(g.1,cb (wv m.cells++g.2.2.1) 22)::(g.2.2.2.1++L)) (λg tw=>Le D s2 tw/\(Own 5 1 g.2.2.2.1 (.slice g.2.2.2.2.1 m.output.length g.2.2.2.2.2.1) m.output.length (bv m.output)/\lL tw g.2.2.2.2.2.2.1 vu g.2.2.2.2.2.2.2 m.aa/\m.cells.length+g.2.2.1.length=g.2.1/\g.2.1<=9223372036854775807)) (λ_ _ _ h hl=>⟨h.1.trans hl,by obtain ⟨_,k1,k2,k3⟩:=h;exact ⟨k1,k2.le hl,k3⟩⟩) ?_ ?_
 .refine mh jF 15 Z 0 λs4 h4=>H3 ?_;have e4:=e2.t h4;refine xF 1 4 7 V ?_ ?_ ?_
  .refine X4 ?_;refine xF 2 4 7 V ?_ ?_ ?_
   .refine Jb Z Tt Z Z Z (AC.mid [_,_] [] _ (FH D (wW.le e4) O)) ?_;rintro _ _ s5 h5 ⟨M1,rfl,Ad,c1,rfl,_,_,hO1⟩;refine ⟨(λx h _=>by cases h),?_⟩;obtain ⟨bc,yc,rfl,rfl,hcy,hcy2⟩:=Own.blk_of hO1 hc0;simp only [iU,iV];refine kD 4 7 V ?_ ?_
    .refine X4 ?_;refine kD 5 7 V ?_ ?_;.refine Jb Z Tt Z Z Z (AC.pub (sj D (ta.le (e4.t h5)) O)) ?_;rintro _ _ s6 h6 ⟨rfl,Mi,swi,⟨Ai1,ci1,rfl,_,_,hOi⟩,hswi,hcwi⟩;refine ⟨λ_ _ h=>h,?_⟩;have rC:=Own.bts hOi hcwi;refine X13 ?_;refine iM 8 V<|Jb Z Tt Z Z Z (AC.mid [_,_,_] [] _ (sj D (xR.le (e4.t h5|>.t h6)) O)) ?_;rintro _ _ s7 h7 ⟨Oq9,rfl,Ao1,co1,rfl,_,_,uP⟩;refine ⟨(λx h _=>by cases h),?_⟩;simp only [iU,iV];refine iM 10 V<|Wu Z Tt 0 [_,_,_,_,_,_,_,_,_,_] Y9 (λx hx=>by cases hx)<|H1 ?_;refine iM 12 V<|Wu Z Tt 0 [_,_,_,_,_,_,_,_,_,_] Y9 (λx hx=>by cases hx)<|H1 ?_;refine iM 14 V<|Wu Z Tt 0 [_,_,_,_,_,_,_,_,_,_] Y9 (λx hx=>by cases hx)<|jq V ?_;refine jd (mq.mk (bc,c1,yc,Oq9,Ao1,co1,Ai1,ci1) [] kp Pr ⟨(h4.t h5|>.t h6|>.t h7),⟨uP,rC.le h7,by rw [<- hcy,zW],hcy2⟩⟩)
     refine j5 Z Tt (Wd 0 Y5) Z<|H1 ?_;refine iM 5 V<|Jb Z Tt Z Z Z (AC.pub (sj D (ta.le (e4.t h5)) O)) ?_;exact Hw
    refine j5 Z Tt (Wd 0 Y5) Z<|iM 4 V<|j5 Z Tt (Wd 0 Y5) Z<|H1 ?_;refine iM 5 V<|Jb Z Tt Z Z Z (AC.pub (sj D (ta.le (e4.t h5)) O)) ?_;exact Hw
   .exact UK
   exact UO
  .refine X4 ?_;refine kD 1 7 V ?_ ?_;.exact UK
   exact UR
  refine j5 Z Tt (Wd 0 Y5) Z ?_;refine kD 1 4 V ?_ ?_;.exact UO
  exact UR
 intro g s3 I3;obtain ⟨bc,c1,yc,Oq9,Ao1,co1,Ai1,ci1⟩:=g;obtain ⟨uP,rC,mv,hcc2⟩:=I3.2;dsimp only at uP rC mv hcc2;dsimp only;refine Sr<|iI (jh 0 [_,_,_,_,_,_,_,_,_,_] Y5) Z<|G2 ?_;refine FL (Value.int .u32) Z λbq s8 h8=>iI (jC [(_,_),(_,_),(_,_)] (_::_::_::_::_::_::_::_::_::_::_::(iv (List.replicate 256 0)++[_,_])) Y3 Z Z (by rfl)) Z<|kH Y2 λbm s9 h9=>G7 ?_;refine Wl 3 Y6<|G4 ?_;refine Zp ?_;have e9:=e2.t I3.1|>.t h8|>.t h9;refine lw (γ:=Nat×LInt9×List (Int×Value×Nat)×Nat) (λg=>[(4,_),(5,_),(27,_),(28,_),(29,iJ (g.1:Int))]) (λg=>(bm,cb (.slice (j6 bc) m.cells.length c1::iO m.r0::iO m.r1::iO m.r2::iO m.r3::iO m.r4::.slice Ai1 vu ci1::.slice Ao1 m.output.length co1::iJ m.stop::iO m.code::.slice A n c::(iv g.2.1++[.map (some bq),iO 0])) 179)::(bq,mp (Value.int .u32) g.2.2.1 g.2.2.2)::(β2,cb [.slice (j6 bc) m.cells.length c1,iO m.r0,iO m.r1,iO m.r2,iO m.r3,iO m.r4,.slice Ai1 vu ci1,.slice Ao1 m.output.length co1,iJ m.stop,iO m.code] 98)::(β1,cb [iJ t.cells,.slice A n c] 57)::(bc,cb (wv m.cells++yc) 22)::(Oq9++L)) (λg tw=>Le D s9 tw/\(g.1<=n/\g.2.1.length=256/\(∀ c:Int,0<=c->c < 256->g.2.1[c.toNat]?=some (pY t.U c g.1:Int))/\(∀ c:Int,256<=c->(kS g.2.2.1 c).getD (iJ 0)=iJ (pY t.U c g.1:Int)))) (λg=>n - g.1) (λ_ _ _ h hl=>⟨h.1.trans hl,h.2⟩) (0,List.replicate 256 0,[],0) (.c5 Z Z Z Z Z (.nil _)) Z ⟨Le.refl _,⟨aB _,by simp,λc h1 h2=>by rw [cK,aw O];rfl,λc _=>rfl⟩⟩ ?_;intro g ku I10;obtain ⟨k,sm,es,ck⟩:=g;obtain ⟨kh,nQ,hS,hB⟩:=I10.2;simp only at kh nQ hS hB;dsimp only;refine J6 ?_ ?_<;>intro mN
 .have hk:k < n:=by omega
  obtain ⟨b,off,x,A',n',c',rfl,hx,hcx,hax,kK,jo⟩:=ky.at_ (hA.le (e9.t I10.1)) hk;refine G7 ?_;refine iI (jR Y6 hk) Z<|iI (kq Y3 hcx Z) Z<|jp Z [_,_,_,_] Y2 λβ12 kc jL=>me Y2<|Wt 0 [_,_,_,_] Y9<|J9 ?_ ?_<;>intro oP;.have lm:=oP;refine pm jF 9 Z [1] Q3 λli kz=>H4 ?_;refine za 4 Z (nD Z Z (jB O O)) Z<|H2 ?_;refine za 7 Z (NS Z Z Z Z Z Z jo.1 O) Z<|iM 8 V<|ye Z Tt 1 _ Y5 (qp5 _ _ _ _ _ _ _ _ _ _ _ _ _ nQ O) Z (qsc _ _ _ _ _ _ _ _ _ _ _ _ _ _ O) Z (λx hx=>hx)<|jq V<|Zb<|Zt<|Zr<|ki Y3 (jB O O)<|G2 ?_;refine jd ⟨(k+1,sm.set x.code.toNat ((k:Int)+1),es,ck),[_],kp,Z,⟨(I10.1.t jL|>.t kz),by first|exact ⟨by omega,(Nj hx jo lm nQ hS).1,(Nj hx jo lm nQ hS).2,ZQ hx lm hB⟩|exact ⟨by omega,nQ,Zj hx lm hS,qp4 hx hB⟩⟩,Oz⟩
  have lm:=oP;refine pm jF 9 Z [2] Q3 λli kz=>H3 ?_;refine za 3 Z (rj 1 Y4 (qrt _ _ _ _ _ _ _ _ _ _ _ _ _ nQ)) Z<|H3 ?_;refine za 7 Z (nD Z Z (jB O O)) Z<|iM 8 V<|JT (jU.int .u32) Z Tt 2 (XA default) Z Z Z Z (λx hx=>hx) λrP=>jq V<|Zb<|Zt<|Zr<|ki Y3 (jB O O)<|G2 ?_;refine jd ⟨(k+1,sm,u9 es x.code (iJ ((k:Int)+1)) ck,rP),[_],kp,Z,⟨(I10.1.t jL|>.t kz),by first|exact ⟨by omega,(Nj hx jo lm nQ hS).1,(Nj hx jo lm nQ hS).2,ZQ hx lm hB⟩|exact ⟨by omega,nQ,Zj hx lm hS,qp4 hx hB⟩⟩,Oz⟩
 refine G6 ?_;refine rG 1<|rG 4<|rG 2<|rG 4<|rG 4<|G6 ?_;refine rR [_,_] _ (.t1 Z) Z (e9.t I10.1) λ_ iL=>?_;have yQ:k=n:=by omega
 subst yQ;exact ⟨_::_::_::Oq9,rfl,bm,sm,bq,es,ck,rfl,nQ,hS,hB,bc,c1,yc,Oq9,Ao1,co1,Ai1,vu,ci1,rfl,uP,rC.le (h8.t h9|>.t I10.1|>.t iL),mv,hcc2⟩
end
section
variable{t:l7}
structure MU(m:lj):Prop where
 u0:iY m.r0
 u1:iY m.r1
 u2:iY m.r2
 u3:iY m.r3
 u4:iY m.r4
 code:iY m.code
def Bw:lj:=⟨[],0,0,0,0,0,[],[],0,0⟩
def qJM:MU Bw:=by constructor<;>exact ⟨by decide,by decide⟩
def wQ(s:World)(m:lj)(v:Value):Prop:=∃ A nA cA B nB cB Oq9 nO cO,v=.agg #[.slice A nA cA,iO m.r0,iO m.r1,iO m.r2,iO m.r3,iO m.r4,.slice B nB cB,.slice Oq9 nO cO,iJ m.stop,iO m.code]
 /\ lV s A nA cA m.cells/\lL s B nB cB m.aa/\lL s Oq9 nO cO m.output
def wQ.le(h:wQ s m v)(hl:Le D s s'):wQ s' m v:=by
 obtain ⟨A,nA,cA,B,nB,cB,Oq9,nO,cO,h1,h2,h3,h4⟩:=h;exact ⟨A,nA,cA,B,nB,cB,Oq9,nO,cO,h1,h2.le hl,h3.le hl,h4.le hl⟩
def wQ.zero(s:World):wQ s Bw (.agg #[.slice none 0 0,iO 0,iO 0,iO 0,iO 0,iO 0,.slice none 0 0,.slice none 0 0,iJ 0,iO 0]):=
 ⟨none,0,0,none,0,0,none,0,0,rfl,lV.nil _ _ _ O,lL.nil _ _ _ O,lL.nil _ _ _ O⟩
structure Cn(m:lj):Prop where
 stop:0<=m.stop/\m.stop<=5
 code:m.code≠0->m.stop=1
theorem qBM(t:l7)(m:lj):(tP t m).1=0->(tP t m).2=0:=by grind [tP]
def qHb(hX:ky s A n c t.U)(hA:lV s Ax nx cx m.cells)(hU:MU m)(h:(tP t m).1=0):yB t/\rM m/\Cn m/\(m.cells.length:Int)=t.cells:=by
 unfold tP at h;split at h
 . contradiction
 rename_i h0;simp at h0;have hG:=MA hX h0;split at h
 . exact absurd h Dc
 rename_i h1;split at h
 . exact absurd h Dc
 rename_i h2;split at h
 . exact absurd h Dc
 rename_i h3;split at h
 . exact absurd h Dc
 rename_i h4;have:=hG.cells;refine ⟨hG,⟨by omega,λx hx=>?_,hU.u0,hU.u1,hU.u2,hU.u3,hU.u4,by omega,by omega,hU.code⟩,⟨by omega,λhc=>by omega⟩,by omega⟩;obtain ⟨i,hi⟩:=bC hx;obtain ⟨_,_,_,_,_,_,_,h5⟩:=hA.2.2.2 i x hi;exact h5
def qBL(ht:(oI t).1=0)(hm:rM m)(hs:Cn m)(hl:(m.cells.length:Int)=t.cells):tP t m=(0,0):=by
 have h1:=hm.aa;have h2:=hm.output;have h3:=hs.stop;have h4:=hs.code;unfold tP;rw [am O,am O,am O,am O,am O]
theorem qzr(m:lj)(a:Ac)(op:Int):(kn m a op).cells.length=m.cells.length:=by grind [mS,kn]
def qzs(a:Ac)(op:Int)(h0:m.stop=0)(hc:m.code=0):Cn (kn m a op)/\((kn m a op).stop=0->(kn m a op).code=0):=by
 unfold kn;simp only;repeat' split
 all_goals (refine ⟨⟨?_,?_⟩,?_⟩<;>simp [mS,h0,hc])
def ZG{l:List Ac}(hl:∀ a∈l,An a)(hm:rM m)(h0:m.stop=0)(hc:m.code=0){op:Int}(ho:iY op):
    rM (mL m op l)/\Cn (mL m op l)/\(mL m op l).cells.length=m.cells.length/\((mL m op l).stop=0->(mL m op l).code=0):=by
  induction l generalizing m with
  | nil=>exact ⟨hm,⟨by simp only [mL];omega,λh=>by simp only [mL] at h;contradiction⟩,rfl,λ_=>hc⟩
  | cons a r ih=>
    have h1:=qxv hm (hl a Mc) ho;obtain ⟨h2,h3⟩:=qzs a op h0 hc;have h4:=qzr m a op;simp only [mL];split
    . rename_i hs
      obtain ⟨k1,k2,k3,k4⟩:=ih (λb hb=>hl b (aq _ hb)) h1 hs (h3 hs);exact ⟨k1,k2,by omega,k4⟩
    . exact ⟨h1,h2,h4,h3⟩
def ZS(hG:yB t)(hm:rM m)(h0:m.stop=0)(hc:m.code=0):
    rM (lY t m)/\Cn (lY t m)/\(lY t m).cells.length=m.cells.length/\((lY t m).stop=0->(lY t m).code=0):=by
  have hu:∀ i,iY (m.cells.getD i 0):=λi=>by
    by_cases hl:i < m.cells.length
    . simp only [List.getD,ax hl,eh];exact hm.wide _ (dO hl)
    . simp [List.getD,di (dP hl)];exact ⟨by decide,by decide⟩
  have mY:∀ k:Int,0<=k->k<=5->rM { m with stop:=k }/\Cn { m with stop:=k }/\({ m with stop:=k }:lj).cells.length=m.cells.length/\(({ m with stop:=k }:lj).stop=0->({ m with stop:=k }:lj).code=0):=λk h1 h2=>
    ⟨⟨hm.cells,hm.wide,hm.u0,hm.u1,hm.u2,hm.u3,hm.u4,hm.output,hm.aa,hm.code⟩,⟨⟨h1,h2⟩,λh=>absurd hc h⟩,rfl,λ_=>hc⟩
  have hr4:∀ v:Int,iY v->rM { m with r4:=v }:=λv hv=>⟨hm.cells,hm.wide,hm.u0,hm.u1,hm.u2,hm.u3,hv,hm.output,hm.aa,hm.code⟩;have h4:=hm.u4;have h5:=hm.cells;unfold iY at h4;unfold lY;split
  . exact mY 3 O O
  rename_i oS;split
  . exact mY 2 O O
  rename_i x hx;have oT:∃ i:Nat,t.U[i]?=some x:=bC (cM hx);obtain ⟨i,hi⟩:=oT;have hac:∀ a∈x.ad,An a:=λa ha=>(hG.ad i x a hi ha).1;split
  . split
    . exact mY 3 O O
    . exact ZG hac (hr4 (m.r4+2) ⟨by omega,by omega⟩) h0 hc (hu _)
  . exact ZG hac (hr4 (m.r4+1) ⟨by omega,by omega⟩) h0 hc ⟨by decide,by decide⟩
def xG(t:l7)(m:lj)(k:Int):lj×Int×Int×Int:=
 if (tP t m).1≠0 then (Bw,0,(tP t m).1,(tP t m).2)
 else if k < 0\/50000000 < k then (Bw,0,4,-3)
 else ((oK t m k.toNat).1,((oK t m k.toNat).2:Int),0,0)
def quV{k:Int}(h:(tP t m).1≠0):xG t m k=(Bw,0,(tP t m).1,(tP t m).2):=by unfold xG;rw [aw h]
theorem quW{k:Int}(h:(tP t m).1=0)(hk:k < 0\/50000000 < k):xG t m k=(Bw,0,4,-3):=by grind [xG]
theorem qrX{k:Int}(h:(tP t m).1=0)(hk:¬ (k < 0\/50000000 < k)):xG t m k=((oK t m k.toNat).1,((oK t m k.toNat).2:Int),0,0):=by grind [xG]
def qBu{mk:lj}{K:Nat}(h:oK t m K=((oK t mk (K - j)).1,j+(oK t mk (K - j)).2))(hj:j < K)(h0:mk.stop=0):
  oK t m K=((oK t (lY t mk) (K - (j+1))).1,(j+1)+(oK t (lY t mk) (K - (j+1))).2):=by
 rw [h];obtain ⟨d,hd⟩:∃ d,K - j=d+1:=⟨K - j - 1,by omega⟩;rw [hd,show K - (j+1)=d by omega];simp only [oK,h0,bS,fw,iG];omega
def qBs{mk:lj}{K:Nat}(h:oK t m K=((oK t mk (K - j)).1,j+(oK t mk (K - j)).2))(he:¬ j < K\/¬ mk.stop=0):oK t m K=(mk,j):=by
 rw [h];cases hd:K - j with
 | zero=>simp [oK]
 | succ d=>
  rcases he with he|he
  . omega
  . simp [oK,he]
attribute [local irreducible] JC JO JA JB lZ mF mM AC fill iH QE Ev mq
def qsC(hp:iH s bc 0 (wv l++yc))(hu:∀ x∈l,iY x)(h1:l.length+yc.length=cc)(h2:cc<=9223372036854775807):lV s (j6 bc) l.length cc l:=
 Own.wds (e:=0) (A:=[(bc,cb (wv l++yc) 0)]) (.blk bc cc l.length (wv l) yc (by simp [wv]) (by rw [zW];omega) O h2) hu (λb zs t hm=>by
  simp only [aV,fw,cb,Obj.cells.injEq] at hm;obtain ⟨rfl,h,rfl,_⟩:=hm;have e:zs=wv l++yc:=by simpa using h
  rw [e];exact hp)
def uT:iY 0:=⟨by decide,by decide⟩
def qx5(h:Cn m)(h0:m.stop=0):m.code=0:=by
 by_cases hc:m.code=0
 . exact hc
 . have:=h.code hc;omega
def O5{p:Prop} (h:p:=by
 refine ⟨[_,_,_],Z,λs2 h2 hp=>?_⟩;rw [quW sd oS];exact ⟨_,wQ.zero _,rfl⟩):p:=h
def O6{p:Prop} (h:p:=by
 refine ⟨_::_::_::O1,Z,λs2 h2 hp=>?_⟩;rw [qrX sd rV,qBs jO hend];exact ⟨_,⟨_,_,_,_,_,_,_,_,_,rfl,qsC (hp _ _ _ (aq _ Mc)) hok1.wide hcc1 hcc21,hB9.le Lc,Own.bts hO1 hp.tail.tail.tail⟩,rfl⟩):p:=h
def If{p:Prop} (h:p:=by
 refine Wt 2 [_,_,_,_,_,_,_,_,_,_] Y9<|me Y2<|Wt 1 [_,_] Y9<|G4 ?_;exact rR [_,_] _ (.agg (us:=[_,_,_,_,_,_,_,_,_,_]) 2 Z Z Z Z Z (.tmp Z (.agg (us:=[_,_]) 1 Z Z Z Z Z (.nil)))) Z Lc λ_ iL=>O5):p:=h
def HV{p:Prop} (h:p:=by
 simp only [iU,iV];refine jY Y2<|iI (jC [] [_,_] Y3 Z Z Z) Z<|Wt 2 [_,_,_,_,_,_,_,_,_,_] Y9<|me Y2<|Wt 1 [_,_] Y9<|G3 ?_;exact rR [_,_,_,_,_] _ (.agg (us:=[_,_,_,_,_,_,_,_,_,_]) 2 Z Z Z Z Z (.tmp Z (.agg (us:=[_,_]) 1 Z Z Z Z Z (.nil)))) Z Lc λ_ iL=>O6):p:=h
def qBp(L:Hl)(s:World)(t:l7)(A:OAdr9)(n c:Nat)(hA:ky s A n c t.U)(m:lj)(Ax Bx Ox:OAdr9)(zO zC vu zD zP zE:Nat)(wW:lV s Ax zO zC m.cells)(ta:lL s Bx vu zD m.aa)(xR:lL s Ox zP zE m.output)(hU:MU m)(k:Int):AN9 D 37 [.agg #[iJ t.cells,.slice A n c],.agg #[.slice Ax zO zC,iO m.r0,iO m.r1,iO m.r2,iO m.r3,iO m.r4,.slice Bx vu zD,.slice Ox zP zE,iJ m.stop,iO m.code],iJ k] L s λv M' s'=>∀ s2,Le D s' s2->mz M' s2->∃ vs,wQ s2 (xG t m k).1 vs/\v=.tuple #[vs,iJ (xG t m k).2.1,.agg #[iJ (xG t m k).2.2.1,iJ (xG t m k).2.2.2]]:=by
 have hF:=qBM t m;refine jv (fn:=Tryz.f37) jl Tryz.func37 V Z Tryz.ntmps37 Z (rs:=[.cell 6 98,.tmp 7,.cell 8 24]) Z [(0,_),(1,_),(2,_)] Z<|Sr<|kH Y2 λβ1 s1 h1=>kH Y2 λβ2 s2 h2=>jp Z [_,_,_,_,_,_,_,_,_,_] Y2 λβ3 s3 h3=>me Y2<|jp Z [_,_] Y2 λβ4 s4 h4=>Nt<|Zs<|Sr<|iI (jh 3 [_,_] Y5) Z<|iI (jh 2 [_,_,_,_,_,_,_,_,_,_] Y5) Z<|Je Y3 (qxc _ Pz Pz Pz Pz) λs5 h5=>jp Z [_,_] Y2 λβ6 s6 h6=>Wt 0 [_,_] Y9<|Nt<|Sr<|iI (jh 0 [_,_] Y5) Z<|iI (jC [] [_,_] Y3 Z Z Z) Z<|iI (sL Z Z (rq)) Z<|G2 ?_;refine lD Z ?_ ?_<;>intro c7;.have rb:(tP t m).1≠0:=λh=>c7 ⟨h,hF h⟩;refine Zs<|pm jF 5 Z [2,1] Q3 λs8 h8=>za 0 Z (jC [] [_,_,_,_,_,_,_,_,_,_] Y3 Z Z Z) Z<|za 1 Z (jh 0 [_,_] Y5) Z<|iM 2 V<|Wu Z Tt 2 [_,_,_,_,_,_,_,_,_,_] Y9 (sM (mT (lq (kX (jT)))))<|H1 ?_;refine iM 4 V<|Wu Z Tt 1 [_,_] Y9 (sM (mT (lq (kX (jT)))))<|jq V<|G3 ?_;refine rR [_,_] _ (.agg (us:=[_,_,_,_,_,_,_,_,_,_]) 2 Z Z Z Z Z (.tmp Z (.agg (us:=[_,_]) 1 Z Z Z Z Z (.nil)))) Z Lc λ_ iL=>?_;refine ⟨[_,_,_],Z,λs2 h2 hp=>?_⟩;rw [quV rb];exact ⟨_,wQ.zero _,rfl⟩
 have sd:(tP t m).1=0:=c7.1;obtain ⟨hG,l9,hsok,iQ⟩:=qHb hA wW hU sd;refine G8 ?_;refine kT (t:=22) Z ?_ ?_<;>intro c8
 .refine G6 ?_;have oS:k < 0\/50000000 < k:=by omega
  refine Sr<|iI (jC [] [_,_,_,_,_,_,_,_,_,_] Y3 Z Z Z) Z<|Je Y3 (vx D _) λs9 h9=>?_;exact If
 refine J7 ?_ ?_<;>intro c9
 .have oS:k < 0\/50000000 < k:=by omega
  refine Sr<|iI (jC [] [_,_,_,_,_,_,_,_,_,_] Y3 Z Z Z) Z<|Je Y3 (vx D _) λku jN=>?_;exact If
 have rV:¬ (k < 0\/50000000 < k):=by omega
 refine Zk<|Zt<|Sr<|iI (jh 4 [_,_] Y5) Z<|iI (jh 3 [_,_,_,_,_,_,_,_,_,_] Y5) Z<|Jc Y3 (AC.mid [_,_,_,_,_] [] _ (qBa D Pz Pz Pz Pz l9 (by have:=hG.cells;omega))) ?_;rintro _ _ ku jN ⟨M1,rfl,bm,sm,bq,es,ck,rfl,nQ,hS,hB,bc,cc,yc,Oq9,Ao,co,Ai,ni,ci,rfl,hO,hI,mv,hcc2⟩;simp only [iU,iV];refine lF ?_;refine Cz [_,_,_,_,_] (γ:=Nat×lj×Int×Hl) (λg=>[(2,_),(6,_),(7,_),(8,_),(10,_),(11,iJ (g.1:Int))]) (λg=>g.2.2.2++L) (λg tw=>Le D ku tw/\(g.1<=k.toNat/\DB bm (.slice A n c) sm bq es ck g.2.2.1 g.2.1 g.2.2.2 tw/\rM g.2.1/\Cn g.2.1/\iY g.2.2.1/\oK t m k.toNat=((oK t g.2.1 (k.toNat - g.1)).1,g.1+(oK t g.2.1 (k.toNat - g.1)).2))) (λg=>k.toNat - g.1) (λ_ _ _ h hl=>⟨h.1.trans hl,by obtain ⟨_,k1,⟨bc,cc,yc,Oq9,Ao,co,Ai,ni,ci,k2,k3,k4,k5⟩,k6⟩:=h;exact ⟨k1,⟨bc,cc,yc,Oq9,Ao,co,Ai,ni,ci,k2,k3,k4.le hl,k5⟩,k6⟩⟩) (0,m,0,_::_::_::Oq9) (.c6 Z Z Z Z Z Z (.nil _)) Z ⟨Le.refl _,⟨aB _,⟨bc,cc,yc,Oq9,Ao,co,Ai,ni,ci,Z,hO,hI.le (Lr D),mv,hcc2⟩,l9,hsok,uT,by simp⟩⟩ ?_;intro g kv I11;simp only [iU,iV];obtain ⟨j,mk,opk,Mk⟩:=g;obtain ⟨oA,⟨bc1,cc1,yc1,O1,Ao1,co1,Ai1,ni1,ci1,wZ,hO1,hI1,hcc1,hcc21⟩,hok1,hsok1,hop1,jO⟩:=I11.2;simp only at oA wZ hO1 hI1 hcc1 hok1 hop1 jO hsok1;subst wZ;simp only [ao];refine G7 ?_;refine kT (t:=34) Z ?_ ?_<;>intro nU
 .refine G9 ?_;refine Wl 5 Y6<|J5 ?_ ?_<;>intro oP
  .have pJ:mk.stop=0:=oP;have hj1:j < k.toNat:=by omega
   refine G6 ?_;refine Jc Y3 (AC.mid [_,_,_,_,_] (_::_::_::O1) L (qBN D bm sm nQ bq es ck opk mk ⟨bc1,cc1,yc1,O1,Ao1,co1,Ai1,ni1,ci1,Z,hO1,hI1.le (Lr D),hcc1,hcc21⟩ t Pz hG hok1 hop1 pJ hS hB)) ?_;rintro _ _ li kz ⟨M2,rfl,rfl,op2,hop2,bc2,cc2,yc2,O2,Ao2,co2,Ai2,ni2,ci2,rfl,hO2,wY,hcc22,hcc23⟩;simp only [iU,iV];refine G4 ?_;refine ki Y3 (jB O O)<|G3 ?_;refine jd ⟨(j+1,lY t mk,op2,_::_::_::O2),[],kp,Z,⟨Lc,⟨hj1,⟨bc2,cc2,yc2,O2,Ao2,co2,Ai2,ni2,ci2,Z,hO2,wY.le (Lr D),hcc22,hcc23⟩,(ZS hG hok1 pJ (qx5 hsok1 pJ)).1,(ZS hG hok1 pJ (qx5 hsok1 pJ)).2.1,hop2,qBu jO hj1 pJ⟩⟩,Oz⟩
  have hend:¬ j < k.toNat\/¬ mk.stop=0:=by first|exact .inr oP|exact .inl O
  refine G8 ?_;refine Jc Y3 (AC.mid [_,_,_,_,_] [_] _ (Z5 D nQ Pz (by have:=hI1.1;have:=hok1.aa;omega))) ?_;rintro _ _ li kz ⟨_,rfl,rfl,Ad,c9,rfl,hB9⟩;exact HV
 refine lF ?_;have hend:¬ j < k.toNat\/¬ mk.stop=0:=by first|exact .inr trivial|exact .inl O
 refine G8 ?_;refine Jc Y3 (AC.mid [_,_,_,_,_] [_] _ (Z5 D nQ Pz (by have:=hI1.1;have:=hok1.aa;omega))) ?_;rintro _ _ kY kN ⟨_,rfl,rfl,Ad,c9,rfl,hB9⟩;exact HV
end
inductive kI{α β:Type}(R:α->β->Prop):List α->List β->Prop
 | nil:kI R [] []
 | cons {a:α} {b:β} {l:List α} {m:List β} (h:R a b) (k:kI R l m):kI R (a::l) (b::m)
def qyi{α:Type}{sz:Nat}{R:World->α->LVal9->Prop}{b:Nat}{l:List α}(h:kI (λx cs=>cs.length=sz/\R s x cs) l css) :
  ∀ off,iH s b off css.flatten->∀ i x,l[i]?=some x->∃ cs,iH s b (off+i * sz) cs/\cs.length=sz/\R s x cs:=by
 induction h with
 | nil=>intro off _ i x hi;cases hi
 | @cons a c l m h k ih=>
  intro off hc i x hi;have h1:iH s b off c:=λj v hj=>hc j v (by rw [bt,aR (al.1 hj).1];exact hj);have h2:iH s b (off+sz) m.flatten:=λj v hj=>by
   have:=hc (sz+j) v (by rw [bt,aY O,h.1];simpa using hj)
   rwa [<- dV] at this
  cases i with
  | zero=>simp at hi;subst hi;exact ⟨c,by simpa using h1,h.1,h.2⟩
  | succ i=>
   obtain ⟨cs,k1,k2⟩:=ih (off+sz) h2 i x (by simpa using hi);exact ⟨cs,by rw [gO];rwa [show off+sz+i * sz=off+(i * sz+sz) by omega] at k1,k2⟩
def Sl.lit{α:Type}{sz:Nat}{R:World->α->LVal9->Prop}{b:Nat}{l:List α}(css:List LVal9)(hc:iH s b 0 zs)(hz:css.flatten=zs)(h:kI (λx cs=>cs.length=sz/\R s x cs) l css)(n:Nat)(hn:n=l.length)(hm:n<=9223372036854775807):Sl sz R s (j6 b) n n l:=
 ⟨hn,aC _,hm,λi x hi=>by
  obtain ⟨cs,h1,h2⟩:=qyi h 0 (hz▸hc) i x hi;exact ⟨b,0,cs,rfl,h1,h2⟩⟩
def qzS{b:Nat}{l:List UInt8}(hp:iH s b 0 (bv l++yc))(h1:l.length+yc.length=cc)(h2:cc<=9223372036854775807):lL s (j6 b) l.length cc l:=
 Own.bts (e:=0) (A:=[(b,cb (bv l++yc) 0)]) (.blk b cc l.length (bv l) yc (by simp [bv]) (by rw [qFv];omega) O h2) (λb zs t hm=>by
  simp only [aV,fw,cb,Obj.cells.injEq] at hm;obtain ⟨rfl,h,rfl,_⟩:=hm;have e:zs=bv l++yc:=by simpa using h
  rw [e];exact hp)
def tO{TT:kG}{fr:Fr}{c:Code}(X A:Hl)(h:∀ s',Le D s s'->mz A s'->JC P TT D n Q c fr (X++Y) s'):JC P TT D n Q c fr (X++(A++Y)) s:=λht a hr ho=>by
 have hp:(X++(A++Y)).Perm (A++(X++Y)):=by
  exact Ou
 rw [tr hp _ ho];have mR:=ho.perm hp;obtain ⟨e,d1,d2⟩:=sK mR;rw [e];refine h _ d2 (λb zs t hm j u hj=>?_) ht a hr d1;rw [BO mR.left hm,aZ];exact hj
section
def kI.mono{α β:Type}{R R':α->β->Prop}{l:List α}{m:List β}(h:kI R l m)(hr:∀ a b,R a b->R' a b):kI R' l m:=by
 induction h with
 | nil=>exact .nil
 | cons h _ ih=>exact .cons (hr _ _ h) ih
def kI.snoc{α β:Type}{R:α->β->Prop}{l:List α}{m:List β}{a:α}{b:β}(h:kI R l m)(k:R a b):kI R (l++[a]) (m++[b]):=by
 induction h with
 | nil=>exact .cons k .nil
 | cons h _ ih=>exact .cons h ih
def Own.rows{α:Type}{sz:Nat}{A:Hl}{l:List α}{R:World->α->LVal9->Prop}(h:Own e sz A (.slice Ad n c) n css.flatten)(hp:mz A s)(ha:kI (λx cs=>cs.length=sz/\R s x cs) l css)(hn:n=l.length):Sl sz R s Ad n c l:=by
 generalize hv:Value.slice Ad n c=v at h;generalize hx:css.flatten=xs at h;cases h with
 | nil=>
  injection hv with e1 e2 e3;subst e1;subst e3;have:l=[]:=aG hn.symm;subst this;exact ⟨rfl,aC _,by omega,λi x h=>by cases h⟩
 | blk b cap n xs ys h1 h2 h3 h4=>
  injection hv with e1 e2 e3;subst e1;subst e3;subst hx;have hc:iH s b 0 css.flatten:=λj v hj=>hp b _ e Mc j v Q28;exact ⟨hn,h3,h4,λi x hi=>by
   obtain ⟨cs,k1,k2⟩:=qyi ha 0 hc i x hi;exact ⟨b,0,cs,rfl,k1,k2⟩⟩
def iW(s:World)(A:OAdr9)(n c:Nat)(l:List (List UInt8)):Prop:=Sl 1 (λ_ x cs=>cs=[St x]/\x.length<=9223372036854775807) s A n c l
def iW.le{l:List (List UInt8)}(h:iW s A n c l)(hl:Le D s s'):iW s' A n c l:=Sl.le (λ_ _ h=>h) h hl
def iW.at_{l:List (List UInt8)}(h:iW s A n c l)(hk:k < n):∃ b off x,A=some ⟨b,off,none⟩/\l[k]?=some x/\iH s b (off+k) [St x]/\x.length<=9223372036854775807:=by
 exact Ir
end
section
variable{TT:kG}{fr:Fr}
def nM{γ:Type}(D:Nat)(s:World)(fr:Fr)(X:Hl)(H:γ->Hl)(I:γ->World->Prop):Fr->Hl->World->Prop:=λjS L' s'=>∃ g A,Le D s s'/\L'.Perm (A++(X++H g))/\I g s'/\je jS fr
def nM.mk{γ:Type}{H:γ->Hl}{I:γ->World->Prop}(g:γ)(A:Hl)(hl:Le D s s')(hK:je jS fr)(hp:L'.Perm (A++(X++H g)))(hI:I g s'):nM D s fr X H I jS L' s':=⟨g,A,hl,hp,hI,hK⟩
def SI{γ:Type}{x y:Code}(X:Hl)(_hX:L=X++Y)(H:γ->Hl)(I:γ->World->Prop)(mono:∀ g s s',I g s->Le D s s'->I g s')(h1:JC P TT D n (lZ (nM D s fr X H I) Q) x fr L s)
  (h2:∀ g s',Le D s s'->I g s'->JC P TT D n Q y fr (X++H g) s'):JC P TT D n Q (.seq x y) fr L s:=λht a hr ho=>
 iF (eU (h1 ht a hr ho) λe a w ⟨jS,L',s',k1,k2,k3,k4⟩=>by
  cases e with
  | normal=>
   exact QT
  | _=>exact ⟨jS,L',s',k1,k2,k3,k4⟩)
end
section
variable{l:List Ac}
def qAq{sz:Nat}(hl:∀ cs∈css,cs.length=sz){j:Nat}{u:Value}(h:css.flatten[j]?=some u):∃ i cs r,css[i]?=some cs/\cs[r]?=some u/\j=i * sz+r:=by
  induction css generalizing j with
  | nil=>cases h
  | cons c m ih=>
    have hc:=hl c Mc;rw [bt] at h;by_cases hj:j < c.length
    . rw [aR hj] at h
      exact ⟨0,c,j,rfl,h,by omega⟩
    . rw [aY O] at h
      obtain ⟨i,cs,r,h1,h2,h3⟩:=ih (λx hx=>hl x (aq _ hx)) h;exact ⟨i+1,cs,r,by simpa using h1,h2,by rw [gO];omega⟩
def BJ(l:List Ac):LVal9:=(l.map Ac.cs).flatten
def qzv(l m:List Ac):BJ (l++m)=BJ l++BJ m:=by simp [BJ]
def qzw(l:List Ac):(BJ l).length=l.length * 6:=by
 induction l with
 | nil=>rfl
 | cons a r ih=>simp only [BJ,aS,bt,ac,au] at ih ⊢;rw [ih];simp only [Ac.cs,au,ap];omega
def pH.row(h:pH s A n c l):Row s A n 6 (BJ l):=by
  refine ⟨by rw [qzw,h.1],λu hu=>?_,λj u hj=>?_⟩
  . obtain ⟨cs,h1,h2⟩:=List.mem_flatten.1 hu
    obtain ⟨a,_,rfl⟩:=bh.1 h1;simp only [Ac.cs,aW,eQ,ea] at h2;rcases h2 with rfl|rfl|rfl|rfl|rfl|rfl<;>rfl
  . obtain ⟨i,cs,r,h1,h2,h3⟩:=qAq (sz:=6) (λcs tg=>by obtain ⟨a,_,rfl⟩:=bh.1 tg;rfl) hj
    rw [db] at h1;cases ha:l[i]? with
    | none=>simp [ha] at h1
    | some a=>
      simp [ha] at h1;subst h1;obtain ⟨b,off,cs,k1,k2,_,k3,_⟩:=h.2.2.2 i a ha;subst k3;refine ⟨b,off,k1,?_⟩;have:=k2 r u h2
      rwa [dV,<- h3] at this
def Own.acs{A:Hl}(h:Own e 6 A (.slice Ad n c) n (BJ l))(hu:∀ a∈l,iY a.x.val/\iY a.y.val)(hp:mz A s)(hn:n=l.length):pH s Ad n c l:=by
 refine Own.rows (css:=l.map Ac.cs) h hp ?_ hn;clear h hn;induction l with
 | nil=>exact .nil
 | cons a r ih=>exact .cons ⟨rfl,rfl,hu a Mc⟩ (ih λb hb=>hu b (aq _ hb))
def pH.u(h:pH s A n c l):∀ a∈l,iY a.x.val/\iY a.y.val:=λa ha=>by
 obtain ⟨i,hi⟩:=bC ha;obtain ⟨_,_,_,_,_,_,_,h5⟩:=h.2.2.2 i a hi;exact h5
def Cq(s:World)(A:OAdr9)(n c:Nat)(l:List Tm):Prop:=Sl 2 (λ_ x cs=>cs=[iJ x.kind,iO x.val]/\iY x.val) s A n c l
def Cq.le{l:List Tm}(h:Cq s A n c l)(hl:Le D s s'):Cq s' A n c l:=Sl.le (λ_ _ h=>h) h hl
def Cq.at_{l:List Tm}(h:Cq s A n c l)(hk:k < n):∃ b off x,A=some ⟨b,off,none⟩/\l[k]?=some x/\iH s b (off+k * 2) [iJ x.kind,iO x.val]/\iY x.val:=by
 have hl:k < l.length:=by rw [<- h.1];exact hk
 obtain ⟨b,off,cs,h1,h2,_,rfl,h4⟩:=h.2.2.2 k l[k] (ax hl);exact ⟨b,off,l[k],h1,ax hl,h2,h4⟩
def UA:Cq s none 0 0 []:=⟨rfl,aC _,by omega,λi x h=>by cases h⟩
end
section
variable{a:Act}{t b:Nat}{args:LVal9}{R R':Value->Hl->World->Prop}
def JL(P:Program)(TT:kG)(D n:Nat)(ops:Array Oper)(Q:Exit->Act->World->Prop)(i:Nat)(d:Option Nat)(fr:Fr)(L:Hl)(s:World)(R:Value->Hl->World->Prop):Prop:=
 jZ P TT->∀ a,jE n a fr->jX D L s->wpOp P ops Q i (λa' w'=>∃ v L' s',a'=a.put d v/\w'=fill L' s'/\jX D L' s'/\Le D s s'/\R v L' s') a (fill L s)
def JE(P:Program)(TT:kG)(D n:Nat)(ops:Array Oper)(Q:Exit->Act->World->Prop)(i d:Nat)(fr:Fr)(L:Hl)(s:World)(R:Value->World->Prop):Prop:=
 JL P TT D n ops Q i (some d) fr L s λv L' s'=>L'=L/\R v s'
section
variable{TT:kG}{ops:Array Oper}{Q':Exit->Act->World->Prop}{fr:Fr}{op:Op}{i:Nat}{R:Value->World->Prop}
def WB{R:Value->Hl->World->Prop}(hi:ops[i]?=some ⟨some d,op,ty,iS,af,none⟩)(h:Ev P TT D fr op ty L s (.value v) L' s')(ka:Le D s s')(hR:R v L' s'):JL P TT D n ops Q' i (some d) fr L s R:=λht a hf ho=>by
 obtain ⟨h1,h2⟩:=h ht ho (some d) iS af none a.eval (λx v hx=>hf.ev hx);simp only [wpOp,hi,Region.wanted,bS];refine .inl ?_;simp only [Oper.wp,h1,Oper.upon];exact ⟨v,L',s',rfl,rfl,h2,ka,hR⟩
def qIg{R:Value->Hl->World->Prop}(hi:ops[i]?=some ⟨none,op,ty,iS,af,none⟩)(h:Ev P TT D fr op ty L s .skip L' s')(ka:Le D s s')(hR:∀ v,R v L' s'):JL P TT D n ops Q' i none fr L s R:=λht a hf ho=>by
 obtain ⟨h1,h2⟩:=h ht ho none iS af none a.eval (λx v hx=>hf.ev hx);simp only [wpOp,hi,Region.wanted,bS];refine .inl ?_;simp only [Oper.wp,h1,Oper.upon];exact ⟨undef,L',s',rfl,rfl,h2,ka,hR _⟩
def WA(hi:ops[i]?=some ⟨some d,op,ty,iS,af,none⟩)(h:Ev P TT D fr op ty L s (.value v) L s')(ka:Le D s s')(hR:R v s'):JE P TT D n ops Q' i d fr L s R:=WB hi h ka ⟨rfl,hR⟩
def DJ(hi:ops[i]?=some ⟨some d,op,ty,iS,af,none⟩)(h:QE P TT D fr op ty L s v)(hR:R v s):JE P TT D n ops Q' i d fr L s R:=
 WA hi (λht ho dst iS af g ρ hρ=>⟨h ht dst iS af g ρ hρ L s ho (Le.refl _) (λ_ hx=>hx),ho⟩) (Le.refl _) hR
def SJ{f:FuncId}{xs:List Operand}{first captured:LVal9}{R0 R:Value->Hl->World->Prop}(hi:ops[i]?=some ⟨some d,.call { callee:=.value x,args:=xs.toArray,argTypes:=ts },ty,iS,af,none⟩)
  (hx:lk fr x=some (.func (.func f) first.toArray captured.toArray)) (hv:tN fr xs=some vs) (h:AC P D f (first++vs++captured) L s R0)
  (k:∀ v L' s',Le D s s'->R0 v L' s'->R v L' s'):JL P TT D n ops Q' i (some d) fr L s R:=λhT a hf ho=>by
 obtain ⟨⟨fn,h1,h2,h3⟩,hc⟩:=h;have hρ:∀ x v,lk fr x=some v->a.eval x=v:=λx v hx=>hf.ev hx;simp only [wpOp,hi,Region.wanted,bS];refine .inl ?_;have jO:(execOp a.eval ⟨some d,.call { callee:=.value x,args:=xs.toArray,argTypes:=ts },ty,iS,af,none⟩).run P (fill L s)=.ok (.enter f (first++vs++captured).toArray) (fill L s):=by
  exact E7
 simp only [Oper.wp,jO,Oper.upon];refine (hc ho).mono ?_;rintro e w' ⟨v,L',s',rfl,rfl,h4,h5,h6⟩;exact ⟨v,L',s',rfl,rfl,h4,h5,k v L' s' h5 h6⟩
def NO{f:FuncId}{xs:List Operand}{first captured:LVal9}{R0:Value->Hl->World->Prop}(hi:ops[i]?=some ⟨some d,.call { callee:=.value x,args:=xs.toArray,argTypes:=ts },ty,iS,af,none⟩)
  (hx:lk fr x=some (.func (.func f) first.toArray captured.toArray)) (hv:tN fr xs=some vs) (h:AC P D f (first++vs++captured) L s R0)
  (k:∀ v L' s',Le D s s'->R0 v L' s'->L'=L/\R v s'):JE P TT D n ops Q' i d fr L s R:=SJ hi hx hv h k
def Gr{t len:Nat}(hi:ops[i]?=some ⟨some d,.buildSlice t len ps.toArray,ty,iS,af,none⟩)(lx:List (Nat×Value))(vs:LVal9)(ht:jH TT t=some ti)(hk:ti.kind=.sl e)(he:jH TT e=some te)(hv:Be fr ps=some lx)(jA:Nat.ble (len * te.size) 16777216=true)(mC:Nat.blt 0 len=true)(hp:lx.all (λx=>Nat.blt x.1 len)=true)
  (hb:xM (zp te.size 0 len) (List.replicate len te.J).flatten lx=some vs) (k:∀ β s',Le D s s'->iH s' β 0 vs->R (.slice (j6 β) len len) s'):JE P TT D n ops Q' i d fr L s R:=λhT a hr ho=>by
 obtain ⟨h1,h2,h3⟩:=pU ho (cb vs e);obtain ⟨d1,d2,d3⟩:=sK (A:=[(s.heap.size,cb vs e)]) (B:=L) h2;refine WA (s':=fill [(s.heap.size,cb vs e)] (s.alloc (mA D))) hi (λhT _ dst iS af g ρ hρ=>⟨?_,d2⟩) (h3.trans d3) (k _ _ (h3.trans d3) (Js h2)) hT a hr ho;exact Ov
def qIh{t b:Nat}{R:Value->Hl->World->Prop}(rf:ops[i0]?=some ⟨none,.store t x y,ty,iS,af,none⟩)(i:Nat)(qX:LVal9)(hx:lk fr x=some (.pointer (some ⟨b,off,none⟩)))(hy:lk fr y=some v)(hi:L[i]?=some (b,cb zs t'))(ht:jH TT t=some ti)
  (hl:(mZ v).length=ti.size) (ka:Nat.ble (off+ti.size) zs.length=true) (h1:(mZ v).all (·.oneCell')=true) (hs:oO zs off (mZ v)=qX) (hL:lO L i (cb qX t')=L') (hR:∀ v,R v L' s):JL P TT D n ops Q' i0 none fr L s R:=by
 subst hL;exact qIg rf (On i qX hx hy hi ht hl ka h1 hs) (Le.refl _) hR
end
def OD(l:List Oper)(i j:Nat):Bool:=match l[i]? with
 | some o=>o.after.any λe=>Region.binds .any e && e.on == j
 | none=>false
def Qb(l:List Oper)(ds:List Nat)(m:Nat):Bool:=(List.range m).all λi=>(match l[i]? with|some o=>o.dst == ds[i]? && o.guard.isNone|none=>false)
def qJJ(l:List Oper):Bool:=(List.range l.length).all λi=>(match l[i]? with|some o=>o.after.all λe=>!Region.binds .any e || decide (e.on < i)|none=>true)
def qFP(l:List Oper)(m:Nat):Bool:=(List.range m).all λj=>(List.range (m+1)).any λi=>decide (j < i) && OD l i j
def Qa(l:List Oper)(dp:List (List Nat))(m:Nat):Bool:=(List.range m).all λi=>(dp.getD i []).all λj=>decide (j < m) && OD l i j
def qF7(fr:Fr)(ds:List Nat)(n:Nat):Bool:=ds.all λd=>(kO fr d).isNone && Nat.blt d n
def El(Φ:Nat->Value->World->Prop)(ds:List Nat)(s:World)(K:Fr->Prop):List Nat->Fr->Prop
 | [],fr=>K fr
 | j::r,fr=>∀ u,Φ j u s->El Φ ds s K r ((ds.getD j 0,u)::fr)
inductive wM where
 | eq (v:Value)
 | row (len:Nat) (vs:LVal9)
 | of (P:Value->World->Prop) (h:∀ D v s s',P v s->Le D s s'->P v s')
def wM.holds:wM->Value->World->Prop
 | .eq u,v,_=>v=u
 | .row len vs,v,s=>∃ b,v=.slice (j6 b) len len/\iH s b 0 vs
 | .of P _,v,s=>P v s
def wM.le(fs:List wM)(i:Nat)(v:Value)(s s':World)(h:(fs.getD i (.eq undef)).holds v s)(hl:Le D s s'):(fs.getD i (.eq undef)).holds v s':=by
 generalize fs.getD i (.eq undef)=f at h ⊢;cases f with
 | eq u=>exact h
 | row len vs=>obtain ⟨b,h1,h2⟩:=h;exact ⟨b,h1,h2.le hl⟩
 | of P h2=>exact h2 _ _ _ _ h hl
def rK(p:Nat->Prop):Nat->Prop
 | 0=>True
 | m+1=>rK p m/\p m
def rK.get{p:Nat->Prop}{m:Nat}(h:rK p m):∀ i,i < m->p i:=by
 induction m with
 | zero=>intro i hi;omega
 | succ m ih=>
  intro i hi;rcases gD.1 hi with h1|rfl
  . exact ih h.1 i h1
  . exact h.2
def qoe{ops:Array Oper}{Q:Exit->Act->World->Prop}{a:Act}{K K':Act->World->Prop}(h:∀ a w,K a w->K' a w)
    (hh:if Region.wanted o (yielded ops a.tmps) then o.wp P a w K Q\/(o.asks P a w/\LetsOut Q) else K (a.put o.dst undef) w):if Region.wanted o (yielded ops a.tmps) then o.wp P a w K' Q\/(o.asks P a w/\LetsOut Q) else K' (a.put o.dst undef) w:=by
  by_cases hw:Region.wanted o (yielded ops a.tmps)=true
  . simp only [hw,bS] at hh ⊢
    exact hh.imp (Oper.wp_mono h) id
  . simp only [hw] at hh ⊢
    exact h _ _ hh
section
variable{TT:kG}{fr:Fr}
def jE.more(hr:jE n a fr){u:Value}(h1:d < n)(h2:a.tmps[d]?=some u):jE n a ((d,u)::fr):=by
  refine ⟨hr.size,hr.defers,λt ht v hv=>?_,λt v hv=>?_⟩
  . rw [vz] at hv
    split at hv
    . rename_i he;subst he;simp at hv;subst hv;exact h2
    . exact hr.slot t ht v hv
  . rw [vz] at hv
    split at hv
    . rename_i he;subst he;exact h1
    . exact hr.ai t v hv
def El.apply{Φ:Nat->Value->World->Prop}{K:Fr->Prop}(hr:jE n a fr)(h:El Φ ds s K js fr)(hj:∀ j∈js,ds.getD j 0 < n/\∃ v,a.tmps[ds.getD j 0]?=some v/\Φ j v s):∃ jS,jE n a jS/\K jS:=by
 induction js generalizing fr with
 | nil=>exact ⟨fr,hr,h⟩
 | cons j r ih=>
  obtain ⟨h1,v,h2,h3⟩:=hj j Mc;exact ih (hr.more h1 h2) (h v h3) λx hx=>hj x (aq _ hx)
def ZC{l:List Oper}{i:Nat}(h:OD l i j=true):∃ o,l[i]?=some o/\∃ e∈o.after,Region.binds .any e=true/\e.on=j:=by
  unfold OD at h;split at h
  . rename_i o ho
    rw [Array.any_eq_true] at h;obtain ⟨k,hk,h1⟩:=h;simp only [aA,fl] at h1;exact ⟨o,ho,o.after[k],Array.getElem_mem hk,h1.1,h1.2⟩
  . cases h
def jE.putF(h:jE n a fr){d:Option Nat}(hd:∀ x,d=some x->x < n/\kO fr x=none):jE n (a.put d v) fr:=by
 cases d with
 | none=>exact h
 | some d=>
  obtain ⟨h1,h2⟩:=hd d rfl;have jA:=h.size;refine ⟨by simp [Act.put,jA],by simp [Act.put,h.defers],λt ht2 u oE=>?_,h.ai⟩;have mB:d≠t:=by intro e;rw [e] at h2;rw [h2] at oE;cases oE
  simp only [Act.put,bW mB];exact h.slot t ht2 u oE
def qns(h:ds.Nodup){i:Nat}(hi:i < ds.length)(hj:j < ds.length)(e:ds.getD i 0=ds.getD j 0):i=j:=by
 simp only [List.getD,ax hi,ax hj,eh] at e;exact (List.getElem_inj h).1 e
def D_(hd:ds.Nodup){i:Nat}{Φ:Nat->Value->World->Prop}(hi:i < ds.length)(hn:ds.getD i 0 < a.tmps.size)(hΦ:Φ i v s')(hj:j < ds.length)(h:j≠i->∃ u,a.tmps[ds.getD j 0]?=some u/\Φ j u s'):∃ u,(a.put (some (ds.getD i 0)) v).tmps[ds.getD j 0]?=some u/\Φ j u s':=by
  by_cases hji:j=i
  . subst hji
    refine ⟨v,?_,hΦ⟩;generalize ds.getD j 0=dd at hn ⊢;simp [Act.put,hn]
  . obtain ⟨u,k1,k2⟩:=h hji
    have mB:ds.getD i 0≠ds.getD j 0:=λe=>hji (qns hd hj hi e.symm);exact ⟨u,by simp only [Act.put,bW mB];exact k1,k2⟩
def Qn(dp:List (List Nat))(m:Nat):Bool:=(List.range (m+1)).all λi=>(dp.getD i []).all λj=>decide (j < i)
def IW(l:List Oper)(m z tz:Nat):Bool:=Nat.ble m z || match l[z]? with
 | some ⟨some _,.alloc t,_,_,_,none⟩=>t == tz
 | _=>false
def Ra(b:Bool)(l:List Oper)(fr:Fr)(ds:List Nat)(dp:List (List Nat))(dl:Option Nat)(m z tz n:Nat):Bool:=
 l.length == m+1 && (ds.length == m && (Qb l ds m && (qF7 fr (ds++dl.toList) n && (decide (ds++dl.toList).Nodup && (Qn dp m && (IW l m z tz && ((b || Nat.ble m z) && (!b || (qJJ l && (qFP l m && (Qa l dp m && (Region.ready .any l.toArray ((Array.replicate m true).push false) == [m] && Region.ready .any l.toArray (((Array.replicate m true).push false).setIfInBounds m true) == []))))))))))))
def qxj{id:Nat}{b:Bool}{l:List Oper}(hm:P.follows .mixedOrders=true)(m z tz:Nat)(zs:LVal9)(ds:List Nat)(dp:List (List Nat))(dl:Option Nat)(hB:Ra b l fr ds dp dl m z tz n=true)(I:World->Prop)(hI:∀ s',Le D s s'->I s')
    {Φ:Nat->Value->World->Prop} (mono:∀ i v s s',Φ i v s->Le D s s'->Φ i v s') (hz:z < m->(∃ ti,jH TT tz=some ti/\ti.J=zs)/\∀ v s,Φ z v s)
    (obl0:rK (λi=>i≠z->∀ Q' s' L',Le D s s'->I s'->(L'=L\/z < m/\∃ β,L'=(β,cb zs tz)::L)->El Φ ds s' (λjS=>JE P TT D n l.toArray Q' i (ds.getD i 0) jS L' s' (Φ i)) (dp.getD i []) fr) m)
    (R:Fr->Hl->World->Prop) (hR:∀ rB L' s',(rB=fr\/z < m/\∃ β,rB=(ds.getD z 0,jc β)::fr)->Le D s s'->R rB L' s'->Q .normal rB L' s')
    (last:∀ Q' s' L' rB,Le D s s'->I s'->(¬ z < m/\rB=fr/\L'=L\/z < m/\∃ β,rB=(ds.getD z 0,jc β)::fr/\L'=(β,cb zs tz)::L)->El Φ ds s' (λjS=>JL P TT D n l.toArray Q' m dl jS L' s' λ_=>R rB) (dp.getD m []) rB) :
    JC P TT D n Q (.region id l.toArray b) fr L s:=by
  simp only [Ra,aA,fl,aF] at hB;obtain ⟨hN,h7,h1,h5,h6,hord,hal,hbz,hb⟩:=hB;have obl:=obl0.get;have h6':ds.Nodup:=(bL.1 h6).1;have hfree:∀ d∈ds++dl.toList,d < n/\kO fr d=none:=λd hd=>by
    have:=bV.1 h5 _ hd;simp only [aA,bD] at this;exact ⟨bE this.2,this.1⟩
  have hdlt:∀ i,i < m->ds.getD i 0 < n/\kO fr (ds.getD i 0)=none:=λi hi=>
    hfree _ (aN _ (by simp [List.getD,show i < ds.length by omega]))
  have hput:∀ {a:Act} {i:Nat} {v:Value},jE n a fr->i < m->jE n (a.put (some (ds.getD i 0)) v) fr:=λh hi=>h.putF λx hx=>by
    injection hx with hx;subst hx;exact hdlt _ hi
  have hputl:∀ {a:Act} {v:Value},jE n a fr->jE n (a.put dl v) fr:=λh=>h.putF λx hx=>hfree x (aJ _ (by simp [hx]));have hdep:∀ i,i < m+1->∀ j∈dp.getD i [],j < i:=λi hi j hj=>by
    have:=bV.1 (bV.1 hord i (dt.2 hi)) j hj;simpa using this
  cases b with
  | false=>
    have hmz:¬ z < m:=by have:=bE (by simpa using hbz);omega
    refine RP λht a0 hr0 ho0=>?_;have key:∀ k i,i+k=m->∀ (a:Act) (s':World),jE n a fr->jX D L s'->Le D s s'->(∀ j,j < i->∃ v,a.tmps[ds.getD j 0]?=some v/\Φ j v s')->wpList P l.toArray (yG D n Q) (l.drop i) a (fill L s'):=by
      intro k;induction k with
      | zero=>
        intro i hi a s' ou ho ka hfact;obtain rfl:i=m:=by omega
        obtain ⟨jS,hf',hJ⟩:=(last (yG D n Q) s' L fr ka (hI s' ka) (.inl ⟨hmz,rfl,rfl⟩)).apply ou (a:=a) (λj hj=>⟨(hdlt j (hdep i O j hj)).1,hfact j (hdep i O j hj)⟩);have h:=hJ ht a hf' ho;rw [aL (show i < l.length by omega),dU O];simp only [wpOp,eA,ax (show i < l.length by omega)] at h;simp only [wpList];refine qoe ?_ h;rintro a' w' ⟨v,L2,s2,rfl,rfl,mR,qs,hq⟩;exact ⟨fr,L2,s2,hputl ou,mR,rfl,hR _ _ _ (.inl rfl) (ka.trans qs) hq⟩
      | succ k ih=>
        intro i hi a s' ou ho ka hfact;obtain ⟨jS,hf',hJ⟩:=(obl i O O (yG D n Q) s' L ka (hI s' ka) (.inl rfl)).apply ou (a:=a) (λj hj=>⟨(hdlt j (by have:=hdep i O j hj;omega)).1,hfact j (hdep i O j hj)⟩);have h:=hJ ht a hf' ho;rw [aL (show i < l.length by omega)];simp only [wpOp,eA,ax (show i < l.length by omega)] at h;simp only [wpList];refine qoe ?_ h;rintro a' w' ⟨v,L2,s2,rfl,rfl,mR,qs,rfl,hq⟩;exact ih (i+1) O _ s2 (hput ou O) mR (ka.trans qs) λj hj=>D_ h6' O (by rw [ou.size];exact (hdlt i O).1) hq O λmB=>by
          obtain ⟨u,k1,k2⟩:=hfact j O;exact ⟨u,k1,mono _ _ _ _ k2 qs⟩
    exact key m 0 O a0 s hr0 ho0 (Le.refl _) λj hj=>by omega
  | true=>
    simp only [Bool.not_true,ep,aA,fl] at hb;obtain ⟨h2,h3,h4,h9,jN⟩:=hb;intro ht a0 hr0 ho0;have key:∀ (N:Nat) (todo:List Nat) (iK:Array Bool) (a:Act) (s':World) (L':Hl),todo.length=N->todo.Nodup->(∀ i,i∈todo↔i < m/\iK.getD i true=false)->iK.size=m+1->iK.getD m true=false ->
        (∀ i o,l[i]?=some o->i < m->iK.getD i true=true->∀ e∈o.after,Region.binds .any e=true->iK.getD e.on false=true) ->
        jE n a fr->jX D L' s'->Le D s s'->(∀ i,i < m->iK.getD i true=true->∃ v,a.tmps[ds.getD i 0]?=some v/\Φ i v s')->(iK.getD z false=false/\L'=L\/z < m/\iK.getD z false=true/\∃ β,L'=(β,cb zs tz)::L/\a.tmps[ds.getD z 0]?=some (jc β))->wpAny P .any l.toArray (CM D n Q) (N+1) iK a (fill L' s'):=by
      intro N;induction N with
      | zero=>
        intro todo iK a s' L' iQ _ oT jA hlast xS ou ho ka hfact hL;have hnil:todo=[]:=aG iQ;subst hnil;have qF:∀ i,i < m->iK.getD i true=true:=λi hi=>by
          cases hb:iK.getD i true with
          | true=>rfl
          | false=>exact absurd ((oT i).2 ⟨hi,hb⟩) (by simp)
        have hl:iK=(Array.replicate m true).push false:=by
          apply Array.ext
          . simp [jA]
          . intro i hi hi'
            rw [Array.getElem_push];have hg:iK.getD i true=iK[i]:=by simp [hi]
            split
            . rename_i lm
              simp at lm;rw [Array.getElem_replicate,<- hg,qF i lm]
            . rename_i hge
              simp at hge;have:i=m:=by omega
              subst this;rw [<- hg,hlast]
        subst hl;have hfr1:∃ rB,jE n a rB/\(∀ {v:Value},jE n (a.put dl v) rB)/\(¬ z < m/\rB=fr/\L'=L\/z < m/\∃ β,rB=(ds.getD z 0,jc β)::fr/\L'=(β,cb zs tz)::L):=by
          rcases hL with ⟨q1,q2⟩|⟨q1,_,β,q2,q3⟩
          . refine ⟨fr,ou,hputl ou,.inl ⟨λq=>?_,Z,q2⟩⟩
            have:=qF z q;simp [show z < m+1 by omega] at q1 this;rw [q1] at this;cases this
          . have hm1:=ou.more (hdlt z q1).1 q3
            refine ⟨_,hm1,λ{v}=>hm1.putF λx hx=>?_,.inr ⟨q1,β,Z,q2⟩⟩;have hf:=hfree x (aJ _ (by simp [hx]));refine ⟨hf.1,?_⟩;rw [vz,am,hf.2];intro e;have oB:=h6;rw [bL] at oB;exact oB.2.2 _ (by simp [List.getD,show z < ds.length by omega]) _ (by simp [hx]) e
        obtain ⟨rB,hf1,hf2,hcase⟩:=hfr1;obtain ⟨jS,hf',hJ⟩:=(last (CM D n Q) s' L' rB ka (hI s' ka) hcase).apply hf1 (a:=a) (λj hj=>by
          have hj':=hdep m O j hj;exact ⟨(hdlt j hj').1,hfact j hj' (qF j hj')⟩)
        refine ⟨λh0=>absurd (h9▸h0) (by simp),λi hi=>?_⟩;obtain rfl:i=m:=by rw [h9] at hi;simpa using hi
        refine wpOp_mono ?_ (hJ ht a hf' ho);rintro a' w' ⟨v,L2,s2,rfl,rfl,mR,qs,hq⟩;exact ⟨jN,rB,L2,s2,hf2,mR,rfl,hR _ _ _ (hcase.imp (·.2.1) λ⟨q1,β,q2,_⟩=>⟨q1,β,q2⟩) (ka.trans qs) hq⟩
      | succ N ih=>
        intro todo iK a s' L' iQ lQ oT jA hlast xS ou ho ka hfact hL;refine ⟨λhready=>?_,λi hi=>?_⟩
        .
          exfalso;have hex:∃ i,i < m/\iK.getD i true=false:=by
            cases todo with
            | nil=>simp at iQ
            | cons x r=>exact ⟨x,(oT x).1 Mc⟩
          have hleast:∃ i,(i < m/\iK.getD i true=false)/\∀ j,j < i->¬ (j < m/\iK.getD j true=false):=by
            obtain ⟨i,hi⟩:=hex;induction i using Nat.strongRecOn with
            | ind i ihi=>
              by_cases hx:∃ j,j < i/\(j < m/\iK.getD j true=false)
              . obtain ⟨j,hj1,hj2⟩:=hx
                exact ihi j hj1 hj2
              . exact ⟨i,hi,λj hj hj2=>hx ⟨j,hj,hj2⟩⟩
          obtain ⟨i,⟨hi1,zJ⟩,hi3⟩:=hleast;have lm:i < l.length:=by omega
          have rV:i∈Region.ready .any l.toArray iK:=by
            rw [mem_ready];refine ⟨zJ,l[i],by simp [lm],λe he hb=>?_⟩;have ht2:=bV.1 h2 i (dt.2 lm);simp only [ax lm] at ht2;rw [Array.all_eq_true_iff_forall_mem] at ht2;have:=ht2 e he;simp only [hb,Bool.not_true,ep,aF] at this;have hn:=hi3 e.on this;have hm1:e.on < m:=by omega
            have h8:iK.getD e.on true=true:=by
              cases hc:iK.getD e.on true with
              | true=>rfl
              | false=>exact absurd ⟨hm1,hc⟩ hn
            have h9:e.on < iK.size:=by omega
            simp only [Array.getD,h9,fV] at h8 ⊢;exact h8
          rw [hready] at rV;cases rV
        . have hi':=hi
          rw [mem_ready] at hi;obtain ⟨hu,o,ho1,qF⟩:=hi;have yT:l[i]?=some o:=by simpa using ho1
          have hilen:i < l.length:=(al.1 yT).1;have him:i≠m:=by
            intro e;subst e

            have hmax:∀ k,∀ j,j < i->i - j<=k->iK.getD j true=true:=by
              intro k;induction k with
              | zero=>intro j hj hk;omega
              | succ k ihk=>
                intro j hj hk;have hcv:=bV.1 h3 j (dt.2 hj);rw [fq] at hcv;obtain ⟨i2,zJ,hc⟩:=hcv;simp only [aA,aF] at hc;obtain ⟨o2,mR,e,he,hb,hon⟩:=ZC hc.2;have hi2':=dt.1 zJ;have hgot:iK.getD e.on false=true:=by
                  by_cases hlastone:i2=i
                  . subst hlastone
                    rw [yT] at mR;injection mR with mR;subst mR
                    exact qF e he hb
                  . exact xS i2 o2 mR O (ihk i2 O O) e he hb
                rw [hon] at hgot;have h9:j < iK.size:=by omega
                simp only [Array.getD,h9,fV] at hgot ⊢;exact hgot
            cases todo with
            | nil=>simp at iQ
            | cons x r=>
              have hx:=(oT x).1 Mc;have:=hmax i x hx.1 O;rw [hx.2] at this;cases this
          have hilt:i < m:=by omega
          have hdeps:∀ j∈dp.getD i [],j < m/\iK.getD j true=true:=λj hj=>by
            have hd:=bV.1 h4 i (dt.2 hilt);have xT:=bV.1 hd j hj;simp only [aA,aF] at xT;obtain ⟨o2,mR,e,he,hb,hon⟩:=ZC xT.2;rw [yT] at mR;injection mR with mR;subst mR
            have hgot:=qF e he hb;rw [hon] at hgot;have h9:j < iK.size:=by omega
            simp only [Array.getD,h9,fV] at hgot ⊢;exact ⟨xT.1,hgot⟩
          have goon:∀ v L2 s2,jX D L2 s2->Le D s' s2->Φ i v s2->(iK.getD z false=false/\i≠z/\L2=L\/z < m/\(iK.getD z false=true/\i≠z\/i=z)/\∃ β,L2=(β,cb zs tz)::L/\((a.put (some (ds.getD i 0)) v).tmps)[ds.getD z 0]?=some (jc β))->wpAny P .any l.toArray (CM D n Q) (N+1) (iK.setIfInBounds i true) (a.put (some (ds.getD i 0)) v) (fill L2 s2):=by
            intro v L2 s2 mR p7 hΦ hL2;refine ih (todo.erase i) _ _ s2 L2 (by rw [List.length_erase_of_mem ((oT i).2 ⟨hilt,hu⟩)];omega) (lQ.erase i) (λj=>?_) (by simpa using jA) ?_ ?_ (hput ou hilt) mR (ka.trans p7) ?_ ?_
            . rw [lQ.mem_erase_iff,oT j]
              by_cases hj:j=i
              . subst hj;simp [show j < iK.size by omega]
              . rw [fD true (λe=>hj e.symm)];simp [hj]
            . rw [fD true him];exact hlast
            . intro j oj hoj hjm hlj e he hb
              by_cases hj:j=i
              . subst hj
                rw [yT] at hoj;injection hoj with hoj;subst hoj
                exact getD_set_true (qF e he hb)
              . rw [fD true (λe=>hj e.symm)] at hlj
                exact getD_set_true (xS j oj hoj hjm hlj e he hb)
            . intro j hjm hlj
              refine D_ h6' O (by rw [ou.size];exact (hdlt i hilt).1) hΦ O λhj=>?_;rw [fD true (λe=>hj e.symm)] at hlj;obtain ⟨u,k1,k2⟩:=hfact j hjm hlj;exact ⟨u,k1,mono _ _ _ _ k2 p7⟩
            . rcases hL2 with ⟨q1,q2,q3⟩|⟨q1,q2|rfl,q3⟩
              . exact .inl ⟨by rw [fD false q2];exact q1,q3⟩
              . exact .inr ⟨q1,by rw [fD false q2.2];exact q2.1,q3⟩
              . exact .inr ⟨q1,by simp [show i < iK.size by omega],q3⟩
          by_cases hiz:i=z
          . subst hiz
            have hLL:L'=L:=by
              rcases hL with ⟨_,q⟩|⟨_,q,_⟩
              . exact q
              . have h9:i < iK.size:=by omega
                simp only [Array.getD,h9,fV] at hu q;rw [hu] at q;cases q
            subst hLL;obtain ⟨⟨ti,ht1,ht2⟩,hzΦ⟩:=hz hilt;simp only [IW,yT,dh] at hal;rcases hal with hal|hal
            . have:=bE hal;omega
            . split at hal
              . rename_i o2 d2 t2 ty2 pos2 af2 heq
                simp only [da] at heq;subst heq;have xT:d2=ds.getD i 0:=by
                  have:=bV.1 h1 i (dt.2 hilt);simp only [yT,aA,fl] at this;simp [List.getD,<- this.1]
                subst xT;obtain rfl:t2=tz:=by simpa using hal
                refine wpOp_mono ?_ (WB (TT:=TT) (n:=n) (fr:=fr) (R:=λv L2 s2=>∃ β,v=jc β/\L2=(β,cb zs t2)::L') (ops:=l.toArray) (i:=i) (by simpa using yT) (Nl ht1 ho) (pU ho (cb ti.J t2)).2.2 ⟨_,Z,by rw [ht2]⟩ ht a ou ho);rintro a' w' ⟨v,L2,s2,rfl,rfl,mR,p7,β,rfl,rfl⟩;refine goon _ _ _ mR p7 (hzΦ _ _) (.inr ⟨hilt,.inr Z,β,Z,?_⟩);have lX:=(hdlt i hilt).1;have hsz2:=ou.size;generalize ds.getD i 0=dd at lX ⊢;simp [Act.put,hsz2,lX]
              . cases hal
          . obtain ⟨jS,hf',hJ⟩:=(obl i hilt hiz (CM D n Q) s' L' ka (hI s' ka) (hL.imp (·.2) λ⟨q1,_,β,q2,_⟩=>⟨q1,β,q2⟩)).apply ou (a:=a) (λj hj=>⟨(hdlt j (hdeps j hj).1).1,hfact j (hdeps j hj).1 (hdeps j hj).2⟩)
            refine wpOp_mono ?_ (hJ ht a hf' ho);rintro a' w' ⟨v,L2,s2,rfl,rfl,mR,p7,rfl,hΦ⟩;refine goon _ _ _ mR p7 hΦ ?_;rcases hL with ⟨q1,q2⟩|⟨q1,q2,β,q3,q4⟩
            . exact .inl ⟨q1,hiz,q2⟩
            . refine .inr ⟨q1,.inl ⟨q2,hiz⟩,β,q3,?_⟩
              have mB:ds.getD i 0≠ds.getD z 0:=λe=>hiz (qns h6' O O e);simp only [Act.put,bW mB];exact q4
    have hstart:=key m (List.range m) (Array.replicate (m+1) false) a0 s.drew L (by simp) List.nodup_range (λi=>⟨λh=>⟨dt.1 h,by have:=dt.1 h;simp [show i < m+1 by omega]⟩,λh=>dt.2 h.1⟩) (by simp) (by simp) (λi o _ him hli=>by simp [show i < m+1 by omega] at hli) hr0 ho0.drew (Le.drew s) (λi him hli=>by simp [show i < m+1 by omega] at hli) (.inl ⟨by simp [Array.getD],rfl⟩);refine eU (wp_region_any (Q:=CM D n Q) hm ?_) (λe a w hq=>by
      cases e with
      | panic ch=>obtain ⟨h1,L1,s1,h2,h3,h4⟩:=hq;exact ⟨[],L1,s1,h1,h2,h3,h4 []⟩
      | _=>exact hq)
    rw [<- ZB] at hstart;simpa [hN] using hstart
end
structure yy(P:Program)(w:World)(t u ty e:Nat)(i:TypeInfo)(z:Value)(y:Value)(m:Nat)(news:LVal9):Prop where
 none:m=0->(Builtin.append_ #[t,u] ty #[.slice none 0 0,y]).run P w=.ok (.slice none 0 0) w
 nil:0 < m->m<=9223372036854775807->m * i.bytes<=140737488355328->(Builtin.append_ #[t,u] ty #[.slice .none 0 0,y]).run P w=.ok (.slice (some ⟨w.heap.size,0,.none⟩) m (grownCap w m 0 e)) (w.drew.alloc (.cells (news.toArray++Builtin.zeroCells z.cells (grownCap w m 0 e - m)) e))
 room:∀ g su sCap (lA:Array Value),w.heap[g]?=some (.cells lA e (0,0))->su+m<=sCap->su * i.size+news.length<=lA.size->(Builtin.append_ #[t,u] ty #[.slice (some ⟨g,0,.none⟩) su sCap,y]).run P w=.ok (.slice (some ⟨g,0,.none⟩) (su+m) sCap) (w.setRow g (lA.toList.take (su * i.size)++news++lA.toList.drop (su * i.size+news.length)).toArray)
 grow:∀ g n cap (xs:LVal9),xs.length=n * i.size->(∀ j v,xs[j]?=some v->w.cell? ((⟨g,0,.none⟩:Addr).add j)=some v)->cap < n+m->n+m<=9223372036854775807->(n+m) * i.bytes<=140737488355328 ->
  (Builtin.append_ #[t,u] ty #[.slice (some ⟨g,0,.none⟩) n cap,y]).run P w=.ok (.slice (some ⟨w.heap.size,0,.none⟩) (n+m) (grownCap w (n+m) cap e)) (w.drew.alloc (.cells (xs.toArray++news.toArray++Builtin.zeroCells z.cells (grownCap w (n+m) cap e - (n+m))) e))
def quX{t u:Nat}{i:TypeInfo}{y:Value}{m size bytes:Nat}(hS:yy P w t u ty e i z y m news)(hsize:i.size=size)(hby:i.bytes=bytes)(hzs:z.cells.size=size)
    (v:Value) (n:Nat) (xs:LVal9) (oU:w.ownsRow 0 e size v n xs) (hl:news.length=m * size) (qZ:n+m<=maxLen) (hbytes:(n+m) * bytes<=140737488355328) :
    ∃ v' w',(Builtin.append_ #[t,u] ty #[v,y]).run P w=.ok v' w'/\w'.ownsRow 0 e size v' (n+m) (xs++news)/\w.grownBy w' v.ownBlock/\(v'.ownBlock=v.ownBlock\/v'.ownBlock=some w.heap.size)/\(v=.slice none 0 0->m=0->v'=.slice none 0 0):=by
  subst hsize;subst hby;have hsmall:n+m<=9223372036854775807:=by simp only [maxLen] at qZ;omega
  have iQ:(xs++news).length=(n+m) * i.size:=by rw [ac,oU.1,hl,iD]
  have grown:∀ (old:Nat),old < n+m->∀ (row:Option Nat),
      (w.drew.alloc (.cells (xs.toArray++news.toArray++Builtin.zeroCells z.cells (grownCap w (n+m) old e - (n+m))) e)).ownsRow 0 e i.size
        (.slice (some ⟨w.heap.size,0,none⟩) (n+m) (grownCap w (n+m) old e)) (n+m) (xs++news) /\
      w.grownBy (w.drew.alloc (.cells (xs.toArray++news.toArray++Builtin.zeroCells z.cells (grownCap w (n+m) old e - (n+m))) e)) row:=by
    intro old ho row;have hge:=grownCap_ge w (n+m) old e;have hcm:grownCap w (n+m) old e<=maxLen:=grownCap_le_maxLen w (n+m) old e qZ;refine ⟨⟨iQ,.inr ⟨w.heap.size,_,_,Z,aB _,fY w.drew _,hge,hcm,?_,?_⟩⟩,⟨Z,Z,Z,by simp,λk hk _=>by show (w.heap.push _)[k]?=w.heap[k]?;rw [Array.getElem?_push,am (Nat.ne_of_lt hk)]⟩⟩
    . simp only [Array.size_append,eC,size_zeroCells,hzs,oU.1,hl,<- iD]
      congr 1;omega
    . simp only [Array.toList_append,an]
      rw [<- an,<- iQ];exact List.take_left
  rcases oU.2 with ⟨rfl,rfl⟩|⟨g,cap,lA,rfl,hbg,hg,rh,hcm,tg,htake⟩
  . have hx:xs=[]:=aG (by simpa using oU.1)
    subst hx;by_cases hm:m=0
    . have hn:news=[]:=aG (by rw [hl,hm];simp)
      refine ⟨.slice none 0 0,w,hS.none hm,?_,⟨Z,Z,Z,aC _,λ_ _ _=>rfl⟩,Or.inl Z,λ_ _=>rfl⟩;rw [hn,hm];exact World.ownsRow_nil w 0 e i.size
    . have hr:=hS.nil O O (by have hb:=hbytes;simp only [aZ] at hb;exact hb)
      have vn:=grown 0 O (Value.ownBlock (.slice none 0 0));simp only [aZ,aD,Array.empty_append] at vn ⊢;exact ⟨_,_,hr,vn.1,vn.2,Or.inr rfl,λ_ h=>absurd h hm⟩
  . by_cases hroom:n+m<=cap
    . have hfit:n * i.size+news.length<=lA.size:=by rw [hl,tg,<- iD];exact Nat.mul_le_mul_right _ hroom
      have hr:=hS.room g n cap lA hg hroom hfit;refine ⟨_,_,hr,⟨iQ,.inr ⟨g,cap,_,Z,hbg,setRow_heap w g lA _ e _ hg,hroom,hcm,?_,?_⟩⟩,⟨Z,Z,Z,by simp,λk _ hk=>setRow_other w g k _ (λe=>hk (by simp [Value.ownBlock,e]))⟩,Or.inl Z,λh=>by cases h⟩
      . simp only [eC,ac,cY,gF,Array.length_toList]
        omega
      . rw [htake,<- iQ]
        exact List.take_left
    . have holds:∀ j u,xs[j]?=some u->w.cell? ((⟨g,0,none⟩:Addr).add j)=some u:=oU.cells (g:=g) rfl
      have hr:=hS.grow g n cap xs oU.1 holds O hsmall hbytes;have vn:=grown cap O (Value.ownBlock (.slice (j6 g) n cap));exact ⟨_,_,hr,vn.1,vn.2,Or.inr rfl,λh=>by cases h⟩
section
variable{TT:kG}{fr:Fr}{ops:Array Oper}{op:Op}
def qpq{t u m sz:Nat}(B A L0:Hl)(hT:jZ P TT)(hx:lk fr x=some v)(hy:lk fr y=some yv)(ht:jH TT t=some ti)(hk:ti.kind=.sl e)(he:jH TT e=some te)(jA:te.size=sz)
  (hO:Own e sz A v k xs) (hl:news.length=m * sz) (hS:∀ w i,P.underlying t=some (.slice e)->P.info? e=some i->i.size=te.size->i.bytes=te.bytes->i.zero=some te.zero->yy P w t u ty e i te.zero yv m news) (qZ:(k+m) * te.bytes<=140737488355328/\k+m<=9223372036854775807) (ho:jX D (B++(A++L0)) s) :
  ∃ v' A' s',Ev P TT D fr (.call { callee:=.builtin .append,args:=#[x,y],argTypes:=#[t,u] }) ty (B++(A++L0)) s (.value v') (B++(A'++L0)) s'/\Le D s s'/\Own e sz A' v' (k+m) (xs++news)/\(v=.slice none 0 0->m=0->v'=.slice none 0 0):=by
 obtain ⟨k1,k2,_⟩:=hT.at_ ht;rw [hk] at k2;simp only [TK.fits] at k2;rw [k2] at k1;have pg:=hT.at_ he;obtain ⟨i,i1,i2,i3,i4⟩:=BU pg;have hzs:te.zero.cells.size=te.size:=by rw [EE pg];simpa using pg.2.2.2.1
 have rV:∀ x∈A,(fill (B++(A++L0)) s).heap[x.1]?=some x.2:=λx hx=>qc ho (mD.2 (.inr (.inl hx)));obtain ⟨v',w',jO,hown',vn,hat,kK⟩:=quX (hS (fill (B++(A++L0)) s) i k1 i1 i2 i3 i4) (i2.trans jA) i3 (by rw [hzs,jA]) v k xs (hO.owns rV) hl (by simpa [maxLen] using qZ.2) qZ.1;obtain ⟨A',hO',hA'⟩:=Own.of_owns hown';rw [nR] at hat;obtain ⟨r1,r2,r3⟩:=qx6 (D:=D) ho hO hO' hA' vn hat;refine ⟨v',A',qU D (B++(A'++L0)) w',λhT ho dst iS af g ρ hρ=>⟨?_,r2⟩,r3,hO',kK⟩;exact QV
def qpy{t u m sz:Nat}(B A L0:Hl)(hL:L=B++(A++L0))(hx:lk fr x=some v)(hy:lk fr y=some yv)(ht:jH TT t=some ti)(hk:ti.kind=.sl e)(he:jH TT e=some te)(jA:te.size=sz)
  (hO:Own e sz A v k xs) (hl:news.length=m * sz) (hS:jZ P TT->∀ w i,P.underlying t=some (.slice e)->P.info? e=some i->i.size=te.size->i.bytes=te.bytes->i.zero=some te.zero->yy P w t u ty e i te.zero yv m news) (qZ:(k+m) * te.bytes<=140737488355328/\k+m<=9223372036854775807) (hd:Nat.blt d n=true)
  (kk:∀ v' A' s',Le D s s'->Own e sz A' v' (k+m) (xs++news)->(v=.slice none 0 0->m=0->v'=.slice none 0 0)->JO P TT D n ops Q iP ((d,v')::fr) (B++(A'++L0)) s') :
  JO P TT D n ops Q (⟨some d,.call { callee:=.builtin .append,args:=#[x,y],argTypes:=#[t,u] },ty,iS,af,none⟩::iP) fr L s:=λhT a hr ho=>by
 subst hL;obtain ⟨v',A',s',h1,h2,h3,h4⟩:=qpq (ty:=ty) B A L0 hT hx hy ht hk he jA hO hl (hS hT) qZ ho;exact zY hd h1 (kk v' A' s' h2 h3 h4) hT a hr ho
def qyS{t u m sz:Nat}{g:Option (Nat×Bool)}{iK:Array Bool}(rf:ops[i0]?=some ⟨some d,.call { callee:=.builtin .append,args:=#[x,y],argTypes:=#[t,u] },ty,iS,af,g⟩)(re:rz ops fr g)
  (B A:Hl){L0:Hl} (hL:L=B++(A++L0)) (hx:lk fr x=some v) (hy:lk fr y=some yv) (ht:jH TT t=some ti) (hk:ti.kind=.sl e) (he:jH TT e=some te) (jA:te.size=sz)
  (hO:Own e sz A v k xs) (hl:news.length=m * sz) (hS:jZ P TT->∀ w i,P.underlying t=some (.slice e)->P.info? e=some i->i.size=te.size->i.bytes=te.bytes->i.zero=some te.zero->yy P w t u ty e i te.zero yv m news) (qZ:(k+m) * te.bytes<=140737488355328/\k+m<=9223372036854775807) (hd:Nat.blt d n=true) (hK:∀ A',∀ x∈K,x∈B++(A++L0)->x∈B++(A'++L0))
  (kk:∀ v' A' s',Le D s s'->Own e sz A' v' (k+m) (xs++news)->JA P TT D n ops Q K s0 jr (iK.setIfInBounds i0 true) ((d,v')::fr) (B++(A'++L0)) s') :
  JB P TT D n ops Q K s0 jr iK i0 fr L s:=λhT a hr ho hl0 hKL=>by
 subst hL;obtain ⟨v',A',s',h1,h2,h3,h4⟩:=qpq (ty:=ty) B A L0 hT hx hy ht hk he jA hO hl (hS hT) qZ ho;exact Ca rf re h1 h2 (hK A') hd (kk v' A' s' h2 h3) hT a hr ho hl0 hKL
end
def qtk{u:Nat}{i:TypeInfo}(l:List UInt8)(ht:P.underlying t=some (.slice e))(hu:P.underlying u=some .string)(hi:P.info? e=some i)(hs:i.size=1)(hb:i.bytes=1)(hz:i.zero=some z):
    yy P w t u ty e i z (St l) l.length (l.map λb=>Value.int .u8 (b.toNat:Int)):=by
  have jA:(⟨l.toArray⟩:ByteArray).size=l.length:=by simp [ByteArray.size]
  have tg:Lib.strCells ⟨l.toArray⟩=l.map λb=>Value.int .u8 (b.toNat:Int):=by simp [Lib.strCells]
  refine ⟨λh0=>?_,λh1 h2 h3=>?_,λg su sCap lA hg hr hf=>?_,λg n cap xs hl hc hcap qZ hby=>?_⟩
  . have hf:=Lib.run_firstCells_string (P:=P) w 1 ⟨l.toArray⟩
    have hl:l=[]:=aG h0;subst hl;simp [Builtin.append_,aQ ht,aQ hu,sizeOf,typeInfo,hi,hs,Builtin.lenOf,Builtin.firstCells,ByteArray.size]
  . have hr:=run_append_nil_string (P:=P) w t u ty e i z ht hu hi hz ⟨l.toArray⟩ (by rw [jA];exact h1) (by rw [jA];omega) (by rw [jA];exact dT h3 O)
    rw [jA] at hr;have e1:((⟨l.toArray⟩:ByteArray).data.map λb=>Value.int .u8 (b.toNat:Int))=(l.map λb=>Value.int .u8 (b.toNat:Int)).toArray:=by apply Array.ext';simp
    rw [e1] at hr;exact hr
  . have hr':=Lib.run_append_room_string (P:=P) (ty:=ty) w t u e i ht hu hi hs g su sCap lA hg ⟨l.toArray⟩ (by rw [jA];exact hr) (by rw [jA];simpa [hs] using hf)
    rw [jA,tg] at hr';rw [hs,eG,bI];exact hr'
  . have hr:=Lib.run_append_grow_string (P:=P) (ty:=ty) w t u e i z ht hu hi hz ⟨g,0,none⟩ n cap xs hl hc ⟨l.toArray⟩ (by rw [jA];exact hcap) (by rw [jA];omega) (by rw [jA];exact growslice_fits hcap hby)
    rw [jA,tg] at hr;exact hr
def ZM{u:Nat}{i:TypeInfo}(m:Nat)(ht:P.underlying t=some (.slice e))(hu:P.underlying u=some (.int ik))(hi:P.info? e=some i)(hs:i.size=1)(hz:i.zero=some z)(hzc:z.cells=#[z])(h1c:z.oneCell'=true)(hm:m<=9223372036854775807)(hmb:(m:Int) * i.bytes<=281474976710656):
    yy P w t u ty e i z (.int ik (m:Int)) m (List.replicate m z):=by
  have hw:IntKind.i64.wrap (m:Int)=(m:Int):=jB O O;have h0:¬ ((m:Int) < 0):=by omega
  have hmb':¬ (281474976710656 < (m:Int) * (i.bytes:Int)):=by omega
  have hzz:Builtin.zeroCells z.cells m=(List.replicate m z).toArray:=by
    rw [hzc];apply Array.ext';simp only [Builtin.zeroCells];apply gL
    . simp
    . intro k h1 h2;simp [Nat.mod_one]
  refine ⟨λh0=>?_,λh1 h2 h3=>?_,λg su sCap lA hg hr hf=>?_,λg n cap xs hl hc hcap qZ hby=>?_⟩
  . subst h0
    have ut:IntKind.i64.wrap 0=0:=hw;simp [Builtin.append_,aQ ht,aQ hu,sizeOf,typeInfo,hi,hs,asInt,asIntOf,ut]
  . have hn:¬ (m=0):=by omega
    have h63':¬ (9223372036854775807 < (m:Int)):=by omega
    have h48':¬ (281474976710656 < Builtin.nextslicecap m 0 * i.bytes):=by rw [nextslicecap_zero h1];omega
    simp [Builtin.append_,aQ ht,aQ hu,sizeOf,typeInfo,zeroValue,hi,hz,hs,asInt,asIntOf,hw,h0,hmb',hn,h63',h48',Question.forced,newRow,grownCap,Builtin.firstCells,hzz]
  . have mY:=run_storeCells_at P g su e (List.replicate m z) 0 lA w hg (by simpa [hs] using hf) (λu hu=>by rw [(dQ.1 hu).2];exact h1c)
    simp only [bB] at mY;by_cases hm0:m=0
    . subst hm0
      have ut:IntKind.i64.wrap 0=0:=hw;have hr0:su<=sCap:=hr;simp at mY;simp [Builtin.append_,aQ ht,aQ hu,sizeOf,typeInfo,zeroValue,hi,hz,hs,asInt,asIntOf,ut,hr0,Addr.add_lit,mY]
    . simp [Builtin.append_,aQ ht,aQ hu,sizeOf,typeInfo,zeroValue,hi,hz,hs,asInt,asIntOf,hw,h0,hmb',hr,hm0,Addr.add_lit,hzz,mY]
  . have hn:¬ (n+m<=cap):=by omega
    have h63':¬ (9223372036854775807 < ((n:Int)+(m:Int))):=by omega
    have hgs:=growslice_fits hcap hby;have h48':¬ (281474976710656 < Builtin.nextslicecap (n+m) cap * i.bytes):=by omega
    have hfo:=run_firstCells_some (P:=P) w.drew i.size n ⟨g,0,none⟩ n cap xs hl Q20;by_cases hm0:m=0
    . subst hm0
      rw [hs] at hfo;have ut:IntKind.i64.wrap 0=0:=hw;have hn0:¬ (n<=cap):=hn;have h630:¬ (9223372036854775807 < (n:Int)):=by omega
      simp [Builtin.append_,aQ ht,aQ hu,sizeOf,typeInfo,zeroValue,hi,hz,hs,asInt,asIntOf,ut,hn0,h630,Question.forced,newRow,grownCap,hfo];try exact λh=>absurd h h48'
    . rw [hs] at hfo
      simp [Builtin.append_,aQ ht,aQ hu,sizeOf,typeInfo,zeroValue,hi,hz,hs,asInt,asIntOf,hw,h0,hmb',hn,hm0,h63',h48',Question.forced,newRow,grownCap,hfo,hzz]
section
variable{TT:kG}{fr:Fr}{ops:Array Oper}{op:Op}
def lH{a b:List UInt8}(hY:lk fr x=some (St a)/\lk fr y=some (St b))(h:a.length+b.length<=9223372036854775807):QE P TT D fr (.binOp .add t x y t') ty K s0 (St (a++b)):=have ⟨hx,hy⟩:=hY;QE.pure λ_ dst iS af g ρ hρ w=>by
  have h1:¬ (9223372036854775807 < ((a.length:Int)+(b.length:Int))):=by omega
  have e:(⟨a.toArray⟩:ByteArray)++⟨b.toArray⟩=⟨(a++b).toArray⟩:=by
   apply fu;simp
  simp [execOp,hρ x _ hx,hρ y _ hy,eqGuard,binOp,Op.stringOp,ByteArray.size,h1,e]
def V0(e:Value)(b:Bool):Prop:=(e=.nilIface/\b=true)\/∃ u p,e=.iface u p/\b=false
def qy4{e:Value}{b:Bool}(hu:P.underlying t=some (.interface (P.methodsAt t)))(hx:lk fr x=some e)(hE:V0 e b):QE P TT D fr (.binOp .eql t x (.const .nilIface) t') ty K s0 (.bool b):=
 QE.pure λ_ dst iS af g ρ hρ w=>by
  have hc:=hρ (.const .nilIface) _ rfl;rcases hE with ⟨rfl,rfl⟩|⟨u,p,rfl,rfl⟩
  . simp [execOp,hρ x _ hx,hc,eqGuard_nil_constR,run_eql_nil_nil w t hu]
  . simp [execOp,hρ x _ hx,hc,eqGuard,run_eql_held_nil w t u p hu]
end
section
variable{TT:kG}{fr:Fr}
inductive ud(ks:List Nat)(fr:Fr):Fr->Prop
 | refl:ud ks fr fr
 | push {d:Nat} {v:Value} {jS:Fr} (hd:((kO fr d).isNone || ks.any (Nat.beq d))=true) (h:ud ks fr jS):ud ks fr ((d,v)::jS)
def So{p:Prop}(h:p:=by repeat (first|exact ud.refl|refine ud.push rfl ?_)):p:=h
def ud.at_{fr:Fr}(h:ud ks fr jS)(ht:ks.any (Nat.beq t)=false)(hv:kO fr t=some v):kO jS t=some v:=by
 induction h with
 | refl=>exact hv
 | @push d u jS hd _ ih=>
  rw [vz];by_cases he:d=t
  . subst he;rw [hv,ht] at hd;cases hd
  . rw [am he];exact ih
def qoI{l:Fr}(h:kO l t=none):(l.map (·.1)).any (Nat.beq t)=false:=by
  induction l with
  | nil=>rfl
  | cons x l ih=>
    obtain ⟨d,v⟩:=x;rw [vz] at h;by_cases he:d=t
    . rw [aw he] at h;cases h
    . rw [am he] at h
      simp only [aS,fx,ih h,Bool.or_false];cases hb:Nat.beq t d with
      | false=>rfl
      | true=>exact absurd (ez hb).symm he
def qGo{new fr:Fr}(h1:je jS new)(h2:ud (new.map (·.1)) fr jS):je jS (new++fr):=by
 intro t v h;rw [qk4] at h;cases hn:kO new t with
 | none=>rw [hn] at h;exact h2.at_ (qoI hn) h
 | some u=>rw [hn] at h;exact h1 t v (by rw [hn];exact h)
def lR{γ:Type}(D:Nat)(s:World)(fr:Fr)(new:γ->Fr)(X:Hl)(H:γ->Hl)(I:γ->World->Prop):Fr->Hl->World->Prop:=λjS L' s'=>∃ g A,Le D s s'/\L'.Perm (A++(X++H g))/\I g s'/\je jS (new g++fr)
def lR.mk{γ:Type}{new:γ->Fr}{H:γ->Hl}{I:γ->World->Prop}(g:γ)(A:Hl)(hl:Le D s s')(hK:je jS (new g))(hS:ud ((new g).map (·.1)) fr jS)(hp:L'.Perm (A++(X++H g)))(hI:I g s'):lR D s fr new X H I jS L' s':=⟨g,A,hl,hp,hI,qGo hK hS⟩
def Di{γ:Type}{x y:Code}(new:γ->Fr)(X:Hl)(_hX:L=X++Y)(H:γ->Hl)(I:γ->World->Prop)(mono:∀ g s s',I g s->Le D s s'->I g s')(h1:JC P TT D n (lZ (lR D s fr new X H I) Q) x fr L s)
  (h2:∀ g s',Le D s s'->I g s'->JC P TT D n Q y (new g++fr) (X++H g) s'):JC P TT D n Q (.seq x y) fr L s:=λht a hr ho=>
 iF (eU (h1 ht a hr ho) λe a w ⟨jS,L',s',k1,k2,k3,k4⟩=>by
  cases e with
  | normal=>
   exact QT
  | _=>exact ⟨jS,L',s',k1,k2,k3,k4⟩)
end
theorem EO{p q:Prop}[Decidable p][Decidable q](h:p↔¬ q):(!decide q)=decide p:=by grind
def Kb{p:Prop}(h:p:=by first|rfl|exact bj (λb=>some (Value.bool b)) (bO Og).symm|exact bj (λb=>some (Value.bool b)) (bQ Og).symm|exact bj (λb=>some (Value.bool b)) (bJ.2 Og)|exact bj (λb=>some (Value.bool b)) (EO Og)):p:=h
def AC.perm{f:FuncId}{L1:Hl}(hp:L.Perm L1)(h:AC P D f args L1 s R)(hq:∀ v L1' s',R v L1' s'->∃ L',L1'.Perm L'/\R' v L' s'):AC P D f args L s R':=
 ⟨h.1,λho=>by
  rw [tr hp _ ho];refine (h.2 (ho.perm hp)).mono ?_;rintro e w' ⟨v,L1',s',he,hw,l9,hl,hr⟩;obtain ⟨L',h1,h2⟩:=hq v L1' s' hr;exact ⟨v,L',s',he,by rw [hw,tr h1 _ l9],l9.perm h1,hl,h2⟩⟩
variable{TT:kG}{fr:Fr}{ops:Array Oper}
def qyu{t m sz:Nat}(hT:jZ P TT)(hx:lk fr x=some (.slice (some ⟨b0,o0,none⟩) k k))(hy:lk fr y=some (.slice A1 m c))(ht:jH TT t=some ti)(hk:ti.kind=.sl e)(he:jH TT e=some te)(jA:te.size=sz)
  (hC:iH s b0 o0 xs) (hl:xs.length=k * sz) (hR:Row s A1 m sz news) (hm:0 < m) (qZ:(k+m) * te.bytes<=140737488355328/\k+m<=9223372036854775807) (ho:jX D L s) :
  ∃ g cap ys s',Ev P TT D fr (.call { callee:=.builtin .append,args:=#[x,y],argTypes:=#[t,t] }) ty L s (.value (.slice (j6 g) (k+m) cap)) ((g,cb (xs++news++ys) e)::L) s'/\jX D ((g,cb (xs++news++ys) e)::L) s'/\Le D s s'/\k+m<=cap/\cap<=9223372036854775807:=by
 have l9:=hT.at_ ht;obtain ⟨k1,k2,_⟩:=l9;rw [hk] at k2;simp only [TK.fits] at k2;rw [k2] at k1;have pg:=hT.at_ he;obtain ⟨i,i1,i2,i3,i4⟩:=BU pg;have mC:0 < te.size:=pg.2.2.2.2.2.1;have hzs:te.zero.cells.size=te.size:=by rw [EE pg];simpa using pg.2.2.2.1
 have h0:∃ b off,A1=some ⟨b,off,none⟩/\iH s b off news:=by
  have hl:0 < news.length:=by rw [hR.1,<- jA];exact iC hm mC
  exact QR
 obtain ⟨b,off,rfl,hcells⟩:=h0;obtain ⟨v',w',jO,oU,vn⟩:=run_append_arg_grows (P:=P) (fill L s) t ty e i te.zero sz te.bytes k1 i1 i4 (i2.trans jA) i3 (by rw [hzs,jA]) (by rw [<- jA];exact mC) ⟨b0,o0,none⟩ k k xs hl (λj u hj=>by rw [add_lit];exact EH ho (hC j u hj)) ⟨b,off,none⟩ m c news hR.1
  (λj u hj=>by rw [add_lit];exact EH ho (hcells j u hj)) O (by simpa [maxLen] using qZ.2) qZ.1
 obtain ⟨h1,h2⟩:=oU;rcases h2 with ⟨_,h0⟩|⟨g,cap,lA,rfl,hge,hg,rh,hcm,tg,ht2⟩
 . omega
 rw [nR] at hge;have hsize:=vn.size;rw [nR] at hsize;have hcur:lA=(xs++news++lA.toList.drop ((k+m) * sz)).toArray:=by
  rw [<- ht2,eB]
 have lm:∀ x∈L,x.1 < s.heap.size:=λx hx=>ho.lt hx;obtain ⟨r1,r2,r3⟩:=Sq (D:=D) (L':=(g,cb (xs++news++lA.toList.drop ((k+m) * sz)) e)::L) ho (vn.os.trans (y9 _ _)) (vn.tape.trans (y0 _ _)) (vn.output.trans (y5 _ _)) hsize
  (by
   rw [aS,dv];refine ⟨λhm2=>?_,ho.nd⟩;obtain ⟨x,hx,uu⟩:=bh.1 hm2;have:=lm x hx;omega)
  (λx hx=>by
   rcases aW.1 hx with rfl|hx
   . rw [hg,cb,<- hcur]
   . rw [vn.block x.1 (by rw [nR];exact lm x hx) (by simp),qc ho hx])
  (λx hx=>by
   rcases aW.1 hx with rfl|hx
   . exact .inr hge
   . exact .inl (bh.2 ⟨x,hx,rfl⟩))
  (λj hj hn=>by rw [vn.block j (by rw [nR];exact hj) (by simp),vy hn])
 refine ⟨g,cap,_,_,λhT ho dst iS af g ρ hρ=>⟨?_,r2⟩,r2,r3,rh,by simpa [maxLen] using hcm⟩;exact QV
def iH.pre(h:iH s b off (xs++ys)):iH s b off xs:=λj v hj=>h j v Q28
def iH.nth{l:LVal9}(h:iH s b 0 l)(hj:l[j]?=some v):iH s b (0+j) [v]:=λi u hi=>by
 cases i with
 | zero=>simp at hi;subst hi;exact h j v hj
 | succ i=>simp at hi
def qyY{t m sz:Nat}(hx:lk fr x=some (.slice (some ⟨b0,o0,none⟩) k k))(hy:lk fr y=some (.slice A1 m c))(ht:jH TT t=some ti)(hk:ti.kind=.sl e)(he:jH TT e=some te)(jA:te.size=sz)
  (hC:iH s b0 o0 xs) (hl:xs.length=k * sz) (hR:Row s A1 m sz news) (hm:0 < m) (qZ:(k+m) * te.bytes<=140737488355328/\k+m<=9223372036854775807) (hd:Nat.blt d n=true)
  (kk:∀ g cap s',Le D s s'->iH s' g 0 (xs++news)->k+m<=cap->cap<=9223372036854775807->JO P TT D n ops Q iP ((d,.slice (j6 g) (k+m) cap)::fr) L s') :
  JO P TT D n ops Q (⟨some d,.call { callee:=.builtin .append,args:=#[x,y],argTypes:=#[t,t] },ty,iS,af,none⟩::iP) fr L s:=λhT a hr ho=>by
 obtain ⟨g,cap,ys,s',h1,h2,h3,h4,h5⟩:=qyu (ty:=ty) hT hx hy ht hk he jA hC hl hR hm qZ ho;obtain ⟨d1,d2,d3⟩:=sK (A:=[(g,cb (xs++news++ys) e)]) (B:=L) h2;refine zY (L':=L) (s':=fill [(g,cb (xs++news++ys) e)] s') hd (λhT _ dst iS af g2 ρ hρ=>⟨?_,d2⟩) (kk g cap _ (h3.trans d3) (iH.pre (Js h2)) h4 h5) hT a hr ho;rw [<- d1];exact (h1 hT ho dst iS af g2 ρ hρ).1
def W_(nd:(L.map (·.1)).Nodup){o:Obj}(hb:b < s.heap.size)(hx:(b,o)∈L):(fill L s).heap[b]?=some o:=by
  induction L with
  | nil=>cases hx
  | cons x L ih=>
    simp only [aS,dv] at nd;rcases aW.1 hx with rfl|hx
    . rw [fill];exact Jt _ (by rw [nR];exact hb)
    . rw [fill,EG]
      . exact ih nd.2 hx
      . intro e;exact nd.1 (by rw [e];exact bh.2 ⟨_,hx,rfl⟩)
def AC.lend{P:Program}{D:Nat}{f:FuncId}{L:Hl}{s:World}{R:Value->Prop}(M:Hl)(hM:∀ x∈M,x.2≠mA D)(hf:sR P f)(h:jX D M s->AC P D f args L (fill M s) (λv L' _=>R v/\L=L')):
    AC P D f args (M++L) s (λv L' _=>R v/\M++L=L'):=by
  refine ⟨hf,λho=>?_⟩;have hoM:jX D M s:=ho.left;have hp:(M++L).Perm (L++M):=dJ;have lQ:=ho.nd;rw [bR,bL] at lQ;have hdis:∀ x∈L,x.1 ∉ M.map (·.1):=λx hx hm=>lQ.2.2 _ hm _ (bh.2 ⟨x,hx,rfl⟩) rfl;have e:fill (M++L) s=fill L (fill M s):=by rw [tr hp _ ho,Rw]
  have ho3:jX D L (fill M s):=⟨ho.right.nd,λx hx=>by rw [vy (hdis x hx)];exact ho.right.dm x hx⟩;rw [e];refine ((h hoM).2 ho3).mono ?_;rintro en w' ⟨v,L1,s1,h1,rfl,h3,h4,h6,rfl⟩;have lm:∀ x∈M,x.1 < s.heap.size:=λx hx=>hoM.lt hx;have jA:s.heap.size<=s1.heap.size:=by have:=h4.size;rwa [nR] at this
  have pJ:∀ x∈M,s1.heap[x.1]?=some x.2:=λx hx=>by
    have hm:=qc hoM (b:=x.1) (o:=x.2) hx;rcases h4.block x.1 (by rw [nR];exact lm x hx) with hd|hd
    . rw [hm] at hd;exact absurd (cD hd) (hM x hx)
    . rw [hd,hm]
  have hk:(M.map λx=>(x.1,mA D)).map (·.1)=M.map (·.1):=by rw [fU];rfl
  have ho4:jX D (M++L) (fill (M.map λx=>(x.1,mA D)) s1):=⟨ho.nd,λx hx=>by
    rcases aU.1 hx with hx|hx
    . exact W_ (by rw [hk];exact lQ.1) (dK (lm x hx) jA) (bh.2 ⟨x,hx,rfl⟩)
    . rw [vy (by rw [hk];exact hdis x hx)];exact h3.dm x hx⟩
  have hw:fill M (fill (M.map λx=>(x.1,mA D)) s1)=s1:=by
    refine C9 (C8 λk=>?_) ?_ ?_ ?_ ?_
    . by_cases hm:k∈M.map (·.1)
      . obtain ⟨x,hx,rfl⟩:=bh.1 hm
        rw [W_ (o:=x.2) lQ.1 (by rw [nR];exact dK (lm x hx) jA) hx,pJ x hx]
      . rw [vy hm,vy (by rw [hk];exact hm)]
    . rw [y0,y0]
    . rw [FJ,FJ]
    . rw [y9,y9]
    . rw [y5,y5]
  refine ⟨v,M++L,fill (M.map λx=>(x.1,mA D)) s1,h1,?_,ho4,?_,h6,Z⟩
  . rw [tr hp _ ho4,Rw,hw]
  . refine ⟨?_,?_,?_,?_,λk un=>?_⟩
    . rw [y9,h4.os,y9]
    . rw [y0,h4.tape,y0]
    . rw [y5,h4.output,y5]
    . rw [nR];exact jA
    . by_cases hm:k∈M.map (·.1)
      . obtain ⟨x,hx,rfl⟩:=bh.1 hm
        exact .inl (hoM.dm x hx)
      . rw [vy (by rw [hk];exact hm)]
        have:=h4.block k (by rw [nR];exact un);rw [vy hm] at this;exact this
def AC.ok{f:FuncId}(h:AC P D f args L s R):sR P f:=h.1
def qrP(h:jX D M s):mz M (fill M s):=λb zs t hm j u hj=>by
 rw [BO h hm,aZ];exact hj
def Ts{sz:Nat}(h:Own e sz M v n xs):∀ x∈M,x.2≠mA D:=by
 cases h with
 | nil=>intro x hx;cases hx
 | blk b cap n xs ys _ _ _ _=>
  intro x hx;rw [aV] at hx;subst hx;intro e;cases e
end
section
attribute [local irreducible] JC JO JA JB lZ mF mM AC fill iH QE Ev mq
def LZ(m:lj)(v:Value)(M:Hl)(s:World):Prop:=∃ bc cc yc Oq9 Ao co Ai ni ci,v=.agg #[.slice (j6 bc) m.cells.length cc,iO m.r0,iO m.r1,iO m.r2,iO m.r3,iO m.r4,.slice Ai ni ci,.slice Ao m.output.length co,iJ m.stop,iO m.code]
 /\ M=(bc,cb (wv m.cells++yc) 22)::Oq9/\Own 5 1 Oq9 (.slice Ao m.output.length co) m.output.length (bv m.output)/\lL s Ai ni ci m.aa/\m.cells.length+yc.length=cc/\cc<=9223372036854775807
def LZ.le(h:LZ m v M s)(hl:Le D s s'):LZ m v M s':=by
 obtain ⟨bc,cc,yc,Oq9,Ao,co,Ai,ni,ci,h1,h2,h3,h4,h5⟩:=h;exact ⟨bc,cc,yc,Oq9,Ao,co,Ai,ni,ci,h1,h2,h3,h4.le hl,h5⟩
end
end Go.Proofs.YtapeaicongaggaaGreatDoor
