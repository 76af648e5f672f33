/- Part 4. -/
import Derived.Test.YtemgonlhniicbaaGreatDoorQ42z3
import Derived.Shelf.Slices.Empties2
set_option linter.unusedVariables false
set_option linter.defProp false
set_option linter.unusedSimpArgs false
set_option linter.unnecessarySimpa false
set_option maxRecDepth 100000
set_option maxHeartbeats 8000000
namespace Go.Proofs.YtemgonlhniicbaaGreatDoor
open Go Go.RowKit Go.Proofs.Tryz
def cD:=@List.length_set
def cR:=@List.length_replicate
def da:=@List.getElem?_mapIdx
def dx:=@Array.getElem?_setIfInBounds_self
def dC:=@Bool.and_true
def dG:=@Option.map_eq_some_iff
def ee:=@Option.isSome_iff_exists
def eE:=@Option.isSome_map
def eL:=@Lib.decDigits_length
def eO:=@Nat.sub_zero
def eP:=@List.perm_middle
def fx:=@Bool.true_and
def fF:=@Array.size_replicate
def fP:=@List.length_pos_iff
def fQ:=@List.getD_cons_zero
def fU:=@getElem!_pos
def fV:=@Lib.run_unsafeSliceData_nil
def gv:=@not_false_eq_true
def gy:=@Lib.parseUintB_le
def gM:=@Bool.true_or
def gX:=@List.Perm.append_left
def it:=@dif_neg
variable{s s' s0:World}{D c n e b ty m ba d ti0 ny cy jd p tp ck na j:Nat}{L M R' K L':Hl}{A Ad A':iE}{ts:Array TypeId}{P:Program}{iI:List Oper}{af:Array Edge}{o i a out:Int}{ti:TI}{iL:String}{w w2:iG}{y:Ins}{vw v vr vl:Value}{xs ys zs:iz}{yo:Bool}{Q:pS}{ik:IntKind}{x0 x1 x2:Nat×Obj}{fn:Func}
section
variable{l:List UInt8}{u:Nat}
def vb(acc:Nat)(l:List UInt8):Nat:=l.foldl (λa c=>a * 10+(c.toNat - 48)) acc
def Fq(l:List UInt8):Bool:=decide (l≠[]) && l.all un && (decide (l.length<=1) || decide (l.head?≠some 48))
def wl(l:List UInt8):Option Nat:=if Fq l=true/\vb 0 l < 4294967296 then some (vb 0 l) else none
theorem Ga(acc:Nat):vb acc []=acc:=rfl
theorem E6(acc:Nat)(c:UInt8)(r:List UInt8):vb acc (c::r)=vb (acc * 10+(c.toNat - 48)) r:=by unfold vb;rw [gP]
theorem qyC(c:UInt8):vb 0 [c]=c.toNat - 48:=by grind [E6,Ga]
attribute [local irreducible] vb
def qms(l:List UInt8)(c:UInt8)(acc:Nat):vb acc (l++[c])=vb acc l * 10+(c.toNat - 48):=by
 induction l generalizing acc with
 | nil=>rw [aC,E6,Ga,Ga]
 | cons x l ih=>rw [ao,E6,E6];exact ih _
def qtF(l:List UInt8)(acc:Nat):acc<=vb acc l:=by
 induction l generalizing acc with
 | nil=>rw [Ga];exact ay _
 | cons x l ih=>have:=ih (acc * 10+(x.toNat - 48));rw [E6];omega
def qsL{M acc:Nat}(hM:M < 1844674407370955162)(h:l.all un=true)(hv:vb acc l<=M):Lib.parseUintM M acc l=.ok (vb acc l):=by
 induction l generalizing acc with
 | nil=>rw [Ga];rfl
 | cons c l ih=>
  simp only [ec,aA,un,aH] at h;rw [E6] at hv ⊢;have h1:=qtF l (acc * 10+(c.toNat - 48));simp only [Lib.parseUintM];rw [au h.1,ak O,ak O];exact ih (by simpa [un] using h.2) hv
def KY(h:u < 10):(UInt8.ofNat (48+u)).toNat=48+u:=by simp;omega
def Gu(u:Nat):vb 0 (Lib.decDigits u)=u:=by
 induction u using Nat.strongRecOn with
 | _ u ih=>
  by_cases h:u < 10
  . rw [Lib.decDigits,fS h];rw [qyC,KY h];omega
  . rw [Lib.decDigits,it h,qms,ih (u / 10) O,KY O];omega
def OU(u:Nat):Lib.decDigits u≠[]:=by
 by_cases h:u < 10
 . rw [Lib.decDigits,fS h];simp
 . rw [Lib.decDigits,it h];simp
def KH(u:Nat):(Lib.decDigits u).all un=true:=by
  induction u using Nat.strongRecOn with
  | _ u ih=>
    by_cases h:u < 10
    . rw [Lib.decDigits,fS h];simp only [ec,List.all_nil,dC,un,KY h,aA,aH];omega
    . rw [Lib.decDigits,it h,List.all_append,ih (u / 10) O]
      simp only [ec,List.all_nil,dC,un,KY (show u % 10 < 10 by omega),aA,aH,fx];omega
def quX(u:Nat)(h:1<=u):(Lib.decDigits u).head?≠some 48:=by
  induction u using Nat.strongRecOn with
  | _ u ih=>
    by_cases h1:u < 10
    . rw [Lib.decDigits,fS h1];intro e
      simp only [List.head?_cons,cZ] at e;have:=bl UInt8.toNat e;rw [KY h1] at this;simp at this;omega
    . rw [Lib.decDigits,it h1]
      have mL:=OU (u / 10);have:=ih (u / 10) O O;cases hd:Lib.decDigits (u / 10) with
      | nil=>exact absurd hd mL
      | cons x r=>rw [hd] at this;simpa using this
def qrj(u:Nat):Fq (Lib.decDigits u)=true:=by
 simp only [Fq,KH,OU,fM,gv,decide_true,fx,db,aH];by_cases h:u < 10
 . left;rw [Lib.decDigits,fS h];simp
 . right;exact quX u O
def qyD{c:UInt8}{r:List UInt8}(he:l=c::r)(hd:un c=true)(h:c≠48):1<=vb 0 l:=by
 subst he;have h1:=qtF r (0 * 10+(c.toNat - 48));simp only [un,aA,aH] at hd;have:c.toNat≠48:=λe=>h (fK.1 e);rw [E6];omega
def qq4(h:Fq l=true):Lib.decDigits (vb 0 l)=l:=by
 induction hn:l.length using Nat.strongRecOn generalizing l with
 | _ n ih=>
  simp only [Fq,aA,aH,db] at h;obtain ⟨⟨h0,h1⟩,h2⟩:=h;obtain ⟨m,c,rfl⟩:∃ m c,l=m++[c]:=⟨l.dropLast,l.getLast h0,(List.dropLast_concat_getLast h0).symm⟩;rw [List.all_append,aA] at h1;have hc:48<=c.toNat/\c.toNat<=57:=by simpa [un] using h1.2
  have nS:UInt8.ofNat (48+(c.toNat - 48))=c:=by apply fK.1;simp;omega
  rw [qms];cases hm:m with
  | nil=>rw [Ga,Lib.decDigits,fS O];simp [nS]
  | cons x r=>
   have hx:(m++[c]).head?=some x:=by rw [hm];rfl
   have hx48:x≠48:=by
    rcases h2 with h2|h2
    . rw [hm] at h2;simp at h2
    . intro e;exact h2 (by rw [hx,e])
   have hdx:un x=true:=by have:=h1.1;rw [hm,ec,aA] at this;exact this.1
   have hp:=qyD hm hdx hx48;have hcm:Fq m=true:=by
    simp only [Fq,aA,aH,db];refine ⟨⟨by rw [hm];simp,h1.1⟩,.inr ?_⟩;rw [hm];simpa using hx48
   have hd:=ih m.length (by rw [<- hn];simp) hcm rfl;rw [<- hm];rw [Lib.decDigits,it O];rw [show (vb 0 m * 10+(c.toNat - 48)) / 10=vb 0 m by omega,hd,show (vb 0 m * 10+(c.toNat - 48)) % 10=c.toNat - 48 by omega,nS]
def qox(h:u < 4294967296):wl (Lib.decDigits u)=some u:=by rw [wl,au ⟨qrj u,by rw [Gu];exact h⟩,Gu]
def qsw(h:wl l=some u):l=Lib.decDigits u/\u < 4294967296:=by
 unfold wl at h;split at h
 . rename_i hh;injection h with h;subst h;exact ⟨(qq4 hh.1).symm,hh.2⟩
 . cases h
def N9(l:List UInt8)(u:Nat):(Lib.parseUintB 32 l=.ok u/\Lib.decDigits u=l)↔wl l=some u:=by
  constructor
  . rintro ⟨h,rfl⟩
    exact qox (by have:=gy h;omega)
  . intro h
    obtain ⟨rfl,hu⟩:=qsw h;refine ⟨?_,Z⟩;rw [Lib.parseUintB,ak (OU u)];have:=qsL (M:=2 ^ 32 - 1) (acc:=0) Dc (KH u) (by rw [Gu];omega);rw [Gu] at this;exact this
def qsf(k u:Nat)(h:u < 10 ^ (k+1)):Lib.nDigits u<=k+1:=by
 induction k generalizing u with
 | zero=>rw [Lib.nDigits_small Q2];exact ay _
 | succ k ih=>
  by_cases h1:u < 10
  . rw [Lib.nDigits_small h1];omega
  . rw [Lib.nDigits_big h1];have:=ih (u / 10) (by rw [Nat.pow_succ] at h;omega);omega
def qBS(h:u < 4294967296):1<=(Lib.decDigits u).length/\(Lib.decDigits u).length<=10:=by
 rw [eL];exact ⟨Lib.nDigits_pos u,qsf 9 u O⟩
end
abbrev iH:=List UInt8
variable{l:List (iH×Int)}{r:List (Int×Nat×iH×Int)}{tx nm sep:iH}{ws az es:List iH}
def qK9(c:UInt8):Bool:=decide (c=32) || decide (c=10)
def R5(w:iH):Prop:=w≠[]/\∀ c∈w,qK9 c=false
def QY(w sg:iH):iH:=w.take (w.length - sg.length)
def ends(w sg:iH):Bool:=decide (w=QY w sg++sg)
def VQ(c:UInt8):Int:=
 if 97<=c.toNat/\c.toNat<=122 then (c.toNat:Int) - 96 else if 65<=c.toNat/\c.toNat<=90 then (c.toNat:Int) - 38 else if 48<=c.toNat/\c.toNat<=57 then (c.toNat:Int)+5
 else if c=32 then 0 else if c=46 then 63 else if c=44 then 64 else if c=59 then 65 else if c=58 then 66 else -1
def okC(c:UInt8):Bool:=decide (0<=VQ c)
def okT(l:iH):Bool:=l.all okC
def qHz:iH:=[67,104,101,99,107]
def pD(n:Int):iH:=Lib.decDigits n.toNat
def okW(w:iH):Prop:=R5 w/\okT w=true/\w≠qHz
instance (w:iH):Decidable (R5 w):=by unfold R5;infer_instance
instance (w:iH):Decidable (okW w):=by unfold okW;infer_instance
def cop:∀ d,d < 67->0 < d->Nat.gcd 9973 d=1:=by decide +kernel
def qyY{TT:kD}{fr:Fr}{t:Nat}{x y:Operand}{te:TI}(hx:lk fr x=some (iT b))(hy:lk fr y=some (.int ik (j:Int)))(ht:jz TT t=some ti)(hk:ti.kind=.ar m e)(he:jz TT e=some te)(hj:j<=m) :
  QE P TT D fr (.slice t x none (some y) none) ty K s0 (.slice (jZ b) j m):=
 QE.pure λhT dst iL af g ρ hρ w=>by
  have hb:(Instr.sliceBounds false m m none (some (.int ik (j:Int))) none).run P w=.ok (0,j,m) w:=by simp [Instr.sliceBounds,Kn hj]
  have hu:P.underlying t=some (.array m e):=by
   obtain ⟨h1,h2,_⟩:=hT.at_ ht;rw [hk] at h2;rw [h1];exact bl some h2
  have hr:(Instr.sliceAt t (iT b) none (some (.int ik (j:Int))) none).run P w=.ok (.slice (jZ b) j m) w:=by
   simp [Instr.sliceAt,Instr.sureAddr,aQ hu,hb,Bv (hT.at_ he),Addr.add]
  exact Xc
def w_(L:Hl)(s:World)(n:Nat):(fill L s).drewN n=fill L (s.drewN n):=by
 induction L with
 | nil=>rfl
 | cons x L ih=>show pz ((fill L s).drewN n) x.1 x.2=pz (fill L (s.drewN n)) x.1 x.2;rw [ih]
def Le.drewN(s:World)(n:Nat):Le D s (s.drewN n):=⟨rfl,rfl,rfl,ay _,λ_ _=>.inr rfl⟩
def Z6(w:World)(b ty:Nat)(zs:iz)(f:Array Value->Array Value):Sort.mapBlock (pz w b (cb zs ty)) b f=pz w b (cb (f zs.toArray).toList ty):=by
  refine Dz (Dy λk=>?_) Z Z Z Z;show ((w.heap.setIfInBounds b _).modify b _)[k]?=(w.heap.setIfInBounds b _)[k]?;rw [fg];by_cases hk:b=k
  . subst hk
    rw [au rfl,dx,dx];split
    . simp [Sort.onCells,cb]
    . rfl
  . rw [ak hk,bW hk,bW hk]
section
variable{u:Nat}{l:iH}{w:World}{c:UInt8}
section
def qpt:tM prog 224:=⟨_,func224,V,V⟩
def qCc:tM prog 225:=⟨_,func225,V,V⟩
def qvl:tM prog 226:=⟨_,func226,V,V⟩
def qwv(h:u < 100):jU D 224 [iB (u:Int)] L s λv L' _=>v=St (Lib.decDigits u)/\L=L':=
 AC.of_calls qpt λ_=>(Any.internal_strconv_small lays283 u h (fill L s)).mono λe w' ⟨he,hw⟩=>⟨_,he,by rw [hw];exact Dp,λs' _ _ _=>⟨rfl,rfl⟩⟩
def qLe(hG:GW s)(h1:1<=u)(h2:u < 4294967296):jU D 225 [.int .u64 (u:Int)] L s λv L' _=>v=iB (Lib.nDigits u:Int)/\L=L':=
 AC.of_calls qCc λho=>(Any.internal_strconv_numDigits laysM284 u h1 O (fill L s) (qz0 laysM284.m17 (hG.le (BC ho)))).mono λe w' ⟨he,hw⟩=>⟨_,he,by rw [hw];exact Dp,λs' _ _ _=>⟨rfl,rfl⟩⟩
def Sc(h:u < 4294967296):Lib.nDigits u<=20:=by
  by_cases h1:1<=u
  . have:=Lib.numDigits_eq u h1 O;split at this<;>omega
  . obtain rfl:u=0:=O
    rw [Lib.nDigits];simp
def z24:iz:=List.replicate 24 (.int .u8 0)
def qrM(h2:u < 4294967296):jU D 226 [.slice (jZ b) (Lib.nDigits u) 24,.int .u64 (u:Int)] ((b,cb z24 ty)::L) s
    λv L' _=>v=.tuple #[]/\∃ ys,L'=(b,cb (bv (Lib.decDigits u)++ys) ty)::L/\(Lib.decDigits u).length+ys.length=24:=by
  refine ⟨qvl,λho=>?_⟩;have kO:=Sc h2;have hblk:(fill ((b,cb z24 ty)::L) s).heap[b]?=some (cb z24 ty):=qM ho Mc;have hH:Sort.Holds (λ(x:UInt8)=>Value.int .u8 (x.toNat:Int)) (fill ((b,cb z24 ty)::L) s) b 0 (Array.replicate (Lib.nDigits u) (0:UInt8)):=by
    intro j hj;have hj':j < Lib.nDigits u:=by simpa using hj
    refine ⟨?_,by unfold World.frozen?;rw [hblk];simp [cb]⟩;rw [aX,Ca ho Mc,fU _ j hj,z24,cU,au O];simp
  have h:=Any.internal_strconv_formatBase10 lays285 b 0 24 u (Array.replicate (Lib.nDigits u) 0) _ hH (by rw [fF];exact Lib.lt_pow_nDigits u) O (by rw [fF];omega);rw [fF] at h;refine h.mono ?_;rintro e w' ⟨he,n,v',dk,hw,hF⟩;have jp:dk.size=Lib.nDigits u:=hF.size;have iK:(Lib.decDigits u).length=Lib.nDigits u:=eL u;have hcells:(Sort.putCells (λ(x:UInt8)=>Value.int .u8 (x.toNat:Int)) 0 dk z24.toArray).toList=bv (Lib.decDigits u)++List.replicate (24 - Lib.nDigits u) (.int .u8 0):=by
    apply gr;intro k;simp only [Sort.putCells,Array.toList_mapIdx,da,aB,iw,aX,eO];by_cases hk:k < Lib.nDigits u
    . rw [aV (by simp [bv];omega)]
      have h24:z24[k]?=some (.int .u8 0):=by rw [z24,cU,au O]
      rw [h24];simp only [eT,jp,hk,bV,bv,bQ];rw [ap O,<- Lib.row_is_numeral hF k O];rfl
    . rw [aY (by simp [bv];omega)]
      have sN:¬ k < dk.size:=O
      have hbl:(bv (Lib.decDigits u)).length=Lib.nDigits u:=by simp [bv,iK]
      rw [hbl];by_cases h24:k < 24
      . have e1:z24[k]?=some (.int .u8 0):=by rw [z24,cU,au O]
        rw [e1];simp [sN,cU];omega
      . have e1:z24[k]?=none:=by simp [z24];omega
        rw [e1];simp [cU];omega
  have hworld:w'=fill ((b,cb (bv (Lib.decDigits u)++List.replicate (24 - Lib.nDigits u) (.int .u8 0)) ty)::L) (s.drewN n):=by
    rw [hw,Sort.putRow];show (Sort.mapBlock (pz (fill L s) b (cb z24 ty)) b _).drewN n=_;rw [Z6,hcells];exact w_ ((b,cb (bv (Lib.decDigits u)++List.replicate (24 - Lib.nDigits u) (.int .u8 0)) ty)::L) s n
  exact ⟨_,_,_,he,hworld,⟨ho.nd,λx hx=>by
    rcases aR.1 hx with rfl|hx
    . exact ho.dm (b,cb z24 ty) Mc
    . exact ho.dm x (an _ hx)⟩,Le.drewN s n,rfl,_,rfl,by simp;omega⟩
end
def qCK(h:Lib.parseUintB 32 l=.ok u):decide (Lib.decDigits u=l)=(wl l).isSome:=by
  by_cases hd:Lib.decDigits u=l
  . rw [(N9 l u).1 ⟨h,hd⟩,bL hd];rfl
  . rw [bR hd]
    cases hn:wl l with
    | none=>rfl
    | some v=>
      obtain ⟨h1,h2⟩:=(N9 l v).2 hn;rw [h] at h1;injection h1 with h1;subst h1
      exact absurd h2 hd
def qsx(h:∀ u,Lib.parseUintB 32 l≠.ok u):wl l=none:=by
 cases hn:wl l with
 | none=>rfl
 | some v=>exact absurd ((N9 l v).2 hn).1 (h v)
def qCL{v:Nat}(h:Lib.parseUintB 32 l=.ok u)(hn:wl l=some v):u=v:=by
 have h1:=((N9 l v).2 hn).1;rw [h] at h1;injection h1
def qtN{n:Int}:iQ (IntKind.u32.wrap n):=by rw [dP];exact ⟨O,O⟩
def NG(h:n < 4294967296):IntKind.u32.wrap (n:Int)=(n:Int):=by rw [dP];omega
def iO.tail{c:Nat}{x:iH}{l:List iH}(h:iO s A n c (x::l)):∃ A1 n1 c1,(Value.slice (if c=1 then A else A.map (·.add (1 * 1))) (n - 1) (c - 1))=Value.slice A1 n1 c1/\iO s A1 n1 c1 l:=by
  refine ⟨_,_,_,Z,?_,?_,?_,λi y hy=>?_⟩
  . have:=h.1;simp at this;omega
  . have:=h.2.1;omega
  . have:=h.2.2.1;omega
  . obtain ⟨b,off,cs,h1,h2,h3,h4⟩:=h.2.2.2 (i+1) y (by simpa using hy)
    have hc:¬ c=1:=by
      have:=h.1;have:=h.2.1;have:=(al.1 hy).1;simp at *;omega
    rw [ak hc,h1];exact ⟨b,off+1,cs,rfl,by rw [show off+1+i * 1=off+(i+1) * 1 by omega];exact h2,h3,h4⟩
def iO.head{c:Nat}{l:List iH}(h:iO s A n c l)(hn:0 < n):∃ b off x r,A=some ⟨b,off,none⟩/\l=x::r/\iy s b (off+0) [St x]/\x.length<=9223372036854775807:=by
 obtain ⟨b,off,x,h1,h2,h3,h4⟩:=iO.at_ h hn;obtain ⟨r,hr⟩:∃ r,l=x::r:=by
  cases l with
  | nil=>cases h2
  | cons y r=>simp at h2;subst h2;exact ⟨r,rfl⟩
 exact ⟨b,off,x,r,h1,hr,h3,h4⟩
structure GP(s:World):Prop where
 gw:GW s
 asc:∃ ty fz,s.heap[0]?=some (.cells (Lib.asciiSpaceTab.map λz=>Value.int .u8 z).toArray ty fz)
def GP.le(h:GP s)(hl:Le D s s'):GP s':=by
 obtain ⟨h1,⟨t,f,h2⟩⟩:=h;exact ⟨h1.le hl,⟨t,f,qrR h2 hl⟩⟩
def qG7(h:GP w):Lib.TabIs Tryz.prog w "strings.asciiSpace" .u8 Lib.asciiSpaceTab:=by
 obtain ⟨t,f,h1⟩:=h.asc;have hg:Tryz.prog.globalNamed "strings.asciiSpace" = some 0:=V
 simp only [Lib.TabIs,World.var?,hg,gJ,h1]
section
def qlF:tM Tryz.prog 215:=⟨_,Tryz.func215,V,V⟩
def Q_:tM Tryz.prog 88:=⟨_,Tryz.func88,V,V⟩
def okA(l:iH):Bool:=l.all λc=>decide (c.toNat < 128) && (decide (c=32) || decide (c=10) || !(decide (c.toNat=9) || decide (c.toNat=11) || decide (c.toNat=12) || decide (c.toNat=13)))
end
section
variable(s:World)
def qpZ{c:Nat}(h:iO s A n c ws)(hl:Le D s w){off:Nat}(hA:A=some ⟨b,off,none⟩):∀ (j:Nat) (x:ByteArray),(ws.map λx=>(⟨x.toArray⟩:ByteArray))[j]?=some x->w.cell? ⟨b,off+j,none⟩=some (.string x):=by
 intro j x hj;rw [bQ] at hj;obtain ⟨y,hy,rfl⟩:=dG.1 hj;obtain ⟨b',off',cs,h1,h2,_,rfl,_⟩:=h.2.2.2 j y hy;rw [hA] at h1;injection h1 with h1;injection h1 with e1 e2;subst e1;subst e2
 exact hl.cell (by simpa using h2 0 (St y) rfl)
end
attribute [local irreducible] JC JO JA JB ma mO mX AC fill iy QE Ev my
def qli{i:Nat}(hi:i≠0):tF i l=!l.any xV:=by
 induction l generalizing i with
 | nil=>rfl
 | cons c l ih=>
  simp only [tF,fw,ih (by omega:i+1≠0),uH,xV,hi,fM,gv,decide_true,dC,Bool.not_or];cases vc c<;>cases un c<;>rfl
def qpI(h:l[0]?=some c)(h6:l.length<=6)(hc:¬ ((c.toNat:Int) < 97)/\¬ (122 < (c.toNat:Int))):od l=!l.any xV:=by
 obtain ⟨r,rfl⟩:=TH h;have hl:vc c=true:=by simp only [vc,aA,aH];omega
 have h7:decide ((c::r).length<=6)=true:=bL h6;have hb:xV c=false:=by simp [xV,hl]
 simp only [od,tF,uH,hl,h7,gM,fx,fw,hb,ep,qli (l:=r) (i:=0+1) O];simp
def qvQ(h:l[0]?=some c)(hc:(c.toNat:Int) < 97\/122 < (c.toNat:Int)):od l=false:=by
 obtain ⟨r,rfl⟩:=TH h;have hl:vc c=false:=by rw [eD];simp only [vc,fM,aA,aH];omega
 simp [od,tF,uH,hl]
def JV{p:Prop} (h:p:=by
  refine ⟨?_,Z⟩;first
    | (simp [kU,od, *];done)
    | (rw [show od l=false from qvQ ry O];rfl)
    | (have h6:¬ l.length<=6:=by omega
       simp [kU,od,h6];done)
    | (rw [qpI ry O O];rfl)):p:=h
def Oe:jT D 193 [St l] L s (.bool (od l)):=by
 refine jn (fn:=f193) jb func193 V Z ntmps193 Z (rs:=[.tmp 2]) Z [(0,_)] Z<|G9 ?_;refine uZ Y3<|kb Y2<|?_;refine ld (t:=5) Z ?_ ?_<;>intro c1;.refine Wh ?_;exact rY Z λ_ iD=>JV
 refine G3 ?_;refine DT Z Z Z Z<|G4 ?_;refine ld (t:=10) Z ?_ ?_<;>intro c2;.refine zP ?_;exact rY Z λ_ iD=>JV
 refine G3 ?_;obtain ⟨ch,ry⟩:∃ ch,l[0]?=some ch:=⟨_,ap (fP.2 As)⟩;refine iA (Co Y4 ry) Z<|G4 ?_;refine ld (t:=15) Z ?_ ?_<;>intro c3;.refine rH ?_;exact rY Z λ_ iD=>JV
 refine G3 ?_;refine iA (Co Y4 ry) Z<|J5 ?_ ?_<;>intro c4;.refine G7 ?_;exact rY Z λ_ iD=>JV
 refine G5 ?_;refine Je Y3 (qmM) λs5 h5=>G5 ?_;exact rX [] L Z h5 λ_ iD=>JV
def qrG(c:UInt8)(l:iH):(D5 (rv c l) < 0/\pP c l=(l,[],false))\/∃ i:Nat,D5 (rv c l)=(i:Int)/\i+1<=l.length/\pP c l=(l.take i,l.drop (i+1),true):=by
 cases h:rv c l with
 | none=>exact .inl ⟨by simp [D5],by simp [pP,h]⟩
 | some i=>exact .inr ⟨i,rfl,qzw h,by simp [pP,h]⟩
def qBQ(hl:l.length<=9223372036854775806):jT D 236 [St l,St [c]] L s (.tuple #[St (pP c l).1,St (pP c l).2.1,.bool (pP c l).2.2]):=by
 refine jn (fn:=f236) jb func236 V Z ntmps236 Z (rs:=[.tmp 4,.tmp 5,.tmp 6]) Z [(0,_),(1,_)] Z<|mY ?_;refine Je Y3 (qvA) λs1 h1=>G6 ?_;refine va Y3<|J2 ?_ ?_<;>intro c2
 .obtain ⟨hneg,_⟩|⟨i,hi,zY,hcut⟩:=qrG c l
  . exact absurd c2 O
  rw [hi];refine Zs<|mr jt 12 Z _ (λ_ h=>h) λs3 h3=>H2 ?_;refine za 2 Z (qGG Z Z Z Z O) Z<|H3 ?_;refine za 6 Z (qqr Z Z Z) Z<|za 7 Z (nV (c:=((i+1:Nat):Int)) Z Z (by rw [jq Q6 Q6];simp)) Z<|za 8 Z (qGH Z Z Z Z O) Z<|H3 ?_;refine ji V<|G3 ?_;refine rR [] L (.tmp Z (.tmp Z (.t1 Z))) Z Lc λ_ iD=>?_;refine ⟨?_,Z⟩;rw [hcut];rfl
 obtain ⟨hneg,hcut⟩|⟨i,hi,_,_⟩:=qrG c l
 rotate_left
 . exact absurd c2 O
 refine lw ?_;refine rR [] L (.tmp Z (.tmp Z (.t1 Z))) Z h1 λ_ iD=>?_;refine ⟨?_,Z⟩;rw [hcut];rfl
def qzl(hl:l.length<=9223372036854775806):jT D 189 [St l,St [c]] L s (.tuple #[St (pP c l).1,St (pP c l).2.1,.bool (pP c l).2.2]):=by
 refine jn (fn:=f189) jb func189 V Z ntmps189 Z (rs:=[.tmp 4,.tmp 5,.tmp 6]) Z [(0,_),(1,_)] Z<|lw ?_;refine Je Y3 (qBQ hl) λs1 h1=>G9 ?_;exact rR [] L (.tmp Z (.tmp Z (.t1 Z))) Z h1 λ_ iD=>qH
def qqO(hl:l.length<=4000000):jU D 100 [St l,St [c]] L s λv L' s'=>L=L'/\∃ A n c',v=.slice A n c'/\iO s' A n c' (splitB (c.toNat:Int) l):=by
 refine jn (fn:=f100) jb func100 V Z ntmps100 Z (rs:=[.tmp 4]) Z [(0,_),(1,_)] Z<|G9 ?_;refine Jc Y3 (qm1 hl) ?_;rintro _ _ s1 h1 ⟨rfl,Ar,nr,cr,rfl,hr⟩;refine G4 ?_;exact rX [] L Z h1 λ_ iD=>⟨rfl,_,_,_,rfl,hr.le Lc⟩
end
section
variable{l lab o:iH}{W R r:List iH}
structure Ln where
 label:iH
 op:iH
 has:Bool
 name:iH
 num:Int
 deriving DecidableEq
def Ln.cs(x:Ln):iz:=[St x.label,St x.op,.bool x.has,St x.name,iJ x.num]
def xY(w:iH):Option (iH×Int):=
 if od (pP 43 w).1=true then (if (pP 43 w).2.2=true then (wl (pP 43 w).2.1).map (λ(n:Nat)=>((pP 43 w).1,(n:Int))) else some ((pP 43 w).1,0)) else (wl w).map λ(n:Nat)=>([],(n:Int))
def C8:List iH->Option (iH×List iH)
 | []=>some ([],[])
 | w::r=>if DU 58 w=true then (if od w.dropLast=true then some (w.dropLast,r) else none) else some ([],w::r)
def zF(lab:iH):List iH->Option Ln
 | []=>some ⟨lab,[],false,[],0⟩
 | [o]=>if od o=true then some ⟨lab,o,false,[],0⟩ else none
 | [o,w]=>if od o=true then (xY w).map λx=>⟨lab,o,true,x.1,x.2⟩ else none
 | _::_::_::_=>none
def Si(ws:List iH):Option Ln:=(C8 ws).bind λx=>zF x.1 x.2
def rm(l:iH):Option Ln:=Si (vA (pP 59 l).1)
theorem qri(c:UInt8)(l:iH):(pP c l).1.length<=l.length/\(pP c l).2.1.length<=l.length:=by grind [pP]
def b_(h:od l=true):l≠[]/\l.length<=6:=by simp_all [od,aA,aH]
def Gi(hW:vA (pP 59 l).1=W)(h:C8 W=some (lab,R)):rm l=zF lab R:=by
 rw [rm,Si,hW,h];rfl
def qvF(hW:vA (pP 59 l).1=W)(h:C8 W=none):rm l=none:=by
 rw [rm,Si,hW,h];rfl
def qlf(h:od o=true):zF lab [o]=some ⟨lab,o,false,[],0⟩:=by simp [zF,h]
def qlg{w:iH}(h:od o=true):zF lab [o,w]=(xY w).map λx=>⟨lab,o,true,x.1,x.2⟩:=by simp [zF,h]
def qqW(h:od o=false):zF lab (o::r)=none:=by
 match r with
 | []=>simp [zF,h]
 | [w]=>simp [zF,h]
 | _::_::_=>rfl
def qo7(h:2 < r.length):zF lab r=none:=by
 match r,h with
 | _::_::_::_,_=>rfl
attribute [local irreducible] JC JO JA JB ma mO mX AC fill iy QE Ev my
def qvf(hG:GW s){u:Nat}(hu:u < 4294967296):jT D 219 [.int .u64 (u:Int),iB 10] L s (St (Lib.decDigits u)):=by
 refine jn (fn:=f219) jb func219 V Z ntmps219 Z (rs:=[.tmp 4]) Z [(0,_),(1,_)] Z<|x8 ?_ ?_<;>intro c1
 .refine J7 ?_ ?_<;>intro c2;.refine Sr<|kb Y2<|iA (sW Y5 (jq O O)) Z<|Je Y3 (qwv O) λs3 h3=>G6 ?_;exact rX [] L Z h3 λ_ iD=>qH
  refine Zk<|Zt<|Sr<|jh Z [_,_,_,_,_,_,_,_,_,_,_,_,_,_,_,_,_,_,_,_,_,_,_,_] Y2 λβ3 s3 h3=>G5 ?_;refine Je Y3 (qLe Pz O hu) λs4 h4=>G6 ?_;refine iA (qyY Z Z Z Z Z (by have:=Sc hu;omega)) Z<|kb Y2<|Jc Y3 (qrM hu) ?_;rintro _ _ s5 h5 ⟨rfl,ys,rfl,hys⟩;refine Nt<|Zs<|uz [] [_] ?_;intro s6 h6 hpub6;simp only [jC,jD];have hbt:=qqY (l:=Lib.decDigits u) (hpub6 _ _ _ Mc) hys O;rw [eL] at hbt;refine Zr<|kb Y2<|iA (qyY Z Z Z Z Z (by have:=Sc hu;omega)) Z<|iA (UN Z Z Z Z Z Z Z Pz) Z<|G5 ?_;exact rX [] L Z Lc λ_ iD=>qH
 exact absurd rfl c1
def W2{p:Prop} (h:p:=by
 rintro _ _ s1 h1 ⟨rfl,rfl⟩;refine G4 ?_;exact rX [] L Z h1 λ_ iD=>qH):p:=h
def qrC(hG:GW s){u:Nat}(hu:u < 4294967296):jT D 176 [.int .u64 (u:Int),iB 10] L s (St (Lib.decDigits u)):=by
 refine jn (fn:=f176) jb func176 V Z ntmps176 Z (rs:=[.tmp 4]) Z [(0,_),(1,_)] Z<|G9 ?_;refine Jc Y3 (qvf Pz hu) ?_;exact W2
def Ra:prog.underlying 195=some (.interface (prog.methodsAt 195)):=by kernel_rfl
def qsK(hG:GW s)(hl:l.length<=281474976710656):jU D 264 [St l,iB 10,iB 32] L s λv L' _=>L=L'/\∃ n e b,v=.tuple #[.int .u64 n,e]/\WL e b/\(b=true->∃ u:Nat,n=(u:Int)/\Lib.parseUintB 32 l=.ok u)/\(b=false->∀ u,Lib.parseUintB 32 l≠.ok u):=
 (qv7 hG hl).mono λv L' s' _ ⟨hv,hL⟩=>by
  refine ⟨hL,?_⟩;cases hv with
  | ok u h=>exact ⟨_,_,true,rfl,.inl ⟨rfl,rfl⟩,λ_=>⟨u,rfl,h⟩,λh=>by cases h⟩
  | bad h n t p=>exact ⟨_,_,false,rfl,.inr ⟨_,_,rfl,rfl⟩,(λh=>by cases h),λ_=>h⟩
def GZ{p:Prop} (h:p:=by
  first
    | (refine ⟨rfl,IntKind.u32.wrap (u:Int),?_,qtN,λv hv=>?_⟩
       . rw [<- qCK hu];rfl
       . have:=qCL hu hv;subst this;exact NG (by have:=gy hu;omega))
    | (refine ⟨rfl,IntKind.u32.wrap n,?_,qtN,λv hv=>?_⟩
       . rw [qsx (hF As)];rfl
       . rw [qsx (hF As)] at hv;cases hv)):p:=h
def f_(hG:GW s)(hl:l.length<=281474976710656):jU D 239 [St l] L s λv L' _=>L=L'/\∃ k,v=.tuple #[iJ k,.bool (wl l).isSome]/\iQ k/\∀ u,wl l=some u->k=(u:Int):=by
 refine jn (fn:=f239) jb func239 V Z ntmps239 Z (rs:=[.tmp 2,.tmp 3]) Z [(0,_)] Z<|G9 ?_;refine Jc Y3 (qsK Pz hl) ?_;rintro _ _ s1 h1 ⟨rfl,n,e,b,rfl,hE,hT,hF⟩;refine lM ?_;refine iA (Kx Z Z Z Z Z) Z<|kb Y2<|iA (qAN Ra Z hE) Z<|kb Y2 ?_;refine Gs (t:=15) Z ?_ ?_<;>intro c2;.refine Zg Z Z ?_;obtain ⟨u,rfl,hu⟩:=hT As;refine G2 ?_;refine Je Y3 (qrC Pz (by have:=gy hu;omega)) λs3 h3=>G3 ?_;refine uZ Y3<|G6 ?_;exact rR [] L (.tmp Z (.t1 Z)) Z Lc λ_ iD=>GZ
 refine lM ?_;exact rR [] L (.tmp Z (.t1 Z)) Z h1 λ_ iD=>GZ
def Qb{p:Prop} (h:p:=by
  first
    | (refine ⟨rfl,(pP 43 l).1,0,?_,vy,λx hx=>?_⟩
       . rw [show xY l=some ((pP 43 l).1,0) by rw [xY,au Bi,ak (by rw [zi];decide)]];rfl
       . rw [show xY l=some ((pP 43 l).1,0) by rw [xY,au Bi,ak (by rw [zi];decide)]] at hx;injection hx)
    | (have he:xY l=(wl (pP 43 l).2.1).map (λ(n:Nat)=>((pP 43 l).1,(n:Int))):=by rw [xY,au Bi,au zi]
       refine ⟨Z,(pP 43 l).1,k,?_,hku,λx hx=>?_⟩
       . rw [he,eE];rfl
       . rw [he] at hx
         obtain ⟨u,hu,rfl⟩:=dG.1 hx;rw [hkv u hu])
    | (have he:xY l=(wl l).map (λ(n:Nat)=>([],(n:Int))):=by rw [xY,ak (by rw [Bi];decide)]
       refine ⟨Z,[],k,?_,hku,λx hx=>?_⟩
       . rw [he,eE];rfl
       . rw [he] at hx
         obtain ⟨u,hu,rfl⟩:=dG.1 hx;rw [hkv u hu])):p:=h
def RK{p:Prop} (h:p:=by
 exact rR [_] L (.agg (us:=[_,_]) 0 Z Z Z Z Z (.t1 Z)) Z Lc λ_ iD=>Qb):p:=h
def g_(hG:GW s)(hl:l.length<=281474976710656):jU D 194 [St l] L s λv L' _=>L=L'/\∃ nm k,v=.tuple #[.agg #[St nm,iJ k],.bool (xY l).isSome]/\iQ k/\∀ x,xY l=some x->(nm,k)=x:=by
 have qA:=(qri 43 l).2;refine jn (fn:=f194) jb func194 V Z ntmps194 Z (rs:=[.cell 2 210,.tmp 3]) Z [(0,_)] Z<|Sr<|jh Z [_,_] Y2 λβ1 s1 h1=>G6 ?_;refine Je Y3 (qzl O) λs2 h2=>Jo ?_;refine Je Y3 (Oe) λs3 h3=>G2 ?_;refine su Z ?_ ?_<;>intro c4
 .have Bi:=c4;refine G7 ?_;refine vZ Z ?_ ?_<;>intro c5;.have zi:=c5;refine Sr<|kb Y2<|iA (jB [(_,_)] [_,_] Y3 Z Z Z) Z<|Wt 0 [_,_] Y9<|G6 ?_;exact RK
  have zi:=c5;refine G5 ?_;refine Jc Y3 (f_ Pz O) ?_;rintro _ _ s6 h6 ⟨rfl,k,rfl,hku,hkv⟩;refine lw ?_;refine iA (jB [(_,_),(_,_)] [_,_] Y3 Z Z Z) Z<|kb Y2<|Wt 0 [_,_] Y9<|G5 ?_;exact RK
 have Bi:=c4;refine G5 ?_;refine Jc Y3 (f_ Pz hl) ?_;rintro _ _ s5 h5 ⟨rfl,k,rfl,hku,hkv⟩;refine lM ?_;refine iA (jB [(_,_)] [_,_] Y3 Z Z Z) Z<|kb Y2<|Wt 0 [_,_] Y9<|G4 ?_;exact RK
def EQ{p:Prop} (h:p:=by
  first
    | (have hN:rm l=none:=by
         first
         | exact qvF hWW (by rw [C8,au he,ak (by rw [Bi];decide)])
         | (rw [hlab];exact qqW As)
         | (rw [hlab];exact qo7 (by simp only [aw];omega))
       rw [hN];exact ⟨rfl,⟨[],[],false,[],0⟩,rfl,vy,λy hy=>by cases hy⟩)
    | (rw [hlab,qlg As,eE]
       first
       | exact ⟨rfl,⟨[],w1,true,nm,kk⟩,rfl,hku,λy hy=>by
           obtain ⟨x,hx,rfl⟩:=dG.1 hy;have:=hkv x hx;subst this;rfl⟩
       | exact ⟨rfl,⟨w0.dropLast,w1,true,nm,kk⟩,rfl,hku,λy hy=>by
           obtain ⟨x,hx,rfl⟩:=dG.1 hy;have:=hkv x hx;subst this;rfl⟩)
    | (obtain rfl:R1=[]:=aJ O
       rw [hlab,qlf As];first
       | exact ⟨rfl,⟨[],w1,false,[],0⟩,rfl,vy,λy hy=>by injection hy⟩
       | exact ⟨rfl,⟨w0.dropLast,w1,false,[],0⟩,rfl,vy,λy hy=>by injection hy⟩)
    | (have hR:R=[]:=aJ O
       subst hR;rw [hlab];exact ⟨rfl,⟨w0.dropLast,[],false,[],0⟩,rfl,vy,λy hy=>by injection hy⟩)
    | (rw [hlab]
       exact ⟨rfl,⟨[],[],false,[],0⟩,rfl,vy,λy hy=>by injection hy⟩)
    | (exfalso;simp only [aw] at hn;omega)):p:=h
def Rw{p:Prop} (h:p:=by
 exact rR [_,_] L (.agg (us:=[_,_,_,_,_]) 1 Z Z Z Z Z (.t1 Z)) Z (h1.t h2|>.t h3|>.t h4|>.t h6|>.t h9) λ_ iD=>EQ):p:=h
def Rv{p:Prop} (h:p:=by
 exact rR [_,_] L (.agg (us:=[_,_,_,_,_]) 1 Z Z Z Z Z (.t1 Z)) Z (h1.t h2|>.t h3|>.t h4|>.t h6|>.t h8|>.t jG|>.t jE) λ_ iD=>EQ):p:=h
def qnh(hG:GW s)(hl:l.length<=400000):jU D 140 [St l] L s λv L' _=>L=L'/\∃ x:Ln,v=.tuple #[.agg x.cs.toArray,.bool (rm l).isSome]/\iQ x.num/\∀ y,rm l=some y->x=y:=by
 have qA:=(qri 59 l).1;refine jn (fn:=Tryz.f140) jb Tryz.func140 V Z Tryz.ntmps140 Z (rs:=[.cell 2 252,.tmp 3]) Z [(0,_)] Z<|Sr<|jh Z [_,_,_,_,_] Y2 λβ1 s1 h1=>G6 ?_;refine Je Y3 (qzl O) λs2 h2=>lM ?_;refine Jc Y3 (qrw O) ?_;have e2q:=h1.t h2;rintro _ _ s3 h3 ⟨rfl,Aw,nw,cw,rfl,hW⟩;have e3:=e2q.t h3;have hn:=hW.1;have pv:∀ x∈vA (pP 59 l).1,x.length<=400000:=λx hx=>by have:=(qrB hx).2;omega
 generalize hWW:vA (pP 59 l).1=W at hW pv hn;refine At Z Z<|Sr<|jh Z [_,_,_,_,_] Y2 λβ4 s4 h4=>lM ?_;have e4:=e3.t h4;refine mG Z ?_ ?_<;>intro c5
 .obtain ⟨b0,off0,w0,R,rfl,hWc,hc0,hlw0⟩:=iO.head (hW.le h4) (show 0 < nw by omega);subst hWc;refine Sr<|kb Y2<|iA (lK (j:=0) Y6 (show 0 < nw by omega)) Z<|iA (jS Y3 (hc0.le (Lr D)) Z) Z<|Je Y3 (qlo hlw0) λs6 h6=>mY ?_;have e6:=e4.t h6;refine su Z ?_ ?_<;>intro c7
  .have he:=c7;rw [au he];refine G4 ?_;refine Je Y3 (Oe) λs8 h8=>G3 ?_;refine vZ Z ?_ ?_<;>intro c9;.have Bi:=c9;refine Sr<|iA (jB [] [_,_,_,_,_] Y3 Z Z Z) Z<|Wt 1 [_,_,_,_,_] Y9<|G6 ?_;exact rR [_,_] L (.agg (us:=[_,_,_,_,_]) 1 Z Z Z Z Z (.t1 Z)) Z (e6.t h8) λ_ iD=>EQ
   have Bi:=c9;obtain ⟨A1,n1,c1,hsl,kM⟩:=iO.tail (hW.le (h4.t h6|>.t h8));have hlab:rm l=zF w0.dropLast R:=Gi hWW (by rw [C8,au he,au Bi]);have l7:=kM.1;refine Zk<|Zt<|pM jt 6 Z [0] Q4 λkH jG=>H2 ?_;refine za 2 Z (kK (UR (j:=1) Z Z Z Z Z O) hsl) Z<|H1 ?_;refine iF 4 V<|Wu Z Tt 0 [_,_,_,_,_] Y9 (sM (nD (jL)))<|H1 ?_;refine ji V<|G9 ?_;have e10:=e6.t h8|>.t jG;refine mG Z ?_ ?_<;>intro nZ;.have hz1:=nZ;refine Sr<|iA (iZ 0 [_,_,_,_,_] Y5) Z<|Wt 1 [_,_,_,_,_] Y9<|G5 ?_;exact rR [_,_] L (.agg (us:=[_,_,_,_,_]) 1 Z Z Z Z Z (.t1 Z)) Z e10 λ_ iD=>EQ
   obtain ⟨b1,off1,w1,R1,rfl,hR1,nI,hlw1⟩:=iO.head (kM.le jG) O;subst hR1;simp only [aw] at l7;refine G6 ?_;refine iA (lK (j:=0) Y6 O) Z<|iA (jS Y3 (nI.le (Lr D)) Z) Z<|Je Y3 (Oe) λkh jE=>G2 ?_;refine Fa (t:=45) Z ?_ ?_<;>intro pZ;.refine G9 ?_;refine iA (jB [] [_,_,_,_,_] Y3 Z Z Z) Z<|Wt 1 [_,_,_,_,_] Y9<|G5 ?_;exact Rv
   refine J9 ?_ ?_<;>intro rI;.refine Sr<|iA (jB [] [_,_,_,_,_] Y3 Z Z Z) Z<|Wt 1 [_,_,_,_,_] Y9<|G5 ?_;exact Rv
   refine G5 ?_;refine iA (lK (j:=0) Y6 O) Z<|iA (jS Y3 (nI.le jE) Z) Z<|Wb Y5<|Wt 0 [_,_,_,_,_] Y9<|EE ?_ ?_<;>intro vJ
   .obtain ⟨b2,off2,w2,lR,hw2,pt,hlw2⟩:=iO.at_ (kM.le (jG.t jE)) (show 1 < _ by omega);injection lR with lR
    injection lR with e1 e2;subst e1;subst e2;have qX:w2.length<=400000:=pv _ Q31;obtain rfl:R1=[w2]:=by
      match R1,hw2,l7 with
      | [],h,_=>cases h
      | [y],h,_=>simp at h;rw [h]
      | _::_::_,_,h=>simp at h;omega
    refine Sr<|Wb Y5<|Wt 0 [_,_,_,_,_] Y9<|G4 ?_;refine iA (lK (j:=1) Y6 O) Z<|iA (jS Y3 (pt.le (Lr D)) Z) Z<|Jc Y3 (g_ (hG.le (e10.t jE)) O) ?_;rintro _ _ sB tu ⟨rfl,nm,kk,rfl,hku,hkv⟩;refine X23 ?_;exact rR [_,_] L (.agg (us:=[_,_,_,_,_]) 1 Z Z Z Z Z (.t1 Z)) Z (e10.t jE|>.t tu) λ_ iD=>EQ
   refine Zk<|Zt<|Sr<|iA (iZ 0 [_,_,_,_,_] Y5) Z<|kb Y2<|Wt 1 [_,_,_,_,_] Y9<|G4 ?_;exact Rv
  have he:=c7;have hlab:rm l=zF [] (w0::R):=Gi hWW (by rw [C8,ak (by rw [he];decide)]);have kM:=hW.le (h4.t h6);refine tQ ?_ ?_<;>intro c8;.have hz1:=c8;exfalso;omega
  have nI:=hc0.le h6;have hlw1:=hlw0;obtain ⟨w1,R1,e1,e2⟩:∃ a b,a=w0/\b=R:=⟨_,_,rfl,rfl⟩;subst e1;subst e2;have l7:=hn;simp only [aw] at l7;refine G6 ?_;refine iA (lK (j:=0) Y6 O) Z<|iA (jS Y3 (nI.le (Lr D)) Z) Z<|Je Y3 (Oe) λs9 h9=>G2 ?_;refine Fa (t:=45) Z ?_ ?_<;>intro mz;.refine G9 ?_;refine iA (jB [] [_,_,_,_,_] Y3 Z Z Z) Z<|Wt 1 [_,_,_,_,_] Y9<|G5 ?_;exact Rw
  refine J9 ?_ ?_<;>intro nZ;.refine Sr<|iA (jB [] [_,_,_,_,_] Y3 Z Z Z) Z<|Wt 1 [_,_,_,_,_] Y9<|G5 ?_;exact Rw
  refine G5 ?_;refine iA (lK (j:=0) Y6 O) Z<|iA (jS Y3 (nI.le h9) Z) Z<|Wb Y5<|Wt 0 [_,_,_,_,_] Y9<|EE ?_ ?_<;>intro oL
  .obtain ⟨b2,off2,w2,lR,hw2,pt,hlw2⟩:=iO.at_ (kM.le h9) (show 1 < _ by omega);injection lR with lR
   injection lR with e1 e2;subst e1;subst e2;have qX:w2.length<=400000:=pv _ Q31;obtain rfl:R1=[w2]:=by
     match R1,hw2,l7 with
     | [],h,_=>cases h
     | [y],h,_=>simp at h;rw [h]
     | _::_::_,_,h=>simp at h;omega
   refine Sr<|Wb Y5<|Wt 0 [_,_,_,_,_] Y9<|G4 ?_;refine iA (lK (j:=1) Y6 O) Z<|iA (jS Y3 (pt.le (Lr D)) Z) Z<|Jc Y3 (g_ (hG.le (e6.t h9)) O) ?_;rintro _ _ lq kV ⟨rfl,nm,kk,rfl,hku,hkv⟩;refine X23 ?_;exact rR [_,_] L (.agg (us:=[_,_,_,_,_]) 1 Z Z Z Z Z (.t1 Z)) Z (e6.t h9|>.t kV) λ_ iD=>EQ
  refine Zk<|Zt<|Sr<|iA (iZ 0 [_,_,_,_,_] Y5) Z<|kb Y2<|Wt 1 [_,_,_,_,_] Y9<|G4 ?_;exact Rw
 have hW0:W=[]:=aJ O;subst hW0;have hlab:rm l=zF [] []:=Gi hWW rfl;have kM:=hW;refine tQ ?_ ?_<;>intro c6;.have hz1:=c6;refine Sr<|iA (iZ 0 [_,_,_,_,_] Y5) Z<|Wt 1 [_,_,_,_,_] Y9<|G5 ?_;exact rR [_,_] L (.agg (us:=[_,_,_,_,_]) 1 Z Z Z Z Z (.t1 Z)) Z e4 λ_ iD=>EQ
 exact absurd (by simp at hn;omega) c6
end
variable{x:Ln}
section
variable{w1:iG}{code xk yc:Int}{own xh:Bool}{R:Hl}{a:Nat×Obj}{t:oK}{Ay:iE}{k xl xo xn yn:iH}
structure AG where
 vw:Value
 Mw:Hl
 vl:Value
 Ml:Hl
 vr:Value
 Mr:Hl
 es:List (iH×Value×Nat)
 ck:Nat
 w:iG
 l:List (iH×Int)
 r:List (Int×Nat×iH×Int)
variable{g:AG}
def FJ(l:List (iH×Int)):iz:=(l.map λx=>[St x.1,Value.int .u32 x.2]).flatten
def GQ(r:List (Int×Nat×iH×Int)):iz:=(r.map λx=>[Value.int .i64 x.1,Value.int .i64 (x.2.1:Int),St x.2.2.1,Value.int .u32 x.2.2.2]).flatten
def mw:List (iH×Int)->iH->Option Int
 | [],_=>none
 | x::l,k=>if x.1=k then some x.2 else mw l k
structure nQ(g:AG):Prop where
 hw:Own 34 1 g.Mw g.vw g.w.length (wv g.w)
 hl:Own 256 2 g.Ml g.vl g.l.length (FJ g.l)
 hr:Own 212 4 g.Mr g.vr g.r.length (GQ g.r)
 he:∀ k,kX g.es k=(mw g.l k).map (Value.int .u32)
 uw:∀ x∈g.w,iQ x
 ul:∀ x∈g.l,iQ x.2
 ur:∀ x∈g.r,iQ x.2.2.2
def HA(ba bm:Nat)(tc:Int)(A:iE)(n c:Nat)(g:AG)(L:Hl):Hl:=
 (ba,cb [iB tc,.slice A n c,g.vw,g.vl,.map (some bm),g.vr] 158)::(bm,mp (λl=>St l) g.es g.ck)::(g.Mw++(g.Ml++(g.Mr++L)))
def qvE(l:List (iH×Int))(k:iH)(a:Int):FJ (l++[(k,a)])=FJ l++[St k,iJ a]:=by simp [FJ]
def qwi(r:List (Int×Nat×iH×Int))(i:Int)(p:Nat)(k:iH)(a:Int):GQ (r++[(i,p,k,a)])=GQ r++[iB i,iB (p:Int),St k,iJ a]:=by simp [GQ]
def qEP(w:iG)(x:Int):wv (w++[x])=wv w++[iJ x]:=by simp [wv]
def qyL(w:iG)(m:Nat):wv (w++List.replicate m 0)=wv w++List.replicate m (iJ 0):=by simp [wv]
def a_(l:List (iH×Int))(k j:iH)(a:Int)(h:mw l k=none):mw (l++[(k,a)]) j=if j=k then some a else mw l j:=by
  induction l with
  | nil=>simp only [aC,mw];by_cases h':k=j<;>simp [h',eq_comm]
  | cons x l ih=>
    simp only [mw] at h;split at h
    . cases h
    . rename_i hx
      simp only [ao,mw,ih h];by_cases hj:x.1=j
      . subst hj;simp [hx]
      . simp [hj]
def ss:iH:=[115,112,97,99,101]
def qf(w:iG)(x:Ln)(code:Int)(own:Bool):iG:=
 if x.op=ss then w++List.replicate x.num.toNat 0 else if x.has then (if own then w else w++[code])++[x.num] else (if own then w else w++[code])
def sZ(r:List (Int×Nat×iH×Int))(w:iG)(i:Int)(x:Ln)(code:Int)(own:Bool):List (Int×Nat×iH×Int):=
 if x.op=ss then r else if x.has=true/\x.name≠[] then r++[(i,(if own then w else w++[code]).length,x.name,x.num)] else r
def Tf(h:x.op=ss):qf w x code own=w++List.replicate x.num.toNat 0:=by rw [qf,au h]
def qmP(h:x.op=ss):sZ r w i x code own=r:=by rw [sZ,au h]
def KP(ba bm:Nat)(tc:Int)(A:iE)(n c:Nat)(g:AG)(x:Nat×Obj)(L:Hl):(HA ba bm tc A n c g (x::L)).Perm (x::HA ba bm tc A n c g L):=by
 unfold HA;refine List.Perm.trans ?_ (List.Perm.trans (List.Perm.cons _ (List.Perm.swap _ _ _)) (List.Perm.swap _ _ _));refine List.Perm.cons _ (List.Perm.cons _ ?_);refine List.Perm.trans ?_ (eP);refine gX _ ?_;refine List.Perm.trans ?_ (eP);exact gX _ eP
def UM(ba bm:Nat)(tc:Int)(A:iE)(n c:Nat)(g:AG)(x y:Nat×Obj)(L:Hl):(HA ba bm tc A n c g (x::y::L)).Perm (x::y::HA ba bm tc A n c g L):=
 (KP ..).trans (List.Perm.cons _ (KP ..))
def yD(o:iH):Bool:=decide (o=[119,111,114,100]\/o=[115,112,97,99,101])
def rZ(l:List Ins)(nm:iH):Option Ins:=l.find? λy=>decide (y.name=nm)
def wU(t:oK)(o:iH):Int:=match rZ t.U o with
 | some z=>z.code
 | none=>0
def FQ(t:oK)(o:iH):Bool:=match rZ t.U o with
 | some z=>z.I
 | none=>false
def qh(t:oK)(w:iG)(x:Ln):iG:=if x.op=[] then w else qf w x (wU t x.op) (yD x.op)
def xU(w:iG)(l:List (iH×Int))(x:Ln):List (iH×Int):=if x.label=[] then l else l++[(x.label,(w.length:Int))]
def uF(t:oK)(w:iG)(r:List (Int×Nat×iH×Int))(i:Int)(x:Ln):List (Int×Nat×iH×Int):=if x.op=[] then r else sZ r w i x (wU t x.op) (yD x.op)
def pC(t:oK)(w:iG)(l:List (iH×Int)):Option Ln->Int
 | none=>1
 | some x=>if x.label≠[]/\(mw l x.label).isSome=true then 8 else if x.op=[] then 0
  else if (rZ t.U x.op).isSome=false/\yD x.op=false then 12
  else if x.has≠(yD x.op || FQ t x.op) then 9
  else if x.op=[115,112,97,99,101]/\x.name≠[] then 6
  else if t.cells < ((qh t w x).length:Int) then 14 else 0
section
variable{t:oK}(h8:¬ (x.label≠[]/\(mw l x.label).isSome=true))(ho:¬ x.op=[])
include h8 ho
theorem qBh(h:(rZ t.U x.op).isSome=false/\¬ (x.op=[119,111,114,100]\/x.op=[115,112,97,99,101])):pC t w l (some x)=12:=by
 rw [pC,ak h8,ak ho,au ⟨h.1,bR h.2⟩]
variable(AX:¬ ((rZ t.U x.op).isSome=false/\¬ (x.op=[119,111,114,100]\/x.op=[115,112,97,99,101])))(hoo:FQ t x.op=yo)
include AX hoo
theorem qGX(h90:¬ x.has=(decide (x.op=[119,111,114,100]\/x.op=[115,112,97,99,101]) || yo)):pC t w l (some x)=9:=by
 rw [pC,ak h8,ak ho,ak (λh=>AX ⟨h.1,dw h.2⟩),hoo];exact au h90
variable(h90:¬ ¬ x.has=(decide (x.op=[119,111,114,100]\/x.op=[115,112,97,99,101]) || yo))
include h90
theorem qGW(h99:x.op=[115,112,97,99,101]/\¬ x.name=[]):pC t w l (some x)=6:=by
 rw [pC,ak h8,ak ho,ak (λh=>AX ⟨h.1,dw h.2⟩),hoo];exact (ak h90).trans (au h99)
theorem qGV(h99:¬ (x.op=[115,112,97,99,101]/\¬ x.name=[])):pC t w l (some x)=if t.cells < ((qh t w x).length:Int) then 14 else 0:=by
 rw [pC,ak h8,ak ho,ak (λh=>AX ⟨h.1,dw h.2⟩),hoo];exact (ak h90).trans (ak h99)
end
def qrq(w:iG)(x:Ln)(c d:Int):qf w x c true=qf w x d true:=by simp [qf]
def qro(r:List (Int×Nat×iH×Int))(w:iG)(i:Int)(x:Ln)(c d:Int):sZ r w i x c true=sZ r w i x d true:=by simp [sZ]
attribute [local irreducible] JC JO JA JB ma mO mX AC fill iy QE Ev my
def qvb(nm:iH){n' c' β:Nat}:jU D 195 [.agg #[St y.name,iJ y.code,.bool y.I,.slice A' n' c'],iT β] (x0::(β,cb [St nm] 9)::L) s λv L' _=>v=.bool (decide (y.name=nm))/\x0::(β,cb [St nm] 9)::L=L':=by
 refine jn (fn:=f195) jb func195 V Z ntmps195 Z (rs:=[.tmp 3]) Z [(0,_),(1,_)] Z<|Sr<|kF Y2 λβ1 s1 h1=>G8 ?_;refine uZ Y3<|At Z Z<|Zo ?_;exact rR [_] (x0::(β,cb [St nm] 9)::L) (.t1 Z) Z h1 λ_ iD=>qH
def qoj{α:Type}(p:α->Bool)(l:List α)(j:Nat):(j6 p l j=-1/\l.find? p=none)\/∃ i x,j6 p l j=((j+i:Nat):Int)/\l[i]?=some x/\l.find? p=some x:=by
 induction l generalizing j with
 | nil=>exact .inl ⟨rfl,rfl⟩
 | cons y l ih=>
  simp only [j6,List.find?];cases h:p y with
  | true=>exact .inr ⟨0,y,Ξ,rfl,rfl⟩
  | false=>
   rcases ih (j+1) with ⟨h1,h2⟩|⟨i,x,h1,h2,h3⟩
   . exact .inl ⟨by simpa using h1,h2⟩
   . exact .inr ⟨i+1,x,by simp only [dq,bY];rw [h1];congr 1;omega,h2,h3⟩
def Qc{p:Prop} (h:p:=by
  first
    | (refine ⟨rfl,y,A',n',c',?_,je,λz hz=>?_,λhz=>?_⟩
       . rw [rZ,hf];rfl
       . rw [rZ,hf] at hz;injection hz
       . rw [rZ,hf] at hz;cases hz)
    | (refine ⟨rfl,⟨[],0,false,[]⟩,none,0,0,?_,vy,λz hz=>?_,λ_=>rfl⟩
       . rw [rZ,hf];rfl
       . rw [rZ,hf] at hz;cases hz)):p:=h
def Yq{p:Prop} (h:p:=by
 exact rR [_,_] _ (.agg (us:=[_,_,_,_]) 0 Z Z Z Z Z (.t1 Z)) Z Lc λ_ iD=>Qc):p:=h
def qvc(bm:Nat)(hA:ki s A n c t.U)(g:AG):jU D 141 [iT ba,St nm] (HA ba bm t.cells A n c g L) s λv L' _=>L'=HA ba bm t.cells A n c g L/\∃ (y:Ins) (Ay:iE) (ny cy:Nat),v=.tuple #[.agg #[St y.name,iJ y.code,.bool y.I,.slice Ay ny cy],.bool (rZ t.U nm).isSome]/\iQ y.code/\(∀ z,rZ t.U nm=some z->y=z)/\(rZ t.U nm=none->y.I=false):=by
 have hn:=hA.1;simp only [HA];refine jn (fn:=f141) jb func141 V Z ntmps141 Z (rs:=[.cell 4 111,.tmp 5]) Z [(0,_),(1,_)] Z<|Sr<|BG Z Z Z λβ1 s1 h1=>jh Z [_,_,_,_] Y2 λβ2 s2 h2=>lM ?_;refine iA (qZ Z) Z<|Je Y3 (Z5 Pz (λ(y:Ins)=>decide (y.name=nm)) (λs2 x A2 n2 c2=>qvb nm)) λs3 h3=>tQ ?_ ?_<;>intro c4
 .have hneg:=c4;obtain ⟨hi,hf⟩|⟨i,y,hi,hy,hf⟩:=qoj (λ(y:Ins)=>decide (y.name=nm)) t.U 0
  rotate_left
  . exact absurd hneg O
  refine Sr<|iA (jB [] [_,_,_,_] Y3 Z Z Z) Z<|Wt 0 [_,_,_,_] Y9<|G5 ?_;exact Yq
 have hneg:=c4;obtain ⟨hi,hf⟩|⟨i,y,hi,hy,hf⟩:=qoj (λ(y:Ins)=>decide (y.name=nm)) t.U 0
 . exact absurd O hneg
 rw [hi,aX];obtain ⟨b,off,y',A',n',c',rfl,hy',hcy,hay,kL,je⟩:=ki.at_ Pz (show i < n by rw [hn];exact (al.1 hy).1);rw [hy] at hy';injection hy' with hy'
 subst hy';refine lM ?_;refine iA (jK Y6 (show i < n by rw [hn];exact (al.1 hy).1)) Z ?_;refine iA (ku Y3 Pz Z) Z<|Wt 0 [_,_,_,_] Y9<|G4 ?_;exact Yq
def S9{x:Int}(hg:nQ g)(o:Own 34 1 M vw (g.w.length+1) (wv g.w++[iJ x]))(hx:iQ x):nQ ⟨vw,M,g.vl,g.Ml,g.vr,g.Mr,g.es,g.ck,g.w++[x],g.l,g.r⟩:=
 ⟨by simp only [ac,aw,aq,qEP];exact o,hg.hl,hg.hr,hg.he,λy hy=>by
  rcases aS.1 hy with h|h
  . exact hg.uw y h
  . rw [aU.1 h];exact hx,hg.ul,hg.ur⟩
def qkX{x:Int}(hg:nQ g)(o:Own 212 4 M vr (g.r.length+1) (GQ g.r++[iB i,iB (p:Int),St k,iJ x]))(hx:iQ x):nQ ⟨g.vw,g.Mw,g.vl,g.Ml,vr,M,g.es,g.ck,g.w,g.l,g.r++[(i,p,k,x)]⟩:=
 ⟨hg.hw,hg.hl,by simp only [ac,aw,aq,qwi];exact o,hg.he,hg.uw,hg.ul,λy hy=>by
  rcases aS.1 hy with h|h
  . exact hg.ur y h
  . rw [aU.1 h];exact hx⟩
def quu(hg:nQ g)(o:Own 34 1 M vw (g.w.length+m) (wv g.w++List.replicate m (iJ 0))):nQ ⟨vw,M,g.vl,g.Ml,g.vr,g.Mr,g.es,g.ck,g.w++List.replicate m 0,g.l,g.r⟩:=
 ⟨by simp only [ac,cR,qyL];exact o,hg.hl,hg.hr,hg.he,λy hy=>by
  rcases aS.1 hy with h|h
  . exact hg.uw y h
  . rw [(dT.1 h).2];exact vy,hg.ul,hg.ur⟩
def ZR(h:w1=if own=true then w else w++[yc])(hs:¬ xo=ss)(hh:xh=true):w1++[xk]=qf w ⟨xl,xo,xh,xn,xk⟩ yc own:=by
 subst h;subst hh;simp [qf,hs]
def qrn(h:w1=if own=true then w else w++[yc])(hs:¬ xo=ss)(hh:xh=false):w1=qf w ⟨xl,xo,xh,xn,xk⟩ yc own:=by
 subst h;subst hh;simp [qf,hs]
def qls(h:w1=if own=true then w else w++[yc])(hs:¬ xo=ss)(hh:xh=true)(hn:¬ xn=[]):r++[(i,w1.length,xn,xk)]=sZ r w i ⟨xl,xo,xh,xn,xk⟩ yc own:=by
 subst h;subst hh;simp [sZ,hs,hn]
def qgf(hn:xn=[]):r=sZ r w i ⟨xl,xo,xh,xn,xk⟩ yc own:=by
 subst hn;simp [sZ]
def qge(hh:xh=false):r=sZ r w i ⟨xl,xo,xh,xn,xk⟩ yc own:=by
 subst hh;simp [sZ]
def qzb{x3 x4:Nat×Obj}{M1 M2:Hl}:x1::x2::x3::x4::(M1++(M2++R))=(x1::x2::x3::x4::(M1++M2))++R:=by simp
theorem zB{x b:Nat×Obj}(hx:x∈(a::b::R).take 2):x∈a::b::R':=by grind
def OI{k:Nat}(h:k < 4294967296):iQ (k:Int):=⟨O,O⟩
def Nu{p:Prop} (h:p:=by
  first
    | (refine ⟨(⟨.slice Aw w.length cw,Mw,.slice Al l.length cl,Ml,.slice Ar r.length cr,Mr,es,ck,w,l,r⟩:AG),rfl,14,rfl,.inl ⟨rfl,?_⟩⟩
       simp only [Tf (x:=⟨xl,xo,xh,xn,(xk:Int)⟩) xM,ac,cR,aD];omega)
    | (refine ⟨⟨_,M1,_,Ml,_,Mr,es,ck,w++List.replicate xk 0,l,r⟩,rfl,0,rfl,.inr ⟨rfl,?_,quu hg0 o1,?_,rfl,rfl,?_⟩⟩
       . simp only [Tf (x:=⟨xl,xo,xh,xn,(xk:Int)⟩) xM,ac,cR,aD];omega
       . simp only [Tf (x:=⟨xl,xo,xh,xn,(xk:Int)⟩) xM,aD]
       . exact (qmP (x:=⟨xl,xo,xh,xn,(xk:Int)⟩) xM).symm)
    | (refine ⟨g,rfl,14,rfl,.inl ⟨rfl,?_⟩⟩
       rw [<- ew3];omega)
    | (refine ⟨g,rfl,0,rfl,.inr ⟨rfl,?_,hg3,ew3,el3,ee3,er3⟩⟩
       rw [<- ew3];omega)):p:=h
def HU{p:Prop} (h:p:=by
 intro v1 M1 s9 h9 o1;obtain ⟨Av1,cv1,rfl,kv1,kv12⟩:=Own.slice o1;simp only [ao,aC,am];refine H2 ?_;refine iF 11 V<|Wu Z Tt 2 [_,_,_,_,_,_] Y9 (sM (lj (ql)))<|ji V<|G3 ?_;refine Lb Z Z Z (jq O O)<|G2 ?_;refine iU (lY.mk ⟨_,M1,_,Ml,_,Mr,es,ck,w++[yc],l,r⟩ [] Lc (.cons Q15 (.nil _)) So Pr Q32)):p:=h
def HO{p:Prop} (h:p:=by
 intro v3 M3 kh jE o3;obtain ⟨Av3,cv3,rfl,kv3,kv32⟩:=Own.slice o3;simp only [ao,aC,am];refine X6 ?_;refine Lb Z Z Z (jq O O)<|G2 ?_;refine iU (lY.mk ⟨_,M3,_,Ml1,_,Mr1,es1,sI,w1++[(xk:Int)],l1,r1⟩ [] Lc (.cons Q15 (.nil _)) So Pr Q22)):p:=h
def HM{p:Prop} (h:p:=by
 intro v3 M3 lW lQ o3;obtain ⟨Av3,cv3,rfl,kv3,kv32⟩:=Own.slice o3;simp only [ao,aC,am];refine X6 ?_;refine Lb Z Z Z (jq O O)<|G2 ?_;refine iU (lY.mk ⟨_,M3,_,Ml1,_,M2,es1,sI,w1++[(xk:Int)],l1,r1++[(num,w1.length,xn,(xk:Int))]⟩ [] Lc (.cons Q15 (.nil _)) So Pr Q22)):p:=h
def VZ{p:Prop} (h:p:=by
  intro βn kz jM p9;refine iF 15 V<|wT (sz:=4) Z (by exact Tt) (_::_::_::_::(Mw1++Ml1)) Mr1 qzb Z Z Z Z Z Z hOr1 (Row.of_cells Pz Z Z) ⟨by simp [yN];omega,by omega⟩ Z (λA2 x hx _=>zB hx) ?_;intro v2 M2 kh jE o2;obtain ⟨Av2,cv2,rfl,kv2,kv22⟩:=Own.slice o2;simp only [ao,aC,am];refine H2 ?_;refine iF 18 V<|Wu Z Tt 2 [_,_,_,_,_,_] Y9 (sM (lj (ql)))<|ji V<|Zt<|Zs<|mv jt 13 Z 2 λlq kV=>H7 ?_;refine kA 4 8 V ?_ ?_;.refine jW Z Tt (Wd 2 Y5) Z<|iF 8 V<|qC Z Tt [(_,_)] [_] Y9 λβn lG kI p9=>iF 9 V<|wT (sz:=1) Z (by exact Tt) [_,_,_,_] Mw1 Z Z Z Z Z Z Z hOw1 (Row.of_cells Pz Z Z) ⟨by simp [pY];omega,by omega⟩ Z (λA2 x hx _=>zB hx) ?_;intro v3 M3 lW lQ o3;obtain ⟨Av3,cv3,rfl,kv3,kv32⟩:=Own.slice o3;simp only [ao,aC,am];refine X6 ?_;refine Lb Z Z Z (jq O O)<|G2 ?_;refine iU (lY.mk ⟨_,M3,_,Ml1,_,M2,es1,sI,w1++[(xk:Int)],l1,r1++[(num,w1.length,xn,(xk:Int))]⟩ [] Lc (.cons Q15 (.nil _)) So Pr Q22)
  refine qC Z Tt [(_,_)] [_] Y9 λβn lG kI p9=>iF 4 V<|jW Z Tt (Wd 2 Y5) Z<|iF 9 V<|wT (sz:=1) Z (by exact Tt) [_,_,_,_] Mw1 Z Z Z Z Z Z Z hOw1 (Row.of_cells Pz Z Z) ⟨by simp [pY];omega,by omega⟩ Z (λA2 x hx _=>zB hx) ?_;intro v3 M3 lW lQ o3;obtain ⟨Av3,cv3,rfl,kv3,kv32⟩:=Own.slice o3;simp only [ao,aC,am];refine X6 ?_;refine Lb Z Z Z (jq O O)<|G2 ?_;refine iU (lY.mk ⟨_,M3,_,Ml1,_,M2,es1,sI,w1++[(xk:Int)],l1,r1++[(num,w1.length,xn,(xk:Int))]⟩ [] Lc (.cons Q15 (.nil _)) So Pr Q22)):p:=h
def qBW(bm:Nat)(tc:Int)(A:iE)(n c:Nat)(hg:nQ g){num:Int}{xk:Nat}(Bp:xk < 4294967296)(hyc:iQ yc)(htc:0<=tc/\tc<=65536)(vx:(g.w.length:Int)<=tc)(xL:g.r.length<=1000000):jU D 142 [iT ba,iB num,.agg #[St xl,St xo,.bool xh,St xn,iJ (xk:Int)],.agg #[St yn,iJ yc,.bool yo,.slice Ay ny cy],.bool own] (HA ba bm tc A n c g L) s λv L' _=>∃ g',L'=HA ba bm tc A n c g' L/\∃ e,v=iB e/\((e=14/\tc < ((qf g.w ⟨xl,xo,xh,xn,(xk:Int)⟩ yc own).length:Int))\/(e=0/\((qf g.w ⟨xl,xo,xh,xn,(xk:Int)⟩ yc own).length:Int)<=tc/\nQ g'/\g'.w=qf g.w ⟨xl,xo,xh,xn,(xk:Int)⟩ yc own/\g'.l=g.l/\g'.es=g.es/\g'.r=sZ g.r g.w num ⟨xl,xo,xh,xn,(xk:Int)⟩ yc own)):=by
 have hg0:=hg;obtain ⟨vw,Mw,vl,Ml,vr,Mr,es,ck,w,l,r⟩:=g;obtain ⟨uO,hOl,hOr,hE,huw,hul,hur⟩:=hg;simp only at uO hOl hOr hE huw hul hur;obtain ⟨Aw,cw,rfl,kw,kx⟩:=Own.slice uO;obtain ⟨Al,cl,rfl,kl,km⟩:=Own.slice hOl;obtain ⟨Ar,cr,rfl,kr,ks⟩:=Own.slice hOr;simp only [HA];simp only at vx xL;refine jn (fn:=Tryz.f142) jb Tryz.func142 V Z Tryz.ntmps142 Z (rs:=[.tmp 10]) Z [(0,_),(1,_),(2,_),(3,_),(4,_)] Z<|Sr<|kF Y2 λβ1 s1 h1=>kF Y2 λβ2 s2 h2=>At Z Z<|Zs<|mr jt 12 Z _ (λ_ h=>h) λs3 h3=>H4 ?_;refine za 4 Z (Wd 2 Y5) Z<|H3 ?_;refine za 8 Z (Wd 2 Y5) Z<|H1 ?_;refine za 10 Z (tD Z Z (jq O O)) Z<|H1 ?_;refine ji V<|G6 ?_;refine uZ Y3<|J2 ?_ ?_<;>intro c4
 .have xM:xo=ss:=c4;refine G4 ?_;refine iA (pU Y4) Z<|Wl 1 Y6<|iA (sW Y5 (jq O O)) Z<|J4 ?_ ?_<;>intro c5;.refine G8 ?_;exact rR [_,_] _ (.t1 Z) Z Lc λ_ iD=>Nu
  refine Zk<|Zt<|Zs<|mv jt 12 Z 2 λs6 h6=>H7 ?_;refine iF 4 V<|jW Z Tt (Wd 2 Y5) Z<|iF 8 V<|qAB (sz:=1) (m:=xk) (news:=List.replicate xk (iJ 0)) Z Tt [_,_,_,_] Mw Z Z Z Z Z Z Z uO Ξ (λhT w i k1 i1 i2 i3 i4=>C_ xk k1 Tryz.underlying34 i1 i2 i4 Z Z O (by rw [i3];simp [pY];omega)) ⟨by simp [pY];omega,O⟩ Z (λA2 x hx _=>zB hx) ?_;intro v1 M1 s7 h7 o1;obtain ⟨Av1,cv1,rfl,kv1,kv2⟩:=Own.slice o1;simp only [ao,aC,am];refine H2 ?_;refine iF 11 V<|Wu Z Tt 2 [_,_,_,_,_,_] Y9 (sM (lj (ql)))<|ji V<|G8 ?_;exact rR [_,_] _ (.t1 Z) Z Lc λ_ iD=>Nu
 have xM:¬ xo=ss:=c4;refine G2 ?_;refine Dw (γ:=AG) (λg=>[(11,iB (tc - (g.w.length:Int)))]) [_,_] Z (λg=>HA ba bm tc A n c g L) (λg tw=>nQ g/\g.w=(if own=true then w else w++[yc])/\g.l=l/\g.r=r/\g.es=es) (λ_ _ _ h hl=>h) ?_ ?_
 .refine G6 ?_;refine vZ Z ?_ ?_<;>intro c6
  .have pw:=c6;refine Zs<|mv jt 12 Z 2 λs7 h7=>H6 ?_;refine kA 4 7 V ?_ ?_;.refine jW Z Tt (Wd 2 Y5) Z<|iF 7 V<|qC Z Tt [(_,_)] [_] Y9 λβn s8 h8 p9=>iF 8 V<|wT (sz:=1) Z (by exact Tt) [_,_,_,_] Mw Z Z Z Z Z Z Z uO (Row.of_cells Pz Z Z) ⟨by simp [pY];omega,O⟩ Z (λA2 x hx _=>zB hx) ?_;exact HU
   refine qC Z Tt [(_,_)] [_] Y9 λβn s8 h8 p9=>iF 4 V<|jW Z Tt (Wd 2 Y5) Z<|iF 8 V<|wT (sz:=1) Z (by exact Tt) [_,_,_,_] Mw Z Z Z Z Z Z Z uO (Row.of_cells Pz Z Z) ⟨by simp [pY];omega,O⟩ Z (λA2 x hx _=>zB hx) ?_;exact HU
  have pw:=c6;refine Zk ?_;refine iU (lY.mk ⟨_,Mw,_,Ml,_,Mr,es,ck,w,l,r⟩ [] (Lr D) (.cons Q15 (.nil _)) So Pr Q32)
 intro g s5 h5 I5;simp only [jC,jD];obtain ⟨hg1,ew1,el1,er1,ee1⟩:=I5;have vP:=hg1;obtain ⟨vw1,Mw1,qu,Ml1,vr1,Mr1,es1,sI,w1,l1,r1⟩:=g;obtain ⟨hOw1,hOl1,hOr1,hE1,huw1,hul1,hur1⟩:=hg1;simp only at hOw1 hOl1 hOr1 hE1 huw1 hul1 hur1;obtain ⟨Aw1,cw1,rfl,kw1,kx1⟩:=Own.slice hOw1;obtain ⟨Al1,cl1,rfl,kl1,km1⟩:=Own.slice hOl1;obtain ⟨Ar1,cr1,rfl,kr1,ks1⟩:=Own.slice hOr1;simp only [HA];simp only at ew1 el1 er1 ee1;subst el1;subst er1;subst ee1;have hw1l:(w1.length:Int)<=tc+1:=by rw [ew1];split<;>(try simp only [ac,aw,aq])<;>omega
 refine Dw (γ:=AG) (λg=>[(11,iB (tc - (g.w.length:Int)))]) [_,_] Z (λg=>HA ba bm tc A n c g L) (λg tw=>nQ g/\g.w=qf w ⟨xl,xo,xh,xn,(xk:Int)⟩ yc own/\g.l=l1/\g.r=sZ r1 w num ⟨xl,xo,xh,xn,(xk:Int)⟩ yc own/\g.es=es1) (λ_ _ _ h hl=>h) ?_ ?_
 .refine G6 ?_;refine su Z ?_ ?_<;>intro c8
  .have hhas:=c8;refine G6 ?_;refine JX Z Z Z<|G2 ?_;refine lL Z ?_ ?_<;>intro c9
   .have uR:=c9;refine mv jt 19 Z 2 λkH jG=>H9 ?_;refine za 12 Z (iZ 1 [_,_] Y5) Z ?_;refine kA 4 9 V ?_ ?_;.refine jW Z Tt (Wd 2 Y5) Z<|iF 9 V<|jW Z Tt (Wd 2 Y5) Z<|H1 ?_;refine za 13 Z (jB [(_,_),(_,_),(_,_)] [_,_,_,_] Y3 Z Z Z) Z<|iF 14 V<|qC Z Tt [(_,_)] [_,_,_,_] Y9 ?_;exact VZ
    refine jW Z Tt (Wd 2 Y5) Z<|H1 ?_;refine za 13 Z (jB [(_,_),(_,_),(_,_)] [_,_,_,_] Y3 Z Z Z) Z ?_;refine kA 4 14 V ?_ ?_;.refine jW Z Tt (Wd 2 Y5) Z<|iF 14 V<|qC Z Tt [(_,_)] [_,_,_,_] Y9 ?_;exact VZ
    refine qC Z Tt [(_,_)] [_,_,_,_] Y9 λβn kz jM p9=>iF 4 V<|jW Z Tt (Wd 2 Y5) Z<|iF 15 V<|wT (sz:=4) Z (by exact Tt) (_::_::_::_::(Mw1++Ml1)) Mr1 qzb Z Z Z Z Z Z hOr1 (Row.of_cells Pz Z Z) ⟨by simp [yN];omega,O⟩ Z (λA2 x hx _=>zB hx) ?_;intro v2 M2 kh jE o2;obtain ⟨Av2,cv2,rfl,kv2,kv22⟩:=Own.slice o2;simp only [ao,aC,am];refine H2 ?_;refine iF 18 V<|Wu Z Tt 2 [_,_,_,_,_,_] Y9 (sM (lj (ql)))<|ji V<|Zt<|Zs<|mv jt 13 Z 2 λlq kV=>H7 ?_;refine kA 4 8 V ?_ ?_;.refine jW Z Tt (Wd 2 Y5) Z<|iF 8 V<|qC Z Tt [(_,_)] [_] Y9 λβn lG kI p9=>iF 9 V<|wT (sz:=1) Z (by exact Tt) [_,_,_,_] Mw1 Z Z Z Z Z Z Z hOw1 (Row.of_cells Pz Z Z) ⟨by simp [pY];omega,O⟩ Z (λA2 x hx _=>zB hx) ?_;exact HM
    refine qC Z Tt [(_,_)] [_] Y9 λβn lG kI p9=>iF 4 V<|jW Z Tt (Wd 2 Y5) Z<|iF 9 V<|wT (sz:=1) Z (by exact Tt) [_,_,_,_] Mw1 Z Z Z Z Z Z Z hOw1 (Row.of_cells Pz Z Z) ⟨by simp [pY];omega,O⟩ Z (λA2 x hx _=>zB hx) ?_;exact HM
   have uR:=c9;refine Zk<|Zt<|Zs<|mv jt 13 Z 2 λkH jG=>H7 ?_;refine kA 4 8 V ?_ ?_;.refine jW Z Tt (Wd 2 Y5) Z<|iF 8 V<|qC Z Tt [(_,_)] [_] Y9 λβn kz jM p9=>iF 9 V<|wT (sz:=1) Z (by exact Tt) [_,_,_,_] Mw1 Z Z Z Z Z Z Z hOw1 (Row.of_cells Pz Z Z) ⟨by simp [pY];omega,O⟩ Z (λA2 x hx _=>zB hx) ?_;exact HO
   refine qC Z Tt [(_,_)] [_] Y9 λβn kz jM p9=>iF 4 V<|jW Z Tt (Wd 2 Y5) Z<|iF 9 V<|wT (sz:=1) Z (by exact Tt) [_,_,_,_] Mw1 Z Z Z Z Z Z Z hOw1 (Row.of_cells Pz Z Z) ⟨by simp [pY];omega,O⟩ Z (λA2 x hx _=>zB hx) ?_;exact HO
  have hhas:=c8;refine Zk ?_;refine iU (lY.mk ⟨_,Mw1,_,Ml1,_,Mr1,es1,sI,w1,l1,r1⟩ [] (Lr D) (.cons Q15 (.nil _)) So Pr Q22)
 intro g s7 h7 I7;simp only [jC,jD];obtain ⟨hg3,ew3,el3,er3,ee3⟩:=I7;refine J7 ?_ ?_<;>intro c9;.refine G7 ?_;exact rR [_,_] _ (.t1 Z) Z Lc λ_ iD=>Nu
 refine G8 ?_;exact rR [_,_] _ (.t1 Z) Z Lc λ_ iD=>Nu
def U9:yB prog 155 .string (iJ 0):=⟨_,_,underlying155,underlying9,λw=>by rw [Dt qnm];rfl⟩
def qvd(bm:Nat)(t:oK)(A:iE)(n c:Nat)(hA:ki s A n c t.U)(g:AG):jU D 141 [iT ba,St nm] (x0::HA ba bm t.cells A n c g L) s λv L' _=>L'=x0::HA ba bm t.cells A n c g L/\∃ (y:Ins) (Ay:iE) (ny cy:Nat),v=.tuple #[.agg #[St y.name,iJ y.code,.bool y.I,.slice Ay ny cy],.bool (rZ t.U nm).isSome]/\iQ y.code/\(∀ z,rZ t.U nm=some z->y=z)/\(rZ t.U nm=none->y.I=false):=
 AC.perm (KP ..).symm (qvc bm hA g) λv L1 s1 ⟨h1,h2⟩=>⟨_,by rw [h1];exact KP ..,rfl,h2⟩
def quZ(bm:Nat)(tc:Int)(A:iE)(n c:Nat)(hg:nQ g){num:Int}{xk:Nat}(Bp:xk < 4294967296)(hyc:iQ yc)(htc:0<=tc/\tc<=65536)(vx:(g.w.length:Int)<=tc)(xL:g.r.length<=1000000):jU D 142 [iT ba,iB num,.agg #[St xl,St xo,.bool xh,St xn,iJ (xk:Int)],.agg #[St yn,iJ yc,.bool yo,.slice Ay ny cy],.bool own] (x0::x1::HA ba bm tc A n c g L) s λv L' _=>∃ g',L'=x0::x1::HA ba bm tc A n c g' L/\∃ e,v=iB e/\((e=14/\tc < ((qf g.w ⟨xl,xo,xh,xn,(xk:Int)⟩ yc own).length:Int))\/(e=0/\((qf g.w ⟨xl,xo,xh,xn,(xk:Int)⟩ yc own).length:Int)<=tc/\nQ g'/\g'.w=qf g.w ⟨xl,xo,xh,xn,(xk:Int)⟩ yc own/\g'.l=g.l/\g'.es=g.es/\g'.r=sZ g.r g.w num ⟨xl,xo,xh,xn,(xk:Int)⟩ yc own)):=
 AC.perm (UM ..).symm (qBW bm tc A n c hg Bp hyc htc vx xL) λv L1 s1 ⟨g',h1,h2⟩=>⟨_,by rw [h1];exact UM ..,g',rfl,h2⟩
def Ky(h:¬ x.label=[]->mw l x.label=none):¬ (x.label≠[]/\(mw l x.label).isSome=true):=λhh=>by rw [h hh.1] at hh;cases hh.2
theorem Se(h1:∀ z,rZ t.U xo=some z->y=z)(h2:rZ t.U xo=none->y.I=false):FQ t xo=y.I:=by grind [FQ]
def qBN(h1:∀ z,rZ t.U x.op=some z->y=z)(h2:¬ ((rZ t.U x.op).isSome=false/\¬ (x.op=[119,111,114,100]\/x.op=[115,112,97,99,101])))(h3:¬ x.op=[]):
  qf w x y.code (decide (x.op=[119,111,114,100]\/x.op=[115,112,97,99,101]))=qh t w x/\sZ r w i x y.code (decide (x.op=[119,111,114,100]\/x.op=[115,112,97,99,101]))=uF t w r i x:=by
 unfold qh uF yD;rw [ak h3,ak h3];cases h:rZ t.U x.op with
 | some z=>
  have hc:wU t x.op=y.code:=by unfold wU;rw [h,h1 z h]
  rw [hc];exact ⟨rfl,rfl⟩
 | none=>
  rw [h] at h2;have ho:x.op=[119,111,114,100]\/x.op=[115,112,97,99,101]:=by
   by_cases ho:x.op=[119,111,114,100]\/x.op=[115,112,97,99,101]
   . exact ho
   . exact absurd ⟨rfl,ho⟩ h2
  rw [bL ho];exact ⟨qrq ..,qro ..⟩
theorem GM{x:Nat×Obj}(hx:x∈(a::R).take 1):x∈a::R':=by grind
def qqE{a:Int}(hg:nQ g)(o:Own 256 2 M vl (g.l.length+1) (FJ g.l++[St k,iJ a]))(ha:iQ a)(hk:mw g.l k=none):nQ ⟨g.vw,g.Mw,vl,M,g.vr,g.Mr,vB g.es k (iJ a) g.ck,ck,g.w,g.l++[(k,a)],g.r⟩:=
 ⟨hg.hw,by simp only [ac,aw,aq,qvE];exact o,hg.hr,λj=>by
  simp only [NH,a_ _ _ _ _ hk,hg.he j];split<;>rfl,hg.uw,λy hy=>by
  rcases aS.1 hy with h|h
  . exact hg.ul y h
  . rw [aU.1 h];exact ha,hg.ur⟩
def JT{p:Prop} (h:p:=by
  first
    | (refine ⟨(⟨.slice Aw w.length cw,Mw,.slice Al l.length cl,Ml,.slice Ar r.length cr,Mr,es,ck,w,l,r⟩:AG),rfl,?_,λx hx=>?_⟩
       . rw [hno];rfl
       . rw [hno] at hx;cases hx)
    | (refine ⟨(⟨.slice Aw w.length cw,Mw,.slice Al l.length cl,Ml,.slice Ar r.length cr,Mr,es,ck,w,l,r⟩:AG),rfl,?_,λx hx he=>?_⟩
       . rw [hy,pC,au ⟨tZ,hrep⟩];rfl
       . rw [hy] at hx;injection hx with hx;subst hx;rw [pC,au ⟨tZ,hrep⟩] at he;cases he)
    | (have hE8:=Ky (l:=l) (x:=⟨xl,xo,xh,xn,(xk:Int)⟩) hnew
       refine ⟨g,Z,?_,λx hx he=>?_⟩
       . rw [hy,pC,ak hE8,au nU];rfl
       . rw [hy] at hx;injection hx with hx;subst hx
         refine ⟨hg1,?_,?_,?_⟩
         . rw [ew1,qh,au nU]
         . rw [el1]
         . rw [er1,uF,au nU])
    | (have hE8:=Ky (l:=l) (x:=⟨xl,xo,xh,xn,(xk:Int)⟩) hnew
       have AY:pC t w l (some ⟨xl,xo,xh,xn,(xk:Int)⟩)=12:=qBh hE8 nU AX;refine ⟨g,Z,?_,λx hx he=>?_⟩
       . rw [hy,AY];rfl
       . rw [hy] at hx;injection hx with hx;subst hx;rw [AY] at he;cases he)
    | (have hE8:=Ky (l:=l) (x:=⟨xl,xo,xh,xn,(xk:Int)⟩) hnew
       have hoo:=Se (t:=t) hye hyn;have AY:pC t w l (some ⟨xl,xo,xh,xn,(xk:Int)⟩)=9:=qGX hE8 nU AX hoo h90;refine ⟨g,Z,?_,λx hx he=>?_⟩
       . rw [hy,AY];rfl
       . rw [hy] at hx;injection hx with hx;subst hx;rw [AY] at he;cases he)
    | (have hE8:=Ky (l:=l) (x:=⟨xl,xo,xh,xn,(xk:Int)⟩) hnew
       have hoo:=Se (t:=t) hye hyn;have AY:pC t w l (some ⟨xl,xo,xh,xn,(xk:Int)⟩)=6:=qGW hE8 nU AX hoo h90 h99;refine ⟨g,Z,?_,λx hx he=>?_⟩
       . rw [hy,AY];rfl
       . rw [hy] at hx;injection hx with hx;subst hx;rw [AY] at he;cases he)
    | (have hE8:=Ky (l:=l) (x:=⟨xl,xo,xh,xn,(xk:Int)⟩) hnew
       have hoo:=Se (t:=t) hye hyn;have nS:=qBN (t:=t) (w:=w) (r:=r) (i:=num) (x:=⟨xl,xo,xh,xn,(xk:Int)⟩) hye AX nU;have AY:pC t w l (some ⟨xl,xo,xh,xn,(xk:Int)⟩)=if t.cells < ((qh t w ⟨xl,xo,xh,xn,(xk:Int)⟩).length:Int) then 14 else 0:=qGV hE8 nU AX hoo h90 h99
       rw [ew1,er1,nS.1] at hem;rw [nS.2] at hem;refine ⟨g',Z,?_,λx hx he=>?_⟩
       . rw [hy,AY]
         rcases hem with ⟨rfl,kI⟩|⟨rfl,h0,_⟩
         . rw [au kI];rfl
         . rw [ak O];rfl
       . rw [hy] at hx;injection hx with hx;subst hx;rw [AY] at he
         rcases hem with ⟨rfl,kI⟩|⟨rfl,h0,q1,q2,q3,_,q5⟩
         . rw [au kI] at he;cases he
         . exact ⟨q1,q2,by rw [q3,el1],q5⟩)):p:=h
def RB{p:Prop} (h:p:=by
 refine G8 ?_;exact rR [_,_] _ (.t1 Z) Z Lc λ_ iD=>JT):p:=h
def Iw{p:Prop} (h:p:=by
 refine iU (kB.mk (Lr D) Sb Z (Ff ((by first|rw [bL (show (xo=[119,111,114,100]\/xo=[115,112,97,99,101]) by assumption),gM]|rw [bR (show ¬ (xo=[119,111,114,100]\/xo=[115,112,97,99,101]) by assumption),ep]))))):p:=h
def HS{p:Prop} (h:p:=by
 intro βn kz jM p9;refine iF 15 V<|wT (sz:=2) Z (by exact Tt) (_::_::_::Mw) Ml Z Z Z Z Z Z Z hOl (Row.of_cells Pz Z Z) ⟨by simp [yO];omega,by omega⟩ Z (λA2 x hx _=>GM hx) ?_;intro v1 M1 kh jE o1;obtain ⟨Av1,cv1,rfl,kv1,kv12⟩:=Own.slice o1;simp only [ao,aC,am];refine H2 ?_;refine iF 18 V<|Wu Z Tt 1 [_,_,_,_,_,_] Y9 (sM (nD (ql)))<|ji V ?_;refine iU (lY.mk ⟨_,Mw,_,M1,_,Mr,vB es xl (iJ (w.length:Int)) ck,sI,w,l++[(xl,(w.length:Int))],r⟩ [] Lc (.nil _) So Pr Q25)):p:=h
def qBf(hG:GW s)(bm:Nat)(hA:ki s A n c t.U)(hg:nQ g){num:Int}(htx:tx.length<=400000)(htc:0<=t.cells/\t.cells<=65536)(vx:(g.w.length:Int)<=t.cells)(xL:g.r.length<=1000000)(hll:g.l.length<=1000000):jU D 101 [iT ba,iB num,St tx] (HA ba bm t.cells A n c g L) s λv L' _=>∃ g',L'=HA ba bm t.cells A n c g' L/\v=iB (pC t g.w g.l (rm tx))/\∀ x,rm tx=some x->pC t g.w g.l (some x)=0->nQ g'/\g'.w=qh t g.w x/\g'.l=xU g.w g.l x/\g'.r=uF t g.w g.r num x:=by
 have hg0:=hg;obtain ⟨vw,Mw,vl,Ml,vr,Mr,es,ck,w,l,r⟩:=g;obtain ⟨uO,hOl,hOr,hE,huw,hul,hur⟩:=hg;simp only at uO hOl hOr hE huw hul hur;obtain ⟨Aw,cw,rfl,kw,kx⟩:=Own.slice uO;obtain ⟨Al,cl,rfl,kl,km⟩:=Own.slice hOl;obtain ⟨Ar,cr,rfl,kr,ks⟩:=Own.slice hOr;simp only [HA];simp only at vx xL hll;refine jn (fn:=f101) jb func101 V Z ntmps101 Z (rs:=[.tmp 6]) Z [(0,_),(1,_),(2,_)] Z<|G8 ?_;refine Jc Y3 (qnh Pz htx) ?_;rintro _ _ s1 h1 ⟨rfl,⟨xl,xo,xh,xn,xk⟩,rfl,hxu,uU⟩;simp only at hxu;obtain ⟨xk,rfl⟩:=aZ hxu.1;have Bp:xk < 4294967296:=by have:=hxu.2;omega
 simp only [Ln.cs];refine G3 ?_;refine jh Z [_,_,_,_,_] Y2 λβ2 s2 h2=>Wt 0 [_,_,_,_,_] Y9<|lM ?_;refine vZ Z ?_ ?_<;>intro c3
 .have hno:rm tx=none:=by simpa using c3
  refine G7 ?_;exact rR [_] _ (.t1 Z) Z Lc λ_ iD=>JT
 obtain ⟨y,hy⟩:=ee.1 c3;have hln:=uU y hy;subst hln;refine G2 ?_;refine Dw (γ:=AG) (λ_=>[]) [_] Z (λg=>HA ba bm t.cells A n c g L) (λg tw=>nQ g/\g.w=w/\g.r=r/\g.l=xU w l ⟨xl,xo,xh,xn,(xk:Int)⟩/\(¬ xl=[]->mw l xl=none)) (λ_ _ _ h hl=>h) ?_ ?_
 .refine G4 ?_;refine JX Z Z Z<|G2 ?_;refine lL Z ?_ ?_<;>intro c5
  .have tZ:=c5;refine Zs<|Zs<|mr jt 12 Z _ (λ_ h=>h) λs6 h6=>H6 ?_;refine za 6 Z (kK (m_ jO.str 2 U9 Z Z Z) (show Value.tuple #[(kX es xl).getD (iJ 0),.bool (kX es xl).isSome]=.tuple #[(kX es xl).getD (iJ 0),.bool (mw l xl).isSome] by rw [hE xl,eE])) Z<|H5 ?_;refine ji V ?_;refine G6 ?_;refine su Z ?_ ?_<;>intro c7;.have hrep:=c7;refine G8 ?_;exact rR [_] _ (.t1 Z) Z Lc λ_ iD=>JT
   have hrep:mw l xl=none:=by simpa using c7
   refine Zk<|Zt<|Zs<|pM jt 13 Z [2] Q4 λs8 h8=>H11 ?_;refine za 11 Z (sW Y5 (NG O)) Z<|iF 12 V<|KA jO.str Z Tt 2 U9 Z Z Z Z (λx hx=>hx) ?_;intro sI;simp only [lV];refine ji V<|Zt<|mv jt 19 Z 1 λkH jG=>H9 ?_;refine kA 4 10 V ?_ ?_;.refine X27 ?_;refine za 12 Z (sW Y5 (NG O)) Z<|za 13 Z (jB [(_,_),(_,_)] [_,_] Y3 Z Z Z) Z<|iF 14 V<|qC Z Tt [(_,_)] [_,_] Y9 ?_;exact HS
   refine jW Z Tt (Wd 1 Y5) Z<|H1 ?_;refine za 12 Z (sW Y5 (NG O)) Z<|za 13 Z (jB [(_,_),(_,_)] [_,_] Y3 Z Z Z) Z ?_;refine kA 4 14 V ?_ ?_;.refine jW Z Tt (Wd 1 Y5) Z<|iF 14 V<|qC Z Tt [(_,_)] [_,_] Y9 ?_;exact HS
   refine qC Z Tt [(_,_)] [_,_] Y9 λβn kz jM p9=>iF 4 V<|jW Z Tt (Wd 1 Y5) Z<|iF 15 V<|wT (sz:=2) Z (by exact Tt) (_::_::_::Mw) Ml Z Z Z Z Z Z Z hOl (Row.of_cells Pz Z Z) ⟨by simp [yO];omega,O⟩ Z (λA2 x hx _=>GM hx) ?_;intro v1 M1 kh jE o1;obtain ⟨Av1,cv1,rfl,kv1,kv12⟩:=Own.slice o1;simp only [ao,aC,am];refine H2 ?_;refine iF 18 V<|Wu Z Tt 1 [_,_,_,_,_,_] Y9 (sM (nD (ql)))<|ji V ?_;refine iU (lY.mk ⟨_,Mw,_,M1,_,Mr,vB es xl (iJ (w.length:Int)) ck,sI,w,l++[(xl,(w.length:Int))],r⟩ [] Lc (.nil _) So Pr Q25)
  have tZ:=c5;refine Zk ?_;refine iU (lY.mk ⟨_,Mw,_,Ml,_,Mr,es,ck,w,l,r⟩ [] (Lr D) (.nil _) So Pr Q25)
 intro g s4 h4 I4;simp only [jC,jD];obtain ⟨hg1,ew1,er1,el1,hnew⟩:=I4;refine G5 ?_;refine uZ Y3<|J2 ?_ ?_<;>intro c6;.have nU:=c6;refine G7 ?_;exact rR [_] _ (.t1 Z) Z Lc λ_ iD=>JT
 have nU:=c6;refine G2 ?_;refine rW 11 ((xo=[119,111,114,100]\/xo=[115,112,97,99,101])) ?_ ?_
 .refine G3 ?_;refine uZ Y3<|kb Y2<|?_;refine ld (t:=71) Z ?_ ?_<;>intro c8;.refine G6 ?_;refine iU (kB.mk (Lr D) Sb Z ((bL (by first|exact .inl As|exact .inr As)).symm))
  refine G5 ?_;refine uZ Y3<|G3 ?_;refine iU (kB.mk (Lr D) Sb Z (bK.2 (⟨λh=>.inr h,λh=>h.resolve_left As⟩)))
 intro s7 h7;refine G5 ?_;refine Jc Y3 (qvd bm t A n c Pz g) ?_;rintro _ _ s9 h9 ⟨rfl,⟨yn,yc,yo,ya⟩,Ay,ny,cy,rfl,hyu,hye,hyn⟩;refine G3 ?_;refine jh Z [_,_,_,_] Y2 λβ10 kH jG=>Wt 0 [_,_,_,_] Y9<|G5 ?_;refine rW 83 ((rZ t.U xo).isSome=false/\¬ (xo=[119,111,114,100]\/xo=[115,112,97,99,101])) ?_ ?_
 .refine G4 ?_;refine Fa (t:=86) Z ?_ ?_<;>intro oL;.refine G7 ?_;refine iU (kB.mk (Lr D) Sb Z (Ff (Q33)))
  refine G5 ?_;refine iU (kB.mk (Lr D) Sb Z ((bR (Q33)).symm))
 intro kz jM;refine mG Z ?_ ?_<;>intro pZ;.have AX:=pZ;exact RB
 have AX:=pZ;refine rW 90 (¬ xh=(decide (xo=[119,111,114,100]\/xo=[115,112,97,99,101]) || yo)) ?_ ?_
 .refine G5 ?_;refine ld (t:=94) Z ?_ ?_<;>intro vJ;.refine G3 ?_;refine iA (qyS Z Z Z Z) Z<|G2 ?_;exact Iw
  refine G5 ?_;refine iA (qyS Z Z Z Z) Z<|G2 ?_;exact Iw
 intro lG kI;refine mG Z ?_ ?_<;>intro c16;.have h90:=c16;exact RB
 have h90:=c16;refine rW 99 (xo=[115,112,97,99,101]/\¬ xn=[]) ?_ ?_
 .refine G3 ?_;refine uZ Y3<|kb Y2<|?_;refine ld (t:=103) Z ?_ ?_<;>intro yd;.refine G7 ?_;refine JX Z Z Z<|G3 ?_;refine iU (kB.mk (Lr D) Sb Z (Ff (Q34)))
  refine G7 ?_;refine iU (kB.mk (Lr D) Sb Z ((bR (Q34)).symm))
 intro vD vm;refine mG Z ?_ ?_<;>intro zS;.have h99:=zS;exact RB
 have h99:=zS;refine G7 ?_;refine iA (iZ 1 [_,_,_,_,_] Y5) Z<|iA (iZ 0 [_,_,_,_] Y5) Z<|kb Y2<|Jc Y3 (quZ bm t.cells A n c hg1 Bp hyu htc (by rw [ew1];exact vx) (by rw [er1];exact xL)) ?_;rintro _ _ yK qT ⟨g',rfl,e,rfl,hem⟩;refine G4 ?_;exact rR [_,_] _ (.t1 Z) Z Lc λ_ iD=>JT
end
section
variable{t:oK}{k:Nat}{y:iz}{f:Int×Int}
def vz(t:oK):Nat->iG->List (iH×Int)->List (Int×Nat×iH×Int)->List iH->(Int×Int) ⊕ (iG×List (iH×Int)×List (Int×Nat×iH×Int))
 | _,w,l,r,[]=>.inr (w,l,r)
 | i,w,l,r,tx::iI=>match rm tx with
  | none=>.inl (1,(i:Int))
  | some x=>if pC t w l (some x)≠0 then .inl (pC t w l (some x),(i:Int)) else vz t (i+1) (qh t w x) (xU w l x) (uF t w r (i:Int) x) iI
def wm(l:List (iH×Int)):List (Int×Nat×iH×Int)->iG->(Int×Int) ⊕ iG
 | [],w=>.inr w
 | x::iI,w=>match mw l x.2.2.1 with
  | none=>.inl (27,x.1)
  | some a=>wm l iI (w.set x.2.1 (mc (w.getD x.2.1 0+a)))
def ta(t:oK)(tx:iH):(Int×Int) ⊕ (iG×List (iH×Int)):=
 if (o5 t).1≠0 then .inl (o5 t) else if 400000 < tx.length then .inl (3,-2)
 else match vz t 0 [] [] [] (splitB 10 tx) with
  | .inl f=>.inl f
  | .inr x=>match wm x.2.1 x.2.2 x.1 with
   | .inl f=>.inl f
   | .inr w=>.inr (w,x.2.1)
def qqL{i:Nat}{iI:List iH}(h:pC t w l (rm tx)≠0):vz t i w l r (tx::iI)=.inl (pC t w l (rm tx),(i:Int)):=by
 simp only [vz];cases hx:rm tx with
 | none=>rfl
 | some x=>rw [hx] at h;simp only [fM,h,gv,bV]
def NU{i:Nat}{iI:List iH}(hx:rm tx=some x)(h:pC t w l (some x)=0):vz t i w l r (tx::iI)=vz t (i+1) (qh t w x) (xU w l x) (uF t w r (i:Int) x) iI:=by
 simp only [vz,hx,h,fM,not_true_eq_false,bY]
def qr7(h:pC t w l (rm tx)=0):∃ x,rm tx=some x/\pC t w l (some x)=0:=by
 cases hx:rm tx with
 | none=>rw [hx] at h;cases h
 | some x=>rw [hx] at h;exact ⟨x,rfl,h⟩
theorem qur(hw:(w.length:Int)<=t.cells)(h:pC t w l (some x)=0):((qh t w x).length:Int)<=t.cells:=by grind [pC,qh]
theorem qrp(w:iG)(x:Ln)(c:Int)(o:Bool):w.length<=(qf w x c o).length:=by grind [List.length_append,List.length_cons,List.length_nil,List.length_replicate,qf]
def qu0{c:Int}{o:Bool}(h:∀ y∈r,y.2.1 < w.length):∀ y∈sZ r w i x c o,y.2.1 < (qf w x c o).length:=by
  have hl:=qrp w x c o;intro y hy;unfold sZ at hy;split at hy
  . exact dM (h y hy) hl
  . rename_i hs
    split at hy
    . rename_i hh
      rcases aS.1 hy with h1|h1
      . exact dM (h y h1) hl
      . rw [aU.1 h1]
        simp only [qf,hs,bY,hh.1,bV,ac,aw,aq];omega
    . exact dM (h y hy) hl
def qBj(h:∀ y∈r,y.2.1 < w.length):∀ y∈uF t w r i x,y.2.1 < (qh t w x).length:=by
 unfold uF qh;split
 . exact h
 . exact qu0 h
def qus:(xU w l x).length<=l.length+1:=by unfold xU;split<;>simp
theorem qut:(uF t w r i x).length<=r.length+1:=by grind [uF,sZ]
def qnq(ba bm:Nat)(tc:Int)(A:iE)(n c:Nat)(g:AG)(x y z:Nat×Obj)(L:Hl):(HA ba bm tc A n c g (x::y::z::L)).Perm (x::y::z::HA ba bm tc A n c g L):=
 (KP ..).trans (List.Perm.cons _ (UM ..))
def qGr(ba bm:Nat)(tc:Int)(A:iE)(n c:Nat)(g:AG)(L:Hl):HA ba bm tc A n c g L=HA ba bm tc A n c g []++L:=by simp [HA]
def uK(s:World)(A:iE)(n c:Nat)(l:List (iH×Int)):Prop:=Sl 2 (λ_ x cs=>cs=[St x.1,iJ x.2]/\iQ x.2) s A n c l
def uK.le(h:uK s A n c l)(hl:Le D s s'):uK s' A n c l:=Sl.le (λ_ _ h=>h) h hl
def Cz(s:World)(A:iE)(n c:Nat)(l:List (Int×Nat×iH×Int)):Prop:=Sl 4 (λ_ x cs=>cs=[Value.int .i64 x.1,Value.int .i64 (x.2.1:Int),St x.2.2.1,Value.int .u32 x.2.2.2]) s A n c l
def qnD{α β:Type}{R:α->β->Prop}(f:α->β)(l:List α)(h:∀ x∈l,R x (f x)):kJ R l (l.map f):=by
 induction l with
 | nil=>exact kJ.nil
 | cons x l ih=>exact kJ.cons (h x Mc) (ih λy hy=>h y (an _ hy))
def Own.labs{A:Hl}(h:Own e 2 A (.slice Ad n c) n (FJ l))(hu:∀ x∈l,iQ x.2)(hp:mI A s)(hn:n=l.length):uK s Ad n c l:=
 Own.rows (R:=λ_ (x:iH×Int) cs=>cs=[St x.1,iJ x.2]/\iQ x.2) h hp (qnD (λ(x:iH×Int)=>[St x.1,Value.int .u32 x.2]) l λx hx=>⟨rfl,rfl,hu x hx⟩) hn
def Own.refs{A:Hl}{l:List (Int×Nat×iH×Int)}(h:Own e 4 A (.slice Ad n c) n (GQ l))(hp:mI A s)(hn:n=l.length):Cz s Ad n c l:=
 Own.rows (R:=λ_ (x:Int×Nat×iH×Int) cs=>cs=[Value.int .i64 x.1,Value.int .i64 (x.2.1:Int),St x.2.2.1,Value.int .u32 x.2.2.2]) h hp (qnD (λ(x:Int×Nat×iH×Int)=>[Value.int .i64 x.1,Value.int .i64 (x.2.1:Int),St x.2.2.1,Value.int .u32 x.2.2.2]) l λx hx=>⟨rfl,rfl⟩) hn
def Cz.at_{l:List (Int×Nat×iH×Int)}(h:Cz s A n c l)(hk:k < n):∃ b off x,A=some ⟨b,off,none⟩/\l[k]?=some x/\iy s b (off+k * 4) [Value.int .i64 x.1,Value.int .i64 (x.2.1:Int),St x.2.2.1,Value.int .u32 x.2.2.2]:=by
 have hx:k < l.length:=by rw [<- h.1];exact hk
 obtain ⟨b,off,cs,h1,h2,h3,h4⟩:=h.2.2.2 k l[k] (ap hx);exact ⟨b,off,l[k],h1,ap hx,by rw [<- h4];exact h2⟩
def XW{p:Prop} (h:p:=by
 cases h with
 | nil=>omega
 | blk b cap _ _ ys h1 h2 h3 h4=>exact ⟨b,ys,rfl,rfl,by simpa using h1,by simpa using h2,h3,h4⟩):p:=h
def Ow(h:Own e 1 M (.slice Ad n c) n xs)(hn:0 < n):∃ b ys,Ad=jZ b/\M=[(b,cb (xs++ys) e)]/\xs.length=n/\xs.length+ys.length=c/\n<=c/\c<=9223372036854775807:=by
 exact XW
def qoA(h1:xs.length=n)(h2:xs.length+ys.length=c)(h3:n<=c)(h4:c<=9223372036854775807):Own e 1 [(b,cb (xs++ys) e)] (.slice (jZ b) n c) n xs:=
 .blk b c n xs ys Q5 Q9 h3 h4
def YB{p:Prop} (h:p:=by
 obtain ⟨hk,rfl⟩:=al.1 hx;rw [aM hk,wm,ha]):p:=h
def qwg{x:Int×Nat×iH×Int}(hx:r[k]?=some x)(ha:mw l x.2.2.1=some a):wm l (r.drop k) w=wm l (r.drop (k+1)) (w.set x.2.1 (mc (w.getD x.2.1 0+a))):=by
 exact YB
def qsV{x:Int×Nat×iH×Int}(hx:r[k]?=some x)(ha:mw l x.2.2.1=none):wm l (r.drop k) w=.inl (27,x.1):=by
 exact YB
theorem Vm(h:∀ x∈w,iQ x){v:Int}(hv:iQ v):∀ x∈w.set p v,iQ x:=by grind
def qCI{l:iG}(h:p < l.length):nth (wv l++y) (0+p)=some (iJ (l.getD p 0)):=by
 have:=ON (l:=l) (y:=y) (i:=(p:Int)) O O;simpa using this
def qDu{l:iG}{v:Int}(h:p < l.length):pk (wv l++y) (0+p) [iJ v]=wv (l.set p v)++y:=by
 have:=qtf (l:=l) (y:=y) (i:=(p:Int)) v O O;simpa using this
def qBx{l:iG}(h:p < l.length):Nat.ble (0+p+1) (wv l++y).length=true:=by
 have:=qqU (l:=l) (y:=y) (i:=(p:Int)) O O;simpa using this
attribute [local irreducible] JC JO JA JB ma mO mX AC fill iy QE Ev my
def qBg(hG:GW s)(bm:Nat)(t:oK)(A:iE)(n c:Nat)(hA:ki s A n c t.U){g:AG}(hg:nQ g){num:Int}(htx:tx.length<=400000)(htc:0<=t.cells/\t.cells<=65536)(vx:(g.w.length:Int)<=t.cells)(xL:g.r.length<=1000000)(hll:g.l.length<=1000000):jU D 101 [iT ba,iB num,St tx] (x0::x1::x2::HA ba bm t.cells A n c g L) s λv L' _=>∃ g',L'=x0::x1::x2::HA ba bm t.cells A n c g' L/\v=iB (pC t g.w g.l (rm tx))/\∀ x,rm tx=some x->pC t g.w g.l (some x)=0->nQ g'/\g'.w=qh t g.w x/\g'.l=xU g.w g.l x/\g'.r=uF t g.w g.r num x:=
 AC.perm (qnq ..).symm (qBf hG bm hA hg htx htc vx xL hll) λv L1 s1 ⟨g',h1,h2⟩=>⟨_,by rw [h1];exact qnq ..,g',rfl,h2⟩
def quB(h:(o5 t).1≠0):ta t tx=.inl (o5 t):=by rw [ta,au h]
theorem quA(h:(o5 t).1=0)(h2:400000 < tx.length):ta t tx=.inl (3,-2):=by grind [ta]
theorem quz(h:(o5 t).1=0)(h2:¬ 400000 < tx.length)(h3:vz t 0 [] [] [] (splitB 10 tx)=.inl f):ta t tx=.inl f:=by grind [ta]
theorem qBq(h:(o5 t).1=0)(h2:¬ 400000 < tx.length)(h3:vz t 0 [] [] [] (splitB 10 tx)=.inr (w,l,r))(h4:wm l r w=.inl f):ta t tx=.inl f:=by grind [ta]
theorem qHb(h:(o5 t).1=0)(h2:¬ 400000 < tx.length)(h3:vz t 0 [] [] [] (splitB 10 tx)=.inr (w,l,r))(h4:wm l r w=.inr w2):ta t tx=.inr (w2,l):=by grind [ta]
def qG1:nQ ⟨.slice none 0 0,[],.slice none 0 0,[],.slice none 0 0,[],[],0,[],[],[]⟩:=⟨Own.nil,Own.nil,Own.nil,λ_=>rfl,(λ_ h=>by cases h),(λ_ h=>by cases h),(λ_ h=>by cases h)⟩
def G0{p:Prop} (h:p:=by
 first
  | (refine ⟨[],rfl,.pointer none,_,_,rfl,.inl ⟨rM,quB rM⟩⟩)
  | (refine ⟨[],rfl,.pointer none,3,-2,rfl,.inl ⟨by decide,quA ht0 hlong⟩⟩)
  | (exact ⟨_,qGr ..,.pointer none,_,_,rfl,.inl ⟨hcode,quz ht0 hlong (by rw [hS,hdr];exact qqL hcode)⟩⟩)
  | (exact ⟨[_,_,_],rfl,.pointer none,_,_,rfl,.inl ⟨by decide,qBq ht0 hlong hS (by rw [hR];exact qsV hxr hmiss)⟩⟩)
  | (exact ⟨_,rfl,_,0,0,rfl,.inr ⟨rfl,rfl,ba,bm,Aw,w.length,cw,Al,l.length,cl,_,es,ck,Mj,wj,l,rfl,rfl,yi,huj,hLb.le Lc,qHb ht0 hlong hS hR⟩⟩)):p:=h
def Pu{p:Prop} (h:p:=by
 exact rR [_,_,_] _ (.tmp Z (.agg (us:=[_,_]) 1 Z Z Z Z Z (.nil))) Z Lc λ_ iD=>G0):p:=h
def qmH(hG:GW s)(hA:ki s A n c t.U):pQ D 62 [.agg #[iB t.cells,.slice A n c],St tx] L s λv M' s'=>∃ p f1 f2,v=.tuple #[p,.agg #[iB f1,iB f2]]/\((f1≠0/\ta t tx=.inl (f1,f2))\/(f1=0/\f2=0/\∃ ba bm Aw nw cw Al nl cl vr es ck Mw w l,p=iT ba/\M'=(ba,cb [iB t.cells,.slice A n c,.slice Aw nw cw,.slice Al nl cl,.map (some bm),vr] 158)::(bm,mp (λl=>St l) es ck)::Mw/\Own 34 1 Mw (.slice Aw nw cw) nw (wv w)/\(∀ x∈w,iQ x)/\uK s' Al nl cl l/\ta t tx=.inr (w,l))):=by
 have hF:=Ud t;refine jn (fn:=Tryz.f62) jb Tryz.func62 V Z Tryz.ntmps62 Z (rs:=[.tmp 4,.cell 5 30]) Z [(0,_),(1,_)] Z<|Sr<|kF Y2 λβ1 s1 h1=>mo Y2<|jh Z [_,_] Y2 λβ2 s2 h2=>Nt<|Zs<|Sr<|iA (iZ 1 [_,_] Y5) Z<|Je Y3 (Td Pz) λs3 h3=>jh Z [_,_] Y2 λβ4 s4 h4=>Wt 0 [_,_] Y9<|Nt<|Sr<|iA (iZ 0 [_,_] Y5) Z<|iA (jB [] [_,_] Y3 Z Z Z) Z<|iA (ui Z Z (sp)) Z<|G2 ?_;refine lL Z ?_ ?_<;>intro c5;.have rM:(o5 t).1≠0:=λh=>c5 ⟨h,hF h⟩;refine Zs<|pM jt 3 Z [1] Q4 λs6 h6=>za 0 Z (iZ 0 [_,_] Y5) Z<|H1 ?_;refine X4 ?_;exact Pu
 have ht0:(o5 t).1=0:=c5.1;have hcells:=(Nq hA ht0).cells;refine G6 ?_;refine DT Z Z Z Z<|J3 ?_ ?_<;>intro c6
 .have hlong:400000 < tx.length:=O
  refine Sr<|Je Y3 (Tp) λs7 h7=>mo Y2<|Wt 1 [_,_] Y9<|G4 ?_;exact Pu
 have hlong:¬ 400000 < tx.length:=O
 refine Zk<|Zt<|Sr<|iA (iZ 2 [_,_] Y5) Z<|Gb (λl=>St l) Z λbm s7 h7=>iA (jB [(_,_),(_,_)] [_,_,_,_,_,_] Y3 Z Z Z) Z<|kF Y2 λba s8 h8=>G5 ?_;refine sq 4<|sq 4<|sq 4<|Zr<|kb Y2<|Jc Y3 (qqO O) ?_;rintro _ _ s9 h9 ⟨rfl,Atq9,nt,ct,rfl,hTx⟩;have hnt:=hTx.1;have hct:=J' 10 tx;have yk:tx.count 10<=tx.length:=ia;simp only [show ((10:UInt8).toNat:Int)=10 from rfl] at hnt hct hTx;refine G5 ?_;refine CN [_,_,_] (γ:=Nat×AG) (λg=>[(4,_),(5,_),(7,_),(30,_),(31,_),(32,iB (g.1:Int))]) (λg=>HA ba bm t.cells A n c g.2 L) (λg tw=>Le D s9 tw/\(g.1<=nt/\nQ g.2/\(g.2.w.length:Int)<=t.cells/\g.2.l.length<=g.1/\g.2.r.length<=g.1/\(∀ y∈g.2.r,y.2.1 < g.2.w.length)/\vz t 0 [] [] [] (splitB 10 tx)=vz t g.1 g.2.w g.2.l g.2.r ((splitB 10 tx).drop g.1))) (λg=>nt - g.1) (λ_ _ _ h hl=>⟨h.1.trans hl,h.2⟩) (0,⟨.slice none 0 0,[],.slice none 0 0,[],.slice none 0 0,[],[],0,[],[],[]⟩) (.c6 Z Z Z Z Z Z (.nil _)) Z ⟨Le.refl _,⟨aB _,qG1,by simp only [aq];omega,ay _,ay _,(λ_ h=>by cases h),Z⟩⟩ ?_;intro g kH I10;simp only [jC,jD];obtain ⟨k,g⟩:=g;obtain ⟨ko,hg,vx,hll,xL,kZ,hS⟩:=I10.2;simp only at ko hg vx hll xL kZ hS;dsimp only;refine J6 ?_ ?_<;>intro nZ
 .have hk:k < nt:=O
  obtain ⟨b,off,tx1,rfl,htxk,hctx,_⟩:=iO.at_ Pz hk;have htx1:tx1.length<=400000:=by have:=Ti 10 [] tx tx1 (ax htxk);simp only [aq,aX] at this;omega
  have hdr:(splitB 10 tx).drop k=tx1::(splitB 10 tx).drop (k+1):=by
    obtain ⟨xI,rfl⟩:=al.1 htxk;exact aM xI
  refine G7 ?_;refine iA (lK Y6 hk) Z<|iA (jS Y3 Pz Z) Z<|G9 ?_;refine Jc Y3 (qBg Pz bm t A n c Pz hg htx1 O vx O O) ?_;rintro _ _ kh jE ⟨g',rfl,rfl,hadd⟩;refine G9 ?_;refine lL Z ?_ ?_<;>intro pZ;.have hcode:=pZ;refine G4 ?_;refine Je Y3 (Tp) λlG kI=>mo Y2<|Wt 1 [_,_] Y9<|G8 ?_;exact Pu
  have hcode:pC t g.w g.l (rm tx1)=0:=by simpa using pZ
  obtain ⟨x,hx,he0⟩:=qr7 hcode;obtain ⟨vP,ew,el,er⟩:=hadd x hx he0;refine G4 ?_;refine kq Y3 (jq O O)<|G2 ?_;refine iU ⟨(k+1,g'),[],kp,Z,⟨Lc,⟨Oz,vP,by simp only [ew];exact qur vx he0,by simp only [el];have:=qus (w:=g.w) (l:=g.l) (x:=x);omega,by simp only [er];have:=qut (t:=t) (w:=g.w) (r:=g.r) (i:=(k:Int)) (x:=x);omega,by simp only [er,ew];exact qBj kZ,by simp only [ew,el,er];rw [hS,hdr,NU hx he0]⟩⟩,Oz⟩
 have hdr:(splitB 10 tx).drop k=[]:=aL O;rw [hdr,vz] at hS;have hgu:=hg;obtain ⟨vw,Mw,vl,Ml,vr,Mr,es,ck,w,l,r⟩:=g;obtain ⟨uO,hOl,hOr,hE,huw,hul,hur⟩:=hg;simp only at uO hOl hOr hE huw hul hur;obtain ⟨Aw,cw,rfl,kw,kx⟩:=Own.slice uO;obtain ⟨Al,cl,rfl,kl,km⟩:=Own.slice hOl;obtain ⟨Ar,cr,rfl,kr,ks⟩:=Own.slice hOr;simp only [HA];simp only at hS kZ vx hll xL;refine G7 ?_;refine uz (_::_::_::_::_::Mw) Ml ?_;intro kh jE hpub12;simp only [jC,jD];have hLb:=Own.labs hOl hul hpub12 rfl;refine uz (_::_::_::_::_::Mw) Mr ?_;intro lq kV hpub13;simp only [jC,jD];have hRf:=Own.refs hOr hpub13 rfl;refine G4 ?_;refine Wl 3 Y6<|G5 ?_;refine CN [_,_,_] (γ:=Nat×Hl×iG) (λg=>[(4,_),(5,_),(7,_),(50,_),(51,_),(52,iB (g.1:Int))]) (λg=>(ba,cb [iB t.cells,.slice A n c,.slice Aw w.length cw,.slice Al l.length cl,.map (some bm),.slice Ar r.length cr] 158)::(bm,mp (λl=>St l) es ck)::(g.2.1++L)) (λg tw=>Le D lq tw/\(g.1<=r.length/\Own 34 1 g.2.1 (.slice Aw w.length cw) w.length (wv g.2.2)/\g.2.2.length=w.length/\(∀ x∈g.2.2,iQ x)/\wm l r w=wm l (r.drop g.1) g.2.2)) (λg=>r.length - g.1) (λ_ _ _ h hl=>⟨h.1.trans hl,h.2⟩) (0,Mw,w) (.c6 Z Z Z Z Z Z (.nil _)) Z ⟨Le.refl _,⟨aB _,uO,Z,huw,Z⟩⟩ ?_;intro g lG I14;simp only [jC,jD];obtain ⟨j,Mj,wj⟩:=g;obtain ⟨oV,yi,hwj,huj,hR⟩:=I14.2;simp only at oV yi hwj huj hR;dsimp only;refine J6 ?_ ?_<;>intro vJ
 .have hk:j < r.length:=O
  obtain ⟨br,ofr,x,hAr,hxr,hcr⟩:=Cz.at_ Pz hk;subst hAr;have zi:=kZ x (ax hxr);obtain ⟨bw,yw,hAw,hMw,g1,g2,g3,g4⟩:=Ow yi O;subst hMw;subst hAw;simp only [jC,jD];refine G6 ?_;refine iA (jK Y6 hk) Z<|iA (ku Y3 Pz Z) Z<|jh Z [_,_,_,_] Y2 λβ16 sB tu=>Wt 0 [_,_,_,_] Y9<|Nt<|Zs<|mr jt 13 Z _ (λ_ h=>h) λvD vm=>H3 ?_;refine za 3 Z (Wd 4 Y5) Z<|H3 ?_;refine za 7 Z (kK (m_ jO.str 5 U9 Z Z Z) (show Value.tuple #[(kX es x.2.2.1).getD (iJ 0),.bool (kX es x.2.2.1).isSome]=.tuple #[(kX es x.2.2.1).getD (iJ 0),.bool (mw l x.2.2.1).isSome] by rw [hE,eE])) Z<|H5 ?_;refine ji V<|G8 ?_;refine vZ Z ?_ ?_<;>intro yd
  .have hmiss:mw l x.2.2.1=none:=by simpa using yd
   refine G4 ?_;refine Je Y3 (Tp) λBP yh=>mo Y2<|Wt 2 [_,_] Y9<|G9 ?_;exact rR [_,_,_,_] _ (.tmp Z (.agg (us:=[_,_]) 2 Z Z Z Z Z (.nil))) Z Lc λ_ iD=>G0
  obtain ⟨a,ha⟩:=ee.1 yd;rw [show (kX es x.2.2.1).getD (Value.int .u32 0)=iJ a by rw [hE,ha];rfl];refine Zk<|Zt<|pM jt 12 Z [6] Q4 λBP yh=>H3 ?_;refine za 3 Z (Wd 4 Y5) Z<|H2 ?_;refine za 6 Z (lK Y6 O) Z<|H1 ?_;refine iF 7 V<|jW Z Tt (rS 6 Y4 (qCI O)) Z<|za 9 Z (kK (OY Z Z) (bl (Value.int .u32) (Lg _))) Z<|za 10 Z (lK Y6 O) Z<|iF 11 V<|w8 Z Tt 6 _ Y5 (qBx O) Z (qDu O) Z (λx hx=>hx)<|ji V<|Zb<|Zt<|Zr<|kq Y3 (jq O O)<|G2 ?_;refine iU ⟨(j+1,[(bw,cb (wv (wj.set x.2.1 (mc (wj.getD x.2.1 0+a)))++yw) 34)],wj.set x.2.1 (mc (wj.getD x.2.1 0+a))),[_],kp,Z,⟨Lc,⟨Oz,qoA (by simp only [AE,cD];exact hwj) (by simp only [AE,cD];rw [AE] at g2;exact g2) g3 g4,by simp only [cD];exact hwj,Vm huj (qLR),by simp only;rw [hR,qwg hxr ha]⟩⟩,Oz⟩
 have hdr2:r.drop j=[]:=aL O;rw [hdr2,wm] at hR;refine G8 ?_;refine X22 ?_;exact Pu
def DX(t:oK)(tx:iH):iG:=match ta t tx with
 | .inl _=>[]
 | .inr x=>x.1
def Nl(t:oK)(tx:iH):List (iH×Int):=match ta t tx with
 | .inl _=>[]
 | .inr x=>x.2
def Cp(t:oK)(tx:iH):Int×Int:=match ta t tx with
 | .inl f=>f
 | .inr _=>(0,0)
def qG8(h:ta t tx=.inl f):DX t tx=[]/\Nl t tx=[]/\Cp t tx=f:=by simp [DX,Nl,Cp,h]
def qG9(h:ta t tx=.inr (w,l)):DX t tx=w/\Nl t tx=l/\Cp t tx=(0,0):=by simp [DX,Nl,Cp,h]
def uK.nil(s:World):uK s none 0 0 []:=⟨rfl,ay _,O,λi x h=>by cases h⟩
def Ha{p:Prop} (h:p:=by
 first
  | (exact ⟨_,rfl,λs2 j5 hp=>⟨Aw,nw,cw,by rw [e3];rfl,by rw [e1];exact Own.wds uO huw hp⟩⟩)
  | (exact ⟨_,rfl,λs2 j5 hp=>⟨none,0,0,by rw [e3];rfl,by first|(rw [e1];exact lX.nil _ _ _ O)|(rw [e2];exact uK.nil _)⟩⟩)):p:=h
def qk7(hG:GW s)(hA:ki s A n c t.U):pQ D 25 [.agg #[iB t.cells,.slice A n c],St tx] L s λv M' s'=>∀ s2,Le D s' s2->mI M' s2->∃ A1 n1 c1,v=.tuple #[.slice A1 n1 c1,.agg #[iB (Cp t tx).1,iB (Cp t tx).2]]/\lX s2 A1 n1 c1 (DX t tx):=by
 refine jn (fn:=Tryz.f25) jb Tryz.func25 V Z Tryz.ntmps25 Z (rs:=[.tmp 4,.cell 5 30]) Z [(0,_),(1,_)] Z<|Sr<|kF Y2 λβ1 s1 h1=>mo Y2<|jh Z [_,_] Y2 λβ2 s2 h2=>Nt<|Sr<|iA (iZ 1 [_,_] Y5) Z<|kb Y2<|CX [] _ kv (qmH Pz Pz) ?_;rintro _ Mx s3 h3 ⟨p,f1,f2,rfl,hR⟩;refine G3 ?_;refine jh Z [_,_] Y2 λβ4 s4 h4=>mo Y2<|Wt 0 [_,_] Y9<|Nt<|Zs<|Sr<|iA (iZ 0 [_,_] Y5) Z<|iA (jB [] [_,_] Y3 Z Z Z) Z<|iA (ui Z Z (sp)) Z<|G2 ?_;refine lL Z ?_ ?_<;>intro c5
 .obtain ⟨mL,rM⟩|⟨hz1,hz2,_⟩:=hR
  rotate_left
  . exact absurd ⟨hz1,hz2⟩ c5
  obtain ⟨e1,e2,e3⟩:=qG8 rM;refine Zs<|pM jt 3 Z [1] Q4 λs6 h6=>za 0 Z (iZ 0 [_,_] Y5) Z<|H1 ?_;refine X4 ?_;exact rR [_,_,_] _ (.tmp Z (.agg (us:=[_,_]) 1 Z Z Z Z Z (.nil))) Z Lc λ_ iD=>Ha
 obtain ⟨mL,rM⟩|⟨hz1,hz2,ba,bm,Aw,nw,cw,Al,nl,cl,vr,es,ck,Mw,w,l,hp,hM,uO,huw,hLb,me⟩:=hR
 . exact absurd c5.1 mL
 subst hp;subst hM;have hnw:=hLb.1;simp only [ao];obtain ⟨e1,e2,e3⟩:=qG9 me;refine G7 ?_;refine Wl 3 Y6<|iA (jB [] [_,_] Y3 Z Z Z) Z<|mo Y2<|Wt 1 [_,_] Y9<|G3 ?_;exact rR [_,_,_,_,_] _ (.tmp Z (.agg (us:=[_,_]) 1 Z Z Z Z Z (.nil))) Z Lc λ_ iD=>Ha
def qk8(hG:GW s)(hA:ki s A n c t.U):jU D 25 [.agg #[iB t.cells,.slice A n c],St tx] L s λv L' s'=>L=L'/\∃ A1 n1 c1,v=.tuple #[.slice A1 n1 c1,.agg #[iB (Cp t tx).1,iB (Cp t tx).2]]/\lX s' A1 n1 c1 (DX t tx):=AC.pubW (qk7 hG hA)
end
def qHI{b c d:Int}:HF Tryz.prog 55 [iB a,iB b] [iB c,iB d] (decide (a=c/\b=d)):=⟨V,λw=>by
 show (Op.equalIn (9998+2) 55 _ _).run Tryz.prog w=_;rw [gR w 9999 55 _ _ V V];simp only [Program.fieldsOf,Tryz.underlying55,Op.eqFields,part];simp [OT KM rfl,fJ w 9998 3 .i64 .i64 _ _ Tryz.underlying3];by_cases h1:a=c<;>by_cases h2:b=d<;>simp [h1,h2]⟩
section
variable{t t' te:Nat}{x y:Operand}{p:iE}
def qv2(h:Own e 1 M (.slice Ad n c) n xs)(hn:0 < n):∃ b ys,Ad=jZ b/\M=[(b,cb (xs++ys) e)]/\xs.length=n/\xs.length+ys.length=c/\n<=c/\c<=9223372036854775807:=by
 exact XW
section
variable{TT:kD}{fr:Fr}{ops:Array Oper}{op:Op}
def qGD(hp:P.underlying t=some (.pointer te))(hx:lk fr x=some (.pointer p)):QE P TT D fr (.binOp .eql t x (.const (.pointer none)) t') ty K s0 (.bool p.isNone):=
 QE.pure λ_ dst iL af g ρ hρ w=>by
  have hc:=hρ (.const (.pointer none)) _ rfl;have h:∀ k:Nat,(Op.equalIn (k+1) t (.pointer p) (.pointer none)).run P w=.ok p.isNone w:=λk=>by cases p<;>simp [Op.equalIn,aQ hp]
  have h2:(binOp .eql t (.pointer p) (.pointer none)).run P w=.ok (.bool p.isNone) w:=by simp only [binOp];simp [Op.equal,Op.maxDepth,h 9999]
  simp [execOp,hρ x _ hx,hc,eqGuard,h2]
def O3(hp:P.underlying t=some (.pointer te))(hx:lk fr x=some (.pointer p)):QE P TT D fr (.binOp .neq t x (.const (.pointer none)) t') ty K s0 (.bool p.isSome):=
 QE.pure λ_ dst iL af g ρ hρ w=>by
  have hc:=hρ (.const (.pointer none)) _ rfl;have h:∀ k:Nat,(Op.equalIn (k+1) t (.pointer p) (.pointer none)).run P w=.ok p.isNone w:=λk=>by cases p<;>simp [Op.equalIn,aQ hp]
  have h2:(binOp .neq t (.pointer p) (.pointer none)).run P w=.ok (.bool p.isSome) w:=by simp only [binOp];cases p<;>simp [Op.equal,Op.maxDepth,h 9999]
  simp [execOp,hρ x _ hx,hc,eqGuard,h2]
def qGE{a:Addr}(hp:P.underlying t=some (.pointer te))(pJ:jz TT te=some ti)(hx:lk fr x=some (.pointer (some a)))(hy:lk fr y=some (.pointer (some a))):QE P TT D fr (.binOp .neq t x y t') ty K s0 (.bool false):=
 QE.pure λhT dst iL af g ρ hρ w=>by
  obtain ⟨i,i1,_⟩:=Cc (hT.at_ pJ);simp [execOp,hρ x _ hx,hρ y _ hy,eqGuard,Lib.run_neq_ptr_same w a hp i1]
def Tx(ho:jQ D L s)(hi:(b,cb zs e)∈L):(fill L s).shape? b=some (e,zs.length):=by
 have:=qM ho hi;unfold World.shape?;rw [this];simp [cb]
def qGJ(i:Nat)(hs:P.underlying t=some (.pointer te))(hd:P.underlying t'=some .unsafePointer)(pJ:jz TT te=some ti)(hx:lk fr x=some (iT b))(hi:K[i]?=some (b,cb zs e))(hz:Nat.blt 0 zs.length=true):QE P TT D fr (.convert t t' x) ty K s0 (iT b):=
 λhT dst iL af g ρ hρ L s ho hl hK=>by
  obtain ⟨i0,i1,i2,_⟩:=Cc (hT.at_ pJ);have mM:0 < ti.size:=(hT.at_ pJ).2.2.2.2.2.1;have hr:=Lib.run_to_unsafe (P:=P) (fill L s) ⟨b,0,none⟩ hs hd i1 (by rw [i2];omega) (Tx ho (hK _ (ax hi))) (by simpa using hz);simp only [execOp,hρ x _ hx,bA,hr,aP,bG]
def qua(i:Nat)(hs:P.underlying t=some .unsafePointer)(hd:P.underlying t'=some (.pointer te))(pJ:jz TT te=some ti)(hx:lk fr x=some (iT b))(hi:K[i]?=some (b,cb zs e))(hlies:liesAt P P.depth e (zs.length / P.cellsOf e) 0 te 1=true):QE P TT D fr (.convert t t' x) ty K s0 (iT b):=
 λhT dst iL af g ρ hρ L s ho hl hK=>by
  obtain ⟨i0,i1,i2,_⟩:=Cc (hT.at_ pJ);have hr:=Lib.run_from_unsafe (P:=P) (fill L s) ⟨b,0,none⟩ hs hd i1 (Tx ho (hK _ (ax hi))) hlies;simp only [execOp,hρ x _ hx,bA,hr,aP,bG]
def qAS{f:FuncId}(hf:P.funcs[f]?=some fn)(hname:(fn.name == "runtime.NumGoroutine")=false)(hb:fn.body.isNone=true)(hn:Extern.findNext fn=none)(he:Extern.find fn=some Extern.AbiNoEscape.same)(hx:lk fr x=some (.func (.func f) #[] #[]))(hy:lk fr y=some v):
  QE P TT D fr (.call { callee:=.value x,args:=#[y],argTypes:=ts }) ty K s0 v:=
 QE.pure λhT dst iL af g ρ hρ w=>by
  have hr:=run_callFunc_extern hf hname hb hn he #[v] w;rw [Lib.run_noEscape] at hr;simp [execOp,resolve,Deferred.ofValue,invoke,hρ x _ hx,hρ y _ hy,hr]
def qGK(hx:lk fr x=some (.slice A m c))(hc:A=none\/c≠0):QE P TT D fr (.call { callee:=.builtin .unsafeSliceData,args:=#[x],argTypes:=ts }) ty K s0 (.pointer A):=
  QE.pure λhT dst iL af g ρ hρ w=>by
    rcases hc with rfl|hc
    . simp [execOp,resolve,invoke,builtin,hρ x _ hx,fV]
    . cases A with
      | none=>simp [execOp,resolve,invoke,builtin,hρ x _ hx,fV]
      | some a=>simp [execOp,resolve,invoke,builtin,hρ x _ hx,Lib.run_unsafeSliceData_row _ _ _ _ _ _ hc]
def qpw(w:World)(g e k:Nat)(cs:Array Value)(hk:k≠0)(hg:g < w.heap.size):(pz w g (.cells cs e (0,0))).freeze ⟨g,0,none⟩ k=pz w g (.cells cs e (0,k)):=by
  unfold World.freeze;rw [ak hk];refine Dz (Dy λj=>?_) Z Z Z Z;show ((w.heap.setIfInBounds g _).modify g _)[j]?=(w.heap.setIfInBounds g _)[j]?;rw [fg];by_cases hj:g=j
  . subst hj
    rw [au rfl,dx,dx];simp [hg]
  . rw [ak hj,bW hj,bW hj]
end
section
variable{TT:kD}{fr:Fr}{ops:Array Oper}{op:Op}
def qAd{l:iH}(X M L0:Hl)(hp:P.underlying tp=some (.pointer e))(zW:P.cellsOf e=1)(hx:lk fr x=some (.pointer A))(hy:lk fr y=some (iB (l.length:Int)))(hO:Own e 1 M (.slice A l.length c) l.length (bv l))(hn:l=[]->M=[])(ho:jQ D (X++(M++L0)) s):
    ∃ s',Ev P TT D fr (.call { callee:=.builtin .unsafeString,args:=#[x,y],argTypes:=#[tp,ti0] }) ty (X++(M++L0)) s (.value (St l)) (X++L0) s'/\Le D s s':=by
  by_cases h0:l=[]
  . subst h0
    have hM:=hn rfl;subst hM;refine ⟨s,λhT ho dst iL af g ρ hρ=>⟨?_,by simpa using ho⟩,Le.refl _⟩;simp only [aq] at hy;have hr:=Lib.run_unsafeString_none (P:=P) (fill (X++([]++L0)) s) tp ti0 ty A;simp [execOp,resolve,invoke,builtin,hρ x _ hx,hρ y _ hy];simp at hr;rw [hr];rfl
  . have hl0:l.length≠0:=by simpa using h0
    obtain ⟨g,ys,hA,hM,g1,g2,g3,g4⟩:∃ g ys,A=jZ g/\M=[(g,cb (bv l++ys) e)]/\(bv l).length=l.length/\(bv l).length+ys.length=c/\l.length<=c/\c<=9223372036854775807:=qv2 hO O;subst hA;subst hM;have hperm:(X++([(g,cb (bv l++ys) e)]++L0)).Perm ((g,cb (bv l++ys) e)::(X++L0)):=by simpa using List.perm_middle
    have nj:=ho.perm hperm;have hgs:g < s.heap.size:=nj.lt Mc;have hgs2:g < (fill (X++L0) s).heap.size:=by rw [oB];exact hgs
    have ho3:jQ D ([(g,Obj.cells (bv l++ys).toArray e (0,l.length))]++(X++L0)) s:=⟨by simpa using nj.nd,λx hx=>by
      rcases aR.1 hx with rfl|hx
      . exact nj.dm (g,cb (bv l++ys) e) Mc
      . exact nj.dm x (an _ hx)⟩
    obtain ⟨d1,d2,d3⟩:=tI ho3;have hbl:(bv l).length=l.length:=g1;have hus:=Lib.run_unsafeString_row (P:=P) (fill (X++([(g,cb (bv l++ys) e)]++L0)) s) tp ti0 ty e hp zW g ((bv l++ys).length) (Tx ho Ξ) l h0 (by simp [hbl]) O (λj x hx=>by
      rw [add_lit,aX,Ca ho (zs:=bv l++ys) (t:=e) Ξ,aV (by rw [hbl];exact (al.1 hx).1)];simp [bv,hx])
    have hw:(fill (X++([(g,cb (bv l++ys) e)]++L0)) s).freeze ⟨g,0,none⟩ l.length=fill (X++L0) (fill [(g,Obj.cells (bv l++ys).toArray e (0,l.length))] s):=by
      rw [uc hperm _ ho,<- d1];exact qpw (fill (X++L0) s) g e l.length (bv l++ys).toArray hl0 hgs2
    refine ⟨fill [(g,Obj.cells (bv l++ys).toArray e (0,l.length))] s,λhT _ dst iL af gg ρ hρ=>⟨?_,d2⟩,d3⟩;rw [hw] at hus;simp only [execOp,resolve,invoke,builtin,bA,bG,aP,gH,aN,dE,hρ x _ hx,hρ y _ hy,hus]
def qAD{i0:Nat}{g:Option (Nat×Bool)}{iC:Array Bool}{x y:Operand}{l:iH}(rO:ops[i0]?=some ⟨some d,.call { callee:=.builtin .unsafeString,args:=#[x,y],argTypes:=#[tp,ti0] },ty,iL,af,g⟩)(ri:sf ops fr g)
  (X M L0:Hl) (hL:L=X++(M++L0)) (hp:P.underlying tp=some (.pointer e)) (zW:P.cellsOf e=1) (hx:lk fr x=some (.pointer A)) (hy:lk fr y=some (iB (l.length:Int))) (hO:Own e 1 M (.slice A l.length c) l.length (bv l)) (hn:l=[]->M=[]) (hd:Nat.blt d n=true) (hK:∀ x∈K,x∈X++(M++L0)->x∈X++L0)
  (kk:∀ s',Le D s s'->JA P TT D n ops Q K s0 jd (iC.setIfInBounds i0 true) ((d,St l)::fr) (X++L0) s'):JB P TT D n ops Q K s0 jd iC i0 fr L s:=λhT a hr ho hl0 hKL=>by
 subst hL;obtain ⟨s',h1,h2⟩:=qAd (ty:=ty) X M L0 hp zW hx hy hO hn ho;exact Cn rO ri h1 h2 hK hd (kk s' h2) hT a hr ho hl0 hKL
end
end
section
variable{k:Nat}
inductive Ex where
 | mk (kind op num:Int) (name:iH) (args:List Ex)
inductive iP where
 | mk (kind:Int) (name:iH) (exprs:List Ex) (body els:List iP)
def Ex.kind:Ex->Int|.mk k _ _ _ _=>k
def Ex.op:Ex->Int|.mk _ o _ _ _=>o
def Ex.num:Ex->Int|.mk _ _ n _ _=>n
def Ex.name:Ex->iH|.mk _ _ _ s _=>s
def Ex.args:Ex->List Ex|.mk _ _ _ _ l=>l
def iP.kind:iP->Int|.mk k _ _ _ _=>k
def iP.name:iP->iH|.mk _ s _ _ _=>s
def iP.exprs:iP->List Ex|.mk _ _ l _ _=>l
def iP.body:iP->List iP|.mk _ _ _ b _=>b
def iP.els:iP->List iP|.mk _ _ _ _ e=>e
structure iM where
 name:iH
 params:List iH
 locals:List iH
 body:List iP
structure jv where
 kind:Int
 name:iH
 num:Int
 init:iG
structure jc where
 o:List jv
 funcs:List iM
def tP:Nat->World->Ex->iz->Prop
 | 0,_,_,_=>False
 | d+1,s,x,cs=>∃ A n c,cs=[iB x.kind,iB x.op,iJ x.num,St x.name,.slice A n c]/\Sl 5 (tP d) s A n c x.args/\iQ x.num/\x.name.length<=9223372036854775807
def j8(d:Nat)(s:World)(A:iE)(n c:Nat)(l:List Ex):Prop:=Sl 5 (tP d) s A n c l
def ru:Nat->World->iP->iz->Prop
 | 0,_,_,_=>False
 | d+1,s,x,cs=>∃ A1 n1 c1 A2 n2 c2 A3 n3 c3,cs=[iB x.kind,St x.name,.slice A1 n1 c1,.slice A2 n2 c2,.slice A3 n3 c3]/\j8 d s A1 n1 c1 x.exprs/\Sl 5 (ru d) s A2 n2 c2 x.body/\Sl 5 (ru d) s A3 n3 c3 x.els/\x.name.length<=9223372036854775807
def jo(d:Nat)(s:World)(A:iE)(n c:Nat)(l:List iP):Prop:=Sl 5 (ru d) s A n c l
def tP.le(hl:Le D s s'):∀ {d:Nat} {x:Ex} {cs:iz},tP d s x cs->tP d s' x cs
 | 0,_,_,h=>h
 | _+1,_,_,⟨A,n,c,h1,h2,h3⟩=>⟨A,n,c,h1,Sl.le (λ_ _ h=>tP.le hl h) h2 hl,h3⟩
def j8.le{l:List Ex}(h:j8 d s A n c l)(hl:Le D s s'):j8 d s' A n c l:=Sl.le (λ_ _ h=>tP.le hl h) h hl
def ru.le(hl:Le D s s'):∀ {d:Nat} {x:iP} {cs:iz},ru d s x cs->ru d s' x cs
 | 0,_,_,h=>h
 | _+1,_,_,⟨A1,n1,c1,A2,n2,c2,A3,n3,c3,h1,h2,h3,h4,h5⟩=>⟨A1,n1,c1,A2,n2,c2,A3,n3,c3,h1,h2.le hl,Sl.le (λ_ _ h=>ru.le hl h) h3 hl,Sl.le (λ_ _ h=>ru.le hl h) h4 hl,h5⟩
def jo.le{l:List iP}(h:jo d s A n c l)(hl:Le D s s'):jo d s' A n c l:=Sl.le (λ_ _ h=>ru.le hl h) h hl
def Sl.imp{α:Type}{sz:Nat}{R R':World->α->iz->Prop}{l:List α}(hR:∀ x cs,R s x cs->R' s x cs)(h:Sl sz R s A n c l):Sl sz R' s A n c l:=
 ⟨h.1,h.2.1,h.2.2.1,λi x hi=>by
  obtain ⟨b,off,cs,h1,h2,h3,h4⟩:=h.2.2.2 i x hi;exact ⟨b,off,cs,h1,h2,h3,hR x cs h4⟩⟩
def tP.up:∀ {d e:Nat},d<=e->∀ {x:Ex} {cs:iz},tP d s x cs->tP e s x cs
 | 0,_,_,_,_,h=>h.elim
 | d+1,0,h,_,_,_=>O
 | d+1,e+1,h,_,_,⟨A,n,c,h1,h2,h3⟩=>⟨A,n,c,h1,Sl.imp (λ_ _ k=>tP.up O k) h2,h3⟩
def j8.up{l:List Ex}(h:j8 d s A n c l)(he:d<=e):j8 e s A n c l:=Sl.imp (λ_ _ k=>tP.up he k) h
def ru.up:∀ {d e:Nat},d<=e->∀ {x:iP} {cs:iz},ru d s x cs->ru e s x cs
 | 0,_,_,_,_,h=>h.elim
 | d+1,0,h,_,_,_=>O
 | d+1,e+1,h,_,_,⟨A1,n1,c1,A2,n2,c2,A3,n3,c3,h1,h2,h3,h4,h5⟩=>⟨A1,n1,c1,A2,n2,c2,A3,n3,c3,h1,h2.up O,Sl.imp (λ_ _ k=>ru.up O k) h3,Sl.imp (λ_ _ k=>ru.up O k) h4,h5⟩
def jo.up{l:List iP}(h:jo d s A n c l)(he:d<=e):jo e s A n c l:=Sl.imp (λ_ _ k=>ru.up he k) h
def j8.at_{l:List Ex}(h:j8 d s A n c l)(hk:k < n):∃ e b off x A' n' c',d=e+1/\A=some ⟨b,off,none⟩/\l[k]?=some x/\iy s b (off+k * 5) [iB x.kind,iB x.op,iJ x.num,St x.name,.slice A' n' c']/\j8 e s A' n' c' x.args/\iQ x.num/\x.name.length<=9223372036854775807:=by
 have hl:k < l.length:=by rw [<- h.1];exact hk
 obtain ⟨b,off,cs,h1,h2,_,h4⟩:=h.2.2.2 k l[k] (ap hl);cases d with
 | zero=>exact h4.elim
 | succ e=>
  obtain ⟨A',n',c',rfl,h5,h6,h7⟩:=h4;exact ⟨e,b,off,l[k],A',n',c',rfl,h1,ap hl,h2,h5,h6,h7⟩
def jo.at_{l:List iP}(h:jo d s A n c l)(hk:k < n):∃ e b off x A1 n1 c1 A2 n2 c2 A3 n3 c3,d=e+1/\A=some ⟨b,off,none⟩/\l[k]?=some x/\iy s b (off+k * 5) [iB x.kind,St x.name,.slice A1 n1 c1,.slice A2 n2 c2,.slice A3 n3 c3]/\j8 e s A1 n1 c1 x.exprs/\jo e s A2 n2 c2 x.body/\jo e s A3 n3 c3 x.els/\x.name.length<=9223372036854775807:=by
 have hl:k < l.length:=by rw [<- h.1];exact hk
 obtain ⟨b,off,cs,h1,h2,_,h4⟩:=h.2.2.2 k l[k] (ap hl);cases d with
 | zero=>exact h4.elim
 | succ e=>
  obtain ⟨A1,n1,c1,A2,n2,c2,A3,n3,c3,rfl,h5,h6,h7,h8⟩:=h4;exact ⟨e,b,off,l[k],A1,n1,c1,A2,n2,c2,A3,n3,c3,rfl,h1,ap hl,h2,h5,h6,h7,h8⟩
def AT(d:Nat)(s:World)(x:iM)(cs:iz):Prop:=∃ A1 n1 c1 A2 n2 c2 A3 n3 c3,cs=[St x.name,.slice A1 n1 c1,.slice A2 n2 c2,.slice A3 n3 c3]/\iO s A1 n1 c1 x.params/\iO s A2 n2 c2 x.locals/\jo d s A3 n3 c3 x.body/\x.name.length<=9223372036854775807
def jl(d:Nat)(s:World)(A:iE)(n c:Nat)(l:List iM):Prop:=Sl 4 (AT d) s A n c l
def Dk(s:World)(x:jv)(cs:iz):Prop:=∃ A n c,cs=[iB x.kind,St x.name,iJ x.num,.slice A n c]/\lX s A n c x.init/\iQ x.num/\x.name.length<=9223372036854775807
def ja(s:World)(A:iE)(n c:Nat)(l:List jv):Prop:=Sl 4 Dk s A n c l
def XD{p:Prop} (h:p:=by
 obtain ⟨A1,n1,c1,A2,n2,c2,A3,n3,c3,h1,h2,h3,h4,h5⟩:=h;exact ⟨A1,n1,c1,A2,n2,c2,A3,n3,c3,h1,h2.le hl,h3.le hl,h4.le hl,h5⟩):p:=h
def AT.le{x:iM}{cs:iz}(h:AT d s x cs)(hl:Le D s s'):AT d s' x cs:=by
 exact XD
def jl.le{l:List iM}(h:jl d s A n c l)(hl:Le D s s'):jl d s' A n c l:=Sl.le (λ_ _ h=>h.le hl) h hl
def Dk.le{x:jv}{cs:iz}(h:Dk s x cs)(hl:Le D s s'):Dk s' x cs:=by
 obtain ⟨A,n,c,h1,h2,h3⟩:=h;exact ⟨A,n,c,h1,h2.le hl,h3⟩
def ja.le{l:List jv}(h:ja s A n c l)(hl:Le D s s'):ja s' A n c l:=Sl.le (λ_ _ h=>h.le hl) h hl
def jl.at_{l:List iM}(h:jl d s A n c l)(hk:k < n):∃ b off x A1 n1 c1 A2 n2 c2 A3 n3 c3,A=some ⟨b,off,none⟩/\l[k]?=some x/\iy s b (off+k * 4) [St x.name,.slice A1 n1 c1,.slice A2 n2 c2,.slice A3 n3 c3]/\iO s A1 n1 c1 x.params/\iO s A2 n2 c2 x.locals/\jo d s A3 n3 c3 x.body/\x.name.length<=9223372036854775807:=by
 have hl:k < l.length:=by rw [<- h.1];exact hk
 obtain ⟨b,off,cs,h1,h2,_,A1,n1,c1,A2,n2,c2,A3,n3,c3,rfl,h5⟩:=h.2.2.2 k l[k] (ap hl);exact ⟨b,off,l[k],A1,n1,c1,A2,n2,c2,A3,n3,c3,h1,ap hl,h2,h5⟩
def ja.at_{l:List jv}(h:ja s A n c l)(hk:k < n):∃ b off x A' n' c',A=some ⟨b,off,none⟩/\l[k]?=some x/\iy s b (off+k * 4) [iB x.kind,St x.name,iJ x.num,.slice A' n' c']/\lX s A' n' c' x.init/\iQ x.num/\x.name.length<=9223372036854775807:=by
 have hl:k < l.length:=by rw [<- h.1];exact hk
 obtain ⟨b,off,cs,h1,h2,_,A',n',c',rfl,h5⟩:=h.2.2.2 k l[k] (ap hl);exact ⟨b,off,l[k],A',n',c',h1,ap hl,h2,h5⟩
def sT:List iH:=[[97,114,114,97,121],[98,114,101,97,107],[99,111,110,115,116],[99,111,110,116,105,110,117,101],[101,108,115,101],[102,117,110,99],[103,101,116],[105,102],[112,117,116],[114,101,116,117,114,110],[115,116,111,112],[118,97,114],[119,104,105,108,101]]
def JK(s:iH):Bool:=sT.any λw=>decide (w=s)
def py(s:iH):Bool:=(decide (s≠[]) && decide ((s.length:Int)<=12) && tF 0 s) && !JK s
def qk(g:jv):Int:=if g.kind < 1\/3 < g.kind then 5 else if py g.name=false then 7 else if (g.kind≠3/\g.init≠[])\/(g.kind=2/\g.num≠0) then 6 else if g.kind=3/\(g.num < 1\/40000 < g.num) then 4 else if g.kind=3/\g.num < (g.init.length:Int) then 2 else 0
def Pg(k:Int):Bool:=decide (2<=k/\k<=4)
def wa(k:Int):Nat:=if k=3\/k=6 then 1 else if k=7 then 2 else 0
def yE(k:Int):Nat:=if k=3\/k=6 then 1 else if k=4 then 6 else if k=7 then 2 else 0
def ut(k o n:Int)(nm:iH)(na:Nat):Int:=if k < 1\/7 < k\/(k=6/\(o < 1\/3 < o))\/(k=7/\(o < 4\/21 < o)) then 5 else if Pg k=true/\py nm=false then 7 else if (Pg k=false/\nm≠[])\/(k≠1/\n≠0)\/(k < 6/\o≠0)\/na < wa k\/yE k < na then 6 else 0
def Cl(k:Int):Bool:=decide (k=1) || decide (k=2) || decide (k=5)
def wW(k:Int):Nat:=if k=2 then 2 else if k=5\/8 < k then 0 else 1
def zC(k:Int):Nat:=if k=2 then 2 else if k=5 then 6 else if 8 < k then 0 else 1
def vE(k:Int)(nm:iH)(ne nb nl:Nat):Int:=if k < 1\/10 < k then 5 else if Cl k=true/\py nm=false then 7 else if (Cl k=false/\nm≠[])\/ne < wW k\/zC k < ne\/(0 < nb/\k≠3/\k≠4)\/(0 < nl/\k≠3) then 6 else 0
mutual
def rr:Ex->Nat->Nat->Nat×Int
 | .mk k o n nm az,lv,c=>if 16 < lv\/2000 < c+1 then (c+1,2) else if ut k o n nm az.length≠0 then (c+1,ut k o n nm az.length) else mD az (lv+1) (c+1)
def mD:List Ex->Nat->Nat->Nat×Int
 | [],_,c=>(c,0)
 | x::r,lv,c=>if (rr x lv c).2≠0 then rr x lv c else mD r lv (rr x lv c).1
end
mutual
def rq:iP->Nat->Nat->Nat×Int
 | .mk k nm es b e,lv,c=>if 16 < lv\/2000 < c+1 then (c+1,2) else if vE k nm es.length b.length e.length≠0 then (c+1,vE k nm es.length b.length e.length)
  else if (mD es 1 (c+1)).2≠0 then mD es 1 (c+1) else if (mC b (lv+1) (mD es 1 (c+1)).1).2≠0 then mC b (lv+1) (mD es 1 (c+1)).1 else mC e (lv+1) (mC b (lv+1) (mD es 1 (c+1)).1).1
def mC:List iP->Nat->Nat->Nat×Int
 | [],_,c=>(c,0)
 | x::r,lv,c=>if (rq x lv c).2≠0 then rq x lv c else mC r lv (rq x lv c).1
end
def oH(x:iM)(c:Nat):Nat×Int:=if py x.name=false then (c,7) else if 6 < x.params.length\/12 < x.locals.length then (c,2) else if (x.params++x.locals).any (λs=>!py s)=true then (c,7) else mC x.body 1 c
def vC(o:Int):Int:=if o=21 then 1 else if o=20 then 2 else if 14<=o/\o<=19 then 3 else if 10<=o/\o<=13 then 4 else 5
def tg:List iH:=[[],[33],[45],[126],[42],[47],[37],[60,60],[62,62],[38],[43],[45],[124],[94],[61,61],[33,61],[60],[60,61],[62],[62,61],[38,38],[124,124]]
def BK(o:Int):iH:=tg.getD o.toNat []
def rC:List iH->iH
 | []=>[]
 | [x]=>x
 | x::y::r=>x++44::32::rC (y::r)
def DJ(k o:Int):iG:=if k=6 then [9] else if k=7 then [vC o,vC o+1] else []
def CH(k o n:Int)(nm:iH)(az:List iH)(out:Int):iH:=if k=1 then pD n else if k=2 then nm else if k=3 then nm++[91]++rC az++[93] else if k=4 then nm++[40]++rC az++[41] else if k=5 then [103,101,116] else if k=6 then BK o++az.getD 0 []
 else if vC o < out then [40]++(az.getD 0 []++[32]++BK o++[32]++az.getD 1 [])++[41] else az.getD 0 []++[32]++BK o++[32]++az.getD 1 []
mutual
def nR:Ex->Int->iH
 | .mk k o n nm az,out=>CH k o n nm (sa az (DJ k o)) out
def sa:List Ex->iG->List iH
 | [],_=>[]
 | x::r,os=>nR x (os.headD 0)::sa r os.tail
end
def pT:Nat->iH
 | 0=>[]
 | n+1=>pT n++[32,32]
def yI(k:Int)(nm:iH)(es:List iH):iH:=if k=1 then nm++[32,61,32]++es.getD 0 []++[59,10] else if k=2 then nm++[91]++es.getD 0 []++[93,32,61,32]++es.getD 1 []++[59,10] else if k=5 then nm++[40]++rC es++[41,59,10]
 else (if k=6 then [114,101,116,117,114,110,32] else if k=7 then [112,117,116,32] else if k=8 then [115,116,111,112,32] else if k=9 then [98,114,101,97,107] else [99,111,110,116,105,110,117,101])++rC es++[59,10]
def EY:List iP->Bool
 | [.mk k _ _ _ _]=>decide (k=3)
 | _=>false
mutual
def x7:iP->Nat->iH
 | .mk k nm es b e,lv=>if k=3\/k=4 then
   (if k=3 then [105,102] else [119,104,105,108,101])++[32,40]++(sa es []).getD 0 []++[41,32,123,10]++uo b (lv+1)++pT lv++[125] ++
    (if e.isEmpty=true then [10] else if EY e=true then [32,101,108,115,101,32]++BQ e lv else [32,101,108,115,101,32,123,10]++uo e (lv+1)++pT lv++[125,10])
  else yI k nm (sa es [])
def uo:List iP->Nat->iH
 | [],_=>[]
 | x::r,lv=>pT lv++x7 x lv++uo r lv
def BQ:List iP->Nat->iH
 | [],_=>[]
 | x::_,lv=>x7 x lv
end
def uD(g:jv):iH:=(if g.kind=1 then [99,111,110,115,116,32]++g.name++[32,61,32]++pD g.num else if g.kind=2 then [118,97,114,32]++g.name
 else [97,114,114,97,121,32]++g.name++[91]++pD g.num++[93]++(if g.init=[] then [] else [32,61,32]++rC (g.init.map pD)))++[59,10]
def Ct(x:iM):iH:=[102,117,110,99,32]++x.name++[40]++rC x.params++[41,32,123,10]++(if x.locals=[] then [] else [32,32,118,97,114,32]++rC x.locals++[59,10])++uo x.body 1++[125,10]
def BL(p:jc):iH:=(p.o.map uD).flatten++(p.funcs.map Ct).flatten
def tt:List iM->Nat->Nat->Int×Int
 | [],_,_=>(0,0)
 | x::r,i,c=>if (oH x c).2≠0 then ((oH x c).2,(i:Int)) else tt r (i+1) (oH x c).1
def vM:List jv->Nat->Int×Int
 | [],_=>(0,0)
 | g::r,i=>if qk g≠0 then (qk g,(i:Int)) else vM r (i+1)
def pN(p:jc):Int×Int:=if 64 < p.o.length\/64 < p.funcs.length then (2,-1) else if (vM p.o 0).1≠0 then vM p.o 0 else if 1000 < (p.o.map λg=>g.init.length).sum then (2,-1) else tt p.funcs p.o.length 0
def pn(p:jc):Int×Int:=if (pN p).1≠0 then pN p else if 12000 < (BL p).length then (14,-1) else (0,0)
def jx:jc:=⟨[⟨1,[110],3,[]⟩],[⟨[109,97,105,110],[],[],[.mk 7 [] [.mk 7 10 0 [] [.mk 5 0 0 [] [],.mk 7 4 0 [] [.mk 2 0 0 [110] [],.mk 1 0 2 [] []]]] [] []]⟩]⟩
attribute [local irreducible] JC JO JA JB ma mO mX AC fill iy QE Ev my
def qpz{r:Int}:jT D 214 [.int .i32 r] L s (.bool (decide ((r < 97\/122 < r)/\(r < 48\/57 < r)))):=by
 refine jn (fn:=Tryz.f214) jb Tryz.func214 V Z Tryz.ntmps214 Z (rs:=[.tmp 2]) Z [(0,_)] Z<|lM ?_;exact V6
end
section
variable{l w:iH}
section
variable(L:Hl)
def qmZ:tM prog 218:=⟨_,func218,V,V⟩
def qlw:∀ args w,(callFunc 214 args).run prog w=.ok (.enter 214 args) w:=enters_of func214 V rfl
def qlm:jT D 213 [St l,.func (.func 214) #[] #[]] L s (.bool (l.any xV)):=
  AC.of_calls ZX λ_=>by
    refine (Any.strings_ContainsFunc_grows laysGw17 214 #[] qlw D4 ⟨l.toArray⟩ (fill L s) (λW x _ _=>?_)).mono ?_
    . exact Te (args:=[.int .i32 (x:Int)]) λD=>qpz
    . rintro e w' ⟨he,hb⟩
      exact WR
def qol(ws:List iH)(hS:iO s A n c ws)(iK:(Lib.join ws sep).length<=140737488355328)(hn:ws.length<=140737488355328):jT D 88 [.slice A n c,St sep] L s (St (Lib.join ws sep)):=by
  obtain rfl:=hS.1;by_cases h0:ws=[]
  . subst h0
    refine AC.of_calls Q_ λ_=>(Any.strings_Join_none lays156 Tryz.Builder_Extra_156 A c ⟨sep.toArray⟩ (fill L s)).mono λe w' ⟨he,hw⟩=>?_;exact ⟨_,he,by rw [hw];exact Dp,λs' _ _ _=>⟨rfl,rfl⟩⟩
  . obtain ⟨x,r,rfl⟩:∃ x r,ws=x::r:=by cases ws with
      | nil=>exact absurd rfl h0
      | cons x r=>exact ⟨x,r,rfl⟩
    obtain ⟨b,off,cs,hA,hc,_,rfl,_⟩:=hS.2.2.2 0 x rfl;subst hA;have hmap:((x::r).map λx=>(⟨x.toArray⟩:ByteArray)).map (·.data.toList)=x::r:=by
      rw [fR];exact List.map_id'' (λ_=>rfl) _
    refine AC.of_calls Q_ λho=>?_;have hbk:b < (fill L s).heap.size:=by rw [oB];exact Dv (hc 0 (St x) rfl)
    have:=Any.strings_Join lays156 Tryz.Builder_Extra_156 b off c ((x::r).map λx=>(⟨x.toArray⟩:ByteArray)) ⟨sep.toArray⟩ (fill L s) (qpZ s hS (BC ho) rfl) hbk (by rw [bB];exact hn) (by rw [bB];exact hS.2.1) (by rw [hmap];exact iK);rw [bB,hmap] at this;refine this.mono λe w' ⟨he,hb⟩=>⟨_,he,hb,λs' _ _ _=>⟨Z,Z⟩⟩
def qpm(hG:GP s)(ws:List iH)(hf:Lib.fields l=ws)(ha:l.all (λb=>decide (b.toNat < 128))=true)(hl:l.length<=4000000):jU D 215 [St l] L s λv L' _=>∃ β,L'=(β,cb (sb ws) 9)::L/\v=.slice (jZ β) ws.length ws.length:=
  ⟨qlF,λho=>by
    have jp:(⟨l.toArray⟩:ByteArray).size=l.length:=by simp [dH]
    refine (Any.strings_Fields lays157 V V ⟨l.toArray⟩ (fill L s) O (λj b hj=>?_) (qG7 (hG.le (BC ho)))).mono ?_
    . have hm:b∈l:=ax Q18
      exact cV (bU.1 ha b hm)
    . rintro e w' ⟨he,hw⟩
      have hf:Lib.fields (⟨l.toArray⟩:ByteArray).data.toList=ws:=hf;obtain ⟨h1,h2,h3⟩:=qB ho (cb (sb ws) 9);refine ⟨_,_,_,he,?_,h2,h3,s.heap.size,Z,?_⟩
      . rw [hw,hf,<- h1];rfl
      . rw [hf,oB]⟩
def qsX(h1:n<=9223372036854775807)(h2:l.length * n<=140737488355328):jT D 218 [St l,iB (n:Int)] L s (St (Lib.repeatL l n)):=
 AC.of_calls qmZ λ_=>by
  refine (Any.strings_Repeat lays105 Tryz.Builder_Extra_105 ⟨l.toArray⟩ n (fill L s) h1 (by simpa [dH] using h2)).mono ?_;rintro e w' ⟨he,hb⟩;exact ⟨_,he,hb,λs' _ _ _=>⟨rfl,rfl⟩⟩
end
attribute [local irreducible] JC JO JA JB ma mO mX AC fill iy QE Ev my
def YK{α:Type}{l:List α}{x:α}(h:l[0]?=some x):∃ r,l=x::r:=by
 cases l with
 | nil=>cases h
 | cons y r=>simp at h;subst h;exact ⟨r,rfl⟩
def AD(l:iH):Bool:=decide (l≠[]) && tF 0 l
def qtL{c:UInt8}(h:l[0]?=some c)(hc:¬ ((c.toNat:Int) < 97)/\¬ (122 < (c.toNat:Int))):AD l=!l.any xV:=by
 obtain ⟨r,rfl⟩:=YK h;have hl:vc c=true:=by simp only [vc,aA,aH];omega
 have hb:xV c=false:=by simp [xV,hl]
 simp only [AD,tF,uH,hl,gM,fx,fw,hb,ep,qli (l:=r) (i:=0+1) O];simp
def qyK{c:UInt8}(h:l[0]?=some c)(hc:(c.toNat:Int) < 97\/122 < (c.toNat:Int)):AD l=false:=by
 obtain ⟨r,rfl⟩:=YK h;have hl:vc c=false:=by rw [eD];simp only [vc,fM,aA,aH];omega
 simp [AD,tF,uH,hl]
theorem Tn(l:iH):py l=(AD l && decide ((l.length:Int)<=12) && !JK l):=by grind [py,AD]
def kwT:iH:=[97,114,114,97,121,32,98,114,101,97,107,32,99,111,110,115,116,32,99,111,110,116,105,110,117,101,32,101,108,115,101,32,102,117,110,99,32,103,101,116,32,105,102,32,112,117,116,32,114,101,116,117,114,110,32,115,116,111,112,32,118,97,114,32,119,104,105,108,101]
def sgT:iH:=[33,32,45,32,126,32,42,32,47,32,37,32,60,60,32,62,62,32,38,32,43,32,45,32,124,32,94,32,61,61,32,33,61,32,60,32,60,61,32,62,32,62,61,32,38,38,32,124,124]
def qCu:Lib.fields kwT=sT:=by decide +kernel
def qDi:Lib.fields sgT=tg.tail:=by decide +kernel
theorem qIe(l:iH):decide (0<=j6 (λx=>decide (l=x)) sT 0)=JK l:=by grind [U_,JK]
def y_{α β:Type}{R:α->β->Prop}(f:α->β)(l:List α)(h:∀ x∈l,R x (f x)):kJ R l (l.map f):=by
 induction l with
 | nil=>exact kJ.nil
 | cons x l ih=>exact kJ.cons (h x Mc) (ih λy hy=>h y (an _ hy))
def qs4(l:List iH):(l.map λx=>[St x]).flatten=sb l:=by
 induction l with
 | nil=>rfl
 | cons x r ih=>show [St x]++(r.map λx=>[St x]).flatten=St x::sb r;rw [ih];rfl
def v_(hG:GP s)(ws:List iH)(hf:Lib.fields l=ws)(ha:l.all (λb=>decide (b.toNat < 128))=true)(hl:l.length<=4000000)(hn:ws.length<=1000)(hx:∀ x∈ws,x.length<=1000):jU D 215 [St l] L s λv L' s'=>L=L'/\∃ A n c,v=.slice A n c/\iO s' A n c ws:=
 AC.pubW ((qpm L hG ws hf ha hl).mono λv L' s' _ ⟨β,h1,h2⟩=>⟨[_],h1,λs2 h3 hp=>⟨_,_,_,h2,by
  exact Sl.lit (R:=λ_ x cs=>cs=[St x]/\x.length<=9223372036854775807) (ws.map λx=>[St x]) (hp _ _ _ Mc) (qs4 ws) (y_ (λx=>[St x]) ws λx z7=>⟨rfl,rfl,by have:=hx x z7;omega⟩) _ rfl O⟩⟩)
def KD(l:List iH)(hA:iO s A n c l):jT D 92 [.slice A n c,St w] L s (iB (j6 (λx=>decide (w=x)) l 0)):=by
 have hn:=hA.1;have nI:=hA.2.1;have pt:=hA.2.2.1;refine jn (fn:=f92) jb func92 V Z ntmps92 Z (rs:=[.tmp 4]) Z [(0,_),(1,_)] Z<|rH ?_;refine lJ (γ:=Nat) (λk=>[(0,_),(1,_),(4,_),(7,_),(8,iB (k:Int))]) (λ_=>_) (λk tw=>Le D s tw/\(k<=n/\∀ i x,i < k->l[i]?=some x->decide (w=x)=false)) (λk=>n - k) (λ_ _ _ h hl=>⟨h.1.trans hl,h.2⟩) 0 (.c5 Z Z Z Z Z (.nil _)) Z ⟨Le.refl _,⟨aB _,λi x hi=>O⟩⟩ ?_;intro k s1 I1;have ko:=I1.2.1;have hI:=I1.2.2;refine J6 ?_ ?_<;>intro c2
 .have hk:k < n:=O
  obtain ⟨b,off,x,rfl,hx,hcx,_⟩:=iO.at_ (hA.le I1.1) hk;refine xe ?_;refine iA (lK Y6 hk) Z<|iA (jS Y3 hcx Z) Z<|uZ Y3<|J2 ?_ ?_<;>intro c3;.have hz:=bL c3;refine mY ?_;refine rR [] L (.t1 Z) Z I1.1 λ_ iD=>?_;refine ⟨?_,Z⟩;simp only [kU];rw [F8 hI hx hz,aX]
  have hz:=bR c3;refine G4 ?_;refine kq Y3 (jq O O)<|G2 ?_;refine iU ⟨(k+1),[],kp,Z,⟨I1.1,⟨O,Dq hI hx hz⟩⟩,O⟩
 refine lw ?_;refine rR [] L (.t1 Z) Z I1.1 λ_ iD=>?_;refine ⟨?_,Z⟩;simp only [kU];rw [Tj (λi a hi h=>hI i a O h)]
def qoJ(l:List iH)(hA:iO s A n c l):jT D 93 [.slice A n c,St w] L s (.bool (decide (0<=j6 (λx=>decide (w=x)) l 0))):=by
 refine jn (fn:=f93) jb func93 V Z ntmps93 Z (rs:=[.tmp 4]) Z [(0,_),(1,_)] Z<|G9 ?_;refine Je Y3 (KD l Pz) λs1 h1=>va Y3<|G4 ?_;exact rX [] L Z h1 λ_ iD=>qH
def qpA(hG:GP s):jT D 171 [St l] L s (.bool (JK l)):=by
 refine jn (fn:=f171) jb func171 V Z ntmps171 Z (rs:=[.tmp 2]) Z [(0,_)] Z<|G7 ?_;refine Jc Y3 (v_ Pz sT qCu (by decide +kernel) Dc Dc Dc) ?_;rintro _ _ s1 h1 ⟨rfl,Ak,nk,ck,rfl,hK⟩;refine kb Y2<|Je Y3 (qoJ sT Pz) λs2 h2=>G4 ?_;exact rX [] L Z Lc λ_ iD=>⟨by simp only [kU,qIe],rfl⟩
def Xx{p:Prop} (h:p:=by
 refine rR [] L (.t1 Z) Z (Lr D) λ_ iD=>?_;refine ⟨?_,Z⟩;rw [show AD l=false from qyK ry O];rfl):p:=h
def qrY:jT D 170 [St l] L s (.bool (AD l)):=by
 refine jn (fn:=f170) jb func170 V Z ntmps170 Z (rs:=[.tmp 2]) Z [(0,_)] Z<|G9 ?_;refine uZ Y3<|kb Y2<|?_;refine ld (t:=5) Z ?_ ?_<;>intro c1;.refine zP ?_;refine rR [] L (.t1 Z) Z (Lr D) λ_ iD=>?_;refine ⟨?_,Z⟩;simp [kU,AD, *];done
 refine G3 ?_;obtain ⟨ch,ry⟩:∃ ch,l[0]?=some ch:=⟨_,ap (fP.2 As)⟩;refine iA (Co Y4 ry) Z<|G4 ?_;refine ld (t:=10) Z ?_ ?_<;>intro c2;.refine rH ?_;exact Xx
 refine G3 ?_;refine iA (Co Y4 ry) Z<|J5 ?_ ?_<;>intro c3;.refine G7 ?_;exact Xx
 refine G5 ?_;refine Je Y3 (qlm _) λs4 h4=>G5 ?_;refine rR [] L (.t1 Z) Z h4 λ_ iD=>?_;refine ⟨?_,Z⟩;rw [qtL ry ⟨O,O⟩];rfl
def Kr(hG:GP s):jT D 127 [St l] L s (.bool (py l)):=by
 refine jn (fn:=f127) jb func127 V Z ntmps127 Z (rs:=[.tmp 2]) Z [(0,_)] Z<|G8 ?_;refine Je Y3 (qrY) λs1 h1=>kb Y2 ?_;refine Gs (t:=5) Z ?_ ?_<;>intro c2
 .refine G3 ?_;refine DT Z Z Z Z<|Zg Z Z<|EP Z Z Z<|G2 ?_;refine ld (t:=10) Z ?_ ?_<;>intro c3;.refine G3 ?_;refine Je Y3 (qpA Pz) λs4 h4=>G7 ?_;refine rR [] L (.t1 Z) Z Lc λ_ iD=>?_;refine ⟨?_,Z⟩;rw [Tn];simp only [kU];rw [show AD l=true by assumption,show decide ((l.length:Int)<=12)=true from bL O];rfl
  refine G8 ?_;refine rR [] L (.t1 Z) Z h1 λ_ iD=>?_;refine ⟨?_,Z⟩;rw [Tn];simp only [kU];rw [show AD l=true by assumption,show decide ((l.length:Int)<=12)=false from bR O];rfl
 refine mY ?_;refine Zo ?_;refine rR [] L (.t1 Z) Z h1 λ_ iD=>?_;refine ⟨?_,Z⟩;rw [Tn];simp only [kU];rw [show AD l=false by assumption];rfl
def qs8(hG:GP s)(ho:1<=o/\o<=21):jT D 250 [iB o] L s (St (BK o)):=by
 obtain ⟨j,rfl⟩:∃ j:Nat,o=(j:Int)+1:=⟨(o - 1).toNat,O⟩;refine jn (fn:=f250) jb func250 V Z ntmps250 Z (rs:=[.tmp 2]) Z [(0,_)] Z<|G7 ?_;refine Jc Y3 (v_ Pz tg.tail qDi (by decide +kernel) Dc Dc Dc) ?_;rintro _ _ s1 h1 ⟨rfl,Ak,nk,ck,rfl,hK⟩;have hnk:nk=21:=hK.1;obtain ⟨bk,ok,xk,rfl,Bp,Bb,_⟩:=iO.at_ hK (show j < nk by omega);refine kb Y2<|iA (tD (c:=((j:Nat):Int)) Z Z Q7) Z<|iA (lK Y6 (show j < nk by omega)) Z<|iA (jS Y3 Pz Z) Z<|G4 ?_;refine rR [] L (.t1 Z) Z h1 λ_ iD=>?_;refine ⟨?_,Z⟩;rw [BK,show ((j:Int)+1).toNat=j+1 by omega,List.getD,show tg[j+1]?=tg.tail[j]? from rfl,Bp];rfl
def Hb{p:Prop} (h:p:=by
 refine ⟨?_,Z⟩;simp only [kU];unfold vC;repeat' split
 all_goals (first|rfl|(exfalso;omega))):p:=h
def AF{p:Prop} (h:p:=by
 refine G8 ?_;exact rY Z λ_ iD=>Hb):p:=h
def NA:jT D 252 [iB o] L s (iB (vC o)):=by
 refine jn (fn:=f252) jb func252 V Z ntmps252 Z (rs:=[.tmp 2]) Z [(0,_)] Z<|Cx ?_ ?_<;>intro c1;.exact AF
 refine J6 ?_ ?_<;>intro c2;.exact AF
 refine J7 ?_ ?_<;>intro c3
 .refine J2 ?_ ?_<;>intro c4;.exact AF
  exfalso;omega
 refine J6 ?_ ?_<;>intro c4
 .refine J2 ?_ ?_<;>intro c5;.exact AF
  exfalso;omega
 refine J6 ?_ ?_<;>intro c5
 .refine J2 ?_ ?_<;>intro c6;.exact AF
  exfalso;omega
 refine J6 ?_ ?_<;>intro c6
 .refine J2 ?_ ?_<;>intro c7;.exact AF
  exfalso;omega
 refine J6 ?_ ?_<;>intro c7
 .refine J2 ?_ ?_<;>intro c8;.exact AF
  exfalso;omega
 refine J5 ?_ ?_<;>intro c8;.exact AF
 refine J7 ?_ ?_<;>intro c9
 .refine J2 ?_ ?_<;>intro mz;.exact AF
  exfalso;omega
 refine J6 ?_ ?_<;>intro mz
 .refine J2 ?_ ?_<;>intro nZ;.exact AF
  exfalso;omega
 refine J6 ?_ ?_<;>intro nZ
 .refine J2 ?_ ?_<;>intro oL;.exact AF
  exfalso;omega
 refine J5 ?_ ?_<;>intro oL;.exact AF
 refine G9 ?_;exact rY Z λ_ iD=>Hb
def Ki(hG:GP s){n:Int}(hu:iQ n):jT D 130 [iJ n] L s (St (pD n)):=by
 have h2:=hu.2;obtain ⟨u,rfl⟩:=aZ hu.1;refine jn (fn:=f130) jb func130 V Z ntmps130 Z (rs:=[.tmp 2]) Z [(0,_)] Z<|G8 ?_;refine iA (sW Y5 (SW O O)) Z<|Jc Y3 (qrC (hG.gw.le (Lr D)) O) ?_;exact W2
end
section
variable{n k:Int}
mutual
def mT:Ex->Nat
 | .mk _ _ _ _ az=>1+lh az
def lh:List Ex->Nat
 | []=>0
 | x::r=>mT x+lh r
end
mutual
def om:Ex->Bool
 | .mk k o n nm az=>decide (ut k o n nm az.length=0) && pE az
def pE:List Ex->Bool
 | []=>true
 | x::r=>om x && pE r
end
mutual
def ph:Ex->Bool
 | .mk _ _ n _ az=>decide (0<=n/\n < 4294967296) && rn az
def rn:List Ex->Bool
 | []=>true
 | x::r=>ph x && rn r
end
mutual
def qm:iP->Nat
 | .mk _ _ es b e=>1+lh es+ke b+ke e
def ke:List iP->Nat
 | []=>0
 | x::r=>qm x+ke r
end
mutual
def th:iP->Nat->Bool
 | .mk k nm es b e,lv=>decide (lv<=16) && decide (vE k nm es.length b.length e.length=0) && pE es && oC b (lv+1) && oC e (lv+1)
def oC:List iP->Nat->Bool
 | [],_=>true
 | x::r,lv=>th x lv && oC r lv
end
mutual
def zL:iP->Bool
 | .mk _ _ es b e=>rn es && qO b && qO e
def qO:List iP->Bool
 | []=>true
 | x::r=>zL x && qO r
end
mutual
def Vd:∀ (x:Ex) (lv c:Nat),(rr x lv c).2=0->om x=true/\(rr x lv c).1=c+mT x/\c+mT x<=2000
 | .mk k o n nm az,lv,c,h=>by
  simp only [rr] at h ⊢;split at h
  . cases h
  rename_i h1;split at h
  . rename_i h2;exact absurd h h2
  rename_i h2;rw [ak h1,ak h2];obtain ⟨k1,k2,k3⟩:=DD az (lv+1) (c+1) h;refine ⟨by simp only [om,k1,dC,aH];simpa using h2,by rw [k2,mT];omega,by rw [mT];rcases k3 with k3|k3<;>omega⟩
def DD:∀ (l:List Ex) (lv c:Nat),(mD l lv c).2=0->pE l=true/\(mD l lv c).1=c+lh l/\(lh l=0\/c+lh l<=2000)
 | [],_,c,_=>⟨rfl,rfl,.inl rfl⟩
 | x::r,lv,c,h=>by
  simp only [mD] at h ⊢;split at h
  . rename_i h1;exact absurd h h1
  rename_i h1;rw [ak h1];obtain ⟨a1,a2,a3⟩:=Vd x lv c Q5;obtain ⟨b1,b2,b3⟩:=DD r lv _ h;refine ⟨by simp only [pE,a1,b1,dC],by rw [b2,a2,lh];omega,.inr ?_⟩;rw [a2] at b3;rw [lh];rcases b3 with b3|b3<;>omega
end
mutual
def Vc:∀ (x:iP) (lv c:Nat),(rq x lv c).2=0->th x lv=true/\(rq x lv c).1=c+qm x/\c+qm x<=2000
  | .mk k nm es b e,lv,c,h=>by
    simp only [rq] at h ⊢;split at h
    . cases h
    rename_i h1;split at h
    . rename_i h2;exact absurd h h2
    rename_i h2;split at h
    . rename_i h3;exact absurd h h3
    rename_i h3;split at h
    . rename_i h4;exact absurd h h4
    rename_i h4;rw [ak h1,ak h2,ak h3,ak h4];obtain ⟨a1,a2,a3⟩:=DD es 1 (c+1) (by simpa using h3);obtain ⟨b1,b2,b3⟩:=Ch b (lv+1) _ (by simpa using h4);obtain ⟨e1,e2,e3⟩:=Ch e (lv+1) _ h;rw [b2,a2] at e3 e2;rw [a2] at b3;refine ⟨?_,by rw [b2,a2,e2,qm];omega,?_⟩
    . simp only [th,a1,b1,e1,dC,aA,aH]
      exact ⟨by omega,by simpa using h2⟩
    . rw [qm]
      rcases a3 with a3|a3<;>rcases b3 with b3|b3<;>rcases e3 with e3|e3<;>omega
def Ch:∀ (l:List iP) (lv c:Nat),(mC l lv c).2=0->oC l lv=true/\(mC l lv c).1=c+ke l/\(ke l=0\/c+ke l<=2000)
 | [],_,c,_=>⟨rfl,rfl,.inl rfl⟩
 | x::r,lv,c,h=>by
  simp only [mC] at h ⊢;split at h
  . rename_i h1;exact absurd h h1
  rename_i h1;rw [ak h1];obtain ⟨a1,a2,a3⟩:=Vc x lv c Q5;obtain ⟨b1,b2,b3⟩:=Ch r lv _ h;refine ⟨by simp only [oC,a1,b1,dC],by rw [b2,a2,ke];omega,.inr ?_⟩;rw [a2] at b3;rw [ke];rcases b3 with b3|b3<;>omega
end
def wn(l:List iH):Nat:=(l.map λw=>w.length+2).sum
def CI(w:iH)(l:List iH):wn (w::l)=w.length+2+wn l:=by simp [wn]
def B8:∀ l:List iH,(rC l).length<=wn l
 | []=>aB _
 | [x]=>by simp [rC,wn]
 | x::y::r=>by
  have:=B8 (y::r);rw [rC,CI];simp only [ac,aw] at this ⊢;omega
def qvq(l:List iH):(l.getD 0 []).length<=wn l:=by
 cases l with
 | nil=>exact aB _
 | cons x r=>rw [CI];simp only [fQ];omega
def S_(l:List iH):(l.getD 0 []).length+(l.getD 1 []).length<=wn l:=by
 match l with
 | []=>exact aB _
 | [x]=>simp [wn]
 | x::y::r=>rw [CI,CI];simp only [fQ,List.getD_cons_succ];omega
def qDj(o:Int):(BK o).length<=2:=by
 unfold BK;have h:∀ x∈tg,x.length<=2:=Θ
 by_cases hk:o.toNat < tg.length
 . rw [List.getD,ap hk];exact h _ (dQ hk)
 . rw [List.getD,dh O];exact aB _
def CO(h:0<=n/\n < 4294967296):(pD n).length<=10:=(qBS (u:=n.toNat) O).2
def CJ{l:iH}(h:py l=true):l.length<=12:=by
 unfold py at h;simp only [aA,aH] at h;have:=h.1.1.2;omega
def qu4(h:ut k o n nm na=0):nm.length<=12:=by
 unfold ut at h;split at h
 . cases h
 split at h
 . cases h
 rename_i h2;split at h
 . cases h
 rename_i h3;cases hn:Pg k with
 | true=>
  cases hi:py nm with
  | true=>exact CJ hi
  | false=>exact absurd ⟨hn,hi⟩ h2
 | false=>
  by_cases he:nm=[]
  . rw [he];exact aB _
  . exact absurd (.inl ⟨hn,he⟩) h3
def qB0(hn:0<=n/\n < 4294967296)(hm:nm.length<=12):(CH k o n nm az out).length<=20+wn az:=by
 have h0:=CO hn;have h1:=B8 az;have h3:=S_ az;have h4:=qDj o;unfold CH;repeat' split
 all_goals ((try simp only [ac,aw,aq]);omega)
mutual
def Uu:∀ (x:Ex) (out:Int),om x=true->ph x=true->(nR x out).length+2<=40 * mT x
 | .mk k o n nm az,out,hv,hu=>by
  simp only [om,aA,aH] at hv;simp only [ph,aA,aH] at hu;have h1:=Ko az (DJ k o) hv.2 hu.2;have h2:=qB0 (k:=k) (o:=o) (az:=sa az (DJ k o)) (out:=out) hu.1 (qu4 hv.1);simp only [nR,mT];omega
def Ko:∀ (l:List Ex) (os:iG),pE l=true->rn l=true->wn (sa l os)<=40 * lh l
 | [],_,_,_=>aB _
 | x::r,os,hv,hu=>by
  simp only [pE,aA] at hv;simp only [rn,aA] at hu;have h1:=Uu x (os.headD 0) hv.1 hu.1;have h2:=Ko r os.tail hv.2 hu.2;simp only [sa,CI,lh];omega
end
def E8(n:Nat):(pT n).length=2 * n:=by
 induction n with
 | zero=>rfl
 | succ n ih=>simp only [pT,ac,aw,aq,ih];omega
def qwy{a:Nat}(h:vE k nm a b c=0):nm.length<=12:=by
 unfold vE at h;split at h
 . cases h
 split at h
 . cases h
 rename_i h2;split at h
 . cases h
 rename_i h3;cases hn:Cl k with
 | true=>
  cases hi:py nm with
  | true=>exact CJ hi
  | false=>exact absurd ⟨hn,hi⟩ h2
 | false=>
  by_cases he:nm=[]
  . rw [he];exact aB _
  . exact absurd (.inl ⟨hn,he⟩) h3
def qwA(hm:nm.length<=12):(yI k nm es).length<=30+wn es:=by
 have h1:=B8 es;have h3:=S_ es;unfold yI;repeat' split
 all_goals ((try simp only [ac,aw,aq]);omega)
mutual
def Ub:∀ (x:iP) (lv m:Nat),lv<=m->th x m=true->th x lv=true
 | .mk k nm es b e,lv,m,hl,hv=>by
  simp only [th,aA,aH] at hv ⊢;exact ⟨⟨⟨⟨by omega,hv.1.1.1.2⟩,hv.1.1.2⟩,Ty b (lv+1) (m+1) O hv.1.2⟩,Ty e (lv+1) (m+1) O hv.2⟩
def Ty:∀ (l:List iP) (lv m:Nat),lv<=m->oC l m=true->oC l lv=true
 | [],_,_,_,_=>rfl
 | x::r,lv,m,hl,hv=>by
  simp only [oC,aA] at hv ⊢;exact ⟨Ub x lv m hl hv.1,Ty r lv m hl hv.2⟩
end
mutual
def qtk:∀ (x:iP) (lv:Nat),th x lv=true->zL x=true->(x7 x lv).length+34<=200 * qm x
 | .mk k nm es b e,lv,hv,hu=>by
  simp only [th,aA,aH] at hv;simp only [zL,aA] at hu;have h1:=Ko es [] hv.1.1.2 hu.1.1;have h2:=Km b (lv+1) hv.1.2 hu.1.2;have h3:=Km e (lv+1) hv.2 hu.2;have h4:=qvq (sa es []);have h5:=E8 lv;have h6:=qwA (k:=k) (es:=sa es []) (qwy hv.1.1.1.2);have h7:=hv.1.1.1.1;have h8:=qDv e lv hu.2 hv.2;simp only [x7,qm];repeat' split
  all_goals ((try simp only [ac,aw,aq]);omega)
def Km:∀ (l:List iP) (lv:Nat),oC l lv=true->qO l=true->(uo l lv).length<=200 * ke l
 | [],_,_,_=>aB _
 | x::r,lv,hv,hu=>by
  simp only [oC,aA] at hv;simp only [qO,aA] at hu;have h1:=qtk x lv hv.1 hu.1;have h2:=Km r lv hv.2 hu.2;have h3:=E8 lv;have h4:lv<=16:=by
   have:=hv.1;cases x with
   | mk k nm es b e=>simp only [th,aA,aH] at this;exact this.1.1.1.1
  simp only [uo,ac,ke];omega
def qDv:∀ (l:List iP) (lv:Nat),qO l=true->oC l (lv+1)=true->(BQ l lv).length<=200 * ke l
 | [],_,_,_=>aB _
 | x::r,lv,hu,hv=>by
  simp only [oC,aA] at hv;simp only [qO,aA] at hu;have h1:=qtk x lv (Ub x lv (lv+1) O hv.1) hu.1;simp only [BQ,ke];omega
end
end
end Go.Proofs.YtemgonlhniicbaaGreatDoor
