/- Part 6. -/
import Derived.Test.YtapeaicongaggaaGreatDoorQ41z5
import Derived.RangeFuncCalls
set_option linter.unusedSectionVars false
set_option linter.unusedVariables false
set_option linter.defProp false
set_option linter.unusedSimpArgs false
set_option linter.unnecessarySimpa false
set_option maxRecDepth 100000
set_option maxHeartbeats 8000000
namespace Go.Proofs.YtapeaicongaggaaGreatDoor
open Go Go.RowKit Go.Proofs.Tryz
def dw:=@List.filterMap_append
def dH:=@List.mem_mapIdx
def dI:=@Iff.rfl
def ey:=@List.cons.inj
def eY:=@List.length_mapIdx
def ff:=@Classical.not_not
def fh:=@List.contains_iff_mem
def ft:=@wpIn_mono
def fA:=@Oper.semAt_eq
def gB:=@List.find?_append
def gC:=@Decidable.not_not
def ir:=@Option.none_or
def iz:=@Classical.em
def iA:=@callsIn_wide
variable{ds:List Deferred}{s s' s0:World}{P:Program}{D n b k ty i j d jr t' off ck:Nat}{ro dst:Option Nat}{x y:Operand}{af:Array Edge}{A Af A1 Ap A2 A3:OAdr9}{iP l:List Oper}{p:ja}{L L' K:Hl}{iS:String}{zs vs news:LVal9}{rs:List ResultVar}{xs:List Operand}{ts:Array TypeId}{c:Code}{T:List (iR×(Int×Int))}{ti te:TI}{v nv z:Value}{ls:List iR}{dk:TypeDesc}{os:List Nat}{es:List (iR×Value×Nat)}{ps:List (Nat×Operand)}{a kd:Int}{m:List LVal9}{nm:iR}{e:iR×(Int×Int)}{o:Obj}{nd:Nd}{w:Bool}{ik:IntKind}{lp:List Ac}{fn:Func}
section
attribute [local irreducible] JC JO JA JB lZ mF mM AC fill iH QE Ev mq
variable(D:Nat)(L:Hl)(s:World)
def Sa(A:OAdr9)(n c:Nat)(l:List iR)(hA:iW s A n c l)(w:iR):Ap9 D 93 [.slice A n c,St w] L s λv L' _=>v=.bool (decide (w∈l))/\L=L':=by
 have h:=H_ D L s A n c l hA w
 rwa [show decide (0<=kM (λx=>decide (w=x)) l 0)=decide (w∈l) from bJ.2 mH] at h
def qu3:sR prog 93:=by
 have h:=Sa 0 [] (default:World) none 0 0 [] ⟨rfl,aB _,by omega,λi x h=>by cases h⟩ [];exact AC.ok h
def d'{D:Nat}(X L:Hl){s:World}(M:Hl)(A:OAdr9)(n c:Nat){l:List iR}(hO:Own 9 1 M (.slice A n c) n (sb l))(hu:∀ x∈l,x.length<=9223372036854775807)(hn:n=l.length)(w:iR):Ap9 D 93 [.slice A n c,St w] (X++(M++L)) s λv L' _=>v=.bool (decide (w∈l))/\L'=X++(M++L):=
 AC.perm (aO ..) (AC.lend M (Ts hO) qu3 λho=>Sa D (X++L) _ A n c l (Own.strs hO hu (qrP ho) hn) w) λv L1 s1 ⟨g0,g1⟩=>⟨_,by rw [<- g1];exact aO ..,g0,rfl⟩
def qBk(A:OAdr9)(n c:Nat){l:List iR}(hA:iW s A n c l):AV9 D 94 [.slice A n c] L s (.bool (decide (¬ l.Nodup))):=by
 have hn:=hA.1;have hq1:=hA.2.1;have hq2:=hA.2.2.1;refine jv (fn:=f94) jl func94 V Z ntmps94 Z (rs:=[.tmp 2]) Z [(0,_)] Z<|qP ?_;refine lw (γ:=Nat) (λk=>[(0,_),(2,_),(5,_),(6,_),(7,iJ (k:Int))]) (λ_=>_) (λk tw=>Le D s tw/\(k<=n/\(l.take k).Nodup)) (λk=>n - k) (λ_ _ _ h hl=>⟨h.1.trans hl,h.2⟩) 0 (.c5 Z Z Z Z Z (.nil _)) Z ⟨Le.refl _,⟨aB _,by simp⟩⟩ ?_;intro k s1 I1;have kh:=I1.2.1;have hI:=I1.2.2;refine J6 ?_ ?_<;>intro c2
 .have hk:k < n:=by omega
  obtain ⟨b,off,x,rfl,hx,hcx,tm⟩:=iW.at_ Pz hk;refine G7 ?_;refine iI (ly Y6 hk) Z<|iI (jW Y3 Pz Z) Z<|G8 ?_;refine iI (Gc (j:=k) Z Z Z Z Z O) Z<|jY Y2<|Je Y3 (Sa D _ _ _ k c (l.take k) (Sl.take Pz hk) x) λs3 h3=>J2 ?_ ?_<;>intro c4;.have hz:=c4;refine k8 ?_;exact rX [] L Z Lc λ_ iL=>⟨by rw [bO (qiF hx hz)];rfl,rfl⟩
  have hz:=c4;refine G4 ?_;refine ki Y3 (jB O O)<|G2 ?_;refine jd ⟨(k+1),[],kp,Z,⟨Lc,⟨by omega,qoY hx hI hz⟩⟩,O⟩
 rw [aI O] at hI;refine k8 ?_;exact rR [] L (.t1 Z) Z I1.1 λ_ iL=>⟨by rw [bQ (λh=>h hI)];rfl,rfl⟩
def qrq:(∀ {l:List jM} {seen:List iR} {i:Nat},(tW l seen i).1=0->tW l seen i=(0,0))/\∀ {l:List iT} {seen:List iR} {i:Nat},(tD l seen i).1=0->tD l seen i=(0,0):=by
  constructor
  . intro l
    induction l with
    | nil=>intros;rfl
    | cons x r ih=>
      intro seen i h;rw [tW] at h ⊢;split at h
      . cases h
      . rename_i h1;rw [am h1];exact ih h
  . intro l
    induction l with
    | nil=>intros;rfl
    | cons x r ih=>
      intro seen i h;rw [tD] at h ⊢;split at h
      . cases h
      . rename_i h1;rw [am h1];exact ih h
def Qh(h:(tW p.o [] 0).1≠0):pK p=tW p.o [] 0:=by rw [pK,aw h]
theorem Qg(h0:tW p.o [] 0=(0,0))(h:(tD p.funcs (p.o.map jM.name) p.o.length).1≠0):pK p=tD p.funcs (p.o.map jM.name) p.o.length:=by grind [pK]
theorem Qi(h0:tW p.o [] 0=(0,0))(h1:tD p.funcs (p.o.map jM.name) p.o.length=(0,0))(h:qg p.funcs < 0):pK p=(12,-1):=by grind [pK]
def Qj{x:iT}(h0:tW p.o [] 0=(0,0))(h1:tD p.funcs (p.o.map jM.name) p.o.length=(0,0))(h:qg p.funcs=(j:Int))(hx:p.funcs[j]?=some x):pK p=if x.params=[] then (0,0) else (9,-1):=by
 rw [pK,h0,am (by simp),h1,am (by simp),h,am O,aH,hx]
def quv(hV:PV p):(∀ w∈p.o.map jM.name,w.length<=9223372036854775807)/\∀ w∈p.funcs.map iT.name,w.length<=9223372036854775807:=by
  obtain ⟨_,_,hg,hf,_⟩:=hV;constructor
  . intro w hw
    obtain ⟨x,hx,rfl⟩:=bh.1 hw;have:=Ct (Bo (hg x hx).1).2.2.1;omega
  . intro w hw
    obtain ⟨x,hx,rfl⟩:=bh.1 hw;have:=Ct (hf x hx).1;omega
def qny{α:Type}{p:α->Bool}:∀ {l:List α} {k:Nat},(0<=kM p l k->∃ y∈l,p y=true)/\(kM p l k < 0->kM p l k=-1)
  | [],k=>⟨λh=>by simp [kM] at h,λ_=>rfl⟩
  | y::r,k=>by
    rw [kM];by_cases h:p y=true
    . rw [aw h];exact ⟨λ_=>⟨y,cV ..,h⟩,λh=>by omega⟩
    . rw [am h]
      have ih:=qny (p:=p) (l:=r) (k:=k+1);exact ⟨λh=>by obtain ⟨z,h1,h2⟩:=ih.1 h;exact ⟨z,aq _ h1,h2⟩,ih.2⟩
def qrg{l:List iT}{x:iT}(hx:l[k]?=some x)(hz:x.name ∉ (l.take k).map iT.name):kM (λx:iT=>decide (x.name=jy)) (l.take (k+1)) 0=if x.name=jy then (k:Int) else kM (λx:iT=>decide (x.name=jy)) (l.take k) 0:=by
  obtain ⟨hk,rfl⟩:=al.1 hx;rw [bM hk,Ym,cY];have he:=qny (p:=λx:iT=>decide (x.name=jy)) (l:=l.take k) (k:=0);by_cases hm:l[k].name=jy
  . rw [aw hm,am,aw (by simpa using hm),show min k l.length=k by omega,aZ]
    intro h0;obtain ⟨y,hy,e⟩:=he.1 h0;exact hz (bh.2 ⟨y,hy,by rw [hm];simpa using e⟩)
  . rw [am hm]
    split
    . rfl
    . rename_i h0
      rw [am (by simpa using hm)];exact (he.2 O).symm
def VB{p:Prop} (h:p:=by
 refine Wt 0 [_,_] Y9<|G4 ?_;exact rR (_::_::Mo) L (.agg (us:=[_,_]) 0 Z Z Z Z Z (.nil)) Z Lc λ_ iL=>sQ):p:=h
def II{p:Prop} (h:p:=by
 refine Wt 1 [_,_] Y9<|G9 ?_;exact rR (_::_::_::Mo) L (.agg (us:=[_,_]) 1 Z Z Z Z Z (.nil)) Z Lc λ_ iL=>sQ):p:=h
def HK{p:Prop} (h:p:=by
 refine jd ⟨(k+1,.slice Avq (ng+k+1) oL,Mq),[_],(.c3 Z Z Z (.cons (bj (λi=>some (Value.int .i64 i)) (by rw [qrg hx (λh=>hz (.inl (aJ _ h)))];first|rw [aw hmn]|rw [am hmn])) kp)),Z,⟨Lc,⟨by simp only;omega,by rw [FF iT.name hx,<- an,Dt];exact oq,by simp only;rw [iL,qrm hx,am hz,FF iT.name hx,an];rfl⟩⟩,Oz⟩):p:=h
def qz4(d:Nat)(p:ja)(Ag:OAdr9)(ng cg nf cf:Nat)(jQ:jn s Ag ng cg p.o)(j8:ju d s Af nf cf p.funcs)(hV:PV p):AV9 D 51 [.agg #[.slice Ag ng cg,.slice Af nf cf]] L s (.agg #[iJ (pK p).1,iJ (pK p).2]):=by
 have lX:=jQ.1;have oB:=j8.1;obtain ⟨hN1,hN2⟩:=quv hV;have yN:=hV.1;have AQ:=hV.2.1;have rD:=hV.2.2.2.1;refine jv (fn:=f51) jl func51 V Z ntmps51 Z (rs:=[.cell 2 24]) Z [(0,_)] Z<|Sr<|kH Y2 λβ1 s1 h1=>jp Z [_,_] Y2 λβ2 s2 h2=>Cj ?_;refine lw (γ:=Nat×Value×Hl) (λg=>[(1,_),(2,_),(3,g.2.1),(10,_),(11,_),(12,iJ (g.1:Int))]) (λg=>_::_::(g.2.2++L)) (λg tw=>Le D s2 tw/\(g.1<=ng/\Own 9 1 g.2.2 g.2.1 g.1 (sb ((p.o.take g.1).map jM.name))/\tW p.o [] 0=tW (p.o.drop g.1) ((p.o.take g.1).map jM.name) g.1)) (λg=>ng - g.1) (λ_ _ _ h hl=>⟨h.1.trans hl,h.2⟩) (0,.slice none 0 0,[]) (.c6 Z Z Z Z Z Z (.nil _)) Z ⟨Le.refl _,⟨aB _,Own.nil,Z⟩⟩ ?_;intro g s3 I3;obtain ⟨k,vo,Mo⟩:=g;obtain ⟨kh,hO,hS⟩:=I3.2;simp only at kh hO hS;dsimp only;obtain ⟨Av,cv,rfl,xj,uR⟩:=Own.slice hO;refine J6 ?_ ?_<;>intro c4
 .have hk:k < ng:=by omega
  obtain ⟨b,off,x,Ai,ni,ci,rfl,hx,hcx,hix,oh,kK⟩:=jn.at_ Pz hk;refine G7 ?_;refine iI (jR Y6 hk) Z<|iI (kq Y3 Pz Z) Z<|jp Z [_,_,_,_] Y2 λβ5 s5 h5=>me Y2<|Wt 0 [_,_,_,_] Y9<|G8 ?_;refine Jc Y3 (d' [_,_,_] L Mo Av k cv hO (λw hw=>hN1 w (by rw [List.map_take] at hw;exact dZ hw)) (by rw [bI,cY];omega) x.name) ?_;rintro _ _ s6 h6 ⟨rfl,rfl⟩;simp only [iU,iV];refine J2 ?_ ?_<;>intro c7
  .have hE:pK p=(8,(k:Int)):=by
     have h9:tW p.o [] 0=(8,(k:Int)):=by rw [hS,qro hx,aw c7]
     rw [Qh (by rw [h9];simp),h9]
   refine Sr<|jY Y2<|Je Y3 (BR _ _) λs8 h8=>?_;exact II
  have hz:=c7;refine G6 ?_;refine kF [(_,_)] [_] Y9 λβn s8 h8 pf=>rp (sz:=1) [_,_,_] Mo L Y7 hO (Row.of_cells Pz Z Z) ⟨by simp [zw];omega,by omega⟩ Z ?_;intro vq Mq s9 h9 oq;obtain ⟨Avq,oL,rfl,_,_⟩:=Own.slice oq;simp only [iU,iV];refine G5 ?_;refine ki Y3 (jB O O)<|G2 ?_;refine jd ⟨(k+1,.slice Avq (k+1) oL,Mq),[_],kp,Z,⟨Lc,⟨by simp only;omega,by rw [FF jM.name hx,Dt];exact oq,by simp only;rw [hS,qro hx,am hz,FF jM.name hx]⟩⟩,Oz⟩
 obtain rfl:ng=k:=by omega
 rw [aK O,tW] at hS;rw [aI O] at hO;refine UW ?_;refine lw (γ:=Nat×Value×Hl) (λg=>[(1,_),(2,_),(3,g.2.1),(6,iJ (kM (λx=>decide (x.name=jy)) (p.funcs.take g.1) 0)),(30,_),(31,_),(32,iJ (g.1:Int))]) (λg=>_::_::(g.2.2++L)) (λg tw=>Le D s3 tw/\(g.1<=nf/\Own 9 1 g.2.2 g.2.1 (ng+g.1) (sb (p.o.map jM.name++(p.funcs.take g.1).map iT.name))/\tD p.funcs (p.o.map jM.name) p.o.length=tD (p.funcs.drop g.1) (p.o.map jM.name++(p.funcs.take g.1).map iT.name) (p.o.length+g.1))) (λg=>nf - g.1) (λ_ _ _ h hl=>⟨h.1.trans hl,h.2⟩) (0,.slice Av ng cv,Mo) (.c6 Z Z Z Z Z Z (.cons Z (.nil _))) Z ⟨Le.refl _,⟨aB _,by simpa using hO,by simp⟩⟩ ?_;intro g s5 I5;obtain ⟨k,vo,Mo⟩:=g;obtain ⟨kh,hO,iL⟩:=I5.2;simp only at kh hO iL;dsimp only;obtain ⟨Av,cv,rfl,xj,uR⟩:=Own.slice hO;refine J6 ?_ ?_<;>intro c6
 .have hk:k < nf:=by omega
  obtain ⟨b,off,x,B1,m1,d1,B2,m2,d2,B3,m3,d3,rfl,hx,hcx,od,oc,rE,kK⟩:=ju.at_ Pz hk;obtain ⟨hi1,zJ,hi3,hi4,hi5,hi6⟩:=rD x (ay hx);have hp9:=od.1;have hl9:=oc.1;refine G7 ?_;refine iI (jR Y6 hk) Z<|iI (kq Y3 Pz Z) Z<|jp Z [_,_,_,_] Y2 λβ7 s7 h7=>me Y2<|Wt 0 [_,_,_,_] Y9<|G3 ?_;refine rm 49 (x.name∈(p.o.map jM.name++(p.funcs.take k).map iT.name)\/¬ (x.params++x.locals).Nodup) ?_ ?_
  .refine G4 ?_;refine Jc Y3 (d' [_,_,_] L Mo Av (ng+k) cv hO (λw hw=>(aU.1 hw).elim (hN1 w) (λhw=>hN2 w (by rw [List.map_take] at hw;exact dZ hw))) (by rw [ac,bI,bI,cY];omega) x.name) ?_;rintro _ _ s9 h9 ⟨rfl,rfl⟩;simp only [iU,iV];refine jY Y2 ?_;refine kT (t:=41) Z ?_ ?_<;>intro my;.refine G9 ?_;refine jd (kE.mk h9 Sb Z ((bO (.inl As)).symm))
   refine G9 ?_;refine kF [(_,_),(_,_)] [_,_] Y9 λβp kv jP hcp=>Zg Z Z<|Jc Y3 (ZA D _ _ B1 B2 m1 d1 m2 d2 x.params x.locals Pz Pz Pz O O) ?_;rintro _ _ kc jL ⟨rfl,Aq,nq,cq,rfl,hQ⟩;refine Zg Z Z<|Je Y3 (qBk D _ _ Aq nq cq Pz) λkY kN=>G2 ?_;refine jd (kE.mk Lc Sb Z (bJ.2 (⟨λh=>.inr h,λh=>h.resolve_left As⟩)))
  intro s8 h8;refine mE Z ?_ ?_<;>intro rO
  .have hE:pK p=(8,((ng+k:Nat):Int)):=by
     have h9:tD p.funcs (p.o.map jM.name) p.o.length=(8,((ng+k:Nat):Int)):=by rw [iL,qrm hx,aw rO,lX]
     rw [Qg hS (by rw [h9];simp),h9]
   refine G6 ?_;refine iI (nD Z Z (show IntKind.i64.wrap ((ng:Int)+(k:Int))=((ng+k:Nat):Int) by rw [jB O O];simp)) Z<|Je Y3 (BR _ _) λlJ lr=>?_;exact II
  have hz:=rO;refine G7 ?_;refine kF [(_,_)] [_] Y9 λβn lJ lr pf=>rp (sz:=1) [_,_,_] Mo L Y7 hO (Row.of_cells Pz Z Z) ⟨by simp [zw];omega,by omega⟩ Z ?_;intro vq Mq qW qD oq;obtain ⟨Avq,oL,rfl,_,_⟩:=Own.slice oq;simp only [iU,iV];refine G7 ?_;refine uX Y3<|J2 ?_ ?_<;>intro yE;.have hmn:x.name=jy:=yE;refine G7 ?_;refine ki Y3 (jB O O)<|G2 ?_;exact HK
  have hmn:¬ x.name=jy:=yE;refine G4 ?_;refine ki Y3 (jB O O)<|G2 ?_;exact HK
 rw [aK O,tD] at iL;rw [aI (show p.funcs.length<=k by omega)];refine vT ?_ ?_<;>intro c7;.have hE:=Qi hS iL (show qg p.funcs < 0 from c7);refine Sr<|Je Y3 (BR _ _) λs8 h8=>?_;exact VB
 obtain ⟨j,hj⟩:=aX (show 0<=qg p.funcs by unfold qg;omega);have hjl:=FQ (p:=λx:iT=>decide (x.name=jy)) (l:=p.funcs) (k:=0);have hjl2:j < nf:=by unfold qg at hj;omega
 obtain ⟨b,off,x,B1,m1,d1,B2,m2,d2,B3,m3,d3,rfl,hx,hcx,od,oc,rE,kK⟩:=ju.at_ Pz hjl2;have hp9:=od.1;have hE:=Qj hS iL hj hx;rw [show kM (λx:iT=>decide (x.name=jy)) p.funcs 0=(j:Int) from hj];refine G8 ?_;refine iI (jR (j:=j) Y6 hjl2) Z<|iI (pu Y4) Z<|iI (nh 1 Y3 Pz Z) Z<|J4 ?_ ?_<;>intro c8;.rw [am (λh=>by rw [h] at hp9;simp at hp9;omega)] at hE;refine Sr<|Je Y3 (BR _ _) λs9 h9=>?_;exact VB
 rw [aw (aG O)] at hE;refine Zk<|Zt<|Sr<|iI (jC [] [_,_] Y3 Z Z Z) Z<|Wt 0 [_,_] Y9<|G3 ?_;exact rR (_::_::Mo) L (.agg (us:=[_,_]) 0 Z Z Z Z Z (.nil)) Z Lc λ_ iL=>sQ
end
def vc{κ:Type}(s:World)(kf:κ->Value)(b:Nat)(es:List (κ×Value×Nat)):Prop:=∃ ck,s.heap[b]?=some (mp kf es ck)
def vc.le{κ:Type}{kf:κ->Value}{es:List (κ×Value×Nat)}(h:vc s kf b es)(hl:Le D s s'):vc s' kf b es:=by
 obtain ⟨ck,h⟩:=h;refine ⟨ck,?_⟩;have hb:b < s.heap.size:=by
  rcases eM b s.heap.size with h1|h1
  . exact h1
  . rw [bU h1] at h;cases h
 rcases hl.block b hb with h1|h1
 . rw [h] at h1;cases h1
 . rw [h1,h]
def Wg{p:Prop} (h:p:=by
 obtain ⟨ck,hb⟩:=hi.le (hl.trans (Bp ho));simp only [execOp,hρ x _ hx,hρ y _ hy,bA,YK KK hm hb,aP,bG];rfl):p:=h
def Jq{TT:kG}{fr:Fr}{κ:Type} [DecidableEq κ]  {kf:κ->Value} (KK:jU κ dk kf) {t:Nat}   (hm:yg P t dk z) {es:List (κ×Value×Nat)} {k:κ} (hx:lk fr x=some (.map (some b))) (hy:lk fr y=some (kf k)) (hi:vc s0 kf b es) :
  QE P TT D fr (.lookup t x y true) ty K s0 (.tuple #[(kS es k).getD z,.bool (kS es k).isSome]):=λhT dst iS af g ρ hρ L s ho hl hK=>by
 exact Wg
def AC.pubO{f:FuncId}{args:LVal9}{R:Value->Hl->World->Prop}(h:AC P D f args L s (λv L' s'=>∃ M',L'=M'++L/\R v M' s')) :
  AC P D f args L s (λv L' s'=>L=L'/\∃ M' s1,R v M' s1/\Le D s1 s'/\∀ b o,(b,o)∈M'->s'.heap[b]?=some o):=by
 refine ⟨h.1,λho=>(h.2 ho).mono ?_⟩;rintro e w' ⟨v,L',s',h1,rfl,h3,h4,M',rfl,h6⟩;obtain ⟨d1,d2,d3⟩:=sK h3;exact ⟨v,L,fill M' s',h1,d1,d2,h4.trans d3,rfl,M',s',h6,d3,λb o hm=>qc h3.left hm⟩
section
attribute [local irreducible] JC JO JA JB lZ mF mM AC fill iH QE Ev mq
variable(L:Hl)(s:World)
def N0:yg prog 117 .string (.agg #[iJ 0,iJ 0]):=⟨_,_,underlying117,underlying9,λw=>by rw [Db qsw];rfl⟩
def MV(m:Int×Int):Value:=.agg #[iJ m.1,iJ m.2]
def kW(p:ja):List (iR×(Int×Int)):=(p.o.mapIdx λi g=>(g.name,((3:Int),(i:Int))))++(p.funcs.mapIdx λi x=>(x.name,((4:Int),(i:Int))))
def kR(p:ja)(x:iT)(nm:iR):(Int×Int)×Bool:=if 0<=kM (λy=>decide (nm=y)) x.params 0 then ((1,kM (λy=>decide (nm=y)) x.params 0),true) else if 0<=kM (λy=>decide (nm=y)) x.locals 0 then ((2,kM (λy=>decide (nm=y)) x.locals 0),true)
 else match (kW p).find? λe=>decide (e.1=nm) with
  | some e=>(e.2,true)
  | none=>((0,0),false)
def nW(s:World)(b:Nat)(p:ja):Prop:=∃ es:List (iR×Value×Nat),vc s (λl=>St l) b es/\∀ nm,kS es nm=((kW p).find? λe=>decide (e.1=nm)).map λe=>MV e.2
def nW.le{s:World}(h:nW s b p)(hl:Le D s s'):nW s' b p:=by
 obtain ⟨es,h1,h2⟩:=h;exact ⟨es,h1.le hl,h2⟩
def Io{p:Prop} (h:p:=by
 refine Sr<|jY Y2<|iI (jC [(_,_),(_,_)] [_,_] Y3 Z Z Z) Z<|Wt 0 [_,_] Y9<|G5 ?_;exact rR [_,_,_] L (.agg (us:=[_,_]) 0 Z Z Z Z Z (.t1 Z)) Z Lc λ_ iL=>sQ):p:=h
def F4(p:ja)(Ag Af:OAdr9)(ng cg nf cf bm:Nat)(hM:nW s bm p)(x:iT)(A1 A2 A3:OAdr9)(n1 q1 n2 q2 n3 q3:Nat)(pJ:iW s A1 n1 q1 x.params)(kb:iW s A2 n2 q2 x.locals)(nm:iR):AV9 D 50 [.agg #[.slice Ag ng cg,.slice Af nf cf,.map (some bm)],.agg #[St x.name,.slice A1 n1 q1,.slice A2 n2 q2,.slice A3 n3 q3],St nm] L s (.tuple #[.agg #[iJ (kR p x nm).1.1,iJ (kR p x nm).1.2],.bool (kR p x nm).2]):=by
 obtain ⟨es,hMs,hes⟩:=hM;refine jv (fn:=f50) jl func50 V Z ntmps50 Z (rs:=[.cell 6 66,.tmp 7]) Z [(0,_),(1,_),(2,_)] Z<|Sr<|kH Y2 λβ1 s1 h1=>kH Y2 λβ2 s2 h2=>jp Z [_,_] Y2 λβ3 s3 h3=>G9 ?_;refine Je Y3 (Kc D _ _ A1 n1 q1 x.params Pz nm) λs4 h4=>G6 ?_;refine uH Y3<|J2 ?_ ?_<;>intro c5;.have hE:kR p x nm=_:=aw c5;exact Io
 have g17:=c5;refine G8 ?_;refine Je Y3 (Kc D _ _ A2 n2 q2 x.locals Pz nm) λs6 h6=>G6 ?_;refine uH Y3<|J2 ?_ ?_<;>intro c7;.have hE:kR p x nm=_:=(am g17).trans (aw c7);exact Io
 have g25:=c7;obtain ⟨mm,bb,hmm,hE⟩:∃ (mm:Int×Int) (bb:Bool),(kS es nm).getD (.agg #[iJ 0,iJ 0])=MV mm/\(kS es nm).isSome=bb/\kR p x nm=(mm,bb):=by
   rw [hes nm,kR,am g17,am g25];cases (kW p).find? λe=>decide (e.1=nm) with
   | none=>exact ⟨(0,0),false,rfl,rfl,rfl⟩
   | some e=>exact ⟨e.2,true,rfl,rfl,rfl⟩
 obtain ⟨hbb,hE⟩:=hE;refine G7 ?_;refine iI (jD (Jq jU.str N0 Z Z Pz) (show Value.tuple #[(kS es nm).getD (.agg #[iJ 0,iJ 0]),.bool (kS es nm).isSome]=.tuple #[.agg #[iJ mm.1,iJ mm.2],.bool bb] by rw [hmm,hbb];rfl)) Z<|G3 ?_;refine jp Z [_,_] Y2 λβ8 s8 h8=>Wt 0 [_,_] Y9<|At Z Z<|Sr<|iI (jh 0 [_,_] Y5) Z<|jY Y2<|Wt 1 [_,_] Y9<|G4 ?_;exact rR [_,_,_,_] L (.agg (us:=[_,_]) 1 Z Z Z Z Z (.t1 Z)) Z Lc λ_ iL=>sQ
def FI{f:Int×Int->Value}{l:List (iR×(Int×Int))}(hk:l[k]?=some e)(lQ:(l.map (·.1)).Nodup)(h:∀ nm,kS es nm=((l.take k).find? λe=>decide (e.1=nm)).map λe=>f e.2)(nm:iR):kS (u9 es e.1 (f e.2) ck) nm=((l.take (k+1)).find? λe=>decide (e.1=nm)).map λe=>f e.2:=by
  obtain ⟨hl,rfl⟩:=al.1 hk;rw [MK,bM hl,gB,h nm];by_cases hn:nm=l[k].1
  . subst hn
    rw [aw rfl];have h0:(l.take k).find? (λe=>decide (e.1=l[k].1))=none:=by
      rw [gj];intro y hy hd;have h2:((l.take k++l.drop k).map (·.1)).Nodup:=by rw [eB];exact lQ
      rw [bR,bL] at h2;exact h2.2.2 _ (bh.2 ⟨y,hy,rfl⟩) _ (bh.2 ⟨l[k],by rw [aL hl];exact cV ..,rfl⟩) (by simpa using hd)
    rw [h0];simp
  . rw [am hn]
    have h1:[l[k]].find? (λe=>decide (e.1=nm))=none:=by simp [List.find?,Ne.symm hn,show ¬ l[k].1=nm from λh=>hn h.symm]
    rw [h1,Option.or_none]
def Tp{x:jM}(h:p.o[k]?=some x):(kW p)[k]?=some (x.name,((3:Int),(k:Int))):=by
 obtain ⟨hl,rfl⟩:=al.1 h;rw [kW,aR (by simpa using hl)];simp [hl]
def Gf{x:iT}(h:p.funcs[k]?=some x):(kW p)[p.o.length+k]?=some (x.name,((4:Int),(k:Int))):=by
 obtain ⟨hl,rfl⟩:=al.1 h;rw [kW,aY (by simp)];simp [hl]
def quC(d:Nat)(p:ja)(Ag Af:OAdr9)(ng cg nf cf:Nat)(jQ:jn s Ag ng cg p.o)(j8:ju d s Af nf cf p.funcs)(hD:((kW p).map (·.1)).Nodup):AN9 D 44 [.agg #[.slice Ag ng cg,.slice Af nf cf]] L s λv M' _=>∃ bm es ck,M'=[(bm,mp (λl=>St l) es ck)]/\v=.agg #[.slice Ag ng cg,.slice Af nf cf,.map (some bm)]/\∀ nm,kS es nm=((kW p).find? λe=>decide (e.1=nm)).map λe=>MV e.2:=by
 have lX:=jQ.1;have oB:=j8.1;have hq1:=jQ.2.1;have hq2:=jQ.2.2.1;have hq3:=j8.2.1;have hq4:=j8.2.2.1;refine jv (fn:=f44) jl func44 V Z ntmps44 Z (rs:=[.cell 2 119]) Z [(0,_)] Z<|Sr<|kH Y2 λβ1 s1 h1=>jp Z [_,_,_] Y2 λβ2 s2 h2=>Nt<|Sr<|iI (jh 1 [_,_] Y5) Z<|FL (λl=>St l) Z λβm s3 h3=>iI (jC [(_,_),(_,_)] [_,_,_] Y3 Z Z Z) Z<|jp Z [_,_,_] Y2 λβ4 s4 h4=>Wt 0 [_,_,_] Y9<|G6 ?_;refine Wl 3 Y6<|G5 ?_;refine lw (γ:=Nat×List (iR×Value×Nat)×Nat) (λg=>[(1,_),(2,_),(3,_),(12,_),(13,_),(14,iJ (g.1:Int))]) (λg=>_::(βm,mp (λl=>St l) g.2.1 g.2.2)::_::_::L) (λg tw=>Le D s4 tw/\(g.1<=ng/\∀ nm,kS g.2.1 nm=(((kW p).take g.1).find? λe=>decide (e.1=nm)).map λe=>MV e.2)) (λg=>ng - g.1) (λ_ _ _ h hl=>⟨h.1.trans hl,h.2⟩) (0,[],0) (.c6 Z Z Z Z Z Z (.nil _)) Z ⟨Le.refl _,⟨aB _,λnm=>rfl⟩⟩ ?_;intro g s5 I5;obtain ⟨k,es,ck⟩:=g;obtain ⟨kh,hS⟩:=I5.2;simp only at kh hS;dsimp only;refine J6 ?_ ?_<;>intro c6
 .have hk:k < ng:=by omega
  obtain ⟨b,off,x,Ai,ni,ci,rfl,hx,hcx,hix,oh,kK⟩:=jn.at_ Pz hk;refine G7 ?_;refine iI (jR Y6 hk) Z<|iI (kq Y3 Pz Z) Z<|jp Z [_,_,_,_] Y2 λβ7 s7 h7=>me Y2<|Wt 0 [_,_,_,_] Y9<|G8 ?_;refine iI (jC [(_,_),(_,_)] [_,_] Y3 Z Z Z) Z<|SL jU.str 2 N0 Z Z Z Z ?_;intro rP;simp only [lO];refine G4 ?_;refine ki Y3 (jB O O)<|G2 ?_;refine jd ⟨(k+1,_,rP),[_],kp,Z,⟨Lc,⟨by simp only;omega,FI (f:=MV) (Tp hx) hD hS⟩⟩,Oz⟩
 obtain rfl:p.o.length=k:=by omega
 refine G9 ?_;refine Wl 3 Y6<|G5 ?_;refine lw (γ:=Nat×List (iR×Value×Nat)×Nat) (λg=>[(2,_),(3,_),(27,_),(28,_),(29,iJ (g.1:Int))]) (λg=>_::(βm,mp (λl=>St l) g.2.1 g.2.2)::_::_::L) (λg tw=>Le D s5 tw/\(g.1<=nf/\∀ nm,kS g.2.1 nm=(((kW p).take (p.o.length+g.1)).find? λe=>decide (e.1=nm)).map λe=>MV e.2)) (λg=>nf - g.1) (λ_ _ _ h hl=>⟨h.1.trans hl,h.2⟩) (0,es,ck) (.c5 Z Z Z Z Z (.nil _)) Z ⟨Le.refl _,⟨aB _,hS⟩⟩ ?_;intro g s7 I7;obtain ⟨k,es,ck⟩:=g;obtain ⟨kh,hSq⟩:=I7.2;simp only at kh hSq;dsimp only;refine J6 ?_ ?_<;>intro c8
 .have hk:k < nf:=by omega
  obtain ⟨b,off,x,B1,m1,d1,B2,m2,d2,B3,m3,d3,rfl,hx,hcx,od,oc,rE,kK⟩:=ju.at_ Pz hk;refine G7 ?_;refine iI (jR Y6 hk) Z<|iI (kq Y3 Pz Z) Z<|jp Z [_,_,_,_] Y2 λβ9 s9 h9=>me Y2<|Wt 0 [_,_,_,_] Y9<|G8 ?_;refine iI (jC [(_,_),(_,_)] [_,_] Y3 Z Z Z) Z<|SL jU.str 2 N0 Z Z Z Z ?_;intro rP;simp only [lO];refine G4 ?_;refine ki Y3 (jB O O)<|G2 ?_;refine jd ⟨(k+1,_,rP),[_],kp,Z,⟨Lc,⟨by simp only;omega,FI (f:=MV) (Gf hx) hD hSq⟩⟩,Oz⟩
 rw [aI (show (kW p).length<=p.o.length+k by rw [kW,ac,eY,eY];omega)] at hSq;refine G6 ?_;refine rG 2<|rG 3<|Zr<|iI (jh 2 [_,_,_] Y5) Z<|Wt 1 [_,_,_] Y9<|G3 ?_;exact rR [_,_,_] _ (.agg (us:=[_,_,_]) 1 Z Z Z Z Z (.nil)) Z Lc λ_ iL=>⟨[_],rfl,_,es,ck,rfl,rfl,hSq⟩
def wz(d:Nat)(p:ja)(Ag:OAdr9)(ng cg nf cf:Nat)(jQ:jn s Ag ng cg p.o)(j8:ju d s Af nf cf p.funcs)(hD:((kW p).map (·.1)).Nodup):Ap9 D 44 [.agg #[.slice Ag ng cg,.slice Af nf cf]] L s λv L' s'=>L=L'/\∃ bm,v=.agg #[.slice Ag ng cg,.slice Af nf cf,.map (some bm)]/\nW s' bm p:=by
 refine (AC.pubO (quC L s d p Ag Af ng cg nf cf jQ j8 hD)).mono ?_;rintro v L1 s1 _ ⟨h1,M1,s2,⟨bm,es,ck,rfl,h3,h4⟩,_,h5⟩;exact ⟨h1,bm,h3,es,⟨ck,h5 _ _ Mc⟩,h4⟩
def Bz(p:ja)(i:Int):Int:=match p.o[i.toNat]? with
 | some g=>g.kind
 | none=>0
def Dl{x:jM}(h:p.o[k]?=some x):Bz p (k:Int)=x.kind:=by rw [Bz,aH,h]
abbrev zo(gk uk mk:Int):Prop:=((mk=1\/mk=2)/\(uk=1\/uk=2))\/(mk=4/\uk=4)\/((¬ (mk=1\/mk=2)/\mk≠4)/\((gk=1/\uk=2)\/(gk=2/\(uk=1\/uk=2))\/(gk≠1/\gk≠2/\uk=3)))
def GR{p:Prop} (h:p:=by
 refine ⟨?_,Z⟩;simp only [kB,zo];clear hm;try rw [re]
 exact bj Value.bool (bO O).symm):p:=h
def L7{p:Prop} (h:p:=by
 refine ⟨?_,Z⟩;simp only [kB,zo];clear hm;try rw [re]
 exact bj Value.bool (bJ.2 O)):p:=h
def VH{p:Prop} (h:p:=by
 refine k8 ?_;exact rX [_,_,_] L Z Lc λ_ iL=>L7):p:=h
def HL{p:Prop} (h:p:=by
  refine G6 ?_;refine kT (t:=15) Z ?_ ?_<;>intro c6;.refine lF ?_;exact rX [_,_,_] L Z Lc λ_ iL=>GR
  refine mn ?_;refine Zu ?_;exact rX [_,_,_] L Z Lc λ_ iL=>L7):p:=h
def qrL(p:ja)(Ag Af:OAdr9)(ng cg nf cf bm:Nat)(jQ:jn s Ag ng cg p.o)(u:En)(mk mi:Int)(hm:¬ (mk=1\/mk=2)->mk≠4->∃ k:Nat,mi=(k:Int)/\k < ng):AV9 D 98 [.agg #[.slice Ag ng cg,.slice Af nf cf,.map (some bm)],.agg #[St (u).1,iJ (u).2.1,iJ (u).2.2],.agg #[iJ mk,iJ mi]] L s (.bool (decide (zo (Bz p mi) u.2.1 mk))):=by
 refine jv (fn:=Tryz.f98) jl Tryz.func98 V Z Tryz.ntmps98 Z (rs:=[.tmp 6]) Z [(0,_),(1,_),(2,_)] Z<|Sr<|kH Y2 λβ1 s1 h1=>kH Y2 λβ2 s2 h2=>kH Y2 λβ3 s3 h3=>Cl ?_ ?_<;>intro c4
 .refine J2 ?_ ?_<;>intro c5;.exact HL
  exfalso;omega
 refine J5 ?_ ?_<;>intro c5;.exact HL
 refine J6 ?_ ?_<;>intro c6;.exact VH
 obtain ⟨k,rfl,hk⟩:=hm O O;obtain ⟨b,off,x,Ai,ni,ci,rfl,hx,hcx,hix,oh,kK⟩:=jn.at_ Pz hk;have re:=Dl hx;refine k8 ?_;refine iI (jR Y6 hk) Z<|W0 Y5<|iI (jW Y3 Pz Z) Z<|J9 ?_ ?_<;>intro c7;.exact VH
 refine J6 ?_ ?_<;>intro c8
 .refine G6 ?_;refine kT (t:=43) Z ?_ ?_<;>intro c9;.refine lF ?_;exact rX [_,_,_] L Z Lc λ_ iL=>GR
  refine mn ?_;refine Zu ?_;exact rX [_,_,_] L Z Lc λ_ iL=>L7
 refine mn ?_;exact rX [_,_,_] L Z Lc λ_ iL=>L7
def FP{x:iT}(h:(kR p x nm).2=true):((kR p x nm).1.1=1\/(kR p x nm).1.1=2)\/((kR p x nm).1.1=3/\∃ k:Nat,(kR p x nm).1.2=(k:Int)/\k < p.o.length)\/((kR p x nm).1.1=4/\∃ k:Nat,(kR p x nm).1.2=(k:Int)/\k < p.funcs.length):=by
  unfold kR at h ⊢;split
  . exact .inl (.inl rfl)
  split
  . exact .inl (.inr rfl)
  rename_i h1 h2;rw [am h1,am h2] at h;cases hf:(kW p).find? λe=>decide (e.1=nm) with
  | none=>rw [hf] at h;cases h
  | some e=>
    have hm:=cM hf;rw [kW,aU] at hm;rcases hm with hm|hm
    . obtain ⟨i,hi⟩:=bC hm
      rw [du] at hi;cases hg:p.o[i]? with
      | none=>rw [hg] at hi;cases hi
      | some g=>rw [hg] at hi;simp at hi;subst hi;exact .inr (.inl ⟨rfl,i,rfl,(al.1 hg).1⟩)
    . obtain ⟨i,hi⟩:=bC hm
      rw [du] at hi;cases hg:p.funcs[i]? with
      | none=>rw [hg] at hi;cases hi
      | some g=>rw [hg] at hi;simp at hi;subst hi;exact .inr (.inr ⟨rfl,i,rfl,(al.1 hg).1⟩)
def Mz(p:ja)(i:Int):Nat:=match p.funcs[i.toNat]? with
 | some x=>x.params.length
 | none=>0
def NL{x:iT}{i:Int}(hi:i=(k:Int))(h:p.funcs[k]?=some x):Mz p i=x.params.length:=by rw [hi,Mz,aH,h]
def pF(p:ja)(x:iT)(u:En):Int:=if u.2.1=0 then 0 else if (kR p x u.1).2=false then 12 else if ¬ zo (Bz p (kR p x u.1).1.2) u.2.1 (kR p x u.1).1.1 then 13 else if u.2.1=4/\u.2.2≠(Mz p (kR p x u.1).1.2:Int) then 9 else 0
def j7(p:ja)(x:iT):Nd->Int
 | .st y lp=>if (y.kind=9\/y.kind=10)/\lp=0 then 24 else pF p x (oY y)
 | .ex y _=>pF p x (o6 y)
def QG{p:Prop} (h:p:=by
 exact ⟨by rw [j7,am g33,hE];rfl,rfl⟩):p:=h
def TV{p:Prop} (h:p:=by
 refine G8 ?_;exact rX [_,_,_,_,_] L Z Lc λ_ iL=>QG):p:=h
def WE{p:Prop} (h:p:=by
 refine G9 ?_;exact rX [_,_,_,_,_] L Z Lc λ_ iL=>QG):p:=h
def qz6(d:Nat)(p:ja)(Ag Af:OAdr9)(ng cg nf cf:Nat)(jQ:jn s Ag ng cg p.o)(j8:ju d s Af nf cf p.funcs)(bm:Nat)(hM:nW s bm p)(x:iT)(A1 A2 A3:OAdr9)(n1 q1 n2 q2 n3 q3:Nat)(pJ:iW s A1 n1 q1 x.params)(kb:iW s A2 n2 q2 x.locals)(y:jb)(b o:Nat)(C1 C2 C3:OAdr9)(r1 e1 r2 e2 r3 e3:Nat)(hy:iH s b o [iJ y.kind,St y.name,.slice C1 r1 e1,.slice C2 r2 e2,.slice C3 r3 e3])(hr:r1=y.exprs.length)(lp:Nat):AV9 D 53 [.agg #[.slice Ag ng cg,.slice Af nf cf,.map (some bm)],.agg #[St x.name,.slice A1 n1 q1,.slice A2 n2 q2,.slice A3 n3 q3],.agg #[.pointer (some ⟨b,o,none⟩),.pointer none,iJ (lp:Int)]] L s (iJ (j7 p x (.st y lp))):=by
 have lX:=jQ.1;have oB:=j8.1;refine jv (fn:=f53) jl func53 V Z ntmps53 Z (rs:=[.tmp 6]) Z [(0,_),(1,_),(2,_)] Z<|Sr<|kH Y2 λβ1 s1 h1=>kH Y2 λβ2 s2 h2=>kH Y2 λβ3 s3 h3=>k8 ?_;refine rm 33 ((y.kind=9\/y.kind=10)/\lp=0) ?_ ?_
 .refine Zr<|jY Y2<|iI (jD (v':=.bool true) (NU underlying130 Z) Z) Z<|G8 ?_;refine iI (jW Y3 Pz Z) Z<|G4 ?_;refine kT (t:=21) Z ?_ ?_<;>intro c5;.refine Cj ?_;refine jd (kE.mk (Lr D) Sb Z (bJ.2 O))
  refine G7 ?_;refine iI (jW Y3 Pz Z) Z<|G6 ?_;refine kT (t:=29) Z ?_ ?_<;>intro c6;.refine G8 ?_;refine jd (kE.mk (Lr D) Sb Z (bJ.2 O))
  refine G5 ?_;refine jd (kE.mk (Lr D) Sb Z ((bQ O).symm))
 intro s4 h4;refine mE Z ?_ ?_<;>intro c7;.have g33:=c7;refine G7 ?_;exact rX [_,_,_] L Z Lc λ_ iL=>⟨by rw [j7,aw g33];rfl,rfl⟩
 have g33:=c7;refine Zk<|Zt<|Sr<|iI (jh 0 [_,_,_] Y5) Z<|Je Y3 (XG _ _ y b o C1 C2 C3 r1 e1 r2 e2 r3 e3 Pz hr) λs8 h8=>jp Z [_,_,_] Y2 λβ9 s9 h9=>Wt 0 [_,_,_] Y9<|sA ?_ ?_<;>intro my;.have hE:pF p x (oY y)=0:=aw my;refine G7 ?_;exact rX [_,_,_,_] L Z Lc λ_ iL=>QG
 have AH:¬ (oY y).2.1=0:=my;refine Zk<|Zt<|Sr<|iI (jh 3 [_,_,_] Y5) Z<|iI (jh 2 [_,_,_,_] Y5) Z<|G2 ?_;refine Je Y3 (F4 _ _ p Ag Af ng cg nf cf bm Pz x A1 A2 A3 n1 q1 n2 q2 n3 q3 Pz Pz _) λkv jP=>G3 ?_;refine jp Z [_,_] Y2 λβ12 kc jL=>Wt 0 [_,_] Y9<|mn ?_;refine vB Z ?_ ?_<;>intro oP;.have hE:pF p x (oY y)=12:=(am AH).trans (aw oP);exact TV
 have g47:¬ (kR p x (oY y).1).2=false:=by rw [oP];decide
 have hmk:=FP oP;refine Sr<|iI (jh 4 [_,_,_] Y5) Z<|iI (jh 1 [_,_,_] Y5) Z<|iI (jh 0 [_,_] Y5) Z<|Je Y3 (qrL _ _ p Ag Af ng cg nf cf bm Pz (oY y) (kR p x (oY y).1).1.1 (kR p x (oY y).1).1.2 (λh1 h2=>hmk.elim (λh=>absurd h h1) (λh=>h.elim (λh=>by obtain ⟨k,e1,e2⟩:=h.2;exact ⟨k,e1,by omega⟩) (λh=>absurd h.1 h2)))) λli kz=>G4 ?_;refine lD Z ?_ ?_<;>intro ve;.have hE:pF p x (oY y)=13:=(am AH).trans ((am g47).trans (aw ve));exact TV
 have g50:¬ ¬ zo (Bz p (kR p x (oY y).1).1.2) (oY y).2.1 (kR p x (oY y).1).1.1:=λh=>h ve;have g51:=ve;refine Zs ?_;rcases iz ((oY y).2.1=4) with g4|g4
 .obtain ⟨hk4,j,hj,pR⟩:=hmk.elim (λh=>absurd g51 (λk=>by omega)) (λh=>h.elim (λh=>absurd g51 (λk=>by omega)) id);obtain ⟨b,off,z,B1,m1,d1,B2,m2,d2,B3,m3,d3,rfl,hz,hcz,hpz,hlz,hbz,hzl⟩:=ju.at_ Pz (show j < nf by omega);have hm9:=hpz.1;have hpar:=NL hj hz;refine ma jF 18 Z _ (λ_ h=>h) λqW qD=>H2 ?_;refine X40 ?_;refine zg 11 Z ⟨_,Z,Z⟩ (jR (j:=j) ⟨Z,(show lk _ _=some (iJ (j:Int)) from by rw [<- hj];rfl),Z,Z,Z,Z⟩ (show j < nf by omega)) Z ?_;refine H1 ?_;refine zg 13 Z ⟨_,Z,Z⟩ (nh 1 Y3 Pz Z) Z<|H1 ?_;refine zg 15 Z ⟨_,Z,Z⟩ (qM Z Z) Z<|H2 ?_;refine jq V<|Zt ?_;refine lD Z ?_ ?_<;>intro yE;.have hE:pF p x (oY y)=9:=(am AH).trans ((am g47).trans ((am g50).trans (aw ⟨g4,by rw [hpar];have:=yE;omega⟩)));exact TV
  have hE:pF p x (oY y)=0:=(am AH).trans ((am g47).trans ((am g50).trans (am (λh=>h.2 (by rw [hpar];have:=yE;omega)))));exact WE
 refine ma jF 18 Z _ (λ_ h=>h) λqW qD=>H2 ?_;refine za 2 Z (jD (v':=.bool false) (pW Z Z) (bZ g4)) Z<|UY ?_;refine jq V<|G2 ?_;have hE:pF p x (oY y)=0:=(am AH).trans ((am g47).trans ((am g50).trans (am (λh=>g4 h.1))));exact WE
def QH{p:Prop} (h:p:=by
 exact ⟨by rw [j7,hE];rfl,rfl⟩):p:=h
def TB{p:Prop} (h:p:=by
 refine G8 ?_;exact rX [_,_,_,_,_] L Z Lc λ_ iL=>QH):p:=h
def WF{p:Prop} (h:p:=by
 refine G9 ?_;exact rX [_,_,_,_,_] L Z Lc λ_ iL=>QH):p:=h
def qz5(d:Nat)(p:ja)(Ag Af:OAdr9)(ng cg nf cf:Nat)(jQ:jn s Ag ng cg p.o)(j8:ju d s Af nf cf p.funcs)(bm:Nat)(hM:nW s bm p)(x:iT)(A1 A2 A3:OAdr9)(n1 q1 n2 q2 n3 q3:Nat)(pJ:iW s A1 n1 q1 x.params)(kb:iW s A2 n2 q2 x.locals)(y:Ex)(b o:Nat)(A:OAdr9)(n c:Nat)(hy:iH s b o [iJ y.kind,iJ y.op,iO y.num,St y.name,.slice A n c])(hr:n=y.args.length)(lp:Nat):AV9 D 53 [.agg #[.slice Ag ng cg,.slice Af nf cf,.map (some bm)],.agg #[St x.name,.slice A1 n1 q1,.slice A2 n2 q2,.slice A3 n3 q3],.agg #[.pointer none,.pointer (some ⟨b,o,none⟩),iJ (lp:Int)]] L s (iJ (j7 p x (.ex y lp))):=by
 have lX:=jQ.1;have oB:=j8.1;refine jv (fn:=f53) jl func53 V Z ntmps53 Z (rs:=[.tmp 6]) Z [(0,_),(1,_),(2,_)] Z<|Sr<|kH Y2 λβ1 s1 h1=>kH Y2 λβ2 s2 h2=>kH Y2 λβ3 s3 h3=>qP ?_;refine iI (jD (v':=.bool false) (NU underlying130 Z) Z) Z<|G26 ?_;refine iI (jh 0 [_,_,_] Y5) Z<|Je Y3 (XF _ _ y b o A n c Pz hr) λs4 h4=>jp Z [_,_,_] Y2 λβ5 s5 h5=>Wt 0 [_,_,_] Y9<|sA ?_ ?_<;>intro c6;.have hE:pF p x (o6 y)=0:=aw c6;refine G7 ?_;exact rX [_,_,_,_] L Z Lc λ_ iL=>QH
 have AH:¬ (o6 y).2.1=0:=c6;refine Zk<|Zt<|Sr<|iI (jh 3 [_,_,_] Y5) Z<|iI (jh 2 [_,_,_,_] Y5) Z<|G2 ?_;refine Je Y3 (F4 _ _ p Ag Af ng cg nf cf bm Pz x A1 A2 A3 n1 q1 n2 q2 n3 q3 Pz Pz _) λs7 h7=>G3 ?_;refine jp Z [_,_] Y2 λβ8 s8 h8=>Wt 0 [_,_] Y9<|mn ?_;refine vB Z ?_ ?_<;>intro c9;.have hE:pF p x (o6 y)=12:=(am AH).trans (aw c9);exact TB
 have g47:¬ (kR p x (o6 y).1).2=false:=by rw [c9];decide
 have hmk:=FP c9;refine Sr<|iI (jh 4 [_,_,_] Y5) Z<|iI (jh 1 [_,_,_] Y5) Z<|iI (jh 0 [_,_] Y5) Z<|Je Y3 (qrL _ _ p Ag Af ng cg nf cf bm Pz (o6 y) (kR p x (o6 y).1).1.1 (kR p x (o6 y).1).1.2 (λh1 h2=>hmk.elim (λh=>absurd h h1) (λh=>h.elim (λh=>by obtain ⟨k,e1,e2⟩:=h.2;exact ⟨k,e1,by omega⟩) (λh=>absurd h.1 h2)))) λku jN=>G4 ?_;refine lD Z ?_ ?_<;>intro mN;.have hE:pF p x (o6 y)=13:=(am AH).trans ((am g47).trans (aw mN));exact TB
 have g50:¬ ¬ zo (Bz p (kR p x (o6 y).1).1.2) (o6 y).2.1 (kR p x (o6 y).1).1.1:=λh=>h mN;have g51:=mN;refine Zs ?_;rcases iz ((o6 y).2.1=4) with g4|g4
 .obtain ⟨hk4,j,hj,pR⟩:=hmk.elim (λh=>absurd g51 (λk=>by omega)) (λh=>h.elim (λh=>absurd g51 (λk=>by omega)) id);obtain ⟨b,off,z,B1,m1,d1,B2,m2,d2,B3,m3,d3,rfl,hz,hcz,hpz,hlz,hbz,hzl⟩:=ju.at_ Pz (show j < nf by omega);have hm9:=hpz.1;have hpar:=NL hj hz;refine ma jF 18 Z _ (λ_ h=>h) λkc jL=>H2 ?_;refine X40 ?_;refine zg 11 Z ⟨_,Z,Z⟩ (jR (j:=j) ⟨Z,(show lk _ _=some (iJ (j:Int)) from by rw [<- hj];rfl),Z,Z,Z,Z⟩ (show j < nf by omega)) Z ?_;refine H1 ?_;refine zg 13 Z ⟨_,Z,Z⟩ (nh 1 Y3 Pz Z) Z<|H1 ?_;refine zg 15 Z ⟨_,Z,Z⟩ (qM Z Z) Z<|H2 ?_;refine jq V<|Zt ?_;refine lD Z ?_ ?_<;>intro oP;.have hE:pF p x (o6 y)=9:=(am AH).trans ((am g47).trans ((am g50).trans (aw ⟨g4,by rw [hpar];have:=oP;omega⟩)));exact TB
  have hE:pF p x (o6 y)=0:=(am AH).trans ((am g47).trans ((am g50).trans (am (λh=>h.2 (by rw [hpar];have:=oP;omega)))));exact WF
 refine ma jF 18 Z _ (λ_ h=>h) λkc jL=>H2 ?_;refine za 2 Z (jD (v':=.bool false) (pW Z Z) (bZ g4)) Z<|UY ?_;refine jq V<|G2 ?_;have hE:pF p x (o6 y)=0:=(am AH).trans ((am g47).trans ((am g50).trans (am (λh=>g4 h.1))));exact WF
end
section
variable{t:Nat}{c:Operand}{b:Bool}
def C0(ro:Option Nat):Fence:={ Fence.wide with round:=ro }
def RV{f:FuncId}{args:Array Value}{w:World}{R:Ending->World->Prop}(ro:Option Nat)(h:Calls P f args w R):CallsIn (C0 ro) n P f args w R:=by
 cases ro with
 | none=>exact iA.2 h
 | some l=>exact CallsIn.inRound l (iA.2 h)
def MO(ro:Option Nat)(n:Nat):(C0 ro).depth.isSome=true->1<=n:=λh=>by cases h
def Dp(ro:Option Nat)(f:FuncId):(C0 ro).fn f:=trivial
structure vb(ds:List Deferred)(n:Nat)(a:Act)(fr:Fr):Prop where
 rel:jE n { a with defers:=[] } fr
 defers:a.defers=ds
def vb.ev{a:Act}{fr:Fr}(h:vb ds n a fr)(hx:lk fr x=some v):a.eval x=v:=h.rel.ev hx
def vb.put{a:Act}{fr:Fr}(h:vb ds n a fr)(hd:Nat.blt d n=true)(v:Value):vb ds n (a.put (some d) v) ((d,v)::fr):=
 ⟨h.rel.put hd v,h.defers⟩
def vb.sub{a:Act}{fr l:Fr}(h:vb ds n a fr)(hs:je fr l):vb ds n a l:=⟨h.rel.sub hs,h.defers⟩
abbrev wJ:=Exit->List Deferred->Fr->Hl->World->Prop
def Xj(D n:Nat)(Q:wJ):Exit->Act->World->Prop:=λe a w=>∃ ds fr L s,vb ds n a fr/\jX D L s/\w=fill L s/\Q e ds fr L s
def RC(P:Program)(TT:kG)(D n:Nat)(ro:Option Nat)(Q:wJ)(c:Code)(ds:List Deferred)(fr:Fr)(L:Hl)(s:World):Prop:=
 jZ P TT->∀ a,vb ds n a fr->jX D L s->c.wpIn (C0 ro) 0 P (Xj D n Q) a (fill L s)
def RO(P:Program)(TT:kG)(D n:Nat)(ro:Option Nat)(ops:Array Oper)(Q:wJ)(l:List Oper)(ds:List Deferred)(fr:Fr)(L:Hl)(s:World):Prop:=
 jZ P TT->∀ a,vb ds n a fr->jX D L s->wpListIn (C0 ro) 0 P ops (Xj D n Q) l a (fill L s)
section control
variable{TT:kG}{Q:wJ}{fr:Fr}
def E3(J:List Deferred->Fr->Hl->World->Prop)(Q:wJ):wJ
 | .normal,ds,fr,L,s=>J ds fr L s
 | e,ds,fr,L,s=>Q e ds fr L s
def EU(id:Nat)(Q:wJ):wJ
 | .exit i,ds,fr,L,s=>if i=id then Q .normal ds fr L s else Q (.exit i) ds fr L s
 | e,ds,fr,L,s=>Q e ds fr L s
def qzc(h:Q .normal ds fr L s):RC P TT D n ro Q .skip ds fr L s:=λ_ _ hr ho=>wpIn_skip ⟨ds,fr,L,s,hr,ho,rfl,h⟩
def qza{id:Nat}(h:Q (.exit id) ds fr L s):RC P TT D n ro Q (.exit id) ds fr L s:=λ_ _ hr ho=>wpIn_exit ⟨ds,fr,L,s,hr,ho,rfl,h⟩
def qE1(h:Q .ret ds fr L s):RC P TT D n ro Q .ret ds fr L s:=λ_ _ hr ho=>wpIn_ret ⟨ds,fr,L,s,hr,ho,rfl,h⟩
def qE2{x y:Code}(h:RC P TT D n ro (E3 (RC P TT D n ro Q y) Q) x ds fr L s):RC P TT D n ro Q (.seq x y) ds fr L s:=λht a hr ho=>
 wpIn_seq (ft (h ht a hr ho) λe a w ⟨wU,jS,L',s',h1,h2,h3,h4⟩=>by
  cases e with
  | normal=>subst h3;exact h4 ht a h1 h2
  | _=>exact ⟨wU,jS,L',s',h1,h2,h3,h4⟩)
def qs0{id:Nat}{c:Code}(h:RC P TT D n ro (EU id Q) c ds fr L s):RC P TT D n ro Q (.block id c) ds fr L s:=λht a hr ho=>
 wpIn_block (ft (h ht a hr ho) λe a w ⟨wU,jS,L',s',h1,h2,h3,h4⟩=>by
  cases e with
  | exit i=>
   simp only [EU] at h4;simp only [Exit.inBlock];by_cases hi:i=id
   . simp only [hi,bS] at h4 ⊢;exact ⟨wU,jS,L',s',h1,h2,h3,h4⟩
   . simp only [hi,cm] at h4 ⊢;exact ⟨wU,jS,L',s',h1,h2,h3,h4⟩
  | _=>exact ⟨wU,jS,L',s',h1,h2,h3,h4⟩)
def Ol{x y:Code}(hc:lk fr c=some (.bool b))(h1:b=true->RC P TT D n ro Q x ds fr L s)(h2:b=false->RC P TT D n ro Q y ds fr L s):RC P TT D n ro Q (.cond c x y) ds fr L s:=
 λht a hr ho=>wpIn_cond_split (hr.ev hc) (λhb=>h1 hb ht a hr ho) (λhb=>h2 hb ht a hr ho)
def Kl{x y:Code}{p:Prop}[Decidable p](hc:lk fr c=some (.bool (decide p)))(h1:p->RC P TT D n ro Q x ds fr L s)(h2:¬ p->RC P TT D n ro Q y ds fr L s):RC P TT D n ro Q (.cond c x y) ds fr L s:=
 Ol hc (λhb=>h1 (cU hb)) (λhb=>h2 (dx hb))
def NW{x y:Code}{p:Prop}[Decidable p](hc:lk fr c=some (.bool (!decide p)))(h1:¬ p->RC P TT D n ro Q x ds fr L s)(h2:p->RC P TT D n ro Q y ds fr L s):RC P TT D n ro Q (.cond c x y) ds fr L s:=
 Ol hc (λhb=>h1 Q12) (λhb=>h2 Q12)
def S7{x y:Code}(hc:lk fr c=some (.bool (!b)))(h1:b=false->RC P TT D n ro Q x ds fr L s)(h2:b=true->RC P TT D n ro Q y ds fr L s):RC P TT D n ro Q (.cond c x y) ds fr L s:=
 Ol hc (λhb=>h1 Q12) (λhb=>h2 Q12)
def qE0{c:Operand}{x y:Code}(hc:lk fr c=some (.bool true))(h1:RC P TT D n ro Q x ds fr L s):RC P TT D n ro Q (.cond c x y) ds fr L s:=
 Ol hc (λ_=>h1) (λhb=>by cases hb)
def qpK{id:Nat}(h:RO P TT D n ro l.toArray Q l ds fr L s):RC P TT D n ro Q (.region id l.toArray false) ds fr L s:=
 λht a hr ho=>wpIn_region_lit (h ht a hr ho)
def qE4{ops:Array Oper}(h:Q .normal ds fr L s):RO P TT D n ro ops Q [] ds fr L s:=λ_ _ hr ho=>⟨ds,fr,L,s,hr,ho,rfl,h⟩
def qpJ{γ:Type}{c:Code}(S:γ->Fr)(H:γ->Hl)(I:γ->World->Prop)(μ:γ->Nat)(mono:∀ g s s',I g s->Le D s s'->I g s')(g0:γ)
  (hS:je fr (S g0)) (hL:L=H g0) (hI:I g0 s)
  (round:∀ g s,I g s->RC P TT D n ro (E3 (λwU jS L' s'=>wU=ds/\∃ g' A,je jS (S g')/\L'=A++H g'/\I g' s'/\μ g' < μ g) Q) c ds (S g) (H g) s) :
  RC P TT D n ro Q (.loop c) ds fr L s:=λht a hr ho=>by
 refine wpIn_loop_ghost (λm a w=>∃ g s,μ g=m/\vb ds n a (S g)/\jX D (H g) s/\w=fill (H g) s/\I g s) (μ g0) ⟨g0,s,Z,hr.sub hS,hL▸ho,hL▸Z,hI⟩ ?_;rintro m a w ⟨g,s,rfl,h1,h2,rfl,h4⟩;refine ft (round g s h4 ht a h1 h2) ?_;rintro e a' w' ⟨wU,jS,L',s',k1,k2,rfl,k4⟩;cases e with
 | normal=>
  obtain ⟨rfl,g',A,j1,rfl,j3,j4⟩:=k4;exact TF
 | _=>exact ⟨wU,jS,L',s',k1,k2,rfl,k4⟩
def qs2{γ:Type}{c:Code}(S:γ->Fr)(H:γ->Hl)(E:γ->List Deferred)(I:γ->World->Prop)(μ:γ->Nat)(mono:∀ g s s',I g s->Le D s s'->I g s')(g0:γ)
  (hS:je fr (S g0)) (hL:L=H g0) (hE:ds=E g0) (hI:I g0 s)
  (round:∀ g s,I g s->RC P TT D n ro (E3 (λwU jS L' s'=>∃ g' A,wU=E g'/\je jS (S g')/\L'=A++H g'/\I g' s'/\μ g' < μ g) Q) c (E g) (S g) (H g) s) :
  RC P TT D n ro Q (.loop c) ds fr L s:=λht a hr ho=>by
 subst hE;refine wpIn_loop_ghost (λm a w=>∃ g s,μ g=m/\vb (E g) n a (S g)/\jX D (H g) s/\w=fill (H g) s/\I g s) (μ g0) ⟨g0,s,Z,hr.sub hS,hL▸ho,hL▸Z,hI⟩ ?_;rintro m a w ⟨g,s,rfl,h1,h2,rfl,h4⟩;refine ft (round g s h4 ht a h1 h2) ?_;rintro e a' w' ⟨wU,jS,L',s',k1,k2,rfl,k4⟩;cases e with
 | normal=>
  obtain ⟨g',A,rfl,j1,rfl,j3,j4⟩:=k4;exact TF
 | _=>exact ⟨wU,jS,L',s',k1,k2,rfl,k4⟩
def NF{J:List Deferred->Fr->Hl->World->Prop}(h:J ds fr L s):E3 J Q .normal ds fr L s:=h
def qBR{J:List Deferred->Fr->Hl->World->Prop}(h:Q .ret ds fr L s):E3 J Q .ret ds fr L s:=h
def qBS{J:List Deferred->Fr->Hl->World->Prop}(h:Q (.exit i) ds fr L s):E3 J Q (.exit i) ds fr L s:=h
def qts{id:Nat}(h:Q .normal ds fr L s):EU id Q .normal ds fr L s:=h
def qtt{id:Nat}(h:Q .ret ds fr L s):EU id Q .ret ds fr L s:=h
def qtu{id:Nat}(h:Q .normal ds fr L s):EU id Q (.exit id) ds fr L s:=by simpa [EU] using h
end control
section ops
variable{TT:kG}{Q:wJ}{fr:Fr}{ops:Array Oper}{op:Op}
def Ks(lQ:∀ c,op≠.defer c)(hd:Nat.blt d n=true)(h:Ev P TT D fr op ty L s (.value v) L' s')(k:RO P TT D n ro ops Q iP ds ((d,v)::fr) L' s'):
  RO P TT D n ro ops Q (⟨some d,op,ty,iS,af,none⟩::iP) ds fr L s:=λht a hr ho=>by
 obtain ⟨h1,h2⟩:=h ht ho (some d) iS af none a.eval (λx v hx=>hr.ev hx);simp only [wpListIn,Region.wanted,bS];refine ⟨λf _=>Dp ro f,?_⟩;rw [fA _ _ _ lQ,h1,Oper.uponIn_value];exact k ht _ (hr.put hd v) h2
def qIp(lQ:∀ c,op≠.defer c)(h:Ev P TT D fr op ty L s .skip L' s')(k:RO P TT D n ro ops Q iP ds fr L' s'):
  RO P TT D n ro ops Q (⟨none,op,ty,iS,af,none⟩::iP) ds fr L s:=λht a hr ho=>by
 obtain ⟨h1,h2⟩:=h ht ho none iS af none a.eval (λx v hx=>hr.ev hx);simp only [wpListIn,Region.wanted,bS];refine ⟨λf _=>Dp ro f,?_⟩;rw [fA _ _ _ lQ,h1,Oper.uponIn_skip];exact k ht _ hr h2
def lM(h:QE P TT D fr op ty L s v)(hd:Nat.blt d n=true)(k:RO P TT D n ro ops Q iP ds ((d,v)::fr) L s)(lQ:∀ c,op≠.defer c:=by nofun):RO P TT D n ro ops Q (⟨some d,op,ty,iS,af,none⟩::iP) ds fr L s:=
 Ks lQ hd (λht ho dst iS af g ρ hρ=>⟨h ht dst iS af g ρ hρ L s ho (Le.refl _) (λ_ hx=>hx),ho⟩) k
def qzd{f:FuncId}{first captured:LVal9}{R:Value->Hl->World->Prop}(hx:lk fr x=some (.func (.func f) first.toArray captured.toArray))(hv:tN fr xs=some vs)
  (hd:Nat.blt d n=true) (h:AC P D f (first++vs++captured) L s R) (k:∀ v L' s',Le D s s'->R v L' s'->RO P TT D n ro ops Q iP ds ((d,v)::fr) L' s') :
  RO P TT D n ro ops Q (⟨some d,.call { callee:=.value x,args:=xs.toArray,argTypes:=ts },ty,iS,af,none⟩::iP) ds fr L s:=λhT a hr ho=>by
 obtain ⟨⟨fn,h1,h2,h3⟩,hc⟩:=h;have hρ:∀ x v,lk fr x=some v->a.eval x=v:=λx v hx=>hr.ev hx;simp only [wpListIn,Region.wanted,bS];refine ⟨λf _=>Dp ro f,?_⟩;have jO:(execOp a.eval ⟨some d,.call { callee:=.value x,args:=xs.toArray,argTypes:=ts },ty,iS,af,none⟩).run P (fill L s)=.ok (.enter f (first++vs++captured).toArray) (fill L s):=by
  exact E7
 rw [fA _ _ _ (by nofun),jO,Oper.uponIn_enter];refine ⟨MO ro 0,(RV ro (hc ho)).mono ?_⟩;exact TJ
def uO{f:FuncId}{R:Value->Hl->World->Prop}(hY:(lk fr x=some (.func (.func f) ([]:LVal9).toArray ([]:LVal9).toArray))/\tN fr xs=some vs/\Nat.blt d n=true) (h:AC P D f (([]:LVal9)++vs++[]) L s R) (k:∀ v L' s',Le D s s'->R v L' s'->RO P TT D n ro ops Q iP ds ((d,v)::fr) L' s') :
  RO P TT D n ro ops Q (⟨some d,.call { callee:=.value x,args:=xs.toArray,argTypes:=ts },ty,iS,af,none⟩::iP) ds fr L s:=have ⟨hx,hv,hd⟩:=hY;qzd (first:=[]) (captured:=[]) hx hv hd h k
def YC(P:Program)(D:Nat)(l:Nat)(args:LVal9)(L:Hl)(s:World)(R:Value->Hl->World->Prop):Prop:=
 jX D L s->∃ fn tmps assign body,(Instr.yield l args.toArray).run P (fill L s)=.ok (.round l fn tmps assign body) (fill L s) /\
  RoundIn Fence.wide 0 P l fn tmps assign body (fill L s) λe w'=>∃ v L' s',e=.returned v/\w'=fill L' s'/\jX D L' s'/\Le D s s'/\R v L' s'
def b_{l:Nat}{R:Value->Hl->World->Prop}(hx:lk fr x=some (.func (.yield l) #[] #[]))(hv:tN fr xs=some vs)
  (hd:Nat.blt d n=true) (h:YC P D l vs L s R) (k:∀ v L' s',Le D s s'->R v L' s'->RO P TT D n none ops Q iP ds ((d,v)::fr) L' s') :
  RO P TT D n none ops Q (⟨some d,.call { callee:=.value x,args:=xs.toArray,argTypes:=ts },ty,iS,af,none⟩::iP) ds fr L s:=λhT a hr ho=>by
 obtain ⟨fn,tmps,assign,body,hy,hR⟩:=h ho;have hρ:∀ x v,lk fr x=some v->a.eval x=v:=λx v hx=>hr.ev hx;simp only [wpListIn,Region.wanted,bS];refine ⟨λf _=>Dp none f,?_⟩;have jO:(execOp a.eval ⟨some d,.call { callee:=.value x,args:=xs.toArray,argTypes:=ts },ty,iS,af,none⟩).run P (fill L s)=.ok (.round l fn tmps assign body) (fill L s):=by
  simp [execOp,resolve,Deferred.ofValue,invoke,hρ x _ hx,SZ hρ hv,hy]
 rw [fA _ _ _ (by nofun),jO,Oper.uponIn_round];refine ⟨MO none 0,RoundIn.mono hR ?_⟩;exact TJ
def qs3{t:Nat}(ht:jH TT t=some ti)(hd:Nat.blt d n=true)
  (k:∀ β s',Le D s s'->RO P TT D n ro ops Q iP ds ((d,jc β)::fr) ((β,cb ti.J t)::L) s'):RO P TT D n ro ops Q (⟨some d,.alloc t,ty,iS,af,none⟩::iP) ds fr L s:=λhT a hr ho=>
 Ks (by nofun) hd (Nl ht ho) (k _ _ (pU ho (cb ti.J t)).2.2) hT a hr ho
def Bj{t:Nat}(ht:jH TT t=some ti)(zs:LVal9)(hz:ti.J=zs)(hd:Nat.blt d n=true)
  (k:∀ β s',Le D s s'->RO P TT D n ro ops Q iP ds ((d,jc β)::fr) ((β,cb zs t)::L) s'):RO P TT D n ro ops Q (⟨some d,.alloc t,ty,iS,af,none⟩::iP) ds fr L s:=by subst hz;exact qs3 ht hd k
def yh{t b:Nat}(i:Nat)(qX:LVal9)(hY:lk fr x=some (.pointer (some ⟨b,off,none⟩))/\lk fr y=some v/\L[i]?=some (b,cb zs t')/\jH TT t=some ti/\(mZ v).length=ti.size/\Nat.ble (off+ti.size) zs.length=true/\(mZ v).all (·.oneCell')=true/\oO zs off (mZ v)=qX/\lO L i (cb qX t')=L')
  (k:RO P TT D n ro ops Q iP ds fr L' s):RO P TT D n ro ops Q (⟨none,.store t x y,ty,iS,af,none⟩::iP) ds fr L s:=by
 obtain ⟨hx,hy,hi,ht,hl,ka,h1,hs,hL⟩:=hY
 subst hL;exact qIp (by nofun) (On i qX hx hy hi ht hl ka h1 hs) k
def qIm{t e len:Nat}(lx:List (Nat×Value))(vs:LVal9)(ht:jH TT t=some ti)(hk:ti.kind=.sl e)(he:jH TT e=some te)(hv:Be fr ps=some lx)(jA:Nat.ble (len * te.size) 16777216=true)(mC:Nat.blt 0 len=true)(hp:lx.all (λx=>Nat.blt x.1 len)=true)
  (hb:xM (zp te.size 0 len) (List.replicate len te.J).flatten lx=some vs) (hd:Nat.blt d n=true) (k:∀ β s',Le D s s'->iH s' β 0 vs->RO P TT D n ro ops Q iP ds ((d,.slice (j6 β) len len)::fr) L s') :
  RO P TT D n ro ops Q (⟨some d,.buildSlice t len ps.toArray,ty,iS,af,none⟩::iP) ds fr L s:=λhT a hr ho=>by
 obtain ⟨h1,h2,h3⟩:=pU ho (cb vs e);obtain ⟨d1,d2,d3⟩:=sK (A:=[(s.heap.size,cb vs e)]) (B:=L) h2;refine Ks (by nofun) (L':=L) (s':=fill [(s.heap.size,cb vs e)] (s.alloc (mA D))) hd (λhT _ dst iS af g ρ hρ=>⟨?_,d2⟩) (k _ _ (h3.trans d3) (Js h2)) hT a hr ho;exact Ov
def qE3{t e m c sz:Nat}{xs:LVal9}(B A L0:Hl)(hL:L=B++(A++L0))(hx:lk fr x=some v)(hy:lk fr y=some (.slice A1 m c))(ht:jH TT t=some ti)(hk:ti.kind=.sl e)(he:jH TT e=some te)(jA:te.size=sz)
  (hO:Own e sz A v k xs) (hR:Row s A1 m sz news) (qZ:(k+m) * te.bytes<=140737488355328/\k+m<=9223372036854775807) (hd:Nat.blt d n=true)
  (kk:∀ v' A' s',Le D s s'->Own e sz A' v' (k+m) (xs++news)->RO P TT D n ro ops Q iP ds ((d,v')::fr) (B++(A'++L0)) s') :
  RO P TT D n ro ops Q (⟨some d,.call { callee:=.builtin .append,args:=#[x,y],argTypes:=#[t,t] },ty,iS,af,none⟩::iP) ds fr L s:=λhT a hr ho=>by
 subst hL;obtain ⟨v',A',s',h1,h2,h3⟩:=S9 (ty:=ty) B A L0 hT hx hy ht hk he jA hO hR qZ ho;exact Ks (by nofun) hd h1 (kk v' A' s' h2 h3) hT a hr ho
def qIo{t:Nat}(hj:vF ops j=some t)(hv:kO fr t=some (.bool w))
  (k:RO P TT D n ro ops Q (⟨dst,op,ty,iS,af,none⟩::iP) ds fr L s):RO P TT D n ro ops Q (⟨dst,op,ty,iS,af,some (j,w)⟩::iP) ds fr L s:=λht a hr ho=>by
 have k1:=k ht a hr ho;have hy:yielded ops a.tmps j=some w:=by
  have h1:=hr.rel.slot t (hr.rel.ai _ _ hv) _ hv;unfold vF at hj;simp [yielded,hj,h1]
 simp only [wpListIn,Region.wanted,bS] at k1;simp only [wpListIn,Region.wanted,hy,beq_self_eq_true,bS];exact k1
def qIn{t:Nat}{b:Bool}(hd:Nat.blt d n=true)(hj:vF ops j=some t)(hv:kO fr t=some (.bool b))(hb:(b != w)=true)
  (k:RO P TT D n ro ops Q iP ds ((d,undef)::fr) L s):RO P TT D n ro ops Q (⟨some d,op,ty,iS,af,some (j,w)⟩::iP) ds fr L s:=λht a hr ho=>by
 have hy:yielded ops a.tmps j=some b:=by
  have h1:=hr.rel.slot t (hr.rel.ai _ _ hv) _ hv;unfold vF at hj;simp [yielded,hj,h1]
 have mB:(some b == some w)=false:=by cases b<;>cases w<;>simp_all
 simp only [wpListIn,Region.wanted,hy,mB,dr,cm];exact ⟨λf _=>Dp ro f,k ht _ (hr.put hd undef) ho⟩
def qze(hv:kO fr t=some (.bool b))(h1:b=true->RO P TT D n ro ops Q l ds ((t,.bool true)::fr) L s)(h2:b=false->RO P TT D n ro ops Q l ds ((t,.bool false)::fr) L s):
  RO P TT D n ro ops Q l ds fr L s:=λht a hr ho=>by
 exact Il
def Nm(hv:kO fr t=some (.bool (!b)))(h1:b=false->RO P TT D n ro ops Q l ds ((t,.bool true)::fr) L s)(h2:b=true->RO P TT D n ro ops Q l ds ((t,.bool false)::fr) L s):
  RO P TT D n ro ops Q l ds fr L s:=qze hv (λh=>h1 Q4) (λh=>h2 Q4)
end ops
section anyorder
variable{TT:kG}{Q:wJ}{fr:Fr}{ops:Array Oper}{op:Op}{iK:Array Bool}
end anyorder
section calls
variable{TT:kG}{Q:wJ}{fr:Fr}
def Bt(b:Nat):Deferred:={ target:=.collected b,args:=#[] }
abbrev E4(b:Nat):Nat×Obj:=(b,Obj.deferred (some []))
def Ky(TT:kG)(D:Nat)(rs:List ResultVar)(s0:World)(R:Value->Hl->World->Prop):wJ:=λe ds fr L s=>
 (e=.normal\/e=.ret)/\∃ vs A L',ql TT fr L rs vs/\L=A++L'/\Le D s0 s/\(∀ s',Le D s s'->R (kB vs) L' s')/\(∃ bs:List Nat,ds=bs.map Bt/\(bs.map E4).Sublist A)
def ql.set{fr:Fr}(hL:∀ (i:Nat) b zs t,L[i]?=some (b,cb zs t)->L'[i]?=some (b,cb zs t))(h:ql TT fr L rs vs):ql TT fr L' rs vs:=by
 induction h with
 | nil=>exact .nil
 | tmp h _ ih=>exact .tmp h ih
 | one i h hi ht hk hv _ ih=>exact .one i h (hL _ _ _ _ hi) ht hk hv ih
 | agg i h hi ht hk hv _ ih=>exact .agg i h (hL _ _ _ _ hi) ht hk hv ih
def I_(L:Hl)(i j:Nat)(h:i≠j):(lO L i o)[j]?=L[j]?:=by
 induction L generalizing i j with
 | nil=>cases i<;>rfl
 | cons x L ih=>
  cases i with
  | zero=>cases j with
   | zero=>exact absurd rfl h
   | succ j=>rfl
  | succ i=>cases j with
   | zero=>rfl
   | succ j=>simp only [lO,bH];exact ih i j O
def Su{A:Hl}{i:Nat}(h:i < A.length):lO (A++L') i o=lO A i o++L':=by
 induction A generalizing i with
 | nil=>cases h
 | cons x A ih=>
  cases i with
  | zero=>rfl
  | succ i=>simp only [ao,lO];rw [ih Q4]
def Rt(w:World)(b:Nat)(o:Obj):w.putObj b o=oX w b o:=rfl
def WO{p:Prop} (h:p:=by
 rw [eS];simp only [gH,bA,h1,aP,bG]):p:=h
def Wk{p:Prop} (h:p:=by
 rw [RD];simp only [bA,h2,aP,bG];congr 1;match vs with
 | []=>rfl
 | [v]=>rfl
 | v::u::r=>simp [kB]):p:=h
def HT{p:Prop} (h:p:=by
  refine ⟨⟨by simp [hnt];omega,Z,λt ht v hv=>?_,λt v hv=>?_⟩,Z⟩
  . rw [MM] at hv
    simp at hv;obtain ⟨lm,_⟩:=al.1 hv;simp [ib,lm];exact (al.1 hv).2
  . rw [MM] at hv
    simp at hv;obtain ⟨lm,_⟩:=al.1 hv;omega):p:=h
def Jv{f:FuncId}{c:Code}{args:LVal9}{R:Value->Hl->World->Prop}(hT:jZ P TT)(hf:P.funcs[f]?=some fn)(hn:(fn.name == "runtime.NumGoroutine")=false)(hb:fn.body=some c)(hnt:fn.ntmps=n)(ka:Nat.ble args.length n=true)(zM:fn.results.toList=rs)(xP:Fr)(ou:nj 0 args=xP)
    (h:RC P TT D n none (Ky TT D rs s R) c [] xP L s):AC P D f args L s R:=by
  subst ou;subst zM;refine ⟨⟨fn,hf,hn,by simp [hb]⟩,λho=>(iA (n:=0)).1 (callsIn_of_wp_marks hf hb Tt ?_)⟩;have hle':args.length<=n:=bE ka;have hr:vb [] n { tmps:=args.toArray++Array.replicate (fn.ntmps - args.toArray.size) undef,defers:=[] } (nj 0 args):=by
    exact HT
  refine ft (h hT _ hr ho) ?_;rintro e a w ⟨ds,jS,L1,s1,k1,k2,rfl,he,vs,A,L',hres,rfl,hle1,hR,ww⟩;have fin:∀ (A2:Hl),jX D (A2++L') s1->ql TT jS (A2++L') fn.results.toList vs->LeavesIn Fence.wide 0 P fn a.tmps (λe w'=>∃ v L' s',e=.returned v/\w'=fill L' s'/\jX D L' s'/\Le D s s'/\R v L' s') [] .returning (fill (A2++L') s1):=λA2 mR hres2=>by
    obtain ⟨d1,d2,d3⟩:=sK mR;have jO:(results fn a.tmps).run P (fill (A2++L') s1)=.ok (kB vs) (fill (A2++L') s1):=by
      have h1:=ql.run hT k1.rel mR hres2;have h2:(fn.results.mapM (DL a.tmps)).run P (fill (A2++L') s1)=.ok vs.toArray (fill (A2++L') s1):=by
        exact WO
      exact Wk
    exact ⟨_,jO,_,L',fill A2 s1,rfl,d1,d2,hle1.trans d3,hR _ d3⟩
  have key:∀ (bs:List Nat),bs.Nodup->∀ (A2:Hl),(∀ b∈bs,(b,Obj.deferred (some []))∈A2)->jX D (A2++L') s1->ql TT jS (A2++L') fn.results.toList vs->LeavesInM Fence.wide 0 P fn a.tmps (λe w'=>∃ v L' s',e=.returned v/\w'=fill L' s'/\jX D L' s'/\Le D s s'/\R v L' s') (bs.map Bt) .returning (fill (A2++L') s1):=by
    intro bs;induction bs with
    | nil=>intro _ A2 _ k2 hres;exact fin A2 k2 hres
    | cons b bs ih=>
      intro lQ A2 rV k2 hres;obtain ⟨i,hi,hie⟩:=fP (rV b Mc);have AU:(A2++L')[i]?=some (b,Obj.deferred (some [])):=by rw [aR hi,ax hi,hie]
      have hw:(fill (A2++L') s1).heap[b]?=some (.deferred (some [])):=qc k2 (ay AU);refine ⟨(λh=>by cases h),.inl ⟨b,_,Z,run_takeDeferred hw,?_⟩⟩;rw [Rt,<- Da k2 AU,Su hi];have mR:=Do k2 i (Obj.deferred none);rw [Su hi] at mR;refine ih (dv.1 lQ).2 (lO A2 i (.deferred none)) (λc hc=>?_) mR (ql.set (λj c zs t hj=>?_) hres)
      . have mB:b≠c:=λe=>(dv.1 lQ).1 (e▸hc)
        obtain ⟨j,hj,hje⟩:=fP (rV c (aq _ hc));have hij:i≠j:=λe=>by subst e;rw [hie] at hje;injection hje with h1 _;exact mB h1
        exact ay (i:=j) (by rw [I_ _ _ _ hij,ax hj,hje])
      . rw [<- Su hi,I_ _ _ _ (λe=>by subst e;rw [AU] at hj;cases hj)]
        exact hj
  obtain ⟨bs,rfl,hsub⟩:=ww;have rV:∀ b∈bs,(b,Obj.deferred (some []))∈A:=λb hb=>hsub.subset (List.mem_map_of_mem hb);have lQ:bs.Nodup:=by
    have h1:(A.map (·.1)).Nodup:=by have:=k2.nd;rw [bR] at this;exact (bL.1 this).1
    have h2:=(hsub.map (·.1)).nodup h1
    rwa [fU,show ((λx:Nat×Obj=>x.1) ∘ E4)=id from rfl,List.map_id] at h2
  have key:=key bs lQ A rV k2 hres;rw [<- k1.defers] at key;rcases he with rfl|rfl
  . exact key
  . exact key
def y8{R:Value->Hl->World->Prop}{e:Exit}(A L':Hl)(he:e=.normal\/e=.ret)(h:ql TT fr L rs vs)(hL:L=A++L')(hl:Le D s0 s)(ww:∃ bs:List Nat,ds=bs.map Bt/\(bs.map E4).Sublist A)(hR:∀ s',Le D s s'->R (kB vs) L' s'):Ky TT D rs s0 R e ds fr L s:=
 ⟨he,vs,A,L',h,hL,hl,hR,ww⟩
def Es:Exit->Option (Option Code)
 | .normal=>some none
 | .ret=>some (some .ret)
 | .exit id=>some (some (.exit id))
 | _=>none
def qFY:Option Code->Exit
 | none=>.normal
 | some .ret=>.ret
 | some (.exit id)=>.exit id
 | _=>.normal
def qx9(fr:Fr)(ps:List Nat)(vs:LVal9):Fr:=(ps.zip vs).foldl (λfr x=>(x.1,x.2)::fr) fr
def qo3(n:Nat):∀ (l:List (Nat×Value)) (fr:Fr) (a:Act),jE n { a with defers:=[] } fr->l.all (λx=>Nat.blt x.1 n)=true ->
  jE n { tmps:=l.foldl (λtmps x=>tmps.setIfInBounds x.1 x.2) a.tmps,defers:=[] } (l.foldl (λfr x=>(x.1,x.2)::fr) fr):=by
 intro l;induction l with
 | nil=>intro fr a h _;exact h
 | cons x l ih=>
  intro fr a h hl;simp only [eb,aA] at hl;exact ih _ { a with tmps:=a.tmps.setIfInBounds x.1 x.2 } (h.put hl.1 x.2) hl.2
section range
variable{σ α:Type}(H:σ->Hl)(I:σ->World->Prop)(iZ:σ->Option Code)(St:σ->α->σ->Prop)(enc:α->LVal9)(Pre:σ->α->World->Prop)(Fin:σ->Prop)
end range
end calls
section
variable{TT:kG}{Q:wJ}{fr:Fr}{ops:Array Oper}
def mc(hY:lk fr x=some v/\Nat.blt d n=true)(k:RO P TT D n ro ops Q iP ds ((d,v)::fr) L s):RO P TT D n ro ops Q (⟨some d,.move x,ty,iS,af,none⟩::iP) ds fr L s:=have ⟨hx,hd⟩:=hY;lM (EC hx) hd k
def wS(hx:lk fr x=some v)(hd:Nat.blt d n=true)(k:RO P TT D n ro ops Q iP ds ((d,v)::fr) L s):RO P TT D n ro ops Q (⟨some d,.assign x,ty,iS,af,none⟩::iP) ds fr L s:=lM (MF hx) hd k
def Va(hx:lk fr x=some (.tuple vs.toArray))(hi:nth vs i=some v)(hd:Nat.blt d n=true)(k:RO P TT D n ro ops Q iP ds ((d,v)::fr) L s):RO P TT D n ro ops Q (⟨some d,.extract x i,ty,iS,af,none⟩::iP) ds fr L s:=lM (Rl hx hi) hd k
def U9(hc:lk fr c=some (.bool true))(hx:lk fr x=some v)(hd:Nat.blt d n=true)(k:RO P TT D n ro ops Q iP ds ((d,v)::fr) L s):RO P TT D n ro ops Q (⟨some d,.pick c x y,ty,iS,af,none⟩::iP) ds fr L s:=lM (FD hc hx) hd k
def Py(hc:lk fr c=some (.bool false))(hx:lk fr y=some v)(hd:Nat.blt d n=true)(k:RO P TT D n ro ops Q iP ds ((d,v)::fr) L s):RO P TT D n ro ops Q (⟨some d,.pick c x y,ty,iS,af,none⟩::iP) ds fr L s:=lM (Ro hc hx) hd k
def IT{b:Int}(hx:lk fr x=some (.int ik a))(hy:lk fr y=some (.int ik b))(hd:Nat.blt d n=true)(k:RO P TT D n ro ops Q iP ds ((d,.bool (decide (a=b)))::fr) L s):RO P TT D n ro ops Q (⟨some d,.binOp .eql t x y t',ty,iS,af,none⟩::iP) ds fr L s:=lM (pW hx hy) hd k
def IU{b:Int}(hx:lk fr x=some (.int ik a))(hy:lk fr y=some (.int ik b))(hd:Nat.blt d n=true)(k:RO P TT D n ro ops Q iP ds ((d,.bool (!decide (a=b)))::fr) L s):RO P TT D n ro ops Q (⟨some d,.binOp .neq t x y t',ty,iS,af,none⟩::iP) ds fr L s:=lM (qM hx hy) hd k
def QX{b:Int}(hx:lk fr x=some (.int ik a))(hy:lk fr y=some (.int ik b))(hd:Nat.blt d n=true)(k:RO P TT D n ro ops Q iP ds ((d,.bool (decide (a < b)))::fr) L s):RO P TT D n ro ops Q (⟨some d,.binOp .lss t x y t',ty,iS,af,none⟩::iP) ds fr L s:=lM (qK hx hy) hd k
def Fa(hx:lk fr x=some (.bool b))(hd:Nat.blt d n=true)(k:RO P TT D n ro ops Q iP ds ((d,.bool (!b))::fr) L s):RO P TT D n ro ops Q (⟨some d,.unOp .not t x,ty,iS,af,none⟩::iP) ds fr L s:=lM (NT hx) hd k
def Mh{m c:Nat}{e:Nat}(hx:lk fr x=some (.slice A m c))(ht:jH TT t=some ti)(hk:ti.kind=.sl e)(hd:Nat.blt d n=true)(k:RO P TT D n ro ops Q iP ds ((d,iJ (m:Int))::fr) L s):RO P TT D n ro ops Q (⟨some d,.call { callee:=.builtin .len,args:=#[x],argTypes:=#[t] },ty,iS,af,none⟩::iP) ds fr L s:=lM (Ri hx ht hk) hd k
def Fz{a:Addr}(hx:lk fr x=some (.pointer (some a)))(hd:Nat.blt d n=true)(k:RO P TT D n ro ops Q iP ds ((d,.pointer (some a))::fr) L s):RO P TT D n ro ops Q (⟨some d,.nilCheck x,ty,iS,af,none⟩::iP) ds fr L s:=lM (Rh hx) hd k
def Me{f b:Nat}(hx:lk fr x=some (.pointer (some ⟨b,off,none⟩)))(ht:jH TT t=some ti)(hk:ti.kind=.st os)(hf:xH os f=some 0)(hd:Nat.blt d n=true)(k:RO P TT D n ro ops Q iP ds ((d,.pointer (some ⟨b,off,none⟩))::fr) L s):RO P TT D n ro ops Q (⟨some d,.fieldAddr t x f,ty,iS,af,none⟩::iP) ds fr L s:=lM (Rf hx ht hk hf) hd k
def QW{f fo b:Nat}(hx:lk fr x=some (jc b))(ht:jH TT t=some ti)(hk:ti.kind=.st os)(hf:xH os f=some fo)(hd:Nat.blt d n=true)(k:RO P TT D n ro ops Q iP ds ((d,.pointer (some ⟨b,fo,none⟩))::fr) L s):RO P TT D n ro ops Q (⟨some d,.fieldAddr t x f,ty,iS,af,none⟩::iP) ds fr L s:=lM (S4 hx ht hk hf) hd k
def Cr{b:Nat}(i:Nat)(hY:lk fr x=some (.pointer (some ⟨b,off,none⟩))/\L[i]?=some (b,cb zs t')/\jH TT t=some ti/\uC ti.kind=true/\nth zs off=some v/\Nat.blt d n=true)(k:RO P TT D n ro ops Q iP ds ((d,v)::fr) L s):RO P TT D n ro ops Q (⟨some d,.load t x,ty,iS,af,none⟩::iP) ds fr L s:=have ⟨hx,hi,ht,hk,hv,hd⟩:=hY;lM (rj i ⟨hx,hi,ht,hk⟩ hv) hd k
def Om{b c:Int}(hx:lk fr x=some (.int ik a))(hy:lk fr y=some (.int ik b))(hd:Nat.blt d n=true)(hc:ik.wrap (a+b)=c)(k:RO P TT D n ro ops Q iP ds ((d,.int ik c)::fr) L s):RO P TT D n ro ops Q (⟨some d,.binOp .add t x y t',ty,iS,af,none⟩::iP) ds fr L s:=lM (nD hx hy hc) hd k
end
abbrev Ys:=@qE2
abbrev Yr:=@qpK
abbrev Yn:=@qE4
abbrev Yt:=@NF
abbrev Yu:=@qBR
abbrev Yv:=@qBS
abbrev Yb:=@qts
abbrev Yc:=@qtt
abbrev Yd:=@qtu
abbrev Yk:=@qzc
abbrev Yl:=@qza
abbrev Yo:=@qE1
abbrev Yp:=@qs0
abbrev Yy:=@qE0
abbrev Yg:=@qIo
abbrev Yf:=@qIn
end
variable{Q:wJ}
section
attribute [local irreducible] JC JO JA JB lZ mF mM AC fill iH QE Ev mq
variable(D:Nat)(L:Hl)(s:World){lp:Nat}
def sT(s:World):Nd->Value->Prop
 | .st x lp,v=>∃ b o A1 n1 c1 A2 n2 c2 A3 n3 c3,v=.agg #[.pointer (some ⟨b,o,none⟩),.pointer none,iJ (lp:Int)]/\iH s b o [iJ x.kind,St x.name,.slice A1 n1 c1,.slice A2 n2 c2,.slice A3 n3 c3]/\n1=x.exprs.length
 | .ex x lp,v=>∃ b o A n c,v=.agg #[.pointer none,.pointer (some ⟨b,o,none⟩),iJ (lp:Int)]/\iH s b o [iJ x.kind,iJ x.op,iO x.num,St x.name,.slice A n c]/\n=x.args.length
def sT.mkE{s:World}{x:Ex}{o c:Nat}(h:iH s b o [iJ x.kind,iJ x.op,iO x.num,St x.name,.slice A n c])(hn:n=x.args.length):sT s (.ex x lp) (.agg #[.pointer none,.pointer (some ⟨b,o,none⟩),iJ (lp:Int)]):=⟨b,o,A,n,c,rfl,h,hn⟩
def sT.mkS{s:World}{x:jb}{o n1 c1 n2 c2 n3 c3:Nat}(h:iH s b o [iJ x.kind,St x.name,.slice A1 n1 c1,.slice A2 n2 c2,.slice A3 n3 c3])(hn:n1=x.exprs.length):sT s (.st x lp) (.agg #[.pointer (some ⟨b,o,none⟩),.pointer none,iJ (lp:Int)]):=⟨b,o,A1,n1,c1,A2,n2,c2,A3,n3,c3,rfl,h,hn⟩
def sS{σ:Type}(iZ:σ->Option Code)(St:σ->Nd->σ->Prop):σ->List Nd->σ->Prop
 | g,[],g'=>g'=g
 | g,p::r,g'=>∃ g1,St g p g1/\if (iZ g1).isNone=true then sS iZ St g1 r g' else g'=g1
def JM{σ:Type}{iZ:σ->Option Code}{St:σ->Nd->σ->Prop}{b:List Nd}:∀ {a:List Nd} {g g1 g':σ},iZ g=none->sS iZ St g a g1->((iZ g1).isNone=true->sS iZ St g1 b g')->((iZ g1).isNone=false->g'=g1)->sS iZ St g (a++b) g'
  | [],g,g1,g',hp,h,h1,_=>by
    have h:g1=g:=h;subst h;exact h1 (by rw [hp];rfl)
  | p::r,g,g1,g',_,⟨g2,k1,k2⟩,h1,h2=>by
    refine ⟨g2,k1,?_⟩;by_cases h3:(iZ g2).isNone=true
    . rw [aw h3] at k2 ⊢
      exact JM (bD.1 h3) k2 h1 h2
    . rw [am h3] at k2 ⊢
      subst k2;exact h2 (eD.2 h3)
def Cx{σ:Type}{iZ:σ->Option Code}{St:σ->Nd->σ->Prop}{mO:σ->Nat}(ot:∀ g nd g1,St g nd g1->mO g1<=mO g+1):∀ {l:List Nd} {g g':σ},sS iZ St g l g'->mO g'<=mO g+l.length
  | [],g,g',h=>by
    have h:g'=g:=h;subst h;simp
  | p::r,g,g',⟨g1,h1,h2⟩=>by
    have e1:=ot _ _ _ h1;by_cases h3:(iZ g1).isNone=true
    . rw [aw h3] at h2
      have e2:=Cx ot h2;rw [au];omega
    . rw [am h3] at h2
      subst h2;rw [au];omega
def NI{l:List Ex}{x:Ex}(h:l[k]?=some x):pM (l.drop k) lp=.ex x lp::(pM x.args lp++pM (l.drop (k+1)) lp):=by
 obtain ⟨hk,rfl⟩:=al.1 h;rw [aL hk,pM];cases l[k] with
 | mk a b c d e=>rfl
def U0(D d:Nat):Prop:=∀ (s:World) (σ:Type) (H:σ->Hl) (I:σ->World->Prop) (iZ:σ->Option Code) (St:σ->Nd->σ->Prop) (l:Nat) (g0:σ) (mO:σ->Nat) (B:Nat),(∀ g nd g1,St g nd g1->mO g1<=mO g+1)->(∀ g s s',I g s->Le D s s'->I g s')->(∀ g nd nv s',Le D s s'->I g s'->iZ g=none->mO g < B->sT s' nd nv->YC prog D l [nv] (H g) s' λv L' s3=>∃ g1,St g nd g1/\v=.bool (iZ g1).isNone/\L'=H g1/\I g1 s3)->I g0 s->iZ g0=none->∀ (A:OAdr9) (n c:Nat) (xs:List Ex) (lp:Nat),j9 d s A n c xs->mO g0+(pM xs lp).length<=B->Ap9 D 141 [.slice A n c,iJ (lp:Int),.func (.yield l) #[] #[]] (H g0) s λv L' s3=>∃ g',sS iZ St g0 (pM xs lp) g'/\v=.bool (iZ g').isNone/\L'=H g'/\I g' s3
def Ii{p:Prop} (h:p:=by
 refine Yl<|Yv<|Yv<|Yd<|Yt<|Ys<|Yr<|wS Z Z<|Yn<|Yt<|Yo<|?_;refine y8 [] _ (.inr Z) (.t1 Z) Z I1.1 ⟨[],Z,cZ _⟩ λ_ iL=>?_;exact ⟨g,jO g rfl,by rw [hpg];rfl,rfl,mono _ _ _ hIg Lc⟩):p:=h
def qq0{D:Nat}(d:Nat)(ih:∀ e,d=e+1->U0 D e)(s:World)(σ:Type)(H:σ->Hl)(I:σ->World->Prop)(iZ:σ->Option Code)(St:σ->Nd->σ->Prop)(l:Nat)(g0:σ)(mO:σ->Nat)(B:Nat)(ot:∀ g nd g1,St g nd g1->mO g1<=mO g+1)(mono:∀ g s s',I g s->Le D s s'->I g s')(hY:∀ g nd nv s',Le D s s'->I g s'->iZ g=none->mO g < B->sT s' nd nv->YC prog D l [nv] (H g) s' λv L' s3=>∃ g1,St g nd g1/\v=.bool (iZ g1).isNone/\L'=H g1/\I g1 s3)(hI:I g0 s)(hp:iZ g0=none)(A:OAdr9)(n c:Nat)(xs:List Ex)(lp:Nat)(hA:j9 d s A n c xs)(yL:mO g0+(pM xs lp).length<=B):Ap9 D 141 [.slice A n c,iJ (lp:Int),.func (.yield l) #[] #[]] (H g0) s λv L' s3=>∃ g',sS iZ St g0 (pM xs lp) g'/\v=.bool (iZ g').isNone/\L'=H g'/\I g' s3:=by
 have hn:=hA.1;have mX:=hA.2.1;have oR:=hA.2.2.1;refine Jv (fn:=f141) jl func141 V Z ntmps141 Z (rs:=[.tmp 6]) Z [(0,_),(1,_),(2,_)] Z<|Ys<|Yr<|wS Z Z<|Yn<|Yt<|Ys<|Ys<|Yr<|mc Y2<|Mh Z Z Z Z<|mc Y2<|Yn<|Yt<|Yp<|?_;refine qpJ (γ:=σ×Nat) (λg=>[(0,_),(1,_),(2,_),(6,_),(9,_),(10,iJ (g.2:Int))]) (λg=>H g.1) (λg tw=>Le D s tw/\(g.2<=n/\I g.1 tw/\iZ g.1=none/\mO g.1+(pM (xs.drop g.2) lp).length<=B/\(∀ g',sS iZ St g.1 (pM (xs.drop g.2) lp) g'->sS iZ St g0 (pM xs lp) g'))) (λg=>n - g.2) (λ_ _ _ h hl=>⟨h.1.trans hl,⟨h.2.1,mono _ _ _ h.2.2.1 hl,h.2.2.2⟩⟩) (g0,0) (.c6 Z Z Z Z Z Z (.nil _)) Z ⟨Le.refl _,⟨aB _,mono _ _ _ hI (Lr D),hp,yL,λg' h=>h⟩⟩ ?_;intro g s1 I1;obtain ⟨g,k⟩:=g;obtain ⟨kh,hIg,hpg,hbn,jO⟩:=I1.2;simp only at kh hIg hpg hbn jO;dsimp only;refine Ys<|Yr<|QX Z Z Z<|Yn<|Yt<|Ys<|?_;refine Kl Z ?_ ?_<;>intro c2
 .have hk:k < n:=by omega
  obtain ⟨e,b,off,x,A',n',c',hd,rfl,hx,hcx,hax,oh,kK⟩:=j9.at_ Pz hk;have hn':=hax.1;rw [NI hx,au,ac] at hbn;refine Yk<|Yt<|Ys<|Yp<|Ys<|Yr<|mc Y2<|wS Z Z<|Yn<|Yt<|Ys<|Yr<|mc Y2<|mc Y2<|mc Y2<|lM (jR Y6 hk) Z<|mc Y2<|lM (jC [(_,_),(_,_)] [_,_,_] Y3 Z Z Z) Z<|b_ Z Z Z (hY g (.ex x lp) _ _ I1.1 (mono _ _ _ hIg (Lr D)) hpg O (sT.mkE Pz hn')) ?_;rintro _ _ s3 h3 ⟨g1,mY,rfl,rfl,hIn⟩;refine Fa Z Z<|mc Y2<|?_;refine Nm (t:=21) Z ?_ ?_<;>intro c4;.refine Yf Z Z Z Z<|Yf Z Z Z Z<|Yf Z Z Z Z<|Yf Z Z Z Z<|Yf Z Z Z Z<|Yf Z Z Z Z<|Yf Z Z Z Z<|Yf Z Z Z Z<|Yf Z Z Z Z<|U9 Z Z Z<|Yn<|Yt<|Yy Z ?_;have ri:=trivial;refine X15 ?_;refine y8 [] _ (.inr Z) (.t1 Z) Z Lc ⟨[],Z,cZ _⟩ λ_ iL=>?_;exact ⟨g1,jO g1 (by rw [NI hx];exact ⟨g1,mY,by rw [am (by simp only [*];decide)]⟩),by simp only [*];rfl,rfl,mono _ _ _ hIn Lc⟩
  refine Yg Z Z<|mc Y2<|Yg Z Z<|mc Y2<|Yg Z Z<|lM (jR Y6 hk) Z<|Yg Z Z<|lM (pu Y4) Z<|Yg Z Z<|lM (nh 4 Y3 Pz Z) Z<|Yg Z Z<|mc Y2<|Yg Z Z<|mc Y2<|Yg Z Z<|uO Y3 (ih e hd _ σ H I iZ St l g1 mO B ot mono (λg nd nv s9 hl=>hY g nd nv s9 Lc) (mono _ _ _ hIn (Lr D)) (bD.1 As) A' n' c' x.args lp Pz (by have e1:=ot _ _ _ mY;omega)) ?_;rintro _ _ s5 h5 ⟨g2,hrn,rfl,rfl,hIn2⟩;refine Yg Z Z<|Fa Z Z<|Py Z Z Z<|Yn<|Yt<|?_;refine S7 Z ?_ ?_<;>intro c6;.have ri:=c6;refine X15 ?_;refine y8 [] _ (.inr Z) (.t1 Z) Z Lc ⟨[],Z,cZ _⟩ λ_ iL=>?_;exact ⟨g2,jO g2 (by rw [NI hx];exact ⟨g1,mY,by rw [aw As];exact JM (bD.1 As) hrn (λh9=>by rw [ri] at h9;cases h9) (λ_=>rfl)⟩),by rw [ri];rfl,rfl,mono _ _ _ hIn2 Lc⟩
  have ri:=c6;refine Yk<|Yb<|Yt<|Yr<|Om Z Z Z (jB O O)<|mc Y2<|Yn<|?_;refine NF ⟨Z,(g2,k+1),[],(.c6 Z Z Z Z Z Z (.nil _)),Z,⟨Lc,⟨by simp only;omega,mono _ _ _ hIn2 (Lr D),bD.1 ri,by have e1:=ot _ _ _ mY;have e2:=Cx ot hrn;simp only;omega,λg' h=>jO g' (by rw [NI hx];exact ⟨g1,mY,by rw [aw As];exact JM (bD.1 As) hrn (λ_=>h) (λh9=>by rw [ri] at h9;cases h9)⟩)⟩⟩,Oz⟩
 rw [aK O,pM] at jO;exact Ii
def Vj{D:Nat}:∀ d,U0 D d
 | 0=>λs σ H I iZ St l g0 mO B ot mono hY hI hp A n c xs lp hA yL=>qq0 0 (λe h=>by omega) s σ H I iZ St l g0 mO B ot mono hY hI hp A n c xs lp hA yL
 | d+1=>λs σ H I iZ St l g0 mO B ot mono hY hI hp A n c xs lp hA yL=>qq0 (d+1) (λe h=>(show d=e by omega)▸Vj d) s σ H I iZ St l g0 mO B ot mono hY hI hp A n c xs lp hA yL
section
variable{σ:Type}{iZ:σ->Option Code}{St:σ->Nd->σ->Prop}{a b:List Nd}{g g1 g':σ}
def JF(hp:(iZ g).isNone=true)(h:sS iZ St g a g1)(h1:(iZ g1).isNone=false):sS iZ St g (a++b) g1:=JM (bD.1 hp) h (λh9=>by rw [h1] at h9;cases h9) λ_=>rfl
def F7(hp:(iZ g).isNone=true)(h:sS iZ St g a g1)(h1:(iZ g1).isNone=true)(k:sS iZ St g1 b g'):sS iZ St g (a++b) g':=JM (bD.1 hp) h (λ_=>k) λh9=>by rw [h1] at h9;cases h9
end
def Bh(x:jb)(lp:Nat):Nat:=if x.kind=4 then lp+1 else lp
def F5{l:List jb}{x:jb}(h:l[k]?=some x):lI (l.drop k) lp=.st x lp::((pM x.exprs lp++(lI x.body (Bh x lp)++lI x.els (Bh x lp)))++lI (l.drop (k+1)) lp):=by
 obtain ⟨hk,rfl⟩:=al.1 h;rw [aL hk,lI];cases l[k] with
 | mk a b c d e=>rfl
def UZ(D d:Nat):Prop:=∀ (s:World) (σ:Type) (H:σ->Hl) (I:σ->World->Prop) (iZ:σ->Option Code) (St:σ->Nd->σ->Prop) (l:Nat) (g0:σ) (mO:σ->Nat) (B:Nat),(∀ g nd g1,St g nd g1->mO g1<=mO g+1)->(∀ g s s',I g s->Le D s s'->I g s')->(∀ g nd nv s',Le D s s'->I g s'->iZ g=none->mO g < B->sT s' nd nv->YC prog D l [nv] (H g) s' λv L' s3=>∃ g1,St g nd g1/\v=.bool (iZ g1).isNone/\L'=H g1/\I g1 s3)->I g0 s->iZ g0=none->∀ (A:OAdr9) (n c:Nat) (xs:List jb) (lp lv:Nat),jz d s A n c xs->nT xs lv=true->lp<=lv->mO g0+(lI xs lp).length<=B->Ap9 D 97 [.slice A n c,iJ (lp:Int),.func (.yield l) #[] #[]] (H g0) s λv L' s3=>∃ g',sS iZ St g0 (lI xs lp) g'/\v=.bool (iZ g').isNone/\L'=H g'/\I g' s3
def Pb{p:Prop} (h:p:=by
 exact ⟨g3,jO g3 (by rw [F5 hx];exact ⟨g1,mY,by rw [aw As];exact JF As (F7 As tM As (JF As hr3 As)) As⟩),(show kB [Value.bool false]=.bool (iZ g3).isNone by rw [show (iZ g3).isNone=false by assumption];rfl),rfl,mono _ _ _ hI3 Lc⟩):p:=h
def Pc{p:Prop} (h:p:=by
 exact ⟨g4,jO g4 (by rw [F5 hx];exact ⟨g1,mY,by rw [aw As];exact JF As (F7 As tM As (F7 As hr3 As hr4)) As⟩),(show kB [Value.bool false]=.bool (iZ g4).isNone by rw [show (iZ g4).isNone=false by assumption];rfl),rfl,mono _ _ _ hI4 Lc⟩):p:=h
def HS{p:Prop} (h:p:=by
 refine X23 ?_;have q59:=trivial;refine X15 ?_;refine y8 [] _ (.inr Z) (.t1 Z) Z Lc ⟨[],Z,cZ _⟩ λ_ iL=>?_;exact Pb):p:=h
def Hx{p:Prop} (h:p:=by
  refine Yg Z Z<|Fa Z Z<|Py Z Z Z<|Yn<|Yt<|?_;refine S7 Z ?_ ?_<;>intro mN;.have q59:=mN;refine X15 ?_;refine y8 [] _ (.inr Z) (.t1 Z) Z Lc ⟨[],Z,cZ _⟩ λ_ iL=>?_;exact Pc
  have q59:=mN;refine Yk<|Yb<|Yt<|Yr<|Om Z Z Z (jB O O)<|mc Y2<|Yn<|?_;refine NF ⟨Z,(g4,k+1),[],(.c6 Z Z Z Z Z Z (.nil _)),Z,⟨Lc,⟨by simp only;omega,mono _ _ _ hI4 (Lr D),(bD.1 As),by have e1:=ot _ _ _ mY;have e2:=Cx ot tM;have e3:=Cx ot hr3;have e4:=Cx ot hr4;simp only;omega,λg' h=>jO g' (by rw [F5 hx];exact ⟨g1,mY,by rw [aw As];exact F7 As (F7 As tM As (F7 As hr3 As hr4)) As h⟩)⟩⟩,Oz⟩):p:=h
def qqZ{D:Nat}(d:Nat)(ih:∀ e,d=e+1->UZ D e)(s:World)(σ:Type)(H:σ->Hl)(I:σ->World->Prop)(iZ:σ->Option Code)(St:σ->Nd->σ->Prop)(l:Nat)(g0:σ)(mO:σ->Nat)(B:Nat)(ot:∀ g nd g1,St g nd g1->mO g1<=mO g+1)(mono:∀ g s s',I g s->Le D s s'->I g s')(hY:∀ g nd nv s',Le D s s'->I g s'->iZ g=none->mO g < B->sT s' nd nv->YC prog D l [nv] (H g) s' λv L' s3=>∃ g1,St g nd g1/\v=.bool (iZ g1).isNone/\L'=H g1/\I g1 s3)(hI:I g0 s)(hp:iZ g0=none)(A:OAdr9)(n c:Nat)(xs:List jb)(lp lv:Nat)(hA:jz d s A n c xs)(hv:nT xs lv=true)(rZ:lp<=lv)(yL:mO g0+(lI xs lp).length<=B):Ap9 D 97 [.slice A n c,iJ (lp:Int),.func (.yield l) #[] #[]] (H g0) s λv L' s3=>∃ g',sS iZ St g0 (lI xs lp) g'/\v=.bool (iZ g').isNone/\L'=H g'/\I g' s3:=by
 have hn:=hA.1;have mX:=hA.2.1;have oR:=hA.2.2.1;refine Jv (fn:=f97) jl func97 V Z ntmps97 Z (rs:=[.tmp 6]) Z [(0,_),(1,_),(2,_)] Z<|Ys<|Yr<|wS Z Z<|Yn<|Yt<|Ys<|Ys<|Yr<|mc Y2<|Mh Z Z Z Z<|mc Y2<|Yn<|Yt<|Yp<|?_;refine qpJ (γ:=σ×Nat) (λg=>[(0,_),(1,_),(2,_),(6,_),(11,_),(12,iJ (g.2:Int))]) (λg=>H g.1) (λg tw=>Le D s tw/\(g.2<=n/\I g.1 tw/\iZ g.1=none/\mO g.1+(lI (xs.drop g.2) lp).length<=B/\(∀ g',sS iZ St g.1 (lI (xs.drop g.2) lp) g'->sS iZ St g0 (lI xs lp) g'))) (λg=>n - g.2) (λ_ _ _ h hl=>⟨h.1.trans hl,⟨h.2.1,mono _ _ _ h.2.2.1 hl,h.2.2.2⟩⟩) (g0,0) (.c6 Z Z Z Z Z Z (.nil _)) Z ⟨Le.refl _,⟨aB _,mono _ _ _ hI (Lr D),hp,yL,λg' h=>h⟩⟩ ?_;intro g s1 I1;obtain ⟨g,k⟩:=g;obtain ⟨kh,hIg,hpg,hbn,jO⟩:=I1.2;simp only at kh hIg hpg hbn jO;dsimp only;refine Ys<|Yr<|QX Z Z Z<|Yn<|Yt<|Ys<|?_;refine Kl Z ?_ ?_<;>intro c2
 .have hk:k < n:=by omega
  obtain ⟨e,b,off,x,A1,n1,p1,A2,n2,p2,A3,n3,p3,hd,rfl,hx,hcx,hax,rE,hex,kK⟩:=jz.at_ Pz hk;have hn':=hax.1;obtain ⟨vp,_⟩:=Dv hv hx;obtain ⟨nZ,_,_,hvB,hvL⟩:=wH vp;rw [F5 hx,au,ac,ac,ac] at hbn;refine Yk<|Yt<|Ys<|Yp<|Ys<|Yr<|mc Y2<|wS Z Z<|Yn<|Yt<|Ys<|Yr<|mc Y2<|mc Y2<|lM (jR Y6 hk) Z<|wS Z Z<|Yn<|Yt<|Ys<|Ys<|Yr<|mc Y2<|mc Y2<|mc Y2<|lM (jC [(_,_),(_,_)] [_,_,_] Y3 Z Z Z) Z<|b_ Z Z Z (hY g (.st x lp) _ _ I1.1 (mono _ _ _ hIg (Lr D)) hpg O (sT.mkS Pz hn')) ?_;rintro _ _ s3 h3 ⟨g1,mY,rfl,rfl,hI1⟩;refine Fa Z Z<|mc Y2<|?_;refine Nm (t:=24) Z ?_ ?_<;>intro c4;.refine X23 ?_;have q33:=trivial;refine Ys<|Yr<|wS Z Z<|Yn<|Yt<|Yo<|Yu<|Yc<|Yu<|Yu<|Yc<|Yu<|?_;refine y8 [] _ (.inr Z) (.t1 Z) Z Lc ⟨[],Z,cZ _⟩ λ_ iL=>?_;exact ⟨g1,jO g1 (by rw [F5 hx];exact ⟨g1,mY,by rw [am (by rw [show (iZ g1).isNone=false by assumption];decide)]⟩),(show kB [Value.bool false]=.bool (iZ g1).isNone by rw [show (iZ g1).isNone=false by assumption];rfl),rfl,mono _ _ _ hI1 Lc⟩
  refine Yg Z Z<|mc Y2<|Yg Z Z<|Fz Z Z<|Yg Z Z<|lM (pu Y4) Z<|Yg Z Z<|lM (nh 2 Y3 Pz Z) Z<|Yg Z Z<|mc Y2<|Yg Z Z<|mc Y2<|Yg Z Z<|uO Y3 (Vj e _ σ H I iZ St l g1 mO B ot mono (λg nd nv s9 hl=>hY g nd nv s9 Lc) (mono _ _ _ hI1 (Lr D)) (bD.1 As) A1 n1 p1 x.exprs lp Pz (by have e1:=ot _ _ _ mY;omega)) ?_;rintro _ _ s5 h5 ⟨g2,tM,rfl,rfl,wY⟩;refine Yg Z Z<|Fa Z Z<|Py Z Z Z<|Yn<|Yt<|?_;refine S7 Z ?_ ?_<;>intro c6;.have q33:=c6;refine Ys<|Yr<|wS Z Z<|Yn<|Yt<|Yo<|Yu<|Yc<|Yu<|Yu<|Yc<|Yu<|?_;refine y8 [] _ (.inr Z) (.t1 Z) Z Lc ⟨[],Z,cZ _⟩ λ_ iL=>?_;exact ⟨g2,jO g2 (by rw [F5 hx];exact ⟨g1,mY,by rw [aw As];exact JF As (JF As tM As) As⟩),(show kB [Value.bool false]=.bool (iZ g2).isNone by rw [show (iZ g2).isNone=false by assumption];rfl),rfl,mono _ _ _ wY Lc⟩
  have q33:=c6;refine Yk<|Yt<|Ys<|Yr<|mc Y2<|wS Z Z<|Yn<|Yt<|Ys<|Ys<|Yr<|mc Y2<|Fz Z Z<|Me Z Z Z Z Z<|lM (jW Y3 Pz Z) Z<|IT Z Z Z<|Yn<|Yt<|?_;refine Kl Z ?_ ?_<;>intro c7
  .have hlI:Bh x lp=lp+1:=aw c7;have hlI2:Bh x lp<=lv+1:=by omega
   refine Yr<|mc Y2<|lM (nD Z Z (show IntKind.i64.wrap ((lp:Int)+1)=((Bh x lp:Nat):Int) by rw [jB O O];omega)) Z<|wS Z Z<|Yn<|Yt<|Ys<|Yr<|mc Y2<|Fz Z Z<|lM (pu Y4) Z<|lM (nh 3 Y3 Pz Z) Z<|mc Y2<|mc Y2<|uO Y3 (ih e hd _ σ H I iZ St l g2 mO B ot mono (λg nd nv s9 hl=>hY g nd nv s9 Lc) (mono _ _ _ wY (Lr D)) (bD.1 As) A2 n2 p2 x.body (Bh x lp) (lv+1) Pz hvB hlI2 (by have e1:=ot _ _ _ mY;have e2:=Cx ot tM;omega)) ?_;rintro _ _ s8 h8 ⟨g3,hr3,rfl,rfl,hI3⟩;refine Fa Z Z<|mc Y2<|?_;refine Nm (t:=50) Z ?_ ?_<;>intro c9;.exact HS
   refine Yg Z Z<|mc Y2<|Yg Z Z<|Fz Z Z<|Yg Z Z<|lM (pu Y4) Z<|Yg Z Z<|lM (nh 4 Y3 Pz Z) Z<|Yg Z Z<|mc Y2<|Yg Z Z<|mc Y2<|Yg Z Z<|uO Y3 (ih e hd _ σ H I iZ St l g3 mO B ot mono (λg nd nv s9 hl=>hY g nd nv s9 Lc) (mono _ _ _ hI3 (Lr D)) (bD.1 As) A3 n3 p3 x.els (Bh x lp) (lv+1) Pz hvL hlI2 Q34) ?_;rintro _ _ ku jN ⟨g4,hr4,rfl,rfl,hI4⟩;exact Hx
  have hlI:Bh x lp=lp:=am c7;have hlI2:Bh x lp<=lv+1:=by omega
  refine Yk<|Yt<|Ys<|Yr<|mc Y2<|Fz Z Z<|lM (pu Y4) Z<|lM (nh 3 Y3 Pz Z) Z<|mc Y2<|mc Y2<|uO Y3 ((by have h9:=ih e hd _ σ H I iZ St l g2 mO B ot mono (λg nd nv s9 hl=>hY g nd nv s9 Lc) (mono _ _ _ wY (Lr D)) (bD.1 As) A2 n2 p2 x.body (Bh x lp) (lv+1) Pz hvB hlI2 (by have e1:=ot _ _ _ mY;have e2:=Cx ot tM;omega);rw [hlI] at h9;exact h9)) ?_;rintro _ _ s8 h8 ⟨g3,hr3,rfl,rfl,hI3⟩;rw [<- hlI] at hr3;refine Fa Z Z<|mc Y2<|?_;refine Nm (t:=50) Z ?_ ?_<;>intro c9;.exact HS
  refine Yg Z Z<|mc Y2<|Yg Z Z<|Fz Z Z<|Yg Z Z<|lM (pu Y4) Z<|Yg Z Z<|lM (nh 4 Y3 Pz Z) Z<|Yg Z Z<|mc Y2<|Yg Z Z<|mc Y2<|Yg Z Z<|uO Y3 ((by have h9:=ih e hd _ σ H I iZ St l g3 mO B ot mono (λg nd nv s9 hl=>hY g nd nv s9 Lc) (mono _ _ _ hI3 (Lr D)) (bD.1 As) A3 n3 p3 x.els (Bh x lp) (lv+1) Pz hvL hlI2 Q34;rw [hlI] at h9;exact h9)) ?_;rintro _ _ ku jN ⟨g4,hr4,rfl,rfl,hI4⟩;rw [<- hlI] at hr4;exact Hx
 rw [aK O,lI] at jO;exact Ii
def Vi{D:Nat}:∀ d,UZ D d
 | 0=>λs σ H I iZ St l g0 mO B ot mono hY hI hp A n c xs lp lv hA hv rZ yL=>qqZ 0 (λe h=>by omega) s σ H I iZ St l g0 mO B ot mono hY hI hp A n c xs lp lv hA hv rZ yL
 | d+1=>λs σ H I iZ St l g0 mO B ot mono hY hI hp A n c xs lp lv hA hv rZ yL=>qqZ (d+1) (λe h=>(show d=e by omega)▸Vi d) s σ H I iZ St l g0 mO B ot mono hY hI hp A n c xs lp lv hA hv rZ yL
def qpS{D:Nat}{s:World}{σ:Type}(H:σ->Hl)(I:σ->World->Prop)(iZ:σ->Option Code)(Srq9:σ->Nd->σ->Prop)(l:Nat)(g0:σ)(mO:σ->Nat)(B:Nat)(ot:∀ g nd g1,Srq9 g nd g1->mO g1<=mO g+1)(mono:∀ g s s',I g s->Le D s s'->I g s')(hY:∀ g nd nv s',Le D s s'->I g s'->iZ g=none->mO g < B->sT s' nd nv->YC prog D l [nv] (H g) s' λv L' s3=>∃ g1,Srq9 g nd g1/\v=.bool (iZ g1).isNone/\L'=H g1/\I g1 s3)(hI:I g0 s)(hp:iZ g0=none)(b d:Nat)(x:iT)(A1 A2 A3:OAdr9)(n1 q1 n2 q2 n3 q3:Nat)(pf:iH s b 0 [St x.name,.slice A1 n1 q1,.slice A2 n2 q2,.slice A3 n3 q3])(hB:jz d s A3 n3 q3 x.body)(hv:nT x.body 1=true)(yL:mO g0+(lI x.body 0).length<=B):Ap9 D 96 [.func (.yield l) #[] #[],jc b] (H g0) s λ_ L' s3=>∃ g',sS iZ Srq9 g0 (lI x.body 0) g'/\L'=H g'/\I g' s3:=by
 refine Jv (fn:=f96) jl func96 V Z ntmps96 Z (rs:=[]) Z [(0,_),(1,_)] Z<|Yr<|lM (pu Y4) Z<|lM (nh 3 Y3 Pz Z) Z<|mc Y2<|uO Y3 (Vi d _ σ H I iZ Srq9 l g0 mO B ot mono (λg nd nv s9 hl=>hY g nd nv s9 Lc) (mono _ _ _ hI (Lr D)) hp A3 n3 q3 x.body 0 1 Pz hv O yL) ?_;rintro _ _ s1 h1 ⟨g2,tM,rfl,rfl,wY⟩;refine Yn ?_;refine y8 [] _ (.inl Z) (.nil) Z h1 ⟨[],Z,cZ _⟩ λ_ iL=>?_;exact ⟨g2,tM,rfl,mono _ _ _ wY Lc⟩
def qzE(x:iT)(A1 A2 A3:OAdr9)(n1 q1 n2 q2 n3 q3:Nat):AN9 D 52 [.agg #[St x.name,.slice A1 n1 q1,.slice A2 n2 q2,.slice A3 n3 q3]] L s λv M' _=>∃ b,M'=[(b,cb [St x.name,.slice A1 n1 q1,.slice A2 n2 q2,.slice A3 n3 q3] 41)]/\v=.func (.func 96) #[] #[jc b]:=by
 refine jv (fn:=f52) jl func52 V Z ntmps52 Z (rs:=[.tmp 2]) Z [(0,_)] Z<|Sr<|kH Y2 λβ1 s1 h1=>At Z Z<|Sr<|iI (qw Z) Z<|G4 ?_;exact rR [] _ (.t1 Z) Z h1 λ_ iL=>⟨[_],rfl,_,rfl,rfl⟩
def qtD(d:Nat)(p:ja)(Ag:OAdr9)(ng cg nf cf:Nat)(jQ:jn s Ag ng cg p.o)(j8:ju d s Af nf cf p.funcs)(bm:Nat)(hM:nW s bm p)(x:iT)(A1 A2 A3:OAdr9)(n1 q1 n2 q2 n3 q3:Nat)(pJ:iW s A1 n1 q1 x.params)(kb:iW s A2 n2 q2 x.locals)(nd:Nd)(hN:sT s nd nv):AV9 D 53 [.agg #[.slice Ag ng cg,.slice Af nf cf,.map (some bm)],.agg #[St x.name,.slice A1 n1 q1,.slice A2 n2 q2,.slice A3 n3 q3],nv] L s (iJ (j7 p x nd)):=by
 cases nd with
 | st y lp=>
  obtain ⟨b,o,C1,r1,e1,C2,r2,e2,C3,r3,e3,rfl,hy,hr⟩:=hN;exact qz6 L s d p Ag Af ng cg nf cf jQ j8 bm hM x A1 A2 A3 n1 q1 n2 q2 n3 q3 pJ kb y b o C1 C2 C3 r1 e1 r2 e2 r3 e3 hy hr lp
 | ex y lp=>
  obtain ⟨b,o,C1,r1,e1,rfl,hy,hr⟩:=hN;exact qz5 L s d p Ag Af ng cg nf cf jQ j8 bm hM x A1 A2 A3 n1 q1 n2 q2 n3 q3 pJ kb y b o C1 r1 e1 hy hr lp
def qrp:∀ {l:List jM} {seen:List iR} {i:Nat},seen.Nodup->tW l seen i=(0,0)->(seen++l.map jM.name).Nodup
  | [],seen,_,h,_=>by simpa using h
  | g::r,seen,i,h,h0=>by
    rw [tW] at h0;split at h0
    . cases h0
    . rename_i h1
      have:=qrp (l:=r) (seen:=seen++[g.name]) (by
        rw [bL];refine ⟨h,by simp,λa ha b hb=>?_⟩;rw [aV] at hb;subst hb;intro e;subst e;exact h1 ha) h0
      simpa using this
def qrn:∀ {l:List iT} {seen:List iR} {i:Nat},seen.Nodup->tD l seen i=(0,0)->(seen++l.map iT.name).Nodup/\∀ x∈l,(x.params++x.locals).Nodup
  | [],seen,_,h,_=>⟨by simpa using h,λx hx=>by cases hx⟩
  | g::r,seen,i,h,h0=>by
    rw [tD] at h0;split at h0
    . cases h0
    . rename_i h1
      have:=qrn (l:=r) (seen:=seen++[g.name]) (by
        rw [bL];refine ⟨h,by simp,λa ha b hb=>?_⟩;rw [aV] at hb;subst hb;intro e;subst e;exact h1 (.inl ha)) h0
      refine ⟨by simpa using this.1,λx hx=>?_⟩;rcases aW.1 hx with rfl|hx
      . exact gC.1 λh2=>h1 (.inr h2)
      . exact this.2 x hx
def CB(h:(pK p).1=0):((kW p).map (·.1)).Nodup/\∀ x∈p.funcs,(x.params++x.locals).Nodup:=by
 unfold pK at h;split at h
 . rename_i h1;exact absurd h h1
 rename_i h1;split at h
 . rename_i h2;exact absurd h h2
 rename_i h2;have e1:=qrp (l:=p.o) (seen:=[]) (i:=0) (by simp) (qrq.1 Q7);have e2:=qrn (l:=p.funcs) (seen:=p.o.map jM.name) (i:=p.o.length) (by simpa using e1) (qrq.2 Q11);refine ⟨?_,e2.2⟩;have:(kW p).map (·.1)=p.o.map jM.name++p.funcs.map iT.name:=by
  rw [kW,bR];congr 1<;>(apply gL<;>simp)
 rw [this];exact e2.1
end
def qu4(A R:Hl)(l:Nat)(o o':Obj):lO (A++(l,o)::R) A.length o'=A++(l,o')::R:=by
 induction A with
 | nil=>rfl
 | cons x A ih=>show x::lO (A++(l,o)::R) A.length o'=_;rw [ih];rfl
section calls
variable{TT:kG}{fr:Fr}
section range
variable{σ α:Type}(H:σ->Hl)(I:σ->World->Prop)(iZ:σ->Option Code)(St:σ->α->σ->Prop)(enc:α->LVal9)(Pre:σ->α->World->Prop)(Fin:σ->Prop)
def ZF{AR:α->Fr->Hl->Prop}{g:Operand}{ps:List Nat}{assign body:Code}{fi:FuncId}{cap:LVal9}(hg:lk fr g=some (.func (.func fi) #[] cap.toArray))(g0:σ)(hL:L=H g0)(hI0:I g0 s)(hp0:iZ g0=none)
    (mono:∀ g s s',I g s->Le D s s'->I g s') (hpd:∀ g,iZ g=none\/iZ g=some .ret\/∃ id,iZ g=some (.exit id))
    (hps:∀ p,(enc p).length=ps.length) (hpn:ps.all (λt=>Nat.blt t n)=true)
    (hassign:∀ (l:Nat) (p:α) (L':Hl) (s':World),RC P TT D n (some l) (λe wU jS L1 s1=>e=.normal/\wU=[]/\(∃ A,AR p jS A/\L1=A++L')/\Le D s' s1) assign [] (qx9 fr ps (enc p)) L' s')
    (hbody:∀ (l dk:Nat) (o1 o2:Obj) (g:σ) (p:α) (s' s0:World) (rB:Fr) (A1:Hl),Le D s s'->Le D s' s0->I g s'->iZ g=none->Pre g p s'->AR p rB A1 ->
      RC P TT D n (some l) (λe _ _ L1 s1=>∃ g1,St g p g1/\Es e=some (iZ g1)/\∃ A,L1=A++((l,o1)::(dk,o2)::H g1)/\Le D s0 s1/\I g1 s1) body [] rB (A1++((l,o1)::(dk,o2)::H g)) s0)
    (hit:∀ (l:Nat) (HH:σ->Hl) (s':World),Le D s s'->(∀ g p s'',Le D s s''->I g s''->iZ g=none->Pre g p s''->YC P D l (enc p) (HH g) s'' λv L' s3=>∃ g1,St g p g1/\v=.bool (iZ g1).isNone/\L'=HH g1/\I g1 s3) ->
      AC P D fi (.func (.yield l) #[] #[]::cap) (HH g0) s' λ_ L' s3=>∃ g',Fin g'/\L'=HH g'/\I g' s3)
    (hpost:∀ (dk:Nat) (g':σ) (s3:World),Le D s s3->Fin g'->I g' s3->Q (qFY (iZ g')) (Bt dk::ds) fr ((dk,Obj.deferred (some []))::H g') s3) :
    RC P TT D n none Q (.rangeFunc g ps.toArray assign body) ds fr L s:=λhT a hr ho=>by
  subst hL;refine wpIn_rangeFunc ?_;intro fn _;have hro:(C0 none).round=none:=rfl;rw [hro]

  obtain ⟨a1,a2,a3⟩:=pU ho (Obj.deferred (some []));obtain ⟨rec,sa⟩:∃ rec:LoopState->Option Code->Loop,rec=λst pe=>{ state:=st,pending:=pe,fn,tmps:=a.tmps,params:=ps.toArray,assign,body,defers:=(fill (H g0) s).heap.size }:=⟨_,rfl⟩;obtain ⟨b1,b2,b3⟩:=pU a2 (Obj.loop (rec .ready none));obtain ⟨dk,hdk⟩:∃ dk,dk=s.heap.size:=⟨_,rfl⟩;obtain ⟨l,hl⟩:∃ l,l=(s.alloc (mA D)).heap.size:=⟨_,rfl⟩;rw [<- hdk,<- hl] at b1 b2;rw [<- hdk] at a1;have hfs:(fill (H g0) s).heap.size=dk:=by rw [nR,hdk]
  obtain ⟨HH,hHH⟩:∃ HH:σ->Hl,HH=λg=>(l,Obj.loop (rec (if (iZ g).isNone then .ready else .done) (iZ g)))::(dk,Obj.deferred (some []))::H g:=⟨_,rfl⟩;have sd:HH g0=(l,Obj.loop (rec .ready none))::(dk,Obj.deferred (some []))::H g0:=by rw [hHH];simp only [hp0,Option.isNone_none,bS]
  obtain ⟨s2,kb⟩:∃ s2,s2=(s.alloc (mA D)).alloc (mA D):=⟨_,rfl⟩;rw [<- kb] at b1 b2 b3;have p7:Le D s s2:=a3.trans b3

  have hY:∀ g p s'',Le D s s''->I g s''->iZ g=none->Pre g p s''->YC P D l (enc p) (HH g) s'' λv L' s3=>∃ g1,St g p g1/\v=.bool (iZ g1).isNone/\L'=HH g1/\I g1 s3:=by
    intro g p s'' sF hI hpn0 hPre hoY;have eH:HH g=(l,Obj.loop (rec .ready none))::(dk,Obj.deferred (some []))::H g:=by rw [hHH];simp only [hpn0,Option.isNone_none,bS]
    rw [eH] at hoY ⊢;have xd:(fill ((l,Obj.loop (rec .ready none))::(dk,Obj.deferred (some []))::H g) s'').heap[l]?=some (.loop (rec .ready none)):=qc hoY Mc;have jA:((enc p).toArray).size=(rec .ready none).params.size:=by rw [sa];simp [hps p]
    refine ⟨_,_,_,_,run_yield xd jA,?_⟩;have hro2:RoundIn (C0 none) 0 P l (rec .ready none).fn (((rec .ready none).params.zip (enc p).toArray).foldl (λtmps x=>tmps.setIfInBounds x.1 x.2) (rec .ready none).tmps) (rec .ready none).assign (rec .ready none).body (fill ((l,Obj.loop (rec .ready none))::(dk,Obj.deferred (some []))::H g) s'') λe w'=>∃ v L' s',e=.returned v/\w'=fill L' s'/\jX D L' s'/\Le D s'' s'/\(∃ g1,St g p g1/\v=.bool (iZ g1).isNone/\L'=HH g1/\I g1 s'):=by
      refine roundIn_of_wpIn Tt ?_;have e1:(rec .ready none).assign=assign:=by rw [sa]
      have e2:(rec .ready none).body=body:=by rw [sa]
      have e3:((rec .ready none).params.zip (enc p).toArray).foldl (λtmps x=>tmps.setIfInBounds x.1 x.2) (rec .ready none).tmps=(ps.zip (enc p)).foldl (λtmps x=>tmps.setIfInBounds x.1 x.2) a.tmps:=by
        rw [sa];simp
      rw [e1,e2,e3];have ou:vb [] n { tmps:=(ps.zip (enc p)).foldl (λtmps x=>tmps.setIfInBounds x.1 x.2) a.tmps,defers:=[] } (qx9 fr ps (enc p)):=by
        refine ⟨qo3 n (ps.zip (enc p)) fr a hr.rel ?_,Z⟩;rw [bV] at hpn ⊢;intro x hx;exact hpn x.1 (List.of_mem_zip hx).1
      refine ft (hassign l p _ s'' hT _ ou hoY) ?_;rintro e a1 w1 ⟨ds1,rB,L1,s1,k1,k2,rfl,rfl,rfl,⟨A1,k3,rfl⟩,k4⟩

      have hrl1:(fill (A1++((l,Obj.loop (rec .ready none))::(dk,Obj.deferred (some []))::H g)) s1).heap[l]?=some (.loop (rec .ready none)):=qc k2 (aJ _ Mc);have mY:(rec .ready none).state=.ready:=by rw [sa]
      refine ⟨_,run_beginRound hrl1 mY,?_⟩;obtain ⟨ob,hob⟩:∃ ob,ob=Obj.loop { rec .ready none with state:=.busy }:=⟨_,rfl⟩;rw [Rt,<- hob,<- Da k2 (i:=A1.length) (p:=Obj.loop (rec .ready none)) (by simp) ob];have ho3:=Do k2 A1.length ob;rw [qu4] at ho3 ⊢;refine ft (hbody l dk ob (Obj.deferred (some [])) g p s'' s1 rB A1 sF k4 hI hpn0 hPre k3 hT _ k1 ho3) ?_;rintro e2 a2 w2 ⟨ds2,fr2,L2,s2',j1,j2,rfl,g1,jst,jj,A,rfl,jle,jI⟩;obtain ⟨d1,d2,d3⟩:=sK j2;have hend:∀ j:Option Code,iZ g1=j->∃ v w',(Instr.endRound l j).run P (fill (A++((l,ob)::(dk,Obj.deferred (some []))::H g1)) s2')=.ok v w'/\(∃ v' L' s',Ending.returned v=.returned v'/\w'=fill L' s'/\jX D L' s'/\Le D s'' s'/\(∃ g1,St g p g1/\v'=.bool (iZ g1).isNone/\L'=HH g1/\I g1 s')):=by
        intro j hj;have hrl2:(fill ((l,ob)::(dk,Obj.deferred (some []))::H g1) (fill A s2')).heap[l]?=some (.loop { rec .ready none with state:=.busy }):=by rw [qc d2 Mc,hob]
        rw [d1];refine ⟨_,_,run_endRound j hrl2,_,HH g1,fill A s2',Z,?_,?_,k4.trans (jle.trans d3),g1,jst,by rw [hj],Z,mono _ _ _ jI d3⟩
        . rw [Rt,<- Da d2 (i:=0) rfl]
          simp only [lO,hHH,hj];congr 3;rw [sa]
        . have:=Do d2 0 (Obj.loop (rec (if (iZ g1).isNone then .ready else .done) (iZ g1)))
          simp only [lO] at this;rw [hHH];exact this
      cases e2 with
      | normal=>exact hend none (by simpa [Es] using jj.symm)
      | ret=>exact hend (some .ret) (by simpa [Es] using jj.symm)
      | exit id=>exact hend (some (.exit id)) (by simpa [Es] using jj.symm)
      | goto t=>cases jj
      | panic c=>cases jj
      | outgrown=>cases jj
    exact hro2
  have hAC:=hit l HH s2 p7 hY;obtain ⟨⟨wq,h1,h2,h3⟩,hc⟩:=hAC;have h2':¬ wq.name = "runtime.NumGoroutine" := by simpa using h2
  have h3':¬ wq.body=none:=by intro e;simp [e] at h3
  have hev:=hr.ev hg;have hworld:((fill (H g0) s).alloc (.deferred (some []))).alloc (.loop (rec .ready none))=fill (HH g0) s2:=by rw [sd,<- b1,<- a1]
  have hen:(Instr.enterLoop fn a.tmps ps.toArray assign body none).run P (fill (H g0) s)=.ok (l,[Bt dk]) (fill (HH g0) s2):=by
    rw [run_enterLoop_outer,<- hworld];have e1:(fill (H g0) s).heap.size+1=l:=by rw [hfs,hl,World.size_alloc,hdk]
    rw [e1,Bt,<- hfs,sa]
  refine ⟨l,[Bt dk],fill (HH g0) s2,{ target:=.fn (.func fi) cap.toArray,args:=#[.func (.yield l) #[] #[]] },fill (HH g0) s2,fi,(.func (.yield l) #[] #[]::cap).toArray,fill (HH g0) s2,hen,?_,λf _=>Dp none f,?_,MO none 0,?_⟩
  . simp only [resolve,hev]
    simp [go_sem]
  . simp [invoke,callFunc,h1,h2',h3']
  . have hoH:jX D (HH g0) s2:=by rw [sd];exact b2
    refine (RV none (hc hoH)).mono ?_;rintro e w' ⟨v,L',s3,rfl,rfl,q1,q2,g',q3,rfl,q4⟩;have eH:HH g'=(l,Obj.loop (rec (if (iZ g').isNone then .ready else .done) (iZ g')))::(dk,Obj.deferred (some []))::H g':=by rw [hHH]
    rw [eH] at q1 ⊢;have xd:(fill ((l,Obj.loop (rec (if (iZ g').isNone then .ready else .done) (iZ g')))::(dk,Obj.deferred (some []))::H g') s3).heap[l]?=some (.loop (rec (if (iZ g').isNone then .ready else .done) (iZ g'))):=qc q1 Mc;have hnb:(rec (if (iZ g').isNone then .ready else .done) (iZ g')).state≠.busy:=by
      rw [sa];simp only;split<;>(intro h;cases h)
    have hpe:(rec (if (iZ g').isNone then .ready else .done) (iZ g')).pending=iZ g':=by rw [sa]
    have jO:=run_endLoop (P:=P) xd hnb;rw [hpe] at jO;obtain ⟨oe,hoe⟩:∃ oe,(Instr.endLoop l).run P (fill ((l,Obj.loop (rec (if (iZ g').isNone then .ready else .done) (iZ g')))::(dk,Obj.deferred (some []))::H g') s3)=.ok (iZ g') (oX (fill ((l,Obj.loop (rec (if (iZ g').isNone then .ready else .done) (iZ g')))::(dk,Obj.deferred (some []))::H g') s3) l oe):=⟨_,jO⟩;refine ⟨iZ g',_,hoe,?_⟩;rw [<- Da q1 (i:=0) rfl oe];have ho4:=Do q1 0 oe;simp only [lO] at ho4 ⊢;obtain ⟨d1,d2,d3⟩:=sK (A:=[(l,oe)]) (B:=(dk,Obj.deferred (some []))::H g') ho4;simp only [iU,iV] at d1;rw [d1];have hQ:=hpost dk g' (fill [(l,oe)] s3) (p7.trans (q2.trans d3)) q3 (mono _ _ _ q4 d3);have hfr2:vb (Bt dk::ds) n { a with defers:=[Bt dk]++a.defers } fr:=⟨hr.rel,by show [Bt dk]++a.defers=_;rw [hr.defers];rfl⟩;rcases hpd g' with hp|hp|⟨id,hp⟩
    . rw [hp] at hQ ⊢
      exact ⟨_,_,_,_,hfr2,d2,rfl,hQ⟩
    . rw [hp] at hQ ⊢
      exact wpIn_ret ⟨_,_,_,_,hfr2,d2,rfl,hQ⟩
    . rw [hp] at hQ ⊢
      exact wpIn_exit ⟨_,_,_,_,hfr2,d2,rfl,hQ⟩
end range
end calls
def qxs{TT:kG}{fr jS:Fr}(h:je fr jS)(k:RC P TT D n ro Q c ds jS L s):RC P TT D n ro Q c ds fr L s:=λht a hr ho=>k ht a (hr.sub h) ho
def qzb{TT:kG}{fr:Fr}(hp:L.Perm L')(h:RC P TT D n ro Q c ds fr L' s):RC P TT D n ro Q c ds fr L s:=λht a hr ho=>by
 rw [tr hp _ ho];exact h ht a hr (ho.perm hp)
section
variable{TT:kG}{fr:Fr}{ops:Array Oper}
def qxt{t:Nat}(hx:lk fr x=some v)(hz:mZ v=zs)(hd:Nat.blt d n=true)
  (k:∀ β s',Le D s s'->RO P TT D n ro ops Q iP ds ((d,jc β)::fr) ((β,cb zs t)::L) s'):RO P TT D n ro ops Q (⟨some d,.box t x,ty,iS,af,none⟩::iP) ds fr L s:=λhT a hr ho=>
 Ks (by nofun) hd (Ta hx hz ho) (k _ _ (pU ho (cb zs t)).2.2) hT a hr ho
def SM{t:Nat}(hx:lk fr x=some (.agg zs.toArray))(hd:Nat.blt d n=true)
  (k:∀ β s',Le D s s'->RO P TT D n ro ops Q iP ds ((d,jc β)::fr) ((β,cb zs t)::L) s'):RO P TT D n ro ops Q (⟨some d,.box t x,ty,iS,af,none⟩::iP) ds fr L s:=
 qxt hx (by simp [mZ]) hd k
end
section
attribute [local irreducible] JC JO JA JB lZ mF mM AC fill iH QE Ev mq
variable(L:Hl)(s:World){l:List Tm}
def sT.agg{s:World}(h:sT s nd nv):∃ (pa pb:OAdr9) (lp:Nat),nv=.agg #[.pointer pa,.pointer pb,iJ (lp:Int)]:=by
 cases nd with
 | st y lp=>obtain ⟨b,o,C1,r1,e1,C2,r2,e2,C3,r3,e3,rfl,hy,hr⟩:=h;exact ⟨_,_,_,rfl⟩
 | ex y lp=>obtain ⟨b,o,C1,r1,e1,rfl,hy,hr⟩:=h;exact ⟨_,_,_,rfl⟩
def sT.le{s:World}(h:sT s nd nv)(hl:Le D s s'):sT s' nd nv:=by
 cases nd with
 | st y lp=>obtain ⟨b,o,C1,r1,e1,C2,r2,e2,C3,r3,e3,rfl,hy,hr⟩:=h;exact ⟨b,o,C1,r1,e1,C2,r2,e2,C3,r3,e3,rfl,hy.le hl,hr⟩
 | ex y lp=>obtain ⟨b,o,C1,r1,e1,rfl,hy,hr⟩:=h;exact ⟨b,o,C1,r1,e1,rfl,hy.le hl,hr⟩
def Sn:∀ (l:List Ex) (lp:Nat),(pM l lp).length=ln l
 | [],_=>rfl
 | .mk k o n nm ar::r,lp=>by rw [pM,pk,ln,ns,ac,au,Sn ar,Sn r];omega
def Nw:∀ (l:List jb) (lp:Nat),(lI l lp).length=kC l
 | [],_=>rfl
 | .mk k nm es b e::r,lp=>by rw [lI,xZ,kC,qA,ac,au,ac,ac,Sn es,Nw b,Nw e,Nw r];omega
def tA(p:ja)(x:iT):List Nd->Int
 | []=>0
 | n::r=>if j7 p x n=0 then tA p x r else j7 p x n
def zr(p:ja):List iT->Nat->Int×Int
 | [],_=>(0,0)
 | x::r,i=>if tA p x (lI x.body 0)=0 then zr p r (i+1) else (tA p x (lI x.body 0),(i:Int))
def kU(p:ja):Int×Int:=if (qV p).1≠0 then qV p else if (pK p).1≠0 then pK p else zr p p.funcs p.o.length
def qp2{l:List iT}{x:iT}(h:l[k]?=some x):zr p (l.drop k) i=if tA p x (lI x.body 0)=0 then zr p (l.drop (k+1)) (i+1) else (tA p x (lI x.body 0),(i:Int)):=by
 obtain ⟨hk,rfl⟩:=al.1 h;rw [aL hk,zr]
def Za{p:ja}{x:iT}:∀ {l:List Nd},tA p x l=0->∀ nd∈l,j7 p x nd=0
  | [],_=>λnd h=>by cases h
  | n::r,h=>λnd hm=>by
    rw [tA] at h;split at h
    . rename_i h1
      rcases aW.1 hm with rfl|hm
      . exact h1
      . exact Za h nd hm
    . rename_i h1;exact absurd h h1
def Y8{p:ja}:∀ {l:List iT} {i:Nat},(zr p l i).1=0->zr p l i=(0,0)/\∀ x∈l,∀ nd∈lI x.body 0,j7 p x nd=0
  | [],_,_=>⟨rfl,λx h=>by cases h⟩
  | y::r,i,h=>by
    rw [zr] at h ⊢;split at h
    . rename_i h1
      obtain ⟨a,b⟩:=Y8 h;rw [aw h1];refine ⟨a,λx hm=>?_⟩;rcases aW.1 hm with rfl|hm
      . exact Za h1
      . exact b x hm
    . rename_i h1;exact absurd h h1
def w_(h:(pK p).1=0):pK p=(0,0):=by
  unfold pK at h ⊢;split at h
  . rename_i h1;exact absurd h h1
  rename_i h1;rw [am h1];split at h
  . rename_i h2;exact absurd h h2
  rename_i h2;rw [am h2];split at h
  . cases h
  rename_i h3;rw [am h3];split at h
  . split at h
    . rename_i h4;rw [aw h4]
    . cases h
  . rfl
def sU(p:ja):Prop:=PV p/\pK p=(0,0)/\∀ x∈p.funcs,∀ nd∈lI x.body 0,j7 p x nd=0
def sU.of(hu:si p)(h:(kU p).1=0):sU p/\kU p=(0,0):=by
 unfold kU at h ⊢;split at h
 . rename_i h1;exact absurd h h1
 rename_i h1;split at h
 . rename_i h2;exact absurd h h2
 rename_i h2;rw [am h1,am h2];obtain ⟨a,b⟩:=Y8 h;exact ⟨⟨PV.of hu (Nh Q7),w_ Q11,b⟩,a⟩
abbrev OH(g:Option Int):Option Code:=g.map λ_=>.ret
abbrev KB(p:ja)(x:iT)(nd:Nd)(g1:Option Int):Prop:=g1=if j7 p x nd=0 then none else some (j7 p x nd)
def qrZ{p:ja}{x:iT}:∀ {l:List Nd} {g':Option Int},sS OH (λ_ nd g1=>KB p x nd g1) none l g'->g'=if tA p x l=0 then none else some (tA p x l)
  | [],g',h=>by
    have h:g'=none:=h;rw [h,tA,aw rfl]
  | n::r,g',⟨g1,h1,h2⟩=>by
    have h1:g1=if j7 p x n=0 then none else some (j7 p x n):=h1
    by_cases h3:j7 p x n=0
    . rw [aw h3] at h1;subst h1
      rw [show (OH none).isNone=true from rfl,aw rfl] at h2;rw [tA,aw h3];exact qrZ h2
    . rw [am h3] at h1;subst h1
      rw [am (by simp)] at h2;subst h2;rw [tA,am h3,am h3]
def qxw(x:iT)(A1 A2 A3:OAdr9)(n1 q1 n2 q2 n3 q3:Nat):Ap9 D 52 [.agg #[St x.name,.slice A1 n1 q1,.slice A2 n2 q2,.slice A3 n3 q3]] L s λv L' s'=>L=L'/\∃ b,v=.func (.func 96) #[] #[jc b]/\iH s' b 0 [St x.name,.slice A1 n1 q1,.slice A2 n2 q2,.slice A3 n3 q3]:=by
 refine (AC.pub (qzE D L s x A1 A2 A3 n1 q1 n2 q2 n3 q3)).mono ?_;rintro v L1 s1 _ ⟨h1,M1,s2,⟨b,rfl,h3⟩,_,h5⟩;exact ⟨h1,b,h3,h5 _ _ _ Mc⟩
def FK(hG:GP s)(d:Nat)(p:ja)(Ag:OAdr9)(ng cg nf cf:Nat)(jQ:jn s Ag ng cg p.o)(j8:ju d s Af nf cf p.funcs):AV9 D 25 [.agg #[.slice Ag ng cg,.slice Af nf cf]] L s (.agg #[iJ (kU p).1,iJ (kU p).2]):=by
 have lX:=jQ.1;have oB:=j8.1;have hU:si p:=⟨jQ.u,j8.u⟩;refine Jv (fn:=Tryz.f25) jl Tryz.func25 V Z Tryz.ntmps25 Z (rs:=[.cell 2 24]) Z [(0,_)] Z<|Ys<|Yr<|SM Z Z λβ1 s1 h1=>Bj Z [_,_] Z Z λβ2 s2 h2=>Yn<|Yt<|Ys<|Ys<|Yr<|lM (jh 1 [_,_] Y5) Z<|uO Y3 (Ye _ Pz d p Ag _ ng cg nf cf Pz Pz) ?_;rintro _ _ s3 h3 ⟨rfl,rfl⟩;refine Bj Z [_,_] Z Z λβ4 s4 h4=>yh 0 [_,_] Y9<|Yn<|Yt<|Ys<|Yr<|lM (jh 0 [_,_] Y5) Z<|lM (jC [] [_,_] Y3 Z Z Z) Z<|lM (sL Z Z (rq)) Z<|Yn<|Yt<|?_;refine NW Z ?_ ?_<;>intro c5;.have hE:kU p=qV p:=aw (λh=>c5 (by rw [qrO h];exact ⟨rfl,rfl⟩));refine Ys<|Yr<|lM (jh 0 [_,_] Y5) Z<|yh 1 [_,_] Y9<|Yn<|Yt<|Yo<|Yu<|?_;refine y8 (_::_::_::[]) L (.inr Z) (.agg (us:=[_,_]) 1 Z Z Z Z Z (.nil)) Z Lc ⟨[],Z,cZ _⟩ λ_ iL=>?_;exact sQ
 have g4:=c5;have vg:¬ (qV p).1≠0:=λh=>h g4.1;have hV:=PV.of hU (Nh g4.1);have yN:=hV.1;have AQ:=hV.2.1;have rD:=hV.2.2.2.1;refine Yk<|Yt<|Ys<|Ys<|Yr<|lM (jh 2 [_,_] Y5) Z<|uO Y3 (qz4 D _ _ d p Ag ng cg nf cf Pz Pz hV) ?_;rintro _ _ s6 h6 ⟨rfl,rfl⟩;refine Bj Z [_,_] Z Z λβ7 s7 h7=>yh 0 [_,_] Y9<|Yn<|Yt<|Ys<|Yr<|lM (jh 0 [_,_] Y5) Z<|lM (jC [] [_,_] Y3 Z Z Z) Z<|lM (sL Z Z (rq)) Z<|Yn<|Yt<|?_;refine NW Z ?_ ?_<;>intro c8;.have hE:kU p=pK p:=(am vg).trans (aw (λh=>c8 (by rw [w_ h];exact ⟨rfl,rfl⟩)));refine Ys<|Yr<|lM (jh 0 [_,_] Y5) Z<|yh 2 [_,_] Y9<|Yn<|Yt<|Yo<|Yu<|?_;refine y8 (_::_::_::_::[]) L (.inr Z) (.agg (us:=[_,_]) 2 Z Z Z Z Z (.nil)) Z Lc ⟨[],Z,cZ _⟩ λ_ iL=>?_;exact sQ
 have g5:=c8;have g20:¬ (pK p).1≠0:=λh=>h g5.1;refine Yk<|Yt<|Ys<|Yr<|lM (jh 3 [_,_] Y5) Z<|uO Y3 (wz _ _ d p Ag ng cg nf cf Pz Pz (CB g5.1).1) ?_;rintro _ _ s9 h9 ⟨rfl,bm,rfl,hM⟩;refine Bj Z [_,_,_] Z Z λβ10 ku jN=>yh 0 [_,_,_] Y9<|Yn<|Yt<|Ys<|Ys<|Yr<|QW Z Z Z Z Z<|Cr 4 Y6<|Mh Z Z Z Z<|mc Y2<|Yn<|Yt<|Yp<|?_;refine qs2 (γ:=Nat×List Nat) (λg=>[(1,_),(2,_),(5,_),(25,_),(26,_),(27,iJ (g.1:Int))]) (λg=>_::_::_::_::_::(g.2.map E4++L)) (λg=>g.2.map Bt) (λg tw=>Le D ku tw/\(g.1<=nf/\zr p p.funcs p.o.length=zr p (p.funcs.drop g.1) (p.o.length+g.1))) (λg=>nf - g.1) (λ_ _ _ h hl=>⟨h.1.trans hl,h.2⟩) (0,[]) (.c6 Z Z Z Z Z Z (.nil _)) Z Z ⟨Le.refl _,⟨aB _,Z⟩⟩ ?_;intro g kv I11;obtain ⟨k,bs⟩:=g;obtain ⟨kh,hS⟩:=I11.2;simp only at kh hS;dsimp only;refine Ys<|Yr<|QX Z Z Z<|Yn<|Yt<|Ys<|?_;refine Kl Z ?_ ?_<;>intro nU
 .have hk:k < nf:=by omega
  obtain ⟨b,off,x,B1,m1,d1,B2,m2,d2,B3,m3,d3,rfl,hx,hcx,od,oc,rE,kK⟩:=ju.at_ Pz hk;have xV:=rD x (ay hx);refine Yk<|Yt<|Ys<|Yp<|Ys<|Yr<|mc Y2<|lM (jR Y6 hk) Z<|lM (kq Y3 Pz Z) Z<|Bj Z [_] Z Z λβ13 kY kN=>Bj Z [_,_,_,_] Z Z λβ14 li kz=>yh 1 [_] Y9<|yh 0 [_,_,_,_] Y9<|Yn<|Yt<|Ys<|Yr<|lM (jh 0 [_,_,_,_] Y5) Z<|uO Y3 (qxw _ _ x B1 B2 B3 m1 d1 m2 d2 m3 d3) ?_;rintro _ _ lJ lr ⟨rfl,ba,rfl,hba⟩;refine Yn<|Yt<|Yp<|?_;refine ZF (σ:=Option Int) (α:=Nd×OAdr9×OAdr9×Nat) (λg=>(β14,cb [St x.name,.slice B1 m1 d1,.slice B2 m2 d2,.slice B3 m3 d3] 41)::(β13,cb [iJ (k:Int)] 3)::_::_::_::(β2,cb [iJ (g.getD 0),iJ (match g with|none=>0|some _=>(ng:Int)+(k:Int))] 24)::_::(bs.map E4++L)) (λg tw=>True) (λg=>OH g) (λg xn g1=>KB p x xn.1 g1) (λxn=>[.agg #[.pointer xn.2.1,.pointer xn.2.2.1,iJ (xn.2.2.2:Int)]]) (λg xn tw=>sT tw xn.1 (.agg #[.pointer xn.2.1,.pointer xn.2.2.1,iJ (xn.2.2.2:Int)])) (λg1=>g1=if tA p x (lI x.body 0)=0 then none else some (tA p x (lI x.body 0))) (AR:=(λxn fr A=>∃ βy,je fr [(8,jc βy),(1,jc β1),(2,jc β2),(5,jc β10),(6,jc β13),(7,jc β14)]/\A=[(βy,cb [.pointer xn.2.1,.pointer xn.2.2.1,iJ (xn.2.2.2:Int)] 133)])) (cap:=[_]) Z none Z (Tt) Z (λ_ _ _ h _=>h) (λg=>by cases g with
    | none=>exact .inl rfl
    | some f=>exact .inr (.inl rfl)) (λ_=>rfl) rfl ?_ ?_ ?_ ?_
  .intro l16 x16 L16 qW;refine Yr<|Bj Z [_,_,_] Z Z λβ17 tE qR=>yh 0 [_,_,_] Y9<|Yn ?_;exact ⟨rfl,rfl,⟨[_],⟨_,(.cons rfl (.cons rfl (.cons rfl (.cons rfl (.cons rfl (.cons rfl (.nil _))))))),rfl⟩,rfl⟩,qR⟩
  .rintro l18 d18 o18 p18 g xn yl ym fr18 A18 vm uh I18 hp18 P18 ⟨βy,hK18,rfl⟩;refine qxs hK18 ?_;simp only [iU,iV];obtain ⟨nd,pa,pb,lp⟩:=xn;have hN:=P18;simp only at hN;obtain rfl:g=none:=by cases g with
     | none=>rfl
     | some f=>cases hp18
   dsimp only;refine Yp<|Ys<|Yr<|lM (jh 5 [_,_,_] Y5) Z<|lM (jh 3 [_,_,_,_] Y5) Z<|lM (jh 0 [_,_,_] Y5) Z<|uO Y3 (qtD D _ _ d p Ag ng cg nf cf Pz Pz bm Pz x B1 B2 B3 m1 d1 m2 d2 m3 d3 Pz Pz nd Pz) ?_;rintro _ _ vN rQ ⟨rfl,rfl⟩;refine wS Z Z<|Yn<|Yt<|Ys<|Yr<|mc Y2<|IU Z Z Z<|Yn<|Yt<|?_;refine NW Z ?_ ?_<;>intro c21;.have hz:¬ j7 p x nd=0:=c21;refine Ys<|Yr<|mc Y2<|Me Z Z Z Z Z<|lM (Wd 9 Y5) Z<|Mh Z Z Z Z<|Cr 4 Y6<|Om Z Z Z (jB O O)<|uO Y3 (BR _ _) ?_;rintro _ _ BC AI ⟨rfl,rfl⟩;refine yh 8 [_,_] Y9<|Yn<|Yt<|Yo<|Yc<|?_;refine ⟨some (j7 p x nd),(by simp only [KB];rw [am hz]),Z,[_],Z,Lc,Tt⟩
   have hz:j7 p x nd=0:=c21;refine Yk<|Yb<|?_;refine ⟨none,(by simp only [KB];rw [aw hz]),Z,[_],Z,rQ,Tt⟩
  .intro l22 HH BC AI hY;refine (qpS HH (λg tw=>True) (OH) (λg nd g1=>KB p x nd g1) l22 none ((λ_=>0)) (lI x.body 0).length (λ_ _ _ _=>aB _) (λg s s' h hl=>h) ?_ (Tt) Z ba d x B1 B2 B3 m1 d1 m2 d2 m3 d3 Pz Pz xV.2.2.2.2.1 (Nat.le_of_eq (aZ _))).mono ?_
   . intro g nd nv s2 qs wY ri oR hN2
     obtain ⟨pa,pb,lp,rfl⟩:=hN2.agg;exact hY g (nd,pa,pb,lp) s2 (AI.trans qs) wY ri hN2
   . rintro v L' s3 _ ⟨g',h1,h2,h3⟩
     exact ⟨g',qrZ h1,h2,h3⟩
  intro d23 g zt yJ F23 I23;have hF:g=if tA p x (lI x.body 0)=0 then none else some (tA p x (lI x.body 0)):=F23
  cases g with
  | some f=>
   have hbn:¬ tA p x (lI x.body 0)=0:=λh=>by rw [aw h] at hF;cases hF
   rw [am hbn] at hF;injection hF with hF
   have hE:kU p=(f,(ng:Int)+(k:Int)):=by
     rw [kU,am vg,am g20,hS,qp2 hx,am hbn,<- hF,lX];simp
   refine Yc<|Yc<|Yu<|Yu<|Yc<|Yu<|?_;refine y8 (_::_::_::_::_::_::_::_::bs.map E4) L (.inr Z) (.agg (us:=[_,_]) 6 Z Z Z Z Z (.nil)) Z Lc ⟨_::bs,Z,List.Sublist.cons_cons _ (List.Sublist.cons _ (List.Sublist.cons _ (List.Sublist.cons _ (List.Sublist.cons _ (List.Sublist.cons _ (List.Sublist.cons _ (List.Sublist.cons _ (gr _))))))))⟩ λ_ iL=>?_;exact sQ
  | none=>
   have hbn:tA p x (lI x.body 0)=0:=by
     by_cases h:tA p x (lI x.body 0)=0
     . exact h
     . rw [am h] at hF;cases hF
   refine Yb<|Yb<|Yt<|qzb (aO [_] [_,_,_,_,_,_,_] _) ?_;simp only [iU,iV];refine Yr<|Om Z Z Z (jB O O)<|mc Y2<|Yn<|?_;refine NF ⟨(k+1,d23::bs),[_,_],Z,(.c6 Z Z Z Z Z Z (.nil _)),Z,⟨Lc,⟨by simp only;omega,by simp only;rw [hS,qp2 hx,aw hbn];rfl⟩⟩,Oz⟩
 rw [aK O,zr] at hS;have hE:kU p=(0,0):=by rw [kU,am vg,am g20,hS]
 refine Yl<|Yv<|Yv<|Yd<|Yt<|Ys<|Yr<|lM (jC [] [_,_] Y3 Z Z Z) Z<|yh 3 [_,_] Y9<|Yn<|Yt<|Yo<|?_;refine y8 (_::_::_::_::_::bs.map E4) L (.inr Z) (.agg (us:=[_,_]) 3 Z Z Z Z Z (.nil)) Z Lc ⟨bs,Z,List.Sublist.cons _ (List.Sublist.cons _ (List.Sublist.cons _ (List.Sublist.cons _ (List.Sublist.cons _ (gr _)))))⟩ λ_ iL=>?_;exact sQ
def qvi{l:List Ins}{y:Ins}(h:l[j]?=some y):l.take (j+1)=l.take j++[y]:=by
 obtain ⟨hj,rfl⟩:=al.1 h;rw [bM hj]
def Ik{p:Prop} (h:p:=by
 intro β1 s1 h1;refine G5 ?_;refine iI (jC [(_,_),(_,_)] [_,_] Y3 Z Z Z) Z<|Wt 0 [_,_] Y9<|G3 ?_;exact rR [_] L (.agg (us:=[_,_]) 0 Z Z Z Z Z (.nil)) Z h1 λ_ iL=>ry):p:=h
def Kq{r:Int}:AV9 D 38 [iO r] L s (.agg #[iJ 1,iO r]):=by
 refine jv (fn:=f38) jl func38 V Z ntmps38 Z (rs:=[.cell 2 104]) Z [(0,_)] Z<|Sr<|jp Z [_,_] Y2 ?_;exact Ik
def qGw{r:Int}:AV9 D 41 [iO r] L s (.agg #[iJ 0,iO r]):=by
 refine jv (fn:=f41) jl func41 V Z ntmps41 Z (rs:=[.cell 2 104]) Z [(0,_)] Z<|Sr<|jp Z [_,_] Y2 ?_;exact Ik
theorem qqt{y e:Tm}(hj:j < n)(hz:(j:Int)=0)(he:l[j]?=some e)(hy:y=if 1 < j then l.getD 1 ⟨0,0⟩ else ⟨0,0⟩):j+1<=n/\e=(if 0 < j+1 then l.getD 0 ⟨0,0⟩ else ⟨0,0⟩)/\y=(if 1 < j+1 then l.getD 1 ⟨0,0⟩ else ⟨0,0⟩):=by grind
theorem qqu{x e:Tm}(hj:j < n)(hz:¬ (j:Int)=0)(hn:n<=2)(he:l[j]?=some e)(hx:x=if 0 < j then l.getD 0 ⟨0,0⟩ else ⟨0,0⟩):j+1<=n/\x=(if 0 < j+1 then l.getD 0 ⟨0,0⟩ else ⟨0,0⟩)/\e=(if 1 < j+1 then l.getD 1 ⟨0,0⟩ else ⟨0,0⟩):=by grind
theorem XE(h:l.length<=i):l.getD i ⟨0,0⟩=⟨0,0⟩:=by grind
def Xk(tgt:Int){c:Nat}{l:List Tm}(hA:Cq s A n c l)(hl:l.length<=2):AV9 D 40 [iJ kd,iJ tgt,.slice A n c] L s (.agg #[iJ kd,iJ tgt,iJ (l.getD 0 ⟨0,0⟩).kind,iO (l.getD 0 ⟨0,0⟩).val,iJ (l.getD 1 ⟨0,0⟩).kind,iO (l.getD 1 ⟨0,0⟩).val]):=by
 have hn:=hA.1;refine jv (fn:=f40) jl func40 V Z ntmps40 Z (rs:=[.cell 6 112]) Z [(0,_),(1,_),(2,_)] Z<|Sr<|jp Z [_,_,_,_,_,_] Y2 λβ1 s1 h1=>G6 ?_;refine iI (jC [(_,_),(_,_)] [_,_,_,_,_,_] Y3 Z Z Z) Z<|jp Z [_,_,_,_,_,_] Y2 λβ2 s2 h2=>Wt 0 [_,_,_,_,_,_] Y9<|k8 ?_;refine lw (γ:=Nat×Tm×Tm) (λg=>[(6,_),(7,_),(13,_),(14,_),(15,iJ (g.1:Int))]) (λg=>(β2,cb [iJ kd,iJ tgt,iJ g.2.1.kind,iO g.2.1.val,iJ g.2.2.kind,iO g.2.2.val] 112)::(β1,cb [iJ 0,iJ 0,iJ 0,iO 0,iJ 0,iO 0] 112)::L) (λg tw=>Le D s2 tw/\(g.1<=n/\g.2.1=(if 0 < g.1 then l.getD 0 ⟨0,0⟩ else ⟨0,0⟩)/\g.2.2=(if 1 < g.1 then l.getD 1 ⟨0,0⟩ else ⟨0,0⟩))) (λg=>n - g.1) (λ_ _ _ h hl=>⟨h.1.trans hl,h.2⟩) (0,⟨0,0⟩,⟨0,0⟩) (.c5 Z Z Z Z Z (.nil _)) Z ⟨Le.refl _,⟨aB _,Z,Z⟩⟩ ?_;intro g s3 I3;obtain ⟨j,x,y⟩:=g;obtain ⟨oA,hx,hy⟩:=I3.2;simp only at oA hx hy;dsimp only;refine J6 ?_ ?_<;>intro c4
 .have hk:j < n:=by omega
  obtain ⟨b,off,e,rfl,he,tL,hue⟩:=Cq.at_ Pz hk;refine G7 ?_;refine iI (jR Y6 hk) Z<|iI (kq Y3 Pz Z) Z<|jp Z [_,_] Y2 λβ5 s5 h5=>me Y2<|Wt 0 [_,_] Y9<|J8 ?_ ?_<;>intro c6;.have yW:=c6;refine Zr<|iI (jh 0 [_,_] Y5) Z<|Wb Y5<|Wt 1 [_,_,_,_,_,_] Y9<|G4 ?_;refine ki Y3 (jB O O)<|G2 ?_;refine jd ⟨(j+1,e,y),[_],kp,Z,⟨Lc,by first|exact qqt hk yW he hy|exact qqu hk yW O he hx⟩,Oz⟩
  have yW:=c6;refine Zr<|iI (jh 0 [_,_] Y5) Z<|Wb Y5<|Wt 1 [_,_,_,_,_,_] Y9<|G4 ?_;refine ki Y3 (jB O O)<|G2 ?_;refine jd ⟨(j+1,x,e),[_],kp,Z,⟨Lc,by first|exact qqt hk yW he hy|exact qqu hk yW O he hx⟩,Oz⟩
 refine G7 ?_;refine iI (jh 0 [_,_,_,_,_,_] Y5) Z<|Wt 1 [_,_,_,_,_,_] Y9<|G3 ?_;refine rR [_,_] L (.agg (us:=[_,_,_,_,_,_]) 1 Z Z Z Z Z (.nil)) Z Lc λ_ iL=>?_;refine ⟨?_,Z⟩;have pR:j=n:=by omega
 have e1:x=l.getD 0 ⟨0,0⟩:=by
   rw [hx];split
   . rfl
   . rw [XE O]
 have e2:y=l.getD 1 ⟨0,0⟩:=by
   rw [hy];split
   . rfl
   . rw [XE O]
 rw [<- e1,<- e2];rfl
def qFd(name:iR)(op:Bool)(A:OAdr9)(n c:Nat)(β:Nat)(v:Value)(M:Hl)(i:Nat){xs:LVal9}(hO:Own 108 4 M v i xs)(hi:i<=1000):Ap9 D 39 [St name,.bool op,.slice A n c,jc β] (((β,cb [iJ 65536,v] 57)::M)++L) s λw L' s'=>∃ M',L'=M'++L/\w=.tuple #[]/\∃ v2 M2,M'=(β,cb [iJ 65536,v2] 57)::M2/\Own 108 4 M2 v2 (i+1) (xs++[St name,iO ((i:Int)+1),.bool op,.slice A n c]):=by
 obtain ⟨Av,cv,rfl,kv1,kv2⟩:=Own.slice hO;simp only [ao];refine jv (fn:=f39) jl func39 V Z ntmps39 Z (rs:=[]) Z [(0,_),(1,_),(2,_),(3,_)] Z<|G7 ?_;refine ki Y3 (jB O O)<|iI (sn Y5 (Dw O O)) Z<|G2 ?_;refine iI (jC [(_,_),(_,_),(_,_),(_,_)] [_,_,_,_] Y3 Z Z Z) Z<|kF [(_,_)] [_,_,_,_] Y9 λβn s1 h1 pf=>rp (sz:=4) [_] M L Y7 hO (Row.of_cells Pz Z Z) ⟨by simp [yp];omega,by omega⟩ Z ?_;intro v2 M2 s2 h2 o2;obtain ⟨Av2,cv2,rfl,_,_⟩:=Own.slice o2;simp only [iU,iV];refine Wb Y5<|Wt 0 [_,_] Y9<|Zn ?_;refine lC [] _ (.inl Z) (.nil) Z Lc λ_ iL=>?_;exact ⟨_::M2,rfl,rfl,_,M2,rfl,o2⟩
def qo1(A:OAdr9)(n c:Nat)(l:List Ac)(hA:pH s A n c l)(β:Nat)(Ap:OAdr9)(np cp:Nat)(lp:List Ac)(hP:pH s Ap np cp lp)(hn:n+np<=1000):Ap9 D 42 [.slice A n c,jc β] ((β,cb [.slice Ap np cp] 106)::L) s λv L' s'=>∃ M',L'=M'++((β,cb [.slice Ap np cp] 106)::L)/\∀ s2,Le D s' s2->mz M' s2->∃ A2 n2 c2,v=.slice A2 n2 c2/\pH s2 A2 n2 c2 (lp++l):=by
 refine jv (fn:=f42) jl func42 V Z ntmps42 Z (rs:=[.tmp 3]) Z [(0,_),(1,_)] Z<|G7 ?_;refine Kk (sz:=6) Z Z Z Z λβo s1 h1 oo=>Wl 1 Y6<|rp [] [_] _ Y7 oo (hP.row.le h1) ⟨by simp [yq];omega,by omega⟩ Z ?_;intro v1 A1 s2 h2 o1;simp only [aD];refine jY Y2<|rp [] A1 _ Y7 o1 (hA.row.le Lc) ⟨by simp [yq];omega,by omega⟩ Z ?_;intro v2 A2x s3 h3 o2;simp only [aD];refine G4 ?_;refine rR [] _ (.t1 Z) Z Lc λ_ iL=>?_;simp only [aD,aZ,<- qzv] at o2;obtain ⟨Av2,cv2,rfl,_,_⟩:=Own.slice o2;exact ⟨A2x,rfl,λs2 kb hp=>⟨_,_,_,rfl,Own.acs o2 (λa ha=>(aU.1 ha).elim (hP.u a) (hA.u a)) hp (by have:=hA.1;have:=hP.1;simp;omega)⟩⟩
def qrM(A:OAdr9)(n c:Nat)(l:List Ac)(hA:pH s A n c l)(β:Nat)(Ap:OAdr9)(np cp:Nat)(lp:List Ac)(hP:pH s Ap np cp lp)(hn:n+np<=1000):Ap9 D 42 [.slice A n c,jc β] ((β,cb [.slice Ap np cp] 106)::L) s λv L' s'=>(β,cb [.slice Ap np cp] 106)::L=L'/\∃ A2 n2 c2,v=.slice A2 n2 c2/\pH s' A2 n2 c2 (lp++l):=AC.pubW (qo1 L s A n c l hA β Ap np cp lp hP hn)
def qo2{c:Nat}{l:List Ac}(hA:pH s A n c l){β:Nat}{np cp:Nat}(hP:pH s Ap np cp lp)(hn:n+np<=1000):AM9 D 42 [.slice A n c,jc β] [(β,cb [.slice Ap np cp] 106)] L s λv M' s'=>M'=[(β,cb [.slice Ap np cp] 106)]/\∃ A2 n2 c2,v=.slice A2 n2 c2/\pH s' A2 n2 c2 (lp++l):=
 (qrM L s A n c l hA β Ap np cp lp hP hn).mono λv L' s' _ h=>⟨_,h.1.symm,rfl,h.2⟩
def SY{s:World}{l:List Ins}(h:kI (λx cs=>cs.length=4/\wO s x cs) l m)(hl:Le D s s'):kI (λx cs=>cs.length=4/\wO s' x cs) l m:=h.mono λa b h=>⟨h.1,h.2.le hl⟩
def Jo:List Ac:=[⟨2,2,⟨1,2⟩,⟨0,1⟩⟩,⟨13,1,⟨1,2⟩,⟨0,0⟩⟩]
def ji:l7:=⟨65536,[
 ⟨[115,116,111,112],1,false,[⟨17,0,⟨1,0⟩,⟨0,0⟩⟩]⟩,
 ⟨[110,117,109],2,true,[⟨0,0,⟨2,0⟩,⟨0,0⟩⟩]⟩,
 ⟨[108,111,97,100],3,true,[⟨13,0,⟨2,0⟩,⟨0,0⟩⟩]⟩,
 ⟨[115,116,111,114,101],4,true,[⟨14,0,⟨2,0⟩,⟨1,0⟩⟩]⟩,
 ⟨[108,111,99,97,108],5,true,[⟨2,1,⟨1,2⟩,⟨2,0⟩⟩,⟨13,0,⟨1,1⟩,⟨0,0⟩⟩]⟩,
 ⟨[97,115,115,105,103,110],6,true,[⟨2,1,⟨1,2⟩,⟨2,0⟩⟩,⟨14,0,⟨1,1⟩,⟨1,0⟩⟩]⟩,
 ⟨[102,101,116,99,104],7,true,[⟨1,1,⟨1,0⟩,⟨2,0⟩⟩,⟨13,0,⟨1,1⟩,⟨0,0⟩⟩]⟩,
 ⟨[112,117,116,97,116],8,true,[⟨2,2,⟨1,2⟩,⟨0,1⟩⟩,⟨13,1,⟨1,2⟩,⟨0,0⟩⟩,⟨1,1,⟨1,1⟩,⟨2,0⟩⟩,⟨14,0,⟨1,1⟩,⟨1,0⟩⟩]⟩,
 ⟨[112,117,115,104],9,false,[⟨14,0,⟨1,2⟩,⟨1,0⟩⟩,⟨1,2,⟨1,2⟩,⟨0,1⟩⟩]⟩,
 ⟨[100,114,111,112],10,true,[⟨2,2,⟨1,2⟩,⟨2,0⟩⟩]⟩,
 ⟨[97,100,100],11,false,[⟨2,2,⟨1,2⟩,⟨0,1⟩⟩,⟨13,1,⟨1,2⟩,⟨0,0⟩⟩,⟨1,0,⟨1,1⟩,⟨1,0⟩⟩]⟩,
 ⟨[115,117,98],12,false,[⟨2,2,⟨1,2⟩,⟨0,1⟩⟩,⟨13,1,⟨1,2⟩,⟨0,0⟩⟩,⟨2,0,⟨1,1⟩,⟨1,0⟩⟩]⟩,
 ⟨[109,117,108],13,false,[⟨2,2,⟨1,2⟩,⟨0,1⟩⟩,⟨13,1,⟨1,2⟩,⟨0,0⟩⟩,⟨3,0,⟨1,1⟩,⟨1,0⟩⟩]⟩,
 ⟨[100,105,118],14,false,[⟨2,2,⟨1,2⟩,⟨0,1⟩⟩,⟨13,1,⟨1,2⟩,⟨0,0⟩⟩,⟨18,0,⟨0,2⟩,⟨1,0⟩⟩,⟨4,0,⟨1,1⟩,⟨1,0⟩⟩]⟩,
 ⟨[109,111,100],15,false,[⟨2,2,⟨1,2⟩,⟨0,1⟩⟩,⟨13,1,⟨1,2⟩,⟨0,0⟩⟩,⟨18,0,⟨0,2⟩,⟨1,0⟩⟩,⟨5,0,⟨1,1⟩,⟨1,0⟩⟩]⟩,
 ⟨[97,110,100],16,false,[⟨2,2,⟨1,2⟩,⟨0,1⟩⟩,⟨13,1,⟨1,2⟩,⟨0,0⟩⟩,⟨6,0,⟨1,1⟩,⟨1,0⟩⟩]⟩,
 ⟨[111,114],17,false,[⟨2,2,⟨1,2⟩,⟨0,1⟩⟩,⟨13,1,⟨1,2⟩,⟨0,0⟩⟩,⟨7,0,⟨1,1⟩,⟨1,0⟩⟩]⟩,
 ⟨[120,111,114],18,false,[⟨2,2,⟨1,2⟩,⟨0,1⟩⟩,⟨13,1,⟨1,2⟩,⟨0,0⟩⟩,⟨8,0,⟨1,1⟩,⟨1,0⟩⟩]⟩,
 ⟨[108,101,102,116],19,false,[⟨2,2,⟨1,2⟩,⟨0,1⟩⟩,⟨13,1,⟨1,2⟩,⟨0,0⟩⟩,⟨9,0,⟨1,1⟩,⟨1,0⟩⟩]⟩,
 ⟨[114,105,103,104,116],20,false,[⟨2,2,⟨1,2⟩,⟨0,1⟩⟩,⟨13,1,⟨1,2⟩,⟨0,0⟩⟩,⟨10,0,⟨1,1⟩,⟨1,0⟩⟩]⟩,
 ⟨[101,113],21,false,[⟨2,2,⟨1,2⟩,⟨0,1⟩⟩,⟨13,1,⟨1,2⟩,⟨0,0⟩⟩,⟨11,0,⟨1,1⟩,⟨1,0⟩⟩]⟩,
 ⟨[108,101,115,115],22,false,[⟨2,2,⟨1,2⟩,⟨0,1⟩⟩,⟨13,1,⟨1,2⟩,⟨0,0⟩⟩,⟨12,0,⟨1,1⟩,⟨1,0⟩⟩]⟩,
 ⟨[109,111,114,101],23,false,[⟨2,2,⟨1,2⟩,⟨0,1⟩⟩,⟨13,1,⟨1,2⟩,⟨0,0⟩⟩,⟨12,0,⟨1,0⟩,⟨1,1⟩⟩]⟩,
 ⟨[122,101,114,111],24,false,[⟨11,0,⟨1,0⟩,⟨0,0⟩⟩]⟩,
 ⟨[98,111,117,110,100],25,true,[⟨12,1,⟨1,0⟩,⟨2,0⟩⟩,⟨18,0,⟨0,1⟩,⟨1,1⟩⟩]⟩,
 ⟨[106,117,109,112],26,true,[⟨0,4,⟨2,0⟩,⟨0,0⟩⟩]⟩,
 ⟨[106,122,101,114,111],27,true,[⟨19,4,⟨2,0⟩,⟨1,0⟩⟩]⟩,
 ⟨[99,97,108,108],28,true,[⟨1,3,⟨1,3⟩,⟨0,1⟩⟩,⟨12,1,⟨1,3⟩,⟨0,101⟩⟩,⟨18,0,⟨0,3⟩,⟨1,1⟩⟩,⟨14,0,⟨1,2⟩,⟨1,4⟩⟩,⟨1,2,⟨1,2⟩,⟨0,1⟩⟩,⟨0,4,⟨2,0⟩,⟨0,0⟩⟩]⟩,
 ⟨[114,101,116],29,true,[⟨2,2,⟨1,2⟩,⟨2,0⟩⟩,⟨13,4,⟨1,2⟩,⟨0,0⟩⟩,⟨2,3,⟨1,3⟩,⟨0,1⟩⟩]⟩,
 ⟨[103,101,116],30,false,[⟨15,0,⟨0,0⟩,⟨0,0⟩⟩]⟩,
 ⟨[112,117,116],31,false,[⟨16,0,⟨1,0⟩,⟨0,0⟩⟩]⟩,
 ⟨[115,116,97,99,107],32,true,[⟨0,2,⟨2,0⟩,⟨0,0⟩⟩]⟩]⟩
end
section
variable{c:UInt8}{l:iR}{n a:iR}{w:LInt9}{x:iT}
abbrev pp:iR:=[110,117,109]
abbrev qj:iR:=[112,117,115,104]
abbrev Dx:iR:=[98,111,117,110,100]
abbrev Oh:iR:=[102,101,116,99,104]
abbrev MD:iR:=[103,101,116]
abbrev qz:iR:=[122,101,114,111]
abbrev EB:iR:=[115,117,98]
abbrev tv:iR:=[106,122,101,114,111]
abbrev vE:iR:=[106,117,109,112]
abbrev Tw:iR:=[115,116,111,114,101]
abbrev NG:iR:=[97,115,115,105,103,110]
abbrev Oj:iR:=[112,117,116,97,116]
abbrev DM:iR:=[114,101,116]
abbrev ME:iR:=[112,117,116]
abbrev Bv:iR:=[115,116,111,112]
abbrev QD:iR:=[100,114,111,112]
abbrev z6:iR:=[99,97,108,108]
abbrev EZ:iR:=[115,116,97,99,107]
abbrev Oi:iR:=[108,111,99,97,108]
abbrev QF:iR:=[108,111,97,100]
abbrev pB:iR:=[119,111,114,100]
abbrev so:iR:=[115,112,97,99,101]
abbrev vK:iR:=[101,110,100]
abbrev LJ:iR:=[109,117,108]
abbrev LH:iR:=[100,105,118]
abbrev LI:iR:=[109,111,100]
abbrev XH:iR:=[108,101,102,116]
abbrev qyn:iR:=[114,105,103,104,116]
abbrev LG:iR:=[97,110,100]
abbrev LF:iR:=[97,100,100]
abbrev wOr:iR:=[111,114]
abbrev LK:iR:=[120,111,114]
abbrev OU:iR:=[101,113]
abbrev OQ:iR:=[108,101,115,115]
abbrev OR:iR:=[109,111,114,101]
inductive Li where
 | op (n:iR)
 | ref (n a:iR)
 | num (n:iR) (v:Int)
 | lab (a:iR)
def wy:Li->iR
 | .op n=>32::n
 | .ref n a=>32::(n++32::a)
 | .num n v=>32::(n++32::o4 v)
 | .lab a=>a++[58]
def yY(y:Li):iR:=wy y++[10]
def cT(l:List Li):iR:=(l.map yY).flatten
def lu(a b:List Li):cT (a++b)=cT a++cT b:=by simp [cT]
def kZ(y:Li)(l:List Li):cT (y::l)=yY y++cT l:=rfl
def lz:cT []=[]:=rfl
def lT(k:Nat):iR:=108::o4 k
def gT(i:Int):iR:=103::o4 i
def fT(i:Int):iR:=102::o4 i
def gE(p:ja):List (iR×(Int×Int)):=p.o.mapIdx λi g=>(g.name,((3:Int),(i:Int)))
def fE(p:ja):List (iR×(Int×Int)):=p.funcs.mapIdx λi x=>(x.name,((4:Int),(i:Int)))
def sE(x:iT):List (iR×(Int×Int)):=(x.locals.mapIdx λi w=>(w,((2:Int),((x.params.length+1+i:Nat):Int))))++(x.params.mapIdx λi w=>(w,((1:Int),(i:Int))))
def mr(T:List (iR×(Int×Int)))(nm:iR):Option Int:=(T.find? λe=>decide (e.1=nm)).map λe=>e.2.2
def gi(p:ja)(nm:iR):Int:=(mr (gE p) nm).getD 0
def fi(p:ja)(nm:iR):Int:=(mr (fE p) nm).getD 0
def vi(p:ja)(i:Int):Int:=match p.o[i.toNat]? with
 | some g=>g.num
 | none=>0
def jt(x:iT):Nat:=x.params.length+1+x.locals.length
def cN(p:ja)(x:iT)(nm:iR)(w:Nat):Li:=match mr (sE x) nm with
 | some a=>.num Oi ((jt x:Int)+(w:Int) - a)
 | none=>if Bz p (gi p nm)=1 then .num pp (vi p (gi p nm)) else .ref QF (gT (gi p nm))
def BK(p:ja)(x:iT)(nm:iR):Li:=match mr (sE x) nm with
 | some a=>.num NG ((jt x:Int) - a)
 | none=>.ref Tw (gT (gi p nm))
def cL(p:ja)(nm:iR)(n:Nat):List Li:=.ref z6 (fT (fi p nm))::(if 0 < n then [.num QD n] else [])
def Qm:List (List iR):=[[],[],[],[],[LJ],[LH],[LI],[XH],[qyn],[LG],[LF],[EB],[wOr],[LK],[OU],[OU,qz],[OQ],[OR,qz],[OR],[OQ,qz]]
def x5(o:Int):List iR:=Qm.getD o.toNat []
mutual
def cE(p:ja)(x:iT):Ex->Nat->Nat->List Li×Nat
 | .mk kd o n nm az,w,k=>if kd=1 then ([.num pp n],k) else if kd=2 then ([cN p x nm w],k)
  else if kd=3 then ((cH p x az w k).1++[.num Dx (vi p (gi p nm)),.ref Oh (gT (gi p nm))],(cH p x az w k).2)
  else if kd=4 then ((cC p x az w k).1++cL p nm az.length,(cC p x az w k).2)
  else if kd=5 then ([.op MD],k)
  else if kd=6 then (if o=1 then ((cH p x az w k).1++[.op qz],(cH p x az w k).2)
   else (.num pp (if o=3 then 4294967295 else 0)::.op qj::(cH p x az (w+1) k).1++[.op EB],(cH p x az (w+1) k).2))
  else if o=20 then ((cH p x az w k).1++.ref tv (lT ((cH p x az w k).2+1))::(cI p x az w ((cH p x az w k).2+1)).1++[.op qz,.op qz,.lab (lT ((cH p x az w k).2+1))],(cI p x az w ((cH p x az w k).2+1)).2)
  else if o=21 then ((cH p x az w k).1++.op qz::.ref tv (lT ((cH p x az w k).2+1))::(cI p x az w ((cH p x az w k).2+1)).1++[.op qz,.lab (lT ((cH p x az w k).2+1)),.op qz],(cI p x az w ((cH p x az w k).2+1)).2)
  else ((cH p x az w k).1++.op qj::(cI p x az (w+1) (cH p x az w k).2).1++(x5 o).map .op,(cI p x az (w+1) (cH p x az w k).2).2)
def cH(p:ja)(x:iT):List Ex->Nat->Nat->List Li×Nat
 | [],_,k=>([],k)
 | y::_,w,k=>cE p x y w k
def cI(p:ja)(x:iT):List Ex->Nat->Nat->List Li×Nat
 | [],_,k=>([],k)
 | _::r,w,k=>cH p x r w k
def cC(p:ja)(x:iT):List Ex->Nat->Nat->List Li×Nat
 | [],_,k=>([],k)
 | y::r,w,k=>((cE p x y w k).1++.op qj::(cC p x r (w+1) (cE p x y w k).2).1,(cC p x r (w+1) (cE p x y w k).2).2)
end
mutual
def cS(p:ja)(x:iT):jb->Nat->List iR->List Li×Nat
 | .mk kd nm es b e,k,ls=>if kd=1 then ((cH p x es 0 k).1++[BK p x nm],(cH p x es 0 k).2)
  else if kd=2 then ((cH p x es 0 k).1++.num Dx (vi p (gi p nm))::.op qj::(cI p x es 1 (cH p x es 0 k).2).1++[.ref Oj (gT (gi p nm))],(cI p x es 1 (cH p x es 0 k).2).2)
  else if kd=3 then (if e.length=0 then ((cH p x es 0 (k+1)).1++.ref tv (lT (k+1))::(cB p x b (cH p x es 0 (k+1)).2 ls).1++[.lab (lT (k+1))],(cB p x b (cH p x es 0 (k+1)).2 ls).2)
   else ((cH p x es 0 (k+1)).1++.ref tv (lT (k+1))::(cB p x b (cH p x es 0 (k+1)).2 ls).1++.ref vE (lT ((cB p x b (cH p x es 0 (k+1)).2 ls).2+1))::.lab (lT (k+1))::(cB p x e ((cB p x b (cH p x es 0 (k+1)).2 ls).2+1) ls).1++[.lab (lT ((cB p x b (cH p x es 0 (k+1)).2 ls).2+1))],(cB p x e ((cB p x b (cH p x es 0 (k+1)).2 ls).2+1) ls).2))
  else if kd=4 then (.lab (lT (k+1))::(cH p x es 0 (k+2)).1++.ref tv (lT (k+2))::(cB p x b (cH p x es 0 (k+2)).2 (ls++[lT (k+1),lT (k+2)])).1++[.ref vE (lT (k+1)),.lab (lT (k+2))],(cB p x b (cH p x es 0 (k+2)).2 (ls++[lT (k+1),lT (k+2)])).2)
  else if kd=5 then ((cC p x es 0 k).1++cL p nm es.length,(cC p x es 0 k).2)
  else if kd=6 then ((cH p x es 0 k).1++[.num DM (x.locals.length+1:Nat)],(cH p x es 0 k).2)
  else if kd=7 then ((cH p x es 0 k).1++[.op ME],(cH p x es 0 k).2)
  else if kd=8 then ((cH p x es 0 k).1++[.op Bv],(cH p x es 0 k).2)
  else if kd=9 then ([.ref vE (ls.getD (ls.length - 1) [])],k) else ([.ref vE (ls.getD (ls.length - 2) [])],k)
def cB(p:ja)(x:iT):List jb->Nat->List iR->List Li×Nat
 | [],k,_=>([],k)
 | y::r,k,ls=>((cS p x y k ls).1++(cB p x r (cS p x y k ls).2 ls).1,(cB p x r (cS p x y k ls).2 ls).2)
end
def cF(p:ja)(x:iT)(i k:Nat):List Li×Nat:=(.lab (fT i)::(if 0 < x.locals.length then [.num pp 0] else [])++List.replicate x.locals.length (.op qj)++(cB p x x.body k []).1++[.num pp 0,.num DM (x.locals.length+1:Nat)],(cB p x x.body k []).2)
def qY(p:ja):List iT->Nat->Nat->List Li×Nat
 | [],_,k=>([],k)
 | x::r,i,k=>((cF p x i k).1++(qY p r (i+1) (cF p x i k).2).1,(qY p r (i+1) (cF p x i k).2).2)
def cG(g:jM)(i:Nat):List Li:=if g.kind=1 then [] else .lab (gT i)::g.init.map (.num pB ·)++[.num so (max g.num 1 - (g.init.length:Int))]
def ue:List jM->Nat->List Li
 | [],_=>[]
 | g::r,i=>cG g i++ue r (i+1)
def cP(p:ja):List Li:=[.ref EZ vK,.ref z6 (fT (fi p jy)),.num pp 0,.op Bv]++(qY p p.funcs 0 0).1++ue p.o 0++[.lab vK]
def yI(g:jM):Int:=if g.kind=2 then 1 else if g.kind=3 then g.num else 0
def zm:List jM->Int
 | []=>0
 | g::r=>yI g+zm r
def uW(p:ja):Int:=100+zm p.o+60 * p.funcs.length+30 * uE p.funcs
def qAv(h:c ∉ l):qQ c l=none:=by
 induction l with
 | nil=>rfl
 | cons x l ih=>
  simp only [aW,il] at h;have hx:¬ x=c:=λe=>h.1 e.symm;simp [qQ,hx,ih h.2]
def JY(h:c ∉ l):po c l=(l,[],false):=by unfold po;rw [qAv h]
def YM{m:iR}(h:c ∉ m)(lA r:iR):uz (c.toNat:Int) lA (m++c::r)=(lA++m)::splitB (c.toNat:Int) r:=by
 induction m generalizing lA with
 | nil=>simp [uz,splitB]
 | cons x m ih=>
  simp only [aW,il] at h;have hx:¬ (x.toNat:Int)=(c.toNat:Int):=λe=>h.1 (yu.2 e).symm;rw [ao,uz,am hx,ih h.2,an];rfl
def Ft(c:UInt8):Bool:=uG c || tB c
def qA5:∀ k:Fin 256,Ft (UInt8.ofNat k.val)=true->UInt8.ofNat k.val≠10/\UInt8.ofNat k.val≠32/\UInt8.ofNat k.val≠43/\UInt8.ofNat k.val≠58/\UInt8.ofNat k.val≠59:=by decide +kernel
def EX(h:Ft c=true):c≠10/\c≠32/\c≠43/\c≠58/\c≠59:=by
 have h1:=qA5 ⟨c.toNat,c.toNat_lt⟩;simp only [UInt8.ofNat_toNat] at h1;exact h1 h
abbrev Ch(w:iR):Prop:=w≠[]/\∀ c∈w,Ft c=true
def qFL(h:sG i l=true):∀ c∈l,Ft c=true:=by
  induction l generalizing i with
  | nil=>intro c hc;cases hc
  | cons x l ih=>
    simp only [sG,aA] at h;intro c hc;rcases aW.1 hc with rfl|hc
    . have h1:=h.1
      simp only [tV,dh,aA] at h1;simp only [Ft,dh];exact h1.imp id (·.1)
    . exact ih h.2 c hc
def yb{l:iR}(h:nJ l=true):Ch l:=by
 simp only [nJ,aA,aF] at h;exact ⟨h.1.1,qFL h.2⟩
def IZ{v:Int}:Ch (o4 v):=⟨Od _,λc hc=>by simp [Ft,bV.1 (JZ v.toNat) c hc]⟩
def Bn{w:iR}(h:Ch w):(10:UInt8) ∉ w/\(43:UInt8) ∉ w/\(58:UInt8) ∉ w/\(59:UInt8) ∉ w:=
 ⟨λm=>(EX (h.2 _ m)).1 rfl,λm=>(EX (h.2 _ m)).2.2.1 rfl,λm=>(EX (h.2 _ m)).2.2.2.1 rfl,λm=>(EX (h.2 _ m)).2.2.2.2 rfl⟩
def qqH{m:iR}(h:Ch m):rv [] m=[m]:=by
 have h1:=Ns [] m [] λx hx=>(EX (h.2 x hx)).2.1;rw [aE,aD] at h1;rw [h1,rv,am h.1]
def qF3(h:Ch n):uZ (32::n)=[n]:=by
 unfold uZ splitB;rw [MY,rv,aw rfl,aw rfl,qqH h]
def qAt(h:Ch n)(ha:Ch a):uZ (32::(n++32::a))=[n,a]:=by
 unfold uZ splitB;rw [MY,rv,aw rfl,aw rfl,Ns [] n _ λx hx=>(EX (h.2 x hx)).2.1,aD,rv,aw rfl,am h.1,qqH ha]
def qAr(h:Ch a):uZ (a++[58])=[a++[58]]:=by
 unfold uZ splitB;rw [MY];have h1:=Ns [] (a++[58]) [] λx hx=>by
  rcases aU.1 hx with h2|h2
  . exact (EX (h.2 x h2)).2.1
  . rw [aV.1 h2];decide
 rw [aE,aD] at h1;rw [h1,rv,am (by simp)]
def N_(h:Ch n):Dy 58 n=false:=by
 rw [Dy,ei];exact λe=>(Bn h).2.2.1 (List.mem_of_getLast? e)
def qFR(v:Int):nJ (o4 v)=false:=by
 cases hd:o4 v with
 | nil=>rfl
 | cons x l=>
  have h1:=bV.1 (JZ v.toNat) x (by show x∈o4 v;rw [hd];exact cV ..);simp only [tB,aA,aF] at h1;have h2:uG x=false:=by rw [eD];simp only [uG,fO,aA,aF];omega
  simp [nJ,sG,tV,h2]
def zQ(n:iR):Bool:=nJ n && (rr ji.U n).isSome && !FA ji n && !yi n
def Bi(n:iR):Bool:=nJ n && (rr ji.U n).isSome && FA ji n && !yi n
def tR:Li->Prop
 | .op n=>zQ n=true
 | .ref n a=>Bi n=true/\nJ a=true
 | .num n v=>(Bi n=true\/n=pB\/n=so)/\iY v
 | .lab a=>nJ a=true
def oJ:Li->Ln
 | .op n=>⟨[],n,false,[],0⟩
 | .ref n a=>⟨[],n,true,a,0⟩
 | .num n v=>⟨[],n,true,[],v⟩
 | .lab a=>⟨a,[],false,[],0⟩
def qH:Li->Nat
 | .op _=>1
 | .ref _ _=>2
 | .num n v=>if n=pB then 1 else if n=so then v.toNat else 2
 | .lab _=>0
def cW(l:List Li):Nat:=(l.map qH).sum
def mJ(l:List Li):List iR:=l.filterMap λ|.lab a=>some a|_=>none
def rl(l:List Li):List iR:=l.filterMap λ|.ref _ a=>some a|_=>none
def Nb(h:Bi n=true\/n=pB\/n=so):nJ n=true:=by
 rcases h with h|rfl|rfl
 . simp only [Bi,aA] at h;exact h.1.1.1
 . decide
 . decide
def t_{x:iR×Int}(h:nJ n=true)(ha:Ch a)(hx:xI a=some x):qJ (32::(n++32::a))=some ⟨[],n,true,x.1,x.2⟩/\(10:UInt8) ∉ 32::(n++32::a):=by
 have hn:=yb h;have hc:po 59 (32::(n++32::a))=(32::(n++32::a),[],false):=JY (by simp [Bn hn,Bn ha]);refine ⟨?_,by simp [Bn hn,Bn ha]⟩;rw [FT (W:=[n,a]) (lab:=[]) (R:=[n,a]) (by rw [hc];exact qAt hn ha) (by rw [CN,am (by rw [N_ hn];decide)]),Zw h,hx];rfl
def qrc{y:Li}(h:tR y):qJ (wy y)=some (oJ y)/\(10:UInt8) ∉ wy y:=by
 cases y with
 | op n=>
  have h1:nJ n=true:=by simp only [tR,zQ,aA] at h;exact h.1.1.1
  have hn:=yb h1;have hc:po 59 (32::n)=(32::n,[],false):=JY (by simp [Bn hn]);refine ⟨?_,by simp [wy,Bn hn]⟩;rw [wy,FT (W:=[n]) (lab:=[]) (R:=[n]) (by rw [hc];exact qF3 hn) (by rw [CN,am (by rw [N_ hn];decide)]),Zq h1];rfl
 | ref n a=>exact t_ (x:=(a,0)) (Nb (.inl h.1)) (yb h.2) (by rw [xI,JY (Bn (yb h.2)).2.1,aw h.2];rfl)
 | num n v=>
  obtain ⟨h1,hv⟩:=h;obtain ⟨u,rfl⟩:=aX hv.1;have:=hv.2;exact t_ (x:=([],(u:Int))) (Nb h1) (IZ) (by rw [xI,JY (Bn (IZ)).2.1,am (by rw [qFR];decide)];show (vL (Lib.decDigits u)).map _=_;rw [z_ O];rfl)
 | lab a=>
  have hn:=yb h;have hc:po 59 (a++[58])=(a++[58],[],false):=JY (by simp [Bn hn]);refine ⟨?_,by simp [wy,Bn hn]⟩;rw [wy,FT (W:=[a++[58]]) (lab:=a) (R:=[]) (by rw [hc];exact qAr hn) (by rw [CN,aw (by simp [Dy]),fH];exact aw h)];rfl
def IH{p:Prop} (h:p:=by
 simp only [Bi,aA,dD] at h;exact ⟨(yb h.1.1.1).1,λe=>by rw [e] at h;exact absurd h.2 Dc,λe=>by rw [e] at h;exact absurd h.2 Dc,h.2⟩):p:=h
def Sw{y:Li}(h:tR y):(pC ji w (oJ y)).length=w.length+qH y:=by
  have hs:∀ n,Bi n=true->n≠[]/\n≠pB/\n≠so/\yi n=false:=λn h=>by
    exact IH
  cases y with
  | op n=>
    simp only [tR,zQ,aA,dD] at h;have h1:=(yb h.1.1.1).1;have h2:n≠rF:=λe=>by rw [e] at h;exact absurd h.2 Dc
    simp [pC,oJ,pz,h1,h2,h.2,qH]
  | ref n a => 
    obtain ⟨h1,h2,h3,h4⟩:=hs n h.1;simp [pC,oJ,pz,h1,show n≠rF from h3,h4,qH]
  | num n v=>
    obtain ⟨h0|rfl|rfl,hv⟩:=h
    . obtain ⟨h1,h2,h3,h4⟩:=hs n h0
      simp [pC,oJ,pz,h1,show n≠rF from h3,h4,qH,h2,h3]
    . simp [pC,oJ,pz,qH,show ¬ pB=rF by decide,show yi pB=true by decide]
    . simp [pC,oJ,pz,qH,show so=rF from rfl,show ¬ rF=pB by decide,show ¬ rF=[] by decide]
  | lab a=>simp [pC,oJ,qH]
def Iz{p:Prop} (h:p:=by
 have h1:=(yb h.1.1.1).1;have h2:n≠[115,112,97,99,101]:=λe=>by rw [e] at h;exact absurd h.2 Dc
 simp only [oJ] at kz ⊢;simp [oZ,h1,h2,h.1.1.2,h.1.2,h.2,kz]):p:=h
def ZH{l:List (iR×Int)}{y:Li}(h:tR y)(hf:∀ a,y=.lab a->ml l a=none)(hw:w.length+qH y<=65536):oZ ji w l (some (oJ y))=0:=by
  have hl:=Sw (w:=w) h;have kz:¬ ji.cells < ((pC ji w (oJ y)).length:Int):=by rw [hl];show ¬ (65536:Int) < _;omega
  cases y with
  | op n=>
    simp only [tR,zQ,aA,dD] at h;exact Iz
  | ref n a=>
    have h:=h.1;simp only [Bi,aA,dD] at h;exact Iz
  | num n v=>
    obtain ⟨h0|rfl|rfl,hv⟩:=h
    . simp only [Bi,aA,dD] at h0
      have h1:=(yb h0.1.1.1).1;simp only [oJ] at kz ⊢;simp [oZ,h1,h0.1.1.2,h0.1.2,h0.2,kz]
    all_goals
      simp only [oJ] at kz ⊢;simp [oZ,show yi pB=true by decide,show yi so=true by decide,kz]
  | lab a=>
    have h1:=(yb h).1;simp [oZ,oJ,h1,hf a rfl]
def Yq{l:List (iR×Int)}{y:Li}(h:tR y)(hf:∀ a,y=.lab a->ml l a=none)(a:iR):(ml (xC w l (oJ y)) a).isSome=((ml l a).isSome || (mJ [y]).contains a):=by
 cases y with
 | lab b=>
  have h1:=(yb h).1;simp only [xC,oJ,h1,cm];rw [Yw _ _ _ _ (hf b rfl)];by_cases e:a=b<;>simp [mJ,e]
 | _=>simp [xC,oJ,mJ]
def qpY(t:l7)(i:Nat)(w:LInt9)(l:List (iR×Int))(r:List (Int×Nat×iR×Int)):uY t i w l r (splitB 10 [])=.inr (w,l,r):=by
 show uY t i w l r [[]]=_;rw [MW (show qJ []=some ⟨[],[],false,[],0⟩ by decide) (by simp [oZ])];simp [uY,pC,xC,tS]
def qxA:∀ (L:List Li) (i:Nat) (w:LInt9) (l:List (iR×Int)) (r:List (Int×Nat×iR×Int)),(∀ y∈L,tR y)->(mJ L).Nodup->(∀ a∈mJ L,ml l a=none)->w.length+cW L<=65536 ->
    ∃ w' l' r',uY ji i w l r (splitB 10 (cT L))=.inr (w',l',r')/\(∀ a,(ml l a).isSome=true\/a∈mJ L->(ml l' a).isSome=true)/\∀ x∈r',x∈r\/x.2.2.1∈rl L
  | [],i,w,l,r,_,_,_,_=>⟨w,l,r,qpY ..,λa h=>h.elim id λh=>by (cases h),λx h=>.inl h⟩
  | y::L,i,w,l,r,hk,hn,hf,hw=>by
    have hy:=hk y Mc;obtain ⟨h1,h2⟩:=qrc hy;have e1:mJ (y::L)=mJ [y]++mJ L:=by rw [mJ,mJ,mJ,<- dw];rfl
    have e2:rl (y::L)=rl [y]++rl L:=by rw [rl,rl,rl,<- dw];rfl
    rw [e1] at hn hf;rw [cW,aS,dW] at hw;rw [bL] at hn;have hf1:∀ a,y=.lab a->ml l a=none:=λa e=>hf a (by subst e;simp [mJ]);have hs:splitB 10 (cT (y::L))=wy y::splitB 10 (cT L):=by
      have:=YM (c:=10) h2 [] (cT L);rw [kZ,yY,an];exact this
    have hg:=Yq (w:=w) hy hf1;obtain ⟨w',l',r',h3,h4,h5⟩:=qxA L (i+1) (pC ji w (oJ y)) (xC w l (oJ y)) (tS ji w r i (oJ y)) (λz hz=>hk z (aq _ hz)) hn.2.1 (λa ha=>by
      have:=hg a;rw [hf a (aJ _ ha),show (mJ [y]).contains a=false by rw [<- Bool.not_eq_true,fh];exact λh=>hn.2.2 a h a ha rfl] at this;simpa using this) (by rw [Sw hy,cW];omega)
    refine ⟨w',l',r',by rw [hs,MW h1 (ZH hy hf1 O),h3],λa ha=>h4 a ?_,λx hx=>?_⟩
    . rw [hg a,e1,aU] at *
      rcases ha with ha|ha|ha
      . exact .inl (by rw [ha];rfl)
      . exact .inl (by rw [dh,fh];exact .inr ha)
      . exact .inr ha
    . rw [e2,aU]
      rcases h5 x hx with h6|h6
      . unfold tS sp at h6
        split at h6
        . exact .inl h6
        split at h6
        . exact .inl h6
        split at h6
        . rename_i h7
          rcases aU.1 h6 with h8|h8
          . exact .inl h8
          . right;left
            rw [aV.1 h8];cases y<;>simp_all [oJ,rl]
        . exact .inl h6
      . exact .inr (.inr h6)
def qyb{l:List (iR×Int)}:∀ (r:List (Int×Nat×iR×Int)) (w:LInt9),(∀ x∈r,(ml l x.2.2.1).isSome=true)->∃ w',vM l r w=.inr w'
 | [],w,_=>⟨w,rfl⟩
 | x::r,w,h=>by
  obtain ⟨a,ha⟩:=ec.1 (h x Mc);rw [vM,ha];exact qyb r _ λy hy=>h y (aq _ hy)
def To:(oI ji).1=0:=by decide +kernel
def qpZ{L:List Li}(hk:∀ y∈L,tR y)(hn:(mJ L).Nodup)(hr:∀ a∈rl L,a∈mJ L)(hw:cW L<=65536)(hl:(cT L).length<=400000):∃ x,sr ji (cT L)=.inr x:=by
 obtain ⟨w,l,r,h1,h2,h3⟩:=qxA L 0 [] [] [] hk hn (λ_ _=>rfl) (by simpa using hw);obtain ⟨w',h4⟩:=qyb r w λx hx=>h2 _ (.inr (hr _ ((h3 x hx).resolve_left (by simp))));exact ⟨_,by rw [sr,am (by simpa using To),am O,h1];simp only [h4];rfl⟩
def qqk{l:iR}(h:l.all tB=true)(i:Nat):sG (i+1) l=true:=by
 induction l generalizing i with
 | nil=>rfl
 | cons c l ih=>
  simp only [eb,aA] at h;simp [sG,tV,h.1,ih h.2]
def x8(hc:uG c=true)(h:k<=99999):nJ (c::o4 k)=true:=by
 have h1:(o4 (k:Int)).length<=5:=by
  show (Lib.decDigits k).length<=5;rw [eL];exact qrl 4 k O
 have h2:=qqk (JZ k) 0;simp only [nJ,sG,tV,hc,gS,fy,aA,aF,au];exact ⟨⟨by simp,by omega⟩,h2⟩
def SU(h:o4 (i:Int)=o4 (j:Int)):i=j:=by
 have h:Lib.decDigits i=Lib.decDigits j:=h;rw [<- FZ i,h,FZ]
def qx1(h:lT i=lT j):i=j:=SU (ey h).2
def uK(p:ja)(ls:List iR)(a:iR):Prop:=(∃ i:Nat,i < p.funcs.length/\a=fT i)\/(∃ (i:Nat) (g:jM),p.o[i]?=some g/\g.kind≠1/\a=gT i)\/a∈ls
def lS(S:Nat->Prop)(a:iR):Prop:=∃ i,S i/\a=lT i
structure CG(Vq9:Li->Prop)(E D:iR->Prop)(L:List Li):Prop where
 ok:∀ y∈L,tR y/\Vq9 y
 nd:(mJ L).Nodup
 mem:∀ a,a∈mJ L↔D a
 refs:∀ a∈rl L,D a\/E a
def Gd(A B:List Li):cW (A++B)=cW A+cW B:=by simp [cW]
def s_(A B:List Li):mJ (A++B)=mJ A++mJ B:=dw ..
def quT(A B:List Li):rl (A++B)=rl A++rl B:=dw ..
section
variable{Vq9:Li->Prop}{E D D1 D2 E' D':iR->Prop}{A B L:List Li}{S S1 S2:Nat->Prop}
def CG.app(h1:CG Vq9 E D1 A)(h2:CG Vq9 E D2 B)(hd:∀ a,D1 a->D2 a->False)(hD:∀ a,D a↔D1 a\/D2 a):CG Vq9 E D (A++B) where
 ok y hy:=(aU.1 hy).elim (h1.ok y) (h2.ok y)
 nd:=by
  rw [s_,bL];exact ⟨h1.nd,h2.nd,λa ha b hb e=>hd a ((h1.mem a).1 ha) ((h2.mem a).1 (e▸hb))⟩
 mem a:=by rw [s_,aU,h1.mem,h2.mem,hD]
 refs a ha:=by
  rw [quT,aU] at ha;rw [hD];rcases ha with ha|ha
  . exact (h1.refs a ha).imp .inl id
  . exact (h2.refs a ha).imp .inr id
def CG.tgt(h:CG Vq9 E D L)(hD:∀ a,D' a↔D a)(hE:∀ a,E a->E' a\/D' a):CG Vq9 E' D' L:=
 ⟨h.ok,h.nd,λa=>(h.mem a).trans (hD a).symm,λa ha=>(h.refs a ha).elim (λk=>.inl ((hD a).2 k)) λk=>(hE a k).symm⟩
def CG.nil:CG Vq9 E (lS λ_=>False) []:=⟨λ_ h=>(by cases h),io,λa=>⟨λh=>(by cases h),λ⟨_,h,_⟩=>h.elim⟩,λ_ h=>by cases h⟩
def CG.appS(h1:CG Vq9 E (lS S1) A)(h2:CG Vq9 E (lS S2) B)(hd:∀ i,S1 i->S2 i->False)(hS:∀ i,S i↔S1 i\/S2 i):CG Vq9 E (lS S) (A++B):=
 h1.app h2 (λa ⟨i,h3,h4⟩ ⟨j,h5,h6⟩=>hd i h3 (qx1 (h4.symm.trans h6)▸h5)) λa=>⟨λ⟨i,h3,h4⟩=>((hS i).1 h3).imp (λk=>⟨i,k,h4⟩) λk=>⟨i,k,h4⟩,λh=>h.elim (λ⟨i,h3,h4⟩=>⟨i,(hS i).2 (.inl h3),h4⟩) λ⟨i,h3,h4⟩=>⟨i,(hS i).2 (.inr h3),h4⟩⟩
def CG.c0{y:Li}(h:CG Vq9 E D L)(hy:tR y/\Vq9 y)(hl:mJ [y]=[])(hr:∀ a∈rl [y],E a):CG Vq9 E D (y::L):=
 CG.app (A:=[y]) (D1:=λ_=>False) ⟨λz hz=>by rw [aV.1 hz];exact hy,by rw [hl];exact io,λa=>by rw [hl];simp,λa ha=>.inr (hr a ha)⟩ h (λ_ h _=>h) λa=>by simp
abbrev V2(y:Li):Prop:=qH y<=2
def CG.cop(h:CG V2 E D L)(hn:zQ n=true):CG V2 E D (.op n::L):=h.c0 ⟨hn,(by decide:1<=2)⟩ rfl λ_ h=>by cases h
def CG.cref(h:CG V2 E D L)(hn:Bi n=true)(ha:nJ a=true)(hE:E a):CG V2 E D (.ref n a::L):=h.c0 ⟨⟨hn,ha⟩,aC 2⟩ rfl λb hb=>by rw [show b=a from aV.1 hb];exact hE
def CG.cnum{v:Int}(h:CG V2 E D L)(hn:Bi n=true)(hv:iY v):CG V2 E D (.num n v::L):=h.c0 ⟨⟨.inl hn,hv⟩,by
  show qH _<=2;rw [qH];split
  . omega
  . split
    . rename_i e;subst e;exact absurd hn Dc
    . omega⟩ rfl λ_ h=>by cases h
def CG.one(ha:nJ a=true)(hV:Vq9 (.lab a)):CG Vq9 E (λb=>b=a) [.lab a]:=⟨λz hz=>by rw [aV.1 hz];exact ⟨ha,hV⟩,by simp [mJ],λb=>by simp [mJ],λ_ h=>by cases h⟩
def CG.clab(h:CG V2 E (lS S) L)(hj:j<=99999)(hS:¬ S j):CG V2 E (lS λi=>i=j\/S i) (.lab (lT j)::L):=
 CG.appS (A:=[.lab (lT j)]) (S1:=λi=>i=j) ((CG.one (x8 Dc hj) (aB _)).tgt (λa=>by simp [lS,lT]) λ_ h=>.inl h) h (λi h1 h2=>hS (h1▸h2)) λ_=>dI
def CG.ops:∀ {l:List iR},(∀ n∈l,zQ n=true)->CG V2 E (lS λ_=>False) (l.map .op)
 | [],_=>CG.nil
 | n::l,h=>(CG.ops λm hm=>h m (aq _ hm)).cop (h n Mc)
end
structure CK(p:ja)(ls:List iR)(N M k:Nat)(r:List Li×Nat):Prop where
 lo:k<=r.2
 hi:r.2<=k+2 * N
 len:r.1.length<=M
 cg:CG V2 (uK p ls) (lS λi=>k < i/\i<=r.2) r.1
section
variable{N M:Nat}
def CK.leaf{L:List Li}(h:CG V2 (uK p ls) (lS λ_=>False) L)(hL:L.length<=M):CK p ls N M k (L,k):=⟨aC _,Nat.le_add_right ..,hL,h.tgt (λa=>⟨λ⟨i,h,_⟩=>by omega,λ⟨_,h,_⟩=>h.elim⟩) λa h=>.inl h⟩
def CK.nil:CK p ls N M k ([],k):=CK.leaf CG.nil (aB _)
def CK.tail{r:List Li×Nat}{N' M':Nat}{L:List Li}(h:CK p ls N M k r)(h2:CG V2 (uK p ls) (lS λ_=>False) L)(hN:N<=N')(hM:M+L.length<=M'):CK p ls N' M' k (r.1++L,r.2):=
 ⟨h.lo,by have:=h.hi;simp only;omega,by have:=h.len;simp only [ac];omega,h.cg.appS h2 (λ_ _ k=>k) λi=>by simp⟩
end
-- names
theorem qxP{a:Int}(h:mr T nm=some a):∃ e∈T,e.1=nm/\a=e.2.2:=by grind [mr,Option.map_eq_some_iff]
def xO:mr T nm=none↔∀ e∈T,e.1≠nm:=by simp [mr,Option.map_eq_none_iff]
def NE{a:Int}(h:mr (sE x) nm=some a):0<=a/\a < (jt x:Int):=by
 obtain ⟨e,h1,_,rfl⟩:=qxP h;unfold jt;rcases aU.1 h1 with h1|h1
 all_goals
  obtain ⟨i,hi,rfl⟩:=dH.1 h1;simp only;omega
def qBF(h:nm∈x.params\/nm∈x.locals):∃ a,mr (sE x) nm=some a:=by
 cases hf:mr (sE x) nm with
 | some a=>exact ⟨a,rfl⟩
 | none=>
  have h0:=xO.1 hf;rcases h with h|h
  all_goals
   obtain ⟨i,hi,rfl⟩:=fF.1 h
  . exact absurd rfl (h0 _ (aJ _ (dH.2 ⟨i,hi,rfl⟩)))
  . exact absurd rfl (h0 _ (aN _ (dH.2 ⟨i,hi,rfl⟩)))
def OF(h:0 < p.funcs.length):∃ i:Nat,fi p nm=(i:Int)/\i < p.funcs.length:=by
 unfold fi;cases hf:mr (fE p) nm with
 | none=>exact ⟨0,rfl,h⟩
 | some a=>
  obtain ⟨e,h1,_,rfl⟩:=qxP hf;obtain ⟨i,hi,rfl⟩:=dH.1 h1;exact ⟨i,rfl,hi⟩
def Wm{p:Prop} (h:p:=by
 rw [hm] at h2;have hk:Bz p (i:Int)=p.o[i].kind:=Dl (ax hi);simp only [Option.some_or,zo,hk] at h2;omega):p:=h
def Gi{uk na:Int}(h:pF p x (nm,uk,na)=0)(h0:uk≠0)(h4:uk≠4):((uk=1\/uk=2)/\∃ a,mr (sE x) nm=some a)\/(mr (sE x) nm=none\/uk=3)/\∃ (i:Nat) (g:jM),gi p nm=(i:Int)/\p.o[i]?=some g/\(uk=2\/g.kind≠1):=by
  unfold pF at h;rw [am h0] at h;split at h
  . cases h
  rename_i h1;split at h
  . cases h
  rename_i h2;have h2:=ff.1 h2;simp only at h1 h2;by_cases hp:nm∈x.params\/nm∈x.locals
  . refine .inl ⟨?_,qBF hp⟩
    have h3:(kR p x nm).1.1=1\/(kR p x nm).1.1=2:=by
      unfold kR;split
      . exact .inl rfl
      . rename_i h5
        split
        . exact .inr rfl
        . rename_i h6
          rcases hp with hp|hp
          . exact absurd (mH.2 hp) h5
          . exact absurd (mH.2 hp) h6
    rcases h2 with h2|h2|h2
    . exact h2.2
    . omega
    . exact absurd h3 h2.1.1
  . have hs:mr (sE x) nm=none:=xO.2 λe he hn=>hp (by
      rcases aU.1 he with he|he;all_goals
        obtain ⟨i,hi,rfl⟩:=dH.1 he;subst hn
      . exact .inr (dO hi)
      . exact .inl (dO hi))
    refine .inr ⟨.inl hs,?_⟩;have hm:kR p x nm=match (kW p).find? λe=>decide (e.1=nm) with
      | some e=>(e.2,true)
      | none=>((0,0),false):=by
      rw [kR,am (λk=>hp (.inl (mH.1 k))),am (λk=>hp (.inr (mH.1 k)))]<;>rfl
    rw [show kW p=gE p++fE p from rfl,gB] at hm;cases hg:(gE p).find? λe=>decide (e.1=nm) with
    | some e=>
      rw [hg] at hm;obtain ⟨i,hi,rfl⟩:=dH.1 (cM hg);refine ⟨i,p.o[i],by rw [gi,mr,hg];rfl,ax hi,?_⟩;exact Wm
    | none=>
      rw [hg,ir] at hm;cases hf:(fE p).find? λe=>decide (e.1=nm) with
      | none=>rw [hf] at hm;rw [hm] at h1;exact absurd rfl h1
      | some e=>
        rw [hf] at hm;obtain ⟨i,hi,rfl⟩:=dH.1 (cM hf);rw [hm] at h2;simp only [zo] at h2;omega
structure PQ(p:ja)(x:iT):Prop where
 f0:0 < p.funcs.length
 f64:p.funcs.length<=64
 g64:p.o.length<=64
 gu:∀ g∈p.o,iY g.num
 p6:x.params.length<=6
 l12:x.locals.length<=12
def PQ.g(h:PQ p x){g:jM}(hg:p.o[i]?=some g):nJ (gT (i:Int))=true/\iY (vi p (i:Int)):=by
 obtain ⟨hi,rfl⟩:=al.1 hg;have:=h.g64;exact ⟨x8 Dc O,by rw [vi,aH,hg];exact h.gu _ (dO hi)⟩
def PQ.call(h:PQ p x)(nm:iR){n:Nat}(hn:n<=6):CG V2 (uK p ls) (lS λ_=>False) (cL p nm n)/\(cL p nm n).length<=2:=by
  obtain ⟨i,h1,h2⟩:=OF (nm:=nm) h.f0;have h3:=h.f64;rw [cL,h1];refine ⟨CG.cref ?_ Dc (x8 Dc O) (.inl ⟨i,h2,Z⟩),?_⟩
  . split
    . exact CG.nil.cnum Dc ⟨by omega,by omega⟩
    . exact CG.nil
  . split<;>simp
def hN:List Ex->Nat
 | []=>0
 | y::_=>ns y
def iN:List Ex->Nat
 | []=>0
 | _::r=>hN r
def OJ:∀ l:List Ex,hN l<=ln l
 | []=>aC _
 | y::r=>by rw [hN,ln];omega
def SV:∀ y:Ex,0 < ns y
 | .mk ..=>by rw [ns];omega
def OL:∀ l:List Ex,hN l+iN l<=ln l
 | []=>aC _
 | y::r=>by have:=OJ r;rw [hN,iN,ln];omega
def N9(o:Int):(x5 o).length<=2/\∀ n∈x5 o,zQ n=true:=by
 unfold x5;have h:∀ l∈Qm,l.length<=2/\∀ n∈l,zQ n=true:=by decide +kernel
 by_cases hk:o.toNat < Qm.length
 . rw [List.getD,ax hk];exact h _ (dO hk)
 . rw [List.getD,di O];exact ⟨aB _,λn h=>by cases h⟩
section
variable{x:iT}(hq:PQ p x)
include hq
theorem qIE{w:Nat}(hw:w<=9999)(h:pF p x (nm,2,0)=0):CG V2 (uK p ls) (lS λ_=>False) [cN p x nm w]:=by
  have h6:=hq.p6;have jL:=hq.l12;unfold cN;rcases Gi h Dc Dc with ⟨_,a,ha⟩|⟨h0,i,g,hi,hg,_⟩
  . have h2:=NE ha
    rw [ha];unfold jt at h2 ⊢;exact CG.nil.cnum Dc ⟨by omega,by omega⟩
  . rw [h0.resolve_right Dc,hi]
    obtain ⟨g1,g2⟩:=hq.g hg;dsimp only;split
    . exact CG.nil.cnum Dc g2
    . rename_i h3
      exact CG.nil.cref Dc g1 (.inr (.inl ⟨i,g,hg,λe=>h3 (by rw [Dl hg,e]),rfl⟩))
mutual
theorem Xi{ls:List iR}{lp:Nat}:∀ (e:Ex) (w k:Nat),nN e=true->oM e=true->(∀ nd∈pk e lp,j7 p x nd=0)->k+2 * ns e<=99999->w+ns e<=9999->CK p ls (ns e) (8 * ns e) k (cE p x e w k)
  | .mk kd o n nm az,w,k,hv,hu,hd,hk,hw=>by
    obtain ⟨hc,hvs⟩:=ze hv;obtain ⟨k1,k7,a1,a2,a3,a4⟩:=Bm hc;simp only [oM,aA,aF] at hu;have hd0:=hd _ Mc;have ww:∀ nd∈pM az lp,j7 p x nd=0:=λnd h=>hd nd (aq _ h);have hl:=OL az;have pT:=OJ az;simp only [Ex.kind,Ex.op,Ex.args,Ex.name] at *;rw [ns] at hk hw ⊢;have H:=λw k=>T4 (ls:=ls) az w k hvs hu.2 ww;have I:=λw k=>Xa (ls:=ls) az w k hvs hu.2 ww;unfold cE;split
    . exact CK.leaf (CG.nil.cnum Dc hu.1) Q10
    split
    . rename_i h2
      exact CK.leaf (qIE hq O (by have e:o6 (.mk kd o n nm az)=(nm,2,0):=aw h2;rwa [j7,e] at hd0)) Q10
    split
    . rename_i h2 h3
      obtain ⟨_,i,g,hi,hg,h4⟩:=(Gi (nm:=nm) (uk:=3) (na:=0) (by have e:o6 (.mk kd o n nm az)=(nm,3,0):=(am h2).trans (aw h3);rwa [j7,e] at hd0) Dc Dc).resolve_left (λh=>by omega);obtain ⟨g1,g2⟩:=hq.g hg;rw [hi];exact (H w k O O).tail ((CG.nil.cref Dc g1 (.inr (.inl ⟨i,g,hg,h4.resolve_left Dc,rfl⟩))).cnum Dc g2) O Q10
    split
    . rename_i h4
      have ha:az.length<=6:=by have:=a2;simp only [uV,h4] at this;simpa using this
      obtain ⟨c1,c2⟩:=hq.call (ls:=ls) nm ha;exact (T0 (ls:=ls) az w k hvs hu.2 ww O O).tail c1 O O
    split
    . exact CK.leaf (CG.nil.cop Dc) Q10
    split
    . split
      . exact (H w k O O).tail (CG.nil.cop Dc) O Q10
      . have h:=H (w+1) k O O
        refine ⟨h.lo,by have:=h.hi;simp only;omega,by have:=h.len;simp only [ac,au,ap];omega,((h.cg.cop Dc).cnum Dc ?_).appS (CG.nil.cop Dc) (λ_ _ k=>k) λi=>by simp⟩;split<;>exact ⟨by decide,by decide⟩
    have h1:=λw'=>H w' k;split
    . have A:=H w k O O
      have B:=I w ((cH p x az w k).2+1) Q15 O;have:=A.lo;have:=A.hi;have:=A.len;have:=B.lo;have:=B.hi;have:=B.len;refine ⟨by simp only;omega,by simp only;omega,by simp only [ac,au,ap];omega,?_⟩;refine CG.tgt (E:=λa=>uK p ls a\/a=lT ((cH p x az w k).2+1)) ?_ (λ_=>dI) λa h=>h.imp id λe=>⟨_,⟨?_,?_⟩,e⟩
      . exact ((A.cg.tgt (λ_=>dI) λa h=>.inl (.inl h)).appS ((B.cg.tgt (λ_=>dI) λa h=>.inl (.inl h)).cref Dc (x8 Dc O) (.inr rfl)) (S:=λi=>(k < i/\i<=(cH p x az w k).2)\/((cH p x az w k).2+1 < i/\i<=(cI p x az w ((cH p x az w k).2+1)).2)) (λi h1 h2=>by omega) λi=>dI).appS (((CG.nil.clab O id).cop Dc).cop Dc) (λi h1 h2=>by simp only [ea] at h2;omega) λi=>by simp only [ea];omega
      . omega
      . simp only;omega
    split
    . have A:=H w k O O
      have B:=I w ((cH p x az w k).2+1) Q15 O;have:=A.lo;have:=A.hi;have:=A.len;have:=B.lo;have:=B.hi;have:=B.len;refine ⟨by simp only;omega,by simp only;omega,by simp only [ac,au,ap];omega,?_⟩;refine CG.tgt (E:=λa=>uK p ls a\/a=lT ((cH p x az w k).2+1)) ?_ (λ_=>dI) λa h=>h.imp id λe=>⟨_,⟨?_,?_⟩,e⟩
      . exact ((A.cg.tgt (λ_=>dI) λa h=>.inl (.inl h)).appS (((B.cg.tgt (λ_=>dI) λa h=>.inl (.inl h)).cref Dc (x8 Dc O) (.inr rfl)).cop Dc) (S:=λi=>(k < i/\i<=(cH p x az w k).2)\/((cH p x az w k).2+1 < i/\i<=(cI p x az w ((cH p x az w k).2+1)).2)) (λi h1 h2=>by omega) λi=>dI).appS (((CG.nil.cop Dc).clab O id).cop Dc) (λi h1 h2=>by simp only [ea] at h2;omega) λi=>by simp only [ea];omega
      . omega
      . simp only;omega
    . have A:=H w k O O
      have B:=I (w+1) (cH p x az w k).2 Q15 O;have:=A.lo;have:=A.hi;have:=A.len;have:=B.lo;have:=B.hi;have:=B.len;obtain ⟨o1,o2⟩:=N9 o;exact ⟨by simp only;omega,by simp only;omega,by simp only [ac,au,ap,bI];omega,(A.cg.appS (B.cg.cop Dc) (S:=λi=>k < i/\i<=(cI p x az (w+1) (cH p x az w k).2).2) (λi h1 h2=>by omega) λi=>by omega).appS (CG.ops o2) (λ_ _ k=>k) λi=>by simp⟩
theorem T4{ls:List iR}{lp:Nat}:∀ (l:List Ex) (w k:Nat),o5 l=true->qO l=true->(∀ nd∈pM l lp,j7 p x nd=0)->k+2 * hN l<=99999->w+hN l<=9999->CK p ls (hN l) (8 * hN l) k (cH p x l w k)
 | [],w,k,_,_,_,_,_=>by unfold cH;exact CK.nil
 | y::r,w,k,hv,hu,hd,hk,hw=>by
  simp only [o5,qO,aA] at hv hu;rw [hN] at *;unfold cH;exact Xi y w k hv.1 hu.1 (λnd h=>hd nd (aN _ h)) hk hw
theorem Xa{ls:List iR}{lp:Nat}:∀ (l:List Ex) (w k:Nat),o5 l=true->qO l=true->(∀ nd∈pM l lp,j7 p x nd=0)->k+2 * iN l<=99999->w+iN l<=9999->CK p ls (iN l) (8 * iN l) k (cI p x l w k)
 | [],w,k,_,_,_,_,_=>by unfold cI;exact CK.nil
 | y::r,w,k,hv,hu,hd,hk,hw=>by
  simp only [o5,qO,aA] at hv hu;rw [iN] at *;unfold cI;exact T4 r w k hv.2 hu.2 (λnd h=>hd nd (aJ _ h)) hk hw
theorem T0{ls:List iR}{lp:Nat}:∀ (l:List Ex) (w k:Nat),o5 l=true->qO l=true->(∀ nd∈pM l lp,j7 p x nd=0)->k+2 * ln l<=99999->w+ln l<=9999->CK p ls (ln l) (8 * ln l+l.length) k (cC p x l w k)
 | [],w,k,_,_,_,_,_=>by unfold cC;exact CK.nil
 | y::r,w,k,hv,hu,hd,hk,hw=>by
  simp only [o5,qO,aA] at hv hu;have hp:=SV y;rw [ln] at *;unfold cC;have A:=Xi (ls:=ls) y w k hv.1 hu.1 (λnd h=>hd nd (aN _ h)) O O;have B:=T0 (ls:=ls) r (w+1) (cE p x y w k).2 hv.2 hu.2 (λnd h=>hd nd (aJ _ h)) Q15 O;have:=A.lo;have:=A.hi;have:=A.len;have:=B.lo;have:=B.hi;have:=B.len;exact ⟨by simp only;omega,by simp only;omega,by simp only [ac,au,ap];omega,A.cg.appS (B.cg.cop Dc) (λi h1 h2=>by omega) λi=>by simp only;omega⟩
end
end
end
section
variable{TT:kG}{Q:qd}{fr:Fr}{ops:Array Oper}
def Z'{m c t e:Nat}(hx:lk fr x=some (.slice A m c))(ht:jH TT t=some ti)(hk:ti.kind=.sl e):QE P TT D fr (.binOp .eql t x (.const (.slice none 0 0)) t') ty K s0 (.bool A.isNone):=
 QE.pure λhT dst iS af g ρ hρ w=>by
  have hc:=hρ (.const (.slice none 0 0)) _ rfl;have hu:P.underlying t=some (.slice e):=by
   obtain ⟨h1,h2,_⟩:=hT.at_ ht;rw [hk] at h2;rw [h1];exact bj some h2
  have h:=Lib.run_eql_slice_nil (P:=P) w t e A m c 0 0 hu;simp [execOp,hρ x _ hx,hc,eqGuard,h]
def Pt{iK:Array Bool}(i j m o:Nat)(hr:Region.ready .any ops iK=[i,j,m,o])(h:JB P TT D n ops Q K s0 jr iK i fr L s)(h':JB P TT D n ops Q K s0 jr iK j fr L s)(h'':JB P TT D n ops Q K s0 jr iK m fr L s)(h4:JB P TT D n ops Q K s0 jr iK o fr L s):JA P TT D n ops Q K s0 (jr+1) iK fr L s:=
 NR hr (by simp) (by simpa using ⟨h,h',h'',h4⟩)
def BW(M1 X F L:Hl):(M1++(X++(F++L))).Perm (X++((F++M1)++L)):=by
 have:=aO M1 (X++F) L;simpa [an] using this
def EF{TT:kG}{fr:Fr}{κ:Type} [DecidableEq κ]  {kf:κ->Value} (KK:jU κ dk kf) {t:Nat}   (hm:yg P t dk z) {es:List (κ×Value×Nat)} {k:κ} (hx:lk fr x=some (.map (some b))) (hy:lk fr y=some (kf k)) (hi:vc s0 kf b es) :
  QE P TT D fr (.lookup t x y false) ty K s0 ((kS es k).getD z):=λhT dst iS af g ρ hρ L s ho hl hK=>by
 exact Wg
end
end Go.Proofs.YtapeaicongaggaaGreatDoor
