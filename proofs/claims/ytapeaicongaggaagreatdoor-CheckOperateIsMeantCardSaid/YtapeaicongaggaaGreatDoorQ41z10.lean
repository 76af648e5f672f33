/- Part 10. -/
import Derived.Test.YtapeaicongaggaaGreatDoorQ41z9
set_option linter.unusedVariables false
set_option linter.defProp false
set_option linter.unusedSimpArgs false
set_option linter.unnecessarySimpa false
set_option maxRecDepth 100000
set_option maxHeartbeats 8000000
namespace Go.Proofs.YtapeaicongaggaaGreatDoor
open Go Go.RowKit Go.Proofs.Tryz
variable{D k b r n ty nf ng e d N bf n0 z0 ni qi ty0 ty1 t' q d0 d1:Nat}{s s0 w:World}{p:ja}{ts:Array TypeId}{rs:List ResultVar}{af a0 a1:Array Edge}{x y:Operand}{ab:List (Option Nat)}{L R K:Hl}{v v0 ov ov':Value}{iS p0 p1:String}{fn:Func}{P:Program}{F0 Ai Ag Af:OAdr9}{iP:List Oper}{c c':LInt9}{nm i inp:iR}{a z:Nat×Obj}{vs zs:LVal9}{t0:TypeId}{S:Sem}{ch:List PanicEntry}{m:MS}{ds:List Deferred}{tmps:Array Value}{xs:List Operand}{fk:iT}{ro o:Option Nat}{Q:qd}{j C A:Int}{dd:Deferred}{cs':List Frame}{F G:List Bool}{M:List Li}
section
attribute [local irreducible] JC JO JA JB lZ mF mM AC fill iH QE Ev mq
variable{l vs:LInt9}{c:MC}{iv:Value}{x y:Nat×Obj}
def Pl{p:Prop} (h:p:=by
 exact ⟨hp13,m9,_,_,_,by rw [hq,am q9],rfl,((hM9.le (jN.t jP|>.t hx13)).fin _ _ _)⟩):p:=h
def Pm{p:Prop} (h:p:=by
 first
  | (exact ⟨_,m9,iv9,ov9,R9,hq,⟨rfl,⟨by decide,by decide⟩⟩,rfl,(hM9.le (jN.t jP|>.t iL))⟩)
  | (exact ⟨_,m9,iv9,ov9,R9,hq,⟨by rw [aw q8];rfl,E5 pr hu9⟩,rfl,(hM9.le (jN.t jP|>.t iL))⟩)):p:=h
def TD{p:Prop} (h:p:=by
 refine G4 ?_;refine jd (kE.mk (Lr D) Sb Z ((bQ O).symm))):p:=h
def VN{p:Prop} (h:p:=by
 refine G6 ?_;refine jd (kE.mk (Lr D) Sb Z (bJ.2 O))):p:=h
def HC{p:Prop} (h:p:=by
  refine lD Z ?_ ?_<;>intro nU
  .have q9:¬ (mW x.op _).1=0:=λh=>nU (by rw [Tr h];exact ⟨rfl,rfl⟩);refine G2 ?_;refine rH (first:=[]) (captured:=[]) Y3 (EM [_] c N m9 iv9 ov9) ?_ ?_
   .rintro _ _ sx13 hx13 ⟨hp13,rfl⟩ sZ;repeat (first|refine sI ?_|refine sJ ?_)
    refine sN [_] Pr (h1.t h2|>.t h5|>.t h8|>.t h9|>.t jN|>.t jP|>.t hx13) λ_ iL=>?_;exact Pl
   rintro _ _ kY kN ⟨⟩
  have q8:=nU.1;rw [aw q8] at hq;refine G9 ?_;refine oV [_] (.inr Z) (.t1 Z) Z (h1.t h2|>.t h5|>.t h8|>.t h9|>.t jN|>.t jP) λ_ iL=>?_;exact Pm):p:=h
def qFq(p:ja)(n:Nat)(hE:uM p D n)(L:Hl)(s:World)(c:MC)(N:Nat)(f:iT)(d:Nat)(x:Ex)(m:MS)(iv ov:Value)(R:Hl)(hC:CT p c s)(hn:c.nf=f.params.length+f.locals.length)(hM:MG p c N m iv ov R s)(b1 b2 b3 b4 b5:Nat)(hk:x.kind=7)(o9:iH s b1 0 [.func (.func 143) #[] #[jc b4]])(tJ:iH s b2 0 [iJ x.op])(vh:iH s b3 0 [.func (.func 143) #[] #[jc b5]])(xj:lU p f d s (lP x.args 0) [.func (.func 143) #[] #[jc b4]])(uR:lU p f d s (lP x.args 1) [.func (.func 143) #[] #[jc b5]])(hr:vX p jx (jm p jx n) f x m≠.out):AP prog D 233 [.pointer (some ⟨c.bm,0,none⟩),jc b1,jc b2,jc b3] (MB c N 0 m iv ov 0 0::mw c m::mo c m::(R++L)) s (py p c N (vX p jx (jm p jx n) f x m) VE RE [] L) (pv c N (vX p jx (jm p jx n) f x m) [] L):=by
 obtain ⟨r,hq⟩:∃ r,r=vX p jx (jm p jx n) f x m:=⟨_,rfl⟩;rw [<- hq] at hr ⊢;rw [qHt hk] at hq;refine qI (fn:=f233) jl func233 V Z ntmps233 Z (rs:=[.tmp 5]) Z [(0,_),(1,_),(2,_),(3,_)] Z<|G7 ?_;refine iI (jW Y3 (o9.le (Lr D)) Z) Z<|jY Y2 ?_;refine rH (first:=[]) (captured:=[jc b4]) Y3 (AP.fr (λL=>hE L _ c N f d (lP x.args 0) _ m iv ov R (hC.le (Lr D)) hn (xj.le (Lr D)) (hM.le (Lr D)) (rk hq hr)) [] _) ?_ ?_;.exact E2
 rintro _ _ s1 h1 ⟨a1,m1,qS,ov1,R1,he1,⟨rfl,pr⟩,rfl,mG⟩;rw [he1] at hq;simp only [ER.and] at hq;simp only [iU,iV];refine G4 ?_;refine rm 17 (x.op=20/\a1=0) ?_ ?_
 .refine Zr<|iI (jW Y3 (tJ.le h1) Z) Z<|G2 ?_;refine kT (t:=14) Z ?_ ?_<;>intro c3;.exact VN
  exact TD
 intro s2 h2;have e2:=h1.t h2;refine mE Z ?_ ?_<;>intro c4
 .rw [aw c4] at hq;refine G7 ?_;refine oV [] (.inr Z) (.t1 Z) Z e2 λ_ iL=>?_;first
    | (exact ⟨_,m1,qS,ov1,R1,hq,⟨rfl,⟨by decide,by decide⟩⟩,rfl,(mG.le (h2.t iL))⟩)
    | (exact ⟨_,m1,qS,ov1,R1,hq,⟨by rw [aw q8];rfl,E5 pr pr⟩,rfl,(mG.le (h2.t iL))⟩)
 rw [am c4] at hq;refine G3 ?_;refine rm 23 (x.op=21/\a1≠0) ?_ ?_
 .refine Zr<|iI (jW Y3 (tJ.le e2) Z) Z<|G2 ?_;refine kT (t:=20) Z ?_ ?_<;>intro c6;.refine G6 ?_;refine jd (kE.mk (Lr D) Sb Z (EO O))
  exact TD
 intro s5 h5;have e5:=e2.t h5;refine mE Z ?_ ?_<;>intro c7
 .rw [aw c7] at hq;refine G7 ?_;refine oV [] (.inr Z) (.t1 Z) Z e5 λ_ iL=>?_;first
    | (exact ⟨_,m1,qS,ov1,R1,hq,⟨rfl,⟨by decide,by decide⟩⟩,rfl,(mG.le (h2.t h5|>.t iL))⟩)
    | (exact ⟨_,m1,qS,ov1,R1,hq,⟨by rw [aw q8];rfl,E5 pr pr⟩,rfl,(mG.le (h2.t h5|>.t iL))⟩)
 rw [am c7] at hq;refine Zk<|Zt<|Zs<|ma jF 12 Z ([]:Hl) (λx hx=>by cases hx) λs8 h8=>za 0 Z (jW Y3 (tJ.le (e5.t h8)) Z) Z<|H1 ?_;refine za 2 Z (jW Y3 (vh.le (e5.t h8)) Z) Z<|H1 ?_;have e8:=e5.t h8;refine kD 4 9 V ?_ ?_
 .refine zc Z Tt (first:=[]) (captured:=[jc b5]) Z Z Z (AP.fr (λL=>hE L _ c N f d (lP x.args 1) _ m1 qS ov1 R1 (hC.le e8) hn (uR.le e8) (mG.le (h2.t h5|>.t h8)) (rk hq hr)) [] _) ?_ ?_
  .rintro _ _ sx9 Bc ⟨hp9,mf9,sf9,cf9,Zf9,he9,rfl,hF9⟩ sZ;repeat (first|refine sI ?_|refine sJ ?_)
   refine sN [] Pr (e8|>.t Bc) λ_ iL=>?_;exact ⟨hp9,mf9,sf9,cf9,Zf9,EW hq he9,rfl,hF9⟩
  rintro _ _ s9 h9 ⟨a9,m9,iv9,ov9,R9,he9,⟨rfl,hu9⟩,rfl,hM9⟩;refine ⟨(λx hx=>by cases hx),?_⟩;rw [he9] at hq;simp only [ER.and] at hq;simp only [iU,iV];refine kD 5 9 V ?_ ?_;.refine Jb Z Tt Z Z Z (yZ D _ _ x.op a1 a9 pr hu9) ?_;rintro _ _ ku jN ⟨rfl,rfl⟩;refine ⟨(λx hx=>by cases hx),?_⟩;refine H3 ?_;refine iM 9 V<|kA Z Tt Z [_,_] Y2 λβ11 kv jP=>H1 ?_;refine iM 11 V<|Wu Z Tt 0 [_,_] Y9 (λx hx=>by cases hx)<|jq V<|Zt<|Zs<|Sr<|iI (jh 0 [_,_] Y5) Z<|iI (jC [] [_,_] Y3 Z Z Z) Z<|iI (sL Z Z (rq)) Z<|G2 ?_;exact HC
  refine kA Z Tt Z [_,_] Y2 λβ10 ku jN=>iM 5 V<|Jb Z Tt Z Z Z (yZ D _ _ x.op a1 a9 pr hu9) ?_;rintro _ _ kv jP ⟨rfl,rfl⟩;refine ⟨(λx hx=>by cases hx),?_⟩;refine H4 ?_;refine iM 11 V<|Wu Z Tt 0 [_,_] Y9 (λx hx=>by cases hx)<|jq V<|Zt<|Zs<|Sr<|iI (jh 0 [_,_] Y5) Z<|iI (jC [] [_,_] Y3 Z Z Z) Z<|iI (sL Z Z (rq)) Z<|G2 ?_;exact HC
 refine kA Z Tt Z [_,_] Y2 λβ9 s9 h9=>iM 4 V ?_;have e9:=e8.t h9;refine zc Z Tt (first:=[]) (captured:=[jc b5]) Z Z Z (AP.fr (λL=>hE L _ c N f d (lP x.args 1) _ m1 qS ov1 R1 (hC.le e9) hn (uR.le e9) (mG.le (h2.t h5|>.t h8|>.t h9)) (rk hq hr)) [_] _) ?_ ?_
 .rintro _ _ sx10 hx10 ⟨hp10,mf10,sf10,cf10,Zf10,he10,rfl,hF10⟩ sZ;repeat (first|refine sI ?_|refine sJ ?_)
  refine sN [_] Pr (e9|>.t hx10) λ_ iL=>?_;exact ⟨hp10,mf10,sf10,cf10,Zf10,EW hq he10,rfl,hF10⟩
 rintro _ _ ku jN ⟨AE,m10,iv10,ov10,R10,he10,⟨rfl,hu10⟩,rfl,hM10⟩;refine ⟨(λx hx=>by cases hx),?_⟩;rw [he10] at hq;simp only [ER.and] at hq;simp only [iU,iV];refine iM 5 V<|Jb Z Tt Z Z Z (yZ D _ _ x.op a1 AE pr hu10) ?_;rintro _ _ kv jP ⟨rfl,rfl⟩;refine ⟨(λx hx=>by cases hx),?_⟩;refine H4 ?_;refine iM 11 V<|Wu Z Tt 0 [_,_] Y9 (λx hx=>by cases hx)<|jq V<|Zt<|Zs<|Sr<|iI (jh 0 [_,_] Y5) Z<|iI (jC [] [_,_] Y3 Z Z Z) Z<|iI (sL Z Z (rq)) Z<|G2 ?_;refine lD Z ?_ ?_<;>intro nU
 .have q9:¬ (mW x.op _).1=0:=λh=>nU (by rw [Tr h];exact ⟨rfl,rfl⟩);refine G2 ?_;refine rH (first:=[]) (captured:=[]) Y3 (EM [_] c N m10 iv10 ov10) ?_ ?_
  .rintro _ _ sx13 hx13 ⟨hp13,rfl⟩ sZ;repeat (first|refine sI ?_|refine sJ ?_)
   refine sN [_] Pr (e9.t jN|>.t jP|>.t hx13) λ_ iL=>?_;exact ⟨hp13,m10,_,_,_,by rw [hq,am q9],rfl,((hM10.le (jP.t hx13)).fin _ _ _)⟩
  rintro _ _ kY kN ⟨⟩
 have q8:=nU.1;rw [aw q8] at hq;refine G9 ?_;refine oV [_] (.inr Z) (.t1 Z) Z (e9.t jN|>.t jP) λ_ iL=>?_;first
   | (exact ⟨_,m10,iv10,ov10,R10,hq,⟨rfl,⟨by decide,by decide⟩⟩,rfl,(hM10.le (jP.t iL))⟩)
   | (exact ⟨_,m10,iv10,ov10,R10,hq,⟨by rw [aw q8];rfl,E5 pr hu10⟩,rfl,(hM10.le (jP.t iL))⟩)
def qzF{r:ER LInt9}:(r.and λvs m=>.ok ([]++vs) m)=r:=by cases r<;>rfl
def qFh{E:Ex->MS->ER Int}{l:List Ex}(h:k < l.length)(pre:LInt9)(m:MS):(qf E (l.drop k) m).and (λvs m=>.ok (pre++vs) m)=(E (lP l k) m).and λv m=>(qf E (l.drop (k+1)) m).and λvs m=>.ok ((pre++[v])++vs) m:=by
 have e:lP l k=l[k]:=by rw [lP,aM,ax h];rfl
 rw [aL h,qf,ER.and_assoc,e];congr 1;funext v m;rw [ER.and_assoc];congr 1;funext vs m;simp [ER.and,an]
structure CGi where
 k:Nat
 pre:LInt9
 m:MS
 iv:Value
 ov:Value
 R:Hl
 v:Value
 M:Hl
def UE(w:LInt9)(x:Int):wv (w++[x])=wv w++[iO x]:=by simp [wv]
def f'(p:ja)(n:Nat)(hE:uM p D n)(L:Hl)(s:World)(c:MC)(N:Nat)(f:iT)(d:Nat)(xs:List Ex)(m:MS)(iv ov:Value)(R:Hl)(hC:CT p c s)(hn:c.nf=f.params.length+f.locals.length)(hM:MG p c N m iv ov R s)(hK:Fk p D n)(b1 b2 k:Nat)(fk:iT)(A:OAdr9)(n1 z1:Nat)(o9:iH s b1 0 [.slice A n1 z1])(tJ:iH s b2 0 [iJ (k:Int)])(hA:pI p f d s A n1 z1 xs)(hp:p.funcs[k]?=some fk)(hl:xs.length=fk.params.length)(hr:((qf ((jm p jx n).e f) xs m).and λvs m=>(jm p jx n).c k vs m)≠.out):AP prog D 150 [.pointer (some ⟨c.bm,0,none⟩),jc b1,jc b2] (MB c N 0 m iv ov 0 0::mw c m::mo c m::(R++L)) s (py p c N ((qf ((jm p jx n).e f) xs m).and λvs m=>(jm p jx n).c k vs m) VE RE [] L) (pv c N ((qf ((jm p jx n).e f) xs m).and λvs m=>(jm p jx n).c k vs m) [] L):=by
 obtain ⟨r,hq⟩:∃ r,r=(qf ((jm p jx n).e f) xs m).and λvs m=>(jm p jx n).c k vs m:=⟨_,rfl⟩;rw [<- hq] at hr ⊢;have hf9:=hC.fs fk (ay hp);have lX:=hA.1;have mX:=hA.2.1;have oR:=hA.2.2.1;refine qI (fn:=f150) jl func150 V Z ntmps150 Z (rs:=[.tmp 4]) Z [(0,_),(1,_),(2,_)] Z<|IN ?_;refine iI (jW Y3 (o9.le (Lr D)) Z) Z<|G5 ?_;refine lw (γ:=CGi) (λg=>[(0,_),(2,_),(4,_),(5,g.v),(8,_),(9,_),(10,iJ (g.k:Int))]) (λg=>g.M++(MB c N 0 g.m g.iv g.ov 0 0::mw c g.m::mo c g.m::(g.R++L))) (λg tw=>Le D s tw/\(g.k<=n1/\MG p c N g.m g.iv g.ov g.R tw/\Own 22 1 g.M g.v g.pre.length (wv g.pre)/\g.pre.length=g.k/\(∀ x∈g.pre,iY x)/\r=((qf ((jm p jx n).e f) (xs.drop g.k) g.m).and λvs m=>.ok (g.pre++vs) m).and λvs m=>(jm p jx n).c k vs m)) (λg=>n1 - g.k) (λ_ _ _ h hl=>⟨h.1.trans hl,⟨h.2.1,h.2.2.1.le hl,h.2.2.2⟩⟩) ⟨0,[],m,iv,ov,R,.slice none 0 0,[]⟩ (.c6 Z Z Z Z Z Z (.cons Z (.nil _))) Z ⟨Le.refl _,⟨aB _,hM.le (Lr D),.nil,Z,λx hx=>(by cases hx),by rw [hq,cn,qzF]⟩⟩ ?_;intro g s1 I1;obtain ⟨j,pre,mk,ivk,ovk,Rk,vk,Mk⟩:=g;obtain ⟨oA,wZ,hOk,Bb,hup,hq⟩:j<=n1/\MG p c N mk ivk ovk Rk s1/\Own 22 1 Mk vk pre.length (wv pre)/\pre.length=j/\(∀ x∈pre,iY x)/\r=((qf ((jm p jx n).e f) (xs.drop j) mk).and λvs m=>.ok (pre++vs) m).and λvs m=>(jm p jx n).c k vs m:=I1.2;obtain ⟨Av,cv,rfl,_,_⟩:=Own.slice hOk;dsimp only;refine J6 ?_ ?_<;>intro c2
 .have hj:j < n1:=by omega
  rw [qFh O,ER.and_assoc] at hq;obtain ⟨B0,o0,b0,hAe,hcE,hvE⟩:=pI.at_ Pz hj;subst hAe;refine G6 ?_;refine iI (ly Y6 hj) Z<|iI (jW Y3 Pz Z) Z<|G7 ?_;refine rH (first:=[]) (captured:=[jc b0]) Y3 (AP.fr (λL=>hE L _ c N f d (lP xs j) _ mk ivk ovk Rk Pz hn Pz Pz (rk hq hr)) Mk _) ?_ ?_
  .rintro _ _ sx3 hx3 ⟨xb,mf3,sf3,cf3,Zf3,he3,rfl,hF3⟩ sZ;repeat (first|refine sI ?_|refine sJ ?_)
   refine sN Mk Pr Lc λ_ iL=>?_;exact QJ
  rintro _ _ s3 h3 ⟨a3,m3,iv3,ov3,R3,he3,⟨rfl,hu3⟩,rfl,lW⟩;rw [he3] at hq;simp only [ER.and] at hq;refine kF [(_,_)] [_] Y9 λβ4 s4 h4 hc4=>rp (sz:=1) [] Mk _ Y7 hOk (Row.of_cells Pz Z Z) ⟨by simp [pw];omega,by omega⟩ Z ?_;intro v9 M9 s5 h5 oq;obtain ⟨A9,c9,rfl,_,_⟩:=Own.slice oq;simp only [aD];refine G5 ?_;refine ki Y3 (jB O O)<|G2 ?_;refine jd ⟨⟨j+1,pre++[a3],m3,iv3,ov3,R3,_,M9⟩,[],kp,Z,⟨Lc,⟨by show j+1<=n1;omega,Pz,by rw [UE,ac];exact oq,by simp;omega,λx hx=>by rcases aU.1 hx with hx|hx;exact hup x hx;cases aV.1 hx;exact hu3,hq⟩⟩,(by show n1 - (j+1) < n1 - j;omega)⟩
 rw [aK O,qf] at hq;simp only [ER.and,aE] at hq;refine G6 ?_;refine tO [] Mk ?_;intro s3 h3 nP;simp only [iU,iV];have hW:=Own.wds hOk hup nP;refine Zr<|jY Y2<|iI (jW Y3 (tJ.le Lc) Z) Z<|jY Y2 ?_;refine rH (first:=[]) (captured:=[]) Y3 (AP.fr (λL=>hK L _ c N k fk pre Av pre.length cv mk ivk ovk Rk Pz Pz hp O Pz (hq▸hr)) [] _) ?_ ?_
 .rintro _ _ sx4 hx4 ⟨zL,mf4,sf4,cf4,Zf4,he4,rfl,hF4⟩ sZ;repeat (first|refine sI ?_|refine sJ ?_)
  refine sN [] Pr Lc λ_ iL=>?_;exact ⟨zL,mf4,sf4,cf4,Zf4,hq.trans he4,rfl,hF4⟩
 rintro _ _ s4 h4 ⟨a4,m4,iv4,ov4,R4,he4,⟨rfl,hu4⟩,rfl,hM4⟩;rw [he4] at hq;simp only [iU,iV];refine G4 ?_;refine oV [] (.inr Z) (.t1 Z) Z Lc λ_ iL=>?_;exact ⟨_,m4,iv4,ov4,R4,hq,⟨rfl,hu4⟩,rfl,Pz⟩
section
variable{c:MC}{iv:Value}
theorem Qy{i:Nat}{v:Int}(h:∀ x∈l,iY x)(hv:iY v):∀ x∈l.set i v,iY x:=by grind
def MG.setf(h:MG p c N m iv ov R s){v:Int}(hv:iY v)(i:Nat):MG p c N { m with frm:=m.frm.set i v } iv ov R s:=⟨h.inp,h.out,h.ug,Qy h.uf hv,h.ua,h.ng,h.lg,by rw [cR];exact h.lf,h.lb,h.la,h.ar,h.lo,h.lc,h.ll,h.lN⟩
def MG.setg(h:MG p c N m iv ov R s){v:Int}(hv:iY v)(i:Nat):MG p c N { m with ah:=m.ah.set i v } iv ov R s:=⟨h.inp,h.out,Qy h.ug hv,h.uf,h.ua,h.ng,by rw [cR];exact h.lg,h.lf,h.lb,h.la,h.ar,h.lo,h.lc,h.ll,h.lN⟩
end
def MG.arU(hM:MG p c N m iv ov R s)(hg:nS p nm=(k:Int)):∀ x∈pn p nm m,iY x:=λx hx=>by
 exact Iv
def qGV{T:jb->MS->ER (Int×Int)}{l:List jb}{x:jb}(h:l[k]?=some x)(m:MS):oN T (l.drop k) m=(T x m).and λy m=>if y.1=0 then oN T (l.drop (k+1)) m else .ok y m:=by
 obtain ⟨hl,rfl⟩:=al.1 h;rw [aL hl,oN]
structure RG where
 k:Nat
 m:MS
 iv:Value
 ov:Value
 R:Hl
def Oc(p:ja)(n:Nat)(hT:Cp p D n)(L:Hl)(c:MC)(N:Nat)(f:iT)(d:Nat)(xs:List jb)(m:MS)(iv ov:Value)(R:Hl)(hC:CT p c s)(hn:c.nf=f.params.length+f.locals.length)(hM:MG p c N m iv ov R s)(A:OAdr9)(n1 z1:Nat)(hA:wR p f d s A n1 z1 xs)(hr:oN ((jm p jx n).t f) xs m≠.out):AP prog D 106 [.pointer (some ⟨c.bm,0,none⟩),.slice A n1 z1] (MB c N 0 m iv ov 0 0::mw c m::mo c m::(R++L)) s (py p c N (oN ((jm p jx n).t f) xs m) VS RS [] L) (pv c N (oN ((jm p jx n).t f) xs m) [] L):=by
 obtain ⟨r,hq⟩:∃ r,r=oN ((jm p jx n).t f) xs m:=⟨_,rfl⟩;rw [<- hq] at hr ⊢;have lX:=hA.1;have mX:=hA.2.1;have oR:=hA.2.2.1;refine qI (fn:=f106) jl func106 V Z ntmps106 Z (rs:=[.tmp 4]) Z [(0,_),(1,_)] Z<|qP ?_;refine lw (γ:=RG) (λg=>[(0,_),(4,_),(8,_),(9,_),(10,iJ (g.k:Int))]) (λg=>MB c N 0 g.m g.iv g.ov 0 0::mw c g.m::mo c g.m::(g.R++L)) (λg tw=>Le D s tw/\(g.k<=n1/\MG p c N g.m g.iv g.ov g.R tw/\r=oN ((jm p jx n).t f) (xs.drop g.k) g.m)) (λg=>n1 - g.k) (λ_ _ _ h hl=>⟨h.1.trans hl,⟨h.2.1,h.2.2.1.le hl,h.2.2.2⟩⟩) ⟨0,m,iv,ov,R⟩ (.c5 Z Z Z Z Z (.nil _)) Z ⟨Le.refl _,⟨aB _,hM.le (Lr D),hq⟩⟩ ?_;intro g s1 I1;obtain ⟨j,mk,ivk,ovk,Rk⟩:=g;obtain ⟨oA,wZ,hq⟩:j<=n1/\MG p c N mk ivk ovk Rk s1/\r=oN ((jm p jx n).t f) (xs.drop j) mk:=I1.2;dsimp only;refine J6 ?_ ?_<;>intro c2
 .have hj:j < n1:=by omega
  obtain ⟨B0,o0,b0,x,hAe,hx,hcE,hvE⟩:=wR.at_ Pz hj;subst hAe;rw [qGV hx] at hq;refine G6 ?_;refine iI (ly Y6 hj) Z<|iI (jW Y3 Pz Z) Z<|G7 ?_;refine rH (first:=[]) (captured:=[jc b0]) Y3 (AP.fr (λL=>hT L _ c N f d x _ mk ivk ovk Rk Pz hn Pz Pz (rk hq hr)) [] _) ?_ ?_
  .rintro _ _ sx3 hx3 ⟨xb,mf3,sf3,cf3,Zf3,he3,rfl,hF3⟩ sZ;repeat (first|refine sI ?_|refine sJ ?_)
   refine sN [] Pr Lc λ_ iL=>?_;exact QJ
  rintro _ _ s3 h3 ⟨⟨a3,y3⟩,m3,iv3,ov3,R3,he3,⟨rfl,hu3,hz3⟩,rfl,lW⟩;rw [he3] at hq;simp only [ER.and] at hq;simp only [iU,iV];refine G9 ?_;refine lD Z ?_ ?_<;>intro c4
  .rw [am c4] at hq;refine mn ?_;refine oV [] (.inr Z) (.t1 Z) Z Lc λ_ iL=>?_;first
     | (exact ⟨(_,_),m3,iv3,ov3,R3,hq,⟨rfl,hu3,hz3⟩,rfl,Pz⟩)
     | (exact ⟨(0,0),m3,iv3,ov3,R3,hq,⟨rfl,⟨by decide,by decide⟩,λ_=>rfl⟩,rfl,Pz⟩)
  rw [aw c4] at hq;have hz9:=hz3 O;simp only [RS] at *;rw [hz9];refine G4 ?_;refine ki Y3 (jB O O)<|G2 ?_;refine jd ⟨⟨j+1,m3,iv3,ov3,R3⟩,[],kp,Z,⟨Lc,⟨by show j+1<=n1;omega,Pz,hq⟩⟩,(by show n1 - (j+1) < n1 - j;omega)⟩
 rw [aK O,oN] at hq;refine k8 ?_;refine oV [] (.inr Z) (.t1 Z) Z I1.1 λ_ iL=>?_;first
   | (exact ⟨(_,_),mk,ivk,ovk,Rk,hq,⟨rfl,hu0,yW⟩,rfl,Pz⟩)
   | (exact ⟨(0,0),mk,ivk,ovk,Rk,hq,⟨rfl,⟨by decide,by decide⟩,λ_=>rfl⟩,rfl,Pz⟩)
def Hd{p:Prop} (h:p:=by
 exact ⟨(0,0),{ m2 with frm:=m2.frm.set (ld f x.name).toNat a2 },iv2,ov2,R2,hq,⟨rfl,⟨by decide,by decide⟩,λ_=>rfl⟩,rfl,((jG.setf oE _).le Lc)⟩):p:=h
def qBA(p:ja)(n:Nat)(hE:uM p D n)(L:Hl)(s:World)(c:MC)(N:Nat)(f:iT)(d:Nat)(x:jb)(m:MS)(iv ov:Value)(R:Hl)(hC:CT p c s)(hn:c.nf=f.params.length+f.locals.length)(hM:MG p c N m iv ov R s)(b1 b2 b4:Nat)(hk:x.kind=1)(h0:0<=ld f x.name)(hl:ld f x.name < ((f.params.length+f.locals.length:Nat):Int))(o9:iH s b1 0 [.func (.func 143) #[] #[jc b4]])(tJ:iH s b2 0 [iJ (ld f x.name)])(hv:lU p f d s (lP x.exprs 0) [.func (.func 143) #[] #[jc b4]])(hr:sX p (jm p jx n) f x m≠.out):AP prog D 145 [.pointer (some ⟨c.bm,0,none⟩),jc b1,jc b2] (MB c N 0 m iv ov 0 0::mw c m::mo c m::(R++L)) s (py p c N (sX p (jm p jx n) f x m) VS RS [] L) (pv c N (sX p (jm p jx n) f x m) [] L):=by
 obtain ⟨r,hq⟩:∃ r,r=sX p (jm p jx n) f x m:=⟨_,rfl⟩;rw [<- hq] at hr ⊢;rw [sX,aw hk] at hq;have yR:ld f x.name < (c.nf:Int):=by rw [hn];exact hl
 refine qI (fn:=f145) jl func145 V Z ntmps145 Z (rs:=[.tmp 4]) Z [(0,_),(1,_),(2,_)] Z<|G6 ?_;refine ma jF 10 Z ([]:Hl) (λx hx=>by cases hx) λs1 h1=>H3 ?_;refine za 4 Z (jW Y3 (tJ.le h1) Z) Z<|za 5 Z (jW Y3 (o9.le h1) Z) Z<|H1 ?_;refine kD 3 7 V ?_ ?_
 .refine j5 Z Tt (Wd 0 Y5) Z<|iM 7 V ?_;refine zc Z Tt (first:=[]) (captured:=[jc b4]) Z Z Z (AP.fr (λL=>hE L _ c N f d (lP x.exprs 0) _ m iv ov R Pz hn Pz Pz (rk hq hr)) [] _) ?_ ?_;.exact DA
  rintro _ _ s2 h2 ⟨a2,m2,iv2,ov2,R2,rc,⟨rfl,oE⟩,rfl,jG⟩;refine ⟨(λx hx=>by cases hx),?_⟩;rw [rc] at hq;simp only [ER.and] at hq;simp only [iU,iV];rw [Aj,aw h0] at hq;have AZ:ld f x.name < (m2.frm.length:Int):=by rw [jG.lf];exact yR
  refine za 8 Z (xw Y6 h0 yR) Z<|iM 9 V<|ye Z Tt 2 _ Y5 (Kh h0 AZ) Z (Km h0 AZ) Z (λx hx=>by cases hx)<|jq V<|G7 ?_;refine oV [] (.inr Z) (.t1 Z) Z Lc λ_ iL=>?_;exact Hd
 refine zc Z Tt (first:=[]) (captured:=[jc b4]) Z Z Z (AP.fr (λL=>hE L _ c N f d (lP x.exprs 0) _ m iv ov R Pz hn Pz Pz (rk hq hr)) [] _) ?_ ?_;.exact DA
 rintro _ _ s2 h2 ⟨a2,m2,iv2,ov2,R2,rc,⟨rfl,oE⟩,rfl,jG⟩;refine ⟨(λx hx=>by cases hx),?_⟩;rw [rc] at hq;simp only [ER.and] at hq;simp only [iU,iV];rw [Aj,aw h0] at hq;have AZ:ld f x.name < (m2.frm.length:Int):=by rw [jG.lf];exact yR
 refine iM 3 V<|j5 Z Tt (Wd 0 Y5) Z<|za 8 Z (xw Y6 h0 yR) Z<|iM 9 V<|ye Z Tt 2 _ Y5 (Kh h0 AZ) Z (Km h0 AZ) Z (λx hx=>by cases hx)<|jq V<|G7 ?_;refine oV [] (.inr Z) (.t1 Z) Z Lc λ_ iL=>?_;exact Hd
def He{p:Prop} (h:p:=by
 exact ⟨(0,0),{ m2 with ah:=m2.ah.set (k:Int).toNat a2 },iv2,ov2,R2,hq,⟨rfl,⟨by decide,by decide⟩,λ_=>rfl⟩,rfl,((jG.setg oE _).le Lc)⟩):p:=h
def qBz(p:ja)(n:Nat)(hE:uM p D n)(L:Hl)(s:World)(c:MC)(N:Nat)(f:iT)(d:Nat)(x:jb)(m:MS)(iv ov:Value)(R:Hl)(hC:CT p c s)(hn:c.nf=f.params.length+f.locals.length)(hM:MG p c N m iv ov R s)(b1 b2 b4 k:Nat)(g:jM)(hk:x.kind=1)(hs:¬ 0<=ld f x.name)(hg:nS p x.name=(k:Int))(hp:p.o[k]?=some g)(o9:iH s b1 0 [.func (.func 143) #[] #[jc b4]])(tJ:iH s b2 0 [iJ (k:Int)])(hv:lU p f d s (lP x.exprs 0) [.func (.func 143) #[] #[jc b4]])(hr:sX p (jm p jx n) f x m≠.out):AP prog D 146 [.pointer (some ⟨c.bm,0,none⟩),jc b1,jc b2] (MB c N 0 m iv ov 0 0::mw c m::mo c m::(R++L)) s (py p c N (sX p (jm p jx n) f x m) VS RS [] L) (pv c N (sX p (jm p jx n) f x m) [] L):=by
 obtain ⟨r,hq⟩:∃ r,r=sX p (jm p jx n) f x m:=⟨_,rfl⟩;rw [<- hq] at hr ⊢;rw [sX,aw hk] at hq;have hkl:=(al.1 hp).1;have yR:(k:Int) < (c.ng:Int):=by rw [hM.ng];omega
 have h0:(0:Int)<=(k:Int):=by omega
 refine qI (fn:=f146) jl func146 V Z ntmps146 Z (rs:=[.tmp 4]) Z [(0,_),(1,_),(2,_)] Z<|G6 ?_;refine ma jF 10 Z ([]:Hl) (λx hx=>by cases hx) λs1 h1=>H3 ?_;refine za 4 Z (jW Y3 (tJ.le h1) Z) Z<|za 5 Z (jW Y3 (o9.le h1) Z) Z<|H1 ?_;refine kD 3 7 V ?_ ?_
 .refine j5 Z Tt (Wd 0 Y5) Z<|iM 7 V ?_;refine zc Z Tt (first:=[]) (captured:=[jc b4]) Z Z Z (AP.fr (λL=>hE L _ c N f d (lP x.exprs 0) _ m iv ov R Pz hn Pz Pz (rk hq hr)) [] _) ?_ ?_;.exact DA
  rintro _ _ s2 h2 ⟨a2,m2,iv2,ov2,R2,rc,⟨rfl,oE⟩,rfl,jG⟩;refine ⟨(λx hx=>by cases hx),?_⟩;rw [rc] at hq;simp only [ER.and] at hq;simp only [iU,iV];rw [Aj,am hs,hg] at hq;have AZ:(k:Int) < (m2.ah.length:Int):=by rw [jG.lg];exact yR
  refine za 8 Z (xw Y6 h0 yR) Z<|iM 9 V<|ye Z Tt 1 _ Y5 (Kh h0 AZ) Z (Km h0 AZ) Z (λx hx=>by cases hx)<|jq V<|G7 ?_;refine oV [] (.inr Z) (.t1 Z) Z Lc λ_ iL=>?_;exact He
 refine zc Z Tt (first:=[]) (captured:=[jc b4]) Z Z Z (AP.fr (λL=>hE L _ c N f d (lP x.exprs 0) _ m iv ov R Pz hn Pz Pz (rk hq hr)) [] _) ?_ ?_;.exact DA
 rintro _ _ s2 h2 ⟨a2,m2,iv2,ov2,R2,rc,⟨rfl,oE⟩,rfl,jG⟩;refine ⟨(λx hx=>by cases hx),?_⟩;rw [rc] at hq;simp only [ER.and] at hq;simp only [iU,iV];rw [Aj,am hs,hg] at hq;have AZ:(k:Int) < (m2.ah.length:Int):=by rw [jG.lg];exact yR
 refine iM 3 V<|j5 Z Tt (Wd 0 Y5) Z<|za 8 Z (xw Y6 h0 yR) Z<|iM 9 V<|ye Z Tt 1 _ Y5 (Kh h0 AZ) Z (Km h0 AZ) Z (λx hx=>by cases hx)<|jq V<|G7 ?_;refine oV [] (.inr Z) (.t1 Z) Z Lc λ_ iL=>?_;exact He
def Hf{p:Prop} (h:p:=by
 exact ⟨zL,mf4,sf4,cf4,Zf4,EW hq he4,rfl,hF4⟩):p:=h
def Pn{p:Prop} (h:p:=by
 exact ⟨(0,0),{ m4 with ae:=m4.ae.set k ((pn p x.name m4).set a2.toNat a4) },iv4,ov4,R9,hq,⟨rfl,⟨by decide,by decide⟩,λ_=>rfl⟩,rfl,(hM9.le ((Lr D).t iL))⟩):p:=h
def Ix{p:Prop} (h:p:=by
 rintro _ _ sx4 hx4 ⟨zL,mf4,sf4,cf4,Zf4,he4,rfl,hF4⟩ sZ;repeat (first|refine sI ?_|refine sJ ?_)
 refine sN [] Pr (h1.t h2|>.t h3|>.t hx4) λ_ iL=>?_;exact Hf):p:=h
def HP{p:Prop} (h:p:=by
 obtain ⟨R9,hs9,hM9⟩:=hset ((pn p x.name m4).set a2.toNat a4);have hM9:=hM9 _ (hM4.le (Lr D)) (by rw [cR]) (Qy (hM4.arU hg) hu4);refine ye Z Tt (i+3) _ ⟨Z,Z,hbi,Z,Z⟩ (Kh A0 O) Z (Km A0 O) hs9 (λx hx=>by cases hx)<|jq V<|G7 ?_;refine oV [] (.inr Z) (.t1 Z) Z (h1.t h2|>.t h3|>.t h4) λ_ iL=>?_;exact Pn):p:=h
def qvm(p:ja)(n:Nat)(hE:uM p D n)(L:Hl)(s:World)(c:MC)(N:Nat)(f:iT)(d:Nat)(x:jb)(m:MS)(iv ov:Value)(R:Hl)(hC:CT p c s)(hn:c.nf=f.params.length+f.locals.length)(hM:MG p c N m iv ov R s)(b1 b2 k:Nat)(g:jM)(A:OAdr9)(n1 z1:Nat)(hk:x.kind=2)(hg:nS p x.name=(k:Int))(hp:p.o[k]?=some g)(vh:g.kind=3)(o9:iH s b1 0 [iJ (k:Int)])(tJ:iH s b2 0 [.slice A n1 z1])(hA:pI p f d s A n1 z1 x.exprs)(h1n:1 < n1)(hr:sX p (jm p jx n) f x m≠.out):AP prog D 103 [.pointer (some ⟨c.bm,0,none⟩),jc b1,jc b2] (MB c N 0 m iv ov 0 0::mw c m::mo c m::(R++L)) s (py p c N (sX p (jm p jx n) f x m) VS RS [] L) (pv c N (sX p (jm p jx n) f x m) [] L):=by
 obtain ⟨r,hq⟩:∃ r,r=sX p (jm p jx n) f x m:=⟨_,rfl⟩;rw [<- hq] at hr ⊢;rw [qu0 hk] at hq;have mV:0 < n1:=by omega
 obtain ⟨B0,o0,b0,rfl,hcE,hvE⟩:=pI.at_ hA mV;obtain ⟨B1,o1,b4,hAe,hcF,hvF⟩:=pI.at_ hA h1n;simp only [da,iw,and_true] at hAe;obtain ⟨hAe1,hAe2⟩:=hAe;subst hAe1;subst hAe2;obtain ⟨ba,qq,uj,xa,yQ⟩:=hM.ary hC hp vh hg;refine qI (fn:=f103) jl func103 V Z ntmps103 Z (rs:=[.tmp 4]) Z [(0,_),(1,_),(2,_)] Z<|G6 ?_;refine ma jF 7 Z ([]:Hl) (λx hx=>by cases hx) λs1 h1=>H1 ?_;refine za 1 Z (jW Y3 (o9.le h1) Z) Z<|za 2 Z (jW Y3 (tJ.le h1) Z) Z<|za 3 Z (ly Y6 mV) Z<|za 4 Z (jW Y3 (hcE.le h1) Z) Z<|iM 5 V ?_;refine zc Z Tt (first:=[]) (captured:=[]) Z Z Z (AP.fr (λL=>Sk p n hE L c N f d (lP x.exprs 0) x.name k b0 g m iv ov R (hC.le h1) hn (hM.le h1) hg hp vh (hvE.le h1) (rk hq hr)) [] _) ?_ ?_
 .rintro _ _ sx2 uu ⟨ri,mf2,sf2,cf2,Zf2,rc,rfl,mP⟩ sZ;repeat (first|refine sI ?_|refine sJ ?_)
  refine sN [] Pr (h1.t uu) λ_ iL=>?_;exact Hb
 rintro _ _ s2 h2 ⟨a2,m2,iv2,ov2,R2,rc,⟨rfl,oE⟩,rfl,jG⟩;have e2:=h1.t h2;refine ⟨(λx hx=>by cases hx),?_⟩;rw [rc] at hq;simp only [ER.and] at hq;simp only [iU,iV];have hia:=Qr rc;have hui:=oE;have A0:=oE.1;obtain ⟨_,_,_,hla1,_⟩:=jG.ary (hC.le e2) hp vh hg;refine H1 ?_;refine jq V<|Zt<|Zs<|ma jF 15 Z ([]:Hl) (λx hx=>by cases hx) λs3 h3=>H3 ?_;refine za 4 Z (jW Y3 (o9.le (e2.t h3)) Z) Z<|H1 ?_;refine za 8 Z (jW Y3 (tJ.le (e2.t h3)) Z) Z<|za 9 Z (ly Y6 h1n) Z<|za 10 Z (jW Y3 (hcF.le (e2.t h3)) Z) Z<|H1 ?_;have e3:=e2.t h3;refine kD 3 12 V ?_ ?_
 .refine j5 Z Tt (Wd 0 Y5) Z<|za 5 Z (ly Y6 yQ) Z<|za 6 Z (jW Y3 (uj.le e3) Z) Z<|iM 12 V ?_;refine zc Z Tt (first:=[]) (captured:=[jc b4]) Z Z Z (AP.fr (λL=>hE L _ c N f d (lP x.exprs 1) _ m2 iv2 ov2 R2 (hC.le e3) hn (hvF.le e3) (jG.le h3) (rk hq hr)) [] _) ?_ ?_;.exact Ix
  rintro _ _ s4 h4 ⟨a4,m4,iv4,ov4,R4,he4,⟨rfl,hu4⟩,rfl,hM4⟩;refine ⟨(λx hx=>by cases hx),?_⟩;rw [he4] at hq;simp only [ER.and] at hq;simp only [iU,iV];obtain ⟨_,_,_,hla2,_⟩:=hM4.ary (hC.le (e3.t h4)) hp vh hg;obtain ⟨i,hbi,hset⟩:=hM4.blk qq yQ hg (MB c N 0 m4 iv4 ov4 0 0) (mw c m4) (mo c m4) L;rw [hg,aH] at hq;refine za 13 Z (xw Y6 A0 (show a2 < ((g.num.toNat:Nat):Int) by omega)) Z<|iM 14 V ?_;exact HP
 refine zc Z Tt (first:=[]) (captured:=[jc b4]) Z Z Z (AP.fr (λL=>hE L _ c N f d (lP x.exprs 1) _ m2 iv2 ov2 R2 (hC.le e3) hn (hvF.le e3) (jG.le h3) (rk hq hr)) [] _) ?_ ?_;.exact Ix
 rintro _ _ s4 h4 ⟨a4,m4,iv4,ov4,R4,he4,⟨rfl,hu4⟩,rfl,hM4⟩;refine ⟨(λx hx=>by cases hx),?_⟩;rw [he4] at hq;simp only [ER.and] at hq;simp only [iU,iV];obtain ⟨_,_,_,hla2,_⟩:=hM4.ary (hC.le (e3.t h4)) hp vh hg;obtain ⟨i,hbi,hset⟩:=hM4.blk qq yQ hg (MB c N 0 m4 iv4 ov4 0 0) (mw c m4) (mo c m4) L;rw [hg,aH] at hq;refine iM 3 V<|j5 Z Tt (Wd 0 Y5) Z<|za 5 Z (ly Y6 yQ) Z<|za 6 Z (jW Y3 (uj.le e3) Z) Z<|za 13 Z (xw Y6 A0 (show a2 < ((g.num.toNat:Nat):Int) by omega)) Z<|iM 14 V ?_;exact HP
def WJ{p:Prop} (h:p:=by
 refine oV [] (.inr Z) (.t1 Z) Z Lc λ_ iL=>?_;exact ⟨_,m3,iv3,ov3,R3,hq,⟨rfl,hu3,hz3⟩,rfl,Pz⟩):p:=h
def Ip{p:Prop} (h:p:=by
 rintro _ _ sx3 hx3 ⟨xb,mf3,sf3,cf3,Zf3,he3,rfl,hF3⟩ sZ;repeat (first|refine sI ?_|refine sJ ?_)
 refine sN [] Pr Lc λ_ iL=>?_;exact ⟨xb,mf3,sf3,cf3,Zf3,hq.trans he3,rfl,hF3⟩):p:=h
def qz9(p:ja)(n:Nat)(hE:uM p D n)(hT:Cp p D n)(L:Hl)(s:World)(c:MC)(N:Nat)(f:iT)(d:Nat)(x:jb)(m:MS)(iv ov:Value)(R:Hl)(hC:CT p c s)(hn:c.nf=f.params.length+f.locals.length)(hM:MG p c N m iv ov R s)(b1 b2 b3:Nat)(A:OAdr9)(n1 z1:Nat)(B:OAdr9)(n2 z2:Nat)(G:OAdr9)(n3 z3:Nat)(hk:x.kind=3)(o9:iH s b1 0 [.slice A n1 z1])(tJ:iH s b2 0 [.slice B n2 z2])(vh:iH s b3 0 [.slice G n3 z3])(hA:pI p f d s A n1 z1 x.exprs)(mV:0 < n1)(hB:wR p f d s B n2 z2 x.body)(hG:wR p f d s G n3 z3 x.els)(hr:sX p (jm p jx n) f x m≠.out):AP prog D 105 [.pointer (some ⟨c.bm,0,none⟩),jc b1,jc b2,jc b3] (MB c N 0 m iv ov 0 0::mw c m::mo c m::(R++L)) s (py p c N (sX p (jm p jx n) f x m) VS RS [] L) (pv c N (sX p (jm p jx n) f x m) [] L):=by
 obtain ⟨r,hq⟩:∃ r,r=sX p (jm p jx n) f x m:=⟨_,rfl⟩;rw [<- hq] at hr ⊢;rw [sX,am O,am O,aw hk] at hq;obtain ⟨B0,o0,b0,rfl,hcE,hvE⟩:=pI.at_ hA mV;refine qI (fn:=f105) jl func105 V Z ntmps105 Z (rs:=[.tmp 5]) Z [(0,_),(1,_),(2,_),(3,_)] Z<|G8 ?_;refine iI (jW Y3 (o9.le (Lr D)) Z) Z<|iI (ly Y6 mV) Z<|iI (jW Y3 Pz Z) Z<|jY Y2 ?_;refine rH (first:=[]) (captured:=[jc b0]) Y3 (AP.fr (λL=>hE L _ c N f d (lP x.exprs 0) _ m iv ov R Pz hn Pz Pz (rk hq hr)) [] _) ?_ ?_;.exact E2
 rintro _ _ s1 h1 ⟨a1,m1,qS,ov1,R1,he1,⟨rfl,pr⟩,rfl,mG⟩;rw [he1] at hq;simp only [ER.and] at hq;simp only [iU,iV];refine G3 ?_;refine lD Z ?_ ?_<;>intro c2
 .rw [aw c2] at hq;refine Sr<|jY Y2<|iI (jW Y3 (tJ.le h1) Z) Z ?_;refine rH (first:=[]) (captured:=[]) Y3 (AP.fr (λL=>Oc p n hT L c N f d x.body m1 qS ov1 R1 Pz hn Pz B n2 z2 (hB.le h1) (hq▸hr)) [] _) ?_ ?_;.exact Ip
  rintro _ _ s3 h3 ⟨a3,m3,iv3,ov3,R3,he3,⟨rfl,hu3,hz3⟩,rfl,lW⟩;rw [he3] at hq;simp only [iU,iV];refine G5 ?_;exact WJ
 rw [am (by simpa using c2)] at hq;refine G5 ?_;refine iI (jW Y3 (vh.le h1) Z) Z ?_;refine rH (first:=[]) (captured:=[]) Y3 (AP.fr (λL=>Oc p n hT L c N f d x.els m1 qS ov1 R1 Pz hn Pz G n3 z3 (hG.le h1) (hq▸hr)) [] _) ?_ ?_;.exact Ip
 rintro _ _ s3 h3 ⟨a3,m3,iv3,ov3,R3,he3,⟨rfl,hu3,hz3⟩,rfl,lW⟩;rw [he3] at hq;simp only [iU,iV];refine G4 ?_;exact WJ
theorem qBx{f:iT}{x:jb}(hk:x.kind=4):sX p S f x m=S.w f (lP x.exprs 0) x.body m:=by grind [sX]
theorem qBw{f:iT}{x:jb}(hk:x.kind=5):sX p S f x m=((qf (S.e f) x.exprs m).and λvs m=>S.c (uJ p x.name).toNat vs m).and λ_ m=>.ok (0,0) m:=by grind [sX,ER.and_assoc]
def MG.put(h:MG p c N m iv ov R s){b:UInt8}{Mo:Hl}(hl:m.out.length < 20000)(hO:Own 5 1 Mo ov' (m.out++[b]).length (bv (m.out++[b]))):MG p c N { m with out:=m.out++[b] } iv ov' (ol c.ab m.ae++Mo) s:=⟨h.inp,⟨Mo,rfl,hO⟩,h.ug,h.uf,h.ua,h.ng,h.lg,h.lf,h.lb,h.la,h.ar,by simp;omega,h.lc,h.ll,h.lN⟩
def PH(w:iR)(x:UInt8):bv (w++[x])=bv w++[.int .u8 (x.toNat:Int)]:=by simp [bv]
structure WG where
 j:Nat
 m:MS
 iv:Value
 ov:Value
 R:Hl
def Hg{p:Prop} (h:p:=by
 first
  | (exact ⟨(_,_),m4,iv4,ov4,R4,hq,⟨rfl,hu4,hz4⟩,rfl,Pz⟩)
  | (exact ⟨(0,0),m4,iv4,ov4,R4,hq,⟨rfl,⟨by decide,by decide⟩,λ_=>rfl⟩,rfl,Pz⟩)):p:=h
def qAR(p:ja)(n:Nat)(ihE:∀ j,j<=n->uM p D j)(ihT:∀ j,j<=n->Cp p D j)(L:Hl)(s:World)(c:MC)(N:Nat)(f:iT)(d:Nat)(x:jb)(m:MS)(iv ov:Value)(R:Hl)(hC:CT p c s)(hn:c.nf=f.params.length+f.locals.length)(hM:MG p c N m iv ov R s)(b1 b2:Nat)(A:OAdr9)(n1 z1:Nat)(B:OAdr9)(n2 z2:Nat)(hk:x.kind=4)(o9:iH s b1 0 [.slice A n1 z1])(tJ:iH s b2 0 [.slice B n2 z2])(hA:pI p f d s A n1 z1 x.exprs)(mV:0 < n1)(hB:wR p f d s B n2 z2 x.body)(hr:sX p (jm p jx n) f x m≠.out):AP prog D 107 [.pointer (some ⟨c.bm,0,none⟩),jc b1,jc b2] (MB c N 0 m iv ov 0 0::mw c m::mo c m::(R++L)) s (py p c N (sX p (jm p jx n) f x m) VS RS [] L) (pv c N (sX p (jm p jx n) f x m) [] L):=by
 obtain ⟨r,hq⟩:∃ r,r=sX p (jm p jx n) f x m:=⟨_,rfl⟩;rw [<- hq] at hr ⊢;rw [qBx hk] at hq;obtain ⟨B0,o0,b0,rfl,hcE,hvE⟩:=pI.at_ hA mV;refine qI (fn:=f107) jl func107 V Z ntmps107 Z (rs:=[.tmp 4]) Z [(0,_),(1,_),(2,_)] Z<|G7 ?_;refine lw (γ:=WG) (λg=>[(0,_),(1,_),(2,_),(4,_)]) (λg=>MB c N 0 g.m g.iv g.ov 0 0::mw c g.m::mo c g.m::(g.R++L)) (λg tw=>Le D s tw/\(g.j<=n/\MG p c N g.m g.iv g.ov g.R tw/\r=(jm p jx g.j).w f (lP x.exprs 0) x.body g.m)) (λg=>g.j) (λ_ _ _ h hl=>⟨h.1.trans hl,⟨h.2.1,h.2.2.1.le hl,h.2.2.2⟩⟩) ⟨n,m,iv,ov,R⟩ (.c4 Z Z Z Z (.nil _)) Z ⟨Le.refl _,⟨aC _,hM.le (Lr D),hq⟩⟩ ?_;intro g s1 I1;obtain ⟨j,mk,ivk,ovk,Rk⟩:=g;obtain ⟨oA,wZ,hq⟩:j<=n/\MG p c N mk ivk ovk Rk s1/\r=(jm p jx j).w f (lP x.exprs 0) x.body mk:=I1.2;dsimp only;obtain ⟨j,rfl⟩:∃ i,j=i+1:=by
   cases j with
   | zero=>exact absurd hq hr
   | succ i=>exact ⟨i,rfl⟩
 change r=wX (jm p jx j) f (lP x.exprs 0) x.body mk at hq;rw [wX] at hq;have hE:=ihE j O;have hT:=ihT j O;refine Zs<|Sr<|iI (jW Y3 (o9.le I1.1) Z) Z<|iI (ly Y6 mV) Z<|iI (jW Y3 Pz Z) Z<|jY Y2 ?_;refine rH (first:=[]) (captured:=[jc b0]) Y3 (AP.fr (λL=>hE L _ c N f d (lP x.exprs 0) _ mk ivk ovk Rk Pz hn Pz Pz (rk hq hr)) [] _) ?_ ?_;.exact DA
 rintro _ _ s2 h2 ⟨a2,m2,iv2,ov2,R2,rc,⟨rfl,oE⟩,rfl,jG⟩;rw [rc] at hq;simp only [ER.and] at hq;simp only [iU,iV];refine G3 ?_;refine lD Z ?_ ?_<;>intro c3
 .rw [am c3] at hq;refine G6 ?_;refine iI (jW Y3 (tJ.le Lc) Z) Z ?_;refine rH (first:=[]) (captured:=[]) Y3 (AP.fr (λL=>Oc p j hT L c N f d x.body m2 iv2 ov2 R2 Pz hn Pz B n2 z2 (hB.le (I1.1.t h2)) (rk hq hr)) [] _) ?_ ?_
  .rintro _ _ sx4 hx4 ⟨zL,mf4,sf4,cf4,Zf4,he4,rfl,hF4⟩ sZ;repeat (first|refine sI ?_|refine sJ ?_)
   refine sN [] Pr Lc λ_ iL=>?_;exact Hf
  rintro _ _ s4 h4 ⟨⟨a4,y4⟩,m4,iv4,ov4,R4,he4,⟨rfl,hu4,hz4⟩,rfl,hM4⟩;rw [he4] at hq;simp only [ER.and] at hq;simp only [iU,iV];refine J9 ?_ ?_<;>intro c5;.rw [aw c5] at hq;have hz9:=hz4 O;simp only [RS] at *;rw [hz9];refine Zl<|Ze Z<|G9 ?_;refine oV [] (.inr Z) (.t1 Z) Z Lc λ_ iL=>?_;exact Hg
  rw [am c5] at hq;refine J6 ?_ ?_<;>intro c6;.rw [aw c6] at hq;refine k8 ?_;refine oV [] (.inr Z) (.t1 Z) Z Lc λ_ iL=>?_;exact Hg
  rw [am c6] at hq;have hz9:=hz4 O;simp only [RS] at *;rw [hz9];refine G2 ?_;refine jd ⟨⟨j,m4,iv4,ov4,R4⟩,[],kp,Z,⟨Lc,⟨by show j<=n;omega,Pz,hq⟩⟩,(by show j < j+1;omega)⟩
 rw [aw (by simpa using c3)] at hq;refine k8 ?_;refine oV [] (.inr Z) (.t1 Z) Z Lc λ_ iL=>?_;first
   | (exact ⟨(_,_),m2,iv2,ov2,R2,hq,⟨rfl,oE,hz2⟩,rfl,Pz⟩)
   | (exact ⟨(0,0),m2,iv2,ov2,R2,hq,⟨rfl,⟨by decide,by decide⟩,λ_=>rfl⟩,rfl,Pz⟩)
def qu2(p:ja)(n:Nat)(hE:uM p D n)(L:Hl)(s:World)(c:MC)(N:Nat)(f:iT)(d:Nat)(x:jb)(m:MS)(iv ov:Value)(R:Hl)(hC:CT p c s)(hn:c.nf=f.params.length+f.locals.length)(hM:MG p c N m iv ov R s)(hK:Fk p D n)(b1 be bi k:Nat)(fk:iT)(A:OAdr9)(n1 z1:Nat)(hk:x.kind=5)(o9:iH s b1 0 [.func (.func 150) #[] #[jc be,jc bi]])(he:iH s be 0 [.slice A n1 z1])(hi:iH s bi 0 [iJ (k:Int)])(hA:pI p f d s A n1 z1 x.exprs)(hg:uJ p x.name=(k:Int))(hp:p.funcs[k]?=some fk)(hl:x.exprs.length=fk.params.length)(hr:sX p (jm p jx n) f x m≠.out):AP prog D 109 [.pointer (some ⟨c.bm,0,none⟩),jc b1] (MB c N 0 m iv ov 0 0::mw c m::mo c m::(R++L)) s (py p c N (sX p (jm p jx n) f x m) VS RS [] L) (pv c N (sX p (jm p jx n) f x m) [] L):=by
 obtain ⟨r,hq⟩:∃ r,r=sX p (jm p jx n) f x m:=⟨_,rfl⟩;rw [<- hq] at hr ⊢;rw [qBw hk,hg,aH] at hq;refine qI (fn:=f109) jl func109 V Z ntmps109 Z (rs:=[.tmp 3]) Z [(0,_),(1,_)] Z<|G7 ?_;refine iI (jW Y3 (o9.le (Lr D)) Z) Z<|jY Y2 ?_;refine rH (first:=[]) (captured:=[jc be,jc bi]) Y3 (AP.fr (λL=>f' p n hE L _ c N f d x.exprs m iv ov R Pz hn Pz hK be bi k fk A n1 z1 Pz Pz Pz hp hl (rk hq hr)) [] _) ?_ ?_;.exact E2
 rintro _ _ s1 h1 ⟨a1,m1,qS,ov1,R1,he1,⟨rfl,pr⟩,rfl,mG⟩;rw [he1] at hq;simp only [ER.and] at hq;simp only [iU,iV];refine G8 ?_;refine oV [] (.inr Z) (.t1 Z) Z h1 λ_ iL=>?_;exact ⟨(0,0),m1,qS,ov1,R1,hq,⟨rfl,⟨by decide,by decide⟩,λ_=>rfl⟩,rfl,Pz⟩
def qGT(p:ja)(n:Nat)(hE:uM p D n)(L:Hl)(s:World)(c:MC)(N:Nat)(f:iT)(d:Nat)(x:jb)(m:MS)(iv ov:Value)(R:Hl)(hC:CT p c s)(hn:c.nf=f.params.length+f.locals.length)(hM:MG p c N m iv ov R s)(b1:Nat)(A:OAdr9)(n1 z1:Nat)(hk:x.kind=6)(o9:iH s b1 0 [.slice A n1 z1])(hA:pI p f d s A n1 z1 x.exprs)(mV:0 < n1)(hr:sX p (jm p jx n) f x m≠.out):AP prog D 110 [.pointer (some ⟨c.bm,0,none⟩),jc b1] (MB c N 0 m iv ov 0 0::mw c m::mo c m::(R++L)) s (py p c N (sX p (jm p jx n) f x m) VS RS [] L) (pv c N (sX p (jm p jx n) f x m) [] L):=by
 obtain ⟨r,hq⟩:∃ r,r=sX p (jm p jx n) f x m:=⟨_,rfl⟩;rw [<- hq] at hr ⊢;rw [sX,am O,am O,am O,am O,am O,aw hk] at hq;obtain ⟨B0,o0,b0,rfl,hcE,hvE⟩:=pI.at_ hA mV;refine qI (fn:=f110) jl func110 V Z ntmps110 Z (rs:=[.tmp 3]) Z [(0,_),(1,_)] Z<|G8 ?_;refine iI (jW Y3 (o9.le (Lr D)) Z) Z<|iI (ly Y6 mV) Z<|iI (jW Y3 Pz Z) Z<|jY Y2 ?_;refine rH (first:=[]) (captured:=[jc b0]) Y3 (AP.fr (λL=>hE L _ c N f d (lP x.exprs 0) _ m iv ov R Pz hn Pz Pz (rk hq hr)) [] _) ?_ ?_;.exact E2
 rintro _ _ s1 h1 ⟨a1,m1,qS,ov1,R1,he1,⟨rfl,pr⟩,rfl,mG⟩;rw [he1] at hq;simp only [ER.and] at hq;simp only [iU,iV];refine G2 ?_;refine X32 ?_;refine oV [] (.inr Z) (.t1 Z) Z h1 λ_ iL=>?_;exact ⟨(3,a1),m1,qS,ov1,R1,hq,⟨rfl,pr,λh=>absurd rfl h⟩,rfl,Pz⟩
def qGP(p:ja)(n:Nat)(hE:uM p D n)(L:Hl)(s:World)(c:MC)(N:Nat)(f:iT)(d:Nat)(x:jb)(m:MS)(iv ov:Value)(R:Hl)(hC:CT p c s)(hn:c.nf=f.params.length+f.locals.length)(hM:MG p c N m iv ov R s)(b1:Nat)(A:OAdr9)(n1 z1:Nat)(hk:x.kind=7)(o9:iH s b1 0 [.slice A n1 z1])(hA:pI p f d s A n1 z1 x.exprs)(mV:0 < n1)(hr:sX p (jm p jx n) f x m≠.out):AP prog D 111 [.pointer (some ⟨c.bm,0,none⟩),jc b1] (MB c N 0 m iv ov 0 0::mw c m::mo c m::(R++L)) s (py p c N (sX p (jm p jx n) f x m) VS RS [] L) (pv c N (sX p (jm p jx n) f x m) [] L):=by
 obtain ⟨r,hq⟩:∃ r,r=sX p (jm p jx n) f x m:=⟨_,rfl⟩;rw [<- hq] at hr ⊢;rw [sX,am O,am O,am O,am O,am O,am O,aw hk] at hq;obtain ⟨B0,o0,b0,rfl,hcE,hvE⟩:=pI.at_ hA mV;refine qI (fn:=f111) jl func111 V Z ntmps111 Z (rs:=[.tmp 3]) Z [(0,_),(1,_)] Z<|G7 ?_;refine X29 ?_;refine rH (first:=[]) (captured:=[jc b0]) Y3 (AP.fr (λL=>hE L _ c N f d (lP x.exprs 0) _ m iv ov R (hC.le (Lr D)) hn (hvE.le (Lr D)) (hM.le (Lr D)) (rk hq hr)) [] _) ?_ ?_;.exact E2
 rintro _ _ s1 h1 ⟨a1,m1,qS,ov1,R1,he1,⟨rfl,pr⟩,rfl,mG⟩;rw [he1] at hq;simp only [ER.and] at hq;simp only [iU,iV];obtain ⟨Mo,hR,hO⟩:=mG.out;obtain ⟨Ao,co,hov,_,_⟩:=Own.slice hO;subst hov;subst hR;refine mn ?_;refine uH Y3<|J2 ?_ ?_<;>intro c2
 .have q9:=c2;refine G2 ?_;refine rH (first:=[]) (captured:=[]) Y3 (EM [] c N m1 qS _) ?_ ?_;.exact Wo
  rintro _ _ s3 h3 ⟨⟩
 have q9:=c2;rw [am O] at hq;refine k8 ?_;refine iI (jD (Ga Z Z Z Z Z) (bj (Value.int .u8) (u8w pr))) Z<|kF [(_,_)] [_] Y9 λβ3 s3 h3 rU=>rp (sz:=1) (MB c N 0 m1 qS _ 0 0::mw c m1::mo c m1::ol c.ab m1.ae) Mo L ⟨(by rw [an];rfl),Z,Z,Z,Z,Z,Z⟩ hO (Row.of_cells (rU.le (Lr D)) Z Z) ⟨by simp [CQ];omega,by omega⟩ Z ?_;intro v9 M9 s4 h4 oq;obtain ⟨A9,q9,rfl,_,_⟩:=Own.slice oq;rw [<- PH] at oq;simp only [ao];rw [<- an];refine G3 ?_;refine X32 ?_;refine oV [] (.inr Z) (.t1 Z) Z (h1.t h3|>.t h4) λ_ iL=>?_;exact ⟨(0,0),{ m1 with out:=m1.out++[UInt8.ofNat a1.toNat] },qS,_,(ol c.ab m1.ae++M9),hq,⟨rfl,⟨by decide,by decide⟩,λ_=>rfl⟩,rfl,((mG.put O (by rw [ac];exact oq)).le (h3.t h4|>.t iL))⟩
def qvc(p:ja)(n:Nat)(hE:uM p D n)(L:Hl)(s:World)(c:MC)(N:Nat)(f:iT)(d:Nat)(x:jb)(m:MS)(iv ov:Value)(R:Hl)(hC:CT p c s)(hn:c.nf=f.params.length+f.locals.length)(hM:MG p c N m iv ov R s)(b1:Nat)(A:OAdr9)(n1 z1:Nat)(hk:x.kind=8)(o9:iH s b1 0 [.slice A n1 z1])(hA:pI p f d s A n1 z1 x.exprs)(mV:0 < n1)(hr:sX p (jm p jx n) f x m≠.out):AP prog D 112 [.pointer (some ⟨c.bm,0,none⟩),jc b1] (MB c N 0 m iv ov 0 0::mw c m::mo c m::(R++L)) s (py p c N (sX p (jm p jx n) f x m) VS RS [] L) (pv c N (sX p (jm p jx n) f x m) [] L):=by
 obtain ⟨r,hq⟩:∃ r,r=sX p (jm p jx n) f x m:=⟨_,rfl⟩;rw [<- hq] at hr ⊢;rw [sX,am O,am O,am O,am O,am O,am O,am O,aw hk] at hq;obtain ⟨B0,o0,b0,rfl,hcE,hvE⟩:=pI.at_ hA mV;refine qI (fn:=f112) jl func112 V Z ntmps112 Z (rs:=[.tmp 3]) Z [(0,_),(1,_)] Z<|G8 ?_;refine X29 ?_;refine rH (first:=[]) (captured:=[jc b0]) Y3 (AP.fr (λL=>hE L _ c N f d (lP x.exprs 0) _ m iv ov R (hC.le (Lr D)) hn (hvE.le (Lr D)) (hM.le (Lr D)) (rk hq hr)) [] _) ?_ ?_;.exact E2
 rintro _ _ s1 h1 ⟨a1,m1,qS,ov1,R1,he1,⟨rfl,pr⟩,rfl,mG⟩;rw [he1] at hq;simp only [ER.and] at hq;simp only [iU,iV];refine rH (first:=[]) (captured:=[]) Y3 (EM [] c N m1 qS ov1) ?_ ?_
 .rintro _ _ sx2 uu ⟨ri,rfl⟩ sZ;repeat (first|refine sI ?_|refine sJ ?_)
  refine sN [] Pr (h1.t uu) λ_ iL=>?_;exact ⟨ri,m1,_,_,_,hq,rfl,((mG.le uu).fin _ _ _)⟩
 rintro _ _ s2 h2 ⟨⟩
def qFu(p:ja)(n:Nat)(L:Hl)(s:World)(c:MC)(N:Nat)(f:iT)(d:Nat)(x:jb)(m:MS)(iv ov:Value)(R:Hl)(hC:CT p c s)(hn:c.nf=f.params.length+f.locals.length)(hM:MG p c N m iv ov R s)(hk:x.kind=9):AP prog D 113 [.pointer (some ⟨c.bm,0,none⟩)] (MB c N 0 m iv ov 0 0::mw c m::mo c m::(R++L)) s (py p c N (sX p (jm p jx n) f x m) VS RS [] L) (pv c N (sX p (jm p jx n) f x m) [] L):=by
 refine qI (fn:=f113) jl func113 V Z ntmps113 Z (rs:=[.tmp 2]) Z [(0,_)] Z<|k8 ?_;refine oV [] (.inr Z) (.t1 Z) Z (Lr D) λ_ iL=>?_;exact ⟨(1,0),m,iv,ov,R,by rw [sX,am O,am O,am O,am O,am O,am O,am O,am O,aw hk],⟨rfl,⟨by decide,by decide⟩,λ_=>rfl⟩,rfl,hM.le Lc⟩
def qAa(p:ja)(n:Nat)(L:Hl)(s:World)(c:MC)(N:Nat)(f:iT)(d:Nat)(x:jb)(m:MS)(iv ov:Value)(R:Hl)(hC:CT p c s)(hn:c.nf=f.params.length+f.locals.length)(hM:MG p c N m iv ov R s)(hk:x.kind=10):AP prog D 114 [.pointer (some ⟨c.bm,0,none⟩)] (MB c N 0 m iv ov 0 0::mw c m::mo c m::(R++L)) s (py p c N (sX p (jm p jx n) f x m) VS RS [] L) (pv c N (sX p (jm p jx n) f x m) [] L):=by
 refine qI (fn:=f114) jl func114 V Z ntmps114 Z (rs:=[.tmp 2]) Z [(0,_)] Z<|k8 ?_;refine oV [] (.inr Z) (.t1 Z) Z (Lr D) λ_ iL=>?_;exact ⟨(2,0),m,iv,ov,R,by rw [sX,am O,am O,am O,am O,am O,am O,am O,am O,am O],⟨rfl,⟨by decide,by decide⟩,λ_=>rfl⟩,rfl,hM.le Lc⟩
def Ck{α:Type}(m:MS):ER α->Prop
 | .ok _ m1=>m1.calls=m.calls
 | _=>True
def Ck.and{α β:Type}{r:ER α}{k:α->MS->ER β}(h:Ck m r)(hk:∀ a m1,Ck m1 (k a m1)):Ck m (r.and k):=by
 cases r with
 | out=>trivial
 | fin m1 st cd=>trivial
 | ok a m1=>
  have h2:=hk a m1;have h3:m1.calls=m.calls:=h;show Ck m (k a m1);cases hr:k a m1 with
  | out=>trivial
  | fin m2 st cd=>trivial
  | ok b m2=>rw [hr] at h2;exact (show m2.calls=m1.calls from h2).trans h3
def Tl{E:Ex->MS->ER Int}(hE:∀ x m,Ck m (E x m)):∀ (l:List Ex) (m:MS),Ck m (qf E l m)
 | [],m=>by rw [qf];exact rfl
 | x::r,m=>by rw [qf];exact (hE x m).and λv m1=>(Tl hE r m1).and λ_ _=>rfl
def Tn{T:jb->MS->ER (Int×Int)}(hT:∀ x m,Ck m (T x m)):∀ (l:List jb) (m:MS),Ck m (oN T l m)
 | [],m=>by rw [oN];exact rfl
 | x::r,m=>by
  rw [oN];refine (hT x m).and λy m1=>?_;split
  . exact Tn hT r m1
  . exact rfl
def qxJ{p:ja}{OP:Int->Int->Int->Option Int}:∀ n,(∀ f x m,Ck m ((jm p OP n).e f x m))/\(∀ i vs m,Ck m ((jm p OP n).c i vs m))/\(∀ f x m,Ck m ((jm p OP n).t f x m))/\∀ f c b m,Ck m ((jm p OP n).w f c b m)
  | 0=>⟨λ_ _ _=>trivial,λ_ _ _=>trivial,λ_ _ _=>trivial,λ_ _ _ _=>trivial⟩
  | n+1=>by
    obtain ⟨hE,hC,hT,hW⟩:=qxJ (p:=p) (OP:=OP) n;have hR:=λf=>Tn (T:=(jm p OP n).t f) (hT f);have hS:∀ m:MS,Ck m (vI m):=λm=>by unfold vI;split;exact trivial;exact rfl
    refine ⟨λf x m=>(hS m).and λ_ m=>?_,λi vs m=>?_,λf x m=>(hS m).and λ_ m=>?_,λf c b m=>?_⟩
    . unfold vX
      split;exact rfl;split;exact rfl;split
      . exact (hE _ _ _).and λi m=>by split;exact trivial;exact rfl
      split
      . exact (Tl (hE f) _ _).and λvs m=>hC _ _ _
      split
      . unfold DH;split<;>exact rfl
      split
      . exact (hE _ _ _).and λa m=>rfl
      . refine (hE _ _ _).and λa m=>?_
        split;exact rfl;split;exact rfl;refine (hE _ _ _).and λb m=>?_;split;exact rfl;exact trivial
    . show Ck m (cX p (jm p OP n) i vs m)
      unfold cX;split
      . trivial
      . generalize oN ((jm p OP n).t (p.funcs.getD i wq)) (p.funcs.getD i wq).body _=r
        cases r<;>first|trivial|rfl
    . unfold sX
      split
      . refine (hE _ _ _).and λv m=>?_
        unfold Aj;split<;>exact rfl
      split
      . refine (hE _ _ _).and λi m=>?_
        split;exact trivial;exact (hE _ _ _).and λv m=>rfl
      split
      . refine (hE _ _ _).and λv m=>?_
        split;exact hR f _ _;exact hR f _ _
      split
      . exact hW _ _ _ _
      split
      . exact (Tl (hE f) _ _).and λvs m=>(hC _ _ _).and λ_ m=>rfl
      split
      . exact (hE _ _ _).and λv m=>rfl
      split
      . refine (hE _ _ _).and λv m=>?_
        split;exact trivial;exact rfl
      split
      . exact (hE _ _ _).and λv m=>trivial
      split;exact rfl;exact rfl
    . show Ck m (wX (jm p OP n) f c b m)
      unfold wX;refine (hE _ _ _).and λv m=>?_;split;exact rfl;refine (hR f _ _).and λy m=>?_;split;exact rfl;split;exact rfl;exact hW _ _ _ _
def qII{OP:Int->Int->Int->Option Int}{f:iT}{l:List jb}{m1:MS}{a:Int×Int}(h:oN ((jm p OP n).t f) l m=.ok a m1):m1.calls=m.calls:=by
 have:=Tn (T:=(jm p OP n).t f) ((qxJ (p:=p) (OP:=OP) n).2.2.1 f) l m;rw [h] at this;exact this
def CT.at_(h:CT p c s)(hp:p.funcs[k]?=some fk):∃ b off d A n q,c.Af=some ⟨b,off,none⟩/\k < c.nF/\iH s b (off+k * 2) [iJ ((fk.params.length+fk.locals.length:Nat):Int),.slice A n q]/\wR p fk d s A n q fk.body:=by
 obtain ⟨b,off,cs,h1,h2,_,d,A,n,q,rfl,h4⟩:=h.fn.2.2.2 k fk hp;exact ⟨b,off,d,A,n,q,h1,by rw [h.fn.1];exact (al.1 hp).1,h2,h4⟩
def qxR{sz:Nat}(h:vs.length<=sz):wv vs++(List.replicate sz (Value.int .u32 0)).drop vs.length=wv (pE sz vs):=by
 rw [List.drop_replicate,pE,aI h,wv,wv,bR,List.map_replicate]
theorem qqG{sz:Nat}(h:vs.length<=sz):(pE sz vs).length=sz:=by grind [pE,List.length_append]
def W7{sz:Nat}(h:∀ x∈vs,iY x):∀ x∈pE sz vs,iY x:=λx hx=>by
 rcases aU.1 hx with hx|hx
 . exact h x (dZ hx)
 . rw [dQ] at hx;rw [hx.2];exact ⟨by decide,by decide⟩
def MG.call(h:MG p c N m iv ov R s)(hl:l.length=nf)(hu:∀ x∈l,iY x)(hc:¬ m.calls=100):MG p (c.wf bf nf) N { m with frm:=l,calls:=m.calls+1 } iv ov R s:=⟨h.inp,h.out,h.ug,hu,h.ua,h.ng,h.lg,hl,h.lb,h.la,h.ar,h.lo,by have:=h.lc;show m.calls+1<=100;omega,h.ll,h.lN⟩
def MG.back{m0:MS}(h:MG p (c.wf bf nf) N m iv ov R s){iv0 ov0:Value}{R0:Hl}(h0:MG p c N m0 iv0 ov0 R0 s0):MG p c N { m with frm:=m0.frm,calls:=m0.calls } iv ov R s:=⟨h.inp,h.out,h.ug,h0.uf,h.ua,h.ng,h.lg,h0.lf,h.lb,h.la,h.ar,h.lo,h0.lc,h.ll,h.lN⟩
def CT.wf(h:CT p c s)(bf nf:Nat):CT p (c.wf bf nf) s:=⟨h.fn,h.ar,h.fs,h.gu⟩
def Ji:(a::x::y::L).Perm (x::y::a::L):=(List.Perm.swap x a _).trans ((List.Perm.swap y a _).cons x)
def Qp:(x::y::a::L).Perm (a::x::y::L):=Ji.symm
def Jj:(x::y::z::(R++L)).Perm (x::y::(R++z::L)):=((eR (l₁:=R) (a:=z) (l₂:=L)).symm.cons y).cons x
def AP.perm{f:FuncId}{args:LVal9}{L1:Hl}{R R':Value->Hl->World->Prop}{X X':List PanicEntry->Hl->World->Prop}(hp:L.Perm L1)(h:AP prog D f args L1 s R X)(hq:∀ v L1' s',R v L1' s'->∃ L',L1'.Perm L'/\R' v L' s')(hx:∀ ch L1' s',X ch L1' s'->∃ L',L1'.Perm L'/\X' ch L' s'):AP prog D f args L s R' X':=
  ⟨h.1,λho=>by
    rw [tr hp _ ho];refine (h.2 (ho.perm hp)).mono ?_;rintro e w' ⟨L1',s',hw,l9,hl,hr⟩;rcases hr with ⟨v,he,hr⟩|⟨ch,he,hr⟩
    . obtain ⟨L',h1,h2⟩:=hq v L1' s' hr
      exact ⟨L',s',by rw [hw,tr h1 _ l9],l9.perm h1,hl,.inl ⟨v,he,h2⟩⟩
    . obtain ⟨L',h1,h2⟩:=hx ch L1' s' hr
      exact ⟨L',s',by rw [hw,tr h1 _ l9],l9.perm h1,hl,.inr ⟨ch,he,h2⟩⟩⟩
def okF(p:ja)(c:MC)(N:Nat)(fv:Value)(r:ER Int)(L:Hl)(v:Value)(L':Hl)(s':World):Prop:=∃ a m' iv ov R,r=.ok a m'/\VE a v/\L'=xL c N 0 m' iv ov 0 0 fv::mw c m'::(R++L)/\MG p c N m' iv ov R s'
def qIH(hp:p.funcs[k]?=some fk)(vs:LInt9)(m:MS):cX p S k vs m=if m.calls=100 then .fin m 1 3 else (oN (S.t fk) fk.body { m with frm:=pE (fk.params.length+fk.locals.length) vs,calls:=m.calls+1 }).and λy m1=>.ok (if y.1=3 then y.2 else 0) { m1 with frm:=m.frm,calls:=m.calls }:=by simp [hp,cX]
def g_(p:ja)(n:Nat)(hT:Cp p D n)(L:Hl)(s:World)(c:MC)(N k:Nat)(fk:iT)(vs:LInt9)(A1:OAdr9)(n1 z1:Nat)(m:MS)(iv ov:Value)(R:Hl)(hC:CT p c s)(hW:lV s A1 n1 z1 vs)(hp:p.funcs[k]?=some fk)(hl:vs.length=fk.params.length)(hM:MG p c N m iv ov R s)(hr:cX p (jm p jx n) k vs m≠.out):AP prog D 63 [.pointer (some ⟨c.bm,0,none⟩),iJ (k:Int),.slice A1 n1 z1] (xL c N 0 m iv ov 0 0 (.slice F0 n0 z0)::mw c m::(R++L)) s (okF p c N (.slice F0 n0 z0) (cX p (jm p jx n) k vs m) L) (pv c N (cX p (jm p jx n) k vs m) [] L):=by
 obtain ⟨r,hq⟩:∃ r,r=cX p (jm p jx n) k vs m:=⟨_,rfl⟩;rw [<- hq] at hr ⊢;rw [qIH hp] at hq;obtain ⟨bF,oF,d,Ab,nb,cb9,hAf,hkF,hcf,hB⟩:=hC.at_ hp;have hf9:=hC.fs fk (ay hp);have lX:=hW.1;have xS:=hM.lc;have xu:vs.length<=fk.params.length+fk.locals.length:=by omega
 subst lX;refine qI (fn:=f63) jl func63 V Z ntmps63 Z (rs:=[.tmp 6]) Z [(0,_),(1,_),(2,_)] Z<|Ek ?_ ?_<;>intro c1
 .have q9:=c1;refine G2 ?_;refine rH (first:=[]) (captured:=[]) Y3 (EM [] c N m iv ov) ?_ ?_
  .rintro _ _ sx2 uu ⟨ri,rfl⟩ sZ;repeat (first|refine sI ?_|refine sJ ?_)
   refine sN [] Pr uu λ_ iL=>?_;exact ⟨ri,m,1,3,_,by rw [hq,aw O],rfl,(hM.le uu).finv _ _ _ _ [mw c m]⟩
  rintro _ _ s2 h2 ⟨⟩
 have q9:¬ m.calls=100:=by have:=c1;omega
 rw [am q9] at hq;refine G7 ?_;refine iI (jD (Wd 0 Y5) (bj (λa=>Value.slice a c.nF c.cF) hAf)) Z<|jY Y2<|iI (jR Y6 hkF) Z<|iI (kq Y3 (hcf.le (Lr D)) Z) Z<|jp Z [_,_] Y2 λβ2 s2 h2=>Wt 0 [_,_] Y9<|Nt<|Zs<|tO [] [_] ?_;intro s3 h3 nP;have e3:=h2.t h3;simp only [iU,iV];have hc7:=nP _ _ _ (aV.2 rfl);refine mn ?_;refine iI (jW Y3 (hc7.le (Lr D)) Z) Z<|qIk (m:=fk.params.length+fk.locals.length) Z Z Z Z Z Q13 O Z λβ s4 h4=>G2 ?_;refine Wt 1 [_,_,_,_,_,_,_,_,_,_,_,_] Y9<|G9 ?_;refine JV 0 (L':=(β,cb (wv (pE (fk.params.length+fk.locals.length) vs)) 22)::_) Y7 (hW.row.le (e3.t h4)) xu (by simp) (by rw [qxR xu];rfl) Z<|Nt<|Zs<|EP Ji<|G5 ?_;have e4:=e3.t h4;refine iI (jD (nD Z Z (jB O O)) (bj (Value.int .i64) (show (m.calls:Int)+1=((m.calls+1:Nat):Int) by omega))) Z<|G2 ?_;refine Wt 0 [_,_,_,_,_,_,_,_,_,_,_,_] Y9<|G7 ?_;refine Wt 0 [_,_,_,_,_,_,_,_,_,_,_,_] Y9<|G5 ?_;refine iI (pu Y4) Z<|iI (nh 1 Y3 (hc7.le h4) Z) Z ?_;refine rH (first:=[]) (captured:=[]) Y3 (Oc p n hT L (c.wf β (fk.params.length+fk.locals.length)) N fk d fk.body { m with frm:=pE (fk.params.length+fk.locals.length) vs,calls:=m.calls+1 } iv ov R ((hC.le e4).wf _ _) Z ((hM.le e4).call (qqG xu) (W7 hW.u32) q9) Ab nb cb9 (hB.le e4) (rk hq hr)) ?_ ?_
 .rintro _ _ sx6 hx6 ⟨hp6,mf6,sf6,cf6,Zf6,he6,rfl,hF6⟩ sZ;repeat (first|refine sI ?_|refine sJ ?_)
  refine sN [] Pr (e4|>.t hx6) λ_ iL=>?_;exact ⟨hp6,mf6,sf6,cf6,Zf6,EW hq he6,rfl,hF6.wf⟩
 rintro _ _ s6 h6 ⟨⟨a6,y6⟩,m6,iv6,ov6,R6,he6,⟨rfl,hu6,hz6⟩,rfl,hM6⟩;have AS:m6.calls=m.calls+1:=qII he6;rw [he6] at hq;simp only [ER.and] at hq;rw [show (if a6=3 then y6 else 0)=y6 from by split;rfl;rename_i h8;exact (hz6 h8).symm] at hq;simp only [iU,iV];refine CX ?_;refine X32 ?_;refine iI (jD (rn Z Z (jB O O)) (bj (Value.int .i64) (show _=((m.calls:Nat):Int) by omega))) Z<|G2 ?_;refine Wt 0 [_,_,_,_,_,_,_,_,_,_,_,_] Y9<|Nt<|Zs<|EP Qp ?_;refine G5 ?_;refine Wt 1 [_,_,_,_,_,_,_,_,_,_,_,_] Y9<|G9 ?_;refine oV [_] (.inr Z) (.t1 Z) Z (e4.t h6) λ_ iL=>?_;exact ⟨_,{ m6 with frm:=m.frm,calls:=m.calls },iv6,ov6,R6,hq,⟨rfl,hu6⟩,rfl,(hM6.back hM).le ((Lr D).t iL)⟩
def qz2(p:ja)(n:Nat)(hT:Cp p D n)(L:Hl)(s:World)(c:MC)(N k:Nat)(fk:iT)(vs:LInt9)(A1:OAdr9)(n1 c1:Nat)(m:MS)(iv ov:Value)(R:Hl)(hC:CT p c s)(hW:lV s A1 n1 c1 vs)(hp:p.funcs[k]?=some fk)(hl:vs.length=fk.params.length)(hM:MG p c N m iv ov R s)(hr:cX p (jm p jx n) k vs m≠.out):AP prog D 63 [.pointer (some ⟨c.bm,0,none⟩),iJ (k:Int),.slice A1 n1 c1] (MB c N 0 m iv ov 0 0::mw c m::mo c m::(R++L)) s (py p c N (cX p (jm p jx n) k vs m) VE RE [] L) (pv c N (cX p (jm p jx n) k vs m) [] L):=by
  refine AP.perm Jj (g_ p n hT (mo c m::L) s c N k fk vs A1 n1 c1 m iv ov R hC hW hp hl hM hr) ?_ ?_
  . rintro v L1 s1 ⟨a,m',iv',ov',R',h1,h2,rfl,h4⟩
    have hf:m'.frm=m.frm:=by
      rw [cX] at h1;split at h1
      . cases h1
      . cases tM:oN ((jm p jx n).t (p.funcs.getD k wq)) (p.funcs.getD k wq).body { m with frm:=pE ((p.funcs.getD k wq).params.length+(p.funcs.getD k wq).locals.length) vs,calls:=m.calls+1 } with
        | out=>rw [tM] at h1;cases h1
        | fin _ _ _=>rw [tM] at h1;cases h1
        | ok y m2=>rw [tM] at h1;simp only [ER.and] at h1;injection h1 with _ h1;rw [<- h1]
    refine ⟨_,Jj.symm,a,m',iv',ov',R',h1,h2,?_,h4⟩;have e:mo c m=mo c m':=by rw [mo,mo,hf]
    rw [e];rfl
  . rintro ch L1 s1 ⟨h1,m',st,cd,Zq9,h2,rfl,h4⟩
    exact ⟨_,eF _,h1,m',st,cd,Zq9++[mo c m],h2,by simp,h4.app _⟩
def vok(p:ja)(n:Nat)(hE:uM p D n)(hK:Fk p D n):U7 p D n:=by
 intro L s c N f d x w m iv ov R hC hn hv hM hr;cases hv with
 | num b A1 n1 c1 hk hc hu=>exact ⟨_,[_],rfl,qGx L s p c N f x m iv ov R hn hM b A1 n1 c1 hk hc hu⟩
 | slot b hk h0 hl hc=>exact ⟨_,[_],rfl,qBE L s p c N f x m iv ov R hn hM b hk h0 hl hc⟩
 | con b k g A n1 c1 hk hs hg hp h1 hc hu=>exact ⟨_,[_],rfl,qFN L s p c N f x m iv ov R hn hM b k g A n1 c1 hk hs hg hp h1 hc hu⟩
 | var b k g hk hs hg hp h1 hc=>exact ⟨_,[_],rfl,qHy L s p c N f x m iv ov R hn hM b k g hk hs hg hp h1 hc⟩
 | idx b1 b2 k g A n1 c1 hk hg hp h3 h1 h2 hA h0=>exact ⟨_,[_,_],rfl,qGm p n hE L s c N f d x m iv ov R hC hn hM b1 b2 k g A n1 c1 hk hg hp h3 h1 h2 hA h0 hr⟩
 | call w hk h=>
  obtain ⟨be,bi,A,n1,c1,k,fk,rfl,h1,h2,hA,hg,hp,hl⟩:=h;have e:vX p jx (jm p jx n) f x m=(qf ((jm p jx n).e f) x.args m).and λvs m=>(jm p jx n).c k vs m:=by rw [qCT hk,hg,aH]
  rw [e] at hr ⊢;exact ⟨_,[_,_],rfl,f' p n hE L s c N f d x.args m iv ov R hC hn hM hK be bi k fk A n1 c1 h1 h2 hA hp hl hr⟩
 | get hk=>exact ⟨_,[],rfl,qF9 L s p c N f x m iv ov R hn hM hk⟩
 | una b1 b2 A1 n1 c1 A n2 c2 hk h1 h2 hA h0=>exact ⟨_,[_,_],rfl,qHp p n hE L s c N f d x m iv ov R hC hn hM b1 b2 A1 n1 c1 A n2 c2 hk h1 h2 hA h0 hr⟩
 | bin b1 b2 b3 v1 v2 hk h1 h2 h3 xj uR ho=>
  obtain ⟨b4,rfl⟩:=xj.func;obtain ⟨b5,rfl⟩:=uR.func;exact ⟨_,[_,_,_],rfl,qFq p n hE L s c N f d x m iv ov R hC hn hM b1 b2 b3 b4 b5 hk h1 h2 h3 xj uR hr⟩
def sok(p:ja)(n:Nat)(ihE:∀ j,j<=n->uM p D j)(ihT:∀ j,j<=n->Cp p D j)(hK:Fk p D n):U3 p D n:=by
 intro L s c N f d x w m iv ov R hC hn hv hM hr;have hE:=ihE n (aC _);have hT:=ihT n (aC _);cases hv with
 | setl b1 b2 v hk h0 hl h1 h2 hv=>
  obtain ⟨b4,rfl⟩:=hv.func;exact ⟨_,[_,_],rfl,qBA p n hE L s c N f d x m iv ov R hC hn hM b1 b2 b4 hk h0 hl h1 h2 hv hr⟩
 | setg b1 b2 k g v hk hs hg hp wx h1 h2 hv=>
  obtain ⟨b4,rfl⟩:=hv.func;exact ⟨_,[_,_],rfl,qBz p n hE L s c N f d x m iv ov R hC hn hM b1 b2 b4 k g hk hs hg hp h1 h2 hv hr⟩
 | store b1 b2 k g A n1 c1 hk hg hp h3 h1 h2 hA h0=>exact ⟨_,[_,_],rfl,qvm p n hE L s c N f d x m iv ov R hC hn hM b1 b2 k g A n1 c1 hk hg hp h3 h1 h2 hA h0 hr⟩
 | cond b1 b2 b3 A n1 c1 B n2 c2 G n3 c3 hk h1 h2 h3 hA h0 hB hG=>exact ⟨_,[_,_,_],rfl,qz9 p n hE hT L s c N f d x m iv ov R hC hn hM b1 b2 b3 A n1 c1 B n2 c2 G n3 c3 hk h1 h2 h3 hA h0 hB hG hr⟩
 | loop b1 b2 A n1 c1 B n2 c2 hk h1 h2 hA h0 hB=>exact ⟨_,[_,_],rfl,qAR p n ihE ihT L s c N f d x m iv ov R hC hn hM b1 b2 A n1 c1 B n2 c2 hk h1 h2 hA h0 hB hr⟩
 | call b1 w hk h1 h=>
  obtain ⟨be,bi,A,n1,c1,k,fk,rfl,he,hi,hA,hg,hp,hl⟩:=h;exact ⟨_,[_],rfl,qu2 p n hE L s c N f d x m iv ov R hC hn hM hK b1 be bi k fk A n1 c1 hk h1 he hi hA hg hp hl hr⟩
 | ret b1 A n1 c1 hk h1 hA h0=>exact ⟨_,[_],rfl,qGT p n hE L s c N f d x m iv ov R hC hn hM b1 A n1 c1 hk h1 hA h0 hr⟩
 | put b1 A n1 c1 hk h1 hA h0=>exact ⟨_,[_],rfl,qGP p n hE L s c N f d x m iv ov R hC hn hM b1 A n1 c1 hk h1 hA h0 hr⟩
 | stop b1 A n1 c1 hk h1 hA h0=>exact ⟨_,[_],rfl,qvc p n hE L s c N f d x m iv ov R hC hn hM b1 A n1 c1 hk h1 hA h0 hr⟩
 | brk hk=>exact ⟨_,[],rfl,qFu p n L s c N f d x m iv ov R hC hn hM hk⟩
 | cont hk=>exact ⟨_,[],rfl,qAa p n L s c N f d x m iv ov R hC hn hM hk⟩
def qxx(p:ja){D:Nat}:∀ n,uM p D n/\Fk p D n/\Cp p D n
 | 0=>⟨λ_ _ _ _ _ _ _ _ _ _ _ _ _ _ _ _ h=>absurd rfl h,λ_ _ _ _ _ _ _ _ _ _ _ _ _ _ _ _ _ _ _ h=>absurd rfl h,λ_ _ _ _ _ _ _ _ _ _ _ _ _ _ _ _ h=>absurd rfl h⟩
 | n+1=>by
  have ih:∀ j,j<=n->uM p D j/\Fk p D j/\Cp p D j:=λj hj=>qxx p j;obtain ⟨hE,hK,hT⟩:=ih n (aC _);exact ⟨qtM p n (vok p n hE hK),λL s c N k fk vs A n1 c1 m iv ov R hC hW hp hl hM hr=>qz2 p n hT L s c N k fk vs A n1 c1 m iv ov R hC hW hp hl hM hr,qw8 p n (sok p n (λj hj=>(ih j hj).1) (λj hj=>(ih j hj).2.2) hK)⟩
end
section
variable(L:Hl)(s:World){f:iT}{x:jb}
def trM(G:List Bool)(m:MS):MS:={ m with ah:=qL G m.ah,ae:=qL G m.ae }
def LM(G:List Bool)(m:MS):Prop:=m.ah.length=G.length/\m.ae.length=G.length
def Al(G:List Bool){α:Type}(r r':ER α):Prop:=match r with
 | .out=>r'=.out
 | .ok a m=>LM G m/\r'=.ok a (trM G m)
 | .fin m st cd=>r'=.fin (trM G m) st cd
def qu8{c k:Int}(h:(kR p f nm).1=(c,k))(hc:c=3\/c=4):¬ 0<=ld f nm:=by
 unfold kR at h;split at h
 . injection h with h1 _;omega
 rename_i k1;split at h
 . injection h with h1 _;omega
 rename_i k2;rw [ld,am k1,am k2];decide
def qu9(h:(kR p f nm).1.1=1\/(kR p f nm).1.1=2):0<=ld f nm:=by
 unfold kR at h;split at h
 . rename_i k1;rw [ld,aw k1];exact k1
 rename_i k1;split at h
 . rename_i k2;rw [ld,am k1,aw k2];omega
 cases hf:(kW p).find? λe=>decide (e.1=nm) with
 | none=>rw [hf] at h;rcases h with h|h<;>cases h
 | some e=>
  rw [hf] at h;simp only at h;rcases RY hf with ⟨i,g,_,_,hc⟩|⟨i,g,_,_,hc⟩<;>(rw [hc] at h;rcases h with h|h<;>cases h)
def qqF{c k:Int}(h:(kR p f nm).1=(c,k))(hc:c=3\/c=4):∃ e,(kW p).find? (λe=>decide (e.1=nm))=some e/\e.2=(c,k):=by
 unfold kR at h;split at h
 . injection h with h1 _;omega
 split at h
 . injection h with h1 _;omega
 cases hf:(kW p).find? λe=>decide (e.1=nm) with
 | none=>rw [hf] at h;injection h with h1 _;omega
 | some e=>rw [hf] at h;exact ⟨e,rfl,h⟩
def qAB(lQ:((kW p).map (·.1)).Nodup)(h:(kR p f nm).1=((3:Int),(k:Int))):nS p nm=(k:Int)/\k < p.o.length:=by
  obtain ⟨e,he,h2⟩:=qqF h (.inl rfl);rcases RY he with ⟨i,g,a,b,c⟩|⟨i,g,a,b,c⟩
  . rw [h2] at c
    injection c with _ c;obtain rfl:k=i:=by omega
    obtain ⟨hl,rfl⟩:=al.1 a;refine ⟨?_,hl⟩;have:=Jy (p:=λg:jM=>decide (g.name=nm)) (l:=p.o) (k:=k) (j:=0) (a:=p.o[k]) (λj y hj hy=>by
      cases hq:decide (y.name=nm) with
      | false=>rfl
      | true=>
        exfalso;have hq:y.name=nm:=by simpa using hq
        have q1:=Dk lQ (Tp hy);have q2:=Dk lQ (Tp a);simp only [hq,b] at q1 q2;rw [q1] at q2;simp at q2;omega) a (by simpa using b)
    rw [nS,this];simp
  . rw [h2] at c;cases c
def qz1(lQ:((kW p).map (·.1)).Nodup)(h:(kR p f nm).1=((4:Int),(k:Int))):uJ p nm=(k:Int)/\k < p.funcs.length:=by
  obtain ⟨e,he,h2⟩:=qqF h (.inr rfl);rcases RY he with ⟨i,g,a,b,c⟩|⟨i,g,a,b,c⟩
  . rw [h2] at c;cases c
  . rw [h2] at c
    injection c with _ c;obtain rfl:k=i:=by omega
    obtain ⟨hl,rfl⟩:=al.1 a;refine ⟨?_,hl⟩;have:=Jy (p:=λg:iT=>decide (g.name=nm)) (l:=p.funcs) (k:=k) (j:=0) (a:=p.funcs[k]) (λj y hj hy=>by
      cases hq:decide (y.name=nm) with
      | false=>rfl
      | true=>
        exfalso;have hq:y.name=nm:=by simpa using hq
        have q1:=Dk lQ (Gf hy);have q2:=Dk lQ (Gf a);simp only [hq,b] at q1 q2;rw [q1] at q2;simp at q2;omega) a (by simpa using b)
    rw [uJ,this];simp
section
variable{OP:Int->Int->Int->Option Int}
def Sp{x:Ex}{lp:Nat}{nd:Nd}:∀ {l:List Ex},x∈l->nd∈pk x lp->nd∈pM l lp
 | [],h,_=>by cases h
 | y::r,h,hn=>by
  rw [pM];rcases aW.1 h with rfl|h
  . exact aN _ hn
  . exact aJ _ (Sp h hn)
def Nx{x:jb}{lp:Nat}{nd:Nd}:∀ {l:List jb},x∈l->nd∈xZ x lp->nd∈lI l lp
 | [],h,_=>by cases h
 | y::r,h,hn=>by
  rw [lI];rcases aW.1 h with rfl|h
  . exact aN _ hn
  . exact aJ _ (Nx h hn)
end
attribute [local irreducible] JC JO JA JB lZ mF mM AC fill iH QE Ev mq
def Hh{p:Prop} (h:p:=by
 refine ⟨?_,Z⟩;first
  | (simp only [kB];rw [Jy hI hx hz,aZ])
  | (simp only [kB];rw [RB (λi a hi h=>hI i a O h)])):p:=h
def Vx{p:Prop} (h:p:=by
 refine k8 ?_;exact rR [] L (.t1 Z) Z I1.1 λ_ iL=>Hh):p:=h
def HM{p:Prop} (h:p:=by
  rintro _ _ s3 h3 ⟨rfl,rfl⟩;refine G2 ?_;refine qT Z ?_ ?_<;>intro c4;.have hz:=c4;refine mn ?_;exact rX [] L Z (I1.1.t h3) λ_ iL=>Hh
  have hz:=c4;refine G4 ?_;refine ki Y3 (jB O O)<|G2 ?_;refine jd ⟨(k+1),[],kp,Z,⟨(I1.1.t h3),⟨by omega,Cv hI hx hz⟩⟩,O⟩):p:=h
def qt7(A:OAdr9)(n c:Nat)(l:List jM)(hA:jn s A n c l){fi:FuncId}{cap:LVal9}(q:jM->Bool)(hp:∀ s' g (A9:OAdr9) (n9 c9:Nat),Le D s s'->AV9 D fi ([.agg #[iJ g.kind,St g.name,iO g.num,.slice A9 n9 c9]]++cap) L s' (.bool (q g))):AV9 D 147 [.slice A n c,.func (.func fi) #[] cap.toArray] L s (iJ (kM q l 0)):=by
 have hn:=hA.1;have mX:=hA.2.1;have oR:=hA.2.2.1;refine jv (fn:=f147) jl func147 V Z ntmps147 Z (rs:=[.tmp 4]) Z [(0,_),(1,_)] Z<|qP ?_;refine lw (γ:=Nat) (λk=>[(0,_),(1,_),(4,_),(7,_),(8,iJ (k:Int))]) (λ_=>_) (λk tw=>Le D s tw/\(k<=n/\∀ i x,i < k->l[i]?=some x->q x=false)) (λk=>n - k) (λ_ _ _ h hl=>⟨h.1.trans hl,h.2⟩) 0 (.c5 Z Z Z Z Z (.nil _)) Z ⟨Le.refl _,⟨aB _,λi x hi=>by omega⟩⟩ ?_;intro k s1 I1;have kh:=I1.2.1;have hI:=I1.2.2;refine J6 ?_ ?_<;>intro c2
 .have hk:k < n:=by omega
  obtain ⟨b,off,x,A',n',c',rfl,hx,hcx,_⟩:=jn.at_ (hA.le I1.1) hk;refine wN ?_;refine iI (jR Y6 hk) Z<|iI (kq Y3 hcx Z) Z<|vv (first:=[]) (captured:=cap) Y3 (hp _ x A' n' c' I1.1) ?_;exact HM
 exact Vx
def qtT(d:Nat)(A:OAdr9)(n c:Nat)(l:List iT)(hA:ju d s A n c l){fi:FuncId}{cap:LVal9}(q:iT->Bool)(hp:∀ s' g (A7:OAdr9) (n7 c7:Nat) (A8:OAdr9) (n8 c8:Nat) (A9:OAdr9) (n9 c9:Nat),Le D s s'->AV9 D fi ([.agg #[St g.name,.slice A7 n7 c7,.slice A8 n8 c8,.slice A9 n9 c9]]++cap) L s' (.bool (q g))):AV9 D 191 [.slice A n c,.func (.func fi) #[] cap.toArray] L s (iJ (kM q l 0)):=by
 have hn:=hA.1;have mX:=hA.2.1;have oR:=hA.2.2.1;refine jv (fn:=f191) jl func191 V Z ntmps191 Z (rs:=[.tmp 4]) Z [(0,_),(1,_)] Z<|qP ?_;refine lw (γ:=Nat) (λk=>[(0,_),(1,_),(4,_),(7,_),(8,iJ (k:Int))]) (λ_=>_) (λk tw=>Le D s tw/\(k<=n/\∀ i x,i < k->l[i]?=some x->q x=false)) (λk=>n - k) (λ_ _ _ h hl=>⟨h.1.trans hl,h.2⟩) 0 (.c5 Z Z Z Z Z (.nil _)) Z ⟨Le.refl _,⟨aB _,λi x hi=>by omega⟩⟩ ?_;intro k s1 I1;have kh:=I1.2.1;have hI:=I1.2.2;refine J6 ?_ ?_<;>intro c2
 .have hk:k < n:=by omega
  obtain ⟨b,off,x,B1,m1,e1,B2,m2,e2,B3,m3,e3,rfl,hx,hcx,_⟩:=ju.at_ (hA.le I1.1) hk;refine wN ?_;refine iI (jR Y6 hk) Z<|iI (kq Y3 hcx Z) Z<|vv (first:=[]) (captured:=cap) Y3 (hp _ x B1 m1 e1 B2 m2 e2 B3 m3 e3 I1.1) ?_;exact HM
 exact Vx
def qAA(g:jM)(A9:OAdr9)(n9 c9:Nat)(nm:iR)(hc:iH s b 0 [St nm]):AV9 D 148 [.agg #[iJ g.kind,St g.name,iO g.num,.slice A9 n9 c9],jc b] L s (.bool (decide (g.name=nm))):=by
 refine jv (fn:=f148) jl func148 V Z ntmps148 Z (rs:=[.tmp 3]) Z [(0,_),(1,_)] Z<|Sr<|kH Y2 λβ1 s1 h1=>G7 ?_;refine iI (jW Y3 Pz Z) Z<|uX Y3<|G4 ?_;exact rX [_] L Z h1 λ_ iL=>ry
def qz0(g:iT)(A7:OAdr9)(n7 c7:Nat)(A8:OAdr9)(n8 c8:Nat)(A9:OAdr9)(n9 c9:Nat)(nm:iR)(hc:iH s b 0 [St nm]):AV9 D 192 [.agg #[St g.name,.slice A7 n7 c7,.slice A8 n8 c8,.slice A9 n9 c9],jc b] L s (.bool (decide (g.name=nm))):=by
 refine jv (fn:=f192) jl func192 V Z ntmps192 Z (rs:=[.tmp 3]) Z [(0,_),(1,_)] Z<|Sr<|kH Y2 λβ1 s1 h1=>G7 ?_;refine iI (jW Y3 Pz Z) Z<|uX Y3<|G4 ?_;exact rX [_] L Z h1 λ_ iL=>ry
def WQ{p:Prop} (h:p:=by
 rintro _ _ s4 h4 ⟨rfl,rfl⟩;refine G4 ?_;exact rX [_] L Z Lc λ_ iL=>ry):p:=h
def MP(d0:Nat)(p:ja)(Ag Af:OAdr9)(ng cg nf cf:Nat)(jQ:jn s Ag ng cg p.o)(j8:ju d0 s Af nf cf p.funcs)(f:iT)(P1 P2 P3:OAdr9)(p1 r1 p2 r2 p3 r3:Nat)(qo:iW s P1 p1 r1 f.params)(qp:iW s P2 p2 r2 f.locals)(nm:iR):AV9 D 102 [.agg #[.slice Ag ng cg,.slice Af nf cf,St f.name,.slice P1 p1 r1,.slice P2 p2 r2,.slice P3 p3 r3],St nm] L s (iJ (nS p nm)):=by
 refine jv (fn:=f102) jl func102 V Z ntmps102 Z (rs:=[.tmp 4]) Z [(0,_),(1,_)] Z<|Sr<|kH Y2 λβ1 s1 h1=>Bs Z Z Z λβ2 s2 h2=>At Z Z<|Zs<|tO [] [_] ?_;intro s3 h3 nP;simp only [iU,iV];have rU:=nP _ _ _ (aV.2 rfl);refine G4 ?_;refine iI (qw Z) Z<|Jc Y3 (qt7 _ _ Ag ng cg p.o Pz (λg=>decide (g.name=nm)) (λs9 g A9 n9 c9 q9=>qAA _ s9 g A9 n9 c9 nm ((rU.le (Lr D)).le q9))) ?_;exact WQ
def qqc(d0:Nat)(p:ja)(Ag Af:OAdr9)(ng cg nf cf:Nat)(jQ:jn s Ag ng cg p.o)(j8:ju d0 s Af nf cf p.funcs)(f:iT)(P1 P2 P3:OAdr9)(p1 r1 p2 r2 p3 r3:Nat)(qo:iW s P1 p1 r1 f.params)(qp:iW s P2 p2 r2 f.locals)(nm:iR):AV9 D 149 [.agg #[.slice Ag ng cg,.slice Af nf cf,St f.name,.slice P1 p1 r1,.slice P2 p2 r2,.slice P3 p3 r3],St nm] L s (iJ (uJ p nm)):=by
 refine jv (fn:=f149) jl func149 V Z ntmps149 Z (rs:=[.tmp 4]) Z [(0,_),(1,_)] Z<|Sr<|kH Y2 λβ1 s1 h1=>Bs Z Z Z λβ2 s2 h2=>At Z Z<|Zs<|tO [] [_] ?_;intro s3 h3 nP;simp only [iU,iV];have rU:=nP _ _ _ (aV.2 rfl);refine G4 ?_;refine iI (qw Z) Z<|Jc Y3 (qtT _ _ d0 Af nf cf p.funcs Pz (λg=>decide (g.name=nm)) (λs9 g A7 n7 c7 A8 n8 c8 A9 n9 c9 q9=>qz0 _ s9 g A7 n7 c7 A8 n8 c8 A9 n9 c9 nm ((rU.le (Lr D)).le q9))) ?_;exact WQ
def QK{p:Prop} (h:p:=by
 exact ⟨by rw [hE];first|rfl|(simp only [kB];rw [lX]),rfl⟩):p:=h
def p_(d0:Nat)(p:ja)(Ag Af:OAdr9)(ng cg nf cf:Nat)(jQ:jn s Ag ng cg p.o)(j8:ju d0 s Af nf cf p.funcs)(f:iT)(P1 P2 P3:OAdr9)(p1 r1 p2 r2 p3 r3:Nat)(qo:iW s P1 p1 r1 f.params)(qp:iW s P2 p2 r2 f.locals)(jA:f.params.length+f.locals.length<=100)(nm:iR):AV9 D 144 [.agg #[.slice Ag ng cg,.slice Af nf cf,St f.name,.slice P1 p1 r1,.slice P2 p2 r2,.slice P3 p3 r3],St nm] L s (iJ (ld f nm)):=by
 have lX:=qo.1;have oB:=qp.1;have pd:=qo.2.1;have tf:=qo.2.2.1;have yO:=qp.2.1;have hb4:=qp.2.2.1;have hi1:=FQ (p:=λx=>decide (@Eq iR nm x)) (l:=f.params) (k:=0);have zJ:=FQ (p:=λx=>decide (@Eq iR nm x)) (l:=f.locals) (k:=0);refine jv (fn:=f144) jl func144 V Z ntmps144 Z (rs:=[.tmp 4]) Z [(0,_),(1,_)] Z<|Sr<|kH Y2 λβ1 s1 h1=>G7 ?_;refine iI (pu Y4) Z<|G2 ?_;refine Je Y3 (Kc D _ _ P1 p1 r1 f.params Pz nm) λs2 h2=>G6 ?_;refine uH Y3<|J2 ?_ ?_<;>intro c3;.have hE:ld f nm=_:=aw c3;refine G8 ?_;exact rX [_] L Z Lc λ_ iL=>QK
 have g13:=c3;refine G6 ?_;refine iI (pu Y4) Z<|G2 ?_;refine Je Y3 (Kc D _ _ P2 p2 r2 f.locals Pz nm) λs4 h4=>G6 ?_;refine uH Y3<|J2 ?_ ?_<;>intro c5;.have hE:ld f nm=_:=(am g13).trans (aw c5);refine Sr<|Wb Y5<|iI (pu Y4) Z<|G3 ?_;refine ki Y3 (jB O O)<|G5 ?_;exact rX [_] L Z Lc λ_ iL=>QK
 have hE:ld f nm=_:=(am g13).trans (am c5);refine G8 ?_;exact rX [_] L Z Lc λ_ iL=>QK
def qr8(f:iT):ld f nm < ((f.params.length+f.locals.length:Nat):Int):=by
 have hi1:=FQ (p:=λy=>decide (nm=y)) (l:=f.params) (k:=0);have zJ:=FQ (p:=λy=>decide (nm=y)) (l:=f.locals) (k:=0);unfold ld;repeat' split
 all_goals omega
def yC(p:ja)(f:iT)(x:Ex):Prop:=nN x=true/\∃ lp,∀ nd∈pk x lp,j7 p f nd=0
def oD(p:ja)(f:iT)(x:jb):Prop:=(∃ lv,sx x lv=true)/\∃ lp,∀ nd∈xZ x lp,j7 p f nd=0
structure vU(p:ja):Prop where
 nd:((kW p).map (·.1)).Nodup
 gk:∀ g∈p.o,1<=g.kind/\g.kind<=3
section
variable{f:iT}
def yC.args{x:Ex}(h:yC p f x):∀ y∈x.args,yC p f y:=λy hy=>by
 obtain ⟨hv,lp,hn⟩:=h;obtain ⟨k,o,u,nm,ar⟩:=x;obtain ⟨j,hj⟩:=bC hy;exact ⟨(vC (ze hv).2 hj).1,lp,λnd hd=>hn nd (by rw [pk];exact aq _ (Sp hy hd))⟩
def yC.use{x:Ex}(h:yC p f x):pF p f (o6 x)=0:=by
 obtain ⟨_,lp,hn⟩:=h;obtain ⟨k,o,u,nm,ar⟩:=x;exact hn (.ex (.mk k o u nm ar) lp) (by rw [pk];exact cV ..)
def oD.exprs(h:oD p f x):∀ y∈x.exprs,yC p f y:=λy hy=>by
 obtain ⟨⟨lv,hv⟩,lp,hn⟩:=h;obtain ⟨k,nm,es,b,e⟩:=x;obtain ⟨j,hj⟩:=bC hy;exact ⟨(vC (wH hv).2.2.1 hj).1,lp,λnd hd=>hn nd (by rw [xZ];exact aq _ (aN _ (Sp hy hd)))⟩
def oD.body(h:oD p f x):∀ y∈x.body,oD p f y:=λy hy=>by
 obtain ⟨⟨lv,hv⟩,lp,hn⟩:=h;obtain ⟨k,nm,es,b,e⟩:=x;obtain ⟨j,hj⟩:=bC hy;exact ⟨⟨_,(Dv (wH hv).2.2.2.1 hj).1⟩,_,λnd hd=>hn nd (by rw [xZ];exact aq _ (aJ _ (aN _ (Nx hy hd))))⟩
def oD.els(h:oD p f x):∀ y∈x.els,oD p f y:=λy hy=>by
 obtain ⟨⟨lv,hv⟩,lp,hn⟩:=h;obtain ⟨k,nm,es,b,e⟩:=x;obtain ⟨j,hj⟩:=bC hy;exact ⟨⟨_,(Dv (wH hv).2.2.2.2 hj).1⟩,_,λnd hd=>hn nd (by rw [xZ];exact aq _ (aJ _ (aJ _ (Nx hy hd))))⟩
def oD.use(h:oD p f x):pF p f (oY x)=0:=by
 obtain ⟨_,lp,hn⟩:=h;obtain ⟨k,nm,es,b,e⟩:=x;exact (quw (hn (.st (.mk k nm es b e) lp) (by rw [xZ];exact cV ..))).1
def NY(hP:vU p){u:En}(h:pF p f u=0)(hu:u.2.1≠0):(0<=ld f u.1/\(u.2.1=1\/u.2.1=2))\/(¬ 0<=ld f u.1/\∃ (k:Nat) (g:jM),nS p u.1=(k:Int)/\p.o[k]?=some g/\((g.kind=1/\u.2.1=2)\/(g.kind=2/\(u.2.1=1\/u.2.1=2))\/(g.kind=3/\u.2.1=3)))\/∃ (k:Nat) (fk:iT),uJ p u.1=(k:Int)/\p.funcs[k]?=some fk/\u.2.1=4/\u.2.2=(fk.params.length:Int):=by
  obtain ⟨a1,a2,a3⟩:=qsz h hu;rcases FP a1 with k1|⟨k1,k,k2,k3⟩|⟨k1,k,k2,k3⟩
  . exact .inl ⟨qu9 k1,by unfold zo at a2;omega⟩
  . have e:=x_ k1 k2
    obtain ⟨g,hg⟩:∃ g,p.o[k]?=some g:=⟨_,ax k3⟩;have hk:=hP.gk g (ay hg);rw [e] at a2;have e1:=Dl hg;refine .inr (.inl ⟨qu8 e (.inl Z),k,g,(qAB hP.nd e).1,hg,?_⟩);unfold zo at a2;simp only at a2;omega
  . have e:=x_ k1 k2
    obtain ⟨g,hg⟩:∃ g,p.funcs[k]?=some g:=⟨_,ax k3⟩;rw [e] at a2 a3;have e1:=NL (p:=p) (i:=(k:Int)) rfl hg;refine .inr (.inr ⟨k,g,(qz1 hP.nd e).1,hg,?_⟩);unfold zo at a2;rw [e1] at a3;omega
def mn2(hP:vU p){x:Ex}(h:yC p f x)(hk:x.kind=2):0<=ld f x.name\/(¬ 0<=ld f x.name/\∃ (k:Nat) (g:jM),nS p x.name=(k:Int)/\p.o[k]?=some g):=by
 have hu:o6 x=(x.name,2,0):=by rw [o6,aw hk]
 have:=h.use;rw [hu] at this;rcases NY hP this (show (2:Int)≠0 by decide) with ⟨a,_⟩|⟨a,k,g,b,c,_⟩|⟨_,_,_,_,c,_⟩
 . exact .inl a
 . exact .inr ⟨a,k,g,b,c⟩
 . cases c
def Ij{p:Prop} (h:p:=by
 have:=h.use;rw [hu] at this;rcases NY hP this (show (3:Int)≠0 by decide) with ⟨_,a⟩|⟨a,k,g,b,c,d⟩|⟨_,_,_,_,c,_⟩
 . rcases a with a|a<;>cases a
 . exact ⟨k,g,b,c,by simp only at d;omega⟩
 . cases c):p:=h
def mn3(hP:vU p){x:Ex}(h:yC p f x)(hk:x.kind=3):∃ (k:Nat) (g:jM),nS p x.name=(k:Int)/\p.o[k]?=some g/\g.kind=3:=by
 have hu:o6 x=(x.name,3,0):=by rw [o6,am O,aw hk]
 exact Ij
def Ih{p:Prop} (h:p:=by
 have:=h.use;rw [hu] at this;rcases NY hP this (show (4:Int)≠0 by decide) with ⟨_,a⟩|⟨a,k,g,b,c,d⟩|⟨k,fk,b,c,_,d⟩
 . rcases a with a|a<;>cases a
 . simp only at d;omega
 . exact ⟨k,fk,b,c,by simp only at d;omega⟩):p:=h
def mn4(hP:vU p){x:Ex}(h:yC p f x)(hk:x.kind=4):∃ (k:Nat) (fk:iT),uJ p x.name=(k:Int)/\p.funcs[k]?=some fk/\x.args.length=fk.params.length:=by
 have hu:o6 x=(x.name,4,(x.args.length:Int)):=by rw [o6,am O,am O,aw hk]
 exact Ih
def ms1(hP:vU p)(h:oD p f x)(hk:x.kind=1):0<=ld f x.name\/(¬ 0<=ld f x.name/\∃ (k:Nat) (g:jM),nS p x.name=(k:Int)/\p.o[k]?=some g/\g.kind=2):=by
 have hu:oY x=(x.name,1,0):=by rw [oY,aw hk]
 have:=h.use;rw [hu] at this;rcases NY hP this (show (1:Int)≠0 by decide) with ⟨a,_⟩|⟨a,k,g,b,c,d⟩|⟨_,_,_,_,c,_⟩
 . exact .inl a
 . exact .inr ⟨a,k,g,b,c,by simp only at d;omega⟩
 . cases c
def ms2(hP:vU p)(h:oD p f x)(hk:x.kind=2):∃ (k:Nat) (g:jM),nS p x.name=(k:Int)/\p.o[k]?=some g/\g.kind=3:=by
 have hu:oY x=(x.name,3,0):=by rw [oY,am O,aw hk]
 exact Ij
def ms5(hP:vU p)(h:oD p f x)(hk:x.kind=5):∃ (k:Nat) (fk:iT),uJ p x.name=(k:Int)/\p.funcs[k]?=some fk/\x.exprs.length=fk.params.length:=by
 have hu:oY x=(x.name,4,(x.exprs.length:Int)):=by rw [oY,am O,am O,aw hk]
 exact Ih
end
def qut(d0:Nat)(p:ja)(Ag Af:OAdr9)(ng cg nf cf:Nat)(jQ:jn s Ag ng cg p.o)(j8:ju d0 s Af nf cf p.funcs)(f:iT)(P1 P2 P3:OAdr9)(p1 r1 p2 r2 p3 r3:Nat)(qo:iW s P1 p1 r1 f.params)(qp:iW s P2 p2 r2 f.locals)(jA:f.params.length+f.locals.length<=100)(Vq:World->Ex->LVal9->Prop)(x:Ex)(hk:x.kind=2)(hmn:0<=ld f x.name\/(¬ 0<=ld f x.name/\∃ (k:Nat) (g:jM),nS p x.name=(k:Int)/\p.o[k]?=some g)):AN9 D 186 [.agg #[.slice Ag ng cg,.slice Af nf cf,St f.name,.slice P1 p1 r1,.slice P2 p2 r2,.slice P3 p3 r3],St x.name] L s λv M' s'=>∀ s2,Le D s' s2->mz M' s2->sW p f Vq s2 x v:=by
 refine jv (fn:=f186) jl func186 V Z ntmps186 Z (rs:=[.tmp 4]) Z [(0,_),(1,_)] Z<|Sr<|kH Y2 λβ1 s1 h1=>G6 ?_;refine iI (jh 0 [_,_,_,_,_,_] Y5) Z<|jY Y2<|Je Y3 (p_ _ _ d0 p Ag Af ng cg nf cf Pz Pz f P1 P2 P3 p1 r1 p2 r2 p3 r3 Pz Pz jA x.name) λs2 h2=>jp Z [_] Y2 λβ3 s3 h3=>Wt 0 [_] Y9<|G5 ?_;refine uH Y3<|J2 ?_ ?_<;>intro c4;.have h0:=c4;refine Sr<|iI (qw Z) Z<|G5 ?_;exact rR [] _ (.t1 Z) Z Lc λ_ iL=>⟨[_,_],rfl,λs2 kb hp=>.slot _ hk h0 (qr8 f) (hp _ _ _ Mc)⟩
 have hs:=c4;obtain ⟨gk,g,re,hgp⟩:=(hmn.resolve_left hs).2;have th:gk < ng:=by rw [jQ.1];exact (al.1 hgp).1
 refine Zk<|Zt<|Sr<|iI (jh 1 [_,_,_,_,_,_] Y5) Z<|jY Y2<|Je Y3 (MP _ _ d0 p Ag Af ng cg nf cf Pz Pz f P1 P2 P3 p1 r1 p2 r2 p3 r3 Pz Pz x.name) λs5 h5=>?_;obtain ⟨bz,oz,z,Ai,ni,ci,hAe,hz,hcz,_,tk,_⟩:=jn.at_ Pz th;subst hAe;refine jp Z [_] Y2 λβ6 s6 h6=>Wt 0 [_] Y9<|G9 ?_;refine iI (jR (j:=gk) ⟨Z,(show lk _ _=some (iJ (gk:Int)) from by rw [<- re];rfl),Z,Z,Z,Z⟩ th) Z<|iI (kq Y3 Pz Z) Z<|jp Z [_,_,_,_] Y2 λβ7 s7 h7=>Wt 0 [_,_,_,_] Y9<|J9 ?_ ?_<;>intro c8;.have o9:=c8;refine Sr<|iI (qw Z) Z<|G5 ?_;exact rR [] _ (.t1 Z) Z Lc λ_ iL=>⟨[_,_,_,_],rfl,λs2 kb hp=>.con _ gk z Ai ni ci hk hs re hz o9 (hp _ _ _ Mc) tk⟩
 have o9:=c8;refine Zk<|Zt<|Sr<|iI (qw Z) Z<|G4 ?_;exact rR [] _ (.t1 Z) Z Lc λ_ iL=>⟨[_,_,_,_],rfl,λs2 kb hp=>.var _ gk z hk hs re hz o9 (by rw [<- re];exact (hp _ _ _ (aq _ Mc)))⟩
def qok(d0:Nat)(p:ja)(Ag Af:OAdr9)(ng cg nf cf:Nat)(jQ:jn s Ag ng cg p.o)(j8:ju d0 s Af nf cf p.funcs)(f:iT)(P1 P2 P3:OAdr9)(p1 r1 p2 r2 p3 r3:Nat)(qo:iW s P1 p1 r1 f.params)(qp:iW s P2 p2 r2 f.locals)(jA:f.params.length+f.locals.length<=100)(Vq:World->jb->LVal9->Prop)(d b4:Nat)(x:jb)(hk:x.kind=1)(hmn:0<=ld f x.name\/(¬ 0<=ld f x.name/\∃ (k:Nat) (g:jM),nS p x.name=(k:Int)/\p.o[k]?=some g/\g.kind=2))(hv:lU p f d s (lP x.exprs 0) [.func (.func 143) #[] #[jc b4]]):AN9 D 101 [.agg #[.slice Ag ng cg,.slice Af nf cf,St f.name,.slice P1 p1 r1,.slice P2 p2 r2,.slice P3 p3 r3],St x.name,.func (.func 143) #[] #[jc b4]] L s λv M' s'=>∀ s2,Le D s' s2->mz M' s2->sC p f (lU p f d) Vq s2 x v:=by
 refine jv (fn:=f101) jl func101 V Z ntmps101 Z (rs:=[.tmp 6]) Z [(0,_),(1,_),(2,_)] Z<|Sr<|kH Y2 λβ1 s1 h1=>Bs Z Z Z λβ2 s2 h2=>G6 ?_;refine iI (jh 1 [_,_,_,_,_,_] Y5) Z<|jY Y2<|Je Y3 (p_ _ _ d0 p Ag Af ng cg nf cf Pz Pz f P1 P2 P3 p1 r1 p2 r2 p3 r3 Pz Pz jA x.name) λs3 h3=>jp Z [_] Y2 λβ4 s4 h4=>Wt 0 [_] Y9<|G5 ?_;refine uH Y3<|J2 ?_ ?_<;>intro c5;.have h0:=c5;refine Sr<|iI (qw Z) Z<|G5 ?_;exact rR [] _ (.t1 Z) Z Lc λ_ iL=>⟨[_,_,_],rfl,λs2 kb hp=>.setl _ _ _ hk h0 (qr8 f) (hp _ _ _ (aq _ Mc)) (hp _ _ _ Mc) (lU.le Lc hv)⟩
 have hs:=c5;obtain ⟨gk,g,re,hgp,wx⟩:=(hmn.resolve_left hs).2;refine Zk<|Zt<|Sr<|iI (jh 2 [_,_,_,_,_,_] Y5) Z<|jY Y2<|Je Y3 (MP _ _ d0 p Ag Af ng cg nf cf Pz Pz f P1 P2 P3 p1 r1 p2 r2 p3 r3 Pz Pz x.name) λs6 h6=>jp Z [_] Y2 λβ7 s7 h7=>Wt 0 [_] Y9<|Nt<|Sr<|iI (qw Z) Z<|G4 ?_;exact rR [] _ (.t1 Z) Z Lc λ_ iL=>⟨[_,_,_,_],rfl,λs2 kb hp=>.setg _ _ gk g _ hk hs re hgp wx (hp _ _ _ (aq _ (aq _ Mc))) (by rw [<- re];exact (hp _ _ _ Mc)) (lU.le Lc hv)⟩
def ZT(d0:Nat)(p:ja)(Ag Af:OAdr9)(ng cg nf cf:Nat)(jQ:jn s Ag ng cg p.o)(j8:ju d0 s Af nf cf p.funcs)(f:iT)(P1 P2 P3:OAdr9)(p1 r1 p2 r2 p3 r3:Nat)(qo:iW s P1 p1 r1 f.params)(qp:iW s P2 p2 r2 f.locals)(d:Nat)(nm:iR)(xs:List Ex)(A:OAdr9)(n c:Nat)(k:Nat)(fk:iT)(hA:pI p f d s A n c xs)(hg:uJ p nm=(k:Int))(hpk:p.funcs[k]?=some fk)(hl:xs.length=fk.params.length):AN9 D 108 [.agg #[.slice Ag ng cg,.slice Af nf cf,St f.name,.slice P1 p1 r1,.slice P2 p2 r2,.slice P3 p3 r3],St nm,.slice A n c] L s λv M' s'=>∀ s2,Le D s' s2->mz M' s2->rL p (lU p f d) s2 nm xs v:=by
 refine jv (fn:=f108) jl func108 V Z ntmps108 Z (rs:=[.tmp 6]) Z [(0,_),(1,_),(2,_)] Z<|Sr<|kH Y2 λβ1 s1 h1=>Bs Z Z Z λβ2 s2 h2=>At Z Z<|Sr<|iI (jh 1 [_,_,_,_,_,_] Y5) Z<|jY Y2<|Je Y3 (qqc _ _ d0 p Ag Af ng cg nf cf Pz Pz f P1 P2 P3 p1 r1 p2 r2 p3 r3 Pz Pz nm) λs3 h3=>jp Z [_] Y2 λβ4 s4 h4=>Wt 0 [_] Y9<|Nt<|Sr<|iI (qw Z) Z<|G4 ?_;exact rR [] _ (.t1 Z) Z Lc λ_ iL=>⟨[_,_,_],rfl,λs2 kb hp=>⟨_,_,A,n,c,k,fk,rfl,(hp _ _ _ (aq _ Mc)),by rw [<- hg];exact (hp _ _ _ Mc),hA.le Lc,hg,hpk,hl⟩⟩
def qom(p:ja)(f:iT)(d b4 b5:Nat)(x:Ex)(hk:x.kind=7)(ho:4<=x.op/\x.op<=21)(xj:lU p f d s (lP x.args 0) [.func (.func 143) #[] #[jc b4]])(uR:lU p f d s (lP x.args 1) [.func (.func 143) #[] #[jc b5]]):AN9 D 190 [iJ x.op,.func (.func 143) #[] #[jc b4],.func (.func 143) #[] #[jc b5]] L s λv M' s'=>∀ s2,Le D s' s2->mz M' s2->sW p f (lU p f d) s2 x v:=by
 refine jv (fn:=f190) jl func190 V Z ntmps190 Z (rs:=[.tmp 6]) Z [(0,_),(1,_),(2,_)] Z<|Sr<|Bs Z Z Z λβ1 s1 h1=>Bs Z Z Z λβ2 s2 h2=>Bs Z Z Z λβ3 s3 h3=>At Z Z<|Sr<|iI (qw Z) Z<|G4 ?_;exact rR [] _ (.t1 Z) Z Lc λ_ iL=>⟨[_,_,_],rfl,λs2 kb hp=>.bin _ _ _ _ _ hk (hp _ _ _ (aq _ Mc)) (hp _ _ _ (aq _ (aq _ Mc))) (hp _ _ _ Mc) (lU.le Lc xj) (lU.le Lc uR) ho⟩
def sW.func{Vq9:World->Ex->LVal9->Prop}{s:World}{x:Ex}(h:sW p f Vq9 s x v):∃ kk cap,v=.func (.func kk) #[] (List.toArray cap):=by
 cases h with
 | call w hk h=>obtain ⟨be,bi,A,n,c,k,fk,rfl,_⟩:=h;exact ⟨_,[_,_],rfl⟩
 | num=>exact ⟨_,[_],rfl⟩
 | slot=>exact ⟨_,[_],rfl⟩
 | con=>exact ⟨_,[_],rfl⟩
 | var=>exact ⟨_,[_],rfl⟩
 | idx=>exact ⟨_,[_,_],rfl⟩
 | get=>exact ⟨_,[],rfl⟩
 | una=>exact ⟨_,[_,_],rfl⟩
 | bin=>exact ⟨_,[_,_,_],rfl⟩
def sC.func{E:World->Ex->LVal9->Prop}{Vq9:World->jb->LVal9->Prop}{s:World}(h:sC p f E Vq9 s x v):∃ kk cap,v=.func (.func kk) #[] (List.toArray cap):=by
 cases h with
 | setl=>exact ⟨_,[_,_],rfl⟩
 | setg=>exact ⟨_,[_,_],rfl⟩
 | store=>exact ⟨_,[_,_],rfl⟩
 | cond=>exact ⟨_,[_,_,_],rfl⟩
 | loop=>exact ⟨_,[_,_],rfl⟩
 | call=>exact ⟨_,[_],rfl⟩
 | ret=>exact ⟨_,[_],rfl⟩
 | put=>exact ⟨_,[_],rfl⟩
 | stop=>exact ⟨_,[_],rfl⟩
 | brk=>exact ⟨_,[],rfl⟩
 | cont=>exact ⟨_,[],rfl⟩
theorem quq(k:Int):uV k<=6:=by grind [uV]
theorem qur(k:Int):zl k<=6:=by grind [zl]
def XPR(D d:Nat):Prop:=∀ (L:Hl) (s:World) (d0:Nat) (p:ja) (Ag Af:OAdr9) (ng cg nf cf:Nat) (jQ:jn s Ag ng cg p.o) (j8:ju d0 s Af nf cf p.funcs) (f:iT) (P1 P2 P3:OAdr9) (p1 r1 p2 r2 p3 r3:Nat) (qo:iW s P1 p1 r1 f.params) (qp:iW s P2 p2 r2 f.locals) (jA:f.params.length+f.locals.length<=100) (mQ:vU p) (x:Ex) (A:OAdr9) (n c:Nat),j9 d s A n c x.args->iY x.num->yC p f x->Ap9 D 142 [.agg #[.slice Ag ng cg,.slice Af nf cf,St f.name,.slice P1 p1 r1,.slice P2 p2 r2,.slice P3 p3 r3],.agg #[iJ x.kind,iJ x.op,iO x.num,St x.name,.slice A n c]] L s λv L' s'=>L=L'/\sW p f (lU p f d) s' x v
def U8(D d:Nat):Prop:=∀ (L:Hl) (s:World) (d0:Nat) (p:ja) (Ag Af:OAdr9) (ng cg nf cf:Nat) (jQ:jn s Ag ng cg p.o) (j8:ju d0 s Af nf cf p.funcs) (f:iT) (P1 P2 P3:OAdr9) (p1 r1 p2 r2 p3 r3:Nat) (qo:iW s P1 p1 r1 f.params) (qp:iW s P2 p2 r2 f.locals) (jA:f.params.length+f.locals.length<=100) (mQ:vU p) (A:OAdr9) (n c:Nat) (xs:List Ex),j9 d s A n c xs->(∀ x∈xs,yC p f x)->n<=100000->Ap9 D 100 [.agg #[.slice Ag ng cg,.slice Af nf cf,St f.name,.slice P1 p1 r1,.slice P2 p2 r2,.slice P3 p3 r3],.slice A n c] L s λv L' s'=>L=L'/\∃ A' n' c',v=.slice A' n' c'/\pI p f d s' A' n' c' xs
def YO(d:Nat)(ih:∀ e,d=e+1->XPR D e)(L:Hl)(s:World)(d0:Nat)(p:ja)(Ag Af:OAdr9)(ng cg nf cf:Nat)(jQ:jn s Ag ng cg p.o)(j8:ju d0 s Af nf cf p.funcs)(f:iT)(P1 P2 P3:OAdr9)(p1 r1 p2 r2 p3 r3:Nat)(qo:iW s P1 p1 r1 f.params)(qp:iW s P2 p2 r2 f.locals)(jA:f.params.length+f.locals.length<=100)(mQ:vU p)(A:OAdr9)(n c:Nat)(xs:List Ex)(hA:j9 d s A n c xs)(hO:∀ x∈xs,yC p f x)(kK:n<=100000):AN9 D 100 [.agg #[.slice Ag ng cg,.slice Af nf cf,St f.name,.slice P1 p1 r1,.slice P2 p2 r2,.slice P3 p3 r3],.slice A n c] L s λv M' s'=>∀ s2,Le D s' s2->mz M' s2->∃ A' n' c',v=.slice A' n' c'/\pI p f d s2 A' n' c' xs:=by
 have lX:=hA.1;have pd:=hA.2.1;have tf:=hA.2.2.1;have hlim:n<=100000:=kK;refine jv (fn:=f100) jl func100 V Z ntmps100 Z (rs:=[.tmp 4]) Z [(0,_),(1,_)] Z<|Sr<|kH Y2 λβ1 s1 h1=>Cj ?_;refine lw (γ:=Nat×Value×Hl) (λg=>[(2,_),(4,_),(5,g.2.1),(9,_),(10,_),(11,iJ (g.1:Int))]) (λg=>_::(g.2.2++L)) (λg tw=>Le D s1 tw/\(g.1<=n/\∃ css,Own 209 1 g.2.2 g.2.1 g.1 (List.flatten css)/\kI (λx cs=>cs.length=1/\lU p f d tw x cs) (xs.take g.1) css)) (λg=>n - g.1) (λ_ _ _ h hl=>⟨h.1.trans hl,(by obtain ⟨k1,css,k2,k3⟩:=h.2;exact ⟨k1,css,k2,k3.mono λ_ _ k=>⟨k.1,lU.le hl k.2⟩⟩)⟩) (0,.slice none 0 0,[]) (.c6 Z Z Z Z Z Z (.nil _)) Z ⟨Le.refl _,⟨aB _,[],.nil,.nil⟩⟩ ?_;intro g s2 I2;obtain ⟨k,vk,Mk⟩:=g;obtain ⟨kh,css,hOk,lG⟩:=I2.2;simp only at kh hOk lG;dsimp only;refine J6 ?_ ?_<;>intro c3
 .have hk:k < n:=by omega
  obtain ⟨e,b,off,x,A',n',c',hd,rfl,hx,hcx,hxa,hxu,_⟩:=j9.at_ Pz hk;have nC:=hO x (ay hx);refine G6 ?_;refine iI (jR Y6 hk) Z<|iI (kq Y3 Pz Z) Z<|jp Z [_,_,_,_,_] Y2 λβ4 s4 h4=>Wt 0 [_,_,_,_,_] Y9<|Nt<|Sr<|iI (jh 1 [_,_,_,_,_,_] Y5) Z<|iI (jh 0 [_,_,_,_,_] Y5) Z<|Jc Y3 (ih e hd _ _ d0 p Ag Af ng cg nf cf Pz Pz f P1 P2 P3 p1 r1 p2 r2 p3 r3 Pz Pz jA mQ x A' n' c' Pz hxu nC) ?_;rintro _ _ s5 h5 ⟨rfl,hvi⟩;obtain ⟨kk,cap,hvf⟩:=hvi.func;subst hvf;refine jp Z [_] Y2 λβ6 s6 h6=>Wt 0 [_] Y9<|Nt<|tO [] [_,_] ?_;intro s7 h7 hpub7;simp only [iU,iV];have gbx:=hpub7 _ _ _ Mc;refine Zr<|jY Y2<|iI (qw Z) Z<|kF [(_,_)] [_] Y9 λβ8 s8 h8 hc8=>rp (sz:=1) [_] Mk L Y7 hOk (Row.of_cells Pz Z Z) ⟨by simp [D3];omega,by omega⟩ Z ?_;intro v9 M9 s9 h9 oq;simp only [iU,iV];refine G5 ?_;refine ki Y3 (jB O O)<|G2 ?_;refine jd ⟨(k+1,v9,M9),[],kp,Z,⟨Lc,⟨by simp only;omega,css++[[_]],by simp only [bY,bt,bX,aE];exact oq,by simp only;rw [wA hx];exact (lG.mono λ_ _ k=>⟨k.1,lU.le Lc k.2⟩).snoc ⟨Z,hd▸⟨_,_,Z,gbx.le Lc,hvi.le Lc (λ_ _ h=>lU.le Lc h)⟩⟩⟩⟩,Oz⟩
 obtain rfl:n=k:=by omega
 rw [aI O] at lG;obtain ⟨Ak,ck,rfl,_,_⟩:=Own.slice hOk;refine mn ?_;exact rR [] _ (.t1 Z) Z Lc λ_ iL=>⟨_::Mk,rfl,λs2 kb hp=>⟨_,_,_,rfl,Own.rows hOk hp.tail (lG.mono λ_ _ k=>⟨k.1,lU.le Lc k.2⟩) lX⟩⟩
def QL{p:Prop} (h:p:=by
 first
  | (exact ⟨[_,_,_],rfl,λs2 kb hp=>hW.le Lc λ_ _ h=>lU.le Lc h⟩)
  | (exact ⟨[_,_,_],rfl,λs2 kb hp=>.call _ hk4 (hW.le Lc λ_ _ h=>lU.le Lc h)⟩)):p:=h
def qpi(d:Nat)(ih:U8 D d)(L:Hl)(s:World)(d0:Nat)(p:ja)(Ag Af:OAdr9)(ng cg nf cf:Nat)(jQ:jn s Ag ng cg p.o)(j8:ju d0 s Af nf cf p.funcs)(f:iT)(P1 P2 P3:OAdr9)(p1 r1 p2 r2 p3 r3:Nat)(qo:iW s P1 p1 r1 f.params)(qp:iW s P2 p2 r2 f.locals)(jA:f.params.length+f.locals.length<=100)(mQ:vU p)(x:Ex)(A:OAdr9)(n c:Nat)(hA:j9 d s A n c x.args)(hxu:iY x.num)(nC:yC p f x):AN9 D 142 [.agg #[.slice Ag ng cg,.slice Af nf cf,St f.name,.slice P1 p1 r1,.slice P2 p2 r2,.slice P3 p3 r3],.agg #[iJ x.kind,iJ x.op,iO x.num,St x.name,.slice A n c]] L s λv M' s'=>∀ s2,Le D s' s2->mz M' s2->sW p f (lU p f d) s2 x v:=by
 obtain ⟨hC,_⟩:=ze nC.1;obtain ⟨un,AX,ka,hmo,ho6,ho7⟩:=Bm hC;have lX:=hA.1;have hm6:=quq x.kind;refine jv (fn:=f142) jl func142 V Z ntmps142 Z (rs:=[.tmp 4]) Z [(0,_),(1,_)] Z<|Sr<|kH Y2 λβ1 s1 h1=>kH Y2 λβ2 s2 h2=>At Z Z<|Sr<|iI (jh 1 [_,_,_,_,_,_] Y5) Z<|G2 ?_;refine Jc Y3 (ih _ _ d0 p Ag Af ng cg nf cf Pz Pz f P1 P2 P3 p1 r1 p2 r2 p3 r3 Pz Pz jA mQ A n c x.args Pz nC.args O) ?_;rintro _ _ s3 h3 ⟨rfl,A',n',c',rfl,hV⟩;have oB:=hV.1;refine jp Z [_] Y2 λβ4 s4 h4=>Wt 0 [_] Y9<|LU ?_ ?_<;>intro c5;.have un:x.kind=1:=c5;refine X37 ?_;exact rR [] _ (.t1 Z) Z Lc λ_ iL=>⟨[_,_,_],rfl,λs2 kb hp=>.num _ A n c un (hp _ _ _ (aq _ Mc)) hxu⟩
 refine J6 ?_ ?_<;>intro c6;.have AW:x.kind=2:=c6;refine X16 ?_;refine Jc Y3 (AC.pubW (qut _ _ d0 p Ag Af ng cg nf cf Pz Pz f P1 P2 P3 p1 r1 p2 r2 p3 r3 Pz Pz jA (lU p f d) x AW (mn2 mQ nC AW))) ?_;rintro _ _ s7 h7 ⟨rfl,hW⟩;refine G6 ?_;exact rR [] _ (.t1 Z) Z Lc λ_ iL=>QL
 refine J6 ?_ ?_<;>intro c7
 .have yP:x.kind=3:=c7;obtain ⟨k,g,hg,hgp,g3⟩:=mn3 mQ nC yP;have mV:0 < n':=by have h9:tu x.kind=1:=(by rw [yP];rfl);omega
  refine Sr<|iI (jh 2 [_,_,_,_,_,_] Y5) Z<|G2 ?_;refine Je Y3 (MP _ _ d0 p Ag Af ng cg nf cf Pz Pz f P1 P2 P3 p1 r1 p2 r2 p3 r3 Pz Pz x.name) λs8 h8=>jp Z [_] Y2 λβ9 s9 h9=>Wt 0 [_] Y9<|Nt<|Sr<|iI (qw Z) Z<|G6 ?_;exact rR [] _ (.t1 Z) Z Lc λ_ iL=>⟨[_,_,_,_],rfl,λs2 kb hp=>.idx _ _ k g _ _ _ yP hg hgp g3 (by rw [<- hg];exact (hp _ _ _ Mc)) (hp _ _ _ (aq _ Mc)) (hV.le (h4.t h8|>.t h9|>.t (iL.t kb))) mV⟩
 refine J6 ?_ ?_<;>intro c8;.have hk4:x.kind=4:=c8;obtain ⟨k,fk,hg,hpk,hl⟩:=mn4 mQ nC hk4;refine Sr<|iI (jh 2 [_,_,_,_,_,_] Y5) Z<|G3 ?_;refine Jc Y3 (AC.pubW (ZT _ _ d0 p Ag Af ng cg nf cf Pz Pz f P1 P2 P3 p1 r1 p2 r2 p3 r3 Pz Pz d x.name x.args A' n' c' k fk (hV.le h4) hg hpk hl)) ?_;rintro _ _ s9 h9 ⟨rfl,hW⟩;refine G6 ?_;exact rR [] _ (.t1 Z) Z Lc λ_ iL=>QL
 refine J6 ?_ ?_<;>intro c9;.have hk5:x.kind=5:=c9;refine G8 ?_;exact rR [] _ (.t1 Z) Z Lc λ_ iL=>⟨[_,_,_],rfl,λs2 kb hp=>.get hk5⟩
 refine J6 ?_ ?_<;>intro my
 .have hk6:x.kind=6:=my;have mV:0 < n':=by have h9:tu x.kind=1:=(by rw [hk6];rfl);omega
  refine Sr<|iI (qw Z) Z<|G6 ?_;exact rR [] _ (.t1 Z) Z Lc λ_ iL=>⟨[_,_,_],rfl,λs2 kb hp=>.una _ _ A n c _ _ _ hk6 (hp _ _ _ (aq _ Mc)) (hp _ _ _ Mc) (hV.le (h4.t (iL.t kb))) mV⟩
 have mV:0 < n':=by have h9:tu x.kind=2:=(by rw [show x.kind=7 by omega];rfl);omega
 have h1n:1 < n':=by have h9:tu x.kind=2:=(by rw [show x.kind=7 by omega];rfl);omega
 obtain ⟨B0,o0,b4,hAe0,hcE,hvE⟩:=pI.at_ hV mV;subst hAe0;obtain ⟨B1,o1,b5,hAe,hcF,hvF⟩:=pI.at_ hV h1n;simp only [da,iw,and_true] at hAe;obtain ⟨hAe1,hAe2⟩:=hAe;subst hAe1;subst hAe2;refine G4 ?_;refine ma jF 10 Z _ (λ_ h=>h) λkv jP=>H3 ?_;refine za 3 Z (ly Y6 mV) Z<|za 4 Z (jW Y3 Pz Z) Z<|H1 ?_;refine za 6 Z (ly Y6 h1n) Z<|za 7 Z (jW Y3 Pz Z) Z<|iM 8 V<|Jb Z Tt Z Z Z (AC.pubW (qom _ _ p f d b4 b5 x O (ho7 O) (lU.le Lc hvE) (lU.le Lc hvF))) ?_;rintro _ _ kc jL ⟨rfl,hW⟩;refine ⟨λ_ _ h=>h,?_⟩;refine H1 ?_;refine jq V<|G2 ?_;exact rR [] _ (.t1 Z) Z Lc λ_ iL=>QL
def xsr{D:Nat}:∀ d,U8 D d
 | 0=>λL s d0 p Ag Af ng cg nf cf jQ j8 f P1 P2 P3 p1 r1 p2 r2 p3 r3 qo qp jA mQ A n c xs hA hO kK=>AC.pubW (YO 0 (λe h=>by omega) L s d0 p Ag Af ng cg nf cf jQ j8 f P1 P2 P3 p1 r1 p2 r2 p3 r3 qo qp jA mQ A n c xs hA hO kK)
 | d+1=>λL s d0 p Ag Af ng cg nf cf jQ j8 f P1 P2 P3 p1 r1 p2 r2 p3 r3 qo qp jA mQ A n c xs hA hO kK=>AC.pubW (YO (d+1) (λe h=>(show d=e by omega)▸λL s d0 p Ag Af ng cg nf cf jQ j8 f P1 P2 P3 p1 r1 p2 r2 p3 r3 qo qp jA mQ x A n c hA hu hx=>AC.pubW (qpi d (xsr d) L s d0 p Ag Af ng cg nf cf jQ j8 f P1 P2 P3 p1 r1 p2 r2 p3 r3 qo qp jA mQ x A n c hA hu hx)) L s d0 p Ag Af ng cg nf cf jQ j8 f P1 P2 P3 p1 r1 p2 r2 p3 r3 qo qp jA mQ A n c xs hA hO kK)
def TPR(D d:Nat):Prop:=∀ (L:Hl) (s:World) (d0:Nat) (p:ja) (Ag Af:OAdr9) (ng cg nf cf:Nat) (jQ:jn s Ag ng cg p.o) (j8:ju d0 s Af nf cf p.funcs) (f:iT) (P1 P2 P3:OAdr9) (p1 r1 p2 r2 p3 r3:Nat) (qo:iW s P1 p1 r1 f.params) (qp:iW s P2 p2 r2 f.locals) (jA:f.params.length+f.locals.length<=100) (mQ:vU p) (x:jb) (A1:OAdr9) (n1 c1:Nat) (A2:OAdr9) (n2 c2:Nat) (A3:OAdr9) (n3 c3:Nat),j9 d s A1 n1 c1 x.exprs->jz d s A2 n2 c2 x.body->jz d s A3 n3 c3 x.els->kC x.body<=2000->kC x.els<=2000->oD p f x->Ap9 D 59 [.agg #[.slice Ag ng cg,.slice Af nf cf,St f.name,.slice P1 p1 r1,.slice P2 p2 r2,.slice P3 p3 r3],.agg #[iJ x.kind,St x.name,.slice A1 n1 c1,.slice A2 n2 c2,.slice A3 n3 c3]] L s λv L' s'=>L=L'/\sC p f (lU p f d) (pZ p f d) s' x v
def U6(D d:Nat):Prop:=∀ (L:Hl) (s:World) (d0:Nat) (p:ja) (Ag Af:OAdr9) (ng cg nf cf:Nat) (jQ:jn s Ag ng cg p.o) (j8:ju d0 s Af nf cf p.funcs) (f:iT) (P1 P2 P3:OAdr9) (p1 r1 p2 r2 p3 r3:Nat) (qo:iW s P1 p1 r1 f.params) (qp:iW s P2 p2 r2 f.locals) (jA:f.params.length+f.locals.length<=100) (mQ:vU p) (A:OAdr9) (n c:Nat) (xs:List jb),jz d s A n c xs->(∀ x∈xs,oD p f x)->kC xs<=2000->Ap9 D 31 [.agg #[.slice Ag ng cg,.slice Af nf cf,St f.name,.slice P1 p1 r1,.slice P2 p2 r2,.slice P3 p3 r3],.slice A n c] L s λv L' s'=>L=L'/\∃ A' n' c',v=.slice A' n' c'/\wR p f d s' A' n' c' xs
def YW(d:Nat)(ih:∀ e,d=e+1->TPR D e)(L:Hl)(s:World)(d0:Nat)(p:ja)(Ag Af:OAdr9)(ng cg nf cf:Nat)(jQ:jn s Ag ng cg p.o)(j8:ju d0 s Af nf cf p.funcs)(f:iT)(P1 P2 P3:OAdr9)(p1 r1 p2 r2 p3 r3:Nat)(qo:iW s P1 p1 r1 f.params)(qp:iW s P2 p2 r2 f.locals)(jA:f.params.length+f.locals.length<=100)(mQ:vU p)(A:OAdr9)(n c:Nat)(xs:List jb)(hA:jz d s A n c xs)(hO:∀ x∈xs,oD p f x)(hN:kC xs<=2000)(kK:n<=100000):AN9 D 31 [.agg #[.slice Ag ng cg,.slice Af nf cf,St f.name,.slice P1 p1 r1,.slice P2 p2 r2,.slice P3 p3 r3],.slice A n c] L s λv M' s'=>∀ s2,Le D s' s2->mz M' s2->∃ A' n' c',v=.slice A' n' c'/\wR p f d s2 A' n' c' xs:=by
 have lX:=hA.1;have pd:=hA.2.1;have tf:=hA.2.2.1;have hlim:n<=100000:=kK;refine jv (fn:=f31) jl func31 V Z ntmps31 Z (rs:=[.tmp 4]) Z [(0,_),(1,_)] Z<|Sr<|kH Y2 λβ1 s1 h1=>Cj ?_;refine lw (γ:=Nat×Value×Hl) (λg=>[(2,_),(4,_),(5,g.2.1),(9,_),(10,_),(11,iJ (g.1:Int))]) (λg=>_::(g.2.2++L)) (λg tw=>Le D s1 tw/\(g.1<=n/\∃ css,Own 141 1 g.2.2 g.2.1 g.1 (List.flatten css)/\kI (λx cs=>cs.length=1/\pZ p f d tw x cs) (xs.take g.1) css)) (λg=>n - g.1) (λ_ _ _ h hl=>⟨h.1.trans hl,(by obtain ⟨k1,css,k2,k3⟩:=h.2;exact ⟨k1,css,k2,k3.mono λ_ _ k=>⟨k.1,pZ.le hl k.2⟩⟩)⟩) (0,.slice none 0 0,[]) (.c6 Z Z Z Z Z Z (.nil _)) Z ⟨Le.refl _,⟨aB _,[],.nil,.nil⟩⟩ ?_;intro g s2 I2;obtain ⟨k,vk,Mk⟩:=g;obtain ⟨kh,css,hOk,lG⟩:=I2.2;simp only at kh hOk lG;dsimp only;refine J6 ?_ ?_<;>intro c3
 .have hk:k < n:=by omega
  obtain ⟨e,b,off,x,B1,m1,e1,B2,m2,e2,B3,m3,e3,hd,rfl,hx,hcx,yV,uu,hx3,_⟩:=jz.at_ Pz hk;have hNx:=Se hx;have nC:=hO x (ay hx);refine G6 ?_;refine iI (jR Y6 hk) Z<|iI (kq Y3 Pz Z) Z<|jp Z [_,_,_,_,_] Y2 λβ4 s4 h4=>Wt 0 [_,_,_,_,_] Y9<|Nt<|Sr<|iI (jh 1 [_,_,_,_,_,_] Y5) Z<|iI (jh 0 [_,_,_,_,_] Y5) Z<|Jc Y3 (ih e hd _ _ d0 p Ag Af ng cg nf cf Pz Pz f P1 P2 P3 p1 r1 p2 r2 p3 r3 Pz Pz jA mQ x B1 m1 e1 B2 m2 e2 B3 m3 e3 Pz Pz Pz O O nC) ?_;rintro _ _ s5 h5 ⟨rfl,hvi⟩;obtain ⟨kk,cap,hvf⟩:=hvi.func;subst hvf;refine jp Z [_] Y2 λβ6 s6 h6=>Wt 0 [_] Y9<|Nt<|tO [] [_,_] ?_;intro s7 h7 hpub7;simp only [iU,iV];have gbx:=hpub7 _ _ _ Mc;refine Zr<|jY Y2<|iI (qw Z) Z<|kF [(_,_)] [_] Y9 λβ8 s8 h8 hc8=>rp (sz:=1) [_] Mk L Y7 hOk (Row.of_cells Pz Z Z) ⟨by simp [DT];omega,by omega⟩ Z ?_;intro v9 M9 s9 h9 oq;simp only [iU,iV];refine G5 ?_;refine ki Y3 (jB O O)<|G2 ?_;refine jd ⟨(k+1,v9,M9),[],kp,Z,⟨Lc,⟨by simp only;omega,css++[[_]],by simp only [bY,bt,bX,aE];exact oq,by simp only;rw [wA hx];exact (lG.mono λ_ _ k=>⟨k.1,pZ.le Lc k.2⟩).snoc ⟨Z,hd▸⟨_,_,Z,gbx.le Lc,hvi.le Lc (λ_ _ h=>lU.le Lc h) (λ_ _ h=>pZ.le Lc h)⟩⟩⟩⟩,Oz⟩
 obtain rfl:n=k:=by omega
 rw [aI O] at lG;obtain ⟨Ak,ck,rfl,_,_⟩:=Own.slice hOk;refine mn ?_;exact rR [] _ (.t1 Z) Z Lc λ_ iL=>⟨_::Mk,rfl,λs2 kb hp=>⟨_,_,_,rfl,Own.rows hOk hp.tail (lG.mono λ_ _ k=>⟨k.1,pZ.le Lc k.2⟩) lX⟩⟩
def qpj(d:Nat)(vt:U6 D d)(L:Hl)(s:World)(d0:Nat)(p:ja)(Ag Af:OAdr9)(ng cg nf cf:Nat)(jQ:jn s Ag ng cg p.o)(j8:ju d0 s Af nf cf p.funcs)(f:iT)(P1 P2 P3:OAdr9)(p1 r1 p2 r2 p3 r3:Nat)(qo:iW s P1 p1 r1 f.params)(qp:iW s P2 p2 r2 f.locals)(jA:f.params.length+f.locals.length<=100)(mQ:vU p)(x:jb)(A1:OAdr9)(n1 q1:Nat)(A2:OAdr9)(n2 q2:Nat)(A3:OAdr9)(n3 q3:Nat)(tK:j9 d s A1 n1 q1 x.exprs)(lG:jz d s A2 n2 q2 x.body)(mI:jz d s A3 n3 q3 x.els)(hN2:kC x.body<=2000)(hN3:kC x.els<=2000)(nC:oD p f x):AN9 D 59 [.agg #[.slice Ag ng cg,.slice Af nf cf,St f.name,.slice P1 p1 r1,.slice P2 p2 r2,.slice P3 p3 r3],.agg #[iJ x.kind,St x.name,.slice A1 n1 q1,.slice A2 n2 q2,.slice A3 n3 q3]] L s λv M' s'=>∀ s2,Le D s' s2->mz M' s2->sC p f (lU p f d) (pZ p f d) s2 x v:=by
 obtain ⟨lv,nZ⟩:=nC.1;obtain ⟨un,hk10,ka,hmo,_,_⟩:=BP (wH nZ).2.1;have lX:=tK.1;have hm6:=qur x.kind;refine jv (fn:=f59) jl func59 V Z ntmps59 Z (rs:=[.tmp 4]) Z [(0,_),(1,_)] Z<|Sr<|kH Y2 λβ1 s1 h1=>kH Y2 λβ2 s2 h2=>At Z Z<|Sr<|iI (jh 1 [_,_,_,_,_,_] Y5) Z<|G2 ?_;refine Jc Y3 (xsr d _ _ d0 p Ag Af ng cg nf cf Pz Pz f P1 P2 P3 p1 r1 p2 r2 p3 r3 Pz Pz jA mQ A1 n1 q1 x.exprs Pz nC.exprs O) ?_;rintro _ _ s3 h3 ⟨rfl,A',n',c',rfl,hV⟩;have oB:=hV.1;refine jp Z [_] Y2 λβ4 s4 h4=>Wt 0 [_] Y9<|LU ?_ ?_<;>intro c5
 .have pS:x.kind=1:=c5;have mV:0 < n':=by have h9:wG x.kind=1:=(by rw [pS];rfl);omega
  obtain ⟨B0,o0,b4,hAe0,hcE,hvE⟩:=pI.at_ hV mV;subst hAe0;refine Zs<|ma jF 8 Z _ (λ_ h=>h) λs6 h6=>za 0 Z (jh 2 [_,_,_,_,_,_] Y5) Z<|H3 ?_;refine za 4 Z (ly Y6 mV) Z<|za 5 Z (jW Y3 Pz Z) Z<|iM 6 V<|Jb Z Tt Z Z Z (AC.pubW (qok _ _ d0 p Ag Af ng cg nf cf Pz Pz f P1 P2 P3 p1 r1 p2 r2 p3 r3 Pz Pz jA (pZ p f d) d b4 x pS (ms1 mQ nC pS) (lU.le Lc hvE))) ?_;rintro _ _ s7 h7 ⟨rfl,hW⟩;refine ⟨λ_ _ h=>h,?_⟩;refine H1 ?_;refine jq V<|G4 ?_;exact rR [] _ (.t1 Z) Z Lc λ_ iL=>⟨[_,_,_],rfl,λs2 kb hp=>hW.le Lc (λ_ _ h=>lU.le Lc h) λ_ _ h=>pZ.le Lc h⟩
 refine J6 ?_ ?_<;>intro c6
 .have pS:x.kind=2:=c6;obtain ⟨k,g,hg,hgp,g3⟩:=ms2 mQ nC pS;have h1n:1 < n':=by have h9:wG x.kind=2:=(by rw [pS];rfl);omega
  refine Sr<|iI (jh 2 [_,_,_,_,_,_] Y5) Z<|G2 ?_;refine Je Y3 (MP _ _ d0 p Ag Af ng cg nf cf Pz Pz f P1 P2 P3 p1 r1 p2 r2 p3 r3 Pz Pz x.name) λs7 h7=>jp Z [_] Y2 λβ8 s8 h8=>Wt 0 [_] Y9<|Nt<|Sr<|iI (qw Z) Z<|G6 ?_;exact rR [] _ (.t1 Z) Z Lc λ_ iL=>⟨[_,_,_,_],rfl,λs2 kb hp=>.store _ _ k g _ _ _ pS hg hgp g3 (by rw [<- hg];exact (hp _ _ _ Mc)) (hp _ _ _ (aq _ Mc)) (hV.le (h4.t h7|>.t h8|>.t (iL.t kb))) h1n⟩
 refine J6 ?_ ?_<;>intro c7
 .have pS:x.kind=3:=c7;have mV:0 < n':=by have h9:wG x.kind=1:=(by rw [pS];rfl);omega
  refine JU (γ:=Nat×Nat×Value×Value) (λg=>[(7,.pointer (some ⟨g.1,0,none⟩)),(8,.pointer (some ⟨g.2.1,0,none⟩))]) (λg=>[(g.1,cb [g.2.2.1] 88),(g.2.1,cb [g.2.2.2] 88)]) (λg tw=>∃ B5 m5 e5 B6 m6 e6,g.2.2.1=.slice B5 m5 e5/\g.2.2.2=.slice B6 m6 e6/\wR p f d tw B5 m5 e5 x.body/\wR p f d tw B6 m6 e6 x.els) (λ_ _ _ h hl=>(by obtain ⟨a,b,c,d,e,f,h1,h2,h3,h4⟩:=h;exact ⟨a,b,c,d,e,f,h1,h2,h3.le hl,h4.le hl⟩)) ?_ ?_
  .refine ma jF 12 Z _ (λ_ h=>h) λs9 h9=>za 0 Z (jh 2 [_,_,_,_,_,_] Y5) Z<|H2 ?_;refine za 4 Z (jh 2 [_,_,_,_,_,_] Y5) Z<|H2 ?_;refine xF 3 8 9 V ?_ ?_ ?_
   .refine Jb Z Tt Z Z Z (vt _ _ d0 p Ag Af ng cg nf cf Pz Pz f P1 P2 P3 p1 r1 p2 r2 p3 r3 Pz Pz jA mQ A2 n2 q2 x.body Pz nC.body O) ?_;rintro _ _ ku jN ⟨rfl,B5,m5,e5,rfl,hB5⟩;refine ⟨λ_ _ h=>h,?_⟩;refine xF 7 8 9 V ?_ ?_ ?_
    .refine Jb Z Tt Z Z Z (vt _ _ d0 p Ag Af ng cg nf cf Pz Pz f P1 P2 P3 p1 r1 p2 r2 p3 r3 Pz Pz jA mQ A3 n3 q3 x.els Pz nC.els O) ?_;rintro _ _ kv jP ⟨rfl,B6,m6,e6,rfl,hB6⟩;refine ⟨λ_ _ h=>h,?_⟩;refine kD 8 9 V ?_ ?_;.refine kA Z Tt Z [_] Y2 λβ12 kc jL=>iM 9 V<|kA Z Tt Z [_] Y2 λβ13 kY kN=>iM 10 V<|Wu Z Tt 1 [_] Y9 (sM (lq (vG (jT))))<|iM 11 V<|Wu Z Tt 0 [_] Y9 (sM (lq (vG (jT))))<|jq V ?_;refine jd (jV.mk (β12,β13,_,_) [] Lc (.c2 Z Z sk) (List.Perm.swap _ _ _) ⟨_,_,_,_,_,_,Z,Z,hB5.le Lc,hB6.le Lc⟩)
     refine kA Z Tt Z [_] Y2 λβ12 kc jL=>iM 8 V<|kA Z Tt Z [_] Y2 λβ13 kY kN=>iM 10 V<|Wu Z Tt 0 [_] Y9 (sM (lq (vG (jT))))<|iM 11 V<|Wu Z Tt 1 [_] Y9 (sM (lq (vG (jT))))<|jq V ?_;refine jd (jV.mk (β13,β12,_,_) [] Lc (.c2 Z Z sk) Pr ⟨_,_,_,_,_,_,Z,Z,hB5.le Lc,hB6.le Lc⟩)
    .refine kA Z Tt Z [_] Y2 λβ11 kv jP=>kD 7 9 V ?_ ?_;.refine Jb Z Tt Z Z Z (vt _ _ d0 p Ag Af ng cg nf cf Pz Pz f P1 P2 P3 p1 r1 p2 r2 p3 r3 Pz Pz jA mQ A3 n3 q3 x.els Pz nC.els O) ?_;rintro _ _ kc jL ⟨rfl,B6,m6,e6,rfl,hB6⟩;refine ⟨λ_ _ h=>h,?_⟩;refine iM 9 V<|kA Z Tt Z [_] Y2 λβ13 kY kN=>iM 10 V<|Wu Z Tt 1 [_] Y9 (sM (lq (vG (jT))))<|iM 11 V<|Wu Z Tt 0 [_] Y9 (sM (lq (vG (jT))))<|jq V ?_;refine jd (jV.mk (β11,β13,_,_) [] Lc (.c2 Z Z sk) (List.Perm.swap _ _ _) ⟨_,_,_,_,_,_,Z,Z,hB5.le Lc,hB6.le kN⟩)
     refine kA Z Tt Z [_] Y2 λβ12 kc jL=>iM 7 V<|Jb Z Tt Z Z Z (vt _ _ d0 p Ag Af ng cg nf cf Pz Pz f P1 P2 P3 p1 r1 p2 r2 p3 r3 Pz Pz jA mQ A3 n3 q3 x.els Pz nC.els O) ?_;rintro _ _ kY kN ⟨rfl,B6,m6,e6,rfl,hB6⟩;refine ⟨λ_ _ h=>h,?_⟩;refine X11 ?_;refine jd (jV.mk (β11,β12,_,_) [] Lc (.c2 Z Z sk) (List.Perm.swap _ _ _) ⟨_,_,_,_,_,_,Z,Z,hB5.le Lc,hB6.le (Lr D)⟩)
    refine kA Z Tt Z [_] Y2 λβ11 kv jP=>kD 7 8 V ?_ ?_;.refine Jb Z Tt Z Z Z (vt _ _ d0 p Ag Af ng cg nf cf Pz Pz f P1 P2 P3 p1 r1 p2 r2 p3 r3 Pz Pz jA mQ A3 n3 q3 x.els Pz nC.els O) ?_;rintro _ _ kc jL ⟨rfl,B6,m6,e6,rfl,hB6⟩;refine ⟨λ_ _ h=>h,?_⟩;refine iM 8 V<|kA Z Tt Z [_] Y2 λβ13 kY kN=>iM 10 V<|Wu Z Tt 0 [_] Y9 (sM (lq (vG (jT))))<|iM 11 V<|Wu Z Tt 1 [_] Y9 (sM (lq (vG (jT))))<|jq V ?_;refine jd (jV.mk (β13,β11,_,_) [] Lc (.c2 Z Z sk) Pr ⟨_,_,_,_,_,_,Z,Z,hB5.le Lc,hB6.le kN⟩)
    refine kA Z Tt Z [_] Y2 λβ12 kc jL=>iM 7 V<|Jb Z Tt Z Z Z (vt _ _ d0 p Ag Af ng cg nf cf Pz Pz f P1 P2 P3 p1 r1 p2 r2 p3 r3 Pz Pz jA mQ A3 n3 q3 x.els Pz nC.els O) ?_;rintro _ _ kY kN ⟨rfl,B6,m6,e6,rfl,hB6⟩;refine ⟨λ_ _ h=>h,?_⟩;refine X12 ?_;refine jd (jV.mk (β12,β11,_,_) [] Lc (.c2 Z Z sk) Pr ⟨_,_,_,_,_,_,Z,Z,hB5.le Lc,hB6.le (Lr D)⟩)
   .refine kA Z Tt Z [_] Y2 λβ10 ku jN=>kD 3 9 V ?_ ?_
    .refine Jb Z Tt Z Z Z (vt _ _ d0 p Ag Af ng cg nf cf Pz Pz f P1 P2 P3 p1 r1 p2 r2 p3 r3 Pz Pz jA mQ A2 n2 q2 x.body Pz nC.body O) ?_;rintro _ _ kv jP ⟨rfl,B5,m5,e5,rfl,hB5⟩;refine ⟨λ_ _ h=>h,?_⟩;refine kD 7 9 V ?_ ?_;.refine Jb Z Tt Z Z Z (vt _ _ d0 p Ag Af ng cg nf cf Pz Pz f P1 P2 P3 p1 r1 p2 r2 p3 r3 Pz Pz jA mQ A3 n3 q3 x.els Pz nC.els O) ?_;rintro _ _ kc jL ⟨rfl,B6,m6,e6,rfl,hB6⟩;refine ⟨λ_ _ h=>h,?_⟩;refine iM 9 V<|kA Z Tt Z [_] Y2 λβ13 kY kN=>iM 10 V<|Wu Z Tt 1 [_] Y9 (sM (lq (vG (jT))))<|iM 11 V<|Wu Z Tt 0 [_] Y9 (sM (lq (vG (jT))))<|jq V ?_;refine jd (jV.mk (β10,β13,_,_) [] Lc (.c2 Z Z sk) (List.Perm.swap _ _ _) ⟨_,_,_,_,_,_,Z,Z,hB5.le Lc,hB6.le kN⟩)
     refine kA Z Tt Z [_] Y2 λβ12 kc jL=>iM 7 V<|Jb Z Tt Z Z Z (vt _ _ d0 p Ag Af ng cg nf cf Pz Pz f P1 P2 P3 p1 r1 p2 r2 p3 r3 Pz Pz jA mQ A3 n3 q3 x.els Pz nC.els O) ?_;rintro _ _ kY kN ⟨rfl,B6,m6,e6,rfl,hB6⟩;refine ⟨λ_ _ h=>h,?_⟩;refine X11 ?_;refine jd (jV.mk (β10,β12,_,_) [] Lc (.c2 Z Z sk) (List.Perm.swap _ _ _) ⟨_,_,_,_,_,_,Z,Z,hB5.le Lc,hB6.le (Lr D)⟩)
    refine kA Z Tt Z [_] Y2 λβ11 kv jP=>iM 3 V<|Jb Z Tt Z Z Z (vt _ _ d0 p Ag Af ng cg nf cf Pz Pz f P1 P2 P3 p1 r1 p2 r2 p3 r3 Pz Pz jA mQ A2 n2 q2 x.body Pz nC.body O) ?_;rintro _ _ kc jL ⟨rfl,B5,m5,e5,rfl,hB5⟩;refine ⟨λ_ _ h=>h,?_⟩;refine iM 7 V<|Jb Z Tt Z Z Z (vt _ _ d0 p Ag Af ng cg nf cf Pz Pz f P1 P2 P3 p1 r1 p2 r2 p3 r3 Pz Pz jA mQ A3 n3 q3 x.els Pz nC.els O) ?_;rintro _ _ kY kN ⟨rfl,B6,m6,e6,rfl,hB6⟩;refine ⟨λ_ _ h=>h,?_⟩;refine X11 ?_;refine jd (jV.mk (β10,β11,_,_) [] Lc (.c2 Z Z sk) (List.Perm.swap _ _ _) ⟨_,_,_,_,_,_,Z,Z,hB5.le kN,hB6.le (Lr D)⟩)
   refine kA Z Tt Z [_] Y2 λβ10 ku jN=>kD 3 8 V ?_ ?_
   .refine Jb Z Tt Z Z Z (vt _ _ d0 p Ag Af ng cg nf cf Pz Pz f P1 P2 P3 p1 r1 p2 r2 p3 r3 Pz Pz jA mQ A2 n2 q2 x.body Pz nC.body O) ?_;rintro _ _ kv jP ⟨rfl,B5,m5,e5,rfl,hB5⟩;refine ⟨λ_ _ h=>h,?_⟩;refine kD 7 8 V ?_ ?_;.refine Jb Z Tt Z Z Z (vt _ _ d0 p Ag Af ng cg nf cf Pz Pz f P1 P2 P3 p1 r1 p2 r2 p3 r3 Pz Pz jA mQ A3 n3 q3 x.els Pz nC.els O) ?_;rintro _ _ kc jL ⟨rfl,B6,m6,e6,rfl,hB6⟩;refine ⟨λ_ _ h=>h,?_⟩;refine iM 8 V<|kA Z Tt Z [_] Y2 λβ13 kY kN=>iM 10 V<|Wu Z Tt 0 [_] Y9 (sM (lq (vG (jT))))<|iM 11 V<|Wu Z Tt 1 [_] Y9 (sM (lq (vG (jT))))<|jq V ?_;refine jd (jV.mk (β13,β10,_,_) [] Lc (.c2 Z Z sk) Pr ⟨_,_,_,_,_,_,Z,Z,hB5.le Lc,hB6.le kN⟩)
    refine kA Z Tt Z [_] Y2 λβ12 kc jL=>iM 7 V<|Jb Z Tt Z Z Z (vt _ _ d0 p Ag Af ng cg nf cf Pz Pz f P1 P2 P3 p1 r1 p2 r2 p3 r3 Pz Pz jA mQ A3 n3 q3 x.els Pz nC.els O) ?_;rintro _ _ kY kN ⟨rfl,B6,m6,e6,rfl,hB6⟩;refine ⟨λ_ _ h=>h,?_⟩;refine X12 ?_;refine jd (jV.mk (β12,β10,_,_) [] Lc (.c2 Z Z sk) Pr ⟨_,_,_,_,_,_,Z,Z,hB5.le Lc,hB6.le (Lr D)⟩)
   refine kA Z Tt Z [_] Y2 λβ11 kv jP=>iM 3 V<|Jb Z Tt Z Z Z (vt _ _ d0 p Ag Af ng cg nf cf Pz Pz f P1 P2 P3 p1 r1 p2 r2 p3 r3 Pz Pz jA mQ A2 n2 q2 x.body Pz nC.body O) ?_;rintro _ _ kc jL ⟨rfl,B5,m5,e5,rfl,hB5⟩;refine ⟨λ_ _ h=>h,?_⟩;refine iM 7 V<|Jb Z Tt Z Z Z (vt _ _ d0 p Ag Af ng cg nf cf Pz Pz f P1 P2 P3 p1 r1 p2 r2 p3 r3 Pz Pz jA mQ A3 n3 q3 x.els Pz nC.els O) ?_;rintro _ _ kY kN ⟨rfl,B6,m6,e6,rfl,hB6⟩;refine ⟨λ_ _ h=>h,?_⟩;refine X12 ?_;refine jd (jV.mk (β11,β10,_,_) [] Lc (.c2 Z Z sk) Pr ⟨_,_,_,_,_,_,Z,Z,hB5.le kN,hB6.le (Lr D)⟩)
  intro g s8 h8 I8;simp only [iU,iV];obtain ⟨b7,b8,v5,v6⟩:=g;obtain ⟨B5,m5,e5,B6,m6,e6,h95,h96,hB5,hB6⟩:=I8;simp only at h95 h96;subst h95;subst h96;dsimp only;refine X37 ?_;exact rR [] _ (.t1 Z) Z Lc λ_ iL=>⟨[_,_,_,_,_],rfl,λs2 kb hp=>.cond _ _ _ _ _ _ _ _ _ _ _ _ pS (hp _ _ _ (aq _ (aq _ Mc))) (hp _ _ _ Mc) (hp _ _ _ (aq _ Mc)) (hV.le (h4.t h8|>.t (iL.t kb))) mV (hB5.le ((Lr D).t (iL.t kb))) (hB6.le ((Lr D).t (iL.t kb)))⟩
 refine J6 ?_ ?_<;>intro c8
 .have pS:x.kind=4:=c8;have mV:0 < n':=by have h9:wG x.kind=1:=(by rw [pS];rfl);omega
  refine Sr<|iI (jh 2 [_,_,_,_,_,_] Y5) Z<|G2 ?_;refine Jc Y3 (vt _ _ d0 p Ag Af ng cg nf cf Pz Pz f P1 P2 P3 p1 r1 p2 r2 p3 r3 Pz Pz jA mQ A2 n2 q2 x.body Pz nC.body O) ?_;rintro _ _ s9 h9 ⟨rfl,B5,m5,e5,rfl,hB5⟩;refine jp Z [_] Y2 λβ10 ku jN=>Wt 0 [_] Y9<|Nt<|Sr<|iI (qw Z) Z<|G6 ?_;exact rR [] _ (.t1 Z) Z Lc λ_ iL=>⟨[_,_,_,_],rfl,λs2 kb hp=>.loop _ _ _ _ _ _ _ _ pS (hp _ _ _ (aq _ Mc)) (hp _ _ _ Mc) (hV.le (h4.t h9|>.t jN|>.t (iL.t kb))) mV (hB5.le (jN.t (iL.t kb)))⟩
 refine J6 ?_ ?_<;>intro c9;.have pS:x.kind=5:=c9;obtain ⟨k,fk,hg,hpk,hl⟩:=ms5 mQ nC pS;refine Sr<|iI (jh 2 [_,_,_,_,_,_] Y5) Z<|G3 ?_;refine Jc Y3 (AC.pubW (ZT _ _ d0 p Ag Af ng cg nf cf Pz Pz f P1 P2 P3 p1 r1 p2 r2 p3 r3 Pz Pz d x.name x.exprs A' n' c' k fk (hV.le h4) hg hpk hl)) ?_;rintro _ _ ku jN ⟨rfl,hW⟩;obtain ⟨be,bi,A9,n9,c9,k9,fk9,hvf,hW⟩:=hW;subst hvf;have hW:rL p (lU p f d) ku x.name x.exprs _:=⟨be,bi,A9,n9,c9,k9,fk9,rfl,hW⟩;refine jp Z [_] Y2 λβ11 kv jP=>Wt 0 [_] Y9<|Nt<|Sr<|iI (qw Z) Z<|G6 ?_;exact rR [] _ (.t1 Z) Z Lc λ_ iL=>⟨[_,_,_,_],rfl,λs2 kb hp=>.call _ _ pS (hp _ _ _ Mc) (hW.le Lc λ_ _ h=>lU.le Lc h)⟩
 refine J6 ?_ ?_<;>intro my
 .have pS:x.kind=6:=my;have mV:0 < n':=by have h9:wG x.kind=1:=(by rw [pS];rfl);omega
  refine Sr<|iI (qw Z) Z<|G6 ?_;exact rR [] _ (.t1 Z) Z Lc λ_ iL=>⟨[_,_,_],rfl,λs2 kb hp=>.ret _ _ _ _ pS (hp _ _ _ Mc) (hV.le (h4.t (iL.t kb))) mV⟩
 refine J6 ?_ ?_<;>intro mN
 .have pS:x.kind=7:=mN;have mV:0 < n':=by have h9:wG x.kind=1:=(by rw [pS];rfl);omega
  refine Sr<|iI (qw Z) Z<|G6 ?_;exact rR [] _ (.t1 Z) Z Lc λ_ iL=>⟨[_,_,_],rfl,λs2 kb hp=>.put _ _ _ _ pS (hp _ _ _ Mc) (hV.le (h4.t (iL.t kb))) mV⟩
 refine J6 ?_ ?_<;>intro nU
 .have pS:x.kind=8:=nU;have mV:0 < n':=by have h9:wG x.kind=1:=(by rw [pS];rfl);omega
  refine Sr<|iI (qw Z) Z<|G6 ?_;exact rR [] _ (.t1 Z) Z Lc λ_ iL=>⟨[_,_,_],rfl,λs2 kb hp=>.stop _ _ _ _ pS (hp _ _ _ Mc) (hV.le (h4.t (iL.t kb))) mV⟩
 refine J6 ?_ ?_<;>intro oP;.have pS:x.kind=9:=oP;refine G8 ?_;exact rR [] _ (.t1 Z) Z Lc λ_ iL=>⟨[_,_,_],rfl,λs2 kb hp=>.brk pS⟩
 have pS:x.kind=10:=by omega
 refine G9 ?_;exact rR [] _ (.t1 Z) Z Lc λ_ iL=>⟨[_,_,_],rfl,λs2 kb hp=>.cont pS⟩
def UC{D:Nat}:∀ d,U6 D d
 | 0=>λL s d0 p Ag Af ng cg nf cf jQ j8 f P1 P2 P3 p1 r1 p2 r2 p3 r3 qo qp jA mQ A n c xs hA hO hN=>AC.pubW (YW 0 (λe h=>by omega) L s d0 p Ag Af ng cg nf cf jQ j8 f P1 P2 P3 p1 r1 p2 r2 p3 r3 qo qp jA mQ A n c xs hA hO hN (by have:=hA.1;have:=Ny xs;omega))
 | d+1=>λL s d0 p Ag Af ng cg nf cf jQ j8 f P1 P2 P3 p1 r1 p2 r2 p3 r3 qo qp jA mQ A n c xs hA hO hN=>AC.pubW (YW (d+1) (λe h=>(show d=e by omega)▸λL s d0 p Ag Af ng cg nf cf jQ j8 f P1 P2 P3 p1 r1 p2 r2 p3 r3 qo qp jA mQ x A1 n1 c1 A2 n2 c2 A3 n3 c3 h1 h2 h3 hN2 hN3 hx=>AC.pubW (qpj d (UC d) L s d0 p Ag Af ng cg nf cf jQ j8 f P1 P2 P3 p1 r1 p2 r2 p3 r3 qo qp jA mQ x A1 n1 c1 A2 n2 c2 A3 n3 c3 h1 h2 h3 hN2 hN3 hx)) L s d0 p Ag Af ng cg nf cf jQ j8 f P1 P2 P3 p1 r1 p2 r2 p3 r3 qo qp jA mQ A n c xs hA hO hN (by have:=hA.1;have:=Ny xs;omega))
end
section
section
variable{TT:kG}{Q:wJ}{fr:Fr}{ops:Array Oper}
def a_{f:FuncId}{first captured:LVal9}{R:Value->Hl->World->Prop}{X:List PanicEntry->Hl->World->Prop}(hx:lk fr x=some (.func (.func f) first.toArray captured.toArray))(hv:tN fr xs=some vs)
  (hd:Nat.blt d n=true) (h:AP P D f (first++vs++captured) L s R X) (kx:∀ ch L' s',Le D s s'->X ch L' s'->Q (.panic ch) ds fr L' s') (k:∀ v L' s',Le D s s'->R v L' s'->RO P TT D n ro ops Q iP ds ((d,v)::fr) L' s') :
  RO P TT D n ro ops Q (⟨some d,.call { callee:=.value x,args:=xs.toArray,argTypes:=ts },ty,iS,af,none⟩::iP) ds fr L s:=λhT a hr ho=>by
 obtain ⟨⟨fn,h1,h2,h3⟩,hc⟩:=h;have hρ:∀ x v,lk fr x=some v->a.eval x=v:=λx v hx=>hr.ev hx;simp only [wpListIn,Region.wanted,bS];refine ⟨λf _=>Dp ro f,?_⟩;have jO:(execOp a.eval ⟨some d,.call { callee:=.value x,args:=xs.toArray,argTypes:=ts },ty,iS,af,none⟩).run P (fill L s)=.ok (.enter f (first++vs++captured).toArray) (fill L s):=by
  exact E7
 rw [fA _ _ _ (by nofun),jO,Oper.uponIn_enter];refine ⟨MO ro 0,(RV ro (hc ho)).mono ?_⟩;rintro e w' ⟨L',s',rfl,h4,h5,h6⟩;rcases h6 with ⟨v,rfl,h6⟩|⟨ch,rfl,h6⟩
 . exact k v L' s' h5 h6 hT _ (hr.put hd v) h4
 . exact ⟨ds,fr,L',s',hr,h4,rfl,kx _ _ _ h5 h6⟩
def qs4{f:FuncId}{first captured:LVal9}(hx:lk fr x=some (.func (.func f) first.toArray captured.toArray))
  (k:RO P TT D n none ops Q iP ({ target:=.fn (.func f) captured.toArray,args:=first.toArray }::ds) fr L s) :
  RO P TT D n none ops Q (⟨none,.defer { callee:=.value x,args:=#[],argTypes:=ts },ty,iS,af,none⟩::iP) ds fr L s:=λhT a hr ho=>by
 simp only [wpListIn,Region.wanted,bS];refine ⟨λf _=>Dp none f,?_⟩;have jO:(execOp a.eval ⟨none,.defer { callee:=.value x,args:=#[],argTypes:=ts },ty,iS,af,none⟩).run P (fill L s)=.ok (.defer { target:=.fn (.func f) captured.toArray,args:=first.toArray }) (fill L s):=by
  simp [execOp,resolve,Deferred.ofValue,hr.ev hx]
 rw [show (C0 none).round=none from rfl,Oper.semAt_none,jO,Oper.uponIn_defer];refine k hT _ ⟨?_,?_⟩ ho
 . exact hr.rel
 . show _::a.defers=_;rw [hr.defers]
def DC(P:Program)(D:Nat)(d:Deferred)(u:FrameMode)(L:Hl)(s:World)(K:Hl->World->Prop):Prop:=
 jX D L s->∃ fv cap f args,d.target=.fn fv cap/\(invoke d.target d.args).run P (fill L s)=.ok (.enter f args) (fill L s)/\CallsD P f args u (fill L s) λe u' w'=>∃ v,e=.returned v/\settle u'=.returning/\∃ L1 s1,w'=fill L1 s1/\jX D L1 s1/\K L1 s1
def Ey(TT:kG)(D:Nat)(rs:List ResultVar)(s0:World)(R:Value->Hl->World->Prop)(fr:Fr)(L:Hl)(s:World):Prop:=∃ vs A L',ql TT fr L rs vs/\L=A++L'/\Le D s0 s/\∀ s',Le D s s'->R (kB vs) L' s'
def Kz(P:Program)(TT:kG)(D:Nat)(rs:List ResultVar)(s0:World)(R:Value->Hl->World->Prop):wJ
 | .normal,[],fr,L,s|.ret,[],fr,L,s=>Ey TT D rs s0 R fr L s
 | .normal,[d],fr,L,s|.ret,[d],fr,L,s=>DC P D d .returning L s λL1 s1=>Ey TT D rs s0 R fr L1 s1
 | .panic ch,[d],fr,L,s=>DC P D d (.panicking ch) L s λL1 s1=>Ey TT D rs s0 R fr L1 s1
 | _,_,_,_,_=>False
def Wq{p:Prop} (h:p:=by
 show Leaves P fn a.tmps _ a.defers .returning (fill L1 s1);rw [k1.defers];exact fin L1 s1 k2 hq):p:=h
def qpo{f:FuncId}{c:Code}{args:LVal9}{R:Value->Hl->World->Prop}(hT:jZ P TT)(hf:P.funcs[f]?=some fn)(hn:(fn.name == "runtime.NumGoroutine")=false)(hb:fn.body=some c)(hnt:fn.ntmps=n)(ka:Nat.ble args.length n=true)(zM:fn.results.toList=rs)(xP:Fr)(ou:nj 0 args=xP)
  (h:RC P TT D n none (Kz P TT D rs s R) c [] xP L s):AC P D f args L s R:=by
 subst ou;subst zM;refine ⟨⟨fn,hf,hn,by simp [hb]⟩,λho=>calls_of_wp_defers hf hb ?_⟩;have hle':args.length<=n:=bE ka;have hr:vb [] n { tmps:=args.toArray++Array.replicate (fn.ntmps - args.toArray.size) undef,defers:=[] } (nj 0 args):=by
  exact HT
 refine wpIn_wide.1 (ft (n:=0) (h hT _ hr ho) ?_);rintro e a w ⟨ds,jS,L1,s1,k1,k2,rfl,hq⟩;have fin:∀ (L2:Hl) (s2:World),jX D L2 s2->Ey TT D fn.results.toList s R jS L2 s2->∃ v,(results fn a.tmps).run P (fill L2 s2)=.ok v (fill L2 s2)/\∃ v' L' s',Ending.returned v=.returned v'/\fill L2 s2=fill L' s'/\jX D L' s'/\Le D s s'/\R v' L' s':=λL2 s2 mR r9=>by
  obtain ⟨vs,A,L',hres,rfl,hle1,hR⟩:=r9;obtain ⟨d1,d2,d3⟩:=sK mR;have jO:(results fn a.tmps).run P (fill (A++L') s2)=.ok (kB vs) (fill (A++L') s2):=by
   have h1:=ql.run hT k1.rel mR hres;have h2:(fn.results.mapM (DL a.tmps)).run P (fill (A++L') s2)=.ok vs.toArray (fill (A++L') s2):=by
    exact WO
   exact Wk
  exact ⟨_,jO,_,L',fill A s2,rfl,d1,d2,hle1.trans d3,hR _ d3⟩
 have one:∀ (dd:Deferred) (u:FrameMode),u≠.run->ds=[dd]->DC P D dd u L1 s1 (λL1 s1=>Ey TT D fn.results.toList s R jS L1 s1)->Leaves P fn a.tmps (λe w'=>∃ v L' s',e=.returned v/\w'=fill L' s'/\jX D L' s'/\Le D s s'/\R v L' s') a.defers u (fill L1 s1):=λdd u hu ww hdc=>by
  obtain ⟨fv,cap,g,gs,h1,h2,h3⟩:=hdc k2;rw [k1.defers,ww];refine ⟨hu,fv,cap,g,gs,h1,h2,h3.mono ?_⟩;rintro e u' w' ⟨v,rfl,hset,L2,s2,rfl,mR,r9⟩;show Leaves P fn a.tmps _ [] (settle u') (fill L2 s2);rw [hset];obtain ⟨v,h4,h5⟩:=fin L2 s2 mR r9;exact ⟨v,h4,h5⟩
 match e,ds,hq with
 | .normal,[],hq=>
  exact Wq
 | .ret,[],hq=>
  exact Wq
 | .normal,[dd],hq=>exact one dd .returning (by intro h;cases h) rfl hq
 | .ret,[dd],hq=>exact one dd .returning (by intro h;cases h) rfl hq
 | .panic ch,[dd],hq=>exact one dd (.panicking ch) (by intro h;cases h) rfl hq
def qsu{J:List Deferred->Fr->Hl->World->Prop}(h:Q (.panic ch) ds fr L s):E3 J Q (.panic ch) ds fr L s:=h
def e_{id:Nat}(h:Q (.panic ch) ds fr L s):EU id Q (.panic ch) ds fr L s:=h
def qrG{R:Value->Hl->World->Prop}(A:Hl){L':Hl}(h:ql TT fr L rs vs)(hL:L=A++L')(hl:Le D s0 s)(hR:∀ s',Le D s s'->R (kB vs) L' s'):Ey TT D rs s0 R fr L s:=⟨vs,A,L',h,hL,hl,hR⟩
def qyd{R:Value->Hl->World->Prop}(h:DC P D dd (.panicking ch) L s λL1 s1=>Ey TT D rs s0 R fr L1 s1):Kz P TT D rs s0 R (.panic ch) [dd] fr L s:=h
def qlv(h:fn.results=#[]):(results fn tmps).run P w=.ok (.tuple #[]) w:=by
 rw [RD,h];simp
section rec
variable{f:FuncId}{id t:Nat}{c2:Code}{cap:LVal9}{K:Hl->World->Prop}
def qrR(hnt:fn.ntmps=n)(ka:Nat.ble cap.length n=true):jE n { tmps:=cap.toArray++Array.replicate (fn.ntmps - cap.toArray.size) undef,defers:=[] } (nj 0 cap):=by
 have hle':cap.length<=n:=bE ka;exact QO
end rec
end
section
variable{TT:kG}{fr:Fr}{ops:Array Oper}
def qEX{xt t:TypeId}{u:Value}(hu:P.underlying t=some (.struct #[]))(hx:lk fr x=some (.iface t u)):QE P TT D fr (.typeAssert x xt t true) ty K s0 (.tuple #[u,.bool true]):=
 QE.pure λhT dst iS af g ρ hρ w=>by simp [execOp,Instr.typeAssert,underlying,hu,hρ x _ hx]
def qpx{t:Nat}(hz:(P.info? t).bind (λi=>i.zero)=some (Value.agg #[]))(hd:Nat.blt d n=true)
  (k:∀ β s',Le D s s'->JO P TT D n ops Q iP ((d,jc β)::fr) ((β,cb [] t)::L) s'):JO P TT D n ops Q (⟨some d,.alloc t,ty,iS,af,none⟩::iP) fr L s:=λhT a hr ho=>
 zY hd (λhT _ dst iS af g ρ _=>by
  obtain ⟨h1,h2,h3⟩:=pU ho (cb [] t);refine ⟨?_,h2⟩;obtain ⟨i,hi,zJ⟩:=gN.1 hz;have hzv:(zeroValue t).run P (fill L s)=.ok (.agg #[]) (fill L s):=by simp [zeroValue,typeInfo,hi,zJ]
  simp only [execOp,Instr.alloc,bA,hzv,aP,newVar,Ka,bG,nR,Value.cells];rw [<- h1];rfl:Ev P TT D fr (.alloc t) ty L s (.value (.pointer (some ⟨s.heap.size,0,none⟩))) ((s.heap.size,cb [] t)::L) (s.alloc (mA D))) (k _ _ (pU ho (cb [] t)).2.2) hT a hr ho
def qEP{t:Nat}{a0:Addr}(hs:(P.info? t).map (λi=>i.size)=some 0)(hx:lk fr x=some (.pointer (some a0)))(hy:lk fr y=some (.agg #[]))(k:JO P TT D n ops Q iP fr L s):JO P TT D n ops Q (⟨none,.store t x y,ty,iS,af,none⟩::iP) fr L s:=
 Ow (λhT ho dst iS af g ρ hρ=>by
  refine ⟨?_,ho⟩;obtain ⟨i,hi,zJ⟩:=dE.1 hs;simp [execOp,Instr.storeAt,storeVar,sizeOf,typeInfo,hi,zJ,hρ x _ hx,hρ y _ hy,Instr.sureAddr,Value.cells,storeCells]:Ev P TT D fr (.store t x y) ty L s .skip L s) k
def T7(id d0 d1 ty0 ty1:Nat)(ts:Array TypeId)(p0 p1:String)(a0 a1:Array Edge)(c2:Code):Code:=
 .seq (.region id #[⟨some d0,.call { callee:=.builtin .recover,args:=#[],argTypes:=ts },ty0,p0,a0,none⟩,⟨some d1,.assign (.tmp d0),ty1,p1,a1,none⟩] false) c2
section rec
variable{f:FuncId}{id:Nat}{c2:Code}{cap:LVal9}
def qrQ{a:Act}{cs:List Frame}{Q:Exit->Act->List Frame->World->Prop}(sa:recoverD cs=some (v0,cs'))
  (e1:(a.put (some d0) v0).eval (.tmp d0)=v0)
  (h:Q .normal ((a.put (some d0) v0).put (some d1) v0) cs' w):wpOpsS P #[⟨some d0,.call { callee:=.builtin .recover,args:=#[],argTypes:=ts },ty0,p0,a0,none⟩,⟨some d1,.assign (.tmp d0),ty1,p1,a1,none⟩] Q [0,1] a cs w:=by
 have h0:(execOp a.eval ⟨some d0,.call { callee:=.builtin .recover,args:=#[],argTypes:=ts },ty0,p0,a0,none⟩).run P w=.ok .recover w:=by
  simp [execOp,resolve,invoke,builtin]
 have hx:=(show (execOp (a.put (some d0) v0).eval ⟨some d1,.assign (.tmp d0),ty1,p1,a1,none⟩).run P w=.ok (.value v0) w by simp [execOp,e1]);simp only [wpOpsS,Region.wanted,eA,dq,bH,bS,h0,sa,hx,Oper.upon];exact h
def qFf(D:Nat)(K:Hl->World->Prop)(s:World):qd:=λe _ L' s'=>e=.normal/\∃ A L1,L'=A++L1/\Le D s s'/\∀ s2,Le D s' s2->K L1 s2
def qyt{K:Hl->World->Prop}(hT:jZ P TT)(hf:P.funcs[f]?=some fn)(hn:(fn.name == "runtime.NumGoroutine")=false)(hb:fn.body=some (T7 id d0 d1 ty0 ty1 ts p0 p1 a0 a1 c2))(hnt:fn.ntmps=n)(ka:Nat.ble cap.length n=true)(zM:fn.results=#[])(hd0:Nat.blt d0 n=true)(hd1:Nat.blt d1 n=true)
  (xP:Fr) (ou:(d1,.iface t0 v0)::(d0,.iface t0 v0)::nj 0 cap=xP) (h:JC P TT D n (qFf D K s) c2 xP L s):DC P D { target:=.fn (.func f) cap.toArray,args:=#[] } (.panicking [{ v:=.iface t0 v0,recovered:=false }]) L s K:=λho=>by
 subst ou;have h2':¬ fn.name = "runtime.NumGoroutine" := by simpa using hn
 refine ⟨_,_,f,cap.toArray,Z,by simp [invoke,callFunc,hf,h2',hb],callsD_of_wpS hf hb λc₀ cs hm=>?_⟩;have hr:=qrR (fn:=fn) hnt ka;have xX:=hr.put hd0 (.iface t0 v0);have tM:=xX.put hd1 (.iface t0 v0);refine wpS_seq (wpS_region (qrQ (v0:=.iface t0 v0) (cs':={ c₀ with mode:=.panicking [{ v:=.iface t0 v0,recovered:=true }] }::cs) (by simp [recoverD,hm]) (xX.ev (x:=.tmp d0) (v:=.iface t0 v0) (by simp [lk,vz])) ?_));refine wpS_of_wp (eU (h hT _ tM ho) ?_);rintro e a w ⟨jS,L',s',k1,k2,rfl,rfl,A,L1,rfl,hl,hK⟩;obtain ⟨d1,d2,d3⟩:=sK k2;exact ⟨k1.defers,.panicking [{ v:=.iface t0 v0,recovered:=true }],rfl,_,qlv zM,_,rfl,by simp [settle],L1,fill A s',d1,d2,hK _ d3⟩
def qsZ{t:Nat}(hu:P.underlying t=some (.interface (P.methodsAt t)))(hx:lk fr x=some (.iface t0 v0)):QE P TT D fr (.binOp .neq t x (.const .nilIface) t') ty K s0 (.bool true):=
 QE.pure λhT dst iS af g ρ hρ w=>by
  have hc:ρ (.const .nilIface)=.nilIface:=hρ _ _ rfl;simp [execOp,hρ x _ hx,hc,eqGuard,run_neq_held_nil w t t0 v0 hu]
end rec
end
end
section
attribute [local irreducible] JC JO JA JB lZ mF mM AC fill iH QE Ev mq
def qyj{K:Hl->World->Prop}(hK:∀ s',Le D s s'->K L s'):DC prog D { target:=.fn (.func 62) ([]:LVal9).toArray,args:=([]:LVal9).toArray } (.panicking [{ v:=.iface 144 (.agg #[]),recovered:=false }]) L s K:=by
 refine qyt (fn:=f62) jl func62 V Z ntmps62 Z Z Z Z [(0,_),(3,_)] Z<|Sr<|jY Y2<|iI (qsZ V Z) Z<|G6 ?_;refine iI (qEX V Z) Z<|G3 ?_;refine qpx V Z λβz s1 h1=>qEP V Z Z<|G6 ?_;refine Cc Z Z<|G4 ?_;exact ⟨rfl,[_],_,rfl,h1,λs2 h2=>hK _ Lc⟩
def Mt:ER Int->MS×Int×Int
 | .ok _ m=>(m,1,0)
 | .fin m st cd=>(m,st,cd)
 | .out=>(⟨[],[],[],[],0,0,[]⟩,0,0)
def qCZ:lV s none 0 0 []:=⟨rfl,aC _,by omega,λi x h=>by cases h⟩
def qq7(p:ja)(n:Nat)(hT:Cp p D n)(c:MC)(N k:Nat)(fk:iT)(m:MS){iv:Value}(hC:CT p c s)(hp:p.funcs[k]?=some fk)(hfk:fk.params=[])(hM:MG p c N m iv ov R s)(hr:cX p (jm p jx n) k [] m≠.out):Ap9 D 32 [.pointer (some ⟨c.bm,0,none⟩),iJ (k:Int)] (xL c N 0 m iv ov 0 0 (.slice F0 n0 z0)::mw c m::(R++L)) s λv L' s'=>v=.tuple #[]/\∃ m' st cd Zq9,L'=Zq9++L/\AA c N m' st cd Zq9/\Mt (cX p (jm p jx n) k [] m)=(m',st,cd):=by
 refine qpo (fn:=f32) jl func32 V Z ntmps32 Z (rs:=[]) Z [(0,_),(1,_)] Z<|Ys<|Yr<|qs4 Z<|Yn<|Yt<|Ys<|Yr<|mc Y2<|mc Y2<|?_;refine a_ (first:=[]) (captured:=[]) Z Z Z (g_ p n hT L _ c N k fk [] none 0 0 m iv ov R Pz (qCZ) hp (by rw [hfk];rfl) Pz hr) ?_ ?_
 .rintro _ _ sx1 yV ⟨qG,m1,BF,cd1,Z1,he1,rfl,hF1⟩;repeat (first|refine qsu ?_|refine e_ ?_)
  cases qG;refine qyd (qyj (λs9 q9=>?_));refine qrG [] .nil Z Lc λ_ iL=>?_;exact ⟨rfl,m1,BF,cd1,Z1,rfl,hF1,by rw [he1];rfl⟩
 rintro _ _ s1 h1 ⟨a1,m1,qS,ov1,R1,he1,⟨rfl,pr⟩,rfl,mG⟩;refine Yn<|Yt<|Yr<|mc Y2<|?_;refine a_ (first:=[]) (captured:=[]) Z Z Z (EM [] c N m1 qS ov1) ?_ ?_
 .rintro _ _ sx2 uu ⟨qG,rfl⟩;repeat (first|refine qsu ?_|refine e_ ?_)
  cases qG;refine qyd (qyj (λs9 q9=>?_));refine qrG [] .nil Z Lc λ_ iL=>?_;exact ⟨rfl,m1,1,0,_,rfl,mG.finv _ _ _ _ [mw c m1],by rw [he1];rfl⟩
 rintro _ _ s2 h2 ⟨⟩
def tU(p:ja):List LInt9:=p.o.map λg=>if g.kind=3 then pE g.num.toNat g.init else []
abbrev SN:Value:=.slice none 0 0
def Jw:∀ {ab:List (Option Nat)} {gs:List jM} {g:jM} {o:Option Nat},ab.length=gs.length->vH (ab++[o]) (gs++[g])=vH ab gs++[match o with|some b=>.slice (j6 b) g.num.toNat g.num.toNat|none=>SN]
 | [],[],g,some b,_=>rfl
 | [],[],g,none,_=>rfl
 | some b::r,x::gs,g,o,h=>by rw [ao,ao,vH,vH,Jw Q4,ao]
 | none::r,x::gs,g,o,h=>by rw [ao,ao,vH,vH,Jw Q4,ao]
def FN:∀ {ab:List (Option Nat)} {gs:List jM},ab.length=gs.length->(vH ab gs).length=ab.length
 | [],[],_=>rfl
 | some b::r,x::gs,h=>by rw [vH,au,FN Q4,au]
 | none::r,x::gs,h=>by rw [vH,au,FN Q4,au]
def MT:∀ {ab:List (Option Nat)} {ls:List LInt9} {l:LInt9} {o:Option Nat},ab.length=ls.length->ol (ab++[o]) (ls++[l])=ol ab ls++(match o with|some b=>[(b,cb (wv l) 22)]|none=>[])
 | [],[],l,some b,_=>rfl
 | [],[],l,none,_=>rfl
 | some b::r,x::ls,l,o,h=>by rw [ao,ao,ol,ol,MT Q4,ao]
 | none::r,x::ls,l,o,h=>by rw [ao,ao,ol,ol,MT Q4]
section
variable{g:jM}
def wT(p:ja)(ab:List (Option Nat))(k ng:Nat):LVal9:=vH ab (p.o.take k)++List.replicate (ng - k) SN
theorem EY(hl:ab.length=k)(hg:p.o[k]?=some g):ab.length=(p.o.take k).length:=by grind
def Xu(h:k < ng):List.replicate (ng - k) SN=SN::List.replicate (ng - (k+1)) SN:=by
 rw [show ng - k=ng - (k+1)+1 by omega,eT]
def qp1(hl:ab.length=k)(hg:p.o[k]?=some g)(hk:k < ng):(wT p ab k ng).length=ng:=by
 rw [wT,ac,FN (EY hl hg),cJ];omega
def qtp(hl:ab.length=k)(hg:p.o[k]?=some g)(hk:k < ng):wT p ab k ng=wT p (ab++[none]) (k+1) ng:=by
 rw [wT,wT,wA hg,Jw (EY hl hg),Xu hk,an];rfl
def qzL(hl:ab.length=k)(hg:p.o[k]?=some g)(hk:k < ng):oO (wT p ab k ng) (0+k) [.slice (j6 b) g.num.toNat g.num.toNat]=wT p (ab++[some b]) (k+1) ng:=by
 rw [aZ,Dd _ _ _ (by rw [qp1 hl hg hk];simp;omega)];have h1:=FN (EY hl hg);rw [wT,wT,wA hg,Jw (EY hl hg),Xu hk,ej O,aI O,List.drop_append,aK Q8,h1,hl,an,an];simp
def qzM(hl:ab.length=k)(hg:p.o[k]?=some g):nth (wT p (ab++[some b]) (k+1) ng) (0+k)=some (.slice (j6 b) g.num.toNat g.num.toNat):=by
 rw [aZ,uU,wT,wA hg,Jw (EY hl hg),an,aY (by rw [FN (EY hl hg)];omega),FN (EY hl hg),hl,iB];rfl
def qzK(hl:ab.length=k)(hg:p.o[k]?=some g)(hk:k < ng):Nat.ble (0+k+1) (wT p ab k ng).length=true:=by
 rw [gd,qp1 hl hg hk];omega
def SE(hg:p.o[k]?=some g):(tU p)[k]?=some (if g.kind=3 then pE g.num.toNat g.init else []):=by rw [tU,db,hg];rfl
def qzH(hl:ab.length=k)(hg:p.o[k]?=some g)(h3:g.kind=3)(L:Hl):ol ab ((tU p).take k)++(b,cb (wv (pE g.num.toNat g.init)) 22)::L=ol (ab++[some b]) ((tU p).take (k+1))++L:=by
 have hk:=(al.1 hg).1;rw [wA (SE hg),MT (by rw [cY,tU,bI];omega),aw h3,an];rfl
def qtl(hl:ab.length=k)(hg:p.o[k]?=some g):ol ab ((tU p).take k)=ol (ab++[none]) ((tU p).take (k+1)):=by
 have hk:=(al.1 hg).1;rw [wA (SE hg),MT (by rw [cY,tU,bI];omega),aE]
end
def pmA(X:Hl){A:Hl}:(a::(X++(A++L))).Perm (X++(A++a::L)):=by
 rw [<- an,<- an];exact eR.symm
def qyr(n:Nat):wv (List.replicate n 0)=List.replicate n (iO 0):=by simp [wv]
@[irreducible] def wV:Nat:=100000002
def Tg:wV=99999982+20:=by unfold wV;rfl
def Ez(p:ja)(inp:iR)(a:Nat):iR×Int×Int×Nat:=My a (EA p jx (wV+1) (qg p.funcs).toNat inp a)
def qh(p:ja)(inp:iR)(kJ:Int):(iR×Int×Int×Nat)×(Int×Int):=if (kU p).1≠0 then (([],0,0,0),kU p) else if 400000 < inp.length then (([],0,0,0),(3,-2)) else if kJ < 0\/50000000 < kJ then (([],0,0,0),(4,-3)) else (Ez p inp kJ.toNat,(0,0))
def IS(s:World)(o:iR×Int×Int×Nat)(v:Value):Prop:=∃ A n c,v=.agg #[.slice A n c,iJ o.2.1,iO o.2.2.1,iJ (o.2.2.2:Int)]/\lL s A n c o.1
def qrY{st:Int}(h:(kU p).1≠0):qh p inp st=(([],0,0,0),kU p):=by rw [qh,aw h]
def quY{st:Int}(h:¬ (kU p).1≠0)(h2:400000 < inp.length):qh p inp st=(([],0,0,0),(3,-2)):=by rw [qh,am h,aw h2]
theorem qBt{st:Int}(h:¬ (kU p).1≠0)(h2:¬ 400000 < inp.length)(h3:st < 0\/50000000 < st):qh p inp st=(([],0,0,0),(4,-3)):=by grind [qh]
theorem RZ{a:Nat}(h:¬ (kU p).1≠0)(h2:¬ 400000 < inp.length)(h3:¬ ((a:Int) < 0\/50000000 < (a:Int))):qh p inp a=(Ez p inp a,(0,0)):=by grind [qh,Int.toNat_natCast]
def qBq{a mi:Nat}(hm:qg p.funcs=(mi:Int)){st cd:Int}(h:Mt (cX p (jm p jx wV) mi [] (uI p inp a))=(m,st,cd))(hr:cX p (jm p jx wV) mi [] (uI p inp a)≠.out):Ez p inp a=(m.out,st,cd,a - m.left):=by
 rw [Ez,EA,hm,aH];show My a (cX p (jm p jx wV) mi [] (uI p inp a))=_;cases hc:cX p (jm p jx wV) mi [] (uI p inp a) with
 | out=>exact absurd hc hr
 | ok v m1=>rw [hc] at h;simp only [Mt,fw] at h;obtain ⟨rfl,rfl,rfl⟩:=h;rfl
 | fin m1 s1 c1=>rw [hc] at h;simp only [Mt,fw] at h;obtain ⟨rfl,rfl,rfl⟩:=h;rfl
def qyf(p:ja)(inp:iR)(a mi:Nat)(ha:a<=50000000):cX p (jm p jx wV) mi [] (uI p inp a)≠.out:=λh=>by
 have:=(Tv (p:=p) (OP:=jx) (wV+1)).2.1 mi [] (uI p inp a) (by rw [Tg];show 2 * a+1 < _;omega);have e:(jm p jx (wV+1)).c mi [] (uI p inp a)=.out:=h;rw [e] at this;exact this
def sU.pok(h:sU p):vU p:=⟨(CB (p:=p) (by rw [h.2.1])).1,λg hg=>by have:=Bo (h.1.2.2.1 g hg).1;exact ⟨this.1,this.2.1⟩⟩
def sU.sz(h:sU p):∀ f∈p.funcs,f.params.length+f.locals.length<=100:=λf hf=>by
 have:=h.1.2.2.2.1 f hf;have h1:=this.2.1;have h2:=this.2.2.1;omega
def sU.st(h:sU p){f:iT}(hf:f∈p.funcs):(∀ x∈f.body,oD p f x)/\kC f.body<=2000:=by
 have hv:=h.1.2.2.2.1 f hf;refine ⟨λx hx=>?_,hv.2.2.2.2.2⟩;obtain ⟨j,hj⟩:=bC hx;exact ⟨⟨1,(Dv hv.2.2.2.2.1 hj).1⟩,0,λnd hd=>h.2.2 f hf nd (Nx hx hd)⟩
def Ja{g:jM}(h:pL g=0)(h3:g.kind=3):g.init.length<=g.num.toNat/\g.num.toNat<=40000:=by
 unfold pL at h;split at h
 . cases h
 split at h
 . cases h
 split at h
 . cases h
 split at h
 . cases h
 rename_i h4;split at h
 . cases h
 rename_i h5;omega
def qFp{a:Nat}{c:MC}(h:sU p)(hu:si p)(hI:lL s Ai ni qi inp)(ha:a<=50000000)(hng:c.ng=p.o.length)(hnf:c.nf=0)(AY:c.ab.length=c.ng)(qq:∀ (k:Nat) (g:jM),p.o[k]?=some g->g.kind=3->∃ b,c.ab[k]?=some (some b)):MG p c a (uI p inp a) (.slice Ai ni qi) SN (ol c.ab (tU p)) s:=by
  refine ⟨⟨Ai,ni,qi,Z,hI⟩,⟨[],(aE _).symm,.nil⟩,λx hx=>?_,λx hx=>(by cases hx),λl hl x hx=>?_,hng,?_,hnf.symm,AY,?_,λk g hg h3=>⟨qq k g hg h3,?_⟩,aB _,aB _,aC _,ha⟩
  . rw [show x=0 from (dQ.1 hx).2];exact ⟨by decide,by decide⟩
  . obtain ⟨g,hg,rfl⟩:=bh.1 (show l∈tU p from hl)
    split at hx
    . exact W7 (hu.1 g hg).2 x hx
    . cases hx
  . rw [hng];exact cJ ..
  . rw [hng];exact bI ..
  . have h0:=Ja (h.1.2.2.1 g (ay hg)).1 h3
    show ((tU p).getD k []).length=_;rw [aM,SE hg,eh,aw h3,qqG h0.1]
end
def qpv{TT:kG}{fr:Fr}{ops:Array Oper}{g:Option (Nat×Bool)}{jr i t:Nat}{iK:Array Bool}(hi:ops[i]?=some ⟨some d,.box t x,ty,iS,af,g⟩)(hg:rz ops fr g)(hx:lk fr x=some (.agg zs.toArray))(hd:Nat.blt d n=true)
  (k:∀ β s',Le D s s'->JA P TT D n ops Q K s0 jr (iK.setIfInBounds i true) ((d,jc β)::fr) ((β,cb zs t)::L) s'):JB P TT D n ops Q K s0 jr iK i fr L s:=λhT a hf ho hl hK=>
 Ca hi hg (Ta hx (by simp [mZ]) ho) (pU ho (cb zs t)).2.2 (λx _ h=>aq _ h) hd (k _ _ (pU ho (cb zs t)).2.2) hT a hf ho hl hK
section
attribute [local irreducible] JC JO JA JB lZ mF mM AC fill iH QE Ev mq
variable(L:Hl)(s:World){b:Nat×Obj}
def qF6(lQ:((kW p).map (·.1)).Nodup){j:Nat}{y x:iT}(hy:p.funcs[j]?=some y)(hx:p.funcs[k]?=some x)(e:y.name=x.name):j=k:=by
 have q1:=Dk lQ (Gf hy);have q2:=Dk lQ (Gf hx);simp only [e] at q1 q2;rw [q1] at q2;simp at q2;omega
def Yz(lQ:((kW p).map (·.1)).Nodup){x:iT}{mi mj:Int}(hx:p.funcs[k]?=some x)(h:∀ (j:Nat) (y:iT),j < k->p.funcs[j]?=some y->y.name=jy->mi=(j:Int))(h1:x.name=jy->mj=(k:Int))(h2:¬ x.name=jy->mj=mi):∀ (j:Nat) (y:iT),j < k+1->p.funcs[j]?=some y->y.name=jy->mj=(j:Int):=λj y hj hy hn=>by
  by_cases hm:x.name=jy
  . rw [h1 hm,qF6 lQ hy hx (hn.trans hm.symm)]
  . rcases Nat.lt_or_eq_of_le (Nat.lt_succ_iff.1 hj) with hj|rfl
    . rw [h2 hm];exact h j y hj hy hn
    . rw [hx] at hy;injection hy with hy;subst hy;exact absurd hn hm
theorem qpN{x:jM}(qq:ab.length=k)(hx:p.o[k]?=some x)(h:∀ (j:Nat) (y:jM),j < k->p.o[j]?=some y->y.kind=3->∃ b,ab[j]?=some (some b))(ho:x.kind=3->∃ b,o=some b):∀ (j:Nat) (y:jM),j < k+1->p.o[j]?=some y->y.kind=3->∃ b,(ab++[o])[j]?=some (some b):=by grind
def Qo{Zq9:Hl}{o c d:Nat×Obj}{Mo L:Hl}(h:Zq9.Perm (o::(Mo++K))):(Zq9++(a::b::c::d::L)).Perm (o::a::b::c::d::(Mo++(K++L))):=by
 have h1:=aO (Mo++K) [a,b,c,d] L;rw [an Mo K L] at h1;exact (h.append_right _).trans (h1.cons o)
theorem XB{x:Nat×Obj}{R':Hl}(hx:x∈(a::b::R).take 2):x∈a::b::R':=by grind
def qAU(p:ja)(inp:iR)(a:Nat)(c:MC){iv:Value}:xL c a 0 (uI p inp a) iv SN 0 0 SN=(c.bm,cb [.slice c.Af c.nF c.cF,.slice (some ⟨c.bg,0,none⟩) c.ng c.ng,.slice (some ⟨c.ba,0,none⟩) c.ng c.ng,SN,iO 0,iJ 0,iv,iJ (a:Int),SN,iJ 0,iO 0,iJ 0] 83):=by
 rw [xL];show (c.bm,cb [_,_,_,_,_,_,_,_,_,_,_,Value.int .i64 ((a:Int) - (a:Int))] 83)=_;rw [Int.sub_self];rfl
def ZX{c i:Int}:AV9 D 30 [iJ c,iJ i] L s (.agg #[iJ c,iJ i]):=by
 refine jv (fn:=f30) jl func30 V Z ntmps30 Z (rs:=[.cell 4 24]) Z [(0,_),(1,_)] Z<|Sr<|jp Z [_,_] Y2 ?_;exact E6
def QM{p:Prop} (h:p:=by
  first
    | exact ⟨[],rfl,λs2 kb hp=>⟨.agg #[.slice none 0 0,iJ 0,iO 0,iJ 0],by rw [hE];rfl,none,0,0,by rw [hE];rfl,by rw [hE];exact lL.nil _ _ _ O⟩⟩
    | (have hE:qh p inp (a:Int)=((m9.out,st9,cd9,a - m9.left),(0,0)):=by rw [hE0,qBq yS he9 (qyf p inp a mi0 O)]
       have mY:(a:Int) - (m9.left:Int)=((a - m9.left:Nat):Int):=by omega
       exact ⟨Mo9++K9,(an ..).symm,λs2 kb hp=>⟨_,by rw [hE];rfl,Ao,_,co,by rw [hE,mY],by rw [hE];exact Own.bts hO9 λb zs t hm=>hp b zs t (aN _ hm)⟩⟩)):p:=h
def It{p:Prop} (h:p:=by
 refine Wt 2 [_,_,_,_] Y9<|Wt 1 [_,_] Y9<|G4 ?_;exact rR [_,_,_,_] _ (.agg (us:=[_,_,_,_]) 2 Z Z Z Z Z (.agg (us:=[_,_]) 1 Z Z Z Z Z (.nil))) Z Lc λ_ iL=>QM):p:=h
def Hp{p:Prop} (h:p:=by
 intro βn BE AJ pf;refine iM 18 V<|wD Z Tt (sz:=2) [_,_,_,_,_,_,_,_,_] Mf Z Z Z Z Z Z Z hO (Row.of_cells Pz Z Z) ⟨by simp [CU];omega,by omega⟩ Z (λ_ x hx _=>XB hx) ?_;intro vq Mq s27 h27 oq;obtain ⟨Avq,oL,rfl,_,_⟩:=Own.slice oq;simp only [iU,iV];refine H2 ?_;refine iM 21 V<|Wu Z Tt 2 [_,_,_,_,_,_,_,_,_,_,_,_] Y9 (sM (kX (pG)))<|jq V<|Zb<|Zt<|Zr<|ki Y3 (jB O O)<|G2 ?_;refine jd ⟨(k+1,mj,.slice Avq (k+1) oL,Mq),[_,_],kp,Z,⟨Lc,⟨by simp only;omega,⟨css++[[iJ ((x.params.length+x.locals.length:Nat):Int),.slice A' n' c']],by simp only [bY,bt,bX,aE];exact oq,by simp only;rw [wA hx];exact Jr (lG.mono λ_ _ k=>⟨k.1,k.2.le Lc⟩) ⟨Z,d,A',n',c',Z,hV.le Lc⟩⟩,Yz td hx hmi hmj.1 hmj.2⟩⟩,Oz⟩):p:=h
def qBn(hG:GP s)(d:Nat)(p:ja)(Ag Af:OAdr9)(ng cg nf cf:Nat)(jQ:jn s Ag ng cg p.o)(j8:ju d s Af nf cf p.funcs)(Ai:OAdr9)(ni qi:Nat)(inp:iR)(hI:lL s Ai ni qi inp)(kJ:Int):AN9 D 11 [.agg #[.slice Ag ng cg,.slice Af nf cf],.slice Ai ni qi,iJ kJ] L s λv M' s'=>∀ s2,Le D s' s2->mz M' s2->∃ w,v=.tuple #[w,.agg #[iJ (qh p inp kJ).2.1,iJ (qh p inp kJ).2.2]]/\IS s2 (qh p inp kJ).1 w:=by
 have lX:=jQ.1;have oB:=j8.1;have xW:=hI.1;have hU:si p:=⟨jQ.u,j8.u⟩;refine jv (fn:=f11) jl func11 V Z ntmps11 Z (rs:=[.cell 6 48,.cell 7 24]) Z [(0,_),(1,_),(2,_)] Z<|Sr<|kH Y2 λβ1 s1 h1=>jp Z [_,_,_,_] Y2 λβ2 s2 h2=>jp Z [_,_] Y2 λβ3 s3 h3=>Nt<|Zs<|Sr<|iI (jh 2 [_,_] Y5) Z<|Je Y3 (FK _ _ Pz d p Ag ng cg nf cf Pz Pz) λs4 h4=>jp Z [_,_] Y2 λβ5 s5 h5=>Wt 0 [_,_] Y9<|Nt<|Sr<|iI (jh 0 [_,_] Y5) Z<|iI (jC [] [_,_] Y3 Z Z Z) Z<|iI (sL Z Z (rq)) Z<|G2 ?_;refine lD Z ?_ ?_<;>intro c6;.have hb0:(kU p).1≠0:=λh=>c6 Q24;have hE:qh p inp kJ=_:=qrY hb0;refine Zs<|pm jF 4 Z [2,1] Q3 λs7 h7=>za 0 Z (jC [] [_,_,_,_] Y3 Z Z Z) Z<|za 1 Z (jh 0 [_,_] Y5) Z<|iM 2 V<|Wu Z Tt 2 [_,_,_,_] Y9 (sM (mT (lq (mT (jT)))))<|iM 3 V<|Wu Z Tt 1 [_,_] Y9 (sM (mT (lq (mT (jT)))))<|jq V<|G3 ?_;exact rR [_,_,_,_] _ (.agg (us:=[_,_,_,_]) 2 Z Z Z Z Z (.agg (us:=[_,_]) 1 Z Z Z Z Z (.nil))) Z Lc λ_ iL=>QM
 have g4:=c6;have vg:¬ (kU p).1≠0:=λh=>h g4.1;obtain ⟨px,yW⟩:=sU.of hU g4.1;have hV:=px.1;have yN:=hV.1;have AQ:=hV.2.1;have rD:=hV.2.2.2.1;have td:=(CB (p:=p) (by rw [px.2.1])).1;refine sA ?_ ?_<;>intro c7;.have hE:qh p inp kJ=_:=quY vg O;refine Sr<|iI (jC [] [_,_,_,_] Y3 Z Z Z) Z<|Je Y3 (ZX _ _) λs8 h8=>?_;exact It
 have g25:¬ 400000 < inp.length:=by omega
 refine G3 ?_;refine rm 33 (kJ < 0\/50000000 < kJ) ?_ ?_
 .refine G4 ?_;refine kT (t:=30) Z ?_ ?_<;>intro c9;.exact WP
  refine G6 ?_;refine jd (kE.mk (Lr D) Sb Z (bJ.2 O))
 intro s8 h8;refine mE Z ?_ ?_<;>intro my;.have hE:qh p inp kJ=_:=qBt vg g25 my;refine Sr<|iI (jC [] [_,_,_,_] Y3 Z Z Z) Z<|Je Y3 (ZX _ _) λkv jP=>?_;exact It
 obtain ⟨a,rfl⟩:=aX (show 0<=kJ by omega);have hE0:=RZ (p:=p) (inp:=inp) (a:=a) vg g25 my;refine G2 ?_;refine JU (γ:=Nat×Nat×Nat) (λg=>[(9,.pointer (some ⟨g.1,0,none⟩))]) (λg=>[(g.1,cb [SN,.slice (some ⟨g.2.1,0,none⟩) ng ng,.slice (some ⟨g.2.2,0,none⟩) ng ng,SN,iO 0,iJ 0,.slice Ai ni qi,iJ (a:Int),SN,iJ 0,iO 0,iJ 0] 83),(g.2.1,cb (wv (List.replicate ng 0)) 22),(g.2.2,cb (List.replicate ng SN) 51)]) (λg tw=>True) (λ_ _ _ h hl=>h) ?_ ?_
 .refine ma jF 13 Z _ (λ_ h=>h) λkc jL=>H3 ?_;refine za 3 Z (Wd 3 Y5) Z<|H2 ?_;refine za 7 Z (Wd 3 Y5) Z<|H1 ?_;refine kD 5 9 V ?_ ?_;.refine mK Z Tt Y5 Q13 O Z ?_;intro βg kY kN;rw [<- qyr];refine iM 9 V<|mK Z Tt Y5 (by simp [Fi];omega) O Z λβa li kz=>za 10 Z (jC [(_,_),(_,_),(_,_),(_,_)] [_,_,_,_,_,_,_,_,_,_,_,_] Y3 Z Z Z) Z<|iM 11 V<|qpv Z Tt Z Z λβ15 lJ lr=>H1 ?_;refine jq V ?_;refine jd (jV.mk (β15,βg,βa) [] Lc (.cons Z sk) (List.Perm.trans (jJ _ 1) (List.Perm.trans (jJ _ 2) (jJ _ 2))) Tt)
  refine mK Z Tt Y5 (by simp [Fi];omega) O Z λβa kY kN=>iM 5 V<|mK Z Tt Y5 Q13 O Z ?_;intro βg li kz;rw [<- qyr];refine za 10 Z (jC [(_,_),(_,_),(_,_),(_,_)] [_,_,_,_,_,_,_,_,_,_,_,_] Y3 Z Z Z) Z<|iM 11 V<|qpv Z Tt Z Z λβ15 lJ lr=>H1 ?_;refine jq V ?_;refine jd (jV.mk (β15,βg,βa) [] Lc (.cons Z sk) (List.Perm.trans (jJ _ 2) (List.Perm.trans (jJ _ 2) (jJ _ 2))) Tt)
 intro g kv jP I11;simp only [iU,iV];obtain ⟨bm,bg,ba⟩:=g;dsimp only;refine G4 ?_;refine iI (Wd 6 Y5) Z<|G5 ?_;refine lw (γ:=Nat×List (Option Nat)) (λg=>[(3,_),(6,_),(7,_),(9,_),(49,_),(50,_),(51,iJ (g.1:Int))]) (λg=>_::_::(ba,cb (wT p g.2 g.1 ng) 51)::_::_::_::_::(ol g.2 ((tU p).take g.1)++L)) (λg tw=>Le D kv tw/\(g.1<=ng/\g.2.length=g.1/\∀ (j:Nat) (y:jM),j < g.1->p.o[j]?=some y->y.kind=3->∃ b,g.2[j]?=some (some b))) (λg=>ng - g.1) (λ_ _ _ h hl=>⟨h.1.trans hl,h.2⟩) (0,[]) (.c6 Z Z Z Z Z Z (.cons Z (.nil _))) Z ⟨Le.refl _,⟨aB _,Z,λj y hj=>absurd hj (ia _)⟩⟩ ?_;intro g qW I16;obtain ⟨k,ab⟩:=g;obtain ⟨kh,qq,hak⟩:=I16.2;simp only at kh qq hak;dsimp only;refine J6 ?_ ?_<;>intro yE
 .have hk:k < ng:=by omega
  obtain ⟨b,off,x,Aq,nq,cq,rfl,hx,hcx,hix,oh,kK⟩:=jn.at_ Pz hk;have hn9:=hix.1;subst hn9;refine G7 ?_;refine iI (jR Y6 hk) Z<|iI (kq Y3 Pz Z) Z<|jp Z [_,_,_,_] Y2 λβ18 yl vm=>me Y2<|Wt 0 [_,_,_,_] Y9<|J9 ?_ ?_<;>intro zz;.have g3:x.kind=3:=zz;have g4:=Ja (px.1.2.2.1 x (ay hx)).1 g3;have g42:=g4.2;refine Zs<|pm jF 10 Z [3] Q3 λvN rQ=>H6 ?_;refine za 6 Z (jD (Wd 0 Y5) (bj (Value.int .u32) (Int.toNat_of_nonneg oh.1).symm)) Z<|iM 7 V<|mK Z Tt Y5 Q13 O Z λβx xJ wt=>za 8 Z (ly Y6 hk) Z<|iM 9 V<|ye Z Tt 4 _ Y5 (qzK qq hx hk) Z (qzL qq hx hk) Z (sM (lq (kP (vG (jT)))))<|jq V<|Zt<|pm jF 10 Z [0] Q3 λzt yJ=>H5 ?_;refine za 5 Z (ly Y6 hk) Z<|za 6 Z (rj 3 Y4 (qzM qq hx)) Z<|H2 ?_;refine iM 9 V<|qyU Z Tt 0 (L':=(βx,cb (wv (pE x.num.toNat x.init)) 22)::_) Z Z Z Z Z Z Z (hix.row.le Lc) g4.1 (by simp) (by rw [qxR g4.1];rfl) Z (λx hx _=>aq _ hx)<|jq V<|Zb<|Zt<|EP (pmA [_,_,_,_,_,_,_,_]) ?_;simp only [iU,iV];rw [qzH qq hx g3];refine Zr<|ki Y3 (jB O O)<|G2 ?_;refine jd ⟨(k+1,ab++[some βx]),[_],kp,Z,⟨Lc,⟨by simp only;omega,by simp [qq],qpN qq hx hak (λh=>by first|exact ⟨_,Z⟩|exact absurd h g3)⟩⟩,Oz⟩
  have g3:¬ x.kind=3:=zz;refine G3 ?_;rw [qtp qq hx hk,qtl qq hx];refine Zr<|ki Y3 (jB O O)<|G2 ?_;refine jd ⟨(k+1,ab++[none]),[_],kp,Z,⟨Lc,⟨by simp only;omega,by simp [qq],qpN qq hx hak (λh=>by first|exact ⟨_,Z⟩|exact absurd h g3)⟩⟩,Oz⟩
 obtain rfl:ng=k:=by omega
 rw [show (tU p).take ng=tU p from aI (by rw [tU,bI];omega)];refine qP ?_;refine iI (Wd 6 Y5) Z<|G5 ?_;rw [<- aD (ol ab (tU p)++L)];refine lw (γ:=Nat×Int×Value×Hl) (λg=>[(3,_),(6,_),(7,_),(9,_),(12,iJ g.2.1),(80,_),(81,_),(82,iJ (g.1:Int))]) (λg=>(bm,cb [g.2.2.1,.slice (j6 bg) ng ng,.slice (j6 ba) ng ng,SN,iO 0,iJ 0,.slice Ai ni qi,iJ (a:Int),SN,iJ 0,iO 0,iJ 0] 83)::_::_::_::_::_::_::(g.2.2.2++(ol ab (tU p)++L))) (λg tw=>Le D qW tw/\(g.1<=nf/\(∃ css,Own 91 2 g.2.2.2 g.2.2.1 g.1 (List.flatten css)/\kI (λf cs=>cs.length=2/\CW p tw f cs) (p.funcs.take g.1) css)/\∀ (j:Nat) (y:iT),j < g.1->p.funcs[j]?=some y->y.name=jy->g.2.1=(j:Int))) (λg=>nf - g.1) (λ_ _ _ h hl=>⟨h.1.trans hl,⟨h.2.1,(by obtain ⟨css,q1,q2⟩:=h.2.2.1;exact ⟨css,q1,q2.mono λ_ _ k=>⟨k.1,k.2.le hl⟩⟩),h.2.2.2⟩⟩) (0,0,SN,[]) (.c6 Z Z Z Z Z Z (.c2 Z Z (.nil _))) Z ⟨Le.refl _,⟨aB _,⟨[],Own.nil,.nil⟩,λj y hj=>absurd hj (ia _)⟩⟩ ?_;intro g yl I18;obtain ⟨k,mi,vf,Mf⟩:=g;obtain ⟨kh,⟨css,hO,lG⟩,hmi⟩:=I18.2;simp only at kh hO lG hmi;dsimp only;obtain ⟨Af2,cf2,rfl,_,_⟩:=Own.slice hO;refine J6 ?_ ?_<;>intro zz
 .have hk:k < nf:=by omega
  obtain ⟨b,off,x,B1,m1,d1,B2,m2,d2,B3,m3,d3,rfl,hx,hcx,od,oc,rE,kK⟩:=ju.at_ Pz hk;have xV:=rD x (ay hx);have q83:=px.sz x (ay hx);have qp83:=od.1;have ql83:=oc.1;refine G7 ?_;refine iI (jR Y6 hk) Z<|iI (kq Y3 Pz Z) Z<|jp Z [_,_,_,_] Y2 λβ20 vN rQ=>me Y2<|Wt 0 [_,_,_,_] Y9<|G2 ?_;refine Di (γ:=Int) (λmj=>[(12,iJ mj)]) [_,_,_,_,_,_,_,_] Z (λmj=>Mf++(ol ab (tU p)++L)) (λmj tw=>(x.name=jy->mj=(k:Int))/\(¬ x.name=jy->mj=mi)) (λ_ _ _ h hl=>h) ?_ ?_
  .refine G4 ?_;refine uX Y3<|J2 ?_ ?_<;>intro c22;.have gmn:x.name=jy:=c22;refine G4 ?_;refine jd (lR.mk (k:Int) [] (Lr D) kp So Pr ⟨λh=>(by first|rfl|exact absurd h gmn),λh=>(by first|rfl|exact absurd gmn h)⟩)
   have gmn:¬ x.name=jy:=c22;refine Zk ?_;refine jd (lR.mk mi [] (Lr D) kp So Pr ⟨λh=>(by first|rfl|exact absurd h gmn),λh=>(by first|rfl|exact absurd gmn h)⟩)
  intro mj xJ wt I21;simp only [iU,iV];have hmj:=I21;refine Sr<|iI (jh 7 [_,_] Y5) Z<|iI (jh 0 [_,_,_,_] Y5) Z<|iI (jC [(_,_),(_,_)] [_,_,_,_,_,_] Y3 Z Z Z) Z<|jp Z [_,_,_,_,_,_] Y2 λβ23 zt yJ=>Wt 0 [_,_,_,_,_,_] Y9<|Nt<|mh jF 22 Z 2 λAm yK=>Pp ?_;refine za 11 Z (jD (nD Z Z (jB O O)) (bj (Value.int .i64) (show (m1:Int)+(m2:Int)=((x.params.length+x.locals.length:Nat):Int) by have:=od.1;have:=oc.1;omega))) Z<|za 12 Z (jh 0 [_,_,_,_,_,_] Y5) Z<|H1 ?_;refine H1 ?_;refine kD 4 15 V ?_ ?_;.refine j5 Z Tt (Wd 2 Y5) Z<|iM 15 V<|Jb Z Tt Z Z Z (UC d _ _ d p Ag _ ng cg nf cf Pz Pz x B1 B2 B3 m1 d1 m2 d2 m3 d3 Pz Pz (px.sz x (ay hx)) px.pok B3 m3 d3 x.body Pz (px.st (ay hx)).1 (px.st (ay hx)).2) ?_;rintro _ _ s25 h25 ⟨rfl,A',n',c',rfl,hV⟩;refine ⟨λ_ _ h=>h,?_⟩;refine za 16 Z (jC [(_,_),(_,_)] [_,_] Y3 Z Z Z) Z<|iM 17 V<|pV Z Tt [(_,_)] [_,_] Y9 ?_;exact Hp
  refine Jb Z Tt Z Z Z (UC d _ _ d p Ag _ ng cg nf cf Pz Pz x B1 B2 B3 m1 d1 m2 d2 m3 d3 Pz Pz (px.sz x (ay hx)) px.pok B3 m3 d3 x.body Pz (px.st (ay hx)).1 (px.st (ay hx)).2) ?_;rintro _ _ s25 h25 ⟨rfl,A',n',c',rfl,hV⟩;refine ⟨λ_ _ h=>h,?_⟩;refine za 16 Z (jC [(_,_),(_,_)] [_,_] Y3 Z Z Z) Z ?_;refine kD 4 17 V ?_ ?_;.refine j5 Z Tt (Wd 2 Y5) Z<|iM 17 V<|pV Z Tt [(_,_)] [_,_] Y9 ?_;exact Hp
  refine pV Z Tt [(_,_)] [_,_] Y9 λβn BE AJ pf=>iM 4 V<|j5 Z Tt (Wd 2 Y5) Z<|iM 18 V<|wD Z Tt (sz:=2) [_,_,_,_,_,_,_,_,_] Mf Z Z Z Z Z Z Z hO (Row.of_cells Pz Z Z) ⟨by simp [CU];omega,by omega⟩ Z (λ_ x hx _=>XB hx) ?_;intro vq Mq s27 h27 oq;obtain ⟨Avq,oL,rfl,_,_⟩:=Own.slice oq;simp only [iU,iV];refine H2 ?_;refine iM 21 V<|Wu Z Tt 2 [_,_,_,_,_,_,_,_,_,_,_,_] Y9 (sM (kX (pG)))<|jq V<|Zb<|Zt<|Zr<|ki Y3 (jB O O)<|G2 ?_;refine jd ⟨(k+1,mj,.slice Avq (k+1) oL,Mq),[_,_],kp,Z,⟨Lc,⟨by simp only;omega,⟨css++[[iJ ((x.params.length+x.locals.length:Nat):Int),.slice A' n' c']],by simp only [bY,bt,bX,aE];exact oq,by simp only;rw [wA hx];exact Jr (lG.mono λ_ _ k=>⟨k.1,k.2.le Lc⟩) ⟨Z,d,A',n',c',Z,hV.le Lc⟩⟩,Yz td hx hmi hmj.1 hmj.2⟩⟩,Oz⟩
 obtain rfl:nf=k:=by omega
 rw [aI O] at lG;obtain ⟨mi0,xm,yS,hxm,uo,hpm⟩:=qoW px.2.1;obtain rfl:=hmi mi0 xm (by rw [oB];exact (al.1 hxm).1) hxm uo;refine G6 ?_;refine tO [_,_,_,_,_,_,_] Mf ?_;intro vN rQ hpub20;simp only [iU,iV];have hFV:Sl 2 (CW p) vN Af2 nf cf2 p.funcs:=Own.rows hO hpub20 (lG.mono λ_ _ k=>⟨k.1,k.2.le rQ⟩) oB;refine tO [_,_] [_] ?_;intro xJ wt hpub21;simp only [iU,iV];have hca0:=hpub21 _ _ _ (aV.2 rfl);rw [wT,iB,List.replicate_zero,aE,aI O] at hca0;have uj:iH xJ ba 0 (vH ab p.o):=hca0;have hFV:=Sl.le (λ_ _ h=>CW.le wt h) hFV wt;refine EP (.cons _ (.cons _ (aO [_,_,_,_] (ol ab (tU p)) L))) ?_;simp only [iU,iV];rw [<- qAU p inp a ⟨bm,bg,0,ba,Af2,nf,cf2,ng,0,ab⟩,show List.replicate ng (0:Int)=(uI p inp a).ah from by rw [lX];rfl];have hCT:CT p (⟨bm,bg,0,ba,Af2,nf,cf2,ng,0,ab⟩:MC) xJ:=⟨hFV,uj,px.sz,λg hg=>(hU.1 g hg).1⟩;have hMG:MG p (⟨bm,bg,0,ba,Af2,nf,cf2,ng,0,ab⟩:MC) a (uI p inp a) (.slice Ai ni qi) SN (ol ab (tU p)) xJ:=qFp px hU Pz O lX rfl qq (λj y hy h3=>hak j y (by rw [lX];exact (al.1 hy).1) hy h3);refine G3 ?_;refine Jc Y3 (qq7 p wV (qxx p wV).2.2 (⟨bm,bg,0,ba,Af2,nf,cf2,ng,0,ab⟩:MC) a mi0 xm (uI p inp a) hCT hxm hpm hMG (qyf p inp a mi0 O)) ?_;rintro _ _ BC AI ⟨rfl,m9,st9,cd9,Z9,rfl,hF9,he9⟩;refine G3 ?_;obtain ⟨u0,u1,u2,u3,u4,u5,u6,u7,ov9,Mo9,K9,hp9,hO9,hlo9,hll9⟩:=hF9;obtain ⟨Ao,co,rfl,_,_⟩:=Own.slice hO9;refine EP (Qo hp9)<|G4 ?_;refine iI (jh 0 [_,_,_,_] Y5) Z<|iI (jC [] [_,_] Y3 Z Z Z) Z<|Wt 3 [_,_,_,_] Y9<|Wt 2 [_,_] Y9<|G3 ?_;exact rR [_,_,_,_,_] _ (.agg (us:=[_,_,_,_]) 3 Z Z Z Z Z (.agg (us:=[_,_]) 2 Z Z Z Z Z (.nil))) Z Lc λ_ iL=>QM
def NH(hG:GP s)(d:Nat)(p:ja){cg cf:Nat}(jQ:jn s Ag ng cg p.o)(j8:ju d s Af nf cf p.funcs)(inp:iR)(hI:lL s Ai ni qi inp)(kJ:Int):Ap9 D 11 [.agg #[.slice Ag ng cg,.slice Af nf cf],.slice Ai ni qi,iJ kJ] L s λv L' s'=>L=L'/\∃ w,v=.tuple #[w,.agg #[iJ (qh p inp kJ).2.1,iJ (qh p inp kJ).2.2]]/\IS s' (qh p inp kJ).1 w:=AC.pubW (qBn L s hG d p Ag Af ng cg nf cf jQ j8 Ai ni qi inp hI kJ)
end
section
variable{a b:lj}{k v:Int}{x:Ins}
inductive mb:lj->Nat->lj->Prop
 | nil (s:lj):mb s 0 s
 | cons {s s':lj} {k:Nat} (h:s.stop=0) (r:mb (lY ji s) k s'):mb s (k+1) s'
def mb.trans{c:lj}{j k:Nat}(h:mb a j b)(r:mb b k c):mb a (j+k) c:=by
 induction h with
 | nil s=>rw [aZ];exact r
 | cons h0 _ ih=>rw [eX];exact .cons h0 (ih r)
def mb.run{k:Nat}(h:mb a k b)(n:Nat):oK ji a (k+n)=((oK ji b n).1,(oK ji b n).2+k):=by
 induction h with
 | nil s=>rw [aZ];rfl
 | cons h0 _ ih=>rw [eX,oK,aw h0,ih];rfl
def mb.one(h:a.stop=0)(e:lY ji a=b):mb a 1 b:=.cons h (e▸.nil _)
abbrev ms(c:LInt9)(a b C d p:Int)(i o:iR):lj:=⟨c,a,b,C,d,p,i,o,0,0⟩
theorem Cy{k:Nat}(h:c[k]?=some v):k < c.length/\c.getD k 0=v:=by grind
def Ew{a b d:Int}{o:iR}{p:Nat}(hk:c[p]?=some k)(hx:wK ji.U k=some x)(ho:x.I=false):lY ji (ms c a b C d p i o)=mL (ms c a b C d ((p+1:Nat):Int) i o) 0 x.ad:=by
 obtain ⟨h1,h2⟩:=Cy hk;have h3:¬ (c.length:Int)<=(p:Int):=by omega
 simp only [lY,h3,cm,aH,h2,hx,ho,dr];rfl
def BB{a b d:Int}{o:iR}{p:Nat}{n:Int}(hk:c[p]?=some k)(hn:c[p+1]?=some n)(hx:wK ji.U k=some x)(ho:x.I=true):lY ji (ms c a b C d p i o)=mL (ms c a b C d ((p+2:Nat):Int) i o) n x.ad:=by
 obtain ⟨h1,h2⟩:=Cy hk;obtain ⟨h4,h5⟩:=Cy hn;have h3:¬ (c.length:Int)<=(p:Int):=by omega
 have h6:¬ (p:Int)+1=(c.length:Int):=by omega
 have h7:((p:Int)+1).toNat=p+1:=by omega
 simp only [lY,h3,cm,aH,h2,hx,ho,bS,h6,h7,h5];rfl
section
variable{a b d n:Int}{o:iR}{p:Nat}
def qx0(h:c[p]?=some 1):lY ji (ms c a b C d p i o)=⟨c,a,b,C,d,((p+1:Nat):Int),i,o,1,a⟩:=by
 rw [Ew (x:=_) h rfl rfl];simp [mL,kn,lh,sq]
def TQ{p:Prop} (h:p:=by
 rw [BB (x:=_) h h1 rfl rfl];simp [mL,kn,lh,mS,jK]):p:=h
def Kv(h:c[p]?=some 2)(h1:c[p+1]?=some n):lY ji (ms c a b C d p i o)=ms c n b C d ((p+2:Nat):Int) i o:=by
 exact TQ
def qGk(h:c[p]?=some 3)(h1:c[p+1]?=some (q:Int))(hv:c[q]?=some v):lY ji (ms c a b C d p i o)=ms c v b C d ((p+2:Nat):Int) i o:=by
 obtain ⟨h3,h4⟩:=Cy hv;have h5:¬ (c.length:Int)<=(q:Int):=by omega
 rw [BB (x:=_) h h1 rfl rfl];simp [mL,kn,lh,mS,h5,<- h4]
def qAH(h:c[p]?=some 4)(h1:c[p+1]?=some (q:Int))(hq:q < c.length):lY ji (ms c a b C d p i o)=ms (c.set q a) a b C d ((p+2:Nat):Int) i o:=by
 have h5:¬ (c.length:Int)<=(q:Int):=by omega
 rw [BB (x:=_) h h1 rfl rfl];simp [mL,kn,lh,sq,h5]
def Kg(h:c[p]?=some 9)(hq:q < c.length)(hl:c.length=65536):lY ji (ms c a b (q:Int) d p i o)=ms (c.set q a) a b ((q+1:Nat):Int) d ((p+1:Nat):Int) i o:=by
 have h5:¬ (c.length:Int)<=(q:Int):=by omega
 have h6:lK ((q:Int)+1)=((q+1:Nat):Int):=by unfold lK;omega
 rw [Ew (x:=_) h rfl rfl];simp [mL,kn,lh,sq,mS,jK,h5,h6]
def Tc(h:c[p]?=some 26)(h1:c[p+1]?=some n):lY ji (ms c a b C d p i o)=ms c a b C d n i o:=by
 exact TQ
def V6{p:Prop} (h:p:=by
 obtain ⟨h3,h4⟩:=Cy hv;have h5:¬ (c.length:Int)<=(q:Int):=by omega
 rw [BB (x:=_) h h1 rfl rfl];simp [mL,kn,lh,sq,mS,jK,hw,h5,<- h4]):p:=h
def qAE(h:c[p]?=some 5)(h1:c[p+1]?=some n)(hw:lK (C - n)=(q:Int))(hv:c[q]?=some v):lY ji (ms c a b C d p i o)=ms c v q C d ((p+2:Nat):Int) i o:=by
 exact V6
def que(h:c[p]?=some 6)(h1:c[p+1]?=some n)(hw:lK (C - n)=(q:Int))(hq:q < c.length):lY ji (ms c a b C d p i o)=ms (c.set q a) a q C d ((p+2:Nat):Int) i o:=by
 have h5:¬ (c.length:Int)<=(q:Int):=by omega
 rw [BB (x:=_) h h1 rfl rfl];simp [mL,kn,lh,sq,mS,jK,hw,h5]
def qAD(h:c[p]?=some 7)(h1:c[p+1]?=some n)(hw:lK (a+n)=(q:Int))(hv:c[q]?=some v):lY ji (ms c a b C d p i o)=ms c v q C d ((p+2:Nat):Int) i o:=by
 exact V6
def qGj(h:c[p]?=some 10)(h1:c[p+1]?=some n):lY ji (ms c a b C d p i o)=ms c a b (lK (C - n)) d ((p+2:Nat):Int) i o:=by
 rw [BB (x:=_) h h1 rfl rfl];simp [mL,kn,lh,sq,mS,jK]
def qAF(h:c[p]?=some 8)(h1:c[p+1]?=some n)(hv:c[r]?=some v)(hr:r < 65536)(hw:lK (v+n)=(q:Int))(hq:q < c.length):lY ji (ms c a b ((r+1:Nat):Int) d p i o)=ms (c.set q a) a q r d ((p+2:Nat):Int) i o:=by
 obtain ⟨h3,h4⟩:=Cy hv;have h5:¬ (c.length:Int)<=(q:Int):=by omega
 have h6:¬ (c.length:Int)<=(r:Int):=by omega
 have h7:lK (r:Int)=(r:Int):=by unfold lK;omega
 rw [BB (x:=_) h h1 rfl rfl];simp [mL,kn,lh,sq,mS,jK,h6,h7,hv,hw,h5]
def Xx(h:c[p]?=some k)(hx:wK ji.U k=some x)(ho:x.I=false){u w:Tm}(ha:x.ad=[⟨2,2,⟨1,2⟩,⟨0,1⟩⟩,⟨13,1,⟨1,2⟩,⟨0,0⟩⟩,⟨j,0,u,w⟩])(hj:(j<=3\/6<=j)/\j<=12)(hv:c[r]?=some v)(hr:r < 65536)(hA:jK j (lh (ms c a v r d ((p+1:Nat):Int) i o) 0 u) (lh (ms c a v r d ((p+1:Nat):Int) i o) 0 w)=A):lY ji (ms c a b ((r+1:Nat):Int) d p i o)=ms c A v r d ((p+1:Nat):Int) i o:=by
 obtain ⟨h3,h4⟩:=Cy hv;have h6:¬ (c.length:Int)<=(r:Int):=by omega
 have h7:lK (r:Int)=(r:Int):=by unfold lK;omega
 have e1:¬ (j=4\/j=5):=by omega
 have e2:¬ (j=13\/j=14):=by omega
 have e3:j≠16:=by omega
 have e4:j≠13:=by omega
 have e5:j≠14:=by omega
 have e6:j≠15:=by omega
 have e7:¬ (j=17\/j=18/\lh (ms c a v r d ((p+1:Nat):Int) i o) 0 w=0):=by omega
 have e8:j<=12:=hj.2;rw [Ew (x:=_) h hx ho,ha];have f1:kn (ms c a b ((r+1:Nat):Int) d ((p+1:Nat):Int) i o) ⟨2,2,⟨1,2⟩,⟨0,1⟩⟩ 0=ms c a b r d ((p+1:Nat):Int) i o:=by simp [kn,lh,sq,mS,jK,h7]
 have f2:kn (ms c a b r d ((p+1:Nat):Int) i o) ⟨13,1,⟨1,2⟩,⟨0,0⟩⟩ 0=ms c a v r d ((p+1:Nat):Int) i o:=by simp [kn,lh,sq,mS,h6,<- h4]
 have f3:kn (ms c a v r d ((p+1:Nat):Int) i o) ⟨j,0,u,w⟩ 0=ms c A v r d ((p+1:Nat):Int) i o:=by
  simp only [kn,e1,e2,e3,e4,e5,e6,e7,e8,hA,false_and,cm,true_or,bS];rfl
 simp only [mL,f1,f2,f3];rfl
def qI6(h:c[p]?=some k)(hx:wK ji.U k=some x)(ho:x.I=false)(ha:x.ad=[⟨2,2,⟨1,2⟩,⟨0,1⟩⟩,⟨13,1,⟨1,2⟩,⟨0,0⟩⟩,⟨18,0,⟨0,2⟩,⟨1,0⟩⟩,⟨j,0,⟨1,1⟩,⟨1,0⟩⟩])(hj:j=4\/j=5)(hv:c[r]?=some v)(hr:r < 65536):lY ji (ms c a b ((r+1:Nat):Int) d p i o)=if a=0 then ⟨c,a,v,r,d,((p+1:Nat):Int),i,o,1,2⟩ else ms c (jK j v a) v r d ((p+1:Nat):Int) i o:=by
 obtain ⟨h3,h4⟩:=Cy hv;have h6:¬ (c.length:Int)<=(r:Int):=by omega
 have h7:lK (r:Int)=(r:Int):=by unfold lK;omega
 rw [Ew (x:=_) h hx ho,ha];have f1:kn (ms c a b ((r+1:Nat):Int) d ((p+1:Nat):Int) i o) ⟨2,2,⟨1,2⟩,⟨0,1⟩⟩ 0=ms c a b r d ((p+1:Nat):Int) i o:=by simp [kn,lh,sq,mS,jK,h7]
 have f2:kn (ms c a b r d ((p+1:Nat):Int) i o) ⟨13,1,⟨1,2⟩,⟨0,0⟩⟩ 0=ms c a v r d ((p+1:Nat):Int) i o:=by simp [kn,lh,sq,mS,h6,<- h4]
 have f3:kn (ms c a v r d ((p+1:Nat):Int) i o) ⟨18,0,⟨0,2⟩,⟨1,0⟩⟩ 0=if a=0 then ⟨c,a,v,r,d,((p+1:Nat):Int),i,o,1,2⟩ else ms c a v r d ((p+1:Nat):Int) i o:=by
  by_cases h0:a=0<;>simp [kn,lh,sq,h0]
 simp only [mL,f1,f2,f3];by_cases h0:a=0
 . simp [h0]
 . rcases hj with rfl|rfl<;>simp [h0,kn,lh,sq,mS]
def Dq(h:c[p]?=some 24):lY ji (ms c a b C d p i o)=ms c (if a=0 then 1 else 0) b C d ((p+1:Nat):Int) i o:=by
 rw [Ew (x:=_) h rfl rfl];simp [mL,kn,lh,sq,mS,jK]
def qq1(h:c[p]?=some 25)(h1:c[p+1]?=some n):lY ji (ms c a b C d p i o)=if a < n then ms c a 1 C d ((p+2:Nat):Int) i o else ⟨c,a,0,C,d,((p+2:Nat):Int),i,o,1,1⟩:=by
 rw [BB (x:=_) h h1 rfl rfl];by_cases h2:a < n<;>simp [mL,kn,lh,sq,mS,jK,h2]
def JS(h:c[p]?=some 27)(h1:c[p+1]?=some n):lY ji (ms c a b C d p i o)=ms c a b C d (if a=0 then n else ((p+2:Nat):Int)) i o:=by
 rw [BB (x:=_) h h1 rfl rfl];by_cases h2:a=0<;>simp [mL,kn,lh,sq,mS,jK,h2]
def qGi(h:c[p]?=some 28)(h1:c[p+1]?=some n)(hq:q < c.length)(hl:c.length=65536)(he:e<=100):lY ji (ms c a b (q:Int) (e:Int) p i o)=if e < 100 then ms (c.set q ((p+2:Nat):Int)) a 1 ((q+1:Nat):Int) ((e+1:Nat):Int) n i o else ⟨c,a,0,q,((e+1:Nat):Int),((p+2:Nat):Int),i,o,1,3⟩:=by
  have h5:¬ (c.length:Int)<=(q:Int):=by omega
  have h6:lK ((q:Int)+1)=(q:Int)+1:=by unfold lK;omega
  have h7:lK ((e:Int)+1)=(e:Int)+1:=by unfold lK;omega
  rw [BB (x:=_) h h1 rfl rfl];by_cases h2:e < 100
  . have h8:(e:Int)+1 < 101:=by omega
    rw [aw h2];simp [mL,kn,lh,sq,mS,jK,h5,h6,h7,h8]
  . have h8:¬ (e:Int)+1 < 101:=by omega
    rw [am h2];simp [mL,kn,lh,sq,mS,jK,h5,h6,h7,h8]
def Xy(h:c[p]?=some 29)(h1:c[p+1]?=some n)(hw:lK (C - n)=(q:Int))(hv:c[q]?=some v)(he:e<=100):lY ji (ms c a b C ((e+1:Nat):Int) p i o)=ms c a b q (e:Int) v i o:=by
 obtain ⟨h3,h4⟩:=Cy hv;have h5:¬ (c.length:Int)<=(q:Int):=by omega
 have h7:lK (e:Int)=(e:Int):=by unfold lK;omega
 rw [BB (x:=_) h h1 rfl rfl];simp [mL,kn,lh,sq,mS,jK,hw,h5,h7,<- h4]
def qI4(h:c[p]?=some 30):lY ji (ms c a b C d p i o)=ms c (match i with|[]=>4294967295|x::_=>(x.toNat:Int)) b C d ((p+1:Nat):Int) (match i with|[]=>[]|_::r=>r) o:=by
 rw [Ew (x:=_) h rfl rfl];cases i<;>simp [mL,kn,mS]
def qI5(h:c[p]?=some 31):lY ji (ms c a b C d p i o)=if o.length=20000 then ⟨c,a,b,C,d,((p+1:Nat):Int),i,o,5,0⟩ else ms c a b C d ((p+1:Nat):Int) i (o++[UInt8.ofNat (a.toNat % 256)]):=by
 rw [Ew (x:=_) h rfl rfl];by_cases h2:o.length=20000<;>simp [mL,kn,lh,sq,h2]
def qAG(h:c[p]?=some 32)(h1:c[p+1]?=some n):lY ji (ms c a b C d p i o)=ms c a b n d ((p+2:Nat):Int) i o:=by
 exact TQ
end
def pj(lab:iR->Int):Li->LInt9
 | .op n=>[wE ji n]
 | .ref n a=>[wE ji n,lab a]
 | .num n v=>if n=pB then [v] else if n=so then List.replicate v.toNat 0 else [wE ji n,v]
 | .lab _=>[]
def EN(lab:iR->Int)(y:Li):(pj lab y).length=qH y:=by
 cases y with
 | num n v=>simp only [pj,qH];split<;>(try split)<;>simp
 | _=>rfl
def Cd(c:LInt9)(lab:iR->Int):Nat->List Li->Nat->Prop
 | p,[],q=>p=q
 | p,y::r,q=>(∀ k v,(pj lab y)[k]?=some v->c[p+k]?=some v)/\(∀ a,y=.lab a->lab a=(p:Int))/\Cd c lab (p+qH y) r q
section
variable{lab:iR->Int}{p:Nat}{L:List Li}{y:Li}{n a:iR}{v:Int}
def Tk:∀ (L M:List Li) (p q:Nat),Cd c lab p (L++M) q↔∃ m,Cd c lab p L m/\Cd c lab m M q
  | [],M,p,q=>⟨λh=>⟨p,rfl,h⟩,λ⟨m,h,k⟩=>by cases h;exact k⟩
  | y::L,M,p,q=>by
    rw [ao];constructor
    . rintro ⟨h1,h2,h3⟩
      obtain ⟨m,h4,h5⟩:=(Tk L M _ q).1 h3;exact ⟨m,⟨h1,h2,h4⟩,h5⟩
    . rintro ⟨m,⟨h1,h2,h4⟩,h5⟩
      exact ⟨h1,h2,(Tk L M _ q).2 ⟨m,h4,h5⟩⟩
def Cd.app(h:Cd c lab p (L++M) q):∃ m,Cd c lab p L m/\Cd c lab m M q:=(Tk L M p q).1 h
def Cd.end_:∀ {L:List Li} {p q:Nat},Cd c lab p L q->q=p+cW L
 | [],p,q,h=>by cases h;rfl
 | y::r,p,q,h=>by rw [h.2.2.end_];simp only [cW,aS,dW];omega
def Cd.le(h:Cd c lab p L q):p<=q:=by rw [h.end_];omega
def Cd.op(h:Cd c lab p (.op n::L) q):c[p]?=some (wE ji n)/\Cd c lab (p+1) L q/\p+1<=q:=⟨h.1 0 _ rfl,h.2.2,h.2.2.le⟩
def Cd.ref(h:Cd c lab p (.ref n a::L) q):c[p]?=some (wE ji n)/\c[p+1]?=some (lab a)/\Cd c lab (p+2) L q/\p+2<=q:=⟨h.1 0 _ rfl,h.1 1 _ rfl,h.2.2,h.2.2.le⟩
def Cd.num(h:Cd c lab p (.num n v::L) q)(h1:n≠pB)(h2:n≠so):c[p]?=some (wE ji n)/\c[p+1]?=some v/\Cd c lab (p+2) L q/\p+2<=q:=by
 have e:pj lab (.num n v)=[wE ji n,v]:=by rw [pj,am h1,am h2]
 have e2:qH (.num n v)=2:=by rw [qH,am h1,am h2]
 have h4:Cd c lab (p+2) L q:=e2▸h.2.2;exact ⟨h.1 0 _ (by rw [e];rfl),h.1 1 _ (by rw [e];rfl),h4,h4.le⟩
def Cd.lbl(h:Cd c lab p (.lab a::L) q):lab a=(p:Int)/\Cd c lab p L q:=⟨h.2.1 _ rfl,h.2.2⟩
def Cd.mono:∀ {L:List Li} {p q:Nat},Cd c lab p L q->(∀ k,p<=k->k < q->∀ v,c[k]?=some v->c'[k]?=some v)->Cd c' lab p L q
 | [],p,q,h,_=>h
 | y::r,p,q,h,k=>by
  have h3:=h.2.2.le;refine ⟨λj v hj=>k _ O ?_ _ (h.1 j v hj),h.2.1,h.2.2.mono λj h4 h5=>k j O h5⟩;have h6:=(al.1 hj).1;rw [EN] at h6;omega
end
end
end Go.Proofs.YtapeaicongaggaaGreatDoor
