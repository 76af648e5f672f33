/- Part 10. -/
import Derived.Test.YtemgonlhniicbaaGreatDoorQ42z9
set_option linter.unusedVariables false
set_option linter.defProp false
set_option linter.unusedSimpArgs false
set_option linter.unnecessarySimpa false
set_option maxRecDepth 100000
set_option maxHeartbeats 8000000
namespace Go.Proofs.YtemgonlhniicbaaGreatDoor
open Go Go.RowKit Go.Proofs.Tryz
variable{s s0 w:World}{ts:Array TypeId}{p:jc}{rs:List ResultVar}{L R K:Hl}{af a0 a1:Array Edge}{ab:List (Option Nat)}{k D d n nf ng b n2 ty ni qi e b4 cg cf d0 z2 n3 bf n0 z0 n9 c9 ty0 ty1 t' n1 q b3 c1 d1 N:Nat}{v v0 ov ov':Value}{iL p0 p1:String}{fn:Func}{l:List (iH×Int)}{P:Program}{iI:List Oper}{S S':Sem}{r:List (Int×Nat×iH×Int)}{m:MS}{a z:Nat×Obj}{xs:List Ex}{t0:TypeId}{G B F:List Bool}{F0 A1 Ai A7 A8 A2 A3 Ag Af:iE}{ch:List PanicEntry}{c:iG}{ds:List Deferred}{tmps:Array Value}{inp nm i:iH}{y:Li}{fk:iM}{vs zs:iz}{ro o:Option Nat}{Q:pS}{j cd C:Int}{dd:Deferred}{A:List (iH×(Int×Int))}{cs':List Frame}{M:List Li}
section
attribute [local irreducible] JC JO JA JB ma mO mX AC fill iy QE Ev my
variable{b1 b2 z1:Nat}{c:MC}{f:iM}{x:iP}{iv:Value}{A B:iE}{vs:iG}{y:Nat×Obj}
def HB{p:Prop} (h:p:=by
 exact ⟨zZ,mf4,sf4,cf4,Zf4,Fs hq he4,rfl,hF4⟩):p:=h
def Qo{p:Prop} (h:p:=by
 exact ⟨(0,0),{ m4 with ae:=m4.ae.set k ((ns p x.name m4).set a2.toNat a4) },iv4,ov4,R9,hq,⟨rfl,⟨by decide,by decide⟩,λ_=>rfl⟩,rfl,(hM9.le ((Lr D).t iD))⟩):p:=h
def IQ{p:Prop} (h:p:=by
 rintro _ _ sx4 hx4 ⟨zZ,mf4,sf4,cf4,Zf4,he4,rfl,hF4⟩ tU;repeat (first|refine tE ?_|refine tH ?_)
 refine tJ [] Pr (h1.t h2|>.t h3|>.t hx4) λ_ iD=>?_;exact HB):p:=h
def Ij{p:Prop} (h:p:=by
 obtain ⟨R9,hs9,hM9⟩:=hset ((ns p x.name m4).set a2.toNat a4);have hM9:=hM9 _ (hM4.le (Lr D)) (by rw [cD]) (Sj (hM4.arU hg) hu4);refine w8 Z Tt (i+3) _ ⟨Z,Z,hbi,Z,Z⟩ (KX Bk O) Z (K1 Bk O) hs9 (λx hx=>by cases hx)<|ji V<|G7 ?_;refine px [] (.inr Z) (.t1 Z) Z (h1.t h2|>.t h3|>.t h4) λ_ iD=>?_;exact Qo):p:=h
def qwJ(hE:ve p D n)(hC:CT p c s)(hn:c.nf=f.params.length+f.locals.length)(hM:MG p c N m iv ov R s)(g:jv)(hk:x.kind=2)(hg:mS p x.name=(k:Int))(hp:p.o[k]?=some g)(vL:g.kind=3)(pH:iy s b1 0 [iB (k:Int)])(uu:iy s b2 0 [.slice A n1 z1])(hA:qo p f d s A n1 z1 x.exprs)(h1n:1 < n1)(hr:sX p (iS p iV n) f x m≠.out):AP prog D 105 [.pointer (some ⟨c.bm,0,none⟩),iT b1,iT b2] (MB c N 0 m iv ov 0 0::mF c m::mE c m::(R++L)) s (qa p c N (sX p (iS p iV n) f x m) VS RS [] L) (pW c N (sX p (iS p iV n) f x m) [] L):=by
 obtain ⟨r,hq⟩:∃ r,r=sX p (iS p iV n) f x m:=⟨_,rfl⟩;rw [<- hq] at hr ⊢;rw [qwo hk] at hq;have nE:0 < n1:=O
 obtain ⟨B0,o0,b0,rfl,hcE,hvE⟩:=qo.at_ hA nE;obtain ⟨B1,o1,b4,hAe,hcF,hvF⟩:=qo.at_ hA h1n;simp only [cZ,ie,and_true] at hAe;obtain ⟨hAe1,hAe2⟩:=hAe;subst hAe1;subst hAe2;obtain ⟨ba,qW,vO,xJ,zc⟩:=hM.ary hC hp vL hg;refine rl (fn:=f105) jb func105 V Z ntmps105 Z (rs:=[.tmp 4]) Z [(0,_),(1,_),(2,_)] Z<|G6 ?_;refine mr jt 7 Z ([]:Hl) (λx hx=>by cases hx) λs1 h1=>H1 ?_;refine za 1 Z (jS Y3 (pH.le h1) Z) Z<|za 2 Z (jS Y3 (uu.le h1) Z) Z<|za 3 Z (lK Y6 nE) Z<|za 4 Z (jS Y3 (hcE.le h1) Z) Z<|iF 5 V ?_;refine zr Z Tt (first:=[]) (captured:=[]) Z Z Z (AP.fr (λL=>T0 hE N f d (kP x.exprs 0) x.name g m iv ov R (hC.le h1) hn (hM.le h1) hg hp vL (hvE.le h1) (rU hq hr)) [] _) ?_ ?_
 .rintro _ _ sx2 tY ⟨rP,mf2,sf2,cf2,Zf2,rN,rfl,mK⟩ tU;repeat (first|refine tE ?_|refine tH ?_)
  refine tJ [] Pr (h1.t tY) λ_ iD=>?_;exact Hw
 rintro _ _ s2 h2 ⟨a2,m2,iv2,ov2,R2,rN,⟨rfl,o4⟩,rfl,ju⟩;have e2:=h1.t h2;refine ⟨(λx hx=>by cases hx),?_⟩;rw [rN] at hq;simp only [ER.and] at hq;simp only [jC,jD];have hia:=Sf rN;have hui:=o4;have Bk:=o4.1;obtain ⟨_,_,_,hla1,_⟩:=ju.ary (hC.le e2) hp vL hg;refine H1 ?_;refine ji V<|Zt<|Zs<|mr jt 15 Z ([]:Hl) (λx hx=>by cases hx) λs3 h3=>H3 ?_;refine za 4 Z (jS Y3 (pH.le (e2.t h3)) Z) Z<|H1 ?_;refine za 8 Z (jS Y3 (uu.le (e2.t h3)) Z) Z<|za 9 Z (lK Y6 h1n) Z<|za 10 Z (jS Y3 (hcF.le (e2.t h3)) Z) Z<|H1 ?_;have e3:=e2.t h3;refine kA 3 12 V ?_ ?_
 .refine jW Z Tt (Wd 0 Y5) Z<|za 5 Z (lK Y6 zc) Z<|za 6 Z (jS Y3 (vO.le e3) Z) Z<|iF 12 V ?_;refine zr Z Tt (first:=[]) (captured:=[iT b4]) Z Z Z (AP.fr (λL=>hE L _ c N f d (kP x.exprs 1) _ m2 iv2 ov2 R2 (hC.le e3) hn (hvF.le e3) (ju.le h3) (rU hq hr)) [] _) ?_ ?_;.exact IQ
  rintro _ _ s4 h4 ⟨a4,m4,iv4,ov4,R4,he4,⟨rfl,hu4⟩,rfl,hM4⟩;refine ⟨(λx hx=>by cases hx),?_⟩;rw [he4] at hq;simp only [ER.and] at hq;simp only [jC,jD];obtain ⟨_,_,_,hla2,_⟩:=hM4.ary (hC.le (e3.t h4)) hp vL hg;obtain ⟨i,hbi,hset⟩:=hM4.blk qW zc hg (MB c N 0 m4 iv4 ov4 0 0) (mF c m4) (mE c m4) L;rw [hg,aD] at hq;refine za 13 Z (xQ Y6 Bk (show a2 < ((g.num.toNat:Nat):Int) by omega)) Z<|iF 14 V ?_;exact Ij
 refine zr Z Tt (first:=[]) (captured:=[iT b4]) Z Z Z (AP.fr (λL=>hE L _ c N f d (kP x.exprs 1) _ m2 iv2 ov2 R2 (hC.le e3) hn (hvF.le e3) (ju.le h3) (rU hq hr)) [] _) ?_ ?_;.exact IQ
 rintro _ _ s4 h4 ⟨a4,m4,iv4,ov4,R4,he4,⟨rfl,hu4⟩,rfl,hM4⟩;refine ⟨(λx hx=>by cases hx),?_⟩;rw [he4] at hq;simp only [ER.and] at hq;simp only [jC,jD];obtain ⟨_,_,_,hla2,_⟩:=hM4.ary (hC.le (e3.t h4)) hp vL hg;obtain ⟨i,hbi,hset⟩:=hM4.blk qW zc hg (MB c N 0 m4 iv4 ov4 0 0) (mF c m4) (mE c m4) L;rw [hg,aD] at hq;refine iF 3 V<|jW Z Tt (Wd 0 Y5) Z<|za 5 Z (lK Y6 zc) Z<|za 6 Z (jS Y3 (vO.le e3) Z) Z<|za 13 Z (xQ Y6 Bk (show a2 < ((g.num.toNat:Nat):Int) by omega)) Z<|iF 14 V ?_;exact Ij
def WV{p:Prop} (h:p:=by
 refine px [] (.inr Z) (.t1 Z) Z Lc λ_ iD=>?_;exact ⟨_,m3,iv3,ov3,R3,hq,⟨rfl,hu3,hz3⟩,rfl,Pz⟩):p:=h
def IJ{p:Prop} (h:p:=by
 rintro _ _ sx3 hx3 ⟨xK,mf3,sf3,cf3,Zf3,he3,rfl,hF3⟩ tU;repeat (first|refine tE ?_|refine tH ?_)
 refine tJ [] Pr Lc λ_ iD=>?_;exact ⟨xK,mf3,sf3,cf3,Zf3,hq.trans he3,rfl,hF3⟩):p:=h
def qBO(hE:ve p D n)(hT:CC p D n)(hC:CT p c s)(hn:c.nf=f.params.length+f.locals.length)(hM:MG p c N m iv ov R s){G:iE}{z3:Nat}(hk:x.kind=3)(pH:iy s b1 0 [.slice A n1 z1])(uu:iy s b2 0 [.slice B n2 z2])(vL:iy s b3 0 [.slice G n3 z3])(hA:qo p f d s A n1 z1 x.exprs)(nE:0 < n1)(hB:xw p f d s B n2 z2 x.body)(hG:xw p f d s G n3 z3 x.els)(hr:sX p (iS p iV n) f x m≠.out):AP prog D 107 [.pointer (some ⟨c.bm,0,none⟩),iT b1,iT b2,iT b3] (MB c N 0 m iv ov 0 0::mF c m::mE c m::(R++L)) s (qa p c N (sX p (iS p iV n) f x m) VS RS [] L) (pW c N (sX p (iS p iV n) f x m) [] L):=by
 obtain ⟨r,hq⟩:∃ r,r=sX p (iS p iV n) f x m:=⟨_,rfl⟩;rw [<- hq] at hr ⊢;rw [sX,ak O,ak O,au hk] at hq;obtain ⟨B0,o0,b0,rfl,hcE,hvE⟩:=qo.at_ hA nE;refine rl (fn:=f107) jb func107 V Z ntmps107 Z (rs:=[.tmp 5]) Z [(0,_),(1,_),(2,_),(3,_)] Z<|G8 ?_;refine iA (jS Y3 (pH.le (Lr D)) Z) Z<|iA (lK Y6 nE) Z<|iA (jS Y3 Pz Z) Z<|kb Y2 ?_;refine sr (first:=[]) (captured:=[iT b0]) Y3 (AP.fr (λL=>hE L _ c N f d (kP x.exprs 0) _ m iv ov R Pz hn Pz Pz (rU hq hr)) [] _) ?_ ?_;.exact EV
 rintro _ _ s1 h1 ⟨a1,m1,rB,ov1,R1,he1,⟨rfl,oQ⟩,rfl,mP⟩;rw [he1] at hq;simp only [ER.and] at hq;simp only [jC,jD];refine G3 ?_;refine lL Z ?_ ?_<;>intro c2
 .rw [au c2] at hq;refine Sr<|kb Y2<|iA (jS Y3 (uu.le h1) Z) Z ?_;refine sr (first:=[]) (captured:=[]) Y3 (AP.fr (λL=>O6 hT N m1 rB ov1 R1 Pz hn Pz (hB.le h1) (hq▸hr)) [] _) ?_ ?_;.exact IJ
  rintro _ _ s3 h3 ⟨a3,m3,iv3,ov3,R3,he3,⟨rfl,hu3,hz3⟩,rfl,l0⟩;rw [he3] at hq;simp only [jC,jD];refine G5 ?_;exact WV
 rw [ak (by simpa using c2)] at hq;refine G5 ?_;refine iA (jS Y3 (vL.le h1) Z) Z ?_;refine sr (first:=[]) (captured:=[]) Y3 (AP.fr (λL=>O6 hT N m1 rB ov1 R1 Pz hn Pz (hG.le h1) (hq▸hr)) [] _) ?_ ?_;.exact IJ
 rintro _ _ s3 h3 ⟨a3,m3,iv3,ov3,R3,he3,⟨rfl,hu3,hz3⟩,rfl,l0⟩;rw [he3] at hq;simp only [jC,jD];refine G4 ?_;exact WV
theorem qDc(hk:x.kind=4):sX p S f x m=S.w f (kP x.exprs 0) x.body m:=by grind [sX]
theorem qDa(hk:x.kind=5):sX p S f x m=((nn (S.e f) x.exprs m).and λvs m=>S.c (r9 p x.name).toNat vs m).and λ_ m=>.ok (0,0) m:=by grind [sX,ER.and_assoc]
def MG.put(h:MG p c N m iv ov R s){b:UInt8}{Mo:Hl}(hl:m.out.length < 20000)(hO:Own 5 1 Mo ov' (m.out++[b]).length (bv (m.out++[b]))):MG p c N { m with out:=m.out++[b] } iv ov' (oR c.ab m.ae++Mo) s:=⟨h.inp,⟨Mo,rfl,hO⟩,h.ug,h.uf,h.ua,h.ng,h.lg,h.lf,h.lb,h.la,h.ar,by simp;omega,h.lc,h.ll,h.lN⟩
def QD(w:iH)(x:UInt8):bv (w++[x])=bv w++[.int .u8 (x.toNat:Int)]:=by simp [bv]
structure WG where
 j:Nat
 m:MS
 iv:Value
 ov:Value
 R:Hl
def HC{p:Prop} (h:p:=by
 first
  | (exact ⟨(_,_),m4,iv4,ov4,R4,hq,⟨rfl,hu4,hz4⟩,rfl,Pz⟩)
  | (exact ⟨(0,0),m4,iv4,ov4,R4,hq,⟨rfl,⟨by decide,by decide⟩,λ_=>rfl⟩,rfl,Pz⟩)):p:=h
def qCy(n:Nat)(ihE:∀ j,j<=n->ve p D j)(ihT:∀ j,j<=n->CC p D j)(hC:CT p c s)(hn:c.nf=f.params.length+f.locals.length)(hM:MG p c N m iv ov R s)(hk:x.kind=4)(pH:iy s b1 0 [.slice A n1 z1])(uu:iy s b2 0 [.slice B n2 z2])(hA:qo p f d s A n1 z1 x.exprs)(nE:0 < n1)(hB:xw p f d s B n2 z2 x.body)(hr:sX p (iS p iV n) f x m≠.out):AP prog D 109 [.pointer (some ⟨c.bm,0,none⟩),iT b1,iT b2] (MB c N 0 m iv ov 0 0::mF c m::mE c m::(R++L)) s (qa p c N (sX p (iS p iV n) f x m) VS RS [] L) (pW c N (sX p (iS p iV n) f x m) [] L):=by
 obtain ⟨r,hq⟩:∃ r,r=sX p (iS p iV n) f x m:=⟨_,rfl⟩;rw [<- hq] at hr ⊢;rw [qDc hk] at hq;obtain ⟨B0,o0,b0,rfl,hcE,hvE⟩:=qo.at_ hA nE;refine rl (fn:=f109) jb func109 V Z ntmps109 Z (rs:=[.tmp 4]) Z [(0,_),(1,_),(2,_)] Z<|G7 ?_;refine lJ (γ:=WG) (λg=>[(0,_),(1,_),(2,_),(4,_)]) (λg=>MB c N 0 g.m g.iv g.ov 0 0::mF c g.m::mE c g.m::(g.R++L)) (λg tw=>Le D s tw/\(g.j<=n/\MG p c N g.m g.iv g.ov g.R tw/\r=(iS p iV g.j).w f (kP x.exprs 0) x.body g.m)) (λg=>g.j) (λ_ _ _ h hl=>⟨h.1.trans hl,⟨h.2.1,h.2.2.1.le hl,h.2.2.2⟩⟩) ⟨n,m,iv,ov,R⟩ (.c4 Z Z Z Z (.nil _)) Z ⟨Le.refl _,⟨ay _,hM.le (Lr D),hq⟩⟩ ?_;intro g s1 I1;obtain ⟨j,mk,ivk,ovk,Rk⟩:=g;obtain ⟨oV,xD,hq⟩:j<=n/\MG p c N mk ivk ovk Rk s1/\r=(iS p iV j).w f (kP x.exprs 0) x.body mk:=I1.2;dsimp only;obtain ⟨j,rfl⟩:∃ i,j=i+1:=by
   cases j with
   | zero=>exact absurd hq hr
   | succ i=>exact ⟨i,rfl⟩
 change r=wX (iS p iV j) f (kP x.exprs 0) x.body mk at hq;rw [wX] at hq;have hE:=ihE j O;have hT:=ihT j O;refine Zs<|Sr<|iA (jS Y3 (pH.le I1.1) Z) Z<|iA (lK Y6 nE) Z<|iA (jS Y3 Pz Z) Z<|kb Y2 ?_;refine sr (first:=[]) (captured:=[iT b0]) Y3 (AP.fr (λL=>hE L _ c N f d (kP x.exprs 0) _ mk ivk ovk Rk Pz hn Pz Pz (rU hq hr)) [] _) ?_ ?_;.exact DR
 rintro _ _ s2 h2 ⟨a2,m2,iv2,ov2,R2,rN,⟨rfl,o4⟩,rfl,ju⟩;rw [rN] at hq;simp only [ER.and] at hq;simp only [jC,jD];refine G3 ?_;refine lL Z ?_ ?_<;>intro c3
 .rw [ak c3] at hq;refine G6 ?_;refine iA (jS Y3 (uu.le Lc) Z) Z ?_;refine sr (first:=[]) (captured:=[]) Y3 (AP.fr (λL=>O6 hT N m2 iv2 ov2 R2 Pz hn Pz (hB.le (I1.1.t h2)) (rU hq hr)) [] _) ?_ ?_
  .rintro _ _ sx4 hx4 ⟨zZ,mf4,sf4,cf4,Zf4,he4,rfl,hF4⟩ tU;repeat (first|refine tE ?_|refine tH ?_)
   refine tJ [] Pr Lc λ_ iD=>?_;exact HB
  rintro _ _ s4 h4 ⟨⟨a4,y4⟩,m4,iv4,ov4,R4,he4,⟨rfl,hu4,hz4⟩,rfl,hM4⟩;rw [he4] at hq;simp only [ER.and] at hq;simp only [jC,jD];refine J9 ?_ ?_<;>intro c5;.rw [au c5] at hq;have hz9:=hz4 O;simp only [RS] at *;rw [hz9];refine Zl<|Ze Z<|G9 ?_;refine px [] (.inr Z) (.t1 Z) Z Lc λ_ iD=>?_;exact HC
  rw [ak c5] at hq;refine J6 ?_ ?_<;>intro c6;.rw [au c6] at hq;refine lw ?_;refine px [] (.inr Z) (.t1 Z) Z Lc λ_ iD=>?_;exact HC
  rw [ak c6] at hq;have hz9:=hz4 O;simp only [RS] at *;rw [hz9];refine G2 ?_;refine iU ⟨⟨j,m4,iv4,ov4,R4⟩,[],kp,Z,⟨Lc,⟨by show j<=n;omega,Pz,hq⟩⟩,(by show j < j+1;omega)⟩
 rw [au (by simpa using c3)] at hq;refine lw ?_;refine px [] (.inr Z) (.t1 Z) Z Lc λ_ iD=>?_;first
   | (exact ⟨(_,_),m2,iv2,ov2,R2,hq,⟨rfl,o4,hz2⟩,rfl,Pz⟩)
   | (exact ⟨(0,0),m2,iv2,ov2,R2,hq,⟨rfl,⟨Θ,Θ⟩,λ_=>rfl⟩,rfl,Pz⟩)
def qwq(hE:ve p D n)(hC:CT p c s)(hn:c.nf=f.params.length+f.locals.length)(hM:MG p c N m iv ov R s)(hK:FF p D n){be bi:Nat}(fk:iM)(hk:x.kind=5)(pH:iy s b1 0 [.func (.func 151) #[] #[iT be,iT bi]])(he:iy s be 0 [.slice A n1 z1])(hi:iy s bi 0 [iB (k:Int)])(hA:qo p f d s A n1 z1 x.exprs)(hg:r9 p x.name=(k:Int))(hp:p.funcs[k]?=some fk)(hl:x.exprs.length=fk.params.length)(hr:sX p (iS p iV n) f x m≠.out):AP prog D 111 [.pointer (some ⟨c.bm,0,none⟩),iT b1] (MB c N 0 m iv ov 0 0::mF c m::mE c m::(R++L)) s (qa p c N (sX p (iS p iV n) f x m) VS RS [] L) (pW c N (sX p (iS p iV n) f x m) [] L):=by
 obtain ⟨r,hq⟩:∃ r,r=sX p (iS p iV n) f x m:=⟨_,rfl⟩;rw [<- hq] at hr ⊢;rw [qDa hk,hg,aD] at hq;refine rl (fn:=f111) jb func111 V Z ntmps111 Z (rs:=[.tmp 3]) Z [(0,_),(1,_)] Z<|G7 ?_;refine iA (jS Y3 (pH.le (Lr D)) Z) Z<|kb Y2 ?_;refine sr (first:=[]) (captured:=[iT be,iT bi]) Y3 (AP.fr (λL=>qnH hE N f d x.exprs m iv ov R Pz hn Pz hK k fk A n1 z1 Pz Pz Pz hp hl (rU hq hr)) [] _) ?_ ?_;.exact EV
 rintro _ _ s1 h1 ⟨a1,m1,rB,ov1,R1,he1,⟨rfl,oQ⟩,rfl,mP⟩;rw [he1] at hq;simp only [ER.and] at hq;simp only [jC,jD];refine G8 ?_;refine px [] (.inr Z) (.t1 Z) Z h1 λ_ iD=>?_;exact ⟨(0,0),m1,rB,ov1,R1,hq,⟨rfl,⟨Θ,Θ⟩,λ_=>rfl⟩,rfl,Pz⟩
def qIM(hE:ve p D n)(hC:CT p c s)(hn:c.nf=f.params.length+f.locals.length)(hM:MG p c N m iv ov R s)(hk:x.kind=6)(pH:iy s b1 0 [.slice A n1 z1])(hA:qo p f d s A n1 z1 x.exprs)(nE:0 < n1)(hr:sX p (iS p iV n) f x m≠.out):AP prog D 112 [.pointer (some ⟨c.bm,0,none⟩),iT b1] (MB c N 0 m iv ov 0 0::mF c m::mE c m::(R++L)) s (qa p c N (sX p (iS p iV n) f x m) VS RS [] L) (pW c N (sX p (iS p iV n) f x m) [] L):=by
 obtain ⟨r,hq⟩:∃ r,r=sX p (iS p iV n) f x m:=⟨_,rfl⟩;rw [<- hq] at hr ⊢;rw [sX,ak O,ak O,ak O,ak O,ak O,au hk] at hq;obtain ⟨B0,o0,b0,rfl,hcE,hvE⟩:=qo.at_ hA nE;refine rl (fn:=f112) jb func112 V Z ntmps112 Z (rs:=[.tmp 3]) Z [(0,_),(1,_)] Z<|G8 ?_;refine iA (jS Y3 (pH.le (Lr D)) Z) Z<|iA (lK Y6 nE) Z<|iA (jS Y3 Pz Z) Z<|kb Y2 ?_;refine sr (first:=[]) (captured:=[iT b0]) Y3 (AP.fr (λL=>hE L _ c N f d (kP x.exprs 0) _ m iv ov R Pz hn Pz Pz (rU hq hr)) [] _) ?_ ?_;.exact EV
 rintro _ _ s1 h1 ⟨a1,m1,rB,ov1,R1,he1,⟨rfl,oQ⟩,rfl,mP⟩;rw [he1] at hq;simp only [ER.and] at hq;simp only [jC,jD];refine G2 ?_;refine X32 ?_;refine px [] (.inr Z) (.t1 Z) Z h1 λ_ iD=>?_;exact ⟨(3,a1),m1,rB,ov1,R1,hq,⟨rfl,oQ,λh=>absurd rfl h⟩,rfl,Pz⟩
def qIF(hE:ve p D n)(hC:CT p c s)(hn:c.nf=f.params.length+f.locals.length)(hM:MG p c N m iv ov R s)(hk:x.kind=7)(pH:iy s b1 0 [.slice A n1 z1])(hA:qo p f d s A n1 z1 x.exprs)(nE:0 < n1)(hr:sX p (iS p iV n) f x m≠.out):AP prog D 113 [.pointer (some ⟨c.bm,0,none⟩),iT b1] (MB c N 0 m iv ov 0 0::mF c m::mE c m::(R++L)) s (qa p c N (sX p (iS p iV n) f x m) VS RS [] L) (pW c N (sX p (iS p iV n) f x m) [] L):=by
 obtain ⟨r,hq⟩:∃ r,r=sX p (iS p iV n) f x m:=⟨_,rfl⟩;rw [<- hq] at hr ⊢;rw [sX,ak O,ak O,ak O,ak O,ak O,ak O,au hk] at hq;obtain ⟨B0,o0,b0,rfl,hcE,hvE⟩:=qo.at_ hA nE;refine rl (fn:=f113) jb func113 V Z ntmps113 Z (rs:=[.tmp 3]) Z [(0,_),(1,_)] Z<|G7 ?_;refine X28 ?_;refine sr (first:=[]) (captured:=[iT b0]) Y3 (AP.fr (λL=>hE L _ c N f d (kP x.exprs 0) _ m iv ov R (hC.le (Lr D)) hn (hvE.le (Lr D)) (hM.le (Lr D)) (rU hq hr)) [] _) ?_ ?_;.exact EV
 rintro _ _ s1 h1 ⟨a1,m1,rB,ov1,R1,he1,⟨rfl,oQ⟩,rfl,mP⟩;rw [he1] at hq;simp only [ER.and] at hq;simp only [jC,jD];obtain ⟨Mo,hR,hO⟩:=mP.out;obtain ⟨Ao,co,hov,_,_⟩:=Own.slice hO;subst hov;subst hR;refine mY ?_;refine va Y3<|J2 ?_ ?_<;>intro c2
 .have q9:=c2;refine G2 ?_;refine sr (first:=[]) (captured:=[]) Y3 (Fc [] N m1 rB _) ?_ ?_;.exact XG
  rintro _ _ s3 h3 ⟨⟩
 have q9:=c2;rw [ak O] at hq;refine lw ?_;refine iA (kK (Kx Z Z Z Z Z) (bl (Value.int .u8) (u8w oQ))) Z<|lx [(_,_)] [_] Y9 λβ3 s3 h3 sK=>rQ (sz:=1) (MB c N 0 m1 rB _ 0 0::mF c m1::mE c m1::oR c.ab m1.ae) Mo L ⟨(by rw [am];rfl),Z,Z,Z,Z,Z,Z⟩ hO (Row.of_cells (sK.le (Lr D)) Z Z) ⟨by simp [Da];omega,O⟩ Z ?_;intro v9 M9 s4 h4 oq;obtain ⟨A9,q9,rfl,_,_⟩:=Own.slice oq;rw [<- QD] at oq;simp only [ao];rw [<- am];refine G3 ?_;refine X32 ?_;refine px [] (.inr Z) (.t1 Z) Z (h1.t h3|>.t h4) λ_ iD=>?_;exact ⟨(0,0),{ m1 with out:=m1.out++[UInt8.ofNat a1.toNat] },rB,_,(oR c.ab m1.ae++M9),hq,⟨rfl,⟨Θ,Θ⟩,λ_=>rfl⟩,rfl,((mP.put O (by rw [ac];exact oq)).le (h3.t h4|>.t iD))⟩
def qwx(hE:ve p D n)(hC:CT p c s)(hn:c.nf=f.params.length+f.locals.length)(hM:MG p c N m iv ov R s)(hk:x.kind=8)(pH:iy s b1 0 [.slice A n1 z1])(hA:qo p f d s A n1 z1 x.exprs)(nE:0 < n1)(hr:sX p (iS p iV n) f x m≠.out):AP prog D 114 [.pointer (some ⟨c.bm,0,none⟩),iT b1] (MB c N 0 m iv ov 0 0::mF c m::mE c m::(R++L)) s (qa p c N (sX p (iS p iV n) f x m) VS RS [] L) (pW c N (sX p (iS p iV n) f x m) [] L):=by
 obtain ⟨r,hq⟩:∃ r,r=sX p (iS p iV n) f x m:=⟨_,rfl⟩;rw [<- hq] at hr ⊢;rw [sX,ak O,ak O,ak O,ak O,ak O,ak O,ak O,au hk] at hq;obtain ⟨B0,o0,b0,rfl,hcE,hvE⟩:=qo.at_ hA nE;refine rl (fn:=f114) jb func114 V Z ntmps114 Z (rs:=[.tmp 3]) Z [(0,_),(1,_)] Z<|G8 ?_;refine X28 ?_;refine sr (first:=[]) (captured:=[iT b0]) Y3 (AP.fr (λL=>hE L _ c N f d (kP x.exprs 0) _ m iv ov R (hC.le (Lr D)) hn (hvE.le (Lr D)) (hM.le (Lr D)) (rU hq hr)) [] _) ?_ ?_;.exact EV
 rintro _ _ s1 h1 ⟨a1,m1,rB,ov1,R1,he1,⟨rfl,oQ⟩,rfl,mP⟩;rw [he1] at hq;simp only [ER.and] at hq;simp only [jC,jD];refine sr (first:=[]) (captured:=[]) Y3 (Fc [] N m1 rB ov1) ?_ ?_
 .rintro _ _ sx2 tY ⟨rP,rfl⟩ tU;repeat (first|refine tE ?_|refine tH ?_)
  refine tJ [] Pr (h1.t tY) λ_ iD=>?_;exact ⟨rP,m1,_,_,_,hq,rfl,((mP.le tY).fin _ _ _)⟩
 rintro _ _ s2 h2 ⟨⟩
def qHj(n:Nat)(f:iM)(d:Nat)(x:iP)(hC:CT p c s)(hn:c.nf=f.params.length+f.locals.length)(hM:MG p c N m iv ov R s)(hk:x.kind=9):AP prog D 115 [.pointer (some ⟨c.bm,0,none⟩)] (MB c N 0 m iv ov 0 0::mF c m::mE c m::(R++L)) s (qa p c N (sX p (iS p iV n) f x m) VS RS [] L) (pW c N (sX p (iS p iV n) f x m) [] L):=by
 refine rl (fn:=f115) jb func115 V Z ntmps115 Z (rs:=[.tmp 2]) Z [(0,_)] Z<|lw ?_;refine px [] (.inr Z) (.t1 Z) Z (Lr D) λ_ iD=>?_;exact ⟨(1,0),m,iv,ov,R,by rw [sX,ak O,ak O,ak O,ak O,ak O,ak O,ak O,ak O,au hk],⟨rfl,⟨Θ,Θ⟩,λ_=>rfl⟩,rfl,hM.le Lc⟩
def qBP(n:Nat)(f:iM)(d:Nat)(x:iP)(hC:CT p c s)(hn:c.nf=f.params.length+f.locals.length)(hM:MG p c N m iv ov R s)(hk:x.kind=10):AP prog D 116 [.pointer (some ⟨c.bm,0,none⟩)] (MB c N 0 m iv ov 0 0::mF c m::mE c m::(R++L)) s (qa p c N (sX p (iS p iV n) f x m) VS RS [] L) (pW c N (sX p (iS p iV n) f x m) [] L):=by
 refine rl (fn:=f116) jb func116 V Z ntmps116 Z (rs:=[.tmp 2]) Z [(0,_)] Z<|lw ?_;refine px [] (.inr Z) (.t1 Z) Z (Lr D) λ_ iD=>?_;exact ⟨(2,0),m,iv,ov,R,by rw [sX,ak O,ak O,ak O,ak O,ak O,ak O,ak O,ak O,ak O],⟨rfl,⟨Θ,Θ⟩,λ_=>rfl⟩,rfl,hM.le Lc⟩
def Ck{α:Type}(m:MS):ER α->Prop
 | .ok _ m1=>m1.calls=m.calls
 | _=>True
def Ck.and{α β:Type}{r:ER α}{k:α->MS->ER β}(h:Ck m r)(hk:∀ a m1,Ck m1 (k a m1)):Ck m (r.and k):=by
 cases r with
 | out=>trivial
 | fin m1 st cd=>trivial
 | ok a m1=>
  have h2:=hk a m1;have h3:m1.calls=m.calls:=h;show Ck m (k a m1);cases hr:k a m1 with
  | out=>trivial
  | fin m2 st cd=>trivial
  | ok b m2=>rw [hr] at h2;exact (show m2.calls=m1.calls from h2).trans h3
def U1{E:Ex->MS->ER Int}(hE:∀ x m,Ck m (E x m)):∀ (l:List Ex) (m:MS),Ck m (nn E l m)
 | [],m=>by rw [nn];exact rfl
 | x::r,m=>by rw [nn];exact (hE x m).and λv m1=>(U1 hE r m1).and λ_ _=>rfl
def U2{T:iP->MS->ER (Int×Int)}(hT:∀ x m,Ck m (T x m)):∀ (l:List iP) (m:MS),Ck m (mh T l m)
 | [],m=>by rw [mh];exact rfl
 | x::r,m=>by
  rw [mh];refine (hT x m).and λy m1=>?_;split
  . exact U2 hT r m1
  . exact rfl
def qzj{p:jc}{OP:Int->Int->Int->Option Int}:∀ n,(∀ f x m,Ck m ((iS p OP n).e f x m))/\(∀ i vs m,Ck m ((iS p OP n).c i vs m))/\(∀ f x m,Ck m ((iS p OP n).t f x m))/\∀ f c b m,Ck m ((iS p OP n).w f c b m)
  | 0=>⟨λ_ _ _=>trivial,λ_ _ _=>trivial,λ_ _ _=>trivial,λ_ _ _ _=>trivial⟩
  | n+1=>by
    obtain ⟨hE,hC,hT,hW⟩:=qzj (p:=p) (OP:=OP) n;have hR:=λf=>U2 (T:=(iS p OP n).t f) (hT f);have hS:∀ m:MS,Ck m (rp m):=λm=>by unfold rp;split;exact trivial;exact rfl
    refine ⟨λf x m=>(hS m).and λ_ m=>?_,λi vs m=>?_,λf x m=>(hS m).and λ_ m=>?_,λf c b m=>?_⟩
    . unfold vX
      split;exact rfl;split;exact rfl;split
      . exact (hE _ _ _).and λi m=>by split;exact trivial;exact rfl
      split
      . exact (U1 (hE f) _ _).and λvs m=>hC _ _ _
      split
      . unfold yJ;split<;>exact rfl
      split
      . exact (hE _ _ _).and λa m=>rfl
      . refine (hE _ _ _).and λa m=>?_
        split;exact rfl;split;exact rfl;refine (hE _ _ _).and λb m=>?_;split;exact rfl;exact trivial
    . show Ck m (cX p (iS p OP n) i vs m)
      unfold cX;split
      . trivial
      . generalize mh ((iS p OP n).t (p.funcs.getD i pG)) (p.funcs.getD i pG).body _=r
        cases r<;>first|trivial|rfl
    . unfold sX
      split
      . refine (hE _ _ _).and λv m=>?_
        unfold tO;split<;>exact rfl
      split
      . refine (hE _ _ _).and λi m=>?_
        split;exact trivial;exact (hE _ _ _).and λv m=>rfl
      split
      . refine (hE _ _ _).and λv m=>?_
        split;exact hR f _ _;exact hR f _ _
      split
      . exact hW _ _ _ _
      split
      . exact (U1 (hE f) _ _).and λvs m=>(hC _ _ _).and λ_ m=>rfl
      split
      . exact (hE _ _ _).and λv m=>rfl
      split
      . refine (hE _ _ _).and λv m=>?_
        split;exact trivial;exact rfl
      split
      . exact (hE _ _ _).and λv m=>trivial
      split;exact rfl;exact rfl
    . show Ck m (wX (iS p OP n) f c b m)
      unfold wX;refine (hE _ _ _).and λv m=>?_;split;exact rfl;refine (hR f _ _).and λy m=>?_;split;exact rfl;split;exact rfl;exact hW _ _ _ _
def qKE{OP:Int->Int->Int->Option Int}{l:List iP}{m1:MS}{a:Int×Int}(h:mh ((iS p OP n).t f) l m=.ok a m1):m1.calls=m.calls:=by
 have:=U2 (T:=(iS p OP n).t f) ((qzj (p:=p) (OP:=OP) n).2.2.1 f) l m;rw [h] at this;exact this
def CT.at_(h:CT p c s)(hp:p.funcs[k]?=some fk):∃ b off d A n q,c.Af=some ⟨b,off,none⟩/\k < c.nF/\iy s b (off+k * 2) [iB ((fk.params.length+fk.locals.length:Nat):Int),.slice A n q]/\xw p fk d s A n q fk.body:=by
 obtain ⟨b,off,cs,h1,h2,_,d,A,n,q,rfl,h4⟩:=h.fn.2.2.2 k fk hp;exact ⟨b,off,d,A,n,q,h1,by rw [h.fn.1];exact (al.1 hp).1,h2,h4⟩
def qzr{sz:Nat}(h:vs.length<=sz):wv vs++(List.replicate sz (Value.int .u32 0)).drop vs.length=wv (o7 sz vs):=by
 rw [List.drop_replicate,o7,aK h,wv,wv,bO,List.map_replicate]
theorem qrz{sz:Nat}(h:vs.length<=sz):(o7 sz vs).length=sz:=by grind [o7,List.length_append]
def YP{sz:Nat}(h:∀ x∈vs,iQ x):∀ x∈o7 sz vs,iQ x:=λx hx=>by
 rcases aS.1 hx with hx|hx
 . exact h x (eb hx)
 . rw [dT] at hx;rw [hx.2];exact ⟨Θ,Θ⟩
def MG.call(h:MG p c N m iv ov R s){l:iG}(hl:l.length=nf)(hu:∀ x∈l,iQ x)(hc:¬ m.calls=100):MG p (c.wf bf nf) N { m with frm:=l,calls:=m.calls+1 } iv ov R s:=⟨h.inp,h.out,h.ug,hu,h.ua,h.ng,h.lg,hl,h.lb,h.la,h.ar,h.lo,by have:=h.lc;show m.calls+1<=100;omega,h.ll,h.lN⟩
def MG.back{m0:MS}(h:MG p (c.wf bf nf) N m iv ov R s){iv0 ov0:Value}{R0:Hl}(h0:MG p c N m0 iv0 ov0 R0 s0):MG p c N { m with frm:=m0.frm,calls:=m0.calls } iv ov R s:=⟨h.inp,h.out,h.ug,h0.uf,h.ua,h.ng,h.lg,h0.lf,h.lb,h.la,h.ar,h.lo,h0.lc,h.ll,h.lN⟩
def CT.wf(h:CT p c s)(bf nf:Nat):CT p (c.wf bf nf) s:=⟨h.fn,h.ar,h.fs,h.gu⟩
def JR{x:Nat×Obj}:(a::x::y::L).Perm (x::y::a::L):=(List.Perm.swap x a _).trans ((List.Perm.swap y a _).cons x)
def Rs{x:Nat×Obj}:(x::y::a::L).Perm (a::x::y::L):=JR.symm
def JS{x:Nat×Obj}:(x::y::z::(R++L)).Perm (x::y::(R++z::L)):=((eP (l₁:=R) (a:=z) (l₂:=L)).symm.cons y).cons x
def AP.perm{f:FuncId}{args:iz}{L1:Hl}{R R':Value->Hl->World->Prop}{X X':List PanicEntry->Hl->World->Prop}(hp:L.Perm L1)(h:AP prog D f args L1 s R X)(hq:∀ v L1' s',R v L1' s'->∃ L',L1'.Perm L'/\R' v L' s')(hx:∀ ch L1' s',X ch L1' s'->∃ L',L1'.Perm L'/\X' ch L' s'):AP prog D f args L s R' X':=
  ⟨h.1,λho=>by
    rw [uc hp _ ho];refine (h.2 (ho.perm hp)).mono ?_;rintro e w' ⟨L1',s',hw,me,hl,hr⟩;rcases hr with ⟨v,he,hr⟩|⟨ch,he,hr⟩
    . obtain ⟨L',h1,h2⟩:=hq v L1' s' hr
      exact ⟨L',s',by rw [hw,uc h1 _ me],me.perm h1,hl,.inl ⟨v,he,h2⟩⟩
    . obtain ⟨L',h1,h2⟩:=hx ch L1' s' hr
      exact ⟨L',s',by rw [hw,uc h1 _ me],me.perm h1,hl,.inr ⟨ch,he,h2⟩⟩⟩
def okF(p:jc)(c:MC)(N:Nat)(fv:Value)(r:ER Int)(L:Hl)(v:Value)(L':Hl)(s':World):Prop:=∃ a m' iv ov R,r=.ok a m'/\VE a v/\L'=x9 c N 0 m' iv ov 0 0 fv::mF c m'::(R++L)/\MG p c N m' iv ov R s'
def qKy(hp:p.funcs[k]?=some fk)(vs:iG)(m:MS):cX p S k vs m=if m.calls=100 then .fin m 1 3 else (mh (S.t fk) fk.body { m with frm:=o7 (fk.params.length+fk.locals.length) vs,calls:=m.calls+1 }).and λy m1=>.ok (if y.1=3 then y.2 else 0) { m1 with frm:=m.frm,calls:=m.calls }:=by simp [hp,cX]
def qnG(hT:CC p D n)(N:Nat)(fk:iM)(m:MS)(iv ov:Value)(R:Hl)(hC:CT p c s)(hW:lX s A1 n1 z1 vs)(hp:p.funcs[k]?=some fk)(hl:vs.length=fk.params.length)(hM:MG p c N m iv ov R s)(hr:cX p (iS p iV n) k vs m≠.out):AP prog D 67 [.pointer (some ⟨c.bm,0,none⟩),iB (k:Int),.slice A1 n1 z1] (x9 c N 0 m iv ov 0 0 (.slice F0 n0 z0)::mF c m::(R++L)) s (okF p c N (.slice F0 n0 z0) (cX p (iS p iV n) k vs m) L) (pW c N (cX p (iS p iV n) k vs m) [] L):=by
 obtain ⟨r,hq⟩:∃ r,r=cX p (iS p iV n) k vs m:=⟨_,rfl⟩;rw [<- hq] at hr ⊢;rw [qKy hp] at hq;obtain ⟨bF,oF,d,Ab,nb,cb9,hAf,hkF,hcf,hB⟩:=hC.at_ hp;have hf9:=hC.fs fk (ax hp);have l7:=hW.1;have yk:=hM.lc;have xO:vs.length<=fk.params.length+fk.locals.length:=O
 subst l7;refine rl (fn:=f67) jb func67 V Z ntmps67 Z (rs:=[.tmp 6]) Z [(0,_),(1,_),(2,_)] Z<|EE ?_ ?_<;>intro c1
 .have q9:=c1;refine G2 ?_;refine sr (first:=[]) (captured:=[]) Y3 (Fc [] N m iv ov) ?_ ?_
  .rintro _ _ sx2 tY ⟨rP,rfl⟩ tU;repeat (first|refine tE ?_|refine tH ?_)
   refine tJ [] Pr tY λ_ iD=>?_;exact ⟨rP,m,1,3,_,by rw [hq,au O],rfl,(hM.le tY).finv _ _ _ _ [mF c m]⟩
  rintro _ _ s2 h2 ⟨⟩
 have q9:¬ m.calls=100:=by have:=c1;omega
 rw [ak q9] at hq;refine G7 ?_;refine iA (kK (Wd 0 Y5) (bl (λa=>Value.slice a c.nF c.cF) hAf)) Z<|kb Y2<|iA (jK Y6 hkF) Z<|iA (ku Y3 (hcf.le (Lr D)) Z) Z<|jh Z [_,_] Y2 λβ2 s2 h2=>Wt 0 [_,_] Y9<|Nt<|Zs<|uz [] [_] ?_;intro s3 h3 ou;have e3:=h2.t h3;simp only [jC,jD];have hc7:=ou _ _ _ (aU.2 rfl);refine mY ?_;refine iA (jS Y3 (hc7.le (Lr D)) Z) Z<|qKa (m:=fk.params.length+fk.locals.length) Z Z Z Z Z Q12 O Z λβ s4 h4=>G2 ?_;refine Wt 1 [_,_,_,_,_,_,_,_,_,_,_,_] Y9<|G9 ?_;refine Kw 0 (L':=(β,cb (wv (o7 (fk.params.length+fk.locals.length) vs)) 34)::_) Y7 (hW.row.le (e3.t h4)) xO Ξ (by rw [qzr xO];rfl) Z<|Nt<|Zs<|Fg JR<|G5 ?_;have e4:=e3.t h4;refine iA (kK (nV Z Z (jq O O)) (bl (Value.int .i64) (show (m.calls:Int)+1=((m.calls+1:Nat):Int) by omega))) Z<|G2 ?_;refine Wt 0 [_,_,_,_,_,_,_,_,_,_,_,_] Y9<|G7 ?_;refine Wt 0 [_,_,_,_,_,_,_,_,_,_,_,_] Y9<|G5 ?_;refine iA (pU Y4) Z<|iA (nK 1 Y3 (hc7.le h4) Z) Z ?_;refine sr (first:=[]) (captured:=[]) Y3 (O6 hT N { m with frm:=o7 (fk.params.length+fk.locals.length) vs,calls:=m.calls+1 } iv ov R ((hC.le e4).wf _ _) Z ((hM.le e4).call (qrz xO) (YP hW.u32) q9) (hB.le e4) (rU hq hr)) ?_ ?_
 .rintro _ _ sx6 hx6 ⟨hp6,mf6,sf6,cf6,Zf6,he6,rfl,hF6⟩ tU;repeat (first|refine tE ?_|refine tH ?_)
  refine tJ [] Pr (e4|>.t hx6) λ_ iD=>?_;exact ⟨hp6,mf6,sf6,cf6,Zf6,Fs hq he6,rfl,hF6.wf⟩
 rintro _ _ s6 h6 ⟨⟨a6,y6⟩,m6,iv6,ov6,R6,he6,⟨rfl,hu6,hz6⟩,rfl,hM6⟩;have Bb:m6.calls=m.calls+1:=qKE he6;rw [he6] at hq;simp only [ER.and] at hq;rw [show (if a6=3 then y6 else 0)=y6 from by split;rfl;rename_i h8;exact (hz6 h8).symm] at hq;simp only [jC,jD];refine Dj ?_;refine X32 ?_;refine iA (kK (tD Z Z (jq O O)) (bl (Value.int .i64) (show _=((m.calls:Nat):Int) by omega))) Z<|G2 ?_;refine Wt 0 [_,_,_,_,_,_,_,_,_,_,_,_] Y9<|Nt<|Zs<|Fg Rs ?_;refine G5 ?_;refine Wt 1 [_,_,_,_,_,_,_,_,_,_,_,_] Y9<|G9 ?_;refine px [_] (.inr Z) (.t1 Z) Z (e4.t h6) λ_ iD=>?_;exact ⟨_,{ m6 with frm:=m.frm,calls:=m.calls },iv6,ov6,R6,hq,⟨rfl,hu6⟩,rfl,(hM6.back hM).le ((Lr D).t iD)⟩
def qBH(hT:CC p D n)(fk:iM)(hC:CT p c s)(hW:lX s A1 n1 c1 vs)(hp:p.funcs[k]?=some fk)(hl:vs.length=fk.params.length)(hM:MG p c N m iv ov R s)(hr:cX p (iS p iV n) k vs m≠.out):AP prog D 67 [.pointer (some ⟨c.bm,0,none⟩),iB (k:Int),.slice A1 n1 c1] (MB c N 0 m iv ov 0 0::mF c m::mE c m::(R++L)) s (qa p c N (cX p (iS p iV n) k vs m) VE RE [] L) (pW c N (cX p (iS p iV n) k vs m) [] L):=by
  refine AP.perm JS (qnG hT N fk m iv ov R hC hW hp hl hM hr) ?_ ?_
  . rintro v L1 s1 ⟨a,m',iv',ov',R',h1,h2,rfl,h4⟩
    have hf:m'.frm=m.frm:=by
      rw [cX] at h1;split at h1
      . cases h1
      . cases sQ:mh ((iS p iV n).t (p.funcs.getD k pG)) (p.funcs.getD k pG).body { m with frm:=o7 ((p.funcs.getD k pG).params.length+(p.funcs.getD k pG).locals.length) vs,calls:=m.calls+1 } with
        | out=>rw [sQ] at h1;cases h1
        | fin _ _ _=>rw [sQ] at h1;cases h1
        | ok y m2=>rw [sQ] at h1;simp only [ER.and] at h1;injection h1 with _ h1;rw [<- h1]
    refine ⟨_,JS.symm,a,m',iv',ov',R',h1,h2,?_,h4⟩;have e:mE c m=mE c m':=by rw [mE,mE,hf]
    rw [e];rfl
  . rintro ch L1 s1 ⟨h1,m',st,cd,Zq9,h2,rfl,h4⟩
    exact ⟨_,eJ _,h1,m',st,cd,Zq9++[mE c m],h2,Ξ,h4.app _⟩
def vok(p:jc)(n:Nat)(hE:ve p D n)(hK:FF p D n):Wv p D n:=by
 intro L s c N f d x w m iv ov R hC hn hv hM hr;cases hv with
 | num b A1 n1 c1 hk hc hu=>exact ⟨_,[_],rfl,qIr f hn hM hk hc hu⟩
 | slot b hk h0 hl hc=>exact ⟨_,[_],rfl,qDn hn hM hk h0 hl hc⟩
 | con b k g A n1 c1 hk hs hg hp h1 hc hu=>exact ⟨_,[_],rfl,qHA f x hn hM k hk hs hg hp h1 hc hu⟩
 | var b k g hk hs hg hp h1 hc=>exact ⟨_,[_],rfl,qJq f x hn hM g hk hs hg hp h1 hc⟩
 | idx b1 b2 k g A n1 c1 hk hg hp h3 h1 h2 hA h0=>exact ⟨_,[_,_],rfl,qIa hE hC hn hM g hk hg hp h3 h1 h2 hA h0 hr⟩
 | call w hk h=>
  obtain ⟨be,bi,A,n1,c1,k,fk,rfl,h1,h2,hA,hg,hp,hl⟩:=h;have e:vX p iV (iS p iV n) f x m=(nn ((iS p iV n).e f) x.args m).and λvs m=>(iS p iV n).c k vs m:=by rw [qED hk,hg,aD]
  rw [e] at hr ⊢;exact ⟨_,[_,_],rfl,qnH hE N f d x.args m iv ov R hC hn hM hK k fk A n1 c1 h1 h2 hA hp hl hr⟩
 | get hk=>exact ⟨_,[],rfl,qHY f x hn hM hk⟩
 | una b1 b2 A1 n1 c1 A n2 c2 hk h1 h2 hA h0=>exact ⟨_,[_,_],rfl,qJh hE hC hn hM hk h1 h2 hA h0 hr⟩
 | bin b1 b2 b3 v1 v2 hk h1 h2 h3 xN vv ho=>
  obtain ⟨b4,rfl⟩:=xN.func;obtain ⟨b5,rfl⟩:=vv.func;exact ⟨_,[_,_,_],rfl,qHf hE hC hn hM hk h1 h2 h3 xN vv hr⟩
def sok(p:jc)(n:Nat)(ihE:∀ j,j<=n->ve p D j)(ihT:∀ j,j<=n->CC p D j)(hK:FF p D n):Wn p D n:=by
 intro L s c N f d x w m iv ov R hC hn hv hM hr;have hE:=ihE n (ay _);have hT:=ihT n (ay _);cases hv with
 | setl b1 b2 v hk h0 hl h1 h2 hv=>
  obtain ⟨b4,rfl⟩:=hv.func;exact ⟨_,[_,_],rfl,qDg hE hC hn hM hk h0 hl h1 h2 hv hr⟩
 | setg b1 b2 k g v hk hs hg hp vP h1 h2 hv=>
  obtain ⟨b4,rfl⟩:=hv.func;exact ⟨_,[_,_],rfl,qDf hE hC hn hM g hk hs hg hp h1 h2 hv hr⟩
 | store b1 b2 k g A n1 c1 hk hg hp h3 h1 h2 hA h0=>exact ⟨_,[_,_],rfl,qwJ hE hC hn hM g hk hg hp h3 h1 h2 hA h0 hr⟩
 | cond b1 b2 b3 A n1 c1 B n2 c2 G n3 c3 hk h1 h2 h3 hA h0 hB hG=>exact ⟨_,[_,_,_],rfl,qBO hE hT hC hn hM hk h1 h2 h3 hA h0 hB hG hr⟩
 | loop b1 b2 A n1 c1 B n2 c2 hk h1 h2 hA h0 hB=>exact ⟨_,[_,_],rfl,qCy n ihE ihT hC hn hM hk h1 h2 hA h0 hB hr⟩
 | call b1 w hk h1 h=>
  obtain ⟨be,bi,A,n1,c1,k,fk,rfl,he,hi,hA,hg,hp,hl⟩:=h;exact ⟨_,[_],rfl,qwq hE hC hn hM hK fk hk h1 he hi hA hg hp hl hr⟩
 | ret b1 A n1 c1 hk h1 hA h0=>exact ⟨_,[_],rfl,qIM hE hC hn hM hk h1 hA h0 hr⟩
 | put b1 A n1 c1 hk h1 hA h0=>exact ⟨_,[_],rfl,qIF hE hC hn hM hk h1 hA h0 hr⟩
 | stop b1 A n1 c1 hk h1 hA h0=>exact ⟨_,[_],rfl,qwx hE hC hn hM hk h1 hA h0 hr⟩
 | brk hk=>exact ⟨_,[],rfl,qHj n f d x hC hn hM hk⟩
 | cont hk=>exact ⟨_,[],rfl,qBP n f d x hC hn hM hk⟩
def qy6(p:jc){D:Nat}:∀ n,ve p D n/\FF p D n/\CC p D n
 | 0=>⟨λ_ _ _ _ _ _ _ _ _ _ _ _ _ _ _ _ h=>absurd rfl h,λ_ _ _ _ _ _ _ _ _ _ _ _ _ _ _ _ _ _ _ h=>absurd rfl h,λ_ _ _ _ _ _ _ _ _ _ _ _ _ _ _ _ h=>absurd rfl h⟩
 | n+1=>by
  have ih:∀ j,j<=n->ve p D j/\FF p D j/\CC p D j:=λj hj=>qy6 p j;obtain ⟨hE,hK,hT⟩:=ih n (ay _);exact ⟨qu3 (vok p n hE hK),λL s c N k fk vs A n1 c1 m iv ov R hC hW hp hl hM hr=>qBH hT fk hC hW hp hl hM hr,qyx (sok p n (λj hj=>(ih j hj).1) (λj hj=>(ih j hj).2.2) hK)⟩
end
section
variable{α:Type}{f:iM}{c p1 r1 p2 r2 p3 r3:Nat}{x:iP}{A A9 P1 P2 P3:iE}
def rc(G:List Bool)(m:MS):MS:={ m with glo:=jy G m.glo,ae:=jy G m.ae }
def LM(G:List Bool)(m:MS):Prop:=m.glo.length=G.length/\m.ae.length=G.length
def Al(G:List Bool)(r r':ER α):Prop:=match r with
 | .out=>r'=.out
 | .ok a m=>LM G m/\r'=.ok a (rc G m)
 | .fin m st cd=>r'=.fin (rc G m) st cd
def Al.ok{a:α}(h:LM G m):Al G (.ok a m) (.ok a (rc G m)):=⟨h,rfl⟩
def Al.fin{st:Int}:Al G (.fin m st cd:ER α) (.fin (rc G m) st cd):=rfl
def Al.and{β:Type}{r r':ER α}{k k':α->MS->ER β}(h:Al G r r')(hk:∀ a m,LM G m->Al G (k a m) (k' a (rc G m))):Al G (r.and k) (r'.and k'):=by
 cases r with
 | out=>cases h;rfl
 | ok a m=>obtain ⟨h1,rfl⟩:=h;exact hk a m h1
 | fin m st cd=>cases h;rfl
def qy4(h:LM G m):Al G (rp m) (rp (rc G m)):=by
 unfold rp;show Al G _ (if m.left=0 then .fin (rc G m) 0 0 else _);split
 . exact Al.fin
 . exact ⟨h,rfl⟩
def TN{α:Type}:∀ {B:List Bool} {l:List α} {i:Nat} {v:α},B[i]?=some true->jy B (l.set i v)=(jy B l).set (pO B i) v
 | [],_,_,_,h=>by simp at h
 | b::B,[],_,_,_=>by simp [jy]
 | b::B,y::l,0,v,h=>by
  have h:b=true:=by simpa using h
  subst h;rw [gb,jy,jy,au rfl,au rfl,pO,gb]
 | b::B,y::l,i+1,v,h=>by
  have ih:=TN (B:=B) (l:=l) (i:=i) (v:=v) Q2;rw [dr,jy,jy,pO,ih];split
  . rw [dr]
  . rfl
def NK{l:List α}{i:Nat}{d:α}(hl:i < l.length)(h:B[i]?=some true):(jy B l).getD (pO B i) d=l.getD i d:=by
 rw [aG,aG,Bu (ap hl) h,ap hl]
def qoN{c k:Int}(h:(j7 p f nm).1=(c,k))(hc:c=3\/c=4):¬ 0<=k8 f nm:=by
 unfold j7 at h;split at h
 . injection h with h1 _;omega
 rename_i k1;split at h
 . injection h with h1 _;omega
 rename_i k2;rw [k8,ak k1,ak k2];decide
def qoO(h:(j7 p f nm).1.1=1\/(j7 p f nm).1.1=2):0<=k8 f nm:=by
 unfold j7 at h;split at h
 . rename_i k1;rw [k8,au k1];exact k1
 rename_i k1;split at h
 . rename_i k2;rw [k8,ak k1,au k2];omega
 cases hf:(jY p).find? λe=>decide (e.1=nm) with
 | none=>rw [hf] at h;rcases h with h|h<;>cases h
 | some e=>
  rw [hf] at h;simp only at h;rcases NW hf with ⟨i,g,_,_,hc⟩|⟨i,g,_,_,hc⟩<;>(rw [hc] at h;rcases h with h|h<;>cases h)
def qry{c k:Int}(h:(j7 p f nm).1=(c,k))(hc:c=3\/c=4):∃ e,(jY p).find? (λe=>decide (e.1=nm))=some e/\e.2=(c,k):=by
 unfold j7 at h;split at h
 . injection h with h1 _;omega
 split at h
 . injection h with h1 _;omega
 cases hf:(jY p).find? λe=>decide (e.1=nm) with
 | none=>rw [hf] at h;injection h with h1 _;omega
 | some e=>rw [hf] at h;exact ⟨e,rfl,h⟩
def Ue(kO:((jY p).map (·.1)).Nodup)(h:(j7 p f nm).1=((3:Int),(k:Int))):mS p nm=(k:Int)/\k < p.o.length:=by
  obtain ⟨e,he,h2⟩:=qry h (.inl rfl);rcases NW he with ⟨i,g,a,b,c⟩|⟨i,g,a,b,c⟩
  . rw [h2] at c
    injection c with _ c;obtain rfl:k=i:=O
    obtain ⟨hl,rfl⟩:=al.1 a;refine ⟨?_,hl⟩;have:=F8 (p:=λg:jv=>decide (g.name=nm)) (l:=p.o) (k:=k) (j:=0) (a:=p.o[k]) (λj y hj hy=>by
      cases hq:decide (y.name=nm) with
      | false=>rfl
      | true=>
        exfalso;have hq:y.name=nm:=by simpa using hq
        have q1:=AA kO (OV hy);have q2:=AA kO (OV a);simp only [hq,b] at q1 q2;rw [q1] at q2;simp at q2;omega) a (by simpa using b)
    rw [mS,this];simp
  . rw [h2] at c;cases c
def Uq(kO:((jY p).map (·.1)).Nodup)(h:(j7 p f nm).1=((4:Int),(k:Int))):r9 p nm=(k:Int)/\k < p.funcs.length:=by
  obtain ⟨e,he,h2⟩:=qry h (.inr rfl);rcases NW he with ⟨i,g,a,b,c⟩|⟨i,g,a,b,c⟩
  . rw [h2] at c;cases c
  . rw [h2] at c
    injection c with _ c;obtain rfl:k=i:=O
    obtain ⟨hl,rfl⟩:=al.1 a;refine ⟨?_,hl⟩;have:=F8 (p:=λg:iM=>decide (g.name=nm)) (l:=p.funcs) (k:=k) (j:=0) (a:=p.funcs[k]) (λj y hj hy=>by
      cases hq:decide (y.name=nm) with
      | false=>rfl
      | true=>
        exfalso;have hq:y.name=nm:=by simpa using hq
        have q1:=AA kO (CU hy);have q2:=AA kO (CU a);simp only [hq,b] at q1 q2;rw [q1] at q2;simp at q2;omega) a (by simpa using b)
    rw [r9,this];simp
section
variable{OP:Int->Int->Int->Option Int}
def vF(p:jc)(F G:List Bool):jc:=⟨jy G p.o,jy F p.funcs⟩
def Js(p:jc)(F G:List Bool)(f:iM)(nd:Nd):Prop:=jJ p f nd=0/\(∀ g:Nat,(g:Int)∈qq p f 3 nd->G[g]?=some true)/\∀ k:Nat,(k:Int)∈qq p f 4 nd->F[k]?=some true
def XK(p:jc)(F G:List Bool)(f:iM)(x:Ex):Prop:=∃ lp,∀ nd∈oA x lp,Js p F G f nd
def yU(p:jc)(F G:List Bool)(f:iM)(x:iP):Prop:=∃ lp,∀ nd∈tA x lp,Js p F G f nd
structure EG(p:jc)(F G:List Bool):Prop where
 nd:((jY p).map (·.1)).Nodup
 nd':((jY (vF p F G)).map (·.1)).Nodup
 lenG:G.length=p.o.length
 fs:∀ (i:Nat) (f:iM),p.funcs[i]?=some f->F[i]?=some true->∀ x∈f.body,yU p F G f x
def Ku{x:Ex}{lp:Nat}{nd:Nd}:∀ {l:List Ex},x∈l->nd∈oA x lp->nd∈oY l lp
 | [],h,_=>by cases h
 | y::r,h,hn=>by
  rw [oY];rcases aR.1 h with rfl|h
  . exact aI _ hn
  . exact aF _ (Ku h hn)
def Fe{x:iP}{lp:Nat}{nd:Nd}:∀ {l:List iP},x∈l->nd∈tA x lp->nd∈ly l lp
 | [],h,_=>by cases h
 | y::r,h,hn=>by
  rw [ly];rcases aR.1 h with rfl|h
  . exact aI _ hn
  . exact aF _ (Fe h hn)
def XK.args{x:Ex}(h:XK p F G f x):∀ y∈x.args,XK p F G f y:=by
 obtain ⟨lp,h⟩:=h;obtain ⟨k,o,u,nm,ar⟩:=x;exact λy hy=>⟨lp,λnd hn=>h nd (by rw [oA];exact an _ (Ku hy hn))⟩
def yU.exprs(h:yU p F G f x):∀ y∈x.exprs,XK p F G f y:=by
 obtain ⟨lp,h⟩:=h;obtain ⟨k,nm,es,b,el⟩:=x;exact λy hy=>⟨lp,λnd hn=>h nd (by rw [tA];exact an _ (aI _ (Ku hy hn)))⟩
def yU.body(h:yU p F G f x):∀ y∈x.body,yU p F G f y:=by
 obtain ⟨lp,h⟩:=h;obtain ⟨k,nm,es,b,el⟩:=x;exact λy hy=>⟨_,λnd hn=>h nd (by rw [tA];exact an _ (aF _ (aI _ (Fe hy hn))))⟩
def yU.els(h:yU p F G f x):∀ y∈x.els,yU p F G f y:=by
 obtain ⟨lp,h⟩:=h;obtain ⟨k,nm,es,b,el⟩:=x;exact λy hy=>⟨_,λnd hn=>h nd (by rw [tA];exact an _ (aF _ (aF _ (Fe hy hn))))⟩
def T5{x:Ex}(h:XK p F G f x):∃ lp,Js p F G f (.ex x lp):=by
 obtain ⟨lp,h⟩:=h;obtain ⟨k,o,u,nm,ar⟩:=x;exact ⟨lp,h _ Q29⟩
def TO(h:yU p F G f x):∃ lp,Js p F G f (.st x lp):=by
 obtain ⟨lp,h⟩:=h;obtain ⟨k,nm,es,b,el⟩:=x;exact ⟨lp,h _ (by rw [tA];exact cQ ..)⟩
inductive Mn(p:jc)(F G:List Bool)(f:iM)(nm:iH)(uk:Int):Prop where
 | slot (h:0<=k8 f nm) (hu:uk=1\/uk=2)
 | glo (k:Nat) (h:¬ 0<=k8 f nm) (h1:mS p nm=(k:Int)) (h2:mS (vF p F G) nm=(pO G k:Int)) (hl:k < p.o.length) (hG:G[k]?=some true) (hu:uk≠4)
 | fn (k:Nat) (h1:r9 p nm=(k:Int)) (h2:r9 (vF p F G) nm=(pO F k:Int)) (hl:k < p.funcs.length) (hF:F[k]?=some true) (hu:uk=4)
def GN(hT:EG p F G){nd:Nd}(h:Js p F G f nd)(hu:nd.use.2.1≠0):Mn p F G f nd.use.1 nd.use.2.1:=by
  obtain ⟨h1,h2,h3⟩:=h;obtain ⟨a1,a2,_⟩:=NS (Kt h1).1 hu;have hr:=OF (p:=p) (F:=F) (G:=G) hT.nd' h1 h2 h3 hu;rcases Ds a1 with k1|⟨k1,k,k2,k3⟩|⟨k1,k,k2,k3⟩
  . exact .slot (qoO k1) (by unfold uX at a2;omega)
  . have e:=Gj k1 k2
    have e2:(j7 (vF p F G) f nd.use.1).1=((3:Int),((pO G k:Nat):Int)):=by
      show (j7 ⟨jy G p.o,jy F p.funcs⟩ f nd.use.1).1=_;rw [hr,e,BM,au rfl,aD]
    exact .glo k (qoN e (.inl rfl)) (Ue hT.nd e).1 (Ue hT.nd' e2).1 k3 (h2 k (DH hu e)) (by unfold uX at a2;omega)
  . have e:=Gj k1 k2
    have e2:(j7 (vF p F G) f nd.use.1).1=((4:Int),((pO F k:Nat):Int)):=by
      show (j7 ⟨jy G p.o,jy F p.funcs⟩ f nd.use.1).1=_;rw [hr,e,BM,ak (show ¬ (4:Int)=3 by decide),au rfl,aD]
    exact .fn k (Uq hT.nd e).1 (Uq hT.nd' e2).1 k3 (h3 k (DH hu e)) (by unfold uX at a2;omega)
def Qv(p:jc)(F G:List Bool)(S S':Sem):Prop:=(∀ f x m,XK p F G f x->LM G m->Al G (S.e f x m) (S'.e f x (rc G m)))/\(∀ (i:Nat) vs m,i < p.funcs.length->F[i]?=some true->LM G m->Al G (S.c i vs m) (S'.c (pO F i) vs (rc G m)))/\(∀ f x m,yU p F G f x->LM G m->Al G (S.t f x m) (S'.t f x (rc G m)))/\∀ f c b m,XK p F G f c->(∀ x∈b,yU p F G f x)->LM G m->Al G (S.w f c b m) (S'.w f c b (rc G m))
def UJ{E E':Ex->MS->ER Int}:∀ (l:List Ex) (m:MS),(∀ x∈l,∀ m,LM G m->Al G (E x m) (E' x (rc G m)))->LM G m->Al G (nn E l m) (nn E' l (rc G m))
 | [],m,_,hm=>by rw [nn,nn];exact Al.ok hm
 | x::r,m,h,hm=>by
  rw [nn,nn];exact (h x Mc m hm).and λv m1 h1=>(UJ r m1 (λy hy=>h y (an _ hy)) h1).and λ_ _ h2=>Al.ok h2
def KS{T T':iP->MS->ER (Int×Int)}:∀ (l:List iP) (m:MS),(∀ x∈l,∀ m,LM G m->Al G (T x m) (T' x (rc G m)))->LM G m->Al G (mh T l m) (mh T' l (rc G m))
 | [],m,_,hm=>by rw [mh,mh];exact Al.ok hm
 | x::r,m,h,hm=>by
  rw [mh,mh];refine (h x Mc m hm).and λy m1 h1=>?_;split
  . exact KS r m1 (λy hy=>h y (an _ hy)) h1
  . exact Al.ok h1
def qy7{l:List Ex}(h:∀ y∈l,XK p F G f y)(i:Nat):XK p F G f (kP l i):=by
 unfold kP;rw [aG];cases hl:l[i]? with
 | none=>
  refine ⟨0,λnd hn=>?_⟩;simp only [Option.getD_none,EL,oA,oY,aU] at hn;subst hn;exact ⟨rfl,λg hg=>by simp [qq,Nd.use,oS,Ex.kind] at hg,λg hg=>by simp [qq,Nd.use,oS,Ex.kind] at hg⟩
 | some x=>exact h x (ax hl)
def UK(hT:EG p F G)(h1:mS p nm=(k:Int))(h2:mS (vF p F G) nm=(pO G k:Int))(hl:k < p.o.length)(hG:G[k]?=some true)(hm:LM G m):ns (vF p F G) nm (rc G m)=ns p nm m:=by
 unfold ns;rw [h1,h2,aD,aD];exact NK (by rw [hm.2,hT.lenG];exact hl) hG
def qCC(hT:EG p F G){x:Ex}(hX:XK p F G f x)(hk:x.kind=2)(hm:LM G m):xb (vF p F G) f x.name (rc G m)=xb p f x.name m:=by
 obtain ⟨lp,h⟩:=T5 hX;have hn9:(2:Int)≠0:=Θ
 have hu:(Nd.ex x lp).use=(x.name,2,0):=by rw [Nd.use,oS,au hk]
 have:=GN hT h Q20;rw [hu] at this;unfold xb;cases this with
 | slot h1 _=>rw [au h1,au h1];rfl
 | glo k h1 h2 h3 hl hG _=>
  rw [ak h1,ak h1,h2,h3,aD,aD];have e1:(vF p F G).o.getD (pO G k) Nc=p.o.getD k Nc:=NK hl hG;have e2:(rc G m).glo.getD (pO G k) 0=m.glo.getD k 0:=NK (by rw [hm.1,hT.lenG];exact hl) hG;rw [e1,e2]
 | fn k _ _ _ _ h5=>cases h5
def qG3(h:LM G m):Al G (yJ m) (yJ (rc G m)):=by
 obtain ⟨g,a,f,inp,l,c,o⟩:=m;cases inp<;>exact ⟨h,rfl⟩
def qKl(hT:EG p F G)(hS:Qv p F G S S'){x:Ex}(hX:XK p F G f x)(hm:LM G m):Al G (vX p OP S f x m) (vX (vF p F G) OP S' f x (rc G m)):=by
  obtain ⟨hE,hC,hT',hW⟩:=hS;have hA:=λi=>qy7 hX.args i;unfold vX;split
  . exact Al.ok hm
  split
  . rename_i hk;rw [qCC hT hX hk hm];exact Al.ok hm
  split
  . rename_i hk
    obtain ⟨lp,h⟩:=T5 hX;have hn9:(3:Int)≠0:=Θ
    have hu:(Nd.ex x lp).use=(x.name,3,0):=by rw [Nd.use,oS,ak O,au hk]
    have:=GN hT h Q20;rw [hu] at this;cases this with
    | slot _ h5=>rcases h5 with h5|h5<;>cases h5
    | fn k _ _ _ _ h5=>cases h5
    | glo k h1 h2 h3 hl hG _=>
      refine (hE _ _ _ (hA 0) hm).and λi m1 nT=>?_;rw [UK hT h2 h3 hl hG nT];split
      . exact Al.fin
      . exact Al.ok nT
  split
  . rename_i hk
    obtain ⟨lp,h⟩:=T5 hX;have hn9:(4:Int)≠0:=Θ
    have hu:(Nd.ex x lp).use=(x.name,4,(x.args.length:Int)):=by rw [Nd.use,oS,ak O,ak O,au hk]
    have:=GN hT h Q20;rw [hu] at this;cases this with
    | slot _ h5=>rcases h5 with h5|h5<;>cases h5
    | glo k _ _ _ _ _ h5=>exact absurd rfl h5
    | fn k h2 h3 hl hF _=>
      rw [h2,h3,aD,aD];exact (UJ _ _ (λy hy m hm=>hE f y m (hX.args y hy) hm) hm).and λvs m1 nT=>hC _ _ _ hl hF nT
  split
  . exact qG3 hm
  split
  . exact (hE _ _ _ (hA 0) hm).and λa m1 nT=>Al.ok nT
  . refine (hE _ _ _ (hA 0) hm).and λa m1 nT=>?_
    split
    . exact Al.ok nT
    split
    . exact Al.ok nT
    . refine (hE _ _ _ (hA 1) nT).and λb m2 vR=>?_
      split
      . exact Al.ok vR
      . exact Al.fin
def qKk(hT:EG p F G)(hS:Qv p F G S S')(hX:yU p F G f x)(hm:LM G m):Al G (sX p S f x m) (sX (vF p F G) S' f x (rc G m)):=by
  obtain ⟨hE,hC,hT',hW⟩:=hS;have hA:=λi=>qy7 hX.exprs i;unfold sX;split
  . rename_i hk
    obtain ⟨lp,h⟩:=TO hX;have hn9:(1:Int)≠0:=Θ
    have hu:(Nd.st x lp).use=(x.name,1,0):=by rw [Nd.use,o6,au hk]
    have:=GN hT h Q20;rw [hu] at this;refine (hE _ _ _ (hA 0) hm).and λv m1 nT=>?_;cases this with
    | fn k _ _ _ _ h5=>cases h5
    | slot h1 _=>rw [tO,au h1,tO,au h1];exact ⟨nT,rfl⟩
    | glo k h1 h2 h3 hl hG _=>
      rw [tO,ak h1,tO,ak h1,h2,h3,aD,aD];refine ⟨⟨by simp only [cD];exact nT.1,nT.2⟩,?_⟩;show ER.ok (0,0) { rc G m1 with glo:=(jy G m1.glo).set (pO G k) v }=.ok (0,0) { m1 with glo:=jy G (m1.glo.set k v),ae:=jy G m1.ae };rw [TN hG];rfl
  split
  . rename_i hk
    obtain ⟨lp,h⟩:=TO hX;have hn9:(3:Int)≠0:=Θ
    have hu:(Nd.st x lp).use=(x.name,3,0):=by rw [Nd.use,o6,ak O,au hk]
    have:=GN hT h Q20;rw [hu] at this;cases this with
    | slot _ h5=>rcases h5 with h5|h5<;>cases h5
    | fn k _ _ _ _ h5=>cases h5
    | glo k h1 h2 h3 hl hG _=>
      refine (hE _ _ _ (hA 0) hm).and λi m1 nT=>?_;rw [UK hT h2 h3 hl hG nT];split
      . exact Al.fin
      . refine (hE _ _ _ (hA 1) nT).and λv m2 vR=>?_
        rw [UK hT h2 h3 hl hG vR,h2,h3,aD,aD];refine ⟨⟨vR.1,by simp only [cD];exact vR.2⟩,?_⟩;show ER.ok (0,0) { rc G m2 with ae:=(jy G m2.ae).set (pO G k) ((ns p x.name m2).set i.toNat v) }=.ok (0,0) { m2 with glo:=jy G m2.glo,ae:=jy G (m2.ae.set k ((ns p x.name m2).set i.toNat v)) };rw [TN hG];rfl
  split
  . refine (hE _ _ _ (hA 0) hm).and λv m1 nT=>?_
    split
    . exact KS _ _ (λy hy m hm=>hT' f y m (hX.body y hy) hm) nT
    . exact KS _ _ (λy hy m hm=>hT' f y m (hX.els y hy) hm) nT
  split
  . exact hW _ _ _ _ (hA 0) hX.body hm
  split
  . rename_i hk
    obtain ⟨lp,h⟩:=TO hX;have hn9:(4:Int)≠0:=Θ
    have hu:(Nd.st x lp).use=(x.name,4,(x.exprs.length:Int)):=by rw [Nd.use,o6,ak O,ak O,au hk]
    have:=GN hT h Q20;rw [hu] at this;cases this with
    | slot _ h5=>rcases h5 with h5|h5<;>cases h5
    | glo k _ _ _ _ _ h5=>exact absurd rfl h5
    | fn k h2 h3 hl hF _=>
      rw [h2,h3,aD,aD];exact (UJ _ _ (λy hy m hm=>hE f y m (hX.exprs y hy) hm) hm).and λvs m1 nT=>(hC _ _ _ hl hF nT).and λ_ m2 vR=>Al.ok vR
  split
  . exact (hE _ _ _ (hA 0) hm).and λv m1 nT=>Al.ok nT
  split
  . refine (hE _ _ _ (hA 0) hm).and λv m1 nT=>?_
    show Al G _ (if 20000<=m1.out.length then .fin (rc G m1) 5 0 else _);split
    . exact Al.fin
    . exact ⟨nT,rfl⟩
  split
  . exact (hE _ _ _ (hA 0) hm).and λv m1 nT=>Al.fin
  split
  . exact Al.ok hm
  . exact Al.ok hm
def qy3(hT:EG p F G):∀ n,Qv p F G (iS p OP n) (iS (vF p F G) OP n)
  | 0=>⟨λ_ _ _ _ _=>rfl,λ_ _ _ _ _ _=>rfl,λ_ _ _ _ _=>rfl,λ_ _ _ _ _ _ _=>rfl⟩
  | n+1=>by
    have hS:=qy3 hT n;refine ⟨λf x m hX hm=>(qy4 hm).and λ_ m1 nT=>qKl hT hS hX nT,λi vs m hi hF hm=>?_,λf x m hX hm=>(qy4 hm).and λ_ m1 nT=>qKk hT hS hX nT,λf c b m hX hB hm=>?_⟩
    . obtain ⟨hE,hC,hT',hW⟩:=hS
      show Al G (cX p (iS p OP n) i vs m) (cX (vF p F G) (iS (vF p F G) OP n) (pO F i) vs (rc G m));unfold cX;have e1:(vF p F G).funcs.getD (pO F i) pG=p.funcs.getD i pG:=NK hi hF;rw [e1];show Al G _ (if m.calls=100 then .fin (rc G m) 1 3 else _);split
      . exact Al.fin
      . have hf:p.funcs[i]?=some (p.funcs.getD i pG):=by rw [aG,ap hi];rfl
        exact (KS _ { m with frm:=o7 ((p.funcs.getD i pG).params.length+(p.funcs.getD i pG).locals.length) vs,calls:=m.calls+1 } (λy hy m hm=>hT' _ y m (hT.fs i _ hf hF y hy) hm) hm).and λy m1 nT=>⟨nT,rfl⟩
    . obtain ⟨hE,hC,hT',hW⟩:=hS
      show Al G (wX (iS p OP n) f c b m) (wX (iS (vF p F G) OP n) f c b (rc G m));unfold wX;refine (hE _ _ _ hX hm).and λv m1 nT=>?_;split
      . exact Al.ok nT
      . refine (KS _ _ (λy hy m hm=>hT' f y m (hB y hy) hm) nT).and λy m2 vR=>?_
        split
        . exact Al.ok vR
        split
        . exact Al.ok vR
        . exact hW _ _ _ _ hX hB vR
def TM{α β:Type}(g:α->β):∀ (B:List Bool) (l:List α),jy B (l.map g)=(jy B l).map g
 | [],_=>by simp [jy]
 | b::B,[]=>by simp [jy]
 | b::B,y::l=>by
  rw [aN,jy,jy,TM g B l];split<;>rfl
def qr1(v:α)(B:List Bool):∀ (l:List jv),jy B (List.replicate l.length v)=List.replicate (jy B l).length v:=λl=>by
 have h1:List.replicate l.length v=l.map λ_=>v:=(List.map_const' ..).symm;have h2:List.replicate (jy B l).length v=(jy B l).map λ_=>v:=(List.map_const' ..).symm;rw [h1,h2,TM]
def qHd(inp:iH)(ka:Nat):qD (vF p F G) inp ka=rc G (qD p inp ka):=by
 show MS.mk (List.replicate (jy G p.o).length 0) ((jy G p.o).map λg=>if g.kind=3 then o7 g.num.toNat g.init else []) [] inp ka 0 []=MS.mk (jy G (List.replicate p.o.length 0)) (jy G (p.o.map λg=>if g.kind=3 then o7 g.num.toNat g.init else [])) [] inp ka 0 [];rw [qr1,TM]
def qCT{a:Nat}{r r':ER Int}(h:Al G r r'):xZ a r'=xZ a r:=by
 cases r with
 | out=>cases h;rfl
 | ok v m=>obtain ⟨_,rfl⟩:=h;rfl
 | fin m st cd=>cases h;rfl
end
def qyw{q:jc}{OP:Int->Int->Int->Option Int}(hu:qd p)(h0:(kG p).1=0)(hT:CV p q)(n:Nat)(inp:iH)(a:Nat):∃ mp mq:Nat,nM p.funcs=(mp:Int)/\nM q.funcs=(mq:Int)/\xZ a (yH q OP n mq inp a)=xZ a (yH p OP n mp inp a):=by
 rcases hT with ⟨h1,_⟩|⟨_,F,G,hM,rfl⟩
 . exact absurd h0 h1
 obtain ⟨⟨hV,hn,kO⟩,hz⟩:=qP.of hu h0;have pI:=KE (F:=F) (G:=G) hu h0;have hT:EG p F G:=⟨(An (p:=p) (by rw [hn])).1,pI,hM.2.1,λi f hf hF x hx=>⟨0,λnd hm=>by
  have h2:=Fe hx hm;have h3:=Pf hM hF hf h2;exact ⟨kO f (ax hf) nd h2,h3.1,h3.2⟩⟩⟩
 obtain ⟨mi,x,m1,m2,m3,m4⟩:=NL hn;obtain ⟨_,_,mi',m5,m6,m7,_⟩:=hM;obtain rfl:mi'=mi:=O
 have hF:=(m7 mi').2 (.refl _);have hk:=Bu m2 hF;have hge:¬ nM (jy F p.funcs) < 0:=by
  intro kZ;have:=TJ kZ x (ax hk);rw [m3] at this;simp at this
 obtain ⟨k,pj⟩:=aZ (show 0<=nM (jy F p.funcs) by omega);obtain ⟨_,y,hy,hq⟩:=F7 (show j6 (λx:iM=>decide (x.name=mu)) (jy F p.funcs) 0=(k:Int) from pj);rw [eO] at hy;have hkr:=TF pI hk hy Q28;refine ⟨mi',pO F mi',m1,by rw [hkr];exact pj,?_⟩;have h:=(qy3 (OP:=OP) hT n).2.1 mi' [] (qD p inp a) m6 hF ⟨by simp [qD,hT.lenG],by simp [qD,hT.lenG]⟩;unfold yH;rw [show (⟨jy G p.o,jy F p.funcs⟩:jc)=vF p F G from rfl,qHd];exact qCT h
attribute [local irreducible] JC JO JA JB ma mO mX AC fill iy QE Ev my
def HD{p:Prop} (h:p:=by
 refine ⟨?_,Z⟩;first
  | (simp only [kU];rw [F8 hI hx hz,aX])
  | (simp only [kU];rw [Tj (λi a hi h=>hI i a O h)])):p:=h
def Xq{p:Prop} (h:p:=by
 refine lw ?_;exact rR [] L (.t1 Z) Z I1.1 λ_ iD=>HD):p:=h
def If{p:Prop} (h:p:=by
  rintro _ _ s3 h3 ⟨rfl,rfl⟩;refine G2 ?_;refine su Z ?_ ?_<;>intro c4;.have hz:=c4;refine mY ?_;exact rX [] L Z (I1.1.t h3) λ_ iD=>HD
  have hz:=c4;refine G4 ?_;refine kq Y3 (jq O O)<|G2 ?_;refine iU ⟨(k+1),[],kp,Z,⟨(I1.1.t h3),⟨by omega,Dq hI hx hz⟩⟩,O⟩):p:=h
def qvr(l:List jv)(hA:ja s A n c l){fi:FuncId}{cap:iz}(q:jv->Bool)(hp:∀ s' g (A9:iE) (n9 c9:Nat),Le D s s'->jT D fi ([.agg #[iB g.kind,St g.name,iJ g.num,.slice A9 n9 c9]]++cap) L s' (.bool (q g))):jT D 148 [.slice A n c,.func (.func fi) #[] cap.toArray] L s (iB (j6 q l 0)):=by
 have hn:=hA.1;have nI:=hA.2.1;have pt:=hA.2.2.1;refine jn (fn:=f148) jb func148 V Z ntmps148 Z (rs:=[.tmp 4]) Z [(0,_),(1,_)] Z<|rH ?_;refine lJ (γ:=Nat) (λk=>[(0,_),(1,_),(4,_),(7,_),(8,iB (k:Int))]) (λ_=>_) (λk tw=>Le D s tw/\(k<=n/\∀ i x,i < k->l[i]?=some x->q x=false)) (λk=>n - k) (λ_ _ _ h hl=>⟨h.1.trans hl,h.2⟩) 0 (.c5 Z Z Z Z Z (.nil _)) Z ⟨Le.refl _,⟨aB _,λi x hi=>O⟩⟩ ?_;intro k s1 I1;have ko:=I1.2.1;have hI:=I1.2.2;refine J6 ?_ ?_<;>intro c2
 .have hk:k < n:=O
  obtain ⟨b,off,x,A',n',c',rfl,hx,hcx,_⟩:=ja.at_ (hA.le I1.1) hk;refine xe ?_;refine iA (jK Y6 hk) Z<|iA (ku Y3 hcx Z) Z<|ub (first:=[]) (captured:=cap) Z Z Z (hp _ x A' n' c' I1.1) ?_;exact If
 exact Xq
def qu9(d:Nat)(l:List iM)(hA:jl d s A n c l){fi:FuncId}{cap:iz}(q:iM->Bool)(hp:∀ s' g (A7:iE) (n7 c7:Nat) (A8:iE) (n8 c8:Nat) (A9:iE) (n9 c9:Nat),Le D s s'->jT D fi ([.agg #[St g.name,.slice A7 n7 c7,.slice A8 n8 c8,.slice A9 n9 c9]]++cap) L s' (.bool (q g))):jT D 202 [.slice A n c,.func (.func fi) #[] cap.toArray] L s (iB (j6 q l 0)):=by
 have hn:=hA.1;have nI:=hA.2.1;have pt:=hA.2.2.1;refine jn (fn:=f202) jb func202 V Z ntmps202 Z (rs:=[.tmp 4]) Z [(0,_),(1,_)] Z<|rH ?_;refine lJ (γ:=Nat) (λk=>[(0,_),(1,_),(4,_),(7,_),(8,iB (k:Int))]) (λ_=>_) (λk tw=>Le D s tw/\(k<=n/\∀ i x,i < k->l[i]?=some x->q x=false)) (λk=>n - k) (λ_ _ _ h hl=>⟨h.1.trans hl,h.2⟩) 0 (.c5 Z Z Z Z Z (.nil _)) Z ⟨Le.refl _,⟨aB _,λi x hi=>O⟩⟩ ?_;intro k s1 I1;have ko:=I1.2.1;have hI:=I1.2.2;refine J6 ?_ ?_<;>intro c2
 .have hk:k < n:=O
  obtain ⟨b,off,x,B1,m1,e1,B2,m2,e2,B3,m3,e3,rfl,hx,hcx,_⟩:=jl.at_ (hA.le I1.1) hk;refine xe ?_;refine iA (jK Y6 hk) Z<|iA (ku Y3 hcx Z) Z<|ub (first:=[]) (captured:=cap) Z Z Z (hp _ x B1 m1 e1 B2 m2 e2 B3 m3 e3 I1.1) ?_;exact If
 exact Xq
def qCf{g:jv}(hc:iy s b 0 [St nm]):jT D 149 [.agg #[iB g.kind,St g.name,iJ g.num,.slice A9 n9 c9],iT b] L s (.bool (decide (g.name=nm))):=by
 refine jn (fn:=f149) jb func149 V Z ntmps149 Z (rs:=[.tmp 3]) Z [(0,_),(1,_)] Z<|Sr<|kF Y2 λβ1 s1 h1=>G7 ?_;refine iA (jS Y3 Pz Z) Z<|uZ Y3<|G4 ?_;exact rX [_] L Z h1 λ_ iD=>qH
def qBG{g:iM}{n7 c7:Nat}{n8 c8:Nat}(hc:iy s b 0 [St nm]):jT D 203 [.agg #[St g.name,.slice A7 n7 c7,.slice A8 n8 c8,.slice A9 n9 c9],iT b] L s (.bool (decide (g.name=nm))):=by
 refine jn (fn:=f203) jb func203 V Z ntmps203 Z (rs:=[.tmp 3]) Z [(0,_),(1,_)] Z<|Sr<|kF Y2 λβ1 s1 h1=>G7 ?_;refine iA (jS Y3 Pz Z) Z<|uZ Y3<|G4 ?_;exact rX [_] L Z h1 λ_ iD=>qH
def W1{p:Prop} (h:p:=by
 rintro _ _ s4 h4 ⟨rfl,rfl⟩;refine G4 ?_;exact rX [_] L Z Lc λ_ iD=>qH):p:=h
def NY(d0:Nat)(p:jc)(jF:ja s Ag ng cg p.o)(jX:jl d0 s Af nf cf p.funcs)(qU:iO s P1 p1 r1 f.params)(qV:iO s P2 p2 r2 f.locals):jT D 104 [.agg #[.slice Ag ng cg,.slice Af nf cf,St f.name,.slice P1 p1 r1,.slice P2 p2 r2,.slice P3 p3 r3],St nm] L s (iB (mS p nm)):=by
 refine jn (fn:=f104) jb func104 V Z ntmps104 Z (rs:=[.tmp 4]) Z [(0,_),(1,_)] Z<|Sr<|kF Y2 λβ1 s1 h1=>BG Z Z Z λβ2 s2 h2=>At Z Z<|Zs<|uz [] [_] ?_;intro s3 h3 ou;simp only [jC,jD];have sK:=ou _ _ _ (aU.2 rfl);refine G4 ?_;refine iA (qZ Z) Z<|Jc Y3 (qvr p.o Pz (λg=>decide (g.name=nm)) (λs9 g A9 n9 c9 q9=>qCf ((sK.le (Lr D)).le q9))) ?_;exact W1
def qq2(d0:Nat)(p:jc)(jF:ja s Ag ng cg p.o)(jX:jl d0 s Af nf cf p.funcs)(qU:iO s P1 p1 r1 f.params)(qV:iO s P2 p2 r2 f.locals):jT D 150 [.agg #[.slice Ag ng cg,.slice Af nf cf,St f.name,.slice P1 p1 r1,.slice P2 p2 r2,.slice P3 p3 r3],St nm] L s (iB (r9 p nm)):=by
 refine jn (fn:=f150) jb func150 V Z ntmps150 Z (rs:=[.tmp 4]) Z [(0,_),(1,_)] Z<|Sr<|kF Y2 λβ1 s1 h1=>BG Z Z Z λβ2 s2 h2=>At Z Z<|Zs<|uz [] [_] ?_;intro s3 h3 ou;simp only [jC,jD];have sK:=ou _ _ _ (aU.2 rfl);refine G4 ?_;refine iA (qZ Z) Z<|Jc Y3 (qu9 d0 p.funcs Pz (λg=>decide (g.name=nm)) (λs9 g A7 n7 c7 A8 n8 c8 A9 n9 c9 q9=>qBG ((sK.le (Lr D)).le q9))) ?_;exact W1
def SG{p:Prop} (h:p:=by
 exact ⟨by rw [hE];first|rfl|(simp only [kU];rw [l7]),rfl⟩):p:=h
def qoU(d0:Nat)(p:jc)(jF:ja s Ag ng cg p.o)(jX:jl d0 s Af nf cf p.funcs)(qU:iO s P1 p1 r1 f.params)(qV:iO s P2 p2 r2 f.locals)(jp:f.params.length+f.locals.length<=100):jT D 145 [.agg #[.slice Ag ng cg,.slice Af nf cf,St f.name,.slice P1 p1 r1,.slice P2 p2 r2,.slice P3 p3 r3],St nm] L s (iB (k8 f nm)):=by
 have l7:=qU.1;have oW:=qV.1;have pr:=qU.2.1;have tV:=qU.2.2.1;have y9:=qV.2.1;have hb4:=qV.2.2.1;have hi1:=Gg (p:=λx=>decide (@Eq iH nm x)) (l:=f.params) (k:=0);have xH:=Gg (p:=λx=>decide (@Eq iH nm x)) (l:=f.locals) (k:=0);refine jn (fn:=f145) jb func145 V Z ntmps145 Z (rs:=[.tmp 4]) Z [(0,_),(1,_)] Z<|Sr<|kF Y2 λβ1 s1 h1=>G7 ?_;refine iA (pU Y4) Z<|G2 ?_;refine Je Y3 (KD f.params Pz) λs2 h2=>G6 ?_;refine va Y3<|J2 ?_ ?_<;>intro c3;.have hE:k8 f nm=_:=au c3;refine G8 ?_;exact rX [_] L Z Lc λ_ iD=>SG
 have g13:=c3;refine G6 ?_;refine iA (pU Y4) Z<|G2 ?_;refine Je Y3 (KD f.locals Pz) λs4 h4=>G6 ?_;refine va Y3<|J2 ?_ ?_<;>intro c5;.have hE:k8 f nm=_:=(ak g13).trans (au c5);refine Sr<|Wb Y5<|iA (pU Y4) Z<|G3 ?_;refine kq Y3 (jq O O)<|G5 ?_;exact rX [_] L Z Lc λ_ iD=>SG
 have hE:k8 f nm=_:=(ak g13).trans (ak c5);refine G8 ?_;exact rX [_] L Z Lc λ_ iD=>SG
def qta(f:iM):k8 f nm < ((f.params.length+f.locals.length:Nat):Int):=by
 have hi1:=Gg (p:=λy=>decide (nm=y)) (l:=f.params) (k:=0);have xH:=Gg (p:=λy=>decide (nm=y)) (l:=f.locals) (k:=0);unfold k8;repeat' split
 all_goals omega
def yW(p:jc)(f:iM)(x:Ex):Prop:=om x=true/\∃ lp,∀ nd∈oA x lp,jJ p f nd=0
def oZ(p:jc)(f:iM)(x:iP):Prop:=(∃ lv,th x lv=true)/\∃ lp,∀ nd∈tA x lp,jJ p f nd=0
structure ww(p:jc):Prop where
 nd:((jY p).map (·.1)).Nodup
 gk:∀ g∈p.o,1<=g.kind/\g.kind<=3
section
variable{f:iM}
def yW.args{x:Ex}(h:yW p f x):∀ y∈x.args,yW p f y:=λy hy=>by
 obtain ⟨hv,lp,hn⟩:=h;obtain ⟨k,o,u,nm,ar⟩:=x;obtain ⟨j,hj⟩:=bh hy;exact ⟨(v7 (zz hv).2 hj).1,lp,λnd hd=>hn nd (by rw [oA];exact an _ (Ku hy hd))⟩
def yW.use{x:Ex}(h:yW p f x):pf p f (oS x)=0:=by
 obtain ⟨_,lp,hn⟩:=h;obtain ⟨k,o,u,nm,ar⟩:=x;exact hn (.ex (.mk k o u nm ar) lp) Q29
def oZ.exprs(h:oZ p f x):∀ y∈x.exprs,yW p f y:=λy hy=>by
 obtain ⟨⟨lv,hv⟩,lp,hn⟩:=h;obtain ⟨k,nm,es,b,e⟩:=x;obtain ⟨j,hj⟩:=bh hy;exact ⟨(v7 (wY hv).2.2.1 hj).1,lp,λnd hd=>hn nd (by rw [tA];exact an _ (aI _ (Ku hy hd)))⟩
def oZ.body(h:oZ p f x):∀ y∈x.body,oZ p f y:=λy hy=>by
 obtain ⟨⟨lv,hv⟩,lp,hn⟩:=h;obtain ⟨k,nm,es,b,e⟩:=x;obtain ⟨j,hj⟩:=bh hy;exact ⟨⟨_,(DO (wY hv).2.2.2.1 hj).1⟩,_,λnd hd=>hn nd (by rw [tA];exact an _ (aF _ (aI _ (Fe hy hd))))⟩
def oZ.els(h:oZ p f x):∀ y∈x.els,oZ p f y:=λy hy=>by
 obtain ⟨⟨lv,hv⟩,lp,hn⟩:=h;obtain ⟨k,nm,es,b,e⟩:=x;obtain ⟨j,hj⟩:=bh hy;exact ⟨⟨_,(DO (wY hv).2.2.2.2 hj).1⟩,_,λnd hd=>hn nd (by rw [tA];exact an _ (aF _ (aF _ (Fe hy hd))))⟩
def oZ.use(h:oZ p f x):pf p f (o6 x)=0:=by
 obtain ⟨_,lp,hn⟩:=h;obtain ⟨k,nm,es,b,e⟩:=x;exact (Kt (hn (.st (.mk k nm es b e) lp) (by rw [tA];exact cQ ..))).1
def O7(hP:ww p){u:Dm}(h:pf p f u=0)(hu:u.2.1≠0):(0<=k8 f u.1/\(u.2.1=1\/u.2.1=2))\/(¬ 0<=k8 f u.1/\∃ (k:Nat) (g:jv),mS p u.1=(k:Int)/\p.o[k]?=some g/\((g.kind=1/\u.2.1=2)\/(g.kind=2/\(u.2.1=1\/u.2.1=2))\/(g.kind=3/\u.2.1=3)))\/∃ (k:Nat) (fk:iM),r9 p u.1=(k:Int)/\p.funcs[k]?=some fk/\u.2.1=4/\u.2.2=(fk.params.length:Int):=by
  obtain ⟨a1,a2,a3⟩:=NS h hu;rcases Ds a1 with k1|⟨k1,k,k2,k3⟩|⟨k1,k,k2,k3⟩
  . exact .inl ⟨qoO k1,by unfold uX at a2;omega⟩
  . have e:=Gj k1 k2
    obtain ⟨g,hg⟩:∃ g,p.o[k]?=some g:=⟨_,ap k3⟩;have hk:=hP.gk g (ax hg);rw [e] at a2;have e1:=BE hg;refine .inr (.inl ⟨qoN e (.inl Z),k,g,(Ue hP.nd e).1,hg,?_⟩);unfold uX at a2;simp only at a2;omega
  . have e:=Gj k1 k2
    obtain ⟨g,hg⟩:∃ g,p.funcs[k]?=some g:=⟨_,ap k3⟩;rw [e] at a2 a3;have e1:=Gq (p:=p) (i:=(k:Int)) rfl hg;refine .inr (.inr ⟨k,g,(Uq hP.nd e).1,hg,?_⟩);unfold uX at a2;rw [e1] at a3;omega
def mn2(hP:ww p){x:Ex}(h:yW p f x)(hk:x.kind=2):0<=k8 f x.name\/(¬ 0<=k8 f x.name/\∃ (k:Nat) (g:jv),mS p x.name=(k:Int)/\p.o[k]?=some g):=by
 have hu:oS x=(x.name,2,0):=by rw [oS,au hk]
 have:=h.use;rw [hu] at this;rcases O7 hP this (show (2:Int)≠0 by decide) with ⟨a,_⟩|⟨a,k,g,b,c,_⟩|⟨_,_,_,_,c,_⟩
 . exact .inl a
 . exact .inr ⟨a,k,g,b,c⟩
 . cases c
def ID{p:Prop} (h:p:=by
 have:=h.use;rw [hu] at this;rcases O7 hP this (show (3:Int)≠0 by decide) with ⟨_,a⟩|⟨a,k,g,b,c,d⟩|⟨_,_,_,_,c,_⟩
 . rcases a with a|a<;>cases a
 . exact ⟨k,g,b,c,by simp only at d;omega⟩
 . cases c):p:=h
def mn3(hP:ww p){x:Ex}(h:yW p f x)(hk:x.kind=3):∃ (k:Nat) (g:jv),mS p x.name=(k:Int)/\p.o[k]?=some g/\g.kind=3:=by
 have hu:oS x=(x.name,3,0):=by rw [oS,ak O,au hk]
 exact ID
def IB{p:Prop} (h:p:=by
 have:=h.use;rw [hu] at this;rcases O7 hP this (show (4:Int)≠0 by decide) with ⟨_,a⟩|⟨a,k,g,b,c,d⟩|⟨k,fk,b,c,_,d⟩
 . rcases a with a|a<;>cases a
 . simp only at d;omega
 . exact ⟨k,fk,b,c,by simp only at d;omega⟩):p:=h
def mn4(hP:ww p){x:Ex}(h:yW p f x)(hk:x.kind=4):∃ (k:Nat) (fk:iM),r9 p x.name=(k:Int)/\p.funcs[k]?=some fk/\x.args.length=fk.params.length:=by
 have hu:oS x=(x.name,4,(x.args.length:Int)):=by rw [oS,ak O,ak O,au hk]
 exact IB
def ms1(hP:ww p)(h:oZ p f x)(hk:x.kind=1):0<=k8 f x.name\/(¬ 0<=k8 f x.name/\∃ (k:Nat) (g:jv),mS p x.name=(k:Int)/\p.o[k]?=some g/\g.kind=2):=by
 have hu:o6 x=(x.name,1,0):=by rw [o6,au hk]
 have:=h.use;rw [hu] at this;rcases O7 hP this (show (1:Int)≠0 by decide) with ⟨a,_⟩|⟨a,k,g,b,c,d⟩|⟨_,_,_,_,c,_⟩
 . exact .inl a
 . exact .inr ⟨a,k,g,b,c,by simp only at d;omega⟩
 . cases c
def ms2(hP:ww p)(h:oZ p f x)(hk:x.kind=2):∃ (k:Nat) (g:jv),mS p x.name=(k:Int)/\p.o[k]?=some g/\g.kind=3:=by
 have hu:o6 x=(x.name,3,0):=by rw [o6,ak O,au hk]
 exact ID
def ms5(hP:ww p)(h:oZ p f x)(hk:x.kind=5):∃ (k:Nat) (fk:iM),r9 p x.name=(k:Int)/\p.funcs[k]?=some fk/\x.exprs.length=fk.params.length:=by
 have hu:o6 x=(x.name,4,(x.exprs.length:Int)):=by rw [o6,ak O,ak O,au hk]
 exact IB
end
def qvP(d0:Nat)(p:jc)(jF:ja s Ag ng cg p.o)(jX:jl d0 s Af nf cf p.funcs)(qU:iO s P1 p1 r1 f.params)(qV:iO s P2 p2 r2 f.locals)(jp:f.params.length+f.locals.length<=100)(Vq:World->Ex->iz->Prop){x:Ex}(hk:x.kind=2)(Bm:0<=k8 f x.name\/(¬ 0<=k8 f x.name/\∃ (k:Nat) (g:jv),mS p x.name=(k:Int)/\p.o[k]?=some g)):pQ D 197 [.agg #[.slice Ag ng cg,.slice Af nf cf,St f.name,.slice P1 p1 r1,.slice P2 p2 r2,.slice P3 p3 r3],St x.name] L s λv M' s'=>∀ s2,Le D s' s2->mI M' s2->tS p f Vq s2 x v:=by
 refine jn (fn:=f197) jb func197 V Z ntmps197 Z (rs:=[.tmp 4]) Z [(0,_),(1,_)] Z<|Sr<|kF Y2 λβ1 s1 h1=>G6 ?_;refine iA (iZ 0 [_,_,_,_,_,_] Y5) Z<|kb Y2<|Je Y3 (qoU d0 p Pz Pz Pz Pz jp) λs2 h2=>jh Z [_] Y2 λβ3 s3 h3=>Wt 0 [_] Y9<|G5 ?_;refine va Y3<|J2 ?_ ?_<;>intro c4;.have h0:=c4;refine Sr<|iA (qZ Z) Z<|G5 ?_;exact rR [] _ (.t1 Z) Z Lc λ_ iD=>⟨[_,_],rfl,λs2 j5 hp=>.slot _ hk h0 (qta f) (hp _ _ _ Mc)⟩
 have hs:=c4;obtain ⟨gk,g,ri,hgp⟩:=(Bm.resolve_left hs).2;have qJ:gk < ng:=by rw [jF.1];exact (al.1 hgp).1
 refine Zk<|Zt<|Sr<|iA (iZ 1 [_,_,_,_,_,_] Y5) Z<|kb Y2<|Je Y3 (NY d0 p Pz Pz Pz Pz) λs5 h5=>?_;obtain ⟨bz,oz,z,Ai,ni,ci,hAe,hz,hcz,_,tX,_⟩:=ja.at_ Pz qJ;subst hAe;refine jh Z [_] Y2 λt6 s6 h6=>Wt 0 [_] Y9<|G9 ?_;refine iA (jK (j:=gk) ⟨Z,(show lk _ _=some (iB (gk:Int)) from by rw [<- ri];rfl),Z,Z,Z,Z⟩ qJ) Z<|iA (ku Y3 Pz Z) Z<|jh Z [_,_,_,_] Y2 λd7 s7 h7=>Wt 0 [_,_,_,_] Y9<|J9 ?_ ?_<;>intro c8;.have pH:=c8;refine Sr<|iA (qZ Z) Z<|G5 ?_;exact rR [] _ (.t1 Z) Z Lc λ_ iD=>⟨[_,_,_,_],rfl,λs2 j5 hp=>.con _ gk z Ai ni ci hk hs ri hz pH (hp _ _ _ Mc) tX⟩
 have pH:=c8;refine Zk<|Zt<|Sr<|iA (qZ Z) Z<|G4 ?_;exact rR [] _ (.t1 Z) Z Lc λ_ iD=>⟨[_,_,_,_],rfl,λs2 j5 hp=>.var _ gk z hk hs ri hz pH (by rw [<- ri];exact (hp _ _ _ (an _ Mc)))⟩
def qo4(d0:Nat)(jF:ja s Ag ng cg p.o)(jX:jl d0 s Af nf cf p.funcs)(qU:iO s P1 p1 r1 f.params)(qV:iO s P2 p2 r2 f.locals)(jp:f.params.length+f.locals.length<=100)(Vq:World->iP->iz->Prop)(hk:x.kind=1)(Bm:0<=k8 f x.name\/(¬ 0<=k8 f x.name/\∃ (k:Nat) (g:jv),mS p x.name=(k:Int)/\p.o[k]?=some g/\g.kind=2))(hv:lZ p f d s (kP x.exprs 0) [.func (.func 144) #[] #[iT b4]]):pQ D 103 [.agg #[.slice Ag ng cg,.slice Af nf cf,St f.name,.slice P1 p1 r1,.slice P2 p2 r2,.slice P3 p3 r3],St x.name,.func (.func 144) #[] #[iT b4]] L s λv M' s'=>∀ s2,Le D s' s2->mI M' s2->tn p f (lZ p f d) Vq s2 x v:=by
 refine jn (fn:=f103) jb func103 V Z ntmps103 Z (rs:=[.tmp 6]) Z [(0,_),(1,_),(2,_)] Z<|Sr<|kF Y2 λβ1 s1 h1=>BG Z Z Z λβ2 s2 h2=>G6 ?_;refine iA (iZ 1 [_,_,_,_,_,_] Y5) Z<|kb Y2<|Je Y3 (qoU d0 p Pz Pz Pz Pz jp) λs3 h3=>jh Z [_] Y2 λt4 s4 h4=>Wt 0 [_] Y9<|G5 ?_;refine va Y3<|J2 ?_ ?_<;>intro c5;.have h0:=c5;refine Sr<|iA (qZ Z) Z<|G5 ?_;exact rR [] _ (.t1 Z) Z Lc λ_ iD=>⟨[_,_,_],rfl,λs2 j5 hp=>.setl _ _ _ hk h0 (qta f) (hp _ _ _ (an _ Mc)) (hp _ _ _ Mc) (lZ.le Lc hv)⟩
 have hs:=c5;obtain ⟨gk,g,ri,hgp,vP⟩:=(Bm.resolve_left hs).2;refine Zk<|Zt<|Sr<|iA (iZ 2 [_,_,_,_,_,_] Y5) Z<|kb Y2<|Je Y3 (NY d0 p Pz Pz Pz Pz) λs6 h6=>jh Z [_] Y2 λd7 s7 h7=>Wt 0 [_] Y9<|Nt<|Sr<|iA (qZ Z) Z<|G4 ?_;exact rR [] _ (.t1 Z) Z Lc λ_ iD=>⟨[_,_,_,_],rfl,λs2 j5 hp=>.setg _ _ gk g _ hk hs ri hgp vP (hp _ _ _ (an _ (an _ Mc))) (by rw [<- ri];exact (hp _ _ _ Mc)) (lZ.le Lc hv)⟩
def qmn(d0:Nat)(jF:ja s Ag ng cg p.o)(jX:jl d0 s Af nf cf p.funcs)(qU:iO s P1 p1 r1 f.params)(qV:iO s P2 p2 r2 f.locals)(k:Nat)(fk:iM)(hA:qo p f d s A n c xs)(hg:r9 p nm=(k:Int))(hpk:p.funcs[k]?=some fk)(hl:xs.length=fk.params.length):pQ D 110 [.agg #[.slice Ag ng cg,.slice Af nf cf,St f.name,.slice P1 p1 r1,.slice P2 p2 r2,.slice P3 p3 r3],St nm,.slice A n c] L s λv M' s'=>∀ s2,Le D s' s2->mI M' s2->sD p (lZ p f d) s2 nm xs v:=by
 refine jn (fn:=f110) jb func110 V Z ntmps110 Z (rs:=[.tmp 6]) Z [(0,_),(1,_),(2,_)] Z<|Sr<|kF Y2 λβ1 s1 h1=>BG Z Z Z λβ2 s2 h2=>At Z Z<|Sr<|iA (iZ 1 [_,_,_,_,_,_] Y5) Z<|kb Y2<|Je Y3 (qq2 d0 p Pz Pz Pz Pz) λs3 h3=>jh Z [_] Y2 λt4 s4 h4=>Wt 0 [_] Y9<|Nt<|Sr<|iA (qZ Z) Z<|G4 ?_;exact rR [] _ (.t1 Z) Z Lc λ_ iD=>⟨[_,_,_],rfl,λs2 j5 hp=>⟨_,_,A,n,c,k,fk,rfl,(hp _ _ _ (an _ Mc)),by rw [<- hg];exact (hp _ _ _ Mc),hA.le Lc,hg,hpk,hl⟩⟩
def qo6{b5:Nat}{x:Ex}(hk:x.kind=7)(ho:4<=x.op/\x.op<=21)(xN:lZ p f d s (kP x.args 0) [.func (.func 144) #[] #[iT b4]])(vv:lZ p f d s (kP x.args 1) [.func (.func 144) #[] #[iT b5]]):pQ D 201 [iB x.op,.func (.func 144) #[] #[iT b4],.func (.func 144) #[] #[iT b5]] L s λv M' s'=>∀ s2,Le D s' s2->mI M' s2->tS p f (lZ p f d) s2 x v:=by
 refine jn (fn:=f201) jb func201 V Z ntmps201 Z (rs:=[.tmp 6]) Z [(0,_),(1,_),(2,_)] Z<|Sr<|BG Z Z Z λβ1 s1 h1=>BG Z Z Z λβ2 s2 h2=>BG Z Z Z λβ3 s3 h3=>At Z Z<|Sr<|iA (qZ Z) Z<|G4 ?_;exact rR [] _ (.t1 Z) Z Lc λ_ iD=>⟨[_,_,_],rfl,λs2 j5 hp=>.bin _ _ _ _ _ hk (hp _ _ _ (an _ Mc)) (hp _ _ _ (an _ (an _ Mc))) (hp _ _ _ Mc) (lZ.le Lc xN) (lZ.le Lc vv) ho⟩
def tS.func{Vq9:World->Ex->iz->Prop}{x:Ex}(h:tS p f Vq9 s x v):∃ kk cap,v=.func (.func kk) #[] (List.toArray cap):=by
 cases h with
 | call w hk h=>obtain ⟨be,bi,A,n,c,k,fk,rfl,_⟩:=h;exact ⟨_,[_,_],rfl⟩
 | num=>exact ⟨_,[_],rfl⟩
 | slot=>exact ⟨_,[_],rfl⟩
 | con=>exact ⟨_,[_],rfl⟩
 | var=>exact ⟨_,[_],rfl⟩
 | idx=>exact ⟨_,[_,_],rfl⟩
 | get=>exact ⟨_,[],rfl⟩
 | una=>exact ⟨_,[_,_],rfl⟩
 | bin=>exact ⟨_,[_,_,_],rfl⟩
def tn.func{E:World->Ex->iz->Prop}{Vq9:World->iP->iz->Prop}(h:tn p f E Vq9 s x v):∃ kk cap,v=.func (.func kk) #[] (List.toArray cap):=by
 cases h with
 | setl=>exact ⟨_,[_,_],rfl⟩
 | setg=>exact ⟨_,[_,_],rfl⟩
 | store=>exact ⟨_,[_,_],rfl⟩
 | cond=>exact ⟨_,[_,_,_],rfl⟩
 | loop=>exact ⟨_,[_,_],rfl⟩
 | call=>exact ⟨_,[_],rfl⟩
 | ret=>exact ⟨_,[_],rfl⟩
 | put=>exact ⟨_,[_],rfl⟩
 | stop=>exact ⟨_,[_],rfl⟩
 | brk=>exact ⟨_,[],rfl⟩
 | cont=>exact ⟨_,[],rfl⟩
theorem qvM(k:Int):yE k<=6:=by grind [yE]
theorem qvN(k:Int):zC k<=6:=by grind [zC]
def XPR(D d:Nat):Prop:=∀ (L:Hl) (s:World) (d0:Nat) (p:jc) (Ag Af:iE) (ng cg nf cf:Nat) (jF:ja s Ag ng cg p.o) (jX:jl d0 s Af nf cf p.funcs) (f:iM) (P1 P2 P3:iE) (p1 r1 p2 r2 p3 r3:Nat) (qU:iO s P1 p1 r1 f.params) (qV:iO s P2 p2 r2 f.locals) (jp:f.params.length+f.locals.length<=100) (nh:ww p) (x:Ex) (A:iE) (n c:Nat),j8 d s A n c x.args->iQ x.num->yW p f x->jU D 143 [.agg #[.slice Ag ng cg,.slice Af nf cf,St f.name,.slice P1 p1 r1,.slice P2 p2 r2,.slice P3 p3 r3],.agg #[iB x.kind,iB x.op,iJ x.num,St x.name,.slice A n c]] L s λv L' s'=>L=L'/\tS p f (lZ p f d) s' x v
def Ww(D d:Nat):Prop:=∀ (L:Hl) (s:World) (d0:Nat) (p:jc) (Ag Af:iE) (ng cg nf cf:Nat) (jF:ja s Ag ng cg p.o) (jX:jl d0 s Af nf cf p.funcs) (f:iM) (P1 P2 P3:iE) (p1 r1 p2 r2 p3 r3:Nat) (qU:iO s P1 p1 r1 f.params) (qV:iO s P2 p2 r2 f.locals) (jp:f.params.length+f.locals.length<=100) (nh:ww p) (A:iE) (n c:Nat) (xs:List Ex),j8 d s A n c xs->(∀ x∈xs,yW p f x)->n<=100000->jU D 102 [.agg #[.slice Ag ng cg,.slice Af nf cf,St f.name,.slice P1 p1 r1,.slice P2 p2 r2,.slice P3 p3 r3],.slice A n c] L s λv L' s'=>L=L'/\∃ A' n' c',v=.slice A' n' c'/\qo p f d s' A' n' c' xs
def O'(ih:∀ e,d=e+1->XPR D e)(jF:ja s Ag ng cg p.o)(jX:jl d0 s Af nf cf p.funcs)(qU:iO s P1 p1 r1 f.params)(qV:iO s P2 p2 r2 f.locals)(jp:f.params.length+f.locals.length<=100)(nh:ww p)(hA:j8 d s A n c xs)(hO:∀ x∈xs,yW p f x)(kL:n<=100000):pQ D 102 [.agg #[.slice Ag ng cg,.slice Af nf cf,St f.name,.slice P1 p1 r1,.slice P2 p2 r2,.slice P3 p3 r3],.slice A n c] L s λv M' s'=>∀ s2,Le D s' s2->mI M' s2->∃ A' n' c',v=.slice A' n' c'/\qo p f d s2 A' n' c' xs:=by
 have l7:=hA.1;have pr:=hA.2.1;have tV:=hA.2.2.1;have hlim:n<=100000:=kL;refine jn (fn:=f102) jb func102 V Z ntmps102 Z (rs:=[.tmp 4]) Z [(0,_),(1,_)] Z<|Sr<|kF Y2 λβ1 s1 h1=>Cw ?_;refine lJ (γ:=Nat×Value×Hl) (λg=>[(2,_),(4,_),(5,g.2.1),(9,_),(10,_),(11,iB (g.1:Int))]) (λg=>_::(g.2.2++L)) (λg tw=>Le D s1 tw/\(g.1<=n/\∃ css,Own 218 1 g.2.2 g.2.1 g.1 (List.flatten css)/\kJ (λx cs=>cs.length=1/\lZ p f d tw x cs) (xs.take g.1) css)) (λg=>n - g.1) (λ_ _ _ h hl=>⟨h.1.trans hl,(by obtain ⟨k1,css,k2,k3⟩:=h.2;exact ⟨k1,css,k2,k3.mono λ_ _ k=>⟨k.1,lZ.le hl k.2⟩⟩)⟩) (0,.slice none 0 0,[]) (.c6 Z Z Z Z Z Z (.nil _)) Z ⟨Le.refl _,⟨aB _,[],.nil,.nil⟩⟩ ?_;intro g s2 I2;obtain ⟨k,vk,Mk⟩:=g;obtain ⟨ko,css,hOk,lR⟩:=I2.2;simp only at ko hOk lR;dsimp only;refine J6 ?_ ?_<;>intro c3
 .have hk:k < n:=O
  obtain ⟨e,b,off,x,A',n',c',hd,rfl,hx,hcx,hxa,hxu,_⟩:=j8.at_ Pz hk;have nU:=hO x (ax hx);refine G6 ?_;refine iA (jK Y6 hk) Z<|iA (ku Y3 Pz Z) Z<|jh Z [_,_,_,_,_] Y2 λt4 s4 h4=>Wt 0 [_,_,_,_,_] Y9<|Nt<|Sr<|iA (iZ 1 [_,_,_,_,_,_] Y5) Z<|iA (iZ 0 [_,_,_,_,_] Y5) Z<|Jc Y3 (ih e hd _ _ d0 p Ag Af ng cg nf cf Pz Pz f P1 P2 P3 p1 r1 p2 r2 p3 r3 Pz Pz jp nh x A' n' c' Pz hxu nU) ?_;rintro _ _ s5 h5 ⟨rfl,hvi⟩;obtain ⟨kk,cap,hvf⟩:=hvi.func;subst hvf;refine jh Z [_] Y2 λt6 s6 h6=>Wt 0 [_] Y9<|Nt<|uz [] [_,_] ?_;intro s7 h7 hpub7;simp only [jC,jD];have gbx:=hpub7 _ _ _ Mc;refine Zr<|kb Y2<|iA (qZ Z) Z<|lx [(_,_)] [_] Y9 λt8 s8 h8 hc8=>rQ (sz:=1) [_] Mk L Y7 hOk (Row.of_cells Pz Z Z) ⟨by simp [En];omega,O⟩ Z ?_;intro v9 M9 s9 h9 oq;simp only [jC,jD];refine G5 ?_;refine kq Y3 (jq O O)<|G2 ?_;refine iU ⟨(k+1,v9,M9),[],kp,Z,⟨Lc,⟨Oz,css++[[_]],by simp only [bX,bj,cn,aE];exact oq,by simp only;rw [wQ hx];exact (lR.mono λ_ _ k=>⟨k.1,lZ.le Lc k.2⟩).snoc ⟨Z,hd▸⟨_,_,Z,gbx.le Lc,hvi.le Lc (λ_ _ h=>lZ.le Lc h)⟩⟩⟩⟩,Oz⟩
 obtain rfl:n=k:=O
 rw [aK O] at lR;obtain ⟨Ak,ck,rfl,_,_⟩:=Own.slice hOk;refine mY ?_;exact rR [] _ (.t1 Z) Z Lc λ_ iD=>⟨_::Mk,rfl,λs2 j5 hp=>⟨_,_,_,rfl,Own.rows hOk hp.tail (lR.mono λ_ _ k=>⟨k.1,lZ.le Lc k.2⟩) l7⟩⟩
def SI{p:Prop} (h:p:=by
 first
  | (exact ⟨[_,_,_],rfl,λs2 j5 hp=>hW.le Lc λ_ _ h=>lZ.le Lc h⟩)
  | (exact ⟨[_,_,_],rfl,λs2 j5 hp=>.call _ hk4 (hW.le Lc λ_ _ h=>lZ.le Lc h)⟩)):p:=h
def qp3(ih:Ww D d)(jF:ja s Ag ng cg p.o)(jX:jl d0 s Af nf cf p.funcs)(qU:iO s P1 p1 r1 f.params)(qV:iO s P2 p2 r2 f.locals)(jp:f.params.length+f.locals.length<=100)(nh:ww p){x:Ex}(hA:j8 d s A n c x.args)(hxu:iQ x.num)(nU:yW p f x):pQ D 143 [.agg #[.slice Ag ng cg,.slice Af nf cf,St f.name,.slice P1 p1 r1,.slice P2 p2 r2,.slice P3 p3 r3],.agg #[iB x.kind,iB x.op,iJ x.num,St x.name,.slice A n c]] L s λv M' s'=>∀ s2,Le D s' s2->mI M' s2->tS p f (lZ p f d) s2 x v:=by
 obtain ⟨hC,_⟩:=zz nU.1;obtain ⟨uQ,Bh,j9,hmo,ho6,ho7⟩:=Bz hC;have l7:=hA.1;have hm6:=qvM x.kind;refine jn (fn:=f143) jb func143 V Z ntmps143 Z (rs:=[.tmp 4]) Z [(0,_),(1,_)] Z<|Sr<|kF Y2 λβ1 s1 h1=>kF Y2 λβ2 s2 h2=>At Z Z<|Sr<|iA (iZ 1 [_,_,_,_,_,_] Y5) Z<|G2 ?_;refine Jc Y3 (ih _ _ d0 p Ag Af ng cg nf cf Pz Pz f P1 P2 P3 p1 r1 p2 r2 p3 r3 Pz Pz jp nh A n c x.args Pz nU.args O) ?_;rintro _ _ s3 h3 ⟨rfl,A',n',c',rfl,hV⟩;have oW:=hV.1;refine jh Z [_] Y2 λt4 s4 h4=>Wt 0 [_] Y9<|MW ?_ ?_<;>intro c5;.have uQ:x.kind=1:=c5;refine X35 ?_;exact rR [] _ (.t1 Z) Z Lc λ_ iD=>⟨[_,_,_],rfl,λs2 j5 hp=>.num _ A n c uQ (hp _ _ _ (an _ Mc)) hxu⟩
 refine J6 ?_ ?_<;>intro c6;.have xI:x.kind=2:=c6;refine X14 ?_;refine Jc Y3 (AC.pubW (qvP d0 p Pz Pz Pz Pz jp (lZ p f d) xI (mn2 nh nU xI))) ?_;rintro _ _ s7 h7 ⟨rfl,hW⟩;refine G6 ?_;exact rR [] _ (.t1 Z) Z Lc λ_ iD=>SI
 refine J6 ?_ ?_<;>intro c7
 .have zb:x.kind=3:=c7;obtain ⟨k,g,hg,hgp,g3⟩:=mn3 nh nU zb;have nE:0 < n':=by have h9:wa x.kind=1:=(by rw [zb];rfl);omega
  refine Sr<|iA (iZ 2 [_,_,_,_,_,_] Y5) Z<|G2 ?_;refine Je Y3 (NY d0 p Pz Pz Pz Pz) λs8 h8=>jh Z [_] Y2 λd9 s9 h9=>Wt 0 [_] Y9<|Nt<|Sr<|iA (qZ Z) Z<|G6 ?_;exact rR [] _ (.t1 Z) Z Lc λ_ iD=>⟨[_,_,_,_],rfl,λs2 j5 hp=>.idx _ _ k g _ _ _ zb hg hgp g3 (by rw [<- hg];exact (hp _ _ _ Mc)) (hp _ _ _ (an _ Mc)) (hV.le (h4.t h8|>.t h9|>.t (iD.t j5))) nE⟩
 refine J6 ?_ ?_<;>intro c8;.have hk4:x.kind=4:=c8;obtain ⟨k,fk,hg,hpk,hl⟩:=mn4 nh nU hk4;refine Sr<|iA (iZ 2 [_,_,_,_,_,_] Y5) Z<|G3 ?_;refine Jc Y3 (AC.pubW (qmn d0 Pz Pz Pz Pz k fk (hV.le h4) hg hpk hl)) ?_;rintro _ _ s9 h9 ⟨rfl,hW⟩;refine G6 ?_;exact rR [] _ (.t1 Z) Z Lc λ_ iD=>SI
 refine J6 ?_ ?_<;>intro c9;.have hk5:x.kind=5:=c9;refine G8 ?_;exact rR [] _ (.t1 Z) Z Lc λ_ iD=>⟨[_,_,_],rfl,λs2 j5 hp=>.get hk5⟩
 refine J6 ?_ ?_<;>intro mz
 .have hk6:x.kind=6:=mz;have nE:0 < n':=by have h9:wa x.kind=1:=(by rw [hk6];rfl);omega
  refine Sr<|iA (qZ Z) Z<|G6 ?_;exact rR [] _ (.t1 Z) Z Lc λ_ iD=>⟨[_,_,_],rfl,λs2 j5 hp=>.una _ _ A n c _ _ _ hk6 (hp _ _ _ (an _ Mc)) (hp _ _ _ Mc) (hV.le (h4.t (iD.t j5))) nE⟩
 have nE:0 < n':=by have h9:wa x.kind=2:=(by rw [show x.kind=7 by omega];rfl);omega
 have h1n:1 < n':=by have h9:wa x.kind=2:=(by rw [show x.kind=7 by omega];rfl);omega
 obtain ⟨B0,o0,b4,hAe0,hcE,hvE⟩:=qo.at_ hV nE;subst hAe0;obtain ⟨B1,o1,b5,hAe,hcF,hvF⟩:=qo.at_ hV h1n;simp only [cZ,ie,and_true] at hAe;obtain ⟨hAe1,hAe2⟩:=hAe;subst hAe1;subst hAe2;refine G4 ?_;refine mr jt 10 Z _ (λ_ h=>h) λkz jM=>H3 ?_;refine za 3 Z (lK Y6 nE) Z<|za 4 Z (jS Y3 Pz Z) Z<|H1 ?_;refine za 6 Z (lK Y6 h1n) Z<|za 7 Z (jS Y3 Pz Z) Z<|iF 8 V<|Jb Z Tt Z Z Z (AC.pubW (qo6 O (ho7 O) (lZ.le Lc hvE) (lZ.le Lc hvF))) ?_;rintro _ _ kh jE ⟨rfl,hW⟩;refine ⟨λ_ _ h=>h,?_⟩;refine H1 ?_;refine ji V<|G2 ?_;exact rR [] _ (.t1 Z) Z Lc λ_ iD=>SI
def xsr{D:Nat}:∀ d,Ww D d
 | 0=>λL s d0 p Ag Af ng cg nf cf jF jX f P1 P2 P3 p1 r1 p2 r2 p3 r3 qU qV jp nh A n c xs hA hO kL=>AC.pubW (O' (λe h=>O) jF jX qU qV jp nh hA hO kL)
 | d+1=>λL s d0 p Ag Af ng cg nf cf jF jX f P1 P2 P3 p1 r1 p2 r2 p3 r3 qU qV jp nh A n c xs hA hO kL=>AC.pubW (O' (λe h=>(show d=e by omega)▸λL s d0 p Ag Af ng cg nf cf jF jX f P1 P2 P3 p1 r1 p2 r2 p3 r3 qU qV jp nh x A n c hA hu hx=>AC.pubW (qp3 (xsr d) jF jX qU qV jp nh hA hu hx)) jF jX qU qV jp nh hA hO kL)
def TPR(D d:Nat):Prop:=∀ (L:Hl) (s:World) (d0:Nat) (p:jc) (Ag Af:iE) (ng cg nf cf:Nat) (jF:ja s Ag ng cg p.o) (jX:jl d0 s Af nf cf p.funcs) (f:iM) (P1 P2 P3:iE) (p1 r1 p2 r2 p3 r3:Nat) (qU:iO s P1 p1 r1 f.params) (qV:iO s P2 p2 r2 f.locals) (jp:f.params.length+f.locals.length<=100) (nh:ww p) (x:iP) (A1:iE) (n1 c1:Nat) (A2:iE) (n2 c2:Nat) (A3:iE) (n3 c3:Nat),j8 d s A1 n1 c1 x.exprs->jo d s A2 n2 c2 x.body->jo d s A3 n3 c3 x.els->ke x.body<=2000->ke x.els<=2000->oZ p f x->jU D 63 [.agg #[.slice Ag ng cg,.slice Af nf cf,St f.name,.slice P1 p1 r1,.slice P2 p2 r2,.slice P3 p3 r3],.agg #[iB x.kind,St x.name,.slice A1 n1 c1,.slice A2 n2 c2,.slice A3 n3 c3]] L s λv L' s'=>L=L'/\tn p f (lZ p f d) (qI p f d) s' x v
def Wq(D d:Nat):Prop:=∀ (L:Hl) (s:World) (d0:Nat) (p:jc) (Ag Af:iE) (ng cg nf cf:Nat) (jF:ja s Ag ng cg p.o) (jX:jl d0 s Af nf cf p.funcs) (f:iM) (P1 P2 P3:iE) (p1 r1 p2 r2 p3 r3:Nat) (qU:iO s P1 p1 r1 f.params) (qV:iO s P2 p2 r2 f.locals) (jp:f.params.length+f.locals.length<=100) (nh:ww p) (A:iE) (n c:Nat) (xs:List iP),jo d s A n c xs->(∀ x∈xs,oZ p f x)->ke xs<=2000->jU D 27 [.agg #[.slice Ag ng cg,.slice Af nf cf,St f.name,.slice P1 p1 r1,.slice P2 p2 r2,.slice P3 p3 r3],.slice A n c] L s λv L' s'=>L=L'/\∃ A' n' c',v=.slice A' n' c'/\xw p f d s' A' n' c' xs
def k_(ih:∀ e,d=e+1->TPR D e)(jF:ja s Ag ng cg p.o)(jX:jl d0 s Af nf cf p.funcs)(qU:iO s P1 p1 r1 f.params)(qV:iO s P2 p2 r2 f.locals)(jp:f.params.length+f.locals.length<=100)(nh:ww p){xs:List iP}(hA:jo d s A n c xs)(hO:∀ x∈xs,oZ p f x)(hN:ke xs<=2000)(kL:n<=100000):pQ D 27 [.agg #[.slice Ag ng cg,.slice Af nf cf,St f.name,.slice P1 p1 r1,.slice P2 p2 r2,.slice P3 p3 r3],.slice A n c] L s λv M' s'=>∀ s2,Le D s' s2->mI M' s2->∃ A' n' c',v=.slice A' n' c'/\xw p f d s2 A' n' c' xs:=by
 have l7:=hA.1;have pr:=hA.2.1;have tV:=hA.2.2.1;have hlim:n<=100000:=kL;refine jn (fn:=f27) jb func27 V Z ntmps27 Z (rs:=[.tmp 4]) Z [(0,_),(1,_)] Z<|Sr<|kF Y2 λβ1 s1 h1=>Cw ?_;refine lJ (γ:=Nat×Value×Hl) (λg=>[(2,_),(4,_),(5,g.2.1),(9,_),(10,_),(11,iB (g.1:Int))]) (λg=>_::(g.2.2++L)) (λg tw=>Le D s1 tw/\(g.1<=n/\∃ css,Own 160 1 g.2.2 g.2.1 g.1 (List.flatten css)/\kJ (λx cs=>cs.length=1/\qI p f d tw x cs) (xs.take g.1) css)) (λg=>n - g.1) (λ_ _ _ h hl=>⟨h.1.trans hl,(by obtain ⟨k1,css,k2,k3⟩:=h.2;exact ⟨k1,css,k2,k3.mono λ_ _ k=>⟨k.1,qI.le hl k.2⟩⟩)⟩) (0,.slice none 0 0,[]) (.c6 Z Z Z Z Z Z (.nil _)) Z ⟨Le.refl _,⟨aB _,[],.nil,.nil⟩⟩ ?_;intro g s2 I2;obtain ⟨k,vk,Mk⟩:=g;obtain ⟨ko,css,hOk,lR⟩:=I2.2;simp only at ko hOk lR;dsimp only;refine J6 ?_ ?_<;>intro c3
 .have hk:k < n:=O
  obtain ⟨e,b,off,x,B1,m1,e1,B2,m2,e2,B3,m3,e3,hd,rfl,hx,hcx,z7,tY,hx3,_⟩:=jo.at_ Pz hk;have hNx:=Ua hx;have nU:=hO x (ax hx);refine G6 ?_;refine iA (jK Y6 hk) Z<|iA (ku Y3 Pz Z) Z<|jh Z [_,_,_,_,_] Y2 λt4 s4 h4=>Wt 0 [_,_,_,_,_] Y9<|Nt<|Sr<|iA (iZ 1 [_,_,_,_,_,_] Y5) Z<|iA (iZ 0 [_,_,_,_,_] Y5) Z<|Jc Y3 (ih e hd _ _ d0 p Ag Af ng cg nf cf Pz Pz f P1 P2 P3 p1 r1 p2 r2 p3 r3 Pz Pz jp nh x B1 m1 e1 B2 m2 e2 B3 m3 e3 Pz Pz Pz O O nU) ?_;rintro _ _ s5 h5 ⟨rfl,hvi⟩;obtain ⟨kk,cap,hvf⟩:=hvi.func;subst hvf;refine jh Z [_] Y2 λt6 s6 h6=>Wt 0 [_] Y9<|Nt<|uz [] [_,_] ?_;intro s7 h7 hpub7;simp only [jC,jD];have gbx:=hpub7 _ _ _ Mc;refine Zr<|kb Y2<|iA (qZ Z) Z<|lx [(_,_)] [_] Y9 λt8 s8 h8 hc8=>rQ (sz:=1) [_] Mk L Y7 hOk (Row.of_cells Pz Z Z) ⟨by simp [Ei];omega,O⟩ Z ?_;intro v9 M9 s9 h9 oq;simp only [jC,jD];refine G5 ?_;refine kq Y3 (jq O O)<|G2 ?_;refine iU ⟨(k+1,v9,M9),[],kp,Z,⟨Lc,⟨Oz,css++[[_]],by simp only [bX,bj,cn,aE];exact oq,by simp only;rw [wQ hx];exact (lR.mono λ_ _ k=>⟨k.1,qI.le Lc k.2⟩).snoc ⟨Z,hd▸⟨_,_,Z,gbx.le Lc,hvi.le Lc (λ_ _ h=>lZ.le Lc h) (λ_ _ h=>qI.le Lc h)⟩⟩⟩⟩,Oz⟩
 obtain rfl:n=k:=O
 rw [aK O] at lR;obtain ⟨Ak,ck,rfl,_,_⟩:=Own.slice hOk;refine mY ?_;exact rR [] _ (.t1 Z) Z Lc λ_ iD=>⟨_::Mk,rfl,λs2 j5 hp=>⟨_,_,_,rfl,Own.rows hOk hp.tail (lR.mono λ_ _ k=>⟨k.1,qI.le Lc k.2⟩) l7⟩⟩
def qp5(vT:Wq D d)(jF:ja s Ag ng cg p.o)(jX:jl d0 s Af nf cf p.funcs)(qU:iO s P1 p1 r1 f.params)(qV:iO s P2 p2 r2 f.locals)(jp:f.params.length+f.locals.length<=100)(nh:ww p){q1:Nat}{q2:Nat}{q3:Nat}(vn:j8 d s A1 n1 q1 x.exprs)(lR:jo d s A2 n2 q2 x.body)(nG:jo d s A3 n3 q3 x.els)(hN2:ke x.body<=2000)(hN3:ke x.els<=2000)(nU:oZ p f x):pQ D 63 [.agg #[.slice Ag ng cg,.slice Af nf cf,St f.name,.slice P1 p1 r1,.slice P2 p2 r2,.slice P3 p3 r3],.agg #[iB x.kind,St x.name,.slice A1 n1 q1,.slice A2 n2 q2,.slice A3 n3 q3]] L s λv M' s'=>∀ s2,Le D s' s2->mI M' s2->tn p f (lZ p f d) (qI p f d) s2 x v:=by
 obtain ⟨lv,oN⟩:=nU.1;obtain ⟨uQ,hk10,j9,hmo,_,_⟩:=Cb (wY oN).2.1;have l7:=vn.1;have hm6:=qvN x.kind;refine jn (fn:=f63) jb func63 V Z ntmps63 Z (rs:=[.tmp 4]) Z [(0,_),(1,_)] Z<|Sr<|kF Y2 λβ1 s1 h1=>kF Y2 λβ2 s2 h2=>At Z Z<|Sr<|iA (iZ 1 [_,_,_,_,_,_] Y5) Z<|G2 ?_;refine Jc Y3 (xsr d _ _ d0 p Ag Af ng cg nf cf Pz Pz f P1 P2 P3 p1 r1 p2 r2 p3 r3 Pz Pz jp nh A1 n1 q1 x.exprs Pz nU.exprs O) ?_;rintro _ _ s3 h3 ⟨rfl,A',n',c',rfl,hV⟩;have oW:=hV.1;refine jh Z [_] Y2 λt4 s4 h4=>Wt 0 [_] Y9<|MW ?_ ?_<;>intro c5
 .have pj:x.kind=1:=c5;have nE:0 < n':=by have h9:wW x.kind=1:=(by rw [pj];rfl);omega
  obtain ⟨B0,o0,b4,hAe0,hcE,hvE⟩:=qo.at_ hV nE;subst hAe0;refine Zs<|mr jt 8 Z _ (λ_ h=>h) λs6 h6=>za 0 Z (iZ 2 [_,_,_,_,_,_] Y5) Z<|H3 ?_;refine za 4 Z (lK Y6 nE) Z<|za 5 Z (jS Y3 Pz Z) Z<|iF 6 V<|Jb Z Tt Z Z Z (AC.pubW (qo4 d0 Pz Pz Pz Pz jp (qI p f d) pj (ms1 nh nU pj) (lZ.le Lc hvE))) ?_;rintro _ _ s7 h7 ⟨rfl,hW⟩;refine ⟨λ_ _ h=>h,?_⟩;refine H1 ?_;refine ji V<|G4 ?_;exact rR [] _ (.t1 Z) Z Lc λ_ iD=>⟨[_,_,_],rfl,λs2 j5 hp=>hW.le Lc (λ_ _ h=>lZ.le Lc h) λ_ _ h=>qI.le Lc h⟩
 refine J6 ?_ ?_<;>intro c6
 .have pj:x.kind=2:=c6;obtain ⟨k,g,hg,hgp,g3⟩:=ms2 nh nU pj;have h1n:1 < n':=by have h9:wW x.kind=2:=(by rw [pj];rfl);omega
  refine Sr<|iA (iZ 2 [_,_,_,_,_,_] Y5) Z<|G2 ?_;refine Je Y3 (NY d0 p Pz Pz Pz Pz) λs7 h7=>jh Z [_] Y2 λt8 s8 h8=>Wt 0 [_] Y9<|Nt<|Sr<|iA (qZ Z) Z<|G6 ?_;exact rR [] _ (.t1 Z) Z Lc λ_ iD=>⟨[_,_,_,_],rfl,λs2 j5 hp=>.store _ _ k g _ _ _ pj hg hgp g3 (by rw [<- hg];exact (hp _ _ _ Mc)) (hp _ _ _ (an _ Mc)) (hV.le (h4.t h7|>.t h8|>.t (iD.t j5))) h1n⟩
 refine J6 ?_ ?_<;>intro c7
 .have pj:x.kind=3:=c7;have nE:0 < n':=by have h9:wW x.kind=1:=(by rw [pj];rfl);omega
  refine Kv (γ:=Nat×Nat×Value×Value) (λg=>[(7,.pointer (some ⟨g.1,0,none⟩)),(8,.pointer (some ⟨g.2.1,0,none⟩))]) (λg=>[(g.1,cb [g.2.2.1] 87),(g.2.1,cb [g.2.2.2] 87)]) (λg tw=>∃ B5 m5 e5 B6 m6 e6,g.2.2.1=.slice B5 m5 e5/\g.2.2.2=.slice B6 m6 e6/\xw p f d tw B5 m5 e5 x.body/\xw p f d tw B6 m6 e6 x.els) (λ_ _ _ h hl=>(by obtain ⟨a,b,c,d,e,f,h1,h2,h3,h4⟩:=h;exact ⟨a,b,c,d,e,f,h1,h2,h3.le hl,h4.le hl⟩)) ?_ ?_
  .refine mr jt 12 Z _ (λ_ h=>h) λs9 h9=>za 0 Z (iZ 2 [_,_,_,_,_,_] Y5) Z<|H2 ?_;refine za 4 Z (iZ 2 [_,_,_,_,_,_] Y5) Z<|H2 ?_;refine xW 3 8 9 V ?_ ?_ ?_
   .refine Jb Z Tt Z Z Z (vT _ _ d0 p Ag Af ng cg nf cf Pz Pz f P1 P2 P3 p1 r1 p2 r2 p3 r3 Pz Pz jp nh A2 n2 q2 x.body Pz nU.body O) ?_;rintro _ _ kH jG ⟨rfl,B5,m5,e5,rfl,hB5⟩;refine ⟨λ_ _ h=>h,?_⟩;refine xW 7 8 9 V ?_ ?_ ?_
    .refine Jb Z Tt Z Z Z (vT _ _ d0 p Ag Af ng cg nf cf Pz Pz f P1 P2 P3 p1 r1 p2 r2 p3 r3 Pz Pz jp nh A3 n3 q3 x.els Pz nU.els O) ?_;rintro _ _ kz jM ⟨rfl,B6,m6,e6,rfl,hB6⟩;refine ⟨λ_ _ h=>h,?_⟩;refine kA 8 9 V ?_ ?_;.refine ky Z Tt Z [_] Y2 λb12 kh jE=>iF 9 V<|ky Z Tt Z [_] Y2 λb13 lq kV=>iF 10 V<|Wu Z Tt 1 [_] Y9 (sM (lz (wi (jL))))<|iF 11 V<|Wu Z Tt 0 [_] Y9 (sM (lz (wi (jL))))<|ji V ?_;refine iU (jP.mk (b12,b13,_,_) [] Lc (.c2 Z Z sk) (List.Perm.swap _ _ _) ⟨_,_,_,_,_,_,Z,Z,hB5.le Lc,hB6.le Lc⟩)
     refine ky Z Tt Z [_] Y2 λb12 kh jE=>iF 8 V<|ky Z Tt Z [_] Y2 λb13 lq kV=>iF 10 V<|Wu Z Tt 0 [_] Y9 (sM (lz (wi (jL))))<|iF 11 V<|Wu Z Tt 1 [_] Y9 (sM (lz (wi (jL))))<|ji V ?_;refine iU (jP.mk (b13,b12,_,_) [] Lc (.c2 Z Z sk) Pr ⟨_,_,_,_,_,_,Z,Z,hB5.le Lc,hB6.le Lc⟩)
    .refine ky Z Tt Z [_] Y2 λb11 kz jM=>kA 7 9 V ?_ ?_;.refine Jb Z Tt Z Z Z (vT _ _ d0 p Ag Af ng cg nf cf Pz Pz f P1 P2 P3 p1 r1 p2 r2 p3 r3 Pz Pz jp nh A3 n3 q3 x.els Pz nU.els O) ?_;rintro _ _ kh jE ⟨rfl,B6,m6,e6,rfl,hB6⟩;refine ⟨λ_ _ h=>h,?_⟩;refine iF 9 V<|ky Z Tt Z [_] Y2 λb13 lq kV=>iF 10 V<|Wu Z Tt 1 [_] Y9 (sM (lz (wi (jL))))<|iF 11 V<|Wu Z Tt 0 [_] Y9 (sM (lz (wi (jL))))<|ji V ?_;refine iU (jP.mk (b11,b13,_,_) [] Lc (.c2 Z Z sk) (List.Perm.swap _ _ _) ⟨_,_,_,_,_,_,Z,Z,hB5.le Lc,hB6.le kV⟩)
     refine ky Z Tt Z [_] Y2 λb12 kh jE=>iF 7 V<|Jb Z Tt Z Z Z (vT _ _ d0 p Ag Af ng cg nf cf Pz Pz f P1 P2 P3 p1 r1 p2 r2 p3 r3 Pz Pz jp nh A3 n3 q3 x.els Pz nU.els O) ?_;rintro _ _ lq kV ⟨rfl,B6,m6,e6,rfl,hB6⟩;refine ⟨λ_ _ h=>h,?_⟩;refine X10 ?_;refine iU (jP.mk (b11,b12,_,_) [] Lc (.c2 Z Z sk) (List.Perm.swap _ _ _) ⟨_,_,_,_,_,_,Z,Z,hB5.le Lc,hB6.le (Lr D)⟩)
    refine ky Z Tt Z [_] Y2 λb11 kz jM=>kA 7 8 V ?_ ?_;.refine Jb Z Tt Z Z Z (vT _ _ d0 p Ag Af ng cg nf cf Pz Pz f P1 P2 P3 p1 r1 p2 r2 p3 r3 Pz Pz jp nh A3 n3 q3 x.els Pz nU.els O) ?_;rintro _ _ kh jE ⟨rfl,B6,m6,e6,rfl,hB6⟩;refine ⟨λ_ _ h=>h,?_⟩;refine iF 8 V<|ky Z Tt Z [_] Y2 λb13 lq kV=>iF 10 V<|Wu Z Tt 0 [_] Y9 (sM (lz (wi (jL))))<|iF 11 V<|Wu Z Tt 1 [_] Y9 (sM (lz (wi (jL))))<|ji V ?_;refine iU (jP.mk (b13,b11,_,_) [] Lc (.c2 Z Z sk) Pr ⟨_,_,_,_,_,_,Z,Z,hB5.le Lc,hB6.le kV⟩)
    refine ky Z Tt Z [_] Y2 λb12 kh jE=>iF 7 V<|Jb Z Tt Z Z Z (vT _ _ d0 p Ag Af ng cg nf cf Pz Pz f P1 P2 P3 p1 r1 p2 r2 p3 r3 Pz Pz jp nh A3 n3 q3 x.els Pz nU.els O) ?_;rintro _ _ lq kV ⟨rfl,B6,m6,e6,rfl,hB6⟩;refine ⟨λ_ _ h=>h,?_⟩;refine X11 ?_;refine iU (jP.mk (b12,b11,_,_) [] Lc (.c2 Z Z sk) Pr ⟨_,_,_,_,_,_,Z,Z,hB5.le Lc,hB6.le (Lr D)⟩)
   .refine ky Z Tt Z [_] Y2 λb10 kH jG=>kA 3 9 V ?_ ?_
    .refine Jb Z Tt Z Z Z (vT _ _ d0 p Ag Af ng cg nf cf Pz Pz f P1 P2 P3 p1 r1 p2 r2 p3 r3 Pz Pz jp nh A2 n2 q2 x.body Pz nU.body O) ?_;rintro _ _ kz jM ⟨rfl,B5,m5,e5,rfl,hB5⟩;refine ⟨λ_ _ h=>h,?_⟩;refine kA 7 9 V ?_ ?_;.refine Jb Z Tt Z Z Z (vT _ _ d0 p Ag Af ng cg nf cf Pz Pz f P1 P2 P3 p1 r1 p2 r2 p3 r3 Pz Pz jp nh A3 n3 q3 x.els Pz nU.els O) ?_;rintro _ _ kh jE ⟨rfl,B6,m6,e6,rfl,hB6⟩;refine ⟨λ_ _ h=>h,?_⟩;refine iF 9 V<|ky Z Tt Z [_] Y2 λb13 lq kV=>iF 10 V<|Wu Z Tt 1 [_] Y9 (sM (lz (wi (jL))))<|iF 11 V<|Wu Z Tt 0 [_] Y9 (sM (lz (wi (jL))))<|ji V ?_;refine iU (jP.mk (b10,b13,_,_) [] Lc (.c2 Z Z sk) (List.Perm.swap _ _ _) ⟨_,_,_,_,_,_,Z,Z,hB5.le Lc,hB6.le kV⟩)
     refine ky Z Tt Z [_] Y2 λb12 kh jE=>iF 7 V<|Jb Z Tt Z Z Z (vT _ _ d0 p Ag Af ng cg nf cf Pz Pz f P1 P2 P3 p1 r1 p2 r2 p3 r3 Pz Pz jp nh A3 n3 q3 x.els Pz nU.els O) ?_;rintro _ _ lq kV ⟨rfl,B6,m6,e6,rfl,hB6⟩;refine ⟨λ_ _ h=>h,?_⟩;refine X10 ?_;refine iU (jP.mk (b10,b12,_,_) [] Lc (.c2 Z Z sk) (List.Perm.swap _ _ _) ⟨_,_,_,_,_,_,Z,Z,hB5.le Lc,hB6.le (Lr D)⟩)
    refine ky Z Tt Z [_] Y2 λb11 kz jM=>iF 3 V<|Jb Z Tt Z Z Z (vT _ _ d0 p Ag Af ng cg nf cf Pz Pz f P1 P2 P3 p1 r1 p2 r2 p3 r3 Pz Pz jp nh A2 n2 q2 x.body Pz nU.body O) ?_;rintro _ _ kh jE ⟨rfl,B5,m5,e5,rfl,hB5⟩;refine ⟨λ_ _ h=>h,?_⟩;refine iF 7 V<|Jb Z Tt Z Z Z (vT _ _ d0 p Ag Af ng cg nf cf Pz Pz f P1 P2 P3 p1 r1 p2 r2 p3 r3 Pz Pz jp nh A3 n3 q3 x.els Pz nU.els O) ?_;rintro _ _ lq kV ⟨rfl,B6,m6,e6,rfl,hB6⟩;refine ⟨λ_ _ h=>h,?_⟩;refine X10 ?_;refine iU (jP.mk (b10,b11,_,_) [] Lc (.c2 Z Z sk) (List.Perm.swap _ _ _) ⟨_,_,_,_,_,_,Z,Z,hB5.le kV,hB6.le (Lr D)⟩)
   refine ky Z Tt Z [_] Y2 λb10 kH jG=>kA 3 8 V ?_ ?_
   .refine Jb Z Tt Z Z Z (vT _ _ d0 p Ag Af ng cg nf cf Pz Pz f P1 P2 P3 p1 r1 p2 r2 p3 r3 Pz Pz jp nh A2 n2 q2 x.body Pz nU.body O) ?_;rintro _ _ kz jM ⟨rfl,B5,m5,e5,rfl,hB5⟩;refine ⟨λ_ _ h=>h,?_⟩;refine kA 7 8 V ?_ ?_;.refine Jb Z Tt Z Z Z (vT _ _ d0 p Ag Af ng cg nf cf Pz Pz f P1 P2 P3 p1 r1 p2 r2 p3 r3 Pz Pz jp nh A3 n3 q3 x.els Pz nU.els O) ?_;rintro _ _ kh jE ⟨rfl,B6,m6,e6,rfl,hB6⟩;refine ⟨λ_ _ h=>h,?_⟩;refine iF 8 V<|ky Z Tt Z [_] Y2 λb13 lq kV=>iF 10 V<|Wu Z Tt 0 [_] Y9 (sM (lz (wi (jL))))<|iF 11 V<|Wu Z Tt 1 [_] Y9 (sM (lz (wi (jL))))<|ji V ?_;refine iU (jP.mk (b13,b10,_,_) [] Lc (.c2 Z Z sk) Pr ⟨_,_,_,_,_,_,Z,Z,hB5.le Lc,hB6.le kV⟩)
    refine ky Z Tt Z [_] Y2 λb12 kh jE=>iF 7 V<|Jb Z Tt Z Z Z (vT _ _ d0 p Ag Af ng cg nf cf Pz Pz f P1 P2 P3 p1 r1 p2 r2 p3 r3 Pz Pz jp nh A3 n3 q3 x.els Pz nU.els O) ?_;rintro _ _ lq kV ⟨rfl,B6,m6,e6,rfl,hB6⟩;refine ⟨λ_ _ h=>h,?_⟩;refine X11 ?_;refine iU (jP.mk (b12,b10,_,_) [] Lc (.c2 Z Z sk) Pr ⟨_,_,_,_,_,_,Z,Z,hB5.le Lc,hB6.le (Lr D)⟩)
   refine ky Z Tt Z [_] Y2 λb11 kz jM=>iF 3 V<|Jb Z Tt Z Z Z (vT _ _ d0 p Ag Af ng cg nf cf Pz Pz f P1 P2 P3 p1 r1 p2 r2 p3 r3 Pz Pz jp nh A2 n2 q2 x.body Pz nU.body O) ?_;rintro _ _ kh jE ⟨rfl,B5,m5,e5,rfl,hB5⟩;refine ⟨λ_ _ h=>h,?_⟩;refine iF 7 V<|Jb Z Tt Z Z Z (vT _ _ d0 p Ag Af ng cg nf cf Pz Pz f P1 P2 P3 p1 r1 p2 r2 p3 r3 Pz Pz jp nh A3 n3 q3 x.els Pz nU.els O) ?_;rintro _ _ lq kV ⟨rfl,B6,m6,e6,rfl,hB6⟩;refine ⟨λ_ _ h=>h,?_⟩;refine X11 ?_;refine iU (jP.mk (b11,b10,_,_) [] Lc (.c2 Z Z sk) Pr ⟨_,_,_,_,_,_,Z,Z,hB5.le kV,hB6.le (Lr D)⟩)
  intro g s8 h8 I8;simp only [jC,jD];obtain ⟨b7,b8,v5,v6⟩:=g;obtain ⟨B5,m5,e5,B6,m6,e6,h95,h96,hB5,hB6⟩:=I8;simp only at h95 h96;subst h95;subst h96;dsimp only;refine X35 ?_;exact rR [] _ (.t1 Z) Z Lc λ_ iD=>⟨[_,_,_,_,_],rfl,λs2 j5 hp=>.cond _ _ _ _ _ _ _ _ _ _ _ _ pj (hp _ _ _ (an _ (an _ Mc))) (hp _ _ _ Mc) (hp _ _ _ (an _ Mc)) (hV.le (h4.t h8|>.t (iD.t j5))) nE (hB5.le ((Lr D).t (iD.t j5))) (hB6.le ((Lr D).t (iD.t j5)))⟩
 refine J6 ?_ ?_<;>intro c8
 .have pj:x.kind=4:=c8;have nE:0 < n':=by have h9:wW x.kind=1:=(by rw [pj];rfl);omega
  refine Sr<|iA (iZ 2 [_,_,_,_,_,_] Y5) Z<|G2 ?_;refine Jc Y3 (vT _ _ d0 p Ag Af ng cg nf cf Pz Pz f P1 P2 P3 p1 r1 p2 r2 p3 r3 Pz Pz jp nh A2 n2 q2 x.body Pz nU.body O) ?_;rintro _ _ s9 h9 ⟨rfl,B5,m5,e5,rfl,hB5⟩;refine jh Z [_] Y2 λb10 kH jG=>Wt 0 [_] Y9<|Nt<|Sr<|iA (qZ Z) Z<|G6 ?_;exact rR [] _ (.t1 Z) Z Lc λ_ iD=>⟨[_,_,_,_],rfl,λs2 j5 hp=>.loop _ _ _ _ _ _ _ _ pj (hp _ _ _ (an _ Mc)) (hp _ _ _ Mc) (hV.le (h4.t h9|>.t jG|>.t (iD.t j5))) nE (hB5.le (jG.t (iD.t j5)))⟩
 refine J6 ?_ ?_<;>intro c9;.have pj:x.kind=5:=c9;obtain ⟨k,fk,hg,hpk,hl⟩:=ms5 nh nU pj;refine Sr<|iA (iZ 2 [_,_,_,_,_,_] Y5) Z<|G3 ?_;refine Jc Y3 (AC.pubW (qmn d0 Pz Pz Pz Pz k fk (hV.le h4) hg hpk hl)) ?_;rintro _ _ kH jG ⟨rfl,hW⟩;obtain ⟨be,bi,A9,n9,c9,k9,fk9,hvf,hW⟩:=hW;subst hvf;have hW:sD p (lZ p f d) kH x.name x.exprs _:=⟨be,bi,A9,n9,c9,k9,fk9,rfl,hW⟩;refine jh Z [_] Y2 λb11 kz jM=>Wt 0 [_] Y9<|Nt<|Sr<|iA (qZ Z) Z<|G6 ?_;exact rR [] _ (.t1 Z) Z Lc λ_ iD=>⟨[_,_,_,_],rfl,λs2 j5 hp=>.call _ _ pj (hp _ _ _ Mc) (hW.le Lc λ_ _ h=>lZ.le Lc h)⟩
 refine J6 ?_ ?_<;>intro mz
 .have pj:x.kind=6:=mz;have nE:0 < n':=by have h9:wW x.kind=1:=(by rw [pj];rfl);omega
  refine Sr<|iA (qZ Z) Z<|G6 ?_;exact rR [] _ (.t1 Z) Z Lc λ_ iD=>⟨[_,_,_],rfl,λs2 j5 hp=>.ret _ _ _ _ pj (hp _ _ _ Mc) (hV.le (h4.t (iD.t j5))) nE⟩
 refine J6 ?_ ?_<;>intro nZ
 .have pj:x.kind=7:=nZ;have nE:0 < n':=by have h9:wW x.kind=1:=(by rw [pj];rfl);omega
  refine Sr<|iA (qZ Z) Z<|G6 ?_;exact rR [] _ (.t1 Z) Z Lc λ_ iD=>⟨[_,_,_],rfl,λs2 j5 hp=>.put _ _ _ _ pj (hp _ _ _ Mc) (hV.le (h4.t (iD.t j5))) nE⟩
 refine J6 ?_ ?_<;>intro oL
 .have pj:x.kind=8:=oL;have nE:0 < n':=by have h9:wW x.kind=1:=(by rw [pj];rfl);omega
  refine Sr<|iA (qZ Z) Z<|G6 ?_;exact rR [] _ (.t1 Z) Z Lc λ_ iD=>⟨[_,_,_],rfl,λs2 j5 hp=>.stop _ _ _ _ pj (hp _ _ _ Mc) (hV.le (h4.t (iD.t j5))) nE⟩
 refine J6 ?_ ?_<;>intro pZ;.have pj:x.kind=9:=pZ;refine G8 ?_;exact rR [] _ (.t1 Z) Z Lc λ_ iD=>⟨[_,_,_],rfl,λs2 j5 hp=>.brk pj⟩
 have pj:x.kind=10:=O
 refine G9 ?_;exact rR [] _ (.t1 Z) Z Lc λ_ iD=>⟨[_,_,_],rfl,λs2 j5 hp=>.cont pj⟩
def VP{D:Nat}:∀ d,Wq D d
 | 0=>λL s d0 p Ag Af ng cg nf cf jF jX f P1 P2 P3 p1 r1 p2 r2 p3 r3 qU qV jp nh A n c xs hA hO hN=>AC.pubW (k_ (λe h=>O) jF jX qU qV jp nh hA hO hN (by have:=hA.1;have:=Oo xs;omega))
 | d+1=>λL s d0 p Ag Af ng cg nf cf jF jX f P1 P2 P3 p1 r1 p2 r2 p3 r3 qU qV jp nh A n c xs hA hO hN=>AC.pubW (k_ (λe h=>(show d=e by omega)▸λL s d0 p Ag Af ng cg nf cf jF jX f P1 P2 P3 p1 r1 p2 r2 p3 r3 qU qV jp nh x A1 n1 c1 A2 n2 c2 A3 n3 c3 h1 h2 h3 hN2 hN3 hx=>AC.pubW (qp5 (VP d) jF jX qU qV jp nh h1 h2 h3 hN2 hN3 hx)) jF jX qU qV jp nh hA hO hN (by have:=hA.1;have:=Oo xs;omega))
end
section
variable{x:Operand}
section
variable{TT:kD}{Q:w7}{fr:Fr}{ops:Array Oper}
def qnA{f:FuncId}{x:Operand}{xs:List Operand}{first captured:iz}{R:Value->Hl->World->Prop}{X:List PanicEntry->Hl->World->Prop}(hx:lk fr x=some (.func (.func f) first.toArray captured.toArray))(hv:qY fr xs=some vs)
  (hd:Nat.blt d n=true) (h:AP P D f (first++vs++captured) L s R X) (kx:∀ ch L' s',Le D s s'->X ch L' s'->Q (.panic ch) ds fr L' s') (k:∀ v L' s',Le D s s'->R v L' s'->RO P TT D n ro ops Q iI ds ((d,v)::fr) L' s') :
  RO P TT D n ro ops Q (⟨some d,.call { callee:=.value x,args:=xs.toArray,argTypes:=ts },ty,iL,af,none⟩::iI) ds fr L s:=λhT a hr ho=>by
 obtain ⟨⟨fn,h1,h2,h3⟩,hc⟩:=h;have hρ:∀ x v,lk fr x=some v->a.eval x=v:=λx v hx=>hr.ev hx;simp only [wpListIn,Region.wanted,bV];refine ⟨λf _=>DF ro f,?_⟩;have jH:(execOp a.eval ⟨some d,.call { callee:=.value x,args:=xs.toArray,argTypes:=ts },ty,iL,af,none⟩).run P (fill L s)=.ok (.enter f (first++vs++captured).toArray) (fill L s):=by
  exact ET
 rw [fy _ _ _ (by nofun),jH,Oper.uponIn_enter];refine ⟨NX ro 0,(TB ro (hc ho)).mono ?_⟩;rintro e w' ⟨L',s',rfl,h4,h5,h6⟩;rcases h6 with ⟨v,rfl,h6⟩|⟨ch,rfl,h6⟩
 . exact k v L' s' h5 h6 hT _ (hr.put hd v) h4
 . exact ⟨ds,fr,L',s',hr,h4,rfl,kx _ _ _ h5 h6⟩
def quh{f:FuncId}{x:Operand}{first captured:iz}(hx:lk fr x=some (.func (.func f) first.toArray captured.toArray))
  (k:RO P TT D n none ops Q iI ({ target:=.fn (.func f) captured.toArray,args:=first.toArray }::ds) fr L s) :
  RO P TT D n none ops Q (⟨none,.defer { callee:=.value x,args:=#[],argTypes:=ts },ty,iL,af,none⟩::iI) ds fr L s:=λhT a hr ho=>by
 simp only [wpListIn,Region.wanted,bV];refine ⟨λf _=>DF none f,?_⟩;have jH:(execOp a.eval ⟨none,.defer { callee:=.value x,args:=#[],argTypes:=ts },ty,iL,af,none⟩).run P (fill L s)=.ok (.defer { target:=.fn (.func f) captured.toArray,args:=first.toArray }) (fill L s):=by
  simp [execOp,resolve,Deferred.ofValue,hr.ev hx]
 rw [show (Do none).round=none from rfl,Oper.semAt_none,jH,Oper.uponIn_defer];refine k hT _ ⟨?_,?_⟩ ho
 . exact hr.rel
 . show _::a.defers=_;rw [hr.defers]
def DC(P:Program)(D:Nat)(d:Deferred)(u:FrameMode)(L:Hl)(s:World)(K:Hl->World->Prop):Prop:=
 jQ D L s->∃ fv cap f args,d.target=.fn fv cap/\(invoke d.target d.args).run P (fill L s)=.ok (.enter f args) (fill L s)/\CallsD P f args u (fill L s) λe u' w'=>∃ v,e=.returned v/\settle u'=.returning/\∃ L1 s1,w'=fill L1 s1/\jQ D L1 s1/\K L1 s1
def EW(TT:kD)(D:Nat)(rs:List ResultVar)(s0:World)(R:Value->Hl->World->Prop)(fr:Fr)(L:Hl)(s:World):Prop:=∃ vs A L',qQ TT fr L rs vs/\L=A++L'/\Le D s0 s/\∀ s',Le D s s'->R (kU vs) L' s'
def Lj(P:Program)(TT:kD)(D:Nat)(rs:List ResultVar)(s0:World)(R:Value->Hl->World->Prop):w7
 | .normal,[],fr,L,s|.ret,[],fr,L,s=>EW TT D rs s0 R fr L s
 | .normal,[d],fr,L,s|.ret,[d],fr,L,s=>DC P D d .returning L s λL1 s1=>EW TT D rs s0 R fr L1 s1
 | .panic ch,[d],fr,L,s=>DC P D d (.panicking ch) L s λL1 s1=>EW TT D rs s0 R fr L1 s1
 | _,_,_,_,_=>False
def Yz{p:Prop} (h:p:=by
 show Leaves P fn a.tmps _ a.defers .returning (fill L1 s1);rw [k1.defers];exact fin L1 s1 k2 hq):p:=h
def qp8{f:FuncId}{c:Code}{args:iz}{R:Value->Hl->World->Prop}(hT:jV P TT)(hf:P.funcs[f]?=some fn)(hn:(fn.name == "runtime.NumGoroutine")=false)(hb:fn.body=some c)(hnt:fn.ntmps=n)(j9:Nat.ble args.length n=true)(z6:fn.results.toList=rs)(yf:Fr)(oU:nP 0 args=yf)
  (h:RC P TT D n none (Lj P TT D rs s R) c [] yf L s):AC P D f args L s R:=by
 subst oU;subst z6;refine ⟨⟨fn,hf,hn,by simp [hb]⟩,λho=>calls_of_wp_defers hf hb ?_⟩;have hle':args.length<=n:=bE j9;have hr:vG [] n { tmps:=args.toArray++Array.replicate (fn.ntmps - args.toArray.size) undef,defers:=[] } (nP 0 args):=by
  exact Io
 refine wpIn_wide.1 (ft (n:=0) (h hT _ hr ho) ?_);rintro e a w ⟨ds,jN,L1,s1,k1,k2,rfl,hq⟩;have fin:∀ (L2:Hl) (s2:World),jQ D L2 s2->EW TT D fn.results.toList s R jN L2 s2->∃ v,(results fn a.tmps).run P (fill L2 s2)=.ok v (fill L2 s2)/\∃ v' L' s',Ending.returned v=.returned v'/\fill L2 s2=fill L' s'/\jQ D L' s'/\Le D s s'/\R v' L' s':=λL2 s2 nj sP=>by
  obtain ⟨vs,A,L',hres,rfl,hle1,hR⟩:=sP;obtain ⟨d1,d2,d3⟩:=tI nj;have jH:(results fn a.tmps).run P (fill (A++L') s2)=.ok (kU vs) (fill (A++L') s2):=by
   have h1:=qQ.run hT k1.rel nj hres;have h2:(fn.results.mapM (D3 a.tmps)).run P (fill (A++L') s2)=.ok vs.toArray (fill (A++L') s2):=by
    exact WW
   exact XB
  exact ⟨_,jH,_,L',fill A s2,rfl,d1,d2,hle1.trans d3,hR _ d3⟩
 have one:∀ (dd:Deferred) (u:FrameMode),u≠.run->ds=[dd]->DC P D dd u L1 s1 (λL1 s1=>EW TT D fn.results.toList s R jN L1 s1)->Leaves P fn a.tmps (λe w'=>∃ v L' s',e=.returned v/\w'=fill L' s'/\jQ D L' s'/\Le D s s'/\R v L' s') a.defers u (fill L1 s1):=λdd u hu wN hdc=>by
  obtain ⟨fv,cap,g,gs,h1,h2,h3⟩:=hdc k2;rw [k1.defers,wN];refine ⟨hu,fv,cap,g,gs,h1,h2,h3.mono ?_⟩;rintro e u' w' ⟨v,rfl,hset,L2,s2,rfl,nj,sP⟩;show Leaves P fn a.tmps _ [] (settle u') (fill L2 s2);rw [hset];obtain ⟨v,h4,h5⟩:=fin L2 s2 nj sP;exact ⟨v,h4,h5⟩
 match e,ds,hq with
 | .normal,[],hq=>
  exact Yz
 | .ret,[],hq=>
  exact Yz
 | .normal,[dd],hq=>exact one dd .returning (by intro h;cases h) rfl hq
 | .ret,[dd],hq=>exact one dd .returning (by intro h;cases h) rfl hq
 | .panic ch,[dd],hq=>exact one dd (.panicking ch) (by intro h;cases h) rfl hq
def qtw{J:List Deferred->Fr->Hl->World->Prop}(h:Q (.panic ch) ds fr L s):Fx J Q (.panic ch) ds fr L s:=h
def qnE{id:Nat}(h:Q (.panic ch) ds fr L s):Fj id Q (.panic ch) ds fr L s:=h
def qsG{R:Value->Hl->World->Prop}(A:Hl){L':Hl}(h:qQ TT fr L rs vs)(hL:L=A++L')(hl:Le D s0 s)(hR:∀ s',Le D s s'->R (kU vs) L' s'):EW TT D rs s0 R fr L s:=⟨vs,A,L',h,hL,hl,hR⟩
def qzT{R:Value->Hl->World->Prop}(h:DC P D dd (.panicking ch) L s λL1 s1=>EW TT D rs s0 R fr L1 s1):Lj P TT D rs s0 R (.panic ch) [dd] fr L s:=h
def qmb(h:fn.results=#[]):(results fn tmps).run P w=.ok (.tuple #[]) w:=by
 rw [Tk,h];simp
section rec
variable{f:FuncId}{id t:Nat}{c2:Code}{cap:iz}{K:Hl->World->Prop}
def qsU(hnt:fn.ntmps=n)(j9:Nat.ble cap.length n=true):jr n { tmps:=cap.toArray++Array.replicate (fn.ntmps - cap.toArray.size) undef,defers:=[] } (nP 0 cap):=by
 have hle':cap.length<=n:=bE j9;exact SL
end rec
end
section
variable{TT:kD}{fr:Fr}{ops:Array Oper}
def qGI{xt t:TypeId}{u:Value}(hu:P.underlying t=some (.struct #[]))(hx:lk fr x=some (.iface t u)):QE P TT D fr (.typeAssert x xt t true) ty K s0 (.tuple #[u,.bool true]):=
 QE.pure λhT dst iL af g ρ hρ w=>by simp [execOp,Instr.typeAssert,underlying,hu,hρ x _ hx]
def qqi{t:Nat}(hz:(P.info? t).bind (λi=>i.zero)=some (Value.agg #[]))(hd:Nat.blt d n=true)
  (k:∀ β s',Le D s s'->JO P TT D n ops Q iI ((d,iT β)::fr) ((β,cb [] t)::L) s'):JO P TT D n ops Q (⟨some d,.alloc t,ty,iL,af,none⟩::iI) fr L s:=λhT a hr ho=>
 AH hd (λhT _ dst iL af g ρ _=>by
  obtain ⟨h1,h2,h3⟩:=qB ho (cb [] t);refine ⟨?_,h2⟩;obtain ⟨i,hi,xH⟩:=fa.1 hz;have hzv:(zeroValue t).run P (fill L s)=.ok (.agg #[]) (fill L s):=by simp [zeroValue,typeInfo,hi,xH]
  simp only [execOp,Instr.alloc,bA,hzv,aP,newVar,KC,bG,oB,Value.cells];rw [<- h1];rfl:Ev P TT D fr (.alloc t) ty L s (.value (.pointer (some ⟨s.heap.size,0,none⟩))) ((s.heap.size,cb [] t)::L) (s.alloc (mJ D))) (k _ _ (qB ho (cb [] t)).2.2) hT a hr ho
def qGA{t:Nat}{y:Operand}{a0:Addr}(hs:(P.info? t).map (λi=>i.size)=some 0)(hx:lk fr x=some (.pointer (some a0)))(hy:lk fr y=some (.agg #[]))(k:JO P TT D n ops Q iI fr L s):JO P TT D n ops Q (⟨none,.store t x y,ty,iL,af,none⟩::iI) fr L s:=
 Pp (λhT ho dst iL af g ρ hρ=>by
  refine ⟨?_,ho⟩;obtain ⟨i,hi,xH⟩:=dG.1 hs;simp [execOp,Instr.storeAt,storeVar,sizeOf,typeInfo,hi,xH,hρ x _ hx,hρ y _ hy,Instr.sureAddr,Value.cells,storeCells]:Ev P TT D fr (.store t x y) ty L s .skip L s) k
def Vj(id d0 d1 ty0 ty1:Nat)(ts:Array TypeId)(p0 p1:String)(a0 a1:Array Edge)(c2:Code):Code:=
 .seq (.region id #[⟨some d0,.call { callee:=.builtin .recover,args:=#[],argTypes:=ts },ty0,p0,a0,none⟩,⟨some d1,.assign (.tmp d0),ty1,p1,a1,none⟩] false) c2
section rec
variable{f:FuncId}{id:Nat}{c2:Code}{cap:iz}
def qsT{a:Act}{cs:List Frame}{Q:Exit->Act->List Frame->World->Prop}(sR:recoverD cs=some (v0,cs'))
  (e1:(a.put (some d0) v0).eval (.tmp d0)=v0)
  (h:Q .normal ((a.put (some d0) v0).put (some d1) v0) cs' w):wpOpsS P #[⟨some d0,.call { callee:=.builtin .recover,args:=#[],argTypes:=ts },ty0,p0,a0,none⟩,⟨some d1,.assign (.tmp d0),ty1,p1,a1,none⟩] Q [0,1] a cs w:=by
 have h0:(execOp a.eval ⟨some d0,.call { callee:=.builtin .recover,args:=#[],argTypes:=ts },ty0,p0,a0,none⟩).run P w=.ok .recover w:=by
  simp [execOp,resolve,invoke,builtin]
 have hx:=(show (execOp (a.put (some d0) v0).eval ⟨some d1,.assign (.tmp d0),ty1,p1,a1,none⟩).run P w=.ok (.value v0) w by simp [execOp,e1]);simp only [wpOpsS,Region.wanted,eA,dj,bH,bV,h0,sR,hx,Oper.upon];exact h
def qG0(D:Nat)(K:Hl->World->Prop)(s:World):pS:=λe _ L' s'=>e=.normal/\∃ A L1,L'=A++L1/\Le D s s'/\∀ s2,Le D s' s2->K L1 s2
def qAb{K:Hl->World->Prop}(hT:jV P TT)(hf:P.funcs[f]?=some fn)(hn:(fn.name == "runtime.NumGoroutine")=false)(hb:fn.body=some (Vj id d0 d1 ty0 ty1 ts p0 p1 a0 a1 c2))(hnt:fn.ntmps=n)(j9:Nat.ble cap.length n=true)(z6:fn.results=#[])(hd0:Nat.blt d0 n=true)(hd1:Nat.blt d1 n=true)
  (yf:Fr) (oU:(d1,.iface t0 v0)::(d0,.iface t0 v0)::nP 0 cap=yf) (h:JC P TT D n (qG0 D K s) c2 yf L s):DC P D { target:=.fn (.func f) cap.toArray,args:=#[] } (.panicking [{ v:=.iface t0 v0,recovered:=false }]) L s K:=λho=>by
 subst oU;have h2':¬ fn.name = "runtime.NumGoroutine" := by simpa using hn
 refine ⟨_,_,f,cap.toArray,Z,by simp [invoke,callFunc,hf,h2',hb],callsD_of_wpS hf hb λc₀ cs hm=>?_⟩;have hr:=qsU (fn:=fn) hnt j9;have yq:=hr.put hd0 (.iface t0 v0);have sQ:=yq.put hd1 (.iface t0 v0);refine wpS_seq (wpS_region (qsT (v0:=.iface t0 v0) (cs':={ c₀ with mode:=.panicking [{ v:=.iface t0 v0,recovered:=true }] }::cs) (by simp [recoverD,hm]) (yq.ev (x:=.tmp d0) (v:=.iface t0 v0) (by simp [lk,vW])) ?_));refine wpS_of_wp (eS (h hT _ sQ ho) ?_);rintro e a w ⟨jN,L',s',k1,k2,rfl,rfl,A,L1,rfl,hl,hK⟩;obtain ⟨d1,d2,d3⟩:=tI k2;exact ⟨k1.defers,.panicking [{ v:=.iface t0 v0,recovered:=true }],rfl,_,qmb z6,_,rfl,by simp [settle],L1,fill A s',d1,d2,hK _ d3⟩
def quc{t:Nat}(hu:P.underlying t=some (.interface (P.methodsAt t)))(hx:lk fr x=some (.iface t0 v0)):QE P TT D fr (.binOp .neq t x (.const .nilIface) t') ty K s0 (.bool true):=
 QE.pure λhT dst iL af g ρ hρ w=>by
  have hc:ρ (.const .nilIface)=.nilIface:=hρ _ _ rfl;simp [execOp,hρ x _ hx,hc,eqGuard,run_neq_held_nil w t t0 v0 hu]
end rec
end
end
section
attribute [local irreducible] JC JO JA JB ma mO mX AC fill iy QE Ev my
def qzZ{K:Hl->World->Prop}(hK:∀ s',Le D s s'->K L s'):DC prog D { target:=.fn (.func 66) ([]:iz).toArray,args:=([]:iz).toArray } (.panicking [{ v:=.iface 163 (.agg #[]),recovered:=false }]) L s K:=by
 refine qAb (fn:=f66) jb func66 V Z ntmps66 Z Z Z Z [(0,_),(3,_)] Z<|Sr<|kb Y2<|iA (quc V Z) Z<|G6 ?_;refine iA (qGI V Z) Z<|G3 ?_;refine qqi V Z λβz s1 h1=>qGA V Z Z<|G6 ?_;refine AM Z Z<|G4 ?_;exact ⟨rfl,[_],_,rfl,h1,λs2 h2=>hK _ Lc⟩
def Nm:ER Int->MS×Int×Int
 | .ok _ m=>(m,1,0)
 | .fin m st cd=>(m,st,cd)
 | .out=>(⟨[],[],[],[],0,0,[]⟩,0,0)
def qEK:lX s none 0 0 []:=⟨rfl,ay _,O,λi x h=>by cases h⟩
def qr0(hT:CC p D n){c:MC}(fk:iM){iv:Value}(hC:CT p c s)(hp:p.funcs[k]?=some fk)(hfk:fk.params=[])(hM:MG p c N m iv ov R s)(hr:cX p (iS p iV n) k [] m≠.out):jU D 28 [.pointer (some ⟨c.bm,0,none⟩),iB (k:Int)] (x9 c N 0 m iv ov 0 0 (.slice F0 n0 z0)::mF c m::(R++L)) s λv L' s'=>v=.tuple #[]/\∃ m' st cd Zq9,L'=Zq9++L/\AS c N m' st cd Zq9/\Nm (cX p (iS p iV n) k [] m)=(m',st,cd):=by
 refine qp8 (fn:=f28) jb func28 V Z ntmps28 Z (rs:=[]) Z [(0,_),(1,_)] Z<|Ys<|Yr<|quh Z<|Yn<|Yt<|Ys<|Yr<|mn Y2<|mn Y2<|?_;refine qnA (first:=[]) (captured:=[]) Z Z Z (qnG hT N fk m iv ov R Pz (qEK) hp (by rw [hfk];rfl) Pz hr) ?_ ?_
 .rintro _ _ sx1 z7 ⟨rj,m1,BQ,cd1,Z1,he1,rfl,hF1⟩;repeat (first|refine qtw ?_|refine qnE ?_)
  cases rj;refine qzT (qzZ (λs9 q9=>?_));refine qsG [] .nil Z Lc λ_ iD=>?_;exact ⟨rfl,m1,BQ,cd1,Z1,rfl,hF1,by rw [he1];rfl⟩
 rintro _ _ s1 h1 ⟨a1,m1,rB,ov1,R1,he1,⟨rfl,oQ⟩,rfl,mP⟩;refine Yn<|Yt<|Yr<|mn Y2<|?_;refine qnA (first:=[]) (captured:=[]) Z Z Z (Fc [] N m1 rB ov1) ?_ ?_
 .rintro _ _ sx2 tY ⟨rj,rfl⟩;repeat (first|refine qtw ?_|refine qnE ?_)
  cases rj;refine qzT (qzZ (λs9 q9=>?_));refine qsG [] .nil Z Lc λ_ iD=>?_;exact ⟨rfl,m1,1,0,_,rfl,mP.finv _ _ _ _ [mF c m1],by rw [he1];rfl⟩
 rintro _ _ s2 h2 ⟨⟩
def uG(p:jc):List iG:=p.o.map λg=>if g.kind=3 then o7 g.num.toNat g.init else []
abbrev SN:Value:=.slice none 0 0
def Kc:∀ {ab:List (Option Nat)} {gs:List jv} {g:jv} {o:Option Nat},ab.length=gs.length->wk (ab++[o]) (gs++[g])=wk ab gs++[match o with|some b=>.slice (jZ b) g.num.toNat g.num.toNat|none=>SN]
 | [],[],g,some b,_=>rfl
 | [],[],g,none,_=>rfl
 | some b::r,x::gs,g,o,h=>by rw [ao,ao,wk,wk,Kc Q2,ao]
 | none::r,x::gs,g,o,h=>by rw [ao,ao,wk,wk,Kc Q2,ao]
def Gd:∀ {ab:List (Option Nat)} {gs:List jv},ab.length=gs.length->(wk ab gs).length=ab.length
 | [],[],_=>rfl
 | some b::r,x::gs,h=>by rw [wk,aw,Gd Q2,aw]
 | none::r,x::gs,h=>by rw [wk,aw,Gd Q2,aw]
def NE:∀ {ab:List (Option Nat)} {ls:List iG} {l:iG} {o:Option Nat},ab.length=ls.length->oR (ab++[o]) (ls++[l])=oR ab ls++(match o with|some b=>[(b,cb (wv l) 34)]|none=>[])
 | [],[],l,some b,_=>rfl
 | [],[],l,none,_=>rfl
 | some b::r,x::ls,l,o,h=>by rw [ao,ao,oR,oR,NE Q2,ao]
 | none::r,x::ls,l,o,h=>by rw [ao,ao,oR,oR,NE Q2]
section
variable{g:jv}
def xy(p:jc)(ab:List (Option Nat))(k ng:Nat):iz:=wk ab (p.o.take k)++List.replicate (ng - k) SN
theorem Fm(hl:ab.length=k)(hg:p.o[k]?=some g):ab.length=(p.o.take k).length:=by grind
def Zx(h:k < ng):List.replicate (ng - k) SN=SN::List.replicate (ng - (k+1)) SN:=by
 rw [show ng - k=ng - (k+1)+1 by omega,eR]
def qqP(hl:ab.length=k)(hg:p.o[k]?=some g)(hk:k < ng):(xy p ab k ng).length=ng:=by
 rw [xy,ac,Gd (Fm hl hg),cR];omega
def quC(hl:ab.length=k)(hg:p.o[k]?=some g)(hk:k < ng):xy p ab k ng=xy p (ab++[none]) (k+1) ng:=by
 rw [xy,xy,wQ hg,Kc (Fm hl hg),Zx hk,am];rfl
def qBs(hl:ab.length=k)(hg:p.o[k]?=some g)(hk:k < ng):pk (xy p ab k ng) (0+k) [.slice (jZ b) g.num.toNat g.num.toNat]=xy p (ab++[some b]) (k+1) ng:=by
 rw [aX,Du _ _ _ (by rw [qqP hl hg hk];simp;omega)];have h1:=Gd (Fm hl hg);rw [xy,xy,wQ hg,Kc (Fm hl hg),Zx hk,ej O,aK O,List.drop_append,aL Q6,h1,hl,am,am];simp
def qBt(hl:ab.length=k)(hg:p.o[k]?=some g):nth (xy p (ab++[some b]) (k+1) ng) (0+k)=some (.slice (jZ b) g.num.toNat g.num.toNat):=by
 rw [aX,wc,xy,wQ hg,Kc (Fm hl hg),am,aY (by rw [Gd (Fm hl hg)];omega),Gd (Fm hl hg),hl,il];rfl
def qBr(hl:ab.length=k)(hg:p.o[k]?=some g)(hk:k < ng):Nat.ble (0+k+1) (xy p ab k ng).length=true:=by
 rw [fY,qqP hl hg hk];omega
def Un(hg:p.o[k]?=some g):(uG p)[k]?=some (if g.kind=3 then o7 g.num.toNat g.init else []):=by rw [uG,bQ,hg];rfl
def qBp(hl:ab.length=k)(hg:p.o[k]?=some g)(h3:g.kind=3)(L:Hl):oR ab ((uG p).take k)++(b,cb (wv (o7 g.num.toNat g.init)) 34)::L=oR (ab++[some b]) ((uG p).take (k+1))++L:=by
 have hk:=(al.1 hg).1;rw [wQ (Un hg),NE (by rw [cY,uG,bB];omega),au h3,am];rfl
def quy(hl:ab.length=k)(hg:p.o[k]?=some g):oR ab ((uG p).take k)=oR (ab++[none]) ((uG p).take (k+1)):=by
 have hk:=(al.1 hg).1;rw [wQ (Un hg),NE (by rw [cY,uG,bB];omega),aE]
end
def pmA(X:Hl){A:Hl}:(a::(X++(A++L))).Perm (X++(A++a::L)):=by
 rw [<- am,<- am];exact eP.symm
def qz8(n:Nat):wv (List.replicate n 0)=List.replicate n (iJ 0):=by simp [wv]
@[irreducible] def vi:Nat:=100000002
def UW:vi=99999982+20:=by unfold vi;rfl
def yG(p:jc)(inp:iH)(a:Nat):iH×Int×Int×Nat:=xZ a (yH p iV (vi+1) (nM p.funcs).toNat inp a)
def pV(p:jc)(inp:iH)(ka:Int):(iH×Int×Int×Nat)×(Int×Int):=if (kG p).1≠0 then (([],0,0,0),kG p) else if 400000 < inp.length then (([],0,0,0),(3,-2)) else if ka < 0\/50000000 < ka then (([],0,0,0),(4,-3)) else (yG p inp ka.toNat,(0,0))
def Ju(s:World)(o:iH×Int×Int×Nat)(v:Value):Prop:=∃ A n c,v=.agg #[.slice A n c,iB o.2.1,iJ o.2.2.1,iB (o.2.2.2:Int)]/\lP s A n c o.1
def qs2{st:Int}(h:(kG p).1≠0):pV p inp st=(([],0,0,0),kG p):=by rw [pV,au h]
def qwm{st:Int}(h:¬ (kG p).1≠0)(h2:400000 < inp.length):pV p inp st=(([],0,0,0),(3,-2)):=by rw [pV,ak h,au h2]
theorem qC7{st:Int}(h:¬ (kG p).1≠0)(h2:¬ 400000 < inp.length)(h3:st < 0\/50000000 < st):pV p inp st=(([],0,0,0),(4,-3)):=by grind [pV]
theorem O_{a:Nat}(h:¬ (kG p).1≠0)(h2:¬ 400000 < inp.length)(h3:¬ ((a:Int) < 0\/50000000 < (a:Int))):pV p inp a=(yG p inp a,(0,0)):=by grind [pV,Int.toNat_natCast]
def qC5{a mi:Nat}(hm:nM p.funcs=(mi:Int)){st:Int}(h:Nm (cX p (iS p iV vi) mi [] (qD p inp a))=(m,st,cd))(hr:cX p (iS p iV vi) mi [] (qD p inp a)≠.out):yG p inp a=(m.out,st,cd,a - m.left):=by
 rw [yG,yH,hm,aD];show xZ a (cX p (iS p iV vi) mi [] (qD p inp a))=_;cases hc:cX p (iS p iV vi) mi [] (qD p inp a) with
 | out=>exact absurd hc hr
 | ok v m1=>rw [hc] at h;simp only [Nm,dW] at h;obtain ⟨rfl,rfl,rfl⟩:=h;rfl
 | fin m1 s1 c1=>rw [hc] at h;simp only [Nm,dW] at h;obtain ⟨rfl,rfl,rfl⟩:=h;rfl
def qzV(p:jc)(inp:iH)(a mi:Nat)(ha:a<=50000000):cX p (iS p iV vi) mi [] (qD p inp a)≠.out:=λh=>by
 have:=(KV (p:=p) (OP:=iV) (vi+1)).2.1 mi [] (qD p inp a) (by rw [UW];show 2 * a+1 < _;omega);have e:(iS p iV (vi+1)).c mi [] (qD p inp a)=.out:=h;rw [e] at this;exact this
def qP.pok(h:qP p):ww p:=⟨(An (p:=p) (by rw [h.2.1])).1,λg hg=>by have:=BB (h.1.2.2.1 g hg).1;exact ⟨this.1,this.2.1⟩⟩
def qP.sz(h:qP p):∀ f∈p.funcs,f.params.length+f.locals.length<=100:=λf hf=>by
 have:=h.1.2.2.2.1 f hf;have h1:=this.2.1;have h2:=this.2.2.1;omega
def qP.st(h:qP p){f:iM}(hf:f∈p.funcs):(∀ x∈f.body,oZ p f x)/\ke f.body<=2000:=by
 have hv:=h.1.2.2.2.1 f hf;refine ⟨λx hx=>?_,hv.2.2.2.2.2⟩;obtain ⟨j,hj⟩:=bh hx;exact ⟨⟨1,(DO hv.2.2.2.2.1 hj).1⟩,0,λnd hd=>h.2.2 f hf nd (Fe hx hd)⟩
def JJ{g:jv}(h:qk g=0)(h3:g.kind=3):g.init.length<=g.num.toNat/\g.num.toNat<=40000:=by
 unfold qk at h;split at h
 . cases h
 split at h
 . cases h
 split at h
 . cases h
 split at h
 . cases h
 rename_i h4;split at h
 . cases h
 rename_i h5;omega
def qHe{a:Nat}{c:MC}(h:qP p)(hu:qd p)(hI:lP s Ai ni qi inp)(ha:a<=50000000)(hng:c.ng=p.o.length)(hnf:c.nf=0)(Bi:c.ab.length=c.ng)(qW:∀ (k:Nat) (g:jv),p.o[k]?=some g->g.kind=3->∃ b,c.ab[k]?=some (some b)):MG p c a (qD p inp a) (.slice Ai ni qi) SN (oR c.ab (uG p)) s:=by
  refine ⟨⟨Ai,ni,qi,Z,hI⟩,⟨[],(aE _).symm,.nil⟩,λx hx=>?_,λx hx=>(by cases hx),λl hl x hx=>?_,hng,?_,hnf.symm,Bi,?_,λk g hg h3=>⟨qW k g hg h3,?_⟩,aB _,aB _,ay _,ha⟩
  . rw [show x=0 from (dT.1 hx).2];exact ⟨Θ,Θ⟩
  . obtain ⟨g,hg,rfl⟩:=aW.1 (show l∈uG p from hl)
    split at hx
    . exact YP (hu.1 g hg).2 x hx
    . cases hx
  . rw [hng];exact cR ..
  . rw [hng];exact bB ..
  . have h0:=JJ (h.1.2.2.1 g (ax hg)).1 h3
    show ((uG p).getD k []).length=_;rw [aG,Un hg,dY,au h3,qrz h0.1]
end
def qqg{TT:kD}{fr:Fr}{ops:Array Oper}{g:Option (Nat×Bool)}{jd i t:Nat}{iC:Array Bool}{x:Operand}(hi:ops[i]?=some ⟨some d,.box t x,ty,iL,af,g⟩)(hg:sf ops fr g)(hx:lk fr x=some (.agg zs.toArray))(hd:Nat.blt d n=true)
  (k:∀ β s',Le D s s'->JA P TT D n ops Q K s0 jd (iC.setIfInBounds i true) ((d,iT β)::fr) ((β,cb zs t)::L) s'):JB P TT D n ops Q K s0 jd iC i fr L s:=λhT a hf ho hl hK=>
 Cn hi hg (UL hx (by simp [nN]) ho) (qB ho (cb zs t)).2.2 (λx _ h=>an _ h) hd (k _ _ (qB ho (cb zs t)).2.2) hT a hf ho hl hK
section
attribute [local irreducible] JC JO JA JB ma mO mX AC fill iy QE Ev my
variable{b:Nat×Obj}
def qHU(kO:((jY p).map (·.1)).Nodup){j:Nat}{y x:iM}(hy:p.funcs[j]?=some y)(hx:p.funcs[k]?=some x)(e:y.name=x.name):j=k:=by
 have q1:=AA kO (CU hy);have q2:=AA kO (CU hx);simp only [e] at q1 q2;rw [q1] at q2;simp at q2;omega
def d_(kO:((jY p).map (·.1)).Nodup){x:iM}{mi mj:Int}(hx:p.funcs[k]?=some x)(h:∀ (j:Nat) (y:iM),j < k->p.funcs[j]?=some y->y.name=mu->mi=(j:Int))(h1:x.name=mu->mj=(k:Int))(h2:¬ x.name=mu->mj=mi):∀ (j:Nat) (y:iM),j < k+1->p.funcs[j]?=some y->y.name=mu->mj=(j:Int):=λj y hj hy hn=>by
  by_cases hm:x.name=mu
  . rw [h1 hm,qHU kO hy hx (hn.trans hm.symm)]
  . rcases Nat.lt_or_eq_of_le (Nat.lt_succ_iff.1 hj) with hj|rfl
    . rw [h2 hm];exact h j y hj hy hn
    . rw [hx] at hy;injection hy with hy;subst hy;exact absurd hn hm
theorem qqA{x:jv}(qW:ab.length=k)(hx:p.o[k]?=some x)(h:∀ (j:Nat) (y:jv),j < k->p.o[j]?=some y->y.kind=3->∃ b,ab[j]?=some (some b))(ho:x.kind=3->∃ b,o=some b):∀ (j:Nat) (y:jv),j < k+1->p.o[j]?=some y->y.kind=3->∃ b,(ab++[o])[j]?=some (some b):=by grind
def Rr{Zq9:Hl}{o c d:Nat×Obj}{Mo:Hl}(h:Zq9.Perm (o::(Mo++K))):(Zq9++(a::b::c::d::L)).Perm (o::a::b::c::d::(Mo++(K++L))):=by
 have h1:=aO (Mo++K) [a,b,c,d] L;rw [am Mo K L] at h1;exact (h.append_right _).trans (h1.cons o)
theorem ZI{x:Nat×Obj}{R':Hl}(hx:x∈(a::b::R).take 2):x∈a::b::R':=by grind
def qCA(p:jc)(inp:iH)(a:Nat)(c:MC){iv:Value}:x9 c a 0 (qD p inp a) iv SN 0 0 SN=(c.bm,cb [.slice c.Af c.nF c.cF,.slice (some ⟨c.bg,0,none⟩) c.ng c.ng,.slice (some ⟨c.ba,0,none⟩) c.ng c.ng,SN,iJ 0,iB 0,iv,iB (a:Int),SN,iB 0,iJ 0,iB 0] 82):=by
 rw [x9];show (c.bm,cb [_,_,_,_,_,_,_,_,_,_,_,Value.int .i64 ((a:Int) - (a:Int))] 82)=_;rw [Int.sub_self];rfl
def W_{c i:Int}:jT D 26 [iB c,iB i] L s (.agg #[iB c,iB i]):=by
 refine jn (fn:=f26) jb func26 V Z ntmps26 Z (rs:=[.cell 4 30]) Z [(0,_),(1,_)] Z<|Sr<|jh Z [_,_] Y2 ?_;exact ES
def SJ{p:Prop} (h:p:=by
  first
    | exact ⟨[],rfl,λs2 j5 hp=>⟨.agg #[.slice none 0 0,iB 0,iJ 0,iB 0],by rw [hE];rfl,none,0,0,by rw [hE];rfl,by rw [hE];exact lP.nil _ _ _ O⟩⟩
    | (have hE:pV p inp (a:Int)=((m9.out,st9,cd9,a - m9.left),(0,0)):=by rw [hE0,qC5 ze he9 (qzV p inp a mi0 O)]
       have nJ:(a:Int) - (m9.left:Int)=((a - m9.left:Nat):Int):=by omega
       exact ⟨Mo9++K9,(am ..).symm,λs2 j5 hp=>⟨_,by rw [hE];rfl,Ao,_,co,by rw [hE,nJ],by rw [hE];exact Own.bts hO9 λb zs t hm=>hp b zs t (aI _ hm)⟩⟩)):p:=h
def IL{p:Prop} (h:p:=by
 refine Wt 2 [_,_,_,_] Y9<|Wt 1 [_,_] Y9<|G4 ?_;exact rR [_,_,_,_] _ (.agg (us:=[_,_,_,_]) 2 Z Z Z Z Z (.agg (us:=[_,_]) 1 Z Z Z Z Z (.nil))) Z Lc λ_ iD=>SJ):p:=h
def HI{p:Prop} (h:p:=by
 intro βn s26 h26 p9;refine iF 18 V<|wT Z Tt (sz:=2) [_,_,_,_,_,_,_,_,_] Mf Z Z Z Z Z Z Z hO (Row.of_cells Pz Z Z) ⟨by simp [De];omega,by omega⟩ Z (λ_ x hx _=>ZI hx) ?_;intro vq Mq s27 h27 oq;obtain ⟨Avq,pg,rfl,_,_⟩:=Own.slice oq;simp only [jC,jD];refine H2 ?_;refine iF 21 V<|Wu Z Tt 2 [_,_,_,_,_,_,_,_,_,_,_,_] Y9 (sM (lj (ql)))<|ji V<|Zb<|Zt<|Zr<|kq Y3 (jq O O)<|G2 ?_;refine iU ⟨(k+1,mj,.slice Avq (k+1) pg,Mq),[_,_],kp,Z,⟨Lc,⟨by simp only;omega,⟨css++[[iB ((x.params.length+x.locals.length:Nat):Int),.slice A' n' c']],by simp only [bX,bj,cn,aE];exact oq,by simp only;rw [wQ hx];exact Ke (lR.mono λ_ _ k=>⟨k.1,k.2.le Lc⟩) ⟨Z,d,A',n',c',Z,hV.le Lc⟩⟩,d_ pI hx hmi hmj.1 hmj.2⟩⟩,Oz⟩):p:=h
def qC3(hG:GP s)(jF:ja s Ag ng cg p.o)(jX:jl d s Af nf cf p.funcs)(hI:lP s Ai ni qi inp){ka:Int}:pQ D 8 [.agg #[.slice Ag ng cg,.slice Af nf cf],.slice Ai ni qi,iB ka] L s λv M' s'=>∀ s2,Le D s' s2->mI M' s2->∃ w,v=.tuple #[w,.agg #[iB (pV p inp ka).2.1,iB (pV p inp ka).2.2]]/\Ju s2 (pV p inp ka).1 w:=by
 have l7:=jF.1;have oW:=jX.1;have yp:=hI.1;have hU:qd p:=⟨jF.u,jX.u⟩;refine jn (fn:=f8) jb func8 V Z ntmps8 Z (rs:=[.cell 6 36,.cell 7 30]) Z [(0,_),(1,_),(2,_)] Z<|Sr<|kF Y2 λβ1 s1 h1=>jh Z [_,_,_,_] Y2 λβ2 s2 h2=>jh Z [_,_] Y2 λβ3 s3 h3=>Nt<|Zs<|Sr<|iA (iZ 2 [_,_] Y5) Z<|Je Y3 (FX Pz d p Pz Pz) λs4 h4=>jh Z [_,_] Y2 λt5 s5 h5=>Wt 0 [_,_] Y9<|Nt<|Sr<|iA (iZ 0 [_,_] Y5) Z<|iA (jB [] [_,_] Y3 Z Z Z) Z<|iA (ui Z Z (sp)) Z<|G2 ?_;refine lL Z ?_ ?_<;>intro c6;.have hb0:(kG p).1≠0:=λh=>c6 Q23;have hE:pV p inp ka=_:=qs2 hb0;refine Zs<|pM jt 4 Z [2,1] Q4 λs7 h7=>za 0 Z (jB [] [_,_,_,_] Y3 Z Z Z) Z<|za 1 Z (iZ 0 [_,_] Y5) Z<|iF 2 V<|Wu Z Tt 2 [_,_,_,_] Y9 (sM (nD (lz (nD (jL)))))<|iF 3 V<|Wu Z Tt 1 [_,_] Y9 (sM (nD (lz (nD (jL)))))<|ji V<|G3 ?_;exact rR [_,_,_,_] _ (.agg (us:=[_,_,_,_]) 2 Z Z Z Z Z (.agg (us:=[_,_]) 1 Z Z Z Z Z (.nil))) Z Lc λ_ iD=>SJ
 have g4:=c6;have vK:¬ (kG p).1≠0:=λh=>h g4.1;obtain ⟨p7,zk⟩:=qP.of hU g4.1;have hV:=p7.1;have y8:=hV.1;have A0:=hV.2.1;have sn:=hV.2.2.2.1;have pI:=(An (p:=p) (by rw [p7.2.1])).1;refine tQ ?_ ?_<;>intro c7;.have hE:pV p inp ka=_:=qwm vK O;refine Sr<|iA (jB [] [_,_,_,_] Y3 Z Z Z) Z<|Je Y3 (W_) λs8 h8=>?_;exact IL
 have g25:¬ 400000 < inp.length:=O
 refine G3 ?_;refine rW 33 (ka < 0\/50000000 < ka) ?_ ?_
 .refine G4 ?_;refine ld (t:=30) Z ?_ ?_<;>intro c9;.exact WZ
  refine G6 ?_;refine iU (kB.mk (Lr D) Sb Z (bK.2 O))
 intro s8 h8;refine mG Z ?_ ?_<;>intro mz;.have hE:pV p inp ka=_:=qC7 vK g25 mz;refine Sr<|iA (jB [] [_,_,_,_] Y3 Z Z Z) Z<|Je Y3 (W_) λkz jM=>?_;exact IL
 obtain ⟨a,rfl⟩:=aZ (show 0<=ka by omega);have hE0:=O_ (p:=p) (inp:=inp) (a:=a) vK g25 mz;refine G2 ?_;refine Kv (γ:=Nat×Nat×Nat) (λg=>[(9,.pointer (some ⟨g.1,0,none⟩))]) (λg=>[(g.1,cb [SN,.slice (some ⟨g.2.1,0,none⟩) ng ng,.slice (some ⟨g.2.2,0,none⟩) ng ng,SN,iJ 0,iB 0,.slice Ai ni qi,iB (a:Int),SN,iB 0,iJ 0,iB 0] 82),(g.2.1,cb (wv (List.replicate ng 0)) 34),(g.2.2,cb (List.replicate ng SN) 28)]) (λg tw=>True) (λ_ _ _ h hl=>h) ?_ ?_
 .refine mr jt 13 Z _ (λ_ h=>h) λkh jE=>H3 ?_;refine za 3 Z (Wd 3 Y5) Z<|H2 ?_;refine za 7 Z (Wd 3 Y5) Z<|H1 ?_;refine kA 5 9 V ?_ ?_;.refine mV Z Tt Y5 Q12 O Z ?_;intro βg lq kV;rw [<- qz8];refine iF 9 V<|mV Z Tt Y5 (by simp [FB];omega) O Z λβa lG kI=>za 10 Z (jB [(_,_),(_,_),(_,_),(_,_)] [_,_,_,_,_,_,_,_,_,_,_,_] Y3 Z Z Z) Z<|iF 11 V<|qqg Z Tt Z Z λb15 lW lQ=>H1 ?_;refine ji V ?_;refine iU (jP.mk (b15,βg,βa) [] Lc (.cons Z sk) (List.Perm.trans (jA _ 1) (List.Perm.trans (jA _ 2) (jA _ 2))) Tt)
  refine mV Z Tt Y5 (by simp [FB];omega) O Z λβa lq kV=>iF 5 V<|mV Z Tt Y5 Q12 O Z ?_;intro βg lG kI;rw [<- qz8];refine za 10 Z (jB [(_,_),(_,_),(_,_),(_,_)] [_,_,_,_,_,_,_,_,_,_,_,_] Y3 Z Z Z) Z<|iF 11 V<|qqg Z Tt Z Z λb15 lW lQ=>H1 ?_;refine ji V ?_;refine iU (jP.mk (b15,βg,βa) [] Lc (.cons Z sk) (List.Perm.trans (jA _ 2) (List.Perm.trans (jA _ 2) (jA _ 2))) Tt)
 intro g kz jM I11;simp only [jC,jD];obtain ⟨bm,bg,ba⟩:=g;dsimp only;refine G4 ?_;refine iA (Wd 6 Y5) Z<|G5 ?_;refine lJ (γ:=Nat×List (Option Nat)) (λg=>[(3,_),(6,_),(7,_),(9,_),(49,_),(50,_),(51,iB (g.1:Int))]) (λg=>_::_::(ba,cb (xy p g.2 g.1 ng) 28)::_::_::_::_::(oR g.2 ((uG p).take g.1)++L)) (λg tw=>Le D kz tw/\(g.1<=ng/\g.2.length=g.1/\∀ (j:Nat) (y:jv),j < g.1->p.o[j]?=some y->y.kind=3->∃ b,g.2[j]?=some (some b))) (λg=>ng - g.1) (λ_ _ _ h hl=>⟨h.1.trans hl,h.2⟩) (0,[]) (.c6 Z Z Z Z Z Z (.cons Z (.nil _))) Z ⟨Le.refl _,⟨aB _,Z,λj y hj=>absurd hj (gU _)⟩⟩ ?_;intro g sB I16;obtain ⟨k,ab⟩:=g;obtain ⟨ko,qW,hak⟩:=I16.2;simp only at ko qW hak;dsimp only;refine J6 ?_ ?_<;>intro yY
 .have hk:k < ng:=O
  obtain ⟨b,off,x,Aq,nq,cq,rfl,hx,hcx,hix,oI,kL⟩:=ja.at_ Pz hk;have hn9:=hix.1;subst hn9;refine G7 ?_;refine iA (jK Y6 hk) Z<|iA (ku Y3 Pz Z) Z<|jh Z [_,_,_,_] Y2 λb18 BO h18=>mo Y2<|Wt 0 [_,_,_,_] Y9<|J9 ?_ ?_<;>intro zS;.have g3:x.kind=3:=zS;have g4:=JJ (p7.1.2.2.1 x (ax hx)).1 g3;have g42:=g4.2;refine Zs<|pM jt 10 Z [3] Q4 λyK qT=>H6 ?_;refine za 6 Z (kK (Wd 0 Y5) (bl (Value.int .u32) (Int.toNat_of_nonneg oI.1).symm)) Z<|iF 7 V<|mV Z Tt Y5 Q12 O Z λβx AO uv=>za 8 Z (lK Y6 hk) Z<|iF 9 V<|w8 Z Tt 4 _ Y5 (qBr qW hx hk) Z (qBs qW hx hk) Z (sM (lz (kN (wi (jL)))))<|ji V<|Zt<|pM jt 10 Z [0] Q4 λs23 h23=>H5 ?_;refine za 5 Z (lK Y6 hk) Z<|za 6 Z (rS 3 Y4 (qBt qW hx)) Z<|H2 ?_;refine iF 9 V<|qAC Z Tt 0 (L':=(βx,cb (wv (o7 x.num.toNat x.init)) 34)::_) Z Z Z Z Z Z Z (hix.row.le Lc) g4.1 Ξ (by rw [qzr g4.1];rfl) Z (λx hx _=>an _ hx)<|ji V<|Zb<|Zt<|Fg (pmA [_,_,_,_,_,_,_,_]) ?_;simp only [jC,jD];rw [qBp qW hx g3];refine Zr<|kq Y3 (jq O O)<|G2 ?_;refine iU ⟨(k+1,ab++[some βx]),[_],kp,Z,⟨Lc,⟨Oz,by simp [qW],qqA qW hx hak (λh=>by first|exact ⟨_,Z⟩|exact absurd h g3)⟩⟩,Oz⟩
  have g3:¬ x.kind=3:=zS;refine G3 ?_;rw [quC qW hx hk,quy qW hx];refine Zr<|kq Y3 (jq O O)<|G2 ?_;refine iU ⟨(k+1,ab++[none]),[_],kp,Z,⟨Lc,⟨Oz,by simp [qW],qqA qW hx hak (λh=>by first|exact ⟨_,Z⟩|exact absurd h g3)⟩⟩,Oz⟩
 obtain rfl:ng=k:=O
 rw [show (uG p).take ng=uG p from aK (by rw [uG,bB];omega)];refine rH ?_;refine iA (Wd 6 Y5) Z<|G5 ?_;rw [<- aC (oR ab (uG p)++L)];refine lJ (γ:=Nat×Int×Value×Hl) (λg=>[(3,_),(6,_),(7,_),(9,_),(12,iB g.2.1),(80,_),(81,_),(82,iB (g.1:Int))]) (λg=>(bm,cb [g.2.2.1,.slice (jZ bg) ng ng,.slice (jZ ba) ng ng,SN,iJ 0,iB 0,.slice Ai ni qi,iB (a:Int),SN,iB 0,iJ 0,iB 0] 82)::_::_::_::_::_::_::(g.2.2.2++(oR ab (uG p)++L))) (λg tw=>Le D sB tw/\(g.1<=nf/\(∃ css,Own 90 2 g.2.2.2 g.2.2.1 g.1 (List.flatten css)/\kJ (λf cs=>cs.length=2/\Di p tw f cs) (p.funcs.take g.1) css)/\∀ (j:Nat) (y:iM),j < g.1->p.funcs[j]?=some y->y.name=mu->g.2.1=(j:Int))) (λg=>nf - g.1) (λ_ _ _ h hl=>⟨h.1.trans hl,⟨h.2.1,(by obtain ⟨css,q1,q2⟩:=h.2.2.1;exact ⟨css,q1,q2.mono λ_ _ k=>⟨k.1,k.2.le hl⟩⟩),h.2.2.2⟩⟩) (0,0,SN,[]) (.c6 Z Z Z Z Z Z (.c2 Z Z (.nil _))) Z ⟨Le.refl _,⟨aB _,⟨[],Own.nil,.nil⟩,λj y hj=>absurd hj (gU _)⟩⟩ ?_;intro g BO I18;obtain ⟨k,mi,vf,Mf⟩:=g;obtain ⟨ko,⟨css,hO,lR⟩,hmi⟩:=I18.2;simp only at ko hO lR hmi;dsimp only;obtain ⟨Af2,cf2,rfl,_,_⟩:=Own.slice hO;refine J6 ?_ ?_<;>intro zS
 .have hk:k < nf:=O
  obtain ⟨b,off,x,B1,m1,d1,B2,m2,d2,B3,m3,d3,rfl,hx,hcx,oP,oO,so,kL⟩:=jl.at_ Pz hk;have ym:=sn x (ax hx);have q83:=p7.sz x (ax hx);have qp83:=oP.1;have ql83:=oO.1;refine G7 ?_;refine iA (jK Y6 hk) Z<|iA (ku Y3 Pz Z) Z<|jh Z [_,_,_,_] Y2 λb20 yK qT=>mo Y2<|Wt 0 [_,_,_,_] Y9<|G2 ?_;refine Dw (γ:=Int) (λmj=>[(12,iB mj)]) [_,_,_,_,_,_,_,_] Z (λmj=>Mf++(oR ab (uG p)++L)) (λmj tw=>(x.name=mu->mj=(k:Int))/\(¬ x.name=mu->mj=mi)) (λ_ _ _ h hl=>h) ?_ ?_
  .refine G4 ?_;refine uZ Y3<|J2 ?_ ?_<;>intro c22;.have gmn:x.name=mu:=c22;refine G4 ?_;refine iU (lY.mk (k:Int) [] (Lr D) kp So Pr ⟨λh=>(by first|rfl|exact absurd h gmn),λh=>(by first|rfl|exact absurd gmn h)⟩)
   have gmn:¬ x.name=mu:=c22;refine Zk ?_;refine iU (lY.mk mi [] (Lr D) kp So Pr ⟨λh=>(by first|rfl|exact absurd h gmn),λh=>(by first|rfl|exact absurd gmn h)⟩)
  intro mj AO uv I21;simp only [jC,jD];have hmj:=I21;refine Sr<|iA (iZ 7 [_,_] Y5) Z<|iA (iZ 0 [_,_,_,_] Y5) Z<|iA (jB [(_,_),(_,_)] [_,_,_,_,_,_] Y3 Z Z Z) Z<|jh Z [_,_,_,_,_,_] Y2 λb23 s23 h23=>Wt 0 [_,_,_,_,_,_] Y9<|Nt<|mv jt 22 Z 2 λs24 h24=>Qp ?_;refine za 11 Z (kK (nV Z Z (jq O O)) (bl (Value.int .i64) (show (m1:Int)+(m2:Int)=((x.params.length+x.locals.length:Nat):Int) by have:=oP.1;have:=oO.1;omega))) Z<|za 12 Z (iZ 0 [_,_,_,_,_,_] Y5) Z<|H1 ?_;refine H1 ?_;refine kA 4 15 V ?_ ?_;.refine jW Z Tt (Wd 2 Y5) Z<|iF 15 V<|Jb Z Tt Z Z Z (VP d _ _ d p Ag _ ng cg nf cf Pz Pz x B1 B2 B3 m1 d1 m2 d2 m3 d3 Pz Pz (p7.sz x (ax hx)) p7.pok B3 m3 d3 x.body Pz (p7.st (ax hx)).1 (p7.st (ax hx)).2) ?_;rintro _ _ s25 h25 ⟨rfl,A',n',c',rfl,hV⟩;refine ⟨λ_ _ h=>h,?_⟩;refine za 16 Z (jB [(_,_),(_,_)] [_,_] Y3 Z Z Z) Z<|iF 17 V<|qC Z Tt [(_,_)] [_,_] Y9 ?_;exact HI
  refine Jb Z Tt Z Z Z (VP d _ _ d p Ag _ ng cg nf cf Pz Pz x B1 B2 B3 m1 d1 m2 d2 m3 d3 Pz Pz (p7.sz x (ax hx)) p7.pok B3 m3 d3 x.body Pz (p7.st (ax hx)).1 (p7.st (ax hx)).2) ?_;rintro _ _ s25 h25 ⟨rfl,A',n',c',rfl,hV⟩;refine ⟨λ_ _ h=>h,?_⟩;refine za 16 Z (jB [(_,_),(_,_)] [_,_] Y3 Z Z Z) Z ?_;refine kA 4 17 V ?_ ?_;.refine jW Z Tt (Wd 2 Y5) Z<|iF 17 V<|qC Z Tt [(_,_)] [_,_] Y9 ?_;exact HI
  refine qC Z Tt [(_,_)] [_,_] Y9 λβn s26 h26 p9=>iF 4 V<|jW Z Tt (Wd 2 Y5) Z<|iF 18 V<|wT Z Tt (sz:=2) [_,_,_,_,_,_,_,_,_] Mf Z Z Z Z Z Z Z hO (Row.of_cells Pz Z Z) ⟨by simp [De];omega,O⟩ Z (λ_ x hx _=>ZI hx) ?_;intro vq Mq s27 h27 oq;obtain ⟨Avq,pg,rfl,_,_⟩:=Own.slice oq;simp only [jC,jD];refine H2 ?_;refine iF 21 V<|Wu Z Tt 2 [_,_,_,_,_,_,_,_,_,_,_,_] Y9 (sM (lj (ql)))<|ji V<|Zb<|Zt<|Zr<|kq Y3 (jq O O)<|G2 ?_;refine iU ⟨(k+1,mj,.slice Avq (k+1) pg,Mq),[_,_],kp,Z,⟨Lc,⟨Oz,⟨css++[[iB ((x.params.length+x.locals.length:Nat):Int),.slice A' n' c']],by simp only [bX,bj,cn,aE];exact oq,by simp only;rw [wQ hx];exact Ke (lR.mono λ_ _ k=>⟨k.1,k.2.le Lc⟩) ⟨Z,d,A',n',c',Z,hV.le Lc⟩⟩,d_ pI hx hmi hmj.1 hmj.2⟩⟩,Oz⟩
 obtain rfl:nf=k:=O
 rw [aK O] at lR;obtain ⟨mi0,xm,ze,hxm,uR,hpm⟩:=NL p7.2.1;obtain rfl:=hmi mi0 xm (by rw [oW];exact (al.1 hxm).1) hxm uR;refine G6 ?_;refine uz [_,_,_,_,_,_,_] Mf ?_;intro yK qT hpub20;simp only [jC,jD];have hFV:Sl 2 (Di p) yK Af2 nf cf2 p.funcs:=Own.rows hO hpub20 (lR.mono λ_ _ k=>⟨k.1,k.2.le qT⟩) oW;refine uz [_,_] [_] ?_;intro AO uv hpub21;simp only [jC,jD];have hca0:=hpub21 _ _ _ (aU.2 rfl);rw [xy,il,List.replicate_zero,aE,aK O] at hca0;have vO:iy AO ba 0 (wk ab p.o):=hca0;have hFV:=Sl.le (λ_ _ h=>Di.le uv h) hFV uv;refine Fg (.cons _ (.cons _ (aO [_,_,_,_] (oR ab (uG p)) L))) ?_;simp only [jC,jD];rw [<- qCA p inp a ⟨bm,bg,0,ba,Af2,nf,cf2,ng,0,ab⟩,show List.replicate ng (0:Int)=(qD p inp a).glo from by rw [l7];rfl];have hCT:CT p (⟨bm,bg,0,ba,Af2,nf,cf2,ng,0,ab⟩:MC) AO:=⟨hFV,vO,p7.sz,λg hg=>(hU.1 g hg).1⟩;have hMG:MG p (⟨bm,bg,0,ba,Af2,nf,cf2,ng,0,ab⟩:MC) a (qD p inp a) (.slice Ai ni qi) SN (oR ab (uG p)) AO:=qHe p7 hU Pz O l7 rfl qW (λj y hy h3=>hak j y (by rw [l7];exact (al.1 hy).1) hy h3);refine G3 ?_;refine Jc Y3 (qr0 (qy6 p vi).2.2 xm hCT hxm hpm hMG (qzV p inp a mi0 O)) ?_;rintro _ _ s22 h22 ⟨rfl,m9,st9,cd9,Z9,rfl,hF9,he9⟩;refine G3 ?_;obtain ⟨u0,u1,u2,u3,u4,u5,u6,u7,ov9,Mo9,K9,hp9,hO9,hlo9,hll9⟩:=hF9;obtain ⟨Ao,co,rfl,_,_⟩:=Own.slice hO9;refine Fg (Rr hp9)<|G4 ?_;refine iA (iZ 0 [_,_,_,_] Y5) Z<|iA (jB [] [_,_] Y3 Z Z Z) Z<|Wt 3 [_,_,_,_] Y9<|Wt 2 [_,_] Y9<|G3 ?_;exact rR [_,_,_,_,_] _ (.agg (us:=[_,_,_,_]) 3 Z Z Z Z Z (.agg (us:=[_,_]) 2 Z Z Z Z Z (.nil))) Z Lc λ_ iD=>SJ
def qCn(hG:GP s)(d:Nat)(p:jc)(jF:ja s Ag ng cg p.o)(jX:jl d s Af nf cf p.funcs)(inp:iH)(hI:lP s Ai ni qi inp){ka:Int}:jU D 8 [.agg #[.slice Ag ng cg,.slice Af nf cf],.slice Ai ni qi,iB ka] L s λv L' s'=>L=L'/\∃ w,v=.tuple #[w,.agg #[iB (pV p inp ka).2.1,iB (pV p inp ka).2.2]]/\Ju s' (pV p inp ka).1 w:=AC.pubW (qC3 hG jF jX hI)
end
section
variable{a b:lH}{k v:Int}{w:iG}{x:Ins}
inductive ml:lH->Nat->lH->Prop
 | nil (s:lH):ml s 0 s
 | cons {s s':lH} {k:Nat} (h:s.stop=0) (r:ml (l9 iW s) k s'):ml s (k+1) s'
def ml.trans{c:lH}{j k:Nat}(h:ml a j b)(r:ml b k c):ml a (j+k) c:=by
 induction h with
 | nil s=>rw [aX];exact r
 | cons h0 _ ih=>rw [eV];exact .cons h0 (ih r)
def ml.run{k:Nat}(h:ml a k b)(n:Nat):pd iW a (k+n)=((pd iW b n).1,(pd iW b n).2+k):=by
 induction h with
 | nil s=>rw [aX];rfl
 | cons h0 _ ih=>rw [eV,pd,au h0,ih];rfl
def ml.one(h:a.stop=0)(e:l9 iW a=b):ml a 1 b:=.cons h (e▸.nil _)
abbrev ms(c:iG)(a b C d p:Int)(i o:iH):lH:=⟨c,a,b,C,d,p,i,o,0,0⟩
theorem CP{k:Nat}(h:c[k]?=some v):k < c.length/\c.getD k 0=v:=by grind
def E1{a b d:Int}{o:iH}{p:Nat}(hk:c[p]?=some k)(hx:xa iW.U k=some x)(ho:x.I=false):l9 iW (ms c a b C d p i o)=mW (ms c a b C d ((p+1:Nat):Int) i o) 0 x.ad:=by
 obtain ⟨h1,h2⟩:=CP hk;have h3:¬ (c.length:Int)<=(p:Int):=O
 simp only [l9,h3,bY,aD,h2,hx,ho,dq];rfl
def BN{a b d:Int}{o:iH}{p:Nat}{n:Int}(hk:c[p]?=some k)(hn:c[p+1]?=some n)(hx:xa iW.U k=some x)(ho:x.I=true):l9 iW (ms c a b C d p i o)=mW (ms c a b C d ((p+2:Nat):Int) i o) n x.ad:=by
 obtain ⟨h1,h2⟩:=CP hk;obtain ⟨h4,h5⟩:=CP hn;have h3:¬ (c.length:Int)<=(p:Int):=O
 have h6:¬ (p:Int)+1=(c.length:Int):=O
 have h7:((p:Int)+1).toNat=p+1:=O
 simp only [l9,h3,bY,aD,h2,hx,ho,bV,h6,h7,h5];rfl
section
variable{a b d n:Int}{o:iH}{p:Nat}
def qzD(h:c[p]?=some 1):l9 iW (ms c a b C d p i o)=⟨c,a,b,C,d,((p+1:Nat):Int),i,o,1,a⟩:=by
 rw [E1 (x:=_) h rfl rfl];simp [mW,kn,lu,td]
def RQ{p:Prop} (h:p:=by
 rw [BN (x:=_) h h1 rfl rfl];simp [mW,kn,lu,nC,jR]):p:=h
def Lf(h:c[p]?=some 2)(h1:c[p+1]?=some n):l9 iW (ms c a b C d p i o)=ms c n b C d ((p+2:Nat):Int) i o:=by
 exact RQ
def qH8(h:c[p]?=some 3)(h1:c[p+1]?=some (q:Int))(hv:c[q]?=some v):l9 iW (ms c a b C d p i o)=ms c v b C d ((p+2:Nat):Int) i o:=by
 obtain ⟨h3,h4⟩:=CP hv;have h5:¬ (c.length:Int)<=(q:Int):=O
 rw [BN (x:=_) h h1 rfl rfl];simp [mW,kn,lu,nC,h5,<- h4]
def qCl(h:c[p]?=some 4)(h1:c[p+1]?=some (q:Int))(hq:q < c.length):l9 iW (ms c a b C d p i o)=ms (c.set q a) a b C d ((p+2:Nat):Int) i o:=by
 have h5:¬ (c.length:Int)<=(q:Int):=O
 rw [BN (x:=_) h h1 rfl rfl];simp [mW,kn,lu,td,h5]
def KU(h:c[p]?=some 9)(hq:q < c.length)(hl:c.length=65536):l9 iW (ms c a b (q:Int) d p i o)=ms (c.set q a) a b ((q+1:Nat):Int) d ((p+1:Nat):Int) i o:=by
 have h5:¬ (c.length:Int)<=(q:Int):=O
 have h6:mc ((q:Int)+1)=((q+1:Nat):Int):=by unfold mc;omega
 rw [E1 (x:=_) h rfl rfl];simp [mW,kn,lu,td,nC,jR,h5,h6]
def UZ(h:c[p]?=some 26)(h1:c[p+1]?=some n):l9 iW (ms c a b C d p i o)=ms c a b C d n i o:=by
 exact RQ
def Jl{p:Prop} (h:p:=by
 obtain ⟨h3,h4⟩:=CP hv;have h5:¬ (c.length:Int)<=(q:Int):=by omega
 rw [BN (x:=_) h h1 rfl rfl];simp [mW,kn,lu,td,nC,jR,hw,h5,<- h4]):p:=h
def qCi(h:c[p]?=some 5)(h1:c[p+1]?=some n)(hw:mc (C - n)=(q:Int))(hv:c[q]?=some v):l9 iW (ms c a b C d p i o)=ms c v q C d ((p+2:Nat):Int) i o:=by
 exact Jl
def qvy(h:c[p]?=some 6)(h1:c[p+1]?=some n)(hw:mc (C - n)=(q:Int))(hq:q < c.length):l9 iW (ms c a b C d p i o)=ms (c.set q a) a q C d ((p+2:Nat):Int) i o:=by
 have h5:¬ (c.length:Int)<=(q:Int):=O
 rw [BN (x:=_) h h1 rfl rfl];simp [mW,kn,lu,td,nC,jR,hw,h5]
def qCh(h:c[p]?=some 7)(h1:c[p+1]?=some n)(hw:mc (a+n)=(q:Int))(hv:c[q]?=some v):l9 iW (ms c a b C d p i o)=ms c v q C d ((p+2:Nat):Int) i o:=by
 exact Jl
def qH7(h:c[p]?=some 10)(h1:c[p+1]?=some n):l9 iW (ms c a b C d p i o)=ms c a b (mc (C - n)) d ((p+2:Nat):Int) i o:=by
 rw [BN (x:=_) h h1 rfl rfl];simp [mW,kn,lu,td,nC,jR]
def qCj(h:c[p]?=some 8)(h1:c[p+1]?=some n){r:Nat}(hv:c[r]?=some v)(hr:r < 65536)(hw:mc (v+n)=(q:Int))(hq:q < c.length):l9 iW (ms c a b ((r+1:Nat):Int) d p i o)=ms (c.set q a) a q r d ((p+2:Nat):Int) i o:=by
 obtain ⟨h3,h4⟩:=CP hv;have h5:¬ (c.length:Int)<=(q:Int):=O
 have h6:¬ (c.length:Int)<=(r:Int):=O
 have h7:mc (r:Int)=(r:Int):=by unfold mc;omega
 rw [BN (x:=_) h h1 rfl rfl];simp [mW,kn,lu,td,nC,jR,h6,h7,hv,hw,h5]
def YL(h:c[p]?=some k)(hx:xa iW.U k=some x)(ho:x.I=false){u w:Tm}(ha:x.ad=[⟨2,2,⟨1,2⟩,⟨0,1⟩⟩,⟨13,1,⟨1,2⟩,⟨0,0⟩⟩,⟨j,0,u,w⟩])(hj:(j<=3\/6<=j)/\j<=12){r:Nat}(hv:c[r]?=some v)(hr:r < 65536){A:Int}(hA:jR j (lu (ms c a v r d ((p+1:Nat):Int) i o) 0 u) (lu (ms c a v r d ((p+1:Nat):Int) i o) 0 w)=A):l9 iW (ms c a b ((r+1:Nat):Int) d p i o)=ms c A v r d ((p+1:Nat):Int) i o:=by
 obtain ⟨h3,h4⟩:=CP hv;have h6:¬ (c.length:Int)<=(r:Int):=O
 have h7:mc (r:Int)=(r:Int):=by unfold mc;omega
 have e1:¬ (j=4\/j=5):=O
 have e2:¬ (j=13\/j=14):=O
 have e3:j≠16:=O
 have e4:j≠13:=O
 have e5:j≠14:=O
 have e6:j≠15:=O
 have e7:¬ (j=17\/j=18/\lu (ms c a v r d ((p+1:Nat):Int) i o) 0 w=0):=O
 have e8:j<=12:=hj.2;rw [E1 (x:=_) h hx ho,ha];have f1:kn (ms c a b ((r+1:Nat):Int) d ((p+1:Nat):Int) i o) ⟨2,2,⟨1,2⟩,⟨0,1⟩⟩ 0=ms c a b r d ((p+1:Nat):Int) i o:=by simp [kn,lu,td,nC,jR,h7]
 have f2:kn (ms c a b r d ((p+1:Nat):Int) i o) ⟨13,1,⟨1,2⟩,⟨0,0⟩⟩ 0=ms c a v r d ((p+1:Nat):Int) i o:=by simp [kn,lu,td,nC,h6,<- h4]
 have f3:kn (ms c a v r d ((p+1:Nat):Int) i o) ⟨j,0,u,w⟩ 0=ms c A v r d ((p+1:Nat):Int) i o:=by
  simp only [kn,e1,e2,e3,e4,e5,e6,e7,e8,hA,false_and,bY,ir,bV];rfl
 simp only [mW,f1,f2,f3];rfl
def qK6(h:c[p]?=some k)(hx:xa iW.U k=some x)(ho:x.I=false)(ha:x.ad=[⟨2,2,⟨1,2⟩,⟨0,1⟩⟩,⟨13,1,⟨1,2⟩,⟨0,0⟩⟩,⟨18,0,⟨0,2⟩,⟨1,0⟩⟩,⟨j,0,⟨1,1⟩,⟨1,0⟩⟩])(hj:j=4\/j=5){r:Nat}(hv:c[r]?=some v)(hr:r < 65536):l9 iW (ms c a b ((r+1:Nat):Int) d p i o)=if a=0 then ⟨c,a,v,r,d,((p+1:Nat):Int),i,o,1,2⟩ else ms c (jR j v a) v r d ((p+1:Nat):Int) i o:=by
 obtain ⟨h3,h4⟩:=CP hv;have h6:¬ (c.length:Int)<=(r:Int):=O
 have h7:mc (r:Int)=(r:Int):=by unfold mc;omega
 rw [E1 (x:=_) h hx ho,ha];have f1:kn (ms c a b ((r+1:Nat):Int) d ((p+1:Nat):Int) i o) ⟨2,2,⟨1,2⟩,⟨0,1⟩⟩ 0=ms c a b r d ((p+1:Nat):Int) i o:=by simp [kn,lu,td,nC,jR,h7]
 have f2:kn (ms c a b r d ((p+1:Nat):Int) i o) ⟨13,1,⟨1,2⟩,⟨0,0⟩⟩ 0=ms c a v r d ((p+1:Nat):Int) i o:=by simp [kn,lu,td,nC,h6,<- h4]
 have f3:kn (ms c a v r d ((p+1:Nat):Int) i o) ⟨18,0,⟨0,2⟩,⟨1,0⟩⟩ 0=if a=0 then ⟨c,a,v,r,d,((p+1:Nat):Int),i,o,1,2⟩ else ms c a v r d ((p+1:Nat):Int) i o:=by
  by_cases h0:a=0<;>simp [kn,lu,td,h0]
 simp only [mW,f1,f2,f3];by_cases h0:a=0
 . simp [h0]
 . rcases hj with rfl|rfl<;>simp [h0,kn,lu,td,nC]
def DG(h:c[p]?=some 24):l9 iW (ms c a b C d p i o)=ms c (if a=0 then 1 else 0) b C d ((p+1:Nat):Int) i o:=by
 rw [E1 (x:=_) h rfl rfl];simp [mW,kn,lu,td,nC,jR]
def qrU(h:c[p]?=some 25)(h1:c[p+1]?=some n):l9 iW (ms c a b C d p i o)=if a < n then ms c a 1 C d ((p+2:Nat):Int) i o else ⟨c,a,0,C,d,((p+2:Nat):Int),i,o,1,1⟩:=by
 rw [BN (x:=_) h h1 rfl rfl];by_cases h2:a < n<;>simp [mW,kn,lu,td,nC,jR,h2]
def KL(h:c[p]?=some 27)(h1:c[p+1]?=some n):l9 iW (ms c a b C d p i o)=ms c a b C d (if a=0 then n else ((p+2:Nat):Int)) i o:=by
 rw [BN (x:=_) h h1 rfl rfl];by_cases h2:a=0<;>simp [mW,kn,lu,td,nC,jR,h2]
def qH6(h:c[p]?=some 28)(h1:c[p+1]?=some n)(hq:q < c.length)(hl:c.length=65536)(he:e<=100):l9 iW (ms c a b (q:Int) (e:Int) p i o)=if e < 100 then ms (c.set q ((p+2:Nat):Int)) a 1 ((q+1:Nat):Int) ((e+1:Nat):Int) n i o else ⟨c,a,0,q,((e+1:Nat):Int),((p+2:Nat):Int),i,o,1,3⟩:=by
  have h5:¬ (c.length:Int)<=(q:Int):=O
  have h6:mc ((q:Int)+1)=(q:Int)+1:=by unfold mc;omega
  have h7:mc ((e:Int)+1)=(e:Int)+1:=by unfold mc;omega
  rw [BN (x:=_) h h1 rfl rfl];by_cases h2:e < 100
  . have h8:(e:Int)+1 < 101:=O
    rw [au h2];simp [mW,kn,lu,td,nC,jR,h5,h6,h7,h8]
  . have h8:¬ (e:Int)+1 < 101:=O
    rw [ak h2];simp [mW,kn,lu,td,nC,jR,h5,h6,h7,h8]
def YM(h:c[p]?=some 29)(h1:c[p+1]?=some n)(hw:mc (C - n)=(q:Int))(hv:c[q]?=some v)(he:e<=100):l9 iW (ms c a b C ((e+1:Nat):Int) p i o)=ms c a b q (e:Int) v i o:=by
 obtain ⟨h3,h4⟩:=CP hv;have h5:¬ (c.length:Int)<=(q:Int):=O
 have h7:mc (e:Int)=(e:Int):=by unfold mc;omega
 rw [BN (x:=_) h h1 rfl rfl];simp [mW,kn,lu,td,nC,jR,hw,h5,h7,<- h4]
def qK4(h:c[p]?=some 30):l9 iW (ms c a b C d p i o)=ms c (match i with|[]=>4294967295|x::_=>(x.toNat:Int)) b C d ((p+1:Nat):Int) (match i with|[]=>[]|_::r=>r) o:=by
 rw [E1 (x:=_) h rfl rfl];cases i<;>simp [mW,kn,nC]
def qK5(h:c[p]?=some 31):l9 iW (ms c a b C d p i o)=if o.length=20000 then ⟨c,a,b,C,d,((p+1:Nat):Int),i,o,5,0⟩ else ms c a b C d ((p+1:Nat):Int) i (o++[UInt8.ofNat (a.toNat % 256)]):=by
 rw [E1 (x:=_) h rfl rfl];by_cases h2:o.length=20000<;>simp [mW,kn,lu,td,h2]
def qCk(h:c[p]?=some 32)(h1:c[p+1]?=some n):l9 iW (ms c a b C d p i o)=ms c a b n d ((p+2:Nat):Int) i o:=by
 exact RQ
end
def pL(lab:iH->Int):Li->iG
 | .op n=>[wU iW n]
 | .ref n a=>[wU iW n,lab a]
 | .num n v=>if n=qg then [v] else if n=sY then List.replicate v.toNat 0 else [wU iW n,v]
 | .lab _=>[]
def Fi(lab:iH->Int)(y:Li):(pL lab y).length=rk y:=by
 cases y with
 | num n v=>simp only [pL,rk];split<;>(try split)<;>simp
 | _=>rfl
def Cd(c:iG)(lab:iH->Int):Nat->List Li->Nat->Prop
 | p,[],q=>p=q
 | p,y::r,q=>(∀ k v,(pL lab y)[k]?=some v->c[p+k]?=some v)/\(∀ a,y=.lab a->lab a=(p:Int))/\Cd c lab (p+rk y) r q
section
variable{c':iG}{lab:iH->Int}{p:Nat}{L:List Li}{n a:iH}{v:Int}
def UH:∀ (L M:List Li) (p q:Nat),Cd c lab p (L++M) q↔∃ m,Cd c lab p L m/\Cd c lab m M q
  | [],M,p,q=>⟨λh=>⟨p,rfl,h⟩,λ⟨m,h,k⟩=>by cases h;exact k⟩
  | y::L,M,p,q=>by
    rw [ao];constructor
    . rintro ⟨h1,h2,h3⟩
      obtain ⟨m,h4,h5⟩:=(UH L M _ q).1 h3;exact ⟨m,⟨h1,h2,h4⟩,h5⟩
    . rintro ⟨m,⟨h1,h2,h4⟩,h5⟩
      exact ⟨h1,h2,(UH L M _ q).2 ⟨m,h4,h5⟩⟩
def Cd.app(h:Cd c lab p (L++M) q):∃ m,Cd c lab p L m/\Cd c lab m M q:=(UH L M p q).1 h
def Cd.end_:∀ {L:List Li} {p q:Nat},Cd c lab p L q->q=p+cW L
 | [],p,q,h=>by cases h;rfl
 | y::r,p,q,h=>by rw [h.2.2.end_];simp only [cW,aN,dD];omega
def Cd.le(h:Cd c lab p L q):p<=q:=by rw [h.end_];omega
def Cd.op(h:Cd c lab p (.op n::L) q):c[p]?=some (wU iW n)/\Cd c lab (p+1) L q/\p+1<=q:=⟨h.1 0 _ rfl,h.2.2,h.2.2.le⟩
def Cd.ref(h:Cd c lab p (.ref n a::L) q):c[p]?=some (wU iW n)/\c[p+1]?=some (lab a)/\Cd c lab (p+2) L q/\p+2<=q:=⟨h.1 0 _ rfl,h.1 1 _ rfl,h.2.2,h.2.2.le⟩
def Cd.num(h:Cd c lab p (.num n v::L) q)(h1:n≠qg)(h2:n≠sY):c[p]?=some (wU iW n)/\c[p+1]?=some v/\Cd c lab (p+2) L q/\p+2<=q:=by
 have e:pL lab (.num n v)=[wU iW n,v]:=by rw [pL,ak h1,ak h2]
 have e2:rk (.num n v)=2:=by rw [rk,ak h1,ak h2]
 have h4:Cd c lab (p+2) L q:=e2▸h.2.2;exact ⟨h.1 0 _ (by rw [e];rfl),h.1 1 _ (by rw [e];rfl),h4,h4.le⟩
def Cd.lbl(h:Cd c lab p (.lab a::L) q):lab a=(p:Int)/\Cd c lab p L q:=⟨h.2.1 _ rfl,h.2.2⟩
def Cd.mono:∀ {L:List Li} {p q:Nat},Cd c lab p L q->(∀ k,p<=k->k < q->∀ v,c[k]?=some v->c'[k]?=some v)->Cd c' lab p L q
 | [],p,q,h,_=>h
 | y::r,p,q,h,k=>by
  have h3:=h.2.2.le;refine ⟨λj v hj=>k _ O ?_ _ (h.1 j v hj),h.2.1,h.2.2.mono λj h4 h5=>k j O h5⟩;have h6:=(al.1 hj).1;rw [Fi] at h6;omega
end
def Uz{n:iH}(h:Bt n=true):n≠[]/\n≠qg/\n≠sY/\yD n=false:=by
 exact IZ
def qsA{n:iH}(h:z8 n=true):n≠[]/\n≠ss/\yD n=false:=by
 simp only [z8,aA,dF] at h;exact ⟨(yz h.1.1.1).1,λe=>by rw [e] at h;exact absurd h.2 Dc,h.2⟩
def qBk(h:uE y):qh iW w (o9 y)=w++pL (λ_=>0) y:=by
  cases y with
  | op n=>
    obtain ⟨h1,h2,h3⟩:=qsA h;simp [qh,o9,qf,h1,h2,h3,pL]
  | ref n a=>
    obtain ⟨h1,h2,h3,h4⟩:=Uz h.1;simp [qh,o9,qf,h1,show n≠ss from h3,h4,pL]
  | num n v=>
    obtain ⟨h0|rfl|rfl,hv⟩:=h
    . obtain ⟨h1,h2,h3,h4⟩:=Uz h0
      simp [qh,o9,qf,h1,show n≠ss from h3,h4,pL,h2,h3]
    . simp [qh,o9,qf,pL,show ¬ qg=ss by decide,show yD qg=true by decide]
    . simp [qh,o9,qf,pL,show sY=ss from rfl,show ¬ ss=qg by decide,show ¬ ss=[] by decide]
  | lab a=>simp [qh,o9,pL]
def Fy(i:Int)(p:Nat):Li->List (Int×Nat×iH×Int)
 | .ref _ a=>[(i,p+1,a,0)]
 | _=>[]
def qBi{i:Int}(h:uE y):uF iW w r i (o9 y)=r++Fy i w.length y:=by
 cases y with
 | op n=>
  obtain ⟨h1,h2,h3⟩:=qsA h;simp [uF,o9,sZ,h1,h2,Fy]
 | ref n a=>
  obtain ⟨h1,h2,h3,h4⟩:=Uz h.1;simp [uF,o9,sZ,h1,show n≠ss from h3,h4,Fy,(yz h.2).1]
 | num n v=>simp [uF,o9,sZ,Fy]
 | lab a=>simp [uF,o9,Fy]
def D6:Nat->Nat->List Li->List (Int×Nat×iH×Int)
 | _,_,[]=>[]
 | i,p,y::L=>Fy (i:Int) p y++D6 (i+1) (p+rk y) L
def LB(l:List (iH×Int)):Nat->List Li->Prop
 | _,[]=>True
 | p,y::L=>(∀ a,y=.lab a->mw l a=some (p:Int))/\LB l (p+rk y) L
def qr2{x:iH×Int}{a:iH}(h:mw l a=some v):mw (l++[x]) a=some v:=by
 induction l with
 | nil=>cases h
 | cons y l ih=>
  simp only [ao,mw] at h ⊢;split
  . rename_i e;rw [au e] at h;exact h
  . rename_i e;rw [ak e] at h;exact ih h
def qr3{a:iH}(h:mw l a=none):mw (l++[(a,v)]) a=some v:=by
 induction l with
 | nil=>simp [mw]
 | cons y l ih=>
  simp only [ao,mw] at h ⊢;split
  . rename_i e;rw [au e] at h;cases h
  . rename_i e;rw [ak e] at h;exact ih h
def E_:∀ (L:List Li) (i:Nat) (w:iG) (l:List (iH×Int)) (r:List (Int×Nat×iH×Int)),(∀ y∈L,uE y)->(mU L).Nodup->(∀ a∈mU L,mw l a=none)->w.length+cW L<=65536 ->
    ∃ l',vz iW i w l r (splitB 10 (cT L))=.inr (w++L.flatMap (pL λ_=>0),l',r++D6 i w.length L)/\(∀ a v,mw l a=some v->mw l' a=some v)/\LB l' w.length L
  | [],i,w,l,r,_,_,_,_=>⟨l,by rw [lD,qqM];simp [D6],λ_ _ h=>h,trivial⟩
  | y::L,i,w,l,r,hk,hn,hf,hw=>by
    have hy:=hk y Mc;obtain ⟨h1,h2⟩:=qr6 hy;have e1:mU (y::L)=mU [y]++mU L:=by rw [mU,mU,mU,<- dv];rfl
    rw [e1] at hn hf;rw [cW,aN,dD] at hw;rw [bI] at hn;have hf1:∀ a,y=.lab a->mw l a=none:=λa e=>hf a (by subst e;simp [mU]);have hs:splitB 10 (cT (y::L))=wO y::splitB 10 (cT L):=by
      have:=I' (c:=10) h2 [] (cT L);rw [ln,zm,am];exact this
    have hg:=Z' (w:=w) hy hf1;have hl:=TP (w:=w) hy;obtain ⟨l',h3,h4,h5⟩:=E_ L (i+1) (qh iW w (o9 y)) (xU w l (o9 y)) (uF iW w r i (o9 y)) (λz hz=>hk z (an _ hz)) hn.2.1 (λa ha=>by
      have:=hg a;rw [hf a (aF _ ha),show (mU [y]).contains a=false by rw [<- Bool.not_eq_true,fh];exact λh=>hn.2.2 a h a ha rfl] at this;simpa using this) (by rw [hl,cW];omega)
    refine ⟨l',?_,λa v ha=>h4 a v ?_,λa e=>h4 a _ ?_,by rw [hl] at h5;exact h5⟩
    . rw [hs,NU h1 (J_ hy hf1 O),h3,hl,qBk hy,qBi hy]
      simp [D6,am]
    . unfold xU;split
      . exact ha
      . exact qr2 ha
    . subst e
      have h6:=(yz (show od a=true from hy)).1;simp only [xU,o9,h6,bY];exact qr3 (hf1 a rfl)
def LB.some{l:List (iH×Int)}:∀ {L:List Li} {p:Nat},LB l p L->∀ a∈mU L,∃ v:Nat,mw l a=some (v:Int)/\v<=p+cW L
  | [],_,_,a,h=>by cases h
  | y::L,p,h,a,ha=>by
    have e1:mU (y::L)=mU [y]++mU L:=by rw [mU,mU,mU,<- dv];rfl
    rw [e1,aS] at ha;rw [cW,aN,dD];rcases ha with ha|ha
    . cases y with
      | lab b=>rw [show mU [Li.lab b]=[b] from rfl,aU] at ha;subst ha;exact ⟨p,h.1 _ rfl,O⟩
      | _=>cases ha
    . obtain ⟨v,h1,h2⟩:=h.2.some a ha
      exact ⟨v,h1,by rw [cW] at h2;omega⟩
def L_{l:List (iH×Int)}:∀ (L:List Li) (i:Nat) (A:iG),(∀ a∈rV L,∃ v:Nat,mw l a=some (v:Int)/\v<=65536)->wm l (D6 i A.length L) (A++L.flatMap (pL λ_=>0))=.inr (A++L.flatMap (pL λa=>(mw l a).getD 0))
 | [],_,A,_=>rfl
 | y::L,i,A,h=>by
  have e2:rV (y::L)=rV [y]++rV L:=by rw [rV,rV,rV,<- dv];rfl
  have ih:=λA=>L_ L (i+1) A λa ha=>h a (by rw [e2];exact aF _ ha);have hsame:Fy (i:Int) A.length y=[]->pL (λ_=>0) y=pL (λa=>(mw l a).getD 0) y->wm l (D6 i A.length (y::L)) (A++(y::L).flatMap (pL λ_=>0))=.inr (A++(y::L).flatMap (pL λa=>(mw l a).getD 0)):=λe3 e4=>by
   have:=ih (A++pL (λ_=>0) y);rw [ac,Fi,am,am] at this;rw [D6,e3,aC,di,di,this,e4]
  cases y with
  | ref n a=>
   obtain ⟨v,h1,h2⟩:=h a (by rw [e2];exact aI _ (by simp [rV]));have e5:(A++(Li.ref n a::L).flatMap (pL λ_=>0)).getD (A.length+1) 0=0:=by
    simp [di,pL,aY]
   have e6:(A++(Li.ref n a::L).flatMap (pL λ_=>0)).set (A.length+1) (v:Int)=(A++[wU iW n,(v:Int)])++L.flatMap (pL λ_=>0):=by
    simp [di,pL,List.set_append_right]
   have e7:mc (0+(v:Int))=v:=by unfold mc;omega
   have:=ih (A++[wU iW n,(v:Int)]);rw [ac,am,am] at this;show wm l ((((i:Nat):Int),A.length+1,a,0)::D6 (i+1) (A.length+2) L) _=_;rw [wm];simp only [h1,e5,e7,e6];rw [am];refine this.trans ?_;simp [di,pL,h1]
  | op n=>exact hsame rfl rfl
  | num n v=>exact hsame rfl rfl
  | lab b=>exact hsame rfl rfl
def qq7{l:List (iH×Int)}{T:iG}:∀ (L:List Li) (A:iG),LB l A.length L->Cd (A++L.flatMap (pL λa=>(mw l a).getD 0)++T) (λa=>(mw l a).getD 0) A.length L (A.length+cW L)
  | [],A,_=>by simp [Cd,cW]
  | y::L,A,h=>by
    have ih:=qq7 (l:=l) (T:=T) L (A++pL (λa=>(mw l a).getD 0) y);rw [ac,Fi] at ih;refine ⟨λk v hk=>?_,λa e=>by show (mw l a).getD 0=_;rw [h.1 a e];rfl,?_⟩
    . have hl:=(al.1 hk).1
      rw [di,am,aY O,Nat.add_sub_cancel_left,am,aV hl];exact hk
    . have:=ih h.2
      rw [di,cW,aN,dD,<- dA,<- am];exact this
def qHa{L:List Li}(hk:∀ y∈L,uE y)(hn:(mU L).Nodup)(hr:∀ a∈rV L,a∈mU L)(hw:cW L<=65536)(hl:(cT L).length<=400000):∃ w l lab,ta iW (cT L)=.inr (w,l)/\w.length=cW L/\(∀ T,Cd (w++T) lab 0 L (cW L)):=by
 obtain ⟨l,h1,_,h3⟩:=E_ L 0 [] [] [] hk hn (λ_ _=>rfl) (by simpa using hw);have h4:=L_ (l:=l) L 0 [] λa ha=>by
  obtain ⟨v,h5,h6⟩:=h3.some a (hr a ha);exact ⟨v,h5,by simp only [aq] at h6;omega⟩
 refine ⟨_,l,λa=>(mw l a).getD 0,by rw [ta,ak (by simpa using U4),ak O,h1];simp only [aC] at h4 ⊢;simp only [h4];rfl,?_,λT=>by simpa using qq7 (T:=T) L [] h3⟩;rw [List.length_flatMap,cW];exact bl List.sum (List.map_congr_left λy _=>Fi _ y)
def qzo{α:Type}{nm:iH}(nf:α->iH)(c:Int)(f:Nat->Int):∀ (l:List α) (k:Nat),mA (l.mapIdx λi y=>(nf y,(c,f (k+i)))) nm=if 0<=j6 (λy=>decide (nf y=nm)) l k then some (f (j6 (λy=>decide (nf y=nm)) l k).toNat) else none
  | [],k=>by simp [mA,j6]
  | y::l,k=>by
    rw [List.mapIdx_cons,mA,List.find?_cons];by_cases h:nf y=nm
    . simp [h,j6]
    . have ih:=qzo (nm:=nm) nf c f l (k+1)
      simp only [eV k 1] at ih;simp only [h,ig,j6,dq,bY];rw [<- ih,mA];simp only [dA,fe 1]
def KJ{α:Type}(nf:α->iH)(c:Int)(f:Nat->Int)(l:List α):mA (l.mapIdx λi y=>(nf y,(c,f i))) nm=if 0<=j6 (λy=>decide (nf y=nm)) l 0 then some (f (j6 (λy=>decide (nf y=nm)) l 0).toNat) else none:=by
 simpa using qzo (nm:=nm) nf c f l 0
theorem qHP{B:List (iH×(Int×Int))}:mA (A++B) nm=(mA A nm).or (mA B nm):=by grind [mA]
def Pc{α:Type}{q:α->Bool}:∀ {l:List α} {k:Nat},j6 q l k < (k+l.length:Nat)
 | [],k=>by simp [j6];omega
 | x::r,k=>by
  have:=Pc (q:=q) (l:=r) (k:=k+1);simp only [j6,aw];split<;>omega
def Pb{α:Type}{q:α->Bool}:∀ {l:List α} {k:Nat},0<=j6 q l k->(k:Int)<=j6 q l k/\∃ y,l[(j6 q l k).toNat - k]?=some y/\q y=true
  | [],k,h=>by simp [j6] at h
  | x::r,k,h=>by
    simp only [j6] at h ⊢;split
    . rename_i h1;exact ⟨gz _,x,Ξ,h1⟩
    . rename_i h1
      rw [ak h1] at h;obtain ⟨h2,y,h3,h4⟩:=Pb h;refine ⟨O,y,?_,h4⟩;rw [show (j6 q r (k+1)).toNat - k=(j6 q r (k+1)).toNat - (k+1)+1 by omega,bH,h3]
def wy(x:iM)(k:Nat):Nat:=if k < x.params.length then k else k+1
def qs9{x:iM}(hn:(x.params++x.locals).Nodup):mA (sE x) nm=if 0<=k8 x nm then some (wy x (k8 x nm).toNat:Int) else none:=by
  have e1:(λy:iH=>decide (nm=y))=λy=>decide (y=nm):=by funext y;simp [eq_comm]
  have l1:=Pc (q:=λy:iH=>decide (y=nm)) (l:=x.params) (k:=0);rw [sE,qHP,KJ (nm:=nm) (λy:iH=>y) 2 (λi=>((x.params.length+1+i:Nat):Int)),KJ (nm:=nm) (λy:iH=>y) 1 (λi=>(i:Int)),k8,e1];by_cases hp:0<=j6 (λy:iH=>decide (y=nm)) x.params 0
  . have hl:¬ 0<=j6 (λy:iH=>decide (y=nm)) x.locals 0:=λhl=>by
      obtain ⟨_,y,h1,h2⟩:=Pb hp;obtain ⟨_,z,h3,h4⟩:=Pb hl;have h2:=cV h2;have h4:=cV h4;subst h2;rw [bI] at hn;exact hn.2.2 _ (ax h1) _ (ax h3) h4.symm
    rw [au hp,ak hl,au hp,au hp,ib];congr 1;unfold wy;rw [au O]
  . rw [ak hp,ak hp,Option.or_none]
    by_cases hl:0<=j6 (λy:iH=>decide (y=nm)) x.locals 0
    . rw [au hl,au hl,au O]
      congr 1;unfold wy;rw [ak O];omega
    . rw [ak hl,ak hl,ak O]
def qKY(h:∃ a,mA (gE p) nm=some a):gi p nm=mS p nm/\0<=mS p nm:=by
 have e:=KJ (nm:=nm) jv.name 3 (λi=>(i:Int)) p.o;obtain ⟨a,ha⟩:=h;rw [gi];unfold mS;rw [show mA (gE p) nm=_ from e] at ha ⊢;split at ha
 . rename_i h1;rw [au h1];exact ⟨by show ((j6 _ _ _).toNat:Int)=_;omega,h1⟩
 . cases ha
def qKT(h:∃ a,mA (fE p) nm=some a):fi p nm=r9 p nm/\0<=r9 p nm:=by
 have e:=KJ (nm:=nm) iM.name 4 (λi=>(i:Int)) p.funcs;obtain ⟨a,ha⟩:=h;rw [fi];unfold r9;rw [show mA (fE p) nm=_ from e] at ha ⊢;split at ha
 . rename_i h1;rw [au h1];exact ⟨by show ((j6 _ _ _).toNat:Int)=_;omega,h1⟩
 . cases ha
end
end Go.Proofs.YtemgonlhniicbaaGreatDoor
