/- Part 9. -/
import Derived.Test.YtemgonlhniicbaaGreatDoorQ42z8
import Derived.WalkSmall
set_option linter.unusedVariables false
set_option linter.defProp false
set_option linter.unusedSimpArgs false
set_option linter.unnecessarySimpa false
set_option maxRecDepth 100000
set_option maxHeartbeats 8000000
namespace Go.Proofs.YtemgonlhniicbaaGreatDoor
open Go Go.RowKit Go.Proofs.Tryz
def fa:=@Option.bind_eq_some_iff
def ie:=@Addr.mk.injEq
variable{p q:jc}{s:World}{rs:List ResultVar}{l:List Ex}{i k c d n D N nf b1 b2 jd n2 b3 b5 B C ng cg cf c' n1 b4:Nat}{v ov fv:Value}{xs:List Operand}{ts:Array TypeId}{nm inp:iH}{nd:Nd}{L K R Zq9 L' X Y:Hl}{F G:List Bool}{vs:iz}{ch:List PanicEntry}{e:iH×(Int×Int)}{iI:List Oper}{dst:Option Nat}{af:Array Edge}{a cd:Int}{A1 A:iE}{iL:String}{P:Program}{fn:Func}{l':List iM}{y:iM}{Q:pS}
section
attribute [local irreducible] JC JO JA JB ma mO mX AC fill iy QE Ev my
variable{Ag Af:iE}
def ot(p:jc)(x:iM):iM:={ x with body:=rF p x x.body }
def li(p:jc):jc:=⟨p.o,p.funcs.map (ot p)⟩
def KB{x:Nat×Obj}{M:Hl}(h:x∈X++Y):x∈X++(M++Y):=by
 rcases aS.1 h with h|h
 . exact aI _ h
 . exact aF _ (aF _ h)
def tK(p:jc):jc×(Int×Int):=if (kG p).1≠0 then (⟨[],[]⟩,kG p) else if (pn (li p)).1≠0 then (⟨[],[]⟩,pn (li p)) else (li p,(0,0))
def Hu{p:Prop} (h:p:=by
 rw [hE];exact ⟨rfl,none,0,0,none,0,0,rfl,λs2 j5=>⟨qof,qn9⟩⟩):p:=h
def qvm(hG:GP s)(jF:ja s Ag ng cg p.o)(jX:jl d s Af nf cf p.funcs):jU D 13 [.agg #[.slice Ag ng cg,.slice Af nf cf]] L s λv L' s'=>L=L'/\∃ Bg mg eg Bf mf ef,v=.tuple #[.agg #[.slice Bg mg eg,.slice Bf mf ef],.agg #[iB (tK p).2.1,iB (tK p).2.2]]/\∀ s2,Le D s' s2->ja s2 Bg mg eg (tK p).1.o/\jl d s2 Bf mf ef (tK p).1.funcs:=by
 have l7:=jF.1;have oW:=jX.1;have hU:qd p:=⟨jF.u,jX.u⟩;refine jn (fn:=Tryz.f13) jb Tryz.func13 V Z Tryz.ntmps13 Z (rs:=[.cell 2 25,.cell 3 30]) Z [(0,_)] Z<|Sr<|kF Y2 λβ1 s1 h1=>jh Z [_,_] Y2 λβ2 s2 h2=>jh Z [_,_] Y2 λβ3 s3 h3=>Nt<|Zs<|Sr<|iA (iZ 2 [_,_] Y5) Z<|Je Y3 (FX Pz d p Pz Pz) λs4 h4=>jh Z [_,_] Y2 λt5 s5 h5=>Wt 0 [_,_] Y9<|Nt<|Sr<|iA (iZ 0 [_,_] Y5) Z<|iA (jB [] [_,_] Y3 Z Z Z) Z<|iA (ui Z Z (sp)) Z<|G2 ?_;refine lL Z ?_ ?_<;>intro c6;.have hb0:(kG p).1≠0:=λh=>c6 Q23;have hE:tK p=(⟨[],[]⟩,kG p):=au hb0;refine Zs<|pM jt 4 Z [2,1] Q4 λs7 h7=>za 0 Z (jB [] [_,_] Y3 Z Z Z) Z<|za 1 Z (iZ 0 [_,_] Y5) Z<|iF 2 V<|Wu Z Tt 2 [_,_] Y9 (sM (nD (lz (nD (jL)))))<|iF 3 V<|Wu Z Tt 1 [_,_] Y9 (sM (nD (lz (nD (jL)))))<|ji V<|G3 ?_;exact rR [_,_,_,_] L (.agg (us:=[_,_]) 2 Z Z Z Z Z (.agg (us:=[_,_]) 1 Z Z Z Z Z (.nil))) Z Lc λ_ iD=>Hu
 have g4:=c6;have vK:¬ (kG p).1≠0:=λh=>h g4.1;obtain ⟨p7,zk⟩:=qP.of hU g4.1;have hV:=p7.1;have y8:=hV.1;have A0:=hV.2.1;have sn:=hV.2.2.2.1;have pI:=(An (p:=p) (by rw [p7.2.1])).1;refine G2 ?_;refine Kv (γ:=Nat×Nat×Hl×Value×Value×Nat) (λg=>[(5,.pointer (some ⟨g.1,0,none⟩)),(6,.pointer (some ⟨g.2.1,0,none⟩))]) (λg=>((g.1,cb [g.2.2.2.1,g.2.2.2.2.1] 25)::(g.2.1,cb [.slice Ag ng cg,.slice Af nf cf,.map (some g.2.2.2.2.2)] 94)::g.2.2.1)) (λg tw=>(∃ Bg mg eg,g.2.2.2.1=.slice Bg mg eg/\ja tw Bg mg eg p.o)/\(∃ Bf mf ef,g.2.2.2.2.1=.slice Bf mf ef/\Cv d tw g.2.2.1 Bf mf ef p.funcs)/\oJ tw g.2.2.2.2.2 p) (λ_ _ _ h hl=>⟨by obtain ⟨A,n,c,q1,q2⟩:=h.1;exact ⟨A,n,c,q1,q2.le hl⟩,by obtain ⟨A,n,c,q1,q2⟩:=h.2.1;exact ⟨A,n,c,q1,q2.le hl⟩,h.2.2.le hl⟩) ?_ ?_
 .refine mv jt 8 Z 4 λs8 h8=>za 0 Z (iZ 3 [_,_] Y5) Z<|za 2 Z (iZ 3 [_,_] Y5) Z ?_;refine xW 1 4 5 V ?_ ?_ ?_
  .refine Jb Z Tt Z Z Z (AC.mid [_,_,_,_] [] L (F4 d Pz Pz hV)) ?_;rintro _ _ s9 h9 ⟨M1,rfl,Bg,mg,eg,Bf,mf,ef,rfl,hBG,hBF⟩;refine ⟨(λx _ h=>KB (X:=[_,_,_,_]) (M:=M1) (Y:=L) h),?_⟩;simp only [jC,jD];refine xW 3 4 5 V ?_ ?_ ?_
   .refine Jb Z Tt Z Z Z (wP d p Pz Pz pI) ?_;rintro _ _ kH jG ⟨rfl,bm,rfl,hM⟩;refine ⟨λ_ _ h=>h,?_⟩;refine kA 4 5 V ?_ ?_;.refine ky Z Tt Z [_,_] Y2 λb11 kz jM=>iF 5 V<|ky Z Tt Z [_,_,_] Y2 λb12 kh jE=>iF 6 V<|Wu Z Tt 1 [_,_] Y9 (sM (lz (kN (ql))))<|iF 7 V<|Wu Z Tt 0 [_,_,_] Y9 (sM (lz (kN (ql))))<|ji V ?_;refine iU (jP.mk (b11,b12,M1,.slice Bg mg eg,.slice Bf mf ef,bm) [] Lc (.c2 Z Z sk) (List.Perm.trans (List.Perm.trans (jA _ 0) (jA _ 1)) (.cons _ (.cons _ (aO [_,_,_,_] M1 L)))) ⟨⟨_,_,_,Z,hBG.le Lc⟩,⟨_,_,_,Z,hBF.le Lc⟩,hM.le Lc⟩)
    refine ky Z Tt Z [_,_,_] Y2 λb11 kz jM=>iF 4 V<|ky Z Tt Z [_,_] Y2 λb12 kh jE=>iF 6 V<|Wu Z Tt 0 [_,_] Y9 (sM (lz (kN (ql))))<|iF 7 V<|Wu Z Tt 1 [_,_,_] Y9 (sM (lz (kN (ql))))<|ji V ?_;refine iU (jP.mk (b12,b11,M1,.slice Bg mg eg,.slice Bf mf ef,bm) [] Lc (.c2 Z Z sk) (List.Perm.trans (List.Perm.trans (jA _ 1) (jA _ 1)) (.cons _ (.cons _ (aO [_,_,_,_] M1 L)))) ⟨⟨_,_,_,Z,hBG.le Lc⟩,⟨_,_,_,Z,hBF.le Lc⟩,hM.le Lc⟩)
   .refine ky Z Tt Z [_,_] Y2 λb10 kH jG=>kA 3 5 V ?_ ?_;.refine Jb Z Tt Z Z Z (wP d p Pz Pz pI) ?_;rintro _ _ kz jM ⟨rfl,bm,rfl,hM⟩;refine ⟨λ_ _ h=>h,?_⟩;refine iF 5 V<|ky Z Tt Z [_,_,_] Y2 λb12 kh jE=>iF 6 V<|Wu Z Tt 1 [_,_] Y9 (sM (lz (kN (ql))))<|iF 7 V<|Wu Z Tt 0 [_,_,_] Y9 (sM (lz (kN (ql))))<|ji V ?_;refine iU (jP.mk (b10,b12,M1,.slice Bg mg eg,.slice Bf mf ef,bm) [] Lc (.c2 Z Z sk) (List.Perm.trans (List.Perm.trans (jA _ 0) (jA _ 1)) (.cons _ (.cons _ (aO [_,_,_,_] M1 L)))) ⟨⟨_,_,_,Z,hBG.le Lc⟩,⟨_,_,_,Z,hBF.le Lc⟩,hM.le jE⟩)
    refine ky Z Tt Z [_,_,_] Y2 λb11 kz jM=>iF 3 V<|Jb Z Tt Z Z Z (wP d p Pz Pz pI) ?_;rintro _ _ kh jE ⟨rfl,bm,rfl,hM⟩;refine ⟨λ_ _ h=>h,?_⟩;refine X7 ?_;refine iU (jP.mk (b10,b11,M1,.slice Bg mg eg,.slice Bf mf ef,bm) [] Lc (.c2 Z Z sk) (List.Perm.trans (List.Perm.trans (jA _ 0) (jA _ 1)) (.cons _ (.cons _ (aO [_,_,_,_] M1 L)))) ⟨⟨_,_,_,Z,hBG.le Lc⟩,⟨_,_,_,Z,hBF.le Lc⟩,hM.le (Lr D)⟩)
   refine ky Z Tt Z [_,_,_] Y2 λb10 kH jG=>kA 3 4 V ?_ ?_;.refine Jb Z Tt Z Z Z (wP d p Pz Pz pI) ?_;rintro _ _ kz jM ⟨rfl,bm,rfl,hM⟩;refine ⟨λ_ _ h=>h,?_⟩;refine iF 4 V<|ky Z Tt Z [_,_] Y2 λb12 kh jE=>iF 6 V<|Wu Z Tt 0 [_,_] Y9 (sM (lz (kN (ql))))<|iF 7 V<|Wu Z Tt 1 [_,_,_] Y9 (sM (lz (kN (ql))))<|ji V ?_;refine iU (jP.mk (b12,b10,M1,.slice Bg mg eg,.slice Bf mf ef,bm) [] Lc (.c2 Z Z sk) (List.Perm.trans (List.Perm.trans (jA _ 1) (jA _ 1)) (.cons _ (.cons _ (aO [_,_,_,_] M1 L)))) ⟨⟨_,_,_,Z,hBG.le Lc⟩,⟨_,_,_,Z,hBF.le Lc⟩,hM.le jE⟩)
   refine ky Z Tt Z [_,_] Y2 λb11 kz jM=>iF 3 V<|Jb Z Tt Z Z Z (wP d p Pz Pz pI) ?_;rintro _ _ kh jE ⟨rfl,bm,rfl,hM⟩;refine ⟨λ_ _ h=>h,?_⟩;refine X8 ?_;refine iU (jP.mk (b11,b10,M1,.slice Bg mg eg,.slice Bf mf ef,bm) [] Lc (.c2 Z Z sk) (List.Perm.trans (List.Perm.trans (jA _ 1) (jA _ 1)) (.cons _ (.cons _ (aO [_,_,_,_] M1 L)))) ⟨⟨_,_,_,Z,hBG.le Lc⟩,⟨_,_,_,Z,hBF.le Lc⟩,hM.le (Lr D)⟩)
  .refine ky Z Tt Z [_,_] Y2 λd9 s9 h9=>kA 1 5 V ?_ ?_
   .refine Jb Z Tt Z Z Z (AC.mid [_,_,_,_,_] [] L (F4 d Pz Pz hV)) ?_;rintro _ _ kH jG ⟨M1,rfl,Bg,mg,eg,Bf,mf,ef,rfl,hBG,hBF⟩;refine ⟨(λx _ h=>KB (X:=[_,_,_,_,_]) (M:=M1) (Y:=L) h),?_⟩;simp only [jC,jD];refine kA 3 5 V ?_ ?_;.refine Jb Z Tt Z Z Z (wP d p Pz Pz pI) ?_;rintro _ _ kz jM ⟨rfl,bm,rfl,hM⟩;refine ⟨λ_ _ h=>h,?_⟩;refine iF 5 V<|ky Z Tt Z [_,_,_] Y2 λb12 kh jE=>iF 6 V<|Wu Z Tt 1 [_,_] Y9 (sM (lz (kN (ql))))<|iF 7 V<|Wu Z Tt 0 [_,_,_] Y9 (sM (lz (kN (ql))))<|ji V ?_;refine iU (jP.mk (d9,b12,M1,.slice Bg mg eg,.slice Bf mf ef,bm) [] Lc (.c2 Z Z sk) (List.Perm.trans (List.Perm.trans (jA _ 0) (jA _ 1)) (.cons _ (.cons _ (aO [_,_,_,_] M1 L)))) ⟨⟨_,_,_,Z,hBG.le Lc⟩,⟨_,_,_,Z,hBF.le Lc⟩,hM.le jE⟩)
    refine ky Z Tt Z [_,_,_] Y2 λb11 kz jM=>iF 3 V<|Jb Z Tt Z Z Z (wP d p Pz Pz pI) ?_;rintro _ _ kh jE ⟨rfl,bm,rfl,hM⟩;refine ⟨λ_ _ h=>h,?_⟩;refine X7 ?_;refine iU (jP.mk (d9,b11,M1,.slice Bg mg eg,.slice Bf mf ef,bm) [] Lc (.c2 Z Z sk) (List.Perm.trans (List.Perm.trans (jA _ 0) (jA _ 1)) (.cons _ (.cons _ (aO [_,_,_,_] M1 L)))) ⟨⟨_,_,_,Z,hBG.le Lc⟩,⟨_,_,_,Z,hBF.le Lc⟩,hM.le (Lr D)⟩)
   refine ky Z Tt Z [_,_,_] Y2 λb10 kH jG=>iF 1 V<|Jb Z Tt Z Z Z (AC.mid [_,_,_,_,_,_] [] L (F4 d Pz Pz hV)) ?_;rintro _ _ kz jM ⟨M1,rfl,Bg,mg,eg,Bf,mf,ef,rfl,hBG,hBF⟩;refine ⟨(λx _ h=>KB (X:=[_,_,_,_,_,_]) (M:=M1) (Y:=L) h),?_⟩;simp only [jC,jD];refine iF 3 V<|Jb Z Tt Z Z Z (wP d p Pz Pz pI) ?_;rintro _ _ kh jE ⟨rfl,bm,rfl,hM⟩;refine ⟨λ_ _ h=>h,?_⟩;refine X7 ?_;refine iU (jP.mk (d9,b10,M1,.slice Bg mg eg,.slice Bf mf ef,bm) [] Lc (.c2 Z Z sk) (List.Perm.trans (List.Perm.trans (jA _ 0) (jA _ 1)) (.cons _ (.cons _ (aO [_,_,_,_] M1 L)))) ⟨⟨_,_,_,Z,hBG.le jE⟩,⟨_,_,_,Z,hBF.le jE⟩,hM.le (Lr D)⟩)
  refine ky Z Tt Z [_,_,_] Y2 λd9 s9 h9=>kA 1 4 V ?_ ?_
  .refine Jb Z Tt Z Z Z (AC.mid [_,_,_,_,_] [] L (F4 d Pz Pz hV)) ?_;rintro _ _ kH jG ⟨M1,rfl,Bg,mg,eg,Bf,mf,ef,rfl,hBG,hBF⟩;refine ⟨(λx _ h=>KB (X:=[_,_,_,_,_]) (M:=M1) (Y:=L) h),?_⟩;simp only [jC,jD];refine kA 3 4 V ?_ ?_;.refine Jb Z Tt Z Z Z (wP d p Pz Pz pI) ?_;rintro _ _ kz jM ⟨rfl,bm,rfl,hM⟩;refine ⟨λ_ _ h=>h,?_⟩;refine iF 4 V<|ky Z Tt Z [_,_] Y2 λb12 kh jE=>iF 6 V<|Wu Z Tt 0 [_,_] Y9 (sM (lz (kN (ql))))<|iF 7 V<|Wu Z Tt 1 [_,_,_] Y9 (sM (lz (kN (ql))))<|ji V ?_;refine iU (jP.mk (b12,d9,M1,.slice Bg mg eg,.slice Bf mf ef,bm) [] Lc (.c2 Z Z sk) (List.Perm.trans (List.Perm.trans (jA _ 1) (jA _ 1)) (.cons _ (.cons _ (aO [_,_,_,_] M1 L)))) ⟨⟨_,_,_,Z,hBG.le Lc⟩,⟨_,_,_,Z,hBF.le Lc⟩,hM.le jE⟩)
   refine ky Z Tt Z [_,_] Y2 λb11 kz jM=>iF 3 V<|Jb Z Tt Z Z Z (wP d p Pz Pz pI) ?_;rintro _ _ kh jE ⟨rfl,bm,rfl,hM⟩;refine ⟨λ_ _ h=>h,?_⟩;refine X8 ?_;refine iU (jP.mk (b11,d9,M1,.slice Bg mg eg,.slice Bf mf ef,bm) [] Lc (.c2 Z Z sk) (List.Perm.trans (List.Perm.trans (jA _ 1) (jA _ 1)) (.cons _ (.cons _ (aO [_,_,_,_] M1 L)))) ⟨⟨_,_,_,Z,hBG.le Lc⟩,⟨_,_,_,Z,hBF.le Lc⟩,hM.le (Lr D)⟩)
  refine ky Z Tt Z [_,_] Y2 λb10 kH jG=>iF 1 V<|Jb Z Tt Z Z Z (AC.mid [_,_,_,_,_,_] [] L (F4 d Pz Pz hV)) ?_;rintro _ _ kz jM ⟨M1,rfl,Bg,mg,eg,Bf,mf,ef,rfl,hBG,hBF⟩;refine ⟨(λx _ h=>KB (X:=[_,_,_,_,_,_]) (M:=M1) (Y:=L) h),?_⟩;simp only [jC,jD];refine iF 3 V<|Jb Z Tt Z Z Z (wP d p Pz Pz pI) ?_;rintro _ _ kh jE ⟨rfl,bm,rfl,hM⟩;refine ⟨λ_ _ h=>h,?_⟩;refine X8 ?_;refine iU (jP.mk (b10,d9,M1,.slice Bg mg eg,.slice Bf mf ef,bm) [] Lc (.c2 Z Z sk) (List.Perm.trans (List.Perm.trans (jA _ 1) (jA _ 1)) (.cons _ (.cons _ (aO [_,_,_,_] M1 L)))) ⟨⟨_,_,_,Z,hBG.le jE⟩,⟨_,_,_,Z,hBF.le jE⟩,hM.le (Lr D)⟩)
 intro g s7 h7 I7;simp only [jC,jD];obtain ⟨b5,b6,M1,v1,v2,bm⟩:=g;obtain ⟨⟨Bg,mg,eg,q1,hBG⟩,⟨Bf,mf,ef,q2,css,Ms0,mP,wM,hA0⟩,hM⟩:=I7;simp only at q1 q2 hBG wM hM hA0 mP;subst q1 q2;dsimp only;have ze:mf=nf:=by rw [wM.1,hA0.len.2];exact oW.symm
 obtain rfl:nf=mf:=ze.symm;have hcf1:=wM.2.1;have hcf2:=wM.2.2.1;refine Fg (.cons _ (.cons _ (aO M1 [_,_,_,_] L))) ?_;simp only [jC,jD];refine lM ?_;refine lJ (γ:=Nat×Hl) (λg=>[(1,_),(2,_),(3,_),(5,_),(6,_),(22,_),(23,iB (g.1:Int))]) (λg=>_::_::_::_::_::_::(g.2++L)) (λg tw=>Le D s7 tw/\(g.1<=nf/\∃ Ms,g.2=List.flatten Ms/\kY (FO d tw) Ms ((p.funcs.take g.1).map (ot p)++p.funcs.drop g.1) css)) (λg=>nf - g.1) (λ_ _ _ h hl=>⟨h.1.trans hl,⟨h.2.1,by obtain ⟨Ms,q2,q3⟩:=h.2.2;exact ⟨Ms,q2,q3.mono λ_ _ _ k=>k.le hl⟩⟩⟩) (0,M1) (.c6 Z Z Z Z Z Z (.cons Z (.nil _))) Z ⟨Le.refl _,⟨aB _,Ms0,mP,by simpa using hA0.mono λ_ _ _ k=>k.le (Lr D)⟩⟩ ?_;intro g lq I13;obtain ⟨k,Fo⟩:=g;obtain ⟨ko,Ms,hF,nG⟩:=I13.2;simp only at ko hF nG;dsimp only;refine J6 ?_ ?_<;>intro rI
 .have hk:k < nf:=O
  obtain ⟨b,off,x,B1,m1,d1,B2,m2,d2,B3,m3,d3,rfl,hx,hcx,oP,oO,so,kL⟩:=jl.at_ Pz hk;have ym:=sn x (ax hx);obtain ⟨wq,u,wr,wt,v,yR,uJ,w0,wu,rfl,hvv,tW,xO,hxw,vn,lR⟩:=nG.at_ (k:=k) Q27;obtain ⟨hvs1,vS,hvs2⟩:=UA hvv xO hx;obtain rfl:x=v:=vS.symm;obtain ⟨C1,r1,e1,C2,r2,e2,C3,r3,e3,uT,z7,tY,hxB,_⟩:=hxw;have hw:css[k]?=some w0:=by
    have:=vn.len;rw [tW,aY O,show k - uJ.length=0 by omega];rfl
  obtain ⟨b9,off9,rfl,hcr⟩:=wM.at_ hw;rw [uT] at hcr;obtain ⟨F1,hF1⟩:∃ F,F=wq.flatten:=⟨_,rfl⟩;obtain ⟨F2,mK⟩:∃ F,F=wr.flatten:=⟨_,rfl⟩;have hFF:Fo=F1++(u++F2):=by rw [hF,hF1,mK];simp
  subst hFF;rw [show (F1++(u++F2))++L=F1++(u++(F2++L)) from by simp only [am]];refine lM ?_;refine mv jt 14 Z 6 λlW lQ=>za 0 Z (iZ 1 [_,_,_] Y5) Z<|H1 ?_;refine za 2 Z (Wd 5 Y5) Z<|H1 ?_;refine za 4 Z (jK Y6 hk) Z<|za 5 Z (ku Y3 Pz Z) Z<|za 6 Z (jB [(_,_),(_,_)] [_,_,_,_,_,_,_] Y3 Z Z Z) Z<|H3 ?_;refine za 10 Z (jK Y6 hk) Z<|H1 ?_;refine za 12 Z (nK 3 Y3 Pz Z) Z<|iF 13 V ?_;refine Jb Z Tt Z Z Z (AC.mid (_::_::_::_::_::_::F1) u (F2++L) (fds d _ _ bm Ag _ ng cg nf cf p Pz Pz x B1 B2 B3 m1 d1 m2 d2 m3 d3 Pz Pz u C3 r3 e3 x.body 1 (hxB.le lQ) ym.2.2.2.2.1)) ?_;rintro _ _ sB tu ⟨u2,rfl,rfl,o4⟩;refine ⟨(λx hx _=>qLd hx),?_⟩;simp only [ao];rw [show F1++(u2++(F2++L))=(F1++(u2++F2))++L from by simp only [am]];refine ji V<|Zb<|Zt<|Zr<|kq Y3 (jq O O)<|G2 ?_;refine iU ⟨(k+1,F1++(u2++F2)),[],kp,Z,⟨Lc,⟨Oz,wq++u2::wr,by simp [hF1,mK],by simp only;rw [Ob hx,<- hvs1,<- hvs2,tW];exact (vn.mono λ_ _ _ k=>k.le Lc).app (.cons ⟨C1,r1,e1,C2,r2,e2,C3,r3,e3,uT,z7.le Lc,tY.le Lc,o4.le (Lr D),kL⟩ (lR.mono λ_ _ _ k=>k.le Lc))⟩⟩,Oz⟩
 obtain rfl:nf=k:=O
 rw [aK O,aL O,aE] at nG;refine G7 ?_;refine uz [_,_,_,_,_,_] Fo ?_;intro lW lQ hpub15;simp only [jC,jD];have hFN:jl d lW Bf nf ef (p.funcs.map (ot p)):=Cv.pub ⟨css,Ms,hF,wM.le Lc,nG.mono λ_ _ _ k=>k.le lQ⟩ hpub15;refine Zr<|iA (iZ 0 [_,_] Y5) Z<|Je Y3 (d' Pz d (li p) Pz Pz) λsB tu=>jh Z [_,_] Y2 λb17 vD vm=>Wt 0 [_,_] Y9<|Nt<|Sr<|iA (iZ 0 [_,_] Y5) Z<|iA (jB [] [_,_] Y3 Z Z Z) Z<|iA (ui Z Z (sp)) Z<|G2 ?_;refine lL Z ?_ ?_<;>intro yd;.have hE:tK p=(⟨[],[]⟩,pn (li p)):=(ak vK).trans (au (λh=>yd (by rw [UB h];exact ⟨rfl,rfl⟩)));refine Zs<|pM jt 4 Z [5,4] Q4 λBP yh=>za 0 Z (jB [] [_,_] Y3 Z Z Z) Z<|za 1 Z (iZ 0 [_,_] Y5) Z<|iF 2 V<|Wu Z Tt 5 [_,_] Y9 (sM (kN (lz (nD (jL)))))<|iF 3 V<|Wu Z Tt 4 [_,_] Y9 (sM (kN (lz (nD (jL)))))<|ji V<|G3 ?_;exact rR [_,_,_,_,_,_,_] L (.agg (us:=[_,_]) 5 Z Z Z Z Z (.agg (us:=[_,_]) 4 Z Z Z Z Z (.nil))) Z Lc λ_ iD=>Hu
 have g45:=yd;have hE:tK p=(li p,(0,0)):=(ak vK).trans (ak (λh=>h g45.1));refine Zk<|Zt<|Sr<|iA (iZ 1 [_,_] Y5) Z<|iA (jB [] [_,_] Y3 Z Z Z) Z<|Wt 5 [_,_] Y9<|Wt 4 [_,_] Y9<|G3 ?_;refine rR [_,_,_,_,_,_,_] L (.agg (us:=[_,_]) 5 Z Z Z Z Z (.agg (us:=[_,_]) 4 Z Z Z Z Z (.nil))) Z Lc λ_ iD=>?_;rw [hE];exact ⟨rfl,_,_,_,_,_,_,rfl,λs2 j5=>⟨hBG.le Lc,hFN.le Lc⟩⟩
def qrK(hG:GP s)(d:Nat)(p:jc)(jF:ja s Ag ng cg p.o)(jX:jl d s Af nf cf p.funcs):jU D 13 [.agg #[.slice Ag ng cg,.slice Af nf cf]] L s λv L' s'=>L=L'/\∃ Bg mg eg Bf mf ef,v=.tuple #[.agg #[.slice Bg mg eg,.slice Bf mf ef],.agg #[iB (tK p).2.1,iB (tK p).2.2]]/\ja s' Bg mg eg (tK p).1.o/\jl d s' Bf mf ef (tK p).1.funcs:=(qvm hG jF jX).mono λv L' s' _ ⟨h1,Bg,mg,eg,Bf,mf,ef,h2,h3⟩=>⟨h1,Bg,mg,eg,Bf,mf,ef,h2,h3 _ (Le.refl _)⟩
end
section
variable{x:iM}{c1 b:Nat}
mutual
def qJv:∀ (x:Ex) (lv c c':Nat),c'<=c->(rr x lv c).2=0->(rr x lv c').2=0
 | .mk k o n nm ar,lv,c,c',hc,h=>by
  simp only [rr] at h ⊢;split at h
  . cases h
  rename_i h1;split at h
  . rename_i h2;exact absurd h h2
  rename_i h2;rw [ak O,ak h2];exact UE ar (lv+1) (c+1) (c'+1) O h
def UE:∀ (l:List Ex) (lv c c':Nat),c'<=c->(mD l lv c).2=0->(mD l lv c').2=0
 | [],_,_,_,_,_=>rfl
 | x::r,lv,c,c',hc,h=>by
  simp only [mD] at h ⊢;split at h
  . rename_i h1;exact absurd h h1
  rename_i h1;have a:=qJv x lv c c' hc Q5;rw [ak (by rw [a];simp)];rw [(Vd x lv c Q5).2.1] at h;rw [(Vd x lv c' a).2.1];exact UE r lv _ _ O h
end
mutual
def qJu:∀ (x:iP) (lv c c':Nat),c'<=c->(rq x lv c).2=0->(rq x lv c').2=0
 | .mk k nm es b e,lv,c,c',hc,h=>by
  simp only [rq] at h ⊢;split at h
  . cases h
  rename_i h1;split at h
  . rename_i h2;exact absurd h h2
  rename_i h2;split at h
  . rename_i h3;exact absurd h h3
  rename_i h3;split at h
  . rename_i h4;exact absurd h h4
  rename_i h4;have h3':(mD es 1 (c+1)).2=0:=by simpa using h3
  have h4':(mC b (lv+1) (mD es 1 (c+1)).1).2=0:=by simpa using h4
  have a:=UE es 1 (c+1) (c'+1) O h3';have k1:=(DD es 1 (c+1) h3').2.1;have k2:=(DD es 1 (c'+1) a).2.1;have k3:=(Ch b (lv+1) _ h4').2.1;have b1:=OH b (lv+1) (mD es 1 (c+1)).1 (mD es 1 (c'+1)).1 O h4';have k4:=(Ch b (lv+1) _ b1).2.1;rw [ak O,ak h2,ak (by rw [a];simp),ak (by rw [b1];simp)];exact OH e (lv+1) _ _ O h
def OH:∀ (l:List iP) (lv c c':Nat),c'<=c->(mC l lv c).2=0->(mC l lv c').2=0
 | [],_,_,_,_,_=>rfl
 | x::r,lv,c,c',hc,h=>by
  simp only [mC] at h ⊢;split at h
  . rename_i h1;exact absurd h h1
  rename_i h1;have a:=qJu x lv c c' hc Q5;rw [ak (by rw [a];simp)];rw [(Vc x lv c Q5).2.1] at h;rw [(Vc x lv c' a).2.1];exact OH r lv _ _ O h
end
def qzs(hc:c'<=c)(h:(oH x c).2=0):(oH x c').2=0/\(oH x c').1<=(oH x c).1/\c<=(oH x c).1:=by
 have h0:=(Oj h).2.2.2.2.2.1;have h7:(oH x c').2=0:=by
  unfold oH at h ⊢;split at h
  . cases h
  rename_i h1;split at h
  . cases h
  rename_i h2;split at h
  . cases h
  rename_i h3;rw [ak h1,ak h2,ak h3];exact OH _ _ _ _ hc h
 have h8:=(Oj h7).2.2.2.2.2.1;exact ⟨h7,O,O⟩
def qCa{l:List iM}(hs:l'.Sublist l):∀ {i i' c c':Nat},c'<=c->(tt l i c).1=0->(tt l' i' c').1=0:=by
 induction hs with
 | slnil=>intro i i' c c' _ _;rfl
 | cons x _ ih=>
  intro i i' c c' hc h;rw [tt] at h;split at h
  . rename_i h1;exact absurd h h1
  rename_i h1;have:=qzs hc Q5;exact ih O h
 | cons_cons x _ ih=>
  intro i i' c c' hc h;rw [tt] at h ⊢;split at h
  . rename_i h1;exact absurd h h1
  rename_i h1;have:=qzs hc Q5;rw [ak (by rw [this.1];simp)];exact ih this.2.1 h
def qzz:∀ {l:List jv} {i:Nat},(∀ g∈l,qk g=0)->vM l i=(0,0)
 | [],_,_=>rfl
 | x::r,i,h=>by
  rw [vM,ak (by rw [h x Mc];simp)];exact qzz λg hg=>h g (an _ hg)
def qDB{α:Type}{f:α->Nat}{l l':List α}(hs:l'.Sublist l):(l'.map f).sum<=(l.map f).sum:=by
 induction hs with
 | slnil=>exact ay _
 | cons x _ ih=>simp only [aN,dD];omega
 | cons_cons x _ ih=>simp only [aN,dD];omega
def qn6{α:Type}{f:α->iH}{l l':List α}(hs:l'.Sublist l):(l'.map f).flatten.length<=(l.map f).flatten.length:=by
 induction hs with
 | slnil=>exact ay _
 | cons x _ ih=>simp only [aN,bj,ac];omega
 | cons_cons x _ ih=>simp only [aN,bj,ac];omega
def qwb(hg:q.o.Sublist p.o)(hf:q.funcs.Sublist p.funcs)(h:(pn p).1=0):pn q=(0,0):=by
 have hs:=FY h;have hl:¬ 12000 < (BL p).length:=by
  rw [pn,ak (by simpa using hs)] at h;intro h2;rw [au h2] at h;cases h
 have h1:=hg.length_le;have h2:=hf.length_le;have h3:=qDB (f:=λg:jv=>g.init.length) hg;have h4:=qn6 (f:=uD) hg;have h5:=qn6 (f:=Ct) hf;unfold pN at hs;split at hs
 . cases hs
 rename_i h6;split at hs
 . rename_i h7;exact absurd hs h7
 rename_i h7;split at hs
 . cases hs
 rename_i h8;have g0:=TY (l:=p.o) (i:=0) (by simpa using h7);have hq:(pN q).1=0:=by
  rw [pN,ak O,qzz (λg hm=>g0 g (hg.subset hm)),ak Ξ,ak O];exact qCa hf (ay _) hs
 refine Zq (qs7 hq) ?_;rw [BL,ac] at hl ⊢;omega
def qsl:∀ {l:List jv} {seen:List iH} {i:Nat},(seen++l.map jv.name).Nodup->se l seen i=(0,0)
  | [],_,_,_=>rfl
  | g::r,seen,i,h=>by
    rw [se,ak ?_]
    . exact qsl Q2
    . rw [bI] at h
      intro hm;exact h.2.2 _ hm _ Ξ rfl
def qsi:∀ {l:List iM} {seen:List iH} {i:Nat},(seen++l.map iM.name).Nodup->(∀ x∈l,(x.params++x.locals).Nodup)->qF l seen i=(0,0)
  | [],_,_,_,_=>rfl
  | g::r,seen,i,h,h2=>by
    rw [qF,ak ?_]
    . exact qsi Q2 λx hx=>h2 x (an _ hx)
    . rw [bI] at h
      rintro (hm|hm)
      . exact h.2.2 _ hm _ Ξ rfl
      . exact hm (h2 g Mc)
def qrs(p:jc):(jY p).map (·.1)=p.o.map jv.name++p.funcs.map iM.name:=by
 rw [jY,bO];congr 1<;>(apply eN<;>simp)
def qqR{p:jc}:∀ {l:List iM} {i:Nat},(∀ x∈l,∀ nd∈ly x.body 0,jJ p x nd=0)->zJ p l i=(0,0)
 | [],_,_=>rfl
 | x::r,i,h=>by
  have hb:∀ {l:List Nd},(∀ nd∈l,jJ p x nd=0)->um p x l=0:=by
   intro l;induction l with
   | nil=>intro _;rfl
   | cons n r ih=>intro h;rw [um,au (h n Mc)];exact ih λnd hm=>h nd (an _ hm)
  rw [zJ,au (hb (h x Mc))];exact qqR λy hy=>h y (an _ hy)
def qrc(h1:pn p=(0,0))(h2:pB p=(0,0))(h3:∀ x∈p.funcs,∀ nd∈ly x.body 0,jJ p x nd=0):kG p=(0,0):=by
 rw [kG,h1,ak Ξ,h2,ak Ξ];exact qqR h3
def BY{α:Type}:∀ (B:List Bool) (l:List α),(jy B l).Sublist l
 | [],l=>by rw [jy];exact cK _
 | b::B,[]=>by rw [jy];exact cK _
 | b::B,x::l=>by
  rw [jy];split
  . exact (BY B l).cons_cons x
  . exact (BY B l).cons x
def pO:List Bool->Nat->Nat
 | _,0=>0
 | [],_+1=>0
 | b::B,i+1=>pO B i+(if b=true then 1 else 0)
def Bu{α:Type}:∀ {B:List Bool} {l:List α} {i:Nat} {x:α},l[i]?=some x->B[i]?=some true->(jy B l)[pO B i]?=some x
 | [],l,i,x,_,h2=>by simp at h2
 | b::B,[],i,x,h,_=>by simp at h
 | b::B,y::l,0,x,h,h2=>by
  have h:y=x:=by simpa using h
  have h2:b=true:=by simpa using h2
  subst h h2;rw [jy,pO];rfl
 | b::B,y::l,i+1,x,h,h2=>by
  have ih:=Bu (B:=B) (l:=l) (i:=i) (x:=x) Q2 Q9;rw [jy,pO];split
  . rw [bH];exact ih
  . exact ih
def Ks{α:Type}:∀ {B:List Bool} {l:List α} {k:Nat} {x:α},(jy B l)[k]?=some x->∃ i,l[i]?=some x/\B[i]?=some true/\pO B i=k
  | [],l,k,x,h=>by rw [jy] at h;cases h
  | b::B,[],k,x,h=>by rw [jy] at h;cases h
  | b::B,y::l,k,x,h=>by
    rw [jy] at h;split at h
    . rename_i hb
      cases k with
      | zero=>exact ⟨0,h,by rw [hb];rfl,rfl⟩
      | succ k=>
        obtain ⟨i,a,b1,c⟩:=Ks (B:=B) (l:=l) Q2;exact ⟨i+1,by simpa using a,by simpa using b1,by rw [pO,c,au hb]⟩
    . rename_i hb
      obtain ⟨i,a,b1,c⟩:=Ks (B:=B) (l:=l) h;exact ⟨i+1,by simpa using a,by simpa using b1,by rw [pO,c,ak hb];rfl⟩
def TL{α:Type}:∀ {B:List Bool} {l:List α},B.length=l.length->(∀ k:Nat,k < l.length->B[k]?=some true)->jy B l=l
 | [],[],_,_=>rfl
 | [],y::l,h,_=>by cases h
 | b::B,[],_,_=>rfl
 | b::B,y::l,h,h2=>by
  have hb:b=true:=by simpa using h2 0 Ξ
  rw [jy,au hb,TL (B:=B) (l:=l) Q2 λk hk=>by simpa using h2 (k+1) Q6]
def NW(h:((jY p).find? λe=>decide (e.1=nm))=some e):(∃ (i:Nat) (g:jv),p.o[i]?=some g/\g.name=nm/\e.2=((3:Int),(i:Int)))\/∃ (i:Nat) (f:iM),p.funcs[i]?=some f/\f.name=nm/\e.2=((4:Int),(i:Int)):=by
  have hn:e.1=nm:=by simpa using List.find?_some h
  have hm:=cJ h;rw [jY,aS] at hm;rcases hm with hm|hm
  . obtain ⟨i,hi⟩:=bh hm
    rw [da] at hi;cases hg:p.o[i]? with
    | none=>rw [hg] at hi;cases hi
    | some g=>rw [hg] at hi;simp at hi;subst hi;exact .inl ⟨i,g,hg,hn,rfl⟩
  . obtain ⟨i,hi⟩:=bh hm
    rw [da] at hi;cases hg:p.funcs[i]? with
    | none=>rw [hg] at hi;cases hi
    | some g=>rw [hg] at hi;simp at hi;subst hi;exact .inr ⟨i,g,hg,hn,rfl⟩
def BM(F G:List Bool)(m:Int×Int):Int×Int:=if m.1=3 then (3,(pO G m.2.toNat:Int)) else if m.1=4 then (4,(pO F m.2.toNat:Int)) else m
def qvK(kO:((jY ⟨jy G p.o,jy F p.funcs⟩).map (·.1)).Nodup)(h2:(j7 p x nm).2=true)(hg:∀ g:Nat,(j7 p x nm).1=((3:Int),(g:Int))->G[g]?=some true)(hf:∀ k:Nat,(j7 p x nm).1=((4:Int),(k:Int))->F[k]?=some true):j7 ⟨jy G p.o,jy F p.funcs⟩ x nm=(BM F G (j7 p x nm).1,true):=by
  unfold j7 at h2 hg hf ⊢;split
  . rfl
  rename_i h3;rw [ak h3] at h2 hg hf;split
  . rfl
  rename_i h4;rw [ak h4] at h2 hg hf;cases hfd:(jY p).find? λe=>decide (e.1=nm) with
  | none=>rw [hfd] at h2;cases h2
  | some e=>
    rw [hfd] at hg hf;simp only at hg hf ⊢;rcases NW hfd with ⟨i,g,a,b,c⟩|⟨i,g,a,b,c⟩
    . have k1:=AA kO (OV (p:=⟨jy G p.o,jy F p.funcs⟩) (Bu a (hg i c)))
      simp only [b] at k1;rw [k1,c];rfl
    . have k1:=AA kO (CU (p:=⟨jy G p.o,jy F p.funcs⟩) (Bu a (hf i c)))
      simp only [b] at k1;rw [k1,c];rfl
def NS{u:Dm}(h:pf p x u=0)(hu:u.2.1≠0):(j7 p x u.1).2=true/\uX (zK p (j7 p x u.1).1.2) u.2.1 (j7 p x u.1).1.1/\¬ (u.2.1=4/\u.2.2≠(EX p (j7 p x u.1).1.2:Int)):=by
 unfold pf at h;rw [ak hu] at h;split at h
 . cases h
 rename_i h1;split at h
 . cases h
 rename_i h2;split at h
 . cases h
 rename_i h3;exact ⟨by simpa using h1,eF.1 h2,h3⟩
def Kt(h:jJ p x nd=0):pf p x nd.use=0/\∀ q:jc,pf q x nd.use=0->jJ q x nd=0:=by
 cases nd with
 | ex y lp=>exact ⟨h,λq hq=>hq⟩
 | st y lp=>
  rw [jJ] at h;split at h
  . cases h
  rename_i h1;exact ⟨h,λq hq=>by rw [jJ,ak h1];exact hq⟩
def Gj{m:Int×Int}{c:Int}(h1:m.1=c)(h2:m.2=(k:Int)):m=(c,(k:Int)):=Prod.ext h1 h2
section
variable(kO:((jY ⟨jy G p.o,jy F p.funcs⟩).map (·.1)).Nodup){x:iM}(h:jJ p x nd=0)(hg:∀ g:Nat,(g:Int)∈qq p x 3 nd->G[g]?=some true)(hf:∀ k:Nat,(k:Int)∈qq p x 4 nd->F[k]?=some true)
def DH{x:iM}{c:Int}(hu:nd.use.2.1≠0)(h:(j7 p x nd.use.1).1=(c,(k:Int))):(k:Int)∈qq p x c nd:=by
 rw [qq,ak hu,h,au rfl];simp
include kO h hg hf in
theorem OF(hu:nd.use.2.1≠0):j7 ⟨jy G p.o,jy F p.funcs⟩ x nd.use.1=(BM F G (j7 p x nd.use.1).1,true):=
 qvK kO (NS (Kt h).1 hu).1 (λg hm=>hg g (DH hu hm)) (λk hm=>hf k (DH hu hm))
include kO h hg hf in
theorem qCD:jJ ⟨jy G p.o,jy F p.funcs⟩ x nd=0:=by
  refine (Kt h).2 _ ?_;by_cases hu:nd.use.2.1=0
  . rw [pf,au hu]
  obtain ⟨a1,a2,a3⟩:=NS (Kt h).1 hu;have hm:=OF kO h hg hf hu;rw [pf,ak hu,hm,ak Ξ];simp only;rcases Ds a1 with k1|⟨k1,k,k2,k3⟩|⟨k1,k,k2,k3⟩
  . rw [show BM F G (j7 p x nd.use.1).1=(j7 p x nd.use.1).1 by rw [BM,ak O,ak O]]
    rw [ak (by unfold uX;omega),ak O]
  . have e:=Gj k1 k2
    rw [e] at a2 a3 ⊢;obtain ⟨gl,qJ⟩:∃ gl,p.o[k]?=some gl:=⟨_,ap k3⟩;have hq:=Bu qJ (hg k (DH hu e));have e1:=BE qJ;have e2:=BE (p:=⟨jy G p.o,jy F p.funcs⟩) hq;simp only [BM,bV,aD] at e2 ⊢;rw [e2,<- e1,ak (eF.2 a2),ak];unfold uX at a2;omega
  . have e:=Gj k1 k2
    rw [e] at a2 a3 ⊢;obtain ⟨gl,qJ⟩:∃ gl,p.funcs[k]?=some gl:=⟨_,ap k3⟩;have hq:=Bu qJ (hf k (DH hu e));have e1:=Gq (p:=p) (i:=(k:Int)) rfl qJ;have e2:=Gq (p:=⟨jy G p.o,jy F p.funcs⟩) (i:=((pO F k:Nat):Int)) rfl hq;have e3:BM F G ((4:Int),(k:Int))=(4,(pO F k:Int)):=by rw [BM,ak Ξ,au rfl];rfl
    rw [e3];simp only;rw [e2,<- e1,ak,ak a3];unfold uX at a2 ⊢;omega
end
def TJ{α:Type}{q:α->Bool}:∀ {l:List α} {k:Nat},j6 q l k < 0->∀ x∈l,q x=false
  | [],_,_=>λx hx=>by cases hx
  | y::r,k,h=>λx hx=>by
    rw [j6] at h;split at h
    . omega
    . rename_i h1
      rcases aR.1 hx with rfl|hx
      . simpa using h1
      . exact TJ h x hx
def NL(h:pB p=(0,0)):∃ (mi:Nat) (x:iM),nM p.funcs=(mi:Int)/\p.funcs[mi]?=some x/\x.name=mu/\x.params=[]:=by
 obtain ⟨mi,x,h1,h2,_⟩:=qr9 h;obtain ⟨_,y,hy,hq⟩:=F7 (show j6 (λx:iM=>decide (x.name=mu)) p.funcs 0=(mi:Int) from h1);rw [eO,h2] at hy;obtain rfl:x=y:=by simpa using hy
 refine ⟨mi,x,h1,h2,by simpa using hq,?_⟩;rw [pB] at h;split at h
 . rename_i h3;rw [h] at h3;exact absurd rfl h3
 split at h
 . rename_i h3;rw [h] at h3;exact absurd rfl h3
 rw [ak O,h1,aD,h2] at h;simp only at h;split at h
 . assumption
 . cases h
def TF(kO:((jY p).map (·.1)).Nodup){j:Nat}(hi:p.funcs[i]?=some x)(hj:p.funcs[j]?=some y)(hn:x.name=y.name):i=j:=by
 have a:=AA kO (CU hi);have b:=AA kO (CU hj);simp only [hn] at a b;rw [a] at b;simp at b;omega
section
variable(hu:qd p)(h0:(kG p).1=0)(hM:PI p F G)
include hM in
theorem qzG(hF:F[i]?=some true)(hc:EI p i k):F[k]?=some true:=by
 obtain ⟨_,_,mi,_,_,h3,_⟩:=hM;have:∀ a b,zQ p a b->∀ c,EI p b c->zQ p a c:=by
  intro a b hr;induction hr with
  | refl=>exact λc hc=>.step hc (.refl c)
  | step h _ ih=>exact λc hc=>.step h (ih c hc)
 exact (h3 k).2 (this _ _ ((h3 i).1 hF) k hc)
include hM in
theorem Pf{x:iM}(hF:F[i]?=some true)(hx:p.funcs[i]?=some x)(hn:nd∈ly x.body 0):(∀ g:Nat,(g:Int)∈qq p x 3 nd->G[g]?=some true)/\∀ k:Nat,(k:Int)∈qq p x 4 nd->F[k]?=some true:=by
 refine ⟨λg hg=>?_,λk hk=>qzG hM hF ⟨x,hx,((Bw p x 4).2 _).2 ⟨nd,hn,hk⟩⟩⟩;obtain ⟨_,_,mi,_,_,_,h4⟩:=hM;exact (h4 g).2 ⟨i,hF,x,hx,((Bw p x 3).2 _).2 ⟨nd,hn,hg⟩⟩
include hu h0 in
theorem KE:((jY ⟨jy G p.o,jy F p.funcs⟩).map (·.1)).Nodup:=by
 obtain ⟨⟨_,hn,_⟩,_⟩:=qP.of hu h0;have:=(An (p:=p) (by rw [hn])).1;rw [qrs] at this ⊢;exact List.Nodup.sublist (List.Sublist.append ((BY G p.o).map _) ((BY F p.funcs).map _)) this
include hu h0 hM in
theorem qmp:kG ⟨jy G p.o,jy F p.funcs⟩=(0,0):=by
  obtain ⟨⟨hV,hn,kO⟩,hz⟩:=qP.of hu h0;have pI:=KE (F:=F) (G:=G) hu h0;have Bn:(pn p).1=0:=by
    unfold kG at h0;split at h0
    . rename_i h1;exact absurd h0 h1
    . rename_i h1;simpa using h1
  have zi:=(An (p:=p) (by rw [hn])).2;refine qrc (qwb (BY _ _) (BY _ _) Bn) ?_ ?_
  . have hND2:=pI
    rw [qrs] at hND2;have e1:se (jy G p.o) [] 0=(0,0):=qsl (by rw [bI] at hND2;simpa using hND2.1);have e2:qF (jy F p.funcs) ((jy G p.o).map jv.name) (jy G p.o).length=(0,0):=qsi hND2 λx hx=>zi x ((BY F p.funcs).subset hx);rw [pB,e1,ak Ξ,e2,ak Ξ];obtain ⟨mi,x,m1,m2,m3,m4⟩:=NL hn;obtain ⟨_,_,mi',m5,m6,m7,_⟩:=hM;obtain rfl:mi'=mi:=O
    have hk:=Bu m2 ((m7 mi').2 (.refl _));have hge:¬ nM (jy F p.funcs) < 0:=by
      intro kZ;have:=TJ kZ x (ax hk);rw [m3] at this;simp at this
    rw [ak hge];obtain ⟨k,pj⟩:=aZ (show 0<=nM (jy F p.funcs) by omega);obtain ⟨_,y,hy,hq⟩:=F7 (show j6 (λx:iM=>decide (x.name=mu)) (jy F p.funcs) 0=(k:Int) from pj);rw [eO] at hy;have hkr:=TF pI hk hy Q28;rw [pj,aD,<- hkr,hk];simp only;rw [au m4]
  . intro x hx nd hm
    obtain ⟨k,hk⟩:=bh hx;obtain ⟨i,h1,h2,h3⟩:=Ks hk;have:=Pf hM h2 h1 hm;exact qCD pI (kO x (ax h1) nd hm) this.1 this.2
include hu h0 hM in
theorem qyu(hF:F[i]?=some true)(hc:EI p i k):EI ⟨jy G p.o,jy F p.funcs⟩ (pO F i) (pO F k):=by
 obtain ⟨⟨hV,hn,kO⟩,hz⟩:=qP.of hu h0;have pI:=KE (F:=F) (G:=G) hu h0;obtain ⟨x,hx,hk⟩:=hc;obtain ⟨nd,hm,hi⟩:=((Bw p x 4).2 _).1 hk;obtain ⟨oQ,Bm⟩:=OJ hi;have Bl:=Pf hM hF hx hm;have:=OF pI (kO x (ax hx) nd hm) Bl.1 Bl.2 oQ;refine ⟨x,Bu hx hF,((Bw _ x 4).2 _).2 ⟨nd,hm,DH oQ ?_⟩⟩;rw [this,Bm,BM,ak Ξ,au rfl];rfl
include hu h0 hM in
theorem qyv{g:Nat}(hF:F[i]?=some true)(hc:glo p i g):glo ⟨jy G p.o,jy F p.funcs⟩ (pO F i) (pO G g):=by
 obtain ⟨⟨hV,hn,kO⟩,hz⟩:=qP.of hu h0;have pI:=KE (F:=F) (G:=G) hu h0;obtain ⟨x,hx,hk⟩:=hc;obtain ⟨nd,hm,hi⟩:=((Bw p x 3).2 _).1 hk;obtain ⟨oQ,Bm⟩:=OJ hi;have Bl:=Pf hM hF hx hm;have:=OF pI (kO x (ax hx) nd hm) Bl.1 Bl.2 oQ;refine ⟨x,Bu hx hF,((Bw _ x 3).2 _).2 ⟨nd,hm,DH oQ ?_⟩⟩;rw [this,Bm,BM,au rfl];rfl
include hu h0 hM in
theorem qtC{r:jc}(hr:CV ⟨jy G p.o,jy F p.funcs⟩ r):r=⟨jy G p.o,jy F p.funcs⟩:=by
 have hz:=qmp hu h0 hM;have pI:=KE (F:=F) (G:=G) hu h0;rcases hr with ⟨h1,_⟩|⟨_,F2,G2,ju,rfl⟩
 . rw [hz] at h1;exact absurd rfl h1
 obtain ⟨⟨_,hn,_⟩,_⟩:=qP.of hu h0;obtain ⟨mi,x,m1,m2,m3,m4⟩:=NL hn;obtain ⟨q1,q2,mq,q3,q4,q5,q6⟩:=ju;have hmm:F[mi]?=some true/\∀ j:Nat,F[j]?=some true->zQ p mi j:=by
  obtain ⟨_,_,mi',m5,m6,m7,_⟩:=hM;obtain rfl:mi'=mi:=O
  exact ⟨(m7 mi').2 (.refl _),λj hj=>(m7 j).1 hj⟩
 have hk:=Bu m2 hmm.1;obtain ⟨_,y,hy,hq⟩:=F7 (show j6 (λx:iM=>decide (x.name=mu)) (jy F p.funcs) 0=(mq:Int) from q3);rw [eO] at hy;have hkr:=TF pI hk hy Q28;have hR:∀ i j,zQ p i j->F[i]?=some true->zQ ⟨jy G p.o,jy F p.funcs⟩ (pO F i) (pO F j):=by
  intro i j hr;induction hr with
  | refl=>exact λ_=>.refl _
  | step hc _ ih=>exact λhF=>.step (qyu hu h0 hM hF hc) (ih (qzG hM hF hc))
 have mK:∀ k:Nat,k < (jy F p.funcs).length->F2[k]?=some true:=by
  intro k xI;obtain ⟨j,h1,h2,h3⟩:=Ks (ap xI);subst h3;exact (q5 _).2 (hkr▸hR mi j (hmm.2 j h2) hmm.1)
 have hG2:∀ k:Nat,k < (jy G p.o).length->G2[k]?=some true:=by
  intro k xI;obtain ⟨g,h1,h2,h3⟩:=Ks (ap xI);subst h3;have hM0:=hM;obtain ⟨_,_,_,_,_,_,m8⟩:=hM0;obtain ⟨j,hj,qJ⟩:=(m8 g).1 h2;have:=qyv hu h0 hM hj qJ;obtain ⟨x2,tY,_⟩:=id this;exact (q6 _).2 ⟨_,mK _ (al.1 tY).1,this⟩
 show jc.mk (jy G2 (jy G p.o)) (jy F2 (jy F p.funcs))=_;rw [TL q2 hG2,TL q1 mK]
end
def qp4(hu:qd p)(h0:(kG p).1=0)(hT:CV p q):kG q=(0,0)/\∀ r,CV q r->r=q:=by
 rcases hT with ⟨h1,_⟩|⟨_,F,G,hM,rfl⟩
 . exact absurd h0 h1
 . exact ⟨qmp hu h0 hM,λr hr=>qtC hu h0 hM hr⟩
attribute [local irreducible] JC JO JA JB ma mO mX AC fill iy QE Ev my
def KI(d:Nat)(s:World):j8 d s none 0 0 []:=⟨rfl,ay _,O,λi x h=>by cases h⟩
def Uc(d:Nat)(s:World):jo d s none 0 0 []:=⟨rfl,ay _,O,λi x h=>by cases h⟩
def Ot(s:World):iO s none 0 0 []:=⟨rfl,ay _,O,λi x h=>by cases h⟩
def qEL(s:World):lX s none 0 0 []:=⟨rfl,ay _,O,λi x h=>by cases h⟩
def Nn:Ex:=.mk 5 0 0 [] []
def nX:Ex:=.mk 2 0 0 [110] []
def JQ:Ex:=.mk 7 4 0 [] [nX,.mk 1 0 2 [] []]
def SV:Ex:=.mk 7 10 0 [] [Nn,JQ]
def JY:Ex:=.mk 7 10 0 [] [Nn,.mk 1 0 6 [] []]
def nW:jc:=⟨jx.o,jx.funcs++[⟨[102],[],[],[]⟩]⟩
def mb:iM:=⟨mu,[],[],[.mk 7 [] [SV] [] []]⟩
def DE{k o n:Int}{m:Nat}(h:j8 d s A m c l)(hn:iQ n)(hl:nm.length<=1000):([iB k,iB o,iJ n,St nm,.slice A m c]:iz).length=5/\tP (d+1) s (.mk k o n nm l) [iB k,iB o,iJ n,St nm,.slice A m c]:=⟨rfl,A,m,c,rfl,h,hn,show nm.length<=9223372036854775807 by omega⟩
def qww{b6:Nat}(h1:iy s b1 0 [iB 2,iB 0,iJ 0,St [110],.slice none 0 0,iB 1,iB 0,iJ 2,St [],.slice none 0 0])
  (h2:iy s b2 0 [iB 5,iB 0,iJ 0,St [],.slice none 0 0,iB 7,iB 4,iJ 0,St [],.slice (jZ b1) 2 2])
  (h3:iy s b3 0 [iB 1,St [110],iJ 3,.slice none 0 0]) (h4:iy s b4 0 [iB 7,iB 10,iJ 0,St [],.slice (jZ b2) 2 2])
  (h5:iy s b5 0 [iB 7,St [],.slice (jZ b4) 1 1,.slice none 0 0,.slice none 0 0]) (h6:iy s b6 0 [St mu,.slice none 0 0,.slice none 0 0,.slice (jZ b5) 1 1]) :
  ja s (jZ b3) 1 1 jx.o/\jl 5 s (jZ b6) 1 1 jx.funcs:=by
 have z:iQ 0:=⟨Θ,Θ⟩;have e1:j8 2 s (jZ b1) 2 2 [nX,.mk 1 0 2 [] []]:=Sl.lit [[_,_,_,_,_],[_,_,_,_,_]] h1 rfl (.cons (DE (KI 1 s) z Dc) (.cons (DE (KI 1 s) ⟨Θ,Θ⟩ Dc) .nil)) 2 rfl O;have e2:j8 3 s (jZ b2) 2 2 [Nn,JQ]:=Sl.lit [[_,_,_,_,_],[_,_,_,_,_]] h2 rfl (.cons (DE (KI 2 s) z Dc) (.cons (DE e1 z Dc) .nil)) 2 rfl O;have e3:j8 4 s (jZ b4) 1 1 [SV]:=Sl.lit [[_,_,_,_,_]] h4 rfl (.cons (DE e2 z Dc) .nil) 1 rfl O;have e4:jo 5 s (jZ b5) 1 1 [.mk 7 [] [SV] [] []]:=Sl.lit [[_,_,_,_,_]] h5 rfl (.cons ⟨rfl,_,_,_,_,_,_,_,_,_,rfl,e3,Uc 4 s,Uc 4 s,Θ⟩ .nil) 1 rfl O;exact ⟨Sl.lit [[_,_,_,_]] h3 rfl (.cons ⟨rfl,_,_,_,rfl,qEL s,⟨Θ,Θ⟩,Θ⟩ .nil) 1 rfl O,
  Sl.lit [[_,_,_,_]] h6 rfl (.cons ⟨rfl,_,_,_,_,_,_,_,_,_,rfl,Ot s,Ot s,e4,Θ⟩ .nil) 1 rfl O⟩
def qDA(h1:iy s b1 0 [iB 5,iB 0,iJ 0,St [],.slice none 0 0,iB 1,iB 0,iJ 6,St [],.slice none 0 0])(h2:iy s b2 0 [iB 7,iB 10,iJ 0,St [],.slice (jZ b1) 2 2]):j8 3 s (jZ b2) 1 1 [JY]:=by
 have e1:j8 2 s (jZ b1) 2 2 [Nn,.mk 1 0 6 [] []]:=Sl.lit [[_,_,_,_,_],[_,_,_,_,_]] h1 rfl (.cons (DE (KI 1 s) ⟨Θ,Θ⟩ Dc) (.cons (DE (KI 1 s) ⟨Θ,Θ⟩ Dc) .nil)) 2 rfl O;exact Sl.lit [[_,_,_,_,_]] h2 rfl (.cons (DE e1 ⟨Θ,Θ⟩ Dc) .nil) 1 rfl O
def qtc{g:Nat}{A2 A3:iE}{c2 n3 c3:Nat}(h:iy s g 0 [St mu,.slice A1 n1 c1,.slice A2 n2 c2,.slice A3 n3 c3,St [102],.slice none 0 0,.slice none 0 0,.slice none 0 0])(h1:iO s A1 n1 c1 [])(h2:iO s A2 n2 c2 [])(h3:jo 5 s A3 n3 c3 mb.body)(hc:2<=c)(pt:c<=9223372036854775807):jl 5 s (jZ g) 2 c nW.funcs:=by
 have:=(Sl.lit (sz:=4) (R:=AT 5) (l:=nW.funcs) [[_,_,_,_],[_,_,_,_]] h rfl (.cons ⟨rfl,_,_,_,_,_,_,_,_,_,rfl,h1,h2,h3,Θ⟩ (.cons ⟨rfl,_,_,_,_,_,_,_,_,_,rfl,Ot s,Ot s,Uc 5 s,Θ⟩ .nil)) 2 rfl O);exact ⟨this.1,hc,pt,this.2.2.2⟩
def EZ:kG jx=(0,0):=by decide +kernel
def ZB:kG nW=(0,0):=by decide +kernel
def S0:yF jx 0 [110]=((3,0),(0,0)):=by decide +kernel
def Vp:GD jx=[mb]:=ak (by rw [EZ];decide)
def qLx:sU jx mb 4=[]:=by
 refine List.eq_nil_iff_forall_not_mem.2 λi hi=>?_;obtain ⟨nd,h1,h2⟩:=((Bw jx mb 4).2 i).1 hi;have:∀ nd∈ly mb.body 0,qq jx mb 4 nd=[]:=by decide +kernel
 rw [this nd h1] at h2;cases h2
def Vr:(tK jx).2=(0,0):=by decide +kernel
def qLv:(tK jx).1.funcs=[⟨mu,[],[],[.mk 7 [] [JY] [] []]⟩]:=by kernel_rfl
def Fz:(pm 11 2).1=0/\(pm 11 2).2=0/\qc 11 1 2=4294967295:=by decide +kernel
def Vt:(pm 6 0).1=26/\(pm 6 0).2=-3:=by decide +kernel
def Vs(h:CV nW q):q=jx:=by
 rcases h with ⟨h1,_⟩|⟨_,F,G,⟨hF,hG,mi,hm,hmi,hj,hg⟩,rfl⟩
 . rw [ZB] at h1;exact absurd rfl h1
 have h0:nM nW.funcs=0:=by decide +kernel
 obtain rfl:0=mi:=O
 obtain ⟨a,b,rfl⟩:∃ a b,F=[a,b]:=by match F,hF with|[a,b],_=>exact ⟨a,b,rfl⟩
 obtain ⟨c,rfl⟩:∃ c,G=[c]:=by match G,hG with|[c],_=>exact ⟨c,rfl⟩
 have ha:a=true:=by simpa using (hj 0).2 (.refl 0)
 have hb:b=false:=by
  cases hb:b with
  | false=>rfl
  | true=>
   have:=(hj 1).1 (by rw [hb];rfl);cases this with
   | step hc _=>
    obtain ⟨x,hx,hk⟩:=hc;obtain ⟨nd,h1,h2⟩:=((Bw nW x 4).2 _).1 hk;obtain rfl:mb=x:=cM hx;have:∀ nd∈ly mb.body 0,qq nW mb 4 nd=[]:=by decide +kernel
    rw [this nd h1] at h2;cases h2
 have hc:c=true:=by
  have:∃ nd∈ly mb.body 0,(0:Int)∈qq nW mb 3 nd:=by decide +kernel
  simpa using (hg 0).2 ⟨0,by rw [ha];rfl,mb,rfl,((Bw nW mb 3).2 _).2 this⟩
 subst ha hb hc;rfl
def qCd(h:jl 5 s A n c [⟨mu,[],[],[.mk 7 [] [JY] [] []]⟩]):n=1/\∃ b off A1 n1 c1 A2 n2 c2 b2 o2 c3,A=some ⟨b,off,none⟩/\iy s b (off+0 * 4) [St mu,.slice A1 n1 c1,.slice A2 n2 c2,.slice (some ⟨b2,o2,none⟩) 1 c3] /\
  ∃ A4 n4 c4 A5 n5 c5 A6 n6 c6,iy s b2 (o2+0 * 5) [iB 7,St [],.slice A4 n4 c4,.slice A5 n5 c5,.slice A6 n6 c6]/\j8 4 s A4 n4 c4 [JY]:=by
 have hn:n=1:=h.1;subst hn;obtain ⟨b,off,x,A1,n1,c1,A2,n2,c2,A3,n3,c3,rfl,hx,hc,_,_,hB,_⟩:=jl.at_ h (show 0 < 1 by decide);obtain rfl:=cM hx;have yp:n3=1:=hB.1;subst yp;obtain ⟨e,b2,o2,y,A4,n4,c4,A5,n5,c5,A6,n6,c6,he,rfl,hy,pt,hE,_,_,_⟩:=jo.at_ hB (show 0 < 1 by decide);obtain rfl:=cM hy;obtain rfl:4=e:=O
 exact ⟨rfl,b,off,A1,n1,c1,A2,n2,c2,b2,o2,c3,rfl,hc,A4,n4,c4,A5,n5,c5,A6,n6,c6,pt,hE⟩
def qsv{n:Int}:jT D 21 [iJ n] L s (.agg #[iB 1,iB 0,iJ n,St [],.slice none 0 0]):=by
 refine jn (fn:=f21) jb func21 V Z ntmps21 Z (rs:=[.cell 2 69]) Z [(0,_)] Z<|Sr<|jh Z [_,_,_,_,_] Y2 λβ1 s1 h1=>G5 ?_;refine iA (jB [(_,_),(_,_)] [_,_,_,_,_] Y3 Z Z Z) Z<|Wt 0 [_,_,_,_,_] Y9<|G3 ?_;exact rR [_] L (.agg (us:=[_,_,_,_,_]) 0 Z Z Z Z Z (.nil)) Z h1 λ_ iD=>qH
def qtb:pQ D 16 [] L s λv M' s'=>∀ s2,Le D s' s2->mI M' s2->∃ bg bf,v=.agg #[.slice (jZ bg) 1 1,.slice (jZ bf) 1 1]/\ja s2 (jZ bg) 1 1 jx.o/\jl 5 s2 (jZ bf) 1 1 jx.funcs:=by
 refine jn (fn:=f16) jb func16 V Z ntmps16 Z (rs:=[.cell 0 25]) Z [] Z<|Sr<|jh Z [_,_] Y2 λβ1 s1 h1=>Nt<|Sr<|iA (jB [(_,_),(_,_)] [_,_,_,_,_] Y3 Z Z Z) Z<|Je Y3 (qsv) λs2 h2=>lx [(_,_),(_,_)] [_,_,_,_,_,_,_,_,_,_] Y9 λβa s3 h3 vO=>iA (jB [(_,_),(_,_),(_,_)] [_,_,_,_,_] Y3 Z Z Z) Z<|jh Z [_,_,_,_,_] Y2 λt4 s4 h4=>Wt 0 [_,_,_,_,_] Y9<|Nt<|Sr<|iA (jB [(_,_)] [_,_,_,_,_] Y3 Z Z Z) Z<|iA (iZ 0 [_,_,_,_,_] Y5) Z<|lx [(_,_),(_,_)] [_,_,_,_,_,_,_,_,_,_] Y9 λβb s5 h5 p9=>iA (jB [(_,_),(_,_),(_,_)] [_,_,_,_,_] Y3 Z Z Z) Z<|jh Z [_,_,_,_,_] Y2 λt6 s6 h6=>Wt 0 [_,_,_,_,_] Y9<|Nt<|Sr<|iA (jB [(_,_),(_,_),(_,_)] [_,_,_,_] Y3 Z Z Z) Z<|lx [(_,_)] [_,_,_,_] Y9 λβc s7 h7 nS=>iA (iZ 0 [_,_,_,_,_] Y5) Z<|lx [(_,_)] [_,_,_,_,_] Y9 λβd s8 h8 je=>iA (jB [(_,_),(_,_)] [_,_,_,_,_] Y3 Z Z Z) Z<|lx [(_,_)] [_,_,_,_,_] Y9 λβe s9 h9 zW=>iA (jB [(_,_),(_,_)] [_,_,_,_] Y3 Z Z Z) Z<|lx [(_,_)] [_,_,_,_] Y9 λβf kH jG hcf=>iA (jB [(_,_),(_,_)] [_,_] Y3 Z Z Z) Z<|Wt 2 [_,_] Y9<|G3 ?_;exact rR [_,_,_] _ (.agg (us:=[_,_]) 2 Z Z Z Z Z (.nil)) Z Lc λ_ iD=>⟨[],rfl,λs2 j5 hp=>⟨_,_,rfl,qww Pz Pz Pz Pz Pz Pz⟩⟩
def B4:jU D 16 [] L s λv L' s'=>L=L'/\∃ bg bf,v=.agg #[.slice (jZ bg) 1 1,.slice (jZ bf) 1 1]/\ja s' (jZ bg) 1 1 jx.o/\jl 5 s' (jZ bf) 1 1 jx.funcs:=AC.pubW (qtb)
def smI:iG:=[32,21,28,7,2,0,1,30,9,2,3,9,2,2,13,11,31,2,0,29,1]
def SZ:sy jx=340:=by decide +kernel
def Sk:qs jx=(0,0):=by rw [qs,au (by rw [EZ]),ak (by rw [SZ];decide)]
def ZC:yP jx=cT (cP jx):=by rw [yP,au (by rw [EZ]),ak (by rw [SZ];decide)]
def qLw:0 < (yP jx).length:=by rw [ZC];decide +kernel
def ZD:vd jx=smI:=by rw [vd,au (by rw [Sk]),ZC];decide +kernel
def qLu:sx iW smI [65] 280=(([71],1,0,14),0,0):=by decide +kernel
def qsB(c:UInt8)(h:iy s b 0 [.int .u8 (c.toNat:Int)]):lP s (jZ b) 1 1 [c]:=qqY (l:=[c]) (yc:=[]) h rfl O
def quR(hA:ki s A n c iW.U)(hI:lX s A1 n1 c1 (vd jx))(hb:iy s b 0 [.int .u8 65]):jU D 10 [.agg #[iB 65536,.slice A n c],.slice A1 n1 c1,.slice (jZ b) 1 1,iB 280] L s λv L' s'=>L=L'/\∃ vs,sG s' ([71],1,0,14) vs/\v=.tuple #[vs,.agg #[iB 0,iB 0]]:=by
 have h:=s_ (D:=D) (L:=L) (s:=s) (t:=iW) (A:=A) (n:=n) (c:=c) hA (A1:=A1) (n1:=n1) (c1:=c1) (ZD▸hI) (A2:=(jZ b)) (n2:=1) (c2:=1) (i:=[65]) (qsB 65 hb) (k:=280);rw [qLu] at h;exact h
def quV(h1:lP s A1 n1 c1 [71])(h2:iy s b 0 [.int .u8 71]):jT D 12 [.slice A1 n1 c1,.slice (jZ b) 1 1] L s (.bool true):=by
 have h:=Z8 (D:=D) (L:=L) (s:=s) (A:=A1) (n:=n1) (c:=c1) h1 (A1:=(jZ b)) (n1:=1) (c1:=1) (l1:=[71]) (qsB 71 h2);rw [bL rfl] at h;exact h
def qvz(hG:GP s):jT D 4 [] L s (.bool true):=by
 refine jn (fn:=Tryz.f4) jb Tryz.func4 V Z Tryz.ntmps4 Z (rs:=[.tmp 0]) Z [] Z<|G7 ?_;refine Jc Y3 (B4) ?_;rintro _ _ s1 h1 ⟨rfl,bg1,bf1,rfl,hg1,hf1⟩;refine Je Y3 (qsn Pz 5 jx Pz Pz) λs2 h2=>G3 ?_;refine jh Z [_,_] Y2 λβ3 s3 h3=>mo Y2<|Wt 0 [_,_] Y9<|Nt<|Sr<|Jc Y3 (B4) ?_;rintro _ _ s4 h4 ⟨rfl,bg2,bf2,rfl,vP,hf2⟩;refine Je Y3 (qnQ D _ _ Pz 5 jx _ _ _ _ _ _ Pz Pz) λs5 h5=>G3 ?_;refine jh Z [_,_] Y2 λt6 s6 h6=>mo Y2<|Wt 0 [_,_] Y9<|Nt<|Sr<|Jc Y3 (B4) ?_;rintro _ _ s7 h7 ⟨rfl,bg3,bf3,rfl,hg3,xF⟩;refine Jc Y3 (NV Pz 5 jx Pz Pz) ?_;rintro _ _ s8 h8 ⟨rfl,Aw,nw,cw,rfl,hw⟩;refine G3 ?_;refine jh Z [_,_] Y2 λd9 s9 h9=>mo Y2<|Wt 0 [_,_] Y9<|Nt<|Sr<|Jc Y3 (Oy) ?_;rintro _ _ kH jG ⟨rfl,Ad1,nd1,cd1,rfl,hD1⟩;refine kb Y2<|lx [(_,_)] [_] Y9 λβi kz jM hci=>Jc Y3 (quR Pz Pz Pz) ?_;rintro _ _ kh jE ⟨rfl,_,⟨Ao,no,co,rfl,hO⟩,rfl⟩;refine G3 ?_;refine jh Z [_,_,_,_] Y2 λb13 lq kV=>jh Z [_,_] Y2 λb14 lG kI=>Wt 1 [_,_,_,_] Y9<|Wt 0 [_,_] Y9<|G5 ?_;refine Wl 4 Y6<|iA (kK (v':=.bool true) (uj Z Z) (bT (by rw [EZ]))) Z<|G4 ?_;refine Wl 3 Y6<|Zg Z Z<|iA (kK (v':=.bool true) (uj Z Z) (bT (by rw [Sk]))) Z<|G7 ?_;refine iA (kK (v':=.bool true) (uj Z Z) (bT (by rw [Sk]))) Z ?_;refine G7 ?_;refine iA (kK (v':=.bool true) (uj Z Z) (bT Z)) Z<|G5 ?_;refine iA (kK (v':=.bool true) (uj Z Z) (bT (by rw [au (by rw [EZ]),SZ]))) Z<|G5 ?_;refine DT Z Z Z Z<|Zg Z Z<|iA (kK (v':=.bool true) (Rt Z Z) (bT (by have:=qLw;omega))) Z<|G7 ?_;refine iA (kK (v':=.bool true) (Rt Z Z) (bT (by rw [hw.1,ZD];decide))) Z<|G7 ?_;refine lx [(_,_)] [_] Y9 λβj lW lQ hcj=>Zg Z Z<|Je Y3 (quV Pz Pz) λsB tu=>G7 ?_;refine iA (kK (v':=.bool true) (uj Z Z) (bT Z)) Z<|G7 ?_;refine iA (kK (v':=.bool true) (uj Z Z) (bT Z)) Z<|G5 ?_;exact rX [_,_,_,_,_] L Z Lc λ_ iD=>qH
end
section
variable{α β:Type}{st v:Int}{f:iM}{x:Ex}
structure MS where
 glo:iG
 ae:List iG
 frm:iG
 inp:iH
 left:Nat
 calls:Nat
 out:iH
variable{m:MS}
inductive ER(α:Type) where
 | ok (a:α) (m:MS)
 | fin (m:MS) (st cd:Int)
 | out
def ER.and:ER α->(α->MS->ER β)->ER β
 | .ok a m,k=>k a m
 | .fin m st cd,_=>.fin m st cd
 | .out,_=>.out
structure Sem where
 e:iM->Ex->MS->ER Int
 c:Nat->iG->MS->ER Int
 t:iM->iP->MS->ER (Int×Int)
 w:iM->Ex->List iP->MS->ER (Int×Int)
variable{S:Sem}
def rp(m:MS):ER Unit:=if m.left=0 then .fin m 0 0 else .ok () { m with left:=m.left - 1 }
def EL:Ex:=.mk 0 0 0 [] []
def kP(l:List Ex)(i:Nat):Ex:=l.getD i EL
def k8(f:iM)(nm:iH):Int:=if 0<=j6 (λy=>decide (nm=y)) f.params 0 then j6 (λy=>decide (nm=y)) f.params 0 else if 0<=j6 (λy=>decide (nm=y)) f.locals 0 then (f.params.length:Int)+j6 (λy=>decide (nm=y)) f.locals 0 else -1
def mS(p:jc)(nm:iH):Int:=j6 (λg=>decide (g.name=nm)) p.o 0
def r9(p:jc)(nm:iH):Int:=j6 (λg=>decide (g.name=nm)) p.funcs 0
def Nc:jv:=⟨0,[],0,[]⟩
def xb(p:jc)(f:iM)(nm:iH)(m:MS):Int:=
 if 0<=k8 f nm then m.frm.getD (k8 f nm).toNat 0
 else if (p.o.getD (mS p nm).toNat Nc).kind=1 then (p.o.getD (mS p nm).toNat Nc).num
 else m.glo.getD (mS p nm).toNat 0
def tO(p:jc)(f:iM)(nm:iH)(v:Int)(m:MS):MS:=
 if 0<=k8 f nm then { m with frm:=m.frm.set (k8 f nm).toNat v } else { m with glo:=m.glo.set (mS p nm).toNat v }
def nn(E:Ex->MS->ER Int):List Ex->MS->ER iG
 | [],m=>.ok [] m
 | x::r,m=>(E x m).and λv m=>(nn E r m).and λvs m=>.ok (v::vs) m
def mh(T:iP->MS->ER (Int×Int)):List iP->MS->ER (Int×Int)
 | [],m=>.ok (0,0) m
 | x::r,m=>(T x m).and λy m=>if y.1=0 then mh T r m else .ok y m
def o7(n:Nat)(l:iG):iG:=l.take n++List.replicate (n - l.length) 0
def yJ(m:MS):ER Int:=match m.inp with
 | []=>.ok 4294967295 m
 | c::r=>.ok (c.toNat:Int) { m with inp:=r }
section
variable(p:jc)(OP:Int->Int->Int->Option Int)
def ns(nm:iH)(m:MS):iG:=m.ae.getD (mS p nm).toNat []
def vX(S:Sem)(f:iM)(x:Ex)(m:MS):ER Int:=
 if x.kind=1 then .ok x.num m
 else if x.kind=2 then .ok (xb p f x.name m) m
 else if x.kind=3 then (S.e f (kP x.args 0) m).and λi m=>if ((ns p x.name m).length:Int)<=i then .fin m 1 1 else .ok ((ns p x.name m).getD i.toNat 0) m
 else if x.kind=4 then (nn (S.e f) x.args m).and λvs m=>S.c (r9 p x.name).toNat vs m
 else if x.kind=5 then yJ m
 else if x.kind=6 then (S.e f (kP x.args 0) m).and λa m=>.ok ((OP x.op a 0).getD 0) m
 else (S.e f (kP x.args 0) m).and λa m=>if x.op=20/\a=0 then .ok 0 m else if x.op=21/\a≠0 then .ok 1 m
  else (S.e f (kP x.args 1) m).and λb m=>match OP x.op a b with|some v=>.ok v m|none=>.fin m 1 2
def sX(S:Sem)(f:iM)(x:iP)(m:MS):ER (Int×Int):=
 if x.kind=1 then (S.e f (kP x.exprs 0) m).and λv m=>.ok (0,0) (tO p f x.name v m)
 else if x.kind=2 then (S.e f (kP x.exprs 0) m).and λi m=>if ((ns p x.name m).length:Int)<=i then .fin m 1 1
  else (S.e f (kP x.exprs 1) m).and λv m=>.ok (0,0) { m with ae:=m.ae.set (mS p x.name).toNat ((ns p x.name m).set i.toNat v) }
 else if x.kind=3 then (S.e f (kP x.exprs 0) m).and λv m=>if v≠0 then mh (S.t f) x.body m else mh (S.t f) x.els m
 else if x.kind=4 then S.w f (kP x.exprs 0) x.body m
 else if x.kind=5 then (nn (S.e f) x.exprs m).and λvs m=>(S.c (r9 p x.name).toNat vs m).and λ_ m=>.ok (0,0) m
 else if x.kind=6 then (S.e f (kP x.exprs 0) m).and λv m=>.ok (3,v) m
 else if x.kind=7 then (S.e f (kP x.exprs 0) m).and λv m=>if 20000<=m.out.length then .fin m 5 0 else .ok (0,0) { m with out:=m.out++[UInt8.ofNat v.toNat] }
 else if x.kind=8 then (S.e f (kP x.exprs 0) m).and λv m=>.fin m 1 v
 else if x.kind=9 then .ok (1,0) m
 else .ok (2,0) m
def pG:iM:=⟨[],[],[],[]⟩
def cX(S:Sem)(i:Nat)(vs:iG)(m:MS):ER Int:=
 if m.calls=100 then .fin m 1 3
 else (mh (S.t (p.funcs.getD i pG)) (p.funcs.getD i pG).body { m with frm:=o7 ((p.funcs.getD i pG).params.length+(p.funcs.getD i pG).locals.length) vs,calls:=m.calls+1 }).and
  λy m1=>.ok (if y.1=3 then y.2 else 0) { m1 with frm:=m.frm,calls:=m.calls }
def wX(S:Sem)(f:iM)(c:Ex)(b:List iP)(m:MS):ER (Int×Int):=
 (S.e f c m).and λv m=>if v=0 then .ok (0,0) m else (mh (S.t f) b m).and λy m=>if y.1=1 then .ok (0,0) m else if y.1=3 then .ok y m else S.w f c b m
def iS:Nat->Sem
 | 0=>⟨λ_ _ _=>.out,λ_ _ _=>.out,λ_ _ _=>.out,λ_ _ _ _=>.out⟩
 | n+1=>⟨λf x m=>(rp m).and λ_ m=>vX p OP (iS n) f x m,λi vs m=>cX p (iS n) i vs m,λf x m=>(rp m).and λ_ m=>sX p (iS n) f x m,λf c b m=>wX (iS n) f c b m⟩
def qD(inp:iH)(ka:Nat):MS:=⟨List.replicate p.o.length 0,p.o.map λg=>if g.kind=3 then o7 g.num.toNat g.init else [],[],inp,ka,0,[]⟩
def xZ(ka:Nat):ER Int->iH×Int×Int×Nat
 | .ok _ m=>(m.out,1,0,ka - m.left)
 | .fin m st cd=>(m.out,st,cd,ka - m.left)
 | .out=>([],0,0,0)
def yH(n main:Nat)(inp:iH)(ka:Nat):ER Int:=(iS p OP n).c main [] (qD p inp ka)
end
-- what every part keeps: what was written stays, no step is given back
def Kp(m:MS):ER α->Prop
 | .ok _ m1=>m1.left<=m.left/\∃ w,m1.out=m.out++w
 | .fin m1 _ _=>m1.left<=m.left/\∃ w,m1.out=m.out++w
 | .out=>True
def Kp.and{r:ER α}{k:α->MS->ER β}(h:Kp m r)(hk:∀ a m1,Kp m1 (k a m1)):Kp m (r.and k):=by
 cases r with
 | out=>trivial
 | fin m1 st cd=>exact h
 | ok a m1=>
  have h2:=hk a m1;obtain ⟨h3,w,h4⟩:=h;show Kp m (k a m1);cases hr:k a m1 with
  | out=>trivial
  | fin m2 st cd=>rw [hr] at h2;obtain ⟨h5,v,h6⟩:=h2;exact ⟨O,w++v,by rw [h6,h4,am]⟩
  | ok b m2=>rw [hr] at h2;obtain ⟨h5,v,h6⟩:=h2;exact ⟨O,w++v,by rw [h6,h4,am]⟩
def Kp.rfl_ok{a:α}:Kp m (.ok a m):=⟨ay _,[],Ξ⟩
def Kp.rfl_fin:Kp m (.fin m st cd:ER α):=⟨ay _,[],Ξ⟩
def qzE(m:MS):Kp m (rp m):=by
 unfold rp;split
 . exact Kp.rfl_fin
 . exact ⟨by show m.left - 1<=m.left;omega,[],Ξ⟩
def Pd{E:Ex->MS->ER Int}(hE:∀ x m,Kp m (E x m)):∀ (l:List Ex) (m:MS),Kp m (nn E l m)
 | [],m=>by rw [nn];exact Kp.rfl_ok
 | x::r,m=>by rw [nn];exact (hE x m).and λv m1=>(Pd hE r m1).and λ_ _=>Kp.rfl_ok
def Ft{T:iP->MS->ER (Int×Int)}(hT:∀ x m,Kp m (T x m)):∀ (l:List iP) (m:MS),Kp m (mh T l m)
 | [],m=>by rw [mh];exact Kp.rfl_ok
 | x::r,m=>by
  rw [mh];refine (hT x m).and λy m1=>?_;split
  . exact Ft hT r m1
  . exact Kp.rfl_ok
section
variable{OP:Int->Int->Int->Option Int}
def Jq(S:Sem):Prop:=(∀ f x m,Kp m (S.e f x m))/\(∀ i vs m,Kp m (S.c i vs m))/\(∀ f x m,Kp m (S.t f x m))/\∀ f c b m,Kp m (S.w f c b m)
def Sg(hS:Jq S)(f:iM)(x:Ex)(m:MS):Kp m (vX p OP S f x m):=by
  obtain ⟨hE,hC,hT,hW⟩:=hS;unfold vX;split
  . exact Kp.rfl_ok
  split
  . exact Kp.rfl_ok
  split
  . refine (hE _ _ _).and λi m=>?_
    split
    . exact Kp.rfl_fin
    . exact Kp.rfl_ok
  split
  . exact (Pd (hE f) _ _).and λvs m=>hC _ _ _
  split
  . unfold yJ;split
    . exact Kp.rfl_ok
    . exact ⟨ay _,[],Ξ⟩
  split
  . exact (hE _ _ _).and λa m=>Kp.rfl_ok
  . refine (hE _ _ _).and λa m=>?_
    split
    . exact Kp.rfl_ok
    split
    . exact Kp.rfl_ok
    . refine (hE _ _ _).and λb m=>?_
      split
      . exact Kp.rfl_ok
      . exact Kp.rfl_fin
def qLb(hS:Jq S)(i:Nat)(vs:iG)(m:MS):Kp m (cX p S i vs m):=by
  obtain ⟨hE,hC,hT,hW⟩:=hS;have hR:=λf=>Ft (T:=S.t f) (hT f);unfold cX;split
  . exact Kp.rfl_fin
  . have h:=(hR (p.funcs.getD i pG) (p.funcs.getD i pG).body { m with frm:=o7 ((p.funcs.getD i pG).params.length+(p.funcs.getD i pG).locals.length) vs,calls:=m.calls+1 })
    exact Kp.and (m:=m) (by
      revert h;generalize mh (S.t (p.funcs.getD i pG)) _ _=r;intro h;cases r with
      | out=>trivial
      | ok a m1=>exact h
      | fin m1 st cd=>exact h) λy m1=>⟨ay _,[],Ξ⟩
def ZF(hS:Jq S)(f:iM)(x:iP)(m:MS):Kp m (sX p S f x m):=by
  obtain ⟨hE,hC,hT,hW⟩:=hS;have hR:=λf=>Ft (T:=S.t f) (hT f);unfold sX;split
  . refine (hE _ _ _).and λv m=>?_
    unfold tO;split<;>exact ⟨ay _,[],Ξ⟩
  split
  . refine (hE _ _ _).and λi m=>?_
    split
    . exact Kp.rfl_fin
    . exact (hE _ _ _).and λv m=>⟨ay _,[],Ξ⟩
  split
  . refine (hE _ _ _).and λv m=>?_
    split
    . exact hR f _ _
    . exact hR f _ _
  split
  . exact hW _ _ _ _
  split
  . exact (Pd (hE f) _ _).and λvs m=>(hC _ _ _).and λ_ m=>Kp.rfl_ok
  split
  . exact (hE _ _ _).and λv m=>Kp.rfl_ok
  split
  . refine (hE _ _ _).and λv m=>?_
    split
    . exact Kp.rfl_fin
    . exact ⟨ay _,_,rfl⟩
  split
  . exact (hE _ _ _).and λv m=>Kp.rfl_fin
  split
  . exact Kp.rfl_ok
  . exact Kp.rfl_ok
def qLc(hS:Jq S)(f:iM)(c:Ex)(b:List iP)(m:MS):Kp m (wX S f c b m):=by
  obtain ⟨hE,hC,hT,hW⟩:=hS;have hR:=λf=>Ft (T:=S.t f) (hT f);unfold wX;refine (hE _ _ _).and λv m=>?_;split
  . exact Kp.rfl_ok
  . refine (hR f _ _).and λy m=>?_
    split
    . exact Kp.rfl_ok
    split
    . exact Kp.rfl_ok
    . exact hW _ _ _ _
def Fk:∀ n,Jq (iS p OP n)
 | 0=>⟨λ_ _ _=>trivial,λ_ _ _=>trivial,λ_ _ _=>trivial,λ_ _ _ _=>trivial⟩
 | n+1=>⟨λf x m=>(qzE m).and λ_ m=>Sg (Fk n) f x m,λi vs m=>qLb (Fk n) i vs m,λf x m=>(qzE m).and λ_ m=>ZF (Fk n) f x m,λf c b m=>qLc (Fk n) f c b m⟩
end
def oD(d:Nat)(m:MS):MS:={ m with left:=m.left+d }
def Aft(d:Nat)(m:MS):ER α->Prop
 | .ok _ m2=>m2.left<=d/\∃ w,m2.out=m.out++w
 | .fin m2 _ _=>m2.left<=d/\∃ w,m2.out=m.out++w
 | .out=>True
def Mo(d:Nat)(r r':ER α):Prop:=match r with
 | .out=>True
 | .ok a m=>r'=.out\/r'=.ok a (oD d m)
 | .fin m st cd=>r'=.out\/(st≠0/\r'=.fin (oD d m) st cd)\/(st=0/\m.left=0/\Aft d m r')
section
variable{OP:Int->Int->Int->Option Int}
def No(B:Nat)(r:ER α):Prop:=match r with
 | .out=>False
 | .ok _ m=>m.left<=B
 | .fin _ _ _=>True
def No.and{r:ER α}{k:α->MS->ER β}(h:No B r)(hk:∀ a m,m.left<=B->No C (k a m)):No C (r.and k):=by
 cases r with
 | out=>exact h.elim
 | ok a m=>exact hk a m h
 | fin m st cd=>trivial
def No.up{r:ER α}(h:No B r)(hB:B<=C):No C r:=by
 cases r with
 | out=>exact h.elim
 | ok a m=>exact ea h hB
 | fin m st cd=>trivial
def qzI{B:Nat}{E:Ex->MS->ER Int}(hE:∀ x m,m.left<=B->No m.left (E x m)):∀ (l:List Ex) (m:MS),m.left<=B->No m.left (nn E l m)
 | [],m,_=>by rw [nn];exact ay _
 | x::r,m,h=>by
  rw [nn];exact (hE x m h).and λv m1 h1=>(qzI hE r m1 O).and λ_ m2 h2=>ea h2 h1
def qzJ{B:Nat}{T:iP->MS->ER (Int×Int)}(hT:∀ x m,m.left<=B->No m.left (T x m)):∀ (l:List iP) (m:MS),m.left<=B->No m.left (mh T l m)
 | [],m,_=>by rw [mh];exact ay _
 | x::r,m,h=>by
  rw [mh];refine (hT x m h).and λy m1 h1=>?_;split
  . exact (qzJ hT r m1 O).up h1
  . exact h1
def KV:∀ n,(∀ f x m,2 * m.left < n->No (m.left - 1) ((iS p OP n).e f x m))/\(∀ i vs m,2 * m.left+1 < n->No m.left ((iS p OP n).c i vs m))/\(∀ f x m,2 * m.left < n->No (m.left - 1) ((iS p OP n).t f x m))/\∀ f c b m,2 * m.left+1 < n->No m.left ((iS p OP n).w f c b m)
  | 0=>⟨λ_ _ _ h=>O,λ_ _ _ h=>O,λ_ _ _ h=>O,λ_ _ _ _ h=>O⟩
  | n+1=>by
    obtain ⟨hE,hC,hT,hW⟩:=KV n;have zU:∀ f x m,2 * m.left < n->No m.left ((iS p OP n).e f x m):=λf x m h=>(hE f x m h).up O;have hA:∀ f (l:List Ex) (m:MS),2 * m.left < n->No m.left (nn ((iS p OP n).e f) l m):=λf l m h=>qzI (B:=m.left) (λx m1 h1=>zU f x m1 O) l m (ay _);have hR:∀ f (l:List iP) (m:MS),2 * m.left < n->No m.left (mh ((iS p OP n).t f) l m):=λf l m h=>qzJ (B:=m.left) (λx m1 h1=>(hT f x m1 O).up O) l m (ay _);have hS:∀ m:MS,2 * m.left < n+1->∀ {α:Type} {k:Unit->MS->ER α},(∀ a m1,m1.left=m.left - 1->2 * m1.left+1 < n->No m1.left (k a m1))->No (m.left - 1) ((rp m).and k):=λm h α k hk=>by
      unfold rp;split
      . trivial
      . rename_i h0
        exact hk () { m with left:=m.left - 1 } rfl (by show 2 * (m.left - 1)+1 < n;omega)
    refine ⟨λf x m h=>hS m h λ_ m1 _ h1=>?_,λi vs m h=>?_,λf x m h=>hS m h λ_ m1 _ h1=>?_,λf c b m h=>?_⟩
    . clear h
      unfold vX;split
      . exact ay _
      split
      . exact ay _
      split
      . refine (zU _ _ _ O).and λi m h2=>?_
        split
        . trivial
        . exact h2
      split
      . exact (hA _ _ _ O).and λvs m h2=>(hC _ _ _ O).up h2
      split
      . unfold yJ;split<;>exact ay _
      split
      . exact (zU _ _ _ O).and λa m h2=>h2
      . refine (zU _ _ _ O).and λa m h2=>?_
        split
        . exact h2
        split
        . exact h2
        . refine (zU _ _ _ O).and λb m h3=>?_
          split
          . exact ea h3 h2
          . trivial
    . show No m.left (cX p (iS p OP n) i vs m)
      unfold cX;split
      . trivial
      . exact (hR _ _ { m with frm:=o7 ((p.funcs.getD i pG).params.length+(p.funcs.getD i pG).locals.length) vs,calls:=m.calls+1 } (by show 2 * m.left < n;omega)).and λy m1 h1=>h1
    . clear h
      unfold sX;split
      . refine (zU _ _ _ O).and λv m h2=>?_
        unfold tO;split<;>exact h2
      split
      . refine (zU _ _ _ O).and λi m h2=>?_
        split
        . trivial
        . exact (zU _ _ _ O).and λv m h3=>ea h3 h2
      split
      . refine (zU _ _ _ O).and λv m h2=>?_
        split
        . exact (hR _ _ _ O).up h2
        . exact (hR _ _ _ O).up h2
      split
      . exact hW _ _ _ _ O
      split
      . exact (hA _ _ _ O).and λvs m h2=>(hC _ _ _ O).and λ_ m h3=>ea h3 h2
      split
      . exact (zU _ _ _ O).and λv m h2=>h2
      split
      . refine (zU _ _ _ O).and λv m h2=>?_
        split
        . trivial
        . exact h2
      split
      . exact (zU _ _ _ O).and λv m h2=>trivial
      split
      . exact ay _
      . exact ay _
    . show No m.left (wX (iS p OP n) f c b m)
      unfold wX;rcases eY m.left with h0|h0
      .
        have:∀ v m1,(iS p OP n).e f c m=.ok v m1->False:=by
          intro v m1 he;cases n with
          | zero=>cases he
          | succ n=>
            have e:(iS p OP (n+1)).e f c m=.fin m 0 0:=by show (rp m).and _=_;rw [rp,au h0];rfl
            rw [e] at he;cases he
        have hn:=hE f c m O;cases hr:(iS p OP n).e f c m with
        | out=>rw [hr] at hn;exact hn.elim
        | fin m1 st cd=>trivial
        | ok v m1=>exact (this v m1 hr).elim
      . refine (hE f c m O).and λv m1 h1=>?_
        split
        . show m1.left<=m.left;omega
        . refine (hR f b m1 O).and λy m2 h2=>?_
          split
          . show m2.left<=m.left;omega
          split
          . show m2.left<=m.left;omega
          . exact (hW f c b m2 O).up O
end
def iV(op x y:Int):Option Int:=if (pm op y).1=0 then some (qc op x y) else none
def Jm(m:MS):ER α->Prop
 | .ok _ m2=>∃ w,m2.out=m.out++w
 | .fin m2 _ _=>∃ w,m2.out=m.out++w
 | .out=>True
def Fo(d:Nat)(r r':ER α):Prop:=match r with
 | .out=>True
 | .ok a m=>∃ e,d<=e/\r'=.ok a (oD e m)
 | .fin m st cd=>(st≠0/\∃ e,d<=e/\r'=.fin (oD e m) st cd)\/(st=0/\Jm m r')
def Fo.ok{a:α}:Fo d (.ok a m) (.ok a (oD d m)):=⟨d,ay _,rfl⟩
def Fo.fin(h:st≠0):Fo d (.fin m st cd:ER α) (.fin (oD d m) st cd):=.inl ⟨h,d,ay _,rfl⟩
def Fo.le{e:Nat}{r r':ER α}(h:Fo e r r')(hd:d<=e):Fo d r r':=by
 cases r with
 | out=>trivial
 | ok a m=>obtain ⟨g,h1,h2⟩:=h;exact ⟨g,O,h2⟩
 | fin m st cd=>
  rcases h with ⟨h0,g,h1,h2⟩|h
  . exact .inl ⟨h0,g,O,h2⟩
  . exact .inr h
def Jm.and{r:ER α}{k:α->MS->ER β}(h:Jm m r)(hk:∀ a m,Kp m (k a m)):Jm m (r.and k):=by
 cases r with
 | out=>trivial
 | fin m1 st cd=>exact h
 | ok a m1=>
  obtain ⟨w,h2⟩:=h;have h3:=hk a m1;show Jm m (k a m1);cases hr:k a m1 with
  | out=>trivial
  | fin m2 st cd=>rw [hr] at h3;obtain ⟨h4,v,h5⟩:=h3;exact ⟨w++v,by rw [h5,h2,am]⟩
  | ok b m2=>rw [hr] at h3;obtain ⟨h4,v,h5⟩:=h3;exact ⟨w++v,by rw [h5,h2,am]⟩
def Fo.and{r r':ER α}{k k':α->MS->ER β}(h:Fo d r r')(hk:∀ a m e,d<=e->Fo e (k a m) (k' a (oD e m)))(hp:∀ a m,Kp m (k' a m)):Fo d (r.and k) (r'.and k'):=by
 cases r with
 | out=>trivial
 | ok a m=>
  obtain ⟨e,h1,rfl⟩:=h;exact (hk a m e h1).le h1
 | fin m st cd=>
  rcases h with ⟨h0,e,h1,rfl⟩|⟨h0,h1⟩
  . exact .inl ⟨h0,e,h1,rfl⟩
  . exact .inr ⟨h0,h1.and hp⟩
def UV(d:Nat)(m:MS):Fo d (rp m) (rp (oD d m)):=by
  unfold rp;split
  . rename_i h
    refine .inr ⟨Z,?_⟩;split
    . exact ⟨[],by simp [oD]⟩
    . exact ⟨[],by simp [oD]⟩
  . rename_i h
    rw [ak (by show ¬ m.left+d=0;omega)];refine ⟨d,ay _,?_⟩;have:m.left+d - 1=m.left - 1+d:=O
    show ER.ok () { oD d m with left:=m.left+d - 1 }=.ok () (oD d { m with left:=m.left - 1 });rw [this];rfl
def zO(v:Int)(m:MS):ER Int->Prop
 | .out=>True
 | .ok a m2=>a=v/\∃ e,m=oD e m2
 | .fin m2 st _=>st=0/\∃ w,m.out=m2.out++w
def zO.and{c:Int}{r:ER Int}{k:Int->MS->ER Int}(h:zO c m r)(hk:∀ m2,zO v m2 (k c m2)):zO v m (r.and k):=by
 cases r with
 | out=>trivial
 | fin m2 st cd=>exact h
 | ok a m2=>
  obtain ⟨rfl,e,rfl⟩:=h;have h3:=hk m2;show zO v _ (k a m2);cases hr:k a m2 with
  | out=>trivial
  | fin m3 st cd=>rw [hr] at h3;exact h3
  | ok b m3=>rw [hr] at h3;obtain ⟨h4,g,h5⟩:=h3;exact ⟨h4,g+e,by rw [h5];simp only [oD,dA]⟩
def zO.fo{r:ER Int}(h:zO v m r):Fo d r (.ok v (oD d m)):=by
 cases r with
 | out=>trivial
 | ok a m2=>obtain ⟨rfl,e,rfl⟩:=h;exact ⟨e+d,O,by simp only [oD,dA]⟩
 | fin m2 st cd=>obtain ⟨h0,w,hw⟩:=h;exact .inr ⟨h0,w,hw⟩
section
def V_{α β:Type}{g:α->β}{q:β->Bool}:∀ {l:List α} {k:Nat},j6 q (l.map g) k=j6 (λx=>q (g x)) l k
 | [],_=>rfl
 | x::r,k=>by rw [aN,j6,j6,V_]
def qlh(nm:iH):r9 (li p) nm=r9 p nm:=by
 show j6 _ (p.funcs.map (ot p)) 0=_;rw [V_];rfl
def qvp(i:Nat):(li p).funcs.getD i pG=ot p (p.funcs.getD i pG):=by
 show (p.funcs.map (ot p)).getD i pG=_;rw [aG,aG,bQ];cases p.funcs[i]?<;>rfl
def qKS(f:iM):qS p f EL=EL:=by
 have h:nH p f (EL.withA (mH p f EL.args))=none:=by unfold nH EL;simp [Ex.withA,Ex.kind]
 rw [Ge h];rfl
def D_(f:iM)(l:List Ex)(i:Nat):kP (mH p f l) i=qS p f (kP l i):=by
 unfold kP;rw [Gf,aG,aG,bQ];cases l[i]? with
 | none=>exact (qKS f).symm
 | some x=>rfl
def Jn(p:jc)(S S':Sem):Prop:=(∀ f x d m,Fo d (S.e f x m) (S'.e (ot p f) (qS p f x) (oD d m)))/\(∀ i vs d m,Fo d (S.c i vs m) (S'.c i vs (oD d m)))/\(∀ f x d m,Fo d (S.t f x m) (S'.t (ot p f) (xA p f x) (oD d m)))/\∀ f c b d m,Fo d (S.w f c b m) (S'.w (ot p f) (qS p f c) (rF p f b) (oD d m))
def UU{E E':Ex->MS->ER Int}{F:Ex->Ex}(hE:∀ x d m,Fo d (E x m) (E' (F x) (oD d m)))(hK:∀ x m,Kp m (E' x m)):∀ (l:List Ex) (d:Nat) (m:MS),Fo d (nn E l m) (nn E' (l.map F) (oD d m))
 | [],d,m=>by rw [dE,nn,nn];exact Fo.ok
 | x::r,d,m=>by
  rw [aN,nn,nn];exact (hE x d m).and (λv m1 e _=>(UU hE hK r e m1).and (λ_ _ _ _=>Fo.ok) λ_ _=>Kp.rfl_ok) λv m1=>(Pd hK _ m1).and λ_ _=>Kp.rfl_ok
def Pa{T T':iP->MS->ER (Int×Int)}{F:iP->iP}(hT:∀ x d m,Fo d (T x m) (T' (F x) (oD d m)))(hK:∀ x m,Kp m (T' x m)):∀ (l:List iP) (d:Nat) (m:MS),Fo d (mh T l m) (mh T' (l.map F) (oD d m))
  | [],d,m=>by rw [dE,mh,mh];exact Fo.ok
  | x::r,d,m=>by
    rw [aN,mh,mh];refine (hT x d m).and (λy m1 e _=>?_) λy m1=>?_
    . split
      . exact Pa hT hK r e m1
      . exact Fo.ok
    . split
      . exact Ft hK _ m1
      . exact Kp.rfl_ok
def qHV(d:Nat)(m:MS):Fo d (yJ m) (yJ (oD d m)):=by
 obtain ⟨g,a,f,inp,l,c,o⟩:=m;cases inp<;>exact ⟨d,ay _,rfl⟩
def qDd(hx:x.kind=1)(m:MS):(iS (li p) iV (n+1)).e f x m=if m.left=0 then .fin m 0 0 else .ok x.num { m with left:=m.left - 1 }:=by
  show (rp m).and (λ_ m=>vX (li p) iV (iS (li p) iV n) f x m)=_;unfold rp;split
  . rfl
  . show vX _ _ _ _ _ _=_
    rw [vX,au hx]
def U3(hS:Jn p (iS p iV n) (iS (li p) iV n))(hx:(qS p f x).kind=1)(m:MS):zO (qS p f x).num m ((iS p iV n).e f x m):=by
  have h:=hS.1 f x 0 m;cases n with
  | zero=>trivial
  | succ n=>
    rw [qDd hx] at h;have e0:oD 0 m=m:=rfl;rw [e0] at h;cases hr:(iS p iV (n+1)).e f x m with
    | out=>trivial
    | ok a m2=>
      rw [hr] at h;obtain ⟨e,_,h2⟩:=h;split at h2
      . cases h2
      . rename_i h0
        injection h2 with h2 h3;refine ⟨h2.symm,e+1,?_⟩;obtain ⟨g1,a1,f1,i1,l1,c1,o1⟩:=m;simp only [oD,MS.mk.injEq] at h3 h0 ⊢;obtain ⟨q1,q2,q3,q4,q5,q6,q7⟩:=h3;exact ⟨q1,q2,q3,q4,O,q6,q7⟩
    | fin m2 st cd=>
      rw [hr] at h;rcases h with ⟨h1,e,_,h2⟩|⟨h1,h2⟩
      . split at h2
        . injection h2 with _ h3 _;exact absurd h3.symm h1
        . cases h2
      . refine ⟨h1,?_⟩
        split at h2
        . exact h2
        . exact h2
def qvJ{i:Int}(h1:(j7 p f nm).1.1=3)(h2:zK p (j7 p f nm).1.2=1)(m:MS):xb p f nm m=Gw p (j7 p f nm).1.2:=by
 unfold j7 at h1 h2 ⊢;split at h1
 . cases h1
 rename_i k1;rw [ak k1] at h2 ⊢;split at h1
 . cases h1
 rename_i k2;rw [ak k2] at h2 ⊢;cases hf:(jY p).find? λe=>decide (e.1=nm) with
 | none=>rw [hf] at h1;cases h1
 | some e=>
  rw [hf] at h1 h2;simp only at h1 h2 ⊢;have hs:¬ 0<=k8 f nm:=by rw [k8,ak k1,ak k2];decide
  have hg:∃ k:Nat,e.2=((3:Int),(k:Int))/\mS p nm=(k:Int)/\k < p.o.length:=by
   rw [jY,ff] at hf;cases hg:(p.o.mapIdx λi g=>(g.name,((3:Int),(i:Int)))).find? λe=>decide (e.1=nm) with
   | none=>
    rw [hg] at hf;have:=cJ hf;obtain ⟨i,hi⟩:=bh this;rw [da] at hi;cases hq:p.funcs[i]? with
    | none=>rw [hq] at hi;cases hi
    | some y=>rw [hq] at hi;simp at hi;rw [<- hi] at h1;cases h1
   | some e'=>
    rw [hg] at hf;obtain rfl:e'=e:=by simpa using hf
    obtain ⟨hp,i,hi,he,kZ⟩:=List.find?_eq_some_iff_getElem.1 hg;rw [List.getElem_mapIdx] at he;have hl:i < p.o.length:=by simpa using hi
    refine ⟨i,by rw [<- he],?_,hl⟩;have:=F8 (p:=λg:jv=>decide (g.name=nm)) (l:=p.o) (k:=i) (j:=0) (a:=p.o[i]) (λj b hj hb=>by
     obtain ⟨pr,rfl⟩:=al.1 hb;have:=kZ j hj;rw [List.getElem_mapIdx] at this;simpa using this) (ap hl) (by rw [<- he] at hp;simpa using hp)
    rw [mS,this];simp
  obtain ⟨k,e1,e2,e3⟩:=hg;rw [e1] at h2 ⊢;have ri:=BE (p:=p) (ap e3);have hgn:=T_ (p:=p) (ap e3);rw [xb,ak hs,e2,aD,aG,ap e3];simp only [dY];rw [au (by rw [<- ri];exact h2),hgn]
def qLh(h:x.kind=2):nH p f x=if (j7 p f x.name).1.1=3/\zK p (j7 p f x.name).1.2=1 then some (Gw p (j7 p f x.name).1.2) else none:=by rw [nH,au h]
theorem qLg(h2:¬ x.kind=2)(h6:¬ x.kind=6)(h7:¬ x.kind=7):nH p f x=none:=by grind [nH]
def qIo(h2:¬ x.kind=2)(h6:x.kind=6)(ha:x.args=[]):nH p f x=none:=by rw [nH,ak h2,au h6,ha]
def qzL(h2:¬ x.kind=2)(h6:¬ x.kind=6)(h7:x.kind=7)(ha:x.args=[]\/∃ a,x.args=[a]):nH p f x=none:=by
 rw [nH,ak h2,ak h6,au h7];rcases ha with ha|⟨a,ha⟩<;>rw [ha]
def qHB(hS:Jn p (iS p iV n) (iS (li p) iV n))(h:nH p f (x.withA (mH p f x.args))=some v)(m:MS):zO v m (vX p iV (iS p iV n) f x m):=by
  obtain ⟨k,o,u,nm,ar⟩:=x;unfold vX;simp only [Ex.kind,Ex.op,Ex.num,Ex.name,Ex.args];by_cases h2:k=2
  . subst h2
    rw [qLh rfl] at h;show zO v m (.ok (xb p f nm m) m);split at h
    . rename_i h3
      injection h with h;exact ⟨(qvJ (p:=p) (f:=f) (nm:=nm) (i:=0) h3.1 h3.2 m).trans h,0,rfl⟩
    . cases h
  by_cases h6:k=6
  . subst h6
    show zO v m (((iS p iV n).e f (kP ar 0) m).and λa m=>.ok ((iV o a 0).getD 0) m);cases ar with
    | nil=>exact absurd ((qIo (p:=p) (f:=f) (x:=.mk 6 o u nm []) (show ¬ (6:Int)=2 by decide) rfl rfl).symm.trans h) (λe=>by cases e)
    | cons a0 ar=>
      rw [ZJ (x:=(Ex.mk 6 o u nm (a0::ar)).withA _) (a:=qS p f a0) (show ¬ (6:Int)=2 by decide) rfl rfl] at h;split at h
      . rename_i h3
        injection h with h;refine (U3 hS h3.1 m).and λm2=>?_;refine ⟨?_,0,Z⟩;have h4:(pm o 0).1=0:=h3.2;rw [iV,au h4];exact h
      . cases h
  by_cases h7:k=7
  . subst h7
    show zO v m (((iS p iV n).e f (kP ar 0) m).and λa m=>if o=20/\a=0 then .ok 0 m else if o=21/\a≠0 then .ok 1 m else ((iS p iV n).e f (kP ar 1) m).and λb m=>match iV o a b with|some v=>.ok v m|none=>.fin m 1 2);match ar,h with
    | [],h=>exact absurd ((qzL (p:=p) (f:=f) (x:=.mk 7 o u nm []) (show ¬ (7:Int)=2 by decide) (show ¬ (7:Int)=6 by decide) rfl (.inl rfl)).symm.trans h) (λe=>by cases e)
    | [a0],h=>exact absurd ((qzL (p:=p) (f:=f) (x:=.mk 7 o u nm [qS p f a0]) (show ¬ (7:Int)=2 by decide) (show ¬ (7:Int)=6 by decide) rfl (.inr ⟨_,rfl⟩)).symm.trans h) (λe=>by cases e)
    | a0::b0::ar,h=>
      rw [ZK (x:=(Ex.mk 7 o u nm (a0::b0::ar)).withA _) (a:=qS p f a0) (b:=qS p f b0) (show ¬ (7:Int)=2 by decide) (show ¬ (7:Int)=6 by decide) rfl rfl rfl] at h;split at h
      . rename_i ha
        refine (U3 hS ha m).and λm2=>?_;split at h
        . rename_i hb
          split at h
          . rename_i hz
            injection h with h;have h:qc o (qS p f a0).num (qS p f b0).num=v:=h;have hz:(pm o (qS p f b0).num).1=0:=hz;split
            . rename_i qT
              refine ⟨?_,0,Z⟩;rw [<- h,qT.1,qT.2];simp [qc,zI]
            split
            . rename_i uv
              refine ⟨?_,0,Z⟩;rw [<- h,uv.1];simp [qc,zI,uv.2]
            . refine (U3 hS hb m2).and λm3=>?_
              rw [iV,au hz];exact ⟨h,0,rfl⟩
          . cases h
        . split at h
          . rename_i qT
            have qT:o=20/\(qS p f a0).num=0:=qT;injection h with h
            rw [au qT];exact ⟨h,0,rfl⟩
          split at h
          . rename_i qT uv
            have qT:¬ (o=20/\(qS p f a0).num=0):=qT;have uv:o=21/\(qS p f a0).num≠0:=uv;injection h with h
            rw [ak qT,au uv];exact ⟨h,0,rfl⟩
          . cases h
      . cases h
  rw [qLg (x:=(Ex.mk k o u nm ar).withA _) h2 h6 h7] at h;cases h
def qEF{OP:Int->Int->Int->Option Int}:vX q OP S f (x.withA l) m=if x.kind=1 then .ok x.num m
 else if x.kind=2 then .ok (xb q f x.name m) m
 else if x.kind=3 then (S.e f (kP l 0) m).and λi m=>if ((ns q x.name m).length:Int)<=i then .fin m 1 1 else .ok ((ns q x.name m).getD i.toNat 0) m
 else if x.kind=4 then (nn (S.e f) l m).and λvs m=>S.c (r9 q x.name).toNat vs m
 else if x.kind=5 then yJ m
 else if x.kind=6 then (S.e f (kP l 0) m).and λa m=>.ok ((OP x.op a 0).getD 0) m
 else (S.e f (kP l 0) m).and λa m=>if x.op=20/\a=0 then .ok 0 m else if x.op=21/\a≠0 then .ok 1 m
  else (S.e f (kP l 1) m).and λb m=>match OP x.op a b with|some v=>.ok v m|none=>.fin m 1 2:=by cases x;rfl
def qKW(hS:Jn p (iS p iV n) (iS (li p) iV n))(m:MS):Fo d (vX p iV (iS p iV n) f x m) (vX (li p) iV (iS (li p) iV n) (ot p f) (x.withA (mH p f x.args)) (oD d m)):=by
  have hK:=Fk (p:=li p) (OP:=iV) n;obtain ⟨hE,hC,hT,hW⟩:=hS;obtain ⟨kE,kC,kT,kW⟩:=hK;have n1:(1:Int)≠0:=Θ
  rw [qEF];unfold vX;simp only [D_,qlh];split
  . exact Fo.ok
  split
  . exact Fo.ok
  split
  . refine (hE _ _ _ _).and (λi m e _=>?_) λi m=>?_
    . show Fo e _ (if ((ns p x.name m).length:Int)<=i then .fin (oD e m) 1 1 else .ok ((ns p x.name m).getD i.toNat 0) (oD e m))
      split
      . exact Fo.fin n1
      . exact Fo.ok
    . split
      . exact Kp.rfl_fin
      . exact Kp.rfl_ok
  split
  . rw [Gf]
    exact (UU (λx d m=>hE f x d m) (kE _) _ _ _).and (λvs m e _=>hC _ _ _ _) λvs m=>kC _ _ _
  split
  . exact qHV d m
  split
  . exact (hE _ _ _ _).and (λa m e _=>Fo.ok) λa m=>Kp.rfl_ok
  . refine (hE _ _ _ _).and (λa m e _=>?_) λa m=>?_
    . split
      . exact Fo.ok
      split
      . exact Fo.ok
      . refine (hE _ _ _ _).and (λb m e _=>?_) λb m=>?_
        . cases iV x.op a b with
          | some v=>exact Fo.ok
          | none=>exact Fo.fin n1
        . split
          . exact Kp.rfl_ok
          . exact Kp.rfl_fin
    . split
      . exact Kp.rfl_ok
      split
      . exact Kp.rfl_ok
      . refine (kE _ _ _).and λb m=>?_
        split
        . exact Kp.rfl_ok
        . exact Kp.rfl_fin
def qDb{g:iM}{x:iP}:sX q S g (xA p f x) m=if x.kind=1 then (S.e g (kP (mH p f x.exprs) 0) m).and λv m=>.ok (0,0) (tO q g x.name v m)
 else if x.kind=2 then (S.e g (kP (mH p f x.exprs) 0) m).and λi m=>if ((ns q x.name m).length:Int)<=i then .fin m 1 1
  else (S.e g (kP (mH p f x.exprs) 1) m).and λv m=>.ok (0,0) { m with ae:=m.ae.set (mS q x.name).toNat ((ns q x.name m).set i.toNat v) }
 else if x.kind=3 then (S.e g (kP (mH p f x.exprs) 0) m).and λv m=>if v≠0 then mh (S.t g) (rF p f x.body) m else mh (S.t g) (rF p f x.els) m
 else if x.kind=4 then S.w g (kP (mH p f x.exprs) 0) (rF p f x.body) m
 else if x.kind=5 then (nn (S.e g) (mH p f x.exprs) m).and λvs m=>(S.c (r9 q x.name).toNat vs m).and λ_ m=>.ok (0,0) m
 else if x.kind=6 then (S.e g (kP (mH p f x.exprs) 0) m).and λv m=>.ok (3,v) m
 else if x.kind=7 then (S.e g (kP (mH p f x.exprs) 0) m).and λv m=>if 20000<=m.out.length then .fin m 5 0 else .ok (0,0) { m with out:=m.out++[UInt8.ofNat v.toNat] }
 else if x.kind=8 then (S.e g (kP (mH p f x.exprs) 0) m).and λv m=>.fin m 1 v
 else if x.kind=9 then .ok (1,0) m
 else .ok (2,0) m:=by cases x;rfl
def qKV{x:iP}(hS:Jn p (iS p iV n) (iS (li p) iV n))(m:MS):Fo d (sX p (iS p iV n) f x m) (sX (li p) (iS (li p) iV n) (ot p f) (xA p f x) (oD d m)):=by
  have hK:=Fk (p:=li p) (OP:=iV) n;obtain ⟨hE,hC,hT,hW⟩:=hS;obtain ⟨kE,kC,kT,kW⟩:=hK;have n1:(1:Int)≠0:=Θ
  have n5:(5:Int)≠0:=Θ
  have hR:=λl d m=>Pa (λx d m=>hT f x d m) (kT (ot p f)) l d m;have kR:=λf=>Ft (T:=(iS (li p) iV n).t f) (kT f);rw [qDb];unfold sX;simp only [D_,qlh];split
  . refine (hE _ _ _ _).and (λv m e _=>?_) λv m=>?_
    . show Fo e (.ok (0,0) (tO p f x.name v m)) (.ok (0,0) (tO p f x.name v (oD e m)))
      unfold tO;split<;>exact ⟨e,ay _,rfl⟩
    . unfold tO;split<;>exact ⟨ay _,[],Ξ⟩
  split
  . refine (hE _ _ _ _).and (λi m e _=>?_) λi m=>?_
    . show Fo e _ (if ((ns p x.name m).length:Int)<=i then .fin (oD e m) 1 1 else _)
      split
      . exact Fo.fin n1
      . exact (hE _ _ _ _).and (λv m e _=>⟨e,ay _,rfl⟩) λv m=>⟨ay _,[],Ξ⟩
    . split
      . exact Kp.rfl_fin
      . exact (kE _ _ _).and λv m=>⟨ay _,[],Ξ⟩
  split
  . rw [Dx,Dx]
    refine (hE _ _ _ _).and (λv m e _=>?_) λv m=>?_
    . split
      . exact hR _ _ _
      . exact hR _ _ _
    . split
      . exact kR _ _ _
      . exact kR _ _ _
  split
  . exact hW _ _ _ _ _
  split
  . rw [Gf]
    exact (UU (λx d m=>hE f x d m) (kE _) _ _ _).and (λvs m e _=>(hC _ _ _ _).and (λ_ m e _=>Fo.ok) λ_ m=>Kp.rfl_ok) λvs m=>(kC _ _ _).and λ_ m=>Kp.rfl_ok
  split
  . exact (hE _ _ _ _).and (λv m e _=>Fo.ok) λv m=>Kp.rfl_ok
  split
  . refine (hE _ _ _ _).and (λv m e _=>?_) λv m=>?_
    . show Fo e _ (if 20000<=m.out.length then .fin (oD e m) 5 0 else _)
      split
      . exact Fo.fin n5
      . exact ⟨e,ay _,rfl⟩
    . split
      . exact Kp.rfl_fin
      . exact ⟨ay _,_,rfl⟩
  split
  . exact (hE _ _ _ _).and (λv m e _=>Fo.fin n1) λv m=>Kp.rfl_fin
  split
  . exact Fo.ok
  . exact Fo.ok
def qzx:∀ n,Jn p (iS p iV n) (iS (li p) iV n)
  | 0=>⟨λ_ _ _ _=>trivial,λ_ _ _ _=>trivial,λ_ _ _ _=>trivial,λ_ _ _ _ _=>trivial⟩
  | n+1=>by
    have hS:=qzx n;have hK:=Fk (p:=li p) (OP:=iV) n;refine ⟨λf x d m=>?_,λi vs d m=>?_,λf x d m=>(UV d m).and (λ_ m e _=>qKV hS m) λ_ m=>ZF hK _ _ m,λf c b d m=>?_⟩
    . cases h:nH p f (x.withA (mH p f x.args)) with
      | none=>
        rw [Ge h];exact (UV d m).and (λ_ m e _=>qKW hS m) λ_ m=>Sg hK _ _ m
      | some v=>
        rw [Kq h];refine (UV d m).and (k':=λ_ m=>vX (li p) iV (iS (li p) iV n) (ot p f) (.mk 1 0 v [] []) m) (λ_ m e _=>?_) λ_ m=>Sg hK _ _ m;have e1:vX (li p) iV (iS (li p) iV n) (ot p f) (.mk 1 0 v [] []) (oD e m)=.ok v (oD e m):=rfl;rw [e1];exact (qHB hS h m).fo
    . obtain ⟨hE,hC,hT,hW⟩:=hS
      obtain ⟨kE,kC,kT,kW⟩:=hK;show Fo d (cX p (iS p iV n) i vs m) (cX (li p) (iS (li p) iV n) i vs (oD d m));unfold cX;rw [qvp];show Fo d _ (if m.calls=100 then .fin (oD d m) 1 3 else _);split
      . exact Fo.fin Dc
      . have hb:(ot p (p.funcs.getD i pG)).body=(p.funcs.getD i pG).body.map (xA p (p.funcs.getD i pG)):=Dx ..
        rw [hb];exact (Pa (λx d m=>hT _ x d m) (kT _) _ d { m with frm:=o7 ((p.funcs.getD i pG).params.length+(p.funcs.getD i pG).locals.length) vs,calls:=m.calls+1 }).and (λy m1 e _=>⟨e,ay _,rfl⟩) λy m1=>⟨ay _,[],Ξ⟩
    . obtain ⟨hE,hC,hT,hW⟩:=hS
      obtain ⟨kE,kC,kT,kW⟩:=hK;show Fo d (wX (iS p iV n) f c b m) (wX (iS (li p) iV n) (ot p f) (qS p f c) (rF p f b) (oD d m));unfold wX;refine (hE _ _ _ _).and (λv m e _=>?_) λv m=>?_
      . split
        . exact Fo.ok
        . have hb:=Dx p f b
          refine Fo.and (by rw [hb];exact Pa (λx d m=>hT f x d m) (kT _) b e m) (λy m e _=>?_) λy m=>?_
          . split
            . exact Fo.ok
            split
            . exact Fo.ok
            . exact hW _ _ _ _ _
          . split
            . exact Kp.rfl_ok
            split
            . exact Kp.rfl_ok
            . exact kW _ _ _ _
      . split
        . exact Kp.rfl_ok
        . refine (Ft (kT _) _ _).and λy m=>?_
          split
          . exact Kp.rfl_ok
          split
          . exact Kp.rfl_ok
          . exact kW _ _ _ _
def Yw{p:Prop} (h:p:=by
 rw [sQ] at h' hg;simp only [xZ,dW] at h';obtain ⟨rfl,rfl,rfl,rfl⟩:=h';exact hg):p:=h
def qvn{main a:Nat}{o o':iH}{st' cd':Int}{k':Nat}(hn:2 * a+1 < n)(h:xZ a (yH p iV n main inp a)=(o,st,cd,k))(h':xZ a (yH (li p) iV n main inp a)=(o',st',cd',k')):
    (st≠0->o'=o/\st'=st/\cd'=cd/\k'<=k)/\(st=0->∃ w,o'=o++w):=by
  have h1:=(KV (p:=p) (OP:=iV) n).2.1 main [] (qD p inp a) (by show 2 * a+1 < n;omega);have h2:=(KV (p:=li p) (OP:=iV) n).2.1 main [] (qD (li p) inp a) (by show 2 * a+1 < n;omega);have hf:=(qzx (p:=p) n).2.1 main [] 0 (qD p inp a);have e:oD 0 (qD p inp a)=qD (li p) inp a:=rfl;rw [e] at hf;unfold yH at h h';cases hr:(iS p iV n).c main [] (qD p inp a) with
  | out=>rw [hr] at h1;exact h1.elim
  | ok v m=>
    rw [hr] at h hf;obtain ⟨g,_,hg⟩:=hf;rw [hg] at h';simp only [xZ,dW] at h h';obtain ⟨rfl,rfl,rfl,rfl⟩:=h;obtain ⟨rfl,rfl,rfl,rfl⟩:=h';exact ⟨λ_=>⟨rfl,rfl,rfl,by show a - (m.left+g)<=a - m.left;omega⟩,λh=>absurd h Dc⟩
  | fin m s0 c0=>
    rw [hr] at h hf;simp only [xZ,dW] at h;obtain ⟨rfl,rfl,rfl,rfl⟩:=h;rcases hf with ⟨h3,g,_,hg⟩|⟨h3,hg⟩
    . rw [hg] at h'
      simp only [xZ,dW] at h';obtain ⟨rfl,rfl,rfl,rfl⟩:=h';exact ⟨λ_=>⟨rfl,rfl,rfl,by show a - (m.left+g)<=a - m.left;omega⟩,λh=>absurd h h3⟩
    . refine ⟨λh=>absurd h3 h,λ_=>?_⟩
      cases sQ:(iS (li p) iV n).c main [] (qD (li p) inp a) with
      | out=>rw [sQ] at h2;exact h2.elim
      | ok v m2=>
        exact Yw
      | fin m2 s2 c2=>
        exact Yw
end
end
variable{m:MS}{S:Sem}
section
variable{R R':Value->Hl->World->Prop}{X X' Zq9:List PanicEntry->Hl->World->Prop}
section
variable{TT:kD}{fr:Fr}{s0:World}{ops:Array Oper}{ty:Nat}{g:Option (Nat×Bool)}{iC:Array Bool}
def AP(P:Program)(D:Nat)(f:FuncId)(args:iz)(L:Hl)(s:World)(R:Value->Hl->World->Prop)(X:List PanicEntry->Hl->World->Prop):Prop:=
 tM P f/\(jQ D L s->Calls P f args.toArray (fill L s) λe w'=>∃ L' s',w'=fill L' s'/\jQ D L' s'/\Le D s s'/\((∃ v,e=.returned v/\R v L' s')\/∃ ch,e=.panicked ch/\X ch L' s'))
def AP.mono{f:FuncId}{args:iz}(h:AP P D f args L s R X)(hr:∀ v L' s',Le D s s'->R v L' s'->R' v L' s')(hx:∀ ch L' s',Le D s s'->X ch L' s'->X' ch L' s'):AP P D f args L s R' X':=
 ⟨h.1,λho=>(h.2 ho).mono λ_ _ ⟨L',s',h2,h3,h4,h5⟩=>⟨L',s',h2,h3,h4,h5.imp (λ⟨v,a,b⟩=>⟨v,a,hr _ _ _ h4 b⟩) λ⟨ch,a,b⟩=>⟨ch,a,hx _ _ _ h4 b⟩⟩⟩
def sr{f:FuncId}{x:Operand}{first captured:iz}{R:Value->Hl->World->Prop}{X:List PanicEntry->Hl->World->Prop}(hY:(lk fr x=some (.func (.func f) first.toArray captured.toArray))/\qY fr xs=some vs/\Nat.blt d n=true) (h:AP P D f (first++vs++captured) L s R X) (kx:∀ ch L' s',Le D s s'->X ch L' s'->∀ jN,Q (.panic ch) jN L' s') (k:∀ v L' s',Le D s s'->R v L' s'->JO P TT D n ops Q iI ((d,v)::fr) L' s') :
  JO P TT D n ops Q (⟨some d,.call { callee:=.value x,args:=xs.toArray,argTypes:=ts },ty,iL,af,none⟩::iI) fr L s:=have ⟨hx,hv,hd⟩:=hY;λhT a hr ho=>by
 obtain ⟨⟨fn,h1,h2,h3⟩,hc⟩:=h;have hρ:∀ x v,lk fr x=some v->a.eval x=v:=λx v hx=>hr.ev hx;simp only [wpList,Region.wanted,bV];refine .inl ?_;have jH:(execOp a.eval ⟨some d,.call { callee:=.value x,args:=xs.toArray,argTypes:=ts },ty,iL,af,none⟩).run P (fill L s)=.ok (.enter f (first++vs++captured).toArray) (fill L s):=by
  exact ET
 simp only [Oper.wp,jH,Oper.upon];refine (hc ho).mono ?_;rintro e w' ⟨L',s',rfl,h4,h5,h6⟩;rcases h6 with ⟨v,rfl,h6⟩|⟨ch,rfl,h6⟩
 . exact k v L' s' h5 h6 hT _ (hr.put hd v) h4
 . exact ⟨fr,L',s',hr,h4,rfl,kx _ _ _ h5 h6 fr⟩
def zr{f:FuncId}{x:Operand}{first captured:iz}{R:Value->Hl->World->Prop}{X:List PanicEntry->Hl->World->Prop}(hi:ops[i]?=some ⟨some d,.call { callee:=.value x,args:=xs.toArray,argTypes:=ts },ty,iL,af,g⟩)(hg:sf ops fr g)
    (hx:lk fr x=some (.func (.func f) first.toArray captured.toArray)) (hv:qY fr xs=some vs) (hd:Nat.blt d n=true) (h:AP P D f (first++vs++captured) L s R X) (kx:∀ ch L' s',Le D s s'->X ch L' s'->∀ jN,Q (.panic ch) jN L' s')
    (k:∀ v L' s',Le D s s'->R v L' s'->(∀ x∈K,x∈L->x∈L')/\JA P TT D n ops Q K s0 jd (iC.setIfInBounds i true) ((d,v)::fr) L' s') :
    JB P TT D n ops Q K s0 jd iC i fr L s:=λhT a hf ho hl hK=>by
  obtain ⟨⟨fn,h1,h2,h3⟩,hc⟩:=h;have hρ:∀ x v,lk fr x=some v->a.eval x=v:=λx v hx=>hf.ev hx;simp only [wpOp,hi,hg.wanted hf,bV];refine .inl ?_;have jH:(execOp a.eval ⟨some d,.call { callee:=.value x,args:=xs.toArray,argTypes:=ts },ty,iL,af,g⟩).run P (fill L s)=.ok (.enter f (first++vs++captured).toArray) (fill L s):=by
    exact ET
  simp only [Oper.wp,jH,Oper.upon];refine (hc ho).mono ?_;rintro e w' ⟨L',s',rfl,h4,h5,h6⟩;rcases h6 with ⟨v,rfl,h6⟩|⟨ch,rfl,h6⟩
  . obtain ⟨k1,k2⟩:=k v L' s' h5 h6
    exact XE
  . exact ⟨hf.bare,L',s',h4,rfl,kx _ _ _ h5 h6⟩
def AP.mid{f:FuncId}{args:iz}(X M Y:Hl)(h:AP P D f args (M++(X++Y)) s (λv L' s'=>∃ M',L'=M'++(X++Y)/\R v M' s') λch L' s'=>∃ M',L'=M'++(X++Y)/\Zq9 ch M' s'):
  AP P D f args (X++(M++Y)) s (λv L' s'=>∃ M',L'=X++(M'++Y)/\R v M' s') λch L' s'=>∃ M',L'=X++(M'++Y)/\Zq9 ch M' s':=by
 have hp:∀ M':Hl,(X++(M'++Y)).Perm (M'++(X++Y)):=λM'=>by
  exact Pk
 refine ⟨h.1,λho=>?_⟩;rw [uc (hp M) _ ho];refine (h.2 (ho.perm (hp M))).mono ?_;rintro e w' ⟨L',s',rfl,h3,h4,h5⟩;rcases h5 with ⟨v,h1,M',rfl,h6⟩|⟨ch,h1,M',rfl,h6⟩
 . exact ⟨X++(M'++Y),s',(uc (hp M').symm _ h3),h3.perm (hp M').symm,h4,.inl ⟨v,h1,M',rfl,h6⟩⟩
 . exact ⟨X++(M'++Y),s',(uc (hp M').symm _ h3),h3.perm (hp M').symm,h4,.inr ⟨ch,h1,M',rfl,h6⟩⟩
def qqm{t:Nat}(hu:P.underlying t=some (.struct #[]))(hz:(P.info? t).bind (λi=>i.zero)=some (Value.agg #[])):QE P TT D fr (.build t #[]) ty K s0 (.agg #[]):=
 QE.pure λhT dst iL af g ρ hρ w=>by
  obtain ⟨i,h1,h2⟩:=fa.1 hz;simp [execOp,Instr.build,underlying,hu,zeroValue,typeInfo,h1,h2,Instr.fill,Value.cells]
def qyV{t:Nat}{x:Operand}(hu:P.underlying t=some (.struct #[]))(hx:lk fr x=some v):QE P TT D fr (.makeInterface t x) ty K s0 (.iface t v):=
 QE.pure λhT dst iL af g ρ hρ w=>by simp [execOp,Instr.makeInterface,underlying,hu,hρ x _ hx]
def qns{x:Operand}{t:TypeId}{u:Value}(hx:lk fr x=some (.iface t u))(h:∀ jN,Q (.panic [{ v:=.iface t u,recovered:=false }]) jN L s):JO P TT D n ops Q (⟨dst,.panic x,ty,iL,af,none⟩::iI) fr L s:=λhT a hr ho=>by
 simp only [wpList,Region.wanted,bV];refine .inl ?_;have jH:(execOp a.eval ⟨dst,.panic x,ty,iL,af,none⟩).run P (fill L s)=.halt (.panic (.iface t u)) (fill L s):=by
  simp [execOp,hr.ev hx,run_panic_iface]
 simp only [Oper.wp,jH,Oper.upon];exact ⟨fr,L,s,hr,ho,rfl,h fr⟩
def SY(TT:kD)(D:Nat)(rs:List ResultVar)(s0:World)(R:Value->Hl->World->Prop)(X:List PanicEntry->Hl->World->Prop):pS
 | .panic ch,_,L,s=>∃ A L',L.Perm (A++L')/\Le D s0 s/\∀ s',Le D s s'->X ch L' s'
 | e,fr,L,s=>mX TT D rs s0 R e fr L s
def px{e:Exit}(A:Hl)(he:e=.normal\/e=.ret)(h:qQ TT fr L rs vs)(hL:L=A++L')(hl:Le D s0 s)(hR:∀ s',Le D s s'->R (kU vs) L' s'):SY TT D rs s0 R X e fr L s:=by
 rcases he with rfl|rfl
 . exact lF A L' (.inl rfl) h hL hl hR
 . exact lF A L' (.inr rfl) h hL hl hR
def tJ(A:Hl)(hL:L.Perm (A++L'))(hl:Le D s0 s)(hX:∀ s',Le D s s'->X ch L' s'):SY TT D rs s0 R X (.panic ch) fr L s:=⟨A,L',hL,hl,hX⟩
def tE{J:Fr->Hl->World->Prop}(h:Q (.panic ch) fr L s):ma J Q (.panic ch) fr L s:=h
def tH{id:Nat}(h:Q (.panic ch) fr L s):mO id Q (.panic ch) fr L s:=h
def rl{f:FuncId}{c:Code}{args:iz}{R:Value->Hl->World->Prop}{X:List PanicEntry->Hl->World->Prop}(hT:jV P TT)(hf:P.funcs[f]?=some fn)(hn:(fn.name == "runtime.NumGoroutine")=false)(hb:fn.body=some c)(hnt:fn.ntmps=n)(j9:Nat.ble args.length n=true)(z6:fn.results.toList=rs)(yf:Fr)(oU:nP 0 args=yf)
  (h:JC P TT D n (SY TT D rs s R X) c yf L s):AP P D f args L s R X:=by
 subst oU;subst z6;refine ⟨⟨fn,hf,hn,by simp [hb]⟩,λho=>calls_of_wp hf hb ?_⟩;have hle':args.length<=n:=bE j9;have hr:jr n { tmps:=args.toArray++Array.replicate (fn.ntmps - args.toArray.size) undef,defers:=[] } (nP 0 args):=by
  exact SL
 refine eS (h hT _ hr ho) ?_;rintro e a w ⟨jN,L1,s1,k1,k2,rfl,hq⟩;have good:∀ {e:Exit},mX TT D fn.results.toList s R e jN L1 s1->bodyPost P fn (λe w'=>∃ L' s',w'=fill L' s'/\jQ D L' s'/\Le D s s'/\((∃ v,e=.returned v/\R v L' s')\/∃ ch,e=.panicked ch/\X ch L' s')) e a (fill L1 s1):=by
  rintro e ⟨he,vs,A,L',hres,rfl,hle1,hR⟩;obtain ⟨d1,d2,d3⟩:=tI k2;have jH:(results fn a.tmps).run P (fill (A++L') s1)=.ok (kU vs) (fill (A++L') s1):=by
   exact Ig
  have hpost:∃ v,(results fn a.tmps).run P (fill (A++L') s1)=.ok v (fill (A++L') s1)/\∃ L'_1 s',fill (A++L') s1=fill L'_1 s'/\jQ D L'_1 s'/\Le D s s'/\((∃ v_1,Ending.returned v=.returned v_1/\R v_1 L'_1 s')\/∃ ch,Ending.returned v=.panicked ch/\X ch L'_1 s'):=
   ⟨_,jH,L',fill A s1,d1,d2,hle1.trans d3,.inl ⟨_,rfl,hR _ d3⟩⟩
  rcases he with rfl|rfl
  . exact ⟨k1.defers,hpost⟩
  . exact ⟨k1.defers,hpost⟩
 cases e with
 | panic ch=>
  obtain ⟨A,L',hp,hle1,hX⟩:=hq;obtain ⟨d1,d2,d3⟩:=tI (k2.perm hp);rw [uc hp _ k2];exact ⟨k1.defers,L',fill A s1,d1,d2,hle1.trans d3,.inr ⟨ch,rfl,hX _ d3⟩⟩
 | _=>exact good hq
end
end
section
variable{l:iG}{i v st sA:Int}{b z1:Nat}{Vq9 E:World->Ex->iz->Prop}{s':World}{w iv:Value}{f:iM}{x:Ex}{α:Type}
def Ph(h0:0<=i)(h:i < l.length):nth (wv l) (0+i.toNat)=some (iJ (l.getD i.toNat 0)):=by
 have hl:i.toNat < l.length:=O
 rw [aX,wc,aG];simp [wv,hl]
def K1(h0:0<=i)(h:i < l.length):pk (wv l) (0+i.toNat) [iJ v]=wv (l.set i.toNat v):=by
 have hl:i.toNat < l.length:=O
 rw [aX,Du _ _ _ (by simp [wv];omega)];simp only [wv,gL];rw [fc];simp [hl]
def KX(h0:0<=i)(h:i < l.length):Nat.ble (0+i.toNat+1) (wv l).length=true:=by
 rw [fY];simp [wv];omega
def ME(h1:0<=a)(h2:a < 18446744073709551616):IntKind.u64.wrap a=a:=by simp [IntKind.wrap,IntKind.bits,IntKind.signed];omega
def u8w{x:Int}(h:iQ x):IntKind.u8.wrap x=((UInt8.ofNat x.toNat).toNat:Int):=by
 obtain ⟨h1,h2⟩:=h;rw [IntKind.wrap_u8];simp [eW];omega
attribute [local irreducible] JC JO JA JB ma mO mX AC fill iy QE Ev my
def sD(p:jc)(Vq9:World->Ex->iz->Prop)(s:World)(nm:iH)(args:List Ex)(w:Value):Prop:=∃ be bi A n c k fk,w=.func (.func 151) #[] #[iT be,iT bi]/\iy s be 0 [.slice A n c]/\iy s bi 0 [iB ((k:Nat):Int)]/\Sl 1 Vq9 s A n c args/\r9 p nm=(k:Int)/\p.funcs[k]?=some fk/\args.length=fk.params.length
inductive tS(p:jc)(f:iM)(Vq9:World->Ex->iz->Prop)(s:World)(x:Ex):Value->Prop
 | num (b:Nat) (A1:iE) (n1 c1:Nat) (hk:x.kind=1) (hc:iy s b 0 [.int .i64 x.kind,.int .i64 x.op,.int .u32 x.num,St x.name,.slice A1 n1 c1]) (hu:iQ x.num):tS p f Vq9 s x (.func (.func 196) #[] #[.pointer (some ⟨b,0,none⟩)])
 | slot (b:Nat) (hk:x.kind=2) (h0:0<=k8 f x.name) (hl:k8 f x.name < ((f.params.length+f.locals.length:Nat):Int)) (hc:iy s b 0 [.int .i64 (k8 f x.name)]):tS p f Vq9 s x (.func (.func 240) #[] #[.pointer (some ⟨b,0,none⟩)])
 | con (b k:Nat) (g:jv) (A n c) (hk:x.kind=2) (hs:¬ 0<=k8 f x.name) (hg:mS p x.name=(k:Int)) (hp:p.o[k]?=some g) (h1:g.kind=1) (hc:iy s b 0 [.int .i64 g.kind,St g.name,.int .u32 g.num,.slice A n c]) (hu:iQ g.num):tS p f Vq9 s x (.func (.func 241) #[] #[.pointer (some ⟨b,0,none⟩)])
 | var (b k:Nat) (g:jv) (hk:x.kind=2) (hs:¬ 0<=k8 f x.name) (hg:mS p x.name=(k:Int)) (hp:p.o[k]?=some g) (h1:¬ g.kind=1) (hc:iy s b 0 [.int .i64 (k:Int)]):tS p f Vq9 s x (.func (.func 242) #[] #[.pointer (some ⟨b,0,none⟩)])
 | idx (b1 b2 k:Nat) (g:jv) (A n c) (hk:x.kind=3) (hg:mS p x.name=(k:Int)) (hp:p.o[k]?=some g) (h3:g.kind=3) (h1:iy s b1 0 [.int .i64 (k:Int)]) (h2:iy s b2 0 [.slice A n c]) (hA:Sl 1 Vq9 s A n c x.args) (hn:0 < n):tS p f Vq9 s x (.func (.func 198) #[] #[.pointer (some ⟨b1,0,none⟩),.pointer (some ⟨b2,0,none⟩)])
 | call (w:Value) (hk:x.kind=4) (h:sD p Vq9 s x.name x.args w):tS p f Vq9 s x w
 | get (hk:x.kind=5):tS p f Vq9 s x (.func (.func 199) #[] #[])
 | una (b1 b2:Nat) (A1:iE) (n1 c1:Nat) (A n c) (hk:x.kind=6) (h1:iy s b1 0 [.int .i64 x.kind,.int .i64 x.op,.int .u32 x.num,St x.name,.slice A1 n1 c1]) (h2:iy s b2 0 [.slice A n c]) (hA:Sl 1 Vq9 s A n c x.args) (hn:0 < n):tS p f Vq9 s x (.func (.func 200) #[] #[.pointer (some ⟨b1,0,none⟩),.pointer (some ⟨b2,0,none⟩)])
 | bin (b1 b2 b3:Nat) (v1 v2:Value) (hk:x.kind=7) (h1:iy s b1 0 [v1]) (h2:iy s b2 0 [.int .i64 x.op]) (h3:iy s b3 0 [v2]) (xN:Vq9 s (kP x.args 0) [v1]) (vv:Vq9 s (kP x.args 1) [v2]) (ho:4<=x.op/\x.op<=21):tS p f Vq9 s x (.func (.func 243) #[] #[.pointer (some ⟨b1,0,none⟩),.pointer (some ⟨b2,0,none⟩),.pointer (some ⟨b3,0,none⟩)])
def lZ(p:jc)(f:iM):Nat->World->Ex->iz->Prop
 | 0,_,_,_=>False
 | d+1,s,x,cs=>∃ b w,cs=[.func (.func 144) #[] #[iT b]]/\iy s b 0 [w]/\tS p f (lZ p f d) s x w
inductive tn(p:jc)(f:iM)(E:World->Ex->iz->Prop)(Vq9:World->iP->iz->Prop)(s:World)(x:iP):Value->Prop
 | setl (b1 b2:Nat) (v:Value) (hk:x.kind=1) (h0:0<=k8 f x.name) (hl:k8 f x.name < ((f.params.length+f.locals.length:Nat):Int)) (h1:iy s b1 0 [v]) (h2:iy s b2 0 [.int .i64 (k8 f x.name)]) (hv:E s (kP x.exprs 0) [v]):tn p f E Vq9 s x (.func (.func 146) #[] #[.pointer (some ⟨b1,0,none⟩),.pointer (some ⟨b2,0,none⟩)])
 | setg (b1 b2 k:Nat) (g:jv) (v:Value) (hk:x.kind=1) (hs:¬ 0<=k8 f x.name) (hg:mS p x.name=(k:Int)) (hp:p.o[k]?=some g) (vP:g.kind=2) (h1:iy s b1 0 [v]) (h2:iy s b2 0 [.int .i64 (k:Int)]) (hv:E s (kP x.exprs 0) [v]):tn p f E Vq9 s x (.func (.func 147) #[] #[.pointer (some ⟨b1,0,none⟩),.pointer (some ⟨b2,0,none⟩)])
 | store (b1 b2 k:Nat) (g:jv) (A n c) (hk:x.kind=2) (hg:mS p x.name=(k:Int)) (hp:p.o[k]?=some g) (h3:g.kind=3) (h1:iy s b1 0 [.int .i64 (k:Int)]) (h2:iy s b2 0 [.slice A n c]) (hA:Sl 1 E s A n c x.exprs) (hn:1 < n):tn p f E Vq9 s x (.func (.func 105) #[] #[.pointer (some ⟨b1,0,none⟩),.pointer (some ⟨b2,0,none⟩)])
 | cond (b1 b2 b3:Nat) (A n c B m e G k i) (hk:x.kind=3) (h1:iy s b1 0 [.slice A n c]) (h2:iy s b2 0 [.slice B m e]) (h3:iy s b3 0 [.slice G k i]) (hA:Sl 1 E s A n c x.exprs) (hn:0 < n) (hB:Sl 1 Vq9 s B m e x.body) (hG:Sl 1 Vq9 s G k i x.els):tn p f E Vq9 s x (.func (.func 107) #[] #[.pointer (some ⟨b1,0,none⟩),.pointer (some ⟨b2,0,none⟩),.pointer (some ⟨b3,0,none⟩)])
 | loop (b1 b2:Nat) (A n c B m e) (hk:x.kind=4) (h1:iy s b1 0 [.slice A n c]) (h2:iy s b2 0 [.slice B m e]) (hA:Sl 1 E s A n c x.exprs) (hn:0 < n) (hB:Sl 1 Vq9 s B m e x.body):tn p f E Vq9 s x (.func (.func 109) #[] #[.pointer (some ⟨b1,0,none⟩),.pointer (some ⟨b2,0,none⟩)])
 | call (b1:Nat) (w:Value) (hk:x.kind=5) (h1:iy s b1 0 [w]) (h:sD p E s x.name x.exprs w):tn p f E Vq9 s x (.func (.func 111) #[] #[.pointer (some ⟨b1,0,none⟩)])
 | ret (b1:Nat) (A n c) (hk:x.kind=6) (h1:iy s b1 0 [.slice A n c]) (hA:Sl 1 E s A n c x.exprs) (hn:0 < n):tn p f E Vq9 s x (.func (.func 112) #[] #[.pointer (some ⟨b1,0,none⟩)])
 | put (b1:Nat) (A n c) (hk:x.kind=7) (h1:iy s b1 0 [.slice A n c]) (hA:Sl 1 E s A n c x.exprs) (hn:0 < n):tn p f E Vq9 s x (.func (.func 113) #[] #[.pointer (some ⟨b1,0,none⟩)])
 | stop (b1:Nat) (A n c) (hk:x.kind=8) (h1:iy s b1 0 [.slice A n c]) (hA:Sl 1 E s A n c x.exprs) (hn:0 < n):tn p f E Vq9 s x (.func (.func 114) #[] #[.pointer (some ⟨b1,0,none⟩)])
 | brk (hk:x.kind=9):tn p f E Vq9 s x (.func (.func 115) #[] #[])
 | cont (hk:x.kind=10):tn p f E Vq9 s x (.func (.func 116) #[] #[])
def qI(p:jc)(f:iM):Nat->World->iP->iz->Prop
 | 0,_,_,_=>False
 | d+1,s,x,cs=>∃ b w,cs=[.func (.func 64) #[] #[iT b]]/\iy s b 0 [w]/\tn p f (lZ p f d) (qI p f d) s x w
def Di(p:jc)(s:World)(f:iM)(cs:iz):Prop:=∃ d A n c,cs=[iB ((f.params.length+f.locals.length:Nat):Int),.slice A n c]/\Sl 1 (qI p f d) s A n c f.body
def sD.le{args:List Ex}(hl:Le D s s')(hV:∀ x cs,Vq9 s x cs->Vq9 s' x cs)(h:sD p Vq9 s nm args w):sD p Vq9 s' nm args w:=by
 obtain ⟨be,bi,A,n,c,k,fk,h1,h2,h3,h4,h5⟩:=h;exact ⟨be,bi,A,n,c,k,fk,h1,h2.le hl,h3.le hl,Sl.le (λx cs h=>hV x cs h) h4 hl,h5⟩
def tS.le(hl:Le D s s')(hV:∀ x cs,Vq9 s x cs->Vq9 s' x cs)(h:tS p f Vq9 s x w):tS p f Vq9 s' x w:=by
 have hS:∀ {A n c l},Sl 1 Vq9 s A n c l->Sl 1 Vq9 s' A n c l:=λh=>Sl.le (λx cs h=>hV x cs h) h hl;cases h with
 | num b A1 n1 c1 hk hc hu=>exact .num b A1 n1 c1 hk Pz hu
 | slot b hk h0 hl' hc=>exact .slot b hk h0 hl' Pz
 | con b k g A n c hk hs hg hp h1 hc hu=>exact .con b k g A n c hk hs hg hp h1 Pz hu
 | var b k g hk hs hg hp h1 hc=>exact .var b k g hk hs hg hp h1 Pz
 | idx b1 b2 k g A n c hk hg hp h3 h1 h2 hA hn=>exact .idx b1 b2 k g A n c hk hg hp h3 Pz Pz (hS hA) hn
 | call w hk h=>exact .call w hk (h.le hl hV)
 | get hk=>exact .get hk
 | una b1 b2 A1 n1 c1 A n c hk h1 h2 hA hn=>exact .una b1 b2 A1 n1 c1 A n c hk Pz Pz (hS hA) hn
 | bin b1 b2 b3 v1 v2 hk h1 h2 h3 xN vv ho=>exact .bin b1 b2 b3 v1 v2 hk Pz Pz Pz (hV _ _ xN) (hV _ _ vv) ho
def lZ.le(hl:Le D s s'):∀ {d:Nat} {x:Ex} {cs:iz},lZ p f d s x cs->lZ p f d s' x cs
 | 0,_,_,h=>h
 | _+1,_,_,⟨b,w,h1,h2,h3⟩=>⟨b,w,h1,h2.le hl,h3.le hl λ_ _ h=>lZ.le hl h⟩
def tn.le{Vq9:World->iP->iz->Prop}{x:iP}(hl:Le D s s')(hE:∀ x cs,E s x cs->E s' x cs)(hV:∀ x cs,Vq9 s x cs->Vq9 s' x cs)(h:tn p f E Vq9 s x w):tn p f E Vq9 s' x w:=by
 have hS:∀ {A n c l},Sl 1 E s A n c l->Sl 1 E s' A n c l:=λh=>Sl.le (λx cs h=>hE x cs h) h hl;have hT:∀ {A n c l},Sl 1 Vq9 s A n c l->Sl 1 Vq9 s' A n c l:=λh=>Sl.le (λx cs h=>hV x cs h) h hl;cases h with
 | setl b1 b2 v hk h0 hl' h1 h2 hv=>exact .setl b1 b2 v hk h0 hl' Pz Pz (hE _ _ hv)
 | setg b1 b2 k g v hk hs hg hp vP h1 h2 hv=>exact .setg b1 b2 k g v hk hs hg hp vP Pz Pz (hE _ _ hv)
 | store b1 b2 k g A n c hk hg hp h3 h1 h2 hA hn=>exact .store b1 b2 k g A n c hk hg hp h3 Pz Pz (hS hA) hn
 | cond b1 b2 b3 A n c B m e G k i hk h1 h2 h3 hA hn hB hG=>exact .cond b1 b2 b3 A n c B m e G k i hk Pz Pz Pz (hS hA) hn (hT hB) (hT hG)
 | loop b1 b2 A n c B m e hk h1 h2 hA hn hB=>exact .loop b1 b2 A n c B m e hk Pz Pz (hS hA) hn (hT hB)
 | call b1 w hk h1 h=>exact .call b1 w hk Pz (h.le hl hE)
 | ret b1 A n c hk h1 hA hn=>exact .ret b1 A n c hk Pz (hS hA) hn
 | put b1 A n c hk h1 hA hn=>exact .put b1 A n c hk Pz (hS hA) hn
 | stop b1 A n c hk h1 hA hn=>exact .stop b1 A n c hk Pz (hS hA) hn
 | brk hk=>exact .brk hk
 | cont hk=>exact .cont hk
def qI.le(hl:Le D s s'):∀ {d:Nat} {x:iP} {cs:iz},qI p f d s x cs->qI p f d s' x cs
 | 0,_,_,h=>h
 | _+1,_,_,⟨b,w,h1,h2,h3⟩=>⟨b,w,h1,h2.le hl,h3.le hl (λ_ _ h=>lZ.le hl h) λ_ _ h=>qI.le hl h⟩
def Di.le(hl:Le D s s'){cs:iz}(h:Di p s f cs):Di p s' f cs:=by
 obtain ⟨d,A,n,c,h1,h2⟩:=h;exact ⟨d,A,n,c,h1,Sl.le (λ_ _ h=>qI.le hl h) h2 hl⟩
def qo(p:jc)(f:iM)(d:Nat)(s:World)(A:iE)(n c:Nat)(l:List Ex):Prop:=Sl 1 (lZ p f d) s A n c l
def xw(p:jc)(f:iM)(d:Nat)(s:World)(A:iE)(n c:Nat)(l:List iP):Prop:=Sl 1 (qI p f d) s A n c l
def qo.le{l:List Ex}(h:qo p f d s A n c l)(hl:Le D s s'):qo p f d s' A n c l:=Sl.le (λ_ _ h=>lZ.le hl h) h hl
def xw.le{l:List iP}(h:xw p f d s A n c l)(hl:Le D s s'):xw p f d s' A n c l:=Sl.le (λ_ _ h=>qI.le hl h) h hl
def Ya{p:Prop} (h:p:=by
 cases d with
 | zero=>exact h.elim
 | succ d=>obtain ⟨b,w,h1,_⟩:=h;exact ⟨b,by simpa using h1⟩):p:=h
def lZ.func{v:Value}(h:lZ p f d s x [v]):∃ b,v=.func (.func 144) #[] #[iT b]:=by
 exact Ya
def qI.func{x:iP}{v:Value}(h:qI p f d s x [v]):∃ b,v=.func (.func 64) #[] #[iT b]:=by
 exact Ya
def qo.at_{l:List Ex}(h:qo p f d s A n c l)(hk:k < n):∃ B off b,A=some ⟨B,off,none⟩/\iy s B (off+k) [.func (.func 144) #[] #[iT b]]/\lZ p f d s (kP l k) [.func (.func 144) #[] #[iT b]]:=by
 have hl:k < l.length:=by rw [<- h.1];exact hk
 obtain ⟨B,off,cs,h1,h2,h3,h4⟩:=h.2.2.2 k l[k] (ap hl);have e:kP l k=l[k]:=by rw [kP,aG,ap hl];rfl
 match cs,h3 with
 | [v],_=>
  obtain ⟨b,rfl⟩:=h4.func;exact ⟨B,off,b,h1,by rw [eK] at h2;exact h2,by rw [e];exact h4⟩
def xw.at_{l:List iP}(h:xw p f d s A n c l)(hk:k < n):∃ B off b x,A=some ⟨B,off,none⟩/\l[k]?=some x/\iy s B (off+k) [.func (.func 64) #[] #[iT b]]/\qI p f d s x [.func (.func 64) #[] #[iT b]]:=by
 have hl:k < l.length:=by rw [<- h.1];exact hk
 obtain ⟨B,off,cs,h1,h2,h3,h4⟩:=h.2.2.2 k l[k] (ap hl);match cs,h3 with
 | [v],_=>
  obtain ⟨b,rfl⟩:=h4.func;exact ⟨B,off,b,l[k],h1,ap hl,by rw [eK] at h2;exact h2,h4⟩
structure MC where
 bm:Nat
 bg:Nat
 bf:Nat
 ba:Nat
 Af:iE
 nF:Nat
 cF:Nat
 ng:Nat
 nf:Nat
 ab:List (Option Nat)
variable{c:MC}
def x9(c:MC)(N:Nat)(sA:Int)(m:MS)(iv ov:Value)(st cd:Int)(fv:Value):Nat×Obj:=(c.bm,cb [.slice c.Af c.nF c.cF,.slice (some ⟨c.bg,0,none⟩) c.ng c.ng,.slice (some ⟨c.ba,0,none⟩) c.ng c.ng,fv,iJ sA,iB (m.calls:Int),iv,iB (m.left:Int),ov,iB st,iJ cd,iB ((N:Int) - (m.left:Int))] 82)
abbrev MB(c:MC)(N:Nat)(sA:Int)(m:MS)(iv ov:Value)(st cd:Int):Nat×Obj:=x9 c N sA m iv ov st cd (.slice (some ⟨c.bf,0,none⟩) c.nf c.nf)
def mF(c:MC)(m:MS):Nat×Obj:=(c.bg,cb (wv m.glo) 34)
def mE(c:MC)(m:MS):Nat×Obj:=(c.bf,cb (wv m.frm) 34)
def oR:List (Option Nat)->List iG->Hl
 | some b::r,l::ls=>(b,cb (wv l) 34)::oR r ls
 | none::r,_::ls=>oR r ls
 | _,_=>[]
def wk:List (Option Nat)->List jv->iz
 | some b::r,g::gs=>.slice (jZ b) g.num.toNat g.num.toNat::wk r gs
 | none::r,_::gs=>.slice none 0 0::wk r gs
 | _,_=>[]
structure MG(p:jc)(c:MC)(N:Nat)(m:MS)(iv ov:Value)(R:Hl)(s:World):Prop where
 inp:∃ A n q,iv=.slice A n q/\lP s A n q m.inp
 out:∃ Mo,R=oR c.ab m.ae++Mo/\Own 5 1 Mo ov m.out.length (bv m.out)
 ug:∀ x∈m.glo,iQ x
 uf:∀ x∈m.frm,iQ x
 ua:∀ l∈m.ae,∀ x∈l,iQ x
 ng:c.ng=p.o.length
 lg:m.glo.length=c.ng
 lf:m.frm.length=c.nf
 lb:c.ab.length=c.ng
 la:m.ae.length=c.ng
 ar:∀ (k:Nat) (g:jv),p.o[k]?=some g->g.kind=3->(∃ b,c.ab[k]?=some (some b))/\(m.ae.getD k []).length=g.num.toNat
 lo:m.out.length<=20000
 lc:m.calls<=100
 ll:m.left<=N
 lN:N<=50000000
structure CT(p:jc)(c:MC)(s:World):Prop where
 fn:Sl 2 (Di p) s c.Af c.nF c.cF p.funcs
 ar:iy s c.ba 0 (wk c.ab p.o)
 fs:∀ f∈p.funcs,f.params.length+f.locals.length<=100
 gu:∀ g∈p.o,iQ g.num
def MG.le(h:MG p c N m iv ov R s)(hl:Le D s s'):MG p c N m iv ov R s':=by
 obtain ⟨A,n,q,h1,h2⟩:=h.inp;exact ⟨⟨A,n,q,h1,h2.le hl⟩,h.out,h.ug,h.uf,h.ua,h.ng,h.lg,h.lf,h.lb,h.la,h.ar,h.lo,h.lc,h.ll,h.lN⟩
def CT.le(h:CT p c s)(hl:Le D s s'):CT p c s':=⟨Sl.le (λ_ _ h=>Di.le hl h) h.fn hl,h.ar.le hl,h.fs,h.gu⟩
def FN(ch:List PanicEntry):Prop:=ch=[{ v:=.iface 163 (.agg #[]),recovered:=false }]
def AS(c:MC)(N:Nat)(m:MS)(st cd:Int)(Zq9:Hl):Prop:=∃ u0 u1 u2 u3 u4 u5 u6 u7 ov Mo K,Zq9.Perm ((c.bm,cb [u0,u1,u2,u3,u4,u5,u6,u7,ov,iB st,iJ cd,iB ((N:Int) - (m.left:Int))] 82)::(Mo++K))/\Own 5 1 Mo ov m.out.length (bv m.out)/\m.out.length<=20000/\m.left<=N
def MG.finv(h:MG p c N m iv ov R s)(sA st cd:Int)(fv:Value)(X:Hl):AS c N m st cd (x9 c N sA m iv ov st cd fv::(X++R)):=by
 obtain ⟨Mo,rfl,hO⟩:=h.out;refine ⟨_,_,_,_,_,_,_,_,ov,Mo,X++oR c.ab m.ae,List.Perm.cons _ ?_,hO,h.lo,h.ll⟩;rw [<- am];exact dK
def MG.fin(h:MG p c N m iv ov R s)(sA st cd:Int):AS c N m st cd (MB c N sA m iv ov st cd::mF c m::mE c m::R):=h.finv sA st cd _ [mF c m,mE c m]
def AS.app(h:AS c N m st cd Zq9)(X:Hl):AS c N m st cd (Zq9++X):=by
 obtain ⟨u0,u1,u2,u3,u4,u5,u6,u7,ov,Mo,K,h1,h2⟩:=h;exact ⟨u0,u1,u2,u3,u4,u5,u6,u7,ov,Mo,K++X,by simpa [am] using h1.append_right X,h2⟩
def MC.wf(c:MC)(bf nf:Nat):MC:={ c with bf:=bf,nf:=nf }
def AS.wf{bf:Nat}(h:AS (c.wf bf nf) N m st cd Zq9):AS c N m st cd Zq9:=h
def qa(p:jc)(c:MC)(N:Nat)(r:ER α)(Vq9:α->Value->Prop)(RS:α->Int)(X L:Hl)(v:Value)(L':Hl)(s':World):Prop:=∃ a m' iv ov R,r=.ok a m'/\Vq9 a v/\L'=X++(MB c N (RS a) m' iv ov 0 0::mF c m'::mE c m'::(R++L))/\MG p c N m' iv ov R s'
def pW(c:MC)(N:Nat)(r:ER α)(X L:Hl)(ch:List PanicEntry)(L':Hl)(_:World):Prop:=FN ch/\∃ m' st cd Zq9,r=.fin m' st cd/\L'=X++(Zq9++L)/\AS c N m' st cd Zq9
def AP.fr{g:FuncId}{args:iz}{r:ER α}{Vq9:α->Value->Prop}{RS:α->Int}(h:∀ L,AP Tryz.prog D g args (MB c N sA m iv ov 0 0::mF c m::mE c m::(R++L)) s (qa p c N r Vq9 RS [] L) (pW c N r [] L))(X L:Hl):AP Tryz.prog D g args (X++(MB c N sA m iv ov 0 0::mF c m::mE c m::(R++L))) s (qa p c N r Vq9 RS X L) (pW c N r X L):=
 (AP.mid (R:=λv M' s'=>∃ a m' iv ov R,r=.ok a m'/\Vq9 a v/\M'=MB c N (RS a) m' iv ov 0 0::mF c m'::mE c m'::R/\MG p c N m' iv ov R s') (Zq9:=λch M' _=>FN ch/\∃ m' st cd,r=.fin m' st cd/\AS c N m' st cd M') X (MB c N sA m iv ov 0 0::mF c m::mE c m::R) L
  ((h (X++L)).mono (λv L' s' _ ⟨a,m',iv,ov,R,h1,h2,h3,h4⟩=>⟨_,h3,a,m',iv,ov,R,h1,h2,rfl,h4⟩) λch L' s' _ ⟨h1,m',st,cd,Zq9,h2,h3,h4⟩=>⟨Zq9,h3,h1,m',st,cd,h2,h4⟩)).mono
  (λv L' s' _ ⟨M',h0,a,m',iv,ov,R,h1,h2,h3,h4⟩=>⟨a,m',iv,ov,R,h1,h2,by rw [h0,h3];rfl,h4⟩) λch L' s' _ ⟨M',h0,h1,m',st,cd,h2,h3⟩=>⟨h1,m',st,cd,M',h2,h0,h3⟩
def VE(a:Int)(v:Value):Prop:=v=iJ a/\iQ a
def VS(y:Int×Int)(v:Value):Prop:=v=iB y.1/\iQ y.2/\(y.1≠3->y.2=0)
def RE(_:Int):Int:=0
def RS(y:Int×Int):Int:=y.2
def ve(p:jc)(D n:Nat):Prop:=∀ (L:Hl) (s:World) (c:MC) (N:Nat) (f:iM) (d:Nat) (x:Ex) (b:Nat) (m:MS) (iv ov:Value) (R:Hl),CT p c s->c.nf=f.params.length+f.locals.length->lZ p f d s x [.func (.func 144) #[] #[iT b]]->MG p c N m iv ov R s->(iS p iV n).e f x m≠.out ->
 AP Tryz.prog D 144 [.pointer (some ⟨c.bm,0,none⟩),iT b] (MB c N 0 m iv ov 0 0::mF c m::mE c m::(R++L)) s (qa p c N ((iS p iV n).e f x m) VE RE [] L) (pW c N ((iS p iV n).e f x m) [] L)
def CC(p:jc)(D n:Nat):Prop:=∀ (L:Hl) (s:World) (c:MC) (N:Nat) (f:iM) (d:Nat) (x:iP) (b:Nat) (m:MS) (iv ov:Value) (R:Hl),CT p c s->c.nf=f.params.length+f.locals.length->qI p f d s x [.func (.func 64) #[] #[iT b]]->MG p c N m iv ov R s->(iS p iV n).t f x m≠.out ->
 AP Tryz.prog D 64 [.pointer (some ⟨c.bm,0,none⟩),iT b] (MB c N 0 m iv ov 0 0::mF c m::mE c m::(R++L)) s (qa p c N ((iS p iV n).t f x m) VS RS [] L) (pW c N ((iS p iV n).t f x m) [] L)
def FF(p:jc)(D n:Nat):Prop:=∀ (L:Hl) (s:World) (c:MC) (N k:Nat) (fk:iM) (vs:iG) (A:iE) (n1 c1:Nat) (m:MS) (iv ov:Value) (R:Hl),CT p c s->lX s A n1 c1 vs->p.funcs[k]?=some fk->vs.length=fk.params.length->MG p c N m iv ov R s->(iS p iV n).c k vs m≠.out ->
 AP Tryz.prog D 67 [.pointer (some ⟨c.bm,0,none⟩),iB (k:Int),.slice A n1 c1] (MB c N 0 m iv ov 0 0::mF c m::mE c m::(R++L)) s (qa p c N ((iS p iV n).c k vs m) VE RE [] L) (pW c N ((iS p iV n).c k vs m) [] L)
def rU{β:Type}{a:ER α}{k:α->MS->ER β}{r:ER β}(h:r=a.and k)(hr:r≠.out):a≠.out:=by rintro rfl;exact hr h
def Fs{β:Type}{a:ER α}{k:α->MS->ER β}{r:ER β}(h:r=a.and k)(h2:a=.fin m st cd):r=.fin m st cd:=by rw [h,h2];rfl
def MG.stp(h:MG p c N m iv ov R s):MG p c N { m with left:=m.left - 1 } iv ov R s:=⟨h.inp,h.out,h.ug,h.uf,h.ua,h.ng,h.lg,h.lf,h.lb,h.la,h.ar,h.lo,h.lc,ea (Nat.sub_le _ _) h.ll,h.lN⟩
def qvO(X:Hl)(N:Nat)(sA:Int)(m:MS)(iv ov:Value)(fv:Value):AP prog D 68 [.pointer (some ⟨c.bm,0,none⟩),iB st,iJ cd] (x9 c N sA m iv ov 0 0 fv::X) s (λ_ _ _=>False) λch L' _=>FN ch/\L'=x9 c N sA m iv ov st cd fv::X:=by
 refine rl (fn:=f68) jb func68 V Z ntmps68 Z (rs:=[]) Z [(0,_),(1,_),(2,_)] Z<|G8 ?_;refine iA (pU Y4) Z<|Wt 0 [_,_,_,_,_,_,_,_,_,_,_,_] Y9<|G2 ?_;refine iA (pU Y4) Z<|Wt 0 [_,_,_,_,_,_,_,_,_,_,_,_] Y9<|Nt<|Zr<|iA (qqm V V) Z<|iA (qyV V Z) Z ?_;refine qns Z (λtU=>?_);repeat (first|refine tE ?_|refine tH ?_)
 refine tJ [] Pr (Lr D) λ_ iD=>?_;exact qH
def qor(N:Nat)(m:MS)(iv ov:Value)(hl:m.left<=N)(hN:N<=50000000):AP prog D 65 [.pointer (some ⟨c.bm,0,none⟩)] (MB c N sA m iv ov 0 0::X) s (λ_ L' _=>¬ m.left=0/\L'=MB c N sA { m with left:=m.left - 1 } iv ov 0 0::X) λch L' _=>FN ch/\m.left=0/\L'=MB c N sA m iv ov 0 0::X:=by
 refine rl (fn:=f65) jb func65 V Z ntmps65 Z (rs:=[]) Z [(0,_)] Z<|tQ ?_ ?_<;>intro c1
 .have h0:=c1;refine Zr<|iA (qqm V V) Z<|iA (qyV V Z) Z ?_;refine qns Z (λtU=>?_);repeat (first|refine tE ?_|refine tH ?_)
  refine tJ [] Pr (Lr D) λ_ iD=>?_;exact ⟨rfl,O,rfl⟩
 have h0:=c1;refine G8 ?_;refine iA (kK (tD Z Z (jq O O)) (bl (Value.int .i64) (show (m.left:Int) - 1=((m.left - 1:Nat):Int) by omega))) Z<|G2 ?_;refine Wt 0 [_,_,_,_,_,_,_,_,_,_,_,_] Y9<|G6 ?_;refine iA (pU Y4) Z<|Wl 0 Y6<|iA (kK (nV Z Z (jq O O)) (bl (Value.int .i64) (show (N:Int) - (m.left:Int)+1=(N:Int) - ((m.left - 1:Nat):Int) by omega))) Z ?_;refine G2 ?_;refine iA (pU Y4) Z<|Wt 0 [_,_,_,_,_,_,_,_,_,_,_,_] Y9<|Zn ?_;refine px [] (.inl Z) (.nil) Z (Lr D) λ_ iD=>?_;exact ⟨O,rfl⟩
def Fc(X:Hl)(N:Nat)(m:MS)(iv ov:Value):AP prog D 68 [.pointer (some ⟨c.bm,0,none⟩),iB st,iJ cd] (X++(x9 c N sA m iv ov 0 0 fv::Y)) s (λ_ _ _=>False) λch L' _=>FN ch/\L'=X++(x9 c N sA m iv ov st cd fv::Y):=
 (AP.mid (R:=λ_ _ _=>False) (Zq9:=λch M' _=>FN ch/\M'=[x9 c N sA m iv ov st cd fv]) X [x9 c N sA m iv ov 0 0 fv] Y ((qvO (X++Y) N sA m iv ov fv).mono (λ_ _ _ _ h=>h.elim) λch L' s' _ h=>⟨[x9 c N sA m iv ov st cd fv],h.2,h.1,rfl⟩)).mono
  (λ_ _ _ _ ⟨_,_,h⟩=>h) λch L' s' _ ⟨M',h0,h1,h2⟩=>⟨h1,by rw [h0,h2];rfl⟩
def Iz{p:Prop} (h:p:=by
 cases d with
 | zero=>exact h.elim
 | succ e=>
  obtain ⟨b2,w,h1,h2,h3⟩:=h;simp only [List.cons.injEq,Value.func.injEq,Array.mk.injEq,Value.pointer.injEq,cZ,ie,and_true,iw] at h1;subst h1;exact ⟨e,w,h2,h3⟩):p:=h
def lZ.opn(h:lZ p f d s x [.func (.func 144) #[] #[iT b]]):∃ e w,iy s b 0 [w]/\tS p f (lZ p f e) s x w:=by
 exact Iz
def qI.opn{x:iP}(h:qI p f d s x [.func (.func 64) #[] #[iT b]]):∃ e w,iy s b 0 [w]/\tn p f (lZ p f e) (qI p f e) s x w:=by
 exact Iz
def Wv(p:jc)(D n:Nat):Prop:=∀ (L:Hl) (s:World) (c:MC) (N:Nat) (f:iM) (d:Nat) (x:Ex) (w:Value) (m:MS) (iv ov:Value) (R:Hl),CT p c s->c.nf=f.params.length+f.locals.length->tS p f (lZ p f d) s x w->MG p c N m iv ov R s->vX p iV (iS p iV n) f x m≠.out ->
 ∃ kk cap,w=.func (.func kk) #[] cap.toArray/\AP prog D kk (.pointer (some ⟨c.bm,0,none⟩)::cap) (MB c N 0 m iv ov 0 0::mF c m::mE c m::(R++L)) s (qa p c N (vX p iV (iS p iV n) f x m) VE RE [] L) (pW c N (vX p iV (iS p iV n) f x m) [] L)
def Wn(p:jc)(D n:Nat):Prop:=∀ (L:Hl) (s:World) (c:MC) (N:Nat) (f:iM) (d:Nat) (x:iP) (w:Value) (m:MS) (iv ov:Value) (R:Hl),CT p c s->c.nf=f.params.length+f.locals.length->tn p f (lZ p f d) (qI p f d) s x w->MG p c N m iv ov R s->sX p (iS p iV n) f x m≠.out ->
 ∃ kk cap,w=.func (.func kk) #[] cap.toArray/\AP prog D kk (.pointer (some ⟨c.bm,0,none⟩)::cap) (MB c N 0 m iv ov 0 0::mF c m::mE c m::(R++L)) s (qa p c N (sX p (iS p iV n) f x m) VS RS [] L) (pW c N (sX p (iS p iV n) f x m) [] L)
def Qj{p:Prop} (h:p:=by
 exact ⟨hp,m,0,0,_,by rw [hq,rp,au g0];rfl,rfl,hM.fin _ _ _⟩):p:=h
def XJ{p:Prop} (h:p:=by
 rintro _ _ sx1 z7 ⟨hp,g0,rfl⟩ tU;repeat (first|refine tE ?_|refine tH ?_)
 refine tJ [] Pr z7 λ_ iD=>?_;exact Qj):p:=h
def H0{p:Prop} (h:p:=by
  rw [<- hq] at hI;refine iA (jS Y3 (p9.le h1) Z) Z<|kb Y2 ?_;refine sr (first:=[]) (captured:=cap) Y3 (hI) ?_ ?_
  .rintro _ _ sx2 tY ⟨hp,m1,BQ,cd1,Z1,he1,rfl,hF1⟩ tU;repeat (first|refine tE ?_|refine tH ?_)
   refine tJ [] Pr (h1.t tY) λ_ iD=>?_;exact ⟨hp,m1,BQ,cd1,Z1,he1,rfl,hF1⟩
  rintro _ _ s2 h2 ⟨a1,m1,rB,ov1,R1,he1,⟨rfl,oQ⟩,rfl,ju⟩;refine G4 ?_;refine px [] (.inr Z) (.t1 Z) Z (h1.t h2) λ_ iD=>?_;exact ⟨a1,m1,rB,ov1,R1,he1,⟨rfl,oQ⟩,rfl,ju.le ((Lr D).t iD)⟩):p:=h
def qu3(ih:Wv p D n)(L:Hl)(s:World)(c:MC)(N:Nat)(f:iM)(d:Nat)(x:Ex)(b:Nat)(m:MS)(iv ov:Value)(R:Hl)(hC:CT p c s)(hn:c.nf=f.params.length+f.locals.length)(hv:lZ p f d s x [.func (.func 144) #[] #[iT b]])(hM:MG p c N m iv ov R s)(hr:(iS p iV (n+1)).e f x m≠.out):AP prog D 144 [.pointer (some ⟨c.bm,0,none⟩),iT b] (MB c N 0 m iv ov 0 0::mF c m::mE c m::(R++L)) s (qa p c N ((iS p iV (n+1)).e f x m) VE RE [] L) (pW c N ((iS p iV (n+1)).e f x m) [] L):=by
 obtain ⟨r,hq⟩:∃ r,r=(iS p iV (n+1)).e f x m:=⟨_,rfl⟩;rw [<- hq] at hr ⊢;change r=(rp m).and _ at hq;obtain ⟨e,w,p9,hw⟩:=hv.opn;refine rl (fn:=f144) jb func144 V Z ntmps144 Z (rs:=[.tmp 3]) Z [(0,_),(1,_)] Z<|G8 ?_;refine sr (first:=[]) (captured:=[]) Y3 (qor N m iv ov hM.ll hM.lN) ?_ ?_;.exact XJ
 rintro _ _ s1 h1 ⟨g0,rfl⟩;rw [rp,ak g0] at hq;simp only [ER.and] at hq;have mP:=(hM.le h1).stp;refine G4 ?_;obtain ⟨kk,cap,rfl,hI⟩:=ih L _ c N f e x w _ iv ov R (hC.le h1) hn (hw.le h1 λ_ _ h=>lZ.le h1 h) mP (by rw [<- hq];exact hr);exact H0
def qyx(ih:Wn p D n)(L:Hl)(s:World)(c:MC)(N:Nat)(f:iM)(d:Nat)(x:iP)(b:Nat)(m:MS)(iv ov:Value)(R:Hl)(hC:CT p c s)(hn:c.nf=f.params.length+f.locals.length)(hv:qI p f d s x [.func (.func 64) #[] #[iT b]])(hM:MG p c N m iv ov R s)(hr:(iS p iV (n+1)).t f x m≠.out):AP prog D 64 [.pointer (some ⟨c.bm,0,none⟩),iT b] (MB c N 0 m iv ov 0 0::mF c m::mE c m::(R++L)) s (qa p c N ((iS p iV (n+1)).t f x m) VS RS [] L) (pW c N ((iS p iV (n+1)).t f x m) [] L):=by
 obtain ⟨r,hq⟩:∃ r,r=(iS p iV (n+1)).t f x m:=⟨_,rfl⟩;rw [<- hq] at hr ⊢;change r=(rp m).and _ at hq;obtain ⟨e,w,p9,hw⟩:=hv.opn;refine rl (fn:=f64) jb func64 V Z ntmps64 Z (rs:=[.tmp 3]) Z [(0,_),(1,_)] Z<|G8 ?_;refine sr (first:=[]) (captured:=[]) Y3 (qor N m iv ov hM.ll hM.lN) ?_ ?_;.exact XJ
 rintro _ _ s1 h1 ⟨g0,rfl⟩;rw [rp,ak g0] at hq;simp only [ER.and] at hq;have mP:=(hM.le h1).stp;refine G4 ?_;obtain ⟨kk,cap,rfl,hI⟩:=ih L _ c N f e x w _ iv ov R (hC.le h1) hn (hw.le h1 (λ_ _ h=>lZ.le h1 h) (λ_ _ h=>qI.le h1 h)) mP (by rw [<- hq];exact hr);exact H0
def UX(h:∀ x∈l,iQ x)(i:Nat):iQ (l.getD i 0):=by
 rw [aG];cases hl:l[i]? with
 | none=>exact ⟨Θ,Θ⟩
 | some x=>exact h x (ax hl)
theorem qEE(hk:x.kind=2)(h:0<=k8 f x.name):vX p iV S f x m=.ok (m.frm.getD (k8 f x.name).toNat 0) m:=by grind [vX,xb]
theorem qJm{g:jv}(hk:x.kind=2)(h:¬ 0<=k8 f x.name)(hg:mS p x.name=(k:Int))(hp:p.o[k]?=some g)(h1:g.kind=1):vX p iV S f x m=.ok g.num m:=by grind [vX,xb]
theorem qJp{g:jv}(hk:x.kind=2)(h:¬ 0<=k8 f x.name)(hg:mS p x.name=(k:Int))(hp:p.o[k]?=some g)(h1:¬ g.kind=1):vX p iV S f x m=.ok (m.glo.getD (k:Int).toNat 0) m:=by grind [vX,xb]
def MG.rd(h:MG p c N m iv ov R s){l:iH}{q:Nat}(hb:lP s A n q l):MG p c N { m with inp:=l } (.slice A n q) ov R s:=⟨⟨A,n,q,rfl,hb⟩,h.out,h.ug,h.uf,h.ua,h.ng,h.lg,h.lf,h.lb,h.la,h.ar,h.lo,h.lc,h.ll,h.lN⟩
def qIr(f:iM)(hn:c.nf=f.params.length+f.locals.length)(hM:MG p c N m iv ov R s)(hk:x.kind=1)(hc:iy s b 0 [iB x.kind,iB x.op,iJ x.num,St x.name,.slice A1 n1 z1])(hu:iQ x.num):AP prog D 196 [.pointer (some ⟨c.bm,0,none⟩),iT b] (MB c N 0 m iv ov 0 0::mF c m::mE c m::(R++L)) s (qa p c N (vX p iV S f x m) VE RE [] L) (pW c N (vX p iV S f x m) [] L):=by
 refine rl (fn:=f196) jb func196 V Z ntmps196 Z (rs:=[.tmp 3]) Z [(0,_),(1,_)] Z<|G7 ?_;refine iA (pU Y4) Z<|iA (nK 2 Y3 Pz Z) Z<|G4 ?_;refine px [] (.inr Z) (.t1 Z) Z (Lr D) λ_ iD=>?_;exact ⟨_,m,iv,ov,R,by rw [vX,au hk],⟨rfl,hu⟩,rfl,hM.le Lc⟩
def qDn(hn:c.nf=f.params.length+f.locals.length)(hM:MG p c N m iv ov R s)(hk:x.kind=2)(h0:0<=k8 f x.name)(hl:k8 f x.name < ((f.params.length+f.locals.length:Nat):Int))(hc:iy s b 0 [iB (k8 f x.name)]):AP prog D 240 [.pointer (some ⟨c.bm,0,none⟩),iT b] (MB c N 0 m iv ov 0 0::mF c m::mE c m::(R++L)) s (qa p c N (vX p iV S f x m) VE RE [] L) (pW c N (vX p iV S f x m) [] L):=by
 have qX:k8 f x.name < (m.frm.length:Int):=by rw [hM.lf,hn];exact hl
 have zd:k8 f x.name < (c.nf:Int):=by rw [hn];exact hl
 refine rl (fn:=f240) jb func240 V Z ntmps240 Z (rs:=[.tmp 3]) Z [(0,_),(1,_)] Z<|G6 ?_;refine mr jt 8 Z _ (λ_ h=>h) λs1 h1=>H4 ?_;refine za 4 Z (jS Y3 Pz Z) Z<|za 5 Z (xQ Y6 h0 zd) Z<|za 6 Z (rS 2 Y4 (Ph h0 qX)) Z<|H1 ?_;refine ji V<|G2 ?_;refine px [] (.inr Z) (.t1 Z) Z h1 λ_ iD=>?_;exact ⟨_,m,iv,ov,R,qEE hk h0,⟨rfl,UX hM.uf _⟩,rfl,hM.le Lc⟩
def qHA(f:iM)(x:Ex)(hn:c.nf=f.params.length+f.locals.length)(hM:MG p c N m iv ov R s)(k:Nat){g:jv}(hk:x.kind=2)(hs:¬ 0<=k8 f x.name)(hg:mS p x.name=(k:Int))(hp:p.o[k]?=some g)(pH:g.kind=1)(hc:iy s b 0 [iB g.kind,St g.name,iJ g.num,.slice A n1 z1])(hu:iQ g.num):AP prog D 241 [.pointer (some ⟨c.bm,0,none⟩),iT b] (MB c N 0 m iv ov 0 0::mF c m::mE c m::(R++L)) s (qa p c N (vX p iV S f x m) VE RE [] L) (pW c N (vX p iV S f x m) [] L):=by
 refine rl (fn:=f241) jb func241 V Z ntmps241 Z (rs:=[.tmp 3]) Z [(0,_),(1,_)] Z<|G7 ?_;refine iA (pU Y4) Z<|iA (nK 2 Y3 Pz Z) Z<|G4 ?_;refine px [] (.inr Z) (.t1 Z) Z (Lr D) λ_ iD=>?_;exact ⟨_,m,iv,ov,R,qJm hk hs hg hp pH,⟨rfl,hu⟩,rfl,hM.le Lc⟩
def qJq(f:iM)(x:Ex)(hn:c.nf=f.params.length+f.locals.length)(hM:MG p c N m iv ov R s)(g:jv)(hk:x.kind=2)(hs:¬ 0<=k8 f x.name)(hg:mS p x.name=(k:Int))(hp:p.o[k]?=some g)(pH:¬ g.kind=1)(hc:iy s b 0 [iB (k:Int)]):AP prog D 242 [.pointer (some ⟨c.bm,0,none⟩),iT b] (MB c N 0 m iv ov 0 0::mF c m::mE c m::(R++L)) s (qa p c N (vX p iV S f x m) VE RE [] L) (pW c N (vX p iV S f x m) [] L):=by
 have hkl:=(al.1 hp).1;have qX:(k:Int) < (m.glo.length:Int):=by rw [hM.lg,hM.ng];omega
 have zd:(k:Int) < (c.ng:Int):=by rw [hM.ng];omega
 refine rl (fn:=f242) jb func242 V Z ntmps242 Z (rs:=[.tmp 3]) Z [(0,_),(1,_)] Z<|G6 ?_;refine mr jt 8 Z _ (λ_ h=>h) λs1 h1=>H4 ?_;refine za 4 Z (jS Y3 Pz Z) Z<|za 5 Z (xQ Y6 O zd) Z<|za 6 Z (rS 1 Y4 (Ph O qX)) Z<|H1 ?_;refine ji V<|G2 ?_;refine px [] (.inr Z) (.t1 Z) Z h1 λ_ iD=>?_;exact ⟨_,m,iv,ov,R,qJp hk hs hg hp pH,⟨rfl,UX hM.ug _⟩,rfl,hM.le Lc⟩
def Hv{p:Prop} (h:p:=by
 first
  | (exact ⟨_,m,_,ov,R,by simp only [yJ,hE],⟨rfl,⟨by decide,by decide⟩⟩,rfl,hM.le Lc⟩)
  | (exact ⟨_,{ m with inp:=l },_,ov,R,by simp only [yJ,hl],⟨rfl,⟨by omega,by have:=ch.toNat_lt;omega⟩⟩,rfl,(hM.rd hI.tail).le Lc⟩)):p:=h
def qHY(f:iM)(x:Ex)(hn:c.nf=f.params.length+f.locals.length)(hM:MG p c N m iv ov R s)(hk:x.kind=5):AP prog D 199 [.pointer (some ⟨c.bm,0,none⟩)] (MB c N 0 m iv ov 0 0::mF c m::mE c m::(R++L)) s (qa p c N (vX p iV S f x m) VE RE [] L) (pW c N (vX p iV S f x m) [] L):=by
 obtain ⟨Ai,ni,qi,rfl,hI⟩:=hM.inp;have hni:=hI.1;have vS:vX p iV S f x m=yJ m:=by rw [vX,ak O,ak O,ak O,ak O,au hk]
 rw [vS];refine rl (fn:=f199) jb func199 V Z ntmps199 Z (rs:=[.tmp 2]) Z [(0,_)] Z<|MW ?_ ?_<;>intro c1;.have hE:m.inp=[]:=aJ O;refine G7 ?_;refine px [] (.inr Z) (.t1 Z) Z (Lr D) λ_ iD=>?_;exact Hv
 have nE:0 < ni:=O
 obtain ⟨b,off,ch,hAi,ry,nS⟩:=lP.at_ hI nE;subst hAi;obtain ⟨l,hl⟩:∃ l,m.inp=ch::l:=by
   cases h:m.inp with
   | nil=>rw [h] at ry;cases ry
   | cons y l=>rw [h] at ry;simp at ry;exact ⟨l,by rw [ry]⟩
 rw [hl] at hI;refine G8 ?_;refine iA (lK Y6 nE) Z<|iA (jS Y3 Pz Z) Z<|lM ?_;refine iA (UR Z Z Z Z Z (show 1<=ni by omega)) Z<|G2 ?_;refine Wt 0 [_,_,_,_,_,_,_,_,_,_,_,_] Y9<|G5 ?_;refine iA (kK (Kx Z Z Z Z Z) (bl (Value.int .u32) (show IntKind.u32.wrap (ch.toNat:Int)=(ch.toNat:Int) by rw [dP];have:=ch.toNat_lt;omega))) Z<|G4 ?_;refine px [] (.inr Z) (.t1 Z) Z (Lr D) λ_ iD=>?_;exact Hv
def iX(p:jc)(S:Sem)(f:iM)(nm:iH)(y:Ex)(m:MS):ER Int:=(S.e f y m).and λi m1=>if ((ns p nm m1).length:Int)<=i then .fin m1 1 1 else .ok i m1
theorem ER.and_assoc{α β γ:Type}(r:ER α)(k:α->MS->ER β)(g:β->MS->ER γ):(r.and k).and g=r.and λa m=>(k a m).and g:=by cases r<;>rfl
def qJn(hk:x.kind=3):vX p iV S f x m=(iX p S f x.name (kP x.args 0) m).and λi m1=>.ok ((ns p x.name m1).getD i.toNat 0) m1:=by
 rw [vX,ak O,ak O,au hk,iX,ER.and_assoc];congr 1;funext i m1;split<;>rfl
def qwo{x:iP}(hk:x.kind=2):sX p S f x m=(iX p S f x.name (kP x.exprs 0) m).and λi m1=>(S.e f (kP x.exprs 1) m1).and λv m2=>.ok (0,0) { m2 with ae:=m2.ae.set (mS p x.name).toNat ((ns p x.name m2).set i.toNat v) }:=by
 rw [sX,ak O,au hk,iX,ER.and_assoc];congr 1;funext i m1;split<;>rfl
def Sf{y:Ex}{m1:MS}(h:iX p S f nm y m=.ok a m1):a < ((ns p nm m1).length:Int):=by
 unfold iX at h;cases hr:S.e f y m with
 | out=>rw [hr] at h;cases h
 | fin _ _ _=>rw [hr] at h;cases h
 | ok i m2=>
  rw [hr] at h;simp only [ER.and] at h;split at h
  . cases h
  . injection h with h1 h2;subst h1;subst h2;omega
theorem qED(hk:x.kind=4):vX p iV S f x m=(nn (S.e f) x.args m).and λvs m=>S.c (r9 p x.name).toNat vs m:=by grind [vX]
theorem qJo(hk:x.kind=6):vX p iV S f x m=(S.e f (kP x.args 0) m).and λa m=>.ok (if (pm x.op 0).1=0 then qc x.op a 0 else 0) m:=by grind [vX,iV]
def qJl(hk:x.kind=7):vX p iV S f x m=(S.e f (kP x.args 0) m).and λa m=>if x.op=20/\a=0 then .ok 0 m else if x.op=21/\a≠0 then .ok 1 m else (S.e f (kP x.args 1) m).and λb m=>if (pm x.op b).1=0 then .ok (qc x.op a b) m else .fin m 1 2:=by
 rw [vX,ak O,ak O,ak O,ak O,ak O,ak O];congr 1;funext a m;split
 . rfl
 split
 . rfl
 congr 1;funext b m;by_cases h:(pm x.op b).1=0
 . simp only [iV,au h]
 . simp only [iV,ak h]
def WK{k x y:Int}(hx:iQ x)(hy:iQ y):iQ (if (pm k y).1=0 then qc k x y else 0):=by
 split
 . exact Fw hx hy
 . exact ⟨Θ,Θ⟩
def Um:∀ {ab:List (Option Nat)} {gs:List jv} {k b:Nat} {g:jv},ab[k]?=some (some b)->gs[k]?=some g->(wk ab gs)[k]?=some (.slice (jZ b) g.num.toNat g.num.toNat)
 | [],_,_,_,_,h,_=>by simp at h
 | _::_,[],_,_,_,_,h=>by simp at h
 | some b::r,g::gs,0,b2,g2,h1,h2=>by simp at h1 h2;subst h1;subst h2;rfl
 | none::r,g::gs,0,b2,g2,h1,h2=>by simp at h1
 | some b::r,g::gs,k+1,b2,g2,h1,h2=>by rw [wk,bH];exact Um Q5 Q9
 | none::r,g::gs,k+1,b2,g2,h1,h2=>by rw [wk,bH];exact Um Q5 Q9
def Ul:∀ {ab:List (Option Nat)} {ls:List iG} {k b:Nat},ab[k]?=some (some b)->k < ls.length->∃ i,(oR ab ls)[i]?=some (b,cb (wv (ls.getD k [])) 34)/\i < (oR ab ls).length/\∀ l,(oR ab ls).set i (b,cb (wv l) 34)=oR ab (ls.set k l)
 | [],_,_,_,h,_=>by simp at h
 | _::_,[],_,_,_,h=>by simp at h
 | some b::r,l::ls,0,b2,h1,h2=>by
  simp at h1;subst h1;exact ⟨0,rfl,by simp [oR],λl=>rfl⟩
 | none::r,l::ls,0,b2,h1,h2=>by simp at h1
 | some b::r,l::ls,k+1,b2,h1,h2=>by
  obtain ⟨i,a1,a2,a3⟩:=Ul (ab:=r) (ls:=ls) (k:=k) (b:=b2) Q5 Q9;refine ⟨i+1,by rw [oR,bH];simpa using a1,by rw [oR,aw];omega,λl2=>?_⟩;rw [dr,oR,oR,dr,a3]
 | none::r,l::ls,k+1,b2,h1,h2=>by
  obtain ⟨i,a1,a2,a3⟩:=Ul (ab:=r) (ls:=ls) (k:=k) (b:=b2) Q5 Q9;exact ⟨i,by rw [oR];simpa using a1,a2,λl2=>by rw [dr,oR,oR,a3]⟩
def qoL{b:Nat}{o o':Obj}:∀ {L:Hl} {i:Nat},L[i]?=some (b,o)->lV L i o'=L.set i (b,o')
 | [],_,h=>by simp at h
 | x::L,0,h=>by simp at h;subst h;rfl
 | x::L,i+1,h=>by rw [lV,dr,qoL Q2]
section
variable{c:MC}{iv:Value}{g:jv}
def MG.ary(hM:MG p c N m iv ov R s)(hC:CT p c s)(hp:p.o[k]?=some g)(h3:g.kind=3)(hg:mS p nm=(k:Int)):∃ b,c.ab[k]?=some (some b)/\iy s c.ba (0+k) [.slice (jZ b) g.num.toNat g.num.toNat]/\(ns p nm m).length=g.num.toNat/\k < c.ng:=by
 obtain ⟨⟨b,hb⟩,hl⟩:=hM.ar k g hp h3;exact ⟨b,hb,hC.ar.nth (Um hb hp),by rw [ns,hg,aD];exact hl,by rw [hM.ng];exact (al.1 hp).1⟩
def MG.blk(hM:MG p c N m iv ov R s)(hb:c.ab[k]?=some (some b))(hk:k < c.ng)(hg:mS p nm=(k:Int))(x y z:Nat×Obj)(L:Hl):∃ i,(x::y::z::(R++L))[i+3]?=some (b,cb (wv (ns p nm m)) 34)/\∀ l,(∃ R',lV (x::y::z::(R++L)) (i+3) (cb (wv l) 34)=x::y::z::(R'++L)/\∀ s',MG p c N m iv ov R s'->l.length=(ns p nm m).length->(∀ v∈l,iQ v)->MG p c N { m with ae:=m.ae.set k l } iv ov R' s'):=by
  obtain ⟨Mo,hR,hO⟩:=hM.out;obtain ⟨i,a1,a2,a3⟩:=Ul (ls:=m.ae) hb (by rw [hM.la];exact hk);have hA:ns p nm m=m.ae.getD k []:=by rw [ns,hg,aD]
  refine ⟨i,?_,λl=>⟨oR c.ab (m.ae.set k l)++Mo,?_,λs' qv hl hu=>?_⟩⟩
  . show (R++L)[i]?=_
    rw [hR,am,aV a2,a1,hA]
  . rw [<- a3,hR,qoL (b:=b) (o:=cb (wv (ns p nm m)) 34)]
    . show x::y::z::((oR c.ab m.ae++Mo++L).set i _)=_
      rw [am,List.set_append_left _ _ a2,am]
    . show (oR c.ab m.ae++Mo++L)[i]?=_
      rw [am,aV a2,a1,hA]
  . have xI:k < m.ae.length:=by rw [hM.la];exact hk
    refine ⟨qv.inp,⟨Mo,Z,hO⟩,qv.ug,qv.uf,λl2 h2 v hv=>?_,qv.ng,qv.lg,qv.lf,qv.lb,by rw [cD];exact qv.la,λj g2 hj h3=>?_,qv.lo,qv.lc,qv.ll,qv.lN⟩
    . rcases gn h2 with h2|rfl
      . exact qv.ua l2 h2 v hv
      . exact hu v hv
    . obtain ⟨q1,q2⟩:=qv.ar j g2 hj h3
      refine ⟨q1,?_⟩;by_cases hjk:k=j
      . subst hjk
        show ((m.ae.set k l).getD k []).length=_;rw [aG,bJ xI,dY,hl,hA];exact q2
      . show ((m.ae.set k l).getD j []).length=_
        rw [aG,bt hjk,<- aG];exact q2
def IN{p:Prop} (h:p:=by
 rw [ns,hg,aD,aG] at hx;cases hl:m.ae[k]? with
 | none=>rw [hl] at hx;cases hx
 | some l=>rw [hl] at hx;exact hM.ua l (ax hl) x hx):p:=h
def MG.ix(hM:MG p c N m iv ov R s)(hg:mS p nm=(k:Int))(i:Nat):iQ ((ns p nm m).getD i 0):=by
 refine UX (λx hx=>?_) i;exact IN
end
def Qk{p:Prop} (h:p:=by
 exact ⟨rj,mf1,sf1,cf1,Zf1,Fs hq he1,rfl,hF1⟩):p:=h
def Ql{p:Prop} (h:p:=by
 exact ⟨xK,m1,_,_,_,by rw [hq,au O],rfl,((mP.le hx3).fin _ _ _)⟩):p:=h
def XG{p:Prop} (h:p:=by
 rintro _ _ sx3 hx3 ⟨xK,rfl⟩ tU;repeat (first|refine tE ?_|refine tH ?_)
 refine tJ [] Pr (h1.t hx3) λ_ iD=>?_;exact Ql):p:=h
def EV{p:Prop} (h:p:=by
 rintro _ _ sx1 z7 ⟨rj,mf1,sf1,cf1,Zf1,he1,rfl,hF1⟩ tU;repeat (first|refine tE ?_|refine tH ?_)
 refine tJ [] Pr z7 λ_ iD=>?_;exact Qk):p:=h
def T0(hE:ve p D n)(N:Nat)(f:iM)(d:Nat)(y:Ex)(nm:iH)(g:jv)(m:MS)(iv ov:Value)(R:Hl)(hC:CT p c s)(hn:c.nf=f.params.length+f.locals.length)(hM:MG p c N m iv ov R s)(hg:mS p nm=(k:Int))(hp:p.o[k]?=some g)(vL:g.kind=3)(hv:lZ p f d s y [.func (.func 144) #[] #[iT b]])(hr:iX p (iS p iV n) f nm y m≠.out):AP prog D 106 [.pointer (some ⟨c.bm,0,none⟩),iB (k:Int),.func (.func 144) #[] #[iT b]] (MB c N 0 m iv ov 0 0::mF c m::mE c m::(R++L)) s (qa p c N (iX p (iS p iV n) f nm y m) VE RE [] L) (pW c N (iX p (iS p iV n) f nm y m) [] L):=by
 obtain ⟨r,hq⟩:∃ r,r=iX p (iS p iV n) f nm y m:=⟨_,rfl⟩;rw [<- hq] at hr ⊢;rw [iX] at hq;refine rl (fn:=f106) jb func106 V Z ntmps106 Z (rs:=[.tmp 6]) Z [(0,_),(1,_),(2,_)] Z<|G9 ?_;refine sr (first:=[]) (captured:=[iT b]) Y3 (AP.fr (λL=>hE L _ c N f d y _ m iv ov R (hC.le (Lr D)) hn (hv.le (Lr D)) (hM.le (Lr D)) (rU hq hr)) [] _) ?_ ?_;.exact EV
 rintro _ _ s1 h1 ⟨a1,m1,rB,ov1,R1,he1,⟨rfl,oQ⟩,rfl,mP⟩;rw [he1] at hq;simp only [ER.and] at hq;simp only [jC,jD];obtain ⟨ba,qW,vO,xJ,zc⟩:=mP.ary (hC.le h1) hp vL hg;rw [xJ] at hq;have Bk:=oQ.1;have hhi:=oQ.2;have hgu:=(hC.gu g (ax hp)).2;have hgn:g.num.toNat<=9223372036854775807:=O
 refine G7 ?_;refine iA (sW Y5 (ME O O)) Z<|G5 ?_;refine iA (lK Y6 zc) Z<|iA (jS Y3 (vO.le (Lr D)) Z) Z<|Ws Y4<|iA (sW Y5 (ME O O)) Z<|va Y3<|J2 ?_ ?_<;>intro c2
 .have q9:=c2;refine G2 ?_;refine sr (first:=[]) (captured:=[]) Y3 (Fc [] N m1 rB ov1) ?_ ?_;.exact XG
  rintro _ _ s3 h3 ⟨⟩
 have q9:=c2;rw [ak O] at hq;refine G9 ?_;refine px [] (.inr Z) (.t1 Z) Z h1 λ_ iD=>?_;exact ⟨_,m1,rB,ov1,R1,hq,⟨rfl,oQ⟩,rfl,(mP.le ((Lr D).t iD))⟩
def Hw{p:Prop} (h:p:=by
 exact ⟨rP,mf2,sf2,cf2,Zf2,Fs hq rN,rfl,mK⟩):p:=h
def Xw{p:Prop} (h:p:=by
 refine px [] (.inr Z) (.t1 Z) Z Lc λ_ iD=>?_;exact ⟨_,m2,iv2,ov2,R2,hq,⟨rfl,ju.ix hg _⟩,rfl,Pz⟩):p:=h
def DR{p:Prop} (h:p:=by
 rintro _ _ sx2 tY ⟨rP,mf2,sf2,cf2,Zf2,rN,rfl,mK⟩ tU;repeat (first|refine tE ?_|refine tH ?_)
 refine tJ [] Pr Lc λ_ iD=>?_;exact Hw):p:=h
def qIa(hE:ve p D n)(hC:CT p c s)(hn:c.nf=f.params.length+f.locals.length)(hM:MG p c N m iv ov R s)(g:jv)(hk:x.kind=3)(hg:mS p x.name=(k:Int))(hp:p.o[k]?=some g)(vL:g.kind=3)(pH:iy s b1 0 [iB (k:Int)])(uu:iy s b2 0 [.slice A n1 z1])(hA:qo p f d s A n1 z1 x.args)(h0:0 < n1)(hr:vX p iV (iS p iV n) f x m≠.out):AP prog D 198 [.pointer (some ⟨c.bm,0,none⟩),iT b1,iT b2] (MB c N 0 m iv ov 0 0::mF c m::mE c m::(R++L)) s (qa p c N (vX p iV (iS p iV n) f x m) VE RE [] L) (pW c N (vX p iV (iS p iV n) f x m) [] L):=by
 obtain ⟨r,hq⟩:∃ r,r=vX p iV (iS p iV n) f x m:=⟨_,rfl⟩;rw [<- hq] at hr ⊢;rw [qJn hk] at hq;obtain ⟨B0,o0,b0,rfl,hcE,hvE⟩:=qo.at_ hA h0;obtain ⟨ba,qW,vO,xJ,zc⟩:=hM.ary hC hp vL hg;refine rl (fn:=f198) jb func198 V Z ntmps198 Z (rs:=[.tmp 4]) Z [(0,_),(1,_),(2,_)] Z<|G6 ?_;refine mr jt 16 Z ([]:Hl) (λx hx=>by cases hx) λs1 h1=>H3 ?_;refine za 4 Z (jS Y3 (pH.le h1) Z) Z<|H1 ?_;refine za 8 Z (jS Y3 (pH.le h1) Z) Z<|za 9 Z (jS Y3 (uu.le h1) Z) Z<|za 10 Z (lK Y6 h0) Z<|za 11 Z (jS Y3 Pz Z) Z ?_;refine kA 3 12 V ?_ ?_
 .refine jW Z Tt (Wd 0 Y5) Z<|za 5 Z (lK Y6 zc) Z<|za 6 Z (jS Y3 Pz Z) Z<|iF 12 V ?_;refine zr Z Tt (first:=[]) (captured:=[]) Z Z Z (AP.fr (λL=>T0 hE N f d (kP x.args 0) x.name g m iv ov R Pz hn Pz hg hp vL Pz (rU hq hr)) [] _) ?_ ?_;.exact DR
  rintro _ _ s2 h2 ⟨a2,m2,iv2,ov2,R2,rN,⟨rfl,o4⟩,rfl,ju⟩;refine ⟨(λx hx=>by cases hx),?_⟩;rw [rN] at hq;simp only [ER.and] at hq;simp only [jC,jD];have hia:=Sf rN;have Bk:=o4.1;obtain ⟨ba2,rf,_,hla2,_⟩:=ju.ary Pz hp vL hg;rw [qW] at rf;injection rf with rf
  injection rf with rf;subst rf;obtain ⟨i,hbi,_⟩:=ju.blk qW zc hg (MB c N 0 m2 iv2 ov2 0 0) (mF c m2) (mE c m2) L;refine za 13 Z (xQ Y6 Bk (show a2 < ((g.num.toNat:Nat):Int) by omega)) Z<|iF 14 V<|jW Z Tt (rS (i+3) ⟨Z,hbi,Z,Z⟩ (Ph Bk hia)) Z<|H1 ?_;refine ji V<|G2 ?_;exact Xw
 refine zr Z Tt (first:=[]) (captured:=[]) Z Z Z (AP.fr (λL=>T0 hE N f d (kP x.args 0) x.name g m iv ov R Pz hn Pz hg hp vL Pz (rU hq hr)) [] _) ?_ ?_;.exact DR
 rintro _ _ s2 h2 ⟨a2,m2,iv2,ov2,R2,rN,⟨rfl,o4⟩,rfl,ju⟩;refine ⟨(λx hx=>by cases hx),?_⟩;rw [rN] at hq;simp only [ER.and] at hq;simp only [jC,jD];have hia:=Sf rN;have Bk:=o4.1;obtain ⟨ba2,rf,_,hla2,_⟩:=ju.ary Pz hp vL hg;rw [qW] at rf;injection rf with rf
 injection rf with rf;subst rf;obtain ⟨i,hbi,_⟩:=ju.blk qW zc hg (MB c N 0 m2 iv2 ov2 0 0) (mF c m2) (mE c m2) L;refine iF 3 V<|jW Z Tt (Wd 0 Y5) Z<|za 5 Z (lK Y6 zc) Z<|za 6 Z (jS Y3 (vO.le h1) Z) Z<|za 13 Z (xQ Y6 Bk (show a2 < ((g.num.toNat:Nat):Int) by omega)) Z<|iF 14 V<|jW Z Tt (rS (i+3) ⟨Z,hbi,Z,Z⟩ (Ph Bk hia)) Z<|H1 ?_;refine ji V<|G2 ?_;exact Xw
def Hx{p:Prop} (h:p:=by
 exact ⟨_,m2,iv2,ov2,R2,hq,⟨rfl,WK o4 ⟨by decide,by decide⟩⟩,rfl,Pz⟩):p:=h
def SF{p:Prop} (h:p:=by
 exact ⟨xK,mf3,sf3,cf3,Zf3,Fs hq he3,rfl,hF3⟩):p:=h
def qJh(hE:ve p D n)(hC:CT p c s)(hn:c.nf=f.params.length+f.locals.length)(hM:MG p c N m iv ov R s){z2:Nat}(hk:x.kind=6)(pH:iy s b1 0 [iB x.kind,iB x.op,iJ x.num,St x.name,.slice A1 n1 z1])(uu:iy s b2 0 [.slice A n2 z2])(hA:qo p f d s A n2 z2 x.args)(h0:0 < n2)(hr:vX p iV (iS p iV n) f x m≠.out):AP prog D 200 [.pointer (some ⟨c.bm,0,none⟩),iT b1,iT b2] (MB c N 0 m iv ov 0 0::mF c m::mE c m::(R++L)) s (qa p c N (vX p iV (iS p iV n) f x m) VE RE [] L) (pW c N (vX p iV (iS p iV n) f x m) [] L):=by
 obtain ⟨r,hq⟩:∃ r,r=vX p iV (iS p iV n) f x m:=⟨_,rfl⟩;rw [<- hq] at hr ⊢;rw [qJo hk] at hq;obtain ⟨B0,o0,b0,rfl,hcE,hvE⟩:=qo.at_ hA h0;refine rl (fn:=f200) jb func200 V Z ntmps200 Z (rs:=[.tmp 4]) Z [(0,_),(1,_),(2,_)] Z<|G6 ?_;refine mr jt 14 Z ([]:Hl) (λx hx=>by cases hx) λs1 h1=>H1 ?_;refine za 1 Z (nK 1 Y3 (pH.le h1) Z) Z<|za 2 Z (jS Y3 (uu.le h1) Z) Z<|za 3 Z (lK Y6 h0) Z<|za 4 Z (jS Y3 Pz Z) Z<|H1 ?_;refine kA 6 11 V ?_ ?_
 .refine zr Z Tt (first:=[]) (captured:=[iT b0]) Z Z Z (AP.fr (λL=>hE L _ c N f d (kP x.args 0) _ m iv ov R Pz hn Pz Pz (rU hq hr)) [] _) ?_ ?_;.exact DR
  rintro _ _ s2 h2 ⟨a2,m2,iv2,ov2,R2,rN,⟨rfl,o4⟩,rfl,ju⟩;refine ⟨(λx hx=>by cases hx),?_⟩;rw [rN] at hq;simp only [ER.and] at hq;simp only [jC,jD];refine kA 7 11 V ?_ ?_;.refine Jb Z Tt Z Z Z (Aj o4 ⟨Θ,Θ⟩) ?_;rintro _ _ s3 h3 ⟨rfl,rfl⟩;refine ⟨(λx hx=>by cases hx),?_⟩;refine H3 ?_;refine iF 11 V<|ky Z Tt Z [_,_] Y2 λt4 s4 h4=>H1 ?_;refine iF 13 V<|Wu Z Tt 0 [_,_] Y9 (λx hx=>by cases hx)<|ji V<|G8 ?_;refine px [_] (.inr Z) (.t1 Z) Z Lc λ_ iD=>?_;exact Hx
  refine ky Z Tt Z [_,_] Y2 λβ3 s3 h3=>iF 7 V<|Jb Z Tt Z Z Z (Aj o4 ⟨Θ,Θ⟩) ?_;rintro _ _ s4 h4 ⟨rfl,rfl⟩;refine ⟨(λx hx=>by cases hx),?_⟩;refine H4 ?_;refine iF 13 V<|Wu Z Tt 0 [_,_] Y9 (λx hx=>by cases hx)<|ji V<|G8 ?_;refine px [_] (.inr Z) (.t1 Z) Z Lc λ_ iD=>?_;exact Hx
 refine ky Z Tt Z [_,_] Y2 λβ2 s2 h2=>iF 6 V ?_;refine zr Z Tt (first:=[]) (captured:=[iT b0]) Z Z Z (AP.fr (λL=>hE L _ c N f d (kP x.args 0) _ m iv ov R Pz hn (hvE.le (h1.t h2)) Pz (rU hq hr)) [_] _) ?_ ?_
 .rintro _ _ sx3 hx3 ⟨xK,mf3,sf3,cf3,Zf3,he3,rfl,hF3⟩ tU;repeat (first|refine tE ?_|refine tH ?_)
  refine tJ [_] Pr Lc λ_ iD=>?_;exact SF
 rintro _ _ s3 h3 ⟨a3,m3,iv3,ov3,R3,he3,⟨rfl,hu3⟩,rfl,l0⟩;refine ⟨(λx hx=>by cases hx),?_⟩;rw [he3] at hq;simp only [ER.and] at hq;simp only [jC,jD];refine iF 7 V<|Jb Z Tt Z Z Z (Aj hu3 ⟨Θ,Θ⟩) ?_;rintro _ _ s4 h4 ⟨rfl,rfl⟩;refine ⟨(λx hx=>by cases hx),?_⟩;refine H4 ?_;refine iF 13 V<|Wu Z Tt 0 [_,_] Y9 (λx hx=>by cases hx)<|ji V<|G8 ?_;refine px [_] (.inr Z) (.t1 Z) Z Lc λ_ iD=>?_;exact ⟨_,m3,iv3,ov3,R3,hq,⟨rfl,WK hu3 ⟨Θ,Θ⟩⟩,rfl,Pz⟩
def Qm{p:Prop} (h:p:=by
 exact ⟨hp13,m9,_,_,_,by rw [hq,ak q9],rfl,((hM9.le (jG.t jM|>.t hx13)).fin _ _ _)⟩):p:=h
def Qn{p:Prop} (h:p:=by
 first
  | (exact ⟨_,m9,iv9,ov9,R9,hq,⟨rfl,⟨by decide,by decide⟩⟩,rfl,(hM9.le (jG.t jM|>.t iD))⟩)
  | (exact ⟨_,m9,iv9,ov9,R9,hq,⟨by rw [au q8];rfl,Fw oQ hu9⟩,rfl,(hM9.le (jG.t jM|>.t iD))⟩)):p:=h
def WX{p:Prop} (h:p:=by
 refine G4 ?_;refine iU (kB.mk (Lr D) Sb Z ((bR O).symm))):p:=h
def HV{p:Prop} (h:p:=by
  refine lL Z ?_ ?_<;>intro oL
  .have q9:¬ (pm x.op _).1=0:=λh=>oL (by rw [U7 h];exact ⟨rfl,rfl⟩);refine G2 ?_;refine sr (first:=[]) (captured:=[]) Y3 (Fc [_] N m9 iv9 ov9) ?_ ?_
   .rintro _ _ sx13 hx13 ⟨hp13,rfl⟩ tU;repeat (first|refine tE ?_|refine tH ?_)
    refine tJ [_] Pr (h1.t h2|>.t h5|>.t h8|>.t h9|>.t jG|>.t jM|>.t hx13) λ_ iD=>?_;exact Qm
   rintro _ _ lq kV ⟨⟩
  have q8:=oL.1;rw [au q8] at hq;refine G9 ?_;refine px [_] (.inr Z) (.t1 Z) Z (h1.t h2|>.t h5|>.t h8|>.t h9|>.t jG|>.t jM) λ_ iD=>?_;exact Qn):p:=h
def qHf(hE:ve p D n)(hC:CT p c s)(hn:c.nf=f.params.length+f.locals.length)(hM:MG p c N m iv ov R s)(hk:x.kind=7)(pH:iy s b1 0 [.func (.func 144) #[] #[iT b4]])(uu:iy s b2 0 [iB x.op])(vL:iy s b3 0 [.func (.func 144) #[] #[iT b5]])(xN:lZ p f d s (kP x.args 0) [.func (.func 144) #[] #[iT b4]])(vv:lZ p f d s (kP x.args 1) [.func (.func 144) #[] #[iT b5]])(hr:vX p iV (iS p iV n) f x m≠.out):AP prog D 243 [.pointer (some ⟨c.bm,0,none⟩),iT b1,iT b2,iT b3] (MB c N 0 m iv ov 0 0::mF c m::mE c m::(R++L)) s (qa p c N (vX p iV (iS p iV n) f x m) VE RE [] L) (pW c N (vX p iV (iS p iV n) f x m) [] L):=by
 obtain ⟨r,hq⟩:∃ r,r=vX p iV (iS p iV n) f x m:=⟨_,rfl⟩;rw [<- hq] at hr ⊢;rw [qJl hk] at hq;refine rl (fn:=f243) jb func243 V Z ntmps243 Z (rs:=[.tmp 5]) Z [(0,_),(1,_),(2,_),(3,_)] Z<|G7 ?_;refine iA (jS Y3 (pH.le (Lr D)) Z) Z<|kb Y2 ?_;refine sr (first:=[]) (captured:=[iT b4]) Y3 (AP.fr (λL=>hE L _ c N f d (kP x.args 0) _ m iv ov R (hC.le (Lr D)) hn (xN.le (Lr D)) (hM.le (Lr D)) (rU hq hr)) [] _) ?_ ?_;.exact EV
 rintro _ _ s1 h1 ⟨a1,m1,rB,ov1,R1,he1,⟨rfl,oQ⟩,rfl,mP⟩;rw [he1] at hq;simp only [ER.and] at hq;simp only [jC,jD];refine G4 ?_;refine rW 17 (x.op=20/\a1=0) ?_ ?_
 .refine Zr<|iA (jS Y3 (uu.le h1) Z) Z<|G2 ?_;refine ld (t:=14) Z ?_ ?_<;>intro c3;.refine G6 ?_;refine iU (kB.mk (Lr D) Sb Z (bK.2 O))
  exact WX
 intro s2 h2;have e2:=h1.t h2;refine mG Z ?_ ?_<;>intro c4
 .rw [au c4] at hq;refine G7 ?_;refine px [] (.inr Z) (.t1 Z) Z e2 λ_ iD=>?_;first
    | (exact ⟨_,m1,rB,ov1,R1,hq,⟨rfl,⟨Θ,Θ⟩⟩,rfl,(mP.le (h2.t iD))⟩)
    | (exact ⟨_,m1,rB,ov1,R1,hq,⟨by rw [au q8];rfl,Fw oQ oQ⟩,rfl,(mP.le (h2.t iD))⟩)
 rw [ak c4] at hq;refine G3 ?_;refine rW 23 (x.op=21/\a1≠0) ?_ ?_
 .refine Zr<|iA (jS Y3 (uu.le e2) Z) Z<|G2 ?_;refine ld (t:=20) Z ?_ ?_<;>intro c6;.refine G6 ?_;refine iU (kB.mk (Lr D) Sb Z (Ff O))
  exact WX
 intro s5 h5;have e5:=e2.t h5;refine mG Z ?_ ?_<;>intro c7
 .rw [au c7] at hq;refine G7 ?_;refine px [] (.inr Z) (.t1 Z) Z e5 λ_ iD=>?_;first
    | (exact ⟨_,m1,rB,ov1,R1,hq,⟨rfl,⟨Θ,Θ⟩⟩,rfl,(mP.le (h2.t h5|>.t iD))⟩)
    | (exact ⟨_,m1,rB,ov1,R1,hq,⟨by rw [au q8];rfl,Fw oQ oQ⟩,rfl,(mP.le (h2.t h5|>.t iD))⟩)
 rw [ak c7] at hq;refine Zk<|Zt<|Zs<|mr jt 12 Z ([]:Hl) (λx hx=>by cases hx) λs8 h8=>za 0 Z (jS Y3 (uu.le (e5.t h8)) Z) Z<|H1 ?_;refine za 2 Z (jS Y3 (vL.le (e5.t h8)) Z) Z<|H1 ?_;have e8:=e5.t h8;refine kA 4 9 V ?_ ?_
 .refine zr Z Tt (first:=[]) (captured:=[iT b5]) Z Z Z (AP.fr (λL=>hE L _ c N f d (kP x.args 1) _ m1 rB ov1 R1 (hC.le e8) hn (vv.le e8) (mP.le (h2.t h5|>.t h8)) (rU hq hr)) [] _) ?_ ?_
  .rintro _ _ sx9 Bo ⟨hp9,mf9,sf9,cf9,Zf9,he9,rfl,hF9⟩ tU;repeat (first|refine tE ?_|refine tH ?_)
   refine tJ [] Pr (e8|>.t Bo) λ_ iD=>?_;exact ⟨hp9,mf9,sf9,cf9,Zf9,Fs hq he9,rfl,hF9⟩
  rintro _ _ s9 h9 ⟨a9,m9,iv9,ov9,R9,he9,⟨rfl,hu9⟩,rfl,hM9⟩;refine ⟨(λx hx=>by cases hx),?_⟩;rw [he9] at hq;simp only [ER.and] at hq;simp only [jC,jD];refine kA 5 9 V ?_ ?_;.refine Jb Z Tt Z Z Z (Aj oQ hu9) ?_;rintro _ _ kH jG ⟨rfl,rfl⟩;refine ⟨(λx hx=>by cases hx),?_⟩;refine H3 ?_;refine iF 9 V<|ky Z Tt Z [_,_] Y2 λb11 kz jM=>H1 ?_;refine iF 11 V<|Wu Z Tt 0 [_,_] Y9 (λx hx=>by cases hx)<|ji V<|Zt<|Zs<|Sr<|iA (iZ 0 [_,_] Y5) Z<|iA (jB [] [_,_] Y3 Z Z Z) Z<|iA (ui Z Z (sp)) Z<|G2 ?_;exact HV
  refine ky Z Tt Z [_,_] Y2 λb10 kH jG=>iF 5 V<|Jb Z Tt Z Z Z (Aj oQ hu9) ?_;rintro _ _ kz jM ⟨rfl,rfl⟩;refine ⟨(λx hx=>by cases hx),?_⟩;refine H4 ?_;refine iF 11 V<|Wu Z Tt 0 [_,_] Y9 (λx hx=>by cases hx)<|ji V<|Zt<|Zs<|Sr<|iA (iZ 0 [_,_] Y5) Z<|iA (jB [] [_,_] Y3 Z Z Z) Z<|iA (ui Z Z (sp)) Z<|G2 ?_;exact HV
 refine ky Z Tt Z [_,_] Y2 λd9 s9 h9=>iF 4 V ?_;have e9:=e8.t h9;refine zr Z Tt (first:=[]) (captured:=[iT b5]) Z Z Z (AP.fr (λL=>hE L _ c N f d (kP x.args 1) _ m1 rB ov1 R1 (hC.le e9) hn (vv.le e9) (mP.le (h2.t h5|>.t h8|>.t h9)) (rU hq hr)) [_] _) ?_ ?_
 .rintro _ _ sx10 hx10 ⟨hp10,mf10,sf10,cf10,Zf10,he10,rfl,hF10⟩ tU;repeat (first|refine tE ?_|refine tH ?_)
  refine tJ [_] Pr (e9|>.t hx10) λ_ iD=>?_;exact ⟨hp10,mf10,sf10,cf10,Zf10,Fs hq he10,rfl,hF10⟩
 rintro _ _ kH jG ⟨a10,m10,iv10,ov10,R10,he10,⟨rfl,hu10⟩,rfl,hM10⟩;refine ⟨(λx hx=>by cases hx),?_⟩;rw [he10] at hq;simp only [ER.and] at hq;simp only [jC,jD];refine iF 5 V<|Jb Z Tt Z Z Z (Aj oQ hu10) ?_;rintro _ _ kz jM ⟨rfl,rfl⟩;refine ⟨(λx hx=>by cases hx),?_⟩;refine H4 ?_;refine iF 11 V<|Wu Z Tt 0 [_,_] Y9 (λx hx=>by cases hx)<|ji V<|Zt<|Zs<|Sr<|iA (iZ 0 [_,_] Y5) Z<|iA (jB [] [_,_] Y3 Z Z Z) Z<|iA (ui Z Z (sp)) Z<|G2 ?_;refine lL Z ?_ ?_<;>intro oL
 .have q9:¬ (pm x.op _).1=0:=λh=>oL (by rw [U7 h];exact ⟨rfl,rfl⟩);refine G2 ?_;refine sr (first:=[]) (captured:=[]) Y3 (Fc [_] N m10 iv10 ov10) ?_ ?_
  .rintro _ _ sx13 hx13 ⟨hp13,rfl⟩ tU;repeat (first|refine tE ?_|refine tH ?_)
   refine tJ [_] Pr (e9.t jG|>.t jM|>.t hx13) λ_ iD=>?_;exact ⟨hp13,m10,_,_,_,by rw [hq,ak q9],rfl,((hM10.le (jM.t hx13)).fin _ _ _)⟩
  rintro _ _ lq kV ⟨⟩
 have q8:=oL.1;rw [au q8] at hq;refine G9 ?_;refine px [_] (.inr Z) (.t1 Z) Z (e9.t jG|>.t jM) λ_ iD=>?_;first
   | (exact ⟨_,m10,iv10,ov10,R10,hq,⟨rfl,⟨Θ,Θ⟩⟩,rfl,(hM10.le (jM.t iD))⟩)
   | (exact ⟨_,m10,iv10,ov10,R10,hq,⟨by rw [au q8];rfl,Fw oQ hu10⟩,rfl,(hM10.le (jM.t iD))⟩)
def qBn{r:ER iG}:(r.and λvs m=>.ok ([]++vs) m)=r:=by cases r<;>rfl
def qG4{E:Ex->MS->ER Int}{l:List Ex}(h:k < l.length)(pre:iG)(m:MS):(nn E (l.drop k) m).and (λvs m=>.ok (pre++vs) m)=(E (kP l k) m).and λv m=>(nn E (l.drop (k+1)) m).and λvs m=>.ok ((pre++[v])++vs) m:=by
 have e:kP l k=l[k]:=by rw [kP,aG,ap h];rfl
 rw [aM h,nn,ER.and_assoc,e];congr 1;funext v m;rw [ER.and_assoc];congr 1;funext vs m;simp [ER.and,am]
structure CGi where
 k:Nat
 pre:iG
 m:MS
 iv:Value
 ov:Value
 R:Hl
 v:Value
 M:Hl
def VR(w:iG)(x:Int):wv (w++[x])=wv w++[iJ x]:=by simp [wv]
def qnH(hE:ve p D n)(N:Nat)(f:iM)(d:Nat)(xs:List Ex)(m:MS)(iv ov:Value)(R:Hl)(hC:CT p c s)(hn:c.nf=f.params.length+f.locals.length)(hM:MG p c N m iv ov R s)(hK:FF p D n)(k:Nat)(fk:iM)(A:iE)(n1 z1:Nat)(pH:iy s b1 0 [.slice A n1 z1])(uu:iy s b2 0 [iB (k:Int)])(hA:qo p f d s A n1 z1 xs)(hp:p.funcs[k]?=some fk)(hl:xs.length=fk.params.length)(hr:((nn ((iS p iV n).e f) xs m).and λvs m=>(iS p iV n).c k vs m)≠.out):AP prog D 151 [.pointer (some ⟨c.bm,0,none⟩),iT b1,iT b2] (MB c N 0 m iv ov 0 0::mF c m::mE c m::(R++L)) s (qa p c N ((nn ((iS p iV n).e f) xs m).and λvs m=>(iS p iV n).c k vs m) VE RE [] L) (pW c N ((nn ((iS p iV n).e f) xs m).and λvs m=>(iS p iV n).c k vs m) [] L):=by
 obtain ⟨r,hq⟩:∃ r,r=(nn ((iS p iV n).e f) xs m).and λvs m=>(iS p iV n).c k vs m:=⟨_,rfl⟩;rw [<- hq] at hr ⊢;have hf9:=hC.fs fk (ax hp);have l7:=hA.1;have nI:=hA.2.1;have pt:=hA.2.2.1;refine rl (fn:=f151) jb func151 V Z ntmps151 Z (rs:=[.tmp 4]) Z [(0,_),(1,_),(2,_)] Z<|Jo ?_;refine iA (jS Y3 (pH.le (Lr D)) Z) Z<|G5 ?_;refine lJ (γ:=CGi) (λg=>[(0,_),(2,_),(4,_),(5,g.v),(8,_),(9,_),(10,iB (g.k:Int))]) (λg=>g.M++(MB c N 0 g.m g.iv g.ov 0 0::mF c g.m::mE c g.m::(g.R++L))) (λg tw=>Le D s tw/\(g.k<=n1/\MG p c N g.m g.iv g.ov g.R tw/\Own 34 1 g.M g.v g.pre.length (wv g.pre)/\g.pre.length=g.k/\(∀ x∈g.pre,iQ x)/\r=((nn ((iS p iV n).e f) (xs.drop g.k) g.m).and λvs m=>.ok (g.pre++vs) m).and λvs m=>(iS p iV n).c k vs m)) (λg=>n1 - g.k) (λ_ _ _ h hl=>⟨h.1.trans hl,⟨h.2.1,h.2.2.1.le hl,h.2.2.2⟩⟩) ⟨0,[],m,iv,ov,R,.slice none 0 0,[]⟩ (.c6 Z Z Z Z Z Z (.cons Z (.nil _))) Z ⟨Le.refl _,⟨aB _,hM.le (Lr D),.nil,Z,λx hx=>(by cases hx),by rw [hq,cm,qBn]⟩⟩ ?_;intro g s1 I1;obtain ⟨j,pre,mk,ivk,ovk,Rk,vk,Mk⟩:=g;obtain ⟨oV,xD,hOk,zi,hup,hq⟩:j<=n1/\MG p c N mk ivk ovk Rk s1/\Own 34 1 Mk vk pre.length (wv pre)/\pre.length=j/\(∀ x∈pre,iQ x)/\r=((nn ((iS p iV n).e f) (xs.drop j) mk).and λvs m=>.ok (pre++vs) m).and λvs m=>(iS p iV n).c k vs m:=I1.2;obtain ⟨Av,cv,rfl,_,_⟩:=Own.slice hOk;dsimp only;refine J6 ?_ ?_<;>intro c2
 .have hj:j < n1:=O
  rw [qG4 O,ER.and_assoc] at hq;obtain ⟨B0,o0,b0,hAe,hcE,hvE⟩:=qo.at_ Pz hj;subst hAe;refine G6 ?_;refine iA (lK Y6 hj) Z<|iA (jS Y3 Pz Z) Z<|G7 ?_;refine sr (first:=[]) (captured:=[iT b0]) Y3 (AP.fr (λL=>hE L _ c N f d (kP xs j) _ mk ivk ovk Rk Pz hn Pz Pz (rU hq hr)) Mk _) ?_ ?_
  .rintro _ _ sx3 hx3 ⟨xK,mf3,sf3,cf3,Zf3,he3,rfl,hF3⟩ tU;repeat (first|refine tE ?_|refine tH ?_)
   refine tJ Mk Pr Lc λ_ iD=>?_;exact SF
  rintro _ _ s3 h3 ⟨a3,m3,iv3,ov3,R3,he3,⟨rfl,hu3⟩,rfl,l0⟩;rw [he3] at hq;simp only [ER.and] at hq;refine lx [(_,_)] [_] Y9 λt4 s4 h4 hc4=>rQ (sz:=1) [] Mk _ Y7 hOk (Row.of_cells Pz Z Z) ⟨by simp [pY];omega,O⟩ Z ?_;intro v9 M9 s5 h5 oq;obtain ⟨A9,c9,rfl,_,_⟩:=Own.slice oq;simp only [aC];refine G5 ?_;refine kq Y3 (jq O O)<|G2 ?_;refine iU ⟨⟨j+1,pre++[a3],m3,iv3,ov3,R3,_,M9⟩,[],kp,Z,⟨Lc,⟨by show j+1<=n1;omega,Pz,by rw [VR,ac];exact oq,by simp;omega,λx hx=>by rcases aS.1 hx with hx|hx;exact hup x hx;cases aU.1 hx;exact hu3,hq⟩⟩,(by show n1 - (j+1) < n1 - j;omega)⟩
 rw [aL O,nn] at hq;simp only [ER.and,aE] at hq;refine G6 ?_;refine uz [] Mk ?_;intro s3 h3 ou;simp only [jC,jD];have hW:=Own.wds hOk hup ou;refine Zr<|kb Y2<|iA (jS Y3 (uu.le Lc) Z) Z<|kb Y2 ?_;refine sr (first:=[]) (captured:=[]) Y3 (AP.fr (λL=>hK L _ c N k fk pre Av pre.length cv mk ivk ovk Rk Pz Pz hp O Pz (hq▸hr)) [] _) ?_ ?_
 .rintro _ _ sx4 hx4 ⟨zZ,mf4,sf4,cf4,Zf4,he4,rfl,hF4⟩ tU;repeat (first|refine tE ?_|refine tH ?_)
  refine tJ [] Pr Lc λ_ iD=>?_;exact ⟨zZ,mf4,sf4,cf4,Zf4,hq.trans he4,rfl,hF4⟩
 rintro _ _ s4 h4 ⟨a4,m4,iv4,ov4,R4,he4,⟨rfl,hu4⟩,rfl,hM4⟩;rw [he4] at hq;simp only [jC,jD];refine G4 ?_;refine px [] (.inr Z) (.t1 Z) Z Lc λ_ iD=>?_;exact ⟨_,m4,iv4,ov4,R4,hq,⟨rfl,hu4⟩,rfl,Pz⟩
section
variable{c:MC}{iv:Value}
theorem Sj{i:Nat}(h:∀ x∈l,iQ x)(hv:iQ v):∀ x∈l.set i v,iQ x:=by grind
def MG.setf(h:MG p c N m iv ov R s)(hv:iQ v)(i:Nat):MG p c N { m with frm:=m.frm.set i v } iv ov R s:=⟨h.inp,h.out,h.ug,Sj h.uf hv,h.ua,h.ng,h.lg,by rw [cD];exact h.lf,h.lb,h.la,h.ar,h.lo,h.lc,h.ll,h.lN⟩
def MG.setg(h:MG p c N m iv ov R s)(hv:iQ v)(i:Nat):MG p c N { m with glo:=m.glo.set i v } iv ov R s:=⟨h.inp,h.out,Sj h.ug hv,h.uf,h.ua,h.ng,by rw [cD];exact h.lg,h.lf,h.lb,h.la,h.ar,h.lo,h.lc,h.ll,h.lN⟩
end
def MG.arU(hM:MG p c N m iv ov R s)(hg:mS p nm=(k:Int)):∀ x∈ns p nm m,iQ x:=λx hx=>by
 exact IN
def qIO{T:iP->MS->ER (Int×Int)}{l:List iP}{x:iP}(h:l[k]?=some x)(m:MS):mh T (l.drop k) m=(T x m).and λy m=>if y.1=0 then mh T (l.drop (k+1)) m else .ok y m:=by
 obtain ⟨hl,rfl⟩:=al.1 h;rw [aM hl,mh]
structure RG where
 k:Nat
 m:MS
 iv:Value
 ov:Value
 R:Hl
def O6(hT:CC p D n)(N:Nat){xs:List iP}(m:MS)(iv ov:Value)(R:Hl)(hC:CT p c s)(hn:c.nf=f.params.length+f.locals.length)(hM:MG p c N m iv ov R s)(hA:xw p f d s A n1 z1 xs)(hr:mh ((iS p iV n).t f) xs m≠.out):AP prog D 108 [.pointer (some ⟨c.bm,0,none⟩),.slice A n1 z1] (MB c N 0 m iv ov 0 0::mF c m::mE c m::(R++L)) s (qa p c N (mh ((iS p iV n).t f) xs m) VS RS [] L) (pW c N (mh ((iS p iV n).t f) xs m) [] L):=by
 obtain ⟨r,hq⟩:∃ r,r=mh ((iS p iV n).t f) xs m:=⟨_,rfl⟩;rw [<- hq] at hr ⊢;have l7:=hA.1;have nI:=hA.2.1;have pt:=hA.2.2.1;refine rl (fn:=f108) jb func108 V Z ntmps108 Z (rs:=[.tmp 4]) Z [(0,_),(1,_)] Z<|rH ?_;refine lJ (γ:=RG) (λg=>[(0,_),(4,_),(8,_),(9,_),(10,iB (g.k:Int))]) (λg=>MB c N 0 g.m g.iv g.ov 0 0::mF c g.m::mE c g.m::(g.R++L)) (λg tw=>Le D s tw/\(g.k<=n1/\MG p c N g.m g.iv g.ov g.R tw/\r=mh ((iS p iV n).t f) (xs.drop g.k) g.m)) (λg=>n1 - g.k) (λ_ _ _ h hl=>⟨h.1.trans hl,⟨h.2.1,h.2.2.1.le hl,h.2.2.2⟩⟩) ⟨0,m,iv,ov,R⟩ (.c5 Z Z Z Z Z (.nil _)) Z ⟨Le.refl _,⟨aB _,hM.le (Lr D),hq⟩⟩ ?_;intro g s1 I1;obtain ⟨j,mk,ivk,ovk,Rk⟩:=g;obtain ⟨oV,xD,hq⟩:j<=n1/\MG p c N mk ivk ovk Rk s1/\r=mh ((iS p iV n).t f) (xs.drop j) mk:=I1.2;dsimp only;refine J6 ?_ ?_<;>intro c2
 .have hj:j < n1:=O
  obtain ⟨B0,o0,b0,x,hAe,hx,hcE,hvE⟩:=xw.at_ Pz hj;subst hAe;rw [qIO hx] at hq;refine G6 ?_;refine iA (lK Y6 hj) Z<|iA (jS Y3 Pz Z) Z<|G7 ?_;refine sr (first:=[]) (captured:=[iT b0]) Y3 (AP.fr (λL=>hT L _ c N f d x _ mk ivk ovk Rk Pz hn Pz Pz (rU hq hr)) [] _) ?_ ?_
  .rintro _ _ sx3 hx3 ⟨xK,mf3,sf3,cf3,Zf3,he3,rfl,hF3⟩ tU;repeat (first|refine tE ?_|refine tH ?_)
   refine tJ [] Pr Lc λ_ iD=>?_;exact SF
  rintro _ _ s3 h3 ⟨⟨a3,y3⟩,m3,iv3,ov3,R3,he3,⟨rfl,hu3,hz3⟩,rfl,l0⟩;rw [he3] at hq;simp only [ER.and] at hq;simp only [jC,jD];refine G9 ?_;refine lL Z ?_ ?_<;>intro c4
  .rw [ak c4] at hq;refine mY ?_;refine px [] (.inr Z) (.t1 Z) Z Lc λ_ iD=>?_;first
     | (exact ⟨(_,_),m3,iv3,ov3,R3,hq,⟨rfl,hu3,hz3⟩,rfl,Pz⟩)
     | (exact ⟨(0,0),m3,iv3,ov3,R3,hq,⟨rfl,⟨Θ,Θ⟩,λ_=>rfl⟩,rfl,Pz⟩)
  rw [au c4] at hq;have hz9:=hz3 O;simp only [RS] at *;rw [hz9];refine G4 ?_;refine kq Y3 (jq O O)<|G2 ?_;refine iU ⟨⟨j+1,m3,iv3,ov3,R3⟩,[],kp,Z,⟨Lc,⟨by show j+1<=n1;omega,Pz,hq⟩⟩,(by show n1 - (j+1) < n1 - j;omega)⟩
 rw [aL O,mh] at hq;refine lw ?_;refine px [] (.inr Z) (.t1 Z) Z I1.1 λ_ iD=>?_;first
   | (exact ⟨(_,_),mk,ivk,ovk,Rk,hq,⟨rfl,hu0,zk⟩,rfl,Pz⟩)
   | (exact ⟨(0,0),mk,ivk,ovk,Rk,hq,⟨rfl,⟨Θ,Θ⟩,λ_=>rfl⟩,rfl,Pz⟩)
def Hy{p:Prop} (h:p:=by
 exact ⟨(0,0),{ m2 with frm:=m2.frm.set (k8 f x.name).toNat a2 },iv2,ov2,R2,hq,⟨rfl,⟨by decide,by decide⟩,λ_=>rfl⟩,rfl,((ju.setf o4 _).le Lc)⟩):p:=h
def qDg(hE:ve p D n){x:iP}(hC:CT p c s)(hn:c.nf=f.params.length+f.locals.length)(hM:MG p c N m iv ov R s)(hk:x.kind=1)(h0:0<=k8 f x.name)(hl:k8 f x.name < ((f.params.length+f.locals.length:Nat):Int))(pH:iy s b1 0 [.func (.func 144) #[] #[iT b4]])(uu:iy s b2 0 [iB (k8 f x.name)])(hv:lZ p f d s (kP x.exprs 0) [.func (.func 144) #[] #[iT b4]])(hr:sX p (iS p iV n) f x m≠.out):AP prog D 146 [.pointer (some ⟨c.bm,0,none⟩),iT b1,iT b2] (MB c N 0 m iv ov 0 0::mF c m::mE c m::(R++L)) s (qa p c N (sX p (iS p iV n) f x m) VS RS [] L) (pW c N (sX p (iS p iV n) f x m) [] L):=by
 obtain ⟨r,hq⟩:∃ r,r=sX p (iS p iV n) f x m:=⟨_,rfl⟩;rw [<- hq] at hr ⊢;rw [sX,au hk] at hq;have zd:k8 f x.name < (c.nf:Int):=by rw [hn];exact hl
 refine rl (fn:=f146) jb func146 V Z ntmps146 Z (rs:=[.tmp 4]) Z [(0,_),(1,_),(2,_)] Z<|G6 ?_;refine mr jt 10 Z ([]:Hl) (λx hx=>by cases hx) λs1 h1=>H3 ?_;refine za 4 Z (jS Y3 (uu.le h1) Z) Z<|za 5 Z (jS Y3 (pH.le h1) Z) Z<|H1 ?_;refine kA 3 7 V ?_ ?_
 .refine jW Z Tt (Wd 0 Y5) Z<|iF 7 V ?_;refine zr Z Tt (first:=[]) (captured:=[iT b4]) Z Z Z (AP.fr (λL=>hE L _ c N f d (kP x.exprs 0) _ m iv ov R Pz hn Pz Pz (rU hq hr)) [] _) ?_ ?_;.exact DR
  rintro _ _ s2 h2 ⟨a2,m2,iv2,ov2,R2,rN,⟨rfl,o4⟩,rfl,ju⟩;refine ⟨(λx hx=>by cases hx),?_⟩;rw [rN] at hq;simp only [ER.and] at hq;simp only [jC,jD];rw [tO,au h0] at hq;have Bj:k8 f x.name < (m2.frm.length:Int):=by rw [ju.lf];exact zd
  refine za 8 Z (xQ Y6 h0 zd) Z<|iF 9 V<|w8 Z Tt 2 _ Y5 (KX h0 Bj) Z (K1 h0 Bj) Z (λx hx=>by cases hx)<|ji V<|G7 ?_;refine px [] (.inr Z) (.t1 Z) Z Lc λ_ iD=>?_;exact Hy
 refine zr Z Tt (first:=[]) (captured:=[iT b4]) Z Z Z (AP.fr (λL=>hE L _ c N f d (kP x.exprs 0) _ m iv ov R Pz hn Pz Pz (rU hq hr)) [] _) ?_ ?_;.exact DR
 rintro _ _ s2 h2 ⟨a2,m2,iv2,ov2,R2,rN,⟨rfl,o4⟩,rfl,ju⟩;refine ⟨(λx hx=>by cases hx),?_⟩;rw [rN] at hq;simp only [ER.and] at hq;simp only [jC,jD];rw [tO,au h0] at hq;have Bj:k8 f x.name < (m2.frm.length:Int):=by rw [ju.lf];exact zd
 refine iF 3 V<|jW Z Tt (Wd 0 Y5) Z<|za 8 Z (xQ Y6 h0 zd) Z<|iF 9 V<|w8 Z Tt 2 _ Y5 (KX h0 Bj) Z (K1 h0 Bj) Z (λx hx=>by cases hx)<|ji V<|G7 ?_;refine px [] (.inr Z) (.t1 Z) Z Lc λ_ iD=>?_;exact Hy
def Hz{p:Prop} (h:p:=by
 exact ⟨(0,0),{ m2 with glo:=m2.glo.set (k:Int).toNat a2 },iv2,ov2,R2,hq,⟨rfl,⟨by decide,by decide⟩,λ_=>rfl⟩,rfl,((ju.setg o4 _).le Lc)⟩):p:=h
def qDf(hE:ve p D n){x:iP}(hC:CT p c s)(hn:c.nf=f.params.length+f.locals.length)(hM:MG p c N m iv ov R s)(g:jv)(hk:x.kind=1)(hs:¬ 0<=k8 f x.name)(hg:mS p x.name=(k:Int))(hp:p.o[k]?=some g)(pH:iy s b1 0 [.func (.func 144) #[] #[iT b4]])(uu:iy s b2 0 [iB (k:Int)])(hv:lZ p f d s (kP x.exprs 0) [.func (.func 144) #[] #[iT b4]])(hr:sX p (iS p iV n) f x m≠.out):AP prog D 147 [.pointer (some ⟨c.bm,0,none⟩),iT b1,iT b2] (MB c N 0 m iv ov 0 0::mF c m::mE c m::(R++L)) s (qa p c N (sX p (iS p iV n) f x m) VS RS [] L) (pW c N (sX p (iS p iV n) f x m) [] L):=by
 obtain ⟨r,hq⟩:∃ r,r=sX p (iS p iV n) f x m:=⟨_,rfl⟩;rw [<- hq] at hr ⊢;rw [sX,au hk] at hq;have hkl:=(al.1 hp).1;have zd:(k:Int) < (c.ng:Int):=by rw [hM.ng];omega
 have h0:(0:Int)<=(k:Int):=O
 refine rl (fn:=f147) jb func147 V Z ntmps147 Z (rs:=[.tmp 4]) Z [(0,_),(1,_),(2,_)] Z<|G6 ?_;refine mr jt 10 Z ([]:Hl) (λx hx=>by cases hx) λs1 h1=>H3 ?_;refine za 4 Z (jS Y3 (uu.le h1) Z) Z<|za 5 Z (jS Y3 (pH.le h1) Z) Z<|H1 ?_;refine kA 3 7 V ?_ ?_
 .refine jW Z Tt (Wd 0 Y5) Z<|iF 7 V ?_;refine zr Z Tt (first:=[]) (captured:=[iT b4]) Z Z Z (AP.fr (λL=>hE L _ c N f d (kP x.exprs 0) _ m iv ov R Pz hn Pz Pz (rU hq hr)) [] _) ?_ ?_;.exact DR
  rintro _ _ s2 h2 ⟨a2,m2,iv2,ov2,R2,rN,⟨rfl,o4⟩,rfl,ju⟩;refine ⟨(λx hx=>by cases hx),?_⟩;rw [rN] at hq;simp only [ER.and] at hq;simp only [jC,jD];rw [tO,ak hs,hg] at hq;have Bj:(k:Int) < (m2.glo.length:Int):=by rw [ju.lg];exact zd
  refine za 8 Z (xQ Y6 h0 zd) Z<|iF 9 V<|w8 Z Tt 1 _ Y5 (KX h0 Bj) Z (K1 h0 Bj) Z (λx hx=>by cases hx)<|ji V<|G7 ?_;refine px [] (.inr Z) (.t1 Z) Z Lc λ_ iD=>?_;exact Hz
 refine zr Z Tt (first:=[]) (captured:=[iT b4]) Z Z Z (AP.fr (λL=>hE L _ c N f d (kP x.exprs 0) _ m iv ov R Pz hn Pz Pz (rU hq hr)) [] _) ?_ ?_;.exact DR
 rintro _ _ s2 h2 ⟨a2,m2,iv2,ov2,R2,rN,⟨rfl,o4⟩,rfl,ju⟩;refine ⟨(λx hx=>by cases hx),?_⟩;rw [rN] at hq;simp only [ER.and] at hq;simp only [jC,jD];rw [tO,ak hs,hg] at hq;have Bj:(k:Int) < (m2.glo.length:Int):=by rw [ju.lg];exact zd
 refine iF 3 V<|jW Z Tt (Wd 0 Y5) Z<|za 8 Z (xQ Y6 h0 zd) Z<|iF 9 V<|w8 Z Tt 1 _ Y5 (KX h0 Bj) Z (K1 h0 Bj) Z (λx hx=>by cases hx)<|ji V<|G7 ?_;refine px [] (.inr Z) (.t1 Z) Z Lc λ_ iD=>?_;exact Hz
end
end Go.Proofs.YtemgonlhniicbaaGreatDoor
