/- Part 7. -/
import Derived.Test.YtemgonlhniicbaaGreatDoorQ42z6
set_option linter.unusedSectionVars false
set_option linter.unusedVariables false
set_option linter.defProp false
set_option linter.unusedSimpArgs false
set_option linter.unnecessarySimpa false
set_option maxRecDepth 100000
set_option maxHeartbeats 8000000
namespace Go.Proofs.YtemgonlhniicbaaGreatDoor
open Go Go.RowKit Go.Proofs.Tryz
def il:=@Nat.sub_self
variable{p:jc}{s s':World}{l:List iP}{Ap A A1 Ag Af:iE}{ls l1:List iH}{L M:Hl}{x:iM}{y:iP}{cp d m d2 k b n D ng cg nf cf bb j c n1 c1 T:Nat}{e:Ex}{o:Int}{az:List Ex}{P:Program}{vl:Value}{R:iz}{nm:iH}{Q:pS}
section
attribute [local irreducible] JC JO JA JB ma mO mX AC fill iy QE Ev my
variable{w lp lv n2 c2 n3 c3:Nat}{R:Hl}{A2 A3:iE}{E:CE}{t:iH}
def wb:yB prog 358 (.int .i64) (.slice none 0 0):=⟨_,_,underlying358,underlying3,λw=>by rw [Dt qty];rfl⟩
def wZ{β:Nat}(hc:iy s β 0 (sb (yu o))):iO s (jZ β) (yu o).length (yu o).length (yu o):=Vh _ hc (λx hx=>by
 have h:=(Pj o).2 x hx;simp only [z8,aA] at h;have:=(b_ h.1.1.1).2;omega) (by have:=(Pj o).1;omega)
def qkn(ho:4<=o/\o<=19):jU D 257 [iB o] L s λv L' s'=>L=L'/\∃ A n c,v=.slice A n c/\iO s' A n c (yu o):=by
 refine jn (fn:=f257) jb func257 V Z ntmps257 Z (rs:=[.tmp 2]) Z [(0,_)] Z<|G7 ?_;refine Gb (Value.int .i64) Z λβm s1 h1=>lx [(_,_)] [_] Y9 λβ2 s2 h2 pt=>wR (jO.int .i64) 0 wb Y4 ?_;intro es3 _ e3;simp only [lV];refine lx [(_,_)] [_] Y9 λt4 s4 h4 hc4=>wR (jO.int .i64) 0 wb Y4 ?_;intro es5 _ e5;simp only [lV];refine lx [(_,_)] [_] Y9 λt6 s6 h6 hc6=>wR (jO.int .i64) 0 wb Y4 ?_;intro es7 _ e7;simp only [lV];refine lx [(_,_)] [_] Y9 λt8 s8 h8 hc8=>wR (jO.int .i64) 0 wb Y4 ?_;intro es9 _ e9;simp only [lV];refine lx [(_,_)] [_] Y9 λb10 kH jG hc10=>wR (jO.int .i64) 0 wb Y4 ?_;intro es11 _ wA;simp only [lV];refine lx [(_,_)] [_] Y9 λb12 kh jE hc12=>wR (jO.int .i64) 0 wb Y4 ?_;intro es13 _ wB;simp only [lV];refine lx [(_,_)] [_] Y9 λb14 lG kI hc14=>wR (jO.int .i64) 0 wb Y4 ?_;intro es15 _ wC;simp only [lV];refine lx [(_,_)] [_] Y9 λb16 sB tu hc16=>wR (jO.int .i64) 0 wb Y4 ?_;intro es17 _ wD;simp only [lV];refine lx [(_,_)] [_] Y9 λb18 BO h18 hc18=>wR (jO.int .i64) 0 wb Y4 ?_;intro es19 _ wE;simp only [lV];refine lx [(_,_)] [_] Y9 λb20 yK qT hc20=>wR (jO.int .i64) 0 wb Y4 ?_;intro es21 _ wF;simp only [lV];refine lx [(_,_)] [_] Y9 λb22 s22 h22 hc22=>wR (jO.int .i64) 0 wb Y4 ?_;intro es23 _ wG;simp only [lV];refine lx [(_,_),(_,_)] [_,_] Y9 λb24 s24 h24 hc24=>wR (jO.int .i64) 0 wb Y4 ?_;intro es25 _ wH;simp only [lV];refine lx [(_,_)] [_] Y9 λb26 s26 h26 hc26=>wR (jO.int .i64) 0 wb Y4 ?_;intro es27 _ wI;simp only [lV];refine lx [(_,_),(_,_)] [_,_] Y9 λb28 s28 h28 hc28=>wR (jO.int .i64) 0 wb Y4 ?_;intro es29 _ wJ;simp only [lV];refine lx [(_,_)] [_] Y9 λb30 s30 h30 hc30=>wR (jO.int .i64) 0 wb Y4 ?_;intro es31 _ wK;simp only [lV];refine lx [(_,_),(_,_)] [_,_] Y9 λb32 s32 h32 hc32=>wR (jO.int .i64) 0 wb Y4 ?_;intro es33 _ wL;simp only [lV];refine G2 ?_;refine iA (G_ (jO.int .i64) 0 wb Z Z Z) Z<|G4 ?_;refine rR [_] L (.t1 Z) Z Lc λ_ iD=>?_;refine ⟨Z,?_⟩;rcases (show o=4\/o=5\/o=6\/o=7\/o=8\/o=9\/o=10\/o=11\/o=12\/o=13\/o=14\/o=15\/o=16\/o=17\/o=18\/o=19 by omega) with rfl|rfl|rfl|rfl|rfl|rfl|rfl|rfl|rfl|rfl|rfl|rfl|rfl|rfl|rfl|rfl
 . exact ⟨_,1,1,by simp only [e3,e5,e7,e9,wA,wB,wC,wD,wE,wF,wG,wH,wI,wJ,wK,wL,kX,Int.reduceEq,↓reduceIte];rfl,wZ (o:=4) Pz⟩
 . exact ⟨_,1,1,by simp only [e3,e5,e7,e9,wA,wB,wC,wD,wE,wF,wG,wH,wI,wJ,wK,wL,kX,Int.reduceEq,↓reduceIte];rfl,wZ (o:=5) Pz⟩
 . exact ⟨_,1,1,by simp only [e3,e5,e7,e9,wA,wB,wC,wD,wE,wF,wG,wH,wI,wJ,wK,wL,kX,Int.reduceEq,↓reduceIte];rfl,wZ (o:=6) Pz⟩
 . exact ⟨_,1,1,by simp only [e3,e5,e7,e9,wA,wB,wC,wD,wE,wF,wG,wH,wI,wJ,wK,wL,kX,Int.reduceEq,↓reduceIte];rfl,wZ (o:=7) Pz⟩
 . exact ⟨_,1,1,by simp only [e3,e5,e7,e9,wA,wB,wC,wD,wE,wF,wG,wH,wI,wJ,wK,wL,kX,Int.reduceEq,↓reduceIte];rfl,wZ (o:=8) Pz⟩
 . exact ⟨_,1,1,by simp only [e3,e5,e7,e9,wA,wB,wC,wD,wE,wF,wG,wH,wI,wJ,wK,wL,kX,Int.reduceEq,↓reduceIte];rfl,wZ (o:=9) Pz⟩
 . exact ⟨_,1,1,by simp only [e3,e5,e7,e9,wA,wB,wC,wD,wE,wF,wG,wH,wI,wJ,wK,wL,kX,Int.reduceEq,↓reduceIte];rfl,wZ (o:=10) Pz⟩
 . exact ⟨_,1,1,by simp only [e3,e5,e7,e9,wA,wB,wC,wD,wE,wF,wG,wH,wI,wJ,wK,wL,kX,Int.reduceEq,↓reduceIte];rfl,wZ (o:=11) Pz⟩
 . exact ⟨_,1,1,by simp only [e3,e5,e7,e9,wA,wB,wC,wD,wE,wF,wG,wH,wI,wJ,wK,wL,kX,Int.reduceEq,↓reduceIte];rfl,wZ (o:=12) Pz⟩
 . exact ⟨_,1,1,by simp only [e3,e5,e7,e9,wA,wB,wC,wD,wE,wF,wG,wH,wI,wJ,wK,wL,kX,Int.reduceEq,↓reduceIte];rfl,wZ (o:=13) Pz⟩
 . exact ⟨_,1,1,by simp only [e3,e5,e7,e9,wA,wB,wC,wD,wE,wF,wG,wH,wI,wJ,wK,wL,kX,Int.reduceEq,↓reduceIte];rfl,wZ (o:=14) Pz⟩
 . exact ⟨_,2,2,by simp only [e3,e5,e7,e9,wA,wB,wC,wD,wE,wF,wG,wH,wI,wJ,wK,wL,kX,Int.reduceEq,↓reduceIte];rfl,wZ (o:=15) Pz⟩
 . exact ⟨_,1,1,by simp only [e3,e5,e7,e9,wA,wB,wC,wD,wE,wF,wG,wH,wI,wJ,wK,wL,kX,Int.reduceEq,↓reduceIte];rfl,wZ (o:=16) Pz⟩
 . exact ⟨_,2,2,by simp only [e3,e5,e7,e9,wA,wB,wC,wD,wE,wF,wG,wH,wI,wJ,wK,wL,kX,Int.reduceEq,↓reduceIte];rfl,wZ (o:=17) Pz⟩
 . exact ⟨_,1,1,by simp only [e3,e5,e7,e9,wA,wB,wC,wD,wE,wF,wG,wH,wI,wJ,wK,wL,kX,Int.reduceEq,↓reduceIte];rfl,wZ (o:=18) Pz⟩
 . exact ⟨_,2,2,by simp only [e3,e5,e7,e9,wA,wB,wC,wD,wE,wF,wG,wH,wI,wJ,wK,wL,kX,Int.reduceEq,↓reduceIte];rfl,wZ (o:=19) Pz⟩
def ED(D d:Nat)(p:jc)(x:iM):Prop:=∀ (L:Hl) (s:World),GP s->∀ (E:CE),tk s p x E->∀ (bb k w:Nat) (vl:Value) (M:Hl) (t:iH),CR E bb k w vl t M->∀ (e:Ex) (A:iE) (n c:Nat),j8 d s A n c e.args->iQ e.num->yX p x e->k+w+3 * mT e<=1000000->t.length+(cT (cE p x e w k).1).length<=1000000000->po D 181 [iT bb,.agg #[iB e.kind,iB e.op,iJ e.num,St e.name,.slice A n c]] M L s λv M' _=>v=.tuple #[]/\CR E bb (cE p x e w k).2 w vl (t++cT (cE p x e w k).1) M'
def Qw(D d:Nat)(p:jc)(x:iM):Prop:=∀ (L:Hl) (s:World),GP s->∀ (E:CE),tk s p x E->∀ (bb k w:Nat) (vl:Value) (M:Hl) (t:iH),CR E bb k w vl t M->∀ (e:Ex) (A:iE) (n c:Nat),e.kind=6->j8 d s A n c e.args->iQ e.num->yX p x e->k+w+3 * mT e<=1000000->t.length+(cT (cE p x e w k).1).length<=1000000000->po D 229 [iT bb,.agg #[iB e.kind,iB e.op,iJ e.num,St e.name,.slice A n c]] M L s λv M' _=>v=.tuple #[]/\CR E bb (cE p x e w k).2 w vl (t++cT (cE p x e w k).1) M'
def PY(D d:Nat)(p:jc)(x:iM):Prop:=∀ (L:Hl) (s:World),GP s->∀ (E:CE),tk s p x E->∀ (bb k w:Nat) (vl:Value) (M:Hl) (t:iH),CR E bb k w vl t M->∀ (e:Ex) (A:iE) (n c:Nat),e.kind=7->j8 d s A n c e.args->iQ e.num->yX p x e->k+w+3 * mT e<=1000000->t.length+(cT (cE p x e w k).1).length<=1000000000->po D 230 [iT bb,.agg #[iB e.kind,iB e.op,iJ e.num,St e.name,.slice A n c]] M L s λv M' _=>v=.tuple #[]/\CR E bb (cE p x e w k).2 w vl (t++cT (cE p x e w k).1) M'
def MM(D d:Nat)(p:jc)(x:iM):Prop:=∀ (L:Hl) (s:World),GP s->∀ (E:CE),tk s p x E->∀ (bb k w:Nat) (vl:Value) (M:Hl) (t:iH),CR E bb k w vl t M->∀ (nm:iH) (A:iE) (n c:Nat) (az:List Ex),j8 d s A n c az->vI p x az->az.length<=6->k+w+3 * lh az<=1000000->t.length+(cT ((cC p x az w k).1++cL p nm az.length)).length<=1000000000->po D 185 [iT bb,St nm,.slice A n c] M L s λv M' _=>v=.tuple #[]/\CR E bb (cC p x az w k).2 w vl (t++cT ((cC p x az w k).1++cL p nm az.length)) M'
def zH{l:List Ex}(h:j8 d s A n c l)(hX:vI p x l)(hj:j < l.length):∃ e b off y A' n' c',d=e+1/\A=some ⟨b,off,none⟩/\j < n/\l[j]?=some y/\iy s b (off+j * 5) [iB y.kind,iB y.op,iJ y.num,St y.name,.slice A' n' c']/\j8 e s A' n' c' y.args/\iQ y.num/\yX p x y:=by
 have hn:j < n:=by rw [h.1];exact hj
 obtain ⟨e,b,off,y,A',n',c',h1,h2,h3,h4,h5,h6,_⟩:=j8.at_ h hn;exact ⟨e,b,off,y,A',n',c',h1,h2,hn,h3,h4,h5,h6,hX.at_ h3⟩
def p_(ih:∀ e,d=e+1->ED D e p x)(hG:GP s)(hE:tk s p x E)(hW:CR E bb k w vl t M)(hA:j8 d s A n c az)(rL:vI p x az)(ha6:az.length<=6)(hk:k+w+3 * lh az<=1000000)(iK:t.length+(cT ((cC p x az w k).1++cL p nm az.length)).length<=1000000000):jU D 185 [iT bb,St nm,.slice A n c] (M++L) s λv L' _=>∃ M',L'=M'++L/\v=.tuple #[]/\CR E bb (cC p x az w k).2 w vl (t++cT ((cC p x az w k).1++cL p nm az.length)) M':=by
 obtain ⟨Ag,ng,cg,Af,nf,cf,gm,fm,sm,sz,nl⟩:=E;have qJ:ja s Ag ng cg p.o:=hE.gl;have hng:=qJ.1;have jp:sz=jm x:=hE.sz;have kL:nl=x.locals.length:=hE.nl;obtain ⟨bs,xE,ess,hms,hhms⟩:=hE.ms;have xE:sm=some bs:=xE;subst xE;obtain ⟨esg,hmg,hhmg⟩:=hE.mg;obtain ⟨esf,ze,hhmf⟩:=hE.mf;have hp6:=hE.pq.p6;have hl12:=hE.pq.l12;have hg64:=hE.pq.g64;have hf64:=hE.pq.f64;unfold jm at jp;obtain rfl:n=az.length:=hA.1;obtain ⟨i,hi,zY⟩:=Pv (nm:=nm) hE.pq.f0;rw [lA,ac] at iK;have yk:(zm (.ref AJ (fT (fi p nm)))).length<=(cT (cL p nm az.length)).length:=by rw [cL,ln,ac];omega
 refine jn (fn:=f185) jb func185 V Z ntmps185 Z (rs:=[]) Z [(0,_),(1,_),(2,_)] Z<|G9 ?_;refine lJ (γ:=Nat×Nat×Hl×iH) (λg=>[(0,_),(1,_),(2,_),(9,_),(10,_),(11,iB (g.1:Int))]) (λg=>g.2.2.1++L) (λg tw=>Le D s tw/\(g.1<=az.length/\CR ⟨Ag,ng,cg,Af,nf,cf,gm,fm,some bs,sz,nl⟩ bb g.2.1 (w+g.1) vl g.2.2.2 g.2.2.1/\g.2.2.2++cT (cC p x (az.drop g.1) (w+g.1) g.2.1).1=t++cT (cC p x az w k).1/\(cC p x (az.drop g.1) (w+g.1) g.2.1).2=(cC p x az w k).2/\g.2.1+(w+g.1)+3 * lh (az.drop g.1)<=1000000)) (λg=>az.length - g.1) (λ_ _ _ h hl=>⟨h.1.trans hl,h.2⟩) (0,k,M,t) (.c6 Z Z Z Z Z Z (.nil _)) Z ⟨Le.refl _,⟨aB _,hW,Z,Z,hk⟩⟩ ?_;intro g s1 I1;obtain ⟨j,kj,Mj,tj⟩:=g;obtain ⟨oV,hWj,hT1,hT2,hkj⟩:=I1.2;simp only at oV hWj hT1 hT2 hkj;dsimp only;have j9:=bl List.length hT1;simp only [ac] at j9;refine J6 ?_ ?_<;>intro c2;.obtain ⟨dy,bky,oy,y,Ay,ny,cy,uP,rfl,hny,hy,hcy,hsy,pK,hxy⟩:=zH (j:=j) Pz rL O;have hT:=qKq (p:=p) (x:=x) (w:=w+j) (k:=kj) hy;rw [zy hy] at hkj;have mM:=Us y;rw [hT] at j9;simp only [lA,ln,ac] at j9;refine G6 ?_;refine iA (jK Y6 hny) Z<|iA (ku Y3 Pz Z) Z<|jh Z [_,_,_,_,_] Y2 λβ3 s3 h3=>Wt 0 [_,_,_,_,_] Y9<|G5 ?_;refine iA (iZ 0 [_,_,_,_,_] Y5) Z<|lm Mj L kv (ih dy uP _ _ Pz _ Pz _ _ _ _ Mj _ hWj y Ay ny cy Pz pK hxy O Q1) ?_;rintro _ M1 s4 h4 ⟨rfl,kM⟩;refine G4 ?_;refine lm M1 L kv (OO (M:=M1) kM O Q1) ?_;rintro _ M2 s5 h5 ⟨rfl,mB⟩;refine G4 ?_;refine kq Y3 (jq O O)<|G2 ?_;refine iU ⟨(j+1,(cE p x y (w+j) kj).2,M2,_),[_],kp,Z,⟨Lc,⟨Oz,mB,by simp only;rw [<- hT1,hT];simp only [lA,ln,lD,am,aE,ao,aC,aq,bC];rfl,by simp only;rw [<- hT2,hT];rfl,by simp only;have:=Fv (p:=p) (x:=x) y (w+j) kj;rw [show w+(j+1)=w+j+1 from Z];omega⟩⟩,Oz⟩
 obtain rfl:az.length=j:=O
 rw [aL (ay _),cC] at hT1 hT2;rw [show cT ([]:List Li)=[] from rfl,aE] at hT1;subst hT1;simp only at hT2;subst hT2;refine G6 ?_;obtain ⟨p1,N1,v1,rj,rfl,pr⟩:=hWj;simp only [ao,sv];refine mv jt 12 Z 0 λs3 h3=>H7 ?_;refine iF 6 V<|jW Z Tt (Wd 0 Y5) Z<|za 8 Z (kK (E4 jO.str yA Z Z Pz) ((GG hhmf).trans (bl (Value.int .i64) (show _=fi p nm from Z)))) Z<|iF 9 V<|Jf Z Tt Z Z Z (RT Pz O O) λs4 h4=>iF 10 V<|qC Z Tt [(_,_),(_,_)] [_,_] Y9 λt5 s5 h5 hc5=>iF 11 V<|Jb Z Tt Z Z Z (wV (M:=(_::N1)) (n:=AJ) ⟨p1,N1,v1,rj,Z,pr⟩ Pz Q1) ?_;rintro _ _ s6 h6 ⟨M2,rfl,rfl,mB⟩;refine ⟨(λ_ hx _=>by cases hx),?_⟩;refine ji V<|rH ?_;refine mG Z ?_ ?_<;>intro c7
 .have hT:cL p nm az.length=[.ref AJ (fT (fi p nm)),.num Sp az.length]:=by rw [cL,au (by have:=c7;omega)]
  rw [hT] at iK;simp only [ln,lD,ac,aq] at iK;refine G6 ?_;refine Jc Y3 (vY (D:=D) Pz (M:=M2) mB (n:=Sp) O Q1) ?_;rintro _ _ s8 h8 ⟨M3,rfl,rfl,hW3⟩;refine G2 ?_;obtain ⟨p4,N4,v4,zZ,rfl,hb4⟩:=hW3;simp only [ao,sv];refine G6 ?_;refine iA (tD (c:=(w:Int)) Z Z Q7) Z<|G2 ?_;refine Wt 0 [_,_,_,_,_,_,_,_,_,_,_,_] Y9<|Zn ?_;refine lF [] _ (.inl Z) (.nil) Z Lc λ_ iD=>?_;exact ⟨(_::N4),rfl,rfl,by rw [hT];simpa only [lA,ln,lD,am,aE,ao,aC,aq,bC] using (show CR ⟨_,ng,cg,Af,nf,cf,gm,fm,some bs,sz,nl⟩ bb _ w vl _ _ from ⟨p4,N4,v4,zZ,rfl,hb4⟩)⟩
 obtain rfl:az=[]:=aJ (by have:=c7;omega);have hT:cL p nm ([]:List Ex).length=[.ref AJ (fT (fi p nm))]:=rfl;refine Zk ?_;refine lF [] _ (.inl Z) (.nil) Z Lc λ_ iD=>?_;exact Nw
def XN{p:Prop} (h:p:=by
 refine iU (lY.mk () [] (Lr D) (.cons (by first|(rw [au ‹e.op=3›];rfl)|(rw [ak ‹¬ e.op=3›];rfl)) (.nil _)) So Pr Tt)):p:=h
def qnR(ih:∀ e,d=e+1->ED D e p x)(hG:GP s)(hE:tk s p x E)(hW:CR E bb k w vl t M)(hk6:e.kind=6)(hA:j8 d s A n c e.args)(hu:iQ e.num)(hX:yX p x e)(hk:k+w+3 * mT e<=1000000)(iK:t.length+(cT (cE p x e w k).1).length<=1000000000):po D 229 [iT bb,.agg #[iB e.kind,iB e.op,iJ e.num,St e.name,.slice A n c]] M L s λv M' _=>v=.tuple #[]/\CR E bb (cE p x e w k).2 w vl (t++cT (cE p x e w k).1) M':=by
 have rL:=hX.args;obtain ⟨xJ,_⟩:=Uv hX;rw [hk6] at xJ;have xJ:1<=e.args.length:=xJ;refine jn (fn:=f229) jb func229 V Z ntmps229 Z (rs:=[]) Z [(0,_),(1,_)] Z<|Zs ?_;obtain ⟨dy,bky,oy,y,Ay,ny,cy,uP,rfl,hny,hy,hcy,hsy,pK,hxy⟩:=zH (j:=0) Pz rL O;have hN:=RZ hy;refine Zr<|kF Y2 λβ1 s1 h1=>tQ ?_ ?_<;>intro c2;.have hT:=QV (p:=p) (x:=x) (w:=w) (k:=k) hk6 c2 hy;rw [hT] at iK;simp only [lA,ln,lD,ac,aq,ao] at iK;refine G5 ?_;refine iA (jK (j:=0) Y6 hny) Z<|iA (ku Y3 Pz Z) Z<|lm M L kv (ih dy uP _ _ Pz _ Pz _ _ _ _ M _ hW y Ay ny cy Pz pK hxy O Q1) ?_;rintro _ M1 s3 h3 ⟨rfl,kM⟩;refine G7 ?_;refine lx [(_,_)] [_] Y9 λt4 s4 h4 hc4=>lm M1 L kv (yy (D:=D) (M:=M1) (n:=ra) kM Pz Q1) ?_;rintro _ M2 s5 h5 ⟨rfl,mB⟩;refine G4 ?_;exact rR [_] _ (.nil) Z Lc λ_ iD=>⟨M2,rfl,rfl,by rw [hT];simpa only [lA,ln,lD,am,aE,ao,aC,aq,bC] using (show CR E bb _ w vl _ _ from mB)⟩
 have hT:=QW (p:=p) (x:=x) (w:=w) (k:=k) hk6 c2 hy;rw [hT] at iK;simp only [lA,ln,lD,ac,aq,ao] at iK;refine G7 ?_;refine Dw (γ:=Unit) (λ_=>[(4,iB (if e.op=3 then 4294967295 else 0))]) [_] Z (λg=>M++L) (λg tw=>True) (λ_ _ _ h hl=>h) ?_ ?_
 .refine J7 ?_ ?_<;>intro c4;.refine G3 ?_;exact XN
  refine Zk ?_;exact XN
 intro g s3 h3 I3;simp only [jC,jD];have hof:0<=(if e.op=3 then 4294967295 else 0:Int)/\(if e.op=3 then 4294967295 else 0:Int) < 4294967296:=by split<;>decide
 refine G6 ?_;refine lm M L kv (vY (D:=D) Pz (M:=M) hW (n:=pX) hof Q1) ?_;rintro _ M1 s5 h5 ⟨rfl,kM⟩;refine G5 ?_;refine lm M1 L kv (OO (D:=D) (M:=M1) kM O Q1) ?_;rintro _ M2 s6 h6 ⟨rfl,mB⟩;refine G7 ?_;refine iA (jK (j:=0) Y6 hny) Z<|iA (ku Y3 Pz Z) Z<|lm M2 L kv (ih dy uP _ _ Pz _ Pz _ _ _ _ M2 _ mB y Ay ny cy Pz pK hxy O Q1) ?_;rintro _ M3 s7 h7 ⟨rfl,hW3⟩;refine G7 ?_;refine lx [(_,_)] [_] Y9 λt8 s8 h8 hc8=>lm M3 L kv (yy (D:=D) (M:=M3) (n:=E2) hW3 Pz Q1) ?_;rintro _ M4 s9 h9 ⟨rfl,pp⟩;refine G2 ?_;obtain ⟨p5,N5,v5,hp5,rfl,hb5⟩:=pp;simp only [ao,sv];refine G5 ?_;refine iA (tD (c:=(w:Int)) Z Z Q7) Z<|G2 ?_;refine Wt 1 [_,_,_,_,_,_,_,_,_,_,_,_] Y9<|Zn ?_;refine lF [_] _ (.inl Z) (.nil) Z Lc λ_ iD=>?_;exact ⟨(_::N5),rfl,rfl,by rw [hT];simpa only [lA,ln,lD,am,aE,ao,aC,aq,bC] using (show CR E bb _ w vl _ _ from ⟨p5,N5,v5,hp5,rfl,hb5⟩)⟩
def qnK(ih:∀ e,d=e+1->ED D e p x)(hG:GP s)(hE:tk s p x E)(hW:CR E bb k w vl t M)(Bh:e.kind=7)(hA:j8 d s A n c e.args)(hu:iQ e.num)(hX:yX p x e)(hk:k+w+3 * mT e<=1000000)(iK:t.length+(cT (cE p x e w k).1).length<=1000000000):po D 230 [iT bb,.agg #[iB e.kind,iB e.op,iJ e.num,St e.name,.slice A n c]] M L s λv M' _=>v=.tuple #[]/\CR E bb (cE p x e w k).2 w vl (t++cT (cE p x e w k).1) M':=by
 have rL:=hX.args;obtain ⟨xJ,_,_,vu⟩:=Uv hX;have vu:=vu Bh;rw [Bh] at xJ;have xJ:2<=e.args.length:=xJ;refine jn (fn:=f230) jb func230 V Z ntmps230 Z (rs:=[]) Z [(0,_),(1,_)] Z<|Zs ?_;obtain ⟨dy,bky,oy,y,Ay,ny,cy,uP,rfl,hny,hy,hcy,hsy,pK,hxy⟩:=zH (j:=0) Pz rL O;obtain ⟨dz,bkz,oz,z,Az,nz,cz,Bc,hAz,hnz,hz,hcz,jp,tX,hxz⟩:=zH (j:=1) Pz rL O;cases hAz;have hN:=qKJ hy hz;have uQ:=Fv (p:=p) (x:=x) y w k;have hle0:t.length+(cT (cE p x y w k).1).length<=1000000000:=by
   have h9:(cT (cE p x y w k).1).length<=(cT (cE p x e w k).1).length:=by
     by_cases qT:e.op=20
     . rw [YZ Bh hy hz qT];simp only [lA,ac];omega
     . by_cases uv:e.op=21
       . rw [Y0 Bh hy hz uv];simp only [lA,ac];omega
       . rw [Y1 Bh hy hz qT uv];simp only [lA,ac];omega
   omega
 refine Zr<|kF Y2 λβ1 s1 h1=>G7 ?_;refine iA (jK (j:=0) Y6 hny) Z<|iA (ku Y3 Pz Z) Z<|lm M L kv (ih dy uP _ _ Pz _ Pz _ _ _ _ M _ hW y Ay ny cy Pz pK hxy O Q1) ?_;rintro _ M1 s2 h2 ⟨rfl,kM⟩;refine MW ?_ ?_<;>intro c3;.have hT:=YZ (p:=p) (x:=x) (w:=w) (k:=k) Bh hy hz c3;rw [hT] at iK;simp only [lA,ln,lD,ac,aq,ao] at iK;refine G5 ?_;refine lm M1 L kv (Gh Pz (M:=M1) kM O) ?_;rintro _ M2 s4 h4 ⟨rfl,mB⟩;refine G9 ?_;refine lx [(_,_),(_,_)] [_,_] Y9 λt5 s5 h5 hc5=>lm M2 L kv (wV (M:=M2) (n:=uh) mB Pz Q1) ?_;rintro _ M3 s6 h6 ⟨rfl,hW3⟩;refine G7 ?_;refine iA (jK (j:=1) Y6 hnz) Z<|iA (ku Y3 Pz Z) Z<|lm M3 L kv (ih dz Bc _ _ Pz _ Pz _ _ _ _ M3 _ hW3 z Az nz cz Pz tX hxz O Q1) ?_;rintro _ M4 s7 h7 ⟨rfl,pp⟩;refine G7 ?_;refine lx [(_,_)] [_] Y9 λt8 s8 h8 hc8=>lm M4 L kv (yy (M:=M4) (n:=ra) pp Pz Q1) ?_;rintro _ M5 s9 h9 ⟨rfl,sJ⟩;refine G7 ?_;refine lx [(_,_)] [_] Y9 λb10 kH jG hc10=>lm M5 L kv (yy (M:=M5) (n:=ra) sJ Pz Q1) ?_;rintro _ M6 kz jM ⟨rfl,hW6⟩;refine G8 ?_;refine lm M6 L kv (B7 (M:=M6) hW6 Q1) ?_;rintro _ M7 kh jE ⟨rfl,hW7⟩;refine G5 ?_;exact rR [_] _ (.nil) Z Lc λ_ iD=>⟨M7,rfl,rfl,by rw [hT];simpa only [lA,ln,lD,am,aE,ao,aC,aq,bC] using (show CR E bb _ w vl _ _ from hW7)⟩
 have ho20:=c3;refine J6 ?_ ?_<;>intro c4;.have hT:=Y0 (p:=p) (x:=x) (w:=w) (k:=k) Bh hy hz c4;rw [hT] at iK;simp only [lA,ln,lD,ac,aq,ao] at iK;refine G5 ?_;refine lm M1 L kv (Gh Pz (M:=M1) kM O) ?_;rintro _ M2 s5 h5 ⟨rfl,mB⟩;refine G8 ?_;refine lx [(_,_)] [_] Y9 λt6 s6 h6 hc6=>lm M2 L kv (yy (M:=M2) (n:=ra) mB Pz Q1) ?_;rintro _ M3 s7 h7 ⟨rfl,hW3⟩;refine G8 ?_;refine lx [(_,_),(_,_)] [_,_] Y9 λt8 s8 h8 hc8=>lm M3 L kv (wV (M:=M3) (n:=uh) hW3 Pz Q1) ?_;rintro _ M4 s9 h9 ⟨rfl,pp⟩;refine G7 ?_;refine iA (jK (j:=1) Y6 hnz) Z<|iA (ku Y3 Pz Z) Z<|lm M4 L kv (ih dz Bc _ _ Pz _ Pz _ _ _ _ M4 _ pp z Az nz cz Pz tX hxz O Q1) ?_;rintro _ M5 kH jG ⟨rfl,sJ⟩;refine G7 ?_;refine lx [(_,_)] [_] Y9 λb11 kz jM hc11=>lm M5 L kv (yy (M:=M5) (n:=ra) sJ Pz Q1) ?_;rintro _ M6 kh jE ⟨rfl,hW6⟩;refine G8 ?_;refine lm M6 L kv (B7 (M:=M6) hW6 Q1) ?_;rintro _ M7 lq kV ⟨rfl,hW7⟩;refine G7 ?_;refine lx [(_,_)] [_] Y9 λb14 lG kI hc14=>lm M7 L kv (yy (M:=M7) (n:=ra) hW7 Pz Q1) ?_;rintro _ M8 lW lQ ⟨rfl,hW8⟩;refine G5 ?_;exact rR [_] _ (.nil) Z Lc λ_ iD=>⟨M8,rfl,rfl,by rw [hT];simpa only [lA,ln,lD,am,aE,ao,aC,aq,bC] using (show CR E bb _ w vl _ _ from hW8)⟩
 have hT:=Y1 (p:=p) (x:=x) (w:=w) (k:=k) Bh hy hz ho20 c4;rw [hT] at iK;simp only [lA,ln,lD,ac,aq,ao] at iK;refine G6 ?_;refine lm M1 L kv (OO (M:=M1) kM O Q1) ?_;rintro _ M2 s5 h5 ⟨rfl,mB⟩;refine G7 ?_;refine iA (jK (j:=1) Y6 hnz) Z<|iA (ku Y3 Pz Z) Z<|lm M2 L kv (ih dz Bc _ _ Pz _ Pz _ _ _ _ M2 _ mB z Az nz cz Pz tX hxz O Q1) ?_;rintro _ M3 s6 h6 ⟨rfl,hW3⟩;refine G7 ?_;refine Jc Y3 (qkn O) ?_;rintro _ _ s7 h7 ⟨rfl,Ak,nk,ck,rfl,hK⟩;have hnk:nk<=2:=by rw [hK.1];exact (Pj _).1
 refine G5 ?_;obtain ⟨tq,hq,hWq⟩:∃ tq,tq=((t++cT (cE p x y w k).1)++cT [.op qN])++cT (cE p x z (w+1) (cE p x y w k).2).1/\CR E bb (cE p x z (w+1) (cE p x y w k).2).2 (w+1) vl tq M3:=⟨_,rfl,hW3⟩;have hql:=bl List.length hq;simp only [ln,lD,ac,aq] at hql;refine CN [_] (γ:=Nat×Hl×iH) (λg=>[(0,_),(97,_),(98,_),(99,iB (g.1:Int))]) (λg=>g.2.1++L) (λg tw=>Le D s7 tw/\(g.1<=nk/\CR E bb (cE p x z (w+1) (cE p x y w k).2).2 (w+1) vl g.2.2 g.2.1/\g.2.2++cT (((yu e.op).drop g.1).map .op)=tq++cT ((yu e.op).map .op))) (λg=>nk - g.1) (λ_ _ _ h hl=>⟨h.1.trans hl,h.2⟩) (0,M3,tq) (.c4 Z Z Z Z (.nil _)) Z ⟨Le.refl _,⟨aB _,hWq,Z⟩⟩ ?_;intro g s8 I8;simp only [jC,jD];obtain ⟨j,Mj,tj⟩:=g;obtain ⟨oV,hWj,hT1⟩:=I8.2;simp only at oV hWj hT1;dsimp only;have j9:=bl List.length hT1;simp only [ac] at j9;refine J6 ?_ ?_<;>intro c9
 .have hjk:j < nk:=O
  obtain ⟨bk,ok,xk,rfl,Bp,Bb,_⟩:=iO.at_ Pz hjk;have xM:=qnU Bp;rw [xM,aN,ln,ac] at j9;refine G6 ?_;refine iA (lK Y6 hjk) Z<|iA (jS Y3 Pz Z) Z<|G8 ?_;refine lx [(_,_)] [_] Y9 λb10 kH jG hc10=>lm Mj L kv (yy (M:=Mj) (n:=_) hWj Pz Q1) ?_;rintro _ M4 kz jM ⟨rfl,pp⟩;refine G4 ?_;refine kq Y3 (jq O O)<|G2 ?_;refine iU ⟨(j+1,M4,_),[],kp,Z,⟨Lc,⟨Oz,pp,by simp only;rw [<- hT1,xM];simp only [aN,lA,ln,lD,am,aE,ao,aC,aq,bC]⟩⟩,Oz⟩
 rw [aL (by have:=hK.1;omega),dE,lD,aE] at hT1;subst hT1;subst hq;refine G5 ?_;obtain ⟨p4,N4,v4,zZ,rfl,hb4⟩:=hWj;simp only [ao,sv];refine G5 ?_;refine iA (tD (c:=(w:Int)) Z Z Q7) Z<|G2 ?_;refine Wt 1 [_,_,_,_,_,_,_,_,_,_,_,_] Y9<|Zn ?_;refine lF [_] _ (.inl Z) (.nil) Z Lc λ_ iD=>?_;exact ⟨(_::N4),rfl,rfl,by rw [hT];simpa only [lA,ln,lD,am,aE,ao,aC,aq,bC] using (show CR E bb _ w vl _ _ from ⟨p4,N4,v4,zZ,rfl,hb4⟩)⟩
def SE{p:Prop} (h:p:=by
 exact ⟨M1,rfl,rfl,by (first|rw [hT]|skip);simpa only [lA,ln,lD,am,aE,ao,aC,aq,bC] using (show CR ⟨_,ng,cg,Af,nf,cf,gm,fm,some bs,sz,nl⟩ bb _ w vl _ _ from kM)⟩):p:=h
def RI{p:Prop} (h:p:=by
 refine G2 ?_;refine lF [_] _ (.inl Z) (.nil) Z Lc λ_ iD=>?_;exact SE):p:=h
def Xn{p:Prop} (h:p:=by
 rintro _ M1 s8 h8 ⟨rfl,kM⟩;refine G2 ?_;refine lF [_] _ (.inl Z) (.nil) Z Lc λ_ iD=>?_;exact SE):p:=h
def quQ(ih:∀ e,d=e+1->ED D e p x)(hG:GP s)(hE:tk s p x E)(hW:CR E bb k w vl t M)(hUN:Qw D d p x)(hBI:PY D d p x)(hCL:MM D d p x)(hA:j8 d s A n c e.args)(hu:iQ e.num)(hX:yX p x e)(hk:k+w+3 * mT e<=1000000)(iK:t.length+(cT (cE p x e w k).1).length<=1000000000):po D 181 [iT bb,.agg #[iB e.kind,iB e.op,iJ e.num,St e.name,.slice A n c]] M L s λv M' _=>v=.tuple #[]/\CR E bb (cE p x e w k).2 w vl (t++cT (cE p x e w k).1) M':=by
 obtain ⟨Ag,ng,cg,Af,nf,cf,gm,fm,sm,sz,nl⟩:=E;have qJ:ja s Ag ng cg p.o:=hE.gl;have hng:=qJ.1;have jp:sz=jm x:=hE.sz;have kL:nl=x.locals.length:=hE.nl;obtain ⟨bs,xE,ess,hms,hhms⟩:=hE.ms;have xE:sm=some bs:=xE;subst xE;obtain ⟨esg,hmg,hhmg⟩:=hE.mg;obtain ⟨esf,ze,hhmf⟩:=hE.mf;have hp6:=hE.pq.p6;have hl12:=hE.pq.l12;have hg64:=hE.pq.g64;have hf64:=hE.pq.f64;unfold jm at jp;have rL:=hX.args;obtain ⟨xJ,he1,he7,_⟩:=Uv hX;have oQ:=hu.1;have o4:=hu.2;refine jn (fn:=f181) jb func181 V Z ntmps181 Z (rs:=[]) Z [(0,_),(1,_)] Z<|Sr<|kF Y2 λβ1 s1 h1=>EE ?_ ?_<;>intro c2;.have hT:=QQ (p:=p) (x:=x) (w:=w) (k:=k) c2;rw [hT] at iK;simp only [lA,ln,lD,ac,aq,ao] at iK;refine mv jt 7 Z 1 λs3 h3=>H5 ?_;refine za 5 Z (sW Y5 (jq O O)) Z<|iF 6 V<|mR M L lr (vY (D:=D) Pz (M:=M) hW (n:=pX) ⟨oQ,o4⟩ Q1) ?_;rintro _ M1 s4 h4 ⟨rfl,kM⟩;refine ji V<|Zb ?_;refine lF [_] _ (.inl Z) (.nil) Z Lc λ_ iD=>?_;exact SE
 refine J6 ?_ ?_<;>intro c3;.have hT:=QR (p:=p) (x:=x) (w:=w) (k:=k) c3;have uR:=Rm hX c3;have hlen0:=iK;rw [hT] at iK;simp only [lA,ln,lD,ac,aq,ao] at iK;refine G4 ?_;refine lm M L kv (quU p x Pz Pz hW uR O (by rw [hT] at hlen0;exact hlen0)) ?_;rintro _ M1 s4 h4 ⟨rfl,kM⟩;exact RI
 refine J6 ?_ ?_<;>intro c4
 .have hT:=c4;rw [hT] at xJ;have xJ:1<=e.args.length:=xJ;obtain ⟨i,g,hi,hg⟩:=Rn hX hT;obtain ⟨dy,bky,oy,y,Ay,ny,cy,uP,rfl,hny,hy,hcy,hsy,pK,hxy⟩:=zH (j:=0) Pz rL O;have hT:=QS (p:=p) (x:=x) (w:=w) (k:=k) hT hy;rw [hi,UY hg] at hT;rw [hT] at iK;simp only [lA,ln,lD,ac,aq,ao] at iK;have hN:=RZ hy;refine Zs ?_;obtain ⟨p1,N1,v1,rj,rfl,pr⟩:=hW;simp only [ao,sv];refine mr jt 8 Z _ (λ_ h=>h) λs5 h5=>H6 ?_;refine za 6 Z (kK (E4 jO.str yA Z Z Pz) ((GG hhmg).trans (bl (Value.int .i64) hi))) Z<|H1 ?_;refine ji V<|G6 ?_;refine iA (jK (j:=0) Y6 hny) Z<|iA (ku Y3 Pz Z) Z ?_;refine lm (_::N1) L kv (ih dy uP _ _ Pz _ Pz _ _ _ _ (_::N1) _ ⟨p1,N1,v1,rj,Z,pr⟩ y Ay ny cy Pz pK hxy O Q1) ?_;rintro _ M2 s6 h6 ⟨rfl,mB⟩;refine G3 ?_;obtain ⟨p3,N3,v3,xK,rfl,y9⟩:=mB;simp only [ao,sv];have Be:i < ng:=by rw [qJ.1];exact (al.1 hg).1
  obtain ⟨bg,og,g9,Ai,ni,ci,rfl,hg9,hcg,Bd,hug,hnl9⟩:=ja.at_ Pz Be;obtain rfl:g=g9:=cM (hg.symm.trans hg9);have hgu:=hug.1;have hgu2:=hug.2;refine mv jt 14 Z 0 λs7 h7=>H8 ?_;refine iF 7 V<|jW Z Tt (Wd 1 Y5) Z<|za 9 Z (jK (j:=i) Y6 Be) Z<|H1 ?_;refine za 11 Z (nK 2 Y3 Pz Z) Z<|za 12 Z (sW Y5 (jq O O)) Z<|iF 13 V ?_;refine mR (_::N3) L lr (vY (D:=D) Pz (M:=(_::N3)) ⟨p3,N3,v3,xK,Z,y9⟩ (n:=DQ) ⟨hgu,hgu2⟩ Q1) ?_;rintro _ M4 s8 h8 ⟨rfl,pp⟩;refine ji V<|Zt<|mv jt 7 Z 0 λs9 h9=>H4 ?_;refine iF 4 V<|Jf Z Tt Z Z Z (Ld Pz O O) λkH jG=>iF 5 V<|qC Z Tt [(_,_),(_,_)] [_,_] Y9 λb11 kz jM hc11=>iF 6 V<|mR M4 L lr (wV (D:=D) (M:=M4) (n:=O8) pp Pz Q1) ?_;rintro _ M5 kh jE ⟨rfl,sJ⟩;refine ji V<|Zb ?_;refine lF [_] _ (.inl Z) (.nil) Z Lc λ_ iD=>?_;exact ⟨M5,rfl,rfl,by (first|rw [hT]|skip);simpa only [lA,ln,lD,am,aE,ao,aC,aq,bC] using (show CR ⟨_,ng,cg,Af,nf,cf,gm,fm,some bs,sz,nl⟩ bb _ w vl _ _ from sJ)⟩
 refine J6 ?_ ?_<;>intro c5
 .have g4:=c5;have hT:=QT (p:=p) (x:=x) (w:=w) (k:=k) g4;rw [hT] at iK;have g6:e.args.length<=6:=by have:=(Bz (zz hX.1).1).2.2.2.1;rw [g4] at this;exact this
  have hN:lh e.args < mT e:=by cases e;rw [mT];exact Nat.lt_add_of_pos_left Nat.one_pos
  refine G6 ?_;refine lm M L kv (hCL _ _ Pz _ Pz _ _ _ _ M _ hW _ _ _ _ e.args Pz rL g6 O iK) ?_;rintro _ M1 s6 h6 ⟨rfl,kM⟩;exact RI
 refine J6 ?_ ?_<;>intro c6;.have hT:=QU (p:=p) (x:=x) (w:=w) (k:=k) c6;rw [hT] at iK;simp only [lA,ln,lD,ac,aq,ao] at iK;refine G4 ?_;refine lx [(_,_)] [_] Y9 λd7 s7 h7 hc7=>lm M L kv (yy (M:=M) (n:=Nr) hW Pz Q1) ?_;exact Xn
 refine J6 ?_ ?_<;>intro c7;.have hk6:=c7;refine Zr<|kb Y2<|iA (iZ 0 [_,_,_,_,_] Y5) Z<|lm M L kv (hUN _ _ Pz _ Pz _ _ _ _ M _ hW e _ _ _ hk6 Pz hu hX hk iK) ?_;exact Xn
 refine J6 ?_ ?_<;>intro c8;.have Bh:=c8;refine Zr<|kb Y2<|iA (iZ 0 [_,_,_,_,_] Y5) Z<|lm M L kv (hBI _ _ Pz _ Pz _ _ _ _ M _ hW e _ _ _ Bh Pz hu hX hk iK) ?_;rintro _ M1 s9 h9 ⟨rfl,kM⟩;exact RI
 exfalso;omega
def Xo{p:Prop} (h:p:=by
 exact ⟨hC,λL s hG E hE bb k w vl M t hW e A n c hA hu hX hk iK=>quQ ih hG hE hW hU hB hC hA hu hX hk iK⟩):p:=h
def Cs{D:Nat}(p:jc)(x:iM):∀ d,MM D d p x/\ED D d p x
 | 0=>by
  have ih:∀ e,0=e+1->ED D e p x:=λe h=>O
  have hC:MM D 0 p x:=λL s hG E hE bb k w vl M t hW nm A n c az hA rL h6 hk iK=>p_ ih hG hE hW hA rL h6 hk iK;have hU:Qw D 0 p x:=λL s hG E hE bb k w vl M t hW e A n c h6 hA hu hX hk iK=>qnR ih hG hE hW h6 hA hu hX hk iK;have hB:PY D 0 p x:=λL s hG E hE bb k w vl M t hW e A n c h6 hA hu hX hk iK=>qnK ih hG hE hW h6 hA hu hX hk iK;exact Xo
 | d+1=>by
  have ih:∀ e,d+1=e+1->ED D e p x:=λe h=>(show d=e by omega)▸(Cs p x d).2;have hC:MM D (d+1) p x:=λL s hG E hE bb k w vl M t hW nm A n c az hA rL h6 hk iK=>p_ ih hG hE hW hA rL h6 hk iK;have hU:Qw D (d+1) p x:=λL s hG E hE bb k w vl M t hW e A n c h6 hA hu hX hk iK=>qnR ih hG hE hW h6 hA hu hX hk iK;have hB:PY D (d+1) p x:=λL s hG E hE bb k w vl M t hW e A n c h6 hA hu hX hk iK=>qnK ih hG hE hW h6 hA hu hX hk iK;exact Xo
def AC.mid2{f:FuncId}{args:iz}{Q:Value->Hl->World->Prop}(X M R Y:Hl)(h:AC P D f args ((M++R)++(X++Y)) s (λv L' s'=>∃ M',L'=M'++(X++Y)/\Q v M' s')):AC P D f args (X++(M++(R++Y))) s (λv L' s'=>∃ M',L'=X++(M'++Y)/\Q v M' s'):=by
 rw [<- am M R Y];exact AC.mid X (M++R) Y h
def qr4(hG:GP s)(hW:CR E bb (k+1) w vl t M)(hk:k+1<=1000000):po D 231 [iT bb] M L s λv M' _=>v=St (lT (k+2))/\CR E bb (k+2) w vl t M':=Gh hG hW hk
def GU(D d:Nat)(p:jc)(x:iM):Prop:=∀ (L:Hl) (s:World),GP s->∀ (E:CE),tk s p x E->∀ (bb k:Nat) (vl:Value) (M R:Hl) (t:iH) (ls:List iH),CR E bb k 0 vl t M->Own 9 1 R vl ls.length (sb ls)->∀ (A:iE) (n c:Nat) (l:List iP) (lp lv:Nat),jo d s A n c l->CB p x l lp lv->(0 < lp->2<=ls.length)->ls.length<=2 * lv/\lv<=17->k+3 * ke l<=1000000->t.length+(cT (cB p x l k ls).1).length<=1000000000->po D 90 [iT bb,.slice A n c] (M++R) L s λv M' _=>v=.tuple #[]/\∃ M1 R1 qu,M'=M1++R1/\CR E bb (cB p x l k ls).2 0 qu (t++cT (cB p x l k ls).1) M1/\Own 9 1 R1 qu ls.length (sb ls)
def Na(D d:Nat)(p:jc)(x:iM):Prop:=∀ (L:Hl) (s:World),GP s->∀ (E:CE),tk s p x E->∀ (bb k:Nat) (vl:Value) (M R:Hl) (t:iH) (ls:List iH),CR E bb k 0 vl t M->Own 9 1 R vl ls.length (sb ls)->∀ (A1:iE) (n1 c1:Nat) (A2:iE) (n2 c2:Nat) (A3:iE) (n3 c3:Nat) (y:iP) (lp lv:Nat),j8 d s A1 n1 c1 y.exprs->jo d s A2 n2 c2 y.body->jo d s A3 n3 c3 y.els->zR p x y lp lv->(0 < lp->2<=ls.length)->ls.length<=2 * lv->k+3 * qm y<=1000000->t.length+(cT (cS p x y k ls).1).length<=1000000000->po D 136 [iT bb,.agg #[iB y.kind,St y.name,.slice A1 n1 c1,.slice A2 n2 c2,.slice A3 n3 c3]] (M++R) L s λv M' _=>v=.tuple #[]/\∃ M1 R1 qu,M'=M1++R1/\CR E bb (cS p x y k ls).2 0 qu (t++cT (cS p x y k ls).1) M1/\Own 9 1 R1 qu ls.length (sb ls)
def Qq(D d:Nat)(p:jc)(x:iM):Prop:=∀ (L:Hl) (s:World),GP s->∀ (E:CE),tk s p x E->∀ (bb k:Nat) (vl:Value) (M R:Hl) (t:iH) (ls:List iH),CR E bb k 0 vl t M->Own 9 1 R vl ls.length (sb ls)->∀ (A1:iE) (n1 c1:Nat) (A2:iE) (n2 c2:Nat) (A3:iE) (n3 c3:Nat) (y:iP) (lp lv:Nat),y.kind=3->j8 d s A1 n1 c1 y.exprs->jo d s A2 n2 c2 y.body->jo d s A3 n3 c3 y.els->zR p x y lp lv->(0 < lp->2<=ls.length)->ls.length<=2 * lv->k+3 * qm y<=1000000->t.length+(cT (cS p x y k ls).1).length<=1000000000->po D 183 [iT bb,.agg #[iB y.kind,St y.name,.slice A1 n1 c1,.slice A2 n2 c2,.slice A3 n3 c3]] (M++R) L s λv M' _=>v=.tuple #[]/\∃ M1 R1 qu,M'=M1++R1/\CR E bb (cS p x y k ls).2 0 qu (t++cT (cS p x y k ls).1) M1/\Own 9 1 R1 qu ls.length (sb ls)
def Qx(D d:Nat)(p:jc)(x:iM):Prop:=∀ (L:Hl) (s:World),GP s->∀ (E:CE),tk s p x E->∀ (bb k:Nat) (vl:Value) (M R:Hl) (t:iH) (ls:List iH),CR E bb k 0 vl t M->Own 9 1 R vl ls.length (sb ls)->∀ (A1:iE) (n1 c1:Nat) (A2:iE) (n2 c2:Nat) (A3:iE) (n3 c3:Nat) (y:iP) (lp lv:Nat),y.kind=4->j8 d s A1 n1 c1 y.exprs->jo d s A2 n2 c2 y.body->jo d s A3 n3 c3 y.els->zR p x y lp lv->(0 < lp->2<=ls.length)->ls.length<=2 * lv->k+3 * qm y<=1000000->t.length+(cT (cS p x y k ls).1).length<=1000000000->po D 184 [iT bb,.agg #[iB y.kind,St y.name,.slice A1 n1 c1,.slice A2 n2 c2,.slice A3 n3 c3]] (M++R) L s λv M' _=>v=.tuple #[]/\∃ M1 R1 qu,M'=M1++R1/\CR E bb (cS p x y k ls).2 0 qu (t++cT (cS p x y k ls).1) M1/\Own 9 1 R1 qu ls.length (sb ls)
def qnJ(ih:∀ e,d=e+1->Na D e p x)(hG:GP s)(hE:tk s p x E)(hW:CR E bb k 0 vl t M)(hO:Own 9 1 R vl ls.length (sb ls))(hA:jo d s A n c l)(hB:CB p x l lp lv)(sO:(0 < lp->2<=ls.length))(oN:ls.length<=2 * lv/\lv<=17)(hk:k+3 * ke l<=1000000)(iK:t.length+(cT (cB p x l k ls).1).length<=1000000000):jU D 90 [iT bb,.slice A n c] ((M++R)++L) s λv L' _=>∃ M',L'=M'++L/\v=.tuple #[]/\∃ M1 R1 qu,M'=M1++R1/\CR E bb (cB p x l k ls).2 0 qu (t++cT (cB p x l k ls).1) M1/\Own 9 1 R1 qu ls.length (sb ls):=by
 have hn:=hA.1;have nI:=hA.2.1;have pt:=hA.2.2.1;rw [am M R L];refine jn (fn:=f90) jb func90 V Z ntmps90 Z (rs:=[]) Z [(0,_),(1,_)] Z<|Zs ?_;refine G7 ?_;refine lJ (γ:=Nat×Nat×Hl×Hl×Value×iH) (λg=>[(0,_),(6,_),(7,_),(8,iB (g.1:Int))]) (λg=>g.2.2.1++(g.2.2.2.1++L)) (λg tw=>Le D s tw/\(g.1<=n/\CR E bb g.2.1 0 g.2.2.2.2.1 g.2.2.2.2.2 g.2.2.1/\Own 9 1 g.2.2.2.1 g.2.2.2.2.1 ls.length (sb ls)/\g.2.2.2.2.2++cT (cB p x (l.drop g.1) g.2.1 ls).1=t++cT (cB p x l k ls).1/\(cB p x (l.drop g.1) g.2.1 ls).2=(cB p x l k ls).2/\g.2.1+3 * ke (l.drop g.1)<=1000000)) (λg=>n - g.1) (λ_ _ _ h hl=>⟨h.1.trans hl,h.2⟩) (0,k,M,R,vl,t) (.c4 Z Z Z Z (.nil _)) Z ⟨Le.refl _,⟨aB _,hW,hO,Z,Z,hk⟩⟩ ?_;intro g s1 I1;obtain ⟨j,kj,Mj,Rj,vj,tj⟩:=g;obtain ⟨oV,hWj,yi,hT1,hT2,hkj⟩:=I1.2;simp only at oV hWj yi hT1 hT2 hkj;dsimp only;have j9:=bl List.length hT1;simp only [ac] at j9;refine J6 ?_ ?_<;>intro c2
 .have qw:j < n:=O
  obtain ⟨dy,bky,oy,y,A1,n1,c1,A2,n2,c2,A3,n3,c3,uP,rfl,hy,hcy,hay,hby,hey,_⟩:=jo.at_ Pz qw;have hT:=qKp (p:=p) (x:=x) (k:=kj) (ls:=ls) hy;rw [Vg hy] at hkj;rw [hT] at j9;simp only [lA,ac] at j9;refine G6 ?_;refine iA (jK Y6 qw) Z<|iA (ku Y3 Pz Z) Z<|jh Z [_,_,_,_,_] Y2 λβ3 s3 h3=>Wt 0 [_,_,_,_,_] Y9<|G4 ?_;refine iA (iZ 0 [_,_,_,_,_] Y5) Z<|Jc Y3 (AC.mid2 [_] Mj Rj L (ih dy uP _ _ Pz _ Pz _ _ _ Mj Rj _ _ hWj yi A1 n1 c1 A2 n2 c2 A3 n3 c3 y lp lv Pz Pz Pz (hB.at_ hy) sO oN.1 O O)) ?_;rintro _ _ s4 h4 ⟨_,rfl,rfl,M1,R1,qu,rfl,kM,hO1⟩;simp only [ao,aC,am];refine G4 ?_;refine kq Y3 (jq O O)<|G2 ?_;refine iU ⟨(j+1,(cS p x y kj ls).2,M1,R1,qu,_),[_],kp,Z,⟨Lc,⟨Oz,kM,hO1,by simp only;rw [<- hT1,hT];simp only [lA,ln,lD,am,aE,ao,aC,aq,bC],by simp only;rw [<- hT2,hT],by simp only;have:=YY (p:=p) (x:=x) y kj ls;omega⟩⟩,Oz⟩
 obtain rfl:l.length=j:=O
 rw [aL (ay _),cB] at hT1 hT2;rw [show cT ([]:List Li)=[] from rfl,aE] at hT1;subst hT1;simp only at hT2;subst hT2;refine G4 ?_;refine lF [] _ (.inl Z) (.nil) Z I1.1 λ_ iD=>?_;exact ⟨_,(am Mj Rj L).symm,rfl,Mj,Rj,_,rfl,hWj,yi⟩
def qnM(hBD:GU D d p x)(hG:GP s)(hE:tk s p x E)(hW:CR E bb k 0 vl t M)(hO:Own 9 1 R vl ls.length (sb ls))(zb:y.kind=3)(vn:j8 d s A1 n1 c1 y.exprs)(lR:jo d s A2 n2 c2 y.body)(nG:jo d s A3 n3 c3 y.els)(hS:zR p x y lp lv)(sO:(0 < lp->2<=ls.length))(oN:ls.length<=2 * lv)(hk:k+3 * qm y<=1000000)(iK:t.length+(cT (cS p x y k ls).1).length<=1000000000):jU D 183 [iT bb,.agg #[iB y.kind,St y.name,.slice A1 n1 c1,.slice A2 n2 c2,.slice A3 n3 c3]] ((M++R)++L) s λv L' _=>∃ M',L'=M'++L/\v=.tuple #[]/\∃ M1 R1 qu,M'=M1++R1/\CR E bb (cS p x y k ls).2 0 qu (t++cT (cS p x y k ls).1) M1/\Own 9 1 R1 qu ls.length (sb ls):=by
 have yp:=nG.1;rw [am M R L];obtain ⟨hv16,rL,hBb,hBe⟩:=hS.parts;have zV:=Gx y;rw [ak O] at hBb hBe;have qA:=AI hS.1 (.inr (.inl zb));refine jn (fn:=f183) jb func183 V Z ntmps183 Z (rs:=[]) Z [(0,_),(1,_)] Z<|Zs ?_;obtain ⟨de,bke,oe,e,Ae,ne,ce,hde,rfl,mL,he,zW,hse,hue,uU⟩:=zH (j:=0) Pz rL O;have uQ:=Fv (p:=p) (x:=x) e 0 (k+1);have xI:=GK (p:=p) (x:=x) y.body (cE p x e 0 (k+1)).2 ls;have y7:=zy he;rw [cm] at y7;have hln:t.length+(cT ((cE p x e 0 (k+1)).1++.ref uh (lT (k+1))::(cB p x y.body (cE p x e 0 (k+1)).2 ls).1)).length<=1000000000:=by
   by_cases h0:y.els=[]
   . rw [Jz zb he h0,lA,ac] at iK;omega
   . rw [YX zb he (λh=>h0 (aJ h)),lA,lA,ac,ac] at iK;omega
 simp only [lA,ln,ac] at hln;refine Zr<|kF Y2 λβ1 s1 h1=>G7 ?_;refine lm M (R++L) kv (Gh Pz (M:=M) hW O) ?_;rintro _ M1 s2 h2 ⟨rfl,kM⟩;refine G8 ?_;refine iA (jK (j:=0) Y6 mL) Z<|iA (ku Y3 Pz Z) Z<|lm M1 (R++L) kv ((Cs p x de).2 _ _ Pz _ Pz _ _ _ _ M1 _ kM e Ae ne ce Pz hue uU O Q1) ?_;rintro _ M2 s3 h3 ⟨rfl,mB⟩;refine G8 ?_;refine lx [(_,_),(_,_)] [_,_] Y9 λt4 s4 h4 hc4=>lm M2 (R++L) kv (wV (M:=M2) (n:=uh) mB Pz Q1) ?_;rintro _ M3 s5 h5 ⟨rfl,hW3⟩;refine G7 ?_;refine Jc Y3 (AC.mid2 [_] M3 R L (hBD _ _ Pz _ Pz _ _ _ M3 R _ _ hW3 hO _ _ _ y.body lp (lv+1) Pz hBb sO Ut O Q1)) ?_;rintro _ _ s6 h6 ⟨_,rfl,rfl,M4,R4,vl4,rfl,pp,hO4⟩;simp only [ao,aC,am];refine Wk ?_ ?_<;>intro c7;.have hT:=Jz (p:=p) (x:=x) (k:=k) (ls:=ls) zb he (aJ (by have:=c7;omega));rw [hT] at iK;simp only [lA,ln,lD,ac,aq,ao] at iK;refine G6 ?_;refine lm M4 (R4++L) kv (B7 (M:=M4) pp Q1) ?_;rintro _ M5 s8 h8 ⟨rfl,sJ⟩;refine G4 ?_;exact rR [_] _ (.nil) Z Lc λ_ iD=>⟨_,(am M5 R4 L).symm,rfl,M5,R4,_,rfl,by (first|rw [hT]|skip);simpa only [lA,ln,lD,am,aE,ao,aC,aq,bC] using (show CR _ _ _ 0 _ _ _ from sJ),hO4⟩
 have hT:=YX (p:=p) (x:=x) (k:=k) (ls:=ls) zb he (by have:=c7;omega);rw [hT] at iK;simp only [lA,ln,lD,ac,aq,ao] at iK;refine G7 ?_;refine lm M4 (R4++L) kv (Gh Pz (M:=M4) pp O) ?_;rintro _ M5 s8 h8 ⟨rfl,sJ⟩;refine G9 ?_;refine lx [(_,_),(_,_)] [_,_] Y9 λd9 s9 h9 hc9=>lm M5 (R4++L) kv (wV (M:=M5) (n:=wh) sJ Pz Q1) ?_;rintro _ M6 kH jG ⟨rfl,hW6⟩;refine G8 ?_;refine lm M6 (R4++L) kv (B7 (M:=M6) hW6 Q1) ?_;rintro _ M7 kz jM ⟨rfl,hW7⟩;refine G7 ?_;refine Jc Y3 (AC.mid2 [_] M7 R4 L (hBD _ _ Pz _ Pz _ _ _ M7 R4 _ _ hW7 hO4 _ _ _ y.els lp (lv+1) Pz hBe sO Ut O Q1)) ?_;rintro _ _ kh jE ⟨_,rfl,rfl,M8,R8,vl8,rfl,hW8,hO8⟩;simp only [ao,aC,am];refine G7 ?_;refine lm M8 (R8++L) kv (B7 (M:=M8) hW8 Q1) ?_;rintro _ M9 lq kV ⟨rfl,hW9⟩;refine Zn ?_;refine lF [_] _ (.inl Z) (.nil) Z Lc λ_ iD=>?_;exact ⟨_,(am M9 R8 L).symm,rfl,M9,R8,_,rfl,by (first|rw [hT]|skip);simpa only [lA,ln,lD,am,aE,ao,aC,aq,bC] using (show CR _ _ _ 0 _ _ _ from hW9),hO8⟩
def Hn{p:Prop} (h:p:=by
 exact ⟨_,(am (_::N11) R8 L).symm,rfl,(_::N11),R8,_,rfl,by rw [hT];simpa only [lA,ln,lD,am,aE,ao,aC,aq,bC] using (show CR _ _ _ 0 (.slice Av ls.length cv) _ _ from ⟨p11,N11,v11,hp11,rfl,hb11⟩),qv3 (by rw [<- DM];exact hO8) (by simp [sb]) (by simp)⟩):p:=h
def qnS(hBD:GU D d p x)(hG:GP s)(hE:tk s p x E)(hW:CR E bb k 0 vl t M)(hO:Own 9 1 R vl ls.length (sb ls))(hk4:y.kind=4)(vn:j8 d s A1 n1 c1 y.exprs)(lR:jo d s A2 n2 c2 y.body)(nG:jo d s A3 n3 c3 y.els)(hS:zR p x y lp lv)(sO:(0 < lp->2<=ls.length))(oN:ls.length<=2 * lv)(hk:k+3 * qm y<=1000000)(iK:t.length+(cT (cS p x y k ls).1).length<=1000000000):jU D 184 [iT bb,.agg #[iB y.kind,St y.name,.slice A1 n1 c1,.slice A2 n2 c2,.slice A3 n3 c3]] ((M++R)++L) s λv L' _=>∃ M',L'=M'++L/\v=.tuple #[]/\∃ M1 R1 qu,M'=M1++R1/\CR E bb (cS p x y k ls).2 0 qu (t++cT (cS p x y k ls).1) M1/\Own 9 1 R1 qu ls.length (sb ls):=by
 have yp:=nG.1;rw [am M R L];obtain ⟨hv16,rL,hBb,hBe⟩:=hS.parts;have zV:=Gx y;rw [au hk4] at hBb;have qA:=AI hS.1 (.inr (.inr (.inl hk4)));refine jn (fn:=f184) jb func184 V Z ntmps184 Z (rs:=[]) Z [(0,_),(1,_)] Z<|Zs ?_;obtain ⟨de,bke,oe,e,Ae,ne,ce,hde,rfl,mL,he,zW,hse,hue,uU⟩:=zH (j:=0) Pz rL O;have uQ:=Fv (p:=p) (x:=x) e 0 (k+2);have y7:=zy he;rw [cm] at y7;have hT:=QK (p:=p) (x:=x) (k:=k) (ls:=ls) hk4 he;rw [hT] at iK;simp only [lA,ln,lD,ac,aq,ao] at iK;refine Zr<|kF Y2 λβ1 s1 h1=>Nt<|Zs<|mv jt 10 Z 0 λs2 h2=>H6 ?_;refine iF 3 V<|mR M (R++L) lr (Gh Pz (M:=M) hW O) ?_;rintro _ M1 s3 h3 ⟨rfl,kM⟩;refine iF 7 V<|mR M1 (R++L) lr (qr4 Pz (M:=M1) kM O) ?_;rintro _ M2 s4 h4 ⟨rfl,mB⟩;refine H2 ?_;refine ji V<|G2 ?_;obtain ⟨p3,N3,v3,xK,rfl,y9⟩:=mB;simp only [ao,sv];refine G8 ?_;refine lx [(_,_),(_,_)] [_,_] Y9 λt5 s5 h5 hc5=>rQ (sz:=1) (_::_::N3) R L Y7 hO (Row.of_cells Pz Z Z) ⟨by simp [zM];omega,O⟩ Z ?_;intro vq Rq s6 h6 oq;obtain ⟨Avq,pg,rfl,_,_⟩:=Own.slice oq;simp only [ao,aC,am];refine G2 ?_;refine Wt 1 [_,_,_,_,_,_,_,_,_,_,_,_] Y9<|G3 ?_;have pp:CR E bb (k+2) 0 (.slice Avq (ls.length+2) pg) t (_::N3):=⟨p3,N3,v3,xK,rfl,y9⟩;have hO4:Own 9 1 Rq (.slice Avq (ls.length+2) pg) (ls++[lT (k+1),lT (k+2)]).length (sb (ls++[lT (k+1),lT (k+2)])):=by rw [ac,DM];exact oq
 refine G5 ?_;refine lm (_::N3) (Rq++L) kv (B7 (M:=(_::N3)) pp Q1) ?_;rintro _ M5 s7 h7 ⟨rfl,sJ⟩;refine G7 ?_;refine iA (jK (j:=0) Y6 mL) Z<|iA (ku Y3 Pz Z) Z<|lm M5 (Rq++L) kv ((Cs p x de).2 _ _ Pz _ Pz _ _ _ _ M5 _ sJ e Ae ne ce Pz hue uU O Q1) ?_;rintro _ M6 s8 h8 ⟨rfl,hW6⟩;refine G8 ?_;refine lx [(_,_),(_,_)] [_,_] Y9 λd9 s9 h9 hc9=>lm M6 (Rq++L) kv (wV (M:=M6) (n:=uh) hW6 Pz Q1) ?_;rintro _ M7 kH jG ⟨rfl,hW7⟩;refine G7 ?_;refine Jc Y3 (AC.mid2 [_] M7 Rq L (hBD _ _ Pz _ Pz _ _ _ M7 Rq _ _ hW7 hO4 _ _ _ y.body (lp+1) (lv+1) Pz hBb (λ_=>Ξ) Ut O Q1)) ?_;rintro _ _ kz jM ⟨_,rfl,rfl,M8,R8,vl8,rfl,hW8,hO8⟩;simp only [ao,aC,am];refine G8 ?_;refine lx [(_,_),(_,_)] [_,_] Y9 λb12 kh jE hc12=>lm M8 (R8++L) kv (wV (M:=M8) (n:=wh) hW8 Pz Q1) ?_;rintro _ M9 lq kV ⟨rfl,hW9⟩;refine G8 ?_;refine lm M9 (R8++L) kv (B7 (M:=M9) hW9 Q1) ?_;rintro _ M10 lG kI ⟨rfl,hW10⟩;refine G2 ?_;obtain ⟨p11,N11,v11,hp11,rfl,hb11⟩:=hW10;simp only [ao,sv];obtain ⟨Av,cv,rfl,hcv,_⟩:=Own.slice hO8;refine pM jt 15 Z [1] Q4 λlW lQ=>H7 ?_;refine kA 4 8 V ?_ ?_;.refine jW Z Tt (Wd 1 Y5) Z<|iF 8 V<|jW Z Tt (Wd 1 Y5) Z<|H1 ?_;refine za 10 Z (tD (c:=(ls.length:Int)) Z Z Q8) Z<|za 11 Z (GB Z Z Z Z Z Q37) Z<|H2 ?_;refine iF 14 V<|Wu Z Tt 1 [_,_,_,_,_,_,_,_,_,_,_,_] Y9 (sM (nD (jL)))<|ji V ?_;refine lF [_] _ (.inl Z) (.nil) Z Lc λ_ iD=>?_;exact Hn
 refine jW Z Tt (Wd 1 Y5) Z<|H1 ?_;refine za 10 Z (tD (c:=(ls.length:Int)) Z Z Q8) Z<|iF 4 V<|jW Z Tt (Wd 1 Y5) Z<|za 11 Z (GB Z Z Z Z Z Q37) Z<|H2 ?_;refine iF 14 V<|Wu Z Tt 1 [_,_,_,_,_,_,_,_,_,_,_,_] Y9 (sM (nD (jL)))<|ji V ?_;refine lF [_] _ (.inl Z) (.nil) Z Lc λ_ iD=>?_;exact Hn
def Ho{p:Prop} (h:p:=by
 exact ⟨_,(am M3 R L).symm,rfl,M3,R,_,rfl,by (first|rw [hT]|skip);simpa only [lA,ln,lD,am,aE,ao,aC,aq,bC] using (show CR _ _ _ 0 _ _ _ from hW3),hO⟩):p:=h
def Qg{p:Prop} (h:p:=by
 exact ⟨_,(am M1 R1 L).symm,rfl,M1,R1,_,rfl,by (first|rw [hT]|skip);simpa only [lA,ln,lD,am,aE,ao,aC,aq,bC] using (show CR _ _ _ 0 _ _ _ from kM),hO1⟩):p:=h
def Hp{p:Prop} (h:p:=by
 exact ⟨_,(am M2 R L).symm,rfl,M2,R,_,rfl,by (first|rw [hT]|skip);simpa only [lA,ln,lD,am,aE,ao,aC,aq,bC] using (show CR _ _ _ 0 _ _ _ from mB),hO⟩):p:=h
def Hq{p:Prop} (h:p:=by
 exact ⟨_,(am M2 [(br,cb (sb ls++ys) 9)] L).symm,rfl,M2,[(br,cb (sb ls++ys) 9)],_,rfl,by (first|rw [hT]|skip);simpa only [lA,ln,lD,am,aE,ao,aC,aq,bC] using (show CR _ _ _ 0 _ _ _ from mB),hO⟩):p:=h
def YF{p:Prop} (h:p:=by
 refine ji V<|Zb ?_;refine lF [_] _ (.inl Z) (.nil) Z Lc λ_ iD=>?_;exact Ho):p:=h
def Xj{p:Prop} (h:p:=by
 rintro _ M3 s6 h6 ⟨rfl,hW3⟩;refine ji V<|Zb ?_;refine lF [_] _ (.inl Z) (.nil) Z Lc λ_ iD=>?_;exact Ho):p:=h
def XA{p:Prop} (h:p:=by
 simp only [ao,aC,am];refine G2 ?_;refine lF [_] _ (.inl Z) (.nil) Z Lc λ_ iD=>?_;exact Qg):p:=h
def Ib{p:Prop} (h:p:=by
 intro b13 lq kV hc13;refine iF 16 V<|Jb Z Tt Z Z Z (AC.mid [_] (_::N1) ([(br,cb (sb ls++ys) 9)]++L) (wV (D:=D) (M:=(_::N1)) (n:=wh) ⟨p1,N1,v1,rj,Z,pr⟩ Pz Q1)) ?_;rintro _ _ lG kI ⟨M2,rfl,rfl,mB⟩;refine ⟨(λx hx _=>by rw [aU.1 hx];simp),?_⟩;simp only [jC,jD];refine ji V<|Zb ?_;refine lF [_] _ (.inl Z) (.nil) Z Lc λ_ iD=>?_;exact Hq):p:=h
def Ia{p:Prop} (h:p:=by
 intro b12 kh jE hc12;refine iF 16 V<|Jb Z Tt Z Z Z (AC.mid [_] (_::N1) ([(br,cb (sb ls++ys) 9)]++L) (wV (D:=D) (M:=(_::N1)) (n:=wh) ⟨p1,N1,v1,rj,Z,pr⟩ Pz Q1)) ?_;rintro _ _ lq kV ⟨M2,rfl,rfl,mB⟩;refine ⟨(λx hx _=>by rw [aU.1 hx];simp),?_⟩;simp only [jC,jD];refine ji V<|Zb ?_;refine lF [_] _ (.inl Z) (.nil) Z Lc λ_ iD=>?_;exact Hq):p:=h
def quW(hIF:Qq D d p x)(hWH:Qx D d p x)(hG:GP s)(hE:tk s p x E)(hW:CR E bb k 0 vl t M)(hO:Own 9 1 R vl ls.length (sb ls))(vn:j8 d s A1 n1 c1 y.exprs)(lR:jo d s A2 n2 c2 y.body)(nG:jo d s A3 n3 c3 y.els)(hS:zR p x y lp lv)(sO:(0 < lp->2<=ls.length))(oN:ls.length<=2 * lv)(hk:k+3 * qm y<=1000000)(iK:t.length+(cT (cS p x y k ls).1).length<=1000000000):jU D 136 [iT bb,.agg #[iB y.kind,St y.name,.slice A1 n1 c1,.slice A2 n2 c2,.slice A3 n3 c3]] ((M++R)++L) s λv L' _=>∃ M',L'=M'++L/\v=.tuple #[]/\∃ M1 R1 qu,M'=M1++R1/\CR E bb (cS p x y k ls).2 0 qu (t++cT (cS p x y k ls).1) M1/\Own 9 1 R1 qu ls.length (sb ls):=by
 obtain ⟨Ag,ng,cg,Af,nf,cf,gm,fm,sm,sz,nl⟩:=E;have qJ:ja s Ag ng cg p.o:=hE.gl;have hng:=qJ.1;have jp:sz=jm x:=hE.sz;have kL:nl=x.locals.length:=hE.nl;obtain ⟨bs,xE,ess,hms,hhms⟩:=hE.ms;have xE:sm=some bs:=xE;subst xE;obtain ⟨esg,hmg,hhmg⟩:=hE.mg;obtain ⟨esf,ze,hhmf⟩:=hE.mf;have hp6:=hE.pq.p6;have hl12:=hE.pq.l12;have hg64:=hE.pq.g64;have hf64:=hE.pq.f64;unfold jm at jp;have yp:=nG.1;rw [am M R L];obtain ⟨hv16,rL,hBb,hBe⟩:=hS.parts;have zV:=Gx y;obtain ⟨uQ,hk10,hka,hkb,_⟩:=Cb (wY hS.1).2.1;refine jn (fn:=f136) jb func136 V Z ntmps136 Z (rs:=[]) Z [(0,_),(1,_)] Z<|Zs ?_;refine Zr<|kF Y2 λβ1 s1 h1=>EE ?_ ?_<;>intro c2
 .have hk:=c2;have qA:=AI hS.1 (.inl hk);obtain ⟨de,bke,oe,e,Ae,ne,ce,hde,rfl,mL,he,zW,hse,hue,uU⟩:=zH (j:=0) Pz rL O;have y7:=zy he;rw [cm] at y7;have hT:=QI (p:=p) (x:=x) (k:=k) (ls:=ls) hk he;have uR:=Vn hS hk;rw [hT] at iK;simp only [lA,ln,lD,ac,aq,ao] at iK;refine G5 ?_;refine iA (jK (j:=0) Y6 mL) Z<|iA (ku Y3 Pz Z) Z<|lm M (R++L) kv ((Cs (D:=D) p x de).2 _ _ Pz _ Pz _ _ _ _ M _ hW e Ae ne ce Pz hue uU O Q1) ?_;rintro _ M1 s3 h3 ⟨rfl,kM⟩;refine G3 ?_;obtain ⟨p2,N2,v2,rP,rfl,tV⟩:=kM;simp only [ao,sv];rcases uR with ⟨a,ha⟩|⟨hn,i,g,hi,hg⟩
  .rw [qKn (p:=p) ha] at hT iK;have hrg:=OR ha;unfold jm at hT iK hrg;rw [<- jp] at hT iK;refine mr jt 12 Z _ (λ_ h=>h) λs4 h4=>H6 ?_;refine za 6 Z (kK (Kd jO.str yA Z Z Pz) (show _=Value.tuple #[iB a,.bool true] by rw [hhms,ha];rfl)) Z<|H5 ?_;refine ji V<|G7 ?_;refine mv jt 15 Z 0 λs5 h5=>Qp ?_;refine kA 6 10 V ?_ ?_;.refine jW Z Tt (Wd 1 Y5) Z<|iF 10 V<|jW Z Tt (Wd 1 Y5) Z<|za 11 Z (nV Z Z (jq O O)) Z<|za 13 Z (tD (c:=(sz:Int) - a) Z Z Q7) Z<|iF 14 V<|mR (_::N2) (R++L) lr (vY (D:=D) Pz (M:=(_::N2)) ⟨p2,N2,v2,rP,Z,tV⟩ (n:=OG) O Q1) ?_;exact Xj
   refine jW Z Tt (Wd 1 Y5) Z<|iF 6 V<|jW Z Tt (Wd 1 Y5) Z<|za 11 Z (nV Z Z (jq O O)) Z<|za 13 Z (tD (c:=(sz:Int) - a) Z Z Q7) Z<|iF 14 V<|mR (_::N2) (R++L) lr (vY (D:=D) Pz (M:=(_::N2)) ⟨p2,N2,v2,rP,Z,tV⟩ (n:=OG) O Q1) ?_;exact Xj
  rw [qKm (x:=x) hn hi] at hT iK;have Bd:=(al.1 hg).1;refine mr jt 12 Z _ (λ_ h=>h) λs4 h4=>H6 ?_;refine za 6 Z (kK (Kd jO.str yA Z Z Pz) (show _=Value.tuple #[iB 0,.bool false] by rw [hhms,hn];rfl)) Z<|H5 ?_;refine ji V<|G7 ?_;refine mv jt 13 Z 1 λs5 h5=>H8 ?_;refine iF 6 V<|jW Z Tt (Wd 1 Y5) Z<|za 9 Z (kK (E4 jO.str yA Z Z Pz) ((GG hhmg).trans (bl (Value.int .i64) hi))) Z<|iF 10 V<|Jf Z Tt Z Z Z (Ld Pz O O) λs6 h6=>iF 11 V<|qC Z Tt [(_,_),(_,_)] [_,_] Y9 λd7 s7 h7 hc7=>iF 12 V<|mR (_::N2) (R++L) lr (wV (D:=D) (M:=(_::N2)) (n:=Vb) ⟨p2,N2,v2,rP,Z,tV⟩ Pz Q1) ?_;rintro _ M3 s8 h8 ⟨rfl,hW3⟩;exact YF
 refine J6 ?_ ?_<;>intro c3
 .have hk:=c3;have qX:=Zj hS.1 hk;obtain ⟨de,bke,oe,e,Ae,ne,ce,hde,rfl,mL,he,zW,hse,hue,uU⟩:=zH (j:=0) Pz rL O;obtain ⟨df,bkf,of,f,Af,nf,cf,hdf,hAf,hnf,hf,hcf,hsf,huf,hxf⟩:=zH (j:=1) Pz rL O;cases hAf;have y7:=zy he;have hNf:=zy hf;rw [cm,aX] at y7;have uQ:=Fv (p:=p) (x:=x) e 0 k;obtain ⟨i,g,hi,hg⟩:=Vo hS hk;have hT:=QJ (p:=p) (x:=x) (k:=k) (ls:=ls) hk he hf;rw [hi,UY hg] at hT;rw [hT] at iK;simp only [lA,ln,lD,ac,aq,ao] at iK;refine Zs ?_;obtain ⟨p1,N1,v1,rj,rfl,pr⟩:=hW;simp only [ao,sv];refine mr jt 8 Z _ (λ_ h=>h) λs4 h4=>H6 ?_;refine za 6 Z (kK (E4 jO.str yA Z Z Pz) ((GG hhmg).trans (bl (Value.int .i64) hi))) Z<|H1 ?_;refine ji V<|G6 ?_;refine iA (jK (j:=0) Y6 mL) Z<|iA (ku Y3 Pz Z) Z ?_;refine lm (_::N1) (R++L) kv ((Cs (D:=D) p x de).2 _ _ Pz _ Pz _ _ _ _ (_::N1) _ ⟨p1,N1,v1,rj,Z,pr⟩ e Ae ne ce Pz hue uU O Q1) ?_;rintro _ M2 s5 h5 ⟨rfl,mB⟩;refine G3 ?_;obtain ⟨p3,N3,v3,xK,rfl,y9⟩:=mB;simp only [ao,sv];have Be:i < ng:=by rw [qJ.1];exact (al.1 hg).1
  obtain ⟨bg,og,g9,Ai,ni,ci,rfl,hg9,hcg,Bd,hug,hnl9⟩:=ja.at_ Pz Be;obtain rfl:g=g9:=cM (hg.symm.trans hg9);have hgu:=hug.1;have hgu2:=hug.2;refine mv jt 14 Z 0 λs6 h6=>H8 ?_;refine iF 7 V<|jW Z Tt (Wd 1 Y5) Z<|za 9 Z (jK (j:=i) Y6 Be) Z<|H1 ?_;refine za 11 Z (nK 2 Y3 Pz Z) Z<|za 12 Z (sW Y5 (jq O O)) Z<|iF 13 V ?_;refine mR (_::N3) (R++L) lr (vY (D:=D) Pz (M:=(_::N3)) ⟨p3,N3,v3,xK,Z,y9⟩ (n:=DQ) ⟨hgu,hgu2⟩ Q1) ?_;rintro _ M4 s7 h7 ⟨rfl,pp⟩;refine ji V<|G4 ?_;refine lm M4 (R++L) kv (OO (D:=D) (M:=M4) pp O Q1) ?_;rintro _ M5 s8 h8 ⟨rfl,sJ⟩;refine G7 ?_;refine iA (jK (j:=1) Y6 hnf) Z<|iA (ku Y3 Pz Z) Z<|lm M5 (R++L) kv ((Cs (D:=D) p x df).2 _ _ Pz _ Pz _ _ 1 _ M5 _ sJ f Af nf cf Pz huf hxf O Q1) ?_;rintro _ M6 s9 h9 ⟨rfl,hW6⟩;refine Nt<|Zs<|mv jt 7 Z 0 λkH jG=>H4 ?_;refine iF 4 V<|Jf Z Tt Z Z Z (Ld Pz O O) λkz jM=>iF 5 V<|qC Z Tt [(_,_),(_,_)] [_,_] Y9 λb12 kh jE hc12=>iF 6 V<|mR M6 (R++L) lr (wV (D:=D) (M:=M6) (n:=O9) hW6 Pz Q1) ?_;rintro _ M7 lq kV ⟨rfl,hW7⟩;refine ji V<|Zt ?_;obtain ⟨p8,N8,v8,hp8,rfl,hb8⟩:=hW7;simp only [ao,sv];refine G5 ?_;refine iA (tD (c:=((0:Nat):Int)) Z Z Q7) Z<|G2 ?_;refine Wt 1 [_,_,_,_,_,_,_,_,_,_,_,_] Y9<|G2 ?_;refine lF [_] _ (.inl Z) (.nil) Z Lc λ_ iD=>?_;exact ⟨_,(am (_::N8) R L).symm,rfl,(_::N8),R,_,rfl,by (first|rw [hT]|skip);simpa only [lA,ln,lD,am,aE,ao,aC,aq,bC] using (show CR _ _ _ 0 _ _ _ from ⟨p8,N8,v8,hp8,rfl,hb8⟩),hO⟩
 refine J6 ?_ ?_<;>intro c4;.have zb:=c4;refine Zr<|kb Y2<|iA (iZ 0 [_,_,_,_,_] Y5) Z<|Jc Y3 (AC.mid2 [_] M R L (hIF _ _ Pz _ Pz _ _ _ M R _ _ hW hO _ _ _ _ _ _ _ _ _ y lp lv zb Pz Pz Pz hS sO oN hk iK)) ?_;rintro _ _ s5 h5 ⟨_,rfl,rfl,M1,R1,qu,rfl,kM,hO1⟩;exact XA
 refine J6 ?_ ?_<;>intro c5;.have hk4:=c5;refine Zr<|kb Y2<|iA (iZ 0 [_,_,_,_,_] Y5) Z<|Jc Y3 (AC.mid2 [_] M R L (hWH _ _ Pz _ Pz _ _ _ M R _ _ hW hO _ _ _ _ _ _ _ _ _ y lp lv hk4 Pz Pz Pz hS sO oN hk iK)) ?_;rintro _ _ s6 h6 ⟨_,rfl,rfl,M1,R1,qu,rfl,kM,hO1⟩;exact XA
 refine J6 ?_ ?_<;>intro c6;.have hk:=c6;have hT:=QL (p:=p) (x:=x) (k:=k) (ls:=ls) hk;rw [hT] at iK;have ha6:=Zm hS.1 hk;refine G6 ?_;refine lm M (R++L) kv ((Cs (D:=D) p x d).1 _ _ Pz _ Pz _ _ _ _ M _ hW _ _ _ _ y.exprs Pz rL ha6 O iK) ?_;rintro _ M1 s7 h7 ⟨rfl,kM⟩;refine G2 ?_;refine lF [_] _ (.inl Z) (.nil) Z Lc λ_ iD=>?_;exact ⟨_,(am M1 R L).symm,rfl,M1,R,_,rfl,by (first|rw [hT]|skip);simpa only [lA,ln,lD,am,aE,ao,aC,aq,bC] using (show CR _ _ _ 0 _ _ _ from kM),hO⟩
 refine J6 ?_ ?_<;>intro c7;.have hk:=c7;have qA:=AI hS.1 (.inr (.inr (.inr (.inl hk))));obtain ⟨de,bke,oe,e,Ae,ne,ce,hde,rfl,mL,he,zW,hse,hue,uU⟩:=zH (j:=0) Pz rL O;have y7:=zy he;rw [cm] at y7;have hT:=QM (p:=p) (x:=x) (k:=k) (ls:=ls) hk he;rw [hT] at iK;simp only [lA,ln,lD,ac,aq,ao] at iK;refine G5 ?_;refine iA (jK (j:=0) Y6 mL) Z<|iA (ku Y3 Pz Z) Z<|lm M (R++L) kv ((Cs (D:=D) p x de).2 _ _ Pz _ Pz _ _ _ _ M _ hW e Ae ne ce Pz hue uU O Q1) ?_;rintro _ M1 s8 h8 ⟨rfl,kM⟩;refine G2 ?_;obtain ⟨p2,N2,v2,rP,rfl,tV⟩:=kM;simp only [ao,sv];refine mv jt 9 Z 0 λs9 h9=>H6 ?_;refine iF 6 V<|jW Z Tt (Wd 1 Y5) Z<|za 7 Z (nV (c:=((x.locals.length+1:Nat):Int)) Z Z Q7) Z<|iF 8 V<|mR (_::N2) (R++L) lr (vY (D:=D) Pz (M:=(_::N2)) ⟨p2,N2,v2,rP,Z,tV⟩ (n:=D0) O Q1) ?_;rintro _ M3 kH jG ⟨rfl,hW3⟩;exact YF
 refine J6 ?_ ?_<;>intro c8;.have hk:=c8;have qA:=AI hS.1 (.inr (.inr (.inr (.inr (.inl hk)))));obtain ⟨de,bke,oe,e,Ae,ne,ce,hde,rfl,mL,he,zW,hse,hue,uU⟩:=zH (j:=0) Pz rL O;have y7:=zy he;rw [cm] at y7;have hT:=QN (p:=p) (x:=x) (k:=k) (ls:=ls) hk he;rw [hT] at iK;simp only [lA,ln,lD,ac,aq,ao] at iK;refine G5 ?_;refine iA (jK (j:=0) Y6 mL) Z<|iA (ku Y3 Pz Z) Z<|lm M (R++L) kv ((Cs (D:=D) p x de).2 _ _ Pz _ Pz _ _ _ _ M _ hW e Ae ne ce Pz hue uU O Q1) ?_;rintro _ M1 s9 h9 ⟨rfl,kM⟩;refine G6 ?_;refine lx [(_,_)] [_] Y9 λb10 kH jG hc10=>lm M1 (R++L) kv (yy (M:=M1) (n:=Ns) kM Pz Q1) ?_;rintro _ M2 kz jM ⟨rfl,mB⟩;refine G2 ?_;refine lF [_] _ (.inl Z) (.nil) Z Lc λ_ iD=>?_;exact Hp
 refine J6 ?_ ?_<;>intro c9;.have hk:=c9;have qA:=AI hS.1 (.inr (.inr (.inr (.inr (.inr hk)))));obtain ⟨de,bke,oe,e,Ae,ne,ce,hde,rfl,mL,he,zW,hse,hue,uU⟩:=zH (j:=0) Pz rL O;have y7:=zy he;rw [cm] at y7;have hT:=QO (p:=p) (x:=x) (k:=k) (ls:=ls) hk he;rw [hT] at iK;simp only [lA,ln,lD,ac,aq,ao] at iK;refine G5 ?_;refine iA (jK (j:=0) Y6 mL) Z<|iA (ku Y3 Pz Z) Z<|lm M (R++L) kv ((Cs (D:=D) p x de).2 _ _ Pz _ Pz _ _ _ _ M _ hW e Ae ne ce Pz hue uU O Q1) ?_;rintro _ M1 kH jG ⟨rfl,kM⟩;refine G6 ?_;refine lx [(_,_)] [_] Y9 λb11 kz jM hc11=>lm M1 (R++L) kv (yy (M:=M1) (n:=BI) kM Pz Q1) ?_;rintro _ M2 kh jE ⟨rfl,mB⟩;refine G2 ?_;refine lF [_] _ (.inl Z) (.nil) Z Lc λ_ iD=>?_;exact Hp
 refine J6 ?_ ?_<;>intro mz
 .have hk9:=mz;have hT:=QP (p:=p) (x:=x) (k:=k) (ls:=ls) hk9;rw [hT] at iK;simp only [lA,ln,lD,ac,aq,ao] at iK;obtain ⟨p1,N1,v1,rj,rfl,pr⟩:=hW;simp only [ao,sv];have qX:=sO (Lk hS (.inl hk9));have hjl:ls.length - 1 < ls.length:=O
  obtain ⟨Av,cv,rfl,_,_⟩:=Own.slice hO;obtain ⟨br,ys,rfl,hR,hle1,qK,_,_⟩:=Ow hO O;subst hR;have hnr:=qst (ys:=ys) (qzW hjl);refine mr jt 17 Z [(br,cb (sb ls++ys) 9)] (λx hx=>by rw [aU.1 hx];simp) λkz jM=>H9 ?_;refine kA 6 10 V ?_ ?_;.refine X27 ?_;refine za 12 Z (tD (c:=((ls.length - 1:Nat):Int)) Z Z Q7) Z<|za 13 Z (lK Y6 hjl) Z<|za 14 Z (rS 0 Y4 hnr) Z<|iF 15 V<|qC Z Tt [(_,_),(_,_)] [_,_] Y9 ?_;exact Ia
  refine jW Z Tt (Wd 1 Y5) Z<|H1 ?_;refine za 12 Z (tD (c:=((ls.length - 1:Nat):Int)) Z Z Q7) Z<|iF 6 V<|jW Z Tt (Wd 1 Y5) Z<|za 13 Z (lK Y6 hjl) Z<|za 14 Z (rS 0 Y4 hnr) Z<|iF 15 V<|qC Z Tt [(_,_),(_,_)] [_,_] Y9 ?_;exact Ia
 refine J6 ?_ ?_<;>intro nZ
 .have hkx:=nZ;have hT:=qKw (p:=p) (x:=x) (k:=k) (ls:=ls) hkx;rw [hT] at iK;simp only [lA,ln,lD,ac,aq,ao] at iK;obtain ⟨p1,N1,v1,rj,rfl,pr⟩:=hW;simp only [ao,sv];have qX:=sO (Lk hS (.inr hkx));have hjl:ls.length - 2 < ls.length:=O
  obtain ⟨Av,cv,rfl,_,_⟩:=Own.slice hO;obtain ⟨br,ys,rfl,hR,hle1,qK,_,_⟩:=Ow hO O;subst hR;have hnr:=qst (ys:=ys) (qzW hjl);refine mr jt 17 Z [(br,cb (sb ls++ys) 9)] (λx hx=>by rw [aU.1 hx];simp) λkh jE=>H9 ?_;refine kA 6 10 V ?_ ?_;.refine X27 ?_;refine za 12 Z (tD (c:=((ls.length - 2:Nat):Int)) Z Z Q7) Z<|za 13 Z (lK Y6 hjl) Z<|za 14 Z (rS 0 Y4 hnr) Z<|iF 15 V<|qC Z Tt [(_,_),(_,_)] [_,_] Y9 ?_;exact Ib
  refine jW Z Tt (Wd 1 Y5) Z<|H1 ?_;refine za 12 Z (tD (c:=((ls.length - 2:Nat):Int)) Z Z Q7) Z<|iF 6 V<|jW Z Tt (Wd 1 Y5) Z<|za 13 Z (lK Y6 hjl) Z<|za 14 Z (rS 0 Y4 hnr) Z<|iF 15 V<|qC Z Tt [(_,_),(_,_)] [_,_] Y9 ?_;exact Ib
 exfalso;omega
def WT{p:Prop} (h:p:=by
 exact ⟨hB,λL s hG E hE bb k vl M R t ls hW hO A1 n1 c1 A2 n2 c2 A3 n3 c3 y lp lv a1 a2 a3 a4 a5 a6 a7 a8=>quW hI hL hG hE hW hO a1 a2 a3 a4 a5 a6 a7 a8⟩):p:=h
def JG{D:Nat}(p:jc)(x:iM):∀ d,GU D d p x/\Na D d p x
 | 0=>by
  have ih:∀ e,0=e+1->Na D e p x:=λe h=>O
  have hB:GU D 0 p x:=λL s hG E hE bb k vl M R t ls hW hO A n c l lp lv a1 a2 a3 a4 a5 a6=>qnJ ih hG hE hW hO a1 a2 a3 a4 a5 a6;have hI:Qq D 0 p x:=λL s hG E hE bb k vl M R t ls hW hO A1 n1 c1 A2 n2 c2 A3 n3 c3 y lp lv h3 a1 a2 a3 a4 a5 a6 a7 a8=>qnM hB hG hE hW hO h3 a1 a2 a3 a4 a5 a6 a7 a8;have hL:Qx D 0 p x:=λL s hG E hE bb k vl M R t ls hW hO A1 n1 c1 A2 n2 c2 A3 n3 c3 y lp lv h3 a1 a2 a3 a4 a5 a6 a7 a8=>qnS hB hG hE hW hO h3 a1 a2 a3 a4 a5 a6 a7 a8;exact WT
 | d+1=>by
  have ih:∀ e,d+1=e+1->Na D e p x:=λe h=>(show d=e by omega)▸(JG p x d).2;have hB:GU D (d+1) p x:=λL s hG E hE bb k vl M R t ls hW hO A n c l lp lv a1 a2 a3 a4 a5 a6=>qnJ ih hG hE hW hO a1 a2 a3 a4 a5 a6;have hI:Qq D (d+1) p x:=λL s hG E hE bb k vl M R t ls hW hO A1 n1 c1 A2 n2 c2 A3 n3 c3 y lp lv h3 a1 a2 a3 a4 a5 a6 a7 a8=>qnM hB hG hE hW hO h3 a1 a2 a3 a4 a5 a6 a7 a8;have hL:Qx D (d+1) p x:=λL s hG E hE bb k vl M R t ls hW hO A1 n1 c1 A2 n2 c2 A3 n3 c3 y lp lv h3 a1 a2 a3 a4 a5 a6 a7 a8=>qnS hB hG hE hW hO h3 a1 a2 a3 a4 a5 a6 a7 a8;exact WT
def quP(p:jc)(hG:GP s)(qJ:ja s E.Ag E.ng E.cg p.o)(h64:p.o.length<=64)(hgg:∀ g∈p.o,qk g=0)(hW:CR E bb k w vl t M)(iK:t.length+(cT (uN p.o 0)).length<=1000000000):po D 49 [iT bb] M L s λv M' _=>v=.tuple #[]/\CR E bb k w vl (t++cT (uN p.o 0)) M':=by
 have hng:=qJ.1;refine jn (fn:=f49) jb func49 V Z ntmps49 Z (rs:=[]) Z [(0,_)] Z<|Zs ?_;obtain ⟨p1,N1,v1,rj,rfl,pr⟩:=hW;simp only [ao,sv];refine lw ?_;have mB:CR _ bb _ _ _ _ (_::N1):=⟨p1,N1,v1,rj,rfl,pr⟩;refine lJ (γ:=Nat×Hl×iH) (λg=>[(0,_),(10,_),(11,_),(12,iB (g.1:Int))]) (λg=>g.2.1++L) (λg tw=>Le D s tw/\(g.1<=E.ng/\CR E bb k w vl g.2.2 g.2.1/\g.2.2++cT (uN (p.o.drop g.1) g.1)=t++cT (uN p.o 0))) (λg=>E.ng - g.1) (λ_ _ _ h hl=>⟨h.1.trans hl,h.2⟩) (0,(_::N1),t) (.c4 Z Z Z Z (.nil _)) Z ⟨Le.refl _,⟨aB _,mB,Z⟩⟩ ?_;intro g s1 I1;obtain ⟨j,Mj,tj⟩:=g;obtain ⟨oV,hWj,hT1⟩:=I1.2;simp only at oV hWj hT1;dsimp only;have j9:=bl List.length hT1;simp only [ac] at j9;refine J6 ?_ ?_<;>intro c2
 .have qw:j < E.ng:=O
  obtain ⟨bg,og,gx,Ai,ni,ci,hAg,hx,hcg,Bd,hug,_⟩:=ja.at_ Pz qw;obtain rfl:ni=gx.init.length:=Bd.1;have hgx:=hgg gx (ax hx);have hspc:=qzB hgx hug;have hug1:=hug.1;have hug2:=hug.2;have zY:=Bd.2.1;have hil2:=Bd.2.2.1;rw [UG hx,lA,ac] at j9;refine G7 ?_;refine iA (jK (j:=j) ⟨(show lk _ _=some (.slice (some ⟨bg,og,none⟩) _ _) from by rw [<- hAg];rfl),Z,Z,Z,Z,Z⟩ qw) Z<|iA (ku Y3 Pz Z) Z<|jh Z [_,_,_,_] Y2 λβ3 s3 h3=>mo Y2<|Wt 0 [_,_,_,_] Y9<|tQ ?_ ?_<;>intro c4;.have hT:cG gx j=[]:=au c4;refine G5 ?_;refine kq Y3 (jq O O)<|G2 ?_;refine iU ⟨(j+1,Mj,_),[_],kp,Z,⟨Lc,⟨Oz,hWj,by simp only;rw [<- hT1,UG hx,hT];simp only [lA,ln,lD,am,aE,ao,aC,aq,bC]⟩⟩,Oz⟩
  have hT:cG gx j=.lab (gT (j:Int))::gx.init.map (.num qg ·)++[.num sY (max gx.num 1 - (gx.init.length:Int))]:=ak c4;rw [hT] at j9;simp only [lA,ln,lD,ac,aq,ao] at j9;refine Zk<|Zt<|Zs<|mv jt 6 Z 0 λs5 h5=>H4 ?_;refine iF 4 V<|Jf Z Tt Z Z Z (Ld Pz O O) λs6 h6=>iF 5 V<|mR Mj L lr (B7 (M:=Mj) hWj Q1) ?_;rintro _ M3 s7 h7 ⟨rfl,hW3⟩;refine ji V<|lw ?_;obtain ⟨tq,hq,hWq⟩:∃ tq,tq=tj++cT [.lab (gT (j:Int))]/\CR E bb k w vl tq M3:=⟨_,rfl,hW3⟩;have hql:=bl List.length hq;simp only [ln,lD,ac,aq] at hql;refine CN [_] (γ:=Nat×Hl×iH) (λg=>[(0,_),(3,_),(10,_),(11,_),(12,_),(27,_),(28,_),(29,iB (g.1:Int))]) (λg=>g.2.1++L) (λg tw=>Le D s7 tw/\(g.1<=gx.init.length/\CR E bb k w vl g.2.2 g.2.1/\g.2.2++cT ((gx.init.drop g.1).map (.num qg ·))=tq++cT (gx.init.map (.num qg ·)))) (λg=>gx.init.length - g.1) (λ_ _ _ h hl=>⟨h.1.trans hl,h.2⟩) (0,M3,tq) (.c6 Z Z Z Z Z Z (.c2 Z Z (.nil _))) Z ⟨Le.refl _,⟨aB _,hWq,Z⟩⟩ ?_;intro g s8 I8;simp only [jC,jD];obtain ⟨i,Mi,ti⟩:=g;obtain ⟨rO,hWi,hT2⟩:=I8.2;simp only at rO hWi hT2;dsimp only;have qK:=bl List.length hT2;simp only [ac] at qK;refine J6 ?_ ?_<;>intro c9
  .have Be:i < gx.init.length:=O
   obtain ⟨bw,ow,z,hAi,hz,hcz,tX⟩:=lX.at_ Pz Be;have xM:=qnU hz;have hz1:=tX.1;have hz2:=tX.2;rw [xM,aN,ln,ac] at qK;refine G6 ?_;refine iA (lK (j:=i) ⟨(show lk _ _=some (.slice (some ⟨bw,ow,none⟩) _ _) from by rw [<- hAi];rfl),Z,Z,Z,Z,Z⟩ Be) Z<|iA (jS Y3 Pz Z) Z<|G8 ?_;refine iA (sW Y5 (jq O O)) Z<|lm Mi L kv (vY (D:=D) Pz (M:=Mi) hWi (n:=qg) O Q1) ?_;rintro _ M4 kH jG ⟨rfl,pp⟩;refine G4 ?_;refine kq Y3 (jq O O)<|G2 ?_;refine iU ⟨(i+1,M4,_),[],kp,Z,⟨Lc,⟨Oz,pp,by simp only;rw [<- hT2,xM];simp only [aN,lA,ln,lD,am,aE,ao,aC,aq,bC]⟩⟩,Oz⟩
  rw [aL O,dE,lD,aE] at hT2;subst hT2;subst hq;refine G5 ?_;refine mv jt 12 Z 1 λkH jG=>H5 ?_;refine za 5 Z (sW Y5 (jq O O)) Z<|za 6 Z (qAP Z Z) Z<|H3 ?_;refine za 10 Z (tD (c:=max gx.num 1 - (gx.init.length:Int)) Z Z (by rw [jq O O])) Z<|iF 11 V<|mR Mi L lr (vY (D:=D) Pz (M:=Mi) hWi (n:=sY) hspc Q1) ?_;rintro _ M4 kz jM ⟨rfl,pp⟩;refine ji V<|Zb<|Zt<|Zr<|kq Y3 (jq O O)<|G2 ?_;refine iU ⟨(j+1,M4,_),[_],kp,Z,⟨Lc,⟨Oz,pp,by simp only;rw [<- hT1,UG hx,hT];simp only [lA,ln,lD,am,aE,ao,aC,aq,bC]⟩⟩,Oz⟩
 rw [aL O,uN,lD,aE] at hT1;subst hT1;refine G4 ?_;refine lF [] _ (.inl Z) (.nil) Z I1.1 λ_ iD=>?_;exact ⟨Mj,rfl,rfl,hWj⟩
abbrev CE.f(E:CE)(sm:Option Nat)(sz nl:Nat):CE:=⟨E.Ag,E.ng,E.cg,E.Af,E.nf,E.cf,E.gm,E.fm,sm,sz,nl⟩
def qHx(d:Nat)(hG:GP s)(qJ:ja s E.Ag E.ng E.cg p.o)(hmg:yT s E.gm (gE p))(ze:yT s E.fm (fE p))(hW:CR E bb k 0 vl t M)(hO:Own 9 1 R vl ([]:List iH).length (sb ([]:List iH))){y:iM}{i:Nat}(qp:iO s A1 n1 c1 y.params)(j5:iO s A2 n2 c2 y.locals)(hs3:jo d s A3 n3 c3 y.body)(pq:PQ p y)(hB:CB p y y.body 0 1)(kO:((sE y).map (·.1)).Nodup)(hi:i<=1000)(hk:k+3 * ke y.body<=1000000)(iK:t.length+(cT (cF p y i k).1).length<=1000000000):jU D 48 [iT bb,iB (i:Int),.agg #[St y.name,.slice A1 n1 c1,.slice A2 n2 c2,.slice A3 n3 c3]] ((M++R)++L) s λv L' _=>∃ M',L'=M'++L/\v=.tuple #[]/\∃ M1 R1 qu sm sz nl,M'=M1++R1/\CR (E.f sm sz nl) bb (cF p y i k).2 0 qu (t++cT (cF p y i k).1) M1/\Own 9 1 R1 qu ([]:List iH).length (sb ([]:List iH)):=by
 rw [am M R L];obtain ⟨Ag,ng,cg,Af,nf,cf,gm,fm,sm0,sz0,nl0⟩:=E;obtain rfl:n1=y.params.length:=qp.1;obtain rfl:n2=y.locals.length:=j5.1;have hp6:=pq.p6;have hl12:=pq.l12;have hT:=qKr p y i k;rw [hT] at iK;simp only [lA,ln,lD,ac,aq,ao] at iK;refine jn (fn:=f48) jb func48 V Z ntmps48 Z (rs:=[]) Z [(0,_),(1,_),(2,_)] Z<|Zs ?_;refine Zr<|kF Y2 λβ1 s1 h1=>G3 ?_;obtain ⟨p1,N1,v1,rj,rfl,pr⟩:=hW;simp only [ao,sv];refine pM jt 12 Z [1] Q4 λs2 h2=>H5 ?_;refine iF 2 V<|qt4 Z Tt (λl=>St l) Z λβm s3 h3=>H2 ?_;refine iF 8 V<|Wu Z Tt 2 [_,_,_,_,_,_,_,_,_,_,_,_] Y9 (sM (lz (nD (jL))))<|H2 ?_;refine iF 11 V<|Wu Z Tt 2 [_,_,_,_,_,_,_,_,_,_,_,_] Y9 (sM (lz (nD (jL))))<|ji V<|lw ?_;refine lJ (γ:=Nat×List (iH×Value×Nat)×Nat) (λg=>[(0,_),(1,_),(5,_),(21,_),(22,_),(23,iB (g.1:Int))]) (λg=>(βm,mp (λl=>St l) g.2.1 g.2.2)::_::_::(N1++(R++L))) (λg tw=>Le D s3 tw/\(g.1<=y.locals.length/\∀ nm,kX g.2.1 nm=(((sE y).take g.1).find? λe=>decide (e.1=nm)).map λe=>fI e.2)) (λg=>y.locals.length - g.1) (λ_ _ _ h hl=>⟨h.1.trans hl,h.2⟩) (0,[],0) (.c6 Z Z Z Z Z Z (.nil _)) Z ⟨Le.refl _,⟨aB _,λnm=>rfl⟩⟩ ?_;intro g s4 I4;obtain ⟨j,es,ck⟩:=g;obtain ⟨oV,hS⟩:=I4.2;simp only at oV hS;dsimp only;refine J6 ?_ ?_<;>intro c5
 .have qw:j < y.locals.length:=O
  obtain ⟨bx,ox,x,rfl,hx,hcx,tZ⟩:=iO.at_ Pz qw;refine G7 ?_;refine iA (lK Y6 qw) Z<|iA (jS Y3 Pz Z) Z<|G4 ?_;refine pM jt 12 Z [0] Q4 λs6 h6=>H8 ?_;refine za 8 Z (nV Z Z (jq O O)) Z<|H1 ?_;refine za 10 Z (nV (c:=((y.params.length+1+j:Nat):Int)) Z Z Q7) Z<|iF 11 V<|KA jO.str Z Tt 0 yA Z Z Z Z (sM (lj (jL))) ?_;intro sI;simp only [lV];refine ji V<|Zb<|Zt<|Zr<|kq Y3 (jq O O)<|G2 ?_;refine iU ⟨(j+1,_,sI),[],kp,Z,⟨Lc,⟨Oz,F6 (f:=fI) (Vk hx) kO hS⟩⟩,Oz⟩
 obtain rfl:y.locals.length=j:=O
 refine xe ?_;refine lJ (γ:=Nat×List (iH×Value×Nat)×Nat) (λg=>[(0,_),(1,_),(5,_),(41,_),(42,_),(43,iB (g.1:Int))]) (λg=>(βm,mp (λl=>St l) g.2.1 g.2.2)::_::_::(N1++(R++L))) (λg tw=>Le D s4 tw/\(g.1<=y.params.length/\∀ nm,kX g.2.1 nm=(((sE y).take (y.locals.length+g.1)).find? λe=>decide (e.1=nm)).map λe=>fI e.2)) (λg=>y.params.length - g.1) (λ_ _ _ h hl=>⟨h.1.trans hl,h.2⟩) (0,es,ck) (.c6 Z Z Z Z Z Z (.nil _)) Z ⟨Le.refl _,⟨aB _,hS⟩⟩ ?_;intro g s6 I6;obtain ⟨j,es,ck⟩:=g;obtain ⟨oV,hS⟩:=I6.2;simp only at oV hS;dsimp only;refine J6 ?_ ?_<;>intro c7
 .have qw:j < y.params.length:=O
  obtain ⟨bx,ox,x,rfl,hx,hcx,tZ⟩:=iO.at_ Pz qw;refine G7 ?_;refine iA (lK Y6 qw) Z<|iA (jS Y3 Pz Z) Z<|lw ?_;refine Ui jO.str 0 yA Z Z Z Z ?_;intro sI;simp only [lV];refine G4 ?_;refine kq Y3 (jq O O)<|G2 ?_;refine iU ⟨(j+1,_,sI),[],kp,Z,⟨I6.1,⟨Oz,F6 (f:=fI) (Vl hx) kO hS⟩⟩,Oz⟩
 obtain rfl:y.params.length=j:=O
 refine G6 ?_;refine pM jt 13 Z [2] Q4 λs8 h8=>H4 ?_;refine za 4 Z (nV Z Z (jq O O)) Z<|H3 ?_;refine iF 8 V<|jW Z Tt (Wd 2 Y5) Z<|za 9 Z (nV (c:=((jm y:Nat):Int)) Z Z (by unfold jm;rw [jq O O];omega)) Z<|H2 ?_;refine iF 12 V<|Wu Z Tt 2 [_,_,_,_,_,_,_,_,_,_,_,_] Y9 (sM (lj (jL)))<|ji V<|G2 ?_;refine qqh [] [(βm,mp (λl=>St l) es ck)] ?_;intro s9 h9 hpub;simp only [jC,jD];have hms:yT s9 βm (sE y):=⟨es,⟨ck,hpub _ _ Mc⟩,U5 (by simp [sE]) hS⟩;have hE:tk s9 p y ⟨Ag,ng,cg,Af,nf,cf,gm,fm,some βm,jm y,y.locals.length⟩:=⟨qJ.le Lc,hmg.le Lc,ze.le Lc,⟨_,rfl,hms⟩,rfl,rfl,pq⟩;have mB:CR ⟨Ag,ng,cg,Af,nf,cf,gm,fm,some βm,jm y,y.locals.length⟩ bb k 0 vl t (_::N1):=⟨p1,N1,v1,rj,rfl,pr⟩;refine mv jt 6 Z 0 λkH jG=>H4 ?_;refine iF 4 V<|Jf Z Tt Z Z Z (RT Pz O O) λkz jM=>iF 5 V<|mR (_::N1) (R++L) lr (B7 (M:=(_::N1)) mB Q1) ?_;rintro _ M3 kh jE ⟨rfl,hW3⟩;refine ji V<|Zt ?_;refine Dw (γ:=Hl×iH) (λ_=>[]) [_] Z (λg=>g.1++(R++L)) (λg tw=>CR ⟨Ag,ng,cg,Af,nf,cf,gm,fm,some βm,jm y,y.locals.length⟩ bb k 0 vl g.2 g.1/\g.2=t++cT (.lab (fT (i:Int))::(if 0 < y.locals.length then [.num pX 0] else []))) (λ_ _ _ h hl=>h) ?_ ?_
 .refine Zs ?_;obtain ⟨p4,N4,v4,zZ,rfl,hb4⟩:=hW3;simp only [ao,sv];refine J8 ?_ ?_<;>intro rI;.have hl0:=rI;refine G4 ?_;refine lm (_::N4) (R++L) kv (vY (D:=D) Pz (M:=(_::N4)) ⟨p4,N4,v4,zZ,Z,hb4⟩ (n:=pX) O Q1) ?_;rintro _ M5 lW lQ ⟨rfl,sJ⟩;refine Zn ?_;refine iU (lY.mk (M5,_) [] lQ (.nil _) So Pr ⟨sJ,by first|(rw [au O];simp only [lA,ln,lD,am,aE,ao,aC,aq,bC])|rw [ak O]⟩)
  have hl0:=rI;refine Zk ?_;have sJ:CR _ bb _ _ _ _ (_::N4):=⟨p4,N4,v4,zZ,rfl,hb4⟩;refine iU (lY.mk ((_::N4),_) [] (Lr D) (.nil _) So Pr ⟨sJ,by first|(rw [au O];simp only [lA,ln,lD,am,aE,ao,aC,aq,bC])|rw [ak O]⟩)
 intro g lq kV I13;simp only [jC,jD];obtain ⟨Mi,ti⟩:=g;obtain ⟨hWi,hti⟩:=I13;simp only at hWi hti;dsimp only;have htl:=bl List.length hti;simp only [ln,ac] at htl;refine lM ?_;refine CN [_] (γ:=Nat×Hl×iH) (λg=>[(0,_),(5,_),(84,_),(85,iB (g.1:Int))]) (λg=>g.2.1++(R++L)) (λg tw=>Le D lq tw/\(g.1<=y.locals.length/\CR ⟨Ag,ng,cg,Af,nf,cf,gm,fm,some βm,jm y,y.locals.length⟩ bb k 0 vl g.2.2 g.2.1/\g.2.2++cT (List.replicate (y.locals.length - g.1) (.op qN))=ti++cT (List.replicate y.locals.length (.op qN)))) (λg=>y.locals.length - g.1) (λ_ _ _ h hl=>⟨h.1.trans hl,h.2⟩) (0,Mi,ti) (.c4 Z Z Z Z (.nil _)) Z ⟨Le.refl _,⟨aB _,hWi,Z⟩⟩ ?_;intro g lW I15;simp only [jC,jD];obtain ⟨j,Mj,tj⟩:=g;obtain ⟨oV,hWj,hT1⟩:=I15.2;simp only at oV hWj hT1;dsimp only;have j9:=bl List.length hT1;simp only [ac] at j9;refine J6 ?_ ?_<;>intro c16
 .have qw:j < y.locals.length:=O
  have z6:List.replicate (y.locals.length - j) (Li.op qN)=.op qN::List.replicate (y.locals.length - (j+1)) (.op qN):=by rw [show y.locals.length - j=(y.locals.length - (j+1))+1 by omega];rfl
  rw [z6,ln,ac] at j9;refine G8 ?_;refine lx [(_,_)] [_] Y9 λb17 vD vm hc17=>lm Mj (R++L) kv (yy (M:=Mj) (n:=qN) hWj Pz Q1) ?_;rintro _ M4 BO h18 ⟨rfl,pp⟩;refine G4 ?_;refine kq Y3 (jq O O)<|G2 ?_;refine iU ⟨(j+1,M4,_),[],kp,Z,⟨Lc,⟨Oz,pp,by simp only;rw [<- hT1,z6];simp only [lA,ln,lD,am,aE,ao,aC,aq,bC]⟩⟩,Oz⟩
 obtain rfl:y.locals.length=j:=O
 rw [il,List.replicate_zero,lD,aE] at hT1;subst hT1;subst hti;refine lM ?_;refine Jc Y3 (AC.mid2 [_] Mj R L ((JG p y d).1 _ _ Pz _ Pz _ _ _ Mj R _ [] hWj hO _ _ _ y.body 0 1 Pz hB (λh=>absurd h Dc) ⟨Ξ,O⟩ O Q1)) ?_;rintro _ _ vD vm ⟨_,rfl,rfl,M4,R4,vl4,rfl,pp,hO4⟩;simp only [ao,aC,am];refine G7 ?_;refine lm M4 (R4++L) kv (vY (D:=D) Pz (M:=M4) pp (n:=pX) O Q1) ?_;rintro _ M5 BO h18 ⟨rfl,sJ⟩;refine G2 ?_;obtain ⟨p6,N6,v6,hp6,rfl,hb6⟩:=sJ;simp only [ao,sv];refine mv jt 9 Z 0 λBP yh=>H6 ?_;refine iF 6 V<|jW Z Tt (Wd 1 Y5) Z<|za 7 Z (nV (c:=((y.locals.length+1:Nat):Int)) Z Z Q7) Z<|iF 8 V<|mR (_::N6) (R4++L) lr (vY (D:=D) Pz (M:=(_::N6)) ⟨p6,N6,v6,hp6,Z,hb6⟩ (n:=D0) O Q1) ?_;rintro _ M7 yK qT ⟨rfl,hW7⟩;refine ji V ?_;refine lF [_] _ (.inl Z) (.nil) Z Lc λ_ iD=>?_;refine ⟨_,(am M7 R4 L).symm,Z,M7,R4,_,some βm,jm y,y.locals.length,Z,?_,hO4⟩;rw [hT];simpa only [lA,ln,lD,am,aE,ao,aC,aq,bC] using (show CR ⟨Ag,ng,cg,Af,nf,cf,gm,fm,some βm,jm y,y.locals.length⟩ _ _ 0 _ _ _ from hW7)
def qBY(x:Ex):mT x=1+lh x.args:=by cases x;rfl
def VT(D d:Nat):Prop:=∀ (L:Hl) (s:World) (A:iE) (n c:Nat) (l:List Ex),j8 d s A n c l->lh l<=2000000->jT D 86 [.slice A n c] L s (iB (lh l:Int))
def VW(D d:Nat):Prop:=∀ (L:Hl) (s:World) (A:iE) (n c:Nat) (l:List iP),jo d s A n c l->ke l<=2000000->jT D 43 [.slice A n c] L s (iB (ke l:Int))
def qnL(ih:∀ e,d=e+1->VT D e){l:List Ex}(hA:j8 d s A n c l)(hl:lh l<=2000000):jU D 86 [.slice A n c] L s λv L' _=>v=iB (lh l:Int)/\L=L':=by
 have hn:=hA.1;have nI:=hA.2.1;have pt:=hA.2.2.1;have hln:n<=lh l:=by rw [hn];exact qnX l
 refine jn (fn:=f86) jb func86 V Z ntmps86 Z (rs:=[.tmp 2]) Z [(0,_)] Z<|MT ?_;refine lJ (γ:=Nat×Nat) (λg=>[(2,_),(3,iB (g.2:Int)),(8,_),(9,_),(10,iB (g.1:Int))]) (λ_=>_) (λg tw=>Le D s tw/\(g.1<=n/\n - g.1<=g.2/\g.2+lh (l.drop g.1)=lh l+(n - g.1))) (λg=>n - g.1) (λ_ _ _ h hl=>⟨h.1.trans hl,h.2⟩) (0,n) (.c5 Z Z Z Z Z (.nil _)) Z ⟨Le.refl _,⟨aB _,Oz,by simp only [cm];omega⟩⟩ ?_;intro g s1 I1;obtain ⟨j,a⟩:=g;obtain ⟨oV,hja,hS⟩:=I1.2;simp only at oV hja hS;dsimp only;refine J6 ?_ ?_<;>intro c2
 .have qw:j < n:=O
  obtain ⟨e,b,off,x,A',n',c',hd,rfl,hx,hcx,hax,_⟩:=j8.at_ Pz qw;have hxN:=zy hx;have uU:=qBY x;refine G6 ?_;refine iA (jK Y6 qw) Z<|iA (ku Y3 Pz Z) Z<|jh Z [_,_,_,_,_] Y2 λβ3 s3 h3=>Wt 0 [_,_,_,_,_] Y9<|G6 ?_;refine Jc Y3 (ih e hd _ _ A' n' c' x.args Pz O) ?_;rintro _ _ s4 h4 ⟨rfl,rfl⟩;refine iA (nV (c:=((a+lh x.args:Nat):Int)) Z Z Q8) Z<|G5 ?_;refine kq Y3 (jq O O)<|G2 ?_;refine iU ⟨(j+1,a+lh x.args),[_],kp,Z,⟨Lc,⟨Oz,Oz,Oz⟩⟩,Oz⟩
 obtain rfl:n=j:=O
 rw [aL O,lh] at hS;refine mY ?_;exact rR [] L (.t1 Z) Z I1.1 λ_ iD=>⟨by rw [show a=lh l by omega];rfl,rfl⟩
def WA{D:Nat}:∀ d,VT D d
 | 0=>λL s A n c l hA hl=>qnL (λe h=>O) hA hl
 | d+1=>λL s A n c l hA hl=>qnL (d:=d+1) (λe h=>(show d=e by omega)▸WA d) hA hl
def qnP(ih:∀ e,d=e+1->VW D e)(hA:jo d s A n c l)(hl:ke l<=2000000):jU D 43 [.slice A n c] L s λv L' _=>v=iB (ke l:Int)/\L=L':=by
 have hn:=hA.1;have nI:=hA.2.1;have pt:=hA.2.2.1;have hln:n<=ke l:=by rw [hn];exact qoP l
 refine jn (fn:=f43) jb func43 V Z ntmps43 Z (rs:=[.tmp 2]) Z [(0,_)] Z<|MT ?_;refine lJ (γ:=Nat×Nat) (λg=>[(2,_),(3,iB (g.2:Int)),(8,_),(9,_),(10,iB (g.1:Int))]) (λ_=>_) (λg tw=>Le D s tw/\(g.1<=n/\n - g.1<=g.2/\g.2+ke (l.drop g.1)=ke l+(n - g.1))) (λg=>n - g.1) (λ_ _ _ h hl=>⟨h.1.trans hl,h.2⟩) (0,n) (.c5 Z Z Z Z Z (.nil _)) Z ⟨Le.refl _,⟨aB _,Oz,by simp only [cm];omega⟩⟩ ?_;intro g s1 I1;obtain ⟨j,a⟩:=g;obtain ⟨oV,hja,hS⟩:=I1.2;simp only at oV hja hS;dsimp only;refine J6 ?_ ?_<;>intro c2
 .have qw:j < n:=O
  obtain ⟨dy,bky,oy,y,A1,n1,c1,A2,n2,c2,A3,n3,c3,uP,rfl,hy,hcy,hay,hby,hey,_⟩:=jo.at_ Pz qw;have hxN:=Vg hy;have uU:=Gx y;refine G6 ?_;refine iA (jK Y6 qw) Z<|iA (ku Y3 Pz Z) Z<|jh Z [_,_,_,_,_] Y2 λβ3 s3 h3=>Wt 0 [_,_,_,_,_] Y9<|Nt<|mr jt 14 Z _ (λ_ h=>h) λs4 h4=>H7 ?_;refine iF 3 V<|Jb Z Tt Z Z Z (WA dy _ _ A1 n1 c1 y.exprs Pz O) ?_;rintro _ _ s5 h5 ⟨rfl,rfl⟩;refine ⟨λ_ _ h=>h,?_⟩;refine iF 6 V<|Jb Z Tt Z Z Z (ih dy uP _ _ A2 n2 c2 y.body Pz O) ?_;rintro _ _ s6 h6 ⟨rfl,rfl⟩;refine ⟨λ_ _ h=>h,?_⟩;refine za 7 Z (nV (c:=((lh y.exprs+ke y.body:Nat):Int)) Z Z Q8) Z<|iF 10 V<|Jb Z Tt Z Z Z (ih dy uP _ _ A3 n3 c3 y.els Pz O) ?_;rintro _ _ s7 h7 ⟨rfl,rfl⟩;refine ⟨λ_ _ h=>h,?_⟩;refine za 11 Z (nV (c:=((lh y.exprs+ke y.body+ke y.els:Nat):Int)) Z Z Q8) Z<|za 12 Z (nV (c:=((a+(lh y.exprs+ke y.body+ke y.els):Nat):Int)) Z Z Q8) Z<|H1 ?_;refine ji V<|Zb<|Zt<|Zr<|kq Y3 (jq O O)<|G2 ?_;refine iU ⟨(j+1,a+(lh y.exprs+ke y.body+ke y.els)),[_],kp,Z,⟨Lc,⟨Oz,Oz,Oz⟩⟩,Oz⟩
 obtain rfl:n=j:=O
 rw [aL O,ke] at hS;refine mY ?_;exact rR [] L (.t1 Z) Z I1.1 λ_ iD=>⟨by rw [show a=ke l by omega];rfl,rfl⟩
def WD{D:Nat}:∀ d,VW D d
 | 0=>λL s A n c l hA hl=>qnP (λe h=>O) hA hl
 | d+1=>λL s A n c l hA hl=>qnP (d:=d+1) (λe h=>(show d=e by omega)▸WD d) hA hl
def Qh{p:Prop} (h:p:=by
 first
  | (rw [ak hz];exact ⟨rfl,rfl⟩)
  | (rw [au hz,hz2];exact ⟨by rw [show sy p=b by omega];rfl,rfl⟩)):p:=h
def W5{p:Prop} (h:p:=by
 exact rR [_,_,_] L (.tmp Z (.agg (us:=[_,_]) 1 Z Z Z Z Z (.nil))) Z Lc λ_ iD=>Qh):p:=h
def qsn(hG:GP s)(d:Nat)(p:jc)(jF:ja s Ag ng cg p.o)(jX:jl d s Af nf cf p.funcs):jT D 15 [.agg #[.slice Ag ng cg,.slice Af nf cf]] L s (.tuple #[iB (if (kG p).1=0 then sy p else 0),.agg #[iB (kG p).1,iB (kG p).2]]):=by
 have l7:=jF.1;have oW:=jX.1;have hU:qd p:=⟨jF.u,jX.u⟩;refine jn (fn:=f15) jb func15 V Z ntmps15 Z (rs:=[.tmp 2,.cell 3 30]) Z [(0,_)] Z<|Sr<|kF Y2 λβ1 s1 h1=>mo Y2<|jh Z [_,_] Y2 λβ2 s2 h2=>Nt<|Zs<|Sr<|iA (iZ 1 [_,_] Y5) Z<|Je Y3 (FX Pz d p Pz Pz) λs3 h3=>jh Z [_,_] Y2 λt4 s4 h4=>Wt 0 [_,_] Y9<|Nt<|Sr<|iA (iZ 0 [_,_] Y5) Z<|iA (jB [] [_,_] Y3 Z Z Z) Z<|iA (ui Z Z (sp)) Z<|G2 ?_;refine lL Z ?_ ?_<;>intro c5;.have hz:¬ (kG p).1=0:=λh=>c5 ⟨h,by rw [(qP.of hU h).2]⟩;refine Zs<|pM jt 3 Z [1] Q4 λs6 h6=>za 0 Z (iZ 0 [_,_] Y5) Z<|H1 ?_;refine X4 ?_;exact W5
 have hz:(kG p).1=0:=c5.1;obtain ⟨hO,hz2⟩:=qP.of hU hz;obtain ⟨⟨y8,A0,hVg,sn,_⟩,_,_⟩:=hO;have hgN:=Uh p.o (λg hg=>(hU.1 g hg).1) y8;have hfN:=UT p.funcs (λx hx=>(sn x hx).2.2.2.2.2);have hNP:sy p<=1000000000000:=by unfold sy;omega
 refine Cw ?_;refine lJ (γ:=Nat×Int) (λg=>[(1,_),(2,_),(3,_),(5,iB g.2),(17,_),(18,_),(19,iB (g.1:Int))]) (λ_=>_) (λg tw=>Le D s4 tw/\(g.1<=ng/\0<=g.2/\g.2+uC (p.o.drop g.1)=100+uC p.o)) (λg=>ng - g.1) (λ_ _ _ h hl=>⟨h.1.trans hl,h.2⟩) (0,100) (.c6 Z Z Z Z Z Z (.cons Z (.nil _))) Z ⟨Le.refl _,⟨aB _,Θ,Z⟩⟩ ?_;intro g s6 I6;obtain ⟨j,a⟩:=g;obtain ⟨oV,ha0,hS⟩:=I6.2;simp only at oV ha0 hS;dsimp only;refine J6 ?_ ?_<;>intro c7
 .have qw:j < ng:=O
  obtain ⟨bg,og,x,Ai,ni,ci,rfl,hx,hcx,hix,oI,kL⟩:=ja.at_ Pz qw;have hux1:=oI.1;have hux2:=oI.2;have hxN:=qvU hx;have hrN:=Uh (p.o.drop (j+1)) (λg hg=>(hU.1 g (List.mem_of_mem_drop hg)).1) (by rw [gC];omega);refine G6 ?_;refine iA (jK Y6 qw) Z<|iA (ku Y3 Pz Z) Z<|jh Z [_,_,_,_] Y2 λt8 s8 h8=>Wt 0 [_,_,_,_] Y9<|EE ?_ ?_<;>intro c9;.have qJ:=qK0 c9;refine Zr<|kb Y2<|kq Y3 (jq O O)<|G6 ?_;refine kq Y3 (jq O O)<|G2 ?_;refine iU ⟨(j+1,a+1),[_],kp,Z,⟨Lc,⟨Oz,Oz,Oz⟩⟩,Oz⟩
  have xI:=c9;refine J6 ?_ ?_<;>intro mz;.have qJ:=qK1 mz;refine G4 ?_;refine iA (sW Y5 (jq O O)) Z<|kq Y3 (jq O O)<|G6 ?_;refine kq Y3 (jq O O)<|G2 ?_;refine iU ⟨(j+1,a+x.num),[_],kp,Z,⟨Lc,⟨Oz,Oz,Oz⟩⟩,Oz⟩
  have qJ:=qKZ xI mz;refine G5 ?_;refine kq Y3 (jq O O)<|G2 ?_;refine iU ⟨(j+1,a),[_],kp,Z,⟨Lc,⟨Oz,Oz,Oz⟩⟩,Oz⟩
 rw [aL O,uC] at hS;refine xe ?_;refine lJ (γ:=Nat×Int) (λg=>[(2,_),(3,_),(5,iB g.2),(38,_),(39,_),(40,iB (g.1:Int))]) (λ_=>_) (λg tw=>Le D s6 tw/\(g.1<=nf/\0<=g.2/\g.2+(60 * ((nf - g.1:Nat):Int)+30 * (qE (p.funcs.drop g.1):Int))=sy p)) (λg=>nf - g.1) (λ_ _ _ h hl=>⟨h.1.trans hl,h.2⟩) (0,a) (.c6 Z Z Z Z Z Z (.nil _)) Z ⟨Le.refl _,⟨aB _,ha0,by simp only [cm];unfold sy;omega⟩⟩ ?_;intro g s8 I8;obtain ⟨i,b⟩:=g;obtain ⟨rO,hb0,hSb⟩:=I8.2;simp only at rO hb0 hSb;dsimp only;refine J6 ?_ ?_<;>intro c9
 .have qw:i < nf:=O
  obtain ⟨bx,off,x,B1,m1,d1,B2,m2,d2,B3,m3,d3,rfl,hx,hcx,oP,oO,so,kL⟩:=jl.at_ Pz qw;have hxN:=qrE hx;have hxb:=(sn x (ax hx)).2.2.2.2.2;refine G6 ?_;refine iA (jK Y6 qw) Z<|iA (ku Y3 Pz Z) Z<|jh Z [_,_,_,_] Y2 λb10 kH jG=>Wt 0 [_,_,_,_] Y9<|G6 ?_;refine Jc Y3 (WD d _ _ B3 m3 d3 x.body Pz O) ?_;rintro _ _ kz jM ⟨rfl,rfl⟩;refine qKi Z Z Z (jq O O)<|kq Y3 (jq O O)<|kq Y3 (jq O O)<|G5 ?_;refine kq Y3 (jq O O)<|G2 ?_;refine iU ⟨(i+1,b+(60+30 * (ke x.body:Int))),[_],kp,Z,⟨Lc,⟨Oz,Oz,Oz⟩⟩,Oz⟩
 rw [aL O,qE] at hSb;refine G8 ?_;refine X22 ?_;exact W5
end
section
variable{i:Nat}
theorem qoc(h:i < ls.length):ls.getD i []∈ls:=by grind
section
variable(hq:PQ p x)
include hq
mutual
theorem qKx:∀ (y:iP) (k lp lv:Nat) (ls:List iH),th y lv=true->zL y=true->(∀ nd∈tA y lp,jJ p x nd=0)->(∀ a∈ls,od a=true)->(0 < lp->2<=ls.length)->k+2 * qm y<=9999->CK p ls (qm y) (8 * qm y) k (cS p x y k ls)
  | .mk kd nm es b e,k,lp,lv,ls,hv,hu,hd,tv,sO,hk=>by
    obtain ⟨_,hc,hes,hb,he⟩:=wY hv;obtain ⟨k1,k2,a1,a2,a3,a4⟩:=Cb hc;simp only [zL,aA] at hu;obtain ⟨d1,d2,d3,d4⟩:=Gl hd;have hl:=PL es;have qA:=PK es;simp only [iP.kind,iP.exprs,iP.body,iP.els] at *;rw [qm] at hk ⊢;have l12:=hq.l12;have p6:=hq.p6;have H:=λk=>RV hq (ls:=ls) es 0 k hes hu.1.1 d2;have hr:iQ ((x.locals.length+1:Nat):Int):=⟨by omega,by omega⟩;unfold cS;split
    . rename_i h1
      refine (H k O O).tail ?_ O Q10;rcases Gy (nm:=nm) (uk:=1) (na:=0) (by have e:o6 (.mk kd nm es b e)=(nm,1,0):=au h1;rwa [jJ,ak Q16,e] at d1) Dc Dc with ⟨_,a,ha⟩|⟨h0,i,g,hi,hg,h4⟩
      . have h2:=OR ha
        rw [BW,ha];unfold jm at h2 ⊢;exact CG.nil.cnum Dc ⟨by omega,by omega⟩
      . obtain ⟨g1,g2⟩:=hq.g hg
        rw [BW,h0.resolve_right Dc,hi];exact CG.nil.cref Dc g1 (.inr (.inl ⟨i,g,hg,h4.resolve_left Dc,rfl⟩))
    split
    . rename_i h1 h2
      obtain ⟨_,i,g,hi,hg,h4⟩:=(Gy (nm:=nm) (uk:=3) (na:=0) (by have e:o6 (.mk kd nm es b e)=(nm,3,0):=(ak h1).trans (au h2);rwa [jJ,ak Q16,e] at d1) Dc Dc).resolve_left (λh=>by omega);obtain ⟨g1,g2⟩:=hq.g hg;have A:=H k O O;have B:=YU hq (ls:=ls) es 1 (cH p x es 0 k).2 hes hu.1.1 d2 Q14 O;have:=A.lo;have:=A.hi;have:=A.len;have:=B.lo;have:=B.hi;have:=B.len;rw [hi];exact ⟨by simp only;omega,by simp only;omega,by simp only [ac,aw,aq];omega,(A.cg.appS ((B.cg.cop Dc).cnum Dc g2) (S:=λi=>k < i/\i<=(cI p x es 1 (cH p x es 0 k).2).2) (λi h1 h2=>by omega) λi=>by omega).appS (CG.nil.cref Dc g1 (.inr (.inl ⟨i,g,hg,h4.resolve_left Dc,rfl⟩))) (λ_ _ k=>k) λi=>by simp⟩
    split
    . rename_i h3
      have A:=H (k+1) O O;rw [ak O] at d3 d4;have B:=K5 b (cH p x es 0 (k+1)).2 lp (lv+1) ls hb hu.1.2 d3 tv sO Q14;have:=A.lo;have:=A.hi;have:=A.len;have:=B.lo;have:=B.hi;have:=B.len;split
      . refine ⟨by simp only;omega,by simp only;omega,by simp only [ac,aw,aq];omega,?_⟩
        refine CG.tgt (E:=λa=>u9 p ls a\/a=lT (k+1)) ?_ (λ_=>dJ) λa h=>h.imp id λe=>⟨_,⟨?_,?_⟩,e⟩
        . exact ((A.cg.tgt (λ_=>dJ) λa h=>.inl (.inl h)).appS ((B.cg.tgt (λ_=>dJ) λa h=>.inl (.inl h)).cref Dc (yx Dc O) (.inr rfl)) (S:=λi=>k+1 < i/\i<=(cB p x b (cH p x es 0 (k+1)).2 ls).2) (λi h1 h2=>by omega) λi=>by omega).appS (CG.nil.clab O id) (λi h1 h2=>by simp only [dU] at h2;omega) λi=>by simp only [dU];omega
        . omega
        . simp only;omega
      . have C:=K5 e ((cB p x b (cH p x es 0 (k+1)).2 ls).2+1) lp (lv+1) ls he hu.2 d4 tv sO O
        have:=C.lo;have:=C.hi;have:=C.len;refine ⟨by simp only;omega,by simp only;omega,by simp only [ac,aw,aq];omega,?_⟩;refine CG.tgt (E:=λa=>u9 p ls a\/a=lT (k+1)\/a=lT ((cB p x b (cH p x es 0 (k+1)).2 ls).2+1)) ?_ (λ_=>dJ) λa h=>h.imp id λe=>e.elim (λe=>⟨_,⟨?_,?_⟩,e⟩) λe=>⟨_,⟨?_,?_⟩,e⟩
        . exact ((((A.cg.tgt (λ_=>dJ) λa h=>.inl (.inl h)).appS ((B.cg.tgt (λ_=>dJ) λa h=>.inl (.inl h)).cref Dc (yx Dc O) (.inr (.inl rfl))) (S:=λi=>k+1 < i/\i<=(cB p x b (cH p x es 0 (k+1)).2 ls).2) (λi h1 h2=>by omega) λi=>by omega).appS
            (((C.cg.tgt (λ_=>dJ) λa h=>.inl (.inl h)).clab O O).cref Dc (yx Dc O) (.inr (.inr rfl)))
            (S:=λi=>k < i/\i<=(cB p x e ((cB p x b (cH p x es 0 (k+1)).2 ls).2+1) ls).2/\i≠(cB p x b (cH p x es 0 (k+1)).2 ls).2+1) (λi h1 h2=>by omega) λi=>by omega)).appS (CG.nil.clab O id) (λi h1 h2=>by simp only [dU] at h2;omega) λi=>by simp only [dU];omega
        all_goals ((try simp only);omega)
    split
    . rename_i h4
      rw [au h4] at d3;have A:=H (k+2) O O;have B:=K5 b (cH p x es 0 (k+2)).2 (lp+1) (lv+1) (ls++[lT (k+1),lT (k+2)]) hb hu.1.2 d3 (λa ha=>by
        rcases aS.1 ha with ha|ha
        . exact tv a ha
        . simp only [aR,dO,dU] at ha
          rcases ha with rfl|rfl<;>exact yx Dc O) (λ_=>by simp) Q14
      have:=A.lo;have:=A.hi;have:=A.len;have:=B.lo;have:=B.hi;have:=B.len;refine ⟨by simp only;omega,by simp only;omega,by simp only [ac,aw,aq];omega,?_⟩;refine CG.tgt (E:=λa=>u9 p ls a\/a=lT (k+1)\/a=lT (k+2)) ?_ (λ_=>dJ) λa h=>h.imp id λe=>e.elim (λe=>⟨_,⟨?_,?_⟩,e⟩) λe=>⟨_,⟨?_,?_⟩,e⟩
      . exact (((A.cg.tgt (λ_=>dJ) λa h=>.inl (.inl h)).clab (j:=k+1) O O).appS ((B.cg.tgt (λ_=>dJ) λa h=>.inl (by
            rcases h with h|h|h
            . exact .inl (.inl h)
            . exact .inl (.inr (.inl h))
            . rcases aS.1 h with h|h
              . exact .inl (.inr (.inr h))
              . simp only [aR,dO,dU] at h
                exact .inr h)).cref Dc (yx Dc O) (.inr (.inr rfl)))
          (S:=λi=>k < i/\i<=(cB p x b (cH p x es 0 (k+2)).2 (ls++[lT (k+1),lT (k+2)])).2/\i≠k+2) (λi h1 h2=>by omega) λi=>by omega).appS
          ((CG.nil.clab (j:=k+2) O id).cref Dc (yx Dc O) (.inr (.inl rfl))) (λi h1 h2=>by simp only [dU] at h2;omega) λi=>by simp only [dU];omega
      all_goals ((try simp only);omega)
    split
    . rename_i h5
      have ha:es.length<=6:=by have:=a2;simp only [zC,h5] at this;simpa using this
      obtain ⟨c1,c2⟩:=hq.call (ls:=ls) nm ha;exact (RU hq (ls:=ls) es 0 k hes hu.1.1 d2 O O).tail c1 O O
    split
    . exact (H k O O).tail (CG.nil.cnum Dc hr) O Q10
    split
    . exact (H k O O).tail (CG.nil.cop Dc) O Q10
    split
    . exact (H k O O).tail (CG.nil.cop Dc) O Q10
    have sO:2<=ls.length:=sO (by
      rw [jJ] at d1;by_cases h0:lp=0
      . rw [au ⟨show kd=9\/kd=10 by omega,h0⟩] at d1;cases d1
      . omega)
    have EM:∀ i,i < ls.length->CK p ls (1+lh es+ke b+ke e) (8 * (1+lh es+ke b+ke e)) k ([.ref wh (ls.getD i [])],k):=λi hi=>
      CK.leaf (CG.nil.cref Dc (tv _ (qoc hi)) (.inr (.inr (qoc hi)))) Q10
    split
    . exact EM _ O
    . exact EM _ O
theorem K5:∀ (l:List iP) (k lp lv:Nat) (ls:List iH),oC l lv=true->qO l=true->(∀ nd∈ly l lp,jJ p x nd=0)->(∀ a∈ls,od a=true)->(0 < lp->2<=ls.length)->k+2 * ke l<=9999->CK p ls (ke l) (8 * ke l) k (cB p x l k ls)
 | [],k,lp,lv,ls,_,_,_,_,_,_=>by unfold cB;exact CK.nil
 | y::r,k,lp,lv,ls,hv,hu,hd,tv,sO,hk=>by
  simp only [oC,qO,aA] at hv hu;rw [ke] at *;unfold cB;have A:=qKx y k lp lv ls hv.1 hu.1 (λnd h=>hd nd (aI _ h)) tv sO O;have B:=K5 r (cS p x y k ls).2 lp lv ls hv.2 hu.2 (λnd h=>hd nd (aF _ h)) tv sO Q14;have:=A.lo;have:=A.hi;have:=A.len;have:=B.lo;have:=B.hi;have:=B.len;exact ⟨by simp only;omega,by simp only;omega,by simp only [ac];omega,A.cg.appS B.cg (λi h1 h2=>by omega) λi=>by simp only;omega⟩
end
end
def qHN(h:fT (i:Int)=fT (j:Int)):i=j:=Ur (ey h).2
def qHX(h:gT (i:Int)=gT (j:Int)):i=j:=Ur (ey h).2
def Rb{i:Int}:fT i≠lT j:=λh=>absurd (ey h).1 Dc
def qKt(hq:PQ p x)(hV:Dn x)(hu:qO x.body=true)(hd:∀ nd∈ly x.body 0,jJ p x nd=0)(i k:Nat)(hi:i<=9999)(hk:k+2 * ke x.body<=9999):k<=(cF p x i k).2/\(cF p x i k).2<=k+2 * ke x.body/\(cF p x i k).1.length<=17+8 * ke x.body/\CG V2 (u9 p []) (λa=>a=fT (i:Int)\/lS (λj=>k < j/\j<=(cF p x i k).2) a) (cF p x i k).1:=by
  have B:=K5 hq x.body k 0 1 [] hV.2.2.2.2.1 hu hd (λa h=>by cases h) (λh=>O) hk;have:=B.lo;have:=B.hi;have:=B.len;have jE:=hq.l12;have hr:iQ ((x.locals.length+1:Nat):Int):=⟨O,O⟩;unfold cF;refine ⟨Oz,Oz,?_,?_⟩
  . simp only [ac,aw,aq,cR]
    split<;>simp only [aw,aq]<;>omega
  . have h1:CG V2 (u9 p []) (lS λ_=>False) (if 0 < x.locals.length then [.num pX 0] else []):=by
      split
      . exact CG.nil.cnum Dc ⟨Θ,Θ⟩
      . exact CG.nil
    have h2:CG V2 (u9 p []) (lS λ_=>False) (List.replicate x.locals.length (.op qN)):=by
      rw [<- List.map_replicate];exact CG.ops λn hn=>by rw [(dT.1 hn).2];decide
    have h3:CG V2 (u9 p []) (lS λ_=>False) [.num pX 0,.num D0 ((x.locals.length+1:Nat):Int)]:=(CG.nil.cnum Dc hr).cnum Dc ⟨Θ,Θ⟩;have h4:=((h1.appS h2 (S:=λ_=>False) (λ_ k _=>k) λ_=>Ξ).appS B.cg (S:=λj=>k < j/\j<=(cB p x x.body k []).2) (λ_ k _=>k) λ_=>Ξ).appS h3 (S:=λj=>k < j/\j<=(cB p x x.body k []).2) (λ_ _ k=>k) λ_=>Ξ
    have h5:=CG.app (Vq9:=V2) (E:=u9 p []) (CG.one (yx (c:=102) Dc (show i<=99999 by omega)) (aB _)) h4 (D:=λa=>a=fT (i:Int)\/lS (λj=>k < j/\j<=(cB p x x.body k []).2) a) (λa e ⟨j,_,h⟩=>Rb (e.symm.trans h)) λ_=>dJ;simpa [fT] using h5
def qzf{p:jc}(hq:∀ x∈p.funcs,PQ p x)(hV:∀ x∈p.funcs,Dn x/\qO x.body=true/\∀ nd∈ly x.body 0,jJ p x nd=0):∀ (l:List iM) (i k:Nat),(∀ x∈l,x∈p.funcs)->i+l.length<=64->k+2 * qE l<=9999->k<=(rJ p l i k).2/\(rJ p l i k).1.length<=17 * l.length+8 * qE l/\CG V2 (u9 p []) (λa=>(∃ j:Nat,i<=j/\j < i+l.length/\a=fT (j:Int))\/lS (λj=>k < j/\j<=(rJ p l i k).2) a) (rJ p l i k).1
  | [],i,k,_,_,_=>by
    unfold rJ;exact ⟨ay _,aB _,CG.nil.tgt (λa=>⟨λh=>h.elim (λ⟨j,h1,h2,_⟩=>by simp only [aq] at h2;omega) λ⟨j,h,_⟩=>O,λ⟨_,h,_⟩=>h.elim⟩) λ_ h=>.inl h⟩
  | x::r,i,k,hm,hi,hk=>by
    have hx:=hm x Mc;obtain ⟨v1,v2,v3⟩:=hV x hx;rw [qE] at hk ⊢;simp only [aw] at hi ⊢;obtain ⟨a1,a2,a3,a4⟩:=qKt (hq x hx) v1 v2 v3 i k O O;obtain ⟨b1,b2,b3⟩:=qzf hq hV r (i+1) (cF p x i k).2 (λy hy=>hm y (an _ hy)) O O;unfold rJ;refine ⟨Oz,by simp only [ac];omega,a4.app b3 (λa h1 h2=>?_) λa=>⟨λh=>?_,λh=>?_⟩⟩
    . rcases h1 with rfl|⟨j,c1,rfl⟩<;>rcases h2 with ⟨j',e1,e2,e3⟩|⟨j',e1,e3⟩
      . have:=qHN e3;omega
      . exact Rb e3
      . exact Rb e3.symm
      . have:=qzF e3;omega
    . rcases h with ⟨j,c1,c2,rfl⟩|⟨j,c1,rfl⟩
      . by_cases hj:j=i
        . exact .inl (.inl (by rw [hj]))
        . exact .inr (.inl ⟨j,O,O,rfl⟩)
      . by_cases hj:j<=(cF p x i k).2
        . exact .inl (.inr ⟨j,O,rfl⟩)
        . exact .inr (.inr ⟨j,by simp only at c1;omega,rfl⟩)
    . rcases h with (rfl|⟨j,c1,rfl⟩)|(⟨j,c1,c2,rfl⟩|⟨j,c1,rfl⟩)
      . exact .inl ⟨i,O,O,rfl⟩
      . exact .inr ⟨j,Oz,rfl⟩
      . exact .inl ⟨j,O,O,rfl⟩
      . exact .inr ⟨j,Oz,rfl⟩
def Xp{p:Prop} (h:p:=by
  rw [ak O,ak (by rw [c3];decide),ak O] at hg;split at hg
  . cases hg
  . split at hg
    . cases hg
    . omega):p:=h
def qKu{g:jv}(hg:qk g=0)(hu:iQ g.num/\∀ z∈g.init,iQ z)(hi:i<=9999){E:iH->Prop}:CG (λ_=>True) E (λa=>g.kind≠1/\a=gT (i:Int)) (cG g i)/\(cW (cG g i):Int)=yg g/\(cG g i).length<=2+g.init.length:=by
  obtain ⟨c1,c2,c3,c4,c5,c6⟩:=BB hg;have c7:g.kind=3->1<=g.num/\(g.init.length:Int)<=g.num:=λh=>by
    unfold qk at hg;exact Xp
  unfold cG;split
  . rename_i h1
    exact ⟨CG.nil.tgt (λa=>⟨λh=>absurd h1 h.1,λ⟨_,h,_⟩=>h.elim⟩) λ_ h=>.inl h,by rw [yg,ak O,ak O];rfl,aB _⟩
  . rename_i h1
    have hm:=qzB hg hu.1;have hw:CG (λ_=>True) E (lS λ_=>False) (g.init.map (.num qg ·)):=by
      have:∀ l:iG,(∀ z∈l,iQ z)->CG (λ_=>True) E (lS λ_=>False) (l.map (.num qg ·)):=λl=>by
        induction l with
        | nil=>intro _;exact CG.nil
        | cons z r ih=>intro h;exact (ih λy hy=>h y (an _ hy)).c0 ⟨⟨.inr (.inl rfl),h z Mc⟩,trivial⟩ rfl λ_ h=>by cases h
      exact this _ hu.2
    have hs:CG (λ_=>True) E (lS λ_=>False) [.num sY (max g.num 1 - (g.init.length:Int))]:=CG.nil.c0 ⟨⟨.inr (.inr rfl),hm⟩,trivial⟩ rfl λ_ h=>by cases h
    refine ⟨?_,?_,by simp only [ac,aw,aq,bB];omega⟩
    . have h5:=CG.app (Vq9:=λ_=>True) (E:=E) (CG.one (yx (c:=103) Dc (show i<=99999 by omega)) trivial) (hw.appS hs (S:=λ_=>False) (λ_ k _=>k) λ_=>Ξ) (D:=λa=>g.kind≠1/\a=gT (i:Int)) (λa e ⟨j,h,_⟩=>h) λa=>⟨λh=>.inl h.2,λh=>h.elim (λh=>⟨h1,h⟩) λ⟨_,h,_⟩=>h.elim⟩
      simpa [gT] using h5
    . have e1:∀ l:iG,cW (l.map (.num qg ·))=l.length:=λl=>by
        induction l with
        | nil=>rfl
        | cons z r ih=>simp only [cW,aN,dD,aw] at ih ⊢;rw [ih];simp [rk];omega
      have e2:cW [.num sY (max g.num 1 - (g.init.length:Int))]=(max g.num 1 - (g.init.length:Int)).toNat:=by simp [cW,rk,show ¬ sY=qg by decide]
      rw [GC,show (Li.lab (gT (i:Int))::g.init.map (.num qg ·))=[.lab (gT (i:Int))]++g.init.map (.num qg ·) from rfl,GC,e1,e2,show cW [Li.lab (gT (i:Int))]=0 from rfl,yg];by_cases h3:g.kind=3
      . have:=c7 h3
        rw [ak O,au h3];omega
      . have h2:g.kind=2:=O
        rw [au h2,c4 h3,c5 h2];rfl
def qzg{E:iH->Prop}:∀ (l:List jv) (i:Nat),(∀ g∈l,qk g=0/\iQ g.num/\∀ z∈g.init,iQ z)->i+l.length<=64->CG (λ_=>True) E (λa=>∃ (j:Nat) (g:jv),l[j]?=some g/\g.kind≠1/\a=gT ((i+j:Nat):Int)) (uN l i)/\(cW (uN l i):Int)=uC l/\(uN l i).length<=2 * l.length+(l.map λg=>g.init.length).sum
  | [],i,_,_=>by
    unfold uN;exact ⟨CG.nil.tgt (λa=>⟨λ⟨j,g,h,_⟩=>(by cases h),λ⟨_,h,_⟩=>h.elim⟩) λ_ h=>.inl h,rfl,aB _⟩
  | g::r,i,h,hi=>by
    simp only [aw] at hi ⊢;obtain ⟨a1,a2,a3⟩:=qKu (E:=E) (h g Mc).1 (h g Mc).2 (i:=i) O;obtain ⟨b1,b2,b3⟩:=qzg (E:=E) r (i+1) (λy hy=>h y (an _ hy)) O;unfold uN;refine ⟨a1.app b1 (λa ⟨_,h1⟩ ⟨j,g',_,_,h2⟩=>by have:=qHX (h1.symm.trans h2);omega) λa=>⟨λ⟨j,g',c1,c2,c3⟩=>?_,λh=>?_⟩,by rw [GC,uC];omega,by simp only [ac,aN,dD];omega⟩
    . cases j with
      | zero=>simp at c1;subst c1;exact .inl ⟨c2,c3⟩
      | succ j=>exact .inr ⟨j,g',by simpa using c1,c2,by rw [c3];congr 2;omega⟩
    . rcases h with ⟨c2,c3⟩|⟨j,g',c1,c2,c3⟩
      . exact ⟨0,g,rfl,c2,c3⟩
      . exact ⟨j+1,g',by simpa using c1,c2,by rw [c3];congr 2;omega⟩
def qCw{y:Li}(h:uE y):(zm y).length<=19:=by
 have hn:∀ n,od n=true->n.length<=6:=λn h=>(b_ h).2;have hd:∀ v,iQ v->(pD v).length<=10:=λv h=>CO h;cases y with
 | op n=>simp only [uE,z8,aA] at h;have:=hn n h.1.1.1;simp only [zm,wO,ac,aw,aq];omega
 | ref n a=>have:=hn n (N7 (.inl h.1));have:=hn a h.2;simp only [zm,wO,ac,aw,aq];omega
 | num n v=>have:=hn n (N7 h.1);have:=hd v h.2;simp only [zm,wO,ac,aw,aq];omega
 | lab a=>have:=hn a h;simp only [zm,wO,ac,aw,aq];omega
def qzh:∀ {L:List Li},(∀ y∈L,uE y)->(cT L).length<=19 * L.length
 | [],_=>aB _
 | y::L,h=>by
  have:=qCw (h y Mc);have:=qzh λz hz=>h z (an _ hz);rw [ln,ac,aw];omega
def qz5:∀ {L:List Li},(∀ y∈L,rk y<=2)->cW L<=2 * L.length
 | [],_=>aB _
 | y::L,h=>by
  have:=h y Mc;have:=qz5 λz hz=>h z (an _ hz);rw [show cW (y::L)=rk y+cW L by simp [cW],aw];omega
def qDk(h:(pN p).1=0):(p.o.map λg=>g.init.length).sum<=1000/\qE p.funcs<=2000:=by
 unfold pN at h;split at h
 . cases h
 split at h
 . rename_i h2;exact absurd h h2
 split at h
 . cases h
 rename_i h3;obtain ⟨_,b2⟩:=TS h;exact ⟨O,O⟩
def Up(hu:qd p)(hc:(kG p).1=0)(hn:sy p<=49152):(∀ y∈cP p,uE y)/\(mU (cP p)).Nodup/\(∀ a∈rV (cP p),a∈mU (cP p))/\cW (cP p)<=49152/\(cT (cP p)).length<=400000:=by
 obtain ⟨hO,hz⟩:=qP.of hu hc;obtain ⟨⟨v1,v2,v3,v4,_⟩,n0,kO⟩:=hO;have yr:(pN p).1=0:=by
  unfold kG at hc;split at hc
  . rename_i h;exact absurd hc h
  . rename_i h;exact FY Q2
 obtain ⟨s1,s2⟩:=qDk yr;have hf0:=TG n0;have hq:∀ x∈p.funcs,PQ p x:=λx hx=>⟨hf0,v2,v1,λg hg=>(hu.1 g hg).1,(v4 x hx).2.1,(v4 x hx).2.2.1⟩;have hnp:=hn;unfold sy at hnp;obtain ⟨a1,a2,a3⟩:=qzf hq (λx hx=>⟨v4 x hx,hu.2 x hx,kO x hx⟩) p.funcs 0 0 (λ_ h=>h) O O;obtain ⟨b1,b2,b3⟩:=qzg (E:=λa=>u9 p [] a\/a=wo) p.o 0 (λg hg=>⟨(v3 g hg).1,hu.1 g hg⟩) O;obtain ⟨m,nT,vR⟩:=Pv (p:=p) (nm:=mu) hf0;have hh:CG V2 (λa=>u9 p [] a\/a=wo) (lS λ_=>False) [.ref Fp wo,.ref AJ (fT (fi p mu)),.num pX 0,.op BI]:=by
  rw [nT];exact (((CG.nil.cop Dc).cnum Dc ⟨Θ,Θ⟩).cref Dc (yx Dc O) (.inl (.inl ⟨m,vR,rfl⟩))).cref Dc Dc (.inr rfl)
 have up:∀ {E D:iH->Prop} {L:List Li},CG V2 E D L->CG (λ_=>True) E D L:=λh=>⟨λy hy=>⟨(h.ok y hy).1,trivial⟩,h.nd,h.mem,h.refs⟩;have c1:=(up hh).app (up (a3.tgt (E':=λa=>u9 p [] a\/a=wo) (λ_=>dJ) λa h=>.inl (.inl h))) (D:=λa=>(∃ j:Nat,0<=j/\j < 0+p.funcs.length/\a=fT (j:Int))\/lS (λj=>0 < j/\j<=(rJ p p.funcs 0 0).2) a) (λa ⟨_,h,_⟩ _=>h) λa=>⟨.inr,λh=>h.elim (λ⟨_,h,_⟩=>h.elim) id⟩;have c2:=c1.app b1 (D:=λa=>((∃ j:Nat,0<=j/\j < 0+p.funcs.length/\a=fT (j:Int))\/lS (λj=>0 < j/\j<=(rJ p p.funcs 0 0).2) a)\/∃ (j:Nat) (g:jv),p.o[j]?=some g/\g.kind≠1/\a=gT ((0+j:Nat):Int)) (λa h1 ⟨j,g,_,_,h2⟩=>by
  rcases h1 with ⟨j',_,_,h3⟩|⟨j',_,h3⟩
  . exact absurd (ey (h3.symm.trans h2)).1 Dc
  . exact absurd (ey (h3.symm.trans h2)).1 Dc) λ_=>dJ
 have c3:=c2.app (CG.one (Vq9:=λ_=>True) (a:=wo) Dc trivial) (D:=λa=>(((∃ j:Nat,0<=j/\j < 0+p.funcs.length/\a=fT (j:Int))\/lS (λj=>0 < j/\j<=(rJ p p.funcs 0 0).2) a)\/∃ (j:Nat) (g:jv),p.o[j]?=some g/\g.kind≠1/\a=gT ((0+j:Nat):Int))\/a=wo) (λa h1 h2=>by
  rcases h1 with (⟨j',_,_,h3⟩|⟨j',_,h3⟩)|⟨j',_,_,_,h3⟩;all_goals exact absurd (ey (h2.symm.trans h3)).1 Dc) λ_=>dJ
 have hr:∀ a∈rV (cP p),a∈mU (cP p):=λa ha=>(c3.mem a).2 (by
  rcases c3.refs a ha with h|(⟨i,h1,h2⟩|⟨i,g,h1,h2,h3⟩|h)|h
  . exact h
  . exact .inl (.inl (.inl ⟨i,O,O,h2⟩))
  . exact .inl (.inr ⟨i,g,h1,h2,by rw [h3,aX]⟩)
  . cases h
  . exact .inr h)
 have me:∀ y∈cP p,uE y:=λy hy=>(c3.ok y hy).1;have w1:=qz5 λy hy=>(a3.ok y hy).2;have hW:cW (cP p)<=49152:=by
  rw [cP,GC,GC,GC];have e1:cW [.ref Fp wo,.ref AJ (fT (fi p mu)),.num pX 0,.op BI]=7:=by simp [cW,rk,show ¬ pX=qg by decide,show ¬ pX=sY by decide]
  have e2:cW [.lab wo]=0:=rfl;rw [e1,e2];omega
 have hL:(cT (cP p)).length<=400000:=by
  have:=qzh me;have e:(cP p).length<=5+(rJ p p.funcs 0 0).1.length+(uN p.o 0).length:=by rw [cP];simp only [ac,aw,aq];omega
  omega
 exact ⟨me,c3.nd,hr,hW,hL⟩
def YW(hu:qd p)(hc:(kG p).1=0)(hn:sy p<=49152):(∃ x,ta iW (cT (cP p))=.inr x)/\(cT (cP p)).length<=400000:=by
 obtain ⟨h1,h2,h3,h4,h5⟩:=Up hu hc hn;exact ⟨qqN h1 h2 h3 O h5,h5⟩
attribute [local irreducible] JC JO JA JB ma mO mX AC fill iy QE Ev my
def tmv(l:List Tm):iz:=(l.map λx=>[iB x.kind,iJ x.val]).flatten
def FT(x:Int):Bool:=decide (0<=x) && decide (x < 4294967296)
def NR{x:Int}(h:FT x=true):iQ x:=by simpa [FT,iQ] using h
def K_{α β:Type}{R:α->β->Prop}{f:α->β}{l:List α}(h:∀ a∈l,R a (f a)):kJ R l (l.map f):=by
 induction l with
 | nil=>exact .nil
 | cons a l ih=>exact .cons (h a Mc) (ih λx hx=>h x (an _ hx))
def VO{l:List Tm}(h:iy s b 0 (tmv l))(hu:(Nat.blt l.length 99 && l.all λx=>FT x.val)=true):FH s (jZ b) l.length l.length l:=by
 simp only [aA,bU] at hu;exact Sl.lit _ h rfl (K_ λa ha=>⟨rfl,rfl,NR (hu.2 a ha)⟩) _ rfl (by have:=bE hu.1;omega)
def SS{l:List Ac}(h:iy s b 0 (BU l))(hu:(Nat.blt l.length 99 && l.all λx=>FT x.x.val && FT x.y.val)=true):qn s (jZ b) l.length l.length l:=by
 simp only [aA,bU] at hu;exact Sl.lit _ h rfl (K_ λa ha=>⟨rfl,rfl,NR (hu.2 a ha).1,NR (hu.2 a ha).2⟩) _ rfl (by have:=bE hu.1;omega)
def kc(k:Nat):List Ac:=(iW.U.getD k ⟨[],0,false,[]⟩).ad
def fB(f b:Nat):xd:=.eq (.func (.func f) #[] #[iT b])
def f0(f:Nat):xd:=.eq (.func (.func f) #[] #[])
def tT(k v:Int):xd:=.eq (.agg #[iB k,iJ v])
def rT(l:List Tm):xd:=.row l.length (tmv l)
def dL(l:List Ac)(j:Nat):xd:=.eq (.agg (l.getD j ⟨0,0,⟨0,0⟩,⟨0,0⟩⟩).cs.toArray)
def aT:xd:=.of (λ_ _=>True) λ_ _ _ _ h _=>h
def rA(l:List Ac):xd:=.row l.length (BU l)
def pA(l:List Ac):xd:=.of (λv s=>∃ A n c,v=.slice A n c/\qn s A n c l) λ_ _ _ _ ⟨A,n,c,e,h⟩ hl=>⟨A,n,c,e,h.le hl⟩
def DI(Ap:iE)(cp k:Nat)(g:Value×Hl×List iz)(s:World):Prop:=
 Own 111 4 g.2.1 g.1 k g.2.2.flatten/\kJ (λx cs=>cs.length=4/\xj s x cs) (iW.U.take k) g.2.2/\qn s Ap 2 cp JZ
def DI.le{g:Value×Hl×List iz}(h:DI Ap cp k g s)(hl:Le D s s'):DI Ap cp k g s':=⟨h.1,Uf h.2.1 hl,h.2.2.le hl⟩
def qBU:(iW.U.all λx=>Nat.ble x.name.length 99 && FT x.code)=true:=by decide +kernel
def Jx{name:iH}{op:Bool}{l:List Ac}(hA:qn s A n c l){β:Nat}{g:Value×Hl×List iz}(hI:DI Ap cp k g s)(hx:iW.U[k]?=some ⟨name,(k:Int)+1,op,l⟩):
  jU D 37 [St name,.bool op,.slice A n c,iT β] (((β,cb [iB 65536,g.1] 44)::g.2.1)++L) s λw L' s'=>∃ M',L'=M'++L/\∃ g',M'=(β,cb [iB 65536,g'.1] 44)::g'.2.1/\DI Ap cp (k+1) g' s':=by
 have hk:k < 32:=(al.1 hx).1;have hc:=bU.1 qBU _ (ax hx);simp only [aA] at hc;have h9:name.length<=99:=bE hc.1;refine (qGY hI.1 O).mono ?_;rintro w L' s' hl ⟨M',rfl,_,v2,M2,rfl,o2⟩;exact ⟨_,rfl,(v2,M2,g.2.2++[_]),rfl,by rw [qpp];exact o2,by rw [qwE hx];exact kJ.snoc (Uf hI.2.1 hl) ⟨rfl,_,_,_,rfl,hA.le hl,Oz,NR hc.2⟩,hI.2.2.le hl⟩
attribute [local irreducible] JL JE
def AL{p:Nat->Prop} (h:sC p m:=by
      repeat' (first|exact trivial|refine ⟨?_,?_⟩|fail)
      all_goals intro mL
      all_goals (try exact absurd rfl mL)
      all_goals
        rintro _ _ _ _ hP hor;rcases hor with rfl|⟨hz,β,rfl⟩
      all_goals (try exact absurd hz Dc)
      all_goals
        repeat (intro u q;first|obtain rfl:=q|obtain ⟨b,rfl,cq⟩:=q)
        first
          | exact DZ rfl (E3 rfl) rfl
          | exact DZ rfl (iZ 0 [_,_] ⟨rfl,rfl,rfl,rfl,rfl⟩) rfl
          | exact DZ rfl (iZ 5 [_,_] ⟨rfl,rfl,rfl,rfl,rfl⟩) rfl
          | exact DZ rfl (iZ 4 [_,_] ⟨rfl,rfl,rfl,rfl,rfl⟩) rfl
          | exact DZ rfl (iZ 3 [_,_] ⟨rfl,rfl,rfl,rfl,rfl⟩) rfl
          | exact DZ rfl (iZ 2 [_,_] ⟨rfl,rfl,rfl,rfl,rfl⟩) rfl
          | exact DZ rfl (iZ 1 [_,_] ⟨rfl,rfl,rfl,rfl,rfl⟩) rfl
          | exact DZ rfl (iZ 6 [_,_] ⟨rfl,rfl,rfl,rfl,rfl⟩) rfl
          | exact OB rfl (first:=[]) (captured:=[]) rfl rfl (qIq) Q26
          | exact OB rfl (first:=[]) (captured:=[]) rfl rfl (YO (VO cq rfl) Dc) Q26
          | exact OB rfl (first:=[]) (captured:=[]) rfl rfl (YO (VN) Dc) Q26
          | exact GJ rfl [(_,_)] [_,_] rfl rfl rfl rfl rfl rfl rfl rfl (λβ _ _ hc=>⟨β,rfl,hc⟩)
          | exact GJ rfl [(_,_),(_,_)] [_,_,_,_] rfl rfl rfl rfl rfl rfl rfl rfl (λβ _ _ hc=>⟨β,rfl,hc⟩)
          | exact GJ rfl [(_,_)] [_,_,_,_,_,_] rfl rfl rfl rfl rfl rfl rfl rfl (λβ _ _ hc=>⟨β,rfl,hc⟩)
          | exact GJ rfl [(_,_),(_,_)] [_,_,_,_,_,_,_,_,_,_,_,_] rfl rfl rfl rfl rfl rfl rfl rfl (λβ _ _ hc=>⟨β,rfl,hc⟩)
          | exact GJ rfl [(_,_),(_,_),(_,_)] [_,_,_,_,_,_,_,_,_,_,_,_,_,_,_,_,_,_] rfl rfl rfl rfl rfl rfl rfl rfl (λβ _ _ hc=>⟨β,rfl,hc⟩)
          | exact GJ rfl [(_,_),(_,_),(_,_),(_,_),(_,_),(_,_)] [_,_,_,_,_,_,_,_,_,_,_,_,_,_,_,_,_,_,_,_,_,_,_,_,_,_,_,_,_,_,_,_,_,_,_,_] rfl rfl rfl rfl rfl rfl rfl rfl (λβ _ _ hc=>⟨β,rfl,hc⟩)
          | exact OB rfl (first:=[]) (captured:=[_]) rfl rfl (AC.mid [_,_,_,_,_,_,_] [_] _ (qpN (SS cq rfl) hP.2.2 Dc)) (by rintro _ _ _ _ ⟨_,rfl,rfl,_,_,_,rfl,h⟩;exact ⟨rfl,_,_,_,rfl,h⟩)):sC p m:=h
def qj{id:Nat}{b:Bool}{l:List Oper}{y:Code}{X:Hl}{β:Nat}{fr:Fr}{g:Value×Hl×List iz}(m:Nat)(ds:List Nat)(dl:Nat)(dp:List (List Nat))(fs:List xd)(hI:DI Ap cp k g s)
    (next:∀ g' s',Le D s s'->DI Ap cp (k+1) g' s'->JC prog TT D n Q y fr (X++((β,cb [iB 65536,g'.1] 44)::(g'.2.1++L))) s')
    (hB:SX b l fr ds dp (some dl) m m 0 n=true:=by kernel_rfl)
    (obl:sC (λi=>i≠m->∀ Q' s' L',Le D s s'->DI Ap cp k g s'->(L'=X++((β,cb [iB 65536,g.1] 44)::(g.2.1++L))\/m < m/\∃ β',L'=(β',cb [] 0)::(X++((β,cb [iB 65536,g.1] 44)::(g.2.1++L))))->EF (λi=>(fs.getD i (.eq undef)).holds) ds s' (λjN=>JE prog TT D n l.toArray Q' i (ds.getD i 0) jN L' s' ((fs.getD i (.eq undef)).holds)) (dp.getD i []) fr) m:=by exact AL)
    (last:∀ Q' s',Le D s s'->DI Ap cp k g s'->EF (λi=>(fs.getD i (.eq undef)).holds) ds s' (λjN=>JL prog TT D n l.toArray Q' m (some dl) jN (X++((β,cb [iB 65536,g.1] 44)::(g.2.1++L))) s' λ_ L' s2=>∃ g',L'=X++((β,cb [iB 65536,g'.1] 44)::(g'.2.1++L))/\DI Ap cp (k+1) g' s2) (dp.getD m []) fr:=by
      intro _ _ _ hP;repeat (intro u q;first|obtain rfl:=q|obtain ⟨b,rfl,cq⟩:=q|obtain ⟨A,n,c,rfl,hA⟩:=q)
      first
        | exact Uy rfl (first:=[]) (captured:=[_]) rfl rfl (AC.mid [_,_,_,_,_,_,_,_] (_::_) _ (Jx (SS cq rfl) hP rfl)) (by rintro _ _ _ _ ⟨_,rfl,g',rfl,h⟩;exact ⟨g',rfl,h⟩)
        | exact Uy rfl (first:=[]) (captured:=[_]) rfl rfl (AC.mid [_,_,_,_,_,_,_,_] (_::_) _ (Jx hA hP rfl)) (by rintro _ _ _ _ ⟨_,rfl,g',rfl,h⟩;exact ⟨g',rfl,h⟩)) :
    JC prog TT D n Q (.seq (.region id l.toArray b) y) fr (X++((β,cb [iB 65536,g.1] 44)::(g.2.1++L))) s:=by
  refine Ux X Z (λg'=>(β,cb [iB 65536,g'.1] 44)::(g'.2.1++L)) (DI Ap cp (k+1)) (λ_ _ _ h hl=>h.le hl) ?_ next
  refine qyO jt m m 0 [] ds dp (some dl) hB (DI Ap cp k g) (λs' hl=>hI.le hl) (xd.le fs) (λh=>absurd h O) obl (λ_ L' s2=>∃ g',L'=X++((β,cb [iB 65536,g'.1] 44)::(g'.2.1++L))/\DI Ap cp (k+1) g' s2) ?_ ?_
  . rintro si L' s' (rfl|⟨h,_⟩) hl ⟨g',rfl,h⟩
    . exact iU (ol.mk g' [] hl sk Pr h)
    . omega
  . rintro Q' s' L' si hl hI (⟨_,rfl,rfl⟩|⟨h,_⟩)
    . exact last Q' s' hl hI
    . omega
def qmO:pQ D 11 [] L s λv M' s'=>∀ s2,Le D s' s2->mI M' s2->∃ A n c,v=.agg #[iB 65536,.slice A n c]/\ki s2 A n c iW.U:=by
 refine jn (fn:=f11) jb func11 V Z ntmps11 Z (rs:=[.cell 0 44]) Z [] Z<|Sr<|jh Z [_,_] Y2 λβ1 s1 h1=>Nt<|Sr<|Je Y3 (KT) λs2 h2=>Je Y3 (KT) λs3 h3=>Je Y3 (KT) λs4 h4=>Je Y3 (KT) λs5 h5=>Je Y3 (KT) λs6 h6=>jh Z [_,_] Y2 λd7 s7 h7=>jh Z [_,_] Y2 λt8 s8 h8=>jh Z [_,_] Y2 λd9 s9 h9=>jh Z [_,_] Y2 λb10 kH jG=>jh Z [_,_] Y2 λb11 kz jM=>Wt 4 [_,_] Y9<|Wt 3 [_,_] Y9<|Wt 2 [_,_] Y9<|Wt 1 [_,_] Y9<|Wt 0 [_,_] Y9<|Nt<|Sr<|iA (jB [(_,_)] [_,_] Y3 Z Z Z) Z<|jh Z [_,_] Y2 λb12 kh jE=>Wt 0 [_,_] Y9<|Nt<|Sr<|iA (jB [(_,_)] [_,_] Y3 Z Z Z) Z<|jh Z [_,_] Y2 λb13 lq kV=>Wt 0 [_,_] Y9<|Nt<|Sr<|iA (qZ Z) Z<|G8 ?_;refine Kv (γ:=Nat×iE×Nat) (λg=>[(10,.pointer (some ⟨g.1,0,none⟩))]) (λg=>[(g.1,cb [.slice g.2.1 2 g.2.2] 109)]) (λg tw=>qn tw g.2.1 2 g.2.2 JZ) (λ_ _ _ h hl=>h.le hl) ?_ ?_
 .refine qyO jt 11 10 109 [.slice none 0 0] [20,21,22,23,24,25,26,27,28,29,10] [[],[],[],[1,2],[0,3],[],[],[6],[5,7],[4,8],[],[9]] none V (λ_=>True) (λ_ _=>Tt) (xd.le [f0 38,tT 1 2,tT 0 1,rT [⟨1,2⟩,⟨0,1⟩],dL JZ 0,f0 38,tT 1 2,rT [⟨1,2⟩],dL JZ 1,rA JZ,aT]) (λ_=>⟨⟨_,Z,Z⟩,λ_ _=>Tt⟩) AL _ (λ_ _ _ _ _ h=>h) ?_;rintro _ _ _ _ hl _ (⟨h,_⟩|⟨_,β,rfl,rfl⟩)
  . exact absurd Dc h
  rintro _ ⟨b,rfl,cq⟩;exact qJ7 rfl 0 [_] rfl rfl rfl rfl rfl rfl rfl rfl rfl λ_=>iU (jP.mk (β,_,_) [] hl (.cons rfl sk) Pr (SS cq rfl))
 intro g lG kI I14;simp only [jC,jD];obtain ⟨bP,APo,cPo⟩:=g;have hPop:=I14;simp only at hPop;dsimp only;refine Sr<|iA (qZ Z) Z<|At Z Z<|sq 8<|sq 8<|sq 8<|sq 8<|sq 8<|sq 8<|sq 8<|qj (X:=[_,_,_,_,_,_,_,_]) (g:=(.slice none 0 0,[],[])) 6 [31,32,33,34,35,36] 37 [[],[],[],[2],[1,3],[4],[0,5]] [fB 37 b13,f0 38,tT 1 0,rT [⟨1,0⟩],dL (kc 0) 0,rA (kc 0)] ⟨Own.nil,kJ.nil,hPop.le (Lr D)⟩ λg lW lQ I=>qj 6 [38,39,40,41,42,43] 44 [[],[],[],[2],[1,3],[4],[0,5]] [fB 37 b13,f0 38,tT 2 0,rT [⟨2,0⟩],dL (kc 1) 0,rA (kc 1)] I λg sB tu I=>?_;refine qj 6 [45,46,47,48,49,50] 51 [[],[],[],[2],[1,3],[4],[0,5]] [fB 37 b13,f0 38,tT 2 0,rT [⟨2,0⟩],dL (kc 2) 0,rA (kc 2)] I λg vD vm I=>qj 7 [52,53,54,55,56,57,58] 59 [[],[],[],[],[2,3],[1,4],[5],[0,6]] [fB 37 b13,f0 38,tT 2 0,tT 1 0,rT [⟨2,0⟩,⟨1,0⟩],dL (kc 3) 0,rA (kc 3)] I λg BO h18 I=>?_;refine qj 11 [60,61,62,63,64,65,66,67,68,69,70] 71 [[],[],[],[],[2,3],[1,4],[],[],[7],[6,8],[5,9],[0,10]] [fB 37 b13,f0 38,tT 1 2,tT 2 0,rT [⟨1,2⟩,⟨2,0⟩],dL (kc 4) 0,f0 38,tT 1 1,rT [⟨1,1⟩],dL (kc 4) 1,rA (kc 4)] I λg BP yh I=>qj 12 [72,73,74,75,76,77,78,79,80,81,82,83] 84 [[],[],[],[],[2,3],[1,4],[],[],[],[7,8],[6,9],[5,10],[0,11]] [fB 37 b13,f0 38,tT 1 2,tT 2 0,rT [⟨1,2⟩,⟨2,0⟩],dL (kc 5) 0,f0 38,tT 1 1,tT 1 0,rT [⟨1,1⟩,⟨1,0⟩],dL (kc 5) 1,rA (kc 5)] I λg yK qT I=>?_;refine qj 11 [85,86,87,88,89,90,91,92,93,94,95] 96 [[],[],[],[],[2,3],[1,4],[],[],[7],[6,8],[5,9],[0,10]] [fB 37 b13,f0 38,tT 1 0,tT 2 0,rT [⟨1,0⟩,⟨2,0⟩],dL (kc 6) 0,f0 38,tT 1 1,rT [⟨1,1⟩],dL (kc 6) 1,rA (kc 6)] I λg AO uv I=>?_;refine qj 14 [97,98,99,100,101,102,103,104,105,106,107,108,109,110] 111 [[],[],[],[],[],[3,4],[2,5],[],[],[],[8,9],[7,10],[6,11],[1,12],[0,13]] [fB 37 b13,fB 40 bP,f0 38,tT 1 1,tT 2 0,rT [⟨1,1⟩,⟨2,0⟩],dL (kc 7) 2,f0 38,tT 1 1,tT 1 0,rT [⟨1,1⟩,⟨1,0⟩],dL (kc 7) 3,rA ((kc 7).drop 2),pA (kc 7)] I λg s22 h22 I=>?_;refine qj 12 [112,113,114,115,116,117,118,119,120,121,122,123] 124 [[],[],[],[],[2,3],[1,4],[],[],[],[7,8],[6,9],[5,10],[0,11]] [fB 37 b13,f0 38,tT 1 2,tT 1 0,rT [⟨1,2⟩,⟨1,0⟩],dL (kc 8) 0,f0 38,tT 1 2,tT 0 1,rT [⟨1,2⟩,⟨0,1⟩],dL (kc 8) 1,rA (kc 8)] I λg s23 h23 I=>qj 7 [125,126,127,128,129,130,131] 132 [[],[],[],[],[2,3],[1,4],[5],[0,6]] [fB 37 b13,f0 38,tT 1 2,tT 2 0,rT [⟨1,2⟩,⟨2,0⟩],dL (kc 9) 0,rA (kc 9)] I λg s24 h24 I=>?_;refine qj 9 [133,134,135,136,137,138,139,140,141] 142 [[],[],[],[],[],[3,4],[2,5],[6],[1,7],[0,8]] [fB 37 b13,fB 40 bP,f0 38,tT 1 1,tT 1 0,rT [⟨1,1⟩,⟨1,0⟩],dL (kc 10) 2,rA ((kc 10).drop 2),pA (kc 10)] I λg s25 h25 I=>qj 9 [143,144,145,146,147,148,149,150,151] 152 [[],[],[],[],[],[3,4],[2,5],[6],[1,7],[0,8]] [fB 37 b13,fB 40 bP,f0 38,tT 1 1,tT 1 0,rT [⟨1,1⟩,⟨1,0⟩],dL (kc 11) 2,rA ((kc 11).drop 2),pA (kc 11)] I λg s26 h26 I=>?_;refine qj 9 [153,154,155,156,157,158,159,160,161] 162 [[],[],[],[],[],[3,4],[2,5],[6],[1,7],[0,8]] [fB 37 b13,fB 40 bP,f0 38,tT 1 1,tT 1 0,rT [⟨1,1⟩,⟨1,0⟩],dL (kc 12) 2,rA ((kc 12).drop 2),pA (kc 12)] I λg s27 h27 I=>?_;refine qj 14 [163,164,165,166,167,168,169,170,171,172,173,174,175,176] 177 [[],[],[],[],[],[3,4],[2,5],[],[],[],[8,9],[7,10],[6,11],[1,12],[0,13]] [fB 37 b13,fB 40 bP,f0 38,tT 0 2,tT 1 0,rT [⟨0,2⟩,⟨1,0⟩],dL (kc 13) 2,f0 38,tT 1 1,tT 1 0,rT [⟨1,1⟩,⟨1,0⟩],dL (kc 13) 3,rA ((kc 13).drop 2),pA (kc 13)] I λg s28 h28 I=>?_;refine qj 14 [178,179,180,181,182,183,184,185,186,187,188,189,190,191] 192 [[],[],[],[],[],[3,4],[2,5],[],[],[],[8,9],[7,10],[6,11],[1,12],[0,13]] [fB 37 b13,fB 40 bP,f0 38,tT 0 2,tT 1 0,rT [⟨0,2⟩,⟨1,0⟩],dL (kc 14) 2,f0 38,tT 1 1,tT 1 0,rT [⟨1,1⟩,⟨1,0⟩],dL (kc 14) 3,rA ((kc 14).drop 2),pA (kc 14)] I λg s29 h29 I=>?_;refine qj 9 [193,194,195,196,197,198,199,200,201] 202 [[],[],[],[],[],[3,4],[2,5],[6],[1,7],[0,8]] [fB 37 b13,fB 40 bP,f0 38,tT 1 1,tT 1 0,rT [⟨1,1⟩,⟨1,0⟩],dL (kc 15) 2,rA ((kc 15).drop 2),pA (kc 15)] I λg s30 h30 I=>qj 9 [203,204,205,206,207,208,209,210,211] 212 [[],[],[],[],[],[3,4],[2,5],[6],[1,7],[0,8]] [fB 37 b13,fB 40 bP,f0 38,tT 1 1,tT 1 0,rT [⟨1,1⟩,⟨1,0⟩],dL (kc 16) 2,rA ((kc 16).drop 2),pA (kc 16)] I λg s31 h31 I=>?_;refine qj 9 [213,214,215,216,217,218,219,220,221] 222 [[],[],[],[],[],[3,4],[2,5],[6],[1,7],[0,8]] [fB 37 b13,fB 40 bP,f0 38,tT 1 1,tT 1 0,rT [⟨1,1⟩,⟨1,0⟩],dL (kc 17) 2,rA ((kc 17).drop 2),pA (kc 17)] I λg s32 h32 I=>qj 9 [223,224,225,226,227,228,229,230,231] 232 [[],[],[],[],[],[3,4],[2,5],[6],[1,7],[0,8]] [fB 37 b13,fB 40 bP,f0 38,tT 1 1,tT 1 0,rT [⟨1,1⟩,⟨1,0⟩],dL (kc 18) 2,rA ((kc 18).drop 2),pA (kc 18)] I λg s33 h33 I=>?_;refine qj 9 [233,234,235,236,237,238,239,240,241] 242 [[],[],[],[],[],[3,4],[2,5],[6],[1,7],[0,8]] [fB 37 b13,fB 40 bP,f0 38,tT 1 1,tT 1 0,rT [⟨1,1⟩,⟨1,0⟩],dL (kc 19) 2,rA ((kc 19).drop 2),pA (kc 19)] I λg s34 h34 I=>qj 9 [243,244,245,246,247,248,249,250,251] 252 [[],[],[],[],[],[3,4],[2,5],[6],[1,7],[0,8]] [fB 37 b13,fB 40 bP,f0 38,tT 1 1,tT 1 0,rT [⟨1,1⟩,⟨1,0⟩],dL (kc 20) 2,rA ((kc 20).drop 2),pA (kc 20)] I λg s35 h35 I=>?_;refine qj 9 [253,254,255,256,257,258,259,260,261] 262 [[],[],[],[],[],[3,4],[2,5],[6],[1,7],[0,8]] [fB 37 b13,fB 40 bP,f0 38,tT 1 1,tT 1 0,rT [⟨1,1⟩,⟨1,0⟩],dL (kc 21) 2,rA ((kc 21).drop 2),pA (kc 21)] I λg s36 h36 I=>qj 9 [263,264,265,266,267,268,269,270,271] 272 [[],[],[],[],[],[3,4],[2,5],[6],[1,7],[0,8]] [fB 37 b13,fB 40 bP,f0 38,tT 1 0,tT 1 1,rT [⟨1,0⟩,⟨1,1⟩],dL (kc 22) 2,rA ((kc 22).drop 2),pA (kc 22)] I λg s37 h37 I=>?_;refine qj 7 [273,274,275,276,277,278,279] 280 [[],[],[],[],[2,3],[1,4],[5],[0,6]] [fB 37 b13,f0 38,tT 1 0,tT 0 0,rT [⟨1,0⟩,⟨0,0⟩],dL (kc 23) 0,rA (kc 23)] I λg s38 h38 I=>qj 12 [281,282,283,284,285,286,287,288,289,290,291,292] 293 [[],[],[],[],[2,3],[1,4],[],[],[],[7,8],[6,9],[5,10],[0,11]] [fB 37 b13,f0 38,tT 1 0,tT 2 0,rT [⟨1,0⟩,⟨2,0⟩],dL (kc 24) 0,f0 38,tT 0 1,tT 1 1,rT [⟨0,1⟩,⟨1,1⟩],dL (kc 24) 1,rA (kc 24)] I λg s39 h39 I=>?_;refine qj 6 [294,295,296,297,298,299] 300 [[],[],[],[2],[1,3],[4],[0,5]] [fB 37 b13,f0 38,tT 2 0,rT [⟨2,0⟩],dL (kc 25) 0,rA (kc 25)] I λg s40 h40 I=>qj 7 [301,302,303,304,305,306,307] 308 [[],[],[],[],[2,3],[1,4],[5],[0,6]] [fB 37 b13,f0 38,tT 2 0,tT 1 0,rT [⟨2,0⟩,⟨1,0⟩],dL (kc 26) 0,rA (kc 26)] I λg s41 h41 I=>?_;refine qj 31 [309,310,311,312,313,314,315,316,317,318,319,320,321,322,323,324,325,326,327,328,329,330,331,332,333,334,335,336,337,338,339] 340 [[],[],[],[],[2,3],[1,4],[],[],[],[7,8],[6,9],[],[],[],[12,13],[11,14],[],[],[],[17,18],[16,19],[],[],[],[22,23],[21,24],[],[],[27],[26,28],[5,10,15,20,25,29],[0,30]] [fB 37 b13,f0 38,tT 1 3,tT 0 1,rT [⟨1,3⟩,⟨0,1⟩],dL (kc 27) 0,f0 38,tT 1 3,tT 0 101,rT [⟨1,3⟩,⟨0,101⟩],dL (kc 27) 1,f0 38,tT 0 3,tT 1 1,rT [⟨0,3⟩,⟨1,1⟩],dL (kc 27) 2,f0 38,tT 1 2,tT 1 4,rT [⟨1,2⟩,⟨1,4⟩],dL (kc 27) 3,f0 38,tT 1 2,tT 0 1,rT [⟨1,2⟩,⟨0,1⟩],dL (kc 27) 4,f0 38,tT 2 0,rT [⟨2,0⟩],dL (kc 27) 5,rA (kc 27)] I λg s42 h42 I=>?_;refine qj 16 [341,342,343,344,345,346,347,348,349,350,351,352,353,354,355,356] 357 [[],[],[],[],[2,3],[1,4],[],[],[7],[6,8],[],[],[],[11,12],[10,13],[5,9,14],[0,15]] [fB 37 b13,f0 38,tT 1 2,tT 2 0,rT [⟨1,2⟩,⟨2,0⟩],dL (kc 28) 0,f0 38,tT 1 2,rT [⟨1,2⟩],dL (kc 28) 1,f0 38,tT 1 3,tT 0 1,rT [⟨1,3⟩,⟨0,1⟩],dL (kc 28) 2,rA (kc 28)] I λg s43 h43 I=>qj 4 [358,359,360,361] 362 [[],[],[1],[2],[0,3]] [fB 37 b13,f0 38,dL (kc 29) 0,rA (kc 29)] I λg s44 h44 I=>?_;refine qj 6 [363,364,365,366,367,368] 369 [[],[],[],[2],[1,3],[4],[0,5]] [fB 37 b13,f0 38,tT 1 0,rT [⟨1,0⟩],dL (kc 30) 0,rA (kc 30)] I λg s45 h45 I=>qj 6 [370,371,372,373,374,375] 376 [[],[],[],[2],[1,3],[4],[0,5]] [fB 37 b13,f0 38,tT 2 0,rT [⟨2,0⟩],dL (kc 31) 0,rA (kc 31)] I λg s46 h46 I=>?_;obtain ⟨vj,Mj,css⟩:=g;obtain ⟨yi,hAj,_⟩:=I;simp only [jC,jD] at yi hAj ⊢;obtain ⟨Au,cu,rfl,ku1,ku2⟩:=Own.slice yi;refine Sr<|iA (iZ 8 [_,_] Y5) Z<|Wt 6 [_,_] Y9<|G3 ?_;exact rR [_,_,_,_,_,_,_,_,_] _ (.agg (us:=[_,_]) 6 Z Z Z Z Z (.nil)) Z Lc λ_ iD=>⟨Mj,rfl,λs2 j5 hp=>⟨_,_,_,rfl,Own.rows yi hp (Uf hAj Lc) rfl⟩⟩
end
section
attribute [local irreducible] JC JO JA JB ma mO mX AC fill iy QE Ev my
variable{B:iE}
def qs(p:jc):Int×Int:=if (kG p).1=0 then (if 49152 < sy p then (14,-1) else (0,0)) else kG p
def yP(p:jc):iH:=if (kG p).1=0 then (if 49152 < sy p then [] else cT (cP p)) else []
def qIQ(x:iM):(sE x).map (·.1)=x.locals++x.params:=by
 rw [sE,bO];congr 1<;>(apply eN<;>simp)
def quL(X:Hl){l:iH}(hW:WC R T bb M l):jU D 51 [iT bb] (X++(M++L)) s λu L' _=>u=St l/\L'=X++L:=
 AC.perm (aO ..) (qnF hW) λu L1 s1 ⟨g0,g1⟩=>⟨_,eJ _,g0,g1.symm⟩
def qq8{c i:Int}:jT D 44 [iB c,iB i] L s (.agg #[iB c,iB i]):=by
 refine jn (fn:=f44) jb func44 V Z ntmps44 Z (rs:=[.cell 4 30]) Z [(0,_),(1,_)] Z<|Sr<|jh Z [_,_] Y2 ?_;exact ES
def Hr{p:Prop} (h:p:=by
 first
  | (rw [yP,qs,ak hz,ak hz];exact ⟨rfl,rfl⟩)
  | (rw [yP,qs,au hz,au hz,au hn,au hn];exact ⟨rfl,rfl⟩)
  | (refine ⟨?_,rfl⟩;rw [yP,qs,au hz,au hz,ak O,ak O,YV];simp only [lA,ln,lD,am,aE,ao,aC];try rfl)):p:=h
def XZ{p:Prop} (h:p:=by
 exact rR [_,_,_] L (.tmp Z (.agg (us:=[_,_]) 1 Z Z Z Z Z (.nil))) Z Lc λ_ iD=>Hr):p:=h
def qnQ(D:Nat)(L:Hl)(s:World)(hG:GP s)(d:Nat)(p:jc)(Ag Af:iE)(ng cg nf cf:Nat)(jF:ja s Ag ng cg p.o)(jX:jl d s Af nf cf p.funcs):jT D 17 [.agg #[.slice Ag ng cg,.slice Af nf cf]] L s (.tuple #[St (yP p),.agg #[iB (qs p).1,iB (qs p).2]]):=by
 have l7:=jF.1;have oW:=jX.1;have hq1:=jF.2.1;have hq2:=jF.2.2.1;have hq3:=jX.2.1;have hq4:=jX.2.2.1;have hU:qd p:=⟨jF.u,jX.u⟩;refine jn (fn:=f17) jb func17 V Z ntmps17 Z (rs:=[.tmp 2,.cell 3 30]) Z [(0,_)] Z<|Sr<|kF Y2 λβ1 s1 h1=>mo Y2<|jh Z [_,_] Y2 λβ2 s2 h2=>Nt<|Sr<|iA (iZ 1 [_,_] Y5) Z<|Je Y3 (qsn Pz d p Pz Pz) λs3 h3=>G3 ?_;refine jh Z [_,_] Y2 λt4 s4 h4=>mo Y2<|Wt 0 [_,_] Y9<|Nt<|Zs<|Sr<|iA (iZ 0 [_,_] Y5) Z<|iA (jB [] [_,_] Y3 Z Z Z) Z<|iA (ui Z Z (sp)) Z<|G2 ?_;refine lL Z ?_ ?_<;>intro c5;.have hz:¬ (kG p).1=0:=λh=>c5 ⟨h,by rw [(qP.of hU h).2]⟩;refine Zs<|pM jt 3 Z [1] Q4 λs6 h6=>za 0 Z (iZ 0 [_,_] Y5) Z<|H1 ?_;refine X4 ?_;exact XZ
 have hz:(kG p).1=0:=c5.1;obtain ⟨⟨⟨y8,A0,hVg,sn,_⟩,hnF,hnds⟩,hz2⟩:=qP.of hU hz;obtain ⟨hnd0,hndf⟩:=An (p:=p) (by rw [hnF]);have hf0:=TG (p:=p) hnF;obtain ⟨im,him,himl⟩:=Pv (p:=p) (nm:=mu) hf0;rw [show jY p=gE p++fE p from rfl,bO,bI] at hnd0;have hfB:=UT p.funcs λx hx=>(sn x hx).2.2.2.2.2;refine J9 ?_ ?_<;>intro c6;.have hn:=c6;rw [au hz] at hn;have hn:49152 < sy p:=hn;refine Sr<|Je Y3 (qq8) λs7 h7=>mo Y2<|Wt 1 [_,_] Y9<|G4 ?_;exact XZ
 have hn:=c6;rw [au hz] at hn;have hcp:=(YW hU hz O).2;rw [YV] at hcp;simp only [lA,ln,lD,ac,aq] at hcp;refine Zk<|Zt<|Sr<|iA (iZ 2 [_,_] Y5) Z<|Gb (λl=>St l) Z λβg s7 h7=>Gb (λl=>St l) Z λβf s8 h8=>iA (jB [(_,_),(_,_),(_,_)] [_,_,_,_,_,_,_,_,_,_,_,_] Y3 Z Z Z) Z<|kF Y2 λbb s9 h9=>G7 ?_;refine Wl 5 Y6<|G4 ?_;refine Zp ?_;refine lJ (γ:=Nat×List (iH×Value×Nat)×Nat) (λg=>[(1,_),(2,_),(3,_),(6,_),(31,_),(32,_),(33,iB (g.1:Int))]) (λg=>_::_::(βg,mp (λl=>St l) g.2.1 g.2.2)::_::_::_::L) (λg tw=>Le D s9 tw/\(g.1<=ng/\∀ nm,kX g.2.1 nm=(((gE p).take g.1).find? λe=>decide (e.1=nm)).map λe=>fI e.2)) (λg=>ng - g.1) (λ_ _ _ h hl=>⟨h.1.trans hl,h.2⟩) (0,[],0) (.c6 Z Z Z Z Z Z (.cons Z (.nil _))) Z ⟨Le.refl _,⟨aB _,λnm=>rfl⟩⟩ ?_;intro g kH I10;obtain ⟨k,esg,ckg⟩:=g;obtain ⟨ko,hS⟩:=I10.2;simp only at ko hS;dsimp only;refine J6 ?_ ?_<;>intro nZ
 .have hk:k < ng:=O
  obtain ⟨b,off,x,Ai,ni,ci,rfl,hx,hcx,hix,oI,kL⟩:=ja.at_ Pz hk;refine G7 ?_;refine iA (jK Y6 hk) Z<|iA (ku Y3 Pz Z) Z<|jh Z [_,_,_,_] Y2 λb12 kh jE=>mo Y2<|Wt 0 [_,_,_,_] Y9<|Nt<|pM jt 8 Z [3] Q4 λlq kV=>H7 ?_;refine iF 7 V<|KA jO.str Z Tt 3 yA Z Z Z Z (sM (kN (lj (jL)))) ?_;intro sI;simp only [lV];refine ji V<|Zb<|Zt<|Zr<|kq Y3 (jq O O)<|G2 ?_;refine iU ⟨(k+1,_,sI),[_],kp,Z,⟨Lc,⟨Oz,F6 (f:=fI) (qKX hx) hnd0.1 hS⟩⟩,Oz⟩
 obtain rfl:ng=k:=O
 refine G9 ?_;refine Wl 5 Y6<|G5 ?_;refine lJ (γ:=Nat×List (iH×Value×Nat)×Nat) (λg=>[(1,_),(2,_),(3,_),(6,_),(47,_),(48,_),(49,iB (g.1:Int))]) (λg=>_::(βf,mp (λl=>St l) g.2.1 g.2.2)::_::_::_::_::L) (λg tw=>Le D kH tw/\(g.1<=nf/\∀ nm,kX g.2.1 nm=(((fE p).take g.1).find? λe=>decide (e.1=nm)).map λe=>fI e.2)) (λg=>nf - g.1) (λ_ _ _ h hl=>⟨h.1.trans hl,h.2⟩) (0,[],0) (.c6 Z Z Z Z Z Z (.cons Z (.nil _))) Z ⟨Le.refl _,⟨aB _,λnm=>rfl⟩⟩ ?_;intro g kh I12;obtain ⟨k,es,ck⟩:=g;obtain ⟨ko,hSf⟩:=I12.2;simp only at ko hSf;dsimp only;refine J6 ?_ ?_<;>intro pZ
 .have hk:k < nf:=O
  obtain ⟨b,off,x,B1,m1,d1,B2,m2,d2,B3,m3,d3,rfl,hx,hcx,oP,oO,so,kL⟩:=jl.at_ Pz hk;refine G7 ?_;refine iA (jK Y6 hk) Z<|iA (ku Y3 Pz Z) Z<|jh Z [_,_,_,_] Y2 λb14 lG kI=>mo Y2<|Wt 0 [_,_,_,_] Y9<|Nt<|pM jt 8 Z [2] Q4 λlW lQ=>H7 ?_;refine iF 7 V<|KA jO.str Z Tt 2 yA Z Z Z Z (sM (kN (lj (jL)))) ?_;intro sI;simp only [lV];refine ji V<|Zb<|Zt<|Zr<|kq Y3 (jq O O)<|G2 ?_;refine iU ⟨(k+1,_,sI),[_],kp,Z,⟨Lc,⟨Oz,F6 (f:=fI) (qKR hx) hnd0.2.1 hSf⟩⟩,Oz⟩
 obtain rfl:nf=k:=O
 refine G6 ?_;refine qqh [_] [_,_] ?_;intro lG kI hpub;simp only [jC,jD];refine sq 1<|sq 2<|sq 3 ?_;simp only [PJ,bH,dj,eZ,List.eraseIdx_cons_zero];have hmg:yT lG βg (gE p):=⟨esg,⟨ckg,hpub _ _ (an _ Mc)⟩,U5 (by rw [gE,eX];omega) hS⟩;have hmf0:yT lG βf (fE p):=⟨es,⟨ck,hpub _ _ Mc⟩,U5 (by rw [fE,eX];omega) hSf⟩;obtain ⟨esf,ze,hhmf⟩:=hmf0;have hO0:Own 9 1 ([]:Hl) (.slice none 0 0) ([]:List iH).length (sb ([]:List iH)):=Own.nil;have kM:CR ⟨Ag,ng,cg,Af,nf,cf,βg,βf,none,0,0⟩ bb 0 0 (.slice none 0 0) [] [(bb,cb [.pointer none,.slice none 0 0,iB 0,.slice Ag ng cg,.slice Af nf cf,.map (some βg),.map (some βf),.map none,iB 0,iB 0,iB 0,.slice none 0 0] 130)]:=WC.mk ⟨.inl rfl,by unfold LA;kernel_rfl⟩ BV.nil;refine G4 ?_;refine lx [(_,_),(_,_)] [_,_] Y9 λb15 lW lQ hc15=>JW [_] (([]:Hl)++L) kv (wV (M:=[_]) (n:=Fp) (a:=wo) kM Pz Q1) ?_;rintro _ M2 sB tu ⟨rfl,mB⟩;refine G3 ?_;obtain ⟨p3,N3,v3,xK,rfl,y9⟩:=mB;simp only [ao,sv];refine mv jt 11 Z 0 λvD vm=>H6 ?_;refine iF 6 V<|jW Z Tt (Wd 3 Y5) Z<|za 7 Z (kK (E4 jO.str yA Z Z Pz) ((GG hhmf).trans (bl (Value.int .i64) (show _=fi p mu from Z)))) Z<|iF 8 V<|Jf Z Tt Z Z Z (RT Pz O O) λBO h18=>iF 9 V<|qC Z Tt [(_,_),(_,_)] [_,_] Y9 λb19 BP yh hc19=>iF 10 V<|CW (_::N3) (([]:Hl)++L) lr (wV (M:=(_::N3)) (n:=AJ) ⟨p3,N3,v3,xK,Z,y9⟩ Pz Q1) ?_;rintro _ M4 yK qT ⟨rfl,pp⟩;refine ji V<|G6 ?_;refine JW M4 (([]:Hl)++L) kv (vY (D:=D) Pz (M:=M4) pp (n:=pX) O Q1) ?_;rintro _ M5 AO uv ⟨rfl,sJ⟩;refine G7 ?_;refine lx [(_,_)] [_] Y9 λb22 s22 h22 hc22=>JW M5 (([]:Hl)++L) kv (yy (D:=D) (M:=M5) (n:=BI) sJ Pz Q1) ?_;rintro _ M6 s23 h23 ⟨rfl,hW6⟩;refine mY ?_;obtain ⟨tq,hq,hWq⟩:∃ tq,tq=((([]++cT [.ref Fp wo])++cT [.ref AJ (fT (fi p mu))])++cT [.num pX 0])++cT [.op BI]/\CR ⟨Ag,ng,cg,Af,nf,cf,βg,βf,none,0,0⟩ bb 0 0 (.slice none 0 0) tq M6:=⟨_,rfl,hW6⟩;have hql:=bl List.length hq;simp only [ln,lD,ac,aq] at hql;refine CN [_,_,_] (γ:=Nat×Nat×Hl×Hl×Value×Option Nat×Nat×Nat×iH) (λg=>[(2,_),(3,_),(6,_),(88,_),(89,_),(90,iB (g.1:Int))]) (λg=>g.2.2.1++(g.2.2.2.1++L)) (λg tw=>Le D s23 tw/\(g.1<=nf/\CR ⟨Ag,ng,cg,Af,nf,cf,βg,βf,g.2.2.2.2.2.1,g.2.2.2.2.2.2.1,g.2.2.2.2.2.2.2.1⟩ bb g.2.1 0 g.2.2.2.2.1 g.2.2.2.2.2.2.2.2 g.2.2.1/\Own 9 1 g.2.2.2.1 g.2.2.2.2.1 ([]:List iH).length (sb ([]:List iH))/\g.2.2.2.2.2.2.2.2++cT (rJ p (p.funcs.drop g.1) g.1 g.2.1).1=tq++cT (rJ p p.funcs 0 0).1/\g.2.1+3 * qE (p.funcs.drop g.1)<=1000000)) (λg=>nf - g.1) (λ_ _ _ h hl=>⟨h.1.trans hl,h.2⟩) (0,0,M6,([]:Hl),.slice none 0 0,none,0,0,tq) (.c6 Z Z Z Z Z Z (.nil _)) Z ⟨Le.refl _,⟨aB _,hWq,hO0,Z,by simp only [cm];omega⟩⟩ ?_;intro g s24 I24;simp only [jC,jD];obtain ⟨j,kj,Mj,Rj,vj,sm,sz,nl,tj⟩:=g;obtain ⟨oV,hWj,yi,hT1,hkj⟩:=I24.2;simp only at oV hWj yi hT1 hkj;dsimp only;have j9:=bl List.length hT1;simp only [ac] at j9;refine J6 ?_ ?_<;>intro zT
 .have qw:j < nf:=O
  obtain ⟨b,off,x,B1,m1,d1,B2,m2,d2,B3,m3,d3,rfl,hx,hcx,oP,oO,so,kL⟩:=jl.at_ Pz qw;have hxm:=ax hx;have vS:=sn x hxm;have hpq:PQ p x:=⟨hf0,A0,y8,λg hg=>(hU.1 g hg).1,vS.2.1,vS.2.2.1⟩;have vp:CB p x x.body 0 1:=⟨vS.2.2.2.2.1,hnds x hxm⟩;have hndx:((sE x).map (·.1)).Nodup:=by rw [qIQ];exact dK.nodup_iff.1 (hndf x hxm)
  have hT:=qHl (p:=p) (i:=j) (j:=kj) hx;rw [qrE hx] at hkj;rw [hT] at j9;simp only [lA,ac] at j9;have hkf:=qKs p x j kj;refine G7 ?_;refine iA (jK Y6 qw) Z<|iA (ku Y3 Pz Z) Z<|jh Z [_,_,_,_] Y2 λb26 s26 h26=>mo Y2<|Wt 0 [_,_,_,_] Y9<|G5 ?_;refine iA (iZ 0 [_,_,_,_] Y5) Z<|Jc Y3 (AC.mid2 [_,_,_,_] Mj Rj L (qHx d Pz Pz Pz (yT.le ⟨esf,ze,hhmf⟩ Lc) hWj yi Pz Pz Pz hpq vp hndx O O Q1)) ?_;rintro _ _ s27 h27 ⟨_,rfl,rfl,M7,R7,vl7,sm7,sz7,nl7,rfl,hW7,hO7⟩;simp only [ao,aC,am];refine G4 ?_;refine kq Y3 (jq O O)<|G2 ?_;refine iU ⟨(j+1,(cF p x j kj).2,M7,R7,vl7,sm7,sz7,nl7,_),[_],kp,Z,⟨Lc,⟨Oz,hW7,hO7,by simp only;rw [<- hT1,hT];simp only [lA,ln,lD,am,aE,ao,aC,aq,bC],Oz⟩⟩,Oz⟩
 rw [aL O,rJ,lD,aE] at hT1;subst hT1;subst hq;refine G8 ?_;refine JW Mj (Rj++L) kv (quP p Pz Pz y8 (λg hg=>(hVg g hg).1) hWj Q1) ?_;rintro _ M7 s26 h26 ⟨rfl,hW7⟩;refine G7 ?_;refine JW M7 (Rj++L) kv (B7 (D:=D) (M:=M7) hW7 (a:=wo) Q1) ?_;rintro _ M8 s27 h27 ⟨rfl,hW8⟩;refine G8 ?_;refine Jc Y3 (quL [_,_,_] hW8) ?_;rintro _ _ s28 h28 ⟨rfl,rfl⟩;simp only [jC,jD];refine X22 ?_;exact rR (_::_::_::Rj) L (.tmp Z (.agg (us:=[_,_]) 1 Z Z Z Z Z (.nil))) Z Lc λ_ iD=>Hr
def vd(p:jc):iG:=if (qs p).1=0 then DX iW (yP p) else []
theorem DP(hU:qd p)(h:(qs p).1=0):qs p=(0,0)/\yP p=cT (cP p)/\(kG p).1=0/\sy p<=49152:=by grind [qs,yP]
def qtD(h:¬ (qs p).1=0):yP p=[]/\vd p=[]:=by
  refine ⟨?_,ak h⟩;unfold qs at h;unfold yP;by_cases hz:(kG p).1=0
  . rw [au hz] at *
    by_cases hn:49152 < sy p
    . rw [au hn]
    . rw [ak hn] at h;exact absurd rfl h
  . rw [ak hz]
def qJg(hU:qd p)(h:(qs p).1=0):Cp iW (yP p)=(0,0)/\(yP p).length<=400000:=by
 obtain ⟨h1,h2,h3,h4⟩:=DP hU h;obtain ⟨⟨x,hx⟩,hl⟩:=YW hU h3 h4;rw [h2];exact ⟨by rw [Cp,hx],hl⟩
def Oy:jU D 11 [] L s λv L' s'=>L=L'/\∃ A n c,v=.agg #[iB 65536,.slice A n c]/\ki s' A n c iW.U:=AC.pubW (qmO)
def Qi{p:Prop} (h:p:=by
 first
  | (refine ⟨rfl,none,0,0,rfl,?_⟩;rw [(qtD hz).2];exact lX.nil _ _ _ O)
  | (refine ⟨rfl,Aw1,nw1,cw1,by rw [(qJg hU hz).1,(DP hU hz).1];rfl,?_⟩;rw [vd,au hz];exact hw1.le iD)):p:=h
def X0{p:Prop} (h:p:=by
 exact rR [_,_,_] L (.tmp Z (.agg (us:=[_,_]) 1 Z Z Z Z Z (.nil))) Z Lc λ_ iD=>Qi):p:=h
def NV(hG:GP s)(d:Nat)(p:jc)(jF:ja s Ag ng cg p.o)(jX:jl d s Af nf cf p.funcs):jU D 6 [.agg #[.slice Ag ng cg,.slice Af nf cf]] L s λv L' s'=>L=L'/\∃ A1 n1 c1,v=.tuple #[.slice A1 n1 c1,.agg #[iB (qs p).1,iB (qs p).2]]/\lX s' A1 n1 c1 (vd p):=by
 have hU:qd p:=⟨jF.u,jX.u⟩;refine jn (fn:=f6) jb func6 V Z ntmps6 Z (rs:=[.tmp 2,.cell 3 30]) Z [(0,_)] Z<|Sr<|kF Y2 λβ1 s1 h1=>mo Y2<|jh Z [_,_] Y2 λβ2 s2 h2=>Nt<|Sr<|iA (iZ 1 [_,_] Y5) Z<|Je Y3 (qnQ D _ _ Pz d p _ _ _ _ _ _ Pz Pz) λs3 h3=>G3 ?_;refine jh Z [_,_] Y2 λt4 s4 h4=>mo Y2<|Wt 0 [_,_] Y9<|Nt<|Zs<|Sr<|iA (iZ 0 [_,_] Y5) Z<|iA (jB [] [_,_] Y3 Z Z Z) Z<|iA (ui Z Z (sp)) Z<|G2 ?_;refine lL Z ?_ ?_<;>intro c5;.have hz:¬ (qs p).1=0:=λh=>c5 (by rw [(DP hU h).1];exact ⟨rfl,rfl⟩);refine Zs<|pM jt 3 Z [1] Q4 λs6 h6=>za 0 Z (iZ 0 [_,_] Y5) Z<|H1 ?_;refine X4 ?_;exact X0
 have hz:(qs p).1=0:=c5.1;refine Zk<|Zt<|Sr<|Jc Y3 (Oy) ?_;rintro _ _ s6 h6 ⟨rfl,Ad1,nd1,cd1,rfl,hD1⟩;refine kb Y2<|Jc Y3 (qk8 (D:=D) (hG.gw.le Lc) (t:=iW) (A:=Ad1) (n:=nd1) (c:=cd1) Pz) ?_;rintro _ _ s7 h7 ⟨rfl,Aw1,nw1,cw1,rfl,hw1⟩;refine G3 ?_;refine Wt 1 [_,_] Y9<|G3 ?_;exact X0
def H'{l:List iH}(hA:iO s A n c l)(hB:iO s A1 n1 c1 l1):jT D 60 [.slice A n c,.slice A1 n1 c1] L s (.bool (decide (l=l1))):=by
 have hn:=hA.1;have nI:=hA.2.1;have pt:=hA.2.2.1;have l7:=hB.1;refine jn (fn:=f60) jb func60 V Z ntmps60 Z (rs:=[.tmp 4]) Z [(0,_),(1,_)] Z<|xe ?_;refine lL Z ?_ ?_<;>intro c1;.exact YA
 refine G9 ?_;refine lJ (γ:=Nat) (λk=>[(0,_),(1,_),(4,_),(5,iB (k:Int))]) (λ_=>_) (λk tw=>Le D s tw/\(k<=n/\∀ i x,i < k->l[i]?=some x->l1[i]?=some x)) (λk=>n - k) (λ_ _ _ h hl=>⟨h.1.trans hl,h.2⟩) 0 (.c4 Z Z Z Z (.nil _)) Z ⟨Le.refl _,⟨aB _,λi c hi=>O⟩⟩ ?_;intro k s2 I2;have ko:=I2.2.1;have hI:=I2.2.2;refine J9 ?_ ?_<;>intro c3
 .have hk:k < n:=O
  obtain ⟨b,off,x,rfl,hx,hcx,_⟩:=iO.at_ Pz hk;obtain ⟨b1,off1,y,rfl,hy,hcy,_⟩:=iO.at_ Pz (show k < n1 by omega);refine G5 ?_;refine mr jt 9 Z _ (λ_ h=>h) λs4 h4=>H2 ?_;refine za 2 Z (lK Y6 hk) Z<|za 3 Z (jS Y3 Pz Z) Z<|H2 ?_;refine za 6 Z (lK Y6 (show k < n1 by omega)) Z<|za 7 Z (jS Y3 Pz Z) Z<|za 8 Z (KO Z Z) Z<|ji V<|Zt ?_;exact Ih
 exact Xs
def Wm(D d:Nat):Prop:=∀ (L:Hl) (s:World) (d2:Nat) (A B:iE) (n m c c2:Nat) (l:List Ex),j8 d s A n c l->j8 d2 s B m c2 l->jT D 24 [.slice A n c,.slice B m c2] L s (.bool true)
def Wo(D d:Nat):Prop:=∀ (L:Hl) (s:World) (d2:Nat) (A B:iE) (n m c c2:Nat) (l:List iP),jo d s A n c l->jo d2 s B m c2 l->jT D 61 [.slice A n c,.slice B m c2] L s (.bool true)
def Xv{p:Prop} (h:p:=by
 refine lw ?_;exact rR [] L (.t1 Z) Z I1.1 λ_ iD=>qH):p:=h
def i_(ih:∀ e,d=e+1->Wm D e){c2:Nat}{l:List Ex}(hA:j8 d s A n c l)(hB:j8 d2 s B m c2 l):jT D 24 [.slice A n c,.slice B m c2] L s (.bool true):=by
 have hn:=hA.1;have hq1:=hA.2.1;have hq2:=hA.2.2.1;have hm:=hB.1;obtain rfl:n=m:=O
 refine jn (fn:=f24) jb func24 V Z ntmps24 Z (rs:=[.tmp 4]) Z [(0,_),(1,_)] Z<|mY ?_;refine X33 ?_;refine lJ (γ:=Nat) (λk=>[(0,_),(1,_),(4,_),(5,iB (k:Int))]) (λ_=>_) (λk tw=>Le D s tw/\(k<=n)) (λk=>n - k) (λ_ _ _ h hl=>⟨h.1.trans hl,h.2⟩) 0 (.c4 Z Z Z Z (.nil _)) Z ⟨Le.refl _,aB _⟩ ?_;intro k s1 I1;have ko:=I1.2;refine J9 ?_ ?_<;>intro c2
 .have hk:k < n:=O
  obtain ⟨e,b,off,x,A1,n1,p1,hd,rfl,hx,hcx,hax,oI,kL⟩:=j8.at_ (hA.le I1.1) hk;obtain ⟨e2,b2,off2,y,B1,m1,p2,yl,rfl,hy,hcy,hay,pK,hny⟩:=j8.at_ (hB.le I1.1) hk;obtain rfl:x=y:=cM (hx.symm.trans hy);refine G8 ?_;refine iA (jK Y6 hk) Z<|iA (ku Y3 (hcx.le (Lr D)) Z) Z<|jh Z [_,_,_,_,_] Y2 λβ3 s3 h3=>Wt 0 [_,_,_,_,_] Y9<|G6 ?_;refine iA (jK Y6 hk) Z<|iA (ku Y3 (hcy.le h3) Z) Z<|jh Z [_,_,_,_,_] Y2 λt4 s4 h4=>Wt 0 [_,_,_,_,_] Y9<|G8 ?_;refine iA (kK (v':=.bool false) (rD Z Z) (bF Z)) Z<|lM ?_;refine X34 ?_;refine X34 ?_;refine iA (kK (v':=.bool false) (KO Z Z) (bF Z)) Z<|lw ?_;refine Jc Y3 (ih e hd _ _ e2 A1 B1 n1 m1 p1 p2 x.args (hax.le (h3.t h4)) (hay.le (h3.t h4))) ?_;rintro _ _ s5 h5 ⟨rfl,rfl⟩;refine Zg Z Z<|AM Z Z<|G9 ?_;refine kq Y3 (jq O O)<|G2 ?_;refine iU ⟨(k+1),[_,_],kp,Z,⟨(I1.1.t h3|>.t h4|>.t h5),(show k+1<=n by omega)⟩,O⟩
 exact Xv
def T8{D:Nat}:∀ d,Wm D d
 | 0=>λL s d2 A B n m c c2 l hA hB=>i_ (λe h=>O) hA hB
 | d+1=>λL s d2 A B n m c c2 l hA hB=>i_ (d:=d+1) (λe h=>(show d=e by omega)▸T8 d) hA hB
def h_(ih:∀ e,d=e+1->Wo D e){c2:Nat}(hA:jo d s A n c l)(hB:jo d2 s B m c2 l):jT D 61 [.slice A n c,.slice B m c2] L s (.bool true):=by
 have hn:=hA.1;have hq1:=hA.2.1;have hq2:=hA.2.2.1;have hm:=hB.1;obtain rfl:n=m:=O
 refine jn (fn:=f61) jb func61 V Z ntmps61 Z (rs:=[.tmp 4]) Z [(0,_),(1,_)] Z<|mY ?_;refine X33 ?_;refine lJ (γ:=Nat) (λk=>[(0,_),(1,_),(4,_),(5,iB (k:Int))]) (λ_=>_) (λk tw=>Le D s tw/\(k<=n)) (λk=>n - k) (λ_ _ _ h hl=>⟨h.1.trans hl,h.2⟩) 0 (.c4 Z Z Z Z (.nil _)) Z ⟨Le.refl _,aB _⟩ ?_;intro k s1 I1;have ko:=I1.2;refine J9 ?_ ?_<;>intro c2
 .have hk:k < n:=O
  obtain ⟨e,b,off,x,A1,n1,p1,A2,n2,p2,A3,n3,p3,hd,rfl,hx,hcx,ha1,ha2,ha3,kL⟩:=jo.at_ (hA.le I1.1) hk;obtain ⟨e2,b2,off2,y,B1,m1,u1,B2,m2,u2,B3,m3,u3,yl,rfl,hy,hcy,pr,tV,y9,hny⟩:=jo.at_ (hB.le I1.1) hk;obtain rfl:x=y:=cM (hx.symm.trans hy);refine G8 ?_;refine iA (jK Y6 hk) Z<|iA (ku Y3 (hcx.le (Lr D)) Z) Z<|jh Z [_,_,_,_,_] Y2 λβ3 s3 h3=>Wt 0 [_,_,_,_,_] Y9<|G6 ?_;refine iA (jK Y6 hk) Z<|iA (ku Y3 (hcy.le h3) Z) Z<|jh Z [_,_,_,_,_] Y2 λt4 s4 h4=>Wt 0 [_,_,_,_,_] Y9<|G8 ?_;refine X24 ?_;have e4:=h3.t h4;refine Jc Y3 (T8 e _ _ e2 A1 B1 n1 m1 p1 u1 x.exprs (ha1.le e4) (pr.le e4)) ?_;rintro _ _ s5 h5 ⟨rfl,rfl⟩;refine Zg Z Z<|AM Z Z<|lw ?_;refine Jc Y3 (ih e hd _ _ e2 A2 B2 n2 m2 p2 u2 x.body (ha2.le (e4.t h5)) (tV.le (e4.t h5))) ?_;rintro _ _ s6 h6 ⟨rfl,rfl⟩;refine Zg Z Z<|AM Z Z<|lw ?_;refine Jc Y3 (ih e hd _ _ e2 A3 B3 n3 m3 p3 u3 x.els (ha3.le (e4.t h5|>.t h6)) (y9.le (e4.t h5|>.t h6))) ?_;rintro _ _ s7 h7 ⟨rfl,rfl⟩;refine Zg Z Z<|AM Z Z<|G9 ?_;refine kq Y3 (jq O O)<|G2 ?_;refine iU ⟨(k+1),[_,_],kp,Z,⟨(I1.1.t h3|>.t h4|>.t h5|>.t h6|>.t h7),(show k+1<=n by omega)⟩,O⟩
 exact Xv
def qoI{D:Nat}:∀ d,Wo D d
 | 0=>λL s d2 A B n m c c2 l hA hB=>h_ (λe h=>O) hA hB
 | d+1=>λL s d2 A B n m c c2 l hA hB=>h_ (d:=d+1) (λe h=>(show d=e by omega)▸qoI d) hA hB
def qwp(d:Nat)(p:jc)(jF:ja s Ag ng cg p.o)(jX:jl d s Af nf cf p.funcs)(d2:Nat){Bg Bf:iE}{mg eg mf ef:Nat}(hGl2:ja s Bg mg eg p.o)(hFn2:jl d2 s Bf mf ef p.funcs):jT D 23 [.agg #[.slice Ag ng cg,.slice Af nf cf],.agg #[.slice Bg mg eg,.slice Bf mf ef]] L s (.bool true):=by
 have hn:=jF.1;have hq1:=jF.2.1;have hq2:=jF.2.2.1;have hm:=hGl2.1;obtain rfl:ng=mg:=O
 have yp:=jX.1;have hq3:=jX.2.1;have hq4:=jX.2.2.1;have vR:=hFn2.1;obtain rfl:nf=mf:=O
 refine jn (fn:=f23) jb func23 V Z ntmps23 Z (rs:=[.tmp 4]) Z [(0,_),(1,_)] Z<|Sr<|kF Y2 λβ1 s1 h1=>kF Y2 λβ2 s2 h2=>mY ?_;refine iA (kK (v':=.bool false) (rD Z Z) (bF Z)) Z<|rH ?_;refine X33 ?_;refine Zp ?_;have e2:=h1.t h2;refine lJ (γ:=Nat) (λk=>[(2,_),(3,_),(4,_),(5,iB (k:Int))]) (λ_=>_) (λk tw=>Le D s2 tw/\(k<=ng)) (λk=>ng - k) (λ_ _ _ h hl=>⟨h.1.trans hl,h.2⟩) 0 (.c4 Z Z Z Z (.nil _)) Z ⟨Le.refl _,aB _⟩ ?_;intro k s3 I3;have e3:=e2.t I3.1;have ko:=I3.2;refine tQ ?_ ?_<;>intro c4
 .have hk:k < ng:=O
  obtain ⟨b,off,x,A1,n1,p1,rfl,hx,hcx,hax,oI,kL⟩:=ja.at_ (jF.le e3) hk;obtain ⟨b2,off2,y,B1,m1,p2,rfl,hy,hcy,hay,pK,hny⟩:=ja.at_ (hGl2.le e3) hk;obtain rfl:x=y:=cM (hx.symm.trans hy);refine G9 ?_;refine iA (jK Y6 hk) Z<|iA (ku Y3 (hcx.le (Lr D)) Z) Z<|jh Z [_,_,_,_] Y2 λt5 s5 h5=>Wt 0 [_,_,_,_] Y9<|G7 ?_;refine iA (jK Y6 hk) Z<|iA (ku Y3 (hcy.le h5) Z) Z<|jh Z [_,_,_,_] Y2 λt6 s6 h6=>Wt 0 [_,_,_,_] Y9<|G8 ?_;refine X24 ?_;refine X34 ?_;refine Jc Y3 (AC.isT (qme (hax.le (h5.t h6)) (hay.le (h5.t h6))) Z) ?_;rintro _ _ s7 h7 ⟨rfl,rfl⟩;refine Zg Z Z<|AM Z Z<|G9 ?_;refine kq Y3 (jq O O)<|G2 ?_;refine iU ⟨(k+1),[_,_],kp,Z,⟨(I3.1.t h5|>.t h6|>.t h7),(show k+1<=ng by omega)⟩,O⟩
 refine mY ?_;refine lJ (γ:=Nat) (λk=>[(2,_),(3,_),(4,_),(8,iB (k:Int))]) (λ_=>_) (λk tw=>Le D s3 tw/\(k<=nf)) (λk=>nf - k) (λ_ _ _ h hl=>⟨h.1.trans hl,h.2⟩) 0 (.c4 Z Z Z Z (.nil _)) Z ⟨Le.refl _,aB _⟩ ?_;intro k s5 I5;have ko:=I5.2;refine tQ ?_ ?_<;>intro c6
 .have hk:k < nf:=O
  obtain ⟨b,off,x,A1,n1,p1,A2,n2,p2,A3,n3,p3,rfl,hx,hcx,ha1,ha2,ha3,kL⟩:=jl.at_ (jX.le (e3.t I5.1)) hk;obtain ⟨b2,off2,y,B1,m1,u1,B2,m2,u2,B3,m3,u3,rfl,hy,hcy,pr,tV,y9,hny⟩:=jl.at_ (hFn2.le (e3.t I5.1)) hk;obtain rfl:x=y:=cM (hx.symm.trans hy);refine G9 ?_;refine iA (jK Y6 hk) Z<|iA (ku Y3 (hcx.le (Lr D)) Z) Z<|jh Z [_,_,_,_] Y2 λd7 s7 h7=>Wt 0 [_,_,_,_] Y9<|G7 ?_;refine iA (jK Y6 hk) Z<|iA (ku Y3 (hcy.le h7) Z) Z<|jh Z [_,_,_,_] Y2 λt8 s8 h8=>Wt 0 [_,_,_,_] Y9<|G8 ?_;refine iA (kK (v':=.bool false) (KO Z Z) (bF Z)) Z<|lM ?_;refine Jc Y3 (AC.isT (H' (ha1.le (h7.t h8)) (pr.le (h7.t h8))) Z) ?_;rintro _ _ s9 h9 ⟨rfl,rfl⟩;have e9:=h7.t h8|>.t h9;refine Zg Z Z<|AM Z Z<|lw ?_;refine Jc Y3 (AC.isT (H' (ha2.le e9) (tV.le e9)) Z) ?_;rintro _ _ kH jG ⟨rfl,rfl⟩;refine Zg Z Z<|AM Z Z<|lw ?_;refine Jc Y3 (qoI d _ _ d2 A3 B3 n3 m3 p3 u3 x.body (ha3.le (e9.t jG)) (y9.le (e9.t jG))) ?_;rintro _ _ kz jM ⟨rfl,rfl⟩;refine Zg Z Z<|AM Z Z<|G9 ?_;refine kq Y3 (jq O O)<|G2 ?_;refine iU ⟨(k+1),[_,_],kp,Z,⟨(I5.1.t h7|>.t h8|>.t h9|>.t jG|>.t jM),(show k+1<=nf by omega)⟩,O⟩
 refine lw ?_;exact rX [_,_] L Z (e3.t I5.1) λ_ iD=>qH
end
end Go.Proofs.YtemgonlhniicbaaGreatDoor
