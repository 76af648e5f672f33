/- Part 11. -/
import Derived.Test.YtapeaicongaggaaGreatDoorQ41z10
import Derived.Lay
import Derived.Stop.LaidErr
import Derived.Test.YtapeaicongaggaaGreatDoorCards
import Derived.Test.YtapeaicongaggaaGreatDoorTie
set_option linter.unusedSectionVars false
set_option linter.unusedVariables false
set_option linter.defProp false
set_option linter.unusedSimpArgs false
set_option linter.unnecessarySimpa false
set_option maxRecDepth 100000
set_option maxHeartbeats 8000000
namespace Go.Proofs.YtapeaicongaggaaGreatDoor
open Go Go.RowKit Go.Proofs.Tryz
def gq:=@MakeChecks.laidMetH_plain
def gV:=@List.length_eq_one_iff
variable{c vs c' w c'' c1:LInt9}{ls:List iR}{n a q D kk F lp j k2 C C' e q1 w' a' q' j0 lv kl:Nat}{x:iT}{m m2 m1:MS}{nm:iR}{s W W':World}{b ret o b' v nu av' kd d:Int}{l:List (iR×Int)}{y z:Ex}{r:ER (Int×Int)}{A A1 A2:OAdr9}{az:List Ex}{P:Program}{B E:List jb}{L:Hl}{s1 s2 s0:lj}{p:ja}{tb:TypeId}{fn:Func}
section
variable{inp:iR}{k i σ:Nat}{g:jM}{s:lj}
def S3{n:iR}(h:Bi n=true):n≠[]/\n≠pB/\n≠so/\yi n=false:=by
 exact IH
def qrA{n:iR}(h:zQ n=true):n≠[]/\n≠rF/\yi n=false:=by
 simp only [zQ,aA,dD] at h;exact ⟨(yb h.1.1.1).1,λe=>by rw [e] at h;exact absurd h.2 Dc,h.2⟩
def qzC{y:Li}(h:tR y):pC ji w (oJ y)=w++pj (λ_=>0) y:=by
  cases y with
  | op n=>
    obtain ⟨h1,h2,h3⟩:=qrA h;simp [pC,oJ,pz,h1,h2,h3,pj]
  | ref n a=>
    obtain ⟨h1,h2,h3,h4⟩:=S3 h.1;simp [pC,oJ,pz,h1,show n≠rF from h3,h4,pj]
  | num n v=>
    obtain ⟨h0|rfl|rfl,hv⟩:=h
    . obtain ⟨h1,h2,h3,h4⟩:=S3 h0
      simp [pC,oJ,pz,h1,show n≠rF from h3,h4,pj,h2,h3]
    . simp [pC,oJ,pz,pj,show ¬ pB=rF by decide,show yi pB=true by decide]
    . simp [pC,oJ,pz,pj,show so=rF from rfl,show ¬ rF=pB by decide,show ¬ rF=[] by decide]
  | lab a=>simp [pC,oJ,pj]
def Fc(i:Int)(p:Nat):Li->List (Int×Nat×iR×Int)
 | .ref _ a=>[(i,p+1,a,0)]
 | _=>[]
def qzA{r:List (Int×Nat×iR×Int)}{i:Int}{y:Li}(h:tR y):tS ji w r i (oJ y)=r++Fc i w.length y:=by
 cases y with
 | op n=>
  obtain ⟨h1,h2,h3⟩:=qrA h;simp [tS,oJ,sp,h1,h2,Fc]
 | ref n a=>
  obtain ⟨h1,h2,h3,h4⟩:=S3 h.1;simp [tS,oJ,sp,h1,show n≠rF from h3,h4,Fc,(yb h.2).1]
 | num n v=>simp [tS,oJ,sp,Fc]
 | lab a=>simp [tS,oJ,Fc]
def DN:Nat->Nat->List Li->List (Int×Nat×iR×Int)
 | _,_,[]=>[]
 | i,p,y::L=>Fc (i:Int) p y++DN (i+1) (p+qH y) L
def LB(l:List (iR×Int)):Nat->List Li->Prop
 | _,[]=>True
 | p,y::L=>(∀ a,y=.lab a->ml l a=some (p:Int))/\LB l (p+qH y) L
def qq8{x:iR×Int}{a:iR}(h:ml l a=some v):ml (l++[x]) a=some v:=by
 induction l with
 | nil=>cases h
 | cons y l ih=>
  simp only [ao,ml] at h ⊢;split
  . rename_i e;rw [aw e] at h;exact h
  . rename_i e;rw [am e] at h;exact ih h
def qq9{a:iR}(h:ml l a=none):ml (l++[(a,v)]) a=some v:=by
 induction l with
 | nil=>simp [ml]
 | cons y l ih=>
  simp only [ao,ml] at h ⊢;split
  . rename_i e;rw [aw e] at h;cases h
  . rename_i e;rw [am e] at h;exact ih h
def ZN:∀ (L:List Li) (i:Nat) (w:LInt9) (l:List (iR×Int)) (r:List (Int×Nat×iR×Int)),(∀ y∈L,tR y)->(mJ L).Nodup->(∀ a∈mJ L,ml l a=none)->w.length+cW L<=65536 ->
    ∃ l',uY ji i w l r (splitB 10 (cT L))=.inr (w++L.flatMap (pj λ_=>0),l',r++DN i w.length L)/\(∀ a v,ml l a=some v->ml l' a=some v)/\LB l' w.length L
  | [],i,w,l,r,_,_,_,_=>⟨l,by rw [lz,qpY];simp [DN],λ_ _ h=>h,trivial⟩
  | y::L,i,w,l,r,hk,hn,hf,hw=>by
    have hy:=hk y Mc;obtain ⟨h1,h2⟩:=qrc hy;have e1:mJ (y::L)=mJ [y]++mJ L:=by rw [mJ,mJ,mJ,<- dw];rfl
    rw [e1] at hn hf;rw [cW,aS,dW] at hw;rw [bL] at hn;have hf1:∀ a,y=.lab a->ml l a=none:=λa e=>hf a (by subst e;simp [mJ]);have hs:splitB 10 (cT (y::L))=wy y::splitB 10 (cT L):=by
      have:=YM (c:=10) h2 [] (cT L);rw [kZ,yY,an];exact this
    have hg:=Yq (w:=w) hy hf1;have hl:=Sw (w:=w) hy;obtain ⟨l',h3,h4,h5⟩:=ZN L (i+1) (pC ji w (oJ y)) (xC w l (oJ y)) (tS ji w r i (oJ y)) (λz hz=>hk z (aq _ hz)) hn.2.1 (λa ha=>by
      have:=hg a;rw [hf a (aJ _ ha),show (mJ [y]).contains a=false by rw [<- Bool.not_eq_true,fh];exact λh=>hn.2.2 a h a ha rfl] at this;simpa using this) (by rw [hl,cW];omega)
    refine ⟨l',?_,λa v ha=>h4 a v ?_,λa e=>h4 a _ ?_,by rw [hl] at h5;exact h5⟩
    . rw [hs,MW h1 (ZH hy hf1 O),h3,hl,qzC hy,qzA hy]
      simp [DN,an]
    . unfold xC;split
      . exact ha
      . exact qq8 ha
    . subst e
      have h6:=(yb (show nJ a=true from hy)).1;simp only [xC,oJ,h6,cm];exact qq9 (hf1 a rfl)
def LB.some{l:List (iR×Int)}:∀ {L:List Li} {p:Nat},LB l p L->∀ a∈mJ L,∃ v:Nat,ml l a=some (v:Int)/\v<=p+cW L
  | [],_,_,a,h=>by cases h
  | y::L,p,h,a,ha=>by
    have e1:mJ (y::L)=mJ [y]++mJ L:=by rw [mJ,mJ,mJ,<- dw];rfl
    rw [e1,aU] at ha;rw [cW,aS,dW];rcases ha with ha|ha
    . cases y with
      | lab b=>rw [show mJ [Li.lab b]=[b] from rfl,aV] at ha;subst ha;exact ⟨p,h.1 _ rfl,by omega⟩
      | _=>cases ha
    . obtain ⟨v,h1,h2⟩:=h.2.some a ha
      exact ⟨v,h1,by rw [cW] at h2;omega⟩
def Z4{l:List (iR×Int)}:∀ (L:List Li) (i:Nat) (A:LInt9),(∀ a∈rl L,∃ v:Nat,ml l a=some (v:Int)/\v<=65536)->vM l (DN i A.length L) (A++L.flatMap (pj λ_=>0))=.inr (A++L.flatMap (pj λa=>(ml l a).getD 0))
 | [],_,A,_=>rfl
 | y::L,i,A,h=>by
  have e2:rl (y::L)=rl [y]++rl L:=by rw [rl,rl,rl,<- dw];rfl
  have ih:=λA=>Z4 L (i+1) A λa ha=>h a (by rw [e2];exact aJ _ ha);have hsame:Fc (i:Int) A.length y=[]->pj (λ_=>0) y=pj (λa=>(ml l a).getD 0) y->vM l (DN i A.length (y::L)) (A++(y::L).flatMap (pj λ_=>0))=.inr (A++(y::L).flatMap (pj λa=>(ml l a).getD 0)):=λe3 e4=>by
   have:=ih (A++pj (λ_=>0) y);rw [ac,EN,an,an] at this;rw [DN,e3,aD,dj,dj,this,e4]
  cases y with
  | ref n a=>
   obtain ⟨v,h1,h2⟩:=h a (by rw [e2];exact aN _ (by simp [rl]));have e5:(A++(Li.ref n a::L).flatMap (pj λ_=>0)).getD (A.length+1) 0=0:=by
    simp [dj,pj,aY]
   have e6:(A++(Li.ref n a::L).flatMap (pj λ_=>0)).set (A.length+1) (v:Int)=(A++[wE ji n,(v:Int)])++L.flatMap (pj λ_=>0):=by
    simp [dj,pj,List.set_append_right]
   have e7:lK (0+(v:Int))=v:=by unfold lK;omega
   have:=ih (A++[wE ji n,(v:Int)]);rw [ac,an,an] at this;show vM l ((((i:Nat):Int),A.length+1,a,0)::DN (i+1) (A.length+2) L) _=_;rw [vM];simp only [h1,e5,e7,e6];rw [an];refine this.trans ?_;simp [dj,pj,h1]
  | op n=>exact hsame rfl rfl
  | num n v=>exact hsame rfl rfl
  | lab b=>exact hsame rfl rfl
def qqh{l:List (iR×Int)}{T:LInt9}:∀ (L:List Li) (A:LInt9),LB l A.length L->Cd (A++L.flatMap (pj λa=>(ml l a).getD 0)++T) (λa=>(ml l a).getD 0) A.length L (A.length+cW L)
  | [],A,_=>by simp [Cd,cW]
  | y::L,A,h=>by
    have ih:=qqh (l:=l) (T:=T) L (A++pj (λa=>(ml l a).getD 0) y);rw [ac,EN] at ih;refine ⟨λk v hk=>?_,λa e=>by show (ml l a).getD 0=_;rw [h.1 a e];rfl,?_⟩
    . have hl:=(al.1 hk).1
      rw [dj,an,aY O,Nat.add_sub_cancel_left,an,aR hl];exact hk
    . have:=ih h.2
      rw [dj,cW,aS,dW,<- dV,<- an];exact this
def qFn{L:List Li}(hk:∀ y∈L,tR y)(hn:(mJ L).Nodup)(hr:∀ a∈rl L,a∈mJ L)(hw:cW L<=65536)(hl:(cT L).length<=400000):∃ w l lab,sr ji (cT L)=.inr (w,l)/\w.length=cW L/\(∀ T,Cd (w++T) lab 0 L (cW L)):=by
 obtain ⟨l,h1,_,h3⟩:=ZN L 0 [] [] [] hk hn (λ_ _=>rfl) (by simpa using hw);have h4:=Z4 (l:=l) L 0 [] λa ha=>by
  obtain ⟨v,h5,h6⟩:=h3.some a (hr a ha);exact ⟨v,h5,by simp only [ap] at h6;omega⟩
 refine ⟨_,l,λa=>(ml l a).getD 0,by rw [sr,am (by simpa using To),am O,h1];simp only [aD] at h4 ⊢;simp only [h4];rfl,?_,λT=>by simpa using qqh (T:=T) L [] h3⟩;rw [List.length_flatMap,cW];exact bj List.sum (List.map_congr_left λy _=>EN _ y)
def qxO{α:Type}{nm:iR}(nf:α->iR)(c:Int)(f:Nat->Int):∀ (l:List α) (k:Nat),mr (l.mapIdx λi y=>(nf y,(c,f (k+i)))) nm=if 0<=kM (λy=>decide (nf y=nm)) l k then some (f (kM (λy=>decide (nf y=nm)) l k).toNat) else none
  | [],k=>by simp [mr,kM]
  | y::l,k=>by
    rw [List.mapIdx_cons,mr,List.find?_cons];by_cases h:nf y=nm
    . simp [h,kM]
    . have ih:=qxO (nm:=nm) nf c f l (k+1)
      simp only [eX k 1] at ih;simp only [h,iy,kM,dr,cm];rw [<- ih,mr];simp only [dV,eO 1]
def JR{α:Type}(nf:α->iR)(c:Int)(f:Nat->Int)(l:List α):mr (l.mapIdx λi y=>(nf y,(c,f i))) nm=if 0<=kM (λy=>decide (nf y=nm)) l 0 then some (f (kM (λy=>decide (nf y=nm)) l 0).toNat) else none:=by
 simpa using qxO (nm:=nm) nf c f l 0
theorem qF1{A B:List (iR×(Int×Int))}:mr (A++B) nm=(mr A nm).or (mr B nm):=by grind [mr]
def NZ{α:Type}{q:α->Bool}:∀ {l:List α} {k:Nat},kM q l k < (k+l.length:Nat)
 | [],k=>by simp [kM];omega
 | x::r,k=>by
  have:=NZ (q:=q) (l:=r) (k:=k+1);simp only [kM,au];split<;>omega
def Of{α:Type}{q:α->Bool}:∀ {l:List α} {k:Nat},0<=kM q l k->(k:Int)<=kM q l k/\∃ y,l[(kM q l k).toNat - k]?=some y/\q y=true
  | [],k,h=>by simp [kM] at h
  | x::r,k,h=>by
    simp only [kM] at h ⊢;split
    . rename_i h1;exact ⟨it _,x,by simp,h1⟩
    . rename_i h1
      rw [am h1] at h;obtain ⟨h2,y,h3,h4⟩:=Of h;refine ⟨by omega,y,?_,h4⟩;rw [show (kM q r (k+1)).toNat - k=(kM q r (k+1)).toNat - (k+1)+1 by omega,bH,h3]
def vY(x:iT)(k:Nat):Nat:=if k < x.params.length then k else k+1
def qr7(hn:(x.params++x.locals).Nodup):mr (sE x) nm=if 0<=ld x nm then some (vY x (ld x nm).toNat:Int) else none:=by
  have e1:(λy:iR=>decide (nm=y))=λy=>decide (y=nm):=by funext y;simp [eq_comm]
  have l1:=NZ (q:=λy:iR=>decide (y=nm)) (l:=x.params) (k:=0);rw [sE,qF1,JR (nm:=nm) (λy:iR=>y) 2 (λi=>((x.params.length+1+i:Nat):Int)),JR (nm:=nm) (λy:iR=>y) 1 (λi=>(i:Int)),ld,e1];by_cases hp:0<=kM (λy:iR=>decide (y=nm)) x.params 0
  . have hl:¬ 0<=kM (λy:iR=>decide (y=nm)) x.locals 0:=λhl=>by
      obtain ⟨_,y,h1,h2⟩:=Of hp;obtain ⟨_,z,h3,h4⟩:=Of hl;have h2:=cU h2;have h4:=cU h4;subst h2;rw [bL] at hn;exact hn.2.2 _ (ay h1) _ (ay h3) h4.symm
    rw [aw hp,am hl,aw hp,aw hp,ir];congr 1;unfold vY;rw [aw O]
  . rw [am hp,am hp,Option.or_none]
    by_cases hl:0<=kM (λy:iR=>decide (y=nm)) x.locals 0
    . rw [aw hl,aw hl,aw O]
      congr 1;unfold vY;rw [am O];omega
    . rw [am hl,am hl,am O]
def qIY(h:∃ a,mr (gE p) nm=some a):gi p nm=nS p nm/\0<=nS p nm:=by
 have e:=JR (nm:=nm) jM.name 3 (λi=>(i:Int)) p.o;obtain ⟨a,ha⟩:=h;rw [gi];unfold nS;rw [show mr (gE p) nm=_ from e] at ha ⊢;split at ha
 . rename_i h1;rw [aw h1];exact ⟨by show ((kM _ _ _).toNat:Int)=_;omega,h1⟩
 . cases ha
def qIW(h:∃ a,mr (fE p) nm=some a):fi p nm=uJ p nm/\0<=uJ p nm:=by
 have e:=JR (nm:=nm) iT.name 4 (λi=>(i:Int)) p.funcs;obtain ⟨a,ha⟩:=h;rw [fi];unfold uJ;rw [show mr (fE p) nm=_ from e] at ha ⊢;split at ha
 . rename_i h1;rw [aw h1];exact ⟨by show ((kM _ _ _).toNat:Int)=_;omega,h1⟩
 . cases ha
structure Im where
 p:ja
 OP:Int->Int->Int->Option Int
 af:LInt9
 lab:iR->Int
 G:Nat
 H:Nat
 ga:Nat->Nat
variable{I:Im}
def qB(g:jM):Nat:=(max g.num 1).toNat
structure Im.OK(I:Im):Prop where
 code:∀ (i:Nat) (x:iT),I.p.funcs[i]?=some x->∃ a b k:Nat,I.lab (fT (i:Int))=(a:Int)/\Cd I.af I.lab a (cF I.p x i k).1 b/\b<=I.G
 ah:∀ (i:Nat) (g:jM),I.p.o[i]?=some g->g.kind≠1->I.lab (gT (i:Int))=(I.ga i:Int)/\I.G<=I.ga i/\I.ga i+qB g<=I.H
 sep:∀ (i j:Nat) (g h:jM),I.p.o[i]?=some g->I.p.o[j]?=some h->i < j->g.kind≠1->h.kind≠1->I.ga i+qB g<=I.ga j
 ai:I.H<=49152
 gh:I.G<=I.H
 gk:∀ (i:Nat) (g:jM),I.p.o[i]?=some g->1<=g.kind/\g.kind<=3/\iY g.num
 fn:∀ x∈I.p.funcs,PQ I.p x/\(x.params++x.locals).Nodup
structure MR(I:Im)(c:LInt9)(m:MS):Prop where
 len:c.length=65536
 code:∀ k:Nat,k < I.G->c[k]?=I.af[k]?
 var:∀ (i:Nat) (g:jM),I.p.o[i]?=some g->g.kind=2->∃ v,m.ah[i]?=some v/\iY v/\c[I.ga i]?=some v
 ae:∀ (i:Nat) (g:jM),I.p.o[i]?=some g->g.kind=3->∃ l,m.ae[i]?=some l/\(l.length:Int)=g.num/\∀ (j:Nat) (v:Int),l[j]?=some v->iY v/\c[I.ga i+j]?=some v
 calls:m.calls<=100
 out:m.out.length<=20000
structure FR(x:iT)(F:Nat)(c:LInt9)(frm:LInt9):Prop where
 len:frm.length=x.params.length+x.locals.length
 at_:∀ (k:Nat) (v:Int),frm[k]?=some v->iY v/\c[F+vY x k]?=some v
def SK(I:Im)(c c':LInt9)(C:Nat):Prop:=∀ k:Nat,I.H<=k->k < C->c'[k]?=c[k]?
def uN(σ:Nat)(s:lj)(m m':MS)(st cd:Int):Prop:=∃ k s',mb s k s'/\s'.output=m'.out/\s'.stop=st/\(st≠0->s'.code=cd)/\k+40 * m'.left<=40 * m.left/\m.left<=m'.left+40 * k+σ/\(st=0->m'.left=0)
def EK(I:Im)(τ:Nat)(s:lj)(c:LInt9)(C q:Nat)(m:MS)(v:Int)(m':MS):Prop:=∃ k c' b',mb s k (ms c' v b' (C:Int) (m'.calls:Int) (q:Int) m'.inp m'.out)/\MR I c' m'/\SK I c c' C/\m'.frm=m.frm/\m'.calls=m.calls/\iY v/\k+τ+40 * m'.left<=40 * m.left/\m.left<=m'.left+40 * k
def OE(I:Im)(τ σ:Nat)(s:lj)(c:LInt9)(C q:Nat)(m:MS):ER Int->Prop
 | .out=>True
 | .fin m' st cd=>uN σ s m m' st cd
 | .ok v m'=>EK I τ s c C q m v m'
def SK.refl:SK I c c C:=λ_ _ _=>rfl
def SK.trans(h:SK I c c' C)(h':SK I c' c'' C')(hC:C<=C'):SK I c c'' C:=λk h1 h2=>(h' k h1 O).trans (h k h1 h2)
def SK.le(h:SK I c c' C)(hC:C'<=C):SK I c c' C':=λk h1 h2=>h k h1 O
def SK.set(hq:q < I.H\/C<=q):SK I c (c.set q v) C:=λk h1 h2=>bl O
def S8(h:k < x.params.length+x.locals.length):vY x k < jt x:=by unfold vY jt;split<;>omega
def FR.keep{frm:LInt9}(h:FR x F c frm)(k:SK I c c' C)(hF:I.H<=F)(hC:F+jt x<=C):FR x F c' frm:=
 ⟨h.len,λj v hj=>by
  have h1:=(al.1 hj).1;have h2:=S8 (x:=x) (k:=j) (by rw [<- h.len];exact h1);exact ⟨(h.at_ j v hj).1,(k _ O O).trans (h.at_ j v hj).2⟩⟩
def MR.push{I:Im}(h:MR I c m)(hI:I.OK)(hq:I.H<=q):MR I (c.set q v) m where
 len:=by rw [cR];exact h.len
 code k hk:=by
  have:=hI.gh;rw [bl O];exact h.code k hk
 var i g hg hk:=by
  obtain ⟨w,h1,h2,h3⟩:=h.var i g hg hk;obtain ⟨_,h5,h6⟩:=hI.ah i g hg O;exact ⟨w,h1,h2,by rw [bl (by unfold qB at h6;omega)];exact h3⟩
 ae i g hg hk:=by
  obtain ⟨l,h1,h2,h3⟩:=h.ae i g hg hk;obtain ⟨_,h5,h6⟩:=hI.ah i g hg O;refine ⟨l,h1,h2,λj w hj=>⟨(h3 j w hj).1,?_⟩⟩;have h7:=(al.1 hj).1;rw [bl (by unfold qB at h6;omega)];exact (h3 j w hj).2
 calls:=h.calls
 out:=h.out
def V3{p:Prop} (h:p:=by
 rcases Nat.lt_or_gt_of_ne e with h8|h8
 . have:=hI.sep j i g' g w8 hg h8 O O;unfold qB at this;omega
 . have:=hI.sep i j g g' hg w8 h8 O O;unfold qB at this;omega):p:=h
def MR.setVar(h:MR I c m)(hI:I.OK)(hg:I.p.o[i]?=some g)(hk:g.kind=2)(hv:iY v):MR I (c.set (I.ga i) v) { m with ah:=m.ah.set i v } where
  len:=by rw [cR];exact h.len
  code k hk:=by
    obtain ⟨_,h5,h6⟩:=hI.ah i g hg O;rw [bl O];exact h.code k hk
  var j g' w8 rW:=by
    obtain ⟨w,h1,h2,h3⟩:=h.var j g' w8 rW;by_cases e:j=i
    . subst e
      have h4:=(al.1 h3).1;have h5:=(al.1 h1).1;exact ⟨v,bK h5,hv,bK h4⟩
    . have h7:I.ga i≠I.ga j:=by
        exact V3
      exact ⟨w,(bl (λe'=>e e'.symm)).trans h1,h2,(bl h7).trans h3⟩
  ae j g' w8 rW:=by
    obtain ⟨l,h1,h2,h3⟩:=h.ae j g' w8 rW;refine ⟨l,h1,h2,λk w hw=>⟨(h3 k w hw).1,?_⟩⟩;have h9:=(al.1 hw).1;have h7:I.ga i≠I.ga j+k:=by
      have e:j≠i:=λe=>by subst e;rw [hg] at w8;cases w8;omega
      exact V3
    exact (bl h7).trans (h3 k w hw).2
  calls:=h.calls
  out:=h.out
def IM{p:Prop} (h:p:=by
 rcases Nat.lt_or_gt_of_ne e' with h8|h8
 . have:=hI.sep j i g' g w8 hg h8 O O;unfold qB at this;omega
 . have:=hI.sep i j g g' hg w8 h8 O O;unfold qB at this;omega):p:=h
def MR.setArr(h:MR I c m)(hI:I.OK)(hg:I.p.o[i]?=some g)(hk:g.kind=3){l:LInt9}(hl:m.ae[i]?=some l)(he:e < l.length)(hv:iY v):MR I (c.set (I.ga i+e) v) { m with ae:=m.ae.set i (l.set e v) } where
  len:=by rw [cR];exact h.len
  code k hk:=by
    obtain ⟨_,h5,h6⟩:=hI.ah i g hg O;rw [bl O];exact h.code k hk
  var j g' w8 rW:=by
    obtain ⟨w,h1,h2,h3⟩:=h.var j g' w8 rW;obtain ⟨l',jN,jP,_⟩:=h.ae i g hg hk;rw [hl] at jN;cases jN;have e':j≠i:=λe=>by subst e;rw [hg] at w8;cases w8;omega
    have h7:I.ga i+e≠I.ga j:=by
      exact IM
    exact ⟨w,h1,h2,(bl h7).trans h3⟩
  ae j g' w8 rW:=by
    obtain ⟨l',h1,h2,h3⟩:=h.ae j g' w8 rW;have hli:=(al.1 hl).1;by_cases e':j=i
    . subst e'
      rw [hl] at h1;cases h1;refine ⟨l.set e v,bK hli,by rw [cR];exact h2,λk w hw=>?_⟩;by_cases ek:k=e
      . subst ek
        rw [bK he] at hw;cases hw;obtain ⟨_,h8⟩:=h3 k _ (ax he);exact ⟨hv,bK (al.1 h8).1⟩
      . rw [bl (λh=>ek h.symm)] at hw
        exact ⟨(h3 k w hw).1,(bl O).trans (h3 k w hw).2⟩
    . obtain ⟨l2,jN,jP,_⟩:=h.ae i g hg hk
      rw [hl] at jN;cases jN;refine ⟨l',(bl (λe=>e' e.symm)).trans h1,h2,λk w hw=>⟨(h3 k w hw).1,?_⟩⟩;have h9:=(al.1 hw).1;have h7:I.ga i+e≠I.ga j+k:=by
        exact IM
      exact (bl h7).trans (h3 k w hw).2
  calls:=h.calls
  out:=h.out
def Ko{uk na:Int}(h:pF p x (nm,uk,na)=0)(h0:uk≠0):(0<=ld x nm/\(uk=1\/uk=2))\/(¬ 0<=ld x nm/\((∃ (i:Nat) (g:jM),gi p nm=(i:Int)/\nS p nm=(i:Int)/\p.o[i]?=some g/\((g.kind=1/\uk=2)\/(g.kind=2/\(uk=1\/uk=2))\/(g.kind≠1/\g.kind≠2/\uk=3)))\/(uk=4/\∃ (i:Nat) (f:iT),fi p nm=(i:Int)/\uJ p nm=(i:Int)/\p.funcs[i]?=some f/\(f.params.length:Int)=na))):=by
  unfold pF at h;rw [am h0] at h;split at h
  . cases h
  rename_i h1;split at h
  . cases h
  rename_i h2;have h2:=ff.1 h2;split at h
  . cases h
  rename_i h3;simp only at h1 h2 h3;unfold ld;by_cases hp:0<=kM (λy=>decide (nm=y)) x.params 0
  . have hm:(kR p x nm).1.1=1:=by rw [kR,aw hp]
    rw [hm] at h2;rw [aw hp];exact .inl ⟨hp,by rcases h2 with h2|h2|h2<;>omega⟩
  by_cases hl:0<=kM (λy=>decide (nm=y)) x.locals 0
  . have hm:(kR p x nm).1.1=2:=by rw [kR,am hp,aw hl]
    rw [hm] at h2;rw [am hp,aw hl];exact .inl ⟨by omega,by rcases h2 with h2|h2|h2<;>omega⟩
  refine .inr ⟨by rw [am hp,am hl];omega,?_⟩;have hm:kR p x nm=match (kW p).find? λe=>decide (e.1=nm) with
      | some e=>(e.2,true)
      | none=>((0,0),false):=by rw [kR,am hp,am hl];rfl
  rw [show kW p=gE p++fE p from rfl,gB] at hm;cases hg:(gE p).find? λe=>decide (e.1=nm) with
  | some e=>
    rw [hg] at hm;have hf:mr (gE p) nm=some e.2.2:=by rw [mr,hg];rfl
    obtain ⟨g1,g2⟩:=qIY ⟨_,hf⟩;obtain ⟨i,hi,rfl⟩:=dH.1 (cM hg);have hgi:gi p nm=(i:Int):=by rw [gi,hf];rfl
    refine .inl ⟨i,p.o[i],hgi,g1▸hgi,ax hi,?_⟩;exact Wm
  | none=>
    rw [hg,ir] at hm;cases hf:(fE p).find? λe=>decide (e.1=nm) with
    | none=>rw [hf] at hm;rw [hm] at h1;exact absurd rfl h1
    | some e=>
      rw [hf] at hm;have hf':mr (fE p) nm=some e.2.2:=by rw [mr,hf];rfl
      obtain ⟨g1,g2⟩:=qIW ⟨_,hf'⟩;obtain ⟨i,hi,rfl⟩:=dH.1 (cM hf);have hfi:fi p nm=(i:Int):=by rw [fi,hf'];rfl
      rw [hm] at h2 h3;simp only [zo] at h2;simp only [NL (k:=i) rfl (ax hi)] at h3;have h4:uk=4:=by omega
      exact .inr ⟨h4,i,_,hfi,g1▸hfi,ax hi,by
        have:=ff.1 (λk=>h3 ⟨h4,k⟩);omega⟩
mutual
def dX:Ex->Nat
 | .mk _ _ _ _ az=>1+sD az
def sD:List Ex->Nat
 | []=>0
 | x::r=>max (dX x) (sD r)
end
mutual
def qC3:∀ (x:Ex) (lv c:Nat),(uL x lv c).2=0->lv+dX x<=17
 | .mk k o n nm az,lv,c,h=>by
  simp only [uL] at h;split at h
  . cases h
  rename_i h1;split at h
  . rename_i h2;exact absurd h h2
  have:=SB az (lv+1) (c+1) h;rw [dX];omega
def SB:∀ (l:List Ex) (lv c:Nat),(om l lv c).2=0->sD l=0\/lv+sD l<=17
 | [],_,_,_=>.inl rfl
 | x::r,lv,c,h=>by
  simp only [om] at h;split at h
  . rename_i h1;exact absurd h h1
  rename_i h1;have h2:=qC3 x lv c Q7;have h3:=SB r lv _ h;rw [sD];omega
end
def OE.bind{τ σ1:Nat}{C1 δ:Nat}{r:ER Int}{β:Type}{K:Int->MS->ER β}(X:ER β->Prop)(hX:X .out)(hF:∀ m' st cd,uN σ s m m' st cd->X (.fin m' st cd))(h:OE I τ σ1 s1 c1 C1 q1 m1 r)(R:mb s j s1)(h1:j+40 * m1.left<=40 * m.left)(h2:m.left<=m1.left+40 * j+δ)(h3:σ1+δ<=σ)(hK:∀ v m2,EK I τ s1 c1 C1 q1 m1 v m2->X (K v m2)):X (r.and K):=by
 cases r with
 | out=>exact hX
 | fin m' st cd=>
  obtain ⟨k,s',r1,r2,r3,r4,r5,r6,r7⟩:=h;exact hF _ _ _ ⟨j+k,s',R.trans r1,r2,r3,r4,by omega,by omega,r7⟩
 | ok v m2=>exact hK v m2 h
def n_{β:Type}{K:MS->ER β}(X:ER β->Prop)(hs:s.stop=0)(ho:s.output=m.out)(hF:∀ m' st cd,uN σ s m m' st cd->X (.fin m' st cd))(hK:m.left≠0->X (K { m with left:=m.left - 1 })):X ((vI m).and λ_ m=>K m):=by
  unfold vI;by_cases h:m.left=0
  . rw [aw h]
    exact hF _ _ _ ⟨0,s,.nil _,ho,hs,λk=>absurd rfl k,by omega,by omega,λ_=>h⟩
  . rw [am h];exact hK h
def Et(o x y:Int):Option Int:=
 if o=4 then some (jK 3 x y) else if o=5 then (if y=0 then none else some (jK 4 x y)) else if o=6 then (if y=0 then none else some (jK 5 x y))
 else if o=7 then some (jK 9 x y) else if o=8 then some (jK 10 x y) else if o=9 then some (jK 6 x y) else if o=10 then some (jK 1 x y)
 else if o=11 then some (jK 2 x y) else if o=12 then some (jK 7 x y) else if o=13 then some (jK 8 x y) else if o=14 then some (jK 11 x y)
 else if o=15 then some (if jK 11 x y=0 then 1 else 0) else if o=16 then some (jK 12 x y) else if o=17 then some (if jK 12 y x=0 then 1 else 0)
 else if o=18 then some (jK 12 y x) else some (if jK 12 x y=0 then 1 else 0)
def IR(c:LInt9)(x y:Int)(r pc q:Nat)(b d:Int)(i oo:iR):Option Int->Prop
 | some v=>iY v/\∃ k b',1<=k/\k<=2/\mb (ms c y b ((r+1:Nat):Int) d pc i oo) k (ms c v b' r d q i oo)
 | none=>∃ s',mb (ms c y b ((r+1:Nat):Int) d pc i oo) 1 s'/\s'.output=oo/\s'.stop=1/\s'.code=2
section
variable{lab:iR->Int}{x y:Int}{i oo:iR}{r pc:Nat}{n:iR}
def Vb{t:Int}:iY (if t=0 then (1:Int) else 0):=by split<;>exact ⟨by omega,by omega⟩
def zU{k j:Int}{z:Ins}{u w:Tm}(jo:Cd c lab pc ([n].map .op) q)(hr:r < 65536)(hv:c[r]?=some x)(hn:wE ji n=k)(hz:wK ji.U k=some z)(ho:z.I=false)(ha:z.ad=[⟨2,2,⟨1,2⟩,⟨0,1⟩⟩,⟨13,1,⟨1,2⟩,⟨0,0⟩⟩,⟨j,0,u,w⟩])(hj:(j<=3\/6<=j)/\j<=12)(hA:jK j (lh (ms c y x r d ((pc+1:Nat):Int) i oo) 0 u) (lh (ms c y x r d ((pc+1:Nat):Int) i oo) 0 w)=v)(hU:iY v):IR c x y r pc q b d i oo (some v):=by
 obtain ⟨h1,h2,_⟩:=jo.op;have h3:pc+1=q:=h2;rw [hn] at h1;exact ⟨hU,1,x,aC _,by omega,h3▸mb.one rfl (Xx h1 hz ho ha hj hv hr hA)⟩
def Tq{k j:Int}{z:Ins}{u w:Tm}(jo:Cd c lab pc ([n,qz].map .op) q)(hr:r < 65536)(hv:c[r]?=some x)(hn:wE ji n=k)(hz:wK ji.U k=some z)(ho:z.I=false)(ha:z.ad=[⟨2,2,⟨1,2⟩,⟨0,1⟩⟩,⟨13,1,⟨1,2⟩,⟨0,0⟩⟩,⟨j,0,u,w⟩])(hj:(j<=3\/6<=j)/\j<=12)(hA:jK j (lh (ms c y x r d ((pc+1:Nat):Int) i oo) 0 u) (lh (ms c y x r d ((pc+1:Nat):Int) i oo) 0 w)=v):IR c x y r pc q b d i oo (some (if v=0 then 1 else 0)):=by
 obtain ⟨h1,h2,_⟩:=jo.op;obtain ⟨h4,h5,_⟩:=Cd.op h2;have h3:pc+1+1=q:=h5;rw [hn] at h1;exact ⟨Vb,2,x,by omega,aC _,h3▸(mb.one rfl (Xx h1 hz ho ha hj hv hr hA)).trans (mb.one rfl (Dq h4))⟩
def qx8{k j:Int}{z:Ins}(jo:Cd c lab pc ([n].map .op) q)(hr:r < 65536)(hv:c[r]?=some x)(hn:wE ji n=k)(hz:wK ji.U k=some z)(ho:z.I=false)(ha:z.ad=[⟨2,2,⟨1,2⟩,⟨0,1⟩⟩,⟨13,1,⟨1,2⟩,⟨0,0⟩⟩,⟨18,0,⟨0,2⟩,⟨1,0⟩⟩,⟨j,0,⟨1,1⟩,⟨1,0⟩⟩])(hj:j=4\/j=5)(hU:iY (jK j x y)):IR c x y r pc q b d i oo (if y=0 then none else some (jK j x y)):=by
  obtain ⟨h1,h2,_⟩:=jo.op;have h3:pc+1=q:=h2;rw [hn] at h1;have h4:=qI6 (a:=y) (b:=b) (d:=d) (i:=i) (o:=oo) h1 hz ho ha hj hv hr;by_cases h0:y=0
  . rw [aw h0] at h4 ⊢
    exact ⟨_,mb.one rfl h4,rfl,rfl,rfl⟩
  . rw [am h0] at h4 ⊢
    exact ⟨hU,1,x,aC _,by omega,h3▸mb.one rfl h4⟩
def qGX(h4:4<=o)(uh:o<=19)(hx:iY x)(hy:iY y)(jo:Cd c lab pc ((x5 o).map .op) q)(hr:r < 65536)(hv:c[r]?=some x):IR c x y r pc q b d i oo (Et o x y):=by
 have hc:o=4\/o=5\/o=6\/o=7\/o=8\/o=9\/o=10\/o=11\/o=12\/o=13\/o=14\/o=15\/o=16\/o=17\/o=18\/o=19:=by omega
 rcases hc with rfl|rfl|rfl|rfl|rfl|rfl|rfl|rfl|rfl|rfl|rfl|rfl|rfl|rfl|rfl|rfl
 . exact zU (n:=LJ) jo hr hv rfl rfl rfl rfl Dc rfl (wC hx hy)
 . exact qx8 (n:=LH) jo hr hv rfl rfl rfl rfl Dc (wC hx hy)
 . exact qx8 (n:=LI) jo hr hv rfl rfl rfl rfl Dc (wC hx hy)
 . exact zU (n:=XH) jo hr hv rfl rfl rfl rfl Dc rfl (wC hx hy)
 . exact zU (n:=qyn) jo hr hv rfl rfl rfl rfl Dc rfl (wC hx hy)
 . exact zU (n:=LG) jo hr hv rfl rfl rfl rfl Dc rfl (wC hx hy)
 . exact zU (n:=LF) jo hr hv rfl rfl rfl rfl Dc rfl (wC hx hy)
 . exact zU (n:=EB) jo hr hv rfl rfl rfl rfl Dc rfl (wC hx hy)
 . exact zU (n:=wOr) jo hr hv rfl rfl rfl rfl Dc rfl (wC hx hy)
 . exact zU (n:=LK) jo hr hv rfl rfl rfl rfl Dc rfl (wC hx hy)
 . exact zU (n:=OU) jo hr hv rfl rfl rfl rfl Dc rfl (wC hx hy)
 . exact Tq (n:=OU) jo hr hv rfl rfl rfl rfl Dc rfl
 . exact zU (n:=OQ) jo hr hv rfl rfl rfl rfl Dc rfl (wC hx hy)
 . exact Tq (n:=OR) jo hr hv rfl rfl rfl rfl Dc rfl
 . exact zU (n:=OR) jo hr hv rfl rfl rfl rfl Dc rfl (wC hy hx)
 . exact Tq (n:=OQ) jo hr hv rfl rfl rfl rfl Dc rfl
end
structure Cm(OP:Int->Int->Int->Option Int):Prop where
 una:∀ o a,1<=o->o<=3->iY a->(OP o a 0).getD 0=if o=1 then (if a=0 then 1 else 0) else lK ((if o=3 then 4294967295 else 0) - a)
 bin:∀ o x y,4<=o->o<=19->iY x->iY y->OP o x y=Et o x y
 and_:∀ x y,OP 20 x y=some (if x=0\/y=0 then 0 else 1)
 or_:∀ x y,OP 21 x y=some (if x=0/\y=0 then 0 else 1)
def PE(I:Im)(n:Nat):Prop:=∀ (x:iT) (e:Ex) (lp w kk a q:Nat) (m:MS) (c:LInt9) (F:Nat) (av b:Int),x∈I.p.funcs->nN e=true->oM e=true->(∀ nd∈pk e lp,j7 I.p x nd=0)->Cd I.af I.lab a (cE I.p x e w kk).1 q->q<=I.G->MR I c m->FR x F c m.frm->I.H<=F->F+jt x+w+6 * dX e+120 * (100 - m.calls)<=65530 ->
 OE I 2 (dX e) (ms c av b ((F+jt x+w:Nat):Int) (m.calls:Int) (a:Int) m.inp m.out) c (F+jt x+w) q m ((jm I.p I.OP n).e x e m)
def LN(I:Im)(s:lj)(c:LInt9)(B C q:Nat)(m:MS):ER Int->Prop
 | .out=>True
 | .fin m' st cd=>uN 0 s m m' st cd
 | .ok v m'=>∃ k c' b',mb s k (ms c' v b' (C:Int) (m'.calls:Int) (q:Int) m'.inp m'.out)/\MR I c' m'/\SK I c c' B/\m'.frm=m.frm/\m'.calls=m.calls/\iY v/\k+3+40 * m'.left<=40 * m.left/\m.left<=m'.left+40 * k
def PC(I:Im)(n:Nat):Prop:=∀ (i:Nat) (f:iT) (vs:LInt9) (a:Nat) (m:MS) (c:LInt9) (B:Nat) (av b:Int),I.p.funcs[i]?=some f->vs.length=f.params.length->(∀ k v,vs[k]?=some v->iY v/\c[B+k]?=some v)->I.af[a]?=some 28->I.af[a+1]?=some (I.lab (fT (i:Int)))->a+2<=I.G->MR I c m->I.H<=B->B+6+120 * (100 - m.calls)<=65530 ->
 LN I (ms c av b ((B+f.params.length:Nat):Int) (m.calls:Int) (a:Int) m.inp m.out) c B (B+f.params.length) (a+2) { m with left:=m.left+1 } ((jm I.p I.OP n).c i vs m)
def uN.pre{σ1:Nat}{m':MS}{st cd:Int}(h:uN σ1 s1 m1 m' st cd)(R:mb s j s1)(h1:j+40 * m1.left<=40 * m.left)(h2:m.left+σ1<=m1.left+40 * j+σ):uN σ s m m' st cd:=by
 obtain ⟨k,s',r1,r2,r3,r4,r5,r6,r7⟩:=h;exact ⟨j+k,s',R.trans r1,r2,r3,r4,by omega,by omega,r7⟩
def MR.cell(h:MR I c m)(hv:I.af[k]?=some v)(hk:k < I.G):c[k]?=some v:=(h.code k hk).trans hv
def AK(I:Im)(s:lj)(c:LInt9)(C n q:Nat)(m:MS)(vs:LInt9)(m':MS):Prop:=∃ k c' a' b',mb s k (ms c' a' b' ((C+n:Nat):Int) (m'.calls:Int) (q:Int) m'.inp m'.out)/\MR I c' m'/\SK I c c' C/\m'.frm=m.frm/\m'.calls=m.calls/\vs.length=n/\(∀ k v,vs[k]?=some v->iY v/\c'[C+k]?=some v)/\k+40 * m'.left<=40 * m.left/\m.left<=m'.left+40 * k
def OA(I:Im)(σ:Nat)(s:lj)(c:LInt9)(C n q:Nat)(m:MS):ER LInt9->Prop
 | .out=>True
 | .fin m' st cd=>uN σ s m m' st cd
 | .ok vs m'=>AK I s c C n q m vs m'
def qpW{I:Im}{n:Nat}(hI:I.OK)(hE:PE I n){x:iT}(hx:x∈I.p.funcs)(lp:Nat):∀ (l:List Ex) (w kk a q:Nat) (m:MS) (c:LInt9) (F:Nat) (av b:Int),o5 l=true->qO l=true->(∀ nd∈pM l lp,j7 I.p x nd=0)->Cd I.af I.lab a (cC I.p x l w kk).1 q->q<=I.G->MR I c m->FR x F c m.frm->I.H<=F->F+jt x+w+l.length+6 * sD l+120 * (100 - m.calls)<=65530 ->
  OA I (sD l) (ms c av b ((F+jt x+w:Nat):Int) (m.calls:Int) (a:Int) m.inp m.out) c (F+jt x+w) l.length q m (qf ((jm I.p I.OP n).e x) l m)
 | [],w,kk,a,q,m,c,F,av,b,_,_,_,jo,_,hM,_,_,_=>by
  unfold cC at jo;cases (show a=q from jo);exact ⟨0,c,av,b,.nil _,hM,.refl,rfl,rfl,rfl,λk v h=>by simp at h,by omega,by omega⟩
 | y::r,w,kk,a,q,m,c,F,av,b,hv,hu,hd,jo,hq,hM,hF,hH,hr=>by
  simp only [o5,qO,aA] at hv hu;unfold cC at jo;obtain ⟨q1,d1,d2⟩:=jo.app;obtain ⟨e1,e2,e3⟩:=d2.op;rw [sD,au] at hr;rw [sD,qf];refine OE.bind (X:=OA I _ _ c _ _ q m) Tt (λ_ _ _ h=>h) (hE x y lp w kk a q1 m c F av b hx hv.1 hu.1 (λnd h=>hd nd (aN _ h)) d1 O hM hF hH O) (.nil _) (j:=0) (δ:=0) O O O λv m2 h=>?_;obtain ⟨k,c2,b2,R,jG,hS,hf,hc,hU,k1,k2⟩:=h;have hl:=jG.len;have hP:mb _ 1 _:=mb.one (a:=ms c2 v b2 ((F+jt x+w:Nat):Int) (m2.calls:Int) (q1:Int) m2.inp m2.out) rfl (Kg (jG.cell e1 O) O hl);have iL:SK I c2 (c2.set (F+jt x+w) v) (F+jt x+w):=.set (.inr (aC _));have mP:FR x F (c2.set (F+jt x+w) v) m2.frm:=by rw [hf];exact hF.keep (hS.trans iL (aC _)) hH O
  have ih:=qpW hI hE hx lp r (w+1) _ (q1+1) q m2 (c2.set (F+jt x+w) v) F v b2 hv.2 hu.2 (λnd h=>hd nd (aJ _ h)) e2 hq (jG.push hI O) mP hH Q21;have R2:=R.trans hP;rw [show F+jt x+(w+1)=F+jt x+w+1 by omega] at ih;cases hrr:qf ((jm I.p I.OP n).e x) r m2 with
  | out=>trivial
  | fin m' st cd=>rw [hrr] at ih;exact uN.pre ih R2 O O
  | ok vs m3=>
   rw [hrr] at ih;obtain ⟨k',c3,a3,b3,R3,lW,nY,xU,rU,xW,hv3,k3,k4⟩:=ih;refine ⟨_,c3,a3,b3,by rw [au,show F+jt x+w+(r.length+1)=F+jt x+w+1+r.length by omega];exact R2.trans R3,lW,(hS.trans iL (aC _)).trans nY O,xU.trans hf,rU.trans hc,by rw [au,xW,au],λk v' hk=>?_,by omega,by omega⟩;cases k with
   | zero=>
    simp only [dq,da] at hk;subst hk;exact ⟨hU,(nY _ O O).trans (bK O)⟩
   | succ k=>
    rw [bH] at hk;have:=hv3 k v' hk;exact ⟨this.1,by rw [show F+jt x+w+(k+1)=F+jt x+w+1+k by omega];exact this.2⟩
abbrev dn(m:MS):MS:={ m with left:=m.left - 1 }
def MR.dn{I:Im}{c:LInt9}{m:MS}(h:MR I c m):MR I c (dn m):=⟨h.len,h.code,h.var,h.ae,h.calls,h.out⟩
def EK.leaf(hs:s.stop=0)(h:lY ji s=ms c v b' (C:Int) (m.calls:Int) (q:Int) m.inp m.out)(hM:MR I c m)(hU:iY v)(hl:m.left≠0):EK I 2 s c C q m v (dn m):=
 ⟨1,c,b',.one hs h,hM.dn,.refl,rfl,rfl,hU,by show 1+2+40 * (m.left - 1)<=40 * m.left;omega,by show m.left<=m.left - 1+40 * 1;omega⟩
section
variable{I:Im}(hI:I.OK)(hx:x∈I.p.funcs){w:Nat}{av:Int}(hq:q<=I.G)(hM:MR I c m)(hF:FR x F c m.frm)(hl:m.left≠0)
include hq hM hl
theorem qxM(jo:Cd I.af I.lab a [.num pp nu] q)(hU:iY nu):EK I 2 (ms c av b (C:Int) (m.calls:Int) (a:Int) m.inp m.out) c C q m nu (dn m):=by
 obtain ⟨c1,c2,c3,c4⟩:=jo.num Dc Dc;cases (show a+2=q from c3);exact .leaf rfl (Kv (hM.cell c1 O) (hM.cell c2 O)) hM hU hl
theorem qFT(jo:Cd I.af I.lab a [.op MD] q):OE I 2 0 (ms c av b (C:Int) (m.calls:Int) (a:Int) m.inp m.out) c C q m (DH (dn m)):=by
 obtain ⟨c1,c3,c4⟩:=jo.op;cases (show a+1=q from c3);have h:=qI4 (a:=av) (b:=b) (C:=(C:Int)) (d:=(m.calls:Int)) (i:=m.inp) (o:=m.out) (hM.cell c1 O);unfold DH;show OE I 2 0 _ c C _ m (match m.inp with|[]=>_|y::r=>_);cases hi:m.inp with
 | nil=>
  rw [hi] at h;exact ⟨1,c,b,.one rfl (by rw [h];exact bj (λz=>ms c _ b _ _ _ z _) hi.symm),hM.dn,.refl,rfl,rfl,⟨by omega,by omega⟩,by show 1+2+40 * (m.left - 1)<=40 * m.left;omega,by show m.left<=m.left - 1+40 * 1;omega⟩
 | cons y r=>
  rw [hi] at h;have:=y.toNat_lt;exact ⟨1,c,b,.one rfl h,⟨hM.len,hM.code,hM.var,hM.ae,hM.calls,hM.out⟩,.refl,rfl,rfl,⟨by omega,by omega⟩,by show 1+2+40 * (m.left - 1)<=40 * m.left;omega,by show m.left<=m.left - 1+40 * 1;omega⟩
include hI hx hF
def Iy{p:Prop} (h:p:=by
 have l1:=NZ (q:=λy:iR=>decide (nm=y)) (l:=x.params) (k:=0);have l2:=NZ (q:=λy:iR=>decide (nm=y)) (l:=x.locals) (k:=0);split
 . omega
 . split<;>omega):p:=h
theorem qAg(jo:Cd I.af I.lab a [cN I.p x nm w] q)(hu:pF I.p x (nm,2,0)=0)(hr:F+jt x+w<=65536):EK I 2 (ms c av b ((F+jt x+w:Nat):Int) (m.calls:Int) (a:Int) m.inp m.out) c (F+jt x+w) q m (CH I.p x nm (dn m)) (dn m):=by
  obtain ⟨_,lQ⟩:=hI.fn x hx;have hs:=qr7 (nm:=nm) lQ;unfold cN at jo;rcases Ko hu Dc with ⟨h1,_⟩|⟨h1,h2|h2⟩
  . rw [aw h1] at hs
    rw [hs] at jo;obtain ⟨c1,c2,c3,c4⟩:=jo.num Dc Dc;cases (show a+2=q from c3);have lm:(ld x nm).toNat < x.params.length+x.locals.length:=by
      unfold ld at h1 ⊢;exact Iy
    have hv:=ax (l:=m.frm) (i:=(ld x nm).toNat) (by rw [hF.len];exact lm);obtain ⟨hU,hc⟩:=hF.at_ _ _ hv;have ha:=S8 lm;have he:CH I.p x nm (dn m)=m.frm[(ld x nm).toNat]'(by rw [hF.len];exact lm):=by
      rw [CH,aw h1];show m.frm.getD _ 0=_;rw [aM,hv];rfl
    rw [he];refine .leaf Z (qAE (q:=F+vY x (ld x nm).toNat) (hM.cell c1 O) (hM.cell c2 O) ?_ hc) hM hU hl;unfold lK;omega
  . obtain ⟨i,g,h3,h4,h5,h6⟩:=h2
    rw [am h1] at hs;rw [hs,h3] at jo;obtain ⟨_,_,gu⟩:=hI.gk i g h5;have re:Bz I.p (i:Int)=g.kind:=Dl h5;have he:CH I.p x nm (dn m)=if g.kind=1 then g.num else m.ah.getD i 0:=by
      rw [CH,am h1,h4,aH,aM,h5];rfl
    rw [he];rw [re] at jo;by_cases hk:g.kind=1
    . rw [aw hk] at jo ⊢
      rw [show vi I.p (i:Int)=g.num by rw [vi,aH,h5]] at jo;exact qxM hq hM hl jo gu
    . rw [am hk] at jo ⊢
      obtain ⟨c1,c2,c3,c4⟩:=jo.ref;cases (show a+2=q from c3);obtain ⟨g1,g2,g3⟩:=hI.ah i g h5 hk;obtain ⟨v,v1,v2,v3⟩:=hM.var i g h5 O;have hv:m.ah.getD i 0=v:=by rw [aM,v1];rfl
      rw [hv];rw [g1] at c2;exact .leaf rfl (qGk (hM.cell c1 O) (hM.cell c2 O) v3) hM v2 hl
  . exact absurd h2.1 Dc
end
section
variable{I:Im}(hI:I.OK)(hO:Cm I.OP)(hE:PE I n)(hC:PC I n)(hx:x∈I.p.funcs){w:Nat}{av:Int}(hq:q<=I.G)(hM:MR I c m)(hF:FR x F c m.frm)(hH:I.H<=F)(hl:m.left≠0)
include hE hx hM hF hH hl
theorem yX{β:Type}(hv:nN y=true)(hu:oM y=true)(hd:∀ nd∈pk y lp,j7 I.p x nd=0){s:lj}(jo:Cd I.af I.lab a' (cE I.p x y w' kk).1 q')(hq':q'<=I.G)(pP:MR I c' m)(hS:SK I c c' (F+jt x+w))(hw:w<=w')(hD:dX y+1<=D)(hr:F+jt x+w'+6 * dX y+120 * (100 - m.calls)<=65530)
  (R:mb s j (ms c' av' b' ((F+jt x+w':Nat):Int) (m.calls:Int) (a':Int) m.inp m.out)) (hj:j<=40) {K:Int->MS->ER β} (X:ER β->Prop) (hX:X .out) (j8:∀ m' st cd,uN D s m m' st cd->X (.fin m' st cd))
  (hK:∀ v m2 k c2 b2,mb s k (ms c2 v b2 ((F+jt x+w':Nat):Int) (m2.calls:Int) (q':Int) m2.inp m2.out)->MR I c2 m2->SK I c' c2 (F+jt x+w')->m2.frm=m.frm->m2.calls=m.calls->iY v->k+42+40 * m2.left<=40 * m.left+j->m.left<=m2.left+40 * k+1->FR x F c2 m2.frm->1+j<=k+1->X (K v m2)):X (((jm I.p I.OP n).e x y (dn m)).and K):=by
 have hF':FR x F c' m.frm:=hF.keep hS hH O;refine OE.bind X hX j8 (hE x y lp w' kk a' q' (dn m) c' F av' b' hx hv hu hd jo hq' pP.dn hF' hH hr) R (by show j+40 * (m.left - 1)<=40 * m.left;omega) (δ:=1) (by show m.left<=m.left - 1+40 * j+1;omega) hD λv m2 h=>?_;obtain ⟨k,c2,b2,R2,jG,iL,hf,hc,hU,k1,k2⟩:=h;have k1:k+2+40 * m2.left<=40 * (m.left - 1):=k1;have k2:m.left - 1<=m2.left+40 * k:=k2;have hf:m2.frm=m.frm:=hf;exact hK v m2 (j+k) c2 b2 (R.trans R2) jG iL hf hc hU O O (by rw [hf];exact hF'.keep iL hH O) O
variable{σ:Nat}
include hI hq
def Vr{p:Prop} (h:p:=by
 rw [am O] at hb;exact ⟨_,_,R.trans (.one rfl hb),rfl,rfl,λ_=>rfl,by omega,by omega,λh=>absurd h Dc⟩):p:=h
theorem quy(hv:nN y=true)(hu:oM y=true)(hd:∀ nd∈pk y lp,j7 I.p x nd=0)(hn:pF I.p x (nm,3,0)=0)(jo:Cd I.af I.lab a ((cE I.p x y w kk).1++[.num Dx (vi I.p (gi I.p nm)),.ref Oh (gT (gi I.p nm))]) q)(hσ:dX y+1<=σ)(hr:F+jt x+w+6 * dX y+120 * (100 - m.calls)<=65530) :
    OE I 2 σ (ms c av b ((F+jt x+w:Nat):Int) (m.calls:Int) (a:Int) m.inp m.out) c (F+jt x+w) q m (((jm I.p I.OP n).e x y (dn m)).and λi m=>if ((pn I.p nm m).length:Int)<=i then .fin m 1 1 else .ok ((pn I.p nm m).getD i.toNat 0) m):=by
  obtain ⟨q1,d1,d2⟩:=jo.app;obtain ⟨c1,c2,c3,c4⟩:=d2.num Dc Dc;obtain ⟨c5,c6,c7,c8⟩:=Cd.ref c3;cases (show q1+2+2=q from c7);obtain ⟨_,h2⟩:=(Ko hn Dc).resolve_left (λh=>by omega);obtain ⟨i,g,h3,h4,h5,h6⟩:=h2.resolve_right (λh=>by omega);have hg3:=hI.gk i g h5;have hk:g.kind=3:=by omega
  obtain ⟨g1,g2,g3⟩:=hI.ah i g h5 O;refine yX (j:=0) (w':=w) (c':=c) hE hx hM hF hH hl hv hu hd d1 O hM .refl (aC _) hσ hr (.nil _) O (OE I 2 σ _ c _ _ m) Tt (λ_ _ _ h=>h) λv m2 k nV b2 R jG hS hf hc hU k1 k2 mP _=>?_;obtain ⟨l,l1,l2,l3⟩:=jG.ae i g h5 hk;have ha:pn I.p nm m2=l:=by rw [pn,h4,aH,aM,l1];rfl
  rw [h3,show vi I.p (i:Int)=g.num by rw [vi,aH,h5]] at c2;rw [h3,g1] at c6;have hb:=qq1 (a:=v) (b:=b2) (C:=((F+jt x+w:Nat):Int)) (d:=(m2.calls:Int)) (i:=m2.inp) (o:=m2.out) (jG.cell c1 O) (jG.cell c2 O);show OE I 2 σ _ c _ _ m (if ((pn I.p nm m2).length:Int)<=v then _ else _);rw [ha];have hU:=hU;by_cases hv:(l.length:Int)<=v
  . rw [aw hv]
    exact Vr
  . rw [am hv]
    rw [aw O] at hb;obtain ⟨u1,u2⟩:=hU;have lm:v.toNat < l.length:=by omega
    have hz:=ax lm;obtain ⟨z1,z2⟩:=l3 _ _ hz;have hfe:=qAD (a:=v) (b:=1) (C:=((F+jt x+w:Nat):Int)) (d:=(m2.calls:Int)) (i:=m2.inp) (o:=m2.out) (q:=I.ga i+v.toNat) (p:=q1+2) (jG.cell c5 O) (jG.cell c6 O) (by have:=hI.ai;unfold qB at g3;unfold lK;omega) z2;have hget:l.getD v.toNat 0=l[v.toNat]:=by rw [aM,hz];rfl
    rw [hget];exact ⟨_,nV,_,(R.trans (.one rfl hb)).trans (.one rfl hfe),jG,hS,hf,hc,z1,by omega,by omega⟩
end
section
variable{I:Im}(hI:I.OK)(hO:Cm I.OP)(hE:PE I n)(hx:x∈I.p.funcs){w σ:Nat}{av:Int}(hq:q<=I.G)(hM:MR I c m)(hF:FR x F c m.frm)(hH:I.H<=F)(hl:m.left≠0)
include hE hx hH in
theorem Mv{β:Type}(hv:nN z=true)(hu:oM z=true)(hd:∀ nd∈pk z lp,j7 I.p x nd=0){c2:LInt9}{s:lj}(jo:Cd I.af I.lab a' (cE I.p x z w' kk).1 q')(hq':q'<=I.G)(jG:MR I c2 m2)(mP:FR x F c2 m2.frm)(hD:dX z<=σ)(hr:F+jt x+w'+6 * dX z+120 * (100 - m2.calls)<=65530)
  (R:mb s j (ms c2 av' b' ((F+jt x+w':Nat):Int) (m2.calls:Int) (a':Int) m2.inp m2.out)) (h1:j+40 * m2.left<=40 * m.left) (h2:m.left<=m2.left+40 * j) {K:Int->MS->ER β} (X:ER β->Prop) (hX:X .out) (j8:∀ m' st cd,uN σ s m m' st cd->X (.fin m' st cd))
  (hK:∀ v m3 k c3 b3,mb s k (ms c3 v b3 ((F+jt x+w':Nat):Int) (m3.calls:Int) (q':Int) m3.inp m3.out)->MR I c3 m3->SK I c2 c3 (F+jt x+w')->m3.frm=m2.frm->m3.calls=m2.calls->iY v->k+2+40 * m3.left+40 * m2.left<=40 * m2.left+j+40 * m2.left->m.left<=m3.left+40 * k->X (K v m3)):X (((jm I.p I.OP n).e x z m2).and K):=by
 refine OE.bind X hX j8 (hE x z lp w' kk a' q' m2 c2 F av' b' hx hv hu hd jo hq' jG mP hH hr) R h1 (δ:=0) O hD λv m3 h=>?_;obtain ⟨k,c3,b3,R2,lW,nY,hf,hc,hU,k1,k3⟩:=h;exact hK v m3 (j+k) c3 b3 (R.trans R2) lW nY hf hc hU O O
include hI hO hE hx hq hM hF hH hl
theorem qGB(hv:nN y=true)(hu:oM y=true)(hd:∀ nd∈pk y lp,j7 I.p x nd=0)(jo:Cd I.af I.lab a ((cE I.p x y w kk).1++[.op qz]) q)(hσ:dX y+1<=σ)(hr:F+jt x+w+6 * dX y+120 * (100 - m.calls)<=65530) :
  OE I 2 σ (ms c av b ((F+jt x+w:Nat):Int) (m.calls:Int) (a:Int) m.inp m.out) c (F+jt x+w) q m (((jm I.p I.OP n).e x y (dn m)).and λa m=>.ok ((I.OP 1 a 0).getD 0) m):=by
 obtain ⟨q1,d1,d2⟩:=jo.app;obtain ⟨c1,c3,c4⟩:=d2.op;cases (show q1+1=q from c3);refine yX (j:=0) (w':=w) (c':=c) hE hx hM hF hH hl hv hu hd d1 O hM .refl (aC _) hσ hr (.nil _) O (OE I 2 σ _ c _ _ m) Tt (λ_ _ _ h=>h) λv m2 k nV b2 R jG hS hf hc hU k1 k2 mP _=>?_;rw [hO.una 1 v Dc Dc hU,aw rfl];exact ⟨_,nV,_,R.trans (.one rfl (Dq (jG.cell c1 O))),jG,hS,hf,hc,Vb,by omega,by omega⟩
theorem qGA(ho:o=2\/o=3)(hv:nN y=true)(hu:oM y=true)(hd:∀ nd∈pk y lp,j7 I.p x nd=0)(jo:Cd I.af I.lab a (.num pp (if o=3 then 4294967295 else 0)::.op qj::(cE I.p x y (w+1) kk).1++[.op EB]) q)(hσ:dX y+1<=σ)(hr:F+jt x+w+6+6 * dX y+120 * (100 - m.calls)<=65530) :
  OE I 2 σ (ms c av b ((F+jt x+w:Nat):Int) (m.calls:Int) (a:Int) m.inp m.out) c (F+jt x+w) q m (((jm I.p I.OP n).e x y (dn m)).and λa m=>.ok ((I.OP o a 0).getD 0) m):=by
 obtain ⟨q1,d1,d2⟩:=jo.app;obtain ⟨c1,c3,c4⟩:=d2.op;cases (show q1+1=q from c3);obtain ⟨e1,e2,e3,e4⟩:=d1.num Dc Dc;obtain ⟨e5,e6,e7⟩:=Cd.op e3;have iQ:=hM.len;generalize hN:(if o=3 then (4294967295:Int) else 0)=N at e2;have hNu:iY N:=by subst hN;split<;>exact ⟨by omega,by omega⟩
 have s1:=Kv (a:=av) (b:=b) (C:=((F+jt x+w:Nat):Int)) (d:=(m.calls:Int)) (i:=m.inp) (o:=m.out) (hM.cell e1 O) (hM.cell e2 O);have s2:=Kg (a:=N) (b:=b) (q:=F+jt x+w) (d:=(m.calls:Int)) (i:=m.inp) (o:=m.out) (hM.cell e5 O) O iQ;refine yX (j:=2) (w':=w+1) (c':=c.set (F+jt x+w) N) hE hx hM hF hH hl hv hu hd e6 O (hM.push hI O) (.set (.inr (aC _))) O hσ O ((mb.one Z s1).trans (mb.one Z s2)) O (OE I 2 σ _ c _ _ m) Tt (λ_ _ _ h=>h) λv m2 k nV b2 R jG hS hf hc hU k1 k2 mP _=>?_;have hcell:nV[F+jt x+w]?=some N:=(hS _ O O).trans (bK O);have hsub:IR nV N v (F+jt x+w) q1 (q1+1) b2 (m2.calls:Int) m2.inp m2.out (some (jK 2 N v)):=zU (n:=EB) (lab:=I.lab) (d2.mono λk _ h v' hv'=>jG.cell hv' O) O hcell rfl rfl rfl rfl Dc rfl (wC hNu hU);obtain ⟨_,k',b',_,k3,R3⟩:=hsub;have e9:(I.OP o v 0).getD 0=jK 2 N v:=by
  rw [hO.una o v O O hU,am O,hN];rfl
 rw [e9];exact ⟨_,nV,_,R.trans R3,jG,(SK.set (.inr (aC _))).trans hS O,hf,hc,wC hNu hU,by omega,by omega⟩
theorem qGz(ho:4<=o/\o<=19)(hv:nN y=true)(hu:oM y=true)(hd:∀ nd∈pk y lp,j7 I.p x nd=0)(yU:nN z=true)(tk:oM z=true)(AT:∀ nd∈pk z lp,j7 I.p x nd=0)(jo:Cd I.af I.lab a ((cE I.p x y w kk).1++.op qj::(cE I.p x z (w+1) k2).1++(x5 o).map .op) q)(hσ:dX y+1<=σ)(hσz:dX z+1<=σ)(hr:F+jt x+w+6+6 * dX y+120 * (100 - m.calls)<=65530)(hrz:F+jt x+w+6+6 * dX z+120 * (100 - m.calls)<=65530) :
  OE I 2 σ (ms c av b ((F+jt x+w:Nat):Int) (m.calls:Int) (a:Int) m.inp m.out) c (F+jt x+w) q m (((jm I.p I.OP n).e x y (dn m)).and λa m=>((jm I.p I.OP n).e x z m).and λb m=>match I.OP o a b with|some v=>.ok v m|none=>.fin m 1 2):=by
 obtain ⟨q2,d1,d2⟩:=jo.app;obtain ⟨q1,d3,d4⟩:=d1.app;obtain ⟨c1,c3,c4⟩:=d4.op;have ka:=d2.le;refine yX (j:=0) (w':=w) (c':=c) hE hx hM hF hH hl hv hu hd d3 O hM .refl (aC _) hσ O (.nil _) O (OE I 2 σ _ c _ _ m) Tt (λ_ _ _ h=>h) λv m2 k nV b2 R jG hS hf hc hU k1 k3 mP _=>?_;have iQ:=jG.len;have s2:=Kg (a:=v) (b:=b2) (q:=F+jt x+w) (d:=(m2.calls:Int)) (i:=m2.inp) (o:=m2.out) (jG.cell c1 O) O iQ;have iL:SK I nV (nV.set (F+jt x+w) v) (F+jt x+w):=.set (.inr (aC _));refine Mv (m:=m) (σ:=σ) hE hx hH yU tk AT (w':=w+1) c3 O (jG.push hI O) (mP.keep iL hH O) O Q21 (R.trans (mb.one Z s2)) O O (OE I 2 σ _ c _ _ m) Tt (λ_ _ _ h=>h) λv2 m3 k4 tI b3 R3 lW nY xU rU hU3 k5 k6=>?_;have hcell:tI[F+jt x+w]?=some v:=(nY _ O O).trans (bK O);have uQ:=qGX (o:=o) (lab:=I.lab) (b:=b3) (d:=(m3.calls:Int)) (i:=m3.inp) (oo:=m3.out) ho.1 ho.2 hU hU3 (d2.mono λk _ h v' hv'=>lW.cell hv' O) O hcell;rw [hO.bin o v v2 ho.1 ho.2 hU hU3];cases hr0:Et o v v2 with
 | none=>
  rw [hr0] at uQ;obtain ⟨s',R4,o1,o2,o3⟩:=uQ;exact ⟨_,_,R3.trans R4,o1,o2,λ_=>o3,by omega,by omega,λh=>absurd h Dc⟩
 | some u=>
  rw [hr0] at uQ;obtain ⟨pr,k',b',_,k7,R4⟩:=uQ;exact ⟨_,tI,_,R3.trans R4,lW,(hS.trans iL (aC _)).trans nY O,xU.trans hf,rU.trans hc,pr,by omega,by omega⟩
end
section
variable{I:Im}(hI:I.OK)(hO:Cm I.OP)(hE:PE I n)(hC:PC I n)(hx:x∈I.p.funcs){w σ:Nat}{av:Int}(hq:q<=I.G)(hM:MR I c m)(hF:FR x F c m.frm)(hH:I.H<=F)(hl:m.left≠0)
include hI hO hE hx hq hM hF hH hl
def Iu{p:Prop} (h:p:=by
 rw [e] at s3;exact ⟨_,tI,b3,(R3.trans (.one rfl s2)).trans (.one rfl s3),lW,hS.trans nY (aC _),xU.trans hf,rU.trans hc,by split<;>exact ⟨by omega,by omega⟩,by omega,by omega⟩):p:=h
theorem qGy(hv:nN y=true)(hu:oM y=true)(hd:∀ nd∈pk y lp,j7 I.p x nd=0)(yU:nN z=true)(tk:oM z=true)(AT:∀ nd∈pk z lp,j7 I.p x nd=0)(jo:Cd I.af I.lab a ((cE I.p x y w kk).1++.ref tv (lT kl)::(cE I.p x z w k2).1++[.op qz,.op qz,.lab (lT kl)]) q)(hσ:dX y+1<=σ)(hσz:dX z+1<=σ)(hr:F+jt x+w+6+6 * dX y+120 * (100 - m.calls)<=65530)(hrz:F+jt x+w+6+6 * dX z+120 * (100 - m.calls)<=65530) :
    OE I 2 σ (ms c av b ((F+jt x+w:Nat):Int) (m.calls:Int) (a:Int) m.inp m.out) c (F+jt x+w) q m (((jm I.p I.OP n).e x y (dn m)).and λa m=>if a=0 then .ok 0 m else ((jm I.p I.OP n).e x z m).and λb m=>match I.OP 20 a b with|some v=>.ok v m|none=>.fin m 1 2):=by
  obtain ⟨q2,d1,d2⟩:=jo.app;obtain ⟨q1,d3,d4⟩:=d1.app;obtain ⟨c1,c2,c3,c4⟩:=d4.ref;obtain ⟨f1,f2,f3⟩:=d2.op;obtain ⟨f4,f5,f6⟩:=Cd.op f2;obtain ⟨f7,f8⟩:=Cd.lbl f5;cases (show q2+1+1=q from f8);refine yX (j:=0) (w':=w) (c':=c) hE hx hM hF hH hl hv hu hd d3 O hM .refl (aC _) hσ O (.nil _) O (OE I 2 σ _ c _ _ m) Tt (λ_ _ _ h=>h) λv m2 k nV b2 R jG hS hf hc hU k1 k3 mP _=>?_;have s1:=JS (a:=v) (b:=b2) (C:=((F+jt x+w:Nat):Int)) (d:=(m2.calls:Int)) (i:=m2.inp) (o:=m2.out) (jG.cell c1 O) (jG.cell c2 O);by_cases h0:v=0
  . rw [aw h0] at s1
    show OE I 2 σ _ c _ _ m (if v=0 then _ else _);rw [aw h0];rw [f7] at s1;subst h0;exact ⟨_,nV,b2,R.trans (.one rfl s1),jG,hS,hf,hc,⟨by omega,by omega⟩,by omega,by omega⟩
  . rw [am h0] at s1
    show OE I 2 σ _ c _ _ m (if v=0 then _ else _);rw [am h0];refine Mv (m:=m) (σ:=σ) hE hx hH yU tk AT (w':=w) c3 O jG mP O Q21 (R.trans (mb.one Z s1)) O O (OE I 2 σ _ c _ _ m) Tt (λ_ _ _ h=>h) λv2 m3 k4 tI b3 R3 lW nY xU rU hU3 k5 k6=>?_;rw [hO.and_];have s2:=Dq (a:=v2) (b:=b3) (C:=((F+jt x+w:Nat):Int)) (d:=(m3.calls:Int)) (i:=m3.inp) (o:=m3.out) (lW.cell f1 O);have s3:=Dq (a:=if v2=0 then 1 else 0) (b:=b3) (C:=((F+jt x+w:Nat):Int)) (d:=(m3.calls:Int)) (i:=m3.inp) (o:=m3.out) (lW.cell f4 O);have e:(if (if v2=0 then (1:Int) else 0)=0 then (1:Int) else 0)=if v=0\/v2=0 then 0 else 1:=by by_cases h2:v2=0<;>simp [h0,h2]
    exact Iu
theorem qJj(hv:nN y=true)(hu:oM y=true)(hd:∀ nd∈pk y lp,j7 I.p x nd=0)(yU:nN z=true)(tk:oM z=true)(AT:∀ nd∈pk z lp,j7 I.p x nd=0)(jo:Cd I.af I.lab a ((cE I.p x y w kk).1++.op qz::.ref tv (lT kl)::(cE I.p x z w k2).1++[.op qz,.lab (lT kl),.op qz]) q)(hσ:dX y+1<=σ)(hσz:dX z+1<=σ)(hr:F+jt x+w+6+6 * dX y+120 * (100 - m.calls)<=65530)(hrz:F+jt x+w+6+6 * dX z+120 * (100 - m.calls)<=65530) :
    OE I 2 σ (ms c av b ((F+jt x+w:Nat):Int) (m.calls:Int) (a:Int) m.inp m.out) c (F+jt x+w) q m (((jm I.p I.OP n).e x y (dn m)).and λa m=>if a≠0 then .ok 1 m else ((jm I.p I.OP n).e x z m).and λb m=>match I.OP 21 a b with|some v=>.ok v m|none=>.fin m 1 2):=by
  obtain ⟨q2,d1,d2⟩:=jo.app;obtain ⟨q1,d3,d4⟩:=d1.app;obtain ⟨c0,d5,c5⟩:=d4.op;obtain ⟨c1,c2,c3,c4⟩:=Cd.ref d5;obtain ⟨f1,f2,f3⟩:=d2.op;obtain ⟨f7,f8⟩:=Cd.lbl f2;obtain ⟨f4,f5,f6⟩:=Cd.op f8;cases (show q2+1+1=q from f5);refine yX (j:=0) (w':=w) (c':=c) hE hx hM hF hH hl hv hu hd d3 O hM .refl (aC _) hσ O (.nil _) O (OE I 2 σ _ c _ _ m) Tt (λ_ _ _ h=>h) λv m2 k nV b2 R jG hS hf hc hU k1 k3 mP _=>?_;have s0:=Dq (a:=v) (b:=b2) (C:=((F+jt x+w:Nat):Int)) (d:=(m2.calls:Int)) (i:=m2.inp) (o:=m2.out) (jG.cell c0 O);have s1:=JS (a:=if v=0 then 1 else 0) (b:=b2) (C:=((F+jt x+w:Nat):Int)) (d:=(m2.calls:Int)) (i:=m2.inp) (o:=m2.out) (jG.cell c1 O) (jG.cell c2 O);by_cases h0:v=0
  . show OE I 2 σ _ c _ _ m (if v≠0 then _ else _)
    rw [am (λh=>h h0)];rw [aw h0] at s0 s1;rw [am Dc] at s1;refine Mv (m:=m) (σ:=σ) hE hx hH yU tk AT (w':=w) c3 O jG mP O Q21 ((R.trans (mb.one Z s0)).trans (mb.one Z s1)) O O (OE I 2 σ _ c _ _ m) Tt (λ_ _ _ h=>h) λv2 m3 k4 tI b3 R3 lW nY xU rU hU3 k5 k6=>?_;rw [hO.or_];have s2:=Dq (a:=v2) (b:=b3) (C:=((F+jt x+w:Nat):Int)) (d:=(m3.calls:Int)) (i:=m3.inp) (o:=m3.out) (lW.cell f1 O);have s3:=Dq (a:=if v2=0 then 1 else 0) (b:=b3) (C:=((F+jt x+w:Nat):Int)) (d:=(m3.calls:Int)) (i:=m3.inp) (o:=m3.out) (lW.cell f4 O);have e:(if (if v2=0 then (1:Int) else 0)=0 then (1:Int) else 0)=if v=0/\v2=0 then 0 else 1:=by by_cases h2:v2=0<;>simp [h0,h2]
    exact Iu
  . show OE I 2 σ _ c _ _ m (if v≠0 then _ else _)
    rw [aw h0];rw [am h0] at s0 s1;rw [aw rfl,f7] at s1;have s3:=Dq (a:=0) (b:=b2) (C:=((F+jt x+w:Nat):Int)) (d:=(m2.calls:Int)) (i:=m2.inp) (o:=m2.out) (jG.cell f4 O);rw [aw rfl] at s3;exact ⟨_,nV,b2,((R.trans (.one rfl s0)).trans (.one rfl s1)).trans (.one rfl s3),jG,hS,hf,hc,⟨by omega,by omega⟩,by omega,by omega⟩
include hC
theorem qry(hv:o5 az=true)(hu:qO az=true)(hd:∀ nd∈pM az lp,j7 I.p x nd=0)(hn:pF I.p x (nm,4,(az.length:Int))=0)(jo:Cd I.af I.lab a ((cC I.p x az w kk).1++cL I.p nm az.length) q)(hσ:sD az+1<=σ)(hr:F+jt x+w+6+6 * sD az+120 * (100 - m.calls)<=65530) :
    OE I 2 σ (ms c av b ((F+jt x+w:Nat):Int) (m.calls:Int) (a:Int) m.inp m.out) c (F+jt x+w) q m ((qf ((jm I.p I.OP n).e x) az (dn m)).and λvs m=>(jm I.p I.OP n).c (uJ I.p nm).toNat vs m):=by
  obtain ⟨q1,d1,d2⟩:=jo.app;unfold cL at d2;obtain ⟨c1,c2,c3,c4⟩:=d2.ref;obtain ⟨_,h2⟩:=(Ko hn Dc).resolve_left (λh=>by omega);obtain ⟨_,i,f,h3,h4,h5,h6⟩:=h2.resolve_left (λ⟨_,_,_,_,_,h⟩=>by omega);have hp6:=(hI.fn f (ay h5)).1.p6;rw [h3] at c2;rw [h4,aH];have ha:=qpW (n:=n) hI hE hx lp az w kk a q1 (dn m) c F av b hv hu hd d1 O hM.dn hF hH (by show _+120 * (100 - m.calls)<=_;omega);cases xX:qf ((jm I.p I.OP n).e x) az (dn m) with
  | out=>trivial
  | fin m' st cd=>
    rw [xX] at ha;exact uN.pre ha (.nil _) (by show 0+40 * (m.left - 1)<=40 * m.left;omega) (by show m.left+sD az<=m.left - 1+40 * 0+σ;omega)
  | ok vs m2=>
    rw [xX] at ha;obtain ⟨k,nV,a2,b2,R,jG,hS,hf,hc,oB,uR,k1,k3⟩:=ha;have k1:k+40 * m2.left<=40 * (m.left - 1):=k1;have k3:m.left - 1<=m2.left+40 * k:=k3;have hc:m2.calls=m.calls:=hc;have iQ:az.length=f.params.length:=by omega
    have h:=hC i f vs q1 m2 nV (F+jt x+w) a2 b2 h5 O uR c1 c2 O jG O Q21;rw [<- iQ] at h;show OE I 2 σ _ c _ _ m ((jm I.p I.OP n).c i vs m2);cases tM:(jm I.p I.OP n).c i vs m2 with
    | out=>trivial
    | fin m' st cd=>
      rw [tM] at h;exact uN.pre h R (by show k+40 * (m2.left+1)<=40 * m.left;omega) (by show m.left+0<=m2.left+1+40 * k+σ;omega)
    | ok v m3=>
      rw [tM] at h;obtain ⟨k',tI,b3,R3,lW,nY,xU,rU,hU3,k5,k6⟩:=h;have k5:k'+3+40 * m3.left<=40 * (m2.left+1):=k5;have k6:m2.left+1<=m3.left+40 * k':=k6;by_cases h0:0 < az.length
      . rw [aw h0] at c3
        obtain ⟨e1,e2,e3,e4⟩:=Cd.num c3 Dc Dc;cases (show q1+2+2=q from e3);have s1:=qGj (a:=v) (b:=b3) (C:=((F+jt x+w+az.length:Nat):Int)) (d:=(m3.calls:Int)) (i:=m3.inp) (o:=m3.out) (lW.cell e1 O) (lW.cell e2 O);rw [show lK (((F+jt x+w+az.length:Nat):Int) - (az.length:Int))=((F+jt x+w:Nat):Int) by unfold lK;omega] at s1;exact ⟨_,tI,b3,(R.trans R3).trans (.one rfl s1),lW,hS.trans (nY.le O) (aC _),xU.trans hf,rU.trans hc,hU3,by omega,by omega⟩
      . rw [am h0] at c3
        cases (show q1+2=q from c3);rw [show F+jt x+w+az.length=F+jt x+w by omega] at R R3;exact ⟨_,tI,b3,R.trans R3,lW,hS.trans nY (aC _),xU.trans hf,rU.trans hc,hU3,by omega,by omega⟩
end
def OE.mono{τ σ':Nat}{r:ER Int}(h:OE I τ σ s c C q m r)(hs:σ<=σ'):OE I τ σ' s c C q m r:=by
 cases r with
 | out=>trivial
 | ok v m'=>exact h
 | fin m' st cd=>
  obtain ⟨k,s',r1,r2,r3,r4,r5,r6,r7⟩:=h;exact ⟨k,s',r1,r2,r3,r4,r5,by omega,r7⟩
def qy0(hI:I.OK)(hO:Cm I.OP)(hE:PE I n)(hC:PC I n):PE I (n+1):=by
  rintro x ⟨kd,o,nu,nm,az⟩ lp w kk a q m c F av b hx hv hu hd jo hq hM hF hH hr;obtain ⟨hc,hvs⟩:=ze hv;obtain ⟨k1,k7,a1,a2,a3,a4⟩:=Bm hc;simp only [oM,aA,aF] at hu;have hd0:=hd _ Mc;have ww:∀ nd∈pM az lp,j7 I.p x nd=0:=λnd h=>hd nd (aq _ h);simp only [Ex.kind,Ex.op,Ex.args,Ex.name] at a1 a2 a3 a4 k1 k7 hvs;rw [dX] at hr ⊢;show OE I 2 _ _ c _ q m ((vI m).and λ_ m=>vX I.p I.OP (jm I.p I.OP n) x (.mk kd o nu nm az) m);refine n_ (OE I 2 _ _ c _ q m) Z Z (λ_ _ _ h=>h) λhl=>?_;unfold cE at jo;show OE I 2 _ _ c _ q m (vX I.p I.OP (jm I.p I.OP n) x (.mk kd o nu nm az) (dn m));unfold vX;by_cases e1:kd=1
  . rw [aw e1] at jo
    rw [aw (show (Ex.mk kd o nu nm az).kind=1 from e1)];exact qxM hq hM hl jo hu.1
  rw [am e1] at jo;rw [am (show ¬ (Ex.mk kd o nu nm az).kind=1 from e1)];by_cases e2:kd=2
  . rw [aw e2] at jo
    rw [aw (show (Ex.mk kd o nu nm az).kind=2 from e2)];exact qAg hI hx hq hM hF hl jo (by have e:o6 (.mk kd o nu nm az)=(nm,2,0):=aw e2;rwa [j7,e] at hd0) O
  rw [am e2] at jo;rw [am (show ¬ (Ex.mk kd o nu nm az).kind=2 from e2)];by_cases e3:kd=3
  . rw [aw e3] at jo
    rw [aw (show (Ex.mk kd o nu nm az).kind=3 from e3)];subst e3;have h1:az.length=1:=by have h1:1<=az.length:=a1;have h2:az.length<=1:=a2;omega
    obtain ⟨y,rfl⟩:=gV.1 h1;simp only [o5,qO,dC] at hvs hu;have um:sD [y]=dX y:=by simp [sD]
    rw [um] at hr ⊢;unfold cH at jo;exact quy (y:=y) (nm:=nm) hI hE hx hq hM hF hH hl hvs hu.2 (λnd h=>ww nd (aN _ h)) (by have e:o6 (.mk 3 o nu nm [y])=(nm,3,0):=rfl;rwa [j7,e] at hd0) jo O O
  rw [am e3] at jo;rw [am (show ¬ (Ex.mk kd o nu nm az).kind=3 from e3)];by_cases e4:kd=4
  . rw [aw e4] at jo
    rw [aw (show (Ex.mk kd o nu nm az).kind=4 from e4)];subst e4;exact qry (az:=az) (nm:=nm) hI hO hE hC hx hq hM hF hH hl hvs hu.2 ww (by have e:o6 (.mk 4 o nu nm az)=(nm,4,(az.length:Int)):=rfl;rwa [j7,e] at hd0) jo O O
  rw [am e4] at jo;rw [am (show ¬ (Ex.mk kd o nu nm az).kind=4 from e4)];by_cases e5:kd=5
  . rw [aw e5] at jo
    rw [aw (show (Ex.mk kd o nu nm az).kind=5 from e5)];exact (qFT hq hM hl jo).mono (aB _)
  rw [am e5] at jo;rw [am (show ¬ (Ex.mk kd o nu nm az).kind=5 from e5)];by_cases e6:kd=6
  . rw [aw e6] at jo
    rw [aw (show (Ex.mk kd o nu nm az).kind=6 from e6)];subst e6;have h1:az.length=1:=by have h1:1<=az.length:=a1;have h2:az.length<=1:=a2;omega
    obtain ⟨y,rfl⟩:=gV.1 h1;simp only [o5,qO,dC] at hvs hu;have um:sD [y]=dX y:=by simp [sD]
    rw [um] at hr ⊢;unfold cH at jo;have ho:=a3 rfl;by_cases o1:o=1
    . rw [aw o1] at jo
      subst o1;exact qGB (y:=y) hI hO hE hx hq hM hF hH hl hvs hu.2 (λnd h=>ww nd (aN _ h)) jo O O
    . rw [am o1] at jo
      exact qGA (y:=y) (o:=o) hI hO hE hx hq hM hF hH hl O hvs hu.2 (λnd h=>ww nd (aN _ h)) jo O O
  rw [am e6] at jo;rw [am (show ¬ (Ex.mk kd o nu nm az).kind=6 from e6)];have e7:kd=7:=by omega
  subst e7;have h1:az.length=2:=by have h1:2<=az.length:=a1;have h2:az.length<=2:=a2;omega
  obtain ⟨y,z,rfl⟩:∃ y z,az=[y,z]:=by
    match az,h1 with
    | [y,z],_=>exact ⟨y,z,rfl⟩
  simp only [o5,qO,dC,aA] at hvs hu;have um:sD [y,z]=max (dX y) (dX z):=by simp [sD]
  rw [um] at hr ⊢;have hd1:∀ nd∈pk y lp,j7 I.p x nd=0:=λnd h=>ww nd (aN _ h);have xT:∀ nd∈pk z lp,j7 I.p x nd=0:=λnd h=>ww nd (aJ _ (aN _ h));have eI:∀ w k,cI I.p x [y,z] w k=cE I.p x z w k:=λw k=>by unfold cI cH;rfl
  have eH:∀ w k,cH I.p x [y,z] w k=cE I.p x y w k:=λw k=>by unfold cH;rfl
  rw [eH] at jo;simp only [eI] at jo;by_cases o1:o=20
  . subst o1
    rw [aw rfl] at jo;have:=qGy (y:=y) (z:=z) hI hO hE hx hq hM hF hH hl (σ:=1+max (dX y) (dX z)) (av:=av) (b:=b) (c:=c) hvs.1 hu.2.1 hd1 hvs.2 hu.2.2 xT jo O O O O;refine cast (bj (OE I 2 _ _ c _ q m) ?_) this;show ER.and _ _=ER.and _ _;congr 1;funext a m2;by_cases h:a=0
    . rw [aw h];exact (aw ⟨rfl,h⟩).symm
    . rw [am h];exact ((am (λk=>h k.2)).trans (am (λk=>absurd (show (20:Int)=21 from k.1) Dc))).symm
  rw [am o1] at jo;by_cases o2:o=21
  . subst o2
    rw [aw rfl] at jo;have:=qJj (y:=y) (z:=z) hI hO hE hx hq hM hF hH hl (σ:=1+max (dX y) (dX z)) (av:=av) (b:=b) (c:=c) hvs.1 hu.2.1 hd1 hvs.2 hu.2.2 xT jo O O O O;refine cast (bj (OE I 2 _ _ c _ q m) ?_) this;show ER.and _ _=ER.and _ _;congr 1;funext a m2;by_cases h:a=0
    . rw [am (λk=>k h)];exact ((am (λk=>absurd (show (21:Int)=20 from k.1) Dc)).trans (am (λk=>k.2 h))).symm
    . rw [aw h];exact ((am (λk=>absurd (show (21:Int)=20 from k.1) Dc)).trans (aw ⟨rfl,h⟩)).symm
  rw [am o2] at jo;have:=qGz (y:=y) (z:=z) hI hO hE hx hq hM hF hH hl (σ:=1+max (dX y) (dX z)) (av:=av) (b:=b) (c:=c) (o:=o) O hvs.1 hu.2.1 hd1 hvs.2 hu.2.2 xT jo O O O O;refine cast (bj (OE I 2 _ _ c _ q m) ?_) this;show ER.and _ _=ER.and _ _;congr 1;funext a m2;exact ((am (λk=>o1 k.1)).trans (am (λk=>o2 k.1))).symm
def WY(I:Im)(x:iT)(F q:Nat)(ls:List iR)(d:Nat)(ret:Int)(y:Int×Int)(a C e p:Int):Prop:=
 (y.1=0/\C=((F+jt x:Nat):Int)/\e=(d:Int)/\p=(q:Int))\/(y.1=1/\2<=ls.length/\C=((F+jt x:Nat):Int)/\e=(d:Int)/\p=I.lab (ls.getD (ls.length - 1) []))\/(y.1=2/\2<=ls.length/\C=((F+jt x:Nat):Int)/\e=(d:Int)/\p=I.lab (ls.getD (ls.length - 2) []))\/(y.1=3/\a=y.2/\iY y.2/\C=((F+x.params.length:Nat):Int)/\e=((d - 1:Nat):Int)/\p=ret)
def SKd(I:Im)(s:lj)(x:iT)(F q:Nat)(ls:List iR)(c:LInt9)(m:MS)(ret:Int)(y:Int×Int)(m':MS):Prop:=
 ∃ k c' a' b' C' e' p',mb s k (ms c' a' b' C' e' p' m'.inp m'.out)/\MR I c' m'/\SK I c c' F/\FR x F c' m'.frm/\c'[F+x.params.length]?=some ret/\m'.calls=m.calls/\k+40 * m'.left<=40 * m.left/\m.left<=m'.left+40 * k/\WY I x F q ls m.calls ret y a' C' e' p'
def OS(I:Im)(s:lj)(x:iT)(F q:Nat)(ls:List iR)(c:LInt9)(m:MS)(ret:Int):ER (Int×Int)->Prop
 | .out=>True
 | .fin m' st cd=>uN 17 s m m' st cd
 | .ok y m'=>SKd I s x F q ls c m ret y m'
def qzD(h:vY x j=vY x k):j=k:=by
 unfold vY at h;split at h<;>split at h<;>omega
def qFe:vY x k≠x.params.length:=by unfold vY;split<;>omega
def FR.set{frm:LInt9}(h:FR x F c frm)(hj:j < frm.length)(hv:iY v):FR x F (c.set (F+vY x j) v) (frm.set j v):=
  ⟨by rw [cR];exact h.len,λk w hk=>by
    by_cases e:k=j
    . subst e
      rw [bK hj] at hk;cases hk;have:=(h.at_ k _ (ax hj)).2;exact ⟨hv,bK (al.1 this).1⟩
    . rw [bl (λh=>e h.symm)] at hk
      have:=h.at_ k w hk;exact ⟨this.1,by rw [bl (λh=>e (qzD (x:=x) O))];exact this.2⟩⟩
def MR.frm{I:Im}{c:LInt9}{m:MS}(h:MR I c m)(f:LInt9):MR I c { m with frm:=f }:=⟨h.len,h.code,h.var,h.ae,h.calls,h.out⟩
section
variable{I:Im}(hI:I.OK)(hE:PE I n)(hx:x∈I.p.funcs){av:Int}(hq:q<=I.G)(hM:MR I c m)(hF:FR x F c m.frm)(kQ:c[F+x.params.length]?=some ret)(hH:I.H<=F)(hl:m.left≠0)(hr:F+jt x+102+120 * (100 - m.calls)<=65530)
include hI hE hx hq hM hF kQ hH hl hr
theorem qrE(hv:nN y=true)(hu:oM y=true)(hd:∀ nd∈pk y lp,j7 I.p x nd=0)(hy:dX y<=16)(hn:pF I.p x (nm,1,0)=0)(jo:Cd I.af I.lab a ((cE I.p x y 0 kk).1++[BK I.p x nm]) q) :
    OS I (ms c av b ((F+jt x:Nat):Int) (m.calls:Int) (a:Int) m.inp m.out) x F q ls c m ret (((jm I.p I.OP n).e x y (dn m)).and λv m=>.ok (0,0) (Aj I.p x nm v m)):=by
  obtain ⟨_,lQ⟩:=hI.fn x hx;have hs:=qr7 (nm:=nm) lQ;obtain ⟨q1,d1,d2⟩:=jo.app;have ka:=d2.le;refine yX (w:=0) (j:=0) (D:=17) (w':=0) (c':=c) hE hx hM hF hH hl hv hu hd d1 O hM .refl (aC _) O O (.nil _) O (OS I _ x F q ls c m ret) Tt (λ_ _ _ h=>h) λv m2 k c2 b2 R jG hS hf hc hU k1 k2 mP _=>?_;have hre:c2[F+x.params.length]?=some ret:=(hS _ O (by unfold jt;omega)).trans kQ;have iQ:=jG.len;have hszF:jt x=x.params.length+1+x.locals.length:=rfl;unfold BK at d2;rcases Ko hn Dc with ⟨h1,_⟩|⟨h1,h2|h2⟩
  . rw [aw h1] at hs
    rw [hs] at d2;obtain ⟨c1,c3,c4,c5⟩:=Cd.num d2 Dc Dc;cases (show q1+2=q from c4);have lm:(ld x nm).toNat < x.params.length+x.locals.length:=by
      unfold ld at h1 ⊢;exact Iy
    have ha:=S8 lm;have mB:=qFe (x:=x) (k:=(ld x nm).toNat);have s1:=que (a:=v) (b:=b2) (C:=((F+jt x+0:Nat):Int)) (d:=(m2.calls:Int)) (i:=m2.inp) (o:=m2.out) (q:=F+vY x (ld x nm).toNat) (jG.cell c1 O) (jG.cell c3 O) (by unfold lK;omega) O;have hset:Aj I.p x nm v m2={ m2 with frm:=m2.frm.set (ld x nm).toNat v }:=by rw [Aj,aw h1]
    rw [hset];exact ⟨_,_,_,_,_,_,_,R.trans (.one rfl s1),(jG.push hI O).frm _,(hS.le O).trans (SK.set (.inr O)) (aC _),mP.set (by rw [mP.len];exact lm) hU,by rw [bl O];exact hre,hc,by show _+40 * m2.left<=_;omega,by show _<=m2.left+_;omega,.inl ⟨rfl,rfl,by show (m2.calls:Int)=_;rw [hc],rfl⟩⟩
  . obtain ⟨i,g,h3,h4,h5,h6⟩:=h2
    rw [am h1] at hs;rw [hs,h3] at d2;have hk:g.kind=2:=by omega
    obtain ⟨c1,c3,c4,c5⟩:=Cd.ref d2;cases (show q1+2=q from c4);obtain ⟨g1,g2,g3⟩:=hI.ah i g h5 O;rw [g1] at c3;have htop:=hI.ai;have jA:1<=qB g:=by unfold qB;omega
    have s1:=qAH (a:=v) (b:=b2) (C:=((F+jt x+0:Nat):Int)) (d:=(m2.calls:Int)) (i:=m2.inp) (o:=m2.out) (q:=I.ga i) (jG.cell c1 O) (jG.cell c3 O) O;have hset:Aj I.p x nm v m2={ m2 with ah:=m2.ah.set i v }:=by rw [Aj,am h1,h4,aH]
    rw [hset];have iL:SK I c2 (c2.set (I.ga i) v) (F+jt x):=.set (.inl O);exact ⟨_,_,_,_,_,_,_,R.trans (.one rfl s1),jG.setVar hI h5 hk hU,(hS.trans iL (aC _)).le O,mP.keep iL hH (aC _),(iL _ O O).trans hre,hc,by show _+40 * m2.left<=_;omega,by show _<=m2.left+_;omega,.inl ⟨rfl,rfl,by show (m2.calls:Int)=_;rw [hc],rfl⟩⟩
  . exact absurd h2.1 Dc
end
def qrz(k:Nat):UInt8.ofNat (k % 256)=UInt8.ofNat k:=by
 apply fM.1;simp [gf]
section
variable{I:Im}(hI:I.OK)(hE:PE I n)(hx:x∈I.p.funcs){av:Int}(hq:q<=I.G)(hM:MR I c m)(hF:FR x F c m.frm)(kQ:c[F+x.params.length]?=some ret)(hH:I.H<=F)(hl:m.left≠0)(hr:F+jt x+102+120 * (100 - m.calls)<=65530)
include hI hE hx hq hM hF kQ hH hl hr
theorem qGL(hv:nN y=true)(hu:oM y=true)(hd:∀ nd∈pk y lp,j7 I.p x nd=0)(hy:dX y<=16)(mX:1<=m.calls)(jo:Cd I.af I.lab a ((cE I.p x y 0 kk).1++[.num DM ((x.locals.length+1:Nat):Int)]) q) :
  OS I (ms c av b ((F+jt x:Nat):Int) (m.calls:Int) (a:Int) m.inp m.out) x F q ls c m ret (((jm I.p I.OP n).e x y (dn m)).and λv m=>.ok (3,v) m):=by
 obtain ⟨q1,d1,d2⟩:=jo.app;obtain ⟨c1,c3,c4,c5⟩:=Cd.num d2 Dc Dc;refine yX (w:=0) (j:=0) (D:=17) (w':=0) (c':=c) hE hx hM hF hH hl hv hu hd d1 O hM .refl (aC _) O O (.nil _) O (OS I _ x F q ls c m ret) Tt (λ_ _ _ h=>h) λv m2 k c2 b2 R jG hS hf hc hU k1 k2 mP _=>?_;have hszF:jt x=x.params.length+1+x.locals.length:=rfl;have hre:c2[F+x.params.length]?=some ret:=(hS _ O O).trans kQ;have h100:=jG.calls;have s1:=Xy (a:=v) (b:=b2) (C:=((F+jt x+0:Nat):Int)) (i:=m2.inp) (o:=m2.out) (q:=F+x.params.length) (jG.cell c1 O) (jG.cell c3 O) (by unfold lK;omega) hre (e:=m2.calls - 1) O;rw [show m2.calls - 1+1=m2.calls by omega] at s1;exact ⟨_,_,_,_,_,_,_,R.trans (.one rfl s1),jG,hS.le O,mP,hre,hc,by omega,by omega,.inr (.inr (.inr ⟨rfl,rfl,hU,rfl,by rw [hc],rfl⟩))⟩
def W3{p:Prop} (h:p:=by
 exact ⟨_,_,R.trans (.one rfl s1),rfl,rfl,λ_=>rfl,by omega,by omega,λh=>absurd h Dc⟩):p:=h
theorem qGK(hv:nN y=true)(hu:oM y=true)(hd:∀ nd∈pk y lp,j7 I.p x nd=0)(hy:dX y<=16)(jo:Cd I.af I.lab a ((cE I.p x y 0 kk).1++[.op ME]) q) :
    OS I (ms c av b ((F+jt x:Nat):Int) (m.calls:Int) (a:Int) m.inp m.out) x F q ls c m ret (((jm I.p I.OP n).e x y (dn m)).and λv m=>if 20000<=m.out.length then .fin m 5 0 else .ok (0,0) { m with out:=m.out++[UInt8.ofNat v.toNat] }):=by
  obtain ⟨q1,d1,d2⟩:=jo.app;obtain ⟨c1,c4,c5⟩:=Cd.op d2;cases (show q1+1=q from c4);refine yX (w:=0) (j:=0) (D:=17) (w':=0) (c':=c) hE hx hM hF hH hl hv hu hd d1 O hM .refl (aC _) O O (.nil _) O (OS I _ x F _ ls c m ret) Tt (λ_ _ _ h=>h) λv m2 k c2 b2 R jG hS hf hc hU k1 k2 mP _=>?_;have hszF:jt x=x.params.length+1+x.locals.length:=rfl;have hre:c2[F+x.params.length]?=some ret:=(hS _ O O).trans kQ;have r9:=jG.out;have s1:=qI5 (a:=v) (b:=b2) (C:=((F+jt x+0:Nat):Int)) (d:=(m2.calls:Int)) (i:=m2.inp) (o:=m2.out) (jG.cell c1 O);show OS I _ x F _ ls c m ret (if 20000<=m2.out.length then _ else _);by_cases h:20000<=m2.out.length
  . rw [aw h]
    rw [aw O] at s1;exact W3
  . rw [am h]
    rw [am O,qrz] at s1;exact ⟨_,_,_,_,_,_,_,R.trans (.one rfl s1),⟨jG.len,jG.code,jG.var,jG.ae,jG.calls,by simp;omega⟩,hS.le O,mP,hre,hc,by show _+40 * m2.left<=_;omega,by show _<=m2.left+_;omega,.inl ⟨rfl,rfl,by show (m2.calls:Int)=_;rw [hc],rfl⟩⟩
theorem qBd(hv:nN y=true)(hu:oM y=true)(hd:∀ nd∈pk y lp,j7 I.p x nd=0)(hy:dX y<=16)(jo:Cd I.af I.lab a ((cE I.p x y 0 kk).1++[.op Bv]) q) :
  OS I (ms c av b ((F+jt x:Nat):Int) (m.calls:Int) (a:Int) m.inp m.out) x F q ls c m ret (((jm I.p I.OP n).e x y (dn m)).and λv m=>.fin m 1 v):=by
 obtain ⟨q1,d1,d2⟩:=jo.app;obtain ⟨c1,c4,c5⟩:=Cd.op d2;cases (show q1+1=q from c4);refine yX (w:=0) (j:=0) (D:=17) (w':=0) (c':=c) hE hx hM hF hH hl hv hu hd d1 O hM .refl (aC _) O O (.nil _) O (OS I _ x F _ ls c m ret) Tt (λ_ _ _ h=>h) λv m2 k c2 b2 R jG hS hf hc hU k1 k2 mP _=>?_;have s1:=qx0 (a:=v) (b:=b2) (C:=((F+jt x+0:Nat):Int)) (d:=(m2.calls:Int)) (i:=m2.inp) (o:=m2.out) (jG.cell c1 O);exact W3
omit hE hx hr in
theorem qrF{j:Int}(hj:j=1\/j=2)(h2:2<=ls.length)(jo:Cd I.af I.lab a [.ref vE (ls.getD (ls.length - j.toNat) [])] q) :
  OS I (ms c av b ((F+jt x:Nat):Int) (m.calls:Int) (a:Int) m.inp m.out) x F q ls c m ret (.ok (j,0) (dn m)):=by
 obtain ⟨c1,c3,c4,c5⟩:=jo.ref;have s1:=Tc (a:=av) (b:=b) (C:=((F+jt x:Nat):Int)) (d:=(m.calls:Int)) (i:=m.inp) (o:=m.out) (hM.cell c1 O) (hM.cell c3 O);refine ⟨1,c,_,_,_,_,_,.one Z s1,hM.dn,.refl,hF,kQ,Z,by show 1+40 * (m.left - 1)<=_;omega,by show _<=m.left - 1+40 * 1;omega,?_⟩;rcases hj with rfl|rfl
 . exact .inr (.inl ⟨rfl,h2,rfl,rfl,rfl⟩)
 . exact .inr (.inr (.inl ⟨rfl,h2,rfl,rfl,rfl⟩))
end
section
variable{I:Im}(hI:I.OK)(hE:PE I n)(hx:x∈I.p.funcs){av:Int}(hq:q<=I.G)(hM:MR I c m)(hF:FR x F c m.frm)(kQ:c[F+x.params.length]?=some ret)(hH:I.H<=F)(hl:m.left≠0)(hr:F+jt x+102+120 * (100 - m.calls)<=65530)
include hI hE hx hq hM hF kQ hH hl hr
theorem quE(hv:nN y=true)(hu:oM y=true)(hd:∀ nd∈pk y lp,j7 I.p x nd=0)(hy:dX y<=16)(yU:nN z=true)(tk:oM z=true)(AT:∀ nd∈pk z lp,j7 I.p x nd=0)(hz:dX z<=16)(hn:pF I.p x (nm,3,0)=0)(jo:Cd I.af I.lab a ((cE I.p x y 0 kk).1++.num Dx (vi I.p (gi I.p nm))::.op qj::(cE I.p x z 1 k2).1++[.ref Oj (gT (gi I.p nm))]) q) :
    OS I (ms c av b ((F+jt x:Nat):Int) (m.calls:Int) (a:Int) m.inp m.out) x F q ls c m ret (((jm I.p I.OP n).e x y (dn m)).and λi m=>if ((pn I.p nm m).length:Int)<=i then .fin m 1 1 else ((jm I.p I.OP n).e x z m).and λv m=>.ok (0,0) { m with ae:=m.ae.set (nS I.p nm).toNat ((pn I.p nm m).set i.toNat v) }):=by
  obtain ⟨q2,d1,d2⟩:=jo.app;obtain ⟨q1,d3,d4⟩:=d1.app;obtain ⟨c1,c2,c3,c4⟩:=Cd.num d4 Dc Dc;obtain ⟨c5,c6,c7⟩:=Cd.op c3;obtain ⟨e1,e2,e3,e4⟩:=Cd.ref d2;cases (show q2+2=q from e3);obtain ⟨_,h2⟩:=(Ko hn Dc).resolve_left (λh=>by omega);obtain ⟨i,g,h3,h4,h5,h6⟩:=h2.resolve_right (λh=>by omega);have hg3:=hI.gk i g h5;have hk:g.kind=3:=by omega
  obtain ⟨g1,g2,g3⟩:=hI.ah i g h5 O;rw [h3,show vi I.p (i:Int)=g.num by rw [vi,aH,h5]] at c2;rw [h3,g1] at e2;have hszF:jt x=x.params.length+1+x.locals.length:=rfl;refine yX (w:=0) (j:=0) (D:=17) (w':=0) (c':=c) hE hx hM hF hH hl hv hu hd d3 O hM .refl (aC _) O O (.nil _) O (OS I _ x F _ ls c m ret) Tt (λ_ _ _ h=>h) λv m2 k nV b2 R jG hS hf hc hU k1 k3 mP _=>?_;obtain ⟨l,l1,l2,l3⟩:=jG.ae i g h5 hk;have ha:pn I.p nm m2=l:=by rw [pn,h4,aH,aM,l1];rfl
  have hb:=qq1 (a:=v) (b:=b2) (C:=((F+jt x+0:Nat):Int)) (d:=(m2.calls:Int)) (i:=m2.inp) (o:=m2.out) (jG.cell c1 O) (jG.cell c2 O);show OS I _ x F _ ls c m ret (if ((pn I.p nm m2).length:Int)<=v then _ else _);rw [ha];by_cases hv0:(l.length:Int)<=v
  . rw [aw hv0]
    exact Vr
  rw [am hv0];rw [aw O] at hb;obtain ⟨u1,u2⟩:=hU;have iQ:=jG.len;have hp:=Kg (a:=v) (b:=1) (q:=F+jt x) (d:=(m2.calls:Int)) (i:=m2.inp) (o:=m2.out) (jG.cell c5 O) O iQ;have iL:SK I nV (nV.set (F+jt x) v) (F+jt x):=.set (.inr (aC _));refine Mv (m:=m) (σ:=17) hE hx hH yU tk AT (w':=1) c6 O (jG.push hI O) (mP.keep iL hH (aC _)) O Q21 ((R.trans (mb.one Z hb)).trans (mb.one Z hp)) O O (OS I _ x F _ ls c m ret) Tt (λ_ _ _ h=>h) λv2 m3 k4 tI b3 R3 lW nY xU rU hU3 k5 k6=>?_;obtain ⟨l',l4,l5,l6⟩:=lW.ae i g h5 hk;have hlen3:=lW.len;have ha3:pn I.p nm m3=l':=by rw [pn,h4,aH,aM,l4];rfl
  have lm:v.toNat < l'.length:=by omega
  have hcell:tI[F+jt x]?=some v:=(nY _ O O).trans (bK O);have hsg:l'.length=qB g:=by unfold qB;omega
  have s1:=qAF (a:=v2) (b:=b3) (r:=F+jt x) (d:=(m3.calls:Int)) (i:=m3.inp) (o:=m3.out) (q:=I.ga i+v.toNat) (lW.cell e1 O) (lW.cell e2 O) hcell O (by unfold lK;omega) O;have hset:({ m3 with ae:=m3.ae.set (nS I.p nm).toNat ((pn I.p nm m3).set v.toNat v2) }:MS)={ m3 with ae:=m3.ae.set i (l'.set v.toNat v2) }:=by rw [ha3,h4,aH]
  show OS I _ x F _ ls c m ret (.ok (0,0) { m3 with ae:=m3.ae.set (nS I.p nm).toNat ((pn I.p nm m3).set v.toNat v2) });rw [hset];have hS4:SK I tI (tI.set (I.ga i+v.toNat) v2) (F+jt x+1):=.set (.inl O);have hSS:SK I nV (tI.set (I.ga i+v.toNat) v2) (F+jt x):=iL.trans (nY.trans hS4 (aC _)) O;have hFF:FR x F (tI.set (I.ga i+v.toNat) v2) m3.frm:=by
    have xU:m3.frm=m2.frm:=xU;rw [xU];exact mP.keep hSS hH (aC _)
  exact ⟨_,_,_,_,_,_,_,R3.trans (.one rfl s1),lW.setArr hI h5 hk l4 lm hU3,(hS.trans hSS (aC _)).le O,hFF,((hS.trans hSS (aC _)) _ O O).trans kQ,rU.trans hc,by show _+40 * m3.left<=_;omega,by show _<=m3.left+_;omega,.inl ⟨rfl,rfl,by show (m3.calls:Int)=_;rw [rU,hc],rfl⟩⟩
end
mutual
def dS:jb->Nat
 | .mk _ _ es b e=>max (sD es) (max (vZ b) (vZ e))
def vZ:List jb->Nat
 | []=>0
 | x::r=>max (dS x) (vZ r)
end
def PT(I:Im)(n:Nat):Prop:=∀ (x:iT) (y:jb) (lv lp k a q:Nat) (ls:List iR) (m:MS) (c:LInt9) (F:Nat) (av b ret:Int),x∈I.p.funcs->sx y lv=true->zu y=true->dS y<=16->(∀ nd∈xZ y lp,j7 I.p x nd=0)->(0 < lp->2<=ls.length)->Cd I.af I.lab a (cS I.p x y k ls).1 q->q<=I.G->MR I c m->FR x F c m.frm->c[F+x.params.length]?=some ret->I.H<=F->F+jt x+102+120 * (100 - m.calls)<=65530->1<=m.calls ->
 OS I (ms c av b ((F+jt x:Nat):Int) (m.calls:Int) (a:Int) m.inp m.out) x F q ls c m ret ((jm I.p I.OP n).t x y m)
def OS.pre{c2:LInt9}(h:OS I s2 x F q ls c2 m2 ret r)(R:mb s j s2)(hS:SK I c c2 F)(hc:m2.calls=m.calls)(h1:j+40 * m2.left<=40 * m.left)(h2:m.left<=m2.left+40 * j):OS I s x F q ls c m ret r:=by
 cases r with
 | out=>trivial
 | fin m' st cd=>exact uN.pre h R h1 O
 | ok y m'=>
  obtain ⟨k,c',a',b',C',e',p',R',hM,hS',hF,hr,hc',k1,k2,hw⟩:=h;exact ⟨_,c',a',b',C',e',p',R.trans R',hM,hS.trans hS' (aC _),hF,hr,hc'.trans hc,by omega,by omega,hc▸hw⟩
def FY{I:Im}{n:Nat}(hT:PT I n){x:iT}(hx:x∈I.p.funcs):∀ (l:List jb) (lv lp k a q:Nat) (ls:List iR) (m:MS) (c:LInt9) (F:Nat) (av b ret:Int),nT l lv=true->qk l=true->vZ l<=16->(∀ nd∈lI l lp,j7 I.p x nd=0)->(0 < lp->2<=ls.length)->Cd I.af I.lab a (cB I.p x l k ls).1 q->q<=I.G->MR I c m->FR x F c m.frm->c[F+x.params.length]?=some ret->I.H<=F->F+jt x+102+120 * (100 - m.calls)<=65530->1<=m.calls ->
    OS I (ms c av b ((F+jt x:Nat):Int) (m.calls:Int) (a:Int) m.inp m.out) x F q ls c m ret (oN ((jm I.p I.OP n).t x) l m)
  | [],lv,lp,k,a,q,ls,m,c,F,av,b,ret,_,_,_,_,_,jo,_,hM,hF,kQ,_,_,_=>by
    unfold cB at jo;cases (show a=q from jo);exact ⟨0,c,av,b,_,_,_,.nil _,hM,.refl,hF,kQ,rfl,by omega,by omega,.inl ⟨rfl,rfl,rfl,rfl⟩⟩
  | y::r,lv,lp,k,a,q,ls,m,c,F,av,b,ret,hv,hu,hd,hn,sF,jo,hq,hM,hF,kQ,hH,hr,mX=>by
    simp only [nT,qk,aA] at hv hu;rw [vZ] at hd;unfold cB at jo;obtain ⟨q1,d1,d2⟩:=jo.app;have ka:=d2.le;have h:=hT x y lv lp k a q1 ls m c F av b ret hx hv.1 hu.1 O (λnd h=>hn nd (aN _ h)) sF d1 O hM hF kQ hH hr mX;rw [oN];cases xX:(jm I.p I.OP n).t x y m with
    | out=>trivial
    | fin m' st cd=>rw [xX] at h;exact h
    | ok w m2=>
      rw [xX] at h;obtain ⟨k',c',a',b',C',e',p',R',pP,hS',hF',hr',hc',k1,k2,hw⟩:=h;show OS I _ x F q ls c m ret (if w.1=0 then oN _ r m2 else .ok w m2);by_cases h0:w.1=0
      . rw [aw h0]
        obtain ⟨_,w2,w3,w4⟩:=hw.resolve_right (by rintro (h|h|h)<;>omega);subst w2 w3 w4;have R2:mb (ms c av b ((F+jt x:Nat):Int) (m.calls:Int) (a:Int) m.inp m.out) k' (ms c' a' b' ((F+jt x:Nat):Int) (m2.calls:Int) (q1:Int) m2.inp m2.out):=by rw [hc'];exact R'
        exact OS.pre (FY hT hx r lv lp _ q1 q ls m2 c' F a' b' ret hv.2 hu.2 O (λnd h=>hn nd (aJ _ h)) sF d2 hq pP hF' hr' hH (by rw [hc'];exact hr) O) R2 hS' hc' k1 k2
      . rw [am h0]
        exact ⟨k',c',a',b',C',e',p',R',pP,hS',hF',hr',hc',k1,k2,hw.imp (λh=>absurd h.1 h0) id⟩
def OS.prej{I:Im}{s:lj}{c2:LInt9}(h:OS I s2 x F q1 ls c2 m2 ret r)(R:mb s j s2)(hS:SK I c c2 F)(hc:m2.calls=m.calls)(h1:j+1+40 * m2.left<=40 * m.left)(h2:m.left<=m2.left+40 * j)
    (mY:∀ c' a' b' (m':MS),MR I c' m'->lY ji (ms c' a' b' ((F+jt x:Nat):Int) (m'.calls:Int) (q1:Int) m'.inp m'.out)=ms c' a' b' ((F+jt x:Nat):Int) (m'.calls:Int) (q:Int) m'.inp m'.out):OS I s x F q ls c m ret r:=by
  cases r with
  | out=>trivial
  | fin m' st cd=>exact uN.pre h R O O
  | ok y m'=>
    obtain ⟨k,c',a',b',C',e',p',R',hM,hS',hF,hr,hc',k1,k2,hw⟩:=h;rcases hw with ⟨w1,w2,w3,w4⟩|hw
    . subst w2 w3 w4
      have s1:=mY c' a' b' m' hM;rw [hc'] at s1;exact ⟨_,c',a',b',_,_,_,(R.trans R').trans (.one rfl s1),hM,hS.trans hS' (aC _),hF,hr,hc'.trans hc,by omega,by omega,.inl ⟨w1,rfl,by rw [hc],rfl⟩⟩
    . exact ⟨_,c',a',b',C',e',p',R.trans R',hM,hS.trans hS' (aC _),hF,hr,hc'.trans hc,by omega,by omega,.inr (hc▸hw)⟩
section
variable{I:Im}(hI:I.OK)(hE:PE I n)(hT:PT I n)(hx:x∈I.p.funcs){k3 km:Nat}{av:Int}(hq:q<=I.G)(hM:MR I c m)(hF:FR x F c m.frm)(kQ:c[F+x.params.length]?=some ret)(hH:I.H<=F)(hl:m.left≠0)(hr:F+jt x+102+120 * (100 - m.calls)<=65530)(mX:1<=m.calls)
include hI hE hT hx hq hM hF kQ hH hl hr mX
theorem qGI(hv:nN y=true)(hu:oM y=true)(hd:∀ nd∈pk y lp,j7 I.p x nd=0)(hy:dX y<=16)(bv:nT B lv=true)(bu:qk B=true)(bd:vZ B<=16)(bn:∀ nd∈lI B lp,j7 I.p x nd=0)(sF:0 < lp->2<=ls.length)(jo:Cd I.af I.lab a ((cE I.p x y 0 kk).1++.ref tv (lT kl)::(cB I.p x B k2 ls).1++[.lab (lT kl)]) q) :
    OS I (ms c av b ((F+jt x:Nat):Int) (m.calls:Int) (a:Int) m.inp m.out) x F q ls c m ret (((jm I.p I.OP n).e x y (dn m)).and λv m=>if v≠0 then oN ((jm I.p I.OP n).t x) B m else oN ((jm I.p I.OP n).t x) [] m):=by
  obtain ⟨q2,d1,d2⟩:=jo.app;obtain ⟨q1,d3,d4⟩:=d1.app;obtain ⟨c1,c2,c3,c4⟩:=Cd.ref d4;obtain ⟨f1,f2⟩:=Cd.lbl d2;cases (show q2=q from f2);have hszF:jt x=x.params.length+1+x.locals.length:=rfl;refine yX (w:=0) (j:=0) (D:=17) (w':=0) (c':=c) hE hx hM hF hH hl hv hu hd d3 O hM .refl (aC _) O O (.nil _) O (OS I _ x F _ ls c m ret) Tt (λ_ _ _ h=>h) λv m2 k nV b2 R jG hS hf hc hU k1 k3 mP _=>?_;have s1:=JS (a:=v) (b:=b2) (C:=((F+jt x:Nat):Int)) (d:=(m2.calls:Int)) (i:=m2.inp) (o:=m2.out) (jG.cell c1 O) (jG.cell c2 O);have hc:m2.calls=m.calls:=hc;have hS:SK I c nV (F+jt x):=hS;have hret2:nV[F+x.params.length]?=some ret:=(hS _ O O).trans kQ;show OS I _ x F _ ls c m ret (if v≠0 then _ else _);by_cases h0:v=0
  . rw [am (λk=>k h0)]
    rw [aw h0,f1] at s1;exact ⟨_,nV,_,_,_,_,_,R.trans (.one rfl s1),jG,hS.le O,mP,hret2,hc,by omega,by omega,.inl ⟨rfl,rfl,by rw [hc],rfl⟩⟩
  . rw [aw h0]
    rw [am h0] at s1;exact OS.pre (FY hT hx B lv lp _ _ _ ls m2 nV F v b2 ret bv bu bd bn sF c3 hq jG mP hret2 hH (by rw [hc];exact hr) O) (R.trans (.one rfl s1)) (hS.le O) hc O O
theorem qGJ(hv:nN y=true)(hu:oM y=true)(hd:∀ nd∈pk y lp,j7 I.p x nd=0)(hy:dX y<=16)(bv:nT B lv=true)(bu:qk B=true)(bd:vZ B<=16)(bn:∀ nd∈lI B lp,j7 I.p x nd=0)(ev:nT E lv=true)(eu:qk E=true)(ed:vZ E<=16)(en:∀ nd∈lI E lp,j7 I.p x nd=0)(sF:0 < lp->2<=ls.length)(jo:Cd I.af I.lab a ((cE I.p x y 0 kk).1++.ref tv (lT kl)::(cB I.p x B k2 ls).1++.ref vE (lT km)::.lab (lT kl)::(cB I.p x E k3 ls).1++[.lab (lT km)]) q) :
    OS I (ms c av b ((F+jt x:Nat):Int) (m.calls:Int) (a:Int) m.inp m.out) x F q ls c m ret (((jm I.p I.OP n).e x y (dn m)).and λv m=>if v≠0 then oN ((jm I.p I.OP n).t x) B m else oN ((jm I.p I.OP n).t x) E m):=by
  obtain ⟨q3,d0,d2⟩:=jo.app;obtain ⟨q2,d1,d5⟩:=d0.app;obtain ⟨q1,d3,d4⟩:=d1.app;obtain ⟨c1,c2,c3,c4⟩:=Cd.ref d4;obtain ⟨g1,g2,g3,g4⟩:=Cd.ref d5;obtain ⟨f1,f2⟩:=Cd.lbl g3;obtain ⟨f3,f4⟩:=Cd.lbl d2;cases (show q3=q from f4);have hszF:jt x=x.params.length+1+x.locals.length:=rfl;refine yX (w:=0) (j:=0) (D:=17) (w':=0) (c':=c) hE hx hM hF hH hl hv hu hd d3 O hM .refl (aC _) O O (.nil _) O (OS I _ x F _ ls c m ret) Tt (λ_ _ _ h=>h) λv m2 k nV b2 R jG hS hf hc hU k1 k3 mP _=>?_;have s1:=JS (a:=v) (b:=b2) (C:=((F+jt x:Nat):Int)) (d:=(m2.calls:Int)) (i:=m2.inp) (o:=m2.out) (jG.cell c1 O) (jG.cell c2 O);have hc:m2.calls=m.calls:=hc;have hS:SK I c nV (F+jt x):=hS;have hret2:nV[F+x.params.length]?=some ret:=(hS _ O O).trans kQ;show OS I _ x F _ ls c m ret (if v≠0 then _ else _);by_cases h0:v=0
  . rw [am (λk=>k h0)]
    rw [aw h0,f1] at s1;exact OS.pre (FY hT hx E lv lp _ _ _ ls m2 nV F v b2 ret ev eu ed en sF f2 hq jG mP hret2 hH (by rw [hc];exact hr) O) (R.trans (.one rfl s1)) (hS.le O) hc O O
  . rw [aw h0]
    rw [am h0] at s1;refine OS.prej (FY hT hx B lv lp _ _ _ ls m2 nV F v b2 ret bv bu bd bn sF c3 O jG mP hret2 hH (by rw [hc];exact hr) O) (R.trans (.one Z s1)) (hS.le O) hc O O λc' a' b' m' pP=>?_;have s2:=Tc (a:=a') (b:=b') (C:=((F+jt x:Nat):Int)) (d:=(m'.calls:Int)) (i:=m'.inp) (o:=m'.out) (pP.cell g1 O) (pP.cell g2 O);rw [f3] at s2;exact s2
end
def ER.and_and{α β γ:Type}(r:ER α)(f:α->MS->ER β)(g:β->MS->ER γ):(r.and f).and g=r.and λa m=>(f a m).and g:=by cases r<;>rfl
abbrev up(m:MS):MS:={ m with left:=m.left+1 }
def PW(I:Im)(n:Nat):Prop:=∀ (x:iT) (y:Ex) (B:List jb) (lv lp kk k2 a q1 q2:Nat) (lB lE:iR) (ls:List iR) (m:MS) (c:LInt9) (F:Nat) (av b ret:Int),x∈I.p.funcs->nN y=true->oM y=true->dX y<=16->(∀ nd∈pk y lp,j7 I.p x nd=0)->nT B lv=true->qk B=true->vZ B<=16->(∀ nd∈lI B (lp+1),j7 I.p x nd=0) ->
 Cd I.af I.lab a (cE I.p x y 0 kk).1 q1->Cd I.af I.lab q1 (.ref tv lE::(cB I.p x B k2 (ls++[lB,lE])).1) q2->Cd I.af I.lab q2 [.ref vE lB,.lab lE] (q2+2)->I.lab lB=(a:Int)->q2+2<=I.G->MR I c m->FR x F c m.frm->c[F+x.params.length]?=some ret->I.H<=F->F+jt x+102+120 * (100 - m.calls)<=65530->1<=m.calls ->
 OS I (ms c av b ((F+jt x:Nat):Int) (m.calls:Int) (a:Int) m.inp m.out) x F (q2+2) ls c (up m) ret ((jm I.p I.OP n).w x y B m)
def qy2(hE:PE I n)(hT:PT I n)(hW:PW I n):PW I (n+1):=by
  intro x y B lv lp kk k2 a q1 q2 lB lE ls m c F av b ret hx hv hu hy hd bv bu bd bn hcd1 hcd2 hcd3 hlB hq hM hF kQ hH hr mX;obtain ⟨c1,c2,c3,c4⟩:=Cd.ref hcd2;obtain ⟨g1,g2,g3,g4⟩:=Cd.ref hcd3;obtain ⟨f1,_⟩:=Cd.lbl g3;have hszF:jt x=x.params.length+1+x.locals.length:=rfl;show OS I _ x F _ ls c (up m) ret (((jm I.p I.OP n).e x y m).and λv m=>if v=0 then .ok (0,0) m else (oN ((jm I.p I.OP n).t x) B m).and λy' m=>if y'.1=1 then .ok (0,0) m else if y'.1=3 then .ok y' m else (jm I.p I.OP n).w x y B m);refine OE.bind (m:=up m) (j:=0) (δ:=1) (σ:=17) (OS I _ x F _ ls c (up m) ret) Tt (λ_ _ _ h=>h) (hE x y lp 0 kk a q1 m c F av b hx hv hu hd hcd1 O hM hF hH O) (.nil _) (by show 0+40 * m.left<=40 * (m.left+1);omega) (by show m.left+1<=m.left+40 * 0+1;omega) O λv m2 h=>?_;obtain ⟨k,nV,b2,R,jG,hS,hf,hc,hU,k1,k3⟩:=h;have hS:SK I c nV (F+jt x):=hS;have mP:FR x F nV m2.frm:=by rw [hf];exact hF.keep hS hH (aC _)
  have hret2:nV[F+x.params.length]?=some ret:=(hS _ O O).trans kQ;have s1:=JS (a:=v) (b:=b2) (C:=((F+jt x:Nat):Int)) (d:=(m2.calls:Int)) (i:=m2.inp) (o:=m2.out) (jG.cell c1 O) (jG.cell c2 O);show OS I _ x F _ ls c (up m) ret (if v=0 then _ else _);by_cases h0:v=0
  . rw [aw h0]
    rw [aw h0,f1] at s1;exact ⟨_,nV,_,_,_,_,_,R.trans (.one rfl s1),jG,hS.le O,mP,hret2,hc,by show _<=40 * (m.left+1);omega,by show m.left+1<=_;omega,.inl ⟨rfl,rfl,by show (m2.calls:Int)=(m.calls:Int);rw [hc],rfl⟩⟩
  rw [am h0];rw [am h0] at s1;have h:=FY hT hx B lv (lp+1) _ _ _ (ls++[lB,lE]) m2 nV F v b2 ret bv bu bd bn (λ_=>by simp) c3 O jG mP hret2 hH (by rw [hc];exact hr) O;have R1:=R.trans (.one rfl s1);cases xX:oN ((jm I.p I.OP n).t x) B m2 with
  | out=>trivial
  | fin m' st cd=>rw [xX] at h;exact uN.pre h R1 (by show _<=40 * (m.left+1);omega) (by show m.left+1+17<=_;omega)
  | ok w m3=>
    rw [xX] at h;obtain ⟨k',tI,a3,b3,C3,e3,p3,R3,lW,nY,hF3,hret3,rU,k5,k6,hw⟩:=h;have hSS:SK I c tI F:=(hS.le O).trans nY (aC _);have mv:m3.calls=m.calls:=rU.trans hc;have e1:(ls++[lB,lE]).getD ((ls++[lB,lE]).length - 1) []=lE:=by simp [aM]
    have e2:(ls++[lB,lE]).getD ((ls++[lB,lE]).length - 2) []=lB:=by simp [aM]
    have again:∀ {j:Nat} {a' b':Int},mb (ms c av b ((F+jt x:Nat):Int) (m.calls:Int) (a:Int) m.inp m.out) j (ms tI a' b' ((F+jt x:Nat):Int) (m3.calls:Int) (a:Int) m3.inp m3.out)->j+40 * m3.left<=40 * m.left->m.left<=m3.left+40 * j->OS I (ms c av b ((F+jt x:Nat):Int) (m.calls:Int) (a:Int) m.inp m.out) x F (q2+2) ls c (up m) ret ((jm I.p I.OP n).w x y B m3):=λ{j a' b'} RR j1 j2=>
      OS.pre (m2:=up m3) (hW x y B lv lp kk k2 a q1 q2 lB lE ls m3 tI F a' b' ret hx hv hu hy hd bv bu bd bn hcd1 hcd2 hcd3 hlB hq lW hF3 hret3 hH (by rw [mv];exact hr) O) RR hSS mv (by show j+40 * (m3.left+1)<=40 * (m.left+1);omega) (by show m.left+1<=m3.left+1+40 * j;omega)
    show OS I _ x F _ ls c (up m) ret (if w.1=1 then .ok (0,0) m3 else if w.1=3 then .ok w m3 else (jm I.p I.OP n).w x y B m3);rcases hw with ⟨w1,w2,w3,w4⟩|⟨w1,_,w2,w3,w4⟩|⟨w1,_,w2,w3,w4⟩|hw
    . rw [am O,am O]
      subst w2 w3 w4;have s2:=Tc (a:=a3) (b:=b3) (C:=((F+jt x:Nat):Int)) (d:=(m2.calls:Int)) (i:=m3.inp) (o:=m3.out) (lW.cell g1 O) (lW.cell g2 O);rw [hlB] at s2;have R4:=(R1.trans R3).trans (.one rfl s2);rw [<- rU] at R4;exact again R4 O O
    . rw [aw w1]
      rw [e1,f1] at w4;subst w2 w3 w4;exact ⟨_,tI,_,_,_,_,_,R1.trans R3,lW,hSS,hF3,hret3,mv,by show _<=40 * (m.left+1);omega,by show m.left+1<=_;omega,.inl ⟨rfl,rfl,by show (m2.calls:Int)=(m.calls:Int);rw [hc],rfl⟩⟩
    . rw [am O,am O]
      rw [e2,hlB] at w4;subst w2 w3 w4;have R4:=R1.trans R3;rw [<- rU] at R4;exact again R4 O O
    . rw [am O,aw hw.1]
      exact ⟨_,tI,_,_,_,_,_,R1.trans R3,lW,hSS,hF3,hret3,mv,by show _<=40 * (m.left+1);omega,by show m.left+1<=_;omega,.inr (.inr (.inr (by rw [<- hc];exact hw)))⟩
section
variable{I:Im}(hI:I.OK)(hx:x∈I.p.funcs){av:Int}{lB lE:iR}(hq:q<=I.G)(hM:MR I c m)(hF:FR x F c m.frm)(kQ:c[F+x.params.length]?=some ret)(hH:I.H<=F)(hl:m.left≠0)(hr:F+jt x+102+120 * (100 - m.calls)<=65530)(mX:1<=m.calls)
include hx hq hM hF kQ hH hl hr mX
theorem quF(hW:PW I n)(hv:nN y=true)(hu:oM y=true)(hd:∀ nd∈pk y lp,j7 I.p x nd=0)(hy:dX y<=16)(bv:nT B lv=true)(bu:qk B=true)(bd:vZ B<=16)(bn:∀ nd∈lI B (lp+1),j7 I.p x nd=0)(jo:Cd I.af I.lab a (.lab lB::(cE I.p x y 0 kk).1++.ref tv lE::(cB I.p x B k2 (ls++[lB,lE])).1++[.ref vE lB,.lab lE]) q) :
  OS I (ms c av b ((F+jt x:Nat):Int) (m.calls:Int) (a:Int) m.inp m.out) x F q ls c m ret ((jm I.p I.OP n).w x y B (dn m)):=by
 obtain ⟨q2,d1,d2⟩:=jo.app;obtain ⟨q1,d3,d4⟩:=d1.app;obtain ⟨f1,f2⟩:=Cd.lbl d3;obtain ⟨_,_,g3,_⟩:=Cd.ref d2;obtain ⟨_,g4⟩:=Cd.lbl g3;cases (show q2+2=q from g4);have h:=hW x y B lv lp kk k2 a q1 q2 lB lE ls (dn m) c F av b ret hx hv hu hy hd bv bu bd bn f2 d4 d2 f1 hq hM.dn hF kQ hH hr mX;have e:up (dn m)=m:=by
  show ({ m with left:=m.left - 1+1 }:MS)=m;rw [Nat.sub_add_cancel O]
 rw [e] at h;exact h
include hI
theorem qBc(hO:Cm I.OP)(hE:PE I n)(hC:PC I n)(hv:o5 az=true)(hu:qO az=true)(hd:∀ nd∈pM az lp,j7 I.p x nd=0)(hy:sD az<=16)(hn:pF I.p x (nm,4,(az.length:Int))=0)(jo:Cd I.af I.lab a ((cC I.p x az 0 kk).1++cL I.p nm az.length) q) :
  OS I (ms c av b ((F+jt x:Nat):Int) (m.calls:Int) (a:Int) m.inp m.out) x F q ls c m ret ((qf ((jm I.p I.OP n).e x) az (dn m)).and λvs m=>((jm I.p I.OP n).c (uJ I.p nm).toNat vs m).and λ_ m=>.ok (0,0) m):=by
 have h:=qry (n:=n) (σ:=17) (w:=0) (av:=av) (b:=b) hI hO hE hC hx hq hM hF hH hl hv hu hd hn jo O O;have hszF:jt x=x.params.length+1+x.locals.length:=rfl;rw [<- ER.and_and];refine OE.bind (m:=m) (m1:=m) (j:=0) (δ:=0) (σ:=17) (OS I _ x F _ ls c m ret) Tt (λ_ _ _ h=>h) h (.nil _) O O O λv m2 h=>?_;obtain ⟨k,nV,b2,R,jG,hS,hf,hc,hU,k1,k3⟩:=h;have hS:SK I c nV (F+jt x):=hS;exact ⟨_,nV,_,_,_,_,_,R,jG,hS.le O,by rw [hf];exact hF.keep hS hH (aC _),(hS _ O O).trans kQ,hc,by omega,by omega,.inl ⟨rfl,rfl,by rw [hc],rfl⟩⟩
end
def qy1(hI:I.OK)(hO:Cm I.OP)(hE:PE I n)(hC:PC I n)(hT:PT I n)(hW:PW I n):PT I (n+1):=by
  rintro x ⟨kd,nm,es,B,E⟩ lv lp kk a q ls m c F av b ret hx hv hu hdp hd sF jo hq hM hF kQ hH hr mX;obtain ⟨_,hc,hes,hb,he⟩:=wH hv;obtain ⟨k1,k2,a1,a2,a3,a4⟩:=BP hc;simp only [zu,aA] at hu;obtain ⟨d1,d2,d3,d4⟩:=FU hd;simp only [jb.kind,jb.exprs,jb.body,jb.els] at k1 k2 a1 a2 a3 a4 hes hb he;rw [dS] at hdp;show OS I _ x F q ls c m ret ((vI m).and λ_ m=>sX I.p (jm I.p I.OP n) x (.mk kd nm es B E) m);refine n_ (OS I _ x F q ls c m ret) Z Z (λ_ _ _ h=>h) λhl=>?_;unfold cS at jo;show OS I _ x F q ls c m ret (sX I.p (jm I.p I.OP n) x (.mk kd nm es B E) (dn m));unfold sX;have one:∀ {y:Ex} {r:List Ex},es=y::r->nN y=true/\oM y=true/\(∀ nd∈pk y lp,j7 I.p x nd=0)/\dX y<=16:=λ{y r} e=>by
    subst e;simp only [o5,qO,aA] at hes hu;rw [sD] at hdp;exact ⟨hes.1,hu.1.1.1,λnd h=>d2 nd (aN _ h),by omega⟩
  have lpos:kd=9\/kd=10->0 < lp:=λh=>by
    rcases eZ lp with h0|h0
    . rw [j7,aw ⟨h,h0⟩] at d1;exact absurd d1 Dc
    . exact h0
  have l1:wG kd=1->∃ y r,es=y::r:=λh=>by
    cases es with
    | nil=>rw [h] at a1;simp at a1
    | cons y r=>exact ⟨y,r,rfl⟩
  by_cases e1:kd=1
  . rw [aw e1] at jo
    rw [aw (show (jb.mk kd nm es B E).kind=1 from e1)];subst e1;obtain ⟨y,r,rfl⟩:=l1 rfl;obtain ⟨v1,v2,v3,v4⟩:=one rfl;unfold cH at jo;exact qrE (y:=y) (nm:=nm) hI hE hx hq hM hF kQ hH hl hr v1 v2 v3 v4 (by have e:oY (.mk 1 nm (y::r) B E)=(nm,1,0):=rfl;rwa [j7,am Q17,e] at d1) jo
  rw [am e1] at jo;rw [am (show ¬ (jb.mk kd nm es B E).kind=1 from e1)];by_cases e2:kd=2
  . rw [aw e2] at jo
    rw [aw (show (jb.mk kd nm es B E).kind=2 from e2)];subst e2;obtain ⟨y,z,r,rfl⟩:∃ y z r,es=y::z::r:=by
      match es,(show 2<=es.length from a1) with
      | y::z::r,_=>exact ⟨y,z,r,rfl⟩
    obtain ⟨v1,v2,v3,v4⟩:=one rfl;simp only [o5,qO,aA] at hes hu;simp only [sD] at hdp;have eI:∀ w k,cI I.p x (y::z::r) w k=cE I.p x z w k:=λw k=>by unfold cI cH;rfl
    have eH:∀ w k,cH I.p x (y::z::r) w k=cE I.p x y w k:=λw k=>by unfold cH;rfl
    rw [eH,eI] at jo;exact quE (y:=y) (z:=z) (nm:=nm) hI hE hx hq hM hF kQ hH hl hr v1 v2 v3 v4 hes.2.1 hu.1.1.2.1 (λnd h=>d2 nd (aJ _ (aN _ h))) O (by have e:oY (.mk 2 nm (y::z::r) B E)=(nm,3,0):=rfl;rwa [j7,am Q17,e] at d1) jo
  rw [am e2] at jo;rw [am (show ¬ (jb.mk kd nm es B E).kind=2 from e2)];by_cases e3:kd=3
  . rw [aw e3] at jo
    rw [aw (show (jb.mk kd nm es B E).kind=3 from e3)];subst e3;obtain ⟨y,r,rfl⟩:=l1 rfl;obtain ⟨v1,v2,v3,v4⟩:=one rfl;unfold cH at jo;by_cases e0:E.length=0
    . rw [aw e0] at jo
      obtain rfl:=List.length_eq_zero_iff.1 e0;exact qGI (y:=y) (B:=B) (lp:=lp) hI hE hT hx hq hM hF kQ hH hl hr mX v1 v2 v3 v4 hb hu.1.2 O d3 sF jo
    . rw [am e0] at jo
      exact qGJ (y:=y) (B:=B) (E:=E) (lp:=lp) hI hE hT hx hq hM hF kQ hH hl hr mX v1 v2 v3 v4 hb hu.1.2 O d3 he hu.2 O d4 sF jo
  rw [am e3] at jo;rw [am (show ¬ (jb.mk kd nm es B E).kind=3 from e3)];by_cases e4:kd=4
  . rw [aw e4] at jo
    rw [aw (show (jb.mk kd nm es B E).kind=4 from e4)];subst e4;obtain ⟨y,r,rfl⟩:=l1 rfl;obtain ⟨v1,v2,v3,v4⟩:=one rfl;unfold cH at jo;exact quF (y:=y) (B:=B) (lp:=lp) hx hq hM hF kQ hH hl hr mX hW v1 v2 v3 v4 hb hu.1.2 O d3 jo
  rw [am e4] at jo;rw [am (show ¬ (jb.mk kd nm es B E).kind=4 from e4)];by_cases e5:kd=5
  . rw [aw e5] at jo
    rw [aw (show (jb.mk kd nm es B E).kind=5 from e5)];subst e5;exact qBc (az:=es) (nm:=nm) hI hx hq hM hF kQ hH hl hr mX hO hE hC hes hu.1.1 d2 O (by have e:oY (.mk 5 nm es B E)=(nm,4,(es.length:Int)):=rfl;rwa [j7,am Q17,e] at d1) jo
  rw [am e5] at jo;rw [am (show ¬ (jb.mk kd nm es B E).kind=5 from e5)];by_cases e6:kd=6
  . rw [aw e6] at jo
    rw [aw (show (jb.mk kd nm es B E).kind=6 from e6)];subst e6;obtain ⟨y,r,rfl⟩:=l1 rfl;obtain ⟨v1,v2,v3,v4⟩:=one rfl;unfold cH at jo;exact qGL (y:=y) hI hE hx hq hM hF kQ hH hl hr v1 v2 v3 v4 mX jo
  rw [am e6] at jo;rw [am (show ¬ (jb.mk kd nm es B E).kind=6 from e6)];by_cases e7:kd=7
  . rw [aw e7] at jo
    rw [aw (show (jb.mk kd nm es B E).kind=7 from e7)];subst e7;obtain ⟨y,r,rfl⟩:=l1 rfl;obtain ⟨v1,v2,v3,v4⟩:=one rfl;unfold cH at jo;exact qGK (y:=y) hI hE hx hq hM hF kQ hH hl hr v1 v2 v3 v4 jo
  rw [am e7] at jo;rw [am (show ¬ (jb.mk kd nm es B E).kind=7 from e7)];by_cases e8:kd=8
  . rw [aw e8] at jo
    rw [aw (show (jb.mk kd nm es B E).kind=8 from e8)];subst e8;obtain ⟨y,r,rfl⟩:=l1 rfl;obtain ⟨v1,v2,v3,v4⟩:=one rfl;unfold cH at jo;exact qBd (y:=y) hI hE hx hq hM hF kQ hH hl hr v1 v2 v3 v4 jo
  rw [am e8] at jo;rw [am (show ¬ (jb.mk kd nm es B E).kind=8 from e8)];by_cases e9:kd=9
  . rw [aw e9] at jo
    rw [aw (show (jb.mk kd nm es B E).kind=9 from e9)];subst e9;exact qrF (j:=1) hI hq hM hF kQ hH hl (.inl rfl) (sF (lpos (.inl rfl))) jo
  rw [am e9] at jo;rw [am (show ¬ (jb.mk kd nm es B E).kind=9 from e9)];exact qrF (j:=2) hI hq hM hF kQ hH hl (.inr rfl) (sF (lpos (.inr O))) jo
def Im.BD(I:Im):Prop:=∀ x∈I.p.funcs,nT x.body 1=true/\qk x.body=true/\vZ x.body<=16/\∀ nd∈lI x.body 0,j7 I.p x nd=0
def qof{I:Im}(hI:I.OK){m:MS}{b d:Int}{i o:iR}:∀ (j:Nat) (c:LInt9) (C p q:Nat),MR I c m->Cd I.af I.lab p (List.replicate j (.op qj)) q->q<=I.G->I.H<=C->C+j<=65536 ->
  ∃ c',mb (ms c 0 b (C:Int) d (p:Int) i o) j (ms c' 0 b ((C+j:Nat):Int) d (q:Int) i o)/\MR I c' m/\(∀ k,k < C->c'[k]?=c[k]?)/\∀ t,t < j->c'[C+t]?=some 0
 | 0,c,C,p,q,hM,jo,_,_,_=>by
  cases (show p=q from jo);exact ⟨c,.nil _,hM,λ_ _=>rfl,λt h=>by omega⟩
 | j+1,c,C,p,q,hM,jo,hq,hC,hr=>by
  rw [eT] at jo;obtain ⟨c1,c2,c3⟩:=Cd.op jo;have hl:=hM.len;have s1:=Kg (a:=0) (b:=b) (q:=C) (d:=d) (i:=i) (o:=o) (hM.cell c1 O) O hl;obtain ⟨c',R,pP,h1,h2⟩:=qof (b:=b) (d:=d) (i:=i) (o:=o) hI j (c.set C 0) (C+1) (p+1) q (hM.push hI hC) c2 hq O O;rw [show C+1+j=C+(j+1) by omega] at R;have R1:=(mb.one rfl s1).trans R;rw [eO 1 j] at R1;refine ⟨c',R1,pP,λk hk=>(h1 k O).trans (bl O),λt ht=>?_⟩;cases t with
  | zero=>exact (h1 C O).trans (bK O)
  | succ t=>have:=h2 t O;rwa [show C+1+t=C+(t+1) by omega] at this
def qGO(hI:I.OK){av:Int}{i o:iR}{p:Nat}(hM:MR I c m)(jo:Cd I.af I.lab p ((if 0 < n then [.num pp 0] else [])++List.replicate n (.op qj)) q)(hq:q<=I.G)(hC:I.H<=C)(hr:C+n<=65536):
    ∃ j c' a',mb (ms c av b (C:Int) d (p:Int) i o) j (ms c' a' b ((C+n:Nat):Int) d (q:Int) i o)/\j<=n+1/\MR I c' m/\(∀ k,k < C->c'[k]?=c[k]?)/\∀ t,t < n->c'[C+t]?=some 0:=by
  by_cases h:0 < n
  . rw [aw h] at jo
    obtain ⟨c1,c2,c3,c4⟩:=Cd.num (L:=List.replicate n (.op qj)) jo Dc Dc;obtain ⟨c',R,pP,h1,h2⟩:=qof (b:=b) (d:=d) (i:=i) (o:=o) hI n c C (p+2) q hM c3 hq hC hr;have s1:=Kv (a:=av) (b:=b) (C:=(C:Int)) (d:=d) (i:=i) (o:=o) (hM.cell c1 O) (hM.cell c2 O);exact ⟨_,c',0,(mb.one rfl s1).trans R,by omega,pP,h1,h2⟩
  . obtain rfl:n=0:=by omega
    cases (show p=q from jo);exact ⟨0,c,av,.nil _,by omega,hM,λ_ _=>rfl,λt h=>by omega⟩
theorem qAo{l:Nat}(h:vs.length=n):pE (n+l) vs=vs++List.replicate l 0:=by grind [pE]
def qpz{I:Im}(hI:I.OK)(hB:I.BD)(hT:PT I n){i:Nat}{f:iT}{B:Nat}{av:Int}(hf:I.p.funcs[i]?=some f)(xu:vs.length=f.params.length)(hv:∀ k v,vs[k]?=some v->iY v/\c[B+k]?=some v)(h1:I.af[a]?=some 28)(h2:I.af[a+1]?=some (I.lab (fT (i:Int))))(ha:a+2<=I.G)(hM:MR I c m)(hH:I.H<=B)(hr:B+6+120 * (100 - m.calls)<=65530)
    (R0:mb s0 j0 (ms c av b ((B+f.params.length:Nat):Int) (m.calls:Int) (a:Int) m.inp m.out)) (hj:j0<=9):LN I s0 c B (B+f.params.length) (a+2) { m with left:=m.left+1 } ((jm I.p I.OP (n+1)).c i vs m):=by
  have hfm:f∈I.p.funcs:=ay hf;obtain ⟨hq,lQ⟩:=hI.fn f hfm;obtain ⟨b1,b2,b3,b4⟩:=hB f hfm;have hfd:I.p.funcs.getD i wq=f:=by rw [aM,hf];rfl
  have hszF:jt f=f.params.length+1+f.locals.length:=rfl;have l12:=hq.l12;have p6:=hq.p6;have iQ:=hM.len;have xS:=hM.calls;show LN I _ c B _ _ _ (cX I.p (jm I.p I.OP n) i vs m);rw [cX,hfd];have s1:=qGi (a:=av) (b:=b) (i:=m.inp) (o:=m.out) (q:=B+f.params.length) (hM.cell h1 O) (hM.cell h2 O) O iQ xS;by_cases h100:m.calls=100
  . rw [aw h100]
    rw [am O] at s1;exact ⟨_,_,R0.trans (.one rfl s1),rfl,rfl,λ_=>rfl,by show j0+1+40 * m.left<=40 * (m.left+1);omega,by show m.left+1<=_;omega,λh=>absurd h Dc⟩
  rw [am h100];rw [aw O] at s1;obtain ⟨a0,bb,k0,g1,g2,g3⟩:=hI.code i f hf;rw [g1] at s1;unfold cF at g2;obtain ⟨qe,g4,g5⟩:=g2.app;obtain ⟨qb,g6,g7⟩:=g4.app;obtain ⟨_,g8⟩:=Cd.lbl (L:=(if 0 < f.locals.length then [.num pp 0] else [])++List.replicate f.locals.length (.op qj)) g6;obtain ⟨r1,r2,r3,r4⟩:=Cd.num g5 Dc Dc;obtain ⟨r5,r6,r7,r8⟩:=Cd.num r3 Dc Dc;have g9:=g7.le;have mG:MR I (c.set (B+f.params.length) ((a+2:Nat):Int)) m:=hM.push hI O;obtain ⟨j,c2,a2,R,j1,jG,z1,z2⟩:=qGO (av:=av) (b:=1) (d:=((m.calls+1:Nat):Int)) (i:=m.inp) (o:=m.out) hI mG g8 O (show I.H<=B+f.params.length+1 by omega) O;have lW:MR I c2 { m with frm:=pE (f.params.length+f.locals.length) vs,calls:=m.calls+1 }:=⟨jG.len,jG.code,jG.var,jG.ae,by show m.calls+1<=100;omega,jG.out⟩;have low:∀ k,k < B+f.params.length->c2[k]?=c[k]?:=λk hk=>(z1 k O).trans (bl O);have kQ:c2[B+f.params.length]?=some ((a+2:Nat):Int):=(z1 _ O).trans (bK O);have hF:FR f B c2 (pE (f.params.length+f.locals.length) vs):=by
    rw [qAo xu];refine ⟨by rw [ac,xu,cJ],λk v hk=>?_⟩;by_cases hkp:k < f.params.length
    . rw [aR O] at hk
      have:=hv k v hk;exact ⟨this.1,by rw [vY,aw hkp,low _ O];exact this.2⟩
    . rw [aY O,cK] at hk
      split at hk
      . cases hk
        have:=z2 (k - f.params.length) O;exact ⟨⟨by decide,by decide⟩,by rw [vY,am hkp,show B+(k+1)=B+f.params.length+1+(k - f.params.length) by omega];exact this⟩
      . cases hk
  have h:=FY hT hfm f.body 1 0 k0 qb qe [] { m with frm:=pE (f.params.length+f.locals.length) vs,calls:=m.calls+1 } c2 B a2 1 ((a+2:Nat):Int) b1 b2 b3 b4 (λh=>by omega) g7 O lW hF kQ hH (by show B+jt f+102+120 * (100 - (m.calls+1))<=65530;omega) (by show 1<=m.calls+1;omega);rw [show B+f.params.length+1+f.locals.length=B+jt f by omega] at R;have R2:=R0.trans ((mb.one rfl s1).trans R);have hS:SK I c c2 B:=λk _ hk=>low k O;generalize oN ((jm I.p I.OP n).t f) f.body { m with frm:=pE (f.params.length+f.locals.length) vs,calls:=m.calls+1 }=r at h;cases r with
  | out=>trivial
  | fin m' st cd=>exact uN.pre h R2 (by show _+40 * m.left<=40 * (m.left+1);omega) (by show m.left+1+17<=m.left+_+0;omega)
  | ok y m2=>
    obtain ⟨k,c3,a3,b3,C3,e3,p3,R3,hM4,nY,hF3,hret3,rU,k1,k2,hw⟩:=h;have k1:k+40 * m2.left<=40 * m.left:=k1;have k2:m.left<=m2.left+40 * k:=k2;have hM5:MR I c3 { m2 with frm:=m.frm,calls:=m.calls }:=⟨hM4.len,hM4.code,hM4.var,hM4.ae,xS,hM4.out⟩;have hSS:SK I c c3 B:=hS.trans nY (aC _);rcases hw with ⟨w1,w2,w3,w4⟩|⟨_,w,_⟩|⟨_,w,_⟩|⟨w1,w2,w3,w4,w5,w6⟩
    . subst w2 w3 w4
      have s2:=Kv (a:=a3) (b:=b3) (C:=((B+jt f:Nat):Int)) (d:=((m.calls+1:Nat):Int)) (i:=m2.inp) (o:=m2.out) (hM4.cell r1 O) (hM4.cell r2 O);have s3:=Xy (a:=0) (b:=b3) (C:=((B+jt f:Nat):Int)) (i:=m2.inp) (o:=m2.out) (q:=B+f.params.length) (hM4.cell r5 O) (hM4.cell r6 O) (by unfold lK;omega) hret3 (e:=m.calls) xS;refine ⟨_,c3,b3,by rw [am O];exact (R2.trans R3).trans ((mb.one Z s2).trans (.one Z s3)),hM5,hSS,Z,Z,by rw [am O];exact ⟨by decide,by decide⟩,by show _+3+40 * m2.left<=40 * (m.left+1);omega,by show m.left+1<=m2.left+_;omega⟩
    . exact absurd w Dc
    . exact absurd w Dc
    . subst w2 w4 w5 w6
      refine ⟨_,c3,b3,by rw [aw w1];exact R2.trans R3,hM5,hSS,Z,Z,by rw [aw w1];exact w3,by show _+3+40 * m2.left<=40 * (m.left+1);omega,by show m.left+1<=m2.left+_;omega⟩
def qyZ(hI:I.OK)(hB:I.BD)(hT:PT I n):PC I (n+1):=λ_ _ _ _ _ _ _ _ _ hf xu hv h1 h2 ha hM hH hr=>qpz hI hB hT hf xu hv h1 h2 ha hM hH hr (.nil _) (aB _)
def sim{I:Im}(hI:I.OK)(hB:I.BD)(hO:Cm I.OP):∀ n,PE I n/\PC I n/\PT I n/\PW I n
 | 0=>⟨by unfold PE;intros;exact trivial,by unfold PC;intros;exact trivial,by unfold PT;intros;exact trivial,by unfold PW;intros;exact trivial⟩
 | n+1=>
  have ⟨e,c,t,w⟩:=sim hI hB hO n
  ⟨qy0 hI hO e c,qyZ hI hB t,qy1 hI hO e c t w,qy2 e t w⟩
mutual
def qC2:∀ (x:jb) (lv c:Nat),(tY x lv c).2=0->dS x<=16
 | .mk k nm es b e,lv,c,h=>by
  simp only [tY] at h;split at h
  . cases h
  split at h
  . rename_i h2;exact absurd h h2
  split at h
  . rename_i h2;exact absurd h h2
  rename_i h3;split at h
  . rename_i h2;exact absurd h h2
  rename_i h4;have h5:=SB es 1 (c+1) (by simpa using h3);have h6:=NB b _ _ (by simpa using h4);have h7:=NB e _ _ h;rw [dS];omega
def NB:∀ (l:List jb) (lv c:Nat),(nE l lv c).2=0->vZ l<=16
 | [],_,_,_=>by rw [vZ];omega
 | x::r,lv,c,h=>by
  simp only [nE] at h;split at h
  . rename_i h1;exact absurd h h1
  rename_i h1;have h2:=qC2 x lv c Q7;have h3:=NB r lv _ h;rw [vZ];omega
end
def qqK:∀ {l:List iT} {i c:Nat},(yH l i c).1=0->∀ x∈l,vZ x.body<=16
  | [],_,_,_=>λx hx=>(by cases hx)
  | x::r,i,c,h=>by
    rw [yH] at h;split at h
    . rename_i h1;exact absurd h h1
    rename_i h1;intro y hy;rcases aW.1 hy with rfl|hy
    . have h2:(pO y c).2=0:=by simpa using h1
      unfold pO at h2;split at h2
      . cases h2
      split at h2
      . cases h2
      split at h2
      . cases h2
      exact NB _ _ _ h2
    . exact qqK h y hy
def v_:∀ {l:List iT} {seen:List iR} {i:Nat},(tD l seen i).1=0->∀ x∈l,(x.params++x.locals).Nodup
 | [],_,_,_=>λx hx=>(by cases hx)
 | x::r,seen,i,h=>by
  rw [tD] at h;split at h
  . cases h
  rename_i h1;intro y hy;rcases aW.1 hy with rfl|hy
  . exact ff.1 λh2=>h1 (.inr h2)
  . exact v_ h y hy
def qAS(h:pK p=(0,0)):(∀ x∈p.funcs,(x.params++x.locals).Nodup)/\∃ (mi:Nat) (x:iT),qg p.funcs=(mi:Int)/\p.funcs[mi]?=some x/\x.params=[]/\fi p jy=(mi:Int):=by
  have e:=JR (nm:=jy) iT.name 4 (λi=>(i:Int)) p.funcs;rw [pK] at h;split at h
  . rename_i h3;rw [h] at h3;exact absurd rfl h3
  split at h
  . rename_i h3;rw [h] at h3;exact absurd rfl h3
  rename_i h4;split at h
  . cases h
  rename_i h5;refine ⟨v_ (by simpa using h4),?_⟩;obtain ⟨mi,hmi⟩:=aX (show 0<=qg p.funcs by omega);obtain ⟨_,x,hx,_⟩:=Of (q:=λx:iT=>decide (x.name=jy)) (l:=p.funcs) (k:=0) (show 0<=qg p.funcs by omega);have hx:p.funcs[(qg p.funcs).toNat - 0]?=some x:=hx;rw [gR] at hx;rw [hx] at h;simp only at h;split at h
  . rename_i h6
    rw [hmi,aH] at hx;refine ⟨mi,x,hmi,hx,h6,?_⟩;have e2:mr (fE p) jy=if 0<=qg p.funcs then some ((qg p.funcs).toNat:Int) else none:=e
    rw [fi,e2,aw O,hmi,aH];rfl
  . cases h
section
variable{lab:iR->Int}
def Cd.flat:∀ {L:List Li} {p q:Nat},Cd c lab p L q->∀ k v,(L.flatMap (pj lab))[k]?=some v->c[p+k]?=some v
  | [],p,q,_,k,v,h=>by simp at h
  | y::r,p,q,h,k,v,hk=>by
    rw [dj] at hk;by_cases h1:k < (pj lab y).length
    . rw [aR h1] at hk
      exact h.1 k v hk
    . rw [aY O,EN] at hk
      rw [EN] at h1;have:=h.2.2.flat _ _ hk
      rwa [show p+qH y+(k - qH y)=p+k by omega] at this
def W8{p:ja}:∀ (l:List iT) (i k q e:Nat),Cd c lab q (qY p l i k).1 e->∀ (j:Nat) (x:iT),l[j]?=some x->∃ a b k':Nat,lab (fT ((i+j:Nat):Int))=(a:Int)/\Cd c lab a (cF p x (i+j) k').1 b/\b<=e
 | [],i,k,q,e,_,j,x,h=>by simp at h
 | y::r,i,k,q,e,jo,j,x,h=>by
  unfold qY at jo;obtain ⟨m,h1,h2⟩:=jo.app;cases j with
  | zero=>
   simp only [dq,da] at h;subst h;refine ⟨q,m,k,?_,h1,h2.le⟩;unfold cF at h1;obtain ⟨_,h3,_⟩:=h1.app;obtain ⟨_,h4,_⟩:=h3.app;exact (Cd.lbl (L:=(if 0 < y.locals.length then [.num pp 0] else [])++List.replicate y.locals.length (.op qj)) h4).1
  | succ j=>
   rw [bH] at h;have:=W8 r (i+1) _ m e h2 j x h
   rwa [show i+1+j=i+(j+1) by omega] at this
def Yj:∀ l:LInt9,(l.map (Li.num pB ·)).flatMap (pj lab)=l
 | []=>rfl
 | x::r=>by rw [aS,dj,Yj r];rfl
def qsr(hg:pL g=0):(g.init.length:Int)<=max g.num 1/\(g.kind=3->1<=g.num/\(g.init.length:Int)<=g.num):=by
 obtain ⟨c1,c2,c3,c4,c5,c6⟩:=Bo hg;have c7:g.kind=3->1<=g.num/\(g.init.length:Int)<=g.num:=λh=>by
  unfold pL at hg;exact Vv
 refine ⟨?_,c7⟩;by_cases h:g.kind=3
 . have:=c7 h;omega
 . rw [c4 h];simp only [ap];omega
def W9(hg:pL g=0)(hk:g.kind≠1)(h:Cd c lab q (cG g i) e):lab (gT (i:Int))=(q:Int)/\q+qB g=e/\∀ k v,(pE (qB g) g.init)[k]?=some v->c[q+k]?=some v:=by
 obtain ⟨hl,_⟩:=qsr hg;unfold cG at h;rw [am hk] at h;obtain ⟨h1,h2⟩:=Cd.lbl (L:=g.init.map (Li.num pB ·)++[Li.num so (max g.num 1 - (g.init.length:Int))]) h;have e1:(g.init.map (Li.num pB ·)++[Li.num so (max g.num 1 - (g.init.length:Int))]).flatMap (pj lab)=pE (qB g) g.init:=by
  rw [List.flatMap_append,Yj,pE,aI (by unfold qB;omega)];congr 1;rw [show [Li.num so (max g.num 1 - (g.init.length:Int))].flatMap (pj lab)=List.replicate (max g.num 1 - (g.init.length:Int)).toNat 0 by simp [pj,show ¬ so=pB by decide]];congr 1;unfold qB;omega
 refine ⟨h1,?_,λk v hk=>h2.flat k v (by rw [e1];exact hk)⟩;have e2:=h2.end_;have e3:cW (g.init.map (Li.num pB ·)++[Li.num so (max g.num 1 - (g.init.length:Int))])=(pE (qB g) g.init).length:=by
  rw [<- e1,List.length_flatMap,cW];exact bj List.sum (List.map_congr_left λy _=>(EN _ y).symm)
 rw [e2,e3,pE,ac,cY,cJ];unfold qB;omega
def qxX:∀ (l:List jM) (i q e:Nat),(∀ g∈l,pL g=0)->Cd c lab q (ue l i) e->q<=e/\(∀ (j:Nat) (g:jM),l[j]?=some g->g.kind≠1->∃ a:Nat,lab (gT ((i+j:Nat):Int))=(a:Int)/\q<=a/\a+qB g<=e/\∀ k v,(pE (qB g) g.init)[k]?=some v->c[a+k]?=some v) /\
    ∀ (j j':Nat) (g g':jM),l[j]?=some g->l[j']?=some g'->j < j'->g.kind≠1->g'.kind≠1->(lab (gT ((i+j:Nat):Int))).toNat+qB g<=(lab (gT ((i+j':Nat):Int))).toNat
  | [],i,q,e,_,h=>⟨h.le,λj g h=>by simp at h,λj j' g g' h=>by simp at h⟩
  | y::r,i,q,e,hg,h=>by
    unfold ue at h;obtain ⟨m,h1,h2⟩:=h.app;obtain ⟨b0,b1,b2⟩:=qxX r (i+1) m e (λg h=>hg g (aq _ h)) h2;have hy:=hg y Mc;have h1e:=h1.le;have sh:∀ j,i+1+j=i+(j+1):=λj=>by omega
    refine ⟨by omega,λj g hj hk=>?_,λj j' g g' hj hj' lm hk rW=>?_⟩
    . cases j with
      | zero=>
        simp only [dq,da] at hj;subst hj;obtain ⟨c1,c2,c3⟩:=W9 hy hk h1;exact ⟨q,c1,aC _,by omega,c3⟩
      | succ j=>
        rw [bH] at hj;obtain ⟨a,c1,c2,c3,c4⟩:=b1 j g hj hk;rw [sh] at c1;exact ⟨a,c1,by omega,c3,c4⟩
    . cases j' with
      | zero=>omega
      | succ j'=>
        rw [bH] at hj';cases j with
        | zero=>
          simp only [dq,da] at hj;subst hj;obtain ⟨c1,c2,_⟩:=W9 hy hk h1;obtain ⟨a,d1,d2,_⟩:=b1 j' g' hj' rW;rw [sh] at d1;rw [show i+0=i from rfl,c1,d1,aH,aH];omega
        | succ j=>
          rw [bH] at hj;have:=b2 j j' g g' hj hj' O hk rW
          rwa [sh,sh] at this
end
def BL(p:ja)(OP:Int->Int->Int->Option Int)(w:LInt9)(lab:iR->Int):Im:=⟨p,OP,w++List.replicate (65536 - w.length) 0,lab,7+cW (qY p p.funcs 0 0).1,cW (cP p),λi=>(lab (gT (i:Int))).toNat⟩
section
variable{OP:Int->Int->Int->Option Int}{lab:iR->Int}(hu:si p)(hc:(kU p).1=0)(hn:uW p<=49152)(hw:w.length=cW (cP p))(jo:Cd (w++List.replicate (65536 - w.length) 0) lab 0 (cP p) (cW (cP p)))
include hu hc hn hw jo
theorem qI7:(BL p OP w lab).OK/\(BL p OP w lab).BD/\(∀ inp a,MR (BL p OP w lab) (BL p OP w lab).af (uI p inp a))/\(lab vK=(cW (cP p):Int))/\∃ (mi:Nat) (x:iT),qg p.funcs=(mi:Int)/\p.funcs[mi]?=some x/\x.params=[]/\Cd (BL p OP w lab).af lab 0 [.ref EZ vK,.ref z6 (fT (mi:Int)),.num pp 0,.op Bv] 7:=by
  obtain ⟨_,_,_,hW,_⟩:=SF hu hc hn;obtain ⟨hO,hz⟩:=sU.of hu hc;obtain ⟨⟨v1,v2,v3,v4,_⟩,n0,lQ⟩:=hO;have xY:(qv p).1=0:=by
    unfold kU at hc;split at hc
    . rename_i h;exact absurd hc h
    . rename_i h;exact Nh Q4
  have hdp:∀ x∈p.funcs,vZ x.body<=16:=by
    unfold qv at xY;split at xY
    . cases xY
    split at xY
    . rename_i h2;exact absurd xY h2
    split at xY
    . cases xY
    exact qqK xY
  have hf0:=RK n0;obtain ⟨hnn,mi,xm,m1,m2,m3,m4⟩:=qAS n0;have hG:∀ g∈p.o,pL g=0:=λg hg=>(v3 g hg).1;have hcd':=jo;unfold cP at hcd';obtain ⟨e3,d1,d2⟩:=hcd'.app;obtain ⟨e2,d3,d4⟩:=d1.app;obtain ⟨e1,d5,d6⟩:=d3.app;obtain ⟨l1,l2⟩:=Cd.lbl d2;cases (show e3=_ from l2);have h7:e1=7:=by
    rw [d5.end_];simp [cW,qH,show ¬ pp=pB by decide,show ¬ pp=so by decide]
  subst h7;have h2e:=d6.end_;obtain ⟨g0,g1,g2⟩:=qxX p.o 0 e2 _ hG d4;subst h2e;have zero:∀ i:Nat,0+i=i:=λi=>aZ i;have hglo:∀ (i:Nat) (g:jM),p.o[i]?=some g->g.kind≠1->∃ a:Nat,lab (gT (i:Int))=(a:Int)/\(lab (gT (i:Int))).toNat=a/\7+cW (qY p p.funcs 0 0).1<=a/\a+qB g<=cW (cP p)/\∀ k v,(pE (qB g) g.init)[k]?=some v->(w++List.replicate (65536 - w.length) 0)[a+k]?=some v:=λi g h1 h2=>by
    obtain ⟨a,a1,a2,a3,a4⟩:=g1 i g h1 h2;rw [zero] at a1;exact ⟨a,a1,by rw [a1,aH],a2,a3,a4⟩
  refine ⟨⟨λi x hx=>?_,λi g h1 h2=>?_,λi j g h h1 h2 h3 h4 h5=>?_,hW,g0,λi g hg=>?_,λx hx=>⟨⟨hf0,v2,v1,λg hg=>(hu.1 g hg).1,(v4 x hx).2.1,(v4 x hx).2.2.1⟩,hnn x hx⟩⟩,λx hx=>⟨(v4 x hx).2.2.2.2.1,hu.2 x hx,hdp x hx,lQ x hx⟩,λinp a=>⟨?_,λ_ _=>rfl,λi g h1 h2=>?_,λi g h1 h2=>?_,aB _,aB _⟩,l1,mi,xm,m1,m2,m3,by rw [<- m4];exact d5⟩
  . have:=W8 p.funcs 0 0 _ _ d6 i x hx
    rwa [zero] at this
  . obtain ⟨a,a1,a2,a3,a4,_⟩:=hglo i g h1 h2
    show lab _=(((lab _).toNat:Nat):Int)/\_<=(lab _).toNat/\(lab _).toNat+_<=_;rw [a2];exact ⟨a1,a3,a4⟩
  . have:=g2 i j g h h1 h2 h3 h4 h5
    rwa [zero,zero] at this
  . have hm:=ay hg
    have:=Bo (hG g hm);exact ⟨this.1,this.2.1,(hu.1 g hm).1⟩
  . show (w++List.replicate (65536 - w.length) 0).length=65536
    rw [ac,cJ];omega
  . obtain ⟨a,a1,a2,a3,a4,a5⟩:=hglo i g h1 O
    have hm:=ay h1;have hi:=(al.1 h1).1;have hz:=Bo (hG g hm);refine ⟨0,by show (List.replicate p.o.length (0:Int))[i]?=_;rw [cK,aw (show i < p.o.length from hi)],⟨by decide,by decide⟩,?_⟩;show (w++_)[(lab (gT (i:Int))).toNat]?=_;rw [a2];refine a5 0 0 ?_;rw [hz.2.2.2.1 O,pE,qB,hz.2.2.2.2.1 h2];rfl
  . obtain ⟨a,a1,a2,a3,a4,a5⟩:=hglo i g h1 O
    have hm:=ay h1;obtain ⟨s1,s2⟩:=qsr (hG g hm);have hs:g.num.toNat=qB g:=by unfold qB;omega
    refine ⟨pE g.num.toNat g.init,by show (p.o.map _)[i]?=_;rw [db,show p.o[i]?=some g from h1];simp [h2],?_,λj v hj=>?_⟩
    . rw [pE,ac,cY,cJ];omega
    . refine ⟨?_,?_⟩
      . rcases aU.1 (ay hj) with h|h
        . exact (hu.1 g hm).2 v (dZ h)
        . rw [List.eq_of_mem_replicate h];exact ⟨by decide,by decide⟩
      . show (w++_)[(lab (gT (i:Int))).toNat+j]?=_
        rw [a2];exact a5 j v (by rw [<- hs];exact hj)
end
def Pv(w:LInt9)(inp:iR)(a:Nat)(o:iR×Int×Int×Nat):Prop:=∃ K s',mb (uA ji w inp) K s'/\s'.output=o.1/\s'.stop=o.2.1/\(s'.stop≠0->s'.code=o.2.2.1)/\K<=40 * a+40/\(s'.stop=0->a+1<=40 * K)
def qBv{OP:Int->Int->Int->Option Int}(hO:Cm OP)(hu:si p)(hc:(kU p).1=0)(hn:uW p<=49152):∃ w l,sr ji (cT (cP p))=.inr (w,l)/\w.length<=49152/\∀ (n:Nat) (inp:iR) (a:Nat),EA p OP (n+1) (qg p.funcs).toNat inp a=.out\/Pv w inp a (My a (EA p OP (n+1) (qg p.funcs).toNat inp a)):=by
 obtain ⟨h1,h2,h3,h4,h5⟩:=SF hu hc hn;obtain ⟨w,l,lab,e1,e2,e3⟩:=qFn h1 h2 h3 O h5;refine ⟨w,l,e1,by omega,λn inp a=>?_⟩;obtain ⟨hI,hB,hM,hE,mi,x,m1,m2,m3,d⟩:=qI7 (OP:=OP) hu hc hn e2 (e3 _);obtain ⟨a1,a2,a3,_⟩:=Cd.ref d;obtain ⟨b1,b2,b3,_⟩:=Cd.ref a3;obtain ⟨c1,c2,c3,_⟩:=Cd.num b3 Dc Dc;obtain ⟨f1,_,_⟩:=Cd.op c3;have hT:=(sim hI hB hO n).2.2.1;have hM:=hM inp a;rw [hE] at a2;have s1:=qAG (c:=(BL p OP w lab).af) (a:=0) (b:=0) (C:=0) (d:=0) (p:=0) (i:=inp) (o:=[]) a1 a2;have R0:mb (uA ji w inp) 1 (ms (BL p OP w lab).af 0 0 ((cW (cP p)+x.params.length:Nat):Int) ((uI p inp a).calls:Int) ((2:Nat):Int) (uI p inp a).inp (uI p inp a).out):=by
  rw [m3];exact .one rfl s1
 have hG:7<=(BL p OP w lab).G:=by show 7<=7+_;omega
 have h:=qpz (I:=BL p OP w lab) (n:=n) (vs:=[]) (a:=2) (B:=cW (cP p)) hI hB hT m2 (by rw [m3];rfl) (λk v h=>by simp at h) b1 b2 O hM (aC _) (by show cW (cP p)+6+120 * (100 - 0)<=65530;omega) R0 O;rw [m1,aH];have h:LN (BL p OP w lab) _ _ _ _ _ _ (EA p OP (n+1) mi inp a):=h;generalize EA p OP (n+1) mi inp a=r at h;cases r with
 | out=>exact .inl rfl
 | fin m' st cd=>
  obtain ⟨k,s',r1,r2,r3,r4,r5,r6,r7⟩:=h;have r5:k+40 * m'.left<=40 * (a+1):=r5;have r6:a+1<=m'.left+40 * k+0:=r6;exact .inr ⟨k,s',r1,r2,r3,λh=>r4 (by rw [<- r3];exact h),by omega,λh=>by have:=r7 (by rw [<- r3];exact h);omega⟩
 | ok v m'=>
  obtain ⟨k,c',b',R,pP,hS,_,_,_,k1,k2⟩:=h;have k1:k+3+40 * m'.left<=40 * (a+1):=k1;have s2:=Kv (a:=v) (b:=b') (C:=((cW (cP p)+x.params.length:Nat):Int)) (d:=(m'.calls:Int)) (p:=4) (i:=m'.inp) (o:=m'.out) (pP.cell c1 O) (pP.cell c2 O);have s3:=qx0 (a:=0) (b:=b') (C:=((cW (cP p)+x.params.length:Nat):Int)) (d:=(m'.calls:Int)) (p:=6) (i:=m'.inp) (o:=m'.out) (pP.cell f1 O);exact .inr ⟨_,_,R.trans ((mb.one rfl s2).trans (.one rfl s3)),rfl,rfl,λ_=>rfl,by omega,λh=>absurd (show (1:Int)=0 from h) Dc⟩
def qBg(m:lj)(x:Ac)(op:Int):∃ w,(kn m x op).output=m.output++w:=by
 have h0:∃ w,m.output=m.output++w:=⟨[],by simp⟩;unfold kn;dsimp only;repeat' split
 all_goals first
  | exact ⟨_,rfl⟩
  | exact h0
def B_:∀ (l:List Ac) (m:lj) (op:Int),∃ w,(mL m op l).output=m.output++w
  | [],m,_=>⟨[],by simp [mL]⟩
  | x::r,m,op=>by
    obtain ⟨w,h⟩:=qBg m x op;rw [mL];split
    . obtain ⟨w2,h2⟩:=B_ r (kn m x op) op
      exact ⟨w++w2,by rw [h2,h,an]⟩
    . exact ⟨w,h⟩
def quH(t:l7)(m:lj):∃ w,(lY t m).output=m.output++w:=by
 have h0:∃ w,m.output=m.output++w:=⟨[],by simp⟩;unfold lY;repeat' split
 all_goals first
  | exact h0
  | exact B_ _ _ _
def qrH(t:l7):∀ (n:Nat) (m:lj),∃ w,(oK t m n).1.output=m.output++w
  | 0,m=>⟨[],by simp [oK]⟩
  | n+1,m=>by
    rw [oK];split
    . obtain ⟨w,h⟩:=quH t m
      obtain ⟨w2,h2⟩:=qrH t n (lY t m);exact ⟨w++w2,by simp only [h2,h,an]⟩
    . exact ⟨[],by simp⟩
def quZ(t:l7){m:lj}(h:m.stop≠0):∀ n,oK t m n=(m,0)
 | 0=>rfl
 | n+1=>by rw [oK,am h]
def qup{o:iR×Int×Int×Nat}(h:Pv w inp a o):(∃ v,(Dz ji w inp ((40 * a+40:Nat):Int)).1=o.1++v)/\(o.2.1≠0->(Dz ji w inp ((40 * a+40:Nat):Int)).1=o.1/\(Dz ji w inp ((40 * a+40:Nat):Int)).2.1=o.2.1/\(Dz ji w inp ((40 * a+40:Nat):Int)).2.2.1=o.2.2.1):=by
  obtain ⟨K,s',R,r1,r2,r3,r4,_⟩:=h;have h1:=R.run (40 * a+40 - K);rw [show K+(40 * a+40 - K)=40 * a+40 by omega] at h1;simp only [Dz,aH,h1];refine ⟨?_,λh=>?_⟩
  . obtain ⟨v,h2⟩:=qrH ji (40 * a+40 - K) s'
    exact ⟨v,by rw [h2,r1]⟩
  . rw [<- r2] at h
    rw [quZ ji h];exact ⟨r1,r2,r3 h⟩
def qBb:Cm jx where
 una o a h1 h3 ha:=by
  have h:o=1\/o=2\/o=3:=by omega
  have h5:lK (4294967295 - a)=4294967295 - a:=by unfold lK;have:=ha.1;have:=ha.2;omega
  rcases h with rfl|rfl|rfl<;>simp [jx,mW,nI,yf,h5]
 bin o x y h4 uh hx hy:=by
  have hc:o=4\/o=5\/o=6\/o=7\/o=8\/o=9\/o=10\/o=11\/o=12\/o=13\/o=14\/o=15\/o=16\/o=17\/o=18\/o=19:=by omega
  rcases hc with rfl|rfl|rfl|rfl|rfl|rfl|rfl|rfl|rfl|rfl|rfl|rfl|rfl|rfl|rfl|rfl;all_goals first
   | rfl
   | (by_cases h0:y=0<;>simp [jx,mW,nI,Et,jK,h0];done)
   | (simp [jx,mW,nI,yf,Et,jK];done)
   | (by_cases h1:y < x<;>simp [jx,mW,nI,yf,Et,jK,h1]<;>omega)
   | (by_cases h1:x < y<;>simp [jx,mW,nI,yf,Et,jK,h1]<;>omega)
 and_ x y:=by
  by_cases h:x=0<;>by_cases h':y=0<;>simp [jx,mW,nI,yf,h,h']
 or_ x y:=by
  by_cases h:x=0<;>by_cases h':y=0<;>simp [jx,mW,nI,yf,h,h']
attribute [local irreducible] JC JO JA JB lZ mF mM AC fill iH QE Ev mq
def qGW{a:Int}(h:(kU p).1=0)(ha:0<=a/\a<=50000000)(hi:inp.length<=2000):∃ x:Nat,a=(x:Int)/\qh p inp a=(Ez p inp x,(0,0)):=by
 obtain ⟨x,rfl⟩:=aX ha.1;exact ⟨x,rfl,RZ (λh1=>h1 h) O O⟩
def qGn(hU:si p)(h:(tH p).1=0)(inp:iR)(ha:a<=50000000):Pv (xK p) inp a (Ez p inp a)/\(xK p).length<=49152:=by
 obtain ⟨_,h2,h3,h4⟩:=Kn hU h;obtain ⟨w,l,h5,h6,h7⟩:=qBv qBb hU h3 h4;have hw:xK p=w:=by rw [xK,aw h,h2,DK,h5]
 rw [hw];refine ⟨(h7 wV inp a).resolve_left λh=>?_,h6⟩;have h9:=(Tv (p:=p) (OP:=jx) (wV+1)).2.1 (qg p.funcs).toNat [] (uI p inp a) (by rw [Tg];show 2 * a+1 < _;omega);rw [show (jm p jx (wV+1)).c (qg p.funcs).toNat [] (uI p inp a)=.out from h] at h9;exact h9
def qAm{l:LInt9}{i:iR}{k:Int}(hl:l.length<=49152)(hi:i.length<=400000)(hk:0<=k/\k<=50000000):sP ji l i k=(Dz ji l i k,0,0):=by
 have hs:(sH ji l i).1=0:=by
  unfold sH;rw [am (by simpa using To),am (by show ¬ (65536:Int) < _;omega),am O]
 unfold sP;rw [am (by simpa using hs),am O]
def qJb{a:Int}(hU:si p)(hz:(tH p).1=0)(hi:inp.length<=2000)(ha:0<=a/\a<=200000):(qh p inp a).2.1=0/\(sP ji (xK p) inp (40 * a+40)).2.1=0/\(qh p inp a).1.1 <+: (sP ji (xK p) inp (40 * a+40)).1.1/\(¬ (qh p inp a).1.2.1=0->(qh p inp a).1.2.1=(sP ji (xK p) inp (40 * a+40)).1.2.1/\(qh p inp a).1.2.2.1=(sP ji (xK p) inp (40 * a+40)).1.2.2.1/\(qh p inp a).1.1=(sP ji (xK p) inp (40 * a+40)).1.1):=by
 obtain ⟨_,_,h3,_⟩:=Kn hU hz;obtain ⟨x,rfl,hr⟩:=qGW (a:=a) (inp:=inp) h3 O hi;obtain ⟨h1,h2⟩:=qGn hU hz inp (a:=x) O;obtain ⟨⟨v,m1⟩,m2⟩:=qup h1;rw [show (40 * (x:Int)+40)=((40 * x+40:Nat):Int) by omega,qAm h2 O O,hr];exact ⟨rfl,rfl,⟨v,m1.symm⟩,λh=>have ⟨a,b,c⟩:=m2 h;⟨b.symm,c.symm,a.symm⟩⟩
def qHn(h1:(kU p).1=0)(h2:uW p<=49152):tH p=(0,0):=by rw [tH,aw h1,am O]
def qor{s:World}(hG:GP s):AV9 D 6 [] L s (.bool true):=by
 refine jv (fn:=Tryz.f6) jl Tryz.func6 V Z Tryz.ntmps6 Z (rs:=[.tmp 0]) Z [] Z<|G7 ?_;refine Jc Y3 (EI _ _) ?_;rintro _ _ s1 h1 ⟨rfl,bg1,bf1,rfl,hg1,hf1⟩;refine Je Y3 (qo4 D _ _ Pz 5 ko Pz Pz 0 [110]) λs2 h2=>G3 ?_;refine jp Z [_,_] Y2 λβ3 s3 h3=>jp Z [_,_] Y2 λβ4 s4 h4=>Wt 1 [_,_] Y9<|Wt 0 [_,_] Y9<|Nt<|Sr<|Jc Y3 (EI _ _) ?_;rintro _ _ s5 h5 ⟨rfl,bg2,bf2,rfl,wx,hf2⟩;refine Jc Y3 (i' D _ _ Pz 5 ko _ _ _ _ _ Pz Pz) ?_;rintro _ _ s6 h6 ⟨rfl,Ac,nc,cc,rfl,hCl⟩;rw [Ud] at hCl;have rh:nc=1:=hCl.1;subst rh;obtain ⟨bq,oq,xq,Aq,nq,cq,rfl,hxq,hcq,hIq⟩:=qC.at_ hCl (show 0 < 1 by decide);obtain rfl:=cD hxq;rw [qJr] at hIq;have hnq:nq=0:=hIq.1;subst hnq;refine G3 ?_;refine jp Z [_,_] Y2 λβ7 s7 h7=>me Y2<|Wt 0 [_,_] Y9<|Nt<|Sr<|Jc Y3 (EI _ _) ?_;rintro _ _ s8 h8 ⟨rfl,bg3,bf3,rfl,hg3,xU⟩;refine iI (FM Z Z Z Z Z Z Z Z Z) Z<|Jc Y3 (EI _ _) ?_;rintro _ _ s9 h9 ⟨rfl,bg4,bf4,rfl,hg4,hf4⟩;obtain ⟨b4,off4,x4,B1,m1,d1,B2,m2,d2,B3,m3,d3,hA4,hx4,hc4,zL,hl4,hb4,_⟩:=ju.at_ hf4 (show 0 < 1 by decide);cases hA4;obtain rfl:=cD hx4;refine iI (FM Z Z Z Z Z Z Z Z Z) Z<|iI (jC [(_,_)] [_,_,_,_] Y3 Z Z Z) Z<|kF [(_,_)] [_,_,_,_] Y9 λβs ku jN tg=>qyY (sz:=4) Z Z Z Z Z Z Pz Z (Row.of_cells Pz Z Z) Dc ⟨by decide +kernel,by decide⟩ Z λβv cv kv jP hcv xj uR=>iI (jC [(_,_),(_,_)] [_,_] Y3 Z Z Z) Z<|Jc Y3 (qCM _ _ Pz 5 nG Pz (qsa Pz Pz Pz Pz xj uR)) ?_;rintro _ _ kc jL ⟨rfl,qt,hTq,Dg,kg,jg,Df,kf,jf,rfl,zI,hft⟩;obtain rfl:=Uf hTq;refine G3 ?_;refine jp Z [_,_] Y2 λβ13 kY kN=>jp Z [_,_] Y2 λβ14 li kz=>Wt 1 [_,_] Y9<|Wt 0 [_,_] Y9<|Nt<|Sr<|Jc Y3 (EI _ _) ?_;rintro _ _ lJ lr ⟨rfl,bg5,bf5,rfl,hg5,hf5⟩;refine Jc Y3 (qAx _ _ Pz 5 ko Pz Pz) ?_;rintro _ _ qW qD ⟨rfl,Eg,ug,wg,Ef,uf,wf,rfl,hgo,hfo⟩;rw [qJp] at hfo;obtain ⟨rfl,bo,oo,C1,r1,e1,C2,r2,e2,bo2,oo2,e3,rfl,hco,C4,r4,e4,C5,r5,e5,C6,r6,e6,hco2,nC⟩:=qAy hfo;refine G3 ?_;refine jp Z [_,_] Y2 λβ17 tE qR=>jp Z [_,_] Y2 λβ18 yl vm=>Wt 1 [_,_] Y9<|Wt 0 [_,_] Y9<|Nt<|Sr<|Je Y3 (yZ D _ _ 11 1 2 ⟨by decide,by decide⟩ ⟨by decide,by decide⟩) λym uh=>G3 ?_;refine jp Z [_,_] Y2 λβ20 vN rQ=>me Y2<|Wt 0 [_,_] Y9<|Nt<|Sr<|Je Y3 (yZ D _ _ 6 1 0 ⟨by decide,by decide⟩ ⟨by decide,by decide⟩) λxJ wt=>G3 ?_;refine jp Z [_,_] Y2 λβ22 BC AI=>me Y2<|Wt 0 [_,_] Y9<|G6 ?_;refine iI (Wd 7 Y5) Z<|iI (jD (v':=.bool false) (qM Z Z) (bF (by rw [Re]))) Z<|G4 ?_;refine iI (Wd 6 Y5) Z<|Zg Z Z<|iI (jD (v':=.bool false) (qM Z Z) (bF (by rw [Rc]))) Z<|G5 ?_;refine Wl 4 Y6<|Zg Z Z<|iI (jD (v':=.bool false) (qM Z Z) (bF (by rw [Xm]))) Z ?_;refine G7 ?_;refine iI (jD (v':=.bool false) (qM Z Z) (bF (by rw [Ue]))) Z<|G7 ?_;refine iI (jD (v':=.bool false) (qM Z Z) (bF (by exact Fe.1))) Z<|G7 ?_;refine iI (jD (v':=.bool false) (qM Z Z) (bF (by rfl))) Z ?_;refine G5 ?_;refine Wl 3 Y6<|G3 ?_;refine iI (jD (v':=.bool false) (qM Z Z) (bF (by rfl))) Z<|G5 ?_;refine Wl 3 Y6<|Zg Z Z<|iI (jR (j:=0) Y6 Dc) Z<|Zg Z Z<|iI (pu Y4) Z<|Zg Z Z<|iI (nh 3 Y3 Pz Z) Z<|G3 ?_;refine iI (jD (v':=.bool false) (qM Z Z) (bF (by rfl))) Z<|G8 ?_;refine iI (jC [(_,_)] [_,_,_,_,_] Y3 Z Z Z) Z<|Je Y3 (Dn _ _ 6) λzt yJ=>kF [(_,_),(_,_)] [_,_,_,_,_,_,_,_,_,_] Y9 λβg Am yK hcg=>iI (jC [(_,_),(_,_),(_,_)] [_,_,_,_,_] Y3 Z Z Z) Z<|jp Z [_,_,_,_,_] Y2 λβ25 s25 h25=>Wt 0 [_,_,_,_,_] Y9<|Nt<|Zs<|ma jF 44 Z _ (λ_ h=>h) λBE AJ=>iM 0 V<|Jb Z Tt Z Z Z (EI _ _) ?_;rintro _ _ s27 h27 ⟨rfl,bg6,bf6,rfl,hg6,hf6⟩;refine ⟨λ_ _ h=>h,?_⟩;refine iM 1 V<|Jf Z Tt Z Z Z (FK _ _ Pz 5 ko _ _ _ _ _ Pz Pz) λs28 h28=>za 2 Z (FM Z Z Z Z Z Z Z Z Z) Z<|za 3 Z (jD (v':=.bool true) (pW Z Z) (bT (by rw [Rc]))) Z<|H1 ?_;refine zg 5 Z ⟨_,Z,Z⟩ (jh 9 [_,_] Y5) Z<|zg 6 Z ⟨_,Z,Z⟩ (jC [(_,_)] [_,_] Y3 Z Z Z) Z<|zg 7 Z ⟨_,Z,Z⟩ (jD (v':=.bool true) (J0 Z Z (qFU)) (bT ⟨by rw [Re],by rw [Re]⟩)) Z<|H3 ?_;refine zg 11 Z ⟨_,Z,Z⟩ (jR (j:=0) Y6 Dc) Z<|zg 12 Z ⟨_,Z,Z⟩ (jW Y3 Pz Z) Z ?_;refine H1 ?_;refine zg 14 Z ⟨_,Z,Z⟩ (jD (v':=.bool true) (pW Z Z) (bT (by rfl))) Z<|H2 ?_;refine zg 17 Z ⟨_,Z,Z⟩ (jh 6 [_,_] Y5) Z<|iM 18 V<|Jb Z ⟨_,Z,Z⟩ Z Z Z (EI _ _) ?_;rintro _ _ s29 h29 ⟨rfl,bg7,bf7,rfl,hg7,hf7⟩;refine ⟨λ_ _ h=>h,?_⟩;refine iM 19 V<|Jf Z ⟨_,Z,Z⟩ Z Z Z (qu1 D _ _ 5 ko Pz Pz 5 Pz Pz) λs30 h30=>H3 ?_;refine zg 23 Z ⟨_,Z,Z⟩ (Wd 4 Y5) Z<|zg 24 Z ⟨_,Z,Z⟩ (jR (j:=0) Y6 Dc) Z<|H1 ?_;refine zg 26 Z ⟨_,Z,Z⟩ (nh 3 Y3 Pz Z) Z<|zg 27 Z ⟨_,Z,Z⟩ (jR (j:=0) Y6 Dc) Z<|H1 ?_;refine zg 29 Z ⟨_,Z,Z⟩ (nh 2 Y3 Pz Z) Z<|zg 30 Z ⟨_,Z,Z⟩ (jh 0 [_,_,_,_,_] Y5) Z<|iM 31 V<|pV Z ⟨_,Z,Z⟩ [(_,_)] [_,_,_,_,_] Y9 λβh s31 h31 pQ=>iM 32 V<|Jb Z ⟨_,Z,Z⟩ Z Z Z (Ss 4 _ _ 3 _ _ _ _ _ _ [Jp] Pz (qBP Pz Pz)) ?_;rintro _ _ s32 h32 ⟨rfl,rfl⟩;refine ⟨λ_ _ h=>h,?_⟩;refine za 33 Z (FD Z Z) Z<|za 34 Z (EC Z) Z<|zg 35 Z ⟨_,Z,Z⟩ (EC Z) Z<|zg 36 Z ⟨_,Z,Z⟩ (jD (v':=.bool true) (pW Z Z) (bT (by rw [aw Fe.1];exact Fe.2.2))) Z<|za 37 Z (FD Z Z) Z<|za 38 Z (EC Z) Z<|zg 39 Z ⟨_,Z,Z⟩ (jh 1 [_,_] Y5) Z<|iM 40 V<|Jf Z ⟨_,Z,Z⟩ Z Z Z (TW D _) λs33 h33=>zg 41 Z ⟨_,Z,Z⟩ (jD (v':=.bool true) (J0 Z Z (rq)) (bT Ug)) Z<|za 42 Z (FD Z Z) Z<|za 43 Z (MF Z) Z<|jq V<|G2 ?_;exact rX [_,_,_,_,_,_,_,_,_,_] L Z Lc λ_ iL=>ry
def Nr{s:World}{c:Nat}(hA:ky s A n c ji.U){n1 c1:Nat}{l:LInt9}(hI:lV s A1 n1 c1 l){n2 c2:Nat}(i:iR)(hi:lL s A2 n2 c2 i)(k:Int):Ap9 D 13 [.agg #[iJ 65536,.slice A n c],.slice A1 n1 c1,.slice A2 n2 c2,iJ k] L s λv L' s'=>L=L'/\∃ vs,sV s' (sP ji l i k).1 vs/\v=.tuple #[vs,.agg #[iJ (sP ji l i k).2.1,iJ (sP ji l i k).2.2]]:=qoB L s ji A n c hA A1 n1 c1 l hI A2 n2 c2 i hi k
end
section
variable{x y:Int}
def yj(x:Int):Ex:=.mk 1 0 x [] []
def BM(o x y:Int):Ex:=if o<=3 then .mk 6 o 0 [] [yj x] else .mk 7 o 0 [] [yj x,yj y]
def qa(o x y:Int):ja:=⟨[],[⟨jy,[],[],[.mk 8 [] [BM o x y] [] []]⟩]⟩
def Fu(o x y:Int):Int:=if (mW o y).1=0 then nI o x y else 2
section
variable{x y:Int}
def quz:qg (qa o x y).funcs=0:=by kernel_rfl
def quA:uW (qa o x y)=if o<=3 then 250 else 280:=by
 unfold qa BM;split<;>rfl
def qrB(h:1<=o/\o<=21):qv (qa o x y)=(0,0):=by
  unfold qa BM;split
  . have e:qn 6 o 0 [] 1=0:=by simp [qn,Dr,tu,uV];omega
    simp [qv,wr,yH,pO,nE,tY,om,uL,e,yj,(by decide:oW jy=true),(by decide:tX 8 [] 1 0 0=0),(by simp [qn,Dr,tu,uV]:qn 1 0 x [] 0=0)]
  . have e:qn 7 o 0 [] 2=0:=by simp [qn,Dr,tu,uV];omega
    simp [qv,wr,yH,pO,nE,tY,om,uL,e,yj,(by decide:oW jy=true),(by decide:tX 8 [] 1 0 0=0),(by simp [qn,Dr,tu,uV]:qn 1 0 x [] 0=0),(by simp [qn,Dr,tu,uV]:qn 1 0 y [] 0=0)]
def quB(hx:iY x)(hy:iY y):(Ah (qa o x y)).length<=12000:=by
  have h1:=Bl hx;have h2:=Bl hy;have h3:=qr2 o;unfold qa BM;split
  . simp [Ah,By,ss,vO,wL,qN,mU,AF,yj,B4,oH,qu,jy];omega
  . simp only [Ah,By,ss,vO,wL,qN,mU,AF,yj,B4,oH,qu,jy,dR,aS,bX,bt,List.headD_cons,List.headD_nil,List.tail_cons,List.tail_nil]
    simp;split<;>simp<;>omega
def qA7(h:1<=o/\o<=21)(hx:iY x)(hy:iY y):kU (qa o x y)=(0,0):=by
  refine qz3 ?_ V ?_
  . rw [qV,am (by rw [qrB h];decide),am (by have:=quB (o:=o) hx hy;omega)]
  . intro f hf nd hn
    obtain rfl:=aV.1 hf;revert hn;unfold BM;split<;>(simp only [lI,xZ,pM,pk,yj,aE,aD,aW,aU,eQ,ea,false_or];rintro (rfl|rfl|rfl|rfl)<;>rfl)
def SR(hx:iY x):x=0\/∃ k:Nat,x=((k+1:Nat):Int):=by
 by_cases h:x=0
 . exact .inl h
 . exact .inr ⟨(x - 1).toNat,by have:=hx.1;omega⟩
def qA8(n:Nat)(h:1<=o/\o<=21)(hx:iY x)(hy:iY y):∃ k,My 4 (EA (qa o x y) jx (n+20+1) 0 [] 4)=([],1,Fu o x y,k):=by
  have h1:(o=1\/o=2\/o=3)\/(o=5\/o=6)\/o=20\/o=21\/(o=4\/o=7\/o=8\/o=9\/o=10\/o=11\/o=12\/o=13\/o=14\/o=15\/o=16\/o=17\/o=18\/o=19):=by omega
  rcases h1 with h1|h1|rfl|rfl|h1
  . exact ⟨3,by rcases h1 with rfl|rfl|rfl<;>kernel_rfl⟩
  . refine ⟨4,?_⟩
    rcases SR hy with rfl|⟨k,rfl⟩<;>rcases h1 with rfl|rfl<;>kernel_rfl
  . rcases SR hx with rfl|⟨k,rfl⟩
    . exact ⟨3,by kernel_rfl⟩
    . exact ⟨4,by kernel_rfl⟩
  . rcases SR hx with rfl|⟨k,rfl⟩
    . exact ⟨4,by kernel_rfl⟩
    . exact ⟨3,by kernel_rfl⟩
  . exact ⟨4,by rcases h1 with rfl|rfl|rfl|rfl|rfl|rfl|rfl|rfl|rfl|rfl|rfl|rfl|rfl|rfl<;>kernel_rfl⟩
end
attribute [local irreducible] JC JO JA JB lZ mF mM AC fill iH QE Ev mq
def qJa(h:4<=j)(h2:j < 14):∃ kd,([Value.int .i64 0,iJ 0,iJ 0,iJ 0,iJ 3,iJ 4,iJ 5,iJ 9,iJ 10,iJ 6,iJ 1,iJ 2,iJ 7,iJ 8]:LVal9)[j]?=some (iJ kd)/\(kd=4\/kd=5->(j:Int)=5\/(j:Int)=6)/\∀ x y,jK kd x y=nI (j:Int) x y:=by
 have h3:j=4\/j=5\/j=6\/j=7\/j=8\/j=9\/j=10\/j=11\/j=12\/j=13:=by omega
 rcases h3 with rfl|rfl|rfl|rfl|rfl|rfl|rfl|rfl|rfl|rfl<;>exact ⟨_,rfl,by decide,λx y=>by simp [jK,nI]⟩
def qqY(h:j < 8)(hx:0<=x)(hy:0<=y){a0 a1 a2 a3 a4 a5 a6 a7:Bool}(h0:a0=decide (x=y))(h1:a1=!decide (x=y))(h2:a2=decide (x < y))(h3:a3=decide (x<=y))(h4:a4=decide (y < x))(h5:a5=decide (y<=x))(h6:a6=(!decide (x=0) && !decide (y=0)))(h7:a7=(!decide (x=0) || !decide (y=0))):
  ([Value.bool a0,.bool a1,.bool a2,.bool a3,.bool a4,.bool a5,.bool a6,.bool a7]:LVal9)[j]?=some (.bool (yf ((j+14:Nat):Int) x y)):=by
 subst h0 h1 h2 h3 h4 h5 h6 h7;have hj:j=0\/j=1\/j=2\/j=3\/j=4\/j=5\/j=6\/j=7:=by omega
 rcases hj with rfl|rfl|rfl|rfl|rfl|rfl|rfl|rfl<;>rfl
def Fx{p:Prop} (h:p:=by
 refine ⟨?_,Z⟩;first
  | (rw [hE,am Dc];rfl)
  | (rw [hE];show Value.tuple #[.int .u32 _,.bool true]=.tuple #[.int .u32 (nI _ x y),.bool true];rw [<- hO])
  | (rw [hE];show Value.tuple #[.int .u32 _,.bool true]=.tuple #[.int .u32 (nI _ x y),.bool true];rw [<- hO];rfl)):p:=h
def WT{p:Prop} (h:p:=by
 refine G6 ?_;exact rR [] L (.tmp Z (.t1 Z)) Z Lc λ_ iL=>Fx):p:=h
def Ma{p:Prop} (h:p:=by
 intro βu ku jN hcu;have hcv:=iH.nth hcu (qqY (j:=j) (x:=x) (y:=y) hj hx0 hy0 Q6 Q6 Q6 Q6 Q6 Q6 Q6 Q6);refine G7 ?_;refine iI (rn (c:=(j:Int)) Z Z Q5) Z<|iI (ly Y6 hj) Z<|iI (jW Y3 Pz Z) Z<|Je Y3 (JQ) λkv jP=>G5 ?_;exact rR [] L (.tmp Z (.t1 Z)) Z Lc λ_ iL=>Fx):p:=h
def Ho{p:Prop} (h:p:=by
 refine X6 ?_;intro βu ku jN hcu;have hcv:=iH.nth hcu (qqY (j:=j) (x:=x) (y:=y) hj hx0 hy0 Q6 Q6 Q6 Q6 Q6 Q6 Q6 Q6);refine G7 ?_;refine iI (rn (c:=(j:Int)) Z Z Q5) Z<|iI (ly Y6 hj) Z<|iI (jW Y3 Pz Z) Z<|Je Y3 (JQ) λkv jP=>G5 ?_;exact rR [] L (.tmp Z (.t1 Z)) Z Lc λ_ iL=>Fx):p:=h
def quD(k:Int)(x y:Int)(hx:iY x)(hy:iY y)(hk:1<=k/\k<=21):AV9 D 9 [iJ k,iO x,iO y] L s (.tuple #[iO (if (mW k y).1=0 then nI k x y else 0),.bool (decide ((mW k y).1=0))]):=by
 have g8:¬ (k < 1\/21 < k):=by omega
 have hx0:=hx.1;have hy0:=hy.1;have yV:=hx.2;have hy1:=hy.2;refine jv (fn:=Tryz.f9) jl Tryz.func9 V Z Tryz.ntmps9 Z (rs:=[.tmp 6,.tmp 7]) Z [(0,_),(1,_),(2,_)] Z<|G7 ?_;refine rm 19 ((k=5\/k=6)/\y=0) ?_ ?_
 .refine G4 ?_;refine kT (t:=12) Z ?_ ?_<;>intro c2;.refine lF ?_;refine jd (kE.mk (Lr D) Sb Z (bJ.2 O))
  refine G6 ?_;refine kT (t:=16) Z ?_ ?_<;>intro c3;.exact VN
  exact TD
 intro s1 h1;refine mE Z ?_ ?_<;>intro c4;.have hE:mW k y=(26,-3):=(am g8).trans (aw c4);refine G8 ?_;exact rR [] L (.tmp Z (.t1 Z)) Z h1 λ_ iL=>Fx
 have g16:=c4;have hE:mW k y=(0,0):=(am g8).trans (am g16);refine Zk<|Zt<|Sr<|kF [(_,_),(_,_),(_,_),(_,_),(_,_),(_,_),(_,_),(_,_),(_,_),(_,_),(_,_),(_,_),(_,_),(_,_)] [_,_,_,_,_,_,_,_,_,_,_,_,_,_] Y9 λβt s5 h5 hct=>sA ?_ ?_<;>intro c6
 .have g1:=c6;have hO:(if decide (x=0)=true then 1 else 0:Int)=nI k x y:=by rw [g1];simp [nI,yf]
  refine G4 ?_;refine Je Y3 (JQ) λs7 h7=>?_;exact WT
 refine J9 ?_ ?_<;>intro c7
 .have g2:=c7;have hO:lK (0 - x)=nI k x y:=by rw [g2];rfl
  refine Sr<|jY Y2<|iI (jD (ET Z Z) (show Value.int .u32 (IntKind.u32.wrap (0 - x))=iO (lK (0 - x)) by rw [CI])) Z<|G6 ?_;exact rR [] L (.tmp Z (.t1 Z)) Z Lc λ_ iL=>Fx
 refine J9 ?_ ?_<;>intro c8
 .have g3:=c8;have hO:4294967295 - x=nI k x y:=by rw [g3];rfl
  refine Sr<|jY Y2<|iI (rn (c:=4294967295 - x) Z Z (by rw [CI,lK];omega)) Z<|G6 ?_;exact rR [] L (.tmp Z (.t1 Z)) Z Lc λ_ iL=>Fx
 refine J9 ?_ ?_<;>intro c9;.obtain ⟨j,rfl⟩:=aX (show 0<=k by omega);obtain ⟨kd,hkd,hkz,hkc⟩:=qJa (j:=j) O O;have hO:=hkc x y;refine G4 ?_;refine iI (ly Y6 (show j < 14 by omega)) Z<|iI (jW Y3 (iH.nth Pz hkd) Z) Z<|G2 ?_;refine Je Y3 (ql8 kd x y hx hy (λh h0=>g16 ⟨hkz h,h0⟩)) λku jN=>?_;exact WT
 obtain ⟨j,rfl⟩:∃ j:Nat,k=((j+14:Nat):Int):=⟨(k - 14).toNat,by omega⟩;have hj:j < 8:=by omega
 have hO:(if yf ((j+14:Nat):Int) x y=true then 1 else 0:Int)=nI ((j+14:Nat):Int) x y:=by rw [nI,aw (c:=14<=((j+14:Nat):Int)\/((j+14:Nat):Int)=1) (.inl O)]
 refine G3 ?_;rcases (by omega:(x < y/\x=0)\/(x < y/\0 < x)\/(x=y/\x=0)\/(x=y/\0 < x)\/(y < x/\y=0)\/(y < x/\0 < y)) with g12|g12|g12|g12|g12|g12
 .refine G3 ?_;refine iI (jD (v':=.bool false) (pW Z Z) (bZ O)) Z<|G2 ?_;refine iI (jD (v':=.bool true) (qM Z Z) (bN O)) Z<|G2 ?_;refine iI (jD (v':=.bool true) (qK Z Z) (bT O)) Z<|G2 ?_;refine iI (jD (v':=.bool true) (qK Z Z) (bT O)) Z<|G7 ?_;refine iI (jD (v':=.bool false) (qK Z Z) (bZ O)) Z<|G2 ?_;refine iI (jD (v':=.bool false) (qK Z Z) (bZ O)) Z ?_;refine G6 ?_;refine iI (jD (v':=.bool false) (pW Z Z) (bZ O)) Z<|G2 ?_;refine iI (jD (v':=.bool false) (uB Z Z) (bZ O)) Z<|G5 ?_;refine iI (jD (v':=.bool false) (uB Z Z) (bZ O)) Z<|G4 ?_;refine iI (jD (v':=.bool true) (uB Z Z) (bT O)) Z<|PA Z Z Z<|kF [(_,_),(_,_),(_,_),(_,_),(_,_),(_,_),(_,_),(_,_)] [_,_,_,_,_,_,_,_] Y9 ?_;exact Ma
 .refine G3 ?_;refine iI (jD (v':=.bool false) (pW Z Z) (bZ O)) Z<|G2 ?_;refine iI (jD (v':=.bool true) (qM Z Z) (bN O)) Z<|G2 ?_;refine iI (jD (v':=.bool true) (qK Z Z) (bT O)) Z<|G2 ?_;refine iI (jD (v':=.bool true) (qK Z Z) (bT O)) Z<|G7 ?_;refine iI (jD (v':=.bool false) (qK Z Z) (bZ O)) Z<|G2 ?_;refine iI (jD (v':=.bool false) (qK Z Z) (bZ O)) Z ?_;refine G6 ?_;refine iI (jD (v':=.bool false) (pW Z Z) (bZ O)) Z<|G2 ?_;refine iI (jD (v':=.bool true) (uB Z Z) (bT O)) Z<|G4 ?_;refine iI (jD (v':=.bool true) (uB Z Z) (bT O)) Z<|G2 ?_;refine iI (jD (v':=.bool true) (uB Z Z) (bT O)) Z<|G4 ?_;refine X6 ?_;exact Ma
 .refine G3 ?_;refine iI (jD (v':=.bool true) (pW Z Z) (bT O)) Z<|G2 ?_;refine iI (jD (v':=.bool false) (qM Z Z) (bF O)) Z<|G2 ?_;refine iI (jD (v':=.bool false) (qK Z Z) (bZ O)) Z<|G2 ?_;refine iI (jD (v':=.bool false) (qK Z Z) (bZ O)) Z<|G6 ?_;refine iI (jD (v':=.bool true) (pW Z Z) (bT O)) Z<|G3 ?_;refine iI (jD (v':=.bool false) (qK Z Z) (bZ O)) Z<|G2 ?_;refine iI (jD (v':=.bool false) (qK Z Z) (bZ O)) Z<|G6 ?_;refine iI (jD (v':=.bool true) (pW Z Z) (bT O)) Z<|G2 ?_;refine iI (jD (v':=.bool false) (uB Z Z) (bZ O)) Z<|G5 ?_;refine iI (jD (v':=.bool false) (uB Z Z) (bZ O)) Z<|G4 ?_;refine iI (jD (v':=.bool false) (uB Z Z) (bZ O)) Z<|PA Z Z Z ?_;exact Ho
 .refine G3 ?_;refine iI (jD (v':=.bool true) (pW Z Z) (bT O)) Z<|G2 ?_;refine iI (jD (v':=.bool false) (qM Z Z) (bF O)) Z<|G2 ?_;refine iI (jD (v':=.bool false) (qK Z Z) (bZ O)) Z<|G2 ?_;refine iI (jD (v':=.bool false) (qK Z Z) (bZ O)) Z<|G6 ?_;refine iI (jD (v':=.bool true) (pW Z Z) (bT O)) Z<|G3 ?_;refine iI (jD (v':=.bool false) (qK Z Z) (bZ O)) Z<|G2 ?_;refine iI (jD (v':=.bool false) (qK Z Z) (bZ O)) Z<|G6 ?_;refine iI (jD (v':=.bool true) (pW Z Z) (bT O)) Z<|G2 ?_;refine iI (jD (v':=.bool true) (uB Z Z) (bT O)) Z<|G4 ?_;refine iI (jD (v':=.bool true) (uB Z Z) (bT O)) Z<|G2 ?_;refine iI (jD (v':=.bool true) (uB Z Z) (bT O)) Z<|G4 ?_;exact Ho
 .refine G3 ?_;refine iI (jD (v':=.bool false) (pW Z Z) (bZ O)) Z<|G2 ?_;refine iI (jD (v':=.bool true) (qM Z Z) (bN O)) Z<|G2 ?_;refine iI (jD (v':=.bool false) (qK Z Z) (bZ O)) Z<|G2 ?_;refine iI (jD (v':=.bool false) (qK Z Z) (bZ O)) Z<|G6 ?_;refine iI (jD (v':=.bool false) (pW Z Z) (bZ O)) Z<|G3 ?_;refine iI (jD (v':=.bool true) (qK Z Z) (bT O)) Z<|G2 ?_;refine iI (jD (v':=.bool true) (qK Z Z) (bT O)) Z<|G6 ?_;refine iI (jD (v':=.bool true) (uB Z Z) (bT O)) Z<|G4 ?_;refine iI (jD (v':=.bool false) (uB Z Z) (bZ O)) Z<|G2 ?_;refine iI (jD (v':=.bool true) (uB Z Z) (bT O)) Z<|G4 ?_;refine X6 ?_;exact Ma
 refine G3 ?_;refine iI (jD (v':=.bool false) (pW Z Z) (bZ O)) Z<|G2 ?_;refine iI (jD (v':=.bool true) (qM Z Z) (bN O)) Z<|G2 ?_;refine iI (jD (v':=.bool false) (qK Z Z) (bZ O)) Z<|G2 ?_;refine iI (jD (v':=.bool false) (qK Z Z) (bZ O)) Z<|G6 ?_;refine iI (jD (v':=.bool false) (pW Z Z) (bZ O)) Z<|G3 ?_;refine iI (jD (v':=.bool true) (qK Z Z) (bT O)) Z<|G2 ?_;refine iI (jD (v':=.bool true) (qK Z Z) (bT O)) Z<|G6 ?_;refine iI (jD (v':=.bool true) (uB Z Z) (bT O)) Z<|G4 ?_;refine iI (jD (v':=.bool true) (uB Z Z) (bT O)) Z<|G2 ?_;refine iI (jD (v':=.bool true) (uB Z Z) (bT O)) Z<|G4 ?_;refine X6 ?_;exact Ma
def OM(ho:1<=o/\o<=21)(hx:iY x)(hy:iY y)(hU:si (qa o x y)):(qh (qa o x y) [] 4).2.1=0/\(tH (qa o x y)).1=0/\(sP ji (xK (qa o x y)) [] 200).2.1=0/\(qh (qa o x y) [] 4).1.2.1=1/\(qh (qa o x y) [] 4).1.2.2.1=Fu o x y/\(sP ji (xK (qa o x y)) [] 200).1.2.1=1/\(sP ji (xK (qa o x y)) [] 200).1.2.2.1=Fu o x y:=by
 have hc:=qA7 (o:=o) ho hx hy;have zf:=qHn (p:=qa o x y) (by rw [hc]) (by rw [quA];split<;>decide);obtain ⟨g1,g2,_,g4⟩:=qJb (p:=qa o x y) (inp:=[]) (a:=4) hU (by rw [zf]) Dc Dc;obtain ⟨k,hk⟩:=qA8 (o:=o) (x:=x) (y:=y) 99999982 ho hx hy;have hr:qh (qa o x y) [] 4=(([],1,Fu o x y,k),(0,0)):=by
  rw [show (4:Int)=((4:Nat):Int) from rfl,RZ (by rw [hc];decide) Dc Dc,Ez,quz,Tg,Int.toNat_zero,hk]
 rw [hr] at g4;obtain ⟨h1,h2,h3⟩:=g4 (show ¬ (1:Int)=0 by decide);rw [hr];exact ⟨rfl,by rw [zf],g2,rfl,rfl,h1.symm,h2.symm⟩
def Ob{c b4 b5 b6:Nat}{l:List Ex}(e:j9 2 s A n c l)(ho:BM o x y=.mk kd o 0 [] l)(h4:iH s b4 0 [iJ kd,iJ o,iO 0,St [],.slice A n c])(h5:iH s b5 0 [iJ 8,St [],.slice (j6 b4) 1 1,.slice none 0 0,.slice none 0 0])(h6:iH s b6 0 [St jy,.slice none 0 0,.slice none 0 0,.slice (j6 b5) 1 1]):ju 4 s (j6 b6) 1 1 (qa o x y).funcs:=by
 have e3:j9 3 s (j6 b4) 1 1 [BM o x y]:=by rw [ho];exact Sl.lit [[_,_,_,_,_]] h4 rfl (.cons (zT e ⟨by decide,by decide⟩ Dc) .nil) 1 rfl O
 have e4:jz 4 s (j6 b5) 1 1 [.mk 8 [] [BM o x y] [] []]:=Sl.lit [[_,_,_,_,_]] h5 rfl (.cons ⟨rfl,_,_,_,_,_,_,_,_,_,rfl,e3,JP 3 s,JP 3 s,aB _⟩ .nil) 1 rfl O;exact Sl.lit [[_,_,_,_]] h6 rfl (.cons ⟨rfl,_,_,_,_,_,_,_,_,_,rfl,FV s,FV s,e4,show jy.length<=9223372036854775807 by decide⟩ .nil) 1 rfl O
def Xs(h:¬ 3 < o):BM o x y=.mk 6 o 0 [] [yj x]:=aw O
def Xr(h:3 < o):BM o x y=.mk 7 o 0 [] [yj x,yj y]:=am O
def qpU{b:Nat}(hx:iY x)(h:iH s b 0 [iJ 1,iJ 0,iO x,St [],.slice none 0 0]):j9 2 s (j6 b) 1 1 [yj x]:=Sl.lit [[_,_,_,_,_]] h rfl (.cons (zT (Dj 1 s) hx Dc) .nil) 1 rfl O
def qpV{b:Nat}(hx:iY x)(hy:iY y)(h:iH s b 0 [iJ 1,iJ 0,iO x,St [],.slice none 0 0,iJ 1,iJ 0,iO y,St [],.slice none 0 0]):j9 2 s (j6 b) 2 2 [yj x,yj y]:=Sl.lit [[_,_,_,_,_],[_,_,_,_,_]] h rfl (.cons (zT (Dj 1 s) hx Dc) (.cons (zT (Dj 1 s) hy Dc) .nil)) 2 rfl O
def qGH(ho:1<=o/\o<=21)(h:¬ (mW o y).1=0):mW o y=(26,-3):=by
 unfold mW at h ⊢;rw [am O] at h ⊢;split
 . rfl
 . rename_i h1;rw [am h1] at h;exact absurd rfl h
def L9{p:Prop} (h:p:=by
 refine Wt 1 [_,_,_,_] Y9<|Wt 0 [_,_] Y9<|G5 ?_;refine Wl 3 Y6<|iI (jD (v':=.bool true) (pW Z Z) (bT gl.1)) Z<|G6 ?_;refine iI (jD (v':=.bool true) (pW Z Z) (bT gl.2.1)) Z<|G7 ?_;refine iI (jD (v':=.bool true) (pW Z Z) (bT gl.2.2.1)) Z ?_;refine G5 ?_;refine Wl 4 Y6<|Zg Z Z<|iI (jD (v':=.bool true) (pW Z Z) (bT gl.2.2.2.1)) Z<|G5 ?_;refine Wl 4 Y6<|G3 ?_;refine iI (jD (v':=.bool true) (pW Z Z) (bT (by rw [gl.2.2.2.2.1,hw]<;>exact (aw hz).symm))) Z<|G7 ?_;refine iI (jD (v':=.bool true) (pW Z Z) (bT gl.2.2.2.2.2.1)) Z ?_;refine G9 ?_;refine iI (jD (v':=.bool true) (pW Z Z) (bT (by rw [gl.2.2.2.2.2.2,hw]<;>exact (aw hz).symm))) Z<|G5 ?_;exact rX [_,_,_,_,_,_,_,_] L Z Lc λ_ iL=>ry):p:=h
def qoS(L:Hl)(s:World)(hG:GP s)(o x y:Int)(hx:iY x)(hy:iY y):AV9 D 3 [iJ o,iO x,iO y] L s (.bool true):=by
 refine jv (fn:=Tryz.f3) jl Tryz.func3 V Z Tryz.ntmps3 Z (rs:=[.tmp 6]) Z [(0,_),(1,_),(2,_)] Z<|lF ?_;refine Je Y3 (yZ D _ _ o x y hx hy) λs1 h1=>G3 ?_;refine jp Z [_,_] Y2 λβ2 s2 h2=>me Y2<|Wt 0 [_,_] Y9<|Nt<|Zs<|Sr<|Je Y3 (qor Pz) λs3 h3=>Cc Z Z<|G9 ?_;refine Je Y3 (qI8 D _) λs4 h4=>G3 ?_;refine lD Z ?_ ?_<;>intro c5;.have g30:¬ (1<=o/\o<=21):=c5;have hE:mW o y=(4,-1):=aw O;refine Zs<|ma jF 8 Z _ (λ_ h=>h) λs6 h6=>za 0 Z (jh 0 [_,_] Y5) Z<|iM 1 V<|Jf Z Tt Z Z Z (TW D _) λs7 h7=>za 2 Z (jD (v':=.bool true) (J0 Z Z (rq)) (bT ⟨by rw [hE],by rw [hE]⟩)) Z<|H2 ?_;refine zg 5 Z ⟨_,Z,Z⟩ (jD (v':=.bool true) (pW Z Z) (bT (am (by rw [hE];decide)))) Z<|H2 ?_;refine jq V<|G3 ?_;exact rX [_] L Z Lc λ_ iL=>ry
 have ho:1<=o/\o<=21:=c5;refine G7 ?_;refine Je Y3 (quD o x y hx hy ho) λs6 h6=>qP ?_;refine lD Z ?_ ?_<;>intro c7
 .have hz:¬ (mW o y).1=0:=c7;have hE:=qGH ho hz;have hw:Fu o x y=2:=am hz;refine Zs<|Zs<|ma jF 7 Z _ (λ_ h=>h) λs8 h8=>za 0 Z (jh 0 [_,_] Y5) Z<|iM 1 V<|Jf Z Tt Z Z Z (TW D _) λs9 h9=>za 2 Z (jD (v':=.bool false) (sL Z Z (rq)) (bF ⟨by rw [hE],by rw [hE]⟩)) Z<|H2 ?_;refine zg 5 Z ⟨_,Z,Z⟩ (jD (v':=.bool false) (qM Z Z) (bF (am hz))) Z<|H1 ?_;refine jq V<|mn ?_;refine Je Y3 (Dn _ _ x) λku jN=>kF [(_,_)] [_,_,_,_,_] Y9 λβa kv jP uj=>iI (jC [(_,_),(_,_),(_,_)] [_,_,_,_,_] Y3 Z Z Z) Z<|jp Z [_,_,_,_,_] Y2 λβ12 kc jL=>Wt 0 [_,_,_,_,_] Y9<|J9 ?_ ?_<;>intro oP;.have hq3:3 < o:=oP;refine G3 ?_;refine Je Y3 (Dn _ _ x) λli kz=>jY Y2<|Je Y3 (Dn _ _ y) λlJ lr=>kF [(_,_),(_,_)] [_,_,_,_,_,_,_,_,_,_] Y9 λβb qW qD pf=>iI (jC [(_,_),(_,_),(_,_)] [_,_,_,_,_] Y3 Z Z Z) Z<|Wt 0 [_,_,_,_,_] Y9<|Nt<|Sr<|iI (jh 0 [_,_,_,_,_] Y5) Z<|kF [(_,_)] [_,_,_,_,_] Y9 λβc tE qR mv=>iI (jC [(_,_),(_,_)] [_,_,_,_,_] Y3 Z Z Z) Z<|kF [(_,_)] [_,_,_,_,_] Y9 λβd yl vm jo=>iI (jC [(_,_),(_,_)] [_,_,_,_] Y3 Z Z Z) Z<|kF [(_,_)] [_,_,_,_] Y9 λβe ym uh tL=>iI (jC [(_,_)] [_,_] Y3 Z Z Z) Z<|jp Z [_,_] Y2 λβ20 vN rQ=>Wt 0 [_,_] Y9<|G3 ?_;have hF:=Ob (qpV hx hy Pz) (Xr hq3) (mv.le (vm.t uh|>.t rQ)) (jo.le (uh.t rQ)) (tL.le rQ);have gl:=OM ho hx hy ⟨(x7 s).u,hF.u⟩;refine Zr<|iI (jh 0 [_,_] Y5) Z<|Jc Y3 (NH _ _ Pz 4 (qa o x y) (x7 _) Pz [] (lL.nil _ _ _ O) 4) ?_;rintro _ _ xJ wt ⟨rfl,_,rfl,Ax,nx,qx,rfl,ta⟩;refine G3 ?_;refine jp Z [_,_,_,_] Y2 λβ22 BC AI=>jp Z [_,_] Y2 λβ23 zt yJ=>Wt 1 [_,_,_,_] Y9<|Wt 0 [_,_] Y9<|Nt<|Sr<|iI (jh 2 [_,_] Y5) Z<|Jc Y3 (MX D _ _ Pz 4 (qa o x y) (x7 _) Pz) ?_;rintro _ _ Am yK ⟨rfl,Aw1,nw1,cw1,rfl,hw1⟩;refine G3 ?_;refine jp Z [_,_] Y2 λβ25 s25 h25=>me Y2<|Wt 0 [_,_] Y9<|Nt<|Sr<|Jc Y3 (JX D _ _) ?_;rintro _ _ BE AJ ⟨rfl,Ad1,nd1,cd1,rfl,hD1⟩;refine jY Y2<|Jc Y3 (Nr Pz Pz [] (lL.nil _ _ _ O) 200) ?_;rintro _ _ s27 h27 ⟨rfl,_,⟨Ay,ny,qy,rfl,hBy⟩,rfl⟩;refine G3 ?_;refine jp Z [_,_,_,_] Y2 λβ28 s28 h28=>jp Z [_,_] Y2 ?_;intro β29 s29 h29;exact L9
  have hq3:¬ 3 < o:=oP;refine Zk<|Zt<|Sr<|iI (jh 0 [_,_,_,_,_] Y5) Z<|kF [(_,_)] [_,_,_,_,_] Y9 λβc li kz mv=>iI (jC [(_,_),(_,_)] [_,_,_,_,_] Y3 Z Z Z) Z<|kF [(_,_)] [_,_,_,_,_] Y9 λβd lJ lr jo=>iI (jC [(_,_),(_,_)] [_,_,_,_] Y3 Z Z Z) Z<|kF [(_,_)] [_,_,_,_] Y9 λβe qW qD tL=>iI (jC [(_,_)] [_,_] Y3 Z Z Z) Z<|jp Z [_,_] Y2 λβ17 tE qR=>Wt 0 [_,_] Y9<|G3 ?_;have hF:=Ob (qpU hx Pz) (Xs (y:=y) hq3) (mv.le (lr.t qD|>.t qR)) (jo.le (qD.t qR)) (tL.le qR);have gl:=OM ho hx hy ⟨(x7 s).u,hF.u⟩;refine Zr<|iI (jh 0 [_,_] Y5) Z<|Jc Y3 (NH _ _ Pz 4 (qa o x y) (x7 _) Pz [] (lL.nil _ _ _ O) 4) ?_;rintro _ _ yl vm ⟨rfl,_,rfl,Ax,nx,qx,rfl,ta⟩;refine G3 ?_;refine jp Z [_,_,_,_] Y2 λβ19 ym uh=>jp Z [_,_] Y2 λβ20 vN rQ=>Wt 1 [_,_,_,_] Y9<|Wt 0 [_,_] Y9<|Nt<|Sr<|iI (jh 2 [_,_] Y5) Z<|Jc Y3 (MX D _ _ Pz 4 (qa o x y) (x7 _) Pz) ?_;rintro _ _ xJ wt ⟨rfl,Aw1,nw1,cw1,rfl,hw1⟩;refine G3 ?_;refine jp Z [_,_] Y2 λβ22 BC AI=>me Y2<|Wt 0 [_,_] Y9<|Nt<|Sr<|Jc Y3 (JX D _ _) ?_;rintro _ _ zt yJ ⟨rfl,Ad1,nd1,cd1,rfl,hD1⟩;refine jY Y2<|Jc Y3 (Nr Pz Pz [] (lL.nil _ _ _ O) 200) ?_;rintro _ _ Am yK ⟨rfl,_,⟨Ay,ny,qy,rfl,hBy⟩,rfl⟩;refine G3 ?_;refine jp Z [_,_,_,_] Y2 λβ25 s25 h25=>jp Z [_,_] Y2 ?_;intro β26 BE AJ;exact L9
 have hz:(mW o y).1=0:=c7;have hw:Fu o x y=nI o x y:=aw hz;refine G4 ?_;refine iI (jD (v':=.bool false) (qM Z Z) (bF hz)) Z<|G6 ?_;refine X14 ?_;refine Je Y3 (Dn _ _ x) λs8 h8=>kF [(_,_)] [_,_,_,_,_] Y9 λβa s9 h9 uj=>iI (jC [(_,_),(_,_),(_,_)] [_,_,_,_,_] Y3 Z Z Z) Z<|jp Z [_,_,_,_,_] Y2 λβ10 ku jN=>Wt 0 [_,_,_,_,_] Y9<|J9 ?_ ?_<;>intro mN;.have hq3:3 < o:=mN;refine G3 ?_;refine Je Y3 (Dn _ _ x) λkc jL=>jY Y2<|Je Y3 (Dn _ _ y) λkY kN=>kF [(_,_),(_,_)] [_,_,_,_,_,_,_,_,_,_] Y9 λβb li kz pf=>iI (jC [(_,_),(_,_),(_,_)] [_,_,_,_,_] Y3 Z Z Z) Z<|Wt 0 [_,_,_,_,_] Y9<|Nt<|Sr<|iI (jh 0 [_,_,_,_,_] Y5) Z<|kF [(_,_)] [_,_,_,_,_] Y9 λβc lJ lr mv=>iI (jC [(_,_),(_,_)] [_,_,_,_,_] Y3 Z Z Z) Z<|kF [(_,_)] [_,_,_,_,_] Y9 λβd qW qD jo=>iI (jC [(_,_),(_,_)] [_,_,_,_] Y3 Z Z Z) Z<|kF [(_,_)] [_,_,_,_] Y9 λβe tE qR tL=>iI (jC [(_,_)] [_,_] Y3 Z Z Z) Z<|jp Z [_,_] Y2 λβ18 yl vm=>Wt 0 [_,_] Y9<|G3 ?_;have hF:=Ob (qpV hx hy Pz) (Xr hq3) (mv.le (qD.t qR|>.t vm)) (jo.le (qR.t vm)) (tL.le vm);have gl:=OM ho hx hy ⟨(x7 s).u,hF.u⟩;refine Zr<|iI (jh 0 [_,_] Y5) Z<|Jc Y3 (NH _ _ Pz 4 (qa o x y) (x7 _) Pz [] (lL.nil _ _ _ O) 4) ?_;rintro _ _ ym uh ⟨rfl,_,rfl,Ax,nx,qx,rfl,ta⟩;refine G3 ?_;refine jp Z [_,_,_,_] Y2 λβ20 vN rQ=>jp Z [_,_] Y2 λβ21 xJ wt=>Wt 1 [_,_,_,_] Y9<|Wt 0 [_,_] Y9<|Nt<|Sr<|iI (jh 2 [_,_] Y5) Z<|Jc Y3 (MX D _ _ Pz 4 (qa o x y) (x7 _) Pz) ?_;rintro _ _ BC AI ⟨rfl,Aw1,nw1,cw1,rfl,hw1⟩;refine G3 ?_;refine jp Z [_,_] Y2 λβ23 zt yJ=>me Y2<|Wt 0 [_,_] Y9<|Nt<|Sr<|Jc Y3 (JX D _ _) ?_;rintro _ _ Am yK ⟨rfl,Ad1,nd1,cd1,rfl,hD1⟩;refine jY Y2<|Jc Y3 (Nr Pz Pz [] (lL.nil _ _ _ O) 200) ?_;rintro _ _ s25 h25 ⟨rfl,_,⟨Ay,ny,qy,rfl,hBy⟩,rfl⟩;refine G3 ?_;refine jp Z [_,_,_,_] Y2 λβ26 BE AJ=>jp Z [_,_] Y2 ?_;intro β27 s27 h27;exact L9
 have hq3:¬ 3 < o:=mN;refine Zk<|Zt<|Sr<|iI (jh 0 [_,_,_,_,_] Y5) Z<|kF [(_,_)] [_,_,_,_,_] Y9 λβc kc jL mv=>iI (jC [(_,_),(_,_)] [_,_,_,_,_] Y3 Z Z Z) Z<|kF [(_,_)] [_,_,_,_,_] Y9 λβd kY kN jo=>iI (jC [(_,_),(_,_)] [_,_,_,_] Y3 Z Z Z) Z<|kF [(_,_)] [_,_,_,_] Y9 λβe li kz tL=>iI (jC [(_,_)] [_,_] Y3 Z Z Z) Z<|jp Z [_,_] Y2 λβ15 lJ lr=>Wt 0 [_,_] Y9<|G3 ?_;have hF:=Ob (qpU hx Pz) (Xs (y:=y) hq3) (mv.le (kN.t kz|>.t lr)) (jo.le (kz.t lr)) (tL.le lr);have gl:=OM ho hx hy ⟨(x7 s).u,hF.u⟩;refine Zr<|iI (jh 0 [_,_] Y5) Z<|Jc Y3 (NH _ _ Pz 4 (qa o x y) (x7 _) Pz [] (lL.nil _ _ _ O) 4) ?_;rintro _ _ qW qD ⟨rfl,_,rfl,Ax,nx,qx,rfl,ta⟩;refine G3 ?_;refine jp Z [_,_,_,_] Y2 λβ17 tE qR=>jp Z [_,_] Y2 λβ18 yl vm=>Wt 1 [_,_,_,_] Y9<|Wt 0 [_,_] Y9<|Nt<|Sr<|iI (jh 2 [_,_] Y5) Z<|Jc Y3 (MX D _ _ Pz 4 (qa o x y) (x7 _) Pz) ?_;rintro _ _ ym uh ⟨rfl,Aw1,nw1,cw1,rfl,hw1⟩;refine G3 ?_;refine jp Z [_,_] Y2 λβ20 vN rQ=>me Y2<|Wt 0 [_,_] Y9<|Nt<|Sr<|Jc Y3 (JX D _ _) ?_;rintro _ _ xJ wt ⟨rfl,Ad1,nd1,cd1,rfl,hD1⟩;refine jY Y2<|Jc Y3 (Nr Pz Pz [] (lL.nil _ _ _ O) 200) ?_;rintro _ _ BC AI ⟨rfl,_,⟨Ay,ny,qy,rfl,hBy⟩,rfl⟩;refine G3 ?_;refine jp Z [_,_,_,_] Y2 λβ23 zt yJ=>jp Z [_,_] Y2 ?_;intro β24 Am yK;exact L9
end
section
open Go.ChangeShapes Go.WideShapes Go.ChangeAt Go.Deep
def quL:ownKnob Tryz.prog.godebug=none:=by kernel_rfl
def quh:laidOutB Tryz.prog=true:=by kernel_rfl
def qri(l:List Obj):∃ D,∀ E,D<=E->∀ o∈l,o≠mA E:=by
 induction l with
 | nil=>exact ⟨0,λ_ _ _ h=>by cases h⟩
 | cons x l ih=>
  obtain ⟨D,hD⟩:=ih;have hx:∃ B,∀ E,B<=E->x≠mA E:=by
   cases x with
   | mapIter a n b c=>exact ⟨n+1,λE hE h=>by simp only [mA,Obj.mapIter.injEq] at h;omega⟩
   | _=>exact ⟨0,λE _ h=>by simp [mA] at h⟩
  obtain ⟨B,hB⟩:=hx;refine ⟨max D B,λE hE o ho=>?_⟩;rcases aW.1 ho with rfl|ho
  . exact hB E O
  . exact hD E O o ho
def qoU(W:World):∃ D,∀ k:Nat,W.heap[k]?≠some (mA D):=by
 obtain ⟨D,hD⟩:=qri W.heap.toList;refine ⟨D,λk hk=>hD D (aC _) (mA D) ?_ Z⟩;rw [<- ic] at hk;exact ay hk
def qtq(hD:∀ k:Nat,W.heap[k]?≠some (mA D))(h:Le D W W'):Below W.heap.size W W':=
 ⟨h.os,h.tape,h.output,h.size,λk hk=>(h.block k hk).resolve_left (hD k)⟩
def qrb{f:FuncId}{args:LVal9}(h:∀ D,AC P D f args [] W λv L' _=>v=.bool true/\[]=L'):
  Calls P f args.toArray W λe W'=>e=.returned (.bool true)/\Below W.heap.size W W':=by
 obtain ⟨D,hD⟩:=qoU W;refine ((h D).2 ⟨by simp,λx hx=>by cases hx⟩).mono ?_;rintro e w' ⟨v,L',s',h1,rfl,h3,h4,rfl,rfl⟩;exact ⟨h1,qtq hD h4⟩
section
variable{H:Type}{enc:TypeId×Value->H}
def XW{W W':World}(hl:laidOutB P=true)(hb:Below W.heap.size W W'):∀ {ts:List TypeId} {vs:LVal9} {ds:List (DataW H)} {ps:List MemPlace},(∀ t∈ts,P.readableRec t=true/\t < P.types.size)->(∀ x∈ps,x.block < W.heap.size) ->
  DataW.TrodAll enc P W 0 (λ_=>true) true ts vs ds ps->DataW.TrodAll enc P W' 0 (λb=>decide (b < W.heap.size)) true ts vs ds ps
 | [],_,_,_,_,_,h=>by
  obtain ⟨rfl,rfl,rfl⟩:=trodAll_nil h;exact trodAll_mk0
 | t::ts,_,_,_,hts,hp,h=>by
  obtain ⟨v,vs,d,ds,a,b,rfl,rfl,rfl,h1,h2⟩:=trodAll_cons h;have ht:=hts t Mc;exact trodAll_cons_mk (Below.trod hl ht.1 ht.2 h1 hb λx hx=>hp x (aN _ hx)) (XW hl hb (λt' h'=>hts t' (aq _ h')) (λx hx=>hp x (aJ _ hx)) h2)
def quj{s:ChangeSpec}{args:Array Value}{ds gs:List (DataW H)}{before:List MemPlace}(hl:laidOutB P=true)(hts:∀ t∈fn.params.toList,P.readableRec t=true/\t < P.types.size)(hr:fn.resultTypes=#[tb])(hb:P.underlying tb=some .bool)
  (hv:s.vars=[]) (hW:DataW.Whole enc P fn.params.toList s.vars false W args.toList ds gs before) (hfn:s.fn H ds={ results:=[.lit (.bool true)],args:=ds }) (hB:Below W.heap.size W W'):s.post enc P fn false true false false W args (.bool true) W':=by
 have lm:∀ x∈before,x.block < W.heap.size:=λx hx=>hW.lt x hx;have hW':=hW;obtain ⟨p,q,hA,hV,rfl,_,_⟩:=hW;rw [hv] at hV;obtain ⟨rfl,rfl⟩:=trodVars_none hV;refine ⟨ds,[],p++[],[],p,[],hW',?_,?_,?_,hB.frame _,λh=>by cases h⟩
 . rw [aE,hfn,hr];exact trodAll_cons_mk (shut_bool hb _) trodAll_mk0
 . rw [aE,hfn];exact XW hl hB hts (λx hx=>lm x (aN _ hx)) hA
 . rw [aE,hfn,hv];rfl
end
section
variable{t e:TypeId}{cs:LVal9}
def qyl{n:Int}(h:(Lit.int .u32 n).wf=true):iY n:=by have:=bounds_u32 h;exact ⟨by omega,by omega⟩
end
set_option maxRecDepth 100000
instance:Inhabited Ex:=⟨.mk 0 0 0 [] []⟩
instance:Inhabited jb:=⟨.mk 0 [] [] [] []⟩
instance:Inhabited iT:=⟨⟨[],[],[],[]⟩⟩
instance:Inhabited jM:=⟨⟨0,[],0,[]⟩⟩
def qxZ{nm:String}{g:Nat}{cs:Array Value}(hg:prog.globalNamed nm=some g)(h:W.var? prog nm=some cs):∃ ty fz,W.heap[g]?=some (.cells cs ty fz):=by
  unfold World.var? at h;rw [hg] at h;simp only [gM] at h;split at h
  . rename_i c t f hb
    injection h with h;subst h;exact ⟨t,f,hb⟩
  . cases h
def qrV(u:TypeId)(hu:prog.typeName? 3 u=prog.typeName? 3 392):u=392:=
 have hn:prog.typeName? 3 392=some ("*" ++ "errors.errorString"):=by kernel_rfl
 typeName_ptr_named (nm := "errors.errorString") V V Dc u (hu.trans hn)
def qI3(h:laidMetH prog Rows.compileSimplifiedProgramsAgreeRow.laid W):GP W:=by
 rw [gq _ _ _ V] at h;have h2:=h.tail.tail;have hpow:=Lib.tabIs_of_head (zs:=Lib.pow10Tab) (k:=.u64) (g:=2) V V underlying350 underlying257 V V h2;have h4:=h2.tail.tail;obtain ⟨a1,s1,xj,_⟩:=laid_sentinel (g:=9) h4 V V underlying216 (λu hu=>qrV u (hu.trans V)) underlying392 underlying394 rfl rfl underlying9 V V;obtain ⟨a2,s2,uR,_⟩:=laid_sentinel (g:=8) h4.tail V V underlying216 (λu hu=>qrV u (hu.trans V)) underlying392 underlying394 rfl rfl underlying9 V V;have hasc:=Lib.tabIs_of_head (zs:=Lib.asciiSpaceTab) (k:=.u8) (g:=0) V V underlying342 underlying5 V V h4.tail.tail.tail;refine ⟨⟨?_,?_,?_⟩,qxZ (g:=0) V hasc⟩
 . exact qxZ (g:=2) V hpow
 . exact ⟨_,_,World.var?_cell (g:=8) V uR 0⟩
 . exact ⟨_,_,World.var?_cell (g:=9) V xj 0⟩
end
end Go.Proofs.YtapeaicongaggaaGreatDoor
