/- Part 9. -/
import Derived.Test.YtapeaicongaggaaGreatDoorQ41z8
import Derived.WalkSmall
set_option linter.unusedVariables false
set_option linter.defProp false
set_option linter.unusedSimpArgs false
set_option linter.unnecessarySimpa false
set_option maxRecDepth 100000
set_option maxHeartbeats 8000000
namespace Go.Proofs.YtapeaicongaggaaGreatDoor
open Go Go.RowKit Go.Proofs.Tryz
def gN:=@Option.bind_eq_some_iff
def iw:=@Addr.mk.injEq
variable{s:World}{D c d k n nf jr N b1 b2 B C ng cg cf mi bx j i:Nat}{A Af Ag A1 A2 A3:OAdr9}{rs:List ResultVar}{x:Operand}{nm:iR}{l:List jb}{p q:ja}{xs:List Operand}{ts:Array TypeId}{vs:LVal9}{v rJ a y cd o:Int}{ch:List PanicEntry}{e:iR×(Int×Int)}{R K Zq9 L' X Y:Hl}{iP:List Oper}{dst:Option Nat}{af:Array Edge}{Ms:List Hl}{iS:String}{ov fv:Value}{P:Program}{fn:Func}{F G:List Bool}{Q:qd}
section
attribute [local irreducible] JC JO JA JB lZ mF mM AC fill iH QE Ev mq
variable(L:Hl)(s:World){M:Hl}{f:iT}{x:Ex}
def qoC(n:Nat):xx (List.replicate n false)=n:=by
 induction n with
 | zero=>rfl
 | succ n ih=>rw [eT,xx,ih];simp;omega
def oC(n:Nat):List.replicate n (Value.bool false)=qm (List.replicate n false):=by simp [qm]
def TO{p:Prop} (h:p:=by
 have:=e3.len;rw [aY O,show i - tZ.length=0 by omega];rfl):p:=h
def TN{p:Prop} (h:p:=by
 rw [aY O,show i - vR.length=0 by omega] at hy;simpa using hy):p:=h
def SO.pub{s:World}:∀ {d:Nat} {M:Hl} {x:jb} {cs:LVal9},SO d s M x cs->mz M s->cs.length=5/\vW d s x cs:=by
 intro d;induction d with
 | zero=>exact λh=>h.elim
 | succ d ih=>
  intro M x cs h hp;obtain ⟨e,A1,n1,c1,A2,n2,c2,A3,n3,c3,M1,M2,M3,he,rfl,rfl,h1,⟨k2,m2,rfl,r2,q2⟩,⟨k3,m3,rfl,r3,q3⟩,h4⟩:=h.eq;obtain rfl:d=e:=by omega
  have row:∀ {A:OAdr9} {n c:Nat} {l:List jb} {css:List LVal9} {Ms:List Hl},vV 5 s A n c css->kV (SO d s) Ms l css->mz Ms.flatten s->Sl 5 (vW d) s A n c l:=by
   intro A n c l css Ms hr ha hpm;have hl:=ha.len;refine ⟨by rw [hr.1];exact hl.2,hr.2.1,hr.2.2.1,λi y hy=>?_⟩;have zK:i < l.length:=(al.1 hy).1;obtain ⟨vP,u,vQ,vR,v,yx,tZ,w,vS,rfl,rfl,rfl,e1,e2,e3,_⟩:=ha.at_ zK;have hy2:v=y:=by
    exact TN
   subst hy2;have hw:(tZ++w::vS)[i]?=some w:=by
    exact TO
   obtain ⟨b,off,pd,tf⟩:=hr.at_ hw;obtain ⟨h5,h6⟩:=ih e2 (JK hpm u (aJ _ Mc));exact ⟨b,off,w,pd,tf,h5,h6⟩
  exact ⟨rfl,A1,n1,c1,A2,n2,c2,A3,n3,c3,rfl,h1.pub hp.left,row r2 q2 hp.right.left,row r3 q3 hp.right.right,h4⟩
def rN.pub{s:World}(h:rN d s M A n c l)(hp:mz M s):jz d s A n c l:=by
 obtain ⟨css,Ms,rfl,hr,ha⟩:=h;have hl:=ha.len;refine ⟨by rw [hr.1];exact hl.2,hr.2.1,hr.2.2.1,λi y hy=>?_⟩;have zK:i < l.length:=(al.1 hy).1;obtain ⟨vP,u,vQ,vR,v,yx,tZ,w,vS,rfl,rfl,rfl,e1,e2,e3,_⟩:=ha.at_ zK;have hy2:v=y:=by
  exact TN
 subst hy2;have hw:(tZ++w::vS)[i]?=some w:=by
  exact TO
 obtain ⟨b,off,pd,tf⟩:=hr.at_ hw;obtain ⟨h5,h6⟩:=e2.pub (JK hp u (aJ _ Mc));exact ⟨b,off,w,pd,tf,h5,h6⟩
def Ci.pub{s:World}{l:List iT}(h:Ci d s M A n c l)(hp:mz M s):ju d s A n c l:=by
 obtain ⟨css,Ms,rfl,hr,ha⟩:=h;have hl:=ha.len;refine ⟨by rw [hr.1];exact hl.2,hr.2.1,hr.2.2.1,λi y hy=>?_⟩;have zK:i < l.length:=(al.1 hy).1;obtain ⟨vP,u,vQ,vR,v,yx,tZ,w,vS,rfl,rfl,rfl,e1,e2,e3,_⟩:=ha.at_ zK;have hy2:v=y:=by
  exact TN
 subst hy2;have hw:(tZ++w::vS)[i]?=some w:=by
  exact TO
 obtain ⟨b,off,pd,tf⟩:=hr.at_ hw;obtain ⟨A1,n1,c1,A2,n2,c2,A3,n3,c3,q1,q2,q3,q4,q5⟩:=e2;exact ⟨b,off,w,pd,tf,by rw [q1];rfl,A1,n1,c1,A2,n2,c2,A3,n3,c3,q1,q2,q3,q4.pub (JK hp u (aJ _ Mc)),q5⟩
def Ya(d:Nat)(p:ja)(Ag:OAdr9)(ng cg nf cf:Nat)(jQ:jn s Ag ng cg p.o)(j8:ju d s Af nf cf p.funcs)(hV:PV p):Ap9 D 47 [.agg #[.slice Ag ng cg,.slice Af nf cf]] L s λv L' s'=>L=L'/\∃ Bg mg eg Bf mf ef,v=.agg #[.slice Bg mg eg,.slice Bf mf ef]/\jn s' Bg mg eg p.o/\ju d s' Bf mf ef p.funcs:=by
 refine (AC.pub (FG L s d p Ag Af ng cg nf cf jQ j8 hV)).mono ?_;rintro v L1 s1 _ ⟨h1,M1,s2,⟨Bg,mg,eg,Bf,mf,ef,h2,h3,h4⟩,hl,h5⟩;exact ⟨h1,Bg,mg,eg,Bf,mf,ef,h2,h3.le hl,(h4.le hl).pub h5⟩
def qL{α:Type}:List Bool->List α->List α
 | b::B,x::l=>if b=true then x::qL B l else qL B l
 | [],_=>[]
 | _::_,[]=>[]
def Cw{α:Type}:∀ {B:List Bool} {l:List α} {k:Nat} {x:α},l[k]?=some x->qL B (l.take (k+1))=qL B (l.take k)++(if B.getD k false=true then [x] else [])
 | [],l,k,x,_=>by simp [qL]
 | b::B,[],k,x,h=>by cases h
 | b::B,y::l,0,x,h=>by
  simp at h;subst h;simp only [fQ,List.take_zero,qL,fS,aD];cases B<;>simp [qL]
 | b::B,y::l,k+1,x,h=>by
  have:=Cw (B:=B) (l:=l) (k:=k) (x:=x) Q4;simp only [fQ,qL,List.getD_cons_succ];by_cases hb:b=true
  . rw [aw hb,aw hb,this];rfl
  . rw [am hb,am hb,this]
def Sm{α:Type}:∀ (B:List Bool) (l:List α),(qL B l).length<=l.length
 | [],l=>by simp [qL]
 | b::B,[]=>by simp [qL]
 | b::B,x::l=>by
  have:=Sm B l;rw [qL];split
  . simp only [au];omega
  . simp only [au];omega
def RM{α:Type}{q:α->Bool}:∀ {l:List α} {k j:Nat},kM q l k=(j:Int)->k<=j/\∃ y,l[j - k]?=some y/\q y=true
  | [],k,j,h=>by rw [kM] at h;omega
  | y::r,k,j,h=>by
    rw [kM] at h;split at h
    . rename_i h1
      have:j=k:=by omega
      subst this;exact ⟨aC _,y,by simp,h1⟩
    . obtain ⟨h2,z,h3,h4⟩:=RM h
      exact ⟨by omega,z,by rw [show j - k=(j - (k+1))+1 by omega];simpa using h3,h4⟩
def Dk{β:Type}:∀ {l:List (iR×β)} {i:Nat} {e:iR×β},(l.map (·.1)).Nodup->l[i]?=some e->l.find? (λy=>decide (y.1=e.1))=some e
 | [],i,e,_,h=>by cases h
 | y::l,0,e,_,h=>by simp at h;subst h;simp
 | y::l,i+1,e,hn,h=>by
  rw [aS,dv] at hn;have h1:l[i]?=some e:=by simpa using h
  have mB:¬ y.1=e.1:=λe2=>hn.1 (e2▸bh.2 ⟨e,ay h1,rfl⟩);rw [List.find?_cons_of_neg (by simpa using mB)];exact Dk hn.2 h1
def qrf(h:pK p=(0,0)):∃ (mi:Nat) (x:iT),qg p.funcs=(mi:Int)/\p.funcs[mi]?=some x/\((kW p).find? λe=>decide (e.1=jy))=some (jy,((4:Int),(mi:Int))):=by
 have lQ:=(CB (p:=p) (by rw [h])).1;have h0:¬ qg p.funcs < 0:=by
  intro lm;rw [pK] at h;split at h
  . rename_i h1;exact h1 (by rw [h])
  split at h
  . rename_i h1;exact h1 (by rw [h])
  first
   | (rw [aw lm] at h;cases h)
   | cases h
 obtain ⟨mi,hmi⟩:=aX (show 0<=qg p.funcs by omega);obtain ⟨_,x,hx,hq⟩:=RM (show kM (λx:iT=>decide (x.name=jy)) p.funcs 0=(mi:Int) from hmi);have uo:x.name=jy:=by simpa using hq
 have hf:=Dk lQ (Gf (p:=p) (k:=mi) (x:=x) (by simpa using hx));rw [uo] at hf;exact ⟨mi,x,hmi,by simpa using hx,hf⟩
def Qt(p:ja)(F G:List Bool):Prop:=F.length=p.funcs.length/\G.length=p.o.length/\∃ mi:Nat,qg p.funcs=(mi:Int)/\mi < p.funcs.length/\(∀ j:Nat,F[j]?=some true↔Em p mi j)/\∀ g:Nat,G[g]?=some true↔∃ j:Nat,F[j]?=some true/\I0 p j g
def Ni:¬ (List.replicate n false)[j]?=some true:=by
 rw [cK];split<;>simp
def qun(hm:qg p.funcs=(mi:Int))(hl:mi < p.funcs.length)(h:CY p mi (List.replicate p.funcs.length false) (List.replicate p.o.length false) F G):Qt p F G:=by
  refine ⟨by rw [h.lenF];simp,by rw [h.lenG];simp,mi,hm,hl,λj=>⟨λhj=>?_,λhr=>?_⟩,λg=>⟨λhg=>?_,λ⟨j,h1,h2⟩=>?_⟩⟩
  . rcases h.new j hj with h1|h1
    . exact absurd h1 Ni
    . exact h1.1
  . have:∀ i j,Em p i j->F[i]?=some true->F[j]?=some true:=by
      intro i j hr;induction hr with
      | refl=>exact λh=>h
      | step hc _ ih=>
        intro hi;rcases h.new _ hi with h1|h1
        . exact absurd h1 Ni
        . exact ih (h1.2.1 _ hc)
    exact this mi j hr h.hit
  . rcases h.ak g hg with h1|⟨j,h1,_,h2⟩
    . exact absurd h1 Ni
    . exact ⟨j,h1,h2⟩
  . rcases h.new j h1 with h3|h3
    . exact absurd h3 Ni
    . exact h3.2.2 g h2
def T6(p q:ja):Prop:=((kU p).1≠0/\q=⟨[],[]⟩)\/((kU p).1=0/\∃ F G,Qt p F G/\q=⟨qL G p.o,qL F p.funcs⟩)
def x7(s:World):jn s none 0 0 []:=⟨rfl,aC _,by omega,λi x h=>by cases h⟩
def Z_{s:World}:ju d s none 0 0 []:=⟨rfl,aC _,by omega,λi x h=>by cases h⟩
def IF{p:Prop} (h:p:=by
 refine jd (jV.mk (β13,β12,βf,βg) [] Lc (.c2 Z Z sk) (List.Perm.trans (jJ _ 0) (List.Perm.trans (jJ _ 1) (List.Perm.trans (jJ _ 3) (jJ _ 3)))) Tt)):p:=h
def IE{p:Prop} (h:p:=by
 refine jd (jV.mk (β14,β12,βf,βg) [] Lc (.c2 Z Z sk) (List.Perm.trans (jJ _ 0) (List.Perm.trans (jJ _ 2) (List.Perm.trans (jJ _ 3) (jJ _ 3)))) Tt)):p:=h
def ID{p:Prop} (h:p:=by
 refine jd (jV.mk (β12,β13,βf,βg) [] Lc (.c2 Z Z sk) (List.Perm.trans (jJ _ 0) (List.Perm.trans (jJ _ 1) (List.Perm.trans (jJ _ 2) (jJ _ 3)))) Tt)):p:=h
def IC{p:Prop} (h:p:=by
 refine jd (jV.mk (β12,β14,βf,βg) [] Lc (.c2 Z Z sk) (List.Perm.trans (jJ _ 0) (List.Perm.trans (jJ _ 2) (List.Perm.trans (jJ _ 2) (jJ _ 3)))) Tt)):p:=h
def IB{p:Prop} (h:p:=by
 refine jd (jV.mk (β14,β13,βf,βg) [] Lc (.c2 Z Z sk) (List.Perm.trans (jJ _ 0) (List.Perm.trans (jJ _ 3) (List.Perm.trans (jJ _ 3) (jJ _ 3)))) Tt)):p:=h
def IA{p:Prop} (h:p:=by
 refine jd (jV.mk (β13,β14,βf,βg) [] Lc (.c2 Z Z sk) (List.Perm.trans (jJ _ 0) (List.Perm.trans (jJ _ 3) (List.Perm.trans (jJ _ 2) (jJ _ 3)))) Tt)):p:=h
def qw7(hG:GP s)(d:Nat)(p:ja)(Ag Af:OAdr9)(ng cg nf cf:Nat)(jQ:jn s Ag ng cg p.o)(j8:ju d s Af nf cf p.funcs):AN9 D 16 [.agg #[.slice Ag ng cg,.slice Af nf cf]] L s λv M' s'=>∀ s2,Le D s' s2->mz M' s2->∃ q,T6 p q/\∃ Bg mg eg Bf mf ef,v=.tuple #[.agg #[.slice Bg mg eg,.slice Bf mf ef],.agg #[iJ (kU p).1,iJ (kU p).2]]/\jn s2 Bg mg eg q.o/\ju d s2 Bf mf ef q.funcs:=by
 have lX:=jQ.1;have oB:=j8.1;have hU:si p:=⟨jQ.u,j8.u⟩;refine jv (fn:=Tryz.f16) jl Tryz.func16 V Z Tryz.ntmps16 Z (rs:=[.cell 2 45,.cell 3 24]) Z [(0,_)] Z<|Sr<|kH Y2 λβ1 s1 h1=>jp Z [_,_] Y2 λβ2 s2 h2=>jp Z [_,_] Y2 λβ3 s3 h3=>Nt<|Sr<|iI (jh 2 [_,_] Y5) Z<|Jc Y3 (i' D _ _ Pz d p Ag ng cg nf cf Pz Pz) ?_;rintro _ _ s4 h4 ⟨rfl,Ac,nc,cc,rfl,hCl⟩;refine G3 ?_;refine jp Z [_] Y2 λβ5 s5 h5=>jp Z [_,_] Y2 λβ6 s6 h6=>Wt 1 [_] Y9<|Wt 0 [_,_] Y9<|Nt<|Zs<|Sr<|iI (jh 0 [_,_] Y5) Z<|iI (jC [] [_,_] Y3 Z Z Z) Z<|iI (sL Z Z (rq)) Z<|G2 ?_;refine lD Z ?_ ?_<;>intro c7;.have hb0:(kU p).1≠0:=λh=>c7 Q24;refine Zs<|pm jF 4 Z [3,2] Q3 λs8 h8=>za 0 Z (jC [] [_,_] Y3 Z Z Z) Z<|za 1 Z (jh 0 [_,_] Y5) Z<|iM 2 V<|Wu Z Tt 3 [_,_] Y9 (sM (kX (lq (mT (jT)))))<|iM 3 V<|Wu Z Tt 2 [_,_] Y9 (sM (kX (lq (mT (jT)))))<|jq V<|G3 ?_;exact rR [_,_,_,_,_] _ (.agg (us:=[_,_]) 3 Z Z Z Z Z (.agg (us:=[_,_]) 2 Z Z Z Z Z (.nil))) Z Lc λ_ iL=>⟨[],rfl,λs2 kb hp=>⟨⟨[],[]⟩,.inl ⟨hb0,rfl⟩,none,0,0,none,0,0,rfl,x7 _,Z_⟩⟩
 have g4:=c7;have vg:¬ (kU p).1≠0:=λh=>h g4.1;obtain ⟨px,yW⟩:=sU.of hU g4.1;have hV:=px.1;have yN:=hV.1;have AQ:=hV.2.1;have rD:=hV.2.2.2.1;have td:=(CB (p:=p) (by rw [px.2.1])).1;rw [show Ge p=p.funcs from am vg] at hCl;obtain rfl:nf=nc:=by have:=hCl.1;omega
 obtain ⟨mi,xm,hmi,hxm,yS⟩:=qrf px.2.1;have hml:=(al.1 hxm).1;refine Zk<|Zt<|Sr<|iI (jh 4 [_,_] Y5) Z<|Jc Y3 (wz _ _ d p Ag ng cg nf cf Pz Pz td) ?_;rintro _ _ s8 h8 ⟨rfl,bm,rfl,hM⟩;have hM0:=hM;obtain ⟨es,hMs,hes⟩:=hM0;refine jp Z [_,_,_] Y2 λβ9 s9 h9=>Wt 0 [_,_,_] Y9<|G2 ?_;refine JU (γ:=Nat×Nat×Nat×Nat) (λg=>[(7,.pointer (some ⟨g.1,0,none⟩)),(8,.pointer (some ⟨g.2.1,0,none⟩))]) (λg=>[(g.1,cb [.slice (some ⟨g.2.2.1,0,none⟩) nf nf] 78),(g.2.1,cb [.slice (some ⟨g.2.2.2,0,none⟩) ng ng] 78),(g.2.2.1,cb (qm (List.replicate nf false)) 4),(g.2.2.2,cb (qm (List.replicate ng false)) 4)]) (λg tw=>True) (λ_ _ _ h hl=>h) ?_ ?_
 .refine ma jF 12 Z _ (λ_ h=>h) λkv jP=>H1 ?_;refine za 1 Z (Wd 5 Y5) Z<|H2 ?_;refine za 5 Z (Wd 5 Y5) Z<|H1 ?_;refine Pt 3 7 8 9 V ?_ ?_ ?_ ?_
  .refine mK Z Tt Y5 Q2 O Z ?_;intro βf kc jL;rw [oC];refine xF 7 8 9 V ?_ ?_ ?_
   .refine mK Z Tt Y5 Q2 O Z ?_;intro βg kY kN;rw [oC];refine kD 8 9 V ?_ ?_;.refine kA Z Tt Z [_] Y2 λβ14 li kz=>iM 9 V<|kA Z Tt Z [_] Y2 λβ15 lJ lr=>iM 10 V<|Wu Z Tt 1 [_] Y9 (sM (nK (kP (kX (jT)))))<|iM 11 V<|Wu Z Tt 0 [_] Y9 (sM (nK (kP (kX (jT)))))<|jq V ?_;refine jd (jV.mk (β14,β15,βf,βg) [] Lc (.c2 Z Z sk) (List.Perm.trans (jJ _ 2) (List.Perm.trans (jJ _ 3) (List.Perm.trans (jJ _ 2) (jJ _ 3)))) Tt)
    refine kA Z Tt Z [_] Y2 λβ14 li kz=>iM 8 V<|kA Z Tt Z [_] Y2 λβ15 lJ lr=>iM 10 V<|Wu Z Tt 0 [_] Y9 (sM (nK (kP (kX (jT)))))<|iM 11 V<|Wu Z Tt 1 [_] Y9 (sM (nK (kP (kX (jT)))))<|jq V ?_;refine jd (jV.mk (β15,β14,βf,βg) [] Lc (.c2 Z Z sk) (List.Perm.trans (jJ _ 2) (List.Perm.trans (jJ _ 3) (List.Perm.trans (jJ _ 3) (jJ _ 3)))) Tt)
   .refine kA Z Tt Z [_] Y2 λβ13 kY kN=>kD 7 9 V ?_ ?_;.refine mK Z Tt Y5 Q2 O Z ?_;intro βg li kz;rw [oC];refine iM 9 V<|kA Z Tt Z [_] Y2 λβ15 lJ lr=>iM 10 V<|Wu Z Tt 2 [_] Y9 (sM (nK (kP (kX (jT)))))<|iM 11 V<|Wu Z Tt 0 [_] Y9 (sM (nK (kP (kX (jT)))))<|jq V ?_;refine jd (jV.mk (β13,β15,βf,βg) [] Lc (.c2 Z Z sk) (List.Perm.trans (jJ _ 1) (List.Perm.trans (jJ _ 3) (List.Perm.trans (jJ _ 2) (jJ _ 3)))) Tt)
    refine kA Z Tt Z [_] Y2 λβ14 li kz=>kD 7 10 V ?_ ?_;.refine mK Z Tt Y5 Q2 O Z ?_;intro βg lJ lr;rw [oC];refine X17 ?_;exact IA
    refine Wu Z Tt 1 [_] Y9 (sM (FB (kP (kX (jT)))))<|iM 7 V<|mK Z Tt Y5 Q2 O Z ?_;intro βg lJ lr;rw [oC];refine iM 11 V<|Wu Z Tt 1 [_] Y9 (sM (nK (kP (kX (jT)))))<|jq V ?_;exact IA
   refine kA Z Tt Z [_] Y2 λβ13 kY kN=>kD 7 8 V ?_ ?_;.refine mK Z Tt Y5 Q2 O Z ?_;intro βg li kz;rw [oC];refine iM 8 V<|kA Z Tt Z [_] Y2 λβ15 lJ lr=>iM 10 V<|Wu Z Tt 0 [_] Y9 (sM (nK (kP (kX (jT)))))<|iM 11 V<|Wu Z Tt 2 [_] Y9 (sM (nK (kP (kX (jT)))))<|jq V ?_;refine jd (jV.mk (β15,β13,βf,βg) [] Lc (.c2 Z Z sk) (List.Perm.trans (jJ _ 1) (List.Perm.trans (jJ _ 3) (List.Perm.trans (jJ _ 3) (jJ _ 3)))) Tt)
   refine kA Z Tt Z [_] Y2 λβ14 li kz=>kD 7 10 V ?_ ?_;.refine mK Z Tt Y5 Q2 O Z ?_;intro βg lJ lr;rw [oC];refine X18 ?_;exact IB
   refine Wu Z Tt 0 [_] Y9 (sM (FB (kP (kX (jT)))))<|iM 7 V<|mK Z Tt Y5 Q2 O Z ?_;intro βg lJ lr;rw [oC];refine iM 11 V<|Wu Z Tt 2 [_] Y9 (sM (nK (kP (kX (jT)))))<|jq V ?_;exact IB
  .refine mK Z Tt Y5 Q2 O Z ?_;intro βg kc jL;rw [oC];refine xF 3 8 9 V ?_ ?_ ?_
   .refine mK Z Tt Y5 Q2 O Z ?_;intro βf kY kN;rw [oC];refine kD 8 9 V ?_ ?_;.refine kA Z Tt Z [_] Y2 λβ14 li kz=>iM 9 V<|kA Z Tt Z [_] Y2 λβ15 lJ lr=>iM 10 V<|Wu Z Tt 1 [_] Y9 (sM (nK (kP (kX (jT)))))<|iM 11 V<|Wu Z Tt 0 [_] Y9 (sM (nK (kP (kX (jT)))))<|jq V ?_;refine jd (jV.mk (β14,β15,βf,βg) [] Lc (.c2 Z Z sk) (List.Perm.trans (jJ _ 3) (List.Perm.trans (jJ _ 3) (List.Perm.trans (jJ _ 2) (jJ _ 3)))) Tt)
    refine kA Z Tt Z [_] Y2 λβ14 li kz=>iM 8 V<|kA Z Tt Z [_] Y2 λβ15 lJ lr=>iM 10 V<|Wu Z Tt 0 [_] Y9 (sM (nK (kP (kX (jT)))))<|iM 11 V<|Wu Z Tt 1 [_] Y9 (sM (nK (kP (kX (jT)))))<|jq V ?_;refine jd (jV.mk (β15,β14,βf,βg) [] Lc (.c2 Z Z sk) (List.Perm.trans (jJ _ 3) (List.Perm.trans (jJ _ 3) (List.Perm.trans (jJ _ 3) (jJ _ 3)))) Tt)
   .refine kA Z Tt Z [_] Y2 λβ13 kY kN=>kD 3 9 V ?_ ?_;.refine mK Z Tt Y5 Q2 O Z ?_;intro βf li kz;rw [oC];refine iM 9 V<|kA Z Tt Z [_] Y2 λβ15 lJ lr=>iM 10 V<|Wu Z Tt 2 [_] Y9 (sM (nK (kP (kX (jT)))))<|iM 11 V<|Wu Z Tt 0 [_] Y9 (sM (nK (kP (kX (jT)))))<|jq V ?_;refine jd (jV.mk (β13,β15,βf,βg) [] Lc (.c2 Z Z sk) (List.Perm.trans (jJ _ 3) (List.Perm.trans (jJ _ 2) (List.Perm.trans (jJ _ 2) (jJ _ 3)))) Tt)
    refine kA Z Tt Z [_] Y2 λβ14 li kz=>iM 3 V<|mK Z Tt Y5 Q2 O Z ?_;intro βf lJ lr;rw [oC];refine X17 ?_;refine jd (jV.mk (β13,β14,βf,βg) [] Lc (.c2 Z Z sk) (List.Perm.trans (jJ _ 3) (List.Perm.trans (jJ _ 1) (List.Perm.trans (jJ _ 2) (jJ _ 3)))) Tt)
   refine kA Z Tt Z [_] Y2 λβ13 kY kN=>kD 3 8 V ?_ ?_;.refine mK Z Tt Y5 Q2 O Z ?_;intro βf li kz;rw [oC];refine iM 8 V<|kA Z Tt Z [_] Y2 λβ15 lJ lr=>iM 10 V<|Wu Z Tt 0 [_] Y9 (sM (nK (kP (kX (jT)))))<|iM 11 V<|Wu Z Tt 2 [_] Y9 (sM (nK (kP (kX (jT)))))<|jq V ?_;refine jd (jV.mk (β15,β13,βf,βg) [] Lc (.c2 Z Z sk) (List.Perm.trans (jJ _ 3) (List.Perm.trans (jJ _ 2) (List.Perm.trans (jJ _ 3) (jJ _ 3)))) Tt)
   refine kA Z Tt Z [_] Y2 λβ14 li kz=>iM 3 V<|mK Z Tt Y5 Q2 O Z ?_;intro βf lJ lr;rw [oC];refine X18 ?_;refine jd (jV.mk (β14,β13,βf,βg) [] Lc (.c2 Z Z sk) (List.Perm.trans (jJ _ 3) (List.Perm.trans (jJ _ 1) (List.Perm.trans (jJ _ 3) (jJ _ 3)))) Tt)
  .refine kA Z Tt Z [_] Y2 λβ12 kc jL=>xF 3 7 9 V ?_ ?_ ?_
   .refine mK Z Tt Y5 Q2 O Z ?_;intro βf kY kN;rw [oC];refine kD 7 9 V ?_ ?_;.refine mK Z Tt Y5 Q2 O Z ?_;intro βg li kz;rw [oC];refine iM 9 V<|kA Z Tt Z [_] Y2 λβ15 lJ lr=>iM 10 V<|Wu Z Tt 3 [_] Y9 (sM (nK (kP (kX (jT)))))<|iM 11 V<|Wu Z Tt 0 [_] Y9 (sM (nK (kP (kX (jT)))))<|jq V ?_;refine jd (jV.mk (β12,β15,βf,βg) [] Lc (.c2 Z Z sk) (List.Perm.trans (jJ _ 1) (List.Perm.trans (jJ _ 2) (List.Perm.trans (jJ _ 2) (jJ _ 3)))) Tt)
    refine kA Z Tt Z [_] Y2 λβ14 li kz=>kD 7 10 V ?_ ?_;.refine mK Z Tt Y5 Q2 O Z ?_;intro βg lJ lr;rw [oC];refine X19 ?_;exact IC
    refine Wu Z Tt 2 [_] Y9 (sM (FB (kP (kX (jT)))))<|iM 7 V<|mK Z Tt Y5 Q2 O Z ?_;intro βg lJ lr;rw [oC];refine iM 11 V<|Wu Z Tt 1 [_] Y9 (sM (nK (kP (kX (jT)))))<|jq V ?_;exact IC
   .refine mK Z Tt Y5 Q2 O Z ?_;intro βg kY kN;rw [oC];refine kD 3 9 V ?_ ?_;.refine mK Z Tt Y5 Q2 O Z ?_;intro βf li kz;rw [oC];refine iM 9 V<|kA Z Tt Z [_] Y2 λβ15 lJ lr=>iM 10 V<|Wu Z Tt 3 [_] Y9 (sM (nK (kP (kX (jT)))))<|iM 11 V<|Wu Z Tt 0 [_] Y9 (sM (nK (kP (kX (jT)))))<|jq V ?_;refine jd (jV.mk (β12,β15,βf,βg) [] Lc (.c2 Z Z sk) (List.Perm.trans (jJ _ 2) (List.Perm.trans (jJ _ 2) (List.Perm.trans (jJ _ 2) (jJ _ 3)))) Tt)
    refine kA Z Tt Z [_] Y2 λβ14 li kz=>iM 3 V<|mK Z Tt Y5 Q2 O Z ?_;intro βf lJ lr;rw [oC];refine X19 ?_;refine jd (jV.mk (β12,β14,βf,βg) [] Lc (.c2 Z Z sk) (List.Perm.trans (jJ _ 2) (List.Perm.trans (jJ _ 1) (List.Perm.trans (jJ _ 2) (jJ _ 3)))) Tt)
   refine kA Z Tt Z [_] Y2 λβ13 kY kN=>kD 3 7 V ?_ ?_
   .refine mK Z Tt Y5 Q2 O Z ?_;intro βf li kz;rw [oC];refine kD 7 10 V ?_ ?_;.refine mK Z Tt Y5 Q2 O Z ?_;intro βg lJ lr;rw [oC];refine X20 ?_;exact ID
    refine Wu Z Tt 2 [_] Y9 (sM (FB (kP (kX (jT)))))<|iM 7 V<|mK Z Tt Y5 Q2 O Z ?_;intro βg lJ lr;rw [oC];refine iM 11 V<|Wu Z Tt 2 [_] Y9 (sM (nK (kP (kX (jT)))))<|jq V ?_;exact ID
   refine mK Z Tt Y5 Q2 O Z ?_;intro βg li kz;rw [oC];refine iM 3 V<|mK Z Tt Y5 Q2 O Z ?_;intro βf lJ lr;rw [oC];refine X20 ?_;refine jd (jV.mk (β12,β13,βf,βg) [] Lc (.c2 Z Z sk) (List.Perm.trans (jJ _ 1) (List.Perm.trans (jJ _ 1) (List.Perm.trans (jJ _ 2) (jJ _ 3)))) Tt)
  refine kA Z Tt Z [_] Y2 λβ12 kc jL=>xF 3 7 8 V ?_ ?_ ?_
  .refine mK Z Tt Y5 Q2 O Z ?_;intro βf kY kN;rw [oC];refine kD 7 8 V ?_ ?_;.refine mK Z Tt Y5 Q2 O Z ?_;intro βg li kz;rw [oC];refine iM 8 V<|kA Z Tt Z [_] Y2 λβ15 lJ lr=>iM 10 V<|Wu Z Tt 0 [_] Y9 (sM (nK (kP (kX (jT)))))<|iM 11 V<|Wu Z Tt 3 [_] Y9 (sM (nK (kP (kX (jT)))))<|jq V ?_;refine jd (jV.mk (β15,β12,βf,βg) [] Lc (.c2 Z Z sk) (List.Perm.trans (jJ _ 1) (List.Perm.trans (jJ _ 2) (List.Perm.trans (jJ _ 3) (jJ _ 3)))) Tt)
   refine kA Z Tt Z [_] Y2 λβ14 li kz=>kD 7 10 V ?_ ?_;.refine mK Z Tt Y5 Q2 O Z ?_;intro βg lJ lr;rw [oC];refine X21 ?_;exact IE
   refine Wu Z Tt 0 [_] Y9 (sM (FB (kP (kX (jT)))))<|iM 7 V<|mK Z Tt Y5 Q2 O Z ?_;intro βg lJ lr;rw [oC];refine iM 11 V<|Wu Z Tt 3 [_] Y9 (sM (nK (kP (kX (jT)))))<|jq V ?_;exact IE
  .refine mK Z Tt Y5 Q2 O Z ?_;intro βg kY kN;rw [oC];refine kD 3 8 V ?_ ?_;.refine mK Z Tt Y5 Q2 O Z ?_;intro βf li kz;rw [oC];refine iM 8 V<|kA Z Tt Z [_] Y2 λβ15 lJ lr=>iM 10 V<|Wu Z Tt 0 [_] Y9 (sM (nK (kP (kX (jT)))))<|iM 11 V<|Wu Z Tt 3 [_] Y9 (sM (nK (kP (kX (jT)))))<|jq V ?_;refine jd (jV.mk (β15,β12,βf,βg) [] Lc (.c2 Z Z sk) (List.Perm.trans (jJ _ 2) (List.Perm.trans (jJ _ 2) (List.Perm.trans (jJ _ 3) (jJ _ 3)))) Tt)
   refine kA Z Tt Z [_] Y2 λβ14 li kz=>iM 3 V<|mK Z Tt Y5 Q2 O Z ?_;intro βf lJ lr;rw [oC];refine X21 ?_;refine jd (jV.mk (β14,β12,βf,βg) [] Lc (.c2 Z Z sk) (List.Perm.trans (jJ _ 2) (List.Perm.trans (jJ _ 1) (List.Perm.trans (jJ _ 3) (jJ _ 3)))) Tt)
  refine kA Z Tt Z [_] Y2 λβ13 kY kN=>kD 3 7 V ?_ ?_
  .refine mK Z Tt Y5 Q2 O Z ?_;intro βf li kz;rw [oC];refine kD 7 10 V ?_ ?_;.refine mK Z Tt Y5 Q2 O Z ?_;intro βg lJ lr;rw [oC];refine X22 ?_;exact IF
   refine Wu Z Tt 1 [_] Y9 (sM (FB (kP (kX (jT)))))<|iM 7 V<|mK Z Tt Y5 Q2 O Z ?_;intro βg lJ lr;rw [oC];refine iM 11 V<|Wu Z Tt 3 [_] Y9 (sM (nK (kP (kX (jT)))))<|jq V ?_;exact IF
  refine mK Z Tt Y5 Q2 O Z ?_;intro βg li kz;rw [oC];refine iM 3 V<|mK Z Tt Y5 Q2 O Z ?_;intro βf lJ lr;rw [oC];refine X22 ?_;refine jd (jV.mk (β13,β12,βf,βg) [] Lc (.c2 Z Z sk) (List.Perm.trans (jJ _ 1) (List.Perm.trans (jJ _ 1) (List.Perm.trans (jJ _ 3) (jJ _ 3)))) Tt)
 intro g ku jN I10;simp only [iU,iV];obtain ⟨b7,b8,oF,oG⟩:=g;dsimp only;refine Sr<|jp Z [_] Y2 λβ16 qW qD=>Nt<|Sr<|iI (qw Z) Z<|Wt 0 [_] Y9<|Nt<|Zs<|rG 5<|rG 7<|rG 10<|tO [] [_,_,_,_,_,_] ?_;intro tE qR hpub17;simp only [iU,iV];have hE:Fq tE p d _ _ _ _ _ _ oF oG bm Ag Af Ac ng cg nf cf cc:=⟨hpub17 _ _ _ (aq _ (aq _ (aq _ (aq _ Mc)))),hpub17 _ _ _ (aq _ (aq _ Mc)),hpub17 _ _ _ Mc,hpub17 _ _ _ (aq _ (aq _ (aq _ (aq _ (aq _ Mc))))),hpub17 _ _ _ (aq _ Mc),hpub17 _ _ _ (aq _ (aq _ (aq _ Mc))),hM.le Lc,jQ.le Lc,j8.le Lc,hCl.le Lc⟩;refine Zr<|iI (jW Y3 (hE.xr.le (Lr D)) Z) Z<|iI (pu Y4) Z<|iI (nh 2 Y3 (hE.xn.le (Lr D)) Z) Z<|iI (jD (EF jU.str N0 Z Z Pz) (show (kS es jy).getD (.agg #[iJ 0,iJ 0])=.agg #[iJ 4,iJ (mi:Int)] by rw [hes jy,yS];rfl)) Z<|iI (FM Z Z Z Z Z Z Z Z Z) Z ?_;refine vv (first:=[]) (captured:=[_,_,_,_,_,_]) Y3 (trc (nf+1) _ _ p d _ _ _ _ _ _ oF oG bm Ag Af Ac ng cg nf cf cc Pz hV mi (List.replicate nf false) (List.replicate ng false) O (by simp) (by simp) (by rw [qoC];omega)) ?_;rintro _ _ yl vm ⟨rfl,F1,G1,rfl,hR⟩;have wZ:Qt p F1 G1:=qun hmi hml (by rw [<- oB,<- lX];exact hR);have hF1l:=wZ.1;have hG1l:=wZ.2.1;refine Nt<|Sr<|jp Z [_,_] Y2 λβ19 ym uh=>Nt<|Zs<|Sr<|iI (kq Y3 (hE.xp.le Lc) Z) Z<|Jc Y3 (Ya _ _ d p Ag ng cg nf cf (hE.gl.le Lc) (hE.fn.le Lc) hV) ?_;rintro _ _ vN rQ ⟨rfl,Cg,Cmg,Ceg,Cf,Cmf,Cef,rfl,ChG,ChF⟩;refine iI (FM Z Z Z Z Z Z Z Z Z) Z<|G5 ?_;refine lw (γ:=Nat×Value×Hl) (λg=>[(1,_),(2,_),(3,_),(7,_),(8,_),(10,_),(44,_),(45,_),(46,iJ (g.1:Int))]) (λg=>(β19,cb [g.2.1,.slice none 0 0] 45)::_::_::_::_::_::(g.2.2++L)) (λg tw=>Le D vN tw/\(g.1<=Cmg/\∃ css,Own 85 4 g.2.2 g.2.1 (qL G1 (p.o.take g.1)).length (List.flatten css)/\kI (λx cs=>cs.length=4/\Fp tw x cs) (qL G1 (p.o.take g.1)) css)) (λg=>Cmg - g.1) (λ_ _ _ h hl=>⟨h.1.trans hl,⟨h.2.1,by obtain ⟨css,q1,q2⟩:=h.2.2;exact ⟨css,q1,q2.mono λ_ _ k=>⟨k.1,k.2.le hl⟩⟩⟩⟩) (0,.slice none 0 0,[]) (.c6 Z Z Z Z Z Z (.c3 Z Z Z (.nil _))) Z ⟨Le.refl _,⟨aB _,[],by cases G1<;>exact Own.nil,by cases G1<;>exact .nil⟩⟩ ?_;intro g xJ I21;obtain ⟨k,vo,Mo⟩:=g;obtain ⟨kh,css,hO,lG⟩:=I21.2;simp only at kh hO lG;dsimp only;obtain ⟨Ao,co,rfl,_,_⟩:=Own.slice hO;have hkl:=Sm G1 (p.o.take k);rw [cY] at hkl;refine J6 ?_ ?_<;>intro c22
 .have hk:k < Cmg:=by omega
  have hnC:=ChG.1;obtain ⟨b,off,x,Ai,ni,ci,rfl,hx,hcx,hix,oh,kK⟩:=jn.at_ (ChG.le I21.1) hk;have hkg:k < ng:=by omega
  have hkG:k < G1.length:=by omega
  refine G7 ?_;refine iI (jR Y6 hk) Z<|iI (kq Y3 Pz Z) Z<|jp Z [_,_,_,_] Y2 λβ23 zt yJ=>me Y2<|Wt 0 [_,_,_,_] Y9<|Nt<|Sr<|iI (jW Y3 (hE.xg.le Lc) Z) Z<|jY Y2<|iI (ly Y6 hkg) Z<|iI (rj 3 Y4 (Qv hkG)) Z<|G2 ?_;refine qT Z ?_ ?_<;>intro c24;.have zI:=c24;refine G3 ?_;refine iI (jh 0 [_,_,_,_] Y5) Z<|kF [(_,_)] [_,_,_,_] Y9 λβn s25 h25 pf=>rp (sz:=4) [_,_,_,_,_,_,_] Mo L Y7 hO (Row.of_cells Pz Z Z) ⟨by simp [CS];omega,by omega⟩ Z ?_;intro vq Mq BE AJ oq;obtain ⟨Avq,oL,rfl,_,_⟩:=Own.slice oq;simp only [iU,iV];refine W0 Y5<|Wt 1 [_,_] Y9<|G4 ?_;refine ki Y3 (jB O O)<|G2 ?_;refine jd ⟨(k+1,.slice Avq ((qL G1 (p.o.take k)).length+1) oL,Mq),[_],kp,Z,⟨Lc,⟨by simp only;omega,css++[[iJ x.kind,St x.name,iO x.num,.slice Ai ni ci]],by simp only [bY,bt,bX,aE];rw [Cw hx,aw zI,ac];exact oq,by simp only;rw [Cw hx,aw zI];exact Jr (lG.mono λ_ _ k=>⟨k.1,k.2.le Lc⟩) ⟨Z,Ai,ni,ci,Z,hix.le Lc,oh,kK⟩⟩⟩,Oz⟩
  have zI:=c24;refine G4 ?_;refine ki Y3 (jB O O)<|G2 ?_;refine jd ⟨(k+1,_,Mo),[_],kp,Z,⟨Lc,⟨by simp only;omega,css,by simp only;rw [Cw hx,am (by rw [zI];decide),aE];exact hO,by simp only;rw [Cw hx,am (by rw [zI];decide),aE];exact lG.mono λ_ _ k=>⟨k.1,k.2.le yJ⟩⟩⟩,Oz⟩
 have hnC:=ChG.1;obtain rfl:Cmg=k:=by omega
 rw [aI O] at hO lG ⊢;refine G7 ?_;refine tO [_,_,_,_,_,_] Mo ?_;intro zt yJ hpub23;simp only [iU,iV];have hGN:jn zt Ao (qL G1 p.o).length co (qL G1 p.o):=Own.rows hO hpub23 (lG.mono λ_ _ k=>⟨k.1,k.2.le yJ⟩) rfl;obtain ⟨Go,hGo⟩:∃ Go,Go=Ao:=⟨_,rfl⟩;obtain ⟨mg2,hmg2⟩:∃ m,m=(qL G1 p.o).length:=⟨_,rfl⟩;obtain ⟨eg2,heg2⟩:∃ eg,eg=co:=⟨_,rfl⟩;rw [<- hGo,<- hmg2,<- heg2] at hGN ⊢;clear hGo hmg2 heg2 hO lG;refine Zr<|iI (kq Y3 (hE.xp.le Lc) Z) Z<|Jc Y3 (Ya _ _ d p Ag ng cg nf cf (hE.gl.le Lc) (hE.fn.le Lc) hV) ?_;rintro _ _ Am yK ⟨rfl,Eg,Emg,Eeg,Ef,Emf,Eef,rfl,EhG,EhF⟩;refine iI (FM Z Z Z Z Z Z Z Z Z) Z<|G5 ?_;refine lw (γ:=Nat×Value×Hl) (λg=>[(2,_),(3,_),(7,_),(10,_),(64,_),(65,_),(66,iJ (g.1:Int))]) (λg=>(β19,cb [.slice Go mg2 eg2,g.2.1] 45)::_::_::_::_::_::(g.2.2++L)) (λg tw=>Le D Am tw/\(g.1<=Emf/\∃ css,Own 41 4 g.2.2 g.2.1 (qL F1 (p.funcs.take g.1)).length (List.flatten css)/\kI (λx cs=>cs.length=4/\Fm d tw x cs) (qL F1 (p.funcs.take g.1)) css)) (λg=>Emf - g.1) (λ_ _ _ h hl=>⟨h.1.trans hl,⟨h.2.1,by obtain ⟨css,q1,q2⟩:=h.2.2;exact ⟨css,q1,q2.mono λ_ _ k=>⟨k.1,k.2.le hl⟩⟩⟩⟩) (0,.slice none 0 0,[]) (.c6 Z Z Z Z Z Z (.cons Z (.nil _))) Z ⟨Le.refl _,⟨aB _,[],by cases F1<;>exact Own.nil,by cases F1<;>exact .nil⟩⟩ ?_;intro g s25 I25;obtain ⟨k,vo,Mo⟩:=g;obtain ⟨kh,css,hO,lG⟩:=I25.2;simp only at kh hO lG;dsimp only;obtain ⟨Ao,co,rfl,_,_⟩:=Own.slice hO;have hkl:=Sm F1 (p.funcs.take k);rw [cY] at hkl;refine J6 ?_ ?_<;>intro c26
 .have hk:k < Emf:=by omega
  have hnE:=EhF.1;obtain ⟨b,off,x,B1,m1,d1,B2,m2,d2,B3,m3,d3,rfl,hx,hcx,od,oc,rE,kK⟩:=ju.at_ (EhF.le I25.1) hk;have hkf:k < nf:=by omega
  have hkF:k < F1.length:=by omega
  refine G7 ?_;refine iI (jR Y6 hk) Z<|iI (kq Y3 Pz Z) Z<|jp Z [_,_,_,_] Y2 λβ27 s27 h27=>me Y2<|Wt 0 [_,_,_,_] Y9<|Nt<|Sr<|iI (jW Y3 (hE.xf.le Lc) Z) Z<|jY Y2<|iI (ly Y6 hkf) Z<|iI (rj 2 Y4 (Qv hkF)) Z<|G2 ?_;refine qT Z ?_ ?_<;>intro c28;.have zI:=c28;refine G3 ?_;refine iI (jh 0 [_,_,_,_] Y5) Z<|kF [(_,_)] [_,_,_,_] Y9 λβn s29 h29 pf=>rp (sz:=4) [_,_,_,_,_,_,_] Mo L Y7 hO (Row.of_cells Pz Z Z) ⟨by simp [CP];omega,by omega⟩ Z ?_;intro vq Mq s30 h30 oq;obtain ⟨Avq,oL,rfl,_,_⟩:=Own.slice oq;simp only [iU,iV];refine Wb Y5<|Wt 1 [_,_] Y9<|G4 ?_;refine ki Y3 (jB O O)<|G2 ?_;refine jd ⟨(k+1,.slice Avq ((qL F1 (p.funcs.take k)).length+1) oL,Mq),[_],kp,Z,⟨Lc,⟨by simp only;omega,css++[[St x.name,.slice B1 m1 d1,.slice B2 m2 d2,.slice B3 m3 d3]],by simp only [bY,bt,bX,aE];rw [Cw hx,aw zI,ac];exact oq,by simp only;rw [Cw hx,aw zI];exact Jr (lG.mono λ_ _ k=>⟨k.1,k.2.le Lc⟩) ⟨Z,B1,m1,d1,B2,m2,d2,B3,m3,d3,Z,od.le Lc,oc.le Lc,rE.le Lc,kK⟩⟩⟩,Oz⟩
  have zI:=c28;refine G4 ?_;refine ki Y3 (jB O O)<|G2 ?_;refine jd ⟨(k+1,_,Mo),[_],kp,Z,⟨Lc,⟨by simp only;omega,css,by simp only;rw [Cw hx,am (by rw [zI];decide),aE];exact hO,by simp only;rw [Cw hx,am (by rw [zI];decide),aE];exact lG.mono λ_ _ k=>⟨k.1,k.2.le h27⟩⟩⟩,Oz⟩
 have hnE:=EhF.1;obtain rfl:Emf=k:=by omega
 rw [aI O] at hO lG ⊢;refine G7 ?_;refine iI (jh 0 [_,_] Y5) Z<|iI (jC [] [_,_] Y3 Z Z Z) Z<|Wt 5 [_,_] Y9<|Wt 4 [_,_] Y9<|G3 ?_;exact rR [_,_,_,_,_,_] _ (.agg (us:=[_,_]) 5 Z Z Z Z Z (.agg (us:=[_,_]) 4 Z Z Z Z Z (.nil))) Z Lc λ_ iL=>⟨Mo,rfl,λs2 kb hp=>⟨⟨qL G1 p.o,qL F1 p.funcs⟩,.inr ⟨g4.1,F1,G1,wZ,rfl⟩,_,_,_,_,_,_,by rw [yW];rfl,hGN.le Lc,Own.rows hO hp (lG.mono λ_ _ k=>⟨k.1,k.2.le Lc⟩) rfl⟩⟩
def qCM(hG:GP s)(d:Nat)(p:ja)(jQ:jn s Ag ng cg p.o)(j8:ju d s Af nf cf p.funcs):Ap9 D 16 [.agg #[.slice Ag ng cg,.slice Af nf cf]] L s λv L' s'=>L=L'/\∃ q,T6 p q/\∃ Bg mg eg Bf mf ef,v=.tuple #[.agg #[.slice Bg mg eg,.slice Bf mf ef],.agg #[iJ (kU p).1,iJ (kU p).2]]/\jn s' Bg mg eg q.o/\ju d s' Bf mf ef q.funcs:=AC.pubW (qw7 L s hG d p Ag Af ng cg nf cf jQ j8)
def Oe(p:ja)(i:Int):Int:=match p.o[i.toNat]? with
 | some g=>g.num
 | none=>0
def qqW{x:jM}(h:p.o[k]?=some x):Oe p (k:Int)=x.num:=by rw [Oe,aH,h]
def pX(p:ja)(f:iT)(x:Ex):Option Int:=
 if x.kind=2 then (if (kR p f x.name).1.1=3/\Bz p (kR p f x.name).1.2=1 then some (Oe p (kR p f x.name).1.2) else none)
 else if x.kind=6 then (match x.args with
  | a::_=>if a.kind=1/\(mW x.op 0).1=0 then some (nI x.op a.num 0) else none
  | []=>none)
 else if x.kind=7 then (match x.args with
  | a::b::_=>if a.kind=1 then (if b.kind=1 then (if (mW x.op b.num).1=0 then some (nI x.op a.num b.num) else none) else if x.op=20/\a.num=0 then some 0 else if x.op=21/\a.num≠0 then some 1 else none) else none
  | _=>none)
 else none
def qJf{a:Ex}(h2:¬ x.kind=2)(h6:x.kind=6)(ha:x.args[0]?=some a):pX p f x=if a.kind=1/\(mW x.op 0).1=0 then some (nI x.op a.num 0) else none:=by
 rw [pX,am h2,aw h6];cases h:x.args with
 | nil=>rw [h] at ha;cases ha
 | cons y r=>rw [h] at ha;simp at ha;subst ha;rfl
def qJg{a b:Ex}(h2:¬ x.kind=2)(h6:¬ x.kind=6)(h7:x.kind=7)(ha:x.args[0]?=some a)(hb:x.args[1]?=some b):pX p f x=if a.kind=1 then (if b.kind=1 then (if (mW x.op b.num).1=0 then some (nI x.op a.num b.num) else none) else if x.op=20/\a.num=0 then some 0 else if x.op=21/\a.num≠0 then some 1 else none) else none:=by
 rw [pX,am h2,am h6,aw h7];cases h:x.args with
 | nil=>rw [h] at ha;cases ha
 | cons y r=>
  cases r with
  | nil=>rw [h] at hb;cases hb
  | cons z r=>rw [h] at ha hb;simp at ha hb;subst ha;subst hb;rfl
def qJh{c:Int×Int}(hc:c.1=0->c=(0,0)):Value.tuple #[iO (if c.1=0 then v else 0),.bool (decide (c.1=0/\c.2=0))]=.tuple #[iO ((if c.1=0 then some v else none:Option Int).getD 0),.bool (if c.1=0 then some v else none:Option Int).isSome]:=by
 by_cases h:c.1=0
 . have:=hc h;simp [this]
 . simp [h]
def Tr{k:Int}(h:(mW k y).1=0):mW k y=(0,0):=by
 unfold mW at h ⊢;split at h
 . cases h
 rename_i h1;rw [am h1];split at h
 . cases h
 rename_i h2;rw [am h2]
def Td(d:Nat){k u:Int}{nm:iR}(n c i:Nat)(xs:List Ex)(hA:j9 d s A n c xs)(a:Ex)(ha:xs[i]?=some a):Ap9 D 176 [iJ (i:Int),jc bx] ((bx,cb [iJ k,iJ o,iO u,St nm,.slice A n c] 34)::L) s λv L' _=>v=.bool (decide (a.kind=1))/\L'=(bx,cb [iJ k,iJ o,iO u,St nm,.slice A n c] 34)::L:=by
 have hi:i < n:=by rw [hA.1];exact (al.1 ha).1
 obtain ⟨e,b,off,y,A',n',c',hd,rfl,hy,hcy,hay,ph,kK⟩:=j9.at_ hA hi;obtain rfl:a=y:=by rw [ha] at hy;injection hy
 refine jv (fn:=f176) jl func176 V Z ntmps176 Z (rs:=[.tmp 3]) Z [(0,_),(1,_)] Z<|lF ?_;refine iI (jR Y6 hi) Z<|W0 Y5<|iI (jW Y3 Pz Z) Z<|G5 ?_;exact rR [] _ (.t1 Z) Z (Lr D) λ_ iL=>ry
def GZ{p:Prop} (h:p:=by
 exact ⟨by rw [hE9];exact qJh Tr,rfl⟩):p:=h
def VV{p:Prop} (h:p:=by
 refine lF ?_;exact rR [_,_] L (.tmp Z (.t1 Z)) Z Lc λ_ iL=>sQ):p:=h
def VU{p:Prop} (h:p:=by
 refine lF ?_;exact rR [_,_] L (.tmp Z (.t1 Z)) Z Lc λ_ iL=>sQ):p:=h
def VQ{p:Prop} (h:p:=by
 refine lF ?_;exact rR [_,_,_] L (.tmp Z (.t1 Z)) Z Lc λ_ iL=>sQ):p:=h
def HX{p:Prop} (h:p:=by
 intro ku jN;refine X24 ?_;refine jq V<|G4 ?_;exact rR [_,_,_] L (.tmp Z (.t1 Z)) Z Lc λ_ iL=>GZ):p:=h
def HW{p:Prop} (h:p:=by
 intro kY kN;refine X24 ?_;refine jq V<|G5 ?_;exact rR [_,_,_] L (.tmp Z (.t1 Z)) Z Lc λ_ iL=>GZ):p:=h
def qoZ(bm:Nat)(Ag Af:OAdr9)(ng cg nf cf:Nat)(p:ja)(hM:nW s bm p)(jQ:jn s Ag ng cg p.o)(f:iT)(B1 B2 B3:OAdr9)(m1 d1 m2 d2 m3 d3:Nat)(od:iW s B1 m1 d1 f.params)(oc:iW s B2 m2 d2 f.locals)(d:Nat)(x:Ex)(A:OAdr9)(n c:Nat)(hA:j9 d s A n c x.args)(hl6:x.kind=6->1<=x.args.length)(hl7:x.kind=7->2<=x.args.length):AV9 D 133 [.agg #[.slice Ag ng cg,.slice Af nf cf,.map (some bm),St f.name,.slice B1 m1 d1,.slice B2 m2 d2,.slice B3 m3 d3],.agg #[iJ x.kind,iJ x.op,iO x.num,St x.name,.slice A n c]] L s (.tuple #[iO ((pX p f x).getD 0),.bool (pX p f x).isSome]):=by
 have lX:=jQ.1;have hn9:=hA.1;refine jv (fn:=f133) jl func133 V Z ntmps133 Z (rs:=[.tmp 4,.tmp 5]) Z [(0,_),(1,_)] Z<|Sr<|kH Y2 λβ1 s1 h1=>kH Y2 λβ2 s2 h2=>G6 ?_;refine iI (qw Z) Z<|LV ?_ ?_<;>intro c3
 .have g2:=c3;refine Sr<|W0 Y5<|iI (jh 1 [_,_,_] Y5) Z<|Wb Y5<|iI (jh 1 [_,_,_,_] Y5) Z<|G2 ?_;refine Je Y3 (F4 _ _ p Ag Af ng cg nf cf bm Pz f B1 B2 B3 m1 d1 m2 d2 m3 d3 Pz Pz x.name) λs4 h4=>G3 ?_;refine jp Z [_,_] Y2 λβ5 s5 h5=>Wt 0 [_,_] Y9<|G5 ?_;rcases iz ((kR p f x.name).1.1=3) with g3|g3
  .have yP:∃ k:Nat,(kR p f x.name).1.2=(k:Int)/\k < p.o.length:=by
     cases h3:(kR p f x.name).2 with
     | false=>rw [RN h3] at g3;cases g3
     | true=>
       rcases FP h3 with q4|⟨_,q4⟩|⟨q4,_⟩
       . rw [g3] at q4;rcases q4 with q4|q4<;>cases q4
       . exact q4
       . rw [g3] at q4;cases q4
   obtain ⟨gi,hgi,th⟩:=yP;obtain ⟨b,off,z,Ai,ni,ci,rfl,hz,hcz,hiz,tk,hnz⟩:=jn.at_ Pz (show gi < ng by omega);have re:=Dl hz;have hgn:=qqW hz;refine G3 ?_;refine iI (jD (v':=.bool false) (qM Z Z) (bF g3)) Z<|qP ?_;refine iI (jR (j:=gi) ⟨Z,(show lk _ _=some (iJ (gi:Int)) from by rw [<- hgi];rfl),Z,Z,Z,Z⟩ (show gi < ng by omega)) Z<|G3 ?_;refine iI (jW Y3 Pz Z) Z<|G5 ?_;refine lD Z ?_ ?_<;>intro c6
   .have hE:pX p f x=none:=by rw [pX,aw g2,am];rintro ⟨q1,q2⟩;rw [hgi,re] at q2;exact c6 q2
    exact VQ
   have hE:pX p f x=some z.num:=by rw [pX,aw g2,aw ⟨g3,by rw [hgi,re];exact c6⟩,hgi,hgn]
   refine lF ?_;refine iI (jR (j:=gi) ⟨Z,(show lk _ _=some (iJ (gi:Int)) from by rw [<- hgi];rfl),Z,Z,Z,Z⟩ (show gi < ng by omega)) Z<|iI (pu Y4) Z<|iI (nh 2 Y3 Pz Z) Z<|G7 ?_;exact rR [_,_,_] L (.tmp Z (.t1 Z)) Z Lc λ_ iL=>sQ
  refine G3 ?_;refine iI (jD (v':=.bool true) (qM Z Z) (bN g3)) Z<|wN ?_;have hE:pX p f x=none:=by rw [pX,aw g2,am];rintro ⟨q1,q2⟩;exact g3 q1
  exact VQ
 have g2:=c3;refine J6 ?_ ?_<;>intro c4
 .have g6:=c4;have mV:0 < n:=by have:=hl6 g6;omega
  obtain ⟨e,b,off,a,A',n',c',hd,rfl,ha,uj,_,hua,_⟩:=j9.at_ Pz mV;have hE6:=qJf (p:=p) (f:=f) g2 g6 ha;refine G4 ?_;refine vv (first:=[]) (captured:=[_]) Y3 (Td _ _ d n c 0 x.args Pz a ha) ?_;rintro _ _ s5 h5 ⟨rfl,rfl⟩;refine G3 ?_;refine lD Z ?_ ?_<;>intro c6
  .have hE:pX p f x=none:=by rw [hE6,am (λh=>c6 h.1)]
   exact VU
  have g57:=c6;have hE9:pX p f x=if (mW x.op 0).1=0 then some (nI x.op a.num 0) else none:=by
    rw [hE6];by_cases h:(mW x.op 0).1=0
    . rw [aw ⟨g57,h⟩,aw h]
    . rw [am (λk=>h k.2),am h]
  refine Zk<|Zt<|Zs<|ma jF 14 Z _ (λ_ h=>h) λs7 h7=>H4 ?_;refine za 4 Z (jR (j:=0) Y6 mV) Z<|H1 ?_;refine za 6 Z (nh 2 Y3 Pz Z) Z ?_;refine kD 7 11 V ?_ ?_;.refine Jf Z Tt Z Z Z (yZ D _ _ x.op a.num 0 hua ⟨by decide,by decide⟩) λs8 h8=>H3 ?_;refine iM 11 V<|kA Z Tt Z [_,_] Y2 λβ9 s9 h9=>H1 ?_;refine iM 13 V<|Wu Z Tt 0 [_,_] Y9 (sM (kX (jT)))<|jq V<|Zt<|Zs<|ma jF 6 Z _ (λ_ h=>h) ?_;exact HX
  refine kA Z Tt Z [_,_] Y2 λβ8 s8 h8=>iM 7 V<|Jf Z Tt Z Z Z (yZ D _ _ x.op a.num 0 hua ⟨by decide,by decide⟩) λs9 h9=>H4 ?_;refine iM 13 V<|Wu Z Tt 0 [_,_] Y9 (sM (kX (jT)))<|jq V<|Zt<|Zs<|ma jF 6 Z _ (λ_ h=>h) ?_;exact HX
 have g6:=c4;refine J6 ?_ ?_<;>intro c5
 .have g7:=c5;have mV:0 < n:=by have:=hl7 g7;omega
  have h1n:1 < n:=by have:=hl7 g7;omega
  obtain ⟨e,b0,off,a,A',n',c',hd,rfl,ha,uj,_,hua,_⟩:=j9.at_ Pz mV;obtain ⟨e2,b02,off2,b,A2',n2',nV,xT,lG,hb,pf,_,hub,_⟩:=j9.at_ Pz h1n;injection lG with lG
  injection lG with mI hA4;subst mI;subst hA4;have hE7:=qJg (p:=p) (f:=f) g2 g6 g7 ha hb;refine G4 ?_;refine vv (first:=[]) (captured:=[_]) Y3 (Td _ _ d n c 0 x.args Pz a ha) ?_;rintro _ _ s6 h6 ⟨rfl,rfl⟩;refine G3 ?_;refine lD Z ?_ ?_<;>intro c7
  .have hE:pX p f x=none:=by rw [hE7,am c7]
   exact VU
  rw [aw c7] at hE7;refine G6 ?_;refine iI (jR (j:=0) Y6 mV) Z<|iI (pu Y4) Z<|iI (nh 2 Y3 Pz Z) Z<|G7 ?_;refine vv (first:=[]) (captured:=[_]) Y3 (Td _ _ d n c 1 x.args Pz b hb) ?_;rintro _ _ s8 h8 ⟨rfl,rfl⟩;refine J3 ?_ ?_<;>intro c9
  .have hE9:pX p f x=if (mW x.op b.num).1=0 then some (nI x.op a.num b.num) else none:=by rw [hE7,aw c9]
   refine Zs<|ma jF 15 Z _ (λ_ h=>h) λku jN=>H5 ?_;refine za 5 Z (jR (j:=1) Y6 h1n) Z<|H1 ?_;refine za 7 Z (nh 2 Y3 Pz Z) Z ?_;refine kD 8 12 V ?_ ?_;.refine Jf Z Tt Z Z Z (yZ D _ _ x.op a.num b.num hua hub) λkv jP=>H3 ?_;refine iM 12 V<|kA Z Tt Z [_,_] Y2 λβ12 kc jL=>H1 ?_;refine iM 14 V<|Wu Z Tt 0 [_,_] Y9 (sM (kX (jT)))<|jq V<|Zt<|Zs<|ma jF 6 Z _ (λ_ h=>h) ?_;exact HW
   refine kA Z Tt Z [_,_] Y2 λβ11 kv jP=>iM 8 V<|Jf Z Tt Z Z Z (yZ D _ _ x.op a.num b.num hua hub) λkc jL=>H4 ?_;refine iM 14 V<|Wu Z Tt 0 [_,_] Y9 (sM (kX (jT)))<|jq V<|Zt<|Zs<|ma jF 6 Z _ (λ_ h=>h) ?_;exact HW
  rw [am c9] at hE7;refine rm 102 (x.op=20/\a.num=0) ?_ ?_
  .refine G5 ?_;refine kT (t:=106) Z ?_ ?_<;>intro mN;.exact VD
   exact TU
  intro ku jN;refine mE Z ?_ ?_<;>intro nU
  .have hE:pX p f x=some 0:=by rw [hE7,aw nU]
   exact VV
  rw [am nU] at hE7;refine rm 110 (x.op=21/\a.num≠0) ?_ ?_
  .refine G5 ?_;refine kT (t:=114) Z ?_ ?_<;>intro rO;.refine G7 ?_;refine jd (kE.mk (Lr D) Sb Z (EO O))
   exact TU
  intro kY kN;refine mE Z ?_ ?_<;>intro ve
  .have hE:pX p f x=some 1:=by rw [hE7,aw ve]
   exact VV
  have hE:pX p f x=none:=by rw [hE7,am ve]
  refine k8 ?_;exact rR [_,_] L (.tmp Z (.t1 Z)) Z Lc λ_ iL=>sQ
 have hE:pX p f x=none:=by rw [pX,am g2,am g6,am c5]
 refine lF ?_;exact rR [_,_] L (.tmp Z (.t1 Z)) Z Lc λ_ iL=>sQ
mutual
def Er(p:ja)(f:iT):Ex->Ex
 | .mk k o n nm ar=>match pX p f (.mk k o n nm (ru p f ar)) with
  | some v=>.mk 1 0 v [] []
  | none=>.mk k o n nm (ru p f ar)
def ru(p:ja)(f:iT):List Ex->List Ex
 | []=>[]
 | x::r=>Er p f x::ru p f r
end
def SA(p:ja)(f:iT):∀ l:List Ex,ru p f l=l.map (Er p f)
 | []=>rfl
 | x::r=>by rw [ru,SA p f r];rfl
def Sz(p:ja)(f:iT)(l:List Ex):(ru p f l).length=l.length:=by rw [SA,bI]
def Ex.withA(x:Ex)(l:List Ex):Ex:=.mk x.kind x.op x.num x.name l
def qtR(h:pX p f (x.withA (ru p f x.args))=some v):Er p f x=.mk 1 0 v [] []:=by
 cases x;rw [Er];simp only [Ex.withA,Ex.kind,Ex.op,Ex.num,Ex.name,Ex.args] at h;rw [h]
def qtQ(h:pX p f (x.withA (ru p f x.args))=none):Er p f x=x.withA (ru p f x.args):=by
 cases x;rw [Er];simp only [Ex.withA,Ex.kind,Ex.op,Ex.num,Ex.name,Ex.args] at h ⊢;rw [h]
def OO:iY (lK a):=by unfold lK;exact ⟨by omega,by omega⟩
def E5{k x:Int}(hx:iY x)(hy:iY y):iY (nI k x y):=by
  have hX:x.toNat < 4294967296:=by have:=hx.2;omega
  have hY:y.toNat < 4294967296:=by have:=hy.2;omega
  rw [nI];by_cases g0:14<=k\/k=1
  . rw [aw g0]
    by_cases h:yf k x y=true
    . rw [aw h];exact ⟨by decide,by decide⟩
    . rw [am h];exact ⟨by decide,by decide⟩
  rw [am g0];by_cases g2:k=2
  . rw [aw g2];exact OO
  rw [am g2];by_cases g3:k=3
  . rw [aw g3];have:=hx.1;have:=hx.2;exact ⟨by omega,by omega⟩
  rw [am g3];by_cases g4:k=4
  . rw [aw g4];exact OO
  rw [am g4];by_cases g5:k=5
  . rw [aw g5];exact ⟨fL hx.1 hy.1,Int.lt_of_le_of_lt (gK _ hx.1) hx.2⟩
  rw [am g5];by_cases g6:k=6
  . rw [aw g6]
    rcases Int.lt_or_eq_of_le hy.1 with h5|h5
    . exact ⟨gZ _ O,Int.lt_trans (Int.emod_lt_of_pos _ h5) hy.2⟩
    . rw [<- h5,Int.emod_zero];exact hx
  rw [am g6];by_cases g7:k=7
  . rw [aw g7]
    have:=Nat.mod_lt (x.toNat <<< y.toNat) (show 0 < 4294967296 by omega);exact ⟨dM _,by omega⟩
  rw [am g7];by_cases g8:k=8
  . rw [aw g8]
    have:x.toNat >>> y.toNat<=x.toNat:=Nat.shiftRight_le _ _;exact ⟨dM _,by omega⟩
  rw [am g8];by_cases g9:k=9
  . rw [aw g9]
    have:x.toNat &&& y.toNat<=x.toNat:=Nat.and_le_left;exact ⟨dM _,by omega⟩
  rw [am g9];by_cases g10:k=10
  . rw [aw g10];exact OO
  rw [am g10];by_cases g11:k=11
  . rw [aw g11];exact OO
  rw [am g11];by_cases g12:k=12
  . rw [aw g12]
    have:x.toNat ||| y.toNat < 2 ^ 32:=gy hX hY
    exact ⟨dM _,by omega⟩
  rw [am g12];have:x.toNat ^^^ y.toNat < 2 ^ 32:=gb hX hY;exact ⟨dM _,by omega⟩
def qJi(hg:∀ g∈p.o,iY g.num)(ha:∀ a∈x.args,iY a.num)(h:pX p f x=some v):iY v:=by
  unfold pX at h;split at h
  . split at h
    . injection h with h;subst h
      unfold Oe;split
      . rename_i g hgx;exact hg g (ay hgx)
      . exact ⟨by decide,by decide⟩
    . cases h
  split at h
  . split at h
    . rename_i a r he
      split at h
      . injection h with h;subst h
        exact E5 (ha a (by rw [he];exact cV ..)) ⟨by decide,by decide⟩
      . cases h
    . cases h
  split at h
  . split at h
    . rename_i a b r he
      have h1:=ha a (by rw [he];exact cV ..);have h2:=ha b (by rw [he];exact aq _ Mc);split at h
      . split at h
        . split at h
          . injection h with h;subst h;exact E5 h1 h2
          . cases h
        split at h
        . injection h with h;subst h;exact ⟨by decide,by decide⟩
        split at h
        . injection h with h;subst h;exact ⟨by decide,by decide⟩
        . cases h
      . cases h
    . cases h
  . cases h
def qti{β γ:Type}{R:Hl->β->γ->Prop}{P:β->Prop}(hR:∀ M x cs,R M x cs->P x){xs:List β}{css:List γ}(h:kV R Ms xs css):∀ x∈xs,P x:=by
 induction h with
 | nil=>exact λc h=>by cases h
 | cons h1 _ ih=>
   intro c hc;rcases aW.1 hc with rfl|hc
   . exact hR _ _ _ h1
   . exact ih c hc
def sB.u32{xs:List Ex}(h:sB d M A n c xs):∀ x∈xs,iY x.num:=by
 obtain ⟨css,Ms,R,_,_,h3,_⟩:=h;exact qti (λM x cs h=>by obtain ⟨_,_,_,_,_,_,_,hu,_⟩:=h.eq;exact hu) h3
def quI{e:Nat}{xs:LVal9}(h:Own e 5 M (.slice A n c) n xs)(hn:0 < n):∃ b ys,A=j6 b/\M=[(b,cb (xs++ys) e)]/\∀ zs:LVal9,zs.length=xs.length->Own e 5 [(b,cb (zs++ys) e)] (.slice (j6 b) n c) n zs:=by
 generalize hv:Value.slice A n c=v at h;cases h with
 | nil=>injection hv with h1 h2 h3;omega
 | blk b cap n2 xs ys h1 h2 h3 h4=>
  injection hv with e1 e2 e3;subst e1;subst e3;exact ⟨b,ys,rfl,rfl,λzs hz=>.blk b c n zs ys (by rw [hz];exact h1) (by rw [hz];exact h2) h3 h4⟩
def SP{α:Type}{g:α->α}{l vR yx:List α}{v x:α}(h:(l.take k).map g++l.drop k=vR++v::yx)(hk:vR.length=k)(hx:l[k]?=some x):vR=(l.take k).map g/\v=x/\yx=l.drop (k+1):=by
 obtain ⟨hl,rfl⟩:=al.1 hx;rw [aL hl] at h;have iQ:((l.take k).map g).length=k:=by rw [bI,cY];omega
 obtain ⟨h1,h2⟩:=List.append_inj h (by rw [iQ,hk]);injection h2 with h2 h3
 exact ⟨h1.symm,h2.symm,h3.symm⟩
def Nf{α:Type}{g:α->α}{l:List α}{x:α}(hx:l[k]?=some x):(l.take (k+1)).map g++l.drop (k+1)=(l.take k).map g++g x::l.drop (k+1):=by rw [wA hx];simp
def qJe:sR prog 133:=⟨_,func133,by kernel_rfl,by kernel_rfl⟩
def qA2(X L:Hl){s:World}(bm:Nat)(Ag Af:OAdr9)(ng cg nf cf:Nat)(p:ja)(hM:nW s bm p)(jQ:jn s Ag ng cg p.o)(f:iT)(B1 B2 B3:OAdr9)(m1 d1 m2 d2 m3 d3:Nat)(od:iW s B1 m1 d1 f.params)(oc:iW s B2 m2 d2 f.locals)(d:Nat)(x:Ex)(M:Hl)(A:OAdr9)(n c:Nat)(hO:sB d M A n c x.args)(hl6:x.kind=6->1<=x.args.length)(hl7:x.kind=7->2<=x.args.length):Ap9 D 133 [.agg #[.slice Ag ng cg,.slice Af nf cf,.map (some bm),St f.name,.slice B1 m1 d1,.slice B2 m2 d2,.slice B3 m3 d3],.agg #[iJ x.kind,iJ x.op,iO x.num,St x.name,.slice A n c]] (X++(M++L)) s λv L' _=>v=.tuple #[iO ((pX p f x).getD 0),.bool (pX p f x).isSome]/\L'=X++(M++L):=
 AC.perm (aO ..) (AC.lend M hO.cb qJe λho=>qoZ (X++L) _ bm Ag Af ng cg nf cf p (hM.le (Bp ho)) (jQ.le (Bp ho)) f B1 B2 B3 m1 d1 m2 d2 m3 d3 (od.le (Bp ho)) (oc.le (Bp ho)) d x A n c (hO.pub (qrP ho)) hl6 hl7) λv L1 s1 ⟨g0,g1⟩=>⟨_,by rw [<- g1];exact aO ..,g0,rfl⟩
def UU(D d:Nat):Prop:=∀ (L:Hl) (s:World) (bm:Nat) (Ag Af:OAdr9) (ng cg nf cf:Nat) (p:ja) (hM:nW s bm p) (jQ:jn s Ag ng cg p.o) (f:iT) (B1 B2 B3:OAdr9) (m1 d1 m2 d2 m3 d3:Nat) (od:iW s B1 m1 d1 f.params) (oc:iW s B2 m2 d2 f.locals) (M:Hl) (A:OAdr9) (n c:Nat) (xs:List Ex),sB d M A n c xs->o5 xs=true->AM9 D 87 [.agg #[.slice Ag ng cg,.slice Af nf cf,.map (some bm),St f.name,.slice B1 m1 d1,.slice B2 m2 d2,.slice B3 m3 d3],.slice A n c] M L s λv M' _=>v=.tuple #[]/\sB d M' A n c (ru p f xs)
def U_(d:Nat)(ih:∀ e,d=e+1->UU D e)(L:Hl)(s:World)(bm:Nat)(Ag Af:OAdr9)(ng cg nf cf:Nat)(p:ja)(hM:nW s bm p)(jQ:jn s Ag ng cg p.o)(f:iT)(B1 B2 B3:OAdr9)(m1 d1 m2 d2 m3 d3:Nat)(od:iW s B1 m1 d1 f.params)(oc:iW s B2 m2 d2 f.locals)(M:Hl)(A:OAdr9)(n c:Nat)(xs:List Ex)(hOX:sB d M A n c xs)(hxv:o5 xs=true):Ap9 D 87 [.agg #[.slice Ag ng cg,.slice Af nf cf,.map (some bm),St f.name,.slice B1 m1 d1,.slice B2 m2 d2,.slice B3 m3 d3],.slice A n c] (M++L) s λv L' _=>∃ M',L'=M'++L/\v=.tuple #[]/\sB d M' A n c (ru p f xs):=by
 obtain ⟨css0,Ms0,R0,hO0,rfl,hA0,hn⟩:=hOX;have hgu:∀ g∈p.o,iY g.num:=λg hg=>(jQ.u g hg).1;have hsl:=Own.slice hO0;obtain ⟨A_,c_,hsl1,hsl2,hsl3⟩:=hsl;injection hsl1 with _ _ hsl4
 subst hsl4;rw [an];refine jv (fn:=f87) jl func87 V Z ntmps87 Z (rs:=[]) Z [(0,_),(1,_)] Z<|Sr<|kH Y2 λβ1 s1 h1=>lF ?_;refine lw (γ:=Nat×Hl×Hl) (λg=>[(1,_),(2,_),(8,_),(9,iJ (g.1:Int))]) (λg=>_::(g.2.1++(g.2.2++L))) (λg tw=>Le D s1 tw/\(g.1<=n/\∃ css Ms,Own 34 5 g.2.1 (.slice A n c) n (List.flatten css)/\g.2.2=List.flatten Ms/\kV (OX d) Ms ((xs.take g.1).map (Er p f)++xs.drop g.1) css)) (λg=>n - g.1) (λ_ _ _ h hl=>⟨h.1.trans hl,h.2⟩) (0,R0,Ms0.flatten) (.c4 Z Z Z Z (.nil _)) Z ⟨Le.refl _,⟨aB _,css0,Ms0,hO0,Z,by simpa using hA0⟩⟩ ?_;intro g s2 I2;obtain ⟨k,R,Fo⟩:=g;obtain ⟨kh,css,Ms,hO,hF,mI⟩:=I2.2;simp only at kh hO hF mI;dsimp only;refine J6 ?_ ?_<;>intro c3
 .have hk:k < n:=by omega
  obtain ⟨b,ys,rfl,rfl,ui⟩:=quI hO O;obtain ⟨x,hx⟩:∃ x,xs[k]?=some x:=⟨_,ax O⟩;obtain ⟨vP,u,vQ,vR,v,yx,tZ,w0,vS,rfl,hvv,rfl,xu,hxw,tK,lG⟩:=mI.at_ (k:=k) Q27;obtain ⟨hvs1,vp,hvs2⟩:=SP hvv xu hx;obtain rfl:x=v:=vp.symm;obtain ⟨e,A',n',c',hd,ut,hxO,oh,kK⟩:=hxw.eq;have uS:w0.length=5:=by rw [ut];rfl
  have hxv1:=(vC hxv hx).1;obtain ⟨hxc,hxva⟩:=ze hxv1;have hal:=(Bm hxc).2.2.1;have q6:(x.withA (ru p f x.args)).kind=6->1<=(x.withA (ru p f x.args)).args.length:=λq=>by
    have h1:tu x.kind=1:=by rw [show x.kind=6 from q];rfl
    show 1<=(ru p f x.args).length;rw [Sz];omega
  have q7:(x.withA (ru p f x.args)).kind=7->2<=(x.withA (ru p f x.args)).args.length:=λq=>by
    have h1:tu x.kind=2:=by rw [show x.kind=7 from q];rfl
    show 2<=(ru p f x.args).length;rw [Sz];omega
  obtain ⟨P,hP0⟩:∃ P,P=tZ.flatten:=⟨_,rfl⟩;obtain ⟨Q,hQ0⟩:∃ Q,Q=vS.flatten++ys:=⟨_,rfl⟩;obtain ⟨F1,hF1⟩:∃ F,F=vP.flatten:=⟨_,rfl⟩;obtain ⟨F2,mP⟩:∃ F,F=vQ.flatten:=⟨_,rfl⟩;have hPQ:∀ w:LVal9,P++(w++Q)=(tZ++w::vS).flatten++ys:=λw=>by rw [hP0,hQ0];simp [an]
  have hP:P.length=0+k * 5:=by rw [hP0,qrW tK,xu,aZ]
  have hFF:Fo=F1++(u++F2):=by rw [hF,hF1,mP];simp
  subst hFF;rw [<- hPQ,an,an];simp only [iU,iV];refine k8 ?_;refine mh jF 7 Z 2 λs4 h4=>za 0 Z (jh 0 [_,_,_,_,_,_,_] Y5) Z<|H2 ?_;refine X39 ?_;refine za 5 Z (rj 1 Y4 ((qAZ (c:=w0) hP (j:=4) O).trans (by rw [ut];rfl))) Z<|iM 6 V<|Jb Z Tt Z Z Z (AC.mid (_::_::F1) u (F2++L) (ih e hd _ _ bm Ag Af ng cg nf cf p Pz Pz f B1 B2 B3 m1 d1 m2 d2 m3 d3 Pz Pz u A' n' c' x.args hxO hxva)) ?_;rintro _ _ s5 h5 ⟨u2,rfl,rfl,oE⟩;refine ⟨(λx hx _=>xA hx),?_⟩;simp only [ao];refine jq V<|Zt<|Zs<|mh jF 11 Z 2 λs6 h6=>za 0 Z (jh 0 [_,_,_,_,_,_,_] Y5) Z<|H2 ?_;refine za 3 Z (jR Y6 hk) Z<|za 4 Z (jD (jh 1 w0 ⟨Z,Z,Z,Z,(qAc hP uS)⟩) (show Value.agg w0.toArray=.agg #[iJ x.kind,iJ x.op,iO x.num,St x.name,.slice A' n' c'] by rw [ut])) Z<|iM 5 V<|Jb Z Tt Z Z Z (qA2 (_::_::F1) (F2++L) bm Ag Af ng cg nf cf p Pz Pz f B1 B2 B3 m1 d1 m2 d2 m3 d3 Pz Pz e (x.withA (ru p f x.args)) u2 A' n' c' oE q6 q7) ?_;rintro _ _ s7 h7 ⟨rfl,rfl⟩;refine ⟨(λx hx _=>xA hx),?_⟩;simp only [ao];refine H5 ?_;refine jq V<|G6 ?_;refine qT Z ?_ ?_<;>intro c8;.obtain ⟨v9,hnum⟩:=ec.1 c8;have hau:∀ a∈(x.withA (ru p f x.args)).args,iY a.num:=oE.u32;obtain ⟨w9,hw9⟩:∃ w:LVal9,w=[iJ 1,iJ 0,iO v9,St [],.slice none 0 0]:=⟨_,rfl⟩;refine G4 ?_;refine iI (jD (jC [(_,_),(_,_)] [_,_,_,_,_] Y3 Z Z Z) (show Value.agg #[iJ 1,iJ 0,iO ((pX p f (x.withA (ru p f x.args))).getD 0),St [],.slice none 0 0]=.agg #[iJ 1,iJ 0,iO v9,St [],.slice none 0 0] by rw [hnum];rfl)) Z<|iI (jR Y6 hk) Z<|xy 1 (P++(w9++Q)) Y5 (qzO hP uS) Z (by rw [hw9];exact qo8 hP (show 5=w0.length from uS.symm)) Z<|Zn<|Zb<|Zt<|tO (_::_::F1) u2 ?_;intro ku jN _;simp only [ao];rw [show F1++(F2++L)=(F1++F2)++L from (an ..).symm];refine Zr<|ki Y3 (jB O O)<|G2 ?_;refine jd ⟨(k+1,[(b,cb (P++(w9++Q)) 34)],F1++F2),[],kp,Z,⟨Lc,⟨by simp only;omega,tZ++w9::vS,vP++[]::vQ,by simp only;rw [hPQ];exact ui _ (by simp [uS,hw9]<;>omega),by simp [hF1,mP],by simp only;rw [Nf hx,qtR hnum,<- hvs1,<- hvs2];exact tK.app (.cons (hd▸hw9▸OX.mk (x:=.mk 1 0 v9 [] []) (sB.nil _) (qJi hgu hau hnum) (aB _)) lG)⟩⟩,Oz⟩
  have hnum:pX p f (x.withA (ru p f x.args))=none:=bD.1 (by rw [<- Option.not_isSome,c8];rfl);refine G3 ?_;rw [show F1++(u2++(F2++L))=(F1++(u2++F2))++L from by simp only [an]];refine Zr<|ki Y3 (jB O O)<|G2 ?_;refine jd ⟨(k+1,[(b,cb (P++(w0++Q)) 34)],F1++(u2++F2)),[],kp,Z,⟨Lc,⟨by simp only;omega,tZ++w0::vS,vP++u2::vQ,by simp only;rw [hPQ];exact ui _ (by simp),by simp [hF1,mP],by simp only;rw [Nf hx,qtQ hnum,<- hvs1,<- hvs2];exact tK.app (.cons (hd▸ut▸OX.mk (x:=x.withA (ru p f x.args)) oE oh kK) lG)⟩⟩,Oz⟩
 obtain rfl:n=k:=by omega
 rw [aI O,aK O,aE,<- SA] at mI;refine G4 ?_;refine lC [_] _ (.inl Z) (.nil) Z Lc λ_ iL=>?_;exact ⟨R++Fo,(an ..).symm,rfl,css,Ms,R,hO,by rw [hF],mI,by rw [Sz];exact hn⟩
def Vg{D:Nat}:∀ d,UU D d
 | 0=>λL s bm Ag Af ng cg nf cf p hM jQ f B1 B2 B3 m1 d1 m2 d2 m3 d3 od oc M A n c xs h1 h2=>U_ 0 (λe h=>by omega) L s bm Ag Af ng cg nf cf p hM jQ f B1 B2 B3 m1 d1 m2 d2 m3 d3 od oc M A n c xs h1 h2
 | d+1=>λL s bm Ag Af ng cg nf cf p hM jQ f B1 B2 B3 m1 d1 m2 d2 m3 d3 od oc M A n c xs h1 h2=>U_ (d+1) (λe h=>(show d=e by omega)▸Vg d) L s bm Ag Af ng cg nf cf p hM jQ f B1 B2 B3 m1 d1 m2 d2 m3 d3 od oc M A n c xs h1 h2
mutual
def L4(p:ja)(f:iT):jb->jb
 | .mk k nm es b e=>.mk k nm (ru p f es) (z8 p f b) (z8 p f e)
def z8(p:ja)(f:iT):List jb->List jb
 | []=>[]
 | x::r=>L4 p f x::z8 p f r
end
def S_(p:ja)(f:iT):∀ l:List jb,z8 p f l=l.map (L4 p f)
 | []=>rfl
 | x::r=>by rw [z8,S_ p f r];rfl
def qF0(p:ja)(f:iT)(x:jb):L4 p f x=.mk x.kind x.name (ru p f x.exprs) (z8 p f x.body) (z8 p f x.els):=by cases x;rfl
def UT(D d:Nat):Prop:=∀ (L:Hl) (s:World) (bm:Nat) (Ag Af:OAdr9) (ng cg nf cf:Nat) (p:ja) (hM:nW s bm p) (jQ:jn s Ag ng cg p.o) (f:iT) (B1 B2 B3:OAdr9) (m1 d1 m2 d2 m3 d3:Nat) (od:iW s B1 m1 d1 f.params) (oc:iW s B2 m2 d2 f.locals) (M:Hl) (A:OAdr9) (n c:Nat) (xs:List jb) (lv:Nat),rN d s M A n c xs->nT xs lv=true->AM9 D 48 [.agg #[.slice Ag ng cg,.slice Af nf cf,.map (some bm),St f.name,.slice B1 m1 d1,.slice B2 m2 d2,.slice B3 m3 d3],.slice A n c] M L s λv M' s'=>v=.tuple #[]/\rN d s' M' A n c (z8 p f xs)
def qxQ{g:FuncId}{args:LVal9}{L L0:Hl}{s:World}{xs:List jb}(h:Ap9 D g args L0 s λv L' s'=>∃ M',L'=M'++L/\v=.tuple #[]/\∀ s2,Le D s' s2->rN d s2 M' A n c xs):Ap9 D g args L0 s λv L' s'=>∃ M',L'=M'++L/\v=.tuple #[]/\rN d s' M' A n c xs:=h.mono λv L' s' _ ⟨M',h1,h2,h3⟩=>⟨M',h1,h2,h3 _ (Le.refl _)⟩
def qJc{x a b c d e f:Nat×Obj}{R':Hl}(hx:x∈(a::b::c::d::e::f::R).take 6):x∈a::b::c::d::e::f::R':=aN R' (show x∈[a,b,c,d,e,f] from hx)
def T_(d:Nat)(ih:∀ e,d=e+1->UT D e)(L:Hl)(s:World)(bm:Nat)(Ag Af:OAdr9)(ng cg nf cf:Nat)(p:ja)(hM:nW s bm p)(jQ:jn s Ag ng cg p.o)(f:iT)(B1 B2 B3:OAdr9)(m1 d1 m2 d2 m3 d3:Nat)(od:iW s B1 m1 d1 f.params)(oc:iW s B2 m2 d2 f.locals)(M:Hl)(A:OAdr9)(n c:Nat)(xs:List jb)(lv:Nat)(hSO:rN d s M A n c xs)(hxv:nT xs lv=true):Ap9 D 48 [.agg #[.slice Ag ng cg,.slice Af nf cf,.map (some bm),St f.name,.slice B1 m1 d1,.slice B2 m2 d2,.slice B3 m3 d3],.slice A n c] (M++L) s λv L' s'=>∃ M',L'=M'++L/\v=.tuple #[]/\∀ s2,Le D s' s2->rN d s2 M' A n c (z8 p f xs):=by
 obtain ⟨css,Ms0,rfl,wu,hA0⟩:=hSO;have hn:n=xs.length:=by rw [wu.1];exact hA0.len.2
 have mX:=wu.2.1;have oR:=wu.2.2.1;refine jv (fn:=f48) jl func48 V Z ntmps48 Z (rs:=[]) Z [(0,_),(1,_)] Z<|Sr<|kH Y2 λβ1 s1 h1=>lF ?_;refine lw (γ:=Nat×Hl) (λg=>[(1,_),(2,_),(6,_),(7,iJ (g.1:Int))]) (λg=>_::(g.2++L)) (λg tw=>Le D s1 tw/\(g.1<=n/\∃ Ms,g.2=List.flatten Ms/\kV (SO d tw) Ms ((xs.take g.1).map (L4 p f)++xs.drop g.1) css)) (λg=>n - g.1) (λ_ _ _ h hl=>⟨h.1.trans hl,⟨h.2.1,by obtain ⟨Ms,q2,q3⟩:=h.2.2;exact ⟨Ms,q2,q3.mono λ_ _ _ k=>SO.le hl k⟩⟩⟩) (0,Ms0.flatten) (.c4 Z Z Z Z (.nil _)) Z ⟨Le.refl _,⟨aB _,Ms0,Z,by simpa using hA0.mono λ_ _ _ k=>SO.le h1 k⟩⟩ ?_;intro g s2 I2;obtain ⟨k,Fo⟩:=g;obtain ⟨kh,Ms,hF,mI⟩:=I2.2;simp only at kh hF mI;dsimp only;refine J6 ?_ ?_<;>intro c3
 .have hk:k < n:=by omega
  obtain ⟨x,hx⟩:∃ x,xs[k]?=some x:=⟨_,ax O⟩;obtain ⟨vP,u,vQ,vR,v,yx,tZ,w0,vS,rfl,hvv,tg,xu,hxw,tK,lG⟩:=mI.at_ (k:=k) Q27;obtain ⟨hvs1,vp,hvs2⟩:=SP hvv xu hx;obtain rfl:x=v:=vp.symm;obtain ⟨e,A1,n1,c1,A2,n2,c2,A3,n3,c3,M1,M2,M3,hd,ut,rfl,hxO,hxB,hxE,kK⟩:=hxw.eq;have hw:css[k]?=some w0:=by
    have:=tK.len;rw [tg,aY O,show k - tZ.length=0 by omega];rfl
  obtain ⟨b,off,rfl,hcx⟩:=wu.at_ hw;rw [ut] at hcx;obtain ⟨hvx1,_⟩:=Dv hxv hx;obtain ⟨_,_,uv,hxb,tm⟩:=wH hvx1;obtain ⟨F1,hF1⟩:∃ F,F=vP.flatten:=⟨_,rfl⟩;obtain ⟨F2,mP⟩:∃ F,F=vQ.flatten:=⟨_,rfl⟩;have hFF:Fo=F1++((M1++(M2++M3))++F2):=by rw [hF,hF1,mP];simp
  subst hFF;rw [show (F1++((M1++(M2++M3))++F2))++L=F1++(M1++(M2++(M3++(F2++L)))) from by simp only [an]];refine k8 ?_;refine mh jF 7 Z 1 λs4 h4=>za 0 Z (jh 0 [_,_,_,_,_,_,_] Y5) Z<|H2 ?_;refine X39 ?_;refine za 5 Z (nh 2 Y3 Pz Z) Z<|iM 6 V<|Jb Z Tt Z Z Z (AC.mid (_::F1) M1 (M2++(M3++(F2++L))) (Vg e _ _ bm Ag Af ng cg nf cf p Pz Pz f B1 B2 B3 m1 d1 m2 d2 m3 d3 Pz Pz M1 A1 n1 c1 x.exprs hxO uv)) ?_;rintro _ _ s5 h5 ⟨N1,rfl,rfl,pr⟩;refine ⟨(λx hx _=>zk hx),?_⟩;simp only [ao];rw [show F1++(N1++(M2++(M3++(F2++L))))=(F1++N1)++(M2++(M3++(F2++L))) from (an ..).symm];refine jq V<|Zt<|Zs<|mh jF 7 Z 1 λs6 h6=>za 0 Z (jh 0 [_,_,_,_,_,_,_] Y5) Z<|H2 ?_;refine X39 ?_;refine za 5 Z (nh 3 Y3 Pz Z) Z<|iM 6 V<|Jb Z Tt Z Z Z (AC.mid (_::(F1++N1)) M2 (M3++(F2++L)) (ih e hd _ _ bm Ag Af ng cg nf cf p Pz Pz f B1 B2 B3 m1 d1 m2 d2 m3 d3 Pz Pz M2 A2 n2 c2 x.body (lv+1) (hxB.le (h4.t h5|>.t h6)) hxb)) ?_;rintro _ _ s7 h7 ⟨N2,rfl,rfl,oE⟩;refine ⟨(λx hx _=>zk hx),?_⟩;simp only [ao];rw [show (F1++N1)++(N2++(M3++(F2++L)))=((F1++N1)++N2)++(M3++(F2++L)) from (an ..).symm];refine jq V<|Zt<|mh jF 7 Z 1 λs8 h8=>za 0 Z (jh 0 [_,_,_,_,_,_,_] Y5) Z<|H2 ?_;refine X39 ?_;refine za 5 Z (nh 4 Y3 Pz Z) Z<|iM 6 V<|Jb Z Tt Z Z Z (AC.mid (_::((F1++N1)++N2)) M3 (F2++L) (ih e hd _ _ bm Ag Af ng cg nf cf p Pz Pz f B1 B2 B3 m1 d1 m2 d2 m3 d3 Pz Pz M3 A3 n3 c3 x.els (lv+1) (hxE.le (h4.t h5|>.t h6|>.t h7|>.t h8)) tm)) ?_;rintro _ _ s9 h9 ⟨N3,rfl,rfl,hu3⟩;refine ⟨(λx hx _=>zk hx),?_⟩;simp only [ao];rw [show ((F1++N1)++N2)++(N3++(F2++L))=(F1++((N1++(N2++N3))++F2))++L from by simp only [an]];refine jq V<|Zb<|Zt<|Zr<|ki Y3 (jB O O)<|G2 ?_;refine jd ⟨(k+1,F1++((N1++(N2++N3))++F2)),[],kp,Z,⟨Lc,⟨by simp only;omega,vP++(N1++(N2++N3))::vQ,by simp [hF1,mP],by simp only;rw [Nf hx,<- hvs1,<- hvs2,tg];exact (tK.mono λ_ _ _ k=>SO.le Lc k).app (.cons (hd▸ut▸qF0 p f x▸SO.mk (x:=.mk x.kind x.name (ru p f x.exprs) (z8 p f x.body) (z8 p f x.els)) pr (oE.le (h8.t h9)) Pz kK) (lG.mono λ_ _ _ k=>SO.le Lc k))⟩⟩,Oz⟩
 obtain rfl:n=k:=by omega
 rw [aI O,aK O,aE,<- S_] at mI;refine G4 ?_;refine lC [_] _ (.inl Z) (.nil) Z Lc λ_ iL=>?_;exact ⟨Fo,rfl,rfl,λs2 kb=>⟨css,Ms,hF,wu.le Lc,mI.mono λ_ _ _ k=>SO.le Lc k⟩⟩
def fds{D:Nat}:∀ d,UT D d
 | 0=>λL s bm Ag Af ng cg nf cf p hM jQ f B1 B2 B3 m1 d1 m2 d2 m3 d3 od oc M A n c xs lv h1 h2=>qxQ (T_ 0 (λe h=>by omega) L s bm Ag Af ng cg nf cf p hM jQ f B1 B2 B3 m1 d1 m2 d2 m3 d3 od oc M A n c xs lv h1 h2)
 | d+1=>λL s bm Ag Af ng cg nf cf p hM jQ f B1 B2 B3 m1 d1 m2 d2 m3 d3 od oc M A n c xs lv h1 h2=>qxQ (T_ (d+1) (λe h=>(show d=e by omega)▸fds d) L s bm Ag Af ng cg nf cf p hM jQ f B1 B2 B3 m1 d1 m2 d2 m3 d3 od oc M A n c xs lv h1 h2)
def Qe(p:ja)(x:iT):iT:={ x with body:=z8 p x x.body }
def Gl(p:ja):ja:=⟨p.o,p.funcs.map (Qe p)⟩
def J1{x:Nat×Obj}(h:x∈X++Y):x∈X++(M++Y):=by
 rcases aU.1 h with h|h
 . exact aN _ h
 . exact aJ _ (aJ _ h)
def zj(p:ja):ja×(Int×Int):=if (kU p).1≠0 then (⟨[],[]⟩,kU p) else if (qV (Gl p)).1≠0 then (⟨[],[]⟩,qV (Gl p)) else (Gl p,(0,0))
def G0{p:Prop} (h:p:=by
 rw [hE];exact ⟨rfl,none,0,0,none,0,0,rfl,λs2 kb=>⟨x7 _,Z_⟩⟩):p:=h
def qt4(hG:GP s)(d:Nat)(p:ja)(Ag Af:OAdr9)(ng cg nf cf:Nat)(jQ:jn s Ag ng cg p.o)(j8:ju d s Af nf cf p.funcs):Ap9 D 18 [.agg #[.slice Ag ng cg,.slice Af nf cf]] L s λv L' s'=>L=L'/\∃ Bg mg eg Bf mf ef,v=.tuple #[.agg #[.slice Bg mg eg,.slice Bf mf ef],.agg #[iJ (zj p).2.1,iJ (zj p).2.2]]/\∀ s2,Le D s' s2->jn s2 Bg mg eg (zj p).1.o/\ju d s2 Bf mf ef (zj p).1.funcs:=by
 have lX:=jQ.1;have oB:=j8.1;have hU:si p:=⟨jQ.u,j8.u⟩;refine jv (fn:=Tryz.f18) jl Tryz.func18 V Z Tryz.ntmps18 Z (rs:=[.cell 2 45,.cell 3 24]) Z [(0,_)] Z<|Sr<|kH Y2 λβ1 s1 h1=>jp Z [_,_] Y2 λβ2 s2 h2=>jp Z [_,_] Y2 λβ3 s3 h3=>Nt<|Zs<|Sr<|iI (jh 2 [_,_] Y5) Z<|Je Y3 (FK _ _ Pz d p Ag ng cg nf cf Pz Pz) λs4 h4=>jp Z [_,_] Y2 λβ5 s5 h5=>Wt 0 [_,_] Y9<|Nt<|Sr<|iI (jh 0 [_,_] Y5) Z<|iI (jC [] [_,_] Y3 Z Z Z) Z<|iI (sL Z Z (rq)) Z<|G2 ?_;refine lD Z ?_ ?_<;>intro c6;.have hb0:(kU p).1≠0:=λh=>c6 Q24;have hE:zj p=(⟨[],[]⟩,kU p):=aw hb0;refine Zs<|pm jF 4 Z [2,1] Q3 λs7 h7=>za 0 Z (jC [] [_,_] Y3 Z Z Z) Z<|za 1 Z (jh 0 [_,_] Y5) Z<|iM 2 V<|Wu Z Tt 2 [_,_] Y9 (sM (mT (lq (mT (jT)))))<|iM 3 V<|Wu Z Tt 1 [_,_] Y9 (sM (mT (lq (mT (jT)))))<|jq V<|G3 ?_;exact rR [_,_,_,_] L (.agg (us:=[_,_]) 2 Z Z Z Z Z (.agg (us:=[_,_]) 1 Z Z Z Z Z (.nil))) Z Lc λ_ iL=>G0
 have g4:=c6;have vg:¬ (kU p).1≠0:=λh=>h g4.1;obtain ⟨px,yW⟩:=sU.of hU g4.1;have hV:=px.1;have yN:=hV.1;have AQ:=hV.2.1;have rD:=hV.2.2.2.1;have td:=(CB (p:=p) (by rw [px.2.1])).1;refine G2 ?_;refine JU (γ:=Nat×Nat×Hl×Value×Value×Nat) (λg=>[(5,.pointer (some ⟨g.1,0,none⟩)),(6,.pointer (some ⟨g.2.1,0,none⟩))]) (λg=>((g.1,cb [g.2.2.2.1,g.2.2.2.2.1] 45)::(g.2.1,cb [.slice Ag ng cg,.slice Af nf cf,.map (some g.2.2.2.2.2)] 119)::g.2.2.1)) (λg tw=>(∃ Bg mg eg,g.2.2.2.1=.slice Bg mg eg/\jn tw Bg mg eg p.o)/\(∃ Bf mf ef,g.2.2.2.2.1=.slice Bf mf ef/\Ci d tw g.2.2.1 Bf mf ef p.funcs)/\nW tw g.2.2.2.2.2 p) (λ_ _ _ h hl=>⟨by obtain ⟨A,n,c,q1,q2⟩:=h.1;exact ⟨A,n,c,q1,q2.le hl⟩,by obtain ⟨A,n,c,q1,q2⟩:=h.2.1;exact ⟨A,n,c,q1,q2.le hl⟩,h.2.2.le hl⟩) ?_ ?_
 .refine mh jF 8 Z 4 λs8 h8=>za 0 Z (jh 3 [_,_] Y5) Z<|za 2 Z (jh 3 [_,_] Y5) Z ?_;refine xF 1 4 5 V ?_ ?_ ?_
  .refine Jb Z Tt Z Z Z (AC.mid [_,_,_,_] [] L (FG _ _ d p Ag _ ng cg nf cf Pz Pz hV)) ?_;rintro _ _ s9 h9 ⟨M1,rfl,Bg,mg,eg,Bf,mf,ef,rfl,hBG,hBF⟩;refine ⟨(λx _ h=>J1 (X:=[_,_,_,_]) (M:=M1) (Y:=L) h),?_⟩;simp only [iU,iV];refine xF 3 4 5 V ?_ ?_ ?_
   .refine Jb Z Tt Z Z Z (wz _ _ d p Ag ng cg nf cf Pz Pz td) ?_;rintro _ _ ku jN ⟨rfl,bm,rfl,hM⟩;refine ⟨λ_ _ h=>h,?_⟩;refine kD 4 5 V ?_ ?_;.refine kA Z Tt Z [_,_] Y2 λβ11 kv jP=>iM 5 V<|kA Z Tt Z [_,_,_] Y2 λβ12 kc jL=>iM 6 V<|Wu Z Tt 1 [_,_] Y9 (sM (lq (kP (pG))))<|iM 7 V<|Wu Z Tt 0 [_,_,_] Y9 (sM (lq (kP (pG))))<|jq V ?_;refine jd (jV.mk (β11,β12,M1,.slice Bg mg eg,.slice Bf mf ef,bm) [] Lc (.c2 Z Z sk) (List.Perm.trans (List.Perm.trans (jJ _ 0) (jJ _ 1)) (.cons _ (.cons _ (aO [_,_,_,_] M1 L)))) ⟨⟨_,_,_,Z,hBG.le Lc⟩,⟨_,_,_,Z,hBF.le Lc⟩,hM.le Lc⟩)
    refine kA Z Tt Z [_,_,_] Y2 λβ11 kv jP=>iM 4 V<|kA Z Tt Z [_,_] Y2 λβ12 kc jL=>iM 6 V<|Wu Z Tt 0 [_,_] Y9 (sM (lq (kP (pG))))<|iM 7 V<|Wu Z Tt 1 [_,_,_] Y9 (sM (lq (kP (pG))))<|jq V ?_;refine jd (jV.mk (β12,β11,M1,.slice Bg mg eg,.slice Bf mf ef,bm) [] Lc (.c2 Z Z sk) (List.Perm.trans (List.Perm.trans (jJ _ 1) (jJ _ 1)) (.cons _ (.cons _ (aO [_,_,_,_] M1 L)))) ⟨⟨_,_,_,Z,hBG.le Lc⟩,⟨_,_,_,Z,hBF.le Lc⟩,hM.le Lc⟩)
   .refine kA Z Tt Z [_,_] Y2 λβ10 ku jN=>kD 3 5 V ?_ ?_;.refine Jb Z Tt Z Z Z (wz _ _ d p Ag ng cg nf cf Pz Pz td) ?_;rintro _ _ kv jP ⟨rfl,bm,rfl,hM⟩;refine ⟨λ_ _ h=>h,?_⟩;refine iM 5 V<|kA Z Tt Z [_,_,_] Y2 λβ12 kc jL=>iM 6 V<|Wu Z Tt 1 [_,_] Y9 (sM (lq (kP (pG))))<|iM 7 V<|Wu Z Tt 0 [_,_,_] Y9 (sM (lq (kP (pG))))<|jq V ?_;refine jd (jV.mk (β10,β12,M1,.slice Bg mg eg,.slice Bf mf ef,bm) [] Lc (.c2 Z Z sk) (List.Perm.trans (List.Perm.trans (jJ _ 0) (jJ _ 1)) (.cons _ (.cons _ (aO [_,_,_,_] M1 L)))) ⟨⟨_,_,_,Z,hBG.le Lc⟩,⟨_,_,_,Z,hBF.le Lc⟩,hM.le jL⟩)
    refine kA Z Tt Z [_,_,_] Y2 λβ11 kv jP=>iM 3 V<|Jb Z Tt Z Z Z (wz _ _ d p Ag ng cg nf cf Pz Pz td) ?_;rintro _ _ kc jL ⟨rfl,bm,rfl,hM⟩;refine ⟨λ_ _ h=>h,?_⟩;refine X8 ?_;refine jd (jV.mk (β10,β11,M1,.slice Bg mg eg,.slice Bf mf ef,bm) [] Lc (.c2 Z Z sk) (List.Perm.trans (List.Perm.trans (jJ _ 0) (jJ _ 1)) (.cons _ (.cons _ (aO [_,_,_,_] M1 L)))) ⟨⟨_,_,_,Z,hBG.le Lc⟩,⟨_,_,_,Z,hBF.le Lc⟩,hM.le (Lr D)⟩)
   refine kA Z Tt Z [_,_,_] Y2 λβ10 ku jN=>kD 3 4 V ?_ ?_;.refine Jb Z Tt Z Z Z (wz _ _ d p Ag ng cg nf cf Pz Pz td) ?_;rintro _ _ kv jP ⟨rfl,bm,rfl,hM⟩;refine ⟨λ_ _ h=>h,?_⟩;refine iM 4 V<|kA Z Tt Z [_,_] Y2 λβ12 kc jL=>iM 6 V<|Wu Z Tt 0 [_,_] Y9 (sM (lq (kP (pG))))<|iM 7 V<|Wu Z Tt 1 [_,_,_] Y9 (sM (lq (kP (pG))))<|jq V ?_;refine jd (jV.mk (β12,β10,M1,.slice Bg mg eg,.slice Bf mf ef,bm) [] Lc (.c2 Z Z sk) (List.Perm.trans (List.Perm.trans (jJ _ 1) (jJ _ 1)) (.cons _ (.cons _ (aO [_,_,_,_] M1 L)))) ⟨⟨_,_,_,Z,hBG.le Lc⟩,⟨_,_,_,Z,hBF.le Lc⟩,hM.le jL⟩)
   refine kA Z Tt Z [_,_] Y2 λβ11 kv jP=>iM 3 V<|Jb Z Tt Z Z Z (wz _ _ d p Ag ng cg nf cf Pz Pz td) ?_;rintro _ _ kc jL ⟨rfl,bm,rfl,hM⟩;refine ⟨λ_ _ h=>h,?_⟩;refine X9 ?_;refine jd (jV.mk (β11,β10,M1,.slice Bg mg eg,.slice Bf mf ef,bm) [] Lc (.c2 Z Z sk) (List.Perm.trans (List.Perm.trans (jJ _ 1) (jJ _ 1)) (.cons _ (.cons _ (aO [_,_,_,_] M1 L)))) ⟨⟨_,_,_,Z,hBG.le Lc⟩,⟨_,_,_,Z,hBF.le Lc⟩,hM.le (Lr D)⟩)
  .refine kA Z Tt Z [_,_] Y2 λβ9 s9 h9=>kD 1 5 V ?_ ?_
   .refine Jb Z Tt Z Z Z (AC.mid [_,_,_,_,_] [] L (FG _ _ d p Ag _ ng cg nf cf Pz Pz hV)) ?_;rintro _ _ ku jN ⟨M1,rfl,Bg,mg,eg,Bf,mf,ef,rfl,hBG,hBF⟩;refine ⟨(λx _ h=>J1 (X:=[_,_,_,_,_]) (M:=M1) (Y:=L) h),?_⟩;simp only [iU,iV];refine kD 3 5 V ?_ ?_;.refine Jb Z Tt Z Z Z (wz _ _ d p Ag ng cg nf cf Pz Pz td) ?_;rintro _ _ kv jP ⟨rfl,bm,rfl,hM⟩;refine ⟨λ_ _ h=>h,?_⟩;refine iM 5 V<|kA Z Tt Z [_,_,_] Y2 λβ12 kc jL=>iM 6 V<|Wu Z Tt 1 [_,_] Y9 (sM (lq (kP (pG))))<|iM 7 V<|Wu Z Tt 0 [_,_,_] Y9 (sM (lq (kP (pG))))<|jq V ?_;refine jd (jV.mk (β9,β12,M1,.slice Bg mg eg,.slice Bf mf ef,bm) [] Lc (.c2 Z Z sk) (List.Perm.trans (List.Perm.trans (jJ _ 0) (jJ _ 1)) (.cons _ (.cons _ (aO [_,_,_,_] M1 L)))) ⟨⟨_,_,_,Z,hBG.le Lc⟩,⟨_,_,_,Z,hBF.le Lc⟩,hM.le jL⟩)
    refine kA Z Tt Z [_,_,_] Y2 λβ11 kv jP=>iM 3 V<|Jb Z Tt Z Z Z (wz _ _ d p Ag ng cg nf cf Pz Pz td) ?_;rintro _ _ kc jL ⟨rfl,bm,rfl,hM⟩;refine ⟨λ_ _ h=>h,?_⟩;refine X8 ?_;refine jd (jV.mk (β9,β11,M1,.slice Bg mg eg,.slice Bf mf ef,bm) [] Lc (.c2 Z Z sk) (List.Perm.trans (List.Perm.trans (jJ _ 0) (jJ _ 1)) (.cons _ (.cons _ (aO [_,_,_,_] M1 L)))) ⟨⟨_,_,_,Z,hBG.le Lc⟩,⟨_,_,_,Z,hBF.le Lc⟩,hM.le (Lr D)⟩)
   refine kA Z Tt Z [_,_,_] Y2 λβ10 ku jN=>iM 1 V<|Jb Z Tt Z Z Z (AC.mid [_,_,_,_,_,_] [] L (FG _ _ d p Ag _ ng cg nf cf Pz Pz hV)) ?_;rintro _ _ kv jP ⟨M1,rfl,Bg,mg,eg,Bf,mf,ef,rfl,hBG,hBF⟩;refine ⟨(λx _ h=>J1 (X:=[_,_,_,_,_,_]) (M:=M1) (Y:=L) h),?_⟩;simp only [iU,iV];refine iM 3 V<|Jb Z Tt Z Z Z (wz _ _ d p Ag ng cg nf cf Pz Pz td) ?_;rintro _ _ kc jL ⟨rfl,bm,rfl,hM⟩;refine ⟨λ_ _ h=>h,?_⟩;refine X8 ?_;refine jd (jV.mk (β9,β10,M1,.slice Bg mg eg,.slice Bf mf ef,bm) [] Lc (.c2 Z Z sk) (List.Perm.trans (List.Perm.trans (jJ _ 0) (jJ _ 1)) (.cons _ (.cons _ (aO [_,_,_,_] M1 L)))) ⟨⟨_,_,_,Z,hBG.le jL⟩,⟨_,_,_,Z,hBF.le jL⟩,hM.le (Lr D)⟩)
  refine kA Z Tt Z [_,_,_] Y2 λβ9 s9 h9=>kD 1 4 V ?_ ?_
  .refine Jb Z Tt Z Z Z (AC.mid [_,_,_,_,_] [] L (FG _ _ d p Ag _ ng cg nf cf Pz Pz hV)) ?_;rintro _ _ ku jN ⟨M1,rfl,Bg,mg,eg,Bf,mf,ef,rfl,hBG,hBF⟩;refine ⟨(λx _ h=>J1 (X:=[_,_,_,_,_]) (M:=M1) (Y:=L) h),?_⟩;simp only [iU,iV];refine kD 3 4 V ?_ ?_;.refine Jb Z Tt Z Z Z (wz _ _ d p Ag ng cg nf cf Pz Pz td) ?_;rintro _ _ kv jP ⟨rfl,bm,rfl,hM⟩;refine ⟨λ_ _ h=>h,?_⟩;refine iM 4 V<|kA Z Tt Z [_,_] Y2 λβ12 kc jL=>iM 6 V<|Wu Z Tt 0 [_,_] Y9 (sM (lq (kP (pG))))<|iM 7 V<|Wu Z Tt 1 [_,_,_] Y9 (sM (lq (kP (pG))))<|jq V ?_;refine jd (jV.mk (β12,β9,M1,.slice Bg mg eg,.slice Bf mf ef,bm) [] Lc (.c2 Z Z sk) (List.Perm.trans (List.Perm.trans (jJ _ 1) (jJ _ 1)) (.cons _ (.cons _ (aO [_,_,_,_] M1 L)))) ⟨⟨_,_,_,Z,hBG.le Lc⟩,⟨_,_,_,Z,hBF.le Lc⟩,hM.le jL⟩)
   refine kA Z Tt Z [_,_] Y2 λβ11 kv jP=>iM 3 V<|Jb Z Tt Z Z Z (wz _ _ d p Ag ng cg nf cf Pz Pz td) ?_;rintro _ _ kc jL ⟨rfl,bm,rfl,hM⟩;refine ⟨λ_ _ h=>h,?_⟩;refine X9 ?_;refine jd (jV.mk (β11,β9,M1,.slice Bg mg eg,.slice Bf mf ef,bm) [] Lc (.c2 Z Z sk) (List.Perm.trans (List.Perm.trans (jJ _ 1) (jJ _ 1)) (.cons _ (.cons _ (aO [_,_,_,_] M1 L)))) ⟨⟨_,_,_,Z,hBG.le Lc⟩,⟨_,_,_,Z,hBF.le Lc⟩,hM.le (Lr D)⟩)
  refine kA Z Tt Z [_,_] Y2 λβ10 ku jN=>iM 1 V<|Jb Z Tt Z Z Z (AC.mid [_,_,_,_,_,_] [] L (FG _ _ d p Ag _ ng cg nf cf Pz Pz hV)) ?_;rintro _ _ kv jP ⟨M1,rfl,Bg,mg,eg,Bf,mf,ef,rfl,hBG,hBF⟩;refine ⟨(λx _ h=>J1 (X:=[_,_,_,_,_,_]) (M:=M1) (Y:=L) h),?_⟩;simp only [iU,iV];refine iM 3 V<|Jb Z Tt Z Z Z (wz _ _ d p Ag ng cg nf cf Pz Pz td) ?_;rintro _ _ kc jL ⟨rfl,bm,rfl,hM⟩;refine ⟨λ_ _ h=>h,?_⟩;refine X9 ?_;refine jd (jV.mk (β10,β9,M1,.slice Bg mg eg,.slice Bf mf ef,bm) [] Lc (.c2 Z Z sk) (List.Perm.trans (List.Perm.trans (jJ _ 1) (jJ _ 1)) (.cons _ (.cons _ (aO [_,_,_,_] M1 L)))) ⟨⟨_,_,_,Z,hBG.le jL⟩,⟨_,_,_,Z,hBF.le jL⟩,hM.le (Lr D)⟩)
 intro g s7 h7 I7;simp only [iU,iV];obtain ⟨b5,b6,M1,v1,v2,bm⟩:=g;obtain ⟨⟨Bg,mg,eg,q1,hBG⟩,⟨Bf,mf,ef,q2,css,Ms0,mG,wu,hA0⟩,hM⟩:=I7;simp only at q1 q2 hBG wu hM hA0 mG;subst q1 q2;dsimp only;have yS:mf=nf:=by rw [wu.1,hA0.len.2];exact oB.symm
 obtain rfl:nf=mf:=yS.symm;have hcf1:=wu.2.1;have hcf2:=wu.2.2.1;refine EP (.cons _ (.cons _ (aO M1 [_,_,_,_] L))) ?_;simp only [iU,iV];refine lF ?_;refine lw (γ:=Nat×Hl) (λg=>[(1,_),(2,_),(3,_),(5,_),(6,_),(22,_),(23,iJ (g.1:Int))]) (λg=>_::_::_::_::_::_::(g.2++L)) (λg tw=>Le D s7 tw/\(g.1<=nf/\∃ Ms,g.2=List.flatten Ms/\kV (FO d tw) Ms ((p.funcs.take g.1).map (Qe p)++p.funcs.drop g.1) css)) (λg=>nf - g.1) (λ_ _ _ h hl=>⟨h.1.trans hl,⟨h.2.1,by obtain ⟨Ms,q2,q3⟩:=h.2.2;exact ⟨Ms,q2,q3.mono λ_ _ _ k=>k.le hl⟩⟩⟩) (0,M1) (.c6 Z Z Z Z Z Z (.cons Z (.nil _))) Z ⟨Le.refl _,⟨aB _,Ms0,mG,by simpa using hA0.mono λ_ _ _ k=>k.le (Lr D)⟩⟩ ?_;intro g kY I13;obtain ⟨k,Fo⟩:=g;obtain ⟨kh,Ms,hF,mI⟩:=I13.2;simp only at kh hF mI;dsimp only;refine J6 ?_ ?_<;>intro rO
 .have hk:k < nf:=by omega
  obtain ⟨b,off,x,B1,m1,d1,B2,m2,d2,B3,m3,d3,rfl,hx,hcx,od,oc,rE,kK⟩:=ju.at_ Pz hk;have xV:=rD x (ay hx);obtain ⟨vP,u,vQ,vR,v,yx,tZ,w0,vS,rfl,hvv,tg,xu,hxw,tK,lG⟩:=mI.at_ (k:=k) Q27;obtain ⟨hvs1,vp,hvs2⟩:=SP hvv xu hx;obtain rfl:x=v:=vp.symm;obtain ⟨C1,r1,e1,C2,r2,e2,C3,r3,e3,ut,yV,uu,hxB,_⟩:=hxw;have hw:css[k]?=some w0:=by
    have:=tK.len;rw [tg,aY O,show k - tZ.length=0 by omega];rfl
  obtain ⟨b9,off9,rfl,hcr⟩:=wu.at_ hw;rw [ut] at hcr;obtain ⟨F1,hF1⟩:∃ F,F=vP.flatten:=⟨_,rfl⟩;obtain ⟨F2,mP⟩:∃ F,F=vQ.flatten:=⟨_,rfl⟩;have hFF:Fo=F1++(u++F2):=by rw [hF,hF1,mP];simp
  subst hFF;rw [show (F1++(u++F2))++L=F1++(u++(F2++L)) from by simp only [an]];refine lF ?_;refine mh jF 14 Z 6 λlJ lr=>za 0 Z (jh 1 [_,_,_] Y5) Z<|H1 ?_;refine za 2 Z (Wd 5 Y5) Z<|H1 ?_;refine za 4 Z (jR Y6 hk) Z<|za 5 Z (kq Y3 Pz Z) Z<|za 6 Z (jC [(_,_),(_,_)] [_,_,_,_,_,_,_] Y3 Z Z Z) Z<|H3 ?_;refine za 10 Z (jR Y6 hk) Z<|H1 ?_;refine za 12 Z (nh 3 Y3 Pz Z) Z<|iM 13 V ?_;refine Jb Z Tt Z Z Z (AC.mid (_::_::_::_::_::_::F1) u (F2++L) (fds d _ _ bm Ag _ ng cg nf cf p Pz Pz x B1 B2 B3 m1 d1 m2 d2 m3 d3 Pz Pz u C3 r3 e3 x.body 1 (hxB.le lr) xV.2.2.2.2.1)) ?_;rintro _ _ qW qD ⟨u2,rfl,rfl,oE⟩;refine ⟨(λx hx _=>qJc hx),?_⟩;simp only [ao];rw [show F1++(u2++(F2++L))=(F1++(u2++F2))++L from by simp only [an]];refine jq V<|Zb<|Zt<|Zr<|ki Y3 (jB O O)<|G2 ?_;refine jd ⟨(k+1,F1++(u2++F2)),[],kp,Z,⟨Lc,⟨by simp only;omega,vP++u2::vQ,by simp [hF1,mP],by simp only;rw [Nf hx,<- hvs1,<- hvs2,tg];exact (tK.mono λ_ _ _ k=>k.le Lc).app (.cons ⟨C1,r1,e1,C2,r2,e2,C3,r3,e3,ut,yV.le Lc,uu.le Lc,oE.le (Lr D),kK⟩ (lG.mono λ_ _ _ k=>k.le Lc))⟩⟩,Oz⟩
 obtain rfl:nf=k:=by omega
 rw [aI O,aK O,aE] at mI;refine G7 ?_;refine tO [_,_,_,_,_,_] Fo ?_;intro lJ lr hpub15;simp only [iU,iV];have hFN:ju d lJ Bf nf ef (p.funcs.map (Qe p)):=Ci.pub ⟨css,Ms,hF,wu.le Lc,mI.mono λ_ _ _ k=>k.le lr⟩ hpub15;refine Zr<|iI (jh 0 [_,_] Y5) Z<|Je Y3 (Ye _ Pz d (Gl p) Bg Bf mg eg nf ef Pz Pz) λqW qD=>jp Z [_,_] Y2 λβ17 tE qR=>Wt 0 [_,_] Y9<|Nt<|Sr<|iI (jh 0 [_,_] Y5) Z<|iI (jC [] [_,_] Y3 Z Z Z) Z<|iI (sL Z Z (rq)) Z<|G2 ?_;refine lD Z ?_ ?_<;>intro xN;.have hE:zj p=(⟨[],[]⟩,qV (Gl p)):=(am vg).trans (aw (λh=>xN (by rw [qrO h];exact ⟨rfl,rfl⟩)));refine Zs<|pm jF 4 Z [5,4] Q3 λym uh=>za 0 Z (jC [] [_,_] Y3 Z Z Z) Z<|za 1 Z (jh 0 [_,_] Y5) Z<|iM 2 V<|Wu Z Tt 5 [_,_] Y9 (sM (kP (lq (mT (jT)))))<|iM 3 V<|Wu Z Tt 4 [_,_] Y9 (sM (kP (lq (mT (jT)))))<|jq V<|G3 ?_;exact rR [_,_,_,_,_,_,_] L (.agg (us:=[_,_]) 5 Z Z Z Z Z (.agg (us:=[_,_]) 4 Z Z Z Z Z (.nil))) Z Lc λ_ iL=>G0
 have g45:=xN;have hE:zj p=(Gl p,(0,0)):=(am vg).trans (am (λh=>h g45.1));refine Zk<|Zt<|Sr<|iI (jh 1 [_,_] Y5) Z<|iI (jC [] [_,_] Y3 Z Z Z) Z<|Wt 5 [_,_] Y9<|Wt 4 [_,_] Y9<|G3 ?_;refine rR [_,_,_,_,_,_,_] L (.agg (us:=[_,_]) 5 Z Z Z Z Z (.agg (us:=[_,_]) 4 Z Z Z Z Z (.nil))) Z Lc λ_ iL=>?_;rw [hE];exact ⟨rfl,_,_,_,_,_,_,rfl,λs2 kb=>⟨hBG.le Lc,hFN.le Lc⟩⟩
def qAx(hG:GP s)(d:Nat)(p:ja)(jQ:jn s Ag ng cg p.o)(j8:ju d s Af nf cf p.funcs):Ap9 D 18 [.agg #[.slice Ag ng cg,.slice Af nf cf]] L s λv L' s'=>L=L'/\∃ Bg mg eg Bf mf ef,v=.tuple #[.agg #[.slice Bg mg eg,.slice Bf mf ef],.agg #[iJ (zj p).2.1,iJ (zj p).2.2]]/\jn s' Bg mg eg (zj p).1.o/\ju d s' Bf mf ef (zj p).1.funcs:=(qt4 L s hG d p Ag Af ng cg nf cf jQ j8).mono λv L' s' _ ⟨h1,Bg,mg,eg,Bf,mf,ef,h2,h3⟩=>⟨h1,Bg,mg,eg,Bf,mf,ef,h2,h3 _ (Le.refl _)⟩
end
section
variable(L:Hl)(s:World)
def qp3{p:ja}:∀ {l:List iT} {i:Nat},(∀ x∈l,∀ nd∈lI x.body 0,j7 p x nd=0)->zr p l i=(0,0)
 | [],_,_=>rfl
 | x::r,i,h=>by
  have hb:∀ {l:List Nd},(∀ nd∈l,j7 p x nd=0)->tA p x l=0:=by
   intro l;induction l with
   | nil=>intro _;rfl
   | cons n r ih=>intro h;rw [tA,aw (h n Mc)];exact ih λnd hm=>h nd (aq _ hm)
  rw [zr,aw (hb (h x Mc))];exact qp3 λy hy=>h y (aq _ hy)
def qz3(h1:qV p=(0,0))(h2:pK p=(0,0))(h3:∀ x∈p.funcs,∀ nd∈lI x.body 0,j7 p x nd=0):kU p=(0,0):=by
 rw [kU,h1,am (by simp),h2,am (by simp)];exact qp3 h3
def RY(h:((kW p).find? λe=>decide (e.1=nm))=some e):(∃ (i:Nat) (g:jM),p.o[i]?=some g/\g.name=nm/\e.2=((3:Int),(i:Int)))\/∃ (i:Nat) (f:iT),p.funcs[i]?=some f/\f.name=nm/\e.2=((4:Int),(i:Int)):=by
  have hn:e.1=nm:=by simpa using List.find?_some h
  have hm:=cM h;rw [kW,aU] at hm;rcases hm with hm|hm
  . obtain ⟨i,hi⟩:=bC hm
    rw [du] at hi;cases hg:p.o[i]? with
    | none=>rw [hg] at hi;cases hi
    | some g=>rw [hg] at hi;simp at hi;subst hi;exact .inl ⟨i,g,hg,hn,rfl⟩
  . obtain ⟨i,hi⟩:=bC hm
    rw [du] at hi;cases hg:p.funcs[i]? with
    | none=>rw [hg] at hi;cases hi
    | some g=>rw [hg] at hi;simp at hi;subst hi;exact .inr ⟨i,g,hg,hn,rfl⟩
def qsz{x:iT}{u:En}(h:pF p x u=0)(hu:u.2.1≠0):(kR p x u.1).2=true/\zo (Bz p (kR p x u.1).1.2) u.2.1 (kR p x u.1).1.1/\¬ (u.2.1=4/\u.2.2≠(Mz p (kR p x u.1).1.2:Int)):=by
 unfold pF at h;rw [am hu] at h;split at h
 . cases h
 rename_i h1;split at h
 . cases h
 rename_i h2;split at h
 . cases h
 rename_i h3;exact ⟨by simpa using h1,gC.1 h2,h3⟩
def quw{x:iT}{nd:Nd}(h:j7 p x nd=0):pF p x nd.use=0/\∀ q:ja,pF q x nd.use=0->j7 q x nd=0:=by
 cases nd with
 | ex y lp=>exact ⟨h,λq hq=>hq⟩
 | st y lp=>
  rw [j7] at h;split at h
  . cases h
  rename_i h1;exact ⟨h,λq hq=>by rw [j7,am h1];exact hq⟩
def x_{m:Int×Int}{c:Int}(h1:m.1=c)(h2:m.2=(k:Int)):m=(c,(k:Int)):=Prod.ext h1 h2
def qoW(h:pK p=(0,0)):∃ (mi:Nat) (x:iT),qg p.funcs=(mi:Int)/\p.funcs[mi]?=some x/\x.name=jy/\x.params=[]:=by
 obtain ⟨mi,x,h1,h2,_⟩:=qrf h;obtain ⟨_,y,hy,hq⟩:=RM (show kM (λx:iT=>decide (x.name=jy)) p.funcs 0=(mi:Int) from h1);rw [gR,h2] at hy;obtain rfl:x=y:=by simpa using hy
 refine ⟨mi,x,h1,h2,by simpa using hq,?_⟩;rw [pK] at h;split at h
 . rename_i h3;rw [h] at h3;exact absurd rfl h3
 split at h
 . rename_i h3;rw [h] at h3;exact absurd rfl h3
 rw [am O,h1,aH,h2] at h;simp only at h;split at h
 . assumption
 . cases h
attribute [local irreducible] JC JO JA JB lZ mF mM AC fill iH QE Ev mq
def Dj(d:Nat)(s:World):j9 d s none 0 0 []:=⟨rfl,aC _,by omega,λi x h=>by cases h⟩
def JP(d:Nat)(s:World):jz d s none 0 0 []:=⟨rfl,aC _,by omega,λi x h=>by cases h⟩
def FV(s:World):iW s none 0 0 []:=⟨rfl,aC _,by omega,λi x h=>by cases h⟩
def qC0(s:World):lV s none 0 0 []:=⟨rfl,aC _,by omega,λi x h=>by cases h⟩
def Mu:Ex:=.mk 5 0 0 [] []
def nX:Ex:=.mk 2 0 0 [110] []
def Jh:Ex:=.mk 7 4 0 [] [nX,.mk 1 0 2 [] []]
def QZ:Ex:=.mk 7 10 0 [] [Mu,Jh]
def Jp:Ex:=.mk 7 10 0 [] [Mu,.mk 1 0 6 [] []]
def nG:ja:=⟨ko.o,ko.funcs++[⟨[102],[],[],[]⟩]⟩
def l0:iT:=⟨jy,[],[],[.mk 7 [] [QZ] [] []]⟩
def zT{s:World}{k n:Int}{m:Nat}{l:List Ex}(h:j9 d s A m c l)(hn:iY n)(hl:nm.length<=1000):([iJ k,iJ o,iO n,St nm,.slice A m c]:LVal9).length=5/\yz (d+1) s (.mk k o n nm l) [iJ k,iJ o,iO n,St nm,.slice A m c]:=⟨rfl,A,m,c,rfl,h,hn,show nm.length<=9223372036854775807 by omega⟩
def qvb{s:World}{b3 b4 b5 b6:Nat}(h1:iH s b1 0 [iJ 2,iJ 0,iO 0,St [110],.slice none 0 0,iJ 1,iJ 0,iO 2,St [],.slice none 0 0])
  (h2:iH s b2 0 [iJ 5,iJ 0,iO 0,St [],.slice none 0 0,iJ 7,iJ 4,iO 0,St [],.slice (j6 b1) 2 2])
  (h3:iH s b3 0 [iJ 1,St [110],iO 3,.slice none 0 0]) (h4:iH s b4 0 [iJ 7,iJ 10,iO 0,St [],.slice (j6 b2) 2 2])
  (h5:iH s b5 0 [iJ 7,St [],.slice (j6 b4) 1 1,.slice none 0 0,.slice none 0 0]) (h6:iH s b6 0 [St jy,.slice none 0 0,.slice none 0 0,.slice (j6 b5) 1 1]) :
  jn s (j6 b3) 1 1 ko.o/\ju 5 s (j6 b6) 1 1 ko.funcs:=by
 have z:iY 0:=⟨by decide,by decide⟩;have e1:j9 2 s (j6 b1) 2 2 [nX,.mk 1 0 2 [] []]:=Sl.lit [[_,_,_,_,_],[_,_,_,_,_]] h1 rfl (.cons (zT (Dj 1 s) z Dc) (.cons (zT (Dj 1 s) ⟨by decide,by decide⟩ Dc) .nil)) 2 rfl O;have e2:j9 3 s (j6 b2) 2 2 [Mu,Jh]:=Sl.lit [[_,_,_,_,_],[_,_,_,_,_]] h2 rfl (.cons (zT (Dj 2 s) z Dc) (.cons (zT e1 z Dc) .nil)) 2 rfl O;have e3:j9 4 s (j6 b4) 1 1 [QZ]:=Sl.lit [[_,_,_,_,_]] h4 rfl (.cons (zT e2 z Dc) .nil) 1 rfl O;have e4:jz 5 s (j6 b5) 1 1 [.mk 7 [] [QZ] [] []]:=Sl.lit [[_,_,_,_,_]] h5 rfl (.cons ⟨rfl,_,_,_,_,_,_,_,_,_,rfl,e3,JP 4 s,JP 4 s,by decide⟩ .nil) 1 rfl O;exact ⟨Sl.lit [[_,_,_,_]] h3 rfl (.cons ⟨rfl,_,_,_,rfl,qC0 s,⟨by decide,by decide⟩,by decide⟩ .nil) 1 rfl O,
  Sl.lit [[_,_,_,_]] h6 rfl (.cons ⟨rfl,_,_,_,_,_,_,_,_,_,rfl,FV s,FV s,e4,by decide⟩ .nil) 1 rfl O⟩
def qBP{s:World}(h1:iH s b1 0 [iJ 5,iJ 0,iO 0,St [],.slice none 0 0,iJ 1,iJ 0,iO 6,St [],.slice none 0 0])(h2:iH s b2 0 [iJ 7,iJ 10,iO 0,St [],.slice (j6 b1) 2 2]):j9 3 s (j6 b2) 1 1 [Jp]:=by
 have e1:j9 2 s (j6 b1) 2 2 [Mu,.mk 1 0 6 [] []]:=Sl.lit [[_,_,_,_,_],[_,_,_,_,_]] h1 rfl (.cons (zT (Dj 1 s) ⟨by decide,by decide⟩ Dc) (.cons (zT (Dj 1 s) ⟨by decide,by decide⟩ Dc) .nil)) 2 rfl O;exact Sl.lit [[_,_,_,_,_]] h2 rfl (.cons (zT e1 ⟨by decide,by decide⟩ Dc) .nil) 1 rfl O
def qsa{s:World}{g:Nat}{n1 c1 n2 c2 n3 c3:Nat}(h:iH s g 0 [St jy,.slice A1 n1 c1,.slice A2 n2 c2,.slice A3 n3 c3,St [102],.slice none 0 0,.slice none 0 0,.slice none 0 0])(h1:iW s A1 n1 c1 [])(h2:iW s A2 n2 c2 [])(h3:jz 5 s A3 n3 c3 l0.body)(hc:2<=c)(oR:c<=9223372036854775807):ju 5 s (j6 g) 2 c nG.funcs:=by
 have:=(Sl.lit (sz:=4) (R:=Fm 5) (l:=nG.funcs) [[_,_,_,_],[_,_,_,_]] h rfl (.cons ⟨rfl,_,_,_,_,_,_,_,_,_,rfl,h1,h2,h3,by decide⟩ (.cons ⟨rfl,_,_,_,_,_,_,_,_,_,rfl,FV s,FV s,JP 5 s,by decide⟩ .nil)) 2 rfl O);exact ⟨this.1,hc,oR,this.2.2.2⟩
def Rc:kU ko=(0,0):=by decide +kernel
def Xm:kU nG=(0,0):=by decide +kernel
def Re:yk ko 0 [110]=((3,0),(0,0)):=by decide +kernel
def Ud:Ge ko=[l0]:=am (by rw [Rc];decide)
def qJr:sf ko l0 4=[]:=by
 refine List.eq_nil_iff_forall_not_mem.2 λi hi=>?_;obtain ⟨nd,h1,h2⟩:=((JJ ko l0 4).2 i).1 hi;have:∀ nd∈lI l0.body 0,tn ko l0 4 nd=[]:=by decide +kernel
 rw [this nd h1] at h2;cases h2
def Ue:(zj ko).2=(0,0):=by decide +kernel
def qJp:(zj ko).1.funcs=[⟨jy,[],[],[.mk 7 [] [Jp] [] []]⟩]:=by kernel_rfl
def Fe:(mW 11 2).1=0/\(mW 11 2).2=0/\nI 11 1 2=4294967295:=by decide +kernel
def Ug:(mW 6 0).1=26/\(mW 6 0).2=-3:=by decide +kernel
def Uf(h:T6 nG q):q=ko:=by
 rcases h with ⟨h1,_⟩|⟨_,F,G,⟨hF,hG,mi,hm,hmi,hj,hg⟩,rfl⟩
 . rw [Xm] at h1;exact absurd rfl h1
 have h0:qg nG.funcs=0:=by decide +kernel
 obtain rfl:0=mi:=by omega
 obtain ⟨a,b,rfl⟩:∃ a b,F=[a,b]:=by match F,hF with|[a,b],_=>exact ⟨a,b,rfl⟩
 obtain ⟨c,rfl⟩:∃ c,G=[c]:=by match G,hG with|[c],_=>exact ⟨c,rfl⟩
 have ha:a=true:=by simpa using (hj 0).2 (.refl 0)
 have hb:b=false:=by
  cases hb:b with
  | false=>rfl
  | true=>
   have:=(hj 1).1 (by rw [hb];rfl);cases this with
   | step hc _=>
    obtain ⟨x,hx,hk⟩:=hc;obtain ⟨nd,h1,h2⟩:=((JJ nG x 4).2 _).1 hk;obtain rfl:l0=x:=cD hx;have:∀ nd∈lI l0.body 0,tn nG l0 4 nd=[]:=by decide +kernel
    rw [this nd h1] at h2;cases h2
 have hc:c=true:=by
  have:∃ nd∈lI l0.body 0,(0:Int)∈tn nG l0 3 nd:=by decide +kernel
  simpa using (hg 0).2 ⟨0,by rw [ha];rfl,l0,rfl,((JJ nG l0 3).2 _).2 this⟩
 subst ha hb hc;rfl
def qAy{s:World}(h:ju 5 s A n c [⟨jy,[],[],[.mk 7 [] [Jp] [] []]⟩]):n=1/\∃ b off A1 n1 c1 A2 n2 c2 b2 o2 c3,A=some ⟨b,off,none⟩/\iH s b (off+0 * 4) [St jy,.slice A1 n1 c1,.slice A2 n2 c2,.slice (some ⟨b2,o2,none⟩) 1 c3] /\
  ∃ A4 n4 c4 A5 n5 c5 A6 n6 c6,iH s b2 (o2+0 * 5) [iJ 7,St [],.slice A4 n4 c4,.slice A5 n5 c5,.slice A6 n6 c6]/\j9 4 s A4 n4 c4 [Jp]:=by
 have hn:n=1:=h.1;subst hn;obtain ⟨b,off,x,A1,n1,c1,A2,n2,c2,A3,n3,c3,rfl,hx,hc,_,_,hB,_⟩:=ju.at_ h (show 0 < 1 by decide);obtain rfl:=cD hx;have xW:n3=1:=hB.1;subst xW;obtain ⟨e,b2,o2,y,A4,n4,c4,A5,n5,c5,A6,n6,c6,he,rfl,hy,oR,hE,_,_,_⟩:=jz.at_ hB (show 0 < 1 by decide);obtain rfl:=cD hy;obtain rfl:4=e:=by omega
 exact ⟨rfl,b,off,A1,n1,c1,A2,n2,c2,b2,o2,c3,rfl,hc,A4,n4,c4,A5,n5,c5,A6,n6,c6,oR,hE⟩
def Dn(n:Int):AV9 D 10 [iO n] L s (.agg #[iJ 1,iJ 0,iO n,St [],.slice none 0 0]):=by
 refine jv (fn:=f10) jl func10 V Z ntmps10 Z (rs:=[.cell 2 34]) Z [(0,_)] Z<|Sr<|jp Z [_,_,_,_,_] Y2 λβ1 s1 h1=>G5 ?_;refine iI (jC [(_,_),(_,_)] [_,_,_,_,_] Y3 Z Z Z) Z<|Wt 0 [_,_,_,_,_] Y9<|G3 ?_;exact rR [_] L (.agg (us:=[_,_,_,_,_]) 0 Z Z Z Z Z (.nil)) Z h1 λ_ iL=>ry
def qr9:AN9 D 23 [] L s λv M' s'=>∀ s2,Le D s' s2->mz M' s2->∃ bg bf,v=.agg #[.slice (j6 bg) 1 1,.slice (j6 bf) 1 1]/\jn s2 (j6 bg) 1 1 ko.o/\ju 5 s2 (j6 bf) 1 1 ko.funcs:=by
 refine jv (fn:=f23) jl func23 V Z ntmps23 Z (rs:=[.cell 0 45]) Z [] Z<|Sr<|jp Z [_,_] Y2 λβ1 s1 h1=>Nt<|Sr<|iI (jC [(_,_),(_,_)] [_,_,_,_,_] Y3 Z Z Z) Z<|Je Y3 (Dn _ _ 2) λs2 h2=>kF [(_,_),(_,_)] [_,_,_,_,_,_,_,_,_,_] Y9 λβa s3 h3 uj=>iI (jC [(_,_),(_,_),(_,_)] [_,_,_,_,_] Y3 Z Z Z) Z<|jp Z [_,_,_,_,_] Y2 λβ4 s4 h4=>Wt 0 [_,_,_,_,_] Y9<|Nt<|Sr<|iI (jC [(_,_)] [_,_,_,_,_] Y3 Z Z Z) Z<|iI (jh 0 [_,_,_,_,_] Y5) Z<|kF [(_,_),(_,_)] [_,_,_,_,_,_,_,_,_,_] Y9 λβb s5 h5 pf=>iI (jC [(_,_),(_,_),(_,_)] [_,_,_,_,_] Y3 Z Z Z) Z<|jp Z [_,_,_,_,_] Y2 λβ6 s6 h6=>Wt 0 [_,_,_,_,_] Y9<|Nt<|Sr<|iI (jC [(_,_),(_,_),(_,_)] [_,_,_,_] Y3 Z Z Z) Z<|kF [(_,_)] [_,_,_,_] Y9 λβc s7 h7 mv=>iI (jh 0 [_,_,_,_,_] Y5) Z<|kF [(_,_)] [_,_,_,_,_] Y9 λβd s8 h8 jo=>iI (jC [(_,_),(_,_)] [_,_,_,_,_] Y3 Z Z Z) Z<|kF [(_,_)] [_,_,_,_,_] Y9 λβe s9 h9 tL=>iI (jC [(_,_),(_,_)] [_,_,_,_] Y3 Z Z Z) Z<|kF [(_,_)] [_,_,_,_] Y9 λβf ku jN hcf=>iI (jC [(_,_),(_,_)] [_,_] Y3 Z Z Z) Z<|Wt 2 [_,_] Y9<|G3 ?_;exact rR [_,_,_] _ (.agg (us:=[_,_]) 2 Z Z Z Z Z (.nil)) Z Lc λ_ iL=>⟨[],rfl,λs2 kb hp=>⟨_,_,rfl,qvb Pz Pz Pz Pz Pz Pz⟩⟩
def EI:Ap9 D 23 [] L s λv L' s'=>L=L'/\∃ bg bf,v=.agg #[.slice (j6 bg) 1 1,.slice (j6 bf) 1 1]/\jn s' (j6 bg) 1 1 ko.o/\ju 5 s' (j6 bf) 1 1 ko.funcs:=AC.pubW (qr9 L s)
end
section
variable{α:Type}
structure MS where
 ah:LInt9
 ae:List LInt9
 frm:LInt9
 inp:iR
 left:Nat
 calls:Nat
 out:iR
inductive ER(α:Type) where
 | ok (a:α) (m:MS)
 | fin (m:MS) (st cd:Int)
 | out
def ER.and{β:Type}:ER α->(α->MS->ER β)->ER β
 | .ok a m,k=>k a m
 | .fin m st cd,_=>.fin m st cd
 | .out,_=>.out
structure Sem where
 e:iT->Ex->MS->ER Int
 c:Nat->LInt9->MS->ER Int
 t:iT->jb->MS->ER (Int×Int)
 w:iT->Ex->List jb->MS->ER (Int×Int)
def vI(m:MS):ER Unit:=if m.left=0 then .fin m 0 0 else .ok () { m with left:=m.left - 1 }
def ex0:Ex:=.mk 0 0 0 [] []
def lP(l:List Ex)(i:Nat):Ex:=l.getD i ex0
def ld(f:iT)(nm:iR):Int:=if 0<=kM (λy=>decide (nm=y)) f.params 0 then kM (λy=>decide (nm=y)) f.params 0 else if 0<=kM (λy=>decide (nm=y)) f.locals 0 then (f.params.length:Int)+kM (λy=>decide (nm=y)) f.locals 0 else -1
def nS(p:ja)(nm:iR):Int:=kM (λg=>decide (g.name=nm)) p.o 0
def uJ(p:ja)(nm:iR):Int:=kM (λg=>decide (g.name=nm)) p.funcs 0
def Vh:jM:=⟨0,[],0,[]⟩
def CH(p:ja)(f:iT)(nm:iR)(m:MS):Int:=
 if 0<=ld f nm then m.frm.getD (ld f nm).toNat 0
 else if (p.o.getD (nS p nm).toNat Vh).kind=1 then (p.o.getD (nS p nm).toNat Vh).num
 else m.ah.getD (nS p nm).toNat 0
def Aj(p:ja)(f:iT)(nm:iR)(v:Int)(m:MS):MS:=
 if 0<=ld f nm then { m with frm:=m.frm.set (ld f nm).toNat v } else { m with ah:=m.ah.set (nS p nm).toNat v }
def qf(E:Ex->MS->ER Int):List Ex->MS->ER LInt9
 | [],m=>.ok [] m
 | x::r,m=>(E x m).and λv m=>(qf E r m).and λvs m=>.ok (v::vs) m
def oN(T:jb->MS->ER (Int×Int)):List jb->MS->ER (Int×Int)
 | [],m=>.ok (0,0) m
 | x::r,m=>(T x m).and λy m=>if y.1=0 then oN T r m else .ok y m
def pE(n:Nat)(l:LInt9):LInt9:=l.take n++List.replicate (n - l.length) 0
def DH(m:MS):ER Int:=match m.inp with
 | []=>.ok 4294967295 m
 | c::r=>.ok (c.toNat:Int) { m with inp:=r }
section
variable(p:ja)(OP:Int->Int->Int->Option Int)
def pn(nm:iR)(m:MS):LInt9:=m.ae.getD (nS p nm).toNat []
def vX(S:Sem)(f:iT)(x:Ex)(m:MS):ER Int:=
 if x.kind=1 then .ok x.num m
 else if x.kind=2 then .ok (CH p f x.name m) m
 else if x.kind=3 then (S.e f (lP x.args 0) m).and λi m=>if ((pn p x.name m).length:Int)<=i then .fin m 1 1 else .ok ((pn p x.name m).getD i.toNat 0) m
 else if x.kind=4 then (qf (S.e f) x.args m).and λvs m=>S.c (uJ p x.name).toNat vs m
 else if x.kind=5 then DH m
 else if x.kind=6 then (S.e f (lP x.args 0) m).and λa m=>.ok ((OP x.op a 0).getD 0) m
 else (S.e f (lP x.args 0) m).and λa m=>if x.op=20/\a=0 then .ok 0 m else if x.op=21/\a≠0 then .ok 1 m
  else (S.e f (lP x.args 1) m).and λb m=>match OP x.op a b with|some v=>.ok v m|none=>.fin m 1 2
def sX(S:Sem)(f:iT)(x:jb)(m:MS):ER (Int×Int):=
 if x.kind=1 then (S.e f (lP x.exprs 0) m).and λv m=>.ok (0,0) (Aj p f x.name v m)
 else if x.kind=2 then (S.e f (lP x.exprs 0) m).and λi m=>if ((pn p x.name m).length:Int)<=i then .fin m 1 1
  else (S.e f (lP x.exprs 1) m).and λv m=>.ok (0,0) { m with ae:=m.ae.set (nS p x.name).toNat ((pn p x.name m).set i.toNat v) }
 else if x.kind=3 then (S.e f (lP x.exprs 0) m).and λv m=>if v≠0 then oN (S.t f) x.body m else oN (S.t f) x.els m
 else if x.kind=4 then S.w f (lP x.exprs 0) x.body m
 else if x.kind=5 then (qf (S.e f) x.exprs m).and λvs m=>(S.c (uJ p x.name).toNat vs m).and λ_ m=>.ok (0,0) m
 else if x.kind=6 then (S.e f (lP x.exprs 0) m).and λv m=>.ok (3,v) m
 else if x.kind=7 then (S.e f (lP x.exprs 0) m).and λv m=>if 20000<=m.out.length then .fin m 5 0 else .ok (0,0) { m with out:=m.out++[UInt8.ofNat v.toNat] }
 else if x.kind=8 then (S.e f (lP x.exprs 0) m).and λv m=>.fin m 1 v
 else if x.kind=9 then .ok (1,0) m
 else .ok (2,0) m
def wq:iT:=⟨[],[],[],[]⟩
def cX(S:Sem)(i:Nat)(vs:LInt9)(m:MS):ER Int:=
 if m.calls=100 then .fin m 1 3
 else (oN (S.t (p.funcs.getD i wq)) (p.funcs.getD i wq).body { m with frm:=pE ((p.funcs.getD i wq).params.length+(p.funcs.getD i wq).locals.length) vs,calls:=m.calls+1 }).and
  λy m1=>.ok (if y.1=3 then y.2 else 0) { m1 with frm:=m.frm,calls:=m.calls }
def wX(S:Sem)(f:iT)(c:Ex)(b:List jb)(m:MS):ER (Int×Int):=
 (S.e f c m).and λv m=>if v=0 then .ok (0,0) m else (oN (S.t f) b m).and λy m=>if y.1=1 then .ok (0,0) m else if y.1=3 then .ok y m else S.w f c b m
def jm:Nat->Sem
 | 0=>⟨λ_ _ _=>.out,λ_ _ _=>.out,λ_ _ _=>.out,λ_ _ _ _=>.out⟩
 | n+1=>⟨λf x m=>(vI m).and λ_ m=>vX p OP (jm n) f x m,λi vs m=>cX p (jm n) i vs m,λf x m=>(vI m).and λ_ m=>sX p (jm n) f x m,λf c b m=>wX (jm n) f c b m⟩
def uI(inp:iR)(kJ:Nat):MS:=⟨List.replicate p.o.length 0,p.o.map λg=>if g.kind=3 then pE g.num.toNat g.init else [],[],inp,kJ,0,[]⟩
def My(kJ:Nat):ER Int->iR×Int×Int×Nat
 | .ok _ m=>(m.out,1,0,kJ - m.left)
 | .fin m st cd=>(m.out,st,cd,kJ - m.left)
 | .out=>([],0,0,0)
def EA(n main:Nat)(inp:iR)(kJ:Nat):ER Int:=(jm p OP n).c main [] (uI p inp kJ)
end
-- what every part keeps: what was written stays, no step is given back
def L3(d:Nat)(m:MS):MS:={ m with left:=m.left+d }
def Aft(d:Nat)(m:MS):ER α->Prop
 | .ok _ m2=>m2.left<=d/\∃ w,m2.out=m.out++w
 | .fin m2 _ _=>m2.left<=d/\∃ w,m2.out=m.out++w
 | .out=>True
def Mo(d:Nat)(r r':ER α):Prop:=match r with
 | .out=>True
 | .ok a m=>r'=.out\/r'=.ok a (L3 d m)
 | .fin m st cd=>r'=.out\/(st≠0/\r'=.fin (L3 d m) st cd)\/(st=0/\m.left=0/\Aft d m r')
section
variable{OP:Int->Int->Int->Option Int}
def No(B:Nat)(r:ER α):Prop:=match r with
 | .out=>False
 | .ok _ m=>m.left<=B
 | .fin _ _ _=>True
def No.and{β:Type}{r:ER α}{k:α->MS->ER β}(h:No B r)(hk:∀ a m,m.left<=B->No C (k a m)):No C (r.and k):=by
 cases r with
 | out=>exact h.elim
 | ok a m=>exact hk a m h
 | fin m st cd=>trivial
def No.up{r:ER α}(h:No B r)(hB:B<=C):No C r:=by
 cases r with
 | out=>exact h.elim
 | ok a m=>exact dT h hB
 | fin m st cd=>trivial
def qx3{B:Nat}{E:Ex->MS->ER Int}(hE:∀ x m,m.left<=B->No m.left (E x m)):∀ (l:List Ex) (m:MS),m.left<=B->No m.left (qf E l m)
 | [],m,_=>by rw [qf];exact aC _
 | x::r,m,h=>by
  rw [qf];exact (hE x m h).and λv m1 h1=>(qx3 hE r m1 O).and λ_ m2 h2=>dT h2 h1
def qx4{B:Nat}{T:jb->MS->ER (Int×Int)}(hT:∀ x m,m.left<=B->No m.left (T x m)):∀ (l:List jb) (m:MS),m.left<=B->No m.left (oN T l m)
 | [],m,_=>by rw [oN];exact aC _
 | x::r,m,h=>by
  rw [oN];refine (hT x m h).and λy m1 h1=>?_;split
  . exact (qx4 hT r m1 O).up h1
  . exact h1
def Tv:∀ n,(∀ f x m,2 * m.left < n->No (m.left - 1) ((jm p OP n).e f x m))/\(∀ i vs m,2 * m.left+1 < n->No m.left ((jm p OP n).c i vs m))/\(∀ f x m,2 * m.left < n->No (m.left - 1) ((jm p OP n).t f x m))/\∀ f c b m,2 * m.left+1 < n->No m.left ((jm p OP n).w f c b m)
  | 0=>⟨λ_ _ _ h=>by omega,λ_ _ _ h=>by omega,λ_ _ _ h=>by omega,λ_ _ _ _ h=>by omega⟩
  | n+1=>by
    obtain ⟨hE,hC,hT,hW⟩:=Tv n;have zF:∀ f x m,2 * m.left < n->No m.left ((jm p OP n).e f x m):=λf x m h=>(hE f x m h).up O;have hA:∀ f (l:List Ex) (m:MS),2 * m.left < n->No m.left (qf ((jm p OP n).e f) l m):=λf l m h=>qx3 (B:=m.left) (λx m1 h1=>zF f x m1 O) l m (aC _);have hR:∀ f (l:List jb) (m:MS),2 * m.left < n->No m.left (oN ((jm p OP n).t f) l m):=λf l m h=>qx4 (B:=m.left) (λx m1 h1=>(hT f x m1 O).up O) l m (aC _);have hS:∀ m:MS,2 * m.left < n+1->∀ {α:Type} {k:Unit->MS->ER α},(∀ a m1,m1.left=m.left - 1->2 * m1.left+1 < n->No m1.left (k a m1))->No (m.left - 1) ((vI m).and k):=λm h α k hk=>by
      unfold vI;split
      . trivial
      . rename_i h0
        exact hk () { m with left:=m.left - 1 } rfl (by show 2 * (m.left - 1)+1 < n;omega)
    refine ⟨λf x m h=>hS m h λ_ m1 _ h1=>?_,λi vs m h=>?_,λf x m h=>hS m h λ_ m1 _ h1=>?_,λf c b m h=>?_⟩
    . clear h
      unfold vX;split
      . exact aC _
      split
      . exact aC _
      split
      . refine (zF _ _ _ O).and λi m h2=>?_
        split
        . trivial
        . exact h2
      split
      . exact (hA _ _ _ O).and λvs m h2=>(hC _ _ _ O).up h2
      split
      . unfold DH;split<;>exact aC _
      split
      . exact (zF _ _ _ O).and λa m h2=>h2
      . refine (zF _ _ _ O).and λa m h2=>?_
        split
        . exact h2
        split
        . exact h2
        . refine (zF _ _ _ O).and λb m h3=>?_
          split
          . exact dT h3 h2
          . trivial
    . show No m.left (cX p (jm p OP n) i vs m)
      unfold cX;split
      . trivial
      . exact (hR _ _ { m with frm:=pE ((p.funcs.getD i wq).params.length+(p.funcs.getD i wq).locals.length) vs,calls:=m.calls+1 } (by show 2 * m.left < n;omega)).and λy m1 h1=>h1
    . clear h
      unfold sX;split
      . refine (zF _ _ _ O).and λv m h2=>?_
        unfold Aj;split<;>exact h2
      split
      . refine (zF _ _ _ O).and λi m h2=>?_
        split
        . trivial
        . exact (zF _ _ _ O).and λv m h3=>dT h3 h2
      split
      . refine (zF _ _ _ O).and λv m h2=>?_
        split
        . exact (hR _ _ _ O).up h2
        . exact (hR _ _ _ O).up h2
      split
      . exact hW _ _ _ _ O
      split
      . exact (hA _ _ _ O).and λvs m h2=>(hC _ _ _ O).and λ_ m h3=>dT h3 h2
      split
      . exact (zF _ _ _ O).and λv m h2=>h2
      split
      . refine (zF _ _ _ O).and λv m h2=>?_
        split
        . trivial
        . exact h2
      split
      . exact (zF _ _ _ O).and λv m h2=>trivial
      split
      . exact aC _
      . exact aC _
    . show No m.left (wX (jm p OP n) f c b m)
      unfold wX;rcases eZ m.left with h0|h0
      .
        have:∀ v m1,(jm p OP n).e f c m=.ok v m1->False:=by
          intro v m1 he;cases n with
          | zero=>cases he
          | succ n=>
            have e:(jm p OP (n+1)).e f c m=.fin m 0 0:=by show (vI m).and _=_;rw [vI,aw h0];rfl
            rw [e] at he;cases he
        have hn:=hE f c m O;cases hr:(jm p OP n).e f c m with
        | out=>rw [hr] at hn;exact hn.elim
        | fin m1 st cd=>trivial
        | ok v m1=>exact (this v m1 hr).elim
      . refine (hE f c m O).and λv m1 h1=>?_
        split
        . show m1.left<=m.left;omega
        . refine (hR f b m1 O).and λy m2 h2=>?_
          split
          . show m2.left<=m.left;omega
          split
          . show m2.left<=m.left;omega
          . exact (hW f c b m2 O).up O
end
def jx(op x y:Int):Option Int:=if (mW op y).1=0 then some (nI op x y) else none
def Far(m:MS):ER α->Prop
 | .ok _ m2=>∃ w,m2.out=m.out++w
 | .fin m2 _ _=>∃ w,m2.out=m.out++w
 | .out=>True
def Fo(d:Nat)(r r':ER α):Prop:=match r with
 | .out=>True
 | .ok a m=>∃ e,d<=e/\r'=.ok a (L3 e m)
 | .fin m st cd=>(st≠0/\∃ e,d<=e/\r'=.fin (L3 e m) st cd)\/(st=0/\Far m r')
end
variable{S:Sem}{m:MS}
section
variable{R R':Value->Hl->World->Prop}{X X' Zq9:List PanicEntry->Hl->World->Prop}
section
variable{TT:kG}{fr:Fr}{L:Hl}{s0:World}{ops:Array Oper}{ty:Nat}{v:Value}{g:Option (Nat×Bool)}{iK:Array Bool}
def AP(P:Program)(D:Nat)(f:FuncId)(args:LVal9)(L:Hl)(s:World)(R:Value->Hl->World->Prop)(X:List PanicEntry->Hl->World->Prop):Prop:=
 sR P f/\(jX D L s->Calls P f args.toArray (fill L s) λe w'=>∃ L' s',w'=fill L' s'/\jX D L' s'/\Le D s s'/\((∃ v,e=.returned v/\R v L' s')\/∃ ch,e=.panicked ch/\X ch L' s'))
def AP.mono{f:FuncId}{args:LVal9}(h:AP P D f args L s R X)(hr:∀ v L' s',Le D s s'->R v L' s'->R' v L' s')(hx:∀ ch L' s',Le D s s'->X ch L' s'->X' ch L' s'):AP P D f args L s R' X':=
 ⟨h.1,λho=>(h.2 ho).mono λ_ _ ⟨L',s',h2,h3,h4,h5⟩=>⟨L',s',h2,h3,h4,h5.imp (λ⟨v,a,b⟩=>⟨v,a,hr _ _ _ h4 b⟩) λ⟨ch,a,b⟩=>⟨ch,a,hx _ _ _ h4 b⟩⟩⟩
def rH{f:FuncId}{first captured:LVal9}{R:Value->Hl->World->Prop}{X:List PanicEntry->Hl->World->Prop}(hY:(lk fr x=some (.func (.func f) first.toArray captured.toArray))/\tN fr xs=some vs/\Nat.blt d n=true) (h:AP P D f (first++vs++captured) L s R X) (kx:∀ ch L' s',Le D s s'->X ch L' s'->∀ jS,Q (.panic ch) jS L' s') (k:∀ v L' s',Le D s s'->R v L' s'->JO P TT D n ops Q iP ((d,v)::fr) L' s') :
  JO P TT D n ops Q (⟨some d,.call { callee:=.value x,args:=xs.toArray,argTypes:=ts },ty,iS,af,none⟩::iP) fr L s:=have ⟨hx,hv,hd⟩:=hY;λhT a hr ho=>by
 obtain ⟨⟨fn,h1,h2,h3⟩,hc⟩:=h;have hρ:∀ x v,lk fr x=some v->a.eval x=v:=λx v hx=>hr.ev hx;simp only [wpList,Region.wanted,bS];refine .inl ?_;have jO:(execOp a.eval ⟨some d,.call { callee:=.value x,args:=xs.toArray,argTypes:=ts },ty,iS,af,none⟩).run P (fill L s)=.ok (.enter f (first++vs++captured).toArray) (fill L s):=by
  exact E7
 simp only [Oper.wp,jO,Oper.upon];refine (hc ho).mono ?_;rintro e w' ⟨L',s',rfl,h4,h5,h6⟩;rcases h6 with ⟨v,rfl,h6⟩|⟨ch,rfl,h6⟩
 . exact k v L' s' h5 h6 hT _ (hr.put hd v) h4
 . exact ⟨fr,L',s',hr,h4,rfl,kx _ _ _ h5 h6 fr⟩
def zc{f:FuncId}{first captured:LVal9}{R:Value->Hl->World->Prop}{X:List PanicEntry->Hl->World->Prop}(hi:ops[i]?=some ⟨some d,.call { callee:=.value x,args:=xs.toArray,argTypes:=ts },ty,iS,af,g⟩)(hg:rz ops fr g)
    (hx:lk fr x=some (.func (.func f) first.toArray captured.toArray)) (hv:tN fr xs=some vs) (hd:Nat.blt d n=true) (h:AP P D f (first++vs++captured) L s R X) (kx:∀ ch L' s',Le D s s'->X ch L' s'->∀ jS,Q (.panic ch) jS L' s')
    (k:∀ v L' s',Le D s s'->R v L' s'->(∀ x∈K,x∈L->x∈L')/\JA P TT D n ops Q K s0 jr (iK.setIfInBounds i true) ((d,v)::fr) L' s') :
    JB P TT D n ops Q K s0 jr iK i fr L s:=λhT a hf ho hl hK=>by
  obtain ⟨⟨fn,h1,h2,h3⟩,hc⟩:=h;have hρ:∀ x v,lk fr x=some v->a.eval x=v:=λx v hx=>hf.ev hx;simp only [wpOp,hi,hg.wanted hf,bS];refine .inl ?_;have jO:(execOp a.eval ⟨some d,.call { callee:=.value x,args:=xs.toArray,argTypes:=ts },ty,iS,af,g⟩).run P (fill L s)=.ok (.enter f (first++vs++captured).toArray) (fill L s):=by
    exact E7
  simp only [Oper.wp,jO,Oper.upon];refine (hc ho).mono ?_;rintro e w' ⟨L',s',rfl,h4,h5,h6⟩;rcases h6 with ⟨v,rfl,h6⟩|⟨ch,rfl,h6⟩
  . obtain ⟨k1,k2⟩:=k v L' s' h5 h6
    exact Vz
  . exact ⟨hf.bare,L',s',h4,rfl,kx _ _ _ h5 h6⟩
def AP.mid{f:FuncId}{args:LVal9}(X M Y:Hl)(h:AP P D f args (M++(X++Y)) s (λv L' s'=>∃ M',L'=M'++(X++Y)/\R v M' s') λch L' s'=>∃ M',L'=M'++(X++Y)/\Zq9 ch M' s'):
  AP P D f args (X++(M++Y)) s (λv L' s'=>∃ M',L'=X++(M'++Y)/\R v M' s') λch L' s'=>∃ M',L'=X++(M'++Y)/\Zq9 ch M' s':=by
 have hp:∀ M':Hl,(X++(M'++Y)).Perm (M'++(X++Y)):=λM'=>by
  exact Ou
 refine ⟨h.1,λho=>?_⟩;rw [tr (hp M) _ ho];refine (h.2 (ho.perm (hp M))).mono ?_;rintro e w' ⟨L',s',rfl,h3,h4,h5⟩;rcases h5 with ⟨v,h1,M',rfl,h6⟩|⟨ch,h1,M',rfl,h6⟩
 . exact ⟨X++(M'++Y),s',(tr (hp M').symm _ h3),h3.perm (hp M').symm,h4,.inl ⟨v,h1,M',rfl,h6⟩⟩
 . exact ⟨X++(M'++Y),s',(tr (hp M').symm _ h3),h3.perm (hp M').symm,h4,.inr ⟨ch,h1,M',rfl,h6⟩⟩
def qpA{t:Nat}(hu:P.underlying t=some (.struct #[]))(hz:(P.info? t).bind (λi=>i.zero)=some (Value.agg #[])):QE P TT D fr (.build t #[]) ty K s0 (.agg #[]):=
 QE.pure λhT dst iS af g ρ hρ w=>by
  obtain ⟨i,h1,h2⟩:=gN.1 hz;simp [execOp,Instr.build,underlying,hu,zeroValue,typeInfo,h1,h2,Instr.fill,Value.cells]
def qxq{t:Nat}{v:Value}(hu:P.underlying t=some (.struct #[]))(hx:lk fr x=some v):QE P TT D fr (.makeInterface t x) ty K s0 (.iface t v):=
 QE.pure λhT dst iS af g ρ hρ w=>by simp [execOp,Instr.makeInterface,underlying,hu,hρ x _ hx]
def Y'{t:TypeId}{u:Value}(hx:lk fr x=some (.iface t u))(h:∀ jS,Q (.panic [{ v:=.iface t u,recovered:=false }]) jS L s):JO P TT D n ops Q (⟨dst,.panic x,ty,iS,af,none⟩::iP) fr L s:=λhT a hr ho=>by
 simp only [wpList,Region.wanted,bS];refine .inl ?_;have jO:(execOp a.eval ⟨dst,.panic x,ty,iS,af,none⟩).run P (fill L s)=.halt (.panic (.iface t u)) (fill L s):=by
  simp [execOp,hr.ev hx,run_panic_iface]
 simp only [Oper.wp,jO,Oper.upon];exact ⟨fr,L,s,hr,ho,rfl,h fr⟩
def Rb(TT:kG)(D:Nat)(rs:List ResultVar)(s0:World)(R:Value->Hl->World->Prop)(X:List PanicEntry->Hl->World->Prop):qd
 | .panic ch,_,L,s=>∃ A L',L.Perm (A++L')/\Le D s0 s/\∀ s',Le D s s'->X ch L' s'
 | e,fr,L,s=>mM TT D rs s0 R e fr L s
def oV{e:Exit}(A:Hl)(he:e=.normal\/e=.ret)(h:ql TT fr L rs vs)(hL:L=A++L')(hl:Le D s0 s)(hR:∀ s',Le D s s'->R (kB vs) L' s'):Rb TT D rs s0 R X e fr L s:=by
 rcases he with rfl|rfl
 . exact lC A L' (.inl rfl) h hL hl hR
 . exact lC A L' (.inr rfl) h hL hl hR
def sN(A:Hl)(hL:L.Perm (A++L'))(hl:Le D s0 s)(hX:∀ s',Le D s s'->X ch L' s'):Rb TT D rs s0 R X (.panic ch) fr L s:=⟨A,L',hL,hl,hX⟩
def sI{J:Fr->Hl->World->Prop}(h:Q (.panic ch) fr L s):lZ J Q (.panic ch) fr L s:=h
def sJ{id:Nat}(h:Q (.panic ch) fr L s):mF id Q (.panic ch) fr L s:=h
def qI{f:FuncId}{c:Code}{args:LVal9}{R:Value->Hl->World->Prop}{X:List PanicEntry->Hl->World->Prop}(hT:jZ P TT)(hf:P.funcs[f]?=some fn)(hn:(fn.name == "runtime.NumGoroutine")=false)(hb:fn.body=some c)(hnt:fn.ntmps=n)(ka:Nat.ble args.length n=true)(zM:fn.results.toList=rs)(xP:Fr)(ou:nj 0 args=xP)
  (h:JC P TT D n (Rb TT D rs s R X) c xP L s):AP P D f args L s R X:=by
 subst ou;subst zM;refine ⟨⟨fn,hf,hn,by simp [hb]⟩,λho=>calls_of_wp hf hb ?_⟩;have hle':args.length<=n:=bE ka;have hr:jE n { tmps:=args.toArray++Array.replicate (fn.ntmps - args.toArray.size) undef,defers:=[] } (nj 0 args):=by
  exact QO
 refine eU (h hT _ hr ho) ?_;rintro e a w ⟨jS,L1,s1,k1,k2,rfl,hq⟩;have good:∀ {e:Exit},mM TT D fn.results.toList s R e jS L1 s1->bodyPost P fn (λe w'=>∃ L' s',w'=fill L' s'/\jX D L' s'/\Le D s s'/\((∃ v,e=.returned v/\R v L' s')\/∃ ch,e=.panicked ch/\X ch L' s')) e a (fill L1 s1):=by
  rintro e ⟨he,vs,A,L',hres,rfl,hle1,hR⟩;obtain ⟨d1,d2,d3⟩:=sK k2;have jO:(results fn a.tmps).run P (fill (A++L') s1)=.ok (kB vs) (fill (A++L') s1):=by
   exact HN
  have hpost:∃ v,(results fn a.tmps).run P (fill (A++L') s1)=.ok v (fill (A++L') s1)/\∃ L'_1 s',fill (A++L') s1=fill L'_1 s'/\jX D L'_1 s'/\Le D s s'/\((∃ v_1,Ending.returned v=.returned v_1/\R v_1 L'_1 s')\/∃ ch,Ending.returned v=.panicked ch/\X ch L'_1 s'):=
   ⟨_,jO,L',fill A s1,d1,d2,hle1.trans d3,.inl ⟨_,rfl,hR _ d3⟩⟩
  rcases he with rfl|rfl
  . exact ⟨k1.defers,hpost⟩
  . exact ⟨k1.defers,hpost⟩
 cases e with
 | panic ch=>
  obtain ⟨A,L',hp,hle1,hX⟩:=hq;obtain ⟨d1,d2,d3⟩:=sK (k2.perm hp);rw [tr hp _ k2];exact ⟨k1.defers,L',fill A s1,d1,d2,hle1.trans d3,.inr ⟨ch,rfl,hX _ d3⟩⟩
 | _=>exact good hq
end
end
section
variable{l:LInt9}{i st:Int}{b:Nat}{Vq9 E:World->Ex->LVal9->Prop}{s':World}{w v iv:Value}{f:iT}{x:Ex}{α:Type}
def N7(h0:0<=i)(h:i < l.length):nth (wv l) (0+i.toNat)=some (iO (l.getD i.toNat 0)):=by
 have hl:i.toNat < l.length:=by omega
 rw [aZ,uU,aM];simp [wv,hl]
def Km{v:Int}(h0:0<=i)(h:i < l.length):oO (wv l) (0+i.toNat) [iO v]=wv (l.set i.toNat v):=by
 have hl:i.toNat < l.length:=by omega
 rw [aZ,Dd _ _ _ (by simp [wv];omega)];simp only [wv,gQ];rw [fc];simp [hl]
def Kh(h0:0<=i)(h:i < l.length):Nat.ble (0+i.toNat+1) (wv l).length=true:=by
 rw [gd];simp [wv];omega
def LD(h1:0<=a)(h2:a < 18446744073709551616):IntKind.u64.wrap a=a:=by simp [IntKind.wrap,IntKind.bits,IntKind.signed];omega
def u8w{x:Int}(h:iY x):IntKind.u8.wrap x=((UInt8.ofNat x.toNat).toNat:Int):=by
 obtain ⟨h1,h2⟩:=h;rw [IntKind.wrap_u8];simp [gf];omega
attribute [local irreducible] JC JO JA JB lZ mF mM AC fill iH QE Ev mq
def rL(p:ja)(Vq9:World->Ex->LVal9->Prop)(s:World)(nm:iR)(args:List Ex)(w:Value):Prop:=∃ be bi A n c k fk,w=.func (.func 150) #[] #[jc be,jc bi]/\iH s be 0 [.slice A n c]/\iH s bi 0 [iJ ((k:Nat):Int)]/\Sl 1 Vq9 s A n c args/\uJ p nm=(k:Int)/\p.funcs[k]?=some fk/\args.length=fk.params.length
inductive sW(p:ja)(f:iT)(Vq9:World->Ex->LVal9->Prop)(s:World)(x:Ex):Value->Prop
 | num (b:Nat) (A1:OAdr9) (n1 c1:Nat) (hk:x.kind=1) (hc:iH s b 0 [.int .i64 x.kind,.int .i64 x.op,.int .u32 x.num,St x.name,.slice A1 n1 c1]) (hu:iY x.num):sW p f Vq9 s x (.func (.func 185) #[] #[.pointer (some ⟨b,0,none⟩)])
 | slot (b:Nat) (hk:x.kind=2) (h0:0<=ld f x.name) (hl:ld f x.name < ((f.params.length+f.locals.length:Nat):Int)) (hc:iH s b 0 [.int .i64 (ld f x.name)]):sW p f Vq9 s x (.func (.func 230) #[] #[.pointer (some ⟨b,0,none⟩)])
 | con (b k:Nat) (g:jM) (A n c) (hk:x.kind=2) (hs:¬ 0<=ld f x.name) (hg:nS p x.name=(k:Int)) (hp:p.o[k]?=some g) (h1:g.kind=1) (hc:iH s b 0 [.int .i64 g.kind,St g.name,.int .u32 g.num,.slice A n c]) (hu:iY g.num):sW p f Vq9 s x (.func (.func 231) #[] #[.pointer (some ⟨b,0,none⟩)])
 | var (b k:Nat) (g:jM) (hk:x.kind=2) (hs:¬ 0<=ld f x.name) (hg:nS p x.name=(k:Int)) (hp:p.o[k]?=some g) (h1:¬ g.kind=1) (hc:iH s b 0 [.int .i64 (k:Int)]):sW p f Vq9 s x (.func (.func 232) #[] #[.pointer (some ⟨b,0,none⟩)])
 | idx (b1 b2 k:Nat) (g:jM) (A n c) (hk:x.kind=3) (hg:nS p x.name=(k:Int)) (hp:p.o[k]?=some g) (h3:g.kind=3) (h1:iH s b1 0 [.int .i64 (k:Int)]) (h2:iH s b2 0 [.slice A n c]) (hA:Sl 1 Vq9 s A n c x.args) (hn:0 < n):sW p f Vq9 s x (.func (.func 187) #[] #[.pointer (some ⟨b1,0,none⟩),.pointer (some ⟨b2,0,none⟩)])
 | call (w:Value) (hk:x.kind=4) (h:rL p Vq9 s x.name x.args w):sW p f Vq9 s x w
 | get (hk:x.kind=5):sW p f Vq9 s x (.func (.func 188) #[] #[])
 | una (b1 b2:Nat) (A1:OAdr9) (n1 c1:Nat) (A n c) (hk:x.kind=6) (h1:iH s b1 0 [.int .i64 x.kind,.int .i64 x.op,.int .u32 x.num,St x.name,.slice A1 n1 c1]) (h2:iH s b2 0 [.slice A n c]) (hA:Sl 1 Vq9 s A n c x.args) (hn:0 < n):sW p f Vq9 s x (.func (.func 189) #[] #[.pointer (some ⟨b1,0,none⟩),.pointer (some ⟨b2,0,none⟩)])
 | bin (b1 b2 b3:Nat) (v1 v2:Value) (hk:x.kind=7) (h1:iH s b1 0 [v1]) (h2:iH s b2 0 [.int .i64 x.op]) (h3:iH s b3 0 [v2]) (xj:Vq9 s (lP x.args 0) [v1]) (uR:Vq9 s (lP x.args 1) [v2]) (ho:4<=x.op/\x.op<=21):sW p f Vq9 s x (.func (.func 233) #[] #[.pointer (some ⟨b1,0,none⟩),.pointer (some ⟨b2,0,none⟩),.pointer (some ⟨b3,0,none⟩)])
def lU(p:ja)(f:iT):Nat->World->Ex->LVal9->Prop
 | 0,_,_,_=>False
 | d+1,s,x,cs=>∃ b w,cs=[.func (.func 143) #[] #[jc b]]/\iH s b 0 [w]/\sW p f (lU p f d) s x w
inductive sC(p:ja)(f:iT)(E:World->Ex->LVal9->Prop)(Vq9:World->jb->LVal9->Prop)(s:World)(x:jb):Value->Prop
 | setl (b1 b2:Nat) (v:Value) (hk:x.kind=1) (h0:0<=ld f x.name) (hl:ld f x.name < ((f.params.length+f.locals.length:Nat):Int)) (h1:iH s b1 0 [v]) (h2:iH s b2 0 [.int .i64 (ld f x.name)]) (hv:E s (lP x.exprs 0) [v]):sC p f E Vq9 s x (.func (.func 145) #[] #[.pointer (some ⟨b1,0,none⟩),.pointer (some ⟨b2,0,none⟩)])
 | setg (b1 b2 k:Nat) (g:jM) (v:Value) (hk:x.kind=1) (hs:¬ 0<=ld f x.name) (hg:nS p x.name=(k:Int)) (hp:p.o[k]?=some g) (wx:g.kind=2) (h1:iH s b1 0 [v]) (h2:iH s b2 0 [.int .i64 (k:Int)]) (hv:E s (lP x.exprs 0) [v]):sC p f E Vq9 s x (.func (.func 146) #[] #[.pointer (some ⟨b1,0,none⟩),.pointer (some ⟨b2,0,none⟩)])
 | store (b1 b2 k:Nat) (g:jM) (A n c) (hk:x.kind=2) (hg:nS p x.name=(k:Int)) (hp:p.o[k]?=some g) (h3:g.kind=3) (h1:iH s b1 0 [.int .i64 (k:Int)]) (h2:iH s b2 0 [.slice A n c]) (hA:Sl 1 E s A n c x.exprs) (hn:1 < n):sC p f E Vq9 s x (.func (.func 103) #[] #[.pointer (some ⟨b1,0,none⟩),.pointer (some ⟨b2,0,none⟩)])
 | cond (b1 b2 b3:Nat) (A n c B m e G k i) (hk:x.kind=3) (h1:iH s b1 0 [.slice A n c]) (h2:iH s b2 0 [.slice B m e]) (h3:iH s b3 0 [.slice G k i]) (hA:Sl 1 E s A n c x.exprs) (hn:0 < n) (hB:Sl 1 Vq9 s B m e x.body) (hG:Sl 1 Vq9 s G k i x.els):sC p f E Vq9 s x (.func (.func 105) #[] #[.pointer (some ⟨b1,0,none⟩),.pointer (some ⟨b2,0,none⟩),.pointer (some ⟨b3,0,none⟩)])
 | loop (b1 b2:Nat) (A n c B m e) (hk:x.kind=4) (h1:iH s b1 0 [.slice A n c]) (h2:iH s b2 0 [.slice B m e]) (hA:Sl 1 E s A n c x.exprs) (hn:0 < n) (hB:Sl 1 Vq9 s B m e x.body):sC p f E Vq9 s x (.func (.func 107) #[] #[.pointer (some ⟨b1,0,none⟩),.pointer (some ⟨b2,0,none⟩)])
 | call (b1:Nat) (w:Value) (hk:x.kind=5) (h1:iH s b1 0 [w]) (h:rL p E s x.name x.exprs w):sC p f E Vq9 s x (.func (.func 109) #[] #[.pointer (some ⟨b1,0,none⟩)])
 | ret (b1:Nat) (A n c) (hk:x.kind=6) (h1:iH s b1 0 [.slice A n c]) (hA:Sl 1 E s A n c x.exprs) (hn:0 < n):sC p f E Vq9 s x (.func (.func 110) #[] #[.pointer (some ⟨b1,0,none⟩)])
 | put (b1:Nat) (A n c) (hk:x.kind=7) (h1:iH s b1 0 [.slice A n c]) (hA:Sl 1 E s A n c x.exprs) (hn:0 < n):sC p f E Vq9 s x (.func (.func 111) #[] #[.pointer (some ⟨b1,0,none⟩)])
 | stop (b1:Nat) (A n c) (hk:x.kind=8) (h1:iH s b1 0 [.slice A n c]) (hA:Sl 1 E s A n c x.exprs) (hn:0 < n):sC p f E Vq9 s x (.func (.func 112) #[] #[.pointer (some ⟨b1,0,none⟩)])
 | brk (hk:x.kind=9):sC p f E Vq9 s x (.func (.func 113) #[] #[])
 | cont (hk:x.kind=10):sC p f E Vq9 s x (.func (.func 114) #[] #[])
def pZ(p:ja)(f:iT):Nat->World->jb->LVal9->Prop
 | 0,_,_,_=>False
 | d+1,s,x,cs=>∃ b w,cs=[.func (.func 60) #[] #[jc b]]/\iH s b 0 [w]/\sC p f (lU p f d) (pZ p f d) s x w
def CW(p:ja)(s:World)(f:iT)(cs:LVal9):Prop:=∃ d A n c,cs=[iJ ((f.params.length+f.locals.length:Nat):Int),.slice A n c]/\Sl 1 (pZ p f d) s A n c f.body
def rL.le{args:List Ex}(hl:Le D s s')(hV:∀ x cs,Vq9 s x cs->Vq9 s' x cs)(h:rL p Vq9 s nm args w):rL p Vq9 s' nm args w:=by
 obtain ⟨be,bi,A,n,c,k,fk,h1,h2,h3,h4,h5⟩:=h;exact ⟨be,bi,A,n,c,k,fk,h1,h2.le hl,h3.le hl,Sl.le (λx cs h=>hV x cs h) h4 hl,h5⟩
def sW.le(hl:Le D s s')(hV:∀ x cs,Vq9 s x cs->Vq9 s' x cs)(h:sW p f Vq9 s x w):sW p f Vq9 s' x w:=by
 have hS:∀ {A n c l},Sl 1 Vq9 s A n c l->Sl 1 Vq9 s' A n c l:=λh=>Sl.le (λx cs h=>hV x cs h) h hl;cases h with
 | num b A1 n1 c1 hk hc hu=>exact .num b A1 n1 c1 hk Pz hu
 | slot b hk h0 hl' hc=>exact .slot b hk h0 hl' Pz
 | con b k g A n c hk hs hg hp h1 hc hu=>exact .con b k g A n c hk hs hg hp h1 Pz hu
 | var b k g hk hs hg hp h1 hc=>exact .var b k g hk hs hg hp h1 Pz
 | idx b1 b2 k g A n c hk hg hp h3 h1 h2 hA hn=>exact .idx b1 b2 k g A n c hk hg hp h3 Pz Pz (hS hA) hn
 | call w hk h=>exact .call w hk (h.le hl hV)
 | get hk=>exact .get hk
 | una b1 b2 A1 n1 c1 A n c hk h1 h2 hA hn=>exact .una b1 b2 A1 n1 c1 A n c hk Pz Pz (hS hA) hn
 | bin b1 b2 b3 v1 v2 hk h1 h2 h3 xj uR ho=>exact .bin b1 b2 b3 v1 v2 hk Pz Pz Pz (hV _ _ xj) (hV _ _ uR) ho
def lU.le(hl:Le D s s'):∀ {d:Nat} {x:Ex} {cs:LVal9},lU p f d s x cs->lU p f d s' x cs
 | 0,_,_,h=>h
 | _+1,_,_,⟨b,w,h1,h2,h3⟩=>⟨b,w,h1,h2.le hl,h3.le hl λ_ _ h=>lU.le hl h⟩
def sC.le{Vq9:World->jb->LVal9->Prop}{x:jb}(hl:Le D s s')(hE:∀ x cs,E s x cs->E s' x cs)(hV:∀ x cs,Vq9 s x cs->Vq9 s' x cs)(h:sC p f E Vq9 s x w):sC p f E Vq9 s' x w:=by
 have hS:∀ {A n c l},Sl 1 E s A n c l->Sl 1 E s' A n c l:=λh=>Sl.le (λx cs h=>hE x cs h) h hl;have hT:∀ {A n c l},Sl 1 Vq9 s A n c l->Sl 1 Vq9 s' A n c l:=λh=>Sl.le (λx cs h=>hV x cs h) h hl;cases h with
 | setl b1 b2 v hk h0 hl' h1 h2 hv=>exact .setl b1 b2 v hk h0 hl' Pz Pz (hE _ _ hv)
 | setg b1 b2 k g v hk hs hg hp wx h1 h2 hv=>exact .setg b1 b2 k g v hk hs hg hp wx Pz Pz (hE _ _ hv)
 | store b1 b2 k g A n c hk hg hp h3 h1 h2 hA hn=>exact .store b1 b2 k g A n c hk hg hp h3 Pz Pz (hS hA) hn
 | cond b1 b2 b3 A n c B m e G k i hk h1 h2 h3 hA hn hB hG=>exact .cond b1 b2 b3 A n c B m e G k i hk Pz Pz Pz (hS hA) hn (hT hB) (hT hG)
 | loop b1 b2 A n c B m e hk h1 h2 hA hn hB=>exact .loop b1 b2 A n c B m e hk Pz Pz (hS hA) hn (hT hB)
 | call b1 w hk h1 h=>exact .call b1 w hk Pz (h.le hl hE)
 | ret b1 A n c hk h1 hA hn=>exact .ret b1 A n c hk Pz (hS hA) hn
 | put b1 A n c hk h1 hA hn=>exact .put b1 A n c hk Pz (hS hA) hn
 | stop b1 A n c hk h1 hA hn=>exact .stop b1 A n c hk Pz (hS hA) hn
 | brk hk=>exact .brk hk
 | cont hk=>exact .cont hk
def pZ.le(hl:Le D s s'):∀ {d:Nat} {x:jb} {cs:LVal9},pZ p f d s x cs->pZ p f d s' x cs
 | 0,_,_,h=>h
 | _+1,_,_,⟨b,w,h1,h2,h3⟩=>⟨b,w,h1,h2.le hl,h3.le hl (λ_ _ h=>lU.le hl h) λ_ _ h=>pZ.le hl h⟩
def CW.le(hl:Le D s s'){cs:LVal9}(h:CW p s f cs):CW p s' f cs:=by
 obtain ⟨d,A,n,c,h1,h2⟩:=h;exact ⟨d,A,n,c,h1,Sl.le (λ_ _ h=>pZ.le hl h) h2 hl⟩
def pI(p:ja)(f:iT)(d:Nat)(s:World)(A:OAdr9)(n c:Nat)(l:List Ex):Prop:=Sl 1 (lU p f d) s A n c l
def wR(p:ja)(f:iT)(d:Nat)(s:World)(A:OAdr9)(n c:Nat)(l:List jb):Prop:=Sl 1 (pZ p f d) s A n c l
def pI.le{l:List Ex}(h:pI p f d s A n c l)(hl:Le D s s'):pI p f d s' A n c l:=Sl.le (λ_ _ h=>lU.le hl h) h hl
def wR.le{l:List jb}(h:wR p f d s A n c l)(hl:Le D s s'):wR p f d s' A n c l:=Sl.le (λ_ _ h=>pZ.le hl h) h hl
def WZ{p:Prop} (h:p:=by
 cases d with
 | zero=>exact h.elim
 | succ d=>obtain ⟨b,w,h1,_⟩:=h;exact ⟨b,by simpa using h1⟩):p:=h
def lU.func(h:lU p f d s x [v]):∃ b,v=.func (.func 143) #[] #[jc b]:=by
 exact WZ
def pZ.func{x:jb}(h:pZ p f d s x [v]):∃ b,v=.func (.func 60) #[] #[jc b]:=by
 exact WZ
def pI.at_{l:List Ex}(h:pI p f d s A n c l)(hk:k < n):∃ B off b,A=some ⟨B,off,none⟩/\iH s B (off+k) [.func (.func 143) #[] #[jc b]]/\lU p f d s (lP l k) [.func (.func 143) #[] #[jc b]]:=by
 have hl:k < l.length:=by rw [<- h.1];exact hk
 obtain ⟨B,off,cs,h1,h2,h3,h4⟩:=h.2.2.2 k l[k] (ax hl);have e:lP l k=l[k]:=by rw [lP,aM,ax hl];rfl
 match cs,h3 with
 | [v],_=>
  obtain ⟨b,rfl⟩:=h4.func;exact ⟨B,off,b,h1,by rw [eG] at h2;exact h2,by rw [e];exact h4⟩
def wR.at_{l:List jb}(h:wR p f d s A n c l)(hk:k < n):∃ B off b x,A=some ⟨B,off,none⟩/\l[k]?=some x/\iH s B (off+k) [.func (.func 60) #[] #[jc b]]/\pZ p f d s x [.func (.func 60) #[] #[jc b]]:=by
 have hl:k < l.length:=by rw [<- h.1];exact hk
 obtain ⟨B,off,cs,h1,h2,h3,h4⟩:=h.2.2.2 k l[k] (ax hl);match cs,h3 with
 | [v],_=>
  obtain ⟨b,rfl⟩:=h4.func;exact ⟨B,off,b,l[k],h1,ax hl,by rw [eG] at h2;exact h2,h4⟩
structure MC where
 bm:Nat
 bg:Nat
 bf:Nat
 ba:Nat
 Af:OAdr9
 nF:Nat
 cF:Nat
 ng:Nat
 nf:Nat
 ab:List (Option Nat)
variable{c:MC}
def xL(c:MC)(N:Nat)(rJ:Int)(m:MS)(iv ov:Value)(st cd:Int)(fv:Value):Nat×Obj:=(c.bm,cb [.slice c.Af c.nF c.cF,.slice (some ⟨c.bg,0,none⟩) c.ng c.ng,.slice (some ⟨c.ba,0,none⟩) c.ng c.ng,fv,iO rJ,iJ (m.calls:Int),iv,iJ (m.left:Int),ov,iJ st,iO cd,iJ ((N:Int) - (m.left:Int))] 83)
abbrev MB(c:MC)(N:Nat)(rJ:Int)(m:MS)(iv ov:Value)(st cd:Int):Nat×Obj:=xL c N rJ m iv ov st cd (.slice (some ⟨c.bf,0,none⟩) c.nf c.nf)
def mw(c:MC)(m:MS):Nat×Obj:=(c.bg,cb (wv m.ah) 22)
def mo(c:MC)(m:MS):Nat×Obj:=(c.bf,cb (wv m.frm) 22)
def ol:List (Option Nat)->List LInt9->Hl
 | some b::r,l::ls=>(b,cb (wv l) 22)::ol r ls
 | none::r,_::ls=>ol r ls
 | _,_=>[]
def vH:List (Option Nat)->List jM->LVal9
 | some b::r,g::gs=>.slice (j6 b) g.num.toNat g.num.toNat::vH r gs
 | none::r,_::gs=>.slice none 0 0::vH r gs
 | _,_=>[]
structure MG(p:ja)(c:MC)(N:Nat)(m:MS)(iv ov:Value)(R:Hl)(s:World):Prop where
 inp:∃ A n q,iv=.slice A n q/\lL s A n q m.inp
 out:∃ Mo,R=ol c.ab m.ae++Mo/\Own 5 1 Mo ov m.out.length (bv m.out)
 ug:∀ x∈m.ah,iY x
 uf:∀ x∈m.frm,iY x
 ua:∀ l∈m.ae,∀ x∈l,iY x
 ng:c.ng=p.o.length
 lg:m.ah.length=c.ng
 lf:m.frm.length=c.nf
 lb:c.ab.length=c.ng
 la:m.ae.length=c.ng
 ar:∀ (k:Nat) (g:jM),p.o[k]?=some g->g.kind=3->(∃ b,c.ab[k]?=some (some b))/\(m.ae.getD k []).length=g.num.toNat
 lo:m.out.length<=20000
 lc:m.calls<=100
 ll:m.left<=N
 lN:N<=50000000
structure CT(p:ja)(c:MC)(s:World):Prop where
 fn:Sl 2 (CW p) s c.Af c.nF c.cF p.funcs
 ar:iH s c.ba 0 (vH c.ab p.o)
 fs:∀ f∈p.funcs,f.params.length+f.locals.length<=100
 gu:∀ g∈p.o,iY g.num
def MG.le(h:MG p c N m iv ov R s)(hl:Le D s s'):MG p c N m iv ov R s':=by
 obtain ⟨A,n,q,h1,h2⟩:=h.inp;exact ⟨⟨A,n,q,h1,h2.le hl⟩,h.out,h.ug,h.uf,h.ua,h.ng,h.lg,h.lf,h.lb,h.la,h.ar,h.lo,h.lc,h.ll,h.lN⟩
def CT.le(h:CT p c s)(hl:Le D s s'):CT p c s':=⟨Sl.le (λ_ _ h=>CW.le hl h) h.fn hl,h.ar.le hl,h.fs,h.gu⟩
def Fy(ch:List PanicEntry):Prop:=ch=[{ v:=.iface 144 (.agg #[]),recovered:=false }]
def AA(c:MC)(N:Nat)(m:MS)(st cd:Int)(Zq9:Hl):Prop:=∃ u0 u1 u2 u3 u4 u5 u6 u7 ov Mo K,Zq9.Perm ((c.bm,cb [u0,u1,u2,u3,u4,u5,u6,u7,ov,iJ st,iO cd,iJ ((N:Int) - (m.left:Int))] 83)::(Mo++K))/\Own 5 1 Mo ov m.out.length (bv m.out)/\m.out.length<=20000/\m.left<=N
def MG.finv(h:MG p c N m iv ov R s)(rJ st cd:Int)(fv:Value)(X:Hl):AA c N m st cd (xL c N rJ m iv ov st cd fv::(X++R)):=by
 obtain ⟨Mo,rfl,hO⟩:=h.out;refine ⟨_,_,_,_,_,_,_,_,ov,Mo,X++ol c.ab m.ae,List.Perm.cons _ ?_,hO,h.lo,h.ll⟩;rw [<- an];exact dJ
def MG.fin(h:MG p c N m iv ov R s)(rJ st cd:Int):AA c N m st cd (MB c N rJ m iv ov st cd::mw c m::mo c m::R):=h.finv rJ st cd _ [mw c m,mo c m]
def AA.app(h:AA c N m st cd Zq9)(X:Hl):AA c N m st cd (Zq9++X):=by
 obtain ⟨u0,u1,u2,u3,u4,u5,u6,u7,ov,Mo,K,h1,h2⟩:=h;exact ⟨u0,u1,u2,u3,u4,u5,u6,u7,ov,Mo,K++X,by simpa [an] using h1.append_right X,h2⟩
def MC.wf(c:MC)(bf nf:Nat):MC:={ c with bf:=bf,nf:=nf }
def AA.wf{bf:Nat}(h:AA (c.wf bf nf) N m st cd Zq9):AA c N m st cd Zq9:=h
def py(p:ja)(c:MC)(N:Nat)(r:ER α)(Vq9:α->Value->Prop)(RS:α->Int)(X L:Hl)(v:Value)(L':Hl)(s':World):Prop:=∃ a m' iv ov R,r=.ok a m'/\Vq9 a v/\L'=X++(MB c N (RS a) m' iv ov 0 0::mw c m'::mo c m'::(R++L))/\MG p c N m' iv ov R s'
def pv(c:MC)(N:Nat)(r:ER α)(X L:Hl)(ch:List PanicEntry)(L':Hl)(_:World):Prop:=Fy ch/\∃ m' st cd Zq9,r=.fin m' st cd/\L'=X++(Zq9++L)/\AA c N m' st cd Zq9
def AP.fr{g:FuncId}{args:LVal9}{r:ER α}{Vq9:α->Value->Prop}{RS:α->Int}(h:∀ L,AP Tryz.prog D g args (MB c N rJ m iv ov 0 0::mw c m::mo c m::(R++L)) s (py p c N r Vq9 RS [] L) (pv c N r [] L))(X L:Hl):AP Tryz.prog D g args (X++(MB c N rJ m iv ov 0 0::mw c m::mo c m::(R++L))) s (py p c N r Vq9 RS X L) (pv c N r X L):=
 (AP.mid (R:=λv M' s'=>∃ a m' iv ov R,r=.ok a m'/\Vq9 a v/\M'=MB c N (RS a) m' iv ov 0 0::mw c m'::mo c m'::R/\MG p c N m' iv ov R s') (Zq9:=λch M' _=>Fy ch/\∃ m' st cd,r=.fin m' st cd/\AA c N m' st cd M') X (MB c N rJ m iv ov 0 0::mw c m::mo c m::R) L
  ((h (X++L)).mono (λv L' s' _ ⟨a,m',iv,ov,R,h1,h2,h3,h4⟩=>⟨_,h3,a,m',iv,ov,R,h1,h2,rfl,h4⟩) λch L' s' _ ⟨h1,m',st,cd,Zq9,h2,h3,h4⟩=>⟨Zq9,h3,h1,m',st,cd,h2,h4⟩)).mono
  (λv L' s' _ ⟨M',h0,a,m',iv,ov,R,h1,h2,h3,h4⟩=>⟨a,m',iv,ov,R,h1,h2,by rw [h0,h3];rfl,h4⟩) λch L' s' _ ⟨M',h0,h1,m',st,cd,h2,h3⟩=>⟨h1,m',st,cd,M',h2,h0,h3⟩
def VE(a:Int)(v:Value):Prop:=v=iO a/\iY a
def VS(y:Int×Int)(v:Value):Prop:=v=iJ y.1/\iY y.2/\(y.1≠3->y.2=0)
def RE(_:Int):Int:=0
def RS(y:Int×Int):Int:=y.2
def uM(p:ja)(D n:Nat):Prop:=∀ (L:Hl) (s:World) (c:MC) (N:Nat) (f:iT) (d:Nat) (x:Ex) (b:Nat) (m:MS) (iv ov:Value) (R:Hl),CT p c s->c.nf=f.params.length+f.locals.length->lU p f d s x [.func (.func 143) #[] #[jc b]]->MG p c N m iv ov R s->(jm p jx n).e f x m≠.out ->
 AP Tryz.prog D 143 [.pointer (some ⟨c.bm,0,none⟩),jc b] (MB c N 0 m iv ov 0 0::mw c m::mo c m::(R++L)) s (py p c N ((jm p jx n).e f x m) VE RE [] L) (pv c N ((jm p jx n).e f x m) [] L)
def Cp(p:ja)(D n:Nat):Prop:=∀ (L:Hl) (s:World) (c:MC) (N:Nat) (f:iT) (d:Nat) (x:jb) (b:Nat) (m:MS) (iv ov:Value) (R:Hl),CT p c s->c.nf=f.params.length+f.locals.length->pZ p f d s x [.func (.func 60) #[] #[jc b]]->MG p c N m iv ov R s->(jm p jx n).t f x m≠.out ->
 AP Tryz.prog D 60 [.pointer (some ⟨c.bm,0,none⟩),jc b] (MB c N 0 m iv ov 0 0::mw c m::mo c m::(R++L)) s (py p c N ((jm p jx n).t f x m) VS RS [] L) (pv c N ((jm p jx n).t f x m) [] L)
def Fk(p:ja)(D n:Nat):Prop:=∀ (L:Hl) (s:World) (c:MC) (N k:Nat) (fk:iT) (vs:LInt9) (A:OAdr9) (n1 c1:Nat) (m:MS) (iv ov:Value) (R:Hl),CT p c s->lV s A n1 c1 vs->p.funcs[k]?=some fk->vs.length=fk.params.length->MG p c N m iv ov R s->(jm p jx n).c k vs m≠.out ->
 AP Tryz.prog D 63 [.pointer (some ⟨c.bm,0,none⟩),iJ (k:Int),.slice A n1 c1] (MB c N 0 m iv ov 0 0::mw c m::mo c m::(R++L)) s (py p c N ((jm p jx n).c k vs m) VE RE [] L) (pv c N ((jm p jx n).c k vs m) [] L)
def rk{β:Type}{a:ER α}{k:α->MS->ER β}{r:ER β}(h:r=a.and k)(hr:r≠.out):a≠.out:=by rintro rfl;exact hr h
def EW{β:Type}{a:ER α}{k:α->MS->ER β}{r:ER β}(h:r=a.and k)(h2:a=.fin m st cd):r=.fin m st cd:=by rw [h,h2];rfl
def MG.stp(h:MG p c N m iv ov R s):MG p c N { m with left:=m.left - 1 } iv ov R s:=⟨h.inp,h.out,h.ug,h.uf,h.ua,h.ng,h.lg,h.lf,h.lb,h.la,h.ar,h.lo,h.lc,dT (Nat.sub_le _ _) h.ll,h.lN⟩
def qus(X:Hl)(s:World)(c:MC)(N:Nat)(rJ:Int)(m:MS)(iv ov:Value)(st cd:Int)(fv:Value):AP prog D 64 [.pointer (some ⟨c.bm,0,none⟩),iJ st,iO cd] (xL c N rJ m iv ov 0 0 fv::X) s (λ_ _ _=>False) λch L' _=>Fy ch/\L'=xL c N rJ m iv ov st cd fv::X:=by
 refine qI (fn:=f64) jl func64 V Z ntmps64 Z (rs:=[]) Z [(0,_),(1,_),(2,_)] Z<|G8 ?_;refine iI (pu Y4) Z<|Wt 0 [_,_,_,_,_,_,_,_,_,_,_,_] Y9<|G2 ?_;refine iI (pu Y4) Z<|Wt 0 [_,_,_,_,_,_,_,_,_,_,_,_] Y9<|Nt<|Zr<|iI (qpA V V) Z<|iI (qxq V Z) Z ?_;refine Y' Z (λsZ=>?_);repeat (first|refine sI ?_|refine sJ ?_)
 refine sN [] Pr (Lr D) λ_ iL=>?_;exact ry
def u_(c:MC)(N:Nat)(m:MS)(iv ov:Value)(hl:m.left<=N)(hN:N<=50000000):AP prog D 61 [.pointer (some ⟨c.bm,0,none⟩)] (MB c N rJ m iv ov 0 0::X) s (λ_ L' _=>¬ m.left=0/\L'=MB c N rJ { m with left:=m.left - 1 } iv ov 0 0::X) λch L' _=>Fy ch/\m.left=0/\L'=MB c N rJ m iv ov 0 0::X:=by
 refine qI (fn:=f61) jl func61 V Z ntmps61 Z (rs:=[]) Z [(0,_)] Z<|sA ?_ ?_<;>intro c1
 .have h0:=c1;refine Zr<|iI (qpA V V) Z<|iI (qxq V Z) Z ?_;refine Y' Z (λsZ=>?_);repeat (first|refine sI ?_|refine sJ ?_)
  refine sN [] Pr (Lr D) λ_ iL=>?_;exact ⟨rfl,by omega,rfl⟩
 have h0:=c1;refine G8 ?_;refine iI (jD (rn Z Z (jB O O)) (bj (Value.int .i64) (show (m.left:Int) - 1=((m.left - 1:Nat):Int) by omega))) Z<|G2 ?_;refine Wt 0 [_,_,_,_,_,_,_,_,_,_,_,_] Y9<|G6 ?_;refine iI (pu Y4) Z<|Wl 0 Y6<|iI (jD (nD Z Z (jB O O)) (bj (Value.int .i64) (show (N:Int) - (m.left:Int)+1=(N:Int) - ((m.left - 1:Nat):Int) by omega))) Z ?_;refine G2 ?_;refine iI (pu Y4) Z<|Wt 0 [_,_,_,_,_,_,_,_,_,_,_,_] Y9<|Zn ?_;refine oV [] (.inl Z) (.nil) Z (Lr D) λ_ iL=>?_;exact ⟨by omega,rfl⟩
def EM(X:Hl)(c:MC)(N:Nat)(m:MS)(iv ov:Value){st:Int}:AP prog D 64 [.pointer (some ⟨c.bm,0,none⟩),iJ st,iO cd] (X++(xL c N rJ m iv ov 0 0 fv::Y)) s (λ_ _ _=>False) λch L' _=>Fy ch/\L'=X++(xL c N rJ m iv ov st cd fv::Y):=
 (AP.mid (R:=λ_ _ _=>False) (Zq9:=λch M' _=>Fy ch/\M'=[xL c N rJ m iv ov st cd fv]) X [xL c N rJ m iv ov 0 0 fv] Y ((qus (X++Y) s c N rJ m iv ov st cd fv).mono (λ_ _ _ _ h=>h.elim) λch L' s' _ h=>⟨[xL c N rJ m iv ov st cd fv],h.2,h.1,rfl⟩)).mono
  (λ_ _ _ _ ⟨_,_,h⟩=>h) λch L' s' _ ⟨M',h0,h1,h2⟩=>⟨h1,by rw [h0,h2];rfl⟩
def Ie{p:Prop} (h:p:=by
 cases d with
 | zero=>exact h.elim
 | succ e=>
  obtain ⟨b2,w,h1,h2,h3⟩:=h;simp only [List.cons.injEq,Value.func.injEq,Array.mk.injEq,Value.pointer.injEq,da,iw,and_true,iG] at h1;subst h1;exact ⟨e,w,h2,h3⟩):p:=h
def lU.opn(h:lU p f d s x [.func (.func 143) #[] #[jc b]]):∃ e w,iH s b 0 [w]/\sW p f (lU p f e) s x w:=by
 exact Ie
def pZ.opn{x:jb}(h:pZ p f d s x [.func (.func 60) #[] #[jc b]]):∃ e w,iH s b 0 [w]/\sC p f (lU p f e) (pZ p f e) s x w:=by
 exact Ie
def U7(p:ja)(D n:Nat):Prop:=∀ (L:Hl) (s:World) (c:MC) (N:Nat) (f:iT) (d:Nat) (x:Ex) (w:Value) (m:MS) (iv ov:Value) (R:Hl),CT p c s->c.nf=f.params.length+f.locals.length->sW p f (lU p f d) s x w->MG p c N m iv ov R s->vX p jx (jm p jx n) f x m≠.out ->
 ∃ kk cap,w=.func (.func kk) #[] cap.toArray/\AP prog D kk (.pointer (some ⟨c.bm,0,none⟩)::cap) (MB c N 0 m iv ov 0 0::mw c m::mo c m::(R++L)) s (py p c N (vX p jx (jm p jx n) f x m) VE RE [] L) (pv c N (vX p jx (jm p jx n) f x m) [] L)
def U3(p:ja)(D n:Nat):Prop:=∀ (L:Hl) (s:World) (c:MC) (N:Nat) (f:iT) (d:Nat) (x:jb) (w:Value) (m:MS) (iv ov:Value) (R:Hl),CT p c s->c.nf=f.params.length+f.locals.length->sC p f (lU p f d) (pZ p f d) s x w->MG p c N m iv ov R s->sX p (jm p jx n) f x m≠.out ->
 ∃ kk cap,w=.func (.func kk) #[] cap.toArray/\AP prog D kk (.pointer (some ⟨c.bm,0,none⟩)::cap) (MB c N 0 m iv ov 0 0::mw c m::mo c m::(R++L)) s (py p c N (sX p (jm p jx n) f x m) VS RS [] L) (pv c N (sX p (jm p jx n) f x m) [] L)
def Ph{p:Prop} (h:p:=by
 exact ⟨hp,m,0,0,_,by rw [hq,vI,aw g0];rfl,rfl,hM.fin _ _ _⟩):p:=h
def VC{p:Prop} (h:p:=by
 rintro _ _ sx1 yV ⟨hp,g0,rfl⟩ sZ;repeat (first|refine sI ?_|refine sJ ?_)
 refine sN [] Pr yV λ_ iL=>?_;exact Ph):p:=h
def HG{p:Prop} (h:p:=by
  rw [<- hq] at hI;refine iI (jW Y3 (pf.le h1) Z) Z<|jY Y2 ?_;refine rH (first:=[]) (captured:=cap) Y3 (hI) ?_ ?_
  .rintro _ _ sx2 uu ⟨hp,m1,BF,cd1,Z1,he1,rfl,hF1⟩ sZ;repeat (first|refine sI ?_|refine sJ ?_)
   refine sN [] Pr (h1.t uu) λ_ iL=>?_;exact ⟨hp,m1,BF,cd1,Z1,he1,rfl,hF1⟩
  rintro _ _ s2 h2 ⟨a1,m1,qS,ov1,R1,he1,⟨rfl,pr⟩,rfl,jG⟩;refine G4 ?_;refine oV [] (.inr Z) (.t1 Z) Z (h1.t h2) λ_ iL=>?_;exact ⟨a1,m1,qS,ov1,R1,he1,⟨rfl,pr⟩,rfl,jG.le ((Lr D).t iL)⟩):p:=h
def qtM(p:ja)(n:Nat)(ih:U7 p D n)(L:Hl)(s:World)(c:MC)(N:Nat)(f:iT)(d:Nat)(x:Ex)(b:Nat)(m:MS)(iv ov:Value)(R:Hl)(hC:CT p c s)(hn:c.nf=f.params.length+f.locals.length)(hv:lU p f d s x [.func (.func 143) #[] #[jc b]])(hM:MG p c N m iv ov R s)(hr:(jm p jx (n+1)).e f x m≠.out):AP prog D 143 [.pointer (some ⟨c.bm,0,none⟩),jc b] (MB c N 0 m iv ov 0 0::mw c m::mo c m::(R++L)) s (py p c N ((jm p jx (n+1)).e f x m) VE RE [] L) (pv c N ((jm p jx (n+1)).e f x m) [] L):=by
 obtain ⟨r,hq⟩:∃ r,r=(jm p jx (n+1)).e f x m:=⟨_,rfl⟩;rw [<- hq] at hr ⊢;change r=(vI m).and _ at hq;obtain ⟨e,w,pf,hw⟩:=hv.opn;refine qI (fn:=f143) jl func143 V Z ntmps143 Z (rs:=[.tmp 3]) Z [(0,_),(1,_)] Z<|G8 ?_;refine rH (first:=[]) (captured:=[]) Y3 (u_ c N m iv ov hM.ll hM.lN) ?_ ?_;.exact VC
 rintro _ _ s1 h1 ⟨g0,rfl⟩;rw [vI,am g0] at hq;simp only [ER.and] at hq;have mG:=(hM.le h1).stp;refine G4 ?_;obtain ⟨kk,cap,rfl,hI⟩:=ih L _ c N f e x w _ iv ov R (hC.le h1) hn (hw.le h1 λ_ _ h=>lU.le h1 h) mG (by rw [<- hq];exact hr);exact HG
def qw8(p:ja)(n:Nat)(ih:U3 p D n)(L:Hl)(s:World)(c:MC)(N:Nat)(f:iT)(d:Nat)(x:jb)(b:Nat)(m:MS)(iv ov:Value)(R:Hl)(hC:CT p c s)(hn:c.nf=f.params.length+f.locals.length)(hv:pZ p f d s x [.func (.func 60) #[] #[jc b]])(hM:MG p c N m iv ov R s)(hr:(jm p jx (n+1)).t f x m≠.out):AP prog D 60 [.pointer (some ⟨c.bm,0,none⟩),jc b] (MB c N 0 m iv ov 0 0::mw c m::mo c m::(R++L)) s (py p c N ((jm p jx (n+1)).t f x m) VS RS [] L) (pv c N ((jm p jx (n+1)).t f x m) [] L):=by
 obtain ⟨r,hq⟩:∃ r,r=(jm p jx (n+1)).t f x m:=⟨_,rfl⟩;rw [<- hq] at hr ⊢;change r=(vI m).and _ at hq;obtain ⟨e,w,pf,hw⟩:=hv.opn;refine qI (fn:=f60) jl func60 V Z ntmps60 Z (rs:=[.tmp 3]) Z [(0,_),(1,_)] Z<|G8 ?_;refine rH (first:=[]) (captured:=[]) Y3 (u_ c N m iv ov hM.ll hM.lN) ?_ ?_;.exact VC
 rintro _ _ s1 h1 ⟨g0,rfl⟩;rw [vI,am g0] at hq;simp only [ER.and] at hq;have mG:=(hM.le h1).stp;refine G4 ?_;obtain ⟨kk,cap,rfl,hI⟩:=ih L _ c N f e x w _ iv ov R (hC.le h1) hn (hw.le h1 (λ_ _ h=>lU.le h1 h) (λ_ _ h=>pZ.le h1 h)) mG (by rw [<- hq];exact hr);exact HG
def Th(h:∀ x∈l,iY x)(i:Nat):iY (l.getD i 0):=by
 rw [aM];cases hl:l[i]? with
 | none=>exact ⟨by decide,by decide⟩
 | some x=>exact h x (ay hl)
theorem qCU(hk:x.kind=2)(h:0<=ld f x.name):vX p jx S f x m=.ok (m.frm.getD (ld f x.name).toNat 0) m:=by grind [vX,CH]
theorem qHu{g:jM}(hk:x.kind=2)(h:¬ 0<=ld f x.name)(hg:nS p x.name=(k:Int))(hp:p.o[k]?=some g)(h1:g.kind=1):vX p jx S f x m=.ok g.num m:=by grind [vX,CH]
theorem qHx{g:jM}(hk:x.kind=2)(h:¬ 0<=ld f x.name)(hg:nS p x.name=(k:Int))(hp:p.o[k]?=some g)(h1:¬ g.kind=1):vX p jx S f x m=.ok (m.ah.getD (k:Int).toNat 0) m:=by grind [vX,CH]
def MG.rd(h:MG p c N m iv ov R s){l:iR}{q:Nat}(hb:lL s A n q l):MG p c N { m with inp:=l } (.slice A n q) ov R s:=⟨⟨A,n,q,rfl,hb⟩,h.out,h.ug,h.uf,h.ua,h.ng,h.lg,h.lf,h.lb,h.la,h.ar,h.lo,h.lc,h.ll,h.lN⟩
def qGx(L:Hl)(s:World)(p:ja)(c:MC)(N:Nat)(f:iT)(x:Ex)(m:MS)(iv ov:Value)(R:Hl)(hn:c.nf=f.params.length+f.locals.length)(hM:MG p c N m iv ov R s)(b:Nat)(A1:OAdr9)(n1 z1:Nat)(hk:x.kind=1)(hc:iH s b 0 [iJ x.kind,iJ x.op,iO x.num,St x.name,.slice A1 n1 z1])(hu:iY x.num):AP prog D 185 [.pointer (some ⟨c.bm,0,none⟩),jc b] (MB c N 0 m iv ov 0 0::mw c m::mo c m::(R++L)) s (py p c N (vX p jx S f x m) VE RE [] L) (pv c N (vX p jx S f x m) [] L):=by
 refine qI (fn:=f185) jl func185 V Z ntmps185 Z (rs:=[.tmp 3]) Z [(0,_),(1,_)] Z<|G7 ?_;refine iI (pu Y4) Z<|iI (nh 2 Y3 Pz Z) Z<|G4 ?_;refine oV [] (.inr Z) (.t1 Z) Z (Lr D) λ_ iL=>?_;exact ⟨_,m,iv,ov,R,by rw [vX,aw hk],⟨rfl,hu⟩,rfl,hM.le Lc⟩
def qBE(L:Hl)(s:World)(p:ja)(c:MC)(N:Nat)(f:iT)(x:Ex)(m:MS)(iv ov:Value)(R:Hl)(hn:c.nf=f.params.length+f.locals.length)(hM:MG p c N m iv ov R s)(b:Nat)(hk:x.kind=2)(h0:0<=ld f x.name)(hl:ld f x.name < ((f.params.length+f.locals.length:Nat):Int))(hc:iH s b 0 [iJ (ld f x.name)]):AP prog D 230 [.pointer (some ⟨c.bm,0,none⟩),jc b] (MB c N 0 m iv ov 0 0::mw c m::mo c m::(R++L)) s (py p c N (vX p jx S f x m) VE RE [] L) (pv c N (vX p jx S f x m) [] L):=by
 have qs:ld f x.name < (m.frm.length:Int):=by rw [hM.lf,hn];exact hl
 have yR:ld f x.name < (c.nf:Int):=by rw [hn];exact hl
 refine qI (fn:=f230) jl func230 V Z ntmps230 Z (rs:=[.tmp 3]) Z [(0,_),(1,_)] Z<|G6 ?_;refine ma jF 8 Z _ (λ_ h=>h) λs1 h1=>H4 ?_;refine za 4 Z (jW Y3 Pz Z) Z<|za 5 Z (xw Y6 h0 yR) Z<|za 6 Z (rj 2 Y4 (N7 h0 qs)) Z<|H1 ?_;refine jq V<|G2 ?_;refine oV [] (.inr Z) (.t1 Z) Z h1 λ_ iL=>?_;exact ⟨_,m,iv,ov,R,qCU hk h0,⟨rfl,Th hM.uf _⟩,rfl,hM.le Lc⟩
def qFN(L:Hl)(s:World)(p:ja)(c:MC)(N:Nat)(f:iT)(x:Ex)(m:MS)(iv ov:Value)(R:Hl)(hn:c.nf=f.params.length+f.locals.length)(hM:MG p c N m iv ov R s)(b k:Nat)(g:jM)(A:OAdr9)(n1 z1:Nat)(hk:x.kind=2)(hs:¬ 0<=ld f x.name)(hg:nS p x.name=(k:Int))(hp:p.o[k]?=some g)(o9:g.kind=1)(hc:iH s b 0 [iJ g.kind,St g.name,iO g.num,.slice A n1 z1])(hu:iY g.num):AP prog D 231 [.pointer (some ⟨c.bm,0,none⟩),jc b] (MB c N 0 m iv ov 0 0::mw c m::mo c m::(R++L)) s (py p c N (vX p jx S f x m) VE RE [] L) (pv c N (vX p jx S f x m) [] L):=by
 refine qI (fn:=f231) jl func231 V Z ntmps231 Z (rs:=[.tmp 3]) Z [(0,_),(1,_)] Z<|G7 ?_;refine iI (pu Y4) Z<|iI (nh 2 Y3 Pz Z) Z<|G4 ?_;refine oV [] (.inr Z) (.t1 Z) Z (Lr D) λ_ iL=>?_;exact ⟨_,m,iv,ov,R,qHu hk hs hg hp o9,⟨rfl,hu⟩,rfl,hM.le Lc⟩
def qHy(L:Hl)(s:World)(p:ja)(c:MC)(N:Nat)(f:iT)(x:Ex)(m:MS)(iv ov:Value)(R:Hl)(hn:c.nf=f.params.length+f.locals.length)(hM:MG p c N m iv ov R s)(b k:Nat)(g:jM)(hk:x.kind=2)(hs:¬ 0<=ld f x.name)(hg:nS p x.name=(k:Int))(hp:p.o[k]?=some g)(o9:¬ g.kind=1)(hc:iH s b 0 [iJ (k:Int)]):AP prog D 232 [.pointer (some ⟨c.bm,0,none⟩),jc b] (MB c N 0 m iv ov 0 0::mw c m::mo c m::(R++L)) s (py p c N (vX p jx S f x m) VE RE [] L) (pv c N (vX p jx S f x m) [] L):=by
 have hkl:=(al.1 hp).1;have qs:(k:Int) < (m.ah.length:Int):=by rw [hM.lg,hM.ng];omega
 have yR:(k:Int) < (c.ng:Int):=by rw [hM.ng];omega
 refine qI (fn:=f232) jl func232 V Z ntmps232 Z (rs:=[.tmp 3]) Z [(0,_),(1,_)] Z<|G6 ?_;refine ma jF 8 Z _ (λ_ h=>h) λs1 h1=>H4 ?_;refine za 4 Z (jW Y3 Pz Z) Z<|za 5 Z (xw Y6 O yR) Z<|za 6 Z (rj 1 Y4 (N7 O qs)) Z<|H1 ?_;refine jq V<|G2 ?_;refine oV [] (.inr Z) (.t1 Z) Z h1 λ_ iL=>?_;exact ⟨_,m,iv,ov,R,qHx hk hs hg hp o9,⟨rfl,Th hM.ug _⟩,rfl,hM.le Lc⟩
def Ha{p:Prop} (h:p:=by
 first
  | (exact ⟨_,m,_,ov,R,by simp only [DH,hE],⟨rfl,⟨by decide,by decide⟩⟩,rfl,hM.le Lc⟩)
  | (exact ⟨_,{ m with inp:=l },_,ov,R,by simp only [DH,hl],⟨rfl,⟨by omega,by have:=ch.toNat_lt;omega⟩⟩,rfl,(hM.rd hI.tail).le Lc⟩)):p:=h
def qF9(L:Hl)(s:World)(p:ja)(c:MC)(N:Nat)(f:iT)(x:Ex)(m:MS)(iv ov:Value)(R:Hl)(hn:c.nf=f.params.length+f.locals.length)(hM:MG p c N m iv ov R s)(hk:x.kind=5):AP prog D 188 [.pointer (some ⟨c.bm,0,none⟩)] (MB c N 0 m iv ov 0 0::mw c m::mo c m::(R++L)) s (py p c N (vX p jx S f x m) VE RE [] L) (pv c N (vX p jx S f x m) [] L):=by
 obtain ⟨Ai,ni,qi,rfl,hI⟩:=hM.inp;have hni:=hI.1;have vp:vX p jx S f x m=DH m:=by rw [vX,am O,am O,am O,am O,aw hk]
 rw [vp];refine qI (fn:=f188) jl func188 V Z ntmps188 Z (rs:=[.tmp 2]) Z [(0,_)] Z<|LU ?_ ?_<;>intro c1;.have hE:m.inp=[]:=aG O;refine G7 ?_;refine oV [] (.inr Z) (.t1 Z) Z (Lr D) λ_ iL=>?_;exact Ha
 have mV:0 < ni:=by omega
 obtain ⟨b,off,ch,hAi,pQ,mv⟩:=lL.at_ hI mV;subst hAi;obtain ⟨l,hl⟩:∃ l,m.inp=ch::l:=by
   cases h:m.inp with
   | nil=>rw [h] at pQ;cases pQ
   | cons y l=>rw [h] at pQ;simp at pQ;exact ⟨l,by rw [pQ]⟩
 rw [hl] at hI;refine G8 ?_;refine iI (ly Y6 mV) Z<|iI (jW Y3 Pz Z) Z<|lF ?_;refine iI (S6 Z Z Z Z Z (show 1<=ni by omega)) Z<|G2 ?_;refine Wt 0 [_,_,_,_,_,_,_,_,_,_,_,_] Y9<|G5 ?_;refine iI (jD (Ga Z Z Z Z Z) (bj (Value.int .u32) (show IntKind.u32.wrap (ch.toNat:Int)=(ch.toNat:Int) by rw [cQ];have:=ch.toNat_lt;omega))) Z<|G4 ?_;refine oV [] (.inr Z) (.t1 Z) Z (Lr D) λ_ iL=>?_;exact Ha
def iX(p:ja)(S:Sem)(f:iT)(nm:iR)(y:Ex)(m:MS):ER Int:=(S.e f y m).and λi m1=>if ((pn p nm m1).length:Int)<=i then .fin m1 1 1 else .ok i m1
theorem ER.and_assoc{α β γ:Type}(r:ER α)(k:α->MS->ER β)(g:β->MS->ER γ):(r.and k).and g=r.and λa m=>(k a m).and g:=by cases r<;>rfl
def qHv(hk:x.kind=3):vX p jx S f x m=(iX p S f x.name (lP x.args 0) m).and λi m1=>.ok ((pn p x.name m1).getD i.toNat 0) m1:=by
 rw [vX,am O,am O,aw hk,iX,ER.and_assoc];congr 1;funext i m1;split<;>rfl
def qu0{x:jb}(hk:x.kind=2):sX p S f x m=(iX p S f x.name (lP x.exprs 0) m).and λi m1=>(S.e f (lP x.exprs 1) m1).and λv m2=>.ok (0,0) { m2 with ae:=m2.ae.set (nS p x.name).toNat ((pn p x.name m2).set i.toNat v) }:=by
 rw [sX,am O,aw hk,iX,ER.and_assoc];congr 1;funext i m1;split<;>rfl
def Qr{y:Ex}{m1:MS}(h:iX p S f nm y m=.ok a m1):a < ((pn p nm m1).length:Int):=by
 unfold iX at h;cases hr:S.e f y m with
 | out=>rw [hr] at h;cases h
 | fin _ _ _=>rw [hr] at h;cases h
 | ok i m2=>
  rw [hr] at h;simp only [ER.and] at h;split at h
  . cases h
  . injection h with h1 h2;subst h1;subst h2;omega
theorem qCT(hk:x.kind=4):vX p jx S f x m=(qf (S.e f) x.args m).and λvs m=>S.c (uJ p x.name).toNat vs m:=by grind [vX]
theorem qHw(hk:x.kind=6):vX p jx S f x m=(S.e f (lP x.args 0) m).and λa m=>.ok (if (mW x.op 0).1=0 then nI x.op a 0 else 0) m:=by grind [vX,jx]
def qHt(hk:x.kind=7):vX p jx S f x m=(S.e f (lP x.args 0) m).and λa m=>if x.op=20/\a=0 then .ok 0 m else if x.op=21/\a≠0 then .ok 1 m else (S.e f (lP x.args 1) m).and λb m=>if (mW x.op b).1=0 then .ok (nI x.op a b) m else .fin m 1 2:=by
 rw [vX,am O,am O,am O,am O,am O,am O];congr 1;funext a m;split
 . rfl
 split
 . rfl
 congr 1;funext b m;by_cases h:(mW x.op b).1=0
 . simp only [jx,aw h]
 . simp only [jx,am h]
def Vm{k x:Int}(hx:iY x)(hy:iY y):iY (if (mW k y).1=0 then nI k x y else 0):=by
 split
 . exact E5 hx hy
 . exact ⟨by decide,by decide⟩
def SD:∀ {ab:List (Option Nat)} {gs:List jM} {k b:Nat} {g:jM},ab[k]?=some (some b)->gs[k]?=some g->(vH ab gs)[k]?=some (.slice (j6 b) g.num.toNat g.num.toNat)
 | [],_,_,_,_,h,_=>by simp at h
 | _::_,[],_,_,_,_,h=>by simp at h
 | some b::r,g::gs,0,b2,g2,h1,h2=>by simp at h1 h2;subst h1;subst h2;rfl
 | none::r,g::gs,0,b2,g2,h1,h2=>by simp at h1
 | some b::r,g::gs,k+1,b2,g2,h1,h2=>by rw [vH,bH];exact SD Q7 Q11
 | none::r,g::gs,k+1,b2,g2,h1,h2=>by rw [vH,bH];exact SD Q7 Q11
def SC:∀ {ab:List (Option Nat)} {ls:List LInt9} {k b:Nat},ab[k]?=some (some b)->k < ls.length->∃ i,(ol ab ls)[i]?=some (b,cb (wv (ls.getD k [])) 22)/\i < (ol ab ls).length/\∀ l,(ol ab ls).set i (b,cb (wv l) 22)=ol ab (ls.set k l)
 | [],_,_,_,h,_=>by simp at h
 | _::_,[],_,_,_,h=>by simp at h
 | some b::r,l::ls,0,b2,h1,h2=>by
  simp at h1;subst h1;exact ⟨0,rfl,by simp [ol],λl=>rfl⟩
 | none::r,l::ls,0,b2,h1,h2=>by simp at h1
 | some b::r,l::ls,k+1,b2,h1,h2=>by
  obtain ⟨i,a1,a2,a3⟩:=SC (ab:=r) (ls:=ls) (k:=k) (b:=b2) Q7 Q11;refine ⟨i+1,by rw [ol,bH];simpa using a1,by rw [ol,au];omega,λl2=>?_⟩;rw [dN,ol,ol,dN,a3]
 | none::r,l::ls,k+1,b2,h1,h2=>by
  obtain ⟨i,a1,a2,a3⟩:=SC (ab:=r) (ls:=ls) (k:=k) (b:=b2) Q7 Q11;exact ⟨i,by rw [ol];simpa using a1,a2,λl2=>by rw [dN,ol,ol,a3]⟩
def h_{b:Nat}{o o':Obj}:∀ {L:Hl} {i:Nat},L[i]?=some (b,o)->lO L i o'=L.set i (b,o')
 | [],_,h=>by simp at h
 | x::L,0,h=>by simp at h;subst h;rfl
 | x::L,i+1,h=>by rw [lO,dN,h_ Q4]
section
variable{c:MC}{iv:Value}{g:jM}
def MG.ary(hM:MG p c N m iv ov R s)(hC:CT p c s)(hp:p.o[k]?=some g)(h3:g.kind=3)(hg:nS p nm=(k:Int)):∃ b,c.ab[k]?=some (some b)/\iH s c.ba (0+k) [.slice (j6 b) g.num.toNat g.num.toNat]/\(pn p nm m).length=g.num.toNat/\k < c.ng:=by
 obtain ⟨⟨b,hb⟩,hl⟩:=hM.ar k g hp h3;exact ⟨b,hb,hC.ar.nth (SD hb hp),by rw [pn,hg,aH];exact hl,by rw [hM.ng];exact (al.1 hp).1⟩
def MG.blk(hM:MG p c N m iv ov R s)(hb:c.ab[k]?=some (some b))(hk:k < c.ng)(hg:nS p nm=(k:Int))(x y z:Nat×Obj)(L:Hl):∃ i,(x::y::z::(R++L))[i+3]?=some (b,cb (wv (pn p nm m)) 22)/\∀ l,(∃ R',lO (x::y::z::(R++L)) (i+3) (cb (wv l) 22)=x::y::z::(R'++L)/\∀ s',MG p c N m iv ov R s'->l.length=(pn p nm m).length->(∀ v∈l,iY v)->MG p c N { m with ae:=m.ae.set k l } iv ov R' s'):=by
  obtain ⟨Mo,hR,hO⟩:=hM.out;obtain ⟨i,a1,a2,a3⟩:=SC (ls:=m.ae) hb (by rw [hM.la];exact hk);have hA:pn p nm m=m.ae.getD k []:=by rw [pn,hg,aH]
  refine ⟨i,?_,λl=>⟨ol c.ab (m.ae.set k l)++Mo,?_,λs' pP hl hu=>?_⟩⟩
  . show (R++L)[i]?=_
    rw [hR,an,aR a2,a1,hA]
  . rw [<- a3,hR,h_ (b:=b) (o:=cb (wv (pn p nm m)) 22)]
    . show x::y::z::((ol c.ab m.ae++Mo++L).set i _)=_
      rw [an,List.set_append_left _ _ a2,an]
    . show (ol c.ab m.ae++Mo++L)[i]?=_
      rw [an,aR a2,a1,hA]
  . have AW:k < m.ae.length:=by rw [hM.la];exact hk
    refine ⟨pP.inp,⟨Mo,Z,hO⟩,pP.ug,pP.uf,λl2 h2 v hv=>?_,pP.ng,pP.lg,pP.lf,pP.lb,by rw [cR];exact pP.la,λj g2 hj h3=>?_,pP.lo,pP.lc,pP.ll,pP.lN⟩
    . rcases gp h2 with h2|rfl
      . exact pP.ua l2 h2 v hv
      . exact hu v hv
    . obtain ⟨q1,q2⟩:=pP.ar j g2 hj h3
      refine ⟨q1,?_⟩;by_cases hjk:k=j
      . subst hjk
        show ((m.ae.set k l).getD k []).length=_;rw [aM,bK AW,eh,hl,hA];exact q2
      . show ((m.ae.set k l).getD j []).length=_
        rw [aM,bl hjk,<- aM];exact q2
def Iv{p:Prop} (h:p:=by
 rw [pn,hg,aH,aM] at hx;cases hl:m.ae[k]? with
 | none=>rw [hl] at hx;cases hx
 | some l=>rw [hl] at hx;exact hM.ua l (ay hl) x hx):p:=h
def MG.ix(hM:MG p c N m iv ov R s)(hg:nS p nm=(k:Int))(i:Nat):iY ((pn p nm m).getD i 0):=by
 refine Th (λx hx=>?_) i;exact Iv
end
def Pj{p:Prop} (h:p:=by
 exact ⟨qG,mf1,sf1,cf1,Zf1,EW hq he1,rfl,hF1⟩):p:=h
def Pk{p:Prop} (h:p:=by
 exact ⟨xb,m1,_,_,_,by rw [hq,aw O],rfl,((mG.le hx3).fin _ _ _)⟩):p:=h
def Wo{p:Prop} (h:p:=by
 rintro _ _ sx3 hx3 ⟨xb,rfl⟩ sZ;repeat (first|refine sI ?_|refine sJ ?_)
 refine sN [] Pr (h1.t hx3) λ_ iL=>?_;exact Pk):p:=h
def E2{p:Prop} (h:p:=by
 rintro _ _ sx1 yV ⟨qG,mf1,sf1,cf1,Zf1,he1,rfl,hF1⟩ sZ;repeat (first|refine sI ?_|refine sJ ?_)
 refine sN [] Pr yV λ_ iL=>?_;exact Pj):p:=h
def Sk(p:ja)(n:Nat)(hE:uM p D n)(L:Hl)(c:MC)(N:Nat)(f:iT)(d:Nat)(y:Ex)(nm:iR)(k b:Nat)(g:jM)(m:MS)(iv ov:Value)(R:Hl)(hC:CT p c s)(hn:c.nf=f.params.length+f.locals.length)(hM:MG p c N m iv ov R s)(hg:nS p nm=(k:Int))(hp:p.o[k]?=some g)(vh:g.kind=3)(hv:lU p f d s y [.func (.func 143) #[] #[jc b]])(hr:iX p (jm p jx n) f nm y m≠.out):AP prog D 104 [.pointer (some ⟨c.bm,0,none⟩),iJ (k:Int),.func (.func 143) #[] #[jc b]] (MB c N 0 m iv ov 0 0::mw c m::mo c m::(R++L)) s (py p c N (iX p (jm p jx n) f nm y m) VE RE [] L) (pv c N (iX p (jm p jx n) f nm y m) [] L):=by
 obtain ⟨r,hq⟩:∃ r,r=iX p (jm p jx n) f nm y m:=⟨_,rfl⟩;rw [<- hq] at hr ⊢;rw [iX] at hq;refine qI (fn:=f104) jl func104 V Z ntmps104 Z (rs:=[.tmp 6]) Z [(0,_),(1,_),(2,_)] Z<|G9 ?_;refine rH (first:=[]) (captured:=[jc b]) Y3 (AP.fr (λL=>hE L _ c N f d y _ m iv ov R (hC.le (Lr D)) hn (hv.le (Lr D)) (hM.le (Lr D)) (rk hq hr)) [] _) ?_ ?_;.exact E2
 rintro _ _ s1 h1 ⟨a1,m1,qS,ov1,R1,he1,⟨rfl,pr⟩,rfl,mG⟩;rw [he1] at hq;simp only [ER.and] at hq;simp only [iU,iV];obtain ⟨ba,qq,uj,xa,yQ⟩:=mG.ary (hC.le h1) hp vh hg;rw [xa] at hq;have A0:=pr.1;have hhi:=pr.2;have hgu:=(hC.gu g (ay hp)).2;have hgn:g.num.toNat<=9223372036854775807:=by omega
 refine G7 ?_;refine iI (sn Y5 (LD O O)) Z<|G5 ?_;refine iI (ly Y6 yQ) Z<|iI (jW Y3 (uj.le (Lr D)) Z) Z<|Ws Y4<|iI (sn Y5 (LD O O)) Z<|uH Y3<|J2 ?_ ?_<;>intro c2
 .have q9:=c2;refine G2 ?_;refine rH (first:=[]) (captured:=[]) Y3 (EM [] c N m1 qS ov1) ?_ ?_;.exact Wo
  rintro _ _ s3 h3 ⟨⟩
 have q9:=c2;rw [am O] at hq;refine G9 ?_;refine oV [] (.inr Z) (.t1 Z) Z h1 λ_ iL=>?_;exact ⟨_,m1,qS,ov1,R1,hq,⟨rfl,pr⟩,rfl,(mG.le ((Lr D).t iL))⟩
def Hb{p:Prop} (h:p:=by
 exact ⟨ri,mf2,sf2,cf2,Zf2,EW hq rc,rfl,mP⟩):p:=h
def Vw{p:Prop} (h:p:=by
 refine oV [] (.inr Z) (.t1 Z) Z Lc λ_ iL=>?_;exact ⟨_,m2,iv2,ov2,R2,hq,⟨rfl,jG.ix hg _⟩,rfl,Pz⟩):p:=h
def DA{p:Prop} (h:p:=by
 rintro _ _ sx2 uu ⟨ri,mf2,sf2,cf2,Zf2,rc,rfl,mP⟩ sZ;repeat (first|refine sI ?_|refine sJ ?_)
 refine sN [] Pr Lc λ_ iL=>?_;exact Hb):p:=h
def qGm(p:ja)(n:Nat)(hE:uM p D n)(L:Hl)(s:World)(c:MC)(N:Nat)(f:iT)(d:Nat)(x:Ex)(m:MS)(iv ov:Value)(R:Hl)(hC:CT p c s)(hn:c.nf=f.params.length+f.locals.length)(hM:MG p c N m iv ov R s)(b1 b2 k:Nat)(g:jM)(A:OAdr9)(n1 z1:Nat)(hk:x.kind=3)(hg:nS p x.name=(k:Int))(hp:p.o[k]?=some g)(vh:g.kind=3)(o9:iH s b1 0 [iJ (k:Int)])(tJ:iH s b2 0 [.slice A n1 z1])(hA:pI p f d s A n1 z1 x.args)(h0:0 < n1)(hr:vX p jx (jm p jx n) f x m≠.out):AP prog D 187 [.pointer (some ⟨c.bm,0,none⟩),jc b1,jc b2] (MB c N 0 m iv ov 0 0::mw c m::mo c m::(R++L)) s (py p c N (vX p jx (jm p jx n) f x m) VE RE [] L) (pv c N (vX p jx (jm p jx n) f x m) [] L):=by
 obtain ⟨r,hq⟩:∃ r,r=vX p jx (jm p jx n) f x m:=⟨_,rfl⟩;rw [<- hq] at hr ⊢;rw [qHv hk] at hq;obtain ⟨B0,o0,b0,rfl,hcE,hvE⟩:=pI.at_ hA h0;obtain ⟨ba,qq,uj,xa,yQ⟩:=hM.ary hC hp vh hg;refine qI (fn:=f187) jl func187 V Z ntmps187 Z (rs:=[.tmp 4]) Z [(0,_),(1,_),(2,_)] Z<|G6 ?_;refine ma jF 16 Z ([]:Hl) (λx hx=>by cases hx) λs1 h1=>H3 ?_;refine za 4 Z (jW Y3 (o9.le h1) Z) Z<|H1 ?_;refine za 8 Z (jW Y3 (o9.le h1) Z) Z<|za 9 Z (jW Y3 (tJ.le h1) Z) Z<|za 10 Z (ly Y6 h0) Z<|za 11 Z (jW Y3 Pz Z) Z ?_;refine kD 3 12 V ?_ ?_
 .refine j5 Z Tt (Wd 0 Y5) Z<|za 5 Z (ly Y6 yQ) Z<|za 6 Z (jW Y3 Pz Z) Z<|iM 12 V ?_;refine zc Z Tt (first:=[]) (captured:=[]) Z Z Z (AP.fr (λL=>Sk p n hE L c N f d (lP x.args 0) x.name k b0 g m iv ov R Pz hn Pz hg hp vh Pz (rk hq hr)) [] _) ?_ ?_;.exact DA
  rintro _ _ s2 h2 ⟨a2,m2,iv2,ov2,R2,rc,⟨rfl,oE⟩,rfl,jG⟩;refine ⟨(λx hx=>by cases hx),?_⟩;rw [rc] at hq;simp only [ER.and] at hq;simp only [iU,iV];have hia:=Qr rc;have A0:=oE.1;obtain ⟨ba2,qE,_,hla2,_⟩:=jG.ary Pz hp vh hg;rw [qq] at qE;injection qE with qE
  injection qE with qE;subst qE;obtain ⟨i,hbi,_⟩:=jG.blk qq yQ hg (MB c N 0 m2 iv2 ov2 0 0) (mw c m2) (mo c m2) L;refine za 13 Z (xw Y6 A0 (show a2 < ((g.num.toNat:Nat):Int) by omega)) Z<|iM 14 V<|j5 Z Tt (rj (i+3) ⟨Z,hbi,Z,Z⟩ (N7 A0 hia)) Z<|H1 ?_;refine jq V<|G2 ?_;exact Vw
 refine zc Z Tt (first:=[]) (captured:=[]) Z Z Z (AP.fr (λL=>Sk p n hE L c N f d (lP x.args 0) x.name k b0 g m iv ov R Pz hn Pz hg hp vh Pz (rk hq hr)) [] _) ?_ ?_;.exact DA
 rintro _ _ s2 h2 ⟨a2,m2,iv2,ov2,R2,rc,⟨rfl,oE⟩,rfl,jG⟩;refine ⟨(λx hx=>by cases hx),?_⟩;rw [rc] at hq;simp only [ER.and] at hq;simp only [iU,iV];have hia:=Qr rc;have A0:=oE.1;obtain ⟨ba2,qE,_,hla2,_⟩:=jG.ary Pz hp vh hg;rw [qq] at qE;injection qE with qE
 injection qE with qE;subst qE;obtain ⟨i,hbi,_⟩:=jG.blk qq yQ hg (MB c N 0 m2 iv2 ov2 0 0) (mw c m2) (mo c m2) L;refine iM 3 V<|j5 Z Tt (Wd 0 Y5) Z<|za 5 Z (ly Y6 yQ) Z<|za 6 Z (jW Y3 (uj.le h1) Z) Z<|za 13 Z (xw Y6 A0 (show a2 < ((g.num.toNat:Nat):Int) by omega)) Z<|iM 14 V<|j5 Z Tt (rj (i+3) ⟨Z,hbi,Z,Z⟩ (N7 A0 hia)) Z<|H1 ?_;refine jq V<|G2 ?_;exact Vw
def Hc{p:Prop} (h:p:=by
 exact ⟨_,m2,iv2,ov2,R2,hq,⟨rfl,Vm oE ⟨by decide,by decide⟩⟩,rfl,Pz⟩):p:=h
def QJ{p:Prop} (h:p:=by
 exact ⟨xb,mf3,sf3,cf3,Zf3,EW hq he3,rfl,hF3⟩):p:=h
def qHp(p:ja)(n:Nat)(hE:uM p D n)(L:Hl)(s:World)(c:MC)(N:Nat)(f:iT)(d:Nat)(x:Ex)(m:MS)(iv ov:Value)(R:Hl)(hC:CT p c s)(hn:c.nf=f.params.length+f.locals.length)(hM:MG p c N m iv ov R s)(b1 b2:Nat)(A1:OAdr9)(n1 z1:Nat)(A:OAdr9)(n2 z2:Nat)(hk:x.kind=6)(o9:iH s b1 0 [iJ x.kind,iJ x.op,iO x.num,St x.name,.slice A1 n1 z1])(tJ:iH s b2 0 [.slice A n2 z2])(hA:pI p f d s A n2 z2 x.args)(h0:0 < n2)(hr:vX p jx (jm p jx n) f x m≠.out):AP prog D 189 [.pointer (some ⟨c.bm,0,none⟩),jc b1,jc b2] (MB c N 0 m iv ov 0 0::mw c m::mo c m::(R++L)) s (py p c N (vX p jx (jm p jx n) f x m) VE RE [] L) (pv c N (vX p jx (jm p jx n) f x m) [] L):=by
 obtain ⟨r,hq⟩:∃ r,r=vX p jx (jm p jx n) f x m:=⟨_,rfl⟩;rw [<- hq] at hr ⊢;rw [qHw hk] at hq;obtain ⟨B0,o0,b0,rfl,hcE,hvE⟩:=pI.at_ hA h0;refine qI (fn:=f189) jl func189 V Z ntmps189 Z (rs:=[.tmp 4]) Z [(0,_),(1,_),(2,_)] Z<|G6 ?_;refine ma jF 14 Z ([]:Hl) (λx hx=>by cases hx) λs1 h1=>H1 ?_;refine za 1 Z (nh 1 Y3 (o9.le h1) Z) Z<|za 2 Z (jW Y3 (tJ.le h1) Z) Z<|za 3 Z (ly Y6 h0) Z<|za 4 Z (jW Y3 Pz Z) Z<|H1 ?_;refine kD 6 11 V ?_ ?_
 .refine zc Z Tt (first:=[]) (captured:=[jc b0]) Z Z Z (AP.fr (λL=>hE L _ c N f d (lP x.args 0) _ m iv ov R Pz hn Pz Pz (rk hq hr)) [] _) ?_ ?_;.exact DA
  rintro _ _ s2 h2 ⟨a2,m2,iv2,ov2,R2,rc,⟨rfl,oE⟩,rfl,jG⟩;refine ⟨(λx hx=>by cases hx),?_⟩;rw [rc] at hq;simp only [ER.and] at hq;simp only [iU,iV];refine kD 7 11 V ?_ ?_;.refine Jb Z Tt Z Z Z (yZ D _ _ x.op a2 0 oE ⟨by decide,by decide⟩) ?_;rintro _ _ s3 h3 ⟨rfl,rfl⟩;refine ⟨(λx hx=>by cases hx),?_⟩;refine H3 ?_;refine iM 11 V<|kA Z Tt Z [_,_] Y2 λβ4 s4 h4=>H1 ?_;refine iM 13 V<|Wu Z Tt 0 [_,_] Y9 (λx hx=>by cases hx)<|jq V<|G8 ?_;refine oV [_] (.inr Z) (.t1 Z) Z Lc λ_ iL=>?_;exact Hc
  refine kA Z Tt Z [_,_] Y2 λβ3 s3 h3=>iM 7 V<|Jb Z Tt Z Z Z (yZ D _ _ x.op a2 0 oE ⟨by decide,by decide⟩) ?_;rintro _ _ s4 h4 ⟨rfl,rfl⟩;refine ⟨(λx hx=>by cases hx),?_⟩;refine H4 ?_;refine iM 13 V<|Wu Z Tt 0 [_,_] Y9 (λx hx=>by cases hx)<|jq V<|G8 ?_;refine oV [_] (.inr Z) (.t1 Z) Z Lc λ_ iL=>?_;exact Hc
 refine kA Z Tt Z [_,_] Y2 λβ2 s2 h2=>iM 6 V ?_;refine zc Z Tt (first:=[]) (captured:=[jc b0]) Z Z Z (AP.fr (λL=>hE L _ c N f d (lP x.args 0) _ m iv ov R Pz hn (hvE.le (h1.t h2)) Pz (rk hq hr)) [_] _) ?_ ?_
 .rintro _ _ sx3 hx3 ⟨xb,mf3,sf3,cf3,Zf3,he3,rfl,hF3⟩ sZ;repeat (first|refine sI ?_|refine sJ ?_)
  refine sN [_] Pr Lc λ_ iL=>?_;exact QJ
 rintro _ _ s3 h3 ⟨a3,m3,iv3,ov3,R3,he3,⟨rfl,hu3⟩,rfl,lW⟩;refine ⟨(λx hx=>by cases hx),?_⟩;rw [he3] at hq;simp only [ER.and] at hq;simp only [iU,iV];refine iM 7 V<|Jb Z Tt Z Z Z (yZ D _ _ x.op a3 0 hu3 ⟨by decide,by decide⟩) ?_;rintro _ _ s4 h4 ⟨rfl,rfl⟩;refine ⟨(λx hx=>by cases hx),?_⟩;refine H4 ?_;refine iM 13 V<|Wu Z Tt 0 [_,_] Y9 (λx hx=>by cases hx)<|jq V<|G8 ?_;refine oV [_] (.inr Z) (.t1 Z) Z Lc λ_ iL=>?_;exact ⟨_,m3,iv3,ov3,R3,hq,⟨rfl,Vm hu3 ⟨by decide,by decide⟩⟩,rfl,Pz⟩
end
end Go.Proofs.YtapeaicongaggaaGreatDoor
