/- Part 7. -/
import Derived.Test.YtapeaicongaggaaGreatDoorQ41z6
set_option linter.unusedSectionVars false
set_option linter.unusedVariables false
set_option linter.defProp false
set_option linter.unusedSimpArgs false
set_option linter.unnecessarySimpa false
set_option maxRecDepth 100000
set_option maxHeartbeats 8000000
namespace Go.Proofs.YtapeaicongaggaaGreatDoor
open Go Go.RowKit Go.Proofs.Tryz
def it:=@Int.le_refl
def iB:=@Nat.sub_self
variable{p:ja}{x:iT}{es:List (iR×Value×Nat)}{A Ag Af:OAdr9}{vl zv v:Value}{P:Program}{j k bb ty w n b d jr c ck:Nat}{af:Array Edge}{nm:iR}{ls:List iR}{iS:String}{Q:qd}{a kd o:Int}{ts:Array TypeId}{s0 s':World}{M K:Hl}{iP:List Oper}{R xs ys:LVal9}{dk:TypeDesc}{az:List Ex}{y:Operand}{k':IntKind}{e:Ex}
section
variable(D:Nat)(L:Hl)(s:World){i lp lv β:Nat}{l t:iR}{T:List (iR×(Int×Int))}
section
variable{y z:Ex}
def xz(h:az[0]?=some y):cH p x az w k=cE p x y w k:=by
 match az,h with
 | _::_,h=>simp at h;subst h;unfold cH;rfl
def OC(h:az[1]?=some y):cI p x az w k=cE p x y w k:=by
 match az,h with
 | _::r,h=>unfold cI;exact xz Q4
def qIz(h:az[j]?=some y):cC p x (az.drop j) w k=((cE p x y w k).1++.op qj::(cC p x (az.drop (j+1)) (w+1) (cE p x y w k).2).1,(cC p x (az.drop (j+1)) (w+1) (cE p x y w k).2).2):=by
 obtain ⟨hk,rfl⟩:=al.1 h;rw [aL hk,cC]
def PX(h:e.kind=1):cE p x e w k=([.num pp e.num],k):=by
 obtain ⟨kd,o,n,nm,az⟩:=e;unfold cE;exact aw h
def PY(h:e.kind=2):cE p x e w k=([cN p x e.name w],k):=by
 obtain ⟨kd,o,n,nm,az⟩:=e;have h:kd=2:=h;subst h;unfold cE;rfl
def PZ(h:e.kind=3)(hy:e.args[0]?=some y):cE p x e w k=((cE p x y w k).1++[.num Dx (vi p (gi p e.name)),.ref Oh (gT (gi p e.name))],(cE p x y w k).2):=by
 obtain ⟨kd,o,n,nm,az⟩:=e;have h:kd=3:=h;subst h;simp only [cE,Int.reduceEq,↓reduceIte,xz (az:=az) hy,Ex.name]
def P0(h:e.kind=4):cE p x e w k=((cC p x e.args w k).1++cL p e.name e.args.length,(cC p x e.args w k).2):=by
 obtain ⟨kd,o,n,nm,az⟩:=e;have h:kd=4:=h;subst h;unfold cE;rfl
def P4(h:e.kind=5):cE p x e w k=([.op MD],k):=by
 obtain ⟨kd,o,n,nm,az⟩:=e;have h:kd=5:=h;subst h;unfold cE;rfl
def P5(h:e.kind=6)(ho:e.op=1)(hy:e.args[0]?=some y):cE p x e w k=((cE p x y w k).1++[.op qz],(cE p x y w k).2):=by
 obtain ⟨kd,o,n,nm,az⟩:=e;have h:kd=6:=h;have ho:o=1:=ho;subst h;subst ho;simp only [cE,Int.reduceEq,↓reduceIte,xz (az:=az) hy]
def P6(h:e.kind=6)(ho:¬ e.op=1)(hy:e.args[0]?=some y):cE p x e w k=(.num pp (if e.op=3 then 4294967295 else 0)::.op qj::(cE p x y (w+1) k).1++[.op EB],(cE p x y (w+1) k).2):=by
 obtain ⟨kd,o,n,nm,az⟩:=e;have h:kd=6:=h;subst h;simp only [cE,Int.reduceEq,↓reduceIte,xz (az:=az) hy,am (show ¬ o=1 from ho),Ex.op];rfl
section
variable(h:e.kind=7)(hy:e.args[0]?=some y)(hz:e.args[1]?=some z)
include h hy hz
theorem Xf(ho:e.op=20):cE p x e w k=((cE p x y w k).1++.ref tv (lT ((cE p x y w k).2+1))::(cE p x z w ((cE p x y w k).2+1)).1++[.op qz,.op qz,.lab (lT ((cE p x y w k).2+1))],(cE p x z w ((cE p x y w k).2+1)).2):=by
 obtain ⟨kd,o,n,nm,az⟩:=e;have h:kd=7:=h;have ho:o=20:=ho;subst h;subst ho;simp only [cE,Int.reduceEq,↓reduceIte,xz (az:=az) hy,OC (az:=az) hz]
theorem Xg(ho:e.op=21):cE p x e w k=((cE p x y w k).1++.op qz::.ref tv (lT ((cE p x y w k).2+1))::(cE p x z w ((cE p x y w k).2+1)).1++[.op qz,.lab (lT ((cE p x y w k).2+1)),.op qz],(cE p x z w ((cE p x y w k).2+1)).2):=by
 obtain ⟨kd,o,n,nm,az⟩:=e;have h:kd=7:=h;have ho:o=21:=ho;subst h;subst ho;simp only [cE,Int.reduceEq,↓reduceIte,xz (az:=az) hy,OC (az:=az) hz]
theorem Xh(ho:¬ e.op=20)(mR:¬ e.op=21):cE p x e w k=((cE p x y w k).1++.op qj::(cE p x z (w+1) (cE p x y w k).2).1++(x5 e.op).map .op,(cE p x z (w+1) (cE p x y w k).2).2):=by
 obtain ⟨kd,o,n,nm,az⟩:=e;have h:kd=7:=h;subst h;simp only [cE,Int.reduceEq,↓reduceIte,xz (az:=az) hy,OC (az:=az) hz,am (show ¬ o=20 from ho),am (show ¬ o=21 from mR),Ex.op]
end
mutual
def E1:∀ (e:Ex) (w k:Nat),(cE p x e w k).2<=k+2 * ns e
 | .mk kd o n nm az,w,k=>by
  have a:=OG az w k;have b:=OG az (w+1) k;have c:=TZ az w k;have d:=T5 az w ((cH p x az w k).2+1);have f:=T5 az (w+1) (cH p x az w k).2;have g:=OL az;rw [ns];unfold cE;repeat' split
  all_goals (simp only;omega)
def OG:∀ (l:List Ex) (w k:Nat),(cH p x l w k).2<=k+2 * hN l
 | [],w,k=>by unfold cH;exact aC _
 | y::r,w,k=>by unfold cH;rw [hN];exact E1 y w k
def T5:∀ (l:List Ex) (w k:Nat),(cI p x l w k).2<=k+2 * iN l
 | [],w,k=>by unfold cI;exact aC _
 | y::r,w,k=>by unfold cI;rw [iN];exact OG r w k
def TZ:∀ (l:List Ex) (w k:Nat),(cC p x l w k).2<=k+2 * ln l
 | [],w,k=>by unfold cC;exact aC _
 | y::r,w,k=>by
  have a:=E1 y w k;have b:=TZ r (w+1) (cE p x y w k).2;unfold cC;rw [ln];simp only;omega
end
def yD(p:ja)(x:iT)(e:Ex):Prop:=nN e=true/\∃ lp,∀ nd∈pk e lp,j7 p x nd=0
def vd(p:ja)(x:iT)(l:List Ex):Prop:=o5 l=true/\∃ lp,∀ nd∈pM l lp,j7 p x nd=0
def vd.at_:∀ {l:List Ex} {j:Nat},vd p x l->l[j]?=some y->yD p x y
 | z::r,0,⟨h1,lp,h2⟩,h=>by
  simp at h;subst h;simp only [o5,aA] at h1;exact ⟨h1.1,lp,λnd k=>h2 nd (aN _ k)⟩
 | z::r,j+1,⟨h1,lp,h2⟩,h=>by
  simp only [o5,aA] at h1;exact vd.at_ (l:=r) ⟨h1.2,lp,λnd k=>h2 nd (aJ _ k)⟩ Q4
def yD.args(h:yD p x e):vd p x e.args:=by
 obtain ⟨kd,o,n,nm,az⟩:=e;obtain ⟨h,lp,hd⟩:=h;exact ⟨(ze h).2,lp,λnd k=>hd nd (aq _ k)⟩
def zd:∀ {l:List Ex} {j:Nat},l[j]?=some y->ln (l.drop j)=ns y+ln (l.drop (j+1))
 | z::r,0,h=>by simp at h;subst h;simp only [cn,ee,ln]
 | z::r,j+1,h=>by simp only [ee];exact zd Q4
def Qw(hy:e.args[0]?=some y):ns e=1+ns y+ln (e.args.drop 1):=by
 obtain ⟨kd,o,n,nm,az⟩:=e;have h:=zd (l:=az) (j:=0) hy;rw [cn] at h;rw [ns,h,<- dV];rfl
def qIN(hy:e.args[0]?=some y)(hz:e.args[1]?=some z):1+ns y+ns z<=ns e:=by
 rw [Qw hy,zd hz];omega
def VZ{p:Prop} (h:p:=by
 rcases Gi hd Dc Dc with ⟨_,h1⟩|⟨h1,i,g,h2,h3,_⟩
 . exact .inl h1
 . exact .inr ⟨h1.resolve_right Dc,i,g,h2,h3⟩):p:=h
def Qk(h:yD p x e)(hk:e.kind=2):(∃ a,mr (sE x) e.name=some a)\/mr (sE x) e.name=none/\∃ (i:Nat) (g:jM),gi p e.name=(i:Int)/\p.o[i]?=some g:=by
 obtain ⟨kd,o,n,nm,az⟩:=e;obtain ⟨_,lp,hd⟩:=h;have hd:=hd _ Mc;rw [j7,o6,aw hk] at hd;exact VZ
def VA{p:Prop} (h:p:=by
 obtain ⟨_,i,g,h2,h3,_⟩:=(Gi (x:=x) (nm:=nm) (uk:=3) (na:=0) hd Dc Dc).resolve_left (λh=>absurd h.1 Dc);exact ⟨i,g,h2,h3⟩):p:=h
def Ql(h:yD p x e)(hk:e.kind=3):∃ (i:Nat) (g:jM),gi p e.name=(i:Int)/\p.o[i]?=some g:=by
 obtain ⟨kd,o,n,nm,az⟩:=e;obtain ⟨_,lp,hd⟩:=h;have hd:=hd _ Mc;have hk:kd=3:=hk;subst hk;rw [j7,o6] at hd;exact VA
def Ti{g:jM}(h:p.o[i]?=some g):vi p (i:Int)=g.num:=by rw [vi,aH,h]
def SX(h:yD p x e):tu e.kind<=e.args.length/\1<=e.kind/\e.kind<=7/\(e.kind=7->4<=e.op/\e.op<=21):=by
 obtain ⟨a1,a2,a3,a4,a5,a6⟩:=Bm (ze h.1).1;exact ⟨a3,a1,a2,λk=>⟨(a6 k).1,(a6 k).2⟩⟩
def PK(h:mr (sE x) nm=some a):cN p x nm w=.num Oi ((jt x:Int)+(w:Int) - a):=by rw [cN,h]
section
variable{i:Nat}{g:jM}(h:mr (sE x) nm=none)(hi:gi p nm=(i:Int))(hg:p.o[i]?=some g)
include h hi hg
theorem PI(hc:g.kind=1):cN p x nm w=.num pp g.num:=by rw [cN,h,hi,Dl hg,Ti hg];exact aw hc
theorem PJ(hc:¬ g.kind=1):cN p x nm w=.ref QF (gT (i:Int)):=by rw [cN,h,hi,Dl hg];exact am hc
end
end
theorem FU{es:List Ex}{b e:List jb}(h:∀ nd∈xZ (.mk kd nm es b e) lp,j7 p x nd=0):j7 p x (.st (.mk kd nm es b e) lp)=0/\(∀ nd∈pM es lp,j7 p x nd=0)/\(∀ nd∈lI b (if kd=4 then lp+1 else lp),j7 p x nd=0)/\∀ nd∈lI e (if kd=4 then lp+1 else lp),j7 p x nd=0:=by grind [xZ]
section
variable{y:jb}{f:Ex}
def qIv(h:mr (sE x) nm=some a):BK p x nm=.num NG ((jt x:Int) - a):=by rw [BK,h]
def qIu(h:mr (sE x) nm=none)(hi:gi p nm=(i:Int)):BK p x nm=.ref Tw (gT (i:Int)):=by rw [BK,h,hi]
def qIy{l:List jb}(h:l[j]?=some y):cB p x (l.drop j) k ls=((cS p x y k ls).1++(cB p x (l.drop (j+1)) (cS p x y k ls).2 ls).1,(cB p x (l.drop (j+1)) (cS p x y k ls).2 ls).2):=by
 obtain ⟨hk,rfl⟩:=al.1 h;rw [aL hk,cB]
def PL(h:y.kind=1)(he:y.exprs[0]?=some e):cS p x y k ls=((cE p x e 0 k).1++[BK p x y.name],(cE p x e 0 k).2):=by
 obtain ⟨kd,nm,es,b,l⟩:=y;have h:kd=1:=h;subst h;simp only [cS,Int.reduceEq,↓reduceIte,xz (az:=es) he,jb.name]
def PM(h:y.kind=2)(he:y.exprs[0]?=some e)(hf:y.exprs[1]?=some f):cS p x y k ls=((cE p x e 0 k).1++.num Dx (vi p (gi p y.name))::.op qj::(cE p x f 1 (cE p x e 0 k).2).1++[.ref Oj (gT (gi p y.name))],(cE p x f 1 (cE p x e 0 k).2).2):=by
 obtain ⟨kd,nm,es,b,l⟩:=y;have h:kd=2:=h;subst h;simp only [cS,Int.reduceEq,↓reduceIte,xz (az:=es) he,OC (az:=es) hf,jb.name]
def IX(h:y.kind=3)(he:y.exprs[0]?=some e)(hl:y.els=[]):cS p x y k ls=((cE p x e 0 (k+1)).1++.ref tv (lT (k+1))::(cB p x y.body (cE p x e 0 (k+1)).2 ls).1++[.lab (lT (k+1))],(cB p x y.body (cE p x e 0 (k+1)).2 ls).2):=by
 obtain ⟨kd,nm,es,b,l⟩:=y;have h:kd=3:=h;have hl:l=[]:=hl;subst h;subst hl;simp only [cS,Int.reduceEq,↓reduceIte,xz (az:=es) he,jb.body,ap]
def Xd(h:y.kind=3)(he:y.exprs[0]?=some e)(hl:y.els.length≠0):cS p x y k ls=((cE p x e 0 (k+1)).1++.ref tv (lT (k+1))::(cB p x y.body (cE p x e 0 (k+1)).2 ls).1++.ref vE (lT ((cB p x y.body (cE p x e 0 (k+1)).2 ls).2+1))::.lab (lT (k+1))::(cB p x y.els ((cB p x y.body (cE p x e 0 (k+1)).2 ls).2+1) ls).1++[.lab (lT ((cB p x y.body (cE p x e 0 (k+1)).2 ls).2+1))],(cB p x y.els ((cB p x y.body (cE p x e 0 (k+1)).2 ls).2+1) ls).2):=by
 obtain ⟨kd,nm,es,b,l⟩:=y;have h:kd=3:=h;subst h;simp only [cS,Int.reduceEq,↓reduceIte,xz (az:=es) he,am (show ¬ l.length=0 from hl),jb.body,jb.els]
def PN(h:y.kind=4)(he:y.exprs[0]?=some e):cS p x y k ls=(.lab (lT (k+1))::(cE p x e 0 (k+2)).1++.ref tv (lT (k+2))::(cB p x y.body (cE p x e 0 (k+2)).2 (ls++[lT (k+1),lT (k+2)])).1++[.ref vE (lT (k+1)),.lab (lT (k+2))],(cB p x y.body (cE p x e 0 (k+2)).2 (ls++[lT (k+1),lT (k+2)])).2):=by
 obtain ⟨kd,nm,es,b,l⟩:=y;have h:kd=4:=h;subst h;simp only [cS,Int.reduceEq,↓reduceIte,xz (az:=es) he,jb.body]
def PO(h:y.kind=5):cS p x y k ls=((cC p x y.exprs 0 k).1++cL p y.name y.exprs.length,(cC p x y.exprs 0 k).2):=by
 obtain ⟨kd,nm,es,b,l⟩:=y;have h:kd=5:=h;subst h;unfold cS;rfl
def PP(h:y.kind=6)(he:y.exprs[0]?=some e):cS p x y k ls=((cE p x e 0 k).1++[.num DM (x.locals.length+1:Nat)],(cE p x e 0 k).2):=by
 obtain ⟨kd,nm,es,b,l⟩:=y;have h:kd=6:=h;subst h;simp only [cS,Int.reduceEq,↓reduceIte,xz (az:=es) he]
def PR(h:y.kind=7)(he:y.exprs[0]?=some e):cS p x y k ls=((cE p x e 0 k).1++[.op ME],(cE p x e 0 k).2):=by
 obtain ⟨kd,nm,es,b,l⟩:=y;have h:kd=7:=h;subst h;simp only [cS,Int.reduceEq,↓reduceIte,xz (az:=es) he]
def PS(h:y.kind=8)(he:y.exprs[0]?=some e):cS p x y k ls=((cE p x e 0 k).1++[.op Bv],(cE p x e 0 k).2):=by
 obtain ⟨kd,nm,es,b,l⟩:=y;have h:kd=8:=h;subst h;simp only [cS,Int.reduceEq,↓reduceIte,xz (az:=es) he]
def PU(h:y.kind=9):cS p x y k ls=([.ref vE (ls.getD (ls.length - 1) [])],k):=by
 obtain ⟨kd,nm,es,b,l⟩:=y;have h:kd=9:=h;subst h;unfold cS;rfl
def qIF(h:y.kind=10):cS p x y k ls=([.ref vE (ls.getD (ls.length - 2) [])],k):=by
 obtain ⟨kd,nm,es,b,l⟩:=y;have h:kd=10:=h;subst h;unfold cS;rfl
mutual
def Xe:∀ (y:jb) (k:Nat) (ls:List iR),(cS p x y k ls).2<=k+2 * qA y
 | .mk kd nm es b e,k,ls=>by
  have a:=λk=>OG (p:=p) (x:=x) es 0 k;have a1:=a k;have a2:=a (k+1);have a3:=a (k+2);have c:=TZ (p:=p) (x:=x) es 0 k;have d:=T5 (p:=p) (x:=x) es 1 (cH p x es 0 k).2;have f:=Gs b (cH p x es 0 (k+1)).2 ls;have g:=Gs e ((cB p x b (cH p x es 0 (k+1)).2 ls).2+1) ls;have i:=Gs b (cH p x es 0 (k+2)).2 (ls++[lT (k+1),lT (k+2)]);have h:=OL es;have h2:=OJ es;rw [qA];unfold cS;repeat' split
  all_goals (simp only;omega)
def Gs:∀ (l:List jb) (k:Nat) (ls:List iR),(cB p x l k ls).2<=k+2 * kC l
 | [],k,ls=>by unfold cB;exact aC _
 | y::r,k,ls=>by
  have a:=Xe y k ls;have b:=Gs r (cS p x y k ls).2 ls;unfold cB;rw [kC];simp only;omega
end
def zy(p:ja)(x:iT)(y:jb)(lp lv:Nat):Prop:=sx y lv=true/\∀ nd∈xZ y lp,j7 p x nd=0
def Co(p:ja)(x:iT)(l:List jb)(lp lv:Nat):Prop:=nT l lv=true/\∀ nd∈lI l lp,j7 p x nd=0
def Co.at_:∀ {l:List jb} {j:Nat},Co p x l lp lv->l[j]?=some y->zy p x y lp lv
 | z::r,0,⟨h1,h2⟩,h=>by
  simp at h;subst h;simp only [nT,aA] at h1;exact ⟨h1.1,λnd k=>h2 nd (aN _ k)⟩
 | z::r,j+1,⟨h1,h2⟩,h=>by
  simp only [nT,aA] at h1;exact Co.at_ (l:=r) ⟨h1.2,λnd k=>h2 nd (aJ _ k)⟩ Q4
def Tz:∀ {l:List jb} {j:Nat},l[j]?=some y->kC (l.drop j)=qA y+kC (l.drop (j+1))
 | z::r,0,h=>by simp at h;subst h;simp only [cn,ee,kC]
 | z::r,j+1,h=>by simp only [ee];exact Tz Q4
def zy.parts(h:zy p x y lp lv):lv<=16/\vd p x y.exprs/\Co p x y.body (if y.kind=4 then lp+1 else lp) (lv+1)/\Co p x y.els (if y.kind=4 then lp+1 else lp) (lv+1):=by
 obtain ⟨h1,h2,h3,h4,h5⟩:=wH h.1;obtain ⟨kd,nm,es,b,e⟩:=y;obtain ⟨d1,d2,d3,d4⟩:=FU h.2;exact ⟨h1,⟨h3,_,d2⟩,⟨h4,d3⟩,⟨h5,d4⟩⟩
def Ub(h:zy p x y lp lv)(hk:y.kind=1):(∃ a,mr (sE x) y.name=some a)\/mr (sE x) y.name=none/\∃ (i:Nat) (g:jM),gi p y.name=(i:Int)/\p.o[i]?=some g:=by
 obtain ⟨kd,nm,es,b,e⟩:=y;have hd:=(FU h.2).1;have e1:oY (.mk kd nm es b e)=(nm,1,0):=aw hk;have hk:kd=1:=hk;rw [j7,am Q17,e1] at hd;exact VZ
def Uc(h:zy p x y lp lv)(hk:y.kind=2):∃ (i:Nat) (g:jM),gi p y.name=(i:Int)/\p.o[i]?=some g:=by
 obtain ⟨kd,nm,es,b,e⟩:=y;have hd:=(FU h.2).1;have hk:kd=2:=hk;have e1:oY (.mk kd nm es b e)=(nm,3,0):=(am (show ¬ kd=1 by omega)).trans (aw hk);rw [j7,am Q17,e1] at hd;exact VA
def KA(h:zy p x y lp lv)(hk:y.kind=9\/y.kind=10):0 < lp:=by
 obtain ⟨kd,nm,es,b,e⟩:=y;have hd:=(FU h.2).1;rw [j7] at hd;by_cases h0:lp=0
 . rw [aw ⟨hk,h0⟩] at hd;cases hd
 . omega
theorem qyg(h:j < ls.length):(sb ls)[j]?=some (St (ls.getD j [])):=by grind [List.getD,sb]
end
def M_{α:Type}{l:List α}{x:α}(h:l[k]?=some x):l.drop k=x::l.drop (k+1):=by
 obtain ⟨hk,rfl⟩:=al.1 h;exact aL hk
def quK{e:Nat}{R:Hl}{m:Nat}(h:Own e 1 R (.slice A n c) n (xs++ys))(hm:m=xs.length)(hn:n≠0):Own e 1 R (.slice A m c) m xs:=by
 obtain ⟨b,zs,rfl,rfl,h1,h2,h3,h4⟩:=ND h O;subst hm;rw [an] at *;exact C_ rfl (by simp only [ac] at h2 ⊢;omega) (by simp only [ac] at h1;omega) h4
def wB{κ:Type} [DecidableEq κ]  {kf:κ->Value}  {TT:kG} {D:Nat}  {fr:Fr} {L:Hl} {s:World} {ops:Array Oper}      (KK:jU κ dk kf) {t:Nat} {x z:Operand}  (i:Nat) (hm:yg P t dk zv) {es:List (κ×Value×Nat)}  {k:κ} (hx:lk fr x=some (.map (some b))) (hy:lk fr y=some (kf k)) (hz:lk fr z=some v) (hi:L[i]?=some (b,mp kf es ck))
  (kk:∀ es' yF,(∀ j,kS es' j=if j=k then some v else kS es j)->JO P TT D n ops Q iP fr (lO L i (mp kf es' yF)) s):JO P TT D n ops Q (⟨none,.insert t x y z,ty,iS,af,none⟩::iP) fr L s:=by
 obtain ⟨yF,h⟩:=SG (TT:=TT) (D:=D) (s:=s) (ty:=ty) KK i hm hx hy hz hi;exact Ow (λhT ho dst iS af g ρ hρ=>h hT ho dst iS af g ρ hρ) (kk _ yF (MK es k v ck))
def qpw{TT:kG}{D:Nat}{fr:Fr}{s:World}{c:Code}(X A:Hl){Y:Hl}(h:∀ s',Le D s s'->(∀ b o,(b,o)∈A->s'.heap[b]?=some o)->JC P TT D n Q c fr (X++Y) s'):JC P TT D n Q c fr (X++(A++Y)) s:=λht a hr ho=>by
 have hp:(X++(A++Y)).Perm (A++(X++Y)):=by
  exact Ou
 rw [tr hp _ ho];have mR:=ho.perm hp;obtain ⟨e,d1,d2⟩:=sK mR;rw [e];exact h _ d2 (λb o hm=>qc mR.left hm) ht a hr d1
def qy5{TT:kG}{D:Nat}{fr:Fr}{x:Operand}{b:Int}{k:IntKind}(hx:lk fr x=some (.int k a))(hy:lk fr y=some (.int k' b)):QE P TT D fr (.call { callee:=.builtin .max,args:=#[x,y],argTypes:=ts }) ty K s0 (.int k (max a b)):=by
 have e:max a b=if b > a then b else a:=by split<;>omega
 rw [e];exact QE.pure λhT dst iS af g ρ hρ w=>by simp [execOp,resolve,invoke,builtin,Builtin.max_,Builtin.max2,hρ x _ hx,hρ y _ hy]
def qsT{κ:Type}{TT:kG}{D:Nat}{fr:Fr}{L:Hl}{s:World}{ops:Array Oper}{i0 t:Nat}{g:Option (Nat×Bool)}{iK:Array Bool}(rf:ops[i0]?=some ⟨some d,.makeMap t none,ty,iS,af,g⟩)(hg:rz ops fr g)(kf:κ->Value)(hd:Nat.blt d n=true)
  (k:∀ β s',Le D s s'->JA P TT D n ops Q K s0 jr (iK.setIfInBounds i0 true) ((d,.map (some β))::fr) ((β,mp kf [] 0)::L) s'):JB P TT D n ops Q K s0 jr iK i0 fr L s:=λhT a hf ho hl hK=>
 Ca rf hg (U' kf ho) (pU ho (mp kf [] 0)).2.2 (λx _ hx=>aq _ hx) hd (k _ _ (pU ho (mp kf [] 0)).2.2) hT a hf ho hl hK
section
variable{w:iR}{g:jM}{y:iT}
abbrev fI(m:Int×Int):Value:=iJ m.2
def qIX(h:p.o[k]?=some g):(gE p)[k]?=some (g.name,((3:Int),(k:Int))):=by rw [gE,du,h];rfl
def qIV(h:p.funcs[k]?=some y):(fE p)[k]?=some (y.name,((4:Int),(k:Int))):=by rw [fE,du,h];rfl
theorem T8(h:x.locals[k]?=some w):(sE x)[k]?=some (w,((2:Int),((x.params.length+1+k:Nat):Int))):=by grind [sE]
theorem T9(h:x.params[k]?=some w):(sE x)[x.locals.length+k]?=some (w,((1:Int),(k:Int))):=by grind [sE,List.length_mapIdx,Nat.add_sub_cancel_left]
def Te(hn:T.length<=n)(h:∀ nm,kS es nm=((T.take n).find? λe=>decide (e.1=nm)).map λe=>fI e.2)(nm:iR):kS es nm=(mr T nm).map (Value.int .i64):=by
 rw [h nm,aI hn,mr,Option.map_map];rfl
def qIA(p:ja)(x:iT)(i k:Nat):cF p x i k=(.lab (fT i)::(if 0 < x.locals.length then [.num pp 0] else [])++List.replicate x.locals.length (.op qj)++(cB p x x.body k []).1++[.num pp 0,.num DM (x.locals.length+1:Nat)],(cB p x x.body k []).2):=rfl
def O_:∀ l:List Ex,l.length<=ln l
 | []=>aC _
 | z::r=>by have:=SV z;have:=O_ r;rw [ln,au];omega
def k_:∀ l:List jb,l.length<=kC l
 | []=>aC _
 | z::r=>by have:=Gh z;have:=k_ r;rw [kC,au];omega
def qI0(h:g.kind=2):yI g=1:=aw h
theorem qI1(h:g.kind=3):yI g=g.num:=by grind [yI]
def qIZ(h:¬ g.kind=2)(h2:¬ g.kind=3):yI g=0:=by unfold yI;rw [am h,am h2]
def qI2(h:iY g.num):0<=yI g/\yI g < 4294967296:=by
 have:=h.1;have:=h.2;unfold yI;split
 . omega
 . split<;>omega
def S0:∀ (l:List jM),(∀ g∈l,iY g.num)->l.length<=64->0<=zm l/\zm l<=4294967296 * (l.length:Int)
 | [],_,_=>⟨it _,it _⟩
 | z::r,h,hl=>by
  have a:=qI2 (h z Mc);simp only [au] at hl ⊢;have b:=S0 r (λy hy=>h y (aq _ hy)) O;rw [zm];omega
def qux{l:List jM}(h:l[k]?=some g):zm (l.drop k)=yI g+zm (l.drop (k+1)):=by
 obtain ⟨hk,rfl⟩:=al.1 h;rw [aL hk,zm]
def qqL{l:List iT}(h:l[k]?=some y):uE (l.drop k)=kC y.body+uE (l.drop (k+1)):=by
 obtain ⟨hk,rfl⟩:=al.1 h;rw [aL hk,uE]
def Tf:∀ (l:List iT),(∀ x∈l,kC x.body<=2000)->uE l<=2000 * l.length
 | [],_=>aC _
 | z::r,h=>by
  have a:=h z Mc;have b:=Tf r λy hy=>h y (aq _ hy);rw [uE,au];omega
def qIB(p:ja)(x:iT)(i k:Nat):(cF p x i k).2<=k+2 * kC x.body:=Gs x.body k []
def Xb(p:ja):cP p=[.ref EZ vK,.ref z6 (fT (fi p jy)),.num pp 0,.op Bv]++(qY p p.funcs 0 0).1++ue p.o 0++[.lab vK]:=rfl
def RK(h:pK p=(0,0)):0 < p.funcs.length:=by
  unfold pK at h;cases hf:p.funcs with
  | cons x r=>simp
  | nil=>
    rw [hf] at h;split at h
    . rename_i h2;rw [h] at h2;exact absurd rfl h2
    . split at h
      . rename_i h2;rw [h] at h2;exact absurd rfl h2
      . cases h
def Tj{l:List jM}(h:l[k]?=some g):ue (l.drop k) i=cG g i++ue (l.drop (k+1)) (i+1):=by
 obtain ⟨hk,rfl⟩:=al.1 h;rw [aL hk,ue]
def qFz{l:List iT}(h:l[k]?=some y):qY p (l.drop k) i j=((cF p y i j).1++(qY p (l.drop (k+1)) (i+1) (cF p y i j).2).1,(qY p (l.drop (k+1)) (i+1) (cF p y i j).2).2):=by
 obtain ⟨hk,rfl⟩:=al.1 h;rw [aL hk,qY]
def qxY(hg:pL g=0)(hu:iY g.num):0<=max g.num 1 - (g.init.length:Int)/\max g.num 1 - (g.init.length:Int) < 4294967296:=by
  have h4:=(Bo hg).2.2.2.1;have h5:=(Bo hg).2.2.1;have oE:=hu.2;by_cases h3:g.kind=3
  . unfold pL at hg
    rw [am O,am (by rw [h5];decide),am O] at hg;split at hg
    . cases hg
    . split at hg
      . cases hg
      . omega
  . rw [h4 h3];simp only [ap];omega
end
attribute [local irreducible] JC JO JA JB lZ mF mM AC fill iH QE Ev mq
structure CE where
 Ag:OAdr9
 ng:Nat
 cg:Nat
 Af:OAdr9
 nf:Nat
 cf:Nat
 gm:Nat
 fm:Nat
 sm:Option Nat
 sz:Nat
 nl:Nat
abbrev rI(E:CE)(k w:Nat)(vl:Value):LVal9:=[iJ (k:Int),.slice E.Ag E.ng E.cg,.slice E.Af E.nf E.cf,.map (some E.gm),.map (some E.fm),.map E.sm,iJ (E.sz:Int),iJ (E.nl:Int),iJ (w:Int),vl]
abbrev CR(E:CE)(bb k w:Nat)(vl:Value)(t:iR)(M:Hl):Prop:=WC (rI E k w vl) 156 bb M t
def yA(s:World)(b:Nat)(T:List (iR×(Int×Int))):Prop:=∃ es:List (iR×Value×Nat),vc s (λl=>St l) b es/\∀ nm,kS es nm=(mr T nm).map (Value.int .i64)
def yA.le{D:Nat}{s:World}(h:yA s b T)(hl:Le D s s'):yA s' b T:=⟨_,h.choose_spec.1.le hl,h.choose_spec.2⟩
def yd:yg prog 149 .string (iJ 0):=⟨_,_,underlying149,underlying9,λw=>by rw [Db Kf];rfl⟩
def Gb(h:∀ nm,kS es nm=(mr T nm).map (Value.int .i64)):(kS es nm).getD (iJ 0)=iJ ((mr T nm).getD 0):=by
 rw [h];cases mr T nm<;>rfl
structure sy(s:World)(p:ja)(x:iT)(E:CE):Prop where
 gl:jn s E.Ag E.ng E.cg p.o
 mg:yA s E.gm (gE p)
 mf:yA s E.fm (fE p)
 ms:∃ b,E.sm=some b/\yA s b (sE x)
 sz:E.sz=jt x
 nl:E.nl=x.locals.length
 pq:PQ p x
def sy.le{D:Nat}{s:World}{E:CE}(h:sy s p x E)(hl:Le D s s'):sy s' p x E:=⟨h.gl.le hl,h.mg.le hl,h.mf.le hl,h.ms.imp λ_ k=>⟨k.1,k.2.le hl⟩,h.sz,h.nl,h.pq⟩
def Nu(hG:GP s)(n:Int)(h0:0<=n)(h1:n<=9223372036854775807):Ap9 D 117 [iJ n] L s λv L' _=>v=St (o4 n)/\L=L':=by
 have h:=qAL (D:=D) L s hG.gw n O h1
 rwa [show Lib.itoa n=o4 n by unfold Lib.itoa;rw [am O];rfl] at h
def TA{s:World}(ws:List iR)(hc:iH s β 0 (sb ws))(hx:∀ x∈ws,x.length<=1000000000)(hn:ws.length<=1000):iW s (j6 β) ws.length ws.length ws:=
 Sl.lit (R:=λ_ x cs=>cs=[St x]/\x.length<=9223372036854775807) (ws.map λx=>[St x]) hc (qr0 ws) (ZJ (λx=>[St x]) ws λx yV=>⟨rfl,rfl,by have:=hx x yV;omega⟩) _ rfl O
def qyp{T:Nat}(hW:WC R T bb M l)(n c:Nat)(ws:List iR)(hS:iW s A n c ws)(hj:(Lib.join ws [32]).length<=1000000000)(hn:ws.length<=2)(iQ:l.length<=1000000000):AM9 D 66 [jc bb,.slice A n c] M L s λv M' _=>v=.tuple #[]/\WC R T bb M' (l++32::(Lib.join ws [32]++[10])):=by
 refine jv (fn:=f66) jl func66 V Z ntmps66 Z (rs:=[]) Z [(0,_),(1,_)] Z<|mh jF 8 Z 0 λs1 h1=>H4 ?_;refine iM 4 V<|Jf Z Tt Z Z Z (r_ _ _ A n c ws Pz [32] O O) λs2 h2=>za 5 Z (lH Y2 Uo) Z<|za 6 Z (lH Y2 Uo) Z<|iM 7 V<|Jb Z Tt Z Z Z (tQ D _ _ bb M l hW _ Ut) ?_;exact IJ
def x9{T:Nat}(hW:WC R T bb M l){n:iR}(hc:iH s β 0 [St n])(iQ:l.length+(cT [.op n]).length<=1000000000):Ap9 D 66 [jc bb,.slice (j6 β) 1 1] (M++L) s λv L' _=>∃ M',L'=M'++L/\v=.tuple #[]/\WC R T bb M' (l++cT [.op n]):=by
 have e:cT [.op n]=32::(n++[10]):=by simp [cT,yY,wy]
 have j:Lib.join [n] [32]=n:=by simp [Lib.join,List.intercalate]
 rw [e] at iQ ⊢;simp only [au,ac,ap] at iQ;have:=qyp D L s hW 1 1 [n] (TA [n] hc Q8 (by simp)) (by rw [j];omega) (by simp) O
 rwa [j] at this
def wF{T:Nat}(hW:WC R T bb M l){n a:iR}(hc:iH s β 0 [St n,St a])(iQ:l.length+(cT [.ref n a]).length<=1000000000):Ap9 D 66 [jc bb,.slice (j6 β) 2 2] (M++L) s λv L' _=>∃ M',L'=M'++L/\v=.tuple #[]/\WC R T bb M' (l++cT [.ref n a]):=by
 have e:cT [.ref n a]=32::((n++32::a)++[10]):=by simp [cT,yY,wy]
 have j:Lib.join [n,a] [32]=n++32::a:=by simp [Lib.join,List.intercalate]
 rw [e] at iQ ⊢;simp only [au,ac,ap] at iQ;have:=qyp D L s hW 2 2 [n,a] (TA [n,a] hc Q8 (by simp)) (by rw [j];simp only [ac,au];omega) (by simp) O
 rwa [j] at this
def VJ{p:Prop} (h:p:=by
 rintro _ _ s1 h1 ⟨rfl,rfl⟩;refine iI (lH Y2 Uo) Z<|G4 ?_;exact rX [] L Z h1 λ_ iL=>ry):p:=h
def Qx(hG:GP s){i:Int}(h0:0<=i)(h1:i<=1000000000):AV9 D 67 [iJ i] L s (St (fT i)):=by
 have hd:=Bl (n:=i) ⟨h0,by omega⟩;refine jv (fn:=f67) jl func67 V Z ntmps67 Z (rs:=[.tmp 2]) Z [(0,_)] Z<|G8 ?_;refine Jc Y3 (Nu D _ _ Pz i h0 O) ?_;exact VJ
def Kw(hG:GP s){i:Int}(h0:0<=i)(h1:i<=1000000000):AV9 D 119 [iJ i] L s (St (gT i)):=by
 have hd:=Bl (n:=i) ⟨h0,by omega⟩;refine jv (fn:=f119) jl func119 V Z ntmps119 Z (rs:=[.tmp 2]) Z [(0,_)] Z<|G8 ?_;refine Jc Y3 (Nu D _ _ Pz i h0 O) ?_;exact VJ
def vA(hG:GP s){T:Nat}(hW:WC R T bb M l)(n:iR){i:Int}(hu:0<=i/\i < 4294967296)(iQ:l.length+(cT [.num n i]).length<=1000000000):AM9 D 68 [jc bb,St n,iJ i] M L s λv M' _=>v=.tuple #[]/\WC R T bb M' (l++cT [.num n i]):=by
 refine jv (fn:=f68) jl func68 V Z ntmps68 Z (rs:=[]) Z [(0,_),(1,_),(2,_)] Z<|G4 ?_;refine Je Y3 (Nu D _ _ Pz i hu.1 O) λs1 h1=>kF [(_,_),(_,_)] [_,_] Y9 λβ2 s2 h2 oR=>Jc Y3 (wF D _ _ hW Pz iQ) ?_;rintro _ _ s3 h3 ⟨M1,rfl,rfl,kL⟩;refine Zn ?_;refine lC [] _ (.inl Z) (.nil) Z Lc λ_ iL=>?_;exact ⟨_,rfl,rfl,kL⟩
def BS{T:Nat}(hW:WC R T bb M l)(a:iR)(iQ:l.length+(cT [.lab a]).length<=1000000000):Ap9 D 71 [jc bb,St a] (M++L) s λv L' _=>∃ M',L'=M'++L/\v=.tuple #[]/\WC R T bb M' (l++cT [.lab a]):=by
 have e:cT [.lab a]=a++[58,10]:=by simp [cT,yY,wy]
 rw [e] at iQ ⊢;simp only [au,ac,ap] at iQ;refine jv (fn:=f71) jl func71 V Z ntmps71 Z (rs:=[]) Z [(0,_),(1,_)] Z<|G5 ?_;refine iI (lH Y2 Uo) Z<|Jc Y3 (tQ D _ _ bb M l hW _ Ut) ?_;rintro _ _ s1 h1 ⟨M1,rfl,rfl,kL⟩;refine Zn ?_;refine lC [] _ (.inl Z) (.nil) Z h1 λ_ iL=>?_;exact ⟨_,rfl,rfl,kL⟩
def FS(hG:GP s){E:CE}(hW:CR E bb k w vl t M)(hk:k<=1000000):AM9 D 242 [jc bb] M L s λv M' _=>v=St (lT (k+1))/\CR E bb (k+1) w vl t M':=by
 have hd:=Bl (n:=((k+1:Nat):Int)) ⟨by omega,by omega⟩;refine jv (fn:=f242) jl func242 V Z ntmps242 Z (rs:=[.tmp 2]) Z [(0,_)] Z<|G6 ?_;obtain ⟨p1,N1,v1,qG,rfl,pd⟩:=hW;simp only [ao,rI];refine G5 ?_;refine iI (nD (c:=((k+1:Nat):Int)) Z Z Q9) Z<|G2 ?_;refine X32 ?_;refine Je Y3 (Nu D _ _ Pz _ O O) λs1 h1=>iI (lH Y2 Uo) Z<|G4 ?_;exact rR [] _ (.t1 Z) Z h1 λ_ iL=>⟨(_::N1),rfl,rfl,⟨p1,N1,v1,qG,rfl,pd⟩⟩
def NM{E:CE}(hW:CR E bb k w vl t M)(hk:w<=1000000)(iQ:t.length+(cT [.op qj]).length<=1000000000):AM9 D 197 [jc bb] M L s λv M' _=>v=.tuple #[]/\CR E bb k (w+1) vl (t++cT [.op qj]) M':=by
 refine jv (fn:=f197) jl func197 V Z ntmps197 Z (rs:=[]) Z [(0,_)] Z<|G5 ?_;refine kF [(_,_)] [_] Y9 λβ1 s1 h1 mX=>Jc Y3 (x9 D _ _ (M:=M) (n:=qj) hW Pz Q1) ?_;rintro _ _ s2 h2 ⟨M1,rfl,rfl,kL⟩;refine G2 ?_;obtain ⟨p2,N2,v2,ri,rfl,tf⟩:=kL;simp only [ao,rI];refine G5 ?_;refine iI (nD (c:=((w+1:Nat):Int)) Z Z Q9) Z<|G2 ?_;refine Wt 0 [_,_,_,_,_,_,_,_,_,_,_,_] Y9<|Zn ?_;refine lC [] _ (.inl Z) (.nil) Z Lc λ_ iL=>?_;exact ⟨(_::N2),rfl,rfl,⟨p2,N2,v2,ri,rfl,tf⟩⟩
def L8{p:Prop} (h:p:=by
 exact ⟨M2,rfl,rfl,by rw [hT];simpa only [lu,kZ,lz,an,aE,ao,aD,ap,bB] using (show CR ⟨_,ng,cg,Af,nf,cf,gm,fm,some bs,sz,nl⟩ bb _ w vl _ _ from mu)⟩):p:=h
def V5{p:Prop} (h:p:=by
 rintro _ _ s2 h2 ⟨M2,rfl,rfl,mu⟩;refine ⟨(λ_ hx _=>by cases hx),?_⟩;refine jq V<|G3 ?_;exact rR [] _ (.nil) Z Lc λ_ iL=>L8):p:=h
def qtE{D:Nat}(p:ja)(x:iT){L:Hl}{s:World}(hG:GP s){E:CE}(hE:sy s p x E)(M:Hl){t:iR}(hW:CR E bb k w vl t M)(uo:(∃ a,mr (sE x) nm=some a)\/mr (sE x) nm=none/\∃ (i:Nat) (g:jM),gi p nm=(i:Int)/\p.o[i]?=some g)(hw:w<=1000000)(iQ:t.length+(cT [cN p x nm w]).length<=1000000000):AM9 D 239 [jc bb,St nm] M L s λv M' _=>v=.tuple #[]/\CR E bb k w vl (t++cT [cN p x nm w]) M':=by
 obtain ⟨Ag,ng,cg,Af,nf,cf,gm,fm,sm,sz,nl⟩:=E;have th:jn s Ag ng cg p.o:=hE.gl;have hng:=th.1;have jA:sz=jt x:=hE.sz;have kK:nl=x.locals.length:=hE.nl;obtain ⟨bs,w7,ess,hms,hhms⟩:=hE.ms;have w7:sm=some bs:=w7;subst w7;obtain ⟨esg,hmg,hhmg⟩:=hE.mg;obtain ⟨esf,yS,hhmf⟩:=hE.mf;have hp6:=hE.pq.p6;have hl12:=hE.pq.l12;have hg64:=hE.pq.g64;have hf64:=hE.pq.f64;unfold jt at jA;refine jv (fn:=Tryz.f239) jl Tryz.func239 V Z Tryz.ntmps239 Z (rs:=[]) Z [(0,_),(1,_)] Z<|G2 ?_;obtain ⟨p1,N1,v1,qG,rfl,pd⟩:=hW;simp only [ao,rI];rcases uo with ⟨a,ha⟩|⟨hn,i,g,hi,hg⟩
 .have hT:=PK (p:=p) (w:=w) ha;have hrg:=NE ha;unfold jt at hT hrg;rw [<- jA] at hT;rw [hT] at iQ;simp only [lu,kZ,lz,ac,ap,ao] at iQ;refine G6 ?_;refine iI (jD (Jq jU.str yd Z Z Pz) (show _=Value.tuple #[iJ a,.bool true] by rw [hhms,ha];rfl)) Z<|qP ?_;refine mh jF 15 Z 0 λs1 h1=>Pp ?_;refine kD 6 10 V ?_ ?_;.refine j5 Z Tt (Wd 0 Y5) Z<|iM 10 V<|j5 Z Tt (Wd 0 Y5) Z<|za 11 Z (nD Z Z (jB O O)) Z<|za 13 Z (rn Z Z (jB O O)) Z<|iM 14 V<|Jb Z Tt Z Z Z (vA D _ _ Pz (M:=(_::N1)) ⟨p1,N1,v1,qG,Z,pd⟩ Oi O Q1) ?_;exact V5
  refine j5 Z Tt (Wd 0 Y5) Z<|iM 6 V<|j5 Z Tt (Wd 0 Y5) Z<|za 11 Z (nD Z Z (jB O O)) Z<|za 13 Z (rn Z Z (jB O O)) Z<|iM 14 V<|Jb Z Tt Z Z Z (vA D _ _ Pz (M:=(_::N1)) ⟨p1,N1,v1,qG,Z,pd⟩ Oi O Q1) ?_;exact V5
 refine G6 ?_;refine iI (jD (Jq jU.str yd Z Z Pz) (show _=Value.tuple #[iJ 0,.bool false] by rw [hhms,hn];rfl)) Z<|Po ?_;refine iI (jD (EF jU.str yd Z Z Pz) ((Gb hhmg).trans (bj (Value.int .i64) hi))) Z<|G5 ?_;have AV:i < ng:=by rw [th.1];exact (al.1 hg).1
 obtain ⟨bg,og,g9,Ai,ni,ci,rfl,hg9,hcg,AU,hug,hnl9⟩:=jn.at_ Pz AV;obtain rfl:g=g9:=cD (hg.symm.trans hg9);have hgu:=hug.1;have hgu2:=hug.2;refine G7 ?_;refine iI (jR Y6 AV) Z<|iI (kq Y3 Pz Z) Z<|jp Z [_,_,_,_] Y2 λβ1 s1 h1=>Wt 0 [_,_,_,_] Y9<|J9 ?_ ?_<;>intro c2;.have hT:=PI (w:=w) hn hi hg c2;rw [hT] at iQ;simp only [lu,kZ,lz,ac,ap,ao] at iQ;refine Zs<|mh jF 7 Z 1 λs3 h3=>H5 ?_;refine za 5 Z (sn Y5 (jB O O)) Z<|iM 6 V<|Jb Z Tt Z Z Z (AC.mid [_] (_::N1) L (vA D _ _ Pz (M:=(_::N1)) ⟨p1,N1,v1,qG,Z,pd⟩ pp ⟨hgu,hgu2⟩ Q1)) ?_;rintro _ _ s4 h4 ⟨M2,rfl,rfl,mu⟩;refine ⟨(λx hx _=>zk hx),?_⟩;simp only [iU,iV];refine jq V<|G3 ?_;exact rR [_] _ (.nil) Z Lc λ_ iL=>L8
 have hT:=PJ (w:=w) hn hi hg c2;rw [hT] at iQ;simp only [lu,kZ,lz,ac,ap,ao] at iQ;refine Zk<|Zt<|mh jF 7 Z 0 λs3 h3=>H4 ?_;refine iM 4 V<|Jf Z Tt Z Z Z (Kw D _ _ Pz O O) λs4 h4=>iM 5 V<|pV Z Tt [(_,_),(_,_)] [_,_] Y9 λβ5 s5 h5 hc5=>iM 6 V<|Jb Z Tt Z Z Z (AC.mid [_] (_::N1) L (wF D _ _ (M:=(_::N1)) (n:=QF) ⟨p1,N1,v1,qG,Z,pd⟩ Pz Q1)) ?_;rintro _ _ s6 h6 ⟨M2,rfl,rfl,mu⟩;refine ⟨(λ_ hx _=>by cases hx),?_⟩;simp only [iU,iV];refine jq V ?_;refine lC [_] _ (.inl Z) (.nil) Z Lc λ_ iL=>?_;exact L8
def vD:yg prog 362 (.int .i64) (.slice none 0 0):=⟨_,_,underlying362,underlying3,λw=>by rw [Db qsv];rfl⟩
def wI{s:World}(hc:iH s β 0 (sb (x5 o))):iW s (j6 β) (x5 o).length (x5 o).length (x5 o):=TA _ hc (λx hx=>by
 have h:=(N9 o).2 x hx;simp only [zQ,aA] at h;have:=(Yx h.1.1.1).2;omega) (by have:=(N9 o).1;omega)
def qjS(o:Int)(ho:4<=o/\o<=19):Ap9 D 264 [iJ o] L s λv L' s'=>L=L'/\∃ A n c,v=.slice A n c/\iW s' A n c (x5 o):=by
 refine jv (fn:=f264) jl func264 V Z ntmps264 Z (rs:=[.tmp 2]) Z [(0,_)] Z<|G7 ?_;refine FL (Value.int .i64) Z λβm s1 h1=>kF [(_,_)] [_] Y9 λβ2 s2 h2 oR=>wB (jU.int .i64) 0 vD Z Z Z Z ?_;intro es3 _ e3;simp only [lO];refine kF [(_,_)] [_] Y9 λβ4 s4 h4 hc4=>wB (jU.int .i64) 0 vD Z Z Z Z ?_;intro es5 _ e5;simp only [lO];refine kF [(_,_)] [_] Y9 λβ6 s6 h6 hc6=>wB (jU.int .i64) 0 vD Z Z Z Z ?_;intro es7 _ e7;simp only [lO];refine kF [(_,_)] [_] Y9 λβ8 s8 h8 hc8=>wB (jU.int .i64) 0 vD Z Z Z Z ?_;intro es9 _ e9;simp only [lO];refine kF [(_,_)] [_] Y9 λβ10 ku jN hc10=>wB (jU.int .i64) 0 vD Z Z Z Z ?_;intro es11 _ v7;simp only [lO];refine kF [(_,_)] [_] Y9 λβ12 kc jL hc12=>wB (jU.int .i64) 0 vD Z Z Z Z ?_;intro es13 _ wa;simp only [lO];refine kF [(_,_)] [_] Y9 λβ14 li kz hc14=>wB (jU.int .i64) 0 vD Z Z Z Z ?_;intro es15 _ wb;simp only [lO];refine kF [(_,_)] [_] Y9 λβ16 qW qD hc16=>wB (jU.int .i64) 0 vD Z Z Z Z ?_;intro es17 _ wc;simp only [lO];refine kF [(_,_)] [_] Y9 λβ18 yl vm hc18=>wB (jU.int .i64) 0 vD Z Z Z Z ?_;intro es19 _ we;simp only [lO];refine kF [(_,_)] [_] Y9 λβ20 vN rQ hc20=>wB (jU.int .i64) 0 vD Z Z Z Z ?_;intro es21 _ wh;simp only [lO];refine kF [(_,_)] [_] Y9 λβ22 BC AI hc22=>wB (jU.int .i64) 0 vD Z Z Z Z ?_;intro es23 _ wi;simp only [lO];refine kF [(_,_),(_,_)] [_,_] Y9 λβ24 Am yK hc24=>wB (jU.int .i64) 0 vD Z Z Z Z ?_;intro es25 _ wk;simp only [lO];refine kF [(_,_)] [_] Y9 λβ26 BE AJ hc26=>wB (jU.int .i64) 0 vD Z Z Z Z ?_;intro es27 _ wl;simp only [lO];refine kF [(_,_),(_,_)] [_,_] Y9 λβ28 s28 h28 hc28=>wB (jU.int .i64) 0 vD Z Z Z Z ?_;intro es29 _ wm;simp only [lO];refine kF [(_,_)] [_] Y9 λβ30 s30 h30 hc30=>wB (jU.int .i64) 0 vD Z Z Z Z ?_;intro es31 _ wn;simp only [lO];refine kF [(_,_),(_,_)] [_,_] Y9 λβ32 s32 h32 hc32=>wB (jU.int .i64) 0 vD Z Z Z Z ?_;intro es33 _ wo;simp only [lO];refine G2 ?_;refine iI (ZE (jU.int .i64) 0 vD Z Z Z) Z<|G4 ?_;refine rR [_] L (.t1 Z) Z Lc λ_ iL=>?_;refine ⟨Z,?_⟩;rcases (show o=4\/o=5\/o=6\/o=7\/o=8\/o=9\/o=10\/o=11\/o=12\/o=13\/o=14\/o=15\/o=16\/o=17\/o=18\/o=19 by omega) with rfl|rfl|rfl|rfl|rfl|rfl|rfl|rfl|rfl|rfl|rfl|rfl|rfl|rfl|rfl|rfl
 . exact ⟨_,1,1,by simp only [e3,e5,e7,e9,v7,wa,wb,wc,we,wh,wi,wk,wl,wm,wn,wo,kS,Int.reduceEq,↓reduceIte];rfl,wI (o:=4) Pz⟩
 . exact ⟨_,1,1,by simp only [e3,e5,e7,e9,v7,wa,wb,wc,we,wh,wi,wk,wl,wm,wn,wo,kS,Int.reduceEq,↓reduceIte];rfl,wI (o:=5) Pz⟩
 . exact ⟨_,1,1,by simp only [e3,e5,e7,e9,v7,wa,wb,wc,we,wh,wi,wk,wl,wm,wn,wo,kS,Int.reduceEq,↓reduceIte];rfl,wI (o:=6) Pz⟩
 . exact ⟨_,1,1,by simp only [e3,e5,e7,e9,v7,wa,wb,wc,we,wh,wi,wk,wl,wm,wn,wo,kS,Int.reduceEq,↓reduceIte];rfl,wI (o:=7) Pz⟩
 . exact ⟨_,1,1,by simp only [e3,e5,e7,e9,v7,wa,wb,wc,we,wh,wi,wk,wl,wm,wn,wo,kS,Int.reduceEq,↓reduceIte];rfl,wI (o:=8) Pz⟩
 . exact ⟨_,1,1,by simp only [e3,e5,e7,e9,v7,wa,wb,wc,we,wh,wi,wk,wl,wm,wn,wo,kS,Int.reduceEq,↓reduceIte];rfl,wI (o:=9) Pz⟩
 . exact ⟨_,1,1,by simp only [e3,e5,e7,e9,v7,wa,wb,wc,we,wh,wi,wk,wl,wm,wn,wo,kS,Int.reduceEq,↓reduceIte];rfl,wI (o:=10) Pz⟩
 . exact ⟨_,1,1,by simp only [e3,e5,e7,e9,v7,wa,wb,wc,we,wh,wi,wk,wl,wm,wn,wo,kS,Int.reduceEq,↓reduceIte];rfl,wI (o:=11) Pz⟩
 . exact ⟨_,1,1,by simp only [e3,e5,e7,e9,v7,wa,wb,wc,we,wh,wi,wk,wl,wm,wn,wo,kS,Int.reduceEq,↓reduceIte];rfl,wI (o:=12) Pz⟩
 . exact ⟨_,1,1,by simp only [e3,e5,e7,e9,v7,wa,wb,wc,we,wh,wi,wk,wl,wm,wn,wo,kS,Int.reduceEq,↓reduceIte];rfl,wI (o:=13) Pz⟩
 . exact ⟨_,1,1,by simp only [e3,e5,e7,e9,v7,wa,wb,wc,we,wh,wi,wk,wl,wm,wn,wo,kS,Int.reduceEq,↓reduceIte];rfl,wI (o:=14) Pz⟩
 . exact ⟨_,2,2,by simp only [e3,e5,e7,e9,v7,wa,wb,wc,we,wh,wi,wk,wl,wm,wn,wo,kS,Int.reduceEq,↓reduceIte];rfl,wI (o:=15) Pz⟩
 . exact ⟨_,1,1,by simp only [e3,e5,e7,e9,v7,wa,wb,wc,we,wh,wi,wk,wl,wm,wn,wo,kS,Int.reduceEq,↓reduceIte];rfl,wI (o:=16) Pz⟩
 . exact ⟨_,2,2,by simp only [e3,e5,e7,e9,v7,wa,wb,wc,we,wh,wi,wk,wl,wm,wn,wo,kS,Int.reduceEq,↓reduceIte];rfl,wI (o:=17) Pz⟩
 . exact ⟨_,1,1,by simp only [e3,e5,e7,e9,v7,wa,wb,wc,we,wh,wi,wk,wl,wm,wn,wo,kS,Int.reduceEq,↓reduceIte];rfl,wI (o:=18) Pz⟩
 . exact ⟨_,2,2,by simp only [e3,e5,e7,e9,v7,wa,wb,wc,we,wh,wi,wk,wl,wm,wn,wo,kS,Int.reduceEq,↓reduceIte];rfl,wI (o:=19) Pz⟩
def Ej(D d:Nat)(p:ja)(x:iT):Prop:=∀ (L:Hl) (s:World),GP s->∀ (E:CE),sy s p x E->∀ (bb k w:Nat) (vl:Value) (M:Hl) (t:iR),CR E bb k w vl t M->∀ (e:Ex) (A:OAdr9) (n c:Nat),j9 d s A n c e.args->iY e.num->yD p x e->k+w+3 * ns e<=1000000->t.length+(cT (cE p x e w k).1).length<=1000000000->AM9 D 196 [jc bb,.agg #[iJ e.kind,iJ e.op,iO e.num,St e.name,.slice A n c]] M L s λv M' _=>v=.tuple #[]/\CR E bb (cE p x e w k).2 w vl (t++cT (cE p x e w k).1) M'
def Pw(D d:Nat)(p:ja)(x:iT):Prop:=∀ (L:Hl) (s:World),GP s->∀ (E:CE),sy s p x E->∀ (bb k w:Nat) (vl:Value) (M:Hl) (t:iR),CR E bb k w vl t M->∀ (e:Ex) (A:OAdr9) (n c:Nat),e.kind=6->j9 d s A n c e.args->iY e.num->yD p x e->k+w+3 * ns e<=1000000->t.length+(cT (cE p x e w k).1).length<=1000000000->AM9 D 240 [jc bb,.agg #[iJ e.kind,iJ e.op,iO e.num,St e.name,.slice A n c]] M L s λv M' _=>v=.tuple #[]/\CR E bb (cE p x e w k).2 w vl (t++cT (cE p x e w k).1) M'
def OV(D d:Nat)(p:ja)(x:iT):Prop:=∀ (L:Hl) (s:World),GP s->∀ (E:CE),sy s p x E->∀ (bb k w:Nat) (vl:Value) (M:Hl) (t:iR),CR E bb k w vl t M->∀ (e:Ex) (A:OAdr9) (n c:Nat),e.kind=7->j9 d s A n c e.args->iY e.num->yD p x e->k+w+3 * ns e<=1000000->t.length+(cT (cE p x e w k).1).length<=1000000000->AM9 D 241 [jc bb,.agg #[iJ e.kind,iJ e.op,iO e.num,St e.name,.slice A n c]] M L s λv M' _=>v=.tuple #[]/\CR E bb (cE p x e w k).2 w vl (t++cT (cE p x e w k).1) M'
def LL(D d:Nat)(p:ja)(x:iT):Prop:=∀ (L:Hl) (s:World),GP s->∀ (E:CE),sy s p x E->∀ (bb k w:Nat) (vl:Value) (M:Hl) (t:iR),CR E bb k w vl t M->∀ (nm:iR) (A:OAdr9) (n c:Nat) (az:List Ex),j9 d s A n c az->vd p x az->az.length<=6->k+w+3 * ln az<=1000000->t.length+(cT ((cC p x az w k).1++cL p nm az.length)).length<=1000000000->AM9 D 200 [jc bb,St nm,.slice A n c] M L s λv M' _=>v=.tuple #[]/\CR E bb (cC p x az w k).2 w vl (t++cT ((cC p x az w k).1++cL p nm az.length)) M'
def zi{s:World}{l:List Ex}(h:j9 d s A n c l)(hX:vd p x l)(hj:j < l.length):∃ e b off y A' n' c',d=e+1/\A=some ⟨b,off,none⟩/\j < n/\l[j]?=some y/\iH s b (off+j * 5) [iJ y.kind,iJ y.op,iO y.num,St y.name,.slice A' n' c']/\j9 e s A' n' c' y.args/\iY y.num/\yD p x y:=by
 have hn:j < n:=by rw [h.1];exact hj
 obtain ⟨e,b,off,y,A',n',c',h1,h2,h3,h4,h5,h6,_⟩:=j9.at_ h hn;exact ⟨e,b,off,y,A',n',c',h1,h2,hn,h3,h4,h5,h6,hX.at_ h3⟩
def YE{D:Nat}(d:Nat)(p:ja)(x:iT)(ih:∀ e,d=e+1->Ej D e p x)(L:Hl)(s:World)(hG:GP s)(E:CE)(hE:sy s p x E)(bb k w:Nat)(vl:Value)(M:Hl)(t:iR)(hW:CR E bb k w vl t M)(nm:iR)(A:OAdr9)(n c:Nat)(az:List Ex)(hA:j9 d s A n c az)(ra:vd p x az)(ha6:az.length<=6)(hk:k+w+3 * ln az<=1000000)(iQ:t.length+(cT ((cC p x az w k).1++cL p nm az.length)).length<=1000000000):Ap9 D 200 [jc bb,St nm,.slice A n c] (M++L) s λv L' _=>∃ M',L'=M'++L/\v=.tuple #[]/\CR E bb (cC p x az w k).2 w vl (t++cT ((cC p x az w k).1++cL p nm az.length)) M':=by
 obtain ⟨Ag,ng,cg,Af,nf,cf,gm,fm,sm,sz,nl⟩:=E;have th:jn s Ag ng cg p.o:=hE.gl;have hng:=th.1;have jA:sz=jt x:=hE.sz;have kK:nl=x.locals.length:=hE.nl;obtain ⟨bs,w7,ess,hms,hhms⟩:=hE.ms;have w7:sm=some bs:=w7;subst w7;obtain ⟨esg,hmg,hhmg⟩:=hE.mg;obtain ⟨esf,yS,hhmf⟩:=hE.mf;have hp6:=hE.pq.p6;have hl12:=hE.pq.l12;have hg64:=hE.pq.g64;have hf64:=hE.pq.f64;unfold jt at jA;obtain rfl:n=az.length:=hA.1;obtain ⟨i,hi,zK⟩:=OF (nm:=nm) hE.pq.f0;rw [lu,ac] at iQ;have xS:(yY (.ref z6 (fT (fi p nm)))).length<=(cT (cL p nm az.length)).length:=by rw [cL,kZ,ac];omega
 refine jv (fn:=f200) jl func200 V Z ntmps200 Z (rs:=[]) Z [(0,_),(1,_),(2,_)] Z<|G9 ?_;refine lw (γ:=Nat×Nat×Hl×iR) (λg=>[(0,_),(1,_),(2,_),(9,_),(10,_),(11,iJ (g.1:Int))]) (λg=>g.2.2.1++L) (λg tw=>Le D s tw/\(g.1<=az.length/\CR ⟨Ag,ng,cg,Af,nf,cf,gm,fm,some bs,sz,nl⟩ bb g.2.1 (w+g.1) vl g.2.2.2 g.2.2.1/\g.2.2.2++cT (cC p x (az.drop g.1) (w+g.1) g.2.1).1=t++cT (cC p x az w k).1/\(cC p x (az.drop g.1) (w+g.1) g.2.1).2=(cC p x az w k).2/\g.2.1+(w+g.1)+3 * ln (az.drop g.1)<=1000000)) (λg=>az.length - g.1) (λ_ _ _ h hl=>⟨h.1.trans hl,h.2⟩) (0,k,M,t) (.c6 Z Z Z Z Z Z (.nil _)) Z ⟨Le.refl _,⟨aB _,hW,Z,Z,hk⟩⟩ ?_;intro g s1 I1;obtain ⟨j,kj,Mj,tj⟩:=g;obtain ⟨oA,hWj,hT1,hT2,hkj⟩:=I1.2;simp only at oA hWj hT1 hT2 hkj;dsimp only;have ka:=bj List.length hT1;simp only [ac] at ka;refine J6 ?_ ?_<;>intro c2;.obtain ⟨dy,bky,oy,y,Ay,ny,cy,um,rfl,hny,hy,hcy,hsy,ph,hxy⟩:=zi (j:=j) Pz ra O;have hT:=qIz (p:=p) (x:=x) (w:=w+j) (k:=kj) hy;rw [zd hy] at hkj;have mC:=SV y;rw [hT] at ka;simp only [lu,kZ,ac] at ka;refine G6 ?_;refine iI (jR Y6 hny) Z<|iI (kq Y3 Pz Z) Z<|jp Z [_,_,_,_,_] Y2 λβ3 s3 h3=>Wt 0 [_,_,_,_,_] Y9<|G5 ?_;refine iI (jh 0 [_,_,_,_,_] Y5) Z<|Jc Y3 (AC.mid [_] Mj L (ih dy um _ _ Pz _ Pz _ _ _ _ Mj _ hWj y Ay ny cy Pz ph hxy O Q1)) ?_;rintro _ _ s4 h4 ⟨M1,rfl,rfl,kL⟩;simp only [iU,iV];refine G4 ?_;refine Jc Y3 (AC.mid [_] M1 L (NM D _ _ (M:=M1) kL O Q1)) ?_;rintro _ _ s5 h5 ⟨M2,rfl,rfl,mu⟩;simp only [iU,iV];refine G4 ?_;refine ki Y3 (jB O O)<|G2 ?_;refine jd ⟨(j+1,(cE p x y (w+j) kj).2,M2,_),[_],kp,Z,⟨Lc,⟨by simp only;omega,mu,by simp only;rw [<- hT1,hT];simp only [lu,kZ,lz,an,aE,ao,aD,ap,bB];rfl,by simp only;rw [<- hT2,hT];rfl,by simp only;have:=E1 (p:=p) (x:=x) y (w+j) kj;rw [show w+(j+1)=w+j+1 from Z];omega⟩⟩,Oz⟩
 obtain rfl:az.length=j:=by omega
 rw [aK (aC _),cC] at hT1 hT2;rw [show cT ([]:List Li)=[] from rfl,aE] at hT1;subst hT1;simp only at hT2;subst hT2;refine G6 ?_;obtain ⟨p1,N1,v1,qG,rfl,pd⟩:=hWj;simp only [ao,rI];refine mh jF 12 Z 0 λs3 h3=>H7 ?_;refine iM 6 V<|j5 Z Tt (Wd 0 Y5) Z<|za 8 Z (jD (EF jU.str yd Z Z Pz) ((Gb hhmf).trans (bj (Value.int .i64) (show _=fi p nm from Z)))) Z<|iM 9 V<|Jf Z Tt Z Z Z (Qx D _ _ Pz O O) λs4 h4=>iM 10 V<|pV Z Tt [(_,_),(_,_)] [_,_] Y9 λβ5 s5 h5 hc5=>iM 11 V<|Jb Z Tt Z Z Z (wF D _ _ (M:=(_::N1)) (n:=z6) ⟨p1,N1,v1,qG,Z,pd⟩ Pz Q1) ?_;rintro _ _ s6 h6 ⟨M2,rfl,rfl,mu⟩;refine ⟨(λ_ hx _=>by cases hx),?_⟩;refine jq V<|qP ?_;refine mE Z ?_ ?_<;>intro c7
 .have hT:cL p nm az.length=[.ref z6 (fT (fi p nm)),.num QD az.length]:=by rw [cL,aw (by have:=c7;omega)]
  rw [hT] at iQ;simp only [kZ,lz,ac,ap] at iQ;refine G6 ?_;refine Jc Y3 (vA D _ _ Pz (M:=M2) mu QD O Q1) ?_;rintro _ _ s8 h8 ⟨M3,rfl,rfl,hW3⟩;refine G2 ?_;obtain ⟨p4,N4,v4,zL,rfl,hb4⟩:=hW3;simp only [ao,rI];refine G6 ?_;refine iI (rn (c:=(w:Int)) Z Z Q5) Z<|G2 ?_;refine Wt 0 [_,_,_,_,_,_,_,_,_,_,_,_] Y9<|Zn ?_;refine lC [] _ (.inl Z) (.nil) Z Lc λ_ iL=>?_;exact ⟨(_::N4),rfl,rfl,by rw [hT];simpa only [lu,kZ,lz,an,aE,ao,aD,ap,bB] using (show CR ⟨_,ng,cg,Af,nf,cf,gm,fm,some bs,sz,nl⟩ bb _ w vl _ _ from ⟨p4,N4,v4,zL,rfl,hb4⟩)⟩
 obtain rfl:az=[]:=aG (by have:=c7;omega);have hT:cL p nm ([]:List Ex).length=[.ref z6 (fT (fi p nm))]:=rfl;refine Zk ?_;refine lC [] _ (.inl Z) (.nil) Z Lc λ_ iL=>?_;exact L8
def VG{p:Prop} (h:p:=by
 refine jd (lR.mk () [] (Lr D) (.cons (by first|(rw [aw ‹e.op=3›];rfl)|(rw [am ‹¬ e.op=3›];rfl)) (.nil _)) So Pr Tt)):p:=h
def K_{D:Nat}(d:Nat)(p:ja)(x:iT)(ih:∀ e,d=e+1->Ej D e p x)(L:Hl)(s:World)(hG:GP s)(E:CE)(hE:sy s p x E)(bb k w:Nat)(vl:Value)(M:Hl)(t:iR)(hW:CR E bb k w vl t M)(e:Ex)(A:OAdr9)(n c:Nat)(hk6:e.kind=6)(hA:j9 d s A n c e.args)(hu:iY e.num)(hX:yD p x e)(hk:k+w+3 * ns e<=1000000)(iQ:t.length+(cT (cE p x e w k).1).length<=1000000000):AM9 D 240 [jc bb,.agg #[iJ e.kind,iJ e.op,iO e.num,St e.name,.slice A n c]] M L s λv M' _=>v=.tuple #[]/\CR E bb (cE p x e w k).2 w vl (t++cT (cE p x e w k).1) M':=by
 have ra:=hX.args;obtain ⟨xa,_⟩:=SX hX;rw [hk6] at xa;have xa:1<=e.args.length:=xa;refine jv (fn:=f240) jl func240 V Z ntmps240 Z (rs:=[]) Z [(0,_),(1,_)] Z<|Zs ?_;obtain ⟨dy,bky,oy,y,Ay,ny,cy,um,rfl,hny,hy,hcy,hsy,ph,hxy⟩:=zi (j:=0) Pz ra O;have hN:=Qw hy;refine Zr<|kH Y2 λβ1 s1 h1=>sA ?_ ?_<;>intro c2;.have hT:=P5 (p:=p) (x:=x) (w:=w) (k:=k) hk6 c2 hy;rw [hT] at iQ;simp only [lu,kZ,lz,ac,ap,ao] at iQ;refine G5 ?_;refine iI (jR (j:=0) Y6 hny) Z<|iI (kq Y3 Pz Z) Z<|Jc Y3 (AC.mid [_] M L (ih dy um _ _ Pz _ Pz _ _ _ _ M _ hW y Ay ny cy Pz ph hxy O Q1)) ?_;rintro _ _ s3 h3 ⟨M1,rfl,rfl,kL⟩;simp only [iU,iV];refine G7 ?_;refine kF [(_,_)] [_] Y9 λβ4 s4 h4 hc4=>Jc Y3 (AC.mid [_] M1 L (x9 D _ _ (M:=M1) (n:=qz) kL Pz Q1)) ?_;rintro _ _ s5 h5 ⟨M2,rfl,rfl,mu⟩;simp only [iU,iV];refine G4 ?_;exact rR [_] _ (.nil) Z Lc λ_ iL=>⟨M2,rfl,rfl,by rw [hT];simpa only [lu,kZ,lz,an,aE,ao,aD,ap,bB] using (show CR E bb _ w vl _ _ from mu)⟩
 have hT:=P6 (p:=p) (x:=x) (w:=w) (k:=k) hk6 c2 hy;rw [hT] at iQ;simp only [lu,kZ,lz,ac,ap,ao] at iQ;refine G7 ?_;refine Di (γ:=Unit) (λ_=>[(4,iJ (if e.op=3 then 4294967295 else 0))]) [_] Z (λg=>M++L) (λg tw=>True) (λ_ _ _ h hl=>h) ?_ ?_
 .refine J7 ?_ ?_<;>intro c4;.refine G3 ?_;exact VG
  refine Zk ?_;exact VG
 intro g s3 h3 I3;simp only [iU,iV];have hof:0<=(if e.op=3 then 4294967295 else 0:Int)/\(if e.op=3 then 4294967295 else 0:Int) < 4294967296:=by split<;>decide
 refine G6 ?_;refine Jc Y3 (AC.mid [_] M L (vA D _ _ Pz (M:=M) hW pp hof Q1)) ?_;rintro _ _ s5 h5 ⟨M1,rfl,rfl,kL⟩;simp only [iU,iV];refine G5 ?_;refine Jc Y3 (AC.mid [_] M1 L (NM D _ _ (M:=M1) kL O Q1)) ?_;rintro _ _ s6 h6 ⟨M2,rfl,rfl,mu⟩;simp only [iU,iV];refine G7 ?_;refine iI (jR (j:=0) Y6 hny) Z<|iI (kq Y3 Pz Z) Z<|Jc Y3 (AC.mid [_] M2 L (ih dy um _ _ Pz _ Pz _ _ _ _ M2 _ mu y Ay ny cy Pz ph hxy O Q1)) ?_;rintro _ _ s7 h7 ⟨M3,rfl,rfl,hW3⟩;simp only [iU,iV];refine G7 ?_;refine kF [(_,_)] [_] Y9 λβ8 s8 h8 hc8=>Jc Y3 (AC.mid [_] M3 L (x9 D _ _ (M:=M3) (n:=EB) hW3 Pz Q1)) ?_;rintro _ _ s9 h9 ⟨M4,rfl,rfl,oQ⟩;simp only [iU,iV];refine G2 ?_;obtain ⟨p5,N5,v5,hp5,rfl,hb5⟩:=oQ;simp only [ao,rI];refine G5 ?_;refine iI (rn (c:=(w:Int)) Z Z Q5) Z<|G2 ?_;refine Wt 1 [_,_,_,_,_,_,_,_,_,_,_,_] Y9<|Zn ?_;refine lC [_] _ (.inl Z) (.nil) Z Lc λ_ iL=>?_;exact ⟨(_::N5),rfl,rfl,by rw [hT];simpa only [lu,kZ,lz,an,aE,ao,aD,ap,bB] using (show CR E bb _ w vl _ _ from ⟨p5,N5,v5,hp5,rfl,hb5⟩)⟩
def B'{D:Nat}(d:Nat)(p:ja)(x:iT)(ih:∀ e,d=e+1->Ej D e p x)(L:Hl)(s:World)(hG:GP s)(E:CE)(hE:sy s p x E)(bb k w:Nat)(vl:Value)(M:Hl)(t:iR)(hW:CR E bb k w vl t M)(e:Ex)(A:OAdr9)(n c:Nat)(AX:e.kind=7)(hA:j9 d s A n c e.args)(hu:iY e.num)(hX:yD p x e)(hk:k+w+3 * ns e<=1000000)(iQ:t.length+(cT (cE p x e w k).1).length<=1000000000):AM9 D 241 [jc bb,.agg #[iJ e.kind,iJ e.op,iO e.num,St e.name,.slice A n c]] M L s λv M' _=>v=.tuple #[]/\CR E bb (cE p x e w k).2 w vl (t++cT (cE p x e w k).1) M':=by
 have ra:=hX.args;obtain ⟨xa,_,_,uQ⟩:=SX hX;have uQ:=uQ AX;rw [AX] at xa;have xa:2<=e.args.length:=xa;refine jv (fn:=f241) jl func241 V Z ntmps241 Z (rs:=[]) Z [(0,_),(1,_)] Z<|Zs ?_;obtain ⟨dy,bky,oy,y,Ay,ny,cy,um,rfl,hny,hy,hcy,hsy,ph,hxy⟩:=zi (j:=0) Pz ra O;obtain ⟨dz,bkz,oz,z,Az,nz,cz,AT,hAz,hnz,hz,hcz,jA,tk,hxz⟩:=zi (j:=1) Pz ra O;cases hAz;have hN:=qIN hy hz;have un:=E1 (p:=p) (x:=x) y w k;have hle0:t.length+(cT (cE p x y w k).1).length<=1000000000:=by
   have h9:(cT (cE p x y w k).1).length<=(cT (cE p x e w k).1).length:=by
     by_cases rQ:e.op=20
     . rw [Xf AX hy hz rQ];simp only [lu,ac];omega
     . by_cases wt:e.op=21
       . rw [Xg AX hy hz wt];simp only [lu,ac];omega
       . rw [Xh AX hy hz rQ wt];simp only [lu,ac];omega
   omega
 refine Zr<|kH Y2 λβ1 s1 h1=>G7 ?_;refine iI (jR (j:=0) Y6 hny) Z<|iI (kq Y3 Pz Z) Z<|Jc Y3 (AC.mid [_] M L (ih dy um _ _ Pz _ Pz _ _ _ _ M _ hW y Ay ny cy Pz ph hxy O Q1)) ?_;rintro _ _ s2 h2 ⟨M1,rfl,rfl,kL⟩;simp only [iU,iV];refine LU ?_ ?_<;>intro c3;.have hT:=Xf (p:=p) (x:=x) (w:=w) (k:=k) AX hy hz c3;rw [hT] at iQ;simp only [lu,kZ,lz,ac,ap,ao] at iQ;refine G5 ?_;refine Jc Y3 (AC.mid [_] M1 L (FS D _ _ Pz (M:=M1) kL O)) ?_;rintro _ _ s4 h4 ⟨M2,rfl,rfl,mu⟩;simp only [iU,iV];refine G9 ?_;refine kF [(_,_),(_,_)] [_,_] Y9 λβ5 s5 h5 hc5=>Jc Y3 (AC.mid [_] M2 L (wF D _ _ (M:=M2) (n:=tv) mu Pz Q1)) ?_;rintro _ _ s6 h6 ⟨M3,rfl,rfl,hW3⟩;simp only [iU,iV];refine G7 ?_;refine iI (jR (j:=1) Y6 hnz) Z<|iI (kq Y3 Pz Z) Z<|Jc Y3 (AC.mid [_] M3 L (ih dz AT _ _ Pz _ Pz _ _ _ _ M3 _ hW3 z Az nz cz Pz tk hxz O Q1)) ?_;rintro _ _ s7 h7 ⟨M4,rfl,rfl,oQ⟩;simp only [iU,iV];refine G7 ?_;refine kF [(_,_)] [_] Y9 λβ8 s8 h8 hc8=>Jc Y3 (AC.mid [_] M4 L (x9 D _ _ (M:=M4) (n:=qz) oQ Pz Q1)) ?_;rintro _ _ s9 h9 ⟨M5,rfl,rfl,rS⟩;simp only [iU,iV];refine G7 ?_;refine kF [(_,_)] [_] Y9 λβ10 ku jN hc10=>Jc Y3 (AC.mid [_] M5 L (x9 D _ _ (M:=M5) (n:=qz) rS Pz Q1)) ?_;rintro _ _ kv jP ⟨M6,rfl,rfl,hW6⟩;simp only [iU,iV];refine G8 ?_;refine Jc Y3 (AC.mid [_] M6 L (BS D _ _ (M:=M6) hW6 _ Q1)) ?_;rintro _ _ kc jL ⟨M7,rfl,rfl,hW7⟩;simp only [iU,iV];refine G5 ?_;exact rR [_] _ (.nil) Z Lc λ_ iL=>⟨M7,rfl,rfl,by rw [hT];simpa only [lu,kZ,lz,an,aE,ao,aD,ap,bB] using (show CR E bb _ w vl _ _ from hW7)⟩
 have ho20:=c3;refine J6 ?_ ?_<;>intro c4;.have hT:=Xg (p:=p) (x:=x) (w:=w) (k:=k) AX hy hz c4;rw [hT] at iQ;simp only [lu,kZ,lz,ac,ap,ao] at iQ;refine G5 ?_;refine Jc Y3 (AC.mid [_] M1 L (FS D _ _ Pz (M:=M1) kL O)) ?_;rintro _ _ s5 h5 ⟨M2,rfl,rfl,mu⟩;simp only [iU,iV];refine G8 ?_;refine kF [(_,_)] [_] Y9 λβ6 s6 h6 hc6=>Jc Y3 (AC.mid [_] M2 L (x9 D _ _ (M:=M2) (n:=qz) mu Pz Q1)) ?_;rintro _ _ s7 h7 ⟨M3,rfl,rfl,hW3⟩;simp only [iU,iV];refine G8 ?_;refine kF [(_,_),(_,_)] [_,_] Y9 λβ8 s8 h8 hc8=>Jc Y3 (AC.mid [_] M3 L (wF D _ _ (M:=M3) (n:=tv) hW3 Pz Q1)) ?_;rintro _ _ s9 h9 ⟨M4,rfl,rfl,oQ⟩;simp only [iU,iV];refine G7 ?_;refine iI (jR (j:=1) Y6 hnz) Z<|iI (kq Y3 Pz Z) Z<|Jc Y3 (AC.mid [_] M4 L (ih dz AT _ _ Pz _ Pz _ _ _ _ M4 _ oQ z Az nz cz Pz tk hxz O Q1)) ?_;rintro _ _ ku jN ⟨M5,rfl,rfl,rS⟩;simp only [iU,iV];refine G7 ?_;refine kF [(_,_)] [_] Y9 λβ11 kv jP hc11=>Jc Y3 (AC.mid [_] M5 L (x9 D _ _ (M:=M5) (n:=qz) rS Pz Q1)) ?_;rintro _ _ kc jL ⟨M6,rfl,rfl,hW6⟩;simp only [iU,iV];refine G8 ?_;refine Jc Y3 (AC.mid [_] M6 L (BS D _ _ (M:=M6) hW6 _ Q1)) ?_;rintro _ _ kY kN ⟨M7,rfl,rfl,hW7⟩;simp only [iU,iV];refine G7 ?_;refine kF [(_,_)] [_] Y9 λβ14 li kz hc14=>Jc Y3 (AC.mid [_] M7 L (x9 D _ _ (M:=M7) (n:=qz) hW7 Pz Q1)) ?_;rintro _ _ lJ lr ⟨M8,rfl,rfl,hW8⟩;simp only [iU,iV];refine G5 ?_;exact rR [_] _ (.nil) Z Lc λ_ iL=>⟨M8,rfl,rfl,by rw [hT];simpa only [lu,kZ,lz,an,aE,ao,aD,ap,bB] using (show CR E bb _ w vl _ _ from hW8)⟩
 have hT:=Xh (p:=p) (x:=x) (w:=w) (k:=k) AX hy hz ho20 c4;rw [hT] at iQ;simp only [lu,kZ,lz,ac,ap,ao] at iQ;refine G6 ?_;refine Jc Y3 (AC.mid [_] M1 L (NM D _ _ (M:=M1) kL O Q1)) ?_;rintro _ _ s5 h5 ⟨M2,rfl,rfl,mu⟩;simp only [iU,iV];refine G7 ?_;refine iI (jR (j:=1) Y6 hnz) Z<|iI (kq Y3 Pz Z) Z<|Jc Y3 (AC.mid [_] M2 L (ih dz AT _ _ Pz _ Pz _ _ _ _ M2 _ mu z Az nz cz Pz tk hxz O Q1)) ?_;rintro _ _ s6 h6 ⟨M3,rfl,rfl,hW3⟩;simp only [iU,iV];refine G7 ?_;refine Jc Y3 (qjS D _ _ e.op O) ?_;rintro _ _ s7 h7 ⟨rfl,Ak,nk,ck,rfl,hK⟩;have hnk:nk<=2:=by rw [hK.1];exact (N9 _).1
 refine G5 ?_;obtain ⟨tq,hq,hWq⟩:∃ tq,tq=((t++cT (cE p x y w k).1)++cT [.op qj])++cT (cE p x z (w+1) (cE p x y w k).2).1/\CR E bb (cE p x z (w+1) (cE p x y w k).2).2 (w+1) vl tq M3:=⟨_,rfl,hW3⟩;have hql:=bj List.length hq;simp only [kZ,lz,ac,ap] at hql;refine Cz [_] (γ:=Nat×Hl×iR) (λg=>[(0,_),(97,_),(98,_),(99,iJ (g.1:Int))]) (λg=>g.2.1++L) (λg tw=>Le D s7 tw/\(g.1<=nk/\CR E bb (cE p x z (w+1) (cE p x y w k).2).2 (w+1) vl g.2.2 g.2.1/\g.2.2++cT (((x5 e.op).drop g.1).map .op)=tq++cT ((x5 e.op).map .op))) (λg=>nk - g.1) (λ_ _ _ h hl=>⟨h.1.trans hl,h.2⟩) (0,M3,tq) (.c4 Z Z Z Z (.nil _)) Z ⟨Le.refl _,⟨aB _,hWq,Z⟩⟩ ?_;intro g s8 I8;simp only [iU,iV];obtain ⟨j,Mj,tj⟩:=g;obtain ⟨oA,hWj,hT1⟩:=I8.2;simp only at oA hWj hT1;dsimp only;have ka:=bj List.length hT1;simp only [ac] at ka;refine J6 ?_ ?_<;>intro c9
 .have hjk:j < nk:=by omega
  obtain ⟨bk,ok,xk,rfl,Bd,AS,_⟩:=iW.at_ Pz hjk;have xe:=M_ Bd;rw [xe,aS,kZ,ac] at ka;refine G6 ?_;refine iI (ly Y6 hjk) Z<|iI (jW Y3 Pz Z) Z<|G8 ?_;refine kF [(_,_)] [_] Y9 λβ10 ku jN hc10=>Jc Y3 (AC.mid [_] Mj L (x9 D _ _ (M:=Mj) (n:=_) hWj Pz Q1)) ?_;rintro _ _ kv jP ⟨M4,rfl,rfl,oQ⟩;simp only [iU,iV];refine G4 ?_;refine ki Y3 (jB O O)<|G2 ?_;refine jd ⟨(j+1,M4,_),[],kp,Z,⟨Lc,⟨by simp only;omega,oQ,by simp only;rw [<- hT1,xe];simp only [aS,lu,kZ,lz,an,aE,ao,aD,ap,bB]⟩⟩,Oz⟩
 rw [aK (by have:=hK.1;omega),dR,lz,aE] at hT1;subst hT1;subst hq;refine G5 ?_;obtain ⟨p4,N4,v4,zL,rfl,hb4⟩:=hWj;simp only [ao,rI];refine G5 ?_;refine iI (rn (c:=(w:Int)) Z Z Q5) Z<|G2 ?_;refine Wt 1 [_,_,_,_,_,_,_,_,_,_,_,_] Y9<|Zn ?_;refine lC [_] _ (.inl Z) (.nil) Z Lc λ_ iL=>?_;exact ⟨(_::N4),rfl,rfl,by rw [hT];simpa only [lu,kZ,lz,an,aE,ao,aD,ap,bB] using (show CR E bb _ w vl _ _ from ⟨p4,N4,v4,zL,rfl,hb4⟩)⟩
def QI{p:Prop} (h:p:=by
 exact ⟨M1,rfl,rfl,by (first|rw [hT]|skip);simpa only [lu,kZ,lz,an,aE,ao,aD,ap,bB] using (show CR ⟨_,ng,cg,Af,nf,cf,gm,fm,some bs,sz,nl⟩ bb _ w vl _ _ from kL)⟩):p:=h
def TC{p:Prop} (h:p:=by
 simp only [iU,iV];refine G2 ?_;refine lC [_] _ (.inl Z) (.nil) Z Lc λ_ iL=>?_;exact QI):p:=h
def Vy{p:Prop} (h:p:=by
 rintro _ _ s8 h8 ⟨M1,rfl,rfl,kL⟩;simp only [iU,iV];refine G2 ?_;refine lC [_] _ (.inl Z) (.nil) Z Lc λ_ iL=>?_;exact QI):p:=h
def I'{D:Nat}(d:Nat)(p:ja)(x:iT)(ih:∀ e,d=e+1->Ej D e p x)(L:Hl)(s:World)(hG:GP s)(E:CE)(hE:sy s p x E)(bb k w:Nat)(vl:Value)(M:Hl)(t:iR)(hW:CR E bb k w vl t M)(e:Ex)(A:OAdr9)(n c:Nat)(hUN:Pw D d p x)(hBI:OV D d p x)(hCL:LL D d p x)(hA:j9 d s A n c e.args)(hu:iY e.num)(hX:yD p x e)(hk:k+w+3 * ns e<=1000000)(iQ:t.length+(cT (cE p x e w k).1).length<=1000000000):AM9 D 196 [jc bb,.agg #[iJ e.kind,iJ e.op,iO e.num,St e.name,.slice A n c]] M L s λv M' _=>v=.tuple #[]/\CR E bb (cE p x e w k).2 w vl (t++cT (cE p x e w k).1) M':=by
 obtain ⟨Ag,ng,cg,Af,nf,cf,gm,fm,sm,sz,nl⟩:=E;have th:jn s Ag ng cg p.o:=hE.gl;have hng:=th.1;have jA:sz=jt x:=hE.sz;have kK:nl=x.locals.length:=hE.nl;obtain ⟨bs,w7,ess,hms,hhms⟩:=hE.ms;have w7:sm=some bs:=w7;subst w7;obtain ⟨esg,hmg,hhmg⟩:=hE.mg;obtain ⟨esf,yS,hhmf⟩:=hE.mf;have hp6:=hE.pq.p6;have hl12:=hE.pq.l12;have hg64:=hE.pq.g64;have hf64:=hE.pq.f64;unfold jt at jA;have ra:=hX.args;obtain ⟨xa,he1,he7,_⟩:=SX hX;have pr:=hu.1;have oE:=hu.2;refine jv (fn:=f196) jl func196 V Z ntmps196 Z (rs:=[]) Z [(0,_),(1,_)] Z<|Sr<|kH Y2 λβ1 s1 h1=>Ek ?_ ?_<;>intro c2;.have hT:=PX (p:=p) (x:=x) (w:=w) (k:=k) c2;rw [hT] at iQ;simp only [lu,kZ,lz,ac,ap,ao] at iQ;refine mh jF 7 Z 1 λs3 h3=>H5 ?_;refine za 5 Z (sn Y5 (jB O O)) Z<|iM 6 V<|Jb Z Tt Z Z Z (AC.mid [_] M L (vA D _ _ Pz (M:=M) hW pp ⟨pr,oE⟩ Q1)) ?_;rintro _ _ s4 h4 ⟨M1,rfl,rfl,kL⟩;refine ⟨(λx hx _=>zk hx),?_⟩;simp only [iU,iV];refine jq V<|Zb ?_;refine lC [_] _ (.inl Z) (.nil) Z Lc λ_ iL=>?_;exact QI
 refine J6 ?_ ?_<;>intro c3;.have hT:=PY (p:=p) (x:=x) (w:=w) (k:=k) c3;have uo:=Qk hX c3;have hlen0:=iQ;rw [hT] at iQ;simp only [lu,kZ,lz,ac,ap,ao] at iQ;refine G4 ?_;refine Jc Y3 (AC.mid [_] M L (qtE p x Pz Pz M hW uo O (by rw [hT] at hlen0;exact hlen0))) ?_;rintro _ _ s4 h4 ⟨M1,rfl,rfl,kL⟩;exact TC
 refine J6 ?_ ?_<;>intro c4
 .have hT:=c4;rw [hT] at xa;have xa:1<=e.args.length:=xa;obtain ⟨i,g,hi,hg⟩:=Ql hX hT;obtain ⟨dy,bky,oy,y,Ay,ny,cy,um,rfl,hny,hy,hcy,hsy,ph,hxy⟩:=zi (j:=0) Pz ra O;have hT:=PZ (p:=p) (x:=x) (w:=w) (k:=k) hT hy;rw [hi,Ti hg] at hT;rw [hT] at iQ;simp only [lu,kZ,lz,ac,ap,ao] at iQ;have hN:=Qw hy;refine Zs ?_;obtain ⟨p1,N1,v1,qG,rfl,pd⟩:=hW;simp only [ao,rI];refine ma jF 8 Z _ (λ_ h=>h) λs5 h5=>H6 ?_;refine za 6 Z (jD (EF jU.str yd Z Z Pz) ((Gb hhmg).trans (bj (Value.int .i64) hi))) Z<|H1 ?_;refine jq V<|G6 ?_;refine iI (jR (j:=0) Y6 hny) Z<|iI (kq Y3 Pz Z) Z ?_;refine Jc Y3 (AC.mid [_] (_::N1) L (ih dy um _ _ Pz _ Pz _ _ _ _ (_::N1) _ ⟨p1,N1,v1,qG,Z,pd⟩ y Ay ny cy Pz ph hxy O Q1)) ?_;rintro _ _ s6 h6 ⟨M2,rfl,rfl,mu⟩;simp only [iU,iV];refine G3 ?_;obtain ⟨p3,N3,v3,xb,rfl,yO⟩:=mu;simp only [ao,rI];have AV:i < ng:=by rw [th.1];exact (al.1 hg).1
  obtain ⟨bg,og,g9,Ai,ni,ci,rfl,hg9,hcg,AU,hug,hnl9⟩:=jn.at_ Pz AV;obtain rfl:g=g9:=cD (hg.symm.trans hg9);have hgu:=hug.1;have hgu2:=hug.2;refine mh jF 14 Z 0 λs7 h7=>H8 ?_;refine iM 7 V<|j5 Z Tt (Wd 1 Y5) Z<|za 9 Z (jR (j:=i) Y6 AV) Z<|H1 ?_;refine za 11 Z (nh 2 Y3 Pz Z) Z<|za 12 Z (sn Y5 (jB O O)) Z<|iM 13 V ?_;refine Jb Z Tt Z Z Z (AC.mid [_] (_::N3) L (vA D _ _ Pz (M:=(_::N3)) ⟨p3,N3,v3,xb,Z,yO⟩ Dx ⟨hgu,hgu2⟩ Q1)) ?_;rintro _ _ s8 h8 ⟨M4,rfl,rfl,oQ⟩;refine ⟨(λ_ hx _=>by cases hx),?_⟩;simp only [iU,iV];refine jq V<|Zt<|mh jF 7 Z 0 λs9 h9=>H4 ?_;refine iM 4 V<|Jf Z Tt Z Z Z (Kw D _ _ Pz O O) λku jN=>iM 5 V<|pV Z Tt [(_,_),(_,_)] [_,_] Y9 λβ11 kv jP hc11=>iM 6 V<|Jb Z Tt Z Z Z (AC.mid [_] M4 L (wF D _ _ (M:=M4) (n:=Oh) oQ Pz Q1)) ?_;rintro _ _ kc jL ⟨M5,rfl,rfl,rS⟩;refine ⟨(λ_ hx _=>by cases hx),?_⟩;simp only [iU,iV];refine jq V<|Zb ?_;refine lC [_] _ (.inl Z) (.nil) Z Lc λ_ iL=>?_;exact ⟨M5,rfl,rfl,by (first|rw [hT]|skip);simpa only [lu,kZ,lz,an,aE,ao,aD,ap,bB] using (show CR ⟨_,ng,cg,Af,nf,cf,gm,fm,some bs,sz,nl⟩ bb _ w vl _ _ from rS)⟩
 refine J6 ?_ ?_<;>intro c5
 .have g4:=c5;have hT:=P0 (p:=p) (x:=x) (w:=w) (k:=k) g4;rw [hT] at iQ;have g6:e.args.length<=6:=by have:=(Bm (ze hX.1).1).2.2.2.1;rw [g4] at this;exact this
  have hN:ln e.args < ns e:=by cases e;rw [ns];exact Nat.lt_add_of_pos_left Nat.one_pos
  refine G6 ?_;refine Jc Y3 (AC.mid [_] M L (hCL _ _ Pz _ Pz _ _ _ _ M _ hW _ _ _ _ e.args Pz ra g6 O iQ)) ?_;rintro _ _ s6 h6 ⟨M1,rfl,rfl,kL⟩;exact TC
 refine J6 ?_ ?_<;>intro c6;.have hT:=P4 (p:=p) (x:=x) (w:=w) (k:=k) c6;rw [hT] at iQ;simp only [lu,kZ,lz,ac,ap,ao] at iQ;refine G4 ?_;refine kF [(_,_)] [_] Y9 λβ7 s7 h7 hc7=>Jc Y3 (AC.mid [_] M L (x9 D _ _ (M:=M) (n:=MD) hW Pz Q1)) ?_;exact Vy
 refine J6 ?_ ?_<;>intro c7;.have hk6:=c7;refine Zr<|jY Y2<|iI (jh 0 [_,_,_,_,_] Y5) Z<|Jc Y3 (AC.mid [_] M L (hUN _ _ Pz _ Pz _ _ _ _ M _ hW e _ _ _ hk6 Pz hu hX hk iQ)) ?_;exact Vy
 refine J6 ?_ ?_<;>intro c8;.have AX:=c8;refine Zr<|jY Y2<|iI (jh 0 [_,_,_,_,_] Y5) Z<|Jc Y3 (AC.mid [_] M L (hBI _ _ Pz _ Pz _ _ _ _ M _ hW e _ _ _ AX Pz hu hX hk iQ)) ?_;rintro _ _ s9 h9 ⟨M1,rfl,rfl,kL⟩;exact TC
 exfalso;omega
def Ce{D:Nat}(p:ja)(x:iT):∀ d,LL D d p x/\Ej D d p x
 | 0=>by
  have ih:∀ e,0=e+1->Ej D e p x:=λe h=>by omega
  have hC:LL D 0 p x:=λL s hG E hE bb k w vl M t hW nm A n c az hA ra h6 hk iQ=>YE 0 p x ih L s hG E hE bb k w vl M t hW nm A n c az hA ra h6 hk iQ;have hU:Pw D 0 p x:=λL s hG E hE bb k w vl M t hW e A n c h6 hA hu hX hk iQ=>K_ 0 p x ih L s hG E hE bb k w vl M t hW e A n c h6 hA hu hX hk iQ;have hB:OV D 0 p x:=λL s hG E hE bb k w vl M t hW e A n c h6 hA hu hX hk iQ=>B' 0 p x ih L s hG E hE bb k w vl M t hW e A n c h6 hA hu hX hk iQ;exact ⟨hC,λL s hG E hE bb k w vl M t hW e A n c hA hu hX hk iQ=>I' 0 p x ih L s hG E hE bb k w vl M t hW e A n c hU hB hC hA hu hX hk iQ⟩
 | d+1=>by
  have ih:∀ e,d+1=e+1->Ej D e p x:=λe h=>(show d=e by omega)▸(Ce p x d).2;have hC:LL D (d+1) p x:=λL s hG E hE bb k w vl M t hW nm A n c az hA ra h6 hk iQ=>YE (d+1) p x ih L s hG E hE bb k w vl M t hW nm A n c az hA ra h6 hk iQ;have hU:Pw D (d+1) p x:=λL s hG E hE bb k w vl M t hW e A n c h6 hA hu hX hk iQ=>K_ (d+1) p x ih L s hG E hE bb k w vl M t hW e A n c h6 hA hu hX hk iQ;have hB:OV D (d+1) p x:=λL s hG E hE bb k w vl M t hW e A n c h6 hA hu hX hk iQ=>B' (d+1) p x ih L s hG E hE bb k w vl M t hW e A n c h6 hA hu hX hk iQ;exact ⟨hC,λL s hG E hE bb k w vl M t hW e A n c hA hu hX hk iQ=>I' (d+1) p x ih L s hG E hE bb k w vl M t hW e A n c hU hB hC hA hu hX hk iQ⟩
def AC.mid2{D:Nat}{s:World}{f:FuncId}{args:LVal9}{Q:Value->Hl->World->Prop}(X M R Y:Hl)(h:AC P D f args ((M++R)++(X++Y)) s (λv L' s'=>∃ M',L'=M'++(X++Y)/\Q v M' s')):AC P D f args (X++(M++(R++Y))) s (λv L' s'=>∃ M',L'=X++(M'++Y)/\Q v M' s'):=by
 rw [<- an M R Y];exact AC.mid X (M++R) Y h
def qra(hG:GP s){E:CE}(hW:CR E bb (k+1) w vl t M)(hk:k+1<=1000000):AM9 D 242 [jc bb] M L s λv M' _=>v=St (lT (k+2))/\CR E bb (k+2) w vl t M':=FS D L s hG hW hk
def Gx(D d:Nat)(p:ja)(x:iT):Prop:=∀ (L:Hl) (s:World),GP s->∀ (E:CE),sy s p x E->∀ (bb k:Nat) (vl:Value) (M R:Hl) (t:iR) (ls:List iR),CR E bb k 0 vl t M->Own 9 1 R vl ls.length (sb ls)->∀ (A:OAdr9) (n c:Nat) (l:List jb) (lp lv:Nat),jz d s A n c l->Co p x l lp lv->(0 < lp->2<=ls.length)->ls.length<=2 * lv/\lv<=17->k+3 * kC l<=1000000->t.length+(cT (cB p x l k ls).1).length<=1000000000->AM9 D 118 [jc bb,.slice A n c] (M++R) L s λv M' _=>v=.tuple #[]/\∃ M1 R1 pN,M'=M1++R1/\CR E bb (cB p x l k ls).2 0 pN (t++cT (cB p x l k ls).1) M1/\Own 9 1 R1 pN ls.length (sb ls)
def LY(D d:Nat)(p:ja)(x:iT):Prop:=∀ (L:Hl) (s:World),GP s->∀ (E:CE),sy s p x E->∀ (bb k:Nat) (vl:Value) (M R:Hl) (t:iR) (ls:List iR),CR E bb k 0 vl t M->Own 9 1 R vl ls.length (sb ls)->∀ (A1:OAdr9) (n1 c1:Nat) (A2:OAdr9) (n2 c2:Nat) (A3:OAdr9) (n3 c3:Nat) (y:jb) (lp lv:Nat),j9 d s A1 n1 c1 y.exprs->jz d s A2 n2 c2 y.body->jz d s A3 n3 c3 y.els->zy p x y lp lv->(0 < lp->2<=ls.length)->ls.length<=2 * lv->k+3 * qA y<=1000000->t.length+(cT (cS p x y k ls).1).length<=1000000000->AM9 D 154 [jc bb,.agg #[iJ y.kind,St y.name,.slice A1 n1 c1,.slice A2 n2 c2,.slice A3 n3 c3]] (M++R) L s λv M' _=>v=.tuple #[]/\∃ M1 R1 pN,M'=M1++R1/\CR E bb (cS p x y k ls).2 0 pN (t++cT (cS p x y k ls).1) M1/\Own 9 1 R1 pN ls.length (sb ls)
def Pq(D d:Nat)(p:ja)(x:iT):Prop:=∀ (L:Hl) (s:World),GP s->∀ (E:CE),sy s p x E->∀ (bb k:Nat) (vl:Value) (M R:Hl) (t:iR) (ls:List iR),CR E bb k 0 vl t M->Own 9 1 R vl ls.length (sb ls)->∀ (A1:OAdr9) (n1 c1:Nat) (A2:OAdr9) (n2 c2:Nat) (A3:OAdr9) (n3 c3:Nat) (y:jb) (lp lv:Nat),y.kind=3->j9 d s A1 n1 c1 y.exprs->jz d s A2 n2 c2 y.body->jz d s A3 n3 c3 y.els->zy p x y lp lv->(0 < lp->2<=ls.length)->ls.length<=2 * lv->k+3 * qA y<=1000000->t.length+(cT (cS p x y k ls).1).length<=1000000000->AM9 D 198 [jc bb,.agg #[iJ y.kind,St y.name,.slice A1 n1 c1,.slice A2 n2 c2,.slice A3 n3 c3]] (M++R) L s λv M' _=>v=.tuple #[]/\∃ M1 R1 pN,M'=M1++R1/\CR E bb (cS p x y k ls).2 0 pN (t++cT (cS p x y k ls).1) M1/\Own 9 1 R1 pN ls.length (sb ls)
def Px(D d:Nat)(p:ja)(x:iT):Prop:=∀ (L:Hl) (s:World),GP s->∀ (E:CE),sy s p x E->∀ (bb k:Nat) (vl:Value) (M R:Hl) (t:iR) (ls:List iR),CR E bb k 0 vl t M->Own 9 1 R vl ls.length (sb ls)->∀ (A1:OAdr9) (n1 c1:Nat) (A2:OAdr9) (n2 c2:Nat) (A3:OAdr9) (n3 c3:Nat) (y:jb) (lp lv:Nat),y.kind=4->j9 d s A1 n1 c1 y.exprs->jz d s A2 n2 c2 y.body->jz d s A3 n3 c3 y.els->zy p x y lp lv->(0 < lp->2<=ls.length)->ls.length<=2 * lv->k+3 * qA y<=1000000->t.length+(cT (cS p x y k ls).1).length<=1000000000->AM9 D 199 [jc bb,.agg #[iJ y.kind,St y.name,.slice A1 n1 c1,.slice A2 n2 c2,.slice A3 n3 c3]] (M++R) L s λv M' _=>v=.tuple #[]/\∃ M1 R1 pN,M'=M1++R1/\CR E bb (cS p x y k ls).2 0 pN (t++cT (cS p x y k ls).1) M1/\Own 9 1 R1 pN ls.length (sb ls)
def z'{D:Nat}(d:Nat)(p:ja)(x:iT)(ih:∀ e,d=e+1->LY D e p x)(L:Hl)(s:World)(hG:GP s)(E:CE)(hE:sy s p x E)(bb k:Nat)(vl:Value)(M R:Hl)(t:iR)(ls:List iR)(hW:CR E bb k 0 vl t M)(hO:Own 9 1 R vl ls.length (sb ls))(A:OAdr9)(n c:Nat)(l:List jb)(lp lv:Nat)(hA:jz d s A n c l)(hB:Co p x l lp lv)(rZ:(0 < lp->2<=ls.length))(nZ:ls.length<=2 * lv/\lv<=17)(hk:k+3 * kC l<=1000000)(iQ:t.length+(cT (cB p x l k ls).1).length<=1000000000):Ap9 D 118 [jc bb,.slice A n c] ((M++R)++L) s λv L' _=>∃ M',L'=M'++L/\v=.tuple #[]/\∃ M1 R1 pN,M'=M1++R1/\CR E bb (cB p x l k ls).2 0 pN (t++cT (cB p x l k ls).1) M1/\Own 9 1 R1 pN ls.length (sb ls):=by
 have hn:=hA.1;have mX:=hA.2.1;have oR:=hA.2.2.1;rw [an M R L];refine jv (fn:=f118) jl func118 V Z ntmps118 Z (rs:=[]) Z [(0,_),(1,_)] Z<|Zs ?_;refine G7 ?_;refine lw (γ:=Nat×Nat×Hl×Hl×Value×iR) (λg=>[(0,_),(6,_),(7,_),(8,iJ (g.1:Int))]) (λg=>g.2.2.1++(g.2.2.2.1++L)) (λg tw=>Le D s tw/\(g.1<=n/\CR E bb g.2.1 0 g.2.2.2.2.1 g.2.2.2.2.2 g.2.2.1/\Own 9 1 g.2.2.2.1 g.2.2.2.2.1 ls.length (sb ls)/\g.2.2.2.2.2++cT (cB p x (l.drop g.1) g.2.1 ls).1=t++cT (cB p x l k ls).1/\(cB p x (l.drop g.1) g.2.1 ls).2=(cB p x l k ls).2/\g.2.1+3 * kC (l.drop g.1)<=1000000)) (λg=>n - g.1) (λ_ _ _ h hl=>⟨h.1.trans hl,h.2⟩) (0,k,M,R,vl,t) (.c4 Z Z Z Z (.nil _)) Z ⟨Le.refl _,⟨aB _,hW,hO,Z,Z,hk⟩⟩ ?_;intro g s1 I1;obtain ⟨j,kj,Mj,Rj,vj,tj⟩:=g;obtain ⟨oA,hWj,xQ,hT1,hT2,hkj⟩:=I1.2;simp only at oA hWj xQ hT1 hT2 hkj;dsimp only;have ka:=bj List.length hT1;simp only [ac] at ka;refine J6 ?_ ?_<;>intro c2
 .have pR:j < n:=by omega
  obtain ⟨dy,bky,oy,y,A1,n1,c1,A2,n2,c2,A3,n3,c3,um,rfl,hy,hcy,hay,hby,hey,_⟩:=jz.at_ Pz pR;have hT:=qIy (p:=p) (x:=x) (k:=kj) (ls:=ls) hy;rw [Tz hy] at hkj;rw [hT] at ka;simp only [lu,ac] at ka;refine G6 ?_;refine iI (jR Y6 pR) Z<|iI (kq Y3 Pz Z) Z<|jp Z [_,_,_,_,_] Y2 λβ3 s3 h3=>Wt 0 [_,_,_,_,_] Y9<|G4 ?_;refine iI (jh 0 [_,_,_,_,_] Y5) Z<|Jc Y3 (AC.mid2 [_] Mj Rj L (ih dy um _ _ Pz _ Pz _ _ _ Mj Rj _ _ hWj xQ A1 n1 c1 A2 n2 c2 A3 n3 c3 y lp lv Pz Pz Pz (hB.at_ hy) rZ nZ.1 O O)) ?_;rintro _ _ s4 h4 ⟨_,rfl,rfl,M1,R1,pN,rfl,kL,hO1⟩;simp only [ao,aD,an];refine G4 ?_;refine ki Y3 (jB O O)<|G2 ?_;refine jd ⟨(j+1,(cS p x y kj ls).2,M1,R1,pN,_),[_],kp,Z,⟨Lc,⟨by simp only;omega,kL,hO1,by simp only;rw [<- hT1,hT];simp only [lu,kZ,lz,an,aE,ao,aD,ap,bB],by simp only;rw [<- hT2,hT],by simp only;have:=Xe (p:=p) (x:=x) y kj ls;omega⟩⟩,Oz⟩
 obtain rfl:l.length=j:=by omega
 rw [aK (aC _),cB] at hT1 hT2;rw [show cT ([]:List Li)=[] from rfl,aE] at hT1;subst hT1;simp only at hT2;subst hT2;refine G4 ?_;refine lC [] _ (.inl Z) (.nil) Z I1.1 λ_ iL=>?_;exact ⟨_,(an Mj Rj L).symm,rfl,Mj,Rj,_,rfl,hWj,xQ⟩
def J'{D:Nat}(d:Nat)(p:ja)(x:iT)(hBD:Gx D d p x)(L:Hl)(s:World)(hG:GP s)(E:CE)(hE:sy s p x E)(bb k:Nat)(vl:Value)(M R:Hl)(t:iR)(ls:List iR)(hW:CR E bb k 0 vl t M)(hO:Own 9 1 R vl ls.length (sb ls))(A1:OAdr9)(n1 c1:Nat)(A2:OAdr9)(n2 c2:Nat)(A3:OAdr9)(n3 c3:Nat)(y:jb)(lp lv:Nat)(yP:y.kind=3)(tK:j9 d s A1 n1 c1 y.exprs)(lG:jz d s A2 n2 c2 y.body)(mI:jz d s A3 n3 c3 y.els)(hS:zy p x y lp lv)(rZ:(0 < lp->2<=ls.length))(nZ:ls.length<=2 * lv)(hk:k+3 * qA y<=1000000)(iQ:t.length+(cT (cS p x y k ls).1).length<=1000000000):Ap9 D 198 [jc bb,.agg #[iJ y.kind,St y.name,.slice A1 n1 c1,.slice A2 n2 c2,.slice A3 n3 c3]] ((M++R)++L) s λv L' _=>∃ M',L'=M'++L/\v=.tuple #[]/\∃ M1 R1 pN,M'=M1++R1/\CR E bb (cS p x y k ls).2 0 pN (t++cT (cS p x y k ls).1) M1/\Own 9 1 R1 pN ls.length (sb ls):=by
 have xW:=mI.1;rw [an M R L];obtain ⟨hv16,ra,hBb,hBe⟩:=hS.parts;have zH:=Gh y;rw [am O] at hBb hBe;have pT:=zZ hS.1 (.inr (.inl yP));refine jv (fn:=f198) jl func198 V Z ntmps198 Z (rs:=[]) Z [(0,_),(1,_)] Z<|Zs ?_;obtain ⟨de,bke,oe,e,Ae,ne,ce,hde,rfl,mB,he,tL,hse,hue,uv⟩:=zi (j:=0) Pz ra O;have un:=E1 (p:=p) (x:=x) e 0 (k+1);have AW:=Gs (p:=p) (x:=x) y.body (cE p x e 0 (k+1)).2 ls;have yM:=zd he;rw [cn] at yM;have hln:t.length+(cT ((cE p x e 0 (k+1)).1++.ref tv (lT (k+1))::(cB p x y.body (cE p x e 0 (k+1)).2 ls).1)).length<=1000000000:=by
   by_cases h0:y.els=[]
   . rw [IX yP he h0,lu,ac] at iQ;omega
   . rw [Xd yP he (λh=>h0 (aG h)),lu,lu,ac,ac] at iQ;omega
 simp only [lu,kZ,ac] at hln;refine Zr<|kH Y2 λβ1 s1 h1=>G7 ?_;refine Jc Y3 (AC.mid [_] M (R++L) (FS D _ _ Pz (M:=M) hW O)) ?_;rintro _ _ s2 h2 ⟨M1,rfl,rfl,kL⟩;simp only [iU,iV];refine G8 ?_;refine iI (jR (j:=0) Y6 mB) Z<|iI (kq Y3 Pz Z) Z<|Jc Y3 (AC.mid [_] M1 (R++L) ((Ce p x de).2 _ _ Pz _ Pz _ _ _ _ M1 _ kL e Ae ne ce Pz hue uv O Q1)) ?_;rintro _ _ s3 h3 ⟨M2,rfl,rfl,mu⟩;simp only [iU,iV];refine G8 ?_;refine kF [(_,_),(_,_)] [_,_] Y9 λβ4 s4 h4 hc4=>Jc Y3 (AC.mid [_] M2 (R++L) (wF D _ _ (M:=M2) (n:=tv) mu Pz Q1)) ?_;rintro _ _ s5 h5 ⟨M3,rfl,rfl,hW3⟩;simp only [iU,iV];refine G7 ?_;refine Jc Y3 (AC.mid2 [_] M3 R L (hBD _ _ Pz _ Pz _ _ _ M3 R _ _ hW3 hO _ _ _ y.body lp (lv+1) Pz hBb rZ Ut O Q1)) ?_;rintro _ _ s6 h6 ⟨_,rfl,rfl,M4,R4,vl4,rfl,oQ,hO4⟩;simp only [ao,aD,an];refine U1 ?_ ?_<;>intro c7;.have hT:=IX (p:=p) (x:=x) (k:=k) (ls:=ls) yP he (aG (by have:=c7;omega));rw [hT] at iQ;simp only [lu,kZ,lz,ac,ap,ao] at iQ;refine G6 ?_;refine Jc Y3 (AC.mid [_] M4 (R4++L) (BS D _ _ (M:=M4) oQ _ Q1)) ?_;rintro _ _ s8 h8 ⟨M5,rfl,rfl,rS⟩;simp only [iU,iV];refine G4 ?_;exact rR [_] _ (.nil) Z Lc λ_ iL=>⟨_,(an M5 R4 L).symm,rfl,M5,R4,_,rfl,by (first|rw [hT]|skip);simpa only [lu,kZ,lz,an,aE,ao,aD,ap,bB] using (show CR _ _ _ 0 _ _ _ from rS),hO4⟩
 have hT:=Xd (p:=p) (x:=x) (k:=k) (ls:=ls) yP he (by have:=c7;omega);rw [hT] at iQ;simp only [lu,kZ,lz,ac,ap,ao] at iQ;refine G7 ?_;refine Jc Y3 (AC.mid [_] M4 (R4++L) (FS D _ _ Pz (M:=M4) oQ O)) ?_;rintro _ _ s8 h8 ⟨M5,rfl,rfl,rS⟩;simp only [iU,iV];refine G9 ?_;refine kF [(_,_),(_,_)] [_,_] Y9 λβ9 s9 h9 hc9=>Jc Y3 (AC.mid [_] M5 (R4++L) (wF D _ _ (M:=M5) (n:=vE) rS Pz Q1)) ?_;rintro _ _ ku jN ⟨M6,rfl,rfl,hW6⟩;simp only [iU,iV];refine G8 ?_;refine Jc Y3 (AC.mid [_] M6 (R4++L) (BS D _ _ (M:=M6) hW6 _ Q1)) ?_;rintro _ _ kv jP ⟨M7,rfl,rfl,hW7⟩;simp only [iU,iV];refine G7 ?_;refine Jc Y3 (AC.mid2 [_] M7 R4 L (hBD _ _ Pz _ Pz _ _ _ M7 R4 _ _ hW7 hO4 _ _ _ y.els lp (lv+1) Pz hBe rZ Ut O Q1)) ?_;rintro _ _ kc jL ⟨_,rfl,rfl,M8,R8,vl8,rfl,hW8,hO8⟩;simp only [ao,aD,an];refine G7 ?_;refine Jc Y3 (AC.mid [_] M8 (R8++L) (BS D _ _ (M:=M8) hW8 _ Q1)) ?_;rintro _ _ kY kN ⟨M9,rfl,rfl,hW9⟩;simp only [iU,iV];refine Zn ?_;refine lC [_] _ (.inl Z) (.nil) Z Lc λ_ iL=>?_;exact ⟨_,(an M9 R8 L).symm,rfl,M9,R8,_,rfl,by (first|rw [hT]|skip);simpa only [lu,kZ,lz,an,aE,ao,aD,ap,bB] using (show CR _ _ _ 0 _ _ _ from hW9),hO8⟩
def GS{p:Prop} (h:p:=by
 exact ⟨_,(an (_::N11) R8 L).symm,rfl,(_::N11),R8,_,rfl,by rw [hT];simpa only [lu,kZ,lz,an,aE,ao,aD,ap,bB] using (show CR _ _ _ 0 (.slice Av ls.length cv) _ _ from ⟨p11,N11,v11,hp11,rfl,hb11⟩),quK (by rw [<- Dt];exact hO8) (by simp [sb]) (by simp)⟩):p:=h
def L_{D:Nat}(d:Nat)(p:ja)(x:iT)(hBD:Gx D d p x)(L:Hl)(s:World)(hG:GP s)(E:CE)(hE:sy s p x E)(bb k:Nat)(vl:Value)(M R:Hl)(t:iR)(ls:List iR)(hW:CR E bb k 0 vl t M)(hO:Own 9 1 R vl ls.length (sb ls))(A1:OAdr9)(n1 c1:Nat)(A2:OAdr9)(n2 c2:Nat)(A3:OAdr9)(n3 c3:Nat)(y:jb)(lp lv:Nat)(hk4:y.kind=4)(tK:j9 d s A1 n1 c1 y.exprs)(lG:jz d s A2 n2 c2 y.body)(mI:jz d s A3 n3 c3 y.els)(hS:zy p x y lp lv)(rZ:(0 < lp->2<=ls.length))(nZ:ls.length<=2 * lv)(hk:k+3 * qA y<=1000000)(iQ:t.length+(cT (cS p x y k ls).1).length<=1000000000):Ap9 D 199 [jc bb,.agg #[iJ y.kind,St y.name,.slice A1 n1 c1,.slice A2 n2 c2,.slice A3 n3 c3]] ((M++R)++L) s λv L' _=>∃ M',L'=M'++L/\v=.tuple #[]/\∃ M1 R1 pN,M'=M1++R1/\CR E bb (cS p x y k ls).2 0 pN (t++cT (cS p x y k ls).1) M1/\Own 9 1 R1 pN ls.length (sb ls):=by
 have xW:=mI.1;rw [an M R L];obtain ⟨hv16,ra,hBb,hBe⟩:=hS.parts;have zH:=Gh y;rw [aw hk4] at hBb;have pT:=zZ hS.1 (.inr (.inr (.inl hk4)));refine jv (fn:=f199) jl func199 V Z ntmps199 Z (rs:=[]) Z [(0,_),(1,_)] Z<|Zs ?_;obtain ⟨de,bke,oe,e,Ae,ne,ce,hde,rfl,mB,he,tL,hse,hue,uv⟩:=zi (j:=0) Pz ra O;have un:=E1 (p:=p) (x:=x) e 0 (k+2);have yM:=zd he;rw [cn] at yM;have hT:=PN (p:=p) (x:=x) (k:=k) (ls:=ls) hk4 he;rw [hT] at iQ;simp only [lu,kZ,lz,ac,ap,ao] at iQ;refine Zr<|kH Y2 λβ1 s1 h1=>Nt<|Zs<|mh jF 10 Z 0 λs2 h2=>H6 ?_;refine iM 3 V<|Jb Z Tt Z Z Z (AC.mid [_] M (R++L) (FS D _ _ Pz (M:=M) hW O)) ?_;rintro _ _ s3 h3 ⟨M1,rfl,rfl,kL⟩;refine ⟨(λ_ hx _=>by cases hx),?_⟩;simp only [iU,iV];refine iM 7 V<|Jb Z Tt Z Z Z (AC.mid [_] M1 (R++L) (qra D _ _ Pz (M:=M1) kL O)) ?_;rintro _ _ s4 h4 ⟨M2,rfl,rfl,mu⟩;refine ⟨(λ_ hx _=>by cases hx),?_⟩;simp only [iU,iV];refine H2 ?_;refine jq V<|G2 ?_;obtain ⟨p3,N3,v3,xb,rfl,yO⟩:=mu;simp only [ao,rI];refine G8 ?_;refine kF [(_,_),(_,_)] [_,_] Y9 λβ5 s5 h5 hc5=>rp (sz:=1) (_::_::N3) R L Y7 hO (Row.of_cells Pz Z Z) ⟨by simp [zw];omega,by omega⟩ Z ?_;intro vq Rq s6 h6 oq;obtain ⟨Avq,oL,rfl,_,_⟩:=Own.slice oq;simp only [ao,aD,an];refine G2 ?_;refine Wt 1 [_,_,_,_,_,_,_,_,_,_,_,_] Y9<|G3 ?_;have oQ:CR E bb (k+2) 0 (.slice Avq (ls.length+2) oL) t (_::N3):=⟨p3,N3,v3,xb,rfl,yO⟩;have hO4:Own 9 1 Rq (.slice Avq (ls.length+2) oL) (ls++[lT (k+1),lT (k+2)]).length (sb (ls++[lT (k+1),lT (k+2)])):=by rw [ac,Dt];exact oq
 refine G5 ?_;refine Jc Y3 (AC.mid [_] (_::N3) (Rq++L) (BS D _ _ (M:=(_::N3)) oQ _ Q1)) ?_;rintro _ _ s7 h7 ⟨M5,rfl,rfl,rS⟩;simp only [iU,iV];refine G7 ?_;refine iI (jR (j:=0) Y6 mB) Z<|iI (kq Y3 Pz Z) Z<|Jc Y3 (AC.mid [_] M5 (Rq++L) ((Ce p x de).2 _ _ Pz _ Pz _ _ _ _ M5 _ rS e Ae ne ce Pz hue uv O Q1)) ?_;rintro _ _ s8 h8 ⟨M6,rfl,rfl,hW6⟩;simp only [iU,iV];refine G8 ?_;refine kF [(_,_),(_,_)] [_,_] Y9 λβ9 s9 h9 hc9=>Jc Y3 (AC.mid [_] M6 (Rq++L) (wF D _ _ (M:=M6) (n:=tv) hW6 Pz Q1)) ?_;rintro _ _ ku jN ⟨M7,rfl,rfl,hW7⟩;simp only [iU,iV];refine G7 ?_;refine Jc Y3 (AC.mid2 [_] M7 Rq L (hBD _ _ Pz _ Pz _ _ _ M7 Rq _ _ hW7 hO4 _ _ _ y.body (lp+1) (lv+1) Pz hBb (λ_=>by simp) Ut O Q1)) ?_;rintro _ _ kv jP ⟨_,rfl,rfl,M8,R8,vl8,rfl,hW8,hO8⟩;simp only [ao,aD,an];refine G8 ?_;refine kF [(_,_),(_,_)] [_,_] Y9 λβ12 kc jL hc12=>Jc Y3 (AC.mid [_] M8 (R8++L) (wF D _ _ (M:=M8) (n:=vE) hW8 Pz Q1)) ?_;rintro _ _ kY kN ⟨M9,rfl,rfl,hW9⟩;simp only [iU,iV];refine G8 ?_;refine Jc Y3 (AC.mid [_] M9 (R8++L) (BS D _ _ (M:=M9) hW9 _ Q1)) ?_;rintro _ _ li kz ⟨M10,rfl,rfl,hW10⟩;simp only [iU,iV];refine G2 ?_;obtain ⟨p11,N11,v11,hp11,rfl,hb11⟩:=hW10;simp only [ao,rI];obtain ⟨Av,cv,rfl,hcv,_⟩:=Own.slice hO8;refine pm jF 15 Z [1] Q3 λlJ lr=>H7 ?_;refine kD 4 8 V ?_ ?_;.refine j5 Z Tt (Wd 1 Y5) Z<|iM 8 V<|j5 Z Tt (Wd 1 Y5) Z<|H1 ?_;refine za 10 Z (rn (c:=(ls.length:Int)) Z Z Q9) Z<|za 11 Z (Gc Z Z Z Z Z Q35) Z<|H2 ?_;refine iM 14 V<|Wu Z Tt 1 [_,_,_,_,_,_,_,_,_,_,_,_] Y9 (sM (mT (jT)))<|jq V ?_;refine lC [_] _ (.inl Z) (.nil) Z Lc λ_ iL=>?_;exact GS
 refine j5 Z Tt (Wd 1 Y5) Z<|H1 ?_;refine za 10 Z (rn (c:=(ls.length:Int)) Z Z Q9) Z<|iM 4 V<|j5 Z Tt (Wd 1 Y5) Z<|za 11 Z (Gc Z Z Z Z Z Q35) Z<|H2 ?_;refine iM 14 V<|Wu Z Tt 1 [_,_,_,_,_,_,_,_,_,_,_,_] Y9 (sM (mT (jT)))<|jq V ?_;refine lC [_] _ (.inl Z) (.nil) Z Lc λ_ iL=>?_;exact GS
def GU{p:Prop} (h:p:=by
 exact ⟨_,(an M3 R L).symm,rfl,M3,R,_,rfl,by (first|rw [hT]|skip);simpa only [lu,kZ,lz,an,aE,ao,aD,ap,bB] using (show CR _ _ _ 0 _ _ _ from hW3),hO⟩):p:=h
def Pd{p:Prop} (h:p:=by
 exact ⟨_,(an M1 R1 L).symm,rfl,M1,R1,_,rfl,by (first|rw [hT]|skip);simpa only [lu,kZ,lz,an,aE,ao,aD,ap,bB] using (show CR _ _ _ 0 _ _ _ from kL),hO1⟩):p:=h
def Pe{p:Prop} (h:p:=by
 exact ⟨_,(an M2 R L).symm,rfl,M2,R,_,rfl,by (first|rw [hT]|skip);simpa only [lu,kZ,lz,an,aE,ao,aD,ap,bB] using (show CR _ _ _ 0 _ _ _ from mu),hO⟩):p:=h
def GV{p:Prop} (h:p:=by
 exact ⟨_,(an M2 [(br,cb (sb ls++ys) 9)] L).symm,rfl,M2,[(br,cb (sb ls++ys) 9)],_,rfl,by (first|rw [hT]|skip);simpa only [lu,kZ,lz,an,aE,ao,aD,ap,bB] using (show CR _ _ _ 0 _ _ _ from mu),hO⟩):p:=h
def WN{p:Prop} (h:p:=by
 simp only [iU,iV];refine G2 ?_;refine lC [_] _ (.inl Z) (.nil) Z Lc λ_ iL=>?_;exact Pe):p:=h
def WI{p:Prop} (h:p:=by
 simp only [iU,iV];refine jq V<|Zb ?_;refine lC [_] _ (.inl Z) (.nil) Z Lc λ_ iL=>?_;exact GU):p:=h
def Wj{p:Prop} (h:p:=by
 simp only [ao,aD,an];refine G2 ?_;refine lC [_] _ (.inl Z) (.nil) Z Lc λ_ iL=>?_;exact Pd):p:=h
def Iw{p:Prop} (h:p:=by
 rintro _ _ s6 h6 ⟨M3,rfl,rfl,hW3⟩;refine ⟨(λ_ hx _=>by cases hx),?_⟩;simp only [iU,iV];refine jq V<|Zb ?_;refine lC [_] _ (.inl Z) (.nil) Z Lc λ_ iL=>?_;exact GU):p:=h
def HJ{p:Prop} (h:p:=by
 intro β13 kY kN hc13;refine iM 16 V<|Jb Z Tt Z Z Z (AC.mid [_] (_::N1) ([(br,cb (sb ls++ys) 9)]++L) (wF D _ _ (M:=(_::N1)) (n:=vE) ⟨p1,N1,v1,qG,Z,pd⟩ Pz Q1)) ?_;rintro _ _ li kz ⟨M2,rfl,rfl,mu⟩;refine ⟨(λx hx _=>by rw [aV.1 hx];simp),?_⟩;simp only [iU,iV];refine jq V<|Zb ?_;refine lC [_] _ (.inl Z) (.nil) Z Lc λ_ iL=>?_;exact GV):p:=h
def HI{p:Prop} (h:p:=by
 intro β12 kc jL hc12;refine iM 16 V<|Jb Z Tt Z Z Z (AC.mid [_] (_::N1) ([(br,cb (sb ls++ys) 9)]++L) (wF D _ _ (M:=(_::N1)) (n:=vE) ⟨p1,N1,v1,qG,Z,pd⟩ Pz Q1)) ?_;rintro _ _ kY kN ⟨M2,rfl,rfl,mu⟩;refine ⟨(λx hx _=>by rw [aV.1 hx];simp),?_⟩;simp only [iU,iV];refine jq V<|Zb ?_;refine lC [_] _ (.inl Z) (.nil) Z Lc λ_ iL=>?_;exact GV):p:=h
def J_{D:Nat}(d:Nat)(p:ja)(x:iT)(hIF:Pq D d p x)(hWH:Px D d p x)(L:Hl)(s:World)(hG:GP s)(E:CE)(hE:sy s p x E)(bb k:Nat)(vl:Value)(M R:Hl)(t:iR)(ls:List iR)(hW:CR E bb k 0 vl t M)(hO:Own 9 1 R vl ls.length (sb ls))(A1:OAdr9)(n1 c1:Nat)(A2:OAdr9)(n2 c2:Nat)(A3:OAdr9)(n3 c3:Nat)(y:jb)(lp lv:Nat)(tK:j9 d s A1 n1 c1 y.exprs)(lG:jz d s A2 n2 c2 y.body)(mI:jz d s A3 n3 c3 y.els)(hS:zy p x y lp lv)(rZ:(0 < lp->2<=ls.length))(nZ:ls.length<=2 * lv)(hk:k+3 * qA y<=1000000)(iQ:t.length+(cT (cS p x y k ls).1).length<=1000000000):Ap9 D 154 [jc bb,.agg #[iJ y.kind,St y.name,.slice A1 n1 c1,.slice A2 n2 c2,.slice A3 n3 c3]] ((M++R)++L) s λv L' _=>∃ M',L'=M'++L/\v=.tuple #[]/\∃ M1 R1 pN,M'=M1++R1/\CR E bb (cS p x y k ls).2 0 pN (t++cT (cS p x y k ls).1) M1/\Own 9 1 R1 pN ls.length (sb ls):=by
 obtain ⟨Ag,ng,cg,Af,nf,cf,gm,fm,sm,sz,nl⟩:=E;have th:jn s Ag ng cg p.o:=hE.gl;have hng:=th.1;have jA:sz=jt x:=hE.sz;have kK:nl=x.locals.length:=hE.nl;obtain ⟨bs,w7,ess,hms,hhms⟩:=hE.ms;have w7:sm=some bs:=w7;subst w7;obtain ⟨esg,hmg,hhmg⟩:=hE.mg;obtain ⟨esf,yS,hhmf⟩:=hE.mf;have hp6:=hE.pq.p6;have hl12:=hE.pq.l12;have hg64:=hE.pq.g64;have hf64:=hE.pq.f64;unfold jt at jA;have xW:=mI.1;rw [an M R L];obtain ⟨hv16,ra,hBb,hBe⟩:=hS.parts;have zH:=Gh y;obtain ⟨un,hk10,hka,hkb,_⟩:=BP (wH hS.1).2.1;refine jv (fn:=f154) jl func154 V Z ntmps154 Z (rs:=[]) Z [(0,_),(1,_)] Z<|Zs ?_;refine Zr<|kH Y2 λβ1 s1 h1=>Ek ?_ ?_<;>intro c2
 .have hk:=c2;have pT:=zZ hS.1 (.inl hk);obtain ⟨de,bke,oe,e,Ae,ne,ce,hde,rfl,mB,he,tL,hse,hue,uv⟩:=zi (j:=0) Pz ra O;have yM:=zd he;rw [cn] at yM;have hT:=PL (p:=p) (x:=x) (k:=k) (ls:=ls) hk he;have uo:=Ub hS hk;rw [hT] at iQ;simp only [lu,kZ,lz,ac,ap,ao] at iQ;refine G5 ?_;refine iI (jR (j:=0) Y6 mB) Z<|iI (kq Y3 Pz Z) Z<|Jc Y3 (AC.mid [_] M (R++L) ((Ce p x de).2 _ _ Pz _ Pz _ _ _ _ M _ hW e Ae ne ce Pz hue uv O Q1)) ?_;rintro _ _ s3 h3 ⟨M1,rfl,rfl,kL⟩;simp only [iU,iV];refine G3 ?_;obtain ⟨p2,N2,v2,ri,rfl,tf⟩:=kL;simp only [ao,rI];rcases uo with ⟨a,ha⟩|⟨hn,i,g,hi,hg⟩
  .rw [qIv (p:=p) ha] at hT iQ;have hrg:=NE ha;unfold jt at hT iQ hrg;rw [<- jA] at hT iQ;refine ma jF 12 Z _ (λ_ h=>h) λs4 h4=>H6 ?_;refine za 6 Z (jD (Jq jU.str yd Z Z Pz) (show _=Value.tuple #[iJ a,.bool true] by rw [hhms,ha];rfl)) Z<|H5 ?_;refine jq V<|G7 ?_;refine mh jF 15 Z 0 λs5 h5=>Pp ?_;refine kD 6 10 V ?_ ?_;.refine j5 Z Tt (Wd 1 Y5) Z<|iM 10 V<|j5 Z Tt (Wd 1 Y5) Z<|za 11 Z (nD Z Z (jB O O)) Z<|za 13 Z (rn (c:=(sz:Int) - a) Z Z Q5) Z<|iM 14 V<|Jb Z Tt Z Z Z (AC.mid [_] (_::N2) (R++L) (vA D _ _ Pz (M:=(_::N2)) ⟨p2,N2,v2,ri,Z,tf⟩ NG O Q1)) ?_;exact Iw
   refine j5 Z Tt (Wd 1 Y5) Z<|iM 6 V<|j5 Z Tt (Wd 1 Y5) Z<|za 11 Z (nD Z Z (jB O O)) Z<|za 13 Z (rn (c:=(sz:Int) - a) Z Z Q5) Z<|iM 14 V<|Jb Z Tt Z Z Z (AC.mid [_] (_::N2) (R++L) (vA D _ _ Pz (M:=(_::N2)) ⟨p2,N2,v2,ri,Z,tf⟩ NG O Q1)) ?_;exact Iw
  rw [qIu (x:=x) hn hi] at hT iQ;have AU:=(al.1 hg).1;refine ma jF 12 Z _ (λ_ h=>h) λs4 h4=>H6 ?_;refine za 6 Z (jD (Jq jU.str yd Z Z Pz) (show _=Value.tuple #[iJ 0,.bool false] by rw [hhms,hn];rfl)) Z<|H5 ?_;refine jq V<|G7 ?_;refine mh jF 13 Z 1 λs5 h5=>H8 ?_;refine iM 6 V<|j5 Z Tt (Wd 1 Y5) Z<|za 9 Z (jD (EF jU.str yd Z Z Pz) ((Gb hhmg).trans (bj (Value.int .i64) hi))) Z<|iM 10 V<|Jf Z Tt Z Z Z (Kw D _ _ Pz O O) λs6 h6=>iM 11 V<|pV Z Tt [(_,_),(_,_)] [_,_] Y9 λβ7 s7 h7 hc7=>iM 12 V<|Jb Z Tt Z Z Z (AC.mid [_] (_::N2) (R++L) (wF D _ _ (M:=(_::N2)) (n:=Tw) ⟨p2,N2,v2,ri,Z,tf⟩ Pz Q1)) ?_;rintro _ _ s8 h8 ⟨M3,rfl,rfl,hW3⟩;refine ⟨(λx hx _=>zk hx),?_⟩;exact WI
 refine J6 ?_ ?_<;>intro c3
 .have hk:=c3;have qs:=Xp hS.1 hk;obtain ⟨de,bke,oe,e,Ae,ne,ce,hde,rfl,mB,he,tL,hse,hue,uv⟩:=zi (j:=0) Pz ra O;obtain ⟨df,bkf,of,f,Af,nf,cf,hdf,hAf,hnf,hf,hcf,hsf,huf,hxf⟩:=zi (j:=1) Pz ra O;cases hAf;have yM:=zd he;have hNf:=zd hf;rw [cn,aZ] at yM;have un:=E1 (p:=p) (x:=x) e 0 k;obtain ⟨i,g,hi,hg⟩:=Uc hS hk;have hT:=PM (p:=p) (x:=x) (k:=k) (ls:=ls) hk he hf;rw [hi,Ti hg] at hT;rw [hT] at iQ;simp only [lu,kZ,lz,ac,ap,ao] at iQ;refine Zs ?_;obtain ⟨p1,N1,v1,qG,rfl,pd⟩:=hW;simp only [ao,rI];refine ma jF 8 Z _ (λ_ h=>h) λs4 h4=>H6 ?_;refine za 6 Z (jD (EF jU.str yd Z Z Pz) ((Gb hhmg).trans (bj (Value.int .i64) hi))) Z<|H1 ?_;refine jq V<|G6 ?_;refine iI (jR (j:=0) Y6 mB) Z<|iI (kq Y3 Pz Z) Z ?_;refine Jc Y3 (AC.mid [_] (_::N1) (R++L) ((Ce p x de).2 _ _ Pz _ Pz _ _ _ _ (_::N1) _ ⟨p1,N1,v1,qG,Z,pd⟩ e Ae ne ce Pz hue uv O Q1)) ?_;rintro _ _ s5 h5 ⟨M2,rfl,rfl,mu⟩;simp only [iU,iV];refine G3 ?_;obtain ⟨p3,N3,v3,xb,rfl,yO⟩:=mu;simp only [ao,rI];have AV:i < ng:=by rw [th.1];exact (al.1 hg).1
  obtain ⟨bg,og,g9,Ai,ni,ci,rfl,hg9,hcg,AU,hug,hnl9⟩:=jn.at_ Pz AV;obtain rfl:g=g9:=cD (hg.symm.trans hg9);have hgu:=hug.1;have hgu2:=hug.2;refine mh jF 14 Z 0 λs6 h6=>H8 ?_;refine iM 7 V<|j5 Z Tt (Wd 1 Y5) Z<|za 9 Z (jR (j:=i) Y6 AV) Z<|H1 ?_;refine za 11 Z (nh 2 Y3 Pz Z) Z<|za 12 Z (sn Y5 (jB O O)) Z<|iM 13 V ?_;refine Jb Z Tt Z Z Z (AC.mid [_] (_::N3) (R++L) (vA D _ _ Pz (M:=(_::N3)) ⟨p3,N3,v3,xb,Z,yO⟩ Dx ⟨hgu,hgu2⟩ Q1)) ?_;rintro _ _ s7 h7 ⟨M4,rfl,rfl,oQ⟩;refine ⟨(λ_ hx _=>by cases hx),?_⟩;simp only [iU,iV];refine jq V<|G4 ?_;refine Jc Y3 (AC.mid [_] M4 (R++L) (NM D _ _ (M:=M4) oQ O Q1)) ?_;rintro _ _ s8 h8 ⟨M5,rfl,rfl,rS⟩;simp only [iU,iV];refine G7 ?_;refine iI (jR (j:=1) Y6 hnf) Z<|iI (kq Y3 Pz Z) Z<|Jc Y3 (AC.mid [_] M5 (R++L) ((Ce p x df).2 _ _ Pz _ Pz _ _ 1 _ M5 _ rS f Af nf cf Pz huf hxf O Q1)) ?_;rintro _ _ s9 h9 ⟨M6,rfl,rfl,hW6⟩;simp only [iU,iV];refine Nt<|Zs<|mh jF 7 Z 0 λku jN=>H4 ?_;refine iM 4 V<|Jf Z Tt Z Z Z (Kw D _ _ Pz O O) λkv jP=>iM 5 V<|pV Z Tt [(_,_),(_,_)] [_,_] Y9 λβ12 kc jL hc12=>iM 6 V<|Jb Z Tt Z Z Z (AC.mid [_] M6 (R++L) (wF D _ _ (M:=M6) (n:=Oj) hW6 Pz Q1)) ?_;rintro _ _ kY kN ⟨M7,rfl,rfl,hW7⟩;refine ⟨(λ_ hx _=>by cases hx),?_⟩;simp only [iU,iV];refine jq V<|Zt ?_;obtain ⟨p8,N8,v8,hp8,rfl,hb8⟩:=hW7;simp only [ao,rI];refine G5 ?_;refine iI (rn (c:=((0:Nat):Int)) Z Z Q5) Z<|G2 ?_;refine Wt 1 [_,_,_,_,_,_,_,_,_,_,_,_] Y9<|G2 ?_;refine lC [_] _ (.inl Z) (.nil) Z Lc λ_ iL=>?_;exact ⟨_,(an (_::N8) R L).symm,rfl,(_::N8),R,_,rfl,by (first|rw [hT]|skip);simpa only [lu,kZ,lz,an,aE,ao,aD,ap,bB] using (show CR _ _ _ 0 _ _ _ from ⟨p8,N8,v8,hp8,rfl,hb8⟩),hO⟩
 refine J6 ?_ ?_<;>intro c4;.have yP:=c4;refine Zr<|jY Y2<|iI (jh 0 [_,_,_,_,_] Y5) Z<|Jc Y3 (AC.mid2 [_] M R L (hIF _ _ Pz _ Pz _ _ _ M R _ _ hW hO _ _ _ _ _ _ _ _ _ y lp lv yP Pz Pz Pz hS rZ nZ hk iQ)) ?_;rintro _ _ s5 h5 ⟨_,rfl,rfl,M1,R1,pN,rfl,kL,hO1⟩;exact Wj
 refine J6 ?_ ?_<;>intro c5;.have hk4:=c5;refine Zr<|jY Y2<|iI (jh 0 [_,_,_,_,_] Y5) Z<|Jc Y3 (AC.mid2 [_] M R L (hWH _ _ Pz _ Pz _ _ _ M R _ _ hW hO _ _ _ _ _ _ _ _ _ y lp lv hk4 Pz Pz Pz hS rZ nZ hk iQ)) ?_;rintro _ _ s6 h6 ⟨_,rfl,rfl,M1,R1,pN,rfl,kL,hO1⟩;exact Wj
 refine J6 ?_ ?_<;>intro c6;.have hk:=c6;have hT:=PO (p:=p) (x:=x) (k:=k) (ls:=ls) hk;rw [hT] at iQ;have ha6:=Xq hS.1 hk;refine G6 ?_;refine Jc Y3 (AC.mid [_] M (R++L) ((Ce p x d).1 _ _ Pz _ Pz _ _ _ _ M _ hW _ _ _ _ y.exprs Pz ra ha6 O iQ)) ?_;rintro _ _ s7 h7 ⟨M1,rfl,rfl,kL⟩;simp only [iU,iV];refine G2 ?_;refine lC [_] _ (.inl Z) (.nil) Z Lc λ_ iL=>?_;exact ⟨_,(an M1 R L).symm,rfl,M1,R,_,rfl,by (first|rw [hT]|skip);simpa only [lu,kZ,lz,an,aE,ao,aD,ap,bB] using (show CR _ _ _ 0 _ _ _ from kL),hO⟩
 refine J6 ?_ ?_<;>intro c7;.have hk:=c7;have pT:=zZ hS.1 (.inr (.inr (.inr (.inl hk))));obtain ⟨de,bke,oe,e,Ae,ne,ce,hde,rfl,mB,he,tL,hse,hue,uv⟩:=zi (j:=0) Pz ra O;have yM:=zd he;rw [cn] at yM;have hT:=PP (p:=p) (x:=x) (k:=k) (ls:=ls) hk he;rw [hT] at iQ;simp only [lu,kZ,lz,ac,ap,ao] at iQ;refine G5 ?_;refine iI (jR (j:=0) Y6 mB) Z<|iI (kq Y3 Pz Z) Z<|Jc Y3 (AC.mid [_] M (R++L) ((Ce p x de).2 _ _ Pz _ Pz _ _ _ _ M _ hW e Ae ne ce Pz hue uv O Q1)) ?_;rintro _ _ s8 h8 ⟨M1,rfl,rfl,kL⟩;simp only [iU,iV];refine G2 ?_;obtain ⟨p2,N2,v2,ri,rfl,tf⟩:=kL;simp only [ao,rI];refine mh jF 9 Z 0 λs9 h9=>H6 ?_;refine iM 6 V<|j5 Z Tt (Wd 1 Y5) Z<|za 7 Z (nD (c:=((x.locals.length+1:Nat):Int)) Z Z Q5) Z<|iM 8 V<|Jb Z Tt Z Z Z (AC.mid [_] (_::N2) (R++L) (vA D _ _ Pz (M:=(_::N2)) ⟨p2,N2,v2,ri,Z,tf⟩ DM O Q1)) ?_;rintro _ _ ku jN ⟨M3,rfl,rfl,hW3⟩;refine ⟨(λ_ hx _=>by cases hx),?_⟩;exact WI
 refine J6 ?_ ?_<;>intro c8;.have hk:=c8;have pT:=zZ hS.1 (.inr (.inr (.inr (.inr (.inl hk)))));obtain ⟨de,bke,oe,e,Ae,ne,ce,hde,rfl,mB,he,tL,hse,hue,uv⟩:=zi (j:=0) Pz ra O;have yM:=zd he;rw [cn] at yM;have hT:=PR (p:=p) (x:=x) (k:=k) (ls:=ls) hk he;rw [hT] at iQ;simp only [lu,kZ,lz,ac,ap,ao] at iQ;refine G5 ?_;refine iI (jR (j:=0) Y6 mB) Z<|iI (kq Y3 Pz Z) Z<|Jc Y3 (AC.mid [_] M (R++L) ((Ce p x de).2 _ _ Pz _ Pz _ _ _ _ M _ hW e Ae ne ce Pz hue uv O Q1)) ?_;rintro _ _ s9 h9 ⟨M1,rfl,rfl,kL⟩;simp only [iU,iV];refine G6 ?_;refine kF [(_,_)] [_] Y9 λβ10 ku jN hc10=>Jc Y3 (AC.mid [_] M1 (R++L) (x9 D _ _ (M:=M1) (n:=ME) kL Pz Q1)) ?_;rintro _ _ kv jP ⟨M2,rfl,rfl,mu⟩;exact WN
 refine J6 ?_ ?_<;>intro c9;.have hk:=c9;have pT:=zZ hS.1 (.inr (.inr (.inr (.inr (.inr hk)))));obtain ⟨de,bke,oe,e,Ae,ne,ce,hde,rfl,mB,he,tL,hse,hue,uv⟩:=zi (j:=0) Pz ra O;have yM:=zd he;rw [cn] at yM;have hT:=PS (p:=p) (x:=x) (k:=k) (ls:=ls) hk he;rw [hT] at iQ;simp only [lu,kZ,lz,ac,ap,ao] at iQ;refine G5 ?_;refine iI (jR (j:=0) Y6 mB) Z<|iI (kq Y3 Pz Z) Z<|Jc Y3 (AC.mid [_] M (R++L) ((Ce p x de).2 _ _ Pz _ Pz _ _ _ _ M _ hW e Ae ne ce Pz hue uv O Q1)) ?_;rintro _ _ ku jN ⟨M1,rfl,rfl,kL⟩;simp only [iU,iV];refine G6 ?_;refine kF [(_,_)] [_] Y9 λβ11 kv jP hc11=>Jc Y3 (AC.mid [_] M1 (R++L) (x9 D _ _ (M:=M1) (n:=Bv) kL Pz Q1)) ?_;rintro _ _ kc jL ⟨M2,rfl,rfl,mu⟩;exact WN
 refine J6 ?_ ?_<;>intro my
 .have hk9:=my;have hT:=PU (p:=p) (x:=x) (k:=k) (ls:=ls) hk9;rw [hT] at iQ;simp only [lu,kZ,lz,ac,ap,ao] at iQ;obtain ⟨p1,N1,v1,qG,rfl,pd⟩:=hW;simp only [ao,rI];have qs:=rZ (KA hS (.inl hk9));have hjl:ls.length - 1 < ls.length:=by omega
  obtain ⟨Av,cv,rfl,_,_⟩:=Own.slice hO;obtain ⟨br,ys,rfl,hR,hle1,p7,_,_⟩:=ND hO O;subst hR;have hnr:=qru (ys:=ys) (qyg hjl);refine ma jF 17 Z [(br,cb (sb ls++ys) 9)] (λx hx=>by rw [aV.1 hx];simp) λkv jP=>H9 ?_;refine kD 6 10 V ?_ ?_;.refine X28 ?_;refine za 12 Z (rn (c:=((ls.length - 1:Nat):Int)) Z Z Q5) Z<|za 13 Z (ly Y6 hjl) Z<|za 14 Z (rj 0 Y4 hnr) Z<|iM 15 V<|pV Z Tt [(_,_),(_,_)] [_,_] Y9 ?_;exact HI
  refine j5 Z Tt (Wd 1 Y5) Z<|H1 ?_;refine za 12 Z (rn (c:=((ls.length - 1:Nat):Int)) Z Z Q5) Z<|iM 6 V<|j5 Z Tt (Wd 1 Y5) Z<|za 13 Z (ly Y6 hjl) Z<|za 14 Z (rj 0 Y4 hnr) Z<|iM 15 V<|pV Z Tt [(_,_),(_,_)] [_,_] Y9 ?_;exact HI
 refine J6 ?_ ?_<;>intro mN
 .have hkx:=mN;have hT:=qIF (p:=p) (x:=x) (k:=k) (ls:=ls) hkx;rw [hT] at iQ;simp only [lu,kZ,lz,ac,ap,ao] at iQ;obtain ⟨p1,N1,v1,qG,rfl,pd⟩:=hW;simp only [ao,rI];have qs:=rZ (KA hS (.inr hkx));have hjl:ls.length - 2 < ls.length:=by omega
  obtain ⟨Av,cv,rfl,_,_⟩:=Own.slice hO;obtain ⟨br,ys,rfl,hR,hle1,p7,_,_⟩:=ND hO O;subst hR;have hnr:=qru (ys:=ys) (qyg hjl);refine ma jF 17 Z [(br,cb (sb ls++ys) 9)] (λx hx=>by rw [aV.1 hx];simp) λkc jL=>H9 ?_;refine kD 6 10 V ?_ ?_;.refine X28 ?_;refine za 12 Z (rn (c:=((ls.length - 2:Nat):Int)) Z Z Q5) Z<|za 13 Z (ly Y6 hjl) Z<|za 14 Z (rj 0 Y4 hnr) Z<|iM 15 V<|pV Z Tt [(_,_),(_,_)] [_,_] Y9 ?_;exact HJ
  refine j5 Z Tt (Wd 1 Y5) Z<|H1 ?_;refine za 12 Z (rn (c:=((ls.length - 2:Nat):Int)) Z Z Q5) Z<|iM 6 V<|j5 Z Tt (Wd 1 Y5) Z<|za 13 Z (ly Y6 hjl) Z<|za 14 Z (rj 0 Y4 hnr) Z<|iM 15 V<|pV Z Tt [(_,_),(_,_)] [_,_] Y9 ?_;exact HJ
 exfalso;omega
def IY{D:Nat}(p:ja)(x:iT):∀ d,Gx D d p x/\LY D d p x
 | 0=>by
  have ih:∀ e,0=e+1->LY D e p x:=λe h=>by omega
  have hB:Gx D 0 p x:=λL s hG E hE bb k vl M R t ls hW hO A n c l lp lv a1 a2 a3 a4 a5 a6=>z' 0 p x ih L s hG E hE bb k vl M R t ls hW hO A n c l lp lv a1 a2 a3 a4 a5 a6;have hI:Pq D 0 p x:=λL s hG E hE bb k vl M R t ls hW hO A1 n1 c1 A2 n2 c2 A3 n3 c3 y lp lv h3 a1 a2 a3 a4 a5 a6 a7 a8=>J' 0 p x hB L s hG E hE bb k vl M R t ls hW hO A1 n1 c1 A2 n2 c2 A3 n3 c3 y lp lv h3 a1 a2 a3 a4 a5 a6 a7 a8;have hL:Px D 0 p x:=λL s hG E hE bb k vl M R t ls hW hO A1 n1 c1 A2 n2 c2 A3 n3 c3 y lp lv h3 a1 a2 a3 a4 a5 a6 a7 a8=>L_ 0 p x hB L s hG E hE bb k vl M R t ls hW hO A1 n1 c1 A2 n2 c2 A3 n3 c3 y lp lv h3 a1 a2 a3 a4 a5 a6 a7 a8;exact ⟨hB,λL s hG E hE bb k vl M R t ls hW hO A1 n1 c1 A2 n2 c2 A3 n3 c3 y lp lv a1 a2 a3 a4 a5 a6 a7 a8=>J_ 0 p x hI hL L s hG E hE bb k vl M R t ls hW hO A1 n1 c1 A2 n2 c2 A3 n3 c3 y lp lv a1 a2 a3 a4 a5 a6 a7 a8⟩
 | d+1=>by
  have ih:∀ e,d+1=e+1->LY D e p x:=λe h=>(show d=e by omega)▸(IY p x d).2;have hB:Gx D (d+1) p x:=λL s hG E hE bb k vl M R t ls hW hO A n c l lp lv a1 a2 a3 a4 a5 a6=>z' (d+1) p x ih L s hG E hE bb k vl M R t ls hW hO A n c l lp lv a1 a2 a3 a4 a5 a6;have hI:Pq D (d+1) p x:=λL s hG E hE bb k vl M R t ls hW hO A1 n1 c1 A2 n2 c2 A3 n3 c3 y lp lv h3 a1 a2 a3 a4 a5 a6 a7 a8=>J' (d+1) p x hB L s hG E hE bb k vl M R t ls hW hO A1 n1 c1 A2 n2 c2 A3 n3 c3 y lp lv h3 a1 a2 a3 a4 a5 a6 a7 a8;have hL:Px D (d+1) p x:=λL s hG E hE bb k vl M R t ls hW hO A1 n1 c1 A2 n2 c2 A3 n3 c3 y lp lv h3 a1 a2 a3 a4 a5 a6 a7 a8=>L_ (d+1) p x hB L s hG E hE bb k vl M R t ls hW hO A1 n1 c1 A2 n2 c2 A3 n3 c3 y lp lv h3 a1 a2 a3 a4 a5 a6 a7 a8;exact ⟨hB,λL s hG E hE bb k vl M R t ls hW hO A1 n1 c1 A2 n2 c2 A3 n3 c3 y lp lv a1 a2 a3 a4 a5 a6 a7 a8=>J_ (d+1) p x hI hL L s hG E hE bb k vl M R t ls hW hO A1 n1 c1 A2 n2 c2 A3 n3 c3 y lp lv a1 a2 a3 a4 a5 a6 a7 a8⟩
def qtB{D:Nat}(p:ja){L:Hl}{s:World}(hG:GP s)(E:CE)(th:jn s E.Ag E.ng E.cg p.o)(h64:p.o.length<=64)(hgg:∀ g∈p.o,pL g=0){t:iR}(hW:CR E bb k w vl t M)(iQ:t.length+(cT (ue p.o 0)).length<=1000000000):AM9 D 70 [jc bb] M L s λv M' _=>v=.tuple #[]/\CR E bb k w vl (t++cT (ue p.o 0)) M':=by
 have hng:=th.1;refine jv (fn:=f70) jl func70 V Z ntmps70 Z (rs:=[]) Z [(0,_)] Z<|Zs ?_;obtain ⟨p1,N1,v1,qG,rfl,pd⟩:=hW;simp only [ao,rI];refine k8 ?_;have mu:CR _ bb _ _ _ _ (_::N1):=⟨p1,N1,v1,qG,rfl,pd⟩;refine lw (γ:=Nat×Hl×iR) (λg=>[(0,_),(10,_),(11,_),(12,iJ (g.1:Int))]) (λg=>g.2.1++L) (λg tw=>Le D s tw/\(g.1<=E.ng/\CR E bb k w vl g.2.2 g.2.1/\g.2.2++cT (ue (p.o.drop g.1) g.1)=t++cT (ue p.o 0))) (λg=>E.ng - g.1) (λ_ _ _ h hl=>⟨h.1.trans hl,h.2⟩) (0,(_::N1),t) (.c4 Z Z Z Z (.nil _)) Z ⟨Le.refl _,⟨aB _,mu,Z⟩⟩ ?_;intro g s1 I1;obtain ⟨j,Mj,tj⟩:=g;obtain ⟨oA,hWj,hT1⟩:=I1.2;simp only at oA hWj hT1;dsimp only;have ka:=bj List.length hT1;simp only [ac] at ka;refine J6 ?_ ?_<;>intro c2
 .have pR:j < E.ng:=by omega
  obtain ⟨bg,og,gx,Ai,ni,ci,hAg,hx,hcg,AU,hug,_⟩:=jn.at_ Pz pR;obtain rfl:ni=gx.init.length:=AU.1;have hgx:=hgg gx (ay hx);have hspc:=qxY hgx hug;have hug1:=hug.1;have hug2:=hug.2;have zK:=AU.2.1;have hil2:=AU.2.2.1;rw [Tj hx,lu,ac] at ka;refine G7 ?_;refine iI (jR (j:=j) ⟨(show lk _ _=some (.slice (some ⟨bg,og,none⟩) _ _) from by rw [<- hAg];rfl),Z,Z,Z,Z,Z⟩ pR) Z<|iI (kq Y3 Pz Z) Z<|jp Z [_,_,_,_] Y2 λβ3 s3 h3=>me Y2<|Wt 0 [_,_,_,_] Y9<|sA ?_ ?_<;>intro c4;.have hT:cG gx j=[]:=aw c4;refine G5 ?_;refine ki Y3 (jB O O)<|G2 ?_;refine jd ⟨(j+1,Mj,_),[_],kp,Z,⟨Lc,⟨by simp only;omega,hWj,by simp only;rw [<- hT1,Tj hx,hT];simp only [lu,kZ,lz,an,aE,ao,aD,ap,bB]⟩⟩,Oz⟩
  have hT:cG gx j=.lab (gT (j:Int))::gx.init.map (.num pB ·)++[.num so (max gx.num 1 - (gx.init.length:Int))]:=am c4;rw [hT] at ka;simp only [lu,kZ,lz,ac,ap,ao] at ka;refine Zk<|Zt<|Zs<|mh jF 6 Z 0 λs5 h5=>H4 ?_;refine iM 4 V<|Jf Z Tt Z Z Z (Kw D _ _ Pz O O) λs6 h6=>iM 5 V<|Jb Z Tt Z Z Z (AC.mid [_] Mj L (BS D _ _ (M:=Mj) hWj _ Q1)) ?_;rintro _ _ s7 h7 ⟨M3,rfl,rfl,hW3⟩;refine ⟨(λ_ hx _=>by cases hx),?_⟩;simp only [iU,iV];refine jq V<|k8 ?_;obtain ⟨tq,hq,hWq⟩:∃ tq,tq=tj++cT [.lab (gT (j:Int))]/\CR E bb k w vl tq M3:=⟨_,rfl,hW3⟩;have hql:=bj List.length hq;simp only [kZ,lz,ac,ap] at hql;refine Cz [_] (γ:=Nat×Hl×iR) (λg=>[(0,_),(3,_),(10,_),(11,_),(12,_),(27,_),(28,_),(29,iJ (g.1:Int))]) (λg=>g.2.1++L) (λg tw=>Le D s7 tw/\(g.1<=gx.init.length/\CR E bb k w vl g.2.2 g.2.1/\g.2.2++cT ((gx.init.drop g.1).map (.num pB ·))=tq++cT (gx.init.map (.num pB ·)))) (λg=>gx.init.length - g.1) (λ_ _ _ h hl=>⟨h.1.trans hl,h.2⟩) (0,M3,tq) (.c6 Z Z Z Z Z Z (.c2 Z Z (.nil _))) Z ⟨Le.refl _,⟨aB _,hWq,Z⟩⟩ ?_;intro g s8 I8;simp only [iU,iV];obtain ⟨i,Mi,ti⟩:=g;obtain ⟨rf,hWi,hT2⟩:=I8.2;simp only at rf hWi hT2;dsimp only;have p7:=bj List.length hT2;simp only [ac] at p7;refine J6 ?_ ?_<;>intro c9
  .have AV:i < gx.init.length:=by omega
   obtain ⟨bw,ow,z,hAi,hz,hcz,tk⟩:=lV.at_ Pz AV;have xe:=M_ hz;have hz1:=tk.1;have hz2:=tk.2;rw [xe,aS,kZ,ac] at p7;refine G6 ?_;refine iI (ly (j:=i) ⟨(show lk _ _=some (.slice (some ⟨bw,ow,none⟩) _ _) from by rw [<- hAi];rfl),Z,Z,Z,Z,Z⟩ AV) Z<|iI (jW Y3 Pz Z) Z<|G8 ?_;refine iI (sn Y5 (jB O O)) Z<|Jc Y3 (AC.mid [_] Mi L (vA D _ _ Pz (M:=Mi) hWi pB O Q1)) ?_;rintro _ _ ku jN ⟨M4,rfl,rfl,oQ⟩;simp only [iU,iV];refine G4 ?_;refine ki Y3 (jB O O)<|G2 ?_;refine jd ⟨(i+1,M4,_),[],kp,Z,⟨Lc,⟨by simp only;omega,oQ,by simp only;rw [<- hT2,xe];simp only [aS,lu,kZ,lz,an,aE,ao,aD,ap,bB]⟩⟩,Oz⟩
  rw [aK O,dR,lz,aE] at hT2;subst hT2;subst hq;refine G5 ?_;refine mh jF 12 Z 1 λku jN=>H5 ?_;refine za 5 Z (sn Y5 (jB O O)) Z<|za 6 Z (qy5 Z Z) Z<|H3 ?_;refine za 10 Z (rn (c:=max gx.num 1 - (gx.init.length:Int)) Z Z (by rw [jB O O])) Z<|iM 11 V<|Jb Z Tt Z Z Z (AC.mid [_] Mi L (vA D _ _ Pz (M:=Mi) hWi so hspc Q1)) ?_;rintro _ _ kv jP ⟨M4,rfl,rfl,oQ⟩;refine ⟨(λx hx _=>zk hx),?_⟩;simp only [iU,iV];refine jq V<|Zb<|Zt<|Zr<|ki Y3 (jB O O)<|G2 ?_;refine jd ⟨(j+1,M4,_),[_],kp,Z,⟨Lc,⟨by simp only;omega,oQ,by simp only;rw [<- hT1,Tj hx,hT];simp only [lu,kZ,lz,an,aE,ao,aD,ap,bB]⟩⟩,Oz⟩
 rw [aK O,ue,lz,aE] at hT1;subst hT1;refine G4 ?_;refine lC [] _ (.inl Z) (.nil) Z I1.1 λ_ iL=>?_;exact ⟨Mj,rfl,rfl,hWj⟩
abbrev CE.f(E:CE)(sm:Option Nat)(sz nl:Nat):CE:=⟨E.Ag,E.ng,E.cg,E.Af,E.nf,E.cf,E.gm,E.fm,sm,sz,nl⟩
def qFK{D:Nat}(d:Nat)(p:ja){L:Hl}{s:World}(hG:GP s)(E:CE)(th:jn s E.Ag E.ng E.cg p.o)(hmg:yA s E.gm (gE p))(yS:yA s E.fm (fE p))(k:Nat){R:Hl}{t:iR}(hW:CR E bb k 0 vl t M)(hO:Own 9 1 R vl ([]:List iR).length (sb ([]:List iR)))(A1:OAdr9)(n1 c1:Nat)(A2:OAdr9)(n2 c2:Nat)(A3:OAdr9)(n3 c3:Nat)(y:iT)(i:Nat)(pJ:iW s A1 n1 c1 y.params)(kb:iW s A2 n2 c2 y.locals)(hs3:jz d s A3 n3 c3 y.body)(pq:PQ p y)(hB:Co p y y.body 0 1)(lQ:((sE y).map (·.1)).Nodup)(hi:i<=1000)(hk:k+3 * kC y.body<=1000000)(iQ:t.length+(cT (cF p y i k).1).length<=1000000000):Ap9 D 69 [jc bb,iJ (i:Int),.agg #[St y.name,.slice A1 n1 c1,.slice A2 n2 c2,.slice A3 n3 c3]] ((M++R)++L) s λv L' _=>∃ M',L'=M'++L/\v=.tuple #[]/\∃ M1 R1 pN sm sz nl,M'=M1++R1/\CR (E.f sm sz nl) bb (cF p y i k).2 0 pN (t++cT (cF p y i k).1) M1/\Own 9 1 R1 pN ([]:List iR).length (sb ([]:List iR)):=by
 rw [an M R L];obtain ⟨Ag,ng,cg,Af,nf,cf,gm,fm,sm0,sz0,nl0⟩:=E;obtain rfl:n1=y.params.length:=pJ.1;obtain rfl:n2=y.locals.length:=kb.1;have hp6:=pq.p6;have hl12:=pq.l12;have hT:=qIA p y i k;rw [hT] at iQ;simp only [lu,kZ,lz,ac,ap,ao] at iQ;refine jv (fn:=f69) jl func69 V Z ntmps69 Z (rs:=[]) Z [(0,_),(1,_),(2,_)] Z<|Zs ?_;refine Zr<|kH Y2 λβ1 s1 h1=>G3 ?_;obtain ⟨p1,N1,v1,qG,rfl,pd⟩:=hW;simp only [ao,rI];refine pm jF 12 Z [1] Q3 λs2 h2=>H5 ?_;refine iM 2 V<|qsT Z Tt (λl=>St l) Z λβm s3 h3=>H2 ?_;refine iM 8 V<|Wu Z Tt 2 [_,_,_,_,_,_,_,_,_,_,_,_] Y9 (sM (lq (mT (jT))))<|H2 ?_;refine iM 11 V<|Wu Z Tt 2 [_,_,_,_,_,_,_,_,_,_,_,_] Y9 (sM (lq (mT (jT))))<|jq V<|k8 ?_;refine lw (γ:=Nat×List (iR×Value×Nat)×Nat) (λg=>[(0,_),(1,_),(5,_),(21,_),(22,_),(23,iJ (g.1:Int))]) (λg=>(βm,mp (λl=>St l) g.2.1 g.2.2)::_::_::(N1++(R++L))) (λg tw=>Le D s3 tw/\(g.1<=y.locals.length/\∀ nm,kS g.2.1 nm=(((sE y).take g.1).find? λe=>decide (e.1=nm)).map λe=>fI e.2)) (λg=>y.locals.length - g.1) (λ_ _ _ h hl=>⟨h.1.trans hl,h.2⟩) (0,[],0) (.c6 Z Z Z Z Z Z (.nil _)) Z ⟨Le.refl _,⟨aB _,λnm=>rfl⟩⟩ ?_;intro g s4 I4;obtain ⟨j,es,ck⟩:=g;obtain ⟨oA,hS⟩:=I4.2;simp only at oA hS;dsimp only;refine J6 ?_ ?_<;>intro c5
 .have pR:j < y.locals.length:=by omega
  obtain ⟨bx,ox,x,rfl,hx,hcx,tm⟩:=iW.at_ Pz pR;refine G7 ?_;refine iI (ly Y6 pR) Z<|iI (jW Y3 Pz Z) Z<|G4 ?_;refine pm jF 12 Z [0] Q3 λs6 h6=>H8 ?_;refine za 8 Z (nD Z Z (jB O O)) Z<|H1 ?_;refine za 10 Z (nD (c:=((y.params.length+1+j:Nat):Int)) Z Z Q5) Z<|iM 11 V<|JT jU.str Z Tt 0 yd Z Z Z Z (sM (kX (jT))) ?_;intro rP;simp only [lO];refine jq V<|Zb<|Zt<|Zr<|ki Y3 (jB O O)<|G2 ?_;refine jd ⟨(j+1,_,rP),[],kp,Z,⟨Lc,⟨by simp only;omega,FI (f:=fI) (T8 hx) lQ hS⟩⟩,Oz⟩
 obtain rfl:y.locals.length=j:=by omega
 refine wN ?_;refine lw (γ:=Nat×List (iR×Value×Nat)×Nat) (λg=>[(0,_),(1,_),(5,_),(41,_),(42,_),(43,iJ (g.1:Int))]) (λg=>(βm,mp (λl=>St l) g.2.1 g.2.2)::_::_::(N1++(R++L))) (λg tw=>Le D s4 tw/\(g.1<=y.params.length/\∀ nm,kS g.2.1 nm=(((sE y).take (y.locals.length+g.1)).find? λe=>decide (e.1=nm)).map λe=>fI e.2)) (λg=>y.params.length - g.1) (λ_ _ _ h hl=>⟨h.1.trans hl,h.2⟩) (0,es,ck) (.c6 Z Z Z Z Z Z (.nil _)) Z ⟨Le.refl _,⟨aB _,hS⟩⟩ ?_;intro g s6 I6;obtain ⟨j,es,ck⟩:=g;obtain ⟨oA,hS⟩:=I6.2;simp only at oA hS;dsimp only;refine J6 ?_ ?_<;>intro c7
 .have pR:j < y.params.length:=by omega
  obtain ⟨bx,ox,x,rfl,hx,hcx,tm⟩:=iW.at_ Pz pR;refine G7 ?_;refine iI (ly Y6 pR) Z<|iI (jW Y3 Pz Z) Z<|k8 ?_;refine SL jU.str 0 yd Z Z Z Z ?_;intro rP;simp only [lO];refine G4 ?_;refine ki Y3 (jB O O)<|G2 ?_;refine jd ⟨(j+1,_,rP),[],kp,Z,⟨I6.1,⟨by simp only;omega,FI (f:=fI) (T9 hx) lQ hS⟩⟩,Oz⟩
 obtain rfl:y.params.length=j:=by omega
 refine G6 ?_;refine pm jF 13 Z [2] Q3 λs8 h8=>H4 ?_;refine za 4 Z (nD Z Z (jB O O)) Z<|H3 ?_;refine iM 8 V<|j5 Z Tt (Wd 2 Y5) Z<|za 9 Z (nD (c:=((jt y:Nat):Int)) Z Z (by unfold jt;rw [jB O O];omega)) Z<|H2 ?_;refine iM 12 V<|Wu Z Tt 2 [_,_,_,_,_,_,_,_,_,_,_,_] Y9 (sM (kX (jT)))<|jq V<|G2 ?_;refine qpw [] [(βm,mp (λl=>St l) es ck)] ?_;intro s9 h9 hpub;simp only [iU,iV];have hms:yA s9 βm (sE y):=⟨es,⟨ck,hpub _ _ Mc⟩,Te (by simp [sE]) hS⟩;have hE:sy s9 p y ⟨Ag,ng,cg,Af,nf,cf,gm,fm,some βm,jt y,y.locals.length⟩:=⟨th.le Lc,hmg.le Lc,yS.le Lc,⟨_,rfl,hms⟩,rfl,rfl,pq⟩;have mu:CR ⟨Ag,ng,cg,Af,nf,cf,gm,fm,some βm,jt y,y.locals.length⟩ bb k 0 vl t (_::N1):=⟨p1,N1,v1,qG,rfl,pd⟩;refine mh jF 6 Z 0 λku jN=>H4 ?_;refine iM 4 V<|Jf Z Tt Z Z Z (Qx D _ _ Pz O O) λkv jP=>iM 5 V<|Jb Z Tt Z Z Z (AC.mid [_] (_::N1) (R++L) (BS D _ _ (M:=(_::N1)) mu _ Q1)) ?_;rintro _ _ kc jL ⟨M3,rfl,rfl,hW3⟩;refine ⟨(λ_ hx _=>by cases hx),?_⟩;simp only [iU,iV];refine jq V<|Zt ?_;refine Di (γ:=Hl×iR) (λ_=>[]) [_] Z (λg=>g.1++(R++L)) (λg tw=>CR ⟨Ag,ng,cg,Af,nf,cf,gm,fm,some βm,jt y,y.locals.length⟩ bb k 0 vl g.2 g.1/\g.2=t++cT (.lab (fT (i:Int))::(if 0 < y.locals.length then [.num pp 0] else []))) (λ_ _ _ h hl=>h) ?_ ?_
 .refine Zs ?_;obtain ⟨p4,N4,v4,zL,rfl,hb4⟩:=hW3;simp only [ao,rI];refine J8 ?_ ?_<;>intro rO;.have hl0:=rO;refine G4 ?_;refine Jc Y3 (AC.mid [_] (_::N4) (R++L) (vA D _ _ Pz (M:=(_::N4)) ⟨p4,N4,v4,zL,Z,hb4⟩ pp O Q1)) ?_;rintro _ _ lJ lr ⟨M5,rfl,rfl,rS⟩;simp only [iU,iV];refine Zn ?_;refine jd (lR.mk (M5,_) [] lr (.nil _) So Pr ⟨rS,by first|(rw [aw O];simp only [lu,kZ,lz,an,aE,ao,aD,ap,bB])|rw [am O]⟩)
  have hl0:=rO;refine Zk ?_;have rS:CR _ bb _ _ _ _ (_::N4):=⟨p4,N4,v4,zL,rfl,hb4⟩;refine jd (lR.mk ((_::N4),_) [] (Lr D) (.nil _) So Pr ⟨rS,by first|(rw [aw O];simp only [lu,kZ,lz,an,aE,ao,aD,ap,bB])|rw [am O]⟩)
 intro g kY kN I13;simp only [iU,iV];obtain ⟨Mi,ti⟩:=g;obtain ⟨hWi,hti⟩:=I13;simp only at hWi hti;dsimp only;have htl:=bj List.length hti;simp only [kZ,ac] at htl;refine lF ?_;refine Cz [_] (γ:=Nat×Hl×iR) (λg=>[(0,_),(5,_),(84,_),(85,iJ (g.1:Int))]) (λg=>g.2.1++(R++L)) (λg tw=>Le D kY tw/\(g.1<=y.locals.length/\CR ⟨Ag,ng,cg,Af,nf,cf,gm,fm,some βm,jt y,y.locals.length⟩ bb k 0 vl g.2.2 g.2.1/\g.2.2++cT (List.replicate (y.locals.length - g.1) (.op qj))=ti++cT (List.replicate y.locals.length (.op qj)))) (λg=>y.locals.length - g.1) (λ_ _ _ h hl=>⟨h.1.trans hl,h.2⟩) (0,Mi,ti) (.c4 Z Z Z Z (.nil _)) Z ⟨Le.refl _,⟨aB _,hWi,Z⟩⟩ ?_;intro g lJ I15;simp only [iU,iV];obtain ⟨j,Mj,tj⟩:=g;obtain ⟨oA,hWj,hT1⟩:=I15.2;simp only at oA hWj hT1;dsimp only;have ka:=bj List.length hT1;simp only [ac] at ka;refine J6 ?_ ?_<;>intro c16
 .have pR:j < y.locals.length:=by omega
  have zM:List.replicate (y.locals.length - j) (Li.op qj)=.op qj::List.replicate (y.locals.length - (j+1)) (.op qj):=by rw [show y.locals.length - j=(y.locals.length - (j+1))+1 by omega];rfl
  rw [zM,kZ,ac] at ka;refine G8 ?_;refine kF [(_,_)] [_] Y9 λβ17 tE qR hc17=>Jc Y3 (AC.mid [_] Mj (R++L) (x9 D _ _ (M:=Mj) (n:=qj) hWj Pz Q1)) ?_;rintro _ _ yl vm ⟨M4,rfl,rfl,oQ⟩;simp only [iU,iV];refine G4 ?_;refine ki Y3 (jB O O)<|G2 ?_;refine jd ⟨(j+1,M4,_),[],kp,Z,⟨Lc,⟨by simp only;omega,oQ,by simp only;rw [<- hT1,zM];simp only [lu,kZ,lz,an,aE,ao,aD,ap,bB]⟩⟩,Oz⟩
 obtain rfl:y.locals.length=j:=by omega
 rw [iB,List.replicate_zero,lz,aE] at hT1;subst hT1;subst hti;refine lF ?_;refine Jc Y3 (AC.mid2 [_] Mj R L ((IY p y d).1 _ _ Pz _ Pz _ _ _ Mj R _ [] hWj hO _ _ _ y.body 0 1 Pz hB (λh=>absurd h Dc) ⟨by simp,by omega⟩ O Q1)) ?_;rintro _ _ tE qR ⟨_,rfl,rfl,M4,R4,vl4,rfl,oQ,hO4⟩;simp only [ao,aD,an];refine G7 ?_;refine Jc Y3 (AC.mid [_] M4 (R4++L) (vA D _ _ Pz (M:=M4) oQ pp O Q1)) ?_;rintro _ _ yl vm ⟨M5,rfl,rfl,rS⟩;simp only [iU,iV];refine G2 ?_;obtain ⟨p6,N6,v6,hp6,rfl,hb6⟩:=rS;simp only [ao,rI];refine mh jF 9 Z 0 λym uh=>H6 ?_;refine iM 6 V<|j5 Z Tt (Wd 1 Y5) Z<|za 7 Z (nD (c:=((y.locals.length+1:Nat):Int)) Z Z Q5) Z<|iM 8 V<|Jb Z Tt Z Z Z (AC.mid [_] (_::N6) (R4++L) (vA D _ _ Pz (M:=(_::N6)) ⟨p6,N6,v6,hp6,Z,hb6⟩ DM O Q1)) ?_;rintro _ _ vN rQ ⟨M7,rfl,rfl,hW7⟩;refine ⟨(λ_ hx _=>by cases hx),?_⟩;simp only [iU,iV];refine jq V ?_;refine lC [_] _ (.inl Z) (.nil) Z Lc λ_ iL=>?_;refine ⟨_,(an M7 R4 L).symm,Z,M7,R4,_,some βm,jt y,y.locals.length,Z,?_,hO4⟩;rw [hT];simpa only [lu,kZ,lz,an,aE,ao,aD,ap,bB] using (show CR ⟨Ag,ng,cg,Af,nf,cf,gm,fm,some βm,jt y,y.locals.length⟩ _ _ 0 _ _ _ from hW7)
def qAj(x:Ex):ns x=1+ln x.args:=by cases x;rfl
def UF(D d:Nat):Prop:=∀ (L:Hl) (s:World) (A:OAdr9) (n c:Nat) (l:List Ex),j9 d s A n c l->ln l<=2000000->AV9 D 129 [.slice A n c] L s (iJ (ln l:Int))
def UI(D d:Nat):Prop:=∀ (L:Hl) (s:World) (A:OAdr9) (n c:Nat) (l:List jb),jz d s A n c l->kC l<=2000000->AV9 D 80 [.slice A n c] L s (iJ (kC l:Int))
def H'{D:Nat}(d:Nat)(ih:∀ e,d=e+1->UF D e)(L:Hl)(s:World)(A:OAdr9)(n c:Nat)(l:List Ex)(hA:j9 d s A n c l)(hl:ln l<=2000000):Ap9 D 129 [.slice A n c] L s λv L' _=>v=iJ (ln l:Int)/\L=L':=by
 have hn:=hA.1;have mX:=hA.2.1;have oR:=hA.2.2.1;have hln:n<=ln l:=by rw [hn];exact O_ l
 refine jv (fn:=f129) jl func129 V Z ntmps129 Z (rs:=[.tmp 2]) Z [(0,_)] Z<|LS ?_;refine lw (γ:=Nat×Nat) (λg=>[(2,_),(3,iJ (g.2:Int)),(8,_),(9,_),(10,iJ (g.1:Int))]) (λ_=>_) (λg tw=>Le D s tw/\(g.1<=n/\n - g.1<=g.2/\g.2+ln (l.drop g.1)=ln l+(n - g.1))) (λg=>n - g.1) (λ_ _ _ h hl=>⟨h.1.trans hl,h.2⟩) (0,n) (.c5 Z Z Z Z Z (.nil _)) Z ⟨Le.refl _,⟨aB _,by simp only;omega,by simp only [cn];omega⟩⟩ ?_;intro g s1 I1;obtain ⟨j,a⟩:=g;obtain ⟨oA,hja,hS⟩:=I1.2;simp only at oA hja hS;dsimp only;refine J6 ?_ ?_<;>intro c2
 .have pR:j < n:=by omega
  obtain ⟨e,b,off,x,A',n',c',hd,rfl,hx,hcx,hax,_⟩:=j9.at_ Pz pR;have hxN:=zd hx;have uv:=qAj x;refine G6 ?_;refine iI (jR Y6 pR) Z<|iI (kq Y3 Pz Z) Z<|jp Z [_,_,_,_,_] Y2 λβ3 s3 h3=>Wt 0 [_,_,_,_,_] Y9<|G6 ?_;refine Jc Y3 (ih e hd _ _ A' n' c' x.args Pz O) ?_;rintro _ _ s4 h4 ⟨rfl,rfl⟩;refine iI (nD (c:=((a+ln x.args:Nat):Int)) Z Z Q9) Z<|G5 ?_;refine ki Y3 (jB O O)<|G2 ?_;refine jd ⟨(j+1,a+ln x.args),[_],kp,Z,⟨Lc,⟨by simp only;omega,by simp only;omega,by simp only;omega⟩⟩,Oz⟩
 obtain rfl:n=j:=by omega
 rw [aK O,ln] at hS;refine mn ?_;exact rR [] L (.t1 Z) Z I1.1 λ_ iL=>⟨by rw [show a=ln l by omega];rfl,rfl⟩
def Vc{D:Nat}:∀ d,UF D d
 | 0=>λL s A n c l hA hl=>H' 0 (λe h=>by omega) L s A n c l hA hl
 | d+1=>λL s A n c l hA hl=>H' (d+1) (λe h=>(show d=e by omega)▸Vc d) L s A n c l hA hl
def S'{D:Nat}(d:Nat)(ih:∀ e,d=e+1->UI D e)(L:Hl)(s:World)(A:OAdr9)(n c:Nat)(l:List jb)(hA:jz d s A n c l)(hl:kC l<=2000000):Ap9 D 80 [.slice A n c] L s λv L' _=>v=iJ (kC l:Int)/\L=L':=by
 have hn:=hA.1;have mX:=hA.2.1;have oR:=hA.2.2.1;have hln:n<=kC l:=by rw [hn];exact k_ l
 refine jv (fn:=f80) jl func80 V Z ntmps80 Z (rs:=[.tmp 2]) Z [(0,_)] Z<|LS ?_;refine lw (γ:=Nat×Nat) (λg=>[(2,_),(3,iJ (g.2:Int)),(8,_),(9,_),(10,iJ (g.1:Int))]) (λ_=>_) (λg tw=>Le D s tw/\(g.1<=n/\n - g.1<=g.2/\g.2+kC (l.drop g.1)=kC l+(n - g.1))) (λg=>n - g.1) (λ_ _ _ h hl=>⟨h.1.trans hl,h.2⟩) (0,n) (.c5 Z Z Z Z Z (.nil _)) Z ⟨Le.refl _,⟨aB _,by simp only;omega,by simp only [cn];omega⟩⟩ ?_;intro g s1 I1;obtain ⟨j,a⟩:=g;obtain ⟨oA,hja,hS⟩:=I1.2;simp only at oA hja hS;dsimp only;refine J6 ?_ ?_<;>intro c2
 .have pR:j < n:=by omega
  obtain ⟨dy,bky,oy,y,A1,n1,c1,A2,n2,c2,A3,n3,c3,um,rfl,hy,hcy,hay,hby,hey,_⟩:=jz.at_ Pz pR;have hxN:=Tz hy;have uv:=Gh y;refine G6 ?_;refine iI (jR Y6 pR) Z<|iI (kq Y3 Pz Z) Z<|jp Z [_,_,_,_,_] Y2 λβ3 s3 h3=>Wt 0 [_,_,_,_,_] Y9<|Nt<|ma jF 14 Z _ (λ_ h=>h) λs4 h4=>H7 ?_;refine iM 3 V<|Jb Z Tt Z Z Z (Vc dy _ _ A1 n1 c1 y.exprs Pz O) ?_;rintro _ _ s5 h5 ⟨rfl,rfl⟩;refine ⟨λ_ _ h=>h,?_⟩;refine iM 6 V<|Jb Z Tt Z Z Z (ih dy um _ _ A2 n2 c2 y.body Pz O) ?_;rintro _ _ s6 h6 ⟨rfl,rfl⟩;refine ⟨λ_ _ h=>h,?_⟩;refine za 7 Z (nD (c:=((ln y.exprs+kC y.body:Nat):Int)) Z Z Q9) Z<|iM 10 V<|Jb Z Tt Z Z Z (ih dy um _ _ A3 n3 c3 y.els Pz O) ?_;rintro _ _ s7 h7 ⟨rfl,rfl⟩;refine ⟨λ_ _ h=>h,?_⟩;refine za 11 Z (nD (c:=((ln y.exprs+kC y.body+kC y.els:Nat):Int)) Z Z Q9) Z<|za 12 Z (nD (c:=((a+(ln y.exprs+kC y.body+kC y.els):Nat):Int)) Z Z Q9) Z<|H1 ?_;refine jq V<|Zb<|Zt<|Zr<|ki Y3 (jB O O)<|G2 ?_;refine jd ⟨(j+1,a+(ln y.exprs+kC y.body+kC y.els)),[_],kp,Z,⟨Lc,⟨by simp only;omega,by simp only;omega,by simp only;omega⟩⟩,Oz⟩
 obtain rfl:n=j:=by omega
 rw [aK O,kC] at hS;refine mn ?_;exact rR [] L (.t1 Z) Z I1.1 λ_ iL=>⟨by rw [show a=kC l by omega];rfl,rfl⟩
def Ve{D:Nat}:∀ d,UI D d
 | 0=>λL s A n c l hA hl=>S' 0 (λe h=>by omega) L s A n c l hA hl
 | d+1=>λL s A n c l hA hl=>S' (d+1) (λe h=>(show d=e by omega)▸Ve d) L s A n c l hA hl
def Pf{p:Prop} (h:p:=by
 first
  | (rw [am hz];exact ⟨rfl,rfl⟩)
  | (rw [aw hz,hz2];exact ⟨by rw [show uW p=b by omega];rfl,rfl⟩)):p:=h
def WV{p:Prop} (h:p:=by
 exact rR [_,_,_] L (.tmp Z (.agg (us:=[_,_]) 1 Z Z Z Z Z (.nil))) Z Lc λ_ iL=>Pf):p:=h
def qAX(hG:GP s)(d:Nat)(p:ja){ng cg nf cf:Nat}(jQ:jn s Ag ng cg p.o)(j8:ju d s Af nf cf p.funcs):AV9 D 43 [.agg #[.slice Ag ng cg,.slice Af nf cf]] L s (.tuple #[iJ (if (kU p).1=0 then uW p else 0),.agg #[iJ (kU p).1,iJ (kU p).2]]):=by
 have lX:=jQ.1;have oB:=j8.1;have hU:si p:=⟨jQ.u,j8.u⟩;refine jv (fn:=f43) jl func43 V Z ntmps43 Z (rs:=[.tmp 2,.cell 3 24]) Z [(0,_)] Z<|Sr<|kH Y2 λβ1 s1 h1=>me Y2<|jp Z [_,_] Y2 λβ2 s2 h2=>Nt<|Zs<|Sr<|iI (jh 1 [_,_] Y5) Z<|Je Y3 (FK _ _ Pz d p _ _ _ _ _ Pz Pz) λs3 h3=>jp Z [_,_] Y2 λβ4 s4 h4=>Wt 0 [_,_] Y9<|Nt<|Sr<|iI (jh 0 [_,_] Y5) Z<|iI (jC [] [_,_] Y3 Z Z Z) Z<|iI (sL Z Z (rq)) Z<|G2 ?_;refine lD Z ?_ ?_<;>intro c5;.have hz:¬ (kU p).1=0:=λh=>c5 ⟨h,by rw [(sU.of hU h).2]⟩;refine Zs<|pm jF 3 Z [1] Q3 λs6 h6=>za 0 Z (jh 0 [_,_] Y5) Z<|H1 ?_;refine X5 ?_;exact WV
 have hz:(kU p).1=0:=c5.1;obtain ⟨hO,hz2⟩:=sU.of hU hz;obtain ⟨⟨yN,AQ,hVg,rD,_⟩,_,_⟩:=hO;have hgN:=S0 p.o (λg hg=>(hU.1 g hg).1) yN;have hfN:=Tf p.funcs (λx hx=>(rD x hx).2.2.2.2.2);have hNP:uW p<=1000000000000:=by unfold uW;omega
 refine Cj ?_;refine lw (γ:=Nat×Int) (λg=>[(1,_),(2,_),(3,_),(5,iJ g.2),(17,_),(18,_),(19,iJ (g.1:Int))]) (λ_=>_) (λg tw=>Le D s4 tw/\(g.1<=ng/\0<=g.2/\g.2+zm (p.o.drop g.1)=100+zm p.o)) (λg=>ng - g.1) (λ_ _ _ h hl=>⟨h.1.trans hl,h.2⟩) (0,100) (.c6 Z Z Z Z Z Z (.cons Z (.nil _))) Z ⟨Le.refl _,⟨aB _,by decide,Z⟩⟩ ?_;intro g s6 I6;obtain ⟨j,a⟩:=g;obtain ⟨oA,ha0,hS⟩:=I6.2;simp only at oA ha0 hS;dsimp only;refine J6 ?_ ?_<;>intro c7
 .have pR:j < ng:=by omega
  obtain ⟨bg,og,x,Ai,ni,ci,rfl,hx,hcx,hix,oh,kK⟩:=jn.at_ Pz pR;have hux1:=oh.1;have hux2:=oh.2;have hxN:=qux hx;have hrN:=S0 (p.o.drop (j+1)) (λg hg=>(hU.1 g (List.mem_of_mem_drop hg)).1) (by rw [gF];omega);refine G6 ?_;refine iI (jR Y6 pR) Z<|iI (kq Y3 Pz Z) Z<|jp Z [_,_,_,_] Y2 λβ8 s8 h8=>Wt 0 [_,_,_,_] Y9<|Ek ?_ ?_<;>intro c9;.have th:=qI0 c9;refine Zr<|jY Y2<|ki Y3 (jB O O)<|G6 ?_;refine ki Y3 (jB O O)<|G2 ?_;refine jd ⟨(j+1,a+1),[_],kp,Z,⟨Lc,⟨by simp only;omega,by simp only;omega,by simp only;omega⟩⟩,Oz⟩
  have AW:=c9;refine J6 ?_ ?_<;>intro my;.have th:=qI1 my;refine G4 ?_;refine iI (sn Y5 (jB O O)) Z<|ki Y3 (jB O O)<|G6 ?_;refine ki Y3 (jB O O)<|G2 ?_;refine jd ⟨(j+1,a+x.num),[_],kp,Z,⟨Lc,⟨by simp only;omega,by simp only;omega,by simp only;omega⟩⟩,Oz⟩
  have th:=qIZ AW my;refine G5 ?_;refine ki Y3 (jB O O)<|G2 ?_;refine jd ⟨(j+1,a),[_],kp,Z,⟨Lc,⟨by simp only;omega,by simp only;omega,by simp only;omega⟩⟩,Oz⟩
 rw [aK O,zm] at hS;refine wN ?_;refine lw (γ:=Nat×Int) (λg=>[(2,_),(3,_),(5,iJ g.2),(38,_),(39,_),(40,iJ (g.1:Int))]) (λ_=>_) (λg tw=>Le D s6 tw/\(g.1<=nf/\0<=g.2/\g.2+(60 * ((nf - g.1:Nat):Int)+30 * (uE (p.funcs.drop g.1):Int))=uW p)) (λg=>nf - g.1) (λ_ _ _ h hl=>⟨h.1.trans hl,h.2⟩) (0,a) (.c6 Z Z Z Z Z Z (.nil _)) Z ⟨Le.refl _,⟨aB _,ha0,by simp only [cn];unfold uW;omega⟩⟩ ?_;intro g s8 I8;obtain ⟨i,b⟩:=g;obtain ⟨rf,hb0,hSb⟩:=I8.2;simp only at rf hb0 hSb;dsimp only;refine J6 ?_ ?_<;>intro c9
 .have pR:i < nf:=by omega
  obtain ⟨bx,off,x,B1,m1,d1,B2,m2,d2,B3,m3,d3,rfl,hx,hcx,od,oc,rE,kK⟩:=ju.at_ Pz pR;have hxN:=qqL hx;have hxb:=(rD x (ay hx)).2.2.2.2.2;refine G6 ?_;refine iI (jR Y6 pR) Z<|iI (kq Y3 Pz Z) Z<|jp Z [_,_,_,_] Y2 λβ10 ku jN=>Wt 0 [_,_,_,_] Y9<|G6 ?_;refine Jc Y3 (Ve d _ _ B3 m3 d3 x.body Pz O) ?_;rintro _ _ kv jP ⟨rfl,rfl⟩;refine qIs Z Z Z (jB O O)<|ki Y3 (jB O O)<|ki Y3 (jB O O)<|G5 ?_;refine ki Y3 (jB O O)<|G2 ?_;refine jd ⟨(i+1,b+(60+30 * (kC x.body:Int))),[_],kp,Z,⟨Lc,⟨by simp only;omega,by simp only;omega,by simp only;omega⟩⟩,Oz⟩
 rw [aK O,uE] at hSb;refine G8 ?_;refine X25 ?_;exact WV
end
section
variable{i:Nat}
theorem qnt(h:i < ls.length):ls.getD i []∈ls:=by grind
section
variable(hq:PQ p x)
include hq
mutual
theorem qIG:∀ (y:jb) (k lp lv:Nat) (ls:List iR),sx y lv=true->zu y=true->(∀ nd∈xZ y lp,j7 p x nd=0)->(∀ a∈ls,nJ a=true)->(0 < lp->2<=ls.length)->k+2 * qA y<=9999->CK p ls (qA y) (8 * qA y) k (cS p x y k ls)
  | .mk kd nm es b e,k,lp,lv,ls,hv,hu,hd,sF,rZ,hk=>by
    obtain ⟨_,hc,hes,hb,he⟩:=wH hv;obtain ⟨k1,k2,a1,a2,a3,a4⟩:=BP hc;simp only [zu,aA] at hu;obtain ⟨d1,d2,d3,d4⟩:=FU hd;have hl:=OL es;have pT:=OJ es;simp only [jb.kind,jb.exprs,jb.body,jb.els] at *;rw [qA] at hk ⊢;have l12:=hq.l12;have p6:=hq.p6;have H:=λk=>T4 hq (ls:=ls) es 0 k hes hu.1.1 d2;have hr:iY ((x.locals.length+1:Nat):Int):=⟨by omega,by omega⟩;unfold cS;split
    . rename_i h1
      refine (H k O O).tail ?_ O Q10;rcases Gi (nm:=nm) (uk:=1) (na:=0) (by have e:oY (.mk kd nm es b e)=(nm,1,0):=aw h1;rwa [j7,am Q17,e] at d1) Dc Dc with ⟨_,a,ha⟩|⟨h0,i,g,hi,hg,h4⟩
      . have h2:=NE ha
        rw [BK,ha];unfold jt at h2 ⊢;exact CG.nil.cnum Dc ⟨by omega,by omega⟩
      . obtain ⟨g1,g2⟩:=hq.g hg
        rw [BK,h0.resolve_right Dc,hi];exact CG.nil.cref Dc g1 (.inr (.inl ⟨i,g,hg,h4.resolve_left Dc,rfl⟩))
    split
    . rename_i h1 h2
      obtain ⟨_,i,g,hi,hg,h4⟩:=(Gi (nm:=nm) (uk:=3) (na:=0) (by have e:oY (.mk kd nm es b e)=(nm,3,0):=(am h1).trans (aw h2);rwa [j7,am Q17,e] at d1) Dc Dc).resolve_left (λh=>by omega);obtain ⟨g1,g2⟩:=hq.g hg;have A:=H k O O;have B:=Xa hq (ls:=ls) es 1 (cH p x es 0 k).2 hes hu.1.1 d2 Q15 O;have:=A.lo;have:=A.hi;have:=A.len;have:=B.lo;have:=B.hi;have:=B.len;rw [hi];exact ⟨by simp only;omega,by simp only;omega,by simp only [ac,au,ap];omega,(A.cg.appS ((B.cg.cop Dc).cnum Dc g2) (S:=λi=>k < i/\i<=(cI p x es 1 (cH p x es 0 k).2).2) (λi h1 h2=>by omega) λi=>by omega).appS (CG.nil.cref Dc g1 (.inr (.inl ⟨i,g,hg,h4.resolve_left Dc,rfl⟩))) (λ_ _ k=>k) λi=>by simp⟩
    split
    . rename_i h3
      have A:=H (k+1) O O;rw [am O] at d3 d4;have B:=Kx b (cH p x es 0 (k+1)).2 lp (lv+1) ls hb hu.1.2 d3 sF rZ Q15;have:=A.lo;have:=A.hi;have:=A.len;have:=B.lo;have:=B.hi;have:=B.len;split
      . refine ⟨by simp only;omega,by simp only;omega,by simp only [ac,au,ap];omega,?_⟩
        refine CG.tgt (E:=λa=>uK p ls a\/a=lT (k+1)) ?_ (λ_=>dI) λa h=>h.imp id λe=>⟨_,⟨?_,?_⟩,e⟩
        . exact ((A.cg.tgt (λ_=>dI) λa h=>.inl (.inl h)).appS ((B.cg.tgt (λ_=>dI) λa h=>.inl (.inl h)).cref Dc (x8 Dc O) (.inr rfl)) (S:=λi=>k+1 < i/\i<=(cB p x b (cH p x es 0 (k+1)).2 ls).2) (λi h1 h2=>by omega) λi=>by omega).appS (CG.nil.clab O id) (λi h1 h2=>by simp only [ea] at h2;omega) λi=>by simp only [ea];omega
        . omega
        . simp only;omega
      . have C:=Kx e ((cB p x b (cH p x es 0 (k+1)).2 ls).2+1) lp (lv+1) ls he hu.2 d4 sF rZ O
        have:=C.lo;have:=C.hi;have:=C.len;refine ⟨by simp only;omega,by simp only;omega,by simp only [ac,au,ap];omega,?_⟩;refine CG.tgt (E:=λa=>uK p ls a\/a=lT (k+1)\/a=lT ((cB p x b (cH p x es 0 (k+1)).2 ls).2+1)) ?_ (λ_=>dI) λa h=>h.imp id λe=>e.elim (λe=>⟨_,⟨?_,?_⟩,e⟩) λe=>⟨_,⟨?_,?_⟩,e⟩
        . exact ((((A.cg.tgt (λ_=>dI) λa h=>.inl (.inl h)).appS ((B.cg.tgt (λ_=>dI) λa h=>.inl (.inl h)).cref Dc (x8 Dc O) (.inr (.inl rfl))) (S:=λi=>k+1 < i/\i<=(cB p x b (cH p x es 0 (k+1)).2 ls).2) (λi h1 h2=>by omega) λi=>by omega).appS
            (((C.cg.tgt (λ_=>dI) λa h=>.inl (.inl h)).clab O O).cref Dc (x8 Dc O) (.inr (.inr rfl)))
            (S:=λi=>k < i/\i<=(cB p x e ((cB p x b (cH p x es 0 (k+1)).2 ls).2+1) ls).2/\i≠(cB p x b (cH p x es 0 (k+1)).2 ls).2+1) (λi h1 h2=>by omega) λi=>by omega)).appS (CG.nil.clab O id) (λi h1 h2=>by simp only [ea] at h2;omega) λi=>by simp only [ea];omega
        all_goals ((try simp only);omega)
    split
    . rename_i h4
      rw [aw h4] at d3;have A:=H (k+2) O O;have B:=Kx b (cH p x es 0 (k+2)).2 (lp+1) (lv+1) (ls++[lT (k+1),lT (k+2)]) hb hu.1.2 d3 (λa ha=>by
        rcases aU.1 ha with ha|ha
        . exact sF a ha
        . simp only [aW,eQ,ea] at ha
          rcases ha with rfl|rfl<;>exact x8 Dc O) (λ_=>by simp) Q15
      have:=A.lo;have:=A.hi;have:=A.len;have:=B.lo;have:=B.hi;have:=B.len;refine ⟨by simp only;omega,by simp only;omega,by simp only [ac,au,ap];omega,?_⟩;refine CG.tgt (E:=λa=>uK p ls a\/a=lT (k+1)\/a=lT (k+2)) ?_ (λ_=>dI) λa h=>h.imp id λe=>e.elim (λe=>⟨_,⟨?_,?_⟩,e⟩) λe=>⟨_,⟨?_,?_⟩,e⟩
      . exact (((A.cg.tgt (λ_=>dI) λa h=>.inl (.inl h)).clab (j:=k+1) O O).appS ((B.cg.tgt (λ_=>dI) λa h=>.inl (by
            rcases h with h|h|h
            . exact .inl (.inl h)
            . exact .inl (.inr (.inl h))
            . rcases aU.1 h with h|h
              . exact .inl (.inr (.inr h))
              . simp only [aW,eQ,ea] at h
                exact .inr h)).cref Dc (x8 Dc O) (.inr (.inr rfl)))
          (S:=λi=>k < i/\i<=(cB p x b (cH p x es 0 (k+2)).2 (ls++[lT (k+1),lT (k+2)])).2/\i≠k+2) (λi h1 h2=>by omega) λi=>by omega).appS
          ((CG.nil.clab (j:=k+2) O id).cref Dc (x8 Dc O) (.inr (.inl rfl))) (λi h1 h2=>by simp only [ea] at h2;omega) λi=>by simp only [ea];omega
      all_goals ((try simp only);omega)
    split
    . rename_i h5
      have ha:es.length<=6:=by have:=a2;simp only [zl,h5] at this;simpa using this
      obtain ⟨c1,c2⟩:=hq.call (ls:=ls) nm ha;exact (T0 hq (ls:=ls) es 0 k hes hu.1.1 d2 O O).tail c1 O O
    split
    . exact (H k O O).tail (CG.nil.cnum Dc hr) O Q10
    split
    . exact (H k O O).tail (CG.nil.cop Dc) O Q10
    split
    . exact (H k O O).tail (CG.nil.cop Dc) O Q10
    have rZ:2<=ls.length:=rZ (by
      rw [j7] at d1;by_cases h0:lp=0
      . rw [aw ⟨show kd=9\/kd=10 by omega,h0⟩] at d1;cases d1
      . omega)
    have Es:∀ i,i < ls.length->CK p ls (1+ln es+kC b+kC e) (8 * (1+ln es+kC b+kC e)) k ([.ref vE (ls.getD i [])],k):=λi hi=>
      CK.leaf (CG.nil.cref Dc (sF _ (qnt hi)) (.inr (.inr (qnt hi)))) Q10
    split
    . exact Es _ O
    . exact Es _ O
theorem Kx:∀ (l:List jb) (k lp lv:Nat) (ls:List iR),nT l lv=true->qk l=true->(∀ nd∈lI l lp,j7 p x nd=0)->(∀ a∈ls,nJ a=true)->(0 < lp->2<=ls.length)->k+2 * kC l<=9999->CK p ls (kC l) (8 * kC l) k (cB p x l k ls)
 | [],k,lp,lv,ls,_,_,_,_,_,_=>by unfold cB;exact CK.nil
 | y::r,k,lp,lv,ls,hv,hu,hd,sF,rZ,hk=>by
  simp only [nT,qk,aA] at hv hu;rw [kC] at *;unfold cB;have A:=qIG y k lp lv ls hv.1 hu.1 (λnd h=>hd nd (aN _ h)) sF rZ O;have B:=Kx r (cS p x y k ls).2 lp lv ls hv.2 hu.2 (λnd h=>hd nd (aJ _ h)) sF rZ Q15;have:=A.lo;have:=A.hi;have:=A.len;have:=B.lo;have:=B.hi;have:=B.len;exact ⟨by simp only;omega,by simp only;omega,by simp only [ac];omega,A.cg.appS B.cg (λi h1 h2=>by omega) λi=>by simp only;omega⟩
end
end
def qFZ(h:fT (i:Int)=fT (j:Int)):i=j:=SU (ey h).2
def qF8(h:gT (i:Int)=gT (j:Int)):i=j:=SU (ey h).2
def Qd{i:Int}:fT i≠lT j:=λh=>absurd (ey h).1 Dc
def qIC(hq:PQ p x)(hV:CZ x)(hu:qk x.body=true)(hd:∀ nd∈lI x.body 0,j7 p x nd=0)(i k:Nat)(hi:i<=9999)(hk:k+2 * kC x.body<=9999):k<=(cF p x i k).2/\(cF p x i k).2<=k+2 * kC x.body/\(cF p x i k).1.length<=17+8 * kC x.body/\CG V2 (uK p []) (λa=>a=fT (i:Int)\/lS (λj=>k < j/\j<=(cF p x i k).2) a) (cF p x i k).1:=by
  have B:=Kx hq x.body k 0 1 [] hV.2.2.2.2.1 hu hd (λa h=>by cases h) (λh=>by omega) hk;have:=B.lo;have:=B.hi;have:=B.len;have jL:=hq.l12;have hr:iY ((x.locals.length+1:Nat):Int):=⟨by omega,by omega⟩;unfold cF;refine ⟨by simp only;omega,by simp only;omega,?_,?_⟩
  . simp only [ac,au,ap,cJ]
    split<;>simp only [au,ap]<;>omega
  . have h1:CG V2 (uK p []) (lS λ_=>False) (if 0 < x.locals.length then [.num pp 0] else []):=by
      split
      . exact CG.nil.cnum Dc ⟨by decide,by decide⟩
      . exact CG.nil
    have h2:CG V2 (uK p []) (lS λ_=>False) (List.replicate x.locals.length (.op qj)):=by
      rw [<- List.map_replicate];exact CG.ops λn hn=>by rw [(dQ.1 hn).2];decide
    have h3:CG V2 (uK p []) (lS λ_=>False) [.num pp 0,.num DM ((x.locals.length+1:Nat):Int)]:=(CG.nil.cnum Dc hr).cnum Dc ⟨by decide,by decide⟩;have h4:=((h1.appS h2 (S:=λ_=>False) (λ_ k _=>k) λ_=>by simp).appS B.cg (S:=λj=>k < j/\j<=(cB p x x.body k []).2) (λ_ k _=>k) λ_=>by simp).appS h3 (S:=λj=>k < j/\j<=(cB p x x.body k []).2) (λ_ _ k=>k) λ_=>by simp
    have h5:=CG.app (Vq9:=V2) (E:=uK p []) (CG.one (x8 (c:=102) Dc (show i<=99999 by omega)) (aB _)) h4 (D:=λa=>a=fT (i:Int)\/lS (λj=>k < j/\j<=(cB p x x.body k []).2) a) (λa e ⟨j,_,h⟩=>Qd (e.symm.trans h)) λ_=>dI;simpa [fT] using h5
def qxG{p:ja}(hq:∀ x∈p.funcs,PQ p x)(hV:∀ x∈p.funcs,CZ x/\qk x.body=true/\∀ nd∈lI x.body 0,j7 p x nd=0):∀ (l:List iT) (i k:Nat),(∀ x∈l,x∈p.funcs)->i+l.length<=64->k+2 * uE l<=9999->k<=(qY p l i k).2/\(qY p l i k).1.length<=17 * l.length+8 * uE l/\CG V2 (uK p []) (λa=>(∃ j:Nat,i<=j/\j < i+l.length/\a=fT (j:Int))\/lS (λj=>k < j/\j<=(qY p l i k).2) a) (qY p l i k).1
  | [],i,k,_,_,_=>by
    unfold qY;exact ⟨aC _,aB _,CG.nil.tgt (λa=>⟨λh=>h.elim (λ⟨j,h1,h2,_⟩=>by simp only [ap] at h2;omega) λ⟨j,h,_⟩=>by omega,λ⟨_,h,_⟩=>h.elim⟩) λ_ h=>.inl h⟩
  | x::r,i,k,hm,hi,hk=>by
    have hx:=hm x Mc;obtain ⟨v1,v2,v3⟩:=hV x hx;rw [uE] at hk ⊢;simp only [au] at hi ⊢;obtain ⟨a1,a2,a3,a4⟩:=qIC (hq x hx) v1 v2 v3 i k O O;obtain ⟨b1,b2,b3⟩:=qxG hq hV r (i+1) (cF p x i k).2 (λy hy=>hm y (aq _ hy)) O O;unfold qY;refine ⟨by simp only;omega,by simp only [ac];omega,a4.app b3 (λa h1 h2=>?_) λa=>⟨λh=>?_,λh=>?_⟩⟩
    . rcases h1 with rfl|⟨j,c1,rfl⟩<;>rcases h2 with ⟨j',e1,e2,e3⟩|⟨j',e1,e3⟩
      . have:=qFZ e3;omega
      . exact Qd e3
      . exact Qd e3.symm
      . have:=qx1 e3;omega
    . rcases h with ⟨j,c1,c2,rfl⟩|⟨j,c1,rfl⟩
      . by_cases hj:j=i
        . exact .inl (.inl (by rw [hj]))
        . exact .inr (.inl ⟨j,by omega,by omega,rfl⟩)
      . by_cases hj:j<=(cF p x i k).2
        . exact .inl (.inr ⟨j,by omega,rfl⟩)
        . exact .inr (.inr ⟨j,by simp only at c1;omega,rfl⟩)
    . rcases h with (rfl|⟨j,c1,rfl⟩)|(⟨j,c1,c2,rfl⟩|⟨j,c1,rfl⟩)
      . exact .inl ⟨i,by omega,by omega,rfl⟩
      . exact .inr ⟨j,by simp only;omega,rfl⟩
      . exact .inl ⟨j,by omega,by omega,rfl⟩
      . exact .inr ⟨j,by simp only;omega,rfl⟩
def Vv{p:Prop} (h:p:=by
  rw [am O,am (by rw [c3];decide),am O] at hg;split at hg
  . cases hg
  . split at hg
    . cases hg
    . omega):p:=h
def qID{g:jM}(hg:pL g=0)(hu:iY g.num/\∀ z∈g.init,iY z)(hi:i<=9999){E:iR->Prop}:CG (λ_=>True) E (λa=>g.kind≠1/\a=gT (i:Int)) (cG g i)/\(cW (cG g i):Int)=yI g/\(cG g i).length<=2+g.init.length:=by
  obtain ⟨c1,c2,c3,c4,c5,c6⟩:=Bo hg;have c7:g.kind=3->1<=g.num/\(g.init.length:Int)<=g.num:=λh=>by
    unfold pL at hg;exact Vv
  unfold cG;split
  . rename_i h1
    exact ⟨CG.nil.tgt (λa=>⟨λh=>absurd h1 h.1,λ⟨_,h,_⟩=>h.elim⟩) λ_ h=>.inl h,by rw [yI,am O,am O];rfl,aB _⟩
  . rename_i h1
    have hm:=qxY hg hu.1;have hw:CG (λ_=>True) E (lS λ_=>False) (g.init.map (.num pB ·)):=by
      have:∀ l:LInt9,(∀ z∈l,iY z)->CG (λ_=>True) E (lS λ_=>False) (l.map (.num pB ·)):=λl=>by
        induction l with
        | nil=>intro _;exact CG.nil
        | cons z r ih=>intro h;exact (ih λy hy=>h y (aq _ hy)).c0 ⟨⟨.inr (.inl rfl),h z Mc⟩,trivial⟩ rfl λ_ h=>by cases h
      exact this _ hu.2
    have hs:CG (λ_=>True) E (lS λ_=>False) [.num so (max g.num 1 - (g.init.length:Int))]:=CG.nil.c0 ⟨⟨.inr (.inr rfl),hm⟩,trivial⟩ rfl λ_ h=>by cases h
    refine ⟨?_,?_,by simp only [ac,au,ap,bI];omega⟩
    . have h5:=CG.app (Vq9:=λ_=>True) (E:=E) (CG.one (x8 (c:=103) Dc (show i<=99999 by omega)) trivial) (hw.appS hs (S:=λ_=>False) (λ_ k _=>k) λ_=>by simp) (D:=λa=>g.kind≠1/\a=gT (i:Int)) (λa e ⟨j,h,_⟩=>h) λa=>⟨λh=>.inl h.2,λh=>h.elim (λh=>⟨h1,h⟩) λ⟨_,h,_⟩=>h.elim⟩
      simpa [gT] using h5
    . have e1:∀ l:LInt9,cW (l.map (.num pB ·))=l.length:=λl=>by
        induction l with
        | nil=>rfl
        | cons z r ih=>simp only [cW,aS,dW,au] at ih ⊢;rw [ih];simp [qH];omega
      have e2:cW [.num so (max g.num 1 - (g.init.length:Int))]=(max g.num 1 - (g.init.length:Int)).toNat:=by simp [cW,qH,show ¬ so=pB by decide]
      rw [Gd,show (Li.lab (gT (i:Int))::g.init.map (.num pB ·))=[.lab (gT (i:Int))]++g.init.map (.num pB ·) from rfl,Gd,e1,e2,show cW [Li.lab (gT (i:Int))]=0 from rfl,yI];by_cases h3:g.kind=3
      . have:=c7 h3
        rw [am O,aw h3];omega
      . have h2:g.kind=2:=by omega
        rw [aw h2,c4 h3,c5 h2];rfl
def qxH{E:iR->Prop}:∀ (l:List jM) (i:Nat),(∀ g∈l,pL g=0/\iY g.num/\∀ z∈g.init,iY z)->i+l.length<=64->CG (λ_=>True) E (λa=>∃ (j:Nat) (g:jM),l[j]?=some g/\g.kind≠1/\a=gT ((i+j:Nat):Int)) (ue l i)/\(cW (ue l i):Int)=zm l/\(ue l i).length<=2 * l.length+(l.map λg=>g.init.length).sum
  | [],i,_,_=>by
    unfold ue;exact ⟨CG.nil.tgt (λa=>⟨λ⟨j,g,h,_⟩=>(by cases h),λ⟨_,h,_⟩=>h.elim⟩) λ_ h=>.inl h,rfl,aB _⟩
  | g::r,i,h,hi=>by
    simp only [au] at hi ⊢;obtain ⟨a1,a2,a3⟩:=qID (E:=E) (h g Mc).1 (h g Mc).2 (i:=i) O;obtain ⟨b1,b2,b3⟩:=qxH (E:=E) r (i+1) (λy hy=>h y (aq _ hy)) O;unfold ue;refine ⟨a1.app b1 (λa ⟨_,h1⟩ ⟨j,g',_,_,h2⟩=>by have:=qF8 (h1.symm.trans h2);omega) λa=>⟨λ⟨j,g',c1,c2,c3⟩=>?_,λh=>?_⟩,by rw [Gd,zm];omega,by simp only [ac,aS,dW];omega⟩
    . cases j with
      | zero=>simp at c1;subst c1;exact .inl ⟨c2,c3⟩
      | succ j=>exact .inr ⟨j,g',by simpa using c1,c2,by rw [c3];congr 2;omega⟩
    . rcases h with ⟨c2,c3⟩|⟨j,g',c1,c2,c3⟩
      . exact ⟨0,g,rfl,c2,c3⟩
      . exact ⟨j+1,g',by simpa using c1,c2,by rw [c3];congr 2;omega⟩
def qAP{y:Li}(h:tR y):(yY y).length<=19:=by
 have hn:∀ n,nJ n=true->n.length<=6:=λn h=>(Yx h).2;have hd:∀ v,iY v->(o4 v).length<=10:=λv h=>Bl h;cases y with
 | op n=>simp only [tR,zQ,aA] at h;have:=hn n h.1.1.1;simp only [yY,wy,ac,au,ap];omega
 | ref n a=>have:=hn n (Nb (.inl h.1));have:=hn a h.2;simp only [yY,wy,ac,au,ap];omega
 | num n v=>have:=hn n (Nb h.1);have:=hd v h.2;simp only [yY,wy,ac,au,ap];omega
 | lab a=>have:=hn a h;simp only [yY,wy,ac,au,ap];omega
def qxI:∀ {L:List Li},(∀ y∈L,tR y)->(cT L).length<=19 * L.length
 | [],_=>aB _
 | y::L,h=>by
  have:=qAP (h y Mc);have:=qxI λz hz=>h z (aq _ hz);rw [kZ,ac,au];omega
def qyo:∀ {L:List Li},(∀ y∈L,qH y<=2)->cW L<=2 * L.length
 | [],_=>aB _
 | y::L,h=>by
  have:=h y Mc;have:=qyo λz hz=>h z (aq _ hz);rw [show cW (y::L)=qH y+cW L by simp [cW],au];omega
def qBD(h:(qv p).1=0):(p.o.map λg=>g.init.length).sum<=1000/\uE p.funcs<=2000:=by
 unfold qv at h;split at h
 . cases h
 split at h
 . rename_i h2;exact absurd h h2
 split at h
 . cases h
 rename_i h3;obtain ⟨_,b2⟩:=Si h;exact ⟨by omega,by omega⟩
def SF(hu:si p)(hc:(kU p).1=0)(hn:uW p<=49152):(∀ y∈cP p,tR y)/\(mJ (cP p)).Nodup/\(∀ a∈rl (cP p),a∈mJ (cP p))/\cW (cP p)<=49152/\(cT (cP p)).length<=400000:=by
 obtain ⟨hO,hz⟩:=sU.of hu hc;obtain ⟨⟨v1,v2,v3,v4,_⟩,n0,lQ⟩:=hO;have xY:(qv p).1=0:=by
  unfold kU at hc;split at hc
  . rename_i h;exact absurd hc h
  . rename_i h;exact Nh Q4
 obtain ⟨s1,s2⟩:=qBD xY;have hf0:=RK n0;have hq:∀ x∈p.funcs,PQ p x:=λx hx=>⟨hf0,v2,v1,λg hg=>(hu.1 g hg).1,(v4 x hx).2.1,(v4 x hx).2.2.1⟩;have hnp:=hn;unfold uW at hnp;obtain ⟨a1,a2,a3⟩:=qxG hq (λx hx=>⟨v4 x hx,hu.2 x hx,lQ x hx⟩) p.funcs 0 0 (λ_ h=>h) O O;obtain ⟨b1,b2,b3⟩:=qxH (E:=λa=>uK p [] a\/a=vK) p.o 0 (λg hg=>⟨(v3 g hg).1,hu.1 g hg⟩) O;obtain ⟨m,hm1,hm2⟩:=OF (p:=p) (nm:=jy) hf0;have hh:CG V2 (λa=>uK p [] a\/a=vK) (lS λ_=>False) [.ref EZ vK,.ref z6 (fT (fi p jy)),.num pp 0,.op Bv]:=by
  rw [hm1];exact (((CG.nil.cop Dc).cnum Dc ⟨by decide,by decide⟩).cref Dc (x8 Dc O) (.inl (.inl ⟨m,hm2,rfl⟩))).cref Dc Dc (.inr rfl)
 have up:∀ {E D:iR->Prop} {L:List Li},CG V2 E D L->CG (λ_=>True) E D L:=λh=>⟨λy hy=>⟨(h.ok y hy).1,trivial⟩,h.nd,h.mem,h.refs⟩;have c1:=(up hh).app (up (a3.tgt (E':=λa=>uK p [] a\/a=vK) (λ_=>dI) λa h=>.inl (.inl h))) (D:=λa=>(∃ j:Nat,0<=j/\j < 0+p.funcs.length/\a=fT (j:Int))\/lS (λj=>0 < j/\j<=(qY p p.funcs 0 0).2) a) (λa ⟨_,h,_⟩ _=>h) λa=>⟨.inr,λh=>h.elim (λ⟨_,h,_⟩=>h.elim) id⟩;have c2:=c1.app b1 (D:=λa=>((∃ j:Nat,0<=j/\j < 0+p.funcs.length/\a=fT (j:Int))\/lS (λj=>0 < j/\j<=(qY p p.funcs 0 0).2) a)\/∃ (j:Nat) (g:jM),p.o[j]?=some g/\g.kind≠1/\a=gT ((0+j:Nat):Int)) (λa h1 ⟨j,g,_,_,h2⟩=>by
  rcases h1 with ⟨j',_,_,h3⟩|⟨j',_,h3⟩
  . exact absurd (ey (h3.symm.trans h2)).1 Dc
  . exact absurd (ey (h3.symm.trans h2)).1 Dc) λ_=>dI
 have c3:=c2.app (CG.one (Vq9:=λ_=>True) (a:=vK) Dc trivial) (D:=λa=>(((∃ j:Nat,0<=j/\j < 0+p.funcs.length/\a=fT (j:Int))\/lS (λj=>0 < j/\j<=(qY p p.funcs 0 0).2) a)\/∃ (j:Nat) (g:jM),p.o[j]?=some g/\g.kind≠1/\a=gT ((0+j:Nat):Int))\/a=vK) (λa h1 h2=>by
  rcases h1 with (⟨j',_,_,h3⟩|⟨j',_,h3⟩)|⟨j',_,_,_,h3⟩;all_goals exact absurd (ey (h2.symm.trans h3)).1 Dc) λ_=>dI
 have hr:∀ a∈rl (cP p),a∈mJ (cP p):=λa ha=>(c3.mem a).2 (by
  rcases c3.refs a ha with h|(⟨i,h1,h2⟩|⟨i,g,h1,h2,h3⟩|h)|h
  . exact h
  . exact .inl (.inl (.inl ⟨i,by omega,by omega,h2⟩))
  . exact .inl (.inr ⟨i,g,h1,h2,by rw [h3,aZ]⟩)
  . cases h
  . exact .inr h)
 have l9:∀ y∈cP p,tR y:=λy hy=>(c3.ok y hy).1;have w1:=qyo λy hy=>(a3.ok y hy).2;have hW:cW (cP p)<=49152:=by
  rw [cP,Gd,Gd,Gd];have e1:cW [.ref EZ vK,.ref z6 (fT (fi p jy)),.num pp 0,.op Bv]=7:=by simp [cW,qH,show ¬ pp=pB by decide,show ¬ pp=so by decide]
  have e2:cW [.lab vK]=0:=rfl;rw [e1,e2];omega
 have hL:(cT (cP p)).length<=400000:=by
  have:=qxI l9;have e:(cP p).length<=5+(qY p p.funcs 0 0).1.length+(ue p.o 0).length:=by rw [cP];simp only [ac,au,ap];omega
  omega
 exact ⟨l9,c3.nd,hr,hW,hL⟩
def Xc(hu:si p)(hc:(kU p).1=0)(hn:uW p<=49152):(∃ x,sr ji (cT (cP p))=.inr x)/\(cT (cP p)).length<=400000:=by
 obtain ⟨h1,h2,h3,h4,h5⟩:=SF hu hc hn;exact ⟨qpZ h1 h2 h3 O h5,h5⟩
end
end Go.Proofs.YtapeaicongaggaaGreatDoor
