/- Part 5. -/
import Derived.Test.YtapeaicongaggaaGreatDoorQ41z4
set_option linter.unusedVariables false
set_option linter.defProp false
set_option linter.unusedSimpArgs false
set_option linter.unnecessarySimpa false
set_option maxRecDepth 100000
set_option maxHeartbeats 8000000
namespace Go.Proofs.YtapeaicongaggaaGreatDoor
open Go Go.RowKit Go.Proofs.Tryz
def aE:=@List.append_nil
def aO:=@List.perm_append_comm_assoc
def bX:=@List.flatten_nil
def dW:=@List.sum_cons
def fH:=@List.dropLast_concat
def fS:=@List.getD_cons_zero
def iu:=@Bool.and_self
variable{D n k c d i e lv b na ty bb a bc:Nat}{A p:OAdr9}{s s0:World}{v:Value}{l l2:iR}{x:jb}{xs R ys:LVal9}{P:Program}{nm w:iR}{y:Nat×Obj}{M M0 K:Hl}{o lp out:Int}{az es:List iR}{z:Ex}{Q:qd}
section
attribute [local irreducible] JC JO JA JB lZ mF mM AC fill iH QE Ev mq
def qoQ(L:Hl)(s:World)(r:Int):AV9 D 221 [.int .i32 r] L s (.bool (decide ((r < 97\/122 < r)/\(r < 48\/57 < r)))):=by
 refine jv (fn:=Tryz.f221) jl Tryz.func221 V Z Tryz.ntmps221 Z (rs:=[.tmp 2]) Z [(0,_)] Z<|lF ?_;exact US
end
section
variable(D:Nat)(L:Hl)(s:World)
section
variable{D:Nat}(L:Hl)(s:World)
def qmm:sR prog 225:=⟨_,func225,by kernel_rfl,by kernel_rfl⟩
def qkY:∀ args w,(callFunc 221 args).run prog w=.ok (.enter 221 args) w:=enters_of func221 V rfl
def qkO:AV9 D 220 [St l,.func (.func 221) #[] #[]] L s (.bool (l.any xD)):=
  AC.of_calls XJ λ_=>by
    refine (Any.strings_ContainsFunc_grows laysGw17 221 #[] qkY DF ⟨l.toArray⟩ (fill L s) (λW x _ _=>?_)).mono ?_
    . exact Ru (args:=[.int .i32 (x:Int)]) λD=>qoQ [] W x
    . rintro e w' ⟨he,hb⟩
      exact Wa
def r_(A:OAdr9)(n c:Nat)(ws:List iR)(hS:iW s A n c ws)(sep:iR)(iQ:(Lib.join ws sep).length<=140737488355328)(hn:ws.length<=140737488355328):AV9 D 116 [.slice A n c,St sep] L s (St (Lib.join ws sep)):=by
  obtain rfl:=hS.1;by_cases h0:ws=[]
  . subst h0
    refine AC.of_calls YZ λ_=>(Any.strings_Join_none lays156 Tryz.Builder_Extra_156 A c ⟨sep.toArray⟩ (fill L s)).mono λe w' ⟨he,hw⟩=>?_;exact ⟨_,he,by rw [hw];exact C7,λs' _ _ _=>⟨rfl,rfl⟩⟩
  . obtain ⟨x,r,rfl⟩:∃ x r,ws=x::r:=by cases ws with
      | nil=>exact absurd rfl h0
      | cons x r=>exact ⟨x,r,rfl⟩
    obtain ⟨b,off,cs,hA,hc,_,rfl,_⟩:=hS.2.2.2 0 x rfl;subst hA;have hmap:((x::r).map λx=>(⟨x.toArray⟩:ByteArray)).map (·.data.toList)=x::r:=by
      rw [fU];exact List.map_id'' (λ_=>rfl) _
    refine AC.of_calls YZ λho=>?_;have hbk:b < (fill L s).heap.size:=by rw [nR];exact De (hc 0 (St x) rfl)
    have:=Any.strings_Join lays156 Tryz.Builder_Extra_156 b off c ((x::r).map λx=>(⟨x.toArray⟩:ByteArray)) ⟨sep.toArray⟩ (fill L s) (qpe s hS (Bp ho) rfl) hbk (by rw [bI];exact hn) (by rw [bI];exact hS.2.1) (by rw [hmap];exact iQ);rw [bI,hmap] at this;refine this.mono λe w' ⟨he,hb⟩=>⟨_,he,hb,λs' _ _ _=>⟨Z,Z⟩⟩
def qoE(hG:GP s)(l:iR)(ws:List iR)(hf:Lib.fields l=ws)(ha:l.all (λb=>decide (b.toNat < 128))=true)(hl:l.length<=4000000):Ap9 D 222 [St l] L s λv L' _=>∃ β,L'=(β,cb (sb ws) 9)::L/\v=.slice (j6 β) ws.length ws.length:=
  ⟨qk6,λho=>by
    have jA:(⟨l.toArray⟩:ByteArray).size=l.length:=by simp [dG]
    refine (Any.strings_Fields lays157 V V ⟨l.toArray⟩ (fill L s) O (λj b hj=>?_) (qFk (hG.le (Bp ho)))).mono ?_
    . have hm:b∈l:=ay Q19
      exact cU (bV.1 ha b hm)
    . rintro e w' ⟨he,hw⟩
      have hf:Lib.fields (⟨l.toArray⟩:ByteArray).data.toList=ws:=hf;obtain ⟨h1,h2,h3⟩:=pU ho (cb (sb ws) 9);refine ⟨_,_,_,he,?_,h2,h3,s.heap.size,Z,?_⟩
      . rw [hw,hf,<- h1];rfl
      . rw [hf,nR]⟩
def qrT(l:iR)(n:Nat)(h1:n<=9223372036854775807)(h2:l.length * n<=140737488355328):AV9 D 225 [St l,iJ (n:Int)] L s (St (Lib.repeatL l n)):=
 AC.of_calls qmm λ_=>by
  refine (Any.strings_Repeat lays105 Tryz.Builder_Extra_105 ⟨l.toArray⟩ n (fill L s) h1 (by simpa [dG] using h2)).mono ?_;rintro e w' ⟨he,hb⟩;exact ⟨_,he,hb,λs' _ _ _=>⟨rfl,rfl⟩⟩
end
attribute [local irreducible] JC JO JA JB lZ mF mM AC fill iH QE Ev mq
def Xw{α:Type}{l:List α}{x:α}(h:l[0]?=some x):∃ r,l=x::r:=by
 cases l with
 | nil=>cases h
 | cons y r=>simp at h;subst h;exact ⟨r,rfl⟩
def zV(l:iR):Bool:=decide (l≠[]) && sG 0 l
def qsE{c:UInt8}(h:l[0]?=some c)(hc:¬ ((c.toNat:Int) < 97)/\¬ (122 < (c.toNat:Int))):zV l=!l.any xD:=by
 obtain ⟨r,rfl⟩:=Xw h;have hl:uG c=true:=by simp only [uG,aA,aF];omega
 have hb:xD c=false:=by simp [xD,hl]
 simp only [zV,sG,tV,hl,gS,fy,fx,hb,ep,Zx (l:=r) (i:=0+1) O];simp
def qxg{c:UInt8}(h:l[0]?=some c)(hc:(c.toNat:Int) < 97\/122 < (c.toNat:Int)):zV l=false:=by
 obtain ⟨r,rfl⟩:=Xw h;have hl:uG c=false:=by rw [eD];simp only [uG,fO,aA,aF];omega
 simp [zV,sG,tV,hl]
theorem RA(l:iR):oW l=(zV l && decide ((l.length:Int)<=12) && !Jd l):=by grind [oW,zV]
def Vk:iR:=[97,114,114,97,121,32,98,114,101,97,107,32,99,111,110,115,116,32,99,111,110,116,105,110,117,101,32,101,108,115,101,32,102,117,110,99,32,103,101,116,32,105,102,32,112,117,116,32,114,101,116,117,114,110,32,115,116,111,112,32,118,97,114,32,119,104,105,108,101]
def sgT:iR:=[33,32,45,32,126,32,42,32,47,32,37,32,60,60,32,62,62,32,38,32,43,32,45,32,124,32,94,32,61,61,32,33,61,32,60,32,60,61,32,62,32,62,61,32,38,38,32,124,124]
def qAO:Lib.fields Vk=se:=by decide +kernel
def qBC:Lib.fields sgT=sv.tail:=by decide +kernel
theorem qGp(l:iR):decide (0<=kM (λx=>decide (l=x)) se 0)=Jd l:=by grind [ZW,Jd]
def ZJ{α β:Type}{R:α->β->Prop}(f:α->β)(l:List α)(h:∀ x∈l,R x (f x)):kI R l (l.map f):=by
 induction l with
 | nil=>exact kI.nil
 | cons x l ih=>exact kI.cons (h x Mc) (ih λy hy=>h y (aq _ hy))
def qr0(l:List iR):(l.map λx=>[St x]).flatten=sb l:=by
 induction l with
 | nil=>rfl
 | cons x r ih=>show [St x]++(r.map λx=>[St x]).flatten=St x::sb r;rw [ih];rfl
def Yh(hG:GP s)(l:iR)(ws:List iR)(hf:Lib.fields l=ws)(ha:l.all (λb=>decide (b.toNat < 128))=true)(hl:l.length<=4000000)(hn:ws.length<=1000)(hx:∀ x∈ws,x.length<=1000):Ap9 D 222 [St l] L s λv L' s'=>L=L'/\∃ A n c,v=.slice A n c/\iW s' A n c ws:=
 AC.pubW ((qoE L s hG l ws hf ha hl).mono λv L' s' _ ⟨β,h1,h2⟩=>⟨[_],h1,λs2 h3 hp=>⟨_,_,_,h2,by
  exact Sl.lit (R:=λ_ x cs=>cs=[St x]/\x.length<=9223372036854775807) (ws.map λx=>[St x]) (hp _ _ _ Mc) (qr0 ws) (ZJ (λx=>[St x]) ws λx yV=>⟨rfl,rfl,by have:=hx x yV;omega⟩) _ rfl O⟩⟩)
def Kc(A:OAdr9)(n c:Nat)(l:List iR)(hA:iW s A n c l)(w:iR):AV9 D 92 [.slice A n c,St w] L s (iJ (kM (λx=>decide (w=x)) l 0)):=by
 have hn:=hA.1;have mX:=hA.2.1;have oR:=hA.2.2.1;refine jv (fn:=f92) jl func92 V Z ntmps92 Z (rs:=[.tmp 4]) Z [(0,_),(1,_)] Z<|qP ?_;refine lw (γ:=Nat) (λk=>[(0,_),(1,_),(4,_),(7,_),(8,iJ (k:Int))]) (λ_=>_) (λk tw=>Le D s tw/\(k<=n/\∀ i x,i < k->l[i]?=some x->decide (w=x)=false)) (λk=>n - k) (λ_ _ _ h hl=>⟨h.1.trans hl,h.2⟩) 0 (.c5 Z Z Z Z Z (.nil _)) Z ⟨Le.refl _,⟨aB _,λi x hi=>by omega⟩⟩ ?_;intro k s1 I1;have kh:=I1.2.1;have hI:=I1.2.2;refine J6 ?_ ?_<;>intro c2
 .have hk:k < n:=by omega
  obtain ⟨b,off,x,rfl,hx,hcx,_⟩:=iW.at_ (hA.le I1.1) hk;refine wN ?_;refine iI (ly Y6 hk) Z<|iI (jW Y3 hcx Z) Z<|uX Y3<|J2 ?_ ?_<;>intro c3;.have hz:=bO c3;refine mn ?_;refine rR [] L (.t1 Z) Z I1.1 λ_ iL=>?_;refine ⟨?_,Z⟩;simp only [kB];rw [Jy hI hx hz,aZ]
  have hz:=bQ c3;refine G4 ?_;refine ki Y3 (jB O O)<|G2 ?_;refine jd ⟨(k+1),[],kp,Z,⟨I1.1,⟨by omega,Cv hI hx hz⟩⟩,O⟩
 refine k8 ?_;refine rR [] L (.t1 Z) Z I1.1 λ_ iL=>?_;refine ⟨?_,Z⟩;simp only [kB];rw [RB (λi a hi h=>hI i a O h)]
def H_(A:OAdr9)(n c:Nat)(l:List iR)(hA:iW s A n c l)(w:iR):AV9 D 93 [.slice A n c,St w] L s (.bool (decide (0<=kM (λx=>decide (w=x)) l 0))):=by
 refine jv (fn:=f93) jl func93 V Z ntmps93 Z (rs:=[.tmp 4]) Z [(0,_),(1,_)] Z<|G9 ?_;refine Je Y3 (Kc D _ _ A n c l Pz w) λs1 h1=>uH Y3<|G4 ?_;exact rX [] L Z h1 λ_ iL=>ry
def qoR(hG:GP s)(l:iR):AV9 D 178 [St l] L s (.bool (Jd l)):=by
 refine jv (fn:=f178) jl func178 V Z ntmps178 Z (rs:=[.tmp 2]) Z [(0,_)] Z<|G7 ?_;refine Jc Y3 (Yh D _ _ Pz Vk se qAO (by decide +kernel) Dc Dc Dc) ?_;rintro _ _ s1 h1 ⟨rfl,Ak,nk,ck,rfl,hK⟩;refine jY Y2<|Je Y3 (H_ D _ _ Ak nk ck se Pz l) λs2 h2=>G4 ?_;exact rX [] L Z Lc λ_ iL=>⟨by simp only [kB,qGp],rfl⟩
def WK{p:Prop} (h:p:=by
 refine rR [] L (.t1 Z) Z (Lr D) λ_ iL=>?_;refine ⟨?_,Z⟩;rw [show zV l=false from qxg pQ O];rfl):p:=h
def qq5(l:iR):AV9 D 177 [St l] L s (.bool (zV l)):=by
 refine jv (fn:=f177) jl func177 V Z ntmps177 Z (rs:=[.tmp 2]) Z [(0,_)] Z<|G9 ?_;refine uX Y3<|jY Y2<|?_;refine kT (t:=5) Z ?_ ?_<;>intro c1;.refine zx ?_;refine rR [] L (.t1 Z) Z (Lr D) λ_ iL=>?_;refine ⟨?_,Z⟩;simp [kB,zV, *];done
 refine G3 ?_;obtain ⟨ch,pQ⟩:∃ ch,l[0]?=some ch:=⟨_,ax (fR.2 As)⟩;refine iI (Bu Y4 pQ) Z<|G4 ?_;refine kT (t:=10) Z ?_ ?_<;>intro c2;.refine qP ?_;exact WK
 refine G3 ?_;refine iI (Bu Y4 pQ) Z<|J5 ?_ ?_<;>intro c3;.refine G7 ?_;exact WK
 refine G5 ?_;refine Je Y3 (qkO _ _) λs4 h4=>G5 ?_;refine rR [] L (.t1 Z) Z h4 λ_ iL=>?_;refine ⟨?_,Z⟩;rw [qsE pQ ⟨by omega,by omega⟩];rfl
def JH(hG:GP s)(l:iR):AV9 D 134 [St l] L s (.bool (oW l)):=by
 refine jv (fn:=f134) jl func134 V Z ntmps134 Z (rs:=[.tmp 2]) Z [(0,_)] Z<|G8 ?_;refine Je Y3 (qq5 D _ _ l) λs1 h1=>jY Y2 ?_;refine F9 (t:=5) Z ?_ ?_<;>intro c2
 .refine G3 ?_;refine DD Z Z Z Z<|Zg Z Z<|Fb Z Z Z<|G2 ?_;refine kT (t:=10) Z ?_ ?_<;>intro c3;.refine G3 ?_;refine Je Y3 (qoR D _ _ Pz l) λs4 h4=>G7 ?_;refine rR [] L (.t1 Z) Z Lc λ_ iL=>?_;refine ⟨?_,Z⟩;rw [RA];simp only [kB];rw [show zV l=true by assumption,show decide ((l.length:Int)<=12)=true from bO O];rfl
  refine G8 ?_;refine rR [] L (.t1 Z) Z h1 λ_ iL=>?_;refine ⟨?_,Z⟩;rw [RA];simp only [kB];rw [show zV l=true by assumption,show decide ((l.length:Int)<=12)=false from bQ O];rfl
 refine mn ?_;refine Zo ?_;refine rR [] L (.t1 Z) Z h1 λ_ iL=>?_;refine ⟨?_,Z⟩;rw [RA];simp only [kB];rw [show zV l=false by assumption];rfl
def qr6(hG:GP s)(o:Int)(ho:1<=o/\o<=21):AV9 D 257 [iJ o] L s (St (BA o)):=by
 obtain ⟨j,rfl⟩:∃ j:Nat,o=(j:Int)+1:=⟨(o - 1).toNat,by omega⟩;refine jv (fn:=f257) jl func257 V Z ntmps257 Z (rs:=[.tmp 2]) Z [(0,_)] Z<|G7 ?_;refine Jc Y3 (Yh D _ _ Pz sgT sv.tail qBC (by decide +kernel) Dc Dc Dc) ?_;rintro _ _ s1 h1 ⟨rfl,Ak,nk,ck,rfl,hK⟩;have hnk:nk=21:=hK.1;obtain ⟨bk,ok,xk,rfl,Bd,AS,_⟩:=iW.at_ hK (show j < nk by omega);refine jY Y2<|iI (rn (c:=((j:Nat):Int)) Z Z Q5) Z<|iI (ly Y6 (show j < nk by omega)) Z<|iI (jW Y3 Pz Z) Z<|G4 ?_;refine rR [] L (.t1 Z) Z h1 λ_ iL=>?_;refine ⟨?_,Z⟩;rw [BA,show ((j:Int)+1).toNat=j+1 by omega,List.getD,show sv[j+1]?=sv.tail[j]? from rfl,Bd];rfl
def GF{p:Prop} (h:p:=by
 refine ⟨?_,Z⟩;simp only [kB];unfold va;repeat' split
 all_goals (first|rfl|(exfalso;omega))):p:=h
def zX{p:Prop} (h:p:=by
 refine G8 ?_;exact rY Z λ_ iL=>GF):p:=h
def MN(o:Int):AV9 D 259 [iJ o] L s (iJ (va o)):=by
 refine jv (fn:=f259) jl func259 V Z ntmps259 Z (rs:=[.tmp 2]) Z [(0,_)] Z<|Cl ?_ ?_<;>intro c1;.exact zX
 refine J6 ?_ ?_<;>intro c2;.exact zX
 refine J7 ?_ ?_<;>intro c3
 .refine J2 ?_ ?_<;>intro c4;.exact zX
  exfalso;omega
 refine J6 ?_ ?_<;>intro c4
 .refine J2 ?_ ?_<;>intro c5;.exact zX
  exfalso;omega
 refine J6 ?_ ?_<;>intro c5
 .refine J2 ?_ ?_<;>intro c6;.exact zX
  exfalso;omega
 refine J6 ?_ ?_<;>intro c6
 .refine J2 ?_ ?_<;>intro c7;.exact zX
  exfalso;omega
 refine J6 ?_ ?_<;>intro c7
 .refine J2 ?_ ?_<;>intro c8;.exact zX
  exfalso;omega
 refine J5 ?_ ?_<;>intro c8;.exact zX
 refine J7 ?_ ?_<;>intro c9
 .refine J2 ?_ ?_<;>intro my;.exact zX
  exfalso;omega
 refine J6 ?_ ?_<;>intro my
 .refine J2 ?_ ?_<;>intro mN;.exact zX
  exfalso;omega
 refine J6 ?_ ?_<;>intro mN
 .refine J2 ?_ ?_<;>intro nU;.exact zX
  exfalso;omega
 refine J5 ?_ ?_<;>intro nU;.exact zX
 refine G9 ?_;exact rY Z λ_ iL=>GF
def JD(hG:GP s)(n:Int)(hu:iY n):AV9 D 137 [iO n] L s (St (o4 n)):=by
 have h2:=hu.2;obtain ⟨u,rfl⟩:=aX hu.1;refine jv (fn:=f137) jl func137 V Z ntmps137 Z (rs:=[.tmp 2]) Z [(0,_)] Z<|G8 ?_;refine iI (sn Y5 (Q0 O O)) Z<|Jc Y3 (qqJ _ (hG.gw.le (Lr D)) u O) ?_;exact WR
end
section
variable(D:Nat)(L:Hl)(s:World){n k:Int}
mutual
def ns:Ex->Nat
 | .mk _ _ _ _ az=>1+ln az
def ln:List Ex->Nat
 | []=>0
 | x::r=>ns x+ln r
end
mutual
def nN:Ex->Bool
 | .mk k o n nm az=>decide (qn k o n nm az.length=0) && o5 az
def o5:List Ex->Bool
 | []=>true
 | x::r=>nN x && o5 r
end
mutual
def oM:Ex->Bool
 | .mk _ _ n _ az=>decide (0<=n/\n < 4294967296) && qO az
def qO:List Ex->Bool
 | []=>true
 | x::r=>oM x && qO r
end
mutual
def qA:jb->Nat
 | .mk _ _ es b e=>1+ln es+kC b+kC e
def kC:List jb->Nat
 | []=>0
 | x::r=>qA x+kC r
end
mutual
def sx:jb->Nat->Bool
 | .mk k nm es b e,lv=>decide (lv<=16) && decide (tX k nm es.length b.length e.length=0) && o5 es && nT b (lv+1) && nT e (lv+1)
def nT:List jb->Nat->Bool
 | [],_=>true
 | x::r,lv=>sx x lv && nT r lv
end
mutual
def zu:jb->Bool
 | .mk _ _ es b e=>qO es && qk b && qk e
def qk:List jb->Bool
 | []=>true
 | x::r=>zu x && qk r
end
mutual
def qHD:∀ (x:Ex) (lv c:Nat),(uL x lv c).2=0->nN x=true/\(uL x lv c).1=c+ns x/\c+ns x<=2000
 | .mk k o n nm az,lv,c,h=>by
  simp only [uL] at h ⊢;split at h
  . cases h
  rename_i h1;split at h
  . rename_i h2;exact absurd h h2
  rename_i h2;rw [am h1,am h2];obtain ⟨k1,k2,k3⟩:=Ke az (lv+1) (c+1) h;refine ⟨by simp only [nN,k1,dC,aF];simpa using h2,by rw [k2,ns];omega,by rw [ns];rcases k3 with k3|k3<;>omega⟩
def Ke:∀ (l:List Ex) (lv c:Nat),(om l lv c).2=0->o5 l=true/\(om l lv c).1=c+ln l/\(ln l=0\/c+ln l<=2000)
 | [],_,c,_=>⟨rfl,rfl,.inl rfl⟩
 | x::r,lv,c,h=>by
  simp only [om] at h ⊢;split at h
  . rename_i h1;exact absurd h h1
  rename_i h1;rw [am h1];obtain ⟨a1,a2,a3⟩:=qHD x lv c Q7;obtain ⟨b1,b2,b3⟩:=Ke r lv _ h;refine ⟨by simp only [o5,a1,b1,dC],by rw [b2,a2,ln];omega,.inr ?_⟩;rw [a2] at b3;rw [ln];rcases b3 with b3|b3<;>omega
end
mutual
def qHC:∀ (x:jb) (lv c:Nat),(tY x lv c).2=0->sx x lv=true/\(tY x lv c).1=c+qA x/\c+qA x<=2000
  | .mk k nm es b e,lv,c,h=>by
    simp only [tY] at h ⊢;split at h
    . cases h
    rename_i h1;split at h
    . rename_i h2;exact absurd h h2
    rename_i h2;split at h
    . rename_i h3;exact absurd h h3
    rename_i h3;split at h
    . rename_i h4;exact absurd h h4
    rename_i h4;rw [am h1,am h2,am h3,am h4];obtain ⟨a1,a2,a3⟩:=Ke es 1 (c+1) (by simpa using h3);obtain ⟨b1,b2,b3⟩:=Dh b (lv+1) _ (by simpa using h4);obtain ⟨e1,e2,e3⟩:=Dh e (lv+1) _ h;rw [b2,a2] at e3 e2;rw [a2] at b3;refine ⟨?_,by rw [b2,a2,e2,qA];omega,?_⟩
    . simp only [sx,a1,b1,e1,dC,aA,aF]
      exact ⟨by omega,by simpa using h2⟩
    . rw [qA]
      rcases a3 with a3|a3<;>rcases b3 with b3|b3<;>rcases e3 with e3|e3<;>omega
def Dh:∀ (l:List jb) (lv c:Nat),(nE l lv c).2=0->nT l lv=true/\(nE l lv c).1=c+kC l/\(kC l=0\/c+kC l<=2000)
 | [],_,c,_=>⟨rfl,rfl,.inl rfl⟩
 | x::r,lv,c,h=>by
  simp only [nE] at h ⊢;split at h
  . rename_i h1;exact absurd h h1
  rename_i h1;rw [am h1];obtain ⟨a1,a2,a3⟩:=qHC x lv c Q7;obtain ⟨b1,b2,b3⟩:=Dh r lv _ h;refine ⟨by simp only [nT,a1,b1,dC],by rw [b2,a2,kC];omega,.inr ?_⟩;rw [a2] at b3;rw [kC];rcases b3 with b3|b3<;>omega
end
def vJ(l:List iR):Nat:=(l.map λw=>w.length+2).sum
def Cu(w:iR)(l:List iR):vJ (w::l)=w.length+2+vJ l:=by simp [vJ]
def BQ:∀ l:List iR,(qu l).length<=vJ l
 | []=>aB _
 | [x]=>by simp [qu,vJ]
 | x::y::r=>by
  have:=BQ (y::r);rw [qu,Cu];simp only [ac,au] at this ⊢;omega
def qt6(l:List iR):(l.getD 0 []).length<=vJ l:=by
 cases l with
 | nil=>exact aB _
 | cons x r=>rw [Cu];simp only [fS];omega
def Y1(l:List iR):(l.getD 0 []).length+(l.getD 1 []).length<=vJ l:=by
 match l with
 | []=>exact aB _
 | [x]=>simp [vJ]
 | x::y::r=>rw [Cu,Cu];simp only [fS,List.getD_cons_succ];omega
def qr2(o:Int):(BA o).length<=2:=by
 unfold BA;have h:∀ x∈sv,x.length<=2:=by decide
 by_cases hk:o.toNat < sv.length
 . rw [List.getD,ax hk];exact h _ (dO hk)
 . rw [List.getD,di O];exact aB _
def Bl(h:0<=n/\n < 4294967296):(o4 n).length<=10:=(qAd (u:=n.toNat) O).2
def Ct{l:iR}(h:oW l=true):l.length<=12:=by
 unfold oW at h;simp only [aA,aF] at h;have:=h.1.1.2;omega
def qtN(h:qn k o n nm na=0):nm.length<=12:=by
 unfold qn at h;split at h
 . cases h
 split at h
 . cases h
 rename_i h2;split at h
 . cases h
 rename_i h3;cases hn:Dr k with
 | true=>
  cases hi:oW nm with
  | true=>exact Ct hi
  | false=>exact absurd ⟨hn,hi⟩ h2
 | false=>
  by_cases he:nm=[]
  . rw [he];exact aB _
  . exact absurd (.inl ⟨hn,he⟩) h3
def qAl(hn:0<=n/\n < 4294967296)(hm:nm.length<=12):(AF k o n nm az out).length<=20+vJ az:=by
 have h0:=Bl hn;have h1:=BQ az;have h3:=Y1 az;have h4:=qr2 o;unfold AF;repeat' split
 all_goals ((try simp only [ac,au,ap]);omega)
mutual
def SW:∀ (x:Ex) (out:Int),nN x=true->oM x=true->(mU x out).length+2<=40 * ns x
 | .mk k o n nm az,out,hv,hu=>by
  simp only [nN,aA,aF] at hv;simp only [oM,aA,aF] at hu;have h1:=JG az (B4 k o) hv.2 hu.2;have h2:=qAl (k:=k) (o:=o) (az:=qN az (B4 k o)) (out:=out) hu.1 (qtN hv.1);simp only [mU,ns];omega
def JG:∀ (l:List Ex) (os:LInt9),o5 l=true->qO l=true->vJ (qN l os)<=40 * ln l
 | [],_,_,_=>aB _
 | x::r,os,hv,hu=>by
  simp only [o5,aA] at hv;simp only [qO,aA] at hu;have h1:=SW x (os.headD 0) hv.1 hu.1;have h2:=JG r os.tail hv.2 hu.2;simp only [qN,Cu,ln];omega
end
def ED(n:Nat):(oH n).length=2 * n:=by
 induction n with
 | zero=>rfl
 | succ n ih=>simp only [oH,ac,au,ap,ih];omega
def qvd(h:tX k nm a b c=0):nm.length<=12:=by
 unfold tX at h;split at h
 . cases h
 split at h
 . cases h
 rename_i h2;split at h
 . cases h
 rename_i h3;cases hn:BZ k with
 | true=>
  cases hi:oW nm with
  | true=>exact Ct hi
  | false=>exact absurd ⟨hn,hi⟩ h2
 | false=>
  by_cases he:nm=[]
  . rw [he];exact aB _
  . exact absurd (.inl ⟨hn,he⟩) h3
def qve(hm:nm.length<=12):(wL k nm es).length<=30+vJ es:=by
 have h1:=BQ es;have h3:=Y1 es;unfold wL;repeat' split
 all_goals ((try simp only [ac,au,ap]);omega)
mutual
def Sf:∀ (x:jb) (lv m:Nat),lv<=m->sx x m=true->sx x lv=true
 | .mk k nm es b e,lv,m,hl,hv=>by
  simp only [sx,aA,aF] at hv ⊢;exact ⟨⟨⟨⟨by omega,hv.1.1.1.2⟩,hv.1.1.2⟩,Sd b (lv+1) (m+1) O hv.1.2⟩,Sd e (lv+1) (m+1) O hv.2⟩
def Sd:∀ (l:List jb) (lv m:Nat),lv<=m->nT l m=true->nT l lv=true
 | [],_,_,_,_=>rfl
 | x::r,lv,m,hl,hv=>by
  simp only [nT,aA] at hv ⊢;exact ⟨Sf x lv m hl hv.1,Sd r lv m hl hv.2⟩
end
mutual
def qsi:∀ (x:jb) (lv:Nat),sx x lv=true->zu x=true->(vO x lv).length+34<=200 * qA x
 | .mk k nm es b e,lv,hv,hu=>by
  simp only [sx,aA,aF] at hv;simp only [zu,aA] at hu;have h1:=JG es [] hv.1.1.2 hu.1.1;have h2:=JN b (lv+1) hv.1.2 hu.1.2;have h3:=JN e (lv+1) hv.2 hu.2;have h4:=qt6 (qN es []);have h5:=ED lv;have h6:=qve (k:=k) (es:=qN es []) (qvd hv.1.1.1.2);have h7:=hv.1.1.1.1;have h8:=qBK e lv hu.2 hv.2;simp only [vO,qA];repeat' split
  all_goals ((try simp only [ac,au,ap]);omega)
def JN:∀ (l:List jb) (lv:Nat),nT l lv=true->qk l=true->(ss l lv).length<=200 * kC l
 | [],_,_,_=>aB _
 | x::r,lv,hv,hu=>by
  simp only [nT,aA] at hv;simp only [qk,aA] at hu;have h1:=qsi x lv hv.1 hu.1;have h2:=JN r lv hv.2 hu.2;have h3:=ED lv;have h4:lv<=16:=by
   have:=hv.1;cases x with
   | mk k nm es b e=>simp only [sx,aA,aF] at this;exact this.1.1.1.1
  simp only [ss,ac,kC];omega
def qBK:∀ (l:List jb) (lv:Nat),qk l=true->nT l (lv+1)=true->(BF l lv).length<=200 * kC l
 | [],_,_,_=>aB _
 | x::r,lv,hu,hv=>by
  simp only [nT,aA] at hv;simp only [qk,aA] at hu;have h1:=qsi x lv (Sf x lv (lv+1) O hv.1) hu.1;simp only [BF,kC];omega
end
attribute [local irreducible] JC JO JA JB lZ mF mM AC fill iH QE Ev mq
def GG{p:Prop} (h:p:=by
 refine ⟨?_,Z⟩;simp only [kB];exact bj Value.bool (bJ.2 O)):p:=h
def GH{p:Prop} (h:p:=by
 refine ⟨?_,Z⟩;simp only [kB];exact bj Value.bool (bQ O).symm):p:=h
def qtK(bc c lv:Nat)(hc:c<=2000):Ap9 D 179 [jc bc,iJ (lv:Int)] ((bc,cb [iJ (c:Int)] 194)::L) s λv L' _=>v=.bool (decide (¬ (16 < lv\/2000 < c+1)))/\L'=(bc,cb [iJ ((c+1:Nat):Int)] 194)::L:=by
 refine jv (fn:=f179) jl func179 V Z ntmps179 Z (rs:=[.tmp 4]) Z [(0,_),(1,_)] Z<|k8 ?_;refine iI (nD (c:=((c+1:Nat):Int)) Z Z Q9) Z<|G2 ?_;refine Wt 0 [_] Y9<|G5 ?_;refine Fb Z Z Z<|jY Y2<|?_;refine kT (t:=14) Z ?_ ?_<;>intro c1;.refine G9 ?_;refine Fb Z Z Z<|G5 ?_;exact rR [] _ (.t1 Z) Z (Lr D) λ_ iL=>GG
 refine lF ?_;exact rR [] _ (.t1 Z) Z (Lr D) λ_ iL=>GH
def GI{p:Prop} (h:p:=by
 refine ⟨?_,Z⟩;have h9:k=1\/k=2\/k=3\/k=4\/k=5\/k=6\/k=7\/k=8\/k=9\/k=10:=by omega
 rcases h9 with rfl|rfl|rfl|rfl|rfl|rfl|rfl|rfl|rfl|rfl<;>first|rfl|(exfalso;omega)):p:=h
def E8{p:Prop} (h:p:=by
 refine mn ?_;exact rR [] L (.tmp Z (.tmp Z (.tmp Z (.tmp Z (.t1 Z))))) Z (Lr D) λ_ iL=>GI):p:=h
def qse(k:Int)(h1:1<=k)(h2:k<=10):AV9 D 180 [iJ k] L s (.tuple #[iJ (wG k:Int),iJ (zl k:Int),.bool (BZ k),.bool (decide (k=3\/k=4)),.bool (decide (k=3))]):=by
 refine jv (fn:=f180) jl func180 V Z ntmps180 Z (rs:=[.tmp 2,.tmp 3,.tmp 4,.tmp 5,.tmp 6]) Z [(0,_)] Z<|J22 ?_ ?_<;>intro c1;.exact E8
 refine J6 ?_ ?_<;>intro c2;.exact E8
 refine J6 ?_ ?_<;>intro c3;.exact E8
 refine J6 ?_ ?_<;>intro c4;.exact E8
 refine J6 ?_ ?_<;>intro c5;.exact E8
 refine J7 ?_ ?_<;>intro c6
 .refine J2 ?_ ?_<;>intro c7;.exact E8
  exfalso;omega
 refine J5 ?_ ?_<;>intro c7;.exact E8
 refine mn ?_;refine Zo ?_;exact rR [] L (.tmp Z (.tmp Z (.tmp Z (.tmp Z (.t1 Z))))) Z (Lr D) λ_ iL=>GI
def GJ{p:Prop} (h:p:=by
 refine ⟨?_,Z⟩;simp only [kB];unfold tu uV;repeat' split
 all_goals (first|rfl|(exfalso;omega))):p:=h
def Oq{p:Prop} (h:p:=by
 refine G9 ?_;exact rR [] L (.tmp Z (.t1 Z)) Z (Lr D) λ_ iL=>GJ):p:=h
def qqA(k:Int):AV9 D 224 [iJ k] L s (.tuple #[iJ (tu k:Int),iJ (uV k:Int)]):=by
 refine jv (fn:=f224) jl func224 V Z ntmps224 Z (rs:=[.tmp 2,.tmp 3]) Z [(0,_)] Z<|J20 ?_ ?_<;>intro c1
 .refine J2 ?_ ?_<;>intro c2;.exact Oq
  exfalso;omega
 refine J5 ?_ ?_<;>intro c2;.exact Oq
 refine J6 ?_ ?_<;>intro c3;.exact Oq
 refine J6 ?_ ?_<;>intro c4;.exact Oq
 refine lF ?_;exact rR [] L (.tmp Z (.t1 Z)) Z (Lr D) λ_ iL=>GJ
def VL{p:Prop} (h:p:=by
 refine lF ?_;exact rX [_] L Z h1 λ_ iL=>GH):p:=h
def V8{p:Prop} (h:p:=by
 refine G5 ?_;refine Fb Z Z Z<|G6 ?_;refine Zu ?_;exact rX [_] L Z h1 λ_ iL=>GG):p:=h
def qAK(x:Ex)(A:OAdr9)(n c:Nat):AV9 D 223 [.agg #[iJ x.kind,iJ x.op,iO x.num,St x.name,.slice A n c]] L s (.bool (decide (¬ ((x.kind=6/\(x.op < 1\/3 < x.op))\/(x.kind=7/\(x.op < 4\/21 < x.op)))))):=by
 refine jv (fn:=f223) jl func223 V Z ntmps223 Z (rs:=[.tmp 2]) Z [(0,_)] Z<|Sr<|kH Y2 λβ1 s1 h1=>LV ?_ ?_<;>intro c2
 .refine G4 ?_;refine uH Y3<|jY Y2<|?_;refine kT (t:=10) Z ?_ ?_<;>intro c3;.exact V8
  exact VL
 refine J6 ?_ ?_<;>intro c3
 .refine G4 ?_;refine uH Y3<|jY Y2<|?_;refine kT (t:=20) Z ?_ ?_<;>intro c4;.exact V8
  exact VL
 refine G9 ?_;refine rR [_] L (.t1 Z) Z h1 λ_ iL=>?_;refine ⟨?_,Z⟩;simp only [kB];exact bj Value.bool (bO O).symm
def qGa{g:jM}{n:Nat}(h:n=g.init.length):pL g=if g.kind < 1\/3 < g.kind then 5 else if oW g.name=false then 7 else if (g.kind≠3/\0 < n)\/(g.kind=2/\g.num≠0) then 6 else if g.kind=3/\(g.num < 1\/40000 < g.num) then 4 else if g.kind=3/\g.num < (n:Int) then 2 else 0:=by
 have hi:g.init≠[]↔0 < n:=by rw [h];exact fR.symm
 simp only [pL,hi,h]
def Fv{p:Prop} (h:p:=by
 refine ⟨?_,Z⟩;simp only [kB];rw [qGa hn];repeat' split
 all_goals (first|rfl|(exfalso;omega)|(exfalso;simp_all;done)|(exfalso;simp_all;omega))):p:=h
def Ku{p:Prop} (h:p:=by
 refine G8 ?_;exact rX [_] L Z Lc λ_ iL=>Fv):p:=h
def QU{p:Prop} (h:p:=by
 refine UV ?_;exact rX [_] L Z Lc λ_ iL=>Fv):p:=h
def Mb{p:Prop} (h:p:=by
 refine LS ?_;exact rX [_] L Z Lc λ_ iL=>Fv):p:=h
def qqm(hG:GP s)(g:jM)(A:OAdr9)(n c:Nat)(hA:lV s A n c g.init)(hu:iY g.num):AV9 D 89 [.agg #[iJ g.kind,St g.name,iO g.num,.slice A n c]] L s (iJ (pL g)):=by
 have hn:=hA.1;have pr:=hu.1;have oE:=hu.2;refine jv (fn:=f89) jl func89 V Z ntmps89 Z (rs:=[.tmp 2]) Z [(0,_)] Z<|Sr<|kH Y2 λβ1 s1 h1=>k8 ?_;refine kT (t:=7) Z ?_ ?_<;>intro c2;.refine CX ?_;exact rX [_] L Z h1 λ_ iL=>Fv
 refine sA ?_ ?_<;>intro c3;.refine G8 ?_;exact rX [_] L Z h1 λ_ iL=>Fv
 refine G4 ?_;refine Je Y3 (JH D _ _ Pz g.name) λs4 h4=>G4 ?_;refine vB Z ?_ ?_<;>intro c5;.exact Ku
 refine G7 ?_;refine tt (t:=21) Z ?_ ?_<;>intro c6
 .refine vT ?_ ?_<;>intro c7
  .refine J2 ?_ ?_<;>intro c8;.exact Ku
   exfalso;omega
  refine G5 ?_;refine kT (t:=30) Z ?_ ?_<;>intro c8
  .refine lF ?_;refine lD Z ?_ ?_<;>intro c9;.exact Ku
   refine G6 ?_;refine kT (t:=39) Z ?_ ?_<;>intro my
   .refine G8 ?_;refine kT (t:=43) Z ?_ ?_<;>intro mN;.exact QU
    refine mn ?_;exact TP
   refine zx ?_;refine kT (t:=53) Z ?_ ?_<;>intro mN;.refine k8 ?_;refine iI (sn Y5 (jB O O)) Z<|G6 ?_;exact TP
   exact Mb
  refine qP ?_;refine kT (t:=39) Z ?_ ?_<;>intro c9
  .refine G8 ?_;refine kT (t:=43) Z ?_ ?_<;>intro my;.exact QU
   refine vT ?_ ?_<;>intro mN;.exfalso;omega
   exfalso;omega
  refine zx ?_;refine kT (t:=53) Z ?_ ?_<;>intro my
  .refine k8 ?_;refine iI (sn Y5 (jB O O)) Z<|J6 ?_ ?_<;>intro mN;.exfalso;omega
   exfalso;omega
  exact Mb
 refine qP ?_;refine kT (t:=30) Z ?_ ?_<;>intro c7
 .refine lF ?_;refine lD Z ?_ ?_<;>intro c8;.exfalso;omega
  exfalso;omega
 refine qP ?_;refine kT (t:=39) Z ?_ ?_<;>intro c8
 .refine G8 ?_;refine kT (t:=43) Z ?_ ?_<;>intro c9;.exact QU
  refine vT ?_ ?_<;>intro my;.exact Ku
  refine G6 ?_;refine kT (t:=53) Z ?_ ?_<;>intro mN
  .refine k8 ?_;refine iI (sn Y5 (jB O O)) Z<|J6 ?_ ?_<;>intro nU;.exact Ku
   refine G9 ?_;exact rX [_] L Z Lc λ_ iL=>Fv
  exact Mb
 refine zx ?_;refine kT (t:=53) Z ?_ ?_<;>intro c9
 .refine k8 ?_;refine iI (sn Y5 (jB O O)) Z<|J6 ?_ ?_<;>intro my;.exfalso;omega
  exfalso;omega
 exact Mb
def Kp(x:Ex)(lv c:Nat):uL x lv c=if 16 < lv\/2000 < c+1 then (c+1,2) else if qn x.kind x.op x.num x.name x.args.length≠0 then (c+1,qn x.kind x.op x.num x.name x.args.length) else om x.args (lv+1) (c+1):=by
 cases x;rfl
def SS{l:List Ex}{k:Nat}{x:Ex}(h:l[k]?=some x)(lv c:Nat):om (l.drop k) lv c=if (uL x lv c).2≠0 then uL x lv c else om (l.drop (k+1)) lv (uL x lv c).1:=by
 obtain ⟨hk,rfl⟩:=al.1 h;rw [aL hk,om]
def qx2{p:Prop}[Decidable p]{b:Bool}(h:p):(!b)=decide (p/\b=false):=by cases b<;>simp [h]
section
variable{x:Ex}{n:Nat}(hn:n=x.args.length)
include hn
theorem qIK(h:x.kind < 1\/7 < x.kind\/¬ ¬ ((x.kind=6/\(x.op < 1\/3 < x.op))\/(x.kind=7/\(x.op < 4\/21 < x.op)))):qn x.kind x.op x.num x.name x.args.length=5:=by
 have:=hn;rw [qn,aw];omega
variable(h5:¬ (x.kind < 1\/7 < x.kind\/¬ ¬ ((x.kind=6/\(x.op < 1\/3 < x.op))\/(x.kind=7/\(x.op < 4\/21 < x.op)))))
include h5
theorem qIM(h:(2<=x.kind/\x.kind<=4)/\oW x.name=false):qn x.kind x.op x.num x.name x.args.length=7:=by
 have:=hn;have:=h5;rw [qn,am O,aw ⟨bO h.1,h.2⟩]
variable(h7:¬ ((2<=x.kind/\x.kind<=4)/\oW x.name=false))
include h7
theorem qIL(h:(¬ (2<=x.kind/\x.kind<=4)/\x.name≠[])\/(x.kind≠1/\x.num≠0)\/(¬ (x.kind=6\/x.kind=7)/\x.op≠0)\/n < tu x.kind\/uV x.kind < n):qn x.kind x.op x.num x.name x.args.length=6:=by
 rw [qn,am O,am (λk=>h7 ⟨cU k.1,k.2⟩),aw];rcases h with h|h|h|h|h
 . exact .inl ⟨bQ h.1,h.2⟩
 . exact .inr (.inl h)
 . exact .inr (.inr (.inl ⟨by omega,h.2⟩))
 . exact .inr (.inr (.inr (.inl O)))
 . exact .inr (.inr (.inr (.inr O)))
theorem qIJ(h:¬ ((¬ (2<=x.kind/\x.kind<=4)/\x.name≠[])\/(x.kind≠1/\x.num≠0)\/(¬ (x.kind=6\/x.kind=7)/\x.op≠0)\/n < tu x.kind\/uV x.kind < n)):qn x.kind x.op x.num x.name x.args.length=0:=by
 rw [qn,am O,am (λk=>h7 ⟨cU k.1,k.2⟩),am];intro k;refine h ?_;rcases k with k|k|k|k|k
 . exact .inl ⟨dx k.1,k.2⟩
 . exact .inr (.inl k)
 . exact .inr (.inr (.inl ⟨by omega,k.2⟩))
 . exact .inr (.inr (.inr (.inl O)))
 . exact .inr (.inr (.inr (.inr O)))
end
def ZD(bc c lv:Nat)(hc:c<=2000):Ap9 D 179 [jc bc,iJ (lv:Int)] (y::(bc,cb [iJ (c:Int)] 194)::L) s λv L' _=>v=.bool (decide (¬ (16 < lv\/2000 < c+1)))/\L'=y::(bc,cb [iJ ((c+1:Nat):Int)] 194)::L:=
 AC.perm (List.Perm.swap ..) (qtK D (y::L) s bc c lv hc) λv L1 s1 ⟨h0,h1⟩=>⟨_,by rw [h1];exact List.Perm.swap ..,h0,rfl⟩
def LP(D d:Nat):Prop:=∀ (L:Hl) (s:World),GP s->∀ (bc c lv:Nat) (A:OAdr9) (n cc:Nat) (l:List Ex),j9 d s A n cc l->c<=2000->lv<=17->Ap9 D 181 [jc bc,.slice A n cc,iJ (lv:Int)] ((bc,cb [iJ (c:Int)] 194)::L) s λv L' _=>v=iJ (om l lv c).2/\L'=(bc,cb [iJ ((om l lv c).1:Int)] 194)::L
def LP.swap{D:Nat}(h:LP D d)(L:Hl)(s:World)(hG:GP s)(y:Nat×Obj)(bc c lv:Nat)(A:OAdr9)(n cc:Nat)(l:List Ex)(hA:j9 d s A n cc l)(hc:c<=2000)(nZ:lv<=17):Ap9 D 181 [jc bc,.slice A n cc,iJ (lv:Int)] (y::(bc,cb [iJ (c:Int)] 194)::L) s λv L' _=>v=iJ (om l lv c).2/\L'=y::(bc,cb [iJ ((om l lv c).1:Int)] 194)::L:=
 AC.perm (List.Perm.swap ..) (h (y::L) s hG bc c lv A n cc l hA hc nZ) λv L1 s1 ⟨h0,h1⟩=>⟨_,by rw [h1];exact List.Perm.swap ..,h0,rfl⟩
def GK{p:Prop} (h:p:=by
 rw [hS,SS hx,hE,aw (by simp;done)];exact ⟨rfl,rfl⟩):p:=h
def Gq{p:Prop} (h:p:=by
 refine jd (kE.mk (Lr D) Sb Z ((bO O).symm))):p:=h
def zq{p:Prop} (h:p:=by
 refine Zk ?_;refine jd (lR.mk () [] (Lr D) (.cons Kb (.nil _)) So Pr Tt)):p:=h
def Vu{p:Prop} (h:p:=by
 refine G5 ?_;refine jd (kE.mk (Lr D) Sb Z ((bO O).symm))):p:=h
def Vn{p:Prop} (h:p:=by
 refine mn ?_;exact rR [_] _ (.t1 Z) Z Lc λ_ iL=>GK):p:=h
def VW{p:Prop} (h:p:=by
 refine mn ?_;refine Zu ?_;exact rR [_] _ (.t1 Z) Z Lc λ_ iL=>GK):p:=h
def VT{p:Prop} (h:p:=by
 refine G6 ?_;refine jd (kE.mk (Lr D) Sb Z ((bO O).symm))):p:=h
def VM{p:Prop} (h:p:=by
 refine k8 ?_;refine rR [] _ (.t1 Z) Z I1.1 λ_ iL=>?_;rw [hS];exact ⟨rfl,rfl⟩):p:=h
def Oo{p:Prop} (h:p:=by
 refine G8 ?_;refine jd (lR.mk () [] (Lr D) (.cons Kb (.nil _)) So Pr Tt)):p:=h
def Wc{p:Prop} (h:p:=by
 refine G9 ?_;refine jd (kE.mk (Lr D) Sb Z (bJ.2 O))):p:=h
def Hs{p:Prop} (h:p:=by
  refine tt (t:=90) Z ?_ ?_<;>intro c24
  .refine lF ?_;refine lD Z ?_ ?_<;>intro zB;.refine Zk ?_;refine jd (lR.mk () [] (Lr D) (.cons Kb (.nil _)) So Pr Tt)
   refine sA ?_ ?_<;>intro c26;.refine Zk ?_;refine jd (lR.mk () [] (Lr D) (.cons Kb (.nil _)) So Pr Tt)
   refine G8 ?_;refine jd (lR.mk () [] (Lr D) (.cons Kb (.nil _)) So Pr Tt)
  refine Cl ?_ ?_<;>intro zB;.exfalso;omega
  exfalso;omega):p:=h
theorem X0{D:Nat}(d:Nat)(ih:∀ e,d=e+1->LP D e)(L:Hl)(s:World)(hG:GP s)(bc c lv:Nat)(A:OAdr9)(n cc:Nat)(l:List Ex)(hA:j9 d s A n cc l)(hc:c<=2000)(nZ:lv<=17):Ap9 D 181 [jc bc,.slice A n cc,iJ (lv:Int)] ((bc,cb [iJ (c:Int)] 194)::L) s λv L' _=>v=iJ (om l lv c).2/\L'=(bc,cb [iJ ((om l lv c).1:Int)] 194)::L:=by
 have hn:=hA.1;have mX:=hA.2.1;have oR:=hA.2.2.1;refine jv (fn:=f181) jl func181 V Z ntmps181 Z (rs:=[.tmp 6]) Z [(0,_),(1,_),(2,_)] Z<|qP ?_;refine lw (γ:=Nat×Nat) (λg=>[(0,_),(2,_),(6,_),(14,_),(15,_),(16,iJ (g.1:Int))]) (λg=>(bc,cb [iJ (g.2:Int)] 194)::L) (λg tw=>Le D s tw/\(g.1<=n/\g.2<=2000/\om l lv c=om (l.drop g.1) lv g.2)) (λg=>n - g.1) (λ_ _ _ h hl=>⟨h.1.trans hl,h.2⟩) (0,c) (.c6 Z Z Z Z Z Z (.nil _)) Z ⟨Le.refl _,⟨aB _,hc,Z⟩⟩ ?_;intro g s1 I1;obtain ⟨k,ck⟩:=g;obtain ⟨kh,AS,hS⟩:=I1.2;simp only at kh AS hS;dsimp only;refine J6 ?_ ?_<;>intro c2
 .have hk:k < n:=by omega
  obtain ⟨e,b,off,x,A',n',c',hd,rfl,hx,hcx,hax,oh,kK⟩:=j9.at_ Pz hk;have hn':=hax.1;refine G6 ?_;refine iI (jR Y6 hk) Z<|iI (kq Y3 Pz Z) Z<|jp Z [_,_,_,_,_] Y2 λβ3 s3 h3=>Wt 0 [_,_,_,_,_] Y9<|G7 ?_;refine Jc Y3 (ZD D L _ bc ck lv AS) ?_;rintro _ _ s4 h4 ⟨rfl,rfl⟩;refine G3 ?_;refine lD Z ?_ ?_<;>intro c5
  .have g4:16 < lv\/2000 < ck+1:=by have:=c5;omega
   have hE:uL x lv ck=(ck+1,2):=by rw [Kp,aw g4]
   exact Vn
  have g4:¬ (16 < lv\/2000 < ck+1):=by have:=c5;omega
  refine G3 ?_;refine rm 36 (x.kind < 1\/7 < x.kind\/¬ ¬ ((x.kind=6/\(x.op < 1\/3 < x.op))\/(x.kind=7/\(x.op < 4\/21 < x.op)))) ?_ ?_
  .refine G5 ?_;refine kT (t:=27) Z ?_ ?_<;>intro c7;.refine lF ?_;exact Gq
   refine G8 ?_;refine kT (t:=32) Z ?_ ?_<;>intro c8;.exact Vu
   refine Zg Z Z<|iI (jh 0 [_,_,_,_,_] Y5) Z<|Zg Z Z<|Je Y3 (qAK D _ _ x A' n' c') λs9 h9=>G4 ?_;refine jd (kE.mk h9 Sb Z (EO O))
  intro s6 h6;refine mE Z ?_ ?_<;>intro my
  .have hx5:=qIK hn' my;have hE:uL x lv ck=(ck+1,5):=by rw [Kp,am g4,aw (by rw [hx5];decide),hx5]
   exact Vn
  have g5:=my;refine G2 ?_;refine rm 9 (2<=x.kind/\x.kind<=4) ?_ ?_
  .refine G5 ?_;refine kT (t:=40) Z ?_ ?_<;>intro nU;.refine k8 ?_;exact Gq
   refine G8 ?_;refine kT (t:=45) Z ?_ ?_<;>intro oP;.exact VT
   exact Wc
  intro kv jP;refine rm 10 (x.kind=6\/x.kind=7) ?_ ?_
  .refine G5 ?_;refine kT (t:=53) Z ?_ ?_<;>intro ve;.exact VT
   exact Wc
  intro li kz;refine G4 ?_;refine Je Y3 (qqA D _ _ x.kind) λqW qD=>G9 ?_;refine rm 64 ((2<=x.kind/\x.kind<=4)/\oW x.name=false) ?_ ?_
  .refine G3 ?_;refine kT (t:=66) Z ?_ ?_<;>intro xN;.refine G5 ?_;refine Je Y3 (JH D _ _ Pz x.name) λym uh=>G5 ?_;refine jd (kE.mk uh Sb Z ((qx2 As)))
   refine G7 ?_;refine jd (kE.mk (Lr D) Sb Z ((bQ (λh=>absurd h.1 As)).symm))
  intro tE qR;refine mE Z ?_ ?_<;>intro zz
  .have hx7:=qIM hn' g5 zz;have hE:uL x lv ck=(ck+1,7):=by rw [Kp,am g4,aw (by rw [hx7];decide),hx7]
   exact VW
  have g7:=zz;refine Di (γ:=Unit) (λ_=>[(72,.bool (decide ((¬ (2<=x.kind/\x.kind<=4)/\x.name≠[])\/(x.kind≠1/\x.num≠0)\/(¬ (x.kind=6\/x.kind=7)/\x.op≠0)\/n' < tu x.kind\/uV x.kind < n')))]) [_,_] Z (λg=>L) (λg tw=>True) (λ_ _ _ h hl=>h) ?_ ?_
  .refine G5 ?_;refine tt (t:=75) Z ?_ ?_<;>intro c21
   .refine G5 ?_;refine Jn Z Z Z<|G4 ?_;refine lD Z ?_ ?_<;>intro c22;.exact zq
    refine G5 ?_;refine tt (t:=82) Z ?_ ?_<;>intro c23
    .refine lF ?_;refine lD Z ?_ ?_<;>intro c24;.exact zq
     refine G6 ?_;refine tt (t:=90) Z ?_ ?_<;>intro zB
     .refine lF ?_;refine lD Z ?_ ?_<;>intro c26;.exact zq
      refine sA ?_ ?_<;>intro c27;.exact zq
      exact Oo
     refine Cl ?_ ?_<;>intro c26;.exact zq
     exact Oo
    refine qP ?_;exact Hs
   refine mn ?_;refine jY Y2 ?_;refine tt (t:=82) Z ?_ ?_<;>intro c22
   .refine lF ?_;refine lD Z ?_ ?_<;>intro c23;.exact zq
    refine G6 ?_;exact Hs
   refine qP ?_;refine tt (t:=90) Z ?_ ?_<;>intro c23
   .refine lF ?_;refine lD Z ?_ ?_<;>intro c24;.exfalso;omega
    exfalso;omega
   refine Cl ?_ ?_<;>intro c24;.exfalso;omega
   exfalso;omega
  intro g vN rQ I20;simp only [iU,iV];refine mE Z ?_ ?_<;>intro zB
  .have hx6:=qIL hn' g5 g7 zB;have hE:uL x lv ck=(ck+1,6):=by rw [Kp,am g4,aw (by rw [hx6];decide),hx6]
   exact VW
  have hE:uL x lv ck=om x.args (lv+1) (ck+1):=by rw [Kp,am g4,am (by rw [qIJ hn' g5 g7 zB];decide)]
  refine G9 ?_;refine iI (nD Z Z (show IntKind.i64.wrap ((lv:Int)+1)=((lv+1:Nat):Int) by rw [jB O O];simp)) Z<|Jc Y3 ((ih e hd).swap L _ Pz _ bc (ck+1) (lv+1) A' n' c' x.args Pz O O) ?_;rintro _ _ BE AJ ⟨rfl,rfl⟩;refine G9 ?_;refine lD Z ?_ ?_<;>intro c27;.have g0:=c27;refine mn ?_;refine rR [_] _ (.t1 Z) Z Lc λ_ iL=>?_;rw [hS,SS hx,hE,aw g0];exact ⟨rfl,rfl⟩
  have g0:=c27;refine G4 ?_;refine ki Y3 (jB O O)<|G2 ?_;refine jd ⟨(k+1,(om x.args (lv+1) (ck+1)).1),[_],kp,Z,⟨Lc,⟨by simp only;omega,by simp only;have hw:=Ke x.args (lv+1) (ck+1) g0;rw [hw.2.1];rcases hw.2.2 with h|h<;>omega,by simp only;rw [hS,SS hx,hE,am (by rw [g0];decide)]⟩⟩,Oz⟩
 rw [aK O,om] at hS;exact VM
def Vf{D:Nat}:∀ d,LP D d
 | 0=>λL s hG bc c lv A n cc l hA hc nZ=>X0 0 (λe h=>by omega) L s hG bc c lv A n cc l hA hc nZ
 | d+1=>λL s hG bc c lv A n cc l hA hc nZ=>X0 (d+1) (λe h=>(show d=e by omega)▸Vf d) L s hG bc c lv A n cc l hA hc nZ
def Gj(x:jb)(lv c:Nat):tY x lv c=if 16 < lv\/2000 < c+1 then (c+1,2) else if tX x.kind x.name x.exprs.length x.body.length x.els.length≠0 then (c+1,tX x.kind x.name x.exprs.length x.body.length x.els.length)
  else if (om x.exprs 1 (c+1)).2≠0 then om x.exprs 1 (c+1) else if (nE x.body (lv+1) (om x.exprs 1 (c+1)).1).2≠0 then nE x.body (lv+1) (om x.exprs 1 (c+1)).1 else nE x.els (lv+1) (nE x.body (lv+1) (om x.exprs 1 (c+1)).1).1:=by
 cases x;rfl
def Kd{l:List jb}{k:Nat}(h:l[k]?=some x)(lv c:Nat):nE (l.drop k) lv c=if (tY x lv c).2≠0 then tY x lv c else nE (l.drop (k+1)) lv (tY x lv c).1:=by
 obtain ⟨hk,rfl⟩:=al.1 h;rw [aL hk,nE]
def CV(x:jb)(lv c:Nat)(j:Nat):Nat×Int:=if j=0 then (if (nE x.body (lv+1) c).2≠0 then nE x.body (lv+1) c else nE x.els (lv+1) (nE x.body (lv+1) c).1) else if j=1 then nE x.els (lv+1) c else (c,0)
section
variable{n1 n2 n3:Nat}(lX:n1=x.exprs.length)(oB:n2=x.body.length)(xW:n3=x.els.length)
def qJv(h:x.kind < 1\/10 < x.kind):tX x.kind x.name a b c=5:=by rw [tX,aw h]
variable(g5:¬ (x.kind < 1\/10 < x.kind))
include g5
theorem qJx(h:BZ x.kind=true/\oW x.name=false):tX x.kind x.name a b c=7:=by rw [tX,am g5,aw h]
variable(g7:¬ (BZ x.kind=true/\oW x.name=false))
include g7 lX oB xW
theorem qJw(h:(BZ x.kind=false/\x.name≠[])\/(¬ (x.kind=3\/x.kind=4)/\0 < n2)\/(¬ x.kind=3/\0 < n3)\/n1 < wG x.kind\/zl x.kind < n1):tX x.kind x.name x.exprs.length x.body.length x.els.length=6:=by
 rw [tX,am g5,am g7,aw];rcases h with h|h|h|h|h
 . exact .inl h
 . exact .inr (.inr (.inr (.inl ⟨by omega,by omega,by omega⟩)))
 . exact .inr (.inr (.inr (.inr ⟨by omega,by omega⟩)))
 . exact .inr (.inl O)
 . exact .inr (.inr (.inl O))
theorem qJu(h:¬ ((BZ x.kind=false/\x.name≠[])\/(¬ (x.kind=3\/x.kind=4)/\0 < n2)\/(¬ x.kind=3/\0 < n3)\/n1 < wG x.kind\/zl x.kind < n1)):tX x.kind x.name x.exprs.length x.body.length x.els.length=0:=by
 rw [tX,am g5,am g7,am];intro k;refine h ?_;rcases k with k|k|k|k|k
 . exact .inl k
 . exact .inr (.inr (.inr (.inl O)))
 . exact .inr (.inr (.inr (.inr O)))
 . exact .inr (.inl ⟨by omega,by omega⟩)
 . exact .inr (.inr (.inl ⟨by omega,by omega⟩))
end
def LO(D d:Nat):Prop:=∀ (L:Hl) (s:World),GP s->∀ (bc c lv:Nat) (A:OAdr9) (n cc:Nat) (l:List jb),jz d s A n cc l->c<=2000->lv<=17->Ap9 D 135 [jc bc,.slice A n cc,iJ (lv:Int)] ((bc,cb [iJ (c:Int)] 194)::L) s λv L' _=>v=iJ (nE l lv c).2/\L'=(bc,cb [iJ ((nE l lv c).1:Int)] 194)::L
def LO.swap{D:Nat}(h:LO D d)(L:Hl)(s:World)(hG:GP s)(y:Nat×Obj)(bc c lv:Nat)(A:OAdr9)(n cc:Nat)(l:List jb)(hA:jz d s A n cc l)(hc:c<=2000)(nZ:lv<=17):Ap9 D 135 [jc bc,.slice A n cc,iJ (lv:Int)] (y::(bc,cb [iJ (c:Int)] 194)::L) s λv L' _=>v=iJ (nE l lv c).2/\L'=y::(bc,cb [iJ ((nE l lv c).1:Int)] 194)::L:=
 AC.perm (List.Perm.swap ..) (h (y::L) s hG bc c lv A n cc l hA hc nZ) λv L1 s1 ⟨g0,h1⟩=>⟨_,by rw [h1];exact List.Perm.swap ..,g0,rfl⟩
def Qz(x:jb)(lv c:Nat):CV x lv c 0=if (nE x.body (lv+1) c).2≠0 then nE x.body (lv+1) c else CV x lv (nE x.body (lv+1) c).1 1:=rfl
def XC(x:jb)(lv c:Nat):CV x lv c 1=nE x.els (lv+1) c:=rfl
def XD(x:jb)(lv c:Nat):CV x lv c 2=(c,0):=rfl
def qyq(h:(nE x.els (lv+1) c).2=0):CV x lv c 1=CV x lv (nE x.els (lv+1) c).1 2:=by rw [XC,XD,<- h]
def GL{p:Prop} (h:p:=by
 rw [hS,Kd hx,hE,aw (by simp;done)];exact ⟨rfl,rfl⟩):p:=h
def Vo{p:Prop} (h:p:=by
 refine mn ?_;exact rR [_] _ (.t1 Z) Z Lc λ_ iL=>GL):p:=h
def VX{p:Prop} (h:p:=by
 refine mn ?_;refine Zu ?_;exact rR [_] _ (.t1 Z) Z Lc λ_ iL=>GL):p:=h
def Ic{p:Prop} (h:p:=by
  refine mE Z ?_ ?_<;>intro xN;.refine Zk ?_;refine jd (lR.mk () [] (Lr D) (.cons Kb (.nil _)) So Pr Tt)
  refine G8 ?_;refine jd (lR.mk () [] (Lr D) (.cons Kb (.nil _)) So Pr Tt)):p:=h
def HF{p:Prop} (h:p:=by
  refine vT ?_ ?_<;>intro xN;.refine Zk ?_;refine jd (lR.mk () [] (Lr D) (.cons Kb (.nil _)) So Pr Tt)
  refine sA ?_ ?_<;>intro zz;.refine Zk ?_;refine jd (lR.mk () [] (Lr D) (.cons Kb (.nil _)) So Pr Tt)
  refine G8 ?_;refine jd (lR.mk () [] (Lr D) (.cons Kb (.nil _)) So Pr Tt)):p:=h
theorem YD{D:Nat}(d:Nat)(ih:∀ e,d=e+1->LO D e)(L:Hl)(s:World)(hG:GP s)(bc c lv:Nat)(A:OAdr9)(n cc:Nat)(l:List jb)(hA:jz d s A n cc l)(hc:c<=2000)(nZ:lv<=17):Ap9 D 135 [jc bc,.slice A n cc,iJ (lv:Int)] ((bc,cb [iJ (c:Int)] 194)::L) s λv L' _=>v=iJ (nE l lv c).2/\L'=(bc,cb [iJ ((nE l lv c).1:Int)] 194)::L:=by
 have hn:=hA.1;have mX:=hA.2.1;have oR:=hA.2.2.1;refine jv (fn:=f135) jl func135 V Z ntmps135 Z (rs:=[.tmp 6]) Z [(0,_),(1,_),(2,_)] Z<|qP ?_;refine lw (γ:=Nat×Nat) (λg=>[(0,_),(2,_),(6,_),(18,_),(19,_),(20,iJ (g.1:Int))]) (λg=>(bc,cb [iJ (g.2:Int)] 194)::L) (λg tw=>Le D s tw/\(g.1<=n/\g.2<=2000/\nE l lv c=nE (l.drop g.1) lv g.2)) (λg=>n - g.1) (λ_ _ _ h hl=>⟨h.1.trans hl,h.2⟩) (0,c) (.c6 Z Z Z Z Z Z (.nil _)) Z ⟨Le.refl _,⟨aB _,hc,Z⟩⟩ ?_;intro g s1 I1;obtain ⟨k,ck⟩:=g;obtain ⟨kh,AS,hS⟩:=I1.2;simp only at kh AS hS;dsimp only;refine J6 ?_ ?_<;>intro c2
 .have hk:k < n:=by omega
  obtain ⟨e,b,off,x,A1,n1,c1,A2,n2,c2,A3,n3,c3,hd,rfl,hx,hcx,hax,rE,hex,kK⟩:=jz.at_ Pz hk;have lX:=hax.1;have oB:=rE.1;have xW:=hex.1;refine G6 ?_;refine iI (jR Y6 hk) Z<|iI (kq Y3 Pz Z) Z<|jp Z [_,_,_,_,_] Y2 λβ3 s3 h3=>Wt 0 [_,_,_,_,_] Y9<|G7 ?_;refine Jc Y3 (ZD D L _ bc ck lv AS) ?_;rintro _ _ s4 h4 ⟨rfl,rfl⟩;refine G3 ?_;refine lD Z ?_ ?_<;>intro c5
  .have g4:16 < lv\/2000 < ck+1:=by have:=c5;omega
   have hE:tY x lv ck=(ck+1,2):=by rw [Gj,aw g4]
   exact Vo
  have g4:¬ (16 < lv\/2000 < ck+1):=by have:=c5;omega
  refine G3 ?_;refine rm 35 (x.kind < 1\/10 < x.kind) ?_ ?_
  .refine G5 ?_;refine kT (t:=31) Z ?_ ?_<;>intro c7;.exact Vu
   refine G8 ?_;refine jd (kE.mk (Lr D) Sb Z (bJ.2 O))
  intro s6 h6;refine mE Z ?_ ?_<;>intro c8
  .have hx5:=qJv (x:=x) (a:=x.exprs.length) (b:=x.body.length) (c:=x.els.length) c8;have hE:tY x lv ck=(ck+1,5):=by rw [Gj,am g4,aw (by rw [hx5];decide),hx5]
   exact Vo
  have g5:=c8;refine G6 ?_;refine Je Y3 (qse D _ _ x.kind O O) λs9 h9=>wN ?_;refine rm 45 (BZ x.kind=true/\oW x.name=false) ?_ ?_
  .refine G3 ?_;refine F9 (t:=47) Z ?_ ?_<;>intro mN;.refine G5 ?_;refine Je Y3 (JH D _ _ Pz x.name) λkc jL=>G5 ?_;refine jd (kE.mk jL Sb Z ((qx2 As)))
   refine G7 ?_;refine jd (kE.mk (Lr D) Sb Z ((bQ (λh=>absurd h.1 (by simp [*]))).symm))
  intro ku jN;refine mE Z ?_ ?_<;>intro nU
  .have hx7:=qJx (a:=x.exprs.length) (b:=x.body.length) (c:=x.els.length) g5 nU;have hE:tY x lv ck=(ck+1,7):=by rw [Gj,am g4,aw (by rw [hx7];decide),hx7]
   exact VX
  have g7:=nU;refine Di (γ:=Unit) (λ_=>[(53,.bool (decide ((BZ x.kind=false/\x.name≠[])\/(¬ (x.kind=3\/x.kind=4)/\0 < n2)\/(¬ x.kind=3/\0 < n3)\/n1 < wG x.kind\/zl x.kind < n1)))]) [_,_] Z (λg=>L) (λg tw=>True) (λ_ _ _ h hl=>h) ?_ ?_
  .refine G5 ?_;refine EL (t:=56) Z ?_ ?_<;>intro rO
   .refine G5 ?_;refine Jn Z Z Z<|G4 ?_;refine lD Z ?_ ?_<;>intro ve;.exact zq
    refine G5 ?_;refine tt (t:=63) Z ?_ ?_<;>intro c16
    .refine vT ?_ ?_<;>intro yE;.exact zq
     refine G5 ?_;refine tt (t:=71) Z ?_ ?_<;>intro xN
     .refine vT ?_ ?_<;>intro zz;.exact zq
      refine sA ?_ ?_<;>intro c20;.exact zq
      exact Oo
     refine Ps ?_ ?_<;>intro zz;.exfalso;omega
     exfalso;omega
    refine qP ?_;refine tt (t:=71) Z ?_ ?_<;>intro yE;.exact HF
    refine zx ?_;exact Ic
   refine mn ?_;refine jY Y2 ?_;refine tt (t:=63) Z ?_ ?_<;>intro ve
   .refine vT ?_ ?_<;>intro c16;.exact zq
    refine G5 ?_;refine tt (t:=71) Z ?_ ?_<;>intro yE;.exact HF
    refine Ps ?_ ?_<;>intro xN;.exfalso;omega
    exfalso;omega
   refine qP ?_;refine tt (t:=71) Z ?_ ?_<;>intro c16
   .refine vT ?_ ?_<;>intro yE;.exact zq
    refine lF ?_;exact Ic
   refine Ps ?_ ?_<;>intro yE;.exact zq
   exact Oo
  intro g kY kN I13;simp only [iU,iV];refine mE Z ?_ ?_<;>intro xN
  .have hx6:=qJw lX oB xW g5 g7 xN;have hE:tY x lv ck=(ck+1,6):=by rw [Gj,am g4,aw (by rw [hx6];decide),hx6]
   exact VX
  have hx0:=qJu lX oB xW g5 g7 xN;refine G9 ?_;refine Jc Y3 ((Vf e).swap L _ Pz _ bc (ck+1) 1 A1 n1 c1 x.exprs Pz O O) ?_;rintro _ _ ym uh ⟨rfl,rfl⟩;refine G9 ?_;refine lD Z ?_ ?_<;>intro c20
  .have g0:=c20;have hE:tY x lv ck=om x.exprs 1 (ck+1):=by rw [Gj,am g4,am (by rw [hx0];decide),aw g0]
   refine mn ?_;refine Zu ?_;refine rR [_] _ (.t1 Z) Z Lc λ_ iL=>?_;rw [hS,Kd hx,hE,aw g0];exact ⟨rfl,rfl⟩
  have g0:=c20;have hE:tY x lv ck=CV x lv (om x.exprs 1 (ck+1)).1 0:=by rw [Gj,am g4,am (by rw [hx0];decide),am (by simpa using g0)];rfl
  have ut:=Ke x.exprs 1 (ck+1) g0;have hcx0:(om x.exprs 1 (ck+1)).1<=2000:=by rw [ut.2.1];rcases ut.2.2 with h|h<;>omega
  refine G8 ?_;refine kF [(_,_),(_,_)] [_,_] Y9 λβp xJ wt hcp=>G5 ?_;refine Cz [_] (γ:=Nat×Nat) (λg=>[(0,_),(2,_),(6,_),(18,_),(19,_),(20,_),(98,_),(99,_),(100,iJ (g.1:Int))]) (λg=>(bc,cb [iJ (g.2:Int)] 194)::L) (λg tw=>Le D xJ tw/\(g.1<=2/\g.2<=2000/\CV x lv (om x.exprs 1 (ck+1)).1 0=CV x lv g.2 g.1)) (λg=>2 - g.1) (λ_ _ _ h hl=>⟨h.1.trans hl,h.2⟩) (0,(om x.exprs 1 (ck+1)).1) (.c6 Z Z Z Z Z Z (.c3 Z Z Z (.nil _))) Z ⟨Le.refl _,⟨aB _,hcx0,Z⟩⟩ ?_;intro g BC I22;simp only [iU,iV];obtain ⟨j,cj⟩:=g;obtain ⟨oA,hcj,hP⟩:=I22.2;simp only at oA hcj hP;dsimp only;refine J6 ?_ ?_<;>intro c23
  .have hj2:j < 2:=by omega
   refine G5 ?_;rcases (show j=0\/j=1 by omega) with rfl|rfl
   .refine Zr<|iI (ly Y6 O) Z<|iI (jW Y3 Pz Z) Z<|G8 ?_;refine iI (nD Z Z (show IntKind.i64.wrap ((lv:Int)+1)=((lv+1:Nat):Int) by rw [jB O O];simp)) Z<|Jc Y3 ((ih e hd).swap L _ Pz _ bc cj (lv+1) A2 n2 c2 x.body Pz hcj O) ?_;rintro _ _ Am yK ⟨rfl,rfl⟩;refine G9 ?_;refine lD Z ?_ ?_<;>intro zB;.have hz:=zB;refine CX ?_;refine rR [_] _ (.t1 Z) Z Lc λ_ iL=>?_;rw [hS,Kd hx,hE,hP,Qz,aw hz,aw hz];exact ⟨rfl,rfl⟩
    have hz:=zB;refine G4 ?_;refine ki Y3 (jB O O)<|G2 ?_;refine jd ⟨(1,(nE x.body (lv+1) cj).1),[],kp,Z,⟨Lc,by first|exact ⟨by simp only;omega,by simp only;have hw:=Dh x.body (lv+1) cj hz;rw [hw.2.1];rcases hw.2.2 with h|h<;>omega,by simp only;rw [hP,Qz,am (by rw [hz];decide)]⟩|exact ⟨by simp only;omega,by simp only;have hw:=Dh x.els (lv+1) cj hz;rw [hw.2.1];rcases hw.2.2 with h|h<;>omega,by simp only;rw [hP,qyq hz]⟩⟩,Oz⟩
   refine Zr<|iI (ly Y6 O) Z<|iI (nh 1 Y3 Pz Z) Z<|G8 ?_;refine iI (nD Z Z (show IntKind.i64.wrap ((lv:Int)+1)=((lv+1:Nat):Int) by rw [jB O O];simp)) Z<|Jc Y3 ((ih e hd).swap L _ Pz _ bc cj (lv+1) A3 n3 c3 x.els Pz hcj O) ?_;rintro _ _ Am yK ⟨rfl,rfl⟩;refine G9 ?_;refine lD Z ?_ ?_<;>intro zB;.have hz:=zB;refine CX ?_;refine rR [_] _ (.t1 Z) Z Lc λ_ iL=>?_;rw [hS,Kd hx,hE,hP,XC,aw hz];exact ⟨rfl,rfl⟩
   have hz:=zB;refine G4 ?_;refine ki Y3 (jB O O)<|G2 ?_;refine jd ⟨(2,(nE x.els (lv+1) cj).1),[],kp,Z,⟨Lc,by first|exact ⟨by simp only;omega,by simp only;have hw:=Dh x.body (lv+1) cj hz;rw [hw.2.1];rcases hw.2.2 with h|h<;>omega,by simp only;rw [hP,Qz,am (by rw [hz];decide)]⟩|exact ⟨by simp only;omega,by simp only;have hw:=Dh x.els (lv+1) cj hz;rw [hw.2.1];rcases hw.2.2 with h|h<;>omega,by simp only;rw [hP,qyq hz]⟩⟩,Oz⟩
  obtain rfl:j=2:=by omega
  rw [XD] at hP;refine G7 ?_;refine ki Y3 (jB O O)<|G2 ?_;refine jd ⟨(k+1,cj),[_],kp,Z,⟨Lc,⟨by simp only;omega,hcj,by simp only;rw [hS,Kd hx,hE,hP,am (by simp)]⟩⟩,Oz⟩
 rw [aK O,nE] at hS;exact VM
def Vd{D:Nat}:∀ d,LO D d
 | 0=>λL s hG bc c lv A n cc l hA hc nZ=>YD 0 (λe h=>by omega) L s hG bc c lv A n cc l hA hc nZ
 | d+1=>λL s hG bc c lv A n cc l hA hc nZ=>YD (d+1) (λe h=>(show d=e by omega)▸Vd d) L s hG bc c lv A n cc l hA hc nZ
end
section
section
variable{TT:kG}{fr:Fr}
def EP{c:Code}{L L':Hl}(hp:L.Perm L')(h:JC P TT D n Q c fr L' s):JC P TT D n Q c fr L s:=λht a hr ho=>by
 rw [tr hp _ ho];exact h ht a hr (ho.perm hp)
def qru(h:xs[k]?=some v):nth (xs++ys) (0+k)=some v:=by
 rw [uU,aZ,aR (al.1 h).1,h]
def qBI{k:Nat}(v:Value)(h:k < xs.length):oO (xs++ys) (0+k) [v]=xs.set k v++ys:=by
 rw [aZ];induction xs generalizing k with
 | nil=>cases h
 | cons x xs ih=>
  cases k with
  | zero=>simp [oO]
  | succ k=>
   have:=ih (k:=k) Q4;simp only [ao,oO,dN] at this ⊢;rw [this]
def YJ{A:Hl}(h:Own e 1 A v n xs)(h0:0 < n):∃ b cap ys,A=[(b,cb (xs++ys) e)]/\v=.slice (j6 b) n cap/\xs.length=n/\xs.length+ys.length=cap/\cap<=9223372036854775807:=by
 cases h with
 | nil=>cases h0
 | blk b cap n xs ys hn hc rh hm=>exact ⟨b,cap,ys,rfl,rfl,by simpa using hn,by simpa using hc,hm⟩
end
end
section
def Sy:∀ {l:List Ex},(∀ x∈l,oM x=true)->qO l=true
 | [],_=>rfl
 | x::r,h=>by simp only [qO,h x Mc,Sy λy hy=>h y (aq _ hy),iu]
def Nz:∀ {l:List jb},(∀ x∈l,zu x=true)->qk l=true
 | [],_=>rfl
 | x::r,h=>by simp only [qk,h x Mc,Nz λy hy=>h y (aq _ hy),iu]
def Sl.all{α:Type}{sz:Nat}{R:World->α->LVal9->Prop}{l:List α}{p:α->Prop}(h:Sl sz R s A n c l)(hR:∀ x cs,R s x cs->p x):∀ x∈l,p x:=λx hx=>by
 obtain ⟨i,hi⟩:=bC hx;obtain ⟨_,_,_,_,_,_,h4⟩:=h.2.2.2 i x hi;exact hR _ _ h4
def yz.u:∀ {d:Nat} {x:Ex} {cs:LVal9},yz d s x cs->oM x=true
 | 0,_,_,h=>h.elim
 | d+1,.mk k o n nm az,_,⟨A,m,c,_,h2,h3,_⟩=>by
  have h:=Sy (Sl.all (p:=λx=>oM x=true) h2 λx cs hx=>yz.u hx);have h':qO az=true:=h;simp only [oM,h',dC,aF];exact h3
def j9.u{l:List Ex}(h:j9 d s A n c l):qO l=true:=Sy (Sl.all (p:=λx=>oM x=true) h λx cs hx=>yz.u hx)
def vW.u:∀ {d:Nat} {x:jb} {cs:LVal9},vW d s x cs->zu x=true
 | 0,_,_,h=>h.elim
 | d+1,.mk k nm es b e,_,⟨A1,n1,c1,A2,n2,c2,A3,n3,c3,_,h2,h3,h4,_⟩=>by
  have h:=Nz (Sl.all (p:=λx=>zu x=true) h3 λx cs hx=>vW.u hx);have h':qk b=true:=h;have k:=Nz (Sl.all (p:=λx=>zu x=true) h4 λx cs hx=>vW.u hx);have k':qk e=true:=k;have g:qO es=true:=j9.u h2;simp only [zu,g,h',k',iu]
def jz.u{l:List jb}(h:jz d s A n c l):qk l=true:=Nz (Sl.all (p:=λx=>zu x=true) h λx cs hx=>vW.u hx)
def vC:∀ {l:List Ex} {k:Nat} {y:Ex},o5 l=true->l[k]?=some y->nN y=true/\ns y<=ln l
 | [],_,_,_,h=>by cases h
 | x::r,0,y,hv,h=>by
  simp at h;subst h;simp only [o5,aA] at hv;exact ⟨hv.1,by rw [ln];omega⟩
 | x::r,k+1,y,hv,h=>by
  simp only [o5,aA] at hv;have:=vC hv.2 (show r[k]?=some y by simpa using h);exact ⟨this.1,by rw [ln];omega⟩
def Bm{k n:Int}(h:qn k o n nm na=0):1<=k/\k<=7/\tu k<=na/\na<=uV k/\(k=6->1<=o/\o<=3)/\(k=7->4<=o/\o<=21):=by
 unfold qn at h;split at h
 . cases h
 rename_i h1;split at h
 . cases h
 split at h
 . cases h
 rename_i h3;refine ⟨by omega,by omega,?_,?_,by omega,by omega⟩
 . exact dP λhh=>h3 (.inr (.inr (.inr (.inl hh))))
 . exact dP λhh=>h3 (.inr (.inr (.inr (.inr hh))))
def ze{x:Ex}(h:nN x=true):qn x.kind x.op x.num x.name x.args.length=0/\o5 x.args=true:=by
 cases x with
 | mk k o n nm az=>simp only [nN,aA,aF] at h;exact h
def qFW(x:Ex):ns x=1+ln x.args:=by cases x;rfl
def qxN{x:Ex}(h1:0<=x.num/\x.num < 4294967296)(h2:qO x.args=true):oM x=true:=by
 cases x with
 | mk k o n nm az=>simp only [oM,aA,aF];exact ⟨h1,h2⟩
def BY(x:Ex)(out:Int):mU x out=AF x.kind x.op x.num x.name (qN x.args (B4 x.kind x.op)) out:=by cases x;rfl
def R_(l:List Ex):qN l []=l.map λx=>mU x 0:=by
 induction l with
 | nil=>rfl
 | cons x r ih=>simp only [qN,List.headD_nil,List.tail_nil,aS,ih]
theorem SQ(o:Int):1<=va o/\va o<=5:=by grind [va]
section
variable{x y:Ex}
def qIO(h:x.kind=1):mU x 0=o4 x.num:=by rw [BY,AF,aw h]
def qIP(h:x.kind=2):mU x 0=x.name:=by rw [BY,AF,h];rfl
def ON{α:Type}{l:List α}{y:α}(hl:l.length=1)(h:l[0]?=some y):l=[y]:=by
 match l,hl,h with
 | [a],_,h=>simp at h;rw [h]
def Xz{α:Type}{l:List α}{y z:α}(hl:l.length=2)(h:l[0]?=some y)(h1:l[1]?=some z):l=[y,z]:=by
 match l,hl,h,h1 with
 | [a,b],_,h,h1=>simp at h h1;rw [h,h1]
def qIQ(h:x.kind=3)(hl:x.args.length=1)(hy:x.args[0]?=some y):mU x 0=x.name++[91]++mU y 0++[93]:=by
 rw [BY,ON hl hy,h];rfl
def qIR(h:x.kind=4):mU x 0=x.name++[40]++qu (qN x.args [])++[41]:=by
 rw [BY,h];rfl
def qIS(h:x.kind=5):mU x 0=[103,101,116]:=by rw [BY,AF,h];rfl
def qIT(h:x.kind=6)(hl:x.args.length=1)(hy:x.args[0]?=some y):mU x 0=BA x.op++mU y 9:=by
 rw [BY,ON hl hy,h];rfl
def qIU(h:x.kind=7)(hl:x.args.length=2)(hy:x.args[0]?=some y)(hz:x.args[1]?=some z):mU x 0=mU y (va x.op)++[32]++BA x.op++[32]++mU z (va x.op+1):=by
 have:=SQ x.op;rw [BY,Xz hl hy hz,h];show (if va x.op < 0 then _ else _)=_;rw [am O];rfl
def qAk(h1:1<=x.kind)(h7:x.kind<=7)(out:Int):mU x out=if x.kind=7/\va x.op < out then [40]++mU x 0++[41] else mU x 0:=by
  have hs:=SQ x.op;by_cases h:x.kind=7
  . have e:∀ q,mU x q=if va x.op < q then [40]++((qN x.args (B4 x.kind x.op)).getD 0 []++[32]++BA x.op++[32]++(qN x.args (B4 x.kind x.op)).getD 1 [])++[41] else (qN x.args (B4 x.kind x.op)).getD 0 []++[32]++BA x.op++[32]++(qN x.args (B4 x.kind x.op)).getD 1 []:=λq=>by
      rw [BY,AF,am O,am O,am O,am O,am O,am O]
    rw [e out,e 0,am (show ¬ va x.op < 0 by omega)];by_cases ho:va x.op < out
    . rw [aw ho,aw ⟨h,ho⟩]
    . rw [am ho,am (λk=>ho k.2)]
  . rw [am (λk=>h k.1),BY,BY]
    unfold AF;repeat' split
    all_goals (first|rfl|omega)
end
def qjV(n:Nat):Lib.repeatL [32,32] n=oH n:=by
 induction n with
 | zero=>rfl
 | succ n ih=>
  have:∀ n,oH n++[32,32]=[32,32]++oH n:=λn=>by
   induction n with
   | zero=>rfl
   | succ n ih=>rw [oH,ih,an,ih]
  have:oH (n+1)=[32,32]++oH n:=this n;rw [this,<- ih];rfl
end
def qpB{TT:kG}{fr:Fr}{x:Operand}{t:Nat}{m:Nat}{ti:TI}(hx:lk fr x=some (.slice A m c))(ht:jH TT t=some ti)(hk:ti.kind=.sl e):QE P TT D fr (.call { callee:=.builtin .cap,args:=#[x],argTypes:=#[t] }) ty K s0 (iJ (c:Int)):=
 QE.pure λhT dst iS af g ρ hρ w=>by
  obtain ⟨k1,k2,_⟩:=hT.at_ ht;rw [hk] at k2;simp only [TK.fits] at k2;rw [k2] at k1;simp [execOp,resolve,invoke,builtin,hρ x _ hx,Builtin.cap_,aQ k1,goInt]
section
variable(D:Nat)(L:Hl)(s:World){x:iT}
def qBh{cap:Nat}(h:Own e 1 M v cap xs):∃ A c,v=.slice A cap c/\Own e 1 M (.slice A 0 c) 0 []:=by
 cases h with
 | nil=>exact ⟨none,0,rfl,.nil⟩
 | blk b c n xs ys hn hc rh hm=>exact ⟨_,_,rfl,by
   have:=Own.blk (e:=e) (sz:=1) b c 0 [] (xs++ys) rfl Q20 (aB _) hm;simpa using this⟩
def Dt(a b:List iR):sb (a++b)=sb a++sb b:=by simp [sb]
def iW.row{s:World}{l:List iR}(h:iW s A n c l):Row s A n 1 (sb l):=by
  refine ⟨by simp [sb,h.1],λu hu=>?_,λj u hj=>?_⟩
  . obtain ⟨x,_,rfl⟩:=bh.1 hu;rfl
  . obtain ⟨x,hx,rfl⟩:∃ x,l[j]?=some x/\u=St x:=by
      simp only [sb,db] at hj;cases hl:l[j]? with
      | none=>rw [hl] at hj;cases hj
      | some x=>rw [hl] at hj;injection hj with hj;exact ⟨x,rfl,hj.symm⟩
    obtain ⟨b,off,cs,h1,h2,_,rfl,_⟩:=h.2.2.2 j x hx;exact ⟨b,off,h1,by have:=h2 0 (St x) rfl;simpa using this⟩
def iW.len{s:World}{l:List iR}(h:iW s A n c l):∀ x∈l,x.length<=9223372036854775807:=λx hx=>by
 obtain ⟨j,hj⟩:=bC hx;obtain ⟨_,_,_,_,_,_,_,h5⟩:=h.2.2.2 j x hj;exact h5
attribute [local irreducible] JC JO JA JB lZ mF mM AC fill iH QE Ev mq
def GM{p:Prop} (h:p:=by
 first|exact ⟨M1,Ag,cg,rfl,rfl,o2⟩|exact ⟨[],none,0,rfl,rfl,Own.nil⟩):p:=h
def qu5(m:Nat)(hm:m<=1000000000):Ap9 D 140 [.slice none 0 0,iJ (m:Int)] L s λv L' _=>∃ M A c,L'=M++L/\v=.slice A 0 c/\Own 9 1 M (.slice A 0 c) 0 []:=by
 refine jv (fn:=f140) jl func140 V Z ntmps140 Z (rs:=[.tmp 4]) Z [(0,_),(1,_)] Z<|vT ?_ ?_<;>intro c1;.exfalso;omega
 refine G7 ?_;refine iI (qpB Z Z Z) Z<|G2 ?_;refine iI (rn (c:=(0:Int)) Z Z Z) Z<|iI (rn (c:=((m:Nat):Int)) Z Z Q5) Z<|J9 ?_ ?_<;>intro c2
 .have mC:0 < m:=by omega
  refine G3 ?_;refine iI (qpB Z Z Z) Z<|iI (Gc (j:=0) Z Z Z Z Z (aC _)) Z<|jY Y2<|qpy (sz:=1) (m:=m) (news:=List.replicate m (St [])) [] [] L Z Z Z Z Z Z Z Own.nil (by simp) (λhT w i k1 i1 i2 i3 i4=>ZM m k1 underlying3 i1 i2 i4 Z Z O (by rw [i3];simp [zw];omega)) ⟨by simp [zw];omega,by omega⟩ Z ?_;intro v1 M1 s3 h3 o1 n1;simp only [aZ,aD] at o1;obtain ⟨Ag,cg,rfl,o2⟩:=qBh o1;refine G2 ?_;refine iI (Gc (j:=0) Z Z Z Z Z (aB _)) Z<|lF ?_;exact rR [] _ (.t1 Z) Z h3 λ_ iL=>GM
 have hm0:m=0:=by omega
 refine G9 ?_;exact rR [] _ (.t1 Z) Z (Lr D) λ_ iL=>GM
def qoy(b:Nat)(A1 A2:OAdr9)(n1 c1 n2 c2:Nat)(l1 l2:List iR)(pJ:iW s A1 n1 c1 l1)(kb:iW s A2 n2 c2 l2)(hb:iH s b 0 [.slice A1 n1 c1,.slice A2 n2 c2])(lX:n1<=1000)(oB:n2<=1000):AN9 D 95 [.slice (j6 b) 2 2] L s λv M' s'=>∀ s2,Le D s' s2->mz M' s2->∃ A n c,v=.slice A n c/\iW s2 A n c (l1++l2):=by
 have pT:=pJ.1;have qs:=kb.1;refine jv (fn:=f95) jl func95 V Z ntmps95 Z (rs:=[.tmp 2]) Z [(0,_)] Z<|zx ?_;refine lw (γ:=Nat×Nat) (λg=>[(0,_),(2,_),(3,iJ (g.2:Int)),(9,_),(10,_),(11,iJ (g.1:Int))]) (λg=>L) (λg tw=>Le D s tw/\(g.1<=2/\g.2<=g.1 * 1000)) (λg=>2 - g.1) (λ_ _ _ h hl=>⟨h.1.trans hl,h.2⟩) (0,0) (.c6 Z Z Z Z Z Z (.nil _)) Z ⟨Le.refl _,⟨aB _,aB _⟩⟩ ?_;intro g s1 I1;obtain ⟨j,z⟩:=g;obtain ⟨oA,hz⟩:=I1.2;simp only at oA hz;dsimp only;refine J6 ?_ ?_<;>intro c2
 .have hjj:j < 2:=by omega
  refine G5 ?_;rcases (show j=0\/j=1 by omega) with rfl|rfl
  .refine Zr<|iI (ly Y6 O) Z<|iI (jW Y3 Pz Z) Z<|G8 ?_;refine iI (nD (c:=((z+n1:Nat):Int)) Z Z Q9) Z<|J9 ?_ ?_<;>intro c3;.exfalso;omega
   refine G4 ?_;refine ki Y3 (jB O O)<|G2 ?_;refine jd ⟨(1,z+n1),[],kp,Z,⟨I1.1,⟨by simp only;omega,by simp only;omega⟩⟩,Oz⟩
  refine Zr<|iI (ly Y6 O) Z<|iI (nh 1 Y3 Pz Z) Z<|G8 ?_;refine iI (nD (c:=((z+n2:Nat):Int)) Z Z Q9) Z<|J9 ?_ ?_<;>intro c3;.exfalso;omega
  refine G4 ?_;refine ki Y3 (jB O O)<|G2 ?_;refine jd ⟨(2,z+n2),[],kp,Z,⟨I1.1,⟨by simp only;omega,by simp only;omega⟩⟩,Oz⟩
 obtain rfl:j=2:=by omega
 refine G8 ?_;refine Jc Y3 (qu5 D _ _ z O) ?_;rintro _ _ s3 h3 ⟨Mg,Ag,cg,rfl,rfl,hOg⟩;refine mn ?_;refine lw (γ:=Nat×Value×Hl×List iR) (λg=>[(2,_),(6,g.2.1),(25,_),(26,_),(27,iJ (g.1:Int))]) (λg=>g.2.2.1++L) (λg tw=>Le D s3 tw/\(g.1<=2/\Own 9 1 g.2.2.1 g.2.1 g.2.2.2.length (sb g.2.2.2)/\g.2.2.2=(if g.1=0 then [] else if g.1=1 then l1 else l1++l2))) (λg=>2 - g.1) (λ_ _ _ h hl=>⟨h.1.trans hl,h.2⟩) (0,.slice Ag 0 cg,Mg,[]) (.c5 Z Z Z Z Z (.nil _)) Z ⟨Le.refl _,⟨aB _,hOg,Z⟩⟩ ?_;intro g s4 I4;obtain ⟨j,vo,Mo,out⟩:=g;obtain ⟨oA,hO,r9⟩:=I4.2;simp only at oA hO r9;dsimp only;refine J6 ?_ ?_<;>intro c5
 .have hjj:j < 2:=by omega
  refine G5 ?_;rcases (show j=0\/j=1 by omega) with rfl|rfl
  .obtain rfl:out=[]:=r9;refine Zr<|iI (ly Y6 O) Z<|iI (jW Y3 Pz Z) Z<|G6 ?_;refine rp (sz:=1) [] Mo L Y7 hO (pJ.row.le Lc) ⟨by simp [zw];omega,by (try simp only [ap]);omega⟩ Z ?_;intro vq Mq s6 h6 oq;obtain ⟨Avq,oL,rfl,_,_⟩:=Own.slice oq;simp only [aD];refine G5 ?_;refine ki Y3 (jB O O)<|G2 ?_;refine jd ⟨(1,.slice Avq (0+n1) oL,Mq,l1),[],kp,Z,⟨Lc,by first|exact ⟨by simp only;omega,by have h:=oq;simp only [ap,aZ,sb,dR,aD] at h ⊢;rw [<- pT];exact h,Z⟩|exact ⟨by simp only;omega,by have h:=oq;rw [<- Dt] at h;rw [ac,<- qs];exact h,Z⟩⟩,Oz⟩
  obtain rfl:l1=out:=r9.symm;refine Zr<|iI (ly Y6 O) Z<|iI (nh 1 Y3 Pz Z) Z<|G6 ?_;refine rp (sz:=1) [] Mo L Y7 hO (kb.row.le Lc) ⟨by simp [zw];omega,by (try simp only [ap]);omega⟩ Z ?_;intro vq Mq s6 h6 oq;obtain ⟨Avq,oL,rfl,_,_⟩:=Own.slice oq;simp only [aD];refine G5 ?_;refine ki Y3 (jB O O)<|G2 ?_;refine jd ⟨(2,.slice Avq (l1.length+n2) oL,Mq,l1++l2),[],kp,Z,⟨Lc,by first|exact ⟨by simp only;omega,by have h:=oq;simp only [ap,aZ,sb,dR,aD] at h ⊢;rw [<- pT];exact h,Z⟩|exact ⟨by simp only;omega,by have h:=oq;rw [<- Dt] at h;rw [ac,<- qs];exact h,Z⟩⟩,Oz⟩
 obtain rfl:j=2:=by omega
 obtain rfl:out=l1++l2:=r9;obtain ⟨Ao,co,rfl,_,_⟩:=Own.slice hO;refine mn ?_;exact rR [] _ (.t1 Z) Z Lc λ_ iL=>⟨Mo,rfl,λs2 hs9 hp=>⟨_,_,_,rfl,Own.strs hO (λx hx=>(aU.1 hx).elim (pJ.len x) (kb.len x)) hp rfl⟩⟩
def ZA(A1 A2:OAdr9)(n1 c1 n2 c2:Nat)(l1 l2:List iR)(pJ:iW s A1 n1 c1 l1)(kb:iW s A2 n2 c2 l2)(hb:iH s b 0 [.slice A1 n1 c1,.slice A2 n2 c2])(lX:n1<=1000)(oB:n2<=1000):Ap9 D 95 [.slice (j6 b) 2 2] L s λv L' s'=>L=L'/\∃ A n c,v=.slice A n c/\iW s' A n c (l1++l2):=AC.pubW (qoy D L s b A1 A2 n1 c1 n2 c2 l1 l2 pJ kb hb lX oB)
def qt1(h:oW x.name=false):pO x c=(c,7):=by rw [pO,aw h]
def qt0(h:¬ oW x.name=false)(kb:6 < x.params.length\/12 < x.locals.length):pO x c=(c,2):=by rw [pO,am h,aw kb]
def qAu(h:¬ oW x.name=false)(kb:¬ (6 < x.params.length\/12 < x.locals.length))(hw:(x.params++x.locals)[k]?=some w)(hi:oW w=false):pO x c=(c,7):=by
 rw [pO,am h,am kb,aw];exact fq.2 ⟨w,ay hw,by rw [hi];rfl⟩
def qF4(h:¬ oW x.name=false)(kb:¬ (6 < x.params.length\/12 < x.locals.length))(h3:∀ i w,i < (x.params++x.locals).length->(x.params++x.locals)[i]?=some w->oW w=true):pO x c=nE x.body 1 c:=by
 rw [pO,am h,am kb,am];rw [fq];rintro ⟨w,hw,hb⟩;obtain ⟨i,hi⟩:=bC hw;rw [h3 i w (al.1 hi).1 hi] at hb;cases hb
def qtC(hG:GP s)(bc c d:Nat)(x:iT)(A1 A2 A3:OAdr9)(n1 q1 n2 q2 n3 q3:Nat)(pJ:iW s A1 n1 q1 x.params)(kb:iW s A2 n2 q2 x.locals)(hs3:jz d s A3 n3 q3 x.body)(hc:c<=2000):Ap9 D 90 [jc bc,.agg #[St x.name,.slice A1 n1 q1,.slice A2 n2 q2,.slice A3 n3 q3]] ((bc,cb [iJ (c:Int)] 194)::L) s λv L' _=>v=iJ (pO x c).2/\L'=(bc,cb [iJ ((pO x c).1:Int)] 194)::L:=by
 have pT:=pJ.1;have qs:=kb.1;refine jv (fn:=f90) jl func90 V Z ntmps90 Z (rs:=[.tmp 4]) Z [(0,_),(1,_)] Z<|Sr<|kH Y2 λβ1 s1 h1=>G9 ?_;refine Je Y3 (JH D _ _ Pz x.name) λs2 h2=>G4 ?_;refine vB Z ?_ ?_<;>intro c3;.have uo:=c3;refine G8 ?_;refine rR [_] _ (.t1 Z) Z Lc λ_ iL=>?_;rw [qt1 (by simpa using uo)];exact ⟨rfl,rfl⟩
 have uo:=c3;refine rm 12 (6 < n1\/12 < n2) ?_ ?_
 .refine G6 ?_;refine kT (t:=17) Z ?_ ?_<;>intro c5;.refine G7 ?_;exact Gq
  refine k8 ?_;refine jd (kE.mk (Lr D) Sb Z (bJ.2 O))
 intro s4 h4;refine mE Z ?_ ?_<;>intro c6;.have hmany:=c6;refine G8 ?_;refine rR [_] _ (.t1 Z) Z Lc λ_ iL=>?_;rw [qt0 (by simpa using uo) O];exact ⟨rfl,rfl⟩
 have hmany:=c6;refine lF ?_;refine kF [(_,_),(_,_)] [_,_] Y9 λβp s7 h7 hcp=>Jc Y3 (ZA D _ _ A1 A2 n1 q1 n2 q2 x.params x.locals Pz Pz Pz O O) ?_;rintro _ _ s8 h8 ⟨rfl,Aq,nq,cq,rfl,hQ⟩;have hnq:=hQ.1;have hnq2:=hQ.2.1;have hnq3:=hQ.2.2.1;refine G5 ?_;refine lw (γ:=Nat) (λk=>[(0,_),(3,_),(4,_),(28,_),(29,_),(30,iJ (k:Int))]) (λk=>_::(bc,cb [iJ (c:Int)] 194)::L) (λk tw=>Le D s8 tw/\(k<=nq/\∀ i w,i < k->(x.params++x.locals)[i]?=some w->oW w=true)) (λk=>nq - k) (λ_ _ _ h hl=>⟨h.1.trans hl,h.2⟩) 0 (.c6 Z Z Z Z Z Z (.nil _)) Z ⟨Le.refl _,⟨aB _,λi w hi=>by omega⟩⟩ ?_;intro k s9 I9;have kh:=I9.2.1;have hI:=I9.2.2;refine J6 ?_ ?_<;>intro my
 .have hk:k < nq:=by omega
  obtain ⟨b,off,w,rfl,hw,hcw,_⟩:=iW.at_ Pz hk;refine G6 ?_;refine iI (ly Y6 hk) Z<|iI (jW Y3 Pz Z) Z<|G6 ?_;refine Je Y3 (JH D _ _ Pz w) λkv jP=>G3 ?_;refine vB Z ?_ ?_<;>intro nU;.have hid:=nU;refine k8 ?_;refine rR [_] _ (.t1 Z) Z Lc λ_ iL=>?_;rw [qAu (by simpa using uo) O hw (by simpa using hid)];exact ⟨rfl,rfl⟩
  have hid:=nU;refine G4 ?_;refine ki Y3 (jB O O)<|G2 ?_;refine jd ⟨(k+1),[],kp,Z,⟨Lc,⟨by omega,Cv hI hw (by simpa using hid)⟩⟩,O⟩
 refine lF ?_;refine Jc Y3 ((Vd d).swap L _ Pz _ bc c 1 A3 n3 q3 x.body Pz hc O) ?_;rintro _ _ kv jP ⟨rfl,rfl⟩;refine G4 ?_;refine rR [_] _ (.t1 Z) Z Lc λ_ iL=>?_;rw [qF4 (by simpa using uo) O (λi w hi h=>hI i w O h)];exact ⟨rfl,rfl⟩
def RW:∀ (ws:List iR),Lib.join ws [44,32]=qu ws
 | []=>rfl
 | [x]=>by simp [Lib.join,qu,List.intercalate]
 | x::y::r=>by
  have:=RW (y::r);simp only [Lib.join,List.intercalate,List.intersperse_cons_cons,bt] at this ⊢;rw [qu,<- this];simp
def FF{α β:Type}(f:α->β){l:List α}{x:α}(h:l[k]?=some x):(l.take (k+1)).map f=(l.take k).map f++[f x]:=by
 obtain ⟨hk,rfl⟩:=al.1 h;rw [bM hk,bR];rfl
def Nv(A:OAdr9)(n c:Nat)(ws:List iR)(hS:iW s A n c ws)(iQ:vJ ws<=1000000000):AV9 D 116 [.slice A n c,St [44,32]] L s (St (qu ws)):=by
 have h1:=BQ ws;have h2:ws.length<=vJ ws:=by
  clear hS iQ h1;induction ws with
  | nil=>exact aB _
  | cons x r ih=>rw [Cu,au];omega
 have:=r_ (D:=D) L s A n c ws hS [44,32] (by rw [RW];omega) O
 rwa [RW] at this
def VF{p:Prop} (h:p:=by
 have h1:=Bl (h x Mc);have h2:=ih λy hy=>h y (aq _ hy);rw [aS,Cu,au];omega):p:=h
def o_(l:LInt9)(h:∀ x∈l,iY x):vJ (l.map o4)<=12 * l.length:=by
 induction l with
 | nil=>exact aC _
 | cons x r ih=>
  exact VF
def qAe{l:LInt9}(h:∀ x∈l,iY x):∀ x∈l.map o4,x.length<=9223372036854775807:=λx hx=>by
 obtain ⟨y,hy,rfl⟩:=bh.1 hx;have:=Bl (h y hy);omega
def WS{p:Prop} (h:p:=by
 rintro _ _ s4 h4 ⟨rfl,rfl⟩;refine G4 ?_;exact rX [] L Z Lc λ_ iL=>ry):p:=h
def qo0(hG:GP s)(A:OAdr9)(n c:Nat)(l:LInt9)(hW:lV s A n c l)(hn:n<=1000):AV9 D 138 [.slice A n c] L s (St (qu (l.map o4))):=by
 have hl:=hW.1;have hu:=hW.u32;have htw:=o_ l hu;refine jv (fn:=f138) jl func138 V Z ntmps138 Z (rs:=[.tmp 2]) Z [(0,_)] Z<|zx ?_;refine lw (γ:=Nat×Value×Hl) (λg=>[(2,_),(3,g.2.1),(6,_),(7,_),(8,iJ (g.1:Int))]) (λg=>g.2.2++L) (λg tw=>Le D s tw/\(g.1<=n/\Own 9 1 g.2.2 g.2.1 g.1 (sb ((l.take g.1).map o4)))) (λg=>n - g.1) (λ_ _ _ h hl=>⟨h.1.trans hl,h.2⟩) (0,.slice none 0 0,[]) (.c5 Z Z Z Z Z (.nil _)) Z ⟨Le.refl _,⟨aB _,Own.nil⟩⟩ ?_;intro g s1 I1;obtain ⟨k,vo,Mo⟩:=g;obtain ⟨kh,hO⟩:=I1.2;simp only at kh hO;dsimp only;refine J6 ?_ ?_<;>intro c2
 .have hk:k < n:=by omega
  obtain ⟨b,off,x,rfl,hx,hcx,oh⟩:=lV.at_ Pz hk;refine G6 ?_;refine iI (ly Y6 hk) Z<|iI (jW Y3 Pz Z) Z<|G6 ?_;refine Je Y3 (JD D _ _ Pz x oh) λs3 h3=>kF [(_,_)] [_] Y9 λβn s4 h4 pf=>rp (sz:=1) [] Mo L Y7 hO (Row.of_cells Pz Z Z) ⟨by simp [zw];omega,by omega⟩ Z ?_;intro vq Mq s5 h5 oq;obtain ⟨Avq,oL,rfl,_,_⟩:=Own.slice oq;simp only [iU,iV];refine G5 ?_;refine ki Y3 (jB O O)<|G2 ?_;refine jd ⟨(k+1,.slice Avq (k+1) oL,Mq),[],kp,Z,⟨Lc,⟨by simp only;omega,by rw [FF o4 hx,Dt];exact oq⟩⟩,Oz⟩
 obtain rfl:k=n:=by omega
 rw [aI O] at hO;obtain ⟨Ao,co,rfl,_,_⟩:=Own.slice hO;refine G6 ?_;refine tO [] Mo ?_;intro s3 h3 nP;simp only [iU,iV];have hSt:=Own.strs hO (qAe hu) nP (by rw [bI];omega);refine Zr<|jY Y2<|Jc Y3 (Nv D _ _ Ao k co (l.map o4) Pz O) ?_;exact WS
def Hi(D d:Nat):Prop:=∀ (L:Hl) (s:World),GP s->∀ (x:Ex) (A:OAdr9) (n c:Nat),j9 d s A n c x.args->iY x.num->nN x=true->ns x<=2000->AV9 D 227 [.agg #[iJ x.kind,iJ x.op,iO x.num,St x.name,.slice A n c]] L s (St (mU x 0))
def qtO{l:List Ex}(hv:o5 l=true)(hu:qO l=true)(hN:ln l<=2000):∀ x∈l.map (λx=>mU x 0),x.length<=9223372036854775807:=λx hx=>by
 have h1:=JG l [] hv hu;rw [R_] at h1;have h2:∀ (l:List iR),x∈l->x.length<=vJ l:=λl=>by
  induction l with
  | nil=>intro h;cases h
  | cons y r ih=>
   intro h;rw [Cu];rcases aW.1 h with rfl|h
   . omega
   . have:=ih h;omega
 have:=h2 _ hx;omega
def YH{D:Nat}(d:Nat)(ih:∀ e,d=e+1->Hi D e)(L:Hl)(s:World)(hG:GP s)(A:OAdr9)(n c:Nat)(l:List Ex)(hA:j9 d s A n c l)(hv:o5 l=true)(hN:ln l<=2000)(hn:n<=1000):AV9 D 229 [.slice A n c] L s (St (qu (qN l []))):=by
 have hl:=hA.1;have hu:=hA.u;have htw:=JG l [] hv hu;rw [R_] at htw ⊢;refine jv (fn:=f229) jl func229 V Z ntmps229 Z (rs:=[.tmp 2]) Z [(0,_)] Z<|zx ?_;refine lw (γ:=Nat×Value×Hl) (λg=>[(2,_),(3,g.2.1),(6,_),(7,_),(8,iJ (g.1:Int))]) (λg=>g.2.2++L) (λg tw=>Le D s tw/\(g.1<=n/\Own 9 1 g.2.2 g.2.1 g.1 (sb ((l.take g.1).map λx=>mU x 0)))) (λg=>n - g.1) (λ_ _ _ h hl=>⟨h.1.trans hl,h.2⟩) (0,.slice none 0 0,[]) (.c5 Z Z Z Z Z (.nil _)) Z ⟨Le.refl _,⟨aB _,Own.nil⟩⟩ ?_;intro g s1 I1;obtain ⟨k,vo,Mo⟩:=g;obtain ⟨kh,hO⟩:=I1.2;simp only at kh hO;dsimp only;refine J6 ?_ ?_<;>intro c2
 .have hk:k < n:=by omega
  obtain ⟨e,b,off,x,A',n',c',hd,rfl,hx,hcx,hax,oh,kK⟩:=j9.at_ Pz hk;obtain ⟨vp,hNx⟩:=vC hv hx;refine G6 ?_;refine iI (jR Y6 hk) Z<|iI (kq Y3 Pz Z) Z<|jp Z [_,_,_,_,_] Y2 λβ3 s3 h3=>Wt 0 [_,_,_,_,_] Y9<|G4 ?_;refine iI (jh 0 [_,_,_,_,_] Y5) Z<|Jc Y3 (ih e hd _ _ Pz x A' n' c' Pz oh vp O) ?_;rintro _ _ s4 h4 ⟨rfl,rfl⟩;refine kF [(_,_)] [_] Y9 λβn s5 h5 pf=>rp (sz:=1) [_] Mo L Y7 hO (Row.of_cells Pz Z Z) ⟨by simp [zw];omega,by omega⟩ Z ?_;intro vq Mq s6 h6 oq;obtain ⟨Avq,oL,rfl,_,_⟩:=Own.slice oq;simp only [iU,iV];refine G5 ?_;refine ki Y3 (jB O O)<|G2 ?_;refine jd ⟨(k+1,.slice Avq (k+1) oL,Mq),[_],kp,Z,⟨Lc,⟨by simp only;omega,by rw [FF (λx=>mU x 0) hx,Dt];exact oq⟩⟩,Oz⟩
 obtain rfl:k=n:=by omega
 rw [aI O] at hO;obtain ⟨Ao,co,rfl,_,_⟩:=Own.slice hO;refine G6 ?_;refine tO [] Mo ?_;intro s3 h3 nP;simp only [iU,iV];have hSt:=Own.strs hO (qtO hv hu hN) nP (by rw [bI];omega);refine Zr<|jY Y2<|Jc Y3 (Nv D _ _ Ao k co (l.map λx=>mU x 0) Pz O) ?_;exact WS
def qmd{D:Nat}(d:Nat)(hE:Hi D d)(L:Hl)(s:World)(hG:GP s)(x:Ex)(A:OAdr9)(n c:Nat)(hA:j9 d s A n c x.args)(hu:iY x.num)(hv:nN x=true)(hN:ns x<=2000)(b:Bool):AV9 D 258 [.agg #[iJ x.kind,iJ x.op,iO x.num,St x.name,.slice A n c],.bool b] L s (St (if x.kind=7/\b=true then [40]++mU x 0++[41] else mU x 0)):=by
 have tm:=SW x 0 hv (qxN hu hA.u);refine jv (fn:=f258) jl func258 V Z ntmps258 Z (rs:=[.tmp 4]) Z [(0,_),(1,_)] Z<|Sr<|kH Y2 λβ1 s1 h1=>lF ?_;refine kT (t:=8) Z ?_ ?_<;>intro c2
 .refine G5 ?_;refine qT Z ?_ ?_<;>intro c3;.refine Sr<|iI (jh 0 [_,_,_,_,_] Y5) Z<|Jc Y3 (hE _ _ Pz x A n c Pz hu hv hN) ?_;rintro _ _ s4 h4 ⟨rfl,rfl⟩;refine iI (lH Y2 Uo) Z<|iI (lH Y2 Uo) Z<|G5 ?_;refine rR [_] L (.t1 Z) Z Lc λ_ iL=>?_;rw [aw ⟨by assumption,by assumption⟩];exact ⟨rfl,rfl⟩
  refine Zk<|Zt<|Sr<|iI (jh 0 [_,_,_,_,_] Y5) Z<|Jc Y3 (hE _ _ Pz x A n c Pz hu hv hN) ?_;rintro _ _ s4 h4 ⟨rfl,rfl⟩;refine G4 ?_;refine rR [_] L (.t1 Z) Z Lc λ_ iL=>?_;rw [am (λk=>by have h9:=k.2;simp_all)];exact ⟨rfl,rfl⟩
 refine G9 ?_;refine iI (jh 0 [_,_,_,_,_] Y5) Z<|Jc Y3 (hE _ _ Pz x A n c Pz hu hv hN) ?_;rintro _ _ s3 h3 ⟨rfl,rfl⟩;refine G4 ?_;refine rR [_] L (.t1 Z) Z Lc λ_ iL=>?_;rw [am (λk=>absurd k.1 As)];exact ⟨rfl,rfl⟩
def Rr{D:Nat}(d:Nat)(hE:Hi D d){L:Hl}{s:World}(hG:GP s)(x:Ex)(hA:j9 d s A n c x.args)(hu:iY x.num)(hv:nN x=true)(hN:ns x<=2000)(out:Int){b:Bool}(hb:b=decide (va x.op < out)):Ap9 D 258 [.agg #[iJ x.kind,iJ x.op,iO x.num,St x.name,.slice A n c],.bool b] L s λv L' _=>v=St (mU x out)/\L=L':=by
 have h:=qmd d hE L s hG x A n c hA hu hv hN b;have hk:=Bm (ze hv).1;have e:(if x.kind=7/\b=true then [40]++mU x 0++[41] else mU x 0)=mU x out:=by
  rw [qAk hk.1 hk.2.1 out,hb];simp only [aF]
 rwa [e] at h
def qxy{x:Ex}(hv:nN x=true)(h:x.kind=3\/x.kind=6):x.args.length=1:=by
 have ha:=Bm (ze hv).1;have h1:=ha.2.2.1;have h2:=ha.2.2.2.1;rcases h with h|h<;>(rw [h] at h1 h2;simp [tu,uV] at h1 h2;omega)
def qFj{x:Ex}(hv:nN x=true)(h:x.kind=4):x.args.length<=6:=by
 have ha:=Bm (ze hv).1;have h2:=ha.2.2.2.1;rw [h] at h2;simp [uV] at h2;omega
def qFi{x:Ex}(hv:nN x=true)(h:x.kind=7):x.args.length=2:=by
 have ha:=Bm (ze hv).1;have h1:=ha.2.2.1;have h2:=ha.2.2.2.1;rw [h] at h1 h2;simp [tu,uV] at h1 h2;omega
def Fw{p:Prop} (h:p:=by
 exact ⟨by rw [hT];rfl,rfl⟩):p:=h
def Hq{p:Prop} (h:p:=by
 rintro _ _ kY kN ⟨rfl,rfl⟩;refine ⟨λ_ _ h=>h,?_⟩;refine za 5 Z (qK Z Z) Z<|iM 6 V<|Jf Z Tt Z Z Z (Rr e (ih e Z) Pz y Pz ph uq O (va x.op) (Z)) λli kz=>za 7 Z (lH Y2 Uo) Z<|iM 10 V<|Jf Z Tt Z Z Z (qr6 D _ _ Pz x.op O) λlJ lr=>za 11 Z (lH Y2 Uo) Z<|za 12 Z (lH Y2 Uo) Z<|iM 16 V<|Jf Z Tt Z Z Z (MN D _ _ z.op) λqW qD=>za 18 Z (Kr Z Z) Z<|iM 19 V<|Jf Z Tt Z Z Z (Rr e (ih e Z) Pz z Pz tk yU O (va x.op+1) (by simp only [bJ];omega)) λtE qR=>za 20 Z (lH Y2 Uo) Z<|H1 ?_;refine jq V<|G2 ?_;exact rX [_,_,_] L Z Lc λ_ iL=>Fw):p:=h
def YY{D:Nat}(d:Nat)(ih:∀ e,d=e+1->Hi D e)(L:Hl)(s:World)(hG:GP s)(x:Ex)(A:OAdr9)(n c:Nat)(hA:j9 d s A n c x.args)(hu:iY x.num)(hv:nN x=true)(hN:ns x<=2000):AV9 D 227 [.agg #[iJ x.kind,iJ x.op,iO x.num,St x.name,.slice A n c]] L s (St (mU x 0)):=by
 have tm:=SW x 0 hv (qxN hu hA.u);have hC:=ze hv;have hka:=Bm hC.1;have hl:=hA.1;have hNx:=qFW x;refine jv (fn:=f227) jl func227 V Z ntmps227 Z (rs:=[.tmp 2]) Z [(0,_)] Z<|Sr<|kH Y2 λβ1 s1 h1=>LV ?_ ?_<;>intro c2;.have hT:=qIO c2;refine G4 ?_;refine Je Y3 (JD D _ _ Pz _ hu) λs3 h3=>G6 ?_;exact rX [_] L Z Lc λ_ iL=>Fw
 refine J6 ?_ ?_<;>intro c3;.have hT:=qIP c3;refine lF ?_;exact rX [_] L Z h1 λ_ iL=>Fw
 refine J6 ?_ ?_<;>intro c4;.have pT:=qxy hv (.inl c4);obtain ⟨e,b,off,y,A1,n1,c1,rfl,rfl,hy,hcy,hay,ph,kK⟩:=j9.at_ Pz (show 0 < n by omega);obtain ⟨uq,zH⟩:=vC hC.2 hy;have hT:=qIQ c4 pT hy;rw [hT] at tm;simp only [ac,au,ap] at tm;refine Zs<|ma jF 11 Z _ (λ_ h=>h) λs5 h5=>H2 ?_;refine za 2 Z (lH Y2 Uo) Z<|H2 ?_;refine za 5 Z (jR (j:=0) Y6 O) Z<|za 6 Z (kq Y3 Pz Z) Z<|iM 7 V<|Jb Z Tt Z Z Z (ih e Z _ _ Pz y A1 n1 c1 Pz ph uq O) ?_;rintro _ _ s6 h6 ⟨rfl,rfl⟩;refine ⟨λ_ _ h=>h,?_⟩;refine za 8 Z (lH Y2 Uo) Z<|za 9 Z (lH Y2 Uo) Z<|H1 ?_;refine jq V<|G4 ?_;exact rX [_] L Z Lc λ_ iL=>Fw
 refine J6 ?_ ?_<;>intro c5;.have hl4:=qFj hv c5;have hT:=qIR c5;rw [hT] at tm;simp only [ac,au,ap] at tm;refine Zs<|ma jF 9 Z _ (λ_ h=>h) λs6 h6=>H2 ?_;refine za 2 Z (lH Y2 Uo) Z<|H2 ?_;refine iM 5 V<|Jf Z Tt Z Z Z (YH d ih _ _ Pz A n c x.args Pz hC.2 O O) λs7 h7=>za 6 Z (lH Y2 Uo) Z<|za 7 Z (lH Y2 Uo) Z<|H1 ?_;refine jq V<|G4 ?_;exact rX [_] L Z Lc λ_ iL=>Fw
 refine J6 ?_ ?_<;>intro c6;.refine G8 ?_;exact rX [_] L Z h1 λ_ iL=>⟨by rw [qIS As];rfl,rfl⟩
 refine J6 ?_ ?_<;>intro c7;.have pT:=qxy hv (.inr c7);have uQ:=hka.2.2.2.2.1 c7;obtain ⟨e,b,off,y,A1,n1,c1,rfl,rfl,hy,hcy,hay,ph,kK⟩:=j9.at_ Pz (show 0 < n by omega);obtain ⟨uq,zH⟩:=vC hC.2 hy;have hT:=qIT c7 pT hy;rw [hT] at tm;simp only [ac,au,ap] at tm;refine Zs<|ma jF 10 Z _ (λ_ h=>h) λs8 h8=>H4 ?_;refine za 5 Z (jR (j:=0) Y6 O) Z<|za 6 Z (kq Y3 Pz Z) Z<|iM 2 V<|Jf Z Tt Z Z Z (qr6 D _ _ Pz x.op O) λs9 h9=>iM 7 V<|Jf Z Tt Z Z Z (Rr e (ih e Z) Pz y Pz ph uq O 9 (by have:=SQ y.op;exact (bO O).symm)) λku jN=>za 8 Z (lH Y2 O) Z<|H1 ?_;refine jq V<|G4 ?_;exact rX [_] L Z Lc λ_ iL=>Fw
 have h7:x.kind=7:=by omega
 have qs:=qFi hv h7;have uQ:=hka.2.2.2.2.2 h7;obtain ⟨e,b,off,y,A1,n1,c1,rfl,rfl,hy,hcy,hay,ph,kK⟩:=j9.at_ Pz (show 0 < n by omega);obtain ⟨uq,zH⟩:=vC hC.2 hy;obtain ⟨e',b',off',z,A2,n2,c2,xT,qq,hz,hcz,haz,tk,hnz⟩:=j9.at_ Pz (show 1 < n by omega);cases qq;obtain rfl:e=e':=by omega
 obtain ⟨yU,hNz⟩:=vC hC.2 hz;have hT:=qIU h7 qs hy hz;rw [hT] at tm;simp only [ac,au,ap] at tm;refine G7 ?_;refine Je Y3 (MN D _ _ x.op) λs8 h8=>At Z Z<|Zs<|ma jF 12 Z _ (λ_ h=>h) λs9 h9=>H2 ?_;refine za 2 Z (jR (j:=0) Y6 O) Z<|za 3 Z (kq Y3 Pz Z) Z<|H2 ?_;refine za 6 Z (jR (j:=1) Y6 O) Z<|za 7 Z (kq Y3 Pz Z) Z ?_;refine kD 8 9 V ?_ ?_;.refine kA Z Tt Z [_,_,_,_,_] Y2 λβ10 ku jN=>iM 9 V<|kA Z Tt Z [_,_,_,_,_] Y2 λβ11 kv jP=>iM 10 V<|Wu Z Tt 1 [_,_,_,_,_] Y9 (sM (lq (mT (jT))))<|iM 11 V<|Wu Z Tt 0 [_,_,_,_,_] Y9 (sM (lq (mT (jT))))<|jq V<|Zt<|Zs<|ma jF 22 Z _ (λ_ h=>h) λkc jL=>za 0 Z (jh 1 [_,_,_,_,_] Y5) Z<|H4 ?_;refine za 9 Z (Wd 2 Y5) Z<|za 13 Z (jh 0 [_,_,_,_,_] Y5) Z<|H3 ?_;refine iM 3 V<|Jb Z Tt Z Z Z (MN D _ _ y.op) ?_;exact Hq
 refine kA Z Tt Z [_,_,_,_,_] Y2 λβ10 ku jN=>iM 8 V<|kA Z Tt Z [_,_,_,_,_] Y2 λβ11 kv jP=>iM 10 V<|Wu Z Tt 0 [_,_,_,_,_] Y9 (sM (lq (mT (jT))))<|iM 11 V<|Wu Z Tt 1 [_,_,_,_,_] Y9 (sM (lq (mT (jT))))<|jq V<|Zt<|Zs<|ma jF 22 Z _ (λ_ h=>h) λkc jL=>za 0 Z (jh 0 [_,_,_,_,_] Y5) Z<|H4 ?_;refine za 9 Z (Wd 2 Y5) Z<|za 13 Z (jh 1 [_,_,_,_,_] Y5) Z<|H3 ?_;refine iM 3 V<|Jb Z Tt Z Z Z (MN D _ _ y.op) ?_;exact Hq
def BN{D:Nat}:∀ d,Hi D d
 | 0=>λL s hG x A n c hA hu hv hN=>YY 0 (λe h=>by omega) L s hG x A n c hA hu hv hN
 | d+1=>λL s hG x A n c hA hu hv hN=>YY (d+1) (λe h=>(show d=e by omega)▸BN d) L s hG x A n c hA hu hv hN
def qtP{D:Nat}(d:Nat){L:Hl}{s:World}(hG:GP s)(l:List Ex)(hA:j9 d s A n c l)(hv:o5 l=true)(hN:ln l<=2000)(hn:n<=1000):AV9 D 229 [.slice A n c] L s (St (qu (qN l []))):=YH d (λe _=>BN e) L s hG A n c l hA hv hN hn
end
section
variable(D:Nat)(L:Hl)(s:World){T:Nat}
def BV(M:Hl)(v:Value)(l:iR):Prop:=Own 5 1 M v l.length (bv l)/\(l=[]->M=[]/\v=.slice none 0 0)
def BV.nil:BV [] (.slice none 0 0) []:=⟨Own.nil,λ_=>⟨rfl,rfl⟩⟩
def quM(h:Own e 1 M (.slice none 0 0) n xs):M=[]:=by cases h;rfl
def BV.app{M1:Hl}{v1:Value}(h:BV M v l)(o:Own 5 1 M1 v1 (l.length+l2.length) (bv l++bv l2))(hn:v=.slice none 0 0->l2.length=0->v1=.slice none 0 0):BV M1 v1 (l++l2):=by
 have hb:bv (l++l2)=bv l++bv l2:=by simp [bv]
 refine ⟨by rw [hb,ac];exact o,λh0=>?_⟩;obtain ⟨h1,h2⟩:=List.append_eq_nil_iff.1 h0;have hv:=hn (h.2 h1).2 (by rw [h2];rfl);subst hv;exact ⟨quM o,rfl⟩
def BV.cap(h:BV M (.slice A n c) l):A=none\/c≠0:=by
  by_cases h0:l=[]
  . have:=(h.2 h0).2;injection this with e;exact .inl e
  . right
    obtain ⟨_,c',e,h2,_⟩:=Own.slice h.1;injection e with e1 e2 e3
    have:l.length≠0:=by simpa using h0
    omega
theorem FW{a b:iR}(h:∃ T,b=T++[10]):∃ T,a++b=T++[10]:=by grind
def l_(k:Int)(nm:iR)(es:List iR):∃ T,wL k nm es=T++[10]:=by
 unfold wL;repeat' split
 all_goals first
  | exact FW ⟨[59],rfl⟩
  | exact FW ⟨[41,59],rfl⟩
def qsh:∀ (x:jb) (lv:Nat),∃ T,vO x lv=T++[10]
  | .mk k nm es b [],lv=>by
    simp only [vO];by_cases h:k=3\/k=4
    . rw [aw h];refine FW ?_;rw [aw (by rfl)];exact ⟨[],rfl⟩
    . rw [am h];exact l_ ..
  | .mk k nm es b (z::r),lv=>by
    simp only [vO];by_cases h:k=3\/k=4
    . rw [aw h]
      refine FW ?_;rw [am (by simp)];by_cases hi:Eu (z::r)=true
      . rw [aw hi,BF];exact FW (qsh z lv)
      . rw [am hi];exact FW ⟨[125],rfl⟩
    . rw [am h];exact l_ ..
def tG(x:jb)(lv:Nat):iR:=(vO x lv).dropLast
def Ty(x:jb)(lv:Nat):tG x lv++[10]=vO x lv:=by
 obtain ⟨T,h⟩:=qsh x lv;rw [tG,h,fH]
def B7{T:iR}(h:vO x lv=T++[10]):tG x lv=T:=by rw [tG,h,fH]
def zR(e:List jb)(lv:Nat):iR:=if e.isEmpty=true then [] else if Eu e=true then [32,101,108,115,101,32]++(BF e lv).dropLast else [32,101,108,115,101,32,123,10]++ss e (lv+1)++oH lv++[125]
def qJk(e:List jb)(lv:Nat):(if e.isEmpty=true then [10] else if Eu e=true then [32,101,108,115,101,32]++BF e lv else [32,101,108,115,101,32,123,10]++ss e (lv+1)++oH lv++[125,10])=zR e lv++[10]:=by
  unfold zR;split
  . rfl
  split
  . rename_i h1 h2
    match e,h2 with
    | [],h2=>exact absurd rfl h1
    | _::_::_,h2=>exact absurd h2 (by simp [Eu])
    | [z],h2 => 
      simp only [BF];rw [an];exact bj _ (Ty z lv).symm
  . simp
def qBe(lv:Nat):zR [] lv=[]:=rfl
def qGM{e:List jb}{z:jb}(lv:Nat)(h:e.length=1)(hz:e[0]?=some z)(hk:z.kind=3):zR e lv=[32,101,108,115,101,32]++tG z lv:=by
 rw [ON h hz];cases z with
 | mk k nm es b l=>
  have hk:k=3:=hk;unfold zR;rw [am (by simp),aw (by simp [Eu,hk])];rfl
def quG{e:List jb}(lv:Nat)(h0:e.length≠0)(h:¬ (e.length=1/\∀ z,e[0]?=some z->z.kind=3)):zR e lv=[32,101,108,115,101,32,123,10]++ss e (lv+1)++oH lv++[125]:=by
 unfold zR;rw [am (by intro g;exact h0 (by simpa using g)),am];intro g;match e,g with
 | [.mk k nm es b l],g=>exact h ⟨rfl,λz hz=>by simp at hz;subst hz;show k=3;simpa [Eu] using g⟩
def wH(h:sx x lv=true):lv<=16/\tX x.kind x.name x.exprs.length x.body.length x.els.length=0/\o5 x.exprs=true/\nT x.body (lv+1)=true/\nT x.els (lv+1)=true:=by
 cases x with
 | mk k nm es b e=>simp only [sx,aA,aF] at h;exact ⟨h.1.1.1.1,h.1.1.1.2,h.1.1.2,h.1.2,h.2⟩
def Gh(x:jb):qA x=1+ln x.exprs+kC x.body+kC x.els:=by cases x;rfl
def BP{k:Int}{ne nb nl:Nat}(h:tX k nm ne nb nl=0):1<=k/\k<=10/\wG k<=ne/\ne<=zl k/\(0 < nb->k=3\/k=4)/\(0 < nl->k=3):=by
  unfold tX at h;split at h
  . cases h
  rename_i h1;split at h
  . cases h
  split at h
  . cases h
  rename_i h3;refine ⟨by omega,by omega,?_,?_,?_,?_⟩
  . exact dP λhh=>h3 (.inr (.inl hh))
  . exact dP λhh=>h3 (.inr (.inr (.inl hh)))
  . intro hb
    by_cases h4:k=3\/k=4
    . exact h4
    . exact absurd (.inr (.inr (.inr (.inl ⟨hb,λe=>h4 (.inl e),λe=>h4 (.inr e)⟩)))) h3
  . intro hb
    by_cases h4:k=3
    . exact h4
    . exact absurd (.inr (.inr (.inr (.inr ⟨hb,h4⟩)))) h3
def Dv:∀ {l:List jb} {k lv:Nat} {y:jb},nT l lv=true->l[k]?=some y->sx y lv=true/\qA y<=kC l
 | [],_,_,_,_,h=>by cases h
 | x::r,0,lv,y,hv,h=>by
  simp at h;subst h;simp only [nT,aA] at hv;exact ⟨hv.1,by rw [kC];omega⟩
 | x::r,k+1,lv,y,hv,h=>by
  simp only [nT,aA] at hv;have:=Dv hv.2 (show r[k]?=some y by simpa using h);exact ⟨this.1,by rw [kC];omega⟩
def qsj{l:List jb}(h:l[k]?=some x):ss (l.drop k) lv=oH lv++vO x lv++ss (l.drop (k+1)) lv:=by
 obtain ⟨hk,rfl⟩:=al.1 h;rw [aL hk,ss]
section
variable{y:Ex}
def zZ(hv:sx x lv=true)(h:x.kind=1\/x.kind=3\/x.kind=4\/x.kind=6\/x.kind=7\/x.kind=8):x.exprs.length=1:=by
 have ha:=BP (wH hv).2.1;have h1:=ha.2.2.1;have h2:=ha.2.2.2.1;rcases h with h|h|h|h|h|h<;>(rw [h] at h1 h2;simp [wG,zl] at h1 h2;omega)
def Xp(hv:sx x lv=true)(h:x.kind=2):x.exprs.length=2:=by
 have ha:=BP (wH hv).2.1;have h1:=ha.2.2.1;have h2:=ha.2.2.2.1;rw [h] at h1 h2;simp [wG,zl] at h1 h2;omega
def Xq(hv:sx x lv=true)(h:x.kind=5):x.exprs.length<=6:=by
 have ha:=BP (wH hv).2.1;have h2:=ha.2.2.2.1;rw [h] at h2;simp [zl] at h2;omega
def Xo(hv:sx x lv=true)(h:x.kind=9\/x.kind=10):x.exprs=[]:=by
 have ha:=BP (wH hv).2.1;have h2:=ha.2.2.2.1;rcases h with h|h<;>(rw [h] at h2;simp [zl] at h2;exact h2)
def qJt(hv:sx x lv=true)(h:x.kind≠3):x.els=[]:=by
 have ha:=(BP (wH hv).2.1).2.2.2.2.2;cases he:x.els with
 | nil=>rfl
 | cons a r=>rw [he] at ha;exact absurd (ha (by simp)) h
def DE(h:¬ (x.kind=3\/x.kind=4)):vO x lv=wL x.kind x.name (qN x.exprs []):=by
 cases x with
 | mk k nm es b e=>
  have h:¬ (k=3\/k=4):=h;simp only [vO];rw [am h];rfl
def Gg{l:List Ex}(h:l.length=1)(hy:l[0]?=some y):qN l []=[mU y 0]:=by rw [ON h hy];rfl
def qFX{l:List Ex}(h:l.length=2)(hy:l[0]?=some y)(hz:l[1]?=some z):qN l []=[mU y 0,mU z 0]:=by rw [Xz h hy hz];rfl
def qJy(h:x.kind=1)(hl:x.exprs.length=1)(hy:x.exprs[0]?=some y):tG x lv=x.name++[32,61,32]++mU y 0++[59]:=B7 (by
 rw [DE O,h,Gg hl hy];simp [wL])
def qJz(h:x.kind=2)(hl:x.exprs.length=2)(hy:x.exprs[0]?=some y)(hz:x.exprs[1]?=some z):tG x lv=x.name++[91]++mU y 0++[93,32,61,32]++mU z 0++[59]:=B7 (by
 rw [DE O,h,qFX hl hy hz];simp [wL])
def qJC(h:x.kind=5):tG x lv=x.name++[40]++qu (qN x.exprs [])++[41,59]:=B7 (by
 rw [DE O,h];simp [wL])
def qJD(h:x.kind=6)(hl:x.exprs.length=1)(hy:x.exprs[0]?=some y):tG x lv=[114,101,116,117,114,110,32]++mU y 0++[59]:=B7 (by
 rw [DE O,h,Gg hl hy];simp [wL,qu])
def qJE(h:x.kind=7)(hl:x.exprs.length=1)(hy:x.exprs[0]?=some y):tG x lv=[112,117,116,32]++mU y 0++[59]:=B7 (by
 rw [DE O,h,Gg hl hy];simp [wL,qu])
def qJF(h:x.kind=8)(hl:x.exprs.length=1)(hy:x.exprs[0]?=some y):tG x lv=[115,116,111,112,32]++mU y 0++[59]:=B7 (by
 rw [DE O,h,Gg hl hy];simp [wL,qu])
def qJG(h:x.kind=9)(hl:x.exprs=[]):tG x lv=[98,114,101,97,107,59]:=B7 (by
 rw [DE O,h,hl];simp [wL,qu,qN])
def qHa(h:x.kind=10)(hl:x.exprs=[]):tG x lv=[99,111,110,116,105,110,117,101,59]:=B7 (by
 rw [DE O,h,hl];simp [wL,qu,qN])
def qJA(h:x.kind=3)(hl:x.exprs.length=1)(hy:x.exprs[0]?=some y):tG x lv=[105,102,32,40]++mU y 0++[41,32,123,10]++ss x.body (lv+1)++oH lv++[125]++zR x.els lv:=B7 (by
 cases x with
 | mk k nm es b e=>
  have h:k=3:=h;have hl:es.length=1:=hl;have hy:es[0]?=some y:=hy;simp only [vO];rw [aw (.inl h),qJk,Gg hl hy,h];simp [jb.body,jb.els])
def qJB(h:x.kind=4)(hl:x.exprs.length=1)(hy:x.exprs[0]?=some y)(he:x.els=[]):tG x lv=[119,104,105,108,101,32,40]++mU y 0++[41,32,123,10]++ss x.body (lv+1)++oH lv++[125]:=B7 (by
 cases x with
 | mk k nm es b e=>
  have h:k=4:=h;have he:e=[]:=he;have hl:es.length=1:=hl;have hy:es[0]?=some y:=hy;simp only [vO];rw [aw (.inr h),Gg hl hy,h,he];simp [jb.body])
end
attribute [local irreducible] JC JO JA JB lZ mF mM AC fill iH QE Ev mq
def YV(zs:LVal9)(n:Nat):oO zs n []=zs:=by cases zs<;>rfl
def LA(R:LVal9)(T:Nat):Prop:=Go.liesAt prog prog.depth T ((R.length+2) / prog.cellsOf T) 0 152 1=true
def WC(R:LVal9)(T bb:Nat)(M:Hl)(l:iR):Prop:=∃ p M0 v,((p=none\/p=j6 bb)/\LA R T)/\M=(bb,cb (.pointer p::v::R) T)::M0/\BV M0 v l
def WC.mk(hp:(p=none\/p=j6 bb)/\LA R T)(h:BV M0 v l):WC R T bb ((bb,cb (.pointer p::v::R) T)::M0) l:=⟨p,M0,v,hp,rfl,h⟩
abbrev Wr(bb:Nat)(M:Hl)(l:iR):Prop:=WC [] 246 bb M l
def Wr.mk(hp:p=none\/p=j6 bb)(h:BV M0 v l):Wr bb ((bb,cb [.pointer p,v] 246)::M0) l:=WC.mk ⟨hp,by unfold LA;kernel_rfl⟩ h
def WL{p:Prop} (h:p:=by
 refine lC [] _ (.inl Z) (.nil) Z (Lr D) λ_ iL=>?_;exact ⟨rfl,by first|rfl|simp only [YV]⟩):p:=h
def qkP(bb:Nat)(p:OAdr9)(hp:(p=none\/p=j6 bb)/\LA R T):Ap9 D 151 [jc bb] ((bb,cb (.pointer p::v::R) T)::L) s λu L' _=>u=.tuple #[]/\L'=(bb,cb (jc bb::v::R) T)::L:=by
 refine jv (fn:=f151) jl func151 V Z ntmps151 Z (rs:=[]) Z [(0,_)] Z<|G6 ?_;refine iI (qES underlying150 Z) Z<|G2 ?_;refine qT Z ?_ ?_<;>intro c1
 .obtain rfl:p=none:=by simpa using c1
  refine G3 ?_;refine iI (qEY 0 underlying150 underlying295 Z Z Z Z) Z<|iI (qy9 func193 V V V V Z Z) Z<|iI (qsX 0 underlying295 underlying150 Z Z Z hp.2) Z<|G2 ?_;refine xy 0 (_::_::_) Y5 Z Z Z Z<|Zn ?_;exact WL
 obtain rfl:p=j6 bb:=hp.1.resolve_left (λh=>by rw [h] at c1;cases c1);refine G7 ?_;refine iI (qET underlying150 Z Z Z) Z<|G4 ?_;exact WL
def qsH(bb:Nat)(p:OAdr9)(hp:(p=none\/p=j6 bb)/\LA R T)(M:Hl)(v:Value)(l:iR)(hb:BV M v l)(l2:iR)(iQ:l.length+l2.length<=140737488355328):Ap9 D 115 [jc bb,St l2] ((bb,cb (.pointer p::v::R) T)::(M++L)) s λu L' _=>u=.tuple #[iJ (l2.length:Int),.nilIface]/\∃ M' v',L'=(bb,cb (jc bb::v'::R) T)::(M'++L)/\BV M' v' (l++l2):=by
 obtain ⟨Ab,cb1,rfl,kb1,kb2⟩:=Own.slice hb.1;refine jv (fn:=f115) jl func115 V Z ntmps115 Z (rs:=[.tmp 4,.tmp 5]) Z [(0,_),(1,_)] Z<|G9 ?_;refine Jc Y3 (qkP D _ _ bb p hp) ?_;rintro _ _ s1 h1 ⟨rfl,rfl⟩;refine lF ?_;refine qpy (sz:=1) (m:=l2.length) (news:=l2.map λb=>Value.int .u8 (b.toNat:Int)) [_] M L Z Z Z Z Z Z Z hb.1 (by simp) (λhT w i k1 i1 i2 i3 i4=>qtk l2 k1 underlying9 i1 i2 i3 i4) ⟨by simp [CQ];omega,by omega⟩ Z ?_;intro v1 M1 s2 h2 o1 n1;obtain ⟨Av1,cv1,rfl,_,_⟩:=Own.slice o1;simp only [iU,iV];refine G2 ?_;refine xy 0 (_::_::_) Y5 Z Z Z Z<|G5 ?_;refine DD Z Z Z Z<|G5 ?_;exact rR [] _ (.tmp Z (.t1 Z)) Z Lc λ_ iL=>⟨rfl,M1,_,by first|rfl|simp only [YV],hb.app o1 n1⟩
def qzR(bb:Nat)(p:OAdr9)(M:Hl)(v:Value)(l:iR)(hb:BV M v l):Ap9 D 72 [jc bb] ((bb,cb (.pointer p::v::R) T)::(M++L)) s λu L' _=>u=St l/\L'=L:=by
 obtain ⟨Ab,cb1,rfl,kb1,kb2⟩:=Own.slice hb.1;refine jv (fn:=f72) jl func72 V Z ntmps72 Z (rs:=[.tmp 2]) Z [(0,_)] Z<|G6 ?_;refine mh jF 12 Z 1 λs1 h1=>H4 ?_;refine za 4 Z (qEZ Z hb.cap) Z<|H5 ?_;refine iM 10 V<|qyV Z Tt [_] M L Z underlying220 V Z Z hb.1 (λh=>(hb.2 h).1) Z (λx hx _=>zk hx) ?_;intro s2 h2;simp only [iU,iV];refine H1 ?_;refine jq V<|G2 ?_;exact rR [_] _ (.t1 Z) Z Lc λ_ iL=>ry
def tQ(bb:Nat)(M:Hl)(l:iR)(hW:WC R T bb M l)(l2:iR)(iQ:l.length+l2.length<=140737488355328):Ap9 D 115 [jc bb,St l2] (M++L) s λu L' _=>∃ M',L'=M'++L/\u=.tuple #[iJ (l2.length:Int),.nilIface]/\WC R T bb M' (l++l2):=by
 obtain ⟨p,M0,v,hp,rfl,hb⟩:=hW;refine (qsH D L s bb p hp M0 v l hb l2 iQ).mono ?_;rintro u L1 s1 _ ⟨h1,M1,v1,h2,h3⟩;exact ⟨_::M1,h2,h1,WC.mk ⟨.inr rfl,hp.2⟩ h3⟩
def f_(bb:Nat)(M:Hl)(l:iR)(hW:WC R T bb M l):Ap9 D 72 [jc bb] (M++L) s λu L' _=>u=St l/\L=L':=by
 obtain ⟨p,M0,v,hp,rfl,hb⟩:=hW;refine (qzR D L s bb p M0 v l hb).mono ?_;rintro u L1 s1 _ ⟨h1,h2⟩;exact ⟨h1,h2.symm⟩
def IJ{p:Prop} (h:p:=by
 rintro _ _ s3 h3 ⟨M1,rfl,rfl,kL⟩;refine ⟨(λ_ hx _=>by cases hx),?_⟩;refine jq V ?_;refine lC [] _ (.inl Z) (.nil) Z Lc λ_ iL=>?_;exact ⟨_,rfl,rfl,kL⟩):p:=h
def Jz(bb:Nat)(M:Hl)(l:iR)(hW:Wr bb M l)(lv:Nat)(nZ:lv<=17)(iQ:l.length<=2000000000):AM9 D 182 [jc bb,iJ (lv:Int)] M L s λv M' _=>v=.tuple #[]/\Wr bb M' (l++oH lv):=by
 have hml:=ED lv;refine jv (fn:=f182) jl func182 V Z ntmps182 Z (rs:=[]) Z [(0,_),(1,_)] Z<|mh jF 6 Z 0 λs1 h1=>H4 ?_;refine iM 4 V<|Jf Z Tt Z Z Z (qrT _ _ [32,32] lv O Q8) λs2 h2=>?_;rw [qjV];refine iM 5 V<|Jb Z Tt Z Z Z (tQ D _ _ bb M l hW _ Ut) ?_;exact IJ
def Dm(bb:Nat)(M:Hl)(l:iR)(hW:Wr bb M l)(lv:Nat)(nZ:lv<=17)(t:iR)(iQ:l.length+t.length<=1000000000):AM9 D 136 [jc bb,iJ (lv:Int),St t] M L s λv M' _=>v=.tuple #[]/\Wr bb M' (l++(oH lv++t++[10])):=by
 have hml:=ED lv;refine jv (fn:=f136) jl func136 V Z ntmps136 Z (rs:=[]) Z [(0,_),(1,_),(2,_)] Z<|G4 ?_;refine Jc Y3 (Jz D _ _ bb M l hW lv nZ O) ?_;rintro _ _ s1 h1 ⟨M1,rfl,rfl,kL⟩;refine G7 ?_;refine iI (lH Y2 Uo) Z<|Jc Y3 (tQ D _ _ bb M1 (l++oH lv) kL _ Ut) ?_;rintro _ _ s2 h2 ⟨M2,rfl,rfl,mu⟩;refine Zn ?_;refine lC [] _ (.inl Z) (.nil) Z Lc λ_ iL=>?_;exact ⟨_,rfl,rfl,by simpa only [an] using mu⟩
def Gw(D d:Nat):Prop:=∀ (L:Hl) (s:World),GP s->∀ (bb:Nat) (M:Hl) (l:iR),Wr bb M l->∀ (A:OAdr9) (n c:Nat) (xs:List jb) (lv:Nat),jz d s A n c xs->nT xs lv=true->kC xs<=2000->lv<=17->l.length+(ss xs lv).length<=1000000000->AM9 D 139 [jc bb,.slice A n c,iJ (lv:Int)] M L s λv M' _=>v=.tuple #[]/\Wr bb M' (l++ss xs lv)
def LW(D d:Nat):Prop:=∀ (L:Hl) (s:World),GP s->∀ (bb:Nat) (M:Hl) (l:iR),Wr bb M l->∀ (A:OAdr9) (n c:Nat) (xs:List jb) (lv:Nat),jz d s A n c xs->nT xs (lv+1)=true->kC xs<=2000->lv<=16->l.length+(zR xs lv).length<=1000000000->AM9 D 228 [jc bb,.slice A n c,iJ (lv:Int)] M L s λv M' _=>v=.tuple #[]/\Wr bb M' (l++zR xs lv)
def LX(D d:Nat):Prop:=∀ (L:Hl) (s:World),GP s->∀ (bb:Nat) (M:Hl) (l:iR),Wr bb M l->∀ (A1 A2 A3:OAdr9) (n1 c1 n2 c2 n3 c3:Nat) (x:jb) (lv:Nat),j9 d s A1 n1 c1 x.exprs->jz d s A2 n2 c2 x.body->jz d s A3 n3 c3 x.els->sx x lv=true->qA x<=2000->l.length+(tG x lv).length<=1000000000->AM9 D 184 [jc bb,.agg #[iJ x.kind,St x.name,.slice A1 n1 c1,.slice A2 n2 c2,.slice A3 n3 c3],iJ (lv:Int)] M L s λv M' _=>v=.tuple #[]/\Wr bb M' (l++tG x lv)
def YX{D:Nat}(d:Nat)(ih:∀ e,d=e+1->LX D e)(L:Hl)(s:World)(hG:GP s)(bb:Nat)(M:Hl)(l:iR)(hW:Wr bb M l)(A:OAdr9)(n c:Nat)(xs:List jb)(lv:Nat)(hA:jz d s A n c xs)(hv:nT xs lv=true)(hN:kC xs<=2000)(nZ:lv<=17)(iQ:l.length+(ss xs lv).length<=1000000000):AM9 D 139 [jc bb,.slice A n c,iJ (lv:Int)] M L s λv M' _=>v=.tuple #[]/\Wr bb M' (l++ss xs lv):=by
 have hn:=hA.1;have mX:=hA.2.1;have oR:=hA.2.2.1;have hml:=ED lv;refine jv (fn:=f139) jl func139 V Z ntmps139 Z (rs:=[]) Z [(0,_),(1,_),(2,_)] Z<|G8 ?_;refine lw (γ:=Nat×Hl×iR) (λg=>[(0,_),(2,_),(8,_),(9,_),(10,iJ (g.1:Int))]) (λg=>g.2.1++L) (λg tw=>Le D s tw/\(g.1<=n/\Wr bb g.2.1 g.2.2/\g.2.2++ss (xs.drop g.1) lv=l++ss xs lv)) (λg=>n - g.1) (λ_ _ _ h hl=>⟨h.1.trans hl,h.2⟩) (0,M,l) (.c5 Z Z Z Z Z (.nil _)) Z ⟨Le.refl _,⟨aB _,hW,Z⟩⟩ ?_;intro g s1 I1;obtain ⟨k,Mo,lo⟩:=g;obtain ⟨kh,hWo,hS⟩:=I1.2;simp only at kh hWo hS;dsimp only;have ka:=bj List.length hS;simp only [ac] at ka;refine J6 ?_ ?_<;>intro c2
 .have hk:k < n:=by omega
  obtain ⟨e,b,off,x,A1,n1,c1,A2,n2,c2,A3,n3,c3,hd,rfl,hx,hcx,hax,rE,hex,kK⟩:=jz.at_ Pz hk;obtain ⟨vp,hNx⟩:=Dv hv hx;have pJ:=bj List.length (qsj (lv:=lv) hx);have kb:=bj List.length (Ty x lv);simp only [ac,au,ap] at pJ kb;refine G6 ?_;refine iI (jR Y6 hk) Z<|iI (kq Y3 Pz Z) Z<|jp Z [_,_,_,_,_] Y2 λβ3 s3 h3=>Wt 0 [_,_,_,_,_] Y9<|G6 ?_;refine Jc Y3 (AC.mid [_] Mo L (Jz D _ _ bb Mo lo hWo lv nZ O)) ?_;rintro _ _ s4 h4 ⟨M1,rfl,rfl,kL⟩;simp only [iU,iV];refine G5 ?_;refine iI (jh 0 [_,_,_,_,_] Y5) Z<|jY Y2<|Jc Y3 (AC.mid [_] M1 L (ih e hd _ _ Pz bb M1 (lo++oH lv) kL A1 A2 A3 n1 c1 n2 c2 n3 c3 x lv Pz Pz Pz vp O Q23)) ?_;rintro _ _ s5 h5 ⟨M2,rfl,rfl,mu⟩;simp only [iU,iV];refine G6 ?_;refine Jc Y3 (AC.mid [_] M2 L (tQ D _ _ bb M2 ((lo++oH lv)++tG x lv) mu [10] Ut)) ?_;rintro _ _ s6 h6 ⟨M3,rfl,rfl,hW3⟩;simp only [iU,iV];refine G4 ?_;refine ki Y3 (jB O O)<|G2 ?_;refine jd ⟨(k+1,M3,((lo++oH lv)++tG x lv)++[10]),[_],kp,Z,⟨Lc,⟨by simp only;omega,hW3,by simp only;rw [<- hS,qsj hx,<- Ty x lv];simp only [an]⟩⟩,Oz⟩
 rw [aK O,ss,aE] at hS;refine G4 ?_;refine lC [] _ (.inl Z) (.nil) Z I1.1 λ_ iL=>?_;exact ⟨_,rfl,rfl,hS▸hWo⟩
def YP{D:Nat}(d:Nat)(ih:∀ e,d=e+1->LX D e)(hB:Gw D d)(L:Hl)(s:World)(hG:GP s)(bb:Nat)(M:Hl)(l:iR)(hW:Wr bb M l)(A:OAdr9)(n c:Nat)(xs:List jb)(lv:Nat)(hA:jz d s A n c xs)(hv:nT xs (lv+1)=true)(hN:kC xs<=2000)(nZ:lv<=16)(iQ:l.length+(zR xs lv).length<=1000000000):AM9 D 228 [jc bb,.slice A n c,iJ (lv:Int)] M L s λv M' _=>v=.tuple #[]/\Wr bb M' (l++zR xs lv):=by
 have hn:=hA.1;have mX:=hA.2.1;have oR:=hA.2.2.1;have hml:=ED lv;refine jv (fn:=f228) jl func228 V Z ntmps228 Z (rs:=[]) Z [(0,_),(1,_),(2,_)] Z<|J9 ?_ ?_<;>intro c1;.obtain rfl:xs=[]:=aG O;refine G2 ?_;refine lC [] _ (.inl Z) (.nil) Z (Lr D) λ_ iL=>?_;exact ⟨_,rfl,rfl,by rw [qBe,aE];exact hW⟩
 have g0:xs.length≠0:=by omega
 obtain ⟨e,b,off,z,A1,n1,c1,A2,n2,c2,A3,n3,c3,hd,rfl,hz,hcz,haz,hbz,hez,kK⟩:=jz.at_ Pz (show 0 < n by omega);obtain ⟨yU,hNz⟩:=Dv hv hz;refine rm 26 (n=1/\z.kind=3) ?_ ?_
 .refine G5 ?_;refine kT (t:=30) Z ?_ ?_<;>intro c3;.refine G3 ?_;refine iI (jR (j:=0) Y6 O) Z<|G3 ?_;refine iI (jW Y3 Pz Z) Z<|G5 ?_;refine jd (kE.mk (Lr D) Sb Z (bJ.2 O))
  refine G8 ?_;refine jd (kE.mk (Lr D) Sb Z ((bQ O).symm))
 intro s2 h2;refine mE Z ?_ ?_<;>intro c4;.have g3:=c4;have hT:=qGM lv O hz g3.2;rw [hT] at iQ;simp only [ac,au,ap] at iQ;have hvz2:=Sf z lv (lv+1) O yU;refine G5 ?_;refine Jc Y3 (tQ D _ _ bb M l hW [32,101,108,115,101,32] Ut) ?_;rintro _ _ s5 h5 ⟨M1,rfl,rfl,kL⟩;refine G5 ?_;refine iI (jR (j:=0) Y6 O) Z<|iI (kq Y3 Pz Z) Z<|jY Y2<|Jc Y3 (ih e hd _ _ Pz bb M1 _ kL A1 A2 A3 n1 c1 n2 c2 n3 c3 z lv Pz Pz Pz hvz2 O Uo) ?_;rintro _ _ s6 h6 ⟨M2,rfl,rfl,mu⟩;refine G2 ?_;refine lC [] _ (.inl Z) (.nil) Z Lc λ_ iL=>?_;exact ⟨_,rfl,rfl,by rw [hT];simpa only [an] using mu⟩
 have g3:=c4;have hT:=quG (e:=xs) lv g0 (λh=>g3 ⟨by omega,h.2 z hz⟩);rw [hT] at iQ;simp only [ac,au,ap] at iQ;refine G5 ?_;refine Jc Y3 (tQ D _ _ bb M l hW [32,101,108,115,101,32,123,10] Ut) ?_;rintro _ _ s5 h5 ⟨M1,rfl,rfl,kL⟩;refine G7 ?_;refine iI (nD Z Z (show IntKind.i64.wrap ((lv:Int)+1)=((lv+1:Nat):Int) by rw [jB O O];simp)) Z<|Jc Y3 (hB _ _ Pz bb M1 _ kL _ n c xs (lv+1) Pz hv hN O Uo) ?_;rintro _ _ s6 h6 ⟨M2,rfl,rfl,mu⟩;refine G6 ?_;refine Jc Y3 (Jz D _ _ bb M2 _ mu lv O Uo) ?_;rintro _ _ s7 h7 ⟨M3,rfl,rfl,hW3⟩;refine G6 ?_;refine Jc Y3 (tQ D _ _ bb M3 _ hW3 [125] Ut) ?_;rintro _ _ s8 h8 ⟨M4,rfl,rfl,oQ⟩;refine G2 ?_;refine lC [] _ (.inl Z) (.nil) Z Lc λ_ iL=>?_;exact ⟨_,rfl,rfl,by rw [hT];simpa only [an] using oQ⟩
def GN{p:Prop} (h:p:=by
 exact ⟨_,rfl,rfl,by rw [hT];exact kL⟩):p:=h
def WM{p:Prop} (h:p:=by
 simp only [iU,iV];refine G2 ?_;refine lC [_] _ (.inl Z) (.nil) Z Lc λ_ iL=>?_;exact GN):p:=h
def Gn{p:Prop} (h:p:=by
 refine ⟨(λx hx _=>zk hx),?_⟩;simp only [iU,iV];refine jq V<|Zb ?_;refine lC [_] _ (.inl Z) (.nil) Z Lc λ_ iL=>?_;exact GN):p:=h
def m_{D:Nat}(d:Nat)(hB:Gw D d)(hO:LW D d)(L:Hl)(s:World)(hG:GP s)(bb:Nat)(M:Hl)(l:iR)(hW:Wr bb M l)(A1 A2 A3:OAdr9)(n1 c1 n2 c2 n3 c3:Nat)(x:jb)(lv:Nat)(tK:j9 d s A1 n1 c1 x.exprs)(lG:jz d s A2 n2 c2 x.body)(mI:jz d s A3 n3 c3 x.els)(hv:sx x lv=true)(hN:qA x<=2000)(iQ:l.length+(tG x lv).length<=1000000000):AM9 D 184 [jc bb,.agg #[iJ x.kind,St x.name,.slice A1 n1 c1,.slice A2 n2 c2,.slice A3 n3 c3],iJ (lv:Int)] M L s λv M' _=>v=.tuple #[]/\Wr bb M' (l++tG x lv):=by
 have hn:=tK.1;have hml:=ED lv;obtain ⟨nZ,hC,hvE,hvB,hvL⟩:=wH hv;have hka:=BP hC;have hNs:=Gh x;refine jv (fn:=f184) jl func184 V Z ntmps184 Z (rs:=[]) Z [(0,_),(1,_),(2,_)] Z<|Sr<|kH Y2 λβ1 s1 h1=>Ek ?_ ?_<;>intro c2;.have pT:=zZ hv (.inl c2);obtain ⟨e,b,off,y,Ay,ny,cy,hd,rfl,hy,hcy,hay,ph,kK⟩:=j9.at_ Pz (show 0 < n1 by omega);obtain ⟨uq,zH⟩:=vC hvE hy;have hT:=qJy (lv:=lv) c2 pT hy;rw [hT] at iQ;simp only [ac,au,ap] at iQ;refine mh jF 14 Z 1 λs3 h3=>H5 ?_;refine za 5 Z (lH Y2 Uo) Z<|H2 ?_;refine za 8 Z (jR (j:=0) Y6 O) Z<|za 9 Z (kq Y3 Pz Z) Z<|iM 10 V<|Jb Z Tt Z Z Z (BN _ _ _ Pz y Ay ny cy Pz ph uq O) ?_;rintro _ _ s4 h4 ⟨rfl,rfl⟩;refine ⟨λ_ _ h=>h,?_⟩;refine za 11 Z (lH Y2 Uo) Z<|za 12 Z (lH Y2 Uo) Z<|iM 13 V<|Jb Z Tt Z Z Z (AC.mid [_] M L (tQ D _ _ bb M l hW _ Ut)) ?_;rintro _ _ s5 h5 ⟨M1,rfl,rfl,kL⟩;exact Gn
 refine J6 ?_ ?_<;>intro c3;.have qs:=Xp hv c3;obtain ⟨e,b,off,y,Ay,ny,cy,hd,rfl,hy,hcy,hay,ph,kK⟩:=j9.at_ Pz (show 0 < n1 by omega);obtain ⟨uq,zH⟩:=vC hvE hy;obtain ⟨e',b',off',z,Az,nz,cz,xT,qq,hz,hcz,haz,tk,hnz⟩:=j9.at_ Pz (show 1 < n1 by omega);cases qq;obtain ⟨yU,hNz⟩:=vC hvE hz;have hT:=qJz (lv:=lv) c3 qs hy hz;rw [hT] at iQ;simp only [ac,au,ap] at iQ;refine mh jF 21 Z 1 λs4 h4=>H5 ?_;refine za 5 Z (lH Y2 Uo) Z<|H2 ?_;refine za 8 Z (jR (j:=0) Y6 O) Z<|za 9 Z (kq Y3 Pz Z) Z<|H2 ?_;refine za 15 Z (jR (j:=1) Y6 O) Z<|za 16 Z (kq Y3 Pz Z) Z<|iM 10 V<|Jb Z Tt Z Z Z (BN _ _ _ Pz y Ay ny cy Pz ph uq O) ?_;rintro _ _ s5 h5 ⟨rfl,rfl⟩;refine ⟨λ_ _ h=>h,?_⟩;refine za 11 Z (lH Y2 Uo) Z<|za 12 Z (lH Y2 Uo) Z<|iM 17 V<|Jb Z Tt Z Z Z (BN _ _ _ Pz z Az nz cz Pz tk yU O) ?_;rintro _ _ s6 h6 ⟨rfl,rfl⟩;refine ⟨λ_ _ h=>h,?_⟩;refine za 18 Z (lH Y2 Uo) Z<|za 19 Z (lH Y2 Uo) Z<|iM 20 V<|Jb Z Tt Z Z Z (AC.mid [_] M L (tQ D _ _ bb M l hW _ Ut)) ?_;rintro _ _ s7 h7 ⟨M1,rfl,rfl,kL⟩;exact Gn
 refine J6 ?_ ?_<;>intro c4;.have pT:=zZ hv (.inr (.inl c4));obtain ⟨e,b,off,y,Ay,ny,cy,hd,rfl,hy,hcy,hay,ph,kK⟩:=j9.at_ Pz (show 0 < n1 by omega);obtain ⟨uq,zH⟩:=vC hvE hy;have hT:=qJA (lv:=lv) c4 pT hy;rw [hT] at iQ;simp only [ac,au,ap] at iQ;refine Zs<|mh jF 11 Z 1 λs5 h5=>H5 ?_;refine za 5 Z (jR (j:=0) Y6 O) Z<|za 6 Z (kq Y3 Pz Z) Z<|iM 7 V<|Jb Z Tt Z Z Z (BN _ _ _ Pz y Ay ny cy Pz ph uq O) ?_;rintro _ _ s6 h6 ⟨rfl,rfl⟩;refine ⟨λ_ _ h=>h,?_⟩;refine za 8 Z (lH Y2 Uo) Z<|za 9 Z (lH Y2 Uo) Z<|iM 10 V<|Jb Z Tt Z Z Z (AC.mid [_] M L (tQ D _ _ bb M l hW _ Ut)) ?_;rintro _ _ s7 h7 ⟨M1,rfl,rfl,kL⟩;refine ⟨(λx hx _=>zk hx),?_⟩;simp only [iU,iV];refine jq V<|G7 ?_;refine iI (nD Z Z (show IntKind.i64.wrap ((lv:Int)+1)=((lv+1:Nat):Int) by rw [jB O O];simp)) Z<|Jc Y3 (AC.mid [_] M1 L (hB _ _ Pz bb M1 _ kL _ _ _ x.body (lv+1) Pz hvB O O Uo)) ?_;rintro _ _ s8 h8 ⟨M2,rfl,rfl,mu⟩;simp only [iU,iV];refine G6 ?_;refine Jc Y3 (AC.mid [_] M2 L (Jz D _ _ bb M2 _ mu lv O Uo)) ?_;rintro _ _ s9 h9 ⟨M3,rfl,rfl,hW3⟩;simp only [iU,iV];refine G7 ?_;refine Jc Y3 (AC.mid [_] M3 L (tQ D _ _ bb M3 _ hW3 [125] Ut)) ?_;rintro _ _ ku jN ⟨M4,rfl,rfl,oQ⟩;simp only [iU,iV];refine G7 ?_;refine Jc Y3 (AC.mid [_] M4 L (hO _ _ Pz bb M4 _ oQ _ _ _ x.els lv Pz hvL O nZ Uo)) ?_;rintro _ _ kv jP ⟨M5,rfl,rfl,rS⟩;simp only [iU,iV];refine G2 ?_;refine lC [_] _ (.inl Z) (.nil) Z Lc λ_ iL=>?_;exact ⟨_,rfl,rfl,by rw [hT];simpa only [an] using rS⟩
 refine J6 ?_ ?_<;>intro c5;.have ka:=qJt hv (show x.kind≠3 by omega);have pT:=zZ hv (.inr (.inr (.inl c5)));obtain ⟨e,b,off,y,Ay,ny,cy,hd,rfl,hy,hcy,hay,ph,kK⟩:=j9.at_ Pz (show 0 < n1 by omega);obtain ⟨uq,zH⟩:=vC hvE hy;have hT:=qJB (lv:=lv) c5 pT hy ka;rw [hT] at iQ;simp only [ac,au,ap] at iQ;refine Zs<|mh jF 11 Z 1 λs6 h6=>H5 ?_;refine za 5 Z (jR (j:=0) Y6 O) Z<|za 6 Z (kq Y3 Pz Z) Z<|iM 7 V<|Jb Z Tt Z Z Z (BN _ _ _ Pz y Ay ny cy Pz ph uq O) ?_;rintro _ _ s7 h7 ⟨rfl,rfl⟩;refine ⟨λ_ _ h=>h,?_⟩;refine za 8 Z (lH Y2 Uo) Z<|za 9 Z (lH Y2 Uo) Z<|iM 10 V<|Jb Z Tt Z Z Z (AC.mid [_] M L (tQ D _ _ bb M l hW _ Ut)) ?_;rintro _ _ s8 h8 ⟨M1,rfl,rfl,kL⟩;refine ⟨(λx hx _=>zk hx),?_⟩;simp only [iU,iV];refine jq V<|G7 ?_;refine iI (nD Z Z (show IntKind.i64.wrap ((lv:Int)+1)=((lv+1:Nat):Int) by rw [jB O O];simp)) Z<|Jc Y3 (AC.mid [_] M1 L (hB _ _ Pz bb M1 _ kL _ _ _ x.body (lv+1) Pz hvB O O Uo)) ?_;rintro _ _ s9 h9 ⟨M2,rfl,rfl,mu⟩;simp only [iU,iV];refine G6 ?_;refine Jc Y3 (AC.mid [_] M2 L (Jz D _ _ bb M2 _ mu lv O Uo)) ?_;rintro _ _ ku jN ⟨M3,rfl,rfl,hW3⟩;simp only [iU,iV];refine G6 ?_;refine Jc Y3 (AC.mid [_] M3 L (tQ D _ _ bb M3 _ hW3 [125] Ut)) ?_;rintro _ _ kv jP ⟨M4,rfl,rfl,oQ⟩;simp only [iU,iV];refine G2 ?_;refine lC [_] _ (.inl Z) (.nil) Z Lc λ_ iL=>?_;exact ⟨_,rfl,rfl,by rw [hT];simpa only [an] using oQ⟩
 refine J6 ?_ ?_<;>intro c6;.have hl5:=Xq hv c6;have hT:=qJC (lv:=lv) c6;rw [hT] at iQ;simp only [ac,au,ap] at iQ;refine mh jF 12 Z 1 λs7 h7=>H5 ?_;refine za 5 Z (lH Y2 Uo) Z<|H2 ?_;refine iM 8 V<|Jf Z Tt Z Z Z (qtP d Pz x.exprs Pz hvE O O) λs8 h8=>za 9 Z (lH Y2 Uo) Z<|za 10 Z (lH Y2 Uo) Z<|iM 11 V<|Jb Z Tt Z Z Z (AC.mid [_] M L (tQ D _ _ bb M l hW _ Ut)) ?_;rintro _ _ s9 h9 ⟨M1,rfl,rfl,kL⟩;exact Gn
 refine J6 ?_ ?_<;>intro c7;.have pT:=zZ hv (.inr (.inr (.inr (.inl c7))));obtain ⟨e,b,off,y,Ay,ny,cy,hd,rfl,hy,hcy,hay,ph,kK⟩:=j9.at_ Pz (show 0 < n1 by omega);obtain ⟨uq,zH⟩:=vC hvE hy;have hT:=qJD (lv:=lv) c7 pT hy;rw [hT] at iQ;simp only [ac,au,ap] at iQ;refine mh jF 11 Z 1 λs8 h8=>H5 ?_;refine za 5 Z (jR (j:=0) Y6 O) Z<|za 6 Z (kq Y3 Pz Z) Z<|iM 7 V<|Jb Z Tt Z Z Z (BN _ _ _ Pz y Ay ny cy Pz ph uq O) ?_;rintro _ _ s9 h9 ⟨rfl,rfl⟩;refine ⟨λ_ _ h=>h,?_⟩;refine za 8 Z (lH Y2 Uo) Z<|za 9 Z (lH Y2 Uo) Z<|iM 10 V<|Jb Z Tt Z Z Z (AC.mid [_] M L (tQ D _ _ bb M l hW _ Ut)) ?_;rintro _ _ ku jN ⟨M1,rfl,rfl,kL⟩;exact Gn
 refine J6 ?_ ?_<;>intro c8;.have pT:=zZ hv (.inr (.inr (.inr (.inr (.inl c8)))));obtain ⟨e,b,off,y,Ay,ny,cy,hd,rfl,hy,hcy,hay,ph,kK⟩:=j9.at_ Pz (show 0 < n1 by omega);obtain ⟨uq,zH⟩:=vC hvE hy;have hT:=qJE (lv:=lv) c8 pT hy;rw [hT] at iQ;simp only [ac,au,ap] at iQ;refine mh jF 11 Z 1 λs9 h9=>H5 ?_;refine za 5 Z (jR (j:=0) Y6 O) Z<|za 6 Z (kq Y3 Pz Z) Z<|iM 7 V<|Jb Z Tt Z Z Z (BN _ _ _ Pz y Ay ny cy Pz ph uq O) ?_;rintro _ _ ku jN ⟨rfl,rfl⟩;refine ⟨λ_ _ h=>h,?_⟩;refine za 8 Z (lH Y2 Uo) Z<|za 9 Z (lH Y2 Uo) Z<|iM 10 V<|Jb Z Tt Z Z Z (AC.mid [_] M L (tQ D _ _ bb M l hW _ Ut)) ?_;rintro _ _ kv jP ⟨M1,rfl,rfl,kL⟩;exact Gn
 refine J6 ?_ ?_<;>intro c9;.have pT:=zZ hv (.inr (.inr (.inr (.inr (.inr c9)))));obtain ⟨e,b,off,y,Ay,ny,cy,hd,rfl,hy,hcy,hay,ph,kK⟩:=j9.at_ Pz (show 0 < n1 by omega);obtain ⟨uq,zH⟩:=vC hvE hy;have hT:=qJF (lv:=lv) c9 pT hy;rw [hT] at iQ;simp only [ac,au,ap] at iQ;refine mh jF 11 Z 1 λku jN=>H5 ?_;refine za 5 Z (jR (j:=0) Y6 O) Z<|za 6 Z (kq Y3 Pz Z) Z<|iM 7 V<|Jb Z Tt Z Z Z (BN _ _ _ Pz y Ay ny cy Pz ph uq O) ?_;rintro _ _ kv jP ⟨rfl,rfl⟩;refine ⟨λ_ _ h=>h,?_⟩;refine za 8 Z (lH Y2 Uo) Z<|za 9 Z (lH Y2 Uo) Z<|iM 10 V<|Jb Z Tt Z Z Z (AC.mid [_] M L (tQ D _ _ bb M l hW _ Ut)) ?_;rintro _ _ kc jL ⟨M1,rfl,rfl,kL⟩;exact Gn
 refine J6 ?_ ?_<;>intro my;.have hT:=qJG (lv:=lv) my (Xo hv (.inl my));rw [hT] at iQ;simp only [ac,au,ap] at iQ;refine G4 ?_;refine Jc Y3 (AC.mid [_] M L (tQ D _ _ bb M l hW [98,114,101,97,107,59] Ut)) ?_;rintro _ _ kv jP ⟨M1,rfl,rfl,kL⟩;exact WM
 refine J6 ?_ ?_<;>intro mN;.have hT:=qHa (lv:=lv) mN (Xo hv (.inr mN));rw [hT] at iQ;simp only [ac,au,ap] at iQ;refine G4 ?_;refine Jc Y3 (AC.mid [_] M L (tQ D _ _ bb M l hW [99,111,110,116,105,110,117,101,59] Ut)) ?_;rintro _ _ kc jL ⟨M1,rfl,rfl,kL⟩;exact WM
 exfalso;omega
def Eo{D:Nat}:∀ d,Gw D d/\LW D d/\LX D d
 | 0=>by
  have hB:Gw D 0:=λL s hG bb M l hW A n c xs lv hA hv hN nZ iQ=>YX 0 (λe h=>by omega) L s hG bb M l hW A n c xs lv hA hv hN nZ iQ;have hO:LW D 0:=λL s hG bb M l hW A n c xs lv hA hv hN nZ iQ=>YP 0 (λe h=>by omega) hB L s hG bb M l hW A n c xs lv hA hv hN nZ iQ;exact ⟨hB,hO,λL s hG bb M l hW A1 A2 A3 n1 c1 n2 c2 n3 c3 x lv tK lG mI hv hN iQ=>m_ 0 hB hO L s hG bb M l hW A1 A2 A3 n1 c1 n2 c2 n3 c3 x lv tK lG mI hv hN iQ⟩
 | d+1=>by
  have ih:∀ e,d+1=e+1->LX D e:=λe h=>(show d=e by omega)▸(Eo d).2.2;have hB:Gw D (d+1):=λL s hG bb M l hW A n c xs lv hA hv hN nZ iQ=>YX (d+1) ih L s hG bb M l hW A n c xs lv hA hv hN nZ iQ;have hO:LW D (d+1):=λL s hG bb M l hW A n c xs lv hA hv hN nZ iQ=>YP (d+1) ih hB L s hG bb M l hW A n c xs lv hA hv hN nZ iQ;exact ⟨hB,hO,λL s hG bb M l hW A1 A2 A3 n1 c1 n2 c2 n3 c3 x lv tK lG mI hv hN iQ=>m_ (d+1) hB hO L s hG bb M l hW A1 A2 A3 n1 c1 n2 c2 n3 c3 x lv tK lG mI hv hN iQ⟩
end
section
variable(L:Hl){p:ja}{g:jM}
def CZ(x:iT):Prop:=oW x.name=true/\x.params.length<=6/\x.locals.length<=12/\(∀ w∈x.params++x.locals,oW w=true)/\nT x.body 1=true/\kC x.body<=2000
def X_{x:iT}(h:(pO x c).2=0):oW x.name=true/\x.params.length<=6/\x.locals.length<=12/\(∀ w∈x.params++x.locals,oW w=true)/\nT x.body 1=true/\(pO x c).1=c+kC x.body/\(kC x.body=0\/c+kC x.body<=2000):=by
 unfold pO at h ⊢;split at h
 . cases h
 rename_i h1;split at h
 . cases h
 rename_i h2;split at h
 . cases h
 rename_i h3;rw [am h1,am h2,am h3];obtain ⟨a,b,c⟩:=Dh _ _ _ h;refine ⟨by simpa using h1,by omega,by omega,λw hw=>?_,a,b,c⟩;cases hi:oW w with
 | true=>rfl
 | false=>exact absurd (fq.2 ⟨w,hw,by rw [hi];rfl⟩) h3
def uE:List iT->Nat
 | []=>0
 | x::r=>kC x.body+uE r
def Si:∀ {l:List iT} {i c:Nat},(yH l i c).1=0->(∀ x∈l,CZ x)/\(uE l=0\/c+uE l<=2000)
  | [],_,_,_=>⟨λx hx=>(by cases hx),.inl rfl⟩
  | x::r,i,c,h=>by
    rw [yH] at h;split at h
    . rename_i h1;exact absurd h h1
    rename_i h1;obtain ⟨a1,a2,a3,a4,a5,a6,a7⟩:=X_ (x:=x) (c:=c) Q7;obtain ⟨b1,b2⟩:=Si h;rw [a6] at b2;refine ⟨λy hy=>?_,?_⟩
    . rcases aW.1 hy with rfl|hy
      . exact ⟨a1,a2,a3,a4,a5,by omega⟩
      . exact b1 y hy
    . rw [uE];omega
def qnu:∀ {l:List jM} {i:Nat},(wr l i).1=0->∀ g∈l,pL g=0
 | [],_,_=>λg hg=>by cases hg
 | x::r,i,h=>λg hg=>by
  rw [wr] at h;split at h
  . rename_i h1;exact absurd h h1
  rename_i h1;rcases aW.1 hg with rfl|hg
  . simpa using h1
  . exact qnu h g hg
def qrO(h:(qV p).1=0):qV p=(0,0):=by
 unfold qV at h ⊢;split at h
 . rename_i h2;exact absurd h h2
 rename_i h2;rw [am h2];split at h
 . cases h
 rename_i h3;rw [am h3]
def Bo(h:pL g=0):1<=g.kind/\g.kind<=3/\oW g.name=true/\(g.kind≠3->g.init=[])/\(g.kind=2->g.num=0)/\g.init.length<=40000:=by
  unfold pL at h;split at h
  . cases h
  rename_i h1;split at h
  . cases h
  rename_i h2;split at h
  . cases h
  rename_i h3;split at h
  . cases h
  rename_i h4;split at h
  . cases h
  rename_i h5;have hi:g.kind≠3->g.init=[]:=λhk=>by
    by_cases he:g.init=[]
    . exact he
    . exact absurd (.inl ⟨hk,he⟩) h3
  refine ⟨by omega,by omega,by simpa using h2,hi,λhk=>?_,?_⟩
  . by_cases he:g.num=0
    . exact he
    . exact absurd (.inr ⟨hk,he⟩) h3
  . by_cases hk:g.kind=3
    . omega
    . rw [hi hk];exact aB _
def si(p:ja):Prop:=(∀ g∈p.o,iY g.num/\∀ x∈g.init,iY x)/\∀ x∈p.funcs,qk x.body=true
def PV(p:ja):Prop:=p.o.length<=64/\p.funcs.length<=64/\(∀ g∈p.o,pL g=0/\g.init.length<=1000)/\(∀ x∈p.funcs,CZ x)/\(Ah p).length<=1000000
def qsy(l:LInt9)(h:∀ x∈l,iY x):vJ (l.map o4)<=12 * l.length:=by
 induction l with
 | nil=>exact aC _
 | cons x r ih=>
  exact VF
def NA(l:List iR)(h:∀ x∈l,oW x=true):vJ l<=14 * l.length:=by
 induction l with
 | nil=>exact aC _
 | cons x r ih=>
  have h1:=Ct (h x Mc);have h2:=ih λy hy=>h y (aq _ hy);rw [Cu,au];omega
def qt8(h:pL g=0)(hu:iY g.num/\∀ x∈g.init,iY x):(uF g).length<=50+12 * g.init.length:=by
 have h1:=Ct (Bo h).2.2.1;have h2:=Bl hu.1;have h3:=BQ (g.init.map o4);have h4:=qsy g.init hu.2;unfold uF;repeat' split
 all_goals ((try simp only [ac,au,ap]);omega)
def qt2{x:iT}(h:CZ x)(hu:qk x.body=true):(By x).length<=350+200 * kC x.body:=by
 obtain ⟨a1,a2,a3,a4,a5,a6⟩:=h;have h1:=Ct a1;have h2:=BQ x.params;have h3:=NA x.params λw hw=>a4 w (aN _ hw);have h4:=BQ x.locals;have h5:=NA x.locals λw hw=>a4 w (aJ _ hw);have h6:=JN x.body 1 a5 hu;unfold By;split;all_goals ((try simp only [ac,au,ap]);omega)
def qnv:∀ {l:List jM},(∀ g∈l,pL g=0)->(∀ g∈l,iY g.num/\∀ x∈g.init,iY x)->((l.map uF).flatten).length<=50 * l.length+12 * (l.map λg=>g.init.length).sum
 | [],_,_=>aB _
 | g::r,h,hu=>by
  have h1:=qt8 (h g Mc) (hu g Mc);have h2:=qnv (l:=r) (λy hy=>h y (aq _ hy)) (λy hy=>hu y (aq _ hy));simp only [aS,bt,ac,au,dW];omega
def Y_:∀ {l:List iT},(∀ x∈l,CZ x)->(∀ x∈l,qk x.body=true)->((l.map By).flatten).length<=350 * l.length+200 * uE l
 | [],_,_=>aB _
 | x::r,h,hu=>by
  have h1:=qt2 (h x Mc) (hu x Mc);have h2:=Y_ (l:=r) (λy hy=>h y (aq _ hy)) (λy hy=>hu y (aq _ hy));simp only [aS,bt,ac,au,uE];omega
def qw9{α:Type}{f:α->Nat}{l:List α}{x:α}(h:x∈l):f x<=(l.map f).sum:=by
 induction l with
 | nil=>cases h
 | cons y r ih=>
  simp only [aS,dW];rcases aW.1 h with rfl|h
  . omega
  . have:=ih h;omega
def PV.of(hu:si p)(h:(qv p).1=0):PV p:=by
  unfold qv at h;split at h
  . cases h
  rename_i h1;split at h
  . rename_i h2;exact absurd h h2
  rename_i h2;split at h
  . cases h
  rename_i h3;obtain ⟨b1,b2⟩:=Si h;have a1:=qnu (l:=p.o) (i:=0) Q11;have c1:=qnv a1 hu.1;have c2:=Y_ b1 hu.2;refine ⟨by omega,by omega,λg hg=>⟨a1 g hg,?_⟩,b1,?_⟩
  . have:=qw9 (f:=λg:jM=>g.init.length) hg
    omega
  . rw [Ah,ac];omega
def jn.u{l:List jM}(h:jn s A n c l):∀ g∈l,iY g.num/\∀ x∈g.init,iY x:=
 Sl.all (p:=λg=>iY g.num/\∀ x∈g.init,iY x) h λg cs ⟨_,_,_,_,hw,hu,_⟩=>⟨hu,hw.u32⟩
def ju.u{l:List iT}(h:ju d s A n c l):∀ x∈l,qk x.body=true:=
 Sl.all (p:=λx=>qk x.body=true) h λx cs ⟨_,_,_,_,_,_,_,_,_,_,_,_,hb,_⟩=>jz.u hb
def TM{p:Prop} (h:p:=by
 obtain ⟨hk,rfl⟩:=al.1 h;rw [aL hk];rfl):p:=h
def Sh{α:Type}{f:α->iR}{l:List α}{x:α}(h:l[k]?=some x):((l.drop k).map f).flatten=f x++((l.drop (k+1)).map f).flatten:=by
 exact TM
def qxW{l:List jM}{x:jM}(h:l[k]?=some x):wr (l.drop k) i=if pL x≠0 then (pL x,(i:Int)) else wr (l.drop (k+1)) (i+1):=by
 exact TM
def qxS{l:List iT}{x:iT}(h:l[k]?=some x):yH (l.drop k) i c=if (pO x c).2≠0 then ((pO x c).2,(i:Int)) else yH (l.drop (k+1)) (i+1) (pO x c).1:=by
 exact TM
def qCN{α:Type}{f:α->Nat}{l:List α}{x:α}(h:l[k]?=some x):((l.take (k+1)).map f).sum=((l.take k).map f).sum+f x:=by
 obtain ⟨hk,rfl⟩:=al.1 h;rw [bM hk,bR,List.sum_append];simp
theorem qGb(h:g.kind=1):uF g=oH 0++([99,111,110,115,116,32]++g.name++[32,61,32]++o4 g.num++[59])++[10]:=by grind [oH,uF]
theorem qGc(h:g.kind=2):uF g=oH 0++([118,97,114,32]++g.name++[59])++[10]:=by grind [oH,uF]
def qGd(h:¬ g.kind=1)(h2:¬ g.kind=2)(h3:g.init=[]):uF g=oH 0++([97,114,114,97,121,32]++g.name++[91]++o4 g.num++[93,59])++[10]:=by simp_all [oH,uF]
theorem qGe(h:¬ g.kind=1)(h2:¬ g.kind=2)(h3:g.init≠[]):uF g=oH 0++([97,114,114,97,121,32]++g.name++[91]++o4 g.num++[93,32,61,32]++qu (g.init.map o4)++[59])++[10]:=by grind [oH,uF]
def qr3(h:64 < p.o.length\/64 < p.funcs.length):qv p=(2,-1):=by rw [qv,aw h]
def qG2(h:¬ (64 < p.o.length\/64 < p.funcs.length))(h2:(wr p.o 0).1≠0):qv p=wr p.o 0:=by rw [qv,am h,aw h2]
theorem j_(h:¬ (64 < p.o.length\/64 < p.funcs.length))(h2:wr p.o 0=(0,0))(h3:1000 < (p.o.map λg=>g.init.length).sum):qv p=(2,-1):=by grind [qv]
theorem qJo(h:¬ (64 < p.o.length\/64 < p.funcs.length))(h2:wr p.o 0=(0,0))(h3:¬ 1000 < (p.o.map λg=>g.init.length).sum):qv p=yH p.funcs p.o.length 0:=by grind [qv]
def OI(h:(qv p).1≠0):qV p=qv p:=by rw [qV,aw h]
theorem qBj(h:qv p=(0,0))(h2:12000 < (Ah p).length):qV p=(14,-1):=by grind [qV]
theorem qJl(h:qv p=(0,0))(h2:¬ 12000 < (Ah p).length):qV p=(0,0):=by grind [qV]
def Nh(h:(qV p).1=0):(qv p).1=0:=by
 unfold qV at h;split at h
 . rename_i h2;exact absurd h h2
 . rename_i h2;simpa using h2
attribute [local irreducible] JC JO JA JB lZ mF mM AC fill iH QE Ev mq
def Jx{c i:Int}:AV9 D 88 [iJ c,iJ i] L s (.agg #[iJ c,iJ i]):=by
 refine jv (fn:=f88) jl func88 V Z ntmps88 Z (rs:=[.cell 4 24]) Z [(0,_),(1,_)] Z<|Sr<|jp Z [_,_] Y2 ?_;exact E6
def qp9(X L:Hl)(bb:Nat)(M:Hl)(l:iR)(hW:Wr bb M l):Ap9 D 72 [jc bb] (X++(M++L)) s λu L' _=>u=St l/\L'=X++L:=
 AC.perm (aO ..) (f_ D (X++L) s bb M l hW) λu L1 s1 ⟨g0,g1⟩=>⟨_,eF _,g0,g1.symm⟩
def qoq{L:Hl}(hG:GP s)(c d:Nat)(x:iT)(A1 A2 A3:OAdr9)(n1 q1 n2 q2 n3 q3:Nat)(pJ:iW s A1 n1 q1 x.params)(kb:iW s A2 n2 q2 x.locals)(hs3:jz d s A3 n3 q3 x.body)(hc:c<=2000):Ap9 D 90 [jc bc,.agg #[St x.name,.slice A1 n1 q1,.slice A2 n2 q2,.slice A3 n3 q3]] (y::(bc,cb [iJ (c:Int)] 194)::L) s λv L' _=>v=iJ (pO x c).2/\L'=y::(bc,cb [iJ ((pO x c).1:Int)] 194)::L:=
 AC.perm (List.Perm.swap ..) (qtC D (y::L) s hG bc c d x A1 A2 A3 n1 q1 n2 q2 n3 q3 pJ kb hs3 hc) λv L1 s1 ⟨g0,h1⟩=>⟨_,by rw [h1];exact List.Perm.swap ..,g0,rfl⟩
def HU{p:Prop} (h:p:=by
 simp only [iU,iV];have hWx:Wr β2 M4 (lo++By x):=by simpa [By,hlc,oH,an] using oQ
 refine G4 ?_;refine ki Y3 (jB O O)<|G2 ?_;refine jd ⟨(k+1,M4,lo++By x),[_],kp,Z,⟨Lc,⟨by simp only;omega,hWx,by simp only;rw [<- hS,Sh hx,an]⟩⟩,Oz⟩):p:=h
def QN{p:Prop} (h:p:=by
 refine ⟨(λx hx _=>xA hx),?_⟩;simp only [iU,iV];have hWx:Wr β2 M1 (lo++uF x):=by rw [hT];exact kL
 refine jq V<|G4 ?_;refine ki Y3 (jB O O)<|G2 ?_;refine jd ⟨(k+1,M1,lo++uF x),[_],kp,Z,⟨Lc,⟨by simp only;omega,hWx,by simp only;rw [<- hS,Sh hx,an]⟩⟩,Oz⟩):p:=h
def qBQ(hG:GP s)(d:Nat)(p:ja)(Ag Af:OAdr9)(ng cg nf cf:Nat)(jQ:jn s Ag ng cg p.o)(j8:ju d s Af nf cf p.funcs)(hV:PV p):AV9 D 91 [.agg #[.slice Ag ng cg,.slice Af nf cf]] L s (St (Ah p)):=by
 have lX:=jQ.1;have oB:=j8.1;have hU:=jQ.u;have hUf:=j8.u;obtain ⟨yN,AQ,hVg,rD,hVl⟩:=hV;have Bb:((p.o.map uF).flatten).length+((p.funcs.map By).flatten).length<=1000000:=by rw [Ah,ac] at hVl;exact hVl
 refine jv (fn:=f91) jl func91 V Z ntmps91 Z (rs:=[.tmp 2]) Z [(0,_)] Z<|Sr<|kH Y2 λβ1 s1 h1=>At Z Z<|Sr<|iI (jC [] [_,_] Y3 Z Z Z) Z<|kH Y2 λβ2 s2 h2=>G5 ?_;refine rG 1 ?_;refine G8 ?_;refine lw (γ:=Nat×Hl×iR) (λg=>[(1,_),(2,_),(3,_),(11,_),(12,_),(13,iJ (g.1:Int))]) (λg=>(β1,cb [.slice Ag ng cg,.slice Af nf cf] 45)::(g.2.1++L)) (λg tw=>Le D s2 tw/\(g.1<=ng/\Wr β2 g.2.1 g.2.2/\g.2.2++((p.o.drop g.1).map uF).flatten=(p.o.map uF).flatten)) (λg=>ng - g.1) (λ_ _ _ h hl=>⟨h.1.trans hl,h.2⟩) (0,[(β2,cb [.pointer none,.slice none 0 0] 246)],[]) (.c6 Z Z Z Z Z Z (.nil _)) Z ⟨Le.refl _,⟨aB _,Wr.mk (.inl Z) BV.nil,Z⟩⟩ ?_;intro g s3 I3;obtain ⟨k,Mo,lo⟩:=g;obtain ⟨kh,hWo,hS⟩:=I3.2;simp only at kh hWo hS;dsimp only;have ka:=bj List.length hS;simp only [ac] at ka;refine J6 ?_ ?_<;>intro c4
 .have hk:k < ng:=by omega
  obtain ⟨b,off,x,Ai,ni,ci,rfl,hx,hcx,hix,oh,kK⟩:=jn.at_ Pz hk;have hgx:=hVg x (ay hx);have hg0:=Bo hgx.1;have zK:=Ct hg0.2.2.1;have hdl:=Bl oh;have hni:=hix.1;have hci:=BQ (x.init.map o4);have hct:=o_ x.init hix.u32;refine G6 ?_;refine iI (jR Y6 hk) Z<|iI (kq Y3 Pz Z) Z<|jp Z [_,_,_,_] Y2 λβ5 s5 h5=>Wt 0 [_,_,_,_] Y9<|U1 ?_ ?_<;>intro c6;.have hT:=qGb c6;refine mh jF 11 Z 2 λs7 h7=>H3 ?_;refine za 3 Z (lH Y2 Uo) Z<|za 4 Z (lH Y2 Uo) Z<|H2 ?_;refine iM 7 V<|Jf Z Tt Z Z Z (JD D _ _ Pz _ oh) λs8 h8=>za 8 Z (lH Y2 Uo) Z<|za 9 Z (lH Y2 Uo) Z<|iM 10 V<|Jb Z Tt Z Z Z (AC.mid [_,_] Mo L (Dm D _ _ β2 Mo lo hWo 0 O _ Q14)) ?_;rintro _ _ s9 h9 ⟨M1,rfl,rfl,kL⟩;exact QN
  have g1:=c6;refine J8 ?_ ?_<;>intro c7
  .have hT:=qGc c7;refine G4 ?_;refine iI (lH Y2 Uo) Z<|iI (lH Y2 Uo) Z<|Jc Y3 (AC.mid [_,_] Mo L (Dm D _ _ β2 Mo lo hWo 0 O _ Q14)) ?_;rintro _ _ s8 h8 ⟨M1,rfl,rfl,kL⟩;simp only [iU,iV];have hWx:Wr β2 M1 (lo++uF x):=by rw [hT];exact kL
   refine G5 ?_;refine ki Y3 (jB O O)<|G2 ?_;refine jd ⟨(k+1,M1,lo++uF x),[_],kp,Z,⟨Lc,⟨by simp only;omega,hWx,by simp only;rw [<- hS,Sh hx,an]⟩⟩,Oz⟩
  have g2:=c7;refine J9 ?_ ?_<;>intro c8;.have hT:=qGd g1 g2 (aG O);refine mh jF 11 Z 2 λs9 h9=>H3 ?_;refine za 3 Z (lH Y2 Uo) Z<|za 4 Z (lH Y2 Uo) Z<|H2 ?_;refine iM 7 V<|Jf Z Tt Z Z Z (JD D _ _ Pz _ oh) λku jN=>za 8 Z (lH Y2 Uo) Z<|za 9 Z (lH Y2 Uo) Z<|iM 10 V<|Jb Z Tt Z Z Z (AC.mid [_,_] Mo L (Dm D _ _ β2 Mo lo hWo 0 O _ Q14)) ?_;rintro _ _ kv jP ⟨M1,rfl,rfl,kL⟩;exact QN
  have hT:=qGe g1 g2 (λh=>by rw [h] at hni;simp at hni;omega);refine mh jF 16 Z 2 λs9 h9=>H3 ?_;refine za 3 Z (lH Y2 Uo) Z<|za 4 Z (lH Y2 Uo) Z<|H4 ?_;refine iM 7 V<|Jf Z Tt Z Z Z (JD D _ _ Pz _ oh) λku jN=>za 8 Z (lH Y2 Uo) Z<|za 9 Z (lH Y2 Uo) Z<|iM 12 V<|Jf Z Tt Z Z Z (qo0 D _ _ Pz Ai ni ci x.init Pz O) λkv jP=>za 13 Z (lH Y2 Uo) Z<|za 14 Z (lH Y2 Uo) Z<|iM 15 V<|Jb Z Tt Z Z Z (AC.mid [_,_] Mo L (Dm D _ _ β2 Mo lo hWo 0 O _ Q14)) ?_;rintro _ _ kc jL ⟨M1,rfl,rfl,kL⟩;exact QN
 rw [aK O,dR,bX,aE] at hS;refine wN ?_;refine lw (γ:=Nat×Hl×iR) (λg=>[(2,_),(3,_),(76,_),(77,_),(78,iJ (g.1:Int))]) (λg=>(β1,cb [.slice Ag ng cg,.slice Af nf cf] 45)::(g.2.1++L)) (λg tw=>Le D s3 tw/\(g.1<=nf/\Wr β2 g.2.1 g.2.2/\g.2.2++((p.funcs.drop g.1).map By).flatten=Ah p)) (λg=>nf - g.1) (λ_ _ _ h hl=>⟨h.1.trans hl,h.2⟩) (0,Mo,lo) (.c5 Z Z Z Z Z (.nil _)) Z ⟨Le.refl _,⟨aB _,hWo,by simp only [cn];rw [hS,Ah]⟩⟩ ?_;intro g s5 I5;obtain ⟨k,Mo,lo⟩:=g;obtain ⟨kh,hWo,hS⟩:=I5.2;simp only at kh hWo hS;dsimp only;have ka:=bj List.length hS;simp only [ac] at ka;refine J6 ?_ ?_<;>intro c6
 .have hk:k < nf:=by omega
  obtain ⟨b,off,x,B1,m1,d1,B2,m2,d2,B3,m3,d3,rfl,hx,hcx,od,oc,rE,kK⟩:=ju.at_ Pz hk;obtain ⟨hi1,zJ,hi3,hi4,hi5,hi6⟩:=rD x (ay hx);have zK:=Ct hi1;have qG:=BQ x.params;have ri:=NA x.params λw hw=>hi4 w (aN _ hw);have pT:=BQ x.locals;have qs:=NA x.locals λw hw=>hi4 w (aJ _ hw);have hln:=oc.1;have hbl:=JN x.body 1 hi5 (hUf x (ay hx));refine G6 ?_;refine iI (jR Y6 hk) Z<|iI (kq Y3 Pz Z) Z<|jp Z [_,_,_,_] Y2 λβ7 s7 h7=>Wt 0 [_,_,_,_] Y9<|Nt<|Zs<|mh jF 11 Z 2 λs8 h8=>H3 ?_;refine za 3 Z (lH Y2 Uo) Z<|za 4 Z (lH Y2 Uo) Z<|H2 ?_;refine iM 7 V<|Jf Z Tt Z Z Z (Nv D _ _ B1 m1 d1 x.params Pz O) λs9 h9=>za 8 Z (lH Y2 Uo) Z<|za 9 Z (lH Y2 Uo) Z<|iM 10 V<|Jb Z Tt Z Z Z (AC.mid [_,_] Mo L (Dm D _ _ β2 Mo lo hWo 0 O _ Q14)) ?_;rintro _ _ ku jN ⟨M1,rfl,rfl,kL⟩;refine ⟨(λx hx _=>xA hx),?_⟩;simp only [iU,iV];refine jq V<|sA ?_ ?_<;>intro mN
  .have hlc:x.locals≠[]:=λh=>by rw [h] at hln;simp at hln;omega
   refine G4 ?_;refine Je Y3 (Nv D _ _ B2 m2 d2 x.locals Pz O) λkc jL=>iI (lH Y2 Uo) Z<|iI (lH Y2 Uo) Z<|Jc Y3 (AC.mid [_,_] M1 L (Dm D _ _ β2 M1 _ kL 1 O _ Q14)) ?_;rintro _ _ kY kN ⟨M2,rfl,rfl,mu⟩;simp only [iU,iV];refine G7 ?_;refine Jc Y3 (AC.mid [_,_] M2 L ((Eo d).1 _ _ Pz β2 M2 _ mu B3 m3 d3 x.body 1 Pz hi5 hi6 O Q33)) ?_;rintro _ _ li kz ⟨M3,rfl,rfl,hW3⟩;simp only [iU,iV];refine G4 ?_;refine Jc Y3 (AC.mid [_,_] M3 L (Dm D _ _ β2 M3 _ hW3 0 O [125] Q14)) ?_;rintro _ _ lJ lr ⟨M4,rfl,rfl,oQ⟩;exact HU
  have hlc:x.locals=[]:=aG O;refine G7 ?_;refine Jc Y3 (AC.mid [_,_] M1 L ((Eo d).1 _ _ Pz β2 M1 _ kL B3 m3 d3 x.body 1 Pz hi5 hi6 O Q33)) ?_;rintro _ _ kc jL ⟨M3,rfl,rfl,hW3⟩;simp only [iU,iV];refine G4 ?_;refine Jc Y3 (AC.mid [_,_] M3 L (Dm D _ _ β2 M3 _ hW3 0 O [125] Q14)) ?_;rintro _ _ kY kN ⟨M4,rfl,rfl,oQ⟩;exact HU
 rw [aK O,dR,bX,aE] at hS;refine lF ?_;refine Jc Y3 (qp9 [_] L β2 Mo lo hWo) ?_;rintro _ _ s7 h7 ⟨rfl,rfl⟩;simp only [iU,iV];refine G4 ?_;exact rX [_] L Z Lc λ_ iL=>⟨by rw [<- hS];rfl,rfl⟩
def bT{p:Prop}[Decidable p](h:p):Value.bool (decide p)=.bool true:=by rw [bO h]
def bF{p:Prop}[Decidable p](h:p):Value.bool (!decide p)=.bool false:=by rw [bO h];rfl
def bN{p:Prop}[Decidable p](h:¬ p):Value.bool (!decide p)=.bool true:=by rw [bQ h];rfl
def bZ{p:Prop}[Decidable p](h:¬ p):Value.bool (decide p)=.bool false:=by rw [bQ h]
def AC.isT{f:FuncId}{args:LVal9}{L:Hl}{p:Prop}[Decidable p](h:AC P D f args L s λv L' _=>v=.bool (decide p)/\L=L')(hp:p):AC P D f args L s λv L' _=>v=.bool true/\L=L':=
 h.mono λv L' _ _ ⟨h1,h2⟩=>⟨by rw [h1,bO hp],h2⟩
def sQ{p:Prop} (h:p:=by
 exact ⟨by rw [hE];rfl,rfl⟩):p:=h
def TH{p:Prop} (h:p:=by
 exact rR [_,_,_] L (.agg (us:=[_,_]) 1 Z Z Z Z Z (.nil)) Z Lc λ_ iL=>sQ):p:=h
def VI{p:Prop} (h:p:=by
 refine Wt 0 [_,_] Y9<|G4 ?_;exact rR [_,_] L (.agg (us:=[_,_]) 0 Z Z Z Z Z (.nil)) Z Lc λ_ iL=>sQ):p:=h
def Ye(hG:GP s)(d:Nat)(p:ja)(Ag Af:OAdr9)(ng cg nf cf:Nat)(jQ:jn s Ag ng cg p.o)(j8:ju d s Af nf cf p.funcs):AV9 D 49 [.agg #[.slice Ag ng cg,.slice Af nf cf]] L s (.agg #[iJ (qV p).1,iJ (qV p).2]):=by
 have lX:=jQ.1;have oB:=j8.1;have hU:si p:=⟨jQ.u,j8.u⟩;refine jv (fn:=Tryz.f49) jl Tryz.func49 V Z Tryz.ntmps49 Z (rs:=[.cell 2 24]) Z [(0,_)] Z<|Sr<|kH Y2 λβ1 s1 h1=>jp Z [_,_] Y2 λβ2 s2 h2=>G3 ?_;refine rm 20 (64 < ng\/64 < nf) ?_ ?_
 .refine G6 ?_;refine kT (t:=15) Z ?_ ?_<;>intro c4;.refine G6 ?_;exact Gq
  refine lF ?_;refine jd (kE.mk (Lr D) Sb Z (bJ.2 O))
 intro s3 h3;refine mE Z ?_ ?_<;>intro c5
 .have hE:qV p=(2,-1):=by rw [OI (by rw [qr3 O];simp),qr3 O]
  refine Sr<|Je Y3 (Jx _) λs6 h6=>?_;exact VI
 have g20:¬ (64 < p.o.length\/64 < p.funcs.length):=by omega
 refine Cj ?_;refine Cz [_,_] (γ:=Nat×Nat) (λg=>[(1,_),(2,_),(3,iJ (g.2:Int)),(23,_),(24,_),(25,iJ (g.1:Int))]) (λg=>L) (λg tw=>Le D s3 tw/\(g.1<=ng/\wr p.o 0=wr (p.o.drop g.1) g.1/\g.2=((p.o.take g.1).map λg=>g.init.length).sum/\g.2<=g.1 * 40000)) (λg=>ng - g.1) (λ_ _ _ h hl=>⟨h.1.trans hl,h.2⟩) (0,0) (.c6 Z Z Z Z Z Z (.nil _)) Z ⟨Le.refl _,⟨aB _,Z,Z,aB _⟩⟩ ?_;intro g s6 I6;simp only [iU,iV];obtain ⟨k,z⟩:=g;obtain ⟨kh,hS,hz,hz4⟩:=I6.2;simp only at kh hS hz hz4;dsimp only;refine J6 ?_ ?_<;>intro c7
 .have hk:k < ng:=by omega
  obtain ⟨b,off,x,Ai,ni,ci,rfl,hx,hcx,hix,oh,kK⟩:=jn.at_ Pz hk;have hni:=hix.1;refine G7 ?_;refine iI (jR Y6 hk) Z<|iI (kq Y3 Pz Z) Z<|jp Z [_,_,_,_] Y2 λβ8 s8 h8=>me Y2<|Wt 0 [_,_,_,_] Y9<|Nt<|Zs<|Sr<|iI (jh 0 [_,_,_,_] Y5) Z<|Je Y3 (qqm D _ _ Pz x Ai ni ci Pz oh) λs9 h9=>G9 ?_;refine lD Z ?_ ?_<;>intro my
  .have hE:qV p=(pL x,(k:Int)):=by
     have h9:wr p.o 0=(pL x,(k:Int)):=by rw [hS,qxW hx,aw my]
     have h8:qv p=(pL x,(k:Int)):=by rw [qG2 g20 (by rw [h9];exact my),h9]
     rw [OI (by rw [h8];exact my),h8]
   refine G4 ?_;refine Je Y3 (Jx _) λkv jP=>Wt 1 [_,_] Y9<|G9 ?_;exact TH
  have g33:¬ pL x≠0:=λh=>h my;have hg4:=(Bo (show pL x=0 by simpa using g33)).2.2.2.2.2;refine G7 ?_;refine iI (nD Z Z (show IntKind.i64.wrap ((z:Int)+(ni:Int))=((z+ni:Nat):Int) by rw [jB O O];simp)) Z<|G5 ?_;refine ki Y3 (jB O O)<|G2 ?_;refine jd ⟨(k+1,z+ni),[_],kp,Z,⟨Lc,⟨by simp only;omega,by simp only;rw [hS,qxW hx,am g33],by simp only;rw [qCN hx,<- hz,hni],by simp only;omega⟩⟩,Oz⟩
 rw [aK O] at hS;rw [aI O] at hz;refine vT ?_ ?_<;>intro c8
 .have hE:qV p=(2,-1):=by rw [OI (by rw [j_ g20 hS O];simp),j_ g20 hS O]
  refine Sr<|Je Y3 (Jx _) λs9 h9=>?_;exact VI
 have g44:=qJo g20 hS O;refine Zk<|Zt<|Sr<|iI (jC [] [_] Y3 Z Z Z) Z<|kH Y2 λβ9 s9 h9=>mn ?_;refine Zp ?_;refine lw (γ:=Nat×Nat) (λg=>[(1,_),(2,_),(7,_),(49,_),(50,_),(51,iJ (g.1:Int))]) (λg=>(β9,cb [iJ (g.2:Int)] 194)::_::_::L) (λg tw=>Le D s9 tw/\(g.1<=nf/\g.2<=2000/\yH p.funcs p.o.length 0=yH (p.funcs.drop g.1) (p.o.length+g.1) g.2)) (λg=>nf - g.1) (λ_ _ _ h hl=>⟨h.1.trans hl,h.2⟩) (0,0) (.c6 Z Z Z Z Z Z (.nil _)) Z ⟨Le.refl _,⟨aB _,aB _,Z⟩⟩ ?_;intro g ku I10;obtain ⟨k,ck⟩:=g;obtain ⟨kh,AS,iL⟩:=I10.2;simp only at kh AS iL;dsimp only;refine J6 ?_ ?_<;>intro mN
 .have hk:k < nf:=by omega
  obtain ⟨b,off,x,B1,m1,d1,B2,m2,d2,B3,m3,d3,rfl,hx,hcx,od,oc,rE,kK⟩:=ju.at_ Pz hk;refine G7 ?_;refine iI (jR Y6 hk) Z<|iI (kq Y3 Pz Z) Z<|jp Z [_,_,_,_] Y2 λβ12 kc jL=>me Y2<|Wt 0 [_,_,_,_] Y9<|G5 ?_;refine iI (jh 0 [_,_,_,_] Y5) Z<|Jc Y3 (qoq Pz ck d x B1 B2 B3 m1 d1 m2 d2 m3 d3 Pz Pz Pz AS) ?_;rintro _ _ kY kN ⟨rfl,rfl⟩;refine G9 ?_;refine lD Z ?_ ?_<;>intro rO
  .have hE:qV p=((pO x ck).2,((ng+k:Nat):Int)):=by
     have h8:qv p=((pO x ck).2,((ng+k:Nat):Int)):=by rw [g44,iL,qxS hx,aw rO,lX]
     rw [OI (by rw [h8];exact rO),h8]
   refine G4 ?_;refine Wl 3 Y6<|G2 ?_;refine iI (nD Z Z (show IntKind.i64.wrap ((ng:Int)+(k:Int))=((ng+k:Nat):Int) by rw [jB O O];simp)) Z<|Je Y3 (Jx _) λlJ lr=>Wt 2 [_,_] Y9<|G8 ?_;exact rR [_,_,_,_] L (.agg (us:=[_,_]) 2 Z Z Z Z Z (.nil)) Z Lc λ_ iL=>sQ
  have g60:¬ (pO x ck).2≠0:=λh=>h rO;refine G4 ?_;refine ki Y3 (jB O O)<|G2 ?_;refine jd ⟨(k+1,(pO x ck).1),[_],kp,Z,⟨Lc,⟨by simp only;omega,by simp only;have hw:=X_ (show (pO x ck).2=0 by simpa using g60);omega,by simp only;rw [iL,qxS hx,am g60];rfl⟩⟩,Oz⟩
 rw [aK O] at iL;have xY:qv p=(0,0):=by rw [g44,iL];rfl
 have hV:=PV.of hU (by rw [xY]);refine G8 ?_;refine iI (jh 2 [_,_] Y5) Z<|Je Y3 (qBQ _ Pz d p Ag Af ng cg nf cf Pz Pz hV) λkc jL=>DD Z Z Z Z<|J3 ?_ ?_<;>intro oP;.have hE:=qBj xY O;refine Sr<|Je Y3 (Jx _) λli kz=>Wt 1 [_,_] Y9<|G4 ?_;exact TH
 have hE:=qJl xY O;refine Zk<|Zt<|Sr<|iI (jC [] [_,_] Y3 Z Z Z) Z<|Wt 1 [_,_] Y9<|G3 ?_;exact TH
end
section
variable(L:Hl)(s:World){seen l:List iR}
abbrev En:=iR×Int×Int
def oY(x:jb):En:=if x.kind=1 then (x.name,1,0) else if x.kind=2 then (x.name,3,0) else if x.kind=5 then (x.name,4,(x.exprs.length:Int)) else ([],0,0)
def o6(x:Ex):En:=if x.kind=2 then (x.name,2,0) else if x.kind=3 then (x.name,3,0) else if x.kind=4 then (x.name,4,(x.args.length:Int)) else ([],0,0)
inductive Nd where
 | st (x:jb) (loops:Nat)
 | ex (x:Ex) (loops:Nat)
def Nd.use:Nd->En
 | .st x _=>oY x
 | .ex x _=>o6 x
mutual
def pk:Ex->Nat->List Nd
 | .mk k o n nm az,lp=>.ex (.mk k o n nm az) lp::pM az lp
def pM:List Ex->Nat->List Nd
 | [],_=>[]
 | x::r,lp=>pk x lp++pM r lp
end
mutual
def xZ:jb->Nat->List Nd
 | .mk k nm es b e,lp=>.st (.mk k nm es b e) lp::(pM es lp++(lI b (if k=4 then lp+1 else lp)++lI e (if k=4 then lp+1 else lp)))
def lI:List jb->Nat->List Nd
 | [],_=>[]
 | x::r,lp=>xZ x lp++lI r lp
end
def tW:List jM->List iR->Nat->Int×Int
 | [],_,_=>(0,0)
 | g::r,seen,i=>if g.name∈seen then (8,(i:Int)) else tW r (seen++[g.name]) (i+1)
def tD:List iT->List iR->Nat->Int×Int
 | [],_,_=>(0,0)
 | x::r,seen,i=>if x.name∈seen\/¬ (x.params++x.locals).Nodup then (8,(i:Int)) else tD r (seen++[x.name]) (i+1)
def jy:iR:=[109,97,105,110]
def qg(l:List iT):Int:=kM (λx=>decide (x.name=jy)) l 0
def pK(p:ja):Int×Int:=if (tW p.o [] 0).1≠0 then tW p.o [] 0 else if (tD p.funcs (p.o.map jM.name) p.o.length).1≠0 then tD p.funcs (p.o.map jM.name) p.o.length
 else if qg p.funcs < 0 then (12,-1) else match p.funcs[(qg p.funcs).toNat]? with
  | some x=>if x.params=[] then (0,0) else (9,-1)
  | none=>(0,0)
def mH{w:iR}:∀ {l:List iR} {k:Nat},(0<=kM (λx=>decide (w=x)) l k)↔w∈l
 | [],k=>by simp [kM]
 | x::r,k=>by
  rw [kM];by_cases h:w=x
  . simp [h]
  . rw [am Q4,mH];simp [h]
def Ym{α:Type}{p:α->Bool}{x:α}:∀ {l:List α} {k:Nat},kM p (l++[x]) k=if 0<=kM p l k then kM p l k else if p x=true then ((k+l.length:Nat):Int) else -1
 | [],k=>by simp [kM]
 | y::r,k=>by
  rw [ao,kM,kM];by_cases h:p y=true
  . rw [aw h,aw h,aw O]
  . rw [am h,am h,Ym,au,show k+1+r.length=k+(r.length+1) by omega]
def FQ{α:Type}{p:α->Bool}:∀ {l:List α} {k:Nat},kM p l k < ((k+l.length:Nat):Int)
 | [],k=>by simp [kM];omega
 | y::r,k=>by
  rw [kM];split
  . rw [au];omega
  . have:=FQ (p:=p) (l:=r) (k:=k+1);rw [au];omega
def qro{l:List jM}{x:jM}(h:l[k]?=some x):tW (l.drop k) seen i=if x.name∈seen then (8,(i:Int)) else tW (l.drop (k+1)) (seen++[x.name]) (i+1):=by
 obtain ⟨hk,rfl⟩:=al.1 h;rw [aL hk,tW]
def qrm{l:List iT}{x:iT}(h:l[k]?=some x):tD (l.drop k) seen i=if x.name∈seen\/¬ (x.params++x.locals).Nodup then (8,(i:Int)) else tD (l.drop (k+1)) (seen++[x.name]) (i+1):=by
 obtain ⟨hk,rfl⟩:=al.1 h;rw [aL hk,tD]
def qoY{x:iR}(h:l[k]?=some x)(hn:(l.take k).Nodup)(hx:x ∉ l.take k):(l.take (k+1)).Nodup:=by
 obtain ⟨hk,rfl⟩:=al.1 h;rw [bM hk,bL];refine ⟨hn,by simp,λa ha b hb=>?_⟩;rw [aV] at hb;subst hb;intro e;subst e;exact hx ha
theorem qiF{x:iR}(h:l[k]?=some x)(hx:x∈l.take k):¬ l.Nodup:=by grind [List.take_append_drop,List.nodup_append]
attribute [local irreducible] JC JO JA JB lZ mF mM AC fill iH QE Ev mq
def BR{c i:Int}:AV9 D 19 [iJ c,iJ i] L s (.agg #[iJ c,iJ i]):=by
 refine jv (fn:=f19) jl func19 V Z ntmps19 Z (rs:=[.cell 4 24]) Z [(0,_),(1,_)] Z<|Sr<|jp Z [_,_] Y2 ?_;exact E6
def GO{p:Prop} (h:p:=by
 subst hn;refine ⟨?_,Z⟩;simp only [kB];unfold oY;repeat' split
 all_goals (first|rfl|(exfalso;omega)|(exfalso;simp_all;done))):p:=h
def Wx{p:Prop} (h:p:=by
 exact rR [_,_] L (.agg (us:=[_,_,_]) 0 Z Z Z Z Z (.nil)) Z Lc λ_ iL=>GO):p:=h
def HZ{p:Prop} (h:p:=by
 refine G4 ?_;refine iI (pu Y4) Z<|iI (nh 1 Y3 Pz Z) Z<|iI (jC [(_,_),(_,_),(_,_)] [_,_,_] Y3 Z Z Z) Z<|Wt 0 [_,_,_] Y9<|G6 ?_;exact rR [_,_] L (.agg (us:=[_,_,_]) 0 Z Z Z Z Z (.nil)) Z Lc λ_ iL=>GO):p:=h
def XG(x:jb)(b o:Nat)(A1 A2 A3:OAdr9)(n1 q1 n2 q2 n3 q3:Nat)(hx:iH s b o [iJ x.kind,St x.name,.slice A1 n1 q1,.slice A2 n2 q2,.slice A3 n3 q3])(hn:n1=x.exprs.length):AV9 D 81 [.agg #[.pointer (some ⟨b,o,none⟩),.pointer none,iJ lp]] L s (.agg #[St (oY x).1,iJ (oY x).2.1,iJ (oY x).2.2]):=by
 refine jv (fn:=f81) jl func81 V Z ntmps81 Z (rs:=[.cell 2 183]) Z [(0,_)] Z<|Sr<|kH Y2 λβ1 s1 h1=>jp Z [_,_,_] Y2 λβ2 s2 h2=>G7 ?_;refine iI (jD (v':=.bool true) (NU underlying130 Z) Z) Z<|CX ?_;refine iI (jW Y3 Pz Z) Z<|J9 ?_ ?_<;>intro c3;.exact HZ
 refine J6 ?_ ?_<;>intro c4;.exact HZ
 refine J6 ?_ ?_<;>intro c5;.refine Zs<|pm jF 11 Z [0] Q3 λs6 h6=>H3 ?_;refine za 3 Z (nh 1 Y3 Pz Z) Z<|H3 ?_;refine za 7 Z (nh 2 Y3 Pz Z) Z<|H1 ?_;refine za 9 Z (jC [(_,_),(_,_),(_,_)] [_,_,_] Y3 Z Z Z) Z<|iM 10 V<|Wu Z Tt 0 [_,_,_] Y9 (sM (mT (jT)))<|jq V<|G5 ?_;exact Wx
 refine G5 ?_;refine iI (jC [] [_,_,_] Y3 Z Z Z) Z<|Wt 0 [_,_,_] Y9<|G4 ?_;exact Wx
def GQ{p:Prop} (h:p:=by
 subst hn;refine ⟨?_,Z⟩;simp only [kB];unfold o6;repeat' split
 all_goals (first|rfl|(exfalso;omega)|(exfalso;simp_all;done))):p:=h
def Wy{p:Prop} (h:p:=by
 exact rR [_,_] L (.agg (us:=[_,_,_]) 0 Z Z Z Z Z (.nil)) Z Lc λ_ iL=>GQ):p:=h
def H0{p:Prop} (h:p:=by
 refine G4 ?_;refine iI (pu Y4) Z<|iI (nh 3 Y3 Pz Z) Z<|iI (jC [(_,_),(_,_),(_,_)] [_,_,_] Y3 Z Z Z) Z<|Wt 0 [_,_,_] Y9<|G5 ?_;exact rR [_,_] L (.agg (us:=[_,_,_]) 0 Z Z Z Z Z (.nil)) Z Lc λ_ iL=>GQ):p:=h
def XF(x:Ex)(b o:Nat)(A:OAdr9)(n c:Nat)(hx:iH s b o [iJ x.kind,iJ x.op,iO x.num,St x.name,.slice A n c])(hn:n=x.args.length):AV9 D 81 [.agg #[.pointer none,.pointer (some ⟨b,o,none⟩),iJ lp]] L s (.agg #[St (o6 x).1,iJ (o6 x).2.1,iJ (o6 x).2.2]):=by
 refine jv (fn:=f81) jl func81 V Z ntmps81 Z (rs:=[.cell 2 183]) Z [(0,_)] Z<|Sr<|kH Y2 λβ1 s1 h1=>jp Z [_,_,_] Y2 λβ2 s2 h2=>G7 ?_;refine iI (jD (v':=.bool false) (NU underlying130 Z) Z) Z<|UV ?_;refine iI (jW Y3 Pz Z) Z<|J9 ?_ ?_<;>intro c3;.exact H0
 refine J6 ?_ ?_<;>intro c4;.exact H0
 refine J6 ?_ ?_<;>intro c5;.refine Zs<|pm jF 11 Z [0] Q3 λs6 h6=>H3 ?_;refine za 3 Z (nh 3 Y3 Pz Z) Z<|H3 ?_;refine za 7 Z (nh 4 Y3 Pz Z) Z<|H1 ?_;refine za 9 Z (jC [(_,_),(_,_),(_,_)] [_,_,_] Y3 Z Z Z) Z<|iM 10 V<|Wu Z Tt 0 [_,_,_] Y9 (sM (mT (jT)))<|jq V<|G4 ?_;exact Wy
 refine G5 ?_;refine iI (jC [] [_,_,_] Y3 Z Z Z) Z<|Wt 0 [_,_,_] Y9<|G3 ?_;exact Wy
end
end Go.Proofs.YtapeaicongaggaaGreatDoor
