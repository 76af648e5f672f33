/- Part 11. -/
import Derived.Test.YtemgonlhniicbaaGreatDoorQ42z10
import Derived.Lay
import Derived.Stop.LaidErr
import Derived.Test.YtemgonlhniicbaaGreatDoorCards
import Derived.Test.YtemgonlhniicbaaGreatDoorTie
set_option linter.unusedSectionVars false
set_option linter.unusedVariables false
set_option linter.defProp false
set_option linter.unusedSimpArgs false
set_option linter.unnecessarySimpa false
set_option maxRecDepth 100000
set_option maxHeartbeats 8000000
namespace Go.Proofs.YtemgonlhniicbaaGreatDoor
open Go Go.RowKit Go.Proofs.Tryz
def gd:=@Array.getElem?_eq_some_iff
def gp:=@MakeChecks.laidMetH_plain
def gA:=@World.cells?_some
def gO:=@List.length_eq_one_iff
variable{c vs w c' c'':iG}{ls:List iH}{x:iM}{n q kk F lp base e k2 C C' D d n1 c1 q1 w' a' q' j0 lv kl:Nat}{m m2 m1:MS}{nm l1:iH}{W s W':World}{b ret o b' nu av':Int}{y z:Ex}{ps:List MemPlace}{r:ER (Int×Int)}{p:jc}{az l':List Ex}{P:Program}{B E:List iP}{v:Value}{s1 s2 s0:lH}{fs:Array Field}{tb:TypeId}{A2 Ai:iE}{fn:Func}
section
variable{l:iG}{i j σ:Nat}{v k a:Int}{g:jv}{inp:iH}{s:lH}{L:Hl}{A A1:iE}
structure Im where
 p:jc
 OP:Int->Int->Int->Option Int
 af:iG
 lab:iH->Int
 G:Nat
 H:Nat
 ga:Nat->Nat
variable{I:Im}
def rb(g:jv):Nat:=(max g.num 1).toNat
structure Im.OK(I:Im):Prop where
 code:∀ (i:Nat) (x:iM),I.p.funcs[i]?=some x->∃ a b k:Nat,I.lab (fT (i:Int))=(a:Int)/\Cd I.af I.lab a (cF I.p x i k).1 b/\b<=I.G
 glo:∀ (i:Nat) (g:jv),I.p.o[i]?=some g->g.kind≠1->I.lab (gT (i:Int))=(I.ga i:Int)/\I.G<=I.ga i/\I.ga i+rb g<=I.H
 sep:∀ (i j:Nat) (g h:jv),I.p.o[i]?=some g->I.p.o[j]?=some h->i < j->g.kind≠1->h.kind≠1->I.ga i+rb g<=I.ga j
 ah:I.H<=49152
 gh:I.G<=I.H
 gk:∀ (i:Nat) (g:jv),I.p.o[i]?=some g->1<=g.kind/\g.kind<=3/\iQ g.num
 fn:∀ x∈I.p.funcs,PQ I.p x/\(x.params++x.locals).Nodup
structure MR(I:Im)(c:iG)(m:MS):Prop where
 len:c.length=65536
 code:∀ k:Nat,k < I.G->c[k]?=I.af[k]?
 var:∀ (i:Nat) (g:jv),I.p.o[i]?=some g->g.kind=2->∃ v,m.glo[i]?=some v/\iQ v/\c[I.ga i]?=some v
 ae:∀ (i:Nat) (g:jv),I.p.o[i]?=some g->g.kind=3->∃ l,m.ae[i]?=some l/\(l.length:Int)=g.num/\∀ (j:Nat) (v:Int),l[j]?=some v->iQ v/\c[I.ga i+j]?=some v
 calls:m.calls<=100
 out:m.out.length<=20000
structure FR(x:iM)(F:Nat)(c:iG)(frm:iG):Prop where
 len:frm.length=x.params.length+x.locals.length
 at_:∀ (k:Nat) (v:Int),frm[k]?=some v->iQ v/\c[F+wy x k]?=some v
def SK(I:Im)(c c':iG)(C:Nat):Prop:=∀ k:Nat,I.H<=k->k < C->c'[k]?=c[k]?
def vg(σ:Nat)(s:lH)(m m':MS)(st cd:Int):Prop:=∃ k s',ml s k s'/\s'.output=m'.out/\s'.stop=st/\(st≠0->s'.code=cd)/\k+40 * m'.left<=40 * m.left/\m.left<=m'.left+40 * k+σ/\(st=0->m'.left=0)
def EK(I:Im)(τ:Nat)(s:lH)(c:iG)(C q:Nat)(m:MS)(v:Int)(m':MS):Prop:=∃ k c' b',ml s k (ms c' v b' (C:Int) (m'.calls:Int) (q:Int) m'.inp m'.out)/\MR I c' m'/\SK I c c' C/\m'.frm=m.frm/\m'.calls=m.calls/\iQ v/\k+τ+40 * m'.left<=40 * m.left/\m.left<=m'.left+40 * k
def OE(I:Im)(τ σ:Nat)(s:lH)(c:iG)(C q:Nat)(m:MS):ER Int->Prop
 | .out=>True
 | .fin m' st cd=>vg σ s m m' st cd
 | .ok v m'=>EK I τ s c C q m v m'
def SK.refl:SK I c c C:=λ_ _ _=>rfl
def SK.trans(h:SK I c c' C)(h':SK I c' c'' C')(hC:C<=C'):SK I c c'' C:=λk h1 h2=>(h' k h1 O).trans (h k h1 h2)
def SK.le(h:SK I c c' C)(hC:C'<=C):SK I c c' C':=λk h1 h2=>h k h1 O
def SK.set(hq:q < I.H\/C<=q):SK I c (c.set q v) C:=λk h1 h2=>bt O
def UI{k:Nat}(h:k < x.params.length+x.locals.length):wy x k < jm x:=by unfold wy jm;split<;>omega
def FR.keep{frm:iG}(h:FR x F c frm)(k:SK I c c' C)(hF:I.H<=F)(hC:F+jm x<=C):FR x F c' frm:=
 ⟨h.len,λj v hj=>by
  have h1:=(al.1 hj).1;have h2:=UI (x:=x) (k:=j) (by rw [<- h.len];exact h1);exact ⟨(h.at_ j v hj).1,(k _ O O).trans (h.at_ j v hj).2⟩⟩
def MR.push{I:Im}(h:MR I c m)(hI:I.OK){v:Int}(hq:I.H<=q):MR I (c.set q v) m where
 len:=by rw [cD];exact h.len
 code k hk:=by
  have:=hI.gh;rw [bt O];exact h.code k hk
 var i g hg hk:=by
  obtain ⟨w,h1,h2,h3⟩:=h.var i g hg hk;obtain ⟨_,h5,h6⟩:=hI.glo i g hg O;exact ⟨w,h1,h2,by rw [bt (by unfold rb at h6;omega)];exact h3⟩
 ae i g hg hk:=by
  obtain ⟨l,h1,h2,h3⟩:=h.ae i g hg hk;obtain ⟨_,h5,h6⟩:=hI.glo i g hg O;refine ⟨l,h1,h2,λj w hj=>⟨(h3 j w hj).1,?_⟩⟩;have h7:=(al.1 hj).1;rw [bt (by unfold rb at h6;omega)];exact (h3 j w hj).2
 calls:=h.calls
 out:=h.out
def Ji{p:Prop} (h:p:=by
 rcases Nat.lt_or_gt_of_ne e with h8|h8
 . have:=hI.sep j i g' g xG hg h8 O O;unfold rb at this;omega
 . have:=hI.sep i j g g' hg xG h8 O O;unfold rb at this;omega):p:=h
def MR.setVar(h:MR I c m)(hI:I.OK)(hg:I.p.o[i]?=some g)(hk:g.kind=2)(hv:iQ v):MR I (c.set (I.ga i) v) { m with glo:=m.glo.set i v } where
  len:=by rw [cD];exact h.len
  code k hk:=by
    obtain ⟨_,h5,h6⟩:=hI.glo i g hg O;rw [bt O];exact h.code k hk
  var j g' xG sN:=by
    obtain ⟨w,h1,h2,h3⟩:=h.var j g' xG sN;by_cases e:j=i
    . subst e
      have h4:=(al.1 h3).1;have h5:=(al.1 h1).1;exact ⟨v,bJ h5,hv,bJ h4⟩
    . have h7:I.ga i≠I.ga j:=by
        exact Ji
      exact ⟨w,(bt (λe'=>e e'.symm)).trans h1,h2,(bt h7).trans h3⟩
  ae j g' xG sN:=by
    obtain ⟨l,h1,h2,h3⟩:=h.ae j g' xG sN;refine ⟨l,h1,h2,λk w hw=>⟨(h3 k w hw).1,?_⟩⟩;have h9:=(al.1 hw).1;have h7:I.ga i≠I.ga j+k:=by
      have e:j≠i:=λe=>by subst e;rw [hg] at xG;cases xG;omega
      exact Ji
    exact (bt h7).trans (h3 k w hw).2
  calls:=h.calls
  out:=h.out
def Jh{p:Prop} (h:p:=by
 rcases Nat.lt_or_gt_of_ne e' with h8|h8
 . have:=hI.sep j i g' g xG hg h8 O O;unfold rb at this;omega
 . have:=hI.sep i j g g' hg xG h8 O O;unfold rb at this;omega):p:=h
def MR.setArr(h:MR I c m)(hI:I.OK)(hg:I.p.o[i]?=some g)(hk:g.kind=3)(hl:m.ae[i]?=some l)(he:e < l.length)(hv:iQ v):MR I (c.set (I.ga i+e) v) { m with ae:=m.ae.set i (l.set e v) } where
  len:=by rw [cD];exact h.len
  code k hk:=by
    obtain ⟨_,h5,h6⟩:=hI.glo i g hg O;rw [bt O];exact h.code k hk
  var j g' xG sN:=by
    obtain ⟨w,h1,h2,h3⟩:=h.var j g' xG sN;obtain ⟨l',jG,jM,_⟩:=h.ae i g hg hk;rw [hl] at jG;cases jG;have e':j≠i:=λe=>by subst e;rw [hg] at xG;cases xG;omega
    have h7:I.ga i+e≠I.ga j:=by
      exact Jh
    exact ⟨w,h1,h2,(bt h7).trans h3⟩
  ae j g' xG sN:=by
    obtain ⟨l',h1,h2,h3⟩:=h.ae j g' xG sN;have hli:=(al.1 hl).1;by_cases e':j=i
    . subst e'
      rw [hl] at h1;cases h1;refine ⟨l.set e v,bJ hli,by rw [cD];exact h2,λk w hw=>?_⟩;by_cases ek:k=e
      . subst ek
        rw [bJ he] at hw;cases hw;obtain ⟨_,h8⟩:=h3 k _ (ap he);exact ⟨hv,bJ (al.1 h8).1⟩
      . rw [bt (λh=>ek h.symm)] at hw
        exact ⟨(h3 k w hw).1,(bt O).trans (h3 k w hw).2⟩
    . obtain ⟨l2,jG,jM,_⟩:=h.ae i g hg hk
      rw [hl] at jG;cases jG;refine ⟨l',(bt (λe=>e' e.symm)).trans h1,h2,λk w hw=>⟨(h3 k w hw).1,?_⟩⟩;have h9:=(al.1 hw).1;have h7:I.ga i+e≠I.ga j+k:=by
        exact Jh
      exact (bt h7).trans (h3 k w hw).2
  calls:=h.calls
  out:=h.out
def K2{uk na:Int}(h:pf p x (nm,uk,na)=0)(h0:uk≠0):(0<=k8 x nm/\(uk=1\/uk=2))\/(¬ 0<=k8 x nm/\((∃ (i:Nat) (g:jv),gi p nm=(i:Int)/\mS p nm=(i:Int)/\p.o[i]?=some g/\((g.kind=1/\uk=2)\/(g.kind=2/\(uk=1\/uk=2))\/(g.kind≠1/\g.kind≠2/\uk=3)))\/(uk=4/\∃ (i:Nat) (f:iM),fi p nm=(i:Int)/\r9 p nm=(i:Int)/\p.funcs[i]?=some f/\(f.params.length:Int)=na))):=by
  unfold pf at h;rw [ak h0] at h;split at h
  . cases h
  rename_i h1;split at h
  . cases h
  rename_i h2;have h2:=eG.1 h2;split at h
  . cases h
  rename_i h3;simp only at h1 h2 h3;unfold k8;by_cases hp:0<=j6 (λy=>decide (nm=y)) x.params 0
  . have hm:(j7 p x nm).1.1=1:=by rw [j7,au hp]
    rw [hm] at h2;rw [au hp];exact .inl ⟨hp,by rcases h2 with h2|h2|h2<;>omega⟩
  by_cases hl:0<=j6 (λy=>decide (nm=y)) x.locals 0
  . have hm:(j7 p x nm).1.1=2:=by rw [j7,ak hp,au hl]
    rw [hm] at h2;rw [ak hp,au hl];exact .inl ⟨O,by rcases h2 with h2|h2|h2<;>omega⟩
  refine .inr ⟨by rw [ak hp,ak hl];omega,?_⟩;have hm:j7 p x nm=match (jY p).find? λe=>decide (e.1=nm) with
      | some e=>(e.2,true)
      | none=>((0,0),false):=by rw [j7,ak hp,ak hl];rfl
  rw [show jY p=gE p++fE p from rfl,ff] at hm;cases hg:(gE p).find? λe=>decide (e.1=nm) with
  | some e=>
    rw [hg] at hm;have hf:mA (gE p) nm=some e.2.2:=by rw [mA,hg];rfl
    obtain ⟨g1,g2⟩:=qKY ⟨_,hf⟩;obtain ⟨i,hi,rfl⟩:=dI.1 (cJ hg);have hgi:gi p nm=(i:Int):=by rw [gi,hf];rfl
    refine .inl ⟨i,p.o[i],hgi,g1▸hgi,ap hi,?_⟩;exact XC
  | none=>
    rw [hg,ib] at hm;cases hf:(fE p).find? λe=>decide (e.1=nm) with
    | none=>rw [hf] at hm;rw [hm] at h1;exact absurd rfl h1
    | some e=>
      rw [hf] at hm;have hf':mA (fE p) nm=some e.2.2:=by rw [mA,hf];rfl
      obtain ⟨g1,g2⟩:=qKT ⟨_,hf'⟩;obtain ⟨i,hi,rfl⟩:=dI.1 (cJ hf);have hfi:fi p nm=(i:Int):=by rw [fi,hf'];rfl
      rw [hm] at h2 h3;simp only [uX] at h2;simp only [Gq (k:=i) rfl (ap hi)] at h3;have h4:uk=4:=O
      exact .inr ⟨h4,i,_,hfi,g1▸hfi,ap hi,by
        have:=eG.1 (λk=>h3 ⟨h4,k⟩);omega⟩
mutual
def dX:Ex->Nat
 | .mk _ _ _ _ az=>1+tr az
def tr:List Ex->Nat
 | []=>0
 | x::r=>max (dX x) (tr r)
end
mutual
def qEO:∀ (x:Ex) (lv c:Nat),(rr x lv c).2=0->lv+dX x<=17
 | .mk k o n nm az,lv,c,h=>by
  simp only [rr] at h;split at h
  . cases h
  rename_i h1;split at h
  . rename_i h2;exact absurd h h2
  have:=TX az (lv+1) (c+1) h;rw [dX];omega
def TX:∀ (l:List Ex) (lv c:Nat),(mD l lv c).2=0->tr l=0\/lv+tr l<=17
 | [],_,_,_=>.inl rfl
 | x::r,lv,c,h=>by
  simp only [mD] at h;split at h
  . rename_i h1;exact absurd h h1
  rename_i h1;have h2:=qEO x lv c Q5;have h3:=TX r lv _ h;rw [tr];omega
end
def OE.bind{τ σ1:Nat}{c1:iG}{C1 δ:Nat}{r:ER Int}{β:Type}{K:Int->MS->ER β}(X:ER β->Prop)(hX:X .out)(hF:∀ m' st cd,vg σ s m m' st cd->X (.fin m' st cd))(h:OE I τ σ1 s1 c1 C1 q1 m1 r)(R:ml s j s1)(h1:j+40 * m1.left<=40 * m.left)(h2:m.left<=m1.left+40 * j+δ)(h3:σ1+δ<=σ)(hK:∀ v m2,EK I τ s1 c1 C1 q1 m1 v m2->X (K v m2)):X (r.and K):=by
 cases r with
 | out=>exact hX
 | fin m' st cd=>
  obtain ⟨k,s',r1,r2,r3,r4,r5,r6,r7⟩:=h;exact hF _ _ _ ⟨j+k,s',R.trans r1,r2,r3,r4,O,O,r7⟩
 | ok v m2=>exact hK v m2 h
def qoS{β:Type}{K:MS->ER β}(X:ER β->Prop)(hs:s.stop=0)(ho:s.output=m.out)(hF:∀ m' st cd,vg σ s m m' st cd->X (.fin m' st cd))(hK:m.left≠0->X (K { m with left:=m.left - 1 })):X ((rp m).and λ_ m=>K m):=by
  unfold rp;by_cases h:m.left=0
  . rw [au h]
    exact hF _ _ _ ⟨0,s,.nil _,ho,hs,λk=>absurd rfl k,O,O,λ_=>h⟩
  . rw [ak h];exact hK h
def EN(o x y:Int):Option Int:=
 if o=4 then some (jR 3 x y) else if o=5 then (if y=0 then none else some (jR 4 x y)) else if o=6 then (if y=0 then none else some (jR 5 x y))
 else if o=7 then some (jR 9 x y) else if o=8 then some (jR 10 x y) else if o=9 then some (jR 6 x y) else if o=10 then some (jR 1 x y)
 else if o=11 then some (jR 2 x y) else if o=12 then some (jR 7 x y) else if o=13 then some (jR 8 x y) else if o=14 then some (jR 11 x y)
 else if o=15 then some (if jR 11 x y=0 then 1 else 0) else if o=16 then some (jR 12 x y) else if o=17 then some (if jR 12 y x=0 then 1 else 0)
 else if o=18 then some (jR 12 y x) else some (if jR 12 x y=0 then 1 else 0)
def Jt(c:iG)(x y:Int)(r pc q:Nat)(b d:Int)(i oo:iH):Option Int->Prop
 | some v=>iQ v/\∃ k b',1<=k/\k<=2/\ml (ms c y b ((r+1:Nat):Int) d pc i oo) k (ms c v b' r d q i oo)
 | none=>∃ s',ml (ms c y b ((r+1:Nat):Int) d pc i oo) 1 s'/\s'.output=oo/\s'.stop=1/\s'.code=2
section
variable{lab:iH->Int}{x y d:Int}{i oo:iH}{r pc:Nat}{n:iH}
def Wz{t:Int}:iQ (if t=0 then (1:Int) else 0):=by split<;>exact ⟨O,O⟩
def AB{j:Int}{z:Ins}{u w:Tm}(je:Cd c lab pc ([n].map .op) q)(hr:r < 65536)(hv:c[r]?=some x)(hn:wU iW n=k)(hz:xa iW.U k=some z)(ho:z.I=false)(ha:z.ad=[⟨2,2,⟨1,2⟩,⟨0,1⟩⟩,⟨13,1,⟨1,2⟩,⟨0,0⟩⟩,⟨j,0,u,w⟩])(hj:(j<=3\/6<=j)/\j<=12)(hA:jR j (lu (ms c y x r d ((pc+1:Nat):Int) i oo) 0 u) (lu (ms c y x r d ((pc+1:Nat):Int) i oo) 0 w)=v)(hU:iQ v):Jt c x y r pc q b d i oo (some v):=by
 obtain ⟨h1,h2,_⟩:=je.op;have h3:pc+1=q:=h2;rw [hn] at h1;exact ⟨hU,1,x,ay _,O,h3▸ml.one rfl (YL h1 hz ho ha hj hv hr hA)⟩
def U6{j:Int}{z:Ins}{u w:Tm}(je:Cd c lab pc ([n,ra].map .op) q)(hr:r < 65536)(hv:c[r]?=some x)(hn:wU iW n=k)(hz:xa iW.U k=some z)(ho:z.I=false)(ha:z.ad=[⟨2,2,⟨1,2⟩,⟨0,1⟩⟩,⟨13,1,⟨1,2⟩,⟨0,0⟩⟩,⟨j,0,u,w⟩])(hj:(j<=3\/6<=j)/\j<=12)(hA:jR j (lu (ms c y x r d ((pc+1:Nat):Int) i oo) 0 u) (lu (ms c y x r d ((pc+1:Nat):Int) i oo) 0 w)=v):Jt c x y r pc q b d i oo (some (if v=0 then 1 else 0)):=by
 obtain ⟨h1,h2,_⟩:=je.op;obtain ⟨h4,h5,_⟩:=Cd.op h2;have h3:pc+1+1=q:=h5;rw [hn] at h1;exact ⟨Wz,2,x,O,ay _,h3▸(ml.one rfl (YL h1 hz ho ha hj hv hr hA)).trans (ml.one rfl (DG h4))⟩
def qzO{j:Int}{z:Ins}(je:Cd c lab pc ([n].map .op) q)(hr:r < 65536)(hv:c[r]?=some x)(hn:wU iW n=k)(hz:xa iW.U k=some z)(ho:z.I=false)(ha:z.ad=[⟨2,2,⟨1,2⟩,⟨0,1⟩⟩,⟨13,1,⟨1,2⟩,⟨0,0⟩⟩,⟨18,0,⟨0,2⟩,⟨1,0⟩⟩,⟨j,0,⟨1,1⟩,⟨1,0⟩⟩])(hj:j=4\/j=5)(hU:iQ (jR j x y)):Jt c x y r pc q b d i oo (if y=0 then none else some (jR j x y)):=by
  obtain ⟨h1,h2,_⟩:=je.op;have h3:pc+1=q:=h2;rw [hn] at h1;have h4:=qK6 (a:=y) (b:=b) (d:=d) (i:=i) (o:=oo) h1 hz ho ha hj hv hr;by_cases h0:y=0
  . rw [au h0] at h4 ⊢
    exact ⟨_,ml.one rfl h4,rfl,rfl,rfl⟩
  . rw [ak h0] at h4 ⊢
    exact ⟨hU,1,x,ay _,O,h3▸ml.one rfl h4⟩
def qIP(h4:4<=o)(yh:o<=19)(hx:iQ x)(hy:iQ y)(je:Cd c lab pc ((yu o).map .op) q)(hr:r < 65536)(hv:c[r]?=some x):Jt c x y r pc q b d i oo (EN o x y):=by
 have hc:o=4\/o=5\/o=6\/o=7\/o=8\/o=9\/o=10\/o=11\/o=12\/o=13\/o=14\/o=15\/o=16\/o=17\/o=18\/o=19:=O
 rcases hc with rfl|rfl|rfl|rfl|rfl|rfl|rfl|rfl|rfl|rfl|rfl|rfl|rfl|rfl|rfl|rfl
 . exact AB (n:=MK) je hr hv rfl rfl rfl rfl Dc rfl (wS hx hy)
 . exact qzO (n:=MI) je hr hv rfl rfl rfl rfl Dc (wS hx hy)
 . exact qzO (n:=MJ) je hr hv rfl rfl rfl rfl Dc (wS hx hy)
 . exact AB (n:=ZO) je hr hv rfl rfl rfl rfl Dc rfl (wS hx hy)
 . exact AB (n:=qz4) je hr hv rfl rfl rfl rfl Dc rfl (wS hx hy)
 . exact AB (n:=MH) je hr hv rfl rfl rfl rfl Dc rfl (wS hx hy)
 . exact AB (n:=MF) je hr hv rfl rfl rfl rfl Dc rfl (wS hx hy)
 . exact AB (n:=E2) je hr hv rfl rfl rfl rfl Dc rfl (wS hx hy)
 . exact AB (n:=wOr) je hr hv rfl rfl rfl rfl Dc rfl (wS hx hy)
 . exact AB (n:=ML) je hr hv rfl rfl rfl rfl Dc rfl (wS hx hy)
 . exact AB (n:=PX) je hr hv rfl rfl rfl rfl Dc rfl (wS hx hy)
 . exact U6 (n:=PX) je hr hv rfl rfl rfl rfl Dc rfl
 . exact AB (n:=PR) je hr hv rfl rfl rfl rfl Dc rfl (wS hx hy)
 . exact U6 (n:=PS) je hr hv rfl rfl rfl rfl Dc rfl
 . exact AB (n:=PS) je hr hv rfl rfl rfl rfl Dc rfl (wS hy hx)
 . exact U6 (n:=PR) je hr hv rfl rfl rfl rfl Dc rfl
end
structure Cy(OP:Int->Int->Int->Option Int):Prop where
 una:∀ o a,1<=o->o<=3->iQ a->(OP o a 0).getD 0=if o=1 then (if a=0 then 1 else 0) else mc ((if o=3 then 4294967295 else 0) - a)
 bin:∀ o x y,4<=o->o<=19->iQ x->iQ y->OP o x y=EN o x y
 and_:∀ x y,OP 20 x y=some (if x=0\/y=0 then 0 else 1)
 or_:∀ x y,OP 21 x y=some (if x=0/\y=0 then 0 else 1)
def PE(I:Im)(n:Nat):Prop:=∀ (x:iM) (e:Ex) (lp w kk a q:Nat) (m:MS) (c:iG) (F:Nat) (av b:Int),x∈I.p.funcs->om e=true->ph e=true->(∀ nd∈oA e lp,jJ I.p x nd=0)->Cd I.af I.lab a (cE I.p x e w kk).1 q->q<=I.G->MR I c m->FR x F c m.frm->I.H<=F->F+jm x+w+6 * dX e+120 * (100 - m.calls)<=65530 ->
 OE I 2 (dX e) (ms c av b ((F+jm x+w:Nat):Int) (m.calls:Int) (a:Int) m.inp m.out) c (F+jm x+w) q m ((iS I.p I.OP n).e x e m)
def MN(I:Im)(s:lH)(c:iG)(B C q:Nat)(m:MS):ER Int->Prop
 | .out=>True
 | .fin m' st cd=>vg 0 s m m' st cd
 | .ok v m'=>∃ k c' b',ml s k (ms c' v b' (C:Int) (m'.calls:Int) (q:Int) m'.inp m'.out)/\MR I c' m'/\SK I c c' B/\m'.frm=m.frm/\m'.calls=m.calls/\iQ v/\k+3+40 * m'.left<=40 * m.left/\m.left<=m'.left+40 * k
def PC(I:Im)(n:Nat):Prop:=∀ (i:Nat) (f:iM) (vs:iG) (a:Nat) (m:MS) (c:iG) (B:Nat) (av b:Int),I.p.funcs[i]?=some f->vs.length=f.params.length->(∀ k v,vs[k]?=some v->iQ v/\c[B+k]?=some v)->I.af[a]?=some 28->I.af[a+1]?=some (I.lab (fT (i:Int)))->a+2<=I.G->MR I c m->I.H<=B->B+6+120 * (100 - m.calls)<=65530 ->
 MN I (ms c av b ((B+f.params.length:Nat):Int) (m.calls:Int) (a:Int) m.inp m.out) c B (B+f.params.length) (a+2) { m with left:=m.left+1 } ((iS I.p I.OP n).c i vs m)
def vg.pre{σ1:Nat}{m':MS}{st cd:Int}(h:vg σ1 s1 m1 m' st cd)(R:ml s j s1)(h1:j+40 * m1.left<=40 * m.left)(h2:m.left+σ1<=m1.left+40 * j+σ):vg σ s m m' st cd:=by
 obtain ⟨k,s',r1,r2,r3,r4,r5,r6,r7⟩:=h;exact ⟨j+k,s',R.trans r1,r2,r3,r4,O,O,r7⟩
def MR.cell(h:MR I c m){k:Nat}(hv:I.af[k]?=some v)(hk:k < I.G):c[k]?=some v:=(h.code k hk).trans hv
def AK(I:Im)(s:lH)(c:iG)(C n q:Nat)(m:MS)(vs:iG)(m':MS):Prop:=∃ k c' a' b',ml s k (ms c' a' b' ((C+n:Nat):Int) (m'.calls:Int) (q:Int) m'.inp m'.out)/\MR I c' m'/\SK I c c' C/\m'.frm=m.frm/\m'.calls=m.calls/\vs.length=n/\(∀ k v,vs[k]?=some v->iQ v/\c'[C+k]?=some v)/\k+40 * m'.left<=40 * m.left/\m.left<=m'.left+40 * k
def OA(I:Im)(σ:Nat)(s:lH)(c:iG)(C n q:Nat)(m:MS):ER iG->Prop
 | .out=>True
 | .fin m' st cd=>vg σ s m m' st cd
 | .ok vs m'=>AK I s c C n q m vs m'
def qqJ{I:Im}{n:Nat}(hI:I.OK)(hE:PE I n){x:iM}(hx:x∈I.p.funcs)(lp:Nat):∀ (l:List Ex) (w kk a q:Nat) (m:MS) (c:iG) (F:Nat) (av b:Int),pE l=true->rn l=true->(∀ nd∈oY l lp,jJ I.p x nd=0)->Cd I.af I.lab a (cC I.p x l w kk).1 q->q<=I.G->MR I c m->FR x F c m.frm->I.H<=F->F+jm x+w+l.length+6 * tr l+120 * (100 - m.calls)<=65530 ->
  OA I (tr l) (ms c av b ((F+jm x+w:Nat):Int) (m.calls:Int) (a:Int) m.inp m.out) c (F+jm x+w) l.length q m (nn ((iS I.p I.OP n).e x) l m)
 | [],w,kk,a,q,m,c,F,av,b,_,_,_,je,_,hM,_,_,_=>by
  unfold cC at je;cases (show a=q from je);exact ⟨0,c,av,b,.nil _,hM,.refl,rfl,rfl,rfl,λk v h=>by simp at h,O,O⟩
 | y::r,w,kk,a,q,m,c,F,av,b,hv,hu,hd,je,hq,hM,hF,hH,hr=>by
  simp only [pE,rn,aA] at hv hu;unfold cC at je;obtain ⟨q1,d1,d2⟩:=je.app;obtain ⟨e1,e2,e3⟩:=d2.op;rw [tr,aw] at hr;rw [tr,nn];refine OE.bind (X:=OA I _ _ c _ _ q m) Tt (λ_ _ _ h=>h) (hE x y lp w kk a q1 m c F av b hx hv.1 hu.1 (λnd h=>hd nd (aI _ h)) d1 O hM hF hH O) (.nil _) (j:=0) (δ:=0) O O O λv m2 h=>?_;obtain ⟨k,c2,b2,R,ju,hS,hf,hc,hU,k1,k2⟩:=h;have hl:=ju.len;have hP:ml _ 1 _:=ml.one (a:=ms c2 v b2 ((F+jm x+w:Nat):Int) (m2.calls:Int) (q1:Int) m2.inp m2.out) rfl (KU (ju.cell e1 O) O hl);have iD:SK I c2 (c2.set (F+jm x+w) v) (F+jm x+w):=.set (.inr (ay _));have mK:FR x F (c2.set (F+jm x+w) v) m2.frm:=by rw [hf];exact hF.keep (hS.trans iD (ay _)) hH O
  have ih:=qqJ hI hE hx lp r (w+1) _ (q1+1) q m2 (c2.set (F+jm x+w) v) F v b2 hv.2 hu.2 (λnd h=>hd nd (aF _ h)) e2 hq (ju.push hI O) mK hH Q21;have R2:=R.trans hP;rw [show F+jm x+(w+1)=F+jm x+w+1 by omega] at ih;cases hrr:nn ((iS I.p I.OP n).e x) r m2 with
  | out=>trivial
  | fin m' st cd=>rw [hrr] at ih;exact vg.pre ih R2 O O
  | ok vs m3=>
   rw [hrr] at ih;obtain ⟨k',c3,a3,b3,R3,l0,oM,xF,sK,yp,hv3,k3,k4⟩:=ih;refine ⟨_,c3,a3,b3,by rw [aw,show F+jm x+w+(r.length+1)=F+jm x+w+1+r.length by omega];exact R2.trans R3,l0,(hS.trans iD (ay _)).trans oM O,xF.trans hf,sK.trans hc,by rw [aw,yp,aw],λk v' hk=>?_,O,O⟩;cases k with
   | zero=>
    simp only [dj,cZ] at hk;subst hk;exact ⟨hU,(oM _ O O).trans (bJ O)⟩
   | succ k=>
    rw [bH] at hk;have:=hv3 k v' hk;exact ⟨this.1,by rw [show F+jm x+w+(k+1)=F+jm x+w+1+k by omega];exact this.2⟩
abbrev dn(m:MS):MS:={ m with left:=m.left - 1 }
def MR.dn{I:Im}{c:iG}{m:MS}(h:MR I c m):MR I c (dn m):=⟨h.len,h.code,h.var,h.ae,h.calls,h.out⟩
def EK.leaf(hs:s.stop=0)(h:l9 iW s=ms c v b' (C:Int) (m.calls:Int) (q:Int) m.inp m.out)(hM:MR I c m)(hU:iQ v)(hl:m.left≠0):EK I 2 s c C q m v (dn m):=
 ⟨1,c,b',.one hs h,hM.dn,.refl,rfl,rfl,hU,by show 1+2+40 * (m.left - 1)<=40 * m.left;omega,by show m.left<=m.left - 1+40 * 1;omega⟩
section
variable{I:Im}(hI:I.OK)(hx:x∈I.p.funcs){w a:Nat}{av:Int}(hq:q<=I.G)(hM:MR I c m)(hF:FR x F c m.frm)(hl:m.left≠0)
include hq hM hl
theorem qzm(je:Cd I.af I.lab a [.num pX nu] q)(hU:iQ nu):EK I 2 (ms c av b (C:Int) (m.calls:Int) (a:Int) m.inp m.out) c C q m nu (dn m):=by
 obtain ⟨c1,c2,c3,c4⟩:=je.num Dc Dc;cases (show a+2=q from c3);exact .leaf rfl (Lf (hM.cell c1 O) (hM.cell c2 O)) hM hU hl
theorem qHH(je:Cd I.af I.lab a [.op Nr] q):OE I 2 0 (ms c av b (C:Int) (m.calls:Int) (a:Int) m.inp m.out) c C q m (yJ (dn m)):=by
 obtain ⟨c1,c3,c4⟩:=je.op;cases (show a+1=q from c3);have h:=qK4 (a:=av) (b:=b) (C:=(C:Int)) (d:=(m.calls:Int)) (i:=m.inp) (o:=m.out) (hM.cell c1 O);unfold yJ;show OE I 2 0 _ c C _ m (match m.inp with|[]=>_|y::r=>_);cases hi:m.inp with
 | nil=>
  rw [hi] at h;exact ⟨1,c,b,.one rfl (by rw [h];exact bl (λz=>ms c _ b _ _ _ z _) hi.symm),hM.dn,.refl,rfl,rfl,⟨O,O⟩,by show 1+2+40 * (m.left - 1)<=40 * m.left;omega,by show m.left<=m.left - 1+40 * 1;omega⟩
 | cons y r=>
  rw [hi] at h;have:=y.toNat_lt;exact ⟨1,c,b,.one rfl h,⟨hM.len,hM.code,hM.var,hM.ae,hM.calls,hM.out⟩,.refl,rfl,rfl,⟨O,O⟩,by show 1+2+40 * (m.left - 1)<=40 * m.left;omega,by show m.left<=m.left - 1+40 * 1;omega⟩
include hI hx hF
def IP{p:Prop} (h:p:=by
 have l1:=Pc (q:=λy:iH=>decide (nm=y)) (l:=x.params) (k:=0);have l2:=Pc (q:=λy:iH=>decide (nm=y)) (l:=x.locals) (k:=0);split
 . omega
 . split<;>omega):p:=h
theorem qBV(je:Cd I.af I.lab a [cN I.p x nm w] q)(hu:pf I.p x (nm,2,0)=0)(hr:F+jm x+w<=65536):EK I 2 (ms c av b ((F+jm x+w:Nat):Int) (m.calls:Int) (a:Int) m.inp m.out) c (F+jm x+w) q m (xb I.p x nm (dn m)) (dn m):=by
  obtain ⟨_,kO⟩:=hI.fn x hx;have hs:=qs9 (nm:=nm) kO;unfold cN at je;rcases K2 hu Dc with ⟨h1,_⟩|⟨h1,h2|h2⟩
  . rw [au h1] at hs
    rw [hs] at je;obtain ⟨c1,c2,c3,c4⟩:=je.num Dc Dc;cases (show a+2=q from c3);have kZ:(k8 x nm).toNat < x.params.length+x.locals.length:=by
      unfold k8 at h1 ⊢;exact IP
    have hv:=ap (l:=m.frm) (i:=(k8 x nm).toNat) (by rw [hF.len];exact kZ);obtain ⟨hU,hc⟩:=hF.at_ _ _ hv;have ha:=UI kZ;have he:xb I.p x nm (dn m)=m.frm[(k8 x nm).toNat]'(by rw [hF.len];exact kZ):=by
      rw [xb,au h1];show m.frm.getD _ 0=_;rw [aG,hv];rfl
    rw [he];refine .leaf Z (qCi (q:=F+wy x (k8 x nm).toNat) (hM.cell c1 O) (hM.cell c2 O) ?_ hc) hM hU hl;unfold mc;omega
  . obtain ⟨i,g,h3,h4,h5,h6⟩:=h2
    rw [ak h1] at hs;rw [hs,h3] at je;obtain ⟨_,_,gu⟩:=hI.gk i g h5;have ri:zK I.p (i:Int)=g.kind:=BE h5;have he:xb I.p x nm (dn m)=if g.kind=1 then g.num else m.glo.getD i 0:=by
      rw [xb,ak h1,h4,aD,aG,h5];rfl
    rw [he];rw [ri] at je;by_cases hk:g.kind=1
    . rw [au hk] at je ⊢
      rw [show vN I.p (i:Int)=g.num by rw [vN,aD,h5]] at je;exact qzm hq hM hl je gu
    . rw [ak hk] at je ⊢
      obtain ⟨c1,c2,c3,c4⟩:=je.ref;cases (show a+2=q from c3);obtain ⟨g1,g2,g3⟩:=hI.glo i g h5 hk;obtain ⟨v,v1,v2,v3⟩:=hM.var i g h5 O;have hv:m.glo.getD i 0=v:=by rw [aG,v1];rfl
      rw [hv];rw [g1] at c2;exact .leaf rfl (qH8 (hM.cell c1 O) (hM.cell c2 O) v3) hM v2 hl
  . exact absurd h2.1 Dc
end
section
variable{I:Im}(hI:I.OK)(hO:Cy I.OP)(hE:PE I n)(hC:PC I n)(hx:x∈I.p.funcs){w a:Nat}{av:Int}(hq:q<=I.G)(hM:MR I c m)(hF:FR x F c m.frm)(hH:I.H<=F)(hl:m.left≠0)
include hE hx hM hF hH hl
theorem zl{β:Type}(hv:om y=true)(hu:ph y=true)(hd:∀ nd∈oA y lp,jJ I.p x nd=0){j:Nat}{s:lH}(je:Cd I.af I.lab a' (cE I.p x y w' kk).1 q')(hq':q'<=I.G)(qv:MR I c' m)(hS:SK I c c' (F+jm x+w))(hw:w<=w')(hD:dX y+1<=D)(hr:F+jm x+w'+6 * dX y+120 * (100 - m.calls)<=65530)
  (R:ml s j (ms c' av' b' ((F+jm x+w':Nat):Int) (m.calls:Int) (a':Int) m.inp m.out)) (hj:j<=40) {K:Int->MS->ER β} (X:ER β->Prop) (hX:X .out) (jX:∀ m' st cd,vg D s m m' st cd->X (.fin m' st cd))
  (hK:∀ v m2 k c2 b2,ml s k (ms c2 v b2 ((F+jm x+w':Nat):Int) (m2.calls:Int) (q':Int) m2.inp m2.out)->MR I c2 m2->SK I c' c2 (F+jm x+w')->m2.frm=m.frm->m2.calls=m.calls->iQ v->k+42+40 * m2.left<=40 * m.left+j->m.left<=m2.left+40 * k+1->FR x F c2 m2.frm->1+j<=k+1->X (K v m2)):X (((iS I.p I.OP n).e x y (dn m)).and K):=by
 have hF':FR x F c' m.frm:=hF.keep hS hH O;refine OE.bind X hX jX (hE x y lp w' kk a' q' (dn m) c' F av' b' hx hv hu hd je hq' qv.dn hF' hH hr) R (by show j+40 * (m.left - 1)<=40 * m.left;omega) (δ:=1) (by show m.left<=m.left - 1+40 * j+1;omega) hD λv m2 h=>?_;obtain ⟨k,c2,b2,R2,ju,iD,hf,hc,hU,k1,k2⟩:=h;have k1:k+2+40 * m2.left<=40 * (m.left - 1):=k1;have k2:m.left - 1<=m2.left+40 * k:=k2;have hf:m2.frm=m.frm:=hf;exact hK v m2 (j+k) c2 b2 (R.trans R2) ju iD hf hc hU O O (by rw [hf];exact hF'.keep iD hH O) O
variable{σ:Nat}
include hI hq
def Xl{p:Prop} (h:p:=by
 rw [ak O] at hb;exact ⟨_,_,R.trans (.one rfl hb),rfl,rfl,λ_=>rfl,by omega,by omega,λh=>absurd h Dc⟩):p:=h
theorem qvV(hv:om y=true)(hu:ph y=true)(hd:∀ nd∈oA y lp,jJ I.p x nd=0)(hn:pf I.p x (nm,3,0)=0)(je:Cd I.af I.lab a ((cE I.p x y w kk).1++[.num DQ (vN I.p (gi I.p nm)),.ref O8 (gT (gi I.p nm))]) q)(hσ:dX y+1<=σ)(hr:F+jm x+w+6 * dX y+120 * (100 - m.calls)<=65530) :
    OE I 2 σ (ms c av b ((F+jm x+w:Nat):Int) (m.calls:Int) (a:Int) m.inp m.out) c (F+jm x+w) q m (((iS I.p I.OP n).e x y (dn m)).and λi m=>if ((ns I.p nm m).length:Int)<=i then .fin m 1 1 else .ok ((ns I.p nm m).getD i.toNat 0) m):=by
  obtain ⟨q1,d1,d2⟩:=je.app;obtain ⟨c1,c2,c3,c4⟩:=d2.num Dc Dc;obtain ⟨c5,c6,c7,c8⟩:=Cd.ref c3;cases (show q1+2+2=q from c7);obtain ⟨_,h2⟩:=(K2 hn Dc).resolve_left (λh=>O);obtain ⟨i,g,h3,h4,h5,h6⟩:=h2.resolve_right (λh=>O);have hg3:=hI.gk i g h5;have hk:g.kind=3:=O
  obtain ⟨g1,g2,g3⟩:=hI.glo i g h5 O;refine zl (j:=0) (w':=w) (c':=c) hE hx hM hF hH hl hv hu hd d1 O hM .refl (ay _) hσ hr (.nil _) O (OE I 2 σ _ c _ _ m) Tt (λ_ _ _ h=>h) λv m2 k oE b2 R ju hS hf hc hU k1 k2 mK _=>?_;obtain ⟨l,l1,l2,l3⟩:=ju.ae i g h5 hk;have ha:ns I.p nm m2=l:=by rw [ns,h4,aD,aG,l1];rfl
  rw [h3,show vN I.p (i:Int)=g.num by rw [vN,aD,h5]] at c2;rw [h3,g1] at c6;have hb:=qrU (a:=v) (b:=b2) (C:=((F+jm x+w:Nat):Int)) (d:=(m2.calls:Int)) (i:=m2.inp) (o:=m2.out) (ju.cell c1 O) (ju.cell c2 O);show OE I 2 σ _ c _ _ m (if ((ns I.p nm m2).length:Int)<=v then _ else _);rw [ha];have hU:=hU;by_cases hv:(l.length:Int)<=v
  . rw [au hv]
    exact Xl
  . rw [ak hv]
    rw [au O] at hb;obtain ⟨u1,u2⟩:=hU;have kZ:v.toNat < l.length:=O
    have hz:=ap kZ;obtain ⟨z1,z2⟩:=l3 _ _ hz;have hfe:=qCh (a:=v) (b:=1) (C:=((F+jm x+w:Nat):Int)) (d:=(m2.calls:Int)) (i:=m2.inp) (o:=m2.out) (q:=I.ga i+v.toNat) (p:=q1+2) (ju.cell c5 O) (ju.cell c6 O) (by have:=hI.ah;unfold rb at g3;unfold mc;omega) z2;have hget:l.getD v.toNat 0=l[v.toNat]:=by rw [aG,hz];rfl
    rw [hget];exact ⟨_,oE,_,(R.trans (.one rfl hb)).trans (.one rfl hfe),ju,hS,hf,hc,z1,O,O⟩
end
section
variable{I:Im}(hI:I.OK)(hO:Cy I.OP)(hE:PE I n)(hx:x∈I.p.funcs){w a σ:Nat}{av:Int}(hq:q<=I.G)(hM:MR I c m)(hF:FR x F c m.frm)(hH:I.H<=F)(hl:m.left≠0)
include hE hx hH in
theorem Np{β:Type}(hv:om z=true)(hu:ph z=true)(hd:∀ nd∈oA z lp,jJ I.p x nd=0){j:Nat}{c2:iG}{s:lH}(je:Cd I.af I.lab a' (cE I.p x z w' kk).1 q')(hq':q'<=I.G)(ju:MR I c2 m2)(mK:FR x F c2 m2.frm)(hD:dX z<=σ)(hr:F+jm x+w'+6 * dX z+120 * (100 - m2.calls)<=65530)
  (R:ml s j (ms c2 av' b' ((F+jm x+w':Nat):Int) (m2.calls:Int) (a':Int) m2.inp m2.out)) (h1:j+40 * m2.left<=40 * m.left) (h2:m.left<=m2.left+40 * j) {K:Int->MS->ER β} (X:ER β->Prop) (hX:X .out) (jX:∀ m' st cd,vg σ s m m' st cd->X (.fin m' st cd))
  (hK:∀ v m3 k c3 b3,ml s k (ms c3 v b3 ((F+jm x+w':Nat):Int) (m3.calls:Int) (q':Int) m3.inp m3.out)->MR I c3 m3->SK I c2 c3 (F+jm x+w')->m3.frm=m2.frm->m3.calls=m2.calls->iQ v->k+2+40 * m3.left+40 * m2.left<=40 * m2.left+j+40 * m2.left->m.left<=m3.left+40 * k->X (K v m3)):X (((iS I.p I.OP n).e x z m2).and K):=by
 refine OE.bind X hX jX (hE x z lp w' kk a' q' m2 c2 F av' b' hx hv hu hd je hq' ju mK hH hr) R h1 (δ:=0) O hD λv m3 h=>?_;obtain ⟨k,c3,b3,R2,l0,oM,hf,hc,hU,k1,k3⟩:=h;exact hK v m3 (j+k) c3 b3 (R.trans R2) l0 oM hf hc hU O O
include hI hO hE hx hq hM hF hH hl
theorem qIv(hv:om y=true)(hu:ph y=true)(hd:∀ nd∈oA y lp,jJ I.p x nd=0)(je:Cd I.af I.lab a ((cE I.p x y w kk).1++[.op ra]) q)(hσ:dX y+1<=σ)(hr:F+jm x+w+6 * dX y+120 * (100 - m.calls)<=65530) :
  OE I 2 σ (ms c av b ((F+jm x+w:Nat):Int) (m.calls:Int) (a:Int) m.inp m.out) c (F+jm x+w) q m (((iS I.p I.OP n).e x y (dn m)).and λa m=>.ok ((I.OP 1 a 0).getD 0) m):=by
 obtain ⟨q1,d1,d2⟩:=je.app;obtain ⟨c1,c3,c4⟩:=d2.op;cases (show q1+1=q from c3);refine zl (j:=0) (w':=w) (c':=c) hE hx hM hF hH hl hv hu hd d1 O hM .refl (ay _) hσ hr (.nil _) O (OE I 2 σ _ c _ _ m) Tt (λ_ _ _ h=>h) λv m2 k oE b2 R ju hS hf hc hU k1 k2 mK _=>?_;rw [hO.una 1 v Dc Dc hU,au rfl];exact ⟨_,oE,_,R.trans (.one rfl (DG (ju.cell c1 O))),ju,hS,hf,hc,Wz,O,O⟩
theorem qIu(ho:o=2\/o=3)(hv:om y=true)(hu:ph y=true)(hd:∀ nd∈oA y lp,jJ I.p x nd=0)(je:Cd I.af I.lab a (.num pX (if o=3 then 4294967295 else 0)::.op qN::(cE I.p x y (w+1) kk).1++[.op E2]) q)(hσ:dX y+1<=σ)(hr:F+jm x+w+6+6 * dX y+120 * (100 - m.calls)<=65530) :
  OE I 2 σ (ms c av b ((F+jm x+w:Nat):Int) (m.calls:Int) (a:Int) m.inp m.out) c (F+jm x+w) q m (((iS I.p I.OP n).e x y (dn m)).and λa m=>.ok ((I.OP o a 0).getD 0) m):=by
 obtain ⟨q1,d1,d2⟩:=je.app;obtain ⟨c1,c3,c4⟩:=d2.op;cases (show q1+1=q from c3);obtain ⟨e1,e2,e3,e4⟩:=d1.num Dc Dc;obtain ⟨e5,e6,e7⟩:=Cd.op e3;have iK:=hM.len;generalize hN:(if o=3 then (4294967295:Int) else 0)=N at e2;have hNu:iQ N:=by subst hN;split<;>exact ⟨O,O⟩
 have s1:=Lf (a:=av) (b:=b) (C:=((F+jm x+w:Nat):Int)) (d:=(m.calls:Int)) (i:=m.inp) (o:=m.out) (hM.cell e1 O) (hM.cell e2 O);have s2:=KU (a:=N) (b:=b) (q:=F+jm x+w) (d:=(m.calls:Int)) (i:=m.inp) (o:=m.out) (hM.cell e5 O) O iK;refine zl (j:=2) (w':=w+1) (c':=c.set (F+jm x+w) N) hE hx hM hF hH hl hv hu hd e6 O (hM.push hI O) (.set (.inr (ay _))) O hσ O ((ml.one Z s1).trans (ml.one Z s2)) O (OE I 2 σ _ c _ _ m) Tt (λ_ _ _ h=>h) λv m2 k oE b2 R ju hS hf hc hU k1 k2 mK _=>?_;have hcell:oE[F+jm x+w]?=some N:=(hS _ O O).trans (bJ O);have hsub:Jt oE N v (F+jm x+w) q1 (q1+1) b2 (m2.calls:Int) m2.inp m2.out (some (jR 2 N v)):=AB (n:=E2) (lab:=I.lab) (d2.mono λk _ h v' hv'=>ju.cell hv' O) O hcell rfl rfl rfl rfl Dc rfl (wS hNu hU);obtain ⟨_,k',b',_,k3,R3⟩:=hsub;have e9:(I.OP o v 0).getD 0=jR 2 N v:=by
  rw [hO.una o v O O hU,ak O,hN];rfl
 rw [e9];exact ⟨_,oE,_,R.trans R3,ju,(SK.set (.inr (ay _))).trans hS O,hf,hc,wS hNu hU,O,O⟩
theorem qIt(ho:4<=o/\o<=19)(hv:om y=true)(hu:ph y=true)(hd:∀ nd∈oA y lp,jJ I.p x nd=0)(zj:om z=true)(tX:ph z=true)(Bc:∀ nd∈oA z lp,jJ I.p x nd=0)(je:Cd I.af I.lab a ((cE I.p x y w kk).1++.op qN::(cE I.p x z (w+1) k2).1++(yu o).map .op) q)(hσ:dX y+1<=σ)(hσz:dX z+1<=σ)(hr:F+jm x+w+6+6 * dX y+120 * (100 - m.calls)<=65530)(hrz:F+jm x+w+6+6 * dX z+120 * (100 - m.calls)<=65530) :
  OE I 2 σ (ms c av b ((F+jm x+w:Nat):Int) (m.calls:Int) (a:Int) m.inp m.out) c (F+jm x+w) q m (((iS I.p I.OP n).e x y (dn m)).and λa m=>((iS I.p I.OP n).e x z m).and λb m=>match I.OP o a b with|some v=>.ok v m|none=>.fin m 1 2):=by
 obtain ⟨q2,d1,d2⟩:=je.app;obtain ⟨q1,d3,d4⟩:=d1.app;obtain ⟨c1,c3,c4⟩:=d4.op;have j9:=d2.le;refine zl (j:=0) (w':=w) (c':=c) hE hx hM hF hH hl hv hu hd d3 O hM .refl (ay _) hσ O (.nil _) O (OE I 2 σ _ c _ _ m) Tt (λ_ _ _ h=>h) λv m2 k oE b2 R ju hS hf hc hU k1 k3 mK _=>?_;have iK:=ju.len;have s2:=KU (a:=v) (b:=b2) (q:=F+jm x+w) (d:=(m2.calls:Int)) (i:=m2.inp) (o:=m2.out) (ju.cell c1 O) O iK;have iD:SK I oE (oE.set (F+jm x+w) v) (F+jm x+w):=.set (.inr (ay _));refine Np (m:=m) (σ:=σ) hE hx hH zj tX Bc (w':=w+1) c3 O (ju.push hI O) (mK.keep iD hH O) O Q21 (R.trans (ml.one Z s2)) O O (OE I 2 σ _ c _ _ m) Tt (λ_ _ _ h=>h) λv2 m3 k4 uq b3 R3 l0 oM xF sK hU3 k5 k6=>?_;have hcell:uq[F+jm x+w]?=some v:=(oM _ O O).trans (bJ O);have vu:=qIP (o:=o) (lab:=I.lab) (b:=b3) (d:=(m3.calls:Int)) (i:=m3.inp) (oo:=m3.out) ho.1 ho.2 hU hU3 (d2.mono λk _ h v' hv'=>l0.cell hv' O) O hcell;rw [hO.bin o v v2 ho.1 ho.2 hU hU3];cases hr0:EN o v v2 with
 | none=>
  rw [hr0] at vu;obtain ⟨s',R4,o1,o2,o3⟩:=vu;exact ⟨_,_,R3.trans R4,o1,o2,λ_=>o3,O,O,λh=>absurd h Dc⟩
 | some u=>
  rw [hr0] at vu;obtain ⟨oQ,k',b',_,k7,R4⟩:=vu;exact ⟨_,uq,_,R3.trans R4,l0,(hS.trans iD (ay _)).trans oM O,xF.trans hf,sK.trans hc,oQ,O,O⟩
end
section
variable{I:Im}(hI:I.OK)(hO:Cy I.OP)(hE:PE I n)(hC:PC I n)(hx:x∈I.p.funcs){w a σ:Nat}{av:Int}(hq:q<=I.G)(hM:MR I c m)(hF:FR x F c m.frm)(hH:I.H<=F)(hl:m.left≠0)
include hI hO hE hx hq hM hF hH hl
def IM{p:Prop} (h:p:=by
 rw [e] at s3;exact ⟨_,uq,b3,(R3.trans (.one rfl s2)).trans (.one rfl s3),l0,hS.trans oM (ay _),xF.trans hf,sK.trans hc,by split<;>exact ⟨by omega,by omega⟩,by omega,by omega⟩):p:=h
theorem qIs(hv:om y=true)(hu:ph y=true)(hd:∀ nd∈oA y lp,jJ I.p x nd=0)(zj:om z=true)(tX:ph z=true)(Bc:∀ nd∈oA z lp,jJ I.p x nd=0)(je:Cd I.af I.lab a ((cE I.p x y w kk).1++.ref uh (lT kl)::(cE I.p x z w k2).1++[.op ra,.op ra,.lab (lT kl)]) q)(hσ:dX y+1<=σ)(hσz:dX z+1<=σ)(hr:F+jm x+w+6+6 * dX y+120 * (100 - m.calls)<=65530)(hrz:F+jm x+w+6+6 * dX z+120 * (100 - m.calls)<=65530) :
    OE I 2 σ (ms c av b ((F+jm x+w:Nat):Int) (m.calls:Int) (a:Int) m.inp m.out) c (F+jm x+w) q m (((iS I.p I.OP n).e x y (dn m)).and λa m=>if a=0 then .ok 0 m else ((iS I.p I.OP n).e x z m).and λb m=>match I.OP 20 a b with|some v=>.ok v m|none=>.fin m 1 2):=by
  obtain ⟨q2,d1,d2⟩:=je.app;obtain ⟨q1,d3,d4⟩:=d1.app;obtain ⟨c1,c2,c3,c4⟩:=d4.ref;obtain ⟨f1,f2,f3⟩:=d2.op;obtain ⟨f4,f5,f6⟩:=Cd.op f2;obtain ⟨f7,f8⟩:=Cd.lbl f5;cases (show q2+1+1=q from f8);refine zl (j:=0) (w':=w) (c':=c) hE hx hM hF hH hl hv hu hd d3 O hM .refl (ay _) hσ O (.nil _) O (OE I 2 σ _ c _ _ m) Tt (λ_ _ _ h=>h) λv m2 k oE b2 R ju hS hf hc hU k1 k3 mK _=>?_;have s1:=KL (a:=v) (b:=b2) (C:=((F+jm x+w:Nat):Int)) (d:=(m2.calls:Int)) (i:=m2.inp) (o:=m2.out) (ju.cell c1 O) (ju.cell c2 O);by_cases h0:v=0
  . rw [au h0] at s1
    show OE I 2 σ _ c _ _ m (if v=0 then _ else _);rw [au h0];rw [f7] at s1;subst h0;exact ⟨_,oE,b2,R.trans (.one rfl s1),ju,hS,hf,hc,⟨O,O⟩,O,O⟩
  . rw [ak h0] at s1
    show OE I 2 σ _ c _ _ m (if v=0 then _ else _);rw [ak h0];refine Np (m:=m) (σ:=σ) hE hx hH zj tX Bc (w':=w) c3 O ju mK O Q21 (R.trans (ml.one Z s1)) O O (OE I 2 σ _ c _ _ m) Tt (λ_ _ _ h=>h) λv2 m3 k4 uq b3 R3 l0 oM xF sK hU3 k5 k6=>?_;rw [hO.and_];have s2:=DG (a:=v2) (b:=b3) (C:=((F+jm x+w:Nat):Int)) (d:=(m3.calls:Int)) (i:=m3.inp) (o:=m3.out) (l0.cell f1 O);have s3:=DG (a:=if v2=0 then 1 else 0) (b:=b3) (C:=((F+jm x+w:Nat):Int)) (d:=(m3.calls:Int)) (i:=m3.inp) (o:=m3.out) (l0.cell f4 O);have e:(if (if v2=0 then (1:Int) else 0)=0 then (1:Int) else 0)=if v=0\/v2=0 then 0 else 1:=by by_cases h2:v2=0<;>simp [h0,h2]
    exact IM
theorem qLk(hv:om y=true)(hu:ph y=true)(hd:∀ nd∈oA y lp,jJ I.p x nd=0)(zj:om z=true)(tX:ph z=true)(Bc:∀ nd∈oA z lp,jJ I.p x nd=0)(je:Cd I.af I.lab a ((cE I.p x y w kk).1++.op ra::.ref uh (lT kl)::(cE I.p x z w k2).1++[.op ra,.lab (lT kl),.op ra]) q)(hσ:dX y+1<=σ)(hσz:dX z+1<=σ)(hr:F+jm x+w+6+6 * dX y+120 * (100 - m.calls)<=65530)(hrz:F+jm x+w+6+6 * dX z+120 * (100 - m.calls)<=65530) :
    OE I 2 σ (ms c av b ((F+jm x+w:Nat):Int) (m.calls:Int) (a:Int) m.inp m.out) c (F+jm x+w) q m (((iS I.p I.OP n).e x y (dn m)).and λa m=>if a≠0 then .ok 1 m else ((iS I.p I.OP n).e x z m).and λb m=>match I.OP 21 a b with|some v=>.ok v m|none=>.fin m 1 2):=by
  obtain ⟨q2,d1,d2⟩:=je.app;obtain ⟨q1,d3,d4⟩:=d1.app;obtain ⟨c0,d5,c5⟩:=d4.op;obtain ⟨c1,c2,c3,c4⟩:=Cd.ref d5;obtain ⟨f1,f2,f3⟩:=d2.op;obtain ⟨f7,f8⟩:=Cd.lbl f2;obtain ⟨f4,f5,f6⟩:=Cd.op f8;cases (show q2+1+1=q from f5);refine zl (j:=0) (w':=w) (c':=c) hE hx hM hF hH hl hv hu hd d3 O hM .refl (ay _) hσ O (.nil _) O (OE I 2 σ _ c _ _ m) Tt (λ_ _ _ h=>h) λv m2 k oE b2 R ju hS hf hc hU k1 k3 mK _=>?_;have s0:=DG (a:=v) (b:=b2) (C:=((F+jm x+w:Nat):Int)) (d:=(m2.calls:Int)) (i:=m2.inp) (o:=m2.out) (ju.cell c0 O);have s1:=KL (a:=if v=0 then 1 else 0) (b:=b2) (C:=((F+jm x+w:Nat):Int)) (d:=(m2.calls:Int)) (i:=m2.inp) (o:=m2.out) (ju.cell c1 O) (ju.cell c2 O);by_cases h0:v=0
  . show OE I 2 σ _ c _ _ m (if v≠0 then _ else _)
    rw [ak (λh=>h h0)];rw [au h0] at s0 s1;rw [ak Dc] at s1;refine Np (m:=m) (σ:=σ) hE hx hH zj tX Bc (w':=w) c3 O ju mK O Q21 ((R.trans (ml.one Z s0)).trans (ml.one Z s1)) O O (OE I 2 σ _ c _ _ m) Tt (λ_ _ _ h=>h) λv2 m3 k4 uq b3 R3 l0 oM xF sK hU3 k5 k6=>?_;rw [hO.or_];have s2:=DG (a:=v2) (b:=b3) (C:=((F+jm x+w:Nat):Int)) (d:=(m3.calls:Int)) (i:=m3.inp) (o:=m3.out) (l0.cell f1 O);have s3:=DG (a:=if v2=0 then 1 else 0) (b:=b3) (C:=((F+jm x+w:Nat):Int)) (d:=(m3.calls:Int)) (i:=m3.inp) (o:=m3.out) (l0.cell f4 O);have e:(if (if v2=0 then (1:Int) else 0)=0 then (1:Int) else 0)=if v=0/\v2=0 then 0 else 1:=by by_cases h2:v2=0<;>simp [h0,h2]
    exact IM
  . show OE I 2 σ _ c _ _ m (if v≠0 then _ else _)
    rw [au h0];rw [ak h0] at s0 s1;rw [au rfl,f7] at s1;have s3:=DG (a:=0) (b:=b2) (C:=((F+jm x+w:Nat):Int)) (d:=(m2.calls:Int)) (i:=m2.inp) (o:=m2.out) (ju.cell f4 O);rw [au rfl] at s3;exact ⟨_,oE,b2,((R.trans (.one rfl s0)).trans (.one rfl s1)).trans (.one rfl s3),ju,hS,hf,hc,⟨O,O⟩,O,O⟩
include hC
theorem qsy(hv:pE az=true)(hu:rn az=true)(hd:∀ nd∈oY az lp,jJ I.p x nd=0)(hn:pf I.p x (nm,4,(az.length:Int))=0)(je:Cd I.af I.lab a ((cC I.p x az w kk).1++cL I.p nm az.length) q)(hσ:tr az+1<=σ)(hr:F+jm x+w+6+6 * tr az+120 * (100 - m.calls)<=65530) :
    OE I 2 σ (ms c av b ((F+jm x+w:Nat):Int) (m.calls:Int) (a:Int) m.inp m.out) c (F+jm x+w) q m ((nn ((iS I.p I.OP n).e x) az (dn m)).and λvs m=>(iS I.p I.OP n).c (r9 I.p nm).toNat vs m):=by
  obtain ⟨q1,d1,d2⟩:=je.app;unfold cL at d2;obtain ⟨c1,c2,c3,c4⟩:=d2.ref;obtain ⟨_,h2⟩:=(K2 hn Dc).resolve_left (λh=>O);obtain ⟨_,i,f,h3,h4,h5,h6⟩:=h2.resolve_left (λ⟨_,_,_,_,_,h⟩=>O);have hp6:=(hI.fn f (ax h5)).1.p6;rw [h3] at c2;rw [h4,aD];have ha:=qqJ (n:=n) hI hE hx lp az w kk a q1 (dn m) c F av b hv hu hd d1 O hM.dn hF hH (by show _+120 * (100 - m.calls)<=_;omega);cases yq:nn ((iS I.p I.OP n).e x) az (dn m) with
  | out=>trivial
  | fin m' st cd=>
    rw [yq] at ha;exact vg.pre ha (.nil _) (by show 0+40 * (m.left - 1)<=40 * m.left;omega) (by show m.left+tr az<=m.left - 1+40 * 0+σ;omega)
  | ok vs m2=>
    rw [yq] at ha;obtain ⟨k,oE,a2,b2,R,ju,hS,hf,hc,oW,vv,k1,k3⟩:=ha;have k1:k+40 * m2.left<=40 * (m.left - 1):=k1;have k3:m.left - 1<=m2.left+40 * k:=k3;have hc:m2.calls=m.calls:=hc;have iK:az.length=f.params.length:=O
    have h:=hC i f vs q1 m2 oE (F+jm x+w) a2 b2 h5 O vv c1 c2 O ju O Q21;rw [<- iK] at h;show OE I 2 σ _ c _ _ m ((iS I.p I.OP n).c i vs m2);cases sQ:(iS I.p I.OP n).c i vs m2 with
    | out=>trivial
    | fin m' st cd=>
      rw [sQ] at h;exact vg.pre h R (by show k+40 * (m2.left+1)<=40 * m.left;omega) (by show m.left+0<=m2.left+1+40 * k+σ;omega)
    | ok v m3=>
      rw [sQ] at h;obtain ⟨k',uq,b3,R3,l0,oM,xF,sK,hU3,k5,k6⟩:=h;have k5:k'+3+40 * m3.left<=40 * (m2.left+1):=k5;have k6:m2.left+1<=m3.left+40 * k':=k6;by_cases h0:0 < az.length
      . rw [au h0] at c3
        obtain ⟨e1,e2,e3,e4⟩:=Cd.num c3 Dc Dc;cases (show q1+2+2=q from e3);have s1:=qH7 (a:=v) (b:=b3) (C:=((F+jm x+w+az.length:Nat):Int)) (d:=(m3.calls:Int)) (i:=m3.inp) (o:=m3.out) (l0.cell e1 O) (l0.cell e2 O);rw [show mc (((F+jm x+w+az.length:Nat):Int) - (az.length:Int))=((F+jm x+w:Nat):Int) by unfold mc;omega] at s1;exact ⟨_,uq,b3,(R.trans R3).trans (.one rfl s1),l0,hS.trans (oM.le O) (ay _),xF.trans hf,sK.trans hc,hU3,O,O⟩
      . rw [ak h0] at c3
        cases (show q1+2=q from c3);rw [show F+jm x+w+az.length=F+jm x+w by omega] at R R3;exact ⟨_,uq,b3,R.trans R3,l0,hS.trans oM (ay _),xF.trans hf,sK.trans hc,hU3,O,O⟩
end
def OE.mono{τ σ':Nat}{r:ER Int}(h:OE I τ σ s c C q m r)(hs:σ<=σ'):OE I τ σ' s c C q m r:=by
 cases r with
 | out=>trivial
 | ok v m'=>exact h
 | fin m' st cd=>
  obtain ⟨k,s',r1,r2,r3,r4,r5,r6,r7⟩:=h;exact ⟨k,s',r1,r2,r3,r4,r5,O,r7⟩
def qAI(hI:I.OK)(hO:Cy I.OP)(hE:PE I n)(hC:PC I n):PE I (n+1):=by
  rintro x ⟨kd,o,nu,nm,az⟩ lp w kk a q m c F av b hx hv hu hd je hq hM hF hH hr;obtain ⟨hc,hvs⟩:=zz hv;obtain ⟨k1,k7,a1,a2,a3,a4⟩:=Bz hc;simp only [ph,aA,aH] at hu;have hd0:=hd _ Mc;have wN:∀ nd∈oY az lp,jJ I.p x nd=0:=λnd h=>hd nd (an _ h);simp only [Ex.kind,Ex.op,Ex.args,Ex.name] at a1 a2 a3 a4 k1 k7 hvs;rw [dX] at hr ⊢;show OE I 2 _ _ c _ q m ((rp m).and λ_ m=>vX I.p I.OP (iS I.p I.OP n) x (.mk kd o nu nm az) m);refine qoS (OE I 2 _ _ c _ q m) Z Z (λ_ _ _ h=>h) λhl=>?_;unfold cE at je;show OE I 2 _ _ c _ q m (vX I.p I.OP (iS I.p I.OP n) x (.mk kd o nu nm az) (dn m));unfold vX;by_cases e1:kd=1
  . rw [au e1] at je
    rw [au (show (Ex.mk kd o nu nm az).kind=1 from e1)];exact qzm hq hM hl je hu.1
  rw [ak e1] at je;rw [ak (show ¬ (Ex.mk kd o nu nm az).kind=1 from e1)];by_cases e2:kd=2
  . rw [au e2] at je
    rw [au (show (Ex.mk kd o nu nm az).kind=2 from e2)];exact qBV hI hx hq hM hF hl je (by have e:oS (.mk kd o nu nm az)=(nm,2,0):=au e2;rwa [jJ,e] at hd0) O
  rw [ak e2] at je;rw [ak (show ¬ (Ex.mk kd o nu nm az).kind=2 from e2)];by_cases e3:kd=3
  . rw [au e3] at je
    rw [au (show (Ex.mk kd o nu nm az).kind=3 from e3)];subst e3;have h1:az.length=1:=by have h1:1<=az.length:=a1;have h2:az.length<=1:=a2;omega
    obtain ⟨y,rfl⟩:=gO.1 h1;simp only [pE,rn,dC] at hvs hu;have uP:tr [y]=dX y:=by simp [tr]
    rw [uP] at hr ⊢;unfold cH at je;exact qvV (y:=y) (nm:=nm) hI hE hx hq hM hF hH hl hvs hu.2 (λnd h=>wN nd (aI _ h)) (by have e:oS (.mk 3 o nu nm [y])=(nm,3,0):=rfl;rwa [jJ,e] at hd0) je O O
  rw [ak e3] at je;rw [ak (show ¬ (Ex.mk kd o nu nm az).kind=3 from e3)];by_cases e4:kd=4
  . rw [au e4] at je
    rw [au (show (Ex.mk kd o nu nm az).kind=4 from e4)];subst e4;exact qsy (az:=az) (nm:=nm) hI hO hE hC hx hq hM hF hH hl hvs hu.2 wN (by have e:oS (.mk 4 o nu nm az)=(nm,4,(az.length:Int)):=rfl;rwa [jJ,e] at hd0) je O O
  rw [ak e4] at je;rw [ak (show ¬ (Ex.mk kd o nu nm az).kind=4 from e4)];by_cases e5:kd=5
  . rw [au e5] at je
    rw [au (show (Ex.mk kd o nu nm az).kind=5 from e5)];exact (qHH hq hM hl je).mono (aB _)
  rw [ak e5] at je;rw [ak (show ¬ (Ex.mk kd o nu nm az).kind=5 from e5)];by_cases e6:kd=6
  . rw [au e6] at je
    rw [au (show (Ex.mk kd o nu nm az).kind=6 from e6)];subst e6;have h1:az.length=1:=by have h1:1<=az.length:=a1;have h2:az.length<=1:=a2;omega
    obtain ⟨y,rfl⟩:=gO.1 h1;simp only [pE,rn,dC] at hvs hu;have uP:tr [y]=dX y:=by simp [tr]
    rw [uP] at hr ⊢;unfold cH at je;have ho:=a3 rfl;by_cases o1:o=1
    . rw [au o1] at je
      subst o1;exact qIv (y:=y) hI hO hE hx hq hM hF hH hl hvs hu.2 (λnd h=>wN nd (aI _ h)) je O O
    . rw [ak o1] at je
      exact qIu (y:=y) (o:=o) hI hO hE hx hq hM hF hH hl O hvs hu.2 (λnd h=>wN nd (aI _ h)) je O O
  rw [ak e6] at je;rw [ak (show ¬ (Ex.mk kd o nu nm az).kind=6 from e6)];have e7:kd=7:=O
  subst e7;have h1:az.length=2:=by have h1:2<=az.length:=a1;have h2:az.length<=2:=a2;omega
  obtain ⟨y,z,rfl⟩:∃ y z,az=[y,z]:=by
    match az,h1 with
    | [y,z],_=>exact ⟨y,z,rfl⟩
  simp only [pE,rn,dC,aA] at hvs hu;have uP:tr [y,z]=max (dX y) (dX z):=by simp [tr]
  rw [uP] at hr ⊢;have hd1:∀ nd∈oA y lp,jJ I.p x nd=0:=λnd h=>wN nd (aI _ h);have yl:∀ nd∈oA z lp,jJ I.p x nd=0:=λnd h=>wN nd (aF _ (aI _ h));have eI:∀ w k,cI I.p x [y,z] w k=cE I.p x z w k:=λw k=>by unfold cI cH;rfl
  have eH:∀ w k,cH I.p x [y,z] w k=cE I.p x y w k:=λw k=>by unfold cH;rfl
  rw [eH] at je;simp only [eI] at je;by_cases o1:o=20
  . subst o1
    rw [au rfl] at je;have:=qIs (y:=y) (z:=z) hI hO hE hx hq hM hF hH hl (σ:=1+max (dX y) (dX z)) (av:=av) (b:=b) (c:=c) hvs.1 hu.2.1 hd1 hvs.2 hu.2.2 yl je O O O O;refine cast (bl (OE I 2 _ _ c _ q m) ?_) this;show ER.and _ _=ER.and _ _;congr 1;funext a m2;by_cases h:a=0
    . rw [au h];exact (au ⟨rfl,h⟩).symm
    . rw [ak h];exact ((ak (λk=>h k.2)).trans (ak (λk=>absurd (show (20:Int)=21 from k.1) Dc))).symm
  rw [ak o1] at je;by_cases o2:o=21
  . subst o2
    rw [au rfl] at je;have:=qLk (y:=y) (z:=z) hI hO hE hx hq hM hF hH hl (σ:=1+max (dX y) (dX z)) (av:=av) (b:=b) (c:=c) hvs.1 hu.2.1 hd1 hvs.2 hu.2.2 yl je O O O O;refine cast (bl (OE I 2 _ _ c _ q m) ?_) this;show ER.and _ _=ER.and _ _;congr 1;funext a m2;by_cases h:a=0
    . rw [ak (λk=>k h)];exact ((ak (λk=>absurd (show (21:Int)=20 from k.1) Dc)).trans (ak (λk=>k.2 h))).symm
    . rw [au h];exact ((ak (λk=>absurd (show (21:Int)=20 from k.1) Dc)).trans (au ⟨rfl,h⟩)).symm
  rw [ak o2] at je;have:=qIt (y:=y) (z:=z) hI hO hE hx hq hM hF hH hl (σ:=1+max (dX y) (dX z)) (av:=av) (b:=b) (c:=c) (o:=o) O hvs.1 hu.2.1 hd1 hvs.2 hu.2.2 yl je O O O O;refine cast (bl (OE I 2 _ _ c _ q m) ?_) this;show ER.and _ _=ER.and _ _;congr 1;funext a m2;exact ((ak (λk=>o1 k.1)).trans (ak (λk=>o2 k.1))).symm
def WY(I:Im)(x:iM)(F q:Nat)(ls:List iH)(d:Nat)(ret:Int)(y:Int×Int)(a C e p:Int):Prop:=
 (y.1=0/\C=((F+jm x:Nat):Int)/\e=(d:Int)/\p=(q:Int))\/(y.1=1/\2<=ls.length/\C=((F+jm x:Nat):Int)/\e=(d:Int)/\p=I.lab (ls.getD (ls.length - 1) []))\/(y.1=2/\2<=ls.length/\C=((F+jm x:Nat):Int)/\e=(d:Int)/\p=I.lab (ls.getD (ls.length - 2) []))\/(y.1=3/\a=y.2/\iQ y.2/\C=((F+x.params.length:Nat):Int)/\e=((d - 1:Nat):Int)/\p=ret)
def SKd(I:Im)(s:lH)(x:iM)(F q:Nat)(ls:List iH)(c:iG)(m:MS)(ret:Int)(y:Int×Int)(m':MS):Prop:=
 ∃ k c' a' b' C' e' p',ml s k (ms c' a' b' C' e' p' m'.inp m'.out)/\MR I c' m'/\SK I c c' F/\FR x F c' m'.frm/\c'[F+x.params.length]?=some ret/\m'.calls=m.calls/\k+40 * m'.left<=40 * m.left/\m.left<=m'.left+40 * k/\WY I x F q ls m.calls ret y a' C' e' p'
def OS(I:Im)(s:lH)(x:iM)(F q:Nat)(ls:List iH)(c:iG)(m:MS)(ret:Int):ER (Int×Int)->Prop
 | .out=>True
 | .fin m' st cd=>vg 17 s m m' st cd
 | .ok y m'=>SKd I s x F q ls c m ret y m'
def qBl{k:Nat}(h:wy x j=wy x k):j=k:=by
 unfold wy at h;split at h<;>split at h<;>omega
def qGZ{k:Nat}:wy x k≠x.params.length:=by unfold wy;split<;>omega
def FR.set{frm:iG}(h:FR x F c frm)(hj:j < frm.length)(hv:iQ v):FR x F (c.set (F+wy x j) v) (frm.set j v):=
  ⟨by rw [cD];exact h.len,λk w hk=>by
    by_cases e:k=j
    . subst e
      rw [bJ hj] at hk;cases hk;have:=(h.at_ k _ (ap hj)).2;exact ⟨hv,bJ (al.1 this).1⟩
    . rw [bt (λh=>e h.symm)] at hk
      have:=h.at_ k w hk;exact ⟨this.1,by rw [bt (λh=>e (qBl (x:=x) O))];exact this.2⟩⟩
def MR.frm{I:Im}{c:iG}{m:MS}(h:MR I c m)(f:iG):MR I c { m with frm:=f }:=⟨h.len,h.code,h.var,h.ae,h.calls,h.out⟩
section
variable{I:Im}(hI:I.OK)(hE:PE I n)(hx:x∈I.p.funcs){a:Nat}{av:Int}(hq:q<=I.G)(hM:MR I c m)(hF:FR x F c m.frm)(kS:c[F+x.params.length]?=some ret)(hH:I.H<=F)(hl:m.left≠0)(hr:F+jm x+102+120 * (100 - m.calls)<=65530)
include hI hE hx hq hM hF kS hH hl hr
theorem qsE(hv:om y=true)(hu:ph y=true)(hd:∀ nd∈oA y lp,jJ I.p x nd=0)(hy:dX y<=16)(hn:pf I.p x (nm,1,0)=0)(je:Cd I.af I.lab a ((cE I.p x y 0 kk).1++[BW I.p x nm]) q) :
    OS I (ms c av b ((F+jm x:Nat):Int) (m.calls:Int) (a:Int) m.inp m.out) x F q ls c m ret (((iS I.p I.OP n).e x y (dn m)).and λv m=>.ok (0,0) (tO I.p x nm v m)):=by
  obtain ⟨_,kO⟩:=hI.fn x hx;have hs:=qs9 (nm:=nm) kO;obtain ⟨q1,d1,d2⟩:=je.app;have j9:=d2.le;refine zl (w:=0) (j:=0) (D:=17) (w':=0) (c':=c) hE hx hM hF hH hl hv hu hd d1 O hM .refl (ay _) O O (.nil _) O (OS I _ x F q ls c m ret) Tt (λ_ _ _ h=>h) λv m2 k c2 b2 R ju hS hf hc hU k1 k2 mK _=>?_;have hre:c2[F+x.params.length]?=some ret:=(hS _ O (by unfold jm;omega)).trans kS;have iK:=ju.len;have hszF:jm x=x.params.length+1+x.locals.length:=rfl;unfold BW at d2;rcases K2 hn Dc with ⟨h1,_⟩|⟨h1,h2|h2⟩
  . rw [au h1] at hs
    rw [hs] at d2;obtain ⟨c1,c3,c4,c5⟩:=Cd.num d2 Dc Dc;cases (show q1+2=q from c4);have kZ:(k8 x nm).toNat < x.params.length+x.locals.length:=by
      unfold k8 at h1 ⊢;exact IP
    have ha:=UI kZ;have mL:=qGZ (x:=x) (k:=(k8 x nm).toNat);have s1:=qvy (a:=v) (b:=b2) (C:=((F+jm x+0:Nat):Int)) (d:=(m2.calls:Int)) (i:=m2.inp) (o:=m2.out) (q:=F+wy x (k8 x nm).toNat) (ju.cell c1 O) (ju.cell c3 O) (by unfold mc;omega) O;have hset:tO I.p x nm v m2={ m2 with frm:=m2.frm.set (k8 x nm).toNat v }:=by rw [tO,au h1]
    rw [hset];exact ⟨_,_,_,_,_,_,_,R.trans (.one rfl s1),(ju.push hI O).frm _,(hS.le O).trans (SK.set (.inr O)) (ay _),mK.set (by rw [mK.len];exact kZ) hU,by rw [bt O];exact hre,hc,by show _+40 * m2.left<=_;omega,by show _<=m2.left+_;omega,.inl ⟨rfl,rfl,by show (m2.calls:Int)=_;rw [hc],rfl⟩⟩
  . obtain ⟨i,g,h3,h4,h5,h6⟩:=h2
    rw [ak h1] at hs;rw [hs,h3] at d2;have hk:g.kind=2:=O
    obtain ⟨c1,c3,c4,c5⟩:=Cd.ref d2;cases (show q1+2=q from c4);obtain ⟨g1,g2,g3⟩:=hI.glo i g h5 O;rw [g1] at c3;have htop:=hI.ah;have jp:1<=rb g:=by unfold rb;omega
    have s1:=qCl (a:=v) (b:=b2) (C:=((F+jm x+0:Nat):Int)) (d:=(m2.calls:Int)) (i:=m2.inp) (o:=m2.out) (q:=I.ga i) (ju.cell c1 O) (ju.cell c3 O) O;have hset:tO I.p x nm v m2={ m2 with glo:=m2.glo.set i v }:=by rw [tO,ak h1,h4,aD]
    rw [hset];have iD:SK I c2 (c2.set (I.ga i) v) (F+jm x):=.set (.inl O);exact ⟨_,_,_,_,_,_,_,R.trans (.one rfl s1),ju.setVar hI h5 hk hU,(hS.trans iD (ay _)).le O,mK.keep iD hH (ay _),(iD _ O O).trans hre,hc,by show _+40 * m2.left<=_;omega,by show _<=m2.left+_;omega,.inl ⟨rfl,rfl,by show (m2.calls:Int)=_;rw [hc],rfl⟩⟩
  . exact absurd h2.1 Dc
end
def qsz(k:Nat):UInt8.ofNat (k % 256)=UInt8.ofNat k:=by
 apply fK.1;simp [eW]
section
variable{I:Im}(hI:I.OK)(hE:PE I n)(hx:x∈I.p.funcs){a:Nat}{av:Int}(hq:q<=I.G)(hM:MR I c m)(hF:FR x F c m.frm)(kS:c[F+x.params.length]?=some ret)(hH:I.H<=F)(hl:m.left≠0)(hr:F+jm x+102+120 * (100 - m.calls)<=65530)
include hI hE hx hq hM hF kS hH hl hr
theorem qIA(hv:om y=true)(hu:ph y=true)(hd:∀ nd∈oA y lp,jJ I.p x nd=0)(hy:dX y<=16)(nI:1<=m.calls)(je:Cd I.af I.lab a ((cE I.p x y 0 kk).1++[.num D0 ((x.locals.length+1:Nat):Int)]) q) :
  OS I (ms c av b ((F+jm x:Nat):Int) (m.calls:Int) (a:Int) m.inp m.out) x F q ls c m ret (((iS I.p I.OP n).e x y (dn m)).and λv m=>.ok (3,v) m):=by
 obtain ⟨q1,d1,d2⟩:=je.app;obtain ⟨c1,c3,c4,c5⟩:=Cd.num d2 Dc Dc;refine zl (w:=0) (j:=0) (D:=17) (w':=0) (c':=c) hE hx hM hF hH hl hv hu hd d1 O hM .refl (ay _) O O (.nil _) O (OS I _ x F q ls c m ret) Tt (λ_ _ _ h=>h) λv m2 k c2 b2 R ju hS hf hc hU k1 k2 mK _=>?_;have hszF:jm x=x.params.length+1+x.locals.length:=rfl;have hre:c2[F+x.params.length]?=some ret:=(hS _ O O).trans kS;have h100:=ju.calls;have s1:=YM (a:=v) (b:=b2) (C:=((F+jm x+0:Nat):Int)) (i:=m2.inp) (o:=m2.out) (q:=F+x.params.length) (ju.cell c1 O) (ju.cell c3 O) (by unfold mc;omega) hre (e:=m2.calls - 1) O;rw [show m2.calls - 1+1=m2.calls by omega] at s1;exact ⟨_,_,_,_,_,_,_,R.trans (.one rfl s1),ju,hS.le O,mK,hre,hc,O,O,.inr (.inr (.inr ⟨rfl,rfl,hU,rfl,by rw [hc],rfl⟩))⟩
def Yi{p:Prop} (h:p:=by
 exact ⟨_,_,R.trans (.one rfl s1),rfl,rfl,λ_=>rfl,by omega,by omega,λh=>absurd h Dc⟩):p:=h
theorem qIz(hv:om y=true)(hu:ph y=true)(hd:∀ nd∈oA y lp,jJ I.p x nd=0)(hy:dX y<=16)(je:Cd I.af I.lab a ((cE I.p x y 0 kk).1++[.op Ns]) q) :
    OS I (ms c av b ((F+jm x:Nat):Int) (m.calls:Int) (a:Int) m.inp m.out) x F q ls c m ret (((iS I.p I.OP n).e x y (dn m)).and λv m=>if 20000<=m.out.length then .fin m 5 0 else .ok (0,0) { m with out:=m.out++[UInt8.ofNat v.toNat] }):=by
  obtain ⟨q1,d1,d2⟩:=je.app;obtain ⟨c1,c4,c5⟩:=Cd.op d2;cases (show q1+1=q from c4);refine zl (w:=0) (j:=0) (D:=17) (w':=0) (c':=c) hE hx hM hF hH hl hv hu hd d1 O hM .refl (ay _) O O (.nil _) O (OS I _ x F _ ls c m ret) Tt (λ_ _ _ h=>h) λv m2 k c2 b2 R ju hS hf hc hU k1 k2 mK _=>?_;have hszF:jm x=x.params.length+1+x.locals.length:=rfl;have hre:c2[F+x.params.length]?=some ret:=(hS _ O O).trans kS;have sP:=ju.out;have s1:=qK5 (a:=v) (b:=b2) (C:=((F+jm x+0:Nat):Int)) (d:=(m2.calls:Int)) (i:=m2.inp) (o:=m2.out) (ju.cell c1 O);show OS I _ x F _ ls c m ret (if 20000<=m2.out.length then _ else _);by_cases h:20000<=m2.out.length
  . rw [au h]
    rw [au O] at s1;exact Yi
  . rw [ak h]
    rw [ak O,qsz] at s1;exact ⟨_,_,_,_,_,_,_,R.trans (.one rfl s1),⟨ju.len,ju.code,ju.var,ju.ae,ju.calls,by simp;omega⟩,hS.le O,mK,hre,hc,by show _+40 * m2.left<=_;omega,by show _<=m2.left+_;omega,.inl ⟨rfl,rfl,by show (m2.calls:Int)=_;rw [hc],rfl⟩⟩
theorem qCR(hv:om y=true)(hu:ph y=true)(hd:∀ nd∈oA y lp,jJ I.p x nd=0)(hy:dX y<=16)(je:Cd I.af I.lab a ((cE I.p x y 0 kk).1++[.op BI]) q) :
  OS I (ms c av b ((F+jm x:Nat):Int) (m.calls:Int) (a:Int) m.inp m.out) x F q ls c m ret (((iS I.p I.OP n).e x y (dn m)).and λv m=>.fin m 1 v):=by
 obtain ⟨q1,d1,d2⟩:=je.app;obtain ⟨c1,c4,c5⟩:=Cd.op d2;cases (show q1+1=q from c4);refine zl (w:=0) (j:=0) (D:=17) (w':=0) (c':=c) hE hx hM hF hH hl hv hu hd d1 O hM .refl (ay _) O O (.nil _) O (OS I _ x F _ ls c m ret) Tt (λ_ _ _ h=>h) λv m2 k c2 b2 R ju hS hf hc hU k1 k2 mK _=>?_;have s1:=qzD (a:=v) (b:=b2) (C:=((F+jm x+0:Nat):Int)) (d:=(m2.calls:Int)) (i:=m2.inp) (o:=m2.out) (ju.cell c1 O);exact Yi
omit hE hx hr in
theorem qsF{j:Int}(hj:j=1\/j=2)(h2:2<=ls.length)(je:Cd I.af I.lab a [.ref wh (ls.getD (ls.length - j.toNat) [])] q) :
  OS I (ms c av b ((F+jm x:Nat):Int) (m.calls:Int) (a:Int) m.inp m.out) x F q ls c m ret (.ok (j,0) (dn m)):=by
 obtain ⟨c1,c3,c4,c5⟩:=je.ref;have s1:=UZ (a:=av) (b:=b) (C:=((F+jm x:Nat):Int)) (d:=(m.calls:Int)) (i:=m.inp) (o:=m.out) (hM.cell c1 O) (hM.cell c3 O);refine ⟨1,c,_,_,_,_,_,.one Z s1,hM.dn,.refl,hF,kS,Z,by show 1+40 * (m.left - 1)<=_;omega,by show _<=m.left - 1+40 * 1;omega,?_⟩;rcases hj with rfl|rfl
 . exact .inr (.inl ⟨rfl,h2,rfl,rfl,rfl⟩)
 . exact .inr (.inr (.inl ⟨rfl,h2,rfl,rfl,rfl⟩))
end
section
variable{I:Im}(hI:I.OK)(hE:PE I n)(hx:x∈I.p.funcs){a:Nat}{av:Int}(hq:q<=I.G)(hM:MR I c m)(hF:FR x F c m.frm)(kS:c[F+x.params.length]?=some ret)(hH:I.H<=F)(hl:m.left≠0)(hr:F+jm x+102+120 * (100 - m.calls)<=65530)
include hI hE hx hq hM hF kS hH hl hr
theorem qvX(hv:om y=true)(hu:ph y=true)(hd:∀ nd∈oA y lp,jJ I.p x nd=0)(hy:dX y<=16)(zj:om z=true)(tX:ph z=true)(Bc:∀ nd∈oA z lp,jJ I.p x nd=0)(hz:dX z<=16)(hn:pf I.p x (nm,3,0)=0)(je:Cd I.af I.lab a ((cE I.p x y 0 kk).1++.num DQ (vN I.p (gi I.p nm))::.op qN::(cE I.p x z 1 k2).1++[.ref O9 (gT (gi I.p nm))]) q) :
    OS I (ms c av b ((F+jm x:Nat):Int) (m.calls:Int) (a:Int) m.inp m.out) x F q ls c m ret (((iS I.p I.OP n).e x y (dn m)).and λi m=>if ((ns I.p nm m).length:Int)<=i then .fin m 1 1 else ((iS I.p I.OP n).e x z m).and λv m=>.ok (0,0) { m with ae:=m.ae.set (mS I.p nm).toNat ((ns I.p nm m).set i.toNat v) }):=by
  obtain ⟨q2,d1,d2⟩:=je.app;obtain ⟨q1,d3,d4⟩:=d1.app;obtain ⟨c1,c2,c3,c4⟩:=Cd.num d4 Dc Dc;obtain ⟨c5,c6,c7⟩:=Cd.op c3;obtain ⟨e1,e2,e3,e4⟩:=Cd.ref d2;cases (show q2+2=q from e3);obtain ⟨_,h2⟩:=(K2 hn Dc).resolve_left (λh=>O);obtain ⟨i,g,h3,h4,h5,h6⟩:=h2.resolve_right (λh=>O);have hg3:=hI.gk i g h5;have hk:g.kind=3:=O
  obtain ⟨g1,g2,g3⟩:=hI.glo i g h5 O;rw [h3,show vN I.p (i:Int)=g.num by rw [vN,aD,h5]] at c2;rw [h3,g1] at e2;have hszF:jm x=x.params.length+1+x.locals.length:=rfl;refine zl (w:=0) (j:=0) (D:=17) (w':=0) (c':=c) hE hx hM hF hH hl hv hu hd d3 O hM .refl (ay _) O O (.nil _) O (OS I _ x F _ ls c m ret) Tt (λ_ _ _ h=>h) λv m2 k oE b2 R ju hS hf hc hU k1 k3 mK _=>?_;obtain ⟨l,l1,l2,l3⟩:=ju.ae i g h5 hk;have ha:ns I.p nm m2=l:=by rw [ns,h4,aD,aG,l1];rfl
  have hb:=qrU (a:=v) (b:=b2) (C:=((F+jm x+0:Nat):Int)) (d:=(m2.calls:Int)) (i:=m2.inp) (o:=m2.out) (ju.cell c1 O) (ju.cell c2 O);show OS I _ x F _ ls c m ret (if ((ns I.p nm m2).length:Int)<=v then _ else _);rw [ha];by_cases hv0:(l.length:Int)<=v
  . rw [au hv0]
    exact Xl
  rw [ak hv0];rw [au O] at hb;obtain ⟨u1,u2⟩:=hU;have iK:=ju.len;have hp:=KU (a:=v) (b:=1) (q:=F+jm x) (d:=(m2.calls:Int)) (i:=m2.inp) (o:=m2.out) (ju.cell c5 O) O iK;have iD:SK I oE (oE.set (F+jm x) v) (F+jm x):=.set (.inr (ay _));refine Np (m:=m) (σ:=17) hE hx hH zj tX Bc (w':=1) c6 O (ju.push hI O) (mK.keep iD hH (ay _)) O Q21 ((R.trans (ml.one Z hb)).trans (ml.one Z hp)) O O (OS I _ x F _ ls c m ret) Tt (λ_ _ _ h=>h) λv2 m3 k4 uq b3 R3 l0 oM xF sK hU3 k5 k6=>?_;obtain ⟨l',l4,l5,l6⟩:=l0.ae i g h5 hk;have hlen3:=l0.len;have ha3:ns I.p nm m3=l':=by rw [ns,h4,aD,aG,l4];rfl
  have kZ:v.toNat < l'.length:=O
  have hcell:uq[F+jm x]?=some v:=(oM _ O O).trans (bJ O);have hsg:l'.length=rb g:=by unfold rb;omega
  have s1:=qCj (a:=v2) (b:=b3) (r:=F+jm x) (d:=(m3.calls:Int)) (i:=m3.inp) (o:=m3.out) (q:=I.ga i+v.toNat) (l0.cell e1 O) (l0.cell e2 O) hcell O (by unfold mc;omega) O;have hset:({ m3 with ae:=m3.ae.set (mS I.p nm).toNat ((ns I.p nm m3).set v.toNat v2) }:MS)={ m3 with ae:=m3.ae.set i (l'.set v.toNat v2) }:=by rw [ha3,h4,aD]
  show OS I _ x F _ ls c m ret (.ok (0,0) { m3 with ae:=m3.ae.set (mS I.p nm).toNat ((ns I.p nm m3).set v.toNat v2) });rw [hset];have hS4:SK I uq (uq.set (I.ga i+v.toNat) v2) (F+jm x+1):=.set (.inl O);have hSS:SK I oE (uq.set (I.ga i+v.toNat) v2) (F+jm x):=iD.trans (oM.trans hS4 (ay _)) O;have hFF:FR x F (uq.set (I.ga i+v.toNat) v2) m3.frm:=by
    have xF:m3.frm=m2.frm:=xF;rw [xF];exact mK.keep hSS hH (ay _)
  exact ⟨_,_,_,_,_,_,_,R3.trans (.one rfl s1),l0.setArr hI h5 hk l4 kZ hU3,(hS.trans hSS (ay _)).le O,hFF,((hS.trans hSS (ay _)) _ O O).trans kS,sK.trans hc,by show _+40 * m3.left<=_;omega,by show _<=m3.left+_;omega,.inl ⟨rfl,rfl,by show (m3.calls:Int)=_;rw [sK,hc],rfl⟩⟩
end
mutual
def dS:iP->Nat
 | .mk _ _ es b e=>max (tr es) (max (wz b) (wz e))
def wz:List iP->Nat
 | []=>0
 | x::r=>max (dS x) (wz r)
end
def PT(I:Im)(n:Nat):Prop:=∀ (x:iM) (y:iP) (lv lp k a q:Nat) (ls:List iH) (m:MS) (c:iG) (F:Nat) (av b ret:Int),x∈I.p.funcs->th y lv=true->zL y=true->dS y<=16->(∀ nd∈tA y lp,jJ I.p x nd=0)->(0 < lp->2<=ls.length)->Cd I.af I.lab a (cS I.p x y k ls).1 q->q<=I.G->MR I c m->FR x F c m.frm->c[F+x.params.length]?=some ret->I.H<=F->F+jm x+102+120 * (100 - m.calls)<=65530->1<=m.calls ->
 OS I (ms c av b ((F+jm x:Nat):Int) (m.calls:Int) (a:Int) m.inp m.out) x F q ls c m ret ((iS I.p I.OP n).t x y m)
def OS.pre{c2:iG}(h:OS I s2 x F q ls c2 m2 ret r)(R:ml s j s2)(hS:SK I c c2 F)(hc:m2.calls=m.calls)(h1:j+40 * m2.left<=40 * m.left)(h2:m.left<=m2.left+40 * j):OS I s x F q ls c m ret r:=by
 cases r with
 | out=>trivial
 | fin m' st cd=>exact vg.pre h R h1 O
 | ok y m'=>
  obtain ⟨k,c',a',b',C',e',p',R',hM,hS',hF,hr,hc',k1,k2,hw⟩:=h;exact ⟨_,c',a',b',C',e',p',R.trans R',hM,hS.trans hS' (ay _),hF,hr,hc'.trans hc,O,O,hc▸hw⟩
def Gt{I:Im}{n:Nat}(hT:PT I n){x:iM}(hx:x∈I.p.funcs):∀ (l:List iP) (lv lp k a q:Nat) (ls:List iH) (m:MS) (c:iG) (F:Nat) (av b ret:Int),oC l lv=true->qO l=true->wz l<=16->(∀ nd∈ly l lp,jJ I.p x nd=0)->(0 < lp->2<=ls.length)->Cd I.af I.lab a (cB I.p x l k ls).1 q->q<=I.G->MR I c m->FR x F c m.frm->c[F+x.params.length]?=some ret->I.H<=F->F+jm x+102+120 * (100 - m.calls)<=65530->1<=m.calls ->
    OS I (ms c av b ((F+jm x:Nat):Int) (m.calls:Int) (a:Int) m.inp m.out) x F q ls c m ret (mh ((iS I.p I.OP n).t x) l m)
  | [],lv,lp,k,a,q,ls,m,c,F,av,b,ret,_,_,_,_,_,je,_,hM,hF,kS,_,_,_=>by
    unfold cB at je;cases (show a=q from je);exact ⟨0,c,av,b,_,_,_,.nil _,hM,.refl,hF,kS,rfl,O,O,.inl ⟨rfl,rfl,rfl,rfl⟩⟩
  | y::r,lv,lp,k,a,q,ls,m,c,F,av,b,ret,hv,hu,hd,hn,tv,je,hq,hM,hF,kS,hH,hr,nI=>by
    simp only [oC,qO,aA] at hv hu;rw [wz] at hd;unfold cB at je;obtain ⟨q1,d1,d2⟩:=je.app;have j9:=d2.le;have h:=hT x y lv lp k a q1 ls m c F av b ret hx hv.1 hu.1 O (λnd h=>hn nd (aI _ h)) tv d1 O hM hF kS hH hr nI;rw [mh];cases yq:(iS I.p I.OP n).t x y m with
    | out=>trivial
    | fin m' st cd=>rw [yq] at h;exact h
    | ok w m2=>
      rw [yq] at h;obtain ⟨k',c',a',b',C',e',p',R',qv,hS',hF',hr',hc',k1,k2,hw⟩:=h;show OS I _ x F q ls c m ret (if w.1=0 then mh _ r m2 else .ok w m2);by_cases h0:w.1=0
      . rw [au h0]
        obtain ⟨_,w2,w3,w4⟩:=hw.resolve_right (by rintro (h|h|h)<;>omega);subst w2 w3 w4;have R2:ml (ms c av b ((F+jm x:Nat):Int) (m.calls:Int) (a:Int) m.inp m.out) k' (ms c' a' b' ((F+jm x:Nat):Int) (m2.calls:Int) (q1:Int) m2.inp m2.out):=by rw [hc'];exact R'
        exact OS.pre (Gt hT hx r lv lp _ q1 q ls m2 c' F a' b' ret hv.2 hu.2 O (λnd h=>hn nd (aF _ h)) tv d2 hq qv hF' hr' hH (by rw [hc'];exact hr) O) R2 hS' hc' k1 k2
      . rw [ak h0]
        exact ⟨k',c',a',b',C',e',p',R',qv,hS',hF',hr',hc',k1,k2,hw.imp (λh=>absurd h.1 h0) id⟩
def OS.prej{I:Im}{s:lH}{j:Nat}{c2:iG}(h:OS I s2 x F q1 ls c2 m2 ret r)(R:ml s j s2)(hS:SK I c c2 F)(hc:m2.calls=m.calls)(h1:j+1+40 * m2.left<=40 * m.left)(h2:m.left<=m2.left+40 * j)
    (nJ:∀ c' a' b' (m':MS),MR I c' m'->l9 iW (ms c' a' b' ((F+jm x:Nat):Int) (m'.calls:Int) (q1:Int) m'.inp m'.out)=ms c' a' b' ((F+jm x:Nat):Int) (m'.calls:Int) (q:Int) m'.inp m'.out):OS I s x F q ls c m ret r:=by
  cases r with
  | out=>trivial
  | fin m' st cd=>exact vg.pre h R O O
  | ok y m'=>
    obtain ⟨k,c',a',b',C',e',p',R',hM,hS',hF,hr,hc',k1,k2,hw⟩:=h;rcases hw with ⟨w1,w2,w3,w4⟩|hw
    . subst w2 w3 w4
      have s1:=nJ c' a' b' m' hM;rw [hc'] at s1;exact ⟨_,c',a',b',_,_,_,(R.trans R').trans (.one rfl s1),hM,hS.trans hS' (ay _),hF,hr,hc'.trans hc,O,O,.inl ⟨w1,rfl,by rw [hc],rfl⟩⟩
    . exact ⟨_,c',a',b',C',e',p',R.trans R',hM,hS.trans hS' (ay _),hF,hr,hc'.trans hc,O,O,.inr (hc▸hw)⟩
section
variable{I:Im}(hI:I.OK)(hE:PE I n)(hT:PT I n)(hx:x∈I.p.funcs){k3 km a:Nat}{av:Int}(hq:q<=I.G)(hM:MR I c m)(hF:FR x F c m.frm)(kS:c[F+x.params.length]?=some ret)(hH:I.H<=F)(hl:m.left≠0)(hr:F+jm x+102+120 * (100 - m.calls)<=65530)(nI:1<=m.calls)
include hI hE hT hx hq hM hF kS hH hl hr nI
theorem qIx(hv:om y=true)(hu:ph y=true)(hd:∀ nd∈oA y lp,jJ I.p x nd=0)(hy:dX y<=16)(bv:oC B lv=true)(bu:qO B=true)(bd:wz B<=16)(bn:∀ nd∈ly B lp,jJ I.p x nd=0)(tv:0 < lp->2<=ls.length)(je:Cd I.af I.lab a ((cE I.p x y 0 kk).1++.ref uh (lT kl)::(cB I.p x B k2 ls).1++[.lab (lT kl)]) q) :
    OS I (ms c av b ((F+jm x:Nat):Int) (m.calls:Int) (a:Int) m.inp m.out) x F q ls c m ret (((iS I.p I.OP n).e x y (dn m)).and λv m=>if v≠0 then mh ((iS I.p I.OP n).t x) B m else mh ((iS I.p I.OP n).t x) [] m):=by
  obtain ⟨q2,d1,d2⟩:=je.app;obtain ⟨q1,d3,d4⟩:=d1.app;obtain ⟨c1,c2,c3,c4⟩:=Cd.ref d4;obtain ⟨f1,f2⟩:=Cd.lbl d2;cases (show q2=q from f2);have hszF:jm x=x.params.length+1+x.locals.length:=rfl;refine zl (w:=0) (j:=0) (D:=17) (w':=0) (c':=c) hE hx hM hF hH hl hv hu hd d3 O hM .refl (ay _) O O (.nil _) O (OS I _ x F _ ls c m ret) Tt (λ_ _ _ h=>h) λv m2 k oE b2 R ju hS hf hc hU k1 k3 mK _=>?_;have s1:=KL (a:=v) (b:=b2) (C:=((F+jm x:Nat):Int)) (d:=(m2.calls:Int)) (i:=m2.inp) (o:=m2.out) (ju.cell c1 O) (ju.cell c2 O);have hc:m2.calls=m.calls:=hc;have hS:SK I c oE (F+jm x):=hS;have hret2:oE[F+x.params.length]?=some ret:=(hS _ O O).trans kS;show OS I _ x F _ ls c m ret (if v≠0 then _ else _);by_cases h0:v=0
  . rw [ak (λk=>k h0)]
    rw [au h0,f1] at s1;exact ⟨_,oE,_,_,_,_,_,R.trans (.one rfl s1),ju,hS.le O,mK,hret2,hc,O,O,.inl ⟨rfl,rfl,by rw [hc],rfl⟩⟩
  . rw [au h0]
    rw [ak h0] at s1;exact OS.pre (Gt hT hx B lv lp _ _ _ ls m2 oE F v b2 ret bv bu bd bn tv c3 hq ju mK hret2 hH (by rw [hc];exact hr) O) (R.trans (.one rfl s1)) (hS.le O) hc O O
theorem qIy(hv:om y=true)(hu:ph y=true)(hd:∀ nd∈oA y lp,jJ I.p x nd=0)(hy:dX y<=16)(bv:oC B lv=true)(bu:qO B=true)(bd:wz B<=16)(bn:∀ nd∈ly B lp,jJ I.p x nd=0)(ev:oC E lv=true)(eu:qO E=true)(ed:wz E<=16)(en:∀ nd∈ly E lp,jJ I.p x nd=0)(tv:0 < lp->2<=ls.length)(je:Cd I.af I.lab a ((cE I.p x y 0 kk).1++.ref uh (lT kl)::(cB I.p x B k2 ls).1++.ref wh (lT km)::.lab (lT kl)::(cB I.p x E k3 ls).1++[.lab (lT km)]) q) :
    OS I (ms c av b ((F+jm x:Nat):Int) (m.calls:Int) (a:Int) m.inp m.out) x F q ls c m ret (((iS I.p I.OP n).e x y (dn m)).and λv m=>if v≠0 then mh ((iS I.p I.OP n).t x) B m else mh ((iS I.p I.OP n).t x) E m):=by
  obtain ⟨q3,d0,d2⟩:=je.app;obtain ⟨q2,d1,d5⟩:=d0.app;obtain ⟨q1,d3,d4⟩:=d1.app;obtain ⟨c1,c2,c3,c4⟩:=Cd.ref d4;obtain ⟨g1,g2,g3,g4⟩:=Cd.ref d5;obtain ⟨f1,f2⟩:=Cd.lbl g3;obtain ⟨f3,f4⟩:=Cd.lbl d2;cases (show q3=q from f4);have hszF:jm x=x.params.length+1+x.locals.length:=rfl;refine zl (w:=0) (j:=0) (D:=17) (w':=0) (c':=c) hE hx hM hF hH hl hv hu hd d3 O hM .refl (ay _) O O (.nil _) O (OS I _ x F _ ls c m ret) Tt (λ_ _ _ h=>h) λv m2 k oE b2 R ju hS hf hc hU k1 k3 mK _=>?_;have s1:=KL (a:=v) (b:=b2) (C:=((F+jm x:Nat):Int)) (d:=(m2.calls:Int)) (i:=m2.inp) (o:=m2.out) (ju.cell c1 O) (ju.cell c2 O);have hc:m2.calls=m.calls:=hc;have hS:SK I c oE (F+jm x):=hS;have hret2:oE[F+x.params.length]?=some ret:=(hS _ O O).trans kS;show OS I _ x F _ ls c m ret (if v≠0 then _ else _);by_cases h0:v=0
  . rw [ak (λk=>k h0)]
    rw [au h0,f1] at s1;exact OS.pre (Gt hT hx E lv lp _ _ _ ls m2 oE F v b2 ret ev eu ed en tv f2 hq ju mK hret2 hH (by rw [hc];exact hr) O) (R.trans (.one rfl s1)) (hS.le O) hc O O
  . rw [au h0]
    rw [ak h0] at s1;refine OS.prej (Gt hT hx B lv lp _ _ _ ls m2 oE F v b2 ret bv bu bd bn tv c3 O ju mK hret2 hH (by rw [hc];exact hr) O) (R.trans (.one Z s1)) (hS.le O) hc O O λc' a' b' m' qv=>?_;have s2:=UZ (a:=a') (b:=b') (C:=((F+jm x:Nat):Int)) (d:=(m'.calls:Int)) (i:=m'.inp) (o:=m'.out) (qv.cell g1 O) (qv.cell g2 O);rw [f3] at s2;exact s2
end
def ER.and_and{α β γ:Type}(r:ER α)(f:α->MS->ER β)(g:β->MS->ER γ):(r.and f).and g=r.and λa m=>(f a m).and g:=by cases r<;>rfl
abbrev up(m:MS):MS:={ m with left:=m.left+1 }
def PW(I:Im)(n:Nat):Prop:=∀ (x:iM) (y:Ex) (B:List iP) (lv lp kk k2 a q1 q2:Nat) (lB lE:iH) (ls:List iH) (m:MS) (c:iG) (F:Nat) (av b ret:Int),x∈I.p.funcs->om y=true->ph y=true->dX y<=16->(∀ nd∈oA y lp,jJ I.p x nd=0)->oC B lv=true->qO B=true->wz B<=16->(∀ nd∈ly B (lp+1),jJ I.p x nd=0) ->
 Cd I.af I.lab a (cE I.p x y 0 kk).1 q1->Cd I.af I.lab q1 (.ref uh lE::(cB I.p x B k2 (ls++[lB,lE])).1) q2->Cd I.af I.lab q2 [.ref wh lB,.lab lE] (q2+2)->I.lab lB=(a:Int)->q2+2<=I.G->MR I c m->FR x F c m.frm->c[F+x.params.length]?=some ret->I.H<=F->F+jm x+102+120 * (100 - m.calls)<=65530->1<=m.calls ->
 OS I (ms c av b ((F+jm x:Nat):Int) (m.calls:Int) (a:Int) m.inp m.out) x F (q2+2) ls c (up m) ret ((iS I.p I.OP n).w x y B m)
def qAK(hE:PE I n)(hT:PT I n)(hW:PW I n):PW I (n+1):=by
  intro x y B lv lp kk k2 a q1 q2 lB lE ls m c F av b ret hx hv hu hy hd bv bu bd bn hcd1 hcd2 hcd3 hlB hq hM hF kS hH hr nI;obtain ⟨c1,c2,c3,c4⟩:=Cd.ref hcd2;obtain ⟨g1,g2,g3,g4⟩:=Cd.ref hcd3;obtain ⟨f1,_⟩:=Cd.lbl g3;have hszF:jm x=x.params.length+1+x.locals.length:=rfl;show OS I _ x F _ ls c (up m) ret (((iS I.p I.OP n).e x y m).and λv m=>if v=0 then .ok (0,0) m else (mh ((iS I.p I.OP n).t x) B m).and λy' m=>if y'.1=1 then .ok (0,0) m else if y'.1=3 then .ok y' m else (iS I.p I.OP n).w x y B m);refine OE.bind (m:=up m) (j:=0) (δ:=1) (σ:=17) (OS I _ x F _ ls c (up m) ret) Tt (λ_ _ _ h=>h) (hE x y lp 0 kk a q1 m c F av b hx hv hu hd hcd1 O hM hF hH O) (.nil _) (by show 0+40 * m.left<=40 * (m.left+1);omega) (by show m.left+1<=m.left+40 * 0+1;omega) O λv m2 h=>?_;obtain ⟨k,oE,b2,R,ju,hS,hf,hc,hU,k1,k3⟩:=h;have hS:SK I c oE (F+jm x):=hS;have mK:FR x F oE m2.frm:=by rw [hf];exact hF.keep hS hH (ay _)
  have hret2:oE[F+x.params.length]?=some ret:=(hS _ O O).trans kS;have s1:=KL (a:=v) (b:=b2) (C:=((F+jm x:Nat):Int)) (d:=(m2.calls:Int)) (i:=m2.inp) (o:=m2.out) (ju.cell c1 O) (ju.cell c2 O);show OS I _ x F _ ls c (up m) ret (if v=0 then _ else _);by_cases h0:v=0
  . rw [au h0]
    rw [au h0,f1] at s1;exact ⟨_,oE,_,_,_,_,_,R.trans (.one rfl s1),ju,hS.le O,mK,hret2,hc,by show _<=40 * (m.left+1);omega,by show m.left+1<=_;omega,.inl ⟨rfl,rfl,by show (m2.calls:Int)=(m.calls:Int);rw [hc],rfl⟩⟩
  rw [ak h0];rw [ak h0] at s1;have h:=Gt hT hx B lv (lp+1) _ _ _ (ls++[lB,lE]) m2 oE F v b2 ret bv bu bd bn (λ_=>Ξ) c3 O ju mK hret2 hH (by rw [hc];exact hr) O;have R1:=R.trans (.one rfl s1);cases yq:mh ((iS I.p I.OP n).t x) B m2 with
  | out=>trivial
  | fin m' st cd=>rw [yq] at h;exact vg.pre h R1 (by show _<=40 * (m.left+1);omega) (by show m.left+1+17<=_;omega)
  | ok w m3=>
    rw [yq] at h;obtain ⟨k',uq,a3,b3,C3,e3,p3,R3,l0,oM,hF3,hret3,sK,k5,k6,hw⟩:=h;have hSS:SK I c uq F:=(hS.le O).trans oM (ay _);have nS:m3.calls=m.calls:=sK.trans hc;have e1:(ls++[lB,lE]).getD ((ls++[lB,lE]).length - 1) []=lE:=by simp [aG]
    have e2:(ls++[lB,lE]).getD ((ls++[lB,lE]).length - 2) []=lB:=by simp [aG]
    have again:∀ {j:Nat} {a' b':Int},ml (ms c av b ((F+jm x:Nat):Int) (m.calls:Int) (a:Int) m.inp m.out) j (ms uq a' b' ((F+jm x:Nat):Int) (m3.calls:Int) (a:Int) m3.inp m3.out)->j+40 * m3.left<=40 * m.left->m.left<=m3.left+40 * j->OS I (ms c av b ((F+jm x:Nat):Int) (m.calls:Int) (a:Int) m.inp m.out) x F (q2+2) ls c (up m) ret ((iS I.p I.OP n).w x y B m3):=λ{j a' b'} RR j1 j2=>
      OS.pre (m2:=up m3) (hW x y B lv lp kk k2 a q1 q2 lB lE ls m3 uq F a' b' ret hx hv hu hy hd bv bu bd bn hcd1 hcd2 hcd3 hlB hq l0 hF3 hret3 hH (by rw [nS];exact hr) O) RR hSS nS (by show j+40 * (m3.left+1)<=40 * (m.left+1);omega) (by show m.left+1<=m3.left+1+40 * j;omega)
    show OS I _ x F _ ls c (up m) ret (if w.1=1 then .ok (0,0) m3 else if w.1=3 then .ok w m3 else (iS I.p I.OP n).w x y B m3);rcases hw with ⟨w1,w2,w3,w4⟩|⟨w1,_,w2,w3,w4⟩|⟨w1,_,w2,w3,w4⟩|hw
    . rw [ak O,ak O]
      subst w2 w3 w4;have s2:=UZ (a:=a3) (b:=b3) (C:=((F+jm x:Nat):Int)) (d:=(m2.calls:Int)) (i:=m3.inp) (o:=m3.out) (l0.cell g1 O) (l0.cell g2 O);rw [hlB] at s2;have R4:=(R1.trans R3).trans (.one rfl s2);rw [<- sK] at R4;exact again R4 O O
    . rw [au w1]
      rw [e1,f1] at w4;subst w2 w3 w4;exact ⟨_,uq,_,_,_,_,_,R1.trans R3,l0,hSS,hF3,hret3,nS,by show _<=40 * (m.left+1);omega,by show m.left+1<=_;omega,.inl ⟨rfl,rfl,by show (m2.calls:Int)=(m.calls:Int);rw [hc],rfl⟩⟩
    . rw [ak O,ak O]
      rw [e2,hlB] at w4;subst w2 w3 w4;have R4:=R1.trans R3;rw [<- sK] at R4;exact again R4 O O
    . rw [ak O,au hw.1]
      exact ⟨_,uq,_,_,_,_,_,R1.trans R3,l0,hSS,hF3,hret3,nS,by show _<=40 * (m.left+1);omega,by show m.left+1<=_;omega,.inr (.inr (.inr (by rw [<- hc];exact hw)))⟩
section
variable{I:Im}(hI:I.OK)(hx:x∈I.p.funcs){a:Nat}{av:Int}{lB lE:iH}(hq:q<=I.G)(hM:MR I c m)(hF:FR x F c m.frm)(kS:c[F+x.params.length]?=some ret)(hH:I.H<=F)(hl:m.left≠0)(hr:F+jm x+102+120 * (100 - m.calls)<=65530)(nI:1<=m.calls)
include hx hq hM hF kS hH hl hr nI
theorem qvY(hW:PW I n)(hv:om y=true)(hu:ph y=true)(hd:∀ nd∈oA y lp,jJ I.p x nd=0)(hy:dX y<=16)(bv:oC B lv=true)(bu:qO B=true)(bd:wz B<=16)(bn:∀ nd∈ly B (lp+1),jJ I.p x nd=0)(je:Cd I.af I.lab a (.lab lB::(cE I.p x y 0 kk).1++.ref uh lE::(cB I.p x B k2 (ls++[lB,lE])).1++[.ref wh lB,.lab lE]) q) :
  OS I (ms c av b ((F+jm x:Nat):Int) (m.calls:Int) (a:Int) m.inp m.out) x F q ls c m ret ((iS I.p I.OP n).w x y B (dn m)):=by
 obtain ⟨q2,d1,d2⟩:=je.app;obtain ⟨q1,d3,d4⟩:=d1.app;obtain ⟨f1,f2⟩:=Cd.lbl d3;obtain ⟨_,_,g3,_⟩:=Cd.ref d2;obtain ⟨_,g4⟩:=Cd.lbl g3;cases (show q2+2=q from g4);have h:=hW x y B lv lp kk k2 a q1 q2 lB lE ls (dn m) c F av b ret hx hv hu hy hd bv bu bd bn f2 d4 d2 f1 hq hM.dn hF kS hH hr nI;have e:up (dn m)=m:=by
  show ({ m with left:=m.left - 1+1 }:MS)=m;rw [Nat.sub_add_cancel O]
 rw [e] at h;exact h
include hI
theorem qCQ(hO:Cy I.OP)(hE:PE I n)(hC:PC I n)(hv:pE az=true)(hu:rn az=true)(hd:∀ nd∈oY az lp,jJ I.p x nd=0)(hy:tr az<=16)(hn:pf I.p x (nm,4,(az.length:Int))=0)(je:Cd I.af I.lab a ((cC I.p x az 0 kk).1++cL I.p nm az.length) q) :
  OS I (ms c av b ((F+jm x:Nat):Int) (m.calls:Int) (a:Int) m.inp m.out) x F q ls c m ret ((nn ((iS I.p I.OP n).e x) az (dn m)).and λvs m=>((iS I.p I.OP n).c (r9 I.p nm).toNat vs m).and λ_ m=>.ok (0,0) m):=by
 have h:=qsy (n:=n) (σ:=17) (w:=0) (av:=av) (b:=b) hI hO hE hC hx hq hM hF hH hl hv hu hd hn je O O;have hszF:jm x=x.params.length+1+x.locals.length:=rfl;rw [<- ER.and_and];refine OE.bind (m:=m) (m1:=m) (j:=0) (δ:=0) (σ:=17) (OS I _ x F _ ls c m ret) Tt (λ_ _ _ h=>h) h (.nil _) O O O λv m2 h=>?_;obtain ⟨k,oE,b2,R,ju,hS,hf,hc,hU,k1,k3⟩:=h;have hS:SK I c oE (F+jm x):=hS;exact ⟨_,oE,_,_,_,_,_,R,ju,hS.le O,by rw [hf];exact hF.keep hS hH (ay _),(hS _ O O).trans kS,hc,O,O,.inl ⟨rfl,rfl,by rw [hc],rfl⟩⟩
end
def qAJ(hI:I.OK)(hO:Cy I.OP)(hE:PE I n)(hC:PC I n)(hT:PT I n)(hW:PW I n):PT I (n+1):=by
  rintro x ⟨kd,nm,es,B,E⟩ lv lp kk a q ls m c F av b ret hx hv hu hdp hd tv je hq hM hF kS hH hr nI;obtain ⟨_,hc,hes,hb,he⟩:=wY hv;obtain ⟨k1,k2,a1,a2,a3,a4⟩:=Cb hc;simp only [zL,aA] at hu;obtain ⟨d1,d2,d3,d4⟩:=Gl hd;simp only [iP.kind,iP.exprs,iP.body,iP.els] at k1 k2 a1 a2 a3 a4 hes hb he;rw [dS] at hdp;show OS I _ x F q ls c m ret ((rp m).and λ_ m=>sX I.p (iS I.p I.OP n) x (.mk kd nm es B E) m);refine qoS (OS I _ x F q ls c m ret) Z Z (λ_ _ _ h=>h) λhl=>?_;unfold cS at je;show OS I _ x F q ls c m ret (sX I.p (iS I.p I.OP n) x (.mk kd nm es B E) (dn m));unfold sX;have one:∀ {y:Ex} {r:List Ex},es=y::r->om y=true/\ph y=true/\(∀ nd∈oA y lp,jJ I.p x nd=0)/\dX y<=16:=λ{y r} e=>by
    subst e;simp only [pE,rn,aA] at hes hu;rw [tr] at hdp;exact ⟨hes.1,hu.1.1.1,λnd h=>d2 nd (aI _ h),O⟩
  have lpos:kd=9\/kd=10->0 < lp:=λh=>by
    rcases eY lp with h0|h0
    . rw [jJ,au ⟨h,h0⟩] at d1;exact absurd d1 Dc
    . exact h0
  have l1:wW kd=1->∃ y r,es=y::r:=λh=>by
    cases es with
    | nil=>rw [h] at a1;simp at a1
    | cons y r=>exact ⟨y,r,rfl⟩
  by_cases e1:kd=1
  . rw [au e1] at je
    rw [au (show (iP.mk kd nm es B E).kind=1 from e1)];subst e1;obtain ⟨y,r,rfl⟩:=l1 rfl;obtain ⟨v1,v2,v3,v4⟩:=one rfl;unfold cH at je;exact qsE (y:=y) (nm:=nm) hI hE hx hq hM hF kS hH hl hr v1 v2 v3 v4 (by have e:o6 (.mk 1 nm (y::r) B E)=(nm,1,0):=rfl;rwa [jJ,ak Q16,e] at d1) je
  rw [ak e1] at je;rw [ak (show ¬ (iP.mk kd nm es B E).kind=1 from e1)];by_cases e2:kd=2
  . rw [au e2] at je
    rw [au (show (iP.mk kd nm es B E).kind=2 from e2)];subst e2;obtain ⟨y,z,r,rfl⟩:∃ y z r,es=y::z::r:=by
      match es,(show 2<=es.length from a1) with
      | y::z::r,_=>exact ⟨y,z,r,rfl⟩
    obtain ⟨v1,v2,v3,v4⟩:=one rfl;simp only [pE,rn,aA] at hes hu;simp only [tr] at hdp;have eI:∀ w k,cI I.p x (y::z::r) w k=cE I.p x z w k:=λw k=>by unfold cI cH;rfl
    have eH:∀ w k,cH I.p x (y::z::r) w k=cE I.p x y w k:=λw k=>by unfold cH;rfl
    rw [eH,eI] at je;exact qvX (y:=y) (z:=z) (nm:=nm) hI hE hx hq hM hF kS hH hl hr v1 v2 v3 v4 hes.2.1 hu.1.1.2.1 (λnd h=>d2 nd (aF _ (aI _ h))) O (by have e:o6 (.mk 2 nm (y::z::r) B E)=(nm,3,0):=rfl;rwa [jJ,ak Q16,e] at d1) je
  rw [ak e2] at je;rw [ak (show ¬ (iP.mk kd nm es B E).kind=2 from e2)];by_cases e3:kd=3
  . rw [au e3] at je
    rw [au (show (iP.mk kd nm es B E).kind=3 from e3)];subst e3;obtain ⟨y,r,rfl⟩:=l1 rfl;obtain ⟨v1,v2,v3,v4⟩:=one rfl;unfold cH at je;by_cases e0:E.length=0
    . rw [au e0] at je
      obtain rfl:=List.length_eq_zero_iff.1 e0;exact qIx (y:=y) (B:=B) (lp:=lp) hI hE hT hx hq hM hF kS hH hl hr nI v1 v2 v3 v4 hb hu.1.2 O d3 tv je
    . rw [ak e0] at je
      exact qIy (y:=y) (B:=B) (E:=E) (lp:=lp) hI hE hT hx hq hM hF kS hH hl hr nI v1 v2 v3 v4 hb hu.1.2 O d3 he hu.2 O d4 tv je
  rw [ak e3] at je;rw [ak (show ¬ (iP.mk kd nm es B E).kind=3 from e3)];by_cases e4:kd=4
  . rw [au e4] at je
    rw [au (show (iP.mk kd nm es B E).kind=4 from e4)];subst e4;obtain ⟨y,r,rfl⟩:=l1 rfl;obtain ⟨v1,v2,v3,v4⟩:=one rfl;unfold cH at je;exact qvY (y:=y) (B:=B) (lp:=lp) hx hq hM hF kS hH hl hr nI hW v1 v2 v3 v4 hb hu.1.2 O d3 je
  rw [ak e4] at je;rw [ak (show ¬ (iP.mk kd nm es B E).kind=4 from e4)];by_cases e5:kd=5
  . rw [au e5] at je
    rw [au (show (iP.mk kd nm es B E).kind=5 from e5)];subst e5;exact qCQ (az:=es) (nm:=nm) hI hx hq hM hF kS hH hl hr nI hO hE hC hes hu.1.1 d2 O (by have e:o6 (.mk 5 nm es B E)=(nm,4,(es.length:Int)):=rfl;rwa [jJ,ak Q16,e] at d1) je
  rw [ak e5] at je;rw [ak (show ¬ (iP.mk kd nm es B E).kind=5 from e5)];by_cases e6:kd=6
  . rw [au e6] at je
    rw [au (show (iP.mk kd nm es B E).kind=6 from e6)];subst e6;obtain ⟨y,r,rfl⟩:=l1 rfl;obtain ⟨v1,v2,v3,v4⟩:=one rfl;unfold cH at je;exact qIA (y:=y) hI hE hx hq hM hF kS hH hl hr v1 v2 v3 v4 nI je
  rw [ak e6] at je;rw [ak (show ¬ (iP.mk kd nm es B E).kind=6 from e6)];by_cases e7:kd=7
  . rw [au e7] at je
    rw [au (show (iP.mk kd nm es B E).kind=7 from e7)];subst e7;obtain ⟨y,r,rfl⟩:=l1 rfl;obtain ⟨v1,v2,v3,v4⟩:=one rfl;unfold cH at je;exact qIz (y:=y) hI hE hx hq hM hF kS hH hl hr v1 v2 v3 v4 je
  rw [ak e7] at je;rw [ak (show ¬ (iP.mk kd nm es B E).kind=7 from e7)];by_cases e8:kd=8
  . rw [au e8] at je
    rw [au (show (iP.mk kd nm es B E).kind=8 from e8)];subst e8;obtain ⟨y,r,rfl⟩:=l1 rfl;obtain ⟨v1,v2,v3,v4⟩:=one rfl;unfold cH at je;exact qCR (y:=y) hI hE hx hq hM hF kS hH hl hr v1 v2 v3 v4 je
  rw [ak e8] at je;rw [ak (show ¬ (iP.mk kd nm es B E).kind=8 from e8)];by_cases e9:kd=9
  . rw [au e9] at je
    rw [au (show (iP.mk kd nm es B E).kind=9 from e9)];subst e9;exact qsF (j:=1) hI hq hM hF kS hH hl (.inl rfl) (tv (lpos (.inl rfl))) je
  rw [ak e9] at je;rw [ak (show ¬ (iP.mk kd nm es B E).kind=9 from e9)];exact qsF (j:=2) hI hq hM hF kS hH hl (.inr rfl) (tv (lpos (.inr O))) je
def Im.BD(I:Im):Prop:=∀ x∈I.p.funcs,oC x.body 1=true/\qO x.body=true/\wz x.body<=16/\∀ nd∈ly x.body 0,jJ I.p x nd=0
def qo0{I:Im}(hI:I.OK){m:MS}{b d:Int}{i o:iH}:∀ (j:Nat) (c:iG) (C p q:Nat),MR I c m->Cd I.af I.lab p (List.replicate j (.op qN)) q->q<=I.G->I.H<=C->C+j<=65536 ->
  ∃ c',ml (ms c 0 b (C:Int) d (p:Int) i o) j (ms c' 0 b ((C+j:Nat):Int) d (q:Int) i o)/\MR I c' m/\(∀ k,k < C->c'[k]?=c[k]?)/\∀ t,t < j->c'[C+t]?=some 0
 | 0,c,C,p,q,hM,je,_,_,_=>by
  cases (show p=q from je);exact ⟨c,.nil _,hM,λ_ _=>rfl,λt h=>O⟩
 | j+1,c,C,p,q,hM,je,hq,hC,hr=>by
  rw [eR] at je;obtain ⟨c1,c2,c3⟩:=Cd.op je;have hl:=hM.len;have s1:=KU (a:=0) (b:=b) (q:=C) (d:=d) (i:=i) (o:=o) (hM.cell c1 O) O hl;obtain ⟨c',R,qv,h1,h2⟩:=qo0 (b:=b) (d:=d) (i:=i) (o:=o) hI j (c.set C 0) (C+1) (p+1) q (hM.push hI hC) c2 hq O O;rw [show C+1+j=C+(j+1) by omega] at R;have R1:=(ml.one rfl s1).trans R;rw [fe 1 j] at R1;refine ⟨c',R1,qv,λk hk=>(h1 k O).trans (bt O),λt ht=>?_⟩;cases t with
  | zero=>exact (h1 C O).trans (bJ O)
  | succ t=>have:=h2 t O;rwa [show C+1+t=C+(t+1) by omega] at this
def qIE(hI:I.OK){av d:Int}{i o:iH}{p:Nat}(hM:MR I c m)(je:Cd I.af I.lab p ((if 0 < n then [.num pX 0] else [])++List.replicate n (.op qN)) q)(hq:q<=I.G)(hC:I.H<=C)(hr:C+n<=65536):
    ∃ j c' a',ml (ms c av b (C:Int) d (p:Int) i o) j (ms c' a' b ((C+n:Nat):Int) d (q:Int) i o)/\j<=n+1/\MR I c' m/\(∀ k,k < C->c'[k]?=c[k]?)/\∀ t,t < n->c'[C+t]?=some 0:=by
  by_cases h:0 < n
  . rw [au h] at je
    obtain ⟨c1,c2,c3,c4⟩:=Cd.num (L:=List.replicate n (.op qN)) je Dc Dc;obtain ⟨c',R,qv,h1,h2⟩:=qo0 (b:=b) (d:=d) (i:=i) (o:=o) hI n c C (p+2) q hM c3 hq hC hr;have s1:=Lf (a:=av) (b:=b) (C:=(C:Int)) (d:=d) (i:=i) (o:=o) (hM.cell c1 O) (hM.cell c2 O);exact ⟨_,c',0,(ml.one rfl s1).trans R,O,qv,h1,h2⟩
  . obtain rfl:n=0:=O
    cases (show p=q from je);exact ⟨0,c,av,.nil _,O,hM,λ_ _=>rfl,λt h=>O⟩
theorem qB3{l:Nat}(h:vs.length=n):o7 (n+l) vs=vs++List.replicate l 0:=by grind [o7]
def qqk{I:Im}(hI:I.OK)(hB:I.BD)(hT:PT I n){i:Nat}{f:iM}{a:Nat}{B:Nat}{av:Int}(hf:I.p.funcs[i]?=some f)(xO:vs.length=f.params.length)(hv:∀ k v,vs[k]?=some v->iQ v/\c[B+k]?=some v)(h1:I.af[a]?=some 28)(h2:I.af[a+1]?=some (I.lab (fT (i:Int))))(ha:a+2<=I.G)(hM:MR I c m)(hH:I.H<=B)(hr:B+6+120 * (100 - m.calls)<=65530)
    (R0:ml s0 j0 (ms c av b ((B+f.params.length:Nat):Int) (m.calls:Int) (a:Int) m.inp m.out)) (hj:j0<=9):MN I s0 c B (B+f.params.length) (a+2) { m with left:=m.left+1 } ((iS I.p I.OP (n+1)).c i vs m):=by
  have hfm:f∈I.p.funcs:=ax hf;obtain ⟨hq,kO⟩:=hI.fn f hfm;obtain ⟨b1,b2,b3,b4⟩:=hB f hfm;have hfd:I.p.funcs.getD i pG=f:=by rw [aG,hf];rfl
  have hszF:jm f=f.params.length+1+f.locals.length:=rfl;have l12:=hq.l12;have p6:=hq.p6;have iK:=hM.len;have yk:=hM.calls;show MN I _ c B _ _ _ (cX I.p (iS I.p I.OP n) i vs m);rw [cX,hfd];have s1:=qH6 (a:=av) (b:=b) (i:=m.inp) (o:=m.out) (q:=B+f.params.length) (hM.cell h1 O) (hM.cell h2 O) O iK yk;by_cases h100:m.calls=100
  . rw [au h100]
    rw [ak O] at s1;exact ⟨_,_,R0.trans (.one rfl s1),rfl,rfl,λ_=>rfl,by show j0+1+40 * m.left<=40 * (m.left+1);omega,by show m.left+1<=_;omega,λh=>absurd h Dc⟩
  rw [ak h100];rw [au O] at s1;obtain ⟨a0,bb,k0,g1,g2,g3⟩:=hI.code i f hf;rw [g1] at s1;unfold cF at g2;obtain ⟨qe,g4,g5⟩:=g2.app;obtain ⟨qb,g6,g7⟩:=g4.app;obtain ⟨_,g8⟩:=Cd.lbl (L:=(if 0 < f.locals.length then [.num pX 0] else [])++List.replicate f.locals.length (.op qN)) g6;obtain ⟨r1,r2,r3,r4⟩:=Cd.num g5 Dc Dc;obtain ⟨r5,r6,r7,r8⟩:=Cd.num r3 Dc Dc;have g9:=g7.le;have mP:MR I (c.set (B+f.params.length) ((a+2:Nat):Int)) m:=hM.push hI O;obtain ⟨j,c2,a2,R,j1,ju,z1,z2⟩:=qIE (av:=av) (b:=1) (d:=((m.calls+1:Nat):Int)) (i:=m.inp) (o:=m.out) hI mP g8 O (show I.H<=B+f.params.length+1 by omega) O;have l0:MR I c2 { m with frm:=o7 (f.params.length+f.locals.length) vs,calls:=m.calls+1 }:=⟨ju.len,ju.code,ju.var,ju.ae,by show m.calls+1<=100;omega,ju.out⟩;have low:∀ k,k < B+f.params.length->c2[k]?=c[k]?:=λk hk=>(z1 k O).trans (bt O);have kS:c2[B+f.params.length]?=some ((a+2:Nat):Int):=(z1 _ O).trans (bJ O);have hF:FR f B c2 (o7 (f.params.length+f.locals.length) vs):=by
    rw [qB3 xO];refine ⟨by rw [ac,xO,cR],λk v hk=>?_⟩;by_cases hkp:k < f.params.length
    . rw [aV O] at hk
      have:=hv k v hk;exact ⟨this.1,by rw [wy,au hkp,low _ O];exact this.2⟩
    . rw [aY O,cU] at hk
      split at hk
      . cases hk
        have:=z2 (k - f.params.length) O;exact ⟨⟨Θ,Θ⟩,by rw [wy,ak hkp,show B+(k+1)=B+f.params.length+1+(k - f.params.length) by omega];exact this⟩
      . cases hk
  have h:=Gt hT hfm f.body 1 0 k0 qb qe [] { m with frm:=o7 (f.params.length+f.locals.length) vs,calls:=m.calls+1 } c2 B a2 1 ((a+2:Nat):Int) b1 b2 b3 b4 (λh=>O) g7 O l0 hF kS hH (by show B+jm f+102+120 * (100 - (m.calls+1))<=65530;omega) (by show 1<=m.calls+1;omega);rw [show B+f.params.length+1+f.locals.length=B+jm f by omega] at R;have R2:=R0.trans ((ml.one rfl s1).trans R);have hS:SK I c c2 B:=λk _ hk=>low k O;generalize mh ((iS I.p I.OP n).t f) f.body { m with frm:=o7 (f.params.length+f.locals.length) vs,calls:=m.calls+1 }=r at h;cases r with
  | out=>trivial
  | fin m' st cd=>exact vg.pre h R2 (by show _+40 * m.left<=40 * (m.left+1);omega) (by show m.left+1+17<=m.left+_+0;omega)
  | ok y m2=>
    obtain ⟨k,c3,a3,b3,C3,e3,p3,R3,hM4,oM,hF3,hret3,sK,k1,k2,hw⟩:=h;have k1:k+40 * m2.left<=40 * m.left:=k1;have k2:m.left<=m2.left+40 * k:=k2;have hM5:MR I c3 { m2 with frm:=m.frm,calls:=m.calls }:=⟨hM4.len,hM4.code,hM4.var,hM4.ae,yk,hM4.out⟩;have hSS:SK I c c3 B:=hS.trans oM (ay _);rcases hw with ⟨w1,w2,w3,w4⟩|⟨_,w,_⟩|⟨_,w,_⟩|⟨w1,w2,w3,w4,w5,w6⟩
    . subst w2 w3 w4
      have s2:=Lf (a:=a3) (b:=b3) (C:=((B+jm f:Nat):Int)) (d:=((m.calls+1:Nat):Int)) (i:=m2.inp) (o:=m2.out) (hM4.cell r1 O) (hM4.cell r2 O);have s3:=YM (a:=0) (b:=b3) (C:=((B+jm f:Nat):Int)) (i:=m2.inp) (o:=m2.out) (q:=B+f.params.length) (hM4.cell r5 O) (hM4.cell r6 O) (by unfold mc;omega) hret3 (e:=m.calls) yk;refine ⟨_,c3,b3,by rw [ak O];exact (R2.trans R3).trans ((ml.one Z s2).trans (.one Z s3)),hM5,hSS,Z,Z,by rw [ak O];exact ⟨Θ,Θ⟩,by show _+3+40 * m2.left<=40 * (m.left+1);omega,by show m.left+1<=m2.left+_;omega⟩
    . exact absurd w Dc
    . exact absurd w Dc
    . subst w2 w4 w5 w6
      refine ⟨_,c3,b3,by rw [au w1];exact R2.trans R3,hM5,hSS,Z,Z,by rw [au w1];exact w3,by show _+3+40 * m2.left<=40 * (m.left+1);omega,by show m.left+1<=m2.left+_;omega⟩
def qAH(hI:I.OK)(hB:I.BD)(hT:PT I n):PC I (n+1):=λ_ _ _ _ _ _ _ _ _ hf xO hv h1 h2 ha hM hH hr=>qqk hI hB hT hf xO hv h1 h2 ha hM hH hr (.nil _) (aB _)
def sim{I:Im}(hI:I.OK)(hB:I.BD)(hO:Cy I.OP):∀ n,PE I n/\PC I n/\PT I n/\PW I n
 | 0=>⟨by unfold PE;intros;exact trivial,by unfold PC;intros;exact trivial,by unfold PT;intros;exact trivial,by unfold PW;intros;exact trivial⟩
 | n+1=>
  have ⟨e,c,t,w⟩:=sim hI hB hO n
  ⟨qAI hI hO e c,qAH hI hB t,qAJ hI hO e c t w,qAK e t w⟩
mutual
def qEN:∀ (x:iP) (lv c:Nat),(rq x lv c).2=0->dS x<=16
 | .mk k nm es b e,lv,c,h=>by
  simp only [rq] at h;split at h
  . cases h
  split at h
  . rename_i h2;exact absurd h h2
  split at h
  . rename_i h2;exact absurd h h2
  rename_i h3;split at h
  . rename_i h2;exact absurd h h2
  rename_i h4;have h5:=TX es 1 (c+1) (by simpa using h3);have h6:=Ov b _ _ (by simpa using h4);have h7:=Ov e _ _ h;rw [dS];omega
def Ov:∀ (l:List iP) (lv c:Nat),(mC l lv c).2=0->wz l<=16
 | [],_,_,_=>by rw [wz];omega
 | x::r,lv,c,h=>by
  simp only [mC] at h;split at h
  . rename_i h1;exact absurd h h1
  rename_i h1;have h2:=qEN x lv c Q5;have h3:=Ov r lv _ h;rw [wz];omega
end
def qrD:∀ {l:List iM} {i c:Nat},(tt l i c).1=0->∀ x∈l,wz x.body<=16
  | [],_,_,_=>λx hx=>(by cases hx)
  | x::r,i,c,h=>by
    rw [tt] at h;split at h
    . rename_i h1;exact absurd h h1
    rename_i h1;intro y hy;rcases aR.1 hy with rfl|hy
    . have h2:(oH y c).2=0:=by simpa using h1
      unfold oH at h2;split at h2
      . cases h2
      split at h2
      . cases h2
      split at h2
      . cases h2
      exact Ov _ _ _ h2
    . exact qrD h y hy
def qos:∀ {l:List iM} {seen:List iH} {i:Nat},(qF l seen i).1=0->∀ x∈l,(x.params++x.locals).Nodup
 | [],_,_,_=>λx hx=>(by cases hx)
 | x::r,seen,i,h=>by
  rw [qF] at h;split at h
  . cases h
  rename_i h1;intro y hy;rcases aR.1 hy with rfl|hy
  . exact eG.1 λh2=>h1 (.inr h2)
  . exact qos h y hy
def qCz(h:pB p=(0,0)):(∀ x∈p.funcs,(x.params++x.locals).Nodup)/\∃ (mi:Nat) (x:iM),nM p.funcs=(mi:Int)/\p.funcs[mi]?=some x/\x.params=[]/\fi p mu=(mi:Int):=by
  have e:=KJ (nm:=mu) iM.name 4 (λi=>(i:Int)) p.funcs;rw [pB] at h;split at h
  . rename_i h3;rw [h] at h3;exact absurd rfl h3
  split at h
  . rename_i h3;rw [h] at h3;exact absurd rfl h3
  rename_i h4;split at h
  . cases h
  rename_i h5;refine ⟨qos (by simpa using h4),?_⟩;obtain ⟨mi,hmi⟩:=aZ (show 0<=nM p.funcs by omega);obtain ⟨_,x,hx,_⟩:=Pb (q:=λx:iM=>decide (x.name=mu)) (l:=p.funcs) (k:=0) (show 0<=nM p.funcs by omega);have hx:p.funcs[(nM p.funcs).toNat - 0]?=some x:=hx;rw [eO] at hx;rw [hx] at h;simp only at h;split at h
  . rename_i h6
    rw [hmi,aD] at hx;refine ⟨mi,x,hmi,hx,h6,?_⟩;have e2:mA (fE p) mu=if 0<=nM p.funcs then some ((nM p.funcs).toNat:Int) else none:=e
    rw [fi,e2,au O,hmi,aD];rfl
  . cases h
section
variable{lab:iH->Int}
def Cd.flat:∀ {L:List Li} {p q:Nat},Cd c lab p L q->∀ k v,(L.flatMap (pL lab))[k]?=some v->c[p+k]?=some v
  | [],p,q,_,k,v,h=>by simp at h
  | y::r,p,q,h,k,v,hk=>by
    rw [di] at hk;by_cases h1:k < (pL lab y).length
    . rw [aV h1] at hk
      exact h.1 k v hk
    . rw [aY O,Fi] at hk
      rw [Fi] at h1;have:=h.2.2.flat _ _ hk
      rwa [show p+rk y+(k - rk y)=p+k by omega] at this
def YQ{p:jc}:∀ (l:List iM) (i k q e:Nat),Cd c lab q (rJ p l i k).1 e->∀ (j:Nat) (x:iM),l[j]?=some x->∃ a b k':Nat,lab (fT ((i+j:Nat):Int))=(a:Int)/\Cd c lab a (cF p x (i+j) k').1 b/\b<=e
 | [],i,k,q,e,_,j,x,h=>by simp at h
 | y::r,i,k,q,e,je,j,x,h=>by
  unfold rJ at je;obtain ⟨m,h1,h2⟩:=je.app;cases j with
  | zero=>
   simp only [dj,cZ] at h;subst h;refine ⟨q,m,k,?_,h1,h2.le⟩;unfold cF at h1;obtain ⟨_,h3,_⟩:=h1.app;obtain ⟨_,h4,_⟩:=h3.app;exact (Cd.lbl (L:=(if 0 < y.locals.length then [.num pX 0] else [])++List.replicate y.locals.length (.op qN)) h4).1
  | succ j=>
   rw [bH] at h;have:=YQ r (i+1) _ m e h2 j x h
   rwa [show i+1+j=i+(j+1) by omega] at this
def x_:∀ l:iG,(l.map (Li.num qg ·)).flatMap (pL lab)=l
 | []=>rfl
 | x::r=>by rw [aN,di,x_ r];rfl
def qtt(hg:qk g=0):(g.init.length:Int)<=max g.num 1/\(g.kind=3->1<=g.num/\(g.init.length:Int)<=g.num):=by
 obtain ⟨c1,c2,c3,c4,c5,c6⟩:=BB hg;have c7:g.kind=3->1<=g.num/\(g.init.length:Int)<=g.num:=λh=>by
  unfold qk at hg;exact Xp
 refine ⟨?_,c7⟩;by_cases h:g.kind=3
 . have:=c7 h;omega
 . rw [c4 h];simp only [aq];omega
def YT(hg:qk g=0)(hk:g.kind≠1)(h:Cd c lab q (cG g i) e):lab (gT (i:Int))=(q:Int)/\q+rb g=e/\∀ k v,(o7 (rb g) g.init)[k]?=some v->c[q+k]?=some v:=by
 obtain ⟨hl,_⟩:=qtt hg;unfold cG at h;rw [ak hk] at h;obtain ⟨h1,h2⟩:=Cd.lbl (L:=g.init.map (Li.num qg ·)++[Li.num sY (max g.num 1 - (g.init.length:Int))]) h;have e1:(g.init.map (Li.num qg ·)++[Li.num sY (max g.num 1 - (g.init.length:Int))]).flatMap (pL lab)=o7 (rb g) g.init:=by
  rw [List.flatMap_append,x_,o7,aK (by unfold rb;omega)];congr 1;rw [show [Li.num sY (max g.num 1 - (g.init.length:Int))].flatMap (pL lab)=List.replicate (max g.num 1 - (g.init.length:Int)).toNat 0 by simp [pL,show ¬ sY=qg by decide]];congr 1;unfold rb;omega
 refine ⟨h1,?_,λk v hk=>h2.flat k v (by rw [e1];exact hk)⟩;have e2:=h2.end_;have e3:cW (g.init.map (Li.num qg ·)++[Li.num sY (max g.num 1 - (g.init.length:Int))])=(o7 (rb g) g.init).length:=by
  rw [<- e1,List.length_flatMap,cW];exact bl List.sum (List.map_congr_left λy _=>(Fi _ y).symm)
 rw [e2,e3,o7,ac,cY,cR];unfold rb;omega
def qzA:∀ (l:List jv) (i q e:Nat),(∀ g∈l,qk g=0)->Cd c lab q (uN l i) e->q<=e/\(∀ (j:Nat) (g:jv),l[j]?=some g->g.kind≠1->∃ a:Nat,lab (gT ((i+j:Nat):Int))=(a:Int)/\q<=a/\a+rb g<=e/\∀ k v,(o7 (rb g) g.init)[k]?=some v->c[a+k]?=some v) /\
    ∀ (j j':Nat) (g g':jv),l[j]?=some g->l[j']?=some g'->j < j'->g.kind≠1->g'.kind≠1->(lab (gT ((i+j:Nat):Int))).toNat+rb g<=(lab (gT ((i+j':Nat):Int))).toNat
  | [],i,q,e,_,h=>⟨h.le,λj g h=>by simp at h,λj j' g g' h=>by simp at h⟩
  | y::r,i,q,e,hg,h=>by
    unfold uN at h;obtain ⟨m,h1,h2⟩:=h.app;obtain ⟨b0,b1,b2⟩:=qzA r (i+1) m e (λg h=>hg g (an _ h)) h2;have hy:=hg y Mc;have h1e:=h1.le;have sh:∀ j,i+1+j=i+(j+1):=λj=>O
    refine ⟨O,λj g hj hk=>?_,λj j' g g' hj hj' kZ hk sN=>?_⟩
    . cases j with
      | zero=>
        simp only [dj,cZ] at hj;subst hj;obtain ⟨c1,c2,c3⟩:=YT hy hk h1;exact ⟨q,c1,ay _,O,c3⟩
      | succ j=>
        rw [bH] at hj;obtain ⟨a,c1,c2,c3,c4⟩:=b1 j g hj hk;rw [sh] at c1;exact ⟨a,c1,O,c3,c4⟩
    . cases j' with
      | zero=>omega
      | succ j'=>
        rw [bH] at hj';cases j with
        | zero=>
          simp only [dj,cZ] at hj;subst hj;obtain ⟨c1,c2,_⟩:=YT hy hk h1;obtain ⟨a,d1,d2,_⟩:=b1 j' g' hj' sN;rw [sh] at d1;rw [show i+0=i from rfl,c1,d1,aD,aD];omega
        | succ j=>
          rw [bH] at hj;have:=b2 j j' g g' hj hj' O hk sN
          rwa [sh,sh] at this
end
def BX(p:jc)(OP:Int->Int->Int->Option Int)(w:iG)(lab:iH->Int):Im:=⟨p,OP,w++List.replicate (65536 - w.length) 0,lab,7+cW (rJ p p.funcs 0 0).1,cW (cP p),λi=>(lab (gT (i:Int))).toNat⟩
section
variable{OP:Int->Int->Int->Option Int}{lab:iH->Int}(hu:qd p)(hc:(kG p).1=0)(hn:sy p<=49152)(hw:w.length=cW (cP p))(je:Cd (w++List.replicate (65536 - w.length) 0) lab 0 (cP p) (cW (cP p)))
include hu hc hn hw je
theorem qK7:(BX p OP w lab).OK/\(BX p OP w lab).BD/\(∀ inp a,MR (BX p OP w lab) (BX p OP w lab).af (qD p inp a))/\(lab wo=(cW (cP p):Int))/\∃ (mi:Nat) (x:iM),nM p.funcs=(mi:Int)/\p.funcs[mi]?=some x/\x.params=[]/\Cd (BX p OP w lab).af lab 0 [.ref Fp wo,.ref AJ (fT (mi:Int)),.num pX 0,.op BI] 7:=by
  obtain ⟨_,_,_,hW,_⟩:=Up hu hc hn;obtain ⟨hO,hz⟩:=qP.of hu hc;obtain ⟨⟨v1,v2,v3,v4,_⟩,n0,kO⟩:=hO;have yr:(pN p).1=0:=by
    unfold kG at hc;split at hc
    . rename_i h;exact absurd hc h
    . rename_i h;exact FY Q2
  have hdp:∀ x∈p.funcs,wz x.body<=16:=by
    unfold pN at yr;split at yr
    . cases yr
    split at yr
    . rename_i h2;exact absurd yr h2
    split at yr
    . cases yr
    exact qrD yr
  have hf0:=TG n0;obtain ⟨hnn,mi,xm,m1,m2,m3,m4⟩:=qCz n0;have hG:∀ g∈p.o,qk g=0:=λg hg=>(v3 g hg).1;have hcd':=je;unfold cP at hcd';obtain ⟨e3,d1,d2⟩:=hcd'.app;obtain ⟨e2,d3,d4⟩:=d1.app;obtain ⟨e1,d5,d6⟩:=d3.app;obtain ⟨l1,l2⟩:=Cd.lbl d2;cases (show e3=_ from l2);have h7:e1=7:=by
    rw [d5.end_];simp [cW,rk,show ¬ pX=qg by decide,show ¬ pX=sY by decide]
  subst h7;have h2e:=d6.end_;obtain ⟨g0,g1,g2⟩:=qzA p.o 0 e2 _ hG d4;subst h2e;have zero:∀ i:Nat,0+i=i:=λi=>aX i;have hglo:∀ (i:Nat) (g:jv),p.o[i]?=some g->g.kind≠1->∃ a:Nat,lab (gT (i:Int))=(a:Int)/\(lab (gT (i:Int))).toNat=a/\7+cW (rJ p p.funcs 0 0).1<=a/\a+rb g<=cW (cP p)/\∀ k v,(o7 (rb g) g.init)[k]?=some v->(w++List.replicate (65536 - w.length) 0)[a+k]?=some v:=λi g h1 h2=>by
    obtain ⟨a,a1,a2,a3,a4⟩:=g1 i g h1 h2;rw [zero] at a1;exact ⟨a,a1,by rw [a1,aD],a2,a3,a4⟩
  refine ⟨⟨λi x hx=>?_,λi g h1 h2=>?_,λi j g h h1 h2 h3 h4 h5=>?_,hW,g0,λi g hg=>?_,λx hx=>⟨⟨hf0,v2,v1,λg hg=>(hu.1 g hg).1,(v4 x hx).2.1,(v4 x hx).2.2.1⟩,hnn x hx⟩⟩,λx hx=>⟨(v4 x hx).2.2.2.2.1,hu.2 x hx,hdp x hx,kO x hx⟩,λinp a=>⟨?_,λ_ _=>rfl,λi g h1 h2=>?_,λi g h1 h2=>?_,aB _,aB _⟩,l1,mi,xm,m1,m2,m3,by rw [<- m4];exact d5⟩
  . have:=YQ p.funcs 0 0 _ _ d6 i x hx
    rwa [zero] at this
  . obtain ⟨a,a1,a2,a3,a4,_⟩:=hglo i g h1 h2
    show lab _=(((lab _).toNat:Nat):Int)/\_<=(lab _).toNat/\(lab _).toNat+_<=_;rw [a2];exact ⟨a1,a3,a4⟩
  . have:=g2 i j g h h1 h2 h3 h4 h5
    rwa [zero,zero] at this
  . have hm:=ax hg
    have:=BB (hG g hm);exact ⟨this.1,this.2.1,(hu.1 g hm).1⟩
  . show (w++List.replicate (65536 - w.length) 0).length=65536
    rw [ac,cR];omega
  . obtain ⟨a,a1,a2,a3,a4,a5⟩:=hglo i g h1 O
    have hm:=ax h1;have hi:=(al.1 h1).1;have hz:=BB (hG g hm);refine ⟨0,by show (List.replicate p.o.length (0:Int))[i]?=_;rw [cU,au (show i < p.o.length from hi)],⟨Θ,Θ⟩,?_⟩;show (w++_)[(lab (gT (i:Int))).toNat]?=_;rw [a2];refine a5 0 0 ?_;rw [hz.2.2.2.1 O,o7,rb,hz.2.2.2.2.1 h2];rfl
  . obtain ⟨a,a1,a2,a3,a4,a5⟩:=hglo i g h1 O
    have hm:=ax h1;obtain ⟨s1,s2⟩:=qtt (hG g hm);have hs:g.num.toNat=rb g:=by unfold rb;omega
    refine ⟨o7 g.num.toNat g.init,by show (p.o.map _)[i]?=_;rw [bQ,show p.o[i]?=some g from h1];simp [h2],?_,λj v hj=>?_⟩
    . rw [o7,ac,cY,cR];omega
    . refine ⟨?_,?_⟩
      . rcases aS.1 (ax hj) with h|h
        . exact (hu.1 g hm).2 v (eb h)
        . rw [List.eq_of_mem_replicate h];exact ⟨Θ,Θ⟩
      . show (w++_)[(lab (gT (i:Int))).toNat+j]?=_
        rw [a2];exact a5 j v (by rw [<- hs];exact hj)
end
def Qu(w:iG)(inp:iH)(a:Nat)(o:iH×Int×Int×Nat):Prop:=∃ K s',ml (uW iW w inp) K s'/\s'.output=o.1/\s'.stop=o.2.1/\(s'.stop≠0->s'.code=o.2.2.1)/\K<=40 * a+40/\(s'.stop=0->a+1<=40 * K)
def qC9{OP:Int->Int->Int->Option Int}(hO:Cy OP)(hu:qd p)(hc:(kG p).1=0)(hn:sy p<=49152):∃ w l,ta iW (cT (cP p))=.inr (w,l)/\w.length<=49152/\∀ (n:Nat) (inp:iH) (a:Nat),yH p OP (n+1) (nM p.funcs).toNat inp a=.out\/Qu w inp a (xZ a (yH p OP (n+1) (nM p.funcs).toNat inp a)):=by
 obtain ⟨h1,h2,h3,h4,h5⟩:=Up hu hc hn;obtain ⟨w,l,lab,e1,e2,e3⟩:=qHa h1 h2 h3 O h5;refine ⟨w,l,e1,O,λn inp a=>?_⟩;obtain ⟨hI,hB,hM,hE,mi,x,m1,m2,m3,d⟩:=qK7 (OP:=OP) hu hc hn e2 (e3 _);obtain ⟨a1,a2,a3,_⟩:=Cd.ref d;obtain ⟨b1,b2,b3,_⟩:=Cd.ref a3;obtain ⟨c1,c2,c3,_⟩:=Cd.num b3 Dc Dc;obtain ⟨f1,_,_⟩:=Cd.op c3;have hT:=(sim hI hB hO n).2.2.1;have hM:=hM inp a;rw [hE] at a2;have s1:=qCk (c:=(BX p OP w lab).af) (a:=0) (b:=0) (C:=0) (d:=0) (p:=0) (i:=inp) (o:=[]) a1 a2;have R0:ml (uW iW w inp) 1 (ms (BX p OP w lab).af 0 0 ((cW (cP p)+x.params.length:Nat):Int) ((qD p inp a).calls:Int) ((2:Nat):Int) (qD p inp a).inp (qD p inp a).out):=by
  rw [m3];exact .one rfl s1
 have hG:7<=(BX p OP w lab).G:=by show 7<=7+_;omega
 have h:=qqk (I:=BX p OP w lab) (n:=n) (vs:=[]) (a:=2) (B:=cW (cP p)) hI hB hT m2 (by rw [m3];rfl) (λk v h=>by simp at h) b1 b2 O hM (ay _) (by show cW (cP p)+6+120 * (100 - 0)<=65530;omega) R0 O;rw [m1,aD];have h:MN (BX p OP w lab) _ _ _ _ _ _ (yH p OP (n+1) mi inp a):=h;generalize yH p OP (n+1) mi inp a=r at h;cases r with
 | out=>exact .inl rfl
 | fin m' st cd=>
  obtain ⟨k,s',r1,r2,r3,r4,r5,r6,r7⟩:=h;have r5:k+40 * m'.left<=40 * (a+1):=r5;have r6:a+1<=m'.left+40 * k+0:=r6;exact .inr ⟨k,s',r1,r2,r3,λh=>r4 (by rw [<- r3];exact h),O,λh=>by have:=r7 (by rw [<- r3];exact h);omega⟩
 | ok v m'=>
  obtain ⟨k,c',b',R,qv,hS,_,_,_,k1,k2⟩:=h;have k1:k+3+40 * m'.left<=40 * (a+1):=k1;have s2:=Lf (a:=v) (b:=b') (C:=((cW (cP p)+x.params.length:Nat):Int)) (d:=(m'.calls:Int)) (p:=4) (i:=m'.inp) (o:=m'.out) (qv.cell c1 O) (qv.cell c2 O);have s3:=qzD (a:=0) (b:=b') (C:=((cW (cP p)+x.params.length:Nat):Int)) (d:=(m'.calls:Int)) (p:=6) (i:=m'.inp) (o:=m'.out) (qv.cell f1 O);exact .inr ⟨_,_,R.trans ((ml.one rfl s2).trans (.one rfl s3)),rfl,rfl,λ_=>rfl,O,λh=>absurd (show (1:Int)=0 from h) Dc⟩
def qCV(m:lH)(x:Ac)(op:Int):∃ w,(kn m x op).output=m.output++w:=by
 have h0:∃ w,m.output=m.output++w:=⟨[],Ξ⟩;unfold kn;dsimp only;repeat' split
 all_goals first
  | exact ⟨_,rfl⟩
  | exact h0
def qoz:∀ (l:List Ac) (m:lH) (op:Int),∃ w,(mW m op l).output=m.output++w
  | [],m,_=>⟨[],by simp [mW]⟩
  | x::r,m,op=>by
    obtain ⟨w,h⟩:=qCV m x op;rw [mW];split
    . obtain ⟨w2,h2⟩:=qoz r (kn m x op) op
      exact ⟨w++w2,by rw [h2,h,am]⟩
    . exact ⟨w,h⟩
def qv0(t:oK)(m:lH):∃ w,(l9 t m).output=m.output++w:=by
 have h0:∃ w,m.output=m.output++w:=⟨[],Ξ⟩;unfold l9;repeat' split
 all_goals first
  | exact h0
  | exact qoz _ _ _
def qsH(t:oK):∀ (n:Nat) (m:lH),∃ w,(pd t m n).1.output=m.output++w
  | 0,m=>⟨[],by simp [pd]⟩
  | n+1,m=>by
    rw [pd];split
    . obtain ⟨w,h⟩:=qv0 t m
      obtain ⟨w2,h2⟩:=qsH t n (l9 t m);exact ⟨w++w2,by simp only [h2,h,am]⟩
    . exact ⟨[],Ξ⟩
def qwn(t:oK){m:lH}(h:m.stop≠0):∀ n,pd t m n=(m,0)
 | 0=>rfl
 | n+1=>by rw [pd,ak h]
def qvL{a:Nat}{o:iH×Int×Int×Nat}(h:Qu w inp a o):(∃ v,(DV iW w inp ((40 * a+40:Nat):Int)).1=o.1++v)/\(o.2.1≠0->(DV iW w inp ((40 * a+40:Nat):Int)).1=o.1/\(DV iW w inp ((40 * a+40:Nat):Int)).2.1=o.2.1/\(DV iW w inp ((40 * a+40:Nat):Int)).2.2.1=o.2.2.1):=by
  obtain ⟨K,s',R,r1,r2,r3,r4,_⟩:=h;have h1:=R.run (40 * a+40 - K);rw [show K+(40 * a+40 - K)=40 * a+40 by omega] at h1;simp only [DV,aD,h1];refine ⟨?_,λh=>?_⟩
  . obtain ⟨v,h2⟩:=qsH iW (40 * a+40 - K) s'
    exact ⟨v,by rw [h2,r1]⟩
  . rw [<- r2] at h
    rw [qwn iW h];exact ⟨r1,r2,r3 h⟩
def qCP:Cy iV where
 una o a h1 h3 ha:=by
  have h:o=1\/o=2\/o=3:=O
  have h5:mc (4294967295 - a)=4294967295 - a:=by unfold mc;have:=ha.1;have:=ha.2;omega
  rcases h with rfl|rfl|rfl<;>simp [iV,pm,qc,zI,h5]
 bin o x y h4 yh hx hy:=by
  have hc:o=4\/o=5\/o=6\/o=7\/o=8\/o=9\/o=10\/o=11\/o=12\/o=13\/o=14\/o=15\/o=16\/o=17\/o=18\/o=19:=O
  rcases hc with rfl|rfl|rfl|rfl|rfl|rfl|rfl|rfl|rfl|rfl|rfl|rfl|rfl|rfl|rfl|rfl;all_goals first
   | rfl
   | (by_cases h0:y=0<;>simp [iV,pm,qc,EN,jR,h0];done)
   | (simp [iV,pm,qc,zI,EN,jR];done)
   | (by_cases h1:y < x<;>simp [iV,pm,qc,zI,EN,jR,h1]<;>omega)
   | (by_cases h1:x < y<;>simp [iV,pm,qc,zI,EN,jR,h1]<;>omega)
 and_ x y:=by
  by_cases h:x=0<;>by_cases h':y=0<;>simp [iV,pm,qc,zI,h,h']
 or_ x y:=by
  by_cases h:x=0<;>by_cases h':y=0<;>simp [iV,pm,qc,zI,h,h']
section
def qrr:jY (li p)=jY p:=by
 show (p.o.mapIdx _)++((p.funcs.map (ot p)).mapIdx _)=_;rw [jY];congr 1;refine eN Ξ λi h1 h2=>?_;simp [ot]
def qyz{u:Int}{l:List Ex}(h:l'.length=l.length):oS (.mk k o u nm l')=oS (.mk k o u nm l):=by
 show (if k=2 then (nm,2,0) else if k=3 then (nm,3,0) else if k=4 then (nm,4,(l'.length:Int)) else ([],0,0))=(if k=2 then (nm,2,0) else if k=3 then (nm,3,0) else if k=4 then (nm,4,(l.length:Int)) else ([],0,0));rw [h]
def qyA{l:List Ex}{b e b' e':List iP}(h:l'.length=l.length):o6 (.mk k nm l' b' e')=o6 (.mk k nm l b e):=by
 show (if k=1 then (nm,1,0) else if k=2 then (nm,3,0) else if k=5 then (nm,4,(l'.length:Int)) else ([],0,0))=(if k=1 then (nm,1,0) else if k=2 then (nm,3,0) else if k=5 then (nm,4,(l.length:Int)) else ([],0,0));rw [h]
def qsd(x:iM)(nm:iH):j7 (li p) (ot p x) nm=j7 p x nm:=by
 unfold j7;rw [qrr];rfl
def qsJ(i:Int):EX (li p) i=EX p i:=by
 unfold EX;show (match (p.funcs.map (ot p))[i.toNat]? with|some x=>x.params.length|none=>0)=_;rw [bQ];cases p.funcs[i.toNat]?<;>rfl
def qmq(x:iM)(u:Dm):pf (li p) (ot p x) u=pf p x u:=by
 unfold pf;rw [qsd,qsJ];rfl
mutual
def qvT(f:iM):∀ (x:Ex) (lp:Nat),(∀ nd∈oA x lp,jJ p f nd=0)->∀ nd∈oA (qS p f x) lp,jJ (li p) (ot p f) nd=0
  | .mk k o u nm ar,lp,h,nd,hn=>by
    cases hq:nH p f ((Ex.mk k o u nm ar).withA (mH p f ar)) with
    | some v=>
      rw [Kq (x:=.mk k o u nm ar) hq] at hn;simp only [oA,oY,aU] at hn;subst hn;rfl
    | none=>
      rw [Ge (x:=.mk k o u nm ar) hq] at hn;simp only [Ex.withA,Ex.kind,Ex.op,Ex.num,Ex.name,Ex.args,oA,aR] at hn;rcases hn with rfl|hn
      . have h1:=h (.ex (.mk k o u nm ar) lp) Q29
        simp only [jJ] at h1 ⊢;rw [qmq];rw [qyz (Fb ..)];exact h1
      . exact Tu f ar lp (λnd hn=>h nd (by rw [oA];exact an _ hn)) nd hn
def Tu(f:iM):∀ (l:List Ex) (lp:Nat),(∀ nd∈oY l lp,jJ p f nd=0)->∀ nd∈oY (mH p f l) lp,jJ (li p) (ot p f) nd=0
 | [],_,_,nd,hn=>by simp only [mH,oY] at hn;cases hn
 | x::r,lp,h,nd,hn=>by
  simp only [mH,oY,aS] at hn;rcases hn with hn|hn
  . exact qvT f x lp (λnd hn=>h nd (by rw [oY];exact aI _ hn)) nd hn
  . exact Tu f r lp (λnd hn=>h nd (by rw [oY];exact aF _ hn)) nd hn
end
mutual
def qvS(f:iM):∀ (x:iP) (lp:Nat),(∀ nd∈tA x lp,jJ p f nd=0)->∀ nd∈tA (xA p f x) lp,jJ (li p) (ot p f) nd=0
  | .mk k nm es b e,lp,h,nd,hn=>by
    simp only [xA,tA,aR,aS] at hn;simp only [tA] at h;rcases hn with rfl|hn|hn|hn
    . have h1:=h _ Mc
      simp only [jJ] at h1 ⊢;rw [qmq];rw [qyA (b:=b) (e:=e) (Fb ..)];exact h1
    . exact Tu f es lp (λnd hn=>h nd (an _ (aI _ hn))) nd hn
    . exact N0 f b _ (λnd hn=>h nd (an _ (aF _ (aI _ hn)))) nd hn
    . exact N0 f e _ (λnd hn=>h nd (an _ (aF _ (aF _ hn)))) nd hn
def N0(f:iM):∀ (l:List iP) (lp:Nat),(∀ nd∈ly l lp,jJ p f nd=0)->∀ nd∈ly (rF p f l) lp,jJ (li p) (ot p f) nd=0
 | [],_,_,nd,hn=>by simp only [rF,ly] at hn;cases hn
 | x::r,lp,h,nd,hn=>by
  simp only [rF,ly,aS] at hn;rcases hn with hn|hn
  . exact qvS f x lp (λnd hn=>h nd (by rw [ly];exact aI _ hn)) nd hn
  . exact N0 f r lp (λnd hn=>h nd (by rw [ly];exact aF _ hn)) nd hn
end
def Y_:∀ (l:List iM) (seen:List iH) (i:Nat),qF (l.map (ot p)) seen i=qF l seen i
 | [],_,_=>rfl
 | x::r,seen,i=>by
  rw [aN,qF,qF,Y_ r];rfl
def TZ(q:iH->Bool):∀ (l:List iM) (k:Nat),j6 (λx:iM=>q x.name) (l.map (ot p)) k=j6 (λx:iM=>q x.name) l k
 | [],_=>rfl
 | x::r,k=>by rw [aN,j6,j6,TZ q r];rfl
def qpH:pB (li p)=pB p:=by
  unfold pB;have e:nM (li p).funcs=nM p.funcs:=TZ (p:=p) (λnm=>decide (nm=mu)) p.funcs 0;have e2:qF (li p).funcs ((li p).o.map jv.name) (li p).o.length=qF p.funcs (p.o.map jv.name) p.o.length:=Y_ ..;rw [e,e2];show (if (se p.o [] 0).1≠0 then se p.o [] 0 else _)=_;split
  . rfl
  split
  . rfl
  split
  . rfl
  . rw [show (li p).funcs[(nM p.funcs).toNat]?=(p.funcs[(nM p.funcs).toNat]?).map (ot p) from bQ ..]
    cases p.funcs[(nM p.funcs).toNat]?<;>rfl
def qrL(hu:qd p)(h0:(kG p).1=0)(h1:(pn (li p)).1=0):kG (li p)=(0,0):=by
 obtain ⟨⟨_,hn,kO⟩,_⟩:=qP.of hu h0;refine qrc (UB h1) (by rw [qpH,hn]) ?_;intro x hx nd hm;obtain ⟨y,hy,rfl⟩:=aW.1 (show x∈p.funcs.map (ot p) from hx);exact N0 y y.body 0 (kO y hy) nd hm
end
section
def qsm{l l':List jv}(h:l.Sublist l'):(∀ g∈l',iQ g.num)->uC l<=uC l':=by
 induction h with
 | slnil=>exact λ_=>gz _
 | cons g _ ih=>
  intro hv;have h1:=ih λx hx=>hv x (an _ hx);have h2:=(hv g Mc).1;rw [uC];unfold yg;split
  . omega
  split<;>omega
 | cons_cons g _ ih=>
  intro hv;have h1:=ih λx hx=>hv x (an _ hx);rw [uC,uC];omega
def qvj{l l':List iM}(h:l.Sublist l'):qE l<=qE l':=by
 induction h with
 | slnil=>exact ay _
 | cons g _ ih=>rw [qE];omega
 | cons_cons g _ ih=>rw [qE,qE];omega
def qsp{q:jc}(hu:qd p)(h:(kG p).1=0)(hT:CV p q):sy q<=sy p:=by
 obtain ⟨h1,_⟩|⟨_,F,G,_,rfl⟩:=hT
 . exact absurd h h1
 have h1:=qsm (BY G p.o) λg hg=>(hu.1 g hg).1;have h2:=qvj (BY F p.funcs);have h3:=(BY F p.funcs).length_le;show 100+uC (jy G p.o)+60 * ((jy F p.funcs).length:Int)+30 * (qE (jy F p.funcs):Int)<=_;rw [sy];omega
mutual
def qu5(f:iM):∀ x:Ex,mT (qS p f x)<=mT x
 | .mk k o n nm ar=>by
  have h:=TE f ar;cases hq:nH p f ((Ex.mk k o n nm ar).withA (mH p f ar)) with
  | some v=>rw [Kq (x:=.mk k o n nm ar) hq];simp only [mT,lh];omega
  | none=>rw [Ge (x:=.mk k o n nm ar) hq];simp only [Ex.withA,Ex.kind,Ex.op,Ex.num,Ex.name,Ex.args,mT];omega
def TE(f:iM):∀ l:List Ex,lh (mH p f l)<=lh l
 | []=>ay _
 | x::r=>by
  have h1:=qu5 f x;have h2:=TE f r;rw [mH,lh,lh];omega
end
mutual
def qwz(f:iM):∀ x:iP,qm (xA p f x)<=qm x
 | .mk k nm es b e=>by
  have h1:=TE (p:=p) f es;have h2:=NQ f b;have h3:=NQ f e;rw [xA,qm,qm];omega
def NQ(f:iM):∀ l:List iP,ke (rF p f l)<=ke l
 | []=>ay _
 | x::r=>by
  have h1:=qwz f x;have h2:=NQ f r;rw [rF,ke,ke];omega
end
def P_:∀ l:List iM,qE (l.map (ot p))<=qE l
 | []=>ay _
 | x::r=>by
  have h1:=NQ (p:=p) x x.body;have h2:=P_ r;rw [aN,qE,qE];show ke (rF p x x.body)+_<=_;omega
def qso:sy (li p)<=sy p:=by
 have h:=P_ (p:=p) p.funcs;show 100+uC p.o+60 * ((p.funcs.map (ot p)).length:Int)+30 * (qE (p.funcs.map (ot p)):Int)<=_;rw [sy,bB];omega
mutual
def qyJ(f:iM):∀ (x:Ex) (lv c c':Nat),c'<=c->(rr x lv c).2=0->(rr (qS p f x) lv c').2=0/\(rr (qS p f x) lv c').1<=(rr x lv c).1
 | .mk k o n nm ar,lv,c,c',hc,h=>by
  rw [rr] at h ⊢;split at h
  . cases h
  rename_i h1;split at h
  . rename_i h2;exact absurd h h2
  rename_i h2;rw [ak h1,ak h2];have a:=Tz f ar (lv+1) (c+1) (c'+1) O h;cases hq:nH p f ((Ex.mk k o n nm ar).withA (mH p f ar)) with
  | some v=>
   have e:ut 1 0 v [] 0=0:=by simp [ut,Pg,wa,yE]
   have b:=(DD ar (lv+1) (c+1) h).2.1;rw [Kq (x:=.mk k o n nm ar) hq,rr,ak O,ak (by rw [aq,e];simp),mD,b];exact ⟨rfl,by show c'+1<=_;omega⟩
  | none=>
   rw [Ge (x:=.mk k o n nm ar) hq];simp only [Ex.withA,Ex.kind,Ex.op,Ex.num,Ex.name,Ex.args];rw [rr,ak O,ak (by rw [Fb];exact h2)];exact a
def Tz(f:iM):∀ (l:List Ex) (lv c c':Nat),c'<=c->(mD l lv c).2=0->(mD (mH p f l) lv c').2=0/\(mD (mH p f l) lv c').1<=(mD l lv c).1
 | [],_,_,_,hc,_=>⟨rfl,hc⟩
 | x::r,lv,c,c',hc,h=>by
  rw [mD] at h ⊢;split at h
  . rename_i h1;exact absurd h h1
  rename_i h1;rw [ak h1];have a:=qyJ f x lv c c' hc Q5;rw [mH,mD,ak (by rw [a.1];simp)];exact Tz f r lv _ _ a.2 h
end
mutual
def qyI(f:iM):∀ (x:iP) (lv c c':Nat),c'<=c->(rq x lv c).2=0->(rq (xA p f x) lv c').2=0/\(rq (xA p f x) lv c').1<=(rq x lv c).1
 | .mk k nm es b e,lv,c,c',hc,h=>by
  rw [rq] at h ⊢;split at h
  . cases h
  rename_i h1;split at h
  . rename_i h2;exact absurd h h2
  rename_i h2;split at h
  . rename_i h3;exact absurd h h3
  rename_i h3;split at h
  . rename_i h4;exact absurd h h4
  rename_i h4;rw [ak h1,ak h2,ak h3,ak h4];have a:=Tz (p:=p) f es 1 (c+1) (c'+1) O (by simpa using h3);have a2:=NT f b (lv+1) _ _ a.2 (by simpa using h4);have a3:=NT f e (lv+1) _ _ a2.2 h;rw [xA,rq,ak O,ak (by rw [Fb,Dx,Dx,bB,bB];exact h2),ak (by rw [a.1];simp),ak (by rw [a2.1];simp)];exact a3
def NT(f:iM):∀ (l:List iP) (lv c c':Nat),c'<=c->(mC l lv c).2=0->(mC (rF p f l) lv c').2=0/\(mC (rF p f l) lv c').1<=(mC l lv c).1
 | [],_,_,_,hc,_=>⟨rfl,hc⟩
 | x::r,lv,c,c',hc,h=>by
  rw [mC] at h ⊢;split at h
  . rename_i h1;exact absurd h h1
  rename_i h1;rw [ak h1];have a:=qyI f x lv c c' hc Q5;rw [rF,mC,ak (by rw [a.1];simp)];exact NT f r lv _ _ a.2 h
end
def qvg{c c':Nat}(hc:c'<=c)(h:(oH x c).2=0):(oH (ot p x) c').2=0/\(oH (ot p x) c').1<=(oH x c).1:=by
 unfold oH at h ⊢;split at h
 . cases h
 rename_i h1;split at h
 . cases h
 rename_i h2;split at h
 . cases h
 rename_i h3;rw [ak h1,ak h2,ak h3];rw [ak (c:=py (ot p x).name=false) h1,ak (c:=6 < (ot p x).params.length\/12 < (ot p x).locals.length) h2,ak (c:=((ot p x).params++(ot p x).locals).any (λs=>!py s)=true) h3];exact NT x x.body 1 c c' hc h
def qn7:∀ {l:List iM} {i c c':Nat},c'<=c->(tt l i c).1=0->(tt (l.map (ot p)) i c').1=0
 | [],_,_,_,_,_=>rfl
 | x::r,i,c,c',hc,h=>by
  rw [tt] at h;split at h
  . rename_i h1;exact absurd h h1
  rename_i h1;have a:=qvg (p:=p) hc Q5;rw [aN,tt,ak (by rw [a.1];simp)];exact qn7 a.2 h
def qpv(h:(kG p).1=0)(hf:(pn (li p)).1≠0):pn (li p)=(14,-1):=by
 have hs:(pN p).1=0:=FY (by
  by_cases h9:(pn p).1=0
  . exact h9
  . rw [kG,au h9] at h;exact absurd h h9)
 have:(pN (li p)).1=0:=by
  unfold pN at hs ⊢;split at hs
  . cases hs
  rename_i h1;split at hs
  . rename_i h2;exact absurd hs h2
  rename_i h2;split at hs
  . cases hs
  rename_i h3;rw [ak (c:=64 < (li p).o.length\/64 < (li p).funcs.length) (by show ¬ (64 < p.o.length\/64 < (p.funcs.map (ot p)).length);rw [bB];exact h1),ak (c:=(vM (li p).o 0).1≠0) h2,ak (c:=1000 < ((li p).o.map λg=>g.init.length).sum) h3];exact qn7 (ay _) hs
 unfold pn at hf ⊢;rw [ak (by rw [this];simp)] at hf ⊢;split
 . rfl
 . rename_i h1;rw [ak h1] at hf;exact absurd rfl hf
end
attribute [local irreducible] JC JO JA JB ma mO mX AC fill iy QE Ev my
def KZ(h:(kG p).1=0)(ha:0<=a/\a<=50000000)(hi:inp.length<=2000):∃ x:Nat,a=(x:Int)/\pV p inp a=(yG p inp x,(0,0)):=by
 obtain ⟨x,rfl⟩:=aZ ha.1;exact ⟨x,rfl,O_ (λh1=>h1 h) O O⟩
def qIb(hU:qd p)(h:(qs p).1=0)(inp:iH){a:Nat}(ha:a<=50000000):Qu (vd p) inp a (yG p inp a)/\(vd p).length<=49152:=by
 obtain ⟨_,h2,h3,h4⟩:=DP hU h;obtain ⟨w,l,h5,h6,h7⟩:=qC9 qCP hU h3 h4;have hw:vd p=w:=by rw [vd,au h,h2,DX,h5]
 rw [hw];refine ⟨(h7 vi inp a).resolve_left λh=>?_,h6⟩;have h9:=(KV (p:=p) (OP:=iV) (vi+1)).2.1 (nM p.funcs).toNat [] (qD p inp a) (by rw [UW];show 2 * a+1 < _;omega);rw [show (iS p iV (vi+1)).c (nM p.funcs).toNat [] (qD p inp a)=.out from h] at h9;exact h9
def qB1{i:iH}(hl:l.length<=49152)(hi:i.length<=400000)(hk:0<=k/\k<=50000000):sx iW l i k=(DV iW l i k,0,0):=by
 have hs:(tB iW l i).1=0:=by
  unfold tB;rw [ak (by simpa using U4),ak (by show ¬ (65536:Int) < _;omega),ak O]
 unfold sx;rw [ak (by simpa using hs),ak O]
def Sh(hU:qd p)(hz:(qs p).1=0)(hi:inp.length<=2000)(ha:0<=a/\a<=200000):(pV p inp a).2.1=0/\(sx iW (vd p) inp (40 * a+40)).2.1=0/\(pV p inp a).1.1 <+: (sx iW (vd p) inp (40 * a+40)).1.1/\(¬ (pV p inp a).1.2.1=0->(pV p inp a).1.2.1=(sx iW (vd p) inp (40 * a+40)).1.2.1/\(pV p inp a).1.2.2.1=(sx iW (vd p) inp (40 * a+40)).1.2.2.1/\(pV p inp a).1.1=(sx iW (vd p) inp (40 * a+40)).1.1):=by
 obtain ⟨_,_,h3,_⟩:=DP hU hz;obtain ⟨x,rfl,hr⟩:=KZ (a:=a) (inp:=inp) h3 O hi;obtain ⟨h1,h2⟩:=qIb hU hz inp (a:=x) O;obtain ⟨⟨v,m1⟩,m2⟩:=qvL h1;rw [show (40 * (x:Int)+40)=((40 * x+40:Nat):Int) by omega,qB1 h2 O O,hr];exact ⟨rfl,rfl,⟨v,m1.symm⟩,λh=>have ⟨a,b,c⟩:=m2 h;⟨b.symm,c.symm,a.symm⟩⟩
def qz1(h1:(kG p).1=0)(h2:sy p<=49152):qs p=(0,0):=by rw [qs,au h1,ak O]
def Vi(p q:jc)(inp:iH)(a:Int):Prop:=(sx iW (vd q) inp (40 * a+40)).2.1=0/\(sx iW (vd q) inp (40 * a+40)).1.2.1=(pV p inp a).1.2.1/\(sx iW (vd q) inp (40 * a+40)).1.2.2.1=(pV p inp a).1.2.2.1/\(sx iW (vd q) inp (40 * a+40)).1.1=(pV p inp a).1.1
def qIg{q:jc}(hU:qd p)(hUq:qd q)(hz:(qs p).1=0)(hT:CV p q)(hi:inp.length<=2000)(ha:0<=a/\a<=100000)(hs:¬ (pV p inp a).1.2.1=0):(qs q).1=0/\Vi p q inp a:=by
 obtain ⟨_,_,h3,h4⟩:=DP hU hz;have hq:=qp4 hU h3 hT;have zq:=qz1 (p:=q) (by rw [hq.1]) (by have:=qsp hU h3 hT;omega);obtain ⟨x,rfl,h1⟩:=KZ h3 (inp:=inp) (a:=a) O hi;obtain ⟨y,h5,h2⟩:=KZ (p:=q) (by rw [hq.1]) (inp:=inp) (a:=(x:Int)) O hi;obtain rfl:x=y:=O
 obtain ⟨mp,mq,e1,e2,e3⟩:=qyw (OP:=iV) hU h3 hT (vi+1) inp x;have e:pV q inp x=pV p inp x:=by
  rw [h1,h2];show (yG q inp x,_)=(yG p inp x,_);rw [yG,yG,e1,e2,aD,aD,e3]
 obtain ⟨_,g2,_,g4⟩:=Sh (inp:=inp) (a:=(x:Int)) hUq (by rw [zq]) hi O;rw [e] at g4;obtain ⟨k1,k2,k3⟩:=g4 hs;exact ⟨by rw [zq],g2,k1.symm,k2.symm,k3.symm⟩
def qIf(hU:qd p)(hz:(qs p).1=0)(hi:inp.length<=2000)(ha:0<=a/\a<=100000)(hs:¬ (pV p inp a).1.2.1=0):((tK p).2.1≠0->(tK p).2=(14,-1))/\((tK p).2.1=0->qd (tK p).1->(qs (tK p).1).1=0/\Vi p (tK p).1 inp a):=by
  obtain ⟨_,_,h3,h4⟩:=DP hU hz;by_cases h1:(pn (li p)).1≠0
  . rw [show tK p=(⟨[],[]⟩,pn (li p)) from (ak O).trans (au h1)]
    exact ⟨λ_=>qpv h3 h1,λh=>absurd h h1⟩
  rw [show tK p=(li p,(0,0)) from (ak O).trans (ak h1)];refine ⟨λh=>absurd Z h,λ_ hUf=>?_⟩;have hg:=qrL hU h3 (eF.1 h1);have zf:=qz1 (p:=li p) (by rw [hg]) (by have:=qso (p:=p);omega);refine ⟨by show (qs (li p)).1=0;rw [zf],?_⟩;obtain ⟨x,rfl,e1⟩:=KZ h3 (inp:=inp) (a:=a) O hi;obtain ⟨y,h5,e2⟩:=KZ (p:=li p) (by rw [hg]) (inp:=inp) (a:=(x:Int)) O hi;obtain rfl:x=y:=O
  have hm:nM (li p).funcs=nM p.funcs:=TZ (p:=p) (λnm=>decide (nm=mu)) p.funcs 0;have hr:=qvn (p:=p) (n:=vi+1) (main:=(nM p.funcs).toNat) (a:=x) (inp:=inp) (by rw [UW];omega) rfl rfl;have hf:yG (li p) inp x=xZ x (yH (li p) iV (vi+1) (nM p.funcs).toNat inp x):=by rw [yG,hm]
  obtain ⟨_,g2,_,g4⟩:=Sh (p:=li p) (inp:=inp) (a:=(x:Int)) hUf (by rw [zf]) hi O;have j5:¬ (yG p inp x).2.1=0:=by rw [e1] at hs;exact hs
  obtain ⟨q1,q2,q3,q4⟩:=hr.1 j5;rw [e2,hf] at g4;have r2:(xZ x (yH (li p) iV (vi+1) (nM p.funcs).toNat inp x)).2.1=(yG p inp x).2.1:=q2;obtain ⟨k1,k2,k3⟩:=g4 (λh=>j5 (r2.symm.trans h));rw [Vi,e1];exact ⟨g2,k1.symm.trans q2,k2.symm.trans q3,k3.symm.trans q1⟩
def qpb{s:World}(hG:GP s):jT D 5 [] L s (.bool true):=by
 refine jn (fn:=Tryz.f5) jb Tryz.func5 V Z Tryz.ntmps5 Z (rs:=[.tmp 0]) Z [] Z<|G7 ?_;refine Jc Y3 (B4) ?_;rintro _ _ s1 h1 ⟨rfl,bg1,bf1,rfl,hg1,hf1⟩;refine Je Y3 (qpP Pz 5 jx Pz Pz) λs2 h2=>G3 ?_;refine jh Z [_,_] Y2 λβ3 s3 h3=>jh Z [_,_] Y2 λt4 s4 h4=>Wt 1 [_,_] Y9<|Wt 0 [_,_] Y9<|Nt<|Sr<|Jc Y3 (B4) ?_;rintro _ _ s5 h5 ⟨rfl,bg2,bf2,rfl,vP,hf2⟩;refine Jc Y3 (qnI Pz 5 jx Pz Pz) ?_;rintro _ _ s6 h6 ⟨rfl,Ac,nc,cc,rfl,hCl⟩;rw [Vp] at hCl;have rz:nc=1:=hCl.1;subst rz;obtain ⟨bq,oq,xq,Aq,nq,cq,rfl,hxq,hcq,hIq⟩:=re.at_ hCl (show 0 < 1 by decide);obtain rfl:=cM hxq;rw [qLx] at hIq;have hnq:nq=0:=hIq.1;subst hnq;refine G3 ?_;refine jh Z [_,_] Y2 λd7 s7 h7=>mo Y2<|Wt 0 [_,_] Y9<|Nt<|Sr<|Jc Y3 (B4) ?_;rintro _ _ s8 h8 ⟨rfl,bg3,bf3,rfl,hg3,xF⟩;refine iA (Gc Z Z Z Z Z Z Z Z Z) Z<|Jc Y3 (B4) ?_;rintro _ _ s9 h9 ⟨rfl,bg4,bf4,rfl,hg4,hf4⟩;obtain ⟨b4,off4,x4,B1,m1,d1,B2,m2,d2,B3,m3,d3,hA4,hx4,hc4,zZ,hl4,hb4,_⟩:=jl.at_ hf4 (show 0 < 1 by decide);cases hA4;obtain rfl:=cM hx4;refine iA (Gc Z Z Z Z Z Z Z Z Z) Z<|iA (jB [(_,_)] [_,_,_,_] Y3 Z Z Z) Z<|lx [(_,_)] [_,_,_,_] Y9 λβs kH jG tW=>qAG (sz:=4) Z Z Z Z Z Z Pz Z (Row.of_cells Pz Z Z) Dc ⟨by decide +kernel,Θ⟩ Z λβv cv kz jM hcv xN vv=>iA (jB [(_,_),(_,_)] [_,_] Y3 Z Z Z) Z<|Jc Y3 (qtB Pz 5 nW Pz (qtc Pz Pz Pz Pz xN vv)) ?_;rintro _ _ kh jE ⟨rfl,qt,hTq,Dg,kg,jg,Df,kf,jf,rfl,zX,hft⟩;obtain rfl:=Vs hTq;refine G3 ?_;refine jh Z [_,_] Y2 λb13 lq kV=>jh Z [_,_] Y2 λb14 lG kI=>Wt 1 [_,_] Y9<|Wt 0 [_,_] Y9<|Nt<|Sr<|Jc Y3 (B4) ?_;rintro _ _ lW lQ ⟨rfl,bg5,bf5,rfl,hg5,hf5⟩;refine Jc Y3 (qrK Pz 5 jx Pz Pz) ?_;rintro _ _ sB tu ⟨rfl,Eg,ug,wg,Ef,uf,wf,rfl,hgo,hfo⟩;rw [qLv] at hfo;obtain ⟨rfl,bo,oo,C1,r1,e1,C2,r2,e2,bo2,oo2,e3,rfl,hco,C4,r4,e4,C5,r5,e5,C6,r6,e6,hco2,nU⟩:=qCd hfo;refine G3 ?_;refine jh Z [_,_] Y2 λb17 vD vm=>jh Z [_,_] Y2 λb18 BO h18=>Wt 1 [_,_] Y9<|Wt 0 [_,_] Y9<|Nt<|Sr<|Je Y3 (Aj ⟨Θ,Θ⟩ ⟨Θ,Θ⟩) λBP yh=>G3 ?_;refine jh Z [_,_] Y2 λb20 yK qT=>mo Y2<|Wt 0 [_,_] Y9<|Nt<|Sr<|Je Y3 (Aj ⟨Θ,Θ⟩ ⟨Θ,Θ⟩) λAO uv=>G3 ?_;refine jh Z [_,_] Y2 λb22 s22 h22=>mo Y2<|Wt 0 [_,_] Y9<|G6 ?_;refine iA (Wd 7 Y5) Z<|iA (kK (v':=.bool false) (rD Z Z) (bF (by rw [S0]))) Z<|G4 ?_;refine iA (Wd 6 Y5) Z<|Zg Z Z<|iA (kK (v':=.bool false) (rD Z Z) (bF (by rw [EZ]))) Z<|G5 ?_;refine Wl 4 Y6<|Zg Z Z<|iA (kK (v':=.bool false) (rD Z Z) (bF (by rw [ZB]))) Z ?_;refine G7 ?_;refine iA (kK (v':=.bool false) (rD Z Z) (bF (by rw [Vr]))) Z<|G7 ?_;refine iA (kK (v':=.bool false) (rD Z Z) (bF (by exact Fz.1))) Z<|G7 ?_;refine iA (kK (v':=.bool false) (rD Z Z) (bF (by rfl))) Z ?_;refine G5 ?_;refine Wl 3 Y6<|G3 ?_;refine iA (kK (v':=.bool false) (rD Z Z) (bF (by rfl))) Z<|G5 ?_;refine Wl 3 Y6<|Zg Z Z<|iA (jK (j:=0) Y6 Dc) Z<|Zg Z Z<|iA (pU Y4) Z<|Zg Z Z<|iA (nK 3 Y3 Pz Z) Z<|G3 ?_;refine iA (kK (v':=.bool false) (rD Z Z) (bF (by rfl))) Z<|G8 ?_;refine iA (jB [(_,_)] [_,_,_,_,_] Y3 Z Z Z) Z<|Je Y3 (qsv) λs23 h23=>lx [(_,_),(_,_)] [_,_,_,_,_,_,_,_,_,_] Y9 λβg s24 h24 hcg=>iA (jB [(_,_),(_,_),(_,_)] [_,_,_,_,_] Y3 Z Z Z) Z<|jh Z [_,_,_,_,_] Y2 λb25 s25 h25=>Wt 0 [_,_,_,_,_] Y9<|Nt<|Zs<|mr jt 44 Z _ (λ_ h=>h) λs26 h26=>iF 0 V<|Jb Z Tt Z Z Z (B4) ?_;rintro _ _ s27 h27 ⟨rfl,bg6,bf6,rfl,hg6,hf6⟩;refine ⟨λ_ _ h=>h,?_⟩;refine iF 1 V<|Jf Z Tt Z Z Z (FX Pz 5 jx Pz Pz) λs28 h28=>za 2 Z (Gc Z Z Z Z Z Z Z Z Z) Z<|za 3 Z (kK (v':=.bool true) (uj Z Z) (bT (by rw [EZ]))) Z<|H1 ?_;refine zg 5 Z ⟨_,Z,Z⟩ (iZ 9 [_,_] Y5) Z<|zg 6 Z ⟨_,Z,Z⟩ (jB [(_,_)] [_,_] Y3 Z Z Z) Z<|zg 7 Z ⟨_,Z,Z⟩ (kK (v':=.bool true) (KN Z Z (qHI)) (bT ⟨by rw [S0],by rw [S0]⟩)) Z<|H3 ?_;refine zg 11 Z ⟨_,Z,Z⟩ (jK (j:=0) Y6 Dc) Z<|zg 12 Z ⟨_,Z,Z⟩ (jS Y3 Pz Z) Z<|H1 ?_;refine zg 14 Z ⟨_,Z,Z⟩ (kK (v':=.bool true) (uj Z Z) (bT (by rfl))) Z<|H2 ?_;refine zg 17 Z ⟨_,Z,Z⟩ (iZ 6 [_,_] Y5) Z<|iF 18 V<|Jb Z ⟨_,Z,Z⟩ Z Z Z (B4) ?_;rintro _ _ s29 h29 ⟨rfl,bg7,bf7,rfl,hg7,hf7⟩;refine ⟨λ_ _ h=>h,?_⟩;refine iF 19 V<|Jf Z ⟨_,Z,Z⟩ Z Z Z (qwp 5 jx Pz Pz 5 Pz Pz) λs30 h30=>H3 ?_;refine zg 23 Z ⟨_,Z,Z⟩ (Wd 4 Y5) Z<|zg 24 Z ⟨_,Z,Z⟩ (jK (j:=0) Y6 Dc) Z<|H1 ?_;refine zg 26 Z ⟨_,Z,Z⟩ (nK 3 Y3 Pz Z) Z<|zg 27 Z ⟨_,Z,Z⟩ (jK (j:=0) Y6 Dc) Z<|H1 ?_;refine zg 29 Z ⟨_,Z,Z⟩ (nK 2 Y3 Pz Z) Z<|zg 30 Z ⟨_,Z,Z⟩ (iZ 0 [_,_,_,_,_] Y5) Z<|iF 31 V<|qC Z ⟨_,Z,Z⟩ [(_,_)] [_,_,_,_,_] Y9 λβh s31 h31 ry=>iF 32 V<|Jb Z ⟨_,Z,Z⟩ Z Z Z (T8 4 _ _ 3 _ _ _ _ _ _ [JY] Pz (qDA Pz Pz)) ?_;rintro _ _ s32 h32 ⟨rfl,rfl⟩;refine ⟨λ_ _ h=>h,?_⟩;refine za 33 Z (FU Z Z) Z<|za 34 Z (E3 Z) Z<|zg 35 Z ⟨_,Z,Z⟩ (E3 Z) Z<|zg 36 Z ⟨_,Z,Z⟩ (kK (v':=.bool true) (uj Z Z) (bT (by rw [au Fz.1];exact Fz.2.2))) Z<|za 37 Z (FU Z Z) Z<|za 38 Z (E3 Z) Z<|zg 39 Z ⟨_,Z,Z⟩ (iZ 1 [_,_] Y5) Z<|iF 40 V<|Jf Z ⟨_,Z,Z⟩ Z Z Z (YR) λs33 h33=>zg 41 Z ⟨_,Z,Z⟩ (kK (v':=.bool true) (KN Z Z (sp)) (bT Vt)) Z<|za 42 Z (FU Z Z) Z<|za 43 Z (Ny Z) Z<|ji V<|G2 ?_;exact rX [_,_,_,_,_,_,_,_,_,_] L Z Lc λ_ iD=>qH
def sbT{s:World}{c:Nat}{l:iH}(hA:lP s A n c l)(hB:lP s A1 n1 c1 l1)(h:l=l1):jU D 12 [.slice A n c,.slice A1 n1 c1] L s λv L' _=>v=.bool true/\L=L':=
 (Z8 hA hB).mono λv L' s' _ hv=>⟨hv.1.trans (by rw [bL h]),hv.2⟩
def qn1{s:World}{c:Nat}(hA:ki s A n c iW.U)(hI:lX s A1 n1 c1 l){n2 c2:Nat}(i:iH)(hi:lP s A2 n2 c2 i):jU D 10 [.agg #[iB 65536,.slice A n c],.slice A1 n1 c1,.slice A2 n2 c2,iB k] L s λv L' s'=>L=L'/\∃ vs,sG s' (sx iW l i k).1 vs/\v=.tuple #[vs,.agg #[iB (sx iW l i k).2.1,iB (sx iW l i k).2.2]]:=s_ hA hI hi
def qpB{s:World}(hG:GP s){Ag Af:iE}{ng cg nf cf:Nat}(jF:ja s Ag ng cg p.o)(jX:jl d s Af nf cf p.funcs){ni qi:Nat}(hI:lP s Ai ni qi inp):jT D 3 [.agg #[.slice Ag ng cg,.slice Af nf cf],.slice Ai ni qi,iB a] L s (.bool true):=by
 have hU:qd p:=⟨jF.u,jX.u⟩;have hni:=hI.1;refine jn (fn:=Tryz.f3) jb Tryz.func3 V Z Tryz.ntmps3 Z (rs:=[.tmp 6]) Z [(0,_),(1,_),(2,_)] Z<|Sr<|kF Y2 λβ1 s1 h1=>G6 ?_;refine Je Y3 (qvz Pz) λs2 h2=>AM Z Z<|G2 ?_;refine Je Y3 (qpb Pz) λs3 h3=>Zg Z Z<|AM Z Z<|G8 ?_;refine iA (iZ 0 [_,_] Y5) Z<|Jc Y3 (NV Pz d p Pz Pz) ?_;rintro _ _ s4 h4 ⟨rfl,Aw1,nw1,cw1,rfl,hw1⟩;refine G3 ?_;refine jh Z [_,_] Y2 λt5 s5 h5=>mo Y2<|Wt 0 [_,_] Y9<|G3 ?_;refine rW 46 (((qs p).1≠0\/2000 < (ni:Int))\/¬ (0<=a/\a<=100000)) ?_ ?_
 .refine G5 ?_;refine tG (t:=37) Z ?_ ?_<;>intro c7;.exact WO
  refine G8 ?_;refine ld (t:=42) Z ?_ ?_<;>intro c8;.exact Ry
  refine G3 ?_;refine Jc Y3 (qK8) ?_;exact Xh
 intro s6 h6;refine mG Z ?_ ?_<;>intro mz
 .refine Zs ?_;rcases (show (qs p).1=0\/¬ (qs p).1=0 by omega) with hz|hz
  .refine G3 ?_;refine iA (kK (v':=.bool true) (uj Z Z) (bT hz)) Z<|lM ?_;exact rX [_,_] L Z Lc λ_ iD=>qH
  have hB:=(qtD hz).2;refine G3 ?_;refine iA (kK (v':=.bool false) (uj Z Z) (bZ hz)) Z<|G6 ?_;refine iA (kK (v':=.bool true) (uj Z Z) (bT (by rw [hw1.1,hB];rfl))) Z<|G6 ?_;exact rX [_,_] L Z Lc λ_ iD=>qH
 have g46:=mz;have hz:(qs p).1=0:=eG.1 λh=>g46 (.inl (.inl h));have gl:=Sh (inp:=inp) (a:=a) hU hz O O;refine Zk<|Zt<|Sr<|iA (iZ 1 [_,_] Y5) Z<|G2 ?_;refine Jc Y3 (qCn Pz d p Pz Pz inp Pz) ?_;rintro _ _ kz jM ⟨rfl,_,rfl,Ax,nx,qx,rfl,vp⟩;refine G3 ?_;refine jh Z [_,_,_,_] Y2 λb12 kh jE=>jh Z [_,_] Y2 λb13 lq kV=>Wt 1 [_,_,_,_] Y9<|Wt 0 [_,_] Y9<|G7 ?_;refine iA (kK (v':=.bool false) (rD Z Z) (bF gl.1)) Z<|lw ?_;refine Nt ?_;refine mG Z ?_ ?_<;>intro rI;.refine G7 ?_;exact rX [_,_,_,_] L Z Lc λ_ iD=>qH
 have hs:¬ (pV p inp a).1.2.1=0:=rI;refine Zk<|Zt<|Sr<|iA (iZ 3 [_,_] Y5) Z<|Jc Y3 (qtB Pz d p Pz Pz) ?_;rintro _ _ lW lQ ⟨rfl,qt,hTq,Xg,kXg,jXg,Xf,kXf,jXf,rfl,hXg,hXf⟩;refine G3 ?_;refine jh Z [_,_] Y2 λb16 sB tu=>jh Z [_,_] Y2 λb17 vD vm=>Wt 1 [_,_] Y9<|Wt 0 [_,_] Y9<|G3 ?_;have gt:=qIg (inp:=inp) (a:=a) hU ⟨hXg.u,hXf.u⟩ hz hTq O O hs;refine Zr<|iA (iZ 1 [_,_] Y5) Z<|Jc Y3 (NV Pz d qt Pz Pz) ?_;rintro _ _ BO h18 ⟨rfl,Aw2,nw2,cw2,rfl,hw2⟩;refine G3 ?_;refine jh Z [_,_] Y2 λb19 BP yh=>mo Y2<|Wt 0 [_,_] Y9<|Nt<|Sr<|Jc Y3 (Oy) ?_;rintro _ _ yK qT ⟨rfl,Ad1,nd1,cd1,rfl,hD1⟩;refine G3 ?_;refine iA (Uj (c:=40 * a) Z Z (jq O O)) Z<|iA (nV (c:=40 * a+40) Z Z (jq O O)) Z<|Jc Y3 (qn1 Pz Pz inp Pz) ?_;rintro _ _ AO uv ⟨rfl,_,⟨Ay,ny,qy,rfl,hBy⟩,rfl⟩;refine G3 ?_;refine jh Z [_,_,_,_] Y2 λb22 s22 h22=>jh Z [_,_] Y2 λb23 s23 h23=>Wt 1 [_,_,_,_] Y9<|Wt 0 [_,_] Y9<|G6 ?_;refine Wl 3 Y6<|iA (kK (v':=.bool false) (rD Z Z) (bF (DP hU hz).2.2.1)) Z<|G6 ?_;refine iA (kK (v':=.bool false) (rD Z Z) (bF gt.1)) Z<|G7 ?_;refine iA (kK (v':=.bool false) (rD Z Z) (bF gt.2.1)) Z ?_;refine G9 ?_;refine iA (Wd 6 Y5) Z<|Zg Z Z<|iA (kK (v':=.bool false) (rD Z Z) (bF gt.2.2.1)) Z<|G9 ?_;refine iA (Wd 6 Y5) Z<|Zg Z Z<|iA (kK (v':=.bool false) (rD Z Z) (bF gt.2.2.2.1)) Z<|G9 ?_;refine iA (Wd 6 Y5) Z<|Zg Z Z<|Je Y3 (sbT Pz Pz gt.2.2.2.2) λs24 h24=>Zg Z Z<|AM Z Z<|G8 ?_;refine iA (iZ 8 [_,_] Y5) Z<|Jc Y3 (qrK Pz d p Pz Pz) ?_;rintro _ _ s25 h25 ⟨rfl,Eg,ug,wg,Ef,uf,wf,rfl,hgo,hfo⟩;refine G3 ?_;refine jh Z [_,_] Y2 λb26 s26 h26=>jh Z [_,_] Y2 λb27 s27 h27=>Wt 1 [_,_] Y9<|Wt 0 [_,_] Y9<|G4 ?_;have gf0:=qIf (inp:=inp) (a:=a) hU hz O O hs;refine G6 ?_;refine lL Z ?_ ?_<;>intro c28;.have hc9:=gf0.1 c28;refine Zs<|mr jt 4 Z _ (λ_ h=>h) λs29 h29=>za 0 Z (iZ 0 [_,_] Y5) Z<|iF 1 V<|Jf Z Tt Z Z Z (YR) λs30 h30=>za 2 Z (kK (v':=.bool true) (KN Z Z (sp)) (bT ⟨bl (·.1) hc9,bl (·.2) hc9⟩)) Z<|H1 ?_;refine ji V<|G3 ?_;exact rX [_,_,_,_,_,_,_,_,_,_,_] L Z Lc λ_ iD=>qH
 have gf:=gf0.2 (by have:=c28;omega) ⟨hgo.u,hfo.u⟩;refine Zk<|Zt<|Sr<|iA (iZ 1 [_,_] Y5) Z<|Jc Y3 (NV Pz d (tK p).1 Pz Pz) ?_;rintro _ _ s29 h29 ⟨rfl,Aw3,nw3,cw3,rfl,hw3⟩;refine G3 ?_;refine jh Z [_,_] Y2 λb30 s30 h30=>mo Y2<|Wt 0 [_,_] Y9<|Nt<|Sr<|Jc Y3 (Oy) ?_;rintro _ _ s31 h31 ⟨rfl,Ad2,nd2,cd2,rfl,hD2⟩;refine G3 ?_;refine iA (Uj (c:=40 * a) Z Z (jq O O)) Z<|iA (nV (c:=40 * a+40) Z Z (jq O O)) Z<|Jc Y3 (qn1 Pz Pz inp Pz) ?_;rintro _ _ s32 h32 ⟨rfl,_,⟨Az,nz,qz,rfl,hBz⟩,rfl⟩;refine G3 ?_;refine jh Z [_,_,_,_] Y2 λb33 s33 h33=>jh Z [_,_] Y2 λb34 s34 h34=>Wt 1 [_,_,_,_] Y9<|Wt 0 [_,_] Y9<|G6 ?_;refine iA (kK (v':=.bool true) (uj Z Z) (bT gf.1)) Z<|G6 ?_;refine iA (kK (v':=.bool true) (uj Z Z) (bT gf.2.1)) Z<|G9 ?_;refine iA (Wd 11 Y5) Z<|Zg Z Z<|iA (kK (v':=.bool true) (uj Z Z) (bT gf.2.2.1)) Z ?_;refine G9 ?_;refine iA (Wd 11 Y5) Z<|Zg Z Z<|iA (kK (v':=.bool true) (uj Z Z) (bT gf.2.2.2.1)) Z<|G9 ?_;refine iA (Wd 11 Y5) Z<|Zg Z Z<|Je Y3 (sbT Pz Pz gf.2.2.2.2) λs35 h35=>G5 ?_;exact rX [_,_,_,_,_,_,_,_,_,_,_,_,_,_] L Z Lc λ_ iD=>qH
end
section
open Go.ChangeShapes Go.WideShapes Go.ChangeAt Go.Deep
variable{sz:Nat}{l:iz}
def qv4:ownKnob prog.godebug=none:=by kernel_rfl
def qvC:laidOutB prog=true:=by kernel_rfl
def qsc(l:List Obj):∃ D,∀ E,D<=E->∀ o∈l,o≠mJ E:=by
 induction l with
 | nil=>exact ⟨0,λ_ _ _ h=>by cases h⟩
 | cons x l ih=>
  obtain ⟨D,hD⟩:=ih;have hx:∃ B,∀ E,B<=E->x≠mJ E:=by
   cases x with
   | mapIter a n b c=>exact ⟨n+1,λE hE h=>by simp only [mJ,Obj.mapIter.injEq] at h;omega⟩
   | _=>exact ⟨0,λE _ h=>by simp [mJ] at h⟩
  obtain ⟨B,hB⟩:=hx;refine ⟨max D B,λE hE o ho=>?_⟩;rcases aR.1 ho with rfl|ho
  . exact hB E O
  . exact hD E O o ho
def qpD(W:World):∃ D,∀ k:Nat,W.heap[k]?≠some (mJ D):=by
 obtain ⟨D,hD⟩:=qsc W.heap.toList;refine ⟨D,λk hk=>hD D (ay _) (mJ D) ?_ Z⟩;rw [<- gW] at hk;exact ax hk
def quD(hD:∀ k:Nat,W.heap[k]?≠some (mJ D))(h:Le D W W'):Below W.heap.size W W':=
 ⟨h.os,h.tape,h.output,h.size,λk hk=>(h.block k hk).resolve_left (hD k)⟩
def qr5{f:FuncId}{args:iz}(h:∀ D,AC P D f args [] W λv L' _=>v=.bool true/\[]=L'):
  Calls P f args.toArray W λe W'=>e=.returned (.bool true)/\Below W.heap.size W W':=by
 obtain ⟨D,hD⟩:=qpD W;refine ((h D).2 ⟨Ξ,λx hx=>by cases hx⟩).mono ?_;rintro e w' ⟨v,L',s',h1,rfl,h3,h4,rfl,rfl⟩;exact ⟨h1,quD hD h4⟩
section
variable{H:Type}{enc:TypeId×Value->H}
def ZU{W W':World}(hl:laidOutB P=true)(hb:Below W.heap.size W W'):∀ {ts:List TypeId} {vs:iz} {ds:List (DataW H)} {ps:List MemPlace},(∀ t∈ts,P.readableRec t=true/\t < P.types.size)->(∀ x∈ps,x.block < W.heap.size) ->
  DataW.TrodAll enc P W 0 (λ_=>true) true ts vs ds ps->DataW.TrodAll enc P W' 0 (λb=>decide (b < W.heap.size)) true ts vs ds ps
 | [],_,_,_,_,_,h=>by
  obtain ⟨rfl,rfl,rfl⟩:=trodAll_nil h;exact trodAll_mk0
 | t::ts,_,_,_,hts,hp,h=>by
  obtain ⟨v,vs,d,ds,a,b,rfl,rfl,rfl,h1,h2⟩:=trodAll_cons h;have ht:=hts t Mc;exact trodAll_cons_mk (Below.trod hl ht.1 ht.2 h1 hb λx hx=>hp x (aI _ hx)) (ZU hl hb (λt' h'=>hts t' (an _ h')) (λx hx=>hp x (aF _ hx)) h2)
def qvD{s:ChangeSpec}{args:Array Value}{ds gs:List (DataW H)}{before:List MemPlace}(hl:laidOutB P=true)(hts:∀ t∈fn.params.toList,P.readableRec t=true/\t < P.types.size)(hr:fn.resultTypes=#[tb])(hb:P.underlying tb=some .bool)
  (hv:s.vars=[]) (hW:DataW.Whole enc P fn.params.toList s.vars false W args.toList ds gs before) (hfn:s.fn H ds={ results:=[.lit (.bool true)],args:=ds }) (hB:Below W.heap.size W W'):s.post enc P fn false true false false W args (.bool true) W':=by
 have kZ:∀ x∈before,x.block < W.heap.size:=λx hx=>hW.lt x hx;have hW':=hW;obtain ⟨p,q,hA,hV,rfl,_,_⟩:=hW;rw [hv] at hV;obtain ⟨rfl,rfl⟩:=trodVars_none hV;refine ⟨ds,[],p++[],[],p,[],hW',?_,?_,?_,hB.frame _,λh=>by cases h⟩
 . rw [aE,hfn,hr];exact trodAll_cons_mk (shut_bool hb _) trodAll_mk0
 . rw [aE,hfn];exact ZU hl hB hts (λx hx=>kZ x (aI _ hx)) hA
 . rw [aE,hfn,hv];rfl
end
def Rd(W:World)(t:TypeId)(cs:iz):Prop:=∃ (H:Type) (enc:TypeId×Value->H) (n:Nat) (x:DataW H×List MemPlace),DataW.trod enc prog W 0 (λ_=>true) true n t cs=some x
section
variable{t e:TypeId}{cs:iz}
def DL{k:IntKind}(ht:prog.underlying t=some (.int k))(h:Rd W t cs):∃ n,cs=[.int k n]/\(Lit.int k n).wf=true:=by
 obtain ⟨H,enc,n,x,h⟩:=h;obtain ⟨i,h1,_,h2⟩:=DataW.trod_int ht h;exact ⟨i,h1,h2⟩
def KW(ht:prog.underlying t=some .string)(h:Rd W t cs):∃ l:iH,cs=[St l]/\l.length<=9223372036854775807:=by
 obtain ⟨H,enc,n,x,h⟩:=h;obtain ⟨s,h1,_,h2⟩:=DataW.trod_string ht h;refine ⟨s.data.toList,by rw [h1],?_⟩;have:s.data.toList.length=s.size:=by rw [fO];rfl
 simp only [maxLen] at h2;omega
def qwd(ht:prog.underlying t=some (.struct fs))(h:Rd W t cs)(hc:prog.cellsOf t=sz):cs.length=sz/\∀ (i:Nat) (f:Field),fs[i]?=some f->∀ (ty off n:Nat),f.type=ty->f.offset=off->prog.cellsOf ty=n->Rd W ty ((cs.drop off).take n):=by
 obtain ⟨H,enc,n,x,h⟩:=h;obtain ⟨xs,m,_,_,h1,h2,h3⟩:=DataW.trod_struct ht h;refine ⟨h1.trans hc,λi f hf ty off k e1 e2 e3=>?_⟩;have hi:i < xs.length:=by rw [h2];exact (gd.1 hf).1
 have:=h3 i f hf;rw [ap hi,e1,e2,e3] at this;exact ⟨H,enc,m,_,this⟩
def XR{p:Prop} (h:p:=by
 have hl:j < sz:=by rw [<- k3];exact (al.1 hj).1
 have:=k4 j hl;rw [hj,add_lit,add_lit] at this;exact this):p:=h
def XL{p:Prop} (h:p:=by
 obtain ⟨_,j3,j4⟩:=gA j1;have:=j4 0 hp;rw [ap O] at this;simpa [Addr.add] using World.cell?_spot this):p:=h
def qwe(ht:prog.underlying t=some (.slice e))(hc:prog.cellsOf e=sz)(hp:0 < sz)(h:Rd W t cs):∃ A n c,cs=[.slice A n c]/\n<=c/\c<=9223372036854775807 /\
    ∀ i,i < n->∃ b off ds,A=some ⟨b,off,none⟩/\iy W b (off+i * sz) ds/\ds.length=sz/\Rd W e ds:=by
  obtain ⟨H,enc,q,x,h⟩:=h;rcases open_slice ht h with ⟨rfl,_⟩|⟨a,len,cap,m,k,D,Pl,rfl,_,h1,h2,h3,_,h4⟩
  . exact ⟨none,0,0,rfl,ay _,O,λi hi=>O⟩
  . simp only [maxLen] at h2
    refine ⟨some a,len,cap,Z,h1,O,λi hi=>?_⟩;obtain ⟨ds,k1,k2⟩:=h4 i (by simp at h3;omega);rw [hc] at k1;obtain ⟨_,k3,k4⟩:=gA k1;obtain ⟨b,off,spot⟩:=a;have hs:spot=none:=by
      obtain ⟨ds0,j1,_⟩:=h4 0 (by simp at h3;omega);rw [hc,Nat.zero_mul] at j1;exact XL
    subst hs;refine ⟨b,off,ds,Z,λj v hj=>?_,k3,H,enc,k,_,k2⟩;exact XR
def Xr{p:Prop} (h:p:=by
 simp [hr] at hi;obtain ⟨hi1,xH⟩:=al.1 hr;simp at hi1 xH;subst xH;subst hi;exact hf i hi1):p:=h
def PN{α:Type}[Inhabited α]{R:World->α->iz->Prop}(ht:prog.underlying t=some (.slice e))(hc:prog.cellsOf e=sz)(hp:0 < sz)(h:Rd W t cs)(hel:∀ ds,Rd W e ds->∃ x:α,R W x ds):∃ A n c l,cs=[.slice A n c]/\Sl sz R W A n c l:=by
 obtain ⟨A,n,c,h1,h2,h3,h4⟩:=qwe ht hc hp h;obtain ⟨f,hf⟩:=choose_lt (α:=α) (p:=λi x=>∃ b off ds,A=some ⟨b,off,none⟩/\iy W b (off+i * sz) ds/\ds.length=sz/\R W x ds) (n:=n) (λi hi=>by
  obtain ⟨b,off,ds,k1,k2,k3,k4⟩:=h4 i hi;obtain ⟨x,hx⟩:=hel ds k4;exact ⟨x,b,off,ds,k1,k2,k3,hx⟩)
 refine ⟨A,n,c,(List.range n).map f,h1,Ξ,h2,h3,λi x hi=>?_⟩;rw [bQ] at hi;cases hr:(List.range n)[i]? with
 | none=>simp [hr] at hi
 | some j=>
  exact Xr
def Rc(h:l.length=2):∃ a b,l=[a,b]:=by match l,h with|[a,b],_=>exact ⟨a,b,rfl⟩
def JM(h:l.length=4):∃ a b c d,l=[a,b,c,d]:=by match l,h with|[a,b,c,d],_=>exact ⟨a,b,c,d,rfl⟩
def ud{a b:Value}(h:[a]=[b]):a=b:=by injection h
def Va{n:Int}(h:(Lit.int .u32 n).wf=true):iQ n:=by have:=bounds_u32 h;exact ⟨O,O⟩
end
set_option maxRecDepth 100000
instance:Inhabited Ex:=⟨.mk 0 0 0 [] []⟩
instance:Inhabited iP:=⟨.mk 0 [] [] [] []⟩
instance:Inhabited iM:=⟨⟨[],[],[],[]⟩⟩
instance:Inhabited jv:=⟨⟨0,[],0,[]⟩⟩
def Py:prog.cellsOf 3=1:=by kernel_rfl
def RY:prog.cellsOf 34=1:=by kernel_rfl
def K4:prog.cellsOf 9=1:=by kernel_rfl
def qzi:prog.cellsOf 61=1:=by kernel_rfl
def qBF:prog.cellsOf 28=1:=by kernel_rfl
def SU:prog.cellsOf 69=5:=by kernel_rfl
def Za:prog.cellsOf 67=1:=by kernel_rfl
def SP:prog.cellsOf 76=5:=by kernel_rfl
def RX:prog.cellsOf 62=1:=by kernel_rfl
def JD:prog.cellsOf 64=4:=by kernel_rfl
def qKA:prog.cellsOf 23=1:=by kernel_rfl
def JF:prog.cellsOf 84=4:=by kernel_rfl
def qKB:prog.cellsOf 22=1:=by kernel_rfl
def qKC:prog.cellsOf 25=2:=by kernel_rfl
def JN(h:l.length=5):∃ a b c d e,l=[a,b,c,d,e]:=by match l,h with|[a,b,c,d,e],_=>exact ⟨a,b,c,d,e,rfl⟩
def xu(n:Nat)(W:World)(t:TypeId)(cs:iz):Prop:=∃ (H:Type) (enc:TypeId×Value->H) (x:DataW H×List MemPlace),DataW.trod enc prog W 0 (λ_=>true) true n t cs=some x
section
variable{t e:TypeId}{cs:iz}
def xu.rd(h:xu n W t cs):Rd W t cs:=by
 obtain ⟨H,enc,x,h⟩:=h;exact ⟨H,enc,n,x,h⟩
def NN(ht:prog.underlying t=some (.struct fs))(h:xu n W t cs)(hc:prog.cellsOf t=sz):cs.length=sz/\∃ m,n=m+1/\∀ (i:Nat) (f:Field),fs[i]?=some f->∀ (ty off k:Nat),f.type=ty->f.offset=off->prog.cellsOf ty=k->xu m W ty ((cs.drop off).take k):=by
 obtain ⟨H,enc,x,h⟩:=h;obtain ⟨xs,m,hm,_,h1,h2,h3⟩:=DataW.trod_struct ht h;refine ⟨h1.trans hc,m,hm,λi f hf ty off k e1 e2 e3=>?_⟩;have hi:i < xs.length:=by rw [h2];exact (gd.1 hf).1
 have:=h3 i f hf;rw [ap hi,e1,e2,e3] at this;exact ⟨H,enc,_,this⟩
def qsS(ht:prog.underlying t=some (.slice e))(hc:prog.cellsOf e=sz)(hp:0 < sz)(h:xu n W t cs):∃ A m c,cs=[.slice A m c]/\m<=c/\c<=9223372036854775807 /\
    ∀ i,i < m->∃ b off ds q,A=some ⟨b,off,none⟩/\iy W b (off+i * sz) ds/\ds.length=sz/\n=q+1/\xu q W e ds:=by
  obtain ⟨H,enc,x,h⟩:=h;rcases DataW.trod_slice ht h with ⟨rfl,_⟩|⟨a,len,cap,elems,iI,q,hq,rfl,_,_,h1,h2,iK,hel,_,_⟩
  . exact ⟨none,0,0,rfl,ay _,O,λi hi=>O⟩
  . simp only [maxLen] at h2
    have h4:∀ i,i < len->∃ ds x,W.cells? 0 (a.add (i * sz)) sz=some ds/\DataW.trod enc prog W 0 (λ_=>true) true q e ds=some x:=by
      intro i hi;have:=hel i hi;rw [ap O,hc] at this;obtain ⟨ds,k1,k2⟩:=fa.1 this;exact ⟨ds,_,k1,k2⟩
    refine ⟨some a,len,cap,Z,h1,O,λi hi=>?_⟩;obtain ⟨ds,y,k1,k2⟩:=h4 i hi;obtain ⟨_,k3,k4⟩:=gA k1;obtain ⟨b,off,spot⟩:=a;have hs:spot=none:=by
      obtain ⟨ds0,_,j1,_⟩:=h4 0 O;rw [Nat.zero_mul] at j1;exact XL
    subst hs;refine ⟨b,off,ds,q,Z,λj v hj=>?_,k3,hq,H,enc,_,k2⟩;exact XR
def K0{α:Type}[Inhabited α]{R:World->α->iz->Prop}(ht:prog.underlying t=some (.slice e))(hc:prog.cellsOf e=sz)(hp:0 < sz)(h:xu n W t cs)(hel:∀ q,n=q+1->∀ ds,xu q W e ds->∃ x:α,R W x ds):∃ A m c l,cs=[.slice A m c]/\Sl sz R W A m c l:=by
 obtain ⟨A,m,c,h1,h2,h3,h4⟩:=qsS ht hc hp h;obtain ⟨f,hf⟩:=choose_lt (α:=α) (p:=λi x=>∃ b off ds,A=some ⟨b,off,none⟩/\iy W b (off+i * sz) ds/\ds.length=sz/\R W x ds) (n:=m) (λi hi=>by
  obtain ⟨b,off,ds,q,k1,k2,k3,k5,k4⟩:=h4 i hi;obtain ⟨x,hx⟩:=hel q k5 ds k4;exact ⟨x,b,off,ds,k1,k2,k3,hx⟩)
 refine ⟨A,m,c,(List.range m).map f,h1,Ξ,h2,h3,λi x hi=>?_⟩;rw [bQ] at hi;cases hr:(List.range m)[i]? with
 | none=>simp [hr] at hi
 | some j=>
  exact Xr
def qwf(h:Rd W 28 cs):∃ A n c l,cs=[.slice A n c]/\lX W A n c l:=PN underlying28 RY Dc h λ_ hd=>by
 obtain ⟨n,h1,h2⟩:=DL underlying34 hd;exact ⟨n,h1,Va h2⟩
def qsR(h:Rd W 61 cs):∃ A n c l,cs=[.slice A n c]/\iO W A n c l:=
 PN (α:=iH) (R:=λ_ x cs=>cs=[St x]/\x.length<=9223372036854775807) underlying61 K4 Dc h (λ_ hd=>KW underlying9 hd)
def qLm(n:Nat):∀ cs,xu n W 69 cs->∃ x:Ex,tP n W x cs:=by
 refine Nat.strongRecOn n ?_;intro n ih cs h;obtain ⟨h1,m,rfl,h2⟩:=NN underlying69 h SU;obtain ⟨a,b,c,d,e,rfl⟩:=JN h1;obtain ⟨k,e1,_⟩:=DL underlying3 (h2 0 _ rfl _ _ _ rfl rfl Py).rd;obtain ⟨o,e2,_⟩:=DL underlying3 (h2 1 _ rfl _ _ _ rfl rfl Py).rd;obtain ⟨u,e3,w3⟩:=DL underlying34 (h2 2 _ rfl _ _ _ rfl rfl RY).rd;obtain ⟨w,e4,w4⟩:=KW underlying9 (h2 3 _ rfl _ _ _ rfl rfl K4).rd;obtain ⟨A,p,q,l,e5,w5⟩:=K0 (R:=tP m) underlying67 SU Dc (h2 4 _ rfl _ _ _ rfl rfl Za) λq hq ds hd=>by
  obtain ⟨x,hx⟩:=ih q O ds hd;exact ⟨x,hx.up O⟩
 have z1:a=iB k:=ud e1;have z2:b=iB o:=ud e2;have z3:c=iJ u:=ud e3;have z4:d=St w:=ud e4;have z5:e=.slice A p q:=ud e5;subst z1;subst z2;subst z3;subst z4;subst z5;exact ⟨.mk k o u w l,A,p,q,rfl,w5,Va w3,w4⟩
def qIH(h:xu n W 67 cs):∃ A m c l,cs=[.slice A m c]/\j8 n W A m c l:=
 K0 (R:=tP n) underlying67 SU Dc h λq hq ds hd=>by
  obtain ⟨x,hx⟩:=qLm q ds hd;exact ⟨x,hx.up O⟩
def qLq(n:Nat):∀ cs,xu n W 76 cs->∃ x:iP,ru n W x cs:=by
 refine Nat.strongRecOn n ?_;intro n ih cs h;obtain ⟨h1,m,rfl,h2⟩:=NN underlying76 h SP;obtain ⟨a,b,c,d,e,rfl⟩:=JN h1;have hB:∀ {cs},xu m W 62 cs->∃ A p q l,cs=[.slice A p q]/\Sl 5 (ru m) W A p q l:=λh=>K0 (R:=ru m) underlying62 SP Dc h λq hq ds hd=>by
  obtain ⟨x,hx⟩:=ih q O ds hd;exact ⟨x,hx.up O⟩
 obtain ⟨k,e1,_⟩:=DL underlying3 (h2 0 _ rfl _ _ _ rfl rfl Py).rd;obtain ⟨w,e2,w2⟩:=KW underlying9 (h2 1 _ rfl _ _ _ rfl rfl K4).rd;obtain ⟨A1,p1,q1,l1,e3,w3⟩:=qIH (h2 2 _ rfl _ _ _ rfl rfl Za);obtain ⟨A2,p2,q2,l2,e4,w4⟩:=hB (h2 3 _ rfl _ _ _ rfl rfl RX);obtain ⟨A3,p3,q3,l3,e5,w5⟩:=hB (h2 4 _ rfl _ _ _ rfl rfl RX);have z1:a=iB k:=ud e1;have z2:b=St w:=ud e2;have z3:c=.slice A1 p1 q1:=ud e3;have z4:d=.slice A2 p2 q2:=ud e4;have z5:e=.slice A3 p3 q3:=ud e5;subst z1;subst z2;subst z3;subst z4;subst z5;exact ⟨.mk k w l1 l2 l3,A1,p1,q1,A2,p2,q2,A3,p3,q3,rfl,w3,w4,w5,w2⟩
def qIJ(h:xu n W 62 cs):∃ A m c l,cs=[.slice A m c]/\jo n W A m c l:=
 K0 (R:=ru n) underlying62 SP Dc h λq hq ds hd=>by
  obtain ⟨x,hx⟩:=qLq q ds hd;exact ⟨x,hx.up O⟩
def AT.up{e:Nat}{cs:iz}(h:AT d s x cs)(he:d<=e):AT e s x cs:=by
 obtain ⟨A1,n1,c1,A2,n2,c2,A3,n3,c3,h1,h2,h3,h4,h5⟩:=h;exact ⟨A1,n1,c1,A2,n2,c2,A3,n3,c3,h1,h2,h3,jo.up h4 he,h5⟩
def qLn{cs:iz}(h:xu n W 64 cs):∃ x:iM,AT n W x cs:=by
 obtain ⟨h1,m,rfl,h2⟩:=NN underlying64 h JD;obtain ⟨a,b,c,d,rfl⟩:=JM h1;obtain ⟨w,e1,w1⟩:=KW underlying9 (h2 0 _ rfl _ _ _ rfl rfl K4).rd;obtain ⟨A1,p1,q1,l1,e2,w2⟩:=qsR (h2 1 _ rfl _ _ _ rfl rfl qzi).rd;obtain ⟨A2,p2,q2,l2,e3,w3⟩:=qsR (h2 2 _ rfl _ _ _ rfl rfl qzi).rd;obtain ⟨A3,p3,q3,l3,e4,w4⟩:=qIJ (h2 3 _ rfl _ _ _ rfl rfl RX);have z1:a=St w:=ud e1;have z2:b=.slice A1 p1 q1:=ud e2;have z3:c=.slice A2 p2 q2:=ud e3;have z4:d=.slice A3 p3 q3:=ud e4;subst z1;subst z2;subst z3;subst z4;exact ⟨⟨w,l1,l2,l3⟩,A1,p1,q1,A2,p2,q2,A3,p3,q3,rfl,w2,w3,jo.up w4 O,w1⟩
def qLo{cs:iz}(h:Rd W 84 cs):∃ x:jv,Dk W x cs:=by
 obtain ⟨h1,h2⟩:=qwd underlying84 h JF;obtain ⟨a,b,c,d,rfl⟩:=JM h1;obtain ⟨k,e1,_⟩:=DL underlying3 (h2 0 _ rfl _ _ _ rfl rfl Py);obtain ⟨w,e2,w2⟩:=KW underlying9 (h2 1 _ rfl _ _ _ rfl rfl K4);obtain ⟨u,e3,w3⟩:=DL underlying34 (h2 2 _ rfl _ _ _ rfl rfl RY);obtain ⟨A,p,q,l,e4,w4⟩:=qwf (h2 3 _ rfl _ _ _ rfl rfl qBF);have z1:a=iB k:=ud e1;have z2:b=St w:=ud e2;have z3:c=iJ u:=ud e3;have z4:d=.slice A p q:=ud e4;subst z1;subst z2;subst z3;subst z4;exact ⟨⟨k,w,u,l⟩,A,p,q,rfl,w4,Va w3,w2⟩
def qII{cs:iz}(h:xu n W 25 cs):∃ (p:jc) (Ag Af:iE) (ng cg nf cf:Nat),cs=[.slice Ag ng cg,.slice Af nf cf]/\ja W Ag ng cg p.o/\jl n W Af nf cf p.funcs:=by
 obtain ⟨h1,m,rfl,h2⟩:=NN underlying25 h qKC;obtain ⟨a,b,rfl⟩:=Rc h1;obtain ⟨Ag,ng,cg,lg,e1,w1⟩:=PN (R:=Dk) underlying22 JF Dc (h2 0 _ rfl _ _ _ rfl rfl qKB).rd λ_ hd=>qLo hd;obtain ⟨Af,nf,cf,lf,e2,w2⟩:=K0 (R:=AT (m+1)) underlying23 JD Dc (h2 1 _ rfl _ _ _ rfl rfl qKA) λq hq ds hd=>by
  obtain ⟨x,hx⟩:=qLn hd;exact ⟨x,hx.up O⟩
 have z1:a=.slice Ag ng cg:=ud e1;have z2:b=.slice Af nf cf:=ud e2;subst z1;subst z2;exact ⟨⟨lg,lf⟩,Ag,Af,ng,cg,nf,cf,rfl,w1,w2⟩
end
section
variable{H:Type}{enc:TypeId×Value->H}{d:DataW H}
def qLp{t:TypeId}(hd:DataW.Trod enc prog W 0 (λ_=>true) true t v d ps):Rd W t v.cells.toList:=by
 obtain ⟨n,h⟩:=hd;exact ⟨H,enc,n,_,h⟩
def qG2{t:TypeId}(ht:prog.underlying t=some (.struct fs))(hv:Value.okWide prog W .any base t v):∃ cs,v=.agg cs:=by
 unfold Value.okWide at hv;rw [ht] at hv;obtain ⟨cs,h,_⟩:=hv;exact ⟨cs,h⟩
def qBo(hv:Value.okWide prog W .any base 25 v)(hd:DataW.Trod enc prog W 0 (λ_=>true) true 25 v d ps):∃ (m:Nat) (p:jc) (Ag Af:iE) (ng cg nf cf:Nat),v=.agg #[.slice Ag ng cg,.slice Af nf cf]/\ja W Ag ng cg p.o/\jl m W Af nf cf p.funcs:=by
 obtain ⟨cs,rfl⟩:=qG2 underlying25 hv;obtain ⟨n,h⟩:=hd;obtain ⟨p,Ag,Af,ng,cg,nf,cf,h1,h2,h3⟩:=qII (n:=n) ⟨H,enc,_,h⟩;refine ⟨n,p,Ag,Af,ng,cg,nf,cf,?_,h2,h3⟩;simp only [Value.cells] at h1;rw [<- h1]
end
def qzC{nm:String}{g:Nat}{cs:Array Value}(hg:prog.globalNamed nm=some g)(h:W.var? prog nm=some cs):∃ ty fz,W.heap[g]?=some (.cells cs ty fz):=by
  unfold World.var? at h;rw [hg] at h;simp only [gJ] at h;split at h
  . rename_i c t f hb
    injection h with h;subst h;exact ⟨t,f,hb⟩
  . cases h
def qsZ(u:TypeId)(hu:prog.typeName? 3 u=prog.typeName? 3 388):u=388:=
 have hn:prog.typeName? 3 388=some ("*" ++ "errors.errorString"):=V
 typeName_ptr_named (nm := "errors.errorString") V V Dc u (hu.trans hn)
def qK3(h:laidMetH prog Rows.compileSimplifiedProgramsAgreeRow.laid W):GP W:=by
 rw [gp _ _ _ V] at h;have h2:=h.tail.tail;have hpow:=Lib.tabIs_of_head (zs:=Lib.pow10Tab) (k:=.u64) (g:=2) V V underlying346 underlying263 V V h2;have h4:=h2.tail.tail;obtain ⟨a1,s1,xN,_⟩:=laid_sentinel (g:=9) h4 V V underlying195 (λu hu=>qsZ u (hu.trans V)) underlying388 underlying390 rfl rfl underlying9 V V;obtain ⟨a2,s2,vv,_⟩:=laid_sentinel (g:=8) h4.tail V V underlying195 (λu hu=>qsZ u (hu.trans V)) underlying388 underlying390 rfl rfl underlying9 V V;have hasc:=Lib.tabIs_of_head (zs:=Lib.asciiSpaceTab) (k:=.u8) (g:=0) V V underlying338 underlying5 V V h4.tail.tail.tail;refine ⟨⟨?_,?_,?_⟩,qzC (g:=0) V hasc⟩
 . exact qzC (g:=2) V hpow
 . exact ⟨_,_,World.var?_cell (g:=8) V vv 0⟩
 . exact ⟨_,_,World.var?_cell (g:=9) V xN 0⟩
set_option maxRecDepth 100000
section
variable{H:Type}{enc:TypeId×Value->H}{d:DataW H}{cs:iz}
def QX:prog.cellsOf 5=1:=by kernel_rfl
def qwc(h:Rd W 26 cs):∃ A n c l,cs=[.slice A n c]/\lP W A n c l:=PN underlying26 QX Dc h λ_ hd=>by
 obtain ⟨n,h1,h2⟩:=DL underlying5 hd;have:=bounds_u8 h2;refine ⟨UInt8.ofNat n.toNat,h1.trans ?_⟩;have e:((UInt8.ofNat n.toNat).toNat:Int)=n:=by simp [eW];omega
 rw [e]
def qBI{t e:TypeId}(ht:prog.underlying t=some (.slice e))(hv:Value.okWide prog W .any base t v):v.cells.toList=[v]:=by
 unfold Value.okWide at hv;rw [ht] at hv;simp only [Cell.okWide] at hv;cases v<;>simp_all [Value.cells,Cell.ok]
def qqI(hv:Value.okWide prog W .any base 26 v)(hd:DataW.Trod enc prog W 0 (λ_=>true) true 26 v d ps):∃ A n c l,v=.slice A n c/\lP W A n c l:=by
 obtain ⟨A,n,c,l,h1,h2⟩:=qwc (qLp hd);rw [qBI underlying26 hv] at h1;exact ⟨A,n,c,l,ud h1,h2⟩
end
end
end Go.Proofs.YtemgonlhniicbaaGreatDoor
