/- Part 6. -/
import Derived.Test.YtemgonlhniicbaaGreatDoorQ42z5
import Derived.RangeFuncCalls
set_option linter.unusedSectionVars false
set_option linter.unusedVariables false
set_option linter.defProp false
set_option linter.unusedSimpArgs false
set_option linter.unnecessarySimpa false
set_option maxRecDepth 100000
set_option maxHeartbeats 8000000
namespace Go.Proofs.YtemgonlhniicbaaGreatDoor
open Go Go.RowKit Go.Proofs.Tryz
def dv:=@List.filterMap_append
def dI:=@List.mem_mapIdx
def dJ:=@Iff.rfl
def ey:=@List.cons.inj
def eF:=@Decidable.not_not
def eG:=@Classical.not_not
def fh:=@List.contains_iff_mem
def ft:=@wpIn_mono
def fy:=@Oper.semAt_eq
def gz:=@Int.le_refl
def ib:=@Option.none_or
def ii:=@Classical.em
def ij:=@callsIn_wide
variable{ds:List Deferred}{P:Program}{s s0 s':World}{ro dst:Option Nat}{af:Array Edge}{x y:Operand}{L L' K M:Hl}{p:jc}{iL:String}{D n d k ty b j i jd bm e lp q1 q2 q3 o ng cg nf cf t' n1 n2 n3 m off ck:Nat}{iI l:List Oper}{T:List (iH×(Int×Int))}{ts:Array TypeId}{v nv vl zv z:Value}{rs:List ResultVar}{c:Code}{A A1 Ag Af A2 A3:iE}{ls ws:List iH}{xs:List Operand}{es:List (iH×Value×Nat)}{ti te:TI}{zs vs R:iz}{a kd:Int}{nm:iH}{os:List Nat}{dk:TypeDesc}{ps:List (Nat×Operand)}{nd:Nd}{ik k':IntKind}{az:List Ex}{fn:Func}
section
attribute [local irreducible] JC JO JA JB ma mO mX AC fill iy QE Ev my
variable{x:iM}
def Ds(h:(j7 p x nm).2=true):((j7 p x nm).1.1=1\/(j7 p x nm).1.1=2)\/((j7 p x nm).1.1=3/\∃ k:Nat,(j7 p x nm).1.2=(k:Int)/\k < p.o.length)\/((j7 p x nm).1.1=4/\∃ k:Nat,(j7 p x nm).1.2=(k:Int)/\k < p.funcs.length):=by
  unfold j7 at h ⊢;split
  . exact .inl (.inl rfl)
  split
  . exact .inl (.inr rfl)
  rename_i h1 h2;rw [ak h1,ak h2] at h;cases hf:(jY p).find? λe=>decide (e.1=nm) with
  | none=>rw [hf] at h;cases h
  | some e=>
    have hm:=cJ hf;rw [jY,aS] at hm;rcases hm with hm|hm
    . obtain ⟨i,hi⟩:=bh hm
      rw [da] at hi;cases hg:p.o[i]? with
      | none=>rw [hg] at hi;cases hi
      | some g=>rw [hg] at hi;simp at hi;subst hi;exact .inr (.inl ⟨rfl,i,rfl,(al.1 hg).1⟩)
    . obtain ⟨i,hi⟩:=bh hm
      rw [da] at hi;cases hg:p.funcs[i]? with
      | none=>rw [hg] at hi;cases hi
      | some g=>rw [hg] at hi;simp at hi;subst hi;exact .inr (.inr ⟨rfl,i,rfl,(al.1 hg).1⟩)
def EX(p:jc)(i:Int):Nat:=match p.funcs[i.toNat]? with
 | some x=>x.params.length
 | none=>0
def Gq{i:Int}(hi:i=(k:Int))(h:p.funcs[k]?=some x):EX p i=x.params.length:=by rw [hi,EX,aD,h]
def pf(p:jc)(x:iM)(u:Dm):Int:=if u.2.1=0 then 0 else if (j7 p x u.1).2=false then 12 else if ¬ uX (zK p (j7 p x u.1).1.2) u.2.1 (j7 p x u.1).1.1 then 13 else if u.2.1=4/\u.2.2≠(EX p (j7 p x u.1).1.2:Int) then 9 else 0
def jJ(p:jc)(x:iM):Nd->Int
 | .st y lp=>if (y.kind=9\/y.kind=10)/\lp=0 then 24 else pf p x (o6 y)
 | .ex y _=>pf p x (oS y)
def SC{p:Prop} (h:p:=by
 exact ⟨by rw [jJ,ak g33,hE];rfl,rfl⟩):p:=h
def Rz{p:Prop} (h:p:=by
 refine G8 ?_;exact rX [_,_,_,_,_] L Z Lc λ_ iD=>SC):p:=h
def Xt{p:Prop} (h:p:=by
 refine G9 ?_;exact rX [_,_,_,_,_] L Z Lc λ_ iD=>SC):p:=h
def qBL(jF:ja s Ag ng cg p.o)(jX:jl d s Af nf cf p.funcs)(hM:oJ s bm p)(qp:iO s A1 n1 q1 x.params)(j5:iO s A2 n2 q2 x.locals){y:iP}{C1 C2 C3:iE}{r1 e1 r2 e2 r3 e3:Nat}(hy:iy s b o [iB y.kind,St y.name,.slice C1 r1 e1,.slice C2 r2 e2,.slice C3 r3 e3])(hr:r1=y.exprs.length):jT D 58 [.agg #[.slice Ag ng cg,.slice Af nf cf,.map (some bm)],.agg #[St x.name,.slice A1 n1 q1,.slice A2 n2 q2,.slice A3 n3 q3],.agg #[.pointer (some ⟨b,o,none⟩),.pointer none,iB (lp:Int)]] L s (iB (jJ p x (.st y lp))):=by
 have l7:=jF.1;have oW:=jX.1;refine jn (fn:=f58) jb func58 V Z ntmps58 Z (rs:=[.tmp 6]) Z [(0,_),(1,_),(2,_)] Z<|Sr<|kF Y2 λβ1 s1 h1=>kF Y2 λβ2 s2 h2=>kF Y2 λβ3 s3 h3=>lw ?_;refine rW 33 ((y.kind=9\/y.kind=10)/\lp=0) ?_ ?_
 .refine Zr<|kb Y2<|iA (kK (v':=.bool true) (O3 underlying143 Z) Z) Z<|G8 ?_;refine iA (jS Y3 Pz Z) Z<|G4 ?_;refine ld (t:=21) Z ?_ ?_<;>intro c5;.refine Cw ?_;refine iU (kB.mk (Lr D) Sb Z (bK.2 O))
  refine G7 ?_;refine iA (jS Y3 Pz Z) Z<|G6 ?_;refine ld (t:=29) Z ?_ ?_<;>intro c6;.refine G8 ?_;refine iU (kB.mk (Lr D) Sb Z (bK.2 O))
  refine G5 ?_;refine iU (kB.mk (Lr D) Sb Z ((bR O).symm))
 intro s4 h4;refine mG Z ?_ ?_<;>intro c7;.have g33:=c7;refine G7 ?_;exact rX [_,_,_] L Z Lc λ_ iD=>⟨by rw [jJ,au g33];rfl,rfl⟩
 have g33:=c7;refine Zk<|Zt<|Sr<|iA (iZ 0 [_,_,_] Y5) Z<|Je Y3 (ZN y C1 C2 C3 r1 e1 r2 e2 r3 e3 Pz hr) λs8 h8=>jh Z [_,_,_] Y2 λd9 s9 h9=>Wt 0 [_,_,_] Y9<|tQ ?_ ?_<;>intro mz;.have hE:pf p x (o6 y)=0:=au mz;refine G7 ?_;exact rX [_,_,_,_] L Z Lc λ_ iD=>SC
 have AW:¬ (o6 y).2.1=0:=mz;refine Zk<|Zt<|Sr<|iA (iZ 3 [_,_,_] Y5) Z<|iA (iZ 2 [_,_,_,_] Y5) Z<|G2 ?_;refine Je Y3 (Gm p Pz Pz Pz) λkz jM=>G3 ?_;refine jh Z [_,_] Y2 λb12 kh jE=>Wt 0 [_,_] Y9<|mY ?_;refine vZ Z ?_ ?_<;>intro pZ;.have hE:pf p x (o6 y)=12:=(ak AW).trans (au pZ);exact Rz
 have g47:¬ (j7 p x (o6 y).1).2=false:=by rw [pZ];decide
 have Bl:=Ds pZ;refine Sr<|iA (iZ 4 [_,_,_] Y5) Z<|iA (iZ 1 [_,_,_] Y5) Z<|iA (iZ 0 [_,_] Y5) Z<|Je Y3 (qsM p Pz (λh1 h2=>Bl.elim (λh=>absurd h h1) (λh=>h.elim (λh=>by obtain ⟨k,e1,e2⟩:=h.2;exact ⟨k,e1,O⟩) (λh=>absurd h.1 h2)))) λlG kI=>G4 ?_;refine lL Z ?_ ?_<;>intro vJ;.have hE:pf p x (o6 y)=13:=(ak AW).trans ((ak g47).trans (au vJ));exact Rz
 have g50:¬ ¬ uX (zK p (j7 p x (o6 y).1).1.2) (o6 y).2.1 (j7 p x (o6 y).1).1.1:=λh=>h vJ;have g51:=vJ;refine Zs ?_;rcases ii ((o6 y).2.1=4) with g4|g4
 .obtain ⟨hk4,j,hj,qw⟩:=Bl.elim (λh=>absurd g51 (λk=>O)) (λh=>h.elim (λh=>absurd g51 (λk=>O)) id);obtain ⟨b,off,z,B1,m1,d1,B2,m2,d2,B3,m3,d3,rfl,hz,hcz,hpz,hlz,hbz,hzl⟩:=jl.at_ Pz (show j < nf by omega);have hm9:=hpz.1;have hpar:=Gq hj hz;refine mr jt 18 Z _ (λ_ h=>h) λsB tu=>H2 ?_;refine X38 ?_;refine zg 11 Z ⟨_,Z,Z⟩ (jK (j:=j) ⟨Z,(show lk _ _=some (iB (j:Int)) from by rw [<- hj];rfl),Z,Z,Z,Z⟩ (show j < nf by omega)) Z ?_;refine H1 ?_;refine zg 13 Z ⟨_,Z,Z⟩ (nK 1 Y3 Pz Z) Z<|H1 ?_;refine zg 15 Z ⟨_,Z,Z⟩ (rD Z Z) Z<|H2 ?_;refine ji V<|Zt ?_;refine lL Z ?_ ?_<;>intro yY;.have hE:pf p x (o6 y)=9:=(ak AW).trans ((ak g47).trans ((ak g50).trans (au ⟨g4,by rw [hpar];have:=yY;omega⟩)));exact Rz
  have hE:pf p x (o6 y)=0:=(ak AW).trans ((ak g47).trans ((ak g50).trans (ak (λh=>h.2 (by rw [hpar];have:=yY;omega)))));exact Xt
 refine mr jt 18 Z _ (λ_ h=>h) λsB tu=>H2 ?_;refine X29 ?_;have hE:pf p x (o6 y)=0:=(ak AW).trans ((ak g47).trans ((ak g50).trans (ak (λh=>g4 h.1))));exact Xt
def SD{p:Prop} (h:p:=by
 exact ⟨by rw [jJ,hE];rfl,rfl⟩):p:=h
def RA{p:Prop} (h:p:=by
 refine G8 ?_;exact rX [_,_,_,_,_] L Z Lc λ_ iD=>SD):p:=h
def Xu{p:Prop} (h:p:=by
 refine G9 ?_;exact rX [_,_,_,_,_] L Z Lc λ_ iD=>SD):p:=h
def qBK(jF:ja s Ag ng cg p.o)(jX:jl d s Af nf cf p.funcs)(hM:oJ s bm p)(qp:iO s A1 n1 q1 x.params)(j5:iO s A2 n2 q2 x.locals){y:Ex}{c:Nat}(hy:iy s b o [iB y.kind,iB y.op,iJ y.num,St y.name,.slice A n c])(hr:n=y.args.length):jT D 58 [.agg #[.slice Ag ng cg,.slice Af nf cf,.map (some bm)],.agg #[St x.name,.slice A1 n1 q1,.slice A2 n2 q2,.slice A3 n3 q3],.agg #[.pointer none,.pointer (some ⟨b,o,none⟩),iB (lp:Int)]] L s (iB (jJ p x (.ex y lp))):=by
 have l7:=jF.1;have oW:=jX.1;refine jn (fn:=f58) jb func58 V Z ntmps58 Z (rs:=[.tmp 6]) Z [(0,_),(1,_),(2,_)] Z<|Sr<|kF Y2 λβ1 s1 h1=>kF Y2 λβ2 s2 h2=>kF Y2 λβ3 s3 h3=>rH ?_;refine iA (kK (v':=.bool false) (O3 underlying143 Z) Z) Z<|G26 ?_;refine iA (iZ 0 [_,_,_] Y5) Z<|Je Y3 (ZM y A n c Pz hr) λs4 h4=>jh Z [_,_,_] Y2 λt5 s5 h5=>Wt 0 [_,_,_] Y9<|tQ ?_ ?_<;>intro c6;.have hE:pf p x (oS y)=0:=au c6;refine G7 ?_;exact rX [_,_,_,_] L Z Lc λ_ iD=>SD
 have AW:¬ (oS y).2.1=0:=c6;refine Zk<|Zt<|Sr<|iA (iZ 3 [_,_,_] Y5) Z<|iA (iZ 2 [_,_,_,_] Y5) Z<|G2 ?_;refine Je Y3 (Gm p Pz Pz Pz) λs7 h7=>G3 ?_;refine jh Z [_,_] Y2 λt8 s8 h8=>Wt 0 [_,_] Y9<|mY ?_;refine vZ Z ?_ ?_<;>intro c9;.have hE:pf p x (oS y)=12:=(ak AW).trans (au c9);exact RA
 have g47:¬ (j7 p x (oS y).1).2=false:=by rw [c9];decide
 have Bl:=Ds c9;refine Sr<|iA (iZ 4 [_,_,_] Y5) Z<|iA (iZ 1 [_,_,_] Y5) Z<|iA (iZ 0 [_,_] Y5) Z<|Je Y3 (qsM p Pz (λh1 h2=>Bl.elim (λh=>absurd h h1) (λh=>h.elim (λh=>by obtain ⟨k,e1,e2⟩:=h.2;exact ⟨k,e1,O⟩) (λh=>absurd h.1 h2)))) λkH jG=>G4 ?_;refine lL Z ?_ ?_<;>intro nZ;.have hE:pf p x (oS y)=13:=(ak AW).trans ((ak g47).trans (au nZ));exact RA
 have g50:¬ ¬ uX (zK p (j7 p x (oS y).1).1.2) (oS y).2.1 (j7 p x (oS y).1).1.1:=λh=>h nZ;have g51:=nZ;refine Zs ?_;rcases ii ((oS y).2.1=4) with g4|g4
 .obtain ⟨hk4,j,hj,qw⟩:=Bl.elim (λh=>absurd g51 (λk=>O)) (λh=>h.elim (λh=>absurd g51 (λk=>O)) id);obtain ⟨b,off,z,B1,m1,d1,B2,m2,d2,B3,m3,d3,rfl,hz,hcz,hpz,hlz,hbz,hzl⟩:=jl.at_ Pz (show j < nf by omega);have hm9:=hpz.1;have hpar:=Gq hj hz;refine mr jt 18 Z _ (λ_ h=>h) λkh jE=>H2 ?_;refine X38 ?_;refine zg 11 Z ⟨_,Z,Z⟩ (jK (j:=j) ⟨Z,(show lk _ _=some (iB (j:Int)) from by rw [<- hj];rfl),Z,Z,Z,Z⟩ (show j < nf by omega)) Z ?_;refine H1 ?_;refine zg 13 Z ⟨_,Z,Z⟩ (nK 1 Y3 Pz Z) Z<|H1 ?_;refine zg 15 Z ⟨_,Z,Z⟩ (rD Z Z) Z<|H2 ?_;refine ji V<|Zt ?_;refine lL Z ?_ ?_<;>intro pZ;.have hE:pf p x (oS y)=9:=(ak AW).trans ((ak g47).trans ((ak g50).trans (au ⟨g4,by rw [hpar];have:=pZ;omega⟩)));exact RA
  have hE:pf p x (oS y)=0:=(ak AW).trans ((ak g47).trans ((ak g50).trans (ak (λh=>h.2 (by rw [hpar];have:=pZ;omega)))));exact Xu
 refine mr jt 18 Z _ (λ_ h=>h) λkh jE=>H2 ?_;refine X29 ?_;have hE:pf p x (oS y)=0:=(ak AW).trans ((ak g47).trans ((ak g50).trans (ak (λh=>g4 h.1))));exact Xu
end
section
variable{t:Nat}{c:Operand}{b:Bool}
def Do(ro:Option Nat):Fence:={ Fence.wide with round:=ro }
def TB{f:FuncId}{args:Array Value}{w:World}{R:Ending->World->Prop}(ro:Option Nat)(h:Calls P f args w R):CallsIn (Do ro) n P f args w R:=by
 cases ro with
 | none=>exact ij.2 h
 | some l=>exact CallsIn.inRound l (ij.2 h)
def NX(ro:Option Nat)(n:Nat):(Do ro).depth.isSome=true->1<=n:=λh=>by cases h
def DF(ro:Option Nat)(f:FuncId):(Do ro).fn f:=trivial
structure vG(ds:List Deferred)(n:Nat)(a:Act)(fr:Fr):Prop where
 rel:jr n { a with defers:=[] } fr
 defers:a.defers=ds
def vG.ev{a:Act}{fr:Fr}(h:vG ds n a fr)(hx:lk fr x=some v):a.eval x=v:=h.rel.ev hx
def vG.put{a:Act}{fr:Fr}(h:vG ds n a fr)(hd:Nat.blt d n=true)(v:Value):vG ds n (a.put (some d) v) ((d,v)::fr):=
 ⟨h.rel.put hd v,h.defers⟩
def vG.sub{a:Act}{fr l:Fr}(h:vG ds n a fr)(hs:iY fr l):vG ds n a l:=⟨h.rel.sub hs,h.defers⟩
abbrev w7:=Exit->List Deferred->Fr->Hl->World->Prop
def YN(D n:Nat)(Q:w7):Exit->Act->World->Prop:=λe a w=>∃ ds fr L s,vG ds n a fr/\jQ D L s/\w=fill L s/\Q e ds fr L s
def RC(P:Program)(TT:kD)(D n:Nat)(ro:Option Nat)(Q:w7)(c:Code)(ds:List Deferred)(fr:Fr)(L:Hl)(s:World):Prop:=
 jV P TT->∀ a,vG ds n a fr->jQ D L s->c.wpIn (Do ro) 0 P (YN D n Q) a (fill L s)
def RO(P:Program)(TT:kD)(D n:Nat)(ro:Option Nat)(ops:Array Oper)(Q:w7)(l:List Oper)(ds:List Deferred)(fr:Fr)(L:Hl)(s:World):Prop:=
 jV P TT->∀ a,vG ds n a fr->jQ D L s->wpListIn (Do ro) 0 P ops (YN D n Q) l a (fill L s)
section control
variable{TT:kD}{Q:w7}{fr:Fr}
def Fx(J:List Deferred->Fr->Hl->World->Prop)(Q:w7):w7
 | .normal,ds,fr,L,s=>J ds fr L s
 | e,ds,fr,L,s=>Q e ds fr L s
def Fj(id:Nat)(Q:w7):w7
 | .exit i,ds,fr,L,s=>if i=id then Q .normal ds fr L s else Q (.exit i) ds fr L s
 | e,ds,fr,L,s=>Q e ds fr L s
def qAV(h:Q .normal ds fr L s):RC P TT D n ro Q .skip ds fr L s:=λ_ _ hr ho=>wpIn_skip ⟨ds,fr,L,s,hr,ho,rfl,h⟩
def qAT{id:Nat}(h:Q (.exit id) ds fr L s):RC P TT D n ro Q (.exit id) ds fr L s:=λ_ _ hr ho=>wpIn_exit ⟨ds,fr,L,s,hr,ho,rfl,h⟩
def qGM(h:Q .ret ds fr L s):RC P TT D n ro Q .ret ds fr L s:=λ_ _ hr ho=>wpIn_ret ⟨ds,fr,L,s,hr,ho,rfl,h⟩
def qGN{x y:Code}(h:RC P TT D n ro (Fx (RC P TT D n ro Q y) Q) x ds fr L s):RC P TT D n ro Q (.seq x y) ds fr L s:=λht a hr ho=>
 wpIn_seq (ft (h ht a hr ho) λe a w ⟨xz,jN,L',s',h1,h2,h3,h4⟩=>by
  cases e with
  | normal=>subst h3;exact h4 ht a h1 h2
  | _=>exact ⟨xz,jN,L',s',h1,h2,h3,h4⟩)
def qud{id:Nat}{c:Code}(h:RC P TT D n ro (Fj id Q) c ds fr L s):RC P TT D n ro Q (.block id c) ds fr L s:=λht a hr ho=>
 wpIn_block (ft (h ht a hr ho) λe a w ⟨xz,jN,L',s',h1,h2,h3,h4⟩=>by
  cases e with
  | exit i=>
   simp only [Fj] at h4;simp only [Exit.inBlock];by_cases hi:i=id
   . simp only [hi,bV] at h4 ⊢;exact ⟨xz,jN,L',s',h1,h2,h3,h4⟩
   . simp only [hi,bY] at h4 ⊢;exact ⟨xz,jN,L',s',h1,h2,h3,h4⟩
  | _=>exact ⟨xz,jN,L',s',h1,h2,h3,h4⟩)
def PD{x y:Code}(hc:lk fr c=some (.bool b))(h1:b=true->RC P TT D n ro Q x ds fr L s)(h2:b=false->RC P TT D n ro Q y ds fr L s):RC P TT D n ro Q (.cond c x y) ds fr L s:=
 λht a hr ho=>wpIn_cond_split (hr.ev hc) (λhb=>h1 hb ht a hr ho) (λhb=>h2 hb ht a hr ho)
def KR{x y:Code}{p:Prop}[Decidable p](hc:lk fr c=some (.bool (decide p)))(h1:p->RC P TT D n ro Q x ds fr L s)(h2:¬ p->RC P TT D n ro Q y ds fr L s):RC P TT D n ro Q (.cond c x y) ds fr L s:=
 PD hc (λhb=>h1 (cV hb)) (λhb=>h2 (dw hb))
def O5{x y:Code}{p:Prop}[Decidable p](hc:lk fr c=some (.bool (!decide p)))(h1:¬ p->RC P TT D n ro Q x ds fr L s)(h2:p->RC P TT D n ro Q y ds fr L s):RC P TT D n ro Q (.cond c x y) ds fr L s:=
 PD hc (λhb=>h1 Q11) (λhb=>h2 Q11)
def US{x y:Code}(hc:lk fr c=some (.bool (!b)))(h1:b=false->RC P TT D n ro Q x ds fr L s)(h2:b=true->RC P TT D n ro Q y ds fr L s):RC P TT D n ro Q (.cond c x y) ds fr L s:=
 PD hc (λhb=>h1 Q11) (λhb=>h2 Q11)
def qGL{c:Operand}{x y:Code}(hc:lk fr c=some (.bool true))(h1:RC P TT D n ro Q x ds fr L s):RC P TT D n ro Q (.cond c x y) ds fr L s:=
 PD hc (λ_=>h1) (λhb=>by cases hb)
def qqx{id:Nat}(h:RO P TT D n ro l.toArray Q l ds fr L s):RC P TT D n ro Q (.region id l.toArray false) ds fr L s:=
 λht a hr ho=>wpIn_region_lit (h ht a hr ho)
def qGP{ops:Array Oper}(h:Q .normal ds fr L s):RO P TT D n ro ops Q [] ds fr L s:=λ_ _ hr ho=>⟨ds,fr,L,s,hr,ho,rfl,h⟩
def qqw{γ:Type}{c:Code}(S:γ->Fr)(H:γ->Hl)(I:γ->World->Prop)(μ:γ->Nat)(mono:∀ g s s',I g s->Le D s s'->I g s')(g0:γ)
  (hS:iY fr (S g0)) (hL:L=H g0) (hI:I g0 s)
  (round:∀ g s,I g s->RC P TT D n ro (Fx (λxz jN L' s'=>xz=ds/\∃ g' A,iY jN (S g')/\L'=A++H g'/\I g' s'/\μ g' < μ g) Q) c ds (S g) (H g) s) :
  RC P TT D n ro Q (.loop c) ds fr L s:=λht a hr ho=>by
 refine wpIn_loop_ghost (λm a w=>∃ g s,μ g=m/\vG ds n a (S g)/\jQ D (H g) s/\w=fill (H g) s/\I g s) (μ g0) ⟨g0,s,Z,hr.sub hS,hL▸ho,hL▸Z,hI⟩ ?_;rintro m a w ⟨g,s,rfl,h1,h2,rfl,h4⟩;refine ft (round g s h4 ht a h1 h2) ?_;rintro e a' w' ⟨xz,jN,L',s',k1,k2,rfl,k4⟩;cases e with
 | normal=>
  obtain ⟨rfl,g',A,j1,rfl,j3,j4⟩:=k4;exact RD
 | _=>exact ⟨xz,jN,L',s',k1,k2,rfl,k4⟩
def quf{γ:Type}{c:Code}(S:γ->Fr)(H:γ->Hl)(E:γ->List Deferred)(I:γ->World->Prop)(μ:γ->Nat)(mono:∀ g s s',I g s->Le D s s'->I g s')(g0:γ)
  (hS:iY fr (S g0)) (hL:L=H g0) (hE:ds=E g0) (hI:I g0 s)
  (round:∀ g s,I g s->RC P TT D n ro (Fx (λxz jN L' s'=>∃ g' A,xz=E g'/\iY jN (S g')/\L'=A++H g'/\I g' s'/\μ g' < μ g) Q) c (E g) (S g) (H g) s) :
  RC P TT D n ro Q (.loop c) ds fr L s:=λht a hr ho=>by
 subst hE;refine wpIn_loop_ghost (λm a w=>∃ g s,μ g=m/\vG (E g) n a (S g)/\jQ D (H g) s/\w=fill (H g) s/\I g s) (μ g0) ⟨g0,s,Z,hr.sub hS,hL▸ho,hL▸Z,hI⟩ ?_;rintro m a w ⟨g,s,rfl,h1,h2,rfl,h4⟩;refine ft (round g s h4 ht a h1 h2) ?_;rintro e a' w' ⟨xz,jN,L',s',k1,k2,rfl,k4⟩;cases e with
 | normal=>
  obtain ⟨g',A,rfl,j1,rfl,j3,j4⟩:=k4;exact RD
 | _=>exact ⟨xz,jN,L',s',k1,k2,rfl,k4⟩
def OD{J:List Deferred->Fr->Hl->World->Prop}(h:J ds fr L s):Fx J Q .normal ds fr L s:=h
def qDD{J:List Deferred->Fr->Hl->World->Prop}(h:Q .ret ds fr L s):Fx J Q .ret ds fr L s:=h
def qDE{J:List Deferred->Fr->Hl->World->Prop}(h:Q (.exit i) ds fr L s):Fx J Q (.exit i) ds fr L s:=h
def quF{id:Nat}(h:Q .normal ds fr L s):Fj id Q .normal ds fr L s:=h
def quG{id:Nat}(h:Q .ret ds fr L s):Fj id Q .ret ds fr L s:=h
def quH{id:Nat}(h:Q .normal ds fr L s):Fj id Q (.exit id) ds fr L s:=by simpa [Fj] using h
end control
section ops
variable{TT:kD}{Q:w7}{fr:Fr}{ops:Array Oper}{op:Op}
def La(kO:∀ c,op≠.defer c)(hd:Nat.blt d n=true)(h:Ev P TT D fr op ty L s (.value v) L' s')(k:RO P TT D n ro ops Q iI ds ((d,v)::fr) L' s'):
  RO P TT D n ro ops Q (⟨some d,op,ty,iL,af,none⟩::iI) ds fr L s:=λht a hr ho=>by
 obtain ⟨h1,h2⟩:=h ht ho (some d) iL af none a.eval (λx v hx=>hr.ev hx);simp only [wpListIn,Region.wanted,bV];refine ⟨λf _=>DF ro f,?_⟩;rw [fy _ _ _ kO,h1,Oper.uponIn_value];exact k ht _ (hr.put hd v) h2
def qKf(kO:∀ c,op≠.defer c)(h:Ev P TT D fr op ty L s .skip L' s')(k:RO P TT D n ro ops Q iI ds fr L' s'):
  RO P TT D n ro ops Q (⟨none,op,ty,iL,af,none⟩::iI) ds fr L s:=λht a hr ho=>by
 obtain ⟨h1,h2⟩:=h ht ho none iL af none a.eval (λx v hx=>hr.ev hx);simp only [wpListIn,Region.wanted,bV];refine ⟨λf _=>DF ro f,?_⟩;rw [fy _ _ _ kO,h1,Oper.uponIn_skip];exact k ht _ hr h2
def lU(h:QE P TT D fr op ty L s v)(hd:Nat.blt d n=true)(k:RO P TT D n ro ops Q iI ds ((d,v)::fr) L s)(kO:∀ c,op≠.defer c:=by nofun):RO P TT D n ro ops Q (⟨some d,op,ty,iL,af,none⟩::iI) ds fr L s:=
 La kO hd (λht ho dst iL af g ρ hρ=>⟨h ht dst iL af g ρ hρ L s ho (Le.refl _) (λ_ hx=>hx),ho⟩) k
def qAW{f:FuncId}{first captured:iz}{R:Value->Hl->World->Prop}(hx:lk fr x=some (.func (.func f) first.toArray captured.toArray))(hv:qY fr xs=some vs)
  (hd:Nat.blt d n=true) (h:AC P D f (first++vs++captured) L s R) (k:∀ v L' s',Le D s s'->R v L' s'->RO P TT D n ro ops Q iI ds ((d,v)::fr) L' s') :
  RO P TT D n ro ops Q (⟨some d,.call { callee:=.value x,args:=xs.toArray,argTypes:=ts },ty,iL,af,none⟩::iI) ds fr L s:=λhT a hr ho=>by
 obtain ⟨⟨fn,h1,h2,h3⟩,hc⟩:=h;have hρ:∀ x v,lk fr x=some v->a.eval x=v:=λx v hx=>hr.ev hx;simp only [wpListIn,Region.wanted,bV];refine ⟨λf _=>DF ro f,?_⟩;have jH:(execOp a.eval ⟨some d,.call { callee:=.value x,args:=xs.toArray,argTypes:=ts },ty,iL,af,none⟩).run P (fill L s)=.ok (.enter f (first++vs++captured).toArray) (fill L s):=by
  exact ET
 rw [fy _ _ _ (by nofun),jH,Oper.uponIn_enter];refine ⟨NX ro 0,(TB ro (hc ho)).mono ?_⟩;exact RJ
def vh{f:FuncId}{R:Value->Hl->World->Prop}(hY:(lk fr x=some (.func (.func f) ([]:iz).toArray ([]:iz).toArray))/\qY fr xs=some vs/\Nat.blt d n=true) (h:AC P D f (([]:iz)++vs++[]) L s R) (k:∀ v L' s',Le D s s'->R v L' s'->RO P TT D n ro ops Q iI ds ((d,v)::fr) L' s') :
  RO P TT D n ro ops Q (⟨some d,.call { callee:=.value x,args:=xs.toArray,argTypes:=ts },ty,iL,af,none⟩::iI) ds fr L s:=have ⟨hx,hv,hd⟩:=hY;qAW (first:=[]) (captured:=[]) hx hv hd h k
def YC(P:Program)(D:Nat)(l:Nat)(args:iz)(L:Hl)(s:World)(R:Value->Hl->World->Prop):Prop:=
 jQ D L s->∃ fn tmps assign body,(Instr.yield l args.toArray).run P (fill L s)=.ok (.round l fn tmps assign body) (fill L s) /\
  RoundIn Fence.wide 0 P l fn tmps assign body (fill L s) λe w'=>∃ v L' s',e=.returned v/\w'=fill L' s'/\jQ D L' s'/\Le D s s'/\R v L' s'
def qnB{l:Nat}{R:Value->Hl->World->Prop}(hx:lk fr x=some (.func (.yield l) #[] #[]))(hv:qY fr xs=some vs)
  (hd:Nat.blt d n=true) (h:YC P D l vs L s R) (k:∀ v L' s',Le D s s'->R v L' s'->RO P TT D n none ops Q iI ds ((d,v)::fr) L' s') :
  RO P TT D n none ops Q (⟨some d,.call { callee:=.value x,args:=xs.toArray,argTypes:=ts },ty,iL,af,none⟩::iI) ds fr L s:=λhT a hr ho=>by
 obtain ⟨fn,tmps,assign,body,hy,hR⟩:=h ho;have hρ:∀ x v,lk fr x=some v->a.eval x=v:=λx v hx=>hr.ev hx;simp only [wpListIn,Region.wanted,bV];refine ⟨λf _=>DF none f,?_⟩;have jH:(execOp a.eval ⟨some d,.call { callee:=.value x,args:=xs.toArray,argTypes:=ts },ty,iL,af,none⟩).run P (fill L s)=.ok (.round l fn tmps assign body) (fill L s):=by
  simp [execOp,resolve,Deferred.ofValue,invoke,hρ x _ hx,Ug hρ hv,hy]
 rw [fy _ _ _ (by nofun),jH,Oper.uponIn_round];refine ⟨NX none 0,RoundIn.mono hR ?_⟩;exact RJ
def qug{t:Nat}(ht:jz TT t=some ti)(hd:Nat.blt d n=true)
  (k:∀ β s',Le D s s'->RO P TT D n ro ops Q iI ds ((d,iT β)::fr) ((β,cb ti.J t)::L) s'):RO P TT D n ro ops Q (⟨some d,.alloc t,ty,iL,af,none⟩::iI) ds fr L s:=λhT a hr ho=>
 La (by nofun) hd (Oc ht ho) (k _ _ (qB ho (cb ti.J t)).2.2) hT a hr ho
def BA{t:Nat}(ht:jz TT t=some ti)(zs:iz)(hz:ti.J=zs)(hd:Nat.blt d n=true)
  (k:∀ β s',Le D s s'->RO P TT D n ro ops Q iI ds ((d,iT β)::fr) ((β,cb zs t)::L) s'):RO P TT D n ro ops Q (⟨some d,.alloc t,ty,iL,af,none⟩::iI) ds fr L s:=by subst hz;exact qug ht hd k
def yC{t b:Nat}(i:Nat)(rG:iz)(hY:lk fr x=some (.pointer (some ⟨b,off,none⟩))/\lk fr y=some v/\L[i]?=some (b,cb zs t')/\jz TT t=some ti/\(nN v).length=ti.size/\Nat.ble (off+ti.size) zs.length=true/\(nN v).all (·.oneCell')=true/\pk zs off (nN v)=rG/\lV L i (cb rG t')=L')
  (k:RO P TT D n ro ops Q iI ds fr L' s):RO P TT D n ro ops Q (⟨none,.store t x y,ty,iL,af,none⟩::iI) ds fr L s:=by
 obtain ⟨hx,hy,hi,ht,hl,j9,h1,hs,hL⟩:=hY
 subst hL;exact qKf (by nofun) (Pq i rG hx hy hi ht hl j9 h1 hs) k
def qKc{t len:Nat}(lC:List (Nat×Value))(vs:iz)(ht:jz TT t=some ti)(hk:ti.kind=.sl e)(he:jz TT e=some te)(hv:Bq fr ps=some lC)(jp:Nat.ble (len * te.size) 16777216=true)(mM:Nat.blt 0 len=true)(hp:lC.all (λx=>Nat.blt x.1 len)=true)
  (hb:yb (zD te.size 0 len) (List.replicate len te.J).flatten lC=some vs) (hd:Nat.blt d n=true) (k:∀ β s',Le D s s'->iy s' β 0 vs->RO P TT D n ro ops Q iI ds ((d,.slice (jZ β) len len)::fr) L s') :
  RO P TT D n ro ops Q (⟨some d,.buildSlice t len ps.toArray,ty,iL,af,none⟩::iI) ds fr L s:=λhT a hr ho=>by
 obtain ⟨h1,h2,h3⟩:=qB ho (cb vs e);obtain ⟨d1,d2,d3⟩:=tI (A:=[(s.heap.size,cb vs e)]) (B:=L) h2;refine La (by nofun) (L':=L) (s':=fill [(s.heap.size,cb vs e)] (s.alloc (mJ D))) hd (λhT _ dst iL af g ρ hρ=>⟨?_,d2⟩) (k _ _ (h3.trans d3) (Kf h2)) hT a hr ho;exact Pm
def qGO{t c sz:Nat}{news xs:iz}(B A L0:Hl)(hL:L=B++(A++L0))(hx:lk fr x=some v)(hy:lk fr y=some (.slice A1 m c))(ht:jz TT t=some ti)(hk:ti.kind=.sl e)(he:jz TT e=some te)(jp:te.size=sz)
  (hO:Own e sz A v k xs) (hR:Row s A1 m sz news) (rK:(k+m) * te.bytes<=140737488355328/\k+m<=9223372036854775807) (hd:Nat.blt d n=true)
  (kk:∀ v' A' s',Le D s s'->Own e sz A' v' (k+m) (xs++news)->RO P TT D n ro ops Q iI ds ((d,v')::fr) (B++(A'++L0)) s') :
  RO P TT D n ro ops Q (⟨some d,.call { callee:=.builtin .append,args:=#[x,y],argTypes:=#[t,t] },ty,iL,af,none⟩::iI) ds fr L s:=λhT a hr ho=>by
 subst hL;obtain ⟨v',A',s',h1,h2,h3⟩:=UF (ty:=ty) B A L0 hT hx hy ht hk he jp hO hR rK ho;exact La (by nofun) hd h1 (kk v' A' s' h2 h3) hT a hr ho
def qKe{t:Nat}{w:Bool}(hj:we ops j=some t)(hv:kQ fr t=some (.bool w))
  (k:RO P TT D n ro ops Q (⟨dst,op,ty,iL,af,none⟩::iI) ds fr L s):RO P TT D n ro ops Q (⟨dst,op,ty,iL,af,some (j,w)⟩::iI) ds fr L s:=λht a hr ho=>by
 have k1:=k ht a hr ho;have hy:yielded ops a.tmps j=some w:=by
  have h1:=hr.rel.slot t (hr.rel.ah _ _ hv) _ hv;unfold we at hj;simp [yielded,hj,h1]
 simp only [wpListIn,Region.wanted,bV] at k1;simp only [wpListIn,Region.wanted,hy,beq_self_eq_true,bV];exact k1
def qKd{t:Nat}{w b:Bool}(hd:Nat.blt d n=true)(hj:we ops j=some t)(hv:kQ fr t=some (.bool b))(hb:(b != w)=true)
  (k:RO P TT D n ro ops Q iI ds ((d,undef)::fr) L s):RO P TT D n ro ops Q (⟨some d,op,ty,iL,af,some (j,w)⟩::iI) ds fr L s:=λht a hr ho=>by
 have hy:yielded ops a.tmps j=some b:=by
  have h1:=hr.rel.slot t (hr.rel.ah _ _ hv) _ hv;unfold we at hj;simp [yielded,hj,h1]
 have mL:(some b == some w)=false:=by cases b<;>cases w<;>simp_all
 simp only [wpListIn,Region.wanted,hy,mL,dq,bY];exact ⟨λf _=>DF ro f,k ht _ (hr.put hd undef) ho⟩
def qAX(hv:kQ fr t=some (.bool b))(h1:b=true->RO P TT D n ro ops Q l ds ((t,.bool true)::fr) L s)(h2:b=false->RO P TT D n ro ops Q l ds ((t,.bool false)::fr) L s):
  RO P TT D n ro ops Q l ds fr L s:=λht a hr ho=>by
 exact IF
def Od(hv:kQ fr t=some (.bool (!b)))(h1:b=false->RO P TT D n ro ops Q l ds ((t,.bool true)::fr) L s)(h2:b=true->RO P TT D n ro ops Q l ds ((t,.bool false)::fr) L s):
  RO P TT D n ro ops Q l ds fr L s:=qAX hv (λh=>h1 Q2) (λh=>h2 Q2)
end ops
section anyorder
variable{TT:kD}{Q:w7}{fr:Fr}{ops:Array Oper}{op:Op}{iC:Array Bool}
end anyorder
section calls
variable{TT:kD}{Q:w7}{fr:Fr}
def BH(b:Nat):Deferred:={ target:=.collected b,args:=#[] }
abbrev Fu(b:Nat):Nat×Obj:=(b,Obj.deferred (some []))
def Lh(TT:kD)(D:Nat)(rs:List ResultVar)(s0:World)(R:Value->Hl->World->Prop):w7:=λe ds fr L s=>
 (e=.normal\/e=.ret)/\∃ vs A L',qQ TT fr L rs vs/\L=A++L'/\Le D s0 s/\(∀ s',Le D s s'->R (kU vs) L' s')/\(∃ bs:List Nat,ds=bs.map BH/\(bs.map Fu).Sublist A)
def qQ.set{fr:Fr}(hL:∀ (i:Nat) b zs t,L[i]?=some (b,cb zs t)->L'[i]?=some (b,cb zs t))(h:qQ TT fr L rs vs):qQ TT fr L' rs vs:=by
 induction h with
 | nil=>exact .nil
 | tmp h _ ih=>exact .tmp h ih
 | one i h hi ht hk hv _ ih=>exact .one i h (hL _ _ _ _ hi) ht hk hv ih
 | agg i h hi ht hk hv _ ih=>exact .agg i h (hL _ _ _ _ hi) ht hk hv ih
def qoK(L:Hl)(i j:Nat){o:Obj}(h:i≠j):(lV L i o)[j]?=L[j]?:=by
 induction L generalizing i j with
 | nil=>cases i<;>rfl
 | cons x L ih=>
  cases i with
  | zero=>cases j with
   | zero=>exact absurd rfl h
   | succ j=>rfl
  | succ i=>cases j with
   | zero=>rfl
   | succ j=>simp only [lV,bH];exact ih i j O
def T9{A:Hl}{i:Nat}{o:Obj}(h:i < A.length):lV (A++L') i o=lV A i o++L':=by
 induction A generalizing i with
 | nil=>cases h
 | cons x A ih=>
  cases i with
  | zero=>rfl
  | succ i=>simp only [ao,lV];rw [ih Q2]
def Tb(w:World)(b:Nat)(o:Obj):w.putObj b o=pz w b o:=rfl
def WW{p:Prop} (h:p:=by
 rw [eQ];simp only [gF,bA,h1,aP,bG]):p:=h
def XB{p:Prop} (h:p:=by
 rw [Tk];simp only [bA,h2,aP,bG];congr 1;match vs with
 | []=>rfl
 | [v]=>rfl
 | v::u::r=>simp [kU]):p:=h
def Io{p:Prop} (h:p:=by
  refine ⟨⟨by simp [hnt];omega,Z,λt ht v hv=>?_,λt v hv=>?_⟩,Z⟩
  . rw [Nz] at hv
    simp at hv;obtain ⟨kZ,_⟩:=al.1 hv;simp [gV,kZ];exact (al.1 hv).2
  . rw [Nz] at hv
    simp at hv;obtain ⟨kZ,_⟩:=al.1 hv;omega):p:=h
def Ka{f:FuncId}{c:Code}{args:iz}{R:Value->Hl->World->Prop}(hT:jV P TT)(hf:P.funcs[f]?=some fn)(hn:(fn.name == "runtime.NumGoroutine")=false)(hb:fn.body=some c)(hnt:fn.ntmps=n)(j9:Nat.ble args.length n=true)(z6:fn.results.toList=rs)(yf:Fr)(oU:nP 0 args=yf)
    (h:RC P TT D n none (Lh TT D rs s R) c [] yf L s):AC P D f args L s R:=by
  subst oU;subst z6;refine ⟨⟨fn,hf,hn,by simp [hb]⟩,λho=>(ij (n:=0)).1 (callsIn_of_wp_marks hf hb Tt ?_)⟩;have hle':args.length<=n:=bE j9;have hr:vG [] n { tmps:=args.toArray++Array.replicate (fn.ntmps - args.toArray.size) undef,defers:=[] } (nP 0 args):=by
    exact Io
  refine ft (h hT _ hr ho) ?_;rintro e a w ⟨ds,jN,L1,s1,k1,k2,rfl,he,vs,A,L',hres,rfl,hle1,hR,wN⟩;have fin:∀ (A2:Hl),jQ D (A2++L') s1->qQ TT jN (A2++L') fn.results.toList vs->LeavesIn Fence.wide 0 P fn a.tmps (λe w'=>∃ v L' s',e=.returned v/\w'=fill L' s'/\jQ D L' s'/\Le D s s'/\R v L' s') [] .returning (fill (A2++L') s1):=λA2 nj hres2=>by
    obtain ⟨d1,d2,d3⟩:=tI nj;have jH:(results fn a.tmps).run P (fill (A2++L') s1)=.ok (kU vs) (fill (A2++L') s1):=by
      have h1:=qQ.run hT k1.rel nj hres2;have h2:(fn.results.mapM (D3 a.tmps)).run P (fill (A2++L') s1)=.ok vs.toArray (fill (A2++L') s1):=by
        exact WW
      exact XB
    exact ⟨_,jH,_,L',fill A2 s1,rfl,d1,d2,hle1.trans d3,hR _ d3⟩
  have key:∀ (bs:List Nat),bs.Nodup->∀ (A2:Hl),(∀ b∈bs,(b,Obj.deferred (some []))∈A2)->jQ D (A2++L') s1->qQ TT jN (A2++L') fn.results.toList vs->LeavesInM Fence.wide 0 P fn a.tmps (λe w'=>∃ v L' s',e=.returned v/\w'=fill L' s'/\jQ D L' s'/\Le D s s'/\R v L' s') (bs.map BH) .returning (fill (A2++L') s1):=by
    intro bs;induction bs with
    | nil=>intro _ A2 _ k2 hres;exact fin A2 k2 hres
    | cons b bs ih=>
      intro kO A2 sL k2 hres;obtain ⟨i,hi,hie⟩:=List.getElem_of_mem (sL b Mc);have Bd:(A2++L')[i]?=some (b,Obj.deferred (some [])):=by rw [aV hi,ap hi,hie]
      have hw:(fill (A2++L') s1).heap[b]?=some (.deferred (some [])):=qM k2 (ax Bd);refine ⟨(λh=>by cases h),.inl ⟨b,_,Z,run_takeDeferred hw,?_⟩⟩;rw [Tb,<- Dr k2 Bd,T9 hi];have nj:=DB k2 i (Obj.deferred none);rw [T9 hi] at nj;refine ih (du.1 kO).2 (lV A2 i (.deferred none)) (λc hc=>?_) nj (qQ.set (λj c zs t hj=>?_) hres)
      . have mL:b≠c:=λe=>(du.1 kO).1 (e▸hc)
        obtain ⟨j,hj,hje⟩:=List.getElem_of_mem (sL c (an _ hc));have hij:i≠j:=λe=>by subst e;rw [hie] at hje;injection hje with h1 _;exact mL h1
        exact ax (i:=j) (by rw [qoK _ _ _ hij,ap hj,hje])
      . rw [<- T9 hi,qoK _ _ _ (λe=>by subst e;rw [Bd] at hj;cases hj)]
        exact hj
  obtain ⟨bs,rfl,hsub⟩:=wN;have sL:∀ b∈bs,(b,Obj.deferred (some []))∈A:=λb hb=>hsub.subset (List.mem_map_of_mem hb);have kO:bs.Nodup:=by
    have h1:(A.map (·.1)).Nodup:=by have:=k2.nd;rw [bO] at this;exact (bI.1 this).1
    have h2:=(hsub.map (·.1)).nodup h1
    rwa [fR,show ((λx:Nat×Obj=>x.1) ∘ Fu)=id from rfl,List.map_id] at h2
  have key:=key bs kO A sL k2 hres;rw [<- k1.defers] at key;rcases he with rfl|rfl
  . exact key
  . exact key
def zx{R:Value->Hl->World->Prop}{e:Exit}(A L':Hl)(he:e=.normal\/e=.ret)(h:qQ TT fr L rs vs)(hL:L=A++L')(hl:Le D s0 s)(wN:∃ bs:List Nat,ds=bs.map BH/\(bs.map Fu).Sublist A)(hR:∀ s',Le D s s'->R (kU vs) L' s'):Lh TT D rs s0 R e ds fr L s:=
 ⟨he,vs,A,L',h,hL,hl,hR,wN⟩
def EM:Exit->Option (Option Code)
 | .normal=>some none
 | .ret=>some (some .ret)
 | .exit id=>some (some (.exit id))
 | _=>none
def qHM:Option Code->Exit
 | none=>.normal
 | some .ret=>.ret
 | some (.exit id)=>.exit id
 | _=>.normal
def qzP(fr:Fr)(ps:List Nat)(vs:iz):Fr:=(ps.zip vs).foldl (λfr x=>(x.1,x.2)::fr) fr
def qpO(n:Nat):∀ (l:List (Nat×Value)) (fr:Fr) (a:Act),jr n { a with defers:=[] } fr->l.all (λx=>Nat.blt x.1 n)=true ->
  jr n { tmps:=l.foldl (λtmps x=>tmps.setIfInBounds x.1 x.2) a.tmps,defers:=[] } (l.foldl (λfr x=>(x.1,x.2)::fr) fr):=by
 intro l;induction l with
 | nil=>intro fr a h _;exact h
 | cons x l ih=>
  intro fr a h hl;simp only [ec,aA] at hl;exact ih _ { a with tmps:=a.tmps.setIfInBounds x.1 x.2 } (h.put hl.1 x.2) hl.2
section range
variable{σ α:Type}{H:σ->Hl}{I:σ->World->Prop}{iR:σ->Option Code}{St:σ->α->σ->Prop}{enc:α->iz}{Pre:σ->α->World->Prop}{Fin:σ->Prop}
end range
end calls
section
variable{TT:kD}{Q:w7}{fr:Fr}{ops:Array Oper}
def mn(hY:lk fr x=some v/\Nat.blt d n=true)(k:RO P TT D n ro ops Q iI ds ((d,v)::fr) L s):RO P TT D n ro ops Q (⟨some d,.move x,ty,iL,af,none⟩::iI) ds fr L s:=have ⟨hx,hd⟩:=hY;lU (E3 hx) hd k
def xx(hx:lk fr x=some v)(hd:Nat.blt d n=true)(k:RO P TT D n ro ops Q iI ds ((d,v)::fr) L s):RO P TT D n ro ops Q (⟨some d,.assign x,ty,iL,af,none⟩::iI) ds fr L s:=lU (Ny hx) hd k
def Wy(hx:lk fr x=some (.tuple vs.toArray))(hi:nth vs i=some v)(hd:Nat.blt d n=true)(k:RO P TT D n ro ops Q iI ds ((d,v)::fr) L s):RO P TT D n ro ops Q (⟨some d,.extract x i,ty,iL,af,none⟩::iI) ds fr L s:=lU (S6 hx hi) hd k
def Wx(hc:lk fr c=some (.bool true))(hx:lk fr x=some v)(hd:Nat.blt d n=true)(k:RO P TT D n ro ops Q iI ds ((d,v)::fr) L s):RO P TT D n ro ops Q (⟨some d,.pick c x y,ty,iL,af,none⟩::iI) ds fr L s:=lU (FU hc hx) hd k
def Qy(hc:lk fr c=some (.bool false))(hx:lk fr y=some v)(hd:Nat.blt d n=true)(k:RO P TT D n ro ops Q iI ds ((d,v)::fr) L s):RO P TT D n ro ops Q (⟨some d,.pick c x y,ty,iL,af,none⟩::iI) ds fr L s:=lU (FZ hc hx) hd k
def Jv{b:Int}(hx:lk fr x=some (.int ik a))(hy:lk fr y=some (.int ik b))(hd:Nat.blt d n=true)(k:RO P TT D n ro ops Q iI ds ((d,.bool (decide (a=b)))::fr) L s):RO P TT D n ro ops Q (⟨some d,.binOp .eql t x y t',ty,iL,af,none⟩::iI) ds fr L s:=lU (uj hx hy) hd k
def Jw{b:Int}(hx:lk fr x=some (.int ik a))(hy:lk fr y=some (.int ik b))(hd:Nat.blt d n=true)(k:RO P TT D n ro ops Q iI ds ((d,.bool (!decide (a=b)))::fr) L s):RO P TT D n ro ops Q (⟨some d,.binOp .neq t x y t',ty,iL,af,none⟩::iI) ds fr L s:=lU (rD hx hy) hd k
def SR{b:Int}(hx:lk fr x=some (.int ik a))(hy:lk fr y=some (.int ik b))(hd:Nat.blt d n=true)(k:RO P TT D n ro ops Q iI ds ((d,.bool (decide (a < b)))::fr) L s):RO P TT D n ro ops Q (⟨some d,.binOp .lss t x y t',ty,iL,af,none⟩::iI) ds fr L s:=lU (Ru hx hy) hd k
def EO(hx:lk fr x=some (.bool b))(hd:Nat.blt d n=true)(k:RO P TT D n ro ops Q iI ds ((d,.bool (!b))::fr) L s):RO P TT D n ro ops Q (⟨some d,.unOp .not t x,ty,iL,af,none⟩::iI) ds fr L s:=lU (O0 hx) hd k
def Nj{c:Nat}(hx:lk fr x=some (.slice A m c))(ht:jz TT t=some ti)(hk:ti.kind=.sl e)(hd:Nat.blt d n=true)(k:RO P TT D n ro ops Q iI ds ((d,iB (m:Int))::fr) L s):RO P TT D n ro ops Q (⟨some d,.call { callee:=.builtin .len,args:=#[x],argTypes:=#[t] },ty,iL,af,none⟩::iI) ds fr L s:=lU (S5 hx ht hk) hd k
def FP{a:Addr}(hx:lk fr x=some (.pointer (some a)))(hd:Nat.blt d n=true)(k:RO P TT D n ro ops Q iI ds ((d,.pointer (some a))::fr) L s):RO P TT D n ro ops Q (⟨some d,.nilCheck x,ty,iL,af,none⟩::iI) ds fr L s:=lU (S4 hx) hd k
def Ni{f b:Nat}(hx:lk fr x=some (.pointer (some ⟨b,off,none⟩)))(ht:jz TT t=some ti)(hk:ti.kind=.st os)(hf:xX os f=some 0)(hd:Nat.blt d n=true)(k:RO P TT D n ro ops Q iI ds ((d,.pointer (some ⟨b,off,none⟩))::fr) L s):RO P TT D n ro ops Q (⟨some d,.fieldAddr t x f,ty,iL,af,none⟩::iI) ds fr L s:=lU (S3 hx ht hk hf) hd k
def SQ{f fo b:Nat}(hx:lk fr x=some (iT b))(ht:jz TT t=some ti)(hk:ti.kind=.st os)(hf:xX os f=some fo)(hd:Nat.blt d n=true)(k:RO P TT D n ro ops Q iI ds ((d,.pointer (some ⟨b,fo,none⟩))::fr) L s):RO P TT D n ro ops Q (⟨some d,.fieldAddr t x f,ty,iL,af,none⟩::iI) ds fr L s:=lU (UO hx ht hk hf) hd k
def CD{b:Nat}(i:Nat)(hY:lk fr x=some (.pointer (some ⟨b,off,none⟩))/\L[i]?=some (b,cb zs t')/\jz TT t=some ti/\uY ti.kind=true/\nth zs off=some v/\Nat.blt d n=true)(k:RO P TT D n ro ops Q iI ds ((d,v)::fr) L s):RO P TT D n ro ops Q (⟨some d,.load t x,ty,iL,af,none⟩::iI) ds fr L s:=have ⟨hx,hi,ht,hk,hv,hd⟩:=hY;lU (rS i ⟨hx,hi,ht,hk⟩ hv) hd k
def PF{b c:Int}(hx:lk fr x=some (.int ik a))(hy:lk fr y=some (.int ik b))(hd:Nat.blt d n=true)(hc:ik.wrap (a+b)=c)(k:RO P TT D n ro ops Q iI ds ((d,.int ik c)::fr) L s):RO P TT D n ro ops Q (⟨some d,.binOp .add t x y t',ty,iL,af,none⟩::iI) ds fr L s:=lU (nV hx hy hc) hd k
end
abbrev Ys:=@qGN
abbrev Yr:=@qqx
abbrev Yn:=@qGP
abbrev Yt:=@OD
abbrev Yu:=@qDD
abbrev Yv:=@qDE
abbrev Yb:=@quF
abbrev Yc:=@quG
abbrev Yd:=@quH
abbrev Yk:=@qAV
abbrev Yl:=@qAT
abbrev Yo:=@qGM
abbrev Yp:=@qud
abbrev Yy:=@qGL
abbrev Yg:=@qKe
abbrev Yf:=@qKd
end
variable{Q:w7}
section
attribute [local irreducible] JC JO JA JB ma mO mX AC fill iy QE Ev my
variable{c l:Nat}
def tR(s:World):Nd->Value->Prop
 | .st x lp,v=>∃ b o A1 n1 c1 A2 n2 c2 A3 n3 c3,v=.agg #[.pointer (some ⟨b,o,none⟩),.pointer none,iB (lp:Int)]/\iy s b o [iB x.kind,St x.name,.slice A1 n1 c1,.slice A2 n2 c2,.slice A3 n3 c3]/\n1=x.exprs.length
 | .ex x lp,v=>∃ b o A n c,v=.agg #[.pointer none,.pointer (some ⟨b,o,none⟩),iB (lp:Int)]/\iy s b o [iB x.kind,iB x.op,iJ x.num,St x.name,.slice A n c]/\n=x.args.length
def tR.mkE{x:Ex}(h:iy s b o [iB x.kind,iB x.op,iJ x.num,St x.name,.slice A n c])(hn:n=x.args.length):tR s (.ex x lp) (.agg #[.pointer none,.pointer (some ⟨b,o,none⟩),iB (lp:Int)]):=⟨b,o,A,n,c,rfl,h,hn⟩
def tR.mkS{x:iP}{c1 c2 c3:Nat}(h:iy s b o [iB x.kind,St x.name,.slice A1 n1 c1,.slice A2 n2 c2,.slice A3 n3 c3])(hn:n1=x.exprs.length):tR s (.st x lp) (.agg #[.pointer (some ⟨b,o,none⟩),.pointer none,iB (lp:Int)]):=⟨b,o,A1,n1,c1,A2,n2,c2,A3,n3,c3,rfl,h,hn⟩
def tN{σ:Type}(iR:σ->Option Code)(St:σ->Nd->σ->Prop):σ->List Nd->σ->Prop
 | g,[],g'=>g'=g
 | g,p::r,g'=>∃ g1,St g p g1/\if (iR g1).isNone=true then tN iR St g1 r g' else g'=g1
def Kl{σ:Type}{iR:σ->Option Code}{St:σ->Nd->σ->Prop}{b:List Nd}:∀ {a:List Nd} {g g1 g':σ},iR g=none->tN iR St g a g1->((iR g1).isNone=true->tN iR St g1 b g')->((iR g1).isNone=false->g'=g1)->tN iR St g (a++b) g'
  | [],g,g1,g',hp,h,h1,_=>by
    have h:g1=g:=h;subst h;exact h1 (by rw [hp];rfl)
  | p::r,g,g1,g',_,⟨g2,k1,k2⟩,h1,h2=>by
    refine ⟨g2,k1,?_⟩;by_cases h3:(iR g2).isNone=true
    . rw [au h3] at k2 ⊢
      exact Kl (bD.1 h3) k2 h1 h2
    . rw [ak h3] at k2 ⊢
      subst k2;exact h2 (eD.2 h3)
def CM{σ:Type}{iR:σ->Option Code}{St:σ->Nd->σ->Prop}{mZ:σ->Nat}(oT:∀ g nd g1,St g nd g1->mZ g1<=mZ g+1):∀ {l:List Nd} {g g':σ},tN iR St g l g'->mZ g'<=mZ g+l.length
  | [],g,g',h=>by
    have h:g'=g:=h;subst h;simp
  | p::r,g,g',⟨g1,h1,h2⟩=>by
    have e1:=oT _ _ _ h1;by_cases h3:(iR g1).isNone=true
    . rw [au h3] at h2
      have e2:=CM oT h2;rw [aw];omega
    . rw [ak h3] at h2
      subst h2;rw [aw];omega
def OL{l:List Ex}{x:Ex}(h:l[k]?=some x):oY (l.drop k) lp=.ex x lp::(oY x.args lp++oY (l.drop (k+1)) lp):=by
 obtain ⟨hk,rfl⟩:=al.1 h;rw [aM hk,oY];cases l[k] with
 | mk a b c d e=>rfl
def Wj(D d:Nat):Prop:=∀ (s:World) (σ:Type) (H:σ->Hl) (I:σ->World->Prop) (iR:σ->Option Code) (St:σ->Nd->σ->Prop) (l:Nat) (g0:σ) (mZ:σ->Nat) (B:Nat),(∀ g nd g1,St g nd g1->mZ g1<=mZ g+1)->(∀ g s s',I g s->Le D s s'->I g s')->(∀ g nd nv s',Le D s s'->I g s'->iR g=none->mZ g < B->tR s' nd nv->YC prog D l [nv] (H g) s' λv L' s3=>∃ g1,St g nd g1/\v=.bool (iR g1).isNone/\L'=H g1/\I g1 s3)->I g0 s->iR g0=none->∀ (A:iE) (n c:Nat) (xs:List Ex) (lp:Nat),j8 d s A n c xs->mZ g0+(oY xs lp).length<=B->jU D 138 [.slice A n c,iB (lp:Int),.func (.yield l) #[] #[]] (H g0) s λv L' s3=>∃ g',tN iR St g0 (oY xs lp) g'/\v=.bool (iR g').isNone/\L'=H g'/\I g' s3
def IC{p:Prop} (h:p:=by
 refine Yl<|Yv<|Yv<|Yd<|Yt<|Ys<|Yr<|xx Z Z<|Yn<|Yt<|Yo<|?_;refine zx [] _ (.inr Z) (.t1 Z) Z I1.1 ⟨[],Z,cK _⟩ λ_ iD=>?_;exact ⟨g,jH g rfl,by rw [hpg];rfl,rfl,mono _ _ _ hIg Lc⟩):p:=h
def qrT(ih:∀ e,d=e+1->Wj D e)(σ:Type)(H:σ->Hl)(I:σ->World->Prop)(iR:σ->Option Code)(St:σ->Nd->σ->Prop){g0:σ}(mZ:σ->Nat)(B:Nat)(oT:∀ g nd g1,St g nd g1->mZ g1<=mZ g+1)(mono:∀ g s s',I g s->Le D s s'->I g s')(hY:∀ g nd nv s',Le D s s'->I g s'->iR g=none->mZ g < B->tR s' nd nv->YC prog D l [nv] (H g) s' λv L' s3=>∃ g1,St g nd g1/\v=.bool (iR g1).isNone/\L'=H g1/\I g1 s3)(hI:I g0 s)(hp:iR g0=none){xs:List Ex}(hA:j8 d s A n c xs)(y5:mZ g0+(oY xs lp).length<=B):jU D 138 [.slice A n c,iB (lp:Int),.func (.yield l) #[] #[]] (H g0) s λv L' s3=>∃ g',tN iR St g0 (oY xs lp) g'/\v=.bool (iR g').isNone/\L'=H g'/\I g' s3:=by
 have hn:=hA.1;have nI:=hA.2.1;have pt:=hA.2.2.1;refine Ka (fn:=f138) jb func138 V Z ntmps138 Z (rs:=[.tmp 6]) Z [(0,_),(1,_),(2,_)] Z<|Ys<|Yr<|xx Z Z<|Yn<|Yt<|Ys<|Ys<|Yr<|mn Y2<|Nj Z Z Z Z<|mn Y2<|Yn<|Yt<|Yp<|?_;refine qqw (γ:=σ×Nat) (λg=>[(0,_),(1,_),(2,_),(6,_),(9,_),(10,iB (g.2:Int))]) (λg=>H g.1) (λg tw=>Le D s tw/\(g.2<=n/\I g.1 tw/\iR g.1=none/\mZ g.1+(oY (xs.drop g.2) lp).length<=B/\(∀ g',tN iR St g.1 (oY (xs.drop g.2) lp) g'->tN iR St g0 (oY xs lp) g'))) (λg=>n - g.2) (λ_ _ _ h hl=>⟨h.1.trans hl,⟨h.2.1,mono _ _ _ h.2.2.1 hl,h.2.2.2⟩⟩) (g0,0) (.c6 Z Z Z Z Z Z (.nil _)) Z ⟨Le.refl _,⟨aB _,mono _ _ _ hI (Lr D),hp,y5,λg' h=>h⟩⟩ ?_;intro g s1 I1;obtain ⟨g,k⟩:=g;obtain ⟨ko,hIg,hpg,hbn,jH⟩:=I1.2;simp only at ko hIg hpg hbn jH;dsimp only;refine Ys<|Yr<|SR Z Z Z<|Yn<|Yt<|Ys<|?_;refine KR Z ?_ ?_<;>intro c2
 .have hk:k < n:=O
  obtain ⟨e,b,off,x,A',n',c',hd,rfl,hx,hcx,hax,oI,kL⟩:=j8.at_ Pz hk;have hn':=hax.1;rw [OL hx,aw,ac] at hbn;refine Yk<|Yt<|Ys<|Yp<|Ys<|Yr<|mn Y2<|xx Z Z<|Yn<|Yt<|Ys<|Yr<|mn Y2<|mn Y2<|mn Y2<|lU (jK Y6 hk) Z<|mn Y2<|lU (jB [(_,_),(_,_)] [_,_,_] Y3 Z Z Z) Z<|qnB Z Z Z (hY g (.ex x lp) _ _ I1.1 (mono _ _ _ hIg (Lr D)) hpg O (tR.mkE Pz hn')) ?_;rintro _ _ s3 h3 ⟨g1,nJ,rfl,rfl,hIn⟩;refine EO Z Z<|mn Y2<|?_;refine Od (t:=21) Z ?_ ?_<;>intro c4;.refine Yf Z Z Z Z<|Yf Z Z Z Z<|Yf Z Z Z Z<|Yf Z Z Z Z<|Yf Z Z Z Z<|Yf Z Z Z Z<|Yf Z Z Z Z<|Yf Z Z Z Z<|Yf Z Z Z Z<|Wx Z Z Z<|Yn<|Yt<|Yy Z ?_;have rP:=trivial;refine X13 ?_;refine zx [] _ (.inr Z) (.t1 Z) Z Lc ⟨[],Z,cK _⟩ λ_ iD=>?_;exact ⟨g1,jH g1 (by rw [OL hx];exact ⟨g1,nJ,by rw [ak (by simp only [*];decide)]⟩),by simp only [*];rfl,rfl,mono _ _ _ hIn Lc⟩
  refine Yg Z Z<|mn Y2<|Yg Z Z<|mn Y2<|Yg Z Z<|lU (jK Y6 hk) Z<|Yg Z Z<|lU (pU Y4) Z<|Yg Z Z<|lU (nK 4 Y3 Pz Z) Z<|Yg Z Z<|mn Y2<|Yg Z Z<|mn Y2<|Yg Z Z<|vh Y3 (ih e hd _ σ H I iR St l g1 mZ B oT mono (λg nd nv s9 hl=>hY g nd nv s9 Lc) (mono _ _ _ hIn (Lr D)) (bD.1 As) A' n' c' x.args lp Pz (by have e1:=oT _ _ _ nJ;omega)) ?_;rintro _ _ s5 h5 ⟨g2,hrn,rfl,rfl,hIn2⟩;refine Yg Z Z<|EO Z Z<|Qy Z Z Z<|Yn<|Yt<|?_;refine US Z ?_ ?_<;>intro c6;.have rP:=c6;refine X13 ?_;refine zx [] _ (.inr Z) (.t1 Z) Z Lc ⟨[],Z,cK _⟩ λ_ iD=>?_;exact ⟨g2,jH g2 (by rw [OL hx];exact ⟨g1,nJ,by rw [au As];exact Kl (bD.1 As) hrn (λh9=>by rw [rP] at h9;cases h9) (λ_=>rfl)⟩),by rw [rP];rfl,rfl,mono _ _ _ hIn2 Lc⟩
  have rP:=c6;refine Yk<|Yb<|Yt<|Yr<|PF Z Z Z (jq O O)<|mn Y2<|Yn<|?_;refine OD ⟨Z,(g2,k+1),[],(.c6 Z Z Z Z Z Z (.nil _)),Z,⟨Lc,⟨Oz,mono _ _ _ hIn2 (Lr D),bD.1 rP,by have e1:=oT _ _ _ nJ;have e2:=CM oT hrn;simp only;omega,λg' h=>jH g' (by rw [OL hx];exact ⟨g1,nJ,by rw [au As];exact Kl (bD.1 As) hrn (λ_=>h) (λh9=>by rw [rP] at h9;cases h9)⟩)⟩⟩,Oz⟩
 rw [aL O,oY] at jH;exact IC
def WI{D:Nat}:∀ d,Wj D d
 | 0=>λs σ H I iR St l g0 mZ B oT mono hY hI hp A n c xs lp hA y5=>qrT (λe h=>O) σ H I iR St mZ B oT mono hY hI hp hA y5
 | d+1=>λs σ H I iR St l g0 mZ B oT mono hY hI hp A n c xs lp hA y5=>qrT (d:=d+1) (λe h=>(show d=e by omega)▸WI d) σ H I iR St mZ B oT mono hY hI hp hA y5
section
variable{σ:Type}{iR:σ->Option Code}{St:σ->Nd->σ->Prop}{a b:List Nd}{g g1 g':σ}
def Kj(hp:(iR g).isNone=true)(h:tN iR St g a g1)(h1:(iR g1).isNone=false):tN iR St g (a++b) g1:=Kl (bD.1 hp) h (λh9=>by rw [h1] at h9;cases h9) λ_=>rfl
def Gr(hp:(iR g).isNone=true)(h:tN iR St g a g1)(h1:(iR g1).isNone=true)(k:tN iR St g1 b g'):tN iR St g (a++b) g':=Kl (bD.1 hp) h (λ_=>k) λh9=>by rw [h1] at h9;cases h9
end
def Bs(x:iP)(lp:Nat):Nat:=if x.kind=4 then lp+1 else lp
def Gn{l:List iP}{x:iP}(h:l[k]?=some x):ly (l.drop k) lp=.st x lp::((oY x.exprs lp++(ly x.body (Bs x lp)++ly x.els (Bs x lp)))++ly (l.drop (k+1)) lp):=by
 obtain ⟨hk,rfl⟩:=al.1 h;rw [aM hk,ly];cases l[k] with
 | mk a b c d e=>rfl
def Wi(D d:Nat):Prop:=∀ (s:World) (σ:Type) (H:σ->Hl) (I:σ->World->Prop) (iR:σ->Option Code) (St:σ->Nd->σ->Prop) (l:Nat) (g0:σ) (mZ:σ->Nat) (B:Nat),(∀ g nd g1,St g nd g1->mZ g1<=mZ g+1)->(∀ g s s',I g s->Le D s s'->I g s')->(∀ g nd nv s',Le D s s'->I g s'->iR g=none->mZ g < B->tR s' nd nv->YC prog D l [nv] (H g) s' λv L' s3=>∃ g1,St g nd g1/\v=.bool (iR g1).isNone/\L'=H g1/\I g1 s3)->I g0 s->iR g0=none->∀ (A:iE) (n c:Nat) (xs:List iP) (lp lv:Nat),jo d s A n c xs->oC xs lv=true->lp<=lv->mZ g0+(ly xs lp).length<=B->jU D 97 [.slice A n c,iB (lp:Int),.func (.yield l) #[] #[]] (H g0) s λv L' s3=>∃ g',tN iR St g0 (ly xs lp) g'/\v=.bool (iR g').isNone/\L'=H g'/\I g' s3
def Qe{p:Prop} (h:p:=by
 exact ⟨g3,jH g3 (by rw [Gn hx];exact ⟨g1,nJ,by rw [au As];exact Kj As (Gr As sQ As (Kj As hr3 As)) As⟩),(show kU [Value.bool false]=.bool (iR g3).isNone by rw [show (iR g3).isNone=false by assumption];rfl),rfl,mono _ _ _ hI3 Lc⟩):p:=h
def Qf{p:Prop} (h:p:=by
 exact ⟨g4,jH g4 (by rw [Gn hx];exact ⟨g1,nJ,by rw [au As];exact Kj As (Gr As sQ As (Gr As hr3 As hr4)) As⟩),(show kU [Value.bool false]=.bool (iR g4).isNone by rw [show (iR g4).isNone=false by assumption];rfl),rfl,mono _ _ _ hI4 Lc⟩):p:=h
def Il{p:Prop} (h:p:=by
 refine X15 ?_;have q59:=trivial;refine X13 ?_;refine zx [] _ (.inr Z) (.t1 Z) Z Lc ⟨[],Z,cK _⟩ λ_ iD=>?_;exact Qe):p:=h
def HR{p:Prop} (h:p:=by
  refine Yg Z Z<|EO Z Z<|Qy Z Z Z<|Yn<|Yt<|?_;refine US Z ?_ ?_<;>intro nZ;.have q59:=nZ;refine X13 ?_;refine zx [] _ (.inr Z) (.t1 Z) Z Lc ⟨[],Z,cK _⟩ λ_ iD=>?_;exact Qf
  have q59:=nZ;refine Yk<|Yb<|Yt<|Yr<|PF Z Z Z (jq O O)<|mn Y2<|Yn<|?_;refine OD ⟨Z,(g4,k+1),[],(.c6 Z Z Z Z Z Z (.nil _)),Z,⟨Lc,⟨by simp only;omega,mono _ _ _ hI4 (Lr D),(bD.1 As),by have e1:=oT _ _ _ nJ;have e2:=CM oT sQ;have e3:=CM oT hr3;have e4:=CM oT hr4;simp only;omega,λg' h=>jH g' (by rw [Gn hx];exact ⟨g1,nJ,by rw [au As];exact Gr As (Gr As sQ As (Gr As hr3 As hr4)) As h⟩)⟩⟩,Oz⟩):p:=h
def qrS(ih:∀ e,d=e+1->Wi D e)(σ:Type)(H:σ->Hl)(I:σ->World->Prop)(iR:σ->Option Code)(St:σ->Nd->σ->Prop){g0:σ}(mZ:σ->Nat)(B:Nat)(oT:∀ g nd g1,St g nd g1->mZ g1<=mZ g+1)(mono:∀ g s s',I g s->Le D s s'->I g s')(hY:∀ g nd nv s',Le D s s'->I g s'->iR g=none->mZ g < B->tR s' nd nv->YC prog D l [nv] (H g) s' λv L' s3=>∃ g1,St g nd g1/\v=.bool (iR g1).isNone/\L'=H g1/\I g1 s3)(hI:I g0 s)(hp:iR g0=none){xs:List iP}(lv:Nat)(hA:jo d s A n c xs)(hv:oC xs lv=true)(sO:lp<=lv)(y5:mZ g0+(ly xs lp).length<=B):jU D 97 [.slice A n c,iB (lp:Int),.func (.yield l) #[] #[]] (H g0) s λv L' s3=>∃ g',tN iR St g0 (ly xs lp) g'/\v=.bool (iR g').isNone/\L'=H g'/\I g' s3:=by
 have hn:=hA.1;have nI:=hA.2.1;have pt:=hA.2.2.1;refine Ka (fn:=f97) jb func97 V Z ntmps97 Z (rs:=[.tmp 6]) Z [(0,_),(1,_),(2,_)] Z<|Ys<|Yr<|xx Z Z<|Yn<|Yt<|Ys<|Ys<|Yr<|mn Y2<|Nj Z Z Z Z<|mn Y2<|Yn<|Yt<|Yp<|?_;refine qqw (γ:=σ×Nat) (λg=>[(0,_),(1,_),(2,_),(6,_),(11,_),(12,iB (g.2:Int))]) (λg=>H g.1) (λg tw=>Le D s tw/\(g.2<=n/\I g.1 tw/\iR g.1=none/\mZ g.1+(ly (xs.drop g.2) lp).length<=B/\(∀ g',tN iR St g.1 (ly (xs.drop g.2) lp) g'->tN iR St g0 (ly xs lp) g'))) (λg=>n - g.2) (λ_ _ _ h hl=>⟨h.1.trans hl,⟨h.2.1,mono _ _ _ h.2.2.1 hl,h.2.2.2⟩⟩) (g0,0) (.c6 Z Z Z Z Z Z (.nil _)) Z ⟨Le.refl _,⟨aB _,mono _ _ _ hI (Lr D),hp,y5,λg' h=>h⟩⟩ ?_;intro g s1 I1;obtain ⟨g,k⟩:=g;obtain ⟨ko,hIg,hpg,hbn,jH⟩:=I1.2;simp only at ko hIg hpg hbn jH;dsimp only;refine Ys<|Yr<|SR Z Z Z<|Yn<|Yt<|Ys<|?_;refine KR Z ?_ ?_<;>intro c2
 .have hk:k < n:=O
  obtain ⟨e,b,off,x,A1,n1,p1,A2,n2,p2,A3,n3,p3,hd,rfl,hx,hcx,hax,so,hex,kL⟩:=jo.at_ Pz hk;have hn':=hax.1;obtain ⟨vS,_⟩:=DO hv hx;obtain ⟨oN,_,_,hvB,hvL⟩:=wY vS;rw [Gn hx,aw,ac,ac,ac] at hbn;refine Yk<|Yt<|Ys<|Yp<|Ys<|Yr<|mn Y2<|xx Z Z<|Yn<|Yt<|Ys<|Yr<|mn Y2<|mn Y2<|lU (jK Y6 hk) Z<|xx Z Z<|Yn<|Yt<|Ys<|Ys<|Yr<|mn Y2<|mn Y2<|mn Y2<|lU (jB [(_,_),(_,_)] [_,_,_] Y3 Z Z Z) Z<|qnB Z Z Z (hY g (.st x lp) _ _ I1.1 (mono _ _ _ hIg (Lr D)) hpg O (tR.mkS Pz hn')) ?_;rintro _ _ s3 h3 ⟨g1,nJ,rfl,rfl,hI1⟩;refine EO Z Z<|mn Y2<|?_;refine Od (t:=24) Z ?_ ?_<;>intro c4;.refine X15 ?_;have q33:=trivial;refine Ys<|Yr<|xx Z Z<|Yn<|Yt<|Yo<|Yu<|Yc<|Yu<|Yu<|Yc<|Yu<|?_;refine zx [] _ (.inr Z) (.t1 Z) Z Lc ⟨[],Z,cK _⟩ λ_ iD=>?_;exact ⟨g1,jH g1 (by rw [Gn hx];exact ⟨g1,nJ,by rw [ak (by rw [show (iR g1).isNone=false by assumption];decide)]⟩),(show kU [Value.bool false]=.bool (iR g1).isNone by rw [show (iR g1).isNone=false by assumption];rfl),rfl,mono _ _ _ hI1 Lc⟩
  refine Yg Z Z<|mn Y2<|Yg Z Z<|FP Z Z<|Yg Z Z<|lU (pU Y4) Z<|Yg Z Z<|lU (nK 2 Y3 Pz Z) Z<|Yg Z Z<|mn Y2<|Yg Z Z<|mn Y2<|Yg Z Z<|vh Y3 (WI e _ σ H I iR St l g1 mZ B oT mono (λg nd nv s9 hl=>hY g nd nv s9 Lc) (mono _ _ _ hI1 (Lr D)) (bD.1 As) A1 n1 p1 x.exprs lp Pz (by have e1:=oT _ _ _ nJ;omega)) ?_;rintro _ _ s5 h5 ⟨g2,sQ,rfl,rfl,xC⟩;refine Yg Z Z<|EO Z Z<|Qy Z Z Z<|Yn<|Yt<|?_;refine US Z ?_ ?_<;>intro c6;.have q33:=c6;refine Ys<|Yr<|xx Z Z<|Yn<|Yt<|Yo<|Yu<|Yc<|Yu<|Yu<|Yc<|Yu<|?_;refine zx [] _ (.inr Z) (.t1 Z) Z Lc ⟨[],Z,cK _⟩ λ_ iD=>?_;exact ⟨g2,jH g2 (by rw [Gn hx];exact ⟨g1,nJ,by rw [au As];exact Kj As (Kj As sQ As) As⟩),(show kU [Value.bool false]=.bool (iR g2).isNone by rw [show (iR g2).isNone=false by assumption];rfl),rfl,mono _ _ _ xC Lc⟩
  have q33:=c6;refine Yk<|Yt<|Ys<|Yr<|mn Y2<|xx Z Z<|Yn<|Yt<|Ys<|Ys<|Yr<|mn Y2<|FP Z Z<|Ni Z Z Z Z Z<|lU (jS Y3 Pz Z) Z<|Jv Z Z Z<|Yn<|Yt<|?_;refine KR Z ?_ ?_<;>intro c7
  .have hlI:Bs x lp=lp+1:=au c7;have hlI2:Bs x lp<=lv+1:=O
   refine Yr<|mn Y2<|lU (nV Z Z (show IntKind.i64.wrap ((lp:Int)+1)=((Bs x lp:Nat):Int) by rw [jq O O];omega)) Z<|xx Z Z<|Yn<|Yt<|Ys<|Yr<|mn Y2<|FP Z Z<|lU (pU Y4) Z<|lU (nK 3 Y3 Pz Z) Z<|mn Y2<|mn Y2<|vh Y3 (ih e hd _ σ H I iR St l g2 mZ B oT mono (λg nd nv s9 hl=>hY g nd nv s9 Lc) (mono _ _ _ xC (Lr D)) (bD.1 As) A2 n2 p2 x.body (Bs x lp) (lv+1) Pz hvB hlI2 (by have e1:=oT _ _ _ nJ;have e2:=CM oT sQ;omega)) ?_;rintro _ _ s8 h8 ⟨g3,hr3,rfl,rfl,hI3⟩;refine EO Z Z<|mn Y2<|?_;refine Od (t:=50) Z ?_ ?_<;>intro c9;.exact Il
   refine Yg Z Z<|mn Y2<|Yg Z Z<|FP Z Z<|Yg Z Z<|lU (pU Y4) Z<|Yg Z Z<|lU (nK 4 Y3 Pz Z) Z<|Yg Z Z<|mn Y2<|Yg Z Z<|mn Y2<|Yg Z Z<|vh Y3 (ih e hd _ σ H I iR St l g3 mZ B oT mono (λg nd nv s9 hl=>hY g nd nv s9 Lc) (mono _ _ _ hI3 (Lr D)) (bD.1 As) A3 n3 p3 x.els (Bs x lp) (lv+1) Pz hvL hlI2 Q36) ?_;rintro _ _ kH jG ⟨g4,hr4,rfl,rfl,hI4⟩;exact HR
  have hlI:Bs x lp=lp:=ak c7;have hlI2:Bs x lp<=lv+1:=O
  refine Yk<|Yt<|Ys<|Yr<|mn Y2<|FP Z Z<|lU (pU Y4) Z<|lU (nK 3 Y3 Pz Z) Z<|mn Y2<|mn Y2<|vh Y3 ((by have h9:=ih e hd _ σ H I iR St l g2 mZ B oT mono (λg nd nv s9 hl=>hY g nd nv s9 Lc) (mono _ _ _ xC (Lr D)) (bD.1 As) A2 n2 p2 x.body (Bs x lp) (lv+1) Pz hvB hlI2 (by have e1:=oT _ _ _ nJ;have e2:=CM oT sQ;omega);rw [hlI] at h9;exact h9)) ?_;rintro _ _ s8 h8 ⟨g3,hr3,rfl,rfl,hI3⟩;rw [<- hlI] at hr3;refine EO Z Z<|mn Y2<|?_;refine Od (t:=50) Z ?_ ?_<;>intro c9;.exact Il
  refine Yg Z Z<|mn Y2<|Yg Z Z<|FP Z Z<|Yg Z Z<|lU (pU Y4) Z<|Yg Z Z<|lU (nK 4 Y3 Pz Z) Z<|Yg Z Z<|mn Y2<|Yg Z Z<|mn Y2<|Yg Z Z<|vh Y3 ((by have h9:=ih e hd _ σ H I iR St l g3 mZ B oT mono (λg nd nv s9 hl=>hY g nd nv s9 Lc) (mono _ _ _ hI3 (Lr D)) (bD.1 As) A3 n3 p3 x.els (Bs x lp) (lv+1) Pz hvL hlI2 Q36;rw [hlI] at h9;exact h9)) ?_;rintro _ _ kH jG ⟨g4,hr4,rfl,rfl,hI4⟩;rw [<- hlI] at hr4;exact HR
 rw [aL O,ly] at jH;exact IC
def WH{D:Nat}:∀ d,Wi D d
 | 0=>λs σ H I iR St l g0 mZ B oT mono hY hI hp A n c xs lp lv hA hv sO y5=>qrS (λe h=>O) σ H I iR St mZ B oT mono hY hI hp lv hA hv sO y5
 | d+1=>λs σ H I iR St l g0 mZ B oT mono hY hI hp A n c xs lp lv hA hv sO y5=>qrS (d:=d+1) (λe h=>(show d=e by omega)▸WH d) σ H I iR St mZ B oT mono hY hI hp lv hA hv sO y5
def qqG{σ:Type}(H:σ->Hl)(I:σ->World->Prop)(iR:σ->Option Code)(Srq9:σ->Nd->σ->Prop){g0:σ}(mZ:σ->Nat)(B:Nat)(oT:∀ g nd g1,Srq9 g nd g1->mZ g1<=mZ g+1)(mono:∀ g s s',I g s->Le D s s'->I g s')(hY:∀ g nd nv s',Le D s s'->I g s'->iR g=none->mZ g < B->tR s' nd nv->YC prog D l [nv] (H g) s' λv L' s3=>∃ g1,Srq9 g nd g1/\v=.bool (iR g1).isNone/\L'=H g1/\I g1 s3)(hI:I g0 s)(hp:iR g0=none)(d:Nat)(x:iM)(A1 A2 A3:iE)(n1 q1 n2 q2 n3 q3:Nat)(p9:iy s b 0 [St x.name,.slice A1 n1 q1,.slice A2 n2 q2,.slice A3 n3 q3])(hB:jo d s A3 n3 q3 x.body)(hv:oC x.body 1=true)(y5:mZ g0+(ly x.body 0).length<=B):jU D 96 [.func (.yield l) #[] #[],iT b] (H g0) s λ_ L' s3=>∃ g',tN iR Srq9 g0 (ly x.body 0) g'/\L'=H g'/\I g' s3:=by
 refine Ka (fn:=f96) jb func96 V Z ntmps96 Z (rs:=[]) Z [(0,_),(1,_)] Z<|Yr<|lU (pU Y4) Z<|lU (nK 3 Y3 Pz Z) Z<|mn Y2<|vh Y3 (WH d _ σ H I iR Srq9 l g0 mZ B oT mono (λg nd nv s9 hl=>hY g nd nv s9 Lc) (mono _ _ _ hI (Lr D)) hp A3 n3 q3 x.body 0 1 Pz hv O y5) ?_;rintro _ _ s1 h1 ⟨g2,sQ,rfl,rfl,xC⟩;refine Yn ?_;refine zx [] _ (.inl Z) (.nil) Z h1 ⟨[],Z,cK _⟩ λ_ iD=>?_;exact ⟨g2,sQ,rfl,mono _ _ _ xC Lc⟩
def qBm{x:iM}:pQ D 57 [.agg #[St x.name,.slice A1 n1 q1,.slice A2 n2 q2,.slice A3 n3 q3]] L s λv M' _=>∃ b,M'=[(b,cb [St x.name,.slice A1 n1 q1,.slice A2 n2 q2,.slice A3 n3 q3] 64)]/\v=.func (.func 96) #[] #[iT b]:=by
 refine jn (fn:=f57) jb func57 V Z ntmps57 Z (rs:=[.tmp 2]) Z [(0,_)] Z<|Sr<|kF Y2 λβ1 s1 h1=>At Z Z<|Sr<|iA (qZ Z) Z<|G4 ?_;exact rR [] _ (.t1 Z) Z h1 λ_ iD=>⟨[_],rfl,_,rfl,rfl⟩
def quT(d:Nat)(p:jc)(jF:ja s Ag ng cg p.o)(jX:jl d s Af nf cf p.funcs)(hM:oJ s bm p){x:iM}(qp:iO s A1 n1 q1 x.params)(j5:iO s A2 n2 q2 x.locals)(nd:Nd)(hN:tR s nd nv):jT D 58 [.agg #[.slice Ag ng cg,.slice Af nf cf,.map (some bm)],.agg #[St x.name,.slice A1 n1 q1,.slice A2 n2 q2,.slice A3 n3 q3],nv] L s (iB (jJ p x nd)):=by
 cases nd with
 | st y lp=>
  obtain ⟨b,o,C1,r1,e1,C2,r2,e2,C3,r3,e3,rfl,hy,hr⟩:=hN;exact qBL jF jX hM qp j5 hy hr
 | ex y lp=>
  obtain ⟨b,o,C1,r1,e1,rfl,hy,hr⟩:=hN;exact qBK jF jX hM qp j5 hy hr
def qsk:∀ {l:List jv} {seen:List iH} {i:Nat},seen.Nodup->se l seen i=(0,0)->(seen++l.map jv.name).Nodup
  | [],seen,_,h,_=>by simpa using h
  | g::r,seen,i,h,h0=>by
    rw [se] at h0;split at h0
    . cases h0
    . rename_i h1
      have:=qsk (l:=r) (seen:=seen++[g.name]) (by
        rw [bI];refine ⟨h,Ξ,λa ha b hb=>?_⟩;rw [aU] at hb;subst hb;intro e;subst e;exact h1 ha) h0
      simpa using this
def qsh:∀ {l:List iM} {seen:List iH} {i:Nat},seen.Nodup->qF l seen i=(0,0)->(seen++l.map iM.name).Nodup/\∀ x∈l,(x.params++x.locals).Nodup
  | [],seen,_,h,_=>⟨by simpa using h,λx hx=>by cases hx⟩
  | g::r,seen,i,h,h0=>by
    rw [qF] at h0;split at h0
    . cases h0
    . rename_i h1
      have:=qsh (l:=r) (seen:=seen++[g.name]) (by
        rw [bI];refine ⟨h,Ξ,λa ha b hb=>?_⟩;rw [aU] at hb;subst hb;intro e;subst e;exact h1 (.inl ha)) h0
      refine ⟨by simpa using this.1,λx hx=>?_⟩;rcases aR.1 hx with rfl|hx
      . exact eF.1 λh2=>h1 (.inr h2)
      . exact this.2 x hx
def An(h:(pB p).1=0):((jY p).map (·.1)).Nodup/\∀ x∈p.funcs,(x.params++x.locals).Nodup:=by
 unfold pB at h;split at h
 . rename_i h1;exact absurd h h1
 rename_i h1;split at h
 . rename_i h2;exact absurd h h2
 rename_i h2;have e1:=qsk (l:=p.o) (seen:=[]) (i:=0) Ξ (qsq.1 Q5);have e2:=qsh (l:=p.funcs) (seen:=p.o.map jv.name) (i:=p.o.length) (by simpa using e1) (qsq.2 Q9);refine ⟨?_,e2.2⟩;have:(jY p).map (·.1)=p.o.map jv.name++p.funcs.map iM.name:=by
  rw [jY,bO];congr 1<;>(apply eN<;>simp)
 rw [this];exact e2.1
end
def qws(A R:Hl)(l:Nat)(o o':Obj):lV (A++(l,o)::R) A.length o'=A++(l,o')::R:=by
 induction A with
 | nil=>rfl
 | cons x A ih=>show x::lV (A++(l,o)::R) A.length o'=_;rw [ih];rfl
section calls
variable{TT:kD}{fr:Fr}
section range
variable{σ α:Type}(H:σ->Hl)(I:σ->World->Prop)(iR:σ->Option Code)(St:σ->α->σ->Prop)(enc:α->iz)(Pre:σ->α->World->Prop)(Fin:σ->Prop)
def H_{AR:α->Fr->Hl->Prop}{g:Operand}{ps:List Nat}{assign body:Code}{fi:FuncId}{cap:iz}(hg:lk fr g=some (.func (.func fi) #[] cap.toArray))(g0:σ)(hL:L=H g0)(hI0:I g0 s)(Bn:iR g0=none)
    (mono:∀ g s s',I g s->Le D s s'->I g s') (hpd:∀ g,iR g=none\/iR g=some .ret\/∃ id,iR g=some (.exit id))
    (hps:∀ p,(enc p).length=ps.length) (hpn:ps.all (λt=>Nat.blt t n)=true)
    (hassign:∀ (l:Nat) (p:α) (L':Hl) (s':World),RC P TT D n (some l) (λe xz jN L1 s1=>e=.normal/\xz=[]/\(∃ A,AR p jN A/\L1=A++L')/\Le D s' s1) assign [] (qzP fr ps (enc p)) L' s')
    (hbody:∀ (l dk:Nat) (o1 o2:Obj) (g:σ) (p:α) (s' s0:World) (si:Fr) (A1:Hl),Le D s s'->Le D s' s0->I g s'->iR g=none->Pre g p s'->AR p si A1 ->
      RC P TT D n (some l) (λe _ _ L1 s1=>∃ g1,St g p g1/\EM e=some (iR g1)/\∃ A,L1=A++((l,o1)::(dk,o2)::H g1)/\Le D s0 s1/\I g1 s1) body [] si (A1++((l,o1)::(dk,o2)::H g)) s0)
    (hit:∀ (l:Nat) (HH:σ->Hl) (s':World),Le D s s'->(∀ g p s'',Le D s s''->I g s''->iR g=none->Pre g p s''->YC P D l (enc p) (HH g) s'' λv L' s3=>∃ g1,St g p g1/\v=.bool (iR g1).isNone/\L'=HH g1/\I g1 s3) ->
      AC P D fi (.func (.yield l) #[] #[]::cap) (HH g0) s' λ_ L' s3=>∃ g',Fin g'/\L'=HH g'/\I g' s3)
    (hpost:∀ (dk:Nat) (g':σ) (s3:World),Le D s s3->Fin g'->I g' s3->Q (qHM (iR g')) (BH dk::ds) fr ((dk,Obj.deferred (some []))::H g') s3) :
    RC P TT D n none Q (.rangeFunc g ps.toArray assign body) ds fr L s:=λhT a hr ho=>by
  subst hL;refine wpIn_rangeFunc ?_;intro fn _;have hro:(Do none).round=none:=rfl;rw [hro]

  obtain ⟨a1,a2,a3⟩:=qB ho (Obj.deferred (some []));obtain ⟨rec,sR⟩:∃ rec:LoopState->Option Code->Loop,rec=λst pe=>{ state:=st,pending:=pe,fn,tmps:=a.tmps,params:=ps.toArray,assign,body,defers:=(fill (H g0) s).heap.size }:=⟨_,rfl⟩;obtain ⟨b1,b2,b3⟩:=qB a2 (Obj.loop (rec .ready none));obtain ⟨dk,hdk⟩:∃ dk,dk=s.heap.size:=⟨_,rfl⟩;obtain ⟨l,hl⟩:∃ l,l=(s.alloc (mJ D)).heap.size:=⟨_,rfl⟩;rw [<- hdk,<- hl] at b1 b2;rw [<- hdk] at a1;have hfs:(fill (H g0) s).heap.size=dk:=by rw [oB,hdk]
  obtain ⟨HH,hHH⟩:∃ HH:σ->Hl,HH=λg=>(l,Obj.loop (rec (if (iR g).isNone then .ready else .done) (iR g)))::(dk,Obj.deferred (some []))::H g:=⟨_,rfl⟩;have sS:HH g0=(l,Obj.loop (rec .ready none))::(dk,Obj.deferred (some []))::H g0:=by rw [hHH];simp only [Bn,Option.isNone_none,bV]
  obtain ⟨s2,j5⟩:∃ s2,s2=(s.alloc (mJ D)).alloc (mJ D):=⟨_,rfl⟩;rw [<- j5] at b1 b2 b3;have qK:Le D s s2:=a3.trans b3

  have hY:∀ g p s'',Le D s s''->I g s''->iR g=none->Pre g p s''->YC P D l (enc p) (HH g) s'' λv L' s3=>∃ g1,St g p g1/\v=.bool (iR g1).isNone/\L'=HH g1/\I g1 s3:=by
    intro g p s'' tv hI hpn0 hPre hoY;have eH:HH g=(l,Obj.loop (rec .ready none))::(dk,Obj.deferred (some []))::H g:=by rw [hHH];simp only [hpn0,Option.isNone_none,bV]
    rw [eH] at hoY ⊢;have xL:(fill ((l,Obj.loop (rec .ready none))::(dk,Obj.deferred (some []))::H g) s'').heap[l]?=some (.loop (rec .ready none)):=qM hoY Mc;have jp:((enc p).toArray).size=(rec .ready none).params.size:=by rw [sR];simp [hps p]
    refine ⟨_,_,_,_,run_yield xL jp,?_⟩;have hro2:RoundIn (Do none) 0 P l (rec .ready none).fn (((rec .ready none).params.zip (enc p).toArray).foldl (λtmps x=>tmps.setIfInBounds x.1 x.2) (rec .ready none).tmps) (rec .ready none).assign (rec .ready none).body (fill ((l,Obj.loop (rec .ready none))::(dk,Obj.deferred (some []))::H g) s'') λe w'=>∃ v L' s',e=.returned v/\w'=fill L' s'/\jQ D L' s'/\Le D s'' s'/\(∃ g1,St g p g1/\v=.bool (iR g1).isNone/\L'=HH g1/\I g1 s'):=by
      refine roundIn_of_wpIn Tt ?_;have e1:(rec .ready none).assign=assign:=by rw [sR]
      have e2:(rec .ready none).body=body:=by rw [sR]
      have e3:((rec .ready none).params.zip (enc p).toArray).foldl (λtmps x=>tmps.setIfInBounds x.1 x.2) (rec .ready none).tmps=(ps.zip (enc p)).foldl (λtmps x=>tmps.setIfInBounds x.1 x.2) a.tmps:=by
        rw [sR];simp
      rw [e1,e2,e3];have oU:vG [] n { tmps:=(ps.zip (enc p)).foldl (λtmps x=>tmps.setIfInBounds x.1 x.2) a.tmps,defers:=[] } (qzP fr ps (enc p)):=by
        refine ⟨qpO n (ps.zip (enc p)) fr a hr.rel ?_,Z⟩;rw [bU] at hpn ⊢;intro x hx;exact hpn x.1 (List.of_mem_zip hx).1
      refine ft (hassign l p _ s'' hT _ oU hoY) ?_;rintro e a1 w1 ⟨ds1,si,L1,s1,k1,k2,rfl,rfl,rfl,⟨A1,k3,rfl⟩,k4⟩

      have hrl1:(fill (A1++((l,Obj.loop (rec .ready none))::(dk,Obj.deferred (some []))::H g)) s1).heap[l]?=some (.loop (rec .ready none)):=qM k2 (aF _ Mc);have nJ:(rec .ready none).state=.ready:=by rw [sR]
      refine ⟨_,run_beginRound hrl1 nJ,?_⟩;obtain ⟨ob,hob⟩:∃ ob,ob=Obj.loop { rec .ready none with state:=.busy }:=⟨_,rfl⟩;rw [Tb,<- hob,<- Dr k2 (i:=A1.length) (p:=Obj.loop (rec .ready none)) Ξ ob];have ho3:=DB k2 A1.length ob;rw [qws] at ho3 ⊢;refine ft (hbody l dk ob (Obj.deferred (some [])) g p s'' s1 si A1 tv k4 hI hpn0 hPre k3 hT _ k1 ho3) ?_;rintro e2 a2 w2 ⟨ds2,fr2,L2,s2',j1,j2,rfl,g1,jst,jj,A,rfl,jle,jI⟩;obtain ⟨d1,d2,d3⟩:=tI j2;have hend:∀ j:Option Code,iR g1=j->∃ v w',(Instr.endRound l j).run P (fill (A++((l,ob)::(dk,Obj.deferred (some []))::H g1)) s2')=.ok v w'/\(∃ v' L' s',Ending.returned v=.returned v'/\w'=fill L' s'/\jQ D L' s'/\Le D s'' s'/\(∃ g1,St g p g1/\v'=.bool (iR g1).isNone/\L'=HH g1/\I g1 s')):=by
        intro j hj;have hrl2:(fill ((l,ob)::(dk,Obj.deferred (some []))::H g1) (fill A s2')).heap[l]?=some (.loop { rec .ready none with state:=.busy }):=by rw [qM d2 Mc,hob]
        rw [d1];refine ⟨_,_,run_endRound j hrl2,_,HH g1,fill A s2',Z,?_,?_,k4.trans (jle.trans d3),g1,jst,by rw [hj],Z,mono _ _ _ jI d3⟩
        . rw [Tb,<- Dr d2 (i:=0) rfl]
          simp only [lV,hHH,hj];congr 3;rw [sR]
        . have:=DB d2 0 (Obj.loop (rec (if (iR g1).isNone then .ready else .done) (iR g1)))
          simp only [lV] at this;rw [hHH];exact this
      cases e2 with
      | normal=>exact hend none (by simpa [EM] using jj.symm)
      | ret=>exact hend (some .ret) (by simpa [EM] using jj.symm)
      | exit id=>exact hend (some (.exit id)) (by simpa [EM] using jj.symm)
      | goto t=>cases jj
      | panic c=>cases jj
      | outgrown=>cases jj
    exact hro2
  have hAC:=hit l HH s2 qK hY;obtain ⟨⟨pG,h1,h2,h3⟩,hc⟩:=hAC;have h2':¬ pG.name = "runtime.NumGoroutine" := by simpa using h2
  have h3':¬ pG.body=none:=by intro e;simp [e] at h3
  have hev:=hr.ev hg;have hworld:((fill (H g0) s).alloc (.deferred (some []))).alloc (.loop (rec .ready none))=fill (HH g0) s2:=by rw [sS,<- b1,<- a1]
  have hen:(Instr.enterLoop fn a.tmps ps.toArray assign body none).run P (fill (H g0) s)=.ok (l,[BH dk]) (fill (HH g0) s2):=by
    rw [run_enterLoop_outer,<- hworld];have e1:(fill (H g0) s).heap.size+1=l:=by rw [hfs,hl,World.size_alloc,hdk]
    rw [e1,BH,<- hfs,sR]
  refine ⟨l,[BH dk],fill (HH g0) s2,{ target:=.fn (.func fi) cap.toArray,args:=#[.func (.yield l) #[] #[]] },fill (HH g0) s2,fi,(.func (.yield l) #[] #[]::cap).toArray,fill (HH g0) s2,hen,?_,λf _=>DF none f,?_,NX none 0,?_⟩
  . simp only [resolve,hev]
    simp [go_sem]
  . simp [invoke,callFunc,h1,h2',h3']
  . have hoH:jQ D (HH g0) s2:=by rw [sS];exact b2
    refine (TB none (hc hoH)).mono ?_;rintro e w' ⟨v,L',s3,rfl,rfl,q1,q2,g',q3,rfl,q4⟩;have eH:HH g'=(l,Obj.loop (rec (if (iR g').isNone then .ready else .done) (iR g')))::(dk,Obj.deferred (some []))::H g':=by rw [hHH]
    rw [eH] at q1 ⊢;have xL:(fill ((l,Obj.loop (rec (if (iR g').isNone then .ready else .done) (iR g')))::(dk,Obj.deferred (some []))::H g') s3).heap[l]?=some (.loop (rec (if (iR g').isNone then .ready else .done) (iR g'))):=qM q1 Mc;have hnb:(rec (if (iR g').isNone then .ready else .done) (iR g')).state≠.busy:=by
      rw [sR];simp only;split<;>(intro h;cases h)
    have hpe:(rec (if (iR g').isNone then .ready else .done) (iR g')).pending=iR g':=by rw [sR]
    have jH:=run_endLoop (P:=P) xL hnb;rw [hpe] at jH;obtain ⟨oe,hoe⟩:∃ oe,(Instr.endLoop l).run P (fill ((l,Obj.loop (rec (if (iR g').isNone then .ready else .done) (iR g')))::(dk,Obj.deferred (some []))::H g') s3)=.ok (iR g') (pz (fill ((l,Obj.loop (rec (if (iR g').isNone then .ready else .done) (iR g')))::(dk,Obj.deferred (some []))::H g') s3) l oe):=⟨_,jH⟩;refine ⟨iR g',_,hoe,?_⟩;rw [<- Dr q1 (i:=0) rfl oe];have ho4:=DB q1 0 oe;simp only [lV] at ho4 ⊢;obtain ⟨d1,d2,d3⟩:=tI (A:=[(l,oe)]) (B:=(dk,Obj.deferred (some []))::H g') ho4;simp only [jC,jD] at d1;rw [d1];have hQ:=hpost dk g' (fill [(l,oe)] s3) (qK.trans (q2.trans d3)) q3 (mono _ _ _ q4 d3);have hfr2:vG (BH dk::ds) n { a with defers:=[BH dk]++a.defers } fr:=⟨hr.rel,by show [BH dk]++a.defers=_;rw [hr.defers];rfl⟩;rcases hpd g' with hp|hp|⟨id,hp⟩
    . rw [hp] at hQ ⊢
      exact ⟨_,_,_,_,hfr2,d2,rfl,hQ⟩
    . rw [hp] at hQ ⊢
      exact wpIn_ret ⟨_,_,_,_,hfr2,d2,rfl,hQ⟩
    . rw [hp] at hQ ⊢
      exact wpIn_exit ⟨_,_,_,_,hfr2,d2,rfl,hQ⟩
end range
end calls
def qyZ{TT:kD}{fr jN:Fr}(h:iY fr jN)(k:RC P TT D n ro Q c ds jN L s):RC P TT D n ro Q c ds fr L s:=λht a hr ho=>k ht a (hr.sub h) ho
def qAU{TT:kD}{fr:Fr}(hp:L.Perm L')(h:RC P TT D n ro Q c ds fr L' s):RC P TT D n ro Q c ds fr L s:=λht a hr ho=>by
 rw [uc hp _ ho];exact h ht a hr (ho.perm hp)
section
variable{TT:kD}{fr:Fr}{ops:Array Oper}
def qy0{t:Nat}(hx:lk fr x=some v)(hz:nN v=zs)(hd:Nat.blt d n=true)
  (k:∀ β s',Le D s s'->RO P TT D n ro ops Q iI ds ((d,iT β)::fr) ((β,cb zs t)::L) s'):RO P TT D n ro ops Q (⟨some d,.box t x,ty,iL,af,none⟩::iI) ds fr L s:=λhT a hr ho=>
 La (by nofun) hd (UL hx hz ho) (k _ _ (qB ho (cb zs t)).2.2) hT a hr ho
def Uk{t:Nat}(hx:lk fr x=some (.agg zs.toArray))(hd:Nat.blt d n=true)
  (k:∀ β s',Le D s s'->RO P TT D n ro ops Q iI ds ((d,iT β)::fr) ((β,cb zs t)::L) s'):RO P TT D n ro ops Q (⟨some d,.box t x,ty,iL,af,none⟩::iI) ds fr L s:=
 qy0 hx (by simp [nN]) hd k
end
section
attribute [local irreducible] JC JO JA JB ma mO mX AC fill iy QE Ev my
variable{c β np cp:Nat}{l:List Tm}{Ap:iE}{lp:List Ac}
def tR.agg(h:tR s nd nv):∃ (pa pb:iE) (lp:Nat),nv=.agg #[.pointer pa,.pointer pb,iB (lp:Int)]:=by
 cases nd with
 | st y lp=>obtain ⟨b,o,C1,r1,e1,C2,r2,e2,C3,r3,e3,rfl,hy,hr⟩:=h;exact ⟨_,_,_,rfl⟩
 | ex y lp=>obtain ⟨b,o,C1,r1,e1,rfl,hy,hr⟩:=h;exact ⟨_,_,_,rfl⟩
def tR.le(h:tR s nd nv)(hl:Le D s s'):tR s' nd nv:=by
 cases nd with
 | st y lp=>obtain ⟨b,o,C1,r1,e1,C2,r2,e2,C3,r3,e3,rfl,hy,hr⟩:=h;exact ⟨b,o,C1,r1,e1,C2,r2,e2,C3,r3,e3,rfl,hy.le hl,hr⟩
 | ex y lp=>obtain ⟨b,o,C1,r1,e1,rfl,hy,hr⟩:=h;exact ⟨b,o,C1,r1,e1,rfl,hy.le hl,hr⟩
def T6:∀ (l:List Ex) (lp:Nat),(oY l lp).length=lh l
 | [],_=>rfl
 | .mk k o n nm ar::r,lp=>by rw [oY,oA,lh,mT,ac,aw,T6 ar,T6 r];omega
def On:∀ (l:List iP) (lp:Nat),(ly l lp).length=ke l
 | [],_=>rfl
 | .mk k nm es b e::r,lp=>by rw [ly,tA,ke,qm,ac,aw,ac,ac,T6 es,On b,On e,On r];omega
def um(p:jc)(x:iM):List Nd->Int
 | []=>0
 | n::r=>if jJ p x n=0 then um p x r else jJ p x n
def zJ(p:jc):List iM->Nat->Int×Int
 | [],_=>(0,0)
 | x::r,i=>if um p x (ly x.body 0)=0 then zJ p r (i+1) else (um p x (ly x.body 0),(i:Int))
def kG(p:jc):Int×Int:=if (pn p).1≠0 then pn p else if (pB p).1≠0 then pB p else zJ p p.funcs p.o.length
def qqQ{l:List iM}{x:iM}(h:l[k]?=some x):zJ p (l.drop k) i=if um p x (ly x.body 0)=0 then zJ p (l.drop (k+1)) (i+1) else (um p x (ly x.body 0),(i:Int)):=by
 obtain ⟨hk,rfl⟩:=al.1 h;rw [aM hk,zJ]
def qla{p:jc}{x:iM}:∀ {l:List Nd},um p x l=0->∀ nd∈l,jJ p x nd=0
  | [],_=>λnd h=>by cases h
  | n::r,h=>λnd hm=>by
    rw [um] at h;split at h
    . rename_i h1
      rcases aR.1 hm with rfl|hm
      . exact h1
      . exact qla h nd hm
    . rename_i h1;exact absurd h h1
def F_{p:jc}:∀ {l:List iM} {i:Nat},(zJ p l i).1=0->zJ p l i=(0,0)/\∀ x∈l,∀ nd∈ly x.body 0,jJ p x nd=0
  | [],_,_=>⟨rfl,λx h=>by cases h⟩
  | y::r,i,h=>by
    rw [zJ] at h ⊢;split at h
    . rename_i h1
      obtain ⟨a,b⟩:=F_ h;rw [au h1];refine ⟨a,λx hm=>?_⟩;rcases aR.1 hm with rfl|hm
      . exact qla h1
      . exact b x hm
    . rename_i h1;exact absurd h h1
def qot(h:(pB p).1=0):pB p=(0,0):=by
  unfold pB at h ⊢;split at h
  . rename_i h1;exact absurd h h1
  rename_i h1;rw [ak h1];split at h
  . rename_i h2;exact absurd h h2
  rename_i h2;rw [ak h2];split at h
  . cases h
  rename_i h3;rw [ak h3];split at h
  . split at h
    . rename_i h4;rw [au h4]
    . cases h
  . rfl
def qP(p:jc):Prop:=PV p/\pB p=(0,0)/\∀ x∈p.funcs,∀ nd∈ly x.body 0,jJ p x nd=0
def qP.of(hu:qd p)(h:(kG p).1=0):qP p/\kG p=(0,0):=by
 unfold kG at h ⊢;split at h
 . rename_i h1;exact absurd h h1
 rename_i h1;split at h
 . rename_i h2;exact absurd h h2
 rename_i h2;rw [ak h1,ak h2];obtain ⟨a,b⟩:=F_ h;exact ⟨⟨PV.of hu (FY Q5),qot Q9,b⟩,a⟩
abbrev PG(g:Option Int):Option Code:=g.map λ_=>.ret
abbrev Ll(p:jc)(x:iM)(nd:Nd)(g1:Option Int):Prop:=g1=if jJ p x nd=0 then none else some (jJ p x nd)
def qs3{p:jc}{x:iM}:∀ {l:List Nd} {g':Option Int},tN PG (λ_ nd g1=>Ll p x nd g1) none l g'->g'=if um p x l=0 then none else some (um p x l)
  | [],g',h=>by
    have h:g'=none:=h;rw [h,um,au rfl]
  | n::r,g',⟨g1,h1,h2⟩=>by
    have h1:g1=if jJ p x n=0 then none else some (jJ p x n):=h1
    by_cases h3:jJ p x n=0
    . rw [au h3] at h1;subst h1
      rw [show (PG none).isNone=true from rfl,au rfl] at h2;rw [um,au h3];exact qs3 h2
    . rw [ak h3] at h1;subst h1
      rw [ak Ξ] at h2;subst h2;rw [um,ak h3,ak h3]
def qy5{x:iM}:jU D 57 [.agg #[St x.name,.slice A1 n1 q1,.slice A2 n2 q2,.slice A3 n3 q3]] L s λv L' s'=>L=L'/\∃ b,v=.func (.func 96) #[] #[iT b]/\iy s' b 0 [St x.name,.slice A1 n1 q1,.slice A2 n2 q2,.slice A3 n3 q3]:=by
 refine (AC.pub (qBm)).mono ?_;rintro v L1 s1 _ ⟨h1,M1,s2,⟨b,rfl,h3⟩,_,h5⟩;exact ⟨h1,b,h3,h5 _ _ _ Mc⟩
def FX(hG:GP s)(d:Nat)(p:jc)(jF:ja s Ag ng cg p.o)(jX:jl d s Af nf cf p.funcs):jT D 22 [.agg #[.slice Ag ng cg,.slice Af nf cf]] L s (.agg #[iB (kG p).1,iB (kG p).2]):=by
 have l7:=jF.1;have oW:=jX.1;have hU:qd p:=⟨jF.u,jX.u⟩;refine Ka (fn:=Tryz.f22) jb Tryz.func22 V Z Tryz.ntmps22 Z (rs:=[.cell 2 30]) Z [(0,_)] Z<|Ys<|Yr<|Uk Z Z λβ1 s1 h1=>BA Z [_,_] Z Z λβ2 s2 h2=>Yn<|Yt<|Ys<|Ys<|Yr<|lU (iZ 1 [_,_] Y5) Z<|vh Y3 (d' Pz d p Pz Pz) ?_;rintro _ _ s3 h3 ⟨rfl,rfl⟩;refine BA Z [_,_] Z Z λt4 s4 h4=>yC 0 [_,_] Y9<|Yn<|Yt<|Ys<|Yr<|lU (iZ 0 [_,_] Y5) Z<|lU (jB [] [_,_] Y3 Z Z Z) Z<|lU (ui Z Z (sp)) Z<|Yn<|Yt<|?_;refine O5 Z ?_ ?_<;>intro c5;.have hE:kG p=pn p:=au (λh=>c5 (by rw [UB h];exact ⟨rfl,rfl⟩));refine Ys<|Yr<|lU (iZ 0 [_,_] Y5) Z<|yC 1 [_,_] Y9<|Yn<|Yt<|Yo<|Yu<|?_;refine zx (_::_::_::[]) L (.inr Z) (.agg (us:=[_,_]) 1 Z Z Z Z Z (.nil)) Z Lc ⟨[],Z,cK _⟩ λ_ iD=>?_;exact tL
 have g4:=c5;have vK:¬ (pn p).1≠0:=λh=>h g4.1;have hV:=PV.of hU (FY g4.1);have y8:=hV.1;have A0:=hV.2.1;have sn:=hV.2.2.2.1;refine Yk<|Yt<|Ys<|Ys<|Yr<|lU (iZ 2 [_,_] Y5) Z<|vh Y3 (qBJ d Pz Pz hV) ?_;rintro _ _ s6 h6 ⟨rfl,rfl⟩;refine BA Z [_,_] Z Z λd7 s7 h7=>yC 0 [_,_] Y9<|Yn<|Yt<|Ys<|Yr<|lU (iZ 0 [_,_] Y5) Z<|lU (jB [] [_,_] Y3 Z Z Z) Z<|lU (ui Z Z (sp)) Z<|Yn<|Yt<|?_;refine O5 Z ?_ ?_<;>intro c8;.have hE:kG p=pB p:=(ak vK).trans (au (λh=>c8 (by rw [qot h];exact ⟨rfl,rfl⟩)));refine Ys<|Yr<|lU (iZ 0 [_,_] Y5) Z<|yC 2 [_,_] Y9<|Yn<|Yt<|Yo<|Yu<|?_;refine zx (_::_::_::_::[]) L (.inr Z) (.agg (us:=[_,_]) 2 Z Z Z Z Z (.nil)) Z Lc ⟨[],Z,cK _⟩ λ_ iD=>?_;exact tL
 have g5:=c8;have g20:¬ (pB p).1≠0:=λh=>h g5.1;refine Yk<|Yt<|Ys<|Yr<|lU (iZ 3 [_,_] Y5) Z<|vh Y3 (wP d p Pz Pz (An g5.1).1) ?_;rintro _ _ s9 h9 ⟨rfl,bm,rfl,hM⟩;refine BA Z [_,_,_] Z Z λb10 kH jG=>yC 0 [_,_,_] Y9<|Yn<|Yt<|Ys<|Ys<|Yr<|SQ Z Z Z Z Z<|CD 4 Y6<|Nj Z Z Z Z<|mn Y2<|Yn<|Yt<|Yp<|?_;refine quf (γ:=Nat×List Nat) (λg=>[(1,_),(2,_),(5,_),(25,_),(26,_),(27,iB (g.1:Int))]) (λg=>_::_::_::_::_::(g.2.map Fu++L)) (λg=>g.2.map BH) (λg tw=>Le D kH tw/\(g.1<=nf/\zJ p p.funcs p.o.length=zJ p (p.funcs.drop g.1) (p.o.length+g.1))) (λg=>nf - g.1) (λ_ _ _ h hl=>⟨h.1.trans hl,h.2⟩) (0,[]) (.c6 Z Z Z Z Z Z (.nil _)) Z Z ⟨Le.refl _,⟨aB _,Z⟩⟩ ?_;intro g kz I11;obtain ⟨k,bs⟩:=g;obtain ⟨ko,hS⟩:=I11.2;simp only at ko hS;dsimp only;refine Ys<|Yr<|SR Z Z Z<|Yn<|Yt<|Ys<|?_;refine KR Z ?_ ?_<;>intro oL
 .have hk:k < nf:=O
  obtain ⟨b,off,x,B1,m1,d1,B2,m2,d2,B3,m3,d3,rfl,hx,hcx,oP,oO,so,kL⟩:=jl.at_ Pz hk;have ym:=sn x (ax hx);refine Yk<|Yt<|Ys<|Yp<|Ys<|Yr<|mn Y2<|lU (jK Y6 hk) Z<|lU (ku Y3 Pz Z) Z<|BA Z [_] Z Z λb13 lq kV=>BA Z [_,_,_,_] Z Z λb14 lG kI=>yC 1 [_] Y9<|yC 0 [_,_,_,_] Y9<|Yn<|Yt<|Ys<|Yr<|lU (iZ 0 [_,_,_,_] Y5) Z<|vh Y3 (qy5) ?_;rintro _ _ lW lQ ⟨rfl,ba,rfl,hba⟩;refine Yn<|Yt<|Yp<|?_;refine H_ (σ:=Option Int) (α:=Nd×iE×iE×Nat) (λg=>(b14,cb [St x.name,.slice B1 m1 d1,.slice B2 m2 d2,.slice B3 m3 d3] 64)::(b13,cb [iB (k:Int)] 3)::_::_::_::(β2,cb [iB (g.getD 0),iB (match g with|none=>0|some _=>(ng:Int)+(k:Int))] 30)::_::(bs.map Fu++L)) (λg tw=>True) (λg=>PG g) (λg xn g1=>Ll p x xn.1 g1) (λxn=>[.agg #[.pointer xn.2.1,.pointer xn.2.2.1,iB (xn.2.2.2:Int)]]) (λg xn tw=>tR tw xn.1 (.agg #[.pointer xn.2.1,.pointer xn.2.2.1,iB (xn.2.2.2:Int)])) (λg1=>g1=if um p x (ly x.body 0)=0 then none else some (um p x (ly x.body 0))) (AR:=(λxn fr A=>∃ βy,iY fr [(8,iT βy),(1,iT β1),(2,iT β2),(5,iT b10),(6,iT b13),(7,iT b14)]/\A=[(βy,cb [.pointer xn.2.1,.pointer xn.2.2.1,iB (xn.2.2.2:Int)] 146)])) (cap:=[_]) Z none Z (Tt) Z (λ_ _ _ h _=>h) (λg=>by cases g with
    | none=>exact .inl rfl
    | some f=>exact .inr (.inl rfl)) (λ_=>rfl) rfl ?_ ?_ ?_ ?_
  .intro l16 x16 L16 sB;refine Yr<|BA Z [_,_,_] Z Z λb17 vD vm=>yC 0 [_,_,_] Y9<|Yn ?_;exact ⟨rfl,rfl,⟨[_],⟨_,(.cons rfl (.cons rfl (.cons rfl (.cons rfl (.cons rfl (.cons rfl (.nil _))))))),rfl⟩,rfl⟩,vm⟩
  .rintro l18 d18 o18 p18 g xn BO BP fr18 A18 h18 yh I18 hp18 P18 ⟨βy,hK18,rfl⟩;refine qyZ hK18 ?_;simp only [jC,jD];obtain ⟨nd,pa,pb,lp⟩:=xn;have hN:=P18;simp only at hN;obtain rfl:g=none:=by cases g with
     | none=>rfl
     | some f=>cases hp18
   dsimp only;refine Yp<|Ys<|Yr<|lU (iZ 5 [_,_,_] Y5) Z<|lU (iZ 3 [_,_,_,_] Y5) Z<|lU (iZ 0 [_,_,_] Y5) Z<|vh Y3 (quT d p Pz Pz Pz Pz Pz nd Pz) ?_;rintro _ _ yK qT ⟨rfl,rfl⟩;refine xx Z Z<|Yn<|Yt<|Ys<|Yr<|mn Y2<|Jw Z Z Z<|Yn<|Yt<|?_;refine O5 Z ?_ ?_<;>intro c21;.have hz:¬ jJ p x nd=0:=c21;refine Ys<|Yr<|mn Y2<|Ni Z Z Z Z Z<|lU (Wd 9 Y5) Z<|Nj Z Z Z Z<|CD 4 Y6<|PF Z Z Z (jq O O)<|vh Y3 (BZ) ?_;rintro _ _ s22 h22 ⟨rfl,rfl⟩;refine yC 8 [_,_] Y9<|Yn<|Yt<|Yo<|Yc<|?_;refine ⟨some (jJ p x nd),(by simp only [Ll];rw [ak hz]),Z,[_],Z,Lc,Tt⟩
   have hz:jJ p x nd=0:=c21;refine Yk<|Yb<|?_;refine ⟨none,(by simp only [Ll];rw [au hz]),Z,[_],Z,qT,Tt⟩
  .intro l22 HH s22 h22 hY;refine (qqG HH (λg tw=>True) (PG) (λg nd g1=>Ll p x nd g1) ((λ_=>0)) (ly x.body 0).length (λ_ _ _ _=>aB _) (λg s s' h hl=>h) ?_ (Tt) Z d x B1 B2 B3 m1 d1 m2 d2 m3 d3 Pz Pz ym.2.2.2.2.1 (Nat.le_of_eq (aX _))).mono ?_
   . intro g nd nv s2 qX xC rP pt hN2
     obtain ⟨pa,pb,lp,rfl⟩:=hN2.agg;exact hY g (nd,pa,pb,lp) s2 (h22.trans qX) xC rP hN2
   . rintro v L' s3 _ ⟨g',h1,h2,h3⟩
     exact ⟨g',qs3 h1,h2,h3⟩
  intro d23 g s23 h23 F23 I23;have hF:g=if um p x (ly x.body 0)=0 then none else some (um p x (ly x.body 0)):=F23
  cases g with
  | some f=>
   have hbn:¬ um p x (ly x.body 0)=0:=λh=>by rw [au h] at hF;cases hF
   rw [ak hbn] at hF;injection hF with hF
   have hE:kG p=(f,(ng:Int)+(k:Int)):=by
     rw [kG,ak vK,ak g20,hS,qqQ hx,ak hbn,<- hF,l7];simp
   refine Yc<|Yc<|Yu<|Yu<|Yc<|Yu<|?_;refine zx (_::_::_::_::_::_::_::_::bs.map Fu) L (.inr Z) (.agg (us:=[_,_]) 6 Z Z Z Z Z (.nil)) Z Lc ⟨_::bs,Z,List.Sublist.cons_cons _ (List.Sublist.cons _ (List.Sublist.cons _ (List.Sublist.cons _ (List.Sublist.cons _ (List.Sublist.cons _ (List.Sublist.cons _ (List.Sublist.cons _ (gq _))))))))⟩ λ_ iD=>?_;exact tL
  | none=>
   have hbn:um p x (ly x.body 0)=0:=by
     by_cases h:um p x (ly x.body 0)=0
     . exact h
     . rw [ak h] at hF;cases hF
   refine Yb<|Yb<|Yt<|qAU (aO [_] [_,_,_,_,_,_,_] _) ?_;simp only [jC,jD];refine Yr<|PF Z Z Z (jq O O)<|mn Y2<|Yn<|?_;refine OD ⟨(k+1,d23::bs),[_,_],Z,(.c6 Z Z Z Z Z Z (.nil _)),Z,⟨Lc,⟨Oz,by simp only;rw [hS,qqQ hx,au hbn];rfl⟩⟩,Oz⟩
 rw [aL O,zJ] at hS;have hE:kG p=(0,0):=by rw [kG,ak vK,ak g20,hS]
 refine Yl<|Yv<|Yv<|Yd<|Yt<|Ys<|Yr<|lU (jB [] [_,_] Y3 Z Z Z) Z<|yC 3 [_,_] Y9<|Yn<|Yt<|Yo<|?_;refine zx (_::_::_::_::_::bs.map Fu) L (.inr Z) (.agg (us:=[_,_]) 3 Z Z Z Z Z (.nil)) Z Lc ⟨bs,Z,List.Sublist.cons _ (List.Sublist.cons _ (List.Sublist.cons _ (List.Sublist.cons _ (List.Sublist.cons _ (gq _)))))⟩ λ_ iD=>?_;exact tL
def qwE{l:List Ins}{y:Ins}(h:l[j]?=some y):l.take (j+1)=l.take j++[y]:=by
 obtain ⟨hj,rfl⟩:=al.1 h;rw [bM hj]
def IE{p:Prop} (h:p:=by
 intro β1 s1 h1;refine G5 ?_;refine iA (jB [(_,_),(_,_)] [_,_] Y3 Z Z Z) Z<|Wt 0 [_,_] Y9<|G3 ?_;exact rR [_] L (.agg (us:=[_,_]) 0 Z Z Z Z Z (.nil)) Z h1 λ_ iD=>qH):p:=h
def KT{r:Int}:jT D 36 [iJ r] L s (.agg #[iB 1,iJ r]):=by
 refine jn (fn:=f36) jb func36 V Z ntmps36 Z (rs:=[.cell 2 107]) Z [(0,_)] Z<|Sr<|jh Z [_,_] Y2 ?_;exact IE
def qIq{r:Int}:jT D 39 [iJ r] L s (.agg #[iB 0,iJ r]):=by
 refine jn (fn:=f39) jb func39 V Z ntmps39 Z (rs:=[.cell 2 107]) Z [(0,_)] Z<|Sr<|jh Z [_,_] Y2 ?_;exact IE
theorem qrl{y e:Tm}(hj:j < n)(hz:(j:Int)=0)(he:l[j]?=some e)(hy:y=if 1 < j then l.getD 1 ⟨0,0⟩ else ⟨0,0⟩):j+1<=n/\e=(if 0 < j+1 then l.getD 0 ⟨0,0⟩ else ⟨0,0⟩)/\y=(if 1 < j+1 then l.getD 1 ⟨0,0⟩ else ⟨0,0⟩):=by grind
theorem qrm{x e:Tm}(hj:j < n)(hz:¬ (j:Int)=0)(hn:n<=2)(he:l[j]?=some e)(hx:x=if 0 < j then l.getD 0 ⟨0,0⟩ else ⟨0,0⟩):j+1<=n/\x=(if 0 < j+1 then l.getD 0 ⟨0,0⟩ else ⟨0,0⟩)/\e=(if 1 < j+1 then l.getD 1 ⟨0,0⟩ else ⟨0,0⟩):=by grind
theorem ZL(h:l.length<=i):l.getD i ⟨0,0⟩=⟨0,0⟩:=by grind
def YO{tgt:Int}(hA:FH s A n c l)(hl:l.length<=2):jT D 38 [iB kd,iB tgt,.slice A n c] L s (.agg #[iB kd,iB tgt,iB (l.getD 0 ⟨0,0⟩).kind,iJ (l.getD 0 ⟨0,0⟩).val,iB (l.getD 1 ⟨0,0⟩).kind,iJ (l.getD 1 ⟨0,0⟩).val]):=by
 have hn:=hA.1;refine jn (fn:=f38) jb func38 V Z ntmps38 Z (rs:=[.cell 6 115]) Z [(0,_),(1,_),(2,_)] Z<|Sr<|jh Z [_,_,_,_,_,_] Y2 λβ1 s1 h1=>G6 ?_;refine iA (jB [(_,_),(_,_)] [_,_,_,_,_,_] Y3 Z Z Z) Z<|jh Z [_,_,_,_,_,_] Y2 λβ2 s2 h2=>Wt 0 [_,_,_,_,_,_] Y9<|lw ?_;refine lJ (γ:=Nat×Tm×Tm) (λg=>[(6,_),(7,_),(13,_),(14,_),(15,iB (g.1:Int))]) (λg=>(β2,cb [iB kd,iB tgt,iB g.2.1.kind,iJ g.2.1.val,iB g.2.2.kind,iJ g.2.2.val] 115)::(β1,cb [iB 0,iB 0,iB 0,iJ 0,iB 0,iJ 0] 115)::L) (λg tw=>Le D s2 tw/\(g.1<=n/\g.2.1=(if 0 < g.1 then l.getD 0 ⟨0,0⟩ else ⟨0,0⟩)/\g.2.2=(if 1 < g.1 then l.getD 1 ⟨0,0⟩ else ⟨0,0⟩))) (λg=>n - g.1) (λ_ _ _ h hl=>⟨h.1.trans hl,h.2⟩) (0,⟨0,0⟩,⟨0,0⟩) (.c5 Z Z Z Z Z (.nil _)) Z ⟨Le.refl _,⟨aB _,Z,Z⟩⟩ ?_;intro g s3 I3;obtain ⟨j,x,y⟩:=g;obtain ⟨oV,hx,hy⟩:=I3.2;simp only at oV hx hy;dsimp only;refine J6 ?_ ?_<;>intro c4
 .have hk:j < n:=O
  obtain ⟨b,off,e,rfl,he,zW,hue⟩:=FH.at_ Pz hk;refine G7 ?_;refine iA (jK Y6 hk) Z<|iA (ku Y3 Pz Z) Z<|jh Z [_,_] Y2 λt5 s5 h5=>mo Y2<|Wt 0 [_,_] Y9<|J8 ?_ ?_<;>intro c6;.have zk:=c6;refine Zr<|iA (iZ 0 [_,_] Y5) Z<|Wb Y5<|Wt 1 [_,_,_,_,_,_] Y9<|G4 ?_;refine kq Y3 (jq O O)<|G2 ?_;refine iU ⟨(j+1,e,y),[_],kp,Z,⟨Lc,by first|exact qrl hk zk he hy|exact qrm hk zk O he hx⟩,Oz⟩
  have zk:=c6;refine Zr<|iA (iZ 0 [_,_] Y5) Z<|Wb Y5<|Wt 1 [_,_,_,_,_,_] Y9<|G4 ?_;refine kq Y3 (jq O O)<|G2 ?_;refine iU ⟨(j+1,x,e),[_],kp,Z,⟨Lc,by first|exact qrl hk zk he hy|exact qrm hk zk O he hx⟩,Oz⟩
 refine G7 ?_;refine iA (iZ 0 [_,_,_,_,_,_] Y5) Z<|Wt 1 [_,_,_,_,_,_] Y9<|G3 ?_;refine rR [_,_] L (.agg (us:=[_,_,_,_,_,_]) 1 Z Z Z Z Z (.nil)) Z Lc λ_ iD=>?_;refine ⟨?_,Z⟩;have qw:j=n:=O
 have e1:x=l.getD 0 ⟨0,0⟩:=by
   rw [hx];split
   . rfl
   . rw [ZL O]
 have e2:y=l.getD 1 ⟨0,0⟩:=by
   rw [hy];split
   . rfl
   . rw [ZL O]
 rw [<- e1,<- e2];rfl
def qGY{name:iH}{op:Bool}{xs:iz}(hO:Own 111 4 M v i xs)(hi:i<=1000):jU D 37 [St name,.bool op,.slice A n c,iT β] (((β,cb [iB 65536,v] 44)::M)++L) s λw L' s'=>∃ M',L'=M'++L/\w=.tuple #[]/\∃ v2 M2,M'=(β,cb [iB 65536,v2] 44)::M2/\Own 111 4 M2 v2 (i+1) (xs++[St name,iJ ((i:Int)+1),.bool op,.slice A n c]):=by
 obtain ⟨Av,cv,rfl,kv1,kv2⟩:=Own.slice hO;simp only [ao];refine jn (fn:=f37) jb func37 V Z ntmps37 Z (rs:=[]) Z [(0,_),(1,_),(2,_),(3,_)] Z<|G7 ?_;refine kq Y3 (jq O O)<|iA (sW Y5 (Gz O O)) Z<|G2 ?_;refine iA (jB [(_,_),(_,_),(_,_),(_,_)] [_,_,_,_] Y3 Z Z Z) Z<|lx [(_,_)] [_,_,_,_] Y9 λβn s1 h1 p9=>rQ (sz:=4) [_] M L Y7 hO (Row.of_cells Pz Z Z) ⟨by simp [yL];omega,O⟩ Z ?_;intro v2 M2 s2 h2 o2;obtain ⟨Av2,cv2,rfl,_,_⟩:=Own.slice o2;simp only [jC,jD];refine Wb Y5<|Wt 0 [_,_] Y9<|Zn ?_;refine lF [] _ (.inl Z) (.nil) Z Lc λ_ iD=>?_;exact ⟨_::M2,rfl,rfl,_,M2,rfl,o2⟩
def qpM{l:List Ac}(hA:qn s A n c l)(hP:qn s Ap np cp lp)(hn:n+np<=1000):jU D 40 [.slice A n c,iT β] ((β,cb [.slice Ap np cp] 109)::L) s λv L' s'=>∃ M',L'=M'++((β,cb [.slice Ap np cp] 109)::L)/\∀ s2,Le D s' s2->mI M' s2->∃ A2 n2 c2,v=.slice A2 n2 c2/\qn s2 A2 n2 c2 (lp++l):=by
 refine jn (fn:=f40) jb func40 V Z ntmps40 Z (rs:=[.tmp 3]) Z [(0,_),(1,_)] Z<|G7 ?_;refine KQ (sz:=6) Z Z Z Z λβo s1 h1 oo=>Wl 1 Y6<|rQ [] [_] _ Y7 oo (hP.row.le h1) ⟨by simp [yM];omega,O⟩ Z ?_;intro v1 A1 s2 h2 o1;simp only [aC];refine kb Y2<|rQ [] A1 _ Y7 o1 (hA.row.le Lc) ⟨by simp [yM];omega,O⟩ Z ?_;intro v2 A2x s3 h3 o2;simp only [aC];refine G4 ?_;refine rR [] _ (.t1 Z) Z Lc λ_ iD=>?_;simp only [aC,aX,<- qBd] at o2;obtain ⟨Av2,cv2,rfl,_,_⟩:=Own.slice o2;exact ⟨A2x,rfl,λs2 j5 hp=>⟨_,_,_,rfl,Own.acs o2 (λa ha=>(aS.1 ha).elim (hP.u a) (hA.u a)) hp (by have:=hA.1;have:=hP.1;simp;omega)⟩⟩
def qsN{l:List Ac}(hA:qn s A n c l)(hP:qn s Ap np cp lp)(hn:n+np<=1000):jU D 40 [.slice A n c,iT β] ((β,cb [.slice Ap np cp] 109)::L) s λv L' s'=>(β,cb [.slice Ap np cp] 109)::L=L'/\∃ A2 n2 c2,v=.slice A2 n2 c2/\qn s' A2 n2 c2 (lp++l):=AC.pubW (qpM hA hP hn)
def qpN{l:List Ac}(hA:qn s A n c l)(hP:qn s Ap np cp lp)(hn:n+np<=1000):po D 40 [.slice A n c,iT β] [(β,cb [.slice Ap np cp] 109)] L s λv M' s'=>M'=[(β,cb [.slice Ap np cp] 109)]/\∃ A2 n2 c2,v=.slice A2 n2 c2/\qn s' A2 n2 c2 (lp++l):=
 (qsN hA hP hn).mono λv L' s' _ h=>⟨_,h.1.symm,rfl,h.2⟩
def Uf{l:List Ins}{m:List iz}(h:kJ (λx cs=>cs.length=4/\xj s x cs) l m)(hl:Le D s s'):kJ (λx cs=>cs.length=4/\xj s' x cs) l m:=h.mono λa b h=>⟨h.1,h.2.le hl⟩
def JZ:List Ac:=[⟨2,2,⟨1,2⟩,⟨0,1⟩⟩,⟨13,1,⟨1,2⟩,⟨0,0⟩⟩]
def iW:oK:=⟨65536,[
 ⟨[115,116,111,112],1,false,[⟨17,0,⟨1,0⟩,⟨0,0⟩⟩]⟩,
 ⟨[110,117,109],2,true,[⟨0,0,⟨2,0⟩,⟨0,0⟩⟩]⟩,
 ⟨[108,111,97,100],3,true,[⟨13,0,⟨2,0⟩,⟨0,0⟩⟩]⟩,
 ⟨[115,116,111,114,101],4,true,[⟨14,0,⟨2,0⟩,⟨1,0⟩⟩]⟩,
 ⟨[108,111,99,97,108],5,true,[⟨2,1,⟨1,2⟩,⟨2,0⟩⟩,⟨13,0,⟨1,1⟩,⟨0,0⟩⟩]⟩,
 ⟨[97,115,115,105,103,110],6,true,[⟨2,1,⟨1,2⟩,⟨2,0⟩⟩,⟨14,0,⟨1,1⟩,⟨1,0⟩⟩]⟩,
 ⟨[102,101,116,99,104],7,true,[⟨1,1,⟨1,0⟩,⟨2,0⟩⟩,⟨13,0,⟨1,1⟩,⟨0,0⟩⟩]⟩,
 ⟨[112,117,116,97,116],8,true,[⟨2,2,⟨1,2⟩,⟨0,1⟩⟩,⟨13,1,⟨1,2⟩,⟨0,0⟩⟩,⟨1,1,⟨1,1⟩,⟨2,0⟩⟩,⟨14,0,⟨1,1⟩,⟨1,0⟩⟩]⟩,
 ⟨[112,117,115,104],9,false,[⟨14,0,⟨1,2⟩,⟨1,0⟩⟩,⟨1,2,⟨1,2⟩,⟨0,1⟩⟩]⟩,
 ⟨[100,114,111,112],10,true,[⟨2,2,⟨1,2⟩,⟨2,0⟩⟩]⟩,
 ⟨[97,100,100],11,false,[⟨2,2,⟨1,2⟩,⟨0,1⟩⟩,⟨13,1,⟨1,2⟩,⟨0,0⟩⟩,⟨1,0,⟨1,1⟩,⟨1,0⟩⟩]⟩,
 ⟨[115,117,98],12,false,[⟨2,2,⟨1,2⟩,⟨0,1⟩⟩,⟨13,1,⟨1,2⟩,⟨0,0⟩⟩,⟨2,0,⟨1,1⟩,⟨1,0⟩⟩]⟩,
 ⟨[109,117,108],13,false,[⟨2,2,⟨1,2⟩,⟨0,1⟩⟩,⟨13,1,⟨1,2⟩,⟨0,0⟩⟩,⟨3,0,⟨1,1⟩,⟨1,0⟩⟩]⟩,
 ⟨[100,105,118],14,false,[⟨2,2,⟨1,2⟩,⟨0,1⟩⟩,⟨13,1,⟨1,2⟩,⟨0,0⟩⟩,⟨18,0,⟨0,2⟩,⟨1,0⟩⟩,⟨4,0,⟨1,1⟩,⟨1,0⟩⟩]⟩,
 ⟨[109,111,100],15,false,[⟨2,2,⟨1,2⟩,⟨0,1⟩⟩,⟨13,1,⟨1,2⟩,⟨0,0⟩⟩,⟨18,0,⟨0,2⟩,⟨1,0⟩⟩,⟨5,0,⟨1,1⟩,⟨1,0⟩⟩]⟩,
 ⟨[97,110,100],16,false,[⟨2,2,⟨1,2⟩,⟨0,1⟩⟩,⟨13,1,⟨1,2⟩,⟨0,0⟩⟩,⟨6,0,⟨1,1⟩,⟨1,0⟩⟩]⟩,
 ⟨[111,114],17,false,[⟨2,2,⟨1,2⟩,⟨0,1⟩⟩,⟨13,1,⟨1,2⟩,⟨0,0⟩⟩,⟨7,0,⟨1,1⟩,⟨1,0⟩⟩]⟩,
 ⟨[120,111,114],18,false,[⟨2,2,⟨1,2⟩,⟨0,1⟩⟩,⟨13,1,⟨1,2⟩,⟨0,0⟩⟩,⟨8,0,⟨1,1⟩,⟨1,0⟩⟩]⟩,
 ⟨[108,101,102,116],19,false,[⟨2,2,⟨1,2⟩,⟨0,1⟩⟩,⟨13,1,⟨1,2⟩,⟨0,0⟩⟩,⟨9,0,⟨1,1⟩,⟨1,0⟩⟩]⟩,
 ⟨[114,105,103,104,116],20,false,[⟨2,2,⟨1,2⟩,⟨0,1⟩⟩,⟨13,1,⟨1,2⟩,⟨0,0⟩⟩,⟨10,0,⟨1,1⟩,⟨1,0⟩⟩]⟩,
 ⟨[101,113],21,false,[⟨2,2,⟨1,2⟩,⟨0,1⟩⟩,⟨13,1,⟨1,2⟩,⟨0,0⟩⟩,⟨11,0,⟨1,1⟩,⟨1,0⟩⟩]⟩,
 ⟨[108,101,115,115],22,false,[⟨2,2,⟨1,2⟩,⟨0,1⟩⟩,⟨13,1,⟨1,2⟩,⟨0,0⟩⟩,⟨12,0,⟨1,1⟩,⟨1,0⟩⟩]⟩,
 ⟨[109,111,114,101],23,false,[⟨2,2,⟨1,2⟩,⟨0,1⟩⟩,⟨13,1,⟨1,2⟩,⟨0,0⟩⟩,⟨12,0,⟨1,0⟩,⟨1,1⟩⟩]⟩,
 ⟨[122,101,114,111],24,false,[⟨11,0,⟨1,0⟩,⟨0,0⟩⟩]⟩,
 ⟨[98,111,117,110,100],25,true,[⟨12,1,⟨1,0⟩,⟨2,0⟩⟩,⟨18,0,⟨0,1⟩,⟨1,1⟩⟩]⟩,
 ⟨[106,117,109,112],26,true,[⟨0,4,⟨2,0⟩,⟨0,0⟩⟩]⟩,
 ⟨[106,122,101,114,111],27,true,[⟨19,4,⟨2,0⟩,⟨1,0⟩⟩]⟩,
 ⟨[99,97,108,108],28,true,[⟨1,3,⟨1,3⟩,⟨0,1⟩⟩,⟨12,1,⟨1,3⟩,⟨0,101⟩⟩,⟨18,0,⟨0,3⟩,⟨1,1⟩⟩,⟨14,0,⟨1,2⟩,⟨1,4⟩⟩,⟨1,2,⟨1,2⟩,⟨0,1⟩⟩,⟨0,4,⟨2,0⟩,⟨0,0⟩⟩]⟩,
 ⟨[114,101,116],29,true,[⟨2,2,⟨1,2⟩,⟨2,0⟩⟩,⟨13,4,⟨1,2⟩,⟨0,0⟩⟩,⟨2,3,⟨1,3⟩,⟨0,1⟩⟩]⟩,
 ⟨[103,101,116],30,false,[⟨15,0,⟨0,0⟩,⟨0,0⟩⟩]⟩,
 ⟨[112,117,116],31,false,[⟨16,0,⟨1,0⟩,⟨0,0⟩⟩]⟩,
 ⟨[115,116,97,99,107],32,true,[⟨0,2,⟨2,0⟩,⟨0,0⟩⟩]⟩]⟩
end
section
variable{c:UInt8}{l:iH}{n a:iH}{w:iG}{x:iM}
abbrev pX:iH:=[110,117,109]
abbrev qN:iH:=[112,117,115,104]
abbrev DQ:iH:=[98,111,117,110,100]
abbrev O8:iH:=[102,101,116,99,104]
abbrev Nr:iH:=[103,101,116]
abbrev ra:iH:=[122,101,114,111]
abbrev E2:iH:=[115,117,98]
abbrev uh:iH:=[106,122,101,114,111]
abbrev wh:iH:=[106,117,109,112]
abbrev Vb:iH:=[115,116,111,114,101]
abbrev OG:iH:=[97,115,115,105,103,110]
abbrev O9:iH:=[112,117,116,97,116]
abbrev D0:iH:=[114,101,116]
abbrev Ns:iH:=[112,117,116]
abbrev BI:iH:=[115,116,111,112]
abbrev Sp:iH:=[100,114,111,112]
abbrev AJ:iH:=[99,97,108,108]
abbrev Fp:iH:=[115,116,97,99,107]
abbrev qz2:iH:=[108,111,99,97,108]
abbrev Sq:iH:=[108,111,97,100]
abbrev qg:iH:=[119,111,114,100]
abbrev sY:iH:=[115,112,97,99,101]
abbrev wo:iH:=[101,110,100]
abbrev MK:iH:=[109,117,108]
abbrev MI:iH:=[100,105,118]
abbrev MJ:iH:=[109,111,100]
abbrev ZO:iH:=[108,101,102,116]
abbrev qz4:iH:=[114,105,103,104,116]
abbrev MH:iH:=[97,110,100]
abbrev MF:iH:=[97,100,100]
abbrev wOr:iH:=[111,114]
abbrev ML:iH:=[120,111,114]
abbrev PX:iH:=[101,113]
abbrev PR:iH:=[108,101,115,115]
abbrev PS:iH:=[109,111,114,101]
inductive Li where
 | op (n:iH)
 | ref (n a:iH)
 | num (n:iH) (v:Int)
 | lab (a:iH)
def wO:Li->iH
 | .op n=>32::n
 | .ref n a=>32::(n++32::a)
 | .num n v=>32::(n++32::pD v)
 | .lab a=>a++[58]
def zm(y:Li):iH:=wO y++[10]
def cT(l:List Li):iH:=(l.map zm).flatten
def lA(a b:List Li):cT (a++b)=cT a++cT b:=by simp [cT]
def ln(y:Li)(l:List Li):cT (y::l)=zm y++cT l:=rfl
def lD:cT []=[]:=rfl
def lT(k:Nat):iH:=108::pD k
def gT(i:Int):iH:=103::pD i
def fT(i:Int):iH:=102::pD i
def gE(p:jc):List (iH×(Int×Int)):=p.o.mapIdx λi g=>(g.name,((3:Int),(i:Int)))
def fE(p:jc):List (iH×(Int×Int)):=p.funcs.mapIdx λi x=>(x.name,((4:Int),(i:Int)))
def sE(x:iM):List (iH×(Int×Int)):=(x.locals.mapIdx λi w=>(w,((2:Int),((x.params.length+1+i:Nat):Int))))++(x.params.mapIdx λi w=>(w,((1:Int),(i:Int))))
def mA(T:List (iH×(Int×Int)))(nm:iH):Option Int:=(T.find? λe=>decide (e.1=nm)).map λe=>e.2.2
def gi(p:jc)(nm:iH):Int:=(mA (gE p) nm).getD 0
def fi(p:jc)(nm:iH):Int:=(mA (fE p) nm).getD 0
def vN(p:jc)(i:Int):Int:=match p.o[i.toNat]? with
 | some g=>g.num
 | none=>0
def jm(x:iM):Nat:=x.params.length+1+x.locals.length
def cN(p:jc)(x:iM)(nm:iH)(w:Nat):Li:=match mA (sE x) nm with
 | some a=>.num qz2 ((jm x:Int)+(w:Int) - a)
 | none=>if zK p (gi p nm)=1 then .num pX (vN p (gi p nm)) else .ref Sq (gT (gi p nm))
def BW(p:jc)(x:iM)(nm:iH):Li:=match mA (sE x) nm with
 | some a=>.num OG ((jm x:Int) - a)
 | none=>.ref Vb (gT (gi p nm))
def cL(p:jc)(nm:iH)(n:Nat):List Li:=.ref AJ (fT (fi p nm))::(if 0 < n then [.num Sp n] else [])
def Ro:List (List iH):=[[],[],[],[],[MK],[MI],[MJ],[ZO],[qz4],[MH],[MF],[E2],[wOr],[ML],[PX],[PX,ra],[PR],[PS,ra],[PS],[PR,ra]]
def yu(o:Int):List iH:=Ro.getD o.toNat []
mutual
def cE(p:jc)(x:iM):Ex->Nat->Nat->List Li×Nat
 | .mk kd o n nm az,w,k=>if kd=1 then ([.num pX n],k) else if kd=2 then ([cN p x nm w],k)
  else if kd=3 then ((cH p x az w k).1++[.num DQ (vN p (gi p nm)),.ref O8 (gT (gi p nm))],(cH p x az w k).2)
  else if kd=4 then ((cC p x az w k).1++cL p nm az.length,(cC p x az w k).2)
  else if kd=5 then ([.op Nr],k)
  else if kd=6 then (if o=1 then ((cH p x az w k).1++[.op ra],(cH p x az w k).2)
   else (.num pX (if o=3 then 4294967295 else 0)::.op qN::(cH p x az (w+1) k).1++[.op E2],(cH p x az (w+1) k).2))
  else if o=20 then ((cH p x az w k).1++.ref uh (lT ((cH p x az w k).2+1))::(cI p x az w ((cH p x az w k).2+1)).1++[.op ra,.op ra,.lab (lT ((cH p x az w k).2+1))],(cI p x az w ((cH p x az w k).2+1)).2)
  else if o=21 then ((cH p x az w k).1++.op ra::.ref uh (lT ((cH p x az w k).2+1))::(cI p x az w ((cH p x az w k).2+1)).1++[.op ra,.lab (lT ((cH p x az w k).2+1)),.op ra],(cI p x az w ((cH p x az w k).2+1)).2)
  else ((cH p x az w k).1++.op qN::(cI p x az (w+1) (cH p x az w k).2).1++(yu o).map .op,(cI p x az (w+1) (cH p x az w k).2).2)
def cH(p:jc)(x:iM):List Ex->Nat->Nat->List Li×Nat
 | [],_,k=>([],k)
 | y::_,w,k=>cE p x y w k
def cI(p:jc)(x:iM):List Ex->Nat->Nat->List Li×Nat
 | [],_,k=>([],k)
 | _::r,w,k=>cH p x r w k
def cC(p:jc)(x:iM):List Ex->Nat->Nat->List Li×Nat
 | [],_,k=>([],k)
 | y::r,w,k=>((cE p x y w k).1++.op qN::(cC p x r (w+1) (cE p x y w k).2).1,(cC p x r (w+1) (cE p x y w k).2).2)
end
mutual
def cS(p:jc)(x:iM):iP->Nat->List iH->List Li×Nat
 | .mk kd nm es b e,k,ls=>if kd=1 then ((cH p x es 0 k).1++[BW p x nm],(cH p x es 0 k).2)
  else if kd=2 then ((cH p x es 0 k).1++.num DQ (vN p (gi p nm))::.op qN::(cI p x es 1 (cH p x es 0 k).2).1++[.ref O9 (gT (gi p nm))],(cI p x es 1 (cH p x es 0 k).2).2)
  else if kd=3 then (if e.length=0 then ((cH p x es 0 (k+1)).1++.ref uh (lT (k+1))::(cB p x b (cH p x es 0 (k+1)).2 ls).1++[.lab (lT (k+1))],(cB p x b (cH p x es 0 (k+1)).2 ls).2)
   else ((cH p x es 0 (k+1)).1++.ref uh (lT (k+1))::(cB p x b (cH p x es 0 (k+1)).2 ls).1++.ref wh (lT ((cB p x b (cH p x es 0 (k+1)).2 ls).2+1))::.lab (lT (k+1))::(cB p x e ((cB p x b (cH p x es 0 (k+1)).2 ls).2+1) ls).1++[.lab (lT ((cB p x b (cH p x es 0 (k+1)).2 ls).2+1))],(cB p x e ((cB p x b (cH p x es 0 (k+1)).2 ls).2+1) ls).2))
  else if kd=4 then (.lab (lT (k+1))::(cH p x es 0 (k+2)).1++.ref uh (lT (k+2))::(cB p x b (cH p x es 0 (k+2)).2 (ls++[lT (k+1),lT (k+2)])).1++[.ref wh (lT (k+1)),.lab (lT (k+2))],(cB p x b (cH p x es 0 (k+2)).2 (ls++[lT (k+1),lT (k+2)])).2)
  else if kd=5 then ((cC p x es 0 k).1++cL p nm es.length,(cC p x es 0 k).2)
  else if kd=6 then ((cH p x es 0 k).1++[.num D0 (x.locals.length+1:Nat)],(cH p x es 0 k).2)
  else if kd=7 then ((cH p x es 0 k).1++[.op Ns],(cH p x es 0 k).2)
  else if kd=8 then ((cH p x es 0 k).1++[.op BI],(cH p x es 0 k).2)
  else if kd=9 then ([.ref wh (ls.getD (ls.length - 1) [])],k) else ([.ref wh (ls.getD (ls.length - 2) [])],k)
def cB(p:jc)(x:iM):List iP->Nat->List iH->List Li×Nat
 | [],k,_=>([],k)
 | y::r,k,ls=>((cS p x y k ls).1++(cB p x r (cS p x y k ls).2 ls).1,(cB p x r (cS p x y k ls).2 ls).2)
end
def cF(p:jc)(x:iM)(i k:Nat):List Li×Nat:=(.lab (fT i)::(if 0 < x.locals.length then [.num pX 0] else [])++List.replicate x.locals.length (.op qN)++(cB p x x.body k []).1++[.num pX 0,.num D0 (x.locals.length+1:Nat)],(cB p x x.body k []).2)
def rJ(p:jc):List iM->Nat->Nat->List Li×Nat
 | [],_,k=>([],k)
 | x::r,i,k=>((cF p x i k).1++(rJ p r (i+1) (cF p x i k).2).1,(rJ p r (i+1) (cF p x i k).2).2)
def cG(g:jv)(i:Nat):List Li:=if g.kind=1 then [] else .lab (gT i)::g.init.map (.num qg ·)++[.num sY (max g.num 1 - (g.init.length:Int))]
def uN:List jv->Nat->List Li
 | [],_=>[]
 | g::r,i=>cG g i++uN r (i+1)
def cP(p:jc):List Li:=[.ref Fp wo,.ref AJ (fT (fi p mu)),.num pX 0,.op BI]++(rJ p p.funcs 0 0).1++uN p.o 0++[.lab wo]
def yg(g:jv):Int:=if g.kind=2 then 1 else if g.kind=3 then g.num else 0
def uC:List jv->Int
 | []=>0
 | g::r=>yg g+uC r
def sy(p:jc):Int:=100+uC p.o+60 * p.funcs.length+30 * qE p.funcs
def qCb(h:c ∉ l):rv c l=none:=by
 induction l with
 | nil=>rfl
 | cons x l ih=>
  simp only [aR,gZ] at h;have hx:¬ x=c:=λe=>h.1 e.symm;simp [rv,hx,ih h.2]
def KG(h:c ∉ l):pP c l=(l,[],false):=by unfold pP;rw [qCb h]
def I'{m:iH}(h:c ∉ m)(lI r:iH):uV (c.toNat:Int) lI (m++c::r)=(lI++m)::splitB (c.toNat:Int) r:=by
 induction m generalizing lI with
 | nil=>simp [uV,splitB]
 | cons x m ih=>
  simp only [aR,gZ] at h;have hx:¬ (x.toNat:Int)=(c.toNat:Int):=λe=>h.1 (yQ.2 e).symm;rw [ao,uV,ak hx,ih h.2,am];rfl
def FK(c:UInt8):Bool:=vc c || un c
def qCM:∀ k:Fin 256,FK (UInt8.ofNat k.val)=true->UInt8.ofNat k.val≠10/\UInt8.ofNat k.val≠32/\UInt8.ofNat k.val≠43/\UInt8.ofNat k.val≠58/\UInt8.ofNat k.val≠59:=by decide +kernel
def Fl(h:FK c=true):c≠10/\c≠32/\c≠43/\c≠58/\c≠59:=by
 have h1:=qCM ⟨c.toNat,c.toNat_lt⟩;simp only [UInt8.ofNat_toNat] at h1;exact h1 h
abbrev Cu(w:iH):Prop:=w≠[]/\∀ c∈w,FK c=true
def qHy(h:tF i l=true):∀ c∈l,FK c=true:=by
  induction l generalizing i with
  | nil=>intro c hc;cases hc
  | cons x l ih=>
    simp only [tF,aA] at h;intro c hc;rcases aR.1 hc with rfl|hc
    . have h1:=h.1
      simp only [uH,db,aA] at h1;simp only [FK,db];exact h1.imp id (·.1)
    . exact ih h.2 c hc
def yz{l:iH}(h:od l=true):Cu l:=by
 simp only [od,aA,aH] at h;exact ⟨h.1.1,qHy h.2⟩
def JH{v:Int}:Cu (pD v):=⟨OU _,λc hc=>by simp [FK,bU.1 (KH v.toNat) c hc]⟩
def By{w:iH}(h:Cu w):(10:UInt8) ∉ w/\(43:UInt8) ∉ w/\(58:UInt8) ∉ w/\(59:UInt8) ∉ w:=
 ⟨λm=>(Fl (h.2 _ m)).1 rfl,λm=>(Fl (h.2 _ m)).2.2.1 rfl,λm=>(Fl (h.2 _ m)).2.2.2.1 rfl,λm=>(Fl (h.2 _ m)).2.2.2.2 rfl⟩
def qrA{m:iH}(h:Cu m):sd [] m=[m]:=by
 have h1:=Oi [] m [] λx hx=>(Fl (h.2 x hx)).2.1;rw [aE,aC] at h1;rw [h1,sd,ak h.1]
def qHR(h:Cu n):vA (32::n)=[n]:=by
 unfold vA splitB;rw [NJ,sd,au rfl,au rfl,qrA h]
def qB8(h:Cu n)(ha:Cu a):vA (32::(n++32::a))=[n,a]:=by
 unfold vA splitB;rw [NJ,sd,au rfl,au rfl,Oi [] n _ λx hx=>(Fl (h.2 x hx)).2.1,aC,sd,au rfl,ak h.1,qrA ha]
def qB6(h:Cu a):vA (a++[58])=[a++[58]]:=by
 unfold vA splitB;rw [NJ];have h1:=Oi [] (a++[58]) [] λx hx=>by
  rcases aS.1 hx with h2|h2
  . exact (Fl (h.2 x h2)).2.1
  . rw [aU.1 h2];decide
 rw [aE,aC] at h1;rw [h1,sd,ak Ξ]
def qnV(h:Cu n):DU 58 n=false:=by
 rw [DU,ei];exact λe=>(By h).2.2.1 (List.mem_of_getLast? e)
def qHF(v:Int):od (pD v)=false:=by
 cases hd:pD v with
 | nil=>rfl
 | cons x l=>
  have h1:=bU.1 (KH v.toNat) x (by show x∈pD v;rw [hd];exact cQ ..);simp only [un,aA,aH] at h1;have h2:vc x=false:=by rw [eD];simp only [vc,fM,aA,aH];omega
  simp [od,tF,uH,h2]
def z8(n:iH):Bool:=od n && (rZ iW.U n).isSome && !FQ iW n && !yD n
def Bt(n:iH):Bool:=od n && (rZ iW.U n).isSome && FQ iW n && !yD n
def uE:Li->Prop
 | .op n=>z8 n=true
 | .ref n a=>Bt n=true/\od a=true
 | .num n v=>(Bt n=true\/n=qg\/n=sY)/\iQ v
 | .lab a=>od a=true
def o9:Li->Ln
 | .op n=>⟨[],n,false,[],0⟩
 | .ref n a=>⟨[],n,true,a,0⟩
 | .num n v=>⟨[],n,true,[],v⟩
 | .lab a=>⟨a,[],false,[],0⟩
def rk:Li->Nat
 | .op _=>1
 | .ref _ _=>2
 | .num n v=>if n=qg then 1 else if n=sY then v.toNat else 2
 | .lab _=>0
def cW(l:List Li):Nat:=(l.map rk).sum
def mU(l:List Li):List iH:=l.filterMap λ|.lab a=>some a|_=>none
def rV(l:List Li):List iH:=l.filterMap λ|.ref _ a=>some a|_=>none
def N7(h:Bt n=true\/n=qg\/n=sY):od n=true:=by
 rcases h with h|rfl|rfl
 . simp only [Bt,aA] at h;exact h.1.1.1
 . decide
 . decide
def qoo{x:iH×Int}(h:od n=true)(ha:Cu a)(hx:xY a=some x):rm (32::(n++32::a))=some ⟨[],n,true,x.1,x.2⟩/\(10:UInt8) ∉ 32::(n++32::a):=by
 have hn:=yz h;have hc:pP 59 (32::(n++32::a))=(32::(n++32::a),[],false):=KG (by simp [By hn,By ha]);refine ⟨?_,by simp [By hn,By ha]⟩;rw [Gi (W:=[n,a]) (lab:=[]) (R:=[n,a]) (by rw [hc];exact qB8 hn ha) (by rw [C8,ak (by rw [qnV hn];decide)]),qlg h,hx];rfl
def qr6{y:Li}(h:uE y):rm (wO y)=some (o9 y)/\(10:UInt8) ∉ wO y:=by
 cases y with
 | op n=>
  have h1:od n=true:=by simp only [uE,z8,aA] at h;exact h.1.1.1
  have hn:=yz h1;have hc:pP 59 (32::n)=(32::n,[],false):=KG (by simp [By hn]);refine ⟨?_,by simp [wO,By hn]⟩;rw [wO,Gi (W:=[n]) (lab:=[]) (R:=[n]) (by rw [hc];exact qHR hn) (by rw [C8,ak (by rw [qnV hn];decide)]),qlf h1];rfl
 | ref n a=>exact qoo (x:=(a,0)) (N7 (.inl h.1)) (yz h.2) (by rw [xY,KG (By (yz h.2)).2.1,au h.2];rfl)
 | num n v=>
  obtain ⟨h1,hv⟩:=h;obtain ⟨u,rfl⟩:=aZ hv.1;have:=hv.2;exact qoo (x:=([],(u:Int))) (N7 h1) (JH) (by rw [xY,KG (By (JH)).2.1,ak (by rw [qHF];decide)];show (wl (Lib.decDigits u)).map _=_;rw [qox O];rfl)
 | lab a=>
  have hn:=yz h;have hc:pP 59 (a++[58])=(a++[58],[],false):=KG (by simp [By hn]);refine ⟨?_,by simp [wO,By hn]⟩;rw [wO,Gi (W:=[a++[58]]) (lab:=a) (R:=[]) (by rw [hc];exact qB6 hn) (by rw [C8,au (by simp [DU]),fG];exact au h)];rfl
def IZ{p:Prop} (h:p:=by
 simp only [Bt,aA,dF] at h;exact ⟨(yz h.1.1.1).1,λe=>by rw [e] at h;exact absurd h.2 Dc,λe=>by rw [e] at h;exact absurd h.2 Dc,h.2⟩):p:=h
def TP{y:Li}(h:uE y):(qh iW w (o9 y)).length=w.length+rk y:=by
  have hs:∀ n,Bt n=true->n≠[]/\n≠qg/\n≠sY/\yD n=false:=λn h=>by
    exact IZ
  cases y with
  | op n=>
    simp only [uE,z8,aA,dF] at h;have h1:=(yz h.1.1.1).1;have h2:n≠ss:=λe=>by rw [e] at h;exact absurd h.2 Dc
    simp [qh,o9,qf,h1,h2,h.2,rk]
  | ref n a => 
    obtain ⟨h1,h2,h3,h4⟩:=hs n h.1;simp [qh,o9,qf,h1,show n≠ss from h3,h4,rk]
  | num n v=>
    obtain ⟨h0|rfl|rfl,hv⟩:=h
    . obtain ⟨h1,h2,h3,h4⟩:=hs n h0
      simp [qh,o9,qf,h1,show n≠ss from h3,h4,rk,h2,h3]
    . simp [qh,o9,qf,rk,show ¬ qg=ss by decide,show yD qg=true by decide]
    . simp [qh,o9,qf,rk,show sY=ss from rfl,show ¬ ss=qg by decide,show ¬ ss=[] by decide]
  | lab a=>simp [qh,o9,rk]
def IR{p:Prop} (h:p:=by
 have h1:=(yz h.1.1.1).1;have h2:n≠[115,112,97,99,101]:=λe=>by rw [e] at h;exact absurd h.2 Dc
 simp only [o9] at kI ⊢;simp [pC,h1,h2,h.1.1.2,h.1.2,h.2,kI]):p:=h
def J_{l:List (iH×Int)}{y:Li}(h:uE y)(hf:∀ a,y=.lab a->mw l a=none)(hw:w.length+rk y<=65536):pC iW w l (some (o9 y))=0:=by
  have hl:=TP (w:=w) h;have kI:¬ iW.cells < ((qh iW w (o9 y)).length:Int):=by rw [hl];show ¬ (65536:Int) < _;omega
  cases y with
  | op n=>
    simp only [uE,z8,aA,dF] at h;exact IR
  | ref n a=>
    have h:=h.1;simp only [Bt,aA,dF] at h;exact IR
  | num n v=>
    obtain ⟨h0|rfl|rfl,hv⟩:=h
    . simp only [Bt,aA,dF] at h0
      have h1:=(yz h0.1.1.1).1;simp only [o9] at kI ⊢;simp [pC,h1,h0.1.1.2,h0.1.2,h0.2,kI]
    all_goals
      simp only [o9] at kI ⊢;simp [pC,show yD qg=true by decide,show yD sY=true by decide,kI]
  | lab a=>
    have h1:=(yz h).1;simp [pC,o9,h1,hf a rfl]
def Z'{l:List (iH×Int)}{y:Li}(h:uE y)(hf:∀ a,y=.lab a->mw l a=none)(a:iH):(mw (xU w l (o9 y)) a).isSome=((mw l a).isSome || (mU [y]).contains a):=by
 cases y with
 | lab b=>
  have h1:=(yz h).1;simp only [xU,o9,h1,bY];rw [a_ _ _ _ _ (hf b rfl)];by_cases e:a=b<;>simp [mU,e]
 | _=>simp [xU,o9,mU]
def qqM(t:oK)(i:Nat)(w:iG)(l:List (iH×Int))(r:List (Int×Nat×iH×Int)):vz t i w l r (splitB 10 [])=.inr (w,l,r):=by
 show vz t i w l r [[]]=_;rw [NU (show rm []=some ⟨[],[],false,[],0⟩ by decide) (by simp [pC])];simp [vz,qh,xU,uF]
def qza:∀ (L:List Li) (i:Nat) (w:iG) (l:List (iH×Int)) (r:List (Int×Nat×iH×Int)),(∀ y∈L,uE y)->(mU L).Nodup->(∀ a∈mU L,mw l a=none)->w.length+cW L<=65536 ->
    ∃ w' l' r',vz iW i w l r (splitB 10 (cT L))=.inr (w',l',r')/\(∀ a,(mw l a).isSome=true\/a∈mU L->(mw l' a).isSome=true)/\∀ x∈r',x∈r\/x.2.2.1∈rV L
  | [],i,w,l,r,_,_,_,_=>⟨w,l,r,qqM ..,λa h=>h.elim id λh=>by (cases h),λx h=>.inl h⟩
  | y::L,i,w,l,r,hk,hn,hf,hw=>by
    have hy:=hk y Mc;obtain ⟨h1,h2⟩:=qr6 hy;have e1:mU (y::L)=mU [y]++mU L:=by rw [mU,mU,mU,<- dv];rfl
    have e2:rV (y::L)=rV [y]++rV L:=by rw [rV,rV,rV,<- dv];rfl
    rw [e1] at hn hf;rw [cW,aN,dD] at hw;rw [bI] at hn;have hf1:∀ a,y=.lab a->mw l a=none:=λa e=>hf a (by subst e;simp [mU]);have hs:splitB 10 (cT (y::L))=wO y::splitB 10 (cT L):=by
      have:=I' (c:=10) h2 [] (cT L);rw [ln,zm,am];exact this
    have hg:=Z' (w:=w) hy hf1;obtain ⟨w',l',r',h3,h4,h5⟩:=qza L (i+1) (qh iW w (o9 y)) (xU w l (o9 y)) (uF iW w r i (o9 y)) (λz hz=>hk z (an _ hz)) hn.2.1 (λa ha=>by
      have:=hg a;rw [hf a (aF _ ha),show (mU [y]).contains a=false by rw [<- Bool.not_eq_true,fh];exact λh=>hn.2.2 a h a ha rfl] at this;simpa using this) (by rw [TP hy,cW];omega)
    refine ⟨w',l',r',by rw [hs,NU h1 (J_ hy hf1 O),h3],λa ha=>h4 a ?_,λx hx=>?_⟩
    . rw [hg a,e1,aS] at *
      rcases ha with ha|ha|ha
      . exact .inl (by rw [ha];rfl)
      . exact .inl (by rw [db,fh];exact .inr ha)
      . exact .inr ha
    . rw [e2,aS]
      rcases h5 x hx with h6|h6
      . unfold uF sZ at h6
        split at h6
        . exact .inl h6
        split at h6
        . exact .inl h6
        split at h6
        . rename_i h7
          rcases aS.1 h6 with h8|h8
          . exact .inl h8
          . right;left
            rw [aU.1 h8];cases y<;>simp_all [o9,rV]
        . exact .inl h6
      . exact .inr (.inr h6)
def qzR{l:List (iH×Int)}:∀ (r:List (Int×Nat×iH×Int)) (w:iG),(∀ x∈r,(mw l x.2.2.1).isSome=true)->∃ w',wm l r w=.inr w'
 | [],w,_=>⟨w,rfl⟩
 | x::r,w,h=>by
  obtain ⟨a,ha⟩:=ee.1 (h x Mc);rw [wm,ha];exact qzR r _ λy hy=>h y (an _ hy)
def U4:(o5 iW).1=0:=by decide +kernel
def qqN{L:List Li}(hk:∀ y∈L,uE y)(hn:(mU L).Nodup)(hr:∀ a∈rV L,a∈mU L)(hw:cW L<=65536)(hl:(cT L).length<=400000):∃ x,ta iW (cT L)=.inr x:=by
 obtain ⟨w,l,r,h1,h2,h3⟩:=qza L 0 [] [] [] hk hn (λ_ _=>rfl) (by simpa using hw);obtain ⟨w',h4⟩:=qzR r w λx hx=>h2 _ (.inr (hr _ ((h3 x hx).resolve_left Ξ)));exact ⟨_,by rw [ta,ak (by simpa using U4),ak O,h1];simp only [h4];rfl⟩
def qra{l:iH}(h:l.all un=true)(i:Nat):tF (i+1) l=true:=by
 induction l generalizing i with
 | nil=>rfl
 | cons c l ih=>
  simp only [ec,aA] at h;simp [tF,uH,h.1,ih h.2]
def yx(hc:vc c=true)(h:k<=99999):od (c::pD k)=true:=by
 have h1:(pD (k:Int)).length<=5:=by
  show (Lib.decDigits k).length<=5;rw [eL];exact qsf 4 k O
 have h2:=qra (KH k) 0;simp only [od,tF,uH,hc,gM,fx,aA,aH,aw];exact ⟨⟨Ξ,O⟩,h2⟩
def Ur(h:pD (i:Int)=pD (j:Int)):i=j:=by
 have h:Lib.decDigits i=Lib.decDigits j:=h;rw [<- Gu i,h,Gu]
def qzF(h:lT i=lT j):i=j:=Ur (ey h).2
def u9(p:jc)(ls:List iH)(a:iH):Prop:=(∃ i:Nat,i < p.funcs.length/\a=fT i)\/(∃ (i:Nat) (g:jv),p.o[i]?=some g/\g.kind≠1/\a=gT i)\/a∈ls
def lS(S:Nat->Prop)(a:iH):Prop:=∃ i,S i/\a=lT i
structure CG(Vq9:Li->Prop)(E D:iH->Prop)(L:List Li):Prop where
 ok:∀ y∈L,uE y/\Vq9 y
 nd:(mU L).Nodup
 mem:∀ a,a∈mU L↔D a
 refs:∀ a∈rV L,D a\/E a
def GC(A B:List Li):cW (A++B)=cW A+cW B:=by simp [cW]
def qon(A B:List Li):mU (A++B)=mU A++mU B:=dv ..
def qwh(A B:List Li):rV (A++B)=rV A++rV B:=dv ..
section
variable{Vq9:Li->Prop}{E D D1 D2 E' D':iH->Prop}{A B L:List Li}{S S1 S2:Nat->Prop}
def CG.app(h1:CG Vq9 E D1 A)(h2:CG Vq9 E D2 B)(hd:∀ a,D1 a->D2 a->False)(hD:∀ a,D a↔D1 a\/D2 a):CG Vq9 E D (A++B) where
 ok y hy:=(aS.1 hy).elim (h1.ok y) (h2.ok y)
 nd:=by
  rw [qon,bI];exact ⟨h1.nd,h2.nd,λa ha b hb e=>hd a ((h1.mem a).1 ha) ((h2.mem a).1 (e▸hb))⟩
 mem a:=by rw [qon,aS,h1.mem,h2.mem,hD]
 refs a ha:=by
  rw [qwh,aS] at ha;rw [hD];rcases ha with ha|ha
  . exact (h1.refs a ha).imp .inl id
  . exact (h2.refs a ha).imp .inr id
def CG.tgt(h:CG Vq9 E D L)(hD:∀ a,D' a↔D a)(hE:∀ a,E a->E' a\/D' a):CG Vq9 E' D' L:=
 ⟨h.ok,h.nd,λa=>(h.mem a).trans (hD a).symm,λa ha=>(h.refs a ha).elim (λk=>.inl ((hD a).2 k)) λk=>(hE a k).symm⟩
def CG.nil:CG Vq9 E (lS λ_=>False) []:=⟨λ_ h=>(by cases h),hZ,λa=>⟨λh=>(by cases h),λ⟨_,h,_⟩=>h.elim⟩,λ_ h=>by cases h⟩
def CG.appS(h1:CG Vq9 E (lS S1) A)(h2:CG Vq9 E (lS S2) B)(hd:∀ i,S1 i->S2 i->False)(hS:∀ i,S i↔S1 i\/S2 i):CG Vq9 E (lS S) (A++B):=
 h1.app h2 (λa ⟨i,h3,h4⟩ ⟨j,h5,h6⟩=>hd i h3 (qzF (h4.symm.trans h6)▸h5)) λa=>⟨λ⟨i,h3,h4⟩=>((hS i).1 h3).imp (λk=>⟨i,k,h4⟩) λk=>⟨i,k,h4⟩,λh=>h.elim (λ⟨i,h3,h4⟩=>⟨i,(hS i).2 (.inl h3),h4⟩) λ⟨i,h3,h4⟩=>⟨i,(hS i).2 (.inr h3),h4⟩⟩
def CG.c0{y:Li}(h:CG Vq9 E D L)(hy:uE y/\Vq9 y)(hl:mU [y]=[])(hr:∀ a∈rV [y],E a):CG Vq9 E D (y::L):=
 CG.app (A:=[y]) (D1:=λ_=>False) ⟨λz hz=>by rw [aU.1 hz];exact hy,by rw [hl];exact hZ,λa=>by rw [hl];simp,λa ha=>.inr (hr a ha)⟩ h (λ_ h _=>h) λa=>Ξ
abbrev V2(y:Li):Prop:=rk y<=2
def CG.cop(h:CG V2 E D L)(hn:z8 n=true):CG V2 E D (.op n::L):=h.c0 ⟨hn,(by decide:1<=2)⟩ rfl λ_ h=>by cases h
def CG.cref(h:CG V2 E D L)(hn:Bt n=true)(ha:od a=true)(hE:E a):CG V2 E D (.ref n a::L):=h.c0 ⟨⟨hn,ha⟩,ay 2⟩ rfl λb hb=>by rw [show b=a from aU.1 hb];exact hE
def CG.cnum{v:Int}(h:CG V2 E D L)(hn:Bt n=true)(hv:iQ v):CG V2 E D (.num n v::L):=h.c0 ⟨⟨.inl hn,hv⟩,by
  show rk _<=2;rw [rk];split
  . omega
  . split
    . rename_i e;subst e;exact absurd hn Dc
    . omega⟩ rfl λ_ h=>by cases h
def CG.one(ha:od a=true)(hV:Vq9 (.lab a)):CG Vq9 E (λb=>b=a) [.lab a]:=⟨λz hz=>by rw [aU.1 hz];exact ⟨ha,hV⟩,by simp [mU],λb=>by simp [mU],λ_ h=>by cases h⟩
def CG.clab(h:CG V2 E (lS S) L)(hj:j<=99999)(hS:¬ S j):CG V2 E (lS λi=>i=j\/S i) (.lab (lT j)::L):=
 CG.appS (A:=[.lab (lT j)]) (S1:=λi=>i=j) ((CG.one (yx Dc hj) (aB _)).tgt (λa=>by simp [lS,lT]) λ_ h=>.inl h) h (λi h1 h2=>hS (h1▸h2)) λ_=>dJ
def CG.ops:∀ {l:List iH},(∀ n∈l,z8 n=true)->CG V2 E (lS λ_=>False) (l.map .op)
 | [],_=>CG.nil
 | n::l,h=>(CG.ops λm hm=>h m (an _ hm)).cop (h n Mc)
end
structure CK(p:jc)(ls:List iH)(N M k:Nat)(r:List Li×Nat):Prop where
 lo:k<=r.2
 hi:r.2<=k+2 * N
 len:r.1.length<=M
 cg:CG V2 (u9 p ls) (lS λi=>k < i/\i<=r.2) r.1
section
variable{N M:Nat}
def CK.leaf{L:List Li}(h:CG V2 (u9 p ls) (lS λ_=>False) L)(hL:L.length<=M):CK p ls N M k (L,k):=⟨ay _,Nat.le_add_right ..,hL,h.tgt (λa=>⟨λ⟨i,h,_⟩=>O,λ⟨_,h,_⟩=>h.elim⟩) λa h=>.inl h⟩
def CK.nil:CK p ls N M k ([],k):=CK.leaf CG.nil (aB _)
def CK.tail{r:List Li×Nat}{N' M':Nat}{L:List Li}(h:CK p ls N M k r)(h2:CG V2 (u9 p ls) (lS λ_=>False) L)(hN:N<=N')(hM:M+L.length<=M'):CK p ls N' M' k (r.1++L,r.2):=
 ⟨h.lo,by have:=h.hi;simp only;omega,by have:=h.len;simp only [ac];omega,h.cg.appS h2 (λ_ _ k=>k) λi=>Ξ⟩
end
-- names
theorem qzp{a:Int}(h:mA T nm=some a):∃ e∈T,e.1=nm/\a=e.2.2:=by grind [mA,Option.map_eq_some_iff]
def ye:mA T nm=none↔∀ e∈T,e.1≠nm:=by simp [mA,Option.map_eq_none_iff]
def OR{a:Int}(h:mA (sE x) nm=some a):0<=a/\a < (jm x:Int):=by
 obtain ⟨e,h1,_,rfl⟩:=qzp h;unfold jm;rcases aS.1 h1 with h1|h1
 all_goals
  obtain ⟨i,hi,rfl⟩:=dI.1 h1;simp only;omega
def qDo(h:nm∈x.params\/nm∈x.locals):∃ a,mA (sE x) nm=some a:=by
 cases hf:mA (sE x) nm with
 | some a=>exact ⟨a,rfl⟩
 | none=>
  have h0:=ye.1 hf;rcases h with h|h
  all_goals
   obtain ⟨i,hi,rfl⟩:=fD.1 h
  . exact absurd rfl (h0 _ (aF _ (dI.2 ⟨i,hi,rfl⟩)))
  . exact absurd rfl (h0 _ (aI _ (dI.2 ⟨i,hi,rfl⟩)))
def Pv(h:0 < p.funcs.length):∃ i:Nat,fi p nm=(i:Int)/\i < p.funcs.length:=by
 unfold fi;cases hf:mA (fE p) nm with
 | none=>exact ⟨0,rfl,h⟩
 | some a=>
  obtain ⟨e,h1,_,rfl⟩:=qzp hf;obtain ⟨i,hi,rfl⟩:=dI.1 h1;exact ⟨i,rfl,hi⟩
def XC{p:Prop} (h:p:=by
 rw [hm] at h2;have hk:zK p (i:Int)=p.o[i].kind:=BE (ap hi);simp only [Option.some_or,uX,hk] at h2;omega):p:=h
def Gy{uk na:Int}(h:pf p x (nm,uk,na)=0)(h0:uk≠0)(h4:uk≠4):((uk=1\/uk=2)/\∃ a,mA (sE x) nm=some a)\/(mA (sE x) nm=none\/uk=3)/\∃ (i:Nat) (g:jv),gi p nm=(i:Int)/\p.o[i]?=some g/\(uk=2\/g.kind≠1):=by
  unfold pf at h;rw [ak h0] at h;split at h
  . cases h
  rename_i h1;split at h
  . cases h
  rename_i h2;have h2:=eG.1 h2;simp only at h1 h2;by_cases hp:nm∈x.params\/nm∈x.locals
  . refine .inl ⟨?_,qDo hp⟩
    have h3:(j7 p x nm).1.1=1\/(j7 p x nm).1.1=2:=by
      unfold j7;split
      . exact .inl rfl
      . rename_i h5
        split
        . exact .inr rfl
        . rename_i h6
          rcases hp with hp|hp
          . exact absurd (mQ.2 hp) h5
          . exact absurd (mQ.2 hp) h6
    rcases h2 with h2|h2|h2
    . exact h2.2
    . omega
    . exact absurd h3 h2.1.1
  . have hs:mA (sE x) nm=none:=ye.2 λe he hn=>hp (by
      rcases aS.1 he with he|he;all_goals
        obtain ⟨i,hi,rfl⟩:=dI.1 he;subst hn
      . exact .inr (dQ hi)
      . exact .inl (dQ hi))
    refine .inr ⟨.inl hs,?_⟩;have hm:j7 p x nm=match (jY p).find? λe=>decide (e.1=nm) with
      | some e=>(e.2,true)
      | none=>((0,0),false):=by
      rw [j7,ak (λk=>hp (.inl (mQ.1 k))),ak (λk=>hp (.inr (mQ.1 k)))];rfl
    rw [show jY p=gE p++fE p from rfl,ff] at hm;cases hg:(gE p).find? λe=>decide (e.1=nm) with
    | some e=>
      rw [hg] at hm;obtain ⟨i,hi,rfl⟩:=dI.1 (cJ hg);refine ⟨i,p.o[i],by rw [gi,mA,hg];rfl,ap hi,?_⟩;exact XC
    | none=>
      rw [hg,ib] at hm;cases hf:(fE p).find? λe=>decide (e.1=nm) with
      | none=>rw [hf] at hm;rw [hm] at h1;exact absurd rfl h1
      | some e=>
        rw [hf] at hm;obtain ⟨i,hi,rfl⟩:=dI.1 (cJ hf);rw [hm] at h2;simp only [uX] at h2;omega
structure PQ(p:jc)(x:iM):Prop where
 f0:0 < p.funcs.length
 f64:p.funcs.length<=64
 g64:p.o.length<=64
 gu:∀ g∈p.o,iQ g.num
 p6:x.params.length<=6
 l12:x.locals.length<=12
def PQ.g(h:PQ p x){g:jv}(hg:p.o[i]?=some g):od (gT (i:Int))=true/\iQ (vN p (i:Int)):=by
 obtain ⟨hi,rfl⟩:=al.1 hg;have:=h.g64;exact ⟨yx Dc O,by rw [vN,aD,hg];exact h.gu _ (dQ hi)⟩
def PQ.call(h:PQ p x)(nm:iH){n:Nat}(hn:n<=6):CG V2 (u9 p ls) (lS λ_=>False) (cL p nm n)/\(cL p nm n).length<=2:=by
  obtain ⟨i,h1,h2⟩:=Pv (nm:=nm) h.f0;have h3:=h.f64;rw [cL,h1];refine ⟨CG.cref ?_ Dc (yx Dc O) (.inl ⟨i,h2,Z⟩),?_⟩
  . split
    . exact CG.nil.cnum Dc ⟨O,O⟩
    . exact CG.nil
  . split<;>simp
def hN:List Ex->Nat
 | []=>0
 | y::_=>mT y
def iN:List Ex->Nat
 | []=>0
 | _::r=>hN r
def PK:∀ l:List Ex,hN l<=lh l
 | []=>ay _
 | y::r=>by rw [hN,lh];omega
def Us:∀ y:Ex,0 < mT y
 | .mk ..=>by rw [mT];omega
def PL:∀ l:List Ex,hN l+iN l<=lh l
 | []=>ay _
 | y::r=>by have:=PK r;rw [hN,iN,lh];omega
def Pj(o:Int):(yu o).length<=2/\∀ n∈yu o,z8 n=true:=by
 unfold yu;have h:∀ l∈Ro,l.length<=2/\∀ n∈l,z8 n=true:=by decide +kernel
 by_cases hk:o.toNat < Ro.length
 . rw [List.getD,ap hk];exact h _ (dQ hk)
 . rw [List.getD,dh O];exact ⟨aB _,λn h=>by cases h⟩
section
variable{x:iM}(hq:PQ p x)
include hq
theorem qKv{w:Nat}(hw:w<=9999)(h:pf p x (nm,2,0)=0):CG V2 (u9 p ls) (lS λ_=>False) [cN p x nm w]:=by
  have h6:=hq.p6;have jE:=hq.l12;unfold cN;rcases Gy h Dc Dc with ⟨_,a,ha⟩|⟨h0,i,g,hi,hg,_⟩
  . have h2:=OR ha
    rw [ha];unfold jm at h2 ⊢;exact CG.nil.cnum Dc ⟨O,O⟩
  . rw [h0.resolve_right Dc,hi]
    obtain ⟨g1,g2⟩:=hq.g hg;dsimp only;split
    . exact CG.nil.cnum Dc g2
    . rename_i h3
      exact CG.nil.cref Dc g1 (.inr (.inl ⟨i,g,hg,λe=>h3 (by rw [BE hg,e]),rfl⟩))
mutual
theorem Y8{ls:List iH}{lp:Nat}:∀ (e:Ex) (w k:Nat),om e=true->ph e=true->(∀ nd∈oA e lp,jJ p x nd=0)->k+2 * mT e<=99999->w+mT e<=9999->CK p ls (mT e) (8 * mT e) k (cE p x e w k)
  | .mk kd o n nm az,w,k,hv,hu,hd,hk,hw=>by
    obtain ⟨hc,hvs⟩:=zz hv;obtain ⟨k1,k7,a1,a2,a3,a4⟩:=Bz hc;simp only [ph,aA,aH] at hu;have hd0:=hd _ Mc;have wN:∀ nd∈oY az lp,jJ p x nd=0:=λnd h=>hd nd (an _ h);have hl:=PL az;have qA:=PK az;simp only [Ex.kind,Ex.op,Ex.args,Ex.name] at *;rw [mT] at hk hw ⊢;have H:=λw k=>RV (ls:=ls) az w k hvs hu.2 wN;have I:=λw k=>YU (ls:=ls) az w k hvs hu.2 wN;unfold cE;split
    . exact CK.leaf (CG.nil.cnum Dc hu.1) Q10
    split
    . rename_i h2
      exact CK.leaf (qKv hq O (by have e:oS (.mk kd o n nm az)=(nm,2,0):=au h2;rwa [jJ,e] at hd0)) Q10
    split
    . rename_i h2 h3
      obtain ⟨_,i,g,hi,hg,h4⟩:=(Gy (nm:=nm) (uk:=3) (na:=0) (by have e:oS (.mk kd o n nm az)=(nm,3,0):=(ak h2).trans (au h3);rwa [jJ,e] at hd0) Dc Dc).resolve_left (λh=>by omega);obtain ⟨g1,g2⟩:=hq.g hg;rw [hi];exact (H w k O O).tail ((CG.nil.cref Dc g1 (.inr (.inl ⟨i,g,hg,h4.resolve_left Dc,rfl⟩))).cnum Dc g2) O Q10
    split
    . rename_i h4
      have ha:az.length<=6:=by have:=a2;simp only [yE,h4] at this;simpa using this
      obtain ⟨c1,c2⟩:=hq.call (ls:=ls) nm ha;exact (RU (ls:=ls) az w k hvs hu.2 wN O O).tail c1 O O
    split
    . exact CK.leaf (CG.nil.cop Dc) Q10
    split
    . split
      . exact (H w k O O).tail (CG.nil.cop Dc) O Q10
      . have h:=H (w+1) k O O
        refine ⟨h.lo,by have:=h.hi;simp only;omega,by have:=h.len;simp only [ac,aw,aq];omega,((h.cg.cop Dc).cnum Dc ?_).appS (CG.nil.cop Dc) (λ_ _ k=>k) λi=>by simp⟩;split<;>exact ⟨by decide,by decide⟩
    have h1:=λw'=>H w' k;split
    . have A:=H w k O O
      have B:=I w ((cH p x az w k).2+1) Q14 O;have:=A.lo;have:=A.hi;have:=A.len;have:=B.lo;have:=B.hi;have:=B.len;refine ⟨by simp only;omega,by simp only;omega,by simp only [ac,aw,aq];omega,?_⟩;refine CG.tgt (E:=λa=>u9 p ls a\/a=lT ((cH p x az w k).2+1)) ?_ (λ_=>dJ) λa h=>h.imp id λe=>⟨_,⟨?_,?_⟩,e⟩
      . exact ((A.cg.tgt (λ_=>dJ) λa h=>.inl (.inl h)).appS ((B.cg.tgt (λ_=>dJ) λa h=>.inl (.inl h)).cref Dc (yx Dc O) (.inr rfl)) (S:=λi=>(k < i/\i<=(cH p x az w k).2)\/((cH p x az w k).2+1 < i/\i<=(cI p x az w ((cH p x az w k).2+1)).2)) (λi h1 h2=>by omega) λi=>dJ).appS (((CG.nil.clab O id).cop Dc).cop Dc) (λi h1 h2=>by simp only [dU] at h2;omega) λi=>by simp only [dU];omega
      . omega
      . simp only;omega
    split
    . have A:=H w k O O
      have B:=I w ((cH p x az w k).2+1) Q14 O;have:=A.lo;have:=A.hi;have:=A.len;have:=B.lo;have:=B.hi;have:=B.len;refine ⟨by simp only;omega,by simp only;omega,by simp only [ac,aw,aq];omega,?_⟩;refine CG.tgt (E:=λa=>u9 p ls a\/a=lT ((cH p x az w k).2+1)) ?_ (λ_=>dJ) λa h=>h.imp id λe=>⟨_,⟨?_,?_⟩,e⟩
      . exact ((A.cg.tgt (λ_=>dJ) λa h=>.inl (.inl h)).appS (((B.cg.tgt (λ_=>dJ) λa h=>.inl (.inl h)).cref Dc (yx Dc O) (.inr rfl)).cop Dc) (S:=λi=>(k < i/\i<=(cH p x az w k).2)\/((cH p x az w k).2+1 < i/\i<=(cI p x az w ((cH p x az w k).2+1)).2)) (λi h1 h2=>by omega) λi=>dJ).appS (((CG.nil.cop Dc).clab O id).cop Dc) (λi h1 h2=>by simp only [dU] at h2;omega) λi=>by simp only [dU];omega
      . omega
      . simp only;omega
    . have A:=H w k O O
      have B:=I (w+1) (cH p x az w k).2 Q14 O;have:=A.lo;have:=A.hi;have:=A.len;have:=B.lo;have:=B.hi;have:=B.len;obtain ⟨o1,o2⟩:=Pj o;exact ⟨by simp only;omega,by simp only;omega,by simp only [ac,aw,aq,bB];omega,(A.cg.appS (B.cg.cop Dc) (S:=λi=>k < i/\i<=(cI p x az (w+1) (cH p x az w k).2).2) (λi h1 h2=>by omega) λi=>by omega).appS (CG.ops o2) (λ_ _ k=>k) λi=>by simp⟩
theorem RV{ls:List iH}{lp:Nat}:∀ (l:List Ex) (w k:Nat),pE l=true->rn l=true->(∀ nd∈oY l lp,jJ p x nd=0)->k+2 * hN l<=99999->w+hN l<=9999->CK p ls (hN l) (8 * hN l) k (cH p x l w k)
 | [],w,k,_,_,_,_,_=>by unfold cH;exact CK.nil
 | y::r,w,k,hv,hu,hd,hk,hw=>by
  simp only [pE,rn,aA] at hv hu;rw [hN] at *;unfold cH;exact Y8 y w k hv.1 hu.1 (λnd h=>hd nd (aI _ h)) hk hw
theorem YU{ls:List iH}{lp:Nat}:∀ (l:List Ex) (w k:Nat),pE l=true->rn l=true->(∀ nd∈oY l lp,jJ p x nd=0)->k+2 * iN l<=99999->w+iN l<=9999->CK p ls (iN l) (8 * iN l) k (cI p x l w k)
 | [],w,k,_,_,_,_,_=>by unfold cI;exact CK.nil
 | y::r,w,k,hv,hu,hd,hk,hw=>by
  simp only [pE,rn,aA] at hv hu;rw [iN] at *;unfold cI;exact RV r w k hv.2 hu.2 (λnd h=>hd nd (aF _ h)) hk hw
theorem RU{ls:List iH}{lp:Nat}:∀ (l:List Ex) (w k:Nat),pE l=true->rn l=true->(∀ nd∈oY l lp,jJ p x nd=0)->k+2 * lh l<=99999->w+lh l<=9999->CK p ls (lh l) (8 * lh l+l.length) k (cC p x l w k)
 | [],w,k,_,_,_,_,_=>by unfold cC;exact CK.nil
 | y::r,w,k,hv,hu,hd,hk,hw=>by
  simp only [pE,rn,aA] at hv hu;have hp:=Us y;rw [lh] at *;unfold cC;have A:=Y8 (ls:=ls) y w k hv.1 hu.1 (λnd h=>hd nd (aI _ h)) O O;have B:=RU (ls:=ls) r (w+1) (cE p x y w k).2 hv.2 hu.2 (λnd h=>hd nd (aF _ h)) Q14 O;have:=A.lo;have:=A.hi;have:=A.len;have:=B.lo;have:=B.hi;have:=B.len;exact ⟨by simp only;omega,by simp only;omega,by simp only [ac,aw,aq];omega,A.cg.appS (B.cg.cop Dc) (λi h1 h2=>by omega) λi=>by simp only;omega⟩
end
end
end
section
variable{TT:kD}{Q:pS}{fr:Fr}{ops:Array Oper}
def qnx{c t:Nat}(hx:lk fr x=some (.slice A m c))(ht:jz TT t=some ti)(hk:ti.kind=.sl e):QE P TT D fr (.binOp .eql t x (.const (.slice none 0 0)) t') ty K s0 (.bool A.isNone):=
 QE.pure λhT dst iL af g ρ hρ w=>by
  have hc:=hρ (.const (.slice none 0 0)) _ rfl;have hu:P.underlying t=some (.slice e):=by
   obtain ⟨h1,h2,_⟩:=hT.at_ ht;rw [hk] at h2;rw [h1];exact bl some h2
  have h:=Lib.run_eql_slice_nil (P:=P) w t e A m c 0 0 hu;simp [execOp,hρ x _ hx,hc,eqGuard,h]
def Qs{iC:Array Bool}(i j m o:Nat)(hr:Region.ready .any ops iC=[i,j,m,o])(h:JB P TT D n ops Q K s0 jd iC i fr L s)(h':JB P TT D n ops Q K s0 jd iC j fr L s)(h'':JB P TT D n ops Q K s0 jd iC m fr L s)(h4:JB P TT D n ops Q K s0 jd iC o fr L s):JA P TT D n ops Q K s0 (jd+1) iC fr L s:=
 OW hr Ξ (by simpa using ⟨h,h',h'',h4⟩)
def Ce(M1 X F L:Hl):(M1++(X++(F++L))).Perm (X++((F++M1)++L)):=by
 have:=aO M1 (X++F) L;simpa [am] using this
def E4{TT:kD}{fr:Fr}{κ:Type} [DecidableEq κ]  {kf:κ->Value} (KK:jO κ dk kf) {t:Nat}   (hm:yB P t dk z) {es:List (κ×Value×Nat)} {k:κ} (hx:lk fr x=some (.map (some b))) (hy:lk fr y=some (kf k)) (hi:vH s0 kf b es) :
  QE P TT D fr (.lookup t x y false) ty K s0 ((kX es k).getD z):=λhT dst iL af g ρ hρ L s ho hl hK=>by
 exact Xy
end
section
variable{lv β bb w:Nat}{l t:iH}
section
variable{x:iM}{e y z:Ex}{w:Nat}
def xT(h:az[0]?=some y):cH p x az w k=cE p x y w k:=by
 match az,h with
 | _::_,h=>simp at h;subst h;unfold cH;rfl
def Px(h:az[1]?=some y):cI p x az w k=cE p x y w k:=by
 match az,h with
 | _::r,h=>unfold cI;exact xT Q2
def qKq(h:az[j]?=some y):cC p x (az.drop j) w k=((cE p x y w k).1++.op qN::(cC p x (az.drop (j+1)) (w+1) (cE p x y w k).2).1,(cC p x (az.drop (j+1)) (w+1) (cE p x y w k).2).2):=by
 obtain ⟨hk,rfl⟩:=al.1 h;rw [aM hk,cC]
def QQ(h:e.kind=1):cE p x e w k=([.num pX e.num],k):=by
 obtain ⟨kd,o,n,nm,az⟩:=e;unfold cE;exact au h
def QR(h:e.kind=2):cE p x e w k=([cN p x e.name w],k):=by
 obtain ⟨kd,o,n,nm,az⟩:=e;have h:kd=2:=h;subst h;unfold cE;rfl
def QS(h:e.kind=3)(hy:e.args[0]?=some y):cE p x e w k=((cE p x y w k).1++[.num DQ (vN p (gi p e.name)),.ref O8 (gT (gi p e.name))],(cE p x y w k).2):=by
 obtain ⟨kd,o,n,nm,az⟩:=e;have h:kd=3:=h;subst h;simp only [cE,Int.reduceEq,↓reduceIte,xT (az:=az) hy,Ex.name]
def QT(h:e.kind=4):cE p x e w k=((cC p x e.args w k).1++cL p e.name e.args.length,(cC p x e.args w k).2):=by
 obtain ⟨kd,o,n,nm,az⟩:=e;have h:kd=4:=h;subst h;unfold cE;rfl
def QU(h:e.kind=5):cE p x e w k=([.op Nr],k):=by
 obtain ⟨kd,o,n,nm,az⟩:=e;have h:kd=5:=h;subst h;unfold cE;rfl
def QV(h:e.kind=6)(ho:e.op=1)(hy:e.args[0]?=some y):cE p x e w k=((cE p x y w k).1++[.op ra],(cE p x y w k).2):=by
 obtain ⟨kd,o,n,nm,az⟩:=e;have h:kd=6:=h;have ho:o=1:=ho;subst h;subst ho;simp only [cE,Int.reduceEq,↓reduceIte,xT (az:=az) hy]
def QW(h:e.kind=6)(ho:¬ e.op=1)(hy:e.args[0]?=some y):cE p x e w k=(.num pX (if e.op=3 then 4294967295 else 0)::.op qN::(cE p x y (w+1) k).1++[.op E2],(cE p x y (w+1) k).2):=by
 obtain ⟨kd,o,n,nm,az⟩:=e;have h:kd=6:=h;subst h;simp only [cE,Int.reduceEq,↓reduceIte,xT (az:=az) hy,ak (show ¬ o=1 from ho),Ex.op];rfl
section
variable(h:e.kind=7)(hy:e.args[0]?=some y)(hz:e.args[1]?=some z)
include h hy hz
theorem YZ(ho:e.op=20):cE p x e w k=((cE p x y w k).1++.ref uh (lT ((cE p x y w k).2+1))::(cE p x z w ((cE p x y w k).2+1)).1++[.op ra,.op ra,.lab (lT ((cE p x y w k).2+1))],(cE p x z w ((cE p x y w k).2+1)).2):=by
 obtain ⟨kd,o,n,nm,az⟩:=e;have h:kd=7:=h;have ho:o=20:=ho;subst h;subst ho;simp only [cE,Int.reduceEq,↓reduceIte,xT (az:=az) hy,Px (az:=az) hz]
theorem Y0(ho:e.op=21):cE p x e w k=((cE p x y w k).1++.op ra::.ref uh (lT ((cE p x y w k).2+1))::(cE p x z w ((cE p x y w k).2+1)).1++[.op ra,.lab (lT ((cE p x y w k).2+1)),.op ra],(cE p x z w ((cE p x y w k).2+1)).2):=by
 obtain ⟨kd,o,n,nm,az⟩:=e;have h:kd=7:=h;have ho:o=21:=ho;subst h;subst ho;simp only [cE,Int.reduceEq,↓reduceIte,xT (az:=az) hy,Px (az:=az) hz]
theorem Y1(ho:¬ e.op=20)(nj:¬ e.op=21):cE p x e w k=((cE p x y w k).1++.op qN::(cE p x z (w+1) (cE p x y w k).2).1++(yu e.op).map .op,(cE p x z (w+1) (cE p x y w k).2).2):=by
 obtain ⟨kd,o,n,nm,az⟩:=e;have h:kd=7:=h;subst h;simp only [cE,Int.reduceEq,↓reduceIte,xT (az:=az) hy,Px (az:=az) hz,ak (show ¬ o=20 from ho),ak (show ¬ o=21 from nj),Ex.op]
end
mutual
def Fv:∀ (e:Ex) (w k:Nat),(cE p x e w k).2<=k+2 * mT e
 | .mk kd o n nm az,w,k=>by
  have a:=Pw az w k;have b:=Pw az (w+1) k;have c:=Sa az w k;have d:=RW az w ((cH p x az w k).2+1);have f:=RW az (w+1) (cH p x az w k).2;have g:=PL az;rw [mT];unfold cE;repeat' split
  all_goals (simp only;omega)
def Pw:∀ (l:List Ex) (w k:Nat),(cH p x l w k).2<=k+2 * hN l
 | [],w,k=>by unfold cH;exact ay _
 | y::r,w,k=>by unfold cH;rw [hN];exact Fv y w k
def RW:∀ (l:List Ex) (w k:Nat),(cI p x l w k).2<=k+2 * iN l
 | [],w,k=>by unfold cI;exact ay _
 | y::r,w,k=>by unfold cI;rw [iN];exact Pw r w k
def Sa:∀ (l:List Ex) (w k:Nat),(cC p x l w k).2<=k+2 * lh l
 | [],w,k=>by unfold cC;exact ay _
 | y::r,w,k=>by
  have a:=Fv y w k;have b:=Sa r (w+1) (cE p x y w k).2;unfold cC;rw [lh];simp only;omega
end
def yX(p:jc)(x:iM)(e:Ex):Prop:=om e=true/\∃ lp,∀ nd∈oA e lp,jJ p x nd=0
def vI(p:jc)(x:iM)(l:List Ex):Prop:=pE l=true/\∃ lp,∀ nd∈oY l lp,jJ p x nd=0
def vI.at_:∀ {l:List Ex} {j:Nat},vI p x l->l[j]?=some y->yX p x y
 | z::r,0,⟨h1,lp,h2⟩,h=>by
  simp at h;subst h;simp only [pE,aA] at h1;exact ⟨h1.1,lp,λnd k=>h2 nd (aI _ k)⟩
 | z::r,j+1,⟨h1,lp,h2⟩,h=>by
  simp only [pE,aA] at h1;exact vI.at_ (l:=r) ⟨h1.2,lp,λnd k=>h2 nd (aF _ k)⟩ Q2
def yX.args(h:yX p x e):vI p x e.args:=by
 obtain ⟨kd,o,n,nm,az⟩:=e;obtain ⟨h,lp,hd⟩:=h;exact ⟨(zz h).2,lp,λnd k=>hd nd (an _ k)⟩
def zy:∀ {l:List Ex} {j:Nat},l[j]?=some y->lh (l.drop j)=mT y+lh (l.drop (j+1))
 | z::r,0,h=>by simp at h;subst h;simp only [cm,eh,lh]
 | z::r,j+1,h=>by simp only [eh];exact zy Q2
def RZ(hy:e.args[0]?=some y):mT e=1+mT y+lh (e.args.drop 1):=by
 obtain ⟨kd,o,n,nm,az⟩:=e;have h:=zy (l:=az) (j:=0) hy;rw [cm] at h;rw [mT,h,<- dA];rfl
def qKJ(hy:e.args[0]?=some y)(hz:e.args[1]?=some z):1+mT y+mT z<=mT e:=by
 rw [RZ hy,zy hz];omega
def Xd{p:Prop} (h:p:=by
 rcases Gy hd Dc Dc with ⟨_,h1⟩|⟨h1,i,g,h2,h3,_⟩
 . exact .inl h1
 . exact .inr ⟨h1.resolve_right Dc,i,g,h2,h3⟩):p:=h
def Rm(h:yX p x e)(hk:e.kind=2):(∃ a,mA (sE x) e.name=some a)\/mA (sE x) e.name=none/\∃ (i:Nat) (g:jv),gi p e.name=(i:Int)/\p.o[i]?=some g:=by
 obtain ⟨kd,o,n,nm,az⟩:=e;obtain ⟨_,lp,hd⟩:=h;have hd:=hd _ Mc;rw [jJ,oS,au hk] at hd;exact Xd
def XF{p:Prop} (h:p:=by
 obtain ⟨_,i,g,h2,h3,_⟩:=(Gy (x:=x) (nm:=nm) (uk:=3) (na:=0) hd Dc Dc).resolve_left (λh=>absurd h.1 Dc);exact ⟨i,g,h2,h3⟩):p:=h
def Rn(h:yX p x e)(hk:e.kind=3):∃ (i:Nat) (g:jv),gi p e.name=(i:Int)/\p.o[i]?=some g:=by
 obtain ⟨kd,o,n,nm,az⟩:=e;obtain ⟨_,lp,hd⟩:=h;have hd:=hd _ Mc;have hk:kd=3:=hk;subst hk;rw [jJ,oS] at hd;exact XF
def UY{g:jv}(h:p.o[i]?=some g):vN p (i:Int)=g.num:=by rw [vN,aD,h]
def Uv(h:yX p x e):wa e.kind<=e.args.length/\1<=e.kind/\e.kind<=7/\(e.kind=7->4<=e.op/\e.op<=21):=by
 obtain ⟨a1,a2,a3,a4,a5,a6⟩:=Bz (zz h.1).1;exact ⟨a3,a1,a2,λk=>⟨(a6 k).1,(a6 k).2⟩⟩
def QH(h:mA (sE x) nm=some a):cN p x nm w=.num qz2 ((jm x:Int)+(w:Int) - a):=by rw [cN,h]
section
variable{g:jv}(h:mA (sE x) nm=none)(hi:gi p nm=(i:Int))(hg:p.o[i]?=some g)
include h hi hg
theorem QF(hc:g.kind=1):cN p x nm w=.num pX g.num:=by rw [cN,h,hi,BE hg,UY hg];exact au hc
theorem QG(hc:¬ g.kind=1):cN p x nm w=.ref Sq (gT (i:Int)):=by rw [cN,h,hi,BE hg];exact ak hc
end
end
theorem Gl{x:iM}{es:List Ex}{b e:List iP}(h:∀ nd∈tA (.mk kd nm es b e) lp,jJ p x nd=0):jJ p x (.st (.mk kd nm es b e) lp)=0/\(∀ nd∈oY es lp,jJ p x nd=0)/\(∀ nd∈ly b (if kd=4 then lp+1 else lp),jJ p x nd=0)/\∀ nd∈ly e (if kd=4 then lp+1 else lp),jJ p x nd=0:=by grind [tA]
section
variable{x:iM}{y:iP}{e f:Ex}
def qKn(h:mA (sE x) nm=some a):BW p x nm=.num OG ((jm x:Int) - a):=by rw [BW,h]
def qKm(h:mA (sE x) nm=none)(hi:gi p nm=(i:Int)):BW p x nm=.ref Vb (gT (i:Int)):=by rw [BW,h,hi]
def qKp{l:List iP}(h:l[j]?=some y):cB p x (l.drop j) k ls=((cS p x y k ls).1++(cB p x (l.drop (j+1)) (cS p x y k ls).2 ls).1,(cB p x (l.drop (j+1)) (cS p x y k ls).2 ls).2):=by
 obtain ⟨hk,rfl⟩:=al.1 h;rw [aM hk,cB]
def QI(h:y.kind=1)(he:y.exprs[0]?=some e):cS p x y k ls=((cE p x e 0 k).1++[BW p x y.name],(cE p x e 0 k).2):=by
 obtain ⟨kd,nm,es,b,l⟩:=y;have h:kd=1:=h;subst h;simp only [cS,Int.reduceEq,↓reduceIte,xT (az:=es) he,iP.name]
def QJ(h:y.kind=2)(he:y.exprs[0]?=some e)(hf:y.exprs[1]?=some f):cS p x y k ls=((cE p x e 0 k).1++.num DQ (vN p (gi p y.name))::.op qN::(cE p x f 1 (cE p x e 0 k).2).1++[.ref O9 (gT (gi p y.name))],(cE p x f 1 (cE p x e 0 k).2).2):=by
 obtain ⟨kd,nm,es,b,l⟩:=y;have h:kd=2:=h;subst h;simp only [cS,Int.reduceEq,↓reduceIte,xT (az:=es) he,Px (az:=es) hf,iP.name]
def Jz(h:y.kind=3)(he:y.exprs[0]?=some e)(hl:y.els=[]):cS p x y k ls=((cE p x e 0 (k+1)).1++.ref uh (lT (k+1))::(cB p x y.body (cE p x e 0 (k+1)).2 ls).1++[.lab (lT (k+1))],(cB p x y.body (cE p x e 0 (k+1)).2 ls).2):=by
 obtain ⟨kd,nm,es,b,l⟩:=y;have h:kd=3:=h;have hl:l=[]:=hl;subst h;subst hl;simp only [cS,Int.reduceEq,↓reduceIte,xT (az:=es) he,iP.body,aq]
def YX(h:y.kind=3)(he:y.exprs[0]?=some e)(hl:y.els.length≠0):cS p x y k ls=((cE p x e 0 (k+1)).1++.ref uh (lT (k+1))::(cB p x y.body (cE p x e 0 (k+1)).2 ls).1++.ref wh (lT ((cB p x y.body (cE p x e 0 (k+1)).2 ls).2+1))::.lab (lT (k+1))::(cB p x y.els ((cB p x y.body (cE p x e 0 (k+1)).2 ls).2+1) ls).1++[.lab (lT ((cB p x y.body (cE p x e 0 (k+1)).2 ls).2+1))],(cB p x y.els ((cB p x y.body (cE p x e 0 (k+1)).2 ls).2+1) ls).2):=by
 obtain ⟨kd,nm,es,b,l⟩:=y;have h:kd=3:=h;subst h;simp only [cS,Int.reduceEq,↓reduceIte,xT (az:=es) he,ak (show ¬ l.length=0 from hl),iP.body,iP.els]
def QK(h:y.kind=4)(he:y.exprs[0]?=some e):cS p x y k ls=(.lab (lT (k+1))::(cE p x e 0 (k+2)).1++.ref uh (lT (k+2))::(cB p x y.body (cE p x e 0 (k+2)).2 (ls++[lT (k+1),lT (k+2)])).1++[.ref wh (lT (k+1)),.lab (lT (k+2))],(cB p x y.body (cE p x e 0 (k+2)).2 (ls++[lT (k+1),lT (k+2)])).2):=by
 obtain ⟨kd,nm,es,b,l⟩:=y;have h:kd=4:=h;subst h;simp only [cS,Int.reduceEq,↓reduceIte,xT (az:=es) he,iP.body]
def QL(h:y.kind=5):cS p x y k ls=((cC p x y.exprs 0 k).1++cL p y.name y.exprs.length,(cC p x y.exprs 0 k).2):=by
 obtain ⟨kd,nm,es,b,l⟩:=y;have h:kd=5:=h;subst h;unfold cS;rfl
def QM(h:y.kind=6)(he:y.exprs[0]?=some e):cS p x y k ls=((cE p x e 0 k).1++[.num D0 (x.locals.length+1:Nat)],(cE p x e 0 k).2):=by
 obtain ⟨kd,nm,es,b,l⟩:=y;have h:kd=6:=h;subst h;simp only [cS,Int.reduceEq,↓reduceIte,xT (az:=es) he]
def QN(h:y.kind=7)(he:y.exprs[0]?=some e):cS p x y k ls=((cE p x e 0 k).1++[.op Ns],(cE p x e 0 k).2):=by
 obtain ⟨kd,nm,es,b,l⟩:=y;have h:kd=7:=h;subst h;simp only [cS,Int.reduceEq,↓reduceIte,xT (az:=es) he]
def QO(h:y.kind=8)(he:y.exprs[0]?=some e):cS p x y k ls=((cE p x e 0 k).1++[.op BI],(cE p x e 0 k).2):=by
 obtain ⟨kd,nm,es,b,l⟩:=y;have h:kd=8:=h;subst h;simp only [cS,Int.reduceEq,↓reduceIte,xT (az:=es) he]
def QP(h:y.kind=9):cS p x y k ls=([.ref wh (ls.getD (ls.length - 1) [])],k):=by
 obtain ⟨kd,nm,es,b,l⟩:=y;have h:kd=9:=h;subst h;unfold cS;rfl
def qKw(h:y.kind=10):cS p x y k ls=([.ref wh (ls.getD (ls.length - 2) [])],k):=by
 obtain ⟨kd,nm,es,b,l⟩:=y;have h:kd=10:=h;subst h;unfold cS;rfl
mutual
def YY:∀ (y:iP) (k:Nat) (ls:List iH),(cS p x y k ls).2<=k+2 * qm y
 | .mk kd nm es b e,k,ls=>by
  have a:=λk=>Pw (p:=p) (x:=x) es 0 k;have a1:=a k;have a2:=a (k+1);have a3:=a (k+2);have c:=Sa (p:=p) (x:=x) es 0 k;have d:=RW (p:=p) (x:=x) es 1 (cH p x es 0 k).2;have f:=GK b (cH p x es 0 (k+1)).2 ls;have g:=GK e ((cB p x b (cH p x es 0 (k+1)).2 ls).2+1) ls;have i:=GK b (cH p x es 0 (k+2)).2 (ls++[lT (k+1),lT (k+2)]);have h:=PL es;have h2:=PK es;rw [qm];unfold cS;repeat' split
  all_goals (simp only;omega)
def GK:∀ (l:List iP) (k:Nat) (ls:List iH),(cB p x l k ls).2<=k+2 * ke l
 | [],k,ls=>by unfold cB;exact ay _
 | y::r,k,ls=>by
  have a:=YY y k ls;have b:=GK r (cS p x y k ls).2 ls;unfold cB;rw [ke];simp only;omega
end
def zR(p:jc)(x:iM)(y:iP)(lp lv:Nat):Prop:=th y lv=true/\∀ nd∈tA y lp,jJ p x nd=0
def CB(p:jc)(x:iM)(l:List iP)(lp lv:Nat):Prop:=oC l lv=true/\∀ nd∈ly l lp,jJ p x nd=0
def CB.at_:∀ {l:List iP} {j:Nat},CB p x l lp lv->l[j]?=some y->zR p x y lp lv
 | z::r,0,⟨h1,h2⟩,h=>by
  simp at h;subst h;simp only [oC,aA] at h1;exact ⟨h1.1,λnd k=>h2 nd (aI _ k)⟩
 | z::r,j+1,⟨h1,h2⟩,h=>by
  simp only [oC,aA] at h1;exact CB.at_ (l:=r) ⟨h1.2,λnd k=>h2 nd (aF _ k)⟩ Q2
def Vg:∀ {l:List iP} {j:Nat},l[j]?=some y->ke (l.drop j)=qm y+ke (l.drop (j+1))
 | z::r,0,h=>by simp at h;subst h;simp only [cm,eh,ke]
 | z::r,j+1,h=>by simp only [eh];exact Vg Q2
def zR.parts(h:zR p x y lp lv):lv<=16/\vI p x y.exprs/\CB p x y.body (if y.kind=4 then lp+1 else lp) (lv+1)/\CB p x y.els (if y.kind=4 then lp+1 else lp) (lv+1):=by
 obtain ⟨h1,h2,h3,h4,h5⟩:=wY h.1;obtain ⟨kd,nm,es,b,e⟩:=y;obtain ⟨d1,d2,d3,d4⟩:=Gl h.2;exact ⟨h1,⟨h3,_,d2⟩,⟨h4,d3⟩,⟨h5,d4⟩⟩
def Vn(h:zR p x y lp lv)(hk:y.kind=1):(∃ a,mA (sE x) y.name=some a)\/mA (sE x) y.name=none/\∃ (i:Nat) (g:jv),gi p y.name=(i:Int)/\p.o[i]?=some g:=by
 obtain ⟨kd,nm,es,b,e⟩:=y;have hd:=(Gl h.2).1;have e1:o6 (.mk kd nm es b e)=(nm,1,0):=au hk;have hk:kd=1:=hk;rw [jJ,ak Q16,e1] at hd;exact Xd
def Vo(h:zR p x y lp lv)(hk:y.kind=2):∃ (i:Nat) (g:jv),gi p y.name=(i:Int)/\p.o[i]?=some g:=by
 obtain ⟨kd,nm,es,b,e⟩:=y;have hd:=(Gl h.2).1;have hk:kd=2:=hk;have e1:o6 (.mk kd nm es b e)=(nm,3,0):=(ak (show ¬ kd=1 by omega)).trans (au hk);rw [jJ,ak Q16,e1] at hd;exact XF
def Lk(h:zR p x y lp lv)(hk:y.kind=9\/y.kind=10):0 < lp:=by
 obtain ⟨kd,nm,es,b,e⟩:=y;have hd:=(Gl h.2).1;rw [jJ] at hd;by_cases h0:lp=0
 . rw [au ⟨hk,h0⟩] at hd;cases hd
 . omega
theorem qzW(h:j < ls.length):(sb ls)[j]?=some (St (ls.getD j [])):=by grind [List.getD,sb]
end
def qnU{α:Type}{l:List α}{x:α}(h:l[k]?=some x):l.drop k=x::l.drop (k+1):=by
 obtain ⟨hk,rfl⟩:=al.1 h;exact aM hk
def qv3{R:Hl}{c:Nat}{xs ys:iz}(h:Own e 1 R (.slice A n c) n (xs++ys))(hm:m=xs.length)(hn:n≠0):Own e 1 R (.slice A m c) m xs:=by
 obtain ⟨b,zs,rfl,rfl,h1,h2,h3,h4⟩:=Ow h O;subst hm;rw [am] at *;exact qoA rfl (by simp only [ac] at h2 ⊢;omega) (by simp only [ac] at h1;omega) h4
def wR{κ:Type} [DecidableEq κ]  {kf:κ->Value}  {TT:kD}  {Q:pS} {fr:Fr}   {ops:Array Oper}      (KK:jO κ dk kf) {t:Nat} {z:Operand}  (i:Nat) (hm:yB P t dk zv) {es:List (κ×Value×Nat)}  {k:κ} (hY:lk fr x=some (.map (some b))/\lk fr y=some (kf k)/\lk fr z=some v/\L[i]?=some (b,mp kf es ck))
  (kk:∀ es' yZ,(∀ j,kX es' j=if j=k then some v else kX es j)->JO P TT D n ops Q iI fr (lV L i (mp kf es' yZ)) s):JO P TT D n ops Q (⟨none,.insert t x y z,ty,iL,af,none⟩::iI) fr L s:=by
 obtain ⟨hx,hy,hz,hi⟩:=hY
 obtain ⟨yZ,h⟩:=Uw (TT:=TT) (D:=D) (s:=s) (ty:=ty) KK i hm hx hy hz hi;exact Pp (λhT ho dst iL af g ρ hρ=>h hT ho dst iL af g ρ hρ) (kk _ yZ (NH es k v ck))
def qqh{TT:kD}{Q:pS}{fr:Fr}(X A:Hl){Y:Hl}(h:∀ s',Le D s s'->(∀ b o,(b,o)∈A->s'.heap[b]?=some o)->JC P TT D n Q c fr (X++Y) s'):JC P TT D n Q c fr (X++(A++Y)) s:=λht a hr ho=>by
 have hp:(X++(A++Y)).Perm (A++(X++Y)):=by
  exact Pk
 rw [uc hp _ ho];have nj:=ho.perm hp;obtain ⟨e,d1,d2⟩:=tI nj;rw [e];exact h _ d2 (λb o hm=>qM nj.left hm) ht a hr d1
def qAP{TT:kD}{fr:Fr}{b:Int}{k:IntKind}(hx:lk fr x=some (.int k a))(hy:lk fr y=some (.int k' b)):QE P TT D fr (.call { callee:=.builtin .max,args:=#[x,y],argTypes:=ts }) ty K s0 (.int k (max a b)):=by
 have e:max a b=if b > a then b else a:=by split<;>omega
 rw [e];exact QE.pure λhT dst iL af g ρ hρ w=>by simp [execOp,resolve,invoke,builtin,Builtin.max_,Builtin.max2,hρ x _ hx,hρ y _ hy]
def qt4{κ:Type}{TT:kD}{Q:pS}{fr:Fr}{ops:Array Oper}{i0 t:Nat}{g:Option (Nat×Bool)}{iC:Array Bool}(rO:ops[i0]?=some ⟨some d,.makeMap t none,ty,iL,af,g⟩)(hg:sf ops fr g)(kf:κ->Value)(hd:Nat.blt d n=true)
  (k:∀ β s',Le D s s'->JA P TT D n ops Q K s0 jd (iC.setIfInBounds i0 true) ((d,.map (some β))::fr) ((β,mp kf [] 0)::L) s'):JB P TT D n ops Q K s0 jd iC i0 fr L s:=λhT a hf ho hl hK=>
 Cn rO hg (qnp kf ho) (qB ho (mp kf [] 0)).2.2 (λx _ hx=>an _ hx) hd (k _ _ (qB ho (mp kf [] 0)).2.2) hT a hf ho hl hK
section
variable{x:iM}{w:iH}{g:jv}{y:iM}
abbrev fI(m:Int×Int):Value:=iB m.2
def qKX(h:p.o[k]?=some g):(gE p)[k]?=some (g.name,((3:Int),(k:Int))):=by rw [gE,da,h];rfl
def qKR(h:p.funcs[k]?=some y):(fE p)[k]?=some (y.name,((4:Int),(k:Int))):=by rw [fE,da,h];rfl
theorem Vk(h:x.locals[k]?=some w):(sE x)[k]?=some (w,((2:Int),((x.params.length+1+k:Nat):Int))):=by grind [sE]
theorem Vl(h:x.params[k]?=some w):(sE x)[x.locals.length+k]?=some (w,((1:Int),(k:Int))):=by grind [sE,List.length_mapIdx,Nat.add_sub_cancel_left]
def U5(hn:T.length<=n)(h:∀ nm,kX es nm=((T.take n).find? λe=>decide (e.1=nm)).map λe=>fI e.2)(nm:iH):kX es nm=(mA T nm).map (Value.int .i64):=by
 rw [h nm,aK hn,mA,Option.map_map];rfl
def qKr(p:jc)(x:iM)(i k:Nat):cF p x i k=(.lab (fT i)::(if 0 < x.locals.length then [.num pX 0] else [])++List.replicate x.locals.length (.op qN)++(cB p x x.body k []).1++[.num pX 0,.num D0 (x.locals.length+1:Nat)],(cB p x x.body k []).2):=rfl
def qnX:∀ l:List Ex,l.length<=lh l
 | []=>ay _
 | z::r=>by have:=Us z;have:=qnX r;rw [lh,aw];omega
def qoP:∀ l:List iP,l.length<=ke l
 | []=>ay _
 | z::r=>by have:=Gx z;have:=qoP r;rw [ke,aw];omega
def qK0(h:g.kind=2):yg g=1:=au h
theorem qK1(h:g.kind=3):yg g=g.num:=by grind [yg]
def qKZ(h:¬ g.kind=2)(h2:¬ g.kind=3):yg g=0:=by unfold yg;rw [ak h,ak h2]
def qK2(h:iQ g.num):0<=yg g/\yg g < 4294967296:=by
 have:=h.1;have:=h.2;unfold yg;split
 . omega
 . split<;>omega
def Uh:∀ (l:List jv),(∀ g∈l,iQ g.num)->l.length<=64->0<=uC l/\uC l<=4294967296 * (l.length:Int)
 | [],_,_=>⟨gz _,gz _⟩
 | z::r,h,hl=>by
  have a:=qK2 (h z Mc);simp only [aw] at hl ⊢;have b:=Uh r (λy hy=>h y (an _ hy)) O;rw [uC];omega
def qvU{l:List jv}(h:l[k]?=some g):uC (l.drop k)=yg g+uC (l.drop (k+1)):=by
 obtain ⟨hk,rfl⟩:=al.1 h;rw [aM hk,uC]
def qrE{l:List iM}(h:l[k]?=some y):qE (l.drop k)=ke y.body+qE (l.drop (k+1)):=by
 obtain ⟨hk,rfl⟩:=al.1 h;rw [aM hk,qE]
def UT:∀ (l:List iM),(∀ x∈l,ke x.body<=2000)->qE l<=2000 * l.length
 | [],_=>ay _
 | z::r,h=>by
  have a:=h z Mc;have b:=UT r λy hy=>h y (an _ hy);rw [qE,aw];omega
def qKs(p:jc)(x:iM)(i k:Nat):(cF p x i k).2<=k+2 * ke x.body:=GK x.body k []
def YV(p:jc):cP p=[.ref Fp wo,.ref AJ (fT (fi p mu)),.num pX 0,.op BI]++(rJ p p.funcs 0 0).1++uN p.o 0++[.lab wo]:=rfl
def TG(h:pB p=(0,0)):0 < p.funcs.length:=by
  unfold pB at h;cases hf:p.funcs with
  | cons x r=>simp
  | nil=>
    rw [hf] at h;split at h
    . rename_i h2;rw [h] at h2;exact absurd rfl h2
    . split at h
      . rename_i h2;rw [h] at h2;exact absurd rfl h2
      . cases h
def UG{l:List jv}(h:l[k]?=some g):uN (l.drop k) i=cG g i++uN (l.drop (k+1)) (i+1):=by
 obtain ⟨hk,rfl⟩:=al.1 h;rw [aM hk,uN]
def qHl{l:List iM}(h:l[k]?=some y):rJ p (l.drop k) i j=((cF p y i j).1++(rJ p (l.drop (k+1)) (i+1) (cF p y i j).2).1,(rJ p (l.drop (k+1)) (i+1) (cF p y i j).2).2):=by
 obtain ⟨hk,rfl⟩:=al.1 h;rw [aM hk,rJ]
def qzB(hg:qk g=0)(hu:iQ g.num):0<=max g.num 1 - (g.init.length:Int)/\max g.num 1 - (g.init.length:Int) < 4294967296:=by
  have h4:=(BB hg).2.2.2.1;have h5:=(BB hg).2.2.1;have o4:=hu.2;by_cases h3:g.kind=3
  . unfold qk at hg
    rw [ak O,ak (by rw [h5];decide),ak O] at hg;split at hg
    . cases hg
    . split at hg
      . cases hg
      . omega
  . rw [h4 h3];simp only [aq];omega
end
attribute [local irreducible] JC JO JA JB ma mO mX AC fill iy QE Ev my
structure CE where
 Ag:iE
 ng:Nat
 cg:Nat
 Af:iE
 nf:Nat
 cf:Nat
 gm:Nat
 fm:Nat
 sm:Option Nat
 sz:Nat
 nl:Nat
abbrev sv(E:CE)(k w:Nat)(vl:Value):iz:=[iB (k:Int),.slice E.Ag E.ng E.cg,.slice E.Af E.nf E.cf,.map (some E.gm),.map (some E.fm),.map E.sm,iB (E.sz:Int),iB (E.nl:Int),iB (w:Int),vl]
abbrev CR(E:CE)(bb k w:Nat)(vl:Value)(t:iH)(M:Hl):Prop:=WC (sv E k w vl) 130 bb M t
def yT(s:World)(b:Nat)(T:List (iH×(Int×Int))):Prop:=∃ es:List (iH×Value×Nat),vH s (λl=>St l) b es/\∀ nm,kX es nm=(mA T nm).map (Value.int .i64)
def yT.le(h:yT s b T)(hl:Le D s s'):yT s' b T:=⟨_,h.choose_spec.1.le hl,h.choose_spec.2⟩
def yA:yB prog 123 .string (iB 0):=⟨_,_,underlying123,underlying9,λw=>by rw [Dt KM];rfl⟩
def GG(h:∀ nm,kX es nm=(mA T nm).map (Value.int .i64)):(kX es nm).getD (iB 0)=iB ((mA T nm).getD 0):=by
 rw [h];cases mA T nm<;>rfl
structure tk(s:World)(p:jc)(x:iM)(E:CE):Prop where
 gl:ja s E.Ag E.ng E.cg p.o
 mg:yT s E.gm (gE p)
 mf:yT s E.fm (fE p)
 ms:∃ b,E.sm=some b/\yT s b (sE x)
 sz:E.sz=jm x
 nl:E.nl=x.locals.length
 pq:PQ p x
def tk.le{x:iM}{E:CE}(h:tk s p x E)(hl:Le D s s'):tk s' p x E:=⟨h.gl.le hl,h.mg.le hl,h.mf.le hl,h.ms.imp λ_ k=>⟨k.1,k.2.le hl⟩,h.sz,h.nl,h.pq⟩
def Ol(hG:GP s){n:Int}(h0:0<=n)(h1:n<=9223372036854775807):jU D 89 [iB n] L s λv L' _=>v=St (pD n)/\L=L':=by
 have h:=qCq (D:=D) (L:=L) (s:=s) hG.gw (n:=n) O h1
 rwa [show Lib.itoa n=pD n by unfold Lib.itoa;rw [ak O];rfl] at h
def Vh(ws:List iH)(hc:iy s β 0 (sb ws))(hx:∀ x∈ws,x.length<=1000000000)(hn:ws.length<=1000):iO s (jZ β) ws.length ws.length ws:=
 Sl.lit (R:=λ_ x cs=>cs=[St x]/\x.length<=9223372036854775807) (ws.map λx=>[St x]) hc (qs4 ws) (y_ (λx=>[St x]) ws λx z7=>⟨rfl,rfl,by have:=hx x z7;omega⟩) _ rfl O
def qz6{T:Nat}(hW:WC R T bb M l){c:Nat}(hS:iO s A n c ws)(hj:(Lib.join ws [32]).length<=1000000000)(hn:ws.length<=2)(iK:l.length<=1000000000):po D 45 [iT bb,.slice A n c] M L s λv M' _=>v=.tuple #[]/\WC R T bb M' (l++32::(Lib.join ws [32]++[10])):=by
 refine jn (fn:=f45) jb func45 V Z ntmps45 Z (rs:=[]) Z [(0,_),(1,_)] Z<|mv jt 8 Z 0 λs1 h1=>H4 ?_;refine iF 4 V<|Jf Z Tt Z Z Z (qol _ ws Pz O O) λs2 h2=>za 5 Z (lO Y2 Uo) Z<|za 6 Z (lO Y2 Uo) Z<|iF 7 V<|Jb Z Tt Z Z Z (uB hW Ut) ?_;exact Ja
def yy{T:Nat}(hW:WC R T bb M l){n:iH}(hc:iy s β 0 [St n])(iK:l.length+(cT [.op n]).length<=1000000000):jU D 45 [iT bb,.slice (jZ β) 1 1] (M++L) s λv L' _=>∃ M',L'=M'++L/\v=.tuple #[]/\WC R T bb M' (l++cT [.op n]):=by
 have e:cT [.op n]=32::(n++[10]):=by simp [cT,zm,wO]
 have j:Lib.join [n] [32]=n:=by simp [Lib.join,List.intercalate]
 rw [e] at iK ⊢;simp only [aw,ac,aq] at iK;have:=qz6 (D:=D) (L:=L) (s:=s) hW (n:=1) (c:=1) (ws:=[n]) (Vh [n] hc Q6 Ξ) (by rw [j];omega) Ξ O
 rwa [j] at this
def wV{T:Nat}(hW:WC R T bb M l){n a:iH}(hc:iy s β 0 [St n,St a])(iK:l.length+(cT [.ref n a]).length<=1000000000):jU D 45 [iT bb,.slice (jZ β) 2 2] (M++L) s λv L' _=>∃ M',L'=M'++L/\v=.tuple #[]/\WC R T bb M' (l++cT [.ref n a]):=by
 have e:cT [.ref n a]=32::((n++32::a)++[10]):=by simp [cT,zm,wO]
 have j:Lib.join [n,a] [32]=n++32::a:=by simp [Lib.join,List.intercalate]
 rw [e] at iK ⊢;simp only [aw,ac,aq] at iK;have:=qz6 (D:=D) (L:=L) (s:=s) hW (n:=2) (c:=2) (ws:=[n,a]) (Vh [n,a] hc Q6 Ξ) (by rw [j];simp only [ac,aw];omega) Ξ O
 rwa [j] at this
def XS{p:Prop} (h:p:=by
 rintro _ _ s1 h1 ⟨rfl,rfl⟩;refine iA (lO Y2 Uo) Z<|G4 ?_;exact rX [] L Z h1 λ_ iD=>qH):p:=h
def RT(hG:GP s){i:Int}(h0:0<=i)(h1:i<=1000000000):jT D 46 [iB i] L s (St (fT i)):=by
 have hd:=CO (n:=i) ⟨h0,O⟩;refine jn (fn:=f46) jb func46 V Z ntmps46 Z (rs:=[.tmp 2]) Z [(0,_)] Z<|G8 ?_;refine Jc Y3 (Ol Pz h0 O) ?_;exact XS
def Ld(hG:GP s){i:Int}(h0:0<=i)(h1:i<=1000000000):jT D 91 [iB i] L s (St (gT i)):=by
 have hd:=CO (n:=i) ⟨h0,O⟩;refine jn (fn:=f91) jb func91 V Z ntmps91 Z (rs:=[.tmp 2]) Z [(0,_)] Z<|G8 ?_;refine Jc Y3 (Ol Pz h0 O) ?_;exact XS
def vY(hG:GP s){T:Nat}(hW:WC R T bb M l){n:iH}{i:Int}(hu:0<=i/\i < 4294967296)(iK:l.length+(cT [.num n i]).length<=1000000000):po D 47 [iT bb,St n,iB i] M L s λv M' _=>v=.tuple #[]/\WC R T bb M' (l++cT [.num n i]):=by
 refine jn (fn:=f47) jb func47 V Z ntmps47 Z (rs:=[]) Z [(0,_),(1,_),(2,_)] Z<|G4 ?_;refine Je Y3 (Ol Pz hu.1 O) λs1 h1=>lx [(_,_),(_,_)] [_,_] Y9 λβ2 s2 h2 pt=>Jc Y3 (wV hW Pz iK) ?_;rintro _ _ s3 h3 ⟨M1,rfl,rfl,kM⟩;refine Zn ?_;refine lF [] _ (.inl Z) (.nil) Z Lc λ_ iD=>?_;exact ⟨_,rfl,rfl,kM⟩
def B7{T:Nat}(hW:WC R T bb M l){a:iH}(iK:l.length+(cT [.lab a]).length<=1000000000):jU D 50 [iT bb,St a] (M++L) s λv L' _=>∃ M',L'=M'++L/\v=.tuple #[]/\WC R T bb M' (l++cT [.lab a]):=by
 have e:cT [.lab a]=a++[58,10]:=by simp [cT,zm,wO]
 rw [e] at iK ⊢;simp only [aw,ac,aq] at iK;refine jn (fn:=f50) jb func50 V Z ntmps50 Z (rs:=[]) Z [(0,_),(1,_)] Z<|G5 ?_;refine iA (lO Y2 Uo) Z<|Jc Y3 (uB hW Ut) ?_;rintro _ _ s1 h1 ⟨M1,rfl,rfl,kM⟩;refine Zn ?_;refine lF [] _ (.inl Z) (.nil) Z h1 λ_ iD=>?_;exact ⟨_,rfl,rfl,kM⟩
def Gh(hG:GP s){E:CE}(hW:CR E bb k w vl t M)(hk:k<=1000000):po D 231 [iT bb] M L s λv M' _=>v=St (lT (k+1))/\CR E bb (k+1) w vl t M':=by
 have hd:=CO (n:=((k+1:Nat):Int)) ⟨O,O⟩;refine jn (fn:=f231) jb func231 V Z ntmps231 Z (rs:=[.tmp 2]) Z [(0,_)] Z<|G6 ?_;obtain ⟨p1,N1,v1,rj,rfl,pr⟩:=hW;simp only [ao,sv];refine G5 ?_;refine iA (nV (c:=((k+1:Nat):Int)) Z Z Q8) Z<|G2 ?_;refine X32 ?_;refine Je Y3 (Ol Pz O O) λs1 h1=>iA (lO Y2 Uo) Z<|G4 ?_;exact rR [] _ (.t1 Z) Z h1 λ_ iD=>⟨(_::N1),rfl,rfl,⟨p1,N1,v1,rj,rfl,pr⟩⟩
def OO{E:CE}(hW:CR E bb k w vl t M)(hk:w<=1000000)(iK:t.length+(cT [.op qN]).length<=1000000000):po D 182 [iT bb] M L s λv M' _=>v=.tuple #[]/\CR E bb k (w+1) vl (t++cT [.op qN]) M':=by
 refine jn (fn:=f182) jb func182 V Z ntmps182 Z (rs:=[]) Z [(0,_)] Z<|G5 ?_;refine lx [(_,_)] [_] Y9 λβ1 s1 h1 nI=>Jc Y3 (yy (M:=M) (n:=qN) hW Pz Q1) ?_;rintro _ _ s2 h2 ⟨M1,rfl,rfl,kM⟩;refine G2 ?_;obtain ⟨p2,N2,v2,rP,rfl,tV⟩:=kM;simp only [ao,sv];refine G5 ?_;refine iA (nV (c:=((w+1:Nat):Int)) Z Z Q8) Z<|G2 ?_;refine Wt 0 [_,_,_,_,_,_,_,_,_,_,_,_] Y9<|Zn ?_;refine lF [] _ (.inl Z) (.nil) Z Lc λ_ iD=>?_;exact ⟨(_::N2),rfl,rfl,⟨p2,N2,v2,rP,rfl,tV⟩⟩
def Nw{p:Prop} (h:p:=by
 exact ⟨M2,rfl,rfl,by rw [hT];simpa only [lA,ln,lD,am,aE,ao,aC,aq,bC] using (show CR ⟨_,ng,cg,Af,nf,cf,gm,fm,some bs,sz,nl⟩ bb _ w vl _ _ from mB)⟩):p:=h
def Jk{p:Prop} (h:p:=by
 rintro _ _ s2 h2 ⟨M2,rfl,rfl,mB⟩;refine ⟨(λ_ hx _=>by cases hx),?_⟩;refine ji V<|G3 ?_;exact rR [] _ (.nil) Z Lc λ_ iD=>Nw):p:=h
def quU(p:jc)(x:iM)(hG:GP s){E:CE}(hE:tk s p x E)(hW:CR E bb k w vl t M)(uR:(∃ a,mA (sE x) nm=some a)\/mA (sE x) nm=none/\∃ (i:Nat) (g:jv),gi p nm=(i:Int)/\p.o[i]?=some g)(hw:w<=1000000)(iK:t.length+(cT [cN p x nm w]).length<=1000000000):po D 228 [iT bb,St nm] M L s λv M' _=>v=.tuple #[]/\CR E bb k w vl (t++cT [cN p x nm w]) M':=by
 obtain ⟨Ag,ng,cg,Af,nf,cf,gm,fm,sm,sz,nl⟩:=E;have qJ:ja s Ag ng cg p.o:=hE.gl;have hng:=qJ.1;have jp:sz=jm x:=hE.sz;have kL:nl=x.locals.length:=hE.nl;obtain ⟨bs,xE,ess,hms,hhms⟩:=hE.ms;have xE:sm=some bs:=xE;subst xE;obtain ⟨esg,hmg,hhmg⟩:=hE.mg;obtain ⟨esf,ze,hhmf⟩:=hE.mf;have hp6:=hE.pq.p6;have hl12:=hE.pq.l12;have hg64:=hE.pq.g64;have hf64:=hE.pq.f64;unfold jm at jp;refine jn (fn:=Tryz.f228) jb Tryz.func228 V Z Tryz.ntmps228 Z (rs:=[]) Z [(0,_),(1,_)] Z<|G2 ?_;obtain ⟨p1,N1,v1,rj,rfl,pr⟩:=hW;simp only [ao,sv];rcases uR with ⟨a,ha⟩|⟨hn,i,g,hi,hg⟩
 .have hT:=QH (p:=p) (w:=w) ha;have hrg:=OR ha;unfold jm at hT hrg;rw [<- jp] at hT;rw [hT] at iK;simp only [lA,ln,lD,ac,aq,ao] at iK;refine G6 ?_;refine iA (kK (Kd jO.str yA Z Z Pz) (show _=Value.tuple #[iB a,.bool true] by rw [hhms,ha];rfl)) Z<|rH ?_;refine mv jt 15 Z 0 λs1 h1=>Qp ?_;refine kA 6 10 V ?_ ?_;.refine jW Z Tt (Wd 0 Y5) Z<|iF 10 V<|jW Z Tt (Wd 0 Y5) Z<|za 11 Z (nV Z Z (jq O O)) Z<|za 13 Z (tD Z Z (jq O O)) Z<|iF 14 V<|Jb Z Tt Z Z Z (vY Pz (M:=(_::N1)) ⟨p1,N1,v1,rj,Z,pr⟩ O Q1) ?_;exact Jk
  refine jW Z Tt (Wd 0 Y5) Z<|iF 6 V<|jW Z Tt (Wd 0 Y5) Z<|za 11 Z (nV Z Z (jq O O)) Z<|za 13 Z (tD Z Z (jq O O)) Z<|iF 14 V<|Jb Z Tt Z Z Z (vY Pz (M:=(_::N1)) ⟨p1,N1,v1,rj,Z,pr⟩ O Q1) ?_;exact Jk
 refine G6 ?_;refine iA (kK (Kd jO.str yA Z Z Pz) (show _=Value.tuple #[iB 0,.bool false] by rw [hhms,hn];rfl)) Z<|Wg ?_;refine iA (kK (E4 jO.str yA Z Z Pz) ((GG hhmg).trans (bl (Value.int .i64) hi))) Z<|G5 ?_;have Be:i < ng:=by rw [qJ.1];exact (al.1 hg).1
 obtain ⟨bg,og,g9,Ai,ni,ci,rfl,hg9,hcg,Bd,hug,hnl9⟩:=ja.at_ Pz Be;obtain rfl:g=g9:=cM (hg.symm.trans hg9);have hgu:=hug.1;have hgu2:=hug.2;refine G7 ?_;refine iA (jK Y6 Be) Z<|iA (ku Y3 Pz Z) Z<|jh Z [_,_,_,_] Y2 λβ1 s1 h1=>Wt 0 [_,_,_,_] Y9<|J9 ?_ ?_<;>intro c2;.have hT:=QF (w:=w) hn hi hg c2;rw [hT] at iK;simp only [lA,ln,lD,ac,aq,ao] at iK;refine Zs<|mv jt 7 Z 1 λs3 h3=>H5 ?_;refine za 5 Z (sW Y5 (jq O O)) Z<|iF 6 V<|mR (_::N1) L lr (vY Pz (M:=(_::N1)) ⟨p1,N1,v1,rj,Z,pr⟩ ⟨hgu,hgu2⟩ Q1) ?_;rintro _ M2 s4 h4 ⟨rfl,mB⟩;refine ji V<|G3 ?_;exact rR [_] _ (.nil) Z Lc λ_ iD=>Nw
 have hT:=QG (w:=w) hn hi hg c2;rw [hT] at iK;simp only [lA,ln,lD,ac,aq,ao] at iK;refine Zk<|Zt<|mv jt 7 Z 0 λs3 h3=>H4 ?_;refine iF 4 V<|Jf Z Tt Z Z Z (Ld Pz O O) λs4 h4=>iF 5 V<|qC Z Tt [(_,_),(_,_)] [_,_] Y9 λt5 s5 h5 hc5=>iF 6 V<|mR (_::N1) L lr (wV (M:=(_::N1)) (n:=Sq) ⟨p1,N1,v1,rj,Z,pr⟩ Pz Q1) ?_;rintro _ M2 s6 h6 ⟨rfl,mB⟩;refine ji V ?_;refine lF [_] _ (.inl Z) (.nil) Z Lc λ_ iD=>?_;exact Nw
end
end Go.Proofs.YtemgonlhniicbaaGreatDoor
