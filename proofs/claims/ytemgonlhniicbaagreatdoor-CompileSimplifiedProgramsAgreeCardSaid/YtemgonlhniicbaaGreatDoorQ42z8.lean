/- Part 8. -/
import Derived.Test.YtemgonlhniicbaaGreatDoorQ42z7
set_option linter.unusedVariables false
set_option linter.defProp false
set_option linter.unusedSimpArgs false
set_option linter.unnecessarySimpa false
set_option maxRecDepth 100000
set_option maxHeartbeats 8000000
namespace Go.Proofs.YtemgonlhniicbaaGreatDoor
open Go Go.RowKit Go.Proofs.Tryz
def bX:=@List.flatten_append
def di:=@List.flatMap_cons
def eY:=@Nat.eq_zero_or_pos
def gb:=@List.set_cons_zero
def gN:=@List.Perm.append_right
def gU:=@Nat.not_lt_zero
variable{x:iM}{L M K:Hl}{nm:iH}{s s':World}{Ms:List Hl}{P:Program}{a kd y:Int}{e n D bm j ty cc d m1 d1 m2 d2 m3 d3 b mi bx bf bn bp bg bc br oF oG:Nat}{os:Array Obj}{p:jc}{nd:Nd}{zs:iz}{nv v:Value}{css:List iz}{m:iG}{F' G' F G:List Bool}{Ag Af B1 B2 B3:iE}
section
attribute [local irreducible] JC JO JA JB ma mO mX AC fill iy QE Ev my
variable{s0:World}{x k:Int}
def qGC{TT:kD}{fr:Fr}{x:Operand}{t:Nat}(hx:lk fr x=some (iJ a)):QE P TT D fr (.unOp .neg t x) ty K s0 (iJ (mc (0 - a))):=QE.pure λ_ dst iL af g ρ hρ w=>by
 have h:Op.unary .neg (iJ a)=pure (iJ (IntKind.u32.wrap (0 - a))):=rfl;rw [dP] at h;simp [execOp,hρ x _ hx,h,mc]
def qyM(h:n < 4294967296):4294967295 ^^^ n=4294967295 - n:=by
 have e:(~~~(BitVec.ofNat 32 n)).toNat=4294967295 - n:=by rw [BitVec.toNat_not,BitVec.toNat_ofNat,gG h]
 rw [<- e,BitVec.not_def,BitVec.toNat_xor,BitVec.toNat_allOnes,BitVec.toNat_ofNat,gG h]
def qAL{TT:kD}{fr:Fr}{x:Operand}{t:Nat}(hx:lk fr x=some (iJ a))(ha:iQ a):QE P TT D fr (.unOp .xor t x) ty K s0 (iJ (4294967295 - a)):=QE.pure λ_ dst iL af g ρ hρ w=>by
 have h:=Tv (P:=P) (t:=t) (x:=4294967295) (y:=a) ⟨Θ,Θ⟩ ha w;have e:Op.unary .xor (iJ a)=Op.intBits .xor .u32 4294967295 a:=rfl;have e2:binOp .xor t (iJ 4294967295) (iJ a)=Op.intBits .xor .u32 4294967295 a:=rfl;rw [e2] at h;obtain ⟨n,rfl⟩:=aZ ha.1;have hn:n < 4294967296:=by have:=ha.2;omega
 have e3:(((4294967295:Int).toNat ^^^ ((n:Nat):Int).toNat:Nat):Int)=4294967295 - (n:Int):=by
  show ((4294967295 ^^^ n:Nat):Int)=_;rw [qyM hn];omega
 rw [e3] at h;simp [execOp,hρ x _ hx,e,h]
def zI(op x y:Int):Bool:=if op=1 then decide (x=0) else if op=14 then decide (x=y) else if op=15 then !decide (x=y) else if op=16 then decide (x < y) else if op=17 then decide (x<=y) else if op=18 then decide (y < x) else if op=19 then decide (y<=x) else if op=20 then (!decide (x=0) && !decide (y=0)) else (!decide (x=0) || !decide (y=0))
def qc(op x y:Int):Int:=if 14<=op\/op=1 then (if zI op x y=true then 1 else 0) else if op=2 then mc (0 - x) else if op=3 then 4294967295 - x else if op=4 then mc (x * y) else if op=5 then x / y else if op=6 then x % y
 else if op=7 then (((x.toNat <<< y.toNat) % 4294967296:Nat):Int) else if op=8 then ((x.toNat >>> y.toNat:Nat):Int) else if op=9 then ((x.toNat &&& y.toNat:Nat):Int) else if op=10 then mc (x+y) else if op=11 then mc (x - y) else if op=12 then ((x.toNat ||| y.toNat:Nat):Int) else ((x.toNat ^^^ y.toNat:Nat):Int)
def pm(op y:Int):Int×Int:=if op < 1\/21 < op then (4,-1) else if (op=5\/op=6)/\y=0 then (26,-3) else (0,0)
def CZ{p:Prop} (h:p:=by
 refine ⟨?_,Z⟩;simp [kU,zI, *];done):p:=h
def Xm{p:Prop} (h:p:=by
 refine rR [] L (.t1 Z) Z (Lr D) λ_ iD=>?_;refine ⟨?_,Z⟩;have uv:k=21:=by omega
 simp [kU,zI, *];done):p:=h
def qvx(hk:k=1\/(14<=k/\k<=21)):jT D 54 [iB k,iJ x,iJ y] L s (.bool (zI k x y)):=by
 refine jn (fn:=f54) jb func54 V Z ntmps54 Z (rs:=[.tmp 6]) Z [(0,_),(1,_),(2,_)] Z<|Cx ?_ ?_<;>intro c1;.refine lM ?_;exact rY Z λ_ iD=>CZ
 refine J6 ?_ ?_<;>intro c2;.refine lw ?_;exact rY Z λ_ iD=>CZ
 refine J6 ?_ ?_<;>intro c3;.refine lw ?_;exact rY Z λ_ iD=>CZ
 refine J6 ?_ ?_<;>intro c4;.refine lw ?_;exact rY Z λ_ iD=>CZ
 refine J6 ?_ ?_<;>intro c5;.refine G4 ?_;refine EP Z Z Z<|G6 ?_;exact rY Z λ_ iD=>CZ
 refine J6 ?_ ?_<;>intro c6;.refine lw ?_;exact rY Z λ_ iD=>CZ
 refine J6 ?_ ?_<;>intro c7;.refine G4 ?_;refine va Y3<|G6 ?_;exact rY Z λ_ iD=>CZ
 refine J6 ?_ ?_<;>intro c8
 .refine G5 ?_;refine tG (t:=46) Z ?_ ?_<;>intro c9;.refine lw ?_;exact rY Z λ_ iD=>CZ
  refine G9 ?_;exact rY Z λ_ iD=>CZ
 refine G8 ?_;refine tG (t:=52) Z ?_ ?_<;>intro c9;.refine G7 ?_;exact Xm
 refine G9 ?_;exact Xm
def Cr{p:Prop} (h:p:=by
 refine ⟨?_,Z⟩;have uQ:¬ (14<=k\/k=1):=by omega
 simp only [kU,qc];rw [ak uQ];simp [Lg, *];done):p:=h
def qm4(hx:iQ x)(hy:iQ y)(hk:2<=k/\k<=13)(hz:k=5\/k=6->y≠0):jT D 55 [iB k,iJ x,iJ y] L s (iJ (qc k x y)):=by
 refine jn (fn:=f55) jb func55 V Z ntmps55 Z (rs:=[.tmp 6]) Z [(0,_),(1,_),(2,_)] Z<|Cx ?_ ?_<;>intro c1;.refine Sr<|kb Y2<|iA (qGC Z) Z<|G6 ?_;exact rY Z λ_ iD=>Cr
 refine J6 ?_ ?_<;>intro c2;.refine Sr<|kb Y2<|iA (qAL Z hx) Z<|G6 ?_;exact rY Z λ_ iD=>Cr
 refine J6 ?_ ?_<;>intro c3;.refine G4 ?_;refine iA (UQ Z Z) Z<|G6 ?_;exact rY Z λ_ iD=>Cr
 refine J6 ?_ ?_<;>intro c4
 .refine G4 ?_;refine iA (qyW Z Z (hz (.inl As))) Z<|G6 ?_;refine rR [] L (.t1 Z) Z (Lr D) λ_ iD=>?_;refine ⟨?_,Z⟩;have uQ:¬ (14<=k\/k=1):=O
  simp only [kU,qc];rw [ak uQ];have h5:k=5:=by assumption
  simp [h5,Lg,JI hx hy];done
 refine J6 ?_ ?_<;>intro c5
 .refine G4 ?_;refine iA (qyX Z Z (hz (.inr As))) Z<|G6 ?_;refine rR [] L (.t1 Z) Z (Lr D) λ_ iD=>?_;refine ⟨?_,Z⟩;have uQ:¬ (14<=k\/k=1):=O
  simp only [kU,qc];rw [ak uQ];have h6:k=6:=by assumption
  simp [h6,JP hx];done
 refine J6 ?_ ?_<;>intro c6;.refine G4 ?_;refine iA (Ci Z Z qlT (qmc hx hy)) Z<|G6 ?_;exact rY Z λ_ iD=>Cr
 refine J6 ?_ ?_<;>intro c7;.refine G4 ?_;refine iA (Ci Z Z qlU (qmd hx hy)) Z<|G6 ?_;exact rY Z λ_ iD=>Cr
 refine J6 ?_ ?_<;>intro c8;.refine G4 ?_;refine iA (Ci Z Z Z_ (N_ hx hy)) Z<|G6 ?_;exact rY Z λ_ iD=>Cr
 refine J6 ?_ ?_<;>intro c9;.refine G4 ?_;refine iA (OY Z Z) Z<|G6 ?_;exact rY Z λ_ iD=>Cr
 refine J6 ?_ ?_<;>intro mz;.refine G4 ?_;refine iA (O4 Z Z) Z<|G6 ?_;exact rY Z λ_ iD=>Cr
 refine J6 ?_ ?_<;>intro nZ;.refine G4 ?_;refine iA (Ci Z Z qov (qoH hx hy)) Z<|G6 ?_;exact rY Z λ_ iD=>Cr
 refine G7 ?_;refine iA (Ci Z Z qlV (Tv hx hy)) Z<|G4 ?_;exact rY Z λ_ iD=>Cr
def WZ{p:Prop} (h:p:=by
 refine G4 ?_;refine iU (kB.mk (Lr D) Sb Z ((bL O).symm))):p:=h
def Rx{p:Prop} (h:p:=by
 refine G5 ?_;refine iU (kB.mk (Lr D) Sb Z ((bR O).symm))):p:=h
def Xk{p:Prop} (h:p:=by
 refine rR [_] L (.tmp Z (.agg (us:=[_,_]) 0 Z Z Z Z Z (.nil))) Z Lc λ_ iD=>?_;refine ⟨?_,Z⟩;rw [hE];rw [hO];rfl):p:=h
def XI{p:Prop} (h:p:=by
 refine G7 ?_;refine iU (kB.mk (Lr D) Sb Z (bK.2 O))):p:=h
def Jd{p:Prop} (h:p:=by
 refine mo Y2<|Wt 0 [_,_] Y9<|G5 ?_;refine rR [_] L (.tmp Z (.agg (us:=[_,_]) 0 Z Z Z Z Z (.nil))) Z Lc λ_ iD=>?_;refine ⟨?_,Z⟩;rw [hE];rfl):p:=h
def Aj(hx:iQ x)(hy:iQ y):jT D 20 [iB k,iJ x,iJ y] L s (.tuple #[iJ (if (pm k y).1=0 then qc k x y else 0),.agg #[iB (pm k y).1,iB (pm k y).2]]):=by
 refine jn (fn:=f20) jb func20 V Z ntmps20 Z (rs:=[.tmp 6,.cell 7 30]) Z [(0,_),(1,_),(2,_)] Z<|Sr<|mo Y2<|jh Z [_,_] Y2 λβ1 s1 h1=>G4 ?_;refine rW 8 (k < 1\/21 < k) ?_ ?_
 .refine G4 ?_;refine ld (t:=11) Z ?_ ?_<;>intro c3;.refine G5 ?_;exact K7
  refine G7 ?_;refine iU (kB.mk (Lr D) Sb Z (bK.2 O))
 intro s2 h2;refine mG Z ?_ ?_<;>intro c4;.have hE:pm k y=(4,-1):=au c4;refine Sr<|Je Y3 (BZ) λs5 h5=>?_;exact Jd
 have g8:=c4;refine rW 16 ((k=5\/k=6)/\y=0) ?_ ?_
 .refine G4 ?_;refine ld (t:=19) Z ?_ ?_<;>intro c6;.refine lw ?_;refine iU (kB.mk (Lr D) Sb Z (bK.2 O))
  refine G6 ?_;refine ld (t:=23) Z ?_ ?_<;>intro c7;.exact XI
  exact Rx
 intro s5 h5;refine mG Z ?_ ?_<;>intro c8;.have hE:pm k y=(26,-3):=(ak g8).trans (au c8);refine Sr<|Je Y3 (BZ) λs9 h9=>?_;exact Jd
 have g16:=c8;have hE:pm k y=(0,0):=(ak g8).trans (ak g16);refine G4 ?_;refine rW 33 (14<=k\/k=1) ?_ ?_
 .refine Zr<|kb Y2<|va Y3<|kb Y2<|?_;refine ld (t:=30) Z ?_ ?_<;>intro mz;.exact WZ
  refine G6 ?_;refine iU (kB.mk (Lr D) Sb Z (bK.2 O))
 intro s9 h9;refine mG Z ?_ ?_<;>intro nZ
 .have g33:=nZ;refine G6 ?_;refine Je Y3 (qvx O) λkh jE=>G2 ?_;refine su Z ?_ ?_<;>intro pZ
  .have hO:qc k x y=1:=by rw [qc,au g33,au pZ]
   refine Sr<|iA (jB [] [_,_] Y3 Z Z Z) Z<|mo Y2<|Wt 0 [_,_] Y9<|G5 ?_;exact Xk
  have hO:qc k x y=0:=by rw [qc,au g33,ak (by rw [pZ];decide)]
  refine Zk<|Zt<|Sr<|iA (jB [] [_,_] Y3 Z Z Z) Z<|mo Y2<|Wt 0 [_,_] Y9<|G4 ?_;exact Xk
 have g33:=nZ;refine G7 ?_;refine Je Y3 (qm4 hx hy O (λh h0=>g16 ⟨h,h0⟩)) λkh jE=>iA (jB [] [_,_] Y3 Z Z Z) Z<|mo Y2<|Wt 0 [_,_] Y9<|G3 ?_;refine rR [_] L (.tmp Z (.agg (us:=[_,_]) 0 Z Z Z Z Z (.nil))) Z Lc λ_ iD=>?_;refine ⟨?_,Z⟩;rw [hE];rfl
end
section
def qoC{ys:iz}{f:Array Value->Array Value}(ho:jQ D ((b,cb zs e)::L) s)(hf:(f zs.toArray).toList=ys) :
  ∃ s',Sort.grow (Sort.mapBlock (Sort.ahead (fill ((b,cb zs e)::L) s) n) b f) os=fill ((b,cb ys e)::L) s'/\jQ D ((b,cb ys e)::L) s'/\Le D s s':=by
 have e1:Sort.mapBlock (Sort.ahead (fill ((b,cb zs e)::L) s) n) b f=fill ((b,cb ys e)::L) (s.drewN n):=by
  show (Sort.mapBlock (pz (fill L s) b (cb zs e)) b f).drewN n=_;rw [Z6,hf];exact w_ ((b,cb ys e)::L) s n
 have ho':jQ D ((b,cb ys e)::L) (s.drewN n):=⟨ho.nd,λx hx=>by
  rcases aR.1 hx with rfl|hx
  . exact ho.dm (b,cb zs e) Mc
  . exact ho.dm x (an _ hx)⟩
 rw [e1];obtain ⟨h1,h2,h3⟩:=T7 (w':=Sort.grow (fill ((b,cb ys e)::L) (s.drewN n)) os) ho' (zt _ _) (zo _ _) (zp _ _) (by rw [Sort.size_grow,oB];omega) ho'.nd
  (λx hx=>by rw [Sort.heap_grow_old _ _ (by rw [oB];exact ho'.lt hx)];exact qM ho' hx) (λx hx=>.inl (aW.2 ⟨x,hx,rfl⟩))
  (λk hk hn=>by rw [Sort.heap_grow_old _ _ (by rw [oB];exact hk)];exact vV hn)
 exact ⟨_,h1,h2,(Le.drewN s n).trans h3⟩
end
section
variable{l:iG}{yc vs:iz}{c k ng cg nf cf:Nat}{A Ad:iE}{fi:Int}
def qzQ(h:m.length=l.length):(Sort.putCells (Value.int .i64) 0 m.toArray (iv l++yc).toArray).toList=iv m++yc:=by
  apply gr;intro k;simp only [Sort.putCells,Array.toList_mapIdx,da,aB,iw,aX,eO];by_cases hk:k < l.length
  . rw [aV (by simp [iv,hk]),aV (by simp [iv];omega)]
    simp [iv,hk,h]
  . rw [aY (by simp [iv];omega),aY (by simp [iv];omega)]
    simp [iv,hk,h]
def qog(ho:jQ D ((b,cb (iv l++yc) e)::L) s):Sort.Holds (Value.int .i64) (fill ((b,cb (iv l++yc) e)::L) s) b 0 l.toArray:=by
 have hblk:(fill ((b,cb (iv l++yc) e)::L) s).heap[b]?=some (cb (iv l++yc) e):=qM ho Mc;intro j hj;have hj':j < l.length:=by simpa using hj
 refine ⟨?_,by unfold World.frozen?;rw [hblk];simp [cb]⟩;rw [aX,Ca ho Mc,aV (by simp [iv];omega)];simp [iv,hj']
def R_:tM prog 70:=⟨_,func70,V,V⟩
def Z3:tM prog 71:=⟨_,func71,V,V⟩
def Cq(l:iG):iG:=l.mergeSort λx y=>decide (x<=y)
def qDr(hO:Own e 1 M (.slice A n c) n (iv l))(hb:n < 4611686018427387904):po D 70 [.slice A n c] M L s λv M' _=>v=.tuple #[]/\Own e 1 M' (.slice A n c) n (iv (Cq l)):=by
 generalize hv:Value.slice A n c=v0 at hO;generalize hx:iv l=xs at hO;cases hO with
 | nil=>
  injection hv with e1 e2 e3;subst e1;subst e3;have:l=[]:=aJ (by have:=bl List.length hx;simpa [iv] using this);subst this;refine AC.of_calls R_ λ_=>(Any.slices_Sort_int_none lays189 none 0 (fill L s)).mono λe w' ⟨he,hw⟩=>⟨_,he,by rw [hw];exact Dp,λs' _ _ _=>⟨[],Z,Z,?_⟩⟩;simp only [Cq,List.mergeSort_nil];exact .nil
 | blk b cap n xs ys h1 h2 h3 h4=>
  injection hv with e1 e2 e3;subst e1;subst e3;subst hx;have hl:n=l.length:=by simpa [iv] using h1.symm
  subst hl;refine ⟨R_,λho=>?_⟩;refine (Any.slices_Sort_int lays189 b 0 c l (fill ((b,cb (iv l++ys) e)::L) s) (qog ho) (by rw [oB];exact ho.lt Mc) hb).mono ?_;rintro e1 w' ⟨he,k,os,hw⟩;obtain ⟨s',q1,q2,q3⟩:=qoC (n:=k) (os:=os) (ys:=iv (Cq l)++ys) ho (qzQ (by simp [Cq]));exact ⟨_,_,s',he,hw.trans q1,q2,q3,[(b,cb (iv (Cq l)++ys) e)],rfl,rfl,.blk b c _ _ ys (by simp [iv,Cq]) (by simpa [iv,Cq] using h2) h3 h4⟩
theorem qpg(l:iG):(Lib.compact l).length<=l.length:=by grind [Lib.compact,Lib.compactUpTo,List.length_map]
def qpf(hO:Own e 1 M (.slice A n c) n (iv l)):po D 71 [.slice A n c] M L s λv M' _=>v=.slice A (Lib.compact l).length c/\Own e 1 M' (.slice A (Lib.compact l).length c) (Lib.compact l).length (iv (Lib.compact l)):=by
 generalize hv:Value.slice A n c=v0 at hO;generalize hx:iv l=xs at hO;cases hO with
 | nil=>
  injection hv with e1 e2 e3;subst e1;subst e3;have:l=[]:=aJ (by have:=bl List.length hx;simpa [iv] using this);subst this;exact AC.of_calls Z3 λ_=>(Any.slices_Compact_int_empty laysNm220 none 0 (fill L s)).mono λe w' ⟨he,hw⟩=>⟨_,he,by rw [hw];exact Dp,λs' _ _ _=>⟨[],rfl,rfl,.nil⟩⟩
 | blk b cap n xs ys h1 h2 h3 h4=>
  injection hv with e1 e2 e3;subst e1;subst e3;subst hx;have hl:n=l.length:=by simpa [iv] using h1.symm
  subst hl;have j9:=qpg l;refine ⟨Z3,λho=>?_⟩;refine (Any.slices_Compact_int laysNm220 b 0 c l (fill ((b,cb (iv l++ys) e)::L) s) (qog ho) O h3).mono ?_;rintro e1 w' ⟨he,k,hw⟩;obtain ⟨s',q1,q2,q3⟩:=qoC (n:=k) (os:=#[]) (ys:=iv (Lib.compact l++List.replicate (l.length - (Lib.compact l).length) 0)++ys) ho (qzQ Q6);rw [Sort.grow_empty] at q1;have rN:iv (Lib.compact l++List.replicate (l.length - (Lib.compact l).length) 0)++ys=iv (Lib.compact l)++(iv (List.replicate (l.length - (Lib.compact l).length) 0)++ys):=by simp [iv]
  rw [rN] at q1 q2;have h9:l.length+ys.length=c * 1:=by simpa [iv] using h2
  exact ⟨_,_,s',he,hw.trans q1,q2,q3,[(b,_)],rfl,rfl,.blk b c _ _ _ (by simp [iv]) (by simp [iv];omega) O h4⟩
def AU(s:World)(A:iE)(n c:Nat)(l:iG):Prop:=Sl 1 (λ_ x cs=>cs=[iB x]) s A n c l
def AU.le(h:AU s A n c l)(hl:Le D s s'):AU s' A n c l:=Sl.le (λ_ _ h=>h) h hl
def AU.at_(h:AU s A n c l)(hk:k < n):∃ b off x,A=some ⟨b,off,none⟩/\l[k]?=some x/\iy s b (off+k) [iB x]/\True:=by
 have hl:k < l.length:=by rw [<- h.1];exact hk
 obtain ⟨b,off,cs,h1,h2,_,rfl⟩:=h.2.2.2 k l[k] (ap hl);exact ⟨b,off,l[k],h1,ap hl,by simpa using h2,trivial⟩
def qqH{α β:Type}{R:α->β->Prop}(f:α->β)(l:List α)(h:∀ x∈l,R x (f x)):kJ R l (l.map f):=by
 induction l with
 | nil=>exact kJ.nil
 | cons x l ih=>exact kJ.cons (h x Mc) (ih λy hy=>h y (an _ hy))
def qCr(l:iG):iv l=(l.map λx=>[Value.int .i64 x]).flatten:=by
 induction l with
 | nil=>rfl
 | cons x l ih=>simp [iv] at ih ⊢;exact ih
def Own.its{A:Hl}(h:Own e 1 A (.slice Ad n c) n (iv l))(hp:mI A s)(hn:n=l.length):AU s Ad n c l:=
 Own.rows (R:=λ_ (x:Int) cs=>cs=[Value.int .i64 x]) (qCr l▸h) hp (qqH (λ(x:Int)=>[Value.int .i64 x]) l λx hx=>⟨rfl,rfl⟩) hn
def qCs(l:iG)(x:Int):iv (l++[x])=iv l++[iB x]:=by simp [iv]
def qlk(hs:l.Pairwise (·<=·)):(Lib.compact l).Pairwise (· < ·)/\∀ x,x∈Lib.compact l↔x∈l:=by
  have hat:∀ i j,i<=j->j < l.length->l.toArray[i]! <= l.toArray[j]! := λi j hij hj=>by
    rw [fU l.toArray i (by simpa using Nat.lt_of_le_of_lt hij hj),fU l.toArray j Q18];rcases eM i j with h|h
    . exact (List.pairwise_iff_getElem.1 hs) i j O hj h
    . obtain rfl:i=j:=O
      exact gz _
  have pv:∀ j,j < l.length->∃ i,i < l.length/\Lib.keeps l.toArray i=true/\l.toArray[i]! = l.toArray[j]! := by
    intro j;induction j with
    | zero=>exact λh=>⟨0,h,by simp [Lib.keeps],rfl⟩
    | succ j ih=>
      intro h;by_cases hk:Lib.keeps l.toArray (j+1)=true
      . exact ⟨j+1,h,hk,rfl⟩
      . obtain ⟨i,h1,h2,h3⟩:=ih O
        have h4:l.toArray[j+1]! = l.toArray[j]! := by
          simp only [Lib.keeps,aH,gZ,Nat.add_sub_cancel] at hk;exact eF.1 hk.2
        exact ⟨i,h1,h2,h3.trans h4.symm⟩
  constructor
  . rw [Lib.compact,Lib.compactUpTo,List.pairwise_map]
    refine List.Pairwise.imp_of_mem ?_ ((List.pairwise_lt_range (n:=l.length)).filter _);intro i j hi hj hij;obtain ⟨hj1,hj2⟩:=fL.1 hj;have hjl:j < l.length:=dt.1 hj1;simp only [Lib.keeps,aH] at hj2;rcases hj2 with h|h
    . omega
    . have a1:=hat i (j - 1) O O
      have a2:=hat (j - 1) j O hjl;omega
  . intro x
    rw [Lib.compact,Lib.compactUpTo,aW];constructor
    . rintro ⟨i,hi,rfl⟩
      have zY:i < l.length:=dt.1 (fL.1 hi).1;rw [fU l.toArray i (by simpa using zY)];simp
    . intro hx
      obtain ⟨j,hj,rfl⟩:=fD.1 hx;obtain ⟨i,h1,h2,h3⟩:=pv j hj;refine ⟨i,fL.2 ⟨dt.2 h1,h2⟩,h3.trans ?_⟩;rw [fU l.toArray j Q18];simp
def qpS(l:iG):(Cq l).Pairwise (·<=·)/\∀ x,x∈Cq l↔x∈l:=by
 refine ⟨?_,λx=>(List.mergeSort_perm l _).mem_iff⟩;have h:=List.pairwise_mergeSort (le:=λ(x y:Int)=>decide (x<=y)) (λa b c h1 h2=>by simp only [aH] at *;omega) (λa b=>by simp only [db,aH];omega) l;exact h.imp λh=>by simpa using h
attribute [local irreducible] JC JO JA JB ma mO mX AC fill iy QE Ev my
def yF(p:jc)(fi:Int)(nm:iH):(Int×Int)×(Int×Int):=if (kG p).1≠0 then ((0,0),kG p) else if fi < 0\/(p.funcs.length:Int)<=fi then ((0,0),(4,-2)) else match p.funcs[fi.toNat]? with
 | some x=>if (j7 p x nm).2=false then ((0,0),(12,-3)) else ((j7 p x nm).1,(0,0))
 | none=>((0,0),(4,-2))
def qC1(h:(kG p).1≠0):yF p fi nm=((0,0),kG p):=au h
def qC2(h:¬ (kG p).1≠0)(h2:fi < 0\/(p.funcs.length:Int)<=fi):yF p fi nm=((0,0),(4,-2)):=(ak h).trans (au h2)
def qIL(h:¬ (kG p).1≠0)(hx:p.funcs[j]?=some x):yF p (j:Int) nm=if (j7 p x nm).2=false then ((0,0),(12,-3)) else ((j7 p x nm).1,(0,0)):=by
 have hl:=(al.1 hx).1;rw [yF,ak h,ak O,aD,hx]
def qlj(hu:qd p)(h:(kG p).1=0):kG p=(0,0):=(qP.of hu h).2
def qJi(nd:Nd)(hN:tR s nd nv):jT D 69 [nv] L s (.agg #[St (nd.use).1,iB (nd.use).2.1,iB (nd.use).2.2]):=by
 cases nd with
 | st y lp=>obtain ⟨b,o,C1,r1,e1,C2,r2,e2,C3,r3,e3,rfl,hy,hr⟩:=hN;exact ZN y C1 C2 C3 r1 e1 r2 e2 r3 e3 hy hr
 | ex y lp=>obtain ⟨b,o,C1,r1,e1,rfl,hy,hr⟩:=hN;exact ZM y C1 r1 e1 hy hr
def XX{p:Prop} (h:p:=by
 exact rR [_,_,_,_] L (.agg (us:=[_,_]) 2 Z Z Z Z Z (.agg (us:=[_,_]) 1 Z Z Z Z Z (.nil))) Z Lc λ_ iD=>tL):p:=h
def XT{p:Prop} (h:p:=by
 exact rR [_,_,_,_,_] L (.agg (us:=[_,_]) 3 Z Z Z Z Z (.agg (us:=[_,_]) 2 Z Z Z Z Z (.nil))) Z Lc λ_ iD=>tL):p:=h
def HG{p:Prop} (h:p:=by
  refine iF 8 V<|Jf Z Tt Z Z Z (Gm p Pz Pz Pz) λlq kV=>H3 ?_;refine iF 13 V<|Wu Z Tt 0 [_,_] Y9 (sM (kN (jL)))<|H1 ?_;refine ji V<|G8 ?_;refine vZ Z ?_ ?_<;>intro rI
  .have hE:yF p (j:Int) nm=((0,0),(12,-3)):=by rw [hE9,au rI]
   refine Sr<|iA (jB [] [_,_] Y3 Z Z Z) Z<|Je Y3 (BZ) λlW lQ=>Wt 3 [_,_] Y9<|Wt 2 [_,_] Y9<|G4 ?_;exact rR [_,_,_,_,_] L (.agg (us:=[_,_]) 3 Z Z Z Z Z (.agg (us:=[_,_]) 2 Z Z Z Z Z (.nil))) Z Lc λ_ iD=>tL
  have hE:yF p (j:Int) nm=((j7 p x nm).1,(0,0)):=by rw [hE9,ak (by rw [rI];decide)]
  refine Zk<|Zt<|Sr<|iA (iZ 0 [_,_] Y5) Z<|iA (jB [] [_,_] Y3 Z Z Z) Z<|Wt 3 [_,_] Y9<|Wt 2 [_,_] Y9<|G3 ?_;exact rR [_,_,_,_,_] L (.agg (us:=[_,_]) 3 Z Z Z Z Z (.agg (us:=[_,_]) 2 Z Z Z Z Z (.nil))) Z Lc λ_ iD=>tL):p:=h
def qpP(hG:GP s)(d:Nat)(p:jc)(jF:ja s Ag ng cg p.o)(jX:jl d s Af nf cf p.funcs):jT D 18 [.agg #[.slice Ag ng cg,.slice Af nf cf],iB fi,St nm] L s (.tuple #[.agg #[iB (yF p fi nm).1.1,iB (yF p fi nm).1.2],.agg #[iB (yF p fi nm).2.1,iB (yF p fi nm).2.2]]):=by
 have l7:=jF.1;have oW:=jX.1;have hU:qd p:=⟨jF.u,jX.u⟩;refine jn (fn:=Tryz.f18) jb Tryz.func18 V Z Tryz.ntmps18 Z (rs:=[.cell 6 55,.cell 7 30]) Z [(0,_),(1,_),(2,_)] Z<|Sr<|kF Y2 λβ1 s1 h1=>jh Z [_,_] Y2 λβ2 s2 h2=>jh Z [_,_] Y2 λβ3 s3 h3=>Nt<|Zs<|Sr<|iA (iZ 2 [_,_] Y5) Z<|Je Y3 (FX Pz d p Pz Pz) λs4 h4=>jh Z [_,_] Y2 λt5 s5 h5=>Wt 0 [_,_] Y9<|Nt<|Sr<|iA (iZ 0 [_,_] Y5) Z<|iA (jB [] [_,_] Y3 Z Z Z) Z<|iA (ui Z Z (sp)) Z<|G2 ?_;refine lL Z ?_ ?_<;>intro c6;.have hE:yF p fi nm=((0,0),kG p):=qC1 (λh=>c6 Q23);refine Zs<|pM jt 4 Z [2,1] Q4 λs7 h7=>za 0 Z (jB [] [_,_] Y3 Z Z Z) Z<|za 1 Z (iZ 0 [_,_] Y5) Z<|iF 2 V<|Wu Z Tt 2 [_,_] Y9 (sM (nD (lz (nD (jL)))))<|iF 3 V<|Wu Z Tt 1 [_,_] Y9 (sM (nD (lz (nD (jL)))))<|ji V<|G3 ?_;exact XX
 have g4:=c6;have vK:¬ (kG p).1≠0:=λh=>h g4.1;obtain ⟨p7,zk⟩:=qP.of hU g4.1;have hV:=p7.1;have y8:=hV.1;have A0:=hV.2.1;have sn:=hV.2.2.2.1;have pI:=(An (p:=p) (by rw [p7.2.1])).1;refine G3 ?_;refine rW 26 (fi < 0\/(nf:Int)<=fi) ?_ ?_
 .refine G4 ?_;refine ld (t:=20) Z ?_ ?_<;>intro c8;.refine G7 ?_;exact K7
  refine G5 ?_;refine Wl 3 Y6<|G3 ?_;refine va Y3<|G2 ?_;refine iU (kB.mk (Lr D) Sb Z (bK.2 O))
 intro s7 h7;refine mG Z ?_ ?_<;>intro c9;.have hE:=qC2 (nm:=nm) vK (by rw [<- oW];exact c9);refine Sr<|iA (jB [] [_,_] Y3 Z Z Z) Z<|Je Y3 (BZ) λkH jG=>Wt 2 [_,_] Y9<|Wt 1 [_,_] Y9<|G4 ?_;exact XX
 obtain ⟨j,rfl⟩:=aZ (show 0<=fi by omega);have hk:j < nf:=O
 obtain ⟨b,off,x,B1,m1,d1,B2,m2,d2,B3,m3,d3,rfl,hx,hcx,oP,oO,so,kL⟩:=jl.at_ Pz hk;have ym:=sn x (ax hx);have hE9:=qIL (nm:=nm) vK hx;refine Zk<|Zt<|Zs<|mr jt 15 Z _ (λ_ h=>h) λkH jG=>za 0 Z (iZ 3 [_,_] Y5) Z<|H1 ?_;refine za 3 Z (Wd 3 Y5) Z<|H1 ?_;refine za 5 Z (jK Y6 hk) Z<|za 6 Z (ku Y3 Pz Z) Z<|H1 ?_;refine kA 1 12 V ?_ ?_
 .refine Jb Z Tt Z Z Z (wP d p Pz Pz pI) ?_;rintro _ _ kz jM ⟨rfl,bm,rfl,hM⟩;refine ⟨λ_ _ h=>h,?_⟩;refine kA 8 12 V ?_ ?_
  .refine Jf Z Tt Z Z Z (Gm p Pz Pz Pz) λkh jE=>H3 ?_;refine iF 12 V<|ky Z Tt Z [_,_] Y2 λb13 lq kV=>iF 13 V<|Wu Z Tt 0 [_,_] Y9 (sM (kN (jL)))<|H1 ?_;refine ji V<|G8 ?_;refine vZ Z ?_ ?_<;>intro rI
   .have hE:yF p (j:Int) nm=((0,0),(12,-3)):=by rw [hE9,au rI]
    refine Sr<|iA (jB [] [_,_] Y3 Z Z Z) Z<|Je Y3 (BZ) λlW lQ=>Wt 3 [_,_] Y9<|Wt 2 [_,_] Y9<|G4 ?_;exact XT
   have hE:yF p (j:Int) nm=((j7 p x nm).1,(0,0)):=by rw [hE9,ak (by rw [rI];decide)]
   refine Zk<|Zt<|Sr<|iA (iZ 0 [_,_] Y5) Z<|iA (jB [] [_,_] Y3 Z Z Z) Z<|Wt 3 [_,_] Y9<|Wt 2 [_,_] Y9<|G3 ?_;exact XT
  refine ky Z Tt Z [_,_] Y2 ?_;intro b12 kh jE;exact HG
 refine ky Z Tt Z [_,_] Y2 λb11 kz jM=>iF 1 V<|Jb Z Tt Z Z Z (wP d p Pz Pz pI) ?_;rintro _ _ kh jE ⟨rfl,bm,rfl,hM⟩;refine ⟨λ_ _ h=>h,?_⟩;exact HG
def qq(p:jc)(x:iM)(kd:Int)(nd:Nd):iG:=if nd.use.2.1=0 then [] else if (j7 p x nd.use.1).1.1=kd then [(j7 p x nd.use.1).1.2] else []
def qIk:(qq p x kd nd).length<=1:=by
 unfold qq;split
 . simp
 . split<;>simp
def sU(p:jc)(x:iM)(kd:Int):iG:=Lib.compact (Cq ((ly x.body 0).flatMap (qq p x kd)))
def Bw(p:jc)(x:iM)(kd:Int):(sU p x kd).Pairwise (· < ·)/\∀ i,i∈sU p x kd↔∃ nd∈ly x.body 0,i∈qq p x kd nd:=by
 have h1:=qpS ((ly x.body 0).flatMap (qq p x kd));have h2:=qlk h1.1;exact ⟨h2.1,λi=>by rw [sU,h2.2,h1.2,List.mem_flatMap]⟩
abbrev Jr:=Value×Hl×iG
def qzU{p:jc}{x:iM}{kd:Int}:∀ {l:List Nd} {g g':Jr},tN (λ_:Jr=>none) (λg nd g1=>g1.2.2=g.2.2++qq p x kd nd) g l g'->g'.2.2=g.2.2++l.flatMap (qq p x kd)
 | [],g,g',h=>by
  have h:g'=g:=h;subst h;simp
 | n::r,g,g',⟨g1,h1,h2⟩=>by
  have h1:g1.2.2=g.2.2++qq p x kd n:=h1;have h2:tN (λ_:Jr=>none) (λg nd g1=>g1.2.2=g.2.2++qq p x kd nd) g1 r g':=h2;rw [qzU h2,h1,di,am]
def BS(s:World)(l:iG)(v:Value):Prop:=∃ A n c,v=.slice A n c/\AU s A n c l
def BS.le(h:BS s l v)(hl:Le D s s'):BS s' l v:=by
 obtain ⟨A,n,c,h1,h2⟩:=h;exact ⟨A,n,c,h1,h2.le hl⟩
def qlP(hM:oJ s bm p)(oP:iO s B1 m1 d1 x.params)(oO:iO s B2 m2 d2 x.locals)(so:jo d s B3 m3 d3 x.body)(ym:Dn x):jU D 31 [.agg #[.slice Ag ng cg,.slice Af nf cf,.map (some bm)],.agg #[St x.name,.slice B1 m1 d1,.slice B2 m2 d2,.slice B3 m3 d3],iB kd] L s λv L' s'=>∃ M',L'=M'++L/\∀ s2,Le D s' s2->mI M' s2->BS s2 (sU p x kd) v:=by
 have hbl:(ly x.body 0).length<=2000:=by rw [On];exact ym.2.2.2.2.2
 refine Ka (fn:=Tryz.f31) jb Tryz.func31 V Z Tryz.ntmps31 Z (rs:=[.tmp 6]) Z [(0,_),(1,_),(2,_)] Z<|Ys<|Yr<|Uk Z Z λβ1 s1 h1=>Uk Z Z λβ2 s2 h2=>qy0 Z Z Z λβ3 s3 h3=>xx Z Z<|Yn<|Yt<|Ys<|Yr<|BA Z [_] Z Z λt4 s4 h4=>Yn<|Yt<|Ys<|Ys<|Yr<|lU (iZ 2 [_,_,_,_] Y5) Z<|vh Y3 (qy5) ?_;rintro _ _ s5 h5 ⟨rfl,ba,rfl,hba⟩;refine Yn<|Yt<|Yp<|?_;refine H_ (σ:=Jr) (α:=Nd×iE×iE×Nat) (λg=>(t4,cb [g.1] 72)::_::_::_::(g.2.1++L)) (λg tw=>Own 3 1 g.2.1 g.1 g.2.2.length (iv g.2.2)/\g.2.2.length<=2000) (λg=>none) (λg xn g1=>g1.2.2=g.2.2++qq p x kd xn.1) (λxn=>[.agg #[.pointer xn.2.1,.pointer xn.2.2.1,iB (xn.2.2.2:Int)]]) (λg xn tw=>tR tw xn.1 (.agg #[.pointer xn.2.1,.pointer xn.2.2.1,iB (xn.2.2.2:Int)])/\g.2.2.length < (ly x.body 0).length) (λg1=>g1.2.2=(ly x.body 0).flatMap (qq p x kd)) (AR:=(λxn fr A=>∃ βy,iY fr [(8,iT βy),(3,iT β1),(4,iT β2),(5,iT β3),(7,iT t4)]/\A=[(βy,cb [.pointer xn.2.1,.pointer xn.2.2.1,iB (xn.2.2.2:Int)] 146)])) (cap:=[_]) Z (.slice none 0 0,[],[]) Z (⟨Own.nil,aB _⟩) Z (λ_ _ _ h _=>h) (λ_=>.inl Z) (λ_=>rfl) Z ?_ ?_ ?_ ?_;.intro l6 x6 L6 s6;refine Yr<|BA Z [_,_,_] Z Z λd7 s7 h7=>yC 0 [_,_,_] Y9<|Yn ?_;exact ⟨rfl,rfl,⟨[_],⟨_,(.cons rfl (.cons rfl (.cons rfl (.cons rfl (.cons rfl (.nil _)))))),rfl⟩,rfl⟩,h7⟩
 .rintro l8 d8 o8 p8 g xn s8 s9 fr8 A8 h8 h9 I8 hp8 P8 ⟨βy,hK8,rfl⟩;refine qyZ hK8 ?_;simp only [jC,jD];obtain ⟨vo,Mo,acc⟩:=g;obtain ⟨nd,pa,pb,lp⟩:=xn;obtain ⟨hO,zh⟩:=I8;obtain ⟨hN,yk⟩:=P8;simp only at hO zh hN yk;dsimp only;refine Yp<|Ys<|Yr<|lU (iZ 0 [_,_,_] Y5) Z<|vh Y3 (qJi nd Pz) ?_;rintro _ _ kH jG ⟨rfl,rfl⟩;refine BA Z [_,_,_] Z Z λb11 kz jM=>yC 0 [_,_,_] Y9<|Yn<|Yt<|Ys<|Yr<|SQ Z Z Z Z Z<|CD 0 Y6<|Jw Z Z Z<|Yn<|Yt<|?_;refine O5 Z ?_ ?_<;>intro oL
  .have hu:=oL;refine Ys<|Yr<|lU (iZ 7 [_,_,_] Y5) Z<|lU (iZ 6 [_,_,_,_] Y5) Z<|Ni Z Z Z Z Z<|CD 0 Y6<|vh Y3 (Gm p Pz Pz Pz) ?_;rintro _ _ lq kV ⟨rfl,rfl⟩;refine mn Y2<|Wy Z Z Z<|Wy Z Z Z<|BA Z [_,_] Z Z λb14 lG kI=>yC 0 [_,_] Y9<|xx Z Z<|Yn<|Yt<|Ys<|Yr<|Ni Z Z Z Z Z<|CD 0 Y6<|lU (Wd 6 Y5) Z<|Jv Z Z Z<|Yn<|Yt<|?_;refine KR Z ?_ ?_<;>intro vJ;.have hI:qq p x kd nd=[(j7 p x nd.use.1).1.2]:=(ak hu).trans (au vJ);refine Yr<|CD 5 Y6<|SQ Z Z Z Z Z<|CD 0 Y6<|qKc [(_,_)] [_] Z Z Z Z Z Z Z Z Z λβn sB tu p9=>qGO (sz:=1) [_,_,_,_,_,_,_,_,_] Mo L Z Z Z Z Z Z Z hO (Row.of_cells Pz Z Z) ⟨by simp [GR];omega,O⟩ Z ?_;intro vq Mq vD vm oq;obtain ⟨Avq,pg,rfl,_,_⟩:=Own.slice oq;simp only [jC,jD];refine yC 5 [_] Y9<|Yn<|Yb<|?_;refine ⟨(.slice Avq (acc.length+1) pg,Mq,acc++[(j7 p x nd.use.1).1.2]),(by simp only;rw [hI]),Z,[_,_,_],Z,Lc,⟨by simp only;rw [ac,qCs];exact oq,by simp only [ac,aw,aq];omega⟩⟩
   have hI:qq p x kd nd=[]:=(ak hu).trans (ak vJ);refine Yk<|Yb<|?_;refine ⟨(vo,Mo,acc),(by simp only;rw [hI,aE]),Z,[_,_,_],Z,Lc,⟨hO,zh⟩⟩
  have hI:qq p x kd nd=[]:=au oL;refine Yk<|Yb<|?_;refine ⟨(vo,Mo,acc),(by simp only;rw [hI,aE]),Z,[_,_],Z,Lc,⟨hO,zh⟩⟩
 .intro l13 HH lq kV hY;refine (qqG HH (λ(g:Jr) tw=>Own 3 1 g.2.1 g.1 g.2.2.length (iv g.2.2)/\g.2.2.length<=2000) (λ_=>none) (λg nd g1=>g1.2.2=g.2.2++qq p x kd nd) (λg=>g.2.2.length) (ly x.body 0).length (λg nd g1 h=>by have h:g1.2.2=g.2.2++qq p x kd nd:=h;show g1.2.2.length<=g.2.2.length+1;rw [h,ac];have:=qIk (p:=p) (x:=x) (kd:=kd) (nd:=nd);omega) (λ_ _ _ h _=>h) ?_ ⟨Own.nil,aB _⟩ Z d x B1 B2 B3 m1 d1 m2 d2 m3 d3 Pz Pz ym.2.2.2.2.1 Ξ).mono ?_
  . intro g nd nv s2 qX xC rP pt hN2
    obtain ⟨pa,pb,lp,rfl⟩:=hN2.agg;exact hY g (nd,pa,pb,lp) s2 (kV.trans qX) xC rfl ⟨hN2,pt⟩
  . rintro v L' s3 _ ⟨g',h1,h2,h3⟩
    exact ⟨g',by have:=qzU h1;simpa using this,h2,h3⟩
 intro d14 g lG kI F14 I14;obtain ⟨vo,Mo,acc⟩:=g;obtain ⟨hO,zh⟩:=I14;have hF:=F14;simp only at hO zh hF;dsimp only;obtain ⟨Ao,co,rfl,_,_⟩:=Own.slice hO;refine Yb<|Yt<|Ys<|Yr<|CD 1 Y6<|vh Y3 (AC.mid [_,_,_,_,_] Mo L (qDr hO O)) ?_;rintro _ _ lW lQ ⟨M2,rfl,rfl,hO2⟩;simp only [jC,jD];refine Yn<|Yt<|Ys<|Yr<|CD 1 Y6<|vh Y3 (AC.mid [_,_,_,_,_] M2 L (qpf hO2)) ?_;rintro _ _ sB tu ⟨M4,rfl,rfl,hO4⟩;simp only [jC,jD];refine xx Z Z<|Yn<|Yt<|Yo<|?_;refine zx [_,_,_,_,_] _ (.inr Z) (.t1 Z) Z Lc ⟨[_],Z,List.Sublist.cons_cons _ (cK _)⟩ λ_ iD=>?_;subst hF;exact ⟨M4,rfl,λs2 j5 hp=>⟨_,_,_,rfl,Own.its hO4 hp rfl⟩⟩
def f'(p:jc)(d:Nat)(hM:oJ s bm p)(oP:iO s B1 m1 d1 x.params)(oO:iO s B2 m2 d2 x.locals)(so:jo d s B3 m3 d3 x.body)(ym:Dn x):jU D 31 [.agg #[.slice Ag ng cg,.slice Af nf cf,.map (some bm)],.agg #[St x.name,.slice B1 m1 d1,.slice B2 m2 d2,.slice B3 m3 d3],iB kd] L s λv L' s'=>L=L'/\BS s' (sU p x kd) v:=AC.pubW (qlP hM oP oO so ym)
def re(p:jc)(s:World)(A:iE)(n c:Nat)(l:List iM):Prop:=Sl 1 (λs x cs=>∃ v,cs=[v]/\BS s (sU p x 4) v) s A n c l
def re.le{l:List iM}(h:re p s A n c l)(hl:Le D s s'):re p s' A n c l:=Sl.le (λ_ _ ⟨v,h1,h2⟩=>⟨v,h1,h2.le hl⟩) h hl
def re.at_{l:List iM}(h:re p s A n c l)(hk:k < n):∃ b off x A' n' c',A=some ⟨b,off,none⟩/\l[k]?=some x/\iy s b (off+k) [.slice A' n' c']/\AU s A' n' c' (sU p x 4):=by
 have hl:k < l.length:=by rw [<- h.1];exact hk
 obtain ⟨b,off,cs,h1,h2,_,v,rfl,A',n',c',rfl,h3⟩:=h.2.2.2 k l[k] (ap hl);exact ⟨b,off,l[k],A',n',c',h1,ap hl,by simpa using h2,h3⟩
def GD(p:jc):List iM:=if (kG p).1≠0 then [] else p.funcs
def qEG(l:iz):l=(l.map λx=>[x]).flatten:=by
 induction l with
 | nil=>rfl
 | cons x l ih=>simp only [aN,bj,ao,aC];rw [<- ih]
def quv{α:Type}{R:α->Value->Prop}{l:List α}(h:kJ R l vs):kJ (λx cs=>cs.length=1/\∃ v,cs=[v]/\R x v) l (vs.map λv=>[v]):=by
 induction h with
 | nil=>exact .nil
 | cons h _ ih=>exact .cons ⟨rfl,_,rfl,h⟩ ih
def Own.cls{A:Hl}{l:List iM}(h:Own e 1 A (.slice Ad n c) n vs)(ha:kJ (λx v=>BS s (sU p x 4) v) l vs)(hp:mI A s)(hn:n=l.length):re p s Ad n c l:=
 Own.rows (R:=λs x cs=>∃ v,cs=[v]/\BS s (sU p x 4) v) (qEG vs▸h) hp (quv ha) hn
def qBM(p:jc)(s:World):re p s none 0 0 []:=⟨rfl,ay _,O,λi x h=>by cases h⟩
def qp1{l:List iM}(h:l[k]?=some x):l.take (k+1)=l.take k++[x]:=by
 obtain ⟨hk,rfl⟩:=al.1 h;exact bM hk
def qq3(hG:GP s)(jF:ja s Ag ng cg p.o)(jX:jl d s Af nf cf p.funcs):pQ D 19 [.agg #[.slice Ag ng cg,.slice Af nf cf]] L s λv M' s'=>∀ s2,Le D s' s2->mI M' s2->∃ A n c,v=.tuple #[.slice A n c,.agg #[iB (kG p).1,iB (kG p).2]]/\re p s2 A n c (GD p):=by
 have l7:=jF.1;have oW:=jX.1;have hU:qd p:=⟨jF.u,jX.u⟩;refine jn (fn:=Tryz.f19) jb Tryz.func19 V Z Tryz.ntmps19 Z (rs:=[.tmp 2,.cell 3 30]) Z [(0,_)] Z<|Sr<|kF Y2 λβ1 s1 h1=>mo Y2<|jh Z [_,_] Y2 λβ2 s2 h2=>Nt<|Zs<|Sr<|iA (iZ 1 [_,_] Y5) Z<|Je Y3 (FX Pz d p Pz Pz) λs3 h3=>jh Z [_,_] Y2 λt4 s4 h4=>Wt 0 [_,_] Y9<|Nt<|Sr<|iA (iZ 0 [_,_] Y5) Z<|iA (jB [] [_,_] Y3 Z Z Z) Z<|iA (ui Z Z (sp)) Z<|G2 ?_;refine lL Z ?_ ?_<;>intro c5;.have hb0:(kG p).1≠0:=λh=>c5 Q23;have hC:GD p=[]:=au hb0;refine Zs<|pM jt 3 Z [1] Q4 λs6 h6=>za 0 Z (iZ 0 [_,_] Y5) Z<|H1 ?_;refine X4 ?_;refine rR [_,_,_] _ (.tmp Z (.agg (us:=[_,_]) 1 Z Z Z Z Z (.nil))) Z Lc λ_ iD=>?_;rw [hC];exact ⟨[],rfl,λs2 j5 hp=>⟨none,0,0,rfl,qBM p s2⟩⟩
 have g4:=c5;have vK:¬ (kG p).1≠0:=λh=>h g4.1;obtain ⟨p7,zk⟩:=qP.of hU g4.1;have hV:=p7.1;have y8:=hV.1;have A0:=hV.2.1;have sn:=hV.2.2.2.1;have pI:=(An (p:=p) (by rw [p7.2.1])).1;have hC:GD p=p.funcs:=ak vK;refine Zk<|Zt<|Sr<|iA (iZ 2 [_,_] Y5) Z<|Jc Y3 (wP d p Pz Pz pI) ?_;rintro _ _ s6 h6 ⟨rfl,bm,rfl,hM⟩;refine jh Z [_,_,_] Y2 λd7 s7 h7=>Wt 0 [_,_,_] Y9<|lw ?_;refine Wl 3 Y6<|G5 ?_;refine lJ (γ:=Nat×Value×Hl×iz) (λg=>[(2,_),(3,_),(5,_),(6,g.2.1),(18,_),(19,_),(20,iB (g.1:Int))]) (λg=>_::_::_::_::(g.2.2.1++L)) (λg tw=>Le D s7 tw/\(g.1<=nf/\Own 72 1 g.2.2.1 g.2.1 g.1 g.2.2.2/\kJ (λx v=>BS tw (sU p x 4) v) (p.funcs.take g.1) g.2.2.2)) (λg=>nf - g.1) (λ_ _ _ h hl=>⟨h.1.trans hl,⟨h.2.1,h.2.2.1,h.2.2.2.mono λ_ _ q=>q.le hl⟩⟩) (0,.slice none 0 0,[],[]) (.c6 Z Z Z Z Z Z (.cons Z (.nil _))) Z ⟨Le.refl _,⟨aB _,Own.nil,.nil⟩⟩ ?_;intro g s8 I8;obtain ⟨k,vo,Mo,vs⟩:=g;obtain ⟨ko,hO,tW⟩:=I8.2;simp only at ko hO tW;dsimp only;obtain ⟨Ao,co,rfl,_,_⟩:=Own.slice hO;refine J6 ?_ ?_<;>intro c9
 .have hk:k < nf:=O
  obtain ⟨b,off,x,B1,m1,d1,B2,m2,d2,B3,m3,d3,rfl,hx,hcx,oP,oO,so,kL⟩:=jl.at_ Pz hk;have ym:=sn x (ax hx);refine G6 ?_;refine iA (jK Y6 hk) Z<|iA (ku Y3 Pz Z) Z<|jh Z [_,_,_,_] Y2 λb10 kH jG=>Wt 0 [_,_,_,_] Y9<|G4 ?_;refine iA (iZ 1 [_,_,_] Y5) Z<|iA (iZ 0 [_,_,_,_] Y5) Z<|Jc Y3 (f' p d Pz Pz Pz Pz ym) ?_;rintro _ _ kz jM ⟨rfl,Aw,nw,cw,rfl,hIw⟩;refine lx [(_,_)] [_] Y9 λβn kh jE p9=>rQ (sz:=1) [_,_,_,_,_] Mo L Y7 hO (Row.of_cells Pz Z Z) ⟨by simp [My];omega,O⟩ Z ?_;intro vq Mq lq kV oq;obtain ⟨Avq,pg,rfl,_,_⟩:=Own.slice oq;simp only [jC,jD];refine G5 ?_;refine kq Y3 (jq O O)<|G2 ?_;refine iU ⟨(k+1,.slice Avq (k+1) pg,Mq,vs++[.slice Aw nw cw]),[_],kp,Z,⟨Lc,⟨Oz,oq,by simp only;rw [qp1 hx];exact kJ.snoc (tW.mono λ_ _ q=>q.le Lc) ⟨_,_,_,Z,hIw.le Lc⟩⟩⟩,Oz⟩
 obtain rfl:k=nf:=O
 rw [aK O] at tW;refine G8 ?_;refine iA (jB [] [_,_] Y3 Z Z Z) Z<|mo Y2<|Wt 2 [_,_] Y9<|G3 ?_;refine rR [_,_,_,_] _ (.tmp Z (.agg (us:=[_,_]) 2 Z Z Z Z Z (.nil))) Z Lc λ_ iD=>?_;rw [hC,zk];exact ⟨Mo,rfl,λs2 j5 hp=>⟨_,_,_,rfl,Own.cls hO (tW.mono λ_ _ q=>q.le Lc) hp oW⟩⟩
def qnI(hG:GP s)(d:Nat)(p:jc)(jF:ja s Ag ng cg p.o)(jX:jl d s Af nf cf p.funcs):jU D 19 [.agg #[.slice Ag ng cg,.slice Af nf cf]] L s λv L' s'=>L=L'/\∃ A n c,v=.tuple #[.slice A n c,.agg #[iB (kG p).1,iB (kG p).2]]/\re p s' A n c (GD p):=AC.pubW (qq3 hG jF jX)
end
section
variable{P c Q:iz}{off:Nat}
inductive kY{α β γ:Type}(R:α->β->γ->Prop):List α->List β->List γ->Prop
 | nil:kY R [] [] []
 | cons {a b c us vs ws}:R a b c->kY R us vs ws->kY R (a::us) (b::vs) (c::ws)
section
variable{α β γ:Type}{R S:α->β->γ->Prop}
def kY.len{us:List α}{vs:List β}{ws:List γ}(h:kY R us vs ws):us.length=vs.length/\ws.length=vs.length:=by
 induction h with
 | nil=>exact ⟨rfl,rfl⟩
 | cons _ _ ih=>exact ⟨by simp [ih.1],by simp [ih.2]⟩
def kY.app{us us':List α}{vs vs':List β}{ws ws':List γ}(h:kY R us vs ws)(h':kY R us' vs' ws'):kY R (us++us') (vs++vs') (ws++ws'):=by
 induction h with
 | nil=>exact h'
 | cons h1 _ ih=>exact .cons h1 ih
def kY.mono(hR:∀ a b c,R a b c->S a b c){us:List α}{vs:List β}{ws:List γ}(h:kY R us vs ws):kY S us vs ws:=by
 induction h with
 | nil=>exact .nil
 | cons h1 _ ih=>exact .cons (hR _ _ _ h1) ih
def kY.at_{us:List α}{vs:List β}{ws:List γ}(h:kY R us vs ws){k:Nat}(hk:k < vs.length):∃ wq a wr wt b yR uJ c wu,us=wq++a::wr/\vs=wt++b::yR/\ws=uJ++c::wu/\wt.length=k/\R a b c/\kY R wq wt uJ/\kY R wr yR wu:=by
 induction h generalizing k with
 | nil=>exact absurd hk (gU _)
 | @cons a b c us vs ws h1 h2 ih=>
  cases k with
  | zero=>exact ⟨[],a,us,[],b,vs,[],c,ws,rfl,rfl,rfl,rfl,h1,.nil,h2⟩
  | succ k=>
   obtain ⟨wq,a',wr,wt,b',yR,uJ,c',wu,rfl,rfl,rfl,e,r1,r2,r3⟩:=ih (k:=k) (by simpa using hk);exact ⟨a::wq,a',wr,b::wt,b',yR,c::uJ,c',wu,rfl,rfl,rfl,by simp [e],r1,.cons h1 r2,r3⟩
def B_{xs:List β}{css:List γ}{R:Hl->β->γ->Prop}{P:Nat×Obj->Prop}(h:kY R Ms xs css)(hR:∀ M x cs,R M x cs->∀ y∈M,P y):∀ y∈Ms.flatten,P y:=by
 induction h with
 | nil=>exact λy h=>by cases h
 | cons h1 _ ih=>
  intro y hy;rw [bj] at hy;rcases aS.1 hy with hy|hy
  . exact hR _ _ _ h1 y hy
  . exact ih y hy
end
theorem qCG(h:P.length=off)(hj:j < c.length):nth (P++(c++Q)) (off+j)=nth c j:=by grind [wc]
def qHE{vs:iz}(hn:vs.length=n)(h:∀ j v,vs[j]?=some v->zs[off+j]?=some v):cut zs off n=some vs:=by
 induction n generalizing off vs with
 | zero=>rw [aJ hn];rfl
 | succ n ih=>
  cases vs with
  | nil=>cases hn
  | cons v vs=>
   have h1:=ih (off:=off+1) (vs:=vs) (by simpa using hn) λj u hj=>by
    have:=h (j+1) u Q18
    rwa [show off+1+j=off+(j+1) by omega]
   have h0:=h 0 v rfl;simp only [cut,wc];rw [show zs[off]?=some v from h0];simp only [h1]
def qBR(h:P.length=off)(hn:c.length=n):cut (P++(c++Q)) off n=some c:=by
 refine qHE hn λj v hj=>?_;have hl:=(al.1 hj).1;rw [aY O,show off+j - P.length=j by omega,aV hl];exact hj
def qpT{v:iz}(h:P.length=off)(hv:v.length=c.length):pk (P++(c++Q)) off v=P++(v++Q):=by
 rw [Du _ _ _ Q24,ej O,aK O,am];congr 2;rw [<- am,fA Q24,dV Q24];rfl
def qBv(h:P.length=off)(hn:c.length=n):Nat.ble (off+n) (P++(c++Q)).length=true:=by simp_all
end
section
variable{β γ α:Type}{c k sz ng cg nf cf:Nat}{x:Ex}{cs args:iz}{A Ac:iE}{xs:List Ex}{l:List iz}{i v:Int}{f:iM}
def z_{xs:List β}{css:List γ}{R:Hl->β->γ->Prop}{S:β->γ->Prop}(h:kY R Ms xs css)(hR:∀ M∈Ms,∀ x cs,R M x cs->S x cs):kJ S xs css:=by
 induction h with
 | nil=>exact .nil
 | cons h1 _ ih=>exact .cons (hR _ Mc _ _ h1) (ih λM hM=>hR M (an _ hM))
def OX:Nat->Hl->Ex->iz->Prop
 | 0,_,_,_=>False
 | d+1,M,x,cs=>∃ A n c,cs=[iB x.kind,iB x.op,iJ x.num,St x.name,.slice A n c]/\(∃ css Ms R,Own 69 5 R (.slice A n c) n css.flatten/\M=R++Ms.flatten/\kY (OX d) Ms x.args css/\n=x.args.length)/\iQ x.num/\x.name.length<=9223372036854775807
def tm(d:Nat)(M:Hl)(A:iE)(n c:Nat)(xs:List Ex):Prop:=∃ css Ms R,Own 69 5 R (.slice A n c) n css.flatten/\M=R++Ms.flatten/\kY (OX d) Ms xs css/\n=xs.length
def OX.eq(h:OX d M x cs):∃ e A n c,d=e+1/\cs=[iB x.kind,iB x.op,iJ x.num,St x.name,.slice A n c]/\tm e M A n c x.args/\iQ x.num/\x.name.length<=9223372036854775807:=by
 cases d with
 | zero=>exact h.elim
 | succ e=>obtain ⟨A,n,c,h1,h2,h3⟩:=h;exact ⟨e,A,n,c,rfl,h1,h2,h3⟩
def OX.mk(h:tm d M A n c x.args)(hu:iQ x.num)(hl:x.name.length<=9223372036854775807):OX (d+1) M x [iB x.kind,iB x.op,iJ x.num,St x.name,.slice A n c]:=⟨A,n,c,rfl,h,hu,hl⟩
def tm.nil(d:Nat):tm d [] none 0 0 []:=⟨[],[],[],.nil,rfl,.nil,rfl⟩
def Kk(h:mI Ms.flatten s):∀ M∈Ms,mI M s:=λM hM b zs t hm=>h b zs t (List.mem_flatten.2 ⟨M,hM,hm⟩)
def OX.pub:∀ {d:Nat} {M:Hl} {x:Ex} {cs:iz},OX d M x cs->mI M s->cs.length=5/\tP d s x cs:=by
 intro d;induction d with
 | zero=>exact λh=>h.elim
 | succ d ih=>
  intro M x cs h hp;obtain ⟨A,n,c,rfl,⟨css,Ms,R,k1,rfl,k3,k4⟩,h3,h4⟩:=h;exact ⟨rfl,A,n,c,rfl,Own.rows k1 hp.left (z_ k3 λM hM x cs h=>ih h (Kk hp.right M hM)) k4,h3,h4⟩
def tm.pub(h:tm d M A n c xs)(hp:mI M s):j8 d s A n c xs:=by
 obtain ⟨css,Ms,R,k1,rfl,k3,k4⟩:=h;exact Own.rows k1 hp.left (z_ k3 λM hM x cs h=>h.pub (Kk hp.right M hM)) k4
def OX.cb:∀ {d:Nat} {M:Hl} {x:Ex} {cs:iz},OX d M x cs->∀ y∈M,y.2≠mJ D:=by
 intro d;induction d with
 | zero=>exact λh=>h.elim
 | succ d ih=>
  intro M x cs h;obtain ⟨A,n,c,rfl,⟨css,Ms,R,k1,rfl,k3,k4⟩,h3,h4⟩:=h;intro y hy;rcases aS.1 hy with hy|hy
  . exact U8 k1 y hy
  . exact B_ k3 (λM x cs h=>ih h) y hy
def tm.cb(h:tm d M A n c xs):∀ y∈M,y.2≠mJ D:=by
 obtain ⟨css,Ms,R,k1,rfl,k3,k4⟩:=h;intro y hy;rcases aS.1 hy with hy|hy
 . exact U8 k1 y hy
 . exact B_ k3 (λM x cs h=>h.cb) y hy
def qs0(h:kY (OX d) Ms xs css):css.flatten.length=xs.length * 5:=by
 induction h with
 | nil=>rfl
 | cons h1 _ ih=>
  obtain ⟨e,A,n,c,_,rfl,_⟩:=h1.eq;simp only [bj,ac,ih,aw,aq];omega
attribute [local irreducible] JC JO JA JB ma mO mX AC fill iy QE Ev my
def qI6{l:List iH}(h:iO s A n c l):∀ x∈l,x.length<=9223372036854775807:=λx hx=>by
 obtain ⟨k,hk⟩:=bh hx;have hl:=(al.1 hk).1;obtain ⟨b,off,y,_,h2,_,h4⟩:=iO.at_ h (show k < n by rw [h.1];exact hl);rw [hk] at h2;injection h2 with h2;subst h2;exact h4
def Hs{p:Prop} (h:p:=by
 first
  | exact ⟨[],rfl,λs2 j5 hp=>⟨none,0,0,rfl,lX.nil s2 none 0 O⟩⟩
  | exact ⟨Mq,rfl,λs2 j5 hp=>⟨_,_,_,rfl,by have:=Own.wds oq (lX.u32 hW) hp;simpa using this⟩⟩):p:=h
def qpe{l:iG}(hW:lX s A n c l)(hn:n<=4000000):pQ D 72 [.slice A n c] L s λv M' s'=>∀ s2,Le D s' s2->mI M' s2->∃ A' n' c',v=.slice A' n' c'/\lX s2 A' n' c' l:=by
 refine jn (fn:=f72) jb func72 V Z ntmps72 Z (rs:=[.tmp 2]) Z [(0,_)] Z<|G9 ?_;refine iA (qnx Z Z Z) Z<|G2 ?_;refine su Z ?_ ?_<;>intro c1
 .obtain rfl:A=none:=by simpa using c1
  have hn0:n=0:=by
    rcases eY n with h|h
    . exact h
    . obtain ⟨b,off,x,e0,_⟩:=lX.at_ hW h
      cases e0
  obtain rfl:l=[]:=aJ (by have:=hW.1;omega);refine G7 ?_;exact rR [] _ (.t1 Z) Z (Lr D) λ_ iD=>Hs
 refine Zk<|Zt<|Sr<|KQ (sz:=1) Z Z Z Z λβz s2 h2 oz=>kb Y2<|rQ (sz:=1) [] _ L Y7 oz (hW.le h2).row ⟨by simp [pY];omega,O⟩ Z ?_;intro vq Mq s3 h3 oq;obtain ⟨Avq,pg,rfl,_,_⟩:=Own.slice oq;rw [aX,aC] at oq;simp only [aC];refine G4 ?_;exact rR [] _ (.t1 Z) Z Lc λ_ iD=>Hs
def qpd{l:List iH}(hW:iO s A n c l)(hn:n<=4000000):pQ D 73 [.slice A n c] L s λv M' s'=>∀ s2,Le D s' s2->mI M' s2->∃ A' n' c',v=.slice A' n' c'/\iO s2 A' n' c' l:=by
 refine jn (fn:=f73) jb func73 V Z ntmps73 Z (rs:=[.tmp 2]) Z [(0,_)] Z<|G9 ?_;refine iA (qnx Z Z Z) Z<|G2 ?_;refine su Z ?_ ?_<;>intro c1
 .obtain rfl:A=none:=by simpa using c1
  have hn0:n=0:=by
    rcases eY n with h|h
    . exact h
    . obtain ⟨b,off,x,e0,_⟩:=iO.at_ hW h
      cases e0
  obtain rfl:l=[]:=aJ (by have:=hW.1;omega);refine G7 ?_;exact rR [] _ (.t1 Z) Z (Lr D) λ_ iD=>⟨[],rfl,λs2 j5 hp=>⟨none,0,0,rfl,⟨rfl,ay _,O,λi x h=>by cases h⟩⟩⟩
 refine Zk<|Zt<|Sr<|KQ (sz:=1) Z Z Z Z λβz s2 h2 oz=>kb Y2<|rQ (sz:=1) [] _ L Y7 oz (hW.le h2).row ⟨by simp [zM];omega,O⟩ Z ?_;intro vq Mq s3 h3 oq;obtain ⟨Avq,pg,rfl,_,_⟩:=Own.slice oq;rw [aX,aC] at oq;simp only [aC];refine G4 ?_;exact rR [] _ (.t1 Z) Z Lc λ_ iD=>⟨Mq,rfl,λs2 j5 hp=>⟨_,_,_,rfl,by have:=Own.strs oq (qI6 hW) hp hW.1;simpa using this⟩⟩
def qrg(l:iG)(hW:lX s A n c l)(hn:n<=4000000):jU D 72 [.slice A n c] L s λv L' s'=>L=L'/\∃ A' n' c',v=.slice A' n' c'/\lX s' A' n' c' l:=AC.pubW (qpe hW hn)
def xP(l:List iH)(hW:iO s A n c l)(hn:n<=4000000):jU D 73 [.slice A n c] L s λv L' s'=>L=L'/\∃ A' n' c',v=.slice A' n' c'/\iO s' A' n' c' l:=AC.pubW (qpd hW hn)
def qnZ{x:Ex}:∀ {l:List Ex} {k:Nat},l[k]?=some x->lh x.args+k+1<=lh l
 | [],k,h=>by cases h
 | .mk a b c d e::r,0,h=>by
  simp at h;subst h;rw [lh,mT];simp only [Ex.args];omega
 | .mk a b c d e::r,k+1,h=>by
  have:=qnZ (l:=r) (k:=k) Q2;rw [lh,mT];omega
def qnY:∀ l:List Ex,l.length<=lh l
 | []=>ay _
 | .mk a b c d e::r=>by have:=qnY r;rw [lh,mT,aw];omega
def wQ{l:List α}{x:α}(h:l[k]?=some x):l.take (k+1)=l.take k++[x]:=by
 obtain ⟨hk,rfl⟩:=al.1 h;exact bM hk
def Tq{R:α->β->γ->Prop}{us:List α}{vs:List β}{ws:List γ}{a:α}{b:β}{c:γ}(h:kY R us vs ws)(h1:R a b c):kY R (us++[a]) (vs++[b]) (ws++[c]):=h.app (.cons h1 .nil)
def VV(D d:Nat):Prop:=∀ (L:Hl) (s:World) (A:iE) (n c:Nat) (xs:List Ex),j8 d s A n c xs->lh xs<=4000000->pQ D 119 [.slice A n c] L s λv M' _=>∃ A' n' c',v=.slice A' n' c'/\tm d M' A' n' c' xs
def qnO(ih:∀ e,d=e+1->VV D e)(hA:j8 d s A n c xs)(Bo:lh xs<=4000000):pQ D 119 [.slice A n c] L s λv M' _=>∃ A' n' c',v=.slice A' n' c'/\tm d M' A' n' c' xs:=by
 have hn:=hA.1;have nI:=hA.2.1;have pt:=hA.2.2.1;have hl9:=qnY xs;refine jn (fn:=f119) jb func119 V Z ntmps119 Z (rs:=[.tmp 2]) Z [(0,_)] Z<|zP ?_;refine lJ (γ:=Nat×Value×Hl×Hl) (λg=>[(2,_),(3,g.2.1),(6,_),(7,_),(8,iB (g.1:Int))]) (λg=>g.2.2.1++(g.2.2.2++L)) (λg tw=>Le D s tw/\(g.1<=n/\∃ css Ms,Own 69 5 g.2.2.1 g.2.1 g.1 (List.flatten css)/\g.2.2.2=List.flatten Ms/\kY (OX d) Ms (xs.take g.1) css)) (λg=>n - g.1) (λ_ _ _ h hl=>⟨h.1.trans hl,h.2⟩) (0,.slice none 0 0,[],[]) (.c5 Z Z Z Z Z (.nil _)) Z ⟨Le.refl _,⟨aB _,[],[],Own.nil,Z,.nil⟩⟩ ?_;intro g s1 I1;obtain ⟨k,vo,Mo,Fo⟩:=g;obtain ⟨ko,css,Ms,hO,hF,nG⟩:=I1.2;simp only at ko hO hF nG;dsimp only;obtain ⟨Ao,co,rfl,_,_⟩:=Own.slice hO;refine J6 ?_ ?_<;>intro c2
 .have hk:k < n:=O
  obtain ⟨e,b,off,x,A',n',c',hd,rfl,hx,hcx,hax,oI,kL⟩:=j8.at_ Pz hk;have hx8:=qnZ hx;refine G6 ?_;refine iA (jK Y6 hk) Z<|iA (ku Y3 Pz Z) Z<|jh Z [_,_,_,_,_] Y2 λβ3 s3 h3=>Wt 0 [_,_,_,_,_] Y9<|G6 ?_;refine lm [] (Mo++(Fo++L)) kv (ih e hd _ _ A' n' c' x.args Pz O) ?_;rintro _ M1 s4 h4 ⟨A1,n1,c1,rfl,mP⟩;refine Wb Y5<|Wt 0 [_,_,_,_,_] Y9<|Nt<|Fg (L':=_::(Mo++((Fo++M1)++L))) (List.Perm.cons _ (Ce M1 Mo Fo L))<|Zr<|kb Y2<|iA (iZ 0 [_,_,_,_,_] Y5) Z<|lx [(_,_)] [_,_,_,_,_] Y9 λβn s5 h5 p9=>rQ (sz:=5) [_] Mo ((Fo++M1)++L) Y7 hO (Row.of_cells Pz Z Z) ⟨by simp [FD];omega,O⟩ Z ?_;intro vq Mq s6 h6 oq;obtain ⟨Avq,pg,rfl,_,_⟩:=Own.slice oq;simp only [jC,jD];refine G5 ?_;refine kq Y3 (jq O O)<|G2 ?_;refine iU ⟨(k+1,.slice Avq (k+1) pg,Mq,Fo++M1),[_],kp,Z,⟨Lc,⟨Oz,css++[[iB x.kind,iB x.op,iJ x.num,St x.name,.slice A1 n1 c1]],Ms++[M1],by simp only [bX,bj,cn,aE];exact oq,by simp only [bX,bj,cn,aE];rw [hF],by simp only;rw [wQ hx];exact Tq nG (hd▸OX.mk mP oI kL)⟩⟩,Oz⟩
 obtain rfl:n=k:=O
 rw [aK O] at nG;refine mY ?_;exact rR [] _ (.t1 Z) Z I1.1 λ_ iD=>⟨Mo++Fo,(am Mo Fo L).symm,_,_,_,rfl,css,Ms,Mo,hO,by rw [hF],nG,hn⟩
def EJ{D:Nat}:∀ d,VV D d
 | 0=>λL s A n c xs hA Bo=>qnO (λe h=>O) hA Bo
 | d+1=>λL s A n c xs hA Bo=>qnO (d:=d+1) (λe h=>(show d=e by omega)▸EJ d) hA Bo
def wx(sz:Nat)(s:World)(A:iE)(n c:Nat)(css:List iz):Prop:=Sl sz (λ_ x cs=>cs=x) s A n c css
def wx.le(h:wx sz s A n c l)(hl:Le D s s'):wx sz s' A n c l:=Sl.le (λ_ _ h=>h) h hl
def wx.at_{x:iz}(h:wx sz s A n c l)(hx:l[k]?=some x):∃ b off,A=some ⟨b,off,none⟩/\iy s b (off+k * sz) x:=by
 obtain ⟨b,off,cs,h1,h2,_,rfl⟩:=h.2.2.2 k x hx;exact ⟨b,off,h1,h2⟩
def wx.own(h:Own e sz M (.slice A n c) n css.flatten)(hp:mI M s)(ha:∀ cs∈css,cs.length=sz)(hn:n=css.length):wx sz s A n c css:=by
 refine Own.rows h hp ?_ hn;clear h hn;induction css with
 | nil=>exact .nil
 | cons x l ih=>exact .cons ⟨ha x Mc,rfl⟩ (ih λy hy=>ha y (an _ hy))
def SO:Nat->World->Hl->iP->iz->Prop
 | 0,_,_,_,_=>False
 | d+1,s,M,x,cs=>∃ A1 n1 c1 A2 n2 c2 A3 n3 c3 M1 M2 M3,cs=[iB x.kind,St x.name,.slice A1 n1 c1,.slice A2 n2 c2,.slice A3 n3 c3]/\M=M1++(M2++M3)/\tm d M1 A1 n1 c1 x.exprs /\
   (∃ css Ms,M2=Ms.flatten/\wx 5 s A2 n2 c2 css/\kY (SO d s) Ms x.body css)/\(∃ css Ms,M3=Ms.flatten/\wx 5 s A3 n3 c3 css/\kY (SO d s) Ms x.els css)/\x.name.length<=9223372036854775807
def sH(d:Nat)(s:World)(M:Hl)(A:iE)(n c:Nat)(l:List iP):Prop:=∃ css Ms,M=Ms.flatten/\wx 5 s A n c css/\kY (SO d s) Ms l css
def SO.le(hl:Le D s s'):∀ {d:Nat} {M:Hl} {x:iP} {cs:iz},SO d s M x cs->SO d s' M x cs:=by
 intro d;induction d with
 | zero=>exact λh=>h.elim
 | succ d ih=>
  intro M x cs ⟨A1,n1,c1,A2,n2,c2,A3,n3,c3,M1,M2,M3,h1,h2,h3,⟨c4,m4,e4,r4,k4⟩,⟨c5,m5,e5,r5,k5⟩,h6⟩;exact ⟨A1,n1,c1,A2,n2,c2,A3,n3,c3,M1,M2,M3,h1,h2,h3,⟨c4,m4,e4,r4.le hl,k4.mono λ_ _ _ h=>ih h⟩,⟨c5,m5,e5,r5.le hl,k5.mono λ_ _ _ h=>ih h⟩,h6⟩
def sH.le{l:List iP}(h:sH d s M A n c l)(hl:Le D s s'):sH d s' M A n c l:=by
 obtain ⟨c4,m4,e4,r4,k4⟩:=h;exact ⟨c4,m4,e4,r4.le hl,k4.mono λ_ _ _ h=>SO.le hl h⟩
def SO.mk{M1 M2 M3:Hl}{x:iP}{A1 A2 A3:iE}{n1 c1 n2 c2 n3 c3:Nat}(h1:tm d M1 A1 n1 c1 x.exprs)(h2:sH d s M2 A2 n2 c2 x.body)(h3:sH d s M3 A3 n3 c3 x.els)(hl:x.name.length<=9223372036854775807):SO (d+1) s (M1++(M2++M3)) x [iB x.kind,St x.name,.slice A1 n1 c1,.slice A2 n2 c2,.slice A3 n3 c3]:=
 ⟨A1,n1,c1,A2,n2,c2,A3,n3,c3,M1,M2,M3,rfl,rfl,h1,h2,h3,hl⟩
def SO.eq{x:iP}(h:SO d s M x cs):∃ e A1 n1 c1 A2 n2 c2 A3 n3 c3 M1 M2 M3,d=e+1/\cs=[iB x.kind,St x.name,.slice A1 n1 c1,.slice A2 n2 c2,.slice A3 n3 c3]/\M=M1++(M2++M3)/\tm e M1 A1 n1 c1 x.exprs/\sH e s M2 A2 n2 c2 x.body/\sH e s M3 A3 n3 c3 x.els/\x.name.length<=9223372036854775807:=by
 cases d with
 | zero=>exact h.elim
 | succ e=>obtain ⟨A1,n1,c1,A2,n2,c2,A3,n3,c3,M1,M2,M3,h1⟩:=h;exact ⟨e,A1,n1,c1,A2,n2,c2,A3,n3,c3,M1,M2,M3,rfl,h1⟩
def SO.five{x:iP}(h:SO d s M x cs):cs.length=5:=by
 obtain ⟨_,_,_,_,_,_,_,_,_,_,_,_,_,_,rfl,_⟩:=h.eq;rfl
def n_{R:α->β->γ->Prop}{P:γ->Prop}(hR:∀ a b c,R a b c->P c){us:List α}{vs:List β}{ws:List γ}(h:kY R us vs ws):∀ c∈ws,P c:=by
 induction h with
 | nil=>exact λc h=>by cases h
 | cons h1 _ ih=>
   intro c hc;rcases aR.1 hc with rfl|hc
   . exact hR _ _ _ h1
   . exact ih c hc
def Ua{x:iP}:∀ {l:List iP} {k:Nat},l[k]?=some x->lh x.exprs+ke x.body+ke x.els+k+1<=ke l
 | [],k,h=>by cases h
 | .mk a b c d e::r,0,h=>by
  simp at h;subst h;rw [ke,qm];simp only [iP.exprs,iP.body,iP.els];omega
 | .mk a b c d e::r,k+1,h=>by
  have:=Ua (l:=r) (k:=k) Q2;rw [ke,qm];omega
def Oo:∀ l:List iP,l.length<=ke l
 | []=>ay _
 | .mk a b c d e::r=>by have:=Oo r;rw [ke,qm,aw];omega
def VU(D d:Nat):Prop:=∀ (L:Hl) (s:World) (A:iE) (n c:Nat) (xs:List iP),jo d s A n c xs->ke xs<=4000000->pQ D 74 [.slice A n c] L s λv M' s'=>∃ A' n' c',v=.slice A' n' c'/\sH d s' M' A' n' c' xs
def DK(b:Nat×Obj)(M1 M2 M3 Mo Fo L:Hl):(b::(M3++(M2++(M1++(Mo++(Fo++L)))))).Perm (b::(Mo++((Fo++(M1++(M2++M3)))++L))):=by
 refine List.Perm.cons _ ?_;have h1:(M3++(M2++M1)).Perm (M1++(M2++M3)):=by
  have a:(M3++(M2++M1)).Perm ((M2++M1)++M3):=dK;have b:((M2++M1)++M3).Perm ((M1++M2)++M3):=gN M3 dK;simpa [am] using a.trans b
 have h2:(M3++(M2++(M1++(Mo++(Fo++L))))).Perm ((M1++(M2++M3))++(Mo++(Fo++L))):=by
  have:=gN (Mo++(Fo++L)) h1;simpa [am] using this
 exact h2.trans (Ce (M1++(M2++M3)) Mo Fo L)
def HZ{p:Prop} (h:p:=by
 rintro _ M2 s7 h7 ⟨C2,r2,e2,rfl,ju⟩;refine iF 8 V<|mR [] (M2++(M1++(Mo++(Fo++L)))) lr (ih e hd _ _ A3 n3 p3 x.els Pz O) ?_;rintro _ M3 s8 h8 ⟨C3,r3,e3,rfl,l0⟩;refine X1 ?_;refine iU (ol.mk (.slice C1 r1 e1,.slice C2 r2 e2,.slice C3 r3 e3,M1,M2,M3) [] Lc sk (DK _ M1 M2 M3 Mo Fo L) ⟨⟨_,_,_,Z,mP⟩,⟨_,_,_,Z,ju.le h8⟩,⟨_,_,_,Z,l0.le (Lr D)⟩⟩)):p:=h
def HK{p:Prop} (h:p:=by
 refine jW Z Tt (Wd 0 Y5) Z<|iF 1 V<|jW Z Tt (Wd 0 Y5) Z<|iF 2 V<|mR [] (Mo++(Fo++L)) lr (EJ e _ _ A1 n1 p1 x.exprs Pz O) ?_;rintro _ M1 s6 h6 ⟨C1,r1,e1,rfl,mP⟩;refine H1 ?_;refine iF 5 V<|mR [] (M1++(Mo++(Fo++L))) lr (ih e hd _ _ A2 n2 p2 x.body Pz O) ?_;rintro _ M2 s7 h7 ⟨C2,r2,e2,rfl,ju⟩;refine iF 8 V<|mR [] (M2++(M1++(Mo++(Fo++L)))) lr (ih e hd _ _ A3 n3 p3 x.els Pz O) ?_;rintro _ M3 s8 h8 ⟨C3,r3,e3,rfl,l0⟩;refine X1 ?_;refine iU (ol.mk (.slice C1 r1 e1,.slice C2 r2 e2,.slice C3 r3 e3,M1,M2,M3) [] Lc sk (DK _ M1 M2 M3 Mo Fo L) ⟨⟨_,_,_,Z,mP⟩,⟨_,_,_,Z,ju.le h8⟩,⟨_,_,_,Z,l0.le (Lr D)⟩⟩)):p:=h
def V5{p:Prop} (h:p:=by
  refine jW Z Tt (Wd 0 Y5) Z ?_;refine kA 2 4 V ?_ ?_;.refine mR [] (Mo++(Fo++L)) lr (EJ e _ _ A1 n1 p1 x.exprs Pz O) ?_;rintro _ M1 s6 h6 ⟨C1,r1,e1,rfl,mP⟩;refine iF 4 V<|jW Z Tt (Wd 0 Y5) Z<|H1 ?_;refine iF 5 V<|mR [] (M1++(Mo++(Fo++L))) lr (ih e hd _ _ A2 n2 p2 x.body Pz O) ?_;rintro _ M2 s7 h7 ⟨C2,r2,e2,rfl,ju⟩;refine iF 8 V<|mR [] (M2++(M1++(Mo++(Fo++L)))) lr (ih e hd _ _ A3 n3 p3 x.els Pz O) ?_;rintro _ M3 s8 h8 ⟨C3,r3,e3,rfl,l0⟩;refine X1 ?_;refine iU (ol.mk (.slice C1 r1 e1,.slice C2 r2 e2,.slice C3 r3 e3,M1,M2,M3) [] Lc sk (DK _ M1 M2 M3 Mo Fo L) ⟨⟨_,_,_,Z,mP⟩,⟨_,_,_,Z,ju.le h8⟩,⟨_,_,_,Z,l0.le (Lr D)⟩⟩)
  refine jW Z Tt (Wd 0 Y5) Z<|iF 2 V<|mR [] (Mo++(Fo++L)) lr (EJ e _ _ A1 n1 p1 x.exprs Pz O) ?_;rintro _ M1 s6 h6 ⟨C1,r1,e1,rfl,mP⟩;refine H1 ?_;refine iF 5 V<|mR [] (M1++(Mo++(Fo++L))) lr (ih e hd _ _ A2 n2 p2 x.body Pz O) ?_;rintro _ M2 s7 h7 ⟨C2,r2,e2,rfl,ju⟩;refine iF 8 V<|mR [] (M2++(M1++(Mo++(Fo++L)))) lr (ih e hd _ _ A3 n3 p3 x.els Pz O) ?_;rintro _ M3 s8 h8 ⟨C3,r3,e3,rfl,l0⟩;refine X1 ?_;refine iU (ol.mk (.slice C1 r1 e1,.slice C2 r2 e2,.slice C3 r3 e3,M1,M2,M3) [] Lc sk (DK _ M1 M2 M3 Mo Fo L) ⟨⟨_,_,_,Z,mP⟩,⟨_,_,_,Z,ju.le h8⟩,⟨_,_,_,Z,l0.le (Lr D)⟩⟩)):p:=h
def V1{p:Prop} (h:p:=by
  refine jW Z Tt (Wd 0 Y5) Z ?_;refine kA 2 7 V ?_ ?_
  .refine mR [] (Mo++(Fo++L)) lr (EJ e _ _ A1 n1 p1 x.exprs Pz O) ?_;rintro _ M1 s6 h6 ⟨C1,r1,e1,rfl,mP⟩;refine kA 5 7 V ?_ ?_;.refine mR [] (M1++(Mo++(Fo++L))) lr (ih e hd _ _ A2 n2 p2 x.body Pz O) ?_;rintro _ M2 s7 h7 ⟨C2,r2,e2,rfl,ju⟩;refine X12 ?_;refine iF 8 V<|mR [] (M2++(M1++(Mo++(Fo++L)))) lr (ih e hd _ _ A3 n3 p3 x.els Pz O) ?_;rintro _ M3 s8 h8 ⟨C3,r3,e3,rfl,l0⟩;refine X1 ?_;refine iU (ol.mk (.slice C1 r1 e1,.slice C2 r2 e2,.slice C3 r3 e3,M1,M2,M3) [] Lc sk (DK _ M1 M2 M3 Mo Fo L) ⟨⟨_,_,_,Z,mP⟩,⟨_,_,_,Z,ju.le h8⟩,⟨_,_,_,Z,l0.le (Lr D)⟩⟩)
   refine jW Z Tt (Wd 0 Y5) Z<|H1 ?_;refine iF 5 V<|mR [] (M1++(Mo++(Fo++L))) lr (ih e hd _ _ A2 n2 p2 x.body Pz O) ?_;rintro _ M2 s7 h7 ⟨C2,r2,e2,rfl,ju⟩;refine iF 8 V<|mR [] (M2++(M1++(Mo++(Fo++L)))) lr (ih e hd _ _ A3 n3 p3 x.els Pz O) ?_;rintro _ M3 s8 h8 ⟨C3,r3,e3,rfl,l0⟩;refine X1 ?_;refine iU (ol.mk (.slice C1 r1 e1,.slice C2 r2 e2,.slice C3 r3 e3,M1,M2,M3) [] Lc sk (DK _ M1 M2 M3 Mo Fo L) ⟨⟨_,_,_,Z,mP⟩,⟨_,_,_,Z,ju.le h8⟩,⟨_,_,_,Z,l0.le (Lr D)⟩⟩)
  refine jW Z Tt (Wd 0 Y5) Z<|iF 2 V<|mR [] (Mo++(Fo++L)) lr (EJ e _ _ A1 n1 p1 x.exprs Pz O) ?_;rintro _ M1 s6 h6 ⟨C1,r1,e1,rfl,mP⟩;refine H1 ?_;refine iF 5 V<|mR [] (M1++(Mo++(Fo++L))) lr (ih e hd _ _ A2 n2 p2 x.body Pz O) ?_;rintro _ M2 s7 h7 ⟨C2,r2,e2,rfl,ju⟩;refine iF 8 V<|mR [] (M2++(M1++(Mo++(Fo++L)))) lr (ih e hd _ _ A3 n3 p3 x.els Pz O) ?_;rintro _ M3 s8 h8 ⟨C3,r3,e3,rfl,l0⟩;refine X1 ?_;refine iU (ol.mk (.slice C1 r1 e1,.slice C2 r2 e2,.slice C3 r3 e3,M1,M2,M3) [] Lc sk (DK _ M1 M2 M3 Mo Fo L) ⟨⟨_,_,_,Z,mP⟩,⟨_,_,_,Z,ju.le h8⟩,⟨_,_,_,Z,l0.le (Lr D)⟩⟩)):p:=h
def qnN(ih:∀ e,d=e+1->VU D e){xs:List iP}(hA:jo d s A n c xs)(Bo:ke xs<=4000000):pQ D 74 [.slice A n c] L s λv M' s'=>∃ A' n' c',v=.slice A' n' c'/\∀ s2,Le D s' s2->sH d s2 M' A' n' c' xs:=by
 have hn:=hA.1;have nI:=hA.2.1;have pt:=hA.2.2.1;have hl9:=Oo xs;refine jn (fn:=f74) jb func74 V Z ntmps74 Z (rs:=[.tmp 2]) Z [(0,_)] Z<|zP ?_;refine lJ (γ:=Nat×Value×Hl×Hl) (λg=>[(2,_),(3,g.2.1),(6,_),(7,_),(8,iB (g.1:Int))]) (λg=>g.2.2.1++(g.2.2.2++L)) (λg tw=>Le D s tw/\(g.1<=n/\∃ css Ms,Own 76 5 g.2.2.1 g.2.1 g.1 (List.flatten css)/\g.2.2.2=List.flatten Ms/\kY (SO d tw) Ms (xs.take g.1) css)) (λg=>n - g.1) (λ_ _ _ h hl=>⟨h.1.trans hl,⟨h.2.1,by obtain ⟨css,Ms,q1,q2,q3⟩:=h.2.2;exact ⟨css,Ms,q1,q2,q3.mono λ_ _ _ k=>SO.le hl k⟩⟩⟩) (0,.slice none 0 0,[],[]) (.c5 Z Z Z Z Z (.nil _)) Z ⟨Le.refl _,⟨aB _,[],[],Own.nil,Z,.nil⟩⟩ ?_;intro g s1 I1;obtain ⟨k,vo,Mo,Fo⟩:=g;obtain ⟨ko,css,Ms,hO,hF,nG⟩:=I1.2;simp only at ko hO hF nG;dsimp only;obtain ⟨Ao,co,rfl,_,_⟩:=Own.slice hO;refine J6 ?_ ?_<;>intro c2
 .have hk:k < n:=O
  obtain ⟨e,b,off,x,A1,n1,p1,A2,n2,p2,A3,n3,p3,hd,rfl,hx,hcx,hax,so,hex,kL⟩:=jo.at_ Pz hk;have hx8:=Ua hx;refine G6 ?_;refine iA (jK Y6 hk) Z<|iA (ku Y3 Pz Z) Z<|jh Z [_,_,_,_,_] Y2 λβ3 s3 h3=>Wt 0 [_,_,_,_,_] Y9<|G2 ?_;refine Ux [] Z (γ:=Value×Value×Value×Hl×Hl×Hl) (λg=>(β3,cb [iB x.kind,St x.name,g.1,g.2.1,g.2.2.1] 76)::(Mo++((Fo++(g.2.2.2.1++(g.2.2.2.2.1++g.2.2.2.2.2)))++L))) (λg tw=>(∃ A n c,g.1=.slice A n c/\tm e g.2.2.2.1 A n c x.exprs)/\(∃ A n c,g.2.1=.slice A n c/\sH e tw g.2.2.2.2.1 A n c x.body)/\(∃ A n c,g.2.2.1=.slice A n c/\sH e tw g.2.2.2.2.2 A n c x.els)) (λ_ _ _ h hl=>⟨h.1,by obtain ⟨A,n,c,q1,q2⟩:=h.2.1;exact ⟨A,n,c,q1,q2.le hl⟩,by obtain ⟨A,n,c,q1,q2⟩:=h.2.2;exact ⟨A,n,c,q1,q2.le hl⟩⟩) ?_ ?_
  .refine mv jt 15 Z 0 λs5 h5=>H3 ?_;refine xW 1 4 7 V ?_ ?_ ?_
   .refine X3 ?_;refine xW 2 4 7 V ?_ ?_ ?_
    .refine mR [] (Mo++(Fo++L)) lr (EJ e _ _ A1 n1 p1 x.exprs Pz O) ?_;rintro _ M1 s6 h6 ⟨C1,r1,e1,rfl,mP⟩;refine kA 4 7 V ?_ ?_
     .refine X3 ?_;refine kA 5 7 V ?_ ?_;.refine mR [] (M1++(Mo++(Fo++L))) lr (ih e hd _ _ A2 n2 p2 x.body Pz O) ?_;rintro _ M2 s7 h7 ⟨C2,r2,e2,rfl,ju⟩;refine X12 ?_;refine iF 8 V<|mR [] (M2++(M1++(Mo++(Fo++L)))) lr (ih e hd _ _ A3 n3 p3 x.els Pz O) ?_;rintro _ M3 s8 h8 ⟨C3,r3,e3,rfl,l0⟩;refine X1 ?_;refine iU (ol.mk (.slice C1 r1 e1,.slice C2 r2 e2,.slice C3 r3 e3,M1,M2,M3) [] Lc sk (DK _ M1 M2 M3 Mo Fo L) ⟨⟨_,_,_,Z,mP⟩,⟨_,_,_,Z,ju.le h8⟩,⟨_,_,_,Z,l0.le (Lr D)⟩⟩)
      refine jW Z Tt (Wd 0 Y5) Z<|H1 ?_;refine iF 5 V<|mR [] (M1++(Mo++(Fo++L))) lr (ih e hd _ _ A2 n2 p2 x.body Pz O) ?_;exact HZ
     refine jW Z Tt (Wd 0 Y5) Z<|iF 4 V<|jW Z Tt (Wd 0 Y5) Z<|H1 ?_;refine iF 5 V<|mR [] (M1++(Mo++(Fo++L))) lr (ih e hd _ _ A2 n2 p2 x.body Pz O) ?_;exact HZ
    .exact V1
    exact V5
   .refine X3 ?_;refine kA 1 7 V ?_ ?_;.exact V1
    exact HK
   refine jW Z Tt (Wd 0 Y5) Z ?_;refine kA 1 4 V ?_ ?_;.exact V5
   exact HK
  intro g s4 h4 I4;simp only [jC,jD];obtain ⟨v1,v2,v3,M1,M2,M3⟩:=g;obtain ⟨⟨C1,r1,e1,q1,mP⟩,⟨C2,r2,e2,q2,ju⟩,⟨C3,r3,e3,q3,l0⟩⟩:=I4;simp only at q1 q2 q3 mP ju l0;subst q1 q2 q3;dsimp only;refine Zr<|kb Y2<|iA (iZ 0 [_,_,_,_,_] Y5) Z<|lx [(_,_)] [_,_,_,_,_] Y9 λβn s9 h9 p9=>rQ (sz:=5) [_] Mo ((Fo++(M1++(M2++M3)))++L) Y7 hO (Row.of_cells Pz Z Z) ⟨by simp [FE];omega,O⟩ Z ?_;intro vq Mq kH jG oq;obtain ⟨Avq,pg,rfl,_,_⟩:=Own.slice oq;simp only [jC,jD];refine G5 ?_;refine kq Y3 (jq O O)<|G2 ?_;refine iU ⟨(k+1,.slice Avq (k+1) pg,Mq,Fo++(M1++(M2++M3))),[_],kp,Z,⟨Lc,⟨Oz,css++[[iB x.kind,St x.name,.slice C1 r1 e1,.slice C2 r2 e2,.slice C3 r3 e3]],Ms++[M1++(M2++M3)],by simp only [bX,bj,cn,aE];exact oq,by simp only [bX,bj,cn,aE];rw [hF],by simp only;rw [wQ hx];exact Tq (nG.mono λ_ _ _ k=>SO.le Lc k) (hd▸SO.mk mP (ju.le (h9.t jG)) (l0.le (h9.t jG)) kL)⟩⟩,Oz⟩
 obtain rfl:n=k:=O
 rw [aK O] at nG;refine G6 ?_;refine uz [] Mo ?_;intro s3 h3 ou;simp only [jC,jD];have wM:wx 5 s3 Ao n co css:=wx.own hO ou (n_ (λ_ _ _ h=>SO.five h) nG) (by have:=nG.len;omega);refine G6 ?_;exact rR [] _ (.t1 Z) Z Lc λ_ iD=>⟨Fo,rfl,_,_,_,rfl,λs2 j5=>⟨css,Ms,hF,wM.le Lc,nG.mono λ_ _ _ k=>SO.le Lc k⟩⟩
def qzk{f:FuncId}{xs:List iP}(h:pQ D f args L s λv M' s'=>∃ A' n' c',v=.slice A' n' c'/\∀ s2,Le D s' s2->sH d s2 M' A' n' c' xs):pQ D f args L s λv M' s'=>∃ A' n' c',v=.slice A' n' c'/\sH d s' M' A' n' c' xs:=h.mono λv L' s' _ ⟨M',h1,A',n',c',h2,h3⟩=>⟨M',h1,A',n',c',h2,h3 _ (Le.refl _)⟩
def CF{D:Nat}:∀ d,VU D d
 | 0=>λL s A n c xs hA Bo=>qzk (qnN (λe h=>O) hA Bo)
 | d+1=>λL s A n c xs hA Bo=>qzk (qnN (λe h=>(show d=e by omega)▸CF d) hA Bo)
def FO(d:Nat)(s:World)(M:Hl)(x:iM)(cs:iz):Prop:=∃ A1 n1 c1 A2 n2 c2 A3 n3 c3,cs=[St x.name,.slice A1 n1 c1,.slice A2 n2 c2,.slice A3 n3 c3]/\iO s A1 n1 c1 x.params/\iO s A2 n2 c2 x.locals/\sH d s M A3 n3 c3 x.body/\x.name.length<=9223372036854775807
def Cv(d:Nat)(s:World)(M:Hl)(A:iE)(n c:Nat)(l:List iM):Prop:=∃ css Ms,M=Ms.flatten/\wx 4 s A n c css/\kY (FO d s) Ms l css
def FO.le{x:iM}(h:FO d s M x cs)(hl:Le D s s'):FO d s' M x cs:=by
 exact XD
def FO.four{x:iM}(h:FO d s M x cs):cs.length=4:=by
 obtain ⟨A1,n1,c1,A2,n2,c2,A3,n3,c3,rfl,_⟩:=h;rfl
def Cv.le{l:List iM}(h:Cv d s M A n c l)(hl:Le D s s'):Cv d s' M A n c l:=by
 obtain ⟨c4,m4,e4,r4,k4⟩:=h;exact ⟨c4,m4,e4,r4.le hl,k4.mono λ_ _ _ h=>h.le hl⟩
def Ke{R:α->β->Prop}{l:List α}{m:List β}{a:α}{b:β}(h:kJ R l m)(h1:R a b):kJ R (l++[a]) (m++[b]):=by
 induction h with
 | nil=>exact .cons h1 .nil
 | cons k _ ih=>exact .cons k ih
def HX{p:Prop} (h:p:=by
 rintro _ _ lq kV ⟨rfl,C2,r2,e2,rfl,hS2q⟩;refine ⟨(λx hx _=>nomatch hx),?_⟩;refine iF 8 V<|DY [] (Mo++(Fo++L)) lr (CF d _ _ B3 m3 d3 x.body Pz O) ?_;rintro _ M1 lG kI ⟨C3,r3,e3,rfl,oM⟩;refine X2 ?_;refine iU (ol.mk (.slice C1 r1 e1,.slice C2 r2 e2,.slice C3 r3 e3,M1) [] Lc sk (.cons _ (.cons _ (.cons _ (.cons _ (Ce M1 Mo Fo L))))) ⟨⟨_,_,_,Z,hS1.le Lc⟩,⟨_,_,_,Z,hS2q.le kI⟩,⟨_,_,_,Z,oM.le (Lr D)⟩⟩)):p:=h
def HJ{p:Prop} (h:p:=by
 refine jW Z Tt (Wd 0 Y5) Z<|iF 1 V<|jW Z Tt (Wd 0 Y5) Z<|iF 2 V<|Jb Z Tt Z Z Z (xP x.params Pz O) ?_;rintro _ _ kh jE ⟨rfl,C1,r1,e1,rfl,hS1⟩;refine ⟨(λx hx _=>nomatch hx),?_⟩;refine H1 ?_;refine iF 5 V<|Jb Z Tt Z Z Z (xP x.locals Pz O) ?_;rintro _ _ lq kV ⟨rfl,C2,r2,e2,rfl,hS2q⟩;refine ⟨(λx hx _=>nomatch hx),?_⟩;refine iF 8 V<|DY [] (Mo++(Fo++L)) lr (CF d _ _ B3 m3 d3 x.body Pz O) ?_;rintro _ M1 lG kI ⟨C3,r3,e3,rfl,oM⟩;refine X2 ?_;refine iU (ol.mk (.slice C1 r1 e1,.slice C2 r2 e2,.slice C3 r3 e3,M1) [] Lc sk (.cons _ (.cons _ (.cons _ (.cons _ (Ce M1 Mo Fo L))))) ⟨⟨_,_,_,Z,hS1.le Lc⟩,⟨_,_,_,Z,hS2q.le kI⟩,⟨_,_,_,Z,oM.le (Lr D)⟩⟩)):p:=h
def V4{p:Prop} (h:p:=by
  refine jW Z Tt (Wd 0 Y5) Z ?_;refine kA 2 4 V ?_ ?_;.refine Jb Z Tt Z Z Z (xP x.params Pz O) ?_;rintro _ _ kh jE ⟨rfl,C1,r1,e1,rfl,hS1⟩;refine ⟨(λx hx _=>nomatch hx),?_⟩;refine iF 4 V<|jW Z Tt (Wd 0 Y5) Z<|H1 ?_;refine iF 5 V<|Jb Z Tt Z Z Z (xP x.locals Pz O) ?_;rintro _ _ lq kV ⟨rfl,C2,r2,e2,rfl,hS2q⟩;refine ⟨(λx hx _=>nomatch hx),?_⟩;refine iF 8 V<|DY [] (Mo++(Fo++L)) lr (CF d _ _ B3 m3 d3 x.body Pz O) ?_;rintro _ M1 lG kI ⟨C3,r3,e3,rfl,oM⟩;refine X2 ?_;refine iU (ol.mk (.slice C1 r1 e1,.slice C2 r2 e2,.slice C3 r3 e3,M1) [] Lc sk (.cons _ (.cons _ (.cons _ (.cons _ (Ce M1 Mo Fo L))))) ⟨⟨_,_,_,Z,hS1.le Lc⟩,⟨_,_,_,Z,hS2q.le kI⟩,⟨_,_,_,Z,oM.le (Lr D)⟩⟩)
  refine jW Z Tt (Wd 0 Y5) Z<|iF 2 V<|Jb Z Tt Z Z Z (xP x.params Pz O) ?_;rintro _ _ kh jE ⟨rfl,C1,r1,e1,rfl,hS1⟩;refine ⟨(λx hx _=>nomatch hx),?_⟩;refine H1 ?_;refine iF 5 V<|Jb Z Tt Z Z Z (xP x.locals Pz O) ?_;rintro _ _ lq kV ⟨rfl,C2,r2,e2,rfl,hS2q⟩;refine ⟨(λx hx _=>nomatch hx),?_⟩;refine iF 8 V<|DY [] (Mo++(Fo++L)) lr (CF d _ _ B3 m3 d3 x.body Pz O) ?_;rintro _ M1 lG kI ⟨C3,r3,e3,rfl,oM⟩;refine X2 ?_;refine iU (ol.mk (.slice C1 r1 e1,.slice C2 r2 e2,.slice C3 r3 e3,M1) [] Lc sk (.cons _ (.cons _ (.cons _ (.cons _ (Ce M1 Mo Fo L))))) ⟨⟨_,_,_,Z,hS1.le Lc⟩,⟨_,_,_,Z,hS2q.le kI⟩,⟨_,_,_,Z,oM.le (Lr D)⟩⟩)):p:=h
def V0{p:Prop} (h:p:=by
  refine jW Z Tt (Wd 0 Y5) Z ?_;refine kA 2 7 V ?_ ?_
  .refine Jb Z Tt Z Z Z (xP x.params Pz O) ?_;rintro _ _ kh jE ⟨rfl,C1,r1,e1,rfl,hS1⟩;refine ⟨(λx hx _=>nomatch hx),?_⟩;refine kA 5 7 V ?_ ?_;.refine Jb Z Tt Z Z Z (xP x.locals Pz O) ?_;rintro _ _ lq kV ⟨rfl,C2,r2,e2,rfl,hS2q⟩;refine ⟨(λx hx _=>nomatch hx),?_⟩;refine X12 ?_;refine iF 8 V<|DY [] (Mo++(Fo++L)) lr (CF d _ _ B3 m3 d3 x.body Pz O) ?_;rintro _ M1 lG kI ⟨C3,r3,e3,rfl,oM⟩;refine X2 ?_;refine iU (ol.mk (.slice C1 r1 e1,.slice C2 r2 e2,.slice C3 r3 e3,M1) [] Lc sk (.cons _ (.cons _ (.cons _ (.cons _ (Ce M1 Mo Fo L))))) ⟨⟨_,_,_,Z,hS1.le Lc⟩,⟨_,_,_,Z,hS2q.le kI⟩,⟨_,_,_,Z,oM.le (Lr D)⟩⟩)
   refine jW Z Tt (Wd 0 Y5) Z<|H1 ?_;refine iF 5 V<|Jb Z Tt Z Z Z (xP x.locals Pz O) ?_;rintro _ _ lq kV ⟨rfl,C2,r2,e2,rfl,hS2q⟩;refine ⟨(λx hx _=>nomatch hx),?_⟩;refine iF 8 V<|DY [] (Mo++(Fo++L)) lr (CF d _ _ B3 m3 d3 x.body Pz O) ?_;rintro _ M1 lG kI ⟨C3,r3,e3,rfl,oM⟩;refine X2 ?_;refine iU (ol.mk (.slice C1 r1 e1,.slice C2 r2 e2,.slice C3 r3 e3,M1) [] Lc sk (.cons _ (.cons _ (.cons _ (.cons _ (Ce M1 Mo Fo L))))) ⟨⟨_,_,_,Z,hS1.le Lc⟩,⟨_,_,_,Z,hS2q.le kI⟩,⟨_,_,_,Z,oM.le (Lr D)⟩⟩)
  refine jW Z Tt (Wd 0 Y5) Z<|iF 2 V<|Jb Z Tt Z Z Z (xP x.params Pz O) ?_;rintro _ _ kh jE ⟨rfl,C1,r1,e1,rfl,hS1⟩;refine ⟨(λx hx _=>nomatch hx),?_⟩;refine H1 ?_;refine iF 5 V<|Jb Z Tt Z Z Z (xP x.locals Pz O) ?_;rintro _ _ lq kV ⟨rfl,C2,r2,e2,rfl,hS2q⟩;refine ⟨(λx hx _=>nomatch hx),?_⟩;refine iF 8 V<|DY [] (Mo++(Fo++L)) lr (CF d _ _ B3 m3 d3 x.body Pz O) ?_;rintro _ M1 lG kI ⟨C3,r3,e3,rfl,oM⟩;refine X2 ?_;refine iU (ol.mk (.slice C1 r1 e1,.slice C2 r2 e2,.slice C3 r3 e3,M1) [] Lc sk (.cons _ (.cons _ (.cons _ (.cons _ (Ce M1 Mo Fo L))))) ⟨⟨_,_,_,Z,hS1.le Lc⟩,⟨_,_,_,Z,hS2q.le kI⟩,⟨_,_,_,Z,oM.le (Lr D)⟩⟩)):p:=h
def qpc(jF:ja s Ag ng cg p.o)(jX:jl d s Af nf cf p.funcs)(hV:PV p):pQ D 32 [.agg #[.slice Ag ng cg,.slice Af nf cf]] L s λv M' s'=>∃ Bg mg eg Bf mf ef,v=.agg #[.slice Bg mg eg,.slice Bf mf ef]/\∀ s2,Le D s' s2->ja s2 Bg mg eg p.o/\Cv d s2 M' Bf mf ef p.funcs:=by
 have l7:=jF.1;have oW:=jX.1;have y8:=hV.1;have A0:=hV.2.1;have hVg:=hV.2.2.1;have sn:=hV.2.2.2.1;refine jn (fn:=Tryz.f32) jb Tryz.func32 V Z Tryz.ntmps32 Z (rs:=[.cell 2 25]) Z [(0,_)] Z<|Sr<|kF Y2 λβ1 s1 h1=>jh Z [_,_] Y2 λβ2 s2 h2=>Nt<|Sr<|jh Z [_,_] Y2 λβ3 s3 h3=>mY ?_;refine lJ (γ:=Nat×Value×Hl) (λg=>[(1,_),(2,_),(3,_),(9,_),(10,_),(11,iB (g.1:Int))]) (λg=>(β3,cb [g.2.1,.slice none 0 0] 25)::_::_::(g.2.2++L)) (λg tw=>Le D s3 tw/\(g.1<=ng/\∃ css,Own 84 4 g.2.2 g.2.1 g.1 (List.flatten css)/\kJ (λx cs=>cs.length=4/\Dk tw x cs) (p.o.take g.1) css)) (λg=>ng - g.1) (λ_ _ _ h hl=>⟨h.1.trans hl,⟨h.2.1,by obtain ⟨css,q1,q2⟩:=h.2.2;exact ⟨css,q1,q2.mono λ_ _ k=>⟨k.1,k.2.le hl⟩⟩⟩⟩) (0,.slice none 0 0,[]) (.c6 Z Z Z Z Z Z (.nil _)) Z ⟨Le.refl _,⟨aB _,[],Own.nil,.nil⟩⟩ ?_;intro g s4 I4;obtain ⟨k,vo,Mo⟩:=g;obtain ⟨ko,css,hO,lR⟩:=I4.2;simp only at ko hO lR;dsimp only;obtain ⟨Ao,co,rfl,_,_⟩:=Own.slice hO;refine J6 ?_ ?_<;>intro c5
 .have hk:k < ng:=O
  obtain ⟨b,off,x,Ai,ni,ci,rfl,hx,hcx,hix,oI,kL⟩:=ja.at_ Pz hk;have hni:=hix.1;have hgx:=(hVg x (ax hx)).2;refine G6 ?_;refine iA (jK Y6 hk) Z<|iA (ku Y3 Pz Z) Z<|jh Z [_,_,_,_] Y2 λt6 s6 h6=>Wt 0 [_,_,_,_] Y9<|G6 ?_;refine Jc Y3 (qrg x.init Pz O) ?_;rintro _ _ s7 h7 ⟨rfl,Aw,nw,cw,rfl,hWw⟩;refine Wb Y5<|Wt 0 [_,_,_,_] Y9<|G5 ?_;refine iA (iZ 0 [_,_,_,_] Y5) Z<|lx [(_,_)] [_,_,_,_] Y9 λβn s8 h8 p9=>rQ (sz:=4) [_,_,_,_] Mo L Y7 hO (Row.of_cells Pz Z Z) ⟨by simp [Dd];omega,O⟩ Z ?_;intro vq Mq s9 h9 oq;obtain ⟨Avq,pg,rfl,_,_⟩:=Own.slice oq;simp only [jC,jD];refine W0 Y5<|Wt 1 [_,_] Y9<|G4 ?_;refine kq Y3 (jq O O)<|G2 ?_;refine iU ⟨(k+1,.slice Avq (k+1) pg,Mq),[_],kp,Z,⟨Lc,⟨Oz,css++[[iB x.kind,St x.name,iJ x.num,.slice Aw nw cw]],by simp only [bX,bj,cn,aE];exact oq,by simp only;rw [wQ hx];exact Ke (lR.mono λ_ _ k=>⟨k.1,k.2.le Lc⟩) ⟨Z,Aw,nw,cw,Z,hWw.le Lc,oI,kL⟩⟩⟩,Oz⟩
 obtain rfl:ng=k:=O
 rw [aK O] at lR;refine G7 ?_;refine uz [_,_,_] Mo ?_;intro s6 h6 hpub6;simp only [jC,jD];have hGN:ja s6 Ao ng co p.o:=Own.rows hO hpub6 (lR.mono λ_ _ k=>⟨k.1,k.2.le h6⟩) l7;obtain ⟨Go,hGo⟩:∃ Go,Go=Ao:=⟨_,rfl⟩;obtain ⟨eg,heg⟩:∃ eg,eg=co:=⟨_,rfl⟩;rw [<- hGo,<- heg] at hGN ⊢;clear hGo heg hO lR;refine G8 ?_;refine lJ (γ:=Nat×Value×Hl×Hl) (λg=>[(2,_),(3,_),(27,_),(28,_),(29,iB (g.1:Int))]) (λg=>(β3,cb [.slice Go ng eg,g.2.1] 25)::_::_::(g.2.2.1++(g.2.2.2++L))) (λg tw=>Le D s6 tw/\(g.1<=nf/\∃ css Ms,Own 64 4 g.2.2.1 g.2.1 g.1 (List.flatten css)/\g.2.2.2=List.flatten Ms/\kY (FO d tw) Ms (p.funcs.take g.1) css)) (λg=>nf - g.1) (λ_ _ _ h hl=>⟨h.1.trans hl,⟨h.2.1,by obtain ⟨css,Ms,q1,q2,q3⟩:=h.2.2;exact ⟨css,Ms,q1,q2,q3.mono λ_ _ _ k=>k.le hl⟩⟩⟩) (0,.slice none 0 0,[],[]) (.c5 Z Z Z Z Z (.nil _)) Z ⟨Le.refl _,⟨aB _,[],[],Own.nil,Z,.nil⟩⟩ ?_;intro g s7 I7;obtain ⟨k,vo,Mo,Fo⟩:=g;obtain ⟨ko,css,Ms,hO,hF,nG⟩:=I7.2;simp only at ko hO hF nG;dsimp only;obtain ⟨Ao,co,rfl,_,_⟩:=Own.slice hO;refine J6 ?_ ?_<;>intro c8
 .have hk:k < nf:=O
  obtain ⟨b,off,x,B1,m1,d1,B2,m2,d2,B3,m3,d3,rfl,hx,hcx,oP,oO,so,kL⟩:=jl.at_ Pz hk;obtain ⟨hi1,xH,hi3,hi4,hi5,hi6⟩:=sn x (ax hx);have hp9:=oP.1;have hl9:=oO.1;refine G6 ?_;refine iA (jK Y6 hk) Z<|iA (ku Y3 Pz Z) Z<|jh Z [_,_,_,_] Y2 λd9 s9 h9=>Wt 0 [_,_,_,_] Y9<|G2 ?_;refine Ux [] Z (γ:=Value×Value×Value×Hl) (λg=>(d9,cb [St x.name,g.1,g.2.1,g.2.2.1] 64)::(β3,cb [.slice Go ng eg,.slice Ao k co] 25)::(β2,cb [.slice none 0 0,.slice none 0 0] 25)::(β1,cb [.slice Ag ng cg,.slice (some ⟨b,off,none⟩) nf cf] 25)::(Mo++((Fo++g.2.2.2)++L))) (λg tw=>(∃ A n c,g.1=.slice A n c/\iO tw A n c x.params)/\(∃ A n c,g.2.1=.slice A n c/\iO tw A n c x.locals)/\(∃ A n c,g.2.2.1=.slice A n c/\sH d tw g.2.2.2 A n c x.body)) (λ_ _ _ h hl=>⟨by obtain ⟨A,n,c,q1,q2⟩:=h.1;exact ⟨A,n,c,q1,q2.le hl⟩,by obtain ⟨A,n,c,q1,q2⟩:=h.2.1;exact ⟨A,n,c,q1,q2.le hl⟩,by obtain ⟨A,n,c,q1,q2⟩:=h.2.2;exact ⟨A,n,c,q1,q2.le hl⟩⟩) ?_ ?_
  .refine mv jt 15 Z 0 λkz jM=>H3 ?_;refine xW 1 4 7 V ?_ ?_ ?_
   .refine X3 ?_;refine xW 2 4 7 V ?_ ?_ ?_
    .refine Jb Z Tt Z Z Z (xP x.params Pz O) ?_;rintro _ _ kh jE ⟨rfl,C1,r1,e1,rfl,hS1⟩;refine ⟨(λx hx _=>nomatch hx),?_⟩;refine kA 4 7 V ?_ ?_
     .refine X3 ?_;refine kA 5 7 V ?_ ?_;.refine Jb Z Tt Z Z Z (xP x.locals Pz O) ?_;rintro _ _ lq kV ⟨rfl,C2,r2,e2,rfl,hS2q⟩;refine ⟨(λx hx _=>nomatch hx),?_⟩;refine X12 ?_;refine iF 8 V<|DY [] (Mo++(Fo++L)) lr (CF d _ _ B3 m3 d3 x.body Pz O) ?_;rintro _ M1 lG kI ⟨C3,r3,e3,rfl,oM⟩;refine X2 ?_;refine iU (ol.mk (.slice C1 r1 e1,.slice C2 r2 e2,.slice C3 r3 e3,M1) [] Lc sk (.cons _ (.cons _ (.cons _ (.cons _ (Ce M1 Mo Fo L))))) ⟨⟨_,_,_,Z,hS1.le Lc⟩,⟨_,_,_,Z,hS2q.le kI⟩,⟨_,_,_,Z,oM.le (Lr D)⟩⟩)
      refine jW Z Tt (Wd 0 Y5) Z<|H1 ?_;refine iF 5 V<|Jb Z Tt Z Z Z (xP x.locals Pz O) ?_;exact HX
     refine jW Z Tt (Wd 0 Y5) Z<|iF 4 V<|jW Z Tt (Wd 0 Y5) Z<|H1 ?_;refine iF 5 V<|Jb Z Tt Z Z Z (xP x.locals Pz O) ?_;exact HX
    .exact V0
    exact V4
   .refine X3 ?_;refine kA 1 7 V ?_ ?_;.exact V0
    exact HJ
   refine jW Z Tt (Wd 0 Y5) Z ?_;refine kA 1 4 V ?_ ?_;.exact V4
   exact HJ
  intro g kH jG I10;simp only [jC,jD];obtain ⟨v1,v2,v3,M1⟩:=g;obtain ⟨⟨C1,r1,e1,q1,hS1⟩,⟨C2,r2,e2,q2,hS2q⟩,⟨C3,r3,e3,q3,oM⟩⟩:=I10;simp only at q1 q2 q3 hS1 hS2q oM;subst q1 q2 q3;dsimp only;refine G3 ?_;refine iA (iZ 0 [_,_,_,_] Y5) Z<|lx [(_,_)] [_,_,_,_] Y9 λβn lW lQ p9=>rQ (sz:=4) [_,_,_,_] Mo ((Fo++M1)++L) Y7 hO (Row.of_cells Pz Z Z) ⟨by simp [Db];omega,O⟩ Z ?_;intro vq Mq sB tu oq;obtain ⟨Avq,pg,rfl,_,_⟩:=Own.slice oq;simp only [jC,jD];refine Wb Y5<|Wt 1 [_,_] Y9<|G4 ?_;refine kq Y3 (jq O O)<|G2 ?_;refine iU ⟨(k+1,.slice Avq (k+1) pg,Mq,Fo++M1),[_],kp,Z,⟨Lc,⟨Oz,css++[[St x.name,.slice C1 r1 e1,.slice C2 r2 e2,.slice C3 r3 e3]],Ms++[M1],by simp only [bX,bj,cn,aE];exact oq,by simp only [bX,bj,cn,aE];rw [hF],by simp only;rw [wQ hx];exact Tq (nG.mono λ_ _ _ k=>k.le Lc) ⟨C1,r1,e1,C2,r2,e2,C3,r3,e3,Z,hS1.le Lc,hS2q.le Lc,oM.le Lc,kL⟩⟩⟩,Oz⟩
 obtain rfl:nf=k:=O
 rw [aK O] at nG;refine G6 ?_;refine uz [_,_,_] Mo ?_;intro s9 h9 hpub9;simp only [jC,jD];have wM:wx 4 s9 Ao nf co css:=wx.own hO hpub9 (n_ (λ_ _ _ h=>h.four) nG) (by have:=nG.len;omega);refine Zr<|iA (iZ 0 [_,_] Y5) Z<|Wt 1 [_,_] Y9<|G3 ?_;exact rR [_,_,_] _ (.agg (us:=[_,_]) 1 Z Z Z Z Z (.nil)) Z Lc λ_ iD=>⟨Fo,rfl,_,_,_,_,_,_,rfl,λs2 j5=>⟨hGN.le Lc,css,Ms,hF,wM.le Lc,nG.mono λ_ _ _ k=>k.le Lc⟩⟩
def F4(d:Nat)(jF:ja s Ag ng cg p.o)(jX:jl d s Af nf cf p.funcs)(hV:PV p):pQ D 32 [.agg #[.slice Ag ng cg,.slice Af nf cf]] L s λv M' s'=>∃ Bg mg eg Bf mf ef,v=.agg #[.slice Bg mg eg,.slice Bf mf ef]/\ja s' Bg mg eg p.o/\Cv d s' M' Bf mf ef p.funcs:=(qpc jF jX hV).mono λv L' s' _ ⟨M',h1,Bg,mg,eg,Bf,mf,ef,h2,h3⟩=>⟨M',h1,Bg,mg,eg,Bf,mf,ef,h2,h3 _ (Le.refl _)⟩
def qR(l:List Bool):iz:=l.map Value.bool
def Sd{l:List Bool}(h:j < l.length):nth (qR l) (0+j)=some (.bool (l.getD j false)):=by
 rw [wc,aX,qR,bQ,ap h,aG,ap h];rfl
def YS{l:List Bool}(h:j < l.length):Nat.ble (0+j+1) (qR l).length=true:=Nat.ble_eq_true_of_le (by simp only [qR,bB];omega)
def ZE{l:List Bool}(h:j < l.length)(v:Bool):pk (qR l) (0+j) [.bool v]=qR (l.set j v):=by
 have:=qDt (xs:=qR l) (ys:=[]) (.bool v) (show j < (qR l).length by simpa [qR] using h);simpa [qR,gL] using this
def xR:List Bool->Nat
 | []=>0
 | b::r=>(if b=true then 0 else 1)+xR r
def u_:∀ {l:List Bool} {j:Nat},j < l.length->l.getD j false=false->xR (l.set j true) < xR l
 | [],j,h,_=>by cases h
 | b::r,0,_,h=>by
  have h:b=false:=h;subst h;rw [gb,xR,xR];simp
 | b::r,j+1,h,h2=>by
  have:=u_ (l:=r) (j:=j) Q2 Q9;rw [dr,xR,xR];omega
def V':∀ {l m:List Bool},m.length=l.length->(∀ j:Nat,l[j]?=some true->m[j]?=some true)->xR m<=xR l
 | [],[],_,_=>ay _
 | [],b::r,h,_=>by cases h
 | b::r,[],h,_=>by cases h
 | a::l,b::m,h,hm=>by
  have h1:=V' (l:=l) (m:=m) Q2 λj hj=>by simpa using hm (j+1) Q18
  have h0:=hm 0;rw [xR,xR];cases a with
  | true=>
   have hb:=h0 rfl;simp at hb;subst hb;simp;exact h1
  | false=>cases b<;>simp<;>omega
def Ts{x:iM}(h:(j7 p x nm).2=false):(j7 p x nm).1=(0,0):=by
 unfold j7 at h ⊢;split at h
 . cases h
 rename_i h1;rw [ak h1];split at h
 . cases h
 rename_i h2;rw [ak h2];split at h
 . cases h
 . rfl
def OJ{x:iM}(h:i∈qq p x kd nd):nd.use.2.1≠0/\(j7 p x nd.use.1).1=(kd,i):=by
  unfold qq at h;split at h
  . cases h
  . rename_i h1
    split at h
    . rename_i h2
      rw [aU] at h;exact ⟨h1,by rw [<- h2,h]⟩
    . cases h
def qse{x:iM}(h:i∈sU p x 3):∃ k:Nat,i=(k:Int)/\k < p.o.length:=by
 obtain ⟨nd,_,h1⟩:=((Bw p x 3).2 i).1 h;obtain ⟨_,h2⟩:=OJ h1;cases h3:(j7 p x nd.use.1).2 with
 | false=>rw [Ts h3] at h2;cases h2
 | true=>
  rcases Ds h3 with h4|⟨_,k,h5,h6⟩|⟨h4,_⟩
  . rw [h2] at h4;rcases h4 with h4|h4<;>cases h4
  . exact ⟨k,by rw [<- h5,h2],h6⟩
  . rw [h2] at h4;cases h4
def qCB{x:iM}(h:i∈sU p x 4):∃ k:Nat,i=(k:Int)/\k < p.funcs.length:=by
 obtain ⟨nd,_,h1⟩:=((Bw p x 4).2 i).1 h;obtain ⟨_,h2⟩:=OJ h1;cases h3:(j7 p x nd.use.1).2 with
 | false=>rw [Ts h3] at h2;cases h2
 | true=>
  rcases Ds h3 with h4|⟨h4,_⟩|⟨_,k,h5,h6⟩
  . rw [h2] at h4;rcases h4 with h4|h4<;>cases h4
  . rw [h2] at h4;cases h4
  . exact ⟨k,by rw [<- h5,h2],h6⟩
def EI(p:jc)(j k:Nat):Prop:=∃ x,p.funcs[j]?=some x/\(k:Int)∈sU p x 4
def glo(p:jc)(j g:Nat):Prop:=∃ x,p.funcs[j]?=some x/\(g:Int)∈sU p x 3
inductive zQ(p:jc):Nat->Nat->Prop
 | refl (i:Nat):zQ p i i
 | step {i k j:Nat}:EI p i k->zQ p k j->zQ p i j
structure Dl(p:jc)(i:Nat)(F G F' G':List Bool):Prop where
 lenF:F'.length=F.length
 lenG:G'.length=G.length
 ag:∀ j:Nat,F[j]?=some true->F'[j]?=some true
 ai:∀ j:Nat,G[j]?=some true->G'[j]?=some true
 hit:F'[i]?=some true
 new:∀ j:Nat,F'[j]?=some true->F[j]?=some true\/(zQ p i j/\(∀ k:Nat,EI p j k->F'[k]?=some true)/\∀ g:Nat,glo p j g->G'[g]?=some true)
 aj:∀ g:Nat,G'[g]?=some true->G[g]?=some true\/∃ j:Nat,F'[j]?=some true/\F[j]?≠some true/\glo p j g
structure uL(p:jc)(l:iG)(F G F' G':List Bool):Prop where
 lenF:F'.length=F.length
 lenG:G'.length=G.length
 ag:∀ j:Nat,F[j]?=some true->F'[j]?=some true
 ai:∀ j:Nat,G[j]?=some true->G'[j]?=some true
 hit:∀ k:Nat,(k:Int)∈l->F'[k]?=some true
 new:∀ j:Nat,F'[j]?=some true->F[j]?=some true\/((∃ k:Nat,(k:Int)∈l/\zQ p k j)/\(∀ k:Nat,EI p j k->F'[k]?=some true)/\∀ g:Nat,glo p j g->G'[g]?=some true)
 aj:∀ g:Nat,G'[g]?=some true->G[g]?=some true\/∃ j:Nat,F'[j]?=some true/\F[j]?≠some true/\glo p j g
def uL.nil(p:jc)(F G:List Bool):uL p [] F G F G:=⟨rfl,rfl,λ_ h=>h,λ_ h=>h,λk h=>(by cases h),λj h=>.inl h,λg h=>.inl h⟩
def uL.snoc{l:iG}{F2 G2 F3 G3:List Bool}(h:uL p l F G F2 G2)(r:Dl p k F2 G2 F3 G3):uL p (l++[(k:Int)]) F G F3 G3 where
  lenF:=r.lenF.trans h.lenF
  lenG:=r.lenG.trans h.lenG
  ag j hj:=r.ag j (h.ag j hj)
  ai j hj:=r.ai j (h.ai j hj)
  hit j hj:=by
    rcases aS.1 hj with hj|hj
    . exact r.ag _ (h.hit j hj)
    . rw [aU] at hj
      obtain rfl:j=k:=O
      exact r.hit
  new j hj:=by
    rcases r.new j hj with h1|⟨h1,h2,h3⟩
    . rcases h.new j h1 with h4|⟨⟨k',h5,h6⟩,h7,h8⟩
      . exact .inl h4
      . exact .inr ⟨⟨k',aI _ h5,h6⟩,λk hk=>r.ag _ (h7 k hk),λg hg=>r.ai _ (h8 g hg)⟩
    . exact .inr ⟨⟨k,aF _ (aU.2 rfl),h1⟩,h2,h3⟩
  aj g hg:=by
    rcases r.aj g hg with h1|⟨j,h1,h2,h3⟩
    . rcases h.aj g h1 with h4|⟨j,h4,h5,h6⟩
      . exact .inl h4
      . exact .inr ⟨j,r.ag _ h4,h5,h6⟩
    . exact .inr ⟨j,h1,λh4=>h2 (h.ag _ h4),h3⟩
def zw(G:List Bool)(l:iG):List Bool:=l.foldl (λG i=>G.set i.toNat true) G
def qlO(G:List Bool)(l:iG)(j:Nat):zw G (l++[(j:Int)])=(zw G l).set j true:=by simp [zw,List.foldl_append]
def Th(G:List Bool)(l:iG):(zw G l).length=G.length:=by
 induction l generalizing G with
 | nil=>rfl
 | cons x r ih=>show (zw (G.set x.toNat true) r).length=_;rw [ih];simp
def pF:(G.set j true)[k]?=some true↔(k=j/\j < G.length)\/G[k]?=some true:=by
  rw [List.getElem?_set];by_cases h:j=k
  . subst h
    by_cases hl:j < G.length
    . simp [hl]
    . simp [hl,dh (dR hl)]
  . have:¬ k=j:=λe=>h e.symm
    simp [h,this]
def qm6{l:iG}:∀ {G:List Bool} {g:Nat},(∀ i∈l,∃ k:Nat,i=(k:Int)/\k < G.length)->((zw G l)[g]?=some true↔(g:Int)∈l\/G[g]?=some true):=by
  induction l with
  | nil=>intro G g _;simp [zw]
  | cons x r ih=>
    intro G g hl;obtain ⟨k,rfl,hk⟩:=hl x Mc;show (zw (G.set ((k:Int)).toNat true) r)[g]?=some true↔_;rw [aD,ih (λi hi=>by rw [cD];exact hl i (an _ hi)),pF,aR];constructor
    . rintro (h|⟨h,_⟩|h)
      . exact .inl (.inr h)
      . exact .inl (.inl (by rw [h]))
      . exact .inr h
    . rintro ((h|h)|h)
      . exact .inr (.inl ⟨O,hk⟩)
      . exact .inl h
      . exact .inr (.inr h)
def Dl.at{p:jc}{i:Nat}{F G:List Bool}(h:F.getD i false=true)(hi:i < F.length):Dl p i F G F G:=by
 refine ⟨Z,Z,λ_ h=>h,λ_ h=>h,?_,λj h=>.inl h,λg h=>.inl h⟩;rw [aG,ap hi] at h;rw [ap hi];exact bl some h
def uL.done{i:Nat}{x:iM}(hx:p.funcs[i]?=some x)(hi:i < F.length)(h0:F.getD i false=false)(hg:p.o.length=G.length)(h:uL p (sU p x 4) (F.set i true) (zw G (sU p x 3)) F' G'):Dl p i F G F' G':=by
  have hm:∀ g:Nat,(zw G (sU p x 3))[g]?=some true↔(g:Int)∈sU p x 3\/G[g]?=some true:=λg=>qm6 λj hj=>by
    obtain ⟨k,h1,h2⟩:=qse hj;exact ⟨k,h1,O⟩
  have hF0:F[i]?≠some true:=λe=>by
    rw [aG,e] at h0;cases h0
  have hFi:F'[i]?=some true:=h.ag i (pF.2 (.inl ⟨rfl,hi⟩));refine ⟨h.lenF.trans Ξ,h.lenG.trans (Th _ _),λj hj=>h.ag j (pF.2 (.inr hj)),λj hj=>h.ai j ((hm j).2 (.inr hj)),hFi,λj hj=>?_,λg vP=>?_⟩
  . rcases h.new j hj with h1|⟨⟨k,h1,h2⟩,h3,h4⟩
    . rcases pF.1 h1 with ⟨rfl,_⟩|h1
      . refine .inr ⟨.refl _,λk hk=>?_,λg vP=>?_⟩
        . obtain ⟨y,hy,hk⟩:=hk
          rw [hx] at hy;injection hy with hy;subst hy
          exact h.hit k hk
        . obtain ⟨y,hy,hk⟩:=vP
          rw [hx] at hy;injection hy with hy;subst hy
          exact h.ai g ((hm g).2 (.inl hk))
      . exact .inl h1
    . exact .inr ⟨.step ⟨x,hx,h1⟩ h2,h3,h4⟩
  . rcases h.aj g vP with h1|⟨j,h1,h2,h3⟩
    . rcases (hm g).1 h1 with h1|h1
      . exact .inr ⟨i,hFi,hF0,x,hx,h1⟩
      . exact .inl h1
    . exact .inr ⟨j,h1,λh4=>h2 (pF.2 (.inr h4)),h3⟩
structure FI(s:World)(p:jc)(d bf bn bp bg bc br oF oG bm:Nat)(Ag Af Ac:iE)(ng cg nf cf cc:Nat):Prop where
 xf:iy s bf 0 [.slice (jZ oF) nf nf]
 xn:iy s bn 0 [.slice Ag ng cg,.slice Af nf cf,.map (some bm)]
 xp:iy s bp 0 [.slice Ag ng cg,.slice Af nf cf]
 xg:iy s bg 0 [.slice (jZ oG) ng ng]
 xc:iy s bc 0 [.slice Ac nf cc]
 xr:iy s br 0 [.func (.func 30) #[] #[iT bf,iT bn,iT bp,iT bg,iT bc,iT br]]
 nm:oJ s bm p
 gl:ja s Ag ng cg p.o
 fn:jl d s Af nf cf p.funcs
 cl:re p s Ac nf cc p.funcs
def FI.le(h:FI s p d bf bn bp bg bc br oF oG bm Ag Af Ac ng cg nf cf cc)(hl:Le D s s'):FI s' p d bf bn bp bg bc br oF oG bm Ag Af Ac ng cg nf cf cc:=
 ⟨h.xf.le hl,h.xn.le hl,h.xp.le hl,h.xg.le hl,h.xc.le hl,h.xr.le hl,h.nm.le hl,h.gl.le hl,h.fn.le hl,h.cl.le hl⟩
def Wp(D m:Nat):Prop:=∀ (L:Hl) (s:World) (p:jc) (d bf bn bp bg bc br oF oG bm:Nat) (Ag Af Ac:iE) (ng cg nf cf cc:Nat),FI s p d bf bn bp bg bc br oF oG bm Ag Af Ac ng cg nf cf cc->PV p->∀ (i:Nat) (F G:List Bool),i < nf->F.length=nf->G.length=ng->xR F < m ->
 jU D 30 [iB (i:Int),iT bf,iT bn,iT bp,iT bg,iT bc,iT br] ((oF,cb (qR F) 4)::(oG,cb (qR G) 4)::L) s λv L' _=>v=.tuple #[]/\∃ F' G',L'=(oF,cb (qR F') 4)::(oG,cb (qR G') 4)::L/\Dl p i F G F' G'
def qEy(m:Nat)(ih:∀ e,m=e+1->Wp D e)(hE:FI s p d bf bn bp bg bc br oF oG bm Ag Af Ac ng cg nf cf cc)(hV:PV p){i:Nat}(F G:List Bool)(hi:i < nf)(hFl:F.length=nf)(jF:G.length=ng)(hm:xR F < m):jU D 30 [iB (i:Int),iT bf,iT bn,iT bp,iT bg,iT bc,iT br] ((oF,cb (qR F) 4)::(oG,cb (qR G) 4)::L) s λv L' _=>v=.tuple #[]/\∃ F' G',L'=(oF,cb (qR F') 4)::(oG,cb (qR G') 4)::L/\Dl p i F G F' G':=by
 have l7:=hE.gl.1;have oW:=hE.fn.1;have sn:=hV.2.2.2.1;have hiF:i < F.length:=O
 refine jn (fn:=Tryz.f30) jb Tryz.func30 V Z Tryz.ntmps30 Z (rs:=[]) Z [(0,_),(1,_),(2,_),(3,_),(4,_),(5,_),(6,_)] Z<|Zs<|Sr<|iA (jS Y3 (hE.xf.le (Lr D)) Z) Z<|kb Y2<|iA (lK Y6 hi) Z<|iA (rS 0 Y4 (Sd hiF)) Z<|G2 ?_;refine su Z ?_ ?_<;>intro c1;.have g15:=c1;refine G2 ?_;exact rR [] _ (.nil) Z (Lr D) λ_ iD=>⟨rfl,F,G,rfl,Dl.at g15 hiF⟩
 have g15:=c1;obtain ⟨e,hd⟩:∃ e,m=e+1:=⟨m - 1,O⟩;obtain ⟨b,off,x,B1,m1,d1,B2,m2,d2,B3,m3,d3,rfl,hx,hcx,oP,oO,so,kL⟩:=jl.at_ (hE.fn.le (Lr D)) hi;have ym:=sn x (ax hx);have qp:=u_ hiF g15;refine Zk<|Zt<|Sr<|iA (jS Y3 (hE.xf.le (Lr D)) Z) Z<|kb Y2<|iA (lK Y6 hi) Z<|xS 0 (qR (F.set i true)) Y5 (YS hiF) Z (ZE hiF true) Z<|Nt<|Zs<|Zs<|mr jt 9 Z _ (λ_ h=>h) λs3 h3=>za 0 Z (ku Y3 (hE.xn.le h3) Z) Z<|H1 ?_;refine za 2 Z (nK 1 Y3 (hE.xp.le h3) Z) Z<|H1 ?_;refine za 4 Z (jK Y6 hi) Z<|za 5 Z (ku Y3 Pz Z) Z<|H1 ?_;refine iF 6 V<|Jb Z Tt Z Z Z (f' p d (hE.nm.le h3) Pz Pz Pz ym) ?_;rintro _ _ s4 h4 ⟨rfl,Aw,nw,cw,rfl,hIw⟩;refine ⟨λ_ _ h=>h,?_⟩;have hnw:=hIw.1;have hnw2:=hIw.2.1;have hnw3:=hIw.2.2.1;refine H1 ?_;refine ji V<|Zt<|Zp<|lJ (γ:=Nat×List Bool) (λg=>[(0,_),(4,_),(5,_),(6,_),(25,_),(26,_),(27,iB (g.1:Int))]) (λg=>(oF,cb (qR (F.set i true)) 4)::(oG,cb (qR g.2) 4)::L) (λg tw=>Le D s4 tw/\(g.1<=nw/\g.2=zw G ((sU p x 3).take g.1))) (λg=>nw - g.1) (λ_ _ _ h hl=>⟨h.1.trans hl,h.2⟩) (0,G) (.c6 Z Z Z Z Z Z (.cons Z (.nil _))) Z ⟨Le.refl _,⟨aB _,Z⟩⟩ ?_;intro g s5 I5;obtain ⟨k,Gk⟩:=g;obtain ⟨ko,hGk⟩:=I5.2;simp only at ko hGk;dsimp only;refine J6 ?_ ?_<;>intro c6
 .have hk:k < nw:=O
  obtain ⟨b2,off2,y,rfl,hy,hcy,_⟩:=AU.at_ Pz hk;obtain ⟨j,rfl,hj⟩:=qse (ax hy);have hjg:j < ng:=O
  have hjG:j < Gk.length:=by rw [hGk,Th];omega
  refine G6 ?_;refine iA (lK Y6 hk) Z<|iA (jS Y3 Pz Z) Z<|At Z Z<|Zr<|iA (jS Y3 (hE.xg.le Lc) Z) Z<|kb Y2<|iA (lK Y6 hjg) Z<|xS 1 (qR (Gk.set j true)) Y5 (YS hjG) Z (ZE hjG true) Z<|G4 ?_;refine kq Y3 (jq O O)<|G2 ?_;refine iU ⟨(k+1,Gk.set j true),[],kp,Z,⟨I5.1,⟨Oz,by simp only;rw [wQ hy,qlO,hGk]⟩⟩,Oz⟩
 rw [aK O] at hGk;subst hGk;obtain ⟨b3,off3,x2,Aq,nq,cq,rfl,tY,hcq,hIq⟩:=re.at_ (hE.cl.le Lc) hi;obtain rfl:x=x2:=by rw [hx] at tY;injection tY
 have hnq:=hIq.1;have hnq2:=hIq.2.1;have hnq3:=hIq.2.2.1;refine G7 ?_;refine iA (jS Y3 (hE.xc.le Lc) Z) Z<|kb Y2<|iA (lK Y6 hi) Z<|iA (jS Y3 Pz Z) Z<|G5 ?_;refine lJ (γ:=Nat×List Bool×List Bool) (λg=>[(6,_),(38,_),(39,_),(40,iB (g.1:Int))]) (λg=>(oF,cb (qR g.2.1) 4)::(oG,cb (qR g.2.2) 4)::L) (λg tw=>Le D s5 tw/\(g.1<=nq/\uL p ((sU p x 4).take g.1) (F.set i true) (zw G (sU p x 3)) g.2.1 g.2.2)) (λg=>nq - g.1) (λ_ _ _ h hl=>⟨h.1.trans hl,h.2⟩) (0,F.set i true,zw G (sU p x 3)) (.c4 Z Z Z Z (.nil _)) Z ⟨Le.refl _,⟨aB _,uL.nil _ _ _⟩⟩ ?_;intro g s7 I7;obtain ⟨k,F2,Gq2⟩:=g;obtain ⟨ko,hR⟩:=I7.2;simp only at ko hR;dsimp only;refine J6 ?_ ?_<;>intro c8
 .have hk:k < nq:=O
  obtain ⟨b2,off2,y,rfl,hy,hcy,_⟩:=AU.at_ Pz hk;obtain ⟨j,rfl,hj⟩:=qCB (ax hy);have hjf:j < nf:=O
  have vR:=V' hR.lenF hR.ag;have hF2l:=hR.lenF;have hG2l:=hR.lenG;rw [cD] at hF2l;rw [Th] at hG2l;refine G6 ?_;refine iA (lK Y6 hk) Z<|iA (jS Y3 Pz Z) Z<|At Z Z<|Zr<|iA (jS Y3 (hE.xr.le Lc) Z) Z<|kb Y2<|ub (first:=[]) (captured:=[_,_,_,_,_,_]) Z Z Z (ih e hd _ _ p d bf bn bp bg bc br oF oG bm Ag _ _ ng cg nf cf cc (hE.le (h3.t h4|>.t I5.1|>.t I7.1)) hV j F2 Gq2 hjf O O O) ?_;rintro _ _ s9 h9 ⟨rfl,F3,G3,rfl,hR3⟩;refine G4 ?_;refine kq Y3 (jq O O)<|G2 ?_;refine iU ⟨(k+1,F3,G3),[],kp,Z,⟨Lc,⟨Oz,by simp only;rw [wQ hy];exact hR.snoc hR3⟩⟩,Oz⟩
 rw [aK O] at hR;refine G4 ?_;refine lF [] _ (.inl Z) (.nil) Z Lc λ_ iD=>?_;exact ⟨rfl,F2,Gq2,rfl,hR.done hx hiF g15 O⟩
def trc{D:Nat}:∀ m,Wp D m
 | 0=>λL s p d bf bn bp bg bc br oF oG bm Ag Af Ac ng cg nf cf cc hE hV i F G hi hF hG hm=>O
 | m+1=>λL s p d bf bn bp bg bc br oF oG bm Ag Af Ac ng cg nf cf cc hE hV i F G hi hF hG hm=>qEy (m+1) (λe h=>(show m=e by omega)▸trc m) hE hV F G hi hF hG hm
def qpk(n:Nat):xR (List.replicate n false)=n:=by
 induction n with
 | zero=>rfl
 | succ n ih=>rw [eR,xR,ih];simp;omega
def oX(n:Nat):List.replicate n (Value.bool false)=qR (List.replicate n false):=by simp [qR]
def RN{p:Prop} (h:p:=by
 have:=e3.len;rw [aY O,show i - uJ.length=0 by omega];rfl):p:=h
def RM{p:Prop} (h:p:=by
 rw [aY O,show i - wt.length=0 by omega] at hy;simpa using hy):p:=h
def SO.pub:∀ {d:Nat} {M:Hl} {x:iP} {cs:iz},SO d s M x cs->mI M s->cs.length=5/\ru d s x cs:=by
 intro d;induction d with
 | zero=>exact λh=>h.elim
 | succ d ih=>
  intro M x cs h hp;obtain ⟨e,A1,n1,c1,A2,n2,c2,A3,n3,c3,M1,M2,M3,he,rfl,rfl,h1,⟨k2,m2,rfl,r2,q2⟩,⟨k3,m3,rfl,r3,q3⟩,h4⟩:=h.eq;obtain rfl:d=e:=O
  have row:∀ {A:iE} {n c:Nat} {l:List iP} {css:List iz} {Ms:List Hl},wx 5 s A n c css->kY (SO d s) Ms l css->mI Ms.flatten s->Sl 5 (ru d) s A n c l:=by
   intro A n c l css Ms hr ha hpm;have hl:=ha.len;refine ⟨by rw [hr.1];exact hl.2,hr.2.1,hr.2.2.1,λi y hy=>?_⟩;have zY:i < l.length:=(al.1 hy).1;obtain ⟨wq,u,wr,wt,v,yR,uJ,w,wu,rfl,rfl,rfl,e1,e2,e3,_⟩:=ha.at_ zY;have hy2:v=y:=by
    exact RM
   subst hy2;have hw:(uJ++w::wu)[i]?=some w:=by
    exact RN
   obtain ⟨b,off,pr,tV⟩:=hr.at_ hw;obtain ⟨h5,h6⟩:=ih e2 (Kk hpm u (aF _ Mc));exact ⟨b,off,w,pr,tV,h5,h6⟩
  exact ⟨rfl,A1,n1,c1,A2,n2,c2,A3,n3,c3,rfl,h1.pub hp.left,row r2 q2 hp.right.left,row r3 q3 hp.right.right,h4⟩
def sH.pub{l:List iP}(h:sH d s M A n c l)(hp:mI M s):jo d s A n c l:=by
 obtain ⟨css,Ms,rfl,hr,ha⟩:=h;have hl:=ha.len;refine ⟨by rw [hr.1];exact hl.2,hr.2.1,hr.2.2.1,λi y hy=>?_⟩;have zY:i < l.length:=(al.1 hy).1;obtain ⟨wq,u,wr,wt,v,yR,uJ,w,wu,rfl,rfl,rfl,e1,e2,e3,_⟩:=ha.at_ zY;have hy2:v=y:=by
  exact RM
 subst hy2;have hw:(uJ++w::wu)[i]?=some w:=by
  exact RN
 obtain ⟨b,off,pr,tV⟩:=hr.at_ hw;obtain ⟨h5,h6⟩:=e2.pub (Kk hp u (aF _ Mc));exact ⟨b,off,w,pr,tV,h5,h6⟩
def Cv.pub{l:List iM}(h:Cv d s M A n c l)(hp:mI M s):jl d s A n c l:=by
 obtain ⟨css,Ms,rfl,hr,ha⟩:=h;have hl:=ha.len;refine ⟨by rw [hr.1];exact hl.2,hr.2.1,hr.2.2.1,λi y hy=>?_⟩;have zY:i < l.length:=(al.1 hy).1;obtain ⟨wq,u,wr,wt,v,yR,uJ,w,wu,rfl,rfl,rfl,e1,e2,e3,_⟩:=ha.at_ zY;have hy2:v=y:=by
  exact RM
 subst hy2;have hw:(uJ++w::wu)[i]?=some w:=by
  exact RN
 obtain ⟨b,off,pr,tV⟩:=hr.at_ hw;obtain ⟨A1,n1,c1,A2,n2,c2,A3,n3,c3,q1,q2,q3,q4,q5⟩:=e2;exact ⟨b,off,w,pr,tV,by rw [q1];rfl,A1,n1,c1,A2,n2,c2,A3,n3,c3,q1,q2,q3,q4.pub (Kk hp u (aF _ Mc)),q5⟩
def U'(jF:ja s Ag ng cg p.o)(jX:jl d s Af nf cf p.funcs)(hV:PV p):jU D 32 [.agg #[.slice Ag ng cg,.slice Af nf cf]] L s λv L' s'=>L=L'/\∃ Bg mg eg Bf mf ef,v=.agg #[.slice Bg mg eg,.slice Bf mf ef]/\ja s' Bg mg eg p.o/\jl d s' Bf mf ef p.funcs:=by
 refine (AC.pub (F4 d jF jX hV)).mono ?_;rintro v L1 s1 _ ⟨h1,M1,s2,⟨Bg,mg,eg,Bf,mf,ef,h2,h3,h4⟩,hl,h5⟩;exact ⟨h1,Bg,mg,eg,Bf,mf,ef,h2,h3.le hl,(h4.le hl).pub h5⟩
def jy{α:Type}:List Bool->List α->List α
 | b::B,x::l=>if b=true then x::jy B l else jy B l
 | [],_=>[]
 | _::_,[]=>[]
def CL{α:Type}:∀ {B:List Bool} {l:List α} {k:Nat} {x:α},l[k]?=some x->jy B (l.take (k+1))=jy B (l.take k)++(if B.getD k false=true then [x] else [])
 | [],l,k,x,_=>by simp [jy]
 | b::B,[],k,x,h=>by cases h
 | b::B,y::l,0,x,h=>by
  simp at h;subst h;simp only [fN,List.take_zero,jy,fQ,aC];cases B<;>simp [jy]
 | b::B,y::l,k+1,x,h=>by
  have:=CL (B:=B) (l:=l) (k:=k) (x:=x) Q2;simp only [fN,jy,List.getD_cons_succ];by_cases hb:b=true
  . rw [au hb,au hb,this];rfl
  . rw [ak hb,ak hb,this]
def T4{α:Type}:∀ (B:List Bool) (l:List α),(jy B l).length<=l.length
 | [],l=>by simp [jy]
 | b::B,[]=>by simp [jy]
 | b::B,x::l=>by
  have:=T4 B l;rw [jy];split
  . simp only [aw];omega
  . simp only [aw];omega
def F7{α:Type}{q:α->Bool}:∀ {l:List α} {k j:Nat},j6 q l k=(j:Int)->k<=j/\∃ y,l[j - k]?=some y/\q y=true
  | [],k,j,h=>by rw [j6] at h;omega
  | y::r,k,j,h=>by
    rw [j6] at h;split at h
    . rename_i h1
      have:j=k:=O
      subst this;exact ⟨ay _,y,Ξ,h1⟩
    . obtain ⟨h2,z,h3,h4⟩:=F7 h
      exact ⟨O,z,by rw [show j - k=(j - (k+1))+1 by omega];simpa using h3,h4⟩
def AA{β:Type}:∀ {l:List (iH×β)} {i:Nat} {e:iH×β},(l.map (·.1)).Nodup->l[i]?=some e->l.find? (λy=>decide (y.1=e.1))=some e
 | [],i,e,_,h=>by cases h
 | y::l,0,e,_,h=>by simp at h;subst h;simp
 | y::l,i+1,e,hn,h=>by
  rw [aN,du] at hn;have h1:l[i]?=some e:=by simpa using h
  have mL:¬ y.1=e.1:=λe2=>hn.1 (e2▸aW.2 ⟨e,ax h1,rfl⟩);rw [List.find?_cons_of_neg (by simpa using mL)];exact AA hn.2 h1
def qr9(h:pB p=(0,0)):∃ (mi:Nat) (x:iM),nM p.funcs=(mi:Int)/\p.funcs[mi]?=some x/\((jY p).find? λe=>decide (e.1=mu))=some (mu,((4:Int),(mi:Int))):=by
 have kO:=(An (p:=p) (by rw [h])).1;have h0:¬ nM p.funcs < 0:=by
  intro kZ;rw [pB] at h;split at h
  . rename_i h1;exact h1 (by rw [h])
  split at h
  . rename_i h1;exact h1 (by rw [h])
  first
   | (rw [au kZ] at h;cases h)
   | cases h
 obtain ⟨mi,hmi⟩:=aZ (show 0<=nM p.funcs by omega);obtain ⟨_,x,hx,hq⟩:=F7 (show j6 (λx:iM=>decide (x.name=mu)) p.funcs 0=(mi:Int) from hmi);have uR:x.name=mu:=by simpa using hq
 have hf:=AA kO (CU (p:=p) (k:=mi) (x:=x) (by simpa using hx));rw [uR] at hf;exact ⟨mi,x,hmi,by simpa using hx,hf⟩
def PI(p:jc)(F G:List Bool):Prop:=F.length=p.funcs.length/\G.length=p.o.length/\∃ mi:Nat,nM p.funcs=(mi:Int)/\mi < p.funcs.length/\(∀ j:Nat,F[j]?=some true↔zQ p mi j)/\∀ g:Nat,G[g]?=some true↔∃ j:Nat,F[j]?=some true/\glo p j g
def NO:¬ (List.replicate n false)[j]?=some true:=by
 rw [cU];split<;>simp
def qvI(hm:nM p.funcs=(mi:Int))(hl:mi < p.funcs.length)(h:Dl p mi (List.replicate p.funcs.length false) (List.replicate p.o.length false) F G):PI p F G:=by
  refine ⟨by rw [h.lenF];simp,by rw [h.lenG];simp,mi,hm,hl,λj=>⟨λhj=>?_,λhr=>?_⟩,λg=>⟨λhg=>?_,λ⟨j,h1,h2⟩=>?_⟩⟩
  . rcases h.new j hj with h1|h1
    . exact absurd h1 NO
    . exact h1.1
  . have:∀ i j,zQ p i j->F[i]?=some true->F[j]?=some true:=by
      intro i j hr;induction hr with
      | refl=>exact λh=>h
      | step hc _ ih=>
        intro hi;rcases h.new _ hi with h1|h1
        . exact absurd h1 NO
        . exact ih (h1.2.1 _ hc)
    exact this mi j hr h.hit
  . rcases h.aj g hg with h1|⟨j,h1,_,h2⟩
    . exact absurd h1 NO
    . exact ⟨j,h1,h2⟩
  . rcases h.new j h1 with h3|h3
    . exact absurd h3 NO
    . exact h3.2.2 g h2
def CV(p q:jc):Prop:=((kG p).1≠0/\q=⟨[],[]⟩)\/((kG p).1=0/\∃ F G,PI p F G/\q=⟨jy G p.o,jy F p.funcs⟩)
def qof:ja s none 0 0 []:=⟨rfl,ay _,O,λi x h=>by cases h⟩
def qn9:jl d s none 0 0 []:=⟨rfl,ay _,O,λi x h=>by cases h⟩
def IX{p:Prop} (h:p:=by
 refine iU (jP.mk (b13,b12,βf,βg) [] Lc (.c2 Z Z sk) (List.Perm.trans (jA _ 0) (List.Perm.trans (jA _ 1) (List.Perm.trans (jA _ 3) (jA _ 3)))) Tt)):p:=h
def IW{p:Prop} (h:p:=by
 refine iU (jP.mk (b14,b12,βf,βg) [] Lc (.c2 Z Z sk) (List.Perm.trans (jA _ 0) (List.Perm.trans (jA _ 2) (List.Perm.trans (jA _ 3) (jA _ 3)))) Tt)):p:=h
def IV{p:Prop} (h:p:=by
 refine iU (jP.mk (b12,b13,βf,βg) [] Lc (.c2 Z Z sk) (List.Perm.trans (jA _ 0) (List.Perm.trans (jA _ 1) (List.Perm.trans (jA _ 2) (jA _ 3)))) Tt)):p:=h
def IU{p:Prop} (h:p:=by
 refine iU (jP.mk (b12,b14,βf,βg) [] Lc (.c2 Z Z sk) (List.Perm.trans (jA _ 0) (List.Perm.trans (jA _ 2) (List.Perm.trans (jA _ 2) (jA _ 3)))) Tt)):p:=h
def IT{p:Prop} (h:p:=by
 refine iU (jP.mk (b14,b13,βf,βg) [] Lc (.c2 Z Z sk) (List.Perm.trans (jA _ 0) (List.Perm.trans (jA _ 3) (List.Perm.trans (jA _ 3) (jA _ 3)))) Tt)):p:=h
def IS{p:Prop} (h:p:=by
 refine iU (jP.mk (b13,b14,βf,βg) [] Lc (.c2 Z Z sk) (List.Perm.trans (jA _ 0) (List.Perm.trans (jA _ 3) (List.Perm.trans (jA _ 2) (jA _ 3)))) Tt)):p:=h
def qyt(hG:GP s)(jF:ja s Ag ng cg p.o)(jX:jl d s Af nf cf p.funcs):pQ D 9 [.agg #[.slice Ag ng cg,.slice Af nf cf]] L s λv M' s'=>∀ s2,Le D s' s2->mI M' s2->∃ q,CV p q/\∃ Bg mg eg Bf mf ef,v=.tuple #[.agg #[.slice Bg mg eg,.slice Bf mf ef],.agg #[iB (kG p).1,iB (kG p).2]]/\ja s2 Bg mg eg q.o/\jl d s2 Bf mf ef q.funcs:=by
 have l7:=jF.1;have oW:=jX.1;have hU:qd p:=⟨jF.u,jX.u⟩;refine jn (fn:=Tryz.f9) jb Tryz.func9 V Z Tryz.ntmps9 Z (rs:=[.cell 2 25,.cell 3 30]) Z [(0,_)] Z<|Sr<|kF Y2 λβ1 s1 h1=>jh Z [_,_] Y2 λβ2 s2 h2=>jh Z [_,_] Y2 λβ3 s3 h3=>Nt<|Sr<|iA (iZ 2 [_,_] Y5) Z<|Jc Y3 (qnI Pz d p Pz Pz) ?_;rintro _ _ s4 h4 ⟨rfl,Ac,nc,cc,rfl,hCl⟩;refine G3 ?_;refine jh Z [_] Y2 λt5 s5 h5=>jh Z [_,_] Y2 λt6 s6 h6=>Wt 1 [_] Y9<|Wt 0 [_,_] Y9<|Nt<|Zs<|Sr<|iA (iZ 0 [_,_] Y5) Z<|iA (jB [] [_,_] Y3 Z Z Z) Z<|iA (ui Z Z (sp)) Z<|G2 ?_;refine lL Z ?_ ?_<;>intro c7;.have hb0:(kG p).1≠0:=λh=>c7 Q23;refine Zs<|pM jt 4 Z [3,2] Q4 λs8 h8=>za 0 Z (jB [] [_,_] Y3 Z Z Z) Z<|za 1 Z (iZ 0 [_,_] Y5) Z<|iF 2 V<|Wu Z Tt 3 [_,_] Y9 (sM (lj (lz (nD (jL)))))<|iF 3 V<|Wu Z Tt 2 [_,_] Y9 (sM (lj (lz (nD (jL)))))<|ji V<|G3 ?_;exact rR [_,_,_,_,_] _ (.agg (us:=[_,_]) 3 Z Z Z Z Z (.agg (us:=[_,_]) 2 Z Z Z Z Z (.nil))) Z Lc λ_ iD=>⟨[],rfl,λs2 j5 hp=>⟨⟨[],[]⟩,.inl ⟨hb0,rfl⟩,none,0,0,none,0,0,rfl,qof,qn9⟩⟩
 have g4:=c7;have vK:¬ (kG p).1≠0:=λh=>h g4.1;obtain ⟨p7,zk⟩:=qP.of hU g4.1;have hV:=p7.1;have y8:=hV.1;have A0:=hV.2.1;have sn:=hV.2.2.2.1;have pI:=(An (p:=p) (by rw [p7.2.1])).1;rw [show GD p=p.funcs from ak vK] at hCl;obtain rfl:nf=nc:=by have:=hCl.1;omega
 obtain ⟨mi,xm,hmi,hxm,ze⟩:=qr9 p7.2.1;have hml:=(al.1 hxm).1;refine Zk<|Zt<|Sr<|iA (iZ 4 [_,_] Y5) Z<|Jc Y3 (wP d p Pz Pz pI) ?_;rintro _ _ s8 h8 ⟨rfl,bm,rfl,hM⟩;have hM0:=hM;obtain ⟨es,hMs,hes⟩:=hM0;refine jh Z [_,_,_] Y2 λd9 s9 h9=>Wt 0 [_,_,_] Y9<|G2 ?_;refine Kv (γ:=Nat×Nat×Nat×Nat) (λg=>[(7,.pointer (some ⟨g.1,0,none⟩)),(8,.pointer (some ⟨g.2.1,0,none⟩))]) (λg=>[(g.1,cb [.slice (some ⟨g.2.2.1,0,none⟩) nf nf] 96),(g.2.1,cb [.slice (some ⟨g.2.2.2,0,none⟩) ng ng] 96),(g.2.2.1,cb (qR (List.replicate nf false)) 4),(g.2.2.2,cb (qR (List.replicate ng false)) 4)]) (λg tw=>True) (λ_ _ _ h hl=>h) ?_ ?_
 .refine mr jt 12 Z _ (λ_ h=>h) λkz jM=>H1 ?_;refine za 1 Z (Wd 5 Y5) Z<|H2 ?_;refine za 5 Z (Wd 5 Y5) Z<|H1 ?_;refine Qs 3 7 8 9 V ?_ ?_ ?_ ?_
  .refine mV Z Tt Y5 Q3 O Z ?_;intro βf kh jE;rw [oX];refine xW 7 8 9 V ?_ ?_ ?_
   .refine mV Z Tt Y5 Q3 O Z ?_;intro βg lq kV;rw [oX];refine kA 8 9 V ?_ ?_;.refine ky Z Tt Z [_] Y2 λb14 lG kI=>iF 9 V<|ky Z Tt Z [_] Y2 λb15 lW lQ=>iF 10 V<|Wu Z Tt 1 [_] Y9 (sM (oh (kN (lj (jL)))))<|iF 11 V<|Wu Z Tt 0 [_] Y9 (sM (oh (kN (lj (jL)))))<|ji V ?_;refine iU (jP.mk (b14,b15,βf,βg) [] Lc (.c2 Z Z sk) (List.Perm.trans (jA _ 2) (List.Perm.trans (jA _ 3) (List.Perm.trans (jA _ 2) (jA _ 3)))) Tt)
    refine ky Z Tt Z [_] Y2 λb14 lG kI=>iF 8 V<|ky Z Tt Z [_] Y2 λb15 lW lQ=>iF 10 V<|Wu Z Tt 0 [_] Y9 (sM (oh (kN (lj (jL)))))<|iF 11 V<|Wu Z Tt 1 [_] Y9 (sM (oh (kN (lj (jL)))))<|ji V ?_;refine iU (jP.mk (b15,b14,βf,βg) [] Lc (.c2 Z Z sk) (List.Perm.trans (jA _ 2) (List.Perm.trans (jA _ 3) (List.Perm.trans (jA _ 3) (jA _ 3)))) Tt)
   .refine ky Z Tt Z [_] Y2 λb13 lq kV=>kA 7 9 V ?_ ?_;.refine mV Z Tt Y5 Q3 O Z ?_;intro βg lG kI;rw [oX];refine iF 9 V<|ky Z Tt Z [_] Y2 λb15 lW lQ=>iF 10 V<|Wu Z Tt 2 [_] Y9 (sM (oh (kN (lj (jL)))))<|iF 11 V<|Wu Z Tt 0 [_] Y9 (sM (oh (kN (lj (jL)))))<|ji V ?_;refine iU (jP.mk (b13,b15,βf,βg) [] Lc (.c2 Z Z sk) (List.Perm.trans (jA _ 1) (List.Perm.trans (jA _ 3) (List.Perm.trans (jA _ 2) (jA _ 3)))) Tt)
    refine ky Z Tt Z [_] Y2 λb14 lG kI=>kA 7 10 V ?_ ?_;.refine mV Z Tt Y5 Q3 O Z ?_;intro βg lW lQ;rw [oX];refine X16 ?_;exact IS
    refine Wu Z Tt 1 [_] Y9 (sM (FS (kN (lj (jL)))))<|iF 7 V<|mV Z Tt Y5 Q3 O Z ?_;intro βg lW lQ;rw [oX];refine iF 11 V<|Wu Z Tt 1 [_] Y9 (sM (oh (kN (lj (jL)))))<|ji V ?_;exact IS
   refine ky Z Tt Z [_] Y2 λb13 lq kV=>kA 7 8 V ?_ ?_;.refine mV Z Tt Y5 Q3 O Z ?_;intro βg lG kI;rw [oX];refine iF 8 V<|ky Z Tt Z [_] Y2 λb15 lW lQ=>iF 10 V<|Wu Z Tt 0 [_] Y9 (sM (oh (kN (lj (jL)))))<|iF 11 V<|Wu Z Tt 2 [_] Y9 (sM (oh (kN (lj (jL)))))<|ji V ?_;refine iU (jP.mk (b15,b13,βf,βg) [] Lc (.c2 Z Z sk) (List.Perm.trans (jA _ 1) (List.Perm.trans (jA _ 3) (List.Perm.trans (jA _ 3) (jA _ 3)))) Tt)
   refine ky Z Tt Z [_] Y2 λb14 lG kI=>kA 7 10 V ?_ ?_;.refine mV Z Tt Y5 Q3 O Z ?_;intro βg lW lQ;rw [oX];refine X17 ?_;exact IT
   refine Wu Z Tt 0 [_] Y9 (sM (FS (kN (lj (jL)))))<|iF 7 V<|mV Z Tt Y5 Q3 O Z ?_;intro βg lW lQ;rw [oX];refine iF 11 V<|Wu Z Tt 2 [_] Y9 (sM (oh (kN (lj (jL)))))<|ji V ?_;exact IT
  .refine mV Z Tt Y5 Q3 O Z ?_;intro βg kh jE;rw [oX];refine xW 3 8 9 V ?_ ?_ ?_
   .refine mV Z Tt Y5 Q3 O Z ?_;intro βf lq kV;rw [oX];refine kA 8 9 V ?_ ?_;.refine ky Z Tt Z [_] Y2 λb14 lG kI=>iF 9 V<|ky Z Tt Z [_] Y2 λb15 lW lQ=>iF 10 V<|Wu Z Tt 1 [_] Y9 (sM (oh (kN (lj (jL)))))<|iF 11 V<|Wu Z Tt 0 [_] Y9 (sM (oh (kN (lj (jL)))))<|ji V ?_;refine iU (jP.mk (b14,b15,βf,βg) [] Lc (.c2 Z Z sk) (List.Perm.trans (jA _ 3) (List.Perm.trans (jA _ 3) (List.Perm.trans (jA _ 2) (jA _ 3)))) Tt)
    refine ky Z Tt Z [_] Y2 λb14 lG kI=>iF 8 V<|ky Z Tt Z [_] Y2 λb15 lW lQ=>iF 10 V<|Wu Z Tt 0 [_] Y9 (sM (oh (kN (lj (jL)))))<|iF 11 V<|Wu Z Tt 1 [_] Y9 (sM (oh (kN (lj (jL)))))<|ji V ?_;refine iU (jP.mk (b15,b14,βf,βg) [] Lc (.c2 Z Z sk) (List.Perm.trans (jA _ 3) (List.Perm.trans (jA _ 3) (List.Perm.trans (jA _ 3) (jA _ 3)))) Tt)
   .refine ky Z Tt Z [_] Y2 λb13 lq kV=>kA 3 9 V ?_ ?_;.refine mV Z Tt Y5 Q3 O Z ?_;intro βf lG kI;rw [oX];refine iF 9 V<|ky Z Tt Z [_] Y2 λb15 lW lQ=>iF 10 V<|Wu Z Tt 2 [_] Y9 (sM (oh (kN (lj (jL)))))<|iF 11 V<|Wu Z Tt 0 [_] Y9 (sM (oh (kN (lj (jL)))))<|ji V ?_;refine iU (jP.mk (b13,b15,βf,βg) [] Lc (.c2 Z Z sk) (List.Perm.trans (jA _ 3) (List.Perm.trans (jA _ 2) (List.Perm.trans (jA _ 2) (jA _ 3)))) Tt)
    refine ky Z Tt Z [_] Y2 λb14 lG kI=>iF 3 V<|mV Z Tt Y5 Q3 O Z ?_;intro βf lW lQ;rw [oX];refine X16 ?_;refine iU (jP.mk (b13,b14,βf,βg) [] Lc (.c2 Z Z sk) (List.Perm.trans (jA _ 3) (List.Perm.trans (jA _ 1) (List.Perm.trans (jA _ 2) (jA _ 3)))) Tt)
   refine ky Z Tt Z [_] Y2 λb13 lq kV=>kA 3 8 V ?_ ?_;.refine mV Z Tt Y5 Q3 O Z ?_;intro βf lG kI;rw [oX];refine iF 8 V<|ky Z Tt Z [_] Y2 λb15 lW lQ=>iF 10 V<|Wu Z Tt 0 [_] Y9 (sM (oh (kN (lj (jL)))))<|iF 11 V<|Wu Z Tt 2 [_] Y9 (sM (oh (kN (lj (jL)))))<|ji V ?_;refine iU (jP.mk (b15,b13,βf,βg) [] Lc (.c2 Z Z sk) (List.Perm.trans (jA _ 3) (List.Perm.trans (jA _ 2) (List.Perm.trans (jA _ 3) (jA _ 3)))) Tt)
   refine ky Z Tt Z [_] Y2 λb14 lG kI=>iF 3 V<|mV Z Tt Y5 Q3 O Z ?_;intro βf lW lQ;rw [oX];refine X17 ?_;refine iU (jP.mk (b14,b13,βf,βg) [] Lc (.c2 Z Z sk) (List.Perm.trans (jA _ 3) (List.Perm.trans (jA _ 1) (List.Perm.trans (jA _ 3) (jA _ 3)))) Tt)
  .refine ky Z Tt Z [_] Y2 λb12 kh jE=>xW 3 7 9 V ?_ ?_ ?_
   .refine mV Z Tt Y5 Q3 O Z ?_;intro βf lq kV;rw [oX];refine kA 7 9 V ?_ ?_;.refine mV Z Tt Y5 Q3 O Z ?_;intro βg lG kI;rw [oX];refine iF 9 V<|ky Z Tt Z [_] Y2 λb15 lW lQ=>iF 10 V<|Wu Z Tt 3 [_] Y9 (sM (oh (kN (lj (jL)))))<|iF 11 V<|Wu Z Tt 0 [_] Y9 (sM (oh (kN (lj (jL)))))<|ji V ?_;refine iU (jP.mk (b12,b15,βf,βg) [] Lc (.c2 Z Z sk) (List.Perm.trans (jA _ 1) (List.Perm.trans (jA _ 2) (List.Perm.trans (jA _ 2) (jA _ 3)))) Tt)
    refine ky Z Tt Z [_] Y2 λb14 lG kI=>kA 7 10 V ?_ ?_;.refine mV Z Tt Y5 Q3 O Z ?_;intro βg lW lQ;rw [oX];refine X18 ?_;exact IU
    refine Wu Z Tt 2 [_] Y9 (sM (FS (kN (lj (jL)))))<|iF 7 V<|mV Z Tt Y5 Q3 O Z ?_;intro βg lW lQ;rw [oX];refine iF 11 V<|Wu Z Tt 1 [_] Y9 (sM (oh (kN (lj (jL)))))<|ji V ?_;exact IU
   .refine mV Z Tt Y5 Q3 O Z ?_;intro βg lq kV;rw [oX];refine kA 3 9 V ?_ ?_;.refine mV Z Tt Y5 Q3 O Z ?_;intro βf lG kI;rw [oX];refine iF 9 V<|ky Z Tt Z [_] Y2 λb15 lW lQ=>iF 10 V<|Wu Z Tt 3 [_] Y9 (sM (oh (kN (lj (jL)))))<|iF 11 V<|Wu Z Tt 0 [_] Y9 (sM (oh (kN (lj (jL)))))<|ji V ?_;refine iU (jP.mk (b12,b15,βf,βg) [] Lc (.c2 Z Z sk) (List.Perm.trans (jA _ 2) (List.Perm.trans (jA _ 2) (List.Perm.trans (jA _ 2) (jA _ 3)))) Tt)
    refine ky Z Tt Z [_] Y2 λb14 lG kI=>iF 3 V<|mV Z Tt Y5 Q3 O Z ?_;intro βf lW lQ;rw [oX];refine X18 ?_;refine iU (jP.mk (b12,b14,βf,βg) [] Lc (.c2 Z Z sk) (List.Perm.trans (jA _ 2) (List.Perm.trans (jA _ 1) (List.Perm.trans (jA _ 2) (jA _ 3)))) Tt)
   refine ky Z Tt Z [_] Y2 λb13 lq kV=>kA 3 7 V ?_ ?_
   .refine mV Z Tt Y5 Q3 O Z ?_;intro βf lG kI;rw [oX];refine kA 7 10 V ?_ ?_;.refine mV Z Tt Y5 Q3 O Z ?_;intro βg lW lQ;rw [oX];refine X19 ?_;exact IV
    refine Wu Z Tt 2 [_] Y9 (sM (FS (kN (lj (jL)))))<|iF 7 V<|mV Z Tt Y5 Q3 O Z ?_;intro βg lW lQ;rw [oX];refine iF 11 V<|Wu Z Tt 2 [_] Y9 (sM (oh (kN (lj (jL)))))<|ji V ?_;exact IV
   refine mV Z Tt Y5 Q3 O Z ?_;intro βg lG kI;rw [oX];refine iF 3 V<|mV Z Tt Y5 Q3 O Z ?_;intro βf lW lQ;rw [oX];refine X19 ?_;refine iU (jP.mk (b12,b13,βf,βg) [] Lc (.c2 Z Z sk) (List.Perm.trans (jA _ 1) (List.Perm.trans (jA _ 1) (List.Perm.trans (jA _ 2) (jA _ 3)))) Tt)
  refine ky Z Tt Z [_] Y2 λb12 kh jE=>xW 3 7 8 V ?_ ?_ ?_
  .refine mV Z Tt Y5 Q3 O Z ?_;intro βf lq kV;rw [oX];refine kA 7 8 V ?_ ?_;.refine mV Z Tt Y5 Q3 O Z ?_;intro βg lG kI;rw [oX];refine iF 8 V<|ky Z Tt Z [_] Y2 λb15 lW lQ=>iF 10 V<|Wu Z Tt 0 [_] Y9 (sM (oh (kN (lj (jL)))))<|iF 11 V<|Wu Z Tt 3 [_] Y9 (sM (oh (kN (lj (jL)))))<|ji V ?_;refine iU (jP.mk (b15,b12,βf,βg) [] Lc (.c2 Z Z sk) (List.Perm.trans (jA _ 1) (List.Perm.trans (jA _ 2) (List.Perm.trans (jA _ 3) (jA _ 3)))) Tt)
   refine ky Z Tt Z [_] Y2 λb14 lG kI=>kA 7 10 V ?_ ?_;.refine mV Z Tt Y5 Q3 O Z ?_;intro βg lW lQ;rw [oX];refine X20 ?_;exact IW
   refine Wu Z Tt 0 [_] Y9 (sM (FS (kN (lj (jL)))))<|iF 7 V<|mV Z Tt Y5 Q3 O Z ?_;intro βg lW lQ;rw [oX];refine iF 11 V<|Wu Z Tt 3 [_] Y9 (sM (oh (kN (lj (jL)))))<|ji V ?_;exact IW
  .refine mV Z Tt Y5 Q3 O Z ?_;intro βg lq kV;rw [oX];refine kA 3 8 V ?_ ?_;.refine mV Z Tt Y5 Q3 O Z ?_;intro βf lG kI;rw [oX];refine iF 8 V<|ky Z Tt Z [_] Y2 λb15 lW lQ=>iF 10 V<|Wu Z Tt 0 [_] Y9 (sM (oh (kN (lj (jL)))))<|iF 11 V<|Wu Z Tt 3 [_] Y9 (sM (oh (kN (lj (jL)))))<|ji V ?_;refine iU (jP.mk (b15,b12,βf,βg) [] Lc (.c2 Z Z sk) (List.Perm.trans (jA _ 2) (List.Perm.trans (jA _ 2) (List.Perm.trans (jA _ 3) (jA _ 3)))) Tt)
   refine ky Z Tt Z [_] Y2 λb14 lG kI=>iF 3 V<|mV Z Tt Y5 Q3 O Z ?_;intro βf lW lQ;rw [oX];refine X20 ?_;refine iU (jP.mk (b14,b12,βf,βg) [] Lc (.c2 Z Z sk) (List.Perm.trans (jA _ 2) (List.Perm.trans (jA _ 1) (List.Perm.trans (jA _ 3) (jA _ 3)))) Tt)
  refine ky Z Tt Z [_] Y2 λb13 lq kV=>kA 3 7 V ?_ ?_
  .refine mV Z Tt Y5 Q3 O Z ?_;intro βf lG kI;rw [oX];refine kA 7 10 V ?_ ?_;.refine mV Z Tt Y5 Q3 O Z ?_;intro βg lW lQ;rw [oX];refine X21 ?_;exact IX
   refine Wu Z Tt 1 [_] Y9 (sM (FS (kN (lj (jL)))))<|iF 7 V<|mV Z Tt Y5 Q3 O Z ?_;intro βg lW lQ;rw [oX];refine iF 11 V<|Wu Z Tt 3 [_] Y9 (sM (oh (kN (lj (jL)))))<|ji V ?_;exact IX
  refine mV Z Tt Y5 Q3 O Z ?_;intro βg lG kI;rw [oX];refine iF 3 V<|mV Z Tt Y5 Q3 O Z ?_;intro βf lW lQ;rw [oX];refine X21 ?_;refine iU (jP.mk (b13,b12,βf,βg) [] Lc (.c2 Z Z sk) (List.Perm.trans (jA _ 1) (List.Perm.trans (jA _ 1) (List.Perm.trans (jA _ 3) (jA _ 3)))) Tt)
 intro g kH jG I10;simp only [jC,jD];obtain ⟨b7,b8,oF,oG⟩:=g;dsimp only;refine Sr<|jh Z [_] Y2 λb16 sB tu=>Nt<|Sr<|iA (qZ Z) Z<|Wt 0 [_] Y9<|Nt<|Zs<|sq 5<|sq 7<|sq 10<|uz [] [_,_,_,_,_,_] ?_;intro vD vm hpub17;simp only [jC,jD];have hE:FI vD p d _ _ _ _ _ _ oF oG bm Ag Af Ac ng cg nf cf cc:=⟨hpub17 _ _ _ (an _ (an _ (an _ (an _ Mc)))),hpub17 _ _ _ (an _ (an _ Mc)),hpub17 _ _ _ Mc,hpub17 _ _ _ (an _ (an _ (an _ (an _ (an _ Mc))))),hpub17 _ _ _ (an _ Mc),hpub17 _ _ _ (an _ (an _ (an _ Mc))),hM.le Lc,jF.le Lc,jX.le Lc,hCl.le Lc⟩;refine Zr<|iA (jS Y3 (hE.xr.le (Lr D)) Z) Z<|iA (pU Y4) Z<|iA (nK 2 Y3 (hE.xn.le (Lr D)) Z) Z<|iA (kK (E4 jO.str Pe Z Z Pz) (show (kX es mu).getD (.agg #[iB 0,iB 0])=.agg #[iB 4,iB (mi:Int)] by rw [hes mu,ze];rfl)) Z<|iA (Gc Z Z Z Z Z Z Z Z Z) Z ?_;refine ub (first:=[]) (captured:=[_,_,_,_,_,_]) Z Z Z (trc (nf+1) _ _ p d _ _ _ _ _ _ oF oG bm Ag Af Ac ng cg nf cf cc Pz hV mi (List.replicate nf false) (List.replicate ng false) O Ξ Ξ (by rw [qpk];omega)) ?_;rintro _ _ BO h18 ⟨rfl,F1,G1,rfl,hR⟩;have xD:PI p F1 G1:=qvI hmi hml (by rw [<- oW,<- l7];exact hR);have hF1l:=xD.1;have hG1l:=xD.2.1;refine Nt<|Sr<|jh Z [_,_] Y2 λb19 BP yh=>Nt<|Zs<|Sr<|iA (ku Y3 (hE.xp.le Lc) Z) Z<|Jc Y3 (U' (hE.gl.le Lc) (hE.fn.le Lc) hV) ?_;rintro _ _ yK qT ⟨rfl,Cg,Cmg,Ceg,Cf,Cmf,Cef,rfl,ChG,ChF⟩;refine iA (Gc Z Z Z Z Z Z Z Z Z) Z<|G5 ?_;refine lJ (γ:=Nat×Value×Hl) (λg=>[(1,_),(2,_),(3,_),(7,_),(8,_),(10,_),(44,_),(45,_),(46,iB (g.1:Int))]) (λg=>(b19,cb [g.2.1,.slice none 0 0] 25)::_::_::_::_::_::(g.2.2++L)) (λg tw=>Le D yK tw/\(g.1<=Cmg/\∃ css,Own 84 4 g.2.2 g.2.1 (jy G1 (p.o.take g.1)).length (List.flatten css)/\kJ (λx cs=>cs.length=4/\Dk tw x cs) (jy G1 (p.o.take g.1)) css)) (λg=>Cmg - g.1) (λ_ _ _ h hl=>⟨h.1.trans hl,⟨h.2.1,by obtain ⟨css,q1,q2⟩:=h.2.2;exact ⟨css,q1,q2.mono λ_ _ k=>⟨k.1,k.2.le hl⟩⟩⟩⟩) (0,.slice none 0 0,[]) (.c6 Z Z Z Z Z Z (.c3 Z Z Z (.nil _))) Z ⟨Le.refl _,⟨aB _,[],by cases G1<;>exact Own.nil,by cases G1<;>exact .nil⟩⟩ ?_;intro g AO I21;obtain ⟨k,vo,Mo⟩:=g;obtain ⟨ko,css,hO,lR⟩:=I21.2;simp only at ko hO lR;dsimp only;obtain ⟨Ao,co,rfl,_,_⟩:=Own.slice hO;have hkl:=T4 G1 (p.o.take k);rw [cY] at hkl;refine J6 ?_ ?_<;>intro c22
 .have hk:k < Cmg:=O
  have hnC:=ChG.1;obtain ⟨b,off,x,Ai,ni,ci,rfl,hx,hcx,hix,oI,kL⟩:=ja.at_ (ChG.le I21.1) hk;have hkg:k < ng:=O
  have hkG:k < G1.length:=O
  refine G7 ?_;refine iA (jK Y6 hk) Z<|iA (ku Y3 Pz Z) Z<|jh Z [_,_,_,_] Y2 λb23 s23 h23=>mo Y2<|Wt 0 [_,_,_,_] Y9<|Nt<|Sr<|iA (jS Y3 (hE.xg.le Lc) Z) Z<|kb Y2<|iA (lK Y6 hkg) Z<|iA (rS 3 Y4 (Sd hkG)) Z<|G2 ?_;refine su Z ?_ ?_<;>intro c24;.have zX:=c24;refine G3 ?_;refine iA (iZ 0 [_,_,_,_] Y5) Z<|lx [(_,_)] [_,_,_,_] Y9 λβn s25 h25 p9=>rQ (sz:=4) [_,_,_,_,_,_,_] Mo L Y7 hO (Row.of_cells Pz Z Z) ⟨by simp [Dd];omega,O⟩ Z ?_;intro vq Mq s26 h26 oq;obtain ⟨Avq,pg,rfl,_,_⟩:=Own.slice oq;simp only [jC,jD];refine W0 Y5<|Wt 1 [_,_] Y9<|G4 ?_;refine kq Y3 (jq O O)<|G2 ?_;refine iU ⟨(k+1,.slice Avq ((jy G1 (p.o.take k)).length+1) pg,Mq),[_],kp,Z,⟨Lc,⟨Oz,css++[[iB x.kind,St x.name,iJ x.num,.slice Ai ni ci]],by simp only [bX,bj,cn,aE];rw [CL hx,au zX,ac];exact oq,by simp only;rw [CL hx,au zX];exact Ke (lR.mono λ_ _ k=>⟨k.1,k.2.le Lc⟩) ⟨Z,Ai,ni,ci,Z,hix.le Lc,oI,kL⟩⟩⟩,Oz⟩
  have zX:=c24;refine G4 ?_;refine kq Y3 (jq O O)<|G2 ?_;refine iU ⟨(k+1,_,Mo),[_],kp,Z,⟨Lc,⟨Oz,css,by simp only;rw [CL hx,ak (by rw [zX];decide),aE];exact hO,by simp only;rw [CL hx,ak (by rw [zX];decide),aE];exact lR.mono λ_ _ k=>⟨k.1,k.2.le h23⟩⟩⟩,Oz⟩
 have hnC:=ChG.1;obtain rfl:Cmg=k:=O
 rw [aK O] at hO lR ⊢;refine G7 ?_;refine uz [_,_,_,_,_,_] Mo ?_;intro s23 h23 hpub23;simp only [jC,jD];have hGN:ja s23 Ao (jy G1 p.o).length co (jy G1 p.o):=Own.rows hO hpub23 (lR.mono λ_ _ k=>⟨k.1,k.2.le h23⟩) rfl;obtain ⟨Go,hGo⟩:∃ Go,Go=Ao:=⟨_,rfl⟩;obtain ⟨mg2,hmg2⟩:∃ m,m=(jy G1 p.o).length:=⟨_,rfl⟩;obtain ⟨eg2,heg2⟩:∃ eg,eg=co:=⟨_,rfl⟩;rw [<- hGo,<- hmg2,<- heg2] at hGN ⊢;clear hGo hmg2 heg2 hO lR;refine Zr<|iA (ku Y3 (hE.xp.le Lc) Z) Z<|Jc Y3 (U' (hE.gl.le Lc) (hE.fn.le Lc) hV) ?_;rintro _ _ s24 h24 ⟨rfl,Eg,Emg,Eeg,Ef,Emf,Eef,rfl,EhG,EhF⟩;refine iA (Gc Z Z Z Z Z Z Z Z Z) Z<|G5 ?_;refine lJ (γ:=Nat×Value×Hl) (λg=>[(2,_),(3,_),(7,_),(10,_),(64,_),(65,_),(66,iB (g.1:Int))]) (λg=>(b19,cb [.slice Go mg2 eg2,g.2.1] 25)::_::_::_::_::_::(g.2.2++L)) (λg tw=>Le D s24 tw/\(g.1<=Emf/\∃ css,Own 64 4 g.2.2 g.2.1 (jy F1 (p.funcs.take g.1)).length (List.flatten css)/\kJ (λx cs=>cs.length=4/\AT d tw x cs) (jy F1 (p.funcs.take g.1)) css)) (λg=>Emf - g.1) (λ_ _ _ h hl=>⟨h.1.trans hl,⟨h.2.1,by obtain ⟨css,q1,q2⟩:=h.2.2;exact ⟨css,q1,q2.mono λ_ _ k=>⟨k.1,k.2.le hl⟩⟩⟩⟩) (0,.slice none 0 0,[]) (.c6 Z Z Z Z Z Z (.cons Z (.nil _))) Z ⟨Le.refl _,⟨aB _,[],by cases F1<;>exact Own.nil,by cases F1<;>exact .nil⟩⟩ ?_;intro g s25 I25;obtain ⟨k,vo,Mo⟩:=g;obtain ⟨ko,css,hO,lR⟩:=I25.2;simp only at ko hO lR;dsimp only;obtain ⟨Ao,co,rfl,_,_⟩:=Own.slice hO;have hkl:=T4 F1 (p.funcs.take k);rw [cY] at hkl;refine J6 ?_ ?_<;>intro c26
 .have hk:k < Emf:=O
  have hnE:=EhF.1;obtain ⟨b,off,x,B1,m1,d1,B2,m2,d2,B3,m3,d3,rfl,hx,hcx,oP,oO,so,kL⟩:=jl.at_ (EhF.le I25.1) hk;have hkf:k < nf:=O
  have hkF:k < F1.length:=O
  refine G7 ?_;refine iA (jK Y6 hk) Z<|iA (ku Y3 Pz Z) Z<|jh Z [_,_,_,_] Y2 λb27 s27 h27=>mo Y2<|Wt 0 [_,_,_,_] Y9<|Nt<|Sr<|iA (jS Y3 (hE.xf.le Lc) Z) Z<|kb Y2<|iA (lK Y6 hkf) Z<|iA (rS 2 Y4 (Sd hkF)) Z<|G2 ?_;refine su Z ?_ ?_<;>intro c28;.have zX:=c28;refine G3 ?_;refine iA (iZ 0 [_,_,_,_] Y5) Z<|lx [(_,_)] [_,_,_,_] Y9 λβn s29 h29 p9=>rQ (sz:=4) [_,_,_,_,_,_,_] Mo L Y7 hO (Row.of_cells Pz Z Z) ⟨by simp [Db];omega,O⟩ Z ?_;intro vq Mq s30 h30 oq;obtain ⟨Avq,pg,rfl,_,_⟩:=Own.slice oq;simp only [jC,jD];refine Wb Y5<|Wt 1 [_,_] Y9<|G4 ?_;refine kq Y3 (jq O O)<|G2 ?_;refine iU ⟨(k+1,.slice Avq ((jy F1 (p.funcs.take k)).length+1) pg,Mq),[_],kp,Z,⟨Lc,⟨Oz,css++[[St x.name,.slice B1 m1 d1,.slice B2 m2 d2,.slice B3 m3 d3]],by simp only [bX,bj,cn,aE];rw [CL hx,au zX,ac];exact oq,by simp only;rw [CL hx,au zX];exact Ke (lR.mono λ_ _ k=>⟨k.1,k.2.le Lc⟩) ⟨Z,B1,m1,d1,B2,m2,d2,B3,m3,d3,Z,oP.le Lc,oO.le Lc,so.le Lc,kL⟩⟩⟩,Oz⟩
  have zX:=c28;refine G4 ?_;refine kq Y3 (jq O O)<|G2 ?_;refine iU ⟨(k+1,_,Mo),[_],kp,Z,⟨Lc,⟨Oz,css,by simp only;rw [CL hx,ak (by rw [zX];decide),aE];exact hO,by simp only;rw [CL hx,ak (by rw [zX];decide),aE];exact lR.mono λ_ _ k=>⟨k.1,k.2.le h27⟩⟩⟩,Oz⟩
 have hnE:=EhF.1;obtain rfl:Emf=k:=O
 rw [aK O] at hO lR ⊢;refine G7 ?_;refine iA (iZ 0 [_,_] Y5) Z<|iA (jB [] [_,_] Y3 Z Z Z) Z<|Wt 5 [_,_] Y9<|Wt 4 [_,_] Y9<|G3 ?_;exact rR [_,_,_,_,_,_] _ (.agg (us:=[_,_]) 5 Z Z Z Z Z (.agg (us:=[_,_]) 4 Z Z Z Z Z (.nil))) Z Lc λ_ iD=>⟨Mo,rfl,λs2 j5 hp=>⟨⟨jy G1 p.o,jy F1 p.funcs⟩,.inr ⟨g4.1,F1,G1,xD,rfl⟩,_,_,_,_,_,_,by rw [zk];rfl,hGN.le Lc,Own.rows hO hp (lR.mono λ_ _ k=>⟨k.1,k.2.le Lc⟩) rfl⟩⟩
def qtB(hG:GP s)(d:Nat)(p:jc)(jF:ja s Ag ng cg p.o)(jX:jl d s Af nf cf p.funcs):jU D 9 [.agg #[.slice Ag ng cg,.slice Af nf cf]] L s λv L' s'=>L=L'/\∃ q,CV p q/\∃ Bg mg eg Bf mf ef,v=.tuple #[.agg #[.slice Bg mg eg,.slice Bf mf ef],.agg #[iB (kG p).1,iB (kG p).2]]/\ja s' Bg mg eg q.o/\jl d s' Bf mf ef q.funcs:=AC.pubW (qyt hG jF jX)
def Gw(p:jc)(i:Int):Int:=match p.o[i.toNat]? with
 | some g=>g.num
 | none=>0
def T_{x:jv}(h:p.o[k]?=some x):Gw p (k:Int)=x.num:=by rw [Gw,aD,h]
def nH(p:jc)(f:iM)(x:Ex):Option Int:=
 if x.kind=2 then (if (j7 p f x.name).1.1=3/\zK p (j7 p f x.name).1.2=1 then some (Gw p (j7 p f x.name).1.2) else none)
 else if x.kind=6 then (match x.args with
  | a::_=>if a.kind=1/\(pm x.op 0).1=0 then some (qc x.op a.num 0) else none
  | []=>none)
 else if x.kind=7 then (match x.args with
  | a::b::_=>if a.kind=1 then (if b.kind=1 then (if (pm x.op b.num).1=0 then some (qc x.op a.num b.num) else none) else if x.op=20/\a.num=0 then some 0 else if x.op=21/\a.num≠0 then some 1 else none) else none
  | _=>none)
 else none
def ZJ{a:Ex}(h2:¬ x.kind=2)(h6:x.kind=6)(ha:x.args[0]?=some a):nH p f x=if a.kind=1/\(pm x.op 0).1=0 then some (qc x.op a.num 0) else none:=by
 rw [nH,ak h2,au h6];cases h:x.args with
 | nil=>rw [h] at ha;cases ha
 | cons y r=>rw [h] at ha;simp at ha;subst ha;rfl
def ZK{a b:Ex}(h2:¬ x.kind=2)(h6:¬ x.kind=6)(h7:x.kind=7)(ha:x.args[0]?=some a)(hb:x.args[1]?=some b):nH p f x=if a.kind=1 then (if b.kind=1 then (if (pm x.op b.num).1=0 then some (qc x.op a.num b.num) else none) else if x.op=20/\a.num=0 then some 0 else if x.op=21/\a.num≠0 then some 1 else none) else none:=by
 rw [nH,ak h2,ak h6,au h7];cases h:x.args with
 | nil=>rw [h] at ha;cases ha
 | cons y r=>
  cases r with
  | nil=>rw [h] at hb;cases hb
  | cons z r=>rw [h] at ha hb;simp at ha hb;subst ha;subst hb;rfl
def qLi{c:Int×Int}(hc:c.1=0->c=(0,0)):Value.tuple #[iJ (if c.1=0 then v else 0),.bool (decide (c.1=0/\c.2=0))]=.tuple #[iJ ((if c.1=0 then some v else none:Option Int).getD 0),.bool (if c.1=0 then some v else none:Option Int).isSome]:=by
 by_cases h:c.1=0
 . have:=hc h;simp [this]
 . simp [h]
def U7{k:Int}(h:(pm k y).1=0):pm k y=(0,0):=by
 unfold pm at h ⊢;split at h
 . cases h
 rename_i h1;rw [ak h1];split at h
 . cases h
 rename_i h2;rw [ak h2]
def U0(d:Nat){k o u:Int}(n c:Nat){i:Nat}(xs:List Ex)(hA:j8 d s A n c xs)(a:Ex)(ha:xs[i]?=some a):jU D 169 [iB (i:Int),iT bx] ((bx,cb [iB k,iB o,iJ u,St nm,.slice A n c] 69)::L) s λv L' _=>v=.bool (decide (a.kind=1))/\L'=(bx,cb [iB k,iB o,iJ u,St nm,.slice A n c] 69)::L:=by
 have hi:i < n:=by rw [hA.1];exact (al.1 ha).1
 obtain ⟨e,b,off,y,A',n',c',hd,rfl,hy,hcy,hay,pK,kL⟩:=j8.at_ hA hi;obtain rfl:a=y:=by rw [ha] at hy;injection hy
 refine jn (fn:=f169) jb func169 V Z ntmps169 Z (rs:=[.tmp 3]) Z [(0,_),(1,_)] Z<|lM ?_;refine iA (jK Y6 hi) Z<|W0 Y5<|iA (jS Y3 Pz Z) Z<|G5 ?_;exact rR [] _ (.t1 Z) Z (Lr D) λ_ iD=>qH
def Ht{p:Prop} (h:p:=by
 exact ⟨by rw [hE9];exact qLi U7,rfl⟩):p:=h
def W9{p:Prop} (h:p:=by
 refine lM ?_;exact rR [_,_] L (.tmp Z (.t1 Z)) Z Lc λ_ iD=>tL):p:=h
def W8{p:Prop} (h:p:=by
 refine lM ?_;exact rR [_,_] L (.tmp Z (.t1 Z)) Z Lc λ_ iD=>tL):p:=h
def XY{p:Prop} (h:p:=by
 refine lM ?_;exact rR [_,_,_] L (.tmp Z (.t1 Z)) Z Lc λ_ iD=>tL):p:=h
def Is{p:Prop} (h:p:=by
 intro kH jG;refine X26 ?_;refine ji V<|G4 ?_;exact rR [_,_,_] L (.tmp Z (.t1 Z)) Z Lc λ_ iD=>Ht):p:=h
def Ip{p:Prop} (h:p:=by
 intro lq kV;refine X26 ?_;refine ji V<|G5 ?_;exact rR [_,_,_] L (.tmp Z (.t1 Z)) Z Lc λ_ iD=>Ht):p:=h
def qpK(hM:oJ s bm p)(jF:ja s Ag ng cg p.o)(oP:iO s B1 m1 d1 f.params)(oO:iO s B2 m2 d2 f.locals)(hA:j8 d s A n c x.args)(hl6:x.kind=6->1<=x.args.length)(hl7:x.kind=7->2<=x.args.length):jT D 126 [.agg #[.slice Ag ng cg,.slice Af nf cf,.map (some bm),St f.name,.slice B1 m1 d1,.slice B2 m2 d2,.slice B3 m3 d3],.agg #[iB x.kind,iB x.op,iJ x.num,St x.name,.slice A n c]] L s (.tuple #[iJ ((nH p f x).getD 0),.bool (nH p f x).isSome]):=by
 have l7:=jF.1;have hn9:=hA.1;refine jn (fn:=f126) jb func126 V Z ntmps126 Z (rs:=[.tmp 4,.tmp 5]) Z [(0,_),(1,_)] Z<|Sr<|kF Y2 λβ1 s1 h1=>kF Y2 λβ2 s2 h2=>G6 ?_;refine iA (qZ Z) Z<|MX ?_ ?_<;>intro c3
 .have g2:=c3;refine Sr<|W0 Y5<|iA (iZ 1 [_,_,_] Y5) Z<|Wb Y5<|iA (iZ 1 [_,_,_,_] Y5) Z<|G2 ?_;refine Je Y3 (Gm p Pz Pz Pz) λs4 h4=>G3 ?_;refine jh Z [_,_] Y2 λt5 s5 h5=>Wt 0 [_,_] Y9<|G5 ?_;rcases ii ((j7 p f x.name).1.1=3) with g3|g3
  .have zb:∃ k:Nat,(j7 p f x.name).1.2=(k:Int)/\k < p.o.length:=by
     cases h3:(j7 p f x.name).2 with
     | false=>rw [Ts h3] at g3;cases g3
     | true=>
       rcases Ds h3 with q4|⟨_,q4⟩|⟨q4,_⟩
       . rw [g3] at q4;rcases q4 with q4|q4<;>cases q4
       . exact q4
       . rw [g3] at q4;cases q4
   obtain ⟨gi,hgi,qJ⟩:=zb;obtain ⟨b,off,z,Ai,ni,ci,rfl,hz,hcz,hiz,tX,hnz⟩:=ja.at_ Pz (show gi < ng by omega);have ri:=BE hz;have hgn:=T_ hz;refine G3 ?_;refine iA (kK (v':=.bool false) (rD Z Z) (bF g3)) Z<|rH ?_;refine iA (jK (j:=gi) ⟨Z,(show lk _ _=some (iB (gi:Int)) from by rw [<- hgi];rfl),Z,Z,Z,Z⟩ (show gi < ng by omega)) Z<|G3 ?_;refine iA (jS Y3 Pz Z) Z<|G5 ?_;refine lL Z ?_ ?_<;>intro c6
   .have hE:nH p f x=none:=by rw [nH,au g2,ak];rintro ⟨q1,q2⟩;rw [hgi,ri] at q2;exact c6 q2
    exact XY
   have hE:nH p f x=some z.num:=by rw [nH,au g2,au ⟨g3,by rw [hgi,ri];exact c6⟩,hgi,hgn]
   refine lM ?_;refine iA (jK (j:=gi) ⟨Z,(show lk _ _=some (iB (gi:Int)) from by rw [<- hgi];rfl),Z,Z,Z,Z⟩ (show gi < ng by omega)) Z<|iA (pU Y4) Z<|iA (nK 2 Y3 Pz Z) Z<|G7 ?_;exact rR [_,_,_] L (.tmp Z (.t1 Z)) Z Lc λ_ iD=>tL
  refine G3 ?_;refine iA (kK (v':=.bool true) (rD Z Z) (bN g3)) Z<|xe ?_;have hE:nH p f x=none:=by rw [nH,au g2,ak];rintro ⟨q1,q2⟩;exact g3 q1
  exact XY
 have g2:=c3;refine J6 ?_ ?_<;>intro c4
 .have g6:=c4;have nE:0 < n:=by have:=hl6 g6;omega
  obtain ⟨e,b,off,a,A',n',c',hd,rfl,ha,vO,_,hua,_⟩:=j8.at_ Pz nE;have hE6:=ZJ (p:=p) (f:=f) g2 g6 ha;refine G4 ?_;refine ub (first:=[]) (captured:=[_]) Z Z Z (U0 d n c x.args Pz a ha) ?_;rintro _ _ s5 h5 ⟨rfl,rfl⟩;refine G3 ?_;refine lL Z ?_ ?_<;>intro c6
  .have hE:nH p f x=none:=by rw [hE6,ak (λh=>c6 h.1)]
   exact W8
  have g57:=c6;have hE9:nH p f x=if (pm x.op 0).1=0 then some (qc x.op a.num 0) else none:=by
    rw [hE6];by_cases h:(pm x.op 0).1=0
    . rw [au ⟨g57,h⟩,au h]
    . rw [ak (λk=>h k.2),ak h]
  refine Zk<|Zt<|Zs<|mr jt 14 Z _ (λ_ h=>h) λs7 h7=>H4 ?_;refine za 4 Z (jK (j:=0) Y6 nE) Z<|H1 ?_;refine za 6 Z (nK 2 Y3 Pz Z) Z ?_;refine kA 7 11 V ?_ ?_;.refine Jf Z Tt Z Z Z (Aj hua ⟨Θ,Θ⟩) λs8 h8=>H3 ?_;refine iF 11 V<|ky Z Tt Z [_,_] Y2 λd9 s9 h9=>H1 ?_;refine iF 13 V<|Wu Z Tt 0 [_,_] Y9 (sM (lj (jL)))<|ji V<|Zt<|Zs<|mr jt 6 Z _ (λ_ h=>h) ?_;exact Is
  refine ky Z Tt Z [_,_] Y2 λt8 s8 h8=>iF 7 V<|Jf Z Tt Z Z Z (Aj hua ⟨Θ,Θ⟩) λs9 h9=>H4 ?_;refine iF 13 V<|Wu Z Tt 0 [_,_] Y9 (sM (lj (jL)))<|ji V<|Zt<|Zs<|mr jt 6 Z _ (λ_ h=>h) ?_;exact Is
 have g6:=c4;refine J6 ?_ ?_<;>intro c5
 .have g7:=c5;have nE:0 < n:=by have:=hl7 g7;omega
  have h1n:1 < n:=by have:=hl7 g7;omega
  obtain ⟨e,b0,off,a,A',n',c',hd,rfl,ha,vO,_,hua,_⟩:=j8.at_ Pz nE;obtain ⟨e2,b02,off2,b,A2',n2',oE,yl,lR,hb,p9,_,hub,_⟩:=j8.at_ Pz h1n;injection lR with lR
  injection lR with nG hA4;subst nG;subst hA4;have hE7:=ZK (p:=p) (f:=f) g2 g6 g7 ha hb;refine G4 ?_;refine ub (first:=[]) (captured:=[_]) Z Z Z (U0 d n c x.args Pz a ha) ?_;rintro _ _ s6 h6 ⟨rfl,rfl⟩;refine G3 ?_;refine lL Z ?_ ?_<;>intro c7
  .have hE:nH p f x=none:=by rw [hE7,ak c7]
   exact W8
  rw [au c7] at hE7;refine G6 ?_;refine iA (jK (j:=0) Y6 nE) Z<|iA (pU Y4) Z<|iA (nK 2 Y3 Pz Z) Z<|G7 ?_;refine ub (first:=[]) (captured:=[_]) Z Z Z (U0 d n c x.args Pz b hb) ?_;rintro _ _ s8 h8 ⟨rfl,rfl⟩;refine J3 ?_ ?_<;>intro c9
  .have hE9:nH p f x=if (pm x.op b.num).1=0 then some (qc x.op a.num b.num) else none:=by rw [hE7,au c9]
   refine Zs<|mr jt 15 Z _ (λ_ h=>h) λkH jG=>H5 ?_;refine za 5 Z (jK (j:=1) Y6 h1n) Z<|H1 ?_;refine za 7 Z (nK 2 Y3 Pz Z) Z ?_;refine kA 8 12 V ?_ ?_;.refine Jf Z Tt Z Z Z (Aj hua hub) λkz jM=>H3 ?_;refine iF 12 V<|ky Z Tt Z [_,_] Y2 λb12 kh jE=>H1 ?_;refine iF 14 V<|Wu Z Tt 0 [_,_] Y9 (sM (lj (jL)))<|ji V<|Zt<|Zs<|mr jt 6 Z _ (λ_ h=>h) ?_;exact Ip
   refine ky Z Tt Z [_,_] Y2 λb11 kz jM=>iF 8 V<|Jf Z Tt Z Z Z (Aj hua hub) λkh jE=>H4 ?_;refine iF 14 V<|Wu Z Tt 0 [_,_] Y9 (sM (lj (jL)))<|ji V<|Zt<|Zs<|mr jt 6 Z _ (λ_ h=>h) ?_;exact Ip
  rw [ak c9] at hE7;refine rW 102 (x.op=20/\a.num=0) ?_ ?_
  .refine G5 ?_;refine ld (t:=106) Z ?_ ?_<;>intro nZ;.exact XI
   exact Rx
  intro kH jG;refine mG Z ?_ ?_<;>intro oL
  .have hE:nH p f x=some 0:=by rw [hE7,au oL]
   exact W9
  rw [ak oL] at hE7;refine rW 110 (x.op=21/\a.num≠0) ?_ ?_
  .refine G5 ?_;refine ld (t:=114) Z ?_ ?_<;>intro rI;.refine G7 ?_;refine iU (kB.mk (Lr D) Sb Z (Ff O))
   exact Rx
  intro lq kV;refine mG Z ?_ ?_<;>intro vJ
  .have hE:nH p f x=some 1:=by rw [hE7,au vJ]
   exact W9
  have hE:nH p f x=none:=by rw [hE7,ak vJ]
  refine lw ?_;exact rR [_,_] L (.tmp Z (.t1 Z)) Z Lc λ_ iD=>tL
 have hE:nH p f x=none:=by rw [nH,ak g2,ak g6,ak c5]
 refine lM ?_;exact rR [_,_] L (.tmp Z (.t1 Z)) Z Lc λ_ iD=>tL
mutual
def qS(p:jc)(f:iM):Ex->Ex
 | .mk k o n nm ar=>match nH p f (.mk k o n nm (mH p f ar)) with
  | some v=>.mk 1 0 v [] []
  | none=>.mk k o n nm (mH p f ar)
def mH(p:jc)(f:iM):List Ex->List Ex
 | []=>[]
 | x::r=>qS p f x::mH p f r
end
def Gf(p:jc)(f:iM):∀ l:List Ex,mH p f l=l.map (qS p f)
 | []=>rfl
 | x::r=>by rw [mH,Gf p f r];rfl
def Fb(p:jc)(f:iM)(l:List Ex):(mH p f l).length=l.length:=by rw [Gf,bB]
def Ex.withA(x:Ex)(l:List Ex):Ex:=.mk x.kind x.op x.num x.name l
def Kq(h:nH p f (x.withA (mH p f x.args))=some v):qS p f x=.mk 1 0 v [] []:=by
 cases x;rw [qS];simp only [Ex.withA,Ex.kind,Ex.op,Ex.num,Ex.name,Ex.args] at h;rw [h]
def Ge(h:nH p f (x.withA (mH p f x.args))=none):qS p f x=x.withA (mH p f x.args):=by
 cases x;rw [qS];simp only [Ex.withA,Ex.kind,Ex.op,Ex.num,Ex.name,Ex.args] at h ⊢;rw [h]
def PP:iQ (mc a):=by unfold mc;exact ⟨O,O⟩
def Fw{k x:Int}(hx:iQ x)(hy:iQ y):iQ (qc k x y):=by
  have hX:x.toNat < 4294967296:=by have:=hx.2;omega
  have hY:y.toNat < 4294967296:=by have:=hy.2;omega
  rw [qc];by_cases g0:14<=k\/k=1
  . rw [au g0]
    by_cases h:zI k x y=true
    . rw [au h];exact ⟨Θ,Θ⟩
    . rw [ak h];exact ⟨Θ,Θ⟩
  rw [ak g0];by_cases g2:k=2
  . rw [au g2];exact PP
  rw [ak g2];by_cases g3:k=3
  . rw [au g3];have:=hx.1;have:=hx.2;exact ⟨O,O⟩
  rw [ak g3];by_cases g4:k=4
  . rw [au g4];exact PP
  rw [ak g4];by_cases g5:k=5
  . rw [au g5];exact ⟨gS hx.1 hy.1,Int.lt_of_le_of_lt (gI _ hx.1) hx.2⟩
  rw [ak g5];by_cases g6:k=6
  . rw [au g6]
    rcases Int.lt_or_eq_of_le hy.1 with h5|h5
    . exact ⟨Int.emod_nonneg _ O,Int.lt_trans (Int.emod_lt_of_pos _ h5) hy.2⟩
    . rw [<- h5,Int.emod_zero];exact hx
  rw [ak g6];by_cases g7:k=7
  . rw [au g7]
    have:=Nat.mod_lt (x.toNat <<< y.toNat) (show 0 < 4294967296 by omega);exact ⟨dN _,O⟩
  rw [ak g7];by_cases g8:k=8
  . rw [au g8]
    have:x.toNat >>> y.toNat<=x.toNat:=Nat.shiftRight_le _ _;exact ⟨dN _,O⟩
  rw [ak g8];by_cases g9:k=9
  . rw [au g9]
    have:x.toNat &&& y.toNat<=x.toNat:=Nat.and_le_left;exact ⟨dN _,O⟩
  rw [ak g9];by_cases g10:k=10
  . rw [au g10];exact PP
  rw [ak g10];by_cases g11:k=11
  . rw [au g11];exact PP
  rw [ak g11];by_cases g12:k=12
  . rw [au g12]
    have:x.toNat ||| y.toNat < 2 ^ 32:=Nat.or_lt_two_pow hX hY
    exact ⟨dN _,O⟩
  rw [ak g12];have:x.toNat ^^^ y.toNat < 2 ^ 32:=Nat.xor_lt_two_pow hX hY;exact ⟨dN _,O⟩
def qLj(hg:∀ g∈p.o,iQ g.num)(ha:∀ a∈x.args,iQ a.num)(h:nH p f x=some v):iQ v:=by
  unfold nH at h;split at h
  . split at h
    . injection h with h;subst h
      unfold Gw;split
      . rename_i g hgx;exact hg g (ax hgx)
      . exact ⟨Θ,Θ⟩
    . cases h
  split at h
  . split at h
    . rename_i a r he
      split at h
      . injection h with h;subst h
        exact Fw (ha a (by rw [he];exact cQ ..)) ⟨Θ,Θ⟩
      . cases h
    . cases h
  split at h
  . split at h
    . rename_i a b r he
      have h1:=ha a (by rw [he];exact cQ ..);have h2:=ha b (by rw [he];exact an _ Mc);split at h
      . split at h
        . split at h
          . injection h with h;subst h;exact Fw h1 h2
          . cases h
        split at h
        . injection h with h;subst h;exact ⟨Θ,Θ⟩
        split at h
        . injection h with h;subst h;exact ⟨Θ,Θ⟩
        . cases h
      . cases h
    . cases h
  . cases h
def quw{R:Hl->β->γ->Prop}{P:β->Prop}(hR:∀ M x cs,R M x cs->P x){xs:List β}{css:List γ}(h:kY R Ms xs css):∀ x∈xs,P x:=by
 induction h with
 | nil=>exact λc h=>by cases h
 | cons h1 _ ih=>
   intro c hc;rcases aR.1 hc with rfl|hc
   . exact hR _ _ _ h1
   . exact ih c hc
def tm.u32(h:tm d M A n c xs):∀ x∈xs,iQ x.num:=by
 obtain ⟨css,Ms,R,_,_,h3,_⟩:=h;exact quw (λM x cs h=>by obtain ⟨_,_,_,_,_,_,_,hu,_⟩:=h.eq;exact hu) h3
def qv1{xs:iz}(h:Own e 5 M (.slice A n c) n xs)(hn:0 < n):∃ b ys,A=jZ b/\M=[(b,cb (xs++ys) e)]/\∀ zs:iz,zs.length=xs.length->Own e 5 [(b,cb (zs++ys) e)] (.slice (jZ b) n c) n zs:=by
 generalize hv:Value.slice A n c=v at h;cases h with
 | nil=>injection hv with h1 h2 h3;omega
 | blk b cap n2 xs ys h1 h2 h3 h4=>
  injection hv with e1 e2 e3;subst e1;subst e3;exact ⟨b,ys,rfl,rfl,λzs hz=>.blk b c n zs ys (by rw [hz];exact h1) (by rw [hz];exact h2) h3 h4⟩
def UA{g:α->α}{l wt yR:List α}{v x:α}(h:(l.take k).map g++l.drop k=wt++v::yR)(hk:wt.length=k)(hx:l[k]?=some x):wt=(l.take k).map g/\v=x/\yR=l.drop (k+1):=by
 obtain ⟨hl,rfl⟩:=al.1 hx;rw [aM hl] at h;have iK:((l.take k).map g).length=k:=by rw [bB,cY];omega
 obtain ⟨h1,h2⟩:=List.append_inj h (by rw [iK,hk]);injection h2 with h2 h3
 exact ⟨h1.symm,h2.symm,h3.symm⟩
def Ob{g:α->α}{l:List α}{x:α}(hx:l[k]?=some x):(l.take (k+1)).map g++l.drop (k+1)=(l.take k).map g++g x::l.drop (k+1):=by rw [wQ hx];simp
def qLf:tM prog 126:=⟨_,func126,V,V⟩
def qCJ(X:Hl)(p:jc)(hM:oJ s bm p)(jF:ja s Ag ng cg p.o)(oP:iO s B1 m1 d1 f.params)(oO:iO s B2 m2 d2 f.locals)(hO:tm d M A n c x.args)(hl6:x.kind=6->1<=x.args.length)(hl7:x.kind=7->2<=x.args.length):jU D 126 [.agg #[.slice Ag ng cg,.slice Af nf cf,.map (some bm),St f.name,.slice B1 m1 d1,.slice B2 m2 d2,.slice B3 m3 d3],.agg #[iB x.kind,iB x.op,iJ x.num,St x.name,.slice A n c]] (X++(M++L)) s λv L' _=>v=.tuple #[iJ ((nH p f x).getD 0),.bool (nH p f x).isSome]/\L'=X++(M++L):=
 AC.perm (aO ..) (AC.lend M hO.cb qLf λho=>qpK (hM.le (BC ho)) (jF.le (BC ho)) (oP.le (BC ho)) (oO.le (BC ho)) (hO.pub (qsQ ho)) hl6 hl7) λv L1 s1 ⟨g0,g1⟩=>⟨_,by rw [<- g1];exact aO ..,g0,rfl⟩
def V9(D d:Nat):Prop:=∀ (L:Hl) (s:World) (bm:Nat) (Ag Af:iE) (ng cg nf cf:Nat) (p:jc) (hM:oJ s bm p) (jF:ja s Ag ng cg p.o) (f:iM) (B1 B2 B3:iE) (m1 d1 m2 d2 m3 d3:Nat) (oP:iO s B1 m1 d1 f.params) (oO:iO s B2 m2 d2 f.locals) (M:Hl) (A:iE) (n c:Nat) (xs:List Ex),tm d M A n c xs->pE xs=true->po D 81 [.agg #[.slice Ag ng cg,.slice Af nf cf,.map (some bm),St f.name,.slice B1 m1 d1,.slice B2 m2 d2,.slice B3 m3 d3],.slice A n c] M L s λv M' _=>v=.tuple #[]/\tm d M' A n c (mH p f xs)
def qn3(ih:∀ e,d=e+1->V9 D e)(hM:oJ s bm p)(jF:ja s Ag ng cg p.o)(oP:iO s B1 m1 d1 f.params)(oO:iO s B2 m2 d2 f.locals)(hOX:tm d M A n c xs)(hxv:pE xs=true):jU D 81 [.agg #[.slice Ag ng cg,.slice Af nf cf,.map (some bm),St f.name,.slice B1 m1 d1,.slice B2 m2 d2,.slice B3 m3 d3],.slice A n c] (M++L) s λv L' _=>∃ M',L'=M'++L/\v=.tuple #[]/\tm d M' A n c (mH p f xs):=by
 obtain ⟨css0,Ms0,R0,hO0,rfl,hA0,hn⟩:=hOX;have hgu:∀ g∈p.o,iQ g.num:=λg hg=>(jF.u g hg).1;have hsl:=Own.slice hO0;obtain ⟨A_,c_,hsl1,hsl2,hsl3⟩:=hsl;injection hsl1 with _ _ hsl4
 subst hsl4;rw [am];refine jn (fn:=f81) jb func81 V Z ntmps81 Z (rs:=[]) Z [(0,_),(1,_)] Z<|Sr<|kF Y2 λβ1 s1 h1=>lM ?_;refine lJ (γ:=Nat×Hl×Hl) (λg=>[(1,_),(2,_),(8,_),(9,iB (g.1:Int))]) (λg=>_::(g.2.1++(g.2.2++L))) (λg tw=>Le D s1 tw/\(g.1<=n/\∃ css Ms,Own 69 5 g.2.1 (.slice A n c) n (List.flatten css)/\g.2.2=List.flatten Ms/\kY (OX d) Ms ((xs.take g.1).map (qS p f)++xs.drop g.1) css)) (λg=>n - g.1) (λ_ _ _ h hl=>⟨h.1.trans hl,h.2⟩) (0,R0,Ms0.flatten) (.c4 Z Z Z Z (.nil _)) Z ⟨Le.refl _,⟨aB _,css0,Ms0,hO0,Z,by simpa using hA0⟩⟩ ?_;intro g s2 I2;obtain ⟨k,R,Fo⟩:=g;obtain ⟨ko,css,Ms,hO,hF,nG⟩:=I2.2;simp only at ko hO hF nG;dsimp only;refine J6 ?_ ?_<;>intro c3
 .have hk:k < n:=O
  obtain ⟨b,ys,rfl,rfl,uO⟩:=qv1 hO O;obtain ⟨x,hx⟩:∃ x,xs[k]?=some x:=⟨_,ap O⟩;obtain ⟨wq,u,wr,wt,v,yR,uJ,w0,wu,rfl,hvv,rfl,xO,hxw,vn,lR⟩:=nG.at_ (k:=k) Q27;obtain ⟨hvs1,vS,hvs2⟩:=UA hvv xO hx;obtain rfl:x=v:=vS.symm;obtain ⟨e,A',n',c',hd,uT,hxO,oI,kL⟩:=hxw.eq;have vx:w0.length=5:=by rw [uT];rfl
  have hxv1:=(v7 hxv hx).1;obtain ⟨hxc,hxva⟩:=zz hxv1;have hal:=(Bz hxc).2.2.1;have q6:(x.withA (mH p f x.args)).kind=6->1<=(x.withA (mH p f x.args)).args.length:=λq=>by
    have h1:wa x.kind=1:=by rw [show x.kind=6 from q];rfl
    show 1<=(mH p f x.args).length;rw [Fb];omega
  have q7:(x.withA (mH p f x.args)).kind=7->2<=(x.withA (mH p f x.args)).args.length:=λq=>by
    have h1:wa x.kind=2:=by rw [show x.kind=7 from q];rfl
    show 2<=(mH p f x.args).length;rw [Fb];omega
  obtain ⟨P,hP0⟩:∃ P,P=uJ.flatten:=⟨_,rfl⟩;obtain ⟨Q,hQ0⟩:∃ Q,Q=wu.flatten++ys:=⟨_,rfl⟩;obtain ⟨F1,hF1⟩:∃ F,F=wq.flatten:=⟨_,rfl⟩;obtain ⟨F2,mK⟩:∃ F,F=wr.flatten:=⟨_,rfl⟩;have hPQ:∀ w:iz,P++(w++Q)=(uJ++w::wu).flatten++ys:=λw=>by rw [hP0,hQ0];simp [am]
  have hP:P.length=0+k * 5:=by rw [hP0,qs0 vn,xO,aX]
  have hFF:Fo=F1++(u++F2):=by rw [hF,hF1,mK];simp
  subst hFF;rw [<- hPQ,am,am];simp only [jC,jD];refine lw ?_;refine mv jt 7 Z 2 λs4 h4=>za 0 Z (iZ 0 [_,_,_,_,_,_,_] Y5) Z<|H2 ?_;refine X37 ?_;refine za 5 Z (rS 1 Y4 ((qCG (c:=w0) hP (j:=4) O).trans (by rw [uT];rfl))) Z<|iF 6 V<|Jb Z Tt Z Z Z (AC.mid (_::_::F1) u (F2++L) (ih e hd _ _ bm Ag Af ng cg nf cf p Pz Pz f B1 B2 B3 m1 d1 m2 d2 m3 d3 Pz Pz u A' n' c' x.args hxO hxva)) ?_;rintro _ _ s5 h5 ⟨u2,rfl,rfl,o4⟩;refine ⟨(λx hx _=>zB hx),?_⟩;simp only [ao];refine ji V<|Zt<|Zs<|mv jt 11 Z 2 λs6 h6=>za 0 Z (iZ 0 [_,_,_,_,_,_,_] Y5) Z<|H2 ?_;refine za 3 Z (jK Y6 hk) Z<|za 4 Z (kK (iZ 1 w0 ⟨Z,Z,Z,Z,(qBR hP vx)⟩) (show Value.agg w0.toArray=.agg #[iB x.kind,iB x.op,iJ x.num,St x.name,.slice A' n' c'] by rw [uT])) Z<|iF 5 V ?_;refine Jb Z Tt Z Z Z (qCJ (D:=D) (_::_::F1) (L:=(F2++L)) (bm:=bm) (Ag:=Ag) (Af:=Af) (ng:=ng) (cg:=cg) (nf:=nf) (cf:=cf) p Pz Pz (f:=f) (B1:=B1) (B2:=B2) (B3:=B3) (m1:=m1) (d1:=d1) (m2:=m2) (d2:=d2) (m3:=m3) (d3:=d3) Pz Pz (d:=e) (x:=(x.withA (mH p f x.args))) (M:=u2) (A:=A') (n:=n') (c:=c') o4 q6 q7) ?_;rintro _ _ s7 h7 ⟨rfl,rfl⟩;refine ⟨(λx hx _=>zB hx),?_⟩;simp only [ao];refine H5 ?_;refine ji V<|G6 ?_;refine su Z ?_ ?_<;>intro c8;.obtain ⟨v9,hnum⟩:=ee.1 c8;have hau:∀ a∈(x.withA (mH p f x.args)).args,iQ a.num:=o4.u32;obtain ⟨w9,hw9⟩:∃ w:iz,w=[iB 1,iB 0,iJ v9,St [],.slice none 0 0]:=⟨_,rfl⟩;refine G4 ?_;refine iA (kK (jB [(_,_),(_,_)] [_,_,_,_,_] Y3 Z Z Z) (show Value.agg #[iB 1,iB 0,iJ ((nH p f (x.withA (mH p f x.args))).getD 0),St [],.slice none 0 0]=.agg #[iB 1,iB 0,iJ v9,St [],.slice none 0 0] by rw [hnum];rfl)) Z<|iA (jK Y6 hk) Z<|xS 1 (P++(w9++Q)) Y5 (qBv hP vx) Z (by rw [hw9];exact qpT hP (show 5=w0.length from vx.symm)) Z<|Zn<|Zb<|Zt<|uz (_::_::F1) u2 ?_;intro kH jG _;simp only [ao];rw [show F1++(F2++L)=(F1++F2)++L from (am ..).symm];refine Zr<|kq Y3 (jq O O)<|G2 ?_;refine iU ⟨(k+1,[(b,cb (P++(w9++Q)) 69)],F1++F2),[],kp,Z,⟨Lc,⟨Oz,uJ++w9::wu,wq++[]::wr,by simp only;rw [hPQ];exact uO _ (by simp [vx,hw9]<;>omega),by simp [hF1,mK],by simp only;rw [Ob hx,Kq hnum,<- hvs1,<- hvs2];exact vn.app (.cons (hd▸hw9▸OX.mk (x:=.mk 1 0 v9 [] []) (tm.nil _) (qLj hgu hau hnum) (aB _)) lR)⟩⟩,Oz⟩
  have hnum:nH p f (x.withA (mH p f x.args))=none:=bD.1 (by rw [<- Option.not_isSome,c8];rfl);refine G3 ?_;rw [show F1++(u2++(F2++L))=(F1++(u2++F2))++L from by simp only [am]];refine Zr<|kq Y3 (jq O O)<|G2 ?_;refine iU ⟨(k+1,[(b,cb (P++(w0++Q)) 69)],F1++(u2++F2)),[],kp,Z,⟨Lc,⟨Oz,uJ++w0::wu,wq++u2::wr,by simp only;rw [hPQ];exact uO _ Ξ,by simp [hF1,mK],by simp only;rw [Ob hx,Ge hnum,<- hvs1,<- hvs2];exact vn.app (.cons (hd▸uT▸OX.mk (x:=x.withA (mH p f x.args)) o4 oI kL) lR)⟩⟩,Oz⟩
 obtain rfl:n=k:=O
 rw [aK O,aL O,aE,<- Gf] at nG;refine G4 ?_;refine lF [_] _ (.inl Z) (.nil) Z Lc λ_ iD=>?_;exact ⟨R++Fo,(am ..).symm,rfl,css,Ms,R,hO,by rw [hF],nG,by rw [Fb];exact hn⟩
def WF{D:Nat}:∀ d,V9 D d
 | 0=>λL s bm Ag Af ng cg nf cf p hM jF f B1 B2 B3 m1 d1 m2 d2 m3 d3 oP oO M A n c xs h1 h2=>qn3 (λe h=>O) hM jF oP oO h1 h2
 | d+1=>λL s bm Ag Af ng cg nf cf p hM jF f B1 B2 B3 m1 d1 m2 d2 m3 d3 oP oO M A n c xs h1 h2=>qn3 (d:=d+1) (λe h=>(show d=e by omega)▸WF d) hM jF oP oO h1 h2
mutual
def xA(p:jc)(f:iM):iP->iP
 | .mk k nm es b e=>.mk k nm (mH p f es) (rF p f b) (rF p f e)
def rF(p:jc)(f:iM):List iP->List iP
 | []=>[]
 | x::r=>xA p f x::rF p f r
end
def Dx(p:jc)(f:iM):∀ l:List iP,rF p f l=l.map (xA p f)
 | []=>rfl
 | x::r=>by rw [rF,Dx p f r];rfl
def qHO(p:jc)(f:iM)(x:iP):xA p f x=.mk x.kind x.name (mH p f x.exprs) (rF p f x.body) (rF p f x.els):=by cases x;rfl
def V8(D d:Nat):Prop:=∀ (L:Hl) (s:World) (bm:Nat) (Ag Af:iE) (ng cg nf cf:Nat) (p:jc) (hM:oJ s bm p) (jF:ja s Ag ng cg p.o) (f:iM) (B1 B2 B3:iE) (m1 d1 m2 d2 m3 d3:Nat) (oP:iO s B1 m1 d1 f.params) (oO:iO s B2 m2 d2 f.locals) (M:Hl) (A:iE) (n c:Nat) (xs:List iP) (lv:Nat),sH d s M A n c xs->oC xs lv=true->po D 41 [.agg #[.slice Ag ng cg,.slice Af nf cf,.map (some bm),St f.name,.slice B1 m1 d1,.slice B2 m2 d2,.slice B3 m3 d3],.slice A n c] M L s λv M' s'=>v=.tuple #[]/\sH d s' M' A n c (rF p f xs)
def qzq{g:FuncId}{L0:Hl}{xs:List iP}(h:jU D g args L0 s λv L' s'=>∃ M',L'=M'++L/\v=.tuple #[]/\∀ s2,Le D s' s2->sH d s2 M' A n c xs):jU D g args L0 s λv L' s'=>∃ M',L'=M'++L/\v=.tuple #[]/\sH d s' M' A n c xs:=h.mono λv L' s' _ ⟨M',h1,h2,h3⟩=>⟨M',h1,h2,h3 _ (Le.refl _)⟩
def qLd{x a b c d e f:Nat×Obj}{R R':Hl}(hx:x∈(a::b::c::d::e::f::R).take 6):x∈a::b::c::d::e::f::R':=aI R' (show x∈[a,b,c,d,e,f] from hx)
def qn2(ih:∀ e,d=e+1->V8 D e)(hM:oJ s bm p)(jF:ja s Ag ng cg p.o)(oP:iO s B1 m1 d1 f.params)(oO:iO s B2 m2 d2 f.locals){xs:List iP}(lv:Nat)(hSO:sH d s M A n c xs)(hxv:oC xs lv=true):jU D 41 [.agg #[.slice Ag ng cg,.slice Af nf cf,.map (some bm),St f.name,.slice B1 m1 d1,.slice B2 m2 d2,.slice B3 m3 d3],.slice A n c] (M++L) s λv L' s'=>∃ M',L'=M'++L/\v=.tuple #[]/\∀ s2,Le D s' s2->sH d s2 M' A n c (rF p f xs):=by
 obtain ⟨css,Ms0,rfl,wM,hA0⟩:=hSO;have hn:n=xs.length:=by rw [wM.1];exact hA0.len.2
 have nI:=wM.2.1;have pt:=wM.2.2.1;refine jn (fn:=f41) jb func41 V Z ntmps41 Z (rs:=[]) Z [(0,_),(1,_)] Z<|Sr<|kF Y2 λβ1 s1 h1=>lM ?_;refine lJ (γ:=Nat×Hl) (λg=>[(1,_),(2,_),(6,_),(7,iB (g.1:Int))]) (λg=>_::(g.2++L)) (λg tw=>Le D s1 tw/\(g.1<=n/\∃ Ms,g.2=List.flatten Ms/\kY (SO d tw) Ms ((xs.take g.1).map (xA p f)++xs.drop g.1) css)) (λg=>n - g.1) (λ_ _ _ h hl=>⟨h.1.trans hl,⟨h.2.1,by obtain ⟨Ms,q2,q3⟩:=h.2.2;exact ⟨Ms,q2,q3.mono λ_ _ _ k=>SO.le hl k⟩⟩⟩) (0,Ms0.flatten) (.c4 Z Z Z Z (.nil _)) Z ⟨Le.refl _,⟨aB _,Ms0,Z,by simpa using hA0.mono λ_ _ _ k=>SO.le h1 k⟩⟩ ?_;intro g s2 I2;obtain ⟨k,Fo⟩:=g;obtain ⟨ko,Ms,hF,nG⟩:=I2.2;simp only at ko hF nG;dsimp only;refine J6 ?_ ?_<;>intro c3
 .have hk:k < n:=O
  obtain ⟨x,hx⟩:∃ x,xs[k]?=some x:=⟨_,ap O⟩;obtain ⟨wq,u,wr,wt,v,yR,uJ,w0,wu,rfl,hvv,tW,xO,hxw,vn,lR⟩:=nG.at_ (k:=k) Q27;obtain ⟨hvs1,vS,hvs2⟩:=UA hvv xO hx;obtain rfl:x=v:=vS.symm;obtain ⟨e,A1,n1,c1,A2,n2,c2,A3,n3,c3,M1,M2,M3,hd,uT,rfl,hxO,hxB,hxE,kL⟩:=hxw.eq;have hw:css[k]?=some w0:=by
    have:=vn.len;rw [tW,aY O,show k - uJ.length=0 by omega];rfl
  obtain ⟨b,off,rfl,hcx⟩:=wM.at_ hw;rw [uT] at hcx;obtain ⟨hvx1,_⟩:=DO hxv hx;obtain ⟨_,_,uU,hxb,tZ⟩:=wY hvx1;obtain ⟨F1,hF1⟩:∃ F,F=wq.flatten:=⟨_,rfl⟩;obtain ⟨F2,mK⟩:∃ F,F=wr.flatten:=⟨_,rfl⟩;have hFF:Fo=F1++((M1++(M2++M3))++F2):=by rw [hF,hF1,mK];simp
  subst hFF;rw [show (F1++((M1++(M2++M3))++F2))++L=F1++(M1++(M2++(M3++(F2++L)))) from by simp only [am]];refine lw ?_;refine mv jt 7 Z 1 λs4 h4=>za 0 Z (iZ 0 [_,_,_,_,_,_,_] Y5) Z<|H2 ?_;refine X37 ?_;refine za 5 Z (nK 2 Y3 Pz Z) Z<|iF 6 V<|Jb Z Tt Z Z Z (AC.mid (_::F1) M1 (M2++(M3++(F2++L))) (WF e _ _ bm Ag Af ng cg nf cf p Pz Pz f B1 B2 B3 m1 d1 m2 d2 m3 d3 Pz Pz M1 A1 n1 c1 x.exprs hxO uU)) ?_;rintro _ _ s5 h5 ⟨N1,rfl,rfl,oQ⟩;refine ⟨(λx hx _=>GM hx),?_⟩;simp only [ao];rw [show F1++(N1++(M2++(M3++(F2++L))))=(F1++N1)++(M2++(M3++(F2++L))) from (am ..).symm];refine ji V<|Zt<|Zs<|mv jt 7 Z 1 λs6 h6=>za 0 Z (iZ 0 [_,_,_,_,_,_,_] Y5) Z<|H2 ?_;refine X37 ?_;refine za 5 Z (nK 3 Y3 Pz Z) Z<|iF 6 V<|Jb Z Tt Z Z Z (AC.mid (_::(F1++N1)) M2 (M3++(F2++L)) (ih e hd _ _ bm Ag Af ng cg nf cf p Pz Pz f B1 B2 B3 m1 d1 m2 d2 m3 d3 Pz Pz M2 A2 n2 c2 x.body (lv+1) (hxB.le (h4.t h5|>.t h6)) hxb)) ?_;rintro _ _ s7 h7 ⟨N2,rfl,rfl,o4⟩;refine ⟨(λx hx _=>GM hx),?_⟩;simp only [ao];rw [show (F1++N1)++(N2++(M3++(F2++L)))=((F1++N1)++N2)++(M3++(F2++L)) from (am ..).symm];refine ji V<|Zt<|mv jt 7 Z 1 λs8 h8=>za 0 Z (iZ 0 [_,_,_,_,_,_,_] Y5) Z<|H2 ?_;refine X37 ?_;refine za 5 Z (nK 4 Y3 Pz Z) Z<|iF 6 V<|Jb Z Tt Z Z Z (AC.mid (_::((F1++N1)++N2)) M3 (F2++L) (ih e hd _ _ bm Ag Af ng cg nf cf p Pz Pz f B1 B2 B3 m1 d1 m2 d2 m3 d3 Pz Pz M3 A3 n3 c3 x.els (lv+1) (hxE.le (h4.t h5|>.t h6|>.t h7|>.t h8)) tZ)) ?_;rintro _ _ s9 h9 ⟨N3,rfl,rfl,hu3⟩;refine ⟨(λx hx _=>GM hx),?_⟩;simp only [ao];rw [show ((F1++N1)++N2)++(N3++(F2++L))=(F1++((N1++(N2++N3))++F2))++L from by simp only [am]];refine ji V<|Zb<|Zt<|Zr<|kq Y3 (jq O O)<|G2 ?_;refine iU ⟨(k+1,F1++((N1++(N2++N3))++F2)),[],kp,Z,⟨Lc,⟨Oz,wq++(N1++(N2++N3))::wr,by simp [hF1,mK],by simp only;rw [Ob hx,<- hvs1,<- hvs2,tW];exact (vn.mono λ_ _ _ k=>SO.le Lc k).app (.cons (hd▸uT▸qHO p f x▸SO.mk (x:=.mk x.kind x.name (mH p f x.exprs) (rF p f x.body) (rF p f x.els)) oQ (o4.le (h8.t h9)) Pz kL) (lR.mono λ_ _ _ k=>SO.le Lc k))⟩⟩,Oz⟩
 obtain rfl:n=k:=O
 rw [aK O,aL O,aE,<- Dx] at nG;refine G4 ?_;refine lF [_] _ (.inl Z) (.nil) Z Lc λ_ iD=>?_;exact ⟨Fo,rfl,rfl,λs2 j5=>⟨css,Ms,hF,wM.le Lc,nG.mono λ_ _ _ k=>SO.le Lc k⟩⟩
def fds{D:Nat}:∀ d,V8 D d
 | 0=>λL s bm Ag Af ng cg nf cf p hM jF f B1 B2 B3 m1 d1 m2 d2 m3 d3 oP oO M A n c xs lv h1 h2=>qzq (qn2 (λe h=>O) hM jF oP oO lv h1 h2)
 | d+1=>λL s bm Ag Af ng cg nf cf p hM jF f B1 B2 B3 m1 d1 m2 d2 m3 d3 oP oO M A n c xs lv h1 h2=>qzq (qn2 (λe h=>(show d=e by omega)▸fds d) hM jF oP oO lv h1 h2)
end
end Go.Proofs.YtemgonlhniicbaaGreatDoor
