/- Part 4. -/
import Derived.Test.YtapeaicongaggaaGreatDoorQ41z3
import Derived.Lib.SmallJoins
import Derived.Shelf.Slices.Empties2
set_option linter.unusedVariables false
set_option linter.defProp false
set_option linter.unusedSimpArgs false
set_option linter.unnecessarySimpa false
set_option maxRecDepth 100000
set_option maxHeartbeats 8000000
namespace Go.Proofs.YtapeaicongaggaaGreatDoor
open Go Go.RowKit Go.Proofs.Tryz
def aM:=@List.getD_eq_getElem?_getD
def cn:=@List.drop_zero
def cJ:=@List.length_replicate
def cR:=@List.length_set
def du:=@List.getElem?_mapIdx
def dA:=@Array.getElem?_setIfInBounds_self
def dC:=@Bool.and_true
def dE:=@Option.map_eq_some_iff
def dG:=@Lib.size_eq
def ec:=@Option.isSome_iff_exists
def ei:=@decide_eq_false_iff_not
def eE:=@Option.isSome_map
def eL:=@Lib.decDigits_length
def eR:=@List.perm_middle
def fy:=@Bool.true_and
def fF:=@List.mem_iff_getElem
def fG:=@Array.size_replicate
def fM:=@UInt8.toNat_inj
def fN:=@List.mem_filter
def fR:=@List.length_pos_iff
def fW:=@getElem!_pos
def fX:=@Lib.run_unsafeSliceData_nil
def gz:=@not_false_eq_true
def gA:=@Lib.parseUintB_le
def gM:=@Option.bind_some
def gR:=@Nat.sub_zero
def gS:=@Bool.true_or
def ic:=@Array.getElem?_toList
def ie:=@List.length_filter_le
def ig:=@List.Perm.append_left
def io:=@List.nodup_nil
def iq:=@List.count_le_length
def iE:=@dif_neg
variable{l i tx:List UInt8}{s s' w s0 W:World}{D n ty b k e m p d ti0 jr n1 c1 tp ck j:Nat}{A Ad A1 A2 Ax Bx Ox:OAdr9}{c:UInt8}{r:List (Int×Nat×List UInt8×Int)}{x:Int×Nat×List UInt8×Int}{iP ws R:List (List UInt8)}{P:Program}{x0 x1 x2:Nat×Obj}{ts:Array TypeId}{L M R' K L':Hl}{af:Array Edge}{v vw v0 vr vl:Value}{o:List UInt8×Int×Int×Int}{ti:TI}{fz:Nat×Nat}{xs ys zs:LVal9}{iS nm:String}{y:Operand}{a:Int}{Q:qd}{w2 w1:LInt9}{ik:IntKind}{yo:Bool}{fn:Func}
section
attribute [local irreducible] JC JO JA JB lZ mF mM AC fill iH QE Ev mq
variable(L:Hl)(s:World){l:LInt9}{t:l7}
def uA(t:l7)(l:LInt9)(i:List UInt8):lj:=⟨l++List.replicate (t.cells.toNat - l.length) 0,0,0,0,0,0,i,[],0,0⟩
def sO(t:l7)(l:LInt9)(i:List UInt8):lj×Int×Int:=if (sH t l i).1≠0 then (Bw,(sH t l i).1,(sH t l i).2) else (uA t l i,0,0)
def qsD{s:World}{bc N:Nat}(hp:iH s bc 0 (wv l++(List.replicate N (Value.int .u32 0)).drop l.length))(hu:∀ x∈l,iY x)(h:l.length<=N)(hN:N<=65536):lV s (j6 bc) N N (l++List.replicate (N - l.length) 0):=by
 have e:wv l++(List.replicate N (Value.int .u32 0)).drop l.length=wv (l++List.replicate (N - l.length) 0)++[]:=by simp [wv]
 rw [e] at hp;have hl:(l++List.replicate (N - l.length) 0).length=N:=by simp;omega
 have:=qsC (cc:=N) hp (λx hx=>by
  rcases aU.1 hx with h1|h1
  . exact hu x h1
  . obtain ⟨_,rfl⟩:=dQ.1 h1;exact uT) (by rw [hl];simp) O
 rwa [hl] at this
def qsl(h:(oI t).1≠0):sO t l i=(Bw,(oI t).1,(oI t).2):=by simp [sO,sH,h]
def qpd(h:(oI t).1=0)(h1:t.cells < (l.length:Int)):sO t l i=(Bw,3,-2):=by simp [sO,sH,h,h1]
def qvg(h:(oI t).1=0)(h1:¬ t.cells < (l.length:Int))(h2:400000 < i.length):sO t l i=(Bw,3,-3):=by simp [sO,sH,h,h1,h2]
def qvh(h:(oI t).1=0)(h1:¬ t.cells < (l.length:Int))(h2:¬ 400000 < i.length):sO t l i=(uA t l i,0,0):=by simp [sO,sH,h,h1,h2]
def qyh(h:(sH t l i).1≠0):sO t l i=(Bw,(sH t l i).1,(sH t l i).2):=by simp [sO,h]
def Xv(h:(sH t l i).1=0):sO t l i=(uA t l i,0,0):=by simp [sO,h]
def qBB(h:(sH t l i).1=0):(oI t).1=0/\(l.length:Int)<=t.cells/\i.length<=400000:=by
 unfold sH at h;split at h
 . contradiction
 split at h
 . exact absurd h Dc
 split at h
 . exact absurd h Dc
 rename_i h1 h2 h3;exact ⟨by simpa using h1,by omega,by omega⟩
def qpc(hG:yB t)(hl:(l.length:Int)<=t.cells)(hi:i.length<=400000)(hu:∀ x∈l,iY x):rM (uA t l i)/\Cn (uA t l i)/\((uA t l i).cells.length:Int)=t.cells:=by
 have:=hG.cells;have iQ:(uA t l i).cells.length=t.cells.toNat:=by simp [uA];omega
 refine ⟨⟨by omega,λx hx=>?_,uT,uT,uT,uT,uT,by simp [uA],hi,uT⟩,⟨⟨by simp [uA],by simp [uA]⟩,λh=>absurd Z h⟩,by omega⟩;rcases aU.1 hx with h1|h1
 . exact hu x h1
 . obtain ⟨_,rfl⟩:=dQ.1 h1;exact uT
def qHc{t:l7}{l:LInt9}:MU (sO t l i).1:=by
 unfold sO;split
 . exact qJM
 . constructor<;>exact uT
def QQ{p:Prop} (h:p:=by
 refine ⟨[_,_,_,_,_,_],Z,λs2 kb hp=>?_⟩;rw [qvh sd hlong rV];have hw:=qsD (hp bc (wv l++(List.replicate N (Value.int .u32 0)).drop l.length) 22 (by simp)) hu O O;have hNN:t.cells.toNat=N:=by omega
 rw [<- hNN] at hw;exact ⟨_,⟨_,_,_,_,_,_,_,_,_,by rw [<- hNN];rfl,hw,rC.le Lc,lL.nil _ none 0 O⟩,rfl⟩):p:=h
def Ib{p:Prop} (h:p:=by
 refine Wt 4 [_,_,_,_,_,_,_,_,_,_] Y9<|Wt 3 [_,_] Y9<|G3 ?_;exact rR [] _ (.agg (us:=[_,_,_,_,_,_,_,_,_,_]) 4 Z Z Z Z Z (.agg (us:=[_,_]) 3 Z Z Z Z Z (.nil))) Z (h1.t h2|>.t h3|>.t h4|>.t h5|>.t h9|>.t jN|>.t jP|>.t jL) λ_ iL=>QQ):p:=h
def Hv{p:Prop} (h:p:=by
 refine iM 2 V<|mK Z Tt Y5 Q13 O Z λbc kc jL=>za 5 Z (jC [(_,_),(_,_)] [_,_,_,_,_,_,_,_,_,_] Y3 Z Z Z) Z<|iM 7 V<|Wu Z Tt 1 [_,_,_,_,_,_,_,_,_,_] Y9 (sM (lq (kP (jT))))<|jq V<|G6 ?_;refine JV 0 Y7 (hIm.row.le (h1.t h2|>.t h3|>.t h4|>.t h5|>.t h9|>.t jN|>.t jP|>.t jL)) O (by simp) Z Z<|Nt<|Sr<|iI (jh 1 [_,_,_,_,_,_,_,_,_,_] Y5) Z<|iI (jC [] [_,_] Y3 Z Z Z) Z ?_;refine Wt 4 [_,_,_,_,_,_,_,_,_,_] Y9<|Wt 3 [_,_] Y9<|G3 ?_;exact rR [] _ (.agg (us:=[_,_,_,_,_,_,_,_,_,_]) 4 Z Z Z Z Z (.agg (us:=[_,_]) 3 Z Z Z Z Z (.nil))) Z (h1.t h2|>.t h3|>.t h4|>.t h5|>.t h9|>.t jN|>.t jP|>.t jL) λ_ iL=>QQ):p:=h
def Hu{p:Prop} (h:p:=by
 refine za 5 Z (jC [(_,_),(_,_)] [_,_,_,_,_,_,_,_,_,_] Y3 Z Z Z) Z<|iM 6 V<|kA Z Tt Z [_,_,_,_,_,_,_,_,_,_] Y2 λβ12 kc jL=>iM 7 V<|Wu Z Tt 0 [_,_,_,_,_,_,_,_,_,_] Y9 (sM (lq (kP (jT))))<|jq V<|G6 ?_;refine JV 1 Y7 (hIm.row.le (h1.t h2|>.t h3|>.t h4|>.t h5|>.t h9|>.t jN|>.t jP|>.t jL)) O (by simp) Z Z<|Nt<|Sr<|iI (jh 0 [_,_,_,_,_,_,_,_,_,_] Y5) Z<|iI (jC [] [_,_] Y3 Z Z Z) Z<|Wt 4 [_,_,_,_,_,_,_,_,_,_] Y9<|Wt 3 [_,_] Y9 ?_;refine G3 ?_;exact rR [] _ (.agg (us:=[_,_,_,_,_,_,_,_,_,_]) 4 Z Z Z Z Z (.agg (us:=[_,_]) 3 Z Z Z Z Z (.nil))) Z (h1.t h2|>.t h3|>.t h4|>.t h5|>.t h9|>.t jN|>.t jP|>.t jL) λ_ iL=>QQ):p:=h
def qsk(t:l7)(A:OAdr9)(n c:Nat)(hA:ky s A n c t.U)(A1:OAdr9)(n1 c1:Nat)(l:LInt9)(hIm:lV s A1 n1 c1 l)(A2:OAdr9)(n2 c2:Nat)(i:List UInt8)(hIn:lL s A2 n2 c2 i):AN9 D 35 [.agg #[iJ t.cells,.slice A n c],.slice A1 n1 c1,.slice A2 n2 c2] L s λv M' s'=>∀ s2,Le D s' s2->mz M' s2->∃ vs,wQ s2 (sO t l i).1 vs/\v=.tuple #[vs,.agg #[iJ (sO t l i).2.1,iJ (sO t l i).2.2]]:=by
 obtain rfl:=hIm.1;have oB:=hIn.1;have hF:=Sg t;have hu:=hIm.u32;refine jv (fn:=Tryz.f35) jl Tryz.func35 V Z Tryz.ntmps35 Z (rs:=[.cell 6 98,.cell 7 24]) Z [(0,_),(1,_),(2,_)] Z<|Sr<|kH Y2 λβ1 s1 h1=>jp Z [_,_,_,_,_,_,_,_,_,_] Y2 λβ2 s2 h2=>jp Z [_,_] Y2 λβ3 s3 h3=>Nt<|Zs<|Sr<|iI (jh 2 [_,_] Y5) Z<|Je Y3 (Rz D _ Pz) λs4 h4=>jp Z [_,_] Y2 λβ5 s5 h5=>Wt 0 [_,_] Y9<|Nt<|Sr<|iI (jh 0 [_,_] Y5) Z<|iI (jC [] [_,_] Y3 Z Z Z) Z<|iI (sL Z Z (rq)) Z<|G2 ?_;have e5:=h1.t h2|>.t h3|>.t h4|>.t h5;refine lD Z ?_ ?_<;>intro c6;.have rb:(oI t).1≠0:=λh=>c6 ⟨h,hF h⟩;refine Zs<|pm jF 4 Z [2,1] Q3 λs7 h7=>za 0 Z (jC [] [_,_,_,_,_,_,_,_,_,_] Y3 Z Z Z) Z<|za 1 Z (jh 0 [_,_] Y5) Z<|iM 2 V<|Wu Z Tt 2 [_,_,_,_,_,_,_,_,_,_] Y9 (sM (mT (lq (mT (jT)))))<|iM 3 V<|Wu Z Tt 1 [_,_] Y9 (sM (mT (lq (mT (jT)))))<|jq V<|G3 ?_;refine rR [] _ (.agg (us:=[_,_,_,_,_,_,_,_,_,_]) 2 Z Z Z Z Z (.agg (us:=[_,_]) 1 Z Z Z Z Z (.nil))) Z Lc λ_ iL=>?_;refine ⟨[_,_,_,_],Z,λs2 kb hp=>?_⟩;rw [qsl rb];exact ⟨_,wQ.zero _,rfl⟩
 have sd:(oI t).1=0:=c6.1;have hG:=MA hA sd;have xS:=hG.cells;obtain ⟨N,hN⟩:=aX (show 0<=t.cells by omega);refine G8 ?_;refine Wl 3 Y6<|J3 ?_ ?_<;>intro c7;.have hlong:t.cells < (l.length:Int):=c7;refine Sr<|iI (jC [] [_,_,_,_,_,_,_,_,_,_] Y3 Z Z Z) Z<|Je Y3 (vx D _) λs8 h8=>Wt 2 [_,_,_,_,_,_,_,_,_,_] Y9<|Wt 1 [_,_] Y9<|G4 ?_;refine rR [] _ (.agg (us:=[_,_,_,_,_,_,_,_,_,_]) 2 Z Z Z Z Z (.agg (us:=[_,_]) 1 Z Z Z Z Z (.nil))) Z Lc λ_ iL=>?_;refine ⟨[_,_,_,_],Z,λs2 kb hp=>?_⟩;rw [qpd sd hlong];exact ⟨_,wQ.zero _,rfl⟩
 have hlong:¬ t.cells < (l.length:Int):=c7;refine sA ?_ ?_<;>intro c8
 .have rV:400000 < i.length:=by omega
  refine Sr<|iI (jC [] [_,_,_,_,_,_,_,_,_,_] Y3 Z Z Z) Z<|Je Y3 (vx D _) λs9 h9=>Wt 2 [_,_,_,_,_,_,_,_,_,_] Y9<|Wt 1 [_,_] Y9<|G4 ?_;refine rR [] _ (.agg (us:=[_,_,_,_,_,_,_,_,_,_]) 2 Z Z Z Z Z (.agg (us:=[_,_]) 1 Z Z Z Z Z (.nil))) Z Lc λ_ iL=>?_;refine ⟨[_,_,_,_],Z,λs2 kb hp=>?_⟩;rw [qvg sd hlong rV];exact ⟨_,wQ.zero _,rfl⟩
 have rV:¬ 400000 < i.length:=by omega
 refine Zk<|Zt<|Zs<|ma jF 8 Z _ (λ_ h=>h) λs9 h9=>H1 ?_;refine za 1 Z (jD (Wd 3 Y5) (bj (Value.int .i64) hN)) Z<|H1 ?_;refine xF 2 4 6 V ?_ ?_ ?_
 .refine mK Z Tt Y5 Q13 O Z λbc ku jN=>kD 4 6 V ?_ ?_;.refine Jb Z Tt Z Z Z (AC.pub (sj D Pz O)) ?_;rintro _ _ kv jP ⟨rfl,Mi,swi,⟨Ai1,ci1,rfl,_,_,hOi⟩,hswi,hcwi⟩;refine ⟨λ_ _ h=>h,?_⟩;have rC:=Own.bts hOi hcwi;exact Hu
  refine kA Z Tt Z [_,_,_,_,_,_,_,_,_,_] Y2 λβ11 kv jP=>iM 4 V<|Jb Z Tt Z Z Z (AC.pub (sj D Pz O)) ?_;rintro _ _ kc jL ⟨rfl,Mi,swi,⟨Ai1,ci1,rfl,_,_,hOi⟩,hswi,hcwi⟩;refine ⟨λ_ _ h=>h,?_⟩;have rC:=Own.bts hOi hcwi;refine za 5 Z (jC [(_,_),(_,_)] [_,_,_,_,_,_,_,_,_,_] Y3 Z Z Z) Z<|iM 7 V<|Wu Z Tt 0 [_,_,_,_,_,_,_,_,_,_] Y9 (sM (lq (kP (jT))))<|jq V<|G6 ?_;refine JV 1 Y7 (hIm.row.le (e5.t h9|>.t jN|>.t jP|>.t jL)) O (by simp) Z Z<|Nt<|Sr<|iI (jh 0 [_,_,_,_,_,_,_,_,_,_] Y5) Z<|iI (jC [] [_,_] Y3 Z Z Z) Z ?_;exact Ib
 .refine Jb Z Tt Z Z Z (AC.pub (sj D Pz O)) ?_;rintro _ _ ku jN ⟨rfl,Mi,swi,⟨Ai1,ci1,rfl,_,_,hOi⟩,hswi,hcwi⟩;refine ⟨λ_ _ h=>h,?_⟩;have rC:=Own.bts hOi hcwi;refine kD 2 6 V ?_ ?_;.refine mK Z Tt Y5 Q13 O Z ?_;intro bc kv jP;exact Hu
  refine kA Z Tt Z [_,_,_,_,_,_,_,_,_,_] Y2 ?_;intro β11 kv jP;exact Hv
 refine kA Z Tt Z [_,_,_,_,_,_,_,_,_,_] Y2 λβ10 ku jN=>kD 2 4 V ?_ ?_;.refine mK Z Tt Y5 Q13 O Z λbc kv jP=>iM 4 V<|Jb Z Tt Z Z Z (AC.pub (sj D Pz O)) ?_;rintro _ _ kc jL ⟨rfl,Mi,swi,⟨Ai1,ci1,rfl,_,_,hOi⟩,hswi,hcwi⟩;refine ⟨λ_ _ h=>h,?_⟩;have rC:=Own.bts hOi hcwi;refine za 5 Z (jC [(_,_),(_,_)] [_,_,_,_,_,_,_,_,_,_] Y3 Z Z Z) Z<|iM 7 V<|Wu Z Tt 1 [_,_,_,_,_,_,_,_,_,_] Y9 (sM (lq (kP (jT))))<|jq V<|G6 ?_;refine JV 0 Y7 (hIm.row.le (e5.t h9|>.t jN|>.t jP|>.t jL)) O (by simp) Z Z<|Nt<|Sr<|iI (jh 1 [_,_,_,_,_,_,_,_,_,_] Y5) Z<|iI (jC [] [_,_] Y3 Z Z Z) Z ?_;exact Ib
 refine Jb Z Tt Z Z Z (AC.pub (sj D Pz O)) ?_;rintro _ _ kv jP ⟨rfl,Mi,swi,⟨Ai1,ci1,rfl,_,_,hOi⟩,hswi,hcwi⟩;refine ⟨λ_ _ h=>h,?_⟩;have rC:=Own.bts hOi hcwi;exact Hv
def qGU{t:l7}{c:Nat}(hA:ky s A n c t.U)(m:lj){zO zC vu zD zP zE:Nat}(wW:lV s Ax zO zC m.cells)(ta:lL s Bx vu zD m.aa)(xR:lL s Ox zP zE m.output)(hU:MU m)(k:Int):Ap9 D 37 [.agg #[iJ t.cells,.slice A n c],.agg #[.slice Ax zO zC,iO m.r0,iO m.r1,iO m.r2,iO m.r3,iO m.r4,.slice Bx vu zD,.slice Ox zP zE,iJ m.stop,iO m.code],iJ k] L s λv L' s'=>L=L'/\∃ vs,wQ s' (xG t m k).1 vs/\v=.tuple #[vs,iJ (xG t m k).2.1,.agg #[iJ (xG t m k).2.2.1,iJ (xG t m k).2.2.2]]:=AC.pubW (qBp L s t A n c hA m Ax Bx Ox zO zC vu zD zP zE wW ta xR hU k)
def qvf{t:l7}{c:Nat}(hA:ky s A n c t.U){l:LInt9}(hIm:lV s A1 n1 c1 l){n2 c2:Nat}(hIn:lL s A2 n2 c2 i):Ap9 D 35 [.agg #[iJ t.cells,.slice A n c],.slice A1 n1 c1,.slice A2 n2 c2] L s λv L' s'=>L=L'/\∃ vs,wQ s' (sO t l i).1 vs/\v=.tuple #[vs,.agg #[iJ (sO t l i).2.1,iJ (sO t l i).2.2]]:=AC.pubW (qsk L s t A n c hA A1 n1 c1 l hIm A2 n2 c2 i hIn)
def Dz(t:l7)(l:LInt9)(i:List UInt8)(k:Int):List UInt8×Int×Int×Int:=((oK t (uA t l i) k.toNat).1.output,(oK t (uA t l i) k.toNat).1.stop,(oK t (uA t l i) k.toNat).1.code,((oK t (uA t l i) k.toNat).2:Int))
def sP(t:l7)(l:LInt9)(i:List UInt8)(k:Int):(List UInt8×Int×Int×Int)×Int×Int:=
 if (sH t l i).1≠0 then (([],0,0,0),sH t l i) else if k < 0\/50000000 < k then (([],0,0,0),4,-4) else (Dz t l i k,0,0)
def sV(s:World)(o:List UInt8×Int×Int×Int)(v:Value):Prop:=∃ A n c,v=.agg #[.slice A n c,iJ o.2.1,iO o.2.2.1,iJ o.2.2.2]/\lL s A n c o.1
def sV.zero(s:World):sV s ([],0,0,0) (.agg #[.slice none 0 0,iJ 0,iO 0,iJ 0]):=⟨none,0,0,rfl,lL.nil _ _ _ O⟩
def sV.le{s:World}(h:sV s o v)(hl:Le D s s'):sV s' o v:=by
 obtain ⟨A,n,c,h1,h2⟩:=h;exact ⟨A,n,c,h1,h2.le hl⟩
def qsm{s:World}{c:Nat}(hA:ky s A n c t.U)(h1:lV s A1 n1 c1 l)(h:(sH t l i).1=0){k:Int}(hk:¬ (k < 0\/50000000 < k)):
  xG t (sO t l i).1 k=((oK t (uA t l i) k.toNat).1,((oK t (uA t l i) k.toNat).2:Int),0,0):=by
 obtain ⟨h0,h2,h3⟩:=qBB h;obtain ⟨k1,k2,k3⟩:=qpc (MA hA h0) h2 h3 h1.u32;rw [Xv h,qrX (by rw [qBL h0 k1 k2 k3]) hk]
def O7{p:Prop} (h:p:=by
 rw [show sP t l i k=(([],0,0,0),4,-4) by simp only [sP];rw [am (by simpa using hsf),aw oS]];exact ⟨rfl,_,sV.zero _,rfl⟩):p:=h
def Is{p:Prop} (h:p:=by
 refine Wt 3 [_,_,_,_] Y9<|Wt 2 [_,_] Y9<|G4 ?_;exact rR [_,_,_,_,_] L (.agg (us:=[_,_,_,_]) 3 Z Z Z Z Z (.agg (us:=[_,_]) 2 Z Z Z Z Z (.nil))) Z Lc λ_ iL=>O7):p:=h
def qoB(t:l7)(A:OAdr9)(n c:Nat)(hA:ky s A n c t.U)(A1:OAdr9)(n1 c1:Nat)(l:LInt9)(hIm:lV s A1 n1 c1 l)(A2:OAdr9)(n2 c2:Nat)(i:List UInt8)(hIn:lL s A2 n2 c2 i)(k:Int):Ap9 D 13 [.agg #[iJ t.cells,.slice A n c],.slice A1 n1 c1,.slice A2 n2 c2,iJ k] L s λv L' s'=>L=L'/\∃ vs,sV s' (sP t l i k).1 vs/\v=.tuple #[vs,.agg #[iJ (sP t l i k).2.1,iJ (sP t l i k).2.2]]:=by
 refine jv (fn:=Tryz.f13) jl Tryz.func13 V Z Tryz.ntmps13 Z (rs:=[.cell 8 48,.cell 9 24]) Z [(0,_),(1,_),(2,_),(3,_)] Z<|Sr<|kH Y2 λβ1 s1 h1=>jp Z [_,_,_,_] Y2 λβ2 s2 h2=>jp Z [_,_] Y2 λβ3 s3 h3=>Nt<|Sr<|iI (jh 2 [_,_] Y5) Z<|G2 ?_;refine Jc Y3 (qvf _ _ Pz Pz Pz) ?_;rintro _ _ s4 h4 ⟨rfl,_,⟨Aa,na,ca,Ba,nBa,cBa,Oa,nOa,cOa,rfl,hAa,hBa,hOa⟩,rfl⟩;refine G3 ?_;refine jp Z [_,_,_,_,_,_,_,_,_,_] Y2 λβ5 s5 h5=>jp Z [_,_] Y2 λβ6 s6 h6=>Wt 1 [_,_,_,_,_,_,_,_,_,_] Y9<|Wt 0 [_,_] Y9<|Nt<|Zs<|Sr<|iI (jh 0 [_,_] Y5) Z<|iI (jC [] [_,_] Y3 Z Z Z) Z<|iI (sL Z Z (rq)) Z<|G2 ?_;refine lD Z ?_ ?_<;>intro c7;.have rb:(sH t l i).1≠0:=λh=>c7 (by rw [Xv h];exact ⟨rfl,rfl⟩);refine Zs<|pm jF 4 Z [3,2] Q3 λs8 h8=>za 0 Z (jC [] [_,_,_,_] Y3 Z Z Z) Z<|za 1 Z (jh 0 [_,_] Y5) Z<|iM 2 V<|Wu Z Tt 3 [_,_,_,_] Y9 (sM (kX (lq (mT (jT)))))<|iM 3 V<|Wu Z Tt 2 [_,_] Y9 (sM (kX (lq (mT (jT)))))<|jq V<|G3 ?_;refine rR [_,_,_,_,_] L (.agg (us:=[_,_,_,_]) 3 Z Z Z Z Z (.agg (us:=[_,_]) 2 Z Z Z Z Z (.nil))) Z Lc λ_ iL=>?_;rw [show sP t l i k=(([],0,0,0),sH t l i) by simp only [sP];rw [aw rb]];exact ⟨rfl,_,sV.zero _,by rw [qyh rb];rfl⟩
 have hsf:(sH t l i).1=0:=by
   by_cases h:(sH t l i).1=0
   . exact h
   . have hc:=c7.1;rw [qyh h] at hc;exact absurd hc h
 refine G8 ?_;refine kT (t:=28) Z ?_ ?_<;>intro c8
 .refine G6 ?_;have oS:k < 0\/50000000 < k:=by omega
  refine Sr<|iI (jC [] [_,_,_,_] Y3 Z Z Z) Z<|Je Y3 (vx D _) λs9 h9=>?_;exact Is
 refine J7 ?_ ?_<;>intro c9
 .have oS:k < 0\/50000000 < k:=by omega
  refine Sr<|iI (jC [] [_,_,_,_] Y3 Z Z Z) Z<|Je Y3 (vx D _) λku jN=>?_;exact Is
 have rV:¬ (k < 0\/50000000 < k):=by omega
 have hrr:=qsm hA hIm hsf rV;refine Zk<|Zt<|Sr<|iI (jh 4 [_,_] Y5) Z<|iI (jh 1 [_,_,_,_,_,_,_,_,_,_] Y5) Z<|jY Y2<|Jc Y3 (qGU _ _ Pz (sO t l i).1 Pz Pz Pz (qHc) k) ?_;rintro _ _ ku jN ⟨rfl,_,⟨Ar,nr,cr,Br,nBr,cBr,Or,nOr,cOr,rfl,hAr,hBr,hOr⟩,rfl⟩;refine G4 ?_;refine jp Z [_,_,_,_,_,_,_,_,_,_] Y2 λβ11 kv jP=>Wt 0 [_,_,_,_,_,_,_,_,_,_] Y9<|me Y2<|Wt 1 [_,_] Y9<|Nt<|Zs<|Sr<|iI (jh 1 [_,_] Y5) Z<|iI (jC [] [_,_] Y3 Z Z Z) Z<|iI (sL Z Z (rq)) Z<|G2 ?_;refine lD Z ?_ ?_<;>intro nU;.exact absurd (by rw [hrr];exact ⟨rfl,rfl⟩) nU
 refine k8 ?_;refine iI (jC [(_,_),(_,_),(_,_),(_,_)] [_,_,_,_] Y3 Z Z Z) Z<|iI (jC [] [_,_] Y3 Z Z Z) Z<|Wt 4 [_,_,_,_] Y9<|Wt 3 [_,_] Y9<|G3 ?_;refine rR [_,_,_,_,_,_] L (.agg (us:=[_,_,_,_]) 4 Z Z Z Z Z (.agg (us:=[_,_]) 3 Z Z Z Z Z (.nil))) Z Lc λ_ iL=>?_;rw [show sP t l i k=(Dz t l i k,0,0) by simp only [sP];rw [am (by simpa using hsf),am rV]];refine ⟨Z,_,⟨Or,nOr,cOr,?_,?_⟩,Z⟩
 . rw [hrr];rfl
 . rw [hrr] at hOr;exact hOr.le Lc
end
section
def uz(c:Int):List UInt8->List UInt8->List (List UInt8)
 | lA,[]=>[lA]
 | lA,x::r=>if (x.toNat:Int)=c then lA::uz c [] r else uz c (lA++[x]) r
def splitB(c:Int)(l:List UInt8):List (List UInt8):=uz c [] l
def qpb(c:Int)(lA l:List UInt8):(uz c lA l).length<=l.length+1:=by
 induction l generalizing lA with
 | nil=>simp [uz]
 | cons x r ih=>
  simp only [uz];split
  . simp only [au];have:=ih [];omega
  . simp only [au];have:=ih (lA++[x]);omega
def Rs(c:Int)(lA l:List UInt8):∀ p∈uz c lA l,p.length<=lA.length+l.length:=by
  induction l generalizing lA with
  | nil=>intro p hp;simp [uz] at hp;subst hp;simp
  | cons x r ih=>
    intro p hp;simp only [uz] at hp;split at hp
    . rcases aW.1 hp with rfl|hp
      . simp only [au];omega
      . have:=ih [] p hp;simp only [ap,au] at this ⊢;omega
    . have:=ih (lA++[x]) p hp;simp only [ac,au,ap] at this ⊢;omega
def sb(l:List (List UInt8)):LVal9:=l.map λx=>St x
def Own.strs{A:Hl}{c:Nat}{l:List (List UInt8)}(h:Own e 1 A (.slice Ad n c) n (sb l))(hu:∀ x∈l,x.length<=9223372036854775807)(hp:mz A s)(hn:n=l.length):iW s Ad n c l:=by
 have he:sb l=(l.map λx=>[St x]).flatten:=by
  clear h hu hn;induction l with
  | nil=>rfl
  | cons x r ih=>simp [sb] at ih ⊢;exact ih
 rw [he] at h;refine Own.rows h hp ?_ hn;clear h he hn;induction l with
 | nil=>exact .nil
 | cons x r ih=>exact .cons ⟨rfl,rfl,hu x Mc⟩ (ih λy hy=>hu y (aq _ hy))
def qJK{x:Int}:iY (lK x):=⟨by unfold lK;omega,by unfold lK;omega⟩
attribute [local irreducible] JC JO JA JB lZ mF mM AC fill iH QE Ev mq
def qoH(css:List LVal9)(cs:LVal9):(css++[cs]).flatten=css.flatten++cs:=by simp
end
section
def AC.of_calls{f:FuncId}{args:LVal9}{R:Value->Hl->World->Prop}(hf:sR P f)
  (h:jX D L s->Calls P f args.toArray (fill L s) λe w'=>∃ v,e=.returned v/\Below (fill L s).heap.size (fill L s) w'/\∀ s',w'=fill L s'->Le D s s'->(∀ k,s.heap.size<=k->s'.heap[k]?=w'.heap[k]?)->R v L s'):AC P D f args L s R:=
 ⟨hf,λho=>(h ho).mono λe w' ⟨v,he,hb,hr⟩=>by
  obtain ⟨e1,o1,l1⟩:=qGC ho hb;refine ⟨v,L,qU D L w',he,e1,o1,l1,hr _ e1 l1 λk hk=>Ju λhm=>?_⟩;obtain ⟨x,hx,rfl⟩:=bh.1 hm;have:=ho.lt hx;omega⟩
def C7:Below w.heap.size w w:=Below.refl _ _
def qoT(l:List Obj):∃ D,∀ E,D<=E->∀ o∈l,o≠mA E:=by
  induction l with
  | nil=>exact ⟨0,λ_ _ _ h=>by cases h⟩
  | cons x l ih=>
    obtain ⟨D,h⟩:=ih;by_cases hx:∃ E,x=mA E
    . obtain ⟨E0,rfl⟩:=hx
      refine ⟨D+E0+1,λE hE o ho=>?_⟩;rcases aW.1 ho with rfl|ho
      . intro e;simp only [mA] at e;injection e;omega
      . exact h E O o ho
    . refine ⟨D,λE hE o ho=>?_⟩
      rcases aW.1 ho with rfl|ho
      . exact λe=>hx ⟨E,e⟩
      . exact h E hE o ho
def qmu(W:World):∃ D,∀ k:Nat,W.heap[k]?≠some (mA D):=by
 obtain ⟨D,h⟩:=qoT W.heap.toList;refine ⟨D,λk hk=>h D (aC _) _ ?_ Z⟩;rw [<- ic] at hk;exact ay hk
def Ru{f:FuncId}{args:LVal9}(h:∀ D,AC P D f args [] W λv L' _=>v=v0/\[]=L') :
  Calls P f args.toArray W λe w'=>e=.returned v0/\Below W.heap.size W w':=by
 obtain ⟨D,hD⟩:=qmu W;refine ((h D).2 ⟨io,λ_ h=>by cases h⟩).mono ?_;rintro e w' ⟨v,L',s',he,hw,_,hl,hv,hL⟩;subst hL;have hw':w'=s':=hw;subst hw';refine ⟨by rw [he,hv],⟨hl.os,hl.tape,hl.output,hl.size,λk hk=>?_⟩⟩;rcases hl.block k hk with h1|h1
 . exact absurd h1 (hD k)
 . exact h1
end
section
variable(L:Hl)(s:World)
def qQ(c:UInt8):List UInt8->Option Nat
 | []=>none
 | x::l=>if x=c then some 0 else (qQ c l).map (·+1)
def DG:Option Nat->Int
 | none=>-1
 | some i=>(i:Int)
def qxU{i:Nat}(h:qQ c l=some i):i < l.length:=by
  induction l generalizing i with
  | nil=>cases h
  | cons x l ih=>
    simp only [qQ] at h;split at h
    . injection h with h;subst h;simp
    . cases h':qQ c l with
      | none=>rw [h'] at h;cases h
      | some j=>rw [h'] at h;simp at h;have:=ih h';simp;omega
def XK(l:List UInt8)(c:UInt8):Lib.indexByte l c=DG (qQ c l):=by
  induction l with
  | nil=>rfl
  | cons x l ih=>
    simp only [Lib.indexByte,qQ];by_cases h:x=c
    . simp [h,DG]
    . simp only [fl,h,cm,ih]
      cases qQ c l with
      | none=>simp [DG]
      | some i=>
        have h1:¬ (i:Int)=-1:=by omega
        show (if (i:Int)=-1 then (-1:Int) else (i:Int)+1)=((i+1:Nat):Int);rw [am h1];rfl
def yu{x:UInt8}:x=c↔(x.toNat:Int)=(c.toNat:Int):=by
 constructor
 . rintro rfl;rfl
 . intro h;exact fM.1 O
def po(c:UInt8)(l:List UInt8):List UInt8×List UInt8×Bool:=match qQ c l with
 | none=>(l,[],false)
 | some i=>(l.take i,l.drop (i+1),true)
theorem qpa(c:UInt8)(lA l:List UInt8):uz (c.toNat:Int) lA l=match qQ c l with|none=>[lA++l]|some i=>(lA++l.take i)::splitB (c.toNat:Int) (l.drop (i+1)):=by
  induction l generalizing lA with
  | nil=>simp [uz,qQ]
  | cons x l ih=>
    simp only [uz,qQ];by_cases h:x=c
    . simp [h,splitB]
    . have h':¬ (x.toNat:Int)=(c.toNat:Int):=λe=>h (yu.2 e)
      simp only [h,cm,h',ih];cases qQ c l with
      | none=>simp
      | some i=>simp
theorem RF(c:UInt8)(l:List UInt8):splitB (c.toNat:Int) l=match qQ c l with|none=>[l]|some i=>l.take i::splitB (c.toNat:Int) (l.drop (i+1)):=by grind [splitB,qpa]
def RX(c:UInt8)(l:List UInt8):l.count c=match qQ c l with|none=>0|some i=>(l.drop (i+1)).count c+1:=by
  induction l with
  | nil=>rfl
  | cons x l ih=>
    simp only [qQ];by_cases h:x=c
    . simp [h]
    . rw [List.count_cons]
      simp only [fl,h,cm,bB];rw [ih];cases qQ c l with
      | none=>rfl
      | some i=>simp
structure GW(s:World):Prop where
 pow:∃ ty fz,s.heap[laysM284_ren.g 17]?=some (.cells (Lib.pow10Tab.map λz=>Value.int .u64 z).toArray ty fz)
 es:∃ t p,s.cell? ⟨laysPu14_ren.g 0,0,none⟩=some (.iface t p)
 er:∃ t p,s.cell? ⟨laysPu14_ren.g 1,0,none⟩=some (.iface t p)
def qqX{s:World}{cs:Array Value}{ty:TypeId}(h:s.heap[k]?=some (.cells cs ty fz))(hl:Le D s s'):s'.heap[k]?=some (.cells cs ty fz):=by
 have hk:k < s.heap.size:=by
  rcases eM k s.heap.size with h1|h1
  . exact h1
  . rw [bU h1] at h;cases h
 rcases hl.block k hk with h1|h1
 . rw [h] at h1;simp [mA] at h1
 . rw [h1,h]
def GW.le{s:World}(h:GW s)(hl:Le D s s'):GW s':=by
 obtain ⟨⟨t,f,h1⟩,⟨t2,p2,h2⟩,⟨t3,p3,h3⟩⟩:=h;exact ⟨⟨t,f,qqX h1 hl⟩,⟨t2,p2,hl.cell h2⟩,⟨t3,p3,hl.cell h3⟩⟩
def qyk(hg:prog.globalNamed nm=some (laysM284_ren.g 17))(h:GW w):Lib.TabIs prog w nm .u64 Lib.pow10Tab:=by
 obtain ⟨t,f,h1⟩:=h.pow;simp only [Lib.TabIs,World.var?,hg,gM,h1]
section
variable(L:Hl)(s:World)
def qqP:sR prog 117:=⟨_,func117,by kernel_rfl,by kernel_rfl⟩
def qoK:sR prog 271:=⟨_,func271,by kernel_rfl,by kernel_rfl⟩
def qml:sR prog 205:=⟨_,func205,by kernel_rfl,by kernel_rfl⟩
def qoJ:sR prog 246:=⟨_,func246,by kernel_rfl,by kernel_rfl⟩
def qmn:sR prog 207:=⟨_,func207,by kernel_rfl,by kernel_rfl⟩
def qAL(hG:GW s)(n:Int)(h0:-9223372036854775808<=n)(h1:n<=9223372036854775807):AV9 D 117 [iJ n] L s (St (Lib.itoa n)):=
 AC.of_calls qqP λho=>(Any.strconv_Itoa laysM171 n h0 h1 (fill L s) (qyk laysM171.m17 (hG.le (Bp ho)))).mono λe w' ⟨he,k,os,hw⟩=>by
  refine ⟨_,he,?_,λs' _ _ _=>⟨Z,Z⟩⟩;rw [hw];exact ⟨rfl,rfl,rfl,by simp [Sort.grow],λj hj=>by simp [Sort.grow,Array.getElem?_append_left hj]⟩
def quf:AV9 D 246 [St l,St [c]] L s (iJ (DG (qQ c l))):=
 AC.of_calls qoJ λ_=>(Any.stringslite_Index_one lays219 ⟨l.toArray⟩ c (fill L s)).mono λe w' ⟨he,hw⟩=>by
  refine ⟨_,he,by rw [hw];exact C7,λs' _ _ _=>⟨?_,Z⟩⟩;show Value.int .i64 (Lib.indexByte l c)=_;rw [XK]
def Dy(c:UInt8)(l:List UInt8):Bool:=decide (l.getLast?=some c)
def qpf(l:List UInt8)(c:UInt8):Lib.hasSuffix l [c]=Dy c l:=by
  rw [Lib.hasSuffix,Dy];rw [dF,List.isSuffixOf_iff_suffix,aF];constructor
  . rintro ⟨t,rfl⟩;simp
  . intro h
    obtain ⟨t,ht⟩:=List.getLast?_eq_some_iff.1 h;exact ⟨t,ht.symm⟩
def qkQ(c:UInt8)(hl:l.length<=9223372036854775807):AV9 D 207 [St l,St [c]] L s (.tuple #[St (if Dy c l then l.dropLast else l),.bool (Dy c l)]):=
 AC.of_calls qmn λ_=>(Any.strings_CutSuffix lays104 ⟨l.toArray⟩ ⟨#[c]⟩ (fill L s) (by simpa [dG] using hl)).mono λe w' ⟨he,hw⟩=>by
  refine ⟨_,he,by rw [hw];exact C7,λs' _ _ _=>⟨?_,Z⟩⟩;show Value.tuple #[.string ⟨(Lib.trimSuffix l [c]).toArray⟩,.bool (Lib.hasSuffix l [c])]=_;rw [Lib.trimSuffix,qpf];simp [List.dropLast_eq_take]
inductive Pu:List UInt8->Value->Prop
 | ok (l:List UInt8) (u:Nat) (h:Lib.parseUintB 32 l=.ok u):Pu l (.tuple #[.int .u64 u,.nilIface])
 | bad (l:List UInt8) (h:∀ u,Lib.parseUintB 32 l≠.ok u) (n:Int) (t:TypeId) (p:Value):Pu l (.tuple #[.int .u64 n,.iface t p])
def quO(hG:GW s)(l:List UInt8)(hl:l.length<=281474976710656):Ap9 D 271 [St l,iJ 10,iJ 32] L s λv L' _=>Pu l v/\L=L':=
  AC.of_calls qoK λho=>by
    have hw:=hG.le (Bp ho);have hs:(⟨l.toArray⟩:ByteArray).size<=281474976710656:=by simpa [dG] using hl
    by_cases l9:∃ u,Lib.parseUintB 32 l=.ok u
    . obtain ⟨u,hp⟩:=l9
      refine (Any.strconv_ParseUint_10_at32_ok laysPu14 ⟨l.toArray⟩ O u hp (fill L s)).mono λe w' ⟨he,hw'⟩=>⟨_,he,?_,λs' _ _ _=>⟨.ok l u hp,Z⟩⟩;rcases hw' with rfl|rfl
      . exact C7
      . exact Go.Joins.below_bytesWorld _ _ _ _ (aC _)
    . have hno:∀ u,Lib.parseUintB 32 l≠.ok u:=λu h=>l9 ⟨u,h⟩
      by_cases hr:Lib.parseUintB 32 l=.range
      . obtain ⟨te,pe,h1⟩:=hw.er
        refine (Any.strconv_ParseUint_10_at32_range laysPu14 ⟨l.toArray⟩ hs hr _ (fill L s) h1 (.inr ⟨te,pe,Z⟩)).mono λe w' ⟨N,he,_,_,hb⟩=>⟨_,he,hb,λs' _ _ _=>⟨.bad l hno _ _ _,Z⟩⟩
      . obtain ⟨te,pe,h1⟩:=hw.es
        refine (Any.strconv_ParseUint_10_at32_syntax laysPu14 ⟨l.toArray⟩ hs (by cases h:Lib.parseUintB 32 l<;>simp_all) _ (fill L s) h1 (.inr ⟨te,pe,Z⟩)).mono λe w' ⟨N,he,_,_,hb⟩=>⟨_,he,hb,λs' _ _ _=>⟨.bad l hno _ _ _,Z⟩⟩
end
attribute [local irreducible] JC JO JA JB lZ mF mM AC fill iH QE Ev mq
def RQ{c i:Int}:AV9 D 120 [iJ c,iJ i] L s (.agg #[iJ c,iJ i]):=by
 refine jv (fn:=f120) jl func120 V Z ntmps120 Z (rs:=[.cell 4 24]) Z [(0,_),(1,_)] Z<|Sr<|jp Z [_,_] Y2 ?_;exact E6
def Jk{p:Prop} (h:p:=by
 exact ⟨by simp_all [kB]<;>omega,rfl⟩):p:=h
def US{p:Prop} (h:p:=by
  refine kT (t:=5) Z ?_ ?_<;>intro c1
  .refine lF ?_;refine kT (t:=12) Z ?_ ?_<;>intro c2;.refine G9 ?_;exact rY Z λ_ iL=>Jk
   refine k8 ?_;exact rY Z λ_ iL=>Jk
  refine G6 ?_;refine kT (t:=9) Z ?_ ?_<;>intro c2
  .refine G6 ?_;refine kT (t:=12) Z ?_ ?_<;>intro c3;.refine G9 ?_;exact rY Z λ_ iL=>Jk
   refine k8 ?_;exact rY Z λ_ iL=>Jk
  refine k8 ?_;exact rY Z λ_ iL=>Jk):p:=h
def qoP(r:Int):AV9 D 249 [.int .i32 r] L s (.bool (decide ((r < 97\/122 < r)/\(r < 48\/57 < r)))):=by
 refine jv (fn:=f249) jl func249 V Z ntmps249 Z (rs:=[.tmp 2]) Z [(0,_)] Z<|lF ?_;exact US
def qlk(r:Int):AV9 D 206 [.int .i32 r] L s (.bool (decide (r=32))):=by
 refine jv (fn:=f206) jl func206 V Z ntmps206 Z (rs:=[.tmp 2]) Z [(0,_)] Z<|mn ?_;refine Zo ?_;exact rY Z λ_ iL=>ry
end
section
variable{iS u:Nat}
def XJ:sR prog 220:=⟨_,func220,by kernel_rfl,by kernel_rfl⟩
def qoM:sR prog 155:=⟨_,func155,by kernel_rfl,by kernel_rfl⟩
def ZY(l:List UInt8)(c:UInt8):Lib.index l [c]=Lib.indexByte l c:=by
  induction l with
  | nil=>rfl
  | cons b l ih=>
    simp only [Lib.index,Lib.indexByte,ih,List.isPrefixOf];by_cases h:b=c
    . simp [h]
    . have h':¬ c=b:=λe=>h e.symm
      simp [h,h']
def qq4(l:List UInt8)(c:UInt8):Lib.index l [c]=DG (qQ c l):=by rw [ZY,XK]
def RU(l:List UInt8)(a b:Nat):(⟨l.toArray⟩:ByteArray).extract a b=⟨((l.drop a).take (b - a)).toArray⟩:=by
 apply fu;simp [ByteArray.data_extract]
def qo9(c:UInt8)(k:Nat)(l:List UInt8)(h:l.count c=k):Lib.splitB ⟨#[c]⟩ 0 k ⟨l.toArray⟩=(splitB (c.toNat:Int) l).map λx=>⟨x.toArray⟩:=by
 induction k generalizing l with
 | zero=>
  rw [RF];have:=RX c l;cases hf:qQ c l with
  | none=>simp [Lib.splitB]
  | some i=>rw [hf] at this;simp only at this;omega
 | succ k ih=>
  have hc:=RX c l;rw [RF];cases hf:qQ c l with
  | none=>rw [hf] at hc;simp only at hc;omega
  | some i=>
   rw [hf] at hc;simp only at hc;have hi:Lib.indexB ⟨l.toArray⟩ ⟨#[c]⟩=(i:Int):=by
    show Lib.index l [c]=_;rw [qq4,hf];rfl
   have h1:¬ (i:Int)=-1:=by omega
   simp only [Lib.splitB,hi,fl,h1,cm,aS];have e1:(⟨l.toArray⟩:ByteArray).extract 0 ((i:Int).toNat+0)=⟨(l.take i).toArray⟩:=by rw [RU];simp
   have e2:(⟨l.toArray⟩:ByteArray).extract ((i:Int).toNat+(⟨#[c]⟩:ByteArray).size) (⟨l.toArray⟩:ByteArray).size=⟨(l.drop (i+1)).toArray⟩:=by
    rw [RU];have:(⟨#[c]⟩:ByteArray).size=1:=rfl;rw [this];have h2:(⟨l.toArray⟩:ByteArray).size=l.length:=by simp [dG]
    rw [h2,aI (by simp)];simp
   rw [e1,e2,ih _ O]
def YN(c:UInt8)(l:List UInt8):(splitB (c.toNat:Int) l).length=l.count c+1:=by
 generalize hn:l.length=n;induction n using Nat.strongRecOn generalizing l with
 | ind n ih=>
  rw [RF,RX];cases hf:qQ c l with
  | none=>rfl
  | some i=>
   simp only [au];rw [ih (l.drop (i+1)).length (by have:=qxU hf;simp;omega) _ rfl]
section
def YF{A:Nat}{l:List (List UInt8)}{ty:TypeId}(h:s'.heap[A]?=some (.cells ((l.map λx=>(⟨x.toArray⟩:ByteArray)).map Value.string).toArray ty fz))(hu:∀ x∈l,x.length<=9223372036854775807)(hn:l.length<=9223372036854775807):iW s' (j6 A) l.length l.length l:=by
 refine ⟨Z,aC _,hn,λi x hi=>⟨A,0,[St x],Z,?_,Z,Z,hu x (ay hi)⟩⟩;refine iH.one ?_;simp [World.cell?,h,hi]
def qmo(hl:l.length<=4000000):Ap9 D 155 [St l,St [c],iJ 0,iJ (-1)] L s λv L' s'=>L=L'/\∃ A n c',v=.slice A n c'/\iW s' A n c' (splitB (c.toNat:Int) l):=
  AC.of_calls qoM λho=>by
    have jA:(⟨l.toArray⟩:ByteArray).size=l.length:=by simp [dG]
    have h1:(⟨#[c]⟩:ByteArray).size=1:=rfl;have hcnt:Lib.countB ⟨l.toArray⟩ ⟨#[c]⟩=l.count c:=Lib.count_one c l;have xS:l.count c<=l.length:=iq;refine (Any.strings_genSplit_core lays221 V ⟨l.toArray⟩ ⟨#[c]⟩ 0 (-1) (l.count c+1) (fill L s) O O O
      (λx cs hx=>?_) ?_ Dc Dc (by rw [aw Dc,hcnt,jA];omega)).mono ?_
    . refine (Any.strings_Index_one { lays221 with } x c _).mono λe w' ⟨he,hw⟩=>⟨?_,hw⟩
      rw [he];show _=Ending.returned (iJ (Lib.index x.data.toList [c]));rw [ZY]
    . refine (Any.strings_Count_one { lays221 with } ⟨l.toArray⟩ c _).mono λe w' ⟨he,hw⟩=>⟨?_,hw⟩
      rw [he,hcnt];rfl
    . rintro e w' ⟨he,hw⟩
      rw [Nat.add_sub_cancel,qo9 c _ l rfl] at he hw;have iQ:=YN c l;refine ⟨_,he,by rw [hw];exact (Below.refl _ _).alloc (aC _) _,λs' _ _ hnew=>⟨Z,_,_,_,Z,?_⟩⟩;have hs':=hnew (fill L s).heap.size (by rw [nR];exact aC _);rw [hw,fY] at hs';have e2:Lib.cellsOf ((splitB (c.toNat:Int) l).map λx=>(⟨x.toArray⟩:ByteArray)) (l.count c+1)=(((splitB (c.toNat:Int) l).map λx=>(⟨x.toArray⟩:ByteArray)).map Value.string).toArray:=by
        have:=Lib.cellsOf_full ((splitB (c.toNat:Int) l).map λx=>(⟨x.toArray⟩:ByteArray));rw [bI,iQ] at this;exact this
      rw [e2] at hs';rw [<- iQ,bI];exact YF hs' (λx hx=>by have:=Rs (c.toNat:Int) [] l x hx;simp at this;omega) O
def xD(c:UInt8):Bool:=!(uG c || tB c)
def DF(x:Nat):Bool:=decide (((x:Int) < 97\/122 < (x:Int))/\((x:Int) < 48\/57 < (x:Int)))
def Zi(c:UInt8):DF c.toNat=xD c:=by
 simp only [DF,xD,uG,tB];rw [dF];simp only [aF,dD,Bool.or_eq_false_iff,Bool.and_eq_false_iff,ei];omega
def qxD(h:iS < (⟨l.toArray⟩:ByteArray).size):∃ c,l[iS]?=some c/\(⟨l.toArray⟩:ByteArray)[iS]'h=c:=by simp [fb]
def qAI(l:List UInt8)(f iS:Nat)(h:l.length<=iS+f):decide (0<=Lib.idxFuncFrom DF true ⟨l.toArray⟩ f iS)=(l.drop iS).any xD:=by
  have jA:(⟨l.toArray⟩:ByteArray).size=l.length:=by simp [dG]
  induction f generalizing iS with
  | zero=>rw [dU O];rfl
  | succ f ih=>
    by_cases hp:iS < (⟨l.toArray⟩:ByteArray).size
    . obtain ⟨c,hc,hg⟩:=qxD hp
      have hd:l.drop iS=c::l.drop (iS+1):=by
        obtain ⟨h1,h2⟩:=al.1 hc;rw [aL h1,h2]
      rw [hd,fx];by_cases ha:c.toNat < 128
      . have e:=decode_ascii ⟨l.toArray⟩ iS hp (by rw [hg];exact ha)
        simp only [Lib.idxFuncFrom,hp,bS,e,hg,Zi];cases hb:xD c with
        | true=>simp
        | false=>simpa using ih (iS+1) O
      . have e:=(decode_high ⟨l.toArray⟩ iS hp (by rw [hg];omega)).1
        have hb:xD c=true:=by rw [<- Zi];simp only [DF,aF];omega
        have hr:DF (Utf8.decode ⟨l.toArray⟩ iS).1=true:=by simp only [DF,aF];omega
        simp only [Lib.idxFuncFrom,hp,bS,hr,hb];simp
    . rw [Lib.idxFuncFrom_end _ _ _ _ _ hp,dU O];rfl
def qme:∀ args w,(callFunc 249 args).run prog w=.ok (.enter 249 args) w:=enters_of func249 V rfl
def qkX:∀ args w,(callFunc 206 args).run prog w=.ok (.enter 206 args) w:=enters_of func206 V rfl
def Wa{p:Prop} (h:p:=by
 refine ⟨_,he,hb,λs' _ _ _=>⟨?_,Z⟩⟩;have:=qAI l (⟨l.toArray⟩:ByteArray).size 0 (by simp [dG]);rw [cn] at this;rw [<- this];rfl):p:=h
def ql9:AV9 D 220 [St l,.func (.func 249) #[] #[]] L s (.bool (l.any xD)):=
  AC.of_calls XJ λ_=>by
    refine (Any.strings_ContainsFunc_grows laysGw17 249 #[] qme DF ⟨l.toArray⟩ (fill L s) (λW x _ _=>?_)).mono ?_
    . exact Ru (args:=[.int .i32 (x:Int)]) λD=>qoP [] W x
    . rintro e w' ⟨he,hb⟩
      exact Wa
def rv:List UInt8->List UInt8->List (List UInt8)
 | lA,[]=>if lA=[] then [] else [lA]
 | lA,x::r=>if x=32 then (if lA=[] then rv [] r else lA::rv [] r) else rv (lA++[x]) r
def uZ(l:List UInt8):List (List UInt8):=(splitB 32 l).filter λx=>decide (x≠[])
def MY(lA l:List UInt8):(uz 32 lA l).filter (λx=>decide (x≠[]))=rv lA l:=by
  induction l generalizing lA with
  | nil=>by_cases h:lA=[]<;>simp [uz,rv,h]
  | cons x l ih=>
    have hx:((x.toNat:Int)=32)↔x=32:=(yu (c:=32)).symm;by_cases h:x=32
    . by_cases hc:lA=[]<;>simp [uz,rv,h,hc,<- ih]
    . have h':¬ (x.toNat:Int)=32:=λe=>h (hx.1 e)
      simp only [uz,rv,h,h',cm,ih]
def Ns(lA m r:List UInt8)(h:∀ x∈m,x≠32):rv lA (m++r)=rv (lA++m) r:=by
 induction m generalizing lA with
 | nil=>simp
 | cons x m ih=>
  have hx:x≠32:=h x Mc;simp only [ao,rv,hx,cm];rw [ih _ (λy hy=>h y (aq _ hy))];simp
def quc(l:List UInt8)(iS:Nat)(hp:iS < l.length)(c:UInt8)(hc:l[iS]?=some c)(ha:¬ c.toNat < 128):
    ∃ K,(Utf8.decode ⟨l.toArray⟩ iS).2=K/\1<=K/\iS+K<=l.length/\∀ x∈(l.drop iS).take K,x≠32:=by
  have jA:(⟨l.toArray⟩:ByteArray).size=l.length:=by simp [dG]
  have g:∀ i,(⟨l.toArray⟩:ByteArray).get! i=l.getD i 0:=by
    intro i;show (l.toArray)[i]! = _;simp [aM];rfl
  have hd:=Lib.decode_at ⟨l.toArray⟩ iS;rw [jA,g,g,g,g] at hd;have h0:l.getD iS 0=c:=by simp [aM,hc]
  rw [h0] at hd;have key:∀ (K:Nat),1<=K->K<=4->iS+K<=l.length->(∀ j,1<=j->j < K->128<=(l.getD (iS+j) 0).toNat)->∀ x∈(l.drop iS).take K,x≠32:=by
    intro K h1 h4 hK qF x hx e;obtain ⟨j,hj,hxj⟩:=fF.1 hx;have hjK:j < K:=by simp at hj;omega
    have hv:l.getD (iS+j) 0=x:=by
      rw [<- hxj];simp [aM];rw [ax O];rfl
    by_cases oA:j=0
    . subst oA;simp only [bB] at hv;rw [h0] at hv;subst e;subst hv;exact ha Dc
    . have:=qF j O hjK
      rw [hv,e] at this;exact absurd this Dc
  refine ⟨_,Z,?_⟩;rw [hd];unfold Lib.decodeN;rw [am ha];split
  . rename_i h2
    split
    . refine ⟨by simp only;omega,by simp only;omega,key 2 O O O (λj h1 hj=>?_)⟩
      obtain rfl:j=1:=by omega
      omega
    . exact ⟨by simp only;omega,by simp only;omega,key 1 O O O (λj h1 hj=>by omega)⟩
  . split
    . rename_i h2 h3
      split
      . refine ⟨by simp only;omega,by simp only;omega,key 3 O O O (λj h1 hj=>?_)⟩
        rcases (by omega:j=1\/j=2) with rfl|rfl<;>omega
      . exact ⟨by simp only;omega,by simp only;omega,key 1 O O O (λj h1 hj=>by omega)⟩
    . split
      . rename_i h2 h3 h4
        split
        . refine ⟨by simp only;omega,by simp only;omega,key 4 O O O (λj h1 hj=>?_)⟩
          rcases (by omega:j=1\/j=2\/j=3) with rfl|rfl|rfl<;>omega
        . exact ⟨by simp only;omega,by simp only;omega,key 1 O O O (λj h1 hj=>by omega)⟩
      . exact ⟨by simp only;omega,by simp only;omega,key 1 O O O (λj h1 hj=>by omega)⟩
def CL(x:Nat):Bool:=decide ((x:Int)=32)
def CF(l:List UInt8)(x:Nat×Nat):List UInt8:=(l.drop x.1).take (x.2 - x.1)
def z7(l:List UInt8)(iS:Nat):Option Nat->List UInt8
 | none=>[]
 | some a=>(l.drop a).take (iS - a)
def qss(l:List UInt8){a K:Nat}(h:a<=iS):(l.drop a).take (iS+K - a)=(l.drop a).take (iS - a)++(l.drop iS).take K:=by
 have:iS+K - a=(iS - a)+K:=by omega
 rw [this,List.take_add,List.drop_drop];have e:a+(iS - a)=iS:=by omega
 rw [e]
def ZR(l:List UInt8)(iS:Nat)(st:Option Nat)(acc:List (Nat×Nat))(h:l.length<=iS)(mY:∀ a,st=some a->a < iS/\iS<=l.length):
  (Lib.closeSpans ⟨l.toArray⟩ (acc,st)).map (CF l)=acc.map (CF l)++rv (z7 l iS st) (l.drop iS):=by
 have jA:(⟨l.toArray⟩:ByteArray).size=l.length:=by simp [dG]
 rw [dU h];cases st with
 | none=>simp [Lib.closeSpans,z7,rv]
 | some a=>
  obtain ⟨h1,h2⟩:=mY a rfl;have hp:iS=l.length:=by omega
  subst hp;have mB:(l.drop a).take (l.length - a)≠[]:=by
   intro e;have:=bj List.length e;simp at this;omega
  simp [Lib.closeSpans,z7,rv,mB,CF,jA]
def qsb(l:List UInt8)(f iS:Nat)(st:Option Nat)(acc:List (Nat×Nat))(h:l.length<=iS+f)(mY:∀ a,st=some a->a < iS/\iS<=l.length):
    (Lib.closeSpans ⟨l.toArray⟩ (Lib.spansFromP CL ⟨l.toArray⟩ f iS st acc)).map (CF l)=acc.map (CF l)++rv (z7 l iS st) (l.drop iS):=by
  have jA:(⟨l.toArray⟩:ByteArray).size=l.length:=by simp [dG]
  induction f generalizing iS st acc with
  | zero=>exact ZR l iS st acc O mY
  | succ f ih=>
    by_cases hp:iS < (⟨l.toArray⟩:ByteArray).size
    . obtain ⟨c,hc,hg⟩:=qxD hp
      have Bb:iS < l.length:=by omega
      have hd:l.drop iS=c::l.drop (iS+1):=by
        obtain ⟨h1,h2⟩:=al.1 hc;rw [aL h1,h2]

      have go:∀ K,(Utf8.decode ⟨l.toArray⟩ iS).2=K->CL (Utf8.decode ⟨l.toArray⟩ iS).1=false->1<=K->iS+K<=l.length->(∀ x∈(l.drop iS).take K,x≠32) ->
          (Lib.closeSpans ⟨l.toArray⟩ (Lib.spansFromP CL ⟨l.toArray⟩ (f+1) iS st acc)).map (CF l)=acc.map (CF l)++rv (z7 l iS st) (l.drop iS):=by
        intro K hK hb h1 h2 qF;have jO:rv (z7 l iS st) (l.drop iS)=rv (z7 l iS st++(l.drop iS).take K) (l.drop (iS+K)):=by
          conv=>lhs;rw [<- eB K (l.drop iS),List.drop_drop]
          exact Ns _ _ _ qF
        rw [jO];simp only [Lib.spansFromP,hp,bS,hb,hK,dr,cm];cases st with
        | none=>
          simp only;rw [ih (iS+K) (some iS) acc O (λa ha=>by injection ha with ha;omega)];simp only [z7,aD];congr 3;omega
        | some a=>
          obtain ⟨ha1,ha2⟩:=mY a rfl;simp only;rw [ih (iS+K) (some a) acc O (λa' ha=>by injection ha with ha;omega)];simp only [z7];rw [qss l O]
      by_cases ha:c.toNat < 128
      . have e:=decode_ascii ⟨l.toArray⟩ iS hp (by rw [hg];exact ha)
        rw [hg] at e;by_cases h32:c=32
        . have hb:CL (Utf8.decode ⟨l.toArray⟩ iS).1=true:=by rw [e,h32];rfl
          rw [hd];simp only [Lib.spansFromP,hp,bS,hb];cases st with
          | none=>
            simp only [e];rw [ih (iS+1) none acc O (λa ha=>by cases ha)];simp [z7,rv,h32]
          | some a=>
            obtain ⟨ha1,ha2⟩:=mY a rfl;have mB:(l.drop a).take (iS - a)≠[]:=by
              intro e;have:=bj List.length e;simp at this;omega
            simp only [e];rw [ih (iS+1) none _ O (λa ha=>by cases ha)];simp [z7,rv,h32,mB,CF]
        . refine go 1 (by rw [e]) ?_ O O ?_
          . rw [e]
            simp only [CL,ei];exact λh=>h32 ((yu (c:=32)).2 h)
          . rw [hd];simpa using h32
      . obtain ⟨K,hK,h1,h2,h3⟩:=quc l iS Bb c hc ha
        refine go K hK ?_ h1 h2 h3;have:=(decode_high ⟨l.toArray⟩ iS hp (by rw [hg];omega)).1;simp only [CL,ei];omega
    . rw [Lib.spansFromP_end _ _ _ _ _ _ hp]
      exact ZR l iS st acc O mY
def qt9(l:List UInt8):Lib.goFieldsP CL ⟨l.toArray⟩=(uZ l).map λx=>⟨x.toArray⟩:=by
 have jA:(⟨l.toArray⟩:ByteArray).size=l.length:=by simp [dG]
 have h:=qsb l (⟨l.toArray⟩:ByteArray).size 0 none [] O (λa ha=>by cases ha);simp only [dR,aD,z7,cn] at h;rw [<- MY] at h;show (Lib.closeSpans ⟨l.toArray⟩ (Lib.spansFromP CL ⟨l.toArray⟩ (⟨l.toArray⟩:ByteArray).size 0 none [])).map (λx=>(⟨l.toArray⟩:ByteArray).extract x.1 x.2)=_;rw [uZ,splitB,<- h,fU];congr 1;funext x;simp only [Function.comp,RU,CF]
def qqI{x:List UInt8}(h:x∈uZ l):x≠[]/\x.length<=l.length:=by
 obtain ⟨h1,h2⟩:=fN.1 h;have:=Rs 32 [] l x h1;exact ⟨by simpa using h2,by simpa using this⟩
def qAs(l:List UInt8):(uZ l).length<=l.length+1:=dT (ie _ _) (qpb 32 [] l)
def qqD(hl:l.length<=4000000):Ap9 D 205 [St l,.func (.func 206) #[] #[]] L s λv L' s'=>L=L'/\∃ A n c',v=.slice A n c'/\iW s' A n c' (uZ l):=
  AC.of_calls qml λ_=>by
    have jA:(⟨l.toArray⟩:ByteArray).size=l.length:=by simp [dG]
    refine (Any.strings_FieldsFunc_grows lays229 206 #[] qkX CL ⟨l.toArray⟩ (fill L s) O (λW x _ _=>?_) V V).mono ?_
    . exact Ru (args:=[.int .i32 (x:Int)]) λD=>qlk [] W x
    . rintro e w' ⟨A,he,hA,oU,hb⟩
      refine ⟨_,he,hb,λs' _ _ hnew=>⟨Z,_,_,_,Z,?_⟩⟩;rw [qt9,bI] at oU ⊢;rcases oU.2 with ⟨h0,_⟩|⟨g,cap,lA,h1,h2,h3,h4,h5,h6,h7⟩
      . cases h0
      . injection h1 with h1 _ hcap
        injection h1 with h1;injection h1 with h1;subst h1;subst hcap;rw [<- hnew A (by rw [nR] at hA;exact hA)] at h3;have hcur:lA=(((uZ l).map λx=>(⟨x.toArray⟩:ByteArray)).map Value.string).toArray:=by
          have e1:lA.toList=((uZ l).map λx=>(⟨x.toArray⟩:ByteArray)).map Value.string:=by
            rw [<- h7,aI (by rw [Array.length_toList,h6];exact aC _)]
          rw [<- e1,Array.toArray_toList]
        rw [hcur] at h3;exact YF h3 (λx hx=>by have:=(qqI hx).2;omega) (by have:=qAs l;omega)
end
def uD(acc:Nat)(l:List UInt8):Nat:=l.foldl (λa c=>a * 10+(c.toNat - 48)) acc
def EV(l:List UInt8):Bool:=decide (l≠[]) && l.all tB && (decide (l.length<=1) || decide (l.head?≠some 48))
def vL(l:List UInt8):Option Nat:=if EV l=true/\uD 0 l < 4294967296 then some (uD 0 l) else none
theorem FX(acc:Nat):uD acc []=acc:=rfl
theorem EJ(acc:Nat)(c:UInt8)(r:List UInt8):uD acc (c::r)=uD (acc * 10+(c.toNat - 48)) r:=by unfold uD;rw [gW]
theorem qxa(c:UInt8):uD 0 [c]=c.toNat - 48:=by grind [EJ,FX]
attribute [local irreducible] uD
def ZV(l:List UInt8)(c:UInt8)(acc:Nat):uD acc (l++[c])=uD acc l * 10+(c.toNat - 48):=by
 induction l generalizing acc with
 | nil=>rw [aD,EJ,FX,FX]
 | cons x l ih=>rw [ao,EJ,EJ];exact ih _
def qsA(l:List UInt8)(acc:Nat):acc<=uD acc l:=by
 induction l generalizing acc with
 | nil=>rw [FX];exact aC _
 | cons x l ih=>have:=ih (acc * 10+(x.toNat - 48));rw [EJ];omega
def qrK{M acc:Nat}(hM:M < 1844674407370955162)(h:l.all tB=true)(hv:uD acc l<=M):Lib.parseUintM M acc l=.ok (uD acc l):=by
 induction l generalizing acc with
 | nil=>rw [FX];rfl
 | cons c l ih=>
  simp only [eb,aA,tB,aF] at h;rw [EJ] at hv ⊢;have h1:=qsA l (acc * 10+(c.toNat - 48));simp only [Lib.parseUintM];rw [aw h.1,am O,am O];exact ih (by simpa [tB] using h.2) hv
def Ki(h:u < 10):(UInt8.ofNat (48+u)).toNat=48+u:=by simp;omega
def FZ(u:Nat):uD 0 (Lib.decDigits u)=u:=by
 induction u using Nat.strongRecOn with
 | _ u ih=>
  by_cases h:u < 10
  . rw [Lib.decDigits,fV h];rw [qxa,Ki h];omega
  . rw [Lib.decDigits,iE h,ZV,ih (u / 10) O,Ki O];omega
def Od(u:Nat):Lib.decDigits u≠[]:=by
 by_cases h:u < 10
 . rw [Lib.decDigits,fV h];simp
 . rw [Lib.decDigits,iE h];simp
def JZ(u:Nat):(Lib.decDigits u).all tB=true:=by
  induction u using Nat.strongRecOn with
  | _ u ih=>
    by_cases h:u < 10
    . rw [Lib.decDigits,fV h];simp only [eb,List.all_nil,dC,tB,Ki h,aA,aF];omega
    . rw [Lib.decDigits,iE h,List.all_append,ih (u / 10) O]
      simp only [eb,List.all_nil,dC,tB,Ki (show u % 10 < 10 by omega),aA,aF,fy];omega
def qtG(u:Nat)(h:1<=u):(Lib.decDigits u).head?≠some 48:=by
  induction u using Nat.strongRecOn with
  | _ u ih=>
    by_cases h1:u < 10
    . rw [Lib.decDigits,fV h1];intro e
      simp only [List.head?_cons,da] at e;have:=bj UInt8.toNat e;rw [Ki h1] at this;simp at this;omega
    . rw [Lib.decDigits,iE h1]
      have mB:=Od (u / 10);have:=ih (u / 10) O O;cases hd:Lib.decDigits (u / 10) with
      | nil=>exact absurd hd mB
      | cons x r=>rw [hd] at this;simpa using this
def qqr(u:Nat):EV (Lib.decDigits u)=true:=by
 simp only [EV,JZ,Od,fO,gz,decide_true,fy,dh,aF];by_cases h:u < 10
 . left;rw [Lib.decDigits,fV h];simp
 . right;exact qtG u O
def qxb{r:List UInt8}(he:l=c::r)(hd:tB c=true)(h:c≠48):1<=uD 0 l:=by
 subst he;have h1:=qsA r (0 * 10+(c.toNat - 48));simp only [tB,aA,aF] at hd;have:c.toNat≠48:=λe=>h (fM.1 e);rw [EJ];omega
def qqe(h:EV l=true):Lib.decDigits (uD 0 l)=l:=by
 induction hn:l.length using Nat.strongRecOn generalizing l with
 | _ n ih=>
  simp only [EV,aA,aF,dh] at h;obtain ⟨⟨h0,h1⟩,h2⟩:=h;obtain ⟨m,c,rfl⟩:∃ m c,l=m++[c]:=⟨l.dropLast,l.getLast h0,(List.dropLast_concat_getLast h0).symm⟩;rw [List.all_append,aA] at h1;have hc:48<=c.toNat/\c.toNat<=57:=by simpa [tB] using h1.2
  have mv:UInt8.ofNat (48+(c.toNat - 48))=c:=by apply fM.1;simp;omega
  rw [ZV];cases hm:m with
  | nil=>rw [FX,Lib.decDigits,fV O];simp [mv]
  | cons x r=>
   have hx:(m++[c]).head?=some x:=by rw [hm];rfl
   have hx48:x≠48:=by
    rcases h2 with h2|h2
    . rw [hm] at h2;simp at h2
    . intro e;exact h2 (by rw [hx,e])
   have hdx:tB x=true:=by have:=h1.1;rw [hm,eb,aA] at this;exact this.1
   have hp:=qxb hm hdx hx48;have hcm:EV m=true:=by
    simp only [EV,aA,aF,dh];refine ⟨⟨by rw [hm];simp,h1.1⟩,.inr ?_⟩;rw [hm];simpa using hx48
   have hd:=ih m.length (by rw [<- hn];simp) hcm rfl;rw [<- hm];rw [Lib.decDigits,iE O];rw [show (uD 0 m * 10+(c.toNat - 48)) / 10=uD 0 m by omega,hd,show (uD 0 m * 10+(c.toNat - 48)) % 10=c.toNat - 48 by omega,mv]
def z_(h:u < 4294967296):vL (Lib.decDigits u)=some u:=by rw [vL,aw ⟨qqr u,by rw [FZ];exact h⟩,FZ]
def qrw(h:vL l=some u):l=Lib.decDigits u/\u < 4294967296:=by
 unfold vL at h;split at h
 . rename_i hh;injection h with h;subst h;exact ⟨(qqe hh.1).symm,hh.2⟩
 . cases h
def Nc(l:List UInt8)(u:Nat):(Lib.parseUintB 32 l=.ok u/\Lib.decDigits u=l)↔vL l=some u:=by
  constructor
  . rintro ⟨h,rfl⟩
    exact z_ (by have:=gA h;omega)
  . intro h
    obtain ⟨rfl,hu⟩:=qrw h;refine ⟨?_,Z⟩;rw [Lib.parseUintB,am (Od u)];have:=qrK (M:=2 ^ 32 - 1) (acc:=0) Dc (JZ u) (by rw [FZ];omega);rw [FZ] at this;exact this
def qrl(k u:Nat)(h:u < 10 ^ (k+1)):Lib.nDigits u<=k+1:=by
 induction k generalizing u with
 | zero=>rw [Lib.nDigits_small Q4];exact aC _
 | succ k ih=>
  by_cases h1:u < 10
  . rw [Lib.nDigits_small h1];omega
  . rw [Lib.nDigits_big h1];have:=ih (u / 10) (by rw [eP] at h;omega);omega
def qAd(h:u < 4294967296):1<=(Lib.decDigits u).length/\(Lib.decDigits u).length<=10:=by
 rw [eL];exact ⟨Lib.nDigits_pos u,qrl 9 u O⟩
end
abbrev iR:=List UInt8
def qI9(c:UInt8):Bool:=decide (c=32) || decide (c=10)
def TX(w:iR):Prop:=w≠[]/\∀ c∈w,qI9 c=false
def P9(w sg:iR):iR:=w.take (w.length - sg.length)
def ends(w sg:iR):Bool:=decide (w=P9 w sg++sg)
def UD(c:UInt8):Int:=
 if 97<=c.toNat/\c.toNat<=122 then (c.toNat:Int) - 96 else if 65<=c.toNat/\c.toNat<=90 then (c.toNat:Int) - 38 else if 48<=c.toNat/\c.toNat<=57 then (c.toNat:Int)+5
 else if c=32 then 0 else if c=46 then 63 else if c=44 then 64 else if c=59 then 65 else if c=58 then 66 else -1
def okC(c:UInt8):Bool:=decide (0<=UD c)
def okT(l:iR):Bool:=l.all okC
def qFM:iR:=[67,104,101,99,107]
def o4(n:Int):iR:=Lib.decDigits n.toNat
def okW(w:iR):Prop:=TX w/\okT w=true/\w≠qFM
instance (w:iR):Decidable (TX w):=by unfold TX;infer_instance
instance (w:iR):Decidable (okW w):=by unfold okW;infer_instance
def cop:∀ d,d < 67->0 < d->Nat.gcd 9973 d=1:=by decide +kernel
def qxr{TT:kG}{fr:Fr}{t:Nat}{x:Operand}{te:TI}(hx:lk fr x=some (jc b))(hy:lk fr y=some (.int ik (j:Int)))(ht:jH TT t=some ti)(hk:ti.kind=.ar m e)(he:jH TT e=some te)(hj:j<=m) :
  QE P TT D fr (.slice t x none (some y) none) ty K s0 (.slice (j6 b) j m):=
 QE.pure λhT dst iS af g ρ hρ w=>by
  have hb:(Instr.sliceBounds false m m none (some (.int ik (j:Int))) none).run P w=.ok (0,j,m) w:=by simp [Instr.sliceBounds,JI hj]
  have hu:P.underlying t=some (.array m e):=by
   obtain ⟨h1,h2,_⟩:=hT.at_ ht;rw [hk] at h2;rw [h1];exact bj some h2
  have hr:(Instr.sliceAt t (jc b) none (some (.int ik (j:Int))) none).run P w=.ok (.slice (j6 b) j m) w:=by
   simp [Instr.sliceAt,Instr.sureAddr,aQ hu,hb,Bk (hT.at_ he),Addr.add]
  exact VY
def Yi(L:Hl)(s:World)(n:Nat):(fill L s).drewN n=fill L (s.drewN n):=by
 induction L with
 | nil=>rfl
 | cons x L ih=>show oX ((fill L s).drewN n) x.1 x.2=oX (fill L (s.drewN n)) x.1 x.2;rw [ih]
def Le.drewN(s:World)(n:Nat):Le D s (s.drewN n):=⟨rfl,rfl,rfl,aC _,λ_ _=>.inr rfl⟩
def XO(w:World)(b ty:Nat)(zs:LVal9)(f:Array Value->Array Value):Sort.mapBlock (oX w b (cb zs ty)) b f=oX w b (cb (f zs.toArray).toList ty):=by
  refine C9 (C8 λk=>?_) Z Z Z Z;show ((w.heap.setIfInBounds b _).modify b _)[k]?=(w.heap.setIfInBounds b _)[k]?;rw [fg];by_cases hk:b=k
  . subst hk
    rw [aw rfl,dA,dA];split
    . simp [Sort.onCells,cb]
    . rfl
  . rw [am hk,bW hk,bW hk]
section
variable(s:World){u c:Nat}
section
variable{s:World}
def qoL:sR prog 235:=⟨_,func235,by kernel_rfl,by kernel_rfl⟩
def qAw:sR prog 236:=⟨_,func236,by kernel_rfl,by kernel_rfl⟩
def qt3:sR prog 237:=⟨_,func237,by kernel_rfl,by kernel_rfl⟩
def qva(u:Nat)(h:u < 100):Ap9 D 235 [iJ (u:Int)] L s λv L' _=>v=St (Lib.decDigits u)/\L=L':=
 AC.of_calls qoL λ_=>(Any.internal_strconv_small lays283 u h (fill L s)).mono λe w' ⟨he,hw⟩=>⟨_,he,by rw [hw];exact C7,λs' _ _ _=>⟨rfl,rfl⟩⟩
def qJd(hG:GW s)(u:Nat)(h1:1<=u)(h2:u < 4294967296):Ap9 D 236 [.int .u64 (u:Int)] L s λv L' _=>v=iJ (Lib.nDigits u:Int)/\L=L':=
 AC.of_calls qAw λho=>(Any.internal_strconv_numDigits laysM284 u h1 O (fill L s) (qyk laysM284.m17 (hG.le (Bp ho)))).mono λe w' ⟨he,hw⟩=>⟨_,he,by rw [hw];exact C7,λs' _ _ _=>⟨rfl,rfl⟩⟩
def Qu(h:u < 4294967296):Lib.nDigits u<=20:=by
  by_cases h1:1<=u
  . have:=Lib.numDigits_eq u h1 O;split at this<;>omega
  . obtain rfl:u=0:=by omega
    rw [Lib.nDigits];simp
def z24:LVal9:=List.replicate 24 (.int .u8 0)
def qqQ(u:Nat)(h2:u < 4294967296):Ap9 D 237 [.slice (j6 b) (Lib.nDigits u) 24,.int .u64 (u:Int)] ((b,cb z24 ty)::L) s
    λv L' _=>v=.tuple #[]/\∃ ys,L'=(b,cb (bv (Lib.decDigits u)++ys) ty)::L/\(Lib.decDigits u).length+ys.length=24:=by
  refine ⟨qt3,λho=>?_⟩;have lQ:=Qu h2;have hblk:(fill ((b,cb z24 ty)::L) s).heap[b]?=some (cb z24 ty):=qc ho Mc;have hH:Sort.Holds (λ(x:UInt8)=>Value.int .u8 (x.toNat:Int)) (fill ((b,cb z24 ty)::L) s) b 0 (Array.replicate (Lib.nDigits u) (0:UInt8)):=by
    intro j hj;have hj':j < Lib.nDigits u:=by simpa using hj
    refine ⟨?_,by unfold World.frozen?;rw [hblk];simp [cb]⟩;rw [aZ,BO ho Mc,fW _ j hj,z24,cK,aw O];simp
  have h:=Any.internal_strconv_formatBase10 lays285 b 0 24 u (Array.replicate (Lib.nDigits u) 0) _ hH (by rw [fG];exact Lib.lt_pow_nDigits u) O (by rw [fG];omega);rw [fG] at h;refine h.mono ?_;rintro e w' ⟨he,n,v',dk,hw,hF⟩;have jA:dk.size=Lib.nDigits u:=hF.size;have iQ:(Lib.decDigits u).length=Lib.nDigits u:=eL u;have hcells:(Sort.putCells (λ(x:UInt8)=>Value.int .u8 (x.toNat:Int)) 0 dk z24.toArray).toList=bv (Lib.decDigits u)++List.replicate (24 - Lib.nDigits u) (.int .u8 0):=by
    apply gv;intro k;simp only [Sort.putCells,Array.toList_mapIdx,du,aB,iG,aZ,gR];by_cases hk:k < Lib.nDigits u
    . rw [aR (by simp [bv];omega)]
      have yK:z24[k]?=some (.int .u8 0):=by rw [z24,cK,aw O]
      rw [yK];simp only [eV,jA,hk,bS,bv,db];rw [ax O,<- Lib.row_is_numeral hF k O];rfl
    . rw [aY (by simp [bv];omega)]
      have rW:¬ k < dk.size:=by omega
      have hbl:(bv (Lib.decDigits u)).length=Lib.nDigits u:=by simp [bv,iQ]
      rw [hbl];by_cases yK:k < 24
      . have e1:z24[k]?=some (.int .u8 0):=by rw [z24,cK,aw O]
        rw [e1];simp [rW,cK];omega
      . have e1:z24[k]?=none:=by simp [z24];omega
        rw [e1];simp [cK];omega
  have hworld:w'=fill ((b,cb (bv (Lib.decDigits u)++List.replicate (24 - Lib.nDigits u) (.int .u8 0)) ty)::L) (s.drewN n):=by
    rw [hw,Sort.putRow];show (Sort.mapBlock (oX (fill L s) b (cb z24 ty)) b _).drewN n=_;rw [XO,hcells];exact Yi ((b,cb (bv (Lib.decDigits u)++List.replicate (24 - Lib.nDigits u) (.int .u8 0)) ty)::L) s n
  exact ⟨_,_,_,he,hworld,⟨ho.nd,λx hx=>by
    rcases aW.1 hx with rfl|hx
    . exact ho.dm (b,cb z24 ty) Mc
    . exact ho.dm x (aq _ hx)⟩,Le.drewN s n,rfl,_,rfl,by simp;omega⟩
end
def qA3(h:Lib.parseUintB 32 l=.ok u):decide (Lib.decDigits u=l)=(vL l).isSome:=by
  by_cases hd:Lib.decDigits u=l
  . rw [(Nc l u).1 ⟨h,hd⟩,bO hd];rfl
  . rw [bQ hd]
    cases hn:vL l with
    | none=>rfl
    | some v=>
      obtain ⟨h1,h2⟩:=(Nc l v).2 hn;rw [h] at h1;injection h1 with h1;subst h1
      exact absurd h2 hd
def qrx(h:∀ u,Lib.parseUintB 32 l≠.ok u):vL l=none:=by
 cases hn:vL l with
 | none=>rfl
 | some v=>exact absurd ((Nc l v).2 hn).1 (h v)
def qA4{v:Nat}(h:Lib.parseUintB 32 l=.ok u)(hn:vL l=some v):u=v:=by
 have h1:=((Nc l v).2 hn).1;rw [h] at h1;injection h1
def qsG{n:Int}:iY (IntKind.u32.wrap n):=by rw [cQ];exact ⟨by omega,by omega⟩
def Na(h:n < 4294967296):IntKind.u32.wrap (n:Int)=(n:Int):=by rw [cQ];omega
def iW.tail{s:World}{x:iR}{l:List iR}(h:iW s A n c (x::l)):∃ A1 n1 c1,(Value.slice (if c=1 then A else A.map (·.add (1 * 1))) (n - 1) (c - 1))=Value.slice A1 n1 c1/\iW s A1 n1 c1 l:=by
  refine ⟨_,_,_,Z,?_,?_,?_,λi y hy=>?_⟩
  . have:=h.1;simp at this;omega
  . have:=h.2.1;omega
  . have:=h.2.2.1;omega
  . obtain ⟨b,off,cs,h1,h2,h3,h4⟩:=h.2.2.2 (i+1) y (by simpa using hy)
    have hc:¬ c=1:=by
      have:=h.1;have:=h.2.1;have:=(al.1 hy).1;simp at *;omega
    rw [am hc,h1];exact ⟨b,off+1,cs,rfl,by rw [show off+1+i * 1=off+(i+1) * 1 by omega];exact h2,h3,h4⟩
def iW.head{s:World}{l:List iR}(h:iW s A n c l)(hn:0 < n):∃ b off x r,A=some ⟨b,off,none⟩/\l=x::r/\iH s b (off+0) [St x]/\x.length<=9223372036854775807:=by
 obtain ⟨b,off,x,h1,h2,h3,h4⟩:=iW.at_ h hn;obtain ⟨r,hr⟩:∃ r,l=x::r:=by
  cases l with
  | nil=>cases h2
  | cons y r=>simp at h2;subst h2;exact ⟨r,rfl⟩
 exact ⟨b,off,x,r,h1,hr,h3,h4⟩
structure GP(s:World):Prop where
 gw:GW s
 asc:∃ ty fz,s.heap[0]?=some (.cells (Lib.asciiSpaceTab.map λz=>Value.int .u8 z).toArray ty fz)
def GP.le{s:World}(h:GP s)(hl:Le D s s'):GP s':=by
 obtain ⟨h1,⟨t,f,h2⟩⟩:=h;exact ⟨h1.le hl,⟨t,f,qqX h2 hl⟩⟩
def qFk(h:GP w):Lib.TabIs Tryz.prog w "strings.asciiSpace" .u8 Lib.asciiSpaceTab:=by
 obtain ⟨t,f,h1⟩:=h.asc;have hg:Tryz.prog.globalNamed "strings.asciiSpace" = some 0:=by kernel_rfl
 simp only [Lib.TabIs,World.var?,hg,gM,h1]
section
variable(D:Nat)(L:Hl)(s:World)
def qk6:sR Tryz.prog 222:=⟨_,Tryz.func222,by kernel_rfl,by kernel_rfl⟩
def YZ:sR Tryz.prog 116:=⟨_,Tryz.func116,by kernel_rfl,by kernel_rfl⟩
def okA(l:iR):Bool:=l.all λc=>decide (c.toNat < 128) && (decide (c=32) || decide (c=10) || !(decide (c.toNat=9) || decide (c.toNat=11) || decide (c.toNat=12) || decide (c.toNat=13)))
end
section
variable(L:Hl)(s:World)
def qpe(h:iW s A n c ws)(hl:Le D s w){off:Nat}(hA:A=some ⟨b,off,none⟩):∀ (j:Nat) (x:ByteArray),(ws.map λx=>(⟨x.toArray⟩:ByteArray))[j]?=some x->w.cell? ⟨b,off+j,none⟩=some (.string x):=by
 intro j x hj;rw [db] at hj;obtain ⟨y,hy,rfl⟩:=dE.1 hj;obtain ⟨b',off',cs,h1,h2,_,rfl,_⟩:=h.2.2.2 j y hy;rw [hA] at h1;injection h1 with h1;injection h1 with e1 e2;subst e1;subst e2
 exact hl.cell (by simpa using h2 0 (St y) rfl)
end
attribute [local irreducible] JC JO JA JB lZ mF mM AC fill iH QE Ev mq
def Zx{i:Nat}(hi:i≠0):sG i l=!l.any xD:=by
 induction l generalizing i with
 | nil=>rfl
 | cons c l ih=>
  simp only [sG,fx,ih (by omega:i+1≠0),tV,xD,hi,fO,gz,decide_true,dC,Bool.not_or];cases uG c<;>cases tB c<;>rfl
def qoX{c:UInt8}(h:l[0]?=some c)(h6:l.length<=6)(hc:¬ ((c.toNat:Int) < 97)/\¬ (122 < (c.toNat:Int))):nJ l=!l.any xD:=by
 obtain ⟨r,rfl⟩:=RL h;have hl:uG c=true:=by simp only [uG,aA,aF];omega
 have h7:decide ((c::r).length<=6)=true:=bO h6;have hb:xD c=false:=by simp [xD,hl]
 simp only [nJ,sG,tV,hl,h7,gS,fy,fx,hb,ep,Zx (l:=r) (i:=0+1) O];simp
def quu{c:UInt8}(h:l[0]?=some c)(hc:(c.toNat:Int) < 97\/122 < (c.toNat:Int)):nJ l=false:=by
 obtain ⟨r,rfl⟩:=RL h;have hl:uG c=false:=by rw [eD];simp only [uG,fO,aA,aF];omega
 simp [nJ,sG,tV,hl]
def Jl{p:Prop} (h:p:=by
  refine ⟨?_,Z⟩;first
    | (simp [kB,nJ, *];done)
    | (rw [show nJ l=false from quu pQ O];rfl)
    | (have h6:¬ l.length<=6:=by omega
       simp [kB,nJ,h6];done)
    | (rw [qoX pQ O O];rfl)):p:=h
def Nn:AV9 D 208 [St l] L s (.bool (nJ l)):=by
 refine jv (fn:=f208) jl func208 V Z ntmps208 Z (rs:=[.tmp 2]) Z [(0,_)] Z<|G9 ?_;refine uX Y3<|jY Y2<|?_;refine kT (t:=5) Z ?_ ?_<;>intro c1;.refine UX ?_;exact rY Z λ_ iL=>Jl
 refine G3 ?_;refine DD Z Z Z Z<|G4 ?_;refine kT (t:=10) Z ?_ ?_<;>intro c2;.refine zx ?_;exact rY Z λ_ iL=>Jl
 refine G3 ?_;obtain ⟨ch,pQ⟩:∃ ch,l[0]?=some ch:=⟨_,ax (fR.2 As)⟩;refine iI (Bu Y4 pQ) Z<|G4 ?_;refine kT (t:=15) Z ?_ ?_<;>intro c3;.refine qP ?_;exact rY Z λ_ iL=>Jl
 refine G3 ?_;refine iI (Bu Y4 pQ) Z<|J5 ?_ ?_<;>intro c4;.refine G7 ?_;exact rY Z λ_ iL=>Jl
 refine G5 ?_;refine Je Y3 (ql9) λs5 h5=>G5 ?_;exact rX [] L Z h5 λ_ iL=>Jl
def qqO(c:UInt8)(l:iR):(DG (qQ c l) < 0/\po c l=(l,[],false))\/∃ i:Nat,DG (qQ c l)=(i:Int)/\i+1<=l.length/\po c l=(l.take i,l.drop (i+1),true):=by
 cases h:qQ c l with
 | none=>exact .inl ⟨by simp [DG],by simp [po,h]⟩
 | some i=>exact .inr ⟨i,rfl,qxU h,by simp [po,h]⟩
def qAb{c:UInt8}(hl:l.length<=9223372036854775806):AV9 D 247 [St l,St [c]] L s (.tuple #[St (po c l).1,St (po c l).2.1,.bool (po c l).2.2]):=by
 refine jv (fn:=f247) jl func247 V Z ntmps247 Z (rs:=[.tmp 4,.tmp 5,.tmp 6]) Z [(0,_),(1,_)] Z<|mn ?_;refine Je Y3 (quf _ _) λs1 h1=>G6 ?_;refine uH Y3<|J2 ?_ ?_<;>intro c2
 .obtain ⟨hneg,_⟩|⟨i,hi,zK,hcut⟩:=qqO c l
  . exact absurd c2 O
  rw [hi];refine Zs<|ma jF 12 Z _ (λ_ h=>h) λs3 h3=>H2 ?_;refine za 2 Z (qEV Z Z Z Z O) Z<|H3 ?_;refine za 6 Z (qpF Z Z Z) Z<|za 7 Z (nD (c:=((i+1:Nat):Int)) Z Z (by rw [jB Q8 Q8];simp)) Z<|za 8 Z (qEW Z Z Z Z O) Z<|H3 ?_;refine jq V<|G3 ?_;refine rR [] L (.tmp Z (.tmp Z (.t1 Z))) Z Lc λ_ iL=>?_;refine ⟨?_,Z⟩;rw [hcut];rfl
 obtain ⟨hneg,hcut⟩|⟨i,hi,_,_⟩:=qqO c l
 rotate_left
 . exact absurd c2 O
 refine k8 ?_;refine rR [] L (.tmp Z (.tmp Z (.t1 Z))) Z h1 λ_ iL=>?_;refine ⟨?_,Z⟩;rw [hcut];rfl
def qxL(l:iR)(c:UInt8)(hl:l.length<=9223372036854775806):AV9 D 204 [St l,St [c]] L s (.tuple #[St (po c l).1,St (po c l).2.1,.bool (po c l).2.2]):=by
 refine jv (fn:=f204) jl func204 V Z ntmps204 Z (rs:=[.tmp 4,.tmp 5,.tmp 6]) Z [(0,_),(1,_)] Z<|k8 ?_;refine Je Y3 (qAb _ hl) λs1 h1=>G9 ?_;exact rR [] L (.tmp Z (.tmp Z (.t1 Z))) Z h1 λ_ iL=>ry
def qp0(l:iR)(c:UInt8)(hl:l.length<=4000000):Ap9 D 121 [St l,St [c]] L s λv L' s'=>L=L'/\∃ A n c',v=.slice A n c'/\iW s' A n c' (splitB (c.toNat:Int) l):=by
 refine jv (fn:=f121) jl func121 V Z ntmps121 Z (rs:=[.tmp 4]) Z [(0,_),(1,_)] Z<|G9 ?_;refine Jc Y3 (qmo hl) ?_;rintro _ _ s1 h1 ⟨rfl,Ar,nr,cr,rfl,hr⟩;refine G4 ?_;exact rX [] L Z h1 λ_ iL=>⟨rfl,_,_,_,rfl,hr.le Lc⟩
end
section
variable(L:Hl){lab o:iR}{W r:List iR}
structure Ln where
 label:iR
 op:iR
 has:Bool
 name:iR
 num:Int
 deriving DecidableEq
def Ln.cs(x:Ln):LVal9:=[St x.label,St x.op,.bool x.has,St x.name,iO x.num]
def xI(w:iR):Option (iR×Int):=
 if nJ (po 43 w).1=true then (if (po 43 w).2.2=true then (vL (po 43 w).2.1).map (λ(n:Nat)=>((po 43 w).1,(n:Int))) else some ((po 43 w).1,0)) else (vL w).map λ(n:Nat)=>([],(n:Int))
def CN:List iR->Option (iR×List iR)
 | []=>some ([],[])
 | w::r=>if Dy 58 w=true then (if nJ w.dropLast=true then some (w.dropLast,r) else none) else some ([],w::r)
def zh(lab:iR):List iR->Option Ln
 | []=>some ⟨lab,[],false,[],0⟩
 | [o]=>if nJ o=true then some ⟨lab,o,false,[],0⟩ else none
 | [o,w]=>if nJ o=true then (xI w).map λx=>⟨lab,o,true,x.1,x.2⟩ else none
 | _::_::_::_=>none
def Qs(ws:List iR):Option Ln:=(CN ws).bind λx=>zh x.1 x.2
def qJ(l:iR):Option Ln:=Qs (uZ (po 59 l).1)
theorem qqq(c:UInt8)(l:iR):(po c l).1.length<=l.length/\(po c l).2.1.length<=l.length:=by grind [po]
def Yx(h:nJ l=true):l≠[]/\l.length<=6:=by simp_all [nJ,aA,aF]
def FT(hW:uZ (po 59 l).1=W)(h:CN W=some (lab,R)):qJ l=zh lab R:=by
 rw [qJ,Qs,hW,h];rfl
def qul(hW:uZ (po 59 l).1=W)(h:CN W=none):qJ l=none:=by
 rw [qJ,Qs,hW,h];rfl
def Zq(h:nJ o=true):zh lab [o]=some ⟨lab,o,false,[],0⟩:=by simp [zh,h]
def Zw{w:iR}(h:nJ o=true):zh lab [o,w]=(xI w).map λx=>⟨lab,o,true,x.1,x.2⟩:=by simp [zh,h]
def qp8(h:nJ o=false):zh lab (o::r)=none:=by
 match r with
 | []=>simp [zh,h]
 | [w]=>simp [zh,h]
 | _::_::_=>rfl
def qon(h:2 < r.length):zh lab r=none:=by
 match r,h with
 | _::_::_::_,_=>rfl
attribute [local irreducible] JC JO JA JB lZ mF mM AC fill iH QE Ev mq
def qtZ(hG:GW s)(u:Nat)(hu:u < 4294967296):AV9 D 226 [.int .u64 (u:Int),iJ 10] L s (St (Lib.decDigits u)):=by
 refine jv (fn:=f226) jl func226 V Z ntmps226 Z (rs:=[.tmp 4]) Z [(0,_),(1,_)] Z<|vT ?_ ?_<;>intro c1
 .refine J7 ?_ ?_<;>intro c2;.refine Sr<|jY Y2<|iI (sn Y5 (jB O O)) Z<|Je Y3 (qva u O) λs3 h3=>G6 ?_;exact rX [] L Z h3 λ_ iL=>ry
  refine Zk<|Zt<|Sr<|jp Z [_,_,_,_,_,_,_,_,_,_,_,_,_,_,_,_,_,_,_,_,_,_,_,_] Y2 λβ3 s3 h3=>G5 ?_;refine Je Y3 (qJd Pz u O hu) λs4 h4=>G6 ?_;refine iI (qxr Z Z Z Z Z (by have:=Qu hu;omega)) Z<|jY Y2<|Jc Y3 (qqQ u hu) ?_;rintro _ _ s5 h5 ⟨rfl,ys,rfl,hys⟩;refine Nt<|Zs<|tO [] [_] ?_;intro s6 h6 hpub6;simp only [iU,iV];have hbt:=qzS (l:=Lib.decDigits u) (hpub6 _ _ _ Mc) hys O;rw [eL] at hbt;refine Zr<|jY Y2<|iI (qxr Z Z Z Z Z (by have:=Qu hu;omega)) Z<|iI (qEQ Z Z Z Z Z Z Z Pz) Z<|G5 ?_;exact rX [] L Z Lc λ_ iL=>ry
 exact absurd rfl c1
def WR{p:Prop} (h:p:=by
 rintro _ _ s1 h1 ⟨rfl,rfl⟩;refine G4 ?_;exact rX [] L Z h1 λ_ iL=>ry):p:=h
def qqJ(hG:GW s)(u:Nat)(hu:u < 4294967296):AV9 D 183 [.int .u64 (u:Int),iJ 10] L s (St (Lib.decDigits u)):=by
 refine jv (fn:=f183) jl func183 V Z ntmps183 Z (rs:=[.tmp 4]) Z [(0,_),(1,_)] Z<|G9 ?_;refine Jc Y3 (qtZ _ Pz u hu) ?_;exact WR
def Qc:prog.underlying 216=some (.interface (prog.methodsAt 216)):=by kernel_rfl
def qrJ(hG:GW s)(l:iR)(hl:l.length<=281474976710656):Ap9 D 271 [St l,iJ 10,iJ 32] L s λv L' _=>L=L'/\∃ n e b,v=.tuple #[.int .u64 n,e]/\V0 e b/\(b=true->∃ u:Nat,n=(u:Int)/\Lib.parseUintB 32 l=.ok u)/\(b=false->∀ u,Lib.parseUintB 32 l≠.ok u):=
 (quO L s hG l hl).mono λv L' s' _ ⟨hv,hL⟩=>by
  refine ⟨hL,?_⟩;cases hv with
  | ok u h=>exact ⟨_,_,true,rfl,.inl ⟨rfl,rfl⟩,λ_=>⟨u,rfl,h⟩,λh=>by cases h⟩
  | bad h n t p=>exact ⟨_,_,false,rfl,.inr ⟨_,_,rfl,rfl⟩,(λh=>by cases h),λ_=>h⟩
def GB{p:Prop} (h:p:=by
  first
    | (refine ⟨rfl,IntKind.u32.wrap (u:Int),?_,qsG,λv hv=>?_⟩
       . rw [<- qA3 hu];rfl
       . have:=qA4 hu hv;subst this;exact Na (by have:=gA hu;omega))
    | (refine ⟨rfl,IntKind.u32.wrap n,?_,qsG,λv hv=>?_⟩
       . rw [qrx (hF As)];rfl
       . rw [qrx (hF As)] at hv;cases hv)):p:=h
def YQ(hG:GW s)(hl:l.length<=281474976710656):Ap9 D 250 [St l] L s λv L' _=>L=L'/\∃ k,v=.tuple #[iO k,.bool (vL l).isSome]/\iY k/\∀ u,vL l=some u->k=(u:Int):=by
 refine jv (fn:=f250) jl func250 V Z ntmps250 Z (rs:=[.tmp 2,.tmp 3]) Z [(0,_)] Z<|G9 ?_;refine Jc Y3 (qrJ _ Pz l hl) ?_;rintro _ _ s1 h1 ⟨rfl,n,e,b,rfl,hE,hT,hF⟩;refine lF ?_;refine iI (Ga Z Z Z Z Z) Z<|jY Y2<|iI (qy4 Qc Z hE) Z<|jY Y2 ?_;refine F9 (t:=15) Z ?_ ?_<;>intro c2;.refine Zg Z Z ?_;obtain ⟨u,rfl,hu⟩:=hT As;refine G2 ?_;refine Je Y3 (qqJ _ Pz u (by have:=gA hu;omega)) λs3 h3=>G3 ?_;refine uX Y3<|G6 ?_;exact rR [] L (.tmp Z (.t1 Z)) Z Lc λ_ iL=>GB
 refine lF ?_;exact rR [] L (.tmp Z (.t1 Z)) Z h1 λ_ iL=>GB
def O8{p:Prop} (h:p:=by
  first
    | (refine ⟨rfl,(po 43 l).1,0,?_,uT,λx hx=>?_⟩
       . rw [show xI l=some ((po 43 l).1,0) by rw [xI,aw AY,am (by rw [Bb];decide)]];rfl
       . rw [show xI l=some ((po 43 l).1,0) by rw [xI,aw AY,am (by rw [Bb];decide)]] at hx;injection hx)
    | (have he:xI l=(vL (po 43 l).2.1).map (λ(n:Nat)=>((po 43 l).1,(n:Int))):=by rw [xI,aw AY,aw Bb]
       refine ⟨Z,(po 43 l).1,k,?_,hku,λx hx=>?_⟩
       . rw [he,eE];rfl
       . rw [he] at hx
         obtain ⟨u,hu,rfl⟩:=dE.1 hx;rw [hkv u hu])
    | (have he:xI l=(vL l).map (λ(n:Nat)=>([],(n:Int))):=by rw [xI,am (by rw [AY];decide)]
       refine ⟨Z,[],k,?_,hku,λx hx=>?_⟩
       . rw [he,eE];rfl
       . rw [he] at hx
         obtain ⟨u,hu,rfl⟩:=dE.1 hx;rw [hkv u hu])):p:=h
def TL{p:Prop} (h:p:=by
 exact rR [_] L (.agg (us:=[_,_]) 0 Z Z Z Z Z (.t1 Z)) Z Lc λ_ iL=>O8):p:=h
def YR(hG:GW s)(l:iR)(hl:l.length<=281474976710656):Ap9 D 209 [St l] L s λv L' _=>L=L'/\∃ nm k,v=.tuple #[.agg #[St nm,iO k],.bool (xI l).isSome]/\iY k/\∀ x,xI l=some x->(nm,k)=x:=by
 have pT:=(qqq 43 l).2;refine jv (fn:=f209) jl func209 V Z ntmps209 Z (rs:=[.cell 2 224,.tmp 3]) Z [(0,_)] Z<|Sr<|jp Z [_,_] Y2 λβ1 s1 h1=>G6 ?_;refine Je Y3 (qxL _ l 43 O) λs2 h2=>IN ?_;refine Je Y3 (Nn _) λs3 h3=>G2 ?_;refine qT Z ?_ ?_<;>intro c4
 .have AY:=c4;refine G7 ?_;refine vB Z ?_ ?_<;>intro c5;.have Bb:=c5;refine Sr<|jY Y2<|iI (jC [(_,_)] [_,_] Y3 Z Z Z) Z<|Wt 0 [_,_] Y9<|G6 ?_;exact TL
  have Bb:=c5;refine G5 ?_;refine Jc Y3 (YQ _ Pz O) ?_;rintro _ _ s6 h6 ⟨rfl,k,rfl,hku,hkv⟩;refine k8 ?_;refine iI (jC [(_,_),(_,_)] [_,_] Y3 Z Z Z) Z<|jY Y2<|Wt 0 [_,_] Y9<|G5 ?_;exact TL
 have AY:=c4;refine G5 ?_;refine Jc Y3 (YQ _ Pz hl) ?_;rintro _ _ s5 h5 ⟨rfl,k,rfl,hku,hkv⟩;refine lF ?_;refine iI (jC [(_,_)] [_,_] Y3 Z Z Z) Z<|jY Y2<|Wt 0 [_,_] Y9<|G4 ?_;exact TL
def E9{p:Prop} (h:p:=by
  first
    | (have hN:qJ l=none:=by
         first
         | exact qul hWW (by rw [CN,aw he,am (by rw [AY];decide)])
         | (rw [hlab];exact qp8 As)
         | (rw [hlab];exact qon (by simp only [au];omega))
       rw [hN];exact ⟨rfl,⟨[],[],false,[],0⟩,rfl,uT,λy hy=>by cases hy⟩)
    | (rw [hlab,Zw As,eE]
       first
       | exact ⟨rfl,⟨[],w1,true,nm,kk⟩,rfl,hku,λy hy=>by
           obtain ⟨x,hx,rfl⟩:=dE.1 hy;have:=hkv x hx;subst this;rfl⟩
       | exact ⟨rfl,⟨w0.dropLast,w1,true,nm,kk⟩,rfl,hku,λy hy=>by
           obtain ⟨x,hx,rfl⟩:=dE.1 hy;have:=hkv x hx;subst this;rfl⟩)
    | (obtain rfl:R1=[]:=aG O
       rw [hlab,Zq As];first
       | exact ⟨rfl,⟨[],w1,false,[],0⟩,rfl,uT,λy hy=>by injection hy⟩
       | exact ⟨rfl,⟨w0.dropLast,w1,false,[],0⟩,rfl,uT,λy hy=>by injection hy⟩)
    | (have hR:R=[]:=aG O
       subst hR;rw [hlab];exact ⟨rfl,⟨w0.dropLast,[],false,[],0⟩,rfl,uT,λy hy=>by injection hy⟩)
    | (rw [hlab]
       exact ⟨rfl,⟨[],[],false,[],0⟩,rfl,uT,λy hy=>by injection hy⟩)
    | (exfalso;simp only [au] at hn;omega)):p:=h
def TS{p:Prop} (h:p:=by
 exact rR [_,_] L (.agg (us:=[_,_,_,_,_]) 1 Z Z Z Z Z (.t1 Z)) Z (h1.t h2|>.t h3|>.t h4|>.t h6|>.t h9) λ_ iL=>E9):p:=h
def TR{p:Prop} (h:p:=by
 exact rR [_,_] L (.agg (us:=[_,_,_,_,_]) 1 Z Z Z Z Z (.t1 Z)) Z (h1.t h2|>.t h3|>.t h4|>.t h6|>.t h8|>.t jN|>.t jL) λ_ iL=>E9):p:=h
def qmB(hG:GW s)(l:iR)(hl:l.length<=400000):Ap9 D 156 [St l] L s λv L' _=>L=L'/\∃ x:Ln,v=.tuple #[.agg x.cs.toArray,.bool (qJ l).isSome]/\iY x.num/\∀ y,qJ l=some y->x=y:=by
 have pT:=(qqq 59 l).1;refine jv (fn:=Tryz.f156) jl Tryz.func156 V Z Tryz.ntmps156 Z (rs:=[.cell 2 261,.tmp 3]) Z [(0,_)] Z<|Sr<|jp Z [_,_,_,_,_] Y2 λβ1 s1 h1=>G6 ?_;refine Je Y3 (qxL _ l 59 O) λs2 h2=>lF ?_;refine Jc Y3 (qqD O) ?_;have e2q:=h1.t h2;rintro _ _ s3 h3 ⟨rfl,Aw,nw,cw,rfl,hW⟩;have e3:=e2q.t h3;have hn:=hW.1;have oT:∀ x∈uZ (po 59 l).1,x.length<=400000:=λx hx=>by have:=(qqI hx).2;omega
 generalize hWW:uZ (po 59 l).1=W at hW oT hn;refine At Z Z<|Sr<|jp Z [_,_,_,_,_] Y2 λβ4 s4 h4=>lF ?_;have e4:=e3.t h4;refine mE Z ?_ ?_<;>intro c5
 .obtain ⟨b0,off0,w0,R,rfl,hWc,hc0,hlw0⟩:=iW.head (hW.le h4) (show 0 < nw by omega);subst hWc;refine Sr<|jY Y2<|iI (ly (j:=0) Y6 (show 0 < nw by omega)) Z<|iI (jW Y3 (hc0.le (Lr D)) Z) Z<|Je Y3 (qkQ _ _ 58 hlw0) λs6 h6=>mn ?_;have e6:=e4.t h6;refine qT Z ?_ ?_<;>intro c7
  .have he:=c7;rw [aw he];refine G4 ?_;refine Je Y3 (Nn _) λs8 h8=>G3 ?_;refine vB Z ?_ ?_<;>intro c9;.have AY:=c9;refine Sr<|iI (jC [] [_,_,_,_,_] Y3 Z Z Z) Z<|Wt 1 [_,_,_,_,_] Y9<|G6 ?_;exact rR [_,_] L (.agg (us:=[_,_,_,_,_]) 1 Z Z Z Z Z (.t1 Z)) Z (e6.t h8) λ_ iL=>E9
   have AY:=c9;obtain ⟨A1,n1,c1,hsl,kL⟩:=iW.tail (hW.le (h4.t h6|>.t h8));have hlab:qJ l=zh w0.dropLast R:=FT hWW (by rw [CN,aw he,aw AY]);have lX:=kL.1;refine Zk<|Zt<|pm jF 6 Z [0] Q3 λku jN=>H2 ?_;refine za 2 Z (jD (S6 (j:=1) Z Z Z Z Z O) hsl) Z<|H1 ?_;refine iM 4 V<|Wu Z Tt 0 [_,_,_,_,_] Y9 (sM (mT (jT)))<|H1 ?_;refine jq V<|G9 ?_;have e10:=e6.t h8|>.t jN;refine mE Z ?_ ?_<;>intro mN;.have hz1:=mN;refine Sr<|iI (jh 0 [_,_,_,_,_] Y5) Z<|Wt 1 [_,_,_,_,_] Y9<|G5 ?_;exact rR [_,_] L (.agg (us:=[_,_,_,_,_]) 1 Z Z Z Z Z (.t1 Z)) Z e10 λ_ iL=>E9
   obtain ⟨b1,off1,w1,R1,rfl,hR1,mX,hlw1⟩:=iW.head (kL.le jN) O;subst hR1;simp only [au] at lX;refine G6 ?_;refine iI (ly (j:=0) Y6 O) Z<|iI (jW Y3 (mX.le (Lr D)) Z) Z<|Je Y3 (Nn _) λkc jL=>G2 ?_;refine EL (t:=45) Z ?_ ?_<;>intro oP;.refine G9 ?_;refine iI (jC [] [_,_,_,_,_] Y3 Z Z Z) Z<|Wt 1 [_,_,_,_,_] Y9<|G5 ?_;exact TR
   refine J9 ?_ ?_<;>intro rO;.refine Sr<|iI (jC [] [_,_,_,_,_] Y3 Z Z Z) Z<|Wt 1 [_,_,_,_,_] Y9<|G5 ?_;exact TR
   refine G5 ?_;refine iI (ly (j:=0) Y6 O) Z<|iI (jW Y3 (mX.le jL) Z) Z<|Wb Y5<|Wt 0 [_,_,_,_,_] Y9<|Ek ?_ ?_<;>intro ve
   .obtain ⟨b2,off2,w2,lG,hw2,oR,hlw2⟩:=iW.at_ (kL.le (jN.t jL)) (show 1 < _ by omega);injection lG with lG
    injection lG with e1 e2;subst e1;subst e2;have qs:w2.length<=400000:=oT _ Q29;obtain rfl:R1=[w2]:=by
      match R1,hw2,lX with
      | [],h,_=>cases h
      | [y],h,_=>simp at h;rw [h]
      | _::_::_,_,h=>simp at h;omega
    refine Sr<|Wb Y5<|Wt 0 [_,_,_,_,_] Y9<|G4 ?_;refine iI (ly (j:=1) Y6 O) Z<|iI (jW Y3 (oR.le (Lr D)) Z) Z<|Jc Y3 (YR _ (hG.le (e10.t jL)) w2 O) ?_;rintro _ _ qW qD ⟨rfl,nm,kk,rfl,hku,hkv⟩;refine X26 ?_;exact rR [_,_] L (.agg (us:=[_,_,_,_,_]) 1 Z Z Z Z Z (.t1 Z)) Z (e10.t jL|>.t qD) λ_ iL=>E9
   refine Zk<|Zt<|Sr<|iI (jh 0 [_,_,_,_,_] Y5) Z<|jY Y2<|Wt 1 [_,_,_,_,_] Y9<|G4 ?_;exact TR
  have he:=c7;have hlab:qJ l=zh [] (w0::R):=FT hWW (by rw [CN,am (by rw [he];decide)]);have kL:=hW.le (h4.t h6);refine sA ?_ ?_<;>intro c8;.have hz1:=c8;exfalso;omega
  have mX:=hc0.le h6;have hlw1:=hlw0;obtain ⟨w1,R1,e1,e2⟩:∃ a b,a=w0/\b=R:=⟨_,_,rfl,rfl⟩;subst e1;subst e2;have lX:=hn;simp only [au] at lX;refine G6 ?_;refine iI (ly (j:=0) Y6 O) Z<|iI (jW Y3 (mX.le (Lr D)) Z) Z<|Je Y3 (Nn _) λs9 h9=>G2 ?_;refine EL (t:=45) Z ?_ ?_<;>intro my;.refine G9 ?_;refine iI (jC [] [_,_,_,_,_] Y3 Z Z Z) Z<|Wt 1 [_,_,_,_,_] Y9<|G5 ?_;exact TS
  refine J9 ?_ ?_<;>intro mN;.refine Sr<|iI (jC [] [_,_,_,_,_] Y3 Z Z Z) Z<|Wt 1 [_,_,_,_,_] Y9<|G5 ?_;exact TS
  refine G5 ?_;refine iI (ly (j:=0) Y6 O) Z<|iI (jW Y3 (mX.le h9) Z) Z<|Wb Y5<|Wt 0 [_,_,_,_,_] Y9<|Ek ?_ ?_<;>intro nU
  .obtain ⟨b2,off2,w2,lG,hw2,oR,hlw2⟩:=iW.at_ (kL.le h9) (show 1 < _ by omega);injection lG with lG
   injection lG with e1 e2;subst e1;subst e2;have qs:w2.length<=400000:=oT _ Q29;obtain rfl:R1=[w2]:=by
     match R1,hw2,lX with
     | [],h,_=>cases h
     | [y],h,_=>simp at h;rw [h]
     | _::_::_,_,h=>simp at h;omega
   refine Sr<|Wb Y5<|Wt 0 [_,_,_,_,_] Y9<|G4 ?_;refine iI (ly (j:=1) Y6 O) Z<|iI (jW Y3 (oR.le (Lr D)) Z) Z<|Jc Y3 (YR _ (hG.le (e6.t h9)) w2 O) ?_;rintro _ _ kY kN ⟨rfl,nm,kk,rfl,hku,hkv⟩;refine X26 ?_;exact rR [_,_] L (.agg (us:=[_,_,_,_,_]) 1 Z Z Z Z Z (.t1 Z)) Z (e6.t h9|>.t kN) λ_ iL=>E9
  refine Zk<|Zt<|Sr<|iI (jh 0 [_,_,_,_,_] Y5) Z<|jY Y2<|Wt 1 [_,_,_,_,_] Y9<|G4 ?_;exact TS
 have hW0:W=[]:=aG O;subst hW0;have hlab:qJ l=zh [] []:=FT hWW rfl;have kL:=hW;refine sA ?_ ?_<;>intro c6;.have hz1:=c6;refine Sr<|iI (jh 0 [_,_,_,_,_] Y5) Z<|Wt 1 [_,_,_,_,_] Y9<|G5 ?_;exact rR [_,_] L (.agg (us:=[_,_,_,_,_]) 1 Z Z Z Z Z (.t1 Z)) Z e4 λ_ iL=>E9
 exact absurd (by simp at hn;omega) c6
end
section
variable(D:Nat)(L:Hl)(s:World){w:LInt9}{x:Ln}{code i xk yc:Int}{own xh:Bool}{R:Hl}{k xl xo xn:iR}
structure AG where
 vw:Value
 Mw:Hl
 vl:Value
 Ml:Hl
 vr:Value
 Mr:Hl
 es:List (iR×Value×Nat)
 ck:Nat
 w:LInt9
 l:List (iR×Int)
 r:List (Int×Nat×iR×Int)
def Fs(l:List (iR×Int)):LVal9:=(l.map λx=>[St x.1,Value.int .u32 x.2]).flatten
def Gu(r:List (Int×Nat×iR×Int)):LVal9:=(r.map λx=>[Value.int .i64 x.1,Value.int .i64 (x.2.1:Int),St x.2.2.1,Value.int .u32 x.2.2.2]).flatten
def ml:List (iR×Int)->iR->Option Int
 | [],_=>none
 | x::l,k=>if x.1=k then some x.2 else ml l k
structure nn(g:AG):Prop where
 hw:Own 22 1 g.Mw g.vw g.w.length (wv g.w)
 hl:Own 265 2 g.Ml g.vl g.l.length (Fs g.l)
 hr:Own 226 4 g.Mr g.vr g.r.length (Gu g.r)
 he:∀ k,kS g.es k=(ml g.l k).map (Value.int .u32)
 uw:∀ x∈g.w,iY x
 ul:∀ x∈g.l,iY x.2
 ur:∀ x∈g.r,iY x.2.2.2
def HA(ba bm:Nat)(tc:Int)(A:OAdr9)(n c:Nat)(g:AG)(L:Hl):Hl:=
 (ba,cb [iJ tc,.slice A n c,g.vw,g.vl,.map (some bm),g.vr] 170)::(bm,mp (λl=>St l) g.es g.ck)::(g.Mw++(g.Ml++(g.Mr++L)))
def quk(l:List (iR×Int))(k:iR)(a:Int):Fs (l++[(k,a)])=Fs l++[St k,iO a]:=by simp [Fs]
def quU(r:List (Int×Nat×iR×Int))(i:Int)(p:Nat)(k:iR)(a:Int):Gu (r++[(i,p,k,a)])=Gu r++[iJ i,iJ (p:Int),St k,iO a]:=by simp [Gu]
def qC4(w:LInt9)(x:Int):wv (w++[x])=wv w++[iO x]:=by simp [wv]
def qxh(w:LInt9)(m:Nat):wv (w++List.replicate m 0)=wv w++List.replicate m (iO 0):=by simp [wv]
def Yw(l:List (iR×Int))(k j:iR)(a:Int)(h:ml l k=none):ml (l++[(k,a)]) j=if j=k then some a else ml l j:=by
  induction l with
  | nil=>simp only [aD,ml];by_cases h':k=j<;>simp [h',eq_comm]
  | cons x l ih=>
    simp only [ml] at h;split at h
    . cases h
    . rename_i hx
      simp only [ao,ml,ih h];by_cases hj:x.1=j
      . subst hj;simp [hx]
      . simp [hj]
def rF:iR:=[115,112,97,99,101]
def pz(w:LInt9)(x:Ln)(code:Int)(own:Bool):LInt9:=
 if x.op=rF then w++List.replicate x.num.toNat 0 else if x.has then (if own then w else w++[code])++[x.num] else (if own then w else w++[code])
def sp(r:List (Int×Nat×iR×Int))(w:LInt9)(i:Int)(x:Ln)(code:Int)(own:Bool):List (Int×Nat×iR×Int):=
 if x.op=rF then r else if x.has=true/\x.name≠[] then r++[(i,(if own then w else w++[code]).length,x.name,x.num)] else r
def Rv(h:x.op=rF):pz w x code own=w++List.replicate x.num.toNat 0:=by rw [pz,aw h]
def qmc(h:x.op=rF):sp r w i x code own=r:=by rw [sp,aw h]
def Kj(ba bm:Nat)(tc:Int)(A:OAdr9)(n c:Nat)(g:AG)(x:Nat×Obj)(L:Hl):(HA ba bm tc A n c g (x::L)).Perm (x::HA ba bm tc A n c g L):=by
 unfold HA;refine List.Perm.trans ?_ (List.Perm.trans (List.Perm.cons _ (List.Perm.swap _ _ _)) (List.Perm.swap _ _ _));refine List.Perm.cons _ (List.Perm.cons _ ?_);refine List.Perm.trans ?_ (eR);refine ig _ ?_;refine List.Perm.trans ?_ (eR);exact ig _ eR
def Tb(ba bm:Nat)(tc:Int)(A:OAdr9)(n c:Nat)(g:AG)(x y:Nat×Obj)(L:Hl):(HA ba bm tc A n c g (x::y::L)).Perm (x::y::HA ba bm tc A n c g L):=
 (Kj ..).trans (List.Perm.cons _ (Kj ..))
def yi(o:iR):Bool:=decide (o=[119,111,114,100]\/o=[115,112,97,99,101])
def rr(l:List Ins)(nm:iR):Option Ins:=l.find? λy=>decide (y.name=nm)
def wE(t:l7)(o:iR):Int:=match rr t.U o with
 | some z=>z.code
 | none=>0
def FA(t:l7)(o:iR):Bool:=match rr t.U o with
 | some z=>z.I
 | none=>false
def pC(t:l7)(w:LInt9)(x:Ln):LInt9:=if x.op=[] then w else pz w x (wE t x.op) (yi x.op)
def xC(w:LInt9)(l:List (iR×Int))(x:Ln):List (iR×Int):=if x.label=[] then l else l++[(x.label,(w.length:Int))]
def tS(t:l7)(w:LInt9)(r:List (Int×Nat×iR×Int))(i:Int)(x:Ln):List (Int×Nat×iR×Int):=if x.op=[] then r else sp r w i x (wE t x.op) (yi x.op)
def oZ(t:l7)(w:LInt9)(l:List (iR×Int)):Option Ln->Int
 | none=>1
 | some x=>if x.label≠[]/\(ml l x.label).isSome=true then 8 else if x.op=[] then 0
  else if (rr t.U x.op).isSome=false/\yi x.op=false then 12
  else if x.has≠(yi x.op || FA t x.op) then 9
  else if x.op=[115,112,97,99,101]/\x.name≠[] then 6
  else if t.cells < ((pC t w x).length:Int) then 14 else 0
section
variable{t:l7}{w:LInt9}{l:List (iR×Int)}{x:Ln}(h8:¬ (x.label≠[]/\(ml l x.label).isSome=true))(ho:¬ x.op=[])
include h8 ho
theorem qzz(h:(rr t.U x.op).isSome=false/\¬ (x.op=[119,111,114,100]\/x.op=[115,112,97,99,101])):oZ t w l (some x)=12:=by
 rw [oZ,am h8,am ho,aw ⟨h.1,bQ h.2⟩]
variable(AM:¬ ((rr t.U x.op).isSome=false/\¬ (x.op=[119,111,114,100]\/x.op=[115,112,97,99,101])))(hoo:FA t x.op=yo)
include AM hoo
theorem qFc(h90:¬ x.has=(decide (x.op=[119,111,114,100]\/x.op=[115,112,97,99,101]) || yo)):oZ t w l (some x)=9:=by
 rw [oZ,am h8,am ho,am (λh=>AM ⟨h.1,dx h.2⟩),hoo];exact aw h90
variable(h90:¬ ¬ x.has=(decide (x.op=[119,111,114,100]\/x.op=[115,112,97,99,101]) || yo))
include h90
theorem qFb(h99:x.op=[115,112,97,99,101]/\¬ x.name=[]):oZ t w l (some x)=6:=by
 rw [oZ,am h8,am ho,am (λh=>AM ⟨h.1,dx h.2⟩),hoo];exact (am h90).trans (aw h99)
theorem qFa(h99:¬ (x.op=[115,112,97,99,101]/\¬ x.name=[])):oZ t w l (some x)=if t.cells < ((pC t w x).length:Int) then 14 else 0:=by
 rw [oZ,am h8,am ho,am (λh=>AM ⟨h.1,dx h.2⟩),hoo];exact (am h90).trans (am h99)
end
def qqy(w:LInt9)(x:Ln)(c d:Int):pz w x c true=pz w x d true:=by simp [pz]
def qqw(r:List (Int×Nat×iR×Int))(w:LInt9)(i:Int)(x:Ln)(c d:Int):sp r w i x c true=sp r w i x d true:=by simp [sp]
attribute [local irreducible] JC JO JA JB lZ mF mM AC fill iH QE Ev mq
def qtV(nm:iR)(y:Ins)(A':OAdr9)(n' c':Nat){β:Nat}:Ap9 D 210 [.agg #[St y.name,iO y.code,.bool y.I,.slice A' n' c'],jc β] (x0::(β,cb [St nm] 9)::L) s λv L' _=>v=.bool (decide (y.name=nm))/\x0::(β,cb [St nm] 9)::L=L':=by
 refine jv (fn:=f210) jl func210 V Z ntmps210 Z (rs:=[.tmp 3]) Z [(0,_),(1,_)] Z<|Sr<|kH Y2 λβ1 s1 h1=>G8 ?_;refine uX Y3<|At Z Z<|Zo ?_;exact rR [_] (x0::(β,cb [St nm] 9)::L) (.t1 Z) Z h1 λ_ iL=>ry
def q_{α:Type}(p:α->Bool)(l:List α)(j:Nat):(kM p l j=-1/\l.find? p=none)\/∃ i x,kM p l j=((j+i:Nat):Int)/\l[i]?=some x/\l.find? p=some x:=by
 induction l generalizing j with
 | nil=>exact .inl ⟨rfl,rfl⟩
 | cons y l ih=>
  simp only [kM,List.find?];cases h:p y with
  | true=>exact .inr ⟨0,y,by simp,rfl,rfl⟩
  | false=>
   rcases ih (j+1) with ⟨h1,h2⟩|⟨i,x,h1,h2,h3⟩
   . exact .inl ⟨by simpa using h1,h2⟩
   . exact .inr ⟨i+1,x,by simp only [dr,cm];rw [h1];congr 1;omega,h2,h3⟩
def O9{p:Prop} (h:p:=by
  first
    | (refine ⟨rfl,y,A',n',c',?_,jo,λz hz=>?_,λhz=>?_⟩
       . rw [rr,hf];rfl
       . rw [rr,hf] at hz;injection hz
       . rw [rr,hf] at hz;cases hz)
    | (refine ⟨rfl,⟨[],0,false,[]⟩,none,0,0,?_,uT,λz hz=>?_,λ_=>rfl⟩
       . rw [rr,hf];rfl
       . rw [rr,hf] at hz;cases hz)):p:=h
def W6{p:Prop} (h:p:=by
 exact rR [_,_] _ (.agg (us:=[_,_,_,_]) 0 Z Z Z Z Z (.t1 Z)) Z Lc λ_ iL=>O9):p:=h
def qtW(ba bm:Nat)(t:l7)(A:OAdr9)(n c:Nat)(hA:ky s A n c t.U)(g:AG)(nm:iR):Ap9 D 157 [jc ba,St nm] (HA ba bm t.cells A n c g L) s λv L' _=>L'=HA ba bm t.cells A n c g L/\∃ (y:Ins) (Ay:OAdr9) (ny cy:Nat),v=.tuple #[.agg #[St y.name,iO y.code,.bool y.I,.slice Ay ny cy],.bool (rr t.U nm).isSome]/\iY y.code/\(∀ z,rr t.U nm=some z->y=z)/\(rr t.U nm=none->y.I=false):=by
 have hn:=hA.1;simp only [HA];refine jv (fn:=f157) jl func157 V Z ntmps157 Z (rs:=[.cell 4 108,.tmp 5]) Z [(0,_),(1,_)] Z<|Sr<|Bs Z Z Z λβ1 s1 h1=>jp Z [_,_,_,_] Y2 λβ2 s2 h2=>lF ?_;refine iI (qw Z) Z<|Je Y3 (XN D _ _ Pz _ _ (λ(y:Ins)=>decide (y.name=nm)) (λs2 x A2 n2 c2=>qtV D _ s2 nm x A2 n2 c2)) λs3 h3=>sA ?_ ?_<;>intro c4
 .have hneg:=c4;obtain ⟨hi,hf⟩|⟨i,y,hi,hy,hf⟩:=q_ (λ(y:Ins)=>decide (y.name=nm)) t.U 0
  rotate_left
  . exact absurd hneg O
  refine Sr<|iI (jC [] [_,_,_,_] Y3 Z Z Z) Z<|Wt 0 [_,_,_,_] Y9<|G5 ?_;exact W6
 have hneg:=c4;obtain ⟨hi,hf⟩|⟨i,y,hi,hy,hf⟩:=q_ (λ(y:Ins)=>decide (y.name=nm)) t.U 0
 . exact absurd O hneg
 rw [hi,aZ];obtain ⟨b,off,y',A',n',c',rfl,hy',hcy,hay,kK,jo⟩:=ky.at_ Pz (show i < n by rw [hn];exact (al.1 hy).1);rw [hy] at hy';injection hy' with hy'
 subst hy';refine lF ?_;refine iI (jR Y6 (show i < n by rw [hn];exact (al.1 hy).1)) Z ?_;refine iI (kq Y3 Pz Z) Z<|Wt 0 [_,_,_,_] Y9<|G4 ?_;exact W6
def Rp{g:AG}{x:Int}(hg:nn g)(o:Own 22 1 M vw (g.w.length+1) (wv g.w++[iO x]))(hx:iY x):nn ⟨vw,M,g.vl,g.Ml,g.vr,g.Mr,g.es,g.ck,g.w++[x],g.l,g.r⟩:=
 ⟨by simp only [ac,au,ap,qC4];exact o,hg.hl,hg.hr,hg.he,λy hy=>by
  rcases aU.1 hy with h|h
  . exact hg.uw y h
  . rw [aV.1 h];exact hx,hg.ul,hg.ur⟩
def qks{g:AG}{x:Int}(hg:nn g)(o:Own 226 4 M vr (g.r.length+1) (Gu g.r++[iJ i,iJ (p:Int),St k,iO x]))(hx:iY x):nn ⟨g.vw,g.Mw,g.vl,g.Ml,vr,M,g.es,g.ck,g.w,g.l,g.r++[(i,p,k,x)]⟩:=
 ⟨hg.hw,hg.hl,by simp only [ac,au,ap,quU];exact o,hg.he,hg.uw,hg.ul,λy hy=>by
  rcases aU.1 hy with h|h
  . exact hg.ur y h
  . rw [aV.1 h];exact hx⟩
def qtg{g:AG}(hg:nn g)(o:Own 22 1 M vw (g.w.length+m) (wv g.w++List.replicate m (iO 0))):nn ⟨vw,M,g.vl,g.Ml,g.vr,g.Mr,g.es,g.ck,g.w++List.replicate m 0,g.l,g.r⟩:=
 ⟨by simp only [ac,cJ,qxh];exact o,hg.hl,hg.hr,hg.he,λy hy=>by
  rcases aU.1 hy with h|h
  . exact hg.uw y h
  . rw [(dQ.1 h).2];exact uT,hg.ul,hg.ur⟩
def XM(h:w1=if own=true then w else w++[yc])(hs:¬ xo=rF)(hh:xh=true):w1++[xk]=pz w ⟨xl,xo,xh,xn,xk⟩ yc own:=by
 subst h;subst hh;simp [pz,hs]
def qqv(h:w1=if own=true then w else w++[yc])(hs:¬ xo=rF)(hh:xh=false):w1=pz w ⟨xl,xo,xh,xn,xk⟩ yc own:=by
 subst h;subst hh;simp [pz,hs]
def qkU(h:w1=if own=true then w else w++[yc])(hs:¬ xo=rF)(hh:xh=true)(hn:¬ xn=[]):r++[(i,w1.length,xn,xk)]=sp r w i ⟨xl,xo,xh,xn,xk⟩ yc own:=by
 subst h;subst hh;simp [sp,hs,hn]
def qf0(hn:xn=[]):r=sp r w i ⟨xl,xo,xh,xn,xk⟩ yc own:=by
 subst hn;simp [sp]
def qfZ(hh:xh=false):r=sp r w i ⟨xl,xo,xh,xn,xk⟩ yc own:=by
 subst hh;simp [sp]
def qxB{x3 x4:Nat×Obj}{M1 M2:Hl}:x1::x2::x3::x4::(M1++(M2++R))=(x1::x2::x3::x4::(M1++M2))++R:=by simp
theorem xA{x a b:Nat×Obj}(hx:x∈(a::b::R).take 2):x∈a::b::R':=by grind
def NQ{k:Nat}(h:k < 4294967296):iY (k:Int):=⟨by omega,by omega⟩
def L5{p:Prop} (h:p:=by
  first
    | (refine ⟨(⟨.slice Aw w.length cw,Mw,.slice Al l.length cl,Ml,.slice Ar r.length cr,Mr,es,ck,w,l,r⟩:AG),rfl,14,rfl,.inl ⟨rfl,?_⟩⟩
       simp only [Rv (x:=⟨xl,xo,xh,xn,(xk:Int)⟩) xe,ac,cJ,aH];omega)
    | (refine ⟨⟨_,M1,_,Ml,_,Mr,es,ck,w++List.replicate xk 0,l,r⟩,rfl,0,rfl,.inr ⟨rfl,?_,qtg hg0 o1,?_,rfl,rfl,?_⟩⟩
       . simp only [Rv (x:=⟨xl,xo,xh,xn,(xk:Int)⟩) xe,ac,cJ,aH];omega
       . simp only [Rv (x:=⟨xl,xo,xh,xn,(xk:Int)⟩) xe,aH]
       . exact (qmc (x:=⟨xl,xo,xh,xn,(xk:Int)⟩) xe).symm)
    | (refine ⟨g,rfl,14,rfl,.inl ⟨rfl,?_⟩⟩
       rw [<- ew3];omega)
    | (refine ⟨g,rfl,0,rfl,.inr ⟨rfl,?_,hg3,ew3,el3,ee3,er3⟩⟩
       rw [<- ew3];omega)):p:=h
def HD{p:Prop} (h:p:=by
 intro v1 M1 s9 h9 o1;obtain ⟨Av1,cv1,rfl,kv1,kv12⟩:=Own.slice o1;simp only [ao,aD,an];refine H2 ?_;refine iM 11 V<|Wu Z Tt 2 [_,_,_,_,_,_] Y9 (sM (kX (pG)))<|jq V<|G3 ?_;refine Kt Z Z Z (jB O O)<|G2 ?_;refine jd (lR.mk ⟨_,M1,_,Ml,_,Mr,es,ck,w++[yc],l,r⟩ [] Lc (.cons Q16 (.nil _)) So Pr Q30)):p:=h
def Ht{p:Prop} (h:p:=by
 intro v3 M3 kc jL o3;obtain ⟨Av3,cv3,rfl,kv3,kv32⟩:=Own.slice o3;simp only [ao,aD,an];refine X7 ?_;refine Kt Z Z Z (jB O O)<|G2 ?_;refine jd (lR.mk ⟨_,M3,_,Ml1,_,Mr1,es1,rP,w1++[(xk:Int)],l1,r1⟩ [] Lc (.cons Q16 (.nil _)) So Pr Q22)):p:=h
def Hr{p:Prop} (h:p:=by
 intro v3 M3 lJ lr o3;obtain ⟨Av3,cv3,rfl,kv3,kv32⟩:=Own.slice o3;simp only [ao,aD,an];refine X7 ?_;refine Kt Z Z Z (jB O O)<|G2 ?_;refine jd (lR.mk ⟨_,M3,_,Ml1,_,M2,es1,rP,w1++[(xk:Int)],l1,r1++[(num,w1.length,xn,(xk:Int))]⟩ [] Lc (.cons Q16 (.nil _)) So Pr Q22)):p:=h
def UM{p:Prop} (h:p:=by
  intro βn kv jP pf;refine iM 15 V<|wD (sz:=4) Z (by exact Tt) (_::_::_::_::(Mw1++Ml1)) Mr1 qxB Z Z Z Z Z Z hOr1 (Row.of_cells Pz Z Z) ⟨by simp [yr];omega,by omega⟩ Z (λA2 x hx _=>xA hx) ?_;intro v2 M2 kc jL o2;obtain ⟨Av2,cv2,rfl,kv2,kv22⟩:=Own.slice o2;simp only [ao,aD,an];refine H2 ?_;refine iM 18 V<|Wu Z Tt 2 [_,_,_,_,_,_] Y9 (sM (kX (pG)))<|jq V<|Zt<|Zs<|mh jF 13 Z 2 λkY kN=>H7 ?_;refine kD 4 8 V ?_ ?_;.refine j5 Z Tt (Wd 2 Y5) Z<|iM 8 V<|pV Z Tt [(_,_)] [_] Y9 λβn li kz pf=>iM 9 V<|wD (sz:=1) Z (by exact Tt) [_,_,_,_] Mw1 Z Z Z Z Z Z Z hOw1 (Row.of_cells Pz Z Z) ⟨by simp [pw];omega,by omega⟩ Z (λA2 x hx _=>xA hx) ?_;intro v3 M3 lJ lr o3;obtain ⟨Av3,cv3,rfl,kv3,kv32⟩:=Own.slice o3;simp only [ao,aD,an];refine X7 ?_;refine Kt Z Z Z (jB O O)<|G2 ?_;refine jd (lR.mk ⟨_,M3,_,Ml1,_,M2,es1,rP,w1++[(xk:Int)],l1,r1++[(num,w1.length,xn,(xk:Int))]⟩ [] Lc (.cons Q16 (.nil _)) So Pr Q22)
  refine pV Z Tt [(_,_)] [_] Y9 λβn li kz pf=>iM 4 V<|j5 Z Tt (Wd 2 Y5) Z<|iM 9 V<|wD (sz:=1) Z (by exact Tt) [_,_,_,_] Mw1 Z Z Z Z Z Z Z hOw1 (Row.of_cells Pz Z Z) ⟨by simp [pw];omega,by omega⟩ Z (λA2 x hx _=>xA hx) ?_;intro v3 M3 lJ lr o3;obtain ⟨Av3,cv3,rfl,kv3,kv32⟩:=Own.slice o3;simp only [ao,aD,an];refine X7 ?_;refine Kt Z Z Z (jB O O)<|G2 ?_;refine jd (lR.mk ⟨_,M3,_,Ml1,_,M2,es1,rP,w1++[(xk:Int)],l1,r1++[(num,w1.length,xn,(xk:Int))]⟩ [] Lc (.cons Q16 (.nil _)) So Pr Q22)):p:=h
def qAh(ba bm:Nat)(tc:Int)(A:OAdr9)(n c:Nat)(g:AG)(hg:nn g)(num:Int)(xl xo:iR)(xh:Bool)(xn:iR)(xk:Nat)(Bd:xk < 4294967296)(yn:iR)(yc:Int)(yo:Bool)(Ay:OAdr9)(ny cy:Nat)(hyc:iY yc)(own:Bool)(htc:0<=tc/\tc<=65536)(uS:(g.w.length:Int)<=tc)(xd:g.r.length<=1000000):Ap9 D 158 [jc ba,iJ num,.agg #[St xl,St xo,.bool xh,St xn,iO (xk:Int)],.agg #[St yn,iO yc,.bool yo,.slice Ay ny cy],.bool own] (HA ba bm tc A n c g L) s λv L' _=>∃ g',L'=HA ba bm tc A n c g' L/\∃ e,v=iJ e/\((e=14/\tc < ((pz g.w ⟨xl,xo,xh,xn,(xk:Int)⟩ yc own).length:Int))\/(e=0/\((pz g.w ⟨xl,xo,xh,xn,(xk:Int)⟩ yc own).length:Int)<=tc/\nn g'/\g'.w=pz g.w ⟨xl,xo,xh,xn,(xk:Int)⟩ yc own/\g'.l=g.l/\g'.es=g.es/\g'.r=sp g.r g.w num ⟨xl,xo,xh,xn,(xk:Int)⟩ yc own)):=by
 have hg0:=hg;obtain ⟨vw,Mw,vl,Ml,vr,Mr,es,ck,w,l,r⟩:=g;obtain ⟨ui,hOl,hOr,hE,huw,hul,hur⟩:=hg;simp only at ui hOl hOr hE huw hul hur;obtain ⟨Aw,cw,rfl,kw,kx⟩:=Own.slice ui;obtain ⟨Al,cl,rfl,kl,km⟩:=Own.slice hOl;obtain ⟨Ar,cr,rfl,kr,ks⟩:=Own.slice hOr;simp only [HA];simp only at uS xd;refine jv (fn:=Tryz.f158) jl Tryz.func158 V Z Tryz.ntmps158 Z (rs:=[.tmp 10]) Z [(0,_),(1,_),(2,_),(3,_),(4,_)] Z<|Sr<|kH Y2 λβ1 s1 h1=>kH Y2 λβ2 s2 h2=>At Z Z<|Zs<|ma jF 12 Z _ (λ_ h=>h) λs3 h3=>H4 ?_;refine za 4 Z (Wd 2 Y5) Z<|H3 ?_;refine za 8 Z (Wd 2 Y5) Z<|H1 ?_;refine za 10 Z (rn Z Z (jB O O)) Z<|H1 ?_;refine jq V<|G6 ?_;refine uX Y3<|J2 ?_ ?_<;>intro c4
 .have xe:xo=rF:=c4;refine G4 ?_;refine iI (pu Y4) Z<|Wl 1 Y6<|iI (sn Y5 (jB O O)) Z<|J4 ?_ ?_<;>intro c5;.refine G8 ?_;exact rR [_,_] _ (.t1 Z) Z Lc λ_ iL=>L5
  refine Zk<|Zt<|Zs<|mh jF 12 Z 2 λs6 h6=>H7 ?_;refine iM 4 V<|j5 Z Tt (Wd 2 Y5) Z<|iM 8 V<|qyS (sz:=1) (m:=xk) (news:=List.replicate xk (iO 0)) Z Tt [_,_,_,_] Mw Z Z Z Z Z Z Z ui (by simp) (λhT w i k1 i1 i2 i3 i4=>ZM xk k1 Tryz.underlying22 i1 i2 i4 Z Z O (by rw [i3];simp [pw];omega)) ⟨by simp [pw];omega,by omega⟩ Z (λA2 x hx _=>xA hx) ?_;intro v1 M1 s7 h7 o1;obtain ⟨Av1,cv1,rfl,kv1,kv2⟩:=Own.slice o1;simp only [ao,aD,an];refine H2 ?_;refine iM 11 V<|Wu Z Tt 2 [_,_,_,_,_,_] Y9 (sM (kX (pG)))<|jq V<|G8 ?_;exact rR [_,_] _ (.t1 Z) Z Lc λ_ iL=>L5
 have xe:¬ xo=rF:=c4;refine G2 ?_;refine Di (γ:=AG) (λg=>[(11,iJ (tc - (g.w.length:Int)))]) [_,_] Z (λg=>HA ba bm tc A n c g L) (λg tw=>nn g/\g.w=(if own=true then w else w++[yc])/\g.l=l/\g.r=r/\g.es=es) (λ_ _ _ h hl=>h) ?_ ?_
 .refine G6 ?_;refine vB Z ?_ ?_<;>intro c6
  .have oU:=c6;refine Zs<|mh jF 12 Z 2 λs7 h7=>H6 ?_;refine kD 4 7 V ?_ ?_;.refine j5 Z Tt (Wd 2 Y5) Z<|iM 7 V<|pV Z Tt [(_,_)] [_] Y9 λβn s8 h8 pf=>iM 8 V<|wD (sz:=1) Z (by exact Tt) [_,_,_,_] Mw Z Z Z Z Z Z Z ui (Row.of_cells Pz Z Z) ⟨by simp [pw];omega,by omega⟩ Z (λA2 x hx _=>xA hx) ?_;exact HD
   refine pV Z Tt [(_,_)] [_] Y9 λβn s8 h8 pf=>iM 4 V<|j5 Z Tt (Wd 2 Y5) Z<|iM 8 V<|wD (sz:=1) Z (by exact Tt) [_,_,_,_] Mw Z Z Z Z Z Z Z ui (Row.of_cells Pz Z Z) ⟨by simp [pw];omega,by omega⟩ Z (λA2 x hx _=>xA hx) ?_;exact HD
  have oU:=c6;refine Zk ?_;refine jd (lR.mk ⟨_,Mw,_,Ml,_,Mr,es,ck,w,l,r⟩ [] (Lr D) (.cons Q16 (.nil _)) So Pr Q30)
 intro g s5 h5 I5;simp only [iU,iV];obtain ⟨hg1,ew1,el1,er1,ee1⟩:=I5;have wx:=hg1;obtain ⟨vw1,Mw1,pN,Ml1,vr1,Mr1,es1,rP,w1,l1,r1⟩:=g;obtain ⟨hOw1,hOl1,hOr1,hE1,huw1,hul1,hur1⟩:=hg1;simp only at hOw1 hOl1 hOr1 hE1 huw1 hul1 hur1;obtain ⟨Aw1,cw1,rfl,kw1,kx1⟩:=Own.slice hOw1;obtain ⟨Al1,cl1,rfl,kl1,km1⟩:=Own.slice hOl1;obtain ⟨Ar1,cr1,rfl,kr1,ks1⟩:=Own.slice hOr1;simp only [HA];simp only at ew1 el1 er1 ee1;subst el1;subst er1;subst ee1;have hw1l:(w1.length:Int)<=tc+1:=by rw [ew1];split<;>(try simp only [ac,au,ap])<;>omega
 refine Di (γ:=AG) (λg=>[(11,iJ (tc - (g.w.length:Int)))]) [_,_] Z (λg=>HA ba bm tc A n c g L) (λg tw=>nn g/\g.w=pz w ⟨xl,xo,xh,xn,(xk:Int)⟩ yc own/\g.l=l1/\g.r=sp r1 w num ⟨xl,xo,xh,xn,(xk:Int)⟩ yc own/\g.es=es1) (λ_ _ _ h hl=>h) ?_ ?_
 .refine G6 ?_;refine qT Z ?_ ?_<;>intro c8
  .have hhas:=c8;refine G6 ?_;refine Jn Z Z Z<|G2 ?_;refine lD Z ?_ ?_<;>intro c9
   .have uo:=c9;refine mh jF 19 Z 2 λku jN=>H9 ?_;refine za 12 Z (jh 1 [_,_] Y5) Z ?_;refine kD 4 9 V ?_ ?_;.refine j5 Z Tt (Wd 2 Y5) Z<|iM 9 V<|j5 Z Tt (Wd 2 Y5) Z<|H1 ?_;refine za 13 Z (jC [(_,_),(_,_),(_,_)] [_,_,_,_] Y3 Z Z Z) Z<|iM 14 V<|pV Z Tt [(_,_)] [_,_,_,_] Y9 ?_;exact UM
    refine j5 Z Tt (Wd 2 Y5) Z<|H1 ?_;refine za 13 Z (jC [(_,_),(_,_),(_,_)] [_,_,_,_] Y3 Z Z Z) Z ?_;refine kD 4 14 V ?_ ?_;.refine j5 Z Tt (Wd 2 Y5) Z<|iM 14 V<|pV Z Tt [(_,_)] [_,_,_,_] Y9 ?_;exact UM
    refine pV Z Tt [(_,_)] [_,_,_,_] Y9 λβn kv jP pf=>iM 4 V<|j5 Z Tt (Wd 2 Y5) Z<|iM 15 V<|wD (sz:=4) Z (by exact Tt) (_::_::_::_::(Mw1++Ml1)) Mr1 qxB Z Z Z Z Z Z hOr1 (Row.of_cells Pz Z Z) ⟨by simp [yr];omega,by omega⟩ Z (λA2 x hx _=>xA hx) ?_;intro v2 M2 kc jL o2;obtain ⟨Av2,cv2,rfl,kv2,kv22⟩:=Own.slice o2;simp only [ao,aD,an];refine H2 ?_;refine iM 18 V<|Wu Z Tt 2 [_,_,_,_,_,_] Y9 (sM (kX (pG)))<|jq V<|Zt<|Zs<|mh jF 13 Z 2 λkY kN=>H7 ?_;refine kD 4 8 V ?_ ?_;.refine j5 Z Tt (Wd 2 Y5) Z<|iM 8 V<|pV Z Tt [(_,_)] [_] Y9 λβn li kz pf=>iM 9 V<|wD (sz:=1) Z (by exact Tt) [_,_,_,_] Mw1 Z Z Z Z Z Z Z hOw1 (Row.of_cells Pz Z Z) ⟨by simp [pw];omega,by omega⟩ Z (λA2 x hx _=>xA hx) ?_;exact Hr
    refine pV Z Tt [(_,_)] [_] Y9 λβn li kz pf=>iM 4 V<|j5 Z Tt (Wd 2 Y5) Z<|iM 9 V<|wD (sz:=1) Z (by exact Tt) [_,_,_,_] Mw1 Z Z Z Z Z Z Z hOw1 (Row.of_cells Pz Z Z) ⟨by simp [pw];omega,by omega⟩ Z (λA2 x hx _=>xA hx) ?_;exact Hr
   have uo:=c9;refine Zk<|Zt<|Zs<|mh jF 13 Z 2 λku jN=>H7 ?_;refine kD 4 8 V ?_ ?_;.refine j5 Z Tt (Wd 2 Y5) Z<|iM 8 V<|pV Z Tt [(_,_)] [_] Y9 λβn kv jP pf=>iM 9 V<|wD (sz:=1) Z (by exact Tt) [_,_,_,_] Mw1 Z Z Z Z Z Z Z hOw1 (Row.of_cells Pz Z Z) ⟨by simp [pw];omega,by omega⟩ Z (λA2 x hx _=>xA hx) ?_;exact Ht
   refine pV Z Tt [(_,_)] [_] Y9 λβn kv jP pf=>iM 4 V<|j5 Z Tt (Wd 2 Y5) Z<|iM 9 V<|wD (sz:=1) Z (by exact Tt) [_,_,_,_] Mw1 Z Z Z Z Z Z Z hOw1 (Row.of_cells Pz Z Z) ⟨by simp [pw];omega,by omega⟩ Z (λA2 x hx _=>xA hx) ?_;exact Ht
  have hhas:=c8;refine Zk ?_;refine jd (lR.mk ⟨_,Mw1,_,Ml1,_,Mr1,es1,rP,w1,l1,r1⟩ [] (Lr D) (.cons Q16 (.nil _)) So Pr Q22)
 intro g s7 h7 I7;simp only [iU,iV];obtain ⟨hg3,ew3,el3,er3,ee3⟩:=I7;refine J7 ?_ ?_<;>intro c9;.refine G7 ?_;exact rR [_,_] _ (.t1 Z) Z Lc λ_ iL=>L5
 refine G8 ?_;exact rR [_,_] _ (.t1 Z) Z Lc λ_ iL=>L5
def Tu:yg prog 167 .string (iO 0):=⟨_,_,underlying167,underlying9,λw=>by rw [Db T'];rfl⟩
def qtX(ba bm:Nat)(t:l7)(A:OAdr9)(n c:Nat)(hA:ky s A n c t.U)(g:AG)(nm:iR):Ap9 D 157 [jc ba,St nm] (x0::HA ba bm t.cells A n c g L) s λv L' _=>L'=x0::HA ba bm t.cells A n c g L/\∃ (y:Ins) (Ay:OAdr9) (ny cy:Nat),v=.tuple #[.agg #[St y.name,iO y.code,.bool y.I,.slice Ay ny cy],.bool (rr t.U nm).isSome]/\iY y.code/\(∀ z,rr t.U nm=some z->y=z)/\(rr t.U nm=none->y.I=false):=
 AC.perm (Kj ..).symm (qtW D (x0::L) s ba bm t A n c hA g nm) λv L1 s1 ⟨h1,h2⟩=>⟨_,by rw [h1];exact Kj ..,rfl,h2⟩
def qtI(ba bm:Nat)(tc:Int)(A:OAdr9)(n c:Nat)(g:AG)(hg:nn g)(num:Int)(xl xo:iR)(xh:Bool)(xn:iR)(xk:Nat)(Bd:xk < 4294967296)(yn:iR)(yc:Int)(yo:Bool)(Ay:OAdr9)(ny cy:Nat)(hyc:iY yc)(own:Bool)(htc:0<=tc/\tc<=65536)(uS:(g.w.length:Int)<=tc)(xd:g.r.length<=1000000):Ap9 D 158 [jc ba,iJ num,.agg #[St xl,St xo,.bool xh,St xn,iO (xk:Int)],.agg #[St yn,iO yc,.bool yo,.slice Ay ny cy],.bool own] (x0::x1::HA ba bm tc A n c g L) s λv L' _=>∃ g',L'=x0::x1::HA ba bm tc A n c g' L/\∃ e,v=iJ e/\((e=14/\tc < ((pz g.w ⟨xl,xo,xh,xn,(xk:Int)⟩ yc own).length:Int))\/(e=0/\((pz g.w ⟨xl,xo,xh,xn,(xk:Int)⟩ yc own).length:Int)<=tc/\nn g'/\g'.w=pz g.w ⟨xl,xo,xh,xn,(xk:Int)⟩ yc own/\g'.l=g.l/\g'.es=g.es/\g'.r=sp g.r g.w num ⟨xl,xo,xh,xn,(xk:Int)⟩ yc own)):=
 AC.perm (Tb ..).symm (qAh D (x0::x1::L) s ba bm tc A n c g hg num xl xo xh xn xk Bd yn yc yo Ay ny cy hyc own htc uS xd) λv L1 s1 ⟨g',h1,h2⟩=>⟨_,by rw [h1];exact Tb ..,g',rfl,h2⟩
def JW{l:List (iR×Int)}(h:¬ x.label=[]->ml l x.label=none):¬ (x.label≠[]/\(ml l x.label).isSome=true):=λhh=>by rw [h hh.1] at hh;cases hh.2
theorem Qq{t:l7}{y:Ins}(h1:∀ z,rr t.U xo=some z->y=z)(h2:rr t.U xo=none->y.I=false):FA t xo=y.I:=by grind [FA]
def qz8{t:l7}{y:Ins}(h1:∀ z,rr t.U x.op=some z->y=z)(h2:¬ ((rr t.U x.op).isSome=false/\¬ (x.op=[119,111,114,100]\/x.op=[115,112,97,99,101])))(h3:¬ x.op=[]):
  pz w x y.code (decide (x.op=[119,111,114,100]\/x.op=[115,112,97,99,101]))=pC t w x/\sp r w i x y.code (decide (x.op=[119,111,114,100]\/x.op=[115,112,97,99,101]))=tS t w r i x:=by
 unfold pC tS yi;rw [am h3,am h3];cases h:rr t.U x.op with
 | some z=>
  have hc:wE t x.op=y.code:=by unfold wE;rw [h,h1 z h]
  rw [hc];exact ⟨rfl,rfl⟩
 | none=>
  rw [h] at h2;have ho:x.op=[119,111,114,100]\/x.op=[115,112,97,99,101]:=by
   by_cases ho:x.op=[119,111,114,100]\/x.op=[115,112,97,99,101]
   . exact ho
   . exact absurd ⟨rfl,ho⟩ h2
  rw [bO ho];exact ⟨qqy ..,qqw ..⟩
theorem zk{x a:Nat×Obj}(hx:x∈(a::R).take 1):x∈a::R':=by grind
def qpR{g:AG}(hg:nn g)(o:Own 265 2 M vl (g.l.length+1) (Fs g.l++[St k,iO a]))(ha:iY a)(hk:ml g.l k=none):nn ⟨g.vw,g.Mw,vl,M,g.vr,g.Mr,u9 g.es k (iO a) g.ck,ck,g.w,g.l++[(k,a)],g.r⟩:=
 ⟨hg.hw,by simp only [ac,au,ap,quk];exact o,hg.hr,λj=>by
  simp only [MK,Yw _ _ _ _ hk,hg.he j];split<;>rfl,hg.uw,λy hy=>by
  rcases aU.1 hy with h|h
  . exact hg.ul y h
  . rw [aV.1 h];exact ha,hg.ur⟩
def Jm{p:Prop} (h:p:=by
  first
    | (refine ⟨(⟨.slice Aw w.length cw,Mw,.slice Al l.length cl,Ml,.slice Ar r.length cr,Mr,es,ck,w,l,r⟩:AG),rfl,?_,λx hx=>?_⟩
       . rw [hno];rfl
       . rw [hno] at hx;cases hx)
    | (refine ⟨(⟨.slice Aw w.length cw,Mw,.slice Al l.length cl,Ml,.slice Ar r.length cr,Mr,es,ck,w,l,r⟩:AG),rfl,?_,λx hx he=>?_⟩
       . rw [hy,oZ,aw ⟨tm,hrep⟩];rfl
       . rw [hy] at hx;injection hx with hx;subst hx;rw [oZ,aw ⟨tm,hrep⟩] at he;cases he)
    | (have hE8:=JW (l:=l) (x:=⟨xl,xo,xh,xn,(xk:Int)⟩) hnew
       refine ⟨g,Z,?_,λx hx he=>?_⟩
       . rw [hy,oZ,am hE8,aw nC];rfl
       . rw [hy] at hx;injection hx with hx;subst hx
         refine ⟨hg1,?_,?_,?_⟩
         . rw [ew1,pC,aw nC]
         . rw [el1]
         . rw [er1,tS,aw nC])
    | (have hE8:=JW (l:=l) (x:=⟨xl,xo,xh,xn,(xk:Int)⟩) hnew
       have AN:oZ t w l (some ⟨xl,xo,xh,xn,(xk:Int)⟩)=12:=qzz hE8 nC AM;refine ⟨g,Z,?_,λx hx he=>?_⟩
       . rw [hy,AN];rfl
       . rw [hy] at hx;injection hx with hx;subst hx;rw [AN] at he;cases he)
    | (have hE8:=JW (l:=l) (x:=⟨xl,xo,xh,xn,(xk:Int)⟩) hnew
       have hoo:=Qq (t:=t) hye hyn;have AN:oZ t w l (some ⟨xl,xo,xh,xn,(xk:Int)⟩)=9:=qFc hE8 nC AM hoo h90;refine ⟨g,Z,?_,λx hx he=>?_⟩
       . rw [hy,AN];rfl
       . rw [hy] at hx;injection hx with hx;subst hx;rw [AN] at he;cases he)
    | (have hE8:=JW (l:=l) (x:=⟨xl,xo,xh,xn,(xk:Int)⟩) hnew
       have hoo:=Qq (t:=t) hye hyn;have AN:oZ t w l (some ⟨xl,xo,xh,xn,(xk:Int)⟩)=6:=qFb hE8 nC AM hoo h90 h99;refine ⟨g,Z,?_,λx hx he=>?_⟩
       . rw [hy,AN];rfl
       . rw [hy] at hx;injection hx with hx;subst hx;rw [AN] at he;cases he)
    | (have hE8:=JW (l:=l) (x:=⟨xl,xo,xh,xn,(xk:Int)⟩) hnew
       have hoo:=Qq (t:=t) hye hyn;have mv:=qz8 (t:=t) (w:=w) (r:=r) (i:=num) (x:=⟨xl,xo,xh,xn,(xk:Int)⟩) hye AM nC;have AN:oZ t w l (some ⟨xl,xo,xh,xn,(xk:Int)⟩)=if t.cells < ((pC t w ⟨xl,xo,xh,xn,(xk:Int)⟩).length:Int) then 14 else 0:=qFa hE8 nC AM hoo h90 h99
       rw [ew1,er1,mv.1] at hem;rw [mv.2] at hem;refine ⟨g',Z,?_,λx hx he=>?_⟩
       . rw [hy,AN]
         rcases hem with ⟨rfl,kz⟩|⟨rfl,h0,_⟩
         . rw [aw kz];rfl
         . rw [am O];rfl
       . rw [hy] at hx;injection hx with hx;subst hx;rw [AN] at he
         rcases hem with ⟨rfl,kz⟩|⟨rfl,h0,q1,q2,q3,_,q5⟩
         . rw [aw kz] at he;cases he
         . exact ⟨q1,q2,by rw [q3,el1],q5⟩)):p:=h
def TE{p:Prop} (h:p:=by
 refine G8 ?_;exact rR [_,_] _ (.t1 Z) Z Lc λ_ iL=>Jm):p:=h
def Ia{p:Prop} (h:p:=by
 refine jd (kE.mk (Lr D) Sb Z (EO ((by first|rw [bO (show (xo=[119,111,114,100]\/xo=[115,112,97,99,101]) by assumption),gS]|rw [bQ (show ¬ (xo=[119,111,114,100]\/xo=[115,112,97,99,101]) by assumption),ep]))))):p:=h
def Hy{p:Prop} (h:p:=by
 intro βn kv jP pf;refine iM 15 V<|wD (sz:=2) Z (by exact Tt) (_::_::_::Mw) Ml Z Z Z Z Z Z Z hOl (Row.of_cells Pz Z Z) ⟨by simp [yt];omega,by omega⟩ Z (λA2 x hx _=>zk hx) ?_;intro v1 M1 kc jL o1;obtain ⟨Av1,cv1,rfl,kv1,kv12⟩:=Own.slice o1;simp only [ao,aD,an];refine H2 ?_;refine iM 18 V<|Wu Z Tt 1 [_,_,_,_,_,_] Y9 (sM (mT (pG)))<|jq V ?_;refine jd (lR.mk ⟨_,Mw,_,M1,_,Mr,u9 es xl (iO (w.length:Int)) ck,rP,w,l++[(xl,(w.length:Int))],r⟩ [] Lc (.nil _) So Pr Q25)):p:=h
def qzx(hG:GW s)(ba bm:Nat)(t:l7)(A:OAdr9)(n c:Nat)(hA:ky s A n c t.U)(g:AG)(hg:nn g)(num:Int)(tx:iR)(htx:tx.length<=400000)(htc:0<=t.cells/\t.cells<=65536)(uS:(g.w.length:Int)<=t.cells)(xd:g.r.length<=1000000)(hll:g.l.length<=1000000):Ap9 D 122 [jc ba,iJ num,St tx] (HA ba bm t.cells A n c g L) s λv L' _=>∃ g',L'=HA ba bm t.cells A n c g' L/\v=iJ (oZ t g.w g.l (qJ tx))/\∀ x,qJ tx=some x->oZ t g.w g.l (some x)=0->nn g'/\g'.w=pC t g.w x/\g'.l=xC g.w g.l x/\g'.r=tS t g.w g.r num x:=by
 have hg0:=hg;obtain ⟨vw,Mw,vl,Ml,vr,Mr,es,ck,w,l,r⟩:=g;obtain ⟨ui,hOl,hOr,hE,huw,hul,hur⟩:=hg;simp only at ui hOl hOr hE huw hul hur;obtain ⟨Aw,cw,rfl,kw,kx⟩:=Own.slice ui;obtain ⟨Al,cl,rfl,kl,km⟩:=Own.slice hOl;obtain ⟨Ar,cr,rfl,kr,ks⟩:=Own.slice hOr;simp only [HA];simp only at uS xd hll;refine jv (fn:=f122) jl func122 V Z ntmps122 Z (rs:=[.tmp 6]) Z [(0,_),(1,_),(2,_)] Z<|G8 ?_;refine Jc Y3 (qmB _ Pz tx htx) ?_;rintro _ _ s1 h1 ⟨rfl,⟨xl,xo,xh,xn,xk⟩,rfl,hxu,uv⟩;simp only at hxu;obtain ⟨xk,rfl⟩:=aX hxu.1;have Bd:xk < 4294967296:=by have:=hxu.2;omega
 simp only [Ln.cs];refine G3 ?_;refine jp Z [_,_,_,_,_] Y2 λβ2 s2 h2=>Wt 0 [_,_,_,_,_] Y9<|lF ?_;refine vB Z ?_ ?_<;>intro c3
 .have hno:qJ tx=none:=by simpa using c3
  refine G7 ?_;exact rR [_] _ (.t1 Z) Z Lc λ_ iL=>Jm
 obtain ⟨y,hy⟩:=ec.1 c3;have hln:=uv y hy;subst hln;refine G2 ?_;refine Di (γ:=AG) (λ_=>[]) [_] Z (λg=>HA ba bm t.cells A n c g L) (λg tw=>nn g/\g.w=w/\g.r=r/\g.l=xC w l ⟨xl,xo,xh,xn,(xk:Int)⟩/\(¬ xl=[]->ml l xl=none)) (λ_ _ _ h hl=>h) ?_ ?_
 .refine G4 ?_;refine Jn Z Z Z<|G2 ?_;refine lD Z ?_ ?_<;>intro c5
  .have tm:=c5;refine Zs<|Zs<|ma jF 12 Z _ (λ_ h=>h) λs6 h6=>H6 ?_;refine za 6 Z (jD (YA jU.str 2 Tu Z Z Z) (show Value.tuple #[(kS es xl).getD (iO 0),.bool (kS es xl).isSome]=.tuple #[(kS es xl).getD (iO 0),.bool (ml l xl).isSome] by rw [hE xl,eE])) Z<|H5 ?_;refine jq V ?_;refine G6 ?_;refine qT Z ?_ ?_<;>intro c7;.have hrep:=c7;refine G8 ?_;exact rR [_] _ (.t1 Z) Z Lc λ_ iL=>Jm
   have hrep:ml l xl=none:=by simpa using c7
   refine Zk<|Zt<|Zs<|pm jF 13 Z [2] Q3 λs8 h8=>H11 ?_;refine za 11 Z (sn Y5 (Na O)) Z<|iM 12 V<|JT jU.str Z Tt 2 Tu Z Z Z Z (λx hx=>hx) ?_;intro rP;simp only [lO];refine jq V<|Zt<|mh jF 19 Z 1 λku jN=>H9 ?_;refine kD 4 10 V ?_ ?_;.refine X28 ?_;refine za 12 Z (sn Y5 (Na O)) Z<|za 13 Z (jC [(_,_),(_,_)] [_,_] Y3 Z Z Z) Z<|iM 14 V<|pV Z Tt [(_,_)] [_,_] Y9 ?_;exact Hy
   refine j5 Z Tt (Wd 1 Y5) Z<|H1 ?_;refine za 12 Z (sn Y5 (Na O)) Z<|za 13 Z (jC [(_,_),(_,_)] [_,_] Y3 Z Z Z) Z ?_;refine kD 4 14 V ?_ ?_;.refine j5 Z Tt (Wd 1 Y5) Z<|iM 14 V<|pV Z Tt [(_,_)] [_,_] Y9 ?_;exact Hy
   refine pV Z Tt [(_,_)] [_,_] Y9 λβn kv jP pf=>iM 4 V<|j5 Z Tt (Wd 1 Y5) Z<|iM 15 V<|wD (sz:=2) Z (by exact Tt) (_::_::_::Mw) Ml Z Z Z Z Z Z Z hOl (Row.of_cells Pz Z Z) ⟨by simp [yt];omega,by omega⟩ Z (λA2 x hx _=>zk hx) ?_;intro v1 M1 kc jL o1;obtain ⟨Av1,cv1,rfl,kv1,kv12⟩:=Own.slice o1;simp only [ao,aD,an];refine H2 ?_;refine iM 18 V<|Wu Z Tt 1 [_,_,_,_,_,_] Y9 (sM (mT (pG)))<|jq V ?_;refine jd (lR.mk ⟨_,Mw,_,M1,_,Mr,u9 es xl (iO (w.length:Int)) ck,rP,w,l++[(xl,(w.length:Int))],r⟩ [] Lc (.nil _) So Pr Q25)
  have tm:=c5;refine Zk ?_;refine jd (lR.mk ⟨_,Mw,_,Ml,_,Mr,es,ck,w,l,r⟩ [] (Lr D) (.nil _) So Pr Q25)
 intro g s4 h4 I4;simp only [iU,iV];obtain ⟨hg1,ew1,er1,el1,hnew⟩:=I4;refine G5 ?_;refine uX Y3<|J2 ?_ ?_<;>intro c6;.have nC:=c6;refine G7 ?_;exact rR [_] _ (.t1 Z) Z Lc λ_ iL=>Jm
 have nC:=c6;refine G2 ?_;refine rm 11 ((xo=[119,111,114,100]\/xo=[115,112,97,99,101])) ?_ ?_
 .refine G3 ?_;refine uX Y3<|jY Y2<|?_;refine kT (t:=71) Z ?_ ?_<;>intro c8;.refine G6 ?_;refine jd (kE.mk (Lr D) Sb Z ((bO (by first|exact .inl As|exact .inr As)).symm))
  refine G5 ?_;refine uX Y3<|G3 ?_;refine jd (kE.mk (Lr D) Sb Z (bJ.2 (⟨λh=>.inr h,λh=>h.resolve_left As⟩)))
 intro s7 h7;refine G5 ?_;refine Jc Y3 (qtX D L _ ba bm t A n c Pz g xo) ?_;rintro _ _ s9 h9 ⟨rfl,⟨yn,yc,yo,ya⟩,Ay,ny,cy,rfl,hyu,hye,hyn⟩;refine G3 ?_;refine jp Z [_,_,_,_] Y2 λβ10 ku jN=>Wt 0 [_,_,_,_] Y9<|G5 ?_;refine rm 83 ((rr t.U xo).isSome=false/\¬ (xo=[119,111,114,100]\/xo=[115,112,97,99,101])) ?_ ?_
 .refine G4 ?_;refine EL (t:=86) Z ?_ ?_<;>intro nU;.refine G7 ?_;refine jd (kE.mk (Lr D) Sb Z (EO (Q31)))
  refine G5 ?_;refine jd (kE.mk (Lr D) Sb Z ((bQ (Q31)).symm))
 intro kv jP;refine mE Z ?_ ?_<;>intro oP;.have AM:=oP;exact TE
 have AM:=oP;refine rm 90 (¬ xh=(decide (xo=[119,111,114,100]\/xo=[115,112,97,99,101]) || yo)) ?_ ?_
 .refine G5 ?_;refine kT (t:=94) Z ?_ ?_<;>intro ve;.refine G3 ?_;refine iI (qxn Z Z Z Z) Z<|G2 ?_;exact Ia
  refine G5 ?_;refine iI (qxn Z Z Z Z) Z<|G2 ?_;exact Ia
 intro li kz;refine mE Z ?_ ?_<;>intro c16;.have h90:=c16;exact TE
 have h90:=c16;refine rm 99 (xo=[115,112,97,99,101]/\¬ xn=[]) ?_ ?_
 .refine G3 ?_;refine uX Y3<|jY Y2<|?_;refine kT (t:=103) Z ?_ ?_<;>intro xN;.refine G7 ?_;refine Jn Z Z Z<|G3 ?_;refine jd (kE.mk (Lr D) Sb Z (EO (Q32)))
  refine G7 ?_;refine jd (kE.mk (Lr D) Sb Z ((bQ (Q32)).symm))
 intro tE qR;refine mE Z ?_ ?_<;>intro zz;.have h99:=zz;exact TE
 have h99:=zz;refine G7 ?_;refine iI (jh 1 [_,_,_,_,_] Y5) Z<|iI (jh 0 [_,_,_,_] Y5) Z<|jY Y2<|Jc Y3 (qtI D L _ ba bm t.cells A n c g hg1 num xl xo xh xn xk Bd yn yc yo Ay ny cy hyu (decide (xo=[119,111,114,100]\/xo=[115,112,97,99,101])) htc (by rw [ew1];exact uS) (by rw [er1];exact xd)) ?_;rintro _ _ vN rQ ⟨g',rfl,e,rfl,hem⟩;refine G4 ?_;exact rR [_,_] _ (.t1 Z) Z Lc λ_ iL=>Jm
end
section
variable(L:Hl)(s:World){t:l7}{w:LInt9}{l:List (iR×Int)}{c:Nat}{y:LVal9}{f:Int×Int}
def uY(t:l7):Nat->LInt9->List (iR×Int)->List (Int×Nat×iR×Int)->List iR->(Int×Int) ⊕ (LInt9×List (iR×Int)×List (Int×Nat×iR×Int))
 | _,w,l,r,[]=>.inr (w,l,r)
 | i,w,l,r,tx::iP=>match qJ tx with
  | none=>.inl (1,(i:Int))
  | some x=>if oZ t w l (some x)≠0 then .inl (oZ t w l (some x),(i:Int)) else uY t (i+1) (pC t w x) (xC w l x) (tS t w r (i:Int) x) iP
def vM(l:List (iR×Int)):List (Int×Nat×iR×Int)->LInt9->(Int×Int) ⊕ LInt9
 | [],w=>.inr w
 | x::iP,w=>match ml l x.2.2.1 with
  | none=>.inl (27,x.1)
  | some a=>vM l iP (w.set x.2.1 (lK (w.getD x.2.1 0+a)))
def sr(t:l7)(tx:iR):(Int×Int) ⊕ (LInt9×List (iR×Int)):=
 if (oI t).1≠0 then .inl (oI t) else if 400000 < tx.length then .inl (3,-2)
 else match uY t 0 [] [] [] (splitB 10 tx) with
  | .inl f=>.inl f
  | .inr x=>match vM x.2.1 x.2.2 x.1 with
   | .inl f=>.inl f
   | .inr w=>.inr (w,x.2.1)
def qpX{i:Nat}(h:oZ t w l (qJ tx)≠0):uY t i w l r (tx::iP)=.inl (oZ t w l (qJ tx),(i:Int)):=by
 simp only [uY];cases hx:qJ tx with
 | none=>rfl
 | some x=>rw [hx] at h;simp only [fO,h,gz,bS]
def MW{i:Nat}{x:Ln}(hx:qJ tx=some x)(h:oZ t w l (some x)=0):uY t i w l r (tx::iP)=uY t (i+1) (pC t w x) (xC w l x) (tS t w r (i:Int) x) iP:=by
 simp only [uY,hx,h,fO,not_true_eq_false,cm]
def qrd(h:oZ t w l (qJ tx)=0):∃ x,qJ tx=some x/\oZ t w l (some x)=0:=by
 cases hx:qJ tx with
 | none=>rw [hx] at h;cases h
 | some x=>rw [hx] at h;exact ⟨x,rfl,h⟩
theorem qtd{x:Ln}(hw:(w.length:Int)<=t.cells)(h:oZ t w l (some x)=0):((pC t w x).length:Int)<=t.cells:=by grind [oZ,pC]
theorem qqx(w:LInt9)(x:Ln)(c:Int)(o:Bool):w.length<=(pz w x c o).length:=by grind [List.length_append,List.length_cons,List.length_nil,List.length_replicate,pz]
def qtJ{i:Int}{x:Ln}{c:Int}{o:Bool}(h:∀ y∈r,y.2.1 < w.length):∀ y∈sp r w i x c o,y.2.1 < (pz w x c o).length:=by
  have hl:=qqx w x c o;intro y hy;unfold sp at hy;split at hy
  . exact dK (h y hy) hl
  . rename_i hs
    split at hy
    . rename_i hh
      rcases aU.1 hy with h1|h1
      . exact dK (h y h1) hl
      . rw [aV.1 h1]
        simp only [pz,hs,cm,hh.1,bS,ac,au,ap];omega
    . exact dK (h y hy) hl
def qzB{i:Int}{x:Ln}(h:∀ y∈r,y.2.1 < w.length):∀ y∈tS t w r i x,y.2.1 < (pC t w x).length:=by
 unfold tS pC;split
 . exact h
 . exact qtJ h
def qte{x:Ln}:(xC w l x).length<=l.length+1:=by unfold xC;split<;>simp
theorem qtf{i:Int}{x:Ln}:(tS t w r i x).length<=r.length+1:=by grind [tS,sp]
def V'(ba bm:Nat)(tc:Int)(A:OAdr9)(n c:Nat)(g:AG)(x y z:Nat×Obj)(L:Hl):(HA ba bm tc A n c g (x::y::z::L)).Perm (x::y::z::HA ba bm tc A n c g L):=
 (Kj ..).trans (List.Perm.cons _ (Tb ..))
def qEG(ba bm:Nat)(tc:Int)(A:OAdr9)(n c:Nat)(g:AG)(L:Hl):HA ba bm tc A n c g L=HA ba bm tc A n c g []++L:=by simp [HA]
def ub(s:World)(A:OAdr9)(n c:Nat)(l:List (iR×Int)):Prop:=Sl 2 (λ_ x cs=>cs=[St x.1,iO x.2]/\iY x.2) s A n c l
def ub.le{s:World}(h:ub s A n c l)(hl:Le D s s'):ub s' A n c l:=Sl.le (λ_ _ h=>h) h hl
def wP(s:World)(A:OAdr9)(n c:Nat)(l:List (Int×Nat×iR×Int)):Prop:=Sl 4 (λ_ x cs=>cs=[Value.int .i64 x.1,Value.int .i64 (x.2.1:Int),St x.2.2.1,Value.int .u32 x.2.2.2]) s A n c l
def wP.le{s:World}{l:List (Int×Nat×iR×Int)}(h:wP s A n c l)(hl:Le D s s'):wP s' A n c l:=Sl.le (λ_ _ h=>h) h hl
def d_{α β:Type}{R:α->β->Prop}(f:α->β)(l:List α)(h:∀ x∈l,R x (f x)):kI R l (l.map f):=by
 induction l with
 | nil=>exact kI.nil
 | cons x l ih=>exact kI.cons (h x Mc) (ih λy hy=>h y (aq _ hy))
def Own.labs{A:Hl}{s:World}(h:Own e 2 A (.slice Ad n c) n (Fs l))(hu:∀ x∈l,iY x.2)(hp:mz A s)(hn:n=l.length):ub s Ad n c l:=
 Own.rows (R:=λ_ (x:iR×Int) cs=>cs=[St x.1,iO x.2]/\iY x.2) h hp (d_ (λ(x:iR×Int)=>[St x.1,Value.int .u32 x.2]) l λx hx=>⟨rfl,rfl,hu x hx⟩) hn
def Own.refs{A:Hl}{l:List (Int×Nat×iR×Int)}{s:World}(h:Own e 4 A (.slice Ad n c) n (Gu l))(hp:mz A s)(hn:n=l.length):wP s Ad n c l:=
 Own.rows (R:=λ_ (x:Int×Nat×iR×Int) cs=>cs=[Value.int .i64 x.1,Value.int .i64 (x.2.1:Int),St x.2.2.1,Value.int .u32 x.2.2.2]) h hp (d_ (λ(x:Int×Nat×iR×Int)=>[Value.int .i64 x.1,Value.int .i64 (x.2.1:Int),St x.2.2.1,Value.int .u32 x.2.2.2]) l λx hx=>⟨rfl,rfl⟩) hn
def wP.at_{s:World}{l:List (Int×Nat×iR×Int)}(h:wP s A n c l)(hk:k < n):∃ b off x,A=some ⟨b,off,none⟩/\l[k]?=some x/\iH s b (off+k * 4) [Value.int .i64 x.1,Value.int .i64 (x.2.1:Int),St x.2.2.1,Value.int .u32 x.2.2.2]:=by
 have hx:k < l.length:=by rw [<- h.1];exact hk
 obtain ⟨b,off,cs,h1,h2,h3,h4⟩:=h.2.2.2 k l[k] (ax hx);exact ⟨b,off,l[k],h1,ax hx,by rw [<- h4];exact h2⟩
def VO{p:Prop} (h:p:=by
 cases h with
 | nil=>omega
 | blk b cap _ _ ys h1 h2 h3 h4=>exact ⟨b,ys,rfl,rfl,by simpa using h1,by simpa using h2,h3,h4⟩):p:=h
def ND(h:Own e 1 M (.slice Ad n c) n xs)(hn:0 < n):∃ b ys,Ad=j6 b/\M=[(b,cb (xs++ys) e)]/\xs.length=n/\xs.length+ys.length=c/\n<=c/\c<=9223372036854775807:=by
 exact VO
def C_(h1:xs.length=n)(h2:xs.length+ys.length=c)(h3:n<=c)(h4:c<=9223372036854775807):Own e 1 [(b,cb (xs++ys) e)] (.slice (j6 b) n c) n xs:=
 .blk b c n xs ys Q7 Q11 h3 h4
def Ww{p:Prop} (h:p:=by
 obtain ⟨hk,rfl⟩:=al.1 hx;rw [aL hk,vM,ha]):p:=h
def quS(hx:r[k]?=some x)(ha:ml l x.2.2.1=some a):vM l (r.drop k) w=vM l (r.drop (k+1)) (w.set x.2.1 (lK (w.getD x.2.1 0+a))):=by
 exact Ww
def qrS(hx:r[k]?=some x)(ha:ml l x.2.2.1=none):vM l (r.drop k) w=.inl (27,x.1):=by
 exact Ww
theorem Ua(h:∀ x∈w,iY x){v:Int}(hv:iY v):∀ x∈w.set p v,iY x:=by grind
def qA1{l:LInt9}(h:p < l.length):nth (wv l++y) (0+p)=some (iO (l.getD p 0)):=by
 have:=NK (l:=l) (y:=y) (i:=(p:Int)) O O;simpa using this
def qBJ{l:LInt9}{v:Int}(h:p < l.length):oO (wv l++y) (0+p) [iO v]=wv (l.set p v)++y:=by
 have:=qsd (l:=l) (y:=y) (i:=(p:Int)) v O O;simpa using this
def qzQ{l:LInt9}(h:p < l.length):Nat.ble (0+p+1) (wv l++y).length=true:=by
 have:=qp6 (l:=l) (y:=y) (i:=(p:Int)) O O;simpa using this
attribute [local irreducible] JC JO JA JB lZ mF mM AC fill iH QE Ev mq
def qzy(hG:GW s)(ba bm:Nat)(t:l7)(A:OAdr9)(n c:Nat)(hA:ky s A n c t.U)(g:AG)(hg:nn g){num:Int}(tx:iR)(htx:tx.length<=400000)(htc:0<=t.cells/\t.cells<=65536)(uS:(g.w.length:Int)<=t.cells)(xd:g.r.length<=1000000)(hll:g.l.length<=1000000):Ap9 D 122 [jc ba,iJ num,St tx] (x0::x1::x2::HA ba bm t.cells A n c g L) s λv L' _=>∃ g',L'=x0::x1::x2::HA ba bm t.cells A n c g' L/\v=iJ (oZ t g.w g.l (qJ tx))/\∀ x,qJ tx=some x->oZ t g.w g.l (some x)=0->nn g'/\g'.w=pC t g.w x/\g'.l=xC g.w g.l x/\g'.r=tS t g.w g.r num x:=
 AC.perm (V' ..).symm (qzx D (x0::x1::x2::L) s hG ba bm t A n c hA g hg num tx htx htc uS xd hll) λv L1 s1 ⟨g',h1,h2⟩=>⟨_,by rw [h1];exact V' ..,g',rfl,h2⟩
def qto(h:(oI t).1≠0):sr t tx=.inl (oI t):=by rw [sr,aw h]
theorem qtn(h:(oI t).1=0)(h2:400000 < tx.length):sr t tx=.inl (3,-2):=by grind [sr]
theorem qtm(h:(oI t).1=0)(h2:¬ 400000 < tx.length)(h3:uY t 0 [] [] [] (splitB 10 tx)=.inl f):sr t tx=.inl f:=by grind [sr]
theorem qzI(h:(oI t).1=0)(h2:¬ 400000 < tx.length)(h3:uY t 0 [] [] [] (splitB 10 tx)=.inr (w,l,r))(h4:vM l r w=.inl f):sr t tx=.inl f:=by grind [sr]
theorem qFo(h:(oI t).1=0)(h2:¬ 400000 < tx.length)(h3:uY t 0 [] [] [] (splitB 10 tx)=.inr (w,l,r))(h4:vM l r w=.inr w2):sr t tx=.inr (w2,l):=by grind [sr]
def qFg:nn ⟨.slice none 0 0,[],.slice none 0 0,[],.slice none 0 0,[],[],0,[],[],[]⟩:=⟨Own.nil,Own.nil,Own.nil,λ_=>rfl,(λ_ h=>by cases h),(λ_ h=>by cases h),(λ_ h=>by cases h)⟩
def GC{p:Prop} (h:p:=by
 first
  | (refine ⟨[],rfl,.pointer none,_,_,rfl,.inl ⟨rb,qto rb⟩⟩)
  | (refine ⟨[],rfl,.pointer none,3,-2,rfl,.inl ⟨by decide,qtn ht0 hlong⟩⟩)
  | (exact ⟨_,qEG ..,.pointer none,_,_,rfl,.inl ⟨hcode,qtm ht0 hlong (by rw [hS,hdr];exact qpX hcode)⟩⟩)
  | (exact ⟨[_,_,_],rfl,.pointer none,_,_,rfl,.inl ⟨by decide,qzI ht0 hlong hS (by rw [hR];exact qrS hxr hmiss)⟩⟩)
  | (exact ⟨_,rfl,_,0,0,rfl,.inr ⟨rfl,rfl,ba,bm,Aw,w.length,cw,Al,l.length,cl,_,es,ck,Mj,wj,l,rfl,rfl,xQ,huj,hLb.le Lc,qFo ht0 hlong hS hR⟩⟩)):p:=h
def Ot{p:Prop} (h:p:=by
 exact rR [_,_,_] _ (.tmp Z (.agg (us:=[_,_]) 1 Z Z Z Z Z (.nil))) Z Lc λ_ iL=>GC):p:=h
def ql4(hG:GW s){t:l7}{c:Nat}(hA:ky s A n c t.U)(tx:iR):AN9 D 73 [.agg #[iJ t.cells,.slice A n c],St tx] L s λv M' s'=>∃ p f1 f2,v=.tuple #[p,.agg #[iJ f1,iJ f2]]/\((f1≠0/\sr t tx=.inl (f1,f2))\/(f1=0/\f2=0/\∃ ba bm Aw nw cw Al nl cl vr es ck Mw w l,p=jc ba/\M'=(ba,cb [iJ t.cells,.slice A n c,.slice Aw nw cw,.slice Al nl cl,.map (some bm),vr] 170)::(bm,mp (λl=>St l) es ck)::Mw/\Own 22 1 Mw (.slice Aw nw cw) nw (wv w)/\(∀ x∈w,iY x)/\ub s' Al nl cl l/\sr t tx=.inr (w,l))):=by
 have hF:=Sg t;refine jv (fn:=Tryz.f73) jl Tryz.func73 V Z Tryz.ntmps73 Z (rs:=[.tmp 4,.cell 5 24]) Z [(0,_),(1,_)] Z<|Sr<|kH Y2 λβ1 s1 h1=>me Y2<|jp Z [_,_] Y2 λβ2 s2 h2=>Nt<|Zs<|Sr<|iI (jh 1 [_,_] Y5) Z<|Je Y3 (Rz D _ Pz) λs3 h3=>jp Z [_,_] Y2 λβ4 s4 h4=>Wt 0 [_,_] Y9<|Nt<|Sr<|iI (jh 0 [_,_] Y5) Z<|iI (jC [] [_,_] Y3 Z Z Z) Z<|iI (sL Z Z (rq)) Z<|G2 ?_;refine lD Z ?_ ?_<;>intro c5;.have rb:(oI t).1≠0:=λh=>c5 ⟨h,hF h⟩;refine Zs<|pm jF 3 Z [1] Q3 λs6 h6=>za 0 Z (jh 0 [_,_] Y5) Z<|H1 ?_;refine X5 ?_;exact Ot
 have ht0:(oI t).1=0:=c5.1;have hcells:=(MA hA ht0).cells;refine G6 ?_;refine DD Z Z Z Z<|J3 ?_ ?_<;>intro c6
 .have hlong:400000 < tx.length:=by omega
  refine Sr<|Je Y3 (RQ _ _) λs7 h7=>me Y2<|Wt 1 [_,_] Y9<|G4 ?_;exact Ot
 have hlong:¬ 400000 < tx.length:=by omega
 refine Zk<|Zt<|Sr<|iI (jh 2 [_,_] Y5) Z<|FL (λl=>St l) Z λbm s7 h7=>iI (jC [(_,_),(_,_)] [_,_,_,_,_,_] Y3 Z Z Z) Z<|kH Y2 λba s8 h8=>G5 ?_;refine rG 4<|rG 4<|rG 4<|Zr<|jY Y2<|Jc Y3 (qp0 _ tx 10 O) ?_;rintro _ _ s9 h9 ⟨rfl,Atq9,nt,ct,rfl,hTx⟩;have hnt:=hTx.1;have hct:=YN 10 tx;have xS:tx.count 10<=tx.length:=iq;simp only [show ((10:UInt8).toNat:Int)=10 from rfl] at hnt hct hTx;refine G5 ?_;refine Cz [_,_,_] (γ:=Nat×AG) (λg=>[(4,_),(5,_),(7,_),(30,_),(31,_),(32,iJ (g.1:Int))]) (λg=>HA ba bm t.cells A n c g.2 L) (λg tw=>Le D s9 tw/\(g.1<=nt/\nn g.2/\(g.2.w.length:Int)<=t.cells/\g.2.l.length<=g.1/\g.2.r.length<=g.1/\(∀ y∈g.2.r,y.2.1 < g.2.w.length)/\uY t 0 [] [] [] (splitB 10 tx)=uY t g.1 g.2.w g.2.l g.2.r ((splitB 10 tx).drop g.1))) (λg=>nt - g.1) (λ_ _ _ h hl=>⟨h.1.trans hl,h.2⟩) (0,⟨.slice none 0 0,[],.slice none 0 0,[],.slice none 0 0,[],[],0,[],[],[]⟩) (.c6 Z Z Z Z Z Z (.nil _)) Z ⟨Le.refl _,⟨aB _,qFg,by simp only [ap];omega,aC _,aC _,(λ_ h=>by cases h),Z⟩⟩ ?_;intro g ku I10;simp only [iU,iV];obtain ⟨k,g⟩:=g;obtain ⟨kh,hg,uS,hll,xd,lm,hS⟩:=I10.2;simp only at kh hg uS hll xd lm hS;dsimp only;refine J6 ?_ ?_<;>intro mN
 .have hk:k < nt:=by omega
  obtain ⟨b,off,tx1,rfl,htxk,hctx,_⟩:=iW.at_ Pz hk;have htx1:tx1.length<=400000:=by have:=Rs 10 [] tx tx1 (ay htxk);simp only [ap,aZ] at this;omega
  have hdr:(splitB 10 tx).drop k=tx1::(splitB 10 tx).drop (k+1):=by
    obtain ⟨AW,rfl⟩:=al.1 htxk;exact aL AW
  refine G7 ?_;refine iI (ly Y6 hk) Z<|iI (jW Y3 Pz Z) Z<|G9 ?_;refine Jc Y3 (qzy L _ Pz ba bm t A n c Pz g hg tx1 htx1 O uS O O) ?_;rintro _ _ kc jL ⟨g',rfl,rfl,hadd⟩;refine G9 ?_;refine lD Z ?_ ?_<;>intro oP;.have hcode:=oP;refine G4 ?_;refine Je Y3 (RQ _ _) λli kz=>me Y2<|Wt 1 [_,_] Y9<|G8 ?_;exact Ot
  have hcode:oZ t g.w g.l (qJ tx1)=0:=by simpa using oP
  obtain ⟨x,hx,he0⟩:=qrd hcode;obtain ⟨wx,ew,el,er⟩:=hadd x hx he0;refine G4 ?_;refine ki Y3 (jB O O)<|G2 ?_;refine jd ⟨(k+1,g'),[],kp,Z,⟨Lc,⟨by simp only;omega,wx,by simp only [ew];exact qtd uS he0,by simp only [el];have:=qte (w:=g.w) (l:=g.l) (x:=x);omega,by simp only [er];have:=qtf (t:=t) (w:=g.w) (r:=g.r) (i:=(k:Int)) (x:=x);omega,by simp only [er,ew];exact qzB lm,by simp only [ew,el,er];rw [hS,hdr,MW hx he0]⟩⟩,Oz⟩
 have hdr:(splitB 10 tx).drop k=[]:=aK O;rw [hdr,uY] at hS;have hgu:=hg;obtain ⟨vw,Mw,vl,Ml,vr,Mr,es,ck,w,l,r⟩:=g;obtain ⟨ui,hOl,hOr,hE,huw,hul,hur⟩:=hg;simp only at ui hOl hOr hE huw hul hur;obtain ⟨Aw,cw,rfl,kw,kx⟩:=Own.slice ui;obtain ⟨Al,cl,rfl,kl,km⟩:=Own.slice hOl;obtain ⟨Ar,cr,rfl,kr,ks⟩:=Own.slice hOr;simp only [HA];simp only at hS lm uS hll xd;refine G7 ?_;refine tO (_::_::_::_::_::Mw) Ml ?_;intro kc jL hpub12;simp only [iU,iV];have hLb:=Own.labs hOl hul hpub12 rfl;refine tO (_::_::_::_::_::Mw) Mr ?_;intro kY kN hpub13;simp only [iU,iV];have hRf:=Own.refs hOr hpub13 rfl;refine G4 ?_;refine Wl 3 Y6<|G5 ?_;refine Cz [_,_,_] (γ:=Nat×Hl×LInt9) (λg=>[(4,_),(5,_),(7,_),(50,_),(51,_),(52,iJ (g.1:Int))]) (λg=>(ba,cb [iJ t.cells,.slice A n c,.slice Aw w.length cw,.slice Al l.length cl,.map (some bm),.slice Ar r.length cr] 170)::(bm,mp (λl=>St l) es ck)::(g.2.1++L)) (λg tw=>Le D kY tw/\(g.1<=r.length/\Own 22 1 g.2.1 (.slice Aw w.length cw) w.length (wv g.2.2)/\g.2.2.length=w.length/\(∀ x∈g.2.2,iY x)/\vM l r w=vM l (r.drop g.1) g.2.2)) (λg=>r.length - g.1) (λ_ _ _ h hl=>⟨h.1.trans hl,h.2⟩) (0,Mw,w) (.c6 Z Z Z Z Z Z (.nil _)) Z ⟨Le.refl _,⟨aB _,ui,Z,huw,Z⟩⟩ ?_;intro g li I14;simp only [iU,iV];obtain ⟨j,Mj,wj⟩:=g;obtain ⟨oA,xQ,hwj,huj,hR⟩:=I14.2;simp only at oA xQ hwj huj hR;dsimp only;refine J6 ?_ ?_<;>intro ve
 .have hk:j < r.length:=by omega
  obtain ⟨br,ofr,x,hAr,hxr,hcr⟩:=wP.at_ Pz hk;subst hAr;have Bb:=lm x (ay hxr);obtain ⟨bw,yw,hAw,hMw,g1,g2,g3,g4⟩:=ND xQ O;subst hMw;subst hAw;simp only [iU,iV];refine G6 ?_;refine iI (jR Y6 hk) Z<|iI (kq Y3 Pz Z) Z<|jp Z [_,_,_,_] Y2 λβ16 qW qD=>Wt 0 [_,_,_,_] Y9<|Nt<|Zs<|ma jF 13 Z _ (λ_ h=>h) λtE qR=>H3 ?_;refine za 3 Z (Wd 4 Y5) Z<|H3 ?_;refine za 7 Z (jD (YA jU.str 5 Tu Z Z Z) (show Value.tuple #[(kS es x.2.2.1).getD (iO 0),.bool (kS es x.2.2.1).isSome]=.tuple #[(kS es x.2.2.1).getD (iO 0),.bool (ml l x.2.2.1).isSome] by rw [hE,eE])) Z<|H5 ?_;refine jq V<|G8 ?_;refine vB Z ?_ ?_<;>intro xN
  .have hmiss:ml l x.2.2.1=none:=by simpa using xN
   refine G4 ?_;refine Je Y3 (RQ _ _) λym uh=>me Y2<|Wt 2 [_,_] Y9<|G9 ?_;exact rR [_,_,_,_] _ (.tmp Z (.agg (us:=[_,_]) 2 Z Z Z Z Z (.nil))) Z Lc λ_ iL=>GC
  obtain ⟨a,ha⟩:=ec.1 xN;rw [show (kS es x.2.2.1).getD (Value.int .u32 0)=iO a by rw [hE,ha];rfl];refine Zk<|Zt<|pm jF 12 Z [6] Q3 λym uh=>H3 ?_;refine za 3 Z (Wd 4 Y5) Z<|H2 ?_;refine za 6 Z (ly Y6 O) Z<|H1 ?_;refine iM 7 V<|j5 Z Tt (rj 6 Y4 (qA1 O)) Z<|za 9 Z (jD (CC Z Z) (bj (Value.int .u32) (CI _))) Z<|za 10 Z (ly Y6 O) Z<|iM 11 V<|ye Z Tt 6 _ Y5 (qzQ O) Z (qBJ O) Z (λx hx=>hx)<|jq V<|Zb<|Zt<|Zr<|ki Y3 (jB O O)<|G2 ?_;refine jd ⟨(j+1,[(bw,cb (wv (wj.set x.2.1 (lK (wj.getD x.2.1 0+a)))++yw) 22)],wj.set x.2.1 (lK (wj.getD x.2.1 0+a))),[_],kp,Z,⟨Lc,⟨by simp only;omega,C_ (by simp only [zW,cR];exact hwj) (by simp only [zW,cR];rw [zW] at g2;exact g2) g3 g4,by simp only [cR];exact hwj,Ua huj (qJK),by simp only;rw [hR,quS hxr ha]⟩⟩,Oz⟩
 have hdr2:r.drop j=[]:=aK O;rw [hdr2,vM] at hR;refine G8 ?_;refine X25 ?_;exact Ot
def DK(t:l7)(tx:iR):LInt9:=match sr t tx with
 | .inl _=>[]
 | .inr x=>x.1
def Mn(t:l7)(tx:iR):List (iR×Int):=match sr t tx with
 | .inl _=>[]
 | .inr x=>x.2
def B8(t:l7)(tx:iR):Int×Int:=match sr t tx with
 | .inl f=>f
 | .inr _=>(0,0)
def qFl(h:sr t tx=.inl f):DK t tx=[]/\Mn t tx=[]/\B8 t tx=f:=by simp [DK,Mn,B8,h]
def qFm(h:sr t tx=.inr (w,l)):DK t tx=w/\Mn t tx=l/\B8 t tx=(0,0):=by simp [DK,Mn,B8,h]
def ub.nil(s:World):ub s none 0 0 []:=⟨rfl,aC _,by omega,λi x h=>by cases h⟩
def GD{p:Prop} (h:p:=by
 first
  | (exact ⟨_,rfl,λs2 kb hp=>⟨Aw,nw,cw,by rw [e3];rfl,by rw [e1];exact Own.wds ui huw hp⟩⟩)
  | (exact ⟨_,rfl,λs2 kb hp=>⟨none,0,0,by rw [e3];rfl,by first|(rw [e1];exact lV.nil _ _ _ O)|(rw [e2];exact ub.nil _)⟩⟩)):p:=h
def qkA(hG:GW s)(t:l7)(A:OAdr9)(n c:Nat)(hA:ky s A n c t.U)(tx:iR):AN9 D 34 [.agg #[iJ t.cells,.slice A n c],St tx] L s λv M' s'=>∀ s2,Le D s' s2->mz M' s2->∃ A1 n1 c1,v=.tuple #[.slice A1 n1 c1,.agg #[iJ (B8 t tx).1,iJ (B8 t tx).2]]/\lV s2 A1 n1 c1 (DK t tx):=by
 refine jv (fn:=Tryz.f34) jl Tryz.func34 V Z Tryz.ntmps34 Z (rs:=[.tmp 4,.cell 5 24]) Z [(0,_),(1,_)] Z<|Sr<|kH Y2 λβ1 s1 h1=>me Y2<|jp Z [_,_] Y2 λβ2 s2 h2=>Nt<|Sr<|iI (jh 1 [_,_] Y5) Z<|jY Y2<|Jc Y3 (AC.mid [_,_] [] _ (ql4 _ _ Pz Pz tx)) ?_;rintro _ _ s3 h3 ⟨Mx,rfl,p,f1,f2,rfl,hR⟩;simp only [iU,iV];refine G3 ?_;refine jp Z [_,_] Y2 λβ4 s4 h4=>me Y2<|Wt 0 [_,_] Y9<|Nt<|Zs<|Sr<|iI (jh 0 [_,_] Y5) Z<|iI (jC [] [_,_] Y3 Z Z Z) Z<|iI (sL Z Z (rq)) Z<|G2 ?_;refine lD Z ?_ ?_<;>intro c5
 .obtain ⟨mB,rb⟩|⟨hz1,hz2,_⟩:=hR
  rotate_left
  . exact absurd ⟨hz1,hz2⟩ c5
  obtain ⟨e1,e2,e3⟩:=qFl rb;refine Zs<|pm jF 3 Z [1] Q3 λs6 h6=>za 0 Z (jh 0 [_,_] Y5) Z<|H1 ?_;refine X5 ?_;exact rR [_,_,_] _ (.tmp Z (.agg (us:=[_,_]) 1 Z Z Z Z Z (.nil))) Z Lc λ_ iL=>GD
 obtain ⟨mB,rb⟩|⟨hz1,hz2,ba,bm,Aw,nw,cw,Al,nl,cl,vr,es,ck,Mw,w,l,hp,hM,ui,huw,hLb,l9⟩:=hR
 . exact absurd c5.1 mB
 subst hp;subst hM;have hnw:=hLb.1;simp only [ao];obtain ⟨e1,e2,e3⟩:=qFm l9;refine G7 ?_;refine Wl 3 Y6<|iI (jC [] [_,_] Y3 Z Z Z) Z<|me Y2<|Wt 1 [_,_] Y9<|G3 ?_;exact rR [_,_,_,_,_] _ (.tmp Z (.agg (us:=[_,_]) 1 Z Z Z Z Z (.nil))) Z Lc λ_ iL=>GD
def qkB(hG:GW s)(t:l7)(A:OAdr9)(n c:Nat)(hA:ky s A n c t.U):Ap9 D 34 [.agg #[iJ t.cells,.slice A n c],St tx] L s λv L' s'=>L=L'/\∃ A1 n1 c1,v=.tuple #[.slice A1 n1 c1,.agg #[iJ (B8 t tx).1,iJ (B8 t tx).2]]/\lV s' A1 n1 c1 (DK t tx):=AC.pubW (qkA L s hG t A n c hA tx)
end
def qFU{b c d:Int}:Hj Tryz.prog 66 [iJ a,iJ b] [iJ c,iJ d] (decide (a=c/\b=d)):=⟨by kernel_rfl,λw=>by
 show (Op.equalIn (9998+2) 66 _ _).run Tryz.prog w=_;rw [gX w 9999 66 _ _ V V];simp only [Program.fieldsOf,Tryz.underlying66,Op.eqFields,part];simp [NX Kf rfl,fK w 9998 3 .i64 .i64 _ _ Tryz.underlying3];by_cases h1:a=c<;>by_cases h2:b=d<;>simp [h1,h2]⟩
section
variable{c t t' te:Nat}{x:Operand}{p:OAdr9}
def quJ(h:Own e 1 M (.slice Ad n c) n xs)(hn:0 < n):∃ b ys,Ad=j6 b/\M=[(b,cb (xs++ys) e)]/\xs.length=n/\xs.length+ys.length=c/\n<=c/\c<=9223372036854775807:=by
 exact VO
section
variable{TT:kG}{fr:Fr}{ops:Array Oper}{iP:List Oper}{op:Op}
def qES(hp:P.underlying t=some (.pointer te))(hx:lk fr x=some (.pointer p)):QE P TT D fr (.binOp .eql t x (.const (.pointer none)) t') ty K s0 (.bool p.isNone):=
 QE.pure λ_ dst iS af g ρ hρ w=>by
  have hc:=hρ (.const (.pointer none)) _ rfl;have h:∀ k:Nat,(Op.equalIn (k+1) t (.pointer p) (.pointer none)).run P w=.ok p.isNone w:=λk=>by cases p<;>simp [Op.equalIn,aQ hp]
  have h2:(binOp .eql t (.pointer p) (.pointer none)).run P w=.ok (.bool p.isNone) w:=by simp only [binOp];simp [Op.equal,Op.maxDepth,h 9999]
  simp [execOp,hρ x _ hx,hc,eqGuard,h2]
def NU(hp:P.underlying t=some (.pointer te))(hx:lk fr x=some (.pointer p)):QE P TT D fr (.binOp .neq t x (.const (.pointer none)) t') ty K s0 (.bool p.isSome):=
 QE.pure λ_ dst iS af g ρ hρ w=>by
  have hc:=hρ (.const (.pointer none)) _ rfl;have h:∀ k:Nat,(Op.equalIn (k+1) t (.pointer p) (.pointer none)).run P w=.ok p.isNone w:=λk=>by cases p<;>simp [Op.equalIn,aQ hp]
  have h2:(binOp .neq t (.pointer p) (.pointer none)).run P w=.ok (.bool p.isSome) w:=by simp only [binOp];cases p<;>simp [Op.equal,Op.maxDepth,h 9999]
  simp [execOp,hρ x _ hx,hc,eqGuard,h2]
def qET{a:Addr}(hp:P.underlying t=some (.pointer te))(pg:jH TT te=some ti)(hx:lk fr x=some (.pointer (some a)))(hy:lk fr y=some (.pointer (some a))):QE P TT D fr (.binOp .neq t x y t') ty K s0 (.bool false):=
 QE.pure λhT dst iS af g ρ hρ w=>by
  obtain ⟨i,i1,_⟩:=BU (hT.at_ pg);simp [execOp,hρ x _ hx,hρ y _ hy,eqGuard,Lib.run_neq_ptr_same w a hp i1]
def Sc(ho:jX D L s)(hi:(b,cb zs e)∈L):(fill L s).shape? b=some (e,zs.length):=by
 have:=qc ho hi;unfold World.shape?;rw [this];simp [cb]
def qEY(i:Nat)(hs:P.underlying t=some (.pointer te))(hd:P.underlying t'=some .unsafePointer)(pg:jH TT te=some ti)(hx:lk fr x=some (jc b))(hi:K[i]?=some (b,cb zs e))(hz:Nat.blt 0 zs.length=true):QE P TT D fr (.convert t t' x) ty K s0 (jc b):=
 λhT dst iS af g ρ hρ L s ho hl hK=>by
  obtain ⟨i0,i1,i2,_⟩:=BU (hT.at_ pg);have mC:0 < ti.size:=(hT.at_ pg).2.2.2.2.2.1;have hr:=Lib.run_to_unsafe (P:=P) (fill L s) ⟨b,0,none⟩ hs hd i1 (by rw [i2];omega) (Sc ho (hK _ (ay hi))) (by simpa using hz);simp only [execOp,hρ x _ hx,bA,hr,aP,bG]
def qsX(i:Nat)(hs:P.underlying t=some .unsafePointer)(hd:P.underlying t'=some (.pointer te))(pg:jH TT te=some ti)(hx:lk fr x=some (jc b))(hi:K[i]?=some (b,cb zs e))(hlies:liesAt P P.depth e (zs.length / P.cellsOf e) 0 te 1=true):QE P TT D fr (.convert t t' x) ty K s0 (jc b):=
 λhT dst iS af g ρ hρ L s ho hl hK=>by
  obtain ⟨i0,i1,i2,_⟩:=BU (hT.at_ pg);have hr:=Lib.run_from_unsafe (P:=P) (fill L s) ⟨b,0,none⟩ hs hd i1 (Sc ho (hK _ (ay hi))) hlies;simp only [execOp,hρ x _ hx,bA,hr,aP,bG]
def qy9{f:FuncId}(hf:P.funcs[f]?=some fn)(hname:(fn.name == "runtime.NumGoroutine")=false)(hb:fn.body.isNone=true)(hn:Extern.findNext fn=none)(he:Extern.find fn=some Extern.AbiNoEscape.same)(hx:lk fr x=some (.func (.func f) #[] #[]))(hy:lk fr y=some v):
  QE P TT D fr (.call { callee:=.value x,args:=#[y],argTypes:=ts }) ty K s0 v:=
 QE.pure λhT dst iS af g ρ hρ w=>by
  have hr:=run_callFunc_extern hf hname hb hn he #[v] w;rw [Lib.run_noEscape] at hr;simp [execOp,resolve,Deferred.ofValue,invoke,hρ x _ hx,hρ y _ hy,hr]
def qEZ(hx:lk fr x=some (.slice A m c))(hc:A=none\/c≠0):QE P TT D fr (.call { callee:=.builtin .unsafeSliceData,args:=#[x],argTypes:=ts }) ty K s0 (.pointer A):=
  QE.pure λhT dst iS af g ρ hρ w=>by
    rcases hc with rfl|hc
    . simp [execOp,resolve,invoke,builtin,hρ x _ hx,fX]
    . cases A with
      | none=>simp [execOp,resolve,invoke,builtin,hρ x _ hx,fX]
      | some a=>simp [execOp,resolve,invoke,builtin,hρ x _ hx,Lib.run_unsafeSliceData_row _ _ _ _ _ _ hc]
def qoO(w:World)(g e k:Nat)(cs:Array Value)(hk:k≠0)(hg:g < w.heap.size):(oX w g (.cells cs e (0,0))).freeze ⟨g,0,none⟩ k=oX w g (.cells cs e (0,k)):=by
  unfold World.freeze;rw [am hk];refine C9 (C8 λj=>?_) Z Z Z Z;show ((w.heap.setIfInBounds g _).modify g _)[j]?=(w.heap.setIfInBounds g _)[j]?;rw [fg];by_cases hj:g=j
  . subst hj
    rw [aw rfl,dA,dA];simp [hg]
  . rw [am hj,bW hj,bW hj]
end
section
variable{TT:kG}{fr:Fr}{ops:Array Oper}{iP:List Oper}{op:Op}
def qyv(X M L0:Hl)(hp:P.underlying tp=some (.pointer e))(tL:P.cellsOf e=1)(hx:lk fr x=some (.pointer A))(hy:lk fr y=some (iJ (l.length:Int)))(hO:Own e 1 M (.slice A l.length c) l.length (bv l))(hn:l=[]->M=[])(ho:jX D (X++(M++L0)) s):
    ∃ s',Ev P TT D fr (.call { callee:=.builtin .unsafeString,args:=#[x,y],argTypes:=#[tp,ti0] }) ty (X++(M++L0)) s (.value (St l)) (X++L0) s'/\Le D s s':=by
  by_cases h0:l=[]
  . subst h0
    have hM:=hn rfl;subst hM;refine ⟨s,λhT ho dst iS af g ρ hρ=>⟨?_,by simpa using ho⟩,Le.refl _⟩;simp only [ap] at hy;have hr:=Lib.run_unsafeString_none (P:=P) (fill (X++([]++L0)) s) tp ti0 ty A;simp [execOp,resolve,invoke,builtin,hρ x _ hx,hρ y _ hy];simp at hr;rw [hr];rfl
  . have hl0:l.length≠0:=by simpa using h0
    obtain ⟨g,ys,hA,hM,g1,g2,g3,g4⟩:∃ g ys,A=j6 g/\M=[(g,cb (bv l++ys) e)]/\(bv l).length=l.length/\(bv l).length+ys.length=c/\l.length<=c/\c<=9223372036854775807:=quJ hO O;subst hA;subst hM;have hperm:(X++([(g,cb (bv l++ys) e)]++L0)).Perm ((g,cb (bv l++ys) e)::(X++L0)):=by simpa using List.perm_middle
    have mR:=ho.perm hperm;have hgs:g < s.heap.size:=mR.lt Mc;have hgs2:g < (fill (X++L0) s).heap.size:=by rw [nR];exact hgs
    have ho3:jX D ([(g,Obj.cells (bv l++ys).toArray e (0,l.length))]++(X++L0)) s:=⟨by simpa using mR.nd,λx hx=>by
      rcases aW.1 hx with rfl|hx
      . exact mR.dm (g,cb (bv l++ys) e) Mc
      . exact mR.dm x (aq _ hx)⟩
    obtain ⟨d1,d2,d3⟩:=sK ho3;have hbl:(bv l).length=l.length:=g1;have hus:=Lib.run_unsafeString_row (P:=P) (fill (X++([(g,cb (bv l++ys) e)]++L0)) s) tp ti0 ty e hp tL g ((bv l++ys).length) (Sc ho (by simp)) l h0 (by simp [hbl]) O (λj x hx=>by
      rw [add_lit,aZ,BO ho (zs:=bv l++ys) (t:=e) (by simp),aR (by rw [hbl];exact (al.1 hx).1)];simp [bv,hx])
    have hw:(fill (X++([(g,cb (bv l++ys) e)]++L0)) s).freeze ⟨g,0,none⟩ l.length=fill (X++L0) (fill [(g,Obj.cells (bv l++ys).toArray e (0,l.length))] s):=by
      rw [tr hperm _ ho,<- d1];exact qoO (fill (X++L0) s) g e l.length (bv l++ys).toArray hl0 hgs2
    refine ⟨fill [(g,Obj.cells (bv l++ys).toArray e (0,l.length))] s,λhT _ dst iS af gg ρ hρ=>⟨?_,d2⟩,d3⟩;rw [hw] at hus;simp only [execOp,resolve,invoke,builtin,bA,bG,aP,gI,aS,dR,hρ x _ hx,hρ y _ hy,hus]
def qyV{i0:Nat}{g:Option (Nat×Bool)}{iK:Array Bool}{x:Operand}{c:Nat}(rf:ops[i0]?=some ⟨some d,.call { callee:=.builtin .unsafeString,args:=#[x,y],argTypes:=#[tp,ti0] },ty,iS,af,g⟩)(re:rz ops fr g)
  (X M L0:Hl) (hL:L=X++(M++L0)) (hp:P.underlying tp=some (.pointer e)) (tL:P.cellsOf e=1) (hx:lk fr x=some (.pointer A)) (hy:lk fr y=some (iJ (l.length:Int))) (hO:Own e 1 M (.slice A l.length c) l.length (bv l)) (hn:l=[]->M=[]) (hd:Nat.blt d n=true) (hK:∀ x∈K,x∈X++(M++L0)->x∈X++L0)
  (kk:∀ s',Le D s s'->JA P TT D n ops Q K s0 jr (iK.setIfInBounds i0 true) ((d,St l)::fr) (X++L0) s'):JB P TT D n ops Q K s0 jr iK i0 fr L s:=λhT a hr ho hl0 hKL=>by
 subst hL;obtain ⟨s',h1,h2⟩:=qyv (ty:=ty) X M L0 hp tL hx hy hO hn ho;exact Ca rf re h1 h2 hK hd (kk s' h2) hT a hr ho hl0 hKL
end
end
section
variable{c:Nat}
inductive Ex where
 | mk (kind op num:Int) (name:iR) (args:List Ex)
inductive jb where
 | mk (kind:Int) (name:iR) (exprs:List Ex) (body els:List jb)
def Ex.kind:Ex->Int|.mk k _ _ _ _=>k
def Ex.op:Ex->Int|.mk _ o _ _ _=>o
def Ex.num:Ex->Int|.mk _ _ n _ _=>n
def Ex.name:Ex->iR|.mk _ _ _ s _=>s
def Ex.args:Ex->List Ex|.mk _ _ _ _ l=>l
def jb.kind:jb->Int|.mk k _ _ _ _=>k
def jb.name:jb->iR|.mk _ s _ _ _=>s
def jb.exprs:jb->List Ex|.mk _ _ l _ _=>l
def jb.body:jb->List jb|.mk _ _ _ b _=>b
def jb.els:jb->List jb|.mk _ _ _ _ e=>e
structure iT where
 name:iR
 params:List iR
 locals:List iR
 body:List jb
structure jM where
 kind:Int
 name:iR
 num:Int
 init:LInt9
structure ja where
 o:List jM
 funcs:List iT
def yz:Nat->World->Ex->LVal9->Prop
 | 0,_,_,_=>False
 | d+1,s,x,cs=>∃ A n c,cs=[iJ x.kind,iJ x.op,iO x.num,St x.name,.slice A n c]/\Sl 5 (yz d) s A n c x.args/\iY x.num/\x.name.length<=9223372036854775807
def j9(d:Nat)(s:World)(A:OAdr9)(n c:Nat)(l:List Ex):Prop:=Sl 5 (yz d) s A n c l
def vW:Nat->World->jb->LVal9->Prop
 | 0,_,_,_=>False
 | d+1,s,x,cs=>∃ A1 n1 c1 A2 n2 c2 A3 n3 c3,cs=[iJ x.kind,St x.name,.slice A1 n1 c1,.slice A2 n2 c2,.slice A3 n3 c3]/\j9 d s A1 n1 c1 x.exprs/\Sl 5 (vW d) s A2 n2 c2 x.body/\Sl 5 (vW d) s A3 n3 c3 x.els/\x.name.length<=9223372036854775807
def jz(d:Nat)(s:World)(A:OAdr9)(n c:Nat)(l:List jb):Prop:=Sl 5 (vW d) s A n c l
def yz.le(hl:Le D s s'):∀ {d:Nat} {x:Ex} {cs:LVal9},yz d s x cs->yz d s' x cs
 | 0,_,_,h=>h
 | _+1,_,_,⟨A,n,c,h1,h2,h3⟩=>⟨A,n,c,h1,Sl.le (λ_ _ h=>yz.le hl h) h2 hl,h3⟩
def j9.le{l:List Ex}(h:j9 d s A n c l)(hl:Le D s s'):j9 d s' A n c l:=Sl.le (λ_ _ h=>yz.le hl h) h hl
def vW.le(hl:Le D s s'):∀ {d:Nat} {x:jb} {cs:LVal9},vW d s x cs->vW d s' x cs
 | 0,_,_,h=>h
 | _+1,_,_,⟨A1,n1,c1,A2,n2,c2,A3,n3,c3,h1,h2,h3,h4,h5⟩=>⟨A1,n1,c1,A2,n2,c2,A3,n3,c3,h1,h2.le hl,Sl.le (λ_ _ h=>vW.le hl h) h3 hl,Sl.le (λ_ _ h=>vW.le hl h) h4 hl,h5⟩
def jz.le{l:List jb}(h:jz d s A n c l)(hl:Le D s s'):jz d s' A n c l:=Sl.le (λ_ _ h=>vW.le hl h) h hl
def j9.at_{l:List Ex}(h:j9 d s A n c l)(hk:k < n):∃ e b off x A' n' c',d=e+1/\A=some ⟨b,off,none⟩/\l[k]?=some x/\iH s b (off+k * 5) [iJ x.kind,iJ x.op,iO x.num,St x.name,.slice A' n' c']/\j9 e s A' n' c' x.args/\iY x.num/\x.name.length<=9223372036854775807:=by
 have hl:k < l.length:=by rw [<- h.1];exact hk
 obtain ⟨b,off,cs,h1,h2,_,h4⟩:=h.2.2.2 k l[k] (ax hl);cases d with
 | zero=>exact h4.elim
 | succ e=>
  obtain ⟨A',n',c',rfl,h5,h6,h7⟩:=h4;exact ⟨e,b,off,l[k],A',n',c',rfl,h1,ax hl,h2,h5,h6,h7⟩
def jz.at_{l:List jb}(h:jz d s A n c l)(hk:k < n):∃ e b off x A1 n1 c1 A2 n2 c2 A3 n3 c3,d=e+1/\A=some ⟨b,off,none⟩/\l[k]?=some x/\iH s b (off+k * 5) [iJ x.kind,St x.name,.slice A1 n1 c1,.slice A2 n2 c2,.slice A3 n3 c3]/\j9 e s A1 n1 c1 x.exprs/\jz e s A2 n2 c2 x.body/\jz e s A3 n3 c3 x.els/\x.name.length<=9223372036854775807:=by
 have hl:k < l.length:=by rw [<- h.1];exact hk
 obtain ⟨b,off,cs,h1,h2,_,h4⟩:=h.2.2.2 k l[k] (ax hl);cases d with
 | zero=>exact h4.elim
 | succ e=>
  obtain ⟨A1,n1,c1,A2,n2,c2,A3,n3,c3,rfl,h5,h6,h7,h8⟩:=h4;exact ⟨e,b,off,l[k],A1,n1,c1,A2,n2,c2,A3,n3,c3,rfl,h1,ax hl,h2,h5,h6,h7,h8⟩
def Fm(d:Nat)(s:World)(x:iT)(cs:LVal9):Prop:=∃ A1 n1 c1 A2 n2 c2 A3 n3 c3,cs=[St x.name,.slice A1 n1 c1,.slice A2 n2 c2,.slice A3 n3 c3]/\iW s A1 n1 c1 x.params/\iW s A2 n2 c2 x.locals/\jz d s A3 n3 c3 x.body/\x.name.length<=9223372036854775807
def ju(d:Nat)(s:World)(A:OAdr9)(n c:Nat)(l:List iT):Prop:=Sl 4 (Fm d) s A n c l
def Fp(s:World)(x:jM)(cs:LVal9):Prop:=∃ A n c,cs=[iJ x.kind,St x.name,iO x.num,.slice A n c]/\lV s A n c x.init/\iY x.num/\x.name.length<=9223372036854775807
def jn(s:World)(A:OAdr9)(n c:Nat)(l:List jM):Prop:=Sl 4 Fp s A n c l
def Wn{p:Prop} (h:p:=by
 obtain ⟨A1,n1,c1,A2,n2,c2,A3,n3,c3,h1,h2,h3,h4,h5⟩:=h;exact ⟨A1,n1,c1,A2,n2,c2,A3,n3,c3,h1,h2.le hl,h3.le hl,h4.le hl,h5⟩):p:=h
def Fm.le{x:iT}{cs:LVal9}(h:Fm d s x cs)(hl:Le D s s'):Fm d s' x cs:=by
 exact Wn
def ju.le{l:List iT}(h:ju d s A n c l)(hl:Le D s s'):ju d s' A n c l:=Sl.le (λ_ _ h=>h.le hl) h hl
def Fp.le{x:jM}{cs:LVal9}(h:Fp s x cs)(hl:Le D s s'):Fp s' x cs:=by
 obtain ⟨A,n,c,h1,h2,h3⟩:=h;exact ⟨A,n,c,h1,h2.le hl,h3⟩
def jn.le{l:List jM}(h:jn s A n c l)(hl:Le D s s'):jn s' A n c l:=Sl.le (λ_ _ h=>h.le hl) h hl
def ju.at_{l:List iT}(h:ju d s A n c l)(hk:k < n):∃ b off x A1 n1 c1 A2 n2 c2 A3 n3 c3,A=some ⟨b,off,none⟩/\l[k]?=some x/\iH s b (off+k * 4) [St x.name,.slice A1 n1 c1,.slice A2 n2 c2,.slice A3 n3 c3]/\iW s A1 n1 c1 x.params/\iW s A2 n2 c2 x.locals/\jz d s A3 n3 c3 x.body/\x.name.length<=9223372036854775807:=by
 have hl:k < l.length:=by rw [<- h.1];exact hk
 obtain ⟨b,off,cs,h1,h2,_,A1,n1,c1,A2,n2,c2,A3,n3,c3,rfl,h5⟩:=h.2.2.2 k l[k] (ax hl);exact ⟨b,off,l[k],A1,n1,c1,A2,n2,c2,A3,n3,c3,h1,ax hl,h2,h5⟩
def jn.at_{l:List jM}(h:jn s A n c l)(hk:k < n):∃ b off x A' n' c',A=some ⟨b,off,none⟩/\l[k]?=some x/\iH s b (off+k * 4) [iJ x.kind,St x.name,iO x.num,.slice A' n' c']/\lV s A' n' c' x.init/\iY x.num/\x.name.length<=9223372036854775807:=by
 have hl:k < l.length:=by rw [<- h.1];exact hk
 obtain ⟨b,off,cs,h1,h2,_,A',n',c',rfl,h5⟩:=h.2.2.2 k l[k] (ax hl);exact ⟨b,off,l[k],A',n',c',h1,ax hl,h2,h5⟩
def se:List iR:=[[97,114,114,97,121],[98,114,101,97,107],[99,111,110,115,116],[99,111,110,116,105,110,117,101],[101,108,115,101],[102,117,110,99],[103,101,116],[105,102],[112,117,116],[114,101,116,117,114,110],[115,116,111,112],[118,97,114],[119,104,105,108,101]]
def Jd(s:iR):Bool:=se.any λw=>decide (w=s)
def oW(s:iR):Bool:=(decide (s≠[]) && decide ((s.length:Int)<=12) && sG 0 s) && !Jd s
def pL(g:jM):Int:=if g.kind < 1\/3 < g.kind then 5 else if oW g.name=false then 7 else if (g.kind≠3/\g.init≠[])\/(g.kind=2/\g.num≠0) then 6 else if g.kind=3/\(g.num < 1\/40000 < g.num) then 4 else if g.kind=3/\g.num < (g.init.length:Int) then 2 else 0
def Dr(k:Int):Bool:=decide (2<=k/\k<=4)
def tu(k:Int):Nat:=if k=3\/k=6 then 1 else if k=7 then 2 else 0
def uV(k:Int):Nat:=if k=3\/k=6 then 1 else if k=4 then 6 else if k=7 then 2 else 0
def qn(k o n:Int)(nm:iR)(na:Nat):Int:=if k < 1\/7 < k\/(k=6/\(o < 1\/3 < o))\/(k=7/\(o < 4\/21 < o)) then 5 else if Dr k=true/\oW nm=false then 7 else if (Dr k=false/\nm≠[])\/(k≠1/\n≠0)\/(k < 6/\o≠0)\/na < tu k\/uV k < na then 6 else 0
def BZ(k:Int):Bool:=decide (k=1) || decide (k=2) || decide (k=5)
def wG(k:Int):Nat:=if k=2 then 2 else if k=5\/8 < k then 0 else 1
def zl(k:Int):Nat:=if k=2 then 2 else if k=5 then 6 else if 8 < k then 0 else 1
def tX(k:Int)(nm:iR)(ne nb nl:Nat):Int:=if k < 1\/10 < k then 5 else if BZ k=true/\oW nm=false then 7 else if (BZ k=false/\nm≠[])\/ne < wG k\/zl k < ne\/(0 < nb/\k≠3/\k≠4)\/(0 < nl/\k≠3) then 6 else 0
mutual
def uL:Ex->Nat->Nat->Nat×Int
 | .mk k o n nm az,lv,c=>if 16 < lv\/2000 < c+1 then (c+1,2) else if qn k o n nm az.length≠0 then (c+1,qn k o n nm az.length) else om az (lv+1) (c+1)
def om:List Ex->Nat->Nat->Nat×Int
 | [],_,c=>(c,0)
 | x::r,lv,c=>if (uL x lv c).2≠0 then uL x lv c else om r lv (uL x lv c).1
end
mutual
def tY:jb->Nat->Nat->Nat×Int
 | .mk k nm es b e,lv,c=>if 16 < lv\/2000 < c+1 then (c+1,2) else if tX k nm es.length b.length e.length≠0 then (c+1,tX k nm es.length b.length e.length)
  else if (om es 1 (c+1)).2≠0 then om es 1 (c+1) else if (nE b (lv+1) (om es 1 (c+1)).1).2≠0 then nE b (lv+1) (om es 1 (c+1)).1 else nE e (lv+1) (nE b (lv+1) (om es 1 (c+1)).1).1
def nE:List jb->Nat->Nat->Nat×Int
 | [],_,c=>(c,0)
 | x::r,lv,c=>if (tY x lv c).2≠0 then tY x lv c else nE r lv (tY x lv c).1
end
def pO(x:iT)(c:Nat):Nat×Int:=if oW x.name=false then (c,7) else if 6 < x.params.length\/12 < x.locals.length then (c,2) else if (x.params++x.locals).any (λs=>!oW s)=true then (c,7) else nE x.body 1 c
def va(o:Int):Int:=if o=21 then 1 else if o=20 then 2 else if 14<=o/\o<=19 then 3 else if 10<=o/\o<=13 then 4 else 5
def sv:List iR:=[[],[33],[45],[126],[42],[47],[37],[60,60],[62,62],[38],[43],[45],[124],[94],[61,61],[33,61],[60],[60,61],[62],[62,61],[38,38],[124,124]]
def BA(o:Int):iR:=sv.getD o.toNat []
def qu:List iR->iR
 | []=>[]
 | [x]=>x
 | x::y::r=>x++44::32::qu (y::r)
def B4(k o:Int):LInt9:=if k=6 then [9] else if k=7 then [va o,va o+1] else []
def AF(k o n:Int)(nm:iR)(az:List iR)(out:Int):iR:=if k=1 then o4 n else if k=2 then nm else if k=3 then nm++[91]++qu az++[93] else if k=4 then nm++[40]++qu az++[41] else if k=5 then [103,101,116] else if k=6 then BA o++az.getD 0 []
 else if va o < out then [40]++(az.getD 0 []++[32]++BA o++[32]++az.getD 1 [])++[41] else az.getD 0 []++[32]++BA o++[32]++az.getD 1 []
mutual
def mU:Ex->Int->iR
 | .mk k o n nm az,out=>AF k o n nm (qN az (B4 k o)) out
def qN:List Ex->LInt9->List iR
 | [],_=>[]
 | x::r,os=>mU x (os.headD 0)::qN r os.tail
end
def oH:Nat->iR
 | 0=>[]
 | n+1=>oH n++[32,32]
def wL(k:Int)(nm:iR)(es:List iR):iR:=if k=1 then nm++[32,61,32]++es.getD 0 []++[59,10] else if k=2 then nm++[91]++es.getD 0 []++[93,32,61,32]++es.getD 1 []++[59,10] else if k=5 then nm++[40]++qu es++[41,59,10]
 else (if k=6 then [114,101,116,117,114,110,32] else if k=7 then [112,117,116,32] else if k=8 then [115,116,111,112,32] else if k=9 then [98,114,101,97,107] else [99,111,110,116,105,110,117,101])++qu es++[59,10]
def Eu:List jb->Bool
 | [.mk k _ _ _ _]=>decide (k=3)
 | _=>false
mutual
def vO:jb->Nat->iR
 | .mk k nm es b e,lv=>if k=3\/k=4 then
   (if k=3 then [105,102] else [119,104,105,108,101])++[32,40]++(qN es []).getD 0 []++[41,32,123,10]++ss b (lv+1)++oH lv++[125] ++
    (if e.isEmpty=true then [10] else if Eu e=true then [32,101,108,115,101,32]++BF e lv else [32,101,108,115,101,32,123,10]++ss e (lv+1)++oH lv++[125,10])
  else wL k nm (qN es [])
def ss:List jb->Nat->iR
 | [],_=>[]
 | x::r,lv=>oH lv++vO x lv++ss r lv
def BF:List jb->Nat->iR
 | [],_=>[]
 | x::_,lv=>vO x lv
end
def uF(g:jM):iR:=(if g.kind=1 then [99,111,110,115,116,32]++g.name++[32,61,32]++o4 g.num else if g.kind=2 then [118,97,114,32]++g.name
 else [97,114,114,97,121,32]++g.name++[91]++o4 g.num++[93]++(if g.init=[] then [] else [32,61,32]++qu (g.init.map o4)))++[59,10]
def By(x:iT):iR:=[102,117,110,99,32]++x.name++[40]++qu x.params++[41,32,123,10]++(if x.locals=[] then [] else [32,32,118,97,114,32]++qu x.locals++[59,10])++ss x.body 1++[125,10]
def Ah(p:ja):iR:=(p.o.map uF).flatten++(p.funcs.map By).flatten
def yH:List iT->Nat->Nat->Int×Int
 | [],_,_=>(0,0)
 | x::r,i,c=>if (pO x c).2≠0 then ((pO x c).2,(i:Int)) else yH r (i+1) (pO x c).1
def wr:List jM->Nat->Int×Int
 | [],_=>(0,0)
 | g::r,i=>if pL g≠0 then (pL g,(i:Int)) else wr r (i+1)
def qv(p:ja):Int×Int:=if 64 < p.o.length\/64 < p.funcs.length then (2,-1) else if (wr p.o 0).1≠0 then wr p.o 0 else if 1000 < (p.o.map λg=>g.init.length).sum then (2,-1) else yH p.funcs p.o.length 0
def qV(p:ja):Int×Int:=if (qv p).1≠0 then qv p else if 12000 < (Ah p).length then (14,-1) else (0,0)
def ko:ja:=⟨[⟨1,[110],3,[]⟩],[⟨[109,97,105,110],[],[],[.mk 7 [] [.mk 7 10 0 [] [.mk 5 0 0 [] [],.mk 7 4 0 [] [.mk 2 0 0 [110] [],.mk 1 0 2 [] []]]] [] []]⟩]⟩
end
end Go.Proofs.YtapeaicongaggaaGreatDoor
