/- Part 3. -/
import Derived.Test.YtemgonlhniicbaaGreatDoorQ42z2
import Derived.Lib.SmallJoins
set_option linter.unusedVariables false
set_option linter.defProp false
set_option linter.unusedSimpArgs false
set_option linter.unnecessarySimpa false
set_option maxRecDepth 100000
set_option maxHeartbeats 8000000
namespace Go.Proofs.YtemgonlhniicbaaGreatDoor
open Go Go.RowKit Go.Proofs.Tryz
def aG:=@List.getD_eq_getElem?_getD
def aM:=@List.drop_eq_getElem_cons
def bt:=@List.getElem?_set_ne
def bD:=@Option.isNone_iff_eq_none
def bJ:=@List.getElem?_set_self
def bK:=@decide_eq_decide
def bL:=@decide_eq_true
def bR:=@decide_eq_false
def cm:=@List.drop_zero
def cJ:=@List.mem_of_find?_eq_some
def cM:=@Option.some.inj
def cU:=@List.getElem?_replicate
def dt:=@List.mem_range
def dF:=@Bool.not_eq_true'
def dH:=@Lib.size_eq
def dQ:=@List.getElem_mem
def dR:=@Nat.le_of_not_lt
def dT:=@List.mem_replicate
def dV:=@List.drop_of_length_le
def dW:=@Prod.mk.injEq
def dY:=@Option.getD_some
def ei:=@decide_eq_false_iff_not
def eN:=@List.ext_getElem
def fl:=@beq_iff_eq
def fq:=@List.any_eq_true
def fw:=@List.any_cons
def fC:=@getD_set_ne
def fD:=@List.mem_iff_getElem
def fK:=@UInt8.toNat_inj
def fL:=@List.mem_filter
def fO:=@Array.length_toList
def fS:=@dif_pos
def fZ:=@List.find?_eq_none
def gn:=@List.mem_or_eq_of_mem_set
def gJ:=@Option.bind_some
def gW:=@Array.getElem?_toList
def hZ:=@List.nodup_nil
def ia:=@List.count_le_length
def iq:=@Nat.add_mul
def iw:=@true_and
variable{s s' w s0 W:World}{P:Program}{D n c e i k ty b d ck t' j bm bq nx cx bc cc nAx cAx yt cBx nOx cOx off K jd i0 b0 o0 p:Nat}{L L' M Y X:Hl}{l:List (List UInt8)}{x y:Operand}{af:Array Edge}{v yv z v0:Value}{news xs yc zs vs ys:iz}{es:List (Int×Value×Nat)}{Q:pS}{css:List iz}{iL nm:String}{iI:List Oper}{A Ad Ax A1 Bx Ox:iE}{m:lH}{ti te:TI}{ts:Array TypeId}{o:List UInt8×Int×Int×Int}{fz:Nat×Nat}{ps:List (Nat×Operand)}{sm:iG}{jN:Fr}{pR:List Ins}{a:Act}{r:Int}{ds js ks:List Nat}{ik:IntKind}
section
attribute [local irreducible] JC JO JA JB ma mO mX AC fill iy QE Ev my
def P5{p:Prop} (h:p:=by
 refine ⟨_::_::_::A1,Z,Z,?_⟩;rw [qA3 As O];have hb:bv (m.output++[UInt8.ofNat ((lu m op a.x).toNat % 256)])=bv m.output++[Value.int .u8 ((UInt8.ofNat ((lu m op a.x).toNat % 256)).toNat:Int)]:=by simp [bv]
 exact ⟨bc,cc,yc,A1,Ao1,co1,Ai,ni,ci,by simp,by simpa [hb] using o1,hI.le Lc,nS,hcc2⟩):p:=h
def Ii{p:Prop} (h:p:=by
 intro v1 A1 vD vm o1;obtain ⟨Ao1,co1,rfl,ko1,ko2⟩:=Own.slice o1;simp only [jC,jD];refine H3 ?_;refine iF 13 V<|w8 Z Tt 2 (_::_::_::_::_::_::_::_::_::_::_::_) Y5 Z Z Z Z (sM (lj (ql)))<|ji V<|Zb ?_;refine lF [_,_] _ (.inl Z) (.nil) Z Lc λ_ iD=>?_;exact P5):p:=h
theorem qy1(oc:sm.length=256){op:Int}(hM:DS bm (.slice Ax nx cx) sm bq es ck op m M s){a:Ac}{ba oa:Nat}(vO:iy s ba oa [iB a.kind,iB a.tgt,iB a.x.kind,iJ a.x.val,iB a.y.kind,iJ a.y.val])(me:sF m)(vu:iQ op)(ha:AQ a):jU D 125 [iT bm,.pointer (some ⟨ba,oa,none⟩)] (M++L) s λv L' s'=>∃ M',L'=M'++L/\v=.tuple #[]/\DS bm (.slice Ax nx cx) sm bq es ck op (kn m a op) M' s':=by
 obtain ⟨bc,cc,yc,Oq9,Ao,co,Ai,ni,ci,rfl,hO,hI,nS,hcc2⟩:=hM;have oI:=OC me vu ha.ux;have pK:=OC me vu ha.uy;have hux1:=oI.1;have hux2:=oI.2;have rz:=me.cells;have hni:=hI.1;have hno:=me.output;simp only [ao];refine jn (fn:=Tryz.f125) jb Tryz.func125 V Z Tryz.ntmps125 Z (rs:=[]) Z [(0,_),(1,_)] Z<|Sr<|BG Z Z Z λβ1 s1 h1=>BG Z Z Z λβ2 s2 h2=>Nt<|Zs<|mr jt 14 Z _ (λ_ h=>h) λs3 h3=>H4 ?_;refine za 4 Z (ku Y3 (iy.sub (us:=[_,_]) 2 Pz Z) Z) Z<|H4 ?_;refine za 10 Z (ku Y3 (iy.sub (us:=[_,_]) 4 Pz Z) Z) Z<|iF 5 V<|Jb Z Tt Z Z Z (AC.mid [_,_] [_] _ (qoW oc ha.x)) ?_;rintro _ _ s4 h4 ⟨_,rfl,rfl,rfl⟩;refine ⟨λ_ _ h=>h,?_⟩;simp only [jC,jD];refine iF 11 V<|Jb Z Tt Z Z Z (AC.mid [_,_] [_] _ (qoW oc ha.y)) ?_;rintro _ _ s5 h5 ⟨_,rfl,rfl,rfl⟩;refine ⟨λ_ _ h=>h,?_⟩;simp only [jC,jD];refine H2 ?_;refine ji V<|Zt<|Sr<|iA (qZ Z) Z<|G8 ?_;refine iA (jS Y3 Pz Z) Z<|J9 ?_ ?_<;>intro c6;.refine G3 ?_;refine ub (first:=[]) (captured:=[_,_]) Z Z Z (DN oc a ba oa Pz ha.tgt) ?_;rintro _ _ s7 h7 ⟨rfl,rfl⟩;refine G2 ?_;refine lF [_,_] _ (.inl Z) (.nil) Z Lc λ_ iD=>?_;refine ⟨_::_::_::Oq9,Z,Z,?_⟩;rw [qGR As];exact ⟨bc,cc,yc,Oq9,Ao,co,Ai,ni,ci,rfl,hO,hI.le Lc,nS,hcc2⟩
 refine J6 ?_ ?_<;>intro c7
 .refine J6 ?_ ?_<;>intro c8;.refine G3 ?_;refine ub (first:=[]) (captured:=[_,_]) Z Z Z (DN oc a ba oa Pz ha.tgt) ?_;rintro _ _ s9 h9 ⟨rfl,rfl⟩;refine G2 ?_;refine lF [_,_] _ (.inl Z) (.nil) Z Lc λ_ iD=>?_;refine ⟨_::_::_::Oq9,Z,Z,?_⟩;rw [qA6 As As];exact ⟨bc,cc,yc,Oq9,Ao,co,Ai,ni,ci,rfl,hO,hI.le Lc,nS,hcc2⟩
  refine G2 ?_;refine lF [_,_] _ (.inl Z) (.nil) Z Lc λ_ iD=>?_;refine ⟨_::_::_::Oq9,Z,Z,?_⟩;rw [quq As As];exact ⟨bc,cc,yc,Oq9,Ao,co,Ai,ni,ci,rfl,hO,hI.le Lc,nS,hcc2⟩
 refine J7 ?_ ?_<;>intro c8
 .refine J2 ?_ ?_<;>intro c9
  .refine J8 ?_ ?_<;>intro mz;.refine X5 ?_;refine lF [_,_] _ (.inl Z) (.nil) Z Lc λ_ iD=>?_;refine ⟨_::_::_::Oq9,Z,Z,?_⟩;rw [qA7 As As];exact ⟨bc,cc,yc,Oq9,Ao,co,Ai,ni,ci,rfl,hO,hI.le Lc,nS,hcc2⟩
   refine G5 ?_;refine iA (jS Y3 Pz Z) Z<|J4 ?_ ?_<;>intro nZ;.refine G4 ?_;refine iA (qyW Z Z As) Z<|ub (first:=[]) (captured:=[_,_]) Z Z Z (DN oc a ba oa Pz ha.tgt) ?_;rintro _ _ kh jE ⟨rfl,rfl⟩;refine G3 ?_;refine lF [_,_] _ (.inl Z) (.nil) Z Lc λ_ iD=>?_;refine ⟨_::_::_::Oq9,Z,Z,?_⟩;rw [qGS As As,<- JI oI pK,<- Lg];exact ⟨bc,cc,yc,Oq9,Ao,co,Ai,ni,ci,rfl,hO,hI.le Lc,nS,hcc2⟩
   exfalso;omega
  exfalso;omega
 refine J5 ?_ ?_<;>intro c9
 .refine J8 ?_ ?_<;>intro mz;.refine X5 ?_;refine lF [_,_] _ (.inl Z) (.nil) Z Lc λ_ iD=>?_;refine ⟨_::_::_::Oq9,Z,Z,?_⟩;rw [qA8 As As];exact ⟨bc,cc,yc,Oq9,Ao,co,Ai,ni,ci,rfl,hO,hI.le Lc,nS,hcc2⟩
  refine G5 ?_;refine iA (jS Y3 Pz Z) Z<|J4 ?_ ?_<;>intro nZ;.exfalso;omega
  refine G4 ?_;refine iA (qyX Z Z As) Z<|ub (first:=[]) (captured:=[_,_]) Z Z Z (DN oc a ba oa Pz ha.tgt) ?_;rintro _ _ kh jE ⟨rfl,rfl⟩;refine G3 ?_;refine lF [_,_] _ (.inl Z) (.nil) Z Lc λ_ iD=>?_;refine ⟨_::_::_::Oq9,Z,Z,?_⟩;rw [qGT As As,<- JP oI];exact ⟨bc,cc,yc,Oq9,Ao,co,Ai,ni,ci,rfl,hO,hI.le Lc,nS,hcc2⟩
 refine J7 ?_ ?_<;>intro mz
 .refine J2 ?_ ?_<;>intro nZ
  .refine G5 ?_;refine CX [_] _ kv (NZ oc oI rz) ?_;rintro _ _ kh jE ⟨rfl,rfl⟩;refine G4 ?_;refine lL Z ?_ ?_<;>intro pZ;.refine X5 ?_;refine lF [_,_] _ (.inl Z) (.nil) Z Lc λ_ iD=>?_;refine ⟨_::_::_::Oq9,Z,Z,?_⟩;rw [quk As As];exact ⟨bc,cc,yc,Oq9,Ao,co,Ai,ni,ci,rfl,hO,hI.le Lc,nS,hcc2⟩
   refine G5 ?_;refine iA (jS Y3 Pz Z) Z<|J4 ?_ ?_<;>intro rI;.refine G8 ?_;refine iA (xQ Y6 hux1 As) Z<|iA (rS 3 Y4 (ON hux1 As)) Z<|ub (first:=[]) (captured:=[_,_]) Z Z Z (DN oc a ba oa Pz ha.tgt) ?_;rintro _ _ lW lQ ⟨rfl,rfl⟩;refine G3 ?_;refine lF [_,_] _ (.inl Z) (.nil) Z Lc λ_ iD=>?_;refine ⟨_::_::_::Oq9,Z,Z,?_⟩;rw [qA0 As As];exact ⟨bc,cc,yc,Oq9,Ao,co,Ai,ni,ci,rfl,hO,hI.le Lc,nS,hcc2⟩
   exfalso;omega
  exfalso;omega
 refine J5 ?_ ?_<;>intro nZ
 .refine G5 ?_;refine CX [_] _ kv (NZ oc oI rz) ?_;rintro _ _ kh jE ⟨rfl,rfl⟩;refine G4 ?_;refine lL Z ?_ ?_<;>intro pZ;.refine X5 ?_;refine lF [_,_] _ (.inl Z) (.nil) Z Lc λ_ iD=>?_;refine ⟨_::_::_::Oq9,Z,Z,?_⟩;rw [qul As As];exact ⟨bc,cc,yc,Oq9,Ao,co,Ai,ni,ci,rfl,hO,hI.le Lc,nS,hcc2⟩
  refine G5 ?_;refine iA (jS Y3 Pz Z) Z<|J4 ?_ ?_<;>intro rI;.exfalso;omega
  refine G8 ?_;refine iA (xQ Y6 hux1 As) Z<|xS 3 _ Y5 (qqU hux1 As) Z (qtf _ hux1 As) Z<|G3 ?_;refine lF [_,_] _ (.inl Z) (.nil) Z Lc λ_ iD=>?_;refine ⟨_::_::_::Oq9,Z,Z,?_⟩;rw [qA1 As As];exact ⟨bc,cc,yc,Oq9,Ao,co,Ai,ni,ci,Ξ,hO,hI.le Lc,by simp;exact nS,hcc2⟩
 refine J6 ?_ ?_<;>intro oL
 .refine x8 ?_ ?_<;>intro pZ;.refine Sr<|kb Y2<|ub (first:=[]) (captured:=[_,_]) Z Z Z (DN oc a ba oa Pz ha.tgt) ?_;rintro _ _ lG kI ⟨rfl,rfl⟩;refine G5 ?_;refine rR [_,_] _ (.nil) Z Lc λ_ iD=>?_;refine ⟨_::_::_::Oq9,Z,Z,?_⟩;have rO:m.aa=[]:=aJ O;rw [qum As rO];exact ⟨bc,cc,yc,Oq9,Ao,co,Ai,ni,ci,rfl,hO,hI.le Lc,nS,hcc2⟩
  obtain ⟨bi,oi,xi,rfl,hxi,hci⟩:=lP.at_ Pz (show 0 < ni by omega);refine lM ?_;refine iA (xQ Y6 Dc O) Z<|iA (jS Y3 Pz Z) Z<|iA (sW Y5 (Gz O (by have:=xi.toNat_lt;omega))) Z<|ub (first:=[]) (captured:=[_,_]) Z Z Z (DN oc a ba oa Pz ha.tgt) ?_;rintro _ _ lG kI ⟨rfl,rfl⟩;refine Nt<|pM jt 11 Z [2] Q4 λlW lQ=>H5 ?_;refine iF 5 V<|jW Z Tt (Wd 2 Y5) Z<|za 6 Z (UR (j:=1) Z Z Z Z Z O) Z<|H3 ?_;refine iF 10 V<|w8 Z Tt 2 (_::_::_::_::_::_::_::_::_::_::_::_) Y5 Z Z Z Z (sM (kN (jL)))<|ji V<|Zb ?_;refine lF [_,_] _ (.inl Z) (.nil) Z Lc λ_ iD=>?_;refine ⟨_::_::_::Oq9,Z,Z,?_⟩;obtain ⟨r,hr⟩:=TH hxi;rw [qA2 As hr];rw [hr] at hI;exact ⟨bc,cc,yc,Oq9,Ao,co,_,_,_,rfl,hO,(lP.tail hI).le Lc,nS,hcc2⟩
 refine J6 ?_ ?_<;>intro pZ
 .refine G9 ?_;refine va Y3<|J2 ?_ ?_<;>intro rI;.refine G6 ?_;refine xS 2 (_::_::_::_::_::_::_::_::_::_::_::_) Y5 Z Z Z Z<|G5 ?_;refine rR [_,_] _ (.nil) Z Lc λ_ iD=>?_;refine ⟨_::_::_::Oq9,Z,Z,?_⟩;rw [qun As me O];exact ⟨bc,cc,yc,Oq9,Ao,co,Ai,ni,ci,rfl,hO,hI.le Lc,nS,hcc2⟩
  refine Zk<|Zt<|mv jt 14 Z 2 λlW lQ=>H6 ?_;refine za 7 Z (kK (Kx Z Z Z Z Z) (bl (Value.int .u8) (qKo oI))) Z ?_;refine kA 5 8 V ?_ ?_;.refine jW Z Tt (Wd 2 Y5) Z<|iF 8 V<|qC Z Tt [(_,_)] [_] Y9 λβn sB tu oT=>iF 9 V<|wT (sz:=1) Z (by exact Tt) [_,_,_,_,_] Oq9 Z Z Z Z Z Z Z hO (Row.of_cells Pz Z Z) ⟨by simp [Da];omega,O⟩ Z (λA2 x hx _=>aI _ (by simp at hx ⊢;grind)) ?_;exact Ii
  refine qC Z Tt [(_,_)] [_] Y9 λβn sB tu oT=>iF 5 V<|jW Z Tt (Wd 2 Y5) Z<|iF 9 V<|wT (sz:=1) Z (by exact Tt) [_,_,_,_,_] Oq9 Z Z Z Z Z Z Z hO (Row.of_cells Pz Z Z) ⟨by simp [Da];omega,O⟩ Z (λA2 x hx _=>aI _ (by simp at hx ⊢;grind)) ?_;exact Ii
 refine J7 ?_ ?_<;>intro rI
 .refine J2 ?_ ?_<;>intro vJ
  .refine G5 ?_;refine iA (jS Y3 Pz Z) Z<|G2 ?_;refine ld (t:=172) Z ?_ ?_<;>intro c16;.refine G6 ?_;refine pM jt 11 Z [2] Q4 λvD vm=>H6 ?_;refine iF 6 V<|w8 Z Tt 2 (_::_::_::_::_::_::_::_::_::_::_::_) Y5 Z Z Z Z (sM (kN (jL)))<|H3 ?_;refine iF 10 V ?_;refine w8 Z Tt 2 (_::_::_::_::_::_::_::_::_::_::_::_) Y5 Z Z Z Z (sM (kN (jL)))<|ji V<|Zb ?_;refine lF [_,_] _ (.inl Z) (.nil) Z Lc λ_ iD=>?_;refine ⟨_::_::_::Oq9,Z,Z,?_⟩;rw [qA4 As];exact ⟨bc,cc,yc,Oq9,Ao,co,Ai,ni,ci,rfl,hO,hI.le Lc,nS,hcc2⟩
   refine J7 ?_ ?_<;>intro yY;.exfalso;omega
   exfalso;omega
  exfalso;omega
 refine J5 ?_ ?_<;>intro vJ
 .refine G5 ?_;refine iA (jS Y3 Pz Z) Z<|G2 ?_;refine ld (t:=172) Z ?_ ?_<;>intro c16;.refine G6 ?_;refine pM jt 11 Z [2] Q4 λvD vm=>H6 ?_;refine X9 ?_;refine lF [_,_] _ (.inl Z) (.nil) Z Lc λ_ iD=>?_;exfalso;omega
  refine J7 ?_ ?_<;>intro yY;.refine pM jt 11 Z [2] Q4 λBO h18=>H6 ?_;refine X9 ?_;refine lF [_,_] _ (.inl Z) (.nil) Z Lc λ_ iD=>?_;refine ⟨_::_::_::Oq9,Z,Z,?_⟩;rw [qA5 As As];exact ⟨bc,cc,yc,Oq9,Ao,co,Ai,ni,ci,rfl,hO,hI.le Lc,nS,hcc2⟩
  refine G2 ?_;refine lF [_,_] _ (.inl Z) (.nil) Z Lc λ_ iD=>?_;refine ⟨_::_::_::Oq9,Z,Z,?_⟩;rw [qup As As];exact ⟨bc,cc,yc,Oq9,Ao,co,Ai,ni,ci,rfl,hO,hI.le Lc,nS,hcc2⟩
 refine G5 ?_;refine iA (jS Y3 Pz Z) Z<|G2 ?_;refine Je Y3 (qph oI pK (by have:=ha.kind;omega)) λsB tu=>ub (first:=[]) (captured:=[_,_]) Z Z Z (DN oc a ba oa Pz ha.tgt) ?_;rintro _ _ vD vm ⟨rfl,rfl⟩;refine G2 ?_;refine lF [_,_] _ (.inl Z) (.nil) Z Lc λ_ iD=>?_;refine ⟨_::_::_::Oq9,Z,Z,?_⟩;rw [quj (by have:=ha.kind;omega)];exact ⟨bc,cc,yc,Oq9,Ao,co,Ai,ni,ci,rfl,hO,hI.le Lc,nS,hcc2⟩
end
section
variable{c op:Int}{x:Ins}{a:Ac}{t:oK}{l:List Ac}
structure yV(t:oK):Prop where
 cells:1<=t.cells/\t.cells<=65536
 len:t.U.length<=64
 codes:∀ (i j:Nat) (x y:Ins),t.U[i]?=some x->t.U[j]?=some y->x.code=y.code->i=j
 ad:∀ (i:Nat) (x:Ins) (a:Ac),t.U[i]?=some x->a∈x.ad->AQ a/\(x.I=false->a.x.kind≠2/\a.y.kind≠2)
 few:∀ (i:Nat) (x:Ins),t.U[i]?=some x->x.ad.length<=8
def qlA{f:Nat->Int}{m j:Nat}(h:(Am f m j).1=0):∀ i,j<=i->i < j+m->f i=0:=by
  induction m generalizing j with
  | zero=>intro i h1 h2;omega
  | succ m ih=>
    simp only [Am] at h;split at h
    . contradiction
    . rename_i h0
      simp at h0;intro i h1 h2;rcases Nat.eq_or_lt_of_le h1 with rfl|h3
      . exact h0
      . exact ih h i h3 O
def qmW{α:Type}{f:α->Int}{l:List α}(h:CQ (l.map f)=0):∀ a∈l,f a=0:=by
  induction l with
  | nil=>intro a ha;cases ha
  | cons x l ih=>
    simp only [aN,CQ] at h;split at h
    . contradiction
    . rename_i h0
      simp at h0;intro a ha;rcases aR.1 ha with rfl|ha
      . exact h0
      . exact ih h a ha
def ki.u32{c:Nat}{l:List Ins}(h:ki s A n c l)(hi:l[i]?=some x)(ha:a∈x.ad):iQ a.x.val/\iQ a.y.val:=by
 obtain ⟨b,off,cs,h1,h2,h3,A',n',c',rfl,h5,h6⟩:=h.2.2.2 i x hi;obtain ⟨j,hj⟩:=bh ha;obtain ⟨_,_,_,_,_,_,_,h7⟩:=h5.2.2.2 j a hj;exact h7
def qtv{x:Tm}{u o:Bool}(h:GL x u o=true):(x.kind=1->x.val<=4)/\(o=false->x.kind≠2):=by
 unfold GL at h;cases u<;>cases o<;>simp at h ⊢<;>omega
def Nq{c:Nat}(hX:ki s A n c t.U)(h:(o5 t).1=0):yV t:=by
  unfold o5 at h;split at h
  . cases h
  rename_i h1;split at h
  . cases h
  rename_i h2;have hr:=qlA h;have hrow:∀ (i:Nat) (x:Ins),t.U[i]?=some x->zu x=0/\(t.U.take i).any (Gv x)=false:=λi x hi=>by
    have hl:i < t.U.length:=(al.1 hi).1;have:=hr i (aB _) O;simp only [BF,hi] at this;split at this
    . contradiction
    . rename_i h0
      simp at h0;refine ⟨h0,?_⟩;split at this
      . cases this
      . rename_i h3;simpa using h3
  refine ⟨O,O,?_,?_,?_⟩
  . have key:∀ (i j:Nat) (x y:Ins),i < j->t.U[i]?=some x->t.U[j]?=some y->x.code≠y.code:=λi j x y hij hi hj he=>by
      have:=(hrow j y hj).2;rw [List.any_eq_false] at this;have hx:x∈t.U.take j:=ax (i:=i) (by rw [List.getElem?_take,au hij];exact hi);have:=this x hx;simp [Gv,he] at this
    intro i j x y hi hj he;rcases Nat.lt_trichotomy i j with h|h|h
    . exact absurd he (key i j x y h hi hj)
    . exact h
    . exact absurd he.symm (key j i y x h hj hi)
  . intro i x a hi ha
    obtain ⟨oQ,o4⟩:=ki.u32 hX hi ha;have hc:=(hrow i x hi).1;unfold zu at hc;split at hc
    . cases hc
    split at hc
    . cases hc
    have hac:=qmW hc a ha;unfold Fh at hac;split at hac
    . cases hac
    split at hac
    . cases hac
    split at hac
    . cases hac
    rename_i k1 k2 k3;simp only [db,gZ,dF,Bool.not_eq_false] at k3;have hx:=qtv k3.1.2;have hy:=qtv k3.2;exact ⟨⟨O,O,λe=>⟨oQ.1,hx.1 e⟩,λe=>⟨o4.1,hy.1 e⟩,oQ,o4⟩,λe=>⟨hx.2 e,hy.2 e⟩⟩
  . intro i x hi
    have hc:=(hrow i x hi).1;unfold zu at hc;split at hc
    . cases hc
    split at hc
    . cases hc
    omega
def qCY(pR:List Ins)(c:Int)(k:Nat):qG pR c k<=k:=by
 induction k with
 | zero=>exact ay _
 | succ k ih=>simp only [qG];split<;>(try split)<;>omega
def qsO(h:qG pR c k=0):∀ i x,i < k->pR[i]?=some x->x.code≠c:=by
  induction k with
  | zero=>intro i x hi;omega
  | succ k ih=>
    intro i x hi hx;simp only [qG] at h;cases hk:pR[k]? with
    | none=>
      rw [hk] at h;by_cases e:i=k
      . subst e;rw [hk] at hx;cases hx
      . exact ih h i x O hx
    | some y=>
      rw [hk] at h;simp only at h;split at h
      . omega
      . rename_i hy
        by_cases e:i=k
        . subst e;rw [hk] at hx;injection hx with hx;subst hx;exact hy
        . exact ih h i x O hx
def qv9(h:qG pR c k≠0):∃ x,pR[qG pR c k - 1]?=some x/\x.code=c:=by
 induction k with
 | zero=>exact absurd rfl h
 | succ k ih=>
  simp only [qG] at h ⊢;cases hk:pR[k]? with
  | none=>simp only [hk] at h ⊢;exact ih h
  | some y=>
   simp only [hk] at h ⊢;by_cases hy:y.code=c
   . simp only [hy,bV];exact ⟨y,hk,hy⟩
   . simp only [hy,bY] at h ⊢;exact ih h
def qpn(h:∀ i x,i < pR.length->pR[i]?=some x->x.code≠c):xa pR c=none:=by
 unfold xa;rw [fZ];intro x hx;obtain ⟨i,hi⟩:=bh hx;have:=h i x (al.1 hi).1 hi;simp [this]
def qpo(hG:yV t)(hx:t.U[p]?=some x)(hc:x.code=c):xa t.U c=some x:=by
 unfold xa;cases hf:t.U.find? (λx=>decide (x.code=c)) with
 | none=>
  rw [fZ] at hf;have:=hf x (ax hx);simp [hc] at this
 | some y=>
  have h1:=List.find?_some hf;obtain ⟨j,hj⟩:=bh (cJ hf);have:=hG.codes p j x y hx hj (by rw [hc];simpa using (cV h1).symm);subst this;rw [hx] at hj;exact hj.symm
def OQ(h:sF m){i v:Int}(hv:iQ v):sF (nC m i v):=by
 refine ⟨h.cells,h.wide,?_,?_,?_,?_,?_,h.output,h.aa,h.code⟩<;>simp only [nC]<;>split<;>first|exact hv|exact h.u0|exact h.u1|exact h.u2|exact h.u3|exact h.u4
def wS{k x y:Int}(hx:iQ x)(hy:iQ y):iQ (jR k x y):=by
  obtain ⟨x1,x2⟩:=hx;obtain ⟨y1,y2⟩:=hy;have hX:x.toNat < 2 ^ 32:=O
  have hY:y.toNat < 2 ^ 32:=O
  have a1:=Nat.and_lt_two_pow x.toNat hY;have a2:=Nat.or_lt_two_pow hX hY;have a3:=Nat.xor_lt_two_pow hX hY;have a4:x.toNat >>> y.toNat<=x.toNat:=Nat.shiftRight_le _ _;have d1:0<=x / y:=gS x1 y1;have d2:x / y<=x:=gI _ x1;have e1:0<=x % y/\x % y<=x:=by
    by_cases h0:y=0
    . subst h0;simp;omega
    . exact ⟨Int.emod_nonneg x h0,by have:=Int.emod_add_mul_ediv x y;have:0<=y * (x / y):=Int.mul_nonneg y1 d1;omega⟩
  unfold jR mc;by_cases h1:k=1
  . rw [au h1];unfold iQ;omega
  rw [ak h1];by_cases h2:k=2
  . rw [au h2];unfold iQ;omega
  rw [ak h2];by_cases h3:k=3
  . rw [au h3];unfold iQ;omega
  rw [ak h3];by_cases h4:k=4
  . rw [au h4];unfold iQ;omega
  rw [ak h4];by_cases h5:k=5
  . rw [au h5];unfold iQ;omega
  rw [ak h5];by_cases h6:k=6
  . rw [au h6];unfold iQ;omega
  rw [ak h6];by_cases h7:k=7
  . rw [au h7];unfold iQ;omega
  rw [ak h7];by_cases h8:k=8
  . rw [au h8];unfold iQ;omega
  rw [ak h8];by_cases h9:k=9
  . rw [au h9];unfold iQ;omega
  rw [ak h9];by_cases jG:k=10
  . rw [au jG];clear a1 a2 a3;generalize x.toNat >>> y.toNat=z at a4 ⊢;unfold iQ;omega
  rw [ak jG];by_cases jM:k=11
  . rw [au jM];by_cases e:x=y
    . rw [au e];exact ⟨Θ,Θ⟩
    . rw [ak e];exact ⟨Θ,Θ⟩
  rw [ak jM];by_cases jE:k=12
  . rw [au jE];by_cases e:x < y
    . rw [au e];exact ⟨Θ,Θ⟩
    . rw [ak e];exact ⟨Θ,Θ⟩
  rw [ak jE];exact ⟨x1,x2⟩
def qy2(h:sF m)(ha:AQ a)(ho:iQ op):sF (kn m a op):=by
  have hx:=OC h ho ha.ux;have hy:=OC h ho ha.uy;unfold kn;simp only;repeat' split
  all_goals first
    | exact h
    | exact ⟨h.cells,h.wide,h.u0,h.u1,h.u2,h.u3,h.u4,h.output,h.aa,h.code⟩
    | exact OQ h (wS hx hy)
    | exact OQ h ⟨Θ,Θ⟩
    | exact ⟨h.cells,h.wide,h.u0,h.u1,h.u2,h.u3,h.u4,h.output,h.aa,hx⟩
    | skip
  . refine OQ h ?_
    by_cases hl:(lu m op a.x).toNat < m.cells.length
    . simp only [List.getD,ap hl,dY]
      exact h.wide _ (dQ hl)
    . simp [List.getD,dh (dR hl)];exact ⟨Θ,Θ⟩
  . refine ⟨by simpa using h.cells,λx hx=>?_,h.u0,h.u1,h.u2,h.u3,h.u4,h.output,h.aa,h.code⟩
    rcases gn hx with h1|h1
    . exact h.wide x h1
    . rw [h1];exact hy
  . rename_i c r hi
    have hu:iQ (c.toNat:Int):=⟨O,by have:=c.toNat_lt;omega⟩;have h2:=OQ (i:=a.tgt) h hu;have h3:=h.aa;rw [hi] at h3;exact ⟨h2.cells,h2.wide,h2.u0,h2.u1,h2.u2,h2.u3,h2.u4,h2.output,by simp at h3;show r.length<=400000;omega,h2.code⟩
  . rename_i k1 _ _ _ k2
    have h1:=h.output;refine ⟨h.cells,h.wide,h.u0,h.u1,h.u2,h.u3,h.u4,?_,h.aa,h.code⟩;simp only [ac,aw,aq];have:m.output.length≠20000:=λe=>k1 ⟨k2,e⟩;omega
def qGU(hx:a.x.kind≠2)(hy:a.y.kind≠2)(o o':Int):kn m a o=kn m a o':=by simp [lu,hx,hy,kn]
def qBc(h:∀ a∈l,a.x.kind≠2/\a.y.kind≠2)(m:lH)(o o':Int):mW m o l=mW m o' l:=by
 induction l generalizing m with
 | nil=>rfl
 | cons a r ih=>
  have h1:=h a Mc;simp only [mW,qGU h1.1 h1.2 o o'];rw [ih (λb hb=>h b (an _ hb))]
attribute [local irreducible] JC JO JA JB ma mO mX AC fill iy QE Ev my
section
variable{t:oK}{x:Ins}
def qwG(h:¬ m.r4 < (m.cells.length:Int)):l9 t m={ m with stop:=3 }:=by unfold l9;rw [au O]
def qwH(h:m.r4 < (m.cells.length:Int))(hf:xa t.U (m.cells.getD m.r4.toNat 0)=none):l9 t m={ m with stop:=2 }:=by unfold l9;rw [ak O,hf]
def qwF(h:m.r4 < (m.cells.length:Int))(hf:xa t.U (m.cells.getD m.r4.toNat 0)=some x)(ho:x.I=true)(h1:¬ m.r4+1 < (m.cells.length:Int)):l9 t m={ m with stop:=3 }:=by
 unfold l9;rw [ak O,hf];simp only [ho,bV];rw [au O]
def qtq(h:m.r4 < (m.cells.length:Int))(hf:xa t.U (m.cells.getD m.r4.toNat 0)=some x)(ho:x.I=true)(h1:m.r4+1 < (m.cells.length:Int)):l9 t m=mW { m with r4:=m.r4+2 } (m.cells.getD (m.r4+1).toNat 0) x.ad:=by
 unfold l9;rw [ak O,hf];simp only [ho,bV];rw [ak O]
def qtp(h:m.r4 < (m.cells.length:Int))(hf:xa t.U (m.cells.getD m.r4.toNat 0)=some x)(ho:x.I=false)(ha:∀ a∈x.ad,a.x.kind≠2/\a.y.kind≠2):l9 t m=mW { m with r4:=m.r4+1 } op x.ad:=by
 unfold l9;rw [ak O,hf];simp only [ho];rw [qBc ha _ op 0];rfl
end
def Ye{p:Prop} (h:p:=by
 obtain ⟨hk,rfl⟩:=al.1 h;rw [aM hk];simp [mW,hs]):p:=h
def qBb(h:l[k]?=some a)(hs:(kn m a op).stop=0):mW m op (l.drop k)=mW (kn m a op) op (l.drop (k+1)):=by
 exact Ye
def qqC(h:l[k]?=some a)(hs:¬ (kn m a op).stop=0):mW m op (l.drop k)=kn m a op:=by
 exact Ye
def qqB(h:l.length<=k):mW m op (l.drop k)=m:=by rw [aL h];rfl
def TU{l:iG}(h:∀ x∈l,iQ x)(i:Nat):iQ (l.getD i 0):=by
 by_cases hl:i < l.length
 . simp only [List.getD,ap hl,dY];exact h _ (dQ hl)
 . simp [List.getD,dh (dR hl)];exact ⟨Θ,Θ⟩
def Zw(h:sF m){v:Int}(hv:iQ v):sF { m with r4:=v }:=⟨h.cells,h.wide,h.u0,h.u1,h.u2,h.u3,hv,h.output,h.aa,h.code⟩
def GY{p:Prop} (h:p:=by
 refine ⟨_::_::_::O2,Z,Z,opk,hop1,?_⟩;rw [hact,qqC ha j5];exact ⟨bc2,cc2,yc2,O2,Ao2,co2,Ai2,ni2,ci2,rfl,hO2,xC.le Lc,hcc22,hcc23⟩):p:=h
def P6{p:Prop} (h:p:=by
 refine ⟨_::_::_::O1,Z,Z,opk,hop1,?_⟩;rw [hact,qqB O];exact ⟨bc1,cc1,yc1,O1,Ao1,co1,Ai1,ni1,ci1,rfl,hO1,hI1.le Lc,hcc1,hcc21⟩):p:=h
def Yh{p:Prop} (h:p:=by
 refine G4 ?_;refine lF [] _ (.inl Z) (.nil) Z Lc λ_ iD=>?_;exact P6):p:=h
def Iq{p:Prop} (h:p:=by
 refine G4 ?_;refine kq Y3 (jq O O)<|G2 ?_;refine iU ⟨(k+1,kn mk a opk,opk,_::_::_::O2),[],kp,Z,⟨Lc,⟨by omega,⟨bc2,cc2,yc2,O2,Ao2,co2,Ai2,ni2,ci2,Z,hO2,xC.le (Lr D),hcc22,hcc23⟩,qy2 hok1 hacOK.1 hop1,hop1,j5,by rw [hact,qBb ha j5]⟩⟩,Oz⟩):p:=h
def qDy(oc:sm.length=256)(hM:DS bm (.slice Ax nx cx) sm bq es ck op m M s)(hX:ki s Ax nx cx t.U)(hG:yV t)(me:sF m)(vu:iQ op)(nJ:m.stop=0)(hS:∀ c,0<=c->c < 256->sm[c.toNat]?=some (qG t.U c nx:Int))(hB:∀ c,256<=c->(kX es c).getD (iB 0)=iB (qG t.U c nx:Int)):jU D 79 [iT bm] (M++L) s λv L' s'=>∃ M',L'=M'++L/\v=.tuple #[]/\∃ op',iQ op'/\DS bm (.slice Ax nx cx) sm bq es ck op' (l9 t m) M' s':=by
 obtain ⟨bc,cc,yc,Oq9,Ao,co,Ai,ni,ci,rfl,hO,hI,nS,hcc2⟩:=hM;have hu4:=me.u4;have yq:=hu4.1;have sQ:=hu4.2;have rz:=me.cells;have hnx:=hX.1;have hple:=qCY t.U (m.cells.getD m.r4.toNat 0) nx;have hcu:=TU me.wide m.r4.toNat;simp only [ao];refine jn (fn:=Tryz.f79) jb Tryz.func79 V Z Tryz.ntmps79 Z (rs:=[]) Z [(0,_)] Z<|G6 ?_;refine iA (UP (sz:=1) 4 Z Z Z Z Z Z Dc) Z<|G9 ?_;refine Jc Y3 (AC.mid [] [_] _ (NZ oc hu4 rz)) ?_;rintro _ _ s1 h1 ⟨_,rfl,rfl,rfl⟩;simp only [jC,jD];refine G3 ?_;refine lL Z ?_ ?_<;>intro c2;.have pu:=c2;refine G6 ?_;refine xS 0 (_::_::_::_::_::_::_::_::_::_::_::_) Y5 Z Z Z Z<|G4 ?_;refine rR [] _ (.nil) Z h1 λ_ iD=>?_;refine ⟨_::_::_::Oq9,Z,Z,op,vu,?_⟩;rw [qwG pu];exact ⟨bc,cc,yc,Oq9,Ao,co,Ai,ni,ci,rfl,hO,hI.le Lc,nS,hcc2⟩
 have pu:m.r4 < (m.cells.length:Int):=c2;refine lw ?_;refine iA (xQ Y6 yq pu) Z<|iA (rS 1 Y4 (ON yq pu)) Z<|Jc Y3 (qB2 oc es ck t.U Pz hcu (qG t.U (m.cells.getD m.r4.toNat 0) nx) hple (hS _ hcu.1) (hB _)) ?_;rintro _ _ s3 h3 ⟨_,rfl,rfl,rfl⟩;simp only [jC,jD];refine Dj ?_;refine lL Z ?_ ?_<;>intro c4
 .have Bn:qG t.U (m.cells.getD m.r4.toNat 0) nx=0:=by simpa using c4
  have hfi:=qpn (λi x hi hx=>qsO Bn i x O hx);refine G6 ?_;refine xS 0 (_::_::_::_::_::_::_::_::_::_::_::_) Y5 Z Z Z Z<|G5 ?_;refine rR [] _ (.nil) Z Lc λ_ iD=>?_;refine ⟨_::_::_::Oq9,Z,Z,op,vu,?_⟩;rw [qwH pu hfi];exact ⟨bc,cc,yc,Oq9,Ao,co,Ai,ni,ci,rfl,hO,hI.le Lc,nS,hcc2⟩
 have Bn:qG t.U (m.cells.getD m.r4.toNat 0) nx≠0:=by simpa using c4
 obtain ⟨bx,ox,x,A',n',c',xB,hx,hcx,hax,_,_⟩:=ki.at_ Pz (show qG t.U (m.cells.getD m.r4.toNat 0) nx - 1 < nx by omega);subst xB;rw [qCe Bn];obtain ⟨x',hx',hxc⟩:=qv9 Bn;rw [hx] at hx';injection hx' with hx'
 subst hx';have hfi:=qpo hG hx hxc;have hn':=hax.1;have hfew:=hG.few _ _ hx;refine G4 ?_;refine iA (pU Y4) Z<|iA (nK 2 Y3 Pz Z) Z<|G4 ?_;refine vZ Z ?_ ?_<;>intro c5
 .have hopd:=c5;refine G3 ?_;refine iA (nV Z Z (Gz O O)) Z<|G3 ?_;refine iA (UP (sz:=1) 4 Z Z Z Z Z Z Dc) Z<|xS 0 (_::_::_::_::_::_::_::_::_::_::_::_) Y5 Z Z Z Z<|G7 ?_;refine iA (pU Y4) Z<|iA (nK 3 Y3 Pz Z) Z<|G5 ?_;refine lJ (γ:=Nat×lH×Int×Hl) (λg=>[(0,_),(3,_),(86,_),(87,iB (g.1:Int))]) (λg=>g.2.2.2++L) (λg tw=>Le D s3 tw/\(g.1<=n'/\DS bm (.slice (some ⟨bx,ox,none⟩) nx cx) sm bq es ck g.2.2.1 g.2.1 g.2.2.2 tw/\sF g.2.1/\iQ g.2.2.1/\g.2.1.stop=0/\l9 t m=mW g.2.1 g.2.2.1 (x.ad.drop g.1))) (λg=>n' - g.1) (λ_ _ _ h hl=>⟨h.1.trans hl,by obtain ⟨_,k1,⟨bc,cc,yc,Oq9,Ao,co,Ai,ni,ci,k2,k3,k4,k5⟩,k6⟩:=h;exact ⟨k1,⟨bc,cc,yc,Oq9,Ao,co,Ai,ni,ci,k2,k3,k4.le hl,k5⟩,k6⟩⟩) (0,{ m with r4:=m.r4+1 },op,_::_::_::Oq9) (.c4 Z Z Z Z (.nil _)) Z ⟨Le.refl _,⟨aB _,⟨bc,cc,yc,Oq9,Ao,co,Ai,ni,ci,Z,hO,hI.le Lc,nS,hcc2⟩,Zw me (by constructor<;>omega),by first|exact vu|exact TU me.wide _,nJ,by first|exact qtq pu hfi hopd hnext|exact qtp pu hfi hopd (λa ha=>(hG.ad _ _ _ hx ha).2 hopd)⟩⟩ ?_;intro g s6 I6;obtain ⟨k,mk,opk,Mk⟩:=g;obtain ⟨ko,⟨bc1,cc1,yc1,O1,Ao1,co1,Ai1,ni1,ci1,xD,hO1,hI1,hcc1,hcc21⟩,hok1,hop1,hst1,hact⟩:=I6.2;simp only at ko xD hO1 hI1 hcc1 hok1 hop1 hst1 hact;subst xD;simp only [ao];refine J6 ?_ ?_<;>intro c7
  .have hk:k < n':=O
   obtain ⟨b2,off2,a,rfl,ha,vO,hau⟩:=qn.at_ Pz hk;have hacOK:=hG.ad _ _ _ hx (ax ha);refine xe ?_;refine iA (pU Y4) Z<|iA (nK 3 Y3 Pz Z) Z<|kb Y2<|iA (jK Y6 hk) Z<|Jc Y3 (qy1 oc ⟨bc1,cc1,yc1,O1,Ao1,co1,Ai1,ni1,ci1,Z,hO1,hI1.le (Lr D),hcc1,hcc21⟩ Pz hok1 hop1 hacOK.1) ?_;rintro _ _ s8 h8 ⟨M2,rfl,rfl,bc2,cc2,yc2,O2,Ao2,co2,Ai2,ni2,ci2,rfl,hO2,xC,hcc22,hcc23⟩;simp only [ao];refine mY ?_;refine lL Z ?_ ?_<;>intro c9;.have j5:=c9;refine G5 ?_;exact rR [] _ (.nil) Z Lc λ_ iD=>GY
   have j5:=c9;exact Iq
  exact Yh
 have hopd:=c5;refine G4 ?_;refine iA (nV Z Z (Gz O O)) Z<|Jc Y3 (AC.mid [] [_] _ (NZ oc (show iQ (m.r4+1) from ⟨O,O⟩) rz)) ?_;rintro _ _ s6 h6 ⟨_,rfl,rfl,rfl⟩;simp only [jC,jD];refine G4 ?_;refine lL Z ?_ ?_<;>intro c7;.have hnext:=c7;refine G6 ?_;refine xS 0 (_::_::_::_::_::_::_::_::_::_::_::_) Y5 Z Z Z Z<|G5 ?_;refine rR [] _ (.nil) Z Lc λ_ iD=>?_;refine ⟨_::_::_::Oq9,Z,Z,op,vu,?_⟩;rw [qwF pu hfi hopd hnext];exact ⟨bc,cc,yc,Oq9,Ao,co,Ai,ni,ci,rfl,hO,hI.le Lc,nS,hcc2⟩
 have hnext:m.r4+1 < (m.cells.length:Int):=c7;refine G9 ?_;refine iA (nV Z Z (Gz O O)) Z<|iA (xQ Y6 O hnext) Z<|iA (rS 1 Y4 (ON O hnext)) Z<|G2 ?_;refine xS 0 _ Y5 (qHh _ _ _ _ _ _ _ _ _ _ _ _ _ oc) Z (qIY _ _ _ _ _ _ _ _ _ _ _ _ _ oc) Z<|G5 ?_;refine iA (nV Z Z (Gz O O)) Z<|G3 ?_;refine iA (UP (sz:=1) 4 Z Z Z Z Z Z Dc) Z ?_;refine xS 0 (_::_::_::_::_::_::_::_::_::_::_::_) Y5 Z Z Z Z<|G7 ?_;refine iA (pU Y4) Z<|iA (nK 3 Y3 Pz Z) Z<|G5 ?_;refine lJ (γ:=Nat×lH×Int×Hl) (λg=>[(0,_),(3,_),(86,_),(87,iB (g.1:Int))]) (λg=>g.2.2.2++L) (λg tw=>Le D s6 tw/\(g.1<=n'/\DS bm (.slice (some ⟨bx,ox,none⟩) nx cx) sm bq es ck g.2.2.1 g.2.1 g.2.2.2 tw/\sF g.2.1/\iQ g.2.2.1/\g.2.1.stop=0/\l9 t m=mW g.2.1 g.2.2.1 (x.ad.drop g.1))) (λg=>n' - g.1) (λ_ _ _ h hl=>⟨h.1.trans hl,by obtain ⟨_,k1,⟨bc,cc,yc,Oq9,Ao,co,Ai,ni,ci,k2,k3,k4,k5⟩,k6⟩:=h;exact ⟨k1,⟨bc,cc,yc,Oq9,Ao,co,Ai,ni,ci,k2,k3,k4.le hl,k5⟩,k6⟩⟩) (0,{ m with r4:=m.r4+2 },m.cells.getD (m.r4+1).toNat 0,_::_::_::Oq9) (.c4 Z Z Z Z (.nil _)) Z ⟨Le.refl _,⟨aB _,⟨bc,cc,yc,Oq9,Ao,co,Ai,ni,ci,Z,hO,hI.le Lc,nS,hcc2⟩,Zw me (by constructor<;>omega),by first|exact vu|exact TU me.wide _,nJ,by first|exact qtq pu hfi hopd hnext|exact qtp pu hfi hopd (λa ha=>(hG.ad _ _ _ hx ha).2 hopd)⟩⟩ ?_;intro g s9 I9;obtain ⟨k,mk,opk,Mk⟩:=g;obtain ⟨ko,⟨bc1,cc1,yc1,O1,Ao1,co1,Ai1,ni1,ci1,xD,hO1,hI1,hcc1,hcc21⟩,hok1,hop1,hst1,hact⟩:=I9.2;simp only at ko xD hO1 hI1 hcc1 hok1 hop1 hst1 hact;subst xD;simp only [ao];refine J6 ?_ ?_<;>intro mz
 .have hk:k < n':=O
  obtain ⟨b2,off2,a,rfl,ha,vO,hau⟩:=qn.at_ Pz hk;have hacOK:=hG.ad _ _ _ hx (ax ha);refine xe ?_;refine iA (pU Y4) Z<|iA (nK 3 Y3 Pz Z) Z<|kb Y2<|iA (jK Y6 hk) Z<|Jc Y3 (qy1 oc ⟨bc1,cc1,yc1,O1,Ao1,co1,Ai1,ni1,ci1,Z,hO1,hI1.le (Lr D),hcc1,hcc21⟩ Pz hok1 hop1 hacOK.1) ?_;rintro _ _ kz jM ⟨M2,rfl,rfl,bc2,cc2,yc2,O2,Ao2,co2,Ai2,ni2,ci2,rfl,hO2,xC,hcc22,hcc23⟩;simp only [ao];refine mY ?_;refine lL Z ?_ ?_<;>intro oL;.have j5:=oL;refine G5 ?_;exact rR [] _ (.nil) Z Lc λ_ iD=>GY
  have j5:=oL;exact Iq
 exact Yh
def M_{Ai Ao:iE}{nc ni ci no co:Nat}(oc:sm.length=256)(hI:lP s Ai ni ci m.aa)(hni:ni<=1000000):po D 80 [iT bm] [(bm,cb (.slice (jZ bc) nc cc::iJ m.r0::iJ m.r1::iJ m.r2::iJ m.r3::iJ m.r4::.slice Ai ni ci::.slice Ao no co::iB m.stop::iJ m.code::.slice Ax nx cx::(iv sm++[.map (some bq),iJ op])) 183)] L s λv M' s'=>M'=[(bm,cb (.slice (jZ bc) nc cc::iJ m.r0::iJ m.r1::iJ m.r2::iJ m.r3::iJ m.r4::.slice Ai ni ci::.slice Ao no co::iB m.stop::iJ m.code::.slice Ax nx cx::(iv sm++[.map (some bq),iJ op])) 183)]/\∃ Ad c',v=.agg #[.slice (jZ bc) nc cc,iJ m.r0,iJ m.r1,iJ m.r2,iJ m.r3,iJ m.r4,.slice Ad ni c',.slice Ao no co,iB m.stop,iJ m.code]/\lP s' Ad ni c' m.aa:=by
 refine jn (fn:=f80) jb func80 V Z ntmps80 Z (rs:=[.cell 2 101]) Z [(0,_)] Z<|Sr<|jh Z [_,_,_,_,_,_,_,_,_,_] Y2 λβ1 s1 h1=>G7 ?_;refine iA (iZ 1 [_,_,_,_,_,_,_,_,_,_] Y5) Z<|jh Z [_,_,_,_,_,_,_,_,_,_] Y2 λβ2 s2 h2=>Wt 0 [_,_,_,_,_,_,_,_,_,_] Y9<|G6 ?_;refine Jc Y3 (AC.pub (sV Pz hni)) ?_;rintro _ _ s3 h3 ⟨rfl,M1,sw,⟨Ad,c1,rfl,_,_,uO⟩,hsw,hcw⟩;have hB1:=Own.bts uO hcw;refine Wb Y5<|Wt 0 [_,_,_,_,_,_,_,_,_,_] Y9<|Nt<|Sr<|iA (iZ 0 [_,_,_,_,_,_,_,_,_,_] Y5) Z<|Wt 1 [_,_,_,_,_,_,_,_,_,_] Y9<|G3 ?_;exact rR [_,_] _ (.agg (us:=[_,_,_,_,_,_,_,_,_,_]) 1 Z Z Z Z Z (.nil)) Z (h1.t h2|>.t h3) λ_ iD=>⟨[_],rfl,rfl,Ad,c1,rfl,hB1.le Lc⟩
def NM(h:pR[k]?=some x)(c:Int):qG pR c (k+1)=if x.code=c then k+1 else qG pR c k:=by simp [qG,h]
def NP(h:pR[k]?=some x)(hx:iQ x.code)(kZ:x.code < 256)(hl:sm.length=256)(hS:∀ c:Int,0<=c->c < 256->sm[c.toNat]?=some (qG pR c k:Int)):
    (sm.set x.code.toNat ((k:Int)+1)).length=256/\∀ c:Int,0<=c->c < 256->(sm.set x.code.toNat ((k:Int)+1))[c.toNat]?=some (qG pR c (k+1):Int):=by
  refine ⟨by simpa using hl,λc h1 h2=>?_⟩;have hx0:=hx.1;rw [NM h];by_cases e:x.code=c
  . subst e
    rw [au rfl,bJ O];simp
  . rw [ak e,bt O];exact hS c h1 h2
def qmi(h:pR[k]?=some x)(kZ:x.code < 256)(hB:∀ c:Int,256<=c->(kX es c).getD (iB 0)=iB (qG pR c k:Int)):
  ∀ c:Int,256<=c->(kX es c).getD (iB 0)=iB (qG pR c (k+1):Int):=λc hc=>by
 rw [NM h,ak O];exact hB c hc
def qlc(h:pR[k]?=some x)(hge:¬ x.code < 256)(hS:∀ c:Int,0<=c->c < 256->sm[c.toNat]?=some (qG pR c k:Int)):
  ∀ c:Int,0<=c->c < 256->sm[c.toNat]?=some (qG pR c (k+1):Int):=λc h1 h2=>by
 rw [NM h,ak O];exact hS c h1 h2
def qqS(h:pR[k]?=some x)(hB:∀ c:Int,256<=c->(kX es c).getD (iB 0)=iB (qG pR c k:Int)):
  ∀ c:Int,256<=c->(kX (vB es x.code (iB ((k:Int)+1)) ck) c).getD (iB 0)=iB (qG pR c (k+1):Int):=λc hc=>by
 rw [NH,NM h];by_cases e:c=x.code
 . rw [au e,au e.symm];simp
 . rw [ak e,ak (λh=>e h.symm)];exact hB c hc
def HT{p:Prop} (h:p:=by
 rintro _ _ s6 h6 ⟨rfl,Mi,swi,⟨Ai1,ci1,rfl,_,_,hOi⟩,hswi,hcwi⟩;refine ⟨λ_ _ h=>h,?_⟩;have sj:=Own.bts hOi hcwi;refine iF 8 V<|CW [] _ lr (sV (yj.le (h1.t h2|>.t h4|>.t h5|>.t h6)) O) ?_;rintro _ Oq9 s7 h7 ⟨Ao1,co1,rfl,_,_,vt⟩;refine iF 10 V<|Wu Z Tt 0 [_,_,_,_,_,_,_,_,_,_] Y9 (λx hx=>by cases hx)<|H1 ?_;refine iF 12 V<|Wu Z Tt 0 [_,_,_,_,_,_,_,_,_,_] Y9 (λx hx=>by cases hx)<|H1 ?_;refine iF 14 V<|Wu Z Tt 0 [_,_,_,_,_,_,_,_,_,_] Y9 (λx hx=>by cases hx)<|ji V ?_;refine iU (my.mk (bc,c1,yc,Oq9,Ao1,co1,Ai1,ci1) [] kp Pr ⟨(h4.t h5|>.t h6|>.t h7),⟨vt,sj.le h7,by rw [<- hcy,AE],hcy2⟩⟩)):p:=h
def V7{p:Prop} (h:p:=by
 refine jW Z Tt (Wd 0 Y5) Z<|iF 1 V<|jW Z Tt (Wd 0 Y5) Z<|iF 2 V<|Jb Z Tt Z Z Z (AC.mid [_,_] [] _ (F5 (xB.le (h1.t h2|>.t h4)) O)) ?_;rintro _ _ s5 h5 ⟨M1,rfl,Ad,c1,rfl,_,_,hO1⟩;have e5:=h1.t h2|>.t h4|>.t h5;refine ⟨(λx h _=>by cases h),?_⟩;obtain ⟨bc,yc,rfl,rfl,hcy,hcy2⟩:=Own.blk_of hO1 hc0;simp only [jC,jD];refine H1 ?_;refine iF 5 V<|Jb Z Tt Z Z Z (AC.pub (sV (vp.le e5) O)) ?_;rintro _ _ s6 h6 ⟨rfl,Mi,swi,⟨Ai1,ci1,rfl,_,_,hOi⟩,hswi,hcwi⟩;refine ⟨λ_ _ h=>h,?_⟩;have sj:=Own.bts hOi hcwi;refine iF 8 V<|CW [] _ lr (sV (yj.le (e5.t h6)) O) ?_;rintro _ Oq9 s7 h7 ⟨Ao1,co1,rfl,_,_,vt⟩;refine iF 10 V<|Wu Z Tt 0 [_,_,_,_,_,_,_,_,_,_] Y9 (λx hx=>by cases hx)<|H1 ?_;refine iF 12 V<|Wu Z Tt 0 [_,_,_,_,_,_,_,_,_,_] Y9 (λx hx=>by cases hx)<|H1 ?_;refine iF 14 V<|Wu Z Tt 0 [_,_,_,_,_,_,_,_,_,_] Y9 (λx hx=>by cases hx)<|ji V ?_;refine iU (my.mk (bc,c1,yc,Oq9,Ao1,co1,Ai1,ci1) [] kp Pr ⟨(h4.t h5|>.t h6|>.t h7),⟨vt,sj.le h7,by rw [<- hcy,AE],hcy2⟩⟩)):p:=h
def V3{p:Prop} (h:p:=by
  refine jW Z Tt (Wd 0 Y5) Z ?_;refine kA 2 4 V ?_ ?_;.refine Jb Z Tt Z Z Z (AC.mid [_,_] [] _ (F5 (xB.le (h1.t h2|>.t h4)) O)) ?_;rintro _ _ s5 h5 ⟨M1,rfl,Ad,c1,rfl,_,_,hO1⟩;have e5:=h1.t h2|>.t h4|>.t h5;refine ⟨(λx h _=>by cases h),?_⟩;obtain ⟨bc,yc,rfl,rfl,hcy,hcy2⟩:=Own.blk_of hO1 hc0;simp only [jC,jD];refine iF 4 V<|jW Z Tt (Wd 0 Y5) Z<|H1 ?_;refine iF 5 V<|Jb Z Tt Z Z Z (AC.pub (sV (vp.le e5) O)) ?_;rintro _ _ s6 h6 ⟨rfl,Mi,swi,⟨Ai1,ci1,rfl,_,_,hOi⟩,hswi,hcwi⟩;refine ⟨λ_ _ h=>h,?_⟩;have sj:=Own.bts hOi hcwi;refine iF 8 V<|CW [] _ lr (sV (yj.le (e5.t h6)) O) ?_;rintro _ Oq9 s7 h7 ⟨Ao1,co1,rfl,_,_,vt⟩;refine iF 10 V<|Wu Z Tt 0 [_,_,_,_,_,_,_,_,_,_] Y9 (λx hx=>by cases hx)<|H1 ?_;refine iF 12 V<|Wu Z Tt 0 [_,_,_,_,_,_,_,_,_,_] Y9 (λx hx=>by cases hx)<|H1 ?_;refine iF 14 V<|Wu Z Tt 0 [_,_,_,_,_,_,_,_,_,_] Y9 (λx hx=>by cases hx)<|ji V ?_;refine iU (my.mk (bc,c1,yc,Oq9,Ao1,co1,Ai1,ci1) [] kp Pr ⟨(h4.t h5|>.t h6|>.t h7),⟨vt,sj.le h7,by rw [<- hcy,AE],hcy2⟩⟩)
  refine jW Z Tt (Wd 0 Y5) Z<|iF 2 V<|Jb Z Tt Z Z Z (AC.mid [_,_] [] _ (F5 (xB.le (h1.t h2|>.t h4)) O)) ?_;rintro _ _ s5 h5 ⟨M1,rfl,Ad,c1,rfl,_,_,hO1⟩;have e5:=h1.t h2|>.t h4|>.t h5;refine ⟨(λx h _=>by cases h),?_⟩;obtain ⟨bc,yc,rfl,rfl,hcy,hcy2⟩:=Own.blk_of hO1 hc0;simp only [jC,jD];refine H1 ?_;refine iF 5 V<|Jb Z Tt Z Z Z (AC.pub (sV (vp.le e5) O)) ?_;rintro _ _ s6 h6 ⟨rfl,Mi,swi,⟨Ai1,ci1,rfl,_,_,hOi⟩,hswi,hcwi⟩;refine ⟨λ_ _ h=>h,?_⟩;have sj:=Own.bts hOi hcwi;refine iF 8 V<|CW [] _ lr (sV (yj.le (e5.t h6)) O) ?_;rintro _ Oq9 s7 h7 ⟨Ao1,co1,rfl,_,_,vt⟩;refine iF 10 V<|Wu Z Tt 0 [_,_,_,_,_,_,_,_,_,_] Y9 (λx hx=>by cases hx)<|H1 ?_;refine iF 12 V<|Wu Z Tt 0 [_,_,_,_,_,_,_,_,_,_] Y9 (λx hx=>by cases hx)<|H1 ?_;refine iF 14 V<|Wu Z Tt 0 [_,_,_,_,_,_,_,_,_,_] Y9 (λx hx=>by cases hx)<|ji V ?_;refine iU (my.mk (bc,c1,yc,Oq9,Ao1,co1,Ai1,ci1) [] kp Pr ⟨(h4.t h5|>.t h6|>.t h7),⟨vt,sj.le h7,by rw [<- hcy,AE],hcy2⟩⟩)):p:=h
def VY{p:Prop} (h:p:=by
  refine jW Z Tt (Wd 0 Y5) Z ?_;refine kA 2 7 V ?_ ?_
  .refine Jb Z Tt Z Z Z (AC.mid [_,_] [] _ (F5 (xB.le (h1.t h2|>.t h4)) O)) ?_;have e4:=h1.t h2|>.t h4;rintro _ _ s5 h5 ⟨M1,rfl,Ad,c1,rfl,_,_,hO1⟩;refine ⟨(λx h _=>by cases h),?_⟩;obtain ⟨bc,yc,rfl,rfl,hcy,hcy2⟩:=Own.blk_of hO1 hc0;simp only [jC,jD];refine kA 5 7 V ?_ ?_;.refine Jb Z Tt Z Z Z (AC.pub (sV (vp.le (e4.t h5)) O)) ?_;rintro _ _ s6 h6 ⟨rfl,Mi,swi,⟨Ai1,ci1,rfl,_,_,hOi⟩,hswi,hcwi⟩;refine ⟨λ_ _ h=>h,?_⟩;have sj:=Own.bts hOi hcwi;refine X12 ?_;refine iF 8 V<|CW [] _ lr (sV (yj.le (e4.t h5|>.t h6)) O) ?_;rintro _ Oq9 s7 h7 ⟨Ao1,co1,rfl,_,_,vt⟩;refine iF 10 V<|Wu Z Tt 0 [_,_,_,_,_,_,_,_,_,_] Y9 (λx hx=>by cases hx)<|H1 ?_;refine iF 12 V<|Wu Z Tt 0 [_,_,_,_,_,_,_,_,_,_] Y9 (λx hx=>by cases hx)<|H1 ?_;refine iF 14 V<|Wu Z Tt 0 [_,_,_,_,_,_,_,_,_,_] Y9 (λx hx=>by cases hx)<|ji V ?_;refine iU (my.mk (bc,c1,yc,Oq9,Ao1,co1,Ai1,ci1) [] kp Pr ⟨(h4.t h5|>.t h6|>.t h7),⟨vt,sj.le h7,by rw [<- hcy,AE],hcy2⟩⟩)
   refine jW Z Tt (Wd 0 Y5) Z<|H1 ?_;refine iF 5 V<|Jb Z Tt Z Z Z (AC.pub (sV (vp.le (e4.t h5)) O)) ?_;rintro _ _ s6 h6 ⟨rfl,Mi,swi,⟨Ai1,ci1,rfl,_,_,hOi⟩,hswi,hcwi⟩;refine ⟨λ_ _ h=>h,?_⟩;have sj:=Own.bts hOi hcwi;refine iF 8 V<|CW [] _ lr (sV (yj.le (e4.t h5|>.t h6)) O) ?_;rintro _ Oq9 s7 h7 ⟨Ao1,co1,rfl,_,_,vt⟩;refine iF 10 V<|Wu Z Tt 0 [_,_,_,_,_,_,_,_,_,_] Y9 (λx hx=>by cases hx)<|H1 ?_;refine iF 12 V<|Wu Z Tt 0 [_,_,_,_,_,_,_,_,_,_] Y9 (λx hx=>by cases hx)<|H1 ?_;refine iF 14 V<|Wu Z Tt 0 [_,_,_,_,_,_,_,_,_,_] Y9 (λx hx=>by cases hx)<|ji V ?_;refine iU (my.mk (bc,c1,yc,Oq9,Ao1,co1,Ai1,ci1) [] kp Pr ⟨(h4.t h5|>.t h6|>.t h7),⟨vt,sj.le h7,by rw [<- hcy,AE],hcy2⟩⟩)
  refine jW Z Tt (Wd 0 Y5) Z<|iF 2 V<|Jb Z Tt Z Z Z (AC.mid [_,_] [] _ (F5 (xB.le (h1.t h2|>.t h4)) O)) ?_;rintro _ _ s5 h5 ⟨M1,rfl,Ad,c1,rfl,_,_,hO1⟩;have e5:=h1.t h2|>.t h4|>.t h5;refine ⟨(λx h _=>by cases h),?_⟩;obtain ⟨bc,yc,rfl,rfl,hcy,hcy2⟩:=Own.blk_of hO1 hc0;simp only [jC,jD];refine H1 ?_;refine iF 5 V<|Jb Z Tt Z Z Z (AC.pub (sV (vp.le e5) O)) ?_;rintro _ _ s6 h6 ⟨rfl,Mi,swi,⟨Ai1,ci1,rfl,_,_,hOi⟩,hswi,hcwi⟩;refine ⟨λ_ _ h=>h,?_⟩;have sj:=Own.bts hOi hcwi;refine iF 8 V<|CW [] _ lr (sV (yj.le (e5.t h6)) O) ?_;rintro _ Oq9 s7 h7 ⟨Ao1,co1,rfl,_,_,vt⟩;refine iF 10 V<|Wu Z Tt 0 [_,_,_,_,_,_,_,_,_,_] Y9 (λx hx=>by cases hx)<|H1 ?_;refine iF 12 V<|Wu Z Tt 0 [_,_,_,_,_,_,_,_,_,_] Y9 (λx hx=>by cases hx)<|H1 ?_;refine iF 14 V<|Wu Z Tt 0 [_,_,_,_,_,_,_,_,_,_] Y9 (λx hx=>by cases hx)<|ji V ?_;refine iU (my.mk (bc,c1,yc,Oq9,Ao1,co1,Ai1,ci1) [] kp Pr ⟨(h4.t h5|>.t h6|>.t h7),⟨vt,sj.le h7,by rw [<- hcy,AE],hcy2⟩⟩)):p:=h
def qCO{c:Nat}(hA:ki s A n c t.U)(xB:lX s Ax nAx cAx m.cells)(vp:lP s Bx yt cBx m.aa)(yj:lP s Ox nOx cOx m.output)(me:sF m)(hc0:0 < m.cells.length):pQ D 78 [.agg #[iB t.cells,.slice A n c],.agg #[.slice Ax nAx cAx,iJ m.r0,iJ m.r1,iJ m.r2,iJ m.r3,iJ m.r4,.slice Bx yt cBx,.slice Ox nOx cOx,iB m.stop,iJ m.code]] L s λv M' s'=>∃ bm sm bq es ck,v=iT bm/\sm.length=256/\(∀ c:Int,0<=c->c < 256->sm[c.toNat]?=some (qG t.U c n:Int))/\(∀ c:Int,256<=c->(kX es c).getD (iB 0)=iB (qG t.U c n:Int))/\DS bm (.slice A n c) sm bq es ck 0 m M' s':=by
 obtain rfl:=xB.1;obtain rfl:=yj.1;have hnB:=vp.1;have pr:=me.cells;have tV:=me.aa;have y9:=me.output;have hn:=hA.1;have oT:=hA.2.1;have hcm:=hA.2.2.1;refine jn (fn:=f78) jb func78 V Z ntmps78 Z (rs:=[.tmp 4]) Z [(0,_),(1,_)] Z<|Sr<|kF Y2 λβ1 s1 h1=>kF Y2 λβ2 s2 h2=>G3 ?_;have e2:=h1.t h2;refine qGt (γ:=Nat×Nat×iz×Hl×iE×Nat×iE×Nat) (λg=>[(2,iT β1),(3,iT β2),(4,.pointer none)]) (λg=>(β2,cb [.slice (some ⟨g.1,0,none⟩) m.cells.length g.2.1,iJ m.r0,iJ m.r1,iJ m.r2,iJ m.r3,iJ m.r4,.slice g.2.2.2.2.2.2.1 yt g.2.2.2.2.2.2.2,.slice g.2.2.2.2.1 m.output.length g.2.2.2.2.2.1,iB m.stop,iJ m.code] 101)::(β1,cb [iB t.cells,.slice A n c] 44)::(g.1,cb (wv m.cells++g.2.2.1) 34)::(g.2.2.2.1++L)) (λg tw=>Le D s2 tw/\(Own 5 1 g.2.2.2.1 (.slice g.2.2.2.2.1 m.output.length g.2.2.2.2.2.1) m.output.length (bv m.output)/\lP tw g.2.2.2.2.2.2.1 yt g.2.2.2.2.2.2.2 m.aa/\m.cells.length+g.2.2.1.length=g.2.1/\g.2.1<=9223372036854775807)) (λ_ _ _ h hl=>⟨h.1.trans hl,by obtain ⟨_,k1,k2,k3⟩:=h;exact ⟨k1,k2.le hl,k3⟩⟩) ?_ ?_
 .refine mv jt 15 Z 0 λs4 h4=>H3 ?_;have e4:=e2.t h4;refine xW 1 4 7 V ?_ ?_ ?_
  .refine X3 ?_;refine xW 2 4 7 V ?_ ?_ ?_
   .refine Jb Z Tt Z Z Z (AC.mid [_,_] [] _ (F5 (xB.le e4) O)) ?_;rintro _ _ s5 h5 ⟨M1,rfl,Ad,c1,rfl,_,_,hO1⟩;refine ⟨(λx h _=>by cases h),?_⟩;obtain ⟨bc,yc,rfl,rfl,hcy,hcy2⟩:=Own.blk_of hO1 hc0;simp only [jC,jD];refine kA 4 7 V ?_ ?_
    .refine X3 ?_;refine kA 5 7 V ?_ ?_;.refine Jb Z Tt Z Z Z (AC.pub (sV (vp.le (e4.t h5)) O)) ?_;rintro _ _ s6 h6 ⟨rfl,Mi,swi,⟨Ai1,ci1,rfl,_,_,hOi⟩,hswi,hcwi⟩;refine ⟨λ_ _ h=>h,?_⟩;have sj:=Own.bts hOi hcwi;refine X12 ?_;refine iF 8 V<|CW [] _ lr (sV (yj.le (e4.t h5|>.t h6)) O) ?_;rintro _ Oq9 s7 h7 ⟨Ao1,co1,rfl,_,_,vt⟩;refine iF 10 V<|Wu Z Tt 0 [_,_,_,_,_,_,_,_,_,_] Y9 (λx hx=>by cases hx)<|H1 ?_;refine iF 12 V<|Wu Z Tt 0 [_,_,_,_,_,_,_,_,_,_] Y9 (λx hx=>by cases hx)<|H1 ?_;refine iF 14 V<|Wu Z Tt 0 [_,_,_,_,_,_,_,_,_,_] Y9 (λx hx=>by cases hx)<|ji V ?_;refine iU (my.mk (bc,c1,yc,Oq9,Ao1,co1,Ai1,ci1) [] kp Pr ⟨(h4.t h5|>.t h6|>.t h7),⟨vt,sj.le h7,by rw [<- hcy,AE],hcy2⟩⟩)
     refine jW Z Tt (Wd 0 Y5) Z<|H1 ?_;refine iF 5 V<|Jb Z Tt Z Z Z (AC.pub (sV (vp.le (e4.t h5)) O)) ?_;exact HT
    refine jW Z Tt (Wd 0 Y5) Z<|iF 4 V<|jW Z Tt (Wd 0 Y5) Z<|H1 ?_;refine iF 5 V<|Jb Z Tt Z Z Z (AC.pub (sV (vp.le (e4.t h5)) O)) ?_;exact HT
   .exact VY
   exact V3
  .refine X3 ?_;refine kA 1 7 V ?_ ?_;.exact VY
   exact V7
  refine jW Z Tt (Wd 0 Y5) Z ?_;refine kA 1 4 V ?_ ?_;.exact V3
  exact V7
 intro g s3 I3;obtain ⟨bc,c1,yc,Oq9,Ao1,co1,Ai1,ci1⟩:=g;obtain ⟨vt,sj,nS,hcc2⟩:=I3.2;dsimp only at vt sj nS hcc2;dsimp only;refine Sr<|iA (iZ 0 [_,_,_,_,_,_,_,_,_,_] Y5) Z<|G2 ?_;refine Gb (Value.int .u32) Z λbq s8 h8=>iA (jB [(_,_),(_,_),(_,_)] (_::_::_::_::_::_::_::_::_::_::_::(iv (List.replicate 256 0)++[_,_])) Y3 Z Z (by rfl)) Z<|kF Y2 λbm s9 h9=>G7 ?_;refine Wl 3 Y6<|G4 ?_;refine Zp ?_;have e9:=e2.t I3.1|>.t h8|>.t h9;refine lJ (γ:=Nat×iG×List (Int×Value×Nat)×Nat) (λg=>[(4,_),(5,_),(27,_),(28,_),(29,iB (g.1:Int))]) (λg=>(bm,cb (.slice (jZ bc) m.cells.length c1::iJ m.r0::iJ m.r1::iJ m.r2::iJ m.r3::iJ m.r4::.slice Ai1 yt ci1::.slice Ao1 m.output.length co1::iB m.stop::iJ m.code::.slice A n c::(iv g.2.1++[.map (some bq),iJ 0])) 183)::(bq,mp (Value.int .u32) g.2.2.1 g.2.2.2)::(β2,cb [.slice (jZ bc) m.cells.length c1,iJ m.r0,iJ m.r1,iJ m.r2,iJ m.r3,iJ m.r4,.slice Ai1 yt ci1,.slice Ao1 m.output.length co1,iB m.stop,iJ m.code] 101)::(β1,cb [iB t.cells,.slice A n c] 44)::(bc,cb (wv m.cells++yc) 34)::(Oq9++L)) (λg tw=>Le D s9 tw/\(g.1<=n/\g.2.1.length=256/\(∀ c:Int,0<=c->c < 256->g.2.1[c.toNat]?=some (qG t.U c g.1:Int))/\(∀ c:Int,256<=c->(kX g.2.2.1 c).getD (iB 0)=iB (qG t.U c g.1:Int)))) (λg=>n - g.1) (λ_ _ _ h hl=>⟨h.1.trans hl,h.2⟩) (0,List.replicate 256 0,[],0) (.c5 Z Z Z Z Z (.nil _)) Z ⟨Le.refl _,⟨aB _,Ξ,λc h1 h2=>by rw [cU,au O];rfl,λc _=>rfl⟩⟩ ?_;intro g kH I10;obtain ⟨k,sm,es,ck⟩:=g;obtain ⟨ko,oc,hS,hB⟩:=I10.2;simp only at ko oc hS hB;dsimp only;refine J6 ?_ ?_<;>intro nZ
 .have hk:k < n:=O
  obtain ⟨b,off,x,A',n',c',rfl,hx,hcx,hax,kL,je⟩:=ki.at_ (hA.le (e9.t I10.1)) hk;refine G7 ?_;refine iA (jK Y6 hk) Z<|iA (ku Y3 hcx Z) Z<|jh Z [_,_,_,_] Y2 λβ12 kh jE=>mo Y2<|Wt 0 [_,_,_,_] Y9<|J9 ?_ ?_<;>intro pZ;.have kZ:=pZ;refine pM jt 9 Z [1] Q4 λlG kI=>H4 ?_;refine za 4 Z (nV Z Z (jq O O)) Z<|H2 ?_;refine za 7 Z (OZ Z Z Z Z Z Z je.1 O) Z<|iF 8 V<|w8 Z Tt 1 _ Y5 (qqT _ _ _ _ _ _ _ _ _ _ _ _ _ oc O) Z (qte _ _ _ _ _ _ _ _ _ _ _ _ _ _ O) Z (λx hx=>hx)<|ji V<|Zb<|Zt<|Zr<|kq Y3 (jq O O)<|G2 ?_;refine iU ⟨(k+1,sm.set x.code.toNat ((k:Int)+1),es,ck),[_],kp,Z,⟨(I10.1.t jE|>.t kI),by first|exact ⟨O,(NP hx je kZ oc hS).1,(NP hx je kZ oc hS).2,qmi hx kZ hB⟩|exact ⟨O,oc,qlc hx kZ hS,qqS hx hB⟩⟩,Oz⟩
  have kZ:=pZ;refine pM jt 9 Z [2] Q4 λlG kI=>H3 ?_;refine za 3 Z (rS 1 Y4 (qss _ _ _ _ _ _ _ _ _ _ _ _ _ oc)) Z<|H3 ?_;refine za 7 Z (nV Z Z (jq O O)) Z<|iF 8 V<|KA (jO.int .u32) Z Tt 2 (ZH default) Z Z Z Z (λx hx=>hx) λsI=>ji V<|Zb<|Zt<|Zr<|kq Y3 (jq O O)<|G2 ?_;refine iU ⟨(k+1,sm,vB es x.code (iB ((k:Int)+1)) ck,sI),[_],kp,Z,⟨(I10.1.t jE|>.t kI),by first|exact ⟨O,(NP hx je kZ oc hS).1,(NP hx je kZ oc hS).2,qmi hx kZ hB⟩|exact ⟨O,oc,qlc hx kZ hS,qqS hx hB⟩⟩,Oz⟩
 refine G6 ?_;refine sq 1<|sq 4<|sq 2<|sq 4<|sq 4<|G6 ?_;refine rR [_,_] _ (.t1 Z) Z (e9.t I10.1) λ_ iD=>?_;have zc:k=n:=O
 subst zc;exact ⟨_::_::_::Oq9,rfl,bm,sm,bq,es,ck,rfl,oc,hS,hB,bc,c1,yc,Oq9,Ao1,co1,Ai1,yt,ci1,rfl,vt,sj.le (h8.t h9|>.t I10.1|>.t iD),nS,hcc2⟩
end
section
variable{t:oK}{k:Int}
structure MU(m:lH):Prop where
 u0:iQ m.r0
 u1:iQ m.r1
 u2:iQ m.r2
 u3:iQ m.r3
 u4:iQ m.r4
 code:iQ m.code
def BJ:lH:=⟨[],0,0,0,0,0,[],[],0,0⟩
def qLT:MU BJ:=by constructor<;>exact ⟨Θ,Θ⟩
def xv(s:World)(m:lH)(v:Value):Prop:=∃ A nA cA B nB cB Oq9 nO cO,v=.agg #[.slice A nA cA,iJ m.r0,iJ m.r1,iJ m.r2,iJ m.r3,iJ m.r4,.slice B nB cB,.slice Oq9 nO cO,iB m.stop,iJ m.code]
 /\ lX s A nA cA m.cells/\lP s B nB cB m.aa/\lP s Oq9 nO cO m.output
def xv.le(h:xv s m v)(hl:Le D s s'):xv s' m v:=by
 obtain ⟨A,nA,cA,B,nB,cB,Oq9,nO,cO,h1,h2,h3,h4⟩:=h;exact ⟨A,nA,cA,B,nB,cB,Oq9,nO,cO,h1,h2.le hl,h3.le hl,h4.le hl⟩
def xv.zero(s:World):xv s BJ (.agg #[.slice none 0 0,iJ 0,iJ 0,iJ 0,iJ 0,iJ 0,.slice none 0 0,.slice none 0 0,iB 0,iJ 0]):=
 ⟨none,0,0,none,0,0,none,0,0,rfl,lX.nil _ _ _ O,lP.nil _ _ _ O,lP.nil _ _ _ O⟩
structure CA(m:lH):Prop where
 stop:0<=m.stop/\m.stop<=5
 code:m.code≠0->m.stop=1
theorem qDx(t:oK)(m:lH):(uA t m).1=0->(uA t m).2=0:=by grind [uA]
def qI4(hX:ki s A n c t.U)(hA:lX s Ax nx cx m.cells)(hU:MU m)(h:(uA t m).1=0):yV t/\sF m/\CA m/\(m.cells.length:Int)=t.cells:=by
 unfold uA at h;split at h
 . contradiction
 rename_i h0;simp at h0;have hG:=Nq hX h0;split at h
 . exact absurd h Dc
 rename_i h1;split at h
 . exact absurd h Dc
 rename_i h2;split at h
 . exact absurd h Dc
 rename_i h3;split at h
 . exact absurd h Dc
 rename_i h4;have:=hG.cells;refine ⟨hG,⟨O,λx hx=>?_,hU.u0,hU.u1,hU.u2,hU.u3,hU.u4,O,O,hU.code⟩,⟨O,λhc=>O⟩,O⟩;obtain ⟨i,hi⟩:=bh hx;obtain ⟨_,_,_,_,_,_,_,h5⟩:=hA.2.2.2 i x hi;exact h5
def qDw(ht:(o5 t).1=0)(hm:sF m)(hs:CA m)(hl:(m.cells.length:Int)=t.cells):uA t m=(0,0):=by
 have h1:=hm.aa;have h2:=hm.output;have h3:=hs.stop;have h4:=hs.code;unfold uA;rw [ak O,ak O,ak O,ak O,ak O]
theorem qA9(m:lH)(a:Ac)(op:Int):(kn m a op).cells.length=m.cells.length:=by grind [nC,kn]
def qBa(a:Ac)(op:Int)(h0:m.stop=0)(hc:m.code=0):CA (kn m a op)/\((kn m a op).stop=0->(kn m a op).code=0):=by
 unfold kn;simp only;repeat' split
 all_goals (refine ⟨⟨?_,?_⟩,?_⟩<;>simp [nC,h0,hc])
def I_{l:List Ac}(hl:∀ a∈l,AQ a)(hm:sF m)(h0:m.stop=0)(hc:m.code=0){op:Int}(ho:iQ op):
    sF (mW m op l)/\CA (mW m op l)/\(mW m op l).cells.length=m.cells.length/\((mW m op l).stop=0->(mW m op l).code=0):=by
  induction l generalizing m with
  | nil=>exact ⟨hm,⟨by simp only [mW];omega,λh=>by simp only [mW] at h;contradiction⟩,rfl,λ_=>hc⟩
  | cons a r ih=>
    have h1:=qy2 hm (hl a Mc) ho;obtain ⟨h2,h3⟩:=qBa a op h0 hc;have h4:=qA9 m a op;simp only [mW];split
    . rename_i hs
      obtain ⟨k1,k2,k3,k4⟩:=ih (λb hb=>hl b (an _ hb)) h1 hs (h3 hs);exact ⟨k1,k2,O,k4⟩
    . exact ⟨h1,h2,h4,h3⟩
def qmm(hG:yV t)(hm:sF m)(h0:m.stop=0)(hc:m.code=0):
    sF (l9 t m)/\CA (l9 t m)/\(l9 t m).cells.length=m.cells.length/\((l9 t m).stop=0->(l9 t m).code=0):=by
  have hu:∀ i,iQ (m.cells.getD i 0):=λi=>by
    by_cases hl:i < m.cells.length
    . simp only [List.getD,ap hl,dY];exact hm.wide _ (dQ hl)
    . simp [List.getD,dh (dR hl)];exact ⟨Θ,Θ⟩
  have nJ:∀ k:Int,0<=k->k<=5->sF { m with stop:=k }/\CA { m with stop:=k }/\({ m with stop:=k }:lH).cells.length=m.cells.length/\(({ m with stop:=k }:lH).stop=0->({ m with stop:=k }:lH).code=0):=λk h1 h2=>
    ⟨⟨hm.cells,hm.wide,hm.u0,hm.u1,hm.u2,hm.u3,hm.u4,hm.output,hm.aa,hm.code⟩,⟨⟨h1,h2⟩,λh=>absurd hc h⟩,rfl,λ_=>hc⟩
  have hr4:∀ v:Int,iQ v->sF { m with r4:=v }:=λv hv=>⟨hm.cells,hm.wide,hm.u0,hm.u1,hm.u2,hm.u3,hv,hm.output,hm.aa,hm.code⟩;have h4:=hm.u4;have h5:=hm.cells;unfold iQ at h4;unfold l9;split
  . exact nJ 3 O O
  rename_i pu;split
  . exact nJ 2 O O
  rename_i x hx;have pv:∃ i:Nat,t.U[i]?=some x:=bh (cJ hx);obtain ⟨i,hi⟩:=pv;have hac:∀ a∈x.ad,AQ a:=λa ha=>(hG.ad i x a hi ha).1;split
  . split
    . exact nJ 3 O O
    . exact I_ hac (hr4 (m.r4+2) ⟨O,O⟩) h0 hc (hu _)
  . exact I_ hac (hr4 (m.r4+1) ⟨O,O⟩) h0 hc ⟨Θ,Θ⟩
def x5(t:oK)(m:lH)(k:Int):lH×Int×Int×Int:=
 if (uA t m).1≠0 then (BJ,0,(uA t m).1,(uA t m).2)
 else if k < 0\/50000000 < k then (BJ,0,4,-3)
 else ((pd t m k.toNat).1,((pd t m k.toNat).2:Int),0,0)
def qwj(h:(uA t m).1≠0):x5 t m k=(BJ,0,(uA t m).1,(uA t m).2):=by unfold x5;rw [au h]
theorem qwk(h:(uA t m).1=0)(hk:k < 0\/50000000 < k):x5 t m k=(BJ,0,4,-3):=by grind [x5]
theorem qs1(h:(uA t m).1=0)(hk:¬ (k < 0\/50000000 < k)):x5 t m k=((pd t m k.toNat).1,((pd t m k.toNat).2:Int),0,0):=by grind [x5]
def qC8{mk:lH}(h:pd t m K=((pd t mk (K - j)).1,j+(pd t mk (K - j)).2))(hj:j < K)(h0:mk.stop=0):
  pd t m K=((pd t (l9 t mk) (K - (j+1))).1,(j+1)+(pd t (l9 t mk) (K - (j+1))).2):=by
 rw [h];obtain ⟨d,hd⟩:∃ d,K - j=d+1:=⟨K - j - 1,O⟩;rw [hd,show K - (j+1)=d by omega];simp only [pd,h0,bV,dW,iw];omega
def qC6{mk:lH}(h:pd t m K=((pd t mk (K - j)).1,j+(pd t mk (K - j)).2))(he:¬ j < K\/¬ mk.stop=0):pd t m K=(mk,j):=by
 rw [h];cases hd:K - j with
 | zero=>simp [pd]
 | succ d=>
  rcases he with he|he
  . omega
  . simp [pd,he]
attribute [local irreducible] JC JO JA JB ma mO mX AC fill iy QE Ev my
def qtH{l:iG}(hp:iy s bc 0 (wv l++yc))(hu:∀ x∈l,iQ x)(h1:l.length+yc.length=cc)(h2:cc<=9223372036854775807):lX s (jZ bc) l.length cc l:=
 Own.wds (e:=0) (A:=[(bc,cb (wv l++yc) 0)]) (.blk bc cc l.length (wv l) yc (by simp [wv]) (by rw [AE];omega) O h2) hu (λb zs t hm=>by
  simp only [aU,dW,cb,Obj.cells.injEq] at hm;obtain ⟨rfl,h,rfl,_⟩:=hm;have e:zs=wv l++yc:=by simpa using h
  rw [e];exact hp)
def vy:iQ 0:=⟨Θ,Θ⟩
def qzK(h:CA m)(h0:m.stop=0):m.code=0:=by
 by_cases hc:m.code=0
 . exact hc
 . have:=h.code hc;omega
def P7{p:Prop} (h:p:=by
 refine ⟨[_,_,_],Z,λs2 h2 hp=>?_⟩;rw [qwk sS pu];exact ⟨_,xv.zero _,rfl⟩):p:=h
def P9{p:Prop} (h:p:=by
 refine ⟨_::_::_::O1,Z,λs2 h2 hp=>?_⟩;rw [qs1 sS sL,qC6 jH hend];exact ⟨_,⟨_,_,_,_,_,_,_,_,_,rfl,qtH (hp _ _ _ (an _ Mc)) hok1.wide hcc1 hcc21,hB9.le Lc,Own.bts hO1 hp.tail.tail.tail⟩,rfl⟩):p:=h
def IA{p:Prop} (h:p:=by
 refine Wt 2 [_,_,_,_,_,_,_,_,_,_] Y9<|mo Y2<|Wt 1 [_,_] Y9<|G4 ?_;exact rR [_,_] _ (.agg (us:=[_,_,_,_,_,_,_,_,_,_]) 2 Z Z Z Z Z (.tmp Z (.agg (us:=[_,_]) 1 Z Z Z Z Z (.nil)))) Z Lc λ_ iD=>P7):p:=h
def It{p:Prop} (h:p:=by
 refine kb Y2<|iA (jB [] [_,_] Y3 Z Z Z) Z<|Wt 2 [_,_,_,_,_,_,_,_,_,_] Y9<|mo Y2<|Wt 1 [_,_] Y9<|G3 ?_;exact rR [_,_,_,_,_] _ (.agg (us:=[_,_,_,_,_,_,_,_,_,_]) 2 Z Z Z Z Z (.tmp Z (.agg (us:=[_,_]) 1 Z Z Z Z Z (.nil)))) Z Lc λ_ iD=>P9):p:=h
def qC4(hA:ki s A n c t.U)(xB:lX s Ax nAx cAx m.cells)(vp:lP s Bx yt cBx m.aa)(yj:lP s Ox nOx cOx m.output)(hU:MU m):pQ D 35 [.agg #[iB t.cells,.slice A n c],.agg #[.slice Ax nAx cAx,iJ m.r0,iJ m.r1,iJ m.r2,iJ m.r3,iJ m.r4,.slice Bx yt cBx,.slice Ox nOx cOx,iB m.stop,iJ m.code],iB k] L s λv M' s'=>∀ s2,Le D s' s2->mI M' s2->∃ vs,xv s2 (x5 t m k).1 vs/\v=.tuple #[vs,iB (x5 t m k).2.1,.agg #[iB (x5 t m k).2.2.1,iB (x5 t m k).2.2.2]]:=by
 have hF:=qDx t m;refine jn (fn:=Tryz.f35) jb Tryz.func35 V Z Tryz.ntmps35 Z (rs:=[.cell 6 101,.tmp 7,.cell 8 30]) Z [(0,_),(1,_),(2,_)] Z<|Sr<|kF Y2 λβ1 s1 h1=>kF Y2 λβ2 s2 h2=>jh Z [_,_,_,_,_,_,_,_,_,_] Y2 λβ3 s3 h3=>mo Y2<|jh Z [_,_] Y2 λβ4 s4 h4=>Nt<|Zs<|Sr<|iA (iZ 3 [_,_] Y5) Z<|iA (iZ 2 [_,_,_,_,_,_,_,_,_,_] Y5) Z<|Je Y3 (qyE Pz Pz Pz Pz) λs5 h5=>jh Z [_,_] Y2 λβ6 s6 h6=>Wt 0 [_,_] Y9<|Nt<|Sr<|iA (iZ 0 [_,_] Y5) Z<|iA (jB [] [_,_] Y3 Z Z Z) Z<|iA (ui Z Z (sp)) Z<|G2 ?_;refine lL Z ?_ ?_<;>intro c7;.have rM:(uA t m).1≠0:=λh=>c7 ⟨h,hF h⟩;refine Zs<|pM jt 5 Z [2,1] Q4 λs8 h8=>za 0 Z (jB [] [_,_,_,_,_,_,_,_,_,_] Y3 Z Z Z) Z<|za 1 Z (iZ 0 [_,_] Y5) Z<|iF 2 V<|Wu Z Tt 2 [_,_,_,_,_,_,_,_,_,_] Y9 (sM (nD (lz (lj (jL)))))<|H1 ?_;refine iF 4 V<|Wu Z Tt 1 [_,_] Y9 (sM (nD (lz (lj (jL)))))<|ji V<|G3 ?_;refine rR [_,_] _ (.agg (us:=[_,_,_,_,_,_,_,_,_,_]) 2 Z Z Z Z Z (.tmp Z (.agg (us:=[_,_]) 1 Z Z Z Z Z (.nil)))) Z Lc λ_ iD=>?_;refine ⟨[_,_,_],Z,λs2 h2 hp=>?_⟩;rw [qwj rM];exact ⟨_,xv.zero _,rfl⟩
 have sS:(uA t m).1=0:=c7.1;obtain ⟨hG,me,hsok,iK⟩:=qI4 hA xB hU sS;refine G8 ?_;refine ld (t:=22) Z ?_ ?_<;>intro c8
 .refine G6 ?_;have pu:k < 0\/50000000 < k:=O
  refine Sr<|iA (jB [] [_,_,_,_,_,_,_,_,_,_] Y3 Z Z Z) Z<|Je Y3 (vU) λs9 h9=>?_;exact IA
 refine J7 ?_ ?_<;>intro c9
 .have pu:k < 0\/50000000 < k:=O
  refine Sr<|iA (jB [] [_,_,_,_,_,_,_,_,_,_] Y3 Z Z Z) Z<|Je Y3 (vU) λkH jG=>?_;exact IA
 have sL:¬ (k < 0\/50000000 < k):=O
 refine Zk<|Zt<|Sr<|iA (iZ 4 [_,_] Y5) Z<|iA (iZ 3 [_,_,_,_,_,_,_,_,_,_] Y5) Z<|Nh [] _ kv (qCO Pz Pz Pz Pz me (by have:=hG.cells;omega)) ?_;rintro _ M1 kH jG ⟨bm,sm,bq,es,ck,rfl,oc,hS,hB,bc,cc,yc,Oq9,Ao,co,Ai,ni,ci,rfl,hO,hI,nS,hcc2⟩;refine lM ?_;refine CN [_,_,_,_,_] (γ:=Nat×lH×Int×Hl) (λg=>[(2,_),(6,_),(7,_),(8,_),(10,_),(11,iB (g.1:Int))]) (λg=>g.2.2.2++L) (λg tw=>Le D kH tw/\(g.1<=k.toNat/\DS bm (.slice A n c) sm bq es ck g.2.2.1 g.2.1 g.2.2.2 tw/\sF g.2.1/\CA g.2.1/\iQ g.2.2.1/\pd t m k.toNat=((pd t g.2.1 (k.toNat - g.1)).1,g.1+(pd t g.2.1 (k.toNat - g.1)).2))) (λg=>k.toNat - g.1) (λ_ _ _ h hl=>⟨h.1.trans hl,by obtain ⟨_,k1,⟨bc,cc,yc,Oq9,Ao,co,Ai,ni,ci,k2,k3,k4,k5⟩,k6⟩:=h;exact ⟨k1,⟨bc,cc,yc,Oq9,Ao,co,Ai,ni,ci,k2,k3,k4.le hl,k5⟩,k6⟩⟩) (0,m,0,_::_::_::Oq9) (.c6 Z Z Z Z Z Z (.nil _)) Z ⟨Le.refl _,⟨aB _,⟨bc,cc,yc,Oq9,Ao,co,Ai,ni,ci,Z,hO,hI.le (Lr D),nS,hcc2⟩,me,hsok,vy,Ξ⟩⟩ ?_;intro g kz I11;simp only [jC,jD];obtain ⟨j,mk,opk,Mk⟩:=g;obtain ⟨oV,⟨bc1,cc1,yc1,O1,Ao1,co1,Ai1,ni1,ci1,xD,hO1,hI1,hcc1,hcc21⟩,hok1,hsok1,hop1,jH⟩:=I11.2;simp only at oV xD hO1 hI1 hcc1 hok1 hop1 jH hsok1;subst xD;simp only [ao];refine G7 ?_;refine ld (t:=34) Z ?_ ?_<;>intro oL
 .refine G9 ?_;refine Wl 5 Y6<|J5 ?_ ?_<;>intro pZ
  .have qp:mk.stop=0:=pZ;have hj1:j < k.toNat:=O
   refine G6 ?_;refine Nh (_::_::_::O1) L kv (qDy oc ⟨bc1,cc1,yc1,O1,Ao1,co1,Ai1,ni1,ci1,Z,hO1,hI1.le (Lr D),hcc1,hcc21⟩ Pz hG hok1 hop1 qp hS hB) ?_;rintro _ M2 lG kI ⟨rfl,op2,hop2,bc2,cc2,yc2,O2,Ao2,co2,Ai2,ni2,ci2,rfl,hO2,xC,hcc22,hcc23⟩;refine G4 ?_;refine kq Y3 (jq O O)<|G3 ?_;refine iU ⟨(j+1,l9 t mk,op2,_::_::_::O2),[],kp,Z,⟨Lc,⟨hj1,⟨bc2,cc2,yc2,O2,Ao2,co2,Ai2,ni2,ci2,Z,hO2,xC.le (Lr D),hcc22,hcc23⟩,(qmm hG hok1 qp (qzK hsok1 qp)).1,(qmm hG hok1 qp (qzK hsok1 qp)).2.1,hop2,qC8 jH hj1 qp⟩⟩,Oz⟩
  have hend:¬ j < k.toNat\/¬ mk.stop=0:=by first|exact .inr pZ|exact .inl O
  refine G8 ?_;refine Nh [_] _ kv (M_ oc Pz (by have:=hI1.1;have:=hok1.aa;omega)) ?_;rintro _ _ lG kI ⟨rfl,Ad,c9,rfl,hB9⟩;exact It
 refine lM ?_;have hend:¬ j < k.toNat\/¬ mk.stop=0:=by first|exact .inr trivial|exact .inl O
 refine G8 ?_;refine Nh [_] _ kv (M_ oc Pz (by have:=hI1.1;have:=hok1.aa;omega)) ?_;rintro _ _ lq kV ⟨rfl,Ad,c9,rfl,hB9⟩;exact It
end
inductive kJ{α β:Type}(R:α->β->Prop):List α->List β->Prop
 | nil:kJ R [] []
 | cons {a:α} {b:β} {l:List α} {m:List β} (h:R a b) (k:kJ R l m):kJ R (a::l) (b::m)
def qzY{α:Type}{sz:Nat}{R:World->α->iz->Prop}{l:List α}(h:kJ (λx cs=>cs.length=sz/\R s x cs) l css) :
  ∀ off,iy s b off css.flatten->∀ i x,l[i]?=some x->∃ cs,iy s b (off+i * sz) cs/\cs.length=sz/\R s x cs:=by
 induction h with
 | nil=>intro off _ i x hi;cases hi
 | @cons a c l m h k ih=>
  intro off hc i x hi;have h1:iy s b off c:=λj v hj=>hc j v (by rw [bj,aV (al.1 hj).1];exact hj);have h2:iy s b (off+sz) m.flatten:=λj v hj=>by
   have:=hc (sz+j) v (by rw [bj,aY O,h.1];simpa using hj)
   rwa [<- dA] at this
  cases i with
  | zero=>simp at hi;subst hi;exact ⟨c,by simpa using h1,h.1,h.2⟩
  | succ i=>
   obtain ⟨cs,k1,k2⟩:=ih (off+sz) h2 i x (by simpa using hi);exact ⟨cs,by rw [gK];rwa [show off+sz+i * sz=off+(i * sz+sz) by omega] at k1,k2⟩
def Sl.lit{α:Type}{sz:Nat}{R:World->α->iz->Prop}{l:List α}(css:List iz)(hc:iy s b 0 zs)(hz:css.flatten=zs)(h:kJ (λx cs=>cs.length=sz/\R s x cs) l css)(n:Nat)(hn:n=l.length)(hm:n<=9223372036854775807):Sl sz R s (jZ b) n n l:=
 ⟨hn,ay _,hm,λi x hi=>by
  obtain ⟨cs,h1,h2⟩:=qzY h 0 (hz▸hc) i x hi;exact ⟨b,0,cs,rfl,h1,h2⟩⟩
def qqY{l:List UInt8}(hp:iy s b 0 (bv l++yc))(h1:l.length+yc.length=cc)(h2:cc<=9223372036854775807):lP s (jZ b) l.length cc l:=
 Own.bts (e:=0) (A:=[(b,cb (bv l++yc) 0)]) (.blk b cc l.length (bv l) yc (by simp [bv]) (by rw [qHk];omega) O h2) (λb zs t hm=>by
  simp only [aU,dW,cb,Obj.cells.injEq] at hm;obtain ⟨rfl,h,rfl,_⟩:=hm;have e:zs=bv l++yc:=by simpa using h
  rw [e];exact hp)
def uz{TT:kD}{fr:Fr}{c:Code}(X A:Hl)(h:∀ s',Le D s s'->mI A s'->JC P TT D n Q c fr (X++Y) s'):JC P TT D n Q c fr (X++(A++Y)) s:=λht a hr ho=>by
 have hp:(X++(A++Y)).Perm (A++(X++Y)):=by
  exact Pk
 rw [uc hp _ ho];have nj:=ho.perm hp;obtain ⟨e,d1,d2⟩:=tI nj;rw [e];refine h _ d2 (λb zs t hm j u hj=>?_) ht a hr d1;rw [Ca nj.left hm,aX];exact hj
section
def kJ.mono{α β:Type}{R R':α->β->Prop}{l:List α}{m:List β}(h:kJ R l m)(hr:∀ a b,R a b->R' a b):kJ R' l m:=by
 induction h with
 | nil=>exact .nil
 | cons h _ ih=>exact .cons (hr _ _ h) ih
def kJ.snoc{α β:Type}{R:α->β->Prop}{l:List α}{m:List β}{a:α}{b:β}(h:kJ R l m)(k:R a b):kJ R (l++[a]) (m++[b]):=by
 induction h with
 | nil=>exact .cons k .nil
 | cons h _ ih=>exact .cons h ih
def Own.rows{α:Type}{sz:Nat}{A:Hl}{l:List α}{R:World->α->iz->Prop}(h:Own e sz A (.slice Ad n c) n css.flatten)(hp:mI A s)(ha:kJ (λx cs=>cs.length=sz/\R s x cs) l css)(hn:n=l.length):Sl sz R s Ad n c l:=by
 generalize hv:Value.slice Ad n c=v at h;generalize hx:css.flatten=xs at h;cases h with
 | nil=>
  injection hv with e1 e2 e3;subst e1;subst e3;have:l=[]:=aJ hn.symm;subst this;exact ⟨rfl,ay _,O,λi x h=>by cases h⟩
 | blk b cap n xs ys h1 h2 h3 h4=>
  injection hv with e1 e2 e3;subst e1;subst e3;subst hx;have hc:iy s b 0 css.flatten:=λj v hj=>hp b _ e Mc j v Q30;exact ⟨hn,h3,h4,λi x hi=>by
   obtain ⟨cs,k1,k2⟩:=qzY ha 0 hc i x hi;exact ⟨b,0,cs,rfl,k1,k2⟩⟩
def iO(s:World)(A:iE)(n c:Nat)(l:List (List UInt8)):Prop:=Sl 1 (λ_ x cs=>cs=[St x]/\x.length<=9223372036854775807) s A n c l
def iO.le(h:iO s A n c l)(hl:Le D s s'):iO s' A n c l:=Sl.le (λ_ _ h=>h) h hl
def iO.at_(h:iO s A n c l)(hk:k < n):∃ b off x,A=some ⟨b,off,none⟩/\l[k]?=some x/\iy s b (off+k) [St x]/\x.length<=9223372036854775807:=by
 exact II
end
section
variable{TT:kD}{fr:Fr}
def ol{γ:Type}(D:Nat)(s:World)(fr:Fr)(X:Hl)(H:γ->Hl)(I:γ->World->Prop):Fr->Hl->World->Prop:=λjN L' s'=>∃ g A,Le D s s'/\L'.Perm (A++(X++H g))/\I g s'/\iY jN fr
def ol.mk{γ:Type}{H:γ->Hl}{I:γ->World->Prop}(g:γ)(A:Hl)(hl:Le D s s')(hK:iY jN fr)(hp:L'.Perm (A++(X++H g)))(hI:I g s'):ol D s fr X H I jN L' s':=⟨g,A,hl,hp,hI,hK⟩
def Ux{γ:Type}{x y:Code}(X:Hl)(_hX:L=X++Y)(H:γ->Hl)(I:γ->World->Prop)(mono:∀ g s s',I g s->Le D s s'->I g s')(h1:JC P TT D n (ma (ol D s fr X H I) Q) x fr L s)
  (h2:∀ g s',Le D s s'->I g s'->JC P TT D n Q y fr (X++H g) s'):JC P TT D n Q (.seq x y) fr L s:=λht a hr ho=>
 iu (eS (h1 ht a hr ho) λe a w ⟨jN,L',s',k1,k2,k3,k4⟩=>by
  cases e with
  | normal=>
   exact Sw
  | _=>exact ⟨jN,L',s',k1,k2,k3,k4⟩)
end
section
variable{l:List Ac}
def qB5{sz:Nat}(hl:∀ cs∈css,cs.length=sz){j:Nat}{u:Value}(h:css.flatten[j]?=some u):∃ i cs r,css[i]?=some cs/\cs[r]?=some u/\j=i * sz+r:=by
  induction css generalizing j with
  | nil=>cases h
  | cons c m ih=>
    have hc:=hl c Mc;rw [bj] at h;by_cases hj:j < c.length
    . rw [aV hj] at h
      exact ⟨0,c,j,rfl,h,O⟩
    . rw [aY O] at h
      obtain ⟨i,cs,r,h1,h2,h3⟩:=ih (λx hx=>hl x (an _ hx)) h;exact ⟨i+1,cs,r,by simpa using h1,h2,by rw [gK];omega⟩
def BU(l:List Ac):iz:=(l.map Ac.cs).flatten
def qBd(l m:List Ac):BU (l++m)=BU l++BU m:=by simp [BU]
def qBe(l:List Ac):(BU l).length=l.length * 6:=by
 induction l with
 | nil=>rfl
 | cons a r ih=>simp only [BU,aN,bj,ac,aw] at ih ⊢;rw [ih];simp only [Ac.cs,aw,aq];omega
def qn.row(h:qn s A n c l):Row s A n 6 (BU l):=by
  refine ⟨by rw [qBe,h.1],λu hu=>?_,λj u hj=>?_⟩
  . obtain ⟨cs,h1,h2⟩:=List.mem_flatten.1 hu
    obtain ⟨a,_,rfl⟩:=aW.1 h1;simp only [Ac.cs,aR,dO,dU] at h2;rcases h2 with rfl|rfl|rfl|rfl|rfl|rfl<;>rfl
  . obtain ⟨i,cs,r,h1,h2,h3⟩:=qB5 (sz:=6) (λcs tW=>by obtain ⟨a,_,rfl⟩:=aW.1 tW;rfl) hj
    rw [bQ] at h1;cases ha:l[i]? with
    | none=>simp [ha] at h1
    | some a=>
      simp [ha] at h1;subst h1;obtain ⟨b,off,cs,k1,k2,_,k3,_⟩:=h.2.2.2 i a ha;subst k3;refine ⟨b,off,k1,?_⟩;have:=k2 r u h2
      rwa [dA,<- h3] at this
def Own.acs{A:Hl}(h:Own e 6 A (.slice Ad n c) n (BU l))(hu:∀ a∈l,iQ a.x.val/\iQ a.y.val)(hp:mI A s)(hn:n=l.length):qn s Ad n c l:=by
 refine Own.rows (css:=l.map Ac.cs) h hp ?_ hn;clear h hn;induction l with
 | nil=>exact .nil
 | cons a r ih=>exact .cons ⟨rfl,rfl,hu a Mc⟩ (ih λb hb=>hu b (an _ hb))
def qn.u(h:qn s A n c l):∀ a∈l,iQ a.x.val/\iQ a.y.val:=λa ha=>by
 obtain ⟨i,hi⟩:=bh ha;obtain ⟨_,_,_,_,_,_,_,h5⟩:=h.2.2.2 i a hi;exact h5
def FH(s:World)(A:iE)(n c:Nat)(l:List Tm):Prop:=Sl 2 (λ_ x cs=>cs=[iB x.kind,iJ x.val]/\iQ x.val) s A n c l
def FH.at_{l:List Tm}(h:FH s A n c l)(hk:k < n):∃ b off x,A=some ⟨b,off,none⟩/\l[k]?=some x/\iy s b (off+k * 2) [iB x.kind,iJ x.val]/\iQ x.val:=by
 have hl:k < l.length:=by rw [<- h.1];exact hk
 obtain ⟨b,off,cs,h1,h2,_,rfl,h4⟩:=h.2.2.2 k l[k] (ap hl);exact ⟨b,off,l[k],h1,ap hl,h2,h4⟩
def VN:FH s none 0 0 []:=⟨rfl,ay _,O,λi x h=>by cases h⟩
end
section
variable{t:Nat}{args:iz}{R R':Value->Hl->World->Prop}
def JL(P:Program)(TT:kD)(D n:Nat)(ops:Array Oper)(Q:Exit->Act->World->Prop)(i:Nat)(d:Option Nat)(fr:Fr)(L:Hl)(s:World)(R:Value->Hl->World->Prop):Prop:=
 jV P TT->∀ a,jr n a fr->jQ D L s->wpOp P ops Q i (λa' w'=>∃ v L' s',a'=a.put d v/\w'=fill L' s'/\jQ D L' s'/\Le D s s'/\R v L' s') a (fill L s)
def JE(P:Program)(TT:kD)(D n:Nat)(ops:Array Oper)(Q:Exit->Act->World->Prop)(i d:Nat)(fr:Fr)(L:Hl)(s:World)(R:Value->World->Prop):Prop:=
 JL P TT D n ops Q i (some d) fr L s λv L' s'=>L'=L/\R v s'
section
variable{TT:kD}{ops:Array Oper}{Q':Exit->Act->World->Prop}{fr:Fr}{op:Op}{R:Value->World->Prop}
def YI{R:Value->Hl->World->Prop}(hi:ops[i]?=some ⟨some d,op,ty,iL,af,none⟩)(h:Ev P TT D fr op ty L s (.value v) L' s')(j9:Le D s s')(hR:R v L' s'):JL P TT D n ops Q' i (some d) fr L s R:=λht a hf ho=>by
 obtain ⟨h1,h2⟩:=h ht ho (some d) iL af none a.eval (λx v hx=>hf.ev hx);simp only [wpOp,hi,Region.wanted,bV];refine .inl ?_;simp only [Oper.wp,h1,Oper.upon];exact ⟨v,L',s',rfl,rfl,h2,j9,hR⟩
def qJ6{R:Value->Hl->World->Prop}(hi:ops[i]?=some ⟨none,op,ty,iL,af,none⟩)(h:Ev P TT D fr op ty L s .skip L' s')(j9:Le D s s')(hR:∀ v,R v L' s'):JL P TT D n ops Q' i none fr L s R:=λht a hf ho=>by
 obtain ⟨h1,h2⟩:=h ht ho none iL af none a.eval (λx v hx=>hf.ev hx);simp only [wpOp,hi,Region.wanted,bV];refine .inl ?_;simp only [Oper.wp,h1,Oper.upon];exact ⟨undef,L',s',rfl,rfl,h2,j9,hR _⟩
def YH(hi:ops[i]?=some ⟨some d,op,ty,iL,af,none⟩)(h:Ev P TT D fr op ty L s (.value v) L s')(j9:Le D s s')(hR:R v s'):JE P TT D n ops Q' i d fr L s R:=YI hi h j9 ⟨rfl,hR⟩
def DZ(hi:ops[i]?=some ⟨some d,op,ty,iL,af,none⟩)(h:QE P TT D fr op ty L s v)(hR:R v s):JE P TT D n ops Q' i d fr L s R:=
 YH hi (λht ho dst iL af g ρ hρ=>⟨h ht dst iL af g ρ hρ L s ho (Le.refl _) (λ_ hx=>hx),ho⟩) (Le.refl _) hR
def Uy{f:FuncId}{xs:List Operand}{first captured:iz}{R0 R:Value->Hl->World->Prop}(hi:ops[i]?=some ⟨some d,.call { callee:=.value x,args:=xs.toArray,argTypes:=ts },ty,iL,af,none⟩)
  (hx:lk fr x=some (.func (.func f) first.toArray captured.toArray)) (hv:qY fr xs=some vs) (h:AC P D f (first++vs++captured) L s R0)
  (k:∀ v L' s',Le D s s'->R0 v L' s'->R v L' s'):JL P TT D n ops Q' i (some d) fr L s R:=λhT a hf ho=>by
 obtain ⟨⟨fn,h1,h2,h3⟩,hc⟩:=h;have hρ:∀ x v,lk fr x=some v->a.eval x=v:=λx v hx=>hf.ev hx;simp only [wpOp,hi,Region.wanted,bV];refine .inl ?_;have jH:(execOp a.eval ⟨some d,.call { callee:=.value x,args:=xs.toArray,argTypes:=ts },ty,iL,af,none⟩).run P (fill L s)=.ok (.enter f (first++vs++captured).toArray) (fill L s):=by
  exact ET
 simp only [Oper.wp,jH,Oper.upon];refine (hc ho).mono ?_;rintro e w' ⟨v,L',s',rfl,rfl,h4,h5,h6⟩;exact ⟨v,L',s',rfl,rfl,h4,h5,k v L' s' h5 h6⟩
def OB{f:FuncId}{xs:List Operand}{first captured:iz}{R0:Value->Hl->World->Prop}(hi:ops[i]?=some ⟨some d,.call { callee:=.value x,args:=xs.toArray,argTypes:=ts },ty,iL,af,none⟩)
  (hx:lk fr x=some (.func (.func f) first.toArray captured.toArray)) (hv:qY fr xs=some vs) (h:AC P D f (first++vs++captured) L s R0)
  (k:∀ v L' s',Le D s s'->R0 v L' s'->L'=L/\R v s'):JE P TT D n ops Q' i d fr L s R:=Uy hi hx hv h k
def GJ{t len:Nat}(hi:ops[i]?=some ⟨some d,.buildSlice t len ps.toArray,ty,iL,af,none⟩)(lC:List (Nat×Value))(vs:iz)(ht:jz TT t=some ti)(hk:ti.kind=.sl e)(he:jz TT e=some te)(hv:Bq fr ps=some lC)(jp:Nat.ble (len * te.size) 16777216=true)(mM:Nat.blt 0 len=true)(hp:lC.all (λx=>Nat.blt x.1 len)=true)
  (hb:yb (zD te.size 0 len) (List.replicate len te.J).flatten lC=some vs) (k:∀ β s',Le D s s'->iy s' β 0 vs->R (.slice (jZ β) len len) s'):JE P TT D n ops Q' i d fr L s R:=λhT a hr ho=>by
 obtain ⟨h1,h2,h3⟩:=qB ho (cb vs e);obtain ⟨d1,d2,d3⟩:=tI (A:=[(s.heap.size,cb vs e)]) (B:=L) h2;refine YH (s':=fill [(s.heap.size,cb vs e)] (s.alloc (mJ D))) hi (λhT _ dst iL af g ρ hρ=>⟨?_,d2⟩) (h3.trans d3) (k _ _ (h3.trans d3) (Kf h2)) hT a hr ho;exact Pm
def qJ7{t:Nat}{R:Value->Hl->World->Prop}(rO:ops[i0]?=some ⟨none,.store t x y,ty,iL,af,none⟩)(i:Nat)(rG:iz)(hx:lk fr x=some (.pointer (some ⟨b,off,none⟩)))(hy:lk fr y=some v)(hi:L[i]?=some (b,cb zs t'))(ht:jz TT t=some ti)
  (hl:(nN v).length=ti.size) (j9:Nat.ble (off+ti.size) zs.length=true) (h1:(nN v).all (·.oneCell')=true) (hs:pk zs off (nN v)=rG) (hL:lV L i (cb rG t')=L') (hR:∀ v,R v L' s):JL P TT D n ops Q' i0 none fr L s R:=by
 subst hL;exact qJ6 rO (Pq i rG hx hy hi ht hl j9 h1 hs) (Le.refl _) hR
end
def PA(l:List Oper)(i j:Nat):Bool:=match l[i]? with
 | some o=>o.after.any λe=>Region.binds .any e && e.on == j
 | none=>false
def Q0(l:List Oper)(ds:List Nat)(m:Nat):Bool:=(List.range m).all λi=>(match l[i]? with|some o=>o.dst == ds[i]? && o.guard.isNone|none=>false)
def qLQ(l:List Oper):Bool:=(List.range l.length).all λi=>(match l[i]? with|some o=>o.after.all λe=>!Region.binds .any e || decide (e.on < i)|none=>true)
def qHD(l:List Oper)(m:Nat):Bool:=(List.range m).all λj=>(List.range (m+1)).any λi=>decide (j < i) && PA l i j
def QZ(l:List Oper)(dp:List (List Nat))(m:Nat):Bool:=(List.range m).all λi=>(dp.getD i []).all λj=>decide (j < m) && PA l i j
def qHW(fr:Fr)(ds:List Nat)(n:Nat):Bool:=ds.all λd=>(kQ fr d).isNone && Nat.blt d n
def EF(Φ:Nat->Value->World->Prop)(ds:List Nat)(s:World)(K:Fr->Prop):List Nat->Fr->Prop
 | [],fr=>K fr
 | j::r,fr=>∀ u,Φ j u s->EF Φ ds s K r ((ds.getD j 0,u)::fr)
inductive xd where
 | eq (v:Value)
 | row (len:Nat) (vs:iz)
 | of (P:Value->World->Prop) (h:∀ D v s s',P v s->Le D s s'->P v s')
def xd.holds:xd->Value->World->Prop
 | .eq u,v,_=>v=u
 | .row len vs,v,s=>∃ b,v=.slice (jZ b) len len/\iy s b 0 vs
 | .of P _,v,s=>P v s
def xd.le(fs:List xd)(i:Nat)(v:Value)(s s':World)(h:(fs.getD i (.eq undef)).holds v s)(hl:Le D s s'):(fs.getD i (.eq undef)).holds v s':=by
 generalize fs.getD i (.eq undef)=f at h ⊢;cases f with
 | eq u=>exact h
 | row len vs=>obtain ⟨b,h1,h2⟩:=h;exact ⟨b,h1,h2.le hl⟩
 | of P h2=>exact h2 _ _ _ _ h hl
def sC(p:Nat->Prop):Nat->Prop
 | 0=>True
 | m+1=>sC p m/\p m
def sC.get{p:Nat->Prop}{m:Nat}(h:sC p m):∀ i,i < m->p i:=by
 induction m with
 | zero=>intro i hi;omega
 | succ m ih=>
  intro i hi;rcases gB.1 hi with h1|rfl
  . exact ih h.1 i h1
  . exact h.2
def qoZ{ops:Array Oper}{Q:Exit->Act->World->Prop}{o:Oper}{K K':Act->World->Prop}(h:∀ a w,K a w->K' a w)
    (hh:if Region.wanted o (yielded ops a.tmps) then o.wp P a w K Q\/(o.asks P a w/\LetsOut Q) else K (a.put o.dst undef) w):if Region.wanted o (yielded ops a.tmps) then o.wp P a w K' Q\/(o.asks P a w/\LetsOut Q) else K' (a.put o.dst undef) w:=by
  by_cases hw:Region.wanted o (yielded ops a.tmps)=true
  . simp only [hw,bV] at hh ⊢
    exact hh.imp (Oper.wp_mono h) id
  . simp only [hw] at hh ⊢
    exact h _ _ hh
section
variable{TT:kD}{fr:Fr}
def jr.more(hr:jr n a fr){u:Value}(h1:d < n)(h2:a.tmps[d]?=some u):jr n a ((d,u)::fr):=by
  refine ⟨hr.size,hr.defers,λt ht v hv=>?_,λt v hv=>?_⟩
  . rw [vW] at hv
    split at hv
    . rename_i he;subst he;simp at hv;subst hv;exact h2
    . exact hr.slot t ht v hv
  . rw [vW] at hv
    split at hv
    . rename_i he;subst he;exact h1
    . exact hr.ah t v hv
def EF.apply{Φ:Nat->Value->World->Prop}{K:Fr->Prop}(hr:jr n a fr)(h:EF Φ ds s K js fr)(hj:∀ j∈js,ds.getD j 0 < n/\∃ v,a.tmps[ds.getD j 0]?=some v/\Φ j v s):∃ jN,jr n a jN/\K jN:=by
 induction js generalizing fr with
 | nil=>exact ⟨fr,hr,h⟩
 | cons j r ih=>
  obtain ⟨h1,v,h2,h3⟩:=hj j Mc;exact ih (hr.more h1 h2) (h v h3) λx hx=>hj x (an _ hx)
def qlr{l:List Oper}(h:PA l i j=true):∃ o,l[i]?=some o/\∃ e∈o.after,Region.binds .any e=true/\e.on=j:=by
  unfold PA at h;split at h
  . rename_i o ho
    rw [Array.any_eq_true] at h;obtain ⟨k,hk,h1⟩:=h;simp only [aA,fl] at h1;exact ⟨o,ho,o.after[k],Array.getElem_mem hk,h1.1,h1.2⟩
  . cases h
def jr.putF(h:jr n a fr){d:Option Nat}(hd:∀ x,d=some x->x < n/\kQ fr x=none):jr n (a.put d v) fr:=by
 cases d with
 | none=>exact h
 | some d=>
  obtain ⟨h1,h2⟩:=hd d rfl;have jp:=h.size;refine ⟨by simp [Act.put,jp],by simp [Act.put,h.defers],λt ht2 u o4=>?_,h.ah⟩;have mL:d≠t:=by intro e;rw [e] at h2;rw [h2] at o4;cases o4
  simp only [Act.put,bW mL];exact h.slot t ht2 u o4
def qob(h:ds.Nodup)(hi:i < ds.length)(hj:j < ds.length)(e:ds.getD i 0=ds.getD j 0):i=j:=by
 simp only [List.getD,ap hi,ap hj,dY] at e;exact (List.getElem_inj h).1 e
def qoB(hd:ds.Nodup){Φ:Nat->Value->World->Prop}(hi:i < ds.length)(hn:ds.getD i 0 < a.tmps.size)(hΦ:Φ i v s')(hj:j < ds.length)(h:j≠i->∃ u,a.tmps[ds.getD j 0]?=some u/\Φ j u s'):∃ u,(a.put (some (ds.getD i 0)) v).tmps[ds.getD j 0]?=some u/\Φ j u s':=by
  by_cases hji:j=i
  . subst hji
    refine ⟨v,?_,hΦ⟩;generalize ds.getD j 0=dd at hn ⊢;simp [Act.put,hn]
  . obtain ⟨u,k1,k2⟩:=h hji
    have mL:ds.getD i 0≠ds.getD j 0:=λe=>hji (qob hd hj hi e.symm);exact ⟨u,by simp only [Act.put,bW mL];exact k1,k2⟩
def Rp(dp:List (List Nat))(m:Nat):Bool:=(List.range (m+1)).all λi=>(dp.getD i []).all λj=>decide (j < i)
def Jy(l:List Oper)(m z tz:Nat):Bool:=Nat.ble m z || match l[z]? with
 | some ⟨some _,.alloc t,_,_,_,none⟩=>t == tz
 | _=>false
def SX(b:Bool)(l:List Oper)(fr:Fr)(ds:List Nat)(dp:List (List Nat))(dl:Option Nat)(m z tz n:Nat):Bool:=
 l.length == m+1 && (ds.length == m && (Q0 l ds m && (qHW fr (ds++dl.toList) n && (decide (ds++dl.toList).Nodup && (Rp dp m && (Jy l m z tz && ((b || Nat.ble m z) && (!b || (qLQ l && (qHD l m && (QZ l dp m && (Region.ready .any l.toArray ((Array.replicate m true).push false) == [m] && Region.ready .any l.toArray (((Array.replicate m true).push false).setIfInBounds m true) == []))))))))))))
def qyO{id:Nat}{b:Bool}{l:List Oper}(hm:P.follows .mixedOrders=true)(m z tz:Nat)(zs:iz)(ds:List Nat)(dp:List (List Nat))(dl:Option Nat)(hB:SX b l fr ds dp dl m z tz n=true)(I:World->Prop)(hI:∀ s',Le D s s'->I s')
    {Φ:Nat->Value->World->Prop} (mono:∀ i v s s',Φ i v s->Le D s s'->Φ i v s') (hz:z < m->(∃ ti,jz TT tz=some ti/\ti.J=zs)/\∀ v s,Φ z v s)
    (obl0:sC (λi=>i≠z->∀ Q' s' L',Le D s s'->I s'->(L'=L\/z < m/\∃ β,L'=(β,cb zs tz)::L)->EF Φ ds s' (λjN=>JE P TT D n l.toArray Q' i (ds.getD i 0) jN L' s' (Φ i)) (dp.getD i []) fr) m)
    (R:Fr->Hl->World->Prop) (hR:∀ si L' s',(si=fr\/z < m/\∃ β,si=(ds.getD z 0,iT β)::fr)->Le D s s'->R si L' s'->Q .normal si L' s')
    (last:∀ Q' s' L' si,Le D s s'->I s'->(¬ z < m/\si=fr/\L'=L\/z < m/\∃ β,si=(ds.getD z 0,iT β)::fr/\L'=(β,cb zs tz)::L)->EF Φ ds s' (λjN=>JL P TT D n l.toArray Q' m dl jN L' s' λ_=>R si) (dp.getD m []) si) :
    JC P TT D n Q (.region id l.toArray b) fr L s:=by
  simp only [SX,aA,fl,aH] at hB;obtain ⟨hN,h7,h1,h5,h6,hord,hal,hbz,hb⟩:=hB;have obl:=obl0.get;have h6':ds.Nodup:=(bI.1 h6).1;have hfree:∀ d∈ds++dl.toList,d < n/\kQ fr d=none:=λd hd=>by
    have:=bU.1 h5 _ hd;simp only [aA,bD] at this;exact ⟨bE this.2,this.1⟩
  have hdlt:∀ i,i < m->ds.getD i 0 < n/\kQ fr (ds.getD i 0)=none:=λi hi=>
    hfree _ (aI _ (by simp [List.getD,show i < ds.length by omega]))
  have hput:∀ {a:Act} {i:Nat} {v:Value},jr n a fr->i < m->jr n (a.put (some (ds.getD i 0)) v) fr:=λh hi=>h.putF λx hx=>by
    injection hx with hx;subst hx;exact hdlt _ hi
  have hputl:∀ {a:Act} {v:Value},jr n a fr->jr n (a.put dl v) fr:=λh=>h.putF λx hx=>hfree x (aF _ (by simp [hx]));have hdep:∀ i,i < m+1->∀ j∈dp.getD i [],j < i:=λi hi j hj=>by
    have:=bU.1 (bU.1 hord i (dt.2 hi)) j hj;simpa using this
  cases b with
  | false=>
    have hmz:¬ z < m:=by have:=bE (by simpa using hbz);omega
    refine To λht a0 hr0 ho0=>?_;have key:∀ k i,i+k=m->∀ (a:Act) (s':World),jr n a fr->jQ D L s'->Le D s s'->(∀ j,j < i->∃ v,a.tmps[ds.getD j 0]?=some v/\Φ j v s')->wpList P l.toArray (y0 D n Q) (l.drop i) a (fill L s'):=by
      intro k;induction k with
      | zero=>
        intro i hi a s' oU ho j9 hfact;obtain rfl:i=m:=O
        obtain ⟨jN,hf',hJ⟩:=(last (y0 D n Q) s' L fr j9 (hI s' j9) (.inl ⟨hmz,rfl,rfl⟩)).apply oU (a:=a) (λj hj=>⟨(hdlt j (hdep i O j hj)).1,hfact j (hdep i O j hj)⟩);have h:=hJ ht a hf' ho;rw [aM (show i < l.length by omega),dV O];simp only [wpOp,eA,ap (show i < l.length by omega)] at h;simp only [wpList];refine qoZ ?_ h;rintro a' w' ⟨v,L2,s2,rfl,rfl,nj,qX,hq⟩;exact ⟨fr,L2,s2,hputl oU,nj,rfl,hR _ _ _ (.inl rfl) (j9.trans qX) hq⟩
      | succ k ih=>
        intro i hi a s' oU ho j9 hfact;obtain ⟨jN,hf',hJ⟩:=(obl i O O (y0 D n Q) s' L j9 (hI s' j9) (.inl rfl)).apply oU (a:=a) (λj hj=>⟨(hdlt j (by have:=hdep i O j hj;omega)).1,hfact j (hdep i O j hj)⟩);have h:=hJ ht a hf' ho;rw [aM (show i < l.length by omega)];simp only [wpOp,eA,ap (show i < l.length by omega)] at h;simp only [wpList];refine qoZ ?_ h;rintro a' w' ⟨v,L2,s2,rfl,rfl,nj,qX,rfl,hq⟩;exact ih (i+1) O _ s2 (hput oU O) nj (j9.trans qX) λj hj=>qoB h6' O (by rw [oU.size];exact (hdlt i O).1) hq O λmL=>by
          obtain ⟨u,k1,k2⟩:=hfact j O;exact ⟨u,k1,mono _ _ _ _ k2 qX⟩
    exact key m 0 O a0 s hr0 ho0 (Le.refl _) λj hj=>O
  | true=>
    simp only [Bool.not_true,ep,aA,fl] at hb;obtain ⟨h2,h3,h4,h9,jG⟩:=hb;intro ht a0 hr0 ho0;have key:∀ (N:Nat) (todo:List Nat) (iC:Array Bool) (a:Act) (s':World) (L':Hl),todo.length=N->todo.Nodup->(∀ i,i∈todo↔i < m/\iC.getD i true=false)->iC.size=m+1->iC.getD m true=false ->
        (∀ i o,l[i]?=some o->i < m->iC.getD i true=true->∀ e∈o.after,Region.binds .any e=true->iC.getD e.on false=true) ->
        jr n a fr->jQ D L' s'->Le D s s'->(∀ i,i < m->iC.getD i true=true->∃ v,a.tmps[ds.getD i 0]?=some v/\Φ i v s')->(iC.getD z false=false/\L'=L\/z < m/\iC.getD z false=true/\∃ β,L'=(β,cb zs tz)::L/\a.tmps[ds.getD z 0]?=some (iT β))->wpAny P .any l.toArray (C7 D n Q) (N+1) iC a (fill L' s'):=by
      intro N;induction N with
      | zero=>
        intro todo iC a s' L' iK _ pv jp hlast yk oU ho j9 hfact hL;have hnil:todo=[]:=aJ iK;subst hnil;have rh:∀ i,i < m->iC.getD i true=true:=λi hi=>by
          cases hb:iC.getD i true with
          | true=>rfl
          | false=>exact absurd ((pv i).2 ⟨hi,hb⟩) Ξ
        have hl:iC=(Array.replicate m true).push false:=by
          apply Array.ext
          . simp [jp]
          . intro i hi hi'
            rw [Array.getElem_push];have hg:iC.getD i true=iC[i]:=by simp [hi]
            split
            . rename_i kZ
              simp at kZ;rw [Array.getElem_replicate,<- hg,rh i kZ]
            . rename_i hge
              simp at hge;have:i=m:=O
              subst this;rw [<- hg,hlast]
        subst hl;have hfr1:∃ si,jr n a si/\(∀ {v:Value},jr n (a.put dl v) si)/\(¬ z < m/\si=fr/\L'=L\/z < m/\∃ β,si=(ds.getD z 0,iT β)::fr/\L'=(β,cb zs tz)::L):=by
          rcases hL with ⟨q1,q2⟩|⟨q1,_,β,q2,q3⟩
          . refine ⟨fr,oU,hputl oU,.inl ⟨λq=>?_,Z,q2⟩⟩
            have:=rh z q;simp [show z < m+1 by omega] at q1 this;rw [q1] at this;cases this
          . have nT:=oU.more (hdlt z q1).1 q3
            refine ⟨_,nT,λ{v}=>nT.putF λx hx=>?_,.inr ⟨q1,β,Z,q2⟩⟩;have hf:=hfree x (aF _ (by simp [hx]));refine ⟨hf.1,?_⟩;rw [vW,ak,hf.2];intro e;have oW:=h6;rw [bI] at oW;exact oW.2.2 _ (by simp [List.getD,show z < ds.length by omega]) _ (by simp [hx]) e
        obtain ⟨si,hf1,hf2,hcase⟩:=hfr1;obtain ⟨jN,hf',hJ⟩:=(last (C7 D n Q) s' L' si j9 (hI s' j9) hcase).apply hf1 (a:=a) (λj hj=>by
          have hj':=hdep m O j hj;exact ⟨(hdlt j hj').1,hfact j hj' (rh j hj')⟩)
        refine ⟨λh0=>absurd (h9▸h0) Ξ,λi hi=>?_⟩;obtain rfl:i=m:=by rw [h9] at hi;simpa using hi
        refine wpOp_mono ?_ (hJ ht a hf' ho);rintro a' w' ⟨v,L2,s2,rfl,rfl,nj,qX,hq⟩;exact ⟨jG,si,L2,s2,hf2,nj,rfl,hR _ _ _ (hcase.imp (·.2.1) λ⟨q1,β,q2,_⟩=>⟨q1,β,q2⟩) (j9.trans qX) hq⟩
      | succ N ih=>
        intro todo iC a s' L' iK kO pv jp hlast yk oU ho j9 hfact hL;refine ⟨λhready=>?_,λi hi=>?_⟩
        .
          exfalso;have hex:∃ i,i < m/\iC.getD i true=false:=by
            cases todo with
            | nil=>simp at iK
            | cons x r=>exact ⟨x,(pv x).1 Mc⟩
          have hleast:∃ i,(i < m/\iC.getD i true=false)/\∀ j,j < i->¬ (j < m/\iC.getD j true=false):=by
            obtain ⟨i,hi⟩:=hex;induction i using Nat.strongRecOn with
            | ind i ihi=>
              by_cases hx:∃ j,j < i/\(j < m/\iC.getD j true=false)
              . obtain ⟨j,hj1,hj2⟩:=hx
                exact ihi j hj1 hj2
              . exact ⟨i,hi,λj hj hj2=>hx ⟨j,hj,hj2⟩⟩
          obtain ⟨i,⟨hi1,xH⟩,hi3⟩:=hleast;have kZ:i < l.length:=O
          have sL:i∈Region.ready .any l.toArray iC:=by
            rw [mem_ready];refine ⟨xH,l[i],by simp [kZ],λe he hb=>?_⟩;have ht2:=bU.1 h2 i (dt.2 kZ);simp only [ap kZ] at ht2;rw [Array.all_eq_true_iff_forall_mem] at ht2;have:=ht2 e he;simp only [hb,Bool.not_true,ep,aH] at this;have hn:=hi3 e.on this;have nT:e.on < m:=O
            have h8:iC.getD e.on true=true:=by
              cases hc:iC.getD e.on true with
              | true=>rfl
              | false=>exact absurd ⟨nT,hc⟩ hn
            have h9:e.on < iC.size:=O
            simp only [Array.getD,h9,fS] at h8 ⊢;exact h8
          rw [hready] at sL;cases sL
        . have hi':=hi
          rw [mem_ready] at hi;obtain ⟨hu,o,ho1,rh⟩:=hi;have zh:l[i]?=some o:=by simpa using ho1
          have hilen:i < l.length:=(al.1 zh).1;have him:i≠m:=by
            intro e;subst e

            have hmax:∀ k,∀ j,j < i->i - j<=k->iC.getD j true=true:=by
              intro k;induction k with
              | zero=>intro j hj hk;omega
              | succ k ihk=>
                intro j hj hk;have hcv:=bU.1 h3 j (dt.2 hj);rw [fq] at hcv;obtain ⟨i2,xH,hc⟩:=hcv;simp only [aA,aH] at hc;obtain ⟨o2,nj,e,he,hb,hon⟩:=qlr hc.2;have hi2':=dt.1 xH;have hgot:iC.getD e.on false=true:=by
                  by_cases hlastone:i2=i
                  . subst hlastone
                    rw [zh] at nj;injection nj with nj;subst nj
                    exact rh e he hb
                  . exact yk i2 o2 nj O (ihk i2 O O) e he hb
                rw [hon] at hgot;have h9:j < iC.size:=O
                simp only [Array.getD,h9,fS] at hgot ⊢;exact hgot
            cases todo with
            | nil=>simp at iK
            | cons x r=>
              have hx:=(pv x).1 Mc;have:=hmax i x hx.1 O;rw [hx.2] at this;cases this
          have hilt:i < m:=O
          have hdeps:∀ j∈dp.getD i [],j < m/\iC.getD j true=true:=λj hj=>by
            have hd:=bU.1 h4 i (dt.2 hilt);have yl:=bU.1 hd j hj;simp only [aA,aH] at yl;obtain ⟨o2,nj,e,he,hb,hon⟩:=qlr yl.2;rw [zh] at nj;injection nj with nj;subst nj
            have hgot:=rh e he hb;rw [hon] at hgot;have h9:j < iC.size:=O
            simp only [Array.getD,h9,fS] at hgot ⊢;exact ⟨yl.1,hgot⟩
          have goon:∀ v L2 s2,jQ D L2 s2->Le D s' s2->Φ i v s2->(iC.getD z false=false/\i≠z/\L2=L\/z < m/\(iC.getD z false=true/\i≠z\/i=z)/\∃ β,L2=(β,cb zs tz)::L/\((a.put (some (ds.getD i 0)) v).tmps)[ds.getD z 0]?=some (iT β))->wpAny P .any l.toArray (C7 D n Q) (N+1) (iC.setIfInBounds i true) (a.put (some (ds.getD i 0)) v) (fill L2 s2):=by
            intro v L2 s2 nj qK hΦ hL2;refine ih (todo.erase i) _ _ s2 L2 (by rw [List.length_erase_of_mem ((pv i).2 ⟨hilt,hu⟩)];omega) (kO.erase i) (λj=>?_) (by simpa using jp) ?_ ?_ (hput oU hilt) nj (j9.trans qK) ?_ ?_
            . rw [kO.mem_erase_iff,pv j]
              by_cases hj:j=i
              . subst hj;simp [show j < iC.size by omega]
              . rw [fC true (λe=>hj e.symm)];simp [hj]
            . rw [fC true him];exact hlast
            . intro j oj hoj hjm hlj e he hb
              by_cases hj:j=i
              . subst hj
                rw [zh] at hoj;injection hoj with hoj;subst hoj
                exact getD_set_true (rh e he hb)
              . rw [fC true (λe=>hj e.symm)] at hlj
                exact getD_set_true (yk j oj hoj hjm hlj e he hb)
            . intro j hjm hlj
              refine qoB h6' O (by rw [oU.size];exact (hdlt i hilt).1) hΦ O λhj=>?_;rw [fC true (λe=>hj e.symm)] at hlj;obtain ⟨u,k1,k2⟩:=hfact j hjm hlj;exact ⟨u,k1,mono _ _ _ _ k2 qK⟩
            . rcases hL2 with ⟨q1,q2,q3⟩|⟨q1,q2|rfl,q3⟩
              . exact .inl ⟨by rw [fC false q2];exact q1,q3⟩
              . exact .inr ⟨q1,by rw [fC false q2.2];exact q2.1,q3⟩
              . exact .inr ⟨q1,by simp [show i < iC.size by omega],q3⟩
          by_cases hiz:i=z
          . subst hiz
            have hLL:L'=L:=by
              rcases hL with ⟨_,q⟩|⟨_,q,_⟩
              . exact q
              . have h9:i < iC.size:=O
                simp only [Array.getD,h9,fS] at hu q;rw [hu] at q;cases q
            subst hLL;obtain ⟨⟨ti,ht1,ht2⟩,hzΦ⟩:=hz hilt;simp only [Jy,zh,db] at hal;rcases hal with hal|hal
            . have:=bE hal;omega
            . split at hal
              . rename_i o2 d2 t2 ty2 pos2 af2 heq
                simp only [cZ] at heq;subst heq;have yl:d2=ds.getD i 0:=by
                  have:=bU.1 h1 i (dt.2 hilt);simp only [zh,aA,fl] at this;simp [List.getD,<- this.1]
                subst yl;obtain rfl:t2=tz:=by simpa using hal
                refine wpOp_mono ?_ (YI (TT:=TT) (n:=n) (fr:=fr) (R:=λv L2 s2=>∃ β,v=iT β/\L2=(β,cb zs t2)::L') (ops:=l.toArray) (i:=i) (by simpa using zh) (Oc ht1 ho) (qB ho (cb ti.J t2)).2.2 ⟨_,Z,by rw [ht2]⟩ ht a oU ho);rintro a' w' ⟨v,L2,s2,rfl,rfl,nj,qK,β,rfl,rfl⟩;refine goon _ _ _ nj qK (hzΦ _ _) (.inr ⟨hilt,.inr Z,β,Z,?_⟩);have l7:=(hdlt i hilt).1;have hsz2:=oU.size;generalize ds.getD i 0=dd at l7 ⊢;simp [Act.put,hsz2,l7]
              . cases hal
          . obtain ⟨jN,hf',hJ⟩:=(obl i hilt hiz (C7 D n Q) s' L' j9 (hI s' j9) (hL.imp (·.2) λ⟨q1,_,β,q2,_⟩=>⟨q1,β,q2⟩)).apply oU (a:=a) (λj hj=>⟨(hdlt j (hdeps j hj).1).1,hfact j (hdeps j hj).1 (hdeps j hj).2⟩)
            refine wpOp_mono ?_ (hJ ht a hf' ho);rintro a' w' ⟨v,L2,s2,rfl,rfl,nj,qK,rfl,hΦ⟩;refine goon _ _ _ nj qK hΦ ?_;rcases hL with ⟨q1,q2⟩|⟨q1,q2,β,q3,q4⟩
            . exact .inl ⟨q1,hiz,q2⟩
            . refine .inr ⟨q1,.inl ⟨q2,hiz⟩,β,q3,?_⟩
              have mL:ds.getD i 0≠ds.getD z 0:=λe=>hiz (qob h6' O O e);simp only [Act.put,bW mL];exact q4
    have hstart:=key m (List.range m) (Array.replicate (m+1) false) a0 s.drew L Ξ List.nodup_range (λi=>⟨λh=>⟨dt.1 h,by have:=dt.1 h;simp [show i < m+1 by omega]⟩,λh=>dt.2 h.1⟩) Ξ Ξ (λi o _ him hli=>by simp [show i < m+1 by omega] at hli) hr0 ho0.drew (Le.drew s) (λi him hli=>by simp [show i < m+1 by omega] at hli) (.inl ⟨by simp [Array.getD],rfl⟩);refine eS (wp_region_any (Q:=C7 D n Q) hm ?_) (λe a w hq=>by
      cases e with
      | panic ch=>obtain ⟨h1,L1,s1,h2,h3,h4⟩:=hq;exact ⟨[],L1,s1,h1,h2,h3,h4 []⟩
      | _=>exact hq)
    rw [<- qlq] at hstart;simpa [hN] using hstart
end
structure yS(P:Program)(w:World)(t u ty e:Nat)(i:TypeInfo)(z:Value)(y:Value)(m:Nat)(news:iz):Prop where
 none:m=0->(Builtin.append_ #[t,u] ty #[.slice none 0 0,y]).run P w=.ok (.slice none 0 0) w
 nil:0 < m->m<=9223372036854775807->m * i.bytes<=140737488355328->(Builtin.append_ #[t,u] ty #[.slice .none 0 0,y]).run P w=.ok (.slice (some ⟨w.heap.size,0,.none⟩) m (grownCap w m 0 e)) (w.drew.alloc (.cells (news.toArray++Builtin.zeroCells z.cells (grownCap w m 0 e - m)) e))
 room:∀ g tf sCap (lI:Array Value),w.heap[g]?=some (.cells lI e (0,0))->tf+m<=sCap->tf * i.size+news.length<=lI.size->(Builtin.append_ #[t,u] ty #[.slice (some ⟨g,0,.none⟩) tf sCap,y]).run P w=.ok (.slice (some ⟨g,0,.none⟩) (tf+m) sCap) (w.setRow g (lI.toList.take (tf * i.size)++news++lI.toList.drop (tf * i.size+news.length)).toArray)
 grow:∀ g n cap (xs:iz),xs.length=n * i.size->(∀ j v,xs[j]?=some v->w.cell? ((⟨g,0,.none⟩:Addr).add j)=some v)->cap < n+m->n+m<=9223372036854775807->(n+m) * i.bytes<=140737488355328 ->
  (Builtin.append_ #[t,u] ty #[.slice (some ⟨g,0,.none⟩) n cap,y]).run P w=.ok (.slice (some ⟨w.heap.size,0,.none⟩) (n+m) (grownCap w (n+m) cap e)) (w.drew.alloc (.cells (xs.toArray++news.toArray++Builtin.zeroCells z.cells (grownCap w (n+m) cap e - (n+m))) e))
def qwl{t u:Nat}{i:TypeInfo}{y:Value}{m size bytes:Nat}(hS:yS P w t u ty e i z y m news)(hsize:i.size=size)(hby:i.bytes=bytes)(hzs:z.cells.size=size)
    (v:Value) (n:Nat) (xs:iz) (pw:w.ownsRow 0 e size v n xs) (hl:news.length=m * size) (rK:n+m<=maxLen) (hbytes:(n+m) * bytes<=140737488355328) :
    ∃ v' w',(Builtin.append_ #[t,u] ty #[v,y]).run P w=.ok v' w'/\w'.ownsRow 0 e size v' (n+m) (xs++news)/\w.grownBy w' v.ownBlock/\(v'.ownBlock=v.ownBlock\/v'.ownBlock=some w.heap.size)/\(v=.slice none 0 0->m=0->v'=.slice none 0 0):=by
  subst hsize;subst hby;have hsmall:n+m<=9223372036854775807:=by simp only [maxLen] at rK;omega
  have iK:(xs++news).length=(n+m) * i.size:=by rw [ac,pw.1,hl,iq]
  have grown:∀ (old:Nat),old < n+m->∀ (row:Option Nat),
      (w.drew.alloc (.cells (xs.toArray++news.toArray++Builtin.zeroCells z.cells (grownCap w (n+m) old e - (n+m))) e)).ownsRow 0 e i.size
        (.slice (some ⟨w.heap.size,0,none⟩) (n+m) (grownCap w (n+m) old e)) (n+m) (xs++news) /\
      w.grownBy (w.drew.alloc (.cells (xs.toArray++news.toArray++Builtin.zeroCells z.cells (grownCap w (n+m) old e - (n+m))) e)) row:=by
    intro old ho row;have hge:=grownCap_ge w (n+m) old e;have hcm:grownCap w (n+m) old e<=maxLen:=grownCap_le_maxLen w (n+m) old e rK;refine ⟨⟨iK,.inr ⟨w.heap.size,_,_,Z,aB _,fW w.drew _,hge,hcm,?_,?_⟩⟩,⟨Z,Z,Z,Ξ,λk hk _=>by show (w.heap.push _)[k]?=w.heap[k]?;rw [Array.getElem?_push,ak (Nat.ne_of_lt hk)]⟩⟩
    . simp only [Array.size_append,eC,size_zeroCells,hzs,pw.1,hl,<- iq]
      congr 1;omega
    . simp only [Array.toList_append,am]
      rw [<- am,<- iK];exact List.take_left
  rcases pw.2 with ⟨rfl,rfl⟩|⟨g,cap,lI,rfl,hbg,hg,rz,hcm,tW,htake⟩
  . have hx:xs=[]:=aJ (by simpa using pw.1)
    subst hx;by_cases hm:m=0
    . have hn:news=[]:=aJ (by rw [hl,hm];simp)
      refine ⟨.slice none 0 0,w,hS.none hm,?_,⟨Z,Z,Z,ay _,λ_ _ _=>rfl⟩,Or.inl Z,λ_ _=>rfl⟩;rw [hn,hm];exact World.ownsRow_nil w 0 e i.size
    . have hr:=hS.nil O O (by have hb:=hbytes;simp only [aX] at hb;exact hb)
      have vQ:=grown 0 O (Value.ownBlock (.slice none 0 0));simp only [aX,aC,Array.empty_append] at vQ ⊢;exact ⟨_,_,hr,vQ.1,vQ.2,Or.inr rfl,λ_ h=>absurd h hm⟩
  . by_cases hroom:n+m<=cap
    . have hfit:n * i.size+news.length<=lI.size:=by rw [hl,tW,<- iq];exact Nat.mul_le_mul_right _ hroom
      have hr:=hS.room g n cap lI hg hroom hfit;refine ⟨_,_,hr,⟨iK,.inr ⟨g,cap,_,Z,hbg,setRow_heap w g lI _ e _ hg,hroom,hcm,?_,?_⟩⟩,⟨Z,Z,Z,Ξ,λk _ hk=>setRow_other w g k _ (λe=>hk (by simp [Value.ownBlock,e]))⟩,Or.inl Z,λh=>by cases h⟩
      . simp only [eC,ac,cY,gC,fO]
        omega
      . rw [htake,<- iK]
        exact List.take_left
    . have holds:∀ j u,xs[j]?=some u->w.cell? ((⟨g,0,none⟩:Addr).add j)=some u:=pw.cells (g:=g) rfl
      have hr:=hS.grow g n cap xs pw.1 holds O hsmall hbytes;have vQ:=grown cap O (Value.ownBlock (.slice (jZ g) n cap));exact ⟨_,_,hr,vQ.1,vQ.2,Or.inr rfl,λh=>by cases h⟩
section
variable{TT:kD}{fr:Fr}{K:Hl}{ops:Array Oper}{op:Op}
def qqa{t u m sz:Nat}(B A L0:Hl)(hT:jV P TT)(hx:lk fr x=some v)(hy:lk fr y=some yv)(ht:jz TT t=some ti)(hk:ti.kind=.sl e)(he:jz TT e=some te)(jp:te.size=sz)
  (hO:Own e sz A v k xs) (hl:news.length=m * sz) (hS:∀ w i,P.underlying t=some (.slice e)->P.info? e=some i->i.size=te.size->i.bytes=te.bytes->i.zero=some te.zero->yS P w t u ty e i te.zero yv m news) (rK:(k+m) * te.bytes<=140737488355328/\k+m<=9223372036854775807) (ho:jQ D (B++(A++L0)) s) :
  ∃ v' A' s',Ev P TT D fr (.call { callee:=.builtin .append,args:=#[x,y],argTypes:=#[t,u] }) ty (B++(A++L0)) s (.value v') (B++(A'++L0)) s'/\Le D s s'/\Own e sz A' v' (k+m) (xs++news)/\(v=.slice none 0 0->m=0->v'=.slice none 0 0):=by
 obtain ⟨k1,k2,_⟩:=hT.at_ ht;rw [hk] at k2;simp only [TK.fits] at k2;rw [k2] at k1;have pJ:=hT.at_ he;obtain ⟨i,i1,i2,i3,i4⟩:=Cc pJ;have hzs:te.zero.cells.size=te.size:=by rw [E9 pJ];simpa using pJ.2.2.2.1
 have sL:∀ x∈A,(fill (B++(A++L0)) s).heap[x.1]?=some x.2:=λx hx=>qM ho (mN.2 (.inr (.inl hx)));obtain ⟨v',w',jH,hown',vQ,hat,kL⟩:=qwl (hS (fill (B++(A++L0)) s) i k1 i1 i2 i3 i4) (i2.trans jp) i3 (by rw [hzs,jp]) v k xs (hO.owns sL) hl (by simpa [maxLen] using rK.2) rK.1;obtain ⟨A',hO',hA'⟩:=Own.of_owns hown';rw [oB] at hat;obtain ⟨r1,r2,r3⟩:=qzM (D:=D) ho hO hO' hA' vQ hat;refine ⟨v',A',rE D (B++(A'++L0)) w',λhT ho dst iL af g ρ hρ=>⟨?_,r2⟩,r3,hO',kL⟩;exact Sy
def qqj{t u m sz:Nat}(B A L0:Hl)(hL:L=B++(A++L0))(hx:lk fr x=some v)(hy:lk fr y=some yv)(ht:jz TT t=some ti)(hk:ti.kind=.sl e)(he:jz TT e=some te)(jp:te.size=sz)
  (hO:Own e sz A v k xs) (hl:news.length=m * sz) (hS:jV P TT->∀ w i,P.underlying t=some (.slice e)->P.info? e=some i->i.size=te.size->i.bytes=te.bytes->i.zero=some te.zero->yS P w t u ty e i te.zero yv m news) (rK:(k+m) * te.bytes<=140737488355328/\k+m<=9223372036854775807) (hd:Nat.blt d n=true)
  (kk:∀ v' A' s',Le D s s'->Own e sz A' v' (k+m) (xs++news)->(v=.slice none 0 0->m=0->v'=.slice none 0 0)->JO P TT D n ops Q iI ((d,v')::fr) (B++(A'++L0)) s') :
  JO P TT D n ops Q (⟨some d,.call { callee:=.builtin .append,args:=#[x,y],argTypes:=#[t,u] },ty,iL,af,none⟩::iI) fr L s:=λhT a hr ho=>by
 subst hL;obtain ⟨v',A',s',h1,h2,h3,h4⟩:=qqa (ty:=ty) B A L0 hT hx hy ht hk he jp hO hl (hS hT) rK ho;exact AH hd h1 (kk v' A' s' h2 h3 h4) hT a hr ho
def qAB{t u m sz:Nat}{g:Option (Nat×Bool)}{iC:Array Bool}(rO:ops[i0]?=some ⟨some d,.call { callee:=.builtin .append,args:=#[x,y],argTypes:=#[t,u] },ty,iL,af,g⟩)(ri:sf ops fr g)
  (B A:Hl){L0:Hl} (hL:L=B++(A++L0)) (hx:lk fr x=some v) (hy:lk fr y=some yv) (ht:jz TT t=some ti) (hk:ti.kind=.sl e) (he:jz TT e=some te) (jp:te.size=sz)
  (hO:Own e sz A v k xs) (hl:news.length=m * sz) (hS:jV P TT->∀ w i,P.underlying t=some (.slice e)->P.info? e=some i->i.size=te.size->i.bytes=te.bytes->i.zero=some te.zero->yS P w t u ty e i te.zero yv m news) (rK:(k+m) * te.bytes<=140737488355328/\k+m<=9223372036854775807) (hd:Nat.blt d n=true) (hK:∀ A',∀ x∈K,x∈B++(A++L0)->x∈B++(A'++L0))
  (kk:∀ v' A' s',Le D s s'->Own e sz A' v' (k+m) (xs++news)->JA P TT D n ops Q K s0 jd (iC.setIfInBounds i0 true) ((d,v')::fr) (B++(A'++L0)) s') :
  JB P TT D n ops Q K s0 jd iC i0 fr L s:=λhT a hr ho hl0 hKL=>by
 subst hL;obtain ⟨v',A',s',h1,h2,h3,h4⟩:=qqa (ty:=ty) B A L0 hT hx hy ht hk he jp hO hl (hS hT) rK ho;exact Cn rO ri h1 h2 (hK A') hd (kk v' A' s' h2 h3) hT a hr ho hl0 hKL
end
def qux{u:Nat}{i:TypeInfo}(l:List UInt8)(ht:P.underlying t=some (.slice e))(hu:P.underlying u=some .string)(hi:P.info? e=some i)(hs:i.size=1)(hb:i.bytes=1)(hz:i.zero=some z):
    yS P w t u ty e i z (St l) l.length (l.map λb=>Value.int .u8 (b.toNat:Int)):=by
  have jp:(⟨l.toArray⟩:ByteArray).size=l.length:=by simp [ByteArray.size]
  have tW:Lib.strCells ⟨l.toArray⟩=l.map λb=>Value.int .u8 (b.toNat:Int):=by simp [Lib.strCells]
  refine ⟨λh0=>?_,λh1 h2 h3=>?_,λg tf sCap lI hg hr hf=>?_,λg n cap xs hl hc hcap rK hby=>?_⟩
  . have hf:=Lib.run_firstCells_string (P:=P) w 1 ⟨l.toArray⟩
    have hl:l=[]:=aJ h0;subst hl;simp [Builtin.append_,aQ ht,aQ hu,sizeOf,typeInfo,hi,hs,Builtin.lenOf,Builtin.firstCells,ByteArray.size]
  . have hr:=run_append_nil_string (P:=P) w t u ty e i z ht hu hi hz ⟨l.toArray⟩ (by rw [jp];exact h1) (by rw [jp];omega) (by rw [jp];exact ea h3 O)
    rw [jp] at hr;have e1:((⟨l.toArray⟩:ByteArray).data.map λb=>Value.int .u8 (b.toNat:Int))=(l.map λb=>Value.int .u8 (b.toNat:Int)).toArray:=by apply Array.ext';simp
    rw [e1] at hr;exact hr
  . have hr':=Lib.run_append_room_string (P:=P) (ty:=ty) w t u e i ht hu hi hs g tf sCap lI hg ⟨l.toArray⟩ (by rw [jp];exact hr) (by rw [jp];simpa [hs] using hf)
    rw [jp,tW] at hr';rw [hs,eK,bB];exact hr'
  . have hr:=Lib.run_append_grow_string (P:=P) (ty:=ty) w t u e i z ht hu hi hz ⟨g,0,none⟩ n cap xs hl hc ⟨l.toArray⟩ (by rw [jp];exact hcap) (by rw [jp];omega) (by rw [jp];exact growslice_fits hcap hby)
    rw [jp,tW] at hr;exact hr
def C_{u:Nat}{i:TypeInfo}(m:Nat)(ht:P.underlying t=some (.slice e))(hu:P.underlying u=some (.int ik))(hi:P.info? e=some i)(hs:i.size=1)(hz:i.zero=some z)(hzc:z.cells=#[z])(h1c:z.oneCell'=true)(hm:m<=9223372036854775807)(hmb:(m:Int) * i.bytes<=281474976710656):
    yS P w t u ty e i z (.int ik (m:Int)) m (List.replicate m z):=by
  have hw:IntKind.i64.wrap (m:Int)=(m:Int):=jq O O;have h0:¬ ((m:Int) < 0):=O
  have hmb':¬ (281474976710656 < (m:Int) * (i.bytes:Int)):=O
  have hzz:Builtin.zeroCells z.cells m=(List.replicate m z).toArray:=by
    rw [hzc];apply Array.ext';simp only [Builtin.zeroCells];apply eN
    . simp
    . intro k h1 h2;simp [Nat.mod_one]
  refine ⟨λh0=>?_,λh1 h2 h3=>?_,λg tf sCap lI hg hr hf=>?_,λg n cap xs hl hc hcap rK hby=>?_⟩
  . subst h0
    have uT:IntKind.i64.wrap 0=0:=hw;simp [Builtin.append_,aQ ht,aQ hu,sizeOf,typeInfo,hi,hs,asInt,asIntOf,uT]
  . have hn:¬ (m=0):=O
    have h63':¬ (9223372036854775807 < (m:Int)):=O
    have h48':¬ (281474976710656 < Builtin.nextslicecap m 0 * i.bytes):=by rw [nextslicecap_zero h1];omega
    simp [Builtin.append_,aQ ht,aQ hu,sizeOf,typeInfo,zeroValue,hi,hz,hs,asInt,asIntOf,hw,h0,hmb',hn,h63',h48',Question.forced,newRow,grownCap,Builtin.firstCells,hzz]
  . have nJ:=run_storeCells_at P g tf e (List.replicate m z) 0 lI w hg (by simpa [hs] using hf) (λu hu=>by rw [(dT.1 hu).2];exact h1c)
    simp only [bC] at nJ;by_cases hm0:m=0
    . subst hm0
      have uT:IntKind.i64.wrap 0=0:=hw;have hr0:tf<=sCap:=hr;simp at nJ;simp [Builtin.append_,aQ ht,aQ hu,sizeOf,typeInfo,zeroValue,hi,hz,hs,asInt,asIntOf,uT,hr0,Addr.add_lit,nJ]
    . simp [Builtin.append_,aQ ht,aQ hu,sizeOf,typeInfo,zeroValue,hi,hz,hs,asInt,asIntOf,hw,h0,hmb',hr,hm0,Addr.add_lit,hzz,nJ]
  . have hn:¬ (n+m<=cap):=O
    have h63':¬ (9223372036854775807 < ((n:Int)+(m:Int))):=O
    have hgs:=growslice_fits hcap hby;have h48':¬ (281474976710656 < Builtin.nextslicecap (n+m) cap * i.bytes):=O
    have hfo:=run_firstCells_some (P:=P) w.drew i.size n ⟨g,0,none⟩ n cap xs hl Q19;by_cases hm0:m=0
    . subst hm0
      rw [hs] at hfo;have uT:IntKind.i64.wrap 0=0:=hw;have hn0:¬ (n<=cap):=hn;have h630:¬ (9223372036854775807 < (n:Int)):=O
      simp [Builtin.append_,aQ ht,aQ hu,sizeOf,typeInfo,zeroValue,hi,hz,hs,asInt,asIntOf,uT,hn0,h630,Question.forced,newRow,grownCap,hfo];try exact λh=>absurd h h48'
    . rw [hs] at hfo
      simp [Builtin.append_,aQ ht,aQ hu,sizeOf,typeInfo,zeroValue,hi,hz,hs,asInt,asIntOf,hw,h0,hmb',hn,hm0,h63',h48',Question.forced,newRow,grownCap,hfo,hzz]
section
variable{TT:kD}{fr:Fr}{K:Hl}{ops:Array Oper}{op:Op}
def lO{a b:List UInt8}(hY:lk fr x=some (St a)/\lk fr y=some (St b))(h:a.length+b.length<=9223372036854775807):QE P TT D fr (.binOp .add t x y t') ty K s0 (St (a++b)):=have ⟨hx,hy⟩:=hY;QE.pure λ_ dst iL af g ρ hρ w=>by
  have h1:¬ (9223372036854775807 < ((a.length:Int)+(b.length:Int))):=O
  have e:(⟨a.toArray⟩:ByteArray)++⟨b.toArray⟩=⟨(a++b).toArray⟩:=by
   apply fu;simp
  simp [execOp,hρ x _ hx,hρ y _ hy,eqGuard,binOp,Op.stringOp,ByteArray.size,h1,e]
def WL(e:Value)(b:Bool):Prop:=(e=.nilIface/\b=true)\/∃ u p,e=.iface u p/\b=false
def qAN{e:Value}{b:Bool}(hu:P.underlying t=some (.interface (P.methodsAt t)))(hx:lk fr x=some e)(hE:WL e b):QE P TT D fr (.binOp .eql t x (.const .nilIface) t') ty K s0 (.bool b):=
 QE.pure λ_ dst iL af g ρ hρ w=>by
  have hc:=hρ (.const .nilIface) _ rfl;rcases hE with ⟨rfl,rfl⟩|⟨u,p,rfl,rfl⟩
  . simp [execOp,hρ x _ hx,hc,eqGuard_nil_constR,run_eql_nil_nil w t hu]
  . simp [execOp,hρ x _ hx,hc,eqGuard,run_eql_held_nil w t u p hu]
end
section
variable{TT:kD}{fr:Fr}
inductive uM(ks:List Nat)(fr:Fr):Fr->Prop
 | refl:uM ks fr fr
 | push {d:Nat} {v:Value} {jN:Fr} (hd:((kQ fr d).isNone || ks.any (Nat.beq d))=true) (h:uM ks fr jN):uM ks fr ((d,v)::jN)
def So{p:Prop}(h:p:=by repeat (first|exact uM.refl|refine uM.push rfl ?_)):p:=h
def uM.at_{fr:Fr}(h:uM ks fr jN)(ht:ks.any (Nat.beq t)=false)(hv:kQ fr t=some v):kQ jN t=some v:=by
 induction h with
 | refl=>exact hv
 | @push d u jN hd _ ih=>
  rw [vW];by_cases he:d=t
  . subst he;rw [hv,ht] at hd;cases hd
  . rw [ak he];exact ih
def qpq{l:Fr}(h:kQ l t=none):(l.map (·.1)).any (Nat.beq t)=false:=by
  induction l with
  | nil=>rfl
  | cons x l ih=>
    obtain ⟨d,v⟩:=x;rw [vW] at h;by_cases he:d=t
    . rw [au he] at h;cases h
    . rw [ak he] at h
      simp only [aN,fw,ih h,Bool.or_false];cases hb:Nat.beq t d with
      | false=>rfl
      | true=>exact absurd (ez hb).symm he
def qIc{new fr:Fr}(h1:iY jN new)(h2:uM (new.map (·.1)) fr jN):iY jN (new++fr):=by
 intro t v h;rw [qlC] at h;cases hn:kQ new t with
 | none=>rw [hn] at h;exact h2.at_ (qpq hn) h
 | some u=>rw [hn] at h;exact h1 t v (by rw [hn];exact h)
def lY{γ:Type}(D:Nat)(s:World)(fr:Fr)(new:γ->Fr)(X:Hl)(H:γ->Hl)(I:γ->World->Prop):Fr->Hl->World->Prop:=λjN L' s'=>∃ g A,Le D s s'/\L'.Perm (A++(X++H g))/\I g s'/\iY jN (new g++fr)
def lY.mk{γ:Type}{new:γ->Fr}{H:γ->Hl}{I:γ->World->Prop}(g:γ)(A:Hl)(hl:Le D s s')(hK:iY jN (new g))(hS:uM ((new g).map (·.1)) fr jN)(hp:L'.Perm (A++(X++H g)))(hI:I g s'):lY D s fr new X H I jN L' s':=⟨g,A,hl,hp,hI,qIc hK hS⟩
def Dw{γ:Type}{x y:Code}(new:γ->Fr)(X:Hl)(_hX:L=X++Y)(H:γ->Hl)(I:γ->World->Prop)(mono:∀ g s s',I g s->Le D s s'->I g s')(h1:JC P TT D n (ma (lY D s fr new X H I) Q) x fr L s)
  (h2:∀ g s',Le D s s'->I g s'->JC P TT D n Q y (new g++fr) (X++H g) s'):JC P TT D n Q (.seq x y) fr L s:=λht a hr ho=>
 iu (eS (h1 ht a hr ho) λe a w ⟨jN,L',s',k1,k2,k3,k4⟩=>by
  cases e with
  | normal=>
   exact Sw
  | _=>exact ⟨jN,L',s',k1,k2,k3,k4⟩)
end
theorem Ff{p q:Prop}[Decidable p][Decidable q](h:p↔¬ q):(!decide q)=decide p:=by grind
def Kb{p:Prop}(h:p:=by first|rfl|exact bl (λb=>some (Value.bool b)) (bL Og).symm|exact bl (λb=>some (Value.bool b)) (bR Og).symm|exact bl (λb=>some (Value.bool b)) (bK.2 Og)|exact bl (λb=>some (Value.bool b)) (Ff Og)):p:=h
def AC.perm{f:FuncId}{L1:Hl}(hp:L.Perm L1)(h:AC P D f args L1 s R)(hq:∀ v L1' s',R v L1' s'->∃ L',L1'.Perm L'/\R' v L' s'):AC P D f args L s R':=
 ⟨h.1,λho=>by
  rw [uc hp _ ho];refine (h.2 (ho.perm hp)).mono ?_;rintro e w' ⟨v,L1',s',he,hw,me,hl,hr⟩;obtain ⟨L',h1,h2⟩:=hq v L1' s' hr;exact ⟨v,L',s',he,by rw [hw,uc h1 _ me],me.perm h1,hl,h2⟩⟩
variable{TT:kD}{fr:Fr}{ops:Array Oper}
def qAc{t m sz:Nat}(hT:jV P TT)(hx:lk fr x=some (.slice (some ⟨b0,o0,none⟩) k k))(hy:lk fr y=some (.slice A1 m c))(ht:jz TT t=some ti)(hk:ti.kind=.sl e)(he:jz TT e=some te)(jp:te.size=sz)
  (hC:iy s b0 o0 xs) (hl:xs.length=k * sz) (hR:Row s A1 m sz news) (hm:0 < m) (rK:(k+m) * te.bytes<=140737488355328/\k+m<=9223372036854775807) (ho:jQ D L s) :
  ∃ g cap ys s',Ev P TT D fr (.call { callee:=.builtin .append,args:=#[x,y],argTypes:=#[t,t] }) ty L s (.value (.slice (jZ g) (k+m) cap)) ((g,cb (xs++news++ys) e)::L) s'/\jQ D ((g,cb (xs++news++ys) e)::L) s'/\Le D s s'/\k+m<=cap/\cap<=9223372036854775807:=by
 have me:=hT.at_ ht;obtain ⟨k1,k2,_⟩:=me;rw [hk] at k2;simp only [TK.fits] at k2;rw [k2] at k1;have pJ:=hT.at_ he;obtain ⟨i,i1,i2,i3,i4⟩:=Cc pJ;have mM:0 < te.size:=pJ.2.2.2.2.2.1;have hzs:te.zero.cells.size=te.size:=by rw [E9 pJ];simpa using pJ.2.2.2.1
 have h0:∃ b off,A1=some ⟨b,off,none⟩/\iy s b off news:=by
  have hl:0 < news.length:=by rw [hR.1,<- jp];exact io hm mM
  exact Su
 obtain ⟨b,off,rfl,hcells⟩:=h0;obtain ⟨v',w',jH,pw,vQ⟩:=run_append_arg_grows (P:=P) (fill L s) t ty e i te.zero sz te.bytes k1 i1 i4 (i2.trans jp) i3 (by rw [hzs,jp]) (by rw [<- jp];exact mM) ⟨b0,o0,none⟩ k k xs hl (λj u hj=>by rw [add_lit];exact E7 ho (hC j u hj)) ⟨b,off,none⟩ m c news hR.1
  (λj u hj=>by rw [add_lit];exact E7 ho (hcells j u hj)) O (by simpa [maxLen] using rK.2) rK.1
 obtain ⟨h1,h2⟩:=pw;rcases h2 with ⟨_,h0⟩|⟨g,cap,lI,rfl,hge,hg,rz,hcm,tW,ht2⟩
 . omega
 rw [oB] at hge;have hsize:=vQ.size;rw [oB] at hsize;have hcur:lI=(xs++news++lI.toList.drop ((k+m) * sz)).toArray:=by
  rw [<- ht2,eB]
 have kZ:∀ x∈L,x.1 < s.heap.size:=λx hx=>ho.lt hx;obtain ⟨r1,r2,r3⟩:=T7 (D:=D) (L':=(g,cb (xs++news++lI.toList.drop ((k+m) * sz)) e)::L) ho (vQ.os.trans (zt _ _)) (vQ.tape.trans (zo _ _)) (vQ.output.trans (zp _ _)) hsize
  (by
   rw [aN,du];refine ⟨λvR=>?_,ho.nd⟩;obtain ⟨x,hx,tY⟩:=aW.1 vR;have:=kZ x hx;omega)
  (λx hx=>by
   rcases aR.1 hx with rfl|hx
   . rw [hg,cb,<- hcur]
   . rw [vQ.block x.1 (by rw [oB];exact kZ x hx) Ξ,qM ho hx])
  (λx hx=>by
   rcases aR.1 hx with rfl|hx
   . exact .inr hge
   . exact .inl (aW.2 ⟨x,hx,rfl⟩))
  (λj hj hn=>by rw [vQ.block j (by rw [oB];exact hj) Ξ,vV hn])
 refine ⟨g,cap,_,_,λhT ho dst iL af g ρ hρ=>⟨?_,r2⟩,r2,r3,rz,by simpa [maxLen] using hcm⟩;exact Sy
def iy.pre(h:iy s b off (xs++ys)):iy s b off xs:=λj v hj=>h j v Q30
def iy.nth{l:iz}(h:iy s b 0 l)(hj:l[j]?=some v):iy s b (0+j) [v]:=λi u hi=>by
 cases i with
 | zero=>simp at hi;subst hi;exact h j v hj
 | succ i=>simp at hi
def qAG{t m sz:Nat}(hx:lk fr x=some (.slice (some ⟨b0,o0,none⟩) k k))(hy:lk fr y=some (.slice A1 m c))(ht:jz TT t=some ti)(hk:ti.kind=.sl e)(he:jz TT e=some te)(jp:te.size=sz)
  (hC:iy s b0 o0 xs) (hl:xs.length=k * sz) (hR:Row s A1 m sz news) (hm:0 < m) (rK:(k+m) * te.bytes<=140737488355328/\k+m<=9223372036854775807) (hd:Nat.blt d n=true)
  (kk:∀ g cap s',Le D s s'->iy s' g 0 (xs++news)->k+m<=cap->cap<=9223372036854775807->JO P TT D n ops Q iI ((d,.slice (jZ g) (k+m) cap)::fr) L s') :
  JO P TT D n ops Q (⟨some d,.call { callee:=.builtin .append,args:=#[x,y],argTypes:=#[t,t] },ty,iL,af,none⟩::iI) fr L s:=λhT a hr ho=>by
 obtain ⟨g,cap,ys,s',h1,h2,h3,h4,h5⟩:=qAc (ty:=ty) hT hx hy ht hk he jp hC hl hR hm rK ho;obtain ⟨d1,d2,d3⟩:=tI (A:=[(g,cb (xs++news++ys) e)]) (B:=L) h2;refine AH (L':=L) (s':=fill [(g,cb (xs++news++ys) e)] s') hd (λhT _ dst iL af g2 ρ hρ=>⟨?_,d2⟩) (kk g cap _ (h3.trans d3) (iy.pre (Kf h2)) h4 h5) hT a hr ho;rw [<- d1];exact (h1 hT ho dst iL af g2 ρ hρ).1
def qn5(nd:(L.map (·.1)).Nodup){o:Obj}(hb:b < s.heap.size)(hx:(b,o)∈L):(fill L s).heap[b]?=some o:=by
  induction L with
  | nil=>cases hx
  | cons x L ih=>
    simp only [aN,du] at nd;rcases aR.1 hx with rfl|hx
    . rw [fill];exact J0 _ (by rw [oB];exact hb)
    . rw [fill,E5]
      . exact ih nd.2 hx
      . intro e;exact nd.1 (by rw [e];exact aW.2 ⟨_,hx,rfl⟩)
def AC.lend{P:Program}{D:Nat}{f:FuncId}{L:Hl}{s:World}{R:Value->Prop}(M:Hl)(hM:∀ x∈M,x.2≠mJ D)(hf:tM P f)(h:jQ D M s->AC P D f args L (fill M s) (λv L' _=>R v/\L=L')):
    AC P D f args (M++L) s (λv L' _=>R v/\M++L=L'):=by
  refine ⟨hf,λho=>?_⟩;have hoM:jQ D M s:=ho.left;have hp:(M++L).Perm (L++M):=dK;have kO:=ho.nd;rw [bO,bI] at kO;have hdis:∀ x∈L,x.1 ∉ M.map (·.1):=λx hx hm=>kO.2.2 _ hm _ (aW.2 ⟨x,hx,rfl⟩) rfl;have e:fill (M++L) s=fill L (fill M s):=by rw [uc hp _ ho,Tg]
  have ho3:jQ D L (fill M s):=⟨ho.right.nd,λx hx=>by rw [vV (hdis x hx)];exact ho.right.dm x hx⟩;rw [e];refine ((h hoM).2 ho3).mono ?_;rintro en w' ⟨v,L1,s1,h1,rfl,h3,h4,h6,rfl⟩;have kZ:∀ x∈M,x.1 < s.heap.size:=λx hx=>hoM.lt hx;have jp:s.heap.size<=s1.heap.size:=by have:=h4.size;rwa [oB] at this
  have qp:∀ x∈M,s1.heap[x.1]?=some x.2:=λx hx=>by
    have hm:=qM hoM (b:=x.1) (o:=x.2) hx;rcases h4.block x.1 (by rw [oB];exact kZ x hx) with hd|hd
    . rw [hm] at hd;exact absurd (cM hd) (hM x hx)
    . rw [hd,hm]
  have hk:(M.map λx=>(x.1,mJ D)).map (·.1)=M.map (·.1):=by rw [fR];rfl
  have ho4:jQ D (M++L) (fill (M.map λx=>(x.1,mJ D)) s1):=⟨ho.nd,λx hx=>by
    rcases aS.1 hx with hx|hx
    . exact qn5 (by rw [hk];exact kO.1) (dM (kZ x hx) jp) (aW.2 ⟨x,hx,rfl⟩)
    . rw [vV (by rw [hk];exact hdis x hx)];exact h3.dm x hx⟩
  have hw:fill M (fill (M.map λx=>(x.1,mJ D)) s1)=s1:=by
    refine Dz (Dy λk=>?_) ?_ ?_ ?_ ?_
    . by_cases hm:k∈M.map (·.1)
      . obtain ⟨x,hx,rfl⟩:=aW.1 hm
        rw [qn5 (o:=x.2) kO.1 (by rw [oB];exact dM (kZ x hx) jp) hx,qp x hx]
      . rw [vV hm,vV (by rw [hk];exact hm)]
    . rw [zo,zo]
    . rw [FW,FW]
    . rw [zt,zt]
    . rw [zp,zp]
  refine ⟨v,M++L,fill (M.map λx=>(x.1,mJ D)) s1,h1,?_,ho4,?_,h6,Z⟩
  . rw [uc hp _ ho4,Tg,hw]
  . refine ⟨?_,?_,?_,?_,λk uQ=>?_⟩
    . rw [zt,h4.os,zt]
    . rw [zo,h4.tape,zo]
    . rw [zp,h4.output,zp]
    . rw [oB];exact jp
    . by_cases hm:k∈M.map (·.1)
      . obtain ⟨x,hx,rfl⟩:=aW.1 hm
        exact .inl (hoM.dm x hx)
      . rw [vV (by rw [hk];exact hm)]
        have:=h4.block k (by rw [oB];exact uQ);rw [vV hm] at this;exact this
def AC.ok{f:FuncId}(h:AC P D f args L s R):tM P f:=h.1
def qsQ(h:jQ D M s):mI M (fill M s):=λb zs t hm j u hj=>by
 rw [Ca h hm,aX];exact hj
def U8{sz:Nat}(h:Own e sz M v n xs):∀ x∈M,x.2≠mJ D:=by
 cases h with
 | nil=>intro x hx;cases hx
 | blk b cap n xs ys _ _ _ _=>
  intro x hx;rw [aU] at hx;subst hx;intro e;cases e
end
section
attribute [local irreducible] JC JO JA JB ma mO mX AC fill iy QE Ev my
variable{n1 c1 n2 c2:Nat}{l:iG}{t:oK}{i:List UInt8}{A2:iE}
def Nb(m:lH)(v:Value)(M:Hl)(s:World):Prop:=∃ bc cc yc Oq9 Ao co Ai ni ci,v=.agg #[.slice (jZ bc) m.cells.length cc,iJ m.r0,iJ m.r1,iJ m.r2,iJ m.r3,iJ m.r4,.slice Ai ni ci,.slice Ao m.output.length co,iB m.stop,iJ m.code]
 /\ M=(bc,cb (wv m.cells++yc) 34)::Oq9/\Own 5 1 Oq9 (.slice Ao m.output.length co) m.output.length (bv m.output)/\lP s Ai ni ci m.aa/\m.cells.length+yc.length=cc/\cc<=9223372036854775807
def Nb.le(h:Nb m v M s)(hl:Le D s s'):Nb m v M s':=by
 obtain ⟨bc,cc,yc,Oq9,Ao,co,Ai,ni,ci,h1,h2,h3,h4,h5⟩:=h;exact ⟨bc,cc,yc,Oq9,Ao,co,Ai,ni,ci,h1,h2,h3,h4.le hl,h5⟩
def uW(t:oK)(l:iG)(i:List UInt8):lH:=⟨l++List.replicate (t.cells.toNat - l.length) 0,0,0,0,0,0,i,[],0,0⟩
def ue(t:oK)(l:iG)(i:List UInt8):lH×Int×Int:=if (tB t l i).1≠0 then (BJ,(tB t l i).1,(tB t l i).2) else (uW t l i,0,0)
def qtI{N:Nat}(hp:iy s bc 0 (wv l++(List.replicate N (Value.int .u32 0)).drop l.length))(hu:∀ x∈l,iQ x)(h:l.length<=N)(hN:N<=65536):lX s (jZ bc) N N (l++List.replicate (N - l.length) 0):=by
 have e:wv l++(List.replicate N (Value.int .u32 0)).drop l.length=wv (l++List.replicate (N - l.length) 0)++[]:=by simp [wv]
 rw [e] at hp;have hl:(l++List.replicate (N - l.length) 0).length=N:=by simp;omega
 have:=qtH (cc:=N) hp (λx hx=>by
  rcases aS.1 hx with h1|h1
  . exact hu x h1
  . obtain ⟨_,rfl⟩:=dT.1 h1;exact vy) (by rw [hl];simp) O
 rwa [hl] at this
def qtn(h:(o5 t).1≠0):ue t l i=(BJ,(o5 t).1,(o5 t).2):=by simp [ue,tB,h]
def qpY(h:(o5 t).1=0)(h1:t.cells < (l.length:Int)):ue t l i=(BJ,3,-2):=by simp [ue,tB,h,h1]
def qwC(h:(o5 t).1=0)(h1:¬ t.cells < (l.length:Int))(h2:400000 < i.length):ue t l i=(BJ,3,-3):=by simp [ue,tB,h,h1,h2]
def qwD(h:(o5 t).1=0)(h1:¬ t.cells < (l.length:Int))(h2:¬ 400000 < i.length):ue t l i=(uW t l i,0,0):=by simp [ue,tB,h,h1,h2]
def qzX(h:(tB t l i).1≠0):ue t l i=(BJ,(tB t l i).1,(tB t l i).2):=by simp [ue,h]
def ZA(h:(tB t l i).1=0):ue t l i=(uW t l i,0,0):=by simp [ue,h]
def qDh(h:(tB t l i).1=0):(o5 t).1=0/\(l.length:Int)<=t.cells/\i.length<=400000:=by
 unfold tB at h;split at h
 . contradiction
 split at h
 . exact absurd h Dc
 split at h
 . exact absurd h Dc
 rename_i h1 h2 h3;exact ⟨by simpa using h1,O,O⟩
def qpX(hG:yV t)(hl:(l.length:Int)<=t.cells)(hi:i.length<=400000)(hu:∀ x∈l,iQ x):sF (uW t l i)/\CA (uW t l i)/\((uW t l i).cells.length:Int)=t.cells:=by
 have:=hG.cells;have iK:(uW t l i).cells.length=t.cells.toNat:=by simp [uW];omega
 refine ⟨⟨O,λx hx=>?_,vy,vy,vy,vy,vy,by simp [uW],hi,vy⟩,⟨⟨by simp [uW],by simp [uW]⟩,λh=>absurd Z h⟩,O⟩;rcases aS.1 hx with h1|h1
 . exact hu x h1
 . obtain ⟨_,rfl⟩:=dT.1 h1;exact vy
def qI5:MU (ue t l i).1:=by
 unfold ue;split
 . exact qLT
 . constructor<;>exact vy
def SA{p:Prop} (h:p:=by
 refine ⟨[_,_,_,_,_,_],Z,λs2 j5 hp=>?_⟩;rw [qwD sS hlong sL];have hw:=qtI (hp bc (wv l++(List.replicate N (Value.int .u32 0)).drop l.length) 34 (by simp)) hu O O;have hNN:t.cells.toNat=N:=by omega
 rw [<- hNN] at hw;exact ⟨_,⟨_,_,_,_,_,_,_,_,_,by rw [<- hNN];rfl,hw,sj.le Lc,lP.nil _ none 0 O⟩,rfl⟩):p:=h
def Ix{p:Prop} (h:p:=by
 refine Wt 4 [_,_,_,_,_,_,_,_,_,_] Y9<|Wt 3 [_,_] Y9<|G3 ?_;exact rR [] _ (.agg (us:=[_,_,_,_,_,_,_,_,_,_]) 4 Z Z Z Z Z (.agg (us:=[_,_]) 3 Z Z Z Z Z (.nil))) Z (h1.t h2|>.t h3|>.t h4|>.t h5|>.t h9|>.t jG|>.t jM|>.t jE) λ_ iD=>SA):p:=h
def HQ{p:Prop} (h:p:=by
 refine iF 2 V<|mV Z Tt Y5 Q12 O Z λbc kh jE=>za 5 Z (jB [(_,_),(_,_)] [_,_,_,_,_,_,_,_,_,_] Y3 Z Z Z) Z<|iF 7 V<|Wu Z Tt 1 [_,_,_,_,_,_,_,_,_,_] Y9 (sM (lz (kN (jL))))<|ji V<|G6 ?_;refine Kw 0 Y7 (hIm.row.le (h1.t h2|>.t h3|>.t h4|>.t h5|>.t h9|>.t jG|>.t jM|>.t jE)) O (by simp) Z Z<|Nt<|Sr<|iA (iZ 1 [_,_,_,_,_,_,_,_,_,_] Y5) Z<|iA (jB [] [_,_] Y3 Z Z Z) Z ?_;refine Wt 4 [_,_,_,_,_,_,_,_,_,_] Y9<|Wt 3 [_,_] Y9<|G3 ?_;exact rR [] _ (.agg (us:=[_,_,_,_,_,_,_,_,_,_]) 4 Z Z Z Z Z (.agg (us:=[_,_]) 3 Z Z Z Z Z (.nil))) Z (h1.t h2|>.t h3|>.t h4|>.t h5|>.t h9|>.t jG|>.t jM|>.t jE) λ_ iD=>SA):p:=h
def HP{p:Prop} (h:p:=by
 refine za 5 Z (jB [(_,_),(_,_)] [_,_,_,_,_,_,_,_,_,_] Y3 Z Z Z) Z<|iF 6 V<|ky Z Tt Z [_,_,_,_,_,_,_,_,_,_] Y2 λβ12 kh jE=>iF 7 V<|Wu Z Tt 0 [_,_,_,_,_,_,_,_,_,_] Y9 (sM (lz (kN (jL))))<|ji V<|G6 ?_;refine Kw 1 Y7 (hIm.row.le (h1.t h2|>.t h3|>.t h4|>.t h5|>.t h9|>.t jG|>.t jM|>.t jE)) O (by simp) Z Z<|Nt<|Sr<|iA (iZ 0 [_,_,_,_,_,_,_,_,_,_] Y5) Z<|iA (jB [] [_,_] Y3 Z Z Z) Z<|Wt 4 [_,_,_,_,_,_,_,_,_,_] Y9<|Wt 3 [_,_] Y9 ?_;refine G3 ?_;exact rR [] _ (.agg (us:=[_,_,_,_,_,_,_,_,_,_]) 4 Z Z Z Z Z (.agg (us:=[_,_]) 3 Z Z Z Z Z (.nil))) Z (h1.t h2|>.t h3|>.t h4|>.t h5|>.t h9|>.t jG|>.t jM|>.t jE) λ_ iD=>SA):p:=h
def qtm(hA:ki s A n c t.U)(hIm:lX s A1 n1 c1 l)(hIn:lP s A2 n2 c2 i):pQ D 33 [.agg #[iB t.cells,.slice A n c],.slice A1 n1 c1,.slice A2 n2 c2] L s λv M' s'=>∀ s2,Le D s' s2->mI M' s2->∃ vs,xv s2 (ue t l i).1 vs/\v=.tuple #[vs,.agg #[iB (ue t l i).2.1,iB (ue t l i).2.2]]:=by
 obtain rfl:=hIm.1;have oW:=hIn.1;have hF:=Ud t;have hu:=hIm.u32;refine jn (fn:=Tryz.f33) jb Tryz.func33 V Z Tryz.ntmps33 Z (rs:=[.cell 6 101,.cell 7 30]) Z [(0,_),(1,_),(2,_)] Z<|Sr<|kF Y2 λβ1 s1 h1=>jh Z [_,_,_,_,_,_,_,_,_,_] Y2 λβ2 s2 h2=>jh Z [_,_] Y2 λβ3 s3 h3=>Nt<|Zs<|Sr<|iA (iZ 2 [_,_] Y5) Z<|Je Y3 (Td Pz) λs4 h4=>jh Z [_,_] Y2 λβ5 s5 h5=>Wt 0 [_,_] Y9<|Nt<|Sr<|iA (iZ 0 [_,_] Y5) Z<|iA (jB [] [_,_] Y3 Z Z Z) Z<|iA (ui Z Z (sp)) Z<|G2 ?_;have e5:=h1.t h2|>.t h3|>.t h4|>.t h5;refine lL Z ?_ ?_<;>intro c6;.have rM:(o5 t).1≠0:=λh=>c6 ⟨h,hF h⟩;refine Zs<|pM jt 4 Z [2,1] Q4 λs7 h7=>za 0 Z (jB [] [_,_,_,_,_,_,_,_,_,_] Y3 Z Z Z) Z<|za 1 Z (iZ 0 [_,_] Y5) Z<|iF 2 V<|Wu Z Tt 2 [_,_,_,_,_,_,_,_,_,_] Y9 (sM (nD (lz (nD (jL)))))<|iF 3 V<|Wu Z Tt 1 [_,_] Y9 (sM (nD (lz (nD (jL)))))<|ji V<|G3 ?_;refine rR [] _ (.agg (us:=[_,_,_,_,_,_,_,_,_,_]) 2 Z Z Z Z Z (.agg (us:=[_,_]) 1 Z Z Z Z Z (.nil))) Z Lc λ_ iD=>?_;refine ⟨[_,_,_,_],Z,λs2 j5 hp=>?_⟩;rw [qtn rM];exact ⟨_,xv.zero _,rfl⟩
 have sS:(o5 t).1=0:=c6.1;have hG:=Nq hA sS;have yk:=hG.cells;obtain ⟨N,hN⟩:=aZ (show 0<=t.cells by omega);refine G8 ?_;refine Wl 3 Y6<|J3 ?_ ?_<;>intro c7;.have hlong:t.cells < (l.length:Int):=c7;refine Sr<|iA (jB [] [_,_,_,_,_,_,_,_,_,_] Y3 Z Z Z) Z<|Je Y3 (vU) λs8 h8=>Wt 2 [_,_,_,_,_,_,_,_,_,_] Y9<|Wt 1 [_,_] Y9<|G4 ?_;refine rR [] _ (.agg (us:=[_,_,_,_,_,_,_,_,_,_]) 2 Z Z Z Z Z (.agg (us:=[_,_]) 1 Z Z Z Z Z (.nil))) Z Lc λ_ iD=>?_;refine ⟨[_,_,_,_],Z,λs2 j5 hp=>?_⟩;rw [qpY sS hlong];exact ⟨_,xv.zero _,rfl⟩
 have hlong:¬ t.cells < (l.length:Int):=c7;refine tQ ?_ ?_<;>intro c8
 .have sL:400000 < i.length:=O
  refine Sr<|iA (jB [] [_,_,_,_,_,_,_,_,_,_] Y3 Z Z Z) Z<|Je Y3 (vU) λs9 h9=>Wt 2 [_,_,_,_,_,_,_,_,_,_] Y9<|Wt 1 [_,_] Y9<|G4 ?_;refine rR [] _ (.agg (us:=[_,_,_,_,_,_,_,_,_,_]) 2 Z Z Z Z Z (.agg (us:=[_,_]) 1 Z Z Z Z Z (.nil))) Z Lc λ_ iD=>?_;refine ⟨[_,_,_,_],Z,λs2 j5 hp=>?_⟩;rw [qwC sS hlong sL];exact ⟨_,xv.zero _,rfl⟩
 have sL:¬ 400000 < i.length:=O
 refine Zk<|Zt<|Zs<|mr jt 8 Z _ (λ_ h=>h) λs9 h9=>H1 ?_;refine za 1 Z (kK (Wd 3 Y5) (bl (Value.int .i64) hN)) Z<|H1 ?_;refine xW 2 4 6 V ?_ ?_ ?_
 .refine mV Z Tt Y5 Q12 O Z λbc kH jG=>kA 4 6 V ?_ ?_;.refine Jb Z Tt Z Z Z (AC.pub (sV Pz O)) ?_;rintro _ _ kz jM ⟨rfl,Mi,swi,⟨Ai1,ci1,rfl,_,_,hOi⟩,hswi,hcwi⟩;refine ⟨λ_ _ h=>h,?_⟩;have sj:=Own.bts hOi hcwi;exact HP
  refine ky Z Tt Z [_,_,_,_,_,_,_,_,_,_] Y2 λβ11 kz jM=>iF 4 V<|Jb Z Tt Z Z Z (AC.pub (sV Pz O)) ?_;rintro _ _ kh jE ⟨rfl,Mi,swi,⟨Ai1,ci1,rfl,_,_,hOi⟩,hswi,hcwi⟩;refine ⟨λ_ _ h=>h,?_⟩;have sj:=Own.bts hOi hcwi;refine za 5 Z (jB [(_,_),(_,_)] [_,_,_,_,_,_,_,_,_,_] Y3 Z Z Z) Z<|iF 7 V<|Wu Z Tt 0 [_,_,_,_,_,_,_,_,_,_] Y9 (sM (lz (kN (jL))))<|ji V<|G6 ?_;refine Kw 1 Y7 (hIm.row.le (e5.t h9|>.t jG|>.t jM|>.t jE)) O Ξ Z Z<|Nt<|Sr<|iA (iZ 0 [_,_,_,_,_,_,_,_,_,_] Y5) Z<|iA (jB [] [_,_] Y3 Z Z Z) Z ?_;exact Ix
 .refine Jb Z Tt Z Z Z (AC.pub (sV Pz O)) ?_;rintro _ _ kH jG ⟨rfl,Mi,swi,⟨Ai1,ci1,rfl,_,_,hOi⟩,hswi,hcwi⟩;refine ⟨λ_ _ h=>h,?_⟩;have sj:=Own.bts hOi hcwi;refine kA 2 6 V ?_ ?_;.refine mV Z Tt Y5 Q12 O Z ?_;intro bc kz jM;exact HP
  refine ky Z Tt Z [_,_,_,_,_,_,_,_,_,_] Y2 ?_;intro b11 kz jM;exact HQ
 refine ky Z Tt Z [_,_,_,_,_,_,_,_,_,_] Y2 λβ10 kH jG=>kA 2 4 V ?_ ?_;.refine mV Z Tt Y5 Q12 O Z λbc kz jM=>iF 4 V<|Jb Z Tt Z Z Z (AC.pub (sV Pz O)) ?_;rintro _ _ kh jE ⟨rfl,Mi,swi,⟨Ai1,ci1,rfl,_,_,hOi⟩,hswi,hcwi⟩;refine ⟨λ_ _ h=>h,?_⟩;have sj:=Own.bts hOi hcwi;refine za 5 Z (jB [(_,_),(_,_)] [_,_,_,_,_,_,_,_,_,_] Y3 Z Z Z) Z<|iF 7 V<|Wu Z Tt 1 [_,_,_,_,_,_,_,_,_,_] Y9 (sM (lz (kN (jL))))<|ji V<|G6 ?_;refine Kw 0 Y7 (hIm.row.le (e5.t h9|>.t jG|>.t jM|>.t jE)) O Ξ Z Z<|Nt<|Sr<|iA (iZ 1 [_,_,_,_,_,_,_,_,_,_] Y5) Z<|iA (jB [] [_,_] Y3 Z Z Z) Z ?_;exact Ix
 refine Jb Z Tt Z Z Z (AC.pub (sV Pz O)) ?_;rintro _ _ kz jM ⟨rfl,Mi,swi,⟨Ai1,ci1,rfl,_,_,hOi⟩,hswi,hcwi⟩;refine ⟨λ_ _ h=>h,?_⟩;have sj:=Own.bts hOi hcwi;exact HQ
def qIN(hA:ki s A n c t.U)(xB:lX s Ax nAx cAx m.cells)(vp:lP s Bx yt cBx m.aa)(yj:lP s Ox nOx cOx m.output)(hU:MU m){k:Int}:jU D 35 [.agg #[iB t.cells,.slice A n c],.agg #[.slice Ax nAx cAx,iJ m.r0,iJ m.r1,iJ m.r2,iJ m.r3,iJ m.r4,.slice Bx yt cBx,.slice Ox nOx cOx,iB m.stop,iJ m.code],iB k] L s λv L' s'=>L=L'/\∃ vs,xv s' (x5 t m k).1 vs/\v=.tuple #[vs,iB (x5 t m k).2.1,.agg #[iB (x5 t m k).2.2.1,iB (x5 t m k).2.2.2]]:=AC.pubW (qC4 hA xB vp yj hU)
def qwB(hA:ki s A n c t.U)(hIm:lX s A1 n1 c1 l)(hIn:lP s A2 n2 c2 i):jU D 33 [.agg #[iB t.cells,.slice A n c],.slice A1 n1 c1,.slice A2 n2 c2] L s λv L' s'=>L=L'/\∃ vs,xv s' (ue t l i).1 vs/\v=.tuple #[vs,.agg #[iB (ue t l i).2.1,iB (ue t l i).2.2]]:=AC.pubW (qtm hA hIm hIn)
def DV(t:oK)(l:iG)(i:List UInt8)(k:Int):List UInt8×Int×Int×Int:=((pd t (uW t l i) k.toNat).1.output,(pd t (uW t l i) k.toNat).1.stop,(pd t (uW t l i) k.toNat).1.code,((pd t (uW t l i) k.toNat).2:Int))
def sx(t:oK)(l:iG)(i:List UInt8)(k:Int):(List UInt8×Int×Int×Int)×Int×Int:=
 if (tB t l i).1≠0 then (([],0,0,0),tB t l i) else if k < 0\/50000000 < k then (([],0,0,0),4,-4) else (DV t l i k,0,0)
def sG(s:World)(o:List UInt8×Int×Int×Int)(v:Value):Prop:=∃ A n c,v=.agg #[.slice A n c,iB o.2.1,iJ o.2.2.1,iB o.2.2.2]/\lP s A n c o.1
def sG.zero(s:World):sG s ([],0,0,0) (.agg #[.slice none 0 0,iB 0,iJ 0,iB 0]):=⟨none,0,0,rfl,lP.nil _ _ _ O⟩
def sG.le(h:sG s o v)(hl:Le D s s'):sG s' o v:=by
 obtain ⟨A,n,c,h1,h2⟩:=h;exact ⟨A,n,c,h1,h2.le hl⟩
def qto(hA:ki s A n c t.U)(h1:lX s A1 n1 c1 l)(h:(tB t l i).1=0){k:Int}(hk:¬ (k < 0\/50000000 < k)):
  x5 t (ue t l i).1 k=((pd t (uW t l i) k.toNat).1,((pd t (uW t l i) k.toNat).2:Int),0,0):=by
 obtain ⟨h0,h2,h3⟩:=qDh h;obtain ⟨k1,k2,k3⟩:=qpX (Nq hA h0) h2 h3 h1.u32;rw [ZA h,qs1 (by rw [qDw h0 k1 k2 k3]) hk]
def Qa{p:Prop} (h:p:=by
 rw [show sx t l i k=(([],0,0,0),4,-4) by simp only [sx];rw [ak (by simpa using hsf),au pu]];exact ⟨rfl,_,sG.zero _,rfl⟩):p:=h
def IK{p:Prop} (h:p:=by
 refine Wt 3 [_,_,_,_] Y9<|Wt 2 [_,_] Y9<|G4 ?_;exact rR [_,_,_,_,_] L (.agg (us:=[_,_,_,_]) 3 Z Z Z Z Z (.agg (us:=[_,_]) 2 Z Z Z Z Z (.nil))) Z Lc λ_ iD=>Qa):p:=h
def s_(hA:ki s A n c t.U)(hIm:lX s A1 n1 c1 l)(hIn:lP s A2 n2 c2 i){k:Int}:jU D 10 [.agg #[iB t.cells,.slice A n c],.slice A1 n1 c1,.slice A2 n2 c2,iB k] L s λv L' s'=>L=L'/\∃ vs,sG s' (sx t l i k).1 vs/\v=.tuple #[vs,.agg #[iB (sx t l i k).2.1,iB (sx t l i k).2.2]]:=by
 refine jn (fn:=Tryz.f10) jb Tryz.func10 V Z Tryz.ntmps10 Z (rs:=[.cell 8 36,.cell 9 30]) Z [(0,_),(1,_),(2,_),(3,_)] Z<|Sr<|kF Y2 λβ1 s1 h1=>jh Z [_,_,_,_] Y2 λβ2 s2 h2=>jh Z [_,_] Y2 λβ3 s3 h3=>Nt<|Sr<|iA (iZ 2 [_,_] Y5) Z<|G2 ?_;refine Jc Y3 (qwB Pz Pz Pz) ?_;rintro _ _ s4 h4 ⟨rfl,_,⟨Aa,na,ca,Ba,nBa,cBa,Oa,nOa,cOa,rfl,hAa,hBa,hOa⟩,rfl⟩;refine G3 ?_;refine jh Z [_,_,_,_,_,_,_,_,_,_] Y2 λβ5 s5 h5=>jh Z [_,_] Y2 λβ6 s6 h6=>Wt 1 [_,_,_,_,_,_,_,_,_,_] Y9<|Wt 0 [_,_] Y9<|Nt<|Zs<|Sr<|iA (iZ 0 [_,_] Y5) Z<|iA (jB [] [_,_] Y3 Z Z Z) Z<|iA (ui Z Z (sp)) Z<|G2 ?_;refine lL Z ?_ ?_<;>intro c7;.have rM:(tB t l i).1≠0:=λh=>c7 (by rw [ZA h];exact ⟨rfl,rfl⟩);refine Zs<|pM jt 4 Z [3,2] Q4 λs8 h8=>za 0 Z (jB [] [_,_,_,_] Y3 Z Z Z) Z<|za 1 Z (iZ 0 [_,_] Y5) Z<|iF 2 V<|Wu Z Tt 3 [_,_,_,_] Y9 (sM (lj (lz (nD (jL)))))<|iF 3 V<|Wu Z Tt 2 [_,_] Y9 (sM (lj (lz (nD (jL)))))<|ji V<|G3 ?_;refine rR [_,_,_,_,_] L (.agg (us:=[_,_,_,_]) 3 Z Z Z Z Z (.agg (us:=[_,_]) 2 Z Z Z Z Z (.nil))) Z Lc λ_ iD=>?_;rw [show sx t l i k=(([],0,0,0),tB t l i) by simp only [sx];rw [au rM]];exact ⟨rfl,_,sG.zero _,by rw [qzX rM];rfl⟩
 have hsf:(tB t l i).1=0:=by
   by_cases h:(tB t l i).1=0
   . exact h
   . have hc:=c7.1;rw [qzX h] at hc;exact absurd hc h
 refine G8 ?_;refine ld (t:=28) Z ?_ ?_<;>intro c8
 .refine G6 ?_;have pu:k < 0\/50000000 < k:=O
  refine Sr<|iA (jB [] [_,_,_,_] Y3 Z Z Z) Z<|Je Y3 (vU) λs9 h9=>?_;exact IK
 refine J7 ?_ ?_<;>intro c9
 .have pu:k < 0\/50000000 < k:=O
  refine Sr<|iA (jB [] [_,_,_,_] Y3 Z Z Z) Z<|Je Y3 (vU) λkH jG=>?_;exact IK
 have sL:¬ (k < 0\/50000000 < k):=O
 have hrr:=qto hA hIm hsf sL;refine Zk<|Zt<|Sr<|iA (iZ 4 [_,_] Y5) Z<|iA (iZ 1 [_,_,_,_,_,_,_,_,_,_] Y5) Z<|kb Y2<|Jc Y3 (qIN Pz Pz Pz Pz (qI5)) ?_;rintro _ _ kH jG ⟨rfl,_,⟨Ar,nr,cr,Br,nBr,cBr,Or,nOr,cOr,rfl,hAr,hBr,hOr⟩,rfl⟩;refine G4 ?_;refine jh Z [_,_,_,_,_,_,_,_,_,_] Y2 λβ11 kz jM=>Wt 0 [_,_,_,_,_,_,_,_,_,_] Y9<|mo Y2<|Wt 1 [_,_] Y9<|Nt<|Zs<|Sr<|iA (iZ 1 [_,_] Y5) Z<|iA (jB [] [_,_] Y3 Z Z Z) Z<|iA (ui Z Z (sp)) Z<|G2 ?_;refine lL Z ?_ ?_<;>intro oL;.exact absurd (by rw [hrr];exact ⟨rfl,rfl⟩) oL
 refine lw ?_;refine iA (jB [(_,_),(_,_),(_,_),(_,_)] [_,_,_,_] Y3 Z Z Z) Z<|iA (jB [] [_,_] Y3 Z Z Z) Z<|Wt 4 [_,_,_,_] Y9<|Wt 3 [_,_] Y9<|G3 ?_;refine rR [_,_,_,_,_,_] L (.agg (us:=[_,_,_,_]) 4 Z Z Z Z Z (.agg (us:=[_,_]) 3 Z Z Z Z Z (.nil))) Z Lc λ_ iD=>?_;rw [show sx t l i k=(DV t l i k,0,0) by simp only [sx];rw [ak (by simpa using hsf),ak sL]];refine ⟨Z,_,⟨Or,nOr,cOr,?_,?_⟩,Z⟩
 . rw [hrr];rfl
 . rw [hrr] at hOr;exact hOr.le Lc
end
section
def qKU(l:List UInt8)(c:Int):Int:=j6 (λx=>decide ((x.toNat:Int)=c)) l 0
def uV(c:Int):List UInt8->List UInt8->List (List UInt8)
 | lI,[]=>[lI]
 | lI,x::r=>if (x.toNat:Int)=c then lI::uV c [] r else uV c (lI++[x]) r
def splitB(c:Int)(l:List UInt8):List (List UInt8):=uV c [] l
def qpW(c:Int)(lI l:List UInt8):(uV c lI l).length<=l.length+1:=by
 induction l generalizing lI with
 | nil=>simp [uV]
 | cons x r ih=>
  simp only [uV];split
  . simp only [aw];have:=ih [];omega
  . simp only [aw];have:=ih (lI++[x]);omega
def Ti(c:Int)(lI l:List UInt8):∀ p∈uV c lI l,p.length<=lI.length+l.length:=by
  induction l generalizing lI with
  | nil=>intro p hp;simp [uV] at hp;subst hp;simp
  | cons x r ih=>
    intro p hp;simp only [uV] at hp;split at hp
    . rcases aR.1 hp with rfl|hp
      . simp only [aw];omega
      . have:=ih [] p hp;simp only [aq,aw] at this ⊢;omega
    . have:=ih (lI++[x]) p hp;simp only [ac,aw,aq] at this ⊢;omega
def sb(l:List (List UInt8)):iz:=l.map λx=>St x
def Own.strs{A:Hl}(h:Own e 1 A (.slice Ad n c) n (sb l))(hu:∀ x∈l,x.length<=9223372036854775807)(hp:mI A s)(hn:n=l.length):iO s Ad n c l:=by
 have he:sb l=(l.map λx=>[St x]).flatten:=by
  clear h hu hn;induction l with
  | nil=>rfl
  | cons x r ih=>simp [sb] at ih ⊢;exact ih
 rw [he] at h;refine Own.rows h hp ?_ hn;clear h he hn;induction l with
 | nil=>exact .nil
 | cons x r ih=>exact .cons ⟨rfl,rfl,hu x Mc⟩ (ih λy hy=>hu y (an _ hy))
def qIT:List UInt8:=[61,43,45,42,47,37,38,124,94,123,125,126,60,91,93,63,33,46,58,59]
def qLa(l:List UInt8):Int:=qKU qIT ((l.headD 0).toNat:Int)
def kT(l:List UInt8):Nat:=if PO (qLa l) then 1 else 0
def qLR{x:Int}:iQ (mc x):=⟨by unfold mc;omega,by unfold mc;omega⟩
attribute [local irreducible] JC JO JA JB ma mO mX AC fill iy QE Ev my
def qpp(css:List iz)(cs:iz):(css++[cs]).flatten=css.flatten++cs:=by simp
end
section
def AC.of_calls{f:FuncId}{args:iz}{R:Value->Hl->World->Prop}(hf:tM P f)
  (h:jQ D L s->Calls P f args.toArray (fill L s) λe w'=>∃ v,e=.returned v/\Below (fill L s).heap.size (fill L s) w'/\∀ s',w'=fill L s'->Le D s s'->(∀ k,s.heap.size<=k->s'.heap[k]?=w'.heap[k]?)->R v L s'):AC P D f args L s R:=
 ⟨hf,λho=>(h ho).mono λe w' ⟨v,he,hb,hr⟩=>by
  obtain ⟨e1,o1,l1⟩:=qIw ho hb;refine ⟨v,L,rE D L w',he,e1,o1,l1,hr _ e1 l1 λk hk=>J1 λhm=>?_⟩;obtain ⟨x,hx,rfl⟩:=aW.1 hm;have:=ho.lt hx;omega⟩
def Dp:Below w.heap.size w w:=Below.refl _ _
def qpC(l:List Obj):∃ D,∀ E,D<=E->∀ o∈l,o≠mJ E:=by
  induction l with
  | nil=>exact ⟨0,λ_ _ _ h=>by cases h⟩
  | cons x l ih=>
    obtain ⟨D,h⟩:=ih;by_cases hx:∃ E,x=mJ E
    . obtain ⟨E0,rfl⟩:=hx
      refine ⟨D+E0+1,λE hE o ho=>?_⟩;rcases aR.1 ho with rfl|ho
      . intro e;simp only [mJ] at e;injection e;omega
      . exact h E O o ho
    . refine ⟨D,λE hE o ho=>?_⟩
      rcases aR.1 ho with rfl|ho
      . exact λe=>hx ⟨E,e⟩
      . exact h E hE o ho
def qm8(W:World):∃ D,∀ k:Nat,W.heap[k]?≠some (mJ D):=by
 obtain ⟨D,h⟩:=qpC W.heap.toList;refine ⟨D,λk hk=>h D (ay _) _ ?_ Z⟩;rw [<- gW] at hk;exact ax hk
def Te{f:FuncId}{args:iz}(h:∀ D,AC P D f args [] W λv L' _=>v=v0/\[]=L') :
  Calls P f args.toArray W λe w'=>e=.returned v0/\Below W.heap.size W w':=by
 obtain ⟨D,hD⟩:=qm8 W;refine ((h D).2 ⟨hZ,λ_ h=>by cases h⟩).mono ?_;rintro e w' ⟨v,L',s',he,hw,_,hl,hv,hL⟩;subst hL;have hw':w'=s':=hw;subst hw';refine ⟨by rw [he,hv],⟨hl.os,hl.tape,hl.output,hl.size,λk hk=>?_⟩⟩;rcases hl.block k hk with h1|h1
 . exact absurd h1 (hD k)
 . exact h1
end
section
variable{c:UInt8}{l:List UInt8}
def rv(c:UInt8):List UInt8->Option Nat
 | []=>none
 | x::l=>if x=c then some 0 else (rv c l).map (·+1)
def D5:Option Nat->Int
 | none=>-1
 | some i=>(i:Int)
def qzw{i:Nat}(h:rv c l=some i):i < l.length:=by
  induction l generalizing i with
  | nil=>cases h
  | cons x l ih=>
    simp only [rv] at h;split at h
    . injection h with h;subst h;simp
    . cases h':rv c l with
      | none=>rw [h'] at h;cases h
      | some j=>rw [h'] at h;simp at h;have:=ih h';simp;omega
def ZY(l:List UInt8)(c:UInt8):Lib.indexByte l c=D5 (rv c l):=by
  induction l with
  | nil=>rfl
  | cons x l ih=>
    simp only [Lib.indexByte,rv];by_cases h:x=c
    . simp [h,D5]
    . simp only [fl,h,bY,ih]
      cases rv c l with
      | none=>simp [D5]
      | some i=>
        have h1:¬ (i:Int)=-1:=O
        show (if (i:Int)=-1 then (-1:Int) else (i:Int)+1)=((i+1:Nat):Int);rw [ak h1];rfl
def yQ{x:UInt8}:x=c↔(x.toNat:Int)=(c.toNat:Int):=by
 constructor
 . rintro rfl;rfl
 . intro h;exact fK.1 O
def pP(c:UInt8)(l:List UInt8):List UInt8×List UInt8×Bool:=match rv c l with
 | none=>(l,[],false)
 | some i=>(l.take i,l.drop (i+1),true)
theorem qpV(c:UInt8)(lI l:List UInt8):uV (c.toNat:Int) lI l=match rv c l with|none=>[lI++l]|some i=>(lI++l.take i)::splitB (c.toNat:Int) (l.drop (i+1)):=by
  induction l generalizing lI with
  | nil=>simp [uV,rv]
  | cons x l ih=>
    simp only [uV,rv];by_cases h:x=c
    . simp [h,splitB]
    . have h':¬ (x.toNat:Int)=(c.toNat:Int):=λe=>h (yQ.2 e)
      simp only [h,bY,h',ih];cases rv c l with
      | none=>simp
      | some i=>simp
theorem Tr(c:UInt8)(l:List UInt8):splitB (c.toNat:Int) l=match rv c l with|none=>[l]|some i=>l.take i::splitB (c.toNat:Int) (l.drop (i+1)):=by grind [splitB,qpV]
def TD(c:UInt8)(l:List UInt8):l.count c=match rv c l with|none=>0|some i=>(l.drop (i+1)).count c+1:=by
  induction l with
  | nil=>rfl
  | cons x l ih=>
    simp only [rv];by_cases h:x=c
    . simp [h]
    . rw [List.count_cons]
      simp only [fl,h,bY,bC];rw [ih];cases rv c l with
      | none=>rfl
      | some i=>simp
structure GW(s:World):Prop where
 pow:∃ ty fz,s.heap[laysM284_ren.g 17]?=some (.cells (Lib.pow10Tab.map λz=>Value.int .u64 z).toArray ty fz)
 es:∃ t p,s.cell? ⟨laysPu14_ren.g 0,0,none⟩=some (.iface t p)
 er:∃ t p,s.cell? ⟨laysPu14_ren.g 1,0,none⟩=some (.iface t p)
def qrR{cs:Array Value}{ty:TypeId}(h:s.heap[k]?=some (.cells cs ty fz))(hl:Le D s s'):s'.heap[k]?=some (.cells cs ty fz):=by
 have hk:k < s.heap.size:=by
  rcases eM k s.heap.size with h1|h1
  . exact h1
  . rw [bS h1] at h;cases h
 rcases hl.block k hk with h1|h1
 . rw [h] at h1;simp [mJ] at h1
 . rw [h1,h]
def GW.le(h:GW s)(hl:Le D s s'):GW s':=by
 obtain ⟨⟨t,f,h1⟩,⟨t2,p2,h2⟩,⟨t3,p3,h3⟩⟩:=h;exact ⟨⟨t,f,qrR h1 hl⟩,⟨t2,p2,hl.cell h2⟩,⟨t3,p3,hl.cell h3⟩⟩
def qz0(hg:prog.globalNamed nm=some (laysM284_ren.g 17))(h:GW w):Lib.TabIs prog w nm .u64 Lib.pow10Tab:=by
 obtain ⟨t,f,h1⟩:=h.pow;simp only [Lib.TabIs,World.var?,hg,gJ,h1]
section
def qrH:tM prog 89:=⟨_,func89,V,V⟩
def qps:tM prog 264:=⟨_,func264,V,V⟩
def qmY:tM prog 190:=⟨_,func190,V,V⟩
def qpr:tM prog 235:=⟨_,func235,V,V⟩
def qm0:tM prog 192:=⟨_,func192,V,V⟩
def qCq(hG:GW s){n:Int}(h0:-9223372036854775808<=n)(h1:n<=9223372036854775807):jT D 89 [iB n] L s (St (Lib.itoa n)):=
 AC.of_calls qrH λho=>(Any.strconv_Itoa laysM171 n h0 h1 (fill L s) (qz0 laysM171.m17 (hG.le (BC ho)))).mono λe w' ⟨he,k,os,hw⟩=>by
  refine ⟨_,he,?_,λs' _ _ _=>⟨Z,Z⟩⟩;rw [hw];exact ⟨rfl,rfl,rfl,by simp [Sort.grow],λj hj=>by simp [Sort.grow,Array.getElem?_append_left hj]⟩
def qvA:jT D 235 [St l,St [c]] L s (iB (D5 (rv c l))):=
 AC.of_calls qpr λ_=>(Any.stringslite_Index_one lays219 ⟨l.toArray⟩ c (fill L s)).mono λe w' ⟨he,hw⟩=>by
  refine ⟨_,he,by rw [hw];exact Dp,λs' _ _ _=>⟨?_,Z⟩⟩;show Value.int .i64 (Lib.indexByte l c)=_;rw [ZY]
def DU(c:UInt8)(l:List UInt8):Bool:=decide (l.getLast?=some c)
def qp0(l:List UInt8)(c:UInt8):Lib.hasSuffix l [c]=DU c l:=by
  rw [Lib.hasSuffix,DU];rw [Bool.eq_iff_iff,List.isSuffixOf_iff_suffix,aH];constructor
  . rintro ⟨t,rfl⟩;simp
  . intro h
    obtain ⟨t,ht⟩:=List.getLast?_eq_some_iff.1 h;exact ⟨t,ht.symm⟩
def qlo(hl:l.length<=9223372036854775807):jT D 192 [St l,St [c]] L s (.tuple #[St (if DU c l then l.dropLast else l),.bool (DU c l)]):=
 AC.of_calls qm0 λ_=>(Any.strings_CutSuffix lays104 ⟨l.toArray⟩ ⟨#[c]⟩ (fill L s) (by simpa [dH] using hl)).mono λe w' ⟨he,hw⟩=>by
  refine ⟨_,he,by rw [hw];exact Dp,λs' _ _ _=>⟨?_,Z⟩⟩;show Value.tuple #[.string ⟨(Lib.trimSuffix l [c]).toArray⟩,.bool (Lib.hasSuffix l [c])]=_;rw [Lib.trimSuffix,qp0];simp [List.dropLast_eq_take]
inductive Qt:List UInt8->Value->Prop
 | ok (l:List UInt8) (u:Nat) (h:Lib.parseUintB 32 l=.ok u):Qt l (.tuple #[.int .u64 u,.nilIface])
 | bad (l:List UInt8) (h:∀ u,Lib.parseUintB 32 l≠.ok u) (n:Int) (t:TypeId) (p:Value):Qt l (.tuple #[.int .u64 n,.iface t p])
def qv7(hG:GW s)(hl:l.length<=281474976710656):jU D 264 [St l,iB 10,iB 32] L s λv L' _=>Qt l v/\L=L':=
  AC.of_calls qps λho=>by
    have hw:=hG.le (BC ho);have hs:(⟨l.toArray⟩:ByteArray).size<=281474976710656:=by simpa [dH] using hl
    by_cases me:∃ u,Lib.parseUintB 32 l=.ok u
    . obtain ⟨u,hp⟩:=me
      refine (Any.strconv_ParseUint_10_at32_ok laysPu14 ⟨l.toArray⟩ O u hp (fill L s)).mono λe w' ⟨he,hw'⟩=>⟨_,he,?_,λs' _ _ _=>⟨.ok l u hp,Z⟩⟩;rcases hw' with rfl|rfl
      . exact Dp
      . exact Go.Joins.below_bytesWorld _ _ _ _ (ay _)
    . have hno:∀ u,Lib.parseUintB 32 l≠.ok u:=λu h=>me ⟨u,h⟩
      by_cases hr:Lib.parseUintB 32 l=.range
      . obtain ⟨te,pe,h1⟩:=hw.er
        refine (Any.strconv_ParseUint_10_at32_range laysPu14 ⟨l.toArray⟩ hs hr _ (fill L s) h1 (.inr ⟨te,pe,Z⟩)).mono λe w' ⟨N,he,_,_,hb⟩=>⟨_,he,hb,λs' _ _ _=>⟨.bad l hno _ _ _,Z⟩⟩
      . obtain ⟨te,pe,h1⟩:=hw.es
        refine (Any.strconv_ParseUint_10_at32_syntax laysPu14 ⟨l.toArray⟩ hs (by cases h:Lib.parseUintB 32 l<;>simp_all) _ (fill L s) h1 (.inr ⟨te,pe,Z⟩)).mono λe w' ⟨N,he,_,_,hb⟩=>⟨_,he,hb,λs' _ _ _=>⟨.bad l hno _ _ _,Z⟩⟩
end
attribute [local irreducible] JC JO JA JB ma mO mX AC fill iy QE Ev my
def Tp{c i:Int}:jT D 99 [iB c,iB i] L s (.agg #[iB c,iB i]):=by
 refine jn (fn:=f99) jb func99 V Z ntmps99 Z (rs:=[.cell 4 30]) Z [(0,_),(1,_)] Z<|Sr<|jh Z [_,_] Y2 ?_;exact ES
def JU{p:Prop} (h:p:=by
 exact ⟨by simp_all [kU]<;>omega,rfl⟩):p:=h
def V6{p:Prop} (h:p:=by
  refine ld (t:=5) Z ?_ ?_<;>intro c1
  .refine lM ?_;refine ld (t:=12) Z ?_ ?_<;>intro c2;.refine G9 ?_;exact rY Z λ_ iD=>JU
   refine lw ?_;exact rY Z λ_ iD=>JU
  refine G6 ?_;refine ld (t:=9) Z ?_ ?_<;>intro c2
  .refine G6 ?_;refine ld (t:=12) Z ?_ ?_<;>intro c3;.refine G9 ?_;exact rY Z λ_ iD=>JU
   refine lw ?_;exact rY Z λ_ iD=>JU
  refine lw ?_;exact rY Z λ_ iD=>JU):p:=h
def qpy:jT D 238 [.int .i32 r] L s (.bool (decide ((r < 97\/122 < r)/\(r < 48\/57 < r)))):=by
 refine jn (fn:=f238) jb func238 V Z ntmps238 Z (rs:=[.tmp 2]) Z [(0,_)] Z<|lM ?_;exact V6
def qlY:jT D 191 [.int .i32 r] L s (.bool (decide (r=32))):=by
 refine jn (fn:=f191) jb func191 V Z ntmps191 Z (rs:=[.tmp 2]) Z [(0,_)] Z<|mY ?_;refine Zo ?_;exact rY Z λ_ iD=>qH
end
section
variable{l:List UInt8}
def ZX:tM prog 213:=⟨_,func213,V,V⟩
def qpu:tM prog 139:=⟨_,func139,V,V⟩
def X_(l:List UInt8)(c:UInt8):Lib.index l [c]=Lib.indexByte l c:=by
  induction l with
  | nil=>rfl
  | cons b l ih=>
    simp only [Lib.index,Lib.indexByte,ih,List.isPrefixOf];by_cases h:b=c
    . simp [h]
    . have h':¬ c=b:=λe=>h e.symm
      simp [h,h']
def qrX(l:List UInt8)(c:UInt8):Lib.index l [c]=D5 (rv c l):=by rw [X_,ZY]
def TA(l:List UInt8)(a b:Nat):(⟨l.toArray⟩:ByteArray).extract a b=⟨((l.drop a).take (b - a)).toArray⟩:=by
 apply fu;simp [ByteArray.data_extract]
def qpU(c:UInt8)(k:Nat)(l:List UInt8)(h:l.count c=k):Lib.splitB ⟨#[c]⟩ 0 k ⟨l.toArray⟩=(splitB (c.toNat:Int) l).map λx=>⟨x.toArray⟩:=by
 induction k generalizing l with
 | zero=>
  rw [Tr];have:=TD c l;cases hf:rv c l with
  | none=>simp [Lib.splitB]
  | some i=>rw [hf] at this;simp only at this;omega
 | succ k ih=>
  have hc:=TD c l;rw [Tr];cases hf:rv c l with
  | none=>rw [hf] at hc;simp only at hc;omega
  | some i=>
   rw [hf] at hc;simp only at hc;have hi:Lib.indexB ⟨l.toArray⟩ ⟨#[c]⟩=(i:Int):=by
    show Lib.index l [c]=_;rw [qrX,hf];rfl
   have h1:¬ (i:Int)=-1:=O
   simp only [Lib.splitB,hi,fl,h1,bY,aN];have e1:(⟨l.toArray⟩:ByteArray).extract 0 ((i:Int).toNat+0)=⟨(l.take i).toArray⟩:=by rw [TA];simp
   have e2:(⟨l.toArray⟩:ByteArray).extract ((i:Int).toNat+(⟨#[c]⟩:ByteArray).size) (⟨l.toArray⟩:ByteArray).size=⟨(l.drop (i+1)).toArray⟩:=by
    rw [TA];have:(⟨#[c]⟩:ByteArray).size=1:=rfl;rw [this];have h2:(⟨l.toArray⟩:ByteArray).size=l.length:=by simp [dH]
    rw [h2,aK Ξ];simp
   rw [e1,e2,ih _ O]
def J'(c:UInt8)(l:List UInt8):(splitB (c.toNat:Int) l).length=l.count c+1:=by
 generalize hn:l.length=n;induction n using Nat.strongRecOn generalizing l with
 | ind n ih=>
  rw [Tr,TD];cases hf:rv c l with
  | none=>rfl
  | some i=>
   simp only [aw];rw [ih (l.drop (i+1)).length (by have:=qzw hf;simp;omega) _ rfl]
section
def q_{A:Nat}{l:List (List UInt8)}{ty:TypeId}(h:s'.heap[A]?=some (.cells ((l.map λx=>(⟨x.toArray⟩:ByteArray)).map Value.string).toArray ty fz))(hu:∀ x∈l,x.length<=9223372036854775807)(hn:l.length<=9223372036854775807):iO s' (jZ A) l.length l.length l:=by
 refine ⟨Z,ay _,hn,λi x hi=>⟨A,0,[St x],Z,?_,Z,Z,hu x (ax hi)⟩⟩;refine iy.one ?_;simp [World.cell?,h,hi]
def qm1{c:UInt8}(hl:l.length<=4000000):jU D 139 [St l,St [c],iB 0,iB (-1)] L s λv L' s'=>L=L'/\∃ A n c',v=.slice A n c'/\iO s' A n c' (splitB (c.toNat:Int) l):=
  AC.of_calls qpu λho=>by
    have jp:(⟨l.toArray⟩:ByteArray).size=l.length:=by simp [dH]
    have h1:(⟨#[c]⟩:ByteArray).size=1:=rfl;have hcnt:Lib.countB ⟨l.toArray⟩ ⟨#[c]⟩=l.count c:=Lib.count_one c l;have yk:l.count c<=l.length:=ia;refine (Any.strings_genSplit_core lays221 V ⟨l.toArray⟩ ⟨#[c]⟩ 0 (-1) (l.count c+1) (fill L s) O O O
      (λx cs hx=>?_) ?_ Dc Dc (by rw [au Dc,hcnt,jp];omega)).mono ?_
    . refine (Any.strings_Index_one { lays221 with } x c _).mono λe w' ⟨he,hw⟩=>⟨?_,hw⟩
      rw [he];show _=Ending.returned (iB (Lib.index x.data.toList [c]));rw [X_]
    . refine (Any.strings_Count_one { lays221 with } ⟨l.toArray⟩ c _).mono λe w' ⟨he,hw⟩=>⟨?_,hw⟩
      rw [he,hcnt];rfl
    . rintro e w' ⟨he,hw⟩
      rw [Nat.add_sub_cancel,qpU c _ l rfl] at he hw;have iK:=J' c l;refine ⟨_,he,by rw [hw];exact (Below.refl _ _).alloc (ay _) _,λs' _ _ hnew=>⟨Z,_,_,_,Z,?_⟩⟩;have hs':=hnew (fill L s).heap.size (by rw [oB];exact ay _);rw [hw,fW] at hs';have e2:Lib.cellsOf ((splitB (c.toNat:Int) l).map λx=>(⟨x.toArray⟩:ByteArray)) (l.count c+1)=(((splitB (c.toNat:Int) l).map λx=>(⟨x.toArray⟩:ByteArray)).map Value.string).toArray:=by
        have:=Lib.cellsOf_full ((splitB (c.toNat:Int) l).map λx=>(⟨x.toArray⟩:ByteArray));rw [bB,iK] at this;exact this
      rw [e2] at hs';rw [<- iK,bB];exact q_ hs' (λx hx=>by have:=Ti (c.toNat:Int) [] l x hx;simp at this;omega) O
def xV(c:UInt8):Bool:=!(vc c || un c)
def D4(x:Nat):Bool:=decide (((x:Int) < 97\/122 < (x:Int))/\((x:Int) < 48\/57 < (x:Int)))
def qlb(c:UInt8):D4 c.toNat=xV c:=by
 simp only [D4,xV,vc,un];rw [Bool.eq_iff_iff];simp only [aH,dF,Bool.or_eq_false_iff,Bool.and_eq_false_iff,ei];omega
def qzd{iL:Nat}(h:iL < (⟨l.toArray⟩:ByteArray).size):∃ c,l[iL]?=some c/\(⟨l.toArray⟩:ByteArray)[iL]'h=c:=by simp [fb]
def qCm(l:List UInt8)(f iL:Nat)(h:l.length<=iL+f):decide (0<=Lib.idxFuncFrom D4 true ⟨l.toArray⟩ f iL)=(l.drop iL).any xV:=by
  have jp:(⟨l.toArray⟩:ByteArray).size=l.length:=by simp [dH]
  induction f generalizing iL with
  | zero=>rw [dV O];rfl
  | succ f ih=>
    by_cases hp:iL < (⟨l.toArray⟩:ByteArray).size
    . obtain ⟨c,hc,hg⟩:=qzd hp
      have hd:l.drop iL=c::l.drop (iL+1):=by
        obtain ⟨h1,h2⟩:=al.1 hc;rw [aM h1,h2]
      rw [hd,fw];by_cases ha:c.toNat < 128
      . have e:=decode_ascii ⟨l.toArray⟩ iL hp (by rw [hg];exact ha)
        simp only [Lib.idxFuncFrom,hp,bV,e,hg,qlb];cases hb:xV c with
        | true=>simp
        | false=>simpa using ih (iL+1) O
      . have e:=(decode_high ⟨l.toArray⟩ iL hp (by rw [hg];omega)).1
        have hb:xV c=true:=by rw [<- qlb];simp only [D4,aH];omega
        have hr:D4 (Utf8.decode ⟨l.toArray⟩ iL).1=true:=by simp only [D4,aH];omega
        simp only [Lib.idxFuncFrom,hp,bV,hr,hb];simp
    . rw [Lib.idxFuncFrom_end _ _ _ _ _ hp,dV O];rfl
def qmR:∀ args w,(callFunc 238 args).run prog w=.ok (.enter 238 args) w:=enters_of func238 V rfl
def qlv:∀ args w,(callFunc 191 args).run prog w=.ok (.enter 191 args) w:=enters_of func191 V rfl
def WR{p:Prop} (h:p:=by
 refine ⟨_,he,hb,λs' _ _ _=>⟨?_,Z⟩⟩;have:=qCm l (⟨l.toArray⟩:ByteArray).size 0 (by simp [dH]);rw [cm] at this;rw [<- this];rfl):p:=h
def qmM:jT D 213 [St l,.func (.func 238) #[] #[]] L s (.bool (l.any xV)):=
  AC.of_calls ZX λ_=>by
    refine (Any.strings_ContainsFunc_grows laysGw17 238 #[] qmR D4 ⟨l.toArray⟩ (fill L s) (λW x _ _=>?_)).mono ?_
    . exact Te (args:=[.int .i32 (x:Int)]) λD=>qpy
    . rintro e w' ⟨he,hb⟩
      exact WR
def sd:List UInt8->List UInt8->List (List UInt8)
 | lI,[]=>if lI=[] then [] else [lI]
 | lI,x::r=>if x=32 then (if lI=[] then sd [] r else lI::sd [] r) else sd (lI++[x]) r
def vA(l:List UInt8):List (List UInt8):=(splitB 32 l).filter λx=>decide (x≠[])
def NJ(lI l:List UInt8):(uV 32 lI l).filter (λx=>decide (x≠[]))=sd lI l:=by
  induction l generalizing lI with
  | nil=>by_cases h:lI=[]<;>simp [uV,sd,h]
  | cons x l ih=>
    have hx:((x.toNat:Int)=32)↔x=32:=(yQ (c:=32)).symm;by_cases h:x=32
    . by_cases hc:lI=[]<;>simp [uV,sd,h,hc,<- ih]
    . have h':¬ (x.toNat:Int)=32:=λe=>h (hx.1 e)
      simp only [uV,sd,h,h',bY,ih]
def Oi(lI m r:List UInt8)(h:∀ x∈m,x≠32):sd lI (m++r)=sd (lI++m) r:=by
 induction m generalizing lI with
 | nil=>simp
 | cons x m ih=>
  have hx:x≠32:=h x Mc;simp only [ao,sd,hx,bY];rw [ih _ (λy hy=>h y (an _ hy))];simp
def qvw(l:List UInt8)(iL:Nat)(hp:iL < l.length)(c:UInt8)(hc:l[iL]?=some c)(ha:¬ c.toNat < 128):
    ∃ K,(Utf8.decode ⟨l.toArray⟩ iL).2=K/\1<=K/\iL+K<=l.length/\∀ x∈(l.drop iL).take K,x≠32:=by
  have jp:(⟨l.toArray⟩:ByteArray).size=l.length:=by simp [dH]
  have g:∀ i,(⟨l.toArray⟩:ByteArray).get! i=l.getD i 0:=by
    intro i;show (l.toArray)[i]! = _;simp [aG];rfl
  have hd:=Lib.decode_at ⟨l.toArray⟩ iL;rw [jp,g,g,g,g] at hd;have h0:l.getD iL 0=c:=by simp [aG,hc]
  rw [h0] at hd;have key:∀ (K:Nat),1<=K->K<=4->iL+K<=l.length->(∀ j,1<=j->j < K->128<=(l.getD (iL+j) 0).toNat)->∀ x∈(l.drop iL).take K,x≠32:=by
    intro K h1 h4 hK rh x hx e;obtain ⟨j,hj,hxj⟩:=fD.1 hx;have hjK:j < K:=by simp at hj;omega
    have hv:l.getD (iL+j) 0=x:=by
      rw [<- hxj];simp [aG];rw [ap O];rfl
    by_cases oV:j=0
    . subst oV;simp only [bC] at hv;rw [h0] at hv;subst e;subst hv;exact ha Dc
    . have:=rh j O hjK
      rw [hv,e] at this;exact absurd this Dc
  refine ⟨_,Z,?_⟩;rw [hd];unfold Lib.decodeN;rw [ak ha];split
  . rename_i h2
    split
    . refine ⟨Oz,Oz,key 2 O O O (λj h1 hj=>?_)⟩
      obtain rfl:j=1:=O
      omega
    . exact ⟨Oz,Oz,key 1 O O O (λj h1 hj=>O)⟩
  . split
    . rename_i h2 h3
      split
      . refine ⟨Oz,Oz,key 3 O O O (λj h1 hj=>?_)⟩
        rcases (by omega:j=1\/j=2) with rfl|rfl<;>omega
      . exact ⟨Oz,Oz,key 1 O O O (λj h1 hj=>O)⟩
    . split
      . rename_i h2 h3 h4
        split
        . refine ⟨Oz,Oz,key 4 O O O (λj h1 hj=>?_)⟩
          rcases (by omega:j=1\/j=2\/j=3) with rfl|rfl|rfl<;>omega
        . exact ⟨Oz,Oz,key 1 O O O (λj h1 hj=>O)⟩
      . exact ⟨Oz,Oz,key 1 O O O (λj h1 hj=>O)⟩
def C0(x:Nat):Bool:=decide ((x:Int)=32)
def CS(l:List UInt8)(x:Nat×Nat):List UInt8:=(l.drop x.1).take (x.2 - x.1)
def AN(l:List UInt8)(iL:Nat):Option Nat->List UInt8
 | none=>[]
 | some a=>(l.drop a).take (iL - a)
def qtu(l:List UInt8){a iL:Nat}(h:a<=iL):(l.drop a).take (iL+K - a)=(l.drop a).take (iL - a)++(l.drop iL).take K:=by
 have:iL+K - a=(iL - a)+K:=O
 rw [this,List.take_add,List.drop_drop];have e:a+(iL - a)=iL:=O
 rw [e]
def qmj(l:List UInt8)(iL:Nat)(st:Option Nat)(acc:List (Nat×Nat))(h:l.length<=iL)(nJ:∀ a,st=some a->a < iL/\iL<=l.length):
  (Lib.closeSpans ⟨l.toArray⟩ (acc,st)).map (CS l)=acc.map (CS l)++sd (AN l iL st) (l.drop iL):=by
 have jp:(⟨l.toArray⟩:ByteArray).size=l.length:=by simp [dH]
 rw [dV h];cases st with
 | none=>simp [Lib.closeSpans,AN,sd]
 | some a=>
  obtain ⟨h1,h2⟩:=nJ a rfl;have hp:iL=l.length:=O
  subst hp;have mL:(l.drop a).take (l.length - a)≠[]:=by
   intro e;have:=bl List.length e;simp at this;omega
  simp [Lib.closeSpans,AN,sd,mL,CS,jp]
def qtd(l:List UInt8)(f iL:Nat)(st:Option Nat)(acc:List (Nat×Nat))(h:l.length<=iL+f)(nJ:∀ a,st=some a->a < iL/\iL<=l.length):
    (Lib.closeSpans ⟨l.toArray⟩ (Lib.spansFromP C0 ⟨l.toArray⟩ f iL st acc)).map (CS l)=acc.map (CS l)++sd (AN l iL st) (l.drop iL):=by
  have jp:(⟨l.toArray⟩:ByteArray).size=l.length:=by simp [dH]
  induction f generalizing iL st acc with
  | zero=>exact qmj l iL st acc O nJ
  | succ f ih=>
    by_cases hp:iL < (⟨l.toArray⟩:ByteArray).size
    . obtain ⟨c,hc,hg⟩:=qzd hp
      have zi:iL < l.length:=O
      have hd:l.drop iL=c::l.drop (iL+1):=by
        obtain ⟨h1,h2⟩:=al.1 hc;rw [aM h1,h2]

      have go:∀ K,(Utf8.decode ⟨l.toArray⟩ iL).2=K->C0 (Utf8.decode ⟨l.toArray⟩ iL).1=false->1<=K->iL+K<=l.length->(∀ x∈(l.drop iL).take K,x≠32) ->
          (Lib.closeSpans ⟨l.toArray⟩ (Lib.spansFromP C0 ⟨l.toArray⟩ (f+1) iL st acc)).map (CS l)=acc.map (CS l)++sd (AN l iL st) (l.drop iL):=by
        intro K hK hb h1 h2 rh;have jH:sd (AN l iL st) (l.drop iL)=sd (AN l iL st++(l.drop iL).take K) (l.drop (iL+K)):=by
          conv=>lhs;rw [<- eB K (l.drop iL),List.drop_drop]
          exact Oi _ _ _ rh
        rw [jH];simp only [Lib.spansFromP,hp,bV,hb,hK,dq,bY];cases st with
        | none=>
          simp only;rw [ih (iL+K) (some iL) acc O (λa ha=>by injection ha with ha;omega)];simp only [AN,aC];congr 3;omega
        | some a=>
          obtain ⟨ha1,ha2⟩:=nJ a rfl;simp only;rw [ih (iL+K) (some a) acc O (λa' ha=>by injection ha with ha;omega)];simp only [AN];rw [qtu l O]
      by_cases ha:c.toNat < 128
      . have e:=decode_ascii ⟨l.toArray⟩ iL hp (by rw [hg];exact ha)
        rw [hg] at e;by_cases h32:c=32
        . have hb:C0 (Utf8.decode ⟨l.toArray⟩ iL).1=true:=by rw [e,h32];rfl
          rw [hd];simp only [Lib.spansFromP,hp,bV,hb];cases st with
          | none=>
            simp only [e];rw [ih (iL+1) none acc O (λa ha=>by cases ha)];simp [AN,sd,h32]
          | some a=>
            obtain ⟨ha1,ha2⟩:=nJ a rfl;have mL:(l.drop a).take (iL - a)≠[]:=by
              intro e;have:=bl List.length e;simp at this;omega
            simp only [e];rw [ih (iL+1) none _ O (λa ha=>by cases ha)];simp [AN,sd,h32,mL,CS]
        . refine go 1 (by rw [e]) ?_ O O ?_
          . rw [e]
            simp only [C0,ei];exact λh=>h32 ((yQ (c:=32)).2 h)
          . rw [hd];simpa using h32
      . obtain ⟨K,hK,h1,h2,h3⟩:=qvw l iL zi c hc ha
        refine go K hK ?_ h1 h2 h3;have:=(decode_high ⟨l.toArray⟩ iL hp (by rw [hg];omega)).1;simp only [C0,ei];omega
    . rw [Lib.spansFromP_end _ _ _ _ _ _ hp]
      exact qmj l iL st acc O nJ
def qvt(l:List UInt8):Lib.goFieldsP C0 ⟨l.toArray⟩=(vA l).map λx=>⟨x.toArray⟩:=by
 have jp:(⟨l.toArray⟩:ByteArray).size=l.length:=by simp [dH]
 have h:=qtd l (⟨l.toArray⟩:ByteArray).size 0 none [] O (λa ha=>by cases ha);simp only [dE,aC,AN,cm] at h;rw [<- NJ] at h;show (Lib.closeSpans ⟨l.toArray⟩ (Lib.spansFromP C0 ⟨l.toArray⟩ (⟨l.toArray⟩:ByteArray).size 0 none [])).map (λx=>(⟨l.toArray⟩:ByteArray).extract x.1 x.2)=_;rw [vA,splitB,<- h,fR];congr 1;funext x;simp only [Function.comp,TA,CS]
def qrB{x:List UInt8}(h:x∈vA l):x≠[]/\x.length<=l.length:=by
 obtain ⟨h1,h2⟩:=fL.1 h;have:=Ti 32 [] l x h1;exact ⟨by simpa using h2,by simpa using this⟩
def qB7(l:List UInt8):(vA l).length<=l.length+1:=ea (List.length_filter_le _ _) (qpW 32 [] l)
def qrw(hl:l.length<=4000000):jU D 190 [St l,.func (.func 191) #[] #[]] L s λv L' s'=>L=L'/\∃ A n c',v=.slice A n c'/\iO s' A n c' (vA l):=
  AC.of_calls qmY λ_=>by
    have jp:(⟨l.toArray⟩:ByteArray).size=l.length:=by simp [dH]
    refine (Any.strings_FieldsFunc_grows lays229 191 #[] qlv C0 ⟨l.toArray⟩ (fill L s) O (λW x _ _=>?_) V V).mono ?_
    . exact Te (args:=[.int .i32 (x:Int)]) λD=>qlY
    . rintro e w' ⟨A,he,hA,pw,hb⟩
      refine ⟨_,he,hb,λs' _ _ hnew=>⟨Z,_,_,_,Z,?_⟩⟩;rw [qvt,bB] at pw ⊢;rcases pw.2 with ⟨h0,_⟩|⟨g,cap,lI,h1,h2,h3,h4,h5,h6,h7⟩
      . cases h0
      . injection h1 with h1 _ hcap
        injection h1 with h1;injection h1 with h1;subst h1;subst hcap;rw [<- hnew A (by rw [oB] at hA;exact hA)] at h3;have hcur:lI=(((vA l).map λx=>(⟨x.toArray⟩:ByteArray)).map Value.string).toArray:=by
          have e1:lI.toList=((vA l).map λx=>(⟨x.toArray⟩:ByteArray)).map Value.string:=by
            rw [<- h7,aK (by rw [fO,h6];exact ay _)]
          rw [<- e1,Array.toArray_toList]
        rw [hcur] at h3;exact q_ h3 (λx hx=>by have:=(qrB hx).2;omega) (by have:=qB7 l;omega)
end
end
end Go.Proofs.YtemgonlhniicbaaGreatDoor
