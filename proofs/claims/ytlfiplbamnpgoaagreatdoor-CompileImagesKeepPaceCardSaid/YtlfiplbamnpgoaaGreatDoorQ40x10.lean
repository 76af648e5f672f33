/- Part 10. -/
import Derived.Test.YtlfiplbamnpgoaaGreatDoorQ39x9
import Derived.ProofKit
import Derived.OpenShut
import Derived.SizedLaws
import Derived.Deep.Slices
import Derived.Test.YtlfiplbamnpgoaaGreatDoorRows
import Derived.Lay
import Derived.Lib.LaidTab
import Derived.Stop.LaidErr
import Derived.SevenTiedAt
import Derived.Test.YtlfiplbamnpgoaaGreatDoorCards
import Derived.Test.YtlfiplbamnpgoaaGreatDoorTie
set_option linter.unusedSectionVars false
set_option linter.unusedVariables false
set_option linter.defProp false
set_option linter.unusedSimpArgs false
set_option linter.unnecessarySimpa false
set_option maxRecDepth 100000
set_option maxHeartbeats 8000000
namespace Go.Proofs.YtlfiplbamnpgoaaGreatDoor
open Go Go.FL
variable(D:Nat)(L:Hl)(s:World){I:Im}{c:List Int}{q n j:Nat}{x:Fnc}{p:Prg}{inp:Str}
section
variable{I:Im}{n:Nat}(hI:I.OK)(hO:OPK I.OP)(hE:PE I n){x:Fnc}(hx:x∈I.p.funcs){lp w kk k2 a q F σ:Nat}{m:MS}{c:List Int}{av b:Int}{o:Int}{y z:Ex}(hq:q<=I.G)(hM:MR I c m)(hF:FR x F c m.frm)(hH:I.H<=F)(hl:m.left≠0)
include hE hx hH in
theorem qD9{β:Type}(hv:exV z=true)(hu:exU z=true)(hd:∀ nd∈ndX z lp,ndC I.p x nd=0){m2:MS}{w' a' q' j:Nat}{c2:List Int}{av' b':Int}{s:Mst}(hcd:Cd I.img I.lab a' (cE I.p x z w' kk).1 q')(hq':q'<=I.G)(hM2:MR I c2 m2)(hF2:FR x F c2 m2.frm)(hD:dX z<=σ)(hr:F+szF x+w'+6 * dX z+120 * (100 - m2.calls)<=65530)
  (R:Rch s j (ms c2 av' b' ((F+szF x+w':Nat):Int) (m2.calls:Int) (a':Int) m2.inp m2.out)) (h1:j+40 * m2.left<=40 * m.left) (h2:m.left<=m2.left+40 * j) {K:Int->MS->ER β} (X:ER β->Prop) (hX:X .out) (hFn:∀ m' st cd,FNo σ s m m' st cd->X (.fin m' st cd))
  (hK:∀ v m3 k c3 b3,Rch s k (ms c3 v b3 ((F+szF x+w':Nat):Int) (m3.calls:Int) (q':Int) m3.inp m3.out)->MR I c3 m3->SK I c2 c3 (F+szF x+w')->m3.frm=m2.frm->m3.calls=m2.calls->U32 v->k+2+40 * m3.left+40 * m2.left<=40 * m2.left+j+40 * m2.left->m.left<=m3.left+40 * k->X (K v m3)):X (((sem I.p I.OP n).e x z m2).and K):=by
 refine OE.bind X hX hFn (hE x z lp w' kk a' q' m2 c2 F av' b' hx hv hu hd hcd hq' hM2 hF2 hH hr) R h1 (δ:=0) O hD λv m3 h=>?_;obtain ⟨k,c3,b3,R2,hM3,hS3,hf,hc,hU,k1,k3⟩:=h;exact hK v m3 (j+k) c3 b3 (R.trans R2) hM3 hS3 hf hc hU O O
include hI hO hE hx hq hM hF hH hl
theorem qC3(hv:exV y=true)(hu:exU y=true)(hd:∀ nd∈ndX y lp,ndC I.p x nd=0)(hcd:Cd I.img I.lab a ((cE I.p x y w kk).1++[.op qcv]) q)(hσ:dX y+1<=σ)(hr:F+szF x+w+6 * dX y+120 * (100 - m.calls)<=65530):
  OE I 2 σ (ms c av b ((F+szF x+w:Nat):Int) (m.calls:Int) (a:Int) m.inp m.out) c (F+szF x+w) q m (((sem I.p I.OP n).e x y (dn m)).and λa m=>.ok ((I.OP 1 a 0).getD 0) m):=by
 obtain ⟨q1,d1,d2⟩:=hcd.app;obtain ⟨c1,c3,c4⟩:=d2.op;cases (show q1+1=q from c3);refine kid (j:=0) (w':=w) (c':=c) hE hx hM hF hH hl hv hu hd d1 O hM .refl (Nat.le_refl _) hσ hr (.nil _) O (OE I 2 σ _ c _ _ m) Tt (λ_ _ _ h=>h) λv m2 k c2' b2 R hM2 hS hf hc hU k1 k2 hF2 _=>?_;rw [hO.una 1 v Dc Dc hU,if_pos rfl];exact ⟨_,c2',_,R.trans (.one rfl (qga (hM2.cell c1 O))),hM2,hS,hf,hc,b01,by omega,by omega⟩
theorem qC2(ho:o=2\/o=3)(hv:exV y=true)(hu:exU y=true)(hd:∀ nd∈ndX y lp,ndC I.p x nd=0)(hcd:Cd I.img I.lab a (.num qeE (if o=3 then 4294967295 else 0)::.op qcq::(cE I.p x y (w+1) kk).1++[.op qAj]) q)(hσ:dX y+1<=σ)(hr:F+szF x+w+6+6 * dX y+120 * (100 - m.calls)<=65530):
  OE I 2 σ (ms c av b ((F+szF x+w:Nat):Int) (m.calls:Int) (a:Int) m.inp m.out) c (F+szF x+w) q m (((sem I.p I.OP n).e x y (dn m)).and λa m=>.ok ((I.OP o a 0).getD 0) m):=by
 obtain ⟨q1,d1,d2⟩:=hcd.app;obtain ⟨c1,c3,c4⟩:=d2.op;cases (show q1+1=q from c3);obtain ⟨e1,e2,e3,e4⟩:=d1.num Dc Dc;obtain ⟨e5,e6,e7⟩:=Cd.op e3;have hlen:=hM.len;generalize hN:(if o=3 then (4294967295:Int) else 0)=N at e2;have hNu:U32 N:=by subst hN;split<;>exact ⟨by omega,by omega⟩
 have s1:=qpe (a:=av) (b:=b) (C:=((F+szF x+w:Nat):Int)) (d:=(m.calls:Int)) (i:=m.inp) (o:=m.out) (hM.cell e1 O) (hM.cell e2 O);have s2:=qjX (a:=N) (b:=b) (q:=F+szF x+w) (d:=(m.calls:Int)) (i:=m.inp) (o:=m.out) (hM.cell e5 O) O hlen;refine kid (j:=2) (w':=w+1) (c':=c.set (F+szF x+w) N) hE hx hM hF hH hl hv hu hd e6 O (hM.push hI O) (.set (.inr (Nat.le_refl _))) O hσ O ((Rch.one Z s1).trans (Rch.one Z s2)) O (OE I 2 σ _ c _ _ m) Tt (λ_ _ _ h=>h) λv m2 k c2' b2 R hM2 hS hf hc hU k1 k2 hF2 _=>?_;have hcell:c2'[F+szF x+w]?=some N:=(hS _ O O).trans (List.getElem?_set_self O);have hsub:OpR c2' N v (F+szF x+w) q1 (q1+1) b2 (m2.calls:Int) m2.inp m2.out (some (comp 2 N v)):=qdX (n:=qAj) (lab:=I.lab) (d2.mono λk _ h v' hv'=>hM2.cell hv' O) O hcell rfl rfl rfl rfl Dc rfl (qb2 hNu hU);obtain ⟨_,k',b',_,k3,R3⟩:=hsub;have e9:(I.OP o v 0).getD 0=comp 2 N v:=by
  rw [hO.una o v O O hU,if_neg O,hN];rfl
 rw [e9];exact ⟨_,c2',_,R.trans R3,hM2,(SK.set (.inr (Nat.le_refl _))).trans hS O,hf,hc,qb2 hNu hU,by omega,by omega⟩
theorem qC1(ho:4<=o/\o<=19)(hv:exV y=true)(hu:exU y=true)(hd:∀ nd∈ndX y lp,ndC I.p x nd=0)(hvz:exV z=true)(huz:exU z=true)(hdz:∀ nd∈ndX z lp,ndC I.p x nd=0)(hcd:Cd I.img I.lab a ((cE I.p x y w kk).1++.op qcq::(cE I.p x z (w+1) k2).1++(opN o).map .op) q)(hσ:dX y+1<=σ)(hσz:dX z+1<=σ)(hr:F+szF x+w+6+6 * dX y+120 * (100 - m.calls)<=65530)(hrz:F+szF x+w+6+6 * dX z+120 * (100 - m.calls)<=65530):
  OE I 2 σ (ms c av b ((F+szF x+w:Nat):Int) (m.calls:Int) (a:Int) m.inp m.out) c (F+szF x+w) q m (((sem I.p I.OP n).e x y (dn m)).and λa m=>((sem I.p I.OP n).e x z m).and λb m=>match I.OP o a b with|some v=>.ok v m|none=>.fin m 1 2):=by
 obtain ⟨q2,d1,d2⟩:=hcd.app;obtain ⟨q1,d3,d4⟩:=d1.app;obtain ⟨c1,c3,c4⟩:=d4.op;have hle:=d2.le;refine kid (j:=0) (w':=w) (c':=c) hE hx hM hF hH hl hv hu hd d3 O hM .refl (Nat.le_refl _) hσ O (.nil _) O (OE I 2 σ _ c _ _ m) Tt (λ_ _ _ h=>h) λv m2 k c2' b2 R hM2 hS hf hc hU k1 k3 hF2 _=>?_;have hlen:=hM2.len;have s2:=qjX (a:=v) (b:=b2) (q:=F+szF x+w) (d:=(m2.calls:Int)) (i:=m2.inp) (o:=m2.out) (hM2.cell c1 O) O hlen;have hS2:SK I c2' (c2'.set (F+szF x+w) v) (F+szF x+w):=.set (.inr (Nat.le_refl _));refine qD9 (m:=m) (σ:=σ) hE hx hH hvz huz hdz (w':=w+1) c3 O (hM2.push hI O) (hF2.keep hS2 hH O) O Q19 (R.trans (Rch.one Z s2)) O O (OE I 2 σ _ c _ _ m) Tt (λ_ _ _ h=>h) λv2 m3 k4 c3' b3 R3 hM3 hS3 hf3 hc3 hU3 k5 k6=>?_;have hcell:c3'[F+szF x+w]?=some v:=(hS3 _ O O).trans (List.getElem?_set_self O);have hop:=qDn (o:=o) (lab:=I.lab) (b:=b3) (d:=(m3.calls:Int)) (i:=m3.inp) (oo:=m3.out) ho.1 ho.2 hU hU3 (d2.mono λk _ h v' hv'=>hM3.cell hv' O) O hcell;rw [hO.bin o v v2 ho.1 ho.2 hU hU3];cases hr0:opM o v v2 with
 | none=>
  rw [hr0] at hop;obtain ⟨s',R4,o1,o2,o3⟩:=hop;exact ⟨_,_,R3.trans R4,o1,o2,λ_=>o3,by omega,by omega,λh=>absurd h Dc⟩
 | some u=>
  rw [hr0] at hop;obtain ⟨hu1,k',b',_,k7,R4⟩:=hop;exact ⟨_,c3',_,R3.trans R4,hM3,(hS.trans hS2 (Nat.le_refl _)).trans hS3 O,hf3.trans hf,hc3.trans hc,hu1,by omega,by omega⟩
end
section
variable{I:Im}{n:Nat}(hI:I.OK)(hO:OPK I.OP)(hE:PE I n)(hC:PC I n){x:Fnc}(hx:x∈I.p.funcs){lp w kk k2 kl a q F σ:Nat}{m:MS}{c:List Int}{av b:Int}{nm:Str}{y z:Ex}(hq:q<=I.G)(hM:MR I c m)(hF:FR x F c m.frm)(hH:I.H<=F)(hl:m.left≠0)
include hI hO hE hx hq hM hF hH hl
def Ez52{p:Prop} (h:p:=by
 rw [e] at s3;exact ⟨_,c3',b3,(R3.trans (.one rfl s2)).trans (.one rfl s3),hM3,hS.trans hS3 (Nat.le_refl _),hf3.trans hf,hc3.trans hc,by split<;>exact ⟨by omega,by omega⟩,by omega,by omega⟩):p:=h
theorem qC0(hv:exV y=true)(hu:exU y=true)(hd:∀ nd∈ndX y lp,ndC I.p x nd=0)(hvz:exV z=true)(huz:exU z=true)(hdz:∀ nd∈ndX z lp,ndC I.p x nd=0)(hcd:Cd I.img I.lab a ((cE I.p x y w kk).1++.ref qb9 (lT kl)::(cE I.p x z w k2).1++[.op qcv,.op qcv,.lab (lT kl)]) q)(hσ:dX y+1<=σ)(hσz:dX z+1<=σ)(hr:F+szF x+w+6+6 * dX y+120 * (100 - m.calls)<=65530)(hrz:F+szF x+w+6+6 * dX z+120 * (100 - m.calls)<=65530):
    OE I 2 σ (ms c av b ((F+szF x+w:Nat):Int) (m.calls:Int) (a:Int) m.inp m.out) c (F+szF x+w) q m (((sem I.p I.OP n).e x y (dn m)).and λa m=>if a=0 then .ok 0 m else ((sem I.p I.OP n).e x z m).and λb m=>match I.OP 20 a b with|some v=>.ok v m|none=>.fin m 1 2):=by
  obtain ⟨q2,d1,d2⟩:=hcd.app;obtain ⟨q1,d3,d4⟩:=d1.app;obtain ⟨c1,c2,c3,c4⟩:=d4.ref;obtain ⟨f1,f2,f3⟩:=d2.op;obtain ⟨f4,f5,f6⟩:=Cd.op f2;obtain ⟨f7,f8⟩:=Cd.lbl f5;cases (show q2+1+1=q from f8);refine kid (j:=0) (w':=w) (c':=c) hE hx hM hF hH hl hv hu hd d3 O hM .refl (Nat.le_refl _) hσ O (.nil _) O (OE I 2 σ _ c _ _ m) Tt (λ_ _ _ h=>h) λv m2 k c2' b2 R hM2 hS hf hc hU k1 k3 hF2 _=>?_;have s1:=qg7 (a:=v) (b:=b2) (C:=((F+szF x+w:Nat):Int)) (d:=(m2.calls:Int)) (i:=m2.inp) (o:=m2.out) (hM2.cell c1 O) (hM2.cell c2 O);by_cases h0:v=0
  · rw [if_pos h0] at s1
    show OE I 2 σ _ c _ _ m (if v=0 then _ else _);rw [if_pos h0];rw [f7] at s1;subst h0;exact ⟨_,c2',b2,R.trans (.one rfl s1),hM2,hS,hf,hc,⟨by omega,by omega⟩,by omega,by omega⟩
  · rw [if_neg h0] at s1
    show OE I 2 σ _ c _ _ m (if v=0 then _ else _);rw [if_neg h0];refine qD9 (m:=m) (σ:=σ) hE hx hH hvz huz hdz (w':=w) c3 O hM2 hF2 O Q19 (R.trans (Rch.one Z s1)) O O (OE I 2 σ _ c _ _ m) Tt (λ_ _ _ h=>h) λv2 m3 k4 c3' b3 R3 hM3 hS3 hf3 hc3 hU3 k5 k6=>?_;rw [hO.and_];have s2:=qga (a:=v2) (b:=b3) (C:=((F+szF x+w:Nat):Int)) (d:=(m3.calls:Int)) (i:=m3.inp) (o:=m3.out) (hM3.cell f1 O);have s3:=qga (a:=if v2=0 then 1 else 0) (b:=b3) (C:=((F+szF x+w:Nat):Int)) (d:=(m3.calls:Int)) (i:=m3.inp) (o:=m3.out) (hM3.cell f4 O);have e:(if (if v2=0 then (1:Int) else 0)=0 then (1:Int) else 0)=if v=0\/v2=0 then 0 else 1:=by by_cases h2:v2=0<;>simp [h0,h2]
    exact Ez52
theorem qFw(hv:exV y=true)(hu:exU y=true)(hd:∀ nd∈ndX y lp,ndC I.p x nd=0)(hvz:exV z=true)(huz:exU z=true)(hdz:∀ nd∈ndX z lp,ndC I.p x nd=0)(hcd:Cd I.img I.lab a ((cE I.p x y w kk).1++.op qcv::.ref qb9 (lT kl)::(cE I.p x z w k2).1++[.op qcv,.lab (lT kl),.op qcv]) q)(hσ:dX y+1<=σ)(hσz:dX z+1<=σ)(hr:F+szF x+w+6+6 * dX y+120 * (100 - m.calls)<=65530)(hrz:F+szF x+w+6+6 * dX z+120 * (100 - m.calls)<=65530):
    OE I 2 σ (ms c av b ((F+szF x+w:Nat):Int) (m.calls:Int) (a:Int) m.inp m.out) c (F+szF x+w) q m (((sem I.p I.OP n).e x y (dn m)).and λa m=>if a≠0 then .ok 1 m else ((sem I.p I.OP n).e x z m).and λb m=>match I.OP 21 a b with|some v=>.ok v m|none=>.fin m 1 2):=by
  obtain ⟨q2,d1,d2⟩:=hcd.app;obtain ⟨q1,d3,d4⟩:=d1.app;obtain ⟨c0,d5,c5⟩:=d4.op;obtain ⟨c1,c2,c3,c4⟩:=Cd.ref d5;obtain ⟨f1,f2,f3⟩:=d2.op;obtain ⟨f7,f8⟩:=Cd.lbl f2;obtain ⟨f4,f5,f6⟩:=Cd.op f8;cases (show q2+1+1=q from f5);refine kid (j:=0) (w':=w) (c':=c) hE hx hM hF hH hl hv hu hd d3 O hM .refl (Nat.le_refl _) hσ O (.nil _) O (OE I 2 σ _ c _ _ m) Tt (λ_ _ _ h=>h) λv m2 k c2' b2 R hM2 hS hf hc hU k1 k3 hF2 _=>?_;have s0:=qga (a:=v) (b:=b2) (C:=((F+szF x+w:Nat):Int)) (d:=(m2.calls:Int)) (i:=m2.inp) (o:=m2.out) (hM2.cell c0 O);have s1:=qg7 (a:=if v=0 then 1 else 0) (b:=b2) (C:=((F+szF x+w:Nat):Int)) (d:=(m2.calls:Int)) (i:=m2.inp) (o:=m2.out) (hM2.cell c1 O) (hM2.cell c2 O);by_cases h0:v=0
  · show OE I 2 σ _ c _ _ m (if v≠0 then _ else _)
    rw [if_neg (λh=>h h0)];rw [if_pos h0] at s0 s1;rw [if_neg Dc] at s1;refine qD9 (m:=m) (σ:=σ) hE hx hH hvz huz hdz (w':=w) c3 O hM2 hF2 O Q19 ((R.trans (Rch.one Z s0)).trans (Rch.one Z s1)) O O (OE I 2 σ _ c _ _ m) Tt (λ_ _ _ h=>h) λv2 m3 k4 c3' b3 R3 hM3 hS3 hf3 hc3 hU3 k5 k6=>?_;rw [hO.or_];have s2:=qga (a:=v2) (b:=b3) (C:=((F+szF x+w:Nat):Int)) (d:=(m3.calls:Int)) (i:=m3.inp) (o:=m3.out) (hM3.cell f1 O);have s3:=qga (a:=if v2=0 then 1 else 0) (b:=b3) (C:=((F+szF x+w:Nat):Int)) (d:=(m3.calls:Int)) (i:=m3.inp) (o:=m3.out) (hM3.cell f4 O);have e:(if (if v2=0 then (1:Int) else 0)=0 then (1:Int) else 0)=if v=0/\v2=0 then 0 else 1:=by by_cases h2:v2=0<;>simp [h0,h2]
    exact Ez52
  · show OE I 2 σ _ c _ _ m (if v≠0 then _ else _)
    rw [if_pos h0];rw [if_neg h0] at s0 s1;rw [if_pos rfl,f7] at s1;have s3:=qga (a:=0) (b:=b2) (C:=((F+szF x+w:Nat):Int)) (d:=(m2.calls:Int)) (i:=m2.inp) (o:=m2.out) (hM2.cell f4 O);rw [if_pos rfl] at s3;exact ⟨_,c2',b2,((R.trans (.one rfl s0)).trans (.one rfl s1)).trans (.one rfl s3),hM2,hS,hf,hc,⟨by omega,by omega⟩,by omega,by omega⟩
include hC
theorem qpI{az:List Ex}(hv:qeG az=true)(hu:qfQ az=true)(hd:∀ nd∈qfI az lp,ndC I.p x nd=0)(hn:qeT I.p x (nm,4,(az.length:Int))=0)(hcd:Cd I.img I.lab a ((cC I.p x az w kk).1++cL I.p nm az.length) q)(hσ:dXs az+1<=σ)(hr:F+szF x+w+6+6 * dXs az+120 * (100 - m.calls)<=65530):
    OE I 2 σ (ms c av b ((F+szF x+w:Nat):Int) (m.calls:Int) (a:Int) m.inp m.out) c (F+szF x+w) q m ((qbf ((sem I.p I.OP n).e x) az (dn m)).and λvs m=>(sem I.p I.OP n).c (qiv I.p nm).toNat vs m):=by
  obtain ⟨q1,d1,d2⟩:=hcd.app;unfold cL at d2;obtain ⟨c1,c2,c3,c4⟩:=d2.ref;obtain ⟨_,h2⟩:=(qkA hn Dc).resolve_left (λh=>by omega);obtain ⟨_,i,f,h3,h4,h5,h6⟩:=h2.resolve_left (λ⟨_,_,_,_,_,h⟩=>by omega);have hp6:=(hI.fn f (List.mem_of_getElem? h5)).1.p6;rw [h3] at c2;rw [h4,Int.toNat_natCast];have ha:=qob (n:=n) hI hE hx lp az w kk a q1 (dn m) c F av b hv hu hd d1 O hM.dn hF hH (by show _+120 * (100 - m.calls)<=_;omega);cases hr1:qbf ((sem I.p I.OP n).e x) az (dn m) with
  | out=>trivial
  | fin m' st cd=>
    rw [hr1] at ha;exact FNo.pre ha (.nil _) (by show 0+40 * (m.left - 1)<=40 * m.left;omega) (by show m.left+dXs az<=m.left - 1+40 * 0+σ;omega)
  | ok vs m2=>
    rw [hr1] at ha;obtain ⟨k,c2',a2,b2,R,hM2,hS,hf,hc,hn2,hv2,k1,k3⟩:=ha;have k1:k+40 * m2.left<=40 * (m.left - 1):=k1;have k3:m.left - 1<=m2.left+40 * k:=k3;have hc:m2.calls=m.calls:=hc;have hlen:az.length=f.params.length:=by omega
    have h:=hC i f vs q1 m2 c2' (F+szF x+w) a2 b2 h5 O hv2 c1 c2 O hM2 O Q19;rw [<- hlen] at h;show OE I 2 σ _ c _ _ m ((sem I.p I.OP n).c i vs m2);cases hr2:(sem I.p I.OP n).c i vs m2 with
    | out=>trivial
    | fin m' st cd=>
      rw [hr2] at h;exact FNo.pre h R (by show k+40 * (m2.left+1)<=40 * m.left;omega) (by show m.left+0<=m2.left+1+40 * k+σ;omega)
    | ok v m3=>
      rw [hr2] at h;obtain ⟨k',c3',b3,R3,hM3,hS3,hf3,hc3,hU3,k5,k6⟩:=h;have k5:k'+3+40 * m3.left<=40 * (m2.left+1):=k5;have k6:m2.left+1<=m3.left+40 * k':=k6;by_cases h0:0 < az.length
      · rw [if_pos h0] at c3
        obtain ⟨e1,e2,e3,e4⟩:=Cd.num c3 Dc Dc;cases (show q1+2+2=q from e3);have s1:=qCM (a:=v) (b:=b3) (C:=((F+szF x+w+az.length:Nat):Int)) (d:=(m3.calls:Int)) (i:=m3.inp) (o:=m3.out) (hM3.cell e1 O) (hM3.cell e2 O);rw [show w32 (((F+szF x+w+az.length:Nat):Int) - (az.length:Int))=((F+szF x+w:Nat):Int) by unfold w32;omega] at s1;exact ⟨_,c3',b3,(R.trans R3).trans (.one rfl s1),hM3,hS.trans (hS3.le O) (Nat.le_refl _),hf3.trans hf,hc3.trans hc,hU3,by omega,by omega⟩
      · rw [if_neg h0] at c3
        cases (show q1+2=q from c3);rw [show F+szF x+w+az.length=F+szF x+w by omega] at R R3;exact ⟨_,c3',b3,R.trans R3,hM3,hS.trans hS3 (Nat.le_refl _),hf3.trans hf,hc3.trans hc,hU3,by omega,by omega⟩
end
def OE.mono{τ σ σ':Nat}{s:Mst}{C:Nat}{m:MS}{r:ER Int}(h:OE I τ σ s c C q m r)(hs:σ<=σ'):OE I τ σ' s c C q m r:=by
 cases r with
 | out=>trivial
 | ok v m'=>exact h
 | fin m' st cd=>
  obtain ⟨k,s',r1,r2,r3,r4,r5,r6,r7⟩:=h;exact ⟨k,s',r1,r2,r3,r4,r5,by omega,r7⟩
def qwx(hI:I.OK)(hO:OPK I.OP)(hE:PE I n)(hC:PC I n):PE I (n+1):=by
  rintro x ⟨kd,o,nu,nm,az⟩ lp w kk a q m c F av b hx hv hu hd hcd hq hM hF hH hr;obtain ⟨hc,hvs⟩:=qdW hv;obtain ⟨k1,k7,a1,a2,a3,a4⟩:=qcC hc;simp only [exU,Bool.and_eq_true,decide_eq_true_eq] at hu;have hd0:=hd _ Mc;have hds:∀ nd∈qfI az lp,ndC I.p x nd=0:=λnd h=>hd nd (List.mem_cons_of_mem _ h);simp only [Ex.kind,Ex.op,Ex.args,Ex.name] at a1 a2 a3 a4 k1 k7 hvs;rw [dX] at hr ⊢;show OE I 2 _ _ c _ q m ((qkv m).and λ_ m=>vX I.p I.OP (sem I.p I.OP n) x (.mk kd o nu nm az) m);refine qmz (OE I 2 _ _ c _ q m) Z Z (λ_ _ _ h=>h) λhl=>?_;unfold cE at hcd;show OE I 2 _ _ c _ q m (vX I.p I.OP (sem I.p I.OP n) x (.mk kd o nu nm az) (dn m));unfold vX;by_cases e1:kd=1
  · rw [if_pos e1] at hcd
    rw [if_pos (show (Ex.mk kd o nu nm az).kind=1 from e1)];exact qvt hq hM hl hcd hu.1
  rw [if_neg e1] at hcd;rw [if_neg (show ¬ (Ex.mk kd o nu nm az).kind=1 from e1)];by_cases e2:kd=2
  · rw [if_pos e2] at hcd
    rw [if_pos (show (Ex.mk kd o nu nm az).kind=2 from e2)];exact qxK hI hx hq hM hF hl hcd (by have e:qen (.mk kd o nu nm az)=(nm,2,0):=if_pos e2;rwa [ndC,e] at hd0) O
  rw [if_neg e2] at hcd;rw [if_neg (show ¬ (Ex.mk kd o nu nm az).kind=2 from e2)];by_cases e3:kd=3
  · rw [if_pos e3] at hcd
    rw [if_pos (show (Ex.mk kd o nu nm az).kind=3 from e3)];subst e3;have h1:az.length=1:=by have h1:1<=az.length:=a1;have h2:az.length<=1:=a2;omega
    obtain ⟨y,rfl⟩:=List.length_eq_one_iff.1 h1;simp only [qeG,qfQ,Bool.and_true] at hvs hu;have hdy:dXs [y]=dX y:=by simp [dXs]
    rw [hdy] at hr ⊢;unfold cH at hcd;exact qsu (y:=y) (nm:=nm) hI hE hx hq hM hF hH hl hvs hu.2 (λnd h=>hds nd (List.mem_append_left _ h)) (by have e:qen (.mk 3 o nu nm [y])=(nm,3,0):=rfl;rwa [ndC,e] at hd0) hcd O O
  rw [if_neg e3] at hcd;rw [if_neg (show ¬ (Ex.mk kd o nu nm az).kind=3 from e3)];by_cases e4:kd=4
  · rw [if_pos e4] at hcd
    rw [if_pos (show (Ex.mk kd o nu nm az).kind=4 from e4)];subst e4;exact qpI (az:=az) (nm:=nm) hI hO hE hC hx hq hM hF hH hl hvs hu.2 hds (by have e:qen (.mk 4 o nu nm az)=(nm,4,(az.length:Int)):=rfl;rwa [ndC,e] at hd0) hcd O O
  rw [if_neg e4] at hcd;rw [if_neg (show ¬ (Ex.mk kd o nu nm az).kind=4 from e4)];by_cases e5:kd=5
  · rw [if_pos e5] at hcd
    rw [if_pos (show (Ex.mk kd o nu nm az).kind=5 from e5)];exact (qCp hq hM hl hcd).mono (Nat.zero_le _)
  rw [if_neg e5] at hcd;rw [if_neg (show ¬ (Ex.mk kd o nu nm az).kind=5 from e5)];by_cases e6:kd=6
  · rw [if_pos e6] at hcd
    rw [if_pos (show (Ex.mk kd o nu nm az).kind=6 from e6)];subst e6;have h1:az.length=1:=by have h1:1<=az.length:=a1;have h2:az.length<=1:=a2;omega
    obtain ⟨y,rfl⟩:=List.length_eq_one_iff.1 h1;simp only [qeG,qfQ,Bool.and_true] at hvs hu;have hdy:dXs [y]=dX y:=by simp [dXs]
    rw [hdy] at hr ⊢;unfold cH at hcd;have ho:=a3 rfl;by_cases o1:o=1
    · rw [if_pos o1] at hcd
      subst o1;exact qC3 (y:=y) hI hO hE hx hq hM hF hH hl hvs hu.2 (λnd h=>hds nd (List.mem_append_left _ h)) hcd O O
    · rw [if_neg o1] at hcd
      exact qC2 (y:=y) (o:=o) hI hO hE hx hq hM hF hH hl O hvs hu.2 (λnd h=>hds nd (List.mem_append_left _ h)) hcd O O
  rw [if_neg e6] at hcd;rw [if_neg (show ¬ (Ex.mk kd o nu nm az).kind=6 from e6)];have e7:kd=7:=by omega
  subst e7;have h1:az.length=2:=by have h1:2<=az.length:=a1;have h2:az.length<=2:=a2;omega
  obtain ⟨y,z,rfl⟩:∃ y z,az=[y,z]:=by
    match az,h1 with
    | [y,z],_=>exact ⟨y,z,rfl⟩
  simp only [qeG,qfQ,Bool.and_true,Bool.and_eq_true] at hvs hu;have hdy:dXs [y,z]=max (dX y) (dX z):=by simp [dXs]
  rw [hdy] at hr ⊢;have hd1:∀ nd∈ndX y lp,ndC I.p x nd=0:=λnd h=>hds nd (List.mem_append_left _ h);have hd2:∀ nd∈ndX z lp,ndC I.p x nd=0:=λnd h=>hds nd (List.mem_append_right _ (List.mem_append_left _ h));have eI:∀ w k,cI I.p x [y,z] w k=cE I.p x z w k:=λw k=>by unfold cI cH;rfl
  have eH:∀ w k,cH I.p x [y,z] w k=cE I.p x y w k:=λw k=>by unfold cH;rfl
  rw [eH] at hcd;simp only [eI] at hcd;by_cases o1:o=20
  · subst o1
    rw [if_pos rfl] at hcd;have:=qC0 (y:=y) (z:=z) hI hO hE hx hq hM hF hH hl (σ:=1+max (dX y) (dX z)) (av:=av) (b:=b) (c:=c) hvs.1 hu.2.1 hd1 hvs.2 hu.2.2 hd2 hcd O O O O;refine cast (congrArg (OE I 2 _ _ c _ q m) ?_) this;show ER.and _ _=ER.and _ _;congr 1;funext a m2;by_cases h:a=0
    · rw [if_pos h];exact (if_pos ⟨rfl,h⟩).symm
    · rw [if_neg h];exact ((if_neg (λk=>h k.2)).trans (if_neg (λk=>absurd (show (20:Int)=21 from k.1) Dc))).symm
  rw [if_neg o1] at hcd;by_cases o2:o=21
  · subst o2
    rw [if_pos rfl] at hcd;have:=qFw (y:=y) (z:=z) hI hO hE hx hq hM hF hH hl (σ:=1+max (dX y) (dX z)) (av:=av) (b:=b) (c:=c) hvs.1 hu.2.1 hd1 hvs.2 hu.2.2 hd2 hcd O O O O;refine cast (congrArg (OE I 2 _ _ c _ q m) ?_) this;show ER.and _ _=ER.and _ _;congr 1;funext a m2;by_cases h:a=0
    · rw [if_neg (λk=>k h)];exact ((if_neg (λk=>absurd (show (21:Int)=20 from k.1) Dc)).trans (if_neg (λk=>k.2 h))).symm
    · rw [if_pos h];exact ((if_neg (λk=>absurd (show (21:Int)=20 from k.1) Dc)).trans (if_pos ⟨rfl,h⟩)).symm
  rw [if_neg o2] at hcd;have:=qC1 (y:=y) (z:=z) hI hO hE hx hq hM hF hH hl (σ:=1+max (dX y) (dX z)) (av:=av) (b:=b) (c:=c) (o:=o) O hvs.1 hu.2.1 hd1 hvs.2 hu.2.2 hd2 hcd O O O O;refine cast (congrArg (OE I 2 _ _ c _ q m) ?_) this;show ER.and _ _=ER.and _ _;congr 1;funext a m2;exact ((if_neg (λk=>o1 k.1)).trans (if_neg (λk=>o2 k.1))).symm
def WY(I:Im)(x:Fnc)(F q:Nat)(ls:List Str)(d:Nat)(ret:Int)(y:Int×Int)(a C e p:Int):Prop:=
 (y.1=0/\C=((F+szF x:Nat):Int)/\e=(d:Int)/\p=(q:Int))\/(y.1=1/\2<=ls.length/\C=((F+szF x:Nat):Int)/\e=(d:Int)/\p=I.lab (ls.getD (ls.length - 1) []))\/(y.1=2/\2<=ls.length/\C=((F+szF x:Nat):Int)/\e=(d:Int)/\p=I.lab (ls.getD (ls.length - 2) []))\/(y.1=3/\a=y.2/\U32 y.2/\C=((F+x.params.length:Nat):Int)/\e=((d - 1:Nat):Int)/\p=ret)
def SKd(I:Im)(s:Mst)(x:Fnc)(F q:Nat)(ls:List Str)(c:List Int)(m:MS)(ret:Int)(y:Int×Int)(m':MS):Prop:=
 ∃ k c' a' b' C' e' p',Rch s k (ms c' a' b' C' e' p' m'.inp m'.out)/\MR I c' m'/\SK I c c' F/\FR x F c' m'.frm/\c'[F+x.params.length]?=some ret/\m'.calls=m.calls/\k+40 * m'.left<=40 * m.left/\m.left<=m'.left+40 * k/\WY I x F q ls m.calls ret y a' C' e' p'
def OS(I:Im)(s:Mst)(x:Fnc)(F q:Nat)(ls:List Str)(c:List Int)(m:MS)(ret:Int):ER (Int×Int)->Prop
 | .out=>True
 | .fin m' st cd=>FNo 17 s m m' st cd
 | .ok y m'=>SKd I s x F q ls c m ret y m'
def qxb{k:Nat}(h:adr x j=adr x k):j=k:=by
 unfold adr at h;split at h<;>split at h<;>omega
def qBL{k:Nat}:adr x k≠x.params.length:=by unfold adr;split<;>omega
def FR.set{F:Nat}{frm:List Int}(h:FR x F c frm)(hj:j < frm.length){v:Int}(hv:U32 v):FR x F (c.set (F+adr x j) v) (frm.set j v):=
  ⟨by rw [List.length_set];exact h.len,λk w hk=>by
    by_cases e:k=j
    · subst e
      rw [List.getElem?_set_self hj] at hk;cases hk;have:=(h.at_ k _ (List.getElem?_eq_getElem hj)).2;exact ⟨hv,List.getElem?_set_self (List.getElem?_eq_some_iff.1 this).1⟩
    · rw [List.getElem?_set_ne (λh=>e h.symm)] at hk
      have:=h.at_ k w hk;exact ⟨this.1,by rw [List.getElem?_set_ne (λh=>e (qxb (x:=x) O))];exact this.2⟩⟩
def MR.frm{I:Im}{c:List Int}{m:MS}(h:MR I c m)(f:List Int):MR I c { m with frm:=f }:=⟨h.len,h.code,h.var,h.arr,h.calls,h.out⟩
section
variable{I:Im}{n:Nat}(hI:I.OK)(hE:PE I n){x:Fnc}(hx:x∈I.p.funcs){lp kk a q F:Nat}{m:MS}{c:List Int}{av b ret:Int}{nm:Str}{y z:Ex}{ls:List Str}(hq:q<=I.G)(hM:MR I c m)(hF:FR x F c m.frm)(hret:c[F+x.params.length]?=some ret)(hH:I.H<=F)(hl:m.left≠0)(hr:F+szF x+102+120 * (100 - m.calls)<=65530)
include hI hE hx hq hM hF hret hH hl hr
theorem qpO(hv:exV y=true)(hu:exU y=true)(hd:∀ nd∈ndX y lp,ndC I.p x nd=0)(hy:dX y<=16)(hn:qeT I.p x (nm,1,0)=0)(hcd:Cd I.img I.lab a ((cE I.p x y 0 kk).1++[asL I.p x nm]) q):
    OS I (ms c av b ((F+szF x:Nat):Int) (m.calls:Int) (a:Int) m.inp m.out) x F q ls c m ret (((sem I.p I.OP n).e x y (dn m)).and λv m=>.ok (0,0) (qny I.p x nm v m)):=by
  obtain ⟨_,hnd⟩:=hI.fn x hx;have hs:=qqb (nm:=nm) hnd;obtain ⟨q1,d1,d2⟩:=hcd.app;have hle:=d2.le;refine kid (w:=0) (j:=0) (D:=17) (w':=0) (c':=c) hE hx hM hF hH hl hv hu hd d1 O hM .refl (Nat.le_refl _) O O (.nil _) O (OS I _ x F q ls c m ret) Tt (λ_ _ _ h=>h) λv m2 k c2 b2 R hM2 hS hf hc hU k1 k2 hF2 _=>?_;have hre:c2[F+x.params.length]?=some ret:=(hS _ O (by unfold szF;omega)).trans hret;have hlen:=hM2.len;have hszF:szF x=x.params.length+1+x.locals.length:=rfl;unfold asL at d2;rcases qkA hn Dc with ⟨h1,_⟩|⟨h1,h2|h2⟩
  · rw [if_pos h1] at hs
    rw [hs] at d2;obtain ⟨c1,c3,c4,c5⟩:=Cd.num d2 Dc Dc;cases (show q1+2=q from c4);have hlt:(qa0 x nm).toNat < x.params.length+x.locals.length:=by
      unfold qa0 at h1 ⊢;exact Ez57
    have ha:=qn7 hlt;have hne:=qBL (x:=x) (k:=(qa0 x nm).toNat);have s1:=qsc (a:=v) (b:=b2) (C:=((F+szF x+0:Nat):Int)) (d:=(m2.calls:Int)) (i:=m2.inp) (o:=m2.out) (q:=F+adr x (qa0 x nm).toNat) (hM2.cell c1 O) (hM2.cell c3 O) (by unfold w32;omega) O;have hset:qny I.p x nm v m2={ m2 with frm:=m2.frm.set (qa0 x nm).toNat v }:=by rw [qny,if_pos h1]
    rw [hset];exact ⟨_,_,_,_,_,_,_,R.trans (.one rfl s1),(hM2.push hI O).frm _,(hS.le O).trans (SK.set (.inr O)) (Nat.le_refl _),hF2.set (by rw [hF2.len];exact hlt) hU,by rw [List.getElem?_set_ne O];exact hre,hc,by show _+40 * m2.left<=_;omega,by show _<=m2.left+_;omega,.inl ⟨rfl,rfl,by show (m2.calls:Int)=_;rw [hc],rfl⟩⟩
  · obtain ⟨i,g,h3,h4,h5,h6⟩:=h2
    rw [if_neg h1] at hs;rw [hs,h3] at d2;have hk:g.kind=2:=by omega
    obtain ⟨c1,c3,c4,c5⟩:=Cd.ref d2;cases (show q1+2=q from c4);obtain ⟨g1,g2,g3⟩:=hI.glo i g h5 O;rw [g1] at c3;have htop:=hI.top;have hsz:1<=szG g:=by unfold szG;omega
    have s1:=qx9 (a:=v) (b:=b2) (C:=((F+szF x+0:Nat):Int)) (d:=(m2.calls:Int)) (i:=m2.inp) (o:=m2.out) (q:=I.ga i) (hM2.cell c1 O) (hM2.cell c3 O) O;have hset:qny I.p x nm v m2={ m2 with glo:=m2.glo.set i v }:=by rw [qny,if_neg h1,h4,Int.toNat_natCast]
    rw [hset];have hS2:SK I c2 (c2.set (I.ga i) v) (F+szF x):=.set (.inl O);exact ⟨_,_,_,_,_,_,_,R.trans (.one rfl s1),hM2.setVar hI h5 hk hU,(hS.trans hS2 (Nat.le_refl _)).le O,hF2.keep hS2 hH (Nat.le_refl _),(hS2 _ O O).trans hre,hc,by show _+40 * m2.left<=_;omega,by show _<=m2.left+_;omega,.inl ⟨rfl,rfl,by show (m2.calls:Int)=_;rw [hc],rfl⟩⟩
  · exact absurd h2.1 Dc
end
def qpJ(k:Nat):UInt8.ofNat (k % 256)=UInt8.ofNat k:=by
 apply UInt8.toNat_inj.1;simp [UInt8.toNat_ofNat']
section
variable{I:Im}{n:Nat}(hI:I.OK)(hE:PE I n){x:Fnc}(hx:x∈I.p.funcs){lp kk a q F:Nat}{m:MS}{c:List Int}{av b ret:Int}{nm:Str}{y z:Ex}{ls:List Str}(hq:q<=I.G)(hM:MR I c m)(hF:FR x F c m.frm)(hret:c[F+x.params.length]?=some ret)(hH:I.H<=F)(hl:m.left≠0)(hr:F+szF x+102+120 * (100 - m.calls)<=65530)
include hI hE hx hq hM hF hret hH hl hr
theorem qC8(hv:exV y=true)(hu:exU y=true)(hd:∀ nd∈ndX y lp,ndC I.p x nd=0)(hy:dX y<=16)(hc1:1<=m.calls)(hcd:Cd I.img I.lab a ((cE I.p x y 0 kk).1++[.num qv1 ((x.locals.length+1:Nat):Int)]) q):
  OS I (ms c av b ((F+szF x:Nat):Int) (m.calls:Int) (a:Int) m.inp m.out) x F q ls c m ret (((sem I.p I.OP n).e x y (dn m)).and λv m=>.ok (3,v) m):=by
 obtain ⟨q1,d1,d2⟩:=hcd.app;obtain ⟨c1,c3,c4,c5⟩:=Cd.num d2 Dc Dc;refine kid (w:=0) (j:=0) (D:=17) (w':=0) (c':=c) hE hx hM hF hH hl hv hu hd d1 O hM .refl (Nat.le_refl _) O O (.nil _) O (OS I _ x F q ls c m ret) Tt (λ_ _ _ h=>h) λv m2 k c2 b2 R hM2 hS hf hc hU k1 k2 hF2 _=>?_;have hszF:szF x=x.params.length+1+x.locals.length:=rfl;have hre:c2[F+x.params.length]?=some ret:=(hS _ O O).trans hret;have h100:=hM2.calls;have s1:=qCO (a:=v) (b:=b2) (C:=((F+szF x+0:Nat):Int)) (i:=m2.inp) (o:=m2.out) (q:=F+x.params.length) (hM2.cell c1 O) (hM2.cell c3 O) (by unfold w32;omega) hre (e:=m2.calls - 1) O;rw [show m2.calls - 1+1=m2.calls by omega] at s1;exact ⟨_,_,_,_,_,_,_,R.trans (.one rfl s1),hM2,hS.le O,hF2,hre,hc,by omega,by omega,.inr (.inr (.inr ⟨rfl,rfl,hU,rfl,by rw [hc],rfl⟩))⟩
def qA7{p:Prop} (h:p:=by
 exact ⟨_,_,R.trans (.one rfl s1),rfl,rfl,λ_=>rfl,by omega,by omega,λh=>absurd h Dc⟩):p:=h
theorem qC7(hv:exV y=true)(hu:exU y=true)(hd:∀ nd∈ndX y lp,ndC I.p x nd=0)(hy:dX y<=16)(hcd:Cd I.img I.lab a ((cE I.p x y 0 kk).1++[.op qEe]) q):
    OS I (ms c av b ((F+szF x:Nat):Int) (m.calls:Int) (a:Int) m.inp m.out) x F q ls c m ret (((sem I.p I.OP n).e x y (dn m)).and λv m=>if 20000<=m.out.length then .fin m 5 0 else .ok (0,0) { m with out:=m.out++[UInt8.ofNat v.toNat] }):=by
  obtain ⟨q1,d1,d2⟩:=hcd.app;obtain ⟨c1,c4,c5⟩:=Cd.op d2;cases (show q1+1=q from c4);refine kid (w:=0) (j:=0) (D:=17) (w':=0) (c':=c) hE hx hM hF hH hl hv hu hd d1 O hM .refl (Nat.le_refl _) O O (.nil _) O (OS I _ x F _ ls c m ret) Tt (λ_ _ _ h=>h) λv m2 k c2 b2 R hM2 hS hf hc hU k1 k2 hF2 _=>?_;have hszF:szF x=x.params.length+1+x.locals.length:=rfl;have hre:c2[F+x.params.length]?=some ret:=(hS _ O O).trans hret;have hout:=hM2.out;have s1:=qFp (a:=v) (b:=b2) (C:=((F+szF x+0:Nat):Int)) (d:=(m2.calls:Int)) (i:=m2.inp) (o:=m2.out) (hM2.cell c1 O);show OS I _ x F _ ls c m ret (if 20000<=m2.out.length then _ else _);by_cases h:20000<=m2.out.length
  · rw [if_pos h]
    rw [if_pos O] at s1;exact qA7
  · rw [if_neg h]
    rw [if_neg O,qpJ] at s1;exact ⟨_,_,_,_,_,_,_,R.trans (.one rfl s1),⟨hM2.len,hM2.code,hM2.var,hM2.arr,hM2.calls,by simp;omega⟩,hS.le O,hF2,hre,hc,by show _+40 * m2.left<=_;omega,by show _<=m2.left+_;omega,.inl ⟨rfl,rfl,by show (m2.calls:Int)=_;rw [hc],rfl⟩⟩
theorem qyy(hv:exV y=true)(hu:exU y=true)(hd:∀ nd∈ndX y lp,ndC I.p x nd=0)(hy:dX y<=16)(hcd:Cd I.img I.lab a ((cE I.p x y 0 kk).1++[.op qhu]) q):
  OS I (ms c av b ((F+szF x:Nat):Int) (m.calls:Int) (a:Int) m.inp m.out) x F q ls c m ret (((sem I.p I.OP n).e x y (dn m)).and λv m=>.fin m 1 v):=by
 obtain ⟨q1,d1,d2⟩:=hcd.app;obtain ⟨c1,c4,c5⟩:=Cd.op d2;cases (show q1+1=q from c4);refine kid (w:=0) (j:=0) (D:=17) (w':=0) (c':=c) hE hx hM hF hH hl hv hu hd d1 O hM .refl (Nat.le_refl _) O O (.nil _) O (OS I _ x F _ ls c m ret) Tt (λ_ _ _ h=>h) λv m2 k c2 b2 R hM2 hS hf hc hU k1 k2 hF2 _=>?_;have s1:=qvH (a:=v) (b:=b2) (C:=((F+szF x+0:Nat):Int)) (d:=(m2.calls:Int)) (i:=m2.inp) (o:=m2.out) (hM2.cell c1 O);exact qA7
omit hE hx hr in
theorem qpP{j:Int}(hj:j=1\/j=2)(h2:2<=ls.length)(hcd:Cd I.img I.lab a [.ref qep (ls.getD (ls.length - j.toNat) [])] q):
  OS I (ms c av b ((F+szF x:Nat):Int) (m.calls:Int) (a:Int) m.inp m.out) x F q ls c m ret (.ok (j,0) (dn m)):=by
 obtain ⟨c1,c3,c4,c5⟩:=hcd.ref;have s1:=qpd (a:=av) (b:=b) (C:=((F+szF x:Nat):Int)) (d:=(m.calls:Int)) (i:=m.inp) (o:=m.out) (hM.cell c1 O) (hM.cell c3 O);refine ⟨1,c,_,_,_,_,_,.one Z s1,hM.dn,.refl,hF,hret,Z,by show 1+40 * (m.left - 1)<=_;omega,by show _<=m.left - 1+40 * 1;omega,?_⟩;rcases hj with rfl|rfl
 · exact .inr (.inl ⟨rfl,h2,rfl,rfl,rfl⟩)
 · exact .inr (.inr (.inl ⟨rfl,h2,rfl,rfl,rfl⟩))
end
section
variable{I:Im}{n:Nat}(hI:I.OK)(hE:PE I n){x:Fnc}(hx:x∈I.p.funcs){lp kk k2 a q F:Nat}{m:MS}{c:List Int}{av b ret:Int}{nm:Str}{y z:Ex}{ls:List Str}(hq:q<=I.G)(hM:MR I c m)(hF:FR x F c m.frm)(hret:c[F+x.params.length]?=some ret)(hH:I.H<=F)(hl:m.left≠0)(hr:F+szF x+102+120 * (100 - m.calls)<=65530)
include hI hE hx hq hM hF hret hH hl hr
theorem qsy(hv:exV y=true)(hu:exU y=true)(hd:∀ nd∈ndX y lp,ndC I.p x nd=0)(hy:dX y<=16)(hvz:exV z=true)(huz:exU z=true)(hdz:∀ nd∈ndX z lp,ndC I.p x nd=0)(hz:dX z<=16)(hn:qeT I.p x (nm,3,0)=0)(hcd:Cd I.img I.lab a ((cE I.p x y 0 kk).1++.num qgi (gnI I.p (gi I.p nm))::.op qcq::(cE I.p x z 1 k2).1++[.ref qmI (gT (gi I.p nm))]) q):
    OS I (ms c av b ((F+szF x:Nat):Int) (m.calls:Int) (a:Int) m.inp m.out) x F q ls c m ret (((sem I.p I.OP n).e x y (dn m)).and λi m=>if ((qes I.p nm m).length:Int)<=i then .fin m 1 1 else ((sem I.p I.OP n).e x z m).and λv m=>.ok (0,0) { m with arr:=m.arr.set (qdJ I.p nm).toNat ((qes I.p nm m).set i.toNat v) }):=by
  obtain ⟨q2,d1,d2⟩:=hcd.app;obtain ⟨q1,d3,d4⟩:=d1.app;obtain ⟨c1,c2,c3,c4⟩:=Cd.num d4 Dc Dc;obtain ⟨c5,c6,c7⟩:=Cd.op c3;obtain ⟨e1,e2,e3,e4⟩:=Cd.ref d2;cases (show q2+2=q from e3);obtain ⟨_,h2⟩:=(qkA hn Dc).resolve_left (λh=>by omega);obtain ⟨i,g,h3,h4,h5,h6⟩:=h2.resolve_right (λh=>by omega);have hg3:=hI.gk i g h5;have hk:g.kind=3:=by omega
  obtain ⟨g1,g2,g3⟩:=hI.glo i g h5 O;rw [h3,show gnI I.p (i:Int)=g.num by rw [gnI,Int.toNat_natCast,h5]] at c2;rw [h3,g1] at e2;have hszF:szF x=x.params.length+1+x.locals.length:=rfl;refine kid (w:=0) (j:=0) (D:=17) (w':=0) (c':=c) hE hx hM hF hH hl hv hu hd d3 O hM .refl (Nat.le_refl _) O O (.nil _) O (OS I _ x F _ ls c m ret) Tt (λ_ _ _ h=>h) λv m2 k c2' b2 R hM2 hS hf hc hU k1 k3 hF2 _=>?_;obtain ⟨l,l1,l2,l3⟩:=hM2.arr i g h5 hk;have ha:qes I.p nm m2=l:=by rw [qes,h4,Int.toNat_natCast,List.getD_eq_getElem?_getD,l1];rfl
  have hb:=qpc (a:=v) (b:=b2) (C:=((F+szF x+0:Nat):Int)) (d:=(m2.calls:Int)) (i:=m2.inp) (o:=m2.out) (hM2.cell c1 O) (hM2.cell c2 O);show OS I _ x F _ ls c m ret (if ((qes I.p nm m2).length:Int)<=v then _ else _);rw [ha];by_cases hv0:(l.length:Int)<=v
  · rw [if_pos hv0]
    exact qAQ
  rw [if_neg hv0];rw [if_pos O] at hb;obtain ⟨u1,u2⟩:=hU;have hlen:=hM2.len;have hp:=qjX (a:=v) (b:=1) (q:=F+szF x) (d:=(m2.calls:Int)) (i:=m2.inp) (o:=m2.out) (hM2.cell c5 O) O hlen;have hS2:SK I c2' (c2'.set (F+szF x) v) (F+szF x):=.set (.inr (Nat.le_refl _));refine qD9 (m:=m) (σ:=17) hE hx hH hvz huz hdz (w':=1) c6 O (hM2.push hI O) (hF2.keep hS2 hH (Nat.le_refl _)) O Q19 ((R.trans (Rch.one Z hb)).trans (Rch.one Z hp)) O O (OS I _ x F _ ls c m ret) Tt (λ_ _ _ h=>h) λv2 m3 k4 c3' b3 R3 hM3 hS3 hf3 hc3 hU3 k5 k6=>?_;obtain ⟨l',l4,l5,l6⟩:=hM3.arr i g h5 hk;have hlen3:=hM3.len;have ha3:qes I.p nm m3=l':=by rw [qes,h4,Int.toNat_natCast,List.getD_eq_getElem?_getD,l4];rfl
  have hlt:v.toNat < l'.length:=by omega
  have hcell:c3'[F+szF x]?=some v:=(hS3 _ O O).trans (List.getElem?_set_self O);have hsg:l'.length=szG g:=by unfold szG;omega
  have s1:=qx7 (a:=v2) (b:=b3) (r:=F+szF x) (d:=(m3.calls:Int)) (i:=m3.inp) (o:=m3.out) (q:=I.ga i+v.toNat) (hM3.cell e1 O) (hM3.cell e2 O) hcell O (by unfold w32;omega) O;have hset:({ m3 with arr:=m3.arr.set (qdJ I.p nm).toNat ((qes I.p nm m3).set v.toNat v2) }:MS)={ m3 with arr:=m3.arr.set i (l'.set v.toNat v2) }:=by rw [ha3,h4,Int.toNat_natCast]
  show OS I _ x F _ ls c m ret (.ok (0,0) { m3 with arr:=m3.arr.set (qdJ I.p nm).toNat ((qes I.p nm m3).set v.toNat v2) });rw [hset];have hS4:SK I c3' (c3'.set (I.ga i+v.toNat) v2) (F+szF x+1):=.set (.inl O);have hSS:SK I c2' (c3'.set (I.ga i+v.toNat) v2) (F+szF x):=hS2.trans (hS3.trans hS4 (Nat.le_refl _)) O;have hFF:FR x F (c3'.set (I.ga i+v.toNat) v2) m3.frm:=by
    have hf3:m3.frm=m2.frm:=hf3;rw [hf3];exact hF2.keep hSS hH (Nat.le_refl _)
  exact ⟨_,_,_,_,_,_,_,R3.trans (.one rfl s1),hM3.setArr hI h5 hk l4 hlt hU3,(hS.trans hSS (Nat.le_refl _)).le O,hFF,((hS.trans hSS (Nat.le_refl _)) _ O O).trans hret,hc3.trans hc,by show _+40 * m3.left<=_;omega,by show _<=m3.left+_;omega,.inl ⟨rfl,rfl,by show (m3.calls:Int)=_;rw [hc3,hc],rfl⟩⟩
end
mutual
def dS:Stm->Nat
 | .mk _ _ es b e=>max (dXs es) (max (dSs b) (dSs e))
def dSs:List Stm->Nat
 | []=>0
 | x::r=>max (dS x) (dSs r)
end
def PT(I:Im)(n:Nat):Prop:=∀ (x:Fnc) (y:Stm) (lv lp k a q:Nat) (ls:List Str) (m:MS) (c:List Int) (F:Nat) (av b ret:Int),x∈I.p.funcs->stV y lv=true->stU y=true->dS y<=16->(∀ nd∈ndS y lp,ndC I.p x nd=0)->(0 < lp->2<=ls.length)->Cd I.img I.lab a (cS I.p x y k ls).1 q->q<=I.G->MR I c m->FR x F c m.frm->c[F+x.params.length]?=some ret->I.H<=F->F+szF x+102+120 * (100 - m.calls)<=65530->1<=m.calls ->
 OS I (ms c av b ((F+szF x:Nat):Int) (m.calls:Int) (a:Int) m.inp m.out) x F q ls c m ret ((sem I.p I.OP n).t x y m)
def OS.pre{s s2:Mst}{F:Nat}{ls:List Str}{c2:List Int}{m m2:MS}{ret:Int}{r:ER (Int×Int)}(h:OS I s2 x F q ls c2 m2 ret r)(R:Rch s j s2)(hS:SK I c c2 F)(hc:m2.calls=m.calls)(h1:j+40 * m2.left<=40 * m.left)(h2:m.left<=m2.left+40 * j):OS I s x F q ls c m ret r:=by
 cases r with
 | out=>trivial
 | fin m' st cd=>exact FNo.pre h R h1 O
 | ok y m'=>
  obtain ⟨k,c',a',b',C',e',p',R',hM,hS',hF,hr,hc',k1,k2,hw⟩:=h;exact ⟨_,c',a',b',C',e',p',R.trans R',hM,hS.trans hS' (Nat.le_refl _),hF,hr,hc'.trans hc,by omega,by omega,hc▸hw⟩
def qfN{I:Im}{n:Nat}(hT:PT I n){x:Fnc}(hx:x∈I.p.funcs):∀ (l:List Stm) (lv lp k a q:Nat) (ls:List Str) (m:MS) (c:List Int) (F:Nat) (av b ret:Int),qdU l lv=true->qfF l=true->dSs l<=16->(∀ nd∈qdf l lp,ndC I.p x nd=0)->(0 < lp->2<=ls.length)->Cd I.img I.lab a (cB I.p x l k ls).1 q->q<=I.G->MR I c m->FR x F c m.frm->c[F+x.params.length]?=some ret->I.H<=F->F+szF x+102+120 * (100 - m.calls)<=65530->1<=m.calls ->
    OS I (ms c av b ((F+szF x:Nat):Int) (m.calls:Int) (a:Int) m.inp m.out) x F q ls c m ret (qbl ((sem I.p I.OP n).t x) l m)
  | [],lv,lp,k,a,q,ls,m,c,F,av,b,ret,_,_,_,_,_,hcd,_,hM,hF,hret,_,_,_=>by
    unfold cB at hcd;cases (show a=q from hcd);exact ⟨0,c,av,b,_,_,_,.nil _,hM,.refl,hF,hret,rfl,by omega,by omega,.inl ⟨rfl,rfl,rfl,rfl⟩⟩
  | y::r,lv,lp,k,a,q,ls,m,c,F,av,b,ret,hv,hu,hd,hn,hls,hcd,hq,hM,hF,hret,hH,hr,hc1=>by
    simp only [qdU,qfF,Bool.and_eq_true] at hv hu;rw [dSs] at hd;unfold cB at hcd;obtain ⟨q1,d1,d2⟩:=hcd.app;have hle:=d2.le;have h:=hT x y lv lp k a q1 ls m c F av b ret hx hv.1 hu.1 O (λnd h=>hn nd (List.mem_append_left _ h)) hls d1 O hM hF hret hH hr hc1;rw [qbl];cases hr1:(sem I.p I.OP n).t x y m with
    | out=>trivial
    | fin m' st cd=>rw [hr1] at h;exact h
    | ok w m2=>
      rw [hr1] at h;obtain ⟨k',c',a',b',C',e',p',R',hM',hS',hF',hr',hc',k1,k2,hw⟩:=h;show OS I _ x F q ls c m ret (if w.1=0 then qbl _ r m2 else .ok w m2);by_cases h0:w.1=0
      · rw [if_pos h0]
        obtain ⟨_,w2,w3,w4⟩:=hw.resolve_right (by rintro (h|h|h)<;>omega);subst w2 w3 w4;have R2:Rch (ms c av b ((F+szF x:Nat):Int) (m.calls:Int) (a:Int) m.inp m.out) k' (ms c' a' b' ((F+szF x:Nat):Int) (m2.calls:Int) (q1:Int) m2.inp m2.out):=by rw [hc'];exact R'
        exact OS.pre (qfN hT hx r lv lp _ q1 q ls m2 c' F a' b' ret hv.2 hu.2 O (λnd h=>hn nd (List.mem_append_right _ h)) hls d2 hq hM' hF' hr' hH (by rw [hc'];exact hr) O) R2 hS' hc' k1 k2
      · rw [if_neg h0]
        exact ⟨k',c',a',b',C',e',p',R',hM',hS',hF',hr',hc',k1,k2,hw.imp (λh=>absurd h.1 h0) id⟩
def OS.prej{I:Im}{s s2:Mst}{x:Fnc}{F q1 q j:Nat}{ls:List Str}{c c2:List Int}{m m2:MS}{ret:Int}{r:ER (Int×Int)}(h:OS I s2 x F q1 ls c2 m2 ret r)(R:Rch s j s2)(hS:SK I c c2 F)(hc:m2.calls=m.calls)(h1:j+1+40 * m2.left<=40 * m.left)(h2:m.left<=m2.left+40 * j)
    (hst:∀ c' a' b' (m':MS),MR I c' m'->qbi defT (ms c' a' b' ((F+szF x:Nat):Int) (m'.calls:Int) (q1:Int) m'.inp m'.out)=ms c' a' b' ((F+szF x:Nat):Int) (m'.calls:Int) (q:Int) m'.inp m'.out):OS I s x F q ls c m ret r:=by
  cases r with
  | out=>trivial
  | fin m' st cd=>exact FNo.pre h R O O
  | ok y m'=>
    obtain ⟨k,c',a',b',C',e',p',R',hM,hS',hF,hr,hc',k1,k2,hw⟩:=h;rcases hw with ⟨w1,w2,w3,w4⟩|hw
    · subst w2 w3 w4
      have s1:=hst c' a' b' m' hM;rw [hc'] at s1;exact ⟨_,c',a',b',_,_,_,(R.trans R').trans (.one rfl s1),hM,hS.trans hS' (Nat.le_refl _),hF,hr,hc'.trans hc,by omega,by omega,.inl ⟨w1,rfl,by rw [hc],rfl⟩⟩
    · exact ⟨_,c',a',b',C',e',p',R.trans R',hM,hS.trans hS' (Nat.le_refl _),hF,hr,hc'.trans hc,by omega,by omega,.inr (hc▸hw)⟩
section
variable{I:Im}{n:Nat}(hI:I.OK)(hE:PE I n)(hT:PT I n){x:Fnc}(hx:x∈I.p.funcs){lv lp kk k2 k3 kl km a q F:Nat}{m:MS}{c:List Int}{av b ret:Int}{y:Ex}{B E:List Stm}{ls:List Str}(hq:q<=I.G)(hM:MR I c m)(hF:FR x F c m.frm)(hret:c[F+x.params.length]?=some ret)(hH:I.H<=F)(hl:m.left≠0)(hr:F+szF x+102+120 * (100 - m.calls)<=65530)(hc1:1<=m.calls)
include hI hE hT hx hq hM hF hret hH hl hr hc1
theorem qC5(hv:exV y=true)(hu:exU y=true)(hd:∀ nd∈ndX y lp,ndC I.p x nd=0)(hy:dX y<=16)(bv:qdU B lv=true)(bu:qfF B=true)(bd:dSs B<=16)(bn:∀ nd∈qdf B lp,ndC I.p x nd=0)(hls:0 < lp->2<=ls.length)(hcd:Cd I.img I.lab a ((cE I.p x y 0 kk).1++.ref qb9 (lT kl)::(cB I.p x B k2 ls).1++[.lab (lT kl)]) q):
    OS I (ms c av b ((F+szF x:Nat):Int) (m.calls:Int) (a:Int) m.inp m.out) x F q ls c m ret (((sem I.p I.OP n).e x y (dn m)).and λv m=>if v≠0 then qbl ((sem I.p I.OP n).t x) B m else qbl ((sem I.p I.OP n).t x) [] m):=by
  obtain ⟨q2,d1,d2⟩:=hcd.app;obtain ⟨q1,d3,d4⟩:=d1.app;obtain ⟨c1,c2,c3,c4⟩:=Cd.ref d4;obtain ⟨f1,f2⟩:=Cd.lbl d2;cases (show q2=q from f2);have hszF:szF x=x.params.length+1+x.locals.length:=rfl;refine kid (w:=0) (j:=0) (D:=17) (w':=0) (c':=c) hE hx hM hF hH hl hv hu hd d3 O hM .refl (Nat.le_refl _) O O (.nil _) O (OS I _ x F _ ls c m ret) Tt (λ_ _ _ h=>h) λv m2 k c2' b2 R hM2 hS hf hc hU k1 k3 hF2 _=>?_;have s1:=qg7 (a:=v) (b:=b2) (C:=((F+szF x:Nat):Int)) (d:=(m2.calls:Int)) (i:=m2.inp) (o:=m2.out) (hM2.cell c1 O) (hM2.cell c2 O);have hc:m2.calls=m.calls:=hc;have hS:SK I c c2' (F+szF x):=hS;have hret2:c2'[F+x.params.length]?=some ret:=(hS _ O O).trans hret;show OS I _ x F _ ls c m ret (if v≠0 then _ else _);by_cases h0:v=0
  · rw [if_neg (λk=>k h0)]
    rw [if_pos h0,f1] at s1;exact ⟨_,c2',_,_,_,_,_,R.trans (.one rfl s1),hM2,hS.le O,hF2,hret2,hc,by omega,by omega,.inl ⟨rfl,rfl,by rw [hc],rfl⟩⟩
  · rw [if_pos h0]
    rw [if_neg h0] at s1;exact OS.pre (qfN hT hx B lv lp _ _ _ ls m2 c2' F v b2 ret bv bu bd bn hls c3 hq hM2 hF2 hret2 hH (by rw [hc];exact hr) O) (R.trans (.one rfl s1)) (hS.le O) hc O O
theorem qC6(hv:exV y=true)(hu:exU y=true)(hd:∀ nd∈ndX y lp,ndC I.p x nd=0)(hy:dX y<=16)(bv:qdU B lv=true)(bu:qfF B=true)(bd:dSs B<=16)(bn:∀ nd∈qdf B lp,ndC I.p x nd=0)(ev:qdU E lv=true)(eu:qfF E=true)(ed:dSs E<=16)(en:∀ nd∈qdf E lp,ndC I.p x nd=0)(hls:0 < lp->2<=ls.length)(hcd:Cd I.img I.lab a ((cE I.p x y 0 kk).1++.ref qb9 (lT kl)::(cB I.p x B k2 ls).1++.ref qep (lT km)::.lab (lT kl)::(cB I.p x E k3 ls).1++[.lab (lT km)]) q):
    OS I (ms c av b ((F+szF x:Nat):Int) (m.calls:Int) (a:Int) m.inp m.out) x F q ls c m ret (((sem I.p I.OP n).e x y (dn m)).and λv m=>if v≠0 then qbl ((sem I.p I.OP n).t x) B m else qbl ((sem I.p I.OP n).t x) E m):=by
  obtain ⟨q3,d0,d2⟩:=hcd.app;obtain ⟨q2,d1,d5⟩:=d0.app;obtain ⟨q1,d3,d4⟩:=d1.app;obtain ⟨c1,c2,c3,c4⟩:=Cd.ref d4;obtain ⟨g1,g2,g3,g4⟩:=Cd.ref d5;obtain ⟨f1,f2⟩:=Cd.lbl g3;obtain ⟨f3,f4⟩:=Cd.lbl d2;cases (show q3=q from f4);have hszF:szF x=x.params.length+1+x.locals.length:=rfl;refine kid (w:=0) (j:=0) (D:=17) (w':=0) (c':=c) hE hx hM hF hH hl hv hu hd d3 O hM .refl (Nat.le_refl _) O O (.nil _) O (OS I _ x F _ ls c m ret) Tt (λ_ _ _ h=>h) λv m2 k c2' b2 R hM2 hS hf hc hU k1 k3 hF2 _=>?_;have s1:=qg7 (a:=v) (b:=b2) (C:=((F+szF x:Nat):Int)) (d:=(m2.calls:Int)) (i:=m2.inp) (o:=m2.out) (hM2.cell c1 O) (hM2.cell c2 O);have hc:m2.calls=m.calls:=hc;have hS:SK I c c2' (F+szF x):=hS;have hret2:c2'[F+x.params.length]?=some ret:=(hS _ O O).trans hret;show OS I _ x F _ ls c m ret (if v≠0 then _ else _);by_cases h0:v=0
  · rw [if_neg (λk=>k h0)]
    rw [if_pos h0,f1] at s1;exact OS.pre (qfN hT hx E lv lp _ _ _ ls m2 c2' F v b2 ret ev eu ed en hls f2 hq hM2 hF2 hret2 hH (by rw [hc];exact hr) O) (R.trans (.one rfl s1)) (hS.le O) hc O O
  · rw [if_pos h0]
    rw [if_neg h0] at s1;refine OS.prej (qfN hT hx B lv lp _ _ _ ls m2 c2' F v b2 ret bv bu bd bn hls c3 O hM2 hF2 hret2 hH (by rw [hc];exact hr) O) (R.trans (.one Z s1)) (hS.le O) hc O O λc' a' b' m' hM'=>?_;have s2:=qpd (a:=a') (b:=b') (C:=((F+szF x:Nat):Int)) (d:=(m'.calls:Int)) (i:=m'.inp) (o:=m'.out) (hM'.cell g1 O) (hM'.cell g2 O);rw [f3] at s2;exact s2
end
def ER.and_and{α β γ:Type}(r:ER α)(f:α->MS->ER β)(g:β->MS->ER γ):(r.and f).and g=r.and λa m=>(f a m).and g:=by cases r<;>rfl
abbrev up(m:MS):MS:={ m with left:=m.left+1 }
def PW(I:Im)(n:Nat):Prop:=∀ (x:Fnc) (y:Ex) (B:List Stm) (lv lp kk k2 a q1 q2:Nat) (lB lE:Str) (ls:List Str) (m:MS) (c:List Int) (F:Nat) (av b ret:Int),x∈I.p.funcs->exV y=true->exU y=true->dX y<=16->(∀ nd∈ndX y lp,ndC I.p x nd=0)->qdU B lv=true->qfF B=true->dSs B<=16->(∀ nd∈qdf B (lp+1),ndC I.p x nd=0) ->
 Cd I.img I.lab a (cE I.p x y 0 kk).1 q1->Cd I.img I.lab q1 (.ref qb9 lE::(cB I.p x B k2 (ls++[lB,lE])).1) q2->Cd I.img I.lab q2 [.ref qep lB,.lab lE] (q2+2)->I.lab lB=(a:Int)->q2+2<=I.G->MR I c m->FR x F c m.frm->c[F+x.params.length]?=some ret->I.H<=F->F+szF x+102+120 * (100 - m.calls)<=65530->1<=m.calls ->
 OS I (ms c av b ((F+szF x:Nat):Int) (m.calls:Int) (a:Int) m.inp m.out) x F (q2+2) ls c (up m) ret ((sem I.p I.OP n).w x y B m)
def qwz(hE:PE I n)(hT:PT I n)(hW:PW I n):PW I (n+1):=by
  intro x y B lv lp kk k2 a q1 q2 lB lE ls m c F av b ret hx hv hu hy hd bv bu bd bn hcd1 hcd2 hcd3 hlB hq hM hF hret hH hr hc1;obtain ⟨c1,c2,c3,c4⟩:=Cd.ref hcd2;obtain ⟨g1,g2,g3,g4⟩:=Cd.ref hcd3;obtain ⟨f1,_⟩:=Cd.lbl g3;have hszF:szF x=x.params.length+1+x.locals.length:=rfl;show OS I _ x F _ ls c (up m) ret (((sem I.p I.OP n).e x y m).and λv m=>if v=0 then .ok (0,0) m else (qbl ((sem I.p I.OP n).t x) B m).and λy' m=>if y'.1=1 then .ok (0,0) m else if y'.1=3 then .ok y' m else (sem I.p I.OP n).w x y B m);refine OE.bind (m:=up m) (j:=0) (δ:=1) (σ:=17) (OS I _ x F _ ls c (up m) ret) Tt (λ_ _ _ h=>h) (hE x y lp 0 kk a q1 m c F av b hx hv hu hd hcd1 O hM hF hH O) (.nil _) (by show 0+40 * m.left<=40 * (m.left+1);omega) (by show m.left+1<=m.left+40 * 0+1;omega) O λv m2 h=>?_;obtain ⟨k,c2',b2,R,hM2,hS,hf,hc,hU,k1,k3⟩:=h;have hS:SK I c c2' (F+szF x):=hS;have hF2:FR x F c2' m2.frm:=by rw [hf];exact hF.keep hS hH (Nat.le_refl _)
  have hret2:c2'[F+x.params.length]?=some ret:=(hS _ O O).trans hret;have s1:=qg7 (a:=v) (b:=b2) (C:=((F+szF x:Nat):Int)) (d:=(m2.calls:Int)) (i:=m2.inp) (o:=m2.out) (hM2.cell c1 O) (hM2.cell c2 O);show OS I _ x F _ ls c (up m) ret (if v=0 then _ else _);by_cases h0:v=0
  · rw [if_pos h0]
    rw [if_pos h0,f1] at s1;exact ⟨_,c2',_,_,_,_,_,R.trans (.one rfl s1),hM2,hS.le O,hF2,hret2,hc,by show _<=40 * (m.left+1);omega,by show m.left+1<=_;omega,.inl ⟨rfl,rfl,by show (m2.calls:Int)=(m.calls:Int);rw [hc],rfl⟩⟩
  rw [if_neg h0];rw [if_neg h0] at s1;have h:=qfN hT hx B lv (lp+1) _ _ _ (ls++[lB,lE]) m2 c2' F v b2 ret bv bu bd bn (λ_=>by simp) c3 O hM2 hF2 hret2 hH (by rw [hc];exact hr) O;have R1:=R.trans (.one rfl s1);cases hr1:qbl ((sem I.p I.OP n).t x) B m2 with
  | out=>trivial
  | fin m' st cd=>rw [hr1] at h;exact FNo.pre h R1 (by show _<=40 * (m.left+1);omega) (by show m.left+1+17<=_;omega)
  | ok w m3=>
    rw [hr1] at h;obtain ⟨k',c3',a3,b3,C3,e3,p3,R3,hM3,hS3,hF3,hret3,hc3,k5,k6,hw⟩:=h;have hSS:SK I c c3' F:=(hS.le O).trans hS3 (Nat.le_refl _);have hcc:m3.calls=m.calls:=hc3.trans hc;have e1:(ls++[lB,lE]).getD ((ls++[lB,lE]).length - 1) []=lE:=by simp [List.getD_eq_getElem?_getD]
    have e2:(ls++[lB,lE]).getD ((ls++[lB,lE]).length - 2) []=lB:=by simp [List.getD_eq_getElem?_getD]
    have again:∀ {j:Nat} {a' b':Int},Rch (ms c av b ((F+szF x:Nat):Int) (m.calls:Int) (a:Int) m.inp m.out) j (ms c3' a' b' ((F+szF x:Nat):Int) (m3.calls:Int) (a:Int) m3.inp m3.out)->j+40 * m3.left<=40 * m.left->m.left<=m3.left+40 * j->OS I (ms c av b ((F+szF x:Nat):Int) (m.calls:Int) (a:Int) m.inp m.out) x F (q2+2) ls c (up m) ret ((sem I.p I.OP n).w x y B m3):=λ{j a' b'} RR j1 j2=>
      OS.pre (m2:=up m3) (hW x y B lv lp kk k2 a q1 q2 lB lE ls m3 c3' F a' b' ret hx hv hu hy hd bv bu bd bn hcd1 hcd2 hcd3 hlB hq hM3 hF3 hret3 hH (by rw [hcc];exact hr) O) RR hSS hcc (by show j+40 * (m3.left+1)<=40 * (m.left+1);omega) (by show m.left+1<=m3.left+1+40 * j;omega)
    show OS I _ x F _ ls c (up m) ret (if w.1=1 then .ok (0,0) m3 else if w.1=3 then .ok w m3 else (sem I.p I.OP n).w x y B m3);rcases hw with ⟨w1,w2,w3,w4⟩|⟨w1,_,w2,w3,w4⟩|⟨w1,_,w2,w3,w4⟩|hw
    · rw [if_neg O,if_neg O]
      subst w2 w3 w4;have s2:=qpd (a:=a3) (b:=b3) (C:=((F+szF x:Nat):Int)) (d:=(m2.calls:Int)) (i:=m3.inp) (o:=m3.out) (hM3.cell g1 O) (hM3.cell g2 O);rw [hlB] at s2;have R4:=(R1.trans R3).trans (.one rfl s2);rw [<- hc3] at R4;exact again R4 O O
    · rw [if_pos w1]
      rw [e1,f1] at w4;subst w2 w3 w4;exact ⟨_,c3',_,_,_,_,_,R1.trans R3,hM3,hSS,hF3,hret3,hcc,by show _<=40 * (m.left+1);omega,by show m.left+1<=_;omega,.inl ⟨rfl,rfl,by show (m2.calls:Int)=(m.calls:Int);rw [hc],rfl⟩⟩
    · rw [if_neg O,if_neg O]
      rw [e2,hlB] at w4;subst w2 w3 w4;have R4:=R1.trans R3;rw [<- hc3] at R4;exact again R4 O O
    · rw [if_neg O,if_pos hw.1]
      exact ⟨_,c3',_,_,_,_,_,R1.trans R3,hM3,hSS,hF3,hret3,hcc,by show _<=40 * (m.left+1);omega,by show m.left+1<=_;omega,.inr (.inr (.inr (by rw [<- hc];exact hw)))⟩
section
variable{I:Im}{n:Nat}(hI:I.OK){x:Fnc}(hx:x∈I.p.funcs){lv lp kk k2 a q F:Nat}{m:MS}{c:List Int}{av b ret:Int}{y:Ex}{B:List Stm}{nm:Str}{lB lE:Str}{ls:List Str}(hq:q<=I.G)(hM:MR I c m)(hF:FR x F c m.frm)(hret:c[F+x.params.length]?=some ret)(hH:I.H<=F)(hl:m.left≠0)(hr:F+szF x+102+120 * (100 - m.calls)<=65530)(hc1:1<=m.calls)
include hx hq hM hF hret hH hl hr hc1
theorem qsz(hW:PW I n)(hv:exV y=true)(hu:exU y=true)(hd:∀ nd∈ndX y lp,ndC I.p x nd=0)(hy:dX y<=16)(bv:qdU B lv=true)(bu:qfF B=true)(bd:dSs B<=16)(bn:∀ nd∈qdf B (lp+1),ndC I.p x nd=0)(hcd:Cd I.img I.lab a (.lab lB::(cE I.p x y 0 kk).1++.ref qb9 lE::(cB I.p x B k2 (ls++[lB,lE])).1++[.ref qep lB,.lab lE]) q):
  OS I (ms c av b ((F+szF x:Nat):Int) (m.calls:Int) (a:Int) m.inp m.out) x F q ls c m ret ((sem I.p I.OP n).w x y B (dn m)):=by
 obtain ⟨q2,d1,d2⟩:=hcd.app;obtain ⟨q1,d3,d4⟩:=d1.app;obtain ⟨f1,f2⟩:=Cd.lbl d3;obtain ⟨_,_,g3,_⟩:=Cd.ref d2;obtain ⟨_,g4⟩:=Cd.lbl g3;cases (show q2+2=q from g4);have h:=hW x y B lv lp kk k2 a q1 q2 lB lE ls (dn m) c F av b ret hx hv hu hy hd bv bu bd bn f2 d4 d2 f1 hq hM.dn hF hret hH hr hc1;have e:up (dn m)=m:=by
  show ({ m with left:=m.left - 1+1 }:MS)=m;rw [Nat.sub_add_cancel O]
 rw [e] at h;exact h
include hI
theorem qyx(hO:OPK I.OP)(hE:PE I n)(hC:PC I n){az:List Ex}(hv:qeG az=true)(hu:qfQ az=true)(hd:∀ nd∈qfI az lp,ndC I.p x nd=0)(hy:dXs az<=16)(hn:qeT I.p x (nm,4,(az.length:Int))=0)(hcd:Cd I.img I.lab a ((cC I.p x az 0 kk).1++cL I.p nm az.length) q):
  OS I (ms c av b ((F+szF x:Nat):Int) (m.calls:Int) (a:Int) m.inp m.out) x F q ls c m ret ((qbf ((sem I.p I.OP n).e x) az (dn m)).and λvs m=>((sem I.p I.OP n).c (qiv I.p nm).toNat vs m).and λ_ m=>.ok (0,0) m):=by
 have h:=qpI (n:=n) (σ:=17) (w:=0) (av:=av) (b:=b) hI hO hE hC hx hq hM hF hH hl hv hu hd hn hcd O O;have hszF:szF x=x.params.length+1+x.locals.length:=rfl;rw [<- ER.and_and];refine OE.bind (m:=m) (m1:=m) (j:=0) (δ:=0) (σ:=17) (OS I _ x F _ ls c m ret) Tt (λ_ _ _ h=>h) h (.nil _) O O O λv m2 h=>?_;obtain ⟨k,c2',b2,R,hM2,hS,hf,hc,hU,k1,k3⟩:=h;have hS:SK I c c2' (F+szF x):=hS;exact ⟨_,c2',_,_,_,_,_,R,hM2,hS.le O,by rw [hf];exact hF.keep hS hH (Nat.le_refl _),(hS _ O O).trans hret,hc,by omega,by omega,.inl ⟨rfl,rfl,by rw [hc],rfl⟩⟩
end
def qwy(hI:I.OK)(hO:OPK I.OP)(hE:PE I n)(hC:PC I n)(hT:PT I n)(hW:PW I n):PT I (n+1):=by
  rintro x ⟨kd,nm,es,B,E⟩ lv lp kk a q ls m c F av b ret hx hv hu hdp hd hls hcd hq hM hF hret hH hr hc1;obtain ⟨_,hc,hes,hb,he⟩:=qdm hv;obtain ⟨k1,k2,a1,a2,a3,a4⟩:=qcE hc;simp only [stU,Bool.and_eq_true] at hu;obtain ⟨d1,d2,d3,d4⟩:=qeA hd;simp only [Stm.kind,Stm.exprs,Stm.body,Stm.els] at k1 k2 a1 a2 a3 a4 hes hb he;rw [dS] at hdp;show OS I _ x F q ls c m ret ((qkv m).and λ_ m=>sX I.p (sem I.p I.OP n) x (.mk kd nm es B E) m);refine qmz (OS I _ x F q ls c m ret) Z Z (λ_ _ _ h=>h) λhl=>?_;unfold cS at hcd;show OS I _ x F q ls c m ret (sX I.p (sem I.p I.OP n) x (.mk kd nm es B E) (dn m));unfold sX;have one:∀ {y:Ex} {r:List Ex},es=y::r->exV y=true/\exU y=true/\(∀ nd∈ndX y lp,ndC I.p x nd=0)/\dX y<=16:=λ{y r} e=>by
    subst e;simp only [qeG,qfQ,Bool.and_eq_true] at hes hu;rw [dXs] at hdp;exact ⟨hes.1,hu.1.1.1,λnd h=>d2 nd (List.mem_append_left _ h),by omega⟩
  have lpos:kd=9\/kd=10->0 < lp:=λh=>by
    rcases Nat.eq_zero_or_pos lp with h0|h0
    · rw [ndC,if_pos ⟨h,h0⟩] at d1;exact absurd d1 Dc
    · exact h0
  have l1:qcY kd=1->∃ y r,es=y::r:=λh=>by
    cases es with
    | nil=>rw [h] at a1;simp at a1
    | cons y r=>exact ⟨y,r,rfl⟩
  by_cases e1:kd=1
  · rw [if_pos e1] at hcd
    rw [if_pos (show (Stm.mk kd nm es B E).kind=1 from e1)];subst e1;obtain ⟨y,r,rfl⟩:=l1 rfl;obtain ⟨v1,v2,v3,v4⟩:=one rfl;unfold cH at hcd;exact qpO (y:=y) (nm:=nm) hI hE hx hq hM hF hret hH hl hr v1 v2 v3 v4 (by have e:qeo (.mk 1 nm (y::r) B E)=(nm,1,0):=rfl;rwa [ndC,if_neg Q16,e] at d1) hcd
  rw [if_neg e1] at hcd;rw [if_neg (show ¬ (Stm.mk kd nm es B E).kind=1 from e1)];by_cases e2:kd=2
  · rw [if_pos e2] at hcd
    rw [if_pos (show (Stm.mk kd nm es B E).kind=2 from e2)];subst e2;obtain ⟨y,z,r,rfl⟩:∃ y z r,es=y::z::r:=by
      match es,(show 2<=es.length from a1) with
      | y::z::r,_=>exact ⟨y,z,r,rfl⟩
    obtain ⟨v1,v2,v3,v4⟩:=one rfl;simp only [qeG,qfQ,Bool.and_eq_true] at hes hu;simp only [dXs] at hdp;have eI:∀ w k,cI I.p x (y::z::r) w k=cE I.p x z w k:=λw k=>by unfold cI cH;rfl
    have eH:∀ w k,cH I.p x (y::z::r) w k=cE I.p x y w k:=λw k=>by unfold cH;rfl
    rw [eH,eI] at hcd;exact qsy (y:=y) (z:=z) (nm:=nm) hI hE hx hq hM hF hret hH hl hr v1 v2 v3 v4 hes.2.1 hu.1.1.2.1 (λnd h=>d2 nd (List.mem_append_right _ (List.mem_append_left _ h))) O (by have e:qeo (.mk 2 nm (y::z::r) B E)=(nm,3,0):=rfl;rwa [ndC,if_neg Q16,e] at d1) hcd
  rw [if_neg e2] at hcd;rw [if_neg (show ¬ (Stm.mk kd nm es B E).kind=2 from e2)];by_cases e3:kd=3
  · rw [if_pos e3] at hcd
    rw [if_pos (show (Stm.mk kd nm es B E).kind=3 from e3)];subst e3;obtain ⟨y,r,rfl⟩:=l1 rfl;obtain ⟨v1,v2,v3,v4⟩:=one rfl;unfold cH at hcd;by_cases e0:E.length=0
    · rw [if_pos e0] at hcd
      obtain rfl:=List.length_eq_zero_iff.1 e0;exact qC5 (y:=y) (B:=B) (lp:=lp) hI hE hT hx hq hM hF hret hH hl hr hc1 v1 v2 v3 v4 hb hu.1.2 O d3 hls hcd
    · rw [if_neg e0] at hcd
      exact qC6 (y:=y) (B:=B) (E:=E) (lp:=lp) hI hE hT hx hq hM hF hret hH hl hr hc1 v1 v2 v3 v4 hb hu.1.2 O d3 he hu.2 O d4 hls hcd
  rw [if_neg e3] at hcd;rw [if_neg (show ¬ (Stm.mk kd nm es B E).kind=3 from e3)];by_cases e4:kd=4
  · rw [if_pos e4] at hcd
    rw [if_pos (show (Stm.mk kd nm es B E).kind=4 from e4)];subst e4;obtain ⟨y,r,rfl⟩:=l1 rfl;obtain ⟨v1,v2,v3,v4⟩:=one rfl;unfold cH at hcd;exact qsz (y:=y) (B:=B) (lp:=lp) hx hq hM hF hret hH hl hr hc1 hW v1 v2 v3 v4 hb hu.1.2 O d3 hcd
  rw [if_neg e4] at hcd;rw [if_neg (show ¬ (Stm.mk kd nm es B E).kind=4 from e4)];by_cases e5:kd=5
  · rw [if_pos e5] at hcd
    rw [if_pos (show (Stm.mk kd nm es B E).kind=5 from e5)];subst e5;exact qyx (az:=es) (nm:=nm) hI hx hq hM hF hret hH hl hr hc1 hO hE hC hes hu.1.1 d2 O (by have e:qeo (.mk 5 nm es B E)=(nm,4,(es.length:Int)):=rfl;rwa [ndC,if_neg Q16,e] at d1) hcd
  rw [if_neg e5] at hcd;rw [if_neg (show ¬ (Stm.mk kd nm es B E).kind=5 from e5)];by_cases e6:kd=6
  · rw [if_pos e6] at hcd
    rw [if_pos (show (Stm.mk kd nm es B E).kind=6 from e6)];subst e6;obtain ⟨y,r,rfl⟩:=l1 rfl;obtain ⟨v1,v2,v3,v4⟩:=one rfl;unfold cH at hcd;exact qC8 (y:=y) hI hE hx hq hM hF hret hH hl hr v1 v2 v3 v4 hc1 hcd
  rw [if_neg e6] at hcd;rw [if_neg (show ¬ (Stm.mk kd nm es B E).kind=6 from e6)];by_cases e7:kd=7
  · rw [if_pos e7] at hcd
    rw [if_pos (show (Stm.mk kd nm es B E).kind=7 from e7)];subst e7;obtain ⟨y,r,rfl⟩:=l1 rfl;obtain ⟨v1,v2,v3,v4⟩:=one rfl;unfold cH at hcd;exact qC7 (y:=y) hI hE hx hq hM hF hret hH hl hr v1 v2 v3 v4 hcd
  rw [if_neg e7] at hcd;rw [if_neg (show ¬ (Stm.mk kd nm es B E).kind=7 from e7)];by_cases e8:kd=8
  · rw [if_pos e8] at hcd
    rw [if_pos (show (Stm.mk kd nm es B E).kind=8 from e8)];subst e8;obtain ⟨y,r,rfl⟩:=l1 rfl;obtain ⟨v1,v2,v3,v4⟩:=one rfl;unfold cH at hcd;exact qyy (y:=y) hI hE hx hq hM hF hret hH hl hr v1 v2 v3 v4 hcd
  rw [if_neg e8] at hcd;rw [if_neg (show ¬ (Stm.mk kd nm es B E).kind=8 from e8)];by_cases e9:kd=9
  · rw [if_pos e9] at hcd
    rw [if_pos (show (Stm.mk kd nm es B E).kind=9 from e9)];subst e9;exact qpP (j:=1) hI hq hM hF hret hH hl (.inl rfl) (hls (lpos (.inl rfl))) hcd
  rw [if_neg e9] at hcd;rw [if_neg (show ¬ (Stm.mk kd nm es B E).kind=9 from e9)];exact qpP (j:=2) hI hq hM hF hret hH hl (.inr rfl) (hls (lpos (.inr O))) hcd
def Im.BD(I:Im):Prop:=∀ x∈I.p.funcs,qdU x.body 1=true/\qfF x.body=true/\dSs x.body<=16/\∀ nd∈qdf x.body 0,ndC I.p x nd=0
def qmK{I:Im}(hI:I.OK){m:MS}{b d:Int}{i o:Str}:∀ (j:Nat) (c:List Int) (C p q:Nat),MR I c m->Cd I.img I.lab p (List.replicate j (.op qcq)) q->q<=I.G->I.H<=C->C+j<=65536 ->
  ∃ c',Rch (ms c 0 b (C:Int) d (p:Int) i o) j (ms c' 0 b ((C+j:Nat):Int) d (q:Int) i o)/\MR I c' m/\(∀ k,k < C->c'[k]?=c[k]?)/\∀ t,t < j->c'[C+t]?=some 0
 | 0,c,C,p,q,hM,hcd,_,_,_=>by
  cases (show p=q from hcd);exact ⟨c,.nil _,hM,λ_ _=>rfl,λt h=>by omega⟩
 | j+1,c,C,p,q,hM,hcd,hq,hC,hr=>by
  rw [List.replicate_succ] at hcd;obtain ⟨c1,c2,c3⟩:=Cd.op hcd;have hl:=hM.len;have s1:=qjX (a:=0) (b:=b) (q:=C) (d:=d) (i:=i) (o:=o) (hM.cell c1 O) O hl;obtain ⟨c',R,hM',h1,h2⟩:=qmK (b:=b) (d:=d) (i:=i) (o:=o) hI j (c.set C 0) (C+1) (p+1) q (hM.push hI hC) c2 hq O O;rw [show C+1+j=C+(j+1) by omega] at R;have R1:=(Rch.one rfl s1).trans R;rw [Nat.add_comm 1 j] at R1;refine ⟨c',R1,hM',λk hk=>(h1 k O).trans (List.getElem?_set_ne O),λt ht=>?_⟩;cases t with
  | zero=>exact (h1 C O).trans (List.getElem?_set_self O)
  | succ t=>have:=h2 t O;rwa [show C+1+t=C+(t+1) by omega] at this
def qDc(hI:I.OK){m:MS}{av b d:Int}{i o:Str}{C p:Nat}(hM:MR I c m)(hcd:Cd I.img I.lab p ((if 0 < n then [.num qeE 0] else [])++List.replicate n (.op qcq)) q)(hq:q<=I.G)(hC:I.H<=C)(hr:C+n<=65536):
    ∃ j c' a',Rch (ms c av b (C:Int) d (p:Int) i o) j (ms c' a' b ((C+n:Nat):Int) d (q:Int) i o)/\j<=n+1/\MR I c' m/\(∀ k,k < C->c'[k]?=c[k]?)/\∀ t,t < n->c'[C+t]?=some 0:=by
  by_cases h:0 < n
  · rw [if_pos h] at hcd
    obtain ⟨c1,c2,c3,c4⟩:=Cd.num (L:=List.replicate n (.op qcq)) hcd Dc Dc;obtain ⟨c',R,hM',h1,h2⟩:=qmK (b:=b) (d:=d) (i:=i) (o:=o) hI n c C (p+2) q hM c3 hq hC hr;have s1:=qpe (a:=av) (b:=b) (C:=(C:Int)) (d:=d) (i:=i) (o:=o) (hM.cell c1 O) (hM.cell c2 O);exact ⟨_,c',0,(Rch.one rfl s1).trans R,by omega,hM',h1,h2⟩
  · obtain rfl:n=0:=by omega
    cases (show p=q from hcd);exact ⟨0,c,av,.nil _,by omega,hM,λ_ _=>rfl,λt h=>by omega⟩
theorem qxS{l:Nat}{vs:List Int}(h:vs.length=n):qeQ (n+l) vs=vs++List.replicate l 0:=by grind [qeQ]
def qnM{I:Im}{n:Nat}(hI:I.OK)(hB:I.BD)(hT:PT I n){i:Nat}{f:Fnc}{vs:List Int}{a:Nat}{m:MS}{c:List Int}{B:Nat}{av b:Int}{s0:Mst}{j0:Nat}(hf:I.p.funcs[i]?=some f)(hvl:vs.length=f.params.length)(hv:∀ k v,vs[k]?=some v->U32 v/\c[B+k]?=some v)(h1:I.img[a]?=some 28)(h2:I.img[a+1]?=some (I.lab (fT (i:Int))))(ha:a+2<=I.G)(hM:MR I c m)(hH:I.H<=B)(hr:B+6+120 * (100 - m.calls)<=65530)
    (R0:Rch s0 j0 (ms c av b ((B+f.params.length:Nat):Int) (m.calls:Int) (a:Int) m.inp m.out)) (hj:j0<=9):CLE I s0 c B (B+f.params.length) (a+2) { m with left:=m.left+1 } ((sem I.p I.OP (n+1)).c i vs m):=by
  have hfm:f∈I.p.funcs:=List.mem_of_getElem? hf;obtain ⟨hq,hnd⟩:=hI.fn f hfm;obtain ⟨b1,b2,b3,b4⟩:=hB f hfm;have hfd:I.p.funcs.getD i fn0=f:=by rw [List.getD_eq_getElem?_getD,hf];rfl
  have hszF:szF f=f.params.length+1+f.locals.length:=rfl;have l12:=hq.l12;have p6:=hq.p6;have hlen:=hM.len;have hcl:=hM.calls;show CLE I _ c B _ _ _ (cX I.p (sem I.p I.OP n) i vs m);rw [cX,hfd];have s1:=qCL (a:=av) (b:=b) (i:=m.inp) (o:=m.out) (q:=B+f.params.length) (hM.cell h1 O) (hM.cell h2 O) O hlen hcl;by_cases h100:m.calls=100
  · rw [if_pos h100]
    rw [if_neg O] at s1;exact ⟨_,_,R0.trans (.one rfl s1),rfl,rfl,λ_=>rfl,by show j0+1+40 * m.left<=40 * (m.left+1);omega,by show m.left+1<=_;omega,λh=>absurd h Dc⟩
  rw [if_neg h100];rw [if_pos O] at s1;obtain ⟨a0,bb,k0,g1,g2,g3⟩:=hI.code i f hf;rw [g1] at s1;unfold cF at g2;obtain ⟨qe,g4,g5⟩:=g2.app;obtain ⟨qb,g6,g7⟩:=g4.app;obtain ⟨_,g8⟩:=Cd.lbl (L:=(if 0 < f.locals.length then [.num qeE 0] else [])++List.replicate f.locals.length (.op qcq)) g6;obtain ⟨r1,r2,r3,r4⟩:=Cd.num g5 Dc Dc;obtain ⟨r5,r6,r7,r8⟩:=Cd.num r3 Dc Dc;have g9:=g7.le;have hM1:MR I (c.set (B+f.params.length) ((a+2:Nat):Int)) m:=hM.push hI O;obtain ⟨j,c2,a2,R,j1,hM2,z1,z2⟩:=qDc (av:=av) (b:=1) (d:=((m.calls+1:Nat):Int)) (i:=m.inp) (o:=m.out) hI hM1 g8 O (show I.H<=B+f.params.length+1 by omega) O;have hM3:MR I c2 { m with frm:=qeQ (f.params.length+f.locals.length) vs,calls:=m.calls+1 }:=⟨hM2.len,hM2.code,hM2.var,hM2.arr,by show m.calls+1<=100;omega,hM2.out⟩;have low:∀ k,k < B+f.params.length->c2[k]?=c[k]?:=λk hk=>(z1 k O).trans (List.getElem?_set_ne O);have hret:c2[B+f.params.length]?=some ((a+2:Nat):Int):=(z1 _ O).trans (List.getElem?_set_self O);have hF:FR f B c2 (qeQ (f.params.length+f.locals.length) vs):=by
    rw [qxS hvl];refine ⟨by rw [List.length_append,hvl,List.length_replicate],λk v hk=>?_⟩;by_cases hkp:k < f.params.length
    · rw [List.getElem?_append_left O] at hk
      have:=hv k v hk;exact ⟨this.1,by rw [adr,if_pos hkp,low _ O];exact this.2⟩
    · rw [List.getElem?_append_right O,List.getElem?_replicate] at hk
      split at hk
      · cases hk
        have:=z2 (k - f.params.length) O;exact ⟨⟨by decide,by decide⟩,by rw [adr,if_neg hkp,show B+(k+1)=B+f.params.length+1+(k - f.params.length) by omega];exact this⟩
      · cases hk
  have h:=qfN hT hfm f.body 1 0 k0 qb qe [] { m with frm:=qeQ (f.params.length+f.locals.length) vs,calls:=m.calls+1 } c2 B a2 1 ((a+2:Nat):Int) b1 b2 b3 b4 (λh=>by omega) g7 O hM3 hF hret hH (by show B+szF f+102+120 * (100 - (m.calls+1))<=65530;omega) (by show 1<=m.calls+1;omega);rw [show B+f.params.length+1+f.locals.length=B+szF f by omega] at R;have R2:=R0.trans ((Rch.one rfl s1).trans R);have hS:SK I c c2 B:=λk _ hk=>low k O;generalize qbl ((sem I.p I.OP n).t f) f.body { m with frm:=qeQ (f.params.length+f.locals.length) vs,calls:=m.calls+1 }=r at h;cases r with
  | out=>trivial
  | fin m' st cd=>exact FNo.pre h R2 (by show _+40 * m.left<=40 * (m.left+1);omega) (by show m.left+1+17<=m.left+_+0;omega)
  | ok y m2=>
    obtain ⟨k,c3,a3,b3,C3,e3,p3,R3,hM4,hS3,hF3,hret3,hc3,k1,k2,hw⟩:=h;have k1:k+40 * m2.left<=40 * m.left:=k1;have k2:m.left<=m2.left+40 * k:=k2;have hM5:MR I c3 { m2 with frm:=m.frm,calls:=m.calls }:=⟨hM4.len,hM4.code,hM4.var,hM4.arr,hcl,hM4.out⟩;have hSS:SK I c c3 B:=hS.trans hS3 (Nat.le_refl _);rcases hw with ⟨w1,w2,w3,w4⟩|⟨_,w,_⟩|⟨_,w,_⟩|⟨w1,w2,w3,w4,w5,w6⟩
    · subst w2 w3 w4
      have s2:=qpe (a:=a3) (b:=b3) (C:=((B+szF f:Nat):Int)) (d:=((m.calls+1:Nat):Int)) (i:=m2.inp) (o:=m2.out) (hM4.cell r1 O) (hM4.cell r2 O);have s3:=qCO (a:=0) (b:=b3) (C:=((B+szF f:Nat):Int)) (i:=m2.inp) (o:=m2.out) (q:=B+f.params.length) (hM4.cell r5 O) (hM4.cell r6 O) (by unfold w32;omega) hret3 (e:=m.calls) hcl;refine ⟨_,c3,b3,by rw [if_neg O];exact (R2.trans R3).trans ((Rch.one Z s2).trans (.one Z s3)),hM5,hSS,Z,Z,by rw [if_neg O];exact ⟨by decide,by decide⟩,by show _+3+40 * m2.left<=40 * (m.left+1);omega,by show m.left+1<=m2.left+_;omega⟩
    · exact absurd w Dc
    · exact absurd w Dc
    · subst w2 w4 w5 w6
      refine ⟨_,c3,b3,by rw [if_pos w1];exact R2.trans R3,hM5,hSS,Z,Z,by rw [if_pos w1];exact w3,by show _+3+40 * m2.left<=40 * (m.left+1);omega,by show m.left+1<=m2.left+_;omega⟩
def qww(hI:I.OK)(hB:I.BD)(hT:PT I n):PC I (n+1):=λ_ _ _ _ _ _ _ _ _ hf hvl hv h1 h2 ha hM hH hr=>qnM hI hB hT hf hvl hv h1 h2 ha hM hH hr (.nil _) (Nat.zero_le _)
def sim{I:Im}(hI:I.OK)(hB:I.BD)(hO:OPK I.OP):∀ n,PE I n/\PC I n/\PT I n/\PW I n
 | 0=>⟨by unfold PE;intros;exact trivial,by unfold PC;intros;exact trivial,by unfold PT;intros;exact trivial,by unfold PW;intros;exact trivial⟩
 | n+1=>
  have ⟨e,c,t,w⟩:=sim hI hB hO n
  ⟨qwx hI hO e c,qww hI hB t,qwy hI hO e c t w,qwz e t w⟩
mutual
def qAn:∀ (x:Stm) (lv c:Nat),(wkS x lv c).2=0->dS x<=16
 | .mk k nm es b e,lv,c,h=>by
  simp only [wkS] at h;split at h
  · cases h
  split at h
  · rename_i h2;exact absurd h h2
  split at h
  · rename_i h2;exact absurd h h2
  rename_i h3;split at h
  · rename_i h2;exact absurd h h2
  rename_i h4;have h5:=qi4 es 1 (c+1) (by simpa using h3);have h6:=qgD b _ _ (by simpa using h4);have h7:=qgD e _ _ h;rw [dS];omega
def qgD:∀ (l:List Stm) (lv c:Nat),(qdL l lv c).2=0->dSs l<=16
 | [],_,_,_=>by rw [dSs];omega
 | x::r,lv,c,h=>by
  simp only [qdL] at h;split at h
  · rename_i h1;exact absurd h h1
  rename_i h1;have h2:=qAn x lv c Q6;have h3:=qgD r lv _ h;rw [dSs];omega
end
def qo0:∀ {l:List Fnc} {i c:Nat},(fnF l i c).1=0->∀ x∈l,dSs x.body<=16
  | [],_,_,_=>λx hx=>(by cases hx)
  | x::r,i,c,h=>by
    rw [fnF] at h;split at h
    · rename_i h1;exact absurd h h1
    rename_i h1;intro y hy;rcases List.mem_cons.1 hy with rfl|hy
    · have h2:(fnC y c).2=0:=by simpa using h1
      unfold fnC at h2;split at h2
      · cases h2
      split at h2
      · cases h2
      split at h2
      · cases h2
      exact qgD _ _ _ h2
    · exact qo0 h y hy
def qmc:∀ {l:List Fnc} {seen:List Str} {i:Nat},(qhG l seen i).1=0->∀ x∈l,(x.params++x.locals).Nodup
 | [],_,_,_=>λx hx=>(by cases hx)
 | x::r,seen,i,h=>by
  rw [qhG] at h;split at h
  · cases h
  rename_i h1;intro y hy;rcases List.mem_cons.1 hy with rfl|hy
  · exact Classical.not_not.1 λh2=>h1 (.inr h2)
  · exact qmc h y hy
def qyj(h:qcf p=(0,0)):(∀ x∈p.funcs,(x.params++x.locals).Nodup)/\∃ (mi:Nat) (x:Fnc),qcQ p.funcs=(mi:Int)/\p.funcs[mi]?=some x/\x.params=[]/\fi p qbI=(mi:Int):=by
  have e:=qg1 (nm:=qbI) Fnc.name 4 (λi=>(i:Int)) p.funcs;rw [qcf] at h;split at h
  · rename_i h3;rw [h] at h3;exact absurd rfl h3
  split at h
  · rename_i h3;rw [h] at h3;exact absurd rfl h3
  rename_i h4;split at h
  · cases h
  rename_i h5;refine ⟨qmc (by simpa using h4),?_⟩;obtain ⟨mi,hmi⟩:=Int.eq_ofNat_of_zero_le (show 0<=qcQ p.funcs by omega);obtain ⟨_,x,hx,_⟩:=ql5 (q:=λx:Fnc=>decide (x.name=qbI)) (l:=p.funcs) (k:=0) (show 0<=qcQ p.funcs by omega);have hx:p.funcs[(qcQ p.funcs).toNat - 0]?=some x:=hx;rw [Nat.sub_zero] at hx;rw [hx] at h;simp only at h;split at h
  · rename_i h6
    rw [hmi,Int.toNat_natCast] at hx;refine ⟨mi,x,hmi,hx,h6,?_⟩;have e2:fdI (fE p) qbI=if 0<=qcQ p.funcs then some ((qcQ p.funcs).toNat:Int) else none:=e
    rw [fi,e2,if_pos O,hmi,Int.toNat_natCast];rfl
  · cases h
section
variable{c:List Int}{lab:Str->Int}
def Cd.flat:∀ {L:List Li} {p q:Nat},Cd c lab p L q->∀ k v,(L.flatMap (liC lab))[k]?=some v->c[p+k]?=some v
  | [],p,q,_,k,v,h=>by simp at h
  | y::r,p,q,h,k,v,hk=>by
    rw [List.flatMap_cons] at hk;by_cases h1:k < (liC lab y).length
    · rw [List.getElem?_append_left h1] at hk
      exact h.1 k v hk
    · rw [List.getElem?_append_right O,qe5] at hk
      rw [qe5] at h1;have:=h.2.2.flat _ _ hk
      rwa [show p+liW y+(k - liW y)=p+k by omega] at this
def qCz{p:Prg}:∀ (l:List Fnc) (i k q e:Nat),Cd c lab q (cFs p l i k).1 e->∀ (j:Nat) (x:Fnc),l[j]?=some x->∃ a b k':Nat,lab (fT ((i+j:Nat):Int))=(a:Int)/\Cd c lab a (cF p x (i+j) k').1 b/\b<=e
 | [],i,k,q,e,_,j,x,h=>by simp at h
 | y::r,i,k,q,e,hcd,j,x,h=>by
  unfold cFs at hcd;obtain ⟨m,h1,h2⟩:=hcd.app;cases j with
  | zero=>
   simp only [List.getElem?_cons_zero,Option.some.injEq] at h;subst h;refine ⟨q,m,k,?_,h1,h2.le⟩;unfold cF at h1;obtain ⟨_,h3,_⟩:=h1.app;obtain ⟨_,h4,_⟩:=h3.app;exact (Cd.lbl (L:=(if 0 < y.locals.length then [.num qeE 0] else [])++List.replicate y.locals.length (.op qcq)) h4).1
  | succ j=>
   rw [List.getElem?_cons_succ] at h;have:=qCz r (i+1) _ m e h2 j x h
   rwa [show i+1+j=i+(j+1) by omega] at this
def qh0:∀ l:List Int,(l.map (Li.num qca ·)).flatMap (liC lab)=l
 | []=>rfl
 | x::r=>by rw [List.map_cons,List.flatMap_cons,qh0 r];rfl
def qqu{g:Glo}(hg:qe4 g=0):(g.init.length:Int)<=max g.num 1/\(g.kind=3->1<=g.num/\(g.init.length:Int)<=g.num):=by
 obtain ⟨c1,c2,c3,c4,c5,c6⟩:=qbS hg;have c7:g.kind=3->1<=g.num/\(g.init.length:Int)<=g.num:=λh=>by
  unfold qe4 at hg;exact qAS
 refine ⟨?_,c7⟩;by_cases h:g.kind=3
 · have:=c7 h;omega
 · rw [c4 h];simp only [List.length_nil];omega
def qB5{g:Glo}(hg:qe4 g=0)(hk:g.kind≠1){i e:Nat}(h:Cd c lab q (cG g i) e):lab (gT (i:Int))=(q:Int)/\q+szG g=e/\∀ k v,(qeQ (szG g) g.init)[k]?=some v->c[q+k]?=some v:=by
 obtain ⟨hl,_⟩:=qqu hg;unfold cG at h;rw [if_neg hk] at h;obtain ⟨h1,h2⟩:=Cd.lbl (L:=g.init.map (Li.num qca ·)++[Li.num qbU (max g.num 1 - (g.init.length:Int))]) h;have e1:(g.init.map (Li.num qca ·)++[Li.num qbU (max g.num 1 - (g.init.length:Int))]).flatMap (liC lab)=qeQ (szG g) g.init:=by
  rw [List.flatMap_append,qh0,qeQ,List.take_of_length_le (by unfold szG;omega)];congr 1;rw [show [Li.num qbU (max g.num 1 - (g.init.length:Int))].flatMap (liC lab)=List.replicate (max g.num 1 - (g.init.length:Int)).toNat 0 by simp [liC,show ¬ qbU=qca by decide]];congr 1;unfold szG;omega
 refine ⟨h1,?_,λk v hk=>h2.flat k v (by rw [e1];exact hk)⟩;have e2:=h2.end_;have e3:cW (g.init.map (Li.num qca ·)++[Li.num qbU (max g.num 1 - (g.init.length:Int))])=(qeQ (szG g) g.init).length:=by
  rw [<- e1,List.length_flatMap,cW];exact congrArg List.sum (List.map_congr_left λy _=>(qe5 _ y).symm)
 rw [e2,e3,qeQ,List.length_append,List.length_take,List.length_replicate];unfold szG;omega
def qvE:∀ (l:List Glo) (i q e:Nat),(∀ g∈l,qe4 g=0)->Cd c lab q (cGs l i) e->q<=e/\(∀ (j:Nat) (g:Glo),l[j]?=some g->g.kind≠1->∃ a:Nat,lab (gT ((i+j:Nat):Int))=(a:Int)/\q<=a/\a+szG g<=e/\∀ k v,(qeQ (szG g) g.init)[k]?=some v->c[a+k]?=some v) /\
    ∀ (j j':Nat) (g g':Glo),l[j]?=some g->l[j']?=some g'->j < j'->g.kind≠1->g'.kind≠1->(lab (gT ((i+j:Nat):Int))).toNat+szG g<=(lab (gT ((i+j':Nat):Int))).toNat
  | [],i,q,e,_,h=>⟨h.le,λj g h=>by simp at h,λj j' g g' h=>by simp at h⟩
  | y::r,i,q,e,hg,h=>by
    unfold cGs at h;obtain ⟨m,h1,h2⟩:=h.app;obtain ⟨b0,b1,b2⟩:=qvE r (i+1) m e (λg h=>hg g (List.mem_cons_of_mem _ h)) h2;have hy:=hg y Mc;have h1e:=h1.le;have sh:∀ j,i+1+j=i+(j+1):=λj=>by omega
    refine ⟨by omega,λj g hj hk=>?_,λj j' g g' hj hj' hlt hk hk'=>?_⟩
    · cases j with
      | zero=>
        simp only [List.getElem?_cons_zero,Option.some.injEq] at hj;subst hj;obtain ⟨c1,c2,c3⟩:=qB5 hy hk h1;exact ⟨q,c1,Nat.le_refl _,by omega,c3⟩
      | succ j=>
        rw [List.getElem?_cons_succ] at hj;obtain ⟨a,c1,c2,c3,c4⟩:=b1 j g hj hk;rw [sh] at c1;exact ⟨a,c1,by omega,c3,c4⟩
    · cases j' with
      | zero=>omega
      | succ j'=>
        rw [List.getElem?_cons_succ] at hj';cases j with
        | zero=>
          simp only [List.getElem?_cons_zero,Option.some.injEq] at hj;subst hj;obtain ⟨c1,c2,_⟩:=qB5 hy hk h1;obtain ⟨a,d1,d2,_⟩:=b1 j' g' hj' hk';rw [sh] at d1;rw [show i+0=i from rfl,c1,d1,Int.toNat_natCast,Int.toNat_natCast];omega
        | succ j=>
          rw [List.getElem?_cons_succ] at hj;have:=b2 j j' g g' hj hj' O hk hk'
          rwa [sh,sh] at this
end
def imO(p:Prg)(OP:Int->Int->Int->Option Int)(w:List Int)(lab:Str->Int):Im:=⟨p,OP,w++List.replicate (65536 - w.length) 0,lab,7+cW (cFs p p.funcs 0 0).1,cW (cP p),λi=>(lab (gT (i:Int))).toNat⟩
section
variable{p:Prg}{OP:Int->Int->Int->Option Int}{w:List Int}{lab:Str->Int}(hu:prU p)(hc:(qdC p).1=0)(hn:qei p<=49152)(hw:w.length=cW (cP p))(hcd:Cd (w++List.replicate (65536 - w.length) 0) lab 0 (cP p) (cW (cP p)))
include hu hc hn hw hcd
theorem qFr:(imO p OP w lab).OK/\(imO p OP w lab).BD/\(∀ inp a,MR (imO p OP w lab) (imO p OP w lab).img (qiu p inp a))/\(lab qkE=(cW (cP p):Int))/\∃ (mi:Nat) (x:Fnc),qcQ p.funcs=(mi:Int)/\p.funcs[mi]?=some x/\x.params=[]/\Cd (imO p OP w lab).img lab 0 [.ref qht qkE,.ref qgp (fT (mi:Int)),.num qeE 0,.op qhu] 7:=by
  obtain ⟨_,_,_,hW,_⟩:=qkS hu hc hn;obtain ⟨hO,hz⟩:=OKP.of hu hc;obtain ⟨⟨v1,v2,v3,v4,_⟩,n0,hnd⟩:=hO;have hsh:(qbM p).1=0:=by
    unfold qdC at hc;split at hc
    · rename_i h;exact absurd hc h
    · rename_i h;exact qfy Q4
  have hdp:∀ x∈p.funcs,dSs x.body<=16:=by
    unfold qbM at hsh;split at hsh
    · cases hsh
    split at hsh
    · rename_i h2;exact absurd hsh h2
    split at hsh
    · cases hsh
    exact qo0 hsh
  have hf0:=qg2 n0;obtain ⟨hnn,mi,xm,m1,m2,m3,m4⟩:=qyj n0;have hG:∀ g∈p.globals,qe4 g=0:=λg hg=>(v3 g hg).1;have hcd':=hcd;unfold cP at hcd';obtain ⟨e3,d1,d2⟩:=hcd'.app;obtain ⟨e2,d3,d4⟩:=d1.app;obtain ⟨e1,d5,d6⟩:=d3.app;obtain ⟨l1,l2⟩:=Cd.lbl d2;cases (show e3=_ from l2);have h7:e1=7:=by
    rw [d5.end_];simp [cW,liW,show ¬ qeE=qca by decide,show ¬ qeE=qbU by decide]
  subst h7;have h2e:=d6.end_;obtain ⟨g0,g1,g2⟩:=qvE p.globals 0 e2 _ hG d4;subst h2e;have zero:∀ i:Nat,0+i=i:=λi=>Nat.zero_add i;have hglo:∀ (i:Nat) (g:Glo),p.globals[i]?=some g->g.kind≠1->∃ a:Nat,lab (gT (i:Int))=(a:Int)/\(lab (gT (i:Int))).toNat=a/\7+cW (cFs p p.funcs 0 0).1<=a/\a+szG g<=cW (cP p)/\∀ k v,(qeQ (szG g) g.init)[k]?=some v->(w++List.replicate (65536 - w.length) 0)[a+k]?=some v:=λi g h1 h2=>by
    obtain ⟨a,a1,a2,a3,a4⟩:=g1 i g h1 h2;rw [zero] at a1;exact ⟨a,a1,by rw [a1,Int.toNat_natCast],a2,a3,a4⟩
  refine ⟨⟨λi x hx=>?_,λi g h1 h2=>?_,λi j g h h1 h2 h3 h4 h5=>?_,hW,g0,λi g hg=>?_,λx hx=>⟨⟨hf0,v2,v1,λg hg=>(hu.1 g hg).1,(v4 x hx).2.1,(v4 x hx).2.2.1⟩,hnn x hx⟩⟩,λx hx=>⟨(v4 x hx).2.2.2.2.1,hu.2 x hx,hdp x hx,hnd x hx⟩,λinp a=>⟨?_,λ_ _=>rfl,λi g h1 h2=>?_,λi g h1 h2=>?_,Nat.zero_le _,Nat.zero_le _⟩,l1,mi,xm,m1,m2,m3,by rw [<- m4];exact d5⟩
  · have:=qCz p.funcs 0 0 _ _ d6 i x hx
    rwa [zero] at this
  · obtain ⟨a,a1,a2,a3,a4,_⟩:=hglo i g h1 h2
    show lab _=(((lab _).toNat:Nat):Int)/\_<=(lab _).toNat/\(lab _).toNat+_<=_;rw [a2];exact ⟨a1,a3,a4⟩
  · have:=g2 i j g h h1 h2 h3 h4 h5
    rwa [zero,zero] at this
  · have hm:=List.mem_of_getElem? hg
    have:=qbS (hG g hm);exact ⟨this.1,this.2.1,(hu.1 g hm).1⟩
  · show (w++List.replicate (65536 - w.length) 0).length=65536
    rw [List.length_append,List.length_replicate];omega
  · obtain ⟨a,a1,a2,a3,a4,a5⟩:=hglo i g h1 O
    have hm:=List.mem_of_getElem? h1;have hi:=(List.getElem?_eq_some_iff.1 h1).1;have hz:=qbS (hG g hm);refine ⟨0,by show (List.replicate p.globals.length (0:Int))[i]?=_;rw [List.getElem?_replicate,if_pos (show i < p.globals.length from hi)],⟨by decide,by decide⟩,?_⟩;show (w++_)[(lab (gT (i:Int))).toNat]?=_;rw [a2];refine a5 0 0 ?_;rw [hz.2.2.2.1 O,qeQ,szG,hz.2.2.2.2.1 h2];rfl
  · obtain ⟨a,a1,a2,a3,a4,a5⟩:=hglo i g h1 O
    have hm:=List.mem_of_getElem? h1;obtain ⟨s1,s2⟩:=qqu (hG g hm);have hs:g.num.toNat=szG g:=by unfold szG;omega
    refine ⟨qeQ g.num.toNat g.init,by show (p.globals.map _)[i]?=_;rw [List.getElem?_map,show p.globals[i]?=some g from h1];simp [h2],?_,λj v hj=>?_⟩
    · rw [qeQ,List.length_append,List.length_take,List.length_replicate];omega
    · refine ⟨?_,?_⟩
      · rcases List.mem_append.1 (List.mem_of_getElem? hj) with h|h
        · exact (hu.1 g hm).2 v (List.mem_of_mem_take h)
        · rw [List.eq_of_mem_replicate h];exact ⟨by decide,by decide⟩
      · show (w++_)[(lab (gT (i:Int))).toNat+j]?=_
        rw [a2];exact a5 j v (by rw [<- hs];exact hj)
end
def RSi(w:List Int)(inp:Str)(a:Nat)(o:Str×Int×Int×Nat):Prop:=∃ K s',Rch (qco defT w inp) K s'/\s'.output=o.1/\s'.stop=o.2.1/\(s'.stop≠0->s'.code=o.2.2.1)/\K<=40 * a+40/\(s'.stop=0->a+1<=40 * K)
def qyO{OP:Int->Int->Int->Option Int}(hO:OPK OP)(hu:prU p)(hc:(qdC p).1=0)(hn:qei p<=49152):∃ w l,qgN defT (cT (cP p))=.inr (w,l)/\w.length<=49152/\∀ (n:Nat) (inp:Str) (a:Nat),qAz p OP (n+1) (qcQ p.funcs).toNat inp a=.out\/RSi w inp a (qFy a (qAz p OP (n+1) (qcQ p.funcs).toNat inp a)):=by
 obtain ⟨h1,h2,h3,h4,h5⟩:=qkS hu hc hn;obtain ⟨w,l,lab,e1,e2,e3⟩:=qBW h1 h2 h3 O h5;refine ⟨w,l,e1,by omega,λn inp a=>?_⟩;obtain ⟨hI,hB,hM,hE,mi,x,m1,m2,m3,d⟩:=qFr (OP:=OP) hu hc hn e2 (e3 _);obtain ⟨a1,a2,a3,_⟩:=Cd.ref d;obtain ⟨b1,b2,b3,_⟩:=Cd.ref a3;obtain ⟨c1,c2,c3,_⟩:=Cd.num b3 Dc Dc;obtain ⟨f1,_,_⟩:=Cd.op c3;have hT:=(sim hI hB hO n).2.2.1;have hM:=hM inp a;rw [hE] at a2;have s1:=qx8 (c:=(imO p OP w lab).img) (a:=0) (b:=0) (C:=0) (d:=0) (p:=0) (i:=inp) (o:=[]) a1 a2;have R0:Rch (qco defT w inp) 1 (ms (imO p OP w lab).img 0 0 ((cW (cP p)+x.params.length:Nat):Int) ((qiu p inp a).calls:Int) ((2:Nat):Int) (qiu p inp a).inp (qiu p inp a).out):=by
  rw [m3];exact .one rfl s1
 have hG:7<=(imO p OP w lab).G:=by show 7<=7+_;omega
 have h:=qnM (I:=imO p OP w lab) (n:=n) (vs:=[]) (a:=2) (B:=cW (cP p)) hI hB hT m2 (by rw [m3];rfl) (λk v h=>by simp at h) b1 b2 O hM (Nat.le_refl _) (by show cW (cP p)+6+120 * (100 - 0)<=65530;omega) R0 O;rw [m1,Int.toNat_natCast];have h:CLE (imO p OP w lab) _ _ _ _ _ _ (qAz p OP (n+1) mi inp a):=h;generalize qAz p OP (n+1) mi inp a=r at h;cases r with
 | out=>exact .inl rfl
 | fin m' st cd=>
  obtain ⟨k,s',r1,r2,r3,r4,r5,r6,r7⟩:=h;have r5:k+40 * m'.left<=40 * (a+1):=r5;have r6:a+1<=m'.left+40 * k+0:=r6;exact .inr ⟨k,s',r1,r2,r3,λh=>r4 (by rw [<- r3];exact h),by omega,λh=>by have:=r7 (by rw [<- r3];exact h);omega⟩
 | ok v m'=>
  obtain ⟨k,c',b',R,hM',hS,_,_,_,k1,k2⟩:=h;have k1:k+3+40 * m'.left<=40 * (a+1):=k1;have s2:=qpe (a:=v) (b:=b') (C:=((cW (cP p)+x.params.length:Nat):Int)) (d:=(m'.calls:Int)) (p:=4) (i:=m'.inp) (o:=m'.out) (hM'.cell c1 O) (hM'.cell c2 O);have s3:=qvH (a:=0) (b:=b') (C:=((cW (cP p)+x.params.length:Nat):Int)) (d:=(m'.calls:Int)) (p:=6) (i:=m'.inp) (o:=m'.out) (hM'.cell f1 O);exact .inr ⟨_,_,R.trans ((Rch.one rfl s2).trans (.one rfl s3)),rfl,rfl,λ_=>rfl,by omega,λh=>absurd (show (1:Int)=0 from h) Dc⟩
def qyB(m:Mst)(x:Ac)(op:Int):∃ w,(qbz m x op).output=m.output++w:=by
 have h0:∃ w,m.output=m.output++w:=⟨[],by simp⟩;unfold qbz;dsimp only;repeat' split
 all_goals first
  | exact ⟨_,rfl⟩
  | exact h0
def qmk:∀ (l:List Ac) (m:Mst) (op:Int),∃ w,(qbu m op l).output=m.output++w
  | [],m,_=>⟨[],by simp [qbu]⟩
  | x::r,m,op=>by
    obtain ⟨w,h⟩:=qyB m x op;rw [qbu];split
    · obtain ⟨w2,h2⟩:=qmk r (qbz m x op) op
      exact ⟨w++w2,by rw [h2,h,List.append_assoc]⟩
    · exact ⟨w,h⟩
def qsB(t:Tab)(m:Mst):∃ w,(qbi t m).output=m.output++w:=by
 have h0:∃ w,m.output=m.output++w:=⟨[],by simp⟩;unfold qbi;repeat' split
 all_goals first
  | exact h0
  | exact qmk _ _ _
def qpR(t:Tab):∀ (n:Nat) (m:Mst),∃ w,(qd4 t m n).1.output=m.output++w
  | 0,m=>⟨[],by simp [qd4]⟩
  | n+1,m=>by
    rw [qd4];split
    · obtain ⟨w,h⟩:=qsB t m
      obtain ⟨w2,h2⟩:=qpR t n (qbi t m);exact ⟨w++w2,by simp only [h2,h,List.append_assoc]⟩
    · exact ⟨[],by simp⟩
def qsX(t:Tab){m:Mst}(h:m.stop≠0):∀ n,qd4 t m n=(m,0)
 | 0=>rfl
 | n+1=>by rw [qd4,if_neg h]
def qyw:OPK OPp where
 una o a h1 h3 ha:=by
  have h:o=1\/o=2\/o=3:=by omega
  have h5:w32 (4294967295 - a)=4294967295 - a:=by unfold w32;have:=ha.1;have:=ha.2;omega
  rcases h with rfl|rfl|rfl<;>simp [OPp,qhd,opP,qg6,h5]
 bin o x y h4 h19 hx hy:=by
  have hc:o=4\/o=5\/o=6\/o=7\/o=8\/o=9\/o=10\/o=11\/o=12\/o=13\/o=14\/o=15\/o=16\/o=17\/o=18\/o=19:=by omega
  rcases hc with rfl|rfl|rfl|rfl|rfl|rfl|rfl|rfl|rfl|rfl|rfl|rfl|rfl|rfl|rfl|rfl;all_goals first
   | rfl
   | (by_cases h0:y=0<;>simp [OPp,qhd,opP,opM,comp,h0];done)
   | (simp [OPp,qhd,opP,qg6,opM,comp];done)
   | (by_cases h1:y < x<;>simp [OPp,qhd,opP,qg6,opM,comp,h1]<;>omega)
   | (by_cases h1:x < y<;>simp [OPp,qhd,opP,qg6,opM,comp,h1]<;>omega)
 and_ x y:=by
  by_cases h:x=0<;>by_cases h':y=0<;>simp [OPp,qhd,opP,qg6,h,h']
 or_ x y:=by
  by_cases h:x=0<;>by_cases h':y=0<;>simp [OPp,qhd,opP,qg6,h,h']
open Go.FL
attribute [local irreducible] JC JO JA JB qaJ qax qbN AC fill CellsAt QE Ev Mid
def qDm{a:Int}(h:(qdC p).1=0)(ha:0<=a/\a<=50000000)(hi:inp.length<=2000):∃ x:Nat,a=(x:Int)/\qcJ p inp a=(qAy p inp x,(0,0)):=by
 obtain ⟨x,rfl⟩:=Int.eq_ofNat_of_zero_le ha.1;exact ⟨x,rfl,qkf (λh1=>h1 h) O O⟩
def qCQ(hU:prU p)(h:(txF p).1=0)(inp:Str){a:Nat}(ha:a<=50000000):RSi (wdW p) inp a (qAy p inp a)/\(wdW p).length<=49152:=by
 obtain ⟨_,h2,h3,h4⟩:=qkz hU h;obtain ⟨w,l,h5,h6,h7⟩:=qyO qyw hU h3 h4;have hw:wdW p=w:=by rw [wdW,if_pos h,h2,qvh,h5]
 rw [hw];refine ⟨(h7 fuX inp a).resolve_left λh=>?_,h6⟩;have h9:=(qpC (p:=p) (OP:=OPp) (fuX+1)).2.1 (qcQ p.funcs).toNat [] (qiu p inp a) (by rw [qvB];show 2 * a+1 < _;omega);rw [show (sem p OPp (fuX+1)).c (qcQ p.funcs).toNat [] (qiu p inp a)=.out from h] at h9;exact h9
def qxQ{l:List Int}{i:List UInt8}{k:Int}(hl:l.length<=49152)(hi:i.length<=400000)(hk:0<=k/\k<=50000000):qdI defT l i k=(qjO defT l i k,0,0):=by
 have hs:(qaP defT l i).1=0:=by
  unfold qaP;rw [if_neg (by simpa using qoI),if_neg (by show ¬ (65536:Int) < _;omega),if_neg O]
 unfold qdI;rw [if_neg (by simpa using hs),if_neg O]
def sbT(A:Option Addr)(n c:Nat)(l:List UInt8)(hA:Bts s A n c l)(A1:Option Addr)(n1 c1:Nat)(l1:List UInt8)(hB:Bts s A1 n1 c1 l1)(h:l=l1):AC Tryz.prog D 12 [.slice A n c,.slice A1 n1 c1] L s λv L' _=>v=.bool true/\L=L':=
 (qgf D L s A n c l hA A1 n1 c1 l1 hB).mono λv L' s' _ hv=>⟨hv.1.trans (by rw [decide_eq_true h]),hv.2⟩
def qrP(A:Option Addr)(n c:Nat)(hA:Inss s A n c defT.ins)(A1:Option Addr)(n1 c1:Nat)(l:List Int)(hI:Wds s A1 n1 c1 l)(A2:Option Addr)(n2 c2:Nat)(i:List UInt8)(hi:Bts s A2 n2 c2 i)(k:Int):AC Tryz.prog D 9 [.agg #[.int .i64 65536,.slice A n c],.slice A1 n1 c1,.slice A2 n2 c2,.int .i64 k] L s λv L' s'=>L=L'/\∃ vs,OutW s' (qdI defT l i k).1 vs/\v=.tuple #[vs,.agg #[.int .i64 (qdI defT l i k).2.1,.int .i64 (qdI defT l i k).2.2]]:=qhX D L s defT A n c hA A1 n1 c1 l hI A2 n2 c2 i hi k
def Rch.cut{s s':Mst}{K n:Nat}(h:Rch s K s')(hn:n < K):(qd4 defT s n).1.stop=0/\∃ w,s'.output=(qd4 defT s n).1.output++w:=by
 induction h generalizing n with
 | nil s=>omega
 | @cons s s1 k h0 r ih=>
  cases n with
  | zero=>
   refine ⟨h0,?_⟩;have h2:=(Rch.cons h0 r).run 0;obtain ⟨w,h3⟩:=qpR defT (k+1+0) s;rw [h2] at h3;exact ⟨w,h3⟩
  | succ n=>
   rw [qd4,if_pos h0];exact ih (by omega)
def pace_ok{w:List Int}{inp:Str}{a:Nat}{o:Str×Int×Int×Nat}(h:RSi w inp (40 * a+40) o):(∃ v,o.1=(qjO defT w inp (a:Int)).1++v)/\((qjO defT w inp (a:Int)).2.1≠0->(qjO defT w inp (a:Int)).1=o.1/\(qjO defT w inp (a:Int)).2.1=o.2.1/\(qjO defT w inp (a:Int)).2.2.1=o.2.2.1):=by
  obtain ⟨K,s',R,r1,r2,r3,r4,r5⟩:=h;simp only [qjO,Int.toNat_natCast];by_cases hK:K<=a
  · have hs:s'.stop≠0:=λh=>by have:=r5 h;omega
    have h1:=R.run (a - K);rw [show K+(a - K)=a by omega,qsX defT hs] at h1;rw [h1];exact ⟨⟨[],by rw [List.append_nil];exact r1.symm⟩,λ_=>⟨r1,r2,r3 hs⟩⟩
  · obtain ⟨h1,v,h2⟩:=R.cut (show a < K by omega)
    exact ⟨⟨v,r1.symm.trans h2⟩,λh=>absurd h1 h⟩
def law40{p:Prg}{inp:Str}{a:Int}(hU:prU p)(hz:(txF p).1=0)(hi:inp.length<=2000)(ha:0<=a/\a<=200000):(qdI defT (wdW p) inp a).2.1=0/\(qcJ p inp (40 * a+40)).2.1=0/\(qdI defT (wdW p) inp a).1.1 <+: (qcJ p inp (40 * a+40)).1.1/\(¬ (qdI defT (wdW p) inp a).1.2.1=0->(qdI defT (wdW p) inp a).1.2.1=(qcJ p inp (40 * a+40)).1.2.1/\(qdI defT (wdW p) inp a).1.2.2.1=(qcJ p inp (40 * a+40)).1.2.2.1/\(qdI defT (wdW p) inp a).1.1=(qcJ p inp (40 * a+40)).1.1):=by
 obtain ⟨_,_,h3,_⟩:=qkz hU hz;obtain ⟨x,rfl⟩:=Int.eq_ofNat_of_zero_le ha.1;obtain ⟨y,hy,hr⟩:=qDm (a:=40 * (x:Int)+40) (inp:=inp) h3 (by omega) hi;obtain rfl:y=40 * x+40:=by omega
 obtain ⟨h1,h2⟩:=qCQ hU hz inp (a:=40 * x+40) (by omega);obtain ⟨⟨v,m1⟩,m2⟩:=pace_ok h1;rw [qxQ h2 (by omega) (by omega),hr];exact ⟨rfl,rfl,⟨v,m1.symm⟩,λh=>have ⟨a,b,c⟩:=m2 h;⟨b,c,a⟩⟩
open Go.Proofs.Tryz
def lawPace_ac(D:Nat)(L:Hl)(s:World)(hG:GP s)(d:Nat)(p:Prg)(Ag Af:Option Addr)(ng cg nf cf:Nat)(hGl:Glos s Ag ng cg p.globals)(hFn:Fncs d s Af nf cf p.funcs)(Ai:Option Addr)(ni qi:Nat)(inp:Str)(hI:Bts s Ai ni qi inp)(a:Int):AC prog D 4 [.agg #[.slice Ag ng cg,.slice Af nf cf],.slice Ai ni qi,.int .i64 a] L s λv L' _=>v=.bool true/\L=L':=by
 have hU:prU p:=⟨hGl.u,hFn.u⟩;have hni:=hI.1;refine qad (TT:=TT) (fn:=f4) qao func4 (by kernel_rfl) rfl ntmps4 rfl (rs:=[.tmp 6]) rfl [(0,_),(1,_),(2,_)] rfl ?_;refine Zs<|Zr<|?_;refine qar rfl rfl ?_;intro β1 s1 h1;refine Zqa rfl rfl<|Zn<|Zt<|Zs<|Zs<|Zr<|?_;refine qcN (first:=[]) (captured:=[]) rfl rfl rfl (qsd D _ _ (hG.le h1)) ?_;rintro _ _ s2 h2 ⟨rfl,rfl⟩;refine qEI rfl rfl<|Zn<|Zt<|Zz rfl<|Zk<|Zt<|Zs<|Zr<|?_;refine qae (qaj 0 [_,_] rfl rfl rfl rfl rfl) rfl ?_;refine qcN (first:=[]) (captured:=[]) rfl rfl rfl (qjE D _ _ (hG.le (Le.trans h1 h2)) d p _ _ _ _ _ _ (hGl.le (Le.trans h1 h2)) (hFn.le (Le.trans h1 h2))) ?_;rintro _ _ s3 h3 ⟨rfl,Aw,nw,cw,rfl,hw⟩;refine Zqm rfl rfl<|Zqx rfl rfl rfl<|Zqx rfl rfl rfl<|?_;refine qac rfl [_,_] rfl rfl ?_;intro β4 s4 h4;refine Zqa rfl rfl ?_;refine qeV 0 [_,_] rfl rfl rfl rfl rfl rfl rfl rfl rfl ?_;refine Zn<|Zt<|Zs<|?_;refine qbA 32 (((txF p).1≠0\/2000 < (ni:Int))\/¬ (0<=a/\a<=200000)) ?_ ?_
 ·refine Zr<|Zqf0 rfl rfl rfl rfl rfl<|Zql 0 rfl rfl rfl rfl rfl rfl<|qd2 rfl rfl rfl<|Zqm rfl rfl<|?_;refine qbg (t:=23) rfl (λc6=>?_) (λc6=>?_);·refine Zf rfl rfl rfl rfl<|Zf rfl rfl rfl rfl<|Zf rfl rfl rfl rfl<|ZqT rfl rfl rfl<|Zqm rfl rfl<|Zf rfl rfl rfl rfl<|Zf rfl rfl rfl rfl<|Zf rfl rfl rfl rfl<|ZqT rfl rfl rfl<|Zn<|?_;refine qaf (MidB.mk (Le.refl (D:=D) _) (by repeat (first|exact Suf.refl|refine Suf.push rfl ?_)) rfl ((decide_eq_true (by omega)).symm))
  ·refine Zg rfl rfl<|Zqm rfl rfl<|Zg rfl rfl<|Zqls rfl rfl rfl rfl<|Zg rfl rfl<|qcg rfl rfl rfl<|ZqF rfl rfl rfl<|Zqm rfl rfl<|?_;refine qap (t:=28) rfl (λc7=>?_) (λc7=>?_);·refine Zf rfl rfl rfl rfl<|Zf rfl rfl rfl rfl<|Zf rfl rfl rfl rfl<|ZqT rfl rfl rfl<|Zn<|?_;refine qaf (MidB.mk (Le.refl (D:=D) _) (by repeat (first|exact Suf.refl|refine Suf.push rfl ?_)) rfl ((decide_eq_true (by omega)).symm))
   ·refine Zg rfl rfl<|Zqm rfl rfl<|Zg rfl rfl<|?_;refine qcN (first:=[]) (captured:=[]) rfl rfl rfl (qFs D _ _ _ _ _) ?_;rintro _ _ s8 h8 ⟨rfl,rfl⟩;refine Zg rfl rfl<|qcL rfl rfl<|ZqF rfl rfl rfl<|Zn<|?_;refine qaf (MidB.mk h8 (by repeat (first|exact Suf.refl|refine Suf.push rfl ?_)) rfl (qe8 (by omega)))
 ·intro s5 h5;refine qaa rfl (λc9=>?_) (λc9=>?_)
  ·refine Zs ?_;rcases (show (txF p).1=0\/¬ (txF p).1=0 by omega) with hz|hz
   ·refine Zr<|Zqf0 rfl rfl rfl rfl rfl<|Zql 0 rfl rfl rfl rfl rfl rfl<|?_;refine qae (qaC (v':=.bool true) (qdD rfl rfl) (bT hz)) rfl ?_;refine Zqm rfl rfl<|Zf rfl rfl rfl rfl<|Zf rfl rfl rfl rfl<|Zf rfl rfl rfl rfl<|ZqT rfl rfl rfl<|Zqa rfl rfl<|Zn<|Zt<|Zo<|Zu<|?_;refine qas [_,_] L (.inr rfl) (.tmp rfl (.nil)) rfl (Le.trans (Le.trans (Le.trans (Le.trans h1 h2) h3) h4) h5) (λsR hS2=>?_);exact ⟨rfl,rfl⟩
   ·have hB:=(qqB hz).2;refine Zr<|Zqf0 rfl rfl rfl rfl rfl<|Zql 0 rfl rfl rfl rfl rfl rfl<|?_;refine qae (qaC (v':=.bool false) (qdD rfl rfl) (bZ hz)) rfl ?_;refine Zqm rfl rfl<|Zg rfl rfl<|Zqm rfl rfl<|Zg rfl rfl<|Zqls rfl rfl rfl rfl<|Zg rfl rfl<|?_;refine qae (qaC (v':=.bool true) (qdD rfl rfl) (bT (by rw [hw.1,hB];rfl))) rfl ?_;refine ZqF rfl rfl rfl<|Zqa rfl rfl<|Zn<|Zt<|Zo<|Zu<|?_;refine qas [_,_] L (.inr rfl) (.tmp rfl (.nil)) rfl (Le.trans (Le.trans (Le.trans (Le.trans h1 h2) h3) h4) h5) (λsR hS2=>?_);exact ⟨rfl,rfl⟩
  ·have g32:=c9;have hz:(txF p).1=0:=Classical.not_not.1 λh=>g32 (.inl (.inl h));have gl:=law40 (inp:=inp) (a:=a) hU hz (by omega) (by omega);refine Zk<|Zt<|Zs<|Zr<|?_;refine qcN (first:=[]) (captured:=[]) rfl rfl rfl (qkU D _ _) ?_;rintro _ _ s10 h10 ⟨rfl,Ad1,nd1,cd1,rfl,hD1⟩;refine Zqm rfl rfl<|Zqm rfl rfl<|Zqm rfl rfl<|?_;refine qcN (first:=[]) (captured:=[]) rfl rfl rfl (qrP D _ _ _ _ _ (hD1.le (Le.refl (D:=D) _)) _ _ _ _ (hw.le (Le.trans (Le.trans h4 h5) h10)) _ _ _ inp (hI.le (Le.trans (Le.trans (Le.trans (Le.trans (Le.trans h1 h2) h3) h4) h5) h10)) a) ?_;rintro _ _ s11 h11 ⟨rfl,_,⟨Ax,nx,qx,rfl,hBx⟩,rfl⟩;refine Zqm rfl rfl<|Zqx rfl rfl rfl<|Zqx rfl rfl rfl<|?_;refine qac rfl [_,_,_,_] rfl rfl ?_;intro β12 s12 h12;refine qac rfl [_,_] rfl rfl ?_;intro β13 s13 h13;refine qeV 1 [_,_,_,_] rfl rfl rfl rfl rfl rfl rfl rfl rfl ?_;refine qeV 0 [_,_] rfl rfl rfl rfl rfl rfl rfl rfl rfl ?_;refine Zn<|Zt<|Zs<|Zr<|?_;refine qae (qaj 3 [_,_] rfl rfl rfl rfl rfl) rfl ?_;refine Zqm rfl rfl<|Zqm rfl rfl<|?_;refine qae (qnT (c:=40 * a) rfl rfl (w64 (by omega) (by omega))) rfl ?_;refine qae (qaI (c:=40 * a+40) rfl rfl (w64 (by omega) (by omega))) rfl ?_;refine qcN (first:=[]) (captured:=[]) rfl rfl rfl (qyb D _ _ (hG.le (Le.trans (Le.trans (Le.trans (Le.trans (Le.trans (Le.trans (Le.trans (Le.trans h1 h2) h3) h4) h5) h10) h11) h12) h13)) d p _ _ _ _ _ _ (hGl.le (Le.trans (Le.trans (Le.trans (Le.trans (Le.trans (Le.trans (Le.trans (Le.trans h1 h2) h3) h4) h5) h10) h11) h12) h13)) (hFn.le (Le.trans (Le.trans (Le.trans (Le.trans (Le.trans (Le.trans (Le.trans (Le.trans h1 h2) h3) h4) h5) h10) h11) h12) h13)) _ _ _ inp (hI.le (Le.trans (Le.trans (Le.trans (Le.trans (Le.trans (Le.trans (Le.trans (Le.trans h1 h2) h3) h4) h5) h10) h11) h12) h13)) (40 * a+40)) ?_;rintro _ _ s14 h14 ⟨rfl,_,rfl,Ay,ny,qy,rfl,hBy⟩;refine Zqm rfl rfl<|Zqx rfl rfl rfl<|Zqx rfl rfl rfl<|?_;refine qac rfl [_,_,_,_] rfl rfl ?_;intro β15 s15 h15;refine qac rfl [_,_] rfl rfl ?_;intro β16 s16 h16;refine qeV 1 [_,_,_,_] rfl rfl rfl rfl rfl rfl rfl rfl rfl ?_;refine qeV 0 [_,_] rfl rfl rfl rfl rfl rfl rfl rfl rfl ?_;refine Zn<|Zt<|Zs<|Zs<|Zr<|Zqf0 rfl rfl rfl rfl rfl<|Zql 2 rfl rfl rfl rfl rfl rfl<|?_;refine qae (qaC (v':=.bool false) (qmN rfl rfl) (bF gl.1)) rfl ?_;refine Zqm rfl rfl<|Zg rfl rfl<|Zqf0 rfl rfl rfl rfl rfl<|Zg rfl rfl<|Zql 0 rfl rfl rfl rfl rfl rfl<|Zg rfl rfl<|?_;refine qae (qaC (v':=.bool false) (qmN rfl rfl) (bF gl.2.1)) rfl ?_;refine ZqF rfl rfl rfl<|Zqm rfl rfl<|Zg rfl rfl<|Zqf0 rfl rfl rfl rfl rfl<|Zg rfl rfl<|Zql 1 rfl rfl rfl rfl rfl rfl<|Zg rfl rfl<|Zqf0 rfl rfl rfl rfl rfl<|Zg rfl rfl<|Zql 3 rfl rfl rfl rfl rfl rfl<|Zg rfl rfl<|?_;refine qcN (first:=[]) (captured:=[]) rfl rfl rfl (begT D _ _ _ _ _ _ (hBy.le (Le.trans h15 h16)) _ _ _ _ (hBx.le (Le.trans (Le.trans (Le.trans (Le.trans h12 h13) h14) h15) h16)) gl.2.2.1) ?_;rintro _ _ s17 h17 ⟨rfl,rfl⟩;refine Zg rfl rfl<|qEI rfl rfl<|ZqF rfl rfl rfl<|Zn<|Zt<|Zz rfl<|Zk<|Zt<|Zs<|?_;rcases (Decidable.em ((qdI defT (wdW p) inp a).1.2.1=0)) with hs|hs
   ·refine Zr<|ZqfB rfl rfl rfl rfl rfl<|Zql 3 rfl rfl rfl rfl rfl rfl<|?_;refine qae (qaC (v':=.bool true) (qdD rfl rfl) (bT hs)) rfl ?_;refine Zqm rfl rfl<|Zf rfl rfl rfl rfl<|Zf rfl rfl rfl rfl<|Zf rfl rfl rfl rfl<|Zf rfl rfl rfl rfl<|Zf rfl rfl rfl rfl<|Zf rfl rfl rfl rfl<|Zh rfl rfl rfl<|Zh rfl rfl rfl<|Zh rfl rfl rfl<|Zh rfl rfl rfl<|Zh rfl rfl rfl<|?_;refine Zf rfl rfl rfl rfl<|Zf rfl rfl rfl rfl<|Zh rfl rfl rfl<|Zh rfl rfl rfl<|Zh rfl rfl rfl<|Zh rfl rfl rfl<|Zh rfl rfl rfl<|Zf rfl rfl rfl rfl<|ZqT rfl rfl rfl<|Zqa rfl rfl<|Zn<|Zt<|?_;refine Zo ?_;refine qas [_,_,_,_,_,_] L (.inr rfl) (.tmp rfl (.nil)) rfl (Le.trans (Le.trans (Le.trans (Le.trans (Le.trans (Le.trans (Le.trans (Le.trans (Le.trans (Le.trans (Le.trans (Le.trans h1 h2) h3) h4) h5) h10) h11) h12) h13) h14) h15) h16) h17) (λsR hS2=>?_);exact ⟨rfl,rfl⟩
   ·have ge:=gl.2.2.2 hs;refine Zr<|ZqfB rfl rfl rfl rfl rfl<|Zql 3 rfl rfl rfl rfl rfl rfl<|?_;refine qae (qaC (v':=.bool false) (qdD rfl rfl) (bZ hs)) rfl ?_;refine Zqm rfl rfl<|Zg rfl rfl<|ZqfB rfl rfl rfl rfl rfl<|Zg rfl rfl<|Zql 3 rfl rfl rfl rfl rfl rfl<|Zg rfl rfl<|ZqfB rfl rfl rfl rfl rfl<|Zg rfl rfl<|Zql 1 rfl rfl rfl rfl rfl rfl<|Zg rfl rfl<|?_;refine qae (qaC (v':=.bool true) (qdD rfl rfl) (bT ge.1)) rfl ?_;refine Zg rfl rfl<|Zqm rfl rfl<|Zg rfl rfl<|ZqfB rfl rfl rfl rfl rfl<|Zg rfl rfl<|Zql 3 rfl rfl rfl rfl rfl rfl<|Zg rfl rfl<|ZqfB rfl rfl rfl rfl rfl<|Zg rfl rfl<|Zql 1 rfl rfl rfl rfl rfl rfl<|Zg rfl rfl<|?_;refine qae (qaC (v':=.bool true) (qdD rfl rfl) (bT ge.2.1)) rfl ?_;refine Zg rfl rfl<|ZqT rfl rfl rfl<|Zg rfl rfl<|Zqm rfl rfl<|Zg rfl rfl<|Zqf0 rfl rfl rfl rfl rfl<|Zg rfl rfl<|Zql 3 rfl rfl rfl rfl rfl rfl<|Zg rfl rfl<|Zqf0 rfl rfl rfl rfl rfl<|Zg rfl rfl<|Zql 1 rfl rfl rfl rfl rfl rfl<|?_;refine Zg rfl rfl ?_;refine qcN (first:=[]) (captured:=[]) rfl rfl rfl (sbT D _ _ _ _ _ _ (hBx.le (Le.trans (Le.trans (Le.trans (Le.trans (Le.trans h12 h13) h14) h15) h16) h17)) _ _ _ _ (hBy.le (Le.trans (Le.trans h15 h16) h17)) ge.2.2) ?_;rintro _ _ s18 h18 ⟨rfl,rfl⟩;refine Zg rfl rfl<|ZqT rfl rfl rfl<|ZqF rfl rfl rfl<|Zqa rfl rfl<|Zn<|Zt<|Zo<|?_;refine qas [_,_,_,_,_,_] L (.inr rfl) (.tmp rfl (.nil)) rfl (Le.trans (Le.trans (Le.trans (Le.trans (Le.trans (Le.trans (Le.trans (Le.trans (Le.trans (Le.trans (Le.trans (Le.trans (Le.trans h1 h2) h3) h4) h5) h10) h11) h12) h13) h14) h15) h16) h17) h18) (λsR hS2=>?_);exact ⟨rfl,rfl⟩
end Go.Proofs.YtlfiplbamnpgoaaGreatDoor
namespace Go.Proofs.YtlfiplbamnpgoaaGreatDoor
open Go.Proofs.Tryz
open Go Go.FL Go.ChangeShapes Go.WideShapes Go.ChangeAt Go.RowKit Go.Deep
variable{W:World}{fs:Array Field}{sz n:Nat}{l:List Value}
def qsE:ownKnob prog.godebug=none:=by kernel_rfl
def qsg:laidOutB prog=true:=by kernel_rfl
def qps(l:List Obj):∃ D,∀ E,D<=E->∀ o∈l,o≠dum E:=by
 induction l with
 | nil=>exact ⟨0,λ_ _ _ h=>by cases h⟩
 | cons x l ih=>
  obtain ⟨D,hD⟩:=ih;have hx:∃ B,∀ E,B<=E->x≠dum E:=by
   cases x with
   | mapIter a n b c=>exact ⟨n+1,λE hE h=>by simp only [dum,Obj.mapIter.injEq] at h;omega⟩
   | _=>exact ⟨0,λE _ h=>by simp [dum] at h⟩
  obtain ⟨B,hB⟩:=hx;refine ⟨max D B,λE hE o ho=>?_⟩;rcases List.mem_cons.1 ho with rfl|ho
  · exact hB E O
  · exact hD E O o ho
def qnc(W:World):∃ D,∀ k:Nat,W.heap[k]?≠some (dum D):=by
 obtain ⟨D,hD⟩:=qps W.heap.toList;refine ⟨D,λk hk=>hD D (Nat.le_refl _) (dum D) ?_ Z⟩;rw [<- Array.getElem?_toList] at hk;exact List.mem_of_getElem? hk
def qrn{D:Nat}{W':World}(hD:∀ k:Nat,W.heap[k]?≠some (dum D))(h:Le D W W'):Below W.heap.size W W':=
 ⟨h.os,h.tape,h.output,h.size,λk hk=>(h.block k hk).resolve_left (hD k)⟩
def qpl{P:Program}{f:FuncId}{args:List Value}(h:∀ D,AC P D f args [] W λv L' _=>v=.bool true/\[]=L'):
  Calls P f args.toArray W λe W'=>e=.returned (.bool true)/\Below W.heap.size W W':=by
 obtain ⟨D,hD⟩:=qnc W;refine ((h D).2 ⟨by simp,λx hx=>by cases hx⟩).mono ?_;rintro e w' ⟨v,L',s',h1,rfl,h3,h4,rfl,rfl⟩;exact ⟨h1,qrn hD h4⟩
section
variable{H:Type}{enc:TypeId×Value->H}{P:Program}
def qfG{W W':World}(hl:laidOutB P=true)(hb:Below W.heap.size W W'):∀ {ts:List TypeId} {vs:List Value} {ds:List (DataW H)} {ps:List MemPlace},(∀ t∈ts,P.readableRec t=true/\t < P.types.size)->(∀ x∈ps,x.block < W.heap.size) ->
  DataW.TrodAll enc P W 0 (λ_=>true) true ts vs ds ps->DataW.TrodAll enc P W' 0 (λb=>decide (b < W.heap.size)) true ts vs ds ps
 | [],_,_,_,_,_,h=>by
  obtain ⟨rfl,rfl,rfl⟩:=trodAll_nil h;exact trodAll_mk0
 | t::ts,_,_,_,hts,hp,h=>by
  obtain ⟨v,vs,d,ds,a,b,rfl,rfl,rfl,h1,h2⟩:=trodAll_cons h;have ht:=hts t Mc;exact trodAll_cons_mk (Below.trod hl ht.1 ht.2 h1 hb λx hx=>hp x (List.mem_append_left _ hx)) (qfG hl hb (λt' h'=>hts t' (List.mem_cons_of_mem _ h')) (λx hx=>hp x (List.mem_append_right _ hx)) h2)
def qsh{fn:Func}{s:ChangeSpec}{W W':World}{args:Array Value}{ds gs:List (DataW H)}{before:List MemPlace}{tb:TypeId}(hl:laidOutB P=true)(hts:∀ t∈fn.params.toList,P.readableRec t=true/\t < P.types.size)(hr:fn.resultTypes=#[tb])(hb:P.underlying tb=some .bool)
  (hv:s.vars=[]) (hW:DataW.Whole enc P fn.params.toList s.vars false W args.toList ds gs before) (hfn:s.fn H ds={ results:=[.lit (.bool true)],args:=ds }) (hB:Below W.heap.size W W'):s.post enc P fn false true false false W args (.bool true) W':=by
 have hlt:∀ x∈before,x.block < W.heap.size:=λx hx=>hW.lt x hx;have hW':=hW;obtain ⟨p,q,hA,hV,rfl,_,_⟩:=hW;rw [hv] at hV;obtain ⟨rfl,rfl⟩:=trodVars_none hV;refine ⟨ds,[],p++[],[],p,[],hW',?_,?_,?_,hB.frame _,λh=>by cases h⟩
 · rw [List.append_nil,hfn,hr];exact trodAll_cons_mk (shut_bool hb _) trodAll_mk0
 · rw [List.append_nil,hfn];exact qfG hl hB hts (λx hx=>hlt x (List.mem_append_left _ hx)) hA
 · rw [List.append_nil,hfn,hv];rfl
end
def Rd(W:World)(t:TypeId)(cs:List Value):Prop:=∃ (H:Type) (enc:TypeId×Value->H) (n:Nat) (x:DataW H×List MemPlace),DataW.trod enc prog W 0 (λ_=>true) true n t cs=some x
section
variable{W:World}{t e:TypeId}{cs:List Value}
def qgd{k:IntKind}(ht:prog.underlying t=some (.int k))(h:Rd W t cs):∃ n,cs=[.int k n]/\(Lit.int k n).wf=true:=by
 obtain ⟨H,enc,n,x,h⟩:=h;obtain ⟨i,h1,_,h2⟩:=DataW.trod_int ht h;exact ⟨i,h1,h2⟩
def qj7(ht:prog.underlying t=some .string)(h:Rd W t cs):∃ l:List UInt8,cs=[St l]/\l.length<=9223372036854775807:=by
 obtain ⟨H,enc,n,x,h⟩:=h;obtain ⟨s,h1,_,h2⟩:=DataW.trod_string ht h;refine ⟨s.data.toList,by rw [h1],?_⟩;have:s.data.toList.length=s.size:=by rw [Array.length_toList];rfl
 simp only [maxLen] at h2;omega
def qsN(ht:prog.underlying t=some (.struct fs))(h:Rd W t cs)(hc:prog.cellsOf t=sz):cs.length=sz/\∀ (i:Nat) (f:Field),fs[i]?=some f->∀ (ty off n:Nat),f.type=ty->f.offset=off->prog.cellsOf ty=n->Rd W ty ((cs.drop off).take n):=by
 obtain ⟨H,enc,n,x,h⟩:=h;obtain ⟨xs,m,_,_,h1,h2,h3⟩:=DataW.trod_struct ht h;refine ⟨h1.trans hc,λi f hf ty off k e1 e2 e3=>?_⟩;have hi:i < xs.length:=by rw [h2];exact (Array.getElem?_eq_some_iff.1 hf).1
 have:=h3 i f hf;rw [List.getElem?_eq_getElem hi,e1,e2,e3] at this;exact ⟨H,enc,m,_,this⟩
def Ez99{p:Prop} (h:p:=by
 have hl:j < sz:=by rw [<- k3];exact (List.getElem?_eq_some_iff.1 hj).1
 have:=k4 j hl;rw [hj,add_lit,add_lit] at this;exact this):p:=h
def Ez95{p:Prop} (h:p:=by
 obtain ⟨_,j3,j4⟩:=World.cells?_some j1;have:=j4 0 hp;rw [List.getElem?_eq_getElem O] at this;simpa [Addr.add] using World.cell?_spot this):p:=h
def qsO(ht:prog.underlying t=some (.slice e))(hc:prog.cellsOf e=sz)(hp:0 < sz)(h:Rd W t cs):∃ A n c,cs=[.slice A n c]/\n<=c/\c<=9223372036854775807 /\
    ∀ i,i < n->∃ b off ds,A=some ⟨b,off,none⟩/\CellsAt W b (off+i * sz) ds/\ds.length=sz/\Rd W e ds:=by
  obtain ⟨H,enc,q,x,h⟩:=h;rcases open_slice ht h with ⟨rfl,_⟩|⟨a,len,cap,m,k,D,Pl,rfl,_,h1,h2,h3,_,h4⟩
  · exact ⟨none,0,0,rfl,Nat.le_refl _,by omega,λi hi=>by omega⟩
  · simp only [maxLen] at h2
    refine ⟨some a,len,cap,Z,h1,by omega,λi hi=>?_⟩;obtain ⟨ds,k1,k2⟩:=h4 i (by simp at h3;omega);rw [hc] at k1;obtain ⟨_,k3,k4⟩:=World.cells?_some k1;obtain ⟨b,off,spot⟩:=a;have hs:spot=none:=by
      obtain ⟨ds0,j1,_⟩:=h4 0 (by simp at h3;omega);rw [hc,Nat.zero_mul] at j1;exact Ez95
    subst hs;refine ⟨b,off,ds,Z,λj v hj=>?_,k3,H,enc,k,_,k2⟩;exact Ez99
def qAU{p:Prop} (h:p:=by
 simp [hr] at hi;obtain ⟨hi1,hi2⟩:=List.getElem?_eq_some_iff.1 hr;simp at hi1 hi2;subst hi2;subst hi;exact hf i hi1):p:=h
def qs3{α:Type}[Inhabited α]{R:World->α->List Value->Prop}(ht:prog.underlying t=some (.slice e))(hc:prog.cellsOf e=sz)(hp:0 < sz)(h:Rd W t cs)(hel:∀ ds,Rd W e ds->∃ x:α,R W x ds):∃ A n c l,cs=[.slice A n c]/\Sl sz R W A n c l:=by
 obtain ⟨A,n,c,h1,h2,h3,h4⟩:=qsO ht hc hp h;obtain ⟨f,hf⟩:=choose_lt (α:=α) (p:=λi x=>∃ b off ds,A=some ⟨b,off,none⟩/\CellsAt W b (off+i * sz) ds/\ds.length=sz/\R W x ds) (n:=n) (λi hi=>by
  obtain ⟨b,off,ds,k1,k2,k3,k4⟩:=h4 i hi;obtain ⟨x,hx⟩:=hel ds k4;exact ⟨x,b,off,ds,k1,k2,k3,hx⟩)
 refine ⟨A,n,c,(List.range n).map f,h1,by simp,h2,h3,λi x hi=>?_⟩;rw [List.getElem?_map] at hi;cases hr:(List.range n)[i]? with
 | none=>simp [hr] at hi
 | some j=>
  exact qAU
def len2(h:l.length=2):∃ a b,l=[a,b]:=by match l,h with|[a,b],_=>exact ⟨a,b,rfl⟩
def len4(h:l.length=4):∃ a b c d,l=[a,b,c,d]:=by match l,h with|[a,b,c,d],_=>exact ⟨a,b,c,d,rfl⟩
def qb8{a b:Value}(h:[a]=[b]):a=b:=by injection h
def qqC{n:Int}(h:(Lit.int .u32 n).wf=true):U32 n:=by have:=bounds_u32 h;exact ⟨by omega,by omega⟩
end
set_option maxRecDepth 100000
instance:Inhabited Ex:=⟨.mk 0 0 0 [] []⟩
instance:Inhabited Stm:=⟨.mk 0 [] [] [] []⟩
instance:Inhabited Fnc:=⟨⟨[],[],[],[]⟩⟩
instance:Inhabited Glo:=⟨⟨0,[],0,[]⟩⟩
def qrz:prog.cellsOf 3=1:=by kernel_rfl
def qxu:prog.cellsOf 34=1:=by kernel_rfl
def qot:prog.cellsOf 9=1:=by kernel_rfl
def qvq:prog.cellsOf 61=1:=by kernel_rfl
def qxv:prog.cellsOf 28=1:=by kernel_rfl
def qEX:prog.cellsOf 94=5:=by kernel_rfl
def qCf:prog.cellsOf 92=1:=by kernel_rfl
def qE1:prog.cellsOf 97=5:=by kernel_rfl
def qxt:prog.cellsOf 62=1:=by kernel_rfl
def c_fn:prog.cellsOf 64=4:=by kernel_rfl
def qEY:prog.cellsOf 23=1:=by kernel_rfl
def c_gl:prog.cellsOf 60=4:=by kernel_rfl
def qEZ:prog.cellsOf 22=1:=by kernel_rfl
def qE0:prog.cellsOf 25=2:=by kernel_rfl
def len5(h:l.length=5):∃ a b c d e,l=[a,b,c,d,e]:=by match l,h with|[a,b,c,d,e],_=>exact ⟨a,b,c,d,e,rfl⟩
def RdN(n:Nat)(W:World)(t:TypeId)(cs:List Value):Prop:=∃ (H:Type) (enc:TypeId×Value->H) (x:DataW H×List MemPlace),DataW.trod enc prog W 0 (λ_=>true) true n t cs=some x
section
variable{W:World}{t e:TypeId}{cs:List Value}
def RdN.rd(h:RdN n W t cs):Rd W t cs:=by
 obtain ⟨H,enc,x,h⟩:=h;exact ⟨H,enc,n,x,h⟩
def qfz(ht:prog.underlying t=some (.struct fs))(h:RdN n W t cs)(hc:prog.cellsOf t=sz):cs.length=sz/\∃ m,n=m+1/\∀ (i:Nat) (f:Field),fs[i]?=some f->∀ (ty off k:Nat),f.type=ty->f.offset=off->prog.cellsOf ty=k->RdN m W ty ((cs.drop off).take k):=by
 obtain ⟨H,enc,x,h⟩:=h;obtain ⟨xs,m,hm,_,h1,h2,h3⟩:=DataW.trod_struct ht h;refine ⟨h1.trans hc,m,hm,λi f hf ty off k e1 e2 e3=>?_⟩;have hi:i < xs.length:=by rw [h2];exact (Array.getElem?_eq_some_iff.1 hf).1
 have:=h3 i f hf;rw [List.getElem?_eq_getElem hi,e1,e2,e3] at this;exact ⟨H,enc,_,this⟩
def qpY(ht:prog.underlying t=some (.slice e))(hc:prog.cellsOf e=sz)(hp:0 < sz)(h:RdN n W t cs):∃ A m c,cs=[.slice A m c]/\m<=c/\c<=9223372036854775807 /\
    ∀ i,i < m->∃ b off ds q,A=some ⟨b,off,none⟩/\CellsAt W b (off+i * sz) ds/\ds.length=sz/\n=q+1/\RdN q W e ds:=by
  obtain ⟨H,enc,x,h⟩:=h;rcases DataW.trod_slice ht h with ⟨rfl,_⟩|⟨a,len,cap,elems,rest,q,hq,rfl,_,_,h1,h2,hlen,hel,_,_⟩
  · exact ⟨none,0,0,rfl,Nat.le_refl _,by omega,λi hi=>by omega⟩
  · simp only [maxLen] at h2
    have h4:∀ i,i < len->∃ ds x,W.cells? 0 (a.add (i * sz)) sz=some ds/\DataW.trod enc prog W 0 (λ_=>true) true q e ds=some x:=by
      intro i hi;have:=hel i hi;rw [List.getElem?_eq_getElem O,hc] at this;obtain ⟨ds,k1,k2⟩:=Option.bind_eq_some_iff.1 this;exact ⟨ds,_,k1,k2⟩
    refine ⟨some a,len,cap,Z,h1,by omega,λi hi=>?_⟩;obtain ⟨ds,y,k1,k2⟩:=h4 i hi;obtain ⟨_,k3,k4⟩:=World.cells?_some k1;obtain ⟨b,off,spot⟩:=a;have hs:spot=none:=by
      obtain ⟨ds0,_,j1,_⟩:=h4 0 O;rw [Nat.zero_mul] at j1;exact Ez95
    subst hs;refine ⟨b,off,ds,q,Z,λj v hj=>?_,k3,hq,H,enc,_,k2⟩;exact Ez99
def qkp{α:Type}[Inhabited α]{R:World->α->List Value->Prop}(ht:prog.underlying t=some (.slice e))(hc:prog.cellsOf e=sz)(hp:0 < sz)(h:RdN n W t cs)(hel:∀ q,n=q+1->∀ ds,RdN q W e ds->∃ x:α,R W x ds):∃ A m c l,cs=[.slice A m c]/\Sl sz R W A m c l:=by
 obtain ⟨A,m,c,h1,h2,h3,h4⟩:=qpY ht hc hp h;obtain ⟨f,hf⟩:=choose_lt (α:=α) (p:=λi x=>∃ b off ds,A=some ⟨b,off,none⟩/\CellsAt W b (off+i * sz) ds/\ds.length=sz/\R W x ds) (n:=m) (λi hi=>by
  obtain ⟨b,off,ds,q,k1,k2,k3,k5,k4⟩:=h4 i hi;obtain ⟨x,hx⟩:=hel q k5 ds k4;exact ⟨x,b,off,ds,k1,k2,k3,hx⟩)
 refine ⟨A,m,c,(List.range m).map f,h1,by simp,h2,h3,λi x hi=>?_⟩;rw [List.getElem?_map] at hi;cases hr:(List.range m)[i]? with
 | none=>simp [hr] at hi
 | some j=>
  exact qAU
def qsP(h:Rd W 28 cs):∃ A n c l,cs=[.slice A n c]/\Wds W A n c l:=qs3 underlying28 qxu Dc h λ_ hd=>by
 obtain ⟨n,h1,h2⟩:=qgd underlying34 hd;exact ⟨n,h1,qqC h2⟩
def qpX(h:Rd W 61 cs):∃ A n c l,cs=[.slice A n c]/\Strs W A n c l:=
 qs3 (α:=List UInt8) (R:=λ_ x cs=>cs=[St x]/\x.length<=9223372036854775807) underlying61 qot Dc h (λ_ hd=>qj7 underlying9 hd)
def qFA(n:Nat):∀ cs,RdN n W 94 cs->∃ x:Ex,ExR n W x cs:=by
 refine Nat.strongRecOn n ?_;intro n ih cs h;obtain ⟨h1,m,rfl,h2⟩:=qfz underlying94 h qEX;obtain ⟨a,b,c,d,e,rfl⟩:=len5 h1;obtain ⟨k,e1,_⟩:=qgd underlying3 (h2 0 _ rfl _ _ _ rfl rfl qrz).rd;obtain ⟨o,e2,_⟩:=qgd underlying3 (h2 1 _ rfl _ _ _ rfl rfl qrz).rd;obtain ⟨u,e3,w3⟩:=qgd underlying34 (h2 2 _ rfl _ _ _ rfl rfl qxu).rd;obtain ⟨w,e4,w4⟩:=qj7 underlying9 (h2 3 _ rfl _ _ _ rfl rfl qot).rd;obtain ⟨A,p,q,l,e5,w5⟩:=qkp (R:=ExR m) underlying92 qEX Dc (h2 4 _ rfl _ _ _ rfl rfl qCf) λq hq ds hd=>by
  obtain ⟨x,hx⟩:=ih q O ds hd;exact ⟨x,hx.up O⟩
 have z1:a=.int .i64 k:=qb8 e1;have z2:b=.int .i64 o:=qb8 e2;have z3:c=.int .u32 u:=qb8 e3;have z4:d=St w:=qb8 e4;have z5:e=.slice A p q:=qb8 e5;subst z1;subst z2;subst z3;subst z4;subst z5;exact ⟨.mk k o u w l,A,p,q,rfl,w5,qqC w3,w4⟩
def qDf(h:RdN n W 92 cs):∃ A m c l,cs=[.slice A m c]/\Exs n W A m c l:=
 qkp (R:=ExR n) underlying92 qEX Dc h λq hq ds hd=>by
  obtain ⟨x,hx⟩:=qFA q ds hd;exact ⟨x,hx.up O⟩
def qFE(n:Nat):∀ cs,RdN n W 97 cs->∃ x:Stm,StR n W x cs:=by
 refine Nat.strongRecOn n ?_;intro n ih cs h;obtain ⟨h1,m,rfl,h2⟩:=qfz underlying97 h qE1;obtain ⟨a,b,c,d,e,rfl⟩:=len5 h1;have hB:∀ {cs},RdN m W 62 cs->∃ A p q l,cs=[.slice A p q]/\Sl 5 (StR m) W A p q l:=λh=>qkp (R:=StR m) underlying62 qE1 Dc h λq hq ds hd=>by
  obtain ⟨x,hx⟩:=ih q O ds hd;exact ⟨x,hx.up O⟩
 obtain ⟨k,e1,_⟩:=qgd underlying3 (h2 0 _ rfl _ _ _ rfl rfl qrz).rd;obtain ⟨w,e2,w2⟩:=qj7 underlying9 (h2 1 _ rfl _ _ _ rfl rfl qot).rd;obtain ⟨A1,p1,q1,l1,e3,w3⟩:=qDf (h2 2 _ rfl _ _ _ rfl rfl qCf);obtain ⟨A2,p2,q2,l2,e4,w4⟩:=hB (h2 3 _ rfl _ _ _ rfl rfl qxt);obtain ⟨A3,p3,q3,l3,e5,w5⟩:=hB (h2 4 _ rfl _ _ _ rfl rfl qxt);have z1:a=.int .i64 k:=qb8 e1;have z2:b=St w:=qb8 e2;have z3:c=.slice A1 p1 q1:=qb8 e3;have z4:d=.slice A2 p2 q2:=qb8 e4;have z5:e=.slice A3 p3 q3:=qb8 e5;subst z1;subst z2;subst z3;subst z4;subst z5;exact ⟨.mk k w l1 l2 l3,A1,p1,q1,A2,p2,q2,A3,p3,q3,rfl,w3,w4,w5,w2⟩
def qDh(h:RdN n W 62 cs):∃ A m c l,cs=[.slice A m c]/\Stms n W A m c l:=
 qkp (R:=StR n) underlying62 qE1 Dc h λq hq ds hd=>by
  obtain ⟨x,hx⟩:=qFE q ds hd;exact ⟨x,hx.up O⟩
def FnR.up{d e:Nat}{s:World}{x:Fnc}{cs:List Value}(h:FnR d s x cs)(he:d<=e):FnR e s x cs:=by
 obtain ⟨A1,n1,c1,A2,n2,c2,A3,n3,c3,h1,h2,h3,h4,h5⟩:=h;exact ⟨A1,n1,c1,A2,n2,c2,A3,n3,c3,h1,h2,h3,Stms.up h4 he,h5⟩
def qFB{cs:List Value}(h:RdN n W 64 cs):∃ x:Fnc,FnR n W x cs:=by
 obtain ⟨h1,m,rfl,h2⟩:=qfz underlying64 h c_fn;obtain ⟨a,b,c,d,rfl⟩:=len4 h1;obtain ⟨w,e1,w1⟩:=qj7 underlying9 (h2 0 _ rfl _ _ _ rfl rfl qot).rd;obtain ⟨A1,p1,q1,l1,e2,w2⟩:=qpX (h2 1 _ rfl _ _ _ rfl rfl qvq).rd;obtain ⟨A2,p2,q2,l2,e3,w3⟩:=qpX (h2 2 _ rfl _ _ _ rfl rfl qvq).rd;obtain ⟨A3,p3,q3,l3,e4,w4⟩:=qDh (h2 3 _ rfl _ _ _ rfl rfl qxt);have z1:a=St w:=qb8 e1;have z2:b=.slice A1 p1 q1:=qb8 e2;have z3:c=.slice A2 p2 q2:=qb8 e3;have z4:d=.slice A3 p3 q3:=qb8 e4;subst z1;subst z2;subst z3;subst z4;exact ⟨⟨w,l1,l2,l3⟩,A1,p1,q1,A2,p2,q2,A3,p3,q3,rfl,w2,w3,Stms.up w4 O,w1⟩
def qFC{cs:List Value}(h:Rd W 60 cs):∃ x:Glo,GlR W x cs:=by
 obtain ⟨h1,h2⟩:=qsN underlying60 h c_gl;obtain ⟨a,b,c,d,rfl⟩:=len4 h1;obtain ⟨k,e1,_⟩:=qgd underlying3 (h2 0 _ rfl _ _ _ rfl rfl qrz);obtain ⟨w,e2,w2⟩:=qj7 underlying9 (h2 1 _ rfl _ _ _ rfl rfl qot);obtain ⟨u,e3,w3⟩:=qgd underlying34 (h2 2 _ rfl _ _ _ rfl rfl qxu);obtain ⟨A,p,q,l,e4,w4⟩:=qsP (h2 3 _ rfl _ _ _ rfl rfl qxv);have z1:a=.int .i64 k:=qb8 e1;have z2:b=St w:=qb8 e2;have z3:c=.int .u32 u:=qb8 e3;have z4:d=.slice A p q:=qb8 e4;subst z1;subst z2;subst z3;subst z4;exact ⟨⟨k,w,u,l⟩,A,p,q,rfl,w4,qqC w3,w2⟩
def qDg{cs:List Value}(h:RdN n W 25 cs):∃ (p:Prg) (Ag Af:Option Addr) (ng cg nf cf:Nat),cs=[.slice Ag ng cg,.slice Af nf cf]/\Glos W Ag ng cg p.globals/\Fncs n W Af nf cf p.funcs:=by
 obtain ⟨h1,m,rfl,h2⟩:=qfz underlying25 h qE0;obtain ⟨a,b,rfl⟩:=len2 h1;obtain ⟨Ag,ng,cg,lg,e1,w1⟩:=qs3 (R:=GlR) underlying22 c_gl Dc (h2 0 _ rfl _ _ _ rfl rfl qEZ).rd λ_ hd=>qFC hd;obtain ⟨Af,nf,cf,lf,e2,w2⟩:=qkp (R:=FnR (m+1)) underlying23 c_fn Dc (h2 1 _ rfl _ _ _ rfl rfl qEY) λq hq ds hd=>by
  obtain ⟨x,hx⟩:=qFB hd;exact ⟨x,hx.up O⟩
 have z1:a=.slice Ag ng cg:=qb8 e1;have z2:b=.slice Af nf cf:=qb8 e2;subst z1;subst z2;exact ⟨⟨lg,lf⟩,Ag,Af,ng,cg,nf,cf,rfl,w1,w2⟩
end
section
variable{H:Type}{enc:TypeId×Value->H}{W:World}{base:Nat}{v:Value}{d:DataW H}{ps:List MemPlace}
def qFD{t:TypeId}(hd:DataW.Trod enc prog W 0 (λ_=>true) true t v d ps):Rd W t v.cells.toList:=by
 obtain ⟨n,h⟩:=hd;exact ⟨H,enc,n,_,h⟩
def qBO{t:TypeId}(ht:prog.underlying t=some (.struct fs))(hv:Value.okWide prog W .any base t v):∃ cs,v=.agg cs:=by
 unfold Value.okWide at hv;rw [ht] at hv;obtain ⟨cs,h,_⟩:=hv;exact ⟨cs,h⟩
def qxf(hv:Value.okWide prog W .any base 25 v)(hd:DataW.Trod enc prog W 0 (λ_=>true) true 25 v d ps):∃ (m:Nat) (p:Prg) (Ag Af:Option Addr) (ng cg nf cf:Nat),v=.agg #[.slice Ag ng cg,.slice Af nf cf]/\Glos W Ag ng cg p.globals/\Fncs m W Af nf cf p.funcs:=by
 obtain ⟨cs,rfl⟩:=qBO underlying25 hv;obtain ⟨n,h⟩:=hd;obtain ⟨p,Ag,Af,ng,cg,nf,cf,h1,h2,h3⟩:=qDg (n:=n) ⟨H,enc,_,h⟩;refine ⟨n,p,Ag,Af,ng,cg,nf,cf,?_,h2,h3⟩;simp only [Value.cells] at h1;rw [<- h1]
end
def qvG{nm:String}{g:Nat}{cs:Array Value}(hg:prog.globalNamed nm=some g)(h:W.var? prog nm=some cs):∃ ty fz,W.heap[g]?=some (.cells cs ty fz):=by
  unfold World.var? at h;rw [hg] at h;simp only [Option.bind_some] at h;split at h
  · rename_i c t f hb
    injection h with h;subst h;exact ⟨t,f,hb⟩
  · cases h
def qp3(u:TypeId)(hu:prog.typeName? 3 u=prog.typeName? 3 346):u=346:=
 have hn:prog.typeName? 3 346=some ("*" ++ "errors.errorString"):=by kernel_rfl
 typeName_ptr_named (nm := "errors.errorString") V V Dc u (hu.trans hn)
def qFn(h:laidMetH prog Rows.compileImagesDoWhatIsMeantRow.laid W):GP W:=by
 rw [MakeChecks.laidMetH_plain _ _ _ V] at h;have h2:=h.tail.tail;have hpow:=Lib.tabIs_of_head (zs:=Lib.pow10Tab) (k:=.u64) (g:=1) V V underlying294 underlying231 V V h2;have h4:=h2.tail.tail;obtain ⟨a1,s1,hv1,_⟩:=laid_sentinel (g:=9) h4 V V underlying153 (λu hu=>qp3 u (hu.trans V)) underlying346 underlying348 rfl rfl underlying9 V V;obtain ⟨a2,s2,hv2,_⟩:=laid_sentinel (g:=8) h4.tail V V underlying153 (λu hu=>qp3 u (hu.trans V)) underlying346 underlying348 rfl rfl underlying9 V V;have hasc:=Lib.tabIs_of_head (zs:=Lib.asciiSpaceTab) (k:=.u8) (g:=2) V V underlying303 underlying5 V V h4.tail.tail.tail;refine ⟨⟨?_,?_,?_⟩,qvG (g:=2) V hasc⟩
 · exact qvG (g:=1) V hpow
 · exact ⟨_,_,World.var?_cell (g:=8) V hv2 0⟩
 · exact ⟨_,_,World.var?_cell (g:=9) V hv1 0⟩
set_option maxRecDepth 100000
section
variable{H:Type}{enc:TypeId×Value->H}{W:World}{base:Nat}{v:Value}{d:DataW H}{ps:List MemPlace}{cs:List Value}
def c_u8:prog.cellsOf 5=1:=by kernel_rfl
def qsM(h:Rd W 26 cs):∃ A n c l,cs=[.slice A n c]/\Bts W A n c l:=qs3 underlying26 c_u8 Dc h λ_ hd=>by
 obtain ⟨n,h1,h2⟩:=qgd underlying5 hd;have:=bounds_u8 h2;refine ⟨UInt8.ofNat n.toNat,h1.trans ?_⟩;have e:((UInt8.ofNat n.toNat).toNat:Int)=n:=by simp [UInt8.toNat_ofNat'];omega
 rw [e]
def qxz{t e:TypeId}(ht:prog.underlying t=some (.slice e))(hv:Value.okWide prog W .any base t v):v.cells.toList=[v]:=by
 unfold Value.okWide at hv;rw [ht] at hv;simp only [Cell.okWide] at hv;cases v<;>simp_all [Value.cells,Cell.ok]
def qoa(hv:Value.okWide prog W .any base 26 v)(hd:DataW.Trod enc prog W 0 (λ_=>true) true 26 v d ps):∃ A n c l,v=.slice A n c/\Bts W A n c l:=by
 obtain ⟨A,n,c,l,h1,h2⟩:=qsM (qFD hd);rw [qxz underlying26 hv] at h1;exact ⟨A,n,c,l,qb8 h1,h2⟩
end
end Go.Proofs.YtlfiplbamnpgoaaGreatDoor
