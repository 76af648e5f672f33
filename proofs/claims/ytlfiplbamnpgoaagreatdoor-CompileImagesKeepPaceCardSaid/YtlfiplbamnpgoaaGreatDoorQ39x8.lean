/- Part 8. -/
import Derived.Test.YtlfiplbamnpgoaaGreatDoorQ39x7
import Derived.WalkSmall
set_option linter.unusedSectionVars false
set_option linter.unusedVariables false
set_option linter.defProp false
set_option linter.unusedSimpArgs false
set_option linter.unnecessarySimpa false
set_option maxRecDepth 100000
set_option maxHeartbeats 8000000
namespace Go.Proofs.YtlfiplbamnpgoaaGreatDoor
open Go.Proofs.Tryz
open Go.FL
attribute [local irreducible] JC JO JA JB qaJ qax qbN AC fill CellsAt QE Ev Mid
variable(D:Nat)(L:Hl)(s:World)
def txF(p:Prg):Int×Int:=if (qdC p).1=0 then (if 49152 < qei p then (14,-1) else (0,0)) else qdC p
def txT(p:Prg):Str:=if (qdC p).1=0 then (if 49152 < qei p then [] else cT (cP p)) else []
def qDo(x:Fnc):(sE x).map (·.1)=x.locals++x.params:=by
 rw [sE,List.map_append];congr 1<;>(apply List.ext_getElem<;>simp)
def qrv(D:Nat)(X L:Hl)(s:World){R:List Value}{T:Nat}(bb:Nat)(M:Hl)(l:List UInt8)(hW:WC R T bb M l):AC prog D 38 [.pointer (some ⟨bb,0,none⟩)] (X++(M++L)) s fun u L' _=>u=St l∧L'=X++L:=
 AC.perm (List.perm_append_comm_assoc ..) (qlE D (X++L) s bb M l hW) fun u L1 s1 ⟨g0,g1⟩=>⟨_,List.Perm.refl _,g0,g1.symm⟩
def qoz(c i:Int):AC prog D 31 [.int .i64 c,.int .i64 i] L s fun v L' _=>v=.agg #[.int .i64 c,.int .i64 i]∧L=L':=by
 refine qad (fn:=f31) qao func31 V Z ntmps31 Z (rs:=[.cell 4 30]) Z [(0,_),(1,_)] Z<|Sr<|qac Z [_,_] Z Z ?_;exact qAu
def qEl{p:Prop} (h:p:=by
 first
  | (rw [txT,txF,if_neg hz,if_neg hz];exact ⟨rfl,rfl⟩)
  | (rw [txT,txF,if_pos hz,if_pos hz,if_pos hn,if_pos hn];exact ⟨rfl,rfl⟩)
  | (refine ⟨?_,rfl⟩;rw [txT,txF,if_pos hz,if_pos hz,if_neg O,if_neg O,qB7];simp only [qaE,qag,qal,List.append_assoc,List.append_nil,List.cons_append,List.nil_append];try rfl)):p:=h
def qlO(hG:GP s)(d:Nat)(p:Prg)(Ag Af:Option Addr)(ng cg nf cf:Nat)(hGl:Glos s Ag ng cg p.globals)(hFn:Fncs d s Af nf cf p.funcs):AC prog D 15 [.agg #[.slice Ag ng cg,.slice Af nf cf]] L s fun v L' _=>v=.tuple #[St (txT p),.agg #[.int .i64 (txF p).1,.int .i64 (txF p).2]]∧L=L':=by
 have hn1:=hGl.1;have hn2:=hFn.1;have hq1:=hGl.2.1;have hq2:=hGl.2.2.1;have hq3:=hFn.2.1;have hq4:=hFn.2.2.1;have hU:prU p:=⟨hGl.u,hFn.u⟩;refine qad (fn:=f15) qao func15 V Z ntmps15 Z (rs:=[.tmp 2,.cell 3 30]) Z [(0,_)] Z<|Sr<|qar Z Z fun β1 s1 h1=>Zqa Z Z<|qac Z [_,_] Z Z fun β2 s2 h2=>Nt<|Sr<|qae (qaj 1 [_,_] Z Z Z Z Z) Z<|Je Z Z Z (qpA D _ _ (hG.le (h1.t h2)) d p _ _ _ _ _ _ (hGl.le (h1.t h2)) (hFn.le (h1.t h2))) fun s3 h3=>G3 ?_;refine qac Z [_,_] Z Z fun β4 s4 h4=>Zqa Z Z<|Wt 0 [_,_] Y9<|Nt<|Zs<|Sr<|qae (qaj 0 [_,_] Z Z Z Z Z) Z<|qae (qai [] [_,_] Z Z Z Z Z Z) Z<|qae (qcU Z Z (qb3 _ _ _ _)) Z<|G2 ?_;have e4:=h1.t h2|>.t h3|>.t h4;refine qaR Z ?_ ?_<;>intro c5;·have hz:¬ (qdC p).1=0:=fun h=>c5 ⟨h,by rw [(OKP.of hU h).2]⟩;refine Zs<|qaU qab 3 Z [1] Q3 fun s6 h6=>za 0 Z (qaj 0 [_,_] Z Z Z Z Z) Z<|H1 ?_;refine X6 ?_;exact rR [_,_,_] L (.tmp Z (.agg (us:=[_,_]) 1 Z Z Z Z Z (.nil))) Z (e4.t h6) fun _ hS2=>qEl
 have hz:(qdC p).1=0:=c5.1;obtain ⟨⟨⟨hV1,hV2,hVg,hVf,_⟩,hnF,hnds⟩,hz2⟩:=OKP.of hU hz;obtain ⟨hnd0,hndf⟩:=qhb (p:=p) (by rw [hnF]);have hf0:=qg2 (p:=p) hnF;obtain ⟨im,him,himl⟩:=qrR (p:=p) (nm:=qbI) hf0;rw [show ents p=gE p++fE p from rfl,List.map_append,List.nodup_append] at hnd0;have hfB:=qo2 p.funcs fun x hx=>(hVf x hx).2.2.2.2.2;refine J9 ?_ ?_<;>intro c6;·have hn:=c6;rw [if_pos hz] at hn;have hn:49152 < qei p:=hn;refine Sr<|Je Z Z Z (qoz D _ _ _ _) fun s7 h7=>Zqa Z Z<|Wt 1 [_,_] Y9<|G4 ?_;exact rR [_,_,_] L (.tmp Z (.agg (us:=[_,_]) 1 Z Z Z Z Z (.nil))) Z (e4.t h7) fun _ hS2=>qEl
 have hn:=c6;rw [if_pos hz] at hn;have hcp:=(qB8 hU hz O).2;rw [qB7] at hcp;simp only [qaE,qag,qal,List.length_append,List.length_nil] at hcp;refine Zk<|Zt<|Sr<|qae (qaj 2 [_,_] Z Z Z Z Z) Z<|qer (fun l=>St l) Z fun βg s7 h7=>qer (fun l=>St l) Z fun βf s8 h8=>qae (qai [(_,_),(_,_),(_,_)] [_,_,_,_,_,_,_,_,_,_,_,_] Z Z Z Z Z Z) Z<|qar Z Z fun bb s9 h9=>G7 ?_;refine Wl 5 Y6<|G4 ?_;refine Zp ?_;have e9:=e4.t h7|>.t h8|>.t h9;refine qaH (γ:=Nat×List (Str×Value×Nat)×Nat) (fun g=>[(1,_),(2,_),(3,_),(6,_),(31,_),(32,_),(33,.int .i64 (g.1:Int))]) (fun g=>_::_::(βg,mp (fun l=>St l) g.2.1 g.2.2)::_::_::_::L) (fun g tw=>Le D s9 tw∧(g.1≤ng∧∀ nm,qaW g.2.1 nm=(((gE p).take g.1).find? fun e=>decide (e.1=nm)).map fun e=>fI e.2)) (fun g=>ng - g.1) (fun _ _ _ h hl=>⟨h.1.trans hl,h.2⟩) (0,[],0) (.c6 Z Z Z Z Z Z (.cons Z (.nil _))) Z ⟨Le.refl _,⟨Nat.zero_le _,fun nm=>rfl⟩⟩ ?_;intro g s10 I10;have e10:=e9.t I10.1;obtain ⟨k,esg,ckg⟩:=g;obtain ⟨hk0,hS⟩:=I10.2;simp only at hk0 hS;dsimp only;refine J6 ?_ ?_<;>intro c11
 ·have hk:k < ng:=by omega
  obtain ⟨b,off,x,Ai,ni,ci,rfl,hx,hcx,hix,hux,hnl⟩:=Glos.at_ (hGl.le e10) hk;refine G7 ?_;refine qae (qaw Z Z Z Z Z Z hk) Z<|qae (qat Z Z Z (hcx.le (Lr D)) Z) Z<|qac Z [_,_,_,_] Z Z fun β12 s12 h12=>Zqa Z Z<|Wt 0 [_,_,_,_] Y9<|Nt<|qaU qab 8 Z [3] Q3 fun s13 h13=>H7 ?_;refine qaq 7 V<|qgE KeyK.str Z Tt 3 qdy Z Z Z Z (sM (qkG (qgA (sbE _)))) ?_;intro ck1;simp only [qch];refine qah V<|Zb<|Zt<|Zr<|qaV Z Z Z (w64 O O)<|G2 ?_;refine qaf ⟨(k+1,_,ck1),[_],kp,Z,⟨(I10.1.t h12|>.t h13),⟨by simp only;omega,qdG (f:=fI) (qFh hx) hnd0.1 hS⟩⟩,Oz⟩
 obtain rfl:ng=k:=by omega
 refine G9 ?_;refine Wl 5 Y6<|G5 ?_;refine qaH (γ:=Nat×List (Str×Value×Nat)×Nat) (fun g=>[(1,_),(2,_),(3,_),(6,_),(47,_),(48,_),(49,.int .i64 (g.1:Int))]) (fun g=>_::(βf,mp (fun l=>St l) g.2.1 g.2.2)::_::_::_::_::L) (fun g tw=>Le D s10 tw∧(g.1≤nf∧∀ nm,qaW g.2.1 nm=(((fE p).take g.1).find? fun e=>decide (e.1=nm)).map fun e=>fI e.2)) (fun g=>nf - g.1) (fun _ _ _ h hl=>⟨h.1.trans hl,h.2⟩) (0,[],0) (.c6 Z Z Z Z Z Z (.cons Z (.nil _))) Z ⟨Le.refl _,⟨Nat.zero_le _,fun nm=>rfl⟩⟩ ?_;intro g s12 I12;have e12:=e10.t I12.1;obtain ⟨k,es,ck⟩:=g;obtain ⟨hk0,hSf⟩:=I12.2;simp only at hk0 hSf;dsimp only;refine J6 ?_ ?_<;>intro c13
 ·have hk:k < nf:=by omega
  obtain ⟨b,off,x,B1,m1,d1,B2,m2,d2,B3,m3,d3,rfl,hx,hcx,hpx,hlx,hbx,hnl⟩:=Fncs.at_ (hFn.le e12) hk;refine G7 ?_;refine qae (qaw Z Z Z Z Z Z hk) Z<|qae (qat Z Z Z (hcx.le (Lr D)) Z) Z<|qac Z [_,_,_,_] Z Z fun β14 s14 h14=>Zqa Z Z<|Wt 0 [_,_,_,_] Y9<|Nt<|qaU qab 8 Z [2] Q3 fun s15 h15=>H7 ?_;refine qaq 7 V<|qgE KeyK.str Z Tt 2 qdy Z Z Z Z (sM (qkG (qgA (sbE _)))) ?_;intro ck1;simp only [qch];refine qah V<|Zb<|Zt<|Zr<|qaV Z Z Z (w64 O O)<|G2 ?_;refine qaf ⟨(k+1,_,ck1),[_],kp,Z,⟨(I12.1.t h14|>.t h15),⟨by simp only;omega,qdG (f:=fI) (qFf hx) hnd0.2.1 hSf⟩⟩,Oz⟩
 obtain rfl:nf=k:=by omega
 refine G6 ?_;refine qnI [_] [_,_] _ ?_;intro s14 h14 hpub;have e14:=e12.t h14;simp only [cQ9,nQ9];refine qbm 1<|qbm 2<|qbm 3 ?_;simp only [qr3,List.getElem?_cons_succ,List.getElem?_cons_zero,List.eraseIdx_cons_succ,List.eraseIdx_cons_zero];have hmg:MpI s14 βg (gE p):=⟨esg,⟨ckg,hpub _ _ (List.mem_cons_of_mem _ Mc)⟩,qoR (by rw [gE,List.length_mapIdx];omega) hS⟩;have hmf0:MpI s14 βf (fE p):=⟨es,⟨ck,hpub _ _ Mc⟩,qoR (by rw [fE,List.length_mapIdx];omega) hSf⟩;obtain ⟨esf,hmf,hhmf⟩:=hmf0;have hO0:FL.Own 9 1 ([]:Hl) (.slice none 0 0) ([]:List Str).length (sb ([]:List Str)):=Own.nil;have hW1:CR ⟨Ag,ng,cg,Af,nf,cf,βg,βf,none,0,0⟩ bb 0 0 (.slice none 0 0) [] [(bb,cb [.pointer none,.slice none 0 0,.int .i64 0,.slice Ag ng cg,.slice Af nf cf,.map (some βg),.map (some βf),.map none,.int .i64 0,.int .i64 0,.int .i64 0,.slice none 0 0] 106)]:=WC.mk ⟨.inl rfl,by unfold LA;kernel_rfl⟩ BV.nil;refine G4 ?_;refine qbd [(_,_),(_,_)] [_,_] Z Z Z Z Z Z Z Z Z fun β15 s15 h15 hc15=>Jc Z Z Z (AC.mid [_,_,_] [_] (([]:Hl)++L) (qcW D _ _ (M:=[_]) (n:=qht) (a:=qkE) hW1 (hc15.le (Lr D)) Q2)) ?_;have e15:=e14.t h15;rintro _ _ s16 h16 ⟨M2,rfl,rfl,hW2⟩;have e16:=e15.t h16;simp only [cQ9,nQ9];refine G3 ?_;obtain ⟨p3,N3,v3,hp3,rfl,hb3⟩:=hW2;simp only [List.cons_append,qdp];refine qaB qab 11 Z 0 fun s17 h17=>H6 ?_;refine qaq 6 V<|qbH Z Tt (Wd 3 Y5) Z<|za 7 Z (qaC (qc3 KeyK.str qdy Z Z (hmf.le (h15.t h16|>.t h17))) ((qh1 hhmf _).trans (congrArg (Value.int .i64) (show _=fi p qbI from Z)))) Z<|qaq 8 V<|Jf Z Tt Z Z Z (qxT D _ _ (hG.le (e16.t h17)) _ O O) fun s18 h18=>qaq 9 V<|qci Z Tt [(_,_),(_,_)] [_,_] Z Z Z Z Z Z Z Z Z fun β19 s19 h19 hc19=>qaq 10 V<|Jb Z Tt Z Z Z (AC.mid [_,_,_] (_::N3) (([]:Hl)++L) (qcW D _ _ (M:=(_::N3)) (n:=qgp) ⟨p3,N3,v3,hp3,Z,hb3⟩ (hc19.le (Lr D)) Q2)) ?_;have e19:=e16.t h17|>.t h18|>.t h19;rintro _ _ s20 h20 ⟨M4,rfl,rfl,hW4⟩;have e20:=h15.t h16|>.t h17|>.t h18|>.t h19|>.t h20;refine ⟨(fun _ hx _=>by cases hx),?_⟩;simp only [cQ9,nQ9];refine qah V<|G6 ?_;refine Jc Z Z Z (AC.mid [_,_,_] M4 (([]:Hl)++L) (qbQ D _ _ (hG.le (e19.t h20)) (M:=M4) hW4 qeE _ O Q2)) ?_;rintro _ _ s21 h21 ⟨M5,rfl,rfl,hW5⟩;have e21:=e19.t h20|>.t h21;simp only [cQ9,nQ9];refine G7 ?_;refine qbd [(_,_)] [_] Z Z Z Z Z Z Z Z Z fun β22 s22 h22 hc22=>Jc Z Z Z (AC.mid [_,_,_] M5 (([]:Hl)++L) (qdu D _ _ (M:=M5) (n:=qhu) hW5 (hc22.le (Lr D)) Q2)) ?_;have e22:=e21.t h22;rintro _ _ s23 h23 ⟨M6,rfl,rfl,hW6⟩;have e23:=e22.t h23;simp only [cQ9,nQ9];refine G12 ?_;obtain ⟨tq,hq,hWq⟩:∃ tq,tq=((([]++cT [.ref qht qkE])++cT [.ref qgp (fT (fi p qbI))])++cT [.num qeE 0])++cT [.op qhu]∧CR ⟨Ag,ng,cg,Af,nf,cf,βg,βf,none,0,0⟩ bb 0 0 (.slice none 0 0) tq M6:=⟨_,rfl,hW6⟩;have hql:=congrArg List.length hq;simp only [qag,qal,List.length_append,List.length_nil] at hql;refine qc0 [_,_,_] (γ:=Nat×Nat×Hl×Hl×Value×Option Nat×Nat×Nat×Str) (fun g=>[(2,_),(3,_),(6,_),(88,_),(89,_),(90,.int .i64 (g.1:Int))]) (fun g=>g.2.2.1++(g.2.2.2.1++L)) (fun g tw=>Le D s23 tw∧(g.1≤nf∧CR ⟨Ag,ng,cg,Af,nf,cf,βg,βf,g.2.2.2.2.2.1,g.2.2.2.2.2.2.1,g.2.2.2.2.2.2.2.1⟩ bb g.2.1 0 g.2.2.2.2.1 g.2.2.2.2.2.2.2.2 g.2.2.1∧FL.Own 9 1 g.2.2.2.1 g.2.2.2.2.1 ([]:List Str).length (sb ([]:List Str))∧g.2.2.2.2.2.2.2.2++cT (cFs p (p.funcs.drop g.1) g.1 g.2.1).1=tq++cT (cFs p p.funcs 0 0).1∧g.2.1+3 * qiC (p.funcs.drop g.1)≤1000000)) (fun g=>nf - g.1) (fun _ _ _ h hl=>⟨h.1.trans hl,h.2⟩) (0,0,M6,([]:Hl),.slice none 0 0,none,0,0,tq) (.c6 Z Z Z Z Z Z (.nil _)) Z ⟨Le.refl _,⟨Nat.zero_le _,hWq,hO0,Z,by simp only [List.drop_zero];omega⟩⟩ ?_;intro g s24 I24;have e24:=e20.t h21|>.t h22|>.t h23|>.t I24.1;simp only [cQ9,nQ9];obtain ⟨j,kj,Mj,Rj,vj,sm,sz,nl,tj⟩:=g;obtain ⟨hj0,hWj,hOj,hT1,hkj⟩:=I24.2;simp only at hj0 hWj hOj hT1 hkj;dsimp only;have hle:=congrArg List.length hT1;simp only [List.length_append] at hle;refine J6 ?_ ?_<;>intro c25
 ·have hjn:j < nf:=by omega
  obtain ⟨b,off,x,B1,m1,d1,B2,m2,d2,B3,m3,d3,rfl,hx,hcx,hpx,hlx,hbx,hnl⟩:=Fncs.at_ (hFn.le (e23.t I24.1)) hjn;have hxm:=List.mem_of_getElem? hx;have hvx:=hVf x hxm;have hpq:PQ p x:=⟨hf0,hV2,hV1,fun g hg=>(hU.1 g hg).1,hvx.2.1,hvx.2.2.1⟩;have hBx:SbK p x x.body 0 1:=⟨hvx.2.2.2.2.1,hnds x hxm⟩;have hndx:((sE x).map (·.1)).Nodup:=by rw [qDo];exact List.perm_append_comm.nodup_iff.1 (hndf x hxm)
  have hT:=qB4 (p:=p) (i:=j) (j:=kj) hx;rw [qo1 hx] at hkj;rw [hT] at hle;simp only [qaE,List.length_append] at hle;have hkf:=qEQ p x j kj;refine G7 ?_;refine qae (qaw Z Z Z Z Z Z hjn) Z<|qae (qat Z Z Z (hcx.le (Lr D)) Z) Z<|qac Z [_,_,_,_] Z Z fun β26 s26 h26=>Zqa Z Z<|Wt 0 [_,_,_,_] Y9<|G5 ?_;refine qae (qaj 0 [_,_,_,_] Z Z Z Z Z) Z ?_;refine Jc Z Z Z (AC.mid2 [_,_,_,_] Mj Rj L (qCg D d p _ _ (hG.le (e23.t I24.1|>.t h26)) ⟨Ag,ng,cg,_,nf,cf,βg,βf,sm,sz,nl⟩ (hGl.le (e23.t I24.1|>.t h26)) (hmg.le (e24.t h26)) (MpI.le ⟨esf,hmf,hhmf⟩ (e24.t h26)) _ kj _ _ _ _ hWj hOj B1 m1 d1 B2 m2 d2 B3 m3 d3 x j (hpx.le h26) (hlx.le h26) (hbx.le h26) hpq hBx hndx O O Q2)) ?_;rintro _ _ s27 h27 ⟨_,rfl,rfl,M7,R7,vl7,sm7,sz7,nl7,rfl,hW7,hO7⟩;simp only [List.cons_append,List.nil_append,List.append_assoc];refine G4 ?_;refine qaV Z Z Z (w64 O O)<|G2 ?_;refine qaf ⟨(j+1,(cF p x j kj).2,M7,R7,vl7,sm7,sz7,nl7,_),[_],kp,Z,⟨(I24.1.t h26|>.t h27),⟨by simp only;omega,hW7,hO7,by simp only;rw [← hT1,hT];simp only [qaE,qag,qal,List.append_assoc,List.append_nil,List.cons_append,List.nil_append,List.length_nil,Nat.add_zero],by simp only;omega⟩⟩,Oz⟩
 rw [List.drop_eq_nil_of_le O,cFs,qal,List.append_nil] at hT1;subst hT1;subst hq;refine G8 ?_;refine Jc Z Z Z (AC.mid [_,_,_] Mj (Rj++L) (qrA D p _ _ (hG.le (e23.t I24.1)) ⟨Ag,ng,cg,Af,nf,cf,βg,βf,sm,sz,nl⟩ (hGl.le (e23.t I24.1)) hV1 (fun g hg=>(hVg g hg).1) _ _ _ _ _ _ hWj Q2)) ?_;rintro _ _ s26 h26 ⟨M7,rfl,rfl,hW7⟩;simp only [cQ9,nQ9];refine G7 ?_;refine Jc Z Z Z (AC.mid [_,_,_] M7 (Rj++L) (qcb D _ _ (M:=M7) hW7 qkE Q2)) ?_;rintro _ _ s27 h27 ⟨M8,rfl,rfl,hW8⟩;simp only [cQ9,nQ9];refine G8 ?_;refine Jc Z Z Z (qrv D [_,_,_] (Rj++L) _ _ M8 _ hW8) ?_;rintro _ _ s28 h28 ⟨rfl,rfl⟩;simp only [cQ9,nQ9];refine X13 ?_;exact rR (_::_::_::Rj) L (.tmp Z (.agg (us:=[_,_]) 1 Z Z Z Z Z (.nil))) Z (e23.t I24.1|>.t h26|>.t h27|>.t h28) fun _ hS2=>qEl
def wdW(p:Prg):List Int:=if (txF p).1=0 then qvh defT (txT p) else []
theorem qkz{p:Prg}(hU:prU p)(h:(txF p).1=0):txF p=(0,0)∧txT p=cT (cP p)∧(qdC p).1=0∧qei p≤49152:=by grind [txF,txT]
def qqB{p:Prg}(h:¬ (txF p).1=0):txT p=[]∧wdW p=[]:=by
  refine ⟨?_,if_neg h⟩;unfold txF at h;unfold txT;by_cases hz:(qdC p).1=0
  · rw [if_pos hz] at *
    by_cases hn:49152 < qei p
    · rw [if_pos hn]
    · rw [if_neg hn] at h;exact absurd rfl h
  · rw [if_neg hz]
def qDJ{p:Prg}(hU:prU p)(h:(txF p).1=0):qhD defT (txT p)=(0,0)∧(txT p).length≤400000:=by
 obtain ⟨h1,h2,h3,h4⟩:=qkz hU h;obtain ⟨⟨x,hx⟩,hl⟩:=qB8 hU h3 h4;rw [h2];exact ⟨by rw [qhD,hx],hl⟩
def qkU:AC prog D 10 [] L s fun v L' s'=>L=L'∧∃ A n c,v=.agg #[.int .i64 65536,.slice A n c]∧Inss s' A n c defT.ins:=AC.pubW (qkX D L s)
def Cz62{p:Prop} (h:p:=by
 first
  | (refine ⟨rfl,none,0,0,rfl,?_⟩;rw [(qqB hz).2];exact Wds.nil _ _ _ O)
  | (refine ⟨rfl,Aw1,nw1,cw1,by rw [(qDJ hU hz).1,(qkz hU hz).1];rfl,?_⟩;rw [wdW,if_pos hz];exact hw1.le hS2)):p:=h
def qjE(hG:GP s)(d:Nat)(p:Prg)(Ag Af:Option Addr)(ng cg nf cf:Nat)(hGl:Glos s Ag ng cg p.globals)(hFn:Fncs d s Af nf cf p.funcs):AC prog D 6 [.agg #[.slice Ag ng cg,.slice Af nf cf]] L s fun v L' s'=>L=L'∧∃ A1 n1 c1,v=.tuple #[.slice A1 n1 c1,.agg #[.int .i64 (txF p).1,.int .i64 (txF p).2]]∧Wds s' A1 n1 c1 (wdW p):=by
 have hU:prU p:=⟨hGl.u,hFn.u⟩;refine qad (fn:=f6) qao func6 V Z ntmps6 Z (rs:=[.tmp 2,.cell 3 30]) Z [(0,_)] Z<|Sr<|qar Z Z fun β1 s1 h1=>Zqa Z Z<|qac Z [_,_] Z Z fun β2 s2 h2=>Nt<|Sr<|qae (qaj 1 [_,_] Z Z Z Z Z) Z<|Je Z Z Z (qlO D _ _ (hG.le (h1.t h2)) d p _ _ _ _ _ _ (hGl.le (h1.t h2)) (hFn.le (h1.t h2))) fun s3 h3=>G3 ?_;refine qac Z [_,_] Z Z fun β4 s4 h4=>Zqa Z Z<|Wt 0 [_,_] Y9<|Nt<|Zs<|Sr<|qae (qaj 0 [_,_] Z Z Z Z Z) Z<|qae (qai [] [_,_] Z Z Z Z Z Z) Z<|qae (qcU Z Z (qb3 _ _ _ _)) Z<|G2 ?_;have e4:=h1.t h2|>.t h3|>.t h4;refine qaR Z ?_ ?_<;>intro c5;·have hz:¬ (txF p).1=0:=fun h=>c5 (by rw [(qkz hU h).1];exact ⟨rfl,rfl⟩);refine Zs<|qaU qab 3 Z [1] Q3 fun s6 h6=>za 0 Z (qaj 0 [_,_] Z Z Z Z Z) Z<|H1 ?_;refine X6 ?_;exact rR [_,_,_] L (.tmp Z (.agg (us:=[_,_]) 1 Z Z Z Z Z (.nil))) Z (e4.t h6) fun _ hS2=>Cz62
 have hz:(txF p).1=0:=c5.1;refine Zk<|Zt<|Sr<|Jc Z Z Z (qkU D _ _) ?_;rintro _ _ s6 h6 ⟨rfl,Ad1,nd1,cd1,rfl,hD1⟩;refine Zqm Z Z<|Jc Z Z Z (qjq D _ _ (hG.gw.le (e4.t h6)) defT Ad1 nd1 cd1 (hD1.le (Lr D)) _) ?_;rintro _ _ s7 h7 ⟨rfl,Aw1,nw1,cw1,rfl,hw1⟩;refine G3 ?_;refine Wt 1 [_,_] Y9<|G3 ?_;exact rR [_,_,_] L (.tmp Z (.agg (us:=[_,_]) 1 Z Z Z Z Z (.nil))) Z (e4.t h6|>.t h7) fun _ hS2=>Cz62
def qk4(d:Nat)(s:World):Exs d s none 0 0 []:=⟨rfl,Nat.le_refl _,by omega,fun i x h=>by cases h⟩
def qmy(d:Nat)(s:World):Stms d s none 0 0 []:=⟨rfl,Nat.le_refl _,by omega,fun i x h=>by cases h⟩
def qmA(s:World):Strs s none 0 0 []:=⟨rfl,Nat.le_refl _,by omega,fun i x h=>by cases h⟩
def qAl(s:World):Wds s none 0 0 []:=⟨rfl,Nat.le_refl _,by omega,fun i x h=>by cases h⟩
def getX:Ex:=.mk 5 0 0 [] []
def nX:Ex:=.mk 2 0 0 [110] []
def mulX:Ex:=.mk 7 4 0 [] [nX,.mk 1 0 2 [] []]
def sumX:Ex:=.mk 7 10 0 [] [getX,mulX]
def qjN{d:Nat}{s:World}{k o n:Int}{nm:Str}{A:Option Addr}{m c:Nat}{l:List Ex}(h:Exs d s A m c l)(hn:U32 n)(hl:nm.length≤1000):([.int .i64 k,.int .i64 o,.int .u32 n,St nm,.slice A m c]:List Value).length=5∧ExR (d+1) s (.mk k o n nm l) [.int .i64 k,.int .i64 o,.int .u32 n,St nm,.slice A m c]:=⟨rfl,A,m,c,rfl,h,hn,show nm.length≤9223372036854775807 by omega⟩
def qs7{s:World}{b1 b2 b3 b4 b5 b6:Nat}(h1:CellsAt s b1 0 [.int .i64 2,.int .i64 0,.int .u32 0,St [110],.slice none 0 0,.int .i64 1,.int .i64 0,.int .u32 2,St [],.slice none 0 0])
  (h2:CellsAt s b2 0 [.int .i64 5,.int .i64 0,.int .u32 0,St [],.slice none 0 0,.int .i64 7,.int .i64 4,.int .u32 0,St [],.slice (some ⟨b1,0,none⟩) 2 2])
  (h3:CellsAt s b3 0 [.int .i64 1,St [110],.int .u32 3,.slice none 0 0]) (h4:CellsAt s b4 0 [.int .i64 7,.int .i64 10,.int .u32 0,St [],.slice (some ⟨b2,0,none⟩) 2 2])
  (h5:CellsAt s b5 0 [.int .i64 7,St [],.slice (some ⟨b4,0,none⟩) 1 1,.slice none 0 0,.slice none 0 0]) (h6:CellsAt s b6 0 [St qbI,.slice none 0 0,.slice none 0 0,.slice (some ⟨b5,0,none⟩) 1 1]) :
  Glos s (some ⟨b3,0,none⟩) 1 1 smallP.globals∧Fncs 5 s (some ⟨b6,0,none⟩) 1 1 smallP.funcs:=by
 have z:U32 0:=⟨by decide,by decide⟩;have e1:Exs 2 s (some ⟨b1,0,none⟩) 2 2 [nX,.mk 1 0 2 [] []]:=Sl.lit [[_,_,_,_,_],[_,_,_,_,_]] h1 rfl (.cons (qjN (qk4 1 s) z Dc) (.cons (qjN (qk4 1 s) ⟨by decide,by decide⟩ Dc) .nil)) 2 rfl O;have e2:Exs 3 s (some ⟨b2,0,none⟩) 2 2 [getX,mulX]:=Sl.lit [[_,_,_,_,_],[_,_,_,_,_]] h2 rfl (.cons (qjN (qk4 2 s) z Dc) (.cons (qjN e1 z Dc) .nil)) 2 rfl O;have e3:Exs 4 s (some ⟨b4,0,none⟩) 1 1 [sumX]:=Sl.lit [[_,_,_,_,_]] h4 rfl (.cons (qjN e2 z Dc) .nil) 1 rfl O;have e4:Stms 5 s (some ⟨b5,0,none⟩) 1 1 [.mk 7 [] [sumX] [] []]:=Sl.lit [[_,_,_,_,_]] h5 rfl (.cons ⟨rfl,_,_,_,_,_,_,_,_,_,rfl,e3,qmy 4 s,qmy 4 s,by decide⟩ .nil) 1 rfl O;exact ⟨Sl.lit [[_,_,_,_]] h3 rfl (.cons ⟨rfl,_,_,_,rfl,qAl s,⟨by decide,by decide⟩,by decide⟩ .nil) 1 rfl O,
  Sl.lit [[_,_,_,_]] h6 rfl (.cons ⟨rfl,_,_,_,_,_,_,_,_,_,rfl,qmA s,qmA s,e4,by decide⟩ .nil) 1 rfl O⟩
def qyq(n:Int):AC prog D 30 [.int .u32 n] L s fun v L' _=>v=.agg #[.int .i64 1,.int .i64 0,.int .u32 n,St [],.slice none 0 0]∧L=L':=by
 refine qad (fn:=f30) qao func30 V Z ntmps30 Z (rs:=[.cell 2 94]) Z [(0,_)] Z<|Sr<|qac Z [_,_,_,_,_] Z Z fun β1 s1 h1=>G5 ?_;refine qae (qai [(_,_),(_,_)] [_,_,_,_,_] Z Z Z Z Z Z) Z<|Wt 0 [_,_,_,_,_] Y9<|G3 ?_;exact rR [_] L (.agg (us:=[_,_,_,_,_]) 0 Z Z Z Z Z (.nil)) Z h1 fun _ hS2=>Cz0
def qqd:AC prog D 14 [] L s fun v L' s'=>∃ M',L'=M'++L∧∀ s2,Le D s' s2→Pub M' s2→∃ bg bf,v=.agg #[.slice (some ⟨bg,0,none⟩) 1 1,.slice (some ⟨bf,0,none⟩) 1 1]∧Glos s2 (some ⟨bg,0,none⟩) 1 1 smallP.globals∧Fncs 5 s2 (some ⟨bf,0,none⟩) 1 1 smallP.funcs:=by
 refine qad (fn:=f14) qao func14 V Z ntmps14 Z (rs:=[.cell 0 25]) Z [] Z<|Sr<|qac Z [_,_] Z Z fun β1 s1 h1=>Nt<|Sr<|qae (qai [(_,_),(_,_)] [_,_,_,_,_] Z Z Z Z Z Z) Z<|Je Z Z Z (qyq D _ _ 2) fun s2 h2=>qbd [(_,_),(_,_)] [_,_,_,_,_,_,_,_,_,_] Z Z Z Z Z Z Z Z Z fun βa s3 h3 hca=>qae (qai [(_,_),(_,_),(_,_)] [_,_,_,_,_] Z Z Z Z Z Z) Z<|qac Z [_,_,_,_,_] Z Z fun β4 s4 h4=>Wt 0 [_,_,_,_,_] Y9<|Nt<|Sr<|qae (qai [(_,_)] [_,_,_,_,_] Z Z Z Z Z Z) Z<|qae (qaj 0 [_,_,_,_,_] Z Z Z Z Z) Z<|qbd [(_,_),(_,_)] [_,_,_,_,_,_,_,_,_,_] Z Z Z Z Z Z Z Z Z fun βb s5 h5 hcb=>qae (qai [(_,_),(_,_),(_,_)] [_,_,_,_,_] Z Z Z Z Z Z) Z<|qac Z [_,_,_,_,_] Z Z fun β6 s6 h6=>Wt 0 [_,_,_,_,_] Y9<|Nt<|Sr<|qae (qai [(_,_),(_,_),(_,_)] [_,_,_,_] Z Z Z Z Z Z) Z<|qbd [(_,_)] [_,_,_,_] Z Z Z Z Z Z Z Z Z fun βc s7 h7 hcc=>qae (qaj 0 [_,_,_,_,_] Z Z Z Z Z) Z<|qbd [(_,_)] [_,_,_,_,_] Z Z Z Z Z Z Z Z Z fun βd s8 h8 hcd=>qae (qai [(_,_),(_,_)] [_,_,_,_,_] Z Z Z Z Z Z) Z<|qbd [(_,_)] [_,_,_,_,_] Z Z Z Z Z Z Z Z Z fun βe s9 h9 hce=>qae (qai [(_,_),(_,_)] [_,_,_,_] Z Z Z Z Z Z) Z<|qbd [(_,_)] [_,_,_,_] Z Z Z Z Z Z Z Z Z fun βf s10 h10 hcf=>qae (qai [(_,_),(_,_)] [_,_] Z Z Z Z Z Z) Z<|Wt 2 [_,_] Y9<|G3 ?_;exact rR [_,_,_] _ (.agg (us:=[_,_]) 2 Z Z Z Z Z (.nil)) Z (h1.t h2|>.t h3|>.t h4|>.t h5|>.t h6|>.t h7|>.t h8|>.t h9|>.t h10) fun _ hS2=>⟨[],rfl,fun s2 hs2 hp=>⟨_,_,rfl,qs7 (hca.le (h4.t h5|>.t h6|>.t h7|>.t h8|>.t h9|>.t h10|>.t (hS2.t hs2))) (hcb.le (h6.t h7|>.t h8|>.t h9|>.t h10|>.t (hS2.t hs2))) (hcc.le (h8.t h9|>.t h10|>.t (hS2.t hs2))) (hcd.le (h9.t h10|>.t (hS2.t hs2))) (hce.le (h10.t (hS2.t hs2))) (hcf.le ((Lr D).t (hS2.t hs2)))⟩⟩
def qhm:AC prog D 14 [] L s fun v L' s'=>L=L'∧∃ bg bf,v=.agg #[.slice (some ⟨bg,0,none⟩) 1 1,.slice (some ⟨bf,0,none⟩) 1 1]∧Glos s' (some ⟨bg,0,none⟩) 1 1 smallP.globals∧Fncs 5 s' (some ⟨bf,0,none⟩) 1 1 smallP.funcs:=AC.pubW (qqd D L s)
def smI:List Int:=[32,21,28,7,2,0,1,30,9,2,3,9,2,2,13,11,31,2,0,29,1]
def qEb:qdC smallP=(0,0):=by decide +kernel
def qFK:qei smallP=340:=by decide +kernel
def qy2:txF smallP=(0,0):=by rw [txF,if_pos (by rw [qEb]),if_neg (by rw [qFK];decide)]
def qDr:txT smallP=cT (cP smallP):=by rw [txT,if_pos (by rw [qEb]),if_neg (by rw [qFK];decide)]
def qFJ:0 < (txT smallP).length:=by rw [qDr];decide +kernel
def qDs:wdW smallP=smI:=by rw [wdW,if_pos (by rw [qy2]),qDr];decide +kernel
def qFI:qdI defT smI [65] 280=(([71],1,0,14),0,0):=by decide +kernel
def qpL{s:World}{b:Nat}(c:UInt8)(h:CellsAt s b 0 [.int .u8 (c.toNat:Int)]):Bts s (some ⟨b,0,none⟩) 1 1 [c]:=qoq (l:=[c]) (yc:=[]) h rfl O
def qrB(A:Option Addr)(n c:Nat)(hA:Inss s A n c defT.ins)(A1:Option Addr)(n1 c1:Nat)(hI:Wds s A1 n1 c1 (wdW smallP))(b:Nat)(hb:CellsAt s b 0 [.int .u8 65]):AC prog D 9 [.agg #[.int .i64 65536,.slice A n c],.slice A1 n1 c1,.slice (some ⟨b,0,none⟩) 1 1,.int .i64 280] L s fun v L' s'=>L=L'∧∃ vs,OutW s' ([71],1,0,14) vs∧v=.tuple #[vs,.agg #[.int .i64 0,.int .i64 0]]:=by
 have h:=qhX D L s defT A n c hA A1 n1 c1 _ (qDs▸hI) (some ⟨b,0,none⟩) 1 1 [65] (qpL 65 hb) 280;rw [qFI] at h;exact h
def qrF(A1:Option Addr)(n1 c1:Nat)(h1:Bts s A1 n1 c1 [71])(b:Nat)(h2:CellsAt s b 0 [.int .u8 71]):AC prog D 12 [.slice A1 n1 c1,.slice (some ⟨b,0,none⟩) 1 1] L s fun v L' _=>v=.bool true∧L=L':=by
 have h:=qgf D L s A1 n1 c1 _ h1 (some ⟨b,0,none⟩) 1 1 [71] (qpL 71 h2);rw [decide_eq_true rfl] at h;exact h
def qsd(hG:GP s):AC prog D 5 [] L s fun v L' _=>v=.bool true∧L=L':=by
 refine qad (fn:=f5) qao func5 V Z ntmps5 Z (rs:=[.tmp 0]) Z [] Z<|G7 ?_;refine Jc Z Z Z (qhm D _ _) ?_;rintro _ _ s1 h1 ⟨rfl,bg1,bf1,rfl,hg1,hf1⟩;refine Je Z Z Z (qpA D _ _ (hG.le h1) 5 smallP _ _ _ _ _ _ (hg1.le (Lr D)) (hf1.le (Lr D))) fun s2 h2=>G3 ?_;refine qac Z [_,_] Z Z fun β3 s3 h3=>Zqa Z Z<|Wt 0 [_,_] Y9<|Nt<|Sr<|Jc Z Z Z (qhm D _ _) ?_;have e3:=h1.t h2|>.t h3;rintro _ _ s4 h4 ⟨rfl,bg2,bf2,rfl,hg2,hf2⟩;refine Je Z Z Z (qlO D _ _ (hG.le (e3.t h4)) 5 smallP _ _ _ _ _ _ (hg2.le (Lr D)) (hf2.le (Lr D))) fun s5 h5=>G3 ?_;refine qac Z [_,_] Z Z fun β6 s6 h6=>Zqa Z Z<|Wt 0 [_,_] Y9<|Nt<|Sr<|Jc Z Z Z (qhm D _ _) ?_;have e6:=e3.t h4|>.t h5|>.t h6;rintro _ _ s7 h7 ⟨rfl,bg3,bf3,rfl,hg3,hf3⟩;refine Jc Z Z Z (qjE D _ _ (hG.le (e6.t h7)) 5 smallP _ _ _ _ _ _ (hg3.le (Lr D)) (hf3.le (Lr D))) ?_;rintro _ _ s8 h8 ⟨rfl,Aw,nw,cw,rfl,hw⟩;refine G3 ?_;refine qac Z [_,_] Z Z fun β9 s9 h9=>Zqa Z Z<|Wt 0 [_,_] Y9<|Nt<|Sr<|Jc Z Z Z (qkU D _ _) ?_;rintro _ _ s10 h10 ⟨rfl,Ad1,nd1,cd1,rfl,hD1⟩;refine Zqm Z Z<|qbd [(_,_)] [_] Z Z Z Z Z Z Z Z Z fun βi s11 h11 hci=>Jc Z Z Z (qrB D _ _ _ _ _ (hD1.le h11) _ _ _ (hw.le (h9.t h10|>.t h11)) _ (hci.le (Lr D))) ?_;rintro _ _ s12 h12 ⟨rfl,_,⟨Ao,no,co,rfl,hO⟩,rfl⟩;refine G3 ?_;refine qac Z [_,_,_,_] Z Z fun β13 s13 h13=>qac Z [_,_] Z Z fun β14 s14 h14=>Wt 1 [_,_,_,_] Y9<|Wt 0 [_,_] Y9<|G5 ?_;refine Wl 4 Y6<|qae (qaC (v':=.bool true) (qdD Z Z) (bT (by rw [qEb]))) Z<|G4 ?_;refine Wl 3 Y6<|Zg Z Z<|qae (qaC (v':=.bool true) (qdD Z Z) (bT (by rw [qy2]))) Z<|G7 ?_;refine qae (qaC (v':=.bool true) (qdD Z Z) (bT (by rw [qy2]))) Z ?_;refine G7 ?_;refine qae (qaC (v':=.bool true) (qdD Z Z) (bT Z)) Z<|G5 ?_;refine qae (qaC (v':=.bool true) (qdD Z Z) (bT (by rw [if_pos (by rw [qEb]),qFK]))) Z<|G5 ?_;refine qjg Z Z Z Z<|Zg Z Z<|qae (qaC (v':=.bool true) (qwB Z Z) (bT (by have:=qFJ;omega))) Z<|G7 ?_;refine qae (qaC (v':=.bool true) (qwB Z Z) (bT (by rw [hw.1,qDs];decide))) Z<|G7 ?_;refine qbd [(_,_)] [_] Z Z Z Z Z Z Z Z Z fun βj s15 h15 hcj=>Zg Z Z<|Je Z Z Z (qrF D _ _ _ _ _ (hO.le (h13.t h14|>.t h15)) _ (hcj.le (Lr D))) fun s16 h16=>G7 ?_;refine qae (qaC (v':=.bool true) (qdD Z Z) (bT Z)) Z<|G7 ?_;refine qae (qaC (v':=.bool true) (qdD Z Z) (bT Z)) Z<|G5 ?_;exact rX [_,_,_,_,_] L Z (e6.t h7|>.t h8|>.t h9|>.t h10|>.t h11|>.t h12|>.t h13|>.t h14|>.t h15|>.t h16) fun _ hS2=>Cz0
end Go.Proofs.YtlfiplbamnpgoaaGreatDoor
namespace Go.Proofs.YtlfiplbamnpgoaaGreatDoor
open Go Go.FL
variable(D:Nat)(L:Hl)(s:World){α:Type}
structure MS where
 glo:List Int
 arr:List (List Int)
 frm:List Int
 inp:Str
 left:Nat
 calls:Nat
 out:Str
inductive ER(α:Type) where
 | ok (a:α) (m:MS)
 | fin (m:MS) (st cd:Int)
 | out
def ER.and{β:Type}:ER α→(α→MS→ER β)→ER β
 | .ok a m,k=>k a m
 | .fin m st cd,_=>.fin m st cd
 | .out,_=>.out
structure Sem where
 e:Fnc→Ex→MS→ER Int
 c:Nat→List Int→MS→ER Int
 t:Fnc→Stm→MS→ER (Int×Int)
 w:Fnc→Ex→List Stm→MS→ER (Int×Int)
def qkv(m:MS):ER Unit:=if m.left=0 then .fin m 0 0 else .ok () { m with left:=m.left - 1 }
def ex0:Ex:=.mk 0 0 0 [] []
def qcj(l:List Ex)(i:Nat):Ex:=l.getD i ex0
def qa0(f:Fnc)(nm:Str):Int:=if 0≤qaN (fun y=>decide (nm=y)) f.params 0 then qaN (fun y=>decide (nm=y)) f.params 0 else if 0≤qaN (fun y=>decide (nm=y)) f.locals 0 then (f.params.length:Int)+qaN (fun y=>decide (nm=y)) f.locals 0 else -1
def qdJ(p:Prg)(nm:Str):Int:=qaN (fun g=>decide (g.name=nm)) p.globals 0
def qiv(p:Prg)(nm:Str):Int:=qaN (fun g=>decide (g.name=nm)) p.funcs 0
def gl0:Glo:=⟨0,[],0,[]⟩
def qiI(p:Prg)(f:Fnc)(nm:Str)(m:MS):Int:=
 if 0≤qa0 f nm then m.frm.getD (qa0 f nm).toNat 0
 else if (p.globals.getD (qdJ p nm).toNat gl0).kind=1 then (p.globals.getD (qdJ p nm).toNat gl0).num
 else m.glo.getD (qdJ p nm).toNat 0
def qny(p:Prg)(f:Fnc)(nm:Str)(v:Int)(m:MS):MS:=
 if 0≤qa0 f nm then { m with frm:=m.frm.set (qa0 f nm).toNat v } else { m with glo:=m.glo.set (qdJ p nm).toNat v }
def qbf(E:Ex→MS→ER Int):List Ex→MS→ER (List Int)
 | [],m=>.ok [] m
 | x::r,m=>(E x m).and fun v m=>(qbf E r m).and fun vs m=>.ok (v::vs) m
def qbl(T:Stm→MS→ER (Int×Int)):List Stm→MS→ER (Int×Int)
 | [],m=>.ok (0,0) m
 | x::r,m=>(T x m).and fun y m=>if y.1=0 then qbl T r m else .ok y m
def qeQ(n:Nat)(l:List Int):List Int:=l.take n++List.replicate (n - l.length) 0
def qvC(m:MS):ER Int:=match m.inp with
 | []=>.ok 4294967295 m
 | c::r=>.ok (c.toNat:Int) { m with inp:=r }
section
variable(p:Prg)(OP:Int→Int→Int→Option Int)
def qes(nm:Str)(m:MS):List Int:=m.arr.getD (qdJ p nm).toNat []
def vX(S:Sem)(f:Fnc)(x:Ex)(m:MS):ER Int:=
 if x.kind=1 then .ok x.num m
 else if x.kind=2 then .ok (qiI p f x.name m) m
 else if x.kind=3 then (S.e f (qcj x.args 0) m).and fun i m=>if ((qes p x.name m).length:Int)≤i then .fin m 1 1 else .ok ((qes p x.name m).getD i.toNat 0) m
 else if x.kind=4 then (qbf (S.e f) x.args m).and fun vs m=>S.c (qiv p x.name).toNat vs m
 else if x.kind=5 then qvC m
 else if x.kind=6 then (S.e f (qcj x.args 0) m).and fun a m=>.ok ((OP x.op a 0).getD 0) m
 else (S.e f (qcj x.args 0) m).and fun a m=>if x.op=20∧a=0 then .ok 0 m else if x.op=21∧a≠0 then .ok 1 m
  else (S.e f (qcj x.args 1) m).and fun b m=>match OP x.op a b with|some v=>.ok v m|none=>.fin m 1 2
def sX(S:Sem)(f:Fnc)(x:Stm)(m:MS):ER (Int×Int):=
 if x.kind=1 then (S.e f (qcj x.exprs 0) m).and fun v m=>.ok (0,0) (qny p f x.name v m)
 else if x.kind=2 then (S.e f (qcj x.exprs 0) m).and fun i m=>if ((qes p x.name m).length:Int)≤i then .fin m 1 1
  else (S.e f (qcj x.exprs 1) m).and fun v m=>.ok (0,0) { m with arr:=m.arr.set (qdJ p x.name).toNat ((qes p x.name m).set i.toNat v) }
 else if x.kind=3 then (S.e f (qcj x.exprs 0) m).and fun v m=>if v≠0 then qbl (S.t f) x.body m else qbl (S.t f) x.els m
 else if x.kind=4 then S.w f (qcj x.exprs 0) x.body m
 else if x.kind=5 then (qbf (S.e f) x.exprs m).and fun vs m=>(S.c (qiv p x.name).toNat vs m).and fun _ m=>.ok (0,0) m
 else if x.kind=6 then (S.e f (qcj x.exprs 0) m).and fun v m=>.ok (3,v) m
 else if x.kind=7 then (S.e f (qcj x.exprs 0) m).and fun v m=>if 20000≤m.out.length then .fin m 5 0 else .ok (0,0) { m with out:=m.out++[UInt8.ofNat v.toNat] }
 else if x.kind=8 then (S.e f (qcj x.exprs 0) m).and fun v m=>.fin m 1 v
 else if x.kind=9 then .ok (1,0) m
 else .ok (2,0) m
def fn0:Fnc:=⟨[],[],[],[]⟩
def cX(S:Sem)(i:Nat)(vs:List Int)(m:MS):ER Int:=
 if m.calls=100 then .fin m 1 3
 else (qbl (S.t (p.funcs.getD i fn0)) (p.funcs.getD i fn0).body { m with frm:=qeQ ((p.funcs.getD i fn0).params.length+(p.funcs.getD i fn0).locals.length) vs,calls:=m.calls+1 }).and
  fun y m1=>.ok (if y.1=3 then y.2 else 0) { m1 with frm:=m.frm,calls:=m.calls }
def wX(S:Sem)(f:Fnc)(c:Ex)(b:List Stm)(m:MS):ER (Int×Int):=
 (S.e f c m).and fun v m=>if v=0 then .ok (0,0) m else (qbl (S.t f) b m).and fun y m=>if y.1=1 then .ok (0,0) m else if y.1=3 then .ok y m else S.w f c b m
def sem:Nat→Sem
 | 0=>⟨fun _ _ _=>.out,fun _ _ _=>.out,fun _ _ _=>.out,fun _ _ _ _=>.out⟩
 | n+1=>⟨fun f x m=>(qkv m).and fun _ m=>vX p OP (sem n) f x m,fun i vs m=>cX p (sem n) i vs m,fun f x m=>(qkv m).and fun _ m=>sX p (sem n) f x m,fun f c b m=>wX (sem n) f c b m⟩
def qiu(inp:Str)(steps:Nat):MS:=⟨List.replicate p.globals.length 0,p.globals.map fun g=>if g.kind=3 then qeQ g.num.toNat g.init else [],[],inp,steps,0,[]⟩
def qFy(steps:Nat):ER Int→Str×Int×Int×Nat
 | .ok _ m=>(m.out,1,0,steps - m.left)
 | .fin m st cd=>(m.out,st,cd,steps - m.left)
 | .out=>([],0,0,0)
def qAz(n main:Nat)(inp:Str)(steps:Nat):ER Int:=(sem p OP n).c main [] (qiu p inp steps)
end
-- what every part keeps: what was written stays, no step is given back
def adL(d:Nat)(m:MS):MS:={ m with left:=m.left+d }
def Aft(d:Nat)(m:MS):ER α→Prop
 | .ok _ m2=>m2.left≤d∧∃ w,m2.out=m.out++w
 | .fin m2 _ _=>m2.left≤d∧∃ w,m2.out=m.out++w
 | .out=>True
def Mo(d:Nat)(r r':ER α):Prop:=match r with
 | .out=>True
 | .ok a m=>r'=.out∨r'=.ok a (adL d m)
 | .fin m st cd=>r'=.out∨(st≠0∧r'=.fin (adL d m) st cd)∨(st=0∧m.left=0∧Aft d m r')
section
variable{p:Prg}{OP:Int→Int→Int→Option Int}
def No(B:Nat)(r:ER α):Prop:=match r with
 | .out=>False
 | .ok _ m=>m.left≤B
 | .fin _ _ _=>True
def No.and{β:Type}{B C:Nat}{r:ER α}{k:α→MS→ER β}(h:No B r)(hk:∀ a m,m.left≤B→No C (k a m)):No C (r.and k):=by
 cases r with
 | out=>exact h.elim
 | ok a m=>exact hk a m h
 | fin m st cd=>trivial
def No.up{B C:Nat}{r:ER α}(h:No B r)(hB:B≤C):No C r:=by
 cases r with
 | out=>exact h.elim
 | ok a m=>exact Nat.le_trans h hB
 | fin m st cd=>trivial
def qvK{B:Nat}{E:Ex→MS→ER Int}(hE:∀ x m,m.left≤B→No m.left (E x m)):∀ (l:List Ex) (m:MS),m.left≤B→No m.left (qbf E l m)
 | [],m,_=>by rw [qbf];exact Nat.le_refl _
 | x::r,m,h=>by
  rw [qbf];exact (hE x m h).and fun v m1 h1=>(qvK hE r m1 O).and fun _ m2 h2=>Nat.le_trans h2 h1
def qvL{B:Nat}{T:Stm→MS→ER (Int×Int)}(hT:∀ x m,m.left≤B→No m.left (T x m)):∀ (l:List Stm) (m:MS),m.left≤B→No m.left (qbl T l m)
 | [],m,_=>by rw [qbl];exact Nat.le_refl _
 | x::r,m,h=>by
  rw [qbl];refine (hT x m h).and fun y m1 h1=>?_;split
  · exact (qvL hT r m1 O).up h1
  · exact h1
def qpC:∀ n,(∀ f x m,2 * m.left < n→No (m.left - 1) ((sem p OP n).e f x m))∧(∀ i vs m,2 * m.left+1 < n→No m.left ((sem p OP n).c i vs m))∧(∀ f x m,2 * m.left < n→No (m.left - 1) ((sem p OP n).t f x m))∧∀ f c b m,2 * m.left+1 < n→No m.left ((sem p OP n).w f c b m)
  | 0=>⟨fun _ _ _ h=>by omega,fun _ _ _ h=>by omega,fun _ _ _ h=>by omega,fun _ _ _ _ h=>by omega⟩
  | n+1=>by
    obtain ⟨hE,hC,hT,hW⟩:=qpC n;have hE':∀ f x m,2 * m.left < n→No m.left ((sem p OP n).e f x m):=fun f x m h=>(hE f x m h).up O;have hA:∀ f (l:List Ex) (m:MS),2 * m.left < n→No m.left (qbf ((sem p OP n).e f) l m):=fun f l m h=>qvK (B:=m.left) (fun x m1 h1=>hE' f x m1 O) l m (Nat.le_refl _);have hR:∀ f (l:List Stm) (m:MS),2 * m.left < n→No m.left (qbl ((sem p OP n).t f) l m):=fun f l m h=>qvL (B:=m.left) (fun x m1 h1=>(hT f x m1 O).up O) l m (Nat.le_refl _);have hS:∀ m:MS,2 * m.left < n+1→∀ {α:Type} {k:Unit→MS→ER α},(∀ a m1,m1.left=m.left - 1→2 * m1.left+1 < n→No m1.left (k a m1))→No (m.left - 1) ((qkv m).and k):=fun m h α k hk=>by
      unfold qkv;split
      · trivial
      · rename_i h0
        exact hk () { m with left:=m.left - 1 } rfl (by show 2 * (m.left - 1)+1 < n;omega)
    refine ⟨fun f x m h=>hS m h fun _ m1 _ h1=>?_,fun i vs m h=>?_,fun f x m h=>hS m h fun _ m1 _ h1=>?_,fun f c b m h=>?_⟩
    · clear h
      unfold vX;split
      · exact Nat.le_refl _
      split
      · exact Nat.le_refl _
      split
      · refine (hE' _ _ _ O).and fun i m h2=>?_
        split
        · trivial
        · exact h2
      split
      · exact (hA _ _ _ O).and fun vs m h2=>(hC _ _ _ O).up h2
      split
      · unfold qvC;split<;>exact Nat.le_refl _
      split
      · exact (hE' _ _ _ O).and fun a m h2=>h2
      · refine (hE' _ _ _ O).and fun a m h2=>?_
        split
        · exact h2
        split
        · exact h2
        · refine (hE' _ _ _ O).and fun b m h3=>?_
          split
          · exact Nat.le_trans h3 h2
          · trivial
    · show No m.left (cX p (sem p OP n) i vs m)
      unfold cX;split
      · trivial
      · exact (hR _ _ { m with frm:=qeQ ((p.funcs.getD i fn0).params.length+(p.funcs.getD i fn0).locals.length) vs,calls:=m.calls+1 } (by show 2 * m.left < n;omega)).and fun y m1 h1=>h1
    · clear h
      unfold sX;split
      · refine (hE' _ _ _ O).and fun v m h2=>?_
        unfold qny;split<;>exact h2
      split
      · refine (hE' _ _ _ O).and fun i m h2=>?_
        split
        · trivial
        · exact (hE' _ _ _ O).and fun v m h3=>Nat.le_trans h3 h2
      split
      · refine (hE' _ _ _ O).and fun v m h2=>?_
        split
        · exact (hR _ _ _ O).up h2
        · exact (hR _ _ _ O).up h2
      split
      · exact hW _ _ _ _ O
      split
      · exact (hA _ _ _ O).and fun vs m h2=>(hC _ _ _ O).and fun _ m h3=>Nat.le_trans h3 h2
      split
      · exact (hE' _ _ _ O).and fun v m h2=>h2
      split
      · refine (hE' _ _ _ O).and fun v m h2=>?_
        split
        · trivial
        · exact h2
      split
      · exact (hE' _ _ _ O).and fun v m h2=>trivial
      split
      · exact Nat.le_refl _
      · exact Nat.le_refl _
    · show No m.left (wX (sem p OP n) f c b m)
      unfold wX;rcases Nat.eq_zero_or_pos m.left with h0|h0
      ·
        have:∀ v m1,(sem p OP n).e f c m=.ok v m1→False:=by
          intro v m1 he;cases n with
          | zero=>cases he
          | succ n=>
            have e:(sem p OP (n+1)).e f c m=.fin m 0 0:=by show (qkv m).and _=_;rw [qkv,if_pos h0];rfl
            rw [e] at he;cases he
        have hn:=hE f c m O;cases hr:(sem p OP n).e f c m with
        | out=>rw [hr] at hn;exact hn.elim
        | fin m1 st cd=>trivial
        | ok v m1=>exact (this v m1 hr).elim
      · refine (hE f c m O).and fun v m1 h1=>?_
        split
        · show m1.left≤m.left;omega
        · refine (hR f b m1 O).and fun y m2 h2=>?_
          split
          · show m2.left≤m.left;omega
          split
          · show m2.left≤m.left;omega
          · exact (hW f c b m2 O).up O
end
open Go.Proofs.Tryz
open Go.FL
attribute [local irreducible] JC JO JA JB qaJ qax qbN AC fill CellsAt QE Ev Mid
def qBn{P:Program}{TT:qaM}{D:Nat}{fr:Fr}{ty:Nat}{K:Hl}{s0:World}{x:Operand}{t:Nat}{a:Int}(hx:lk fr x=some (.int .u32 a)):QE P TT D fr (.unOp .neg t x) ty K s0 (.int .u32 (w32 (0 - a))):=QE.pure fun _ dst pos af g ρ hρ w=>by
 have h:Op.unary .neg (.int .u32 a)=pure (.int .u32 (IntKind.u32.wrap (0 - a))):=rfl;rw [IntKind.wrap_u32] at h;simp [execOp,hρ x _ hx,h,w32]
def quY{n:Nat}(h:n < 4294967296):4294967295 ^^^ n=4294967295 - n:=by
 have e:(~~~(BitVec.ofNat 32 n)).toNat=4294967295 - n:=by rw [BitVec.toNat_not,BitVec.toNat_ofNat,Nat.mod_eq_of_lt h]
 rw [← e,BitVec.not_def,BitVec.toNat_xor,BitVec.toNat_allOnes,BitVec.toNat_ofNat,Nat.mod_eq_of_lt h]
def qwA{P:Program}{TT:qaM}{D:Nat}{fr:Fr}{ty:Nat}{K:Hl}{s0:World}{x:Operand}{t:Nat}{a:Int}(hx:lk fr x=some (.int .u32 a))(ha:U32 a):QE P TT D fr (.unOp .xor t x) ty K s0 (.int .u32 (4294967295 - a)):=QE.pure fun _ dst pos af g ρ hρ w=>by
 have h:=qhi (P:=P) (t:=t) (x:=4294967295) (y:=a) ⟨by decide,by decide⟩ ha w;have e:Op.unary .xor (.int .u32 a)=Op.intBits .xor .u32 4294967295 a:=rfl;have e2:binOp .xor t (.int .u32 4294967295) (.int .u32 a)=Op.intBits .xor .u32 4294967295 a:=rfl;rw [e2] at h;obtain ⟨n,rfl⟩:=Int.eq_ofNat_of_zero_le ha.1;have hn:n < 4294967296:=by have:=ha.2;omega
 have e3:(((4294967295:Int).toNat ^^^ ((n:Nat):Int).toNat:Nat):Int)=4294967295 - (n:Int):=by
  show ((4294967295 ^^^ n:Nat):Int)=_;rw [quY hn];omega
 rw [e3] at h;simp [execOp,hρ x _ hx,e,h]
def qg6(op x y:Int):Bool:=if op=1 then decide (x=0) else if op=14 then decide (x=y) else if op=15 then !decide (x=y) else if op=16 then decide (x < y) else if op=17 then decide (x≤y) else if op=18 then decide (y < x) else if op=19 then decide (y≤x) else if op=20 then (!decide (x=0) && !decide (y=0)) else (!decide (x=0) || !decide (y=0))
def opP(op x y:Int):Int:=if 14≤op∨op=1 then (if qg6 op x y=true then 1 else 0) else if op=2 then w32 (0 - x) else if op=3 then 4294967295 - x else if op=4 then w32 (x * y) else if op=5 then x / y else if op=6 then x % y
 else if op=7 then (((x.toNat <<< y.toNat) % 4294967296:Nat):Int) else if op=8 then ((x.toNat >>> y.toNat:Nat):Int) else if op=9 then ((x.toNat &&& y.toNat:Nat):Int) else if op=10 then w32 (x+y) else if op=11 then w32 (x - y) else if op=12 then ((x.toNat ||| y.toNat:Nat):Int) else ((x.toNat ^^^ y.toNat:Nat):Int)
def qhd(op y:Int):Int×Int:=if op < 1∨21 < op then (4,-1) else if (op=5∨op=6)∧y=0 then (26,-3) else (0,0)
def qqQ{p:Prop} (h:p:=by
 refine ⟨?_,Z⟩;simp [qbP,qg6, *];done):p:=h
def qAR{p:Prop} (h:p:=by
 refine rR [] L (.t1 Z) Z (Lr D) fun _ hS2=>?_;refine ⟨?_,Z⟩;have h21:k=21:=by omega
 simp [qbP,qg6, *];done):p:=h
def qsb(k x y:Int)(hk:k=1∨(14≤k∧k≤21)):AC prog D 201 [.int .i64 k,.int .u32 x,.int .u32 y] L s fun v L' _=>v=.bool (qg6 k x y)∧L=L':=by
 refine qad (fn:=f201) qao func201 V Z ntmps201 Z (rs:=[.tmp 6]) Z [(0,_),(1,_),(2,_)] Z<|J18 ?_ ?_<;>intro c1;·refine G10 ?_;exact rY Z fun _ hS2=>qqQ
 refine J6 ?_ ?_<;>intro c2;·refine G11 ?_;exact rY Z fun _ hS2=>qqQ
 refine J6 ?_ ?_<;>intro c3;·refine G11 ?_;exact rY Z fun _ hS2=>qqQ
 refine J6 ?_ ?_<;>intro c4;·refine G11 ?_;exact rY Z fun _ hS2=>qqQ
 refine J6 ?_ ?_<;>intro c5;·refine G4 ?_;refine qwQ Z Z Z<|G6 ?_;exact rY Z fun _ hS2=>qqQ
 refine J6 ?_ ?_<;>intro c6;·refine G11 ?_;exact rY Z fun _ hS2=>qqQ
 refine J6 ?_ ?_<;>intro c7;·refine G4 ?_;refine qi6 Z Z Z<|G6 ?_;exact rY Z fun _ hS2=>qqQ
 refine J6 ?_ ?_<;>intro c8
 ·refine G5 ?_;refine qbg (t:=46) Z ?_ ?_<;>intro c9;·refine G11 ?_;exact rY Z fun _ hS2=>qqQ
  refine G9 ?_;exact rY Z fun _ hS2=>qqQ
 refine G8 ?_;refine qbg (t:=52) Z ?_ ?_<;>intro c9;·refine G7 ?_;exact qAR
 refine G9 ?_;exact qAR
def qqM{p:Prop} (h:p:=by
 refine ⟨?_,Z⟩;have hk1:¬ (14≤k∨k=1):=by omega
 simp only [qbP,opP];rw [if_neg hk1];simp [qqK, *];done):p:=h
def qld(k:Int)(x y:Int)(hx:U32 x)(hy:U32 y)(hk:2≤k∧k≤13)(hz:k=5∨k=6→y≠0):AC prog D 202 [.int .i64 k,.int .u32 x,.int .u32 y] L s fun v L' _=>v=.int .u32 (opP k x y)∧L=L':=by
 refine qad (fn:=f202) qao func202 V Z ntmps202 Z (rs:=[.tmp 6]) Z [(0,_),(1,_),(2,_)] Z<|J18 ?_ ?_<;>intro c1;·refine Sr<|Zqm Z Z<|qae (qBn Z) Z<|G6 ?_;exact rY Z fun _ hS2=>qqM
 refine J6 ?_ ?_<;>intro c2;·refine Sr<|Zqm Z Z<|qae (qwA Z hx) Z<|G6 ?_;exact rY Z fun _ hS2=>qqM
 refine J6 ?_ ?_<;>intro c3;·refine G4 ?_;refine qae (qnS Z Z) Z<|G6 ?_;exact rY Z fun _ hS2=>qqM
 refine J6 ?_ ?_<;>intro c4
 ·refine G4 ?_;refine qae (qva Z Z (hz (.inl As))) Z<|G6 ?_;refine rR [] L (.t1 Z) Z (Lr D) fun _ hS2=>?_;refine ⟨?_,Z⟩;have hk1:¬ (14≤k∨k=1):=by omega
  simp only [qbP,opP];rw [if_neg hk1];have h5:k=5:=by assumption
  simp [h5,qqK,divW hx hy];done
 refine J6 ?_ ?_<;>intro c5
 ·refine G4 ?_;refine qae (qvb Z Z (hz (.inr As))) Z<|G6 ?_;refine rR [] L (.t1 Z) Z (Lr D) fun _ hS2=>?_;refine ⟨?_,Z⟩;have hk1:¬ (14≤k∨k=1):=by omega
  simp only [qbP,opP];rw [if_neg hk1];have h6:k=6:=by assumption
  simp [h6,modW hx];done
 refine J6 ?_ ?_<;>intro c6;·refine G4 ?_;refine qae (qeL Z Z qj3 (qkl hx hy)) Z<|G6 ?_;exact rY Z fun _ hS2=>qqM
 refine J6 ?_ ?_<;>intro c7;·refine G4 ?_;refine qae (qeL Z Z qj4 (qkm hx hy)) Z<|G6 ?_;exact rY Z fun _ hS2=>qqM
 refine J6 ?_ ?_<;>intro c8;·refine G4 ?_;refine qae (qeL Z Z qj2 (qkd hx hy)) Z<|G6 ?_;exact rY Z fun _ hS2=>qqM
 refine J6 ?_ ?_<;>intro c9;·refine G4 ?_;refine qae (qlu Z Z) Z<|G6 ?_;exact rY Z fun _ hS2=>qqM
 refine J6 ?_ ?_<;>intro c10;·refine G4 ?_;refine qae (qly Z Z) Z<|G6 ?_;exact rY Z fun _ hS2=>qqM
 refine J6 ?_ ?_<;>intro c11;·refine G4 ?_;refine qae (qeL Z Z qmf (qmo hx hy)) Z<|G6 ?_;exact rY Z fun _ hS2=>qqM
 refine G7 ?_;refine qae (qeL Z Z qj5 (qhi hx hy)) Z<|G4 ?_;exact rY Z fun _ hS2=>qqM
def qA1{p:Prop} (h:p:=by
 refine G4 ?_;refine qaf (MidB.mk (Lr D) Sb Z ((decide_eq_true O).symm))):p:=h
def Ez90{p:Prop} (h:p:=by
 refine rR [_] L (.tmp Z (.agg (us:=[_,_]) 0 Z Z Z Z Z (.nil))) Z (h1.t h2|>.t h5|>.t h9|>.t h12) fun _ hS2=>?_;refine ⟨?_,Z⟩;rw [hE];rw [hO];rfl):p:=h
def qc6(k:Int)(x y:Int)(hx:U32 x)(hy:U32 y):AC prog D 164 [.int .i64 k,.int .u32 x,.int .u32 y] L s fun v L' _=>v=.tuple #[.int .u32 (if (qhd k y).1=0 then opP k x y else 0),.agg #[.int .i64 (qhd k y).1,.int .i64 (qhd k y).2]]∧L=L':=by
 refine qad (fn:=f164) qao func164 V Z ntmps164 Z (rs:=[.tmp 6,.cell 7 30]) Z [(0,_),(1,_),(2,_)] Z<|Sr<|Zqa Z Z<|qac Z [_,_] Z Z fun β1 s1 h1=>G4 ?_;refine qbA 8 (k < 1∨21 < k) ?_ ?_
 ·refine G4 ?_;refine qap (t:=11) Z ?_ ?_<;>intro c3;·refine G5 ?_;exact qqV
  refine G7 ?_;refine qaf (MidB.mk (Lr D) Sb Z (decide_eq_decide.2 O))
 intro s2 h2;refine qaa Z ?_ ?_<;>intro c4;·have hE:qhd k y=(4,-1):=if_pos c4;refine Sr<|Je Z Z Z (qde D _ _ _ _) fun s5 h5=>Zqa Z Z<|Wt 0 [_,_] Y9<|G5 ?_;refine rR [_] L (.tmp Z (.agg (us:=[_,_]) 0 Z Z Z Z Z (.nil))) Z (h1.t h2|>.t h5) fun _ hS2=>?_;refine ⟨?_,Z⟩;rw [hE];rfl
 have g8:=c4;refine qbA 16 ((k=5∨k=6)∧y=0) ?_ ?_
 ·refine G4 ?_;refine qap (t:=19) Z ?_ ?_<;>intro c6;·refine G11 ?_;refine qaf (MidB.mk (Lr D) Sb Z (decide_eq_decide.2 O))
  refine G6 ?_;refine qap (t:=23) Z ?_ ?_<;>intro c7;·refine G7 ?_;refine qaf (MidB.mk (Lr D) Sb Z (decide_eq_decide.2 O))
  refine G5 ?_;exact qwj
 intro s5 h5;refine qaa Z ?_ ?_<;>intro c8;·have hE:qhd k y=(26,-3):=(if_neg g8).trans (if_pos c8);refine Sr<|Je Z Z Z (qde D _ _ _ _) fun s9 h9=>Zqa Z Z<|Wt 0 [_,_] Y9<|G5 ?_;refine rR [_] L (.tmp Z (.agg (us:=[_,_]) 0 Z Z Z Z Z (.nil))) Z (h1.t h2|>.t h5|>.t h9) fun _ hS2=>?_;refine ⟨?_,Z⟩;rw [hE];rfl
 have g16:=c8;have hE:qhd k y=(0,0):=(if_neg g8).trans (if_neg g16);refine G4 ?_;refine qbA 33 (14≤k∨k=1) ?_ ?_
 ·refine Zr<|Zqm Z Z<|qi6 Z Z Z<|Zqm Z Z<|?_;refine qap (t:=30) Z ?_ ?_<;>intro c10;·exact qA1
  refine G6 ?_;refine qaf (MidB.mk (Lr D) Sb Z (decide_eq_decide.2 O))
 intro s9 h9;refine qaa Z ?_ ?_<;>intro c11
 ·have g33:=c11;refine G6 ?_;refine Je Z Z Z (qsb D _ _ k x y O) fun s12 h12=>G2 ?_;refine qd1 Z ?_ ?_<;>intro c13
  ·have hO:opP k x y=1:=by rw [opP,if_pos g33,if_pos c13]
   refine Sr<|qae (qai [] [_,_] Z Z Z Z Z Z) Z<|Zqa Z Z<|Wt 0 [_,_] Y9<|G5 ?_;exact Ez90
  have hO:opP k x y=0:=by rw [opP,if_pos g33,if_neg (by rw [c13];decide)]
  refine Zk<|Zt<|Sr<|qae (qai [] [_,_] Z Z Z Z Z Z) Z<|Zqa Z Z<|Wt 0 [_,_] Y9<|G4 ?_;exact Ez90
 have g33:=c11;refine G7 ?_;refine Je Z Z Z (qld D _ _ k x y hx hy O (fun h h0=>g16 ⟨h,h0⟩)) fun s12 h12=>qae (qai [] [_,_] Z Z Z Z Z Z) Z<|Zqa Z Z<|Wt 0 [_,_] Y9<|G3 ?_;refine rR [_] L (.tmp Z (.agg (us:=[_,_]) 0 Z Z Z Z Z (.nil))) Z (h1.t h2|>.t h5|>.t h9|>.t h12) fun _ hS2=>?_;refine ⟨?_,Z⟩;rw [hE];rfl
end Go.Proofs.YtlfiplbamnpgoaaGreatDoor
namespace Go.Proofs.YtlfiplbamnpgoaaGreatDoor
open Go Go.FL
variable{p:Prg}{k:Nat}{nm:Str}{f:Fnc}
def OPp(op x y:Int):Option Int:=if (qhd op y).1=0 then some (opP op x y) else none
open Go.FL
attribute [local irreducible] JC JO JA JB qaJ qax qbN AC fill CellsAt QE Ev Mid
def qCj(hu:prU p)(h:(qdC p).1=0):qdC p=(0,0):=(OKP.of hu h).2
def qg8{α:Type}{q:α→Bool}:∀ {l:List α} {k j:Nat},qaN q l k=(j:Int)→k≤j∧∃ y,l[j - k]?=some y∧q y=true
  | [],k,j,h=>by rw [qaN] at h;omega
  | y::r,k,j,h=>by
    rw [qaN] at h;split at h
    · rename_i h1
      have:j=k:=by omega
      subst this;exact ⟨Nat.le_refl _,y,by simp,h1⟩
    · obtain ⟨h2,z,h3,h4⟩:=qg8 h
      exact ⟨by omega,z,by rw [show j - k=(j - (k+1))+1 by omega];simpa using h3,h4⟩
def quT(a:Int):U32 (w32 a):=by unfold w32;exact ⟨by omega,by omega⟩
def qbX{α:Type}{l:List α}{x:α}(h:l[k]?=some x):l.take (k+1)=l.take k++[x]:=by
 obtain ⟨hk,rfl⟩:=List.getElem?_eq_some_iff.1 h;exact List.take_succ_eq_append_getElem hk
def qmu{x:Stm}:∀ {l:List Stm} {k:Nat},l[k]?=some x→qcs x.exprs+qbG x.body+qbG x.els+k+1≤qbG l
 | [],k,h=>by cases h
 | .mk a b c d e::r,0,h=>by
  simp at h;subst h;rw [qbG,stN];simp only [Stm.exprs,Stm.body,Stm.els];omega
 | .mk a b c d e::r,k+1,h=>by
  have:=qmu (l:=r) (k:=k) Q4;rw [qbG,stN];omega
def qiW:∀ l:List Stm,l.length≤qbG l
 | []=>Nat.le_refl _
 | .mk a b c d e::r=>by have:=qiW r;rw [qbG,stN,List.length_cons];omega
def qhN{α β:Type}{R:α→β→Prop}{l:List α}{m:List β}{a:α}{b:β}(h:All2 R l m)(h1:R a b):All2 R (l++[a]) (m++[b]):=by
 induction h with
 | nil=>exact .cons h1 .nil
 | cons k _ ih=>exact .cons k ih
def qed{β:Type}:∀ {l:List (Str×β)} {i:Nat} {e:Str×β},(l.map (·.1)).Nodup→l[i]?=some e→l.find? (fun y=>decide (y.1=e.1))=some e
 | [],i,e,_,h=>by cases h
 | y::l,0,e,_,h=>by simp at h;subst h;simp
 | y::l,i+1,e,hn,h=>by
  rw [List.map_cons,List.nodup_cons] at hn;have h1:l[i]?=some e:=by simpa using h
  have hne:¬ y.1=e.1:=fun e2=>hn.1 (e2▸List.mem_map.2 ⟨e,List.mem_of_getElem? h1,rfl⟩);rw [List.find?_cons_of_neg (by simpa using hne)];exact qed hn.2 h1
def qyk(h:qcf p=(0,0)):∃ (mi:Nat) (x:Fnc),qcQ p.funcs=(mi:Int)∧p.funcs[mi]?=some x∧((ents p).find? fun e=>decide (e.1=qbI))=some (qbI,((4:Int),(mi:Int))):=by
 have hnd:=(qhb (p:=p) (by rw [h])).1;have h0:¬ qcQ p.funcs < 0:=by
  intro hlt;rw [qcf] at h;split at h
  · rename_i h1;exact h1 (by rw [h])
  split at h
  · rename_i h1;exact h1 (by rw [h])
  first
   | (rw [if_pos hlt] at h;cases h)
   | cases h
 obtain ⟨mi,hmi⟩:=Int.eq_ofNat_of_zero_le (show 0≤qcQ p.funcs by omega);obtain ⟨_,x,hx,hq⟩:=qg8 (show qaN (fun x:Fnc=>decide (x.name=qbI)) p.funcs 0=(mi:Int) from hmi);have hnm:x.name=qbI:=by simpa using hq
 have hf:=qed hnd (qhU (p:=p) (k:=mi) (x:=x) (by simpa using hx));rw [hnm] at hf;exact ⟨mi,x,hmi,by simpa using hx,hf⟩
def qvQ{k y:Int}(h:(qhd k y).1=0):qhd k y=(0,0):=by
 unfold qhd at h ⊢;split at h
 · cases h
 rename_i h1;rw [if_neg h1];split at h
 · cases h
 rename_i h2;rw [if_neg h2]
def qpM{k x y:Int}(hx:U32 x)(hy:U32 y):U32 (opP k x y):=by
  have hX:x.toNat < 4294967296:=by have:=hx.2;omega
  have hY:y.toNat < 4294967296:=by have:=hy.2;omega
  rw [opP];by_cases g0:14≤k∨k=1
  · rw [if_pos g0]
    by_cases h:qg6 k x y=true
    · rw [if_pos h];exact ⟨by decide,by decide⟩
    · rw [if_neg h];exact ⟨by decide,by decide⟩
  rw [if_neg g0];by_cases g2:k=2
  · rw [if_pos g2];exact quT _
  rw [if_neg g2];by_cases g3:k=3
  · rw [if_pos g3];have:=hx.1;have:=hx.2;exact ⟨by omega,by omega⟩
  rw [if_neg g3];by_cases g4:k=4
  · rw [if_pos g4];exact quT _
  rw [if_neg g4];by_cases g5:k=5
  · rw [if_pos g5];exact ⟨Int.ediv_nonneg hx.1 hy.1,Int.lt_of_le_of_lt (Int.ediv_le_self _ hx.1) hx.2⟩
  rw [if_neg g5];by_cases g6:k=6
  · rw [if_pos g6]
    rcases Int.lt_or_eq_of_le hy.1 with h5|h5
    · exact ⟨Int.emod_nonneg _ O,Int.lt_trans (Int.emod_lt_of_pos _ h5) hy.2⟩
    · rw [← h5,Int.emod_zero];exact hx
  rw [if_neg g6];by_cases g7:k=7
  · rw [if_pos g7]
    have:=Nat.mod_lt (x.toNat <<< y.toNat) (show 0 < 4294967296 by omega);exact ⟨Int.natCast_nonneg _,by omega⟩
  rw [if_neg g7];by_cases g8:k=8
  · rw [if_pos g8]
    have:x.toNat >>> y.toNat≤x.toNat:=Nat.shiftRight_le _ _;exact ⟨Int.natCast_nonneg _,by omega⟩
  rw [if_neg g8];by_cases g9:k=9
  · rw [if_pos g9]
    have:x.toNat &&& y.toNat≤x.toNat:=Nat.and_le_left;exact ⟨Int.natCast_nonneg _,by omega⟩
  rw [if_neg g9];by_cases g10:k=10
  · rw [if_pos g10];exact quT _
  rw [if_neg g10];by_cases g11:k=11
  · rw [if_pos g11];exact quT _
  rw [if_neg g11];by_cases g12:k=12
  · rw [if_pos g12]
    have:x.toNat ||| y.toNat < 2 ^ 32:=Nat.or_lt_two_pow hX hY
    exact ⟨Int.natCast_nonneg _,by omega⟩
  rw [if_neg g12];have:x.toNat ^^^ y.toNat < 2 ^ 32:=Nat.xor_lt_two_pow hX hY;exact ⟨Int.natCast_nonneg _,by omega⟩
def qgZ{e:Str×(Int×Int)}(h:((ents p).find? fun e=>decide (e.1=nm))=some e):(∃ (i:Nat) (g:Glo),p.globals[i]?=some g∧g.name=nm∧e.2=((3:Int),(i:Int)))∨∃ (i:Nat) (f:Fnc),p.funcs[i]?=some f∧f.name=nm∧e.2=((4:Int),(i:Int)):=by
  have hn:e.1=nm:=by simpa using List.find?_some h
  have hm:=List.mem_of_find?_eq_some h;rw [ents,List.mem_append] at hm;rcases hm with hm|hm
  · obtain ⟨i,hi⟩:=List.getElem?_of_mem hm
    rw [List.getElem?_mapIdx] at hi;cases hg:p.globals[i]? with
    | none=>rw [hg] at hi;cases hi
    | some g=>rw [hg] at hi;simp at hi;subst hi;exact .inl ⟨i,g,hg,hn,rfl⟩
  · obtain ⟨i,hi⟩:=List.getElem?_of_mem hm
    rw [List.getElem?_mapIdx] at hi;cases hg:p.funcs[i]? with
    | none=>rw [hg] at hi;cases hi
    | some g=>rw [hg] at hi;simp at hi;subst hi;exact .inr ⟨i,g,hg,hn,rfl⟩
def qqD{x:Fnc}{u:Use}(h:qeT p x u=0)(hu:u.2.1≠0):(qbn p x u.1).2=true∧qfZ (qqO p (qbn p x u.1).1.2) u.2.1 (qbn p x u.1).1.1∧¬ (u.2.1=4∧u.2.2≠(qEa p (qbn p x u.1).1.2:Int)):=by
 unfold qeT at h;rw [if_neg hu] at h;split at h
 · cases h
 rename_i h1;split at h
 · cases h
 rename_i h2;split at h
 · cases h
 rename_i h3;exact ⟨by simpa using h1,Decidable.not_not.1 h2,h3⟩
def qss{x:Fnc}{nd:Nd}(h:ndC p x nd=0):qeT p x nd.use=0∧∀ q:Prg,qeT q x nd.use=0→ndC q x nd=0:=by
 cases nd with
 | ex y lp=>exact ⟨h,fun q hq=>hq⟩
 | st y lp=>
  rw [ndC] at h;split at h
  · cases h
  rename_i h1;exact ⟨h,fun q hq=>by rw [ndC,if_neg h1];exact hq⟩
def qme{m:Int×Int}{c:Int}(h1:m.1=c)(h2:m.2=(k:Int)):m=(c,(k:Int)):=Prod.ext h1 h2
def qne(h:qcf p=(0,0)):∃ (mi:Nat) (x:Fnc),qcQ p.funcs=(mi:Int)∧p.funcs[mi]?=some x∧x.name=qbI∧x.params=[]:=by
 obtain ⟨mi,x,h1,h2,_⟩:=qyk h;obtain ⟨_,y,hy,hq⟩:=qg8 (show qaN (fun x:Fnc=>decide (x.name=qbI)) p.funcs 0=(mi:Int) from h1);rw [Nat.sub_zero,h2] at hy;obtain rfl:x=y:=by simpa using hy
 refine ⟨mi,x,h1,h2,by simpa using hq,?_⟩;rw [qcf] at h;split at h
 · rename_i h3;rw [h] at h3;exact absurd rfl h3
 split at h
 · rename_i h3;rw [h] at h3;exact absurd rfl h3
 rw [if_neg O,h1,Int.toNat_natCast,h2] at h;simp only at h;split at h
 · assumption
 · cases h
def qoV{c k:Int}(h:(qbn p f nm).1=(c,k))(hc:c=3∨c=4):∃ e,(ents p).find? (fun e=>decide (e.1=nm))=some e∧e.2=(c,k):=by
 unfold qbn at h;split at h
 · injection h with h1 _;omega
 split at h
 · injection h with h1 _;omega
 cases hf:(ents p).find? fun e=>decide (e.1=nm) with
 | none=>rw [hf] at h;injection h with h1 _;omega
 | some e=>rw [hf] at h;exact ⟨e,rfl,h⟩
def qs4{c k:Int}(h:(qbn p f nm).1=(c,k))(hc:c=3∨c=4):¬ 0≤qa0 f nm:=by
 unfold qbn at h;split at h
 · injection h with h1 _;omega
 rename_i k1;split at h
 · injection h with h1 _;omega
 rename_i k2;rw [qa0,if_neg k1,if_neg k2];decide
def qs5(h:(qbn p f nm).1.1=1∨(qbn p f nm).1.1=2):0≤qa0 f nm:=by
 unfold qbn at h;split at h
 · rename_i k1;rw [qa0,if_pos k1];exact k1
 rename_i k1;split at h
 · rename_i k2;rw [qa0,if_neg k1,if_pos k2];omega
 cases hf:(ents p).find? fun e=>decide (e.1=nm) with
 | none=>rw [hf] at h;rcases h with h|h<;>cases h
 | some e=>
  rw [hf] at h;simp only at h;rcases qgZ hf with ⟨i,g,_,_,hc⟩|⟨i,g,_,_,hc⟩<;>(rw [hc] at h;rcases h with h|h<;>cases h)
def qx3(hnd:((ents p).map (·.1)).Nodup)(h:(qbn p f nm).1=((3:Int),(k:Int))):qdJ p nm=(k:Int)∧k < p.globals.length:=by
  obtain ⟨e,he,h2⟩:=qoV h (.inl rfl);rcases qgZ he with ⟨i,g,a,b,c⟩|⟨i,g,a,b,c⟩
  · rw [h2] at c
    injection c with _ c;obtain rfl:k=i:=by omega
    obtain ⟨hl,rfl⟩:=List.getElem?_eq_some_iff.1 a;refine ⟨?_,hl⟩;have:=qee (p:=fun g:Glo=>decide (g.name=nm)) (l:=p.globals) (k:=k) (j:=0) (a:=p.globals[k]) (fun j y hj hy=>by
      cases hq:decide (y.name=nm) with
      | false=>rfl
      | true=>
        exfalso;have hq:y.name=nm:=by simpa using hq
        have q1:=qed hnd (qoP hy);have q2:=qed hnd (qoP a);simp only [hq,b] at q1 q2;rw [q1] at q2;simp at q2;omega) a (by simpa using b)
    rw [qdJ,this];simp
  · rw [h2] at c;cases c
def qxx(hnd:((ents p).map (·.1)).Nodup)(h:(qbn p f nm).1=((4:Int),(k:Int))):qiv p nm=(k:Int)∧k < p.funcs.length:=by
  obtain ⟨e,he,h2⟩:=qoV h (.inr rfl);rcases qgZ he with ⟨i,g,a,b,c⟩|⟨i,g,a,b,c⟩
  · rw [h2] at c;cases c
  · rw [h2] at c
    injection c with _ c;obtain rfl:k=i:=by omega
    obtain ⟨hl,rfl⟩:=List.getElem?_eq_some_iff.1 a;refine ⟨?_,hl⟩;have:=qee (p:=fun g:Fnc=>decide (g.name=nm)) (l:=p.funcs) (k:=k) (j:=0) (a:=p.funcs[k]) (fun j y hj hy=>by
      cases hq:decide (y.name=nm) with
      | false=>rfl
      | true=>
        exfalso;have hq:y.name=nm:=by simpa using hq
        have q1:=qed hnd (qhU hy);have q2:=qed hnd (qhU a);simp only [hq,b] at q1 q2;rw [q1] at q2;simp at q2;omega) a (by simpa using b)
    rw [qiv,this];simp
def qiK{x:Ex}{lp:Nat}{nd:Nd}:∀ {l:List Ex},x∈l→nd∈ndX x lp→nd∈qfI l lp
 | [],h,_=>by cases h
 | y::r,h,hn=>by
  rw [qfI];rcases List.mem_cons.1 h with rfl|h
  · exact List.mem_append_left _ hn
  · exact List.mem_append_right _ (qiK h hn)
def qgz{x:Stm}{lp:Nat}{nd:Nd}:∀ {l:List Stm},x∈l→nd∈ndS x lp→nd∈qdf l lp
 | [],h,_=>by cases h
 | y::r,h,hn=>by
  rw [qdf];rcases List.mem_cons.1 h with rfl|h
  · exact List.mem_append_left _ hn
  · exact List.mem_append_right _ (qgz h hn)
end Go.Proofs.YtlfiplbamnpgoaaGreatDoor
namespace Go.FL
open Go Go.RowKit
variable{R R':Value→Hl→World→Prop}{X X' Zq9:List PanicEntry→Hl→World→Prop}{ch:List PanicEntry}
section
variable{P:Program}{TT:qaM}{D n:Nat}{Q:qbs}{fr:Fr}{L K:Hl}{s s0:World}{ops:Array Oper}{rest:List Oper}{d ty:Nat}{pos:String}{af:Array Edge}{v:Value}{g:Option (Nat×Bool)}{fuel:Nat}{listed:Array Bool}
def AP(P:Program)(D:Nat)(f:FuncId)(args:List Value)(L:Hl)(s:World)(R:Value→Hl→World→Prop)(X:List PanicEntry→Hl→World→Prop):Prop:=
 qil P f∧(OKL D L s→Calls P f args.toArray (fill L s) fun e w'=>∃ L' s',w'=fill L' s'∧OKL D L' s'∧Le D s s'∧((∃ v,e=.returned v∧R v L' s')∨∃ ch,e=.panicked ch∧X ch L' s'))
def AP.mono{f:FuncId}{args:List Value}(h:AP P D f args L s R X)(hr:∀ v L' s',Le D s s'→R v L' s'→R' v L' s')(hx:∀ ch L' s',Le D s s'→X ch L' s'→X' ch L' s'):AP P D f args L s R' X':=
 ⟨h.1,fun ho=>(h.2 ho).mono fun _ _ ⟨L',s',h2,h3,h4,h5⟩=>⟨L',s',h2,h3,h4,h5.imp (fun ⟨v,a,b⟩=>⟨v,a,hr _ _ _ h4 b⟩) fun ⟨ch,a,b⟩=>⟨ch,a,hx _ _ _ h4 b⟩⟩⟩
def qbb{f:FuncId}{x:Operand}{xs:List Operand}{first captured vs:List Value}{ts:Array TypeId}{R:Value→Hl→World→Prop}{X:List PanicEntry→Hl→World→Prop}(hx:lk fr x=some (.func (.func f) first.toArray captured.toArray))(hv:lks fr xs=some vs)
  (hd:Nat.blt d n=true) (h:AP P D f (first++vs++captured) L s R X) (kx:∀ ch L' s',Le D s s'→X ch L' s'→∀ fr',Q (.panic ch) fr' L' s') (k:∀ v L' s',Le D s s'→R v L' s'→JO P TT D n ops Q rest ((d,v)::fr) L' s') :
  JO P TT D n ops Q (⟨some d,.call { callee:=.value x,args:=xs.toArray,argTypes:=ts },ty,pos,af,none⟩::rest) fr L s:=fun hT a hr ho=>by
 obtain ⟨⟨fn,h1,h2,h3⟩,hc⟩:=h;have hρ:∀ x v,lk fr x=some v→a.eval x=v:=fun x v hx=>hr.ev hx;simp only [wpList,Region.wanted,if_true];refine .inl ?_;have hrun:(execOp a.eval ⟨some d,.call { callee:=.value x,args:=xs.toArray,argTypes:=ts },ty,pos,af,none⟩).run P (fill L s)=.ok (.enter f (first++vs++captured).toArray) (fill L s):=by
  exact qwl
 simp only [Oper.wp,hrun,Oper.upon];refine (hc ho).mono ?_;rintro e w' ⟨L',s',rfl,h4,h5,h6⟩;rcases h6 with ⟨v,rfl,h6⟩|⟨ch,rfl,h6⟩
 · exact k v L' s' h5 h6 hT _ (hr.put hd v) h4
 · exact ⟨fr,L',s',hr,h4,rfl,kx _ _ _ h5 h6 fr⟩
def qbV{i:Nat}{f:FuncId}{x:Operand}{xs:List Operand}{first captured vs:List Value}{ts:Array TypeId}{R:Value→Hl→World→Prop}{X:List PanicEntry→Hl→World→Prop}(hi:ops[i]?=some ⟨some d,.call { callee:=.value x,args:=xs.toArray,argTypes:=ts },ty,pos,af,g⟩)(hg:GOK ops fr g)
    (hx:lk fr x=some (.func (.func f) first.toArray captured.toArray)) (hv:lks fr xs=some vs) (hd:Nat.blt d n=true) (h:AP P D f (first++vs++captured) L s R X) (kx:∀ ch L' s',Le D s s'→X ch L' s'→∀ fr',Q (.panic ch) fr' L' s')
    (k:∀ v L' s',Le D s s'→R v L' s'→(∀ x∈K,x∈L→x∈L')∧JA P TT D n ops Q K s0 fuel (listed.setIfInBounds i true) ((d,v)::fr) L' s') :
    JB P TT D n ops Q K s0 fuel listed i fr L s:=fun hT a hf ho hl hK=>by
  obtain ⟨⟨fn,h1,h2,h3⟩,hc⟩:=h;have hρ:∀ x v,lk fr x=some v→a.eval x=v:=fun x v hx=>hf.ev hx;simp only [wpOp,hi,hg.wanted hf,if_true];refine .inl ?_;have hrun:(execOp a.eval ⟨some d,.call { callee:=.value x,args:=xs.toArray,argTypes:=ts },ty,pos,af,g⟩).run P (fill L s)=.ok (.enter f (first++vs++captured).toArray) (fill L s):=by
    exact qwl
  simp only [Oper.wp,hrun,Oper.upon];refine (hc ho).mono ?_;rintro e w' ⟨L',s',rfl,h4,h5,h6⟩;rcases h6 with ⟨v,rfl,h6⟩|⟨ch,rfl,h6⟩
  · obtain ⟨k1,k2⟩:=k v L' s' h5 h6
    exact Ez92
  · exact ⟨hf.bare,L',s',h4,rfl,kx _ _ _ h5 h6⟩
def AP.mid{f:FuncId}{args:List Value}(X M Y:Hl)(h:AP P D f args (M++(X++Y)) s (fun v L' s'=>∃ M',L'=M'++(X++Y)∧R v M' s') fun ch L' s'=>∃ M',L'=M'++(X++Y)∧Zq9 ch M' s'):
  AP P D f args (X++(M++Y)) s (fun v L' s'=>∃ M',L'=X++(M'++Y)∧R v M' s') fun ch L' s'=>∃ M',L'=X++(M'++Y)∧Zq9 ch M' s':=by
 have hp:∀ M':Hl,(X++(M'++Y)).Perm (M'++(X++Y)):=fun M'=>by
  exact qqT
 refine ⟨h.1,fun ho=>?_⟩;rw [qa5 (hp M) _ ho];refine (h.2 (ho.perm (hp M))).mono ?_;rintro e w' ⟨L',s',rfl,h3,h4,h5⟩;rcases h5 with ⟨v,h1,M',rfl,h6⟩|⟨ch,h1,M',rfl,h6⟩
 · exact ⟨X++(M'++Y),s',(qa5 (hp M').symm _ h3),h3.perm (hp M').symm,h4,.inl ⟨v,h1,M',rfl,h6⟩⟩
 · exact ⟨X++(M'++Y),s',(qa5 (hp M').symm _ h3),h3.perm (hp M').symm,h4,.inr ⟨ch,h1,M',rfl,h6⟩⟩
def qnN{K:Hl}{t:Nat}(hu:P.underlying t=some (.struct #[]))(hz:(P.info? t).bind (fun i=>i.zero)=some (Value.agg #[])):QE P TT D fr (.build t #[]) ty K s0 (.agg #[]):=
 QE.pure fun hT dst pos af g ρ hρ w=>by
  obtain ⟨i,h1,h2⟩:=Option.bind_eq_some_iff.1 hz;simp [execOp,Instr.build,underlying,hu,zeroValue,typeInfo,h1,h2,Instr.fill,Value.cells]
def qu9{K:Hl}{t:Nat}{x:Operand}{v:Value}(hu:P.underlying t=some (.struct #[]))(hx:lk fr x=some v):QE P TT D fr (.makeInterface t x) ty K s0 (.iface t v):=
 QE.pure fun hT dst pos af g ρ hρ w=>by simp [execOp,Instr.makeInterface,underlying,hu,hρ x _ hx]
def qlt{dst:Option Nat}{x:Operand}{t:TypeId}{u:Value}(hx:lk fr x=some (.iface t u))(h:∀ fr',Q (.panic [{ v:=.iface t u,recovered:=false }]) fr' L s):JO P TT D n ops Q (⟨dst,.panic x,ty,pos,af,none⟩::rest) fr L s:=fun hT a hr ho=>by
 simp only [wpList,Region.wanted,if_true];refine .inl ?_;have hrun:(execOp a.eval ⟨dst,.panic x,ty,pos,af,none⟩).run P (fill L s)=.halt (.panic (.iface t u)) (fill L s):=by
  simp [execOp,hr.ev hx,run_panic_iface]
 simp only [Oper.wp,hrun,Oper.upon];exact ⟨fr,L,s,hr,ho,rfl,h fr⟩
def qFG(TT:qaM)(D:Nat)(rs:List ResultVar)(s0:World)(R:Value→Hl→World→Prop)(X:List PanicEntry→Hl→World→Prop):qbs
 | .panic ch,_,L,s=>∃ A L',L.Perm (A++L')∧Le D s0 s∧∀ s',Le D s s'→X ch L' s'
 | e,fr,L,s=>qbN TT D rs s0 R e fr L s
def qaT{rs:List ResultVar}{e:Exit}{vs:List Value}(A L':Hl)(he:e=.normal∨e=.ret)(h:Res TT fr L rs vs)(hL:L=A++L')(hl:Le D s0 s)(hR:∀ s',Le D s s'→R (qbP vs) L' s'):qFG TT D rs s0 R X e fr L s:=by
 rcases he with rfl|rfl
 · exact qas A L' (.inl rfl) h hL hl hR
 · exact qas A L' (.inr rfl) h hL hl hR
def qbZ{rs:List ResultVar}(A L':Hl)(hL:L.Perm (A++L'))(hl:Le D s0 s)(hX:∀ s',Le D s s'→X ch L' s'):qFG TT D rs s0 R X (.panic ch) fr L s:=⟨A,L',hL,hl,hX⟩
def qbC{J:Fr→Hl→World→Prop}(h:Q (.panic ch) fr L s):qaJ J Q (.panic ch) fr L s:=h
def qbh{id:Nat}(h:Q (.panic ch) fr L s):qax id Q (.panic ch) fr L s:=h
def qaZ{f:FuncId}{fn:Func}{c:Code}{args:List Value}{R:Value→Hl→World→Prop}{X:List PanicEntry→Hl→World→Prop}(hT:TabOK P TT)(hf:P.funcs[f]?=some fn)(hn:(fn.name == "runtime.NumGoroutine")=false)(hb:fn.body=some c)(hnt:fn.ntmps=n)(hle:Nat.ble args.length n=true){rs:List ResultVar}(hrs:fn.results.toList=rs)(fr0:Fr)(hfr:slots 0 args=fr0)
  (h:JC P TT D n (qFG TT D rs s R X) c fr0 L s):AP P D f args L s R X:=by
 subst hfr;subst hrs;refine ⟨⟨fn,hf,hn,by simp [hb]⟩,fun ho=>calls_of_wp hf hb ?_⟩;have hle':args.length≤n:=Nat.le_of_ble_eq_true hle;have hr:FrRel n { tmps:=args.toArray++Array.replicate (fn.ntmps - args.toArray.size) undef,defers:=[] } (slots 0 args):=by
  exact qEq
 refine wp_mono (h hT _ hr ho) ?_;rintro e a w ⟨fr',L1,s1,k1,k2,rfl,hq⟩;have good:∀ {e:Exit},qbN TT D fn.results.toList s R e fr' L1 s1→bodyPost P fn (fun e w'=>∃ L' s',w'=fill L' s'∧OKL D L' s'∧Le D s s'∧((∃ v,e=.returned v∧R v L' s')∨∃ ch,e=.panicked ch∧X ch L' s')) e a (fill L1 s1):=by
  rintro e ⟨he,vs,A,L',hres,rfl,hle1,hR⟩;obtain ⟨d1,d2,d3⟩:=qbp k2;have hrun:(results fn a.tmps).run P (fill (A++L') s1)=.ok (qbP vs) (fill (A++L') s1):=by
   exact Ez25
  have hpost:∃ v,(results fn a.tmps).run P (fill (A++L') s1)=.ok v (fill (A++L') s1)∧∃ L'_1 s',fill (A++L') s1=fill L'_1 s'∧OKL D L'_1 s'∧Le D s s'∧((∃ v_1,Ending.returned v=.returned v_1∧R v_1 L'_1 s')∨∃ ch,Ending.returned v=.panicked ch∧X ch L'_1 s'):=
   ⟨_,hrun,L',fill A s1,d1,d2,hle1.trans d3,.inl ⟨_,rfl,hR _ d3⟩⟩
  rcases he with rfl|rfl
  · exact ⟨k1.defers,hpost⟩
  · exact ⟨k1.defers,hpost⟩
 cases e with
 | panic ch=>
  obtain ⟨A,L',hp,hle1,hX⟩:=hq;obtain ⟨d1,d2,d3⟩:=qbp (k2.perm hp);rw [qa5 hp _ k2];exact ⟨k1.defers,L',fill A s1,d1,d2,hle1.trans d3,.inr ⟨ch,rfl,hX _ d3⟩⟩
 | _=>exact good hq
end
end Go.FL
namespace Go.Proofs.YtlfiplbamnpgoaaGreatDoor
open Go Go.FL
variable{l:List Int}{i v st cd:Int}{D d n k N b:Nat}{p:Prg}{Vq9 E:World→Ex→List Value→Prop}{s s':World}{nm:Str}{w iv ov:Value}{f:Fnc}{x:Ex}{A:Option Addr}{m:MS}{R:Hl}{α:Type}{S:Sem}
def qmh(h0:0≤i)(h:i < l.length):nth (wv l) (0+i.toNat)=some (.int .u32 (l.getD i.toNat 0)):=by
 have hl:i.toNat < l.length:=by omega
 rw [Nat.zero_add,qdK,List.getD_eq_getElem?_getD];simp [wv,hl]
def qks(v:Int)(h0:0≤i)(h:i < l.length):qbx (wv l) (0+i.toNat) [.int .u32 v]=wv (l.set i.toNat v):=by
 have hl:i.toNat < l.length:=by omega
 rw [Nat.zero_add,qdl _ _ _ (by simp [wv];omega)];simp only [wv,List.map_set];rw [List.set_eq_take_append_cons_drop];simp [hl]
def qjw(h0:0≤i)(h:i < l.length):Nat.ble (0+i.toNat+1) (wv l).length=true:=by
 rw [Nat.ble_eq];simp [wv];omega
def w64y{a:Int}(h1:0≤a)(h2:a < 18446744073709551616):IntKind.u64.wrap a=a:=by simp [IntKind.wrap,IntKind.bits,IntKind.signed];omega
def u8w{x:Int}(h:U32 x):IntKind.u8.wrap x=((UInt8.ofNat x.toNat).toNat:Int):=by
 obtain ⟨h1,h2⟩:=h;rw [IntKind.wrap_u8];simp [UInt8.toNat_ofNat'];omega
open Go.FL
attribute [local irreducible] JC JO JA JB qaJ qax qbN AC fill CellsAt QE Ev Mid
def CallV(p:Prg)(Vq9:World→Ex→List Value→Prop)(s:World)(nm:Str)(args:List Ex)(w:Value):Prop:=∃ be bi A n c k fk,w=.func (.func 126) #[] #[.pointer (some ⟨be,0,none⟩),.pointer (some ⟨bi,0,none⟩)]∧CellsAt s be 0 [.slice A n c]∧CellsAt s bi 0 [.int .i64 ((k:Nat):Int)]∧Sl 1 Vq9 s A n c args∧qiv p nm=(k:Int)∧p.funcs[k]?=some fk∧args.length=fk.params.length
inductive ViE(p:Prg)(f:Fnc)(Vq9:World→Ex→List Value→Prop)(s:World)(x:Ex):Value→Prop
 | num (b:Nat) (A1:Option Addr) (n1 c1:Nat) (hk:x.kind=1) (hc:CellsAt s b 0 [.int .i64 x.kind,.int .i64 x.op,.int .u32 x.num,St x.name,.slice A1 n1 c1]) (hu:U32 x.num):ViE p f Vq9 s x (.func (.func 159) #[] #[.pointer (some ⟨b,0,none⟩)])
 | slot (b:Nat) (hk:x.kind=2) (h0:0≤qa0 f x.name) (hl:qa0 f x.name < ((f.params.length+f.locals.length:Nat):Int)) (hc:CellsAt s b 0 [.int .i64 (qa0 f x.name)]):ViE p f Vq9 s x (.func (.func 198) #[] #[.pointer (some ⟨b,0,none⟩)])
 | con (b k:Nat) (g:Glo) (A n c) (hk:x.kind=2) (hs:¬ 0≤qa0 f x.name) (hg:qdJ p x.name=(k:Int)) (hp:p.globals[k]?=some g) (h1:g.kind=1) (hc:CellsAt s b 0 [.int .i64 g.kind,St g.name,.int .u32 g.num,.slice A n c]) (hu:U32 g.num):ViE p f Vq9 s x (.func (.func 199) #[] #[.pointer (some ⟨b,0,none⟩)])
 | var (b k:Nat) (g:Glo) (hk:x.kind=2) (hs:¬ 0≤qa0 f x.name) (hg:qdJ p x.name=(k:Int)) (hp:p.globals[k]?=some g) (h1:¬ g.kind=1) (hc:CellsAt s b 0 [.int .i64 (k:Int)]):ViE p f Vq9 s x (.func (.func 200) #[] #[.pointer (some ⟨b,0,none⟩)])
 | idx (b1 b2 k:Nat) (g:Glo) (A n c) (hk:x.kind=3) (hg:qdJ p x.name=(k:Int)) (hp:p.globals[k]?=some g) (h3:g.kind=3) (h1:CellsAt s b1 0 [.int .i64 (k:Int)]) (h2:CellsAt s b2 0 [.slice A n c]) (hA:Sl 1 Vq9 s A n c x.args) (hn:0 < n):ViE p f Vq9 s x (.func (.func 161) #[] #[.pointer (some ⟨b1,0,none⟩),.pointer (some ⟨b2,0,none⟩)])
 | call (w:Value) (hk:x.kind=4) (h:CallV p Vq9 s x.name x.args w):ViE p f Vq9 s x w
 | get (hk:x.kind=5):ViE p f Vq9 s x (.func (.func 162) #[] #[])
 | una (b1 b2:Nat) (A1:Option Addr) (n1 c1:Nat) (A n c) (hk:x.kind=6) (h1:CellsAt s b1 0 [.int .i64 x.kind,.int .i64 x.op,.int .u32 x.num,St x.name,.slice A1 n1 c1]) (h2:CellsAt s b2 0 [.slice A n c]) (hA:Sl 1 Vq9 s A n c x.args) (hn:0 < n):ViE p f Vq9 s x (.func (.func 163) #[] #[.pointer (some ⟨b1,0,none⟩),.pointer (some ⟨b2,0,none⟩)])
 | bin (b1 b2 b3:Nat) (v1 v2:Value) (hk:x.kind=7) (h1:CellsAt s b1 0 [v1]) (h2:CellsAt s b2 0 [.int .i64 x.op]) (h3:CellsAt s b3 0 [v2]) (hv1:Vq9 s (qcj x.args 0) [v1]) (hv2:Vq9 s (qcj x.args 1) [v2]) (ho:4≤x.op∧x.op≤21):ViE p f Vq9 s x (.func (.func 203) #[] #[.pointer (some ⟨b1,0,none⟩),.pointer (some ⟨b2,0,none⟩),.pointer (some ⟨b3,0,none⟩)])
def VeR(p:Prg)(f:Fnc):Nat→World→Ex→List Value→Prop
 | 0,_,_,_=>False
 | d+1,s,x,cs=>∃ b w,cs=[.func (.func 119) #[] #[.pointer (some ⟨b,0,none⟩)]]∧CellsAt s b 0 [w]∧ViE p f (VeR p f d) s x w
inductive ViS(p:Prg)(f:Fnc)(E:World→Ex→List Value→Prop)(Vq9:World→Stm→List Value→Prop)(s:World)(x:Stm):Value→Prop
 | setl (b1 b2:Nat) (v:Value) (hk:x.kind=1) (h0:0≤qa0 f x.name) (hl:qa0 f x.name < ((f.params.length+f.locals.length:Nat):Int)) (h1:CellsAt s b1 0 [v]) (h2:CellsAt s b2 0 [.int .i64 (qa0 f x.name)]) (hv:E s (qcj x.exprs 0) [v]):ViS p f E Vq9 s x (.func (.func 121) #[] #[.pointer (some ⟨b1,0,none⟩),.pointer (some ⟨b2,0,none⟩)])
 | setg (b1 b2 k:Nat) (g:Glo) (v:Value) (hk:x.kind=1) (hs:¬ 0≤qa0 f x.name) (hg:qdJ p x.name=(k:Int)) (hp:p.globals[k]?=some g) (hg2:g.kind=2) (h1:CellsAt s b1 0 [v]) (h2:CellsAt s b2 0 [.int .i64 (k:Int)]) (hv:E s (qcj x.exprs 0) [v]):ViS p f E Vq9 s x (.func (.func 122) #[] #[.pointer (some ⟨b1,0,none⟩),.pointer (some ⟨b2,0,none⟩)])
 | store (b1 b2 k:Nat) (g:Glo) (A n c) (hk:x.kind=2) (hg:qdJ p x.name=(k:Int)) (hp:p.globals[k]?=some g) (h3:g.kind=3) (h1:CellsAt s b1 0 [.int .i64 (k:Int)]) (h2:CellsAt s b2 0 [.slice A n c]) (hA:Sl 1 E s A n c x.exprs) (hn:1 < n):ViS p f E Vq9 s x (.func (.func 82) #[] #[.pointer (some ⟨b1,0,none⟩),.pointer (some ⟨b2,0,none⟩)])
 | cond (b1 b2 b3:Nat) (A n c B m e G k i) (hk:x.kind=3) (h1:CellsAt s b1 0 [.slice A n c]) (h2:CellsAt s b2 0 [.slice B m e]) (h3:CellsAt s b3 0 [.slice G k i]) (hA:Sl 1 E s A n c x.exprs) (hn:0 < n) (hB:Sl 1 Vq9 s B m e x.body) (hG:Sl 1 Vq9 s G k i x.els):ViS p f E Vq9 s x (.func (.func 84) #[] #[.pointer (some ⟨b1,0,none⟩),.pointer (some ⟨b2,0,none⟩),.pointer (some ⟨b3,0,none⟩)])
 | loop (b1 b2:Nat) (A n c B m e) (hk:x.kind=4) (h1:CellsAt s b1 0 [.slice A n c]) (h2:CellsAt s b2 0 [.slice B m e]) (hA:Sl 1 E s A n c x.exprs) (hn:0 < n) (hB:Sl 1 Vq9 s B m e x.body):ViS p f E Vq9 s x (.func (.func 86) #[] #[.pointer (some ⟨b1,0,none⟩),.pointer (some ⟨b2,0,none⟩)])
 | call (b1:Nat) (w:Value) (hk:x.kind=5) (h1:CellsAt s b1 0 [w]) (h:CallV p E s x.name x.exprs w):ViS p f E Vq9 s x (.func (.func 88) #[] #[.pointer (some ⟨b1,0,none⟩)])
 | ret (b1:Nat) (A n c) (hk:x.kind=6) (h1:CellsAt s b1 0 [.slice A n c]) (hA:Sl 1 E s A n c x.exprs) (hn:0 < n):ViS p f E Vq9 s x (.func (.func 89) #[] #[.pointer (some ⟨b1,0,none⟩)])
 | put (b1:Nat) (A n c) (hk:x.kind=7) (h1:CellsAt s b1 0 [.slice A n c]) (hA:Sl 1 E s A n c x.exprs) (hn:0 < n):ViS p f E Vq9 s x (.func (.func 90) #[] #[.pointer (some ⟨b1,0,none⟩)])
 | stop (b1:Nat) (A n c) (hk:x.kind=8) (h1:CellsAt s b1 0 [.slice A n c]) (hA:Sl 1 E s A n c x.exprs) (hn:0 < n):ViS p f E Vq9 s x (.func (.func 91) #[] #[.pointer (some ⟨b1,0,none⟩)])
 | brk (hk:x.kind=9):ViS p f E Vq9 s x (.func (.func 92) #[] #[])
 | cont (hk:x.kind=10):ViS p f E Vq9 s x (.func (.func 93) #[] #[])
def VsR(p:Prg)(f:Fnc):Nat→World→Stm→List Value→Prop
 | 0,_,_,_=>False
 | d+1,s,x,cs=>∃ b w,cs=[.func (.func 47) #[] #[.pointer (some ⟨b,0,none⟩)]]∧CellsAt s b 0 [w]∧ViS p f (VeR p f d) (VsR p f d) s x w
def FnV(p:Prg)(s:World)(f:Fnc)(cs:List Value):Prop:=∃ d A n c,cs=[.int .i64 ((f.params.length+f.locals.length:Nat):Int),.slice A n c]∧Sl 1 (VsR p f d) s A n c f.body
def CallV.le{args:List Ex}(hl:Le D s s')(hV:∀ x cs,Vq9 s x cs→Vq9 s' x cs)(h:CallV p Vq9 s nm args w):CallV p Vq9 s' nm args w:=by
 obtain ⟨be,bi,A,n,c,k,fk,h1,h2,h3,h4,h5⟩:=h;exact ⟨be,bi,A,n,c,k,fk,h1,h2.le hl,h3.le hl,Sl.le (fun x cs h=>hV x cs h) h4 hl,h5⟩
def ViE.le(hl:Le D s s')(hV:∀ x cs,Vq9 s x cs→Vq9 s' x cs)(h:ViE p f Vq9 s x w):ViE p f Vq9 s' x w:=by
 have hS:∀ {A n c l},Sl 1 Vq9 s A n c l→Sl 1 Vq9 s' A n c l:=fun h=>Sl.le (fun x cs h=>hV x cs h) h hl;cases h with
 | num b A1 n1 c1 hk hc hu=>exact .num b A1 n1 c1 hk (hc.le hl) hu
 | slot b hk h0 hl' hc=>exact .slot b hk h0 hl' (hc.le hl)
 | con b k g A n c hk hs hg hp h1 hc hu=>exact .con b k g A n c hk hs hg hp h1 (hc.le hl) hu
 | var b k g hk hs hg hp h1 hc=>exact .var b k g hk hs hg hp h1 (hc.le hl)
 | idx b1 b2 k g A n c hk hg hp h3 h1 h2 hA hn=>exact .idx b1 b2 k g A n c hk hg hp h3 (h1.le hl) (h2.le hl) (hS hA) hn
 | call w hk h=>exact .call w hk (h.le hl hV)
 | get hk=>exact .get hk
 | una b1 b2 A1 n1 c1 A n c hk h1 h2 hA hn=>exact .una b1 b2 A1 n1 c1 A n c hk (h1.le hl) (h2.le hl) (hS hA) hn
 | bin b1 b2 b3 v1 v2 hk h1 h2 h3 hv1 hv2 ho=>exact .bin b1 b2 b3 v1 v2 hk (h1.le hl) (h2.le hl) (h3.le hl) (hV _ _ hv1) (hV _ _ hv2) ho
def VeR.le(hl:Le D s s'):∀ {d:Nat} {x:Ex} {cs:List Value},VeR p f d s x cs→VeR p f d s' x cs
 | 0,_,_,h=>h
 | _+1,_,_,⟨b,w,h1,h2,h3⟩=>⟨b,w,h1,h2.le hl,h3.le hl fun _ _ h=>VeR.le hl h⟩
def ViS.le{Vq9:World→Stm→List Value→Prop}{x:Stm}(hl:Le D s s')(hE:∀ x cs,E s x cs→E s' x cs)(hV:∀ x cs,Vq9 s x cs→Vq9 s' x cs)(h:ViS p f E Vq9 s x w):ViS p f E Vq9 s' x w:=by
 have hS:∀ {A n c l},Sl 1 E s A n c l→Sl 1 E s' A n c l:=fun h=>Sl.le (fun x cs h=>hE x cs h) h hl;have hT:∀ {A n c l},Sl 1 Vq9 s A n c l→Sl 1 Vq9 s' A n c l:=fun h=>Sl.le (fun x cs h=>hV x cs h) h hl;cases h with
 | setl b1 b2 v hk h0 hl' h1 h2 hv=>exact .setl b1 b2 v hk h0 hl' (h1.le hl) (h2.le hl) (hE _ _ hv)
 | setg b1 b2 k g v hk hs hg hp hg2 h1 h2 hv=>exact .setg b1 b2 k g v hk hs hg hp hg2 (h1.le hl) (h2.le hl) (hE _ _ hv)
 | store b1 b2 k g A n c hk hg hp h3 h1 h2 hA hn=>exact .store b1 b2 k g A n c hk hg hp h3 (h1.le hl) (h2.le hl) (hS hA) hn
 | cond b1 b2 b3 A n c B m e G k i hk h1 h2 h3 hA hn hB hG=>exact .cond b1 b2 b3 A n c B m e G k i hk (h1.le hl) (h2.le hl) (h3.le hl) (hS hA) hn (hT hB) (hT hG)
 | loop b1 b2 A n c B m e hk h1 h2 hA hn hB=>exact .loop b1 b2 A n c B m e hk (h1.le hl) (h2.le hl) (hS hA) hn (hT hB)
 | call b1 w hk h1 h=>exact .call b1 w hk (h1.le hl) (h.le hl hE)
 | ret b1 A n c hk h1 hA hn=>exact .ret b1 A n c hk (h1.le hl) (hS hA) hn
 | put b1 A n c hk h1 hA hn=>exact .put b1 A n c hk (h1.le hl) (hS hA) hn
 | stop b1 A n c hk h1 hA hn=>exact .stop b1 A n c hk (h1.le hl) (hS hA) hn
 | brk hk=>exact .brk hk
 | cont hk=>exact .cont hk
def VsR.le(hl:Le D s s'):∀ {d:Nat} {x:Stm} {cs:List Value},VsR p f d s x cs→VsR p f d s' x cs
 | 0,_,_,h=>h
 | _+1,_,_,⟨b,w,h1,h2,h3⟩=>⟨b,w,h1,h2.le hl,h3.le hl (fun _ _ h=>VeR.le hl h) fun _ _ h=>VsR.le hl h⟩
def FnV.le(hl:Le D s s'){cs:List Value}(h:FnV p s f cs):FnV p s' f cs:=by
 obtain ⟨d,A,n,c,h1,h2⟩:=h;exact ⟨d,A,n,c,h1,Sl.le (fun _ _ h=>VsR.le hl h) h2 hl⟩
def VeS(p:Prg)(f:Fnc)(d:Nat)(s:World)(A:Option Addr)(n c:Nat)(l:List Ex):Prop:=Sl 1 (VeR p f d) s A n c l
def VsS(p:Prg)(f:Fnc)(d:Nat)(s:World)(A:Option Addr)(n c:Nat)(l:List Stm):Prop:=Sl 1 (VsR p f d) s A n c l
def VeS.le{c:Nat}{l:List Ex}(h:VeS p f d s A n c l)(hl:Le D s s'):VeS p f d s' A n c l:=Sl.le (fun _ _ h=>VeR.le hl h) h hl
def VsS.le{c:Nat}{l:List Stm}(h:VsS p f d s A n c l)(hl:Le D s s'):VsS p f d s' A n c l:=Sl.le (fun _ _ h=>VsR.le hl h) h hl
def qA5{p:Prop} (h:p:=by
 cases d with
 | zero=>exact h.elim
 | succ d=>obtain ⟨b,w,h1,_⟩:=h;exact ⟨b,by simpa using h1⟩):p:=h
def VeR.func{v:Value}(h:VeR p f d s x [v]):∃ b,v=.func (.func 119) #[] #[.pointer (some ⟨b,0,none⟩)]:=by
 exact qA5
def VsR.func{x:Stm}{v:Value}(h:VsR p f d s x [v]):∃ b,v=.func (.func 47) #[] #[.pointer (some ⟨b,0,none⟩)]:=by
 exact qA5
def VeS.at_{c:Nat}{l:List Ex}(h:VeS p f d s A n c l)(hk:k < n):∃ B off b,A=some ⟨B,off,none⟩∧CellsAt s B (off+k) [.func (.func 119) #[] #[.pointer (some ⟨b,0,none⟩)]]∧VeR p f d s (qcj l k) [.func (.func 119) #[] #[.pointer (some ⟨b,0,none⟩)]]:=by
 have hl:k < l.length:=by rw [← h.1];exact hk
 obtain ⟨B,off,cs,h1,h2,h3,h4⟩:=h.2.2.2 k l[k] (List.getElem?_eq_getElem hl);have e:qcj l k=l[k]:=by rw [qcj,List.getD_eq_getElem?_getD,List.getElem?_eq_getElem hl];rfl
 match cs,h3 with
 | [v],_=>
  obtain ⟨b,rfl⟩:=h4.func;exact ⟨B,off,b,h1,by rw [Nat.mul_one] at h2;exact h2,by rw [e];exact h4⟩
def VsS.at_{c:Nat}{l:List Stm}(h:VsS p f d s A n c l)(hk:k < n):∃ B off b x,A=some ⟨B,off,none⟩∧l[k]?=some x∧CellsAt s B (off+k) [.func (.func 47) #[] #[.pointer (some ⟨b,0,none⟩)]]∧VsR p f d s x [.func (.func 47) #[] #[.pointer (some ⟨b,0,none⟩)]]:=by
 have hl:k < l.length:=by rw [← h.1];exact hk
 obtain ⟨B,off,cs,h1,h2,h3,h4⟩:=h.2.2.2 k l[k] (List.getElem?_eq_getElem hl);match cs,h3 with
 | [v],_=>
  obtain ⟨b,rfl⟩:=h4.func;exact ⟨B,off,b,l[k],h1,List.getElem?_eq_getElem hl,by rw [Nat.mul_one] at h2;exact h2,h4⟩
structure MC where
 bm:Nat
 bg:Nat
 bf:Nat
 ba:Nat
 Af:Option Addr
 nF:Nat
 cF:Nat
 ng:Nat
 nf:Nat
 ab:List (Option Nat)
variable{c:MC}
def MBv(c:MC)(N:Nat)(res:Int)(m:MS)(iv ov:Value)(st cd:Int)(fv:Value):Nat×Obj:=(c.bm,cb [.slice c.Af c.nF c.cF,.slice (some ⟨c.bg,0,none⟩) c.ng c.ng,.slice (some ⟨c.ba,0,none⟩) c.ng c.ng,fv,.int .u32 res,.int .i64 (m.calls:Int),iv,.int .i64 (m.left:Int),ov,.int .i64 st,.int .u32 cd,.int .i64 ((N:Int) - (m.left:Int))] 58)
abbrev MB(c:MC)(N:Nat)(res:Int)(m:MS)(iv ov:Value)(st cd:Int):Nat×Obj:=MBv c N res m iv ov st cd (.slice (some ⟨c.bf,0,none⟩) c.nf c.nf)
def MGb(c:MC)(m:MS):Nat×Obj:=(c.bg,cb (wv m.glo) 34)
def MFb(c:MC)(m:MS):Nat×Obj:=(c.bf,cb (wv m.frm) 34)
def qdO:List (Option Nat)→List (List Int)→Hl
 | some b::r,l::ls=>(b,cb (wv l) 34)::qdO r ls
 | none::r,_::ls=>qdO r ls
 | _,_=>[]
def qjn:List (Option Nat)→List Glo→List Value
 | some b::r,g::gs=>.slice (some ⟨b,0,none⟩) g.num.toNat g.num.toNat::qjn r gs
 | none::r,_::gs=>.slice none 0 0::qjn r gs
 | _,_=>[]
structure MG(p:Prg)(c:MC)(N:Nat)(m:MS)(iv ov:Value)(R:Hl)(s:World):Prop where
 inp:∃ A n q,iv=.slice A n q∧Bts s A n q m.inp
 out:∃ Mo,R=qdO c.ab m.arr++Mo∧FL.Own 5 1 Mo ov m.out.length (bv m.out)
 ug:∀ x∈m.glo,U32 x
 uf:∀ x∈m.frm,U32 x
 ua:∀ l∈m.arr,∀ x∈l,U32 x
 ng:c.ng=p.globals.length
 lg:m.glo.length=c.ng
 lf:m.frm.length=c.nf
 lb:c.ab.length=c.ng
 la:m.arr.length=c.ng
 ar:∀ (k:Nat) (g:Glo),p.globals[k]?=some g→g.kind=3→(∃ b,c.ab[k]?=some (some b))∧(m.arr.getD k []).length=g.num.toNat
 lo:m.out.length≤20000
 lc:m.calls≤100
 ll:m.left≤N
 lN:N≤50000000
structure CT(p:Prg)(c:MC)(s:World):Prop where
 fn:Sl 2 (FnV p) s c.Af c.nF c.cF p.funcs
 ar:CellsAt s c.ba 0 (qjn c.ab p.globals)
 fs:∀ f∈p.funcs,f.params.length+f.locals.length≤100
 gu:∀ g∈p.globals,U32 g.num
def MG.le(h:MG p c N m iv ov R s)(hl:Le D s s'):MG p c N m iv ov R s':=by
 obtain ⟨A,n,q,h1,h2⟩:=h.inp;exact ⟨⟨A,n,q,h1,h2.le hl⟩,h.out,h.ug,h.uf,h.ua,h.ng,h.lg,h.lf,h.lb,h.la,h.ar,h.lo,h.lc,h.ll,h.lN⟩
def CT.le(h:CT p c s)(hl:Le D s s'):CT p c s':=⟨Sl.le (fun _ _ h=>FnV.le hl h) h.fn hl,h.ar.le hl,h.fs,h.gu⟩
def qAv(ch:List PanicEntry):Prop:=ch=[{ v:=.iface 136 (.agg #[]),recovered:=false }]
def FIN(c:MC)(N:Nat)(m:MS)(st cd:Int)(Zq9:Hl):Prop:=∃ u0 u1 u2 u3 u4 u5 u6 u7 ov Mo K,Zq9.Perm ((c.bm,cb [u0,u1,u2,u3,u4,u5,u6,u7,ov,.int .i64 st,.int .u32 cd,.int .i64 ((N:Int) - (m.left:Int))] 58)::(Mo++K))∧FL.Own 5 1 Mo ov m.out.length (bv m.out)∧m.out.length≤20000∧m.left≤N
def MG.finv(h:MG p c N m iv ov R s)(res st cd:Int)(fv:Value)(X:Hl):FIN c N m st cd (MBv c N res m iv ov st cd fv::(X++R)):=by
 obtain ⟨Mo,rfl,hO⟩:=h.out;refine ⟨_,_,_,_,_,_,_,_,ov,Mo,X++qdO c.ab m.arr,List.Perm.cons _ ?_,hO,h.lo,h.ll⟩;rw [← List.append_assoc];exact List.perm_append_comm
def MG.fin(h:MG p c N m iv ov R s)(res st cd:Int):FIN c N m st cd (MB c N res m iv ov st cd::MGb c m::MFb c m::R):=h.finv res st cd _ [MGb c m,MFb c m]
def FIN.app{Zq9:Hl}(h:FIN c N m st cd Zq9)(X:Hl):FIN c N m st cd (Zq9++X):=by
 obtain ⟨u0,u1,u2,u3,u4,u5,u6,u7,ov,Mo,K,h1,h2⟩:=h;exact ⟨u0,u1,u2,u3,u4,u5,u6,u7,ov,Mo,K++X,by simpa [List.append_assoc] using h1.append_right X,h2⟩
def MC.wf(c:MC)(bf nf:Nat):MC:={ c with bf:=bf,nf:=nf }
def FIN.wf{bf nf:Nat}{Zq9:Hl}(h:FIN (c.wf bf nf) N m st cd Zq9):FIN c N m st cd Zq9:=h
def okE(p:Prg)(c:MC)(N:Nat)(r:ER α)(Vq9:α→Value→Prop)(RS:α→Int)(X L:Hl)(v:Value)(L':Hl)(s':World):Prop:=∃ a m' iv ov R,r=.ok a m'∧Vq9 a v∧L'=X++(MB c N (RS a) m' iv ov 0 0::MGb c m'::MFb c m'::(R++L))∧MG p c N m' iv ov R s'
def qeH(c:MC)(N:Nat)(r:ER α)(X L:Hl)(ch:List PanicEntry)(L':Hl)(_:World):Prop:=qAv ch∧∃ m' st cd Zq9,r=.fin m' st cd∧L'=X++(Zq9++L)∧FIN c N m' st cd Zq9
def AP.fr{g:FuncId}{args:List Value}{res:Int}{r:ER α}{Vq9:α→Value→Prop}{RS:α→Int}(h:∀ L,AP Tryz.prog D g args (MB c N res m iv ov 0 0::MGb c m::MFb c m::(R++L)) s (okE p c N r Vq9 RS [] L) (qeH c N r [] L))(X L:Hl):AP Tryz.prog D g args (X++(MB c N res m iv ov 0 0::MGb c m::MFb c m::(R++L))) s (okE p c N r Vq9 RS X L) (qeH c N r X L):=
 (AP.mid (R:=fun v M' s'=>∃ a m' iv ov R,r=.ok a m'∧Vq9 a v∧M'=MB c N (RS a) m' iv ov 0 0::MGb c m'::MFb c m'::R∧MG p c N m' iv ov R s') (Zq9:=fun ch M' _=>qAv ch∧∃ m' st cd,r=.fin m' st cd∧FIN c N m' st cd M') X (MB c N res m iv ov 0 0::MGb c m::MFb c m::R) L
  ((h (X++L)).mono (fun v L' s' _ ⟨a,m',iv,ov,R,h1,h2,h3,h4⟩=>⟨_,h3,a,m',iv,ov,R,h1,h2,rfl,h4⟩) fun ch L' s' _ ⟨h1,m',st,cd,Zq9,h2,h3,h4⟩=>⟨Zq9,h3,h1,m',st,cd,h2,h4⟩)).mono
  (fun v L' s' _ ⟨M',h0,a,m',iv,ov,R,h1,h2,h3,h4⟩=>⟨a,m',iv,ov,R,h1,h2,by rw [h0,h3];rfl,h4⟩) fun ch L' s' _ ⟨M',h0,h1,m',st,cd,h2,h3⟩=>⟨h1,m',st,cd,M',h2,h0,h3⟩
def VE(a:Int)(v:Value):Prop:=v=.int .u32 a∧U32 a
def VS(y:Int×Int)(v:Value):Prop:=v=.int .i64 y.1∧U32 y.2∧(y.1≠3→y.2=0)
def RE(_:Int):Int:=0
def RS(y:Int×Int):Int:=y.2
def EOI(p:Prg)(D n:Nat):Prop:=∀ (L:Hl) (s:World) (c:MC) (N:Nat) (f:Fnc) (d:Nat) (x:Ex) (b:Nat) (m:MS) (iv ov:Value) (R:Hl),CT p c s→c.nf=f.params.length+f.locals.length→VeR p f d s x [.func (.func 119) #[] #[.pointer (some ⟨b,0,none⟩)]]→MG p c N m iv ov R s→(sem p OPp n).e f x m≠.out →
 AP Tryz.prog D 119 [.pointer (some ⟨c.bm,0,none⟩),.pointer (some ⟨b,0,none⟩)] (MB c N 0 m iv ov 0 0::MGb c m::MFb c m::(R++L)) s (okE p c N ((sem p OPp n).e f x m) VE RE [] L) (qeH c N ((sem p OPp n).e f x m) [] L)
def TOK(p:Prg)(D n:Nat):Prop:=∀ (L:Hl) (s:World) (c:MC) (N:Nat) (f:Fnc) (d:Nat) (x:Stm) (b:Nat) (m:MS) (iv ov:Value) (R:Hl),CT p c s→c.nf=f.params.length+f.locals.length→VsR p f d s x [.func (.func 47) #[] #[.pointer (some ⟨b,0,none⟩)]]→MG p c N m iv ov R s→(sem p OPp n).t f x m≠.out →
 AP Tryz.prog D 47 [.pointer (some ⟨c.bm,0,none⟩),.pointer (some ⟨b,0,none⟩)] (MB c N 0 m iv ov 0 0::MGb c m::MFb c m::(R++L)) s (okE p c N ((sem p OPp n).t f x m) VS RS [] L) (qeH c N ((sem p OPp n).t f x m) [] L)
def COK(p:Prg)(D n:Nat):Prop:=∀ (L:Hl) (s:World) (c:MC) (N k:Nat) (fk:Fnc) (vs:List Int) (A:Option Addr) (n1 c1:Nat) (m:MS) (iv ov:Value) (R:Hl),CT p c s→Wds s A n1 c1 vs→p.funcs[k]?=some fk→vs.length=fk.params.length→MG p c N m iv ov R s→(sem p OPp n).c k vs m≠.out →
 AP Tryz.prog D 50 [.pointer (some ⟨c.bm,0,none⟩),.int .i64 (k:Int),.slice A n1 c1] (MB c N 0 m iv ov 0 0::MGb c m::MFb c m::(R++L)) s (okE p c N ((sem p OPp n).c k vs m) VE RE [] L) (qeH c N ((sem p OPp n).c k vs m) [] L)
def qbK{β:Type}{a:ER α}{k:α→MS→ER β}{r:ER β}(h:r=a.and k)(hr:r≠.out):a≠.out:=by rintro rfl;exact hr h
def qg0{β:Type}{a:ER α}{k:α→MS→ER β}{r:ER β}(h:r=a.and k)(h2:a=.fin m st cd):r=.fin m st cd:=by rw [h,h2];rfl
def MG.stp(h:MG p c N m iv ov R s):MG p c N { m with left:=m.left - 1 } iv ov R s:=⟨h.inp,h.out,h.ug,h.uf,h.ua,h.ng,h.lg,h.lf,h.lb,h.la,h.ar,h.lo,h.lc,Nat.le_trans (Nat.sub_le _ _) h.ll,h.lN⟩
open Go.Proofs.Tryz
def qso(D:Nat)(X:Hl)(s:World)(c:MC)(N:Nat)(res:Int)(m:MS)(iv ov:Value)(st cd:Int)(fv:Value):AP prog D 51 [.pointer (some ⟨c.bm,0,none⟩),.int .i64 st,.int .u32 cd] (MBv c N res m iv ov 0 0 fv::X) s (fun _ _ _=>False) fun ch L' _=>qAv ch∧L'=MBv c N res m iv ov st cd fv::X:=by
 refine qaZ (fn:=f51) qao func51 V Z ntmps51 Z (rs:=[]) Z [(0,_),(1,_),(2,_)] Z<|G8 ?_;refine qae (qbD Z Z Z Z) Z<|Wt 0 [_,_,_,_,_,_,_,_,_,_,_,_] Y9<|G2 ?_;refine qae (qbD Z Z Z Z) Z<|Wt 0 [_,_,_,_,_,_,_,_,_,_,_,_] Y9<|Nt<|Zr<|qae (qnN V V) Z<|qae (qu9 V Z) Z ?_;refine qlt Z (fun fr9=>?_);repeat (first|refine qbC ?_|refine qbh ?_)
 refine qbZ [] _ Pr (Lr D) fun _ hS2=>?_;exact Cz0
def qmb(D:Nat)(X:Hl)(s:World)(c:MC)(N:Nat)(res:Int)(m:MS)(iv ov:Value)(hl:m.left≤N)(hN:N≤50000000):AP prog D 48 [.pointer (some ⟨c.bm,0,none⟩)] (MB c N res m iv ov 0 0::X) s (fun _ L' _=>¬ m.left=0∧L'=MB c N res { m with left:=m.left - 1 } iv ov 0 0::X) fun ch L' _=>qAv ch∧m.left=0∧L'=MB c N res m iv ov 0 0::X:=by
 refine qaZ (fn:=f48) qao func48 V Z ntmps48 Z (rs:=[]) Z [(0,_)] Z<|J10 ?_ ?_<;>intro c1
 ·have h0:=c1;refine Zr<|qae (qnN V V) Z<|qae (qu9 V Z) Z ?_;refine qlt Z (fun fr9=>?_);repeat (first|refine qbC ?_|refine qbh ?_)
  refine qbZ [] _ Pr (Lr D) fun _ hS2=>?_;exact ⟨rfl,by omega,rfl⟩
 refine G8 ?_;refine qae (qaC (qbB Z Z (w64 O O)) (congrArg (Value.int .i64) (show (m.left:Int) - 1=((m.left - 1:Nat):Int) by omega))) Z<|G2 ?_;refine Wt 0 [_,_,_,_,_,_,_,_,_,_,_,_] Y9<|G6 ?_;refine qae (qbD Z Z Z Z) Z<|Wl 0 Y6<|qae (qaC (qaI Z Z (w64 O O)) (congrArg (Value.int .i64) (show (N:Int) - (m.left:Int)+1=(N:Int) - ((m.left - 1:Nat):Int) by omega))) Z ?_;refine G2 ?_;refine qae (qbD Z Z Z Z) Z<|Wt 0 [_,_,_,_,_,_,_,_,_,_,_,_] Y9<|Zn ?_;refine qaT [] _ (.inl Z) (.nil) Z (Lr D) fun _ hS2=>?_;exact ⟨by omega,rfl⟩
def qdS(D:Nat)(X Y:Hl)(s:World)(c:MC)(N:Nat)(res:Int)(m:MS)(iv ov:Value)(st cd:Int){fv:Value}:AP prog D 51 [.pointer (some ⟨c.bm,0,none⟩),.int .i64 st,.int .u32 cd] (X++(MBv c N res m iv ov 0 0 fv::Y)) s (fun _ _ _=>False) fun ch L' _=>qAv ch∧L'=X++(MBv c N res m iv ov st cd fv::Y):=
 (AP.mid (R:=fun _ _ _=>False) (Zq9:=fun ch M' _=>qAv ch∧M'=[MBv c N res m iv ov st cd fv]) X [MBv c N res m iv ov 0 0 fv] Y ((qso D (X++Y) s c N res m iv ov st cd fv).mono (fun _ _ _ _ h=>h.elim) fun ch L' s' _ h=>⟨[MBv c N res m iv ov st cd fv],h.2,h.1,rfl⟩)).mono
  (fun _ _ _ _ ⟨_,_,h⟩=>h) fun ch L' s' _ ⟨M',h0,h1,h2⟩=>⟨h1,by rw [h0,h2];rfl⟩
def Ez36{p:Prop} (h:p:=by
 cases d with
 | zero=>exact h.elim
 | succ e=>
  obtain ⟨b2,w,h1,h2,h3⟩:=h;simp only [List.cons.injEq,Value.func.injEq,Array.mk.injEq,Value.pointer.injEq,Option.some.injEq,Addr.mk.injEq,and_true,true_and] at h1;subst h1;exact ⟨e,w,h2,h3⟩):p:=h
def VeR.opn(h:VeR p f d s x [.func (.func 119) #[] #[.pointer (some ⟨b,0,none⟩)]]):∃ e w,CellsAt s b 0 [w]∧ViE p f (VeR p f e) s x w:=by
 exact Ez36
def VsR.opn{x:Stm}(h:VsR p f d s x [.func (.func 47) #[] #[.pointer (some ⟨b,0,none⟩)]]):∃ e w,CellsAt s b 0 [w]∧ViS p f (VeR p f e) (VsR p f e) s x w:=by
 exact Ez36
def VOK(p:Prg)(D n:Nat):Prop:=∀ (L:Hl) (s:World) (c:MC) (N:Nat) (f:Fnc) (d:Nat) (x:Ex) (w:Value) (m:MS) (iv ov:Value) (R:Hl),CT p c s→c.nf=f.params.length+f.locals.length→ViE p f (VeR p f d) s x w→MG p c N m iv ov R s→vX p OPp (sem p OPp n) f x m≠.out →
 ∃ kk cap,w=.func (.func kk) #[] cap.toArray∧AP prog D kk (.pointer (some ⟨c.bm,0,none⟩)::cap) (MB c N 0 m iv ov 0 0::MGb c m::MFb c m::(R++L)) s (okE p c N (vX p OPp (sem p OPp n) f x m) VE RE [] L) (qeH c N (vX p OPp (sem p OPp n) f x m) [] L)
def SOI(p:Prg)(D n:Nat):Prop:=∀ (L:Hl) (s:World) (c:MC) (N:Nat) (f:Fnc) (d:Nat) (x:Stm) (w:Value) (m:MS) (iv ov:Value) (R:Hl),CT p c s→c.nf=f.params.length+f.locals.length→ViS p f (VeR p f d) (VsR p f d) s x w→MG p c N m iv ov R s→sX p (sem p OPp n) f x m≠.out →
 ∃ kk cap,w=.func (.func kk) #[] cap.toArray∧AP prog D kk (.pointer (some ⟨c.bm,0,none⟩)::cap) (MB c N 0 m iv ov 0 0::MGb c m::MFb c m::(R++L)) s (okE p c N (sX p (sem p OPp n) f x m) VS RS [] L) (qeH c N (sX p (sem p OPp n) f x m) [] L)
def Cz65{p:Prop} (h:p:=by
 exact ⟨hp,m,0,0,_,by rw [hq,qkv,if_pos g0];rfl,rfl,hM.fin _ _ _⟩):p:=h
def Ez94{p:Prop} (h:p:=by
 rintro _ _ sx1 hx1 ⟨hp,g0,rfl⟩ fr9;repeat (first|refine qbC ?_|refine qbh ?_)
 refine qbZ [] _ Pr hx1 fun _ hS2=>?_;exact Cz65):p:=h
def Ez18{p:Prop} (h:p:=by
  rw [← hq] at hI;refine qae (qak Z Z Z (hcb.le h1) Z) Z<|Zqm Z Z ?_;refine qbb (first:=[]) (captured:=cap) Z Z Z (hI) ?_ ?_
  ·rintro _ _ sx2 hx2 ⟨hp,m1,st1,cd1,Z1,he1,rfl,hF1⟩ fr9;repeat (first|refine qbC ?_|refine qbh ?_)
   refine qbZ [] _ Pr (h1.t hx2) fun _ hS2=>?_;exact ⟨hp,m1,st1,cd1,Z1,he1,rfl,hF1⟩
  rintro _ _ s2 h2 ⟨a1,m1,iv1,ov1,R1,he1,⟨rfl,hu1⟩,rfl,hM2⟩;refine G4 ?_;refine qaT [] _ (.inr Z) (.t1 Z) Z (h1.t h2) fun _ hS2=>?_;exact ⟨a1,m1,iv1,ov1,R1,he1,⟨rfl,hu1⟩,rfl,hM2.le ((Lr D).t hS2)⟩):p:=h
def qrM(p:Prg)(D n:Nat)(ih:VOK p D n)(L:Hl)(s:World)(c:MC)(N:Nat)(f:Fnc)(d:Nat)(x:Ex)(b:Nat)(m:MS)(iv ov:Value)(R:Hl)(hC:CT p c s)(hn:c.nf=f.params.length+f.locals.length)(hv:VeR p f d s x [.func (.func 119) #[] #[.pointer (some ⟨b,0,none⟩)]])(hM:MG p c N m iv ov R s)(hr:(sem p OPp (n+1)).e f x m≠.out):AP prog D 119 [.pointer (some ⟨c.bm,0,none⟩),.pointer (some ⟨b,0,none⟩)] (MB c N 0 m iv ov 0 0::MGb c m::MFb c m::(R++L)) s (okE p c N ((sem p OPp (n+1)).e f x m) VE RE [] L) (qeH c N ((sem p OPp (n+1)).e f x m) [] L):=by
 obtain ⟨r,hq⟩:∃ r,r=(sem p OPp (n+1)).e f x m:=⟨_,rfl⟩;rw [← hq] at hr ⊢;change r=(qkv m).and _ at hq;obtain ⟨e,w,hcb,hw⟩:=hv.opn;refine qaZ (fn:=f119) qao func119 V Z ntmps119 Z (rs:=[.tmp 3]) Z [(0,_),(1,_)] Z<|G8 ?_;refine qbb (first:=[]) (captured:=[]) Z Z Z (qmb D _ _ c N _ m iv ov hM.ll hM.lN) ?_ ?_;·exact Ez94
 rintro _ _ s1 h1 ⟨g0,rfl⟩;rw [qkv,if_neg g0] at hq;simp only [ER.and] at hq;have hM1:=(hM.le h1).stp;refine G4 ?_;obtain ⟨kk,cap,rfl,hI⟩:=ih L _ c N f e x w _ iv ov R (hC.le h1) hn (hw.le h1 fun _ _ h=>VeR.le h1 h) hM1 (by rw [← hq];exact hr);exact Ez18
def quO(p:Prg)(D n:Nat)(ih:SOI p D n)(L:Hl)(s:World)(c:MC)(N:Nat)(f:Fnc)(d:Nat)(x:Stm)(b:Nat)(m:MS)(iv ov:Value)(R:Hl)(hC:CT p c s)(hn:c.nf=f.params.length+f.locals.length)(hv:VsR p f d s x [.func (.func 47) #[] #[.pointer (some ⟨b,0,none⟩)]])(hM:MG p c N m iv ov R s)(hr:(sem p OPp (n+1)).t f x m≠.out):AP prog D 47 [.pointer (some ⟨c.bm,0,none⟩),.pointer (some ⟨b,0,none⟩)] (MB c N 0 m iv ov 0 0::MGb c m::MFb c m::(R++L)) s (okE p c N ((sem p OPp (n+1)).t f x m) VS RS [] L) (qeH c N ((sem p OPp (n+1)).t f x m) [] L):=by
 obtain ⟨r,hq⟩:∃ r,r=(sem p OPp (n+1)).t f x m:=⟨_,rfl⟩;rw [← hq] at hr ⊢;change r=(qkv m).and _ at hq;obtain ⟨e,w,hcb,hw⟩:=hv.opn;refine qaZ (fn:=f47) qao func47 V Z ntmps47 Z (rs:=[.tmp 3]) Z [(0,_),(1,_)] Z<|G8 ?_;refine qbb (first:=[]) (captured:=[]) Z Z Z (qmb D _ _ c N _ m iv ov hM.ll hM.lN) ?_ ?_;·exact Ez94
 rintro _ _ s1 h1 ⟨g0,rfl⟩;rw [qkv,if_neg g0] at hq;simp only [ER.and] at hq;have hM1:=(hM.le h1).stp;refine G4 ?_;obtain ⟨kk,cap,rfl,hI⟩:=ih L _ c N f e x w _ iv ov R (hC.le h1) hn (hw.le h1 (fun _ _ h=>VeR.le h1 h) (fun _ _ h=>VsR.le h1 h)) hM1 (by rw [← hq];exact hr);exact Ez18
def qo6(h:∀ x∈l,U32 x)(i:Nat):U32 (l.getD i 0):=by
 rw [List.getD_eq_getElem?_getD];cases hl:l[i]? with
 | none=>exact ⟨by decide,by decide⟩
 | some x=>exact h x (List.mem_of_getElem? hl)
theorem qAg(hk:x.kind=2)(h:0≤qa0 f x.name):vX p OPp S f x m=.ok (m.frm.getD (qa0 f x.name).toNat 0) m:=by grind [vX,qiI]
theorem qDM{g:Glo}(hk:x.kind=2)(h:¬ 0≤qa0 f x.name)(hg:qdJ p x.name=(k:Int))(hp:p.globals[k]?=some g)(h1:g.kind=1):vX p OPp S f x m=.ok g.num m:=by grind [vX,qiI]
theorem qDP{g:Glo}(hk:x.kind=2)(h:¬ 0≤qa0 f x.name)(hg:qdJ p x.name=(k:Int))(hp:p.globals[k]?=some g)(h1:¬ g.kind=1):vX p OPp S f x m=.ok (m.glo.getD (k:Int).toNat 0) m:=by grind [vX,qiI]
def MG.rd(h:MG p c N m iv ov R s){l:List UInt8}{q:Nat}(hb:Bts s A n q l):MG p c N { m with inp:=l } (.slice A n q) ov R s:=⟨⟨A,n,q,rfl,hb⟩,h.out,h.ug,h.uf,h.ua,h.ng,h.lg,h.lf,h.lb,h.la,h.ar,h.lo,h.lc,h.ll,h.lN⟩
def qCZ(D:Nat)(L:Hl)(s:World)(p:Prg)(S:Sem)(c:MC)(N:Nat)(f:Fnc)(x:Ex)(m:MS)(iv ov:Value)(R:Hl)(hn:c.nf=f.params.length+f.locals.length)(hM:MG p c N m iv ov R s)(b:Nat)(A1:Option Addr)(n1 z1:Nat)(hk:x.kind=1)(hc:CellsAt s b 0 [.int .i64 x.kind,.int .i64 x.op,.int .u32 x.num,St x.name,.slice A1 n1 z1])(hu:U32 x.num):AP prog D 159 [.pointer (some ⟨c.bm,0,none⟩),.pointer (some ⟨b,0,none⟩)] (MB c N 0 m iv ov 0 0::MGb c m::MFb c m::(R++L)) s (okE p c N (vX p OPp S f x m) VE RE [] L) (qeH c N (vX p OPp S f x m) [] L):=by
 refine qaZ (fn:=f159) qao func159 V Z ntmps159 Z (rs:=[.tmp 3]) Z [(0,_),(1,_)] Z<|G7 ?_;refine qae (qbD Z Z Z Z) Z<|qae (qa8 2 Z Z Z (hc.le (Lr D)) Z) Z<|G4 ?_;refine qaT [] _ (.inr Z) (.t1 Z) Z (Lr D) fun _ hS2=>?_;exact ⟨_,m,iv,ov,R,by rw [vX,if_pos hk],⟨rfl,hu⟩,rfl,hM.le ((Lr D).t hS2)⟩
def qy0(D:Nat)(L:Hl)(s:World)(p:Prg)(S:Sem)(c:MC)(N:Nat)(f:Fnc)(x:Ex)(m:MS)(iv ov:Value)(R:Hl)(hn:c.nf=f.params.length+f.locals.length)(hM:MG p c N m iv ov R s)(b:Nat)(hk:x.kind=2)(h0:0≤qa0 f x.name)(hl:qa0 f x.name < ((f.params.length+f.locals.length:Nat):Int))(hc:CellsAt s b 0 [.int .i64 (qa0 f x.name)]):AP prog D 198 [.pointer (some ⟨c.bm,0,none⟩),.pointer (some ⟨b,0,none⟩)] (MB c N 0 m iv ov 0 0::MGb c m::MFb c m::(R++L)) s (okE p c N (vX p OPp S f x m) VE RE [] L) (qeH c N (vX p OPp S f x m) [] L):=by
 have hl2:qa0 f x.name < (m.frm.length:Int):=by rw [hM.lf,hn];exact hl
 have hl3:qa0 f x.name < (c.nf:Int):=by rw [hn];exact hl
 refine qaZ (fn:=f198) qao func198 V Z ntmps198 Z (rs:=[.tmp 3]) Z [(0,_),(1,_)] Z<|G6 ?_;refine qaL qab 8 Z _ (fun _ h=>h) fun s1 h1=>H4 ?_;refine za 4 Z (qak Z Z Z (hc.le h1) Z) Z<|za 5 Z (qc9 Z Z Z Z Z Z h0 hl3) Z<|za 6 Z (qb5 2 Z Z Z Z (qmh h0 hl2)) Z<|H1 ?_;refine qah V<|G2 ?_;refine qaT [] _ (.inr Z) (.t1 Z) Z h1 fun _ hS2=>?_;exact ⟨_,m,iv,ov,R,qAg hk h0,⟨rfl,qo6 hM.uf _⟩,rfl,hM.le (h1.t hS2)⟩
def qCk(D:Nat)(L:Hl)(s:World)(p:Prg)(S:Sem)(c:MC)(N:Nat)(f:Fnc)(x:Ex)(m:MS)(iv ov:Value)(R:Hl)(hn:c.nf=f.params.length+f.locals.length)(hM:MG p c N m iv ov R s)(b k:Nat)(g:Glo)(A:Option Addr)(n1 z1:Nat)(hk:x.kind=2)(hs:¬ 0≤qa0 f x.name)(hg:qdJ p x.name=(k:Int))(hp:p.globals[k]?=some g)(gc1:g.kind=1)(hc:CellsAt s b 0 [.int .i64 g.kind,St g.name,.int .u32 g.num,.slice A n1 z1])(hu:U32 g.num):AP prog D 199 [.pointer (some ⟨c.bm,0,none⟩),.pointer (some ⟨b,0,none⟩)] (MB c N 0 m iv ov 0 0::MGb c m::MFb c m::(R++L)) s (okE p c N (vX p OPp S f x m) VE RE [] L) (qeH c N (vX p OPp S f x m) [] L):=by
 refine qaZ (fn:=f199) qao func199 V Z ntmps199 Z (rs:=[.tmp 3]) Z [(0,_),(1,_)] Z<|G7 ?_;refine qae (qbD Z Z Z Z) Z<|qae (qa8 2 Z Z Z (hc.le (Lr D)) Z) Z<|G4 ?_;refine qaT [] _ (.inr Z) (.t1 Z) Z (Lr D) fun _ hS2=>?_;exact ⟨_,m,iv,ov,R,qDM hk hs hg hp gc1,⟨rfl,hu⟩,rfl,hM.le ((Lr D).t hS2)⟩
def qDQ(D:Nat)(L:Hl)(s:World)(p:Prg)(S:Sem)(c:MC)(N:Nat)(f:Fnc)(x:Ex)(m:MS)(iv ov:Value)(R:Hl)(hn:c.nf=f.params.length+f.locals.length)(hM:MG p c N m iv ov R s)(b k:Nat)(g:Glo)(hk:x.kind=2)(hs:¬ 0≤qa0 f x.name)(hg:qdJ p x.name=(k:Int))(hp:p.globals[k]?=some g)(gc1:¬ g.kind=1)(hc:CellsAt s b 0 [.int .i64 (k:Int)]):AP prog D 200 [.pointer (some ⟨c.bm,0,none⟩),.pointer (some ⟨b,0,none⟩)] (MB c N 0 m iv ov 0 0::MGb c m::MFb c m::(R++L)) s (okE p c N (vX p OPp S f x m) VE RE [] L) (qeH c N (vX p OPp S f x m) [] L):=by
 have hkl:=(List.getElem?_eq_some_iff.1 hp).1;have hl2:(k:Int) < (m.glo.length:Int):=by rw [hM.lg,hM.ng];omega
 have hl3:(k:Int) < (c.ng:Int):=by rw [hM.ng];omega
 refine qaZ (fn:=f200) qao func200 V Z ntmps200 Z (rs:=[.tmp 3]) Z [(0,_),(1,_)] Z<|G6 ?_;refine qaL qab 8 Z _ (fun _ h=>h) fun s1 h1=>H4 ?_;refine za 4 Z (qak Z Z Z (hc.le h1) Z) Z<|za 5 Z (qc9 Z Z Z Z Z Z O hl3) Z<|za 6 Z (qb5 1 Z Z Z Z (qmh O hl2)) Z<|H1 ?_;refine qah V<|G2 ?_;refine qaT [] _ (.inr Z) (.t1 Z) Z h1 fun _ hS2=>?_;exact ⟨_,m,iv,ov,R,qDP hk hs hg hp gc1,⟨rfl,qo6 hM.ug _⟩,rfl,hM.le (h1.t hS2)⟩
def Cz66{p:Prop} (h:p:=by
 first
  | (exact ⟨_,m,_,ov,R,by simp only [qvC,hE],⟨rfl,⟨by decide,by decide⟩⟩,rfl,hM.le ((Lr D).t hS2)⟩)
  | (exact ⟨_,{ m with inp:=l },_,ov,R,by simp only [qvC,hl],⟨rfl,⟨by omega,by have:=ch.toNat_lt;omega⟩⟩,rfl,(hM.rd hI.tail).le ((Lr D).t hS2)⟩)):p:=h
def qCD(D:Nat)(L:Hl)(s:World)(p:Prg)(S:Sem)(c:MC)(N:Nat)(f:Fnc)(x:Ex)(m:MS)(iv ov:Value)(R:Hl)(hn:c.nf=f.params.length+f.locals.length)(hM:MG p c N m iv ov R s)(hk:x.kind=5):AP prog D 162 [.pointer (some ⟨c.bm,0,none⟩)] (MB c N 0 m iv ov 0 0::MGb c m::MFb c m::(R++L)) s (okE p c N (vX p OPp S f x m) VE RE [] L) (qeH c N (vX p OPp S f x m) [] L):=by
 obtain ⟨Ai,ni,qi,rfl,hI⟩:=hM.inp;have hni:=hI.1;have hvx:vX p OPp S f x m=qvC m:=by rw [vX,if_neg O,if_neg O,if_neg O,if_neg O,if_pos hk]
 rw [hvx];refine qaZ (fn:=f162) qao func162 V Z ntmps162 Z (rs:=[.tmp 2]) Z [(0,_)] Z<|J16 ?_ ?_<;>intro c1;·have hE:m.inp=[]:=List.eq_nil_of_length_eq_zero O;refine G7 ?_;refine qaT [] _ (.inr Z) (.t1 Z) Z (Lr D) fun _ hS2=>?_;exact Cz66
 have h0n:0 < ni:=by omega
 obtain ⟨b,off,ch,hAi,hch,hcc⟩:=Bts.at_ hI h0n;subst hAi;obtain ⟨l,hl⟩:∃ l,m.inp=ch::l:=by
   cases h:m.inp with
   | nil=>rw [h] at hch;cases hch
   | cons y l=>rw [h] at hch;simp at hch;exact ⟨l,by rw [hch]⟩
 rw [hl] at hI;refine G8 ?_;refine qae (qaQ Z Z Z Z Z Z h0n) Z<|qae (qak Z Z Z (hcc.le (Lr D)) Z) Z<|G10 ?_;refine qae (qnU Z Z Z Z Z (show 1≤ni by omega)) Z<|G2 ?_;refine Wt 0 [_,_,_,_,_,_,_,_,_,_,_,_] Y9<|G5 ?_;refine qae (qaC (qgI Z Z Z Z Z) (congrArg (Value.int .u32) (show IntKind.u32.wrap (ch.toNat:Int)=(ch.toNat:Int) by rw [IntKind.wrap_u32];have:=ch.toNat_lt;omega))) Z<|G4 ?_;refine qaT [] _ (.inr Z) (.t1 Z) Z (Lr D) fun _ hS2=>?_;exact Cz66
def iX(p:Prg)(S:Sem)(f:Fnc)(nm:Str)(y:Ex)(m:MS):ER Int:=(S.e f y m).and fun i m1=>if ((qes p nm m1).length:Int)≤i then .fin m1 1 1 else .ok i m1
theorem ER.and_assoc{α β γ:Type}(r:ER α)(k:α→MS→ER β)(g:β→MS→ER γ):(r.and k).and g=r.and fun a m=>(k a m).and g:=by cases r<;>rfl
def qDN(hk:x.kind=3):vX p OPp S f x m=(iX p S f x.name (qcj x.args 0) m).and fun i m1=>.ok ((qes p x.name m1).getD i.toNat 0) m1:=by
 rw [vX,if_neg O,if_neg O,if_pos hk,iX,ER.and_assoc];congr 1;funext i m1;split<;>rfl
def qsY{x:Stm}(hk:x.kind=2):sX p S f x m=(iX p S f x.name (qcj x.exprs 0) m).and fun i m1=>(S.e f (qcj x.exprs 1) m1).and fun v m2=>.ok (0,0) { m2 with arr:=m2.arr.set (qdJ p x.name).toNat ((qes p x.name m2).set i.toNat v) }:=by
 rw [sX,if_neg O,if_pos hk,iX,ER.and_assoc];congr 1;funext i m1;split<;>rfl
def qx4{y:Ex}{m1:MS}{a:Int}(h:iX p S f nm y m=.ok a m1):a < ((qes p nm m1).length:Int):=by
 unfold iX at h;cases hr:S.e f y m with
 | out=>rw [hr] at h;cases h
 | fin _ _ _=>rw [hr] at h;cases h
 | ok i m2=>
  rw [hr] at h;simp only [ER.and] at h;split at h
  · cases h
  · injection h with h1 h2;subst h1;subst h2;omega
theorem qAf(hk:x.kind=4):vX p OPp S f x m=(qbf (S.e f) x.args m).and fun vs m=>S.c (qiv p x.name).toNat vs m:=by grind [vX]
theorem qDO(hk:x.kind=6):vX p OPp S f x m=(S.e f (qcj x.args 0) m).and fun a m=>.ok (if (qhd x.op 0).1=0 then opP x.op a 0 else 0) m:=by grind [vX,OPp]
def qDL(hk:x.kind=7):vX p OPp S f x m=(S.e f (qcj x.args 0) m).and fun a m=>if x.op=20∧a=0 then .ok 0 m else if x.op=21∧a≠0 then .ok 1 m else (S.e f (qcj x.args 1) m).and fun b m=>if (qhd x.op b).1=0 then .ok (opP x.op a b) m else .fin m 1 2:=by
 rw [vX,if_neg O,if_neg O,if_neg O,if_neg O,if_neg O,if_neg O];congr 1;funext a m;split
 · rfl
 split
 · rfl
 congr 1;funext b m;by_cases h:(qhd x.op b).1=0
 · simp only [OPp,if_pos h]
 · simp only [OPp,if_neg h]
def opU{k x y:Int}(hx:U32 x)(hy:U32 y):U32 (if (qhd k y).1=0 then opP k x y else 0):=by
 split
 · exact qpM hx hy
 · exact ⟨by decide,by decide⟩
def qkN:∀ {ab:List (Option Nat)} {gs:List Glo} {k b:Nat} {g:Glo},ab[k]?=some (some b)→gs[k]?=some g→(qjn ab gs)[k]?=some (.slice (some ⟨b,0,none⟩) g.num.toNat g.num.toNat)
 | [],_,_,_,_,h,_=>by simp at h
 | _::_,[],_,_,_,_,h=>by simp at h
 | some b::r,g::gs,0,b2,g2,h1,h2=>by simp at h1 h2;subst h1;subst h2;rfl
 | none::r,g::gs,0,b2,g2,h1,h2=>by simp at h1
 | some b::r,g::gs,k+1,b2,g2,h1,h2=>by rw [qjn,List.getElem?_cons_succ];exact qkN Q6 Q12
 | none::r,g::gs,k+1,b2,g2,h1,h2=>by rw [qjn,List.getElem?_cons_succ];exact qkN Q6 Q12
def qkM:∀ {ab:List (Option Nat)} {ls:List (List Int)} {k b:Nat},ab[k]?=some (some b)→k < ls.length→∃ i,(qdO ab ls)[i]?=some (b,cb (wv (ls.getD k [])) 34)∧i < (qdO ab ls).length∧∀ l,(qdO ab ls).set i (b,cb (wv l) 34)=qdO ab (ls.set k l)
 | [],_,_,_,h,_=>by simp at h
 | _::_,[],_,_,_,h=>by simp at h
 | some b::r,l::ls,0,b2,h1,h2=>by
  simp at h1;subst h1;exact ⟨0,rfl,by simp [qdO],fun l=>rfl⟩
 | none::r,l::ls,0,b2,h1,h2=>by simp at h1
 | some b::r,l::ls,k+1,b2,h1,h2=>by
  obtain ⟨i,a1,a2,a3⟩:=qkM (ab:=r) (ls:=ls) (k:=k) (b:=b2) Q6 Q12;refine ⟨i+1,by rw [qdO,List.getElem?_cons_succ];simpa using a1,by rw [qdO,List.length_cons];omega,fun l2=>?_⟩;rw [List.set_cons_succ,qdO,qdO,List.set_cons_succ,a3]
 | none::r,l::ls,k+1,b2,h1,h2=>by
  obtain ⟨i,a1,a2,a3⟩:=qkM (ab:=r) (ls:=ls) (k:=k) (b:=b2) Q6 Q12;exact ⟨i,by rw [qdO];simpa using a1,a2,fun l2=>by rw [List.set_cons_succ,qdO,qdO,a3]⟩
def qmr{b:Nat}{o o':Obj}:∀ {L:Hl} {i:Nat},L[i]?=some (b,o)→qch L i o'=L.set i (b,o')
 | [],_,h=>by simp at h
 | x::L,0,h=>by simp at h;subst h;rfl
 | x::L,i+1,h=>by rw [qch,List.set_cons_succ,qmr Q4]
section
variable{p:Prg}{c:MC}{N:Nat}{m:MS}{iv ov:Value}{R:Hl}{s:World}{k:Nat}{g:Glo}{nm:Str}
def MG.ary(hM:MG p c N m iv ov R s)(hC:CT p c s)(hp:p.globals[k]?=some g)(h3:g.kind=3)(hg:qdJ p nm=(k:Int)):∃ b,c.ab[k]?=some (some b)∧CellsAt s c.ba (0+k) [.slice (some ⟨b,0,none⟩) g.num.toNat g.num.toNat]∧(qes p nm m).length=g.num.toNat∧k < c.ng:=by
 obtain ⟨⟨b,hb⟩,hl⟩:=hM.ar k g hp h3;exact ⟨b,hb,hC.ar.nth (qkN hb hp),by rw [qes,hg,Int.toNat_natCast];exact hl,by rw [hM.ng];exact (List.getElem?_eq_some_iff.1 hp).1⟩
def MG.blk(hM:MG p c N m iv ov R s)(hb:c.ab[k]?=some (some b))(hk:k < c.ng)(hg:qdJ p nm=(k:Int))(x y z:Nat×Obj)(L:Hl):∃ i,(x::y::z::(R++L))[i+3]?=some (b,cb (wv (qes p nm m)) 34)∧∀ l,(∃ R',qch (x::y::z::(R++L)) (i+3) (cb (wv l) 34)=x::y::z::(R'++L)∧∀ s',MG p c N m iv ov R s'→l.length=(qes p nm m).length→(∀ v∈l,U32 v)→MG p c N { m with arr:=m.arr.set k l } iv ov R' s'):=by
  obtain ⟨Mo,hR,hO⟩:=hM.out;obtain ⟨i,a1,a2,a3⟩:=qkM (ls:=m.arr) hb (by rw [hM.la];exact hk);have hA:qes p nm m=m.arr.getD k []:=by rw [qes,hg,Int.toNat_natCast]
  refine ⟨i,?_,fun l=>⟨qdO c.ab (m.arr.set k l)++Mo,?_,fun s' hM' hl hu=>?_⟩⟩
  · show (R++L)[i]?=_
    rw [hR,List.append_assoc,List.getElem?_append_left a2,a1,hA]
  · rw [← a3,hR,qmr (b:=b) (o:=cb (wv (qes p nm m)) 34)]
    · show x::y::z::((qdO c.ab m.arr++Mo++L).set i _)=_
      rw [List.append_assoc,List.set_append_left _ _ a2,List.append_assoc]
    · show (qdO c.ab m.arr++Mo++L)[i]?=_
      rw [List.append_assoc,List.getElem?_append_left a2,a1,hA]
  · have hk2:k < m.arr.length:=by rw [hM.la];exact hk
    refine ⟨hM'.inp,⟨Mo,Z,hO⟩,hM'.ug,hM'.uf,fun l2 h2 v hv=>?_,hM'.ng,hM'.lg,hM'.lf,hM'.lb,by rw [List.length_set];exact hM'.la,fun j g2 hj h3=>?_,hM'.lo,hM'.lc,hM'.ll,hM'.lN⟩
    · rcases List.mem_or_eq_of_mem_set h2 with h2|rfl
      · exact hM'.ua l2 h2 v hv
      · exact hu v hv
    · obtain ⟨q1,q2⟩:=hM'.ar j g2 hj h3
      refine ⟨q1,?_⟩;by_cases hjk:k=j
      · subst hjk
        show ((m.arr.set k l).getD k []).length=_;rw [List.getD_eq_getElem?_getD,List.getElem?_set_self hk2,Option.getD_some,hl,hA];exact q2
      · show ((m.arr.set k l).getD j []).length=_
        rw [List.getD_eq_getElem?_getD,List.getElem?_set_ne hjk,← List.getD_eq_getElem?_getD];exact q2
def Ez53{p:Prop} (h:p:=by
 rw [qes,hg,Int.toNat_natCast,List.getD_eq_getElem?_getD] at hx;cases hl:m.arr[k]? with
 | none=>rw [hl] at hx;cases hx
 | some l=>rw [hl] at hx;exact hM.ua l (List.mem_of_getElem? hl) x hx):p:=h
def MG.ix(hM:MG p c N m iv ov R s)(hg:qdJ p nm=(k:Int))(i:Nat):U32 ((qes p nm m).getD i 0):=by
 refine qo6 (fun x hx=>?_) i;exact Ez53
end
def Cz67{p:Prop} (h:p:=by
 exact ⟨hp1,mf1,sf1,cf1,Zf1,qg0 hq he1,rfl,hF1⟩):p:=h
def Cz68{p:Prop} (h:p:=by
 exact ⟨hp3,m1,_,_,_,by rw [hq,if_pos O],rfl,((hM1.le hx3).fin _ _ _)⟩):p:=h
def Ez91{p:Prop} (h:p:=by
 rintro _ _ sx3 hx3 ⟨hp3,rfl⟩ fr9;repeat (first|refine qbC ?_|refine qbh ?_)
 refine qbZ [] _ Pr (h1.t hx3) fun _ hS2=>?_;exact Cz68):p:=h
def qwn{p:Prop} (h:p:=by
 rintro _ _ sx1 hx1 ⟨hp1,mf1,sf1,cf1,Zf1,he1,rfl,hF1⟩ fr9;repeat (first|refine qbC ?_|refine qbh ?_)
 refine qbZ [] _ Pr hx1 fun _ hS2=>?_;exact Cz67):p:=h
def qiE(p:Prg)(D n:Nat)(hE:EOI p D n)(L:Hl)(s:World)(c:MC)(N:Nat)(f:Fnc)(d:Nat)(y:Ex)(nm:Str)(k b:Nat)(g:Glo)(m:MS)(iv ov:Value)(R:Hl)(hC:CT p c s)(hn:c.nf=f.params.length+f.locals.length)(hM:MG p c N m iv ov R s)(hg:qdJ p nm=(k:Int))(hp:p.globals[k]?=some g)(gc3:g.kind=3)(hv:VeR p f d s y [.func (.func 119) #[] #[.pointer (some ⟨b,0,none⟩)]])(hr:iX p (sem p OPp n) f nm y m≠.out):AP prog D 83 [.pointer (some ⟨c.bm,0,none⟩),.int .i64 (k:Int),.func (.func 119) #[] #[.pointer (some ⟨b,0,none⟩)]] (MB c N 0 m iv ov 0 0::MGb c m::MFb c m::(R++L)) s (okE p c N (iX p (sem p OPp n) f nm y m) VE RE [] L) (qeH c N (iX p (sem p OPp n) f nm y m) [] L):=by
 obtain ⟨r,hq⟩:∃ r,r=iX p (sem p OPp n) f nm y m:=⟨_,rfl⟩;rw [← hq] at hr ⊢;rw [iX] at hq;refine qaZ (fn:=f83) qao func83 V Z ntmps83 Z (rs:=[.tmp 6]) Z [(0,_),(1,_),(2,_)] Z<|G9 ?_;refine qbb (first:=[]) (captured:=[.pointer (some ⟨b,0,none⟩)]) Z Z Z (AP.fr (fun L=>hE L _ c N f d y _ m iv ov R (hC.le (Lr D)) hn (hv.le (Lr D)) (hM.le (Lr D)) (qbK hq hr)) [] _) ?_ ?_;·exact qwn
 rintro _ _ s1 h1 ⟨a1,m1,iv1,ov1,R1,he1,⟨rfl,hu1⟩,rfl,hM1⟩;rw [he1] at hq;simp only [ER.and] at hq;obtain ⟨ba,hab,hca,hla,hkn⟩:=hM1.ary (hC.le h1) hp gc3 hg;rw [hla] at hq;have hlo:=hu1.1;have hhi:=hu1.2;have hgu:=(hC.gu g (List.mem_of_getElem? hp)).2;have hgn:g.num.toNat≤9223372036854775807:=by omega
 refine G7 ?_;refine qae (qbe Z Z Z Z Z (w64y O O)) Z<|G5 ?_;refine qae (qaQ Z Z Z Z Z Z hkn) Z<|qae (qak Z Z Z (hca.le (Lr D)) Z) Z<|Ws Y4<|qae (qbe Z Z Z Z Z (w64y O O)) Z<|qi6 Z Z Z<|J2 ?_ ?_<;>intro c2
 ·have q9:=c2;refine G2 ?_;refine qbb (first:=[]) (captured:=[]) Z Z Z (qdS D [] _ _ c N _ m1 iv1 ov1 _ _) ?_ ?_;·exact Ez91
  rintro _ _ s3 h3 ⟨⟩
 have q9:=c2;rw [if_neg O] at hq;refine G9 ?_;refine qaT [] _ (.inr Z) (.t1 Z) Z h1 fun _ hS2=>?_;exact ⟨_,m1,iv1,ov1,R1,hq,⟨rfl,hu1⟩,rfl,(hM1.le ((Lr D).t hS2))⟩
def Cz69{p:Prop} (h:p:=by
 exact ⟨hp2,mf2,sf2,cf2,Zf2,qg0 hq he2,rfl,hF2⟩):p:=h
def Cz70{p:Prop} (h:p:=by
 exact ⟨_,m2,iv2,ov2,R2,hq,⟨rfl,hM2.ix hg _⟩,rfl,(hM2.le ((Lr D).t hS2))⟩):p:=h
def qu1{p:Prop} (h:p:=by
 rintro _ _ sx2 hx2 ⟨hp2,mf2,sf2,cf2,Zf2,he2,rfl,hF2⟩ fr9;repeat (first|refine qbC ?_|refine qbh ?_)
 refine qbZ [] _ Pr (h1.t hx2) fun _ hS2=>?_;exact Cz69):p:=h
def qCP(p:Prg)(D n:Nat)(hE:EOI p D n)(L:Hl)(s:World)(c:MC)(N:Nat)(f:Fnc)(d:Nat)(x:Ex)(m:MS)(iv ov:Value)(R:Hl)(hC:CT p c s)(hn:c.nf=f.params.length+f.locals.length)(hM:MG p c N m iv ov R s)(b1 b2 k:Nat)(g:Glo)(A:Option Addr)(n1 z1:Nat)(hk:x.kind=3)(hg:qdJ p x.name=(k:Int))(hp:p.globals[k]?=some g)(gc3:g.kind=3)(gc1:CellsAt s b1 0 [.int .i64 (k:Int)])(gc2:CellsAt s b2 0 [.slice A n1 z1])(hA:VeS p f d s A n1 z1 x.args)(h0:0 < n1)(hr:vX p OPp (sem p OPp n) f x m≠.out):AP prog D 161 [.pointer (some ⟨c.bm,0,none⟩),.pointer (some ⟨b1,0,none⟩),.pointer (some ⟨b2,0,none⟩)] (MB c N 0 m iv ov 0 0::MGb c m::MFb c m::(R++L)) s (okE p c N (vX p OPp (sem p OPp n) f x m) VE RE [] L) (qeH c N (vX p OPp (sem p OPp n) f x m) [] L):=by
 obtain ⟨r,hq⟩:∃ r,r=vX p OPp (sem p OPp n) f x m:=⟨_,rfl⟩;rw [← hq] at hr ⊢;rw [qDN hk] at hq;obtain ⟨B0,o0,b0,rfl,hcE,hvE⟩:=VeS.at_ hA h0;obtain ⟨ba,hab,hca,hla,hkn⟩:=hM.ary hC hp gc3 hg;refine qaZ (fn:=f161) qao func161 V Z ntmps161 Z (rs:=[.tmp 4]) Z [(0,_),(1,_),(2,_)] Z<|G6 ?_;refine qaL qab 16 Z ([]:Hl) (fun x hx=>by cases hx) fun s1 h1=>H3 ?_;refine za 4 Z (qak Z Z Z (gc1.le h1) Z) Z<|H1 ?_;refine za 8 Z (qak Z Z Z (gc1.le h1) Z) Z<|za 9 Z (qak Z Z Z (gc2.le h1) Z) Z<|za 10 Z (qaQ Z Z Z Z Z Z h0) Z<|za 11 Z (qak Z Z Z (hcE.le h1) Z) Z ?_;refine qdB 3 12 V ?_ ?_
 ·refine qbH Z Tt (Wd 0 Y5) Z<|za 5 Z (qaQ Z Z Z Z Z Z hkn) Z<|za 6 Z (qak Z Z Z (hca.le h1) Z) Z<|qaq 12 V ?_;refine qbV Z Tt (first:=[]) (captured:=[]) Z Z Z (AP.fr (fun L=>qiE p D n hE L _ c N f d (qcj x.args 0) x.name k b0 g m iv ov R (hC.le h1) hn (hM.le h1) hg hp gc3 (hvE.le h1) (qbK hq hr)) [] _) ?_ ?_;·exact qu1
  rintro _ _ s2 h2 ⟨a2,m2,iv2,ov2,R2,he2,⟨rfl,hu2⟩,rfl,hM2⟩;refine ⟨(fun x hx=>by cases hx),?_⟩;rw [he2] at hq;simp only [ER.and] at hq;simp only [cQ9,nQ9];have hia:=qx4 he2;have hlo:=hu2.1;obtain ⟨ba2,hab2,_,hla2,_⟩:=hM2.ary (hC.le (h1.t h2)) hp gc3 hg;rw [hab] at hab2;injection hab2 with hab2
  injection hab2 with hab2;subst hab2;obtain ⟨i,hbi,_⟩:=hM2.blk hab hkn hg (MB c N 0 m2 iv2 ov2 0 0) (MGb c m2) (MFb c m2) L;refine za 13 Z (qc9 Z Z Z Z Z Z hlo (show a2 < ((g.num.toNat:Nat):Int) by omega)) Z<|qaq 14 V<|qbH Z Tt (qb5 (i+3) Z hbi Z Z (qmh hlo hia)) Z<|H1 ?_;refine qah V<|G2 ?_;refine qaT [] _ (.inr Z) (.t1 Z) Z (h1.t h2) fun _ hS2=>?_;exact Cz70
 refine qbV Z Tt (first:=[]) (captured:=[]) Z Z Z (AP.fr (fun L=>qiE p D n hE L _ c N f d (qcj x.args 0) x.name k b0 g m iv ov R (hC.le h1) hn (hM.le h1) hg hp gc3 (hvE.le h1) (qbK hq hr)) [] _) ?_ ?_;·exact qu1
 rintro _ _ s2 h2 ⟨a2,m2,iv2,ov2,R2,he2,⟨rfl,hu2⟩,rfl,hM2⟩;refine ⟨(fun x hx=>by cases hx),?_⟩;rw [he2] at hq;simp only [ER.and] at hq;simp only [cQ9,nQ9];have hia:=qx4 he2;have hlo:=hu2.1;obtain ⟨ba2,hab2,_,hla2,_⟩:=hM2.ary (hC.le (h1.t h2)) hp gc3 hg;rw [hab] at hab2;injection hab2 with hab2
 injection hab2 with hab2;subst hab2;obtain ⟨i,hbi,_⟩:=hM2.blk hab hkn hg (MB c N 0 m2 iv2 ov2 0 0) (MGb c m2) (MFb c m2) L;refine qaq 3 V<|qbH Z Tt (Wd 0 Y5) Z<|za 5 Z (qaQ Z Z Z Z Z Z hkn) Z<|za 6 Z (qak Z Z Z (hca.le h1) Z) Z<|za 13 Z (qc9 Z Z Z Z Z Z hlo (show a2 < ((g.num.toNat:Nat):Int) by omega)) Z<|qaq 14 V<|qbH Z Tt (qb5 (i+3) Z hbi Z Z (qmh hlo hia)) Z<|H1 ?_;refine qah V<|G2 ?_;refine qaT [] _ (.inr Z) (.t1 Z) Z (h1.t h2) fun _ hS2=>?_;exact Cz70
def Cz71{p:Prop} (h:p:=by
 exact ⟨_,m2,iv2,ov2,R2,hq,⟨rfl,opU hu2 ⟨by decide,by decide⟩⟩,rfl,(hM2.le (h3.t h4|>.t hS2))⟩):p:=h
def qEm{p:Prop} (h:p:=by
 exact ⟨hp3,mf3,sf3,cf3,Zf3,qg0 hq he3,rfl,hF3⟩):p:=h
def qDK(p:Prg)(D n:Nat)(hE:EOI p D n)(L:Hl)(s:World)(c:MC)(N:Nat)(f:Fnc)(d:Nat)(x:Ex)(m:MS)(iv ov:Value)(R:Hl)(hC:CT p c s)(hn:c.nf=f.params.length+f.locals.length)(hM:MG p c N m iv ov R s)(b1 b2:Nat)(A1:Option Addr)(n1 z1:Nat)(A:Option Addr)(n2 z2:Nat)(hk:x.kind=6)(gc1:CellsAt s b1 0 [.int .i64 x.kind,.int .i64 x.op,.int .u32 x.num,St x.name,.slice A1 n1 z1])(gc2:CellsAt s b2 0 [.slice A n2 z2])(hA:VeS p f d s A n2 z2 x.args)(h0:0 < n2)(hr:vX p OPp (sem p OPp n) f x m≠.out):AP prog D 163 [.pointer (some ⟨c.bm,0,none⟩),.pointer (some ⟨b1,0,none⟩),.pointer (some ⟨b2,0,none⟩)] (MB c N 0 m iv ov 0 0::MGb c m::MFb c m::(R++L)) s (okE p c N (vX p OPp (sem p OPp n) f x m) VE RE [] L) (qeH c N (vX p OPp (sem p OPp n) f x m) [] L):=by
 obtain ⟨r,hq⟩:∃ r,r=vX p OPp (sem p OPp n) f x m:=⟨_,rfl⟩;rw [← hq] at hr ⊢;rw [qDO hk] at hq;obtain ⟨B0,o0,b0,rfl,hcE,hvE⟩:=VeS.at_ hA h0;refine qaZ (fn:=f163) qao func163 V Z ntmps163 Z (rs:=[.tmp 4]) Z [(0,_),(1,_),(2,_)] Z<|G6 ?_;refine qaL qab 14 Z ([]:Hl) (fun x hx=>by cases hx) fun s1 h1=>H1 ?_;refine za 1 Z (qa8 1 Z Z Z (gc1.le h1) Z) Z<|za 2 Z (qak Z Z Z (gc2.le h1) Z) Z<|za 3 Z (qaQ Z Z Z Z Z Z h0) Z<|za 4 Z (qak Z Z Z (hcE.le h1) Z) Z<|H1 ?_;refine qdB 6 11 V ?_ ?_
 ·refine qbV Z Tt (first:=[]) (captured:=[.pointer (some ⟨b0,0,none⟩)]) Z Z Z (AP.fr (fun L=>hE L _ c N f d (qcj x.args 0) _ m iv ov R (hC.le h1) hn (hvE.le h1) (hM.le h1) (qbK hq hr)) [] _) ?_ ?_;·exact qu1
  rintro _ _ s2 h2 ⟨a2,m2,iv2,ov2,R2,he2,⟨rfl,hu2⟩,rfl,hM2⟩;refine ⟨(fun x hx=>by cases hx),?_⟩;rw [he2] at hq;simp only [ER.and] at hq;simp only [cQ9,nQ9];refine qdB 7 11 V ?_ ?_;·refine Jb Z Tt Z Z Z (qc6 D _ _ x.op a2 0 hu2 ⟨by decide,by decide⟩) ?_;rintro _ _ s3 h3 ⟨rfl,rfl⟩;refine ⟨(fun x hx=>by cases hx),?_⟩;refine H3 ?_;refine qaq 11 V<|qaK Z Tt Z [_,_] Z Z fun β4 s4 h4=>H1 ?_;refine qaq 13 V<|Wu Z Tt 0 [_,_] Y9 (fun x hx=>by cases hx)<|qah V<|G8 ?_;refine qaT [_] _ (.inr Z) (.t1 Z) Z (h1.t h2|>.t h3|>.t h4) fun _ hS2=>?_;exact Cz71
  refine qaK Z Tt Z [_,_] Z Z fun β3 s3 h3=>qaq 7 V<|Jb Z Tt Z Z Z (qc6 D _ _ x.op a2 0 hu2 ⟨by decide,by decide⟩) ?_;rintro _ _ s4 h4 ⟨rfl,rfl⟩;refine ⟨(fun x hx=>by cases hx),?_⟩;refine H4 ?_;refine qaq 13 V<|Wu Z Tt 0 [_,_] Y9 (fun x hx=>by cases hx)<|qah V<|G8 ?_;refine qaT [_] _ (.inr Z) (.t1 Z) Z (h1.t h2|>.t h3|>.t h4) fun _ hS2=>?_;exact Cz71
 refine qaK Z Tt Z [_,_] Z Z fun β2 s2 h2=>qaq 6 V ?_;have e2:=h1.t h2;refine qbV Z Tt (first:=[]) (captured:=[.pointer (some ⟨b0,0,none⟩)]) Z Z Z (AP.fr (fun L=>hE L _ c N f d (qcj x.args 0) _ m iv ov R (hC.le e2) hn (hvE.le e2) (hM.le e2) (qbK hq hr)) [_] _) ?_ ?_
 ·rintro _ _ sx3 hx3 ⟨hp3,mf3,sf3,cf3,Zf3,he3,rfl,hF3⟩ fr9;repeat (first|refine qbC ?_|refine qbh ?_)
  refine qbZ [_] _ Pr (e2|>.t hx3) fun _ hS2=>?_;exact qEm
 rintro _ _ s3 h3 ⟨a3,m3,iv3,ov3,R3,he3,⟨rfl,hu3⟩,rfl,hM3⟩;refine ⟨(fun x hx=>by cases hx),?_⟩;rw [he3] at hq;simp only [ER.and] at hq;simp only [cQ9,nQ9];refine qaq 7 V<|Jb Z Tt Z Z Z (qc6 D _ _ x.op a3 0 hu3 ⟨by decide,by decide⟩) ?_;rintro _ _ s4 h4 ⟨rfl,rfl⟩;refine ⟨(fun x hx=>by cases hx),?_⟩;refine H4 ?_;refine qaq 13 V<|Wu Z Tt 0 [_,_] Y9 (fun x hx=>by cases hx)<|qah V<|G8 ?_;refine qaT [_] _ (.inr Z) (.t1 Z) Z (e2.t h3|>.t h4) fun _ hS2=>?_;exact ⟨_,m3,iv3,ov3,R3,hq,⟨rfl,opU hu3 ⟨by decide,by decide⟩⟩,rfl,(hM3.le (h4.t hS2))⟩
def Cz73{p:Prop} (h:p:=by
 exact ⟨hp13,m9,_,_,_,by rw [hq,if_neg q9],rfl,((hM9.le (h10.t h11|>.t hx13)).fin _ _ _)⟩):p:=h
def Cz74{p:Prop} (h:p:=by
 first
  | (exact ⟨_,m9,iv9,ov9,R9,hq,⟨rfl,⟨by decide,by decide⟩⟩,rfl,(hM9.le (h10.t h11|>.t hS2))⟩)
  | (exact ⟨_,m9,iv9,ov9,R9,hq,⟨by rw [if_pos q8];rfl,qpM hu1 hu9⟩,rfl,(hM9.le (h10.t h11|>.t hS2))⟩)):p:=h
def qA0{p:Prop} (h:p:=by
 refine G4 ?_;refine qaf (MidB.mk (Lr D) Sb Z ((decide_eq_false O).symm))):p:=h
def Ez15{p:Prop} (h:p:=by
  refine qaR Z ?_ ?_<;>intro c12
  ·have q9:¬ (qhd x.op _).1=0:=fun h=>c12 (by rw [qvQ h];exact ⟨rfl,rfl⟩);refine G2 ?_;refine qbb (first:=[]) (captured:=[]) Z Z Z (qdS D [_] _ _ c N _ m9 iv9 ov9 _ _) ?_ ?_
   ·rintro _ _ sx13 hx13 ⟨hp13,rfl⟩ fr9;repeat (first|refine qbC ?_|refine qbh ?_)
    refine qbZ [_] _ Pr (h1.t h2|>.t h5|>.t h8|>.t h9|>.t h10|>.t h11|>.t hx13) fun _ hS2=>?_;exact Cz73
   rintro _ _ s13 h13 ⟨⟩
  have q8:=c12.1;rw [if_pos q8] at hq;refine G9 ?_;refine qaT [_] _ (.inr Z) (.t1 Z) Z (h1.t h2|>.t h5|>.t h8|>.t h9|>.t h10|>.t h11) fun _ hS2=>?_;exact Cz74):p:=h
def qBZ(p:Prg)(D n:Nat)(hE:EOI p D n)(L:Hl)(s:World)(c:MC)(N:Nat)(f:Fnc)(d:Nat)(x:Ex)(m:MS)(iv ov:Value)(R:Hl)(hC:CT p c s)(hn:c.nf=f.params.length+f.locals.length)(hM:MG p c N m iv ov R s)(b1 b2 b3 b4 b5:Nat)(hk:x.kind=7)(gc1:CellsAt s b1 0 [.func (.func 119) #[] #[.pointer (some ⟨b4,0,none⟩)]])(gc2:CellsAt s b2 0 [.int .i64 x.op])(gc3:CellsAt s b3 0 [.func (.func 119) #[] #[.pointer (some ⟨b5,0,none⟩)]])(hv1:VeR p f d s (qcj x.args 0) [.func (.func 119) #[] #[.pointer (some ⟨b4,0,none⟩)]])(hv2:VeR p f d s (qcj x.args 1) [.func (.func 119) #[] #[.pointer (some ⟨b5,0,none⟩)]])(hr:vX p OPp (sem p OPp n) f x m≠.out):AP prog D 203 [.pointer (some ⟨c.bm,0,none⟩),.pointer (some ⟨b1,0,none⟩),.pointer (some ⟨b2,0,none⟩),.pointer (some ⟨b3,0,none⟩)] (MB c N 0 m iv ov 0 0::MGb c m::MFb c m::(R++L)) s (okE p c N (vX p OPp (sem p OPp n) f x m) VE RE [] L) (qeH c N (vX p OPp (sem p OPp n) f x m) [] L):=by
 obtain ⟨r,hq⟩:∃ r,r=vX p OPp (sem p OPp n) f x m:=⟨_,rfl⟩;rw [← hq] at hr ⊢;rw [qDL hk] at hq;refine qaZ (fn:=f203) qao func203 V Z ntmps203 Z (rs:=[.tmp 5]) Z [(0,_),(1,_),(2,_),(3,_)] Z<|G7 ?_;refine qae (qak Z Z Z (gc1.le (Lr D)) Z) Z<|Zqm Z Z ?_;refine qbb (first:=[]) (captured:=[.pointer (some ⟨b4,0,none⟩)]) Z Z Z (AP.fr (fun L=>hE L _ c N f d (qcj x.args 0) _ m iv ov R (hC.le (Lr D)) hn (hv1.le (Lr D)) (hM.le (Lr D)) (qbK hq hr)) [] _) ?_ ?_;·exact qwn
 rintro _ _ s1 h1 ⟨a1,m1,iv1,ov1,R1,he1,⟨rfl,hu1⟩,rfl,hM1⟩;rw [he1] at hq;simp only [ER.and] at hq;simp only [cQ9,nQ9];refine G4 ?_;refine qbA 17 (x.op=20∧a1=0) ?_ ?_
 ·refine Zr<|qae (qak Z Z Z (gc2.le h1) Z) Z<|G2 ?_;refine qap (t:=14) Z ?_ ?_<;>intro c3;·refine G6 ?_;refine qaf (MidB.mk (Lr D) Sb Z (decide_eq_decide.2 O))
  exact qA0
 intro s2 h2;have e2:=h1.t h2;refine qaa Z ?_ ?_<;>intro c4
 ·rw [if_pos c4] at hq;refine G7 ?_;refine qaT [] _ (.inr Z) (.t1 Z) Z e2 fun _ hS2=>?_;first
    | (exact ⟨_,m1,iv1,ov1,R1,hq,⟨rfl,⟨by decide,by decide⟩⟩,rfl,(hM1.le (h2.t hS2))⟩)
    | (exact ⟨_,m1,iv1,ov1,R1,hq,⟨by rw [if_pos q8];rfl,qpM hu1 hu1⟩,rfl,(hM1.le (h2.t hS2))⟩)
 rw [if_neg c4] at hq;refine G3 ?_;refine qbA 23 (x.op=21∧a1≠0) ?_ ?_
 ·refine Zr<|qae (qak Z Z Z (gc2.le e2) Z) Z<|G2 ?_;refine qap (t:=20) Z ?_ ?_<;>intro c6;·refine G6 ?_;refine qaf (MidB.mk (Lr D) Sb Z (qe8 O))
  exact qA0
 intro s5 h5;have e5:=e2.t h5;refine qaa Z ?_ ?_<;>intro c7
 ·rw [if_pos c7] at hq;refine G7 ?_;refine qaT [] _ (.inr Z) (.t1 Z) Z e5 fun _ hS2=>?_;first
    | (exact ⟨_,m1,iv1,ov1,R1,hq,⟨rfl,⟨by decide,by decide⟩⟩,rfl,(hM1.le (h2.t h5|>.t hS2))⟩)
    | (exact ⟨_,m1,iv1,ov1,R1,hq,⟨by rw [if_pos q8];rfl,qpM hu1 hu1⟩,rfl,(hM1.le (h2.t h5|>.t hS2))⟩)
 rw [if_neg c7] at hq;refine Zk<|Zt<|Zs<|qaL qab 12 Z ([]:Hl) (fun x hx=>by cases hx) fun s8 h8=>za 0 Z (qak Z Z Z (gc2.le (e5.t h8)) Z) Z<|H1 ?_;refine za 2 Z (qak Z Z Z (gc3.le (e5.t h8)) Z) Z<|H1 ?_;have e8:=e5.t h8;refine qdB 4 9 V ?_ ?_
 ·refine qbV Z Tt (first:=[]) (captured:=[.pointer (some ⟨b5,0,none⟩)]) Z Z Z (AP.fr (fun L=>hE L _ c N f d (qcj x.args 1) _ m1 iv1 ov1 R1 (hC.le e8) hn (hv2.le e8) (hM1.le (h2.t h5|>.t h8)) (qbK hq hr)) [] _) ?_ ?_
  ·rintro _ _ sx9 hx9 ⟨hp9,mf9,sf9,cf9,Zf9,he9,rfl,hF9⟩ fr9;repeat (first|refine qbC ?_|refine qbh ?_)
   refine qbZ [] _ Pr (e8|>.t hx9) fun _ hS2=>?_;exact ⟨hp9,mf9,sf9,cf9,Zf9,qg0 hq he9,rfl,hF9⟩
  rintro _ _ s9 h9 ⟨a9,m9,iv9,ov9,R9,he9,⟨rfl,hu9⟩,rfl,hM9⟩;refine ⟨(fun x hx=>by cases hx),?_⟩;rw [he9] at hq;simp only [ER.and] at hq;simp only [cQ9,nQ9];refine qdB 5 9 V ?_ ?_;·refine Jb Z Tt Z Z Z (qc6 D _ _ x.op a1 a9 hu1 hu9) ?_;rintro _ _ s10 h10 ⟨rfl,rfl⟩;refine ⟨(fun x hx=>by cases hx),?_⟩;refine H3 ?_;refine qaq 9 V<|qaK Z Tt Z [_,_] Z Z fun β11 s11 h11=>H1 ?_;refine qaq 11 V<|Wu Z Tt 0 [_,_] Y9 (fun x hx=>by cases hx)<|qah V<|Zt<|Zs<|Sr<|qae (qaj 0 [_,_] Z Z Z Z Z) Z<|qae (qai [] [_,_] Z Z Z Z Z Z) Z<|qae (qcU Z Z (qb3 _ _ _ _)) Z<|G2 ?_;exact Ez15
  refine qaK Z Tt Z [_,_] Z Z fun β10 s10 h10=>qaq 5 V<|Jb Z Tt Z Z Z (qc6 D _ _ x.op a1 a9 hu1 hu9) ?_;rintro _ _ s11 h11 ⟨rfl,rfl⟩;refine ⟨(fun x hx=>by cases hx),?_⟩;refine H4 ?_;refine qaq 11 V<|Wu Z Tt 0 [_,_] Y9 (fun x hx=>by cases hx)<|qah V<|Zt<|Zs<|Sr<|qae (qaj 0 [_,_] Z Z Z Z Z) Z<|qae (qai [] [_,_] Z Z Z Z Z Z) Z<|qae (qcU Z Z (qb3 _ _ _ _)) Z<|G2 ?_;exact Ez15
 refine qaK Z Tt Z [_,_] Z Z fun β9 s9 h9=>qaq 4 V ?_;have e9:=e8.t h9;refine qbV Z Tt (first:=[]) (captured:=[.pointer (some ⟨b5,0,none⟩)]) Z Z Z (AP.fr (fun L=>hE L _ c N f d (qcj x.args 1) _ m1 iv1 ov1 R1 (hC.le e9) hn (hv2.le e9) (hM1.le (h2.t h5|>.t h8|>.t h9)) (qbK hq hr)) [_] _) ?_ ?_
 ·rintro _ _ sx10 hx10 ⟨hp10,mf10,sf10,cf10,Zf10,he10,rfl,hF10⟩ fr9;repeat (first|refine qbC ?_|refine qbh ?_)
  refine qbZ [_] _ Pr (e9|>.t hx10) fun _ hS2=>?_;exact ⟨hp10,mf10,sf10,cf10,Zf10,qg0 hq he10,rfl,hF10⟩
 rintro _ _ s10 h10 ⟨a10,m10,iv10,ov10,R10,he10,⟨rfl,hu10⟩,rfl,hM10⟩;refine ⟨(fun x hx=>by cases hx),?_⟩;rw [he10] at hq;simp only [ER.and] at hq;simp only [cQ9,nQ9];refine qaq 5 V<|Jb Z Tt Z Z Z (qc6 D _ _ x.op a1 a10 hu1 hu10) ?_;rintro _ _ s11 h11 ⟨rfl,rfl⟩;refine ⟨(fun x hx=>by cases hx),?_⟩;refine H4 ?_;refine qaq 11 V<|Wu Z Tt 0 [_,_] Y9 (fun x hx=>by cases hx)<|qah V<|Zt<|Zs<|Sr<|qae (qaj 0 [_,_] Z Z Z Z Z) Z<|qae (qai [] [_,_] Z Z Z Z Z Z) Z<|qae (qcU Z Z (qb3 _ _ _ _)) Z<|G2 ?_;refine qaR Z ?_ ?_<;>intro c12
 ·have q9:¬ (qhd x.op _).1=0:=fun h=>c12 (by rw [qvQ h];exact ⟨rfl,rfl⟩);refine G2 ?_;refine qbb (first:=[]) (captured:=[]) Z Z Z (qdS D [_] _ _ c N _ m10 iv10 ov10 _ _) ?_ ?_
  ·rintro _ _ sx13 hx13 ⟨hp13,rfl⟩ fr9;repeat (first|refine qbC ?_|refine qbh ?_)
   refine qbZ [_] _ Pr (e9.t h10|>.t h11|>.t hx13) fun _ hS2=>?_;exact ⟨hp13,m10,_,_,_,by rw [hq,if_neg q9],rfl,((hM10.le (h11.t hx13)).fin _ _ _)⟩
  rintro _ _ s13 h13 ⟨⟩
 have q8:=c12.1;rw [if_pos q8] at hq;refine G9 ?_;refine qaT [_] _ (.inr Z) (.t1 Z) Z (e9.t h10|>.t h11) fun _ hS2=>?_;first
   | (exact ⟨_,m10,iv10,ov10,R10,hq,⟨rfl,⟨by decide,by decide⟩⟩,rfl,(hM10.le (h11.t hS2))⟩)
   | (exact ⟨_,m10,iv10,ov10,R10,hq,⟨by rw [if_pos q8];rfl,qpM hu1 hu10⟩,rfl,(hM10.le (h11.t hS2))⟩)
def qxe{r:ER (List Int)}:(r.and fun vs m=>.ok ([]++vs) m)=r:=by cases r<;>rfl
def qBQ{E:Ex→MS→ER Int}{l:List Ex}(h:k < l.length)(pre:List Int)(m:MS):(qbf E (l.drop k) m).and (fun vs m=>.ok (pre++vs) m)=(E (qcj l k) m).and fun v m=>(qbf E (l.drop (k+1)) m).and fun vs m=>.ok ((pre++[v])++vs) m:=by
 have e:qcj l k=l[k]:=by rw [qcj,List.getD_eq_getElem?_getD,List.getElem?_eq_getElem h];rfl
 rw [List.drop_eq_getElem_cons h,qbf,ER.and_assoc,e];congr 1;funext v m;rw [ER.and_assoc];congr 1;funext vs m;simp [ER.and,List.append_assoc]
structure CGi where
 k:Nat
 pre:List Int
 m:MS
 iv:Value
 ov:Value
 R:Hl
 v:Value
 M:Hl
def wvs1(w:List Int)(x:Int):wv (w++[x])=wv w++[.int .u32 x]:=by simp [wv]
def qlG(p:Prg)(D n:Nat)(hE:EOI p D n)(L:Hl)(s:World)(c:MC)(N:Nat)(f:Fnc)(d:Nat)(xs:List Ex)(m:MS)(iv ov:Value)(R:Hl)(hC:CT p c s)(hn:c.nf=f.params.length+f.locals.length)(hM:MG p c N m iv ov R s)(hK:COK p D n)(b1 b2 k:Nat)(fk:Fnc)(A:Option Addr)(n1 z1:Nat)(gc1:CellsAt s b1 0 [.slice A n1 z1])(gc2:CellsAt s b2 0 [.int .i64 (k:Int)])(hA:VeS p f d s A n1 z1 xs)(hp:p.funcs[k]?=some fk)(hl:xs.length=fk.params.length)(hr:((qbf ((sem p OPp n).e f) xs m).and fun vs m=>(sem p OPp n).c k vs m)≠.out):AP prog D 126 [.pointer (some ⟨c.bm,0,none⟩),.pointer (some ⟨b1,0,none⟩),.pointer (some ⟨b2,0,none⟩)] (MB c N 0 m iv ov 0 0::MGb c m::MFb c m::(R++L)) s (okE p c N ((qbf ((sem p OPp n).e f) xs m).and fun vs m=>(sem p OPp n).c k vs m) VE RE [] L) (qeH c N ((qbf ((sem p OPp n).e f) xs m).and fun vs m=>(sem p OPp n).c k vs m) [] L):=by
 obtain ⟨r,hq⟩:∃ r,r=(qbf ((sem p OPp n).e f) xs m).and fun vs m=>(sem p OPp n).c k vs m:=⟨_,rfl⟩;rw [← hq] at hr ⊢;have hf9:=hC.fs fk (List.mem_of_getElem? hp);have hn1:=hA.1;have hc1:=hA.2.1;have hc2:=hA.2.2.1;refine qaZ (fn:=f126) qao func126 V Z ntmps126 Z (rs:=[.tmp 4]) Z [(0,_),(1,_),(2,_)] Z<|G13 ?_;refine qae (qak Z Z Z (gc1.le (Lr D)) Z) Z<|G5 ?_;refine qaH (γ:=CGi) (fun g=>[(0,_),(2,_),(4,_),(5,g.v),(8,_),(9,_),(10,.int .i64 (g.k:Int))]) (fun g=>g.M++(MB c N 0 g.m g.iv g.ov 0 0::MGb c g.m::MFb c g.m::(g.R++L))) (fun g tw=>Le D s tw∧(g.k≤n1∧MG p c N g.m g.iv g.ov g.R tw∧FL.Own 34 1 g.M g.v g.pre.length (wv g.pre)∧g.pre.length=g.k∧(∀ x∈g.pre,U32 x)∧r=((qbf ((sem p OPp n).e f) (xs.drop g.k) g.m).and fun vs m=>.ok (g.pre++vs) m).and fun vs m=>(sem p OPp n).c k vs m)) (fun g=>n1 - g.k) (fun _ _ _ h hl=>⟨h.1.trans hl,⟨h.2.1,h.2.2.1.le hl,h.2.2.2⟩⟩) ⟨0,[],m,iv,ov,R,.slice none 0 0,[]⟩ (.c6 Z Z Z Z Z Z (.cons Z (.nil _))) Z ⟨Le.refl _,⟨Nat.zero_le _,hM.le (Lr D),.nil,Z,fun x hx=>(by cases hx),by rw [hq,List.drop_zero,qxe]⟩⟩ ?_;intro g s1 I1;obtain ⟨j,pre,mk,ivk,ovk,Rk,vk,Mk⟩:=g;obtain ⟨hj0,hMk,hOk,hpl,hup,hq⟩:j≤n1∧MG p c N mk ivk ovk Rk s1∧FL.Own 34 1 Mk vk pre.length (wv pre)∧pre.length=j∧(∀ x∈pre,U32 x)∧r=((qbf ((sem p OPp n).e f) (xs.drop j) mk).and fun vs m=>.ok (pre++vs) m).and fun vs m=>(sem p OPp n).c k vs m:=I1.2;obtain ⟨Av,cv,rfl,_,_⟩:=Own.slice hOk;dsimp only;refine J6 ?_ ?_<;>intro c2
 ·have hj:j < n1:=by omega
  rw [qBQ O,ER.and_assoc] at hq;obtain ⟨B0,o0,b0,hAe,hcE,hvE⟩:=VeS.at_ (hA.le I1.1) hj;subst hAe;refine G6 ?_;refine qae (qaQ Z Z Z Z Z Z hj) Z<|qae (qak Z Z Z (hcE.le (Lr D)) Z) Z<|G7 ?_;refine qbb (first:=[]) (captured:=[.pointer (some ⟨b0,0,none⟩)]) Z Z Z (AP.fr (fun L=>hE L _ c N f d (qcj xs j) _ mk ivk ovk Rk (hC.le I1.1) hn (hvE.le (Lr D)) (hMk.le (Lr D)) (qbK hq hr)) Mk _) ?_ ?_
  ·rintro _ _ sx3 hx3 ⟨hp3,mf3,sf3,cf3,Zf3,he3,rfl,hF3⟩ fr9;repeat (first|refine qbC ?_|refine qbh ?_)
   refine qbZ Mk _ Pr (I1.1.t hx3) fun _ hS2=>?_;exact qEm
  rintro _ _ s3 h3 ⟨a3,m3,iv3,ov3,R3,he3,⟨rfl,hu3⟩,rfl,hM3⟩;rw [he3] at hq;simp only [ER.and] at hq;refine qbd [(_,_)] [_] Z Z Z Z Z Z Z Z Z fun β4 s4 h4 hc4=>qcT (sz:=1) [] Mk _ Z Z Z Z Z Z Z hOk (Row.of_cells (hc4.le (Lr D)) Z Z) ⟨by simp [ti34];omega,by omega⟩ Z ?_;intro v9 M9 s5 h5 oq;obtain ⟨A9,c9,rfl,_,_⟩:=Own.slice oq;simp only [List.nil_append];refine G5 ?_;refine qaV Z Z Z (w64 O O)<|G2 ?_;refine qaf ⟨⟨j+1,pre++[a3],m3,iv3,ov3,R3,_,M9⟩,[],kp,Z,⟨(I1.1.t h3|>.t h4|>.t h5),⟨by show j+1≤n1;omega,(hM3.le (h4.t h5)),by rw [wvs1,List.length_append];exact oq,by simp;omega,fun x hx=>by rcases List.mem_append.1 hx with hx|hx;exact hup x hx;cases List.mem_singleton.1 hx;exact hu3,hq⟩⟩,(by show n1 - (j+1) < n1 - j;omega)⟩
 rw [List.drop_eq_nil_of_le O,qbf] at hq;simp only [ER.and,List.append_nil] at hq;refine G6 ?_;refine qcM [] Mk _ ?_;intro s3 h3 hpub3;have e3:=I1.1.t h3;simp only [cQ9,nQ9];have hW:=Own.wds hOk hup hpub3;refine Zr<|Zqm Z Z<|qae (qak Z Z Z (gc2.le e3) Z) Z<|Zqm Z Z ?_;refine qbb (first:=[]) (captured:=[]) Z Z Z (AP.fr (fun L=>hK L _ c N k fk pre Av pre.length cv mk ivk ovk Rk (hC.le e3) (hW.le (Lr D)) hp O (hMk.le h3) (hq▸hr)) [] _) ?_ ?_
 ·rintro _ _ sx4 hx4 ⟨hp4,mf4,sf4,cf4,Zf4,he4,rfl,hF4⟩ fr9;repeat (first|refine qbC ?_|refine qbh ?_)
  refine qbZ [] _ Pr (e3|>.t hx4) fun _ hS2=>?_;exact ⟨hp4,mf4,sf4,cf4,Zf4,hq.trans he4,rfl,hF4⟩
 rintro _ _ s4 h4 ⟨a4,m4,iv4,ov4,R4,he4,⟨rfl,hu4⟩,rfl,hM4⟩;rw [he4] at hq;simp only [cQ9,nQ9];refine G4 ?_;refine qaT [] _ (.inr Z) (.t1 Z) Z (e3.t h4) fun _ hS2=>?_;exact ⟨_,m4,iv4,ov4,R4,hq,⟨rfl,hu4⟩,rfl,(hM4.le ((Lr D).t hS2))⟩
section
variable{p:Prg}{c:MC}{N:Nat}{m:MS}{iv ov:Value}{R:Hl}{s:World}
theorem qyR{i:Nat}(h:∀ x∈l,U32 x)(hv:U32 v):∀ x∈l.set i v,U32 x:=by grind
def MG.setf(h:MG p c N m iv ov R s)(hv:U32 v)(i:Nat):MG p c N { m with frm:=m.frm.set i v } iv ov R s:=⟨h.inp,h.out,h.ug,qyR h.uf hv,h.ua,h.ng,h.lg,by rw [List.length_set];exact h.lf,h.lb,h.la,h.ar,h.lo,h.lc,h.ll,h.lN⟩
def MG.setg(h:MG p c N m iv ov R s)(hv:U32 v)(i:Nat):MG p c N { m with glo:=m.glo.set i v } iv ov R s:=⟨h.inp,h.out,qyR h.ug hv,h.uf,h.ua,h.ng,by rw [List.length_set];exact h.lg,h.lf,h.lb,h.la,h.ar,h.lo,h.lc,h.ll,h.lN⟩
end
def MG.arU(hM:MG p c N m iv ov R s)(hg:qdJ p nm=(k:Int)):∀ x∈qes p nm m,U32 x:=fun x hx=>by
 exact Ez53
def qDl{T:Stm→MS→ER (Int×Int)}{l:List Stm}{x:Stm}(h:l[k]?=some x)(m:MS):qbl T (l.drop k) m=(T x m).and fun y m=>if y.1=0 then qbl T (l.drop (k+1)) m else .ok y m:=by
 obtain ⟨hl,rfl⟩:=List.getElem?_eq_some_iff.1 h;rw [List.drop_eq_getElem_cons hl,qbl]
structure RG where
 k:Nat
 m:MS
 iv:Value
 ov:Value
 R:Hl
def qmn(p:Prg)(D n:Nat)(hT:TOK p D n)(L:Hl)(s:World)(c:MC)(N:Nat)(f:Fnc)(d:Nat)(xs:List Stm)(m:MS)(iv ov:Value)(R:Hl)(hC:CT p c s)(hn:c.nf=f.params.length+f.locals.length)(hM:MG p c N m iv ov R s)(A:Option Addr)(n1 z1:Nat)(hA:VsS p f d s A n1 z1 xs)(hr:qbl ((sem p OPp n).t f) xs m≠.out):AP prog D 85 [.pointer (some ⟨c.bm,0,none⟩),.slice A n1 z1] (MB c N 0 m iv ov 0 0::MGb c m::MFb c m::(R++L)) s (okE p c N (qbl ((sem p OPp n).t f) xs m) VS RS [] L) (qeH c N (qbl ((sem p OPp n).t f) xs m) [] L):=by
 obtain ⟨r,hq⟩:∃ r,r=qbl ((sem p OPp n).t f) xs m:=⟨_,rfl⟩;rw [← hq] at hr ⊢;have hn1:=hA.1;have hc1:=hA.2.1;have hc2:=hA.2.2.1;refine qaZ (fn:=f85) qao func85 V Z ntmps85 Z (rs:=[.tmp 4]) Z [(0,_),(1,_)] Z<|G14 ?_;refine qaH (γ:=RG) (fun g=>[(0,_),(4,_),(8,_),(9,_),(10,.int .i64 (g.k:Int))]) (fun g=>MB c N 0 g.m g.iv g.ov 0 0::MGb c g.m::MFb c g.m::(g.R++L)) (fun g tw=>Le D s tw∧(g.k≤n1∧MG p c N g.m g.iv g.ov g.R tw∧r=qbl ((sem p OPp n).t f) (xs.drop g.k) g.m)) (fun g=>n1 - g.k) (fun _ _ _ h hl=>⟨h.1.trans hl,⟨h.2.1,h.2.2.1.le hl,h.2.2.2⟩⟩) ⟨0,m,iv,ov,R⟩ (.c5 Z Z Z Z Z (.nil _)) Z ⟨Le.refl _,⟨Nat.zero_le _,hM.le (Lr D),hq⟩⟩ ?_;intro g s1 I1;obtain ⟨j,mk,ivk,ovk,Rk⟩:=g;obtain ⟨hj0,hMk,hq⟩:j≤n1∧MG p c N mk ivk ovk Rk s1∧r=qbl ((sem p OPp n).t f) (xs.drop j) mk:=I1.2;dsimp only;refine J6 ?_ ?_<;>intro c2
 ·have hj:j < n1:=by omega
  obtain ⟨B0,o0,b0,x,hAe,hx,hcE,hvE⟩:=VsS.at_ (hA.le I1.1) hj;subst hAe;rw [qDl hx] at hq;refine G6 ?_;refine qae (qaQ Z Z Z Z Z Z hj) Z<|qae (qak Z Z Z (hcE.le (Lr D)) Z) Z<|G7 ?_;refine qbb (first:=[]) (captured:=[.pointer (some ⟨b0,0,none⟩)]) Z Z Z (AP.fr (fun L=>hT L _ c N f d x _ mk ivk ovk Rk (hC.le I1.1) hn (hvE.le (Lr D)) (hMk.le (Lr D)) (qbK hq hr)) [] _) ?_ ?_
  ·rintro _ _ sx3 hx3 ⟨hp3,mf3,sf3,cf3,Zf3,he3,rfl,hF3⟩ fr9;repeat (first|refine qbC ?_|refine qbh ?_)
   refine qbZ [] _ Pr (I1.1.t hx3) fun _ hS2=>?_;exact qEm
  rintro _ _ s3 h3 ⟨⟨a3,y3⟩,m3,iv3,ov3,R3,he3,⟨rfl,hu3,hz3⟩,rfl,hM3⟩;rw [he3] at hq;simp only [ER.and] at hq;simp only [cQ9,nQ9];refine G9 ?_;refine qaR Z ?_ ?_<;>intro c4
  ·rw [if_neg c4] at hq;refine G12 ?_;refine qaT [] _ (.inr Z) (.t1 Z) Z (I1.1.t h3) fun _ hS2=>?_;first
     | (exact ⟨(_,_),m3,iv3,ov3,R3,hq,⟨rfl,hu3,hz3⟩,rfl,(hM3.le ((Lr D).t hS2))⟩)
     | (exact ⟨(0,0),m3,iv3,ov3,R3,hq,⟨rfl,⟨by decide,by decide⟩,fun _=>rfl⟩,rfl,(hM3.le ((Lr D).t hS2))⟩)
  rw [if_pos c4] at hq;have hz9:=hz3 O;simp only [RS] at *;rw [hz9];refine G4 ?_;refine qaV Z Z Z (w64 O O)<|G2 ?_;refine qaf ⟨⟨j+1,m3,iv3,ov3,R3⟩,[],kp,Z,⟨(I1.1.t h3),⟨by show j+1≤n1;omega,(hM3.le (Lr D)),hq⟩⟩,(by show n1 - (j+1) < n1 - j;omega)⟩
 rw [List.drop_eq_nil_of_le O,qbl] at hq;refine G11 ?_;refine qaT [] _ (.inr Z) (.t1 Z) Z I1.1 fun _ hS2=>?_;first
   | (exact ⟨(_,_),mk,ivk,ovk,Rk,hq,⟨rfl,hu0,hz0⟩,rfl,(hMk.le ((Lr D).t hS2))⟩)
   | (exact ⟨(0,0),mk,ivk,ovk,Rk,hq,⟨rfl,⟨by decide,by decide⟩,fun _=>rfl⟩,rfl,(hMk.le ((Lr D).t hS2))⟩)
def Cz75{p:Prop} (h:p:=by
 exact ⟨(0,0),{ m2 with frm:=m2.frm.set (qa0 f x.name).toNat a2 },iv2,ov2,R2,hq,⟨rfl,⟨by decide,by decide⟩,fun _=>rfl⟩,rfl,((hM2.setf hu2 _).le ((Lr D).t hS2))⟩):p:=h
def qyT(p:Prg)(D n:Nat)(hE:EOI p D n)(L:Hl)(s:World)(c:MC)(N:Nat)(f:Fnc)(d:Nat)(x:Stm)(m:MS)(iv ov:Value)(R:Hl)(hC:CT p c s)(hn:c.nf=f.params.length+f.locals.length)(hM:MG p c N m iv ov R s)(b1 b2 b4:Nat)(hk:x.kind=1)(h0:0≤qa0 f x.name)(hl:qa0 f x.name < ((f.params.length+f.locals.length:Nat):Int))(gc1:CellsAt s b1 0 [.func (.func 119) #[] #[.pointer (some ⟨b4,0,none⟩)]])(gc2:CellsAt s b2 0 [.int .i64 (qa0 f x.name)])(hv:VeR p f d s (qcj x.exprs 0) [.func (.func 119) #[] #[.pointer (some ⟨b4,0,none⟩)]])(hr:sX p (sem p OPp n) f x m≠.out):AP prog D 121 [.pointer (some ⟨c.bm,0,none⟩),.pointer (some ⟨b1,0,none⟩),.pointer (some ⟨b2,0,none⟩)] (MB c N 0 m iv ov 0 0::MGb c m::MFb c m::(R++L)) s (okE p c N (sX p (sem p OPp n) f x m) VS RS [] L) (qeH c N (sX p (sem p OPp n) f x m) [] L):=by
 obtain ⟨r,hq⟩:∃ r,r=sX p (sem p OPp n) f x m:=⟨_,rfl⟩;rw [← hq] at hr ⊢;rw [sX,if_pos hk] at hq;have hl3:qa0 f x.name < (c.nf:Int):=by rw [hn];exact hl
 refine qaZ (fn:=f121) qao func121 V Z ntmps121 Z (rs:=[.tmp 4]) Z [(0,_),(1,_),(2,_)] Z<|G6 ?_;refine qaL qab 10 Z ([]:Hl) (fun x hx=>by cases hx) fun s1 h1=>H3 ?_;refine za 4 Z (qak Z Z Z (gc2.le h1) Z) Z<|za 5 Z (qak Z Z Z (gc1.le h1) Z) Z<|H1 ?_;refine qdB 3 7 V ?_ ?_
 ·refine qbH Z Tt (Wd 0 Y5) Z<|qaq 7 V ?_;refine qbV Z Tt (first:=[]) (captured:=[.pointer (some ⟨b4,0,none⟩)]) Z Z Z (AP.fr (fun L=>hE L _ c N f d (qcj x.exprs 0) _ m iv ov R (hC.le h1) hn (hv.le h1) (hM.le h1) (qbK hq hr)) [] _) ?_ ?_;·exact qu1
  rintro _ _ s2 h2 ⟨a2,m2,iv2,ov2,R2,he2,⟨rfl,hu2⟩,rfl,hM2⟩;refine ⟨(fun x hx=>by cases hx),?_⟩;rw [he2] at hq;simp only [ER.and] at hq;simp only [cQ9,nQ9];rw [qny,if_pos h0] at hq;have hlf:qa0 f x.name < (m2.frm.length:Int):=by rw [hM2.lf];exact hl3
  refine za 8 Z (qc9 Z Z Z Z Z Z h0 hl3) Z<|qaq 9 V<|qd0 Z Tt 2 _ Z Z Z Z Z (qjw h0 hlf) Z (qks _ h0 hlf) Z (fun x hx=>by cases hx)<|qah V<|G7 ?_;refine qaT [] _ (.inr Z) (.t1 Z) Z (h1.t h2) fun _ hS2=>?_;exact Cz75
 refine qbV Z Tt (first:=[]) (captured:=[.pointer (some ⟨b4,0,none⟩)]) Z Z Z (AP.fr (fun L=>hE L _ c N f d (qcj x.exprs 0) _ m iv ov R (hC.le h1) hn (hv.le h1) (hM.le h1) (qbK hq hr)) [] _) ?_ ?_;·exact qu1
 rintro _ _ s2 h2 ⟨a2,m2,iv2,ov2,R2,he2,⟨rfl,hu2⟩,rfl,hM2⟩;refine ⟨(fun x hx=>by cases hx),?_⟩;rw [he2] at hq;simp only [ER.and] at hq;simp only [cQ9,nQ9];rw [qny,if_pos h0] at hq;have hlf:qa0 f x.name < (m2.frm.length:Int):=by rw [hM2.lf];exact hl3
 refine qaq 3 V<|qbH Z Tt (Wd 0 Y5) Z<|za 8 Z (qc9 Z Z Z Z Z Z h0 hl3) Z<|qaq 9 V<|qd0 Z Tt 2 _ Z Z Z Z Z (qjw h0 hlf) Z (qks _ h0 hlf) Z (fun x hx=>by cases hx)<|qah V<|G7 ?_;refine qaT [] _ (.inr Z) (.t1 Z) Z (h1.t h2) fun _ hS2=>?_;exact Cz75
def Cz76{p:Prop} (h:p:=by
 exact ⟨(0,0),{ m2 with glo:=m2.glo.set (k:Int).toNat a2 },iv2,ov2,R2,hq,⟨rfl,⟨by decide,by decide⟩,fun _=>rfl⟩,rfl,((hM2.setg hu2 _).le ((Lr D).t hS2))⟩):p:=h
def qyS(p:Prg)(D n:Nat)(hE:EOI p D n)(L:Hl)(s:World)(c:MC)(N:Nat)(f:Fnc)(d:Nat)(x:Stm)(m:MS)(iv ov:Value)(R:Hl)(hC:CT p c s)(hn:c.nf=f.params.length+f.locals.length)(hM:MG p c N m iv ov R s)(b1 b2 b4 k:Nat)(g:Glo)(hk:x.kind=1)(hs:¬ 0≤qa0 f x.name)(hg:qdJ p x.name=(k:Int))(hp:p.globals[k]?=some g)(gc1:CellsAt s b1 0 [.func (.func 119) #[] #[.pointer (some ⟨b4,0,none⟩)]])(gc2:CellsAt s b2 0 [.int .i64 (k:Int)])(hv:VeR p f d s (qcj x.exprs 0) [.func (.func 119) #[] #[.pointer (some ⟨b4,0,none⟩)]])(hr:sX p (sem p OPp n) f x m≠.out):AP prog D 122 [.pointer (some ⟨c.bm,0,none⟩),.pointer (some ⟨b1,0,none⟩),.pointer (some ⟨b2,0,none⟩)] (MB c N 0 m iv ov 0 0::MGb c m::MFb c m::(R++L)) s (okE p c N (sX p (sem p OPp n) f x m) VS RS [] L) (qeH c N (sX p (sem p OPp n) f x m) [] L):=by
 obtain ⟨r,hq⟩:∃ r,r=sX p (sem p OPp n) f x m:=⟨_,rfl⟩;rw [← hq] at hr ⊢;rw [sX,if_pos hk] at hq;have hkl:=(List.getElem?_eq_some_iff.1 hp).1;have hl3:(k:Int) < (c.ng:Int):=by rw [hM.ng];omega
 have h0:(0:Int)≤(k:Int):=by omega
 refine qaZ (fn:=f122) qao func122 V Z ntmps122 Z (rs:=[.tmp 4]) Z [(0,_),(1,_),(2,_)] Z<|G6 ?_;refine qaL qab 10 Z ([]:Hl) (fun x hx=>by cases hx) fun s1 h1=>H3 ?_;refine za 4 Z (qak Z Z Z (gc2.le h1) Z) Z<|za 5 Z (qak Z Z Z (gc1.le h1) Z) Z<|H1 ?_;refine qdB 3 7 V ?_ ?_
 ·refine qbH Z Tt (Wd 0 Y5) Z<|qaq 7 V ?_;refine qbV Z Tt (first:=[]) (captured:=[.pointer (some ⟨b4,0,none⟩)]) Z Z Z (AP.fr (fun L=>hE L _ c N f d (qcj x.exprs 0) _ m iv ov R (hC.le h1) hn (hv.le h1) (hM.le h1) (qbK hq hr)) [] _) ?_ ?_;·exact qu1
  rintro _ _ s2 h2 ⟨a2,m2,iv2,ov2,R2,he2,⟨rfl,hu2⟩,rfl,hM2⟩;refine ⟨(fun x hx=>by cases hx),?_⟩;rw [he2] at hq;simp only [ER.and] at hq;simp only [cQ9,nQ9];rw [qny,if_neg hs,hg] at hq;have hlf:(k:Int) < (m2.glo.length:Int):=by rw [hM2.lg];exact hl3
  refine za 8 Z (qc9 Z Z Z Z Z Z h0 hl3) Z<|qaq 9 V<|qd0 Z Tt 1 _ Z Z Z Z Z (qjw h0 hlf) Z (qks _ h0 hlf) Z (fun x hx=>by cases hx)<|qah V<|G7 ?_;refine qaT [] _ (.inr Z) (.t1 Z) Z (h1.t h2) fun _ hS2=>?_;exact Cz76
 refine qbV Z Tt (first:=[]) (captured:=[.pointer (some ⟨b4,0,none⟩)]) Z Z Z (AP.fr (fun L=>hE L _ c N f d (qcj x.exprs 0) _ m iv ov R (hC.le h1) hn (hv.le h1) (hM.le h1) (qbK hq hr)) [] _) ?_ ?_;·exact qu1
 rintro _ _ s2 h2 ⟨a2,m2,iv2,ov2,R2,he2,⟨rfl,hu2⟩,rfl,hM2⟩;refine ⟨(fun x hx=>by cases hx),?_⟩;rw [he2] at hq;simp only [ER.and] at hq;simp only [cQ9,nQ9];rw [qny,if_neg hs,hg] at hq;have hlf:(k:Int) < (m2.glo.length:Int):=by rw [hM2.lg];exact hl3
 refine qaq 3 V<|qbH Z Tt (Wd 0 Y5) Z<|za 8 Z (qc9 Z Z Z Z Z Z h0 hl3) Z<|qaq 9 V<|qd0 Z Tt 1 _ Z Z Z Z Z (qjw h0 hlf) Z (qks _ h0 hlf) Z (fun x hx=>by cases hx)<|qah V<|G7 ?_;refine qaT [] _ (.inr Z) (.t1 Z) Z (h1.t h2) fun _ hS2=>?_;exact Cz76
def Cz77{p:Prop} (h:p:=by
 exact ⟨hp4,mf4,sf4,cf4,Zf4,qg0 hq he4,rfl,hF4⟩):p:=h
def Cz78{p:Prop} (h:p:=by
 exact ⟨(0,0),{ m4 with arr:=m4.arr.set k ((qes p x.name m4).set a2.toNat a4) },iv4,ov4,R9,hq,⟨rfl,⟨by decide,by decide⟩,fun _=>rfl⟩,rfl,(hM9.le ((Lr D).t hS2))⟩):p:=h
def Ez56{p:Prop} (h:p:=by
 rintro _ _ sx4 hx4 ⟨hp4,mf4,sf4,cf4,Zf4,he4,rfl,hF4⟩ fr9;repeat (first|refine qbC ?_|refine qbh ?_)
 refine qbZ [] _ Pr (h1.t h2|>.t h3|>.t hx4) fun _ hS2=>?_;exact Cz77):p:=h
def Ez26{p:Prop} (h:p:=by
 obtain ⟨R9,hs9,hM9⟩:=hset ((qes p x.name m4).set a2.toNat a4);have hM9:=hM9 _ (hM4.le (Lr D)) (by rw [List.length_set]) (qyR (hM4.arU hg) hu4);refine qd0 Z Tt (i+3) _ Z Z hbi Z Z (qjw hlo O) Z (qks _ hlo O) hs9 (fun x hx=>by cases hx)<|qah V<|G7 ?_;refine qaT [] _ (.inr Z) (.t1 Z) Z (h1.t h2|>.t h3|>.t h4) fun _ hS2=>?_;exact Cz78):p:=h
def qth(p:Prg)(D n:Nat)(hE:EOI p D n)(L:Hl)(s:World)(c:MC)(N:Nat)(f:Fnc)(d:Nat)(x:Stm)(m:MS)(iv ov:Value)(R:Hl)(hC:CT p c s)(hn:c.nf=f.params.length+f.locals.length)(hM:MG p c N m iv ov R s)(b1 b2 k:Nat)(g:Glo)(A:Option Addr)(n1 z1:Nat)(hk:x.kind=2)(hg:qdJ p x.name=(k:Int))(hp:p.globals[k]?=some g)(gc3:g.kind=3)(gc1:CellsAt s b1 0 [.int .i64 (k:Int)])(gc2:CellsAt s b2 0 [.slice A n1 z1])(hA:VeS p f d s A n1 z1 x.exprs)(h1n:1 < n1)(hr:sX p (sem p OPp n) f x m≠.out):AP prog D 82 [.pointer (some ⟨c.bm,0,none⟩),.pointer (some ⟨b1,0,none⟩),.pointer (some ⟨b2,0,none⟩)] (MB c N 0 m iv ov 0 0::MGb c m::MFb c m::(R++L)) s (okE p c N (sX p (sem p OPp n) f x m) VS RS [] L) (qeH c N (sX p (sem p OPp n) f x m) [] L):=by
 obtain ⟨r,hq⟩:∃ r,r=sX p (sem p OPp n) f x m:=⟨_,rfl⟩;rw [← hq] at hr ⊢;rw [qsY hk] at hq;have h0n:0 < n1:=by omega
 obtain ⟨B0,o0,b0,rfl,hcE,hvE⟩:=VeS.at_ hA h0n;obtain ⟨B1,o1,b4,hAe,hcF,hvF⟩:=VeS.at_ hA h1n;simp only [Option.some.injEq,Addr.mk.injEq,and_true] at hAe;obtain ⟨hAe1,hAe2⟩:=hAe;subst hAe1;subst hAe2;obtain ⟨ba,hab,hca,hla,hkn⟩:=hM.ary hC hp gc3 hg;refine qaZ (fn:=f82) qao func82 V Z ntmps82 Z (rs:=[.tmp 4]) Z [(0,_),(1,_),(2,_)] Z<|G6 ?_;refine qaL qab 7 Z ([]:Hl) (fun x hx=>by cases hx) fun s1 h1=>H1 ?_;refine za 1 Z (qak Z Z Z (gc1.le h1) Z) Z<|za 2 Z (qak Z Z Z (gc2.le h1) Z) Z<|za 3 Z (qaQ Z Z Z Z Z Z h0n) Z<|za 4 Z (qak Z Z Z (hcE.le h1) Z) Z<|qaq 5 V ?_;refine qbV Z Tt (first:=[]) (captured:=[]) Z Z Z (AP.fr (fun L=>qiE p D n hE L _ c N f d (qcj x.exprs 0) x.name k b0 g m iv ov R (hC.le h1) hn (hM.le h1) hg hp gc3 (hvE.le h1) (qbK hq hr)) [] _) ?_ ?_;·exact qu1
 rintro _ _ s2 h2 ⟨a2,m2,iv2,ov2,R2,he2,⟨rfl,hu2⟩,rfl,hM2⟩;have e2:=h1.t h2;refine ⟨(fun x hx=>by cases hx),?_⟩;rw [he2] at hq;simp only [ER.and] at hq;simp only [cQ9,nQ9];have hia:=qx4 he2;have hui:=hu2;have hlo:=hu2.1;obtain ⟨_,_,_,hla1,_⟩:=hM2.ary (hC.le e2) hp gc3 hg;refine H1 ?_;refine qah V<|Zt<|Zs<|qaL qab 15 Z ([]:Hl) (fun x hx=>by cases hx) fun s3 h3=>H3 ?_;refine za 4 Z (qak Z Z Z (gc1.le (e2.t h3)) Z) Z<|H1 ?_;refine za 8 Z (qak Z Z Z (gc2.le (e2.t h3)) Z) Z<|za 9 Z (qaQ Z Z Z Z Z Z h1n) Z<|za 10 Z (qak Z Z Z (hcF.le (e2.t h3)) Z) Z<|H1 ?_;have e3:=e2.t h3;refine qdB 3 12 V ?_ ?_
 ·refine qbH Z Tt (Wd 0 Y5) Z<|za 5 Z (qaQ Z Z Z Z Z Z hkn) Z<|za 6 Z (qak Z Z Z (hca.le e3) Z) Z<|qaq 12 V ?_;refine qbV Z Tt (first:=[]) (captured:=[.pointer (some ⟨b4,0,none⟩)]) Z Z Z (AP.fr (fun L=>hE L _ c N f d (qcj x.exprs 1) _ m2 iv2 ov2 R2 (hC.le e3) hn (hvF.le e3) (hM2.le h3) (qbK hq hr)) [] _) ?_ ?_;·exact Ez56
  rintro _ _ s4 h4 ⟨a4,m4,iv4,ov4,R4,he4,⟨rfl,hu4⟩,rfl,hM4⟩;refine ⟨(fun x hx=>by cases hx),?_⟩;rw [he4] at hq;simp only [ER.and] at hq;simp only [cQ9,nQ9];obtain ⟨_,_,_,hla2,_⟩:=hM4.ary (hC.le (e3.t h4)) hp gc3 hg;obtain ⟨i,hbi,hset⟩:=hM4.blk hab hkn hg (MB c N 0 m4 iv4 ov4 0 0) (MGb c m4) (MFb c m4) L;rw [hg,Int.toNat_natCast] at hq;refine za 13 Z (qc9 Z Z Z Z Z Z hlo (show a2 < ((g.num.toNat:Nat):Int) by omega)) Z<|qaq 14 V ?_;exact Ez26
 refine qbV Z Tt (first:=[]) (captured:=[.pointer (some ⟨b4,0,none⟩)]) Z Z Z (AP.fr (fun L=>hE L _ c N f d (qcj x.exprs 1) _ m2 iv2 ov2 R2 (hC.le e3) hn (hvF.le e3) (hM2.le h3) (qbK hq hr)) [] _) ?_ ?_;·exact Ez56
 rintro _ _ s4 h4 ⟨a4,m4,iv4,ov4,R4,he4,⟨rfl,hu4⟩,rfl,hM4⟩;refine ⟨(fun x hx=>by cases hx),?_⟩;rw [he4] at hq;simp only [ER.and] at hq;simp only [cQ9,nQ9];obtain ⟨_,_,_,hla2,_⟩:=hM4.ary (hC.le (e3.t h4)) hp gc3 hg;obtain ⟨i,hbi,hset⟩:=hM4.blk hab hkn hg (MB c N 0 m4 iv4 ov4 0 0) (MGb c m4) (MFb c m4) L;rw [hg,Int.toNat_natCast] at hq;refine qaq 3 V<|qbH Z Tt (Wd 0 Y5) Z<|za 5 Z (qaQ Z Z Z Z Z Z hkn) Z<|za 6 Z (qak Z Z Z (hca.le e3) Z) Z<|za 13 Z (qc9 Z Z Z Z Z Z hlo (show a2 < ((g.num.toNat:Nat):Int) by omega)) Z<|qaq 14 V ?_;exact Ez26
def Cz79{p:Prop} (h:p:=by
 exact ⟨_,m3,iv3,ov3,R3,hq,⟨rfl,hu3,hz3⟩,rfl,(hM3.le ((Lr D).t hS2))⟩):p:=h
def Ez41{p:Prop} (h:p:=by
 rintro _ _ sx3 hx3 ⟨hp3,mf3,sf3,cf3,Zf3,he3,rfl,hF3⟩ fr9;repeat (first|refine qbC ?_|refine qbh ?_)
 refine qbZ [] _ Pr (h1.t hx3) fun _ hS2=>?_;exact ⟨hp3,mf3,sf3,cf3,Zf3,hq.trans he3,rfl,hF3⟩):p:=h
def qxE(p:Prg)(D n:Nat)(hE:EOI p D n)(hT:TOK p D n)(L:Hl)(s:World)(c:MC)(N:Nat)(f:Fnc)(d:Nat)(x:Stm)(m:MS)(iv ov:Value)(R:Hl)(hC:CT p c s)(hn:c.nf=f.params.length+f.locals.length)(hM:MG p c N m iv ov R s)(b1 b2 b3:Nat)(A:Option Addr)(n1 z1:Nat)(B:Option Addr)(n2 z2:Nat)(G:Option Addr)(n3 z3:Nat)(hk:x.kind=3)(gc1:CellsAt s b1 0 [.slice A n1 z1])(gc2:CellsAt s b2 0 [.slice B n2 z2])(gc3:CellsAt s b3 0 [.slice G n3 z3])(hA:VeS p f d s A n1 z1 x.exprs)(h0n:0 < n1)(hB:VsS p f d s B n2 z2 x.body)(hG:VsS p f d s G n3 z3 x.els)(hr:sX p (sem p OPp n) f x m≠.out):AP prog D 84 [.pointer (some ⟨c.bm,0,none⟩),.pointer (some ⟨b1,0,none⟩),.pointer (some ⟨b2,0,none⟩),.pointer (some ⟨b3,0,none⟩)] (MB c N 0 m iv ov 0 0::MGb c m::MFb c m::(R++L)) s (okE p c N (sX p (sem p OPp n) f x m) VS RS [] L) (qeH c N (sX p (sem p OPp n) f x m) [] L):=by
 obtain ⟨r,hq⟩:∃ r,r=sX p (sem p OPp n) f x m:=⟨_,rfl⟩;rw [← hq] at hr ⊢;rw [sX,if_neg O,if_neg O,if_pos hk] at hq;obtain ⟨B0,o0,b0,rfl,hcE,hvE⟩:=VeS.at_ hA h0n;refine qaZ (fn:=f84) qao func84 V Z ntmps84 Z (rs:=[.tmp 5]) Z [(0,_),(1,_),(2,_),(3,_)] Z<|G8 ?_;refine X2 ?_;refine qbb (first:=[]) (captured:=[.pointer (some ⟨b0,0,none⟩)]) Z Z Z (AP.fr (fun L=>hE L _ c N f d (qcj x.exprs 0) _ m iv ov R (hC.le (Lr D)) hn (hvE.le (Lr D)) (hM.le (Lr D)) (qbK hq hr)) [] _) ?_ ?_;·exact qwn
 rintro _ _ s1 h1 ⟨a1,m1,iv1,ov1,R1,he1,⟨rfl,hu1⟩,rfl,hM1⟩;rw [he1] at hq;simp only [ER.and] at hq;simp only [cQ9,nQ9];refine G3 ?_;refine qaR Z ?_ ?_<;>intro c2
 ·rw [if_pos c2] at hq;refine Sr<|Zqm Z Z<|qae (qak Z Z Z (gc2.le h1) Z) Z ?_;refine qbb (first:=[]) (captured:=[]) Z Z Z (AP.fr (fun L=>qmn p D n hT L _ c N f d x.body m1 iv1 ov1 R1 (hC.le h1) hn (hM1.le (Lr D)) B n2 z2 (hB.le h1) (hq▸hr)) [] _) ?_ ?_;·exact Ez41
  rintro _ _ s3 h3 ⟨a3,m3,iv3,ov3,R3,he3,⟨rfl,hu3,hz3⟩,rfl,hM3⟩;rw [he3] at hq;simp only [cQ9,nQ9];refine G5 ?_;refine qaT [] _ (.inr Z) (.t1 Z) Z (h1.t h3) fun _ hS2=>?_;exact Cz79
 rw [if_neg (by simpa using c2)] at hq;refine G5 ?_;refine qae (qak Z Z Z (gc3.le h1) Z) Z ?_;refine qbb (first:=[]) (captured:=[]) Z Z Z (AP.fr (fun L=>qmn p D n hT L _ c N f d x.els m1 iv1 ov1 R1 (hC.le h1) hn (hM1.le (Lr D)) G n3 z3 (hG.le h1) (hq▸hr)) [] _) ?_ ?_;·exact Ez41
 rintro _ _ s3 h3 ⟨a3,m3,iv3,ov3,R3,he3,⟨rfl,hu3,hz3⟩,rfl,hM3⟩;rw [he3] at hq;simp only [cQ9,nQ9];refine G4 ?_;refine qaT [] _ (.inr Z) (.t1 Z) Z (h1.t h3) fun _ hS2=>?_;exact Cz79
theorem qyQ{x:Stm}(hk:x.kind=4):sX p S f x m=S.w f (qcj x.exprs 0) x.body m:=by grind [sX]
theorem qyP{x:Stm}(hk:x.kind=5):sX p S f x m=((qbf (S.e f) x.exprs m).and fun vs m=>S.c (qiv p x.name).toNat vs m).and fun _ m=>.ok (0,0) m:=by grind [sX,ER.and_assoc]
def MG.put(h:MG p c N m iv ov R s){b:UInt8}{ov':Value}{Mo:Hl}(hl:m.out.length < 20000)(hO:FL.Own 5 1 Mo ov' (m.out++[b]).length (bv (m.out++[b]))):MG p c N { m with out:=m.out++[b] } iv ov' (qdO c.ab m.arr++Mo) s:=⟨h.inp,⟨Mo,rfl,hO⟩,h.ug,h.uf,h.ua,h.ng,h.lg,h.lf,h.lb,h.la,h.ar,by simp;omega,h.lc,h.ll,h.lN⟩
def bvs1(w:List UInt8)(x:UInt8):bv (w++[x])=bv w++[.int .u8 (x.toNat:Int)]:=by simp [bv]
structure WG where
 j:Nat
 m:MS
 iv:Value
 ov:Value
 R:Hl
def Cz80{p:Prop} (h:p:=by
 first
  | (exact ⟨(_,_),m4,iv4,ov4,R4,hq,⟨rfl,hu4,hz4⟩,rfl,(hM4.le ((Lr D).t hS2))⟩)
  | (exact ⟨(0,0),m4,iv4,ov4,R4,hq,⟨rfl,⟨by decide,by decide⟩,fun _=>rfl⟩,rfl,(hM4.le ((Lr D).t hS2))⟩)):p:=h
def qyi(p:Prg)(D n:Nat)(ihE:∀ j,j≤n→EOI p D j)(ihT:∀ j,j≤n→TOK p D j)(L:Hl)(s:World)(c:MC)(N:Nat)(f:Fnc)(d:Nat)(x:Stm)(m:MS)(iv ov:Value)(R:Hl)(hC:CT p c s)(hn:c.nf=f.params.length+f.locals.length)(hM:MG p c N m iv ov R s)(b1 b2:Nat)(A:Option Addr)(n1 z1:Nat)(B:Option Addr)(n2 z2:Nat)(hk:x.kind=4)(gc1:CellsAt s b1 0 [.slice A n1 z1])(gc2:CellsAt s b2 0 [.slice B n2 z2])(hA:VeS p f d s A n1 z1 x.exprs)(h0n:0 < n1)(hB:VsS p f d s B n2 z2 x.body)(hr:sX p (sem p OPp n) f x m≠.out):AP prog D 86 [.pointer (some ⟨c.bm,0,none⟩),.pointer (some ⟨b1,0,none⟩),.pointer (some ⟨b2,0,none⟩)] (MB c N 0 m iv ov 0 0::MGb c m::MFb c m::(R++L)) s (okE p c N (sX p (sem p OPp n) f x m) VS RS [] L) (qeH c N (sX p (sem p OPp n) f x m) [] L):=by
 obtain ⟨r,hq⟩:∃ r,r=sX p (sem p OPp n) f x m:=⟨_,rfl⟩;rw [← hq] at hr ⊢;rw [qyQ hk] at hq;obtain ⟨B0,o0,b0,rfl,hcE,hvE⟩:=VeS.at_ hA h0n;refine qaZ (fn:=f86) qao func86 V Z ntmps86 Z (rs:=[.tmp 4]) Z [(0,_),(1,_),(2,_)] Z<|G7 ?_;refine qaH (γ:=WG) (fun g=>[(0,_),(1,_),(2,_),(4,_)]) (fun g=>MB c N 0 g.m g.iv g.ov 0 0::MGb c g.m::MFb c g.m::(g.R++L)) (fun g tw=>Le D s tw∧(g.j≤n∧MG p c N g.m g.iv g.ov g.R tw∧r=(sem p OPp g.j).w f (qcj x.exprs 0) x.body g.m)) (fun g=>g.j) (fun _ _ _ h hl=>⟨h.1.trans hl,⟨h.2.1,h.2.2.1.le hl,h.2.2.2⟩⟩) ⟨n,m,iv,ov,R⟩ (.c4 Z Z Z Z (.nil _)) Z ⟨Le.refl _,⟨Nat.le_refl _,hM.le (Lr D),hq⟩⟩ ?_;intro g s1 I1;obtain ⟨j,mk,ivk,ovk,Rk⟩:=g;obtain ⟨hj0,hMk,hq⟩:j≤n∧MG p c N mk ivk ovk Rk s1∧r=(sem p OPp j).w f (qcj x.exprs 0) x.body mk:=I1.2;obtain ⟨j,rfl⟩:∃ i,j=i+1:=by
   cases j with
   | zero=>exact absurd hq hr
   | succ i=>exact ⟨i,rfl⟩
 change r=wX (sem p OPp j) f (qcj x.exprs 0) x.body mk at hq;rw [wX] at hq;have hE:=ihE j O;have hT:=ihT j O;refine Zs<|Sr<|qae (qak Z Z Z (gc1.le I1.1) Z) Z<|qae (qaQ Z Z Z Z Z Z h0n) Z<|qae (qak Z Z Z (hcE.le I1.1) Z) Z<|Zqm Z Z ?_;refine qbb (first:=[]) (captured:=[.pointer (some ⟨b0,0,none⟩)]) Z Z Z (AP.fr (fun L=>hE L _ c N f d (qcj x.exprs 0) _ mk ivk ovk Rk (hC.le I1.1) hn (hvE.le I1.1) (hMk.le (Lr D)) (qbK hq hr)) [] _) ?_ ?_
 ·rintro _ _ sx2 hx2 ⟨hp2,mf2,sf2,cf2,Zf2,he2,rfl,hF2⟩ fr9;repeat (first|refine qbC ?_|refine qbh ?_)
  refine qbZ [] _ Pr (I1.1.t hx2) fun _ hS2=>?_;exact Cz69
 rintro _ _ s2 h2 ⟨a2,m2,iv2,ov2,R2,he2,⟨rfl,hu2⟩,rfl,hM2⟩;have e2:=I1.1.t h2;rw [he2] at hq;simp only [ER.and] at hq;refine G3 ?_;refine qaR Z ?_ ?_<;>intro c3
 ·rw [if_neg c3] at hq;refine G6 ?_;refine qae (qak Z Z Z (gc2.le e2) Z) Z ?_;refine qbb (first:=[]) (captured:=[]) Z Z Z (AP.fr (fun L=>qmn p D j hT L _ c N f d x.body m2 iv2 ov2 R2 (hC.le e2) hn (hM2.le (Lr D)) B n2 z2 (hB.le e2) (qbK hq hr)) [] _) ?_ ?_
  ·rintro _ _ sx4 hx4 ⟨hp4,mf4,sf4,cf4,Zf4,he4,rfl,hF4⟩ fr9;repeat (first|refine qbC ?_|refine qbh ?_)
   refine qbZ [] _ Pr (e2|>.t hx4) fun _ hS2=>?_;exact Cz77
  rintro _ _ s4 h4 ⟨⟨a4,y4⟩,m4,iv4,ov4,R4,he4,⟨rfl,hu4,hz4⟩,rfl,hM4⟩;rw [he4] at hq;simp only [ER.and] at hq;refine J9 ?_ ?_<;>intro c5;·rw [if_pos c5] at hq;have hz9:=hz4 O;simp only [RS] at *;rw [hz9];refine Zl<|Ze Z<|G9 ?_;refine qaT [] _ (.inr Z) (.t1 Z) Z (e2.t h4) fun _ hS2=>?_;exact Cz80
  rw [if_neg c5] at hq;refine J6 ?_ ?_<;>intro c6;·rw [if_pos c6] at hq;refine G11 ?_;refine qaT [] _ (.inr Z) (.t1 Z) Z (e2.t h4) fun _ hS2=>?_;exact Cz80
  rw [if_neg c6] at hq;have hz9:=hz4 O;simp only [RS] at *;rw [hz9];refine G2 ?_;refine qaf ⟨⟨j,m4,iv4,ov4,R4⟩,[],kp,Z,⟨(e2.t h4),⟨by show j≤n;omega,(hM4.le (Lr D)),hq⟩⟩,(by show j < j+1;omega)⟩
 rw [if_pos (by simpa using c3)] at hq;refine G11 ?_;refine qaT [] _ (.inr Z) (.t1 Z) Z e2 fun _ hS2=>?_;first
   | (exact ⟨(_,_),m2,iv2,ov2,R2,hq,⟨rfl,hu2,hz2⟩,rfl,(hM2.le ((Lr D).t hS2))⟩)
   | (exact ⟨(0,0),m2,iv2,ov2,R2,hq,⟨rfl,⟨by decide,by decide⟩,fun _=>rfl⟩,rfl,(hM2.le ((Lr D).t hS2))⟩)
def qsZ(p:Prg)(D n:Nat)(hE:EOI p D n)(L:Hl)(s:World)(c:MC)(N:Nat)(f:Fnc)(d:Nat)(x:Stm)(m:MS)(iv ov:Value)(R:Hl)(hC:CT p c s)(hn:c.nf=f.params.length+f.locals.length)(hM:MG p c N m iv ov R s)(hK:COK p D n)(b1 be bi k:Nat)(fk:Fnc)(A:Option Addr)(n1 z1:Nat)(hk:x.kind=5)(gc1:CellsAt s b1 0 [.func (.func 126) #[] #[.pointer (some ⟨be,0,none⟩),.pointer (some ⟨bi,0,none⟩)]])(he:CellsAt s be 0 [.slice A n1 z1])(hi:CellsAt s bi 0 [.int .i64 (k:Int)])(hA:VeS p f d s A n1 z1 x.exprs)(hg:qiv p x.name=(k:Int))(hp:p.funcs[k]?=some fk)(hl:x.exprs.length=fk.params.length)(hr:sX p (sem p OPp n) f x m≠.out):AP prog D 88 [.pointer (some ⟨c.bm,0,none⟩),.pointer (some ⟨b1,0,none⟩)] (MB c N 0 m iv ov 0 0::MGb c m::MFb c m::(R++L)) s (okE p c N (sX p (sem p OPp n) f x m) VS RS [] L) (qeH c N (sX p (sem p OPp n) f x m) [] L):=by
 obtain ⟨r,hq⟩:∃ r,r=sX p (sem p OPp n) f x m:=⟨_,rfl⟩;rw [← hq] at hr ⊢;rw [qyP hk,hg,Int.toNat_natCast] at hq;refine qaZ (fn:=f88) qao func88 V Z ntmps88 Z (rs:=[.tmp 3]) Z [(0,_),(1,_)] Z<|G7 ?_;refine qae (qak Z Z Z (gc1.le (Lr D)) Z) Z<|Zqm Z Z ?_;refine qbb (first:=[]) (captured:=[.pointer (some ⟨be,0,none⟩),.pointer (some ⟨bi,0,none⟩)]) Z Z Z (AP.fr (fun L=>qlG p D n hE L _ c N f d x.exprs m iv ov R (hC.le (Lr D)) hn (hM.le (Lr D)) hK be bi k fk A n1 z1 (he.le (Lr D)) (hi.le (Lr D)) (hA.le (Lr D)) hp hl (qbK hq hr)) [] _) ?_ ?_;·exact qwn
 rintro _ _ s1 h1 ⟨a1,m1,iv1,ov1,R1,he1,⟨rfl,hu1⟩,rfl,hM1⟩;rw [he1] at hq;simp only [ER.and] at hq;refine G8 ?_;refine qaT [] _ (.inr Z) (.t1 Z) Z h1 fun _ hS2=>?_;exact ⟨(0,0),m1,iv1,ov1,R1,hq,⟨rfl,⟨by decide,by decide⟩,fun _=>rfl⟩,rfl,(hM1.le ((Lr D).t hS2))⟩
def qDj(p:Prg)(D n:Nat)(hE:EOI p D n)(L:Hl)(s:World)(c:MC)(N:Nat)(f:Fnc)(d:Nat)(x:Stm)(m:MS)(iv ov:Value)(R:Hl)(hC:CT p c s)(hn:c.nf=f.params.length+f.locals.length)(hM:MG p c N m iv ov R s)(b1:Nat)(A:Option Addr)(n1 z1:Nat)(hk:x.kind=6)(gc1:CellsAt s b1 0 [.slice A n1 z1])(hA:VeS p f d s A n1 z1 x.exprs)(h0n:0 < n1)(hr:sX p (sem p OPp n) f x m≠.out):AP prog D 89 [.pointer (some ⟨c.bm,0,none⟩),.pointer (some ⟨b1,0,none⟩)] (MB c N 0 m iv ov 0 0::MGb c m::MFb c m::(R++L)) s (okE p c N (sX p (sem p OPp n) f x m) VS RS [] L) (qeH c N (sX p (sem p OPp n) f x m) [] L):=by
 obtain ⟨r,hq⟩:∃ r,r=sX p (sem p OPp n) f x m:=⟨_,rfl⟩;rw [← hq] at hr ⊢;rw [sX,if_neg O,if_neg O,if_neg O,if_neg O,if_neg O,if_pos hk] at hq;obtain ⟨B0,o0,b0,rfl,hcE,hvE⟩:=VeS.at_ hA h0n;refine qaZ (fn:=f89) qao func89 V Z ntmps89 Z (rs:=[.tmp 3]) Z [(0,_),(1,_)] Z<|G8 ?_;refine X2 ?_;refine qbb (first:=[]) (captured:=[.pointer (some ⟨b0,0,none⟩)]) Z Z Z (AP.fr (fun L=>hE L _ c N f d (qcj x.exprs 0) _ m iv ov R (hC.le (Lr D)) hn (hvE.le (Lr D)) (hM.le (Lr D)) (qbK hq hr)) [] _) ?_ ?_;·exact qwn
 rintro _ _ s1 h1 ⟨a1,m1,iv1,ov1,R1,he1,⟨rfl,hu1⟩,rfl,hM1⟩;rw [he1] at hq;simp only [ER.and] at hq;refine G2 ?_;refine X16 ?_;refine qaT [] _ (.inr Z) (.t1 Z) Z h1 fun _ hS2=>?_;exact ⟨(3,a1),m1,iv1,ov1,R1,hq,⟨rfl,hu1,fun h=>absurd rfl h⟩,rfl,(hM1.le ((Lr D).t hS2))⟩
def qDd(p:Prg)(D n:Nat)(hE:EOI p D n)(L:Hl)(s:World)(c:MC)(N:Nat)(f:Fnc)(d:Nat)(x:Stm)(m:MS)(iv ov:Value)(R:Hl)(hC:CT p c s)(hn:c.nf=f.params.length+f.locals.length)(hM:MG p c N m iv ov R s)(b1:Nat)(A:Option Addr)(n1 z1:Nat)(hk:x.kind=7)(gc1:CellsAt s b1 0 [.slice A n1 z1])(hA:VeS p f d s A n1 z1 x.exprs)(h0n:0 < n1)(hr:sX p (sem p OPp n) f x m≠.out):AP prog D 90 [.pointer (some ⟨c.bm,0,none⟩),.pointer (some ⟨b1,0,none⟩)] (MB c N 0 m iv ov 0 0::MGb c m::MFb c m::(R++L)) s (okE p c N (sX p (sem p OPp n) f x m) VS RS [] L) (qeH c N (sX p (sem p OPp n) f x m) [] L):=by
 obtain ⟨r,hq⟩:∃ r,r=sX p (sem p OPp n) f x m:=⟨_,rfl⟩;rw [← hq] at hr ⊢;rw [sX,if_neg O,if_neg O,if_neg O,if_neg O,if_neg O,if_neg O,if_pos hk] at hq;obtain ⟨B0,o0,b0,rfl,hcE,hvE⟩:=VeS.at_ hA h0n;refine qaZ (fn:=f90) qao func90 V Z ntmps90 Z (rs:=[.tmp 3]) Z [(0,_),(1,_)] Z<|G7 ?_;refine X2 ?_;refine qbb (first:=[]) (captured:=[.pointer (some ⟨b0,0,none⟩)]) Z Z Z (AP.fr (fun L=>hE L _ c N f d (qcj x.exprs 0) _ m iv ov R (hC.le (Lr D)) hn (hvE.le (Lr D)) (hM.le (Lr D)) (qbK hq hr)) [] _) ?_ ?_;·exact qwn
 rintro _ _ s1 h1 ⟨a1,m1,iv1,ov1,R1,he1,⟨rfl,hu1⟩,rfl,hM1⟩;rw [he1] at hq;simp only [ER.and] at hq;simp only [cQ9,nQ9];obtain ⟨Mo,hR,hO⟩:=hM1.out;obtain ⟨Ao,co,hov,_,_⟩:=Own.slice hO;subst hov;subst hR;refine G12 ?_;refine qi6 Z Z Z<|J2 ?_ ?_<;>intro c2
 ·have q9:=c2;refine G2 ?_;refine qbb (first:=[]) (captured:=[]) Z Z Z (qdS D [] _ _ c N _ m1 iv1 _ _ _) ?_ ?_;·exact Ez91
  rintro _ _ s3 h3 ⟨⟩
 have q9:=c2;rw [if_neg O] at hq;refine G11 ?_;refine qae (qaC (qgI Z Z Z Z Z) (congrArg (Value.int .u8) (u8w hu1))) Z<|qbd [(_,_)] [_] Z Z Z Z Z Z Z Z Z fun β3 s3 h3 hc3=>qcT (sz:=1) (MB c N 0 m1 iv1 _ 0 0::MGb c m1::MFb c m1::qdO c.ab m1.arr) Mo L (by rw [List.append_assoc];rfl) Z Z Z Z Z Z hO (Row.of_cells (hc3.le (Lr D)) Z Z) ⟨by simp [ti5];omega,by omega⟩ Z ?_;intro v9 M9 s4 h4 oq;obtain ⟨A9,q9,rfl,_,_⟩:=Own.slice oq;rw [← bvs1] at oq;simp only [List.cons_append];rw [← List.append_assoc];refine G3 ?_;refine X16 ?_;refine qaT [] _ (.inr Z) (.t1 Z) Z (h1.t h3|>.t h4) fun _ hS2=>?_;exact ⟨(0,0),{ m1 with out:=m1.out++[UInt8.ofNat a1.toNat] },iv1,_,(qdO c.ab m1.arr++M9),hq,⟨rfl,⟨by decide,by decide⟩,fun _=>rfl⟩,rfl,((hM1.put O (by rw [List.length_append];exact oq)).le (h3.t h4|>.t hS2))⟩
def qs8(p:Prg)(D n:Nat)(hE:EOI p D n)(L:Hl)(s:World)(c:MC)(N:Nat)(f:Fnc)(d:Nat)(x:Stm)(m:MS)(iv ov:Value)(R:Hl)(hC:CT p c s)(hn:c.nf=f.params.length+f.locals.length)(hM:MG p c N m iv ov R s)(b1:Nat)(A:Option Addr)(n1 z1:Nat)(hk:x.kind=8)(gc1:CellsAt s b1 0 [.slice A n1 z1])(hA:VeS p f d s A n1 z1 x.exprs)(h0n:0 < n1)(hr:sX p (sem p OPp n) f x m≠.out):AP prog D 91 [.pointer (some ⟨c.bm,0,none⟩),.pointer (some ⟨b1,0,none⟩)] (MB c N 0 m iv ov 0 0::MGb c m::MFb c m::(R++L)) s (okE p c N (sX p (sem p OPp n) f x m) VS RS [] L) (qeH c N (sX p (sem p OPp n) f x m) [] L):=by
 obtain ⟨r,hq⟩:∃ r,r=sX p (sem p OPp n) f x m:=⟨_,rfl⟩;rw [← hq] at hr ⊢;rw [sX,if_neg O,if_neg O,if_neg O,if_neg O,if_neg O,if_neg O,if_neg O,if_pos hk] at hq;obtain ⟨B0,o0,b0,rfl,hcE,hvE⟩:=VeS.at_ hA h0n;refine qaZ (fn:=f91) qao func91 V Z ntmps91 Z (rs:=[.tmp 3]) Z [(0,_),(1,_)] Z<|G8 ?_;refine X2 ?_;refine qbb (first:=[]) (captured:=[.pointer (some ⟨b0,0,none⟩)]) Z Z Z (AP.fr (fun L=>hE L _ c N f d (qcj x.exprs 0) _ m iv ov R (hC.le (Lr D)) hn (hvE.le (Lr D)) (hM.le (Lr D)) (qbK hq hr)) [] _) ?_ ?_;·exact qwn
 rintro _ _ s1 h1 ⟨a1,m1,iv1,ov1,R1,he1,⟨rfl,hu1⟩,rfl,hM1⟩;rw [he1] at hq;simp only [ER.and] at hq;refine qbb (first:=[]) (captured:=[]) Z Z Z (qdS D [] _ _ c N _ m1 iv1 ov1 _ _) ?_ ?_
 ·rintro _ _ sx2 hx2 ⟨hp2,rfl⟩ fr9;repeat (first|refine qbC ?_|refine qbh ?_)
  refine qbZ [] _ Pr (h1.t hx2) fun _ hS2=>?_;exact ⟨hp2,m1,_,_,_,hq,rfl,((hM1.le hx2).fin _ _ _)⟩
 rintro _ _ s2 h2 ⟨⟩
def qB2(p:Prg)(D n:Nat)(L:Hl)(s:World)(c:MC)(N:Nat)(f:Fnc)(d:Nat)(x:Stm)(m:MS)(iv ov:Value)(R:Hl)(hC:CT p c s)(hn:c.nf=f.params.length+f.locals.length)(hM:MG p c N m iv ov R s)(hk:x.kind=9):AP prog D 92 [.pointer (some ⟨c.bm,0,none⟩)] (MB c N 0 m iv ov 0 0::MGb c m::MFb c m::(R++L)) s (okE p c N (sX p (sem p OPp n) f x m) VS RS [] L) (qeH c N (sX p (sem p OPp n) f x m) [] L):=by
 refine qaZ (fn:=f92) qao func92 V Z ntmps92 Z (rs:=[.tmp 2]) Z [(0,_)] Z<|G11 ?_;refine qaT [] _ (.inr Z) (.t1 Z) Z (Lr D) fun _ hS2=>?_;exact ⟨(1,0),m,iv,ov,R,by rw [sX,if_neg O,if_neg O,if_neg O,if_neg O,if_neg O,if_neg O,if_neg O,if_neg O,if_pos hk],⟨rfl,⟨by decide,by decide⟩,fun _=>rfl⟩,rfl,hM.le ((Lr D).t hS2)⟩
def qxF(p:Prg)(D n:Nat)(L:Hl)(s:World)(c:MC)(N:Nat)(f:Fnc)(d:Nat)(x:Stm)(m:MS)(iv ov:Value)(R:Hl)(hC:CT p c s)(hn:c.nf=f.params.length+f.locals.length)(hM:MG p c N m iv ov R s)(hk:x.kind=10):AP prog D 93 [.pointer (some ⟨c.bm,0,none⟩)] (MB c N 0 m iv ov 0 0::MGb c m::MFb c m::(R++L)) s (okE p c N (sX p (sem p OPp n) f x m) VS RS [] L) (qeH c N (sX p (sem p OPp n) f x m) [] L):=by
 refine qaZ (fn:=f93) qao func93 V Z ntmps93 Z (rs:=[.tmp 2]) Z [(0,_)] Z<|G11 ?_;refine qaT [] _ (.inr Z) (.t1 Z) Z (Lr D) fun _ hS2=>?_;exact ⟨(2,0),m,iv,ov,R,by rw [sX,if_neg O,if_neg O,if_neg O,if_neg O,if_neg O,if_neg O,if_neg O,if_neg O,if_neg O],⟨rfl,⟨by decide,by decide⟩,fun _=>rfl⟩,rfl,hM.le ((Lr D).t hS2)⟩
end Go.Proofs.YtlfiplbamnpgoaaGreatDoor
