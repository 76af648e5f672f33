/- Part 5. -/
import Derived.Test.YtemgonlhniicbaaGreatDoorQ42z4
set_option linter.unusedVariables false
set_option linter.defProp false
set_option linter.unusedSimpArgs false
set_option linter.unnecessarySimpa false
set_option maxRecDepth 100000
set_option maxHeartbeats 8000000
namespace Go.Proofs.YtemgonlhniicbaaGreatDoor
open Go Go.RowKit Go.Proofs.Tryz
def aE:=@List.append_nil
def aO:=@List.perm_append_comm_assoc
def cn:=@List.flatten_nil
def dD:=@List.sum_cons
def eX:=@List.length_mapIdx
def ff:=@List.find?_append
def fG:=@List.dropLast_concat
def ic:=@Bool.and_self
variable{s s0 s':World}{x:iM}{l:List Ex}{k D n b d c i e n1 n2 ty n3 bc ng cg nf cf cc bm lv bb m q1 q2 q3 o a c1 na ck j:Nat}{P:Program}{A A3 A1 A2 Ag Af:iE}{L M K M0:Hl}{v v1 z:Value}{xs R:iz}{es:List (iH×Value×Nat)}{nm w:iH}{y:Nat×Obj}{p:jc}{lp:Int}{dk:TypeDesc}{l1 l2:List iH}{Q:pS}
section
attribute [local irreducible] JC JO JA JB ma mO mX AC fill iy QE Ev my
def Hc{p:Prop} (h:p:=by
 refine ⟨?_,Z⟩;simp only [kU];exact bl Value.bool (bK.2 O)):p:=h
def Hd{p:Prop} (h:p:=by
 refine ⟨?_,Z⟩;simp only [kU];exact bl Value.bool (bR O).symm):p:=h
def qu1(c:Nat)(hc:c<=2000):jU D 172 [iT bc,iB (lv:Int)] ((bc,cb [iB (c:Int)] 189)::L) s λv L' _=>v=.bool (decide (¬ (16 < lv\/2000 < c+1)))/\L'=(bc,cb [iB ((c+1:Nat):Int)] 189)::L:=by
 refine jn (fn:=f172) jb func172 V Z ntmps172 Z (rs:=[.tmp 4]) Z [(0,_),(1,_)] Z<|lw ?_;refine iA (nV (c:=((c+1:Nat):Int)) Z Z Q8) Z<|G2 ?_;refine Wt 0 [_] Y9<|G5 ?_;refine EP Z Z Z<|kb Y2<|?_;refine ld (t:=14) Z ?_ ?_<;>intro c1;.refine G9 ?_;refine EP Z Z Z<|G5 ?_;exact rR [] _ (.t1 Z) Z (Lr D) λ_ iD=>Hc
 refine lM ?_;exact rR [] _ (.t1 Z) Z (Lr D) λ_ iD=>Hd
def He{p:Prop} (h:p:=by
 refine ⟨?_,Z⟩;have h9:k=1\/k=2\/k=3\/k=4\/k=5\/k=6\/k=7\/k=8\/k=9\/k=10:=by omega
 rcases h9 with rfl|rfl|rfl|rfl|rfl|rfl|rfl|rfl|rfl|rfl<;>first|rfl|(exfalso;omega)):p:=h
def EU{p:Prop} (h:p:=by
 refine mY ?_;exact rR [] L (.tmp Z (.tmp Z (.tmp Z (.tmp Z (.t1 Z))))) Z (Lr D) λ_ iD=>He):p:=h
def qtg{k:Int}(h1:1<=k)(h2:k<=10):jT D 173 [iB k] L s (.tuple #[iB (wW k:Int),iB (zC k:Int),.bool (Cl k),.bool (decide (k=3\/k=4)),.bool (decide (k=3))]):=by
 refine jn (fn:=f173) jb func173 V Z ntmps173 Z (rs:=[.tmp 2,.tmp 3,.tmp 4,.tmp 5,.tmp 6]) Z [(0,_)] Z<|J22 ?_ ?_<;>intro c1;.exact EU
 refine J6 ?_ ?_<;>intro c2;.exact EU
 refine J6 ?_ ?_<;>intro c3;.exact EU
 refine J6 ?_ ?_<;>intro c4;.exact EU
 refine J6 ?_ ?_<;>intro c5;.exact EU
 refine J7 ?_ ?_<;>intro c6
 .refine J2 ?_ ?_<;>intro c7;.exact EU
  exfalso;omega
 refine J5 ?_ ?_<;>intro c7;.exact EU
 refine mY ?_;refine Zo ?_;exact rR [] L (.tmp Z (.tmp Z (.tmp Z (.tmp Z (.t1 Z))))) Z (Lr D) λ_ iD=>He
def Hf{p:Prop} (h:p:=by
 refine ⟨?_,Z⟩;simp only [kU];unfold wa yE;repeat' split
 all_goals (first|rfl|(exfalso;omega))):p:=h
def Pt{p:Prop} (h:p:=by
 refine G9 ?_;exact rR [] L (.tmp Z (.t1 Z)) Z (Lr D) λ_ iD=>Hf):p:=h
def qrt{k:Int}:jT D 217 [iB k] L s (.tuple #[iB (wa k:Int),iB (yE k:Int)]):=by
 refine jn (fn:=f217) jb func217 V Z ntmps217 Z (rs:=[.tmp 2,.tmp 3]) Z [(0,_)] Z<|J20 ?_ ?_<;>intro c1
 .refine J2 ?_ ?_<;>intro c2;.exact Pt
  exfalso;omega
 refine J5 ?_ ?_<;>intro c2;.exact Pt
 refine J6 ?_ ?_<;>intro c3;.exact Pt
 refine J6 ?_ ?_<;>intro c4;.exact Pt
 refine lM ?_;exact rR [] L (.tmp Z (.t1 Z)) Z (Lr D) λ_ iD=>Hf
def XU{p:Prop} (h:p:=by
 refine lM ?_;exact rX [_] L Z h1 λ_ iD=>Hd):p:=h
def WP{p:Prop} (h:p:=by
 refine G5 ?_;refine EP Z Z Z<|G6 ?_;refine Zu ?_;exact rX [_] L Z h1 λ_ iD=>Hc):p:=h
def qCp{x:Ex}:jT D 216 [.agg #[iB x.kind,iB x.op,iJ x.num,St x.name,.slice A n c]] L s (.bool (decide (¬ ((x.kind=6/\(x.op < 1\/3 < x.op))\/(x.kind=7/\(x.op < 4\/21 < x.op)))))):=by
 refine jn (fn:=f216) jb func216 V Z ntmps216 Z (rs:=[.tmp 2]) Z [(0,_)] Z<|Sr<|kF Y2 λβ1 s1 h1=>MX ?_ ?_<;>intro c2
 .refine G4 ?_;refine va Y3<|kb Y2<|?_;refine ld (t:=10) Z ?_ ?_<;>intro c3;.exact WP
  exact XU
 refine J6 ?_ ?_<;>intro c3
 .refine G4 ?_;refine va Y3<|kb Y2<|?_;refine ld (t:=20) Z ?_ ?_<;>intro c4;.exact WP
  exact XU
 refine G9 ?_;refine rR [_] L (.t1 Z) Z h1 λ_ iD=>?_;refine ⟨?_,Z⟩;simp only [kU];exact bl Value.bool (bL O).symm
def qHZ{g:jv}(h:n=g.init.length):qk g=if g.kind < 1\/3 < g.kind then 5 else if py g.name=false then 7 else if (g.kind≠3/\0 < n)\/(g.kind=2/\g.num≠0) then 6 else if g.kind=3/\(g.num < 1\/40000 < g.num) then 4 else if g.kind=3/\g.num < (n:Int) then 2 else 0:=by
 have hi:g.init≠[]↔0 < n:=by rw [h];exact fP.symm
 simp only [qk,hi,h]
def FL{p:Prop} (h:p:=by
 refine ⟨?_,Z⟩;simp only [kU];rw [qHZ hn];repeat' split
 all_goals (first|rfl|(exfalso;omega)|(exfalso;simp_all;done)|(exfalso;simp_all;omega))):p:=h
def K6{p:Prop} (h:p:=by
 refine G8 ?_;exact rX [_] L Z Lc λ_ iD=>FL):p:=h
def Sx{p:Prop} (h:p:=by
 refine Wa ?_;exact rX [_] L Z Lc λ_ iD=>FL):p:=h
def Nx{p:Prop} (h:p:=by
 refine MT ?_;exact rX [_] L Z Lc λ_ iD=>FL):p:=h
def qrd(hG:GP s){g:jv}(hA:lX s A n c g.init)(hu:iQ g.num):jT D 83 [.agg #[iB g.kind,St g.name,iJ g.num,.slice A n c]] L s (iB (qk g)):=by
 have hn:=hA.1;have oQ:=hu.1;have o4:=hu.2;refine jn (fn:=f83) jb func83 V Z ntmps83 Z (rs:=[.tmp 2]) Z [(0,_)] Z<|Sr<|kF Y2 λβ1 s1 h1=>lw ?_;refine ld (t:=7) Z ?_ ?_<;>intro c2;.refine Dj ?_;exact rX [_] L Z h1 λ_ iD=>FL
 refine tQ ?_ ?_<;>intro c3;.refine G8 ?_;exact rX [_] L Z h1 λ_ iD=>FL
 refine G4 ?_;refine Je Y3 (Kr Pz) λs4 h4=>G4 ?_;refine vZ Z ?_ ?_<;>intro c5;.exact K6
 refine G7 ?_;refine tG (t:=21) Z ?_ ?_<;>intro c6
 .refine x8 ?_ ?_<;>intro c7
  .refine J2 ?_ ?_<;>intro c8;.exact K6
   exfalso;omega
  refine G5 ?_;refine ld (t:=30) Z ?_ ?_<;>intro c8
  .refine lM ?_;refine lL Z ?_ ?_<;>intro c9;.exact K6
   refine G6 ?_;refine ld (t:=39) Z ?_ ?_<;>intro mz
   .refine G8 ?_;refine ld (t:=43) Z ?_ ?_<;>intro nZ;.exact Sx
    refine mY ?_;exact RP
   refine zP ?_;refine ld (t:=53) Z ?_ ?_<;>intro nZ;.refine lw ?_;refine iA (sW Y5 (jq O O)) Z<|G6 ?_;exact RP
   exact Nx
  refine rH ?_;refine ld (t:=39) Z ?_ ?_<;>intro c9
  .refine G8 ?_;refine ld (t:=43) Z ?_ ?_<;>intro mz;.exact Sx
   refine x8 ?_ ?_<;>intro nZ;.exfalso;omega
   exfalso;omega
  refine zP ?_;refine ld (t:=53) Z ?_ ?_<;>intro mz
  .refine lw ?_;refine iA (sW Y5 (jq O O)) Z<|J6 ?_ ?_<;>intro nZ;.exfalso;omega
   exfalso;omega
  exact Nx
 refine rH ?_;refine ld (t:=30) Z ?_ ?_<;>intro c7
 .refine lM ?_;refine lL Z ?_ ?_<;>intro c8;.exfalso;omega
  exfalso;omega
 refine rH ?_;refine ld (t:=39) Z ?_ ?_<;>intro c8
 .refine G8 ?_;refine ld (t:=43) Z ?_ ?_<;>intro c9;.exact Sx
  refine x8 ?_ ?_<;>intro mz;.exact K6
  refine G6 ?_;refine ld (t:=53) Z ?_ ?_<;>intro nZ
  .refine lw ?_;refine iA (sW Y5 (jq O O)) Z<|J6 ?_ ?_<;>intro oL;.exact K6
   refine G9 ?_;exact rX [_] L Z Lc λ_ iD=>FL
  exact Nx
 refine zP ?_;refine ld (t:=53) Z ?_ ?_<;>intro c9
 .refine lw ?_;refine iA (sW Y5 (jq O O)) Z<|J6 ?_ ?_<;>intro mz;.exfalso;omega
  exfalso;omega
 exact Nx
def K3(x:Ex)(lv c:Nat):rr x lv c=if 16 < lv\/2000 < c+1 then (c+1,2) else if ut x.kind x.op x.num x.name x.args.length≠0 then (c+1,ut x.kind x.op x.num x.name x.args.length) else mD x.args (lv+1) (c+1):=by
 cases x;rfl
def UD{x:Ex}(h:l[k]?=some x)(lv c:Nat):mD (l.drop k) lv c=if (rr x lv c).2≠0 then rr x lv c else mD (l.drop (k+1)) lv (rr x lv c).1:=by
 obtain ⟨hk,rfl⟩:=al.1 h;rw [aM hk,mD]
def qzH{p:Prop}[Decidable p]{b:Bool}(h:p):(!b)=decide (p/\b=false):=by cases b<;>simp [h]
section
variable{x:Ex}(hn:n=x.args.length)
include hn
theorem qKG(h:x.kind < 1\/7 < x.kind\/¬ ¬ ((x.kind=6/\(x.op < 1\/3 < x.op))\/(x.kind=7/\(x.op < 4\/21 < x.op)))):ut x.kind x.op x.num x.name x.args.length=5:=by
 have:=hn;rw [ut,au];omega
variable(h5:¬ (x.kind < 1\/7 < x.kind\/¬ ¬ ((x.kind=6/\(x.op < 1\/3 < x.op))\/(x.kind=7/\(x.op < 4\/21 < x.op)))))
include h5
theorem qKI(h:(2<=x.kind/\x.kind<=4)/\py x.name=false):ut x.kind x.op x.num x.name x.args.length=7:=by
 have:=hn;have:=h5;rw [ut,ak O,au ⟨bL h.1,h.2⟩]
variable(h7:¬ ((2<=x.kind/\x.kind<=4)/\py x.name=false))
include h7
theorem qKH(h:(¬ (2<=x.kind/\x.kind<=4)/\x.name≠[])\/(x.kind≠1/\x.num≠0)\/(¬ (x.kind=6\/x.kind=7)/\x.op≠0)\/n < wa x.kind\/yE x.kind < n):ut x.kind x.op x.num x.name x.args.length=6:=by
 rw [ut,ak O,ak (λk=>h7 ⟨cV k.1,k.2⟩),au];rcases h with h|h|h|h|h
 . exact .inl ⟨bR h.1,h.2⟩
 . exact .inr (.inl h)
 . exact .inr (.inr (.inl ⟨O,h.2⟩))
 . exact .inr (.inr (.inr (.inl O)))
 . exact .inr (.inr (.inr (.inr O)))
theorem qKF(h:¬ ((¬ (2<=x.kind/\x.kind<=4)/\x.name≠[])\/(x.kind≠1/\x.num≠0)\/(¬ (x.kind=6\/x.kind=7)/\x.op≠0)\/n < wa x.kind\/yE x.kind < n)):ut x.kind x.op x.num x.name x.args.length=0:=by
 rw [ut,ak O,ak (λk=>h7 ⟨cV k.1,k.2⟩),ak];intro k;refine h ?_;rcases k with k|k|k|k|k
 . exact .inl ⟨dw k.1,k.2⟩
 . exact .inr (.inl k)
 . exact .inr (.inr (.inl ⟨O,k.2⟩))
 . exact .inr (.inr (.inr (.inl O)))
 . exact .inr (.inr (.inr (.inr O)))
end
def qlu(c:Nat)(hc:c<=2000):jU D 172 [iT bc,iB (lv:Int)] (y::(bc,cb [iB (c:Int)] 189)::L) s λv L' _=>v=.bool (decide (¬ (16 < lv\/2000 < c+1)))/\L'=y::(bc,cb [iB ((c+1:Nat):Int)] 189)::L:=
 AC.perm (List.Perm.swap ..) (qu1 c hc) λv L1 s1 ⟨h0,h1⟩=>⟨_,by rw [h1];exact List.Perm.swap ..,h0,rfl⟩
def MP(D d:Nat):Prop:=∀ (L:Hl) (s:World),GP s->∀ (bc c lv:Nat) (A:iE) (n cc:Nat) (l:List Ex),j8 d s A n cc l->c<=2000->lv<=17->jU D 174 [iT bc,.slice A n cc,iB (lv:Int)] ((bc,cb [iB (c:Int)] 189)::L) s λv L' _=>v=iB (mD l lv c).2/\L'=(bc,cb [iB ((mD l lv c).1:Int)] 189)::L
def MP.swap(h:MP D d)(L:Hl)(s:World)(hG:GP s)(y:Nat×Obj)(bc c lv:Nat)(A:iE)(n cc:Nat)(l:List Ex)(hA:j8 d s A n cc l)(hc:c<=2000)(oN:lv<=17):jU D 174 [iT bc,.slice A n cc,iB (lv:Int)] (y::(bc,cb [iB (c:Int)] 189)::L) s λv L' _=>v=iB (mD l lv c).2/\L'=y::(bc,cb [iB ((mD l lv c).1:Int)] 189)::L:=
 AC.perm (List.Perm.swap ..) (h (y::L) s hG bc c lv A n cc l hA hc oN) λv L1 s1 ⟨h0,h1⟩=>⟨_,by rw [h1];exact List.Perm.swap ..,h0,rfl⟩
def Hg{p:Prop} (h:p:=by
 rw [hS,UD hx,hE,au (by simp;done)];exact ⟨rfl,rfl⟩):p:=h
def K7{p:Prop} (h:p:=by
 refine iU (kB.mk (Lr D) Sb Z ((bL O).symm))):p:=h
def zE{p:Prop} (h:p:=by
 refine Zk ?_;refine iU (lY.mk () [] (Lr D) (.cons Kb (.nil _)) So Pr Tt)):p:=h
def Ry{p:Prop} (h:p:=by
 refine G5 ?_;refine iU (kB.mk (Lr D) Sb Z ((bL O).symm))):p:=h
def Xh{p:Prop} (h:p:=by
 rintro _ _ s9 h9 ⟨rfl,rfl⟩;refine G4 ?_;refine iU (kB.mk h9 Sb Z (Ff O))):p:=h
def Xe{p:Prop} (h:p:=by
 refine mY ?_;exact rR [_] _ (.t1 Z) Z Lc λ_ iD=>Hg):p:=h
def Xa{p:Prop} (h:p:=by
 refine mY ?_;refine Zu ?_;exact rR [_] _ (.t1 Z) Z Lc λ_ iD=>Hg):p:=h
def W7{p:Prop} (h:p:=by
 refine G6 ?_;refine iU (kB.mk (Lr D) Sb Z ((bL O).symm))):p:=h
def XV{p:Prop} (h:p:=by
 refine lw ?_;refine rR [] _ (.t1 Z) Z I1.1 λ_ iD=>?_;rw [hS];exact ⟨rfl,rfl⟩):p:=h
def Ps{p:Prop} (h:p:=by
 refine G8 ?_;refine iU (lY.mk () [] (Lr D) (.cons Kb (.nil _)) So Pr Tt)):p:=h
def WS{p:Prop} (h:p:=by
 refine G9 ?_;refine iU (kB.mk (Lr D) Sb Z (bK.2 O))):p:=h
def WO{p:Prop} (h:p:=by
 refine lM ?_;refine iU (kB.mk (Lr D) Sb Z ((bL O).symm))):p:=h
def HN{p:Prop} (h:p:=by
  refine tG (t:=90) Z ?_ ?_<;>intro c24
  .refine lM ?_;refine lL Z ?_ ?_<;>intro zT;.refine Zk ?_;refine iU (lY.mk () [] (Lr D) (.cons Kb (.nil _)) So Pr Tt)
   refine tQ ?_ ?_<;>intro c26;.refine Zk ?_;refine iU (lY.mk () [] (Lr D) (.cons Kb (.nil _)) So Pr Tt)
   refine G8 ?_;refine iU (lY.mk () [] (Lr D) (.cons Kb (.nil _)) So Pr Tt)
  refine Cx ?_ ?_<;>intro zT;.exfalso;omega
  exfalso;omega):p:=h
theorem P'(ih:∀ e,d=e+1->MP D e)(hG:GP s)(c:Nat)(hA:j8 d s A n cc l)(hc:c<=2000)(oN:lv<=17):jU D 174 [iT bc,.slice A n cc,iB (lv:Int)] ((bc,cb [iB (c:Int)] 189)::L) s λv L' _=>v=iB (mD l lv c).2/\L'=(bc,cb [iB ((mD l lv c).1:Int)] 189)::L:=by
 have hn:=hA.1;have nI:=hA.2.1;have pt:=hA.2.2.1;refine jn (fn:=f174) jb func174 V Z ntmps174 Z (rs:=[.tmp 6]) Z [(0,_),(1,_),(2,_)] Z<|rH ?_;refine lJ (γ:=Nat×Nat) (λg=>[(0,_),(2,_),(6,_),(14,_),(15,_),(16,iB (g.1:Int))]) (λg=>(bc,cb [iB (g.2:Int)] 189)::L) (λg tw=>Le D s tw/\(g.1<=n/\g.2<=2000/\mD l lv c=mD (l.drop g.1) lv g.2)) (λg=>n - g.1) (λ_ _ _ h hl=>⟨h.1.trans hl,h.2⟩) (0,c) (.c6 Z Z Z Z Z Z (.nil _)) Z ⟨Le.refl _,⟨aB _,hc,Z⟩⟩ ?_;intro g s1 I1;obtain ⟨k,ck⟩:=g;obtain ⟨ko,Bb,hS⟩:=I1.2;simp only at ko Bb hS;dsimp only;refine J6 ?_ ?_<;>intro c2
 .have hk:k < n:=O
  obtain ⟨e,b,off,x,A',n',c',hd,rfl,hx,hcx,hax,oI,kL⟩:=j8.at_ Pz hk;have hn':=hax.1;refine G6 ?_;refine iA (jK Y6 hk) Z<|iA (ku Y3 Pz Z) Z<|jh Z [_,_,_,_,_] Y2 λβ3 s3 h3=>Wt 0 [_,_,_,_,_] Y9<|G7 ?_;refine Jc Y3 (qlu ck Bb) ?_;rintro _ _ s4 h4 ⟨rfl,rfl⟩;refine G3 ?_;refine lL Z ?_ ?_<;>intro c5
  .have g4:16 < lv\/2000 < ck+1:=by have:=c5;omega
   have hE:rr x lv ck=(ck+1,2):=by rw [K3,au g4]
   exact Xe
  have g4:¬ (16 < lv\/2000 < ck+1):=by have:=c5;omega
  refine G3 ?_;refine rW 36 (x.kind < 1\/7 < x.kind\/¬ ¬ ((x.kind=6/\(x.op < 1\/3 < x.op))\/(x.kind=7/\(x.op < 4\/21 < x.op)))) ?_ ?_
  .refine G5 ?_;refine ld (t:=27) Z ?_ ?_<;>intro c7;.exact WO
   refine G8 ?_;refine ld (t:=32) Z ?_ ?_<;>intro c8;.exact Ry
   refine Zg Z Z<|iA (iZ 0 [_,_,_,_,_] Y5) Z<|Zg Z Z<|Jc Y3 (qCp) ?_;exact Xh
  intro s6 h6;refine mG Z ?_ ?_<;>intro mz
  .have hx5:=qKG hn' mz;have hE:rr x lv ck=(ck+1,5):=by rw [K3,ak g4,au (by rw [hx5];decide),hx5]
   exact Xe
  have g5:=mz;refine G2 ?_;refine rW 9 (2<=x.kind/\x.kind<=4) ?_ ?_
  .refine G5 ?_;refine ld (t:=40) Z ?_ ?_<;>intro oL;.refine lw ?_;exact K7
   refine G8 ?_;refine ld (t:=45) Z ?_ ?_<;>intro pZ;.exact W7
   exact WS
  intro kz jM;refine rW 10 (x.kind=6\/x.kind=7) ?_ ?_
  .refine G5 ?_;refine ld (t:=53) Z ?_ ?_<;>intro vJ;.exact W7
   exact WS
  intro lG kI;refine G4 ?_;refine Je Y3 (qrt) λsB tu=>G9 ?_;refine rW 64 ((2<=x.kind/\x.kind<=4)/\py x.name=false) ?_ ?_
  .refine G3 ?_;refine ld (t:=66) Z ?_ ?_<;>intro yd;.refine G5 ?_;refine Je Y3 (Kr Pz) λBP yh=>G5 ?_;refine iU (kB.mk yh Sb Z ((qzH As)))
   refine G7 ?_;refine iU (kB.mk (Lr D) Sb Z ((bR (λh=>absurd h.1 As)).symm))
  intro vD vm;refine mG Z ?_ ?_<;>intro zS
  .have hx7:=qKI hn' g5 zS;have hE:rr x lv ck=(ck+1,7):=by rw [K3,ak g4,au (by rw [hx7];decide),hx7]
   exact Xa
  have g7:=zS;refine Dw (γ:=Unit) (λ_=>[(72,.bool (decide ((¬ (2<=x.kind/\x.kind<=4)/\x.name≠[])\/(x.kind≠1/\x.num≠0)\/(¬ (x.kind=6\/x.kind=7)/\x.op≠0)\/n' < wa x.kind\/yE x.kind < n')))]) [_,_] Z (λg=>L) (λg tw=>True) (λ_ _ _ h hl=>h) ?_ ?_
  .refine G5 ?_;refine tG (t:=75) Z ?_ ?_<;>intro c21
   .refine G5 ?_;refine JX Z Z Z<|G4 ?_;refine lL Z ?_ ?_<;>intro c22;.exact zE
    refine G5 ?_;refine tG (t:=82) Z ?_ ?_<;>intro c23
    .refine lM ?_;refine lL Z ?_ ?_<;>intro c24;.exact zE
     refine G6 ?_;refine tG (t:=90) Z ?_ ?_<;>intro zT
     .refine lM ?_;refine lL Z ?_ ?_<;>intro c26;.exact zE
      refine tQ ?_ ?_<;>intro c27;.exact zE
      exact Ps
     refine Cx ?_ ?_<;>intro c26;.exact zE
     exact Ps
    refine rH ?_;exact HN
   refine mY ?_;refine kb Y2 ?_;refine tG (t:=82) Z ?_ ?_<;>intro c22
   .refine lM ?_;refine lL Z ?_ ?_<;>intro c23;.exact zE
    refine G6 ?_;exact HN
   refine rH ?_;refine tG (t:=90) Z ?_ ?_<;>intro c23
   .refine lM ?_;refine lL Z ?_ ?_<;>intro c24;.exfalso;omega
    exfalso;omega
   refine Cx ?_ ?_<;>intro c24;.exfalso;omega
   exfalso;omega
  intro g yK qT I20;simp only [jC,jD];refine mG Z ?_ ?_<;>intro zT
  .have hx6:=qKH hn' g5 g7 zT;have hE:rr x lv ck=(ck+1,6):=by rw [K3,ak g4,au (by rw [hx6];decide),hx6]
   exact Xa
  have hE:rr x lv ck=mD x.args (lv+1) (ck+1):=by rw [K3,ak g4,ak (by rw [qKF hn' g5 g7 zT];decide)]
  refine G9 ?_;refine iA (nV Z Z (show IntKind.i64.wrap ((lv:Int)+1)=((lv+1:Nat):Int) by rw [jq O O];simp)) Z<|Jc Y3 ((ih e hd).swap L _ Pz _ bc (ck+1) (lv+1) A' n' c' x.args Pz O O) ?_;rintro _ _ s26 h26 ⟨rfl,rfl⟩;refine G9 ?_;refine lL Z ?_ ?_<;>intro c27;.have g0:=c27;refine mY ?_;refine rR [_] _ (.t1 Z) Z Lc λ_ iD=>?_;rw [hS,UD hx,hE,au g0];exact ⟨rfl,rfl⟩
  have g0:=c27;refine G4 ?_;refine kq Y3 (jq O O)<|G2 ?_;refine iU ⟨(k+1,(mD x.args (lv+1) (ck+1)).1),[_],kp,Z,⟨Lc,⟨Oz,by simp only;have hw:=DD x.args (lv+1) (ck+1) g0;rw [hw.2.1];rcases hw.2.2 with h|h<;>omega,by simp only;rw [hS,UD hx,hE,ak (by rw [g0];decide)]⟩⟩,Oz⟩
 rw [aL O,mD] at hS;exact XV
def WE{D:Nat}:∀ d,MP D d
 | 0=>λL s hG bc c lv A n cc l hA hc oN=>P' (λe h=>O) hG c hA hc oN
 | d+1=>λL s hG bc c lv A n cc l hA hc oN=>P' (d:=d+1) (λe h=>(show d=e by omega)▸WE d) hG c hA hc oN
def GA(x:iP)(lv c:Nat):rq x lv c=if 16 < lv\/2000 < c+1 then (c+1,2) else if vE x.kind x.name x.exprs.length x.body.length x.els.length≠0 then (c+1,vE x.kind x.name x.exprs.length x.body.length x.els.length)
  else if (mD x.exprs 1 (c+1)).2≠0 then mD x.exprs 1 (c+1) else if (mC x.body (lv+1) (mD x.exprs 1 (c+1)).1).2≠0 then mC x.body (lv+1) (mD x.exprs 1 (c+1)).1 else mC x.els (lv+1) (mC x.body (lv+1) (mD x.exprs 1 (c+1)).1).1:=by
 cases x;rfl
def KF{l:List iP}{x:iP}(h:l[k]?=some x)(lv c:Nat):mC (l.drop k) lv c=if (rq x lv c).2≠0 then rq x lv c else mC (l.drop (k+1)) lv (rq x lv c).1:=by
 obtain ⟨hk,rfl⟩:=al.1 h;rw [aM hk,mC]
def Dh(x:iP)(lv c:Nat)(j:Nat):Nat×Int:=if j=0 then (if (mC x.body (lv+1) c).2≠0 then mC x.body (lv+1) c else mC x.els (lv+1) (mC x.body (lv+1) c).1) else if j=1 then mC x.els (lv+1) c else (c,0)
section
variable{x:iP}(l7:n1=x.exprs.length)(oW:n2=x.body.length)(yp:n3=x.els.length)
def qLC(h:x.kind < 1\/10 < x.kind):vE x.kind x.name a b c=5:=by rw [vE,au h]
variable(g5:¬ (x.kind < 1\/10 < x.kind))
include g5
theorem qLE(h:Cl x.kind=true/\py x.name=false):vE x.kind x.name a b c=7:=by rw [vE,ak g5,au h]
variable(g7:¬ (Cl x.kind=true/\py x.name=false))
include g7 l7 oW yp
theorem qLD(h:(Cl x.kind=false/\x.name≠[])\/(¬ (x.kind=3\/x.kind=4)/\0 < n2)\/(¬ x.kind=3/\0 < n3)\/n1 < wW x.kind\/zC x.kind < n1):vE x.kind x.name x.exprs.length x.body.length x.els.length=6:=by
 rw [vE,ak g5,ak g7,au];rcases h with h|h|h|h|h
 . exact .inl h
 . exact .inr (.inr (.inr (.inl ⟨O,O,O⟩)))
 . exact .inr (.inr (.inr (.inr ⟨O,O⟩)))
 . exact .inr (.inl O)
 . exact .inr (.inr (.inl O))
theorem qLB(h:¬ ((Cl x.kind=false/\x.name≠[])\/(¬ (x.kind=3\/x.kind=4)/\0 < n2)\/(¬ x.kind=3/\0 < n3)\/n1 < wW x.kind\/zC x.kind < n1)):vE x.kind x.name x.exprs.length x.body.length x.els.length=0:=by
 rw [vE,ak g5,ak g7,ak];intro k;refine h ?_;rcases k with k|k|k|k|k
 . exact .inl k
 . exact .inr (.inr (.inr (.inl O)))
 . exact .inr (.inr (.inr (.inr O)))
 . exact .inr (.inl ⟨O,O⟩)
 . exact .inr (.inr (.inl ⟨O,O⟩))
end
def MO(D d:Nat):Prop:=∀ (L:Hl) (s:World),GP s->∀ (bc c lv:Nat) (A:iE) (n cc:Nat) (l:List iP),jo d s A n cc l->c<=2000->lv<=17->jU D 128 [iT bc,.slice A n cc,iB (lv:Int)] ((bc,cb [iB (c:Int)] 189)::L) s λv L' _=>v=iB (mC l lv c).2/\L'=(bc,cb [iB ((mC l lv c).1:Int)] 189)::L
def MO.swap(h:MO D d)(L:Hl)(s:World)(hG:GP s)(y:Nat×Obj)(bc c lv:Nat)(A:iE)(n cc:Nat)(l:List iP)(hA:jo d s A n cc l)(hc:c<=2000)(oN:lv<=17):jU D 128 [iT bc,.slice A n cc,iB (lv:Int)] (y::(bc,cb [iB (c:Int)] 189)::L) s λv L' _=>v=iB (mC l lv c).2/\L'=y::(bc,cb [iB ((mC l lv c).1:Int)] 189)::L:=
 AC.perm (List.Perm.swap ..) (h (y::L) s hG bc c lv A n cc l hA hc oN) λv L1 s1 ⟨g0,h1⟩=>⟨_,by rw [h1];exact List.Perm.swap ..,g0,rfl⟩
def Ss(x:iP)(lv c:Nat):Dh x lv c 0=if (mC x.body (lv+1) c).2≠0 then mC x.body (lv+1) c else Dh x lv (mC x.body (lv+1) c).1 1:=rfl
def ZP(x:iP)(lv c:Nat):Dh x lv c 1=mC x.els (lv+1) c:=rfl
def ZQ(x:iP)(lv c:Nat):Dh x lv c 2=(c,0):=rfl
def qz7{x:iP}(h:(mC x.els (lv+1) c).2=0):Dh x lv c 1=Dh x lv (mC x.els (lv+1) c).1 2:=by rw [ZP,ZQ,<- h]
def Hh{p:Prop} (h:p:=by
 rw [hS,KF hx,hE,au (by simp;done)];exact ⟨rfl,rfl⟩):p:=h
def Xi{p:Prop} (h:p:=by
 refine mY ?_;exact rR [_] _ (.t1 Z) Z Lc λ_ iD=>Hh):p:=h
def Xb{p:Prop} (h:p:=by
 refine mY ?_;refine Zu ?_;exact rR [_] _ (.t1 Z) Z Lc λ_ iD=>Hh):p:=h
def Iy{p:Prop} (h:p:=by
  refine mG Z ?_ ?_<;>intro yd;.refine Zk ?_;refine iU (lY.mk () [] (Lr D) (.cons Kb (.nil _)) So Pr Tt)
  refine G8 ?_;refine iU (lY.mk () [] (Lr D) (.cons Kb (.nil _)) So Pr Tt)):p:=h
def HY{p:Prop} (h:p:=by
  refine x8 ?_ ?_<;>intro yd;.refine Zk ?_;refine iU (lY.mk () [] (Lr D) (.cons Kb (.nil _)) So Pr Tt)
  refine tQ ?_ ?_<;>intro zS;.refine Zk ?_;refine iU (lY.mk () [] (Lr D) (.cons Kb (.nil _)) So Pr Tt)
  refine G8 ?_;refine iU (lY.mk () [] (Lr D) (.cons Kb (.nil _)) So Pr Tt)):p:=h
theorem o_(ih:∀ e,d=e+1->MO D e)(hG:GP s)(c:Nat){l:List iP}(hA:jo d s A n cc l)(hc:c<=2000)(oN:lv<=17):jU D 128 [iT bc,.slice A n cc,iB (lv:Int)] ((bc,cb [iB (c:Int)] 189)::L) s λv L' _=>v=iB (mC l lv c).2/\L'=(bc,cb [iB ((mC l lv c).1:Int)] 189)::L:=by
 have hn:=hA.1;have nI:=hA.2.1;have pt:=hA.2.2.1;refine jn (fn:=f128) jb func128 V Z ntmps128 Z (rs:=[.tmp 6]) Z [(0,_),(1,_),(2,_)] Z<|rH ?_;refine lJ (γ:=Nat×Nat) (λg=>[(0,_),(2,_),(6,_),(18,_),(19,_),(20,iB (g.1:Int))]) (λg=>(bc,cb [iB (g.2:Int)] 189)::L) (λg tw=>Le D s tw/\(g.1<=n/\g.2<=2000/\mC l lv c=mC (l.drop g.1) lv g.2)) (λg=>n - g.1) (λ_ _ _ h hl=>⟨h.1.trans hl,h.2⟩) (0,c) (.c6 Z Z Z Z Z Z (.nil _)) Z ⟨Le.refl _,⟨aB _,hc,Z⟩⟩ ?_;intro g s1 I1;obtain ⟨k,ck⟩:=g;obtain ⟨ko,Bb,hS⟩:=I1.2;simp only at ko Bb hS;dsimp only;refine J6 ?_ ?_<;>intro c2
 .have hk:k < n:=O
  obtain ⟨e,b,off,x,A1,n1,c1,A2,n2,c2,A3,n3,c3,hd,rfl,hx,hcx,hax,so,hex,kL⟩:=jo.at_ Pz hk;have l7:=hax.1;have oW:=so.1;have yp:=hex.1;refine G6 ?_;refine iA (jK Y6 hk) Z<|iA (ku Y3 Pz Z) Z<|jh Z [_,_,_,_,_] Y2 λβ3 s3 h3=>Wt 0 [_,_,_,_,_] Y9<|G7 ?_;refine Jc Y3 (qlu ck Bb) ?_;rintro _ _ s4 h4 ⟨rfl,rfl⟩;refine G3 ?_;refine lL Z ?_ ?_<;>intro c5
  .have g4:16 < lv\/2000 < ck+1:=by have:=c5;omega
   have hE:rq x lv ck=(ck+1,2):=by rw [GA,au g4]
   exact Xi
  have g4:¬ (16 < lv\/2000 < ck+1):=by have:=c5;omega
  refine G3 ?_;refine rW 35 (x.kind < 1\/10 < x.kind) ?_ ?_
  .refine G5 ?_;refine ld (t:=31) Z ?_ ?_<;>intro c7;.exact Ry
   refine G8 ?_;refine iU (kB.mk (Lr D) Sb Z (bK.2 O))
  intro s6 h6;refine mG Z ?_ ?_<;>intro c8
  .have hx5:=qLC (x:=x) (a:=x.exprs.length) (b:=x.body.length) (c:=x.els.length) c8;have hE:rq x lv ck=(ck+1,5):=by rw [GA,ak g4,au (by rw [hx5];decide),hx5]
   exact Xi
  have g5:=c8;refine G6 ?_;refine Je Y3 (qtg O O) λs9 h9=>xe ?_;refine rW 45 (Cl x.kind=true/\py x.name=false) ?_ ?_
  .refine G3 ?_;refine Gs (t:=47) Z ?_ ?_<;>intro nZ;.refine G5 ?_;refine Je Y3 (Kr Pz) λkh jE=>G5 ?_;refine iU (kB.mk jE Sb Z ((qzH As)))
   refine G7 ?_;refine iU (kB.mk (Lr D) Sb Z ((bR (λh=>absurd h.1 (by simp [*]))).symm))
  intro kH jG;refine mG Z ?_ ?_<;>intro oL
  .have hx7:=qLE (a:=x.exprs.length) (b:=x.body.length) (c:=x.els.length) g5 oL;have hE:rq x lv ck=(ck+1,7):=by rw [GA,ak g4,au (by rw [hx7];decide),hx7]
   exact Xb
  have g7:=oL;refine Dw (γ:=Unit) (λ_=>[(53,.bool (decide ((Cl x.kind=false/\x.name≠[])\/(¬ (x.kind=3\/x.kind=4)/\0 < n2)\/(¬ x.kind=3/\0 < n3)\/n1 < wW x.kind\/zC x.kind < n1)))]) [_,_] Z (λg=>L) (λg tw=>True) (λ_ _ _ h hl=>h) ?_ ?_
  .refine G5 ?_;refine Fa (t:=56) Z ?_ ?_<;>intro rI
   .refine G5 ?_;refine JX Z Z Z<|G4 ?_;refine lL Z ?_ ?_<;>intro vJ;.exact zE
    refine G5 ?_;refine tG (t:=63) Z ?_ ?_<;>intro c16
    .refine x8 ?_ ?_<;>intro yY;.exact zE
     refine G5 ?_;refine tG (t:=71) Z ?_ ?_<;>intro yd
     .refine x8 ?_ ?_<;>intro zS;.exact zE
      refine tQ ?_ ?_<;>intro c20;.exact zE
      exact Ps
     refine Qr ?_ ?_<;>intro zS;.exfalso;omega
     exfalso;omega
    refine rH ?_;refine tG (t:=71) Z ?_ ?_<;>intro yY;.exact HY
    refine zP ?_;exact Iy
   refine mY ?_;refine kb Y2 ?_;refine tG (t:=63) Z ?_ ?_<;>intro vJ
   .refine x8 ?_ ?_<;>intro c16;.exact zE
    refine G5 ?_;refine tG (t:=71) Z ?_ ?_<;>intro yY;.exact HY
    refine Qr ?_ ?_<;>intro yd;.exfalso;omega
    exfalso;omega
   refine rH ?_;refine tG (t:=71) Z ?_ ?_<;>intro c16
   .refine x8 ?_ ?_<;>intro yY;.exact zE
    refine lM ?_;exact Iy
   refine Qr ?_ ?_<;>intro yY;.exact zE
   exact Ps
  intro g lq kV I13;simp only [jC,jD];refine mG Z ?_ ?_<;>intro yd
  .have hx6:=qLD l7 oW yp g5 g7 yd;have hE:rq x lv ck=(ck+1,6):=by rw [GA,ak g4,au (by rw [hx6];decide),hx6]
   exact Xb
  have hx0:=qLB l7 oW yp g5 g7 yd;refine G9 ?_;refine Jc Y3 ((WE e).swap L _ Pz _ bc (ck+1) 1 A1 n1 c1 x.exprs Pz O O) ?_;rintro _ _ BP yh ⟨rfl,rfl⟩;refine G9 ?_;refine lL Z ?_ ?_<;>intro c20
  .have g0:=c20;have hE:rq x lv ck=mD x.exprs 1 (ck+1):=by rw [GA,ak g4,ak (by rw [hx0];decide),au g0]
   refine mY ?_;refine Zu ?_;refine rR [_] _ (.t1 Z) Z Lc λ_ iD=>?_;rw [hS,KF hx,hE,au g0];exact ⟨rfl,rfl⟩
  have g0:=c20;have hE:rq x lv ck=Dh x lv (mD x.exprs 1 (ck+1)).1 0:=by rw [GA,ak g4,ak (by rw [hx0];decide),ak (by simpa using g0)];rfl
  have uT:=DD x.exprs 1 (ck+1) g0;have hcx0:(mD x.exprs 1 (ck+1)).1<=2000:=by rw [uT.2.1];rcases uT.2.2 with h|h<;>omega
  refine G8 ?_;refine lx [(_,_),(_,_)] [_,_] Y9 λβp AO uv hcp=>G5 ?_;refine CN [_] (γ:=Nat×Nat) (λg=>[(0,_),(2,_),(6,_),(18,_),(19,_),(20,_),(98,_),(99,_),(100,iB (g.1:Int))]) (λg=>(bc,cb [iB (g.2:Int)] 189)::L) (λg tw=>Le D AO tw/\(g.1<=2/\g.2<=2000/\Dh x lv (mD x.exprs 1 (ck+1)).1 0=Dh x lv g.2 g.1)) (λg=>2 - g.1) (λ_ _ _ h hl=>⟨h.1.trans hl,h.2⟩) (0,(mD x.exprs 1 (ck+1)).1) (.c6 Z Z Z Z Z Z (.c3 Z Z Z (.nil _))) Z ⟨Le.refl _,⟨aB _,hcx0,Z⟩⟩ ?_;intro g s22 I22;simp only [jC,jD];obtain ⟨j,cj⟩:=g;obtain ⟨oV,hcj,hP⟩:=I22.2;simp only at oV hcj hP;dsimp only;refine J6 ?_ ?_<;>intro c23
  .have hj2:j < 2:=O
   refine G5 ?_;rcases (show j=0\/j=1 by omega) with rfl|rfl
   .refine Zr<|iA (lK Y6 O) Z<|iA (jS Y3 Pz Z) Z<|G8 ?_;refine iA (nV Z Z (show IntKind.i64.wrap ((lv:Int)+1)=((lv+1:Nat):Int) by rw [jq O O];simp)) Z<|Jc Y3 ((ih e hd).swap L _ Pz _ bc cj (lv+1) A2 n2 c2 x.body Pz hcj O) ?_;rintro _ _ s24 h24 ⟨rfl,rfl⟩;refine G9 ?_;refine lL Z ?_ ?_<;>intro zT;.have hz:=zT;refine Dj ?_;refine rR [_] _ (.t1 Z) Z Lc λ_ iD=>?_;rw [hS,KF hx,hE,hP,Ss,au hz,au hz];exact ⟨rfl,rfl⟩
    have hz:=zT;refine G4 ?_;refine kq Y3 (jq O O)<|G2 ?_;refine iU ⟨(1,(mC x.body (lv+1) cj).1),[],kp,Z,⟨Lc,by first|exact ⟨Oz,by simp only;have hw:=Ch x.body (lv+1) cj hz;rw [hw.2.1];rcases hw.2.2 with h|h<;>omega,by simp only;rw [hP,Ss,ak (by rw [hz];decide)]⟩|exact ⟨Oz,by simp only;have hw:=Ch x.els (lv+1) cj hz;rw [hw.2.1];rcases hw.2.2 with h|h<;>omega,by simp only;rw [hP,qz7 hz]⟩⟩,Oz⟩
   refine Zr<|iA (lK Y6 O) Z<|iA (nK 1 Y3 Pz Z) Z<|G8 ?_;refine iA (nV Z Z (show IntKind.i64.wrap ((lv:Int)+1)=((lv+1:Nat):Int) by rw [jq O O];simp)) Z<|Jc Y3 ((ih e hd).swap L _ Pz _ bc cj (lv+1) A3 n3 c3 x.els Pz hcj O) ?_;rintro _ _ s24 h24 ⟨rfl,rfl⟩;refine G9 ?_;refine lL Z ?_ ?_<;>intro zT;.have hz:=zT;refine Dj ?_;refine rR [_] _ (.t1 Z) Z Lc λ_ iD=>?_;rw [hS,KF hx,hE,hP,ZP,au hz];exact ⟨rfl,rfl⟩
   have hz:=zT;refine G4 ?_;refine kq Y3 (jq O O)<|G2 ?_;refine iU ⟨(2,(mC x.els (lv+1) cj).1),[],kp,Z,⟨Lc,by first|exact ⟨Oz,by simp only;have hw:=Ch x.body (lv+1) cj hz;rw [hw.2.1];rcases hw.2.2 with h|h<;>omega,by simp only;rw [hP,Ss,ak (by rw [hz];decide)]⟩|exact ⟨Oz,by simp only;have hw:=Ch x.els (lv+1) cj hz;rw [hw.2.1];rcases hw.2.2 with h|h<;>omega,by simp only;rw [hP,qz7 hz]⟩⟩,Oz⟩
  obtain rfl:j=2:=O
  rw [ZQ] at hP;refine G7 ?_;refine kq Y3 (jq O O)<|G2 ?_;refine iU ⟨(k+1,cj),[_],kp,Z,⟨Lc,⟨Oz,hcj,by simp only;rw [hS,KF hx,hE,hP,ak Ξ]⟩⟩,Oz⟩
 rw [aL O,mC] at hS;exact XV
def WB{D:Nat}:∀ d,MO D d
 | 0=>λL s hG bc c lv A n cc l hA hc oN=>o_ (λe h=>O) hG c hA hc oN
 | d+1=>λL s hG bc c lv A n cc l hA hc oN=>o_ (d:=d+1) (λe h=>(show d=e by omega)▸WB d) hG c hA hc oN
end
section
variable{ys:iz}
section
variable{TT:kD}{fr:Fr}
def Fg{c:Code}{L':Hl}(hp:L.Perm L')(h:JC P TT D n Q c fr L' s):JC P TT D n Q c fr L s:=λht a hr ho=>by
 rw [uc hp _ ho];exact h ht a hr (ho.perm hp)
def qst(h:xs[k]?=some v):nth (xs++ys) (0+k)=some v:=by
 rw [wc,aX,aV (al.1 h).1,h]
def qDt{k:Nat}(v:Value)(h:k < xs.length):pk (xs++ys) (0+k) [v]=xs.set k v++ys:=by
 rw [aX];induction xs generalizing k with
 | nil=>cases h
 | cons x xs ih=>
  cases k with
  | zero=>simp [pk]
  | succ k=>
   have:=ih (k:=k) Q2;simp only [ao,pk,dr] at this ⊢;rw [this]
def z'{A:Hl}(h:Own e 1 A v n xs)(h0:0 < n):∃ b cap ys,A=[(b,cb (xs++ys) e)]/\v=.slice (jZ b) n cap/\xs.length=n/\xs.length+ys.length=cap/\cap<=9223372036854775807:=by
 cases h with
 | nil=>cases h0
 | blk b cap n xs ys hn hc rz hm=>exact ⟨b,cap,ys,rfl,rfl,by simpa using hn,by simpa using hc,hm⟩
end
end
section
def TR:∀ {l:List Ex},(∀ x∈l,ph x=true)->rn l=true
 | [],_=>rfl
 | x::r,h=>by simp only [rn,h x Mc,TR λy hy=>h y (an _ hy),ic]
def Oq:∀ {l:List iP},(∀ x∈l,zL x=true)->qO l=true
 | [],_=>rfl
 | x::r,h=>by simp only [qO,h x Mc,Oq λy hy=>h y (an _ hy),ic]
def Sl.all{α:Type}{sz:Nat}{R:World->α->iz->Prop}{l:List α}{p:α->Prop}(h:Sl sz R s A n c l)(hR:∀ x cs,R s x cs->p x):∀ x∈l,p x:=λx hx=>by
 obtain ⟨i,hi⟩:=bh hx;obtain ⟨_,_,_,_,_,_,h4⟩:=h.2.2.2 i x hi;exact hR _ _ h4
def tP.u:∀ {d:Nat} {x:Ex} {cs:iz},tP d s x cs->ph x=true
 | 0,_,_,h=>h.elim
 | d+1,.mk k o n nm az,_,⟨A,m,c,_,h2,h3,_⟩=>by
  have h:=TR (Sl.all (p:=λx=>ph x=true) h2 λx cs hx=>tP.u hx);have h':rn az=true:=h;simp only [ph,h',dC,aH];exact h3
def j8.u(h:j8 d s A n c l):rn l=true:=TR (Sl.all (p:=λx=>ph x=true) h λx cs hx=>tP.u hx)
def ru.u:∀ {d:Nat} {x:iP} {cs:iz},ru d s x cs->zL x=true
 | 0,_,_,h=>h.elim
 | d+1,.mk k nm es b e,_,⟨A1,n1,c1,A2,n2,c2,A3,n3,c3,_,h2,h3,h4,_⟩=>by
  have h:=Oq (Sl.all (p:=λx=>zL x=true) h3 λx cs hx=>ru.u hx);have h':qO b=true:=h;have k:=Oq (Sl.all (p:=λx=>zL x=true) h4 λx cs hx=>ru.u hx);have k':qO e=true:=k;have g:rn es=true:=j8.u h2;simp only [zL,g,h',k',ic]
def jo.u{l:List iP}(h:jo d s A n c l):qO l=true:=Oq (Sl.all (p:=λx=>zL x=true) h λx cs hx=>ru.u hx)
def v7:∀ {l:List Ex} {k:Nat} {y:Ex},pE l=true->l[k]?=some y->om y=true/\mT y<=lh l
 | [],_,_,_,h=>by cases h
 | x::r,0,y,hv,h=>by
  simp at h;subst h;simp only [pE,aA] at hv;exact ⟨hv.1,by rw [lh];omega⟩
 | x::r,k+1,y,hv,h=>by
  simp only [pE,aA] at hv;have:=v7 hv.2 (show r[k]?=some y by simpa using h);exact ⟨this.1,by rw [lh];omega⟩
def Bz{k o n:Int}(h:ut k o n nm na=0):1<=k/\k<=7/\wa k<=na/\na<=yE k/\(k=6->1<=o/\o<=3)/\(k=7->4<=o/\o<=21):=by
 unfold ut at h;split at h
 . cases h
 rename_i h1;split at h
 . cases h
 split at h
 . cases h
 rename_i h3;refine ⟨O,O,?_,?_,O,O⟩
 . exact dR λhh=>h3 (.inr (.inr (.inr (.inl hh))))
 . exact dR λhh=>h3 (.inr (.inr (.inr (.inr hh))))
def zz{x:Ex}(h:om x=true):ut x.kind x.op x.num x.name x.args.length=0/\pE x.args=true:=by
 cases x with
 | mk k o n nm az=>simp only [om,aA,aH] at h;exact h
def qHK(x:Ex):mT x=1+lh x.args:=by cases x;rfl
def qzn{x:Ex}(h1:0<=x.num/\x.num < 4294967296)(h2:rn x.args=true):ph x=true:=by
 cases x with
 | mk k o n nm az=>simp only [ph,aA,aH];exact ⟨h1,h2⟩
def Cj(x:Ex)(out:Int):nR x out=CH x.kind x.op x.num x.name (sa x.args (DJ x.kind x.op)) out:=by cases x;rfl
def qn0(l:List Ex):sa l []=l.map λx=>nR x 0:=by
 induction l with
 | nil=>rfl
 | cons x r ih=>simp only [sa,List.headD_nil,List.tail_nil,aN,ih]
theorem UC(o:Int):1<=vC o/\vC o<=5:=by grind [vC]
section
variable{x y z:Ex}
def qKK(h:x.kind=1):nR x 0=pD x.num:=by rw [Cj,CH,au h]
def qKL(h:x.kind=2):nR x 0=x.name:=by rw [Cj,CH,h];rfl
def PH{α:Type}{l:List α}{y:α}(hl:l.length=1)(h:l[0]?=some y):l=[y]:=by
 match l,hl,h with
 | [a],_,h=>simp at h;rw [h]
def ZG{α:Type}{l:List α}{y z:α}(hl:l.length=2)(h:l[0]?=some y)(h1:l[1]?=some z):l=[y,z]:=by
 match l,hl,h,h1 with
 | [a,b],_,h,h1=>simp at h h1;rw [h,h1]
def qKM(h:x.kind=3)(hl:x.args.length=1)(hy:x.args[0]?=some y):nR x 0=x.name++[91]++nR y 0++[93]:=by
 rw [Cj,PH hl hy,h];rfl
def qKN(h:x.kind=4):nR x 0=x.name++[40]++rC (sa x.args [])++[41]:=by
 rw [Cj,h];rfl
def qKO(h:x.kind=5):nR x 0=[103,101,116]:=by rw [Cj,CH,h];rfl
def qKP(h:x.kind=6)(hl:x.args.length=1)(hy:x.args[0]?=some y):nR x 0=BK x.op++nR y 9:=by
 rw [Cj,PH hl hy,h];rfl
def qKQ(h:x.kind=7)(hl:x.args.length=2)(hy:x.args[0]?=some y)(hz:x.args[1]?=some z):nR x 0=nR y (vC x.op)++[32]++BK x.op++[32]++nR z (vC x.op+1):=by
 have:=UC x.op;rw [Cj,ZG hl hy hz,h];show (if vC x.op < 0 then _ else _)=_;rw [ak O];rfl
def qBZ(h1:1<=x.kind)(h7:x.kind<=7)(out:Int):nR x out=if x.kind=7/\vC x.op < out then [40]++nR x 0++[41] else nR x 0:=by
  have hs:=UC x.op;by_cases h:x.kind=7
  . have e:∀ q,nR x q=if vC x.op < q then [40]++((sa x.args (DJ x.kind x.op)).getD 0 []++[32]++BK x.op++[32]++(sa x.args (DJ x.kind x.op)).getD 1 [])++[41] else (sa x.args (DJ x.kind x.op)).getD 0 []++[32]++BK x.op++[32]++(sa x.args (DJ x.kind x.op)).getD 1 []:=λq=>by
      rw [Cj,CH,ak O,ak O,ak O,ak O,ak O,ak O]
    rw [e out,e 0,ak (show ¬ vC x.op < 0 by omega)];by_cases ho:vC x.op < out
    . rw [au ho,au ⟨h,ho⟩]
    . rw [ak ho,ak (λk=>ho k.2)]
  . rw [ak (λk=>h k.1),Cj,Cj]
    unfold CH;repeat' split
    all_goals (first|rfl|omega)
end
def qkp(n:Nat):Lib.repeatL [32,32] n=pT n:=by
 induction n with
 | zero=>rfl
 | succ n ih=>
  have:∀ n,pT n++[32,32]=[32,32]++pT n:=λn=>by
   induction n with
   | zero=>rfl
   | succ n ih=>rw [pT,ih,am,ih]
  have:pT (n+1)=[32,32]++pT n:=this n;rw [this,<- ih];rfl
end
def qqn{TT:kD}{fr:Fr}{x:Operand}{t:Nat}{ti:TI}(hx:lk fr x=some (.slice A m c))(ht:jz TT t=some ti)(hk:ti.kind=.sl e):QE P TT D fr (.call { callee:=.builtin .cap,args:=#[x],argTypes:=#[t] }) ty K s0 (iB (c:Int)):=
 QE.pure λhT dst iL af g ρ hρ w=>by
  obtain ⟨k1,k2,_⟩:=hT.at_ ht;rw [hk] at k2;simp only [TK.fits] at k2;rw [k2] at k1;simp [execOp,resolve,invoke,builtin,hρ x _ hx,Builtin.cap_,aQ k1,goInt]
section
variable{x:Ex}
def qCW{cap:Nat}(h:Own e 1 M v cap xs):∃ A c,v=.slice A cap c/\Own e 1 M (.slice A 0 c) 0 []:=by
 cases h with
 | nil=>exact ⟨none,0,rfl,.nil⟩
 | blk b c n xs ys hn hc rz hm=>exact ⟨_,_,rfl,by
   have:=Own.blk (e:=e) (sz:=1) b c 0 [] (xs++ys) rfl Q19 (aB _) hm;simpa using this⟩
def DM(a b:List iH):sb (a++b)=sb a++sb b:=by simp [sb]
def iO.row{l:List iH}(h:iO s A n c l):Row s A n 1 (sb l):=by
  refine ⟨by simp [sb,h.1],λu hu=>?_,λj u hj=>?_⟩
  . obtain ⟨x,_,rfl⟩:=aW.1 hu;rfl
  . obtain ⟨x,hx,rfl⟩:∃ x,l[j]?=some x/\u=St x:=by
      simp only [sb,bQ] at hj;cases hl:l[j]? with
      | none=>rw [hl] at hj;cases hj
      | some x=>rw [hl] at hj;injection hj with hj;exact ⟨x,rfl,hj.symm⟩
    obtain ⟨b,off,cs,h1,h2,_,rfl,_⟩:=h.2.2.2 j x hx;exact ⟨b,off,h1,by have:=h2 0 (St x) rfl;simpa using this⟩
def iO.len{l:List iH}(h:iO s A n c l):∀ x∈l,x.length<=9223372036854775807:=λx hx=>by
 obtain ⟨j,hj⟩:=bh hx;obtain ⟨_,_,_,_,_,_,_,h5⟩:=h.2.2.2 j x hj;exact h5
attribute [local irreducible] JC JO JA JB ma mO mX AC fill iy QE Ev my
def Hi{p:Prop} (h:p:=by
 first|exact ⟨M1,Ag,cg,rfl,rfl,o2⟩|exact ⟨[],none,0,rfl,rfl,Own.nil⟩):p:=h
def qwt(hm:m<=1000000000):jU D 137 [.slice none 0 0,iB (m:Int)] L s λv L' _=>∃ M A c,L'=M++L/\v=.slice A 0 c/\Own 9 1 M (.slice A 0 c) 0 []:=by
 refine jn (fn:=f137) jb func137 V Z ntmps137 Z (rs:=[.tmp 4]) Z [(0,_),(1,_)] Z<|x8 ?_ ?_<;>intro c1;.exfalso;omega
 refine G7 ?_;refine iA (qqn Z Z Z) Z<|G2 ?_;refine iA (tD (c:=(0:Int)) Z Z Z) Z<|iA (tD (c:=((m:Nat):Int)) Z Z Q7) Z<|J9 ?_ ?_<;>intro c2
 .have mM:0 < m:=O
  refine G3 ?_;refine iA (qqn Z Z Z) Z<|iA (GB (j:=0) Z Z Z Z Z (ay _)) Z<|kb Y2<|qqj (sz:=1) (m:=m) (news:=List.replicate m (St [])) [] [] L Z Z Z Z Z Z Z Own.nil Ξ (λhT w i k1 i1 i2 i3 i4=>C_ m k1 underlying3 i1 i2 i4 Z Z O (by rw [i3];simp [zM];omega)) ⟨by simp [zM];omega,O⟩ Z ?_;intro v1 M1 s3 h3 o1 n1;simp only [aX,aC] at o1;obtain ⟨Ag,cg,rfl,o2⟩:=qCW o1;refine G2 ?_;refine iA (GB (j:=0) Z Z Z Z Z (aB _)) Z<|lM ?_;exact rR [] _ (.t1 Z) Z h3 λ_ iD=>Hi
 have hm0:m=0:=O
 refine G9 ?_;exact rR [] _ (.t1 Z) Z (Lr D) λ_ iD=>Hi
def qpi{c2:Nat}(qp:iO s A1 n1 c1 l1)(j5:iO s A2 n2 c2 l2)(hb:iy s b 0 [.slice A1 n1 c1,.slice A2 n2 c2])(l7:n1<=1000)(oW:n2<=1000):pQ D 95 [.slice (jZ b) 2 2] L s λv M' s'=>∀ s2,Le D s' s2->mI M' s2->∃ A n c,v=.slice A n c/\iO s2 A n c (l1++l2):=by
 have qA:=qp.1;have qX:=j5.1;refine jn (fn:=f95) jb func95 V Z ntmps95 Z (rs:=[.tmp 2]) Z [(0,_)] Z<|zP ?_;refine lJ (γ:=Nat×Nat) (λg=>[(0,_),(2,_),(3,iB (g.2:Int)),(9,_),(10,_),(11,iB (g.1:Int))]) (λg=>L) (λg tw=>Le D s tw/\(g.1<=2/\g.2<=g.1 * 1000)) (λg=>2 - g.1) (λ_ _ _ h hl=>⟨h.1.trans hl,h.2⟩) (0,0) (.c6 Z Z Z Z Z Z (.nil _)) Z ⟨Le.refl _,⟨aB _,aB _⟩⟩ ?_;intro g s1 I1;obtain ⟨j,z⟩:=g;obtain ⟨oV,hz⟩:=I1.2;simp only at oV hz;dsimp only;refine J6 ?_ ?_<;>intro c2
 .have hjj:j < 2:=O
  refine G5 ?_;rcases (show j=0\/j=1 by omega) with rfl|rfl
  .refine Zr<|iA (lK Y6 O) Z<|iA (jS Y3 Pz Z) Z<|G8 ?_;refine iA (nV (c:=((z+n1:Nat):Int)) Z Z Q8) Z<|J9 ?_ ?_<;>intro c3;.exfalso;omega
   refine G4 ?_;refine kq Y3 (jq O O)<|G2 ?_;refine iU ⟨(1,z+n1),[],kp,Z,⟨I1.1,⟨Oz,Oz⟩⟩,Oz⟩
  refine Zr<|iA (lK Y6 O) Z<|iA (nK 1 Y3 Pz Z) Z<|G8 ?_;refine iA (nV (c:=((z+n2:Nat):Int)) Z Z Q8) Z<|J9 ?_ ?_<;>intro c3;.exfalso;omega
  refine G4 ?_;refine kq Y3 (jq O O)<|G2 ?_;refine iU ⟨(2,z+n2),[],kp,Z,⟨I1.1,⟨Oz,Oz⟩⟩,Oz⟩
 obtain rfl:j=2:=O
 refine G8 ?_;refine Jc Y3 (qwt O) ?_;rintro _ _ s3 h3 ⟨Mg,Ag,cg,rfl,rfl,hOg⟩;refine mY ?_;refine lJ (γ:=Nat×Value×Hl×List iH) (λg=>[(2,_),(6,g.2.1),(25,_),(26,_),(27,iB (g.1:Int))]) (λg=>g.2.2.1++L) (λg tw=>Le D s3 tw/\(g.1<=2/\Own 9 1 g.2.2.1 g.2.1 g.2.2.2.length (sb g.2.2.2)/\g.2.2.2=(if g.1=0 then [] else if g.1=1 then l1 else l1++l2))) (λg=>2 - g.1) (λ_ _ _ h hl=>⟨h.1.trans hl,h.2⟩) (0,.slice Ag 0 cg,Mg,[]) (.c5 Z Z Z Z Z (.nil _)) Z ⟨Le.refl _,⟨aB _,hOg,Z⟩⟩ ?_;intro g s4 I4;obtain ⟨j,vo,Mo,out⟩:=g;obtain ⟨oV,hO,sP⟩:=I4.2;simp only at oV hO sP;dsimp only;refine J6 ?_ ?_<;>intro c5
 .have hjj:j < 2:=O
  refine G5 ?_;rcases (show j=0\/j=1 by omega) with rfl|rfl
  .obtain rfl:out=[]:=sP;refine Zr<|iA (lK Y6 O) Z<|iA (jS Y3 Pz Z) Z<|G6 ?_;refine rQ (sz:=1) [] Mo L Y7 hO (qp.row.le Lc) ⟨by simp [zM];omega,by (try simp only [aq]);omega⟩ Z ?_;intro vq Mq s6 h6 oq;obtain ⟨Avq,pg,rfl,_,_⟩:=Own.slice oq;simp only [aC];refine G5 ?_;refine kq Y3 (jq O O)<|G2 ?_;refine iU ⟨(1,.slice Avq (0+n1) pg,Mq,l1),[],kp,Z,⟨Lc,by first|exact ⟨Oz,by have h:=oq;simp only [aq,aX,sb,dE,aC] at h ⊢;rw [<- qA];exact h,Z⟩|exact ⟨Oz,by have h:=oq;rw [<- DM] at h;rw [ac,<- qX];exact h,Z⟩⟩,Oz⟩
  obtain rfl:l1=out:=sP.symm;refine Zr<|iA (lK Y6 O) Z<|iA (nK 1 Y3 Pz Z) Z<|G6 ?_;refine rQ (sz:=1) [] Mo L Y7 hO (j5.row.le Lc) ⟨by simp [zM];omega,by (try simp only [aq]);omega⟩ Z ?_;intro vq Mq s6 h6 oq;obtain ⟨Avq,pg,rfl,_,_⟩:=Own.slice oq;simp only [aC];refine G5 ?_;refine kq Y3 (jq O O)<|G2 ?_;refine iU ⟨(2,.slice Avq (l1.length+n2) pg,Mq,l1++l2),[],kp,Z,⟨Lc,by first|exact ⟨Oz,by have h:=oq;simp only [aq,aX,sb,dE,aC] at h ⊢;rw [<- qA];exact h,Z⟩|exact ⟨Oz,by have h:=oq;rw [<- DM] at h;rw [ac,<- qX];exact h,Z⟩⟩,Oz⟩
 obtain rfl:j=2:=O
 obtain rfl:out=l1++l2:=sP;obtain ⟨Ao,co,rfl,_,_⟩:=Own.slice hO;refine mY ?_;exact rR [] _ (.t1 Z) Z Lc λ_ iD=>⟨Mo,rfl,λs2 hs9 hp=>⟨_,_,_,rfl,Own.strs hO (λx hx=>(aS.1 hx).elim (qp.len x) (j5.len x)) hp rfl⟩⟩
def qll(A1 A2:iE)(n1 c1 n2 c2:Nat)(l1 l2:List iH)(qp:iO s A1 n1 c1 l1)(j5:iO s A2 n2 c2 l2)(hb:iy s b 0 [.slice A1 n1 c1,.slice A2 n2 c2])(l7:n1<=1000)(oW:n2<=1000):jU D 95 [.slice (jZ b) 2 2] L s λv L' s'=>L=L'/\∃ A n c,v=.slice A n c/\iO s' A n c (l1++l2):=AC.pubW (qpi qp j5 hb l7 oW)
def qvi{x:iM}(h:py x.name=false):oH x c=(c,7):=by rw [oH,au h]
def qvh{x:iM}(h:¬ py x.name=false)(j5:6 < x.params.length\/12 < x.locals.length):oH x c=(c,2):=by rw [oH,ak h,au j5]
def qB9{x:iM}(h:¬ py x.name=false)(j5:¬ (6 < x.params.length\/12 < x.locals.length))(hw:(x.params++x.locals)[k]?=some w)(hi:py w=false):oH x c=(c,7):=by
 rw [oH,ak h,ak j5,au];exact fq.2 ⟨w,ax hw,by rw [hi];rfl⟩
def qHS{x:iM}(h:¬ py x.name=false)(j5:¬ (6 < x.params.length\/12 < x.locals.length))(h3:∀ i w,i < (x.params++x.locals).length->(x.params++x.locals)[i]?=some w->py w=true):oH x c=mC x.body 1 c:=by
 rw [oH,ak h,ak j5,ak];rw [fq];rintro ⟨w,hw,hb⟩;obtain ⟨i,hi⟩:=bh hw;rw [h3 i w (al.1 hi).1 hi] at hb;cases hb
def quS(hG:GP s)(c:Nat){x:iM}(qp:iO s A1 n1 q1 x.params)(j5:iO s A2 n2 q2 x.locals)(hs3:jo d s A3 n3 q3 x.body)(hc:c<=2000):jU D 84 [iT bc,.agg #[St x.name,.slice A1 n1 q1,.slice A2 n2 q2,.slice A3 n3 q3]] ((bc,cb [iB (c:Int)] 189)::L) s λv L' _=>v=iB (oH x c).2/\L'=(bc,cb [iB ((oH x c).1:Int)] 189)::L:=by
 have qA:=qp.1;have qX:=j5.1;refine jn (fn:=f84) jb func84 V Z ntmps84 Z (rs:=[.tmp 4]) Z [(0,_),(1,_)] Z<|Sr<|kF Y2 λβ1 s1 h1=>G9 ?_;refine Je Y3 (Kr Pz) λs2 h2=>G4 ?_;refine vZ Z ?_ ?_<;>intro c3;.have uR:=c3;refine G8 ?_;refine rR [_] _ (.t1 Z) Z Lc λ_ iD=>?_;rw [qvi (by simpa using uR)];exact ⟨rfl,rfl⟩
 have uR:=c3;refine rW 12 (6 < n1\/12 < n2) ?_ ?_
 .refine G6 ?_;refine ld (t:=17) Z ?_ ?_<;>intro c5;.refine G7 ?_;exact K7
  refine lw ?_;refine iU (kB.mk (Lr D) Sb Z (bK.2 O))
 intro s4 h4;refine mG Z ?_ ?_<;>intro c6;.have hmany:=c6;refine G8 ?_;refine rR [_] _ (.t1 Z) Z Lc λ_ iD=>?_;rw [qvh (by simpa using uR) O];exact ⟨rfl,rfl⟩
 have hmany:=c6;refine lM ?_;refine lx [(_,_),(_,_)] [_,_] Y9 λβp s7 h7 hcp=>Jc Y3 (qll A1 A2 n1 q1 n2 q2 x.params x.locals Pz Pz Pz O O) ?_;rintro _ _ s8 h8 ⟨rfl,Aq,nq,cq,rfl,hQ⟩;have hnq:=hQ.1;have hnq2:=hQ.2.1;have hnq3:=hQ.2.2.1;refine G5 ?_;refine lJ (γ:=Nat) (λk=>[(0,_),(3,_),(4,_),(28,_),(29,_),(30,iB (k:Int))]) (λk=>_::(bc,cb [iB (c:Int)] 189)::L) (λk tw=>Le D s8 tw/\(k<=nq/\∀ i w,i < k->(x.params++x.locals)[i]?=some w->py w=true)) (λk=>nq - k) (λ_ _ _ h hl=>⟨h.1.trans hl,h.2⟩) 0 (.c6 Z Z Z Z Z Z (.nil _)) Z ⟨Le.refl _,⟨aB _,λi w hi=>O⟩⟩ ?_;intro k s9 I9;have ko:=I9.2.1;have hI:=I9.2.2;refine J6 ?_ ?_<;>intro mz
 .have hk:k < nq:=O
  obtain ⟨b,off,w,rfl,hw,hcw,_⟩:=iO.at_ Pz hk;refine G6 ?_;refine iA (lK Y6 hk) Z<|iA (jS Y3 Pz Z) Z<|G6 ?_;refine Je Y3 (Kr Pz) λkz jM=>G3 ?_;refine vZ Z ?_ ?_<;>intro oL;.have hid:=oL;refine lw ?_;refine rR [_] _ (.t1 Z) Z Lc λ_ iD=>?_;rw [qB9 (by simpa using uR) O hw (by simpa using hid)];exact ⟨rfl,rfl⟩
  have hid:=oL;refine G4 ?_;refine kq Y3 (jq O O)<|G2 ?_;refine iU ⟨(k+1),[],kp,Z,⟨Lc,⟨O,Dq hI hw (by simpa using hid)⟩⟩,O⟩
 refine lM ?_;refine Jc Y3 ((WB d).swap L _ Pz _ bc c 1 A3 n3 q3 x.body Pz hc O) ?_;rintro _ _ kz jM ⟨rfl,rfl⟩;refine G4 ?_;refine rR [_] _ (.t1 Z) Z Lc λ_ iD=>?_;rw [qHS (by simpa using uR) O (λi w hi h=>hI i w O h)];exact ⟨rfl,rfl⟩
def TC:∀ (ws:List iH),Lib.join ws [44,32]=rC ws
 | []=>rfl
 | [x]=>by simp [Lib.join,rC,List.intercalate]
 | x::y::r=>by
  have:=TC (y::r);simp only [Lib.join,List.intercalate,List.intersperse_cons_cons,bj] at this ⊢;rw [rC,<- this];simp
def FV{α β:Type}(f:α->β){l:List α}{x:α}(h:l[k]?=some x):(l.take (k+1)).map f=(l.take k).map f++[f x]:=by
 obtain ⟨hk,rfl⟩:=al.1 h;rw [bM hk,bO];rfl
def Om(ws:List iH)(hS:iO s A n c ws)(iK:wn ws<=1000000000):jT D 88 [.slice A n c,St [44,32]] L s (St (rC ws)):=by
 have h1:=B8 ws;have h2:ws.length<=wn ws:=by
  clear hS iK h1;induction ws with
  | nil=>exact aB _
  | cons x r ih=>rw [CI,aw];omega
 have:=qol (D:=D) L ws hS (by rw [TC];omega) O
 rwa [TC] at this
def XM{p:Prop} (h:p:=by
 have h1:=CO (h x Mc);have h2:=ih λy hy=>h y (an _ hy);rw [aN,CI,aw];omega):p:=h
def qoT(l:iG)(h:∀ x∈l,iQ x):wn (l.map pD)<=12 * l.length:=by
 induction l with
 | nil=>exact ay _
 | cons x r ih=>
  exact XM
def qBT{l:iG}(h:∀ x∈l,iQ x):∀ x∈l.map pD,x.length<=9223372036854775807:=λx hx=>by
 obtain ⟨y,hy,rfl⟩:=aW.1 hx;have:=CO (h y hy);omega
def W3{p:Prop} (h:p:=by
 rintro _ _ s4 h4 ⟨rfl,rfl⟩;refine G4 ?_;exact rX [] L Z Lc λ_ iD=>qH):p:=h
def qpL(hG:GP s)(l:iG)(hW:lX s A n c l)(hn:n<=1000):jT D 131 [.slice A n c] L s (St (rC (l.map pD))):=by
 have hl:=hW.1;have hu:=hW.u32;have htw:=qoT l hu;refine jn (fn:=f131) jb func131 V Z ntmps131 Z (rs:=[.tmp 2]) Z [(0,_)] Z<|zP ?_;refine lJ (γ:=Nat×Value×Hl) (λg=>[(2,_),(3,g.2.1),(6,_),(7,_),(8,iB (g.1:Int))]) (λg=>g.2.2++L) (λg tw=>Le D s tw/\(g.1<=n/\Own 9 1 g.2.2 g.2.1 g.1 (sb ((l.take g.1).map pD)))) (λg=>n - g.1) (λ_ _ _ h hl=>⟨h.1.trans hl,h.2⟩) (0,.slice none 0 0,[]) (.c5 Z Z Z Z Z (.nil _)) Z ⟨Le.refl _,⟨aB _,Own.nil⟩⟩ ?_;intro g s1 I1;obtain ⟨k,vo,Mo⟩:=g;obtain ⟨ko,hO⟩:=I1.2;simp only at ko hO;dsimp only;refine J6 ?_ ?_<;>intro c2
 .have hk:k < n:=O
  obtain ⟨b,off,x,rfl,hx,hcx,oI⟩:=lX.at_ Pz hk;refine G6 ?_;refine iA (lK Y6 hk) Z<|iA (jS Y3 Pz Z) Z<|G6 ?_;refine Je Y3 (Ki Pz oI) λs3 h3=>lx [(_,_)] [_] Y9 λβn s4 h4 p9=>rQ (sz:=1) [] Mo L Y7 hO (Row.of_cells Pz Z Z) ⟨by simp [zM];omega,O⟩ Z ?_;intro vq Mq s5 h5 oq;obtain ⟨Avq,pg,rfl,_,_⟩:=Own.slice oq;simp only [jC,jD];refine G5 ?_;refine kq Y3 (jq O O)<|G2 ?_;refine iU ⟨(k+1,.slice Avq (k+1) pg,Mq),[],kp,Z,⟨Lc,⟨Oz,by rw [FV pD hx,DM];exact oq⟩⟩,Oz⟩
 obtain rfl:k=n:=O
 rw [aK O] at hO;obtain ⟨Ao,co,rfl,_,_⟩:=Own.slice hO;refine G6 ?_;refine uz [] Mo ?_;intro s3 h3 ou;simp only [jC,jD];have hSt:=Own.strs hO (qBT hu) ou (by rw [bB];omega);refine Zr<|kb Y2<|Jc Y3 (Om (l.map pD) Pz O) ?_;exact W3
def HE(D d:Nat):Prop:=∀ (L:Hl) (s:World),GP s->∀ (x:Ex) (A:iE) (n c:Nat),j8 d s A n c x.args->iQ x.num->om x=true->mT x<=2000->jT D 220 [.agg #[iB x.kind,iB x.op,iJ x.num,St x.name,.slice A n c]] L s (St (nR x 0))
def qu6(hv:pE l=true)(hu:rn l=true)(hN:lh l<=2000):∀ x∈l.map (λx=>nR x 0),x.length<=9223372036854775807:=λx hx=>by
 have h1:=Ko l [] hv hu;rw [qn0] at h1;have h2:∀ (l:List iH),x∈l->x.length<=wn l:=λl=>by
  induction l with
  | nil=>intro h;cases h
  | cons y r ih=>
   intro h;rw [CI];rcases aR.1 h with rfl|h
   . omega
   . have:=ih h;omega
 have:=h2 _ hx;omega
def t_(d:Nat)(ih:∀ e,d=e+1->HE D e)(hG:GP s)(l:List Ex)(hA:j8 d s A n c l)(hv:pE l=true)(hN:lh l<=2000)(hn:n<=1000):jT D 222 [.slice A n c] L s (St (rC (sa l []))):=by
 have hl:=hA.1;have hu:=hA.u;have htw:=Ko l [] hv hu;rw [qn0] at htw ⊢;refine jn (fn:=f222) jb func222 V Z ntmps222 Z (rs:=[.tmp 2]) Z [(0,_)] Z<|zP ?_;refine lJ (γ:=Nat×Value×Hl) (λg=>[(2,_),(3,g.2.1),(6,_),(7,_),(8,iB (g.1:Int))]) (λg=>g.2.2++L) (λg tw=>Le D s tw/\(g.1<=n/\Own 9 1 g.2.2 g.2.1 g.1 (sb ((l.take g.1).map λx=>nR x 0)))) (λg=>n - g.1) (λ_ _ _ h hl=>⟨h.1.trans hl,h.2⟩) (0,.slice none 0 0,[]) (.c5 Z Z Z Z Z (.nil _)) Z ⟨Le.refl _,⟨aB _,Own.nil⟩⟩ ?_;intro g s1 I1;obtain ⟨k,vo,Mo⟩:=g;obtain ⟨ko,hO⟩:=I1.2;simp only at ko hO;dsimp only;refine J6 ?_ ?_<;>intro c2
 .have hk:k < n:=O
  obtain ⟨e,b,off,x,A',n',c',hd,rfl,hx,hcx,hax,oI,kL⟩:=j8.at_ Pz hk;obtain ⟨vS,hNx⟩:=v7 hv hx;refine G6 ?_;refine iA (jK Y6 hk) Z<|iA (ku Y3 Pz Z) Z<|jh Z [_,_,_,_,_] Y2 λβ3 s3 h3=>Wt 0 [_,_,_,_,_] Y9<|G4 ?_;refine iA (iZ 0 [_,_,_,_,_] Y5) Z<|Jc Y3 (ih e hd _ _ Pz x A' n' c' Pz oI vS O) ?_;rintro _ _ s4 h4 ⟨rfl,rfl⟩;refine lx [(_,_)] [_] Y9 λβn s5 h5 p9=>rQ (sz:=1) [_] Mo L Y7 hO (Row.of_cells Pz Z Z) ⟨by simp [zM];omega,O⟩ Z ?_;intro vq Mq s6 h6 oq;obtain ⟨Avq,pg,rfl,_,_⟩:=Own.slice oq;simp only [jC,jD];refine G5 ?_;refine kq Y3 (jq O O)<|G2 ?_;refine iU ⟨(k+1,.slice Avq (k+1) pg,Mq),[_],kp,Z,⟨Lc,⟨Oz,by rw [FV (λx=>nR x 0) hx,DM];exact oq⟩⟩,Oz⟩
 obtain rfl:k=n:=O
 rw [aK O] at hO;obtain ⟨Ao,co,rfl,_,_⟩:=Own.slice hO;refine G6 ?_;refine uz [] Mo ?_;intro s3 h3 ou;simp only [jC,jD];have hSt:=Own.strs hO (qu6 hv hu hN) ou (by rw [bB];omega);refine Zr<|kb Y2<|Jc Y3 (Om (l.map λx=>nR x 0) Pz O) ?_;exact W3
def qmQ(hE:HE D d)(L:Hl)(hG:GP s)(hA:j8 d s A n c x.args)(hu:iQ x.num)(hv:om x=true)(hN:mT x<=2000)(b:Bool):jT D 251 [.agg #[iB x.kind,iB x.op,iJ x.num,St x.name,.slice A n c],.bool b] L s (St (if x.kind=7/\b=true then [40]++nR x 0++[41] else nR x 0)):=by
 have tZ:=Uu x 0 hv (qzn hu hA.u);refine jn (fn:=f251) jb func251 V Z ntmps251 Z (rs:=[.tmp 4]) Z [(0,_),(1,_)] Z<|Sr<|kF Y2 λβ1 s1 h1=>lM ?_;refine ld (t:=8) Z ?_ ?_<;>intro c2
 .refine G5 ?_;refine su Z ?_ ?_<;>intro c3;.refine Sr<|iA (iZ 0 [_,_,_,_,_] Y5) Z<|Jc Y3 (hE _ _ Pz x A n c Pz hu hv hN) ?_;rintro _ _ s4 h4 ⟨rfl,rfl⟩;refine iA (lO Y2 Uo) Z<|iA (lO Y2 Uo) Z<|G5 ?_;refine rR [_] L (.t1 Z) Z Lc λ_ iD=>?_;rw [au ⟨by assumption,by assumption⟩];exact ⟨rfl,rfl⟩
  refine Zk<|Zt<|Sr<|iA (iZ 0 [_,_,_,_,_] Y5) Z<|Jc Y3 (hE _ _ Pz x A n c Pz hu hv hN) ?_;rintro _ _ s4 h4 ⟨rfl,rfl⟩;refine G4 ?_;refine rR [_] L (.t1 Z) Z Lc λ_ iD=>?_;rw [ak (λk=>by have h9:=k.2;simp_all)];exact ⟨rfl,rfl⟩
 refine G9 ?_;refine iA (iZ 0 [_,_,_,_,_] Y5) Z<|Jc Y3 (hE _ _ Pz x A n c Pz hu hv hN) ?_;rintro _ _ s3 h3 ⟨rfl,rfl⟩;refine G4 ?_;refine rR [_] L (.t1 Z) Z Lc λ_ iD=>?_;rw [ak (λk=>absurd k.1 As)];exact ⟨rfl,rfl⟩
def Ta(hE:HE D d)(hG:GP s)(hA:j8 d s A n c x.args)(hu:iQ x.num)(hv:om x=true)(hN:mT x<=2000)(out:Int){b:Bool}(hb:b=decide (vC x.op < out)):jU D 251 [.agg #[iB x.kind,iB x.op,iJ x.num,St x.name,.slice A n c],.bool b] L s λv L' _=>v=St (nR x out)/\L=L':=by
 have h:=qmQ hE L hG hA hu hv hN b;have hk:=Bz (zz hv).1;have e:(if x.kind=7/\b=true then [40]++nR x 0++[41] else nR x 0)=nR x out:=by
  rw [qBZ hk.1 hk.2.1 out,hb];simp only [aH]
 rwa [e] at h
def qy8(hv:om x=true)(h:x.kind=3\/x.kind=6):x.args.length=1:=by
 have ha:=Bz (zz hv).1;have h1:=ha.2.2.1;have h2:=ha.2.2.2.1;rcases h with h|h<;>(rw [h] at h1 h2;simp [wa,yE] at h1 h2;omega)
def qG6(hv:om x=true)(h:x.kind=4):x.args.length<=6:=by
 have ha:=Bz (zz hv).1;have h2:=ha.2.2.2.1;rw [h] at h2;simp [yE] at h2;omega
def qG5(hv:om x=true)(h:x.kind=7):x.args.length=2:=by
 have ha:=Bz (zz hv).1;have h1:=ha.2.2.1;have h2:=ha.2.2.2.1;rw [h] at h1 h2;simp [wa,yE] at h1 h2;omega
def FM{p:Prop} (h:p:=by
 exact ⟨by rw [hT];rfl,rfl⟩):p:=h
def HL{p:Prop} (h:p:=by
 rintro _ _ lq kV ⟨rfl,rfl⟩;refine ⟨λ_ _ h=>h,?_⟩;refine za 5 Z (Ru Z Z) Z<|iF 6 V<|Jf Z Tt Z Z Z (Ta (ih e Z) Pz Pz pK uS O (vC x.op) (Z)) λlG kI=>za 7 Z (lO Y2 Uo) Z<|iF 10 V<|Jf Z Tt Z Z Z (qs8 Pz O) λlW lQ=>za 11 Z (lO Y2 Uo) Z<|za 12 Z (lO Y2 Uo) Z<|iF 16 V<|Jf Z Tt Z Z Z (NA) λsB tu=>za 18 Z (K8 Z Z) Z<|iF 19 V<|Jf Z Tt Z Z Z (Ta (ih e Z) Pz Pz tX zj O (vC x.op+1) (by simp only [bK];omega)) λvD vm=>za 20 Z (lO Y2 Uo) Z<|H1 ?_;refine ji V<|G2 ?_;exact rX [_,_,_] L Z Lc λ_ iD=>FM):p:=h
def qly(ih:∀ e,d=e+1->HE D e)(hG:GP s)(hA:j8 d s A n c x.args)(hu:iQ x.num)(hv:om x=true)(hN:mT x<=2000):jT D 220 [.agg #[iB x.kind,iB x.op,iJ x.num,St x.name,.slice A n c]] L s (St (nR x 0)):=by
 have tZ:=Uu x 0 hv (qzn hu hA.u);have hC:=zz hv;have hka:=Bz hC.1;have hl:=hA.1;have hNx:=qHK x;refine jn (fn:=f220) jb func220 V Z ntmps220 Z (rs:=[.tmp 2]) Z [(0,_)] Z<|Sr<|kF Y2 λβ1 s1 h1=>MX ?_ ?_<;>intro c2;.have hT:=qKK c2;refine G4 ?_;refine Je Y3 (Ki Pz hu) λs3 h3=>G6 ?_;exact rX [_] L Z Lc λ_ iD=>FM
 refine J6 ?_ ?_<;>intro c3;.have hT:=qKL c3;refine lM ?_;exact rX [_] L Z h1 λ_ iD=>FM
 refine J6 ?_ ?_<;>intro c4;.have qA:=qy8 hv (.inl c4);obtain ⟨e,b,off,y,A1,n1,c1,rfl,rfl,hy,hcy,hay,pK,kL⟩:=j8.at_ Pz (show 0 < n by omega);obtain ⟨uS,zV⟩:=v7 hC.2 hy;have hT:=qKM c4 qA hy;rw [hT] at tZ;simp only [ac,aw,aq] at tZ;refine Zs<|mr jt 11 Z _ (λ_ h=>h) λs5 h5=>H2 ?_;refine za 2 Z (lO Y2 Uo) Z<|H2 ?_;refine za 5 Z (jK (j:=0) Y6 O) Z<|za 6 Z (ku Y3 Pz Z) Z<|iF 7 V<|Jb Z Tt Z Z Z (ih e Z _ _ Pz y A1 n1 c1 Pz pK uS O) ?_;rintro _ _ s6 h6 ⟨rfl,rfl⟩;refine ⟨λ_ _ h=>h,?_⟩;refine za 8 Z (lO Y2 Uo) Z<|za 9 Z (lO Y2 Uo) Z<|H1 ?_;refine ji V<|G4 ?_;exact rX [_] L Z Lc λ_ iD=>FM
 refine J6 ?_ ?_<;>intro c5;.have hl4:=qG6 hv c5;have hT:=qKN c5;rw [hT] at tZ;simp only [ac,aw,aq] at tZ;refine Zs<|mr jt 9 Z _ (λ_ h=>h) λs6 h6=>H2 ?_;refine za 2 Z (lO Y2 Uo) Z<|H2 ?_;refine iF 5 V<|Jf Z Tt Z Z Z (t_ d ih Pz x.args Pz hC.2 O O) λs7 h7=>za 6 Z (lO Y2 Uo) Z<|za 7 Z (lO Y2 Uo) Z<|H1 ?_;refine ji V<|G4 ?_;exact rX [_] L Z Lc λ_ iD=>FM
 refine J6 ?_ ?_<;>intro c6;.refine G8 ?_;exact rX [_] L Z h1 λ_ iD=>⟨by rw [qKO As];rfl,rfl⟩
 refine J6 ?_ ?_<;>intro c7;.have qA:=qy8 hv (.inr c7);have vu:=hka.2.2.2.2.1 c7;obtain ⟨e,b,off,y,A1,n1,c1,rfl,rfl,hy,hcy,hay,pK,kL⟩:=j8.at_ Pz (show 0 < n by omega);obtain ⟨uS,zV⟩:=v7 hC.2 hy;have hT:=qKP c7 qA hy;rw [hT] at tZ;simp only [ac,aw,aq] at tZ;refine Zs<|mr jt 10 Z _ (λ_ h=>h) λs8 h8=>H4 ?_;refine za 5 Z (jK (j:=0) Y6 O) Z<|za 6 Z (ku Y3 Pz Z) Z<|iF 2 V<|Jf Z Tt Z Z Z (qs8 Pz O) λs9 h9=>iF 7 V<|Jf Z Tt Z Z Z (Ta (ih e Z) Pz Pz pK uS O 9 (by have:=UC y.op;exact (bL O).symm)) λkH jG=>za 8 Z (lO Y2 O) Z<|H1 ?_;refine ji V<|G4 ?_;exact rX [_] L Z Lc λ_ iD=>FM
 have h7:x.kind=7:=O
 have qX:=qG5 hv h7;have vu:=hka.2.2.2.2.2 h7;obtain ⟨e,b,off,y,A1,n1,c1,rfl,rfl,hy,hcy,hay,pK,kL⟩:=j8.at_ Pz (show 0 < n by omega);obtain ⟨uS,zV⟩:=v7 hC.2 hy;obtain ⟨e',b',off',z,A2,n2,c2,yl,qW,hz,hcz,haz,tX,hnz⟩:=j8.at_ Pz (show 1 < n by omega);cases qW;obtain rfl:e=e':=O
 obtain ⟨zj,hNz⟩:=v7 hC.2 hz;have hT:=qKQ h7 qX hy hz;rw [hT] at tZ;simp only [ac,aw,aq] at tZ;refine G7 ?_;refine Je Y3 (NA) λs8 h8=>At Z Z<|Zs<|mr jt 12 Z _ (λ_ h=>h) λs9 h9=>H2 ?_;refine za 2 Z (jK (j:=0) Y6 O) Z<|za 3 Z (ku Y3 Pz Z) Z<|H2 ?_;refine za 6 Z (jK (j:=1) Y6 O) Z<|za 7 Z (ku Y3 Pz Z) Z ?_;refine kA 8 9 V ?_ ?_;.refine ky Z Tt Z [_,_,_,_,_] Y2 λb10 kH jG=>iF 9 V<|ky Z Tt Z [_,_,_,_,_] Y2 λb11 kz jM=>iF 10 V<|Wu Z Tt 1 [_,_,_,_,_] Y9 (sM (lz (nD (jL))))<|iF 11 V<|Wu Z Tt 0 [_,_,_,_,_] Y9 (sM (lz (nD (jL))))<|ji V<|Zt<|Zs<|mr jt 22 Z _ (λ_ h=>h) λkh jE=>za 0 Z (iZ 1 [_,_,_,_,_] Y5) Z<|H4 ?_;refine za 9 Z (Wd 2 Y5) Z<|za 13 Z (iZ 0 [_,_,_,_,_] Y5) Z<|H3 ?_;refine iF 3 V<|Jb Z Tt Z Z Z (NA) ?_;exact HL
 refine ky Z Tt Z [_,_,_,_,_] Y2 λb10 kH jG=>iF 8 V<|ky Z Tt Z [_,_,_,_,_] Y2 λb11 kz jM=>iF 10 V<|Wu Z Tt 0 [_,_,_,_,_] Y9 (sM (lz (nD (jL))))<|iF 11 V<|Wu Z Tt 1 [_,_,_,_,_] Y9 (sM (lz (nD (jL))))<|ji V<|Zt<|Zs<|mr jt 22 Z _ (λ_ h=>h) λkh jE=>za 0 Z (iZ 0 [_,_,_,_,_] Y5) Z<|H4 ?_;refine za 9 Z (Wd 2 Y5) Z<|za 13 Z (iZ 1 [_,_,_,_,_] Y5) Z<|H3 ?_;refine iF 3 V<|Jb Z Tt Z Z Z (NA) ?_;exact HL
def B9{D:Nat}:∀ d,HE D d
 | 0=>λL s hG x A n c hA hu hv hN=>qly (λe h=>O) hG hA hu hv hN
 | d+1=>λL s hG x A n c hA hu hv hN=>qly (d:=d+1) (λe h=>(show d=e by omega)▸B9 d) hG hA hu hv hN
def qu7(d:Nat)(hG:GP s)(l:List Ex)(hA:j8 d s A n c l)(hv:pE l=true)(hN:lh l<=2000)(hn:n<=1000):jT D 222 [.slice A n c] L s (St (rC (sa l []))):=t_ d (λe _=>B9 e) hG l hA hv hN hn
end
section
variable{T:Nat}{l l2:iH}{p:iE}{x:iP}{e xs:List iP}
def BV(M:Hl)(v:Value)(l:iH):Prop:=Own 5 1 M v l.length (bv l)/\(l=[]->M=[]/\v=.slice none 0 0)
def BV.nil:BV [] (.slice none 0 0) []:=⟨Own.nil,λ_=>⟨rfl,rfl⟩⟩
def qv5{e:Nat}{xs:iz}(h:Own e 1 M (.slice none 0 0) n xs):M=[]:=by cases h;rfl
def BV.app{M1:Hl}(h:BV M v l)(o:Own 5 1 M1 v1 (l.length+l2.length) (bv l++bv l2))(hn:v=.slice none 0 0->l2.length=0->v1=.slice none 0 0):BV M1 v1 (l++l2):=by
 have hb:bv (l++l2)=bv l++bv l2:=by simp [bv]
 refine ⟨by rw [hb,ac];exact o,λh0=>?_⟩;obtain ⟨h1,h2⟩:=List.append_eq_nil_iff.1 h0;have hv:=hn (h.2 h1).2 (by rw [h2];rfl);subst hv;exact ⟨qv5 o,rfl⟩
def BV.cap(h:BV M (.slice A n c) l):A=none\/c≠0:=by
  by_cases h0:l=[]
  . have:=(h.2 h0).2;injection this with e;exact .inl e
  . right
    obtain ⟨_,c',e,h2,_⟩:=Own.slice h.1;injection e with e1 e2 e3
    have:l.length≠0:=by simpa using h0
    omega
theorem F9{a b:iH}(h:∃ T,b=T++[10]):∃ T,a++b=T++[10]:=by grind
def qoR(k:Int)(nm:iH)(es:List iH):∃ T,yI k nm es=T++[10]:=by
 unfold yI;repeat' split
 all_goals first
  | exact F9 ⟨[59],rfl⟩
  | exact F9 ⟨[41,59],rfl⟩
def qtj:∀ (x:iP) (lv:Nat),∃ T,x7 x lv=T++[10]
  | .mk k nm es b [],lv=>by
    simp only [x7];by_cases h:k=3\/k=4
    . rw [au h];refine F9 ?_;rw [au (by rfl)];exact ⟨[],rfl⟩
    . rw [ak h];exact qoR ..
  | .mk k nm es b (z::r),lv=>by
    simp only [x7];by_cases h:k=3\/k=4
    . rw [au h]
      refine F9 ?_;rw [ak Ξ];by_cases hi:EY (z::r)=true
      . rw [au hi,BQ];exact F9 (qtj z lv)
      . rw [ak hi];exact F9 ⟨[125],rfl⟩
    . rw [ak h];exact qoR ..
def uI(x:iP)(lv:Nat):iH:=(x7 x lv).dropLast
def Vf(x:iP)(lv:Nat):uI x lv++[10]=x7 x lv:=by
 obtain ⟨T,h⟩:=qtj x lv;rw [uI,h,fG]
def Cm{T:iH}(h:x7 x lv=T++[10]):uI x lv=T:=by rw [uI,h,fG]
def Ah(e:List iP)(lv:Nat):iH:=if e.isEmpty=true then [] else if EY e=true then [32,101,108,115,101,32]++(BQ e lv).dropLast else [32,101,108,115,101,32,123,10]++uo e (lv+1)++pT lv++[125]
def qLl(e:List iP)(lv:Nat):(if e.isEmpty=true then [10] else if EY e=true then [32,101,108,115,101,32]++BQ e lv else [32,101,108,115,101,32,123,10]++uo e (lv+1)++pT lv++[125,10])=Ah e lv++[10]:=by
  unfold Ah;split
  . rfl
  split
  . rename_i h1 h2
    match e,h2 with
    | [],h2=>exact absurd rfl h1
    | _::_::_,h2=>exact absurd h2 (by simp [EY])
    | [z],h2 => 
      simp only [BQ];rw [am];exact bl _ (Vf z lv).symm
  . simp
def qCS(lv:Nat):Ah [] lv=[]:=rfl
def qIB{z:iP}(lv:Nat)(h:e.length=1)(hz:e[0]?=some z)(hk:z.kind=3):Ah e lv=[32,101,108,115,101,32]++uI z lv:=by
 rw [PH h hz];cases z with
 | mk k nm es b l=>
  have hk:k=3:=hk;unfold Ah;rw [ak Ξ,au (by simp [EY,hk])];rfl
def qvZ(lv:Nat)(h0:e.length≠0)(h:¬ (e.length=1/\∀ z,e[0]?=some z->z.kind=3)):Ah e lv=[32,101,108,115,101,32,123,10]++uo e (lv+1)++pT lv++[125]:=by
 unfold Ah;rw [ak (by intro g;exact h0 (by simpa using g)),ak];intro g;match e,g with
 | [.mk k nm es b l],g=>exact h ⟨rfl,λz hz=>by simp at hz;subst hz;show k=3;simpa [EY] using g⟩
def wY(h:th x lv=true):lv<=16/\vE x.kind x.name x.exprs.length x.body.length x.els.length=0/\pE x.exprs=true/\oC x.body (lv+1)=true/\oC x.els (lv+1)=true:=by
 cases x with
 | mk k nm es b e=>simp only [th,aA,aH] at h;exact ⟨h.1.1.1.1,h.1.1.1.2,h.1.1.2,h.1.2,h.2⟩
def Gx(x:iP):qm x=1+lh x.exprs+ke x.body+ke x.els:=by cases x;rfl
def Cb{k:Int}{ne nb nl:Nat}(h:vE k nm ne nb nl=0):1<=k/\k<=10/\wW k<=ne/\ne<=zC k/\(0 < nb->k=3\/k=4)/\(0 < nl->k=3):=by
  unfold vE at h;split at h
  . cases h
  rename_i h1;split at h
  . cases h
  split at h
  . cases h
  rename_i h3;refine ⟨O,O,?_,?_,?_,?_⟩
  . exact dR λhh=>h3 (.inr (.inl hh))
  . exact dR λhh=>h3 (.inr (.inr (.inl hh)))
  . intro hb
    by_cases h4:k=3\/k=4
    . exact h4
    . exact absurd (.inr (.inr (.inr (.inl ⟨hb,λe=>h4 (.inl e),λe=>h4 (.inr e)⟩)))) h3
  . intro hb
    by_cases h4:k=3
    . exact h4
    . exact absurd (.inr (.inr (.inr (.inr ⟨hb,h4⟩)))) h3
def DO:∀ {l:List iP} {k lv:Nat} {y:iP},oC l lv=true->l[k]?=some y->th y lv=true/\qm y<=ke l
 | [],_,_,_,_,h=>by cases h
 | x::r,0,lv,y,hv,h=>by
  simp at h;subst h;simp only [oC,aA] at hv;exact ⟨hv.1,by rw [ke];omega⟩
 | x::r,k+1,lv,y,hv,h=>by
  simp only [oC,aA] at hv;have:=DO hv.2 (show r[k]?=some y by simpa using h);exact ⟨this.1,by rw [ke];omega⟩
def qtl{l:List iP}(h:l[k]?=some x):uo (l.drop k) lv=pT lv++x7 x lv++uo (l.drop (k+1)) lv:=by
 obtain ⟨hk,rfl⟩:=al.1 h;rw [aM hk,uo]
section
variable{x:iP}{y z:Ex}
def AI(hv:th x lv=true)(h:x.kind=1\/x.kind=3\/x.kind=4\/x.kind=6\/x.kind=7\/x.kind=8):x.exprs.length=1:=by
 have ha:=Cb (wY hv).2.1;have h1:=ha.2.2.1;have h2:=ha.2.2.2.1;rcases h with h|h|h|h|h|h<;>(rw [h] at h1 h2;simp [wW,zC] at h1 h2;omega)
def Zj(hv:th x lv=true)(h:x.kind=2):x.exprs.length=2:=by
 have ha:=Cb (wY hv).2.1;have h1:=ha.2.2.1;have h2:=ha.2.2.2.1;rw [h] at h1 h2;simp [wW,zC] at h1 h2;omega
def Zm(hv:th x lv=true)(h:x.kind=5):x.exprs.length<=6:=by
 have ha:=Cb (wY hv).2.1;have h2:=ha.2.2.2.1;rw [h] at h2;simp [zC] at h2;omega
def Zi(hv:th x lv=true)(h:x.kind=9\/x.kind=10):x.exprs=[]:=by
 have ha:=Cb (wY hv).2.1;have h2:=ha.2.2.2.1;rcases h with h|h<;>(rw [h] at h2;simp [zC] at h2;exact h2)
def qLA(hv:th x lv=true)(h:x.kind≠3):x.els=[]:=by
 have ha:=(Cb (wY hv).2.1).2.2.2.2.2;cases he:x.els with
 | nil=>rfl
 | cons a r=>rw [he] at ha;exact absurd (ha Ξ) h
def DW(h:¬ (x.kind=3\/x.kind=4)):x7 x lv=yI x.kind x.name (sa x.exprs []):=by
 cases x with
 | mk k nm es b e=>
  have h:¬ (k=3\/k=4):=h;simp only [x7];rw [ak h];rfl
def GF{l:List Ex}(h:l.length=1)(hy:l[0]?=some y):sa l []=[nR y 0]:=by rw [PH h hy];rfl
def qHL{l:List Ex}(h:l.length=2)(hy:l[0]?=some y)(hz:l[1]?=some z):sa l []=[nR y 0,nR z 0]:=by rw [ZG h hy hz];rfl
def qLF(h:x.kind=1)(hl:x.exprs.length=1)(hy:x.exprs[0]?=some y):uI x lv=x.name++[32,61,32]++nR y 0++[59]:=Cm (by
 rw [DW O,h,GF hl hy];simp [yI])
def qLG(h:x.kind=2)(hl:x.exprs.length=2)(hy:x.exprs[0]?=some y)(hz:x.exprs[1]?=some z):uI x lv=x.name++[91]++nR y 0++[93,32,61,32]++nR z 0++[59]:=Cm (by
 rw [DW O,h,qHL hl hy hz];simp [yI])
def qLJ(h:x.kind=5):uI x lv=x.name++[40]++rC (sa x.exprs [])++[41,59]:=Cm (by
 rw [DW O,h];simp [yI])
def qLK(h:x.kind=6)(hl:x.exprs.length=1)(hy:x.exprs[0]?=some y):uI x lv=[114,101,116,117,114,110,32]++nR y 0++[59]:=Cm (by
 rw [DW O,h,GF hl hy];simp [yI,rC])
def qLL(h:x.kind=7)(hl:x.exprs.length=1)(hy:x.exprs[0]?=some y):uI x lv=[112,117,116,32]++nR y 0++[59]:=Cm (by
 rw [DW O,h,GF hl hy];simp [yI,rC])
def qLM(h:x.kind=8)(hl:x.exprs.length=1)(hy:x.exprs[0]?=some y):uI x lv=[115,116,111,112,32]++nR y 0++[59]:=Cm (by
 rw [DW O,h,GF hl hy];simp [yI,rC])
def qLN(h:x.kind=9)(hl:x.exprs=[]):uI x lv=[98,114,101,97,107,59]:=Cm (by
 rw [DW O,h,hl];simp [yI,rC,sa])
def qI3(h:x.kind=10)(hl:x.exprs=[]):uI x lv=[99,111,110,116,105,110,117,101,59]:=Cm (by
 rw [DW O,h,hl];simp [yI,rC,sa])
def qLH(h:x.kind=3)(hl:x.exprs.length=1)(hy:x.exprs[0]?=some y):uI x lv=[105,102,32,40]++nR y 0++[41,32,123,10]++uo x.body (lv+1)++pT lv++[125]++Ah x.els lv:=Cm (by
 cases x with
 | mk k nm es b e=>
  have h:k=3:=h;have hl:es.length=1:=hl;have hy:es[0]?=some y:=hy;simp only [x7];rw [au (.inl h),qLl,GF hl hy,h];simp [iP.body,iP.els])
def qLI(h:x.kind=4)(hl:x.exprs.length=1)(hy:x.exprs[0]?=some y)(he:x.els=[]):uI x lv=[119,104,105,108,101,32,40]++nR y 0++[41,32,123,10]++uo x.body (lv+1)++pT lv++[125]:=Cm (by
 cases x with
 | mk k nm es b e=>
  have h:k=4:=h;have he:e=[]:=he;have hl:es.length=1:=hl;have hy:es[0]?=some y:=hy;simp only [x7];rw [au (.inr h),GF hl hy,h,he];simp [iP.body])
end
attribute [local irreducible] JC JO JA JB ma mO mX AC fill iy QE Ev my
def j_(zs:iz)(n:Nat):pk zs n []=zs:=by cases zs<;>rfl
def LA(R:iz)(T:Nat):Prop:=Go.liesAt prog prog.depth T ((R.length+2) / prog.cellsOf T) 0 126 1=true
def WC(R:iz)(T bb:Nat)(M:Hl)(l:iH):Prop:=∃ p M0 v,((p=none\/p=jZ bb)/\LA R T)/\M=(bb,cb (.pointer p::v::R) T)::M0/\BV M0 v l
def WC.mk(hp:(p=none\/p=jZ bb)/\LA R T)(h:BV M0 v l):WC R T bb ((bb,cb (.pointer p::v::R) T)::M0) l:=⟨p,M0,v,hp,rfl,h⟩
abbrev Wr(bb:Nat)(M:Hl)(l:iH):Prop:=WC [] 241 bb M l
def Wr.mk(hp:p=none\/p=jZ bb)(h:BV M0 v l):Wr bb ((bb,cb [.pointer p,v] 241)::M0) l:=WC.mk ⟨hp,by unfold LA;kernel_rfl⟩ h
def WU{p:Prop} (h:p:=by
 refine lF [] _ (.inl Z) (.nil) Z (Lr D) λ_ iD=>?_;exact ⟨rfl,by first|rfl|simp only [j_]⟩):p:=h
def qln(p:iE)(hp:(p=none\/p=jZ bb)/\LA R T):jU D 133 [iT bb] ((bb,cb (.pointer p::v::R) T)::L) s λu L' _=>u=.tuple #[]/\L'=(bb,cb (iT bb::v::R) T)::L:=by
 refine jn (fn:=f133) jb func133 V Z ntmps133 Z (rs:=[]) Z [(0,_)] Z<|G6 ?_;refine iA (qGD underlying124 Z) Z<|G2 ?_;refine su Z ?_ ?_<;>intro c1
 .obtain rfl:p=none:=by simpa using c1
  refine G3 ?_;refine iA (qGJ 0 underlying124 underlying286 Z Z Z Z) Z<|iA (qAS func178 V V V V Z Z) Z<|iA (qua 0 underlying286 underlying124 Z Z Z hp.2) Z<|G2 ?_;refine xS 0 (_::_::_) Y5 Z Z Z Z<|Zn ?_;exact WU
 obtain rfl:p=jZ bb:=hp.1.resolve_left (λh=>by rw [h] at c1;cases c1);refine G7 ?_;refine iA (qGE underlying124 Z Z Z) Z<|G4 ?_;exact WU
def qtP(p:iE)(hp:(p=none\/p=jZ bb)/\LA R T)(hb:BV M v l)(iK:l.length+l2.length<=140737488355328):jU D 87 [iT bb,St l2] ((bb,cb (.pointer p::v::R) T)::(M++L)) s λu L' _=>u=.tuple #[iB (l2.length:Int),.nilIface]/\∃ M' v',L'=(bb,cb (iT bb::v'::R) T)::(M'++L)/\BV M' v' (l++l2):=by
 obtain ⟨Ab,cb1,rfl,kb1,kb2⟩:=Own.slice hb.1;refine jn (fn:=f87) jb func87 V Z ntmps87 Z (rs:=[.tmp 4,.tmp 5]) Z [(0,_),(1,_)] Z<|G9 ?_;refine Jc Y3 (qln p hp) ?_;rintro _ _ s1 h1 ⟨rfl,rfl⟩;refine lM ?_;refine qqj (sz:=1) (m:=l2.length) (news:=l2.map λb=>Value.int .u8 (b.toNat:Int)) [_] M L Z Z Z Z Z Z Z hb.1 Ξ (λhT w i k1 i1 i2 i3 i4=>qux l2 k1 underlying9 i1 i2 i3 i4) ⟨by simp [Da];omega,O⟩ Z ?_;intro v1 M1 s2 h2 o1 n1;obtain ⟨Av1,cv1,rfl,_,_⟩:=Own.slice o1;simp only [jC,jD];refine G2 ?_;refine xS 0 (_::_::_) Y5 Z Z Z Z<|G5 ?_;refine DT Z Z Z Z<|G5 ?_;exact rR [] _ (.tmp Z (.t1 Z)) Z Lc λ_ iD=>⟨rfl,M1,_,by first|rfl|simp only [j_],hb.app o1 n1⟩
def qBy(p:iE)(hb:BV M v l):jU D 51 [iT bb] ((bb,cb (.pointer p::v::R) T)::(M++L)) s λu L' _=>u=St l/\L'=L:=by
 obtain ⟨Ab,cb1,rfl,kb1,kb2⟩:=Own.slice hb.1;refine jn (fn:=f51) jb func51 V Z ntmps51 Z (rs:=[.tmp 2]) Z [(0,_)] Z<|G6 ?_;refine mv jt 12 Z 1 λs1 h1=>H4 ?_;refine za 4 Z (qGK Z hb.cap) Z<|H5 ?_;refine iF 10 V<|qAD Z Tt [_] M L Z underlying199 V Z Z hb.1 (λh=>(hb.2 h).1) Z (λx hx _=>GM hx) ?_;intro s2 h2;simp only [jC,jD];refine H1 ?_;refine ji V<|G2 ?_;exact rR [_] _ (.t1 Z) Z Lc λ_ iD=>qH
def uB(hW:WC R T bb M l)(iK:l.length+l2.length<=140737488355328):jU D 87 [iT bb,St l2] (M++L) s λu L' _=>∃ M',L'=M'++L/\u=.tuple #[iB (l2.length:Int),.nilIface]/\WC R T bb M' (l++l2):=by
 obtain ⟨p,M0,v,hp,rfl,hb⟩:=hW;refine (qtP p hp hb iK).mono ?_;rintro u L1 s1 _ ⟨h1,M1,v1,h2,h3⟩;exact ⟨_::M1,h2,h1,WC.mk ⟨.inr rfl,hp.2⟩ h3⟩
def qnF(hW:WC R T bb M l):jU D 51 [iT bb] (M++L) s λu L' _=>u=St l/\L=L':=by
 obtain ⟨p,M0,v,hp,rfl,hb⟩:=hW;refine (qBy p hb).mono ?_;rintro u L1 s1 _ ⟨h1,h2⟩;exact ⟨h1,h2.symm⟩
def Ja{p:Prop} (h:p:=by
 rintro _ _ s3 h3 ⟨M1,rfl,rfl,kM⟩;refine ⟨(λ_ hx _=>by cases hx),?_⟩;refine ji V ?_;refine lF [] _ (.inl Z) (.nil) Z Lc λ_ iD=>?_;exact ⟨_,rfl,rfl,kM⟩):p:=h
def Kh(hW:Wr bb M l)(oN:lv<=17)(iK:l.length<=2000000000):po D 175 [iT bb,iB (lv:Int)] M L s λv M' _=>v=.tuple #[]/\Wr bb M' (l++pT lv):=by
 have hml:=E8 lv;refine jn (fn:=f175) jb func175 V Z ntmps175 Z (rs:=[]) Z [(0,_),(1,_)] Z<|mv jt 6 Z 0 λs1 h1=>H4 ?_;refine iF 4 V<|Jf Z Tt Z Z Z (qsX _ O Q6) λs2 h2=>?_;rw [qkp];refine iF 5 V<|Jb Z Tt Z Z Z (uB hW Ut) ?_;exact Ja
def DA(hW:Wr bb M l)(oN:lv<=17){t:iH}(iK:l.length+t.length<=1000000000):po D 129 [iT bb,iB (lv:Int),St t] M L s λv M' _=>v=.tuple #[]/\Wr bb M' (l++(pT lv++t++[10])):=by
 have hml:=E8 lv;refine jn (fn:=f129) jb func129 V Z ntmps129 Z (rs:=[]) Z [(0,_),(1,_),(2,_)] Z<|G4 ?_;refine Jc Y3 (Kh hW oN O) ?_;rintro _ _ s1 h1 ⟨M1,rfl,rfl,kM⟩;refine G7 ?_;refine iA (lO Y2 Uo) Z<|Jc Y3 (uB kM Ut) ?_;rintro _ _ s2 h2 ⟨M2,rfl,rfl,mB⟩;refine Zn ?_;refine lF [] _ (.inl Z) (.nil) Z Lc λ_ iD=>?_;exact ⟨_,rfl,rfl,by simpa only [am] using mB⟩
def GS(D d:Nat):Prop:=∀ (L:Hl) (s:World),GP s->∀ (bb:Nat) (M:Hl) (l:iH),Wr bb M l->∀ (A:iE) (n c:Nat) (xs:List iP) (lv:Nat),jo d s A n c xs->oC xs lv=true->ke xs<=2000->lv<=17->l.length+(uo xs lv).length<=1000000000->po D 132 [iT bb,.slice A n c,iB (lv:Int)] M L s λv M' _=>v=.tuple #[]/\Wr bb M' (l++uo xs lv)
def MY(D d:Nat):Prop:=∀ (L:Hl) (s:World),GP s->∀ (bb:Nat) (M:Hl) (l:iH),Wr bb M l->∀ (A:iE) (n c:Nat) (xs:List iP) (lv:Nat),jo d s A n c xs->oC xs (lv+1)=true->ke xs<=2000->lv<=16->l.length+(Ah xs lv).length<=1000000000->po D 221 [iT bb,.slice A n c,iB (lv:Int)] M L s λv M' _=>v=.tuple #[]/\Wr bb M' (l++Ah xs lv)
def MZ(D d:Nat):Prop:=∀ (L:Hl) (s:World),GP s->∀ (bb:Nat) (M:Hl) (l:iH),Wr bb M l->∀ (A1 A2 A3:iE) (n1 c1 n2 c2 n3 c3:Nat) (x:iP) (lv:Nat),j8 d s A1 n1 c1 x.exprs->jo d s A2 n2 c2 x.body->jo d s A3 n3 c3 x.els->th x lv=true->qm x<=2000->l.length+(uI x lv).length<=1000000000->po D 177 [iT bb,.agg #[iB x.kind,St x.name,.slice A1 n1 c1,.slice A2 n2 c2,.slice A3 n3 c3],iB (lv:Int)] M L s λv M' _=>v=.tuple #[]/\Wr bb M' (l++uI x lv)
def l_(ih:∀ e,d=e+1->MZ D e)(hG:GP s)(hW:Wr bb M l)(hA:jo d s A n c xs)(hv:oC xs lv=true)(hN:ke xs<=2000)(oN:lv<=17)(iK:l.length+(uo xs lv).length<=1000000000):po D 132 [iT bb,.slice A n c,iB (lv:Int)] M L s λv M' _=>v=.tuple #[]/\Wr bb M' (l++uo xs lv):=by
 have hn:=hA.1;have nI:=hA.2.1;have pt:=hA.2.2.1;have hml:=E8 lv;refine jn (fn:=f132) jb func132 V Z ntmps132 Z (rs:=[]) Z [(0,_),(1,_),(2,_)] Z<|G8 ?_;refine lJ (γ:=Nat×Hl×iH) (λg=>[(0,_),(2,_),(8,_),(9,_),(10,iB (g.1:Int))]) (λg=>g.2.1++L) (λg tw=>Le D s tw/\(g.1<=n/\Wr bb g.2.1 g.2.2/\g.2.2++uo (xs.drop g.1) lv=l++uo xs lv)) (λg=>n - g.1) (λ_ _ _ h hl=>⟨h.1.trans hl,h.2⟩) (0,M,l) (.c5 Z Z Z Z Z (.nil _)) Z ⟨Le.refl _,⟨aB _,hW,Z⟩⟩ ?_;intro g s1 I1;obtain ⟨k,Mo,lo⟩:=g;obtain ⟨ko,hWo,hS⟩:=I1.2;simp only at ko hWo hS;dsimp only;have j9:=bl List.length hS;simp only [ac] at j9;refine J6 ?_ ?_<;>intro c2
 .have hk:k < n:=O
  obtain ⟨e,b,off,x,A1,n1,c1,A2,n2,c2,A3,n3,c3,hd,rfl,hx,hcx,hax,so,hex,kL⟩:=jo.at_ Pz hk;obtain ⟨vS,hNx⟩:=DO hv hx;have qp:=bl List.length (qtl (lv:=lv) hx);have j5:=bl List.length (Vf x lv);simp only [ac,aw,aq] at qp j5;refine G6 ?_;refine iA (jK Y6 hk) Z<|iA (ku Y3 Pz Z) Z<|jh Z [_,_,_,_,_] Y2 λβ3 s3 h3=>Wt 0 [_,_,_,_,_] Y9<|G6 ?_;refine lm Mo L kv (Kh hWo oN O) ?_;rintro _ M1 s4 h4 ⟨rfl,kM⟩;refine G5 ?_;refine iA (iZ 0 [_,_,_,_,_] Y5) Z<|kb Y2<|lm M1 L kv (ih e hd _ _ Pz bb M1 (lo++pT lv) kM A1 A2 A3 n1 c1 n2 c2 n3 c3 x lv Pz Pz Pz vS O Q24) ?_;rintro _ M2 s5 h5 ⟨rfl,mB⟩;refine G6 ?_;refine lm M2 L kv (uB mB Ut) ?_;rintro _ M3 s6 h6 ⟨rfl,hW3⟩;refine G4 ?_;refine kq Y3 (jq O O)<|G2 ?_;refine iU ⟨(k+1,M3,((lo++pT lv)++uI x lv)++[10]),[_],kp,Z,⟨Lc,⟨Oz,hW3,by simp only;rw [<- hS,qtl hx,<- Vf x lv];simp only [am]⟩⟩,Oz⟩
 rw [aL O,uo,aE] at hS;refine G4 ?_;refine lF [] _ (.inl Z) (.nil) Z I1.1 λ_ iD=>?_;exact ⟨_,rfl,rfl,hS▸hWo⟩
def e_(ih:∀ e,d=e+1->MZ D e)(hB:GS D d)(hG:GP s)(hW:Wr bb M l)(hA:jo d s A n c xs)(hv:oC xs (lv+1)=true)(hN:ke xs<=2000)(oN:lv<=16)(iK:l.length+(Ah xs lv).length<=1000000000):po D 221 [iT bb,.slice A n c,iB (lv:Int)] M L s λv M' _=>v=.tuple #[]/\Wr bb M' (l++Ah xs lv):=by
 have hn:=hA.1;have nI:=hA.2.1;have pt:=hA.2.2.1;have hml:=E8 lv;refine jn (fn:=f221) jb func221 V Z ntmps221 Z (rs:=[]) Z [(0,_),(1,_),(2,_)] Z<|J9 ?_ ?_<;>intro c1;.obtain rfl:xs=[]:=aJ O;refine G2 ?_;refine lF [] _ (.inl Z) (.nil) Z (Lr D) λ_ iD=>?_;exact ⟨_,rfl,rfl,by rw [qCS,aE];exact hW⟩
 have g0:xs.length≠0:=O
 obtain ⟨e,b,off,z,A1,n1,c1,A2,n2,c2,A3,n3,c3,hd,rfl,hz,hcz,haz,hbz,hez,kL⟩:=jo.at_ Pz (show 0 < n by omega);obtain ⟨zj,hNz⟩:=DO hv hz;refine rW 26 (n=1/\z.kind=3) ?_ ?_
 .refine G5 ?_;refine ld (t:=30) Z ?_ ?_<;>intro c3;.refine G3 ?_;refine iA (jK (j:=0) Y6 O) Z<|G3 ?_;refine iA (jS Y3 Pz Z) Z<|G5 ?_;refine iU (kB.mk (Lr D) Sb Z (bK.2 O))
  refine G8 ?_;refine iU (kB.mk (Lr D) Sb Z ((bR O).symm))
 intro s2 h2;refine mG Z ?_ ?_<;>intro c4;.have g3:=c4;have hT:=qIB lv O hz g3.2;rw [hT] at iK;simp only [ac,aw,aq] at iK;have hvz2:=Ub z lv (lv+1) O zj;refine G5 ?_;refine Jc Y3 (uB hW Ut) ?_;rintro _ _ s5 h5 ⟨M1,rfl,rfl,kM⟩;refine G5 ?_;refine iA (jK (j:=0) Y6 O) Z<|iA (ku Y3 Pz Z) Z<|kb Y2<|Jc Y3 (ih e hd _ _ Pz bb M1 _ kM A1 A2 A3 n1 c1 n2 c2 n3 c3 z lv Pz Pz Pz hvz2 O Uo) ?_;rintro _ _ s6 h6 ⟨M2,rfl,rfl,mB⟩;refine G2 ?_;refine lF [] _ (.inl Z) (.nil) Z Lc λ_ iD=>?_;exact ⟨_,rfl,rfl,by rw [hT];simpa only [am] using mB⟩
 have g3:=c4;have hT:=qvZ (e:=xs) lv g0 (λh=>g3 ⟨O,h.2 z hz⟩);rw [hT] at iK;simp only [ac,aw,aq] at iK;refine G5 ?_;refine Jc Y3 (uB hW Ut) ?_;rintro _ _ s5 h5 ⟨M1,rfl,rfl,kM⟩;refine G7 ?_;refine iA (nV Z Z (show IntKind.i64.wrap ((lv:Int)+1)=((lv+1:Nat):Int) by rw [jq O O];simp)) Z<|Jc Y3 (hB _ _ Pz bb M1 _ kM _ n c xs (lv+1) Pz hv hN O Uo) ?_;rintro _ _ s6 h6 ⟨M2,rfl,rfl,mB⟩;refine G6 ?_;refine Jc Y3 (Kh mB O Uo) ?_;rintro _ _ s7 h7 ⟨M3,rfl,rfl,hW3⟩;refine G6 ?_;refine Jc Y3 (uB hW3 Ut) ?_;rintro _ _ s8 h8 ⟨M4,rfl,rfl,pp⟩;refine G2 ?_;refine lF [] _ (.inl Z) (.nil) Z Lc λ_ iD=>?_;exact ⟨_,rfl,rfl,by rw [hT];simpa only [am] using pp⟩
def SB{p:Prop} (h:p:=by
 exact ⟨_,rfl,rfl,by rw [hT];exact kM⟩):p:=h
def GI{p:Prop} (h:p:=by
 refine ji V<|Zb ?_;refine lF [_] _ (.inl Z) (.nil) Z Lc λ_ iD=>?_;exact SB):p:=h
def qwI(hB:GS D d)(hO:MY D d)(hG:GP s)(hW:Wr bb M l){c2 c3:Nat}(vn:j8 d s A1 n1 c1 x.exprs)(lR:jo d s A2 n2 c2 x.body)(nG:jo d s A3 n3 c3 x.els)(hv:th x lv=true)(hN:qm x<=2000)(iK:l.length+(uI x lv).length<=1000000000):po D 177 [iT bb,.agg #[iB x.kind,St x.name,.slice A1 n1 c1,.slice A2 n2 c2,.slice A3 n3 c3],iB (lv:Int)] M L s λv M' _=>v=.tuple #[]/\Wr bb M' (l++uI x lv):=by
 have hn:=vn.1;have hml:=E8 lv;obtain ⟨oN,hC,hvE,hvB,hvL⟩:=wY hv;have hka:=Cb hC;have hNs:=Gx x;refine jn (fn:=f177) jb func177 V Z ntmps177 Z (rs:=[]) Z [(0,_),(1,_),(2,_)] Z<|Sr<|kF Y2 λβ1 s1 h1=>EE ?_ ?_<;>intro c2;.have qA:=AI hv (.inl c2);obtain ⟨e,b,off,y,Ay,ny,cy,hd,rfl,hy,hcy,hay,pK,kL⟩:=j8.at_ Pz (show 0 < n1 by omega);obtain ⟨uS,zV⟩:=v7 hvE hy;have hT:=qLF (lv:=lv) c2 qA hy;rw [hT] at iK;simp only [ac,aw,aq] at iK;refine mv jt 14 Z 1 λs3 h3=>H5 ?_;refine za 5 Z (lO Y2 Uo) Z<|H2 ?_;refine za 8 Z (jK (j:=0) Y6 O) Z<|za 9 Z (ku Y3 Pz Z) Z<|iF 10 V<|Jb Z Tt Z Z Z (B9 _ _ _ Pz y Ay ny cy Pz pK uS O) ?_;rintro _ _ s4 h4 ⟨rfl,rfl⟩;refine ⟨λ_ _ h=>h,?_⟩;refine za 11 Z (lO Y2 Uo) Z<|za 12 Z (lO Y2 Uo) Z<|iF 13 V<|mR M L lr (uB hW Ut) ?_;rintro _ M1 s5 h5 ⟨rfl,kM⟩;exact GI
 refine J6 ?_ ?_<;>intro c3;.have qX:=Zj hv c3;obtain ⟨e,b,off,y,Ay,ny,cy,hd,rfl,hy,hcy,hay,pK,kL⟩:=j8.at_ Pz (show 0 < n1 by omega);obtain ⟨uS,zV⟩:=v7 hvE hy;obtain ⟨e',b',off',z,Az,nz,cz,yl,qW,hz,hcz,haz,tX,hnz⟩:=j8.at_ Pz (show 1 < n1 by omega);cases qW;obtain ⟨zj,hNz⟩:=v7 hvE hz;have hT:=qLG (lv:=lv) c3 qX hy hz;rw [hT] at iK;simp only [ac,aw,aq] at iK;refine mv jt 21 Z 1 λs4 h4=>H5 ?_;refine za 5 Z (lO Y2 Uo) Z<|H2 ?_;refine za 8 Z (jK (j:=0) Y6 O) Z<|za 9 Z (ku Y3 Pz Z) Z<|H2 ?_;refine za 15 Z (jK (j:=1) Y6 O) Z<|za 16 Z (ku Y3 Pz Z) Z<|iF 10 V<|Jb Z Tt Z Z Z (B9 _ _ _ Pz y Ay ny cy Pz pK uS O) ?_;rintro _ _ s5 h5 ⟨rfl,rfl⟩;refine ⟨λ_ _ h=>h,?_⟩;refine za 11 Z (lO Y2 Uo) Z<|za 12 Z (lO Y2 Uo) Z<|iF 17 V<|Jb Z Tt Z Z Z (B9 _ _ _ Pz z Az nz cz Pz tX zj O) ?_;rintro _ _ s6 h6 ⟨rfl,rfl⟩;refine ⟨λ_ _ h=>h,?_⟩;refine za 18 Z (lO Y2 Uo) Z<|za 19 Z (lO Y2 Uo) Z<|iF 20 V<|mR M L lr (uB hW Ut) ?_;rintro _ M1 s7 h7 ⟨rfl,kM⟩;exact GI
 refine J6 ?_ ?_<;>intro c4;.have qA:=AI hv (.inr (.inl c4));obtain ⟨e,b,off,y,Ay,ny,cy,hd,rfl,hy,hcy,hay,pK,kL⟩:=j8.at_ Pz (show 0 < n1 by omega);obtain ⟨uS,zV⟩:=v7 hvE hy;have hT:=qLH (lv:=lv) c4 qA hy;rw [hT] at iK;simp only [ac,aw,aq] at iK;refine Zs<|mv jt 11 Z 1 λs5 h5=>H5 ?_;refine za 5 Z (jK (j:=0) Y6 O) Z<|za 6 Z (ku Y3 Pz Z) Z<|iF 7 V<|Jb Z Tt Z Z Z (B9 _ _ _ Pz y Ay ny cy Pz pK uS O) ?_;rintro _ _ s6 h6 ⟨rfl,rfl⟩;refine ⟨λ_ _ h=>h,?_⟩;refine za 8 Z (lO Y2 Uo) Z<|za 9 Z (lO Y2 Uo) Z<|iF 10 V<|mR M L lr (uB hW Ut) ?_;rintro _ M1 s7 h7 ⟨rfl,kM⟩;refine ji V<|G7 ?_;refine iA (nV Z Z (show IntKind.i64.wrap ((lv:Int)+1)=((lv+1:Nat):Int) by rw [jq O O];simp)) Z<|lm M1 L kv (hB _ _ Pz bb M1 _ kM _ _ _ x.body (lv+1) Pz hvB O O Uo) ?_;rintro _ M2 s8 h8 ⟨rfl,mB⟩;refine G6 ?_;refine lm M2 L kv (Kh mB O Uo) ?_;rintro _ M3 s9 h9 ⟨rfl,hW3⟩;refine G7 ?_;refine lm M3 L kv (uB hW3 Ut) ?_;rintro _ M4 kH jG ⟨rfl,pp⟩;refine G7 ?_;refine lm M4 L kv (hO _ _ Pz bb M4 _ pp _ _ _ x.els lv Pz hvL O oN Uo) ?_;rintro _ M5 kz jM ⟨rfl,sJ⟩;refine G2 ?_;refine lF [_] _ (.inl Z) (.nil) Z Lc λ_ iD=>?_;exact ⟨_,rfl,rfl,by rw [hT];simpa only [am] using sJ⟩
 refine J6 ?_ ?_<;>intro c5;.have j9:=qLA hv (show x.kind≠3 by omega);have qA:=AI hv (.inr (.inr (.inl c5)));obtain ⟨e,b,off,y,Ay,ny,cy,hd,rfl,hy,hcy,hay,pK,kL⟩:=j8.at_ Pz (show 0 < n1 by omega);obtain ⟨uS,zV⟩:=v7 hvE hy;have hT:=qLI (lv:=lv) c5 qA hy j9;rw [hT] at iK;simp only [ac,aw,aq] at iK;refine Zs<|mv jt 11 Z 1 λs6 h6=>H5 ?_;refine za 5 Z (jK (j:=0) Y6 O) Z<|za 6 Z (ku Y3 Pz Z) Z<|iF 7 V<|Jb Z Tt Z Z Z (B9 _ _ _ Pz y Ay ny cy Pz pK uS O) ?_;rintro _ _ s7 h7 ⟨rfl,rfl⟩;refine ⟨λ_ _ h=>h,?_⟩;refine za 8 Z (lO Y2 Uo) Z<|za 9 Z (lO Y2 Uo) Z<|iF 10 V<|mR M L lr (uB hW Ut) ?_;rintro _ M1 s8 h8 ⟨rfl,kM⟩;refine ji V<|G7 ?_;refine iA (nV Z Z (show IntKind.i64.wrap ((lv:Int)+1)=((lv+1:Nat):Int) by rw [jq O O];simp)) Z<|lm M1 L kv (hB _ _ Pz bb M1 _ kM _ _ _ x.body (lv+1) Pz hvB O O Uo) ?_;rintro _ M2 s9 h9 ⟨rfl,mB⟩;refine G6 ?_;refine lm M2 L kv (Kh mB O Uo) ?_;rintro _ M3 kH jG ⟨rfl,hW3⟩;refine G6 ?_;refine lm M3 L kv (uB hW3 Ut) ?_;rintro _ M4 kz jM ⟨rfl,pp⟩;refine G2 ?_;refine lF [_] _ (.inl Z) (.nil) Z Lc λ_ iD=>?_;exact ⟨_,rfl,rfl,by rw [hT];simpa only [am] using pp⟩
 refine J6 ?_ ?_<;>intro c6;.have hl5:=Zm hv c6;have hT:=qLJ (lv:=lv) c6;rw [hT] at iK;simp only [ac,aw,aq] at iK;refine mv jt 12 Z 1 λs7 h7=>H5 ?_;refine za 5 Z (lO Y2 Uo) Z<|H2 ?_;refine iF 8 V<|Jf Z Tt Z Z Z (qu7 d Pz x.exprs Pz hvE O O) λs8 h8=>za 9 Z (lO Y2 Uo) Z<|za 10 Z (lO Y2 Uo) Z<|iF 11 V<|mR M L lr (uB hW Ut) ?_;rintro _ M1 s9 h9 ⟨rfl,kM⟩;exact GI
 refine J6 ?_ ?_<;>intro c7;.have qA:=AI hv (.inr (.inr (.inr (.inl c7))));obtain ⟨e,b,off,y,Ay,ny,cy,hd,rfl,hy,hcy,hay,pK,kL⟩:=j8.at_ Pz (show 0 < n1 by omega);obtain ⟨uS,zV⟩:=v7 hvE hy;have hT:=qLK (lv:=lv) c7 qA hy;rw [hT] at iK;simp only [ac,aw,aq] at iK;refine mv jt 11 Z 1 λs8 h8=>H5 ?_;refine za 5 Z (jK (j:=0) Y6 O) Z<|za 6 Z (ku Y3 Pz Z) Z<|iF 7 V<|Jb Z Tt Z Z Z (B9 _ _ _ Pz y Ay ny cy Pz pK uS O) ?_;rintro _ _ s9 h9 ⟨rfl,rfl⟩;refine ⟨λ_ _ h=>h,?_⟩;refine za 8 Z (lO Y2 Uo) Z<|za 9 Z (lO Y2 Uo) Z<|iF 10 V<|mR M L lr (uB hW Ut) ?_;rintro _ M1 kH jG ⟨rfl,kM⟩;exact GI
 refine J6 ?_ ?_<;>intro c8;.have qA:=AI hv (.inr (.inr (.inr (.inr (.inl c8)))));obtain ⟨e,b,off,y,Ay,ny,cy,hd,rfl,hy,hcy,hay,pK,kL⟩:=j8.at_ Pz (show 0 < n1 by omega);obtain ⟨uS,zV⟩:=v7 hvE hy;have hT:=qLL (lv:=lv) c8 qA hy;rw [hT] at iK;simp only [ac,aw,aq] at iK;refine mv jt 11 Z 1 λs9 h9=>H5 ?_;refine za 5 Z (jK (j:=0) Y6 O) Z<|za 6 Z (ku Y3 Pz Z) Z<|iF 7 V<|Jb Z Tt Z Z Z (B9 _ _ _ Pz y Ay ny cy Pz pK uS O) ?_;rintro _ _ kH jG ⟨rfl,rfl⟩;refine ⟨λ_ _ h=>h,?_⟩;refine za 8 Z (lO Y2 Uo) Z<|za 9 Z (lO Y2 Uo) Z<|iF 10 V<|mR M L lr (uB hW Ut) ?_;rintro _ M1 kz jM ⟨rfl,kM⟩;exact GI
 refine J6 ?_ ?_<;>intro c9;.have qA:=AI hv (.inr (.inr (.inr (.inr (.inr c9)))));obtain ⟨e,b,off,y,Ay,ny,cy,hd,rfl,hy,hcy,hay,pK,kL⟩:=j8.at_ Pz (show 0 < n1 by omega);obtain ⟨uS,zV⟩:=v7 hvE hy;have hT:=qLM (lv:=lv) c9 qA hy;rw [hT] at iK;simp only [ac,aw,aq] at iK;refine mv jt 11 Z 1 λkH jG=>H5 ?_;refine za 5 Z (jK (j:=0) Y6 O) Z<|za 6 Z (ku Y3 Pz Z) Z<|iF 7 V<|Jb Z Tt Z Z Z (B9 _ _ _ Pz y Ay ny cy Pz pK uS O) ?_;rintro _ _ kz jM ⟨rfl,rfl⟩;refine ⟨λ_ _ h=>h,?_⟩;refine za 8 Z (lO Y2 Uo) Z<|za 9 Z (lO Y2 Uo) Z<|iF 10 V<|mR M L lr (uB hW Ut) ?_;rintro _ M1 kh jE ⟨rfl,kM⟩;exact GI
 refine J6 ?_ ?_<;>intro mz;.have hT:=qLN (lv:=lv) mz (Zi hv (.inl mz));rw [hT] at iK;simp only [ac,aw,aq] at iK;refine G4 ?_;refine lm M L kv (uB hW Ut) ?_;rintro _ M1 kz jM ⟨rfl,kM⟩;refine G2 ?_;refine lF [_] _ (.inl Z) (.nil) Z Lc λ_ iD=>?_;exact SB
 refine J6 ?_ ?_<;>intro nZ;.have hT:=qI3 (lv:=lv) nZ (Zi hv (.inr nZ));rw [hT] at iK;simp only [ac,aw,aq] at iK;refine G4 ?_;refine lm M L kv (uB hW Ut) ?_;rintro _ M1 kh jE ⟨rfl,kM⟩;refine G2 ?_;refine lF [_] _ (.inl Z) (.nil) Z Lc λ_ iD=>?_;exact SB
 exfalso;omega
def XP{p:Prop} (h:p:=by
 exact ⟨hB,hO,λL s hG bb M l hW A1 A2 A3 n1 c1 n2 c2 n3 c3 x lv vn lR nG hv hN iK=>qwI hB hO hG hW vn lR nG hv hN iK⟩):p:=h
def EH{D:Nat}:∀ d,GS D d/\MY D d/\MZ D d
 | 0=>by
  have hB:GS D 0:=λL s hG bb M l hW A n c xs lv hA hv hN oN iK=>l_ (λe h=>O) hG hW hA hv hN oN iK;have hO:MY D 0:=λL s hG bb M l hW A n c xs lv hA hv hN oN iK=>e_ (λe h=>O) hB hG hW hA hv hN oN iK;exact XP
 | d+1=>by
  have ih:∀ e,d+1=e+1->MZ D e:=λe h=>(show d=e by omega)▸(EH d).2.2;have hB:GS D (d+1):=λL s hG bb M l hW A n c xs lv hA hv hN oN iK=>l_ ih hG hW hA hv hN oN iK;have hO:MY D (d+1):=λL s hG bb M l hW A n c xs lv hA hv hN oN iK=>e_ ih hB hG hW hA hv hN oN iK;exact XP
end
section
variable{g:jv}
def Dn(x:iM):Prop:=py x.name=true/\x.params.length<=6/\x.locals.length<=12/\(∀ w∈x.params++x.locals,py w=true)/\oC x.body 1=true/\ke x.body<=2000
def Oj(h:(oH x c).2=0):py x.name=true/\x.params.length<=6/\x.locals.length<=12/\(∀ w∈x.params++x.locals,py w=true)/\oC x.body 1=true/\(oH x c).1=c+ke x.body/\(ke x.body=0\/c+ke x.body<=2000):=by
 unfold oH at h ⊢;split at h
 . cases h
 rename_i h1;split at h
 . cases h
 rename_i h2;split at h
 . cases h
 rename_i h3;rw [ak h1,ak h2,ak h3];obtain ⟨a,b,c⟩:=Ch _ _ _ h;refine ⟨by simpa using h1,O,O,λw hw=>?_,a,b,c⟩;cases hi:py w with
 | true=>rfl
 | false=>exact absurd (fq.2 ⟨w,hw,by rw [hi];rfl⟩) h3
def qE:List iM->Nat
 | []=>0
 | x::r=>ke x.body+qE r
def TS:∀ {l:List iM} {i c:Nat},(tt l i c).1=0->(∀ x∈l,Dn x)/\(qE l=0\/c+qE l<=2000)
  | [],_,_,_=>⟨λx hx=>(by cases hx),.inl rfl⟩
  | x::r,i,c,h=>by
    rw [tt] at h;split at h
    . rename_i h1;exact absurd h h1
    rename_i h1;obtain ⟨a1,a2,a3,a4,a5,a6,a7⟩:=Oj (x:=x) (c:=c) Q5;obtain ⟨b1,b2⟩:=TS h;rw [a6] at b2;refine ⟨λy hy=>?_,?_⟩
    . rcases aR.1 hy with rfl|hy
      . exact ⟨a1,a2,a3,a4,a5,O⟩
      . exact b1 y hy
    . rw [qE];omega
def TY:∀ {l:List jv} {i:Nat},(vM l i).1=0->∀ g∈l,qk g=0
 | [],_,_=>λg hg=>by cases hg
 | x::r,i,h=>λg hg=>by
  rw [vM] at h;split at h
  . rename_i h1;exact absurd h h1
  rename_i h1;rcases aR.1 hg with rfl|hg
  . simpa using h1
  . exact TY h g hg
def qzt:∀ {l:List iM} {i c:Nat},(tt l i c).1=0->tt l i c=(0,0)
 | [],_,_,_=>rfl
 | x::r,i,c,h=>by
  rw [tt] at h ⊢;split at h
  . rename_i h1;exact absurd h h1
  rename_i h1;rw [ak h1];exact qzt h
def qs7(h:(pN p).1=0):pN p=(0,0):=by
 unfold pN at h ⊢;split at h
 . cases h
 rename_i h1;rw [ak h1];split at h
 . rename_i h2;exact absurd h h2
 rename_i h2;rw [ak h2];split at h
 . cases h
 rename_i h3;rw [ak h3];exact qzt h
def UB(h:(pn p).1=0):pn p=(0,0):=by
 unfold pn at h ⊢;split at h
 . rename_i h2;exact absurd h h2
 rename_i h2;rw [ak h2];split at h
 . cases h
 rename_i h3;rw [ak h3]
def BB(h:qk g=0):1<=g.kind/\g.kind<=3/\py g.name=true/\(g.kind≠3->g.init=[])/\(g.kind=2->g.num=0)/\g.init.length<=40000:=by
  unfold qk at h;split at h
  . cases h
  rename_i h1;split at h
  . cases h
  rename_i h2;split at h
  . cases h
  rename_i h3;split at h
  . cases h
  rename_i h4;split at h
  . cases h
  rename_i h5;have hi:g.kind≠3->g.init=[]:=λhk=>by
    by_cases he:g.init=[]
    . exact he
    . exact absurd (.inl ⟨hk,he⟩) h3
  refine ⟨O,O,by simpa using h2,hi,λhk=>?_,?_⟩
  . by_cases he:g.num=0
    . exact he
    . exact absurd (.inr ⟨hk,he⟩) h3
  . by_cases hk:g.kind=3
    . omega
    . rw [hi hk];exact aB _
def qd(p:jc):Prop:=(∀ g∈p.o,iQ g.num/\∀ x∈g.init,iQ x)/\∀ x∈p.funcs,qO x.body=true
def PV(p:jc):Prop:=p.o.length<=64/\p.funcs.length<=64/\(∀ g∈p.o,qk g=0/\g.init.length<=1000)/\(∀ x∈p.funcs,Dn x)/\(BL p).length<=1000000
def qtA(l:iG)(h:∀ x∈l,iQ x):wn (l.map pD)<=12 * l.length:=by
 induction l with
 | nil=>exact ay _
 | cons x r ih=>
  exact XM
def Ou(l:List iH)(h:∀ x∈l,py x=true):wn l<=14 * l.length:=by
 induction l with
 | nil=>exact ay _
 | cons x r ih=>
  have h1:=CJ (h x Mc);have h2:=ih λy hy=>h y (an _ hy);rw [CI,aw];omega
def qvs(h:qk g=0)(hu:iQ g.num/\∀ x∈g.init,iQ x):(uD g).length<=50+12 * g.init.length:=by
 have h1:=CJ (BB h).2.2.1;have h2:=CO hu.1;have h3:=B8 (g.init.map pD);have h4:=qtA g.init hu.2;unfold uD;repeat' split
 all_goals ((try simp only [ac,aw,aq]);omega)
def qvk(h:Dn x)(hu:qO x.body=true):(Ct x).length<=350+200 * ke x.body:=by
 obtain ⟨a1,a2,a3,a4,a5,a6⟩:=h;have h1:=CJ a1;have h2:=B8 x.params;have h3:=Ou x.params λw hw=>a4 w (aI _ hw);have h4:=B8 x.locals;have h5:=Ou x.locals λw hw=>a4 w (aF _ hw);have h6:=Km x.body 1 a5 hu;unfold Ct;split;all_goals ((try simp only [ac,aw,aq]);omega)
def qoe:∀ {l:List jv},(∀ g∈l,qk g=0)->(∀ g∈l,iQ g.num/\∀ x∈g.init,iQ x)->((l.map uD).flatten).length<=50 * l.length+12 * (l.map λg=>g.init.length).sum
 | [],_,_=>aB _
 | g::r,h,hu=>by
  have h1:=qvs (h g Mc) (hu g Mc);have h2:=qoe (l:=r) (λy hy=>h y (an _ hy)) (λy hy=>hu y (an _ hy));simp only [aN,bj,ac,aw,dD];omega
def qn8:∀ {l:List iM},(∀ x∈l,Dn x)->(∀ x∈l,qO x.body=true)->((l.map Ct).flatten).length<=350 * l.length+200 * qE l
 | [],_,_=>aB _
 | x::r,h,hu=>by
  have h1:=qvk (h x Mc) (hu x Mc);have h2:=qn8 (l:=r) (λy hy=>h y (an _ hy)) (λy hy=>hu y (an _ hy));simp only [aN,bj,ac,aw,qE];omega
def qyy{α:Type}{f:α->Nat}{l:List α}{x:α}(h:x∈l):f x<=(l.map f).sum:=by
 induction l with
 | nil=>cases h
 | cons y r ih=>
  simp only [aN,dD];rcases aR.1 h with rfl|h
  . omega
  . have:=ih h;omega
def PV.of(hu:qd p)(h:(pN p).1=0):PV p:=by
  unfold pN at h;split at h
  . cases h
  rename_i h1;split at h
  . rename_i h2;exact absurd h h2
  rename_i h2;split at h
  . cases h
  rename_i h3;obtain ⟨b1,b2⟩:=TS h;have a1:=TY (l:=p.o) (i:=0) Q9;have c1:=qoe a1 hu.1;have c2:=qn8 b1 hu.2;refine ⟨O,O,λg hg=>⟨a1 g hg,?_⟩,b1,?_⟩
  . have:=qyy (f:=λg:jv=>g.init.length) hg
    omega
  . rw [BL,ac];omega
def ja.u{l:List jv}(h:ja s A n c l):∀ g∈l,iQ g.num/\∀ x∈g.init,iQ x:=
 Sl.all (p:=λg=>iQ g.num/\∀ x∈g.init,iQ x) h λg cs ⟨_,_,_,_,hw,hu,_⟩=>⟨hu,hw.u32⟩
def jl.u{l:List iM}(h:jl d s A n c l):∀ x∈l,qO x.body=true:=
 Sl.all (p:=λx=>qO x.body=true) h λx cs ⟨_,_,_,_,_,_,_,_,_,_,_,_,hb,_⟩=>jo.u hb
def RL{p:Prop} (h:p:=by
 obtain ⟨hk,rfl⟩:=al.1 h;rw [aM hk];rfl):p:=h
def TW{α:Type}{f:α->iH}{l:List α}{x:α}(h:l[k]?=some x):((l.drop k).map f).flatten=f x++((l.drop (k+1)).map f).flatten:=by
 exact RL
def qzy{l:List jv}{x:jv}(h:l[k]?=some x):vM (l.drop k) i=if qk x≠0 then (qk x,(i:Int)) else vM (l.drop (k+1)) (i+1):=by
 exact RL
def qzu{l:List iM}(h:l[k]?=some x):tt (l.drop k) i c=if (oH x c).2≠0 then ((oH x c).2,(i:Int)) else tt (l.drop (k+1)) (i+1) (oH x c).1:=by
 exact RL
def qEz{α:Type}{f:α->Nat}{l:List α}{x:α}(h:l[k]?=some x):((l.take (k+1)).map f).sum=((l.take k).map f).sum+f x:=by
 obtain ⟨hk,rfl⟩:=al.1 h;rw [bM hk,bO,List.sum_append];simp
theorem qH0(h:g.kind=1):uD g=pT 0++([99,111,110,115,116,32]++g.name++[32,61,32]++pD g.num++[59])++[10]:=by grind [pT,uD]
theorem qH1(h:g.kind=2):uD g=pT 0++([118,97,114,32]++g.name++[59])++[10]:=by grind [pT,uD]
def qH2(h:¬ g.kind=1)(h2:¬ g.kind=2)(h3:g.init=[]):uD g=pT 0++([97,114,114,97,121,32]++g.name++[91]++pD g.num++[93,59])++[10]:=by simp_all [pT,uD]
theorem qH3(h:¬ g.kind=1)(h2:¬ g.kind=2)(h3:g.init≠[]):uD g=pT 0++([97,114,114,97,121,32]++g.name++[91]++pD g.num++[93,32,61,32]++rC (g.init.map pD)++[59])++[10]:=by grind [pT,uD]
def qs6(h:64 < p.o.length\/64 < p.funcs.length):pN p=(2,-1):=by rw [pN,au h]
def qIS(h:¬ (64 < p.o.length\/64 < p.funcs.length))(h2:(vM p.o 0).1≠0):pN p=vM p.o 0:=by rw [pN,ak h,au h2]
theorem qoM(h:¬ (64 < p.o.length\/64 < p.funcs.length))(h2:vM p.o 0=(0,0))(h3:1000 < (p.o.map λg=>g.init.length).sum):pN p=(2,-1):=by grind [pN]
theorem qLt(h:¬ (64 < p.o.length\/64 < p.funcs.length))(h2:vM p.o 0=(0,0))(h3:¬ 1000 < (p.o.map λg=>g.init.length).sum):pN p=tt p.funcs p.o.length 0:=by grind [pN]
def PM(h:(pN p).1≠0):pn p=pN p:=by rw [pn,au h]
theorem qCZ(h:pN p=(0,0))(h2:12000 < (BL p).length):pn p=(14,-1):=by grind [pn]
theorem Zq(h:pN p=(0,0))(h2:¬ 12000 < (BL p).length):pn p=(0,0):=by grind [pn]
def FY(h:(pn p).1=0):(pN p).1=0:=by
 unfold pn at h;split at h
 . rename_i h2;exact absurd h h2
 . rename_i h2;simpa using h2
attribute [local irreducible] JC JO JA JB ma mO mX AC fill iy QE Ev my
def Kg{c i:Int}:jT D 82 [iB c,iB i] L s (.agg #[iB c,iB i]):=by
 refine jn (fn:=f82) jb func82 V Z ntmps82 Z (rs:=[.cell 4 30]) Z [(0,_),(1,_)] Z<|Sr<|jh Z [_,_] Y2 ?_;exact ES
def qqX(X:Hl){l:iH}(hW:Wr bb M l):jU D 51 [iT bb] (X++(M++L)) s λu L' _=>u=St l/\L'=X++L:=
 AC.perm (aO ..) (qnF hW) λu L1 s1 ⟨g0,g1⟩=>⟨_,eJ _,g0,g1.symm⟩
def qpa(hG:GP s)(c d:Nat)(qp:iO s A1 n1 q1 x.params)(j5:iO s A2 n2 q2 x.locals)(hs3:jo d s A3 n3 q3 x.body)(hc:c<=2000):jU D 84 [iT bc,.agg #[St x.name,.slice A1 n1 q1,.slice A2 n2 q2,.slice A3 n3 q3]] (y::(bc,cb [iB (c:Int)] 189)::L) s λv L' _=>v=iB (oH x c).2/\L'=y::(bc,cb [iB ((oH x c).1:Int)] 189)::L:=
 AC.perm (List.Perm.swap ..) (quS hG c qp j5 hs3 hc) λv L1 s1 ⟨g0,h1⟩=>⟨_,by rw [h1];exact List.Perm.swap ..,g0,rfl⟩
def SM{p:Prop} (h:p:=by
 have hWx:Wr β2 M1 (lo++uD x):=by rw [hT];exact kM
 refine ji V<|G4 ?_;refine kq Y3 (jq O O)<|G2 ?_;refine iU ⟨(k+1,M1,lo++uD x),[_],kp,Z,⟨Lc,⟨by simp only;omega,hWx,by simp only;rw [<- hS,TW hx,am]⟩⟩,Oz⟩):p:=h
def Ir{p:Prop} (h:p:=by
 have hWx:Wr β2 M4 (lo++Ct x):=by simpa [Ct,hlc,pT,am] using pp
 refine G4 ?_;refine kq Y3 (jq O O)<|G2 ?_;refine iU ⟨(k+1,M4,lo++Ct x),[_],kp,Z,⟨Lc,⟨by simp only;omega,hWx,by simp only;rw [<- hS,TW hx,am]⟩⟩,Oz⟩):p:=h
def qDC(hG:GP s)(d:Nat)(jF:ja s Ag ng cg p.o)(jX:jl d s Af nf cf p.funcs)(hV:PV p):jT D 85 [.agg #[.slice Ag ng cg,.slice Af nf cf]] L s (St (BL p)):=by
 have l7:=jF.1;have oW:=jX.1;have hU:=jF.u;have hUf:=jX.u;obtain ⟨y8,A0,hVg,sn,hVl⟩:=hV;have zi:((p.o.map uD).flatten).length+((p.funcs.map Ct).flatten).length<=1000000:=by rw [BL,ac] at hVl;exact hVl
 refine jn (fn:=f85) jb func85 V Z ntmps85 Z (rs:=[.tmp 2]) Z [(0,_)] Z<|Sr<|kF Y2 λβ1 s1 h1=>At Z Z<|Sr<|iA (jB [] [_,_] Y3 Z Z Z) Z<|kF Y2 λβ2 s2 h2=>G5 ?_;refine sq 1 ?_;refine G8 ?_;refine lJ (γ:=Nat×Hl×iH) (λg=>[(1,_),(2,_),(3,_),(11,_),(12,_),(13,iB (g.1:Int))]) (λg=>(β1,cb [.slice Ag ng cg,.slice Af nf cf] 25)::(g.2.1++L)) (λg tw=>Le D s2 tw/\(g.1<=ng/\Wr β2 g.2.1 g.2.2/\g.2.2++((p.o.drop g.1).map uD).flatten=(p.o.map uD).flatten)) (λg=>ng - g.1) (λ_ _ _ h hl=>⟨h.1.trans hl,h.2⟩) (0,[(β2,cb [.pointer none,.slice none 0 0] 241)],[]) (.c6 Z Z Z Z Z Z (.nil _)) Z ⟨Le.refl _,⟨aB _,Wr.mk (.inl Z) BV.nil,Z⟩⟩ ?_;intro g s3 I3;obtain ⟨k,Mo,lo⟩:=g;obtain ⟨ko,hWo,hS⟩:=I3.2;simp only at ko hWo hS;dsimp only;have j9:=bl List.length hS;simp only [ac] at j9;refine J6 ?_ ?_<;>intro c4
 .have hk:k < ng:=O
  obtain ⟨b,off,x,Ai,ni,ci,rfl,hx,hcx,hix,oI,kL⟩:=ja.at_ Pz hk;have hgx:=hVg x (ax hx);have hg0:=BB hgx.1;have zY:=CJ hg0.2.2.1;have hdl:=CO oI;have hni:=hix.1;have hci:=B8 (x.init.map pD);have hct:=qoT x.init hix.u32;refine G6 ?_;refine iA (jK Y6 hk) Z<|iA (ku Y3 Pz Z) Z<|jh Z [_,_,_,_] Y2 λt5 s5 h5=>Wt 0 [_,_,_,_] Y9<|Wk ?_ ?_<;>intro c6;.have hT:=qH0 c6;refine mv jt 11 Z 2 λs7 h7=>H3 ?_;refine za 3 Z (lO Y2 Uo) Z<|za 4 Z (lO Y2 Uo) Z<|H2 ?_;refine iF 7 V<|Jf Z Tt Z Z Z (Ki Pz oI) λs8 h8=>za 8 Z (lO Y2 Uo) Z<|za 9 Z (lO Y2 Uo) Z<|iF 10 V<|Ng Mo L lr (DA (D:=D) (bb:=β2) (M:=Mo) (l:=lo) hWo (lv:=0) O Q13) ?_;rintro _ M1 s9 h9 ⟨rfl,kM⟩;exact SM
  have g1:=c6;refine J8 ?_ ?_<;>intro c7
  .have hT:=qH1 c7;refine G4 ?_;refine iA (lO Y2 Uo) Z<|iA (lO Y2 Uo) Z<|CX Mo L kv (DA (D:=D) (bb:=β2) (M:=Mo) (l:=lo) hWo (lv:=0) O Q13) ?_;rintro _ M1 s8 h8 ⟨rfl,kM⟩;have hWx:Wr β2 M1 (lo++uD x):=by rw [hT];exact kM
   refine G5 ?_;refine kq Y3 (jq O O)<|G2 ?_;refine iU ⟨(k+1,M1,lo++uD x),[_],kp,Z,⟨Lc,⟨Oz,hWx,by simp only;rw [<- hS,TW hx,am]⟩⟩,Oz⟩
  have g2:=c7;refine J9 ?_ ?_<;>intro c8;.have hT:=qH2 g1 g2 (aJ O);refine mv jt 11 Z 2 λs9 h9=>H3 ?_;refine za 3 Z (lO Y2 Uo) Z<|za 4 Z (lO Y2 Uo) Z<|H2 ?_;refine iF 7 V<|Jf Z Tt Z Z Z (Ki Pz oI) λkH jG=>za 8 Z (lO Y2 Uo) Z<|za 9 Z (lO Y2 Uo) Z<|iF 10 V<|Ng Mo L lr (DA (D:=D) (bb:=β2) (M:=Mo) (l:=lo) hWo (lv:=0) O Q13) ?_;rintro _ M1 kz jM ⟨rfl,kM⟩;exact SM
  have hT:=qH3 g1 g2 (λh=>by rw [h] at hni;simp at hni;omega);refine mv jt 16 Z 2 λs9 h9=>H3 ?_;refine za 3 Z (lO Y2 Uo) Z<|za 4 Z (lO Y2 Uo) Z<|H4 ?_;refine iF 7 V<|Jf Z Tt Z Z Z (Ki Pz oI) λkH jG=>za 8 Z (lO Y2 Uo) Z<|za 9 Z (lO Y2 Uo) Z<|iF 12 V<|Jf Z Tt Z Z Z (qpL Pz x.init Pz O) λkz jM=>za 13 Z (lO Y2 Uo) Z<|za 14 Z (lO Y2 Uo) Z<|iF 15 V<|Ng Mo L lr (DA (D:=D) (bb:=β2) (M:=Mo) (l:=lo) hWo (lv:=0) O Q13) ?_;rintro _ M1 kh jE ⟨rfl,kM⟩;exact SM
 rw [aL O,dE,cn,aE] at hS;refine xe ?_;refine lJ (γ:=Nat×Hl×iH) (λg=>[(2,_),(3,_),(76,_),(77,_),(78,iB (g.1:Int))]) (λg=>(β1,cb [.slice Ag ng cg,.slice Af nf cf] 25)::(g.2.1++L)) (λg tw=>Le D s3 tw/\(g.1<=nf/\Wr β2 g.2.1 g.2.2/\g.2.2++((p.funcs.drop g.1).map Ct).flatten=BL p)) (λg=>nf - g.1) (λ_ _ _ h hl=>⟨h.1.trans hl,h.2⟩) (0,Mo,lo) (.c5 Z Z Z Z Z (.nil _)) Z ⟨Le.refl _,⟨aB _,hWo,by simp only [cm];rw [hS,BL]⟩⟩ ?_;intro g s5 I5;obtain ⟨k,Mo,lo⟩:=g;obtain ⟨ko,hWo,hS⟩:=I5.2;simp only at ko hWo hS;dsimp only;have j9:=bl List.length hS;simp only [ac] at j9;refine J6 ?_ ?_<;>intro c6
 .have hk:k < nf:=O
  obtain ⟨b,off,x,B1,m1,d1,B2,m2,d2,B3,m3,d3,rfl,hx,hcx,oP,oO,so,kL⟩:=jl.at_ Pz hk;obtain ⟨hi1,xH,hi3,hi4,hi5,hi6⟩:=sn x (ax hx);have zY:=CJ hi1;have rj:=B8 x.params;have rP:=Ou x.params λw hw=>hi4 w (aI _ hw);have qA:=B8 x.locals;have qX:=Ou x.locals λw hw=>hi4 w (aF _ hw);have hln:=oO.1;have hbl:=Km x.body 1 hi5 (hUf x (ax hx));refine G6 ?_;refine iA (jK Y6 hk) Z<|iA (ku Y3 Pz Z) Z<|jh Z [_,_,_,_] Y2 λd7 s7 h7=>Wt 0 [_,_,_,_] Y9<|Nt<|Zs<|mv jt 11 Z 2 λs8 h8=>H3 ?_;refine za 3 Z (lO Y2 Uo) Z<|za 4 Z (lO Y2 Uo) Z<|H2 ?_;refine iF 7 V<|Jf Z Tt Z Z Z (Om x.params Pz O) λs9 h9=>za 8 Z (lO Y2 Uo) Z<|za 9 Z (lO Y2 Uo) Z<|iF 10 V<|Ng Mo L lr (DA (D:=D) (bb:=β2) (M:=Mo) (l:=lo) hWo (lv:=0) O Q13) ?_;rintro _ M1 kH jG ⟨rfl,kM⟩;refine ji V<|tQ ?_ ?_<;>intro nZ
  .have hlc:x.locals≠[]:=λh=>by rw [h] at hln;simp at hln;omega
   refine G4 ?_;refine Je Y3 (Om x.locals Pz O) λkh jE=>iA (lO Y2 Uo) Z<|iA (lO Y2 Uo) Z<|CX M1 L kv (DA (D:=D) (bb:=β2) (M:=M1) kM (lv:=1) O Q13) ?_;rintro _ M2 lq kV ⟨rfl,mB⟩;refine G7 ?_;refine CX M2 L kv ((EH d).1 _ _ Pz β2 M2 _ mB B3 m3 d3 x.body 1 Pz hi5 hi6 O Q35) ?_;rintro _ M3 lG kI ⟨rfl,hW3⟩;refine G4 ?_;refine CX M3 L kv (DA (D:=D) (bb:=β2) (M:=M3) hW3 (lv:=0) O (t:=[125]) Q13) ?_;rintro _ M4 lW lQ ⟨rfl,pp⟩;exact Ir
  have hlc:x.locals=[]:=aJ O;refine G7 ?_;refine CX M1 L kv ((EH d).1 _ _ Pz β2 M1 _ kM B3 m3 d3 x.body 1 Pz hi5 hi6 O Q35) ?_;rintro _ M3 kh jE ⟨rfl,hW3⟩;refine G4 ?_;refine CX M3 L kv (DA (D:=D) (bb:=β2) (M:=M3) hW3 (lv:=0) O (t:=[125]) Q13) ?_;rintro _ M4 lq kV ⟨rfl,pp⟩;exact Ir
 rw [aL O,dE,cn,aE] at hS;refine lM ?_;refine Jc Y3 (qqX [_] hWo) ?_;rintro _ _ s7 h7 ⟨rfl,rfl⟩;simp only [jC,jD];refine G4 ?_;exact rX [_] L Z Lc λ_ iD=>⟨by rw [<- hS];rfl,rfl⟩
def bT{p:Prop}[Decidable p](h:p):Value.bool (decide p)=.bool true:=by rw [bL h]
def bF{p:Prop}[Decidable p](h:p):Value.bool (!decide p)=.bool false:=by rw [bL h];rfl
def bN{p:Prop}[Decidable p](h:¬ p):Value.bool (!decide p)=.bool true:=by rw [bR h];rfl
def bZ{p:Prop}[Decidable p](h:¬ p):Value.bool (decide p)=.bool false:=by rw [bR h]
def AC.isT{f:FuncId}{args:iz}{p:Prop}[Decidable p](h:AC P D f args L s λv L' _=>v=.bool (decide p)/\L=L')(hp:p):AC P D f args L s λv L' _=>v=.bool true/\L=L':=
 h.mono λv L' _ _ ⟨h1,h2⟩=>⟨by rw [h1,bL hp],h2⟩
def tL{p:Prop} (h:p:=by
 exact ⟨by rw [hE];rfl,rfl⟩):p:=h
def RH{p:Prop} (h:p:=by
 exact rR [_,_,_] L (.agg (us:=[_,_]) 1 Z Z Z Z Z (.nil)) Z Lc λ_ iD=>tL):p:=h
def XQ{p:Prop} (h:p:=by
 refine Wt 0 [_,_] Y9<|G4 ?_;exact rR [_,_] L (.agg (us:=[_,_]) 0 Z Z Z Z Z (.nil)) Z Lc λ_ iD=>tL):p:=h
def d'(hG:GP s)(d:Nat)(p:jc)(jF:ja s Ag ng cg p.o)(jX:jl d s Af nf cf p.funcs):jT D 42 [.agg #[.slice Ag ng cg,.slice Af nf cf]] L s (.agg #[iB (pn p).1,iB (pn p).2]):=by
 have l7:=jF.1;have oW:=jX.1;have hU:qd p:=⟨jF.u,jX.u⟩;refine jn (fn:=Tryz.f42) jb Tryz.func42 V Z Tryz.ntmps42 Z (rs:=[.cell 2 30]) Z [(0,_)] Z<|Sr<|kF Y2 λβ1 s1 h1=>jh Z [_,_] Y2 λβ2 s2 h2=>G3 ?_;refine rW 20 (64 < ng\/64 < nf) ?_ ?_
 .refine G6 ?_;refine ld (t:=15) Z ?_ ?_<;>intro c4;.refine G6 ?_;exact K7
  refine lM ?_;refine iU (kB.mk (Lr D) Sb Z (bK.2 O))
 intro s3 h3;refine mG Z ?_ ?_<;>intro c5
 .have hE:pn p=(2,-1):=by rw [PM (by rw [qs6 O];simp),qs6 O]
  refine Sr<|Je Y3 (Kg) λs6 h6=>?_;exact XQ
 have g20:¬ (64 < p.o.length\/64 < p.funcs.length):=O
 refine Cw ?_;refine CN [_,_] (γ:=Nat×Nat) (λg=>[(1,_),(2,_),(3,iB (g.2:Int)),(23,_),(24,_),(25,iB (g.1:Int))]) (λg=>L) (λg tw=>Le D s3 tw/\(g.1<=ng/\vM p.o 0=vM (p.o.drop g.1) g.1/\g.2=((p.o.take g.1).map λg=>g.init.length).sum/\g.2<=g.1 * 40000)) (λg=>ng - g.1) (λ_ _ _ h hl=>⟨h.1.trans hl,h.2⟩) (0,0) (.c6 Z Z Z Z Z Z (.nil _)) Z ⟨Le.refl _,⟨aB _,Z,Z,aB _⟩⟩ ?_;intro g s6 I6;simp only [jC,jD];obtain ⟨k,z⟩:=g;obtain ⟨ko,hS,hz,hz4⟩:=I6.2;simp only at ko hS hz hz4;dsimp only;refine J6 ?_ ?_<;>intro c7
 .have hk:k < ng:=O
  obtain ⟨b,off,x,Ai,ni,ci,rfl,hx,hcx,hix,oI,kL⟩:=ja.at_ Pz hk;have hni:=hix.1;refine G7 ?_;refine iA (jK Y6 hk) Z<|iA (ku Y3 Pz Z) Z<|jh Z [_,_,_,_] Y2 λt8 s8 h8=>mo Y2<|Wt 0 [_,_,_,_] Y9<|Nt<|Zs<|Sr<|iA (iZ 0 [_,_,_,_] Y5) Z<|Je Y3 (qrd Pz Pz oI) λs9 h9=>G9 ?_;refine lL Z ?_ ?_<;>intro mz
  .have hE:pn p=(qk x,(k:Int)):=by
     have h9:vM p.o 0=(qk x,(k:Int)):=by rw [hS,qzy hx,au mz]
     have h8:pN p=(qk x,(k:Int)):=by rw [qIS g20 (by rw [h9];exact mz),h9]
     rw [PM (by rw [h8];exact mz),h8]
   refine G4 ?_;refine Je Y3 (Kg) λkz jM=>Wt 1 [_,_] Y9<|G9 ?_;exact RH
  have g33:¬ qk x≠0:=λh=>h mz;have hg4:=(BB (show qk x=0 by simpa using g33)).2.2.2.2.2;refine G7 ?_;refine iA (nV Z Z (show IntKind.i64.wrap ((z:Int)+(ni:Int))=((z+ni:Nat):Int) by rw [jq O O];simp)) Z<|G5 ?_;refine kq Y3 (jq O O)<|G2 ?_;refine iU ⟨(k+1,z+ni),[_],kp,Z,⟨Lc,⟨Oz,by simp only;rw [hS,qzy hx,ak g33],by simp only;rw [qEz hx,<- hz,hni],Oz⟩⟩,Oz⟩
 rw [aL O] at hS;rw [aK O] at hz;refine x8 ?_ ?_<;>intro c8
 .have hE:pn p=(2,-1):=by rw [PM (by rw [qoM g20 hS O];simp),qoM g20 hS O]
  refine Sr<|Je Y3 (Kg) λs9 h9=>?_;exact XQ
 have g44:=qLt g20 hS O;refine Zk<|Zt<|Sr<|iA (jB [] [_] Y3 Z Z Z) Z<|kF Y2 λd9 s9 h9=>mY ?_;refine Zp ?_;refine lJ (γ:=Nat×Nat) (λg=>[(1,_),(2,_),(7,_),(49,_),(50,_),(51,iB (g.1:Int))]) (λg=>(d9,cb [iB (g.2:Int)] 189)::_::_::L) (λg tw=>Le D s9 tw/\(g.1<=nf/\g.2<=2000/\tt p.funcs p.o.length 0=tt (p.funcs.drop g.1) (p.o.length+g.1) g.2)) (λg=>nf - g.1) (λ_ _ _ h hl=>⟨h.1.trans hl,h.2⟩) (0,0) (.c6 Z Z Z Z Z Z (.nil _)) Z ⟨Le.refl _,⟨aB _,aB _,Z⟩⟩ ?_;intro g kH I10;obtain ⟨k,ck⟩:=g;obtain ⟨ko,Bb,iD⟩:=I10.2;simp only at ko Bb iD;dsimp only;refine J6 ?_ ?_<;>intro nZ
 .have hk:k < nf:=O
  obtain ⟨b,off,x,B1,m1,d1,B2,m2,d2,B3,m3,d3,rfl,hx,hcx,oP,oO,so,kL⟩:=jl.at_ Pz hk;refine G7 ?_;refine iA (jK Y6 hk) Z<|iA (ku Y3 Pz Z) Z<|jh Z [_,_,_,_] Y2 λb12 kh jE=>mo Y2<|Wt 0 [_,_,_,_] Y9<|G5 ?_;refine iA (iZ 0 [_,_,_,_] Y5) Z<|Jc Y3 (qpa Pz ck d Pz Pz Pz Bb) ?_;rintro _ _ lq kV ⟨rfl,rfl⟩;refine G9 ?_;refine lL Z ?_ ?_<;>intro rI
  .have hE:pn p=((oH x ck).2,((ng+k:Nat):Int)):=by
     have h8:pN p=((oH x ck).2,((ng+k:Nat):Int)):=by rw [g44,iD,qzu hx,au rI,l7]
     rw [PM (by rw [h8];exact rI),h8]
   refine G4 ?_;refine Wl 3 Y6<|G2 ?_;refine iA (nV Z Z (show IntKind.i64.wrap ((ng:Int)+(k:Int))=((ng+k:Nat):Int) by rw [jq O O];simp)) Z<|Je Y3 (Kg) λlW lQ=>Wt 2 [_,_] Y9<|G8 ?_;exact rR [_,_,_,_] L (.agg (us:=[_,_]) 2 Z Z Z Z Z (.nil)) Z Lc λ_ iD=>tL
  have g60:¬ (oH x ck).2≠0:=λh=>h rI;refine G4 ?_;refine kq Y3 (jq O O)<|G2 ?_;refine iU ⟨(k+1,(oH x ck).1),[_],kp,Z,⟨Lc,⟨Oz,by simp only;have hw:=Oj (show (oH x ck).2=0 by simpa using g60);omega,by simp only;rw [iD,qzu hx,ak g60];rfl⟩⟩,Oz⟩
 rw [aL O] at iD;have yr:pN p=(0,0):=by rw [g44,iD];rfl
 have hV:=PV.of hU (by rw [yr]);refine G8 ?_;refine iA (iZ 2 [_,_] Y5) Z<|Je Y3 (qDC Pz d Pz Pz hV) λkh jE=>DT Z Z Z Z<|J3 ?_ ?_<;>intro pZ;.have hE:=qCZ yr O;refine Sr<|Je Y3 (Kg) λlG kI=>Wt 1 [_,_] Y9<|G4 ?_;exact RH
 have hE:=Zq yr O;refine Zk<|Zt<|Sr<|iA (jB [] [_,_] Y3 Z Z Z) Z<|Wt 1 [_,_] Y9<|G3 ?_;exact RH
end
section
variable{seen l:List iH}
abbrev Dm:=iH×Int×Int
def o6(x:iP):Dm:=if x.kind=1 then (x.name,1,0) else if x.kind=2 then (x.name,3,0) else if x.kind=5 then (x.name,4,(x.exprs.length:Int)) else ([],0,0)
def oS(x:Ex):Dm:=if x.kind=2 then (x.name,2,0) else if x.kind=3 then (x.name,3,0) else if x.kind=4 then (x.name,4,(x.args.length:Int)) else ([],0,0)
inductive Nd where
 | st (x:iP) (loops:Nat)
 | ex (x:Ex) (loops:Nat)
def Nd.use:Nd->Dm
 | .st x _=>o6 x
 | .ex x _=>oS x
mutual
def oA:Ex->Nat->List Nd
 | .mk k o n nm az,lp=>.ex (.mk k o n nm az) lp::oY az lp
def oY:List Ex->Nat->List Nd
 | [],_=>[]
 | x::r,lp=>oA x lp++oY r lp
end
mutual
def tA:iP->Nat->List Nd
 | .mk k nm es b e,lp=>.st (.mk k nm es b e) lp::(oY es lp++(ly b (if k=4 then lp+1 else lp)++ly e (if k=4 then lp+1 else lp)))
def ly:List iP->Nat->List Nd
 | [],_=>[]
 | x::r,lp=>tA x lp++ly r lp
end
def se:List jv->List iH->Nat->Int×Int
 | [],_,_=>(0,0)
 | g::r,seen,i=>if g.name∈seen then (8,(i:Int)) else se r (seen++[g.name]) (i+1)
def qF:List iM->List iH->Nat->Int×Int
 | [],_,_=>(0,0)
 | x::r,seen,i=>if x.name∈seen\/¬ (x.params++x.locals).Nodup then (8,(i:Int)) else qF r (seen++[x.name]) (i+1)
def mu:iH:=[109,97,105,110]
def nM(l:List iM):Int:=j6 (λx=>decide (x.name=mu)) l 0
def pB(p:jc):Int×Int:=if (se p.o [] 0).1≠0 then se p.o [] 0 else if (qF p.funcs (p.o.map jv.name) p.o.length).1≠0 then qF p.funcs (p.o.map jv.name) p.o.length
 else if nM p.funcs < 0 then (12,-1) else match p.funcs[(nM p.funcs).toNat]? with
  | some x=>if x.params=[] then (0,0) else (9,-1)
  | none=>(0,0)
def mQ{w:iH}:∀ {l:List iH} {k:Nat},(0<=j6 (λx=>decide (w=x)) l k)↔w∈l
 | [],k=>by simp [j6]
 | x::r,k=>by
  rw [j6];by_cases h:w=x
  . simp [h]
  . rw [ak Q2,mQ];simp [h]
def Y'{α:Type}{p:α->Bool}{x:α}:∀ {l:List α} {k:Nat},j6 p (l++[x]) k=if 0<=j6 p l k then j6 p l k else if p x=true then ((k+l.length:Nat):Int) else -1
 | [],k=>by simp [j6]
 | y::r,k=>by
  rw [ao,j6,j6];by_cases h:p y=true
  . rw [au h,au h,au O]
  . rw [ak h,ak h,Y',aw,show k+1+r.length=k+(r.length+1) by omega]
def Gg{α:Type}{p:α->Bool}:∀ {l:List α} {k:Nat},j6 p l k < ((k+l.length:Nat):Int)
 | [],k=>by simp [j6];omega
 | y::r,k=>by
  rw [j6];split
  . rw [aw];omega
  . have:=Gg (p:=p) (l:=r) (k:=k+1);rw [aw];omega
def qsj{l:List jv}{x:jv}(h:l[k]?=some x):se (l.drop k) seen i=if x.name∈seen then (8,(i:Int)) else se (l.drop (k+1)) (seen++[x.name]) (i+1):=by
 obtain ⟨hk,rfl⟩:=al.1 h;rw [aM hk,se]
def qsg{l:List iM}(h:l[k]?=some x):qF (l.drop k) seen i=if x.name∈seen\/¬ (x.params++x.locals).Nodup then (8,(i:Int)) else qF (l.drop (k+1)) (seen++[x.name]) (i+1):=by
 obtain ⟨hk,rfl⟩:=al.1 h;rw [aM hk,qF]
def qpJ{x:iH}(h:l[k]?=some x)(hn:(l.take k).Nodup)(hx:x ∉ l.take k):(l.take (k+1)).Nodup:=by
 obtain ⟨hk,rfl⟩:=al.1 h;rw [bM hk,bI];refine ⟨hn,Ξ,λa ha b hb=>?_⟩;rw [aU] at hb;subst hb;intro e;subst e;exact hx ha
theorem qja{x:iH}(h:l[k]?=some x)(hx:x∈l.take k):¬ l.Nodup:=by grind [List.take_append_drop,List.nodup_append]
attribute [local irreducible] JC JO JA JB ma mO mX AC fill iy QE Ev my
def BZ{c i:Int}:jT D 52 [iB c,iB i] L s (.agg #[iB c,iB i]):=by
 refine jn (fn:=f52) jb func52 V Z ntmps52 Z (rs:=[.cell 4 30]) Z [(0,_),(1,_)] Z<|Sr<|jh Z [_,_] Y2 ?_;exact ES
def Hj{p:Prop} (h:p:=by
 subst hn;refine ⟨?_,Z⟩;simp only [kU];unfold o6;repeat' split
 all_goals (first|rfl|(exfalso;omega)|(exfalso;simp_all;done))):p:=h
def YD{p:Prop} (h:p:=by
 exact rR [_,_] L (.agg (us:=[_,_,_]) 0 Z Z Z Z Z (.nil)) Z Lc λ_ iD=>Hj):p:=h
def Iu{p:Prop} (h:p:=by
 refine G4 ?_;refine iA (pU Y4) Z<|iA (nK 1 Y3 Pz Z) Z<|iA (jB [(_,_),(_,_),(_,_)] [_,_,_] Y3 Z Z Z) Z<|Wt 0 [_,_,_] Y9<|G6 ?_;exact rR [_,_] L (.agg (us:=[_,_,_]) 0 Z Z Z Z Z (.nil)) Z Lc λ_ iD=>Hj):p:=h
def ZN(x:iP)(A1 A2 A3:iE)(n1 q1 n2 q2 n3 q3:Nat)(hx:iy s b o [iB x.kind,St x.name,.slice A1 n1 q1,.slice A2 n2 q2,.slice A3 n3 q3])(hn:n1=x.exprs.length):jT D 69 [.agg #[.pointer (some ⟨b,o,none⟩),.pointer none,iB lp]] L s (.agg #[St (o6 x).1,iB (o6 x).2.1,iB (o6 x).2.2]):=by
 refine jn (fn:=f69) jb func69 V Z ntmps69 Z (rs:=[.cell 2 168]) Z [(0,_)] Z<|Sr<|kF Y2 λβ1 s1 h1=>jh Z [_,_,_] Y2 λβ2 s2 h2=>G7 ?_;refine iA (kK (v':=.bool true) (O3 underlying143 Z) Z) Z<|Dj ?_;refine iA (jS Y3 Pz Z) Z<|J9 ?_ ?_<;>intro c3;.exact Iu
 refine J6 ?_ ?_<;>intro c4;.exact Iu
 refine J6 ?_ ?_<;>intro c5;.refine Zs<|pM jt 11 Z [0] Q4 λs6 h6=>H3 ?_;refine za 3 Z (nK 1 Y3 Pz Z) Z<|H3 ?_;refine za 7 Z (nK 2 Y3 Pz Z) Z<|H1 ?_;refine za 9 Z (jB [(_,_),(_,_),(_,_)] [_,_,_] Y3 Z Z Z) Z<|iF 10 V<|Wu Z Tt 0 [_,_,_] Y9 (sM (nD (jL)))<|ji V<|G5 ?_;exact YD
 refine G5 ?_;refine iA (jB [] [_,_,_] Y3 Z Z Z) Z<|Wt 0 [_,_,_] Y9<|G4 ?_;exact YD
def Hk{p:Prop} (h:p:=by
 subst hn;refine ⟨?_,Z⟩;simp only [kU];unfold oS;repeat' split
 all_goals (first|rfl|(exfalso;omega)|(exfalso;simp_all;done))):p:=h
def YE{p:Prop} (h:p:=by
 exact rR [_,_] L (.agg (us:=[_,_,_]) 0 Z Z Z Z Z (.nil)) Z Lc λ_ iD=>Hk):p:=h
def Iv{p:Prop} (h:p:=by
 refine G4 ?_;refine iA (pU Y4) Z<|iA (nK 3 Y3 Pz Z) Z<|iA (jB [(_,_),(_,_),(_,_)] [_,_,_] Y3 Z Z Z) Z<|Wt 0 [_,_,_] Y9<|G5 ?_;exact rR [_,_] L (.agg (us:=[_,_,_]) 0 Z Z Z Z Z (.nil)) Z Lc λ_ iD=>Hk):p:=h
def ZM(x:Ex)(A:iE)(n c:Nat)(hx:iy s b o [iB x.kind,iB x.op,iJ x.num,St x.name,.slice A n c])(hn:n=x.args.length):jT D 69 [.agg #[.pointer none,.pointer (some ⟨b,o,none⟩),iB lp]] L s (.agg #[St (oS x).1,iB (oS x).2.1,iB (oS x).2.2]):=by
 refine jn (fn:=f69) jb func69 V Z ntmps69 Z (rs:=[.cell 2 168]) Z [(0,_)] Z<|Sr<|kF Y2 λβ1 s1 h1=>jh Z [_,_,_] Y2 λβ2 s2 h2=>G7 ?_;refine iA (kK (v':=.bool false) (O3 underlying143 Z) Z) Z<|Wa ?_;refine iA (jS Y3 Pz Z) Z<|J9 ?_ ?_<;>intro c3;.exact Iv
 refine J6 ?_ ?_<;>intro c4;.exact Iv
 refine J6 ?_ ?_<;>intro c5;.refine Zs<|pM jt 11 Z [0] Q4 λs6 h6=>H3 ?_;refine za 3 Z (nK 3 Y3 Pz Z) Z<|H3 ?_;refine za 7 Z (nK 4 Y3 Pz Z) Z<|H1 ?_;refine za 9 Z (jB [(_,_),(_,_),(_,_)] [_,_,_] Y3 Z Z Z) Z<|iF 10 V<|Wu Z Tt 0 [_,_,_] Y9 (sM (nD (jL)))<|ji V<|G4 ?_;exact YE
 refine G5 ?_;refine iA (jB [] [_,_,_] Y3 Z Z Z) Z<|Wt 0 [_,_,_] Y9<|G3 ?_;exact YE
def Tw(hA:iO s A n c l):jU D 93 [.slice A n c,St w] L s λv L' _=>v=.bool (decide (w∈l))/\L=L':=by
 have h:=qoJ (D:=D) (L:=L) (s:=s) (A:=A) (n:=n) (c:=c) l hA (w:=w)
 rwa [show decide (0<=j6 (λx=>decide (w=x)) l 0)=decide (w∈l) from bK.2 mQ] at h
def qwr:tM prog 93:=by
 have h:=Tw (D:=0) (L:=[]) (s:=(default:World)) (A:=none) (n:=0) (c:=0) (l:=[]) ⟨rfl,aB _,O,λi x h=>by cases h⟩ (w:=[]);exact AC.ok h
def qmf(X:Hl)(hO:Own 9 1 M (.slice A n c) n (sb l))(hu:∀ x∈l,x.length<=9223372036854775807)(hn:n=l.length):jU D 93 [.slice A n c,St w] (X++(M++L)) s λv L' _=>v=.bool (decide (w∈l))/\L'=X++(M++L):=
 AC.perm (aO ..) (AC.lend M (U8 hO) qwr λho=>Tw (Own.strs hO hu (qsQ ho) hn)) λv L1 s1 ⟨g0,g1⟩=>⟨_,by rw [<- g1];exact aO ..,g0,rfl⟩
def qC0(hA:iO s A n c l):jT D 94 [.slice A n c] L s (.bool (decide (¬ l.Nodup))):=by
 have hn:=hA.1;have hq1:=hA.2.1;have hq2:=hA.2.2.1;refine jn (fn:=f94) jb func94 V Z ntmps94 Z (rs:=[.tmp 2]) Z [(0,_)] Z<|rH ?_;refine lJ (γ:=Nat) (λk=>[(0,_),(2,_),(5,_),(6,_),(7,iB (k:Int))]) (λ_=>_) (λk tw=>Le D s tw/\(k<=n/\(l.take k).Nodup)) (λk=>n - k) (λ_ _ _ h hl=>⟨h.1.trans hl,h.2⟩) 0 (.c5 Z Z Z Z Z (.nil _)) Z ⟨Le.refl _,⟨aB _,Ξ⟩⟩ ?_;intro k s1 I1;have ko:=I1.2.1;have hI:=I1.2.2;refine J6 ?_ ?_<;>intro c2
 .have hk:k < n:=O
  obtain ⟨b,off,x,rfl,hx,hcx,tZ⟩:=iO.at_ Pz hk;refine G7 ?_;refine iA (lK Y6 hk) Z<|iA (jS Y3 Pz Z) Z<|G8 ?_;refine iA (GB (j:=k) Z Z Z Z Z O) Z<|kb Y2<|Je Y3 (Tw (Sl.take Pz hk)) λs3 h3=>J2 ?_ ?_<;>intro c4;.have hz:=c4;refine lw ?_;exact rX [] L Z Lc λ_ iD=>⟨by rw [bL (qja hx hz)];rfl,rfl⟩
  have hz:=c4;refine G4 ?_;refine kq Y3 (jq O O)<|G2 ?_;refine iU ⟨(k+1),[],kp,Z,⟨Lc,⟨O,qpJ hx hI hz⟩⟩,O⟩
 rw [aK O] at hI;refine lw ?_;exact rR [] L (.t1 Z) Z I1.1 λ_ iD=>⟨by rw [bR (λh=>h hI)];rfl,rfl⟩
def qsq:(∀ {l:List jv} {seen:List iH} {i:Nat},(se l seen i).1=0->se l seen i=(0,0))/\∀ {l:List iM} {seen:List iH} {i:Nat},(qF l seen i).1=0->qF l seen i=(0,0):=by
  constructor
  . intro l
    induction l with
    | nil=>intros;rfl
    | cons x r ih=>
      intro seen i h;rw [se] at h ⊢;split at h
      . cases h
      . rename_i h1;rw [ak h1];exact ih h
  . intro l
    induction l with
    | nil=>intros;rfl
    | cons x r ih=>
      intro seen i h;rw [qF] at h ⊢;split at h
      . cases h
      . rename_i h1;rw [ak h1];exact ih h
def Rh(h:(se p.o [] 0).1≠0):pB p=se p.o [] 0:=by rw [pB,au h]
theorem Rf(h0:se p.o [] 0=(0,0))(h:(qF p.funcs (p.o.map jv.name) p.o.length).1≠0):pB p=qF p.funcs (p.o.map jv.name) p.o.length:=by grind [pB]
theorem Ri(h0:se p.o [] 0=(0,0))(h1:qF p.funcs (p.o.map jv.name) p.o.length=(0,0))(h:nM p.funcs < 0):pB p=(12,-1):=by grind [pB]
def Rl(h0:se p.o [] 0=(0,0))(h1:qF p.funcs (p.o.map jv.name) p.o.length=(0,0))(h:nM p.funcs=(j:Int))(hx:p.funcs[j]?=some x):pB p=if x.params=[] then (0,0) else (9,-1):=by
 rw [pB,h0,ak Ξ,h1,ak Ξ,h,ak O,aD,hx]
def qvR(hV:PV p):(∀ w∈p.o.map jv.name,w.length<=9223372036854775807)/\∀ w∈p.funcs.map iM.name,w.length<=9223372036854775807:=by
  obtain ⟨_,_,hg,hf,_⟩:=hV;constructor
  . intro w hw
    obtain ⟨x,hx,rfl⟩:=aW.1 hw;have:=CJ (BB (hg x hx).1).2.2.1;omega
  . intro w hw
    obtain ⟨x,hx,rfl⟩:=aW.1 hw;have:=CJ (hf x hx).1;omega
def qoh{α:Type}{p:α->Bool}:∀ {l:List α} {k:Nat},(0<=j6 p l k->∃ y∈l,p y=true)/\(j6 p l k < 0->j6 p l k=-1)
  | [],k=>⟨λh=>by simp [j6] at h,λ_=>rfl⟩
  | y::r,k=>by
    rw [j6];by_cases h:p y=true
    . rw [au h];exact ⟨λ_=>⟨y,cQ ..,h⟩,λh=>O⟩
    . rw [ak h]
      have ih:=qoh (p:=p) (l:=r) (k:=k+1);exact ⟨λh=>by obtain ⟨z,h1,h2⟩:=ih.1 h;exact ⟨z,an _ h1,h2⟩,ih.2⟩
def qsa{l:List iM}(hx:l[k]?=some x)(hz:x.name ∉ (l.take k).map iM.name):j6 (λx:iM=>decide (x.name=mu)) (l.take (k+1)) 0=if x.name=mu then (k:Int) else j6 (λx:iM=>decide (x.name=mu)) (l.take k) 0:=by
  obtain ⟨hk,rfl⟩:=al.1 hx;rw [bM hk,Y',cY];have he:=qoh (p:=λx:iM=>decide (x.name=mu)) (l:=l.take k) (k:=0);by_cases hm:l[k].name=mu
  . rw [au hm,ak,au (by simpa using hm),show min k l.length=k by omega,aX]
    intro h0;obtain ⟨y,hy,e⟩:=he.1 h0;exact hz (aW.2 ⟨y,hy,by rw [hm];simpa using e⟩)
  . rw [ak hm]
    split
    . rfl
    . rename_i h0
      rw [ak (by simpa using hm)];exact (he.2 O).symm
def XH{p:Prop} (h:p:=by
 refine Wt 0 [_,_] Y9<|G4 ?_;exact rR (_::_::Mo) L (.agg (us:=[_,_]) 0 Z Z Z Z Z (.nil)) Z Lc λ_ iD=>tL):p:=h
def I0{p:Prop} (h:p:=by
 refine Wt 1 [_,_] Y9<|G9 ?_;exact rR (_::_::_::Mo) L (.agg (us:=[_,_]) 1 Z Z Z Z Z (.nil)) Z Lc λ_ iD=>tL):p:=h
def Ic{p:Prop} (h:p:=by
 refine iU ⟨(k+1,.slice Avq (ng+k+1) pg,Mq),[_],(.c3 Z Z Z (.cons (bl (λi=>some (Value.int .i64 i)) (by rw [qsa hx (λh=>hz (.inl (aF _ h)))];first|rw [au Bm]|rw [ak Bm])) kp)),Z,⟨Lc,⟨by simp only;omega,by rw [FV iM.name hx,<- am,DM];exact oq,by simp only;rw [iD,qsg hx,ak hz,FV iM.name hx,am];rfl⟩⟩,Oz⟩):p:=h
def qBJ(d:Nat)(jF:ja s Ag ng cg p.o)(jX:jl d s Af nf cf p.funcs)(hV:PV p):jT D 56 [.agg #[.slice Ag ng cg,.slice Af nf cf]] L s (.agg #[iB (pB p).1,iB (pB p).2]):=by
 have l7:=jF.1;have oW:=jX.1;obtain ⟨hN1,hN2⟩:=qvR hV;have y8:=hV.1;have A0:=hV.2.1;have sn:=hV.2.2.2.1;refine jn (fn:=f56) jb func56 V Z ntmps56 Z (rs:=[.cell 2 30]) Z [(0,_)] Z<|Sr<|kF Y2 λβ1 s1 h1=>jh Z [_,_] Y2 λβ2 s2 h2=>Cw ?_;refine lJ (γ:=Nat×Value×Hl) (λg=>[(1,_),(2,_),(3,g.2.1),(10,_),(11,_),(12,iB (g.1:Int))]) (λg=>_::_::(g.2.2++L)) (λg tw=>Le D s2 tw/\(g.1<=ng/\Own 9 1 g.2.2 g.2.1 g.1 (sb ((p.o.take g.1).map jv.name))/\se p.o [] 0=se (p.o.drop g.1) ((p.o.take g.1).map jv.name) g.1)) (λg=>ng - g.1) (λ_ _ _ h hl=>⟨h.1.trans hl,h.2⟩) (0,.slice none 0 0,[]) (.c6 Z Z Z Z Z Z (.nil _)) Z ⟨Le.refl _,⟨aB _,Own.nil,Z⟩⟩ ?_;intro g s3 I3;obtain ⟨k,vo,Mo⟩:=g;obtain ⟨ko,hO,hS⟩:=I3.2;simp only at ko hO hS;dsimp only;obtain ⟨Av,cv,rfl,xN,vv⟩:=Own.slice hO;refine J6 ?_ ?_<;>intro c4
 .have hk:k < ng:=O
  obtain ⟨b,off,x,Ai,ni,ci,rfl,hx,hcx,hix,oI,kL⟩:=ja.at_ Pz hk;refine G7 ?_;refine iA (jK Y6 hk) Z<|iA (ku Y3 Pz Z) Z<|jh Z [_,_,_,_] Y2 λt5 s5 h5=>mo Y2<|Wt 0 [_,_,_,_] Y9<|G8 ?_;refine Jc Y3 (qmf [_,_,_] hO (λw hw=>hN1 w (by rw [List.map_take] at hw;exact eb hw)) (by rw [bB,cY];omega)) ?_;rintro _ _ s6 h6 ⟨rfl,rfl⟩;simp only [jC,jD];refine J2 ?_ ?_<;>intro c7
  .have hE:pB p=(8,(k:Int)):=by
     have h9:se p.o [] 0=(8,(k:Int)):=by rw [hS,qsj hx,au c7]
     rw [Rh (by rw [h9];simp),h9]
   refine Sr<|kb Y2<|Je Y3 (BZ) λs8 h8=>?_;exact I0
  have hz:=c7;refine G6 ?_;refine lx [(_,_)] [_] Y9 λβn s8 h8 p9=>rQ (sz:=1) [_,_,_] Mo L Y7 hO (Row.of_cells Pz Z Z) ⟨by simp [zM];omega,O⟩ Z ?_;intro vq Mq s9 h9 oq;obtain ⟨Avq,pg,rfl,_,_⟩:=Own.slice oq;simp only [jC,jD];refine G5 ?_;refine kq Y3 (jq O O)<|G2 ?_;refine iU ⟨(k+1,.slice Avq (k+1) pg,Mq),[_],kp,Z,⟨Lc,⟨Oz,by rw [FV jv.name hx,DM];exact oq,by simp only;rw [hS,qsj hx,ak hz,FV jv.name hx]⟩⟩,Oz⟩
 obtain rfl:ng=k:=O
 rw [aL O,se] at hS;rw [aK O] at hO;refine Wc ?_;refine lJ (γ:=Nat×Value×Hl) (λg=>[(1,_),(2,_),(3,g.2.1),(6,iB (j6 (λx=>decide (x.name=mu)) (p.funcs.take g.1) 0)),(30,_),(31,_),(32,iB (g.1:Int))]) (λg=>_::_::(g.2.2++L)) (λg tw=>Le D s3 tw/\(g.1<=nf/\Own 9 1 g.2.2 g.2.1 (ng+g.1) (sb (p.o.map jv.name++(p.funcs.take g.1).map iM.name))/\qF p.funcs (p.o.map jv.name) p.o.length=qF (p.funcs.drop g.1) (p.o.map jv.name++(p.funcs.take g.1).map iM.name) (p.o.length+g.1))) (λg=>nf - g.1) (λ_ _ _ h hl=>⟨h.1.trans hl,h.2⟩) (0,.slice Av ng cv,Mo) (.c6 Z Z Z Z Z Z (.cons Z (.nil _))) Z ⟨Le.refl _,⟨aB _,by simpa using hO,Ξ⟩⟩ ?_;intro g s5 I5;obtain ⟨k,vo,Mo⟩:=g;obtain ⟨ko,hO,iD⟩:=I5.2;simp only at ko hO iD;dsimp only;obtain ⟨Av,cv,rfl,xN,vv⟩:=Own.slice hO;refine J6 ?_ ?_<;>intro c6
 .have hk:k < nf:=O
  obtain ⟨b,off,x,B1,m1,d1,B2,m2,d2,B3,m3,d3,rfl,hx,hcx,oP,oO,so,kL⟩:=jl.at_ Pz hk;obtain ⟨hi1,xH,hi3,hi4,hi5,hi6⟩:=sn x (ax hx);have hp9:=oP.1;have hl9:=oO.1;refine G7 ?_;refine iA (jK Y6 hk) Z<|iA (ku Y3 Pz Z) Z<|jh Z [_,_,_,_] Y2 λd7 s7 h7=>mo Y2<|Wt 0 [_,_,_,_] Y9<|G3 ?_;refine rW 49 (x.name∈(p.o.map jv.name++(p.funcs.take k).map iM.name)\/¬ (x.params++x.locals).Nodup) ?_ ?_
  .refine G4 ?_;refine Jc Y3 (qmf [_,_,_] hO (λw hw=>(aS.1 hw).elim (hN1 w) (λhw=>hN2 w (by rw [List.map_take] at hw;exact eb hw))) (by rw [ac,bB,bB,cY];omega)) ?_;rintro _ _ s9 h9 ⟨rfl,rfl⟩;simp only [jC,jD];refine kb Y2 ?_;refine ld (t:=41) Z ?_ ?_<;>intro mz;.refine G9 ?_;refine iU (kB.mk h9 Sb Z ((bL (.inl As)).symm))
   refine G9 ?_;refine lx [(_,_),(_,_)] [_,_] Y9 λβp kz jM hcp=>Zg Z Z<|Jc Y3 (qll B1 B2 m1 d1 m2 d2 x.params x.locals Pz Pz Pz O O) ?_;rintro _ _ kh jE ⟨rfl,Aq,nq,cq,rfl,hQ⟩;refine Zg Z Z<|Je Y3 (qC0 Pz) λlq kV=>G2 ?_;refine iU (kB.mk Lc Sb Z (bK.2 (⟨λh=>.inr h,λh=>h.resolve_left As⟩)))
  intro s8 h8;refine mG Z ?_ ?_<;>intro rI
  .have hE:pB p=(8,((ng+k:Nat):Int)):=by
     have h9:qF p.funcs (p.o.map jv.name) p.o.length=(8,((ng+k:Nat):Int)):=by rw [iD,qsg hx,au rI,l7]
     rw [Rf hS (by rw [h9];simp),h9]
   refine G6 ?_;refine iA (nV Z Z (show IntKind.i64.wrap ((ng:Int)+(k:Int))=((ng+k:Nat):Int) by rw [jq O O];simp)) Z<|Je Y3 (BZ) λlW lQ=>?_;exact I0
  have hz:=rI;refine G7 ?_;refine lx [(_,_)] [_] Y9 λβn lW lQ p9=>rQ (sz:=1) [_,_,_] Mo L Y7 hO (Row.of_cells Pz Z Z) ⟨by simp [zM];omega,O⟩ Z ?_;intro vq Mq sB tu oq;obtain ⟨Avq,pg,rfl,_,_⟩:=Own.slice oq;simp only [jC,jD];refine G7 ?_;refine uZ Y3<|J2 ?_ ?_<;>intro yY;.have Bm:x.name=mu:=yY;refine G7 ?_;refine kq Y3 (jq O O)<|G2 ?_;exact Ic
  have Bm:¬ x.name=mu:=yY;refine G4 ?_;refine kq Y3 (jq O O)<|G2 ?_;exact Ic
 rw [aL O,qF] at iD;rw [aK (show p.funcs.length<=k by omega)];refine x8 ?_ ?_<;>intro c7;.have hE:=Ri hS iD (show nM p.funcs < 0 from c7);refine Sr<|Je Y3 (BZ) λs8 h8=>?_;exact XH
 obtain ⟨j,hj⟩:=aZ (show 0<=nM p.funcs by unfold nM;omega);have hjl:=Gg (p:=λx:iM=>decide (x.name=mu)) (l:=p.funcs) (k:=0);have hjl2:j < nf:=by unfold nM at hj;omega
 obtain ⟨b,off,x,B1,m1,d1,B2,m2,d2,B3,m3,d3,rfl,hx,hcx,oP,oO,so,kL⟩:=jl.at_ Pz hjl2;have hp9:=oP.1;have hE:=Rl hS iD hj hx;rw [show j6 (λx:iM=>decide (x.name=mu)) p.funcs 0=(j:Int) from hj];refine G8 ?_;refine iA (jK (j:=j) Y6 hjl2) Z<|iA (pU Y4) Z<|iA (nK 1 Y3 Pz Z) Z<|J4 ?_ ?_<;>intro c8;.rw [ak (λh=>by rw [h] at hp9;simp at hp9;omega)] at hE;refine Sr<|Je Y3 (BZ) λs9 h9=>?_;exact XH
 rw [au (aJ O)] at hE;refine Zk<|Zt<|Sr<|iA (jB [] [_,_] Y3 Z Z Z) Z<|Wt 0 [_,_] Y9<|G3 ?_;exact rR (_::_::Mo) L (.agg (us:=[_,_]) 0 Z Z Z Z Z (.nil)) Z Lc λ_ iD=>tL
end
def vH{κ:Type}(s:World)(kf:κ->Value)(b:Nat)(es:List (κ×Value×Nat)):Prop:=∃ ck,s.heap[b]?=some (mp kf es ck)
def vH.le{κ:Type}{kf:κ->Value}{es:List (κ×Value×Nat)}(h:vH s kf b es)(hl:Le D s s'):vH s' kf b es:=by
 obtain ⟨ck,h⟩:=h;refine ⟨ck,?_⟩;have hb:b < s.heap.size:=by
  rcases eM b s.heap.size with h1|h1
  . exact h1
  . rw [bS h1] at h;cases h
 rcases hl.block b hb with h1|h1
 . rw [h] at h1;cases h1
 . rw [h1,h]
def Xy{p:Prop} (h:p:=by
 obtain ⟨ck,hb⟩:=hi.le (hl.trans (BC ho));simp only [execOp,hρ x _ hx,hρ y _ hy,bA,B' KK hm hb,aP,bG];rfl):p:=h
def Kd{TT:kD}{fr:Fr}{κ:Type} [DecidableEq κ]  {kf:κ->Value} (KK:jO κ dk kf) {t:Nat} {x y:Operand}  (hm:yB P t dk z) {es:List (κ×Value×Nat)} {k:κ} (hx:lk fr x=some (.map (some b))) (hy:lk fr y=some (kf k)) (hi:vH s0 kf b es) :
  QE P TT D fr (.lookup t x y true) ty K s0 (.tuple #[(kX es k).getD z,.bool (kX es k).isSome]):=λhT dst iL af g ρ hρ L s ho hl hK=>by
 exact Xy
def AC.pubO{f:FuncId}{args:iz}{R:Value->Hl->World->Prop}(h:AC P D f args L s (λv L' s'=>∃ M',L'=M'++L/\R v M' s')) :
  AC P D f args L s (λv L' s'=>L=L'/\∃ M' s1,R v M' s1/\Le D s1 s'/\∀ b o,(b,o)∈M'->s'.heap[b]?=some o):=by
 refine ⟨h.1,λho=>(h.2 ho).mono ?_⟩;rintro e w' ⟨v,L',s',h1,rfl,h3,h4,M',rfl,h6⟩;obtain ⟨d1,d2,d3⟩:=tI h3;exact ⟨v,L,fill M' s',h1,d1,d2,h4.trans d3,rfl,M',s',h6,d3,λb o hm=>qM h3.left hm⟩
section
attribute [local irreducible] JC JO JA JB ma mO mX AC fill iy QE Ev my
def Pe:yB prog 92 .string (.agg #[iB 0,iB 0]):=⟨_,_,underlying92,underlying9,λw=>by rw [Dt qtx];rfl⟩
def MV(m:Int×Int):Value:=.agg #[iB m.1,iB m.2]
def jY(p:jc):List (iH×(Int×Int)):=(p.o.mapIdx λi g=>(g.name,((3:Int),(i:Int))))++(p.funcs.mapIdx λi x=>(x.name,((4:Int),(i:Int))))
def j7(p:jc)(x:iM)(nm:iH):(Int×Int)×Bool:=if 0<=j6 (λy=>decide (nm=y)) x.params 0 then ((1,j6 (λy=>decide (nm=y)) x.params 0),true) else if 0<=j6 (λy=>decide (nm=y)) x.locals 0 then ((2,j6 (λy=>decide (nm=y)) x.locals 0),true)
 else match (jY p).find? λe=>decide (e.1=nm) with
  | some e=>(e.2,true)
  | none=>((0,0),false)
def oJ(s:World)(b:Nat)(p:jc):Prop:=∃ es:List (iH×Value×Nat),vH s (λl=>St l) b es/\∀ nm,kX es nm=((jY p).find? λe=>decide (e.1=nm)).map λe=>MV e.2
def oJ.le(h:oJ s b p)(hl:Le D s s'):oJ s' b p:=by
 obtain ⟨es,h1,h2⟩:=h;exact ⟨es,h1.le hl,h2⟩
def IG{p:Prop} (h:p:=by
 refine Sr<|kb Y2<|iA (jB [(_,_),(_,_)] [_,_] Y3 Z Z Z) Z<|Wt 0 [_,_] Y9<|G5 ?_;exact rR [_,_,_] L (.agg (us:=[_,_]) 0 Z Z Z Z Z (.t1 Z)) Z Lc λ_ iD=>tL):p:=h
def Gm(p:jc)(hM:oJ s bm p)(qp:iO s A1 n1 q1 x.params)(j5:iO s A2 n2 q2 x.locals):jT D 53 [.agg #[.slice Ag ng cg,.slice Af nf cf,.map (some bm)],.agg #[St x.name,.slice A1 n1 q1,.slice A2 n2 q2,.slice A3 n3 q3],St nm] L s (.tuple #[.agg #[iB (j7 p x nm).1.1,iB (j7 p x nm).1.2],.bool (j7 p x nm).2]):=by
 obtain ⟨es,hMs,hes⟩:=hM;refine jn (fn:=f53) jb func53 V Z ntmps53 Z (rs:=[.cell 6 55,.tmp 7]) Z [(0,_),(1,_),(2,_)] Z<|Sr<|kF Y2 λβ1 s1 h1=>kF Y2 λβ2 s2 h2=>jh Z [_,_] Y2 λβ3 s3 h3=>G9 ?_;refine Je Y3 (KD x.params Pz) λs4 h4=>G6 ?_;refine va Y3<|J2 ?_ ?_<;>intro c5;.have hE:j7 p x nm=_:=au c5;exact IG
 have g17:=c5;refine G8 ?_;refine Je Y3 (KD x.locals Pz) λs6 h6=>G6 ?_;refine va Y3<|J2 ?_ ?_<;>intro c7;.have hE:j7 p x nm=_:=(ak g17).trans (au c7);exact IG
 have g25:=c7;obtain ⟨mm,bb,hmm,hE⟩:∃ (mm:Int×Int) (bb:Bool),(kX es nm).getD (.agg #[iB 0,iB 0])=MV mm/\(kX es nm).isSome=bb/\j7 p x nm=(mm,bb):=by
   rw [hes nm,j7,ak g17,ak g25];cases (jY p).find? λe=>decide (e.1=nm) with
   | none=>exact ⟨(0,0),false,rfl,rfl,rfl⟩
   | some e=>exact ⟨e.2,true,rfl,rfl,rfl⟩
 obtain ⟨hbb,hE⟩:=hE;refine G7 ?_;refine iA (kK (Kd jO.str Pe Z Z Pz) (show Value.tuple #[(kX es nm).getD (.agg #[iB 0,iB 0]),.bool (kX es nm).isSome]=.tuple #[.agg #[iB mm.1,iB mm.2],.bool bb] by rw [hmm,hbb];rfl)) Z<|G3 ?_;refine jh Z [_,_] Y2 λt8 s8 h8=>Wt 0 [_,_] Y9<|At Z Z<|Sr<|iA (iZ 0 [_,_] Y5) Z<|kb Y2<|Wt 1 [_,_] Y9<|G4 ?_;exact rR [_,_,_,_] L (.agg (us:=[_,_]) 1 Z Z Z Z Z (.t1 Z)) Z Lc λ_ iD=>tL
def F6{f:Int×Int->Value}{l:List (iH×(Int×Int))}{e:iH×(Int×Int)}(hk:l[k]?=some e)(kO:(l.map (·.1)).Nodup)(h:∀ nm,kX es nm=((l.take k).find? λe=>decide (e.1=nm)).map λe=>f e.2)(nm:iH):kX (vB es e.1 (f e.2) ck) nm=((l.take (k+1)).find? λe=>decide (e.1=nm)).map λe=>f e.2:=by
  obtain ⟨hl,rfl⟩:=al.1 hk;rw [NH,bM hl,ff,h nm];by_cases hn:nm=l[k].1
  . subst hn
    rw [au rfl];have h0:(l.take k).find? (λe=>decide (e.1=l[k].1))=none:=by
      rw [fZ];intro y hy hd;have h2:((l.take k++l.drop k).map (·.1)).Nodup:=by rw [eB];exact kO
      rw [bO,bI] at h2;exact h2.2.2 _ (aW.2 ⟨y,hy,rfl⟩) _ (aW.2 ⟨l[k],by rw [aM hl];exact cQ ..,rfl⟩) (by simpa using hd)
    rw [h0];simp
  . rw [ak hn]
    have h1:[l[k]].find? (λe=>decide (e.1=nm))=none:=by simp [List.find?,Ne.symm hn,show ¬ l[k].1=nm from λh=>hn h.symm]
    rw [h1,Option.or_none]
def OV{x:jv}(h:p.o[k]?=some x):(jY p)[k]?=some (x.name,((3:Int),(k:Int))):=by
 obtain ⟨hl,rfl⟩:=al.1 h;rw [jY,aV (by simpa using hl)];simp [hl]
def CU(h:p.funcs[k]?=some x):(jY p)[p.o.length+k]?=some (x.name,((4:Int),(k:Int))):=by
 obtain ⟨hl,rfl⟩:=al.1 h;rw [jY,aY Ξ];simp [hl]
def qvW(jF:ja s Ag ng cg p.o)(jX:jl d s Af nf cf p.funcs)(hD:((jY p).map (·.1)).Nodup):pQ D 29 [.agg #[.slice Ag ng cg,.slice Af nf cf]] L s λv M' _=>∃ bm es ck,M'=[(bm,mp (λl=>St l) es ck)]/\v=.agg #[.slice Ag ng cg,.slice Af nf cf,.map (some bm)]/\∀ nm,kX es nm=((jY p).find? λe=>decide (e.1=nm)).map λe=>MV e.2:=by
 have l7:=jF.1;have oW:=jX.1;have hq1:=jF.2.1;have hq2:=jF.2.2.1;have hq3:=jX.2.1;have hq4:=jX.2.2.1;refine jn (fn:=f29) jb func29 V Z ntmps29 Z (rs:=[.cell 2 94]) Z [(0,_)] Z<|Sr<|kF Y2 λβ1 s1 h1=>jh Z [_,_,_] Y2 λβ2 s2 h2=>Nt<|Sr<|iA (iZ 1 [_,_] Y5) Z<|Gb (λl=>St l) Z λβm s3 h3=>iA (jB [(_,_),(_,_)] [_,_,_] Y3 Z Z Z) Z<|jh Z [_,_,_] Y2 λt4 s4 h4=>Wt 0 [_,_,_] Y9<|G6 ?_;refine Wl 3 Y6<|G5 ?_;refine lJ (γ:=Nat×List (iH×Value×Nat)×Nat) (λg=>[(1,_),(2,_),(3,_),(12,_),(13,_),(14,iB (g.1:Int))]) (λg=>_::(βm,mp (λl=>St l) g.2.1 g.2.2)::_::_::L) (λg tw=>Le D s4 tw/\(g.1<=ng/\∀ nm,kX g.2.1 nm=(((jY p).take g.1).find? λe=>decide (e.1=nm)).map λe=>MV e.2)) (λg=>ng - g.1) (λ_ _ _ h hl=>⟨h.1.trans hl,h.2⟩) (0,[],0) (.c6 Z Z Z Z Z Z (.nil _)) Z ⟨Le.refl _,⟨aB _,λnm=>rfl⟩⟩ ?_;intro g s5 I5;obtain ⟨k,es,ck⟩:=g;obtain ⟨ko,hS⟩:=I5.2;simp only at ko hS;dsimp only;refine J6 ?_ ?_<;>intro c6
 .have hk:k < ng:=O
  obtain ⟨b,off,x,Ai,ni,ci,rfl,hx,hcx,hix,oI,kL⟩:=ja.at_ Pz hk;refine G7 ?_;refine iA (jK Y6 hk) Z<|iA (ku Y3 Pz Z) Z<|jh Z [_,_,_,_] Y2 λd7 s7 h7=>mo Y2<|Wt 0 [_,_,_,_] Y9<|G8 ?_;refine iA (jB [(_,_),(_,_)] [_,_] Y3 Z Z Z) Z<|Ui jO.str 2 Pe Z Z Z Z ?_;intro sI;simp only [lV];refine G4 ?_;refine kq Y3 (jq O O)<|G2 ?_;refine iU ⟨(k+1,_,sI),[_],kp,Z,⟨Lc,⟨Oz,F6 (f:=MV) (OV hx) hD hS⟩⟩,Oz⟩
 obtain rfl:p.o.length=k:=O
 refine G9 ?_;refine Wl 3 Y6<|G5 ?_;refine lJ (γ:=Nat×List (iH×Value×Nat)×Nat) (λg=>[(2,_),(3,_),(27,_),(28,_),(29,iB (g.1:Int))]) (λg=>_::(βm,mp (λl=>St l) g.2.1 g.2.2)::_::_::L) (λg tw=>Le D s5 tw/\(g.1<=nf/\∀ nm,kX g.2.1 nm=(((jY p).take (p.o.length+g.1)).find? λe=>decide (e.1=nm)).map λe=>MV e.2)) (λg=>nf - g.1) (λ_ _ _ h hl=>⟨h.1.trans hl,h.2⟩) (0,es,ck) (.c5 Z Z Z Z Z (.nil _)) Z ⟨Le.refl _,⟨aB _,hS⟩⟩ ?_;intro g s7 I7;obtain ⟨k,es,ck⟩:=g;obtain ⟨ko,hSq⟩:=I7.2;simp only at ko hSq;dsimp only;refine J6 ?_ ?_<;>intro c8
 .have hk:k < nf:=O
  obtain ⟨b,off,x,B1,m1,d1,B2,m2,d2,B3,m3,d3,rfl,hx,hcx,oP,oO,so,kL⟩:=jl.at_ Pz hk;refine G7 ?_;refine iA (jK Y6 hk) Z<|iA (ku Y3 Pz Z) Z<|jh Z [_,_,_,_] Y2 λd9 s9 h9=>mo Y2<|Wt 0 [_,_,_,_] Y9<|G8 ?_;refine iA (jB [(_,_),(_,_)] [_,_] Y3 Z Z Z) Z<|Ui jO.str 2 Pe Z Z Z Z ?_;intro sI;simp only [lV];refine G4 ?_;refine kq Y3 (jq O O)<|G2 ?_;refine iU ⟨(k+1,_,sI),[_],kp,Z,⟨Lc,⟨Oz,F6 (f:=MV) (CU hx) hD hSq⟩⟩,Oz⟩
 rw [aK (show (jY p).length<=p.o.length+k by rw [jY,ac,eX,eX];omega)] at hSq;refine G6 ?_;refine sq 2<|sq 3<|Zr<|iA (iZ 2 [_,_,_] Y5) Z<|Wt 1 [_,_,_] Y9<|G3 ?_;exact rR [_,_,_] _ (.agg (us:=[_,_,_]) 1 Z Z Z Z Z (.nil)) Z Lc λ_ iD=>⟨[_],rfl,_,es,ck,rfl,rfl,hSq⟩
def wP(d:Nat)(p:jc)(jF:ja s Ag ng cg p.o)(jX:jl d s Af nf cf p.funcs)(hD:((jY p).map (·.1)).Nodup):jU D 29 [.agg #[.slice Ag ng cg,.slice Af nf cf]] L s λv L' s'=>L=L'/\∃ bm,v=.agg #[.slice Ag ng cg,.slice Af nf cf,.map (some bm)]/\oJ s' bm p:=by
 refine (AC.pubO (qvW jF jX hD)).mono ?_;rintro v L1 s1 _ ⟨h1,M1,s2,⟨bm,es,ck,rfl,h3,h4⟩,_,h5⟩;exact ⟨h1,bm,h3,es,⟨ck,h5 _ _ Mc⟩,h4⟩
def zK(p:jc)(i:Int):Int:=match p.o[i.toNat]? with
 | some g=>g.kind
 | none=>0
def BE{x:jv}(h:p.o[k]?=some x):zK p (k:Int)=x.kind:=by rw [zK,aD,h]
abbrev uX(gk uk mk:Int):Prop:=((mk=1\/mk=2)/\(uk=1\/uk=2))\/(mk=4/\uk=4)\/((¬ (mk=1\/mk=2)/\mk≠4)/\((gk=1/\uk=2)\/(gk=2/\(uk=1\/uk=2))\/(gk≠1/\gk≠2/\uk=3)))
def Hm{p:Prop} (h:p:=by
 refine ⟨?_,Z⟩;simp only [kU,uX];clear hm;try rw [ri]
 exact bl Value.bool (bL O).symm):p:=h
def Nv{p:Prop} (h:p:=by
 refine ⟨?_,Z⟩;simp only [kU,uX];clear hm;try rw [ri]
 exact bl Value.bool (bK.2 O)):p:=h
def XO{p:Prop} (h:p:=by
 refine lw ?_;exact rX [_,_,_] L Z Lc λ_ iD=>Nv):p:=h
def Ie{p:Prop} (h:p:=by
  refine G6 ?_;refine ld (t:=15) Z ?_ ?_<;>intro c6;.refine lM ?_;exact rX [_,_,_] L Z Lc λ_ iD=>Hm
  refine mY ?_;refine Zu ?_;exact rX [_,_,_] L Z Lc λ_ iD=>Nv):p:=h
def qsM(p:jc)(jF:ja s Ag ng cg p.o){u:Dm}{mk mi:Int}(hm:¬ (mk=1\/mk=2)->mk≠4->∃ k:Nat,mi=(k:Int)/\k < ng):jT D 98 [.agg #[.slice Ag ng cg,.slice Af nf cf,.map (some bm)],.agg #[St (u).1,iB (u).2.1,iB (u).2.2],.agg #[iB mk,iB mi]] L s (.bool (decide (uX (zK p mi) u.2.1 mk))):=by
 refine jn (fn:=Tryz.f98) jb Tryz.func98 V Z Tryz.ntmps98 Z (rs:=[.tmp 6]) Z [(0,_),(1,_),(2,_)] Z<|Sr<|kF Y2 λβ1 s1 h1=>kF Y2 λβ2 s2 h2=>kF Y2 λβ3 s3 h3=>Cx ?_ ?_<;>intro c4
 .refine J2 ?_ ?_<;>intro c5;.exact Ie
  exfalso;omega
 refine J5 ?_ ?_<;>intro c5;.exact Ie
 refine J6 ?_ ?_<;>intro c6;.exact XO
 obtain ⟨k,rfl,hk⟩:=hm O O;obtain ⟨b,off,x,Ai,ni,ci,rfl,hx,hcx,hix,oI,kL⟩:=ja.at_ Pz hk;have ri:=BE hx;refine lw ?_;refine iA (jK Y6 hk) Z<|W0 Y5<|iA (jS Y3 Pz Z) Z<|J9 ?_ ?_<;>intro c7;.exact XO
 refine J6 ?_ ?_<;>intro c8
 .refine G6 ?_;refine ld (t:=43) Z ?_ ?_<;>intro c9;.refine lM ?_;exact rX [_,_,_] L Z Lc λ_ iD=>Hm
  refine mY ?_;refine Zu ?_;exact rX [_,_,_] L Z Lc λ_ iD=>Nv
 refine mY ?_;exact rX [_,_,_] L Z Lc λ_ iD=>Nv
end
end Go.Proofs.YtemgonlhniicbaaGreatDoor
