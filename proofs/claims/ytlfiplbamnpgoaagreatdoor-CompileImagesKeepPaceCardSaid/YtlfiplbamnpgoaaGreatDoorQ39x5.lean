/- Part 5. -/
import Derived.Test.YtlfiplbamnpgoaaGreatDoorQ39x4
import Derived.Lib.SmallJoins
import Derived.Lib.Repeat
set_option linter.unusedSectionVars false
set_option linter.unusedVariables false
set_option linter.defProp false
set_option linter.unusedSimpArgs false
set_option linter.unnecessarySimpa false
set_option maxRecDepth 100000
set_option maxHeartbeats 8000000
namespace Go.Proofs.YtlfiplbamnpgoaaGreatDoor
open Go.Proofs.Tryz
open Go.FL
attribute [local irreducible] JC JO JA JB qaJ qax qbN AC fill CellsAt QE Ev Mid
variable(D:Nat)(L:Hl)(s:World)
def Cz33{p:Prop} (h:p:=by
 refine ⟨?_,Z⟩;simp only [qbP];exact congrArg Value.bool (decide_eq_decide.2 O)):p:=h
def Cz34{p:Prop} (h:p:=by
 refine ⟨?_,Z⟩;simp only [qbP];exact congrArg Value.bool (decide_eq_false O).symm):p:=h
def qrK(bc c lv:Nat)(hc:c≤2000):AC prog D 153 [.pointer (some ⟨bc,0,none⟩),.int .i64 (lv:Int)] ((bc,cb [.int .i64 (c:Int)] 169)::L) s fun v L' _=>v=.bool (decide (¬ (16 < lv∨2000 < c+1)))∧L'=(bc,cb [.int .i64 ((c+1:Nat):Int)] 169)::L:=by
 refine qad (fn:=f153) qao func153 V Z ntmps153 Z (rs:=[.tmp 4]) Z [(0,_),(1,_)] Z<|G11 ?_;refine qae (qaI (c:=((c+1:Nat):Int)) Z Z Q8) Z<|G2 ?_;refine Wt 0 [_] Y9<|G5 ?_;refine qwQ Z Z Z<|Zqm Z Z<|?_;refine qap (t:=14) Z ?_ ?_<;>intro c1;·refine G9 ?_;refine qwQ Z Z Z<|G5 ?_;exact rX [] _ Z (Lr D) fun _ hS2=>Cz33
 refine G10 ?_;exact rX [] _ Z (Lr D) fun _ hS2=>Cz34
def Cz35{p:Prop} (h:p:=by
 refine ⟨?_,Z⟩;have h9:k=1∨k=2∨k=3∨k=4∨k=5∨k=6∨k=7∨k=8∨k=9∨k=10:=by omega
 rcases h9 with rfl|rfl|rfl|rfl|rfl|rfl|rfl|rfl|rfl|rfl<;>first|rfl|(exfalso;omega)):p:=h
def qwm{p:Prop} (h:p:=by
 refine G12 ?_;exact rR [] L (.tmp Z (.tmp Z (.tmp Z (.tmp Z (.t1 Z))))) Z (Lr D) fun _ hS2=>Cz35):p:=h
def qqh(k:Int)(h1:1≤k)(h2:k≤10):AC prog D 154 [.int .i64 k] L s fun v L' _=>v=.tuple #[.int .i64 (qcY k:Int),.int .i64 (qfV k:Int),.bool (qeR k),.bool (decide (k=3∨k=4)),.bool (decide (k=3))]∧L=L':=by
 refine qad (fn:=f154) qao func154 V Z ntmps154 Z (rs:=[.tmp 2,.tmp 3,.tmp 4,.tmp 5,.tmp 6]) Z [(0,_)] Z<|J22 ?_ ?_<;>intro c1;·exact qwm
 refine J6 ?_ ?_<;>intro c2;·exact qwm
 refine J6 ?_ ?_<;>intro c3;·exact qwm
 refine J6 ?_ ?_<;>intro c4;·exact qwm
 refine J6 ?_ ?_<;>intro c5;·exact qwm
 refine J7 ?_ ?_<;>intro c6
 ·refine J2 ?_ ?_<;>intro c7;·exact qwm
  exfalso;omega
 refine J5 ?_ ?_<;>intro c7;·exact qwm
 refine G12 ?_;refine Zo ?_;exact rR [] L (.tmp Z (.tmp Z (.tmp Z (.tmp Z (.t1 Z))))) Z (Lr D) fun _ hS2=>Cz35
def Cz36{p:Prop} (h:p:=by
 refine ⟨?_,Z⟩;simp only [qbP];unfold qdx qfU;repeat' split
 all_goals (first|rfl|(exfalso;omega))):p:=h
def qqS{p:Prop} (h:p:=by
 refine G9 ?_;exact rR [] L (.tmp Z (.t1 Z)) Z (Lr D) fun _ hS2=>Cz36):p:=h
def qoQ(k:Int):AC prog D 192 [.int .i64 k] L s fun v L' _=>v=.tuple #[.int .i64 (qdx k:Int),.int .i64 (qfU k:Int)]∧L=L':=by
 refine qad (fn:=f192) qao func192 V Z ntmps192 Z (rs:=[.tmp 2,.tmp 3]) Z [(0,_)] Z<|J20 ?_ ?_<;>intro c1
 ·refine J2 ?_ ?_<;>intro c2;·exact qqS
  exfalso;omega
 refine J5 ?_ ?_<;>intro c2;·exact qqS
 refine J6 ?_ ?_<;>intro c3;·exact qqS
 refine J6 ?_ ?_<;>intro c4;·exact qqS
 refine G10 ?_;exact rR [] L (.tmp Z (.t1 Z)) Z (Lr D) fun _ hS2=>Cz36
def qAI{p:Prop} (h:p:=by
 refine G10 ?_;exact rX [_] L Z h1 fun _ hS2=>Cz34):p:=h
def Ez78{p:Prop} (h:p:=by
 refine G5 ?_;refine qwQ Z Z Z<|G6 ?_;refine Zu ?_;exact rX [_] L Z h1 fun _ hS2=>Cz33):p:=h
def qyd(x:Ex)(A:Option Addr)(n c:Nat):AC prog D 191 [.agg #[.int .i64 x.kind,.int .i64 x.op,.int .u32 x.num,St x.name,.slice A n c]] L s fun v L' _=>v=.bool (decide (¬ ((x.kind=6∧(x.op < 1∨3 < x.op))∨(x.kind=7∧(x.op < 4∨21 < x.op)))))∧L=L':=by
 refine qad (fn:=f191) qao func191 V Z ntmps191 Z (rs:=[.tmp 2]) Z [(0,_)] Z<|Sr<|qar Z Z fun β1 s1 h1=>J17 ?_ ?_<;>intro c2
 ·refine G4 ?_;refine qi6 Z Z Z<|Zqm Z Z<|?_;refine qap (t:=10) Z ?_ ?_<;>intro c3;·exact Ez78
  exact qAI
 refine J6 ?_ ?_<;>intro c3
 ·refine G4 ?_;refine qi6 Z Z Z<|Zqm Z Z<|?_;refine qap (t:=20) Z ?_ ?_<;>intro c4;·exact Ez78
  exact qAI
 refine G9 ?_;refine rR [_] L (.t1 Z) Z h1 fun _ hS2=>?_;refine ⟨?_,Z⟩;simp only [qbP];exact congrArg Value.bool (decide_eq_true O).symm
def qCE{g:Glo}{n:Nat}(h:n=g.init.length):qe4 g=if g.kind < 1∨3 < g.kind then 5 else if qbr g.name=false then 7 else if (g.kind≠3∧0 < n)∨(g.kind=2∧g.num≠0) then 6 else if g.kind=3∧(g.num < 1∨40000 < g.num) then 4 else if g.kind=3∧g.num < (n:Int) then 2 else 0:=by
 have hi:g.init≠[]↔0 < n:=by rw [h];exact List.length_pos_iff.symm
 simp only [qe4,hi,h]
def qAr{p:Prop} (h:p:=by
 refine ⟨?_,Z⟩;simp only [qbP];rw [qCE hn];repeat' split
 all_goals (first|rfl|(exfalso;omega)|(exfalso;simp_all;done)|(exfalso;simp_all;omega))):p:=h
def qnD{p:Prop} (h:p:=by
 refine G8 ?_;exact rX [_] L Z (h1.t h4) fun _ hS2=>qAr):p:=h
def qEs{p:Prop} (h:p:=by
 refine G18 ?_;exact rX [_] L Z (h1.t h4) fun _ hS2=>qAr):p:=h
def qD2{p:Prop} (h:p:=by
 refine G21 ?_;exact rX [_] L Z (h1.t h4) fun _ hS2=>qAr):p:=h
def qoD(hG:GP s)(g:Glo)(A:Option Addr)(n c:Nat)(hA:Wds s A n c g.init)(hu:U32 g.num):AC prog D 68 [.agg #[.int .i64 g.kind,St g.name,.int .u32 g.num,.slice A n c]] L s fun v L' _=>v=.int .i64 (qe4 g)∧L=L':=by
 have hn:=hA.1;have hu1:=hu.1;have hu2:=hu.2;refine qad (fn:=f68) qao func68 V Z ntmps68 Z (rs:=[.tmp 2]) Z [(0,_)] Z<|Sr<|qar Z Z fun β1 s1 h1=>G11 ?_;refine qap (t:=7) Z ?_ ?_<;>intro c2;·refine G16 ?_;exact rX [_] L Z h1 fun _ hS2=>qAr
 refine J10 ?_ ?_<;>intro c3;·refine G8 ?_;exact rX [_] L Z h1 fun _ hS2=>qAr
 refine G4 ?_;refine Je Z Z Z (qfp D _ _ (hG.le h1) g.name) fun s4 h4=>G4 ?_;refine qc8 Z ?_ ?_<;>intro c5;·exact qnD
 refine G7 ?_;refine qbg (t:=21) Z ?_ ?_<;>intro c6
 ·refine J12 ?_ ?_<;>intro c7
  ·refine J2 ?_ ?_<;>intro c8;·exact qnD
   exfalso;omega
  refine G5 ?_;refine qap (t:=30) Z ?_ ?_<;>intro c8
  ·refine G10 ?_;refine qaR Z ?_ ?_<;>intro c9;·exact qnD
   refine G6 ?_;refine qap (t:=39) Z ?_ ?_<;>intro c10
   ·refine G8 ?_;refine qap (t:=43) Z ?_ ?_<;>intro c11;·exact qEs
    refine G12 ?_;exact qwh
   refine G19 ?_;refine qap (t:=53) Z ?_ ?_<;>intro c11;·refine G11 ?_;refine qae (qbe Z Z Z Z Z (w64 O O)) Z<|G6 ?_;exact qwh
   exact qD2
  refine G14 ?_;refine qap (t:=39) Z ?_ ?_<;>intro c9
  ·refine G8 ?_;refine qap (t:=43) Z ?_ ?_<;>intro c10;·exact qEs
   refine J12 ?_ ?_<;>intro c11;·exfalso;omega
   exfalso;omega
  refine G19 ?_;refine qap (t:=53) Z ?_ ?_<;>intro c10
  ·refine G11 ?_;refine qae (qbe Z Z Z Z Z (w64 O O)) Z<|J6 ?_ ?_<;>intro c11;·exfalso;omega
   exfalso;omega
  exact qD2
 refine G14 ?_;refine qap (t:=30) Z ?_ ?_<;>intro c7
 ·refine G10 ?_;refine qaR Z ?_ ?_<;>intro c8;·exfalso;omega
  exfalso;omega
 refine G14 ?_;refine qap (t:=39) Z ?_ ?_<;>intro c8
 ·refine G8 ?_;refine qap (t:=43) Z ?_ ?_<;>intro c9;·exact qEs
  refine J12 ?_ ?_<;>intro c10;·exact qnD
  refine G6 ?_;refine qap (t:=53) Z ?_ ?_<;>intro c11
  ·refine G11 ?_;refine qae (qbe Z Z Z Z Z (w64 O O)) Z<|J6 ?_ ?_<;>intro c12;·exact qnD
   refine G9 ?_;exact rX [_] L Z (h1.t h4) fun _ hS2=>qAr
  exact qD2
 refine G19 ?_;refine qap (t:=53) Z ?_ ?_<;>intro c9
 ·refine G11 ?_;refine qae (qbe Z Z Z Z Z (w64 O O)) Z<|J6 ?_ ?_<;>intro c10;·exfalso;omega
  exfalso;omega
 exact qD2
def qkF(x:Ex)(lv c:Nat):wkX x lv c=if 16 < lv∨2000 < c+1 then (c+1,2) else if exC x.kind x.op x.num x.name x.args.length≠0 then (c+1,exC x.kind x.op x.num x.name x.args.length) else qd5 x.args (lv+1) (c+1):=by
 cases x;rfl
def qlq{l:List Ex}{k:Nat}{x:Ex}(h:l[k]?=some x)(lv c:Nat):qd5 (l.drop k) lv c=if (wkX x lv c).2≠0 then wkX x lv c else qd5 (l.drop (k+1)) lv (wkX x lv c).1:=by
 obtain ⟨hk,rfl⟩:=List.getElem?_eq_some_iff.1 h;rw [List.drop_eq_getElem_cons hk,qd5]
def qvJ{p:Prop}[Decidable p]{b:Bool}(h:p):(!b)=decide (p∧b=false):=by cases b<;>simp [h]
section
variable{x:Ex}{n:Nat}(hn:n=x.args.length)
include hn
theorem qE4(h:x.kind < 1∨7 < x.kind∨¬ ¬ ((x.kind=6∧(x.op < 1∨3 < x.op))∨(x.kind=7∧(x.op < 4∨21 < x.op)))):exC x.kind x.op x.num x.name x.args.length=5:=by
 rw [exC,if_pos];omega
variable(h5:¬ (x.kind < 1∨7 < x.kind∨¬ ¬ ((x.kind=6∧(x.op < 1∨3 < x.op))∨(x.kind=7∧(x.op < 4∨21 < x.op)))))
include h5
theorem qE6(h:(2≤x.kind∧x.kind≤4)∧qbr x.name=false):exC x.kind x.op x.num x.name x.args.length=7:=by
 rw [exC,if_neg O,if_pos ⟨decide_eq_true h.1,h.2⟩]
variable(h7:¬ ((2≤x.kind∧x.kind≤4)∧qbr x.name=false))
include h7
theorem qE5(h:(¬ (2≤x.kind∧x.kind≤4)∧x.name≠[])∨(x.kind≠1∧x.num≠0)∨(¬ (x.kind=6∨x.kind=7)∧x.op≠0)∨n < qdx x.kind∨qfU x.kind < n):exC x.kind x.op x.num x.name x.args.length=6:=by
 rw [exC,if_neg O,if_neg (fun k=>h7 ⟨of_decide_eq_true k.1,k.2⟩),if_pos];rcases h with h|h|h|h|h
 · exact .inl ⟨decide_eq_false h.1,h.2⟩
 · exact .inr (.inl h)
 · exact .inr (.inr (.inl ⟨by omega,h.2⟩))
 · exact .inr (.inr (.inr (.inl O)))
 · exact .inr (.inr (.inr (.inr O)))
theorem qE3(h:¬ ((¬ (2≤x.kind∧x.kind≤4)∧x.name≠[])∨(x.kind≠1∧x.num≠0)∨(¬ (x.kind=6∨x.kind=7)∧x.op≠0)∨n < qdx x.kind∨qfU x.kind < n)):exC x.kind x.op x.num x.name x.args.length=0:=by
 rw [exC,if_neg O,if_neg (fun k=>h7 ⟨of_decide_eq_true k.1,k.2⟩),if_neg];intro k;refine h ?_;rcases k with k|k|k|k|k
 · exact .inl ⟨of_decide_eq_false k.1,k.2⟩
 · exact .inr (.inl k)
 · exact .inr (.inr (.inl ⟨by omega,k.2⟩))
 · exact .inr (.inr (.inr (.inl O)))
 · exact .inr (.inr (.inr (.inr O)))
end
def qjK(y:Nat×Obj)(bc c lv:Nat)(hc:c≤2000):AC prog D 153 [.pointer (some ⟨bc,0,none⟩),.int .i64 (lv:Int)] (y::(bc,cb [.int .i64 (c:Int)] 169)::L) s fun v L' _=>v=.bool (decide (¬ (16 < lv∨2000 < c+1)))∧L'=y::(bc,cb [.int .i64 ((c+1:Nat):Int)] 169)::L:=
 AC.perm (List.Perm.swap ..) (qrK D (y::L) s bc c lv hc) fun v L1 s1 ⟨h0,h1⟩=>⟨_,by rw [h1];exact List.Perm.swap ..,h0,rfl⟩
def CXC(D d:Nat):Prop:=∀ (L:Hl) (s:World),GP s→∀ (bc c lv:Nat) (A:Option Addr) (n cc:Nat) (l:List Ex),Exs d s A n cc l→c≤2000→lv≤17→AC prog D 155 [.pointer (some ⟨bc,0,none⟩),.slice A n cc,.int .i64 (lv:Int)] ((bc,cb [.int .i64 (c:Int)] 169)::L) s fun v L' _=>v=.int .i64 (qd5 l lv c).2∧L'=(bc,cb [.int .i64 ((qd5 l lv c).1:Int)] 169)::L
def CXC.swap{D d:Nat}(h:CXC D d)(L:Hl)(s:World)(hG:GP s)(y:Nat×Obj)(bc c lv:Nat)(A:Option Addr)(n cc:Nat)(l:List Ex)(hA:Exs d s A n cc l)(hc:c≤2000)(hlv:lv≤17):AC prog D 155 [.pointer (some ⟨bc,0,none⟩),.slice A n cc,.int .i64 (lv:Int)] (y::(bc,cb [.int .i64 (c:Int)] 169)::L) s fun v L' _=>v=.int .i64 (qd5 l lv c).2∧L'=y::(bc,cb [.int .i64 ((qd5 l lv c).1:Int)] 169)::L:=
 AC.perm (List.Perm.swap ..) (h (y::L) s hG bc c lv A n cc l hA hc hlv) fun v L1 s1 ⟨h0,h1⟩=>⟨_,by rw [h1];exact List.Perm.swap ..,h0,rfl⟩
def qDX{p:Prop} (h:p:=by
 rw [hS,qlq hx,hE,if_pos (by simp;done)];exact ⟨rfl,rfl⟩):p:=h
def qqV{p:Prop} (h:p:=by
 refine qaf (MidB.mk (Lr D) Sb Z ((decide_eq_true O).symm))):p:=h
def qfJ{p:Prop} (h:p:=by
 refine Zk ?_;refine qaf (MidG.mk () [] (Lr D) (.cons Kb (.nil _)) So Pr Tt)):p:=h
def qwc{p:Prop} (h:p:=by
 refine G5 ?_;refine qaf (MidB.mk (Lr D) Sb Z ((decide_eq_true O).symm))):p:=h
def qAL{p:Prop} (h:p:=by
 refine G6 ?_;refine qaf (MidB.mk (Lr D) Sb Z ((decide_eq_true O).symm))):p:=h
def qAJ{p:Prop} (h:p:=by
 refine G11 ?_;refine rR [] _ (.t1 Z) Z I1.1 fun _ hS2=>?_;rw [hS];exact ⟨rfl,rfl⟩):p:=h
def qD4{p:Prop} (h:p:=by
 refine G8 ?_;refine qaf (MidG.mk () [] (Lr D) (.cons Kb (.nil _)) So Pr Tt)):p:=h
def Ez81{p:Prop} (h:p:=by
 refine G9 ?_;refine qaf (MidB.mk (Lr D) Sb Z (decide_eq_decide.2 O))):p:=h
def Ez77{p:Prop} (h:p:=by
 refine G10 ?_;refine qaf (MidB.mk (Lr D) Sb Z ((decide_eq_true O).symm))):p:=h
def Ez10{p:Prop} (h:p:=by
  refine qbg (t:=90) Z ?_ ?_<;>intro c24
  ·refine G10 ?_;refine qaR Z ?_ ?_<;>intro c25;·refine Zk ?_;refine qaf (MidG.mk () [] (Lr D) (.cons Kb (.nil _)) So Pr Tt)
   refine J10 ?_ ?_<;>intro c26;·refine Zk ?_;refine qaf (MidG.mk () [] (Lr D) (.cons Kb (.nil _)) So Pr Tt)
   refine G8 ?_;refine qaf (MidG.mk () [] (Lr D) (.cons Kb (.nil _)) So Pr Tt)
  refine J18 ?_ ?_<;>intro c25;·exfalso;omega
  exfalso;omega):p:=h
theorem qgT(D d:Nat)(ih:∀ e,d=e+1→CXC D e)(L:Hl)(s:World)(hG:GP s)(bc c lv:Nat)(A:Option Addr)(n cc:Nat)(l:List Ex)(hA:Exs d s A n cc l)(hc:c≤2000)(hlv:lv≤17):AC prog D 155 [.pointer (some ⟨bc,0,none⟩),.slice A n cc,.int .i64 (lv:Int)] ((bc,cb [.int .i64 (c:Int)] 169)::L) s fun v L' _=>v=.int .i64 (qd5 l lv c).2∧L'=(bc,cb [.int .i64 ((qd5 l lv c).1:Int)] 169)::L:=by
 have hn:=hA.1;have hc1:=hA.2.1;have hc2:=hA.2.2.1;refine qad (fn:=f155) qao func155 V Z ntmps155 Z (rs:=[.tmp 6]) Z [(0,_),(1,_),(2,_)] Z<|G14 ?_;refine qaH (γ:=Nat×Nat) (fun g=>[(0,_),(2,_),(6,_),(14,_),(15,_),(16,.int .i64 (g.1:Int))]) (fun g=>(bc,cb [.int .i64 (g.2:Int)] 169)::L) (fun g tw=>Le D s tw∧(g.1≤n∧g.2≤2000∧qd5 l lv c=qd5 (l.drop g.1) lv g.2)) (fun g=>n - g.1) (fun _ _ _ h hl=>⟨h.1.trans hl,h.2⟩) (0,c) (.c6 Z Z Z Z Z Z (.nil _)) Z ⟨Le.refl _,⟨Nat.zero_le _,hc,Z⟩⟩ ?_;intro g s1 I1;obtain ⟨k,ck⟩:=g;obtain ⟨hk0,hck,hS⟩:=I1.2;simp only at hk0 hck hS;dsimp only;refine J6 ?_ ?_<;>intro c2
 ·have hk:k < n:=by omega
  obtain ⟨e,b,off,x,A',n',c',hd,rfl,hx,hcx,hax,hux,hnl⟩:=Exs.at_ (hA.le I1.1) hk;have hn':=hax.1;refine G6 ?_;refine qae (qaw Z Z Z Z Z Z hk) Z<|qae (qat Z Z Z (hcx.le (Lr D)) Z) Z<|qac Z [_,_,_,_,_] Z Z fun β3 s3 h3=>Wt 0 [_,_,_,_,_] Y9<|G7 ?_;refine Jc Z Z Z (qjK D L _ _ bc ck lv hck) ?_;have e3:=I1.1.t h3;rintro _ _ s4 h4 ⟨rfl,rfl⟩;have e4:=e3.t h4;refine G3 ?_;refine qaR Z ?_ ?_<;>intro c5
  ·have g4:16 < lv∨2000 < ck+1:=by have:=c5;omega
   have hE:wkX x lv ck=(ck+1,2):=by rw [qkF,if_pos g4]
   refine G12 ?_;exact rX [_] _ Z e4 fun _ hS2=>qDX
  have g4:¬ (16 < lv∨2000 < ck+1):=by have:=c5;omega
  refine G3 ?_;refine qbA 36 (x.kind < 1∨7 < x.kind∨¬ ¬ ((x.kind=6∧(x.op < 1∨3 < x.op))∨(x.kind=7∧(x.op < 4∨21 < x.op)))) ?_ ?_
  ·refine G5 ?_;refine qap (t:=27) Z ?_ ?_<;>intro c7;·exact Ez77
   refine G8 ?_;refine qap (t:=32) Z ?_ ?_<;>intro c8;·exact qwc
   refine Zg Z Z<|qae (qaj 0 [_,_,_,_,_] Z Z Z Z Z) Z<|Zg Z Z<|Je Z Z Z (qyd D _ _ x A' n' c') fun s9 h9=>G4 ?_;refine qaf (MidB.mk h9 Sb Z (qe8 O))
  intro s6 h6;have e6:=e4.t h6;refine qaa Z ?_ ?_<;>intro c10
  ·have hx5:=qE4 hn' c10;have hE:wkX x lv ck=(ck+1,5):=by rw [qkF,if_neg g4,if_pos (by rw [hx5];decide),hx5]
   refine G12 ?_;exact rX [_] _ Z e6 fun _ hS2=>qDX
  have g5:=c10;refine G2 ?_;refine qbA 9 (2≤x.kind∧x.kind≤4) ?_ ?_
  ·refine G5 ?_;refine qap (t:=40) Z ?_ ?_<;>intro c12;·refine G11 ?_;exact qqV
   refine G8 ?_;refine qap (t:=45) Z ?_ ?_<;>intro c13;·exact qAL
   exact Ez81
  intro s11 h11;have e11:=e6.t h11;refine qbA 10 (x.kind=6∨x.kind=7) ?_ ?_
  ·refine G5 ?_;refine qap (t:=53) Z ?_ ?_<;>intro c15;·exact qAL
   exact Ez81
  intro s14 h14;have e14:=e11.t h14;refine G4 ?_;refine Je Z Z Z (qoQ D _ _ x.kind) fun s16 h16=>G9 ?_;have e16:=e14.t h16;refine qbA 64 ((2≤x.kind∧x.kind≤4)∧qbr x.name=false) ?_ ?_
  ·refine G3 ?_;refine qap (t:=66) Z ?_ ?_<;>intro c18;·refine G5 ?_;refine Je Z Z Z (qfp D _ _ (hG.le e16) x.name) fun s19 h19=>G5 ?_;refine qaf (MidB.mk h19 Sb Z ((qvJ As)))
   refine G7 ?_;refine qaf (MidB.mk (Lr D) Sb Z ((decide_eq_false (fun h=>absurd h.1 As)).symm))
  intro s17 h17;refine qaa Z ?_ ?_<;>intro c19
  ·have hx7:=qE6 hn' g5 c19;have hE:wkX x lv ck=(ck+1,7):=by rw [qkF,if_neg g4,if_pos (by rw [hx7];decide),hx7]
   refine G12 ?_;refine Zu ?_;exact rX [_] _ Z (e16.t h17) fun _ hS2=>qDX
  have g7:=c19;refine qd6 (γ:=Unit) (fun _=>[(72,.bool (decide ((¬ (2≤x.kind∧x.kind≤4)∧x.name≠[])∨(x.kind≠1∧x.num≠0)∨(¬ (x.kind=6∨x.kind=7)∧x.op≠0)∨n' < qdx x.kind∨qfU x.kind < n')))]) [_,_] Z (fun g=>L) (fun g tw=>True) (fun _ _ _ h hl=>h) ?_ ?_
  ·refine G5 ?_;refine qbg (t:=75) Z ?_ ?_<;>intro c21
   ·refine G5 ?_;refine qBC Z Z Z<|G4 ?_;refine qaR Z ?_ ?_<;>intro c22;·exact qfJ
    refine G5 ?_;refine qbg (t:=82) Z ?_ ?_<;>intro c23
    ·refine G10 ?_;refine qaR Z ?_ ?_<;>intro c24;·exact qfJ
     refine G6 ?_;refine qbg (t:=90) Z ?_ ?_<;>intro c25
     ·refine G10 ?_;refine qaR Z ?_ ?_<;>intro c26;·exact qfJ
      refine J10 ?_ ?_<;>intro c27;·exact qfJ
      exact qD4
     refine J18 ?_ ?_<;>intro c26;·exact qfJ
     exact qD4
    refine G14 ?_;exact Ez10
   refine G12 ?_;refine Zqm Z Z ?_;refine qbg (t:=82) Z ?_ ?_<;>intro c22
   ·refine G10 ?_;refine qaR Z ?_ ?_<;>intro c23;·exact qfJ
    refine G6 ?_;exact Ez10
   refine G14 ?_;refine qbg (t:=90) Z ?_ ?_<;>intro c23
   ·refine G10 ?_;refine qaR Z ?_ ?_<;>intro c24;·exfalso;omega
    exfalso;omega
   refine J18 ?_ ?_<;>intro c24;·exfalso;omega
   exfalso;omega
  intro g s20 h20 I20;have e20:=e16.t h17|>.t h20;simp only [cQ9,nQ9]
         
  refine qaa Z ?_ ?_<;>intro c25
  ·have hx6:=qE5 hn' g5 g7 c25;have hE:wkX x lv ck=(ck+1,6):=by rw [qkF,if_neg g4,if_pos (by rw [hx6];decide),hx6]
   refine G12 ?_;refine Zu ?_;exact rX [_] _ Z e20 fun _ hS2=>qDX
  have hE:wkX x lv ck=qd5 x.args (lv+1) (ck+1):=by rw [qkF,if_neg g4,if_neg (by rw [qE3 hn' g5 g7 c25];decide)]
  refine G9 ?_;refine qae (qaI Z Z (show IntKind.i64.wrap ((lv:Int)+1)=((lv+1:Nat):Int) by rw [w64 O O];simp)) Z<|Jc Z Z Z ((ih e hd).swap L _ (hG.le e20) _ bc (ck+1) (lv+1) A' n' c' x.args (hax.le (h3.t h4|>.t h6|>.t h11|>.t h14|>.t h16|>.t h17|>.t h20)) O O) ?_;rintro _ _ s26 h26 ⟨rfl,rfl⟩;refine G9 ?_;refine qaR Z ?_ ?_<;>intro c27;·have g0:=c27;refine G12 ?_;refine rR [_] _ (.t1 Z) Z (e20.t h26) fun _ hS2=>?_;rw [hS,qlq hx,hE,if_pos g0];exact ⟨rfl,rfl⟩
  have g0:=c27;refine G4 ?_;refine qaV Z Z Z (w64 O O)<|G2 ?_;refine qaf ⟨(k+1,(qd5 x.args (lv+1) (ck+1)).1),[_],kp,Z,⟨(e20.t h26),⟨by simp only;omega,by simp only;have hw:=qhx x.args (lv+1) (ck+1) g0;rw [hw.2.1];rcases hw.2.2 with h|h<;>omega,by simp only;rw [hS,qlq hx,hE,if_neg (by rw [g0];decide)]⟩⟩,Oz⟩
 rw [List.drop_eq_nil_of_le O,qd5] at hS;exact qAJ
def cxc(D:Nat):∀ d,CXC D d
 | 0=>fun L s hG bc c lv A n cc l hA hc hlv=>qgT D 0 (fun e h=>by omega) L s hG bc c lv A n cc l hA hc hlv
 | d+1=>fun L s hG bc c lv A n cc l hA hc hlv=>qgT D (d+1) (fun e h=>(show d=e by omega)▸cxc D d) L s hG bc c lv A n cc l hA hc hlv
def qik(x:Stm)(lv c:Nat):wkS x lv c=if 16 < lv∨2000 < c+1 then (c+1,2) else if stC x.kind x.name x.exprs.length x.body.length x.els.length≠0 then (c+1,stC x.kind x.name x.exprs.length x.body.length x.els.length)
  else if (qd5 x.exprs 1 (c+1)).2≠0 then qd5 x.exprs 1 (c+1) else if (qdL x.body (lv+1) (qd5 x.exprs 1 (c+1)).1).2≠0 then qdL x.body (lv+1) (qd5 x.exprs 1 (c+1)).1 else qdL x.els (lv+1) (qdL x.body (lv+1) (qd5 x.exprs 1 (c+1)).1).1:=by
 cases x;rfl
def qhw{l:List Stm}{k:Nat}{x:Stm}(h:l[k]?=some x)(lv c:Nat):qdL (l.drop k) lv c=if (wkS x lv c).2≠0 then wkS x lv c else qdL (l.drop (k+1)) lv (wkS x lv c).1:=by
 obtain ⟨hk,rfl⟩:=List.getElem?_eq_some_iff.1 h;rw [List.drop_eq_getElem_cons hk,qdL]
def wkP(x:Stm)(lv c:Nat)(j:Nat):Nat×Int:=if j=0 then (if (qdL x.body (lv+1) c).2≠0 then qdL x.body (lv+1) c else qdL x.els (lv+1) (qdL x.body (lv+1) c).1) else if j=1 then qdL x.els (lv+1) c else (c,0)
section
variable{x:Stm}{n1 n2 n3:Nat}(hn1:n1=x.exprs.length)(hn2:n2=x.body.length)(hn3:n3=x.els.length)
def qFN{a b c:Nat}(h:x.kind < 1∨10 < x.kind):stC x.kind x.name a b c=5:=by rw [stC,if_pos h]
variable(g5:¬ (x.kind < 1∨10 < x.kind))
include g5
theorem qFP{a b c:Nat}(h:qeR x.kind=true∧qbr x.name=false):stC x.kind x.name a b c=7:=by rw [stC,if_neg g5,if_pos h]
variable(g7:¬ (qeR x.kind=true∧qbr x.name=false))
include g7 hn1 hn2 hn3
theorem qFO(h:(qeR x.kind=false∧x.name≠[])∨(¬ (x.kind=3∨x.kind=4)∧0 < n2)∨(¬ x.kind=3∧0 < n3)∨n1 < qcY x.kind∨qfV x.kind < n1):stC x.kind x.name x.exprs.length x.body.length x.els.length=6:=by
 rw [stC,if_neg g5,if_neg g7,if_pos];rcases h with h|h|h|h|h
 · exact .inl h
 · exact .inr (.inr (.inr (.inl ⟨by omega,by omega,by omega⟩)))
 · exact .inr (.inr (.inr (.inr ⟨by omega,by omega⟩)))
 · exact .inr (.inl O)
 · exact .inr (.inr (.inl O))
theorem qFM(h:¬ ((qeR x.kind=false∧x.name≠[])∨(¬ (x.kind=3∨x.kind=4)∧0 < n2)∨(¬ x.kind=3∧0 < n3)∨n1 < qcY x.kind∨qfV x.kind < n1)):stC x.kind x.name x.exprs.length x.body.length x.els.length=0:=by
 rw [stC,if_neg g5,if_neg g7,if_neg];intro k;refine h ?_;rcases k with k|k|k|k|k
 · exact .inl k
 · exact .inr (.inr (.inr (.inl O)))
 · exact .inr (.inr (.inr (.inr O)))
 · exact .inr (.inl ⟨by omega,by omega⟩)
 · exact .inr (.inr (.inl ⟨by omega,by omega⟩))
end
def CSC(D d:Nat):Prop:=∀ (L:Hl) (s:World),GP s→∀ (bc c lv:Nat) (A:Option Addr) (n cc:Nat) (l:List Stm),Stms d s A n cc l→c≤2000→lv≤17→AC prog D 110 [.pointer (some ⟨bc,0,none⟩),.slice A n cc,.int .i64 (lv:Int)] ((bc,cb [.int .i64 (c:Int)] 169)::L) s fun v L' _=>v=.int .i64 (qdL l lv c).2∧L'=(bc,cb [.int .i64 ((qdL l lv c).1:Int)] 169)::L
def CSC.swap{D d:Nat}(h:CSC D d)(L:Hl)(s:World)(hG:GP s)(y:Nat×Obj)(bc c lv:Nat)(A:Option Addr)(n cc:Nat)(l:List Stm)(hA:Stms d s A n cc l)(hc:c≤2000)(hlv:lv≤17):AC prog D 110 [.pointer (some ⟨bc,0,none⟩),.slice A n cc,.int .i64 (lv:Int)] (y::(bc,cb [.int .i64 (c:Int)] 169)::L) s fun v L' _=>v=.int .i64 (qdL l lv c).2∧L'=y::(bc,cb [.int .i64 ((qdL l lv c).1:Int)] 169)::L:=
 AC.perm (List.Perm.swap ..) (h (y::L) s hG bc c lv A n cc l hA hc hlv) fun v L1 s1 ⟨g0,h1⟩=>⟨_,by rw [h1];exact List.Perm.swap ..,g0,rfl⟩
def qAm(x:Stm)(lv c:Nat):wkP x lv c 0=if (qdL x.body (lv+1) c).2≠0 then qdL x.body (lv+1) c else wkP x lv (qdL x.body (lv+1) c).1 1:=rfl
def qDS(x:Stm)(lv c:Nat):wkP x lv c 1=qdL x.els (lv+1) c:=rfl
def qDT(x:Stm)(lv c:Nat):wkP x lv c 2=(c,0):=rfl
def qv5(x:Stm)(lv c:Nat)(h:(qdL x.els (lv+1) c).2=0):wkP x lv c 1=wkP x lv (qdL x.els (lv+1) c).1 2:=by rw [qDS,qDT,← h]
def qDY{p:Prop} (h:p:=by
 rw [hS,qhw hx,hE,if_pos (by simp;done)];exact ⟨rfl,rfl⟩):p:=h
def Ez35{p:Prop} (h:p:=by
  refine qaa Z ?_ ?_<;>intro c18;·refine Zk ?_;refine qaf (MidG.mk () [] (Lr D) (.cons Kb (.nil _)) So Pr Tt)
  refine G8 ?_;refine qaf (MidG.mk () [] (Lr D) (.cons Kb (.nil _)) So Pr Tt)):p:=h
def Ez17{p:Prop} (h:p:=by
  refine J12 ?_ ?_<;>intro c18;·refine Zk ?_;refine qaf (MidG.mk () [] (Lr D) (.cons Kb (.nil _)) So Pr Tt)
  refine J10 ?_ ?_<;>intro c19;·refine Zk ?_;refine qaf (MidG.mk () [] (Lr D) (.cons Kb (.nil _)) So Pr Tt)
  refine G8 ?_;refine qaf (MidG.mk () [] (Lr D) (.cons Kb (.nil _)) So Pr Tt)):p:=h
theorem qhQ(D d:Nat)(ih:∀ e,d=e+1→CSC D e)(L:Hl)(s:World)(hG:GP s)(bc c lv:Nat)(A:Option Addr)(n cc:Nat)(l:List Stm)(hA:Stms d s A n cc l)(hc:c≤2000)(hlv:lv≤17):AC prog D 110 [.pointer (some ⟨bc,0,none⟩),.slice A n cc,.int .i64 (lv:Int)] ((bc,cb [.int .i64 (c:Int)] 169)::L) s fun v L' _=>v=.int .i64 (qdL l lv c).2∧L'=(bc,cb [.int .i64 ((qdL l lv c).1:Int)] 169)::L:=by
 have hn:=hA.1;have hc1:=hA.2.1;have hc2:=hA.2.2.1;refine qad (fn:=f110) qao func110 V Z ntmps110 Z (rs:=[.tmp 6]) Z [(0,_),(1,_),(2,_)] Z<|G14 ?_;refine qaH (γ:=Nat×Nat) (fun g=>[(0,_),(2,_),(6,_),(18,_),(19,_),(20,.int .i64 (g.1:Int))]) (fun g=>(bc,cb [.int .i64 (g.2:Int)] 169)::L) (fun g tw=>Le D s tw∧(g.1≤n∧g.2≤2000∧qdL l lv c=qdL (l.drop g.1) lv g.2)) (fun g=>n - g.1) (fun _ _ _ h hl=>⟨h.1.trans hl,h.2⟩) (0,c) (.c6 Z Z Z Z Z Z (.nil _)) Z ⟨Le.refl _,⟨Nat.zero_le _,hc,Z⟩⟩ ?_;intro g s1 I1;obtain ⟨k,ck⟩:=g;obtain ⟨hk0,hck,hS⟩:=I1.2;simp only at hk0 hck hS;dsimp only;refine J6 ?_ ?_<;>intro c2
 ·have hk:k < n:=by omega
  obtain ⟨e,b,off,x,A1,n1,c1,A2,n2,c2,A3,n3,c3,hd,rfl,hx,hcx,hax,hbx,hex,hnl⟩:=Stms.at_ (hA.le I1.1) hk;have hn1:=hax.1;have hn2:=hbx.1;have hn3:=hex.1;refine G6 ?_;refine qae (qaw Z Z Z Z Z Z hk) Z<|qae (qat Z Z Z (hcx.le (Lr D)) Z) Z<|qac Z [_,_,_,_,_] Z Z fun β3 s3 h3=>Wt 0 [_,_,_,_,_] Y9<|G7 ?_;refine Jc Z Z Z (qjK D L _ _ bc ck lv hck) ?_;have e3:=I1.1.t h3;rintro _ _ s4 h4 ⟨rfl,rfl⟩;have e4:=e3.t h4;refine G3 ?_;refine qaR Z ?_ ?_<;>intro c5
  ·have g4:16 < lv∨2000 < ck+1:=by have:=c5;omega
   have hE:wkS x lv ck=(ck+1,2):=by rw [qik,if_pos g4]
   refine G12 ?_;exact rX [_] _ Z e4 fun _ hS2=>qDY
  have g4:¬ (16 < lv∨2000 < ck+1):=by have:=c5;omega
  refine G3 ?_;refine qbA 35 (x.kind < 1∨10 < x.kind) ?_ ?_
  ·refine G5 ?_;refine qap (t:=31) Z ?_ ?_<;>intro c7;·exact qwc
   refine G8 ?_;refine qaf (MidB.mk (Lr D) Sb Z (decide_eq_decide.2 O))
  intro s6 h6;have e6:=e4.t h6;refine qaa Z ?_ ?_<;>intro c8
  ·have hx5:=qFN (x:=x) (a:=x.exprs.length) (b:=x.body.length) (c:=x.els.length) c8;have hE:wkS x lv ck=(ck+1,5):=by rw [qik,if_neg g4,if_pos (by rw [hx5];decide),hx5]
   refine G12 ?_;exact rX [_] _ Z e6 fun _ hS2=>qDY
  have g5:=c8;refine G6 ?_;refine Je Z Z Z (qqh D _ _ x.kind O O) fun s9 h9=>G15 ?_;have e9:=e6.t h9;refine qbA 45 (qeR x.kind=true∧qbr x.name=false) ?_ ?_
  ·refine G3 ?_;refine qfK (t:=47) Z ?_ ?_<;>intro c11;·refine G5 ?_;refine Je Z Z Z (qfp D _ _ (hG.le e9) x.name) fun s12 h12=>G5 ?_;refine qaf (MidB.mk h12 Sb Z ((qvJ As)))
   refine G7 ?_;refine qaf (MidB.mk (Lr D) Sb Z ((decide_eq_false (fun h=>absurd h.1 (by simp [*]))).symm))
  intro s10 h10;have e10:=h3.t h4|>.t h6|>.t h9|>.t h10;refine qaa Z ?_ ?_<;>intro c12
  ·have hx7:=qFP (a:=x.exprs.length) (b:=x.body.length) (c:=x.els.length) g5 c12;have hE:wkS x lv ck=(ck+1,7):=by rw [qik,if_neg g4,if_pos (by rw [hx7];decide),hx7]
   refine G12 ?_;refine Zu ?_;exact rX [_] _ Z (e9.t h10) fun _ hS2=>qDY
  have g7:=c12;refine qd6 (γ:=Unit) (fun _=>[(53,.bool (decide ((qeR x.kind=false∧x.name≠[])∨(¬ (x.kind=3∨x.kind=4)∧0 < n2)∨(¬ x.kind=3∧0 < n3)∨n1 < qcY x.kind∨qfV x.kind < n1)))]) [_,_] Z (fun g=>L) (fun g tw=>True) (fun _ _ _ h hl=>h) ?_ ?_
  ·refine G5 ?_;refine qdN (t:=56) Z ?_ ?_<;>intro c14
   ·refine G5 ?_;refine qBC Z Z Z<|G4 ?_;refine qaR Z ?_ ?_<;>intro c15;·exact qfJ
    refine G5 ?_;refine qbg (t:=63) Z ?_ ?_<;>intro c16
    ·refine J12 ?_ ?_<;>intro c17;·exact qfJ
     refine G5 ?_;refine qbg (t:=71) Z ?_ ?_<;>intro c18
     ·refine J12 ?_ ?_<;>intro c19;·exact qfJ
      refine J10 ?_ ?_<;>intro c20;·exact qfJ
      exact qD4
     refine J19 ?_ ?_<;>intro c19;·exfalso;omega
     exfalso;omega
    refine G14 ?_;refine qbg (t:=71) Z ?_ ?_<;>intro c17;·exact Ez17
    refine G19 ?_;exact Ez35
   refine G12 ?_;refine Zqm Z Z ?_;refine qbg (t:=63) Z ?_ ?_<;>intro c15
   ·refine J12 ?_ ?_<;>intro c16;·exact qfJ
    refine G5 ?_;refine qbg (t:=71) Z ?_ ?_<;>intro c17;·exact Ez17
    refine J19 ?_ ?_<;>intro c18;·exfalso;omega
    exfalso;omega
   refine G14 ?_;refine qbg (t:=71) Z ?_ ?_<;>intro c16
   ·refine J12 ?_ ?_<;>intro c17;·exact qfJ
    refine G10 ?_;exact Ez35
   refine J19 ?_ ?_<;>intro c17;·exact qfJ
   exact qD4
  intro g s13 h13 I13;have e13:=e9.t h10|>.t h13;simp only [cQ9,nQ9]
       
  refine qaa Z ?_ ?_<;>intro c18
  ·have hx6:=qFO hn1 hn2 hn3 g5 g7 c18;have hE:wkS x lv ck=(ck+1,6):=by rw [qik,if_neg g4,if_pos (by rw [hx6];decide),hx6]
   refine G12 ?_;refine Zu ?_;exact rX [_] _ Z e13 fun _ hS2=>qDY
  have hx0:=qFM hn1 hn2 hn3 g5 g7 c18;refine G9 ?_;refine Jc Z Z Z ((cxc D e).swap L _ (hG.le e13) _ bc (ck+1) 1 A1 n1 c1 x.exprs (hax.le (e10.t h13)) O O) ?_;rintro _ _ s19 h19 ⟨rfl,rfl⟩;have e19:=e13.t h19;refine G9 ?_;refine qaR Z ?_ ?_<;>intro c20
  ·have g0:=c20;have hE:wkS x lv ck=qd5 x.exprs 1 (ck+1):=by rw [qik,if_neg g4,if_neg (by rw [hx0];decide),if_pos g0]
   refine G12 ?_;refine Zu ?_;refine rR [_] _ (.t1 Z) Z e19 fun _ hS2=>?_;rw [hS,qhw hx,hE,if_pos g0];exact ⟨rfl,rfl⟩
  have g0:=c20;have hE:wkS x lv ck=wkP x lv (qd5 x.exprs 1 (ck+1)).1 0:=by rw [qik,if_neg g4,if_neg (by rw [hx0];decide),if_neg (by simpa using g0)];rfl
  have hw0:=qhx x.exprs 1 (ck+1) g0;have hcx0:(qd5 x.exprs 1 (ck+1)).1≤2000:=by rw [hw0.2.1];rcases hw0.2.2 with h|h<;>omega
  refine G8 ?_;refine qbd [(_,_),(_,_)] [_,_] Z Z Z Z Z Z Z Z Z fun βp s21 h21 hcp=>G5 ?_;have e21:=e10.t h13|>.t h19|>.t h21;refine qc0 [_] (γ:=Nat×Nat) (fun g=>[(0,_),(2,_),(6,_),(18,_),(19,_),(20,_),(98,_),(99,_),(100,.int .i64 (g.1:Int))]) (fun g=>(bc,cb [.int .i64 (g.2:Int)] 169)::L) (fun g tw=>Le D s21 tw∧(g.1≤2∧g.2≤2000∧wkP x lv (qd5 x.exprs 1 (ck+1)).1 0=wkP x lv g.2 g.1)) (fun g=>2 - g.1) (fun _ _ _ h hl=>⟨h.1.trans hl,h.2⟩) (0,(qd5 x.exprs 1 (ck+1)).1) (.c6 Z Z Z Z Z Z (.c3 Z Z Z (.nil _))) Z ⟨Le.refl _,⟨Nat.zero_le _,hcx0,Z⟩⟩ ?_;intro g s22 I22;have e22:=e19.t h21|>.t I22.1;simp only [cQ9,nQ9];obtain ⟨j,cj⟩:=g;obtain ⟨hj0,hcj,hP⟩:=I22.2;simp only at hj0 hcj hP;dsimp only;refine J6 ?_ ?_<;>intro c23
  ·have hj2:j < 2:=by omega
   refine G5 ?_;rcases (show j=0∨j=1 by omega) with rfl|rfl
   ·refine Zr<|qae (qaQ Z Z Z Z Z Z O) Z<|qae (qak Z Z Z (hcp.le I22.1) Z) Z<|G8 ?_;refine qae (qaI Z Z (show IntKind.i64.wrap ((lv:Int)+1)=((lv+1:Nat):Int) by rw [w64 O O];simp)) Z<|Jc Z Z Z ((ih e hd).swap L _ (hG.le e22) _ bc cj (lv+1) A2 n2 c2 x.body (hbx.le (e21.t I22.1)) hcj O) ?_;rintro _ _ s24 h24 ⟨rfl,rfl⟩;refine G9 ?_;refine qaR Z ?_ ?_<;>intro c25;·have hz:=c25;refine G16 ?_;refine rR [_] _ (.t1 Z) Z (e22.t h24) fun _ hS2=>?_;rw [hS,qhw hx,hE,hP,qAm,if_pos hz,if_pos hz];exact ⟨rfl,rfl⟩
    have hz:=c25;refine G4 ?_;refine qaV Z Z Z (w64 O O)<|G2 ?_;refine qaf ⟨(1,(qdL x.body (lv+1) cj).1),[],kp,Z,⟨(I22.1.t h24),by first|exact ⟨by simp only;omega,by simp only;have hw:=qeq x.body (lv+1) cj hz;rw [hw.2.1];rcases hw.2.2 with h|h<;>omega,by simp only;rw [hP,qAm,if_neg (by rw [hz];decide)]⟩|exact ⟨by simp only;omega,by simp only;have hw:=qeq x.els (lv+1) cj hz;rw [hw.2.1];rcases hw.2.2 with h|h<;>omega,by simp only;rw [hP,qv5 _ _ _ hz]⟩⟩,Oz⟩
   refine Zr<|qae (qaQ Z Z Z Z Z Z O) Z<|qae (qa8 1 Z Z Z (hcp.le I22.1) Z) Z<|G8 ?_;refine qae (qaI Z Z (show IntKind.i64.wrap ((lv:Int)+1)=((lv+1:Nat):Int) by rw [w64 O O];simp)) Z<|Jc Z Z Z ((ih e hd).swap L _ (hG.le e22) _ bc cj (lv+1) A3 n3 c3 x.els (hex.le (e21.t I22.1)) hcj O) ?_;rintro _ _ s24 h24 ⟨rfl,rfl⟩;refine G9 ?_;refine qaR Z ?_ ?_<;>intro c25;·have hz:=c25;refine G16 ?_;refine rR [_] _ (.t1 Z) Z (e22.t h24) fun _ hS2=>?_;rw [hS,qhw hx,hE,hP,qDS,if_pos hz];exact ⟨rfl,rfl⟩
   have hz:=c25;refine G4 ?_;refine qaV Z Z Z (w64 O O)<|G2 ?_;refine qaf ⟨(2,(qdL x.els (lv+1) cj).1),[],kp,Z,⟨(I22.1.t h24),by first|exact ⟨by simp only;omega,by simp only;have hw:=qeq x.body (lv+1) cj hz;rw [hw.2.1];rcases hw.2.2 with h|h<;>omega,by simp only;rw [hP,qAm,if_neg (by rw [hz];decide)]⟩|exact ⟨by simp only;omega,by simp only;have hw:=qeq x.els (lv+1) cj hz;rw [hw.2.1];rcases hw.2.2 with h|h<;>omega,by simp only;rw [hP,qv5 _ _ _ hz]⟩⟩,Oz⟩
  obtain rfl:j=2:=by omega
  rw [qDT] at hP;refine G7 ?_;refine qaV Z Z Z (w64 O O)<|G2 ?_;refine qaf ⟨(k+1,cj),[_],kp,Z,⟨e22,⟨by simp only;omega,hcj,by simp only;rw [hS,qhw hx,hE,hP,if_neg (by simp)]⟩⟩,Oz⟩
 rw [List.drop_eq_nil_of_le O,qdL] at hS;exact qAJ
def csc(D:Nat):∀ d,CSC D d
 | 0=>fun L s hG bc c lv A n cc l hA hc hlv=>qhQ D 0 (fun e h=>by omega) L s hG bc c lv A n cc l hA hc hlv
 | d+1=>fun L s hG bc c lv A n cc l hA hc hlv=>qhQ D (d+1) (fun e h=>(show d=e by omega)▸csc D d) L s hG bc c lv A n cc l hA hc hlv
end Go.Proofs.YtlfiplbamnpgoaaGreatDoor
namespace Go.FL
open Go Go.RowKit
section
variable{P:Program}{TT:qaM}{D:Nat}{fr:Fr}{ty:Nat}{K:Hl}{s0:World}{v:Value}
def qgF{n:Nat}{Q:qbs}{c:Code}{L L':Hl}{s:World}(hp:L.Perm L')(h:JC P TT D n Q c fr L' s):JC P TT D n Q c fr L s:=fun ht a hr ho=>by
 rw [qa5 hp _ ho];exact h ht a hr (ho.perm hp)
def qpE{xs ys:List Value}{k:Nat}{v:Value}(h:xs[k]?=some v):nth (xs++ys) (0+k)=some v:=by
 rw [qdK,Nat.zero_add,List.getElem?_append_left (List.getElem?_eq_some_iff.1 h).1,h]
def qhe{e:Nat}{A:Hl}{n:Nat}{xs:List Value}(h:FL.Own e 1 A v n xs)(h0:0 < n):∃ b cap ys,A=[(b,cb (xs++ys) e)]∧v=.slice (some ⟨b,0,none⟩) n cap∧xs.length=n∧xs.length+ys.length=cap∧cap≤9223372036854775807:=by
 cases h with
 | nil=>cases h0
 | blk b cap n xs ys hn hc hnc hm=>exact ⟨b,cap,ys,rfl,rfl,by simpa using hn,by simpa using hc,hm⟩
end
end Go.FL
namespace Go.Proofs.YtlfiplbamnpgoaaGreatDoor
open Go Go.FL
variable{s:World}{A:Option Addr}{n c:Nat}
def qix:∀ {l:List Ex},(∀ x∈l,exU x=true)→qfQ l=true
 | [],_=>rfl
 | x::r,h=>by simp only [qfQ,h x Mc,qix fun y hy=>h y (List.mem_cons_of_mem _ hy),Bool.and_self]
def qgB:∀ {l:List Stm},(∀ x∈l,stU x=true)→qfF l=true
 | [],_=>rfl
 | x::r,h=>by simp only [qfF,h x Mc,qgB fun y hy=>h y (List.mem_cons_of_mem _ hy),Bool.and_self]
def Sl.all{α:Type}{sz:Nat}{R:World→α→List Value→Prop}{l:List α}{p:α→Prop}(h:Sl sz R s A n c l)(hR:∀ x cs,R s x cs→p x):∀ x∈l,p x:=fun x hx=>by
 obtain ⟨i,hi⟩:=List.getElem?_of_mem hx;obtain ⟨_,_,_,_,_,_,h4⟩:=h.2.2.2 i x hi;exact hR _ _ h4
def ExR.u:∀ {d:Nat} {x:Ex} {cs:List Value},ExR d s x cs→exU x=true
 | 0,_,_,h=>h.elim
 | d+1,.mk k o n nm az,_,⟨A,m,c,_,h2,h3,_⟩=>by
  have h:=qix (Sl.all (p:=fun x=>exU x=true) h2 fun x cs hx=>ExR.u hx);have h':qfQ az=true:=h;simp only [exU,h',Bool.and_true,decide_eq_true_eq];exact h3
def Exs.u{d:Nat}{l:List Ex}(h:Exs d s A n c l):qfQ l=true:=qix (Sl.all (p:=fun x=>exU x=true) h fun x cs hx=>ExR.u hx)
def StR.u:∀ {d:Nat} {x:Stm} {cs:List Value},StR d s x cs→stU x=true
 | 0,_,_,h=>h.elim
 | d+1,.mk k nm es b e,_,⟨A1,n1,c1,A2,n2,c2,A3,n3,c3,_,h2,h3,h4,_⟩=>by
  have h:=qgB (Sl.all (p:=fun x=>stU x=true) h3 fun x cs hx=>StR.u hx);have h':qfF b=true:=h;have k:=qgB (Sl.all (p:=fun x=>stU x=true) h4 fun x cs hx=>StR.u hx);have k':qfF e=true:=k;have g:qfQ es=true:=Exs.u h2;simp only [stU,g,h',k',Bool.and_self]
def Stms.u{d:Nat}{l:List Stm}(h:Stms d s A n c l):qfF l=true:=qgB (Sl.all (p:=fun x=>stU x=true) h fun x cs hx=>StR.u hx)
def qcX:∀ {l:List Ex} {k:Nat} {y:Ex},qeG l=true→l[k]?=some y→exV y=true∧exN y≤qcs l
 | [],_,_,_,h=>by cases h
 | x::r,0,y,hv,h=>by
  simp at h;subst h;simp only [qeG,Bool.and_eq_true] at hv;exact ⟨hv.1,by rw [qcs];omega⟩
 | x::r,k+1,y,hv,h=>by
  simp only [qeG,Bool.and_eq_true] at hv;have:=qcX hv.2 (show r[k]?=some y by simpa using h);exact ⟨this.1,by rw [qcs];omega⟩
def qcC{k o n:Int}{nm:Str}{na:Nat}(h:exC k o n nm na=0):1≤k∧k≤7∧qdx k≤na∧na≤qfU k∧(k=6→1≤o∧o≤3)∧(k=7→4≤o∧o≤21):=by
 unfold exC at h;split at h
 · cases h
 rename_i h1;split at h
 · cases h
 split at h
 · cases h
 rename_i h3;refine ⟨by omega,by omega,?_,?_,by omega,by omega⟩
 · exact Nat.le_of_not_lt fun hh=>h3 (.inr (.inr (.inr (.inl hh))))
 · exact Nat.le_of_not_lt fun hh=>h3 (.inr (.inr (.inr (.inr hh))))
def qdW{x:Ex}(h:exV x=true):exC x.kind x.op x.num x.name x.args.length=0∧qeG x.args=true:=by
 cases x with
 | mk k o n nm az=>simp only [exV,Bool.and_eq_true,decide_eq_true_eq] at h;exact h
def qCr(x:Ex):exN x=1+qcs x.args:=by cases x;rfl
def qvu{x:Ex}(h1:0≤x.num∧x.num < 4294967296)(h2:qfQ x.args=true):exU x=true:=by
 cases x with
 | mk k o n nm az=>simp only [exU,Bool.and_eq_true,decide_eq_true_eq];exact ⟨h1,h2⟩
def qeP(x:Ex)(out:Int):exT x out=exW x.kind x.op x.num x.name (qgk x.args (qgc x.kind x.op)) out:=by cases x;rfl
def qlV(l:List Ex):qgk l []=l.map fun x=>exT x 0:=by
 induction l with
 | nil=>rfl
 | cons x r ih=>simp only [qgk,List.headD_nil,List.tail_nil,List.map_cons,ih]
theorem qln(o:Int):1≤qja o∧qja o≤5:=by grind [qja]
section
variable{x y z:Ex}
def qE8(h:x.kind=1):exT x 0=qd9 x.num:=by rw [qeP,exW,if_pos h]
def qE9(h:x.kind=2):exT x 0=x.name:=by rw [qeP,exW,h];rfl
def qsk{α:Type}{l:List α}{y:α}(hl:l.length=1)(h:l[0]?=some y):l=[y]:=by
 match l,hl,h with
 | [a],_,h=>simp at h;rw [h]
def qCT{α:Type}{l:List α}{y z:α}(hl:l.length=2)(h:l[0]?=some y)(h1:l[1]?=some z):l=[y,z]:=by
 match l,hl,h,h1 with
 | [a,b],_,h,h1=>simp at h h1;rw [h,h1]
def qFa(h:x.kind=3)(hl:x.args.length=1)(hy:x.args[0]?=some y):exT x 0=x.name++[91]++exT y 0++[93]:=by
 rw [qeP,qsk hl hy,h];rfl
def qFb(h:x.kind=4):exT x 0=x.name++[40]++qbJ (qgk x.args [])++[41]:=by
 rw [qeP,h];rfl
def qFc(h:x.kind=5):exT x 0=[103,101,116]:=by rw [qeP,exW,h];rfl
def qFd(h:x.kind=6)(hl:x.args.length=1)(hy:x.args[0]?=some y):exT x 0=qp8 x.op++exT y 9:=by
 rw [qeP,qsk hl hy,h];rfl
def qFe(h:x.kind=7)(hl:x.args.length=2)(hy:x.args[0]?=some y)(hz:x.args[1]?=some z):exT x 0=exT y (qja x.op)++[32]++qp8 x.op++[32]++exT z (qja x.op+1):=by
 have:=qln x.op;rw [qeP,qCT hl hy hz,h];show (if qja x.op < 0 then _ else _)=_;rw [if_neg O];rfl
def qxO(h1:1≤x.kind)(h7:x.kind≤7)(out:Int):exT x out=if x.kind=7∧qja x.op < out then [40]++exT x 0++[41] else exT x 0:=by
  have hs:=qln x.op;by_cases h:x.kind=7
  · have e:∀ q,exT x q=if qja x.op < q then [40]++((qgk x.args (qgc x.kind x.op)).getD 0 []++[32]++qp8 x.op++[32]++(qgk x.args (qgc x.kind x.op)).getD 1 [])++[41] else (qgk x.args (qgc x.kind x.op)).getD 0 []++[32]++qp8 x.op++[32]++(qgk x.args (qgc x.kind x.op)).getD 1 []:=fun q=>by
      rw [qeP,exW,if_neg O,if_neg O,if_neg O,if_neg O,if_neg O,if_neg O]
    rw [e out,e 0,if_neg (show ¬ qja x.op < 0 by omega)];by_cases ho:qja x.op < out
    · rw [if_pos ho,if_pos ⟨h,ho⟩]
    · rw [if_neg ho,if_neg (fun k=>ho k.2)]
  · rw [if_neg (fun k=>h k.1),qeP,qeP]
    unfold exW;repeat' split
    all_goals (first|rfl|omega)
end
def qiQ(n:Nat):Lib.repeatL [32,32] n=qa4 n:=by
 induction n with
 | zero=>rfl
 | succ n ih=>
  have:∀ n,qa4 n++[32,32]=[32,32]++qa4 n:=fun n=>by
   induction n with
   | zero=>rfl
   | succ n ih=>rw [qa4,ih,List.append_assoc,ih]
  have:qa4 (n+1)=[32,32]++qa4 n:=this n;rw [this,← ih];rfl
end Go.Proofs.YtlfiplbamnpgoaaGreatDoor
namespace Go.FL
open Go Go.RowKit
def qnO{P:Program}{TT:qaM}{D:Nat}{fr:Fr}{K:Hl}{s0:World}{ty:Nat}{x:Operand}{t:Nat}{A:Option Addr}{m c:Nat}{ti:TI}{e:Nat}(hx:lk fr x=some (.slice A m c))(ht:qay TT t=some ti)(hk:ti.kind=.sl e):QE P TT D fr (.call { callee:=.builtin .cap,args:=#[x],argTypes:=#[t] }) ty K s0 (.int .i64 (c:Int)):=
 QE.pure fun hT dst pos af g ρ hρ w=>by
  obtain ⟨k1,k2,_⟩:=hT.at_ ht;rw [hk] at k2;simp only [TK.fits] at k2;rw [k2] at k1;simp [execOp,resolve,invoke,builtin,hρ x _ hx,Builtin.cap_,run_underlying k1,goInt]
end Go.FL
namespace Go.Proofs.YtlfiplbamnpgoaaGreatDoor
open Go Go.FL Go.RowKit
variable(D:Nat)(L:Hl)(s:World){c:Nat}{x:Fnc}
def qyC{e cap:Nat}{M:Hl}{v:Value}{xs:List Value}(h:FL.Own e 1 M v cap xs):∃ A c,v=.slice A cap c∧FL.Own e 1 M (.slice A 0 c) 0 []:=by
 cases h with
 | nil=>exact ⟨none,0,rfl,.nil⟩
 | blk b c n xs ys hn hc hnc hm=>exact ⟨_,_,rfl,by
   have:=FL.Own.blk (e:=e) (sz:=1) b c 0 [] (xs++ys) rfl Q18 (Nat.zero_le _) hm;simpa using this⟩
def qgg(a b:List (List UInt8)):sb (a++b)=sb a++sb b:=by simp [sb]
def Strs.row{s:World}{A:Option Addr}{n:Nat}{l:List (List UInt8)}(h:Strs s A n c l):Row s A n 1 (sb l):=by
  refine ⟨by simp [sb,h.1],fun u hu=>?_,fun j u hj=>?_⟩
  · obtain ⟨x,_,rfl⟩:=List.mem_map.1 hu;rfl
  · obtain ⟨x,hx,rfl⟩:∃ x,l[j]?=some x∧u=St x:=by
      simp only [sb,List.getElem?_map] at hj;cases hl:l[j]? with
      | none=>rw [hl] at hj;cases hj
      | some x=>rw [hl] at hj;injection hj with hj;exact ⟨x,rfl,hj.symm⟩
    obtain ⟨b,off,cs,h1,h2,_,rfl,_⟩:=h.2.2.2 j x hx;exact ⟨b,off,h1,by have:=h2 0 (St x) rfl;simpa using this⟩
def Strs.len{s:World}{A:Option Addr}{n:Nat}{l:List (List UInt8)}(h:Strs s A n c l):∀ x∈l,x.length≤9223372036854775807:=fun x hx=>by
 obtain ⟨j,hj⟩:=List.getElem?_of_mem hx;obtain ⟨_,_,_,_,_,_,_,h5⟩:=h.2.2.2 j x hj;exact h5
open Go.Proofs.Tryz
open Go.FL
attribute [local irreducible] JC JO JA JB qaJ qax qbN AC fill CellsAt QE Ev Mid
def Cz40{p:Prop} (h:p:=by
 first|exact ⟨M1,Ag,cg,rfl,rfl,o2⟩|exact ⟨[],none,0,rfl,rfl,Own.nil⟩):p:=h
def qs2(m:Nat)(hm:m≤1000000000):AC prog D 116 [.slice none 0 0,.int .i64 (m:Int)] L s fun v L' _=>∃ M A c,L'=M++L∧v=.slice A 0 c∧FL.Own 9 1 M (.slice A 0 c) 0 []:=by
 refine qad (fn:=f116) qao func116 V Z ntmps116 Z (rs:=[.tmp 4]) Z [(0,_),(1,_)] Z<|J12 ?_ ?_<;>intro c1;·exfalso;omega
 refine G7 ?_;refine qae (qnO Z Z Z) Z<|G2 ?_;refine qae (qbB (c:=(0:Int)) Z Z Z) Z<|qae (qbB (c:=((m:Nat):Int)) Z Z Q5) Z<|J9 ?_ ?_<;>intro c2;·refine G3 ?_;refine qae (qnO Z Z Z) Z<|qae (qgJ (j:=0) Z Z Z Z Z (Nat.le_refl _)) Z<|Zqm Z Z<|qnK (sz:=1) (m:=m) (news:=List.replicate m (St [])) [] [] L Z Z Z Z Z Z Z Own.nil (by simp) (fun hT w i k1 i1 i2 i3 i4=>qjm m k1 underlying3 i1 i2 i4 Z Z O (by rw [i3];simp [ti9];omega)) ⟨by simp [ti9];omega,by omega⟩ Z ?_;intro v1 M1 s3 h3 o1 n1;simp only [Nat.zero_add,List.nil_append] at o1;obtain ⟨Ag,cg,rfl,o2⟩:=qyC o1;refine G2 ?_;refine qae (qgJ (j:=0) Z Z Z Z Z (Nat.zero_le _)) Z<|G10 ?_;exact rX [] _ Z h3 fun _ hS2=>Cz40
 refine G9 ?_;exact rX [] _ Z (Lr D) fun _ hS2=>Cz40
def qmV(b:Nat)(A1 A2:Option Addr)(n1 c1 n2 c2:Nat)(l1 l2:List Str)(hs1:Strs s A1 n1 c1 l1)(hs2:Strs s A2 n2 c2 l2)(hb:CellsAt s b 0 [.slice A1 n1 c1,.slice A2 n2 c2])(hn1:n1≤1000)(hn2:n2≤1000):AC prog D 73 [.slice (some ⟨b,0,none⟩) 2 2] L s fun v L' s'=>∃ M',L'=M'++L∧∀ s2,Le D s' s2→Pub M' s2→∃ A n c,v=.slice A n c∧Strs s2 A n c (l1++l2):=by
 have hl1:=hs1.1;have hl2:=hs2.1;refine qad (fn:=f73) qao func73 V Z ntmps73 Z (rs:=[.tmp 2]) Z [(0,_)] Z<|G19 ?_;refine qaH (γ:=Nat×Nat) (fun g=>[(0,_),(2,_),(3,.int .i64 (g.2:Int)),(9,_),(10,_),(11,.int .i64 (g.1:Int))]) (fun g=>L) (fun g tw=>Le D s tw∧(g.1≤2∧g.2≤g.1 * 1000)) (fun g=>2 - g.1) (fun _ _ _ h hl=>⟨h.1.trans hl,h.2⟩) (0,0) (.c6 Z Z Z Z Z Z (.nil _)) Z ⟨Le.refl _,⟨Nat.zero_le _,Nat.zero_le _⟩⟩ ?_;intro g s1 I1;obtain ⟨j,z⟩:=g;obtain ⟨hj0,hz⟩:=I1.2;simp only at hj0 hz;dsimp only;refine J6 ?_ ?_<;>intro c2
 ·have hjj:j < 2:=by omega
  refine G5 ?_;rcases (show j=0∨j=1 by omega) with rfl|rfl
  ·refine Zr<|qae (qaQ Z Z Z Z Z Z O) Z<|qae (qak Z Z Z (hb.le I1.1) Z) Z<|G8 ?_;refine qae (qaI (c:=((z+n1:Nat):Int)) Z Z Q8) Z<|J9 ?_ ?_<;>intro c3;·exfalso;omega
   refine G4 ?_;refine qaV Z Z Z (w64 O O)<|G2 ?_;refine qaf ⟨(1,z+n1),[],kp,Z,⟨I1.1,⟨by simp only;omega,by simp only;omega⟩⟩,Oz⟩
  refine Zr<|qae (qaQ Z Z Z Z Z Z O) Z<|qae (qa8 1 Z Z Z (hb.le I1.1) Z) Z<|G8 ?_;refine qae (qaI (c:=((z+n2:Nat):Int)) Z Z Q8) Z<|J9 ?_ ?_<;>intro c3;·exfalso;omega
  refine G4 ?_;refine qaV Z Z Z (w64 O O)<|G2 ?_;refine qaf ⟨(2,z+n2),[],kp,Z,⟨I1.1,⟨by simp only;omega,by simp only;omega⟩⟩,Oz⟩
 obtain rfl:j=2:=by omega
 refine G8 ?_;refine Jc Z Z Z (qs2 D _ _ z O) ?_;rintro _ _ s3 h3 ⟨Mg,Ag,cg,rfl,rfl,hOg⟩;have e3:=I1.1.t h3;refine G12 ?_;refine qaH (γ:=Nat×Value×Hl×List Str) (fun g=>[(2,_),(6,g.2.1),(25,_),(26,_),(27,.int .i64 (g.1:Int))]) (fun g=>g.2.2.1++L) (fun g tw=>Le D s3 tw∧(g.1≤2∧FL.Own 9 1 g.2.2.1 g.2.1 g.2.2.2.length (sb g.2.2.2)∧g.2.2.2=(if g.1=0 then [] else if g.1=1 then l1 else l1++l2))) (fun g=>2 - g.1) (fun _ _ _ h hl=>⟨h.1.trans hl,h.2⟩) (0,.slice Ag 0 cg,Mg,[]) (.c5 Z Z Z Z Z (.nil _)) Z ⟨Le.refl _,⟨Nat.zero_le _,hOg,Z⟩⟩ ?_;intro g s4 I4;have e4:=e3.t I4.1;obtain ⟨j,vo,Mo,out⟩:=g;obtain ⟨hj0,hO,hout⟩:=I4.2;simp only at hj0 hO hout;dsimp only;refine J6 ?_ ?_<;>intro c5
 ·have hjj:j < 2:=by omega
  refine G5 ?_;rcases (show j=0∨j=1 by omega) with rfl|rfl
  ·obtain rfl:out=[]:=hout;refine Zr<|qae (qaQ Z Z Z Z Z Z O) Z<|qae (qak Z Z Z (hb.le e4) Z) Z<|G6 ?_;refine qcT (sz:=1) [] Mo L Z Z Z Z Z Z Z hO (hs1.row.le e4) ⟨by simp [ti9];omega,by (try simp only [List.length_nil]);omega⟩ Z ?_;intro vq Mq s6 h6 oq;obtain ⟨Avq,cvq,rfl,_,_⟩:=Own.slice oq;simp only [List.nil_append];refine G5 ?_;refine qaV Z Z Z (w64 O O)<|G2 ?_;refine qaf ⟨(1,.slice Avq (0+n1) cvq,Mq,l1),[],kp,Z,⟨(I4.1.t h6),by first|exact ⟨by simp only;omega,by have h:=oq;simp only [List.length_nil,Nat.zero_add,sb,List.map_nil,List.nil_append] at h ⊢;rw [← hl1];exact h,Z⟩|exact ⟨by simp only;omega,by have h:=oq;rw [← qgg] at h;rw [List.length_append,← hl2];exact h,Z⟩⟩,Oz⟩
  obtain rfl:l1=out:=hout.symm;refine Zr<|qae (qaQ Z Z Z Z Z Z O) Z<|qae (qa8 1 Z Z Z (hb.le e4) Z) Z<|G6 ?_;refine qcT (sz:=1) [] Mo L Z Z Z Z Z Z Z hO (hs2.row.le e4) ⟨by simp [ti9];omega,by (try simp only [List.length_nil]);omega⟩ Z ?_;intro vq Mq s6 h6 oq;obtain ⟨Avq,cvq,rfl,_,_⟩:=Own.slice oq;simp only [List.nil_append];refine G5 ?_;refine qaV Z Z Z (w64 O O)<|G2 ?_;refine qaf ⟨(2,.slice Avq (l1.length+n2) cvq,Mq,l1++l2),[],kp,Z,⟨(I4.1.t h6),by first|exact ⟨by simp only;omega,by have h:=oq;simp only [List.length_nil,Nat.zero_add,sb,List.map_nil,List.nil_append] at h ⊢;rw [← hl1];exact h,Z⟩|exact ⟨by simp only;omega,by have h:=oq;rw [← qgg] at h;rw [List.length_append,← hl2];exact h,Z⟩⟩,Oz⟩
 obtain rfl:j=2:=by omega
 obtain rfl:out=l1++l2:=hout;obtain ⟨Ao,co,rfl,_,_⟩:=Own.slice hO;refine G12 ?_;exact rX [] _ Z e4 fun _ hS2=>⟨Mo,rfl,fun s2 hs9 hp=>⟨_,_,_,rfl,Own.strs hO (fun x hx=>(List.mem_append.1 hx).elim (hs1.len x) (hs2.len x)) hp rfl⟩⟩
def qjA(b:Nat)(A1 A2:Option Addr)(n1 c1 n2 c2:Nat)(l1 l2:List Str)(hs1:Strs s A1 n1 c1 l1)(hs2:Strs s A2 n2 c2 l2)(hb:CellsAt s b 0 [.slice A1 n1 c1,.slice A2 n2 c2])(hn1:n1≤1000)(hn2:n2≤1000):AC prog D 73 [.slice (some ⟨b,0,none⟩) 2 2] L s fun v L' s'=>L=L'∧∃ A n c,v=.slice A n c∧Strs s' A n c (l1++l2):=AC.pubW (qmV D L s b A1 A2 n1 c1 n2 c2 l1 l2 hs1 hs2 hb hn1 hn2)
def qr0(h:qbr x.name=false):fnC x c=(c,7):=by rw [fnC,if_pos h]
def qrZ(h:¬ qbr x.name=false)(hs2:6 < x.params.length∨12 < x.locals.length):fnC x c=(c,2):=by rw [fnC,if_neg h,if_pos hs2]
def qxY{k:Nat}{w:Str}(h:¬ qbr x.name=false)(hs2:¬ (6 < x.params.length∨12 < x.locals.length))(hw:(x.params++x.locals)[k]?=some w)(hi:qbr w=false):fnC x c=(c,7):=by
 rw [fnC,if_neg h,if_neg hs2,if_pos];exact List.any_eq_true.2 ⟨w,List.mem_of_getElem? hw,by rw [hi];rfl⟩
def qCy(h:¬ qbr x.name=false)(hs2:¬ (6 < x.params.length∨12 < x.locals.length))(h3:∀ i w,i < (x.params++x.locals).length→(x.params++x.locals)[i]?=some w→qbr w=true):fnC x c=qdL x.body 1 c:=by
 rw [fnC,if_neg h,if_neg hs2,if_neg];rw [List.any_eq_true];rintro ⟨w,hw,hb⟩;obtain ⟨i,hi⟩:=List.getElem?_of_mem hw;rw [h3 i w (List.getElem?_eq_some_iff.1 hi).1 hi] at hb;cases hb
def qrC(hG:GP s)(bc c d:Nat)(x:Fnc)(A1 A2 A3:Option Addr)(n1 q1 n2 q2 n3 q3:Nat)(hs1:Strs s A1 n1 q1 x.params)(hs2:Strs s A2 n2 q2 x.locals)(hs3:Stms d s A3 n3 q3 x.body)(hc:c≤2000):AC prog D 69 [.pointer (some ⟨bc,0,none⟩),.agg #[St x.name,.slice A1 n1 q1,.slice A2 n2 q2,.slice A3 n3 q3]] ((bc,cb [.int .i64 (c:Int)] 169)::L) s fun v L' _=>v=.int .i64 (fnC x c).2∧L'=(bc,cb [.int .i64 ((fnC x c).1:Int)] 169)::L:=by
 have hl1:=hs1.1;have hl2:=hs2.1;refine qad (fn:=f69) qao func69 V Z ntmps69 Z (rs:=[.tmp 4]) Z [(0,_),(1,_)] Z<|Sr<|qar Z Z fun β1 s1 h1=>G9 ?_;refine Je Z Z Z (qfp D _ _ (hG.le h1) x.name) fun s2 h2=>G4 ?_;have e2:=h1.t h2;refine qc8 Z ?_ ?_<;>intro c3;·have hnm:=c3;refine G8 ?_;refine rR [_] _ (.t1 Z) Z e2 fun _ hS2=>?_;rw [qr0 (by simpa using hnm)];exact ⟨rfl,rfl⟩
 have hnm:=c3;refine qbA 12 (6 < n1∨12 < n2) ?_ ?_
 ·refine G6 ?_;refine qap (t:=17) Z ?_ ?_<;>intro c5;·refine G7 ?_;exact qqV
  refine G11 ?_;refine qaf (MidB.mk (Lr D) Sb Z (decide_eq_decide.2 O))
 intro s4 h4;have e4:=e2.t h4;refine qaa Z ?_ ?_<;>intro c6;·have hmany:=c6;refine G8 ?_;refine rR [_] _ (.t1 Z) Z e4 fun _ hS2=>?_;rw [qrZ (by simpa using hnm) O];exact ⟨rfl,rfl⟩
 have hmany:=c6;refine G10 ?_;refine qbd [(_,_),(_,_)] [_,_] Z Z Z Z Z Z Z Z Z fun βp s7 h7 hcp=>Jc Z Z Z (qjA D _ _ _ A1 A2 n1 q1 n2 q2 x.params x.locals (hs1.le (e4.t h7)) (hs2.le (e4.t h7)) (hcp.le (Lr D)) O O) ?_;have e7:=e4.t h7;rintro _ _ s8 h8 ⟨rfl,Aq,nq,cq,rfl,hQ⟩;have e8:=e7.t h8;have hnq:=hQ.1;have hnq2:=hQ.2.1;have hnq3:=hQ.2.2.1;refine G5 ?_;refine qaH (γ:=Nat) (fun k=>[(0,_),(3,_),(4,_),(28,_),(29,_),(30,.int .i64 (k:Int))]) (fun k=>_::(bc,cb [.int .i64 (c:Int)] 169)::L) (fun k tw=>Le D s8 tw∧(k≤nq∧∀ i w,i < k→(x.params++x.locals)[i]?=some w→qbr w=true)) (fun k=>nq - k) (fun _ _ _ h hl=>⟨h.1.trans hl,h.2⟩) 0 (.c6 Z Z Z Z Z Z (.nil _)) Z ⟨Le.refl _,⟨Nat.zero_le _,fun i w hi=>by omega⟩⟩ ?_;intro k s9 I9;have e9:=e8.t I9.1;have hk0:=I9.2.1;have hI:=I9.2.2;refine J6 ?_ ?_<;>intro c10
 ·have hk:k < nq:=by omega
  obtain ⟨b,off,w,rfl,hw,hcw,_⟩:=Strs.at_ (hQ.le I9.1) hk;refine G6 ?_;refine qae (qaQ Z Z Z Z Z Z hk) Z<|qae (qak Z Z Z (hcw.le (Lr D)) Z) Z<|G6 ?_;refine Je Z Z Z (qfp D _ _ (hG.le e9) w) fun s11 h11=>G3 ?_;refine qc8 Z ?_ ?_<;>intro c12;·have hid:=c12;refine G11 ?_;refine rR [_] _ (.t1 Z) Z (e9.t h11) fun _ hS2=>?_;rw [qxY (by simpa using hnm) O hw (by simpa using hid)];exact ⟨rfl,rfl⟩
  have hid:=c12;refine G4 ?_;refine qaV Z Z Z (w64 O O)<|G2 ?_;refine qaf ⟨(k+1),[],kp,Z,⟨(I9.1.t h11),⟨by omega,qcw hI hw (by simpa using hid)⟩⟩,O⟩
 refine G10 ?_;refine Jc Z Z Z ((csc D d).swap L _ (hG.le e9) _ bc c 1 A3 n3 q3 x.body (hs3.le e9) hc O) ?_;rintro _ _ s11 h11 ⟨rfl,rfl⟩;refine G4 ?_;refine rR [_] _ (.t1 Z) Z (e9.t h11) fun _ hS2=>?_;rw [qCy (by simpa using hnm) O (fun i w hi h=>hI i w O h)];exact ⟨rfl,rfl⟩
def qgU:∀ (ws:List (List UInt8)),Lib.join ws [44,32]=qbJ ws
 | []=>rfl
 | [x]=>by simp [Lib.join,qbJ,List.intercalate]
 | x::y::r=>by
  have:=qgU (y::r);simp only [Lib.join,List.intercalate,List.intersperse_cons_cons,List.flatten_cons] at this ⊢;rw [qbJ,← this];simp
def qbW{α β:Type}(f:α→β){l:List α}{k:Nat}{x:α}(h:l[k]?=some x):(l.take (k+1)).map f=(l.take k).map f++[f x]:=by
 obtain ⟨hk,rfl⟩:=List.getElem?_eq_some_iff.1 h;rw [List.take_succ_eq_append_getElem hk,List.map_append];rfl
def qgy(A:Option Addr)(n c:Nat)(ws:List (List UInt8))(hS:Strs s A n c ws)(hlen:qky ws≤1000000000):AC prog D 60 [.slice A n c,St [44,32]] L s fun v L' _=>v=St (qbJ ws)∧L=L':=by
 have h1:=qb6 ws;have h2:ws.length≤qky ws:=by
  clear hS hlen h1;induction ws with
  | nil=>exact Nat.zero_le _
  | cons x r ih=>rw [qcp,List.length_cons];omega
 have:=ql8 D L s A n c ws hS [44,32] (by rw [qgU];omega) O
 rwa [qgU] at this
def Ez96{p:Prop} (h:p:=by
 have h1:=qc1 (h x Mc);have h2:=ih fun y hy=>h y (List.mem_cons_of_mem _ hy);rw [List.map_cons,qcp,List.length_cons];omega):p:=h
def qmC(l:List Int)(h:∀ x∈l,U32 x):qky (l.map qd9)≤12 * l.length:=by
 induction l with
 | nil=>exact Nat.le_refl _
 | cons x r ih=>
  exact Ez96
def qxI{l:List Int}(h:∀ x∈l,U32 x):∀ x∈l.map qd9,x.length≤9223372036854775807:=fun x hx=>by
 obtain ⟨y,hy,rfl⟩:=List.mem_map.1 hx;have:=qc1 (h y hy);omega
def qAP{p:Prop} (h:p:=by
 rintro _ _ s4 h4 ⟨rfl,rfl⟩;refine G4 ?_;exact rX [] L Z (I1.1.t h3|>.t h4) fun _ hS2=>Cz0):p:=h
def qnh(hG:GP s)(A:Option Addr)(n c:Nat)(l:List Int)(hW:Wds s A n c l)(hn:n≤1000):AC prog D 113 [.slice A n c] L s fun v L' _=>v=St (qbJ (l.map qd9))∧L=L':=by
 have hl:=hW.1;have hu:=hW.u32;have htw:=qmC l hu;refine qad (fn:=f113) qao func113 V Z ntmps113 Z (rs:=[.tmp 2]) Z [(0,_)] Z<|G19 ?_;refine qaH (γ:=Nat×Value×Hl) (fun g=>[(2,_),(3,g.2.1),(6,_),(7,_),(8,.int .i64 (g.1:Int))]) (fun g=>g.2.2++L) (fun g tw=>Le D s tw∧(g.1≤n∧FL.Own 9 1 g.2.2 g.2.1 g.1 (sb ((l.take g.1).map qd9)))) (fun g=>n - g.1) (fun _ _ _ h hl=>⟨h.1.trans hl,h.2⟩) (0,.slice none 0 0,[]) (.c5 Z Z Z Z Z (.nil _)) Z ⟨Le.refl _,⟨Nat.zero_le _,Own.nil⟩⟩ ?_;intro g s1 I1;obtain ⟨k,vo,Mo⟩:=g;obtain ⟨hk0,hO⟩:=I1.2;simp only at hk0 hO;dsimp only;refine J6 ?_ ?_<;>intro c2
 ·have hk:k < n:=by omega
  obtain ⟨b,off,x,rfl,hx,hcx,hux⟩:=Wds.at_ (hW.le I1.1) hk;refine G6 ?_;refine qae (qaQ Z Z Z Z Z Z hk) Z<|qae (qak Z Z Z (hcx.le (Lr D)) Z) Z<|G6 ?_;refine Je Z Z Z (qej D _ _ (hG.le I1.1) x hux) fun s3 h3=>qbd [(_,_)] [_] Z Z Z Z Z Z Z Z Z fun βn s4 h4 hcb=>qcT (sz:=1) [] Mo L Z Z Z Z Z Z Z hO (Row.of_cells (hcb.le (Lr D)) Z Z) ⟨by simp [ti9];omega,by omega⟩ Z ?_;intro vq Mq s5 h5 oq;obtain ⟨Avq,cvq,rfl,_,_⟩:=Own.slice oq;simp only [cQ9,nQ9];refine G5 ?_;refine qaV Z Z Z (w64 O O)<|G2 ?_;refine qaf ⟨(k+1,.slice Avq (k+1) cvq,Mq),[],kp,Z,⟨(I1.1.t h3|>.t h4|>.t h5),⟨by simp only;omega,by rw [qbW qd9 hx,qgg];exact oq⟩⟩,Oz⟩
 obtain rfl:k=n:=by omega
 rw [List.take_of_length_le O] at hO;obtain ⟨Ao,co,rfl,_,_⟩:=Own.slice hO;refine G6 ?_;refine qcM [] Mo _ ?_;intro s3 h3 hpub3;simp only [cQ9,nQ9];have hSt:=Own.strs hO (qxI hu) hpub3 (by rw [List.length_map];omega);refine Zr<|Zqm Z Z<|Jc Z Z Z (qgy D _ _ Ao k co (l.map qd9) (hSt.le (Lr D)) O) ?_;exact qAP
def EXT(D d:Nat):Prop:=∀ (L:Hl) (s:World),GP s→∀ (x:Ex) (A:Option Addr) (n c:Nat),Exs d s A n c x.args→U32 x.num→exV x=true→exN x≤2000→AC prog D 195 [.agg #[.int .i64 x.kind,.int .i64 x.op,.int .u32 x.num,St x.name,.slice A n c]] L s fun v L' _=>v=St (exT x 0)∧L=L'
def qrO{l:List Ex}(hv:qeG l=true)(hu:qfQ l=true)(hN:qcs l≤2000):∀ x∈l.map (fun x=>exT x 0),x.length≤9223372036854775807:=fun x hx=>by
 have h1:=qfk l [] hv hu;rw [qlV] at h1;have h2:∀ (l:List Str),x∈l→x.length≤qky l:=fun l=>by
  induction l with
  | nil=>intro h;cases h
  | cons y r ih=>
   intro h;rw [qcp];rcases List.mem_cons.1 h with rfl|h
   · omega
   · have:=ih h;omega
 have:=h2 _ hx;omega
def qhY(D d:Nat)(ih:∀ e,d=e+1→EXT D e)(L:Hl)(s:World)(hG:GP s)(A:Option Addr)(n c:Nat)(l:List Ex)(hA:Exs d s A n c l)(hv:qeG l=true)(hN:qcs l≤2000)(hn:n≤1000):AC prog D 197 [.slice A n c] L s fun v L' _=>v=St (qbJ (qgk l []))∧L=L':=by
 have hl:=hA.1;have hu:=hA.u;have htw:=qfk l [] hv hu;rw [qlV] at htw ⊢;refine qad (fn:=f197) qao func197 V Z ntmps197 Z (rs:=[.tmp 2]) Z [(0,_)] Z<|G19 ?_;refine qaH (γ:=Nat×Value×Hl) (fun g=>[(2,_),(3,g.2.1),(6,_),(7,_),(8,.int .i64 (g.1:Int))]) (fun g=>g.2.2++L) (fun g tw=>Le D s tw∧(g.1≤n∧FL.Own 9 1 g.2.2 g.2.1 g.1 (sb ((l.take g.1).map fun x=>exT x 0)))) (fun g=>n - g.1) (fun _ _ _ h hl=>⟨h.1.trans hl,h.2⟩) (0,.slice none 0 0,[]) (.c5 Z Z Z Z Z (.nil _)) Z ⟨Le.refl _,⟨Nat.zero_le _,Own.nil⟩⟩ ?_;intro g s1 I1;obtain ⟨k,vo,Mo⟩:=g;obtain ⟨hk0,hO⟩:=I1.2;simp only at hk0 hO;dsimp only;refine J6 ?_ ?_<;>intro c2
 ·have hk:k < n:=by omega
  obtain ⟨e,b,off,x,A',n',c',hd,rfl,hx,hcx,hax,hux,hnl⟩:=Exs.at_ (hA.le I1.1) hk;obtain ⟨hvx,hNx⟩:=qcX hv hx;refine G6 ?_;refine qae (qaw Z Z Z Z Z Z hk) Z<|qae (qat Z Z Z (hcx.le (Lr D)) Z) Z<|qac Z [_,_,_,_,_] Z Z fun β3 s3 h3=>Wt 0 [_,_,_,_,_] Y9<|G4 ?_;refine qae (qaj 0 [_,_,_,_,_] Z Z Z Z Z) Z<|Jc Z Z Z (ih e hd _ _ (hG.le (I1.1.t h3)) x A' n' c' (hax.le h3) hux hvx O) ?_;rintro _ _ s4 h4 ⟨rfl,rfl⟩;refine qbd [(_,_)] [_] Z Z Z Z Z Z Z Z Z fun βn s5 h5 hcb=>qcT (sz:=1) [_] Mo L Z Z Z Z Z Z Z hO (Row.of_cells (hcb.le (Lr D)) Z Z) ⟨by simp [ti9];omega,by omega⟩ Z ?_;intro vq Mq s6 h6 oq;obtain ⟨Avq,cvq,rfl,_,_⟩:=Own.slice oq;simp only [cQ9,nQ9];refine G5 ?_;refine qaV Z Z Z (w64 O O)<|G2 ?_;refine qaf ⟨(k+1,.slice Avq (k+1) cvq,Mq),[_],kp,Z,⟨(I1.1.t h3|>.t h4|>.t h5|>.t h6),⟨by simp only;omega,by rw [qbW (fun x=>exT x 0) hx,qgg];exact oq⟩⟩,Oz⟩
 obtain rfl:k=n:=by omega
 rw [List.take_of_length_le O] at hO;obtain ⟨Ao,co,rfl,_,_⟩:=Own.slice hO;refine G6 ?_;refine qcM [] Mo _ ?_;intro s3 h3 hpub3;simp only [cQ9,nQ9];have hSt:=Own.strs hO (qrO hv hu hN) hpub3 (by rw [List.length_map];omega);refine Zr<|Zqm Z Z<|Jc Z Z Z (qgy D _ _ Ao k co (l.map fun x=>exT x 0) (hSt.le (Lr D)) O) ?_;exact qAP
def qkZ(D d:Nat)(hE:EXT D d)(L:Hl)(s:World)(hG:GP s)(x:Ex)(A:Option Addr)(n c:Nat)(hA:Exs d s A n c x.args)(hu:U32 x.num)(hv:exV x=true)(hN:exN x≤2000)(b:Bool):AC prog D 223 [.agg #[.int .i64 x.kind,.int .i64 x.op,.int .u32 x.num,St x.name,.slice A n c],.bool b] L s fun v L' _=>v=St (if x.kind=7∧b=true then [40]++exT x 0++[41] else exT x 0)∧L=L':=by
 have hxl:=qk2 x 0 hv (qvu hu hA.u);refine qad (fn:=f223) qao func223 V Z ntmps223 Z (rs:=[.tmp 4]) Z [(0,_),(1,_)] Z<|Sr<|qar Z Z fun β1 s1 h1=>G10 ?_;refine qap (t:=8) Z ?_ ?_<;>intro c2
 ·refine G5 ?_;refine qd1 Z ?_ ?_<;>intro c3;·refine Sr<|qae (qaj 0 [_,_,_,_,_] Z Z Z Z Z) Z<|Jc Z Z Z (hE _ _ (hG.le h1) x A n c (hA.le h1) hu hv hN) ?_;rintro _ _ s4 h4 ⟨rfl,rfl⟩;refine qae (qav Z Z Uo) Z<|qae (qav Z Z Uo) Z<|G5 ?_;refine rR [_] L (.t1 Z) Z (h1.t h4) fun _ hS2=>?_;rw [if_pos ⟨by assumption,by assumption⟩];exact ⟨rfl,rfl⟩
  refine Zk<|Zt<|Sr<|qae (qaj 0 [_,_,_,_,_] Z Z Z Z Z) Z<|Jc Z Z Z (hE _ _ (hG.le h1) x A n c (hA.le h1) hu hv hN) ?_;rintro _ _ s4 h4 ⟨rfl,rfl⟩;refine G4 ?_;refine rR [_] L (.t1 Z) Z (h1.t h4) fun _ hS2=>?_;rw [if_neg (fun k=>by have h9:=k.2;simp_all)];exact ⟨rfl,rfl⟩
 refine G9 ?_;refine qae (qaj 0 [_,_,_,_,_] Z Z Z Z Z) Z<|Jc Z Z Z (hE _ _ (hG.le h1) x A n c (hA.le h1) hu hv hN) ?_;rintro _ _ s3 h3 ⟨rfl,rfl⟩;refine G4 ?_;refine rR [_] L (.t1 Z) Z (h1.t h3) fun _ hS2=>?_;rw [if_neg (fun k=>absurd k.1 As)];exact ⟨rfl,rfl⟩
def qea(D d:Nat)(hE:EXT D d)(L:Hl)(s:World)(hG:GP s)(x:Ex)(A:Option Addr)(n c:Nat)(hA:Exs d s A n c x.args)(hu:U32 x.num)(hv:exV x=true)(hN:exN x≤2000)(out:Int)(b:Bool)(hb:b=decide (qja x.op < out)):AC prog D 223 [.agg #[.int .i64 x.kind,.int .i64 x.op,.int .u32 x.num,St x.name,.slice A n c],.bool b] L s fun v L' _=>v=St (exT x out)∧L=L':=by
 have h:=qkZ D d hE L s hG x A n c hA hu hv hN b;have hk:=qcC (qdW hv).1;have e:(if x.kind=7∧b=true then [40]++exT x 0++[41] else exT x 0)=exT x out:=by
  rw [qxO hk.1 hk.2.1 out,hb];simp only [decide_eq_true_eq]
 rwa [e] at h
def qvg{x:Ex}(hv:exV x=true)(h:x.kind=3∨x.kind=6):x.args.length=1:=by
 have ha:=qcC (qdW hv).1;have h1:=ha.2.2.1;have h2:=ha.2.2.2.1;rcases h with h|h<;>(rw [h] at h1 h2;simp [qdx,qfU] at h1 h2;omega)
def qBS{x:Ex}(hv:exV x=true)(h:x.kind=4):x.args.length≤6:=by
 have ha:=qcC (qdW hv).1;have h2:=ha.2.2.2.1;rw [h] at h2;simp [qfU] at h2;omega
def qBR{x:Ex}(hv:exV x=true)(h:x.kind=7):x.args.length=2:=by
 have ha:=qcC (qdW hv).1;have h1:=ha.2.2.1;have h2:=ha.2.2.2.1;rw [h] at h1 h2;simp [qdx,qfU] at h1 h2;omega
def qAs{p:Prop} (h:p:=by
 exact ⟨by rw [hT];rfl,rfl⟩):p:=h
def Ez4{p:Prop} (h:p:=by
 rintro _ _ s13 h13 ⟨rfl,rfl⟩;have e13:=h1.t h8|>.t h9|>.t h10|>.t h11|>.t h12|>.t h13;refine ⟨fun _ _ h=>h,?_⟩;refine za 5 Z (qwD Z Z) Z<|qaq 6 V<|Jf Z Tt Z Z Z (qea D e (ih e Z) _ _ (hG.le e13) y _ _ _ (hay.le (h8.t h9|>.t h10|>.t h11|>.t h12|>.t h13)) huy hvy O (qja x.op) _ (Z)) fun s14 h14=>za 7 Z (qav Z Z Uo) Z<|qaq 10 V<|Jf Z Tt Z Z Z (qqa D _ _ (hG.le (e13.t h14)) x.op O) fun s15 h15=>za 11 Z (qav Z Z Uo) Z<|za 12 Z (qav Z Z Uo) Z<|qaq 16 V<|Jf Z Tt Z Z Z (qdV D _ _ z.op) fun s16 h16=>za 18 Z (qmM Z Z) Z<|qaq 19 V<|Jf Z Tt Z Z Z (qea D e (ih e Z) _ _ (hG.le (e13.t h14|>.t h15|>.t h16)) z _ _ _ (haz.le (h8.t h9|>.t h10|>.t h11|>.t h12|>.t h13|>.t h14|>.t h15|>.t h16)) huz hvz O (qja x.op+1) _ (by simp only [decide_eq_decide];omega)) fun s17 h17=>za 20 Z (qav Z Z Uo) Z<|H1 ?_;refine qah V<|G2 ?_;exact rX [_,_,_] L Z (e13.t h14|>.t h15|>.t h16|>.t h17) fun _ hS2=>qAs):p:=h
def qjP(D d:Nat)(ih:∀ e,d=e+1→EXT D e)(L:Hl)(s:World)(hG:GP s)(x:Ex)(A:Option Addr)(n c:Nat)(hA:Exs d s A n c x.args)(hu:U32 x.num)(hv:exV x=true)(hN:exN x≤2000):AC prog D 195 [.agg #[.int .i64 x.kind,.int .i64 x.op,.int .u32 x.num,St x.name,.slice A n c]] L s fun v L' _=>v=St (exT x 0)∧L=L':=by
 have hxl:=qk2 x 0 hv (qvu hu hA.u);have hC:=qdW hv;have hka:=qcC hC.1;have hl:=hA.1;have hNx:=qCr x;refine qad (fn:=f195) qao func195 V Z ntmps195 Z (rs:=[.tmp 2]) Z [(0,_)] Z<|Sr<|qar Z Z fun β1 s1 h1=>J17 ?_ ?_<;>intro c2;·have hT:=qE8 c2;refine G4 ?_;refine Je Z Z Z (qej D _ _ (hG.le h1) _ hu) fun s3 h3=>G6 ?_;exact rX [_] L Z (h1.t h3) fun _ hS2=>qAs
 refine J6 ?_ ?_<;>intro c3;·have hT:=qE9 c3;refine G10 ?_;exact rX [_] L Z h1 fun _ hS2=>qAs
 refine J6 ?_ ?_<;>intro c4;·have hl1:=qvg hv (.inl c4);obtain ⟨e,b,off,y,A1,n1,c1,rfl,rfl,hy,hcy,hay,huy,hnl⟩:=Exs.at_ (hA.le h1) (show 0 < n by omega);obtain ⟨hvy,hNy⟩:=qcX hC.2 hy;have hT:=qFa c4 hl1 hy;rw [hT] at hxl;simp only [List.length_append,List.length_cons,List.length_nil] at hxl;refine Zs<|qaL qab 11 Z _ (fun _ h=>h) fun s5 h5=>H2 ?_;refine za 2 Z (qav Z Z Uo) Z<|H2 ?_;refine za 5 Z (qaw (j:=0) Z Z Z Z Z Z O) Z<|za 6 Z (qat Z Z Z (hcy.le h5) Z) Z<|qaq 7 V<|Jb Z Tt Z Z Z (ih e Z _ _ (hG.le (h1.t h5)) y A1 n1 c1 (hay.le h5) huy hvy O) ?_;rintro _ _ s6 h6 ⟨rfl,rfl⟩;refine ⟨fun _ _ h=>h,?_⟩;refine za 8 Z (qav Z Z Uo) Z<|za 9 Z (qav Z Z Uo) Z<|H1 ?_;refine qah V<|G4 ?_;exact rX [_] L Z (h1.t h5|>.t h6) fun _ hS2=>qAs
 refine J6 ?_ ?_<;>intro c5;·have hl4:=qBS hv c5;have hT:=qFb c5;rw [hT] at hxl;simp only [List.length_append,List.length_cons,List.length_nil] at hxl;refine Zs<|qaL qab 9 Z _ (fun _ h=>h) fun s6 h6=>H2 ?_;refine za 2 Z (qav Z Z Uo) Z<|H2 ?_;refine qaq 5 V<|Jf Z Tt Z Z Z (qhY D d ih _ _ (hG.le (h1.t h6)) A n c x.args (hA.le (h1.t h6)) hC.2 O O) fun s7 h7=>za 6 Z (qav Z Z Uo) Z<|za 7 Z (qav Z Z Uo) Z<|H1 ?_;refine qah V<|G4 ?_;exact rX [_] L Z (h1.t h6|>.t h7) fun _ hS2=>qAs
 refine J6 ?_ ?_<;>intro c6;·refine G8 ?_;exact rX [_] L Z h1 fun _ hS2=>⟨by rw [qFc As];rfl,rfl⟩
 refine J6 ?_ ?_<;>intro c7;·have hl1:=qvg hv (.inr c7);have hop:=hka.2.2.2.2.1 c7;obtain ⟨e,b,off,y,A1,n1,c1,rfl,rfl,hy,hcy,hay,huy,hnl⟩:=Exs.at_ (hA.le h1) (show 0 < n by omega);obtain ⟨hvy,hNy⟩:=qcX hC.2 hy;have hT:=qFd c7 hl1 hy;rw [hT] at hxl;simp only [List.length_append,List.length_cons,List.length_nil] at hxl;refine Zs<|qaL qab 10 Z _ (fun _ h=>h) fun s8 h8=>H4 ?_;refine za 5 Z (qaw (j:=0) Z Z Z Z Z Z O) Z<|za 6 Z (qat Z Z Z (hcy.le h8) Z) Z<|qaq 2 V<|Jf Z Tt Z Z Z (qqa D _ _ (hG.le (h1.t h8)) x.op O) fun s9 h9=>qaq 7 V<|Jf Z Tt Z Z Z (qea D e (ih e Z) _ _ (hG.le (h1.t h8|>.t h9)) y _ _ _ (hay.le (h8.t h9)) huy hvy O 9 _ (by have:=qln y.op;exact (decide_eq_true O).symm)) fun s10 h10=>za 8 Z (qav Z Z O) Z<|H1 ?_;refine qah V<|G4 ?_;exact rX [_] L Z (h1.t h8|>.t h9|>.t h10) fun _ hS2=>qAs
 have h7:x.kind=7:=by omega
 have hl2:=qBR hv h7;have hop:=hka.2.2.2.2.2 h7;obtain ⟨e,b,off,y,A1,n1,c1,rfl,rfl,hy,hcy,hay,huy,hnl⟩:=Exs.at_ (hA.le h1) (show 0 < n by omega);obtain ⟨hvy,hNy⟩:=qcX hC.2 hy;obtain ⟨e',b',off',z,A2,n2,c2,hd2,hab,hz,hcz,haz,huz,hnz⟩:=Exs.at_ (hA.le h1) (show 1 < n by omega);cases hab;obtain rfl:e=e':=by omega
 obtain ⟨hvz,hNz⟩:=qcX hC.2 hz;have hT:=qFe h7 hl2 hy hz;rw [hT] at hxl;simp only [List.length_append,List.length_cons,List.length_nil] at hxl;refine G7 ?_;refine Je Z Z Z (qdV D _ _ x.op) fun s8 h8=>At Z Z<|Zs<|qaL qab 12 Z _ (fun _ h=>h) fun s9 h9=>H2 ?_;refine za 2 Z (qaw (j:=0) Z Z Z Z Z Z O) Z<|za 3 Z (qat Z Z Z (hcy.le (h8.t h9)) Z) Z<|H2 ?_;refine za 6 Z (qaw (j:=1) Z Z Z Z Z Z O) Z<|za 7 Z (qat Z Z Z (hcz.le (h8.t h9)) Z) Z ?_;refine qdB 8 9 V ?_ ?_;·refine qaK Z Tt Z [_,_,_,_,_] Z Z fun β10 s10 h10=>qaq 9 V<|qaK Z Tt Z [_,_,_,_,_] Z Z fun β11 s11 h11=>qaq 10 V<|Wu Z Tt 1 [_,_,_,_,_] Y9 (sM (sbN (sbY (sbE _))))<|qaq 11 V<|Wu Z Tt 0 [_,_,_,_,_] Y9 (sM (sbN (sbY (sbE _))))<|qah V<|Zt<|Zs<|qaL qab 22 Z _ (fun _ h=>h) fun s12 h12=>za 0 Z (qaj 1 [_,_,_,_,_] Z Z Z Z Z) Z<|H4 ?_;refine za 9 Z (Wd 2 Y5) Z<|za 13 Z (qaj 0 [_,_,_,_,_] Z Z Z Z Z) Z<|H3 ?_;refine qaq 3 V<|Jb Z Tt Z Z Z (qdV D _ _ y.op) ?_;exact Ez4
 refine qaK Z Tt Z [_,_,_,_,_] Z Z fun β10 s10 h10=>qaq 8 V<|qaK Z Tt Z [_,_,_,_,_] Z Z fun β11 s11 h11=>qaq 10 V<|Wu Z Tt 0 [_,_,_,_,_] Y9 (sM (sbN (sbY (sbE _))))<|qaq 11 V<|Wu Z Tt 1 [_,_,_,_,_] Y9 (sM (sbN (sbY (sbE _))))<|qah V<|Zt<|Zs<|qaL qab 22 Z _ (fun _ h=>h) fun s12 h12=>za 0 Z (qaj 0 [_,_,_,_,_] Z Z Z Z Z) Z<|H4 ?_;refine za 9 Z (Wd 2 Y5) Z<|za 13 Z (qaj 1 [_,_,_,_,_] Z Z Z Z Z) Z<|H3 ?_;refine qaq 3 V<|Jb Z Tt Z Z Z (qdV D _ _ y.op) ?_;exact Ez4
def qcD(D:Nat):∀ d,EXT D d
 | 0=>fun L s hG x A n c hA hu hv hN=>qjP D 0 (fun e h=>by omega) L s hG x A n c hA hu hv hN
 | d+1=>fun L s hG x A n c hA hu hv hN=>qjP D (d+1) (fun e h=>(show d=e by omega)▸qcD D d) L s hG x A n c hA hu hv hN
def qrQ(D d:Nat)(L:Hl)(s:World)(hG:GP s)(A:Option Addr)(n c:Nat)(l:List Ex)(hA:Exs d s A n c l)(hv:qeG l=true)(hN:qcs l≤2000)(hn:n≤1000):AC prog D 197 [.slice A n c] L s fun v L' _=>v=St (qbJ (qgk l []))∧L=L':=qhY D d (fun e _=>qcD D e) L s hG A n c l hA hv hN hn
end Go.Proofs.YtlfiplbamnpgoaaGreatDoor
namespace Go.Proofs.YtlfiplbamnpgoaaGreatDoor
open Go Go.FL Go.RowKit
variable(D:Nat)(L:Hl)(s:World){l:List UInt8}{lv T:Nat}{R:List Value}
def BV(M:Hl)(v:Value)(l:List UInt8):Prop:=FL.Own 5 1 M v l.length (bv l)∧(l=[]→M=[]∧v=.slice none 0 0)
def BV.nil:BV [] (.slice none 0 0) []:=⟨Own.nil,fun _=>⟨rfl,rfl⟩⟩
def qsF{e:Nat}{M:Hl}{n:Nat}{xs:List Value}(h:FL.Own e 1 M (.slice none 0 0) n xs):M=[]:=by cases h;rfl
def BV.app{M M1:Hl}{v v1:Value}{l2:List UInt8}(h:BV M v l)(o:FL.Own 5 1 M1 v1 (l.length+l2.length) (bv l++bv l2))(hn:v=.slice none 0 0→l2.length=0→v1=.slice none 0 0):BV M1 v1 (l++l2):=by
 have hb:bv (l++l2)=bv l++bv l2:=by simp [bv]
 refine ⟨by rw [hb,List.length_append];exact o,fun h0=>?_⟩;obtain ⟨h1,h2⟩:=List.append_eq_nil_iff.1 h0;have hv:=hn (h.2 h1).2 (by rw [h2];rfl);subst hv;exact ⟨qsF o,rfl⟩
def BV.cap{M:Hl}{A:Option Addr}{n c:Nat}(h:BV M (.slice A n c) l):A=none∨c≠0:=by
  by_cases h0:l=[]
  · have:=(h.2 h0).2;injection this with e;exact .inl e
  · right
    obtain ⟨_,c',e,h2,_⟩:=Own.slice h.1;injection e with e1 e2 e3
    have:l.length≠0:=by simpa using h0
    omega
open Go Go.FL
theorem qeB{a b:Str}(h:∃ T,b=T++[10]):∃ T,a++b=T++[10]:=by grind
def qmw(k:Int)(nm:Str)(es:List Str):∃ T,qmv k nm es=T++[10]:=by
 unfold qmv;repeat' split
 all_goals first
  | exact qeB ⟨[59],rfl⟩
  | exact qeB ⟨[41,59],rfl⟩
def qqk:∀ (x:Stm) (lv:Nat),∃ T,stT x lv=T++[10]
  | .mk k nm es b [],lv=>by
    simp only [stT];by_cases h:k=3∨k=4
    · rw [if_pos h];refine qeB ?_;rw [if_pos (by rfl)];exact ⟨[],rfl⟩
    · rw [if_neg h];exact qmw ..
  | .mk k nm es b (z::r),lv=>by
    simp only [stT];by_cases h:k=3∨k=4
    · rw [if_pos h]
      refine qeB ?_;rw [if_neg (by simp)];by_cases hi:qyc (z::r)=true
      · rw [if_pos hi,st1];exact qeB (qqk z lv)
      · rw [if_neg hi];exact qeB ⟨[125],rfl⟩
    · rw [if_neg h];exact qmw ..
def stI(x:Stm)(lv:Nat):Str:=(stT x lv).dropLast
def qqi(x:Stm)(lv:Nat):stI x lv++[10]=stT x lv:=by
 obtain ⟨T,h⟩:=qqk x lv;rw [stI,h,List.dropLast_concat]
def qeS{x:Stm}{T:Str}(h:stT x lv=T++[10]):stI x lv=T:=by rw [stI,h,List.dropLast_concat]
def otI(e:List Stm)(lv:Nat):Str:=if e.isEmpty=true then [] else if qyc e=true then [32,101,108,115,101,32]++(st1 e lv).dropLast else [32,101,108,115,101,32,123,10]++qhK e (lv+1)++qa4 lv++[125]
def qFx(e:List Stm)(lv:Nat):(if e.isEmpty=true then [10] else if qyc e=true then [32,101,108,115,101,32]++st1 e lv else [32,101,108,115,101,32,123,10]++qhK e (lv+1)++qa4 lv++[125,10])=otI e lv++[10]:=by
  unfold otI;split
  · rfl
  split
  · rename_i h1 h2
    match e,h2 with
    | [],h2=>exact absurd rfl h1
    | _::_::_,h2=>exact absurd h2 (by simp [qyc])
    | [z],h2 => 
      simp only [st1];rw [List.append_assoc];exact congrArg _ (qqi z lv).symm
  · simp
def qyz(lv:Nat):otI [] lv=[]:=rfl
def qC9{e:List Stm}{z:Stm}(lv:Nat)(h:e.length=1)(hz:e[0]?=some z)(hk:z.kind=3):otI e lv=[32,101,108,115,101,32]++stI z lv:=by
 rw [qsk h hz];cases z with
 | mk k nm es b l=>
  have hk:k=3:=hk;unfold otI;rw [if_neg (by simp),if_pos (by simp [qyc,hk])];rfl
def qsA{e:List Stm}(lv:Nat)(h0:e.length≠0)(h:¬ (e.length=1∧∀ z,e[0]?=some z→z.kind=3)):otI e lv=[32,101,108,115,101,32,123,10]++qhK e (lv+1)++qa4 lv++[125]:=by
 unfold otI;rw [if_neg (by intro g;exact h0 (by simpa using g)),if_neg];intro g;match e,g with
 | [.mk k nm es b l],g=>exact h ⟨rfl,fun z hz=>by simp at hz;subst hz;show k=3;simpa [qyc] using g⟩
def qdm{x:Stm}(h:stV x lv=true):lv≤16∧stC x.kind x.name x.exprs.length x.body.length x.els.length=0∧qeG x.exprs=true∧qdU x.body (lv+1)=true∧qdU x.els (lv+1)=true:=by
 cases x with
 | mk k nm es b e=>simp only [stV,Bool.and_eq_true,decide_eq_true_eq] at h;exact ⟨h.1.1.1.1,h.1.1.1.2,h.1.1.2,h.1.2,h.2⟩
def qif(x:Stm):stN x=1+qcs x.exprs+qbG x.body+qbG x.els:=by cases x;rfl
def qcE{k:Int}{nm:Str}{ne nb nl:Nat}(h:stC k nm ne nb nl=0):1≤k∧k≤10∧qcY k≤ne∧ne≤qfV k∧(0 < nb→k=3∨k=4)∧(0 < nl→k=3):=by
  unfold stC at h;split at h
  · cases h
  rename_i h1;split at h
  · cases h
  split at h
  · cases h
  rename_i h3;refine ⟨by omega,by omega,?_,?_,?_,?_⟩
  · exact Nat.le_of_not_lt fun hh=>h3 (.inr (.inl hh))
  · exact Nat.le_of_not_lt fun hh=>h3 (.inr (.inr (.inl hh)))
  · intro hb
    by_cases h4:k=3∨k=4
    · exact h4
    · exact absurd (.inr (.inr (.inr (.inl ⟨hb,fun e=>h4 (.inl e),fun e=>h4 (.inr e)⟩)))) h3
  · intro hb
    by_cases h4:k=3
    · exact h4
    · exact absurd (.inr (.inr (.inr (.inr ⟨hb,h4⟩)))) h3
def qhp:∀ {l:List Stm} {k lv:Nat} {y:Stm},qdU l lv=true→l[k]?=some y→stV y lv=true∧stN y≤qbG l
 | [],_,_,_,_,h=>by cases h
 | x::r,0,lv,y,hv,h=>by
  simp at h;subst h;simp only [qdU,Bool.and_eq_true] at hv;exact ⟨hv.1,by rw [qbG];omega⟩
 | x::r,k+1,lv,y,hv,h=>by
  simp only [qdU,Bool.and_eq_true] at hv;have:=qhp hv.2 (show r[k]?=some y by simpa using h);exact ⟨this.1,by rw [qbG];omega⟩
def qqm{l:List Stm}{k:Nat}{x:Stm}(h:l[k]?=some x):qhK (l.drop k) lv=qa4 lv++stT x lv++qhK (l.drop (k+1)) lv:=by
 obtain ⟨hk,rfl⟩:=List.getElem?_eq_some_iff.1 h;rw [List.drop_eq_getElem_cons hk,qhK]
section
variable{x:Stm}{y z:Ex}{lv:Nat}
def qgo(hv:stV x lv=true)(h:x.kind=1∨x.kind=3∨x.kind=4∨x.kind=6∨x.kind=7∨x.kind=8):x.exprs.length=1:=by
 have ha:=qcE (qdm hv).2.1;have h1:=ha.2.2.1;have h2:=ha.2.2.2.1;rcases h with h|h|h|h|h|h<;>(rw [h] at h1 h2;simp [qcY,qfV] at h1 h2;omega)
def qDw(hv:stV x lv=true)(h:x.kind=2):x.exprs.length=2:=by
 have ha:=qcE (qdm hv).2.1;have h1:=ha.2.2.1;have h2:=ha.2.2.2.1;rw [h] at h1 h2;simp [qcY,qfV] at h1 h2;omega
def qDx(hv:stV x lv=true)(h:x.kind=5):x.exprs.length≤6:=by
 have ha:=qcE (qdm hv).2.1;have h2:=ha.2.2.2.1;rw [h] at h2;simp [qfV] at h2;omega
def qDv(hv:stV x lv=true)(h:x.kind=9∨x.kind=10):x.exprs=[]:=by
 have ha:=qcE (qdm hv).2.1;have h2:=ha.2.2.2.1;rcases h with h|h<;>(rw [h] at h2;simp [qfV] at h2;exact h2)
def qFL(hv:stV x lv=true)(h:x.kind≠3):x.els=[]:=by
 have ha:=(qcE (qdm hv).2.1).2.2.2.2.2;cases he:x.els with
 | nil=>rfl
 | cons a r=>rw [he] at ha;exact absurd (ha (by simp)) h
def qkt(h:¬ (x.kind=3∨x.kind=4)):stT x lv=qmv x.kind x.name (qgk x.exprs []):=by
 cases x with
 | mk k nm es b e=>
  have h:¬ (k=3∨k=4):=h;simp only [stT];rw [if_neg h];rfl
def qhW{l:List Ex}(h:l.length=1)(hy:l[0]?=some y):qgk l []=[exT y 0]:=by rw [qsk h hy];rfl
def qCs{l:List Ex}(h:l.length=2)(hy:l[0]?=some y)(hz:l[1]?=some z):qgk l []=[exT y 0,exT z 0]:=by rw [qCT h hy hz];rfl
def qFQ(h:x.kind=1)(hl:x.exprs.length=1)(hy:x.exprs[0]?=some y):stI x lv=x.name++[32,61,32]++exT y 0++[59]:=qeS (by
 rw [qkt O,h,qhW hl hy];simp [qmv])
def qFR(h:x.kind=2)(hl:x.exprs.length=2)(hy:x.exprs[0]?=some y)(hz:x.exprs[1]?=some z):stI x lv=x.name++[91]++exT y 0++[93,32,61,32]++exT z 0++[59]:=qeS (by
 rw [qkt O,h,qCs hl hy hz];simp [qmv])
def qFU(h:x.kind=5):stI x lv=x.name++[40]++qbJ (qgk x.exprs [])++[41,59]:=qeS (by
 rw [qkt O,h];simp [qmv])
def qFV(h:x.kind=6)(hl:x.exprs.length=1)(hy:x.exprs[0]?=some y):stI x lv=[114,101,116,117,114,110,32]++exT y 0++[59]:=qeS (by
 rw [qkt O,h,qhW hl hy];simp [qmv,qbJ])
def qFW(h:x.kind=7)(hl:x.exprs.length=1)(hy:x.exprs[0]?=some y):stI x lv=[112,117,116,32]++exT y 0++[59]:=qeS (by
 rw [qkt O,h,qhW hl hy];simp [qmv,qbJ])
def qFX(h:x.kind=8)(hl:x.exprs.length=1)(hy:x.exprs[0]?=some y):stI x lv=[115,116,111,112,32]++exT y 0++[59]:=qeS (by
 rw [qkt O,h,qhW hl hy];simp [qmv,qbJ])
def qFY(h:x.kind=9)(hl:x.exprs=[]):stI x lv=[98,114,101,97,107,59]:=qeS (by
 rw [qkt O,h,hl];simp [qmv,qbJ,qgk])
def qDy(h:x.kind=10)(hl:x.exprs=[]):stI x lv=[99,111,110,116,105,110,117,101,59]:=qeS (by
 rw [qkt O,h,hl];simp [qmv,qbJ,qgk])
def qFS(h:x.kind=3)(hl:x.exprs.length=1)(hy:x.exprs[0]?=some y):stI x lv=[105,102,32,40]++exT y 0++[41,32,123,10]++qhK x.body (lv+1)++qa4 lv++[125]++otI x.els lv:=qeS (by
 cases x with
 | mk k nm es b e=>
  have h:k=3:=h;have hl:es.length=1:=hl;have hy:es[0]?=some y:=hy;simp only [stT];rw [if_pos (.inl h),qFx,qhW hl hy,h];simp [Stm.body,Stm.els])
def qFT(h:x.kind=4)(hl:x.exprs.length=1)(hy:x.exprs[0]?=some y)(he:x.els=[]):stI x lv=[119,104,105,108,101,32,40]++exT y 0++[41,32,123,10]++qhK x.body (lv+1)++qa4 lv++[125]:=qeS (by
 cases x with
 | mk k nm es b e=>
  have h:k=4:=h;have he:e=[]:=he;have hl:es.length=1:=hl;have hy:es[0]?=some y:=hy;simp only [stT];rw [if_pos (.inr h),qhW hl hy,h,he];simp [Stm.body])
end
open Go.Proofs.Tryz
open Go.FL
attribute [local irreducible] JC JO JA JB qaJ qax qbN AC fill CellsAt QE Ev Mid
def qie(zs:List Value)(n:Nat):qbx zs n []=zs:=by cases zs<;>rfl
def LA(R:List Value)(T:Nat):Prop:=Go.liesAt prog prog.depth T ((R.length+2) / prog.cellsOf T) 0 102 1=true
def WC(R:List Value)(T bb:Nat)(M:Hl)(l:List UInt8):Prop:=∃ p M0 v,((p=none∨p=some ⟨bb,0,none⟩)∧LA R T)∧M=(bb,cb (.pointer p::v::R) T)::M0∧BV M0 v l
def WC.mk{bb:Nat}{p:Option Addr}{M0:Hl}{v:Value}(hp:(p=none∨p=some ⟨bb,0,none⟩)∧LA R T)(h:BV M0 v l):WC R T bb ((bb,cb (.pointer p::v::R) T)::M0) l:=⟨p,M0,v,hp,rfl,h⟩
abbrev Wr(bb:Nat)(M:Hl)(l:List UInt8):Prop:=WC [] 219 bb M l
def Wr.mk{bb:Nat}{p:Option Addr}{M0:Hl}{v:Value}(hp:p=none∨p=some ⟨bb,0,none⟩)(h:BV M0 v l):Wr bb ((bb,cb [.pointer p,v] 219)::M0) l:=WC.mk ⟨hp,by unfold LA;kernel_rfl⟩ h
def qAX{p:Prop} (h:p:=by
 refine qas [] _ (.inl Z) (.nil) Z (Lr D) fun _ hS2=>?_;exact ⟨rfl,by first|rfl|simp only [qie]⟩):p:=h
def qjC(bb:Nat)(p:Option Addr)(hp:(p=none∨p=some ⟨bb,0,none⟩)∧LA R T)(v:Value):AC prog D 101 [.pointer (some ⟨bb,0,none⟩)] ((bb,cb (.pointer p::v::R) T)::L) s fun u L' _=>u=.tuple #[]∧L'=(bb,cb (.pointer (some ⟨bb,0,none⟩)::v::R) T)::L:=by
 refine qad (fn:=f101) qao func101 V Z ntmps101 Z (rs:=[]) Z [(0,_)] Z<|G6 ?_;refine qae (qBo underlying100 Z) Z<|G2 ?_;refine qd1 Z ?_ ?_<;>intro c1
 ·obtain rfl:p=none:=by simpa using c1
  refine G3 ?_;refine qae (qBu 0 underlying100 underlying237 Z Z Z Z) Z<|qae (qwH func133 V V V V Z Z) Z<|qae (qq0 0 underlying237 underlying100 Z Z Z hp.2) Z<|G2 ?_;refine qeV 0 (_::_::_) Z Z Z Z Z Z Z Z Z<|Zn ?_;exact qAX
 obtain rfl:p=some ⟨bb,0,none⟩:=hp.1.resolve_left (fun h=>by rw [h] at c1;cases c1);refine G7 ?_;refine qae (qBp underlying100 Z Z Z) Z<|G4 ?_;exact qAX
def qqL(bb:Nat)(p:Option Addr)(hp:(p=none∨p=some ⟨bb,0,none⟩)∧LA R T)(M:Hl)(v:Value)(l:List UInt8)(hb:BV M v l)(l2:List UInt8)(hlen:l.length+l2.length≤140737488355328):AC prog D 59 [.pointer (some ⟨bb,0,none⟩),St l2] ((bb,cb (.pointer p::v::R) T)::(M++L)) s fun u L' _=>u=.tuple #[.int .i64 (l2.length:Int),.nilIface]∧∃ M' v',L'=(bb,cb (.pointer (some ⟨bb,0,none⟩)::v'::R) T)::(M'++L)∧BV M' v' (l++l2):=by
 obtain ⟨Ab,cb1,rfl,kb1,kb2⟩:=Own.slice hb.1;refine qad (fn:=f59) qao func59 V Z ntmps59 Z (rs:=[.tmp 4,.tmp 5]) Z [(0,_),(1,_)] Z<|G9 ?_;refine Jc Z Z Z (qjC D _ _ bb p hp _) ?_;rintro _ _ s1 h1 ⟨rfl,rfl⟩;refine G10 ?_;refine qnK (sz:=1) (m:=l2.length) (news:=l2.map fun b=>Value.int .u8 (b.toNat:Int)) [_] M L Z Z Z Z Z Z Z hb.1 (by simp) (fun hT w i k1 i1 i2 i3 i4=>qrk l2 k1 underlying9 i1 i2 i3 i4) ⟨by simp [ti5];omega,by omega⟩ Z ?_;intro v1 M1 s2 h2 o1 n1;obtain ⟨Av1,cv1,rfl,_,_⟩:=Own.slice o1;simp only [cQ9,nQ9];refine G2 ?_;refine qeV 0 (_::_::_) Z Z Z Z Z Z Z Z Z<|G5 ?_;refine qjg Z Z Z Z<|G5 ?_;exact rR [] _ (.tmp Z (.t1 Z)) Z (h1.t h2) fun _ hS2=>⟨rfl,M1,_,by first|rfl|simp only [qie],hb.app o1 n1⟩
def qxo(bb:Nat)(p:Option Addr)(M:Hl)(v:Value)(l:List UInt8)(hb:BV M v l):AC prog D 38 [.pointer (some ⟨bb,0,none⟩)] ((bb,cb (.pointer p::v::R) T)::(M++L)) s fun u L' _=>u=St l∧L'=L:=by
 obtain ⟨Ab,cb1,rfl,kb1,kb2⟩:=Own.slice hb.1;refine qad (fn:=f38) qao func38 V Z ntmps38 Z (rs:=[.tmp 2]) Z [(0,_)] Z<|G6 ?_;refine qaB qab 12 Z 1 fun s1 h1=>H4 ?_;refine za 4 Z (qBv Z hb.cap) Z<|H5 ?_;refine qaq 10 V<|qws Z Tt [_] M L Z underlying158 V Z Z hb.1 (fun h=>(hb.2 h).1) Z (fun x hx _=>qe6 hx) fun s2 h2=>H1 ?_;refine qah V<|G2 ?_;exact rX [_] _ Z (h1.t h2) fun _ hS2=>Cz0
def qba(bb:Nat)(M:Hl)(l:List UInt8)(hW:WC R T bb M l)(l2:List UInt8)(hlen:l.length+l2.length≤140737488355328):AC prog D 59 [.pointer (some ⟨bb,0,none⟩),St l2] (M++L) s fun u L' _=>∃ M',L'=M'++L∧u=.tuple #[.int .i64 (l2.length:Int),.nilIface]∧WC R T bb M' (l++l2):=by
 obtain ⟨p,M0,v,hp,rfl,hb⟩:=hW;refine (qqL D L s bb p hp M0 v l hb l2 hlen).mono ?_;rintro u L1 s1 _ ⟨h1,M1,v1,h2,h3⟩;exact ⟨_::M1,h2,h1,WC.mk ⟨.inr rfl,hp.2⟩ h3⟩
def qlE(bb:Nat)(M:Hl)(l:List UInt8)(hW:WC R T bb M l):AC prog D 38 [.pointer (some ⟨bb,0,none⟩)] (M++L) s fun u L' _=>u=St l∧L=L':=by
 obtain ⟨p,M0,v,hp,rfl,hb⟩:=hW;refine (qxo D L s bb p M0 v l hb).mono ?_;rintro u L1 s1 _ ⟨h1,h2⟩;exact ⟨h1,h2.symm⟩
def Ez55{p:Prop} (h:p:=by
 rintro _ _ s3 h3 ⟨M1,rfl,rfl,hW1⟩;refine ⟨(fun _ hx _=>by cases hx),?_⟩;refine qah V ?_;refine qas [] _ (.inl Z) (.nil) Z (h1.t h2|>.t h3) fun _ hS2=>?_;exact ⟨_,rfl,rfl,hW1⟩):p:=h
def qef(bb:Nat)(M:Hl)(l:List UInt8)(hW:Wr bb M l)(lv:Nat)(hlv:lv≤17)(hlen:l.length≤2000000000):AC prog D 156 [.pointer (some ⟨bb,0,none⟩),.int .i64 (lv:Int)] (M++L) s fun v L' _=>∃ M',L'=M'++L∧v=.tuple #[]∧Wr bb M' (l++qa4 lv):=by
 have hml:=qcA lv;refine qad (fn:=f156) qao func156 V Z ntmps156 Z (rs:=[]) Z [(0,_),(1,_)] Z<|qaB qab 6 Z 0 fun s1 h1=>H4 ?_;refine qaq 4 V<|Jf Z Tt Z Z Z (qp1 D _ _ [32,32] lv O Q7) fun s2 h2=>?_;rw [qiQ];refine qaq 5 V<|Jb Z Tt Z Z Z (qba D _ _ bb M l hW _ Ut) ?_;exact Ez55
def qeh(bb:Nat)(M:Hl)(l:List UInt8)(hW:Wr bb M l)(lv:Nat)(hlv:lv≤17)(t:List UInt8)(hlen:l.length+t.length≤1000000000):AC prog D 111 [.pointer (some ⟨bb,0,none⟩),.int .i64 (lv:Int),St t] (M++L) s fun v L' _=>∃ M',L'=M'++L∧v=.tuple #[]∧Wr bb M' (l++(qa4 lv++t++[10])):=by
 have hml:=qcA lv;refine qad (fn:=f111) qao func111 V Z ntmps111 Z (rs:=[]) Z [(0,_),(1,_),(2,_)] Z<|G4 ?_;refine Jc Z Z Z (qef D _ _ bb M l hW lv hlv O) ?_;rintro _ _ s1 h1 ⟨M1,rfl,rfl,hW1⟩;refine G7 ?_;refine qae (qav Z Z Uo) Z<|Jc Z Z Z (qba D _ _ bb M1 (l++qa4 lv) hW1 _ Ut) ?_;rintro _ _ s2 h2 ⟨M2,rfl,rfl,hW2⟩;refine Zn ?_;refine qas [] _ (.inl Z) (.nil) Z (h1.t h2) fun _ hS2=>?_;exact ⟨_,rfl,rfl,by simpa only [List.append_assoc] using hW2⟩
def BDC(D d:Nat):Prop:=∀ (L:Hl) (s:World),GP s→∀ (bb:Nat) (M:Hl) (l:List UInt8),Wr bb M l→∀ (A:Option Addr) (n c:Nat) (xs:List Stm) (lv:Nat),Stms d s A n c xs→qdU xs lv=true→qbG xs≤2000→lv≤17→l.length+(qhK xs lv).length≤1000000000→AC prog D 114 [.pointer (some ⟨bb,0,none⟩),.slice A n c,.int .i64 (lv:Int)] (M++L) s fun v L' _=>∃ M',L'=M'++L∧v=.tuple #[]∧Wr bb M' (l++qhK xs lv)
def OTC(D d:Nat):Prop:=∀ (L:Hl) (s:World),GP s→∀ (bb:Nat) (M:Hl) (l:List UInt8),Wr bb M l→∀ (A:Option Addr) (n c:Nat) (xs:List Stm) (lv:Nat),Stms d s A n c xs→qdU xs (lv+1)=true→qbG xs≤2000→lv≤16→l.length+(otI xs lv).length≤1000000000→AC prog D 196 [.pointer (some ⟨bb,0,none⟩),.slice A n c,.int .i64 (lv:Int)] (M++L) s fun v L' _=>∃ M',L'=M'++L∧v=.tuple #[]∧Wr bb M' (l++otI xs lv)
def STC(D d:Nat):Prop:=∀ (L:Hl) (s:World),GP s→∀ (bb:Nat) (M:Hl) (l:List UInt8),Wr bb M l→∀ (A1 A2 A3:Option Addr) (n1 c1 n2 c2 n3 c3:Nat) (x:Stm) (lv:Nat),Exs d s A1 n1 c1 x.exprs→Stms d s A2 n2 c2 x.body→Stms d s A3 n3 c3 x.els→stV x lv=true→stN x≤2000→l.length+(stI x lv).length≤1000000000→AC prog D 158 [.pointer (some ⟨bb,0,none⟩),.agg #[.int .i64 x.kind,St x.name,.slice A1 n1 c1,.slice A2 n2 c2,.slice A3 n3 c3],.int .i64 (lv:Int)] (M++L) s fun v L' _=>∃ M',L'=M'++L∧v=.tuple #[]∧Wr bb M' (l++stI x lv)
def qij(D d:Nat)(ih:∀ e,d=e+1→STC D e)(L:Hl)(s:World)(hG:GP s)(bb:Nat)(M:Hl)(l:List UInt8)(hW:Wr bb M l)(A:Option Addr)(n c:Nat)(xs:List Stm)(lv:Nat)(hA:Stms d s A n c xs)(hv:qdU xs lv=true)(hN:qbG xs≤2000)(hlv:lv≤17)(hlen:l.length+(qhK xs lv).length≤1000000000):AC prog D 114 [.pointer (some ⟨bb,0,none⟩),.slice A n c,.int .i64 (lv:Int)] (M++L) s fun v L' _=>∃ M',L'=M'++L∧v=.tuple #[]∧Wr bb M' (l++qhK xs lv):=by
 have hn:=hA.1;have hc1:=hA.2.1;have hc2:=hA.2.2.1;have hml:=qcA lv;refine qad (fn:=f114) qao func114 V Z ntmps114 Z (rs:=[]) Z [(0,_),(1,_),(2,_)] Z<|G8 ?_;refine qaH (γ:=Nat×Hl×List UInt8) (fun g=>[(0,_),(2,_),(8,_),(9,_),(10,.int .i64 (g.1:Int))]) (fun g=>g.2.1++L) (fun g tw=>Le D s tw∧(g.1≤n∧Wr bb g.2.1 g.2.2∧g.2.2++qhK (xs.drop g.1) lv=l++qhK xs lv)) (fun g=>n - g.1) (fun _ _ _ h hl=>⟨h.1.trans hl,h.2⟩) (0,M,l) (.c5 Z Z Z Z Z (.nil _)) Z ⟨Le.refl _,⟨Nat.zero_le _,hW,Z⟩⟩ ?_;intro g s1 I1;obtain ⟨k,Mo,lo⟩:=g;obtain ⟨hk0,hWo,hS⟩:=I1.2;simp only at hk0 hWo hS;dsimp only;have hle:=congrArg List.length hS;simp only [List.length_append] at hle;refine J6 ?_ ?_<;>intro c2
 ·have hk:k < n:=by omega
  obtain ⟨e,b,off,x,A1,n1,c1,A2,n2,c2,A3,n3,c3,hd,rfl,hx,hcx,hax,hbx,hex,hnl⟩:=Stms.at_ (hA.le I1.1) hk;obtain ⟨hvx,hNx⟩:=qhp hv hx;have hs1:=congrArg List.length (qqm (lv:=lv) hx);have hs2:=congrArg List.length (qqi x lv);simp only [List.length_append,List.length_cons,List.length_nil] at hs1 hs2;refine G6 ?_;refine qae (qaw Z Z Z Z Z Z hk) Z<|qae (qat Z Z Z (hcx.le (Lr D)) Z) Z<|qac Z [_,_,_,_,_] Z Z fun β3 s3 h3=>Wt 0 [_,_,_,_,_] Y9<|G6 ?_;refine Jc Z Z Z (AC.mid [_] Mo L (qef D _ _ bb Mo lo hWo lv hlv O)) ?_;rintro _ _ s4 h4 ⟨M1,rfl,rfl,hW1⟩;simp only [cQ9,nQ9];refine G5 ?_;refine qae (qaj 0 [_,_,_,_,_] Z Z Z Z Z) Z<|Zqm Z Z<|Jc Z Z Z (AC.mid [_] M1 L (ih e hd _ _ (hG.le (I1.1.t h3|>.t h4)) bb M1 (lo++qa4 lv) hW1 A1 A2 A3 n1 c1 n2 c2 n3 c3 x lv (hax.le (h3.t h4)) (hbx.le (h3.t h4)) (hex.le (h3.t h4)) hvx O (by simp only [List.length_append];omega))) ?_;rintro _ _ s5 h5 ⟨M2,rfl,rfl,hW2⟩;simp only [cQ9,nQ9];refine G6 ?_;refine Jc Z Z Z (AC.mid [_] M2 L (qba D _ _ bb M2 ((lo++qa4 lv)++stI x lv) hW2 [10] Ut)) ?_;rintro _ _ s6 h6 ⟨M3,rfl,rfl,hW3⟩;simp only [cQ9,nQ9];refine G4 ?_;refine qaV Z Z Z (w64 O O)<|G2 ?_;refine qaf ⟨(k+1,M3,((lo++qa4 lv)++stI x lv)++[10]),[_],kp,Z,⟨(I1.1.t h3|>.t h4|>.t h5|>.t h6),⟨by simp only;omega,hW3,by simp only;rw [← hS,qqm hx,← qqi x lv];simp only [List.append_assoc]⟩⟩,Oz⟩
 rw [List.drop_eq_nil_of_le O,qhK,List.append_nil] at hS;refine G4 ?_;refine qas [] _ (.inl Z) (.nil) Z I1.1 fun _ hS2=>?_;exact ⟨_,rfl,rfl,hS▸hWo⟩
def qwj{p:Prop} (h:p:=by
 refine qaf (MidB.mk (Lr D) Sb Z ((decide_eq_false O).symm))):p:=h
def qh9(D d:Nat)(ih:∀ e,d=e+1→STC D e)(hB:BDC D d)(L:Hl)(s:World)(hG:GP s)(bb:Nat)(M:Hl)(l:List UInt8)(hW:Wr bb M l)(A:Option Addr)(n c:Nat)(xs:List Stm)(lv:Nat)(hA:Stms d s A n c xs)(hv:qdU xs (lv+1)=true)(hN:qbG xs≤2000)(hlv:lv≤16)(hlen:l.length+(otI xs lv).length≤1000000000):AC prog D 196 [.pointer (some ⟨bb,0,none⟩),.slice A n c,.int .i64 (lv:Int)] (M++L) s fun v L' _=>∃ M',L'=M'++L∧v=.tuple #[]∧Wr bb M' (l++otI xs lv):=by
 have hn:=hA.1;have hc1:=hA.2.1;have hc2:=hA.2.2.1;have hml:=qcA lv;refine qad (fn:=f196) qao func196 V Z ntmps196 Z (rs:=[]) Z [(0,_),(1,_),(2,_)] Z<|J9 ?_ ?_<;>intro c1;·obtain rfl:xs=[]:=List.eq_nil_of_length_eq_zero O;refine G2 ?_;refine qas [] _ (.inl Z) (.nil) Z (Lr D) fun _ hS2=>?_;exact ⟨_,rfl,rfl,by rw [qyz,List.append_nil];exact hW⟩
 have g0:xs.length≠0:=by omega
 obtain ⟨e,b,off,z,A1,n1,c1,A2,n2,c2,A3,n3,c3,hd,rfl,hz,hcz,haz,hbz,hez,hnl⟩:=Stms.at_ (hA.le (Lr D)) (show 0 < n by omega);obtain ⟨hvz,hNz⟩:=qhp hv hz;refine qbA 26 (n=1∧z.kind=3) ?_ ?_
 ·refine G5 ?_;refine qap (t:=30) Z ?_ ?_<;>intro c3;·refine G3 ?_;refine qae (qaw (j:=0) Z Z Z Z Z Z O) Z<|G3 ?_;refine qae (qak Z Z Z (hcz.le (Lr D)) Z) Z<|G5 ?_;refine qaf (MidB.mk (Lr D) Sb Z (decide_eq_decide.2 O))
  refine G8 ?_;exact qwj
 intro s2 h2;refine qaa Z ?_ ?_<;>intro c4;·have g3:=c4;have hT:=qC9 lv O hz g3.2;rw [hT] at hlen;simp only [List.length_append,List.length_cons,List.length_nil] at hlen;have hvz2:=qiX z lv (lv+1) O hvz;refine G5 ?_;refine Jc Z Z Z (qba D _ _ bb M l hW [32,101,108,115,101,32] Ut) ?_;rintro _ _ s5 h5 ⟨M1,rfl,rfl,hW1⟩;have e5:=h2.t h5;refine G5 ?_;refine qae (qaw (j:=0) Z Z Z Z Z Z O) Z<|qae (qat Z Z Z (hcz.le e5) Z) Z<|Zqm Z Z<|Jc Z Z Z (ih e hd _ _ (hG.le e5) bb M1 _ hW1 A1 A2 A3 n1 c1 n2 c2 n3 c3 z lv (haz.le e5) (hbz.le e5) (hez.le e5) hvz2 O Uo) ?_;rintro _ _ s6 h6 ⟨M2,rfl,rfl,hW2⟩;refine G2 ?_;refine qas [] _ (.inl Z) (.nil) Z (e5.t h6) fun _ hS2=>?_;exact ⟨_,rfl,rfl,by rw [hT];simpa only [List.append_assoc] using hW2⟩
 have g3:=c4;have hT:=qsA (e:=xs) lv g0 (fun h=>g3 ⟨by omega,h.2 z hz⟩);rw [hT] at hlen;simp only [List.length_append,List.length_cons,List.length_nil] at hlen;refine G5 ?_;refine Jc Z Z Z (qba D _ _ bb M l hW [32,101,108,115,101,32,123,10] Ut) ?_;rintro _ _ s5 h5 ⟨M1,rfl,rfl,hW1⟩;refine G7 ?_;refine qae (qaI Z Z (show IntKind.i64.wrap ((lv:Int)+1)=((lv+1:Nat):Int) by rw [w64 O O];simp)) Z<|Jc Z Z Z (hB _ _ (hG.le (h2.t h5)) bb M1 _ hW1 _ n c xs (lv+1) (hA.le (h2.t h5)) hv hN O Uo) ?_;rintro _ _ s6 h6 ⟨M2,rfl,rfl,hW2⟩;refine G6 ?_;refine Jc Z Z Z (qef D _ _ bb M2 _ hW2 lv O Uo) ?_;rintro _ _ s7 h7 ⟨M3,rfl,rfl,hW3⟩;refine G6 ?_;refine Jc Z Z Z (qba D _ _ bb M3 _ hW3 [125] Ut) ?_;rintro _ _ s8 h8 ⟨M4,rfl,rfl,hW4⟩;refine G2 ?_;refine qas [] _ (.inl Z) (.nil) Z (h2.t h5|>.t h6|>.t h7|>.t h8) fun _ hS2=>?_;exact ⟨_,rfl,rfl,by rw [hT];simpa only [List.append_assoc] using hW4⟩
def quZ{p:Prop} (h:p:=by
 exact ⟨_,rfl,rfl,by rw [hT];exact hW1⟩):p:=h
def qmx(D d:Nat)(hB:BDC D d)(hO:OTC D d)(L:Hl)(s:World)(hG:GP s)(bb:Nat)(M:Hl)(l:List UInt8)(hW:Wr bb M l)(A1 A2 A3:Option Addr)(n1 c1 n2 c2 n3 c3:Nat)(x:Stm)(lv:Nat)(hA1:Exs d s A1 n1 c1 x.exprs)(hA2:Stms d s A2 n2 c2 x.body)(hA3:Stms d s A3 n3 c3 x.els)(hv:stV x lv=true)(hN:stN x≤2000)(hlen:l.length+(stI x lv).length≤1000000000):AC prog D 158 [.pointer (some ⟨bb,0,none⟩),.agg #[.int .i64 x.kind,St x.name,.slice A1 n1 c1,.slice A2 n2 c2,.slice A3 n3 c3],.int .i64 (lv:Int)] (M++L) s fun v L' _=>∃ M',L'=M'++L∧v=.tuple #[]∧Wr bb M' (l++stI x lv):=by
 have hn:=hA1.1;have hml:=qcA lv;obtain ⟨hlv,hC,hvE,hvB,hvL⟩:=qdm hv;have hka:=qcE hC;have hNs:=qif x;refine qad (fn:=f158) qao func158 V Z ntmps158 Z (rs:=[]) Z [(0,_),(1,_),(2,_)] Z<|Sr<|qar Z Z fun β1 s1 h1=>J15 ?_ ?_<;>intro c2;·have hl1:=qgo hv (.inl c2);obtain ⟨e,b,off,y,Ay,ny,cy,hd,rfl,hy,hcy,hay,huy,hnl⟩:=Exs.at_ (hA1.le h1) (show 0 < n1 by omega);obtain ⟨hvy,hNy⟩:=qcX hvE hy;have hT:=qFQ (lv:=lv) c2 hl1 hy;rw [hT] at hlen;simp only [List.length_append,List.length_cons,List.length_nil] at hlen;refine qaB qab 14 Z 1 fun s3 h3=>H5 ?_;refine za 5 Z (qav Z Z Uo) Z<|H2 ?_;refine za 8 Z (qaw (j:=0) Z Z Z Z Z Z O) Z<|za 9 Z (qat Z Z Z (hcy.le h3) Z) Z<|qaq 10 V<|Jb Z Tt Z Z Z (qcD D _ _ _ (hG.le (h1.t h3)) y Ay ny cy (hay.le h3) huy hvy O) ?_;rintro _ _ s4 h4 ⟨rfl,rfl⟩;refine ⟨fun _ _ h=>h,?_⟩;refine za 11 Z (qav Z Z Uo) Z<|za 12 Z (qav Z Z Uo) Z<|qaq 13 V<|Jb Z Tt Z Z Z (AC.mid [_] M L (qba D _ _ bb M l hW _ Ut)) ?_;rintro _ _ s5 h5 ⟨M1,rfl,rfl,hW1⟩;refine ⟨(fun x hx _=>qe6 hx),?_⟩;simp only [cQ9,nQ9];refine qah V<|Zb ?_;refine qas [_] _ (.inl Z) (.nil) Z (h1.t h3|>.t h4|>.t h5) fun _ hS2=>?_;exact quZ
 refine J6 ?_ ?_<;>intro c3;·have hl2:=qDw hv c3;obtain ⟨e,b,off,y,Ay,ny,cy,hd,rfl,hy,hcy,hay,huy,hnl⟩:=Exs.at_ (hA1.le h1) (show 0 < n1 by omega);obtain ⟨hvy,hNy⟩:=qcX hvE hy;obtain ⟨e',b',off',z,Az,nz,cz,hd2,hab,hz,hcz,haz,huz,hnz⟩:=Exs.at_ (hA1.le h1) (show 1 < n1 by omega);cases hab;obtain ⟨hvz,hNz⟩:=qcX hvE hz;have hT:=qFR (lv:=lv) c3 hl2 hy hz;rw [hT] at hlen;simp only [List.length_append,List.length_cons,List.length_nil] at hlen;refine qaB qab 21 Z 1 fun s4 h4=>H5 ?_;refine za 5 Z (qav Z Z Uo) Z<|H2 ?_;refine za 8 Z (qaw (j:=0) Z Z Z Z Z Z O) Z<|za 9 Z (qat Z Z Z (hcy.le h4) Z) Z<|H2 ?_;refine za 15 Z (qaw (j:=1) Z Z Z Z Z Z O) Z<|za 16 Z (qat Z Z Z (hcz.le h4) Z) Z<|qaq 10 V<|Jb Z Tt Z Z Z (qcD D _ _ _ (hG.le (h1.t h4)) y Ay ny cy (hay.le h4) huy hvy O) ?_;rintro _ _ s5 h5 ⟨rfl,rfl⟩;refine ⟨fun _ _ h=>h,?_⟩;refine za 11 Z (qav Z Z Uo) Z<|za 12 Z (qav Z Z Uo) Z<|qaq 17 V<|Jb Z Tt Z Z Z (qcD D _ _ _ (hG.le (h1.t h4|>.t h5)) z Az nz cz (haz.le (h4.t h5)) huz hvz O) ?_;rintro _ _ s6 h6 ⟨rfl,rfl⟩;refine ⟨fun _ _ h=>h,?_⟩;refine za 18 Z (qav Z Z Uo) Z<|za 19 Z (qav Z Z Uo) Z<|qaq 20 V<|Jb Z Tt Z Z Z (AC.mid [_] M L (qba D _ _ bb M l hW _ Ut)) ?_;rintro _ _ s7 h7 ⟨M1,rfl,rfl,hW1⟩;refine ⟨(fun x hx _=>qe6 hx),?_⟩;simp only [cQ9,nQ9];refine qah V<|Zb ?_;refine qas [_] _ (.inl Z) (.nil) Z (h1.t h4|>.t h5|>.t h6|>.t h7) fun _ hS2=>?_;exact quZ
 refine J6 ?_ ?_<;>intro c4;·have hl1:=qgo hv (.inr (.inl c4));obtain ⟨e,b,off,y,Ay,ny,cy,hd,rfl,hy,hcy,hay,huy,hnl⟩:=Exs.at_ (hA1.le h1) (show 0 < n1 by omega);obtain ⟨hvy,hNy⟩:=qcX hvE hy;have hT:=qFS (lv:=lv) c4 hl1 hy;rw [hT] at hlen;simp only [List.length_append,List.length_cons,List.length_nil] at hlen;refine Zs<|qaB qab 11 Z 1 fun s5 h5=>H5 ?_;refine za 5 Z (qaw (j:=0) Z Z Z Z Z Z O) Z<|za 6 Z (qat Z Z Z (hcy.le h5) Z) Z<|qaq 7 V<|Jb Z Tt Z Z Z (qcD D _ _ _ (hG.le (h1.t h5)) y Ay ny cy (hay.le h5) huy hvy O) ?_;have e5:=h1.t h5;rintro _ _ s6 h6 ⟨rfl,rfl⟩;have e6:=e5.t h6;refine ⟨fun _ _ h=>h,?_⟩;refine za 8 Z (qav Z Z Uo) Z<|za 9 Z (qav Z Z Uo) Z<|qaq 10 V<|Jb Z Tt Z Z Z (AC.mid [_] M L (qba D _ _ bb M l hW _ Ut)) ?_;rintro _ _ s7 h7 ⟨M1,rfl,rfl,hW1⟩;have e7:=e6.t h7;refine ⟨(fun x hx _=>qe6 hx),?_⟩;simp only [cQ9,nQ9];refine qah V<|G7 ?_;refine qae (qaI Z Z (show IntKind.i64.wrap ((lv:Int)+1)=((lv+1:Nat):Int) by rw [w64 O O];simp)) Z<|Jc Z Z Z (AC.mid [_] M1 L (hB _ _ (hG.le e7) bb M1 _ hW1 _ _ _ x.body (lv+1) (hA2.le e7) hvB O O Uo)) ?_;rintro _ _ s8 h8 ⟨M2,rfl,rfl,hW2⟩;simp only [cQ9,nQ9];refine G6 ?_;refine Jc Z Z Z (AC.mid [_] M2 L (qef D _ _ bb M2 _ hW2 lv O Uo)) ?_;rintro _ _ s9 h9 ⟨M3,rfl,rfl,hW3⟩;have e9:=e7.t h8|>.t h9;simp only [cQ9,nQ9];refine G7 ?_;refine Jc Z Z Z (AC.mid [_] M3 L (qba D _ _ bb M3 _ hW3 [125] Ut)) ?_;rintro _ _ s10 h10 ⟨M4,rfl,rfl,hW4⟩;simp only [cQ9,nQ9];refine G7 ?_;refine Jc Z Z Z (AC.mid [_] M4 L (hO _ _ (hG.le (e9.t h10)) bb M4 _ hW4 _ _ _ x.els lv (hA3.le (e9.t h10)) hvL O hlv Uo)) ?_;rintro _ _ s11 h11 ⟨M5,rfl,rfl,hW5⟩;simp only [cQ9,nQ9];refine G2 ?_;refine qas [_] _ (.inl Z) (.nil) Z (e9.t h10|>.t h11) fun _ hS2=>?_;exact ⟨_,rfl,rfl,by rw [hT];simpa only [List.append_assoc] using hW5⟩
 refine J6 ?_ ?_<;>intro c5;·have hle:=qFL hv (show x.kind≠3 by omega);have hl1:=qgo hv (.inr (.inr (.inl c5)));obtain ⟨e,b,off,y,Ay,ny,cy,hd,rfl,hy,hcy,hay,huy,hnl⟩:=Exs.at_ (hA1.le h1) (show 0 < n1 by omega);obtain ⟨hvy,hNy⟩:=qcX hvE hy;have hT:=qFT (lv:=lv) c5 hl1 hy hle;rw [hT] at hlen;simp only [List.length_append,List.length_cons,List.length_nil] at hlen;refine Zs<|qaB qab 11 Z 1 fun s6 h6=>H5 ?_;refine za 5 Z (qaw (j:=0) Z Z Z Z Z Z O) Z<|za 6 Z (qat Z Z Z (hcy.le h6) Z) Z<|qaq 7 V<|Jb Z Tt Z Z Z (qcD D _ _ _ (hG.le (h1.t h6)) y Ay ny cy (hay.le h6) huy hvy O) ?_;rintro _ _ s7 h7 ⟨rfl,rfl⟩;have e7:=h1.t h6|>.t h7;refine ⟨fun _ _ h=>h,?_⟩;refine za 8 Z (qav Z Z Uo) Z<|za 9 Z (qav Z Z Uo) Z<|qaq 10 V<|Jb Z Tt Z Z Z (AC.mid [_] M L (qba D _ _ bb M l hW _ Ut)) ?_;rintro _ _ s8 h8 ⟨M1,rfl,rfl,hW1⟩;refine ⟨(fun x hx _=>qe6 hx),?_⟩;simp only [cQ9,nQ9];refine qah V<|G7 ?_;refine qae (qaI Z Z (show IntKind.i64.wrap ((lv:Int)+1)=((lv+1:Nat):Int) by rw [w64 O O];simp)) Z<|Jc Z Z Z (AC.mid [_] M1 L (hB _ _ (hG.le (e7.t h8)) bb M1 _ hW1 _ _ _ x.body (lv+1) (hA2.le (e7.t h8)) hvB O O Uo)) ?_;rintro _ _ s9 h9 ⟨M2,rfl,rfl,hW2⟩;simp only [cQ9,nQ9];refine G6 ?_;refine Jc Z Z Z (AC.mid [_] M2 L (qef D _ _ bb M2 _ hW2 lv O Uo)) ?_;rintro _ _ s10 h10 ⟨M3,rfl,rfl,hW3⟩;simp only [cQ9,nQ9];refine G6 ?_;refine Jc Z Z Z (AC.mid [_] M3 L (qba D _ _ bb M3 _ hW3 [125] Ut)) ?_;rintro _ _ s11 h11 ⟨M4,rfl,rfl,hW4⟩;simp only [cQ9,nQ9];refine G2 ?_;refine qas [_] _ (.inl Z) (.nil) Z (e7.t h8|>.t h9|>.t h10|>.t h11) fun _ hS2=>?_;exact ⟨_,rfl,rfl,by rw [hT];simpa only [List.append_assoc] using hW4⟩
 refine J6 ?_ ?_<;>intro c6;·have hl5:=qDx hv c6;have hT:=qFU (lv:=lv) c6;rw [hT] at hlen;simp only [List.length_append,List.length_cons,List.length_nil] at hlen;refine qaB qab 12 Z 1 fun s7 h7=>H5 ?_;refine za 5 Z (qav Z Z Uo) Z<|H2 ?_;refine qaq 8 V<|Jf Z Tt Z Z Z (qrQ D d _ _ (hG.le (h1.t h7)) _ _ _ x.exprs (hA1.le (h1.t h7)) hvE O O) fun s8 h8=>za 9 Z (qav Z Z Uo) Z<|za 10 Z (qav Z Z Uo) Z<|qaq 11 V<|Jb Z Tt Z Z Z (AC.mid [_] M L (qba D _ _ bb M l hW _ Ut)) ?_;rintro _ _ s9 h9 ⟨M1,rfl,rfl,hW1⟩;refine ⟨(fun x hx _=>qe6 hx),?_⟩;simp only [cQ9,nQ9];refine qah V<|Zb ?_;refine qas [_] _ (.inl Z) (.nil) Z (h1.t h7|>.t h8|>.t h9) fun _ hS2=>?_;exact quZ
 refine J6 ?_ ?_<;>intro c7;·have hl1:=qgo hv (.inr (.inr (.inr (.inl c7))));obtain ⟨e,b,off,y,Ay,ny,cy,hd,rfl,hy,hcy,hay,huy,hnl⟩:=Exs.at_ (hA1.le h1) (show 0 < n1 by omega);obtain ⟨hvy,hNy⟩:=qcX hvE hy;have hT:=qFV (lv:=lv) c7 hl1 hy;rw [hT] at hlen;simp only [List.length_append,List.length_cons,List.length_nil] at hlen;refine qaB qab 11 Z 1 fun s8 h8=>H5 ?_;refine za 5 Z (qaw (j:=0) Z Z Z Z Z Z O) Z<|za 6 Z (qat Z Z Z (hcy.le h8) Z) Z<|qaq 7 V<|Jb Z Tt Z Z Z (qcD D _ _ _ (hG.le (h1.t h8)) y Ay ny cy (hay.le h8) huy hvy O) ?_;rintro _ _ s9 h9 ⟨rfl,rfl⟩;refine ⟨fun _ _ h=>h,?_⟩;refine za 8 Z (qav Z Z Uo) Z<|za 9 Z (qav Z Z Uo) Z<|qaq 10 V<|Jb Z Tt Z Z Z (AC.mid [_] M L (qba D _ _ bb M l hW _ Ut)) ?_;rintro _ _ s10 h10 ⟨M1,rfl,rfl,hW1⟩;refine ⟨(fun x hx _=>qe6 hx),?_⟩;simp only [cQ9,nQ9];refine qah V<|Zb ?_;refine qas [_] _ (.inl Z) (.nil) Z (h1.t h8|>.t h9|>.t h10) fun _ hS2=>?_;exact quZ
 refine J6 ?_ ?_<;>intro c8;·have hl1:=qgo hv (.inr (.inr (.inr (.inr (.inl c8)))));obtain ⟨e,b,off,y,Ay,ny,cy,hd,rfl,hy,hcy,hay,huy,hnl⟩:=Exs.at_ (hA1.le h1) (show 0 < n1 by omega);obtain ⟨hvy,hNy⟩:=qcX hvE hy;have hT:=qFW (lv:=lv) c8 hl1 hy;rw [hT] at hlen;simp only [List.length_append,List.length_cons,List.length_nil] at hlen;refine qaB qab 11 Z 1 fun s9 h9=>H5 ?_;refine za 5 Z (qaw (j:=0) Z Z Z Z Z Z O) Z<|za 6 Z (qat Z Z Z (hcy.le h9) Z) Z<|qaq 7 V<|Jb Z Tt Z Z Z (qcD D _ _ _ (hG.le (h1.t h9)) y Ay ny cy (hay.le h9) huy hvy O) ?_;rintro _ _ s10 h10 ⟨rfl,rfl⟩;refine ⟨fun _ _ h=>h,?_⟩;refine za 8 Z (qav Z Z Uo) Z<|za 9 Z (qav Z Z Uo) Z<|qaq 10 V<|Jb Z Tt Z Z Z (AC.mid [_] M L (qba D _ _ bb M l hW _ Ut)) ?_;rintro _ _ s11 h11 ⟨M1,rfl,rfl,hW1⟩;refine ⟨(fun x hx _=>qe6 hx),?_⟩;simp only [cQ9,nQ9];refine qah V<|Zb ?_;refine qas [_] _ (.inl Z) (.nil) Z (h1.t h9|>.t h10|>.t h11) fun _ hS2=>?_;exact quZ
 refine J6 ?_ ?_<;>intro c9;·have hl1:=qgo hv (.inr (.inr (.inr (.inr (.inr c9)))));obtain ⟨e,b,off,y,Ay,ny,cy,hd,rfl,hy,hcy,hay,huy,hnl⟩:=Exs.at_ (hA1.le h1) (show 0 < n1 by omega);obtain ⟨hvy,hNy⟩:=qcX hvE hy;have hT:=qFX (lv:=lv) c9 hl1 hy;rw [hT] at hlen;simp only [List.length_append,List.length_cons,List.length_nil] at hlen;refine qaB qab 11 Z 1 fun s10 h10=>H5 ?_;refine za 5 Z (qaw (j:=0) Z Z Z Z Z Z O) Z<|za 6 Z (qat Z Z Z (hcy.le h10) Z) Z<|qaq 7 V<|Jb Z Tt Z Z Z (qcD D _ _ _ (hG.le (h1.t h10)) y Ay ny cy (hay.le h10) huy hvy O) ?_;rintro _ _ s11 h11 ⟨rfl,rfl⟩;refine ⟨fun _ _ h=>h,?_⟩;refine za 8 Z (qav Z Z Uo) Z<|za 9 Z (qav Z Z Uo) Z<|qaq 10 V<|Jb Z Tt Z Z Z (AC.mid [_] M L (qba D _ _ bb M l hW _ Ut)) ?_;rintro _ _ s12 h12 ⟨M1,rfl,rfl,hW1⟩;refine ⟨(fun x hx _=>qe6 hx),?_⟩;simp only [cQ9,nQ9];refine qah V<|Zb ?_;refine qas [_] _ (.inl Z) (.nil) Z (h1.t h10|>.t h11|>.t h12) fun _ hS2=>?_;exact quZ
 refine J6 ?_ ?_<;>intro c10;·have hT:=qFY (lv:=lv) c10 (qDv hv (.inl c10));rw [hT] at hlen;simp only [List.length_append,List.length_cons,List.length_nil] at hlen;refine G4 ?_;refine Jc Z Z Z (AC.mid [_] M L (qba D _ _ bb M l hW [98,114,101,97,107,59] Ut)) ?_;rintro _ _ s11 h11 ⟨M1,rfl,rfl,hW1⟩;simp only [cQ9,nQ9];refine G2 ?_;refine qas [_] _ (.inl Z) (.nil) Z (h1.t h11) fun _ hS2=>?_;exact quZ
 refine J6 ?_ ?_<;>intro c11;·have hT:=qDy (lv:=lv) c11 (qDv hv (.inr c11));rw [hT] at hlen;simp only [List.length_append,List.length_cons,List.length_nil] at hlen;refine G4 ?_;refine Jc Z Z Z (AC.mid [_] M L (qba D _ _ bb M l hW [99,111,110,116,105,110,117,101,59] Ut)) ?_;rintro _ _ s12 h12 ⟨M1,rfl,rfl,hW1⟩;simp only [cQ9,nQ9];refine G2 ?_;refine qas [_] _ (.inl Z) (.nil) Z (h1.t h12) fun _ hS2=>?_;exact quZ
 exfalso;omega
def alls(D:Nat):∀ d,BDC D d∧OTC D d∧STC D d
 | 0=>by
  have hB:BDC D 0:=fun L s hG bb M l hW A n c xs lv hA hv hN hlv hlen=>qij D 0 (fun e h=>by omega) L s hG bb M l hW A n c xs lv hA hv hN hlv hlen;have hO:OTC D 0:=fun L s hG bb M l hW A n c xs lv hA hv hN hlv hlen=>qh9 D 0 (fun e h=>by omega) hB L s hG bb M l hW A n c xs lv hA hv hN hlv hlen;exact ⟨hB,hO,fun L s hG bb M l hW A1 A2 A3 n1 c1 n2 c2 n3 c3 x lv hA1 hA2 hA3 hv hN hlen=>qmx D 0 hB hO L s hG bb M l hW A1 A2 A3 n1 c1 n2 c2 n3 c3 x lv hA1 hA2 hA3 hv hN hlen⟩
 | d+1=>by
  have ih:∀ e,d+1=e+1→STC D e:=fun e h=>(show d=e by omega)▸(alls D d).2.2;have hB:BDC D (d+1):=fun L s hG bb M l hW A n c xs lv hA hv hN hlv hlen=>qij D (d+1) ih L s hG bb M l hW A n c xs lv hA hv hN hlv hlen;have hO:OTC D (d+1):=fun L s hG bb M l hW A n c xs lv hA hv hN hlv hlen=>qh9 D (d+1) ih hB L s hG bb M l hW A n c xs lv hA hv hN hlv hlen;exact ⟨hB,hO,fun L s hG bb M l hW A1 A2 A3 n1 c1 n2 c2 n3 c3 x lv hA1 hA2 hA3 hv hN hlen=>qmx D (d+1) hB hO L s hG bb M l hW A1 A2 A3 n1 c1 n2 c2 n3 c3 x lv hA1 hA2 hA3 hv hN hlen⟩
end Go.Proofs.YtlfiplbamnpgoaaGreatDoor
namespace Go.Proofs.YtlfiplbamnpgoaaGreatDoor
open Go Go.FL
variable(D:Nat)(L:Hl)(s:World){c k:Nat}{p:Prg}{g:Glo}
def fnV(x:Fnc):Prop:=qbr x.name=true∧x.params.length≤6∧x.locals.length≤12∧(∀ w∈x.params++x.locals,qbr w=true)∧qdU x.body 1=true∧qbG x.body≤2000
def qlY{x:Fnc}(h:(fnC x c).2=0):qbr x.name=true∧x.params.length≤6∧x.locals.length≤12∧(∀ w∈x.params++x.locals,qbr w=true)∧qdU x.body 1=true∧(fnC x c).1=c+qbG x.body∧(qbG x.body=0∨c+qbG x.body≤2000):=by
 unfold fnC at h ⊢;split at h
 · cases h
 rename_i h1;split at h
 · cases h
 rename_i h2;split at h
 · cases h
 rename_i h3;rw [if_neg h1,if_neg h2,if_neg h3];obtain ⟨a,b,c⟩:=qeq _ _ _ h;refine ⟨by simpa using h1,by omega,by omega,fun w hw=>?_,a,b,c⟩;cases hi:qbr w with
 | true=>rfl
 | false=>exact absurd (List.any_eq_true.2 ⟨w,hw,by rw [hi];rfl⟩) h3
def qiC:List Fnc→Nat
 | []=>0
 | x::r=>qbG x.body+qiC r
def qiB:∀ {l:List Fnc} {i c:Nat},(fnF l i c).1=0→(∀ x∈l,fnV x)∧(qiC l=0∨c+qiC l≤2000)
  | [],_,_,_=>⟨fun x hx=>(by cases hx),.inl rfl⟩
  | x::r,i,c,h=>by
    rw [fnF] at h;split at h
    · rename_i h1;exact absurd h h1
    rename_i h1;obtain ⟨a1,a2,a3,a4,a5,a6,a7⟩:=qlY (x:=x) (c:=c) Q6;obtain ⟨b1,b2⟩:=qiB h;rw [a6] at b2;refine ⟨fun y hy=>?_,?_⟩
    · rcases List.mem_cons.1 hy with rfl|hy
      · exact ⟨a1,a2,a3,a4,a5,by omega⟩
      · exact b1 y hy
    · rw [qiC];omega
def ql2:∀ {l:List Glo} {i:Nat},(glF l i).1=0→∀ g∈l,qe4 g=0
 | [],_,_=>fun g hg=>by cases hg
 | x::r,i,h=>fun g hg=>by
  rw [glF] at h;split at h
  · rename_i h1;exact absurd h h1
  rename_i h1;rcases List.mem_cons.1 hg with rfl|hg
  · simpa using h1
  · exact ql2 h g hg
def qyF(h:(qhI p).1=0):qhI p=(0,0):=by
 unfold qhI at h ⊢;split at h
 · rename_i h2;exact absurd h h2
 rename_i h2;rw [if_neg h2];split at h
 · cases h
 rename_i h3;rw [if_neg h3]
def qbS(h:qe4 g=0):1≤g.kind∧g.kind≤3∧qbr g.name=true∧(g.kind≠3→g.init=[])∧(g.kind=2→g.num=0)∧g.init.length≤40000:=by
  unfold qe4 at h;split at h
  · cases h
  rename_i h1;split at h
  · cases h
  rename_i h2;split at h
  · cases h
  rename_i h3;split at h
  · cases h
  rename_i h4;split at h
  · cases h
  rename_i h5;have hi:g.kind≠3→g.init=[]:=fun hk=>by
    by_cases he:g.init=[]
    · exact he
    · exact absurd (.inl ⟨hk,he⟩) h3
  refine ⟨by omega,by omega,by simpa using h2,hi,fun hk=>?_,?_⟩
  · by_cases he:g.num=0
    · exact he
    · exact absurd (.inr ⟨hk,he⟩) h3
  · by_cases hk:g.kind=3
    · omega
    · rw [hi hk];exact Nat.zero_le _
def prU(p:Prg):Prop:=(∀ g∈p.globals,U32 g.num∧∀ x∈g.init,U32 x)∧∀ x∈p.funcs,qfF x.body=true
def PV(p:Prg):Prop:=p.globals.length≤64∧p.funcs.length≤64∧(∀ g∈p.globals,qe4 g=0∧g.init.length≤1000)∧(∀ x∈p.funcs,fnV x)∧(qsL p).length≤1000000
def qqA(l:List Int)(h:∀ x∈l,U32 x):qky (l.map qd9)≤12 * l.length:=by
 induction l with
 | nil=>exact Nat.le_refl _
 | cons x r ih=>
  exact Ez96
def qgC(l:List Str)(h:∀ x∈l,qbr x=true):qky l≤14 * l.length:=by
 induction l with
 | nil=>exact Nat.le_refl _
 | cons x r ih=>
  have h1:=qcl (h x Mc);have h2:=ih fun y hy=>h y (List.mem_cons_of_mem _ hy);rw [qcp,List.length_cons];omega
def qr6(h:qe4 g=0)(hu:U32 g.num∧∀ x∈g.init,U32 x):(qg4 g).length≤50+12 * g.init.length:=by
 have h1:=qcl (qbS h).2.2.1;have h2:=qc1 hu.1;have h3:=qb6 (g.init.map qd9);have h4:=qqA g.init hu.2;unfold qg4;repeat' split
 all_goals ((try simp only [List.length_append,List.length_cons,List.length_nil]);omega)
def qr1{x:Fnc}(h:fnV x)(hu:qfF x.body=true):(qnx x).length≤350+200 * qbG x.body:=by
 obtain ⟨a1,a2,a3,a4,a5,a6⟩:=h;have h1:=qcl a1;have h2:=qb6 x.params;have h3:=qgC x.params fun w hw=>a4 w (List.mem_append_left _ hw);have h4:=qb6 x.locals;have h5:=qgC x.locals fun w hw=>a4 w (List.mem_append_right _ hw);have h6:=qfE x.body 1 a5 hu;unfold qnx;split;all_goals ((try simp only [List.length_append,List.length_cons,List.length_nil]);omega)
def ql3:∀ {l:List Glo},(∀ g∈l,qe4 g=0)→(∀ g∈l,U32 g.num∧∀ x∈g.init,U32 x)→((l.map qg4).flatten).length≤50 * l.length+12 * (l.map fun g=>g.init.length).sum
 | [],_,_=>Nat.zero_le _
 | g::r,h,hu=>by
  have h1:=qr6 (h g Mc) (hu g Mc);have h2:=ql3 (l:=r) (fun y hy=>h y (List.mem_cons_of_mem _ hy)) (fun y hy=>hu y (List.mem_cons_of_mem _ hy));simp only [List.map_cons,List.flatten_cons,List.length_append,List.length_cons,List.sum_cons];omega
def qlZ:∀ {l:List Fnc},(∀ x∈l,fnV x)→(∀ x∈l,qfF x.body=true)→((l.map qnx).flatten).length≤350 * l.length+200 * qiC l
 | [],_,_=>Nat.zero_le _
 | x::r,h,hu=>by
  have h1:=qr1 (h x Mc) (hu x Mc);have h2:=qlZ (l:=r) (fun y hy=>h y (List.mem_cons_of_mem _ hy)) (fun y hy=>hu y (List.mem_cons_of_mem _ hy));simp only [List.map_cons,List.flatten_cons,List.length_append,List.length_cons,qiC];omega
def quP{α:Type}{f:α→Nat}{l:List α}{x:α}(h:x∈l):f x≤(l.map f).sum:=by
 induction l with
 | nil=>cases h
 | cons y r ih=>
  simp only [List.map_cons,List.sum_cons];rcases List.mem_cons.1 h with rfl|h
  · omega
  · have:=ih h;omega
def PV.of(hu:prU p)(h:(qbM p).1=0):PV p:=by
  unfold qbM at h;split at h
  · cases h
  rename_i h1;split at h
  · rename_i h2;exact absurd h h2
  rename_i h2;split at h
  · cases h
  rename_i h3;obtain ⟨b1,b2⟩:=qiB h;have a1:=ql2 (l:=p.globals) (i:=0) Q12;have c1:=ql3 a1 hu.1;have c2:=qlZ b1 hu.2;refine ⟨by omega,by omega,fun g hg=>⟨a1 g hg,?_⟩,b1,?_⟩
  · have:=quP (f:=fun g:Glo=>g.init.length) hg
    omega
  · rw [qsL,List.length_append];omega
def Glos.u{s:World}{A:Option Addr}{n:Nat}{l:List Glo}(h:Glos s A n c l):∀ g∈l,U32 g.num∧∀ x∈g.init,U32 x:=
 Sl.all (p:=fun g=>U32 g.num∧∀ x∈g.init,U32 x) h fun g cs ⟨_,_,_,_,hw,hu,_⟩=>⟨hu,hw.u32⟩
def Fncs.u{d:Nat}{s:World}{A:Option Addr}{n:Nat}{l:List Fnc}(h:Fncs d s A n c l):∀ x∈l,qfF x.body=true:=
 Sl.all (p:=fun x=>qfF x.body=true) h fun x cs ⟨_,_,_,_,_,_,_,_,_,_,_,_,hb,_⟩=>Stms.u hb
def qwf{p:Prop} (h:p:=by
 obtain ⟨hk,rfl⟩:=List.getElem?_eq_some_iff.1 h;rw [List.drop_eq_getElem_cons hk];rfl):p:=h
def qeC{α:Type}{f:α→Str}{l:List α}{x:α}(h:l[k]?=some x):((l.drop k).map f).flatten=f x++((l.drop (k+1)).map f).flatten:=by
 exact qwf
def qvD{l:List Glo}{i:Nat}{x:Glo}(h:l[k]?=some x):glF (l.drop k) i=if qe4 x≠0 then (qe4 x,(i:Int)) else glF (l.drop (k+1)) (i+1):=by
 exact qwf
def qvy{l:List Fnc}{i:Nat}{x:Fnc}(h:l[k]?=some x):fnF (l.drop k) i c=if (fnC x c).2≠0 then ((fnC x c).2,(i:Int)) else fnF (l.drop (k+1)) (i+1) (fnC x c).1:=by
 exact qwf
def qAa{α:Type}{f:α→Nat}{l:List α}{x:α}(h:l[k]?=some x):((l.take (k+1)).map f).sum=((l.take k).map f).sum+f x:=by
 obtain ⟨hk,rfl⟩:=List.getElem?_eq_some_iff.1 h;rw [List.take_succ_eq_append_getElem hk,List.map_append,List.sum_append];simp
theorem qCF(h:g.kind=1):qg4 g=qa4 0++([99,111,110,115,116,32]++g.name++[32,61,32]++qd9 g.num++[59])++[10]:=by grind [qa4,qg4]
theorem qCG(h:g.kind=2):qg4 g=qa4 0++([118,97,114,32]++g.name++[59])++[10]:=by grind [qa4,qg4]
def qCH(h:¬ g.kind=1)(h2:¬ g.kind=2)(h3:g.init=[]):qg4 g=qa4 0++([97,114,114,97,121,32]++g.name++[91]++qd9 g.num++[93,59])++[10]:=by simp_all [qa4,qg4]
theorem qCI(h:¬ g.kind=1)(h2:¬ g.kind=2)(h3:g.init≠[]):qg4 g=qa4 0++([97,114,114,97,121,32]++g.name++[91]++qd9 g.num++[93,32,61,32]++qbJ (g.init.map qd9)++[59])++[10]:=by grind [qa4,qg4]
def qp9(h:64 < p.globals.length∨64 < p.funcs.length):qbM p=(2,-1):=by rw [qbM,if_pos h]
def qDq(h:¬ (64 < p.globals.length∨64 < p.funcs.length))(h2:(glF p.globals 0).1≠0):qbM p=glF p.globals 0:=by rw [qbM,if_neg h,if_pos h2]
theorem qms(h:¬ (64 < p.globals.length∨64 < p.funcs.length))(h2:glF p.globals 0=(0,0))(h3:1000 < (p.globals.map fun g=>g.init.length).sum):qbM p=(2,-1):=by grind [qbM]
theorem qFH(h:¬ (64 < p.globals.length∨64 < p.funcs.length))(h2:glF p.globals 0=(0,0))(h3:¬ 1000 < (p.globals.map fun g=>g.init.length).sum):qbM p=fnF p.funcs p.globals.length 0:=by grind [qbM]
def qsK(h:(qbM p).1≠0):qhI p=qbM p:=by rw [qhI,if_pos h]
theorem qyE(h:qbM p=(0,0))(h2:12000 < (qsL p).length):qhI p=(14,-1):=by grind [qhI]
theorem qFz(h:qbM p=(0,0))(h2:¬ 12000 < (qsL p).length):qhI p=(0,0):=by grind [qhI]
def qfy(h:(qhI p).1=0):(qbM p).1=0:=by
 unfold qhI at h;split at h
 · rename_i h2;exact absurd h h2
 · rename_i h2;simpa using h2
open Go.Proofs.Tryz
open Go.FL
attribute [local irreducible] JC JO JA JB qaJ qax qbN AC fill CellsAt QE Ev Mid
def qeb(c i:Int):AC prog D 67 [.int .i64 c,.int .i64 i] L s fun v L' _=>v=.agg #[.int .i64 c,.int .i64 i]∧L=L':=by
 refine qad (fn:=f67) qao func67 V Z ntmps67 Z (rs:=[.cell 4 30]) Z [(0,_),(1,_)] Z<|Sr<|qac Z [_,_] Z Z ?_;exact qAu
def qop(D:Nat)(X L:Hl)(s:World)(bb:Nat)(M:Hl)(l:List UInt8)(hW:Wr bb M l):AC prog D 38 [.pointer (some ⟨bb,0,none⟩)] (X++(M++L)) s fun u L' _=>u=St l∧L'=X++L:=
 AC.perm (List.perm_append_comm_assoc ..) (qlE D (X++L) s bb M l hW) fun u L1 s1 ⟨g0,g1⟩=>⟨_,List.Perm.refl _,g0,g1.symm⟩
def qmT(D:Nat)(y:Nat×Obj)(L:Hl)(s:World)(hG:GP s)(bc c d:Nat)(x:Fnc)(A1 A2 A3:Option Addr)(n1 q1 n2 q2 n3 q3:Nat)(hs1:Strs s A1 n1 q1 x.params)(hs2:Strs s A2 n2 q2 x.locals)(hs3:Stms d s A3 n3 q3 x.body)(hc:c≤2000):AC prog D 69 [.pointer (some ⟨bc,0,none⟩),.agg #[St x.name,.slice A1 n1 q1,.slice A2 n2 q2,.slice A3 n3 q3]] (y::(bc,cb [.int .i64 (c:Int)] 169)::L) s fun v L' _=>v=.int .i64 (fnC x c).2∧L'=y::(bc,cb [.int .i64 ((fnC x c).1:Int)] 169)::L:=
 AC.perm (List.Perm.swap ..) (qrC D (y::L) s hG bc c d x A1 A2 A3 n1 q1 n2 q2 n3 q3 hs1 hs2 hs3 hc) fun v L1 s1 ⟨g0,h1⟩=>⟨_,by rw [h1];exact List.Perm.swap ..,g0,rfl⟩
def qza(hG:GP s)(d:Nat)(p:Prg)(Ag Af:Option Addr)(ng cg nf cf:Nat)(hGl:Glos s Ag ng cg p.globals)(hFn:Fncs d s Af nf cf p.funcs)(hV:PV p):AC prog D 70 [.agg #[.slice Ag ng cg,.slice Af nf cf]] L s fun v L' _=>v=St (qsL p)∧L=L':=by
 have hn1:=hGl.1;have hn2:=hFn.1;have hU:=hGl.u;have hUf:=hFn.u;obtain ⟨hV1,hV2,hVg,hVf,hVl⟩:=hV;have hpl:((p.globals.map qg4).flatten).length+((p.funcs.map qnx).flatten).length≤1000000:=by rw [qsL,List.length_append] at hVl;exact hVl
 refine qad (fn:=f70) qao func70 V Z ntmps70 Z (rs:=[.tmp 2]) Z [(0,_)] Z<|Sr<|qar Z Z fun β1 s1 h1=>At Z Z<|Sr<|qae (qai [] [_,_] Z Z Z Z Z Z) Z<|qar Z Z fun β2 s2 h2=>G5 ?_;refine qbm 1 ?_
 
 refine G8 ?_;refine qaH (γ:=Nat×Hl×List UInt8) (fun g=>[(1,_),(2,_),(3,_),(11,_),(12,_),(13,.int .i64 (g.1:Int))]) (fun g=>(β1,cb [.slice Ag ng cg,.slice Af nf cf] 25)::(g.2.1++L)) (fun g tw=>Le D s2 tw∧(g.1≤ng∧Wr β2 g.2.1 g.2.2∧g.2.2++((p.globals.drop g.1).map qg4).flatten=(p.globals.map qg4).flatten)) (fun g=>ng - g.1) (fun _ _ _ h hl=>⟨h.1.trans hl,h.2⟩) (0,[(β2,cb [.pointer none,.slice none 0 0] 219)],[]) (.c6 Z Z Z Z Z Z (.nil _)) Z ⟨Le.refl _,⟨Nat.zero_le _,Wr.mk (.inl Z) BV.nil,Z⟩⟩ ?_;intro g s3 I3;have e3:=h1.t h2|>.t I3.1;obtain ⟨k,Mo,lo⟩:=g;obtain ⟨hk0,hWo,hS⟩:=I3.2;simp only at hk0 hWo hS;dsimp only;have hle:=congrArg List.length hS;simp only [List.length_append] at hle;refine J6 ?_ ?_<;>intro c4
 ·have hk:k < ng:=by omega
  obtain ⟨b,off,x,Ai,ni,ci,rfl,hx,hcx,hix,hux,hnl⟩:=Glos.at_ (hGl.le e3) hk;have hgx:=hVg x (List.mem_of_getElem? hx);have hg0:=qbS hgx.1;have hil:=qcl hg0.2.2.1;have hdl:=qc1 hux;have hni:=hix.1;have hci:=qb6 (x.init.map qd9);have hct:=qmC x.init hix.u32;refine G6 ?_;refine qae (qaw Z Z Z Z Z Z hk) Z<|qae (qat Z Z Z (hcx.le (Lr D)) Z) Z<|qac Z [_,_,_,_] Z Z fun β5 s5 h5=>Wt 0 [_,_,_,_] Y9<|G11 ?_;have e5:=I3.1.t h5;refine qaa Z ?_ ?_<;>intro c6
  ·have hT:=qCF c6;refine qaB qab 11 Z 2 fun s7 h7=>H3 ?_;refine za 3 Z (qav Z Z Uo) Z<|za 4 Z (qav Z Z Uo) Z<|H2 ?_;refine qaq 7 V<|Jf Z Tt Z Z Z (qej D _ _ (hG.le (e3.t h5|>.t h7)) _ hux) fun s8 h8=>za 8 Z (qav Z Z Uo) Z<|za 9 Z (qav Z Z Uo) Z<|qaq 10 V<|Jb Z Tt Z Z Z (AC.mid [_,_] Mo L (qeh D _ _ β2 Mo lo hWo 0 O _ Q13)) ?_;rintro _ _ s9 h9 ⟨M1,rfl,rfl,hW1⟩;refine ⟨(fun x hx _=>qe7 hx),?_⟩;simp only [cQ9,nQ9];have hWx:Wr β2 M1 (lo++qg4 x):=by rw [hT];exact hW1
   refine qah V<|G4 ?_;refine qaV Z Z Z (w64 O O)<|G2 ?_;refine qaf ⟨(k+1,M1,lo++qg4 x),[_],kp,Z,⟨(e5.t h7|>.t h8|>.t h9),⟨by simp only;omega,hWx,by simp only;rw [← hS,qeC hx,List.append_assoc]⟩⟩,Oz⟩
  have g1:=c6;refine J8 ?_ ?_<;>intro c7
  ·have hT:=qCG c7;refine G4 ?_;refine qae (qav Z Z Uo) Z<|qae (qav Z Z Uo) Z<|Jc Z Z Z (AC.mid [_,_] Mo L (qeh D _ _ β2 Mo lo hWo 0 O _ Q13)) ?_;rintro _ _ s8 h8 ⟨M1,rfl,rfl,hW1⟩;simp only [cQ9,nQ9];have hWx:Wr β2 M1 (lo++qg4 x):=by rw [hT];exact hW1
   refine G5 ?_;refine qaV Z Z Z (w64 O O)<|G2 ?_;refine qaf ⟨(k+1,M1,lo++qg4 x),[_],kp,Z,⟨(e5.t h8),⟨by simp only;omega,hWx,by simp only;rw [← hS,qeC hx,List.append_assoc]⟩⟩,Oz⟩
  have g2:=c7;refine J9 ?_ ?_<;>intro c8
  ·have hT:=qCH g1 g2 (List.eq_nil_of_length_eq_zero O);refine qaB qab 11 Z 2 fun s9 h9=>H3 ?_;refine za 3 Z (qav Z Z Uo) Z<|za 4 Z (qav Z Z Uo) Z<|H2 ?_;refine qaq 7 V<|Jf Z Tt Z Z Z (qej D _ _ (hG.le (e3.t h5|>.t h9)) _ hux) fun s10 h10=>za 8 Z (qav Z Z Uo) Z<|za 9 Z (qav Z Z Uo) Z<|qaq 10 V<|Jb Z Tt Z Z Z (AC.mid [_,_] Mo L (qeh D _ _ β2 Mo lo hWo 0 O _ Q13)) ?_;rintro _ _ s11 h11 ⟨M1,rfl,rfl,hW1⟩;refine ⟨(fun x hx _=>qe7 hx),?_⟩;simp only [cQ9,nQ9];have hWx:Wr β2 M1 (lo++qg4 x):=by rw [hT];exact hW1
   refine qah V<|G4 ?_;refine qaV Z Z Z (w64 O O)<|G2 ?_;refine qaf ⟨(k+1,M1,lo++qg4 x),[_],kp,Z,⟨(e5.t h9|>.t h10|>.t h11),⟨by simp only;omega,hWx,by simp only;rw [← hS,qeC hx,List.append_assoc]⟩⟩,Oz⟩
  have hT:=qCI g1 g2 (fun h=>by rw [h] at hni;simp at hni;omega);refine qaB qab 16 Z 2 fun s9 h9=>H3 ?_;refine za 3 Z (qav Z Z Uo) Z<|za 4 Z (qav Z Z Uo) Z<|H4 ?_;refine qaq 7 V<|Jf Z Tt Z Z Z (qej D _ _ (hG.le (e3.t h5|>.t h9)) _ hux) fun s10 h10=>za 8 Z (qav Z Z Uo) Z<|za 9 Z (qav Z Z Uo) Z<|qaq 12 V<|Jf Z Tt Z Z Z (qnh D _ _ (hG.le (e3.t h5|>.t h9|>.t h10)) Ai ni ci x.init (hix.le (h5.t h9|>.t h10)) O) fun s11 h11=>za 13 Z (qav Z Z Uo) Z<|za 14 Z (qav Z Z Uo) Z<|qaq 15 V<|Jb Z Tt Z Z Z (AC.mid [_,_] Mo L (qeh D _ _ β2 Mo lo hWo 0 O _ Q13)) ?_;rintro _ _ s12 h12 ⟨M1,rfl,rfl,hW1⟩;refine ⟨(fun x hx _=>qe7 hx),?_⟩;simp only [cQ9,nQ9];have hWx:Wr β2 M1 (lo++qg4 x):=by rw [hT];exact hW1
  refine qah V<|G4 ?_;refine qaV Z Z Z (w64 O O)<|G2 ?_;refine qaf ⟨(k+1,M1,lo++qg4 x),[_],kp,Z,⟨(e5.t h9|>.t h10|>.t h11|>.t h12),⟨by simp only;omega,hWx,by simp only;rw [← hS,qeC hx,List.append_assoc]⟩⟩,Oz⟩
 rw [List.drop_eq_nil_of_le O,List.map_nil,List.flatten_nil,List.append_nil] at hS;refine G15 ?_;refine qaH (γ:=Nat×Hl×List UInt8) (fun g=>[(2,_),(3,_),(76,_),(77,_),(78,.int .i64 (g.1:Int))]) (fun g=>(β1,cb [.slice Ag ng cg,.slice Af nf cf] 25)::(g.2.1++L)) (fun g tw=>Le D s3 tw∧(g.1≤nf∧Wr β2 g.2.1 g.2.2∧g.2.2++((p.funcs.drop g.1).map qnx).flatten=qsL p)) (fun g=>nf - g.1) (fun _ _ _ h hl=>⟨h.1.trans hl,h.2⟩) (0,Mo,lo) (.c5 Z Z Z Z Z (.nil _)) Z ⟨Le.refl _,⟨Nat.zero_le _,hWo,by simp only [List.drop_zero];rw [hS,qsL]⟩⟩ ?_;intro g s5 I5;have e5:=e3.t I5.1;obtain ⟨k,Mo,lo⟩:=g;obtain ⟨hk0,hWo,hS⟩:=I5.2;simp only at hk0 hWo hS;dsimp only;have hle:=congrArg List.length hS;simp only [List.length_append] at hle;refine J6 ?_ ?_<;>intro c6
 ·have hk:k < nf:=by omega
  obtain ⟨b,off,x,B1,m1,d1,B2,m2,d2,B3,m3,d3,rfl,hx,hcx,hpx,hlx,hbx,hnl⟩:=Fncs.at_ (hFn.le e5) hk;obtain ⟨hi1,hi2,hi3,hi4,hi5,hi6⟩:=hVf x (List.mem_of_getElem? hx);have hil:=qcl hi1;have hp1:=qb6 x.params;have hp2:=qgC x.params fun w hw=>hi4 w (List.mem_append_left _ hw);have hl1:=qb6 x.locals;have hl2:=qgC x.locals fun w hw=>hi4 w (List.mem_append_right _ hw);have hln:=hlx.1;have hbl:=qfE x.body 1 hi5 (hUf x (List.mem_of_getElem? hx));refine G6 ?_;refine qae (qaw Z Z Z Z Z Z hk) Z<|qae (qat Z Z Z (hcx.le (Lr D)) Z) Z<|qac Z [_,_,_,_] Z Z fun β7 s7 h7=>Wt 0 [_,_,_,_] Y9<|Nt<|Zs<|qaB qab 11 Z 2 fun s8 h8=>H3 ?_;refine za 3 Z (qav Z Z Uo) Z<|za 4 Z (qav Z Z Uo) Z<|H2 ?_;refine qaq 7 V<|Jf Z Tt Z Z Z (qgy D _ _ B1 m1 d1 x.params (hpx.le (h7.t h8)) O) fun s9 h9=>za 8 Z (qav Z Z Uo) Z<|za 9 Z (qav Z Z Uo) Z<|qaq 10 V<|Jb Z Tt Z Z Z (AC.mid [_,_] Mo L (qeh D _ _ β2 Mo lo hWo 0 O _ Q13)) ?_;have e9:=I5.1.t h7|>.t h8|>.t h9;rintro _ _ s10 h10 ⟨M1,rfl,rfl,hW1⟩;have e10:=h7.t h8|>.t h9|>.t h10;refine ⟨(fun x hx _=>qe7 hx),?_⟩;simp only [cQ9,nQ9];refine qah V<|J10 ?_ ?_<;>intro c11
  ·have hlc:x.locals≠[]:=fun h=>by rw [h] at hln;simp at hln;omega
   refine G4 ?_;refine Je Z Z Z (qgy D _ _ B2 m2 d2 x.locals (hlx.le e10) O) fun s12 h12=>qae (qav Z Z Uo) Z<|qae (qav Z Z Uo) Z<|Jc Z Z Z (AC.mid [_,_] M1 L (qeh D _ _ β2 M1 _ hW1 1 O _ Q13)) ?_;rintro _ _ s13 h13 ⟨M2,rfl,rfl,hW2⟩;simp only [cQ9,nQ9];refine G7 ?_;refine Jc Z Z Z (AC.mid [_,_] M2 L ((alls D d).1 _ _ (hG.le (e5.t h7|>.t h8|>.t h9|>.t h10|>.t h12|>.t h13)) β2 M2 _ hW2 B3 m3 d3 x.body 1 (hbx.le (e10.t h12|>.t h13)) hi5 hi6 O Q27)) ?_;rintro _ _ s14 h14 ⟨M3,rfl,rfl,hW3⟩;simp only [cQ9,nQ9];refine G4 ?_;refine Jc Z Z Z (AC.mid [_,_] M3 L (qeh D _ _ β2 M3 _ hW3 0 O [125] Q13)) ?_;rintro _ _ s15 h15 ⟨M4,rfl,rfl,hW4⟩;simp only [cQ9,nQ9];have hWx:Wr β2 M4 (lo++qnx x):=by simpa [qnx,hlc,qa4,List.append_assoc] using hW4
   refine G4 ?_;refine qaV Z Z Z (w64 O O)<|G2 ?_;refine qaf ⟨(k+1,M4,lo++qnx x),[_],kp,Z,⟨(e9.t h10|>.t h12|>.t h13|>.t h14|>.t h15),⟨by simp only;omega,hWx,by simp only;rw [← hS,qeC hx,List.append_assoc]⟩⟩,Oz⟩
  have hlc:x.locals=[]:=List.eq_nil_of_length_eq_zero O;refine G7 ?_;refine Jc Z Z Z (AC.mid [_,_] M1 L ((alls D d).1 _ _ (hG.le (e5.t h7|>.t h8|>.t h9|>.t h10)) β2 M1 _ hW1 B3 m3 d3 x.body 1 (hbx.le e10) hi5 hi6 O Q27)) ?_;rintro _ _ s12 h12 ⟨M3,rfl,rfl,hW3⟩;simp only [cQ9,nQ9];refine G4 ?_;refine Jc Z Z Z (AC.mid [_,_] M3 L (qeh D _ _ β2 M3 _ hW3 0 O [125] Q13)) ?_;rintro _ _ s13 h13 ⟨M4,rfl,rfl,hW4⟩;simp only [cQ9,nQ9];have hWx:Wr β2 M4 (lo++qnx x):=by simpa [qnx,hlc,qa4,List.append_assoc] using hW4
  refine G4 ?_;refine qaV Z Z Z (w64 O O)<|G2 ?_;refine qaf ⟨(k+1,M4,lo++qnx x),[_],kp,Z,⟨(e9.t h10|>.t h12|>.t h13),⟨by simp only;omega,hWx,by simp only;rw [← hS,qeC hx,List.append_assoc]⟩⟩,Oz⟩
 rw [List.drop_eq_nil_of_le O,List.map_nil,List.flatten_nil,List.append_nil] at hS;refine G10 ?_;refine Jc Z Z Z (qop D [_] L _ β2 Mo lo hWo) ?_;rintro _ _ s7 h7 ⟨rfl,rfl⟩;simp only [cQ9,nQ9];refine G4 ?_;exact rX [_] L Z (e5.t h7) fun _ hS2=>⟨by rw [← hS];rfl,rfl⟩
def bT{p:Prop}[Decidable p](h:p):Value.bool (decide p)=.bool true:=by rw [decide_eq_true h]
def bF{p:Prop}[Decidable p](h:p):Value.bool (!decide p)=.bool false:=by rw [decide_eq_true h];rfl
def bZ{p:Prop}[Decidable p](h:¬ p):Value.bool (decide p)=.bool false:=by rw [decide_eq_false h]
def qi5{p:Prop} (h:p:=by
 exact ⟨by rw [hE];rfl,rfl⟩):p:=h
def qkD(hG:GP s)(d:Nat)(p:Prg)(Ag Af:Option Addr)(ng cg nf cf:Nat)(hGl:Glos s Ag ng cg p.globals)(hFn:Fncs d s Af nf cf p.funcs):AC Tryz.prog D 40 [.agg #[.slice Ag ng cg,.slice Af nf cf]] L s fun v L' _=>v=.agg #[.int .i64 (qhI p).1,.int .i64 (qhI p).2]∧L=L':=by
 have hn1:=hGl.1;have hn2:=hFn.1;have hU:prU p:=⟨hGl.u,hFn.u⟩;refine qad (fn:=Tryz.f40) qao Tryz.func40 V Z Tryz.ntmps40 Z (rs:=[.cell 2 30]) Z [(0,_)] Z<|Sr<|qar Z Z fun β1 s1 h1=>qac Z [_,_] Z Z fun β2 s2 h2=>G3 ?_;have e2:=h1.t h2;refine qbA 20 (64 < ng∨64 < nf) ?_ ?_
 ·refine G6 ?_;refine qap (t:=15) Z ?_ ?_<;>intro c4;·refine G6 ?_;exact qqV
  refine G10 ?_;refine qaf (MidB.mk (Lr D) Sb Z (decide_eq_decide.2 O))
 intro s3 h3;have e3:=e2.t h3;refine qaa Z ?_ ?_<;>intro c5
 ·have hE:qhI p=(2,-1):=by rw [qsK (by rw [qp9 O];simp),qp9 O]
  refine Sr<|Je Z Z Z (qeb D _ _ _ _) fun s6 h6=>Wt 0 [_,_] Y9<|G4 ?_;exact rR [_,_] L (.agg (us:=[_,_]) 0 Z Z Z Z Z (.nil)) Z (e3.t h6) fun _ hS2=>qi5
 have g20:¬ (64 < p.globals.length∨64 < p.funcs.length):=by omega
 refine G17 ?_;refine qc0 [_,_] (γ:=Nat×Nat) (fun g=>[(1,_),(2,_),(3,.int .i64 (g.2:Int)),(23,_),(24,_),(25,.int .i64 (g.1:Int))]) (fun g=>L) (fun g tw=>Le D s3 tw∧(g.1≤ng∧glF p.globals 0=glF (p.globals.drop g.1) g.1∧g.2=((p.globals.take g.1).map fun g=>g.init.length).sum∧g.2≤g.1 * 40000)) (fun g=>ng - g.1) (fun _ _ _ h hl=>⟨h.1.trans hl,h.2⟩) (0,0) (.c6 Z Z Z Z Z Z (.nil _)) Z ⟨Le.refl _,⟨Nat.zero_le _,Z,Z,Nat.zero_le _⟩⟩ ?_;intro g s6 I6;have e6:=e3.t I6.1;simp only [cQ9,nQ9];obtain ⟨k,z⟩:=g;obtain ⟨hk0,hS,hz,hz4⟩:=I6.2;simp only at hk0 hS hz hz4;dsimp only;refine J6 ?_ ?_<;>intro c7
 ·have hk:k < ng:=by omega
  obtain ⟨b,off,x,Ai,ni,ci,rfl,hx,hcx,hix,hux,hnl⟩:=Glos.at_ (hGl.le e6) hk;have hni:=hix.1;refine G7 ?_;refine qae (qaw Z Z Z Z Z Z hk) Z<|qae (qat Z Z Z (hcx.le (Lr D)) Z) Z<|qac Z [_,_,_,_] Z Z fun β8 s8 h8=>Zqa Z Z<|Wt 0 [_,_,_,_] Y9<|Nt<|Zs<|Sr<|qae (qaj 0 [_,_,_,_] Z Z Z Z Z) Z<|Je Z Z Z (qoD D _ _ (hG.le (e6.t h8)) x Ai ni ci (hix.le h8) hux) fun s9 h9=>G9 ?_;refine qaR Z ?_ ?_<;>intro c10
  ·have hE:qhI p=(qe4 x,(k:Int)):=by
     have h9:glF p.globals 0=(qe4 x,(k:Int)):=by rw [hS,qvD hx,if_pos c10]
     have h8:qbM p=(qe4 x,(k:Int)):=by rw [qDq g20 (by rw [h9];exact c10),h9]
     rw [qsK (by rw [h8];exact c10),h8]
   refine G4 ?_;refine Je Z Z Z (qeb D _ _ _ _) fun s11 h11=>Wt 1 [_,_] Y9<|G9 ?_;exact rR [_,_,_] L (.agg (us:=[_,_]) 1 Z Z Z Z Z (.nil)) Z (e6.t h8|>.t h9|>.t h11) fun _ hS2=>qi5
  have g33:¬ qe4 x≠0:=fun h=>h c10;have hg4:=(qbS (show qe4 x=0 by simpa using g33)).2.2.2.2.2;refine G7 ?_;refine qae (qaI Z Z (show IntKind.i64.wrap ((z:Int)+(ni:Int))=((z+ni:Nat):Int) by rw [w64 O O];simp)) Z<|G5 ?_;refine qaV Z Z Z (w64 O O)<|G2 ?_;refine qaf ⟨(k+1,z+ni),[_],kp,Z,⟨(I6.1.t h8|>.t h9),⟨by simp only;omega,by simp only;rw [hS,qvD hx,if_neg g33],by simp only;rw [qAa hx,← hz,hni],by simp only;omega⟩⟩,Oz⟩
 rw [List.drop_eq_nil_of_le O] at hS;rw [List.take_of_length_le O] at hz;refine J12 ?_ ?_<;>intro c8
 ·have hE:qhI p=(2,-1):=by rw [qsK (by rw [qms g20 hS O];simp),qms g20 hS O]
  refine Sr<|Je Z Z Z (qeb D _ _ _ _) fun s9 h9=>Wt 0 [_,_] Y9<|G4 ?_;exact rR [_,_] L (.agg (us:=[_,_]) 0 Z Z Z Z Z (.nil)) Z (e6.t h9) fun _ hS2=>qi5
 have g44:=qFH g20 hS O;refine Zk<|Zt<|Sr<|qae (qai [] [_] Z Z Z Z Z Z) Z<|qar Z Z fun β9 s9 h9=>G12 ?_;refine Zp ?_;have e9:=e6.t h9;refine qaH (γ:=Nat×Nat) (fun g=>[(1,_),(2,_),(7,_),(49,_),(50,_),(51,.int .i64 (g.1:Int))]) (fun g=>(β9,cb [.int .i64 (g.2:Int)] 169)::_::_::L) (fun g tw=>Le D s9 tw∧(g.1≤nf∧g.2≤2000∧fnF p.funcs p.globals.length 0=fnF (p.funcs.drop g.1) (p.globals.length+g.1) g.2)) (fun g=>nf - g.1) (fun _ _ _ h hl=>⟨h.1.trans hl,h.2⟩) (0,0) (.c6 Z Z Z Z Z Z (.nil _)) Z ⟨Le.refl _,⟨Nat.zero_le _,Nat.zero_le _,Z⟩⟩ ?_;intro g s10 I10;have e10:=e9.t I10.1;obtain ⟨k,ck⟩:=g;obtain ⟨hk0,hck,hS2⟩:=I10.2;simp only at hk0 hck hS2;dsimp only;refine J6 ?_ ?_<;>intro c11
 ·have hk:k < nf:=by omega
  obtain ⟨b,off,x,B1,m1,d1,B2,m2,d2,B3,m3,d3,rfl,hx,hcx,hpx,hlx,hbx,hnl⟩:=Fncs.at_ (hFn.le e10) hk;refine G7 ?_;refine qae (qaw Z Z Z Z Z Z hk) Z<|qae (qat Z Z Z (hcx.le (Lr D)) Z) Z<|qac Z [_,_,_,_] Z Z fun β12 s12 h12=>Zqa Z Z<|Wt 0 [_,_,_,_] Y9<|G5 ?_;refine qae (qaj 0 [_,_,_,_] Z Z Z Z Z) Z<|Jc Z Z Z (qmT D _ _ _ (hG.le (e10.t h12)) _ ck d x B1 B2 B3 m1 d1 m2 d2 m3 d3 (hpx.le h12) (hlx.le h12) (hbx.le h12) hck) ?_;rintro _ _ s13 h13 ⟨rfl,rfl⟩;refine G9 ?_;refine qaR Z ?_ ?_<;>intro c14
  ·have hE:qhI p=((fnC x ck).2,((ng+k:Nat):Int)):=by
     have h8:qbM p=((fnC x ck).2,((ng+k:Nat):Int)):=by rw [g44,hS2,qvy hx,if_pos c14,hn1]
     rw [qsK (by rw [h8];exact c14),h8]
   refine G4 ?_;refine Wl 3 Y6<|G2 ?_;refine qae (qaI Z Z (show IntKind.i64.wrap ((ng:Int)+(k:Int))=((ng+k:Nat):Int) by rw [w64 O O];simp)) Z<|Je Z Z Z (qeb D _ _ _ _) fun s15 h15=>Wt 2 [_,_] Y9<|G8 ?_;exact rR [_,_,_,_] L (.agg (us:=[_,_]) 2 Z Z Z Z Z (.nil)) Z (e10.t h12|>.t h13|>.t h15) fun _ hS2=>qi5
  have g60:¬ (fnC x ck).2≠0:=fun h=>h c14;refine G4 ?_;refine qaV Z Z Z (w64 O O)<|G2 ?_;refine qaf ⟨(k+1,(fnC x ck).1),[_],kp,Z,⟨(I10.1.t h12|>.t h13),⟨by simp only;omega,by simp only;have hw:=qlY (show (fnC x ck).2=0 by simpa using g60);omega,by simp only;rw [hS2,qvy hx,if_neg g60];rfl⟩⟩,Oz⟩
 rw [List.drop_eq_nil_of_le O] at hS2;have hsh:qbM p=(0,0):=by rw [g44,hS2];rfl
 have hV:=PV.of hU (by rw [hsh]);refine G8 ?_;refine qae (qaj 2 [_,_] Z Z Z Z Z) Z<|Je Z Z Z (qza D _ _ (hG.le e10) d p Ag Af ng cg nf cf (hGl.le e10) (hFn.le e10) hV) fun s12 h12=>qjg Z Z Z Z<|J3 ?_ ?_<;>intro c13;·have hE:=qyE hsh O;refine Sr<|Je Z Z Z (qeb D _ _ _ _) fun s14 h14=>Wt 1 [_,_] Y9<|G4 ?_;exact rR [_,_,_] L (.agg (us:=[_,_]) 1 Z Z Z Z Z (.nil)) Z (e10.t h12|>.t h14) fun _ hS2=>qi5
 have hE:=qFz hsh O;refine Zk<|Zt<|Sr<|qae (qai [] [_,_] Z Z Z Z Z Z) Z<|Wt 1 [_,_] Y9<|G3 ?_;exact rR [_,_,_] L (.agg (us:=[_,_]) 1 Z Z Z Z Z (.nil)) Z (e10.t h12) fun _ hS2=>qi5
end Go.Proofs.YtlfiplbamnpgoaaGreatDoor
namespace Go.Proofs.YtlfiplbamnpgoaaGreatDoor
open Go Go.FL
variable(D:Nat)(L:Hl)(s:World){k:Nat}{p:Prg}
abbrev Use:=Str×Int×Int
def qeo(x:Stm):Use:=if x.kind=1 then (x.name,1,0) else if x.kind=2 then (x.name,3,0) else if x.kind=5 then (x.name,4,(x.exprs.length:Int)) else ([],0,0)
def qen(x:Ex):Use:=if x.kind=2 then (x.name,2,0) else if x.kind=3 then (x.name,3,0) else if x.kind=4 then (x.name,4,(x.args.length:Int)) else ([],0,0)
inductive Nd where
 | st (x:Stm) (loops:Nat)
 | ex (x:Ex) (loops:Nat)
def Nd.use:Nd→Use
 | .st x _=>qeo x
 | .ex x _=>qen x
mutual
def ndX:Ex→Nat→List Nd
 | .mk k o n nm az,lp=>.ex (.mk k o n nm az) lp::qfI az lp
def qfI:List Ex→Nat→List Nd
 | [],_=>[]
 | x::r,lp=>ndX x lp++qfI r lp
end
mutual
def ndS:Stm→Nat→List Nd
 | .mk k nm es b e,lp=>.st (.mk k nm es b e) lp::(qfI es lp++(qdf b (if k=4 then lp+1 else lp)++qdf e (if k=4 then lp+1 else lp)))
def qdf:List Stm→Nat→List Nd
 | [],_=>[]
 | x::r,lp=>ndS x lp++qdf r lp
end
def qh8:List Glo→List Str→Nat→Int×Int
 | [],_,_=>(0,0)
 | g::r,seen,i=>if g.name∈seen then (8,(i:Int)) else qh8 r (seen++[g.name]) (i+1)
def qhG:List Fnc→List Str→Nat→Int×Int
 | [],_,_=>(0,0)
 | x::r,seen,i=>if x.name∈seen∨¬ (x.params++x.locals).Nodup then (8,(i:Int)) else qhG r (seen++[x.name]) (i+1)
def qbI:Str:=[109,97,105,110]
def qcQ(l:List Fnc):Int:=qaN (fun x=>decide (x.name=qbI)) l 0
def qcf(p:Prg):Int×Int:=if (qh8 p.globals [] 0).1≠0 then qh8 p.globals [] 0 else if (qhG p.funcs (p.globals.map Glo.name) p.globals.length).1≠0 then qhG p.funcs (p.globals.map Glo.name) p.globals.length
 else if qcQ p.funcs < 0 then (12,-1) else match p.funcs[(qcQ p.funcs).toNat]? with
  | some x=>if x.params=[] then (0,0) else (9,-1)
  | none=>(0,0)
def idxOf_mem{w:Str}:∀ {l:List Str} {k:Nat},(0≤qaN (fun x=>decide (w=x)) l k)↔w∈l
 | [],k=>by simp [qaN]
 | x::r,k=>by
  rw [qaN];by_cases h:w=x
  · simp [h]
  · rw [if_neg Q4,idxOf_mem];simp [h]
def qh2{α:Type}{p:α→Bool}{x:α}:∀ {l:List α} {k:Nat},qaN p (l++[x]) k=if 0≤qaN p l k then qaN p l k else if p x=true then ((k+l.length:Nat):Int) else -1
 | [],k=>by simp [qaN]
 | y::r,k=>by
  rw [List.cons_append,qaN,qaN];by_cases h:p y=true
  · rw [if_pos h,if_pos h,if_pos O]
  · rw [if_neg h,if_neg h,qh2,List.length_cons,show k+1+r.length=k+(r.length+1) by omega]
def qfq{α:Type}{p:α→Bool}:∀ {l:List α} {k:Nat},qaN p l k < ((k+l.length:Nat):Int)
 | [],k=>by simp [qaN];omega
 | y::r,k=>by
  rw [qaN];split
  · rw [List.length_cons];omega
  · have:=qfq (p:=p) (l:=r) (k:=k+1);rw [List.length_cons];omega
def qpx{l:List Glo}{i:Nat}{x:Glo}{seen:List Str}(h:l[k]?=some x):qh8 (l.drop k) seen i=if x.name∈seen then (8,(i:Int)) else qh8 (l.drop (k+1)) (seen++[x.name]) (i+1):=by
 obtain ⟨hk,rfl⟩:=List.getElem?_eq_some_iff.1 h;rw [List.drop_eq_getElem_cons hk,qh8]
def qpv{l:List Fnc}{i:Nat}{x:Fnc}{seen:List Str}(h:l[k]?=some x):qhG (l.drop k) seen i=if x.name∈seen∨¬ (x.params++x.locals).Nodup then (8,(i:Int)) else qhG (l.drop (k+1)) (seen++[x.name]) (i+1):=by
 obtain ⟨hk,rfl⟩:=List.getElem?_eq_some_iff.1 h;rw [List.drop_eq_getElem_cons hk,qhG]
def qng{l:List Str}{x:Str}(h:l[k]?=some x)(hn:(l.take k).Nodup)(hx:x ∉ l.take k):(l.take (k+1)).Nodup:=by
 obtain ⟨hk,rfl⟩:=List.getElem?_eq_some_iff.1 h;rw [List.take_succ_eq_append_getElem hk,List.nodup_append];refine ⟨hn,by simp,fun a ha b hb=>?_⟩;rw [List.mem_singleton] at hb;subst hb;intro e;subst e;exact hx ha
theorem qhH{l:List Str}{x:Str}(h:l[k]?=some x)(hx:x∈l.take k):¬ l.Nodup:=by grind [List.take_append_drop,List.nodup_append]
open Go.Proofs.Tryz
open Go.FL
attribute [local irreducible] JC JO JA JB qaJ qax qbN AC fill CellsAt QE Ev Mid
def qde(c i:Int):AC prog D 45 [.int .i64 c,.int .i64 i] L s fun v L' _=>v=.agg #[.int .i64 c,.int .i64 i]∧L=L':=by
 refine qad (fn:=f45) qao func45 V Z ntmps45 Z (rs:=[.cell 4 30]) Z [(0,_),(1,_)] Z<|Sr<|qac Z [_,_] Z Z ?_;exact qAu
def qEi{p:Prop} (h:p:=by
 subst hn;refine ⟨?_,Z⟩;simp only [qbP];unfold qeo;repeat' split
 all_goals (first|rfl|(exfalso;omega)|(exfalso;simp_all;done))):p:=h
def Ez31{p:Prop} (h:p:=by
 refine G4 ?_;refine qae (qbD Z Z Z Z) Z<|qae (qa8 1 Z Z Z (hx.le (h1.t h2)) Z) Z<|qae (qai [(_,_),(_,_),(_,_)] [_,_,_] Z Z Z Z Z Z) Z<|Wt 0 [_,_,_] Y9<|G6 ?_;exact rR [_,_] L (.agg (us:=[_,_,_]) 0 Z Z Z Z Z (.nil)) Z (h1.t h2) fun _ hS2=>qEi):p:=h
def qF2(x:Stm)(b o:Nat)(A1 A2 A3:Option Addr)(n1 q1 n2 q2 n3 q3:Nat)(hx:CellsAt s b o [.int .i64 x.kind,St x.name,.slice A1 n1 q1,.slice A2 n2 q2,.slice A3 n3 q3])(hn:n1=x.exprs.length)(lp:Int):AC prog D 76 [.agg #[.pointer (some ⟨b,o,none⟩),.pointer none,.int .i64 lp]] L s fun v L' _=>v=.agg #[St (qeo x).1,.int .i64 (qeo x).2.1,.int .i64 (qeo x).2.2]∧L=L':=by
 refine qad (fn:=f76) qao func76 V Z ntmps76 Z (rs:=[.cell 2 180]) Z [(0,_)] Z<|Sr<|qar Z Z fun β1 s1 h1=>qac Z [_,_,_] Z Z fun β2 s2 h2=>G7 ?_;refine qae (qaC (v':=.bool true) (qlx underlying127 Z) Z) Z<|G16 ?_;refine qae (qak Z Z Z (hx.le (h1.t h2)) Z) Z<|G9 ?_;have e2:=h1.t h2;refine qaa Z ?_ ?_<;>intro c3;·exact Ez31
 refine J6 ?_ ?_<;>intro c4;·exact Ez31
 refine J6 ?_ ?_<;>intro c5;·refine Zs<|qaU qab 11 Z [0] Q3 fun s6 h6=>H3 ?_;refine za 3 Z (qa8 1 Z Z Z (hx.le (e2.t h6)) Z) Z<|H3 ?_;refine za 7 Z (qa8 2 Z Z Z (hx.le (e2.t h6)) Z) Z<|H1 ?_;refine za 9 Z (qai [(_,_),(_,_),(_,_)] [_,_,_] Z Z Z Z Z Z) Z<|qaq 10 V<|Wu Z Tt 0 [_,_,_] Y9 (sM (sbY (sbE _)))<|qah V<|G5 ?_;exact rR [_,_] L (.agg (us:=[_,_,_]) 0 Z Z Z Z Z (.nil)) Z (e2.t h6) fun _ hS2=>qEi
 refine G5 ?_;refine qae (qai [] [_,_,_] Z Z Z Z Z Z) Z<|Wt 0 [_,_,_] Y9<|G4 ?_;exact rR [_,_] L (.agg (us:=[_,_,_]) 0 Z Z Z Z Z (.nil)) Z e2 fun _ hS2=>qEi
def qEj{p:Prop} (h:p:=by
 subst hn;refine ⟨?_,Z⟩;simp only [qbP];unfold qen;repeat' split
 all_goals (first|rfl|(exfalso;omega)|(exfalso;simp_all;done))):p:=h
def Ez32{p:Prop} (h:p:=by
 refine G4 ?_;refine qae (qbD Z Z Z Z) Z<|qae (qa8 3 Z Z Z (hx.le (h1.t h2)) Z) Z<|qae (qai [(_,_),(_,_),(_,_)] [_,_,_] Z Z Z Z Z Z) Z<|Wt 0 [_,_,_] Y9<|G5 ?_;exact rR [_,_] L (.agg (us:=[_,_,_]) 0 Z Z Z Z Z (.nil)) Z (h1.t h2) fun _ hS2=>qEj):p:=h
def qF1(x:Ex)(b o:Nat)(A:Option Addr)(n c:Nat)(hx:CellsAt s b o [.int .i64 x.kind,.int .i64 x.op,.int .u32 x.num,St x.name,.slice A n c])(hn:n=x.args.length)(lp:Int):AC prog D 76 [.agg #[.pointer none,.pointer (some ⟨b,o,none⟩),.int .i64 lp]] L s fun v L' _=>v=.agg #[St (qen x).1,.int .i64 (qen x).2.1,.int .i64 (qen x).2.2]∧L=L':=by
 refine qad (fn:=f76) qao func76 V Z ntmps76 Z (rs:=[.cell 2 180]) Z [(0,_)] Z<|Sr<|qar Z Z fun β1 s1 h1=>qac Z [_,_,_] Z Z fun β2 s2 h2=>G7 ?_;refine qae (qaC (v':=.bool false) (qlx underlying127 Z) Z) Z<|G18 ?_;refine qae (qak Z Z Z (hx.le (h1.t h2)) Z) Z<|G9 ?_;have e2:=h1.t h2;refine qaa Z ?_ ?_<;>intro c3;·exact Ez32
 refine J6 ?_ ?_<;>intro c4;·exact Ez32
 refine J6 ?_ ?_<;>intro c5;·refine Zs<|qaU qab 11 Z [0] Q3 fun s6 h6=>H3 ?_;refine za 3 Z (qa8 3 Z Z Z (hx.le (e2.t h6)) Z) Z<|H3 ?_;refine za 7 Z (qa8 4 Z Z Z (hx.le (e2.t h6)) Z) Z<|H1 ?_;refine za 9 Z (qai [(_,_),(_,_),(_,_)] [_,_,_] Z Z Z Z Z Z) Z<|qaq 10 V<|Wu Z Tt 0 [_,_,_] Y9 (sM (sbY (sbE _)))<|qah V<|G4 ?_;exact rR [_,_] L (.agg (us:=[_,_,_]) 0 Z Z Z Z Z (.nil)) Z (e2.t h6) fun _ hS2=>qEj
 refine G5 ?_;refine qae (qai [] [_,_,_] Z Z Z Z Z Z) Z<|Wt 0 [_,_,_] Y9<|G3 ?_;exact rR [_,_] L (.agg (us:=[_,_,_]) 0 Z Z Z Z Z (.nil)) Z e2 fun _ hS2=>qEj
def qhj(A:Option Addr)(n c:Nat)(l:List Str)(hA:Strs s A n c l)(w:Str):AC prog D 71 [.slice A n c,St w] L s fun v L' _=>v=.bool (decide (w∈l))∧L=L':=by
 have h:=qmp D L s A n c l hA w
 rwa [show decide (0≤qaN (fun x=>decide (w=x)) l 0)=decide (w∈l) from decide_eq_decide.2 idxOf_mem] at h
def qs0:qil prog 71:=by
 have h:=qhj 0 [] (default:World) none 0 0 [] ⟨rfl,Nat.zero_le _,by omega,fun i x h=>by cases h⟩ [];exact AC.ok h
def qkn(D:Nat)(X L:Hl)(s:World)(M:Hl)(A:Option Addr)(n c:Nat)(l:List Str)(hO:FL.Own 9 1 M (.slice A n c) n (sb l))(hu:∀ x∈l,x.length≤9223372036854775807)(hn:n=l.length)(w:Str):AC prog D 71 [.slice A n c,St w] (X++(M++L)) s fun v L' _=>v=.bool (decide (w∈l))∧L'=X++(M++L):=
 AC.perm (List.perm_append_comm_assoc ..) (AC.lend M (qDa hO) qs0 fun ho=>qhj D (X++L) _ A n c l (Own.strs hO hu (qyG ho) hn) w) fun v L1 s1 ⟨g0,g1⟩=>⟨_,by rw [← g1];exact List.perm_append_comm_assoc ..,g0,rfl⟩
def qyH(A:Option Addr)(n c:Nat)(l:List Str)(hA:Strs s A n c l):AC prog D 72 [.slice A n c] L s fun v L' _=>v=.bool (decide (¬ l.Nodup))∧L=L':=by
 have hn:=hA.1;have hq1:=hA.2.1;have hq2:=hA.2.2.1;refine qad (fn:=f72) qao func72 V Z ntmps72 Z (rs:=[.tmp 2]) Z [(0,_)] Z<|G14 ?_;refine qaH (γ:=Nat) (fun k=>[(0,_),(2,_),(5,_),(6,_),(7,.int .i64 (k:Int))]) (fun _=>_) (fun k tw=>Le D s tw∧(k≤n∧(l.take k).Nodup)) (fun k=>n - k) (fun _ _ _ h hl=>⟨h.1.trans hl,h.2⟩) 0 (.c5 Z Z Z Z Z (.nil _)) Z ⟨Le.refl _,⟨Nat.zero_le _,by simp⟩⟩ ?_;intro k s1 I1;have hI:=I1.2.2;refine J6 ?_ ?_<;>intro c2
 ·have hk:k < n:=by omega
  obtain ⟨b,off,x,rfl,hx,hcx,hxl⟩:=Strs.at_ (hA.le I1.1) hk;refine G7 ?_;refine qae (qaQ Z Z Z Z Z Z hk) Z<|qae (qak Z Z Z (hcx.le (Lr D)) Z) Z<|G8 ?_;refine qae (qgJ (j:=k) Z Z Z Z Z O) Z<|Zqm Z Z<|Je Z Z Z (qhj D _ _ _ k c (l.take k) (Sl.take (hA.le I1.1) hk) x) fun s3 h3=>J2 ?_ ?_<;>intro c4;·have hz:=c4;refine G11 ?_;exact rX [] L Z (I1.1.t h3) fun _ hS2=>⟨by rw [decide_eq_true (qhH hx hz)];rfl,rfl⟩
  have hz:=c4;refine G4 ?_;refine qaV Z Z Z (w64 O O)<|G2 ?_;refine qaf ⟨(k+1),[],kp,Z,⟨(I1.1.t h3),⟨by omega,qng hx hI hz⟩⟩,O⟩
 rw [List.take_of_length_le O] at hI;refine G11 ?_;exact rR [] L (.t1 Z) Z I1.1 fun _ hS2=>⟨by rw [decide_eq_false (fun h=>h hI)];rfl,rfl⟩
def qpB:(∀ {l:List Glo} {seen:List Str} {i:Nat},(qh8 l seen i).1=0→qh8 l seen i=(0,0))∧∀ {l:List Fnc} {seen:List Str} {i:Nat},(qhG l seen i).1=0→qhG l seen i=(0,0):=by
  constructor
  · intro l
    induction l with
    | nil=>intros;rfl
    | cons x r ih=>
      intro seen i h;rw [qh8] at h ⊢;split at h
      · cases h
      · rename_i h1;rw [if_neg h1];exact ih h
  · intro l
    induction l with
    | nil=>intros;rfl
    | cons x r ih=>
      intro seen i h;rw [qhG] at h ⊢;split at h
      · cases h
      · rename_i h1;rw [if_neg h1];exact ih h
def nF_g(h:(qh8 p.globals [] 0).1≠0):qcf p=qh8 p.globals [] 0:=by rw [qcf,if_pos h]
theorem nF_f(h0:qh8 p.globals [] 0=(0,0))(h:(qhG p.funcs (p.globals.map Glo.name) p.globals.length).1≠0):qcf p=qhG p.funcs (p.globals.map Glo.name) p.globals.length:=by grind [qcf]
theorem nF_m(h0:qh8 p.globals [] 0=(0,0))(h1:qhG p.funcs (p.globals.map Glo.name) p.globals.length=(0,0))(h:qcQ p.funcs < 0):qcf p=(12,-1):=by grind [qcf]
def nF_p{x:Fnc}{j:Nat}(h0:qh8 p.globals [] 0=(0,0))(h1:qhG p.funcs (p.globals.map Glo.name) p.globals.length=(0,0))(h:qcQ p.funcs=(j:Int))(hx:p.funcs[j]?=some x):qcf p=if x.params=[] then (0,0) else (9,-1):=by
 rw [qcf,h0,if_neg (by simp),h1,if_neg (by simp),h,if_neg O,Int.toNat_natCast,hx]
def qsr(hV:PV p):(∀ w∈p.globals.map Glo.name,w.length≤9223372036854775807)∧∀ w∈p.funcs.map Fnc.name,w.length≤9223372036854775807:=by
  obtain ⟨_,_,hg,hf,_⟩:=hV;constructor
  · intro w hw
    obtain ⟨x,hx,rfl⟩:=List.mem_map.1 hw;have:=qcl (qbS (hg x hx).1).2.2.1;omega
  · intro w hw
    obtain ⟨x,hx,rfl⟩:=List.mem_map.1 hw;have:=qcl (hf x hx).1;omega
def ql4{α:Type}{p:α→Bool}:∀ {l:List α} {k:Nat},(0≤qaN p l k→∃ y∈l,p y=true)∧(qaN p l k < 0→qaN p l k=-1)
  | [],k=>⟨fun h=>by simp [qaN] at h,fun _=>rfl⟩
  | y::r,k=>by
    rw [qaN];by_cases h:p y=true
    · rw [if_pos h];exact ⟨fun _=>⟨y,List.mem_cons_self ..,h⟩,fun h=>by omega⟩
    · rw [if_neg h]
      have ih:=ql4 (p:=p) (l:=r) (k:=k+1);exact ⟨fun h=>by obtain ⟨z,h1,h2⟩:=ih.1 h;exact ⟨z,List.mem_cons_of_mem _ h1,h2⟩,ih.2⟩
def qpp{l:List Fnc}{x:Fnc}(hx:l[k]?=some x)(hz:x.name ∉ (l.take k).map Fnc.name):qaN (fun x:Fnc=>decide (x.name=qbI)) (l.take (k+1)) 0=if x.name=qbI then (k:Int) else qaN (fun x:Fnc=>decide (x.name=qbI)) (l.take k) 0:=by
  obtain ⟨hk,rfl⟩:=List.getElem?_eq_some_iff.1 hx;rw [List.take_succ_eq_append_getElem hk,qh2,List.length_take];have he:=ql4 (p:=fun x:Fnc=>decide (x.name=qbI)) (l:=l.take k) (k:=0);by_cases hm:l[k].name=qbI
  · rw [if_pos hm,if_neg,if_pos (by simpa using hm),show min k l.length=k by omega,Nat.zero_add]
    intro h0;obtain ⟨y,hy,e⟩:=he.1 h0;exact hz (List.mem_map.2 ⟨y,hy,by rw [hm];simpa using e⟩)
  · rw [if_neg hm]
    split
    · rfl
    · rename_i h0
      rw [if_neg (by simpa using hm)];exact (he.2 O).symm
def Ez21{p:Prop} (h:p:=by
 refine qaf ⟨(k+1,.slice Avq (ng+k+1) cvq,Mq),[_],(.c3 Z Z Z (.cons (congrArg (fun i=>some (Value.int .i64 i)) (by rw [qpp hx (fun h=>hz (.inl (List.mem_append_right _ h)))];first|rw [if_pos hmn]|rw [if_neg hmn])) kp)),Z,⟨(I5.1.t h7|>.t h8|>.t h15|>.t h16),⟨by simp only;omega,by rw [qbW Fnc.name hx,← List.append_assoc,qgg];exact oq,by simp only;rw [hS2,qpv hx,if_neg hz,qbW Fnc.name hx,List.append_assoc];rfl⟩⟩,Oz⟩):p:=h
def qxA(d:Nat)(p:Prg)(Ag Af:Option Addr)(ng cg nf cf:Nat)(hGl:Glos s Ag ng cg p.globals)(hFn:Fncs d s Af nf cf p.funcs)(hV:PV p):AC prog D 41 [.agg #[.slice Ag ng cg,.slice Af nf cf]] L s fun v L' _=>v=.agg #[.int .i64 (qcf p).1,.int .i64 (qcf p).2]∧L=L':=by
 have hn1:=hGl.1;have hn2:=hFn.1;obtain ⟨hN1,hN2⟩:=qsr hV;have hV1:=hV.1;have hV2:=hV.2.1;have hVf:=hV.2.2.2.1;refine qad (fn:=f41) qao func41 V Z ntmps41 Z (rs:=[.cell 2 30]) Z [(0,_)] Z<|Sr<|qar Z Z fun β1 s1 h1=>qac Z [_,_] Z Z fun β2 s2 h2=>G17 ?_;have e2:=h1.t h2;refine qaH (γ:=Nat×Value×Hl) (fun g=>[(1,_),(2,_),(3,g.2.1),(10,_),(11,_),(12,.int .i64 (g.1:Int))]) (fun g=>_::_::(g.2.2++L)) (fun g tw=>Le D s2 tw∧(g.1≤ng∧FL.Own 9 1 g.2.2 g.2.1 g.1 (sb ((p.globals.take g.1).map Glo.name))∧qh8 p.globals [] 0=qh8 (p.globals.drop g.1) ((p.globals.take g.1).map Glo.name) g.1)) (fun g=>ng - g.1) (fun _ _ _ h hl=>⟨h.1.trans hl,h.2⟩) (0,.slice none 0 0,[]) (.c6 Z Z Z Z Z Z (.nil _)) Z ⟨Le.refl _,⟨Nat.zero_le _,Own.nil,Z⟩⟩ ?_;intro g s3 I3;have e3:=e2.t I3.1;obtain ⟨k,vo,Mo⟩:=g;obtain ⟨hk0,hO,hS⟩:=I3.2;simp only at hk0 hO hS;dsimp only;obtain ⟨Av,cv,rfl,hv1,hv2⟩:=Own.slice hO;refine J6 ?_ ?_<;>intro c4
 ·have hk:k < ng:=by omega
  obtain ⟨b,off,x,Ai,ni,ci,rfl,hx,hcx,hix,hux,hnl⟩:=Glos.at_ (hGl.le e3) hk;refine G7 ?_;refine qae (qaw Z Z Z Z Z Z hk) Z<|qae (qat Z Z Z (hcx.le (Lr D)) Z) Z<|qac Z [_,_,_,_] Z Z fun β5 s5 h5=>Zqa Z Z<|Wt 0 [_,_,_,_] Y9<|G8 ?_;refine Jc Z Z Z (qkn D [_,_,_] L _ Mo Av k cv _ hO (fun w hw=>hN1 w (by rw [List.map_take] at hw;exact List.mem_of_mem_take hw)) (by rw [List.length_map,List.length_take];omega) x.name) ?_;rintro _ _ s6 h6 ⟨rfl,rfl⟩;simp only [cQ9,nQ9];refine J2 ?_ ?_<;>intro c7
  ·have hE:qcf p=(8,(k:Int)):=by
     have h9:qh8 p.globals [] 0=(8,(k:Int)):=by rw [hS,qpx hx,if_pos c7]
     rw [nF_g (by rw [h9];simp),h9]
   refine Sr<|Zqm Z Z<|Je Z Z Z (qde D _ _ _ _) fun s8 h8=>Wt 1 [_,_] Y9<|G9 ?_;exact rR (_::_::_::Mo) L (.agg (us:=[_,_]) 1 Z Z Z Z Z (.nil)) Z (e3.t h5|>.t h6|>.t h8) fun _ hS2=>qi5
  have hz:=c7;refine G6 ?_;refine qbd [(_,_)] [_] Z Z Z Z Z Z Z Z Z fun βn s8 h8 hcb=>qcT (sz:=1) [_,_,_] Mo L Z Z Z Z Z Z Z hO (Row.of_cells (hcb.le (Lr D)) Z Z) ⟨by simp [ti9];omega,by omega⟩ Z ?_;intro vq Mq s9 h9 oq;obtain ⟨Avq,cvq,rfl,_,_⟩:=Own.slice oq;simp only [cQ9,nQ9];refine G5 ?_;refine qaV Z Z Z (w64 O O)<|G2 ?_;refine qaf ⟨(k+1,.slice Avq (k+1) cvq,Mq),[_],kp,Z,⟨(I3.1.t h5|>.t h6|>.t h8|>.t h9),⟨by simp only;omega,by rw [qbW Glo.name hx,qgg];exact oq,by simp only;rw [hS,qpx hx,if_neg hz,qbW Glo.name hx]⟩⟩,Oz⟩
 obtain rfl:ng=k:=by omega
 rw [List.drop_eq_nil_of_le O,qh8] at hS;rw [List.take_of_length_le O] at hO;refine G20 ?_;refine qaH (γ:=Nat×Value×Hl) (fun g=>[(1,_),(2,_),(3,g.2.1),(6,.int .i64 (qaN (fun x=>decide (x.name=qbI)) (p.funcs.take g.1) 0)),(30,_),(31,_),(32,.int .i64 (g.1:Int))]) (fun g=>_::_::(g.2.2++L)) (fun g tw=>Le D s3 tw∧(g.1≤nf∧FL.Own 9 1 g.2.2 g.2.1 (ng+g.1) (sb (p.globals.map Glo.name++(p.funcs.take g.1).map Fnc.name))∧qhG p.funcs (p.globals.map Glo.name) p.globals.length=qhG (p.funcs.drop g.1) (p.globals.map Glo.name++(p.funcs.take g.1).map Fnc.name) (p.globals.length+g.1))) (fun g=>nf - g.1) (fun _ _ _ h hl=>⟨h.1.trans hl,h.2⟩) (0,.slice Av ng cv,Mo) (.c6 Z Z Z Z Z Z (.cons Z (.nil _))) Z ⟨Le.refl _,⟨Nat.zero_le _,by simpa using hO,by simp⟩⟩ ?_;intro g s5 I5;have e5:=e3.t I5.1;obtain ⟨k,vo,Mo⟩:=g;obtain ⟨hk0,hO,hS2⟩:=I5.2;simp only at hk0 hO hS2;dsimp only;obtain ⟨Av,cv,rfl,hv1,hv2⟩:=Own.slice hO;refine J6 ?_ ?_<;>intro c6
 ·have hk:k < nf:=by omega
  obtain ⟨b,off,x,B1,m1,d1,B2,m2,d2,B3,m3,d3,rfl,hx,hcx,hpx,hlx,hbx,hnl⟩:=Fncs.at_ (hFn.le e5) hk;obtain ⟨hi1,hi2,hi3,hi4,hi5,hi6⟩:=hVf x (List.mem_of_getElem? hx);have hp9:=hpx.1;have hl9:=hlx.1;refine G7 ?_;refine qae (qaw Z Z Z Z Z Z hk) Z<|qae (qat Z Z Z (hcx.le (Lr D)) Z) Z<|qac Z [_,_,_,_] Z Z fun β7 s7 h7=>Zqa Z Z<|Wt 0 [_,_,_,_] Y9<|G3 ?_;refine qbA 49 (x.name∈(p.globals.map Glo.name++(p.funcs.take k).map Fnc.name)∨¬ (x.params++x.locals).Nodup) ?_ ?_
  ·refine G4 ?_;refine Jc Z Z Z (qkn D [_,_,_] L _ Mo Av (ng+k) cv _ hO (fun w hw=>(List.mem_append.1 hw).elim (hN1 w) (fun hw=>hN2 w (by rw [List.map_take] at hw;exact List.mem_of_mem_take hw))) (by rw [List.length_append,List.length_map,List.length_map,List.length_take];omega) x.name) ?_;rintro _ _ s9 h9 ⟨rfl,rfl⟩;simp only [cQ9,nQ9];refine Zqm Z Z ?_;refine qap (t:=41) Z ?_ ?_<;>intro c10;·refine G9 ?_;refine qaf (MidB.mk h9 Sb Z ((decide_eq_true (.inl As)).symm))
   refine G9 ?_;refine qbd [(_,_),(_,_)] [_,_] Z Z Z Z Z Z Z Z Z fun βp s11 h11 hcp=>Zg Z Z<|Jc Z Z Z (qjA D _ _ _ B1 B2 m1 d1 m2 d2 x.params x.locals (hpx.le (h7.t h9|>.t h11)) (hlx.le (h7.t h9|>.t h11)) (hcp.le (Lr D)) O O) ?_;rintro _ _ s12 h12 ⟨rfl,Aq,nq,cq,rfl,hQ⟩;refine Zg Z Z<|Je Z Z Z (qyH D _ _ Aq nq cq _ (hQ.le (Lr D))) fun s13 h13=>G2 ?_;refine qaf (MidB.mk (h9.t h11|>.t h12|>.t h13) Sb Z (decide_eq_decide.2 (⟨fun h=>.inr h,fun h=>h.resolve_left As⟩)))
  intro s8 h8;refine qaa Z ?_ ?_<;>intro c14
  ·have hE:qcf p=(8,((ng+k:Nat):Int)):=by
     have h9:qhG p.funcs (p.globals.map Glo.name) p.globals.length=(8,((ng+k:Nat):Int)):=by rw [hS2,qpv hx,if_pos c14,hn1]
     rw [nF_f hS (by rw [h9];simp),h9]
   refine G6 ?_;refine qae (qaI Z Z (show IntKind.i64.wrap ((ng:Int)+(k:Int))=((ng+k:Nat):Int) by rw [w64 O O];simp)) Z<|Je Z Z Z (qde D _ _ _ _) fun s15 h15=>Wt 1 [_,_] Y9<|G9 ?_;exact rR (_::_::_::Mo) L (.agg (us:=[_,_]) 1 Z Z Z Z Z (.nil)) Z (e5.t h7|>.t h8|>.t h15) fun _ hS2=>qi5
  have hz:=c14;refine G7 ?_;refine qbd [(_,_)] [_] Z Z Z Z Z Z Z Z Z fun βn s15 h15 hcb=>qcT (sz:=1) [_,_,_] Mo L Z Z Z Z Z Z Z hO (Row.of_cells (hcb.le (Lr D)) Z Z) ⟨by simp [ti9];omega,by omega⟩ Z ?_;intro vq Mq s16 h16 oq;obtain ⟨Avq,cvq,rfl,_,_⟩:=Own.slice oq;simp only [cQ9,nQ9];refine G7 ?_;refine qio Z Z Z<|J2 ?_ ?_<;>intro c17;·have hmn:x.name=qbI:=c17;refine G7 ?_;refine qaV Z Z Z (w64 O O)<|G2 ?_;exact Ez21
  have hmn:¬ x.name=qbI:=c17;refine G4 ?_;refine qaV Z Z Z (w64 O O)<|G2 ?_;exact Ez21
 rw [List.drop_eq_nil_of_le O,qhG] at hS2;rw [List.take_of_length_le (show p.funcs.length≤k by omega)];refine J12 ?_ ?_<;>intro c7;·have hE:=nF_m hS hS2 (show qcQ p.funcs < 0 from c7);refine Sr<|Je Z Z Z (qde D _ _ _ _) fun s8 h8=>Wt 0 [_,_] Y9<|G4 ?_;exact rR (_::_::Mo) L (.agg (us:=[_,_]) 0 Z Z Z Z Z (.nil)) Z (e5.t h8) fun _ hS2=>qi5
 obtain ⟨j,hj⟩:=Int.eq_ofNat_of_zero_le (show 0≤qcQ p.funcs by unfold qcQ;omega);have hjl:=qfq (p:=fun x:Fnc=>decide (x.name=qbI)) (l:=p.funcs) (k:=0);have hjl2:j < nf:=by unfold qcQ at hj;omega
 obtain ⟨b,off,x,B1,m1,d1,B2,m2,d2,B3,m3,d3,rfl,hx,hcx,hpx,hlx,hbx,hnl⟩:=Fncs.at_ (hFn.le e5) hjl2;have hp9:=hpx.1;have hE:=nF_p hS hS2 hj hx;rw [show qaN (fun x:Fnc=>decide (x.name=qbI)) p.funcs 0=(j:Int) from hj];refine G8 ?_;refine qae (qaw (j:=j) Z Z Z Z Z Z hjl2) Z<|qae (qbD Z Z Z Z) Z<|qae (qa8 1 Z Z Z (hcx.le (Lr D)) Z) Z<|J4 ?_ ?_<;>intro c8;·rw [if_neg (fun h=>by rw [h] at hp9;simp at hp9;omega)] at hE;refine Sr<|Je Z Z Z (qde D _ _ _ _) fun s9 h9=>Wt 0 [_,_] Y9<|G4 ?_;exact rR (_::_::Mo) L (.agg (us:=[_,_]) 0 Z Z Z Z Z (.nil)) Z (e5.t h9) fun _ hS2=>qi5
 rw [if_pos (List.eq_nil_of_length_eq_zero O)] at hE;refine Zk<|Zt<|Sr<|qae (qai [] [_,_] Z Z Z Z Z Z) Z<|Wt 0 [_,_] Y9<|G3 ?_;exact rR (_::_::Mo) L (.agg (us:=[_,_]) 0 Z Z Z Z Z (.nil)) Z e5 fun _ hS2=>qi5
end Go.Proofs.YtlfiplbamnpgoaaGreatDoor
namespace Go.FL
open Go Go.RowKit
def MapS{κ:Type}(s:World)(kf:κ→Value)(b:Nat)(es:List (κ×Value×Nat)):Prop:=∃ ck,s.heap[b]?=some (mp kf es ck)
def MapS.le{κ:Type}{D:Nat}{s s':World}{kf:κ→Value}{b:Nat}{es:List (κ×Value×Nat)}(h:MapS s kf b es)(hl:Le D s s'):MapS s' kf b es:=by
 obtain ⟨ck,h⟩:=h;refine ⟨ck,?_⟩;have hb:b < s.heap.size:=by
  rcases Nat.lt_or_ge b s.heap.size with h1|h1
  · exact h1
  · rw [Array.getElem?_eq_none h1] at h;cases h
 rcases hl.block b hb with h1|h1
 · rw [h] at h1;cases h1
 · rw [h1,h]
def Ez83{p:Prop} (h:p:=by
 obtain ⟨ck,hb⟩:=hi.le (hl.trans (qe2 ho));simp only [execOp,hρ x _ hx,hρ y _ hy,Sem.run_bind,qhg KK hm hb,Result.andThen_ok,Sem.run_pure];rfl):p:=h
def qdE{P:Program}{TT:qaM}{D:Nat}{fr:Fr}{ty:Nat}{K:Hl}{s0:World}{κ:Type} [DecidableEq κ] {dk:TypeDesc} {kf:κ→Value} (KK:KeyK κ dk kf) {t b:Nat} {x y:Operand} {z:Value} (hm:qfd P t dk z) {es:List (κ×Value×Nat)} {k:κ} (hx:lk fr x=some (.map (some b))) (hy:lk fr y=some (kf k)) (hi:MapS s0 kf b es) :
  QE P TT D fr (.lookup t x y true) ty K s0 (.tuple #[(qaW es k).getD z,.bool (qaW es k).isSome]):=fun hT dst pos af g ρ hρ L s ho hl hK=>by
 exact Ez83
def AC.pubO{P:Program}{D:Nat}{f:FuncId}{args:List Value}{L:Hl}{s:World}{R:Value→Hl→World→Prop}(h:AC P D f args L s (fun v L' s'=>∃ M',L'=M'++L∧R v M' s')) :
  AC P D f args L s (fun v L' s'=>L=L'∧∃ M' s1,R v M' s1∧Le D s1 s'∧∀ b o,(b,o)∈M'→s'.heap[b]?=some o):=by
 refine ⟨h.1,fun ho=>(h.2 ho).mono ?_⟩;rintro e w' ⟨v,L',s',h1,rfl,h3,h4,M',rfl,h6⟩;obtain ⟨d1,d2,d3⟩:=qbp h3;exact ⟨v,L,fill M' s',h1,d1,d2,h4.trans d3,rfl,M',s',h6,d3,fun b o hm=>qa3 h3.left hm⟩
end Go.FL
