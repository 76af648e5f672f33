/- Part 8. -/
import Derived.Test.YtapeaicongaggaaGreatDoorQ41z7
set_option linter.unusedVariables false
set_option linter.defProp false
set_option linter.unusedSimpArgs false
set_option linter.unnecessarySimpa false
set_option maxRecDepth 100000
set_option maxHeartbeats 8000000
namespace Go.Proofs.YtapeaicongaggaaGreatDoor
open Go Go.RowKit Go.Proofs.Tryz
def bY:=@List.flatten_append
def dj:=@List.flatMap_cons
def eZ:=@Nat.eq_zero_or_pos
def gU:=@List.Perm.append_right
def ia:=@Nat.not_lt_zero
def ii:=@Nat.ble_eq_true_of_le
variable{D n k b cp ng cg nf cf j ty e c bb T:Nat}{s s' s0:World}{Af Ap A Ag Bg Bf Ad A1 A2 A3:OAdr9}{L K:Hl}{p:ja}{x:iT}{i kd a:Int}{Ms:List Hl}{P:Program}{zs vs R v ys yc:LVal9}{nm:iR}{os:Array Obj}{nd:Nd}{css:List LVal9}{m:LInt9}{nv:Value}{F' G' F G:List Bool}{y:Code}{Q:qd}
section
attribute [local irreducible] JC JO JA JB lZ mF mM AC fill iH QE Ev mq
def tmv(l:List Tm):LVal9:=(l.map λx=>[iJ x.kind,iO x.val]).flatten
def FC(x:Int):Bool:=decide (0<=x) && decide (x < 4294967296)
def Nk{x:Int}(h:FC x=true):iY x:=by simpa [FC,iY] using h
def ZI{α β:Type}{R:α->β->Prop}{f:α->β}{l:List α}(h:∀ a∈l,R a (f a)):kI R l (l.map f):=by
 induction l with
 | nil=>exact .nil
 | cons a l ih=>exact .cons (h a Mc) (ih λx hx=>h x (aq _ hx))
def UB{l:List Tm}(h:iH s b 0 (tmv l))(hu:(Nat.blt l.length 99 && l.all λx=>FC x.val)=true):Cq s (j6 b) l.length l.length l:=by
 simp only [aA,bV] at hu;exact Sl.lit _ h rfl (ZI λa ha=>⟨rfl,rfl,Nk (hu.2 a ha)⟩) _ rfl (by have:=bE hu.1;omega)
def QY{l:List Ac}(h:iH s b 0 (BJ l))(hu:(Nat.blt l.length 99 && l.all λx=>FC x.x.val && FC x.y.val)=true):pH s (j6 b) l.length l.length l:=by
 simp only [aA,bV] at hu;exact Sl.lit _ h rfl (ZI λa ha=>⟨rfl,rfl,Nk (hu.2 a ha).1,Nk (hu.2 a ha).2⟩) _ rfl (by have:=bE hu.1;omega)
def ke(k:Nat):List Ac:=(ji.U.getD k ⟨[],0,false,[]⟩).ad
def fB(f b:Nat):wM:=.eq (.func (.func f) #[] #[jc b])
def f0(f:Nat):wM:=.eq (.func (.func f) #[] #[])
def tT(k v:Int):wM:=.eq (.agg #[iJ k,iO v])
def rT(l:List Tm):wM:=.row l.length (tmv l)
def dL(l:List Ac)(j:Nat):wM:=.eq (.agg (l.getD j ⟨0,0,⟨0,0⟩,⟨0,0⟩⟩).cs.toArray)
def aT:wM:=.of (λ_ _=>True) λ_ _ _ _ h _=>h
def rA(l:List Ac):wM:=.row l.length (BJ l)
def pA(l:List Ac):wM:=.of (λv s=>∃ A n c,v=.slice A n c/\pH s A n c l) λ_ _ _ _ ⟨A,n,c,e,h⟩ hl=>⟨A,n,c,e,h.le hl⟩
def DI(Ap:OAdr9)(cp k:Nat)(g:Value×Hl×List LVal9)(s:World):Prop:=
 Own 108 4 g.2.1 g.1 k g.2.2.flatten/\kI (λx cs=>cs.length=4/\wO s x cs) (ji.U.take k) g.2.2/\pH s Ap 2 cp Jo
def DI.le{g:Value×Hl×List LVal9}(h:DI Ap cp k g s)(hl:Le D s s'):DI Ap cp k g s':=⟨h.1,SY h.2.1 hl,h.2.2.le hl⟩
def qAf:(ji.U.all λx=>Nat.ble x.name.length 99 && FC x.code)=true:=by decide +kernel
def IV{name:iR}{op:Bool}{l:List Ac}(hA:pH s A n c l){β:Nat}{g:Value×Hl×List LVal9}(hI:DI Ap cp k g s)(hx:ji.U[k]?=some ⟨name,(k:Int)+1,op,l⟩) :
  Ap9 D 39 [St name,.bool op,.slice A n c,jc β] (((β,cb [iJ 65536,g.1] 57)::g.2.1)++L) s λw L' s'=>∃ M',L'=M'++L/\∃ g',M'=(β,cb [iJ 65536,g'.1] 57)::g'.2.1/\DI Ap cp (k+1) g' s':=by
 have hk:k < 32:=(al.1 hx).1;have hc:=bV.1 qAf _ (ay hx);simp only [aA] at hc;have h9:name.length<=99:=bE hc.1;refine (qFd L s name op A n c β g.1 g.2.1 k hI.1 O).mono ?_;rintro w L' s' hl ⟨M',rfl,_,v2,M2,rfl,o2⟩;exact ⟨_,rfl,(v2,M2,g.2.2++[_]),rfl,by rw [qoH];exact o2,by rw [qvi hx];exact kI.snoc (SY hI.2.1 hl) ⟨rfl,_,_,_,rfl,hA.le hl,by simp only;omega,Nk hc.2⟩,hI.2.2.le hl⟩
attribute [local irreducible] JL JE
def AL{p:Nat->Prop}{m:Nat} (h:rK p m:=by
      repeat' (first|exact trivial|refine ⟨?_,?_⟩|fail)
      all_goals intro mB
      all_goals (try exact absurd rfl mB)
      all_goals
        rintro _ _ _ _ hP hor;rcases hor with rfl|⟨hz,β,rfl⟩
      all_goals (try exact absurd hz Dc)
      all_goals
        repeat (intro u q;first|obtain rfl:=q|obtain ⟨b,rfl,cq⟩:=q)
        first
          | exact DJ rfl (EC rfl) rfl
          | exact DJ rfl (jh 0 [_,_] ⟨rfl,rfl,rfl,rfl,rfl⟩) rfl
          | exact DJ rfl (jh 5 [_,_] ⟨rfl,rfl,rfl,rfl,rfl⟩) rfl
          | exact DJ rfl (jh 4 [_,_] ⟨rfl,rfl,rfl,rfl,rfl⟩) rfl
          | exact DJ rfl (jh 3 [_,_] ⟨rfl,rfl,rfl,rfl,rfl⟩) rfl
          | exact DJ rfl (jh 2 [_,_] ⟨rfl,rfl,rfl,rfl,rfl⟩) rfl
          | exact DJ rfl (jh 1 [_,_] ⟨rfl,rfl,rfl,rfl,rfl⟩) rfl
          | exact DJ rfl (jh 6 [_,_] ⟨rfl,rfl,rfl,rfl,rfl⟩) rfl
          | exact NO rfl (first:=[]) (captured:=[]) rfl rfl (qGw _ _) Q26
          | exact NO rfl (first:=[]) (captured:=[]) rfl rfl (Xk _ _ _ (UB cq rfl) Dc) Q26
          | exact NO rfl (first:=[]) (captured:=[]) rfl rfl (Xk _ _ _ (UA) Dc) Q26
          | exact Gr rfl [(_,_)] [_,_] rfl rfl rfl rfl rfl rfl rfl rfl (λβ _ _ hc=>⟨β,rfl,hc⟩)
          | exact Gr rfl [(_,_),(_,_)] [_,_,_,_] rfl rfl rfl rfl rfl rfl rfl rfl (λβ _ _ hc=>⟨β,rfl,hc⟩)
          | exact Gr rfl [(_,_)] [_,_,_,_,_,_] rfl rfl rfl rfl rfl rfl rfl rfl (λβ _ _ hc=>⟨β,rfl,hc⟩)
          | exact Gr rfl [(_,_),(_,_)] [_,_,_,_,_,_,_,_,_,_,_,_] rfl rfl rfl rfl rfl rfl rfl rfl (λβ _ _ hc=>⟨β,rfl,hc⟩)
          | exact Gr rfl [(_,_),(_,_),(_,_)] [_,_,_,_,_,_,_,_,_,_,_,_,_,_,_,_,_,_] rfl rfl rfl rfl rfl rfl rfl rfl (λβ _ _ hc=>⟨β,rfl,hc⟩)
          | exact Gr rfl [(_,_),(_,_),(_,_),(_,_),(_,_),(_,_)] [_,_,_,_,_,_,_,_,_,_,_,_,_,_,_,_,_,_,_,_,_,_,_,_,_,_,_,_,_,_,_,_,_,_,_,_] rfl rfl rfl rfl rfl rfl rfl rfl (λβ _ _ hc=>⟨β,rfl,hc⟩)
          | exact NO rfl (first:=[]) (captured:=[_]) rfl rfl (AC.mid [_,_,_,_,_,_,_] [_] _ (qo2 _ _ (QY cq rfl) hP.2.2 Dc)) (by rintro _ _ _ _ ⟨_,rfl,rfl,_,_,_,rfl,h⟩;exact ⟨rfl,_,_,_,rfl,h⟩)):rK p m:=h
def pD{id:Nat}{b:Bool}{l:List Oper}{X:Hl}{β:Nat}{fr:Fr}{g:Value×Hl×List LVal9}(m:Nat)(ds:List Nat)(dl:Nat)(dp:List (List Nat))(fs:List wM)(hI:DI Ap cp k g s)
    (next:∀ g' s',Le D s s'->DI Ap cp (k+1) g' s'->JC prog TT D n Q y fr (X++((β,cb [iJ 65536,g'.1] 57)::(g'.2.1++L))) s')
    (hB:Ra b l fr ds dp (some dl) m m 0 n=true:=by kernel_rfl)
    (obl:rK (λi=>i≠m->∀ Q' s' L',Le D s s'->DI Ap cp k g s'->(L'=X++((β,cb [iJ 65536,g.1] 57)::(g.2.1++L))\/m < m/\∃ β',L'=(β',cb [] 0)::(X++((β,cb [iJ 65536,g.1] 57)::(g.2.1++L))))->El (λi=>(fs.getD i (.eq undef)).holds) ds s' (λjS=>JE prog TT D n l.toArray Q' i (ds.getD i 0) jS L' s' ((fs.getD i (.eq undef)).holds)) (dp.getD i []) fr) m:=by exact AL)
    (last:∀ Q' s',Le D s s'->DI Ap cp k g s'->El (λi=>(fs.getD i (.eq undef)).holds) ds s' (λjS=>JL prog TT D n l.toArray Q' m (some dl) jS (X++((β,cb [iJ 65536,g.1] 57)::(g.2.1++L))) s' λ_ L' s2=>∃ g',L'=X++((β,cb [iJ 65536,g'.1] 57)::(g'.2.1++L))/\DI Ap cp (k+1) g' s2) (dp.getD m []) fr:=by
      intro _ _ _ hP;repeat (intro u q;first|obtain rfl:=q|obtain ⟨b,rfl,cq⟩:=q|obtain ⟨A,n,c,rfl,hA⟩:=q)
      first
        | exact SJ rfl (first:=[]) (captured:=[_]) rfl rfl (AC.mid [_,_,_,_,_,_,_,_] (_::_) _ (IV (QY cq rfl) hP rfl)) (by rintro _ _ _ _ ⟨_,rfl,g',rfl,h⟩;exact ⟨g',rfl,h⟩)
        | exact SJ rfl (first:=[]) (captured:=[_]) rfl rfl (AC.mid [_,_,_,_,_,_,_,_] (_::_) _ (IV hA hP rfl)) (by rintro _ _ _ _ ⟨_,rfl,g',rfl,h⟩;exact ⟨g',rfl,h⟩)) :
    JC prog TT D n Q (.seq (.region id l.toArray b) y) fr (X++((β,cb [iJ 65536,g.1] 57)::(g.2.1++L))) s:=by
  refine SI X Z (λg'=>(β,cb [iJ 65536,g'.1] 57)::(g'.2.1++L)) (DI Ap cp (k+1)) (λ_ _ _ h hl=>h.le hl) ?_ next
  refine qxj jF m m 0 [] ds dp (some dl) hB (DI Ap cp k g) (λs' hl=>hI.le hl) (wM.le fs) (λh=>absurd h O) obl (λ_ L' s2=>∃ g',L'=X++((β,cb [iJ 65536,g'.1] 57)::(g'.2.1++L))/\DI Ap cp (k+1) g' s2) ?_ ?_
  . rintro rB L' s' (rfl|⟨h,_⟩) hl ⟨g',rfl,h⟩
    . exact jd (nM.mk g' [] hl sk Pr h)
    . omega
  . rintro Q' s' L' rB hl hI (⟨_,rfl,rfl⟩|⟨h,_⟩)
    . exact last Q' s' hl hI
    . omega
def qmb(L:Hl)(s:World):AN9 D 14 [] L s λv M' s'=>∀ s2,Le D s' s2->mz M' s2->∃ A n c,v=.agg #[iJ 65536,.slice A n c]/\ky s2 A n c ji.U:=by
 refine jv (fn:=f14) jl func14 V Z ntmps14 Z (rs:=[.cell 0 57]) Z [] Z<|Sr<|jp Z [_,_] Y2 λβ1 s1 h1=>Nt<|Sr<|Je Y3 (Kq _ _) λs2 h2=>Je Y3 (Kq _ _) λs3 h3=>Je Y3 (Kq _ _) λs4 h4=>Je Y3 (Kq _ _) λs5 h5=>Je Y3 (Kq _ _) λs6 h6=>jp Z [_,_] Y2 λβ7 s7 h7=>jp Z [_,_] Y2 λβ8 s8 h8=>jp Z [_,_] Y2 λβ9 s9 h9=>jp Z [_,_] Y2 λβ10 ku jN=>jp Z [_,_] Y2 λβ11 kv jP=>Wt 4 [_,_] Y9<|Wt 3 [_,_] Y9<|Wt 2 [_,_] Y9<|Wt 1 [_,_] Y9<|Wt 0 [_,_] Y9<|Nt<|Sr<|iI (jC [(_,_)] [_,_] Y3 Z Z Z) Z<|jp Z [_,_] Y2 λβ12 kc jL=>Wt 0 [_,_] Y9<|Nt<|Sr<|iI (jC [(_,_)] [_,_] Y3 Z Z Z) Z<|jp Z [_,_] Y2 λβ13 kY kN=>Wt 0 [_,_] Y9<|Nt<|Sr<|iI (qw Z) Z<|G8 ?_;refine JU (γ:=Nat×OAdr9×Nat) (λg=>[(10,.pointer (some ⟨g.1,0,none⟩))]) (λg=>[(g.1,cb [.slice g.2.1 2 g.2.2] 106)]) (λg tw=>pH tw g.2.1 2 g.2.2 Jo) (λ_ _ _ h hl=>h.le hl) ?_ ?_
 .refine qxj jF 11 10 106 [.slice none 0 0] [20,21,22,23,24,25,26,27,28,29,10] [[],[],[],[1,2],[0,3],[],[],[6],[5,7],[4,8],[],[9]] none V (λ_=>True) (λ_ _=>Tt) (wM.le [f0 40,tT 1 2,tT 0 1,rT [⟨1,2⟩,⟨0,1⟩],dL Jo 0,f0 40,tT 1 2,rT [⟨1,2⟩],dL Jo 1,rA Jo,aT]) (λ_=>⟨⟨_,Z,Z⟩,λ_ _=>Tt⟩) AL _ (λ_ _ _ _ _ h=>h) ?_;rintro _ _ _ _ hl _ (⟨h,_⟩|⟨_,β,rfl,rfl⟩)
  . exact absurd Dc h
  rintro _ ⟨b,rfl,cq⟩;exact qIh rfl 0 [_] rfl rfl rfl rfl rfl rfl rfl rfl rfl λ_=>jd (jV.mk (β,_,_) [] hl (.cons rfl sk) Pr (QY cq rfl))
 intro g li kz I14;simp only [iU,iV];obtain ⟨bP,APo,cPo⟩:=g;have hPop:=I14;simp only at hPop;dsimp only;refine Sr<|iI (qw Z) Z<|At Z Z<|rG 8<|rG 8<|rG 8<|rG 8<|rG 8<|rG 8<|rG 8<|pD (X:=[_,_,_,_,_,_,_,_]) (g:=(.slice none 0 0,[],[])) 6 [31,32,33,34,35,36] 37 [[],[],[],[2],[1,3],[4],[0,5]] [fB 39 β13,f0 40,tT 1 0,rT [⟨1,0⟩],dL (ke 0) 0,rA (ke 0)] ⟨Own.nil,kI.nil,hPop.le (Lr D)⟩ λg lJ lr I=>pD 6 [38,39,40,41,42,43] 44 [[],[],[],[2],[1,3],[4],[0,5]] [fB 39 β13,f0 40,tT 2 0,rT [⟨2,0⟩],dL (ke 1) 0,rA (ke 1)] I λg qW qD I=>?_;refine pD 6 [45,46,47,48,49,50] 51 [[],[],[],[2],[1,3],[4],[0,5]] [fB 39 β13,f0 40,tT 2 0,rT [⟨2,0⟩],dL (ke 2) 0,rA (ke 2)] I λg tE qR I=>pD 7 [52,53,54,55,56,57,58] 59 [[],[],[],[],[2,3],[1,4],[5],[0,6]] [fB 39 β13,f0 40,tT 2 0,tT 1 0,rT [⟨2,0⟩,⟨1,0⟩],dL (ke 3) 0,rA (ke 3)] I λg yl vm I=>?_;refine pD 11 [60,61,62,63,64,65,66,67,68,69,70] 71 [[],[],[],[],[2,3],[1,4],[],[],[7],[6,8],[5,9],[0,10]] [fB 39 β13,f0 40,tT 1 2,tT 2 0,rT [⟨1,2⟩,⟨2,0⟩],dL (ke 4) 0,f0 40,tT 1 1,rT [⟨1,1⟩],dL (ke 4) 1,rA (ke 4)] I λg ym uh I=>pD 12 [72,73,74,75,76,77,78,79,80,81,82,83] 84 [[],[],[],[],[2,3],[1,4],[],[],[],[7,8],[6,9],[5,10],[0,11]] [fB 39 β13,f0 40,tT 1 2,tT 2 0,rT [⟨1,2⟩,⟨2,0⟩],dL (ke 5) 0,f0 40,tT 1 1,tT 1 0,rT [⟨1,1⟩,⟨1,0⟩],dL (ke 5) 1,rA (ke 5)] I λg vN rQ I=>?_;refine pD 11 [85,86,87,88,89,90,91,92,93,94,95] 96 [[],[],[],[],[2,3],[1,4],[],[],[7],[6,8],[5,9],[0,10]] [fB 39 β13,f0 40,tT 1 0,tT 2 0,rT [⟨1,0⟩,⟨2,0⟩],dL (ke 6) 0,f0 40,tT 1 1,rT [⟨1,1⟩],dL (ke 6) 1,rA (ke 6)] I λg xJ wt I=>?_;refine pD 14 [97,98,99,100,101,102,103,104,105,106,107,108,109,110] 111 [[],[],[],[],[],[3,4],[2,5],[],[],[],[8,9],[7,10],[6,11],[1,12],[0,13]] [fB 39 β13,fB 42 bP,f0 40,tT 1 1,tT 2 0,rT [⟨1,1⟩,⟨2,0⟩],dL (ke 7) 2,f0 40,tT 1 1,tT 1 0,rT [⟨1,1⟩,⟨1,0⟩],dL (ke 7) 3,rA ((ke 7).drop 2),pA (ke 7)] I λg BC AI I=>?_;refine pD 12 [112,113,114,115,116,117,118,119,120,121,122,123] 124 [[],[],[],[],[2,3],[1,4],[],[],[],[7,8],[6,9],[5,10],[0,11]] [fB 39 β13,f0 40,tT 1 2,tT 1 0,rT [⟨1,2⟩,⟨1,0⟩],dL (ke 8) 0,f0 40,tT 1 2,tT 0 1,rT [⟨1,2⟩,⟨0,1⟩],dL (ke 8) 1,rA (ke 8)] I λg zt yJ I=>pD 7 [125,126,127,128,129,130,131] 132 [[],[],[],[],[2,3],[1,4],[5],[0,6]] [fB 39 β13,f0 40,tT 1 2,tT 2 0,rT [⟨1,2⟩,⟨2,0⟩],dL (ke 9) 0,rA (ke 9)] I λg Am yK I=>?_;refine pD 9 [133,134,135,136,137,138,139,140,141] 142 [[],[],[],[],[],[3,4],[2,5],[6],[1,7],[0,8]] [fB 39 β13,fB 42 bP,f0 40,tT 1 1,tT 1 0,rT [⟨1,1⟩,⟨1,0⟩],dL (ke 10) 2,rA ((ke 10).drop 2),pA (ke 10)] I λg s25 h25 I=>pD 9 [143,144,145,146,147,148,149,150,151] 152 [[],[],[],[],[],[3,4],[2,5],[6],[1,7],[0,8]] [fB 39 β13,fB 42 bP,f0 40,tT 1 1,tT 1 0,rT [⟨1,1⟩,⟨1,0⟩],dL (ke 11) 2,rA ((ke 11).drop 2),pA (ke 11)] I λg BE AJ I=>?_;refine pD 9 [153,154,155,156,157,158,159,160,161] 162 [[],[],[],[],[],[3,4],[2,5],[6],[1,7],[0,8]] [fB 39 β13,fB 42 bP,f0 40,tT 1 1,tT 1 0,rT [⟨1,1⟩,⟨1,0⟩],dL (ke 12) 2,rA ((ke 12).drop 2),pA (ke 12)] I λg s27 h27 I=>?_;refine pD 14 [163,164,165,166,167,168,169,170,171,172,173,174,175,176] 177 [[],[],[],[],[],[3,4],[2,5],[],[],[],[8,9],[7,10],[6,11],[1,12],[0,13]] [fB 39 β13,fB 42 bP,f0 40,tT 0 2,tT 1 0,rT [⟨0,2⟩,⟨1,0⟩],dL (ke 13) 2,f0 40,tT 1 1,tT 1 0,rT [⟨1,1⟩,⟨1,0⟩],dL (ke 13) 3,rA ((ke 13).drop 2),pA (ke 13)] I λg s28 h28 I=>?_;refine pD 14 [178,179,180,181,182,183,184,185,186,187,188,189,190,191] 192 [[],[],[],[],[],[3,4],[2,5],[],[],[],[8,9],[7,10],[6,11],[1,12],[0,13]] [fB 39 β13,fB 42 bP,f0 40,tT 0 2,tT 1 0,rT [⟨0,2⟩,⟨1,0⟩],dL (ke 14) 2,f0 40,tT 1 1,tT 1 0,rT [⟨1,1⟩,⟨1,0⟩],dL (ke 14) 3,rA ((ke 14).drop 2),pA (ke 14)] I λg s29 h29 I=>?_;refine pD 9 [193,194,195,196,197,198,199,200,201] 202 [[],[],[],[],[],[3,4],[2,5],[6],[1,7],[0,8]] [fB 39 β13,fB 42 bP,f0 40,tT 1 1,tT 1 0,rT [⟨1,1⟩,⟨1,0⟩],dL (ke 15) 2,rA ((ke 15).drop 2),pA (ke 15)] I λg s30 h30 I=>pD 9 [203,204,205,206,207,208,209,210,211] 212 [[],[],[],[],[],[3,4],[2,5],[6],[1,7],[0,8]] [fB 39 β13,fB 42 bP,f0 40,tT 1 1,tT 1 0,rT [⟨1,1⟩,⟨1,0⟩],dL (ke 16) 2,rA ((ke 16).drop 2),pA (ke 16)] I λg s31 h31 I=>?_;refine pD 9 [213,214,215,216,217,218,219,220,221] 222 [[],[],[],[],[],[3,4],[2,5],[6],[1,7],[0,8]] [fB 39 β13,fB 42 bP,f0 40,tT 1 1,tT 1 0,rT [⟨1,1⟩,⟨1,0⟩],dL (ke 17) 2,rA ((ke 17).drop 2),pA (ke 17)] I λg s32 h32 I=>pD 9 [223,224,225,226,227,228,229,230,231] 232 [[],[],[],[],[],[3,4],[2,5],[6],[1,7],[0,8]] [fB 39 β13,fB 42 bP,f0 40,tT 1 1,tT 1 0,rT [⟨1,1⟩,⟨1,0⟩],dL (ke 18) 2,rA ((ke 18).drop 2),pA (ke 18)] I λg s33 h33 I=>?_;refine pD 9 [233,234,235,236,237,238,239,240,241] 242 [[],[],[],[],[],[3,4],[2,5],[6],[1,7],[0,8]] [fB 39 β13,fB 42 bP,f0 40,tT 1 1,tT 1 0,rT [⟨1,1⟩,⟨1,0⟩],dL (ke 19) 2,rA ((ke 19).drop 2),pA (ke 19)] I λg s34 h34 I=>pD 9 [243,244,245,246,247,248,249,250,251] 252 [[],[],[],[],[],[3,4],[2,5],[6],[1,7],[0,8]] [fB 39 β13,fB 42 bP,f0 40,tT 1 1,tT 1 0,rT [⟨1,1⟩,⟨1,0⟩],dL (ke 20) 2,rA ((ke 20).drop 2),pA (ke 20)] I λg s35 h35 I=>?_;refine pD 9 [253,254,255,256,257,258,259,260,261] 262 [[],[],[],[],[],[3,4],[2,5],[6],[1,7],[0,8]] [fB 39 β13,fB 42 bP,f0 40,tT 1 1,tT 1 0,rT [⟨1,1⟩,⟨1,0⟩],dL (ke 21) 2,rA ((ke 21).drop 2),pA (ke 21)] I λg s36 h36 I=>pD 9 [263,264,265,266,267,268,269,270,271] 272 [[],[],[],[],[],[3,4],[2,5],[6],[1,7],[0,8]] [fB 39 β13,fB 42 bP,f0 40,tT 1 0,tT 1 1,rT [⟨1,0⟩,⟨1,1⟩],dL (ke 22) 2,rA ((ke 22).drop 2),pA (ke 22)] I λg s37 h37 I=>?_;refine pD 7 [273,274,275,276,277,278,279] 280 [[],[],[],[],[2,3],[1,4],[5],[0,6]] [fB 39 β13,f0 40,tT 1 0,tT 0 0,rT [⟨1,0⟩,⟨0,0⟩],dL (ke 23) 0,rA (ke 23)] I λg s38 h38 I=>pD 12 [281,282,283,284,285,286,287,288,289,290,291,292] 293 [[],[],[],[],[2,3],[1,4],[],[],[],[7,8],[6,9],[5,10],[0,11]] [fB 39 β13,f0 40,tT 1 0,tT 2 0,rT [⟨1,0⟩,⟨2,0⟩],dL (ke 24) 0,f0 40,tT 0 1,tT 1 1,rT [⟨0,1⟩,⟨1,1⟩],dL (ke 24) 1,rA (ke 24)] I λg s39 h39 I=>?_;refine pD 6 [294,295,296,297,298,299] 300 [[],[],[],[2],[1,3],[4],[0,5]] [fB 39 β13,f0 40,tT 2 0,rT [⟨2,0⟩],dL (ke 25) 0,rA (ke 25)] I λg s40 h40 I=>pD 7 [301,302,303,304,305,306,307] 308 [[],[],[],[],[2,3],[1,4],[5],[0,6]] [fB 39 β13,f0 40,tT 2 0,tT 1 0,rT [⟨2,0⟩,⟨1,0⟩],dL (ke 26) 0,rA (ke 26)] I λg s41 h41 I=>?_;refine pD 31 [309,310,311,312,313,314,315,316,317,318,319,320,321,322,323,324,325,326,327,328,329,330,331,332,333,334,335,336,337,338,339] 340 [[],[],[],[],[2,3],[1,4],[],[],[],[7,8],[6,9],[],[],[],[12,13],[11,14],[],[],[],[17,18],[16,19],[],[],[],[22,23],[21,24],[],[],[27],[26,28],[5,10,15,20,25,29],[0,30]] [fB 39 β13,f0 40,tT 1 3,tT 0 1,rT [⟨1,3⟩,⟨0,1⟩],dL (ke 27) 0,f0 40,tT 1 3,tT 0 101,rT [⟨1,3⟩,⟨0,101⟩],dL (ke 27) 1,f0 40,tT 0 3,tT 1 1,rT [⟨0,3⟩,⟨1,1⟩],dL (ke 27) 2,f0 40,tT 1 2,tT 1 4,rT [⟨1,2⟩,⟨1,4⟩],dL (ke 27) 3,f0 40,tT 1 2,tT 0 1,rT [⟨1,2⟩,⟨0,1⟩],dL (ke 27) 4,f0 40,tT 2 0,rT [⟨2,0⟩],dL (ke 27) 5,rA (ke 27)] I λg s42 h42 I=>?_;refine pD 16 [341,342,343,344,345,346,347,348,349,350,351,352,353,354,355,356] 357 [[],[],[],[],[2,3],[1,4],[],[],[7],[6,8],[],[],[],[11,12],[10,13],[5,9,14],[0,15]] [fB 39 β13,f0 40,tT 1 2,tT 2 0,rT [⟨1,2⟩,⟨2,0⟩],dL (ke 28) 0,f0 40,tT 1 2,rT [⟨1,2⟩],dL (ke 28) 1,f0 40,tT 1 3,tT 0 1,rT [⟨1,3⟩,⟨0,1⟩],dL (ke 28) 2,rA (ke 28)] I λg s43 h43 I=>pD 4 [358,359,360,361] 362 [[],[],[1],[2],[0,3]] [fB 39 β13,f0 40,dL (ke 29) 0,rA (ke 29)] I λg s44 h44 I=>?_;refine pD 6 [363,364,365,366,367,368] 369 [[],[],[],[2],[1,3],[4],[0,5]] [fB 39 β13,f0 40,tT 1 0,rT [⟨1,0⟩],dL (ke 30) 0,rA (ke 30)] I λg s45 h45 I=>pD 6 [370,371,372,373,374,375] 376 [[],[],[],[2],[1,3],[4],[0,5]] [fB 39 β13,f0 40,tT 2 0,rT [⟨2,0⟩],dL (ke 31) 0,rA (ke 31)] I λg s46 h46 I=>?_;obtain ⟨vj,Mj,css⟩:=g;obtain ⟨xQ,hAj,_⟩:=I;simp only [iU,iV] at xQ hAj ⊢;obtain ⟨Au,cu,rfl,ku1,ku2⟩:=Own.slice xQ;refine Sr<|iI (jh 8 [_,_] Y5) Z<|Wt 6 [_,_] Y9<|G3 ?_;exact rR [_,_,_,_,_,_,_,_,_] _ (.agg (us:=[_,_]) 6 Z Z Z Z Z (.nil)) Z Lc λ_ iL=>⟨Mj,rfl,λs2 kb hp=>⟨_,_,_,rfl,Own.rows xQ hp (SY hAj Lc) rfl⟩⟩
end
section
attribute [local irreducible] JC JO JA JB lZ mF mM AC fill iH QE Ev mq
variable(D:Nat)(L:Hl)(s:World)
def tH(p:ja):Int×Int:=if (kU p).1=0 then (if 49152 < uW p then (14,-1) else (0,0)) else kU p
def BH(p:ja):iR:=if (kU p).1=0 then (if 49152 < uW p then [] else cT (cP p)) else []
def qGY(x:iT):(sE x).map (·.1)=x.locals++x.params:=by
 rw [sE,bR];congr 1<;>(apply gL<;>simp)
def qty{D:Nat}(X L:Hl){s:World}(M:Hl){l:iR}(hW:WC R T bb M l):Ap9 D 72 [jc bb] (X++(M++L)) s λu L' _=>u=St l/\L'=X++L:=
 AC.perm (aO ..) (f_ D (X++L) s bb M l hW) λu L1 s1 ⟨g0,g1⟩=>⟨_,eF _,g0,g1.symm⟩
def qqi{c:Int}:AV9 D 65 [iJ c,iJ i] L s (.agg #[iJ c,iJ i]):=by
 refine jv (fn:=f65) jl func65 V Z ntmps65 Z (rs:=[.cell 4 24]) Z [(0,_),(1,_)] Z<|Sr<|jp Z [_,_] Y2 ?_;exact E6
def GX{p:Prop} (h:p:=by
 first
  | (rw [BH,tH,am hz,am hz];exact ⟨rfl,rfl⟩)
  | (rw [BH,tH,aw hz,aw hz,aw hn,aw hn];exact ⟨rfl,rfl⟩)
  | (refine ⟨?_,rfl⟩;rw [BH,tH,aw hz,aw hz,am O,am O,Xb];simp only [lu,kZ,lz,an,aE,ao,aD];try rfl)):p:=h
def WW{p:Prop} (h:p:=by
 exact rR [_,_,_] L (.tmp Z (.agg (us:=[_,_]) 1 Z Z Z Z Z (.nil))) Z Lc λ_ iL=>GX):p:=h
def qtF(hG:GP s)(d:Nat)(p:ja)(Ag Af:OAdr9)(ng cg nf cf:Nat)(jQ:jn s Ag ng cg p.o)(j8:ju d s Af nf cf p.funcs):AV9 D 33 [.agg #[.slice Ag ng cg,.slice Af nf cf]] L s (.tuple #[St (BH p),.agg #[iJ (tH p).1,iJ (tH p).2]]):=by
 have lX:=jQ.1;have oB:=j8.1;have hq1:=jQ.2.1;have hq2:=jQ.2.2.1;have hq3:=j8.2.1;have hq4:=j8.2.2.1;have hU:si p:=⟨jQ.u,j8.u⟩;refine jv (fn:=f33) jl func33 V Z ntmps33 Z (rs:=[.tmp 2,.cell 3 24]) Z [(0,_)] Z<|Sr<|kH Y2 λβ1 s1 h1=>me Y2<|jp Z [_,_] Y2 λβ2 s2 h2=>Nt<|Sr<|iI (jh 1 [_,_] Y5) Z<|Je Y3 (qAX D _ _ Pz d p Pz Pz) λs3 h3=>G3 ?_;refine jp Z [_,_] Y2 λβ4 s4 h4=>me Y2<|Wt 0 [_,_] Y9<|Nt<|Zs<|Sr<|iI (jh 0 [_,_] Y5) Z<|iI (jC [] [_,_] Y3 Z Z Z) Z<|iI (sL Z Z (rq)) Z<|G2 ?_;refine lD Z ?_ ?_<;>intro c5;.have hz:¬ (kU p).1=0:=λh=>c5 ⟨h,by rw [(sU.of hU h).2]⟩;refine Zs<|pm jF 3 Z [1] Q3 λs6 h6=>za 0 Z (jh 0 [_,_] Y5) Z<|H1 ?_;refine X5 ?_;exact WW
 have hz:(kU p).1=0:=c5.1;obtain ⟨⟨⟨yN,AQ,hVg,rD,_⟩,hnF,hnds⟩,hz2⟩:=sU.of hU hz;obtain ⟨hnd0,hndf⟩:=CB (p:=p) (by rw [hnF]);have hf0:=RK (p:=p) hnF;obtain ⟨im,him,himl⟩:=OF (p:=p) (nm:=jy) hf0;rw [show kW p=gE p++fE p from rfl,bR,bL] at hnd0;have hfB:=Tf p.funcs λx hx=>(rD x hx).2.2.2.2.2;refine J9 ?_ ?_<;>intro c6;.have hn:=c6;rw [aw hz] at hn;have hn:49152 < uW p:=hn;refine Sr<|Je Y3 (qqi D _ _) λs7 h7=>me Y2<|Wt 1 [_,_] Y9<|G4 ?_;exact WW
 have hn:=c6;rw [aw hz] at hn;have hcp:=(Xc hU hz O).2;rw [Xb] at hcp;simp only [lu,kZ,lz,ac,ap] at hcp;refine Zk<|Zt<|Sr<|iI (jh 2 [_,_] Y5) Z<|FL (λl=>St l) Z λβg s7 h7=>FL (λl=>St l) Z λβf s8 h8=>iI (jC [(_,_),(_,_),(_,_)] [_,_,_,_,_,_,_,_,_,_,_,_] Y3 Z Z Z) Z<|kH Y2 λbb s9 h9=>G7 ?_;refine Wl 5 Y6<|G4 ?_;refine Zp ?_;refine lw (γ:=Nat×List (iR×Value×Nat)×Nat) (λg=>[(1,_),(2,_),(3,_),(6,_),(31,_),(32,_),(33,iJ (g.1:Int))]) (λg=>_::_::(βg,mp (λl=>St l) g.2.1 g.2.2)::_::_::_::L) (λg tw=>Le D s9 tw/\(g.1<=ng/\∀ nm,kS g.2.1 nm=(((gE p).take g.1).find? λe=>decide (e.1=nm)).map λe=>fI e.2)) (λg=>ng - g.1) (λ_ _ _ h hl=>⟨h.1.trans hl,h.2⟩) (0,[],0) (.c6 Z Z Z Z Z Z (.cons Z (.nil _))) Z ⟨Le.refl _,⟨aB _,λnm=>rfl⟩⟩ ?_;intro g ku I10;obtain ⟨k,esg,ckg⟩:=g;obtain ⟨kh,hS⟩:=I10.2;simp only at kh hS;dsimp only;refine J6 ?_ ?_<;>intro mN
 .have hk:k < ng:=by omega
  obtain ⟨b,off,x,Ai,ni,ci,rfl,hx,hcx,hix,oh,kK⟩:=jn.at_ Pz hk;refine G7 ?_;refine iI (jR Y6 hk) Z<|iI (kq Y3 Pz Z) Z<|jp Z [_,_,_,_] Y2 λβ12 kc jL=>me Y2<|Wt 0 [_,_,_,_] Y9<|Nt<|pm jF 8 Z [3] Q3 λkY kN=>H7 ?_;refine iM 7 V<|JT jU.str Z Tt 3 yd Z Z Z Z (sM (kP (kX (jT)))) ?_;intro rP;simp only [lO];refine jq V<|Zb<|Zt<|Zr<|ki Y3 (jB O O)<|G2 ?_;refine jd ⟨(k+1,_,rP),[_],kp,Z,⟨Lc,⟨by simp only;omega,FI (f:=fI) (qIX hx) hnd0.1 hS⟩⟩,Oz⟩
 obtain rfl:ng=k:=by omega
 refine G9 ?_;refine Wl 5 Y6<|G5 ?_;refine lw (γ:=Nat×List (iR×Value×Nat)×Nat) (λg=>[(1,_),(2,_),(3,_),(6,_),(47,_),(48,_),(49,iJ (g.1:Int))]) (λg=>_::(βf,mp (λl=>St l) g.2.1 g.2.2)::_::_::_::_::L) (λg tw=>Le D ku tw/\(g.1<=nf/\∀ nm,kS g.2.1 nm=(((fE p).take g.1).find? λe=>decide (e.1=nm)).map λe=>fI e.2)) (λg=>nf - g.1) (λ_ _ _ h hl=>⟨h.1.trans hl,h.2⟩) (0,[],0) (.c6 Z Z Z Z Z Z (.cons Z (.nil _))) Z ⟨Le.refl _,⟨aB _,λnm=>rfl⟩⟩ ?_;intro g kc I12;obtain ⟨k,es,ck⟩:=g;obtain ⟨kh,hSf⟩:=I12.2;simp only at kh hSf;dsimp only;refine J6 ?_ ?_<;>intro oP
 .have hk:k < nf:=by omega
  obtain ⟨b,off,x,B1,m1,d1,B2,m2,d2,B3,m3,d3,rfl,hx,hcx,od,oc,rE,kK⟩:=ju.at_ Pz hk;refine G7 ?_;refine iI (jR Y6 hk) Z<|iI (kq Y3 Pz Z) Z<|jp Z [_,_,_,_] Y2 λβ14 li kz=>me Y2<|Wt 0 [_,_,_,_] Y9<|Nt<|pm jF 8 Z [2] Q3 λlJ lr=>H7 ?_;refine iM 7 V<|JT jU.str Z Tt 2 yd Z Z Z Z (sM (kP (kX (jT)))) ?_;intro rP;simp only [lO];refine jq V<|Zb<|Zt<|Zr<|ki Y3 (jB O O)<|G2 ?_;refine jd ⟨(k+1,_,rP),[_],kp,Z,⟨Lc,⟨by simp only;omega,FI (f:=fI) (qIV hx) hnd0.2.1 hSf⟩⟩,Oz⟩
 obtain rfl:nf=k:=by omega
 refine G6 ?_;refine qpw [_] [_,_] ?_;intro li kz hpub;simp only [iU,iV];refine rG 1<|rG 2<|rG 3 ?_;simp only [OB,bH,dq,fa,List.eraseIdx_cons_zero];have hmg:yA li βg (gE p):=⟨esg,⟨ckg,hpub _ _ (aq _ Mc)⟩,Te (by rw [gE,eY];omega) hS⟩;have hmf0:yA li βf (fE p):=⟨es,⟨ck,hpub _ _ Mc⟩,Te (by rw [fE,eY];omega) hSf⟩;obtain ⟨esf,yS,hhmf⟩:=hmf0;have hO0:Own 9 1 ([]:Hl) (.slice none 0 0) ([]:List iR).length (sb ([]:List iR)):=Own.nil;have kL:CR ⟨Ag,ng,cg,Af,nf,cf,βg,βf,none,0,0⟩ bb 0 0 (.slice none 0 0) [] [(bb,cb [.pointer none,.slice none 0 0,iJ 0,.slice Ag ng cg,.slice Af nf cf,.map (some βg),.map (some βf),.map none,iJ 0,iJ 0,iJ 0,.slice none 0 0] 156)]:=WC.mk ⟨.inl rfl,by unfold LA;kernel_rfl⟩ BV.nil;refine G4 ?_;refine kF [(_,_),(_,_)] [_,_] Y9 λβ15 lJ lr hc15=>Jc Y3 (AC.mid [_,_,_] [_] (([]:Hl)++L) (wF D _ _ (M:=[_]) (n:=EZ) (a:=vK) kL Pz Q1)) ?_;rintro _ _ qW qD ⟨M2,rfl,rfl,mu⟩;simp only [iU,iV];refine G3 ?_;obtain ⟨p3,N3,v3,xb,rfl,yO⟩:=mu;simp only [ao,rI];refine mh jF 11 Z 0 λtE qR=>H6 ?_;refine iM 6 V<|j5 Z Tt (Wd 3 Y5) Z<|za 7 Z (jD (EF jU.str yd Z Z Pz) ((Gb hhmf).trans (bj (Value.int .i64) (show _=fi p jy from Z)))) Z<|iM 8 V<|Jf Z Tt Z Z Z (Qx D _ _ Pz O O) λyl vm=>iM 9 V<|pV Z Tt [(_,_),(_,_)] [_,_] Y9 λβ19 ym uh hc19=>iM 10 V<|Jb Z Tt Z Z Z (AC.mid [_,_,_] (_::N3) (([]:Hl)++L) (wF D _ _ (M:=(_::N3)) (n:=z6) ⟨p3,N3,v3,xb,Z,yO⟩ Pz Q1)) ?_;rintro _ _ vN rQ ⟨M4,rfl,rfl,oQ⟩;refine ⟨(λ_ hx _=>by cases hx),?_⟩;simp only [iU,iV];refine jq V<|G6 ?_;refine Jc Y3 (AC.mid [_,_,_] M4 (([]:Hl)++L) (vA D _ _ Pz (M:=M4) oQ pp O Q1)) ?_;rintro _ _ xJ wt ⟨M5,rfl,rfl,rS⟩;simp only [iU,iV];refine G7 ?_;refine kF [(_,_)] [_] Y9 λβ22 BC AI hc22=>Jc Y3 (AC.mid [_,_,_] M5 (([]:Hl)++L) (x9 D _ _ (M:=M5) (n:=Bv) rS Pz Q1)) ?_;rintro _ _ zt yJ ⟨M6,rfl,rfl,hW6⟩;simp only [iU,iV];refine mn ?_;obtain ⟨tq,hq,hWq⟩:∃ tq,tq=((([]++cT [.ref EZ vK])++cT [.ref z6 (fT (fi p jy))])++cT [.num pp 0])++cT [.op Bv]/\CR ⟨Ag,ng,cg,Af,nf,cf,βg,βf,none,0,0⟩ bb 0 0 (.slice none 0 0) tq M6:=⟨_,rfl,hW6⟩;have hql:=bj List.length hq;simp only [kZ,lz,ac,ap] at hql;refine Cz [_,_,_] (γ:=Nat×Nat×Hl×Hl×Value×Option Nat×Nat×Nat×iR) (λg=>[(2,_),(3,_),(6,_),(88,_),(89,_),(90,iJ (g.1:Int))]) (λg=>g.2.2.1++(g.2.2.2.1++L)) (λg tw=>Le D zt tw/\(g.1<=nf/\CR ⟨Ag,ng,cg,Af,nf,cf,βg,βf,g.2.2.2.2.2.1,g.2.2.2.2.2.2.1,g.2.2.2.2.2.2.2.1⟩ bb g.2.1 0 g.2.2.2.2.1 g.2.2.2.2.2.2.2.2 g.2.2.1/\Own 9 1 g.2.2.2.1 g.2.2.2.2.1 ([]:List iR).length (sb ([]:List iR))/\g.2.2.2.2.2.2.2.2++cT (qY p (p.funcs.drop g.1) g.1 g.2.1).1=tq++cT (qY p p.funcs 0 0).1/\g.2.1+3 * uE (p.funcs.drop g.1)<=1000000)) (λg=>nf - g.1) (λ_ _ _ h hl=>⟨h.1.trans hl,h.2⟩) (0,0,M6,([]:Hl),.slice none 0 0,none,0,0,tq) (.c6 Z Z Z Z Z Z (.nil _)) Z ⟨Le.refl _,⟨aB _,hWq,hO0,Z,by simp only [cn];omega⟩⟩ ?_;intro g Am I24;simp only [iU,iV];obtain ⟨j,kj,Mj,Rj,vj,sm,sz,nl,tj⟩:=g;obtain ⟨oA,hWj,xQ,hT1,hkj⟩:=I24.2;simp only at oA hWj xQ hT1 hkj;dsimp only;have ka:=bj List.length hT1;simp only [ac] at ka;refine J6 ?_ ?_<;>intro zB
 .have pR:j < nf:=by omega
  obtain ⟨b,off,x,B1,m1,d1,B2,m2,d2,B3,m3,d3,rfl,hx,hcx,od,oc,rE,kK⟩:=ju.at_ Pz pR;have hxm:=ay hx;have vp:=rD x hxm;have hpq:PQ p x:=⟨hf0,AQ,yN,λg hg=>(hU.1 g hg).1,vp.2.1,vp.2.2.1⟩;have ta:Co p x x.body 0 1:=⟨vp.2.2.2.2.1,hnds x hxm⟩;have hndx:((sE x).map (·.1)).Nodup:=by rw [qGY];exact dJ.nodup_iff.1 (hndf x hxm)
  have hT:=qFz (p:=p) (i:=j) (j:=kj) hx;rw [qqL hx] at hkj;rw [hT] at ka;simp only [lu,ac] at ka;have hkf:=qIB p x j kj;refine G7 ?_;refine iI (jR Y6 pR) Z<|iI (kq Y3 Pz Z) Z<|jp Z [_,_,_,_] Y2 λβ26 BE AJ=>me Y2<|Wt 0 [_,_,_,_] Y9<|G5 ?_;refine iI (jh 0 [_,_,_,_] Y5) Z<|Jc Y3 (AC.mid2 [_,_,_,_] Mj Rj L (qFK d p Pz ⟨Ag,ng,cg,_,nf,cf,βg,βf,sm,sz,nl⟩ Pz Pz (yA.le ⟨esf,yS,hhmf⟩ Lc) kj hWj xQ B1 m1 d1 B2 m2 d2 B3 m3 d3 x j Pz Pz Pz hpq ta hndx O O Q1)) ?_;rintro _ _ s27 h27 ⟨_,rfl,rfl,M7,R7,vl7,sm7,sz7,nl7,rfl,hW7,hO7⟩;simp only [ao,aD,an];refine G4 ?_;refine ki Y3 (jB O O)<|G2 ?_;refine jd ⟨(j+1,(cF p x j kj).2,M7,R7,vl7,sm7,sz7,nl7,_),[_],kp,Z,⟨Lc,⟨by simp only;omega,hW7,hO7,by simp only;rw [<- hT1,hT];simp only [lu,kZ,lz,an,aE,ao,aD,ap,bB],by simp only;omega⟩⟩,Oz⟩
 rw [aK O,qY,lz,aE] at hT1;subst hT1;subst hq;refine G8 ?_;refine Jc Y3 (AC.mid [_,_,_] Mj (Rj++L) (qtB p Pz ⟨Ag,ng,cg,Af,nf,cf,βg,βf,sm,sz,nl⟩ Pz yN (λg hg=>(hVg g hg).1) hWj Q1)) ?_;rintro _ _ BE AJ ⟨M7,rfl,rfl,hW7⟩;simp only [iU,iV];refine G7 ?_;refine Jc Y3 (AC.mid [_,_,_] M7 (Rj++L) (BS D _ _ (M:=M7) hW7 vK Q1)) ?_;rintro _ _ s27 h27 ⟨M8,rfl,rfl,hW8⟩;simp only [iU,iV];refine G8 ?_;refine Jc Y3 (qty [_,_,_] (Rj++L) M8 hW8) ?_;rintro _ _ s28 h28 ⟨rfl,rfl⟩;simp only [iU,iV];refine X25 ?_;exact rR (_::_::_::Rj) L (.tmp Z (.agg (us:=[_,_]) 1 Z Z Z Z Z (.nil))) Z Lc λ_ iL=>GX
def xK(p:ja):LInt9:=if (tH p).1=0 then DK ji (BH p) else []
theorem Kn(hU:si p)(h:(tH p).1=0):tH p=(0,0)/\BH p=cT (cP p)/\(kU p).1=0/\uW p<=49152:=by grind [tH,BH]
def qCO(h:¬ (tH p).1=0):BH p=[]/\xK p=[]:=by
  refine ⟨?_,am h⟩;unfold tH at h;unfold BH;by_cases hz:(kU p).1=0
  . rw [aw hz] at *
    by_cases hn:49152 < uW p
    . rw [aw hn]
    . rw [am hn] at h;exact absurd rfl h
  . rw [am hz]
def qHo(hU:si p)(h:(tH p).1=0):B8 ji (BH p)=(0,0)/\(BH p).length<=400000:=by
 obtain ⟨h1,h2,h3,h4⟩:=Kn hU h;obtain ⟨⟨x,hx⟩,hl⟩:=Xc hU h3 h4;rw [h2];exact ⟨by rw [B8,hx],hl⟩
def JX:Ap9 D 14 [] L s λv L' s'=>L=L'/\∃ A n c,v=.agg #[iJ 65536,.slice A n c]/\ky s' A n c ji.U:=AC.pubW (qmb L s)
def Pg{p:Prop} (h:p:=by
 first
  | (refine ⟨rfl,none,0,0,rfl,?_⟩;rw [(qCO hz).2];exact lV.nil _ _ _ O)
  | (refine ⟨rfl,Aw1,nw1,cw1,by rw [(qHo hU hz).1,(Kn hU hz).1];rfl,?_⟩;rw [xK,aw hz];exact hw1.le iL)):p:=h
def WX{p:Prop} (h:p:=by
 exact rR [_,_,_] L (.tmp Z (.agg (us:=[_,_]) 1 Z Z Z Z Z (.nil))) Z Lc λ_ iL=>Pg):p:=h
def MX(hG:GP s)(d:Nat)(p:ja)(jQ:jn s Ag ng cg p.o)(j8:ju d s Af nf cf p.funcs):Ap9 D 12 [.agg #[.slice Ag ng cg,.slice Af nf cf]] L s λv L' s'=>L=L'/\∃ A1 n1 c1,v=.tuple #[.slice A1 n1 c1,.agg #[iJ (tH p).1,iJ (tH p).2]]/\lV s' A1 n1 c1 (xK p):=by
 have hU:si p:=⟨jQ.u,j8.u⟩;refine jv (fn:=f12) jl func12 V Z ntmps12 Z (rs:=[.tmp 2,.cell 3 24]) Z [(0,_)] Z<|Sr<|kH Y2 λβ1 s1 h1=>me Y2<|jp Z [_,_] Y2 λβ2 s2 h2=>Nt<|Sr<|iI (jh 1 [_,_] Y5) Z<|Je Y3 (qtF D _ _ Pz d p _ _ _ _ _ _ Pz Pz) λs3 h3=>G3 ?_;refine jp Z [_,_] Y2 λβ4 s4 h4=>me Y2<|Wt 0 [_,_] Y9<|Nt<|Zs<|Sr<|iI (jh 0 [_,_] Y5) Z<|iI (jC [] [_,_] Y3 Z Z Z) Z<|iI (sL Z Z (rq)) Z<|G2 ?_;refine lD Z ?_ ?_<;>intro c5;.have hz:¬ (tH p).1=0:=λh=>c5 (by rw [(Kn hU h).1];exact ⟨rfl,rfl⟩);refine Zs<|pm jF 3 Z [1] Q3 λs6 h6=>za 0 Z (jh 0 [_,_] Y5) Z<|H1 ?_;refine X5 ?_;exact WX
 have hz:(tH p).1=0:=c5.1;refine Zk<|Zt<|Sr<|Jc Y3 (JX D _ _) ?_;rintro _ _ s6 h6 ⟨rfl,Ad1,nd1,cd1,rfl,hD1⟩;refine jY Y2<|Jc Y3 (qkB _ _ (hG.gw.le Lc) ji Ad1 nd1 cd1 Pz) ?_;rintro _ _ s7 h7 ⟨rfl,Aw1,nw1,cw1,rfl,hw1⟩;refine G3 ?_;refine Wt 1 [_,_] Y9<|G3 ?_;exact WX
def YL(A:OAdr9)(n c:Nat)(l:List iR)(hA:iW s A n c l)(A1:OAdr9)(n1 c1:Nat)(l1:List iR)(hB:iW s A1 n1 c1 l1):AV9 D 55 [.slice A n c,.slice A1 n1 c1] L s (.bool (decide (l=l1))):=by
 have hn:=hA.1;have mX:=hA.2.1;have oR:=hA.2.2.1;have lX:=hB.1;refine jv (fn:=f55) jl func55 V Z ntmps55 Z (rs:=[.tmp 4]) Z [(0,_),(1,_)] Z<|wN ?_;refine lD Z ?_ ?_<;>intro c1;.exact Wv
 refine G9 ?_;refine lw (γ:=Nat) (λk=>[(0,_),(1,_),(4,_),(5,iJ (k:Int))]) (λ_=>_) (λk tw=>Le D s tw/\(k<=n/\∀ i x,i < k->l[i]?=some x->l1[i]?=some x)) (λk=>n - k) (λ_ _ _ h hl=>⟨h.1.trans hl,h.2⟩) 0 (.c4 Z Z Z Z (.nil _)) Z ⟨Le.refl _,⟨aB _,λi c hi=>by omega⟩⟩ ?_;intro k s2 I2;have kh:=I2.2.1;have hI:=I2.2.2;refine J9 ?_ ?_<;>intro c3
 .have hk:k < n:=by omega
  obtain ⟨b,off,x,rfl,hx,hcx,_⟩:=iW.at_ Pz hk;obtain ⟨b1,off1,y,rfl,hy,hcy,_⟩:=iW.at_ Pz (show k < n1 by omega);refine G5 ?_;refine ma jF 9 Z _ (λ_ h=>h) λs4 h4=>H2 ?_;refine za 2 Z (ly Y6 hk) Z<|za 3 Z (jW Y3 Pz Z) Z<|H2 ?_;refine za 6 Z (ly Y6 (show k < n1 by omega)) Z<|za 7 Z (jW Y3 Pz Z) Z<|za 8 Z (NC Z Z) Z<|jq V<|Zt ?_;exact HO
 exact Vt
def U2(D d:Nat):Prop:=∀ (L:Hl) (s:World) (d2:Nat) (A B:OAdr9) (n m c c2:Nat) (l:List Ex),j9 d s A n c l->j9 d2 s B m c2 l->AV9 D 27 [.slice A n c,.slice B m c2] L s (.bool true)
def U4(D d:Nat):Prop:=∀ (L:Hl) (s:World) (d2:Nat) (A B:OAdr9) (n m c c2:Nat) (l:List jb),jz d s A n c l->jz d2 s B m c2 l->AV9 D 56 [.slice A n c,.slice B m c2] L s (.bool true)
def WH{p:Prop} (h:p:=by
 refine k8 ?_;exact rR [] L (.t1 Z) Z I1.1 λ_ iL=>ry):p:=h
def YT{D:Nat}(d:Nat)(ih:∀ e,d=e+1->U2 D e)(L:Hl)(s:World)(d2:Nat)(A B:OAdr9)(n m c c2:Nat)(l:List Ex)(hA:j9 d s A n c l)(hB:j9 d2 s B m c2 l):AV9 D 27 [.slice A n c,.slice B m c2] L s (.bool true):=by
 have hn:=hA.1;have hq1:=hA.2.1;have hq2:=hA.2.2.1;have hm:=hB.1;obtain rfl:n=m:=by omega
 refine jv (fn:=f27) jl func27 V Z ntmps27 Z (rs:=[.tmp 4]) Z [(0,_),(1,_)] Z<|mn ?_;refine X34 ?_;refine lw (γ:=Nat) (λk=>[(0,_),(1,_),(4,_),(5,iJ (k:Int))]) (λ_=>_) (λk tw=>Le D s tw/\(k<=n)) (λk=>n - k) (λ_ _ _ h hl=>⟨h.1.trans hl,h.2⟩) 0 (.c4 Z Z Z Z (.nil _)) Z ⟨Le.refl _,aB _⟩ ?_;intro k s1 I1;have kh:=I1.2;refine J9 ?_ ?_<;>intro c2
 .have hk:k < n:=by omega
  obtain ⟨e,b,off,x,A1,n1,p1,hd,rfl,hx,hcx,hax,oh,kK⟩:=j9.at_ (hA.le I1.1) hk;obtain ⟨e2,b2,off2,y,B1,m1,p2,xT,rfl,hy,hcy,hay,ph,hny⟩:=j9.at_ (hB.le I1.1) hk;obtain rfl:x=y:=cD (hx.symm.trans hy);refine G8 ?_;refine iI (jR Y6 hk) Z<|iI (kq Y3 (hcx.le (Lr D)) Z) Z<|jp Z [_,_,_,_,_] Y2 λβ3 s3 h3=>Wt 0 [_,_,_,_,_] Y9<|G6 ?_;refine iI (jR Y6 hk) Z<|iI (kq Y3 (hcy.le h3) Z) Z<|jp Z [_,_,_,_,_] Y2 λβ4 s4 h4=>Wt 0 [_,_,_,_,_] Y9<|G8 ?_;refine X14 ?_;refine X35 ?_;refine X35 ?_;refine X36 ?_;refine Jc Y3 (ih e hd _ _ e2 A1 B1 n1 m1 p1 p2 x.args (hax.le (h3.t h4)) (hay.le (h3.t h4))) ?_;rintro _ _ s5 h5 ⟨rfl,rfl⟩;refine Zg Z Z<|Cc Z Z<|G9 ?_;refine ki Y3 (jB O O)<|G2 ?_;refine jd ⟨(k+1),[_,_],kp,Z,⟨(I1.1.t h3|>.t h4|>.t h5),(show k+1<=n by omega)⟩,O⟩
 exact WH
def Ss{D:Nat}:∀ d,U2 D d
 | 0=>λL s d2 A B n m c c2 l hA hB=>YT 0 (λe h=>by omega) L s d2 A B n m c c2 l hA hB
 | d+1=>λL s d2 A B n m c c2 l hA hB=>YT (d+1) (λe h=>(show d=e by omega)▸Ss d) L s d2 A B n m c c2 l hA hB
def YS{D:Nat}(d:Nat)(ih:∀ e,d=e+1->U4 D e)(L:Hl)(s:World)(d2:Nat)(A B:OAdr9)(n m c c2:Nat)(l:List jb)(hA:jz d s A n c l)(hB:jz d2 s B m c2 l):AV9 D 56 [.slice A n c,.slice B m c2] L s (.bool true):=by
 have hn:=hA.1;have hq1:=hA.2.1;have hq2:=hA.2.2.1;have hm:=hB.1;obtain rfl:n=m:=by omega
 refine jv (fn:=f56) jl func56 V Z ntmps56 Z (rs:=[.tmp 4]) Z [(0,_),(1,_)] Z<|mn ?_;refine X34 ?_;refine lw (γ:=Nat) (λk=>[(0,_),(1,_),(4,_),(5,iJ (k:Int))]) (λ_=>_) (λk tw=>Le D s tw/\(k<=n)) (λk=>n - k) (λ_ _ _ h hl=>⟨h.1.trans hl,h.2⟩) 0 (.c4 Z Z Z Z (.nil _)) Z ⟨Le.refl _,aB _⟩ ?_;intro k s1 I1;have kh:=I1.2;refine J9 ?_ ?_<;>intro c2
 .have hk:k < n:=by omega
  obtain ⟨e,b,off,x,A1,n1,p1,A2,n2,p2,A3,n3,p3,hd,rfl,hx,hcx,ha1,ha2,ha3,kK⟩:=jz.at_ (hA.le I1.1) hk;obtain ⟨e2,b2,off2,y,B1,m1,u1,B2,m2,u2,B3,m3,u3,xT,rfl,hy,hcy,pd,tf,yO,hny⟩:=jz.at_ (hB.le I1.1) hk;obtain rfl:x=y:=cD (hx.symm.trans hy);refine G8 ?_;refine iI (jR Y6 hk) Z<|iI (kq Y3 (hcx.le (Lr D)) Z) Z<|jp Z [_,_,_,_,_] Y2 λβ3 s3 h3=>Wt 0 [_,_,_,_,_] Y9<|G6 ?_;refine iI (jR Y6 hk) Z<|iI (kq Y3 (hcy.le h3) Z) Z<|jp Z [_,_,_,_,_] Y2 λβ4 s4 h4=>Wt 0 [_,_,_,_,_] Y9<|G8 ?_;refine X14 ?_;refine X36 ?_;have e4:=h3.t h4;refine Jc Y3 (Ss e _ _ e2 A1 B1 n1 m1 p1 u1 x.exprs (ha1.le e4) (pd.le e4)) ?_;rintro _ _ s5 h5 ⟨rfl,rfl⟩;refine Zg Z Z<|Cc Z Z<|k8 ?_;refine Jc Y3 (ih e hd _ _ e2 A2 B2 n2 m2 p2 u2 x.body (ha2.le (e4.t h5)) (tf.le (e4.t h5))) ?_;rintro _ _ s6 h6 ⟨rfl,rfl⟩;refine Zg Z Z<|Cc Z Z<|k8 ?_;refine Jc Y3 (ih e hd _ _ e2 A3 B3 n3 m3 p3 u3 x.els (ha3.le (e4.t h5|>.t h6)) (yO.le (e4.t h5|>.t h6))) ?_;rintro _ _ s7 h7 ⟨rfl,rfl⟩;refine Zg Z Z<|Cc Z Z<|G9 ?_;refine ki Y3 (jB O O)<|G2 ?_;refine jd ⟨(k+1),[_,_],kp,Z,⟨(I1.1.t h3|>.t h4|>.t h5|>.t h6|>.t h7),(show k+1<=n by omega)⟩,O⟩
 exact WH
def G_{D:Nat}:∀ d,U4 D d
 | 0=>λL s d2 A B n m c c2 l hA hB=>YS 0 (λe h=>by omega) L s d2 A B n m c c2 l hA hB
 | d+1=>λL s d2 A B n m c c2 l hA hB=>YS (d+1) (λe h=>(show d=e by omega)▸G_ d) L s d2 A B n m c c2 l hA hB
def qu1(d:Nat)(p:ja)(jQ:jn s Ag ng cg p.o)(j8:ju d s Af nf cf p.funcs)(d2:Nat){mg eg mf ef:Nat}(hGl2:jn s Bg mg eg p.o)(hFn2:ju d2 s Bf mf ef p.funcs):AV9 D 26 [.agg #[.slice Ag ng cg,.slice Af nf cf],.agg #[.slice Bg mg eg,.slice Bf mf ef]] L s (.bool true):=by
 have hn:=jQ.1;have hq1:=jQ.2.1;have hq2:=jQ.2.2.1;have hm:=hGl2.1;obtain rfl:ng=mg:=by omega
 have xW:=j8.1;have hq3:=j8.2.1;have hq4:=j8.2.2.1;have hm2:=hFn2.1;obtain rfl:nf=mf:=by omega
 refine jv (fn:=f26) jl func26 V Z ntmps26 Z (rs:=[.tmp 4]) Z [(0,_),(1,_)] Z<|Sr<|kH Y2 λβ1 s1 h1=>kH Y2 λβ2 s2 h2=>mn ?_;refine iI (jD (v':=.bool false) (qM Z Z) (bF Z)) Z<|qP ?_;refine X34 ?_;refine Zp ?_;have e2:=h1.t h2;refine lw (γ:=Nat) (λk=>[(2,_),(3,_),(4,_),(5,iJ (k:Int))]) (λ_=>_) (λk tw=>Le D s2 tw/\(k<=ng)) (λk=>ng - k) (λ_ _ _ h hl=>⟨h.1.trans hl,h.2⟩) 0 (.c4 Z Z Z Z (.nil _)) Z ⟨Le.refl _,aB _⟩ ?_;intro k s3 I3;have e3:=e2.t I3.1;have kh:=I3.2;refine sA ?_ ?_<;>intro c4
 .have hk:k < ng:=by omega
  obtain ⟨b,off,x,A1,n1,p1,rfl,hx,hcx,hax,oh,kK⟩:=jn.at_ (jQ.le e3) hk;obtain ⟨b2,off2,y,B1,m1,p2,rfl,hy,hcy,hay,ph,hny⟩:=jn.at_ (hGl2.le e3) hk;obtain rfl:x=y:=cD (hx.symm.trans hy);refine G9 ?_;refine iI (jR Y6 hk) Z<|iI (kq Y3 (hcx.le (Lr D)) Z) Z<|jp Z [_,_,_,_] Y2 λβ5 s5 h5=>Wt 0 [_,_,_,_] Y9<|G7 ?_;refine iI (jR Y6 hk) Z<|iI (kq Y3 (hcy.le h5) Z) Z<|jp Z [_,_,_,_] Y2 λβ6 s6 h6=>Wt 0 [_,_,_,_] Y9<|G8 ?_;refine X14 ?_;refine X36 ?_;refine X35 ?_;refine Jc Y3 (AC.isT (qly _ A1 n1 p1 x.init (hax.le (h5.t h6)) B1 m1 p2 x.init (hay.le (h5.t h6))) Z) ?_;rintro _ _ s7 h7 ⟨rfl,rfl⟩;refine Zg Z Z<|Cc Z Z<|G9 ?_;refine ki Y3 (jB O O)<|G2 ?_;refine jd ⟨(k+1),[_,_],kp,Z,⟨(I3.1.t h5|>.t h6|>.t h7),(show k+1<=ng by omega)⟩,O⟩
 refine mn ?_;refine lw (γ:=Nat) (λk=>[(2,_),(3,_),(4,_),(8,iJ (k:Int))]) (λ_=>_) (λk tw=>Le D s3 tw/\(k<=nf)) (λk=>nf - k) (λ_ _ _ h hl=>⟨h.1.trans hl,h.2⟩) 0 (.c4 Z Z Z Z (.nil _)) Z ⟨Le.refl _,aB _⟩ ?_;intro k s5 I5;have kh:=I5.2;refine sA ?_ ?_<;>intro c6
 .have hk:k < nf:=by omega
  obtain ⟨b,off,x,A1,n1,p1,A2,n2,p2,A3,n3,p3,rfl,hx,hcx,ha1,ha2,ha3,kK⟩:=ju.at_ (j8.le (e3.t I5.1)) hk;obtain ⟨b2,off2,y,B1,m1,u1,B2,m2,u2,B3,m3,u3,rfl,hy,hcy,pd,tf,yO,hny⟩:=ju.at_ (hFn2.le (e3.t I5.1)) hk;obtain rfl:x=y:=cD (hx.symm.trans hy);refine G9 ?_;refine iI (jR Y6 hk) Z<|iI (kq Y3 (hcx.le (Lr D)) Z) Z<|jp Z [_,_,_,_] Y2 λβ7 s7 h7=>Wt 0 [_,_,_,_] Y9<|G7 ?_;refine iI (jR Y6 hk) Z<|iI (kq Y3 (hcy.le h7) Z) Z<|jp Z [_,_,_,_] Y2 λβ8 s8 h8=>Wt 0 [_,_,_,_] Y9<|G8 ?_;refine iI (jD (v':=.bool false) (NC Z Z) (bF Z)) Z<|lF ?_;refine Jc Y3 (AC.isT (YL D _ _ A1 n1 p1 x.params (ha1.le (h7.t h8)) B1 m1 u1 x.params (pd.le (h7.t h8))) Z) ?_;rintro _ _ s9 h9 ⟨rfl,rfl⟩;have e9:=h7.t h8|>.t h9;refine Zg Z Z<|Cc Z Z<|k8 ?_;refine Jc Y3 (AC.isT (YL D _ _ A2 n2 p2 x.locals (ha2.le e9) B2 m2 u2 x.locals (tf.le e9)) Z) ?_;rintro _ _ ku jN ⟨rfl,rfl⟩;refine Zg Z Z<|Cc Z Z<|k8 ?_;refine Jc Y3 (G_ d _ _ d2 A3 B3 n3 m3 p3 u3 x.body (ha3.le (e9.t jN)) (yO.le (e9.t jN))) ?_;rintro _ _ kv jP ⟨rfl,rfl⟩;refine Zg Z Z<|Cc Z Z<|G9 ?_;refine ki Y3 (jB O O)<|G2 ?_;refine jd ⟨(k+1),[_,_],kp,Z,⟨(I5.1.t h7|>.t h8|>.t h9|>.t jN|>.t jP),(show k+1<=nf by omega)⟩,O⟩
 refine k8 ?_;exact rX [_,_] L Z (e3.t I5.1) λ_ iL=>ry
def qER{TT:kG}{D:Nat}{fr:Fr}{x:Operand}{t:Nat}(hx:lk fr x=some (iO a)):QE P TT D fr (.unOp .neg t x) ty K s0 (iO (lK (0 - a))):=QE.pure λ_ dst iS af g ρ hρ w=>by
 have h:Op.unary .neg (iO a)=pure (iO (IntKind.u32.wrap (0 - a))):=rfl;rw [cQ] at h;simp [execOp,hρ x _ hx,h,lK]
def qxi(h:n < 4294967296):4294967295 ^^^ n=4294967295 - n:=by
 have e:(~~~(BitVec.ofNat 32 n)).toNat=4294967295 - n:=by rw [BitVec.toNat_not,BitVec.toNat_ofNat,eN h]
 rw [<- e,BitVec.not_def,BitVec.toNat_xor,BitVec.toNat_allOnes,BitVec.toNat_ofNat,eN h]
def qy3{TT:kG}{D:Nat}{fr:Fr}{x:Operand}{t:Nat}(hx:lk fr x=some (iO a))(ha:iY a):QE P TT D fr (.unOp .xor t x) ty K s0 (iO (4294967295 - a)):=QE.pure λ_ dst iS af g ρ hρ w=>by
 have h:=R5 (P:=P) (t:=t) (x:=4294967295) (y:=a) ⟨by decide,by decide⟩ ha w;have e:Op.unary .xor (iO a)=Op.intBits .xor .u32 4294967295 a:=rfl;have e2:binOp .xor t (iO 4294967295) (iO a)=Op.intBits .xor .u32 4294967295 a:=rfl;rw [e2] at h;obtain ⟨n,rfl⟩:=aX ha.1;have hn:n < 4294967296:=by have:=ha.2;omega
 have e3:(((4294967295:Int).toNat ^^^ ((n:Nat):Int).toNat:Nat):Int)=4294967295 - (n:Int):=by
  show ((4294967295 ^^^ n:Nat):Int)=_;rw [qxi hn];omega
 rw [e3] at h;simp [execOp,hρ x _ hx,e,h]
def yf(op x y:Int):Bool:=if op=1 then decide (x=0) else if op=14 then decide (x=y) else if op=15 then !decide (x=y) else if op=16 then decide (x < y) else if op=17 then decide (x<=y) else if op=18 then decide (y < x) else if op=19 then decide (y<=x) else if op=20 then (!decide (x=0) && !decide (y=0)) else (!decide (x=0) || !decide (y=0))
def nI(op x y:Int):Int:=if 14<=op\/op=1 then (if yf op x y=true then 1 else 0) else if op=2 then lK (0 - x) else if op=3 then 4294967295 - x else if op=4 then lK (x * y) else if op=5 then x / y else if op=6 then x % y
 else if op=7 then (((x.toNat <<< y.toNat) % 4294967296:Nat):Int) else if op=8 then ((x.toNat >>> y.toNat:Nat):Int) else if op=9 then ((x.toNat &&& y.toNat:Nat):Int) else if op=10 then lK (x+y) else if op=11 then lK (x - y) else if op=12 then ((x.toNat ||| y.toNat:Nat):Int) else ((x.toNat ^^^ y.toNat:Nat):Int)
def mW(op y:Int):Int×Int:=if op < 1\/21 < op then (4,-1) else if (op=5\/op=6)/\y=0 then (26,-3) else (0,0)
def CJ{p:Prop} (h:p:=by
 refine ⟨?_,Z⟩;simp [kB,yf, *];done):p:=h
def Vs{p:Prop} (h:p:=by
 refine rR [] L (.t1 Z) Z (Lr D) λ_ iL=>?_;refine ⟨?_,Z⟩;have wt:k=21:=by omega
 simp [kB,yf, *];done):p:=h
def qud(k x y:Int)(hk:k=1\/(14<=k/\k<=21)):AV9 D 20 [iJ k,iO x,iO y] L s (.bool (yf k x y)):=by
 refine jv (fn:=f20) jl func20 V Z ntmps20 Z (rs:=[.tmp 6]) Z [(0,_),(1,_),(2,_)] Z<|Cl ?_ ?_<;>intro c1;.refine lF ?_;exact rY Z λ_ iL=>CJ
 refine J6 ?_ ?_<;>intro c2;.refine k8 ?_;exact rY Z λ_ iL=>CJ
 refine J6 ?_ ?_<;>intro c3;.refine k8 ?_;exact rY Z λ_ iL=>CJ
 refine J6 ?_ ?_<;>intro c4;.refine k8 ?_;exact rY Z λ_ iL=>CJ
 refine J6 ?_ ?_<;>intro c5;.refine G4 ?_;refine Fb Z Z Z<|G6 ?_;exact rY Z λ_ iL=>CJ
 refine J6 ?_ ?_<;>intro c6;.refine k8 ?_;exact rY Z λ_ iL=>CJ
 refine J6 ?_ ?_<;>intro c7;.refine G4 ?_;refine uH Y3<|G6 ?_;exact rY Z λ_ iL=>CJ
 refine J6 ?_ ?_<;>intro c8
 .refine G5 ?_;refine tt (t:=46) Z ?_ ?_<;>intro c9;.refine k8 ?_;exact rY Z λ_ iL=>CJ
  refine G9 ?_;exact rY Z λ_ iL=>CJ
 refine G8 ?_;refine tt (t:=52) Z ?_ ?_<;>intro c9;.refine G7 ?_;exact Vs
 refine G9 ?_;exact Vs
def Cb{p:Prop} (h:p:=by
 refine ⟨?_,Z⟩;have un:¬ (14<=k\/k=1):=by omega
 simp only [kB,nI];rw [am un];simp [CI, *];done):p:=h
def qmq(k:Int)(x y:Int)(hx:iY x)(hy:iY y)(hk:2<=k/\k<=13)(hz:k=5\/k=6->y≠0):AV9 D 21 [iJ k,iO x,iO y] L s (iO (nI k x y)):=by
 refine jv (fn:=f21) jl func21 V Z ntmps21 Z (rs:=[.tmp 6]) Z [(0,_),(1,_),(2,_)] Z<|Cl ?_ ?_<;>intro c1;.refine Sr<|jY Y2<|iI (qER Z) Z<|G6 ?_;exact rY Z λ_ iL=>Cb
 refine J6 ?_ ?_<;>intro c2;.refine Sr<|jY Y2<|iI (qy3 Z hx) Z<|G6 ?_;exact rY Z λ_ iL=>Cb
 refine J6 ?_ ?_<;>intro c3;.refine G4 ?_;refine iI (ES Z Z) Z<|G6 ?_;exact rY Z λ_ iL=>Cb
 refine J6 ?_ ?_<;>intro c4
 .refine G4 ?_;refine iI (CD Z Z (hz (.inl As))) Z<|G6 ?_;refine rR [] L (.t1 Z) Z (Lr D) λ_ iL=>?_;refine ⟨?_,Z⟩;have un:¬ (14<=k\/k=1):=by omega
  simp only [kB,nI];rw [am un];have h5:k=5:=by assumption
  simp [h5,CI,Mp hx hy];done
 refine J6 ?_ ?_<;>intro c5
 .refine G4 ?_;refine iI (NV Z Z (hz (.inr As))) Z<|G6 ?_;refine rR [] L (.t1 Z) Z (Lr D) λ_ iL=>?_;refine ⟨?_,Z⟩;have un:¬ (14<=k\/k=1):=by omega
  simp only [kB,nI];rw [am un];have h6:k=6:=by assumption
  simp [h6,Jg hx];done
 refine J6 ?_ ?_<;>intro c6;.refine G4 ?_;refine iI (BX Z Z Z0 (Z7 hx hy)) Z<|G6 ?_;exact rY Z λ_ iL=>Cb
 refine J6 ?_ ?_<;>intro c7;.refine G4 ?_;refine iI (BX Z Z Z2 (Z8 hx hy)) Z<|G6 ?_;exact rY Z λ_ iL=>Cb
 refine J6 ?_ ?_<;>intro c8;.refine G4 ?_;refine iI (BX Z Z ZZ (Z6 hx hy)) Z<|G6 ?_;exact rY Z λ_ iL=>Cb
 refine J6 ?_ ?_<;>intro c9;.refine G4 ?_;refine iI (CC Z Z) Z<|G6 ?_;exact rY Z λ_ iL=>Cb
 refine J6 ?_ ?_<;>intro my;.refine G4 ?_;refine iI (ET Z Z) Z<|G6 ?_;exact rY Z λ_ iL=>Cb
 refine J6 ?_ ?_<;>intro mN;.refine G4 ?_;refine iI (BX Z Z y_ (F_ hx hy)) Z<|G6 ?_;exact rY Z λ_ iL=>Cb
 refine G7 ?_;refine iI (BX Z Z Z3 (R5 hx hy)) Z<|G4 ?_;exact rY Z λ_ iL=>Cb
def WP{p:Prop} (h:p:=by
 refine G4 ?_;refine jd (kE.mk (Lr D) Sb Z ((bO O).symm))):p:=h
def TU{p:Prop} (h:p:=by
 refine G5 ?_;refine jd (kE.mk (Lr D) Sb Z ((bQ O).symm))):p:=h
def Vp{p:Prop} (h:p:=by
 refine rR [_] L (.tmp Z (.agg (us:=[_,_]) 0 Z Z Z Z Z (.nil))) Z Lc λ_ iL=>?_;refine ⟨?_,Z⟩;rw [hE];rw [hO];rfl):p:=h
def VD{p:Prop} (h:p:=by
 refine G7 ?_;refine jd (kE.mk (Lr D) Sb Z (bJ.2 O))):p:=h
def IK{p:Prop} (h:p:=by
 refine me Y2<|Wt 0 [_,_] Y9<|G5 ?_;refine rR [_] L (.tmp Z (.agg (us:=[_,_]) 0 Z Z Z Z Z (.nil))) Z Lc λ_ iL=>?_;refine ⟨?_,Z⟩;rw [hE];rfl):p:=h
def yZ(k:Int)(x y:Int)(hx:iY x)(hy:iY y):AV9 D 5 [iJ k,iO x,iO y] L s (.tuple #[iO (if (mW k y).1=0 then nI k x y else 0),.agg #[iJ (mW k y).1,iJ (mW k y).2]]):=by
 refine jv (fn:=f5) jl func5 V Z ntmps5 Z (rs:=[.tmp 6,.cell 7 24]) Z [(0,_),(1,_),(2,_)] Z<|Sr<|me Y2<|jp Z [_,_] Y2 λβ1 s1 h1=>G4 ?_;refine rm 8 (k < 1\/21 < k) ?_ ?_
 .refine G4 ?_;refine kT (t:=11) Z ?_ ?_<;>intro c3;.refine G5 ?_;exact Gq
  refine G7 ?_;refine jd (kE.mk (Lr D) Sb Z (bJ.2 O))
 intro s2 h2;refine mE Z ?_ ?_<;>intro c4;.have hE:mW k y=(4,-1):=aw c4;refine Sr<|Je Y3 (BR _ _) λs5 h5=>?_;exact IK
 have g8:=c4;refine rm 16 ((k=5\/k=6)/\y=0) ?_ ?_
 .refine G4 ?_;refine kT (t:=19) Z ?_ ?_<;>intro c6;.refine k8 ?_;refine jd (kE.mk (Lr D) Sb Z (bJ.2 O))
  refine G6 ?_;refine kT (t:=23) Z ?_ ?_<;>intro c7;.exact VD
  exact TU
 intro s5 h5;refine mE Z ?_ ?_<;>intro c8;.have hE:mW k y=(26,-3):=(am g8).trans (aw c8);refine Sr<|Je Y3 (BR _ _) λs9 h9=>?_;exact IK
 have g16:=c8;have hE:mW k y=(0,0):=(am g8).trans (am g16);refine G4 ?_;refine rm 33 (14<=k\/k=1) ?_ ?_
 .refine Zr<|jY Y2<|uH Y3<|jY Y2<|?_;refine kT (t:=30) Z ?_ ?_<;>intro my;.exact WP
  refine G6 ?_;refine jd (kE.mk (Lr D) Sb Z (bJ.2 O))
 intro s9 h9;refine mE Z ?_ ?_<;>intro mN
 .have g33:=mN;refine G6 ?_;refine Je Y3 (qud D _ _ k x y O) λkc jL=>G2 ?_;refine qT Z ?_ ?_<;>intro oP
  .have hO:nI k x y=1:=by rw [nI,aw g33,aw oP]
   refine Sr<|iI (jC [] [_,_] Y3 Z Z Z) Z<|me Y2<|Wt 0 [_,_] Y9<|G5 ?_;exact Vp
  have hO:nI k x y=0:=by rw [nI,aw g33,am (by rw [oP];decide)]
  refine Zk<|Zt<|Sr<|iI (jC [] [_,_] Y3 Z Z Z) Z<|me Y2<|Wt 0 [_,_] Y9<|G4 ?_;exact Vp
 have g33:=mN;refine G7 ?_;refine Je Y3 (qmq D _ _ k x y hx hy O (λh h0=>g16 ⟨h,h0⟩)) λkc jL=>iI (jC [] [_,_] Y3 Z Z Z) Z<|me Y2<|Wt 0 [_,_] Y9<|G3 ?_;refine rR [_] L (.tmp Z (.agg (us:=[_,_]) 0 Z Z Z Z Z (.nil))) Z Lc λ_ iL=>?_;refine ⟨?_,Z⟩;rw [hE];rfl
end
section
def E_{f:Array Value->Array Value}(ho:jX D ((b,cb zs e)::L) s)(hf:(f zs.toArray).toList=ys) :
  ∃ s',Sort.grow (Sort.mapBlock (Sort.ahead (fill ((b,cb zs e)::L) s) n) b f) os=fill ((b,cb ys e)::L) s'/\jX D ((b,cb ys e)::L) s'/\Le D s s':=by
 have e1:Sort.mapBlock (Sort.ahead (fill ((b,cb zs e)::L) s) n) b f=fill ((b,cb ys e)::L) (s.drewN n):=by
  show (Sort.mapBlock (oX (fill L s) b (cb zs e)) b f).drewN n=_;rw [XO,hf];exact Yi ((b,cb ys e)::L) s n
 have ho':jX D ((b,cb ys e)::L) (s.drewN n):=⟨ho.nd,λx hx=>by
  rcases aW.1 hx with rfl|hx
  . exact ho.dm (b,cb zs e) Mc
  . exact ho.dm x (aq _ hx)⟩
 rw [e1];obtain ⟨h1,h2,h3⟩:=Sq (w':=Sort.grow (fill ((b,cb ys e)::L) (s.drewN n)) os) ho' (y9 _ _) (y0 _ _) (y5 _ _) (by rw [Sort.size_grow,nR];omega) ho'.nd
  (λx hx=>by rw [Sort.heap_grow_old _ _ (by rw [nR];exact ho'.lt hx)];exact qc ho' hx) (λx hx=>.inl (bh.2 ⟨x,hx,rfl⟩))
  (λk hk hn=>by rw [Sort.heap_grow_old _ _ (by rw [nR];exact hk)];exact vy hn)
 exact ⟨_,h1,h2,(Le.drewN s n).trans h3⟩
end
section
variable(D:Nat)(L:Hl)(s:World){l:LInt9}
def qya(h:m.length=l.length):(Sort.putCells (Value.int .i64) 0 m.toArray (iv l++yc).toArray).toList=iv m++yc:=by
  apply gv;intro k;simp only [Sort.putCells,Array.toList_mapIdx,du,aB,iG,aZ,gR];by_cases hk:k < l.length
  . rw [aR (by simp [iv,hk]),aR (by simp [iv];omega)]
    simp [iv,hk,h]
  . rw [aY (by simp [iv];omega),aY (by simp [iv];omega)]
    simp [iv,hk,h]
def qnx{D:Nat}{L:Hl}{s:World}(ho:jX D ((b,cb (iv l++yc) e)::L) s):Sort.Holds (Value.int .i64) (fill ((b,cb (iv l++yc) e)::L) s) b 0 l.toArray:=by
 have hblk:(fill ((b,cb (iv l++yc) e)::L) s).heap[b]?=some (cb (iv l++yc) e):=qc ho Mc;intro j hj;have hj':j < l.length:=by simpa using hj
 refine ⟨?_,by unfold World.frozen?;rw [hblk];simp [cb]⟩;rw [aZ,BO ho Mc,aR (by simp [iv];omega)];simp [iv,hj']
def Y0:sR prog 82:=⟨_,func82,by kernel_rfl,by kernel_rfl⟩
def XS:sR prog 83:=⟨_,func83,by kernel_rfl,by kernel_rfl⟩
def B9(l:LInt9):LInt9:=l.mergeSort λx y=>decide (x<=y)
def qBG(e:Nat)(M:Hl)(A:OAdr9)(n c:Nat)(l:LInt9)(hO:Own e 1 M (.slice A n c) n (iv l))(hb:n < 4611686018427387904):AM9 D 82 [.slice A n c] M L s λv M' _=>v=.tuple #[]/\Own e 1 M' (.slice A n c) n (iv (B9 l)):=by
 generalize hv:Value.slice A n c=v0 at hO;generalize hx:iv l=xs at hO;cases hO with
 | nil=>
  injection hv with e1 e2 e3;subst e1;subst e3;have:l=[]:=aG (by have:=bj List.length hx;simpa [iv] using this);subst this;refine AC.of_calls Y0 λ_=>(Any.slices_Sort_int_none lays189 none 0 (fill L s)).mono λe w' ⟨he,hw⟩=>⟨_,he,by rw [hw];exact C7,λs' _ _ _=>⟨[],Z,Z,?_⟩⟩;simp only [B9,List.mergeSort_nil];exact .nil
 | blk b cap n xs ys h1 h2 h3 h4=>
  injection hv with e1 e2 e3;subst e1;subst e3;subst hx;have hl:n=l.length:=by simpa [iv] using h1.symm
  subst hl;refine ⟨Y0,λho=>?_⟩;refine (Any.slices_Sort_int lays189 b 0 c l (fill ((b,cb (iv l++ys) e)::L) s) (qnx ho) (by rw [nR];exact ho.lt Mc) hb).mono ?_;rintro e1 w' ⟨he,k,os,hw⟩;obtain ⟨s',q1,q2,q3⟩:=E_ (n:=k) (os:=os) (ys:=iv (B9 l)++ys) ho (qya (by simp [B9]));exact ⟨_,_,s',he,hw.trans q1,q2,q3,[(b,cb (iv (B9 l)++ys) e)],rfl,rfl,.blk b c _ _ ys (by simp [iv,B9]) (by simpa [iv,B9] using h2) h3 h4⟩
def qow(l:LInt9):(Lib.compact l).length<=l.length:=by
 rw [Lib.compact,Lib.compactUpTo,bI];exact dT (ie _ _) (by simp)
def qov(e:Nat)(M:Hl)(A:OAdr9)(n c:Nat){l:LInt9}(hO:Own e 1 M (.slice A n c) n (iv l)):AM9 D 83 [.slice A n c] M L s λv M' _=>v=.slice A (Lib.compact l).length c/\Own e 1 M' (.slice A (Lib.compact l).length c) (Lib.compact l).length (iv (Lib.compact l)):=by
 generalize hv:Value.slice A n c=v0 at hO;generalize hx:iv l=xs at hO;cases hO with
 | nil=>
  injection hv with e1 e2 e3;subst e1;subst e3;have:l=[]:=aG (by have:=bj List.length hx;simpa [iv] using this);subst this;exact AC.of_calls XS λ_=>(Any.slices_Compact_int_empty laysNm220 none 0 (fill L s)).mono λe w' ⟨he,hw⟩=>⟨_,he,by rw [hw];exact C7,λs' _ _ _=>⟨[],rfl,rfl,.nil⟩⟩
 | blk b cap n xs ys h1 h2 h3 h4=>
  injection hv with e1 e2 e3;subst e1;subst e3;subst hx;have hl:n=l.length:=by simpa [iv] using h1.symm
  subst hl;have ka:=qow l;refine ⟨XS,λho=>?_⟩;refine (Any.slices_Compact_int laysNm220 b 0 c l (fill ((b,cb (iv l++ys) e)::L) s) (qnx ho) O h3).mono ?_;rintro e1 w' ⟨he,k,hw⟩;obtain ⟨s',q1,q2,q3⟩:=E_ (n:=k) (os:=#[]) (ys:=iv (Lib.compact l++List.replicate (l.length - (Lib.compact l).length) 0)++ys) ho (qya Q8);rw [Sort.grow_empty] at q1;have rc:iv (Lib.compact l++List.replicate (l.length - (Lib.compact l).length) 0)++ys=iv (Lib.compact l)++(iv (List.replicate (l.length - (Lib.compact l).length) 0)++ys):=by simp [iv]
  rw [rc] at q1 q2;have h9:l.length+ys.length=c * 1:=by simpa [iv] using h2
  exact ⟨_,_,s',he,hw.trans q1,q2,q3,[(b,_)],rfl,rfl,.blk b c _ _ _ (by simp [iv]) (by simp [iv];omega) O h4⟩
def AB(s:World)(A:OAdr9)(n c:Nat)(l:LInt9):Prop:=Sl 1 (λ_ x cs=>cs=[iJ x]) s A n c l
def AB.le{D:Nat}{s:World}(h:AB s A n c l)(hl:Le D s s'):AB s' A n c l:=Sl.le (λ_ _ h=>h) h hl
def AB.at_{s:World}(h:AB s A n c l)(hk:k < n):∃ b off x,A=some ⟨b,off,none⟩/\l[k]?=some x/\iH s b (off+k) [iJ x]/\True:=by
 have hl:k < l.length:=by rw [<- h.1];exact hk
 obtain ⟨b,off,cs,h1,h2,_,rfl⟩:=h.2.2.2 k l[k] (ax hl);exact ⟨b,off,l[k],h1,ax hl,by simpa using h2,trivial⟩
def qpT{α β:Type}{R:α->β->Prop}(f:α->β)(l:List α)(h:∀ x∈l,R x (f x)):kI R l (l.map f):=by
 induction l with
 | nil=>exact kI.nil
 | cons x l ih=>exact kI.cons (h x Mc) (ih λy hy=>h y (aq _ hy))
def qAM(l:LInt9):iv l=(l.map λx=>[Value.int .i64 x]).flatten:=by
 induction l with
 | nil=>rfl
 | cons x l ih=>simp [iv] at ih ⊢;exact ih
def Own.its{A:Hl}{s:World}(h:Own e 1 A (.slice Ad n c) n (iv l))(hp:mz A s)(hn:n=l.length):AB s Ad n c l:=
 Own.rows (R:=λ_ (x:Int) cs=>cs=[Value.int .i64 x]) (qAM l▸h) hp (qpT (λ(x:Int)=>[Value.int .i64 x]) l λx hx=>⟨rfl,rfl⟩) hn
def qAN(l:LInt9)(x:Int):iv (l++[x])=iv l++[iJ x]:=by simp [iv]
def qkM(hs:l.Pairwise (·<=·)):(Lib.compact l).Pairwise (· < ·)/\∀ x,x∈Lib.compact l↔x∈l:=by
  have hat:∀ i j,i<=j->j < l.length->l.toArray[i]! <= l.toArray[j]! := λi j hij hj=>by
    rw [fW l.toArray i (by simpa using Nat.lt_of_le_of_lt hij hj),fW l.toArray j Q19];rcases eM i j with h|h
    . exact (List.pairwise_iff_getElem.1 hs) i j O hj h
    . obtain rfl:i=j:=by omega
      exact it _
  have oT:∀ j,j < l.length->∃ i,i < l.length/\Lib.keeps l.toArray i=true/\l.toArray[i]! = l.toArray[j]! := by
    intro j;induction j with
    | zero=>exact λh=>⟨0,h,by simp [Lib.keeps],rfl⟩
    | succ j ih=>
      intro h;by_cases hk:Lib.keeps l.toArray (j+1)=true
      . exact ⟨j+1,h,hk,rfl⟩
      . obtain ⟨i,h1,h2,h3⟩:=ih O
        have h4:l.toArray[j+1]! = l.toArray[j]! := by
          simp only [Lib.keeps,aF,il,Nat.add_sub_cancel] at hk;exact gC.1 hk.2
        exact ⟨i,h1,h2,h3.trans h4.symm⟩
  constructor
  . rw [Lib.compact,Lib.compactUpTo,List.pairwise_map]
    refine List.Pairwise.imp_of_mem ?_ ((List.pairwise_lt_range (n:=l.length)).filter _);intro i j hi hj hij;obtain ⟨hj1,hj2⟩:=fN.1 hj;have hjl:j < l.length:=dt.1 hj1;simp only [Lib.keeps,aF] at hj2;rcases hj2 with h|h
    . omega
    . have a1:=hat i (j - 1) O O
      have a2:=hat (j - 1) j O hjl;omega
  . intro x
    rw [Lib.compact,Lib.compactUpTo,bh];constructor
    . rintro ⟨i,hi,rfl⟩
      have zK:i < l.length:=dt.1 (fN.1 hi).1;rw [fW l.toArray i (by simpa using zK)];simp
    . intro hx
      obtain ⟨j,hj,rfl⟩:=fF.1 hx;obtain ⟨i,h1,h2,h3⟩:=oT j hj;refine ⟨i,fN.2 ⟨dt.2 h1,h2⟩,h3.trans ?_⟩;rw [fW l.toArray j Q19];simp
def qo7(l:LInt9):(B9 l).Pairwise (·<=·)/\∀ x,x∈B9 l↔x∈l:=by
 refine ⟨?_,λx=>(List.mergeSort_perm l _).mem_iff⟩;have h:=List.pairwise_mergeSort (le:=λ(x y:Int)=>decide (x<=y)) (λa b c h1 h2=>by simp only [aF] at *;omega) (λa b=>by simp only [dh,aF];omega) l;exact h.imp λh=>by simpa using h
attribute [local irreducible] JC JO JA JB lZ mF mM AC fill iH QE Ev mq
def yk(p:ja)(fi:Int)(nm:iR):(Int×Int)×(Int×Int):=if (kU p).1≠0 then ((0,0),kU p) else if fi < 0\/(p.funcs.length:Int)<=fi then ((0,0),(4,-2)) else match p.funcs[fi.toNat]? with
 | some x=>if (kR p x nm).2=false then ((0,0),(12,-3)) else ((kR p x nm).1,(0,0))
 | none=>((0,0),(4,-2))
def qBl{fi:Int}(h:(kU p).1≠0):yk p fi nm=((0,0),kU p):=aw h
def qBm{fi:Int}(h:¬ (kU p).1≠0)(h2:fi < 0\/(p.funcs.length:Int)<=fi):yk p fi nm=((0,0),(4,-2)):=(am h).trans (aw h2)
def qGS(h:¬ (kU p).1≠0)(hx:p.funcs[j]?=some x):yk p (j:Int) nm=if (kR p x nm).2=false then ((0,0),(12,-3)) else ((kR p x nm).1,(0,0)):=by
 have hl:=(al.1 hx).1;rw [yk,am h,am O,aH,hx]
def qkL(hu:si p)(h:(kU p).1=0):kU p=(0,0):=(sU.of hu h).2
def qHq(nd:Nd)(hN:sT s nd nv):AV9 D 81 [nv] L s (.agg #[St (nd.use).1,iJ (nd.use).2.1,iJ (nd.use).2.2]):=by
 cases nd with
 | st y lp=>obtain ⟨b,o,C1,r1,e1,C2,r2,e2,C3,r3,e3,rfl,hy,hr⟩:=hN;exact XG L s y b o C1 C2 C3 r1 e1 r2 e2 r3 e3 hy hr
 | ex y lp=>obtain ⟨b,o,C1,r1,e1,rfl,hy,hr⟩:=hN;exact XF L s y b o C1 r1 e1 hy hr
def VP{p:Prop} (h:p:=by
 exact rR [_,_,_,_] L (.agg (us:=[_,_]) 2 Z Z Z Z Z (.agg (us:=[_,_]) 1 Z Z Z Z Z (.nil))) Z Lc λ_ iL=>sQ):p:=h
def VK{p:Prop} (h:p:=by
 exact rR [_,_,_,_,_] L (.agg (us:=[_,_]) 3 Z Z Z Z Z (.agg (us:=[_,_]) 2 Z Z Z Z Z (.nil))) Z Lc λ_ iL=>sQ):p:=h
def Hk{p:Prop} (h:p:=by
  refine iM 8 V<|Jf Z Tt Z Z Z (F4 _ _ p Ag _ ng cg nf cf bm Pz x B1 B2 B3 m1 d1 m2 d2 m3 d3 Pz Pz nm) λkY kN=>H3 ?_;refine iM 13 V<|Wu Z Tt 0 [_,_] Y9 (sM (kP (jT)))<|H1 ?_;refine jq V<|G8 ?_;refine vB Z ?_ ?_<;>intro rO
  .have hE:yk p (j:Int) nm=((0,0),(12,-3)):=by rw [hE9,aw rO]
   refine Sr<|iI (jC [] [_,_] Y3 Z Z Z) Z<|Je Y3 (BR _ _) λlJ lr=>Wt 3 [_,_] Y9<|Wt 2 [_,_] Y9<|G4 ?_;exact rR [_,_,_,_,_] L (.agg (us:=[_,_]) 3 Z Z Z Z Z (.agg (us:=[_,_]) 2 Z Z Z Z Z (.nil))) Z Lc λ_ iL=>sQ
  have hE:yk p (j:Int) nm=((kR p x nm).1,(0,0)):=by rw [hE9,am (by rw [rO];decide)]
  refine Zk<|Zt<|Sr<|iI (jh 0 [_,_] Y5) Z<|iI (jC [] [_,_] Y3 Z Z Z) Z<|Wt 3 [_,_] Y9<|Wt 2 [_,_] Y9<|G3 ?_;exact rR [_,_,_,_,_] L (.agg (us:=[_,_]) 3 Z Z Z Z Z (.agg (us:=[_,_]) 2 Z Z Z Z Z (.nil))) Z Lc λ_ iL=>sQ):p:=h
def qo4(hG:GP s)(d:Nat)(p:ja)(jQ:jn s Ag ng cg p.o)(j8:ju d s Af nf cf p.funcs)(fi:Int)(nm:iR):AV9 D 22 [.agg #[.slice Ag ng cg,.slice Af nf cf],iJ fi,St nm] L s (.tuple #[.agg #[iJ (yk p fi nm).1.1,iJ (yk p fi nm).1.2],.agg #[iJ (yk p fi nm).2.1,iJ (yk p fi nm).2.2]]):=by
 have lX:=jQ.1;have oB:=j8.1;have hU:si p:=⟨jQ.u,j8.u⟩;refine jv (fn:=Tryz.f22) jl Tryz.func22 V Z Tryz.ntmps22 Z (rs:=[.cell 6 66,.cell 7 24]) Z [(0,_),(1,_),(2,_)] Z<|Sr<|kH Y2 λβ1 s1 h1=>jp Z [_,_] Y2 λβ2 s2 h2=>jp Z [_,_] Y2 λβ3 s3 h3=>Nt<|Zs<|Sr<|iI (jh 2 [_,_] Y5) Z<|Je Y3 (FK _ _ Pz d p Ag ng cg nf cf Pz Pz) λs4 h4=>jp Z [_,_] Y2 λβ5 s5 h5=>Wt 0 [_,_] Y9<|Nt<|Sr<|iI (jh 0 [_,_] Y5) Z<|iI (jC [] [_,_] Y3 Z Z Z) Z<|iI (sL Z Z (rq)) Z<|G2 ?_;refine lD Z ?_ ?_<;>intro c6;.have hE:yk p fi nm=((0,0),kU p):=qBl (λh=>c6 Q24);refine Zs<|pm jF 4 Z [2,1] Q3 λs7 h7=>za 0 Z (jC [] [_,_] Y3 Z Z Z) Z<|za 1 Z (jh 0 [_,_] Y5) Z<|iM 2 V<|Wu Z Tt 2 [_,_] Y9 (sM (mT (lq (mT (jT)))))<|iM 3 V<|Wu Z Tt 1 [_,_] Y9 (sM (mT (lq (mT (jT)))))<|jq V<|G3 ?_;exact VP
 have g4:=c6;have vg:¬ (kU p).1≠0:=λh=>h g4.1;obtain ⟨px,yW⟩:=sU.of hU g4.1;have hV:=px.1;have yN:=hV.1;have AQ:=hV.2.1;have rD:=hV.2.2.2.1;have td:=(CB (p:=p) (by rw [px.2.1])).1;refine G3 ?_;refine rm 26 (fi < 0\/(nf:Int)<=fi) ?_ ?_
 .refine G4 ?_;refine kT (t:=20) Z ?_ ?_<;>intro c8;.refine G7 ?_;exact Gq
  refine G5 ?_;refine Wl 3 Y6<|G3 ?_;refine uH Y3<|G2 ?_;refine jd (kE.mk (Lr D) Sb Z (bJ.2 O))
 intro s7 h7;refine mE Z ?_ ?_<;>intro c9;.have hE:=qBm (nm:=nm) vg (by rw [<- oB];exact c9);refine Sr<|iI (jC [] [_,_] Y3 Z Z Z) Z<|Je Y3 (BR _ _) λku jN=>Wt 2 [_,_] Y9<|Wt 1 [_,_] Y9<|G4 ?_;exact VP
 obtain ⟨j,rfl⟩:=aX (show 0<=fi by omega);have hk:j < nf:=by omega
 obtain ⟨b,off,x,B1,m1,d1,B2,m2,d2,B3,m3,d3,rfl,hx,hcx,od,oc,rE,kK⟩:=ju.at_ Pz hk;have xV:=rD x (ay hx);have hE9:=qGS (nm:=nm) vg hx;refine Zk<|Zt<|Zs<|ma jF 15 Z _ (λ_ h=>h) λku jN=>za 0 Z (jh 3 [_,_] Y5) Z<|H1 ?_;refine za 3 Z (Wd 3 Y5) Z<|H1 ?_;refine za 5 Z (jR Y6 hk) Z<|za 6 Z (kq Y3 Pz Z) Z<|H1 ?_;refine kD 1 12 V ?_ ?_
 .refine Jb Z Tt Z Z Z (wz _ _ d p Ag ng cg nf cf Pz Pz td) ?_;rintro _ _ kv jP ⟨rfl,bm,rfl,hM⟩;refine ⟨λ_ _ h=>h,?_⟩;refine kD 8 12 V ?_ ?_
  .refine Jf Z Tt Z Z Z (F4 _ _ p Ag _ ng cg nf cf bm Pz x B1 B2 B3 m1 d1 m2 d2 m3 d3 Pz Pz nm) λkc jL=>H3 ?_;refine iM 12 V<|kA Z Tt Z [_,_] Y2 λβ13 kY kN=>iM 13 V<|Wu Z Tt 0 [_,_] Y9 (sM (kP (jT)))<|H1 ?_;refine jq V<|G8 ?_;refine vB Z ?_ ?_<;>intro rO
   .have hE:yk p (j:Int) nm=((0,0),(12,-3)):=by rw [hE9,aw rO]
    refine Sr<|iI (jC [] [_,_] Y3 Z Z Z) Z<|Je Y3 (BR _ _) λlJ lr=>Wt 3 [_,_] Y9<|Wt 2 [_,_] Y9<|G4 ?_;exact VK
   have hE:yk p (j:Int) nm=((kR p x nm).1,(0,0)):=by rw [hE9,am (by rw [rO];decide)]
   refine Zk<|Zt<|Sr<|iI (jh 0 [_,_] Y5) Z<|iI (jC [] [_,_] Y3 Z Z Z) Z<|Wt 3 [_,_] Y9<|Wt 2 [_,_] Y9<|G3 ?_;exact VK
  refine kA Z Tt Z [_,_] Y2 ?_;intro β12 kc jL;exact Hk
 refine kA Z Tt Z [_,_] Y2 λβ11 kv jP=>iM 1 V<|Jb Z Tt Z Z Z (wz _ _ d p Ag ng cg nf cf Pz Pz td) ?_;rintro _ _ kc jL ⟨rfl,bm,rfl,hM⟩;refine ⟨λ_ _ h=>h,?_⟩;exact Hk
def tn(p:ja)(x:iT)(kd:Int)(nd:Nd):LInt9:=if nd.use.2.1=0 then [] else if (kR p x nd.use.1).1.1=kd then [(kR p x nd.use.1).1.2] else []
def qGt:(tn p x kd nd).length<=1:=by
 unfold tn;split
 . simp
 . split<;>simp
def sf(p:ja)(x:iT)(kd:Int):LInt9:=Lib.compact (B9 ((lI x.body 0).flatMap (tn p x kd)))
def JJ(p:ja)(x:iT)(kd:Int):(sf p x kd).Pairwise (· < ·)/\∀ i,i∈sf p x kd↔∃ nd∈lI x.body 0,i∈tn p x kd nd:=by
 have h1:=qo7 ((lI x.body 0).flatMap (tn p x kd));have h2:=qkM h1.1;exact ⟨h2.1,λi=>by rw [sf,h2.2,h1.2,List.mem_flatMap]⟩
abbrev IQ:=Value×Hl×LInt9
def qye{p:ja}{x:iT}{kd:Int}:∀ {l:List Nd} {g g':IQ},sS (λ_:IQ=>none) (λg nd g1=>g1.2.2=g.2.2++tn p x kd nd) g l g'->g'.2.2=g.2.2++l.flatMap (tn p x kd)
 | [],g,g',h=>by
  have h:g'=g:=h;subst h;simp
 | n::r,g,g',⟨g1,h1,h2⟩=>by
  have h1:g1.2.2=g.2.2++tn p x kd n:=h1;have h2:sS (λ_:IQ=>none) (λg nd g1=>g1.2.2=g.2.2++tn p x kd nd) g1 r g':=h2;rw [qye h2,h1,dj,an]
def BI(s:World)(l:LInt9)(v:Value):Prop:=∃ A n c,v=.slice A n c/\AB s A n c l
def BI.le{D:Nat}{s:World}{v:Value}(h:BI s l v)(hl:Le D s s'):BI s' l v:=by
 obtain ⟨A,n,c,h1,h2⟩:=h;exact ⟨A,n,c,h1,h2.le hl⟩
def qle(p:ja)(Ag Af:OAdr9)(ng cg nf cf bm d:Nat)(hM:nW s bm p)(x:iT)(B1 B2 B3:OAdr9)(m1 d1 m2 d2 m3 d3:Nat)(od:iW s B1 m1 d1 x.params)(oc:iW s B2 m2 d2 x.locals)(rE:jz d s B3 m3 d3 x.body)(xV:CZ x)(kd:Int):Ap9 D 46 [.agg #[.slice Ag ng cg,.slice Af nf cf,.map (some bm)],.agg #[St x.name,.slice B1 m1 d1,.slice B2 m2 d2,.slice B3 m3 d3],iJ kd] L s λv L' s'=>∃ M',L'=M'++L/\∀ s2,Le D s' s2->mz M' s2->BI s2 (sf p x kd) v:=by
 have hbl:(lI x.body 0).length<=2000:=by rw [Nw];exact xV.2.2.2.2.2
 refine Jv (fn:=Tryz.f46) jl Tryz.func46 V Z Tryz.ntmps46 Z (rs:=[.tmp 6]) Z [(0,_),(1,_),(2,_)] Z<|Ys<|Yr<|SM Z Z λβ1 s1 h1=>SM Z Z λβ2 s2 h2=>qxt Z Z Z λβ3 s3 h3=>wS Z Z<|Yn<|Yt<|Ys<|Yr<|Bj Z [_] Z Z λβ4 s4 h4=>Yn<|Yt<|Ys<|Ys<|Yr<|lM (jh 2 [_,_,_,_] Y5) Z<|uO Y3 (qxw _ _ x B1 B2 B3 m1 d1 m2 d2 m3 d3) ?_;rintro _ _ s5 h5 ⟨rfl,ba,rfl,hba⟩;refine Yn<|Yt<|Yp<|?_;refine ZF (σ:=IQ) (α:=Nd×OAdr9×OAdr9×Nat) (λg=>(β4,cb [g.1] 74)::_::_::_::(g.2.1++L)) (λg tw=>Own 3 1 g.2.1 g.1 g.2.2.length (iv g.2.2)/\g.2.2.length<=2000) (λg=>none) (λg xn g1=>g1.2.2=g.2.2++tn p x kd xn.1) (λxn=>[.agg #[.pointer xn.2.1,.pointer xn.2.2.1,iJ (xn.2.2.2:Int)]]) (λg xn tw=>sT tw xn.1 (.agg #[.pointer xn.2.1,.pointer xn.2.2.1,iJ (xn.2.2.2:Int)])/\g.2.2.length < (lI x.body 0).length) (λg1=>g1.2.2=(lI x.body 0).flatMap (tn p x kd)) (AR:=(λxn fr A=>∃ βy,je fr [(8,jc βy),(3,jc β1),(4,jc β2),(5,jc β3),(7,jc β4)]/\A=[(βy,cb [.pointer xn.2.1,.pointer xn.2.2.1,iJ (xn.2.2.2:Int)] 133)])) (cap:=[_]) Z (.slice none 0 0,[],[]) Z (⟨Own.nil,aB _⟩) Z (λ_ _ _ h _=>h) (λ_=>.inl Z) (λ_=>rfl) Z ?_ ?_ ?_ ?_;.intro l6 x6 L6 s6;refine Yr<|Bj Z [_,_,_] Z Z λβ7 s7 h7=>yh 0 [_,_,_] Y9<|Yn ?_;exact ⟨rfl,rfl,⟨[_],⟨_,(.cons rfl (.cons rfl (.cons rfl (.cons rfl (.cons rfl (.nil _)))))),rfl⟩,rfl⟩,h7⟩
 .rintro l8 d8 o8 p8 g xn s8 s9 fr8 A8 h8 h9 I8 hp8 P8 ⟨βy,hK8,rfl⟩;refine qxs hK8 ?_;simp only [iU,iV];obtain ⟨vo,Mo,acc⟩:=g;obtain ⟨nd,pa,pb,lp⟩:=xn;obtain ⟨hO,yT⟩:=I8;obtain ⟨hN,xS⟩:=P8;simp only at hO yT hN xS;dsimp only;refine Yp<|Ys<|Yr<|lM (jh 0 [_,_,_] Y5) Z<|uO Y3 (qHq D _ _ nd Pz) ?_;rintro _ _ ku jN ⟨rfl,rfl⟩;refine Bj Z [_,_,_] Z Z λβ11 kv jP=>yh 0 [_,_,_] Y9<|Yn<|Yt<|Ys<|Yr<|QW Z Z Z Z Z<|Cr 0 Y6<|IU Z Z Z<|Yn<|Yt<|?_;refine NW Z ?_ ?_<;>intro nU
  .have hu:=nU;refine Ys<|Yr<|lM (jh 7 [_,_,_] Y5) Z<|lM (jh 6 [_,_,_,_] Y5) Z<|Me Z Z Z Z Z<|Cr 0 Y6<|uO Y3 (F4 _ _ p Ag Af ng cg nf cf bm Pz x B1 B2 B3 m1 d1 m2 d2 m3 d3 Pz Pz _) ?_;rintro _ _ kY kN ⟨rfl,rfl⟩;refine mc Y2<|Va Z Z Z<|Va Z Z Z<|Bj Z [_,_] Z Z λβ14 li kz=>yh 0 [_,_] Y9<|wS Z Z<|Yn<|Yt<|Ys<|Yr<|Me Z Z Z Z Z<|Cr 0 Y6<|lM (Wd 6 Y5) Z<|IT Z Z Z<|Yn<|Yt<|?_;refine Kl Z ?_ ?_<;>intro ve;.have hI:tn p x kd nd=[(kR p x nd.use.1).1.2]:=(am hu).trans (aw ve);refine Yr<|Cr 5 Y6<|QW Z Z Z Z Z<|Cr 0 Y6<|qIm [(_,_)] [_] Z Z Z Z Z Z Z Z Z λβn qW qD pf=>qE3 (sz:=1) [_,_,_,_,_,_,_,_,_] Mo L Z Z Z Z Z Z Z hO (Row.of_cells Pz Z Z) ⟨by simp [Gv];omega,by omega⟩ Z ?_;intro vq Mq tE qR oq;obtain ⟨Avq,oL,rfl,_,_⟩:=Own.slice oq;simp only [iU,iV];refine yh 5 [_] Y9<|Yn<|Yb<|?_;refine ⟨(.slice Avq (acc.length+1) oL,Mq,acc++[(kR p x nd.use.1).1.2]),(by simp only;rw [hI]),Z,[_,_,_],Z,Lc,⟨by simp only;rw [ac,qAN];exact oq,by simp only [ac,au,ap];omega⟩⟩
   have hI:tn p x kd nd=[]:=(am hu).trans (am ve);refine Yk<|Yb<|?_;refine ⟨(vo,Mo,acc),(by simp only;rw [hI,aE]),Z,[_,_,_],Z,Lc,⟨hO,yT⟩⟩
  have hI:tn p x kd nd=[]:=aw nU;refine Yk<|Yb<|?_;refine ⟨(vo,Mo,acc),(by simp only;rw [hI,aE]),Z,[_,_],Z,Lc,⟨hO,yT⟩⟩
 .intro l13 HH kY kN hY;refine (qpS HH (λ(g:IQ) tw=>Own 3 1 g.2.1 g.1 g.2.2.length (iv g.2.2)/\g.2.2.length<=2000) (λ_=>none) (λg nd g1=>g1.2.2=g.2.2++tn p x kd nd) l13 (.slice none 0 0,[],[]) (λg=>g.2.2.length) (lI x.body 0).length (λg nd g1 h=>by have h:g1.2.2=g.2.2++tn p x kd nd:=h;show g1.2.2.length<=g.2.2.length+1;rw [h,ac];have:=qGt (p:=p) (x:=x) (kd:=kd) (nd:=nd);omega) (λ_ _ _ h _=>h) ?_ ⟨Own.nil,aB _⟩ Z ba d x B1 B2 B3 m1 d1 m2 d2 m3 d3 Pz Pz xV.2.2.2.2.1 (by simp)).mono ?_
  . intro g nd nv s2 qs wY ri oR hN2
    obtain ⟨pa,pb,lp,rfl⟩:=hN2.agg;exact hY g (nd,pa,pb,lp) s2 (kN.trans qs) wY rfl ⟨hN2,oR⟩
  . rintro v L' s3 _ ⟨g',h1,h2,h3⟩
    exact ⟨g',by have:=qye h1;simpa using this,h2,h3⟩
 intro d14 g li kz F14 I14;obtain ⟨vo,Mo,acc⟩:=g;obtain ⟨hO,yT⟩:=I14;have hF:=F14;simp only at hO yT hF;dsimp only;obtain ⟨Ao,co,rfl,_,_⟩:=Own.slice hO;refine Yb<|Yt<|Ys<|Yr<|Cr 1 Y6<|uO Y3 (AC.mid [_,_,_,_,_] Mo L (qBG D _ _ 3 Mo Ao acc.length co acc hO O)) ?_;rintro _ _ lJ lr ⟨M2,rfl,rfl,hO2⟩;simp only [iU,iV];refine Yn<|Yt<|Ys<|Yr<|Cr 1 Y6<|uO Y3 (AC.mid [_,_,_,_,_] M2 L (qov D _ _ 3 M2 Ao acc.length co hO2)) ?_;rintro _ _ qW qD ⟨M4,rfl,rfl,hO4⟩;simp only [iU,iV];refine wS Z Z<|Yn<|Yt<|Yo<|?_;refine y8 [_,_,_,_,_] _ (.inr Z) (.t1 Z) Z Lc ⟨[_],Z,List.Sublist.cons_cons _ (cZ _)⟩ λ_ iL=>?_;subst hF;exact ⟨M4,rfl,λs2 kb hp=>⟨_,_,_,rfl,Own.its hO4 hp rfl⟩⟩
def XY(p:ja)(Ag:OAdr9)(ng cg nf cf bm d:Nat)(hM:nW s bm p)(x:iT)(B1 B2 B3:OAdr9)(m1 d1 m2 d2 m3 d3:Nat)(od:iW s B1 m1 d1 x.params)(oc:iW s B2 m2 d2 x.locals)(rE:jz d s B3 m3 d3 x.body)(xV:CZ x)(kd:Int):Ap9 D 46 [.agg #[.slice Ag ng cg,.slice Af nf cf,.map (some bm)],.agg #[St x.name,.slice B1 m1 d1,.slice B2 m2 d2,.slice B3 m3 d3],iJ kd] L s λv L' s'=>L=L'/\BI s' (sf p x kd) v:=AC.pubW (qle D L s p Ag Af ng cg nf cf bm d hM x B1 B2 B3 m1 d1 m2 d2 m3 d3 od oc rE xV kd)
def qC(p:ja)(s:World)(A:OAdr9)(n c:Nat)(l:List iT):Prop:=Sl 1 (λs x cs=>∃ v,cs=[v]/\BI s (sf p x 4) v) s A n c l
def qC.le{D:Nat}{s:World}{l:List iT}(h:qC p s A n c l)(hl:Le D s s'):qC p s' A n c l:=Sl.le (λ_ _ ⟨v,h1,h2⟩=>⟨v,h1,h2.le hl⟩) h hl
def qC.at_{s:World}{l:List iT}(h:qC p s A n c l)(hk:k < n):∃ b off x A' n' c',A=some ⟨b,off,none⟩/\l[k]?=some x/\iH s b (off+k) [.slice A' n' c']/\AB s A' n' c' (sf p x 4):=by
 have hl:k < l.length:=by rw [<- h.1];exact hk
 obtain ⟨b,off,cs,h1,h2,_,v,rfl,A',n',c',rfl,h3⟩:=h.2.2.2 k l[k] (ax hl);exact ⟨b,off,l[k],A',n',c',h1,ax hl,by simpa using h2,h3⟩
def Ge(p:ja):List iT:=if (kU p).1≠0 then [] else p.funcs
def qCV(l:LVal9):l=(l.map λx=>[x]).flatten:=by
 induction l with
 | nil=>rfl
 | cons x l ih=>simp only [aS,bt,ao,aD];rw [<- ih]
def qth{α:Type}{R:α->Value->Prop}{l:List α}(h:kI R l vs):kI (λx cs=>cs.length=1/\∃ v,cs=[v]/\R x v) l (vs.map λv=>[v]):=by
 induction h with
 | nil=>exact .nil
 | cons h _ ih=>exact .cons ⟨rfl,_,rfl,h⟩ ih
def Own.cls{A:Hl}{l:List iT}{s:World}(h:Own e 1 A (.slice Ad n c) n vs)(ha:kI (λx v=>BI s (sf p x 4) v) l vs)(hp:mz A s)(hn:n=l.length):qC p s Ad n c l:=
 Own.rows (R:=λs x cs=>∃ v,cs=[v]/\BI s (sf p x 4) v) (qCV vs▸h) hp (qth ha) hn
def qz7(p:ja)(s:World):qC p s none 0 0 []:=⟨rfl,aC _,by omega,λi x h=>by cases h⟩
def qpg{l:List iT}(h:l[k]?=some x):l.take (k+1)=l.take k++[x]:=by
 obtain ⟨hk,rfl⟩:=al.1 h;exact bM hk
def qqd(hG:GP s)(d:Nat)(p:ja)(Ag Af:OAdr9)(ng cg nf cf:Nat)(jQ:jn s Ag ng cg p.o)(j8:ju d s Af nf cf p.funcs):AN9 D 24 [.agg #[.slice Ag ng cg,.slice Af nf cf]] L s λv M' s'=>∀ s2,Le D s' s2->mz M' s2->∃ A n c,v=.tuple #[.slice A n c,.agg #[iJ (kU p).1,iJ (kU p).2]]/\qC p s2 A n c (Ge p):=by
 have lX:=jQ.1;have oB:=j8.1;have hU:si p:=⟨jQ.u,j8.u⟩;refine jv (fn:=Tryz.f24) jl Tryz.func24 V Z Tryz.ntmps24 Z (rs:=[.tmp 2,.cell 3 24]) Z [(0,_)] Z<|Sr<|kH Y2 λβ1 s1 h1=>me Y2<|jp Z [_,_] Y2 λβ2 s2 h2=>Nt<|Zs<|Sr<|iI (jh 1 [_,_] Y5) Z<|Je Y3 (FK _ _ Pz d p Ag ng cg nf cf Pz Pz) λs3 h3=>jp Z [_,_] Y2 λβ4 s4 h4=>Wt 0 [_,_] Y9<|Nt<|Sr<|iI (jh 0 [_,_] Y5) Z<|iI (jC [] [_,_] Y3 Z Z Z) Z<|iI (sL Z Z (rq)) Z<|G2 ?_;refine lD Z ?_ ?_<;>intro c5;.have hb0:(kU p).1≠0:=λh=>c5 Q24;have hC:Ge p=[]:=aw hb0;refine Zs<|pm jF 3 Z [1] Q3 λs6 h6=>za 0 Z (jh 0 [_,_] Y5) Z<|H1 ?_;refine X5 ?_;refine rR [_,_,_] _ (.tmp Z (.agg (us:=[_,_]) 1 Z Z Z Z Z (.nil))) Z Lc λ_ iL=>?_;rw [hC];exact ⟨[],rfl,λs2 kb hp=>⟨none,0,0,rfl,qz7 p s2⟩⟩
 have g4:=c5;have vg:¬ (kU p).1≠0:=λh=>h g4.1;obtain ⟨px,yW⟩:=sU.of hU g4.1;have hV:=px.1;have yN:=hV.1;have AQ:=hV.2.1;have rD:=hV.2.2.2.1;have td:=(CB (p:=p) (by rw [px.2.1])).1;have hC:Ge p=p.funcs:=am vg;refine Zk<|Zt<|Sr<|iI (jh 2 [_,_] Y5) Z<|Jc Y3 (wz _ _ d p Ag ng cg nf cf Pz Pz td) ?_;rintro _ _ s6 h6 ⟨rfl,bm,rfl,hM⟩;refine jp Z [_,_,_] Y2 λβ7 s7 h7=>Wt 0 [_,_,_] Y9<|k8 ?_;refine Wl 3 Y6<|G5 ?_;refine lw (γ:=Nat×Value×Hl×LVal9) (λg=>[(2,_),(3,_),(5,_),(6,g.2.1),(18,_),(19,_),(20,iJ (g.1:Int))]) (λg=>_::_::_::_::(g.2.2.1++L)) (λg tw=>Le D s7 tw/\(g.1<=nf/\Own 74 1 g.2.2.1 g.2.1 g.1 g.2.2.2/\kI (λx v=>BI tw (sf p x 4) v) (p.funcs.take g.1) g.2.2.2)) (λg=>nf - g.1) (λ_ _ _ h hl=>⟨h.1.trans hl,⟨h.2.1,h.2.2.1,h.2.2.2.mono λ_ _ q=>q.le hl⟩⟩) (0,.slice none 0 0,[],[]) (.c6 Z Z Z Z Z Z (.cons Z (.nil _))) Z ⟨Le.refl _,⟨aB _,Own.nil,.nil⟩⟩ ?_;intro g s8 I8;obtain ⟨k,vo,Mo,vs⟩:=g;obtain ⟨kh,hO,tg⟩:=I8.2;simp only at kh hO tg;dsimp only;obtain ⟨Ao,co,rfl,_,_⟩:=Own.slice hO;refine J6 ?_ ?_<;>intro c9
 .have hk:k < nf:=by omega
  obtain ⟨b,off,x,B1,m1,d1,B2,m2,d2,B3,m3,d3,rfl,hx,hcx,od,oc,rE,kK⟩:=ju.at_ Pz hk;have xV:=rD x (ay hx);refine G6 ?_;refine iI (jR Y6 hk) Z<|iI (kq Y3 Pz Z) Z<|jp Z [_,_,_,_] Y2 λβ10 ku jN=>Wt 0 [_,_,_,_] Y9<|G4 ?_;refine iI (jh 1 [_,_,_] Y5) Z<|iI (jh 0 [_,_,_,_] Y5) Z<|Jc Y3 (XY D _ _ p Ag ng cg nf cf bm d Pz x B1 B2 B3 m1 d1 m2 d2 m3 d3 Pz Pz Pz xV 4) ?_;rintro _ _ kv jP ⟨rfl,Aw,nw,cw,rfl,hIw⟩;refine kF [(_,_)] [_] Y9 λβn kc jL pf=>rp (sz:=1) [_,_,_,_,_] Mo L Y7 hO (Row.of_cells Pz Z Z) ⟨by simp [Lx];omega,by omega⟩ Z ?_;intro vq Mq kY kN oq;obtain ⟨Avq,oL,rfl,_,_⟩:=Own.slice oq;simp only [iU,iV];refine G5 ?_;refine ki Y3 (jB O O)<|G2 ?_;refine jd ⟨(k+1,.slice Avq (k+1) oL,Mq,vs++[.slice Aw nw cw]),[_],kp,Z,⟨Lc,⟨by simp only;omega,oq,by simp only;rw [qpg hx];exact kI.snoc (tg.mono λ_ _ q=>q.le Lc) ⟨_,_,_,Z,hIw.le Lc⟩⟩⟩,Oz⟩
 obtain rfl:k=nf:=by omega
 rw [aI O] at tg;refine G8 ?_;refine iI (jC [] [_,_] Y3 Z Z Z) Z<|me Y2<|Wt 2 [_,_] Y9<|G3 ?_;refine rR [_,_,_,_] _ (.tmp Z (.agg (us:=[_,_]) 2 Z Z Z Z Z (.nil))) Z Lc λ_ iL=>?_;rw [hC,yW];exact ⟨Mo,rfl,λs2 kb hp=>⟨_,_,_,rfl,Own.cls hO (tg.mono λ_ _ q=>q.le Lc) hp oB⟩⟩
def i'(hG:GP s)(d:Nat)(p:ja)(Ag:OAdr9)(ng cg nf cf:Nat)(jQ:jn s Ag ng cg p.o)(j8:ju d s Af nf cf p.funcs):Ap9 D 24 [.agg #[.slice Ag ng cg,.slice Af nf cf]] L s λv L' s'=>L=L'/\∃ A n c,v=.tuple #[.slice A n c,.agg #[iJ (kU p).1,iJ (kU p).2]]/\qC p s' A n c (Ge p):=AC.pubW (qqd D L s hG d p Ag Af ng cg nf cf jQ j8)
end
section
variable{P c Q:LVal9}{off:Nat}
inductive kV{α β γ:Type}(R:α->β->γ->Prop):List α->List β->List γ->Prop
 | nil:kV R [] [] []
 | cons {a b c us vs ws}:R a b c->kV R us vs ws->kV R (a::us) (b::vs) (c::ws)
section
variable{α β γ:Type}{R S:α->β->γ->Prop}
def kV.len{us:List α}{vs:List β}{ws:List γ}(h:kV R us vs ws):us.length=vs.length/\ws.length=vs.length:=by
 induction h with
 | nil=>exact ⟨rfl,rfl⟩
 | cons _ _ ih=>exact ⟨by simp [ih.1],by simp [ih.2]⟩
def kV.app{us us':List α}{vs vs':List β}{ws ws':List γ}(h:kV R us vs ws)(h':kV R us' vs' ws'):kV R (us++us') (vs++vs') (ws++ws'):=by
 induction h with
 | nil=>exact h'
 | cons h1 _ ih=>exact .cons h1 ih
def kV.mono(hR:∀ a b c,R a b c->S a b c){us:List α}{vs:List β}{ws:List γ}(h:kV R us vs ws):kV S us vs ws:=by
 induction h with
 | nil=>exact .nil
 | cons h1 _ ih=>exact .cons (hR _ _ _ h1) ih
def kV.at_{us:List α}{vs:List β}{ws:List γ}(h:kV R us vs ws){k:Nat}(hk:k < vs.length):∃ vP a vQ vR b yx tZ c vS,us=vP++a::vQ/\vs=vR++b::yx/\ws=tZ++c::vS/\vR.length=k/\R a b c/\kV R vP vR tZ/\kV R vQ yx vS:=by
 induction h generalizing k with
 | nil=>exact absurd hk (ia _)
 | @cons a b c us vs ws h1 h2 ih=>
  cases k with
  | zero=>exact ⟨[],a,us,[],b,vs,[],c,ws,rfl,rfl,rfl,rfl,h1,.nil,h2⟩
  | succ k=>
   obtain ⟨vP,a',vQ,vR,b',yx,tZ,c',vS,rfl,rfl,rfl,e,r1,r2,r3⟩:=ih (k:=k) (by simpa using hk);exact ⟨a::vP,a',vQ,b::vR,b',yx,c::tZ,c',vS,rfl,rfl,rfl,by simp [e],r1,.cons h1 r2,r3⟩
def ZL{xs:List β}{css:List γ}{R:Hl->β->γ->Prop}{P:Nat×Obj->Prop}(h:kV R Ms xs css)(hR:∀ M x cs,R M x cs->∀ y∈M,P y):∀ y∈Ms.flatten,P y:=by
 induction h with
 | nil=>exact λy h=>by cases h
 | cons h1 _ ih=>
  intro y hy;rw [bt] at hy;rcases aU.1 hy with hy|hy
  . exact hR _ _ _ h1 y hy
  . exact ih y hy
end
def qAZ(h:P.length=off)(hj:j < c.length):nth (P++(c++Q)) (off+j)=nth c j:=by
 rw [uU,uU,aY O,show off+j - P.length=j by omega,aR hj]
def qFQ{vs:LVal9}(hn:vs.length=n)(h:∀ j v,vs[j]?=some v->zs[off+j]?=some v):cut zs off n=some vs:=by
 induction n generalizing off vs with
 | zero=>rw [aG hn];rfl
 | succ n ih=>
  cases vs with
  | nil=>cases hn
  | cons v vs=>
   have h1:=ih (off:=off+1) (vs:=vs) (by simpa using hn) λj u hj=>by
    have:=h (j+1) u Q19
    rwa [show off+1+j=off+(j+1) by omega]
   have h0:=h 0 v rfl;simp only [cut,uU];rw [show zs[off]?=some v from h0];simp only [h1]
def qAc(h:P.length=off)(hn:c.length=n):cut (P++(c++Q)) off n=some c:=by
 refine qFQ hn λj v hj=>?_;have hl:=(al.1 hj).1;rw [aY O,show off+j - P.length=j by omega,aR hl];exact hj
def qo8(h:P.length=off)(hv:v.length=c.length):oO (P++(c++Q)) off v=P++(v++Q):=by
 rw [Dd _ _ _ Q23,ej O,aI O,an];congr 2;rw [<- an,fC Q23,dU Q23];rfl
def qzO(h:P.length=off)(hn:c.length=n):Nat.ble (off+n) (P++(c++Q)).length=true:=ii Q23
end
section
variable{β γ α:Type}{d sz:Nat}{M:Hl}{cs:LVal9}{xs:List Ex}{l:List LVal9}
def ZK{xs:List β}{css:List γ}{R:Hl->β->γ->Prop}{S:β->γ->Prop}(h:kV R Ms xs css)(hR:∀ M∈Ms,∀ x cs,R M x cs->S x cs):kI S xs css:=by
 induction h with
 | nil=>exact .nil
 | cons h1 _ ih=>exact .cons (hR _ Mc _ _ h1) (ih λM hM=>hR M (aq _ hM))
def OX:Nat->Hl->Ex->LVal9->Prop
 | 0,_,_,_=>False
 | d+1,M,x,cs=>∃ A n c,cs=[iJ x.kind,iJ x.op,iO x.num,St x.name,.slice A n c]/\(∃ css Ms R,Own 34 5 R (.slice A n c) n css.flatten/\M=R++Ms.flatten/\kV (OX d) Ms x.args css/\n=x.args.length)/\iY x.num/\x.name.length<=9223372036854775807
def sB(d:Nat)(M:Hl)(A:OAdr9)(n c:Nat)(xs:List Ex):Prop:=∃ css Ms R,Own 34 5 R (.slice A n c) n css.flatten/\M=R++Ms.flatten/\kV (OX d) Ms xs css/\n=xs.length
def OX.eq{x:Ex}(h:OX d M x cs):∃ e A n c,d=e+1/\cs=[iJ x.kind,iJ x.op,iO x.num,St x.name,.slice A n c]/\sB e M A n c x.args/\iY x.num/\x.name.length<=9223372036854775807:=by
 cases d with
 | zero=>exact h.elim
 | succ e=>obtain ⟨A,n,c,h1,h2,h3⟩:=h;exact ⟨e,A,n,c,rfl,h1,h2,h3⟩
def OX.mk{x:Ex}(h:sB d M A n c x.args)(hu:iY x.num)(hl:x.name.length<=9223372036854775807):OX (d+1) M x [iJ x.kind,iJ x.op,iO x.num,St x.name,.slice A n c]:=⟨A,n,c,rfl,h,hu,hl⟩
def sB.nil(d:Nat):sB d [] none 0 0 []:=⟨[],[],[],.nil,rfl,.nil,rfl⟩
def JK(h:mz Ms.flatten s):∀ M∈Ms,mz M s:=λM hM b zs t hm=>h b zs t (List.mem_flatten.2 ⟨M,hM,hm⟩)
def OX.pub:∀ {d:Nat} {M:Hl} {x:Ex} {cs:LVal9},OX d M x cs->mz M s->cs.length=5/\yz d s x cs:=by
 intro d;induction d with
 | zero=>exact λh=>h.elim
 | succ d ih=>
  intro M x cs h hp;obtain ⟨A,n,c,rfl,⟨css,Ms,R,k1,rfl,k3,k4⟩,h3,h4⟩:=h;exact ⟨rfl,A,n,c,rfl,Own.rows k1 hp.left (ZK k3 λM hM x cs h=>ih h (JK hp.right M hM)) k4,h3,h4⟩
def sB.pub(h:sB d M A n c xs)(hp:mz M s):j9 d s A n c xs:=by
 obtain ⟨css,Ms,R,k1,rfl,k3,k4⟩:=h;exact Own.rows k1 hp.left (ZK k3 λM hM x cs h=>h.pub (JK hp.right M hM)) k4
def OX.cb:∀ {d:Nat} {M:Hl} {x:Ex} {cs:LVal9},OX d M x cs->∀ y∈M,y.2≠mA D:=by
 intro d;induction d with
 | zero=>exact λh=>h.elim
 | succ d ih=>
  intro M x cs h;obtain ⟨A,n,c,rfl,⟨css,Ms,R,k1,rfl,k3,k4⟩,h3,h4⟩:=h;intro y hy;rcases aU.1 hy with hy|hy
  . exact Ts k1 y hy
  . exact ZL k3 (λM x cs h=>ih h) y hy
def sB.cb(h:sB d M A n c xs):∀ y∈M,y.2≠mA D:=by
 obtain ⟨css,Ms,R,k1,rfl,k3,k4⟩:=h;intro y hy;rcases aU.1 hy with hy|hy
 . exact Ts k1 y hy
 . exact ZL k3 (λM x cs h=>h.cb) y hy
def qrW(h:kV (OX d) Ms xs css):css.flatten.length=xs.length * 5:=by
 induction h with
 | nil=>rfl
 | cons h1 _ ih=>
  obtain ⟨e,A,n,c,_,rfl,_⟩:=h1.eq;simp only [bt,ac,ih,au,ap];omega
attribute [local irreducible] JC JO JA JB lZ mF mM AC fill iH QE Ev mq
def qHd{l:List iR}(h:iW s A n c l):∀ x∈l,x.length<=9223372036854775807:=λx hx=>by
 obtain ⟨k,hk⟩:=bC hx;have hl:=(al.1 hk).1;obtain ⟨b,off,y,_,h2,_,h4⟩:=iW.at_ h (show k < n by rw [h.1];exact hl);rw [hk] at h2;injection h2 with h2;subst h2;exact h4
def GY{p:Prop} (h:p:=by
 first
  | exact ⟨[],rfl,λs2 kb hp=>⟨none,0,0,rfl,lV.nil s2 none 0 O⟩⟩
  | exact ⟨Mq,rfl,λs2 kb hp=>⟨_,_,_,rfl,by have:=Own.wds oq (lV.u32 hW) hp;simpa using this⟩⟩):p:=h
def qou(L:Hl)(s:World)(A:OAdr9)(n c:Nat)(l:LInt9)(hW:lV s A n c l)(hn:n<=4000000):AN9 D 84 [.slice A n c] L s λv M' s'=>∀ s2,Le D s' s2->mz M' s2->∃ A' n' c',v=.slice A' n' c'/\lV s2 A' n' c' l:=by
 refine jv (fn:=f84) jl func84 V Z ntmps84 Z (rs:=[.tmp 2]) Z [(0,_)] Z<|G9 ?_;refine iI (Z' Z Z Z) Z<|G2 ?_;refine qT Z ?_ ?_<;>intro c1
 .obtain rfl:A=none:=by simpa using c1
  have hn0:n=0:=by
    rcases eZ n with h|h
    . exact h
    . obtain ⟨b,off,x,e0,_⟩:=lV.at_ hW h
      cases e0
  obtain rfl:l=[]:=aG (by have:=hW.1;omega);refine G7 ?_;exact rR [] _ (.t1 Z) Z (Lr D) λ_ iL=>GY
 refine Zk<|Zt<|Sr<|Kk (sz:=1) Z Z Z Z λβz s2 h2 oz=>jY Y2<|rp (sz:=1) [] _ L Y7 oz (hW.le h2).row ⟨by simp [pw];omega,by omega⟩ Z ?_;intro vq Mq s3 h3 oq;obtain ⟨Avq,oL,rfl,_,_⟩:=Own.slice oq;rw [aZ,aD] at oq;simp only [aD];refine G4 ?_;exact rR [] _ (.t1 Z) Z Lc λ_ iL=>GY
def qot(L:Hl)(s:World)(A:OAdr9)(n c:Nat)(l:List iR)(hW:iW s A n c l)(hn:n<=4000000):AN9 D 85 [.slice A n c] L s λv M' s'=>∀ s2,Le D s' s2->mz M' s2->∃ A' n' c',v=.slice A' n' c'/\iW s2 A' n' c' l:=by
 refine jv (fn:=f85) jl func85 V Z ntmps85 Z (rs:=[.tmp 2]) Z [(0,_)] Z<|G9 ?_;refine iI (Z' Z Z Z) Z<|G2 ?_;refine qT Z ?_ ?_<;>intro c1
 .obtain rfl:A=none:=by simpa using c1
  have hn0:n=0:=by
    rcases eZ n with h|h
    . exact h
    . obtain ⟨b,off,x,e0,_⟩:=iW.at_ hW h
      cases e0
  obtain rfl:l=[]:=aG (by have:=hW.1;omega);refine G7 ?_;exact rR [] _ (.t1 Z) Z (Lr D) λ_ iL=>⟨[],rfl,λs2 kb hp=>⟨none,0,0,rfl,⟨rfl,aC _,by omega,λi x h=>by cases h⟩⟩⟩
 refine Zk<|Zt<|Sr<|Kk (sz:=1) Z Z Z Z λβz s2 h2 oz=>jY Y2<|rp (sz:=1) [] _ L Y7 oz (hW.le h2).row ⟨by simp [zw];omega,by omega⟩ Z ?_;intro vq Mq s3 h3 oq;obtain ⟨Avq,oL,rfl,_,_⟩:=Own.slice oq;rw [aZ,aD] at oq;simp only [aD];refine G4 ?_;exact rR [] _ (.t1 Z) Z Lc λ_ iL=>⟨Mq,rfl,λs2 kb hp=>⟨_,_,_,rfl,by have:=Own.strs oq (qHd hW) hp hW.1;simpa using this⟩⟩
def qqp(A:OAdr9)(n c:Nat)(l:LInt9)(hW:lV s A n c l)(hn:n<=4000000):Ap9 D 84 [.slice A n c] L s λv L' s'=>L=L'/\∃ A' n' c',v=.slice A' n' c'/\lV s' A' n' c' l:=AC.pubW (qou L s A n c l hW hn)
def xv(A:OAdr9)(n c:Nat)(l:List iR)(hW:iW s A n c l)(hn:n<=4000000):Ap9 D 85 [.slice A n c] L s λv L' s'=>L=L'/\∃ A' n' c',v=.slice A' n' c'/\iW s' A' n' c' l:=AC.pubW (qot L s A n c l hW hn)
def Q_{x:Ex}:∀ {l:List Ex} {k:Nat},l[k]?=some x->ln x.args+k+1<=ln l
 | [],k,h=>by cases h
 | .mk a b c d e::r,0,h=>by
  simp at h;subst h;rw [ln,ns];simp only [Ex.args];omega
 | .mk a b c d e::r,k+1,h=>by
  have:=Q_ (l:=r) (k:=k) Q4;rw [ln,ns];omega
def P_:∀ l:List Ex,l.length<=ln l
 | []=>aC _
 | .mk a b c d e::r=>by have:=P_ r;rw [ln,ns,au];omega
def wA{l:List α}{x:α}(h:l[k]?=some x):l.take (k+1)=l.take k++[x]:=by
 obtain ⟨hk,rfl⟩:=al.1 h;exact bM hk
def RT{R:α->β->γ->Prop}{us:List α}{vs:List β}{ws:List γ}{a:α}{b:β}{c:γ}(h:kV R us vs ws)(h1:R a b c):kV R (us++[a]) (vs++[b]) (ws++[c]):=h.app (.cons h1 .nil)
def UH(D d:Nat):Prop:=∀ (L:Hl) (s:World) (A:OAdr9) (n c:Nat) (xs:List Ex),j9 d s A n c xs->ln xs<=4000000->AN9 D 132 [.slice A n c] L s λv M' _=>∃ A' n' c',v=.slice A' n' c'/\sB d M' A' n' c' xs
def P'(d:Nat)(ih:∀ e,d=e+1->UH D e)(L:Hl)(s:World)(A:OAdr9)(n c:Nat)(xs:List Ex)(hA:j9 d s A n c xs)(Bc:ln xs<=4000000):AN9 D 132 [.slice A n c] L s λv M' _=>∃ A' n' c',v=.slice A' n' c'/\sB d M' A' n' c' xs:=by
 have hn:=hA.1;have mX:=hA.2.1;have oR:=hA.2.2.1;have hl9:=P_ xs;refine jv (fn:=f132) jl func132 V Z ntmps132 Z (rs:=[.tmp 2]) Z [(0,_)] Z<|zx ?_;refine lw (γ:=Nat×Value×Hl×Hl) (λg=>[(2,_),(3,g.2.1),(6,_),(7,_),(8,iJ (g.1:Int))]) (λg=>g.2.2.1++(g.2.2.2++L)) (λg tw=>Le D s tw/\(g.1<=n/\∃ css Ms,Own 34 5 g.2.2.1 g.2.1 g.1 (List.flatten css)/\g.2.2.2=List.flatten Ms/\kV (OX d) Ms (xs.take g.1) css)) (λg=>n - g.1) (λ_ _ _ h hl=>⟨h.1.trans hl,h.2⟩) (0,.slice none 0 0,[],[]) (.c5 Z Z Z Z Z (.nil _)) Z ⟨Le.refl _,⟨aB _,[],[],Own.nil,Z,.nil⟩⟩ ?_;intro g s1 I1;obtain ⟨k,vo,Mo,Fo⟩:=g;obtain ⟨kh,css,Ms,hO,hF,mI⟩:=I1.2;simp only at kh hO hF mI;dsimp only;obtain ⟨Ao,co,rfl,_,_⟩:=Own.slice hO;refine J6 ?_ ?_<;>intro c2
 .have hk:k < n:=by omega
  obtain ⟨e,b,off,x,A',n',c',hd,rfl,hx,hcx,hax,oh,kK⟩:=j9.at_ Pz hk;have hx8:=Q_ hx;refine G6 ?_;refine iI (jR Y6 hk) Z<|iI (kq Y3 Pz Z) Z<|jp Z [_,_,_,_,_] Y2 λβ3 s3 h3=>Wt 0 [_,_,_,_,_] Y9<|G6 ?_;refine Jc Y3 (AC.mid [_] [] (Mo++(Fo++L)) (ih e hd _ _ A' n' c' x.args Pz O)) ?_;rintro _ _ s4 h4 ⟨M1,rfl,A1,n1,c1,rfl,mG⟩;simp only [iU,iV];refine Wb Y5<|Wt 0 [_,_,_,_,_] Y9<|Nt<|EP (L':=_::(Mo++((Fo++M1)++L))) (List.Perm.cons _ (BW M1 Mo Fo L))<|Zr<|jY Y2<|iI (jh 0 [_,_,_,_,_] Y5) Z<|kF [(_,_)] [_,_,_,_,_] Y9 λβn s5 h5 pf=>rp (sz:=5) [_] Mo ((Fo++M1)++L) Y7 hO (Row.of_cells Pz Z Z) ⟨by simp [Fg];omega,by omega⟩ Z ?_;intro vq Mq s6 h6 oq;obtain ⟨Avq,oL,rfl,_,_⟩:=Own.slice oq;simp only [iU,iV];refine G5 ?_;refine ki Y3 (jB O O)<|G2 ?_;refine jd ⟨(k+1,.slice Avq (k+1) oL,Mq,Fo++M1),[_],kp,Z,⟨Lc,⟨by simp only;omega,css++[[iJ x.kind,iJ x.op,iO x.num,St x.name,.slice A1 n1 c1]],Ms++[M1],by simp only [bY,bt,bX,aE];exact oq,by simp only [bY,bt,bX,aE];rw [hF],by simp only;rw [wA hx];exact RT mI (hd▸OX.mk mG oh kK)⟩⟩,Oz⟩
 obtain rfl:n=k:=by omega
 rw [aI O] at mI;refine mn ?_;exact rR [] _ (.t1 Z) Z I1.1 λ_ iL=>⟨Mo++Fo,(an Mo Fo L).symm,_,_,_,rfl,css,Ms,Mo,hO,by rw [hF],mI,hn⟩
def Ep{D:Nat}:∀ d,UH D d
 | 0=>λL s A n c xs hA Bc=>P' 0 (λe h=>by omega) L s A n c xs hA Bc
 | d+1=>λL s A n c xs hA Bc=>P' (d+1) (λe h=>(show d=e by omega)▸Ep d) L s A n c xs hA Bc
def vV(sz:Nat)(s:World)(A:OAdr9)(n c:Nat)(css:List LVal9):Prop:=Sl sz (λ_ x cs=>cs=x) s A n c css
def vV.le(h:vV sz s A n c l)(hl:Le D s s'):vV sz s' A n c l:=Sl.le (λ_ _ h=>h) h hl
def vV.at_{x:LVal9}(h:vV sz s A n c l)(hx:l[k]?=some x):∃ b off,A=some ⟨b,off,none⟩/\iH s b (off+k * sz) x:=by
 obtain ⟨b,off,cs,h1,h2,_,rfl⟩:=h.2.2.2 k x hx;exact ⟨b,off,h1,h2⟩
def vV.own(h:Own e sz M (.slice A n c) n css.flatten)(hp:mz M s)(ha:∀ cs∈css,cs.length=sz)(hn:n=css.length):vV sz s A n c css:=by
 refine Own.rows h hp ?_ hn;clear h hn;induction css with
 | nil=>exact .nil
 | cons x l ih=>exact .cons ⟨ha x Mc,rfl⟩ (ih λy hy=>ha y (aq _ hy))
def SO:Nat->World->Hl->jb->LVal9->Prop
 | 0,_,_,_,_=>False
 | d+1,s,M,x,cs=>∃ A1 n1 c1 A2 n2 c2 A3 n3 c3 M1 M2 M3,cs=[iJ x.kind,St x.name,.slice A1 n1 c1,.slice A2 n2 c2,.slice A3 n3 c3]/\M=M1++(M2++M3)/\sB d M1 A1 n1 c1 x.exprs /\
   (∃ css Ms,M2=Ms.flatten/\vV 5 s A2 n2 c2 css/\kV (SO d s) Ms x.body css)/\(∃ css Ms,M3=Ms.flatten/\vV 5 s A3 n3 c3 css/\kV (SO d s) Ms x.els css)/\x.name.length<=9223372036854775807
def rN(d:Nat)(s:World)(M:Hl)(A:OAdr9)(n c:Nat)(l:List jb):Prop:=∃ css Ms,M=Ms.flatten/\vV 5 s A n c css/\kV (SO d s) Ms l css
def SO.le(hl:Le D s s'):∀ {d:Nat} {M:Hl} {x:jb} {cs:LVal9},SO d s M x cs->SO d s' M x cs:=by
 intro d;induction d with
 | zero=>exact λh=>h.elim
 | succ d ih=>
  intro M x cs ⟨A1,n1,c1,A2,n2,c2,A3,n3,c3,M1,M2,M3,h1,h2,h3,⟨c4,m4,e4,r4,k4⟩,⟨c5,m5,e5,r5,k5⟩,h6⟩;exact ⟨A1,n1,c1,A2,n2,c2,A3,n3,c3,M1,M2,M3,h1,h2,h3,⟨c4,m4,e4,r4.le hl,k4.mono λ_ _ _ h=>ih h⟩,⟨c5,m5,e5,r5.le hl,k5.mono λ_ _ _ h=>ih h⟩,h6⟩
def rN.le{l:List jb}(h:rN d s M A n c l)(hl:Le D s s'):rN d s' M A n c l:=by
 obtain ⟨c4,m4,e4,r4,k4⟩:=h;exact ⟨c4,m4,e4,r4.le hl,k4.mono λ_ _ _ h=>SO.le hl h⟩
def SO.mk{M1 M2 M3:Hl}{x:jb}{n1 c1 n2 c2 n3 c3:Nat}(h1:sB d M1 A1 n1 c1 x.exprs)(h2:rN d s M2 A2 n2 c2 x.body)(h3:rN d s M3 A3 n3 c3 x.els)(hl:x.name.length<=9223372036854775807):SO (d+1) s (M1++(M2++M3)) x [iJ x.kind,St x.name,.slice A1 n1 c1,.slice A2 n2 c2,.slice A3 n3 c3]:=
 ⟨A1,n1,c1,A2,n2,c2,A3,n3,c3,M1,M2,M3,rfl,rfl,h1,h2,h3,hl⟩
def SO.eq{x:jb}(h:SO d s M x cs):∃ e A1 n1 c1 A2 n2 c2 A3 n3 c3 M1 M2 M3,d=e+1/\cs=[iJ x.kind,St x.name,.slice A1 n1 c1,.slice A2 n2 c2,.slice A3 n3 c3]/\M=M1++(M2++M3)/\sB e M1 A1 n1 c1 x.exprs/\rN e s M2 A2 n2 c2 x.body/\rN e s M3 A3 n3 c3 x.els/\x.name.length<=9223372036854775807:=by
 cases d with
 | zero=>exact h.elim
 | succ e=>obtain ⟨A1,n1,c1,A2,n2,c2,A3,n3,c3,M1,M2,M3,h1⟩:=h;exact ⟨e,A1,n1,c1,A2,n2,c2,A3,n3,c3,M1,M2,M3,rfl,h1⟩
def SO.five{x:jb}(h:SO d s M x cs):cs.length=5:=by
 obtain ⟨_,_,_,_,_,_,_,_,_,_,_,_,_,_,rfl,_⟩:=h.eq;rfl
def YB{R:α->β->γ->Prop}{P:γ->Prop}(hR:∀ a b c,R a b c->P c){us:List α}{vs:List β}{ws:List γ}(h:kV R us vs ws):∀ c∈ws,P c:=by
 induction h with
 | nil=>exact λc h=>by cases h
 | cons h1 _ ih=>
   intro c hc;rcases aW.1 hc with rfl|hc
   . exact hR _ _ _ h1
   . exact ih c hc
def Se{x:jb}:∀ {l:List jb} {k:Nat},l[k]?=some x->ln x.exprs+kC x.body+kC x.els+k+1<=kC l
 | [],k,h=>by cases h
 | .mk a b c d e::r,0,h=>by
  simp at h;subst h;rw [kC,qA];simp only [jb.exprs,jb.body,jb.els];omega
 | .mk a b c d e::r,k+1,h=>by
  have:=Se (l:=r) (k:=k) Q4;rw [kC,qA];omega
def Ny:∀ l:List jb,l.length<=kC l
 | []=>aC _
 | .mk a b c d e::r=>by have:=Ny r;rw [kC,qA,au];omega
def UG(D d:Nat):Prop:=∀ (L:Hl) (s:World) (A:OAdr9) (n c:Nat) (xs:List jb),jz d s A n c xs->kC xs<=4000000->AN9 D 86 [.slice A n c] L s λv M' s'=>∃ A' n' c',v=.slice A' n' c'/\rN d s' M' A' n' c' xs
def Ds(b:Nat×Obj)(M1 M2 M3 Mo Fo L:Hl):(b::(M3++(M2++(M1++(Mo++(Fo++L)))))).Perm (b::(Mo++((Fo++(M1++(M2++M3)))++L))):=by
 refine List.Perm.cons _ ?_;have h1:(M3++(M2++M1)).Perm (M1++(M2++M3)):=by
  have a:(M3++(M2++M1)).Perm ((M2++M1)++M3):=dJ;have b:((M2++M1)++M3).Perm ((M1++M2)++M3):=gU M3 dJ;simpa [an] using a.trans b
 have h2:(M3++(M2++(M1++(Mo++(Fo++L))))).Perm ((M1++(M2++M3))++(Mo++(Fo++L))):=by
  have:=gU (Mo++(Fo++L)) h1;simpa [an] using this
 exact h2.trans (BW (M1++(M2++M3)) Mo Fo L)
def Hz{p:Prop} (h:p:=by
 rintro _ _ s7 h7 ⟨M2,rfl,C2,r2,e2,rfl,jG⟩;refine ⟨(λx hx _=>nomatch hx),?_⟩;simp only [iU,iV];refine iM 8 V<|Jb Z Tt Z Z Z (AC.mid [_] [] (M2++(M1++(Mo++(Fo++L)))) (ih e hd _ _ A3 n3 p3 x.els Pz O)) ?_;rintro _ _ s8 h8 ⟨M3,rfl,C3,r3,e3,rfl,lW⟩;refine ⟨(λx hx _=>nomatch hx),?_⟩;simp only [iU,iV];refine X1 ?_;refine jd (nM.mk (.slice C1 r1 e1,.slice C2 r2 e2,.slice C3 r3 e3,M1,M2,M3) [] Lc sk (Ds _ M1 M2 M3 Mo Fo L) ⟨⟨_,_,_,Z,mG⟩,⟨_,_,_,Z,jG.le h8⟩,⟨_,_,_,Z,lW.le (Lr D)⟩⟩)):p:=h
def Hm{p:Prop} (h:p:=by
 refine j5 Z Tt (Wd 0 Y5) Z<|iM 1 V<|j5 Z Tt (Wd 0 Y5) Z<|iM 2 V<|Jb Z Tt Z Z Z (AC.mid [_] [] (Mo++(Fo++L)) (Ep e _ _ A1 n1 p1 x.exprs Pz O)) ?_;rintro _ _ s6 h6 ⟨M1,rfl,C1,r1,e1,rfl,mG⟩;refine ⟨(λx hx _=>nomatch hx),?_⟩;simp only [iU,iV];refine H1 ?_;refine iM 5 V<|Jb Z Tt Z Z Z (AC.mid [_] [] (M1++(Mo++(Fo++L))) (ih e hd _ _ A2 n2 p2 x.body Pz O)) ?_;rintro _ _ s7 h7 ⟨M2,rfl,C2,r2,e2,rfl,jG⟩;refine ⟨(λx hx _=>nomatch hx),?_⟩;simp only [iU,iV];refine iM 8 V<|Jb Z Tt Z Z Z (AC.mid [_] [] (M2++(M1++(Mo++(Fo++L)))) (ih e hd _ _ A3 n3 p3 x.els Pz O)) ?_;rintro _ _ s8 h8 ⟨M3,rfl,C3,r3,e3,rfl,lW⟩;refine ⟨(λx hx _=>nomatch hx),?_⟩;simp only [iU,iV];refine X1 ?_;refine jd (nM.mk (.slice C1 r1 e1,.slice C2 r2 e2,.slice C3 r3 e3,M1,M2,M3) [] Lc sk (Ds _ M1 M2 M3 Mo Fo L) ⟨⟨_,_,_,Z,mG⟩,⟨_,_,_,Z,jG.le h8⟩,⟨_,_,_,Z,lW.le (Lr D)⟩⟩)):p:=h
def UP{p:Prop} (h:p:=by
  refine j5 Z Tt (Wd 0 Y5) Z ?_;refine kD 2 4 V ?_ ?_;.refine Jb Z Tt Z Z Z (AC.mid [_] [] (Mo++(Fo++L)) (Ep e _ _ A1 n1 p1 x.exprs Pz O)) ?_;rintro _ _ s6 h6 ⟨M1,rfl,C1,r1,e1,rfl,mG⟩;refine ⟨(λx hx _=>nomatch hx),?_⟩;simp only [iU,iV];refine iM 4 V<|j5 Z Tt (Wd 0 Y5) Z<|H1 ?_;refine iM 5 V<|Jb Z Tt Z Z Z (AC.mid [_] [] (M1++(Mo++(Fo++L))) (ih e hd _ _ A2 n2 p2 x.body Pz O)) ?_;rintro _ _ s7 h7 ⟨M2,rfl,C2,r2,e2,rfl,jG⟩;refine ⟨(λx hx _=>nomatch hx),?_⟩;simp only [iU,iV];refine iM 8 V<|Jb Z Tt Z Z Z (AC.mid [_] [] (M2++(M1++(Mo++(Fo++L)))) (ih e hd _ _ A3 n3 p3 x.els Pz O)) ?_;rintro _ _ s8 h8 ⟨M3,rfl,C3,r3,e3,rfl,lW⟩;refine ⟨(λx hx _=>nomatch hx),?_⟩;simp only [iU,iV];refine X1 ?_;refine jd (nM.mk (.slice C1 r1 e1,.slice C2 r2 e2,.slice C3 r3 e3,M1,M2,M3) [] Lc sk (Ds _ M1 M2 M3 Mo Fo L) ⟨⟨_,_,_,Z,mG⟩,⟨_,_,_,Z,jG.le h8⟩,⟨_,_,_,Z,lW.le (Lr D)⟩⟩)
  refine j5 Z Tt (Wd 0 Y5) Z<|iM 2 V<|Jb Z Tt Z Z Z (AC.mid [_] [] (Mo++(Fo++L)) (Ep e _ _ A1 n1 p1 x.exprs Pz O)) ?_;rintro _ _ s6 h6 ⟨M1,rfl,C1,r1,e1,rfl,mG⟩;refine ⟨(λx hx _=>nomatch hx),?_⟩;simp only [iU,iV];refine H1 ?_;refine iM 5 V<|Jb Z Tt Z Z Z (AC.mid [_] [] (M1++(Mo++(Fo++L))) (ih e hd _ _ A2 n2 p2 x.body Pz O)) ?_;rintro _ _ s7 h7 ⟨M2,rfl,C2,r2,e2,rfl,jG⟩;refine ⟨(λx hx _=>nomatch hx),?_⟩;simp only [iU,iV];refine iM 8 V<|Jb Z Tt Z Z Z (AC.mid [_] [] (M2++(M1++(Mo++(Fo++L)))) (ih e hd _ _ A3 n3 p3 x.els Pz O)) ?_;rintro _ _ s8 h8 ⟨M3,rfl,C3,r3,e3,rfl,lW⟩;refine ⟨(λx hx _=>nomatch hx),?_⟩;simp only [iU,iV];refine X1 ?_;refine jd (nM.mk (.slice C1 r1 e1,.slice C2 r2 e2,.slice C3 r3 e3,M1,M2,M3) [] Lc sk (Ds _ M1 M2 M3 Mo Fo L) ⟨⟨_,_,_,Z,mG⟩,⟨_,_,_,Z,jG.le h8⟩,⟨_,_,_,Z,lW.le (Lr D)⟩⟩)):p:=h
def UL{p:Prop} (h:p:=by
  refine j5 Z Tt (Wd 0 Y5) Z ?_;refine kD 2 7 V ?_ ?_
  .refine Jb Z Tt Z Z Z (AC.mid [_] [] (Mo++(Fo++L)) (Ep e _ _ A1 n1 p1 x.exprs Pz O)) ?_;rintro _ _ s6 h6 ⟨M1,rfl,C1,r1,e1,rfl,mG⟩;refine ⟨(λx hx _=>nomatch hx),?_⟩;simp only [iU,iV];refine kD 5 7 V ?_ ?_;.refine Jb Z Tt Z Z Z (AC.mid [_] [] (M1++(Mo++(Fo++L))) (ih e hd _ _ A2 n2 p2 x.body Pz O)) ?_;rintro _ _ s7 h7 ⟨M2,rfl,C2,r2,e2,rfl,jG⟩;refine ⟨(λx hx _=>nomatch hx),?_⟩;simp only [iU,iV];refine X13 ?_;refine iM 8 V<|Jb Z Tt Z Z Z (AC.mid [_] [] (M2++(M1++(Mo++(Fo++L)))) (ih e hd _ _ A3 n3 p3 x.els Pz O)) ?_;rintro _ _ s8 h8 ⟨M3,rfl,C3,r3,e3,rfl,lW⟩;refine ⟨(λx hx _=>nomatch hx),?_⟩;simp only [iU,iV];refine X1 ?_;refine jd (nM.mk (.slice C1 r1 e1,.slice C2 r2 e2,.slice C3 r3 e3,M1,M2,M3) [] Lc sk (Ds _ M1 M2 M3 Mo Fo L) ⟨⟨_,_,_,Z,mG⟩,⟨_,_,_,Z,jG.le h8⟩,⟨_,_,_,Z,lW.le (Lr D)⟩⟩)
   refine j5 Z Tt (Wd 0 Y5) Z<|H1 ?_;refine iM 5 V<|Jb Z Tt Z Z Z (AC.mid [_] [] (M1++(Mo++(Fo++L))) (ih e hd _ _ A2 n2 p2 x.body Pz O)) ?_;rintro _ _ s7 h7 ⟨M2,rfl,C2,r2,e2,rfl,jG⟩;refine ⟨(λx hx _=>nomatch hx),?_⟩;simp only [iU,iV];refine iM 8 V<|Jb Z Tt Z Z Z (AC.mid [_] [] (M2++(M1++(Mo++(Fo++L)))) (ih e hd _ _ A3 n3 p3 x.els Pz O)) ?_;rintro _ _ s8 h8 ⟨M3,rfl,C3,r3,e3,rfl,lW⟩;refine ⟨(λx hx _=>nomatch hx),?_⟩;simp only [iU,iV];refine X1 ?_;refine jd (nM.mk (.slice C1 r1 e1,.slice C2 r2 e2,.slice C3 r3 e3,M1,M2,M3) [] Lc sk (Ds _ M1 M2 M3 Mo Fo L) ⟨⟨_,_,_,Z,mG⟩,⟨_,_,_,Z,jG.le h8⟩,⟨_,_,_,Z,lW.le (Lr D)⟩⟩)
  refine j5 Z Tt (Wd 0 Y5) Z<|iM 2 V<|Jb Z Tt Z Z Z (AC.mid [_] [] (Mo++(Fo++L)) (Ep e _ _ A1 n1 p1 x.exprs Pz O)) ?_;rintro _ _ s6 h6 ⟨M1,rfl,C1,r1,e1,rfl,mG⟩;refine ⟨(λx hx _=>nomatch hx),?_⟩;simp only [iU,iV];refine H1 ?_;refine iM 5 V<|Jb Z Tt Z Z Z (AC.mid [_] [] (M1++(Mo++(Fo++L))) (ih e hd _ _ A2 n2 p2 x.body Pz O)) ?_;rintro _ _ s7 h7 ⟨M2,rfl,C2,r2,e2,rfl,jG⟩;refine ⟨(λx hx _=>nomatch hx),?_⟩;simp only [iU,iV];refine iM 8 V<|Jb Z Tt Z Z Z (AC.mid [_] [] (M2++(M1++(Mo++(Fo++L)))) (ih e hd _ _ A3 n3 p3 x.els Pz O)) ?_;rintro _ _ s8 h8 ⟨M3,rfl,C3,r3,e3,rfl,lW⟩;refine ⟨(λx hx _=>nomatch hx),?_⟩;simp only [iU,iV];refine X1 ?_;refine jd (nM.mk (.slice C1 r1 e1,.slice C2 r2 e2,.slice C3 r3 e3,M1,M2,M3) [] Lc sk (Ds _ M1 M2 M3 Mo Fo L) ⟨⟨_,_,_,Z,mG⟩,⟨_,_,_,Z,jG.le h8⟩,⟨_,_,_,Z,lW.le (Lr D)⟩⟩)):p:=h
def O'(d:Nat)(ih:∀ e,d=e+1->UG D e)(L:Hl)(s:World)(A:OAdr9)(n c:Nat)(xs:List jb)(hA:jz d s A n c xs)(Bc:kC xs<=4000000):AN9 D 86 [.slice A n c] L s λv M' s'=>∃ A' n' c',v=.slice A' n' c'/\∀ s2,Le D s' s2->rN d s2 M' A' n' c' xs:=by
 have hn:=hA.1;have mX:=hA.2.1;have oR:=hA.2.2.1;have hl9:=Ny xs;refine jv (fn:=f86) jl func86 V Z ntmps86 Z (rs:=[.tmp 2]) Z [(0,_)] Z<|zx ?_;refine lw (γ:=Nat×Value×Hl×Hl) (λg=>[(2,_),(3,g.2.1),(6,_),(7,_),(8,iJ (g.1:Int))]) (λg=>g.2.2.1++(g.2.2.2++L)) (λg tw=>Le D s tw/\(g.1<=n/\∃ css Ms,Own 38 5 g.2.2.1 g.2.1 g.1 (List.flatten css)/\g.2.2.2=List.flatten Ms/\kV (SO d tw) Ms (xs.take g.1) css)) (λg=>n - g.1) (λ_ _ _ h hl=>⟨h.1.trans hl,⟨h.2.1,by obtain ⟨css,Ms,q1,q2,q3⟩:=h.2.2;exact ⟨css,Ms,q1,q2,q3.mono λ_ _ _ k=>SO.le hl k⟩⟩⟩) (0,.slice none 0 0,[],[]) (.c5 Z Z Z Z Z (.nil _)) Z ⟨Le.refl _,⟨aB _,[],[],Own.nil,Z,.nil⟩⟩ ?_;intro g s1 I1;obtain ⟨k,vo,Mo,Fo⟩:=g;obtain ⟨kh,css,Ms,hO,hF,mI⟩:=I1.2;simp only at kh hO hF mI;dsimp only;obtain ⟨Ao,co,rfl,_,_⟩:=Own.slice hO;refine J6 ?_ ?_<;>intro c2
 .have hk:k < n:=by omega
  obtain ⟨e,b,off,x,A1,n1,p1,A2,n2,p2,A3,n3,p3,hd,rfl,hx,hcx,hax,rE,hex,kK⟩:=jz.at_ Pz hk;have hx8:=Se hx;refine G6 ?_;refine iI (jR Y6 hk) Z<|iI (kq Y3 Pz Z) Z<|jp Z [_,_,_,_,_] Y2 λβ3 s3 h3=>Wt 0 [_,_,_,_,_] Y9<|G2 ?_;refine SI [] Z (γ:=Value×Value×Value×Hl×Hl×Hl) (λg=>(β3,cb [iJ x.kind,St x.name,g.1,g.2.1,g.2.2.1] 38)::(Mo++((Fo++(g.2.2.2.1++(g.2.2.2.2.1++g.2.2.2.2.2)))++L))) (λg tw=>(∃ A n c,g.1=.slice A n c/\sB e g.2.2.2.1 A n c x.exprs)/\(∃ A n c,g.2.1=.slice A n c/\rN e tw g.2.2.2.2.1 A n c x.body)/\(∃ A n c,g.2.2.1=.slice A n c/\rN e tw g.2.2.2.2.2 A n c x.els)) (λ_ _ _ h hl=>⟨h.1,by obtain ⟨A,n,c,q1,q2⟩:=h.2.1;exact ⟨A,n,c,q1,q2.le hl⟩,by obtain ⟨A,n,c,q1,q2⟩:=h.2.2;exact ⟨A,n,c,q1,q2.le hl⟩⟩) ?_ ?_
  .refine mh jF 15 Z 0 λs5 h5=>H3 ?_;refine xF 1 4 7 V ?_ ?_ ?_
   .refine X4 ?_;refine xF 2 4 7 V ?_ ?_ ?_
    .refine Jb Z Tt Z Z Z (AC.mid [_] [] (Mo++(Fo++L)) (Ep e _ _ A1 n1 p1 x.exprs Pz O)) ?_;rintro _ _ s6 h6 ⟨M1,rfl,C1,r1,e1,rfl,mG⟩;refine ⟨(λx hx _=>nomatch hx),?_⟩;simp only [iU,iV];refine kD 4 7 V ?_ ?_
     .refine X4 ?_;refine kD 5 7 V ?_ ?_;.refine Jb Z Tt Z Z Z (AC.mid [_] [] (M1++(Mo++(Fo++L))) (ih e hd _ _ A2 n2 p2 x.body Pz O)) ?_;rintro _ _ s7 h7 ⟨M2,rfl,C2,r2,e2,rfl,jG⟩;refine ⟨(λx hx _=>nomatch hx),?_⟩;simp only [iU,iV];refine X13 ?_;refine iM 8 V<|Jb Z Tt Z Z Z (AC.mid [_] [] (M2++(M1++(Mo++(Fo++L)))) (ih e hd _ _ A3 n3 p3 x.els Pz O)) ?_;rintro _ _ s8 h8 ⟨M3,rfl,C3,r3,e3,rfl,lW⟩;refine ⟨(λx hx _=>nomatch hx),?_⟩;simp only [iU,iV];refine X1 ?_;refine jd (nM.mk (.slice C1 r1 e1,.slice C2 r2 e2,.slice C3 r3 e3,M1,M2,M3) [] Lc sk (Ds _ M1 M2 M3 Mo Fo L) ⟨⟨_,_,_,Z,mG⟩,⟨_,_,_,Z,jG.le h8⟩,⟨_,_,_,Z,lW.le (Lr D)⟩⟩)
      refine j5 Z Tt (Wd 0 Y5) Z<|H1 ?_;refine iM 5 V<|Jb Z Tt Z Z Z (AC.mid [_] [] (M1++(Mo++(Fo++L))) (ih e hd _ _ A2 n2 p2 x.body Pz O)) ?_;exact Hz
     refine j5 Z Tt (Wd 0 Y5) Z<|iM 4 V<|j5 Z Tt (Wd 0 Y5) Z<|H1 ?_;refine iM 5 V<|Jb Z Tt Z Z Z (AC.mid [_] [] (M1++(Mo++(Fo++L))) (ih e hd _ _ A2 n2 p2 x.body Pz O)) ?_;exact Hz
    .exact UL
    exact UP
   .refine X4 ?_;refine kD 1 7 V ?_ ?_;.exact UL
    exact Hm
   refine j5 Z Tt (Wd 0 Y5) Z ?_;refine kD 1 4 V ?_ ?_;.exact UP
   exact Hm
  intro g s4 h4 I4;simp only [iU,iV];obtain ⟨v1,v2,v3,M1,M2,M3⟩:=g;obtain ⟨⟨C1,r1,e1,q1,mG⟩,⟨C2,r2,e2,q2,jG⟩,⟨C3,r3,e3,q3,lW⟩⟩:=I4;simp only at q1 q2 q3 mG jG lW;subst q1 q2 q3;dsimp only;refine Zr<|jY Y2<|iI (jh 0 [_,_,_,_,_] Y5) Z<|kF [(_,_)] [_,_,_,_,_] Y9 λβn s9 h9 pf=>rp (sz:=5) [_] Mo ((Fo++(M1++(M2++M3)))++L) Y7 hO (Row.of_cells Pz Z Z) ⟨by simp [Fh];omega,by omega⟩ Z ?_;intro vq Mq ku jN oq;obtain ⟨Avq,oL,rfl,_,_⟩:=Own.slice oq;simp only [iU,iV];refine G5 ?_;refine ki Y3 (jB O O)<|G2 ?_;refine jd ⟨(k+1,.slice Avq (k+1) oL,Mq,Fo++(M1++(M2++M3))),[_],kp,Z,⟨Lc,⟨by simp only;omega,css++[[iJ x.kind,St x.name,.slice C1 r1 e1,.slice C2 r2 e2,.slice C3 r3 e3]],Ms++[M1++(M2++M3)],by simp only [bY,bt,bX,aE];exact oq,by simp only [bY,bt,bX,aE];rw [hF],by simp only;rw [wA hx];exact RT (mI.mono λ_ _ _ k=>SO.le Lc k) (hd▸SO.mk mG (jG.le (h9.t jN)) (lW.le (h9.t jN)) kK)⟩⟩,Oz⟩
 obtain rfl:n=k:=by omega
 rw [aI O] at mI;refine G6 ?_;refine tO [] Mo ?_;intro s3 h3 nP;simp only [iU,iV];have wu:vV 5 s3 Ao n co css:=vV.own hO nP (YB (λ_ _ _ h=>SO.five h) mI) (by have:=mI.len;omega);refine G6 ?_;exact rR [] _ (.t1 Z) Z Lc λ_ iL=>⟨Fo,rfl,_,_,_,rfl,λs2 kb=>⟨css,Ms,hF,wu.le Lc,mI.mono λ_ _ _ k=>SO.le Lc k⟩⟩
def qxK{f:FuncId}{args:LVal9}{xs:List jb}(h:AN9 D f args L s λv M' s'=>∃ A' n' c',v=.slice A' n' c'/\∀ s2,Le D s' s2->rN d s2 M' A' n' c' xs):AN9 D f args L s λv M' s'=>∃ A' n' c',v=.slice A' n' c'/\rN d s' M' A' n' c' xs:=h.mono λv L' s' _ ⟨M',h1,A',n',c',h2,h3⟩=>⟨M',h1,A',n',c',h2,h3 _ (Le.refl _)⟩
def Cs{D:Nat}:∀ d,UG D d
 | 0=>λL s A n c xs hA Bc=>qxK (O' 0 (λe h=>by omega) L s A n c xs hA Bc)
 | d+1=>λL s A n c xs hA Bc=>qxK (O' (d+1) (λe h=>(show d=e by omega)▸Cs d) L s A n c xs hA Bc)
def FO(d:Nat)(s:World)(M:Hl)(x:iT)(cs:LVal9):Prop:=∃ A1 n1 c1 A2 n2 c2 A3 n3 c3,cs=[St x.name,.slice A1 n1 c1,.slice A2 n2 c2,.slice A3 n3 c3]/\iW s A1 n1 c1 x.params/\iW s A2 n2 c2 x.locals/\rN d s M A3 n3 c3 x.body/\x.name.length<=9223372036854775807
def Ci(d:Nat)(s:World)(M:Hl)(A:OAdr9)(n c:Nat)(l:List iT):Prop:=∃ css Ms,M=Ms.flatten/\vV 4 s A n c css/\kV (FO d s) Ms l css
def FO.le(h:FO d s M x cs)(hl:Le D s s'):FO d s' M x cs:=by
 exact Wn
def FO.four(h:FO d s M x cs):cs.length=4:=by
 obtain ⟨A1,n1,c1,A2,n2,c2,A3,n3,c3,rfl,_⟩:=h;rfl
def Ci.le{l:List iT}(h:Ci d s M A n c l)(hl:Le D s s'):Ci d s' M A n c l:=by
 obtain ⟨c4,m4,e4,r4,k4⟩:=h;exact ⟨c4,m4,e4,r4.le hl,k4.mono λ_ _ _ h=>h.le hl⟩
def Jr{R:α->β->Prop}{l:List α}{m:List β}{a:α}{b:β}(h:kI R l m)(h1:R a b):kI R (l++[a]) (m++[b]):=by
 induction h with
 | nil=>exact .cons h1 .nil
 | cons k _ ih=>exact .cons k ih
def HB{p:Prop} (h:p:=by
 rintro _ _ kY kN ⟨rfl,C2,r2,e2,rfl,hS2q⟩;refine ⟨(λx hx _=>nomatch hx),?_⟩;refine iM 8 V<|Jb Z Tt Z Z Z (AC.mid [_,_,_,_] [] (Mo++(Fo++L)) (Cs d _ _ B3 m3 d3 x.body Pz O)) ?_;rintro _ _ li kz ⟨M1,rfl,C3,r3,e3,rfl,nY⟩;refine ⟨(λx hx _=>nomatch hx),?_⟩;simp only [iU,iV];refine X2 ?_;refine jd (nM.mk (.slice C1 r1 e1,.slice C2 r2 e2,.slice C3 r3 e3,M1) [] Lc sk (.cons _ (.cons _ (.cons _ (.cons _ (BW M1 Mo Fo L))))) ⟨⟨_,_,_,Z,hS1.le Lc⟩,⟨_,_,_,Z,hS2q.le kz⟩,⟨_,_,_,Z,nY.le (Lr D)⟩⟩)):p:=h
def Hn{p:Prop} (h:p:=by
 refine j5 Z Tt (Wd 0 Y5) Z<|iM 1 V<|j5 Z Tt (Wd 0 Y5) Z<|iM 2 V<|Jb Z Tt Z Z Z (xv B1 m1 d1 x.params Pz O) ?_;rintro _ _ kc jL ⟨rfl,C1,r1,e1,rfl,hS1⟩;refine ⟨(λx hx _=>nomatch hx),?_⟩;refine H1 ?_;refine iM 5 V<|Jb Z Tt Z Z Z (xv B2 m2 d2 x.locals Pz O) ?_;rintro _ _ kY kN ⟨rfl,C2,r2,e2,rfl,hS2q⟩;refine ⟨(λx hx _=>nomatch hx),?_⟩;refine iM 8 V<|Jb Z Tt Z Z Z (AC.mid [_,_,_,_] [] (Mo++(Fo++L)) (Cs d _ _ B3 m3 d3 x.body Pz O)) ?_;rintro _ _ li kz ⟨M1,rfl,C3,r3,e3,rfl,nY⟩;refine ⟨(λx hx _=>nomatch hx),?_⟩;simp only [iU,iV];refine X2 ?_;refine jd (nM.mk (.slice C1 r1 e1,.slice C2 r2 e2,.slice C3 r3 e3,M1) [] Lc sk (.cons _ (.cons _ (.cons _ (.cons _ (BW M1 Mo Fo L))))) ⟨⟨_,_,_,Z,hS1.le Lc⟩,⟨_,_,_,Z,hS2q.le kz⟩,⟨_,_,_,Z,nY.le (Lr D)⟩⟩)):p:=h
def UQ{p:Prop} (h:p:=by
  refine j5 Z Tt (Wd 0 Y5) Z ?_;refine kD 2 4 V ?_ ?_;.refine Jb Z Tt Z Z Z (xv B1 m1 d1 x.params Pz O) ?_;rintro _ _ kc jL ⟨rfl,C1,r1,e1,rfl,hS1⟩;refine ⟨(λx hx _=>nomatch hx),?_⟩;refine iM 4 V<|j5 Z Tt (Wd 0 Y5) Z<|H1 ?_;refine iM 5 V<|Jb Z Tt Z Z Z (xv B2 m2 d2 x.locals Pz O) ?_;rintro _ _ kY kN ⟨rfl,C2,r2,e2,rfl,hS2q⟩;refine ⟨(λx hx _=>nomatch hx),?_⟩;refine iM 8 V<|Jb Z Tt Z Z Z (AC.mid [_,_,_,_] [] (Mo++(Fo++L)) (Cs d _ _ B3 m3 d3 x.body Pz O)) ?_;rintro _ _ li kz ⟨M1,rfl,C3,r3,e3,rfl,nY⟩;refine ⟨(λx hx _=>nomatch hx),?_⟩;simp only [iU,iV];refine X2 ?_;refine jd (nM.mk (.slice C1 r1 e1,.slice C2 r2 e2,.slice C3 r3 e3,M1) [] Lc sk (.cons _ (.cons _ (.cons _ (.cons _ (BW M1 Mo Fo L))))) ⟨⟨_,_,_,Z,hS1.le Lc⟩,⟨_,_,_,Z,hS2q.le kz⟩,⟨_,_,_,Z,nY.le (Lr D)⟩⟩)
  refine j5 Z Tt (Wd 0 Y5) Z<|iM 2 V<|Jb Z Tt Z Z Z (xv B1 m1 d1 x.params Pz O) ?_;rintro _ _ kc jL ⟨rfl,C1,r1,e1,rfl,hS1⟩;refine ⟨(λx hx _=>nomatch hx),?_⟩;refine H1 ?_;refine iM 5 V<|Jb Z Tt Z Z Z (xv B2 m2 d2 x.locals Pz O) ?_;rintro _ _ kY kN ⟨rfl,C2,r2,e2,rfl,hS2q⟩;refine ⟨(λx hx _=>nomatch hx),?_⟩;refine iM 8 V<|Jb Z Tt Z Z Z (AC.mid [_,_,_,_] [] (Mo++(Fo++L)) (Cs d _ _ B3 m3 d3 x.body Pz O)) ?_;rintro _ _ li kz ⟨M1,rfl,C3,r3,e3,rfl,nY⟩;refine ⟨(λx hx _=>nomatch hx),?_⟩;simp only [iU,iV];refine X2 ?_;refine jd (nM.mk (.slice C1 r1 e1,.slice C2 r2 e2,.slice C3 r3 e3,M1) [] Lc sk (.cons _ (.cons _ (.cons _ (.cons _ (BW M1 Mo Fo L))))) ⟨⟨_,_,_,Z,hS1.le Lc⟩,⟨_,_,_,Z,hS2q.le kz⟩,⟨_,_,_,Z,nY.le (Lr D)⟩⟩)):p:=h
def UN{p:Prop} (h:p:=by
  refine j5 Z Tt (Wd 0 Y5) Z ?_;refine kD 2 7 V ?_ ?_
  .refine Jb Z Tt Z Z Z (xv B1 m1 d1 x.params Pz O) ?_;rintro _ _ kc jL ⟨rfl,C1,r1,e1,rfl,hS1⟩;refine ⟨(λx hx _=>nomatch hx),?_⟩;refine kD 5 7 V ?_ ?_;.refine Jb Z Tt Z Z Z (xv B2 m2 d2 x.locals Pz O) ?_;rintro _ _ kY kN ⟨rfl,C2,r2,e2,rfl,hS2q⟩;refine ⟨(λx hx _=>nomatch hx),?_⟩;refine X13 ?_;refine iM 8 V<|Jb Z Tt Z Z Z (AC.mid [_,_,_,_] [] (Mo++(Fo++L)) (Cs d _ _ B3 m3 d3 x.body Pz O)) ?_;rintro _ _ li kz ⟨M1,rfl,C3,r3,e3,rfl,nY⟩;refine ⟨(λx hx _=>nomatch hx),?_⟩;simp only [iU,iV];refine X2 ?_;refine jd (nM.mk (.slice C1 r1 e1,.slice C2 r2 e2,.slice C3 r3 e3,M1) [] Lc sk (.cons _ (.cons _ (.cons _ (.cons _ (BW M1 Mo Fo L))))) ⟨⟨_,_,_,Z,hS1.le Lc⟩,⟨_,_,_,Z,hS2q.le kz⟩,⟨_,_,_,Z,nY.le (Lr D)⟩⟩)
   refine j5 Z Tt (Wd 0 Y5) Z<|H1 ?_;refine iM 5 V<|Jb Z Tt Z Z Z (xv B2 m2 d2 x.locals Pz O) ?_;rintro _ _ kY kN ⟨rfl,C2,r2,e2,rfl,hS2q⟩;refine ⟨(λx hx _=>nomatch hx),?_⟩;refine iM 8 V<|Jb Z Tt Z Z Z (AC.mid [_,_,_,_] [] (Mo++(Fo++L)) (Cs d _ _ B3 m3 d3 x.body Pz O)) ?_;rintro _ _ li kz ⟨M1,rfl,C3,r3,e3,rfl,nY⟩;refine ⟨(λx hx _=>nomatch hx),?_⟩;simp only [iU,iV];refine X2 ?_;refine jd (nM.mk (.slice C1 r1 e1,.slice C2 r2 e2,.slice C3 r3 e3,M1) [] Lc sk (.cons _ (.cons _ (.cons _ (.cons _ (BW M1 Mo Fo L))))) ⟨⟨_,_,_,Z,hS1.le Lc⟩,⟨_,_,_,Z,hS2q.le kz⟩,⟨_,_,_,Z,nY.le (Lr D)⟩⟩)
  refine j5 Z Tt (Wd 0 Y5) Z<|iM 2 V<|Jb Z Tt Z Z Z (xv B1 m1 d1 x.params Pz O) ?_;rintro _ _ kc jL ⟨rfl,C1,r1,e1,rfl,hS1⟩;refine ⟨(λx hx _=>nomatch hx),?_⟩;refine H1 ?_;refine iM 5 V<|Jb Z Tt Z Z Z (xv B2 m2 d2 x.locals Pz O) ?_;rintro _ _ kY kN ⟨rfl,C2,r2,e2,rfl,hS2q⟩;refine ⟨(λx hx _=>nomatch hx),?_⟩;refine iM 8 V<|Jb Z Tt Z Z Z (AC.mid [_,_,_,_] [] (Mo++(Fo++L)) (Cs d _ _ B3 m3 d3 x.body Pz O)) ?_;rintro _ _ li kz ⟨M1,rfl,C3,r3,e3,rfl,nY⟩;refine ⟨(λx hx _=>nomatch hx),?_⟩;simp only [iU,iV];refine X2 ?_;refine jd (nM.mk (.slice C1 r1 e1,.slice C2 r2 e2,.slice C3 r3 e3,M1) [] Lc sk (.cons _ (.cons _ (.cons _ (.cons _ (BW M1 Mo Fo L))))) ⟨⟨_,_,_,Z,hS1.le Lc⟩,⟨_,_,_,Z,hS2q.le kz⟩,⟨_,_,_,Z,nY.le (Lr D)⟩⟩)):p:=h
def qos(L:Hl)(s:World)(d:Nat)(p:ja)(Ag Af:OAdr9)(ng cg nf cf:Nat)(jQ:jn s Ag ng cg p.o)(j8:ju d s Af nf cf p.funcs)(hV:PV p):AN9 D 47 [.agg #[.slice Ag ng cg,.slice Af nf cf]] L s λv M' s'=>∃ Bg mg eg Bf mf ef,v=.agg #[.slice Bg mg eg,.slice Bf mf ef]/\∀ s2,Le D s' s2->jn s2 Bg mg eg p.o/\Ci d s2 M' Bf mf ef p.funcs:=by
 have lX:=jQ.1;have oB:=j8.1;have yN:=hV.1;have AQ:=hV.2.1;have hVg:=hV.2.2.1;have rD:=hV.2.2.2.1;refine jv (fn:=Tryz.f47) jl Tryz.func47 V Z Tryz.ntmps47 Z (rs:=[.cell 2 45]) Z [(0,_)] Z<|Sr<|kH Y2 λβ1 s1 h1=>jp Z [_,_] Y2 λβ2 s2 h2=>Nt<|Sr<|jp Z [_,_] Y2 λβ3 s3 h3=>mn ?_;refine lw (γ:=Nat×Value×Hl) (λg=>[(1,_),(2,_),(3,_),(9,_),(10,_),(11,iJ (g.1:Int))]) (λg=>(β3,cb [g.2.1,.slice none 0 0] 45)::_::_::(g.2.2++L)) (λg tw=>Le D s3 tw/\(g.1<=ng/\∃ css,Own 85 4 g.2.2 g.2.1 g.1 (List.flatten css)/\kI (λx cs=>cs.length=4/\Fp tw x cs) (p.o.take g.1) css)) (λg=>ng - g.1) (λ_ _ _ h hl=>⟨h.1.trans hl,⟨h.2.1,by obtain ⟨css,q1,q2⟩:=h.2.2;exact ⟨css,q1,q2.mono λ_ _ k=>⟨k.1,k.2.le hl⟩⟩⟩⟩) (0,.slice none 0 0,[]) (.c6 Z Z Z Z Z Z (.nil _)) Z ⟨Le.refl _,⟨aB _,[],Own.nil,.nil⟩⟩ ?_;intro g s4 I4;obtain ⟨k,vo,Mo⟩:=g;obtain ⟨kh,css,hO,lG⟩:=I4.2;simp only at kh hO lG;dsimp only;obtain ⟨Ao,co,rfl,_,_⟩:=Own.slice hO;refine J6 ?_ ?_<;>intro c5
 .have hk:k < ng:=by omega
  obtain ⟨b,off,x,Ai,ni,ci,rfl,hx,hcx,hix,oh,kK⟩:=jn.at_ Pz hk;have hni:=hix.1;have hgx:=(hVg x (ay hx)).2;refine G6 ?_;refine iI (jR Y6 hk) Z<|iI (kq Y3 Pz Z) Z<|jp Z [_,_,_,_] Y2 λβ6 s6 h6=>Wt 0 [_,_,_,_] Y9<|G6 ?_;refine Jc Y3 (qqp Ai ni ci x.init Pz O) ?_;rintro _ _ s7 h7 ⟨rfl,Aw,nw,cw,rfl,hWw⟩;refine Wb Y5<|Wt 0 [_,_,_,_] Y9<|G5 ?_;refine iI (jh 0 [_,_,_,_] Y5) Z<|kF [(_,_)] [_,_,_,_] Y9 λβn s8 h8 pf=>rp (sz:=4) [_,_,_,_] Mo L Y7 hO (Row.of_cells Pz Z Z) ⟨by simp [CS];omega,by omega⟩ Z ?_;intro vq Mq s9 h9 oq;obtain ⟨Avq,oL,rfl,_,_⟩:=Own.slice oq;simp only [iU,iV];refine W0 Y5<|Wt 1 [_,_] Y9<|G4 ?_;refine ki Y3 (jB O O)<|G2 ?_;refine jd ⟨(k+1,.slice Avq (k+1) oL,Mq),[_],kp,Z,⟨Lc,⟨by simp only;omega,css++[[iJ x.kind,St x.name,iO x.num,.slice Aw nw cw]],by simp only [bY,bt,bX,aE];exact oq,by simp only;rw [wA hx];exact Jr (lG.mono λ_ _ k=>⟨k.1,k.2.le Lc⟩) ⟨Z,Aw,nw,cw,Z,hWw.le Lc,oh,kK⟩⟩⟩,Oz⟩
 obtain rfl:ng=k:=by omega
 rw [aI O] at lG;refine G7 ?_;refine tO [_,_,_] Mo ?_;intro s6 h6 hpub6;simp only [iU,iV];have hGN:jn s6 Ao ng co p.o:=Own.rows hO hpub6 (lG.mono λ_ _ k=>⟨k.1,k.2.le h6⟩) lX;obtain ⟨Go,hGo⟩:∃ Go,Go=Ao:=⟨_,rfl⟩;obtain ⟨eg,heg⟩:∃ eg,eg=co:=⟨_,rfl⟩;rw [<- hGo,<- heg] at hGN ⊢;clear hGo heg hO lG;refine G8 ?_;refine lw (γ:=Nat×Value×Hl×Hl) (λg=>[(2,_),(3,_),(27,_),(28,_),(29,iJ (g.1:Int))]) (λg=>(β3,cb [.slice Go ng eg,g.2.1] 45)::_::_::(g.2.2.1++(g.2.2.2++L))) (λg tw=>Le D s6 tw/\(g.1<=nf/\∃ css Ms,Own 41 4 g.2.2.1 g.2.1 g.1 (List.flatten css)/\g.2.2.2=List.flatten Ms/\kV (FO d tw) Ms (p.funcs.take g.1) css)) (λg=>nf - g.1) (λ_ _ _ h hl=>⟨h.1.trans hl,⟨h.2.1,by obtain ⟨css,Ms,q1,q2,q3⟩:=h.2.2;exact ⟨css,Ms,q1,q2,q3.mono λ_ _ _ k=>k.le hl⟩⟩⟩) (0,.slice none 0 0,[],[]) (.c5 Z Z Z Z Z (.nil _)) Z ⟨Le.refl _,⟨aB _,[],[],Own.nil,Z,.nil⟩⟩ ?_;intro g s7 I7;obtain ⟨k,vo,Mo,Fo⟩:=g;obtain ⟨kh,css,Ms,hO,hF,mI⟩:=I7.2;simp only at kh hO hF mI;dsimp only;obtain ⟨Ao,co,rfl,_,_⟩:=Own.slice hO;refine J6 ?_ ?_<;>intro c8
 .have hk:k < nf:=by omega
  obtain ⟨b,off,x,B1,m1,d1,B2,m2,d2,B3,m3,d3,rfl,hx,hcx,od,oc,rE,kK⟩:=ju.at_ Pz hk;obtain ⟨hi1,zJ,hi3,hi4,hi5,hi6⟩:=rD x (ay hx);have hp9:=od.1;have hl9:=oc.1;refine G6 ?_;refine iI (jR Y6 hk) Z<|iI (kq Y3 Pz Z) Z<|jp Z [_,_,_,_] Y2 λβ9 s9 h9=>Wt 0 [_,_,_,_] Y9<|G2 ?_;refine SI [] Z (γ:=Value×Value×Value×Hl) (λg=>(β9,cb [St x.name,g.1,g.2.1,g.2.2.1] 41)::(β3,cb [.slice Go ng eg,.slice Ao k co] 45)::(β2,cb [.slice none 0 0,.slice none 0 0] 45)::(β1,cb [.slice Ag ng cg,.slice (some ⟨b,off,none⟩) nf cf] 45)::(Mo++((Fo++g.2.2.2)++L))) (λg tw=>(∃ A n c,g.1=.slice A n c/\iW tw A n c x.params)/\(∃ A n c,g.2.1=.slice A n c/\iW tw A n c x.locals)/\(∃ A n c,g.2.2.1=.slice A n c/\rN d tw g.2.2.2 A n c x.body)) (λ_ _ _ h hl=>⟨by obtain ⟨A,n,c,q1,q2⟩:=h.1;exact ⟨A,n,c,q1,q2.le hl⟩,by obtain ⟨A,n,c,q1,q2⟩:=h.2.1;exact ⟨A,n,c,q1,q2.le hl⟩,by obtain ⟨A,n,c,q1,q2⟩:=h.2.2;exact ⟨A,n,c,q1,q2.le hl⟩⟩) ?_ ?_
  .refine mh jF 15 Z 0 λkv jP=>H3 ?_;refine xF 1 4 7 V ?_ ?_ ?_
   .refine X4 ?_;refine xF 2 4 7 V ?_ ?_ ?_
    .refine Jb Z Tt Z Z Z (xv B1 m1 d1 x.params Pz O) ?_;rintro _ _ kc jL ⟨rfl,C1,r1,e1,rfl,hS1⟩;refine ⟨(λx hx _=>nomatch hx),?_⟩;refine kD 4 7 V ?_ ?_
     .refine X4 ?_;refine kD 5 7 V ?_ ?_;.refine Jb Z Tt Z Z Z (xv B2 m2 d2 x.locals Pz O) ?_;rintro _ _ kY kN ⟨rfl,C2,r2,e2,rfl,hS2q⟩;refine ⟨(λx hx _=>nomatch hx),?_⟩;refine X13 ?_;refine iM 8 V<|Jb Z Tt Z Z Z (AC.mid [_,_,_,_] [] (Mo++(Fo++L)) (Cs d _ _ B3 m3 d3 x.body Pz O)) ?_;rintro _ _ li kz ⟨M1,rfl,C3,r3,e3,rfl,nY⟩;refine ⟨(λx hx _=>nomatch hx),?_⟩;simp only [iU,iV];refine X2 ?_;refine jd (nM.mk (.slice C1 r1 e1,.slice C2 r2 e2,.slice C3 r3 e3,M1) [] Lc sk (.cons _ (.cons _ (.cons _ (.cons _ (BW M1 Mo Fo L))))) ⟨⟨_,_,_,Z,hS1.le Lc⟩,⟨_,_,_,Z,hS2q.le kz⟩,⟨_,_,_,Z,nY.le (Lr D)⟩⟩)
      refine j5 Z Tt (Wd 0 Y5) Z<|H1 ?_;refine iM 5 V<|Jb Z Tt Z Z Z (xv B2 m2 d2 x.locals Pz O) ?_;exact HB
     refine j5 Z Tt (Wd 0 Y5) Z<|iM 4 V<|j5 Z Tt (Wd 0 Y5) Z<|H1 ?_;refine iM 5 V<|Jb Z Tt Z Z Z (xv B2 m2 d2 x.locals Pz O) ?_;exact HB
    .exact UN
    exact UQ
   .refine X4 ?_;refine kD 1 7 V ?_ ?_;.exact UN
    exact Hn
   refine j5 Z Tt (Wd 0 Y5) Z ?_;refine kD 1 4 V ?_ ?_;.exact UQ
   exact Hn
  intro g ku jN I10;simp only [iU,iV];obtain ⟨v1,v2,v3,M1⟩:=g;obtain ⟨⟨C1,r1,e1,q1,hS1⟩,⟨C2,r2,e2,q2,hS2q⟩,⟨C3,r3,e3,q3,nY⟩⟩:=I10;simp only at q1 q2 q3 hS1 hS2q nY;subst q1 q2 q3;dsimp only;refine G3 ?_;refine iI (jh 0 [_,_,_,_] Y5) Z<|kF [(_,_)] [_,_,_,_] Y9 λβn lJ lr pf=>rp (sz:=4) [_,_,_,_] Mo ((Fo++M1)++L) Y7 hO (Row.of_cells Pz Z Z) ⟨by simp [CP];omega,by omega⟩ Z ?_;intro vq Mq qW qD oq;obtain ⟨Avq,oL,rfl,_,_⟩:=Own.slice oq;simp only [iU,iV];refine Wb Y5<|Wt 1 [_,_] Y9<|G4 ?_;refine ki Y3 (jB O O)<|G2 ?_;refine jd ⟨(k+1,.slice Avq (k+1) oL,Mq,Fo++M1),[_],kp,Z,⟨Lc,⟨by simp only;omega,css++[[St x.name,.slice C1 r1 e1,.slice C2 r2 e2,.slice C3 r3 e3]],Ms++[M1],by simp only [bY,bt,bX,aE];exact oq,by simp only [bY,bt,bX,aE];rw [hF],by simp only;rw [wA hx];exact RT (mI.mono λ_ _ _ k=>k.le Lc) ⟨C1,r1,e1,C2,r2,e2,C3,r3,e3,Z,hS1.le Lc,hS2q.le Lc,nY.le Lc,kK⟩⟩⟩,Oz⟩
 obtain rfl:nf=k:=by omega
 rw [aI O] at mI;refine G6 ?_;refine tO [_,_,_] Mo ?_;intro s9 h9 hpub9;simp only [iU,iV];have wu:vV 4 s9 Ao nf co css:=vV.own hO hpub9 (YB (λ_ _ _ h=>h.four) mI) (by have:=mI.len;omega);refine Zr<|iI (jh 0 [_,_] Y5) Z<|Wt 1 [_,_] Y9<|G3 ?_;exact rR [_,_,_] _ (.agg (us:=[_,_]) 1 Z Z Z Z Z (.nil)) Z Lc λ_ iL=>⟨Fo,rfl,_,_,_,_,_,_,rfl,λs2 kb=>⟨hGN.le Lc,css,Ms,hF,wu.le Lc,mI.mono λ_ _ _ k=>k.le Lc⟩⟩
def FG(L:Hl)(s:World)(d:Nat)(p:ja)(Ag Af:OAdr9)(ng cg nf cf:Nat)(jQ:jn s Ag ng cg p.o)(j8:ju d s Af nf cf p.funcs)(hV:PV p):AN9 D 47 [.agg #[.slice Ag ng cg,.slice Af nf cf]] L s λv M' s'=>∃ Bg mg eg Bf mf ef,v=.agg #[.slice Bg mg eg,.slice Bf mf ef]/\jn s' Bg mg eg p.o/\Ci d s' M' Bf mf ef p.funcs:=(qos L s d p Ag Af ng cg nf cf jQ j8 hV).mono λv L' s' _ ⟨M',h1,Bg,mg,eg,Bf,mf,ef,h2,h3⟩=>⟨M',h1,Bg,mg,eg,Bf,mf,ef,h2,h3 _ (Le.refl _)⟩
def qm(l:List Bool):LVal9:=l.map Value.bool
def Qv{l:List Bool}(h:j < l.length):nth (qm l) (0+j)=some (.bool (l.getD j false)):=by
 rw [uU,aZ,qm,db,ax h,aM,ax h];rfl
def Xl{l:List Bool}(h:j < l.length):Nat.ble (0+j+1) (qm l).length=true:=ii (by simp only [qm,bI];omega)
def Xn{l:List Bool}(h:j < l.length)(v:Bool):oO (qm l) (0+j) [.bool v]=qm (l.set j v):=by
 have:=qBI (xs:=qm l) (ys:=[]) (.bool v) (show j < (qm l).length by simpa [qm] using h);simpa [qm,gQ] using this
def xx:List Bool->Nat
 | []=>0
 | b::r=>(if b=true then 0 else 1)+xx r
def YI:∀ {l:List Bool} {j:Nat},j < l.length->l.getD j false=false->xx (l.set j true) < xx l
 | [],j,h,_=>by cases h
 | b::r,0,_,h=>by
  have h:b=false:=h;subst h;rw [List.set_cons_zero,xx,xx];simp
 | b::r,j+1,h,h2=>by
  have:=YI (l:=r) (j:=j) Q4 Q11;rw [dN,xx,xx];omega
def XX:∀ {l m:List Bool},m.length=l.length->(∀ j:Nat,l[j]?=some true->m[j]?=some true)->xx m<=xx l
 | [],[],_,_=>aC _
 | [],b::r,h,_=>by cases h
 | b::r,[],h,_=>by cases h
 | a::l,b::m,h,hm=>by
  have h1:=XX (l:=l) (m:=m) Q4 λj hj=>by simpa using hm (j+1) Q19
  have h0:=hm 0;rw [xx,xx];cases a with
  | true=>
   have hb:=h0 rfl;simp at hb;subst hb;simp;exact h1
  | false=>cases b<;>simp<;>omega
def RN(h:(kR p x nm).2=false):(kR p x nm).1=(0,0):=by
 unfold kR at h ⊢;split at h
 . cases h
 rename_i h1;rw [am h1];split at h
 . cases h
 rename_i h2;rw [am h2];split at h
 . cases h
 . rfl
def qrj(h:i∈tn p x kd nd):nd.use.2.1≠0/\(kR p x nd.use.1).1=(kd,i):=by
  unfold tn at h;split at h
  . cases h
  . rename_i h1
    split at h
    . rename_i h2
      rw [aV] at h;exact ⟨h1,by rw [<- h2,h]⟩
    . cases h
def qrk(h:i∈sf p x 3):∃ k:Nat,i=(k:Int)/\k < p.o.length:=by
 obtain ⟨nd,_,h1⟩:=((JJ p x 3).2 i).1 h;obtain ⟨_,h2⟩:=qrj h1;cases h3:(kR p x nd.use.1).2 with
 | false=>rw [RN h3] at h2;cases h2
 | true=>
  rcases FP h3 with h4|⟨_,k,h5,h6⟩|⟨h4,_⟩
  . rw [h2] at h4;rcases h4 with h4|h4<;>cases h4
  . exact ⟨k,by rw [<- h5,h2],h6⟩
  . rw [h2] at h4;cases h4
def qAV(h:i∈sf p x 4):∃ k:Nat,i=(k:Int)/\k < p.funcs.length:=by
 obtain ⟨nd,_,h1⟩:=((JJ p x 4).2 i).1 h;obtain ⟨_,h2⟩:=qrj h1;cases h3:(kR p x nd.use.1).2 with
 | false=>rw [RN h3] at h2;cases h2
 | true=>
  rcases FP h3 with h4|⟨h4,_⟩|⟨_,k,h5,h6⟩
  . rw [h2] at h4;rcases h4 with h4|h4<;>cases h4
  . rw [h2] at h4;cases h4
  . exact ⟨k,by rw [<- h5,h2],h6⟩
def P7(p:ja)(j k:Nat):Prop:=∃ x,p.funcs[j]?=some x/\(k:Int)∈sf p x 4
def I0(p:ja)(j g:Nat):Prop:=∃ x,p.funcs[j]?=some x/\(g:Int)∈sf p x 3
inductive Em(p:ja):Nat->Nat->Prop
 | refl (i:Nat):Em p i i
 | step {i k j:Nat}:P7 p i k->Em p k j->Em p i j
structure CY(p:ja)(i:Nat)(F G F' G':List Bool):Prop where
 lenF:F'.length=F.length
 lenG:G'.length=G.length
 ag:∀ j:Nat,F[j]?=some true->F'[j]?=some true
 aj:∀ j:Nat,G[j]?=some true->G'[j]?=some true
 hit:F'[i]?=some true
 new:∀ j:Nat,F'[j]?=some true->F[j]?=some true\/(Em p i j/\(∀ k:Nat,P7 p j k->F'[k]?=some true)/\∀ g:Nat,I0 p j g->G'[g]?=some true)
 ak:∀ g:Nat,G'[g]?=some true->G[g]?=some true\/∃ j:Nat,F'[j]?=some true/\F[j]?≠some true/\I0 p j g
structure uc(p:ja)(l:LInt9)(F G F' G':List Bool):Prop where
 lenF:F'.length=F.length
 lenG:G'.length=G.length
 ag:∀ j:Nat,F[j]?=some true->F'[j]?=some true
 aj:∀ j:Nat,G[j]?=some true->G'[j]?=some true
 hit:∀ k:Nat,(k:Int)∈l->F'[k]?=some true
 new:∀ j:Nat,F'[j]?=some true->F[j]?=some true\/((∃ k:Nat,(k:Int)∈l/\Em p k j)/\(∀ k:Nat,P7 p j k->F'[k]?=some true)/\∀ g:Nat,I0 p j g->G'[g]?=some true)
 ak:∀ g:Nat,G'[g]?=some true->G[g]?=some true\/∃ j:Nat,F'[j]?=some true/\F[j]?≠some true/\I0 p j g
def uc.nil(p:ja)(F G:List Bool):uc p [] F G F G:=⟨rfl,rfl,λ_ h=>h,λ_ h=>h,λk h=>(by cases h),λj h=>.inl h,λg h=>.inl h⟩
def uc.snoc{l:LInt9}{F2 G2 F3 G3:List Bool}(h:uc p l F G F2 G2)(r:CY p k F2 G2 F3 G3):uc p (l++[(k:Int)]) F G F3 G3 where
  lenF:=r.lenF.trans h.lenF
  lenG:=r.lenG.trans h.lenG
  ag j hj:=r.ag j (h.ag j hj)
  aj j hj:=r.aj j (h.aj j hj)
  hit j hj:=by
    rcases aU.1 hj with hj|hj
    . exact r.ag _ (h.hit j hj)
    . rw [aV] at hj
      obtain rfl:j=k:=by omega
      exact r.hit
  new j hj:=by
    rcases r.new j hj with h1|⟨h1,h2,h3⟩
    . rcases h.new j h1 with h4|⟨⟨k',h5,h6⟩,h7,h8⟩
      . exact .inl h4
      . exact .inr ⟨⟨k',aN _ h5,h6⟩,λk hk=>r.ag _ (h7 k hk),λg hg=>r.aj _ (h8 g hg)⟩
    . exact .inr ⟨⟨k,aJ _ (aV.2 rfl),h1⟩,h2,h3⟩
  ak g hg:=by
    rcases r.ak g hg with h1|⟨j,h1,h2,h3⟩
    . rcases h.ak g h1 with h4|⟨j,h4,h5,h6⟩
      . exact .inl h4
      . exact .inr ⟨j,r.ag _ h4,h5,h6⟩
    . exact .inr ⟨j,h1,λh4=>h2 (h.ag _ h4),h3⟩
def y7(G:List Bool)(l:LInt9):List Bool:=l.foldl (λG i=>G.set i.toNat true) G
def qld(G:List Bool)(l:LInt9)(j:Nat):y7 G (l++[(j:Int)])=(y7 G l).set j true:=by simp [y7,List.foldl_append]
def Rx(G:List Bool)(l:LInt9):(y7 G l).length=G.length:=by
 induction l generalizing G with
 | nil=>rfl
 | cons x r ih=>show (y7 (G.set x.toNat true) r).length=_;rw [ih];simp
def o7:(G.set j true)[k]?=some true↔(k=j/\j < G.length)\/G[k]?=some true:=by
  rw [List.getElem?_set];by_cases h:j=k
  . subst h
    by_cases hl:j < G.length
    . simp [hl]
    . simp [hl,di (dP hl)]
  . have:¬ k=j:=λe=>h e.symm
    simp [h,this]
def qms{l:LInt9}:∀ {G:List Bool} {g:Nat},(∀ i∈l,∃ k:Nat,i=(k:Int)/\k < G.length)->((y7 G l)[g]?=some true↔(g:Int)∈l\/G[g]?=some true):=by
  induction l with
  | nil=>intro G g _;simp [y7]
  | cons x r ih=>
    intro G g hl;obtain ⟨k,rfl,hk⟩:=hl x Mc;show (y7 (G.set ((k:Int)).toNat true) r)[g]?=some true↔_;rw [aH,ih (λi hi=>by rw [cR];exact hl i (aq _ hi)),o7,aW];constructor
    . rintro (h|⟨h,_⟩|h)
      . exact .inl (.inr h)
      . exact .inl (.inl (by rw [h]))
      . exact .inr h
    . rintro ((h|h)|h)
      . exact .inr (.inl ⟨by omega,hk⟩)
      . exact .inl h
      . exact .inr (.inr h)
def CY.at{p:ja}{i:Nat}{F G:List Bool}(h:F.getD i false=true)(hi:i < F.length):CY p i F G F G:=by
 refine ⟨Z,Z,λ_ h=>h,λ_ h=>h,?_,λj h=>.inl h,λg h=>.inl h⟩;rw [aM,ax hi] at h;rw [ax hi];exact bj some h
def uc.done{i:Nat}(hx:p.funcs[i]?=some x)(hi:i < F.length)(h0:F.getD i false=false)(hg:p.o.length=G.length)(h:uc p (sf p x 4) (F.set i true) (y7 G (sf p x 3)) F' G'):CY p i F G F' G':=by
  have hm:∀ g:Nat,(y7 G (sf p x 3))[g]?=some true↔(g:Int)∈sf p x 3\/G[g]?=some true:=λg=>qms λj hj=>by
    obtain ⟨k,h1,h2⟩:=qrk hj;exact ⟨k,h1,by omega⟩
  have hF0:F[i]?≠some true:=λe=>by
    rw [aM,e] at h0;cases h0
  have hFi:F'[i]?=some true:=h.ag i (o7.2 (.inl ⟨rfl,hi⟩));refine ⟨h.lenF.trans (by simp),h.lenG.trans (Rx _ _),λj hj=>h.ag j (o7.2 (.inr hj)),λj hj=>h.aj j ((hm j).2 (.inr hj)),hFi,λj hj=>?_,λg wx=>?_⟩
  . rcases h.new j hj with h1|⟨⟨k,h1,h2⟩,h3,h4⟩
    . rcases o7.1 h1 with ⟨rfl,_⟩|h1
      . refine .inr ⟨.refl _,λk hk=>?_,λg wx=>?_⟩
        . obtain ⟨y,hy,hk⟩:=hk
          rw [hx] at hy;injection hy with hy;subst hy
          exact h.hit k hk
        . obtain ⟨y,hy,hk⟩:=wx
          rw [hx] at hy;injection hy with hy;subst hy
          exact h.aj g ((hm g).2 (.inl hk))
      . exact .inl h1
    . exact .inr ⟨.step ⟨x,hx,h1⟩ h2,h3,h4⟩
  . rcases h.ak g wx with h1|⟨j,h1,h2,h3⟩
    . rcases (hm g).1 h1 with h1|h1
      . exact .inr ⟨i,hFi,hF0,x,hx,h1⟩
      . exact .inl h1
    . exact .inr ⟨j,h1,λh4=>h2 (o7.2 (.inr h4)),h3⟩
structure Fq(s:World)(p:ja)(d bf bn bp bg bc br oF oG bm:Nat)(Ag Af Ac:OAdr9)(ng cg nf cf cc:Nat):Prop where
 xf:iH s bf 0 [.slice (j6 oF) nf nf]
 xn:iH s bn 0 [.slice Ag ng cg,.slice Af nf cf,.map (some bm)]
 xp:iH s bp 0 [.slice Ag ng cg,.slice Af nf cf]
 xg:iH s bg 0 [.slice (j6 oG) ng ng]
 xc:iH s bc 0 [.slice Ac nf cc]
 xr:iH s br 0 [.func (.func 45) #[] #[jc bf,jc bn,jc bp,jc bg,jc bc,jc br]]
 nm:nW s bm p
 gl:jn s Ag ng cg p.o
 fn:ju d s Af nf cf p.funcs
 cl:qC p s Ac nf cc p.funcs
def Fq.le{bf bn bp bg bc br oF oG bm:Nat}{Ac:OAdr9}{cc:Nat}(h:Fq s p d bf bn bp bg bc br oF oG bm Ag Af Ac ng cg nf cf cc)(hl:Le D s s'):Fq s' p d bf bn bp bg bc br oF oG bm Ag Af Ac ng cg nf cf cc:=
 ⟨h.xf.le hl,h.xn.le hl,h.xp.le hl,h.xg.le hl,h.xc.le hl,h.xr.le hl,h.nm.le hl,h.gl.le hl,h.fn.le hl,h.cl.le hl⟩
def U5(D m:Nat):Prop:=∀ (L:Hl) (s:World) (p:ja) (d bf bn bp bg bc br oF oG bm:Nat) (Ag Af Ac:OAdr9) (ng cg nf cf cc:Nat),Fq s p d bf bn bp bg bc br oF oG bm Ag Af Ac ng cg nf cf cc->PV p->∀ (i:Nat) (F G:List Bool),i < nf->F.length=nf->G.length=ng->xx F < m ->
 Ap9 D 45 [iJ (i:Int),jc bf,jc bn,jc bp,jc bg,jc bc,jc br] ((oF,cb (qm F) 4)::(oG,cb (qm G) 4)::L) s λv L' _=>v=.tuple #[]/\∃ F' G',L'=(oF,cb (qm F') 4)::(oG,cb (qm G') 4)::L/\CY p i F G F' G'
def qCL(m:Nat)(ih:∀ e,m=e+1->U5 D e)(L:Hl)(s:World)(p:ja)(d bf bn bp bg bc br oF oG bm:Nat)(Ag Af Ac:OAdr9)(ng cg nf cf cc:Nat)(hE:Fq s p d bf bn bp bg bc br oF oG bm Ag Af Ac ng cg nf cf cc)(hV:PV p)(i:Nat)(F G:List Bool)(hi:i < nf)(hFl:F.length=nf)(jQ:G.length=ng)(hm:xx F < m):Ap9 D 45 [iJ (i:Int),jc bf,jc bn,jc bp,jc bg,jc bc,jc br] ((oF,cb (qm F) 4)::(oG,cb (qm G) 4)::L) s λv L' _=>v=.tuple #[]/\∃ F' G',L'=(oF,cb (qm F') 4)::(oG,cb (qm G') 4)::L/\CY p i F G F' G':=by
 have lX:=hE.gl.1;have oB:=hE.fn.1;have rD:=hV.2.2.2.1;have hiF:i < F.length:=by omega
 refine jv (fn:=Tryz.f45) jl Tryz.func45 V Z Tryz.ntmps45 Z (rs:=[]) Z [(0,_),(1,_),(2,_),(3,_),(4,_),(5,_),(6,_)] Z<|Zs<|Sr<|iI (jW Y3 (hE.xf.le (Lr D)) Z) Z<|jY Y2<|iI (ly Y6 hi) Z<|iI (rj 0 Y4 (Qv hiF)) Z<|G2 ?_;refine qT Z ?_ ?_<;>intro c1;.have g15:=c1;refine G2 ?_;exact rR [] _ (.nil) Z (Lr D) λ_ iL=>⟨rfl,F,G,rfl,CY.at g15 hiF⟩
 have g15:=c1;obtain ⟨e,hd⟩:∃ e,m=e+1:=⟨m - 1,by omega⟩;obtain ⟨b,off,x,B1,m1,d1,B2,m2,d2,B3,m3,d3,rfl,hx,hcx,od,oc,rE,kK⟩:=ju.at_ (hE.fn.le (Lr D)) hi;have xV:=rD x (ay hx);have pJ:=YI hiF g15;refine Zk<|Zt<|Sr<|iI (jW Y3 (hE.xf.le (Lr D)) Z) Z<|jY Y2<|iI (ly Y6 hi) Z<|xy 0 (qm (F.set i true)) Y5 (Xl hiF) Z (Xn hiF true) Z<|Nt<|Zs<|Zs<|ma jF 9 Z _ (λ_ h=>h) λs3 h3=>za 0 Z (kq Y3 (hE.xn.le h3) Z) Z<|H1 ?_;refine za 2 Z (nh 1 Y3 (hE.xp.le h3) Z) Z<|H1 ?_;refine za 4 Z (jR Y6 hi) Z<|za 5 Z (kq Y3 Pz Z) Z<|H1 ?_;refine iM 6 V<|Jb Z Tt Z Z Z (XY D _ _ p Ag ng cg nf cf bm d (hE.nm.le h3) x B1 B2 B3 m1 d1 m2 d2 m3 d3 Pz Pz Pz xV 3) ?_;rintro _ _ s4 h4 ⟨rfl,Aw,nw,cw,rfl,hIw⟩;refine ⟨λ_ _ h=>h,?_⟩;have hnw:=hIw.1;have hnw2:=hIw.2.1;have hnw3:=hIw.2.2.1;refine H1 ?_;refine jq V<|Zt<|Zp<|lw (γ:=Nat×List Bool) (λg=>[(0,_),(4,_),(5,_),(6,_),(25,_),(26,_),(27,iJ (g.1:Int))]) (λg=>(oF,cb (qm (F.set i true)) 4)::(oG,cb (qm g.2) 4)::L) (λg tw=>Le D s4 tw/\(g.1<=nw/\g.2=y7 G ((sf p x 3).take g.1))) (λg=>nw - g.1) (λ_ _ _ h hl=>⟨h.1.trans hl,h.2⟩) (0,G) (.c6 Z Z Z Z Z Z (.cons Z (.nil _))) Z ⟨Le.refl _,⟨aB _,Z⟩⟩ ?_;intro g s5 I5;obtain ⟨k,Gk⟩:=g;obtain ⟨kh,hGk⟩:=I5.2;simp only at kh hGk;dsimp only;refine J6 ?_ ?_<;>intro c6
 .have hk:k < nw:=by omega
  obtain ⟨b2,off2,y,rfl,hy,hcy,_⟩:=AB.at_ Pz hk;obtain ⟨j,rfl,hj⟩:=qrk (ay hy);have hjg:j < ng:=by omega
  have hjG:j < Gk.length:=by rw [hGk,Rx];omega
  refine G6 ?_;refine iI (ly Y6 hk) Z<|iI (jW Y3 Pz Z) Z<|At Z Z<|Zr<|iI (jW Y3 (hE.xg.le Lc) Z) Z<|jY Y2<|iI (ly Y6 hjg) Z<|xy 1 (qm (Gk.set j true)) Y5 (Xl hjG) Z (Xn hjG true) Z<|G4 ?_;refine ki Y3 (jB O O)<|G2 ?_;refine jd ⟨(k+1,Gk.set j true),[],kp,Z,⟨I5.1,⟨by simp only;omega,by simp only;rw [wA hy,qld,hGk]⟩⟩,Oz⟩
 rw [aI O] at hGk;subst hGk;obtain ⟨b3,off3,x2,Aq,nq,cq,rfl,uu,hcq,hIq⟩:=qC.at_ (hE.cl.le Lc) hi;obtain rfl:x=x2:=by rw [hx] at uu;injection uu
 have hnq:=hIq.1;have hnq2:=hIq.2.1;have hnq3:=hIq.2.2.1;refine G7 ?_;refine iI (jW Y3 (hE.xc.le Lc) Z) Z<|jY Y2<|iI (ly Y6 hi) Z<|iI (jW Y3 Pz Z) Z<|G5 ?_;refine lw (γ:=Nat×List Bool×List Bool) (λg=>[(6,_),(38,_),(39,_),(40,iJ (g.1:Int))]) (λg=>(oF,cb (qm g.2.1) 4)::(oG,cb (qm g.2.2) 4)::L) (λg tw=>Le D s5 tw/\(g.1<=nq/\uc p ((sf p x 4).take g.1) (F.set i true) (y7 G (sf p x 3)) g.2.1 g.2.2)) (λg=>nq - g.1) (λ_ _ _ h hl=>⟨h.1.trans hl,h.2⟩) (0,F.set i true,y7 G (sf p x 3)) (.c4 Z Z Z Z (.nil _)) Z ⟨Le.refl _,⟨aB _,uc.nil _ _ _⟩⟩ ?_;intro g s7 I7;obtain ⟨k,F2,Gq2⟩:=g;obtain ⟨kh,hR⟩:=I7.2;simp only at kh hR;dsimp only;refine J6 ?_ ?_<;>intro c8
 .have hk:k < nq:=by omega
  obtain ⟨b2,off2,y,rfl,hy,hcy,_⟩:=AB.at_ Pz hk;obtain ⟨j,rfl,hj⟩:=qAV (ay hy);have hjf:j < nf:=by omega
  have hm2:=XX hR.lenF hR.ag;have hF2l:=hR.lenF;have hG2l:=hR.lenG;rw [cR] at hF2l;rw [Rx] at hG2l;refine G6 ?_;refine iI (ly Y6 hk) Z<|iI (jW Y3 Pz Z) Z<|At Z Z<|Zr<|iI (jW Y3 (hE.xr.le Lc) Z) Z<|jY Y2<|vv (first:=[]) (captured:=[_,_,_,_,_,_]) Y3 (ih e hd _ _ p d bf bn bp bg bc br oF oG bm Ag _ _ ng cg nf cf cc (hE.le (h3.t h4|>.t I5.1|>.t I7.1)) hV j F2 Gq2 hjf O O O) ?_;rintro _ _ s9 h9 ⟨rfl,F3,G3,rfl,hR3⟩;refine G4 ?_;refine ki Y3 (jB O O)<|G2 ?_;refine jd ⟨(k+1,F3,G3),[],kp,Z,⟨Lc,⟨by simp only;omega,by simp only;rw [wA hy];exact hR.snoc hR3⟩⟩,Oz⟩
 rw [aI O] at hR;refine G4 ?_;refine lC [] _ (.inl Z) (.nil) Z Lc λ_ iL=>?_;exact ⟨rfl,F2,Gq2,rfl,hR.done hx hiF g15 O⟩
def trc{D:Nat}:∀ m,U5 D m
 | 0=>λL s p d bf bn bp bg bc br oF oG bm Ag Af Ac ng cg nf cf cc hE hV i F G hi hF hG hm=>by omega
 | m+1=>λL s p d bf bn bp bg bc br oF oG bm Ag Af Ac ng cg nf cf cc hE hV i F G hi hF hG hm=>qCL (m+1) (λe h=>(show m=e by omega)▸trc m) L s p d bf bn bp bg bc br oF oG bm Ag Af Ac ng cg nf cf cc hE hV i F G hi hF hG hm
end
end Go.Proofs.YtapeaicongaggaaGreatDoor
