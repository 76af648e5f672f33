/- Part 6. -/
import Derived.Test.YtpdnijphccdiiaaGreatDoorQ36x5
import Derived.WalkSmall
import Derived.ArgAppend
set_option linter.unusedVariables false
set_option linter.unusedSimpArgs false
set_option linter.unnecessarySimpa false
set_option maxRecDepth 100000
set_option maxHeartbeats 8000000
namespace Go.Proofs.YtpdnijphccdiiaaGreatDoor
open Go.Proofs.Tryz
open Go.FL
attribute [local irreducible] JC JO JA JB qaO qaD qbV AC fill CellsAt QE Ev Mid
mutual
def fdX(p:Prg)(f:Fnc):Ex→Ex
 | .mk k o n nm ar=>match qeI p f (.mk k o n nm (qfM p f ar)) with
  | some v=>.mk 1 0 v [] []
  | none=>.mk k o n nm (qfM p f ar)
def qfM(p:Prg)(f:Fnc):List Ex→List Ex
 | []=>[]
 | x::r=>fdX p f x::qfM p f r
end
theorem qhO(p:Prg)(f:Fnc):∀ l:List Ex,qfM p f l=l.map (fdX p f)
 | []=>rfl
 | x::r=>by rw [qfM,qhO p f r];rfl
theorem qhP(p:Prg)(f:Fnc)(l:List Ex):(qfM p f l).length=l.length:=by rw [qhO,List.length_map]
def Ex.withA(x:Ex)(l:List Ex):Ex:=.mk x.kind x.op x.num x.name l
theorem qpn{p:Prg}{f:Fnc}{x:Ex}{v:Int}(h:qeI p f (x.withA (qfM p f x.args))=some v):fdX p f x=.mk 1 0 v [] []:=by
 cases x;rw [fdX];simp only [Ex.withA,Ex.kind,Ex.op,Ex.num,Ex.name,Ex.args] at h;rw [h]
theorem qpt{p:Prg}{f:Fnc}{x:Ex}(h:qeI p f (x.withA (qfM p f x.args))=none):fdX p f x=x.withA (qfM p f x.args):=by
 cases x;rw [fdX];simp only [Ex.withA,Ex.kind,Ex.op,Ex.num,Ex.name,Ex.args] at h ⊢;rw [h]
theorem qoI(a:Int):U32 (w32 a):=by unfold w32;exact ⟨by omega,by omega⟩
theorem qiD{k x y:Int}(hx:U32 x)(hy:U32 y):U32 (opP k x y):=by
  have hX:x.toNat < 4294967296:=by have:=hx.2;omega
  have hY:y.toNat < 4294967296:=by have:=hy.2;omega
  rw [opP]
  by_cases g0:14≤k∨k=1
  · rw [if_pos g0]
    by_cases h:qeL k x y=true
    · rw [if_pos h];exact ⟨by decide,by decide⟩
    · rw [if_neg h];exact ⟨by decide,by decide⟩
  rw [if_neg g0]
  by_cases g2:k=2
  · rw [if_pos g2];exact qoI _
  rw [if_neg g2]
  by_cases g3:k=3
  · rw [if_pos g3];have:=hx.1;have:=hx.2;exact ⟨by omega,by omega⟩
  rw [if_neg g3]
  by_cases g4:k=4
  · rw [if_pos g4];exact qoI _
  rw [if_neg g4]
  by_cases g5:k=5
  · rw [if_pos g5];exact ⟨Int.ediv_nonneg hx.1 hy.1,Int.lt_of_le_of_lt (Int.ediv_le_self _ hx.1) hx.2⟩
  rw [if_neg g5]
  by_cases g6:k=6
  · rw [if_pos g6]
    rcases Int.lt_or_eq_of_le hy.1 with h5 | h5
    · exact ⟨Int.emod_nonneg _ O,Int.lt_trans (Int.emod_lt_of_pos _ h5) hy.2⟩
    · rw [← h5,Int.emod_zero];exact hx
  rw [if_neg g6]
  by_cases g7:k=7
  · rw [if_pos g7]
    have:=Nat.mod_lt (x.toNat <<< y.toNat) (show 0 < 4294967296 by omega)
    exact ⟨Int.natCast_nonneg _,by omega⟩
  rw [if_neg g7]
  by_cases g8:k=8
  · rw [if_pos g8]
    have:x.toNat >>> y.toNat≤x.toNat:=Nat.shiftRight_le _ _
    exact ⟨Int.natCast_nonneg _,by omega⟩
  rw [if_neg g8]
  by_cases g9:k=9
  · rw [if_pos g9]
    have:x.toNat &&& y.toNat≤x.toNat:=Nat.and_le_left
    exact ⟨Int.natCast_nonneg _,by omega⟩
  rw [if_neg g9]
  by_cases g10:k=10
  · rw [if_pos g10];exact qoI _
  rw [if_neg g10]
  by_cases g11:k=11
  · rw [if_pos g11];exact qoI _
  rw [if_neg g11]
  by_cases g12:k=12
  · rw [if_pos g12]
    have:x.toNat ||| y.toNat < 2 ^ 32:=Nat.or_lt_two_pow hX hY
    exact ⟨Int.natCast_nonneg _,by omega⟩
  rw [if_neg g12]
  have:x.toNat ^^^ y.toNat < 2 ^ 32:=Nat.xor_lt_two_pow hX hY
  exact ⟨Int.natCast_nonneg _,by omega⟩
theorem qwA{p:Prg}{f:Fnc}{x:Ex}{v:Int}(hg:∀ g∈p.globals,U32 g.num)(ha:∀ a∈x.args,U32 a.num)(h:qeI p f x=some v):U32 v:=by
  unfold qeI at h
  split at h
  · split at h
    · injection h with h;subst h
      unfold qjU;split
      · rename_i g hgx;exact hg g (List.mem_of_getElem? hgx)
      · exact ⟨by decide,by decide⟩
    · cases h
  split at h
  · split at h
    · rename_i a r he
      split at h
      · injection h with h;subst h
        exact qiD (ha a (by rw [he];exact List.mem_cons_self ..)) ⟨by decide,by decide⟩
      · cases h
    · cases h
  split at h
  · split at h
    · rename_i a b r he
      have h1:=ha a (by rw [he];exact List.mem_cons_self ..)
      have h2:=ha b (by rw [he];exact List.mem_cons_of_mem _ Mc)
      split at h
      · split at h
        · split at h
          · injection h with h;subst h;exact qiD h1 h2
          · cases h
        split at h
        · injection h with h;subst h;exact ⟨by decide,by decide⟩
        split at h
        · injection h with h;subst h;exact ⟨by decide,by decide⟩
        · cases h
      · cases h
    · cases h
  · cases h
theorem qoQ{β γ:Type}{R:Hl→β→γ→Prop}{P:β→Prop}(hR:∀ M x cs,R M x cs→P x){Ms:List Hl}{xs:List β}{css:List γ}(h:All3 R Ms xs css):∀ x∈xs,P x:=by
 induction h with
 | nil=>exact fun c h=>by cases h
 | cons h1 _ ih=>
   intro c hc;rcases List.mem_cons.1 hc with rfl | hc
   · exact hR _ _ _ h1
   · exact ih c hc
theorem OXs.u32{d:Nat}{M:Hl}{A:Option Addr}{n c:Nat}{xs:List Ex}(h:OXs d M A n c xs):∀ x∈xs,U32 x.num:=by
 obtain ⟨css,Ms,R,_,_,h3,_⟩:=h
 exact qoQ (fun M x cs h=>by obtain ⟨_,_,_,_,_,_,_,hu,_⟩:=h.eq;exact hu) h3
theorem qn0{e:Nat}{M:Hl}{A:Option Addr}{n c:Nat}{xs:List Value}(h:FL.Own e 5 M (.slice A n c) n xs)(hn:0 < n):∃ b ys,A=some ⟨b,0,none⟩∧M=[(b,cb (xs++ys) e)]∧∀ zs:List Value,zs.length=xs.length→FL.Own e 5 [(b,cb (zs++ys) e)] (.slice (some ⟨b,0,none⟩) n c) n zs:=by
 generalize hv:Value.slice A n c=v at h
 cases h with
 | nil=>injection hv with h1 h2 h3;omega
 | blk b cap n2 xs ys h1 h2 h3 h4=>
  injection hv with e1 e2 e3
  subst e1;subst e3
  exact ⟨b,ys,rfl,rfl,fun zs hz=>.blk b c n zs ys (by rw [hz];exact h1) (by rw [hz];exact h2) h3 h4⟩
theorem qje{α:Type}{g:α→α}{l vs1 vs2:List α}{v x:α}{k:Nat}(h:(l.take k).map g++l.drop k=vs1++v::vs2)(hk:vs1.length=k)(hx:l[k]?=some x):vs1=(l.take k).map g∧v=x∧vs2=l.drop (k+1):=by
 obtain ⟨hl,rfl⟩:=List.getElem?_eq_some_iff.1 hx
 rw [List.drop_eq_getElem_cons hl] at h
 have hlen:((l.take k).map g).length=k:=by rw [List.length_map,List.length_take];omega
 obtain ⟨h1,h2⟩:=List.append_inj h (by rw [hlen,hk])
 injection h2 with h2 h3
 exact ⟨h1.symm,h2.symm,h3.symm⟩
theorem qeJ{α:Type}{g:α→α}{l:List α}{x:α}{k:Nat}(hx:l[k]?=some x):(l.take (k+1)).map g++l.drop (k+1)=(l.take k).map g++g x::l.drop (k+1):=by rw [qaT hx];simp
theorem qwE:qij prog 111:=⟨_,func111,by kernel_rfl,by kernel_rfl⟩
theorem qtA(D:Nat)(X L:Hl)(s:World)(bm:Nat)(Ag Af:Option Addr)(ng cg nf cf:Nat)(p:Prg)(hM:NmOK s bm p)(hGl:Glos s Ag ng cg p.globals)(f:Fnc)(B1 B2 B3:Option Addr)(m1 d1 m2 d2 m3 d3:Nat)(hpx:Strs s B1 m1 d1 f.params)(hlx:Strs s B2 m2 d2 f.locals)(d:Nat)(x:Ex)(M:Hl)(A:Option Addr)(n c:Nat)(hO:OXs d M A n c x.args)(hl6:x.kind=6→1≤x.args.length)(hl7:x.kind=7→2≤x.args.length):AC prog D 111 [.agg #[.slice Ag ng cg,.slice Af nf cf,.map (some bm),St f.name,.slice B1 m1 d1,.slice B2 m2 d2,.slice B3 m3 d3],.agg #[.int .i64 x.kind,.int .i64 x.op,.int .u32 x.num,St x.name,.slice A n c]] (X++(M++L)) s fun v L' _=>v=.tuple #[.int .u32 ((qeI p f x).getD 0),.bool (qeI p f x).isSome]∧L'=X++(M++L):=
 AC.perm (List.perm_append_comm_assoc ..) (AC.lend M hO.cb qwE fun ho=>qk0 D (X++L) _ bm Ag Af ng cg nf cf p (hM.le (qdl ho)) (hGl.le (qdl ho)) f B1 B2 B3 m1 d1 m2 d2 m3 d3 (hpx.le (qdl ho)) (hlx.le (qdl ho)) d x A n c (hO.pub (qji ho)) hl6 hl7) fun v L1 s1 ⟨g0,g1⟩=>⟨_,by rw [← g1];exact List.perm_append_comm_assoc ..,g0,rfl⟩
def FDX(D d:Nat):Prop:=∀ (L:Hl) (s:World) (bm:Nat) (Ag Af:Option Addr) (ng cg nf cf:Nat) (p:Prg) (hM:NmOK s bm p) (hGl:Glos s Ag ng cg p.globals) (f:Fnc) (B1 B2 B3:Option Addr) (m1 d1 m2 d2 m3 d3:Nat) (hpx:Strs s B1 m1 d1 f.params) (hlx:Strs s B2 m2 d2 f.locals) (M:Hl) (A:Option Addr) (n c:Nat) (xs:List Ex),OXs d M A n c xs→qiQ xs=true→AC prog D 72 [.agg #[.slice Ag ng cg,.slice Af nf cf,.map (some bm),St f.name,.slice B1 m1 d1,.slice B2 m2 d2,.slice B3 m3 d3],.slice A n c] (M++L) s fun v L' _=>∃ M',L'=M'++L∧v=.tuple #[]∧OXs d M' A n c (qfM p f xs)
theorem qju(D d:Nat)(ih:∀ e,d=e+1→FDX D e)(L:Hl)(s:World)(bm:Nat)(Ag Af:Option Addr)(ng cg nf cf:Nat)(p:Prg)(hM:NmOK s bm p)(hGl:Glos s Ag ng cg p.globals)(f:Fnc)(B1 B2 B3:Option Addr)(m1 d1 m2 d2 m3 d3:Nat)(hpx:Strs s B1 m1 d1 f.params)(hlx:Strs s B2 m2 d2 f.locals)(M:Hl)(A:Option Addr)(n c:Nat)(xs:List Ex)(hOX:OXs d M A n c xs)(hxv:qiQ xs=true):AC prog D 72 [.agg #[.slice Ag ng cg,.slice Af nf cf,.map (some bm),St f.name,.slice B1 m1 d1,.slice B2 m2 d2,.slice B3 m3 d3],.slice A n c] (M++L) s fun v L' _=>∃ M',L'=M'++L∧v=.tuple #[]∧OXs d M' A n c (qfM p f xs):=by
 obtain ⟨css0,Ms0,R0,hO0,rfl,hA0,hn⟩:=hOX
 have hgu:∀ g∈p.globals,U32 g.num:=fun g hg=>(hGl.u g hg).1
 have hsl:=Own.slice hO0
 obtain ⟨A_,c_,hsl1,hsl2,hsl3⟩:=hsl
 injection hsl1 with _ _ hsl4
 subst hsl4
 rw [List.append_assoc]
 refine qai (fn:=f72) qaq func72 V Z ntmps72 Z (rs:=[]) Z [(0,_),(1,_)] Z<|Sr<|qau Z Z ?_
 intro β1 s1 h1
 refine Nt<|Sr<|Zqm Z Z<|Ws Y4<|Zqm Z Z<|Nt<|Zp<|?_
 refine qat (γ:=Nat×Hl×Hl) (fun g=>[(1,_),(2,_),(8,_),(9,.int .i64 (g.1:Int))]) (fun g=>_::(g.2.1++(g.2.2++L))) (fun g tw=>Le D s1 tw∧(g.1≤n∧∃ css Ms,FL.Own 89 5 g.2.1 (.slice A n c) n (List.flatten css)∧g.2.2=List.flatten Ms∧All3 (OX d) Ms ((xs.take g.1).map (fdX p f)++xs.drop g.1) css)) (fun g=>n - g.1) (fun _ _ _ h hl=>⟨h.1.trans hl,h.2⟩) (0,R0,Ms0.flatten) (.c4 Z Z Z Z (.nil _)) Z ⟨Le.refl _,⟨Nat.zero_le _,css0,Ms0,hO0,Z,by simpa using hA0⟩⟩ ?_
 intro g s2 I2
 obtain ⟨k,R,Fo⟩:=g
 obtain ⟨hk0,css,Ms,hO,hF,hA3⟩:=I2.2
 simp only at hk0 hO hF hA3
 dsimp only
 refine Sr<|qba Z Z Z<|Nt<|Zs<|?_
 refine qab Z (fun c3=>?_) (fun c3=>?_)
 ·
  have hk:k < n:=by omega
  obtain ⟨b,ys,rfl,rfl,hOw⟩:=qn0 hO O
  obtain ⟨x,hx⟩:∃ x,xs[k]?=some x:=⟨_,List.getElem?_eq_getElem O⟩
  obtain ⟨us1,u,us2,vs1,v,vs2,ws1,w0,ws2,rfl,hvv,rfl,hvl,hxw,hA1,hA2⟩:=hA3.at_ (k:=k) (by rw [List.length_append,List.length_map,List.length_take,List.length_drop];omega)
  obtain ⟨hvs1,hvx,hvs2⟩:=qje hvv hvl hx
  obtain rfl:x=v:=hvx.symm
  obtain ⟨e,A',n',c',hd,hw0,hxO,hux,hnl⟩:=hxw.eq
  have hwl:w0.length=5:=by rw [hw0];rfl
  have hxv1:=(qb8 hxv hx).1
  obtain ⟨hxc,hxva⟩:=qdP hxv1
  have hal:=(qcy hxc).2.2.1
  have q6:(x.withA (qfM p f x.args)).kind=6→1≤(x.withA (qfM p f x.args)).args.length:=fun q=>by
    have h1:qbF x.kind=1:=by rw [show x.kind=6 from q];rfl
    show 1≤(qfM p f x.args).length
    rw [qhP];omega
  have q7:(x.withA (qfM p f x.args)).kind=7→2≤(x.withA (qfM p f x.args)).args.length:=fun q=>by
    have h1:qbF x.kind=2:=by rw [show x.kind=7 from q];rfl
    show 2≤(qfM p f x.args).length
    rw [qhP];omega
  obtain ⟨P,hP0⟩:∃ P,P=ws1.flatten:=⟨_,rfl⟩
  obtain ⟨Q,hQ0⟩:∃ Q,Q=ws2.flatten++ys:=⟨_,rfl⟩
  obtain ⟨F1,hF1⟩:∃ F,F=us1.flatten:=⟨_,rfl⟩
  obtain ⟨F2,hF2⟩:∃ F,F=us2.flatten:=⟨_,rfl⟩
  have hPQ:∀ w:List Value,P++(w++Q)=(ws1++w::ws2).flatten++ys:=fun w=>by rw [hP0,hQ0];simp [List.append_assoc]
  have hP:P.length=0+k * 5:=by rw [hP0,qnA hA1,hvl,Nat.zero_add]
  have hFF:Fo=F1++(u++F2):=by rw [hF,hF1,hF2];simp
  subst hFF
  rw [← hPQ,List.append_assoc,List.append_assoc]
  simp only [cQ9,nQ9]
  refine Zk<|Zt<|Zs<|Zp<|Sr<|Zqm Z Z<|At Z Z<|Zs<|qa1 qag 7 Z 2 ?_
  intro s4 h4
  refine za 0 Z (qan 0 [_,_,_,_,_,_,_] Z Z Z Z Z) Z<|za 1 Z (qar Z) Z<|za 2 Z (qar Z) Z<|za 3 Z (qap Z Z Z Z Z Z hk) Z<|za 4 Z (qbf Z Z Z Z) Z<|za 5 Z (qdQ 1 Z Z Z Z ((qtH (c:=w0) hP (j:=4) O).trans (by rw [hw0];rfl))) Z<|qal 6 V<|Jb Z Tt Z Z Z (AC.mid (_::_::F1) u (F2++L) (ih e hd _ _ bm Ag Af ng cg nf cf p (hM.le (h1.t I2.1|>.t h4)) (hGl.le (h1.t I2.1|>.t h4)) f B1 B2 B3 m1 d1 m2 d2 m3 d3 (hpx.le (h1.t I2.1|>.t h4)) (hlx.le (h1.t I2.1|>.t h4)) u A' n' c' x.args hxO hxva)) ?_
  rintro _ _ s5 h5 ⟨u2,rfl,rfl,hu2⟩
  refine ⟨(fun x hx _=>qkP hx),?_⟩
  simp only [List.cons_append]
  refine qad V<|Zt<|Zs<|qa1 qag 11 Z 2 ?_
  intro s6 h6
  refine za 0 Z (qan 0 [_,_,_,_,_,_,_] Z Z Z Z Z) Z<|za 1 Z (qar Z) Z<|za 2 Z (qar Z) Z<|za 3 Z (qap Z Z Z Z Z Z hk) Z<|za 4 Z (qaw (qan 1 w0 Z Z Z Z (qsz hP hwl)) (show Value.agg w0.toArray=.agg #[.int .i64 x.kind,.int .i64 x.op,.int .u32 x.num,St x.name,.slice A' n' c'] by rw [hw0])) Z<|qal 5 V ?_
  refine Jb Z Tt Z Z Z (qtA D (_::_::F1) (F2++L) _ bm Ag Af ng cg nf cf p (hM.le (h1.t I2.1|>.t h4|>.t h5|>.t h6)) (hGl.le (h1.t I2.1|>.t h4|>.t h5|>.t h6)) f B1 B2 B3 m1 d1 m2 d2 m3 d3 (hpx.le (h1.t I2.1|>.t h4|>.t h5|>.t h6)) (hlx.le (h1.t I2.1|>.t h4|>.t h5|>.t h6)) e (x.withA (qfM p f x.args)) u2 A' n' c' hu2 q6 q7) ?_
  rintro _ _ s7 h7 ⟨rfl,rfl⟩
  refine ⟨(fun x hx _=>qkP hx),?_⟩
  simp only [List.cons_append]
  refine za 6 Z (qar Z) Z<|za 7 Z (qbv Z Z) Z<|za 8 Z (qbv Z Z) Z<|za 9 Z (qaY Z) Z<|za 10 Z (qaY Z) Z<|qad V<|Zt<|Sr<|Zqm Z Z<|Nt<|?_
  refine qes Z (fun c8=>?_) (fun c8=>?_)
  ·
   obtain ⟨v9,hnum⟩:=Option.isSome_iff_exists.1 c8
   have hau:∀ a∈(x.withA (qfM p f x.args)).args,U32 a.num:=hu2.u32
   obtain ⟨w9,hw9⟩:∃ w:List Value,w=[.int .i64 1,.int .i64 0,.int .u32 v9,St [],.slice none 0 0]:=⟨_,rfl⟩
   refine Zr<|Zqm Z Z<|Zqm Z Z<|Zqm Z Z<|qaf (qaw (qam [(_,_),(_,_)] [_,_,_,_,_] Z Z Z Z Z Z) (show Value.agg #[.int .i64 1,.int .i64 0,.int .u32 ((qeI p f (x.withA (qfM p f x.args))).getD 0),St [],.slice none 0 0]=.agg #[.int .i64 1,.int .i64 0,.int .u32 v9,St [],.slice none 0 0] by rw [hnum];rfl)) Z<|qaf (qap Z Z Z Z Z Z hk) Z<|qo1 1 (P++(w9++Q)) Z Z Z Z Z (qtD hP hwl) Z (by rw [hw9];exact qkV hP (show 5=w0.length from hwl.symm)) Z<|Zn<|Zb<|Zt<|qbs (_::_::F1) u2 _ ?_
   intro s10 h10 _
   simp only [List.cons_append]
   rw [show F1++(F2++L)=(F1++F2)++L from (List.append_assoc ..).symm]
   refine Zr<|qaG Z Z Z (w64 O O)<|Zqm Z Z<|Zn<|?_
   refine qaa ⟨(k+1,[(b,cb (P++(w9++Q)) 89)],F1++F2),[],kp,Z,⟨(I2.1.t h4|>.t h5|>.t h6|>.t h7|>.t h10),⟨by simp only;omega,ws1++w9::ws2,us1++[]::us2,by simp only;rw [hPQ];exact hOw _ (by simp [hwl,hw9] <;> omega),by simp [hF1,hF2],by simp only;rw [qeJ hx,qpn hnum,← hvs1,← hvs2];exact hA1.app (.cons (hd▸hw9▸OX.mk (x:=.mk 1 0 v9 [] []) (OXs.nil _) (qwA hgu hau hnum) (Nat.zero_le _)) hA2)⟩⟩,Oz⟩
  have hnum:qeI p f (x.withA (qfM p f x.args))=none:=Option.isNone_iff_eq_none.1 (by rw [← Option.not_isSome,c8];rfl)
  refine Zk<|Zb<|Zt<|?_
  rw [show F1++(u2++(F2++L))=(F1++(u2++F2))++L from by simp only [List.append_assoc]]
  refine Zr<|qaG Z Z Z (w64 O O)<|Zqm Z Z<|Zn<|?_
  refine qaa ⟨(k+1,[(b,cb (P++(w0++Q)) 89)],F1++(u2++F2)),[],kp,Z,⟨(I2.1.t h4|>.t h5|>.t h6|>.t h7),⟨by simp only;omega,ws1++w0::ws2,us1++u2::us2,by simp only;rw [hPQ];exact hOw _ (by simp),by simp [hF1,hF2],by simp only;rw [qeJ hx,qpt hnum,← hvs1,← hvs2];exact hA1.app (.cons (hd▸hw0▸OX.mk (x:=x.withA (qfM p f x.args)) hu2 hux hnl) hA2)⟩⟩,Oz⟩
 obtain rfl:n=k:=by omega
 rw [List.take_of_length_le O,List.drop_eq_nil_of_le O,List.append_nil,← qhO] at hA3
 refine Zl<|Zv<|Zv<|Zd<|?_
 refine qbm [_] _ (.inl Z) (.nil) Z (h1.t I2.1) fun _ hS2=>?_
 exact ⟨R++Fo,(List.append_assoc ..).symm,rfl,css,Ms,R,hO,by rw [hF],hA3,by rw [qhP];exact hn⟩
theorem fdx(D:Nat):∀ d,FDX D d
 | 0=>fun L s bm Ag Af ng cg nf cf p hM hGl f B1 B2 B3 m1 d1 m2 d2 m3 d3 hpx hlx M A n c xs h1 h2=>qju D 0 (fun e h=>by omega) L s bm Ag Af ng cg nf cf p hM hGl f B1 B2 B3 m1 d1 m2 d2 m3 d3 hpx hlx M A n c xs h1 h2
 | d+1=>fun L s bm Ag Af ng cg nf cf p hM hGl f B1 B2 B3 m1 d1 m2 d2 m3 d3 hpx hlx M A n c xs h1 h2=>qju D (d+1) (fun e h=>(show d=e by omega)▸fdx D d) L s bm Ag Af ng cg nf cf p hM hGl f B1 B2 B3 m1 d1 m2 d2 m3 d3 hpx hlx M A n c xs h1 h2
mutual
def fdS(p:Prg)(f:Fnc):Stm→Stm
 | .mk k nm es b e=>.mk k nm (qfM p f es) (qlm p f b) (qlm p f e)
def qlm(p:Prg)(f:Fnc):List Stm→List Stm
 | []=>[]
 | x::r=>fdS p f x::qlm p f r
end
theorem qjA(p:Prg)(f:Fnc):∀ l:List Stm,qlm p f l=l.map (fdS p f)
 | []=>rfl
 | x::r=>by rw [qlm,qjA p f r];rfl
theorem qvy(p:Prg)(f:Fnc)(x:Stm):fdS p f x=.mk x.kind x.name (qfM p f x.exprs) (qlm p f x.body) (qlm p f x.els):=by cases x;rfl
def FDS(D d:Nat):Prop:=∀ (L:Hl) (s:World) (bm:Nat) (Ag Af:Option Addr) (ng cg nf cf:Nat) (p:Prg) (hM:NmOK s bm p) (hGl:Glos s Ag ng cg p.globals) (f:Fnc) (B1 B2 B3:Option Addr) (m1 d1 m2 d2 m3 d3:Nat) (hpx:Strs s B1 m1 d1 f.params) (hlx:Strs s B2 m2 d2 f.locals) (M:Hl) (A:Option Addr) (n c:Nat) (xs:List Stm) (lv:Nat),SOs d s M A n c xs→qdU xs lv=true→AC prog D 42 [.agg #[.slice Ag ng cg,.slice Af nf cf,.map (some bm),St f.name,.slice B1 m1 d1,.slice B2 m2 d2,.slice B3 m3 d3],.slice A n c] (M++L) s fun v L' s'=>∃ M',L'=M'++L∧v=.tuple #[]∧SOs d s' M' A n c (qlm p f xs)
theorem qrn{D d:Nat}{g:FuncId}{args:List Value}{L L0:Hl}{s:World}{A:Option Addr}{n c:Nat}{xs:List Stm}(h:AC prog D g args L0 s fun v L' s'=>∃ M',L'=M'++L∧v=.tuple #[]∧∀ s2,Le D s' s2→SOs d s2 M' A n c xs):AC prog D g args L0 s fun v L' s'=>∃ M',L'=M'++L∧v=.tuple #[]∧SOs d s' M' A n c xs:=h.mono fun v L' s' _ ⟨M',h1,h2,h3⟩=>⟨M',h1,h2,h3 _ (Le.refl _)⟩
theorem qwL{x a b c d e f:Nat×Obj}{R R':Hl}(hx:x∈(a::b::c::d::e::f::R).take 6):x∈a::b::c::d::e::f::R':=List.mem_append_left R' (show x∈[a,b,c,d,e,f] from hx)
theorem qkd(D d:Nat)(ih:∀ e,d=e+1→FDS D e)(L:Hl)(s:World)(bm:Nat)(Ag Af:Option Addr)(ng cg nf cf:Nat)(p:Prg)(hM:NmOK s bm p)(hGl:Glos s Ag ng cg p.globals)(f:Fnc)(B1 B2 B3:Option Addr)(m1 d1 m2 d2 m3 d3:Nat)(hpx:Strs s B1 m1 d1 f.params)(hlx:Strs s B2 m2 d2 f.locals)(M:Hl)(A:Option Addr)(n c:Nat)(xs:List Stm)(lv:Nat)(hSO:SOs d s M A n c xs)(hxv:qdU xs lv=true):AC prog D 42 [.agg #[.slice Ag ng cg,.slice Af nf cf,.map (some bm),St f.name,.slice B1 m1 d1,.slice B2 m2 d2,.slice B3 m3 d3],.slice A n c] (M++L) s fun v L' s'=>∃ M',L'=M'++L∧v=.tuple #[]∧∀ s2,Le D s' s2→SOs d s2 M' A n c (qlm p f xs):=by
 obtain ⟨css,Ms0,rfl,hRw,hA0⟩:=hSO
 have hn:n=xs.length:=by rw [hRw.1];exact hA0.len.2
 have hc1:=hRw.2.1
 have hc2:=hRw.2.2.1
 refine qai (fn:=f42) qaq func42 V Z ntmps42 Z (rs:=[]) Z [(0,_),(1,_)] Z<|Sr<|qau Z Z ?_
 intro β1 s1 h1
 refine Nt<|Sr<|Zqm Z Z<|Ws Y4<|Zqm Z Z<|Nt<|Zp<|?_
 refine qat (γ:=Nat×Hl) (fun g=>[(1,_),(2,_),(6,_),(7,.int .i64 (g.1:Int))]) (fun g=>_::(g.2++L)) (fun g tw=>Le D s1 tw∧(g.1≤n∧∃ Ms,g.2=List.flatten Ms∧All3 (SO d tw) Ms ((xs.take g.1).map (fdS p f)++xs.drop g.1) css)) (fun g=>n - g.1) (fun _ _ _ h hl=>⟨h.1.trans hl,⟨h.2.1,by obtain ⟨Ms,q2,q3⟩:=h.2.2;exact ⟨Ms,q2,q3.mono fun _ _ _ k=>SO.le hl k⟩⟩⟩) (0,Ms0.flatten) (.c4 Z Z Z Z (.nil _)) Z ⟨Le.refl _,⟨Nat.zero_le _,Ms0,Z,by simpa using hA0.mono fun _ _ _ k=>SO.le h1 k⟩⟩ ?_
 intro g s2 I2
 obtain ⟨k,Fo⟩:=g
 obtain ⟨hk0,Ms,hF,hA3⟩:=I2.2
 simp only at hk0 hF hA3
 dsimp only
 refine Sr<|qba Z Z Z<|Nt<|Zs<|?_
 refine qab Z (fun c3=>?_) (fun c3=>?_)
 ·
  have hk:k < n:=by omega
  obtain ⟨x,hx⟩:∃ x,xs[k]?=some x:=⟨_,List.getElem?_eq_getElem O⟩
  obtain ⟨us1,u,us2,vs1,v,vs2,ws1,w0,ws2,rfl,hvv,hcs,hvl,hxw,hA1,hA2⟩:=hA3.at_ (k:=k) (by rw [List.length_append,List.length_map,List.length_take,List.length_drop];omega)
  obtain ⟨hvs1,hvx,hvs2⟩:=qje hvv hvl hx
  obtain rfl:x=v:=hvx.symm
  obtain ⟨e,A1,n1,c1,A2,n2,c2,A3,n3,c3,M1,M2,M3,hd,hw0,rfl,hxO,hxB,hxE,hnl⟩:=hxw.eq
  have hw:css[k]?=some w0:=by
    have:=hA1.len
    rw [hcs,List.getElem?_append_right O,show k - ws1.length=0 by omega];rfl
  obtain ⟨b,off,rfl,hcx⟩:=hRw.at_ hw
  rw [hw0] at hcx
  obtain ⟨hvx1,_⟩:=qds hxv hx
  obtain ⟨_,_,hxe,hxb,hxl⟩:=qdc hvx1
  obtain ⟨F1,hF1⟩:∃ F,F=us1.flatten:=⟨_,rfl⟩
  obtain ⟨F2,hF2⟩:∃ F,F=us2.flatten:=⟨_,rfl⟩
  have hFF:Fo=F1++((M1++(M2++M3))++F2):=by rw [hF,hF1,hF2];simp
  subst hFF
  rw [show (F1++((M1++(M2++M3))++F2))++L=F1++(M1++(M2++(M3++(F2++L)))) from by simp only [List.append_assoc]]
  refine Zk<|Zt<|Zs<|Zp<|Sr<|Zqm Z Z<|At Z Z<|Zs<|qa1 qag 7 Z 1 ?_
  intro s4 h4
  refine za 0 Z (qan 0 [_,_,_,_,_,_,_] Z Z Z Z Z) Z<|za 1 Z (qar Z) Z<|za 2 Z (qar Z) Z<|za 3 Z (qap Z Z Z Z Z Z hk) Z<|za 4 Z (qbf Z Z Z Z) Z<|za 5 Z (qaC 2 Z Z Z (hcx.le (h1.t I2.1|>.t h4)) Z) Z<|qal 6 V<|Jb Z Tt Z Z Z (AC.mid (_::F1) M1 (M2++(M3++(F2++L))) (fdx D e _ _ bm Ag Af ng cg nf cf p (hM.le (h1.t I2.1|>.t h4)) (hGl.le (h1.t I2.1|>.t h4)) f B1 B2 B3 m1 d1 m2 d2 m3 d3 (hpx.le (h1.t I2.1|>.t h4)) (hlx.le (h1.t I2.1|>.t h4)) M1 A1 n1 c1 x.exprs hxO hxe)) ?_
  rintro _ _ s5 h5 ⟨N1,rfl,rfl,hu1⟩
  refine ⟨(fun x hx _=>qeG hx),?_⟩
  simp only [List.cons_append]
  rw [show F1++(N1++(M2++(M3++(F2++L))))=(F1++N1)++(M2++(M3++(F2++L))) from (List.append_assoc ..).symm]
  refine qad V<|Zt<|Zs<|qa1 qag 7 Z 1 ?_
  intro s6 h6
  refine za 0 Z (qan 0 [_,_,_,_,_,_,_] Z Z Z Z Z) Z<|za 1 Z (qar Z) Z<|za 2 Z (qar Z) Z<|za 3 Z (qap Z Z Z Z Z Z hk) Z<|za 4 Z (qbf Z Z Z Z) Z<|za 5 Z (qaC 3 Z Z Z (hcx.le (h1.t I2.1|>.t h4|>.t h5|>.t h6)) Z) Z<|qal 6 V ?_
  refine Jb Z Tt Z Z Z (AC.mid (_::(F1++N1)) M2 (M3++(F2++L)) (ih e hd _ _ bm Ag Af ng cg nf cf p (hM.le (h1.t I2.1|>.t h4|>.t h5|>.t h6)) (hGl.le (h1.t I2.1|>.t h4|>.t h5|>.t h6)) f B1 B2 B3 m1 d1 m2 d2 m3 d3 (hpx.le (h1.t I2.1|>.t h4|>.t h5|>.t h6)) (hlx.le (h1.t I2.1|>.t h4|>.t h5|>.t h6)) M2 A2 n2 c2 x.body (lv+1) (hxB.le (h4.t h5|>.t h6)) hxb)) ?_
  rintro _ _ s7 h7 ⟨N2,rfl,rfl,hu2⟩
  refine ⟨(fun x hx _=>qeG hx),?_⟩
  simp only [List.cons_append]
  rw [show (F1++N1)++(N2++(M3++(F2++L)))=((F1++N1)++N2)++(M3++(F2++L)) from (List.append_assoc ..).symm]
  refine qad V<|Zt<|qa1 qag 7 Z 1 ?_
  intro s8 h8
  refine za 0 Z (qan 0 [_,_,_,_,_,_,_] Z Z Z Z Z) Z<|za 1 Z (qar Z) Z<|za 2 Z (qar Z) Z<|za 3 Z (qap Z Z Z Z Z Z hk) Z<|za 4 Z (qbf Z Z Z Z) Z<|za 5 Z (qaC 4 Z Z Z (hcx.le (h1.t I2.1|>.t h4|>.t h5|>.t h6|>.t h7|>.t h8)) Z) Z<|qal 6 V ?_
  refine Jb Z Tt Z Z Z (AC.mid (_::((F1++N1)++N2)) M3 (F2++L) (ih e hd _ _ bm Ag Af ng cg nf cf p (hM.le (h1.t I2.1|>.t h4|>.t h5|>.t h6|>.t h7|>.t h8)) (hGl.le (h1.t I2.1|>.t h4|>.t h5|>.t h6|>.t h7|>.t h8)) f B1 B2 B3 m1 d1 m2 d2 m3 d3 (hpx.le (h1.t I2.1|>.t h4|>.t h5|>.t h6|>.t h7|>.t h8)) (hlx.le (h1.t I2.1|>.t h4|>.t h5|>.t h6|>.t h7|>.t h8)) M3 A3 n3 c3 x.els (lv+1) (hxE.le (h4.t h5|>.t h6|>.t h7|>.t h8)) hxl)) ?_
  rintro _ _ s9 h9 ⟨N3,rfl,rfl,hu3⟩
  refine ⟨(fun x hx _=>qeG hx),?_⟩
  simp only [List.cons_append]
  rw [show ((F1++N1)++N2)++(N3++(F2++L))=(F1++((N1++(N2++N3))++F2))++L from by simp only [List.append_assoc]]
  refine qad V<|Zb<|Zt<|Zr<|qaG Z Z Z (w64 O O)<|Zqm Z Z<|Zn<|?_
  refine qaa ⟨(k+1,F1++((N1++(N2++N3))++F2)),[],kp,Z,⟨(I2.1.t h4|>.t h5|>.t h6|>.t h7|>.t h8|>.t h9),⟨by simp only;omega,us1++(N1++(N2++N3))::us2,by simp [hF1,hF2],by simp only;rw [qeJ hx,← hvs1,← hvs2,hcs];exact (hA1.mono fun _ _ _ k=>SO.le (h4.t h5|>.t h6|>.t h7|>.t h8|>.t h9) k).app (.cons (hd▸hw0▸qvy p f x▸SO.mk (x:=.mk x.kind x.name (qfM p f x.exprs) (qlm p f x.body) (qlm p f x.els)) hu1 (hu2.le (h8.t h9)) (hu3.le (Lr D)) hnl) (hA2.mono fun _ _ _ k=>SO.le (h4.t h5|>.t h6|>.t h7|>.t h8|>.t h9) k))⟩⟩,Oz⟩
 obtain rfl:n=k:=by omega
 rw [List.take_of_length_le O,List.drop_eq_nil_of_le O,List.append_nil,← qjA] at hA3
 refine Zl<|Zv<|Zv<|Zd<|?_
 refine qbm [_] _ (.inl Z) (.nil) Z (h1.t I2.1) fun _ hS2=>?_
 exact ⟨Fo,rfl,rfl,fun s2 hs2=>⟨css,Ms,hF,hRw.le (h1.t I2.1|>.t (hS2.t hs2)),hA3.mono fun _ _ _ k=>SO.le ((Lr D).t (hS2.t hs2)) k⟩⟩
theorem fds(D:Nat):∀ d,FDS D d
 | 0=>fun L s bm Ag Af ng cg nf cf p hM hGl f B1 B2 B3 m1 d1 m2 d2 m3 d3 hpx hlx M A n c xs lv h1 h2=>qrn (qkd D 0 (fun e h=>by omega) L s bm Ag Af ng cg nf cf p hM hGl f B1 B2 B3 m1 d1 m2 d2 m3 d3 hpx hlx M A n c xs lv h1 h2)
 | d+1=>fun L s bm Ag Af ng cg nf cf p hM hGl f B1 B2 B3 m1 d1 m2 d2 m3 d3 hpx hlx M A n c xs lv h1 h2=>qrn (qkd D (d+1) (fun e h=>(show d=e by omega)▸fds D d) L s bm Ag Af ng cg nf cf p hM hGl f B1 B2 B3 m1 d1 m2 d2 m3 d3 hpx hlx M A n c xs lv h1 h2)
def fdF(p:Prg)(x:Fnc):Fnc:={ x with body:=qlm p x x.body }
def qkG(p:Prg):Prg:=⟨p.globals,p.funcs.map (fdF p)⟩
theorem qgz{x:Nat×Obj}{X M Y:Hl}(h:x∈X++Y):x∈X++(M++Y):=by
 rcases List.mem_append.1 h with h | h
 · exact List.mem_append_left _ h
 · exact List.mem_append_right _ (List.mem_append_right _ h)
def qfp(p:Prg):Prg×(Int×Int):=if (qbM p).1≠0 then (⟨[],[]⟩,qbM p) else if (qd2 (qkG p)).1≠0 then (⟨[],[]⟩,qd2 (qkG p)) else (qkG p,(0,0))
theorem qnR(D:Nat)(L:Hl)(s:World)(hG:GP s)(d:Nat)(p:Prg)(Ag Af:Option Addr)(ng cg nf cf:Nat)(hGl:Glos s Ag ng cg p.globals)(hFn:Fncs d s Af nf cf p.funcs):AC Tryz.prog D 17 [.agg #[.slice Ag ng cg,.slice Af nf cf]] L s fun v L' s'=>L=L'∧∃ Bg mg eg Bf mf ef,v=.tuple #[.agg #[.slice Bg mg eg,.slice Bf mf ef],.agg #[.int .i64 (qfp p).2.1,.int .i64 (qfp p).2.2]]∧∀ s2,Le D s' s2→Glos s2 Bg mg eg (qfp p).1.globals∧Fncs d s2 Bf mf ef (qfp p).1.funcs:=by
 have hn1:=hGl.1
 have hn2:=hFn.1
 have hU:prU p:=⟨hGl.u,hFn.u⟩
 refine qai (fn:=Tryz.f17) qaq Tryz.func17 V Z Tryz.ntmps17 Z (rs:=[.cell 2 25,.cell 3 33]) Z [(0,_)] Z<|Sr<|qau Z Z ?_
 intro β1 s1 h1
 refine qae Z [_,_] Z Z ?_
 intro β2 s2 h2
 refine qae Z [_,_] Z Z ?_
 intro β3 s3 h3
 refine Nt<|Zs<|Sr<|qaf (qan 2 [_,_] Z Z Z Z Z) Z<|Jc Z Z Z (qdt D _ _ (hG.le (h1.t h2|>.t h3)) d p Ag _ ng cg nf cf (hGl.le (h1.t h2|>.t h3)) (hFn.le (h1.t h2|>.t h3))) ?_
 rintro _ _ s4 h4 ⟨rfl,rfl⟩
 refine qae Z [_,_] Z Z ?_
 intro β5 s5 h5
 refine Wt 0 [_,_] Y9<|Nt<|Sr<|qaf (qan 0 [_,_] Z Z Z Z Z) Z<|qaf (qam [] [_,_] Z Z Z Z Z Z) Z<|qaf (qdY Z Z (qbX _ _ _ _)) Z<|Nt<|?_
 refine qaK Z (fun c6=>?_) (fun c6=>?_)
 ·
  have hb0:(qbM p).1≠0:=fun h=>c6 (by rw [qiz hU h];exact ⟨rfl,rfl⟩)
  have hE:qfp p=(⟨[],[]⟩,qbM p):=if_pos hb0
  refine Zs<|qcJ qag 4 Z [2,1] (by intro x hx;exact qbo hx) ?_
  intro s7 h7
  refine za 0 Z (qam [] [_,_] Z Z Z Z Z Z) Z<|za 1 Z (qan 0 [_,_] Z Z Z Z Z) Z<|qal 2 V<|Wu Z Tt 2 [_,_] Y9 (sM (sbY (sbN (sbY (sbE _)))))<|qal 3 V<|Wu Z Tt 1 [_,_] Y9 (sM (sbY (sbN (sbY (sbE _)))))<|qad V<|Zt<|Zo<|Zu<|?_
  refine rR [_,_,_,_] L (.agg (us:=[_,_]) 2 Z Z Z Z Z (.agg (us:=[_,_]) 1 Z Z Z Z Z (.nil))) Z (h1.t h2|>.t h3|>.t h4|>.t h5|>.t h7) fun _ hS2=>?_
  rw [hE]
  exact ⟨rfl,none,0,0,none,0,0,rfl,fun s2 hs2=>⟨qhK _,qhE _ _⟩⟩
 have g4:=c6
 have g14:¬ (qbM p).1≠0:=fun h=>h g4.1
 obtain ⟨hOK,hz0⟩:=OKP.of hU g4.1
 have hV:=hOK.1
 have hV1:=hV.1
 have hV2:=hV.2.1
 have hVf:=hV.2.2.2.1
 have hND:=(qc5 (p:=p) (by rw [hOK.2.1])).1
 refine Zk<|Zt<|?_
 refine qho (γ:=Nat×Nat×Hl×Value×Value×Nat) (fun g=>[(5,.pointer (some ⟨g.1,0,none⟩)),(6,.pointer (some ⟨g.2.1,0,none⟩))]) (fun g=>((g.1,cb [g.2.2.2.1,g.2.2.2.2.1] 25)::(g.2.1,cb [.slice Ag ng cg,.slice Af nf cf,.map (some g.2.2.2.2.2)] 98)::g.2.2.1)) (fun g tw=>(∃ Bg mg eg,g.2.2.2.1=.slice Bg mg eg∧Glos tw Bg mg eg p.globals)∧(∃ Bf mf ef,g.2.2.2.2.1=.slice Bf mf ef∧FOs d tw g.2.2.1 Bf mf ef p.funcs)∧NmOK tw g.2.2.2.2.2 p) (fun _ _ _ h hl=>⟨by obtain ⟨A,n,c,q1,q2⟩:=h.1;exact ⟨A,n,c,q1,q2.le hl⟩,by obtain ⟨A,n,c,q1,q2⟩:=h.2.1;exact ⟨A,n,c,q1,q2.le hl⟩,h.2.2.le hl⟩) ?_ ?_
 ·
  refine qa1 qag 8 Z 4 ?_
  intro s9 h9
  refine za 0 Z (qan 3 [_,_] Z Z Z Z Z) Z<|za 2 Z (qan 3 [_,_] Z Z Z Z Z) Z ?_
  refine qlo 1 4 5 V ?_ ?_ ?_
  ·
   refine Jb Z Tt Z Z Z (AC.mid [_,_,_,_] [] L (qdq D _ _ d p Ag _ ng cg nf cf (hGl.le (h1.t h2|>.t h3|>.t h4|>.t h5|>.t h9)) (hFn.le (h1.t h2|>.t h3|>.t h4|>.t h5|>.t h9)) hV)) ?_
   rintro _ _ s10 h10 ⟨M1,rfl,Bg,mg,eg,Bf,mf,ef,rfl,hBG,hBF⟩
   refine ⟨(fun x _ h=>qgz (X:=[_,_,_,_]) (M:=M1) (Y:=L) h),?_⟩
   simp only [cQ9,nQ9]
   refine qlo 3 4 5 V ?_ ?_ ?_
   ·
    refine Jb Z Tt Z Z Z (qca D _ _ d p Ag _ ng cg nf cf (hGl.le (h1.t h2|>.t h3|>.t h4|>.t h5|>.t h9|>.t h10)) (hFn.le (h1.t h2|>.t h3|>.t h4|>.t h5|>.t h9|>.t h10)) hND) ?_
    rintro _ _ s11 h11 ⟨rfl,bm,rfl,hM⟩
    refine ⟨fun _ _ h=>h,?_⟩
    refine qb9 4 5 V ?_ ?_
    ·
     refine qao Z Tt Z [_,_] Z Z ?_
     intro β12 s12 h12
     refine qal 5 V<|qao Z Tt Z [_,_,_] Z Z ?_
     intro β13 s13 h13
     refine qal 6 V<|Wu Z Tt 1 [_,_] Y9 (sM (sbN (qby (sb0 _))))<|qal 7 V<|Wu Z Tt 0 [_,_,_] Y9 (sM (sbN (qby (sb0 _))))<|qad V ?_
     refine qaa (MidN.mk (β12,β13,M1,.slice Bg mg eg,.slice Bf mf ef,bm) [] (h9.t h10|>.t h11|>.t h12|>.t h13) (.c2 Z Z sk) (List.Perm.trans (List.Perm.trans (qac _ 0) (qac _ 1)) (.cons _ (.cons _ (List.perm_append_comm_assoc [_,_,_,_] M1 L)))) ⟨⟨_,_,_,Z,hBG.le (h11.t h12|>.t h13)⟩,⟨_,_,_,Z,hBF.le (h11.t h12|>.t h13)⟩,hM.le (h12.t h13)⟩)
    refine qao Z Tt Z [_,_,_] Z Z ?_
    intro β14 s14 h14
    refine qal 4 V<|qao Z Tt Z [_,_] Z Z ?_
    intro β15 s15 h15
    refine qal 6 V<|Wu Z Tt 0 [_,_] Y9 (sM (sbN (qby (sb0 _))))<|qal 7 V<|Wu Z Tt 1 [_,_,_] Y9 (sM (sbN (qby (sb0 _))))<|qad V ?_
    refine qaa (MidN.mk (β15,β14,M1,.slice Bg mg eg,.slice Bf mf ef,bm) [] (h9.t h10|>.t h11|>.t h14|>.t h15) (.c2 Z Z sk) (List.Perm.trans (List.Perm.trans (qac _ 1) (qac _ 1)) (.cons _ (.cons _ (List.perm_append_comm_assoc [_,_,_,_] M1 L)))) ⟨⟨_,_,_,Z,hBG.le (h11.t h14|>.t h15)⟩,⟨_,_,_,Z,hBF.le (h11.t h14|>.t h15)⟩,hM.le (h14.t h15)⟩)
   ·
    refine qao Z Tt Z [_,_] Z Z ?_
    intro β16 s16 h16
    refine qb9 3 5 V ?_ ?_
    ·
     refine Jb Z Tt Z Z Z (qca D _ _ d p Ag _ ng cg nf cf (hGl.le (h1.t h2|>.t h3|>.t h4|>.t h5|>.t h9|>.t h10|>.t h16)) (hFn.le (h1.t h2|>.t h3|>.t h4|>.t h5|>.t h9|>.t h10|>.t h16)) hND) ?_
     rintro _ _ s17 h17 ⟨rfl,bm,rfl,hM⟩
     refine ⟨fun _ _ h=>h,?_⟩
     refine qal 5 V<|qao Z Tt Z [_,_,_] Z Z ?_
     intro β18 s18 h18
     refine qal 6 V<|Wu Z Tt 1 [_,_] Y9 (sM (sbN (qby (sb0 _))))<|qal 7 V<|Wu Z Tt 0 [_,_,_] Y9 (sM (sbN (qby (sb0 _))))<|qad V ?_
     refine qaa (MidN.mk (β16,β18,M1,.slice Bg mg eg,.slice Bf mf ef,bm) [] (h9.t h10|>.t h16|>.t h17|>.t h18) (.c2 Z Z sk) (List.Perm.trans (List.Perm.trans (qac _ 0) (qac _ 1)) (.cons _ (.cons _ (List.perm_append_comm_assoc [_,_,_,_] M1 L)))) ⟨⟨_,_,_,Z,hBG.le (h16.t h17|>.t h18)⟩,⟨_,_,_,Z,hBF.le (h16.t h17|>.t h18)⟩,hM.le h18⟩)
    refine qao Z Tt Z [_,_,_] Z Z ?_
    intro β19 s19 h19
    refine qal 3 V<|Jb Z Tt Z Z Z (qca D _ _ d p Ag _ ng cg nf cf (hGl.le (h1.t h2|>.t h3|>.t h4|>.t h5|>.t h9|>.t h10|>.t h16|>.t h19)) (hFn.le (h1.t h2|>.t h3|>.t h4|>.t h5|>.t h9|>.t h10|>.t h16|>.t h19)) hND) ?_
    rintro _ _ s20 h20 ⟨rfl,bm,rfl,hM⟩
    refine ⟨fun _ _ h=>h,?_⟩
    refine qal 6 V<|Wu Z Tt 1 [_,_] Y9 (sM (sbN (qby (sb0 _))))<|qal 7 V<|Wu Z Tt 0 [_,_,_] Y9 (sM (sbN (qby (sb0 _))))<|qad V ?_
    refine qaa (MidN.mk (β16,β19,M1,.slice Bg mg eg,.slice Bf mf ef,bm) [] (h9.t h10|>.t h16|>.t h19|>.t h20) (.c2 Z Z sk) (List.Perm.trans (List.Perm.trans (qac _ 0) (qac _ 1)) (.cons _ (.cons _ (List.perm_append_comm_assoc [_,_,_,_] M1 L)))) ⟨⟨_,_,_,Z,hBG.le (h16.t h19|>.t h20)⟩,⟨_,_,_,Z,hBF.le (h16.t h19|>.t h20)⟩,hM.le (Lr D)⟩)
   refine qao Z Tt Z [_,_,_] Z Z ?_
   intro β21 s21 h21
   refine qb9 3 4 V ?_ ?_
   ·
    refine Jb Z Tt Z Z Z (qca D _ _ d p Ag _ ng cg nf cf (hGl.le (h1.t h2|>.t h3|>.t h4|>.t h5|>.t h9|>.t h10|>.t h21)) (hFn.le (h1.t h2|>.t h3|>.t h4|>.t h5|>.t h9|>.t h10|>.t h21)) hND) ?_
    rintro _ _ s22 h22 ⟨rfl,bm,rfl,hM⟩
    refine ⟨fun _ _ h=>h,?_⟩
    refine qal 4 V<|qao Z Tt Z [_,_] Z Z ?_
    intro β23 s23 h23
    refine qal 6 V<|Wu Z Tt 0 [_,_] Y9 (sM (sbN (qby (sb0 _))))<|qal 7 V<|Wu Z Tt 1 [_,_,_] Y9 (sM (sbN (qby (sb0 _))))<|qad V ?_
    refine qaa (MidN.mk (β23,β21,M1,.slice Bg mg eg,.slice Bf mf ef,bm) [] (h9.t h10|>.t h21|>.t h22|>.t h23) (.c2 Z Z sk) (List.Perm.trans (List.Perm.trans (qac _ 1) (qac _ 1)) (.cons _ (.cons _ (List.perm_append_comm_assoc [_,_,_,_] M1 L)))) ⟨⟨_,_,_,Z,hBG.le (h21.t h22|>.t h23)⟩,⟨_,_,_,Z,hBF.le (h21.t h22|>.t h23)⟩,hM.le h23⟩)
   refine qao Z Tt Z [_,_] Z Z ?_
   intro β24 s24 h24
   refine qal 3 V<|Jb Z Tt Z Z Z (qca D _ _ d p Ag _ ng cg nf cf (hGl.le (h1.t h2|>.t h3|>.t h4|>.t h5|>.t h9|>.t h10|>.t h21|>.t h24)) (hFn.le (h1.t h2|>.t h3|>.t h4|>.t h5|>.t h9|>.t h10|>.t h21|>.t h24)) hND) ?_
   rintro _ _ s25 h25 ⟨rfl,bm,rfl,hM⟩
   refine ⟨fun _ _ h=>h,?_⟩
   refine qal 6 V<|Wu Z Tt 0 [_,_] Y9 (sM (sbN (qby (sb0 _))))<|qal 7 V<|Wu Z Tt 1 [_,_,_] Y9 (sM (sbN (qby (sb0 _))))<|qad V ?_
   refine qaa (MidN.mk (β24,β21,M1,.slice Bg mg eg,.slice Bf mf ef,bm) [] (h9.t h10|>.t h21|>.t h24|>.t h25) (.c2 Z Z sk) (List.Perm.trans (List.Perm.trans (qac _ 1) (qac _ 1)) (.cons _ (.cons _ (List.perm_append_comm_assoc [_,_,_,_] M1 L)))) ⟨⟨_,_,_,Z,hBG.le (h21.t h24|>.t h25)⟩,⟨_,_,_,Z,hBF.le (h21.t h24|>.t h25)⟩,hM.le (Lr D)⟩)
  ·
   refine qao Z Tt Z [_,_] Z Z ?_
   intro β26 s26 h26
   refine qb9 1 5 V ?_ ?_
   ·
    refine Jb Z Tt Z Z Z (AC.mid [_,_,_,_,_] [] L (qdq D _ _ d p Ag _ ng cg nf cf (hGl.le (h1.t h2|>.t h3|>.t h4|>.t h5|>.t h9|>.t h26)) (hFn.le (h1.t h2|>.t h3|>.t h4|>.t h5|>.t h9|>.t h26)) hV)) ?_
    rintro _ _ s27 h27 ⟨M1,rfl,Bg,mg,eg,Bf,mf,ef,rfl,hBG,hBF⟩
    refine ⟨(fun x _ h=>qgz (X:=[_,_,_,_,_]) (M:=M1) (Y:=L) h),?_⟩
    simp only [cQ9,nQ9]
    refine qb9 3 5 V ?_ ?_
    ·
     refine Jb Z Tt Z Z Z (qca D _ _ d p Ag _ ng cg nf cf (hGl.le (h1.t h2|>.t h3|>.t h4|>.t h5|>.t h9|>.t h26|>.t h27)) (hFn.le (h1.t h2|>.t h3|>.t h4|>.t h5|>.t h9|>.t h26|>.t h27)) hND) ?_
     rintro _ _ s28 h28 ⟨rfl,bm,rfl,hM⟩
     refine ⟨fun _ _ h=>h,?_⟩
     refine qal 5 V<|qao Z Tt Z [_,_,_] Z Z ?_
     intro β29 s29 h29
     refine qal 6 V<|Wu Z Tt 1 [_,_] Y9 (sM (sbN (qby (sb0 _))))<|qal 7 V<|Wu Z Tt 0 [_,_,_] Y9 (sM (sbN (qby (sb0 _))))<|qad V ?_
     refine qaa (MidN.mk (β26,β29,M1,.slice Bg mg eg,.slice Bf mf ef,bm) [] (h9.t h26|>.t h27|>.t h28|>.t h29) (.c2 Z Z sk) (List.Perm.trans (List.Perm.trans (qac _ 0) (qac _ 1)) (.cons _ (.cons _ (List.perm_append_comm_assoc [_,_,_,_] M1 L)))) ⟨⟨_,_,_,Z,hBG.le (h28.t h29)⟩,⟨_,_,_,Z,hBF.le (h28.t h29)⟩,hM.le h29⟩)
    refine qao Z Tt Z [_,_,_] Z Z ?_
    intro β30 s30 h30
    refine qal 3 V<|Jb Z Tt Z Z Z (qca D _ _ d p Ag _ ng cg nf cf (hGl.le (h1.t h2|>.t h3|>.t h4|>.t h5|>.t h9|>.t h26|>.t h27|>.t h30)) (hFn.le (h1.t h2|>.t h3|>.t h4|>.t h5|>.t h9|>.t h26|>.t h27|>.t h30)) hND) ?_
    rintro _ _ s31 h31 ⟨rfl,bm,rfl,hM⟩
    refine ⟨fun _ _ h=>h,?_⟩
    refine qal 6 V<|Wu Z Tt 1 [_,_] Y9 (sM (sbN (qby (sb0 _))))<|qal 7 V<|Wu Z Tt 0 [_,_,_] Y9 (sM (sbN (qby (sb0 _))))<|qad V ?_
    refine qaa (MidN.mk (β26,β30,M1,.slice Bg mg eg,.slice Bf mf ef,bm) [] (h9.t h26|>.t h27|>.t h30|>.t h31) (.c2 Z Z sk) (List.Perm.trans (List.Perm.trans (qac _ 0) (qac _ 1)) (.cons _ (.cons _ (List.perm_append_comm_assoc [_,_,_,_] M1 L)))) ⟨⟨_,_,_,Z,hBG.le (h30.t h31)⟩,⟨_,_,_,Z,hBF.le (h30.t h31)⟩,hM.le (Lr D)⟩)
   refine qao Z Tt Z [_,_,_] Z Z ?_
   intro β32 s32 h32
   refine qal 1 V<|Jb Z Tt Z Z Z (AC.mid [_,_,_,_,_,_] [] L (qdq D _ _ d p Ag _ ng cg nf cf (hGl.le (h1.t h2|>.t h3|>.t h4|>.t h5|>.t h9|>.t h26|>.t h32)) (hFn.le (h1.t h2|>.t h3|>.t h4|>.t h5|>.t h9|>.t h26|>.t h32)) hV)) ?_
   rintro _ _ s33 h33 ⟨M1,rfl,Bg,mg,eg,Bf,mf,ef,rfl,hBG,hBF⟩
   refine ⟨(fun x _ h=>qgz (X:=[_,_,_,_,_,_]) (M:=M1) (Y:=L) h),?_⟩
   simp only [cQ9,nQ9]
   refine qal 3 V<|Jb Z Tt Z Z Z (qca D _ _ d p Ag _ ng cg nf cf (hGl.le (h1.t h2|>.t h3|>.t h4|>.t h5|>.t h9|>.t h26|>.t h32|>.t h33)) (hFn.le (h1.t h2|>.t h3|>.t h4|>.t h5|>.t h9|>.t h26|>.t h32|>.t h33)) hND) ?_
   rintro _ _ s34 h34 ⟨rfl,bm,rfl,hM⟩
   refine ⟨fun _ _ h=>h,?_⟩
   refine qal 6 V<|Wu Z Tt 1 [_,_] Y9 (sM (sbN (qby (sb0 _))))<|qal 7 V<|Wu Z Tt 0 [_,_,_] Y9 (sM (sbN (qby (sb0 _))))<|qad V ?_
   refine qaa (MidN.mk (β26,β32,M1,.slice Bg mg eg,.slice Bf mf ef,bm) [] (h9.t h26|>.t h32|>.t h33|>.t h34) (.c2 Z Z sk) (List.Perm.trans (List.Perm.trans (qac _ 0) (qac _ 1)) (.cons _ (.cons _ (List.perm_append_comm_assoc [_,_,_,_] M1 L)))) ⟨⟨_,_,_,Z,hBG.le h34⟩,⟨_,_,_,Z,hBF.le h34⟩,hM.le (Lr D)⟩)
  refine qao Z Tt Z [_,_,_] Z Z ?_
  intro β35 s35 h35
  refine qb9 1 4 V ?_ ?_
  ·
   refine Jb Z Tt Z Z Z (AC.mid [_,_,_,_,_] [] L (qdq D _ _ d p Ag _ ng cg nf cf (hGl.le (h1.t h2|>.t h3|>.t h4|>.t h5|>.t h9|>.t h35)) (hFn.le (h1.t h2|>.t h3|>.t h4|>.t h5|>.t h9|>.t h35)) hV)) ?_
   rintro _ _ s36 h36 ⟨M1,rfl,Bg,mg,eg,Bf,mf,ef,rfl,hBG,hBF⟩
   refine ⟨(fun x _ h=>qgz (X:=[_,_,_,_,_]) (M:=M1) (Y:=L) h),?_⟩
   simp only [cQ9,nQ9]
   refine qb9 3 4 V ?_ ?_
   ·
    refine Jb Z Tt Z Z Z (qca D _ _ d p Ag _ ng cg nf cf (hGl.le (h1.t h2|>.t h3|>.t h4|>.t h5|>.t h9|>.t h35|>.t h36)) (hFn.le (h1.t h2|>.t h3|>.t h4|>.t h5|>.t h9|>.t h35|>.t h36)) hND) ?_
    rintro _ _ s37 h37 ⟨rfl,bm,rfl,hM⟩
    refine ⟨fun _ _ h=>h,?_⟩
    refine qal 4 V<|qao Z Tt Z [_,_] Z Z ?_
    intro β38 s38 h38
    refine qal 6 V<|Wu Z Tt 0 [_,_] Y9 (sM (sbN (qby (sb0 _))))<|qal 7 V<|Wu Z Tt 1 [_,_,_] Y9 (sM (sbN (qby (sb0 _))))<|qad V ?_
    refine qaa (MidN.mk (β38,β35,M1,.slice Bg mg eg,.slice Bf mf ef,bm) [] (h9.t h35|>.t h36|>.t h37|>.t h38) (.c2 Z Z sk) (List.Perm.trans (List.Perm.trans (qac _ 1) (qac _ 1)) (.cons _ (.cons _ (List.perm_append_comm_assoc [_,_,_,_] M1 L)))) ⟨⟨_,_,_,Z,hBG.le (h37.t h38)⟩,⟨_,_,_,Z,hBF.le (h37.t h38)⟩,hM.le h38⟩)
   refine qao Z Tt Z [_,_] Z Z ?_
   intro β39 s39 h39
   refine qal 3 V<|Jb Z Tt Z Z Z (qca D _ _ d p Ag _ ng cg nf cf (hGl.le (h1.t h2|>.t h3|>.t h4|>.t h5|>.t h9|>.t h35|>.t h36|>.t h39)) (hFn.le (h1.t h2|>.t h3|>.t h4|>.t h5|>.t h9|>.t h35|>.t h36|>.t h39)) hND) ?_
   rintro _ _ s40 h40 ⟨rfl,bm,rfl,hM⟩
   refine ⟨fun _ _ h=>h,?_⟩
   refine qal 6 V<|Wu Z Tt 0 [_,_] Y9 (sM (sbN (qby (sb0 _))))<|qal 7 V<|Wu Z Tt 1 [_,_,_] Y9 (sM (sbN (qby (sb0 _))))<|qad V ?_
   refine qaa (MidN.mk (β39,β35,M1,.slice Bg mg eg,.slice Bf mf ef,bm) [] (h9.t h35|>.t h36|>.t h39|>.t h40) (.c2 Z Z sk) (List.Perm.trans (List.Perm.trans (qac _ 1) (qac _ 1)) (.cons _ (.cons _ (List.perm_append_comm_assoc [_,_,_,_] M1 L)))) ⟨⟨_,_,_,Z,hBG.le (h39.t h40)⟩,⟨_,_,_,Z,hBF.le (h39.t h40)⟩,hM.le (Lr D)⟩)
  refine qao Z Tt Z [_,_] Z Z ?_
  intro β41 s41 h41
  refine qal 1 V<|Jb Z Tt Z Z Z (AC.mid [_,_,_,_,_,_] [] L (qdq D _ _ d p Ag _ ng cg nf cf (hGl.le (h1.t h2|>.t h3|>.t h4|>.t h5|>.t h9|>.t h35|>.t h41)) (hFn.le (h1.t h2|>.t h3|>.t h4|>.t h5|>.t h9|>.t h35|>.t h41)) hV)) ?_
  rintro _ _ s42 h42 ⟨M1,rfl,Bg,mg,eg,Bf,mf,ef,rfl,hBG,hBF⟩
  refine ⟨(fun x _ h=>qgz (X:=[_,_,_,_,_,_]) (M:=M1) (Y:=L) h),?_⟩
  simp only [cQ9,nQ9]
  refine qal 3 V<|Jb Z Tt Z Z Z (qca D _ _ d p Ag _ ng cg nf cf (hGl.le (h1.t h2|>.t h3|>.t h4|>.t h5|>.t h9|>.t h35|>.t h41|>.t h42)) (hFn.le (h1.t h2|>.t h3|>.t h4|>.t h5|>.t h9|>.t h35|>.t h41|>.t h42)) hND) ?_
  rintro _ _ s43 h43 ⟨rfl,bm,rfl,hM⟩
  refine ⟨fun _ _ h=>h,?_⟩
  refine qal 6 V<|Wu Z Tt 0 [_,_] Y9 (sM (sbN (qby (sb0 _))))<|qal 7 V<|Wu Z Tt 1 [_,_,_] Y9 (sM (sbN (qby (sb0 _))))<|qad V ?_
  refine qaa (MidN.mk (β41,β35,M1,.slice Bg mg eg,.slice Bf mf ef,bm) [] (h9.t h35|>.t h41|>.t h42|>.t h43) (.c2 Z Z sk) (List.Perm.trans (List.Perm.trans (qac _ 1) (qac _ 1)) (.cons _ (.cons _ (List.perm_append_comm_assoc [_,_,_,_] M1 L)))) ⟨⟨_,_,_,Z,hBG.le h43⟩,⟨_,_,_,Z,hBF.le h43⟩,hM.le (Lr D)⟩)
 intro g s8 h8 I8
 simp only [cQ9,nQ9]
 obtain ⟨b5,b6,M1,v1,v2,bm⟩:=g
 obtain ⟨⟨Bg,mg,eg,q1,hBG⟩,⟨Bf,mf,ef,q2,css,Ms0,hM1,hRw,hA0⟩,hM⟩:=I8
 simp only at q1 q2 hBG hRw hM hA0 hM1
 subst q1 q2
 dsimp only
 have hmf:mf=nf:=by rw [hRw.1,hA0.len.2];exact hn2.symm
 obtain rfl:nf=mf:=hmf.symm
 have hcf1:=hRw.2.1
 have hcf2:=hRw.2.2.1
 refine qeE (.cons _ (.cons _ (List.perm_append_comm_assoc M1 [_,_,_,_] L))) ?_
 simp only [cQ9,nQ9]
 refine Zs<|Sr<|Wb Y5<|Wl 0 Y6<|Ws Y4<|Zqm Z Z<|Nt<|Zp<|?_
 refine qat (γ:=Nat×Hl) (fun g=>[(1,_),(2,_),(3,_),(5,_),(6,_),(22,_),(23,.int .i64 (g.1:Int))]) (fun g=>_::_::_::_::_::_::(g.2++L)) (fun g tw=>Le D s8 tw∧(g.1≤nf∧∃ Ms,g.2=List.flatten Ms∧All3 (FO d tw) Ms ((p.funcs.take g.1).map (fdF p)++p.funcs.drop g.1) css)) (fun g=>nf - g.1) (fun _ _ _ h hl=>⟨h.1.trans hl,⟨h.2.1,by obtain ⟨Ms,q2,q3⟩:=h.2.2;exact ⟨Ms,q2,q3.mono fun _ _ _ k=>k.le hl⟩⟩⟩) (0,M1) (.c6 Z Z Z Z Z Z (.cons Z (.nil _))) Z ⟨Le.refl _,⟨Nat.zero_le _,Ms0,hM1,by simpa using hA0.mono fun _ _ _ k=>k.le (Lr D)⟩⟩ ?_
 intro g s44 I44
 obtain ⟨k,Fo⟩:=g
 obtain ⟨hk0,Ms,hF,hA3⟩:=I44.2
 simp only at hk0 hF hA3
 dsimp only
 refine Sr<|qba Z Z Z<|Nt<|Zs<|?_
 refine qab Z (fun c45=>?_) (fun c45=>?_)
 ·
  have hk:k < nf:=by omega
  obtain ⟨b,off,x,B1,m1,d1,B2,m2,d2,B3,m3,d3,rfl,hx,hcx,hpx,hlx,hbx,hnl⟩:=Fncs.at_ (hFn.le (h1.t h2|>.t h3|>.t h4|>.t h5|>.t h8|>.t I44.1)) hk
  have hfx:=hVf x (List.mem_of_getElem? hx)
  obtain ⟨us1,u,us2,vs1,v,vs2,ws1,w0,ws2,rfl,hvv,hcs,hvl,hxw,hA1,hA2⟩:=hA3.at_ (k:=k) (by rw [List.length_append,List.length_map,List.length_take,List.length_drop];omega)
  obtain ⟨hvs1,hvx,hvs2⟩:=qje hvv hvl hx
  obtain rfl:x=v:=hvx.symm
  obtain ⟨C1,r1,e1,C2,r2,e2,C3,r3,e3,hw0,hx1,hx2,hxB,_⟩:=hxw
  have hw:css[k]?=some w0:=by
    have:=hA1.len
    rw [hcs,List.getElem?_append_right O,show k - ws1.length=0 by omega];rfl
  obtain ⟨b9,off9,rfl,hcr⟩:=hRw.at_ hw
  rw [hw0] at hcr
  obtain ⟨F1,hF1⟩:∃ F,F=us1.flatten:=⟨_,rfl⟩
  obtain ⟨F2,hF2⟩:∃ F,F=us2.flatten:=⟨_,rfl⟩
  have hFF:Fo=F1++(u++F2):=by rw [hF,hF1,hF2];simp
  subst hFF
  rw [show (F1++(u++F2))++L=F1++(u++(F2++L)) from by simp only [List.append_assoc]]
  refine Zk<|Zt<|Zs<|Zp<|Sr<|Zqm Z Z<|At Z Z<|qa1 qag 14 Z 6 ?_
  intro s46 h46
  refine za 0 Z (qan 1 [_,_,_] Z Z Z Z Z) Z<|za 1 Z (We Y4) Z<|za 2 Z (Wd 5 Y5) Z<|za 3 Z (qar Z) Z<|za 4 Z (qap Z Z Z Z Z Z hk) Z<|za 5 Z (qas Z Z Z (hcx.le h46) Z) Z<|za 6 Z (qam [(_,_),(_,_)] [_,_,_,_,_,_,_] Z Z Z Z Z Z) Z<|za 7 Z (We Y4) Z<|za 8 Z (Wd 0 Y5) Z<|za 9 Z (qar Z) Z<|za 10 Z (qap Z Z Z Z Z Z hk) Z<|za 11 Z (qbf Z Z Z Z) Z<|za 12 Z (qaC 3 Z Z Z (hcr.le (I44.1.t h46)) Z) Z<|qal 13 V ?_
  refine Jb Z Tt Z Z Z (AC.mid (_::_::_::_::_::_::F1) u (F2++L) (fds D d _ _ bm Ag _ ng cg nf cf p (hM.le (I44.1.t h46)) (hGl.le (h1.t h2|>.t h3|>.t h4|>.t h5|>.t h8|>.t I44.1|>.t h46)) x B1 B2 B3 m1 d1 m2 d2 m3 d3 (hpx.le h46) (hlx.le h46) u C3 r3 e3 x.body 1 (hxB.le h46) hfx.2.2.2.2.1)) ?_
  rintro _ _ s47 h47 ⟨u2,rfl,rfl,hu2⟩
  refine ⟨(fun x hx _=>qwL hx),?_⟩
  simp only [List.cons_append]
  rw [show F1++(u2++(F2++L))=(F1++(u2++F2))++L from by simp only [List.append_assoc]]
  refine qad V<|Zb<|Zt<|Zr<|qaG Z Z Z (w64 O O)<|Zqm Z Z<|Zn<|?_
  refine qaa ⟨(k+1,F1++(u2++F2)),[],kp,Z,⟨(I44.1.t h46|>.t h47),⟨by simp only;omega,us1++u2::us2,by simp [hF1,hF2],by simp only;rw [qeJ hx,← hvs1,← hvs2,hcs];exact (hA1.mono fun _ _ _ k=>k.le (h46.t h47)).app (.cons ⟨C1,r1,e1,C2,r2,e2,C3,r3,e3,hw0,hx1.le (h46.t h47),hx2.le (h46.t h47),hu2.le (Lr D),hnl⟩ (hA2.mono fun _ _ _ k=>k.le (h46.t h47)))⟩⟩,Oz⟩
 obtain rfl:nf=k:=by omega
 rw [List.take_of_length_le O,List.drop_eq_nil_of_le O,List.append_nil] at hA3
 refine Zl<|Zv<|Zv<|Zd<|Zt<|Zs<|Zs<|qbs [_,_,_,_,_,_] Fo _ ?_
 intro s48 h48 hpub48
 simp only [cQ9,nQ9]
 have hFN:Fncs d s48 Bf nf ef (p.funcs.map (fdF p)):=FOs.pub ⟨css,Ms,hF,hRw.le (I44.1.t h48),hA3.mono fun _ _ _ k=>k.le h48⟩ hpub48
 refine Zr<|qaf (qan 0 [_,_] Z Z Z Z Z) Z<|Jc Z Z Z (qf5 D _ _ (hG.le (h1.t h2|>.t h3|>.t h4|>.t h5|>.t h8|>.t I44.1|>.t h48)) d (qkG p) Bg Bf mg eg nf ef (hBG.le (I44.1.t h48)) (hFN.le (Lr D))) ?_
 rintro _ _ s49 h49 ⟨rfl,rfl⟩
 refine qae Z [_,_] Z Z ?_
 intro β50 s50 h50
 refine Wt 0 [_,_] Y9<|Nt<|Sr<|qaf (qan 0 [_,_] Z Z Z Z Z) Z<|qaf (qam [] [_,_] Z Z Z Z Z Z) Z<|qaf (qdY Z Z (qbX _ _ _ _)) Z<|Nt<|?_
 refine qaK Z (fun c51=>?_) (fun c51=>?_)
 ·
  have hE:qfp p=(⟨[],[]⟩,qd2 (qkG p)):=(if_neg g14).trans (if_pos (fun h=>c51 (by rw [qjk h];exact ⟨rfl,rfl⟩)))
  refine Zs<|qcJ qag 4 Z [5,4] (by intro x hx;exact qbo hx) ?_
  intro s52 h52
  refine za 0 Z (qam [] [_,_] Z Z Z Z Z Z) Z<|za 1 Z (qan 0 [_,_] Z Z Z Z Z) Z<|qal 2 V<|Wu Z Tt 5 [_,_] Y9 (sM (qby (sbN (sbY (sbE _)))))<|qal 3 V<|Wu Z Tt 4 [_,_] Y9 (sM (qby (sbN (sbY (sbE _)))))<|qad V<|Zt<|Zo<|Zu<|?_
  refine rR [_,_,_,_,_,_,_] L (.agg (us:=[_,_]) 5 Z Z Z Z Z (.agg (us:=[_,_]) 4 Z Z Z Z Z (.nil))) Z (h1.t h2|>.t h3|>.t h4|>.t h5|>.t h8|>.t I44.1|>.t h48|>.t h49|>.t h50|>.t h52) fun _ hS2=>?_
  rw [hE]
  exact ⟨rfl,none,0,0,none,0,0,rfl,fun s2 hs2=>⟨qhK _,qhE _ _⟩⟩
 have g45:=c51
 have hE:qfp p=(qkG p,(0,0)):=(if_neg g14).trans (if_neg (fun h=>h g45.1))
 refine Zk<|Zt<|Sr<|qaf (qan 1 [_,_] Z Z Z Z Z) Z<|qaf (qam [] [_,_] Z Z Z Z Z Z) Z<|Wt 5 [_,_] Y9<|Wt 4 [_,_] Y9<|Nt<|Zo<|?_
 refine rR [_,_,_,_,_,_,_] L (.agg (us:=[_,_]) 5 Z Z Z Z Z (.agg (us:=[_,_]) 4 Z Z Z Z Z (.nil))) Z (h1.t h2|>.t h3|>.t h4|>.t h5|>.t h8|>.t I44.1|>.t h48|>.t h49|>.t h50) fun _ hS2=>?_
 rw [hE]
 exact ⟨rfl,_,_,_,_,_,_,rfl,fun s2 hs2=>⟨hBG.le (I44.1.t h48|>.t h49|>.t h50|>.t (hS2.t hs2)),hFN.le (h49.t h50|>.t (hS2.t hs2))⟩⟩
theorem quk(D:Nat)(L:Hl)(s:World)(hG:GP s)(d:Nat)(p:Prg)(Ag Af:Option Addr)(ng cg nf cf:Nat)(hGl:Glos s Ag ng cg p.globals)(hFn:Fncs d s Af nf cf p.funcs):AC Tryz.prog D 17 [.agg #[.slice Ag ng cg,.slice Af nf cf]] L s fun v L' s'=>L=L'∧∃ Bg mg eg Bf mf ef,v=.tuple #[.agg #[.slice Bg mg eg,.slice Bf mf ef],.agg #[.int .i64 (qfp p).2.1,.int .i64 (qfp p).2.2]]∧Glos s' Bg mg eg (qfp p).1.globals∧Fncs d s' Bf mf ef (qfp p).1.funcs:=(qnR D L s hG d p Ag Af ng cg nf cf hGl hFn).mono fun v L' s' _ ⟨h1,Bg,mg,eg,Bf,mf,ef,h2,h3⟩=>⟨h1,Bg,mg,eg,Bf,mf,ef,h2,h3 _ (Le.refl _)⟩
end Go.Proofs.YtpdnijphccdiiaaGreatDoor
namespace Go.Proofs.YtpdnijphccdiiaaGreatDoor
open Go Go.FL
def OPp(op x y:Int):Option Int:=if (qfk op y).1=0 then some (opP op x y) else none
def Far(m:MS){α:Type}:ER α→Prop
 | .ok _ m2=>∃ w,m2.out=m.out++w
 | .fin m2 _ _=>∃ w,m2.out=m.out++w
 | .out=>True
def Fo(d:Nat){α:Type}(r r':ER α):Prop:=match r with
 | .out=>True
 | .ok a m=>∃ e,d≤e∧r'=.ok a (qwp e m)
 | .fin m st cd=>(st≠0∧∃ e,d≤e∧r'=.fin (qwp e m) st cd)∨(st=0∧Far m r')
end Go.Proofs.YtpdnijphccdiiaaGreatDoor
namespace Go.FL
open Go Go.RowKit
section
variable{P:Program}{TT:qaV}{D n:Nat}{Q:qbD}{fr:Fr}{L K:Hl}{s s0:World}{ops:Array Oper}{rest:List Oper}{d ty:Nat}{pos:String}{af:Array Edge}{v:Value}{g:Option (Nat×Bool)}{fuel:Nat}{listed:Array Bool}
def AP(P:Program)(D:Nat)(f:FuncId)(args:List Value)(L:Hl)(s:World)(R:Value→Hl→World→Prop)(X:List PanicEntry→Hl→World→Prop):Prop:=
 qij P f∧(OKL D L s→Calls P f args.toArray (fill L s) fun e w'=>∃ L' s',w'=fill L' s'∧OKL D L' s'∧Le D s s'∧((∃ v,e=.returned v∧R v L' s')∨∃ ch,e=.panicked ch∧X ch L' s'))
theorem AP.mono{f:FuncId}{args:List Value}{R R':Value→Hl→World→Prop}{X X':List PanicEntry→Hl→World→Prop}(h:AP P D f args L s R X)(hr:∀ v L' s',Le D s s'→R v L' s'→R' v L' s')(hx:∀ ch L' s',Le D s s'→X ch L' s'→X' ch L' s'):AP P D f args L s R' X':=
 ⟨h.1,fun ho=>(h.2 ho).mono fun _ _ ⟨L',s',h2,h3,h4,h5⟩=>⟨L',s',h2,h3,h4,h5.imp (fun ⟨v,a,b⟩=>⟨v,a,hr _ _ _ h4 b⟩) fun ⟨ch,a,b⟩=>⟨ch,a,hx _ _ _ h4 b⟩⟩⟩
theorem qa3{f:FuncId}{x:Operand}{xs:List Operand}{first captured vs:List Value}{ts:Array TypeId}{R:Value→Hl→World→Prop}{X:List PanicEntry→Hl→World→Prop}(hx:lk fr x=some (.func (.func f) first.toArray captured.toArray))(hv:lks fr xs=some vs)
  (hd:Nat.blt d n=true) (h:AP P D f (first++vs++captured) L s R X) (kx:∀ ch L' s',Le D s s'→X ch L' s'→∀ fr',Q (.panic ch) fr' L' s') (k:∀ v L' s',Le D s s'→R v L' s'→JO P TT D n ops Q rest ((d,v)::fr) L' s') :
  JO P TT D n ops Q (⟨some d,.call { callee:=.value x,args:=xs.toArray,argTypes:=ts },ty,pos,af,none⟩::rest) fr L s:=fun hT a hr ho=>by
 obtain ⟨⟨fn,h1,h2,h3⟩,hc⟩:=h
 have hρ:∀ x v,lk fr x=some v→a.eval x=v:=fun x v hx=>hr.ev hx
 simp only [wpList,Region.wanted,if_true]
 refine .inl ?_
 have hrun:(execOp a.eval ⟨some d,.call { callee:=.value x,args:=xs.toArray,argTypes:=ts },ty,pos,af,none⟩).run P (fill L s)=.ok (.enter f (first++vs++captured).toArray) (fill L s):=by
  have h2':¬ fn.name = "runtime.NumGoroutine" := by simpa using h2
  have h3':¬ fn.body=none:=by intro e;simp [e] at h3
  simp [execOp,resolve,Deferred.ofValue,invoke,callFunc,hρ x _ hx,qd0 hρ hv,h1,h2',h3']
 simp only [Oper.wp,hrun,Oper.upon]
 refine (hc ho).mono ?_
 rintro e w' ⟨L',s',rfl,h4,h5,h6⟩
 rcases h6 with ⟨v,rfl,h6⟩ | ⟨ch,rfl,h6⟩
 · exact k v L' s' h5 h6 hT _ (hr.put hd v) h4
 · exact ⟨fr,L',s',hr,h4,rfl,kx _ _ _ h5 h6 fr⟩
theorem qb6{i:Nat}{f:FuncId}{x:Operand}{xs:List Operand}{first captured vs:List Value}{ts:Array TypeId}{R:Value→Hl→World→Prop}{X:List PanicEntry→Hl→World→Prop}(hi:ops[i]?=some ⟨some d,.call { callee:=.value x,args:=xs.toArray,argTypes:=ts },ty,pos,af,g⟩)(hg:GOK ops fr g)
    (hx:lk fr x=some (.func (.func f) first.toArray captured.toArray)) (hv:lks fr xs=some vs) (hd:Nat.blt d n=true) (h:AP P D f (first++vs++captured) L s R X) (kx:∀ ch L' s',Le D s s'→X ch L' s'→∀ fr',Q (.panic ch) fr' L' s')
    (k:∀ v L' s',Le D s s'→R v L' s'→(∀ x∈K,x∈L→x∈L')∧JA P TT D n ops Q K s0 fuel (listed.setIfInBounds i true) ((d,v)::fr) L' s') :
    JB P TT D n ops Q K s0 fuel listed i fr L s:=fun hT a hf ho hl hK=>by
  obtain ⟨⟨fn,h1,h2,h3⟩,hc⟩:=h
  have hρ:∀ x v,lk fr x=some v→a.eval x=v:=fun x v hx=>hf.ev hx
  simp only [wpOp,hi,hg.wanted hf,if_true]
  refine .inl ?_
  have hrun:(execOp a.eval ⟨some d,.call { callee:=.value x,args:=xs.toArray,argTypes:=ts },ty,pos,af,g⟩).run P (fill L s)=.ok (.enter f (first++vs++captured).toArray) (fill L s):=by
    have h2':¬ fn.name = "runtime.NumGoroutine" := by simpa using h2
    have h3':¬ fn.body=none:=by intro e;simp [e] at h3
    simp [execOp,resolve,Deferred.ofValue,invoke,callFunc,hρ x _ hx,qd0 hρ hv,h1,h2',h3']
  simp only [Oper.wp,hrun,Oper.upon]
  refine (hc ho).mono ?_
  rintro e w' ⟨L',s',rfl,h4,h5,h6⟩
  rcases h6 with ⟨v,rfl,h6⟩ | ⟨ch,rfl,h6⟩
  · obtain ⟨k1,k2⟩:=k v L' s' h5 h6
    have hK2:∀ x∈K,x∈L':=fun x hx=>k1 x hx (hK x hx)
    exact ⟨⟨L',s',rfl,h4,hl.trans h5,hK2⟩,k2 hT _ (hf.put hd v) h4 (hl.trans h5) hK2⟩
  · exact ⟨hf.bare,L',s',h4,rfl,kx _ _ _ h5 h6⟩
theorem AP.mid{f:FuncId}{args:List Value}{R:Value→Hl→World→Prop}{Z:List PanicEntry→Hl→World→Prop}(X M Y:Hl)(h:AP P D f args (M++(X++Y)) s (fun v L' s'=>∃ M',L'=M'++(X++Y)∧R v M' s') fun ch L' s'=>∃ M',L'=M'++(X++Y)∧Z ch M' s') :
  AP P D f args (X++(M++Y)) s (fun v L' s'=>∃ M',L'=X++(M'++Y)∧R v M' s') fun ch L' s'=>∃ M',L'=X++(M'++Y)∧Z ch M' s':=by
 have hp:∀ M':Hl,(X++(M'++Y)).Perm (M'++(X++Y)):=fun M'=>by
  rw [← List.append_assoc,← List.append_assoc]
  exact (List.perm_append_comm).append_right Y
 refine ⟨h.1,fun ho=>?_⟩
 rw [qa4 (hp M) _ ho]
 refine (h.2 (ho.perm (hp M))).mono ?_
 rintro e w' ⟨L',s',rfl,h3,h4,h5⟩
 rcases h5 with ⟨v,h1,M',rfl,h6⟩ | ⟨ch,h1,M',rfl,h6⟩
 · exact ⟨X++(M'++Y),s',(qa4 (hp M').symm _ h3),h3.perm (hp M').symm,h4,.inl ⟨v,h1,M',rfl,h6⟩⟩
 · exact ⟨X++(M'++Y),s',(qa4 (hp M').symm _ h3),h3.perm (hp M').symm,h4,.inr ⟨ch,h1,M',rfl,h6⟩⟩
theorem qnv{K:Hl}{t:Nat}(hu:P.underlying t=some (.struct #[]))(hz:(P.info? t).bind (fun i=>i.zero)=some (Value.agg #[])):QE P TT D fr (.build t #[]) ty K s0 (.agg #[]):=
 QE.pure fun hT dst pos af g ρ hρ w=>by
  obtain ⟨i,h1,h2⟩:=Option.bind_eq_some_iff.1 hz
  simp [execOp,Instr.build,underlying,hu,zeroValue,typeInfo,h1,h2,Instr.fill,Value.cells]
theorem qq3{K:Hl}{t:Nat}{x:Operand}{v:Value}(hu:P.underlying t=some (.struct #[]))(hx:lk fr x=some v):QE P TT D fr (.makeInterface t x) ty K s0 (.iface t v):=
 QE.pure fun hT dst pos af g ρ hρ w=>by simp [execOp,Instr.makeInterface,underlying,hu,hρ x _ hx]
theorem qjC{dst:Option Nat}{x:Operand}{t:TypeId}{u:Value}(hx:lk fr x=some (.iface t u))(h:∀ fr',Q (.panic [{ v:=.iface t u,recovered:=false }]) fr' L s):JO P TT D n ops Q (⟨dst,.panic x,ty,pos,af,none⟩::rest) fr L s:=fun hT a hr ho=>by
 simp only [wpList,Region.wanted,if_true]
 refine .inl ?_
 have hrun:(execOp a.eval ⟨dst,.panic x,ty,pos,af,none⟩).run P (fill L s)=.halt (.panic (.iface t u)) (fill L s):=by
  simp [execOp,hr.ev hx,run_panic_iface]
 simp only [Oper.wp,hrun,Oper.upon]
 exact ⟨fr,L,s,hr,ho,rfl,h fr⟩
def qwz(TT:qaV)(D:Nat)(rs:List ResultVar)(s0:World)(R:Value→Hl→World→Prop)(X:List PanicEntry→Hl→World→Prop):qbD
 | .panic ch,_,L,s=>∃ A L',L.Perm (A++L')∧Le D s0 s∧∀ s',Le D s s'→X ch L' s'
 | e,fr,L,s=>qbV TT D rs s0 R e fr L s
theorem qaN{rs:List ResultVar}{R:Value→Hl→World→Prop}{X:List PanicEntry→Hl→World→Prop}{e:Exit}{vs:List Value}(A L':Hl)(he:e=.normal∨e=.ret)(h:Res TT fr L rs vs)(hL:L=A++L')(hl:Le D s0 s)(hR:∀ s',Le D s s'→R (qaA vs) L' s'):qwz TT D rs s0 R X e fr L s:=by
 rcases he with rfl | rfl
 · exact qbm A L' (.inl rfl) h hL hl hR
 · exact qbm A L' (.inr rfl) h hL hl hR
theorem qa5{rs:List ResultVar}{R:Value→Hl→World→Prop}{X:List PanicEntry→Hl→World→Prop}{ch:List PanicEntry}(A L':Hl)(hL:L.Perm (A++L'))(hl:Le D s0 s)(hX:∀ s',Le D s s'→X ch L' s'):qwz TT D rs s0 R X (.panic ch) fr L s:=⟨A,L',hL,hl,hX⟩
theorem qaM{J:Fr→Hl→World→Prop}{ch:List PanicEntry}(h:Q (.panic ch) fr L s):qaO J Q (.panic ch) fr L s:=h
theorem qaF{id:Nat}{ch:List PanicEntry}(h:Q (.panic ch) fr L s):qaD id Q (.panic ch) fr L s:=h
theorem qaZ{f:FuncId}{fn:Func}{c:Code}{args:List Value}{R:Value→Hl→World→Prop}{X:List PanicEntry→Hl→World→Prop}(hT:TabOK P TT)(hf:P.funcs[f]?=some fn)(hn:(fn.name == "runtime.NumGoroutine")=false)(hb:fn.body=some c)(hnt:fn.ntmps=n)(hle:Nat.ble args.length n=true){rs:List ResultVar}(hrs:fn.results.toList=rs)(fr0:Fr)(hfr:qeR 0 args=fr0)
    (h:JC P TT D n (qwz TT D rs s R X) c fr0 L s):AP P D f args L s R X:=by
  subst hfr;subst hrs
  refine ⟨⟨fn,hf,hn,by simp [hb]⟩,fun ho=>calls_of_wp hf hb ?_⟩
  have hle':args.length≤n:=Nat.le_of_ble_eq_true hle
  have hr:FrRel n { tmps:=args.toArray++Array.replicate (fn.ntmps - args.toArray.size) undef,defers:=[] } (qeR 0 args):=by
    refine ⟨by simp [hnt];omega,Z,fun t ht v hv=>?_,fun t v hv=>?_⟩
    · rw [qbC] at hv
      simp at hv
      obtain ⟨hlt,_⟩:=List.getElem?_eq_some_iff.1 hv
      simp [Array.getElem?_append,hlt]
      exact (List.getElem?_eq_some_iff.1 hv).2
    · rw [qbC] at hv
      simp at hv
      obtain ⟨hlt,_⟩:=List.getElem?_eq_some_iff.1 hv
      omega
  refine wp_mono (h hT _ hr ho) ?_
  rintro e a w ⟨fr',L1,s1,k1,k2,rfl,hq⟩
  have good:∀ {e:Exit},qbV TT D fn.results.toList s R e fr' L1 s1→bodyPost P fn (fun e w'=>∃ L' s',w'=fill L' s'∧OKL D L' s'∧Le D s s'∧((∃ v,e=.returned v∧R v L' s')∨∃ ch,e=.panicked ch∧X ch L' s')) e a (fill L1 s1):=by
    rintro e ⟨he,vs,A,L',hres,rfl,hle1,hR⟩
    obtain ⟨d1,d2,d3⟩:=qbc k2
    have hrun:(results fn a.tmps).run P (fill (A++L') s1)=.ok (qaA vs) (fill (A++L') s1):=by
      have h1:=Res.run hT k1 k2 hres
      have h2:(fn.results.mapM (qpK a.tmps)).run P (fill (A++L') s1)=.ok vs.toArray (fill (A++L') s1):=by
        rw [Array.mapM_eq_mapM_toList]
        simp only [map_eq_pure_bind,Sem.run_bind,h1,Result.andThen_ok,Sem.run_pure]
      rw [qdy]
      simp only [Sem.run_bind,h2,Result.andThen_ok,Sem.run_pure]
      congr 1
      match vs with
      | []=>rfl
      | [v]=>rfl
      | v::u::r=>simp [qaA]
    have hpost:∃ v,(results fn a.tmps).run P (fill (A++L') s1)=.ok v (fill (A++L') s1)∧∃ L'_1 s',fill (A++L') s1=fill L'_1 s'∧OKL D L'_1 s'∧Le D s s'∧((∃ v_1,Ending.returned v=.returned v_1∧R v_1 L'_1 s')∨∃ ch,Ending.returned v=.panicked ch∧X ch L'_1 s'):=
      ⟨_,hrun,L',fill A s1,d1,d2,hle1.trans d3,.inl ⟨_,rfl,hR _ d3⟩⟩
    rcases he with rfl | rfl
    · exact ⟨k1.defers,hpost⟩
    · exact ⟨k1.defers,hpost⟩
  cases e with
  | panic ch=>
    obtain ⟨A,L',hp,hle1,hX⟩:=hq
    obtain ⟨d1,d2,d3⟩:=qbc (k2.perm hp)
    rw [qa4 hp _ k2]
    exact ⟨k1.defers,L',fill A s1,d1,d2,hle1.trans d3,.inr ⟨ch,rfl,hX _ d3⟩⟩
  | _=>exact good hq
end
theorem qex{P:Program}{TT:qaV}{D:Nat}{fr:Fr}{K:Hl}{s0:World}{ty t e b off len cap:Nat}{x y:Operand}{ti te:TI}{ik:IntKind}{i:Int}(hx:lk fr x=some (.slice (some ⟨b,off,none⟩) len cap))(hy:lk fr y=some (.int ik i))(ht:qaE TT t=some ti)(hk:ti.kind=.sl e)(he:qaE TT e=some te)
  (hs:te.size=1) (h0:0≤i) (h1:i < len):QE P TT D fr (.indexAddr t x y) ty K s0 (.pointer (some ⟨b,off+i.toNat,none⟩)):=by
 obtain ⟨j,rfl⟩:=Int.eq_ofNat_of_zero_le h0
 exact qaH hx hy ht hk he hs O
end Go.FL
namespace Go.Proofs.YtpdnijphccdiiaaGreatDoor
open Go Go.FL
theorem qjt{l:List Int}{i:Int}(h0:0≤i)(h:i < l.length):nth (wv l) (0+i.toNat)=some (.int .u32 (l.getD i.toNat 0)):=by
 have hl:i.toNat < l.length:=by omega
 rw [Nat.zero_add,qdv,List.getD_eq_getElem?_getD];simp [wv,hl]
theorem qgT{l:List Int}{i:Int}(v:Int)(h0:0≤i)(h:i < l.length):qbW (wv l) (0+i.toNat) [.int .u32 v]=wv (l.set i.toNat v):=by
 have hl:i.toNat < l.length:=by omega
 rw [Nat.zero_add,qdu _ _ _ (by simp [wv];omega)]
 simp only [wv,List.map_set]
 rw [List.set_eq_take_append_cons_drop]
 simp [hl]
theorem qg0{l:List Int}{i:Int}(h0:0≤i)(h:i < l.length):Nat.ble (0+i.toNat+1) (wv l).length=true:=by
 rw [Nat.ble_eq];simp [wv];omega
theorem w64y{a:Int}(h1:0≤a)(h2:a < 18446744073709551616):IntKind.u64.wrap a=a:=by simp [IntKind.wrap,IntKind.bits,IntKind.signed];omega
theorem u8w{x:Int}(h:U32 x):IntKind.u8.wrap x=((UInt8.ofNat x.toNat).toNat:Int):=by
 obtain ⟨h1,h2⟩:=h
 rw [IntKind.wrap_u8]
 simp [UInt8.toNat_ofNat']
 omega
open Go.FL
attribute [local irreducible] JC JO JA JB qaO qaD qbV AC fill CellsAt QE Ev Mid
def CallV(p:Prg)(V:World→Ex→List Value→Prop)(s:World)(nm:Str)(args:List Ex)(w:Value):Prop:=∃ be bi A n c k fk,w=.func (.func 130) #[] #[.pointer (some ⟨be,0,none⟩),.pointer (some ⟨bi,0,none⟩)]∧CellsAt s be 0 [.slice A n c]∧CellsAt s bi 0 [.int .i64 ((k:Nat):Int)]∧Sl 1 V s A n c args∧qja p nm=(k:Int)∧p.funcs[k]?=some fk∧args.length=fk.params.length
inductive ViE(p:Prg)(f:Fnc)(V:World→Ex→List Value→Prop)(s:World)(x:Ex):Value→Prop
 | num (b:Nat) (A1:Option Addr) (n1 c1:Nat) (hk:x.kind=1) (hc:CellsAt s b 0 [.int .i64 x.kind,.int .i64 x.op,.int .u32 x.num,St x.name,.slice A1 n1 c1]) (hu:U32 x.num):ViE p f V s x (.func (.func 162) #[] #[.pointer (some ⟨b,0,none⟩)])
 | slot (b:Nat) (hk:x.kind=2) (h0:0≤qbg f x.name) (hl:qbg f x.name < ((f.params.length+f.locals.length:Nat):Int)) (hc:CellsAt s b 0 [.int .i64 (qbg f x.name)]):ViE p f V s x (.func (.func 192) #[] #[.pointer (some ⟨b,0,none⟩)])
 | con (b k:Nat) (g:Glo) (A n c) (hk:x.kind=2) (hs:¬ 0≤qbg f x.name) (hg:qdO p x.name=(k:Int)) (hp:p.globals[k]?=some g) (h1:g.kind=1) (hc:CellsAt s b 0 [.int .i64 g.kind,St g.name,.int .u32 g.num,.slice A n c]) (hu:U32 g.num):ViE p f V s x (.func (.func 193) #[] #[.pointer (some ⟨b,0,none⟩)])
 | var (b k:Nat) (g:Glo) (hk:x.kind=2) (hs:¬ 0≤qbg f x.name) (hg:qdO p x.name=(k:Int)) (hp:p.globals[k]?=some g) (h1:¬ g.kind=1) (hc:CellsAt s b 0 [.int .i64 (k:Int)]):ViE p f V s x (.func (.func 194) #[] #[.pointer (some ⟨b,0,none⟩)])
 | idx (b1 b2 k:Nat) (g:Glo) (A n c) (hk:x.kind=3) (hg:qdO p x.name=(k:Int)) (hp:p.globals[k]?=some g) (h3:g.kind=3) (h1:CellsAt s b1 0 [.int .i64 (k:Int)]) (h2:CellsAt s b2 0 [.slice A n c]) (hA:Sl 1 V s A n c x.args) (hn:0 < n):ViE p f V s x (.func (.func 164) #[] #[.pointer (some ⟨b1,0,none⟩),.pointer (some ⟨b2,0,none⟩)])
 | call (w:Value) (hk:x.kind=4) (h:CallV p V s x.name x.args w):ViE p f V s x w
 | get (hk:x.kind=5):ViE p f V s x (.func (.func 165) #[] #[])
 | una (b1 b2:Nat) (A1:Option Addr) (n1 c1:Nat) (A n c) (hk:x.kind=6) (h1:CellsAt s b1 0 [.int .i64 x.kind,.int .i64 x.op,.int .u32 x.num,St x.name,.slice A1 n1 c1]) (h2:CellsAt s b2 0 [.slice A n c]) (hA:Sl 1 V s A n c x.args) (hn:0 < n):ViE p f V s x (.func (.func 166) #[] #[.pointer (some ⟨b1,0,none⟩),.pointer (some ⟨b2,0,none⟩)])
 | bin (b1 b2 b3:Nat) (v1 v2:Value) (hk:x.kind=7) (h1:CellsAt s b1 0 [v1]) (h2:CellsAt s b2 0 [.int .i64 x.op]) (h3:CellsAt s b3 0 [v2]) (hv1:V s (qco x.args 0) [v1]) (hv2:V s (qco x.args 1) [v2]) (ho:4≤x.op∧x.op≤21):ViE p f V s x (.func (.func 195) #[] #[.pointer (some ⟨b1,0,none⟩),.pointer (some ⟨b2,0,none⟩),.pointer (some ⟨b3,0,none⟩)])
def VeR(p:Prg)(f:Fnc):Nat→World→Ex→List Value→Prop
 | 0,_,_,_=>False
 | d+1,s,x,cs=>∃ b w,cs=[.func (.func 123) #[] #[.pointer (some ⟨b,0,none⟩)]]∧CellsAt s b 0 [w]∧ViE p f (VeR p f d) s x w
inductive ViS(p:Prg)(f:Fnc)(E:World→Ex→List Value→Prop)(V:World→Stm→List Value→Prop)(s:World)(x:Stm):Value→Prop
 | setl (b1 b2:Nat) (v:Value) (hk:x.kind=1) (h0:0≤qbg f x.name) (hl:qbg f x.name < ((f.params.length+f.locals.length:Nat):Int)) (h1:CellsAt s b1 0 [v]) (h2:CellsAt s b2 0 [.int .i64 (qbg f x.name)]) (hv:E s (qco x.exprs 0) [v]):ViS p f E V s x (.func (.func 125) #[] #[.pointer (some ⟨b1,0,none⟩),.pointer (some ⟨b2,0,none⟩)])
 | setg (b1 b2 k:Nat) (g:Glo) (v:Value) (hk:x.kind=1) (hs:¬ 0≤qbg f x.name) (hg:qdO p x.name=(k:Int)) (hp:p.globals[k]?=some g) (hg2:g.kind=2) (h1:CellsAt s b1 0 [v]) (h2:CellsAt s b2 0 [.int .i64 (k:Int)]) (hv:E s (qco x.exprs 0) [v]):ViS p f E V s x (.func (.func 126) #[] #[.pointer (some ⟨b1,0,none⟩),.pointer (some ⟨b2,0,none⟩)])
 | store (b1 b2 k:Nat) (g:Glo) (A n c) (hk:x.kind=2) (hg:qdO p x.name=(k:Int)) (hp:p.globals[k]?=some g) (h3:g.kind=3) (h1:CellsAt s b1 0 [.int .i64 (k:Int)]) (h2:CellsAt s b2 0 [.slice A n c]) (hA:Sl 1 E s A n c x.exprs) (hn:1 < n):ViS p f E V s x (.func (.func 86) #[] #[.pointer (some ⟨b1,0,none⟩),.pointer (some ⟨b2,0,none⟩)])
 | cond (b1 b2 b3:Nat) (A n c B m e G k i) (hk:x.kind=3) (h1:CellsAt s b1 0 [.slice A n c]) (h2:CellsAt s b2 0 [.slice B m e]) (h3:CellsAt s b3 0 [.slice G k i]) (hA:Sl 1 E s A n c x.exprs) (hn:0 < n) (hB:Sl 1 V s B m e x.body) (hG:Sl 1 V s G k i x.els):ViS p f E V s x (.func (.func 88) #[] #[.pointer (some ⟨b1,0,none⟩),.pointer (some ⟨b2,0,none⟩),.pointer (some ⟨b3,0,none⟩)])
 | loop (b1 b2:Nat) (A n c B m e) (hk:x.kind=4) (h1:CellsAt s b1 0 [.slice A n c]) (h2:CellsAt s b2 0 [.slice B m e]) (hA:Sl 1 E s A n c x.exprs) (hn:0 < n) (hB:Sl 1 V s B m e x.body):ViS p f E V s x (.func (.func 90) #[] #[.pointer (some ⟨b1,0,none⟩),.pointer (some ⟨b2,0,none⟩)])
 | call (b1:Nat) (w:Value) (hk:x.kind=5) (h1:CellsAt s b1 0 [w]) (h:CallV p E s x.name x.exprs w):ViS p f E V s x (.func (.func 92) #[] #[.pointer (some ⟨b1,0,none⟩)])
 | ret (b1:Nat) (A n c) (hk:x.kind=6) (h1:CellsAt s b1 0 [.slice A n c]) (hA:Sl 1 E s A n c x.exprs) (hn:0 < n):ViS p f E V s x (.func (.func 93) #[] #[.pointer (some ⟨b1,0,none⟩)])
 | put (b1:Nat) (A n c) (hk:x.kind=7) (h1:CellsAt s b1 0 [.slice A n c]) (hA:Sl 1 E s A n c x.exprs) (hn:0 < n):ViS p f E V s x (.func (.func 94) #[] #[.pointer (some ⟨b1,0,none⟩)])
 | stop (b1:Nat) (A n c) (hk:x.kind=8) (h1:CellsAt s b1 0 [.slice A n c]) (hA:Sl 1 E s A n c x.exprs) (hn:0 < n):ViS p f E V s x (.func (.func 95) #[] #[.pointer (some ⟨b1,0,none⟩)])
 | brk (hk:x.kind=9):ViS p f E V s x (.func (.func 96) #[] #[])
 | cont (hk:x.kind=10):ViS p f E V s x (.func (.func 97) #[] #[])
def VsR(p:Prg)(f:Fnc):Nat→World→Stm→List Value→Prop
 | 0,_,_,_=>False
 | d+1,s,x,cs=>∃ b w,cs=[.func (.func 49) #[] #[.pointer (some ⟨b,0,none⟩)]]∧CellsAt s b 0 [w]∧ViS p f (VeR p f d) (VsR p f d) s x w
def FnV(p:Prg)(s:World)(f:Fnc)(cs:List Value):Prop:=∃ d A n c,cs=[.int .i64 ((f.params.length+f.locals.length:Nat):Int),.slice A n c]∧Sl 1 (VsR p f d) s A n c f.body
theorem CallV.le{D:Nat}{p:Prg}{V:World→Ex→List Value→Prop}{s s':World}{nm:Str}{args:List Ex}{w:Value}(hl:Le D s s')(hV:∀ x cs,V s x cs→V s' x cs)(h:CallV p V s nm args w):CallV p V s' nm args w:=by
 obtain ⟨be,bi,A,n,c,k,fk,h1,h2,h3,h4,h5⟩:=h
 exact ⟨be,bi,A,n,c,k,fk,h1,h2.le hl,h3.le hl,Sl.le (fun x cs h=>hV x cs h) h4 hl,h5⟩
theorem ViE.le{D:Nat}{p:Prg}{f:Fnc}{V:World→Ex→List Value→Prop}{s s':World}{x:Ex}{w:Value}(hl:Le D s s')(hV:∀ x cs,V s x cs→V s' x cs)(h:ViE p f V s x w):ViE p f V s' x w:=by
 have hS:∀ {A n c l},Sl 1 V s A n c l→Sl 1 V s' A n c l:=fun h=>Sl.le (fun x cs h=>hV x cs h) h hl
 cases h with
 | num b A1 n1 c1 hk hc hu=>exact .num b A1 n1 c1 hk (hc.le hl) hu
 | slot b hk h0 hl' hc=>exact .slot b hk h0 hl' (hc.le hl)
 | con b k g A n c hk hs hg hp h1 hc hu=>exact .con b k g A n c hk hs hg hp h1 (hc.le hl) hu
 | var b k g hk hs hg hp h1 hc=>exact .var b k g hk hs hg hp h1 (hc.le hl)
 | idx b1 b2 k g A n c hk hg hp h3 h1 h2 hA hn=>exact .idx b1 b2 k g A n c hk hg hp h3 (h1.le hl) (h2.le hl) (hS hA) hn
 | call w hk h=>exact .call w hk (h.le hl hV)
 | get hk=>exact .get hk
 | una b1 b2 A1 n1 c1 A n c hk h1 h2 hA hn=>exact .una b1 b2 A1 n1 c1 A n c hk (h1.le hl) (h2.le hl) (hS hA) hn
 | bin b1 b2 b3 v1 v2 hk h1 h2 h3 hv1 hv2 ho=>exact .bin b1 b2 b3 v1 v2 hk (h1.le hl) (h2.le hl) (h3.le hl) (hV _ _ hv1) (hV _ _ hv2) ho
theorem VeR.le{D:Nat}{p:Prg}{f:Fnc}{s s':World}(hl:Le D s s'):∀ {d:Nat} {x:Ex} {cs:List Value},VeR p f d s x cs→VeR p f d s' x cs
 | 0,_,_,h=>h
 | _+1,_,_,⟨b,w,h1,h2,h3⟩=>⟨b,w,h1,h2.le hl,h3.le hl fun _ _ h=>VeR.le hl h⟩
theorem ViS.le{D:Nat}{p:Prg}{f:Fnc}{E:World→Ex→List Value→Prop}{V:World→Stm→List Value→Prop}{s s':World}{x:Stm}{w:Value}(hl:Le D s s')(hE:∀ x cs,E s x cs→E s' x cs)(hV:∀ x cs,V s x cs→V s' x cs)(h:ViS p f E V s x w):ViS p f E V s' x w:=by
 have hS:∀ {A n c l},Sl 1 E s A n c l→Sl 1 E s' A n c l:=fun h=>Sl.le (fun x cs h=>hE x cs h) h hl
 have hT:∀ {A n c l},Sl 1 V s A n c l→Sl 1 V s' A n c l:=fun h=>Sl.le (fun x cs h=>hV x cs h) h hl
 cases h with
 | setl b1 b2 v hk h0 hl' h1 h2 hv=>exact .setl b1 b2 v hk h0 hl' (h1.le hl) (h2.le hl) (hE _ _ hv)
 | setg b1 b2 k g v hk hs hg hp hg2 h1 h2 hv=>exact .setg b1 b2 k g v hk hs hg hp hg2 (h1.le hl) (h2.le hl) (hE _ _ hv)
 | store b1 b2 k g A n c hk hg hp h3 h1 h2 hA hn=>exact .store b1 b2 k g A n c hk hg hp h3 (h1.le hl) (h2.le hl) (hS hA) hn
 | cond b1 b2 b3 A n c B m e G k i hk h1 h2 h3 hA hn hB hG=>exact .cond b1 b2 b3 A n c B m e G k i hk (h1.le hl) (h2.le hl) (h3.le hl) (hS hA) hn (hT hB) (hT hG)
 | loop b1 b2 A n c B m e hk h1 h2 hA hn hB=>exact .loop b1 b2 A n c B m e hk (h1.le hl) (h2.le hl) (hS hA) hn (hT hB)
 | call b1 w hk h1 h=>exact .call b1 w hk (h1.le hl) (h.le hl hE)
 | ret b1 A n c hk h1 hA hn=>exact .ret b1 A n c hk (h1.le hl) (hS hA) hn
 | put b1 A n c hk h1 hA hn=>exact .put b1 A n c hk (h1.le hl) (hS hA) hn
 | stop b1 A n c hk h1 hA hn=>exact .stop b1 A n c hk (h1.le hl) (hS hA) hn
 | brk hk=>exact .brk hk
 | cont hk=>exact .cont hk
theorem VsR.le{D:Nat}{p:Prg}{f:Fnc}{s s':World}(hl:Le D s s'):∀ {d:Nat} {x:Stm} {cs:List Value},VsR p f d s x cs→VsR p f d s' x cs
 | 0,_,_,h=>h
 | _+1,_,_,⟨b,w,h1,h2,h3⟩=>⟨b,w,h1,h2.le hl,h3.le hl (fun _ _ h=>VeR.le hl h) fun _ _ h=>VsR.le hl h⟩
theorem FnV.le{D:Nat}{p:Prg}{s s':World}(hl:Le D s s'){f:Fnc}{cs:List Value}(h:FnV p s f cs):FnV p s' f cs:=by
 obtain ⟨d,A,n,c,h1,h2⟩:=h
 exact ⟨d,A,n,c,h1,Sl.le (fun _ _ h=>VsR.le hl h) h2 hl⟩
def VeS(p:Prg)(f:Fnc)(d:Nat)(s:World)(A:Option Addr)(n c:Nat)(l:List Ex):Prop:=Sl 1 (VeR p f d) s A n c l
def VsS(p:Prg)(f:Fnc)(d:Nat)(s:World)(A:Option Addr)(n c:Nat)(l:List Stm):Prop:=Sl 1 (VsR p f d) s A n c l
theorem VeS.le{D:Nat}{p:Prg}{f:Fnc}{d:Nat}{s s':World}{A:Option Addr}{n c:Nat}{l:List Ex}(h:VeS p f d s A n c l)(hl:Le D s s'):VeS p f d s' A n c l:=Sl.le (fun _ _ h=>VeR.le hl h) h hl
theorem VsS.le{D:Nat}{p:Prg}{f:Fnc}{d:Nat}{s s':World}{A:Option Addr}{n c:Nat}{l:List Stm}(h:VsS p f d s A n c l)(hl:Le D s s'):VsS p f d s' A n c l:=Sl.le (fun _ _ h=>VsR.le hl h) h hl
theorem VeR.func{p:Prg}{f:Fnc}{d:Nat}{s:World}{x:Ex}{v:Value}(h:VeR p f d s x [v]):∃ b,v=.func (.func 123) #[] #[.pointer (some ⟨b,0,none⟩)]:=by
 cases d with
 | zero=>exact h.elim
 | succ d=>obtain ⟨b,w,h1,_⟩:=h;exact ⟨b,by simpa using h1⟩
theorem VsR.func{p:Prg}{f:Fnc}{d:Nat}{s:World}{x:Stm}{v:Value}(h:VsR p f d s x [v]):∃ b,v=.func (.func 49) #[] #[.pointer (some ⟨b,0,none⟩)]:=by
 cases d with
 | zero=>exact h.elim
 | succ d=>obtain ⟨b,w,h1,_⟩:=h;exact ⟨b,by simpa using h1⟩
theorem VeS.at_{p:Prg}{f:Fnc}{d:Nat}{s:World}{A:Option Addr}{n c:Nat}{l:List Ex}{k:Nat}(h:VeS p f d s A n c l)(hk:k < n):∃ B off b,A=some ⟨B,off,none⟩∧CellsAt s B (off+k) [.func (.func 123) #[] #[.pointer (some ⟨b,0,none⟩)]]∧VeR p f d s (qco l k) [.func (.func 123) #[] #[.pointer (some ⟨b,0,none⟩)]]:=by
 have hl:k < l.length:=by rw [← h.1];exact hk
 obtain ⟨B,off,cs,h1,h2,h3,h4⟩:=h.2.2.2 k l[k] (List.getElem?_eq_getElem hl)
 have e:qco l k=l[k]:=by rw [qco,List.getD_eq_getElem?_getD,List.getElem?_eq_getElem hl];rfl
 match cs,h3 with
 | [v],_=>
  obtain ⟨b,rfl⟩:=h4.func
  exact ⟨B,off,b,h1,by rw [Nat.mul_one] at h2;exact h2,by rw [e];exact h4⟩
theorem VsS.at_{p:Prg}{f:Fnc}{d:Nat}{s:World}{A:Option Addr}{n c:Nat}{l:List Stm}{k:Nat}(h:VsS p f d s A n c l)(hk:k < n):∃ B off b x,A=some ⟨B,off,none⟩∧l[k]?=some x∧CellsAt s B (off+k) [.func (.func 49) #[] #[.pointer (some ⟨b,0,none⟩)]]∧VsR p f d s x [.func (.func 49) #[] #[.pointer (some ⟨b,0,none⟩)]]:=by
 have hl:k < l.length:=by rw [← h.1];exact hk
 obtain ⟨B,off,cs,h1,h2,h3,h4⟩:=h.2.2.2 k l[k] (List.getElem?_eq_getElem hl)
 match cs,h3 with
 | [v],_=>
  obtain ⟨b,rfl⟩:=h4.func
  exact ⟨B,off,b,l[k],h1,List.getElem?_eq_getElem hl,by rw [Nat.mul_one] at h2;exact h2,h4⟩
structure MC where
 bm:Nat
 bg:Nat
 bf:Nat
 ba:Nat
 Af:Option Addr
 nF:Nat
 cF:Nat
 ng:Nat
 nf:Nat
 ab:List (Option Nat)
def MBv(c:MC)(N:Nat)(res:Int)(m:MS)(iv ov:Value)(st cd:Int)(fv:Value):Nat×Obj:=(c.bm,cb [.slice c.Af c.nF c.cF,.slice (some ⟨c.bg,0,none⟩) c.ng c.ng,.slice (some ⟨c.ba,0,none⟩) c.ng c.ng,fv,.int .u32 res,.int .i64 (m.calls:Int),iv,.int .i64 (m.left:Int),ov,.int .i64 st,.int .u32 cd,.int .i64 ((N:Int) - (m.left:Int))] 51)
abbrev MB(c:MC)(N:Nat)(res:Int)(m:MS)(iv ov:Value)(st cd:Int):Nat×Obj:=MBv c N res m iv ov st cd (.slice (some ⟨c.bf,0,none⟩) c.nf c.nf)
def MGb(c:MC)(m:MS):Nat×Obj:=(c.bg,cb (wv m.glo) 29)
def MFb(c:MC)(m:MS):Nat×Obj:=(c.bf,cb (wv m.frm) 29)
def qdL:List (Option Nat)→List (List Int)→Hl
 | some b::r,l::ls=>(b,cb (wv l) 29)::qdL r ls
 | none::r,_::ls=>qdL r ls
 | _,_=>[]
def qid:List (Option Nat)→List Glo→List Value
 | some b::r,g::gs=>.slice (some ⟨b,0,none⟩) g.num.toNat g.num.toNat::qid r gs
 | none::r,_::gs=>.slice none 0 0::qid r gs
 | _,_=>[]
structure MG(p:Prg)(c:MC)(N:Nat)(m:MS)(iv ov:Value)(R:Hl)(s:World):Prop where
 inp:∃ A n q,iv=.slice A n q∧Bts s A n q m.inp
 out:∃ Mo,R=qdL c.ab m.arr++Mo∧FL.Own 5 1 Mo ov m.out.length (bv m.out)
 ug:∀ x∈m.glo,U32 x
 uf:∀ x∈m.frm,U32 x
 ua:∀ l∈m.arr,∀ x∈l,U32 x
 ng:c.ng=p.globals.length
 lg:m.glo.length=c.ng
 lf:m.frm.length=c.nf
 lb:c.ab.length=c.ng
 la:m.arr.length=c.ng
 ar:∀ (k:Nat) (g:Glo),p.globals[k]?=some g→g.kind=3→(∃ b,c.ab[k]?=some (some b))∧(m.arr.getD k []).length=g.num.toNat
 lo:m.out.length≤20000
 lc:m.calls≤100
 ll:m.left≤N
 lN:N≤50000000
structure CT(p:Prg)(c:MC)(s:World):Prop where
 fn:Sl 2 (FnV p) s c.Af c.nF c.cF p.funcs
 ar:CellsAt s c.ba 0 (qid c.ab p.globals)
 fs:∀ f∈p.funcs,f.params.length+f.locals.length≤100
 gu:∀ g∈p.globals,U32 g.num
theorem MG.le{D:Nat}{p:Prg}{c:MC}{N:Nat}{m:MS}{iv ov:Value}{R:Hl}{s s':World}(h:MG p c N m iv ov R s)(hl:Le D s s'):MG p c N m iv ov R s':=by
 obtain ⟨A,n,q,h1,h2⟩:=h.inp
 exact ⟨⟨A,n,q,h1,h2.le hl⟩,h.out,h.ug,h.uf,h.ua,h.ng,h.lg,h.lf,h.lb,h.la,h.ar,h.lo,h.lc,h.ll,h.lN⟩
theorem CT.le{D:Nat}{p:Prg}{c:MC}{s s':World}(h:CT p c s)(hl:Le D s s'):CT p c s':=⟨Sl.le (fun _ _ h=>FnV.le hl h) h.fn hl,h.ar.le hl,h.fs,h.gu⟩
def qun(ch:List PanicEntry):Prop:=ch=[{ v:=.iface 117 (.agg #[]),recovered:=false }]
def FIN(c:MC)(N:Nat)(m:MS)(st cd:Int)(Z:Hl):Prop:=∃ u0 u1 u2 u3 u4 u5 u6 u7 ov Mo K,Z.Perm ((c.bm,cb [u0,u1,u2,u3,u4,u5,u6,u7,ov,.int .i64 st,.int .u32 cd,.int .i64 ((N:Int) - (m.left:Int))] 51)::(Mo++K))∧FL.Own 5 1 Mo ov m.out.length (bv m.out)∧m.out.length≤20000∧m.left≤N
theorem MG.finv{p:Prg}{c:MC}{N:Nat}{m:MS}{iv ov:Value}{R:Hl}{s:World}(h:MG p c N m iv ov R s)(res st cd:Int)(fv:Value)(X:Hl):FIN c N m st cd (MBv c N res m iv ov st cd fv::(X++R)):=by
 obtain ⟨Mo,rfl,hO⟩:=h.out
 refine ⟨_,_,_,_,_,_,_,_,ov,Mo,X++qdL c.ab m.arr,List.Perm.cons _ ?_,hO,h.lo,h.ll⟩
 rw [← List.append_assoc]
 exact List.perm_append_comm
theorem MG.fin{p:Prg}{c:MC}{N:Nat}{m:MS}{iv ov:Value}{R:Hl}{s:World}(h:MG p c N m iv ov R s)(res st cd:Int):FIN c N m st cd (MB c N res m iv ov st cd::MGb c m::MFb c m::R):=h.finv res st cd _ [MGb c m,MFb c m]
theorem FIN.app{c:MC}{N:Nat}{m:MS}{st cd:Int}{Z:Hl}(h:FIN c N m st cd Z)(X:Hl):FIN c N m st cd (Z++X):=by
 obtain ⟨u0,u1,u2,u3,u4,u5,u6,u7,ov,Mo,K,h1,h2⟩:=h
 exact ⟨u0,u1,u2,u3,u4,u5,u6,u7,ov,Mo,K++X,by simpa [List.append_assoc] using h1.append_right X,h2⟩
def MC.wf(c:MC)(bf nf:Nat):MC:={ c with bf:=bf,nf:=nf }
theorem FIN.wf{c:MC}{bf nf N:Nat}{m:MS}{st cd:Int}{Z:Hl}(h:FIN (c.wf bf nf) N m st cd Z):FIN c N m st cd Z:=h
def okE(p:Prg)(c:MC)(N:Nat){α:Type}(r:ER α)(V:α→Value→Prop)(RS:α→Int)(X L:Hl)(v:Value)(L':Hl)(s':World):Prop:=∃ a m' iv ov R,r=.ok a m'∧V a v∧L'=X++(MB c N (RS a) m' iv ov 0 0::MGb c m'::MFb c m'::(R++L))∧MG p c N m' iv ov R s'
def qeu(c:MC)(N:Nat){α:Type}(r:ER α)(X L:Hl)(ch:List PanicEntry)(L':Hl)(_:World):Prop:=qun ch∧∃ m' st cd Z,r=.fin m' st cd∧L'=X++(Z++L)∧FIN c N m' st cd Z
theorem AP.fr{p:Prg}{D:Nat}{g:FuncId}{args:List Value}{s:World}{c:MC}{N:Nat}{res:Int}{m:MS}{iv ov:Value}{R:Hl}{α:Type}{r:ER α}{V:α→Value→Prop}{RS:α→Int}(h:∀ L,AP Tryz.prog D g args (MB c N res m iv ov 0 0::MGb c m::MFb c m::(R++L)) s (okE p c N r V RS [] L) (qeu c N r [] L))(X L:Hl):AP Tryz.prog D g args (X++(MB c N res m iv ov 0 0::MGb c m::MFb c m::(R++L))) s (okE p c N r V RS X L) (qeu c N r X L):=
 (AP.mid (R:=fun v M' s'=>∃ a m' iv ov R,r=.ok a m'∧V a v∧M'=MB c N (RS a) m' iv ov 0 0::MGb c m'::MFb c m'::R∧MG p c N m' iv ov R s') (Z:=fun ch M' _=>qun ch∧∃ m' st cd,r=.fin m' st cd∧FIN c N m' st cd M') X (MB c N res m iv ov 0 0::MGb c m::MFb c m::R) L
  ((h (X++L)).mono (fun v L' s' _ ⟨a,m',iv,ov,R,h1,h2,h3,h4⟩=>⟨_,h3,a,m',iv,ov,R,h1,h2,rfl,h4⟩) fun ch L' s' _ ⟨h1,m',st,cd,Z,h2,h3,h4⟩=>⟨Z,h3,h1,m',st,cd,h2,h4⟩)).mono
  (fun v L' s' _ ⟨M',h0,a,m',iv,ov,R,h1,h2,h3,h4⟩=>⟨a,m',iv,ov,R,h1,h2,by rw [h0,h3];rfl,h4⟩) fun ch L' s' _ ⟨M',h0,h1,m',st,cd,h2,h3⟩=>⟨h1,m',st,cd,M',h2,h0,h3⟩
def VE(a:Int)(v:Value):Prop:=v=.int .u32 a∧U32 a
def VS(y:Int×Int)(v:Value):Prop:=v=.int .i64 y.1∧U32 y.2∧(y.1≠3→y.2=0)
def RE(_:Int):Int:=0
def RS(y:Int×Int):Int:=y.2
def EOK(p:Prg)(D n:Nat):Prop:=∀ (L:Hl) (s:World) (c:MC) (N:Nat) (f:Fnc) (d:Nat) (x:Ex) (b:Nat) (m:MS) (iv ov:Value) (R:Hl),CT p c s→c.nf=f.params.length+f.locals.length→VeR p f d s x [.func (.func 123) #[] #[.pointer (some ⟨b,0,none⟩)]]→MG p c N m iv ov R s→(sem p OPp n).e f x m≠.out →
 AP Tryz.prog D 123 [.pointer (some ⟨c.bm,0,none⟩),.pointer (some ⟨b,0,none⟩)] (MB c N 0 m iv ov 0 0::MGb c m::MFb c m::(R++L)) s (okE p c N ((sem p OPp n).e f x m) VE RE [] L) (qeu c N ((sem p OPp n).e f x m) [] L)
def TOK(p:Prg)(D n:Nat):Prop:=∀ (L:Hl) (s:World) (c:MC) (N:Nat) (f:Fnc) (d:Nat) (x:Stm) (b:Nat) (m:MS) (iv ov:Value) (R:Hl),CT p c s→c.nf=f.params.length+f.locals.length→VsR p f d s x [.func (.func 49) #[] #[.pointer (some ⟨b,0,none⟩)]]→MG p c N m iv ov R s→(sem p OPp n).t f x m≠.out →
 AP Tryz.prog D 49 [.pointer (some ⟨c.bm,0,none⟩),.pointer (some ⟨b,0,none⟩)] (MB c N 0 m iv ov 0 0::MGb c m::MFb c m::(R++L)) s (okE p c N ((sem p OPp n).t f x m) VS RS [] L) (qeu c N ((sem p OPp n).t f x m) [] L)
def COK(p:Prg)(D n:Nat):Prop:=∀ (L:Hl) (s:World) (c:MC) (N k:Nat) (fk:Fnc) (vs:List Int) (A:Option Addr) (n1 c1:Nat) (m:MS) (iv ov:Value) (R:Hl),CT p c s→Wds s A n1 c1 vs→p.funcs[k]?=some fk→vs.length=fk.params.length→MG p c N m iv ov R s→(sem p OPp n).c k vs m≠.out →
 AP Tryz.prog D 52 [.pointer (some ⟨c.bm,0,none⟩),.int .i64 (k:Int),.slice A n1 c1] (MB c N 0 m iv ov 0 0::MGb c m::MFb c m::(R++L)) s (okE p c N ((sem p OPp n).c k vs m) VE RE [] L) (qeu c N ((sem p OPp n).c k vs m) [] L)
theorem qbP{α β:Type}{a:ER α}{k:α→MS→ER β}{r:ER β}(h:r=a.and k)(hr:r≠.out):a≠.out:=by rintro rfl;exact hr h
theorem qbS{α β:Type}{a:ER α}{k:α→MS→ER β}{r:ER β}{m:MS}{st cd:Int}(h:r=a.and k)(h2:a=.fin m st cd):r=.fin m st cd:=by rw [h,h2];rfl
theorem MG.stp{p:Prg}{c:MC}{N:Nat}{m:MS}{iv ov:Value}{R:Hl}{s:World}(h:MG p c N m iv ov R s):MG p c N { m with left:=m.left - 1 } iv ov R s:=⟨h.inp,h.out,h.ug,h.uf,h.ua,h.ng,h.lg,h.lf,h.lb,h.la,h.ar,h.lo,h.lc,Nat.le_trans (Nat.sub_le _ _) h.ll,h.lN⟩
open Go.Proofs.Tryz
theorem qot(D:Nat)(X:Hl)(s:World)(c:MC)(N:Nat)(res:Int)(m:MS)(iv ov:Value)(st cd:Int)(fv:Value):AP prog D 53 [.pointer (some ⟨c.bm,0,none⟩),.int .i64 st,.int .u32 cd] (MBv c N res m iv ov 0 0 fv::X) s (fun _ _ _=>False) fun ch L' _=>qun ch∧L'=MBv c N res m iv ov st cd fv::X:=by
 refine qaZ (fn:=f53) qaq func53 V Z ntmps53 Z (rs:=[]) Z [(0,_),(1,_),(2,_)] Z<|Sr<|Zqm Z Z<|Zqm Z Z<|Zqm Z Z<|Zqm Z Z<|qcD Z Z<|Wb Y5<|qaf (qbf Z Z Z Z) Z<|Wt 0 [_,_,_,_,_,_,_,_,_,_,_,_] Y9<|qcD Z Z<|Wb Y5<|qaf (qbf Z Z Z Z) Z<|Wt 0 [_,_,_,_,_,_,_,_,_,_,_,_] Y9<|Nt<|Zr<|qaf (qnv V V) Z<|qaf (qq3 V Z) Z ?_
 refine qjC Z (fun fr9=>?_)
 repeat (first | refine qaM ?_ | refine qaF ?_)
 refine qa5 [] _ Pr (Lr D) fun _ hS2=>?_
 exact ⟨rfl,rfl⟩
theorem qjN(D:Nat)(X:Hl)(s:World)(c:MC)(N:Nat)(res:Int)(m:MS)(iv ov:Value)(hl:m.left≤N)(hN:N≤50000000):AP prog D 50 [.pointer (some ⟨c.bm,0,none⟩)] (MB c N res m iv ov 0 0::X) s (fun _ L' _=>¬ m.left=0∧L'=MB c N res { m with left:=m.left - 1 } iv ov 0 0::X) fun ch L' _=>qun ch∧m.left=0∧L'=MB c N res m iv ov 0 0::X:=by
 refine qaZ (fn:=f50) qaq func50 V Z ntmps50 Z (rs:=[]) Z [(0,_)] Z<|Zs<|Sr<|Zqm Z Z<|qcD Z Z<|Wb Y5<|Wl 0 Y6<|qax Z Z Z<|Nt<|?_
 refine qab Z (fun c1=>?_) (fun c1=>?_)
 ·
  have h0:=c1
  refine Zr<|qaf (qnv V V) Z<|qaf (qq3 V Z) Z ?_
  refine qjC Z (fun fr9=>?_)
  repeat (first | refine qaM ?_ | refine qaF ?_)
  refine qa5 [] _ Pr (Lr D) fun _ hS2=>?_
  exact ⟨rfl,by omega,rfl⟩
 have h0:=c1
 refine Zk<|Zt<|Sr<|Zqm Z Z<|qcD Z Z<|Wb Y5<|Wl 0 Y6<|qaf (qaw (qbU Z Z (w64 O O)) (congrArg (Value.int .i64) (show (m.left:Int) - 1=((m.left - 1:Nat):Int) by omega))) Z<|qcD Z Z<|Wb Y5<|Wt 0 [_,_,_,_,_,_,_,_,_,_,_,_] Y9<|Nt<|Zr<|Zqm Z Z<|qcD Z Z<|Wb Y5<|qaf (qbf Z Z Z Z) Z<|Wl 0 Y6<|qaf (qaw (qaX Z Z (w64 O O)) (congrArg (Value.int .i64) (show (N:Int) - (m.left:Int)+1=(N:Int) - ((m.left - 1:Nat):Int) by omega))) Z ?_
 refine qcD Z Z<|Wb Y5<|qaf (qbf Z Z Z Z) Z<|Wt 0 [_,_,_,_,_,_,_,_,_,_,_,_] Y9<|Zn ?_
 refine qaN [] _ (.inl Z) (.nil) Z (Lr D) fun _ hS2=>?_
 exact ⟨by omega,rfl⟩
theorem qdg(D:Nat)(X Y:Hl)(s:World)(c:MC)(N:Nat)(res:Int)(m:MS)(iv ov:Value)(st cd:Int){fv:Value}:AP prog D 53 [.pointer (some ⟨c.bm,0,none⟩),.int .i64 st,.int .u32 cd] (X++(MBv c N res m iv ov 0 0 fv::Y)) s (fun _ _ _=>False) fun ch L' _=>qun ch∧L'=X++(MBv c N res m iv ov st cd fv::Y):=
 (AP.mid (R:=fun _ _ _=>False) (Z:=fun ch M' _=>qun ch∧M'=[MBv c N res m iv ov st cd fv]) X [MBv c N res m iv ov 0 0 fv] Y ((qot D (X++Y) s c N res m iv ov st cd fv).mono (fun _ _ _ _ h=>h.elim) fun ch L' s' _ h=>⟨[MBv c N res m iv ov st cd fv],h.2,h.1,rfl⟩)).mono
  (fun _ _ _ _ ⟨_,_,h⟩=>h) fun ch L' s' _ ⟨M',h0,h1,h2⟩=>⟨h1,by rw [h0,h2];rfl⟩
theorem VeR.opn{p:Prg}{f:Fnc}{d b:Nat}{s:World}{x:Ex}(h:VeR p f d s x [.func (.func 123) #[] #[.pointer (some ⟨b,0,none⟩)]]):∃ e w,CellsAt s b 0 [w]∧ViE p f (VeR p f e) s x w:=by
 cases d with
 | zero=>exact h.elim
 | succ e=>
  obtain ⟨b2,w,h1,h2,h3⟩:=h
  simp only [List.cons.injEq,Value.func.injEq,Array.mk.injEq,Value.pointer.injEq,Option.some.injEq,Addr.mk.injEq,and_true,true_and] at h1
  subst h1
  exact ⟨e,w,h2,h3⟩
theorem VsR.opn{p:Prg}{f:Fnc}{d b:Nat}{s:World}{x:Stm}(h:VsR p f d s x [.func (.func 49) #[] #[.pointer (some ⟨b,0,none⟩)]]):∃ e w,CellsAt s b 0 [w]∧ViS p f (VeR p f e) (VsR p f e) s x w:=by
 cases d with
 | zero=>exact h.elim
 | succ e=>
  obtain ⟨b2,w,h1,h2,h3⟩:=h
  simp only [List.cons.injEq,Value.func.injEq,Array.mk.injEq,Value.pointer.injEq,Option.some.injEq,Addr.mk.injEq,and_true,true_and] at h1
  subst h1
  exact ⟨e,w,h2,h3⟩
def VOK(p:Prg)(D n:Nat):Prop:=∀ (L:Hl) (s:World) (c:MC) (N:Nat) (f:Fnc) (d:Nat) (x:Ex) (w:Value) (m:MS) (iv ov:Value) (R:Hl),CT p c s→c.nf=f.params.length+f.locals.length→ViE p f (VeR p f d) s x w→MG p c N m iv ov R s→vX p OPp (sem p OPp n) f x m≠.out →
 ∃ kk cap,w=.func (.func kk) #[] cap.toArray∧AP prog D kk (.pointer (some ⟨c.bm,0,none⟩)::cap) (MB c N 0 m iv ov 0 0::MGb c m::MFb c m::(R++L)) s (okE p c N (vX p OPp (sem p OPp n) f x m) VE RE [] L) (qeu c N (vX p OPp (sem p OPp n) f x m) [] L)
def SOK(p:Prg)(D n:Nat):Prop:=∀ (L:Hl) (s:World) (c:MC) (N:Nat) (f:Fnc) (d:Nat) (x:Stm) (w:Value) (m:MS) (iv ov:Value) (R:Hl),CT p c s→c.nf=f.params.length+f.locals.length→ViS p f (VeR p f d) (VsR p f d) s x w→MG p c N m iv ov R s→sX p (sem p OPp n) f x m≠.out →
 ∃ kk cap,w=.func (.func kk) #[] cap.toArray∧AP prog D kk (.pointer (some ⟨c.bm,0,none⟩)::cap) (MB c N 0 m iv ov 0 0::MGb c m::MFb c m::(R++L)) s (okE p c N (sX p (sem p OPp n) f x m) VS RS [] L) (qeu c N (sX p (sem p OPp n) f x m) [] L)
theorem qow(p:Prg)(D n:Nat)(ih:VOK p D n)(L:Hl)(s:World)(c:MC)(N:Nat)(f:Fnc)(d:Nat)(x:Ex)(b:Nat)(m:MS)(iv ov:Value)(R:Hl)(hC:CT p c s)(hn:c.nf=f.params.length+f.locals.length)(hv:VeR p f d s x [.func (.func 123) #[] #[.pointer (some ⟨b,0,none⟩)]])(hM:MG p c N m iv ov R s)(hr:(sem p OPp (n+1)).e f x m≠.out):AP prog D 123 [.pointer (some ⟨c.bm,0,none⟩),.pointer (some ⟨b,0,none⟩)] (MB c N 0 m iv ov 0 0::MGb c m::MFb c m::(R++L)) s (okE p c N ((sem p OPp (n+1)).e f x m) VE RE [] L) (qeu c N ((sem p OPp (n+1)).e f x m) [] L):=by
 obtain ⟨r,hq⟩:∃ r,r=(sem p OPp (n+1)).e f x m:=⟨_,rfl⟩
 rw [← hq] at hr ⊢
 change r=(qiB m).and _ at hq
 obtain ⟨e,w,hcb,hw⟩:=hv.opn
 refine qaZ (fn:=f123) qaq func123 V Z ntmps123 Z (rs:=[.tmp 3]) Z [(0,_),(1,_)] Z<|Sr<|At Z Z<|Sr<|Zqm Z Z<|?_
 refine qa3 (first:=[]) (captured:=[]) Z Z Z (qjN D _ _ c N _ m iv ov hM.ll hM.lN) ?_ ?_
 ·
  rintro _ _ sx1 hx1 ⟨hp,g0,rfl⟩ fr9
  repeat (first | refine qaM ?_ | refine qaF ?_)
  refine qa5 [] _ Pr hx1 fun _ hS2=>?_
  exact ⟨hp,m,0,0,_,by rw [hq,qiB,if_pos g0];rfl,rfl,hM.fin _ _ _⟩
 rintro _ _ s1 h1 ⟨g0,rfl⟩
 rw [qiB,if_neg g0] at hq
 simp only [ER.and] at hq
 have hM1:=(hM.le h1).stp
 refine Nt<|Sr<|?_
 obtain ⟨kk,cap,rfl,hI⟩:=ih L _ c N f e x w _ iv ov R (hC.le h1) hn (hw.le h1 fun _ _ h=>VeR.le h1 h) hM1 (by rw [← hq];exact hr)
 rw [← hq] at hI
 refine qaf (qaj Z Z Z (hcb.le h1) Z) Z<|Zqm Z Z ?_
 refine qa3 (first:=[]) (captured:=cap) Z Z Z (hI) ?_ ?_
 ·
  rintro _ _ sx2 hx2 ⟨hp,m1,st1,cd1,Z1,he1,rfl,hF1⟩ fr9
  repeat (first | refine qaM ?_ | refine qaF ?_)
  refine qa5 [] _ Pr (h1.t hx2) fun _ hS2=>?_
  exact ⟨hp,m1,st1,cd1,Z1,he1,rfl,hF1⟩
 rintro _ _ s2 h2 ⟨a1,m1,iv1,ov1,R1,he1,⟨rfl,hu1⟩,rfl,hM2⟩
 refine At Z Z<|Zo<|?_
 refine qaN [] _ (.inr Z) (.t1 Z) Z (h1.t h2) fun _ hS2=>?_
 exact ⟨a1,m1,iv1,ov1,R1,he1,⟨rfl,hu1⟩,rfl,hM2.le ((Lr D).t hS2)⟩
theorem qpy(p:Prg)(D n:Nat)(ih:SOK p D n)(L:Hl)(s:World)(c:MC)(N:Nat)(f:Fnc)(d:Nat)(x:Stm)(b:Nat)(m:MS)(iv ov:Value)(R:Hl)(hC:CT p c s)(hn:c.nf=f.params.length+f.locals.length)(hv:VsR p f d s x [.func (.func 49) #[] #[.pointer (some ⟨b,0,none⟩)]])(hM:MG p c N m iv ov R s)(hr:(sem p OPp (n+1)).t f x m≠.out):AP prog D 49 [.pointer (some ⟨c.bm,0,none⟩),.pointer (some ⟨b,0,none⟩)] (MB c N 0 m iv ov 0 0::MGb c m::MFb c m::(R++L)) s (okE p c N ((sem p OPp (n+1)).t f x m) VS RS [] L) (qeu c N ((sem p OPp (n+1)).t f x m) [] L):=by
 obtain ⟨r,hq⟩:∃ r,r=(sem p OPp (n+1)).t f x m:=⟨_,rfl⟩
 rw [← hq] at hr ⊢
 change r=(qiB m).and _ at hq
 obtain ⟨e,w,hcb,hw⟩:=hv.opn
 refine qaZ (fn:=f49) qaq func49 V Z ntmps49 Z (rs:=[.tmp 3]) Z [(0,_),(1,_)] Z<|Sr<|At Z Z<|Sr<|Zqm Z Z<|?_
 refine qa3 (first:=[]) (captured:=[]) Z Z Z (qjN D _ _ c N _ m iv ov hM.ll hM.lN) ?_ ?_
 ·
  rintro _ _ sx1 hx1 ⟨hp,g0,rfl⟩ fr9
  repeat (first | refine qaM ?_ | refine qaF ?_)
  refine qa5 [] _ Pr hx1 fun _ hS2=>?_
  exact ⟨hp,m,0,0,_,by rw [hq,qiB,if_pos g0];rfl,rfl,hM.fin _ _ _⟩
 rintro _ _ s1 h1 ⟨g0,rfl⟩
 rw [qiB,if_neg g0] at hq
 simp only [ER.and] at hq
 have hM1:=(hM.le h1).stp
 refine Nt<|Sr<|?_
 obtain ⟨kk,cap,rfl,hI⟩:=ih L _ c N f e x w _ iv ov R (hC.le h1) hn (hw.le h1 (fun _ _ h=>VeR.le h1 h) (fun _ _ h=>VsR.le h1 h)) hM1 (by rw [← hq];exact hr)
 rw [← hq] at hI
 refine qaf (qaj Z Z Z (hcb.le h1) Z) Z<|Zqm Z Z ?_
 refine qa3 (first:=[]) (captured:=cap) Z Z Z (hI) ?_ ?_
 ·
  rintro _ _ sx2 hx2 ⟨hp,m1,st1,cd1,Z1,he1,rfl,hF1⟩ fr9
  repeat (first | refine qaM ?_ | refine qaF ?_)
  refine qa5 [] _ Pr (h1.t hx2) fun _ hS2=>?_
  exact ⟨hp,m1,st1,cd1,Z1,he1,rfl,hF1⟩
 rintro _ _ s2 h2 ⟨a1,m1,iv1,ov1,R1,he1,⟨rfl,hu1⟩,rfl,hM2⟩
 refine At Z Z<|Zo<|?_
 refine qaN [] _ (.inr Z) (.t1 Z) Z (h1.t h2) fun _ hS2=>?_
 exact ⟨a1,m1,iv1,ov1,R1,he1,⟨rfl,hu1⟩,rfl,hM2.le ((Lr D).t hS2)⟩
theorem qm3{l:List Int}(h:∀ x∈l,U32 x)(i:Nat):U32 (l.getD i 0):=by
 rw [List.getD_eq_getElem?_getD]
 cases hl:l[i]? with
 | none=>exact ⟨by decide,by decide⟩
 | some x=>exact h x (List.mem_of_getElem? hl)
theorem qrZ{p:Prg}{S:Sem}{f:Fnc}{x:Ex}{m:MS}(hk:x.kind=2)(h:0≤qbg f x.name):vX p OPp S f x m=.ok (m.frm.getD (qbg f x.name).toNat 0) m:=by
 rw [vX,if_neg O,if_pos hk,qjq,if_pos h]
theorem qwh{p:Prg}{S:Sem}{f:Fnc}{x:Ex}{m:MS}{k:Nat}{g:Glo}(hk:x.kind=2)(h:¬ 0≤qbg f x.name)(hg:qdO p x.name=(k:Int))(hp:p.globals[k]?=some g)(h1:g.kind=1):vX p OPp S f x m=.ok g.num m:=by
 rw [vX,if_neg O,if_pos hk,qjq,if_neg h,hg,Int.toNat_natCast,List.getD_eq_getElem?_getD,hp,Option.getD_some,if_pos h1]
theorem qvG{p:Prg}{S:Sem}{f:Fnc}{x:Ex}{m:MS}{k:Nat}{g:Glo}(hk:x.kind=2)(h:¬ 0≤qbg f x.name)(hg:qdO p x.name=(k:Int))(hp:p.globals[k]?=some g)(h1:¬ g.kind=1):vX p OPp S f x m=.ok (m.glo.getD (k:Int).toNat 0) m:=by
 rw [vX,if_neg O,if_pos hk,qjq,if_neg h,hg,Int.toNat_natCast,List.getD_eq_getElem?_getD (l:=p.globals),hp,Option.getD_some,if_neg h1]
theorem MG.rd{p:Prg}{c:MC}{N:Nat}{m:MS}{iv ov:Value}{R:Hl}{s:World}(h:MG p c N m iv ov R s){l:List UInt8}{A:Option Addr}{n q:Nat}(hb:Bts s A n q l):MG p c N { m with inp:=l } (.slice A n q) ov R s:=⟨⟨A,n,q,rfl,hb⟩,h.out,h.ug,h.uf,h.ua,h.ng,h.lg,h.lf,h.lb,h.la,h.ar,h.lo,h.lc,h.ll,h.lN⟩
theorem qvp(D:Nat)(L:Hl)(s:World)(p:Prg)(S:Sem)(c:MC)(N:Nat)(f:Fnc)(x:Ex)(m:MS)(iv ov:Value)(R:Hl)(hn:c.nf=f.params.length+f.locals.length)(hM:MG p c N m iv ov R s)(b:Nat)(A1:Option Addr)(n1 z1:Nat)(hk:x.kind=1)(hc:CellsAt s b 0 [.int .i64 x.kind,.int .i64 x.op,.int .u32 x.num,St x.name,.slice A1 n1 z1])(hu:U32 x.num):AP prog D 162 [.pointer (some ⟨c.bm,0,none⟩),.pointer (some ⟨b,0,none⟩)] (MB c N 0 m iv ov 0 0::MGb c m::MFb c m::(R++L)) s (okE p c N (vX p OPp S f x m) VE RE [] L) (qeu c N (vX p OPp S f x m) [] L):=by
 refine qaZ (fn:=f162) qaq func162 V Z ntmps162 Z (rs:=[.tmp 3]) Z [(0,_),(1,_)] Z<|Sr<|At Z Z<|Sr<|qaf (qbf Z Z Z Z) Z<|qaf (qaC 2 Z Z Z (hc.le (Lr D)) Z) Z<|At Z Z<|Zo<|?_
 refine qaN [] _ (.inr Z) (.t1 Z) Z (Lr D) fun _ hS2=>?_
 exact ⟨_,m,iv,ov,R,by rw [vX,if_pos hk],⟨rfl,hu⟩,rfl,hM.le ((Lr D).t hS2)⟩
theorem qt7(D:Nat)(L:Hl)(s:World)(p:Prg)(S:Sem)(c:MC)(N:Nat)(f:Fnc)(x:Ex)(m:MS)(iv ov:Value)(R:Hl)(hn:c.nf=f.params.length+f.locals.length)(hM:MG p c N m iv ov R s)(b:Nat)(hk:x.kind=2)(h0:0≤qbg f x.name)(hl:qbg f x.name < ((f.params.length+f.locals.length:Nat):Int))(hc:CellsAt s b 0 [.int .i64 (qbg f x.name)]):AP prog D 192 [.pointer (some ⟨c.bm,0,none⟩),.pointer (some ⟨b,0,none⟩)] (MB c N 0 m iv ov 0 0::MGb c m::MFb c m::(R++L)) s (okE p c N (vX p OPp S f x m) VE RE [] L) (qeu c N (vX p OPp S f x m) [] L):=by
 have hl2:qbg f x.name < (m.frm.length:Int):=by rw [hM.lf,hn];exact hl
 have hl3:qbg f x.name < (c.nf:Int):=by rw [hn];exact hl
 refine qaZ (fn:=f192) qaq func192 V Z ntmps192 Z (rs:=[.tmp 3]) Z [(0,_),(1,_)] Z<|Sr<|At Z Z<|Zs<|qay qag 8 Z _ (fun _ h=>h) ?_
 intro s1 h1
 refine za 0 Z (qar Z) Z<|za 1 Z (qbz Z) Z<|za 2 Z (We Y4) Z<|za 3 Z (Wd 0 Y5) Z<|za 4 Z (qaj Z Z Z (hc.le h1) Z) Z<|za 5 Z (qex Z Z Z Z Z Z h0 hl3) Z<|za 6 Z (qdQ 2 Z Z Z Z (qjt h0 hl2)) Z<|za 7 Z (qaY Z) Z<|qad V<|Zt<|Zo<|?_
 refine qaN [] _ (.inr Z) (.t1 Z) Z h1 fun _ hS2=>?_
 exact ⟨_,m,iv,ov,R,qrZ hk h0,⟨rfl,qm3 hM.uf _⟩,rfl,hM.le (h1.t hS2)⟩
theorem qvt(D:Nat)(L:Hl)(s:World)(p:Prg)(S:Sem)(c:MC)(N:Nat)(f:Fnc)(x:Ex)(m:MS)(iv ov:Value)(R:Hl)(hn:c.nf=f.params.length+f.locals.length)(hM:MG p c N m iv ov R s)(b k:Nat)(g:Glo)(A:Option Addr)(n1 z1:Nat)(hk:x.kind=2)(hs:¬ 0≤qbg f x.name)(hg:qdO p x.name=(k:Int))(hp:p.globals[k]?=some g)(gc1:g.kind=1)(hc:CellsAt s b 0 [.int .i64 g.kind,St g.name,.int .u32 g.num,.slice A n1 z1])(hu:U32 g.num):AP prog D 193 [.pointer (some ⟨c.bm,0,none⟩),.pointer (some ⟨b,0,none⟩)] (MB c N 0 m iv ov 0 0::MGb c m::MFb c m::(R++L)) s (okE p c N (vX p OPp S f x m) VE RE [] L) (qeu c N (vX p OPp S f x m) [] L):=by
 refine qaZ (fn:=f193) qaq func193 V Z ntmps193 Z (rs:=[.tmp 3]) Z [(0,_),(1,_)] Z<|Sr<|At Z Z<|Sr<|qaf (qbf Z Z Z Z) Z<|qaf (qaC 2 Z Z Z (hc.le (Lr D)) Z) Z<|At Z Z<|Zo<|?_
 refine qaN [] _ (.inr Z) (.t1 Z) Z (Lr D) fun _ hS2=>?_
 exact ⟨_,m,iv,ov,R,qwh hk hs hg hp gc1,⟨rfl,hu⟩,rfl,hM.le ((Lr D).t hS2)⟩
theorem qvP(D:Nat)(L:Hl)(s:World)(p:Prg)(S:Sem)(c:MC)(N:Nat)(f:Fnc)(x:Ex)(m:MS)(iv ov:Value)(R:Hl)(hn:c.nf=f.params.length+f.locals.length)(hM:MG p c N m iv ov R s)(b k:Nat)(g:Glo)(hk:x.kind=2)(hs:¬ 0≤qbg f x.name)(hg:qdO p x.name=(k:Int))(hp:p.globals[k]?=some g)(gc1:¬ g.kind=1)(hc:CellsAt s b 0 [.int .i64 (k:Int)]):AP prog D 194 [.pointer (some ⟨c.bm,0,none⟩),.pointer (some ⟨b,0,none⟩)] (MB c N 0 m iv ov 0 0::MGb c m::MFb c m::(R++L)) s (okE p c N (vX p OPp S f x m) VE RE [] L) (qeu c N (vX p OPp S f x m) [] L):=by
 have hkl:=(List.getElem?_eq_some_iff.1 hp).1
 have hl2:(k:Int) < (m.glo.length:Int):=by rw [hM.lg,hM.ng];omega
 have hl3:(k:Int) < (c.ng:Int):=by rw [hM.ng];omega
 refine qaZ (fn:=f194) qaq func194 V Z ntmps194 Z (rs:=[.tmp 3]) Z [(0,_),(1,_)] Z<|Sr<|At Z Z<|Zs<|qay qag 8 Z _ (fun _ h=>h) ?_
 intro s1 h1
 refine za 0 Z (qar Z) Z<|za 1 Z (qbz Z) Z<|za 2 Z (We Y4) Z<|za 3 Z (Wd 0 Y5) Z<|za 4 Z (qaj Z Z Z (hc.le h1) Z) Z<|za 5 Z (qex Z Z Z Z Z Z O hl3) Z<|za 6 Z (qdQ 1 Z Z Z Z (qjt O hl2)) Z<|za 7 Z (qaY Z) Z<|qad V<|Zt<|Zo<|?_
 refine qaN [] _ (.inr Z) (.t1 Z) Z h1 fun _ hS2=>?_
 exact ⟨_,m,iv,ov,R,qvG hk hs hg hp gc1,⟨rfl,qm3 hM.ug _⟩,rfl,hM.le (h1.t hS2)⟩
theorem qvF(D:Nat)(L:Hl)(s:World)(p:Prg)(S:Sem)(c:MC)(N:Nat)(f:Fnc)(x:Ex)(m:MS)(iv ov:Value)(R:Hl)(hn:c.nf=f.params.length+f.locals.length)(hM:MG p c N m iv ov R s)(hk:x.kind=5):AP prog D 165 [.pointer (some ⟨c.bm,0,none⟩)] (MB c N 0 m iv ov 0 0::MGb c m::MFb c m::(R++L)) s (okE p c N (vX p OPp S f x m) VE RE [] L) (qeu c N (vX p OPp S f x m) [] L):=by
 obtain ⟨Ai,ni,qi,rfl,hI⟩:=hM.inp
 have hni:=hI.1
 have hvx:vX p OPp S f x m=qnK m:=by rw [vX,if_neg O,if_neg O,if_neg O,if_neg O,if_pos hk]
 rw [hvx]
 refine qaZ (fn:=f165) qaq func165 V Z ntmps165 Z (rs:=[.tmp 2]) Z [(0,_)] Z<|Sr<|At Z Z<|Zs<|Sr<|Zqm Z Z<|qcD Z Z<|Wb Y5<|Wl 0 Y6<|Ws Y4<|qax Z Z Z<|Nt<|?_
 refine qab Z (fun c1=>?_) (fun c1=>?_)
 ·
  have hE:m.inp=[]:=List.eq_nil_of_length_eq_zero O
  refine Sr<|At Z Z<|Zo<|Zu<|?_
  refine qaN [] _ (.inr Z) (.t1 Z) Z (Lr D) fun _ hS2=>?_
  first
    | (exact ⟨_,m,_,ov,R,by simp only [qnK,hE],⟨rfl,⟨by decide,by decide⟩⟩,rfl,hM.le ((Lr D).t hS2)⟩)
    | (exact ⟨_,{ m with inp:=l },_,ov,R,by simp only [qnK,hl],⟨rfl,⟨by omega,by have:=ch.toNat_lt;omega⟩⟩,rfl,(hM.rd hI.tail).le ((Lr D).t hS2)⟩)
 have h0n:0 < ni:=by omega
 obtain ⟨b,off,ch,hAi,hch,hcc⟩:=Bts.at_ hI h0n
 subst hAi
 obtain ⟨l,hl⟩:∃ l,m.inp=ch::l:=by
   cases h:m.inp with
   | nil=>rw [h] at hch;cases hch
   | cons y l=>rw [h] at hch;simp at hch;exact ⟨l,by rw [hch]⟩
 rw [hl] at hI
 refine Zk<|Zt<|Sr<|Zqm Z Z<|qcD Z Z<|Wb Y5<|Wl 0 Y6<|qaf (qaH Z Z Z Z Z Z h0n) Z<|qaf (qaj Z Z Z (hcc.le (Lr D)) Z) Z<|At Z Z<|Sr<|Zqm Z Z<|Zqm Z Z<|qcD Z Z<|Wb Y5<|Wl 0 Y6<|qaf (qvf Z Z Z Z Z (show 1≤ni by omega)) Z<|qcD Z Z<|Wb Y5<|Wt 0 [_,_,_,_,_,_,_,_,_,_,_,_] Y9<|Nt<|Sr<|Zqm Z Z<|?_
 refine qaf (qaw (qf6 Z Z Z Z Z) (congrArg (Value.int .u32) (show IntKind.u32.wrap (ch.toNat:Int)=(ch.toNat:Int) by rw [IntKind.wrap_u32];have:=ch.toNat_lt;omega))) Z<|At Z Z<|Zo<|?_
 refine qaN [] _ (.inr Z) (.t1 Z) Z (Lr D) fun _ hS2=>?_
 first
   | (exact ⟨_,m,_,ov,R,by simp only [qnK,hE],⟨rfl,⟨by decide,by decide⟩⟩,rfl,hM.le ((Lr D).t hS2)⟩)
   | (exact ⟨_,{ m with inp:=l },_,ov,R,by simp only [qnK,hl],⟨rfl,⟨by omega,by have:=ch.toNat_lt;omega⟩⟩,rfl,(hM.rd hI.tail).le ((Lr D).t hS2)⟩)
end Go.Proofs.YtpdnijphccdiiaaGreatDoor
namespace Go.FL
open Go Go.RowKit
variable{P:Program}{TT:qaV}{D n:Nat}{Q:qbD}{fr:Fr}{L:Hl}{s:World}{ops:Array Oper}{rest:List Oper}{d ty:Nat}{pos:String}{af:Array Edge}
theorem que{t e m c k sz b0 o0:Nat}{x y:Operand}{ti te:TI}{A1:Option Addr}{news xs:List Value}(hT:TabOK P TT)(hx:lk fr x=some (.slice (some ⟨b0,o0,none⟩) k k))(hy:lk fr y=some (.slice A1 m c))(ht:qaE TT t=some ti)(hk:ti.kind=.sl e)(he:qaE TT e=some te)(hsz:te.size=sz)
  (hC:CellsAt s b0 o0 xs) (hl:xs.length=k * sz) (hR:Row s A1 m sz news) (hm:0 < m) (h63:(k+m) * te.bytes≤140737488355328∧k+m≤9223372036854775807) (ho:OKL D L s) :
  ∃ g cap ys s',Ev P TT D fr (.call { callee:=.builtin .append,args:=#[x,y],argTypes:=#[t,t] }) ty L s (.value (.slice (some ⟨g,0,none⟩) (k+m) cap)) ((g,cb (xs++news++ys) e)::L) s'∧OKL D ((g,cb (xs++news++ys) e)::L) s'∧Le D s s'∧k+m≤cap∧cap≤9223372036854775807:=by
 have hok:=hT.at_ ht
 obtain ⟨k1,k2,_⟩:=hok
 rw [hk] at k2
 simp only [TK.fits] at k2
 rw [k2] at k1
 have hte:=hT.at_ he
 obtain ⟨i,i1,i2,i3,i4⟩:=qdn hte
 have hpos:0 < te.size:=hte.2.2.2.2.2.1
 have hzs:te.zero.cells.size=te.size:=by rw [qcH hte];simpa using hte.2.2.2.1
 have h0:∃ b off,A1=some ⟨b,off,none⟩∧CellsAt s b off news:=by
  have hl:0 < news.length:=by rw [hR.1,← hsz];exact Nat.mul_pos hm hpos
  obtain ⟨b,off,h1,_⟩:=hR.2.2 0 news[0] (List.getElem?_eq_getElem hl)
  refine ⟨b,off,h1,fun j u hj=>?_⟩
  obtain ⟨b',off',h1',h2⟩:=hR.2.2 j u hj
  rw [h1] at h1'
  injection h1' with h1';injection h1' with e1 e2;subst e1;subst e2
  exact h2
 obtain ⟨b,off,rfl,hcells⟩:=h0
 obtain ⟨v',w',hrun,hown,hgr⟩:=run_append_arg_grows (P:=P) (fill L s) t ty e i te.zero sz te.bytes k1 i1 i4 (i2.trans hsz) i3 (by rw [hzs,hsz]) (by rw [← hsz];exact hpos) ⟨b0,o0,none⟩ k k xs hl (fun j u hj=>by rw [add_lit];exact qc3 ho (hC j u hj)) ⟨b,off,none⟩ m c news hR.1
  (fun j u hj=>by rw [add_lit];exact qc3 ho (hcells j u hj)) O (by simpa [maxLen] using h63.2) h63.1
 obtain ⟨h1,h2⟩:=hown
 rcases h2 with ⟨_,h0⟩ | ⟨g,cap,cur,rfl,hge,hg,hnc,hcm,hcs,ht2⟩
 · omega
 rw [qaB] at hge
 have hsize:=hgr.size
 rw [qaB] at hsize
 have hcur:cur=(xs++news++cur.toList.drop ((k+m) * sz)).toArray:=by
  rw [← ht2,List.take_append_drop]
 have hlt:∀ x∈L,x.1 < s.heap.size:=fun x hx=>ho.lt hx
 obtain ⟨r1,r2,r3⟩:=qhy (D:=D) (L':=(g,cb (xs++news++cur.toList.drop ((k+m) * sz)) e)::L) ho (hgr.os.trans (qcG _ _)) (hgr.tape.trans (qbK _ _)) (hgr.output.trans (qbj _ _)) hsize
  (by
   rw [List.map_cons,List.nodup_cons]
   refine ⟨fun hm2=>?_,ho.nd⟩
   obtain ⟨x,hx,hx2⟩:=List.mem_map.1 hm2
   have:=hlt x hx
   simp only at hx2
   omega)
  (fun x hx=>by
   rcases List.mem_cons.1 hx with rfl | hx
   · rw [hg,cb,← hcur]
   · rw [hgr.block x.1 (by rw [qaB];exact hlt x hx) (by simp),qa2 ho hx])
  (fun x hx=>by
   rcases List.mem_cons.1 hx with rfl | hx
   · exact .inr hge
   · exact .inl (List.mem_map.2 ⟨x,hx,rfl⟩))
  (fun j hj hn=>by rw [hgr.block j (by rw [qaB];exact hj) (by simp),qa8 hn])
 refine ⟨g,cap,_,_,fun hT ho dst pos af g ρ hρ=>⟨?_,r2⟩,r2,r3,hnc,by simpa [maxLen] using hcm⟩
 rw [← r1]
 simp only [execOp,resolve,invoke,builtin,Sem.run_bind,Sem.run_pure,Result.andThen_ok,List.map_toArray,List.map_cons,List.map_nil,hρ x _ hx,hρ y _ hy,hrun]
theorem CellsAt.pre{b off:Nat}{xs ys:List Value}(h:CellsAt s b off (xs++ys)):CellsAt s b off xs:=fun j v hj=>h j v (by rw [List.getElem?_append_left (List.getElem?_eq_some_iff.1 hj).1];exact hj)
theorem CellsAt.nth{b:Nat}{l:List Value}{j:Nat}{v:Value}(h:CellsAt s b 0 l)(hj:l[j]?=some v):CellsAt s b (0+j) [v]:=fun i u hi=>by
 cases i with
 | zero=>simp at hi;subst hi;exact h j v hj
 | succ i=>simp at hi
theorem qtL{t e m c k sz b0 o0:Nat}{x y:Operand}{ti te:TI}{A1:Option Addr}{news xs:List Value}(hx:lk fr x=some (.slice (some ⟨b0,o0,none⟩) k k))(hy:lk fr y=some (.slice A1 m c))(ht:qaE TT t=some ti)(hk:ti.kind=.sl e)(he:qaE TT e=some te)(hsz:te.size=sz)
  (hC:CellsAt s b0 o0 xs) (hl:xs.length=k * sz) (hR:Row s A1 m sz news) (hm:0 < m) (h63:(k+m) * te.bytes≤140737488355328∧k+m≤9223372036854775807) (hd:Nat.blt d n=true)
  (kk:∀ g cap s',Le D s s'→CellsAt s' g 0 (xs++news)→k+m≤cap→cap≤9223372036854775807→JO P TT D n ops Q rest ((d,.slice (some ⟨g,0,none⟩) (k+m) cap)::fr) L s') :
  JO P TT D n ops Q (⟨some d,.call { callee:=.builtin .append,args:=#[x,y],argTypes:=#[t,t] },ty,pos,af,none⟩::rest) fr L s:=fun hT a hr ho=>by
 obtain ⟨g,cap,ys,s',h1,h2,h3,h4,h5⟩:=que (ty:=ty) hT hx hy ht hk he hsz hC hl hR hm h63 ho
 obtain ⟨d1,d2,d3⟩:=qbc (A:=[(g,cb (xs++news++ys) e)]) (B:=L) h2
 refine qfL (L':=L) (s':=fill [(g,cb (xs++news++ys) e)] s') hd (fun hT _ dst pos af g2 ρ hρ=>⟨?_,d2⟩) (kk g cap _ (h3.trans d3) (CellsAt.pre (qef h2)) h4 h5) hT a hr ho
 rw [← d1]
 exact (h1 hT ho dst pos af g2 ρ hρ).1
end Go.FL
namespace Go.Proofs.YtpdnijphccdiiaaGreatDoor
open Go.Proofs.Tryz
open Go.FL
attribute [local irreducible] JC JO JA JB qaO qaD qbV AC fill CellsAt QE Ev Mid
def iX(p:Prg)(S:Sem)(f:Fnc)(nm:Str)(y:Ex)(m:MS):ER Int:=(S.e f y m).and fun i m1=>if ((qfj p nm m1).length:Int)≤i then .fin m1 1 1 else .ok i m1
theorem ER.and_assoc{α β γ:Type}(r:ER α)(k:α→MS→ER β)(g:β→MS→ER γ):(r.and k).and g=r.and fun a m=>(k a m).and g:=by cases r <;> rfl
theorem qvI{p:Prg}{S:Sem}{f:Fnc}{x:Ex}{m:MS}(hk:x.kind=3):vX p OPp S f x m=(iX p S f x.name (qco x.args 0) m).and fun i m1=>.ok ((qfj p x.name m1).getD i.toNat 0) m1:=by
 rw [vX,if_neg O,if_neg O,if_pos hk,iX,ER.and_assoc]
 congr 1
 funext i m1
 split <;> rfl
theorem qqk{p:Prg}{S:Sem}{f:Fnc}{x:Stm}{m:MS}(hk:x.kind=2):sX p S f x m=(iX p S f x.name (qco x.exprs 0) m).and fun i m1=>(S.e f (qco x.exprs 1) m1).and fun v m2=>.ok (0,0) { m2 with arr:=m2.arr.set (qdO p x.name).toNat ((qfj p x.name m2).set i.toNat v) }:=by
 rw [sX,if_neg O,if_pos hk,iX,ER.and_assoc]
 congr 1
 funext i m1
 split <;> rfl
theorem qtv{p:Prg}{S:Sem}{f:Fnc}{nm:Str}{y:Ex}{m m1:MS}{a:Int}(h:iX p S f nm y m=.ok a m1):a < ((qfj p nm m1).length:Int):=by
 unfold iX at h
 cases hr:S.e f y m with
 | out=>rw [hr] at h;cases h
 | fin _ _ _=>rw [hr] at h;cases h
 | ok i m2=>
  rw [hr] at h
  simp only [ER.and] at h
  split at h
  · cases h
  · injection h with h1 h2;subst h1;subst h2;omega
theorem qtd{p:Prg}{S:Sem}{f:Fnc}{x:Ex}{m:MS}(hk:x.kind=4):vX p OPp S f x m=(qbb (S.e f) x.args m).and fun vs m=>S.c (qja p x.name).toNat vs m:=by
 rw [vX,if_neg O,if_neg O,if_neg O,if_pos hk]
theorem quR{p:Prg}{S:Sem}{f:Fnc}{x:Ex}{m:MS}(hk:x.kind=6):vX p OPp S f x m=(S.e f (qco x.args 0) m).and fun a m=>.ok (if (qfk x.op 0).1=0 then opP x.op a 0 else 0) m:=by
 rw [vX,if_neg O,if_neg O,if_neg O,if_neg O,if_neg O,if_pos hk]
 congr 1
 funext a m
 rw [OPp];split <;> rfl
theorem quC{p:Prg}{S:Sem}{f:Fnc}{x:Ex}{m:MS}(hk:x.kind=7):vX p OPp S f x m=(S.e f (qco x.args 0) m).and fun a m=>if x.op=20∧a=0 then .ok 0 m else if x.op=21∧a≠0 then .ok 1 m else (S.e f (qco x.args 1) m).and fun b m=>if (qfk x.op b).1=0 then .ok (opP x.op a b) m else .fin m 1 2:=by
 rw [vX,if_neg O,if_neg O,if_neg O,if_neg O,if_neg O,if_neg O]
 congr 1
 funext a m
 split
 · rfl
 split
 · rfl
 congr 1
 funext b m
 by_cases h:(qfk x.op b).1=0
 · simp only [OPp,if_pos h]
 · simp only [OPp,if_neg h]
theorem opU{k x y:Int}(hx:U32 x)(hy:U32 y):U32 (if (qfk k y).1=0 then opP k x y else 0):=by
 split
 · exact qiD hx hy
 · exact ⟨by decide,by decide⟩
theorem qi5:∀ {ab:List (Option Nat)} {gs:List Glo} {k b:Nat} {g:Glo},ab[k]?=some (some b)→gs[k]?=some g→(qid ab gs)[k]?=some (.slice (some ⟨b,0,none⟩) g.num.toNat g.num.toNat)
 | [],_,_,_,_,h,_=>by simp at h
 | _::_,[],_,_,_,_,h=>by simp at h
 | some b::r,g::gs,0,b2,g2,h1,h2=>by simp at h1 h2;subst h1;subst h2;rfl
 | none::r,g::gs,0,b2,g2,h1,h2=>by simp at h1
 | some b::r,g::gs,k+1,b2,g2,h1,h2=>by rw [qid,List.getElem?_cons_succ];exact qi5 (by simpa using h1) (by simpa using h2)
 | none::r,g::gs,k+1,b2,g2,h1,h2=>by rw [qid,List.getElem?_cons_succ];exact qi5 (by simpa using h1) (by simpa using h2)
theorem qjl:∀ {ab:List (Option Nat)} {ls:List (List Int)} {k b:Nat},ab[k]?=some (some b)→k < ls.length→∃ i,(qdL ab ls)[i]?=some (b,cb (wv (ls.getD k [])) 29)∧i < (qdL ab ls).length∧∀ l,(qdL ab ls).set i (b,cb (wv l) 29)=qdL ab (ls.set k l)
 | [],_,_,_,h,_=>by simp at h
 | _::_,[],_,_,_,h=>by simp at h
 | some b::r,l::ls,0,b2,h1,h2=>by
  simp at h1;subst h1
  exact ⟨0,rfl,by simp [qdL],fun l=>rfl⟩
 | none::r,l::ls,0,b2,h1,h2=>by simp at h1
 | some b::r,l::ls,k+1,b2,h1,h2=>by
  obtain ⟨i,a1,a2,a3⟩:=qjl (ab:=r) (ls:=ls) (k:=k) (b:=b2) (by simpa using h1) (by simpa using h2)
  refine ⟨i+1,by rw [qdL,List.getElem?_cons_succ];simpa using a1,by rw [qdL,List.length_cons];omega,fun l2=>?_⟩
  rw [List.set_cons_succ,qdL,qdL,List.set_cons_succ,a3]
 | none::r,l::ls,k+1,b2,h1,h2=>by
  obtain ⟨i,a1,a2,a3⟩:=qjl (ab:=r) (ls:=ls) (k:=k) (b:=b2) (by simpa using h1) (by simpa using h2)
  exact ⟨i,by rw [qdL];simpa using a1,a2,fun l2=>by rw [List.set_cons_succ,qdL,qdL,a3]⟩
theorem qke{b:Nat}{o o':Obj}:∀ {L:Hl} {i:Nat},L[i]?=some (b,o)→qdV L i o'=L.set i (b,o')
 | [],_,h=>by simp at h
 | x::L,0,h=>by simp at h;subst h;rfl
 | x::L,i+1,h=>by rw [qdV,List.set_cons_succ,qke (by simpa using h)]
section
variable{p:Prg}{c:MC}{N:Nat}{m:MS}{iv ov:Value}{R:Hl}{s:World}{k:Nat}{g:Glo}{nm:Str}
theorem MG.ary(hM:MG p c N m iv ov R s)(hC:CT p c s)(hp:p.globals[k]?=some g)(h3:g.kind=3)(hg:qdO p nm=(k:Int)):∃ b,c.ab[k]?=some (some b)∧CellsAt s c.ba (0+k) [.slice (some ⟨b,0,none⟩) g.num.toNat g.num.toNat]∧(qfj p nm m).length=g.num.toNat∧k < c.ng:=by
 obtain ⟨⟨b,hb⟩,hl⟩:=hM.ar k g hp h3
 exact ⟨b,hb,hC.ar.nth (qi5 hb hp),by rw [qfj,hg,Int.toNat_natCast];exact hl,by rw [hM.ng];exact (List.getElem?_eq_some_iff.1 hp).1⟩
theorem MG.blk{b:Nat}(hM:MG p c N m iv ov R s)(hb:c.ab[k]?=some (some b))(hk:k < c.ng)(hg:qdO p nm=(k:Int))(x y z:Nat×Obj)(L:Hl):∃ i,(x::y::z::(R++L))[i+3]?=some (b,cb (wv (qfj p nm m)) 29)∧∀ l,(∃ R',qdV (x::y::z::(R++L)) (i+3) (cb (wv l) 29)=x::y::z::(R'++L)∧∀ s',MG p c N m iv ov R s'→l.length=(qfj p nm m).length→(∀ v∈l,U32 v)→MG p c N { m with arr:=m.arr.set k l } iv ov R' s'):=by
  obtain ⟨Mo,hR,hO⟩:=hM.out
  obtain ⟨i,a1,a2,a3⟩:=qjl (ls:=m.arr) hb (by rw [hM.la];exact hk)
  have hA:qfj p nm m=m.arr.getD k []:=by rw [qfj,hg,Int.toNat_natCast]
  refine ⟨i,?_,fun l=>⟨qdL c.ab (m.arr.set k l)++Mo,?_,fun s' hM' hl hu=>?_⟩⟩
  · show (R++L)[i]?=_
    rw [hR,List.append_assoc,List.getElem?_append_left a2,a1,hA]
  · rw [← a3,hR,qke (b:=b) (o:=cb (wv (qfj p nm m)) 29)]
    · show x::y::z::((qdL c.ab m.arr++Mo++L).set i _)=_
      rw [List.append_assoc,List.set_append_left _ _ a2,List.append_assoc]
    · show (qdL c.ab m.arr++Mo++L)[i]?=_
      rw [List.append_assoc,List.getElem?_append_left a2,a1,hA]
  · have hk2:k < m.arr.length:=by rw [hM.la];exact hk
    refine ⟨hM'.inp,⟨Mo,Z,hO⟩,hM'.ug,hM'.uf,fun l2 h2 v hv=>?_,hM'.ng,hM'.lg,hM'.lf,hM'.lb,by rw [List.length_set];exact hM'.la,fun j g2 hj h3=>?_,hM'.lo,hM'.lc,hM'.ll,hM'.lN⟩
    · rcases List.mem_or_eq_of_mem_set h2 with h2 | rfl
      · exact hM'.ua l2 h2 v hv
      · exact hu v hv
    · obtain ⟨q1,q2⟩:=hM'.ar j g2 hj h3
      refine ⟨q1,?_⟩
      by_cases hjk:k=j
      · subst hjk
        show ((m.arr.set k l).getD k []).length=_
        rw [List.getD_eq_getElem?_getD,List.getElem?_set_self hk2,Option.getD_some,hl,hA];exact q2
      · show ((m.arr.set k l).getD j []).length=_
        rw [List.getD_eq_getElem?_getD,List.getElem?_set_ne hjk,← List.getD_eq_getElem?_getD];exact q2
theorem MG.ix(hM:MG p c N m iv ov R s)(hg:qdO p nm=(k:Int))(i:Nat):U32 ((qfj p nm m).getD i 0):=by
 refine qm3 (fun x hx=>?_) i
 rw [qfj,hg,Int.toNat_natCast,List.getD_eq_getElem?_getD] at hx
 cases hl:m.arr[k]? with
 | none=>rw [hl] at hx;cases hx
 | some l=>rw [hl] at hx;exact hM.ua l (List.mem_of_getElem? hl) x hx
end
theorem qhJ(p:Prg)(D n:Nat)(hE:EOK p D n)(L:Hl)(s:World)(c:MC)(N:Nat)(f:Fnc)(d:Nat)(y:Ex)(nm:Str)(k b:Nat)(g:Glo)(m:MS)(iv ov:Value)(R:Hl)(hC:CT p c s)(hn:c.nf=f.params.length+f.locals.length)(hM:MG p c N m iv ov R s)(hg:qdO p nm=(k:Int))(hp:p.globals[k]?=some g)(gc3:g.kind=3)(hv:VeR p f d s y [.func (.func 123) #[] #[.pointer (some ⟨b,0,none⟩)]])(hr:iX p (sem p OPp n) f nm y m≠.out):AP prog D 87 [.pointer (some ⟨c.bm,0,none⟩),.int .i64 (k:Int),.func (.func 123) #[] #[.pointer (some ⟨b,0,none⟩)]] (MB c N 0 m iv ov 0 0::MGb c m::MFb c m::(R++L)) s (okE p c N (iX p (sem p OPp n) f nm y m) VE RE [] L) (qeu c N (iX p (sem p OPp n) f nm y m) [] L):=by
 obtain ⟨r,hq⟩:∃ r,r=iX p (sem p OPp n) f nm y m:=⟨_,rfl⟩
 rw [← hq] at hr ⊢
 rw [iX] at hq
 refine qaZ (fn:=f87) qaq func87 V Z ntmps87 Z (rs:=[.tmp 6]) Z [(0,_),(1,_),(2,_)] Z<|Sr<|At Z Z<|Sr<|Zqm Z Z<|Zqm Z Z<|?_
 refine qa3 (first:=[]) (captured:=[.pointer (some ⟨b,0,none⟩)]) Z Z Z (AP.fr (fun L=>hE L _ c N f d y _ m iv ov R (hC.le (Lr D)) hn (hv.le (Lr D)) (hM.le (Lr D)) (qbP hq hr)) [] _) ?_ ?_
 ·
  rintro _ _ sx1 hx1 ⟨hp1,mf1,sf1,cf1,Zf1,he1,rfl,hF1⟩ fr9
  repeat (first | refine qaM ?_ | refine qaF ?_)
  refine qa5 [] _ Pr hx1 fun _ hS2=>?_
  exact ⟨hp1,mf1,sf1,cf1,Zf1,qbS hq he1,rfl,hF1⟩
 rintro _ _ s1 h1 ⟨a1,m1,iv1,ov1,R1,he1,⟨rfl,hu1⟩,rfl,hM1⟩
 rw [he1] at hq
 simp only [ER.and] at hq
 simp only [cQ9,nQ9]
 obtain ⟨ba,hab,hca,hla,hkn⟩:=hM1.ary (hC.le h1) hp gc3 hg
 rw [hla] at hq
 have hlo:=hu1.1
 have hhi:=hu1.2
 have hgu:=(hC.gu g (List.mem_of_getElem? hp)).2
 have hgn:g.num.toNat≤9223372036854775807:=by omega
 refine At Z Z<|Zs<|Sr<|Zqm Z Z<|qaf (qbH Z Z Z Z Z (w64y O O)) Z<|Zqm Z Z<|qcD Z Z<|Wb Y5<|Wl 0 Y6<|Zqm Z Z<|qaf (qaH Z Z Z Z Z Z hkn) Z<|qaf (qaj Z Z Z (hca.le (Lr D)) Z) Z<|Ws Y4<|qaf (qbH Z Z Z Z Z (w64y O O)) Z<|qf1 Z Z Z<|Nt<|?_
 refine qab Z (fun c2=>?_) (fun c2=>?_)
 ·
  have q9:=c2
  refine Zr<|Zqm Z Z<|?_
  refine qa3 (first:=[]) (captured:=[]) Z Z Z (qdg D [] _ _ c N _ m1 iv1 ov1 _ _) ?_ ?_
  ·
   rintro _ _ sx3 hx3 ⟨hp3,rfl⟩ fr9
   repeat (first | refine qaM ?_ | refine qaF ?_)
   refine qa5 [] _ Pr (h1.t hx3) fun _ hS2=>?_
   exact ⟨hp3,m1,_,_,_,by rw [hq,if_pos O],rfl,((hM1.le hx3).fin _ _ _)⟩
  rintro _ _ s3 h3 ⟨⟩
 have q9:=c2
 rw [if_neg O] at hq
 refine Zk<|Zt<|Sr<|Zqm Z Z<|At Z Z<|Zo<|?_
 refine qaN [] _ (.inr Z) (.t1 Z) Z h1 fun _ hS2=>?_
 exact ⟨_,m1,iv1,ov1,R1,hq,⟨rfl,hu1⟩,rfl,(hM1.le ((Lr D).t hS2))⟩
theorem qu4(p:Prg)(D n:Nat)(hE:EOK p D n)(L:Hl)(s:World)(c:MC)(N:Nat)(f:Fnc)(d:Nat)(x:Ex)(m:MS)(iv ov:Value)(R:Hl)(hC:CT p c s)(hn:c.nf=f.params.length+f.locals.length)(hM:MG p c N m iv ov R s)(b1 b2 k:Nat)(g:Glo)(A:Option Addr)(n1 z1:Nat)(hk:x.kind=3)(hg:qdO p x.name=(k:Int))(hp:p.globals[k]?=some g)(gc3:g.kind=3)(gc1:CellsAt s b1 0 [.int .i64 (k:Int)])(gc2:CellsAt s b2 0 [.slice A n1 z1])(hA:VeS p f d s A n1 z1 x.args)(h0:0 < n1)(hr:vX p OPp (sem p OPp n) f x m≠.out):AP prog D 164 [.pointer (some ⟨c.bm,0,none⟩),.pointer (some ⟨b1,0,none⟩),.pointer (some ⟨b2,0,none⟩)] (MB c N 0 m iv ov 0 0::MGb c m::MFb c m::(R++L)) s (okE p c N (vX p OPp (sem p OPp n) f x m) VE RE [] L) (qeu c N (vX p OPp (sem p OPp n) f x m) [] L):=by
 obtain ⟨r,hq⟩:∃ r,r=vX p OPp (sem p OPp n) f x m:=⟨_,rfl⟩
 rw [← hq] at hr ⊢
 rw [qvI hk] at hq
 obtain ⟨B0,o0,b0,rfl,hcE,hvE⟩:=VeS.at_ hA h0
 obtain ⟨ba,hab,hca,hla,hkn⟩:=hM.ary hC hp gc3 hg
 refine qaZ (fn:=f164) qaq func164 V Z ntmps164 Z (rs:=[.tmp 4]) Z [(0,_),(1,_),(2,_)] Z<|Sr<|At Z Z<|Zs<|qay qag 16 Z ([]:Hl) (fun x hx=>by cases hx) ?_
 intro s1 h1
 refine za 0 Z (qar Z) Z<|za 1 Z (qbz Z) Z<|za 2 Z (We Y4) Z<|za 4 Z (qaj Z Z Z (gc1.le h1) Z) Z<|za 7 Z (qar Z) Z<|za 8 Z (qaj Z Z Z (gc1.le h1) Z) Z<|za 9 Z (qaj Z Z Z (gc2.le h1) Z) Z<|za 10 Z (qaH Z Z Z Z Z Z h0) Z<|za 11 Z (qaj Z Z Z (hcE.le h1) Z) Z ?_
 refine qb9 3 12 V ?_ ?_
 ·
  refine qcf Z Tt (Wd 0 Y5) Z<|za 5 Z (qaH Z Z Z Z Z Z hkn) Z<|za 6 Z (qaj Z Z Z (hca.le h1) Z) Z<|qal 12 V ?_
  refine qb6 Z Tt (first:=[]) (captured:=[]) Z Z Z (AP.fr (fun L=>qhJ p D n hE L _ c N f d (qco x.args 0) x.name k b0 g m iv ov R (hC.le h1) hn (hM.le h1) hg hp gc3 (hvE.le h1) (qbP hq hr)) [] _) ?_ ?_
  ·
   rintro _ _ sx2 hx2 ⟨hp2,mf2,sf2,cf2,Zf2,he2,rfl,hF2⟩ fr9
   repeat (first | refine qaM ?_ | refine qaF ?_)
   refine qa5 [] _ Pr (h1.t hx2) fun _ hS2=>?_
   exact ⟨hp2,mf2,sf2,cf2,Zf2,qbS hq he2,rfl,hF2⟩
  rintro _ _ s2 h2 ⟨a2,m2,iv2,ov2,R2,he2,⟨rfl,hu2⟩,rfl,hM2⟩
  refine ⟨(fun x hx=>by cases hx),?_⟩
  rw [he2] at hq
  simp only [ER.and] at hq
  simp only [cQ9,nQ9]
  have hia:=qtv he2
  have hlo:=hu2.1
  obtain ⟨ba2,hab2,_,hla2,_⟩:=hM2.ary (hC.le (h1.t h2)) hp gc3 hg
  rw [hab] at hab2
  injection hab2 with hab2
  injection hab2 with hab2
  subst hab2
  obtain ⟨i,hbi,_⟩:=hM2.blk hab hkn hg (MB c N 0 m2 iv2 ov2 0 0) (MGb c m2) (MFb c m2) L
  refine za 13 Z (qex Z Z Z Z Z Z hlo (show a2 < ((g.num.toNat:Nat):Int) by omega)) Z<|qal 14 V<|qcf Z Tt (qdQ (i+3) Z hbi Z Z (qjt hlo hia)) Z<|za 15 Z (qaY Z) Z<|qad V<|Zt<|Zo<|?_
  refine qaN [] _ (.inr Z) (.t1 Z) Z (h1.t h2) fun _ hS2=>?_
  exact ⟨_,m2,iv2,ov2,R2,hq,⟨rfl,hM2.ix hg _⟩,rfl,(hM2.le ((Lr D).t hS2))⟩
 refine qb6 Z Tt (first:=[]) (captured:=[]) Z Z Z (AP.fr (fun L=>qhJ p D n hE L _ c N f d (qco x.args 0) x.name k b0 g m iv ov R (hC.le h1) hn (hM.le h1) hg hp gc3 (hvE.le h1) (qbP hq hr)) [] _) ?_ ?_
 ·
  rintro _ _ sx3 hx3 ⟨hp3,mf3,sf3,cf3,Zf3,he3,rfl,hF3⟩ fr9
  repeat (first | refine qaM ?_ | refine qaF ?_)
  refine qa5 [] _ Pr (h1.t hx3) fun _ hS2=>?_
  exact ⟨hp3,mf3,sf3,cf3,Zf3,qbS hq he3,rfl,hF3⟩
 rintro _ _ s3 h3 ⟨a3,m3,iv3,ov3,R3,he3,⟨rfl,hu3⟩,rfl,hM3⟩
 refine ⟨(fun x hx=>by cases hx),?_⟩
 rw [he3] at hq
 simp only [ER.and] at hq
 simp only [cQ9,nQ9]
 have hia:=qtv he3
 have hlo:=hu3.1
 obtain ⟨ba2,hab2,_,hla2,_⟩:=hM3.ary (hC.le (h1.t h3)) hp gc3 hg
 rw [hab] at hab2
 injection hab2 with hab2
 injection hab2 with hab2
 subst hab2
 obtain ⟨i,hbi,_⟩:=hM3.blk hab hkn hg (MB c N 0 m3 iv3 ov3 0 0) (MGb c m3) (MFb c m3) L
 refine qal 3 V<|qcf Z Tt (Wd 0 Y5) Z<|za 5 Z (qaH Z Z Z Z Z Z hkn) Z<|za 6 Z (qaj Z Z Z (hca.le h1) Z) Z<|za 13 Z (qex Z Z Z Z Z Z hlo (show a3 < ((g.num.toNat:Nat):Int) by omega)) Z<|qal 14 V<|qcf Z Tt (qdQ (i+3) Z hbi Z Z (qjt hlo hia)) Z<|za 15 Z (qaY Z) Z<|qad V<|Zt<|Zo<|?_
 refine qaN [] _ (.inr Z) (.t1 Z) Z (h1.t h3) fun _ hS2=>?_
 exact ⟨_,m3,iv3,ov3,R3,hq,⟨rfl,hM3.ix hg _⟩,rfl,(hM3.le ((Lr D).t hS2))⟩
theorem qwj(p:Prg)(D n:Nat)(hE:EOK p D n)(L:Hl)(s:World)(c:MC)(N:Nat)(f:Fnc)(d:Nat)(x:Ex)(m:MS)(iv ov:Value)(R:Hl)(hC:CT p c s)(hn:c.nf=f.params.length+f.locals.length)(hM:MG p c N m iv ov R s)(b1 b2:Nat)(A1:Option Addr)(n1 z1:Nat)(A:Option Addr)(n2 z2:Nat)(hk:x.kind=6)(gc1:CellsAt s b1 0 [.int .i64 x.kind,.int .i64 x.op,.int .u32 x.num,St x.name,.slice A1 n1 z1])(gc2:CellsAt s b2 0 [.slice A n2 z2])(hA:VeS p f d s A n2 z2 x.args)(h0:0 < n2)(hr:vX p OPp (sem p OPp n) f x m≠.out):AP prog D 166 [.pointer (some ⟨c.bm,0,none⟩),.pointer (some ⟨b1,0,none⟩),.pointer (some ⟨b2,0,none⟩)] (MB c N 0 m iv ov 0 0::MGb c m::MFb c m::(R++L)) s (okE p c N (vX p OPp (sem p OPp n) f x m) VE RE [] L) (qeu c N (vX p OPp (sem p OPp n) f x m) [] L):=by
 obtain ⟨r,hq⟩:∃ r,r=vX p OPp (sem p OPp n) f x m:=⟨_,rfl⟩
 rw [← hq] at hr ⊢
 rw [quR hk] at hq
 obtain ⟨B0,o0,b0,rfl,hcE,hvE⟩:=VeS.at_ hA h0
 refine qaZ (fn:=f166) qaq func166 V Z ntmps166 Z (rs:=[.tmp 4]) Z [(0,_),(1,_),(2,_)] Z<|Sr<|At Z Z<|Zs<|qay qag 14 Z ([]:Hl) (fun x hx=>by cases hx) ?_
 intro s1 h1
 refine za 0 Z (qbf Z Z Z Z) Z<|za 1 Z (qaC 1 Z Z Z (gc1.le h1) Z) Z<|za 2 Z (qaj Z Z Z (gc2.le h1) Z) Z<|za 3 Z (qaH Z Z Z Z Z Z h0) Z<|za 4 Z (qaj Z Z Z (hcE.le h1) Z) Z<|za 5 Z (qar Z) Z ?_
 refine qb9 6 11 V ?_ ?_
 ·
  refine qb6 Z Tt (first:=[]) (captured:=[.pointer (some ⟨b0,0,none⟩)]) Z Z Z (AP.fr (fun L=>hE L _ c N f d (qco x.args 0) _ m iv ov R (hC.le h1) hn (hvE.le h1) (hM.le h1) (qbP hq hr)) [] _) ?_ ?_
  ·
   rintro _ _ sx2 hx2 ⟨hp2,mf2,sf2,cf2,Zf2,he2,rfl,hF2⟩ fr9
   repeat (first | refine qaM ?_ | refine qaF ?_)
   refine qa5 [] _ Pr (h1.t hx2) fun _ hS2=>?_
   exact ⟨hp2,mf2,sf2,cf2,Zf2,qbS hq he2,rfl,hF2⟩
  rintro _ _ s2 h2 ⟨a2,m2,iv2,ov2,R2,he2,⟨rfl,hu2⟩,rfl,hM2⟩
  refine ⟨(fun x hx=>by cases hx),?_⟩
  rw [he2] at hq
  simp only [ER.and] at hq
  simp only [cQ9,nQ9]
  refine qb9 7 11 V ?_ ?_
  ·
   refine Jb Z Tt Z Z Z (qbx D _ _ x.op a2 0 hu2 ⟨by decide,by decide⟩) ?_
   rintro _ _ s3 h3 ⟨rfl,rfl⟩
   refine ⟨(fun x hx=>by cases hx),?_⟩
   refine za 8 Z (qar Z) Z<|za 9 Z (qbv Z Z) Z<|za 10 Z (qbv Z Z) Z<|qal 11 V<|qao Z Tt Z [_,_] Z Z ?_
   intro β4 s4 h4
   refine za 12 Z (qaY Z) Z<|qal 13 V<|Wu Z Tt 0 [_,_] Y9 (fun x hx=>by cases hx)<|qad V<|Zt<|Sr<|Zqm Z Z<|At Z Z<|Zo<|?_
   refine qaN [_] _ (.inr Z) (.t1 Z) Z (h1.t h2|>.t h3|>.t h4) fun _ hS2=>?_
   exact ⟨_,m2,iv2,ov2,R2,hq,⟨rfl,opU hu2 ⟨by decide,by decide⟩⟩,rfl,(hM2.le (h3.t h4|>.t hS2))⟩
  refine qao Z Tt Z [_,_] Z Z ?_
  intro β5 s5 h5
  refine qal 7 V<|Jb Z Tt Z Z Z (qbx D _ _ x.op a2 0 hu2 ⟨by decide,by decide⟩) ?_
  rintro _ _ s6 h6 ⟨rfl,rfl⟩
  refine ⟨(fun x hx=>by cases hx),?_⟩
  refine za 8 Z (qar Z) Z<|za 9 Z (qbv Z Z) Z<|za 10 Z (qbv Z Z) Z<|za 12 Z (qaY Z) Z<|qal 13 V<|Wu Z Tt 0 [_,_] Y9 (fun x hx=>by cases hx)<|qad V<|Zt<|Sr<|Zqm Z Z<|At Z Z<|Zo<|?_
  refine qaN [_] _ (.inr Z) (.t1 Z) Z (h1.t h2|>.t h5|>.t h6) fun _ hS2=>?_
  exact ⟨_,m2,iv2,ov2,R2,hq,⟨rfl,opU hu2 ⟨by decide,by decide⟩⟩,rfl,(hM2.le (h5.t h6|>.t hS2))⟩
 refine qao Z Tt Z [_,_] Z Z ?_
 intro β7 s7 h7
 refine qal 6 V ?_
 refine qb6 Z Tt (first:=[]) (captured:=[.pointer (some ⟨b0,0,none⟩)]) Z Z Z (AP.fr (fun L=>hE L _ c N f d (qco x.args 0) _ m iv ov R (hC.le (h1.t h7)) hn (hvE.le (h1.t h7)) (hM.le (h1.t h7)) (qbP hq hr)) [_] _) ?_ ?_
 ·
  rintro _ _ sx8 hx8 ⟨hp8,mf8,sf8,cf8,Zf8,he8,rfl,hF8⟩ fr9
  repeat (first | refine qaM ?_ | refine qaF ?_)
  refine qa5 [_] _ Pr (h1.t h7|>.t hx8) fun _ hS2=>?_
  exact ⟨hp8,mf8,sf8,cf8,Zf8,qbS hq he8,rfl,hF8⟩
 rintro _ _ s8 h8 ⟨a8,m8,iv8,ov8,R8,he8,⟨rfl,hu8⟩,rfl,hM8⟩
 refine ⟨(fun x hx=>by cases hx),?_⟩
 rw [he8] at hq
 simp only [ER.and] at hq
 simp only [cQ9,nQ9]
 refine qal 7 V<|Jb Z Tt Z Z Z (qbx D _ _ x.op a8 0 hu8 ⟨by decide,by decide⟩) ?_
 rintro _ _ s9 h9 ⟨rfl,rfl⟩
 refine ⟨(fun x hx=>by cases hx),?_⟩
 refine za 8 Z (qar Z) Z<|za 9 Z (qbv Z Z) Z<|za 10 Z (qbv Z Z) Z<|za 12 Z (qaY Z) Z<|qal 13 V<|Wu Z Tt 0 [_,_] Y9 (fun x hx=>by cases hx)<|qad V<|Zt<|Sr<|Zqm Z Z<|At Z Z<|Zo<|?_
 refine qaN [_] _ (.inr Z) (.t1 Z) Z (h1.t h7|>.t h8|>.t h9) fun _ hS2=>?_
 exact ⟨_,m8,iv8,ov8,R8,hq,⟨rfl,opU hu8 ⟨by decide,by decide⟩⟩,rfl,(hM8.le (h9.t hS2))⟩
theorem qvV(p:Prg)(D n:Nat)(hE:EOK p D n)(L:Hl)(s:World)(c:MC)(N:Nat)(f:Fnc)(d:Nat)(x:Ex)(m:MS)(iv ov:Value)(R:Hl)(hC:CT p c s)(hn:c.nf=f.params.length+f.locals.length)(hM:MG p c N m iv ov R s)(b1 b2 b3 b4 b5:Nat)(hk:x.kind=7)(gc1:CellsAt s b1 0 [.func (.func 123) #[] #[.pointer (some ⟨b4,0,none⟩)]])(gc2:CellsAt s b2 0 [.int .i64 x.op])(gc3:CellsAt s b3 0 [.func (.func 123) #[] #[.pointer (some ⟨b5,0,none⟩)]])(hv1:VeR p f d s (qco x.args 0) [.func (.func 123) #[] #[.pointer (some ⟨b4,0,none⟩)]])(hv2:VeR p f d s (qco x.args 1) [.func (.func 123) #[] #[.pointer (some ⟨b5,0,none⟩)]])(hr:vX p OPp (sem p OPp n) f x m≠.out):AP prog D 195 [.pointer (some ⟨c.bm,0,none⟩),.pointer (some ⟨b1,0,none⟩),.pointer (some ⟨b2,0,none⟩),.pointer (some ⟨b3,0,none⟩)] (MB c N 0 m iv ov 0 0::MGb c m::MFb c m::(R++L)) s (okE p c N (vX p OPp (sem p OPp n) f x m) VE RE [] L) (qeu c N (vX p OPp (sem p OPp n) f x m) [] L):=by
 obtain ⟨r,hq⟩:∃ r,r=vX p OPp (sem p OPp n) f x m:=⟨_,rfl⟩
 rw [← hq] at hr ⊢
 rw [quC hk] at hq
 refine qaZ (fn:=f195) qaq func195 V Z ntmps195 Z (rs:=[.tmp 5]) Z [(0,_),(1,_),(2,_),(3,_)] Z<|Sr<|At Z Z<|Sr<|qaf (qaj Z Z Z (gc1.le (Lr D)) Z) Z<|Zqm Z Z ?_
 refine qa3 (first:=[]) (captured:=[.pointer (some ⟨b4,0,none⟩)]) Z Z Z (AP.fr (fun L=>hE L _ c N f d (qco x.args 0) _ m iv ov R (hC.le (Lr D)) hn (hv1.le (Lr D)) (hM.le (Lr D)) (qbP hq hr)) [] _) ?_ ?_
 ·
  rintro _ _ sx1 hx1 ⟨hp1,mf1,sf1,cf1,Zf1,he1,rfl,hF1⟩ fr9
  repeat (first | refine qaM ?_ | refine qaF ?_)
  refine qa5 [] _ Pr hx1 fun _ hS2=>?_
  exact ⟨hp1,mf1,sf1,cf1,Zf1,qbS hq he1,rfl,hF1⟩
 rintro _ _ s1 h1 ⟨a1,m1,iv1,ov1,R1,he1,⟨rfl,hu1⟩,rfl,hM1⟩
 rw [he1] at hq
 simp only [ER.and] at hq
 simp only [cQ9,nQ9]
 refine At Z Z<|Zs<|?_
 refine qaR 17 (x.op=20∧a1=0) ?_ ?_
 ·
  refine Zr<|qaf (qaj Z Z Z (gc2.le h1) Z) Z<|qax Z Z Z<|Zqm Z Z<|?_
  refine qak (t:=14) Z (fun c3=>?_) (fun c3=>?_)
  ·
   refine Zg Z Z<|Zqm Z Z<|Zg Z Z<|qax Z Z Z<|ZqT Z Z Z<|Zn<|?_
   refine qaa (MidB.mk (Lr D) Sb Z (decide_eq_decide.2 O))
  refine Wf Y4<|Wf Y4<|ZqF Z Z Z<|Zn<|?_
  refine qaa (MidB.mk (Lr D) Sb Z ((decide_eq_false O).symm))
 intro s2 h2
 refine qab Z (fun c4=>?_) (fun c4=>?_)
 ·
  rw [if_pos c4] at hq
  refine Sr<|At Z Z<|Zo<|Zu<|?_
  refine qaN [] _ (.inr Z) (.t1 Z) Z (h1.t h2) fun _ hS2=>?_
  first
    | (exact ⟨_,m1,iv1,ov1,R1,hq,⟨rfl,⟨by decide,by decide⟩⟩,rfl,(hM1.le (h2.t hS2))⟩)
    | (exact ⟨_,m1,iv1,ov1,R1,hq,⟨by rw [if_pos q8];rfl,qiD hu1 hu1⟩,rfl,(hM1.le (h2.t hS2))⟩)
 rw [if_neg c4] at hq
 refine Zk<|Zt<|Zs<|?_
 refine qaR 23 (x.op=21∧a1≠0) ?_ ?_
 ·
  refine Zr<|qaf (qaj Z Z Z (gc2.le (h1.t h2)) Z) Z<|qax Z Z Z<|Zqm Z Z<|?_
  refine qak (t:=20) Z (fun c6=>?_) (fun c6=>?_)
  ·
   refine Zg Z Z<|Zqm Z Z<|Zg Z Z<|qcj Z Z Z<|ZqT Z Z Z<|Zn<|?_
   refine qaa (MidB.mk (Lr D) Sb Z (qbq O))
  refine Wf Y4<|Wf Y4<|ZqF Z Z Z<|Zn<|?_
  refine qaa (MidB.mk (Lr D) Sb Z ((decide_eq_false O).symm))
 intro s5 h5
 refine qab Z (fun c7=>?_) (fun c7=>?_)
 ·
  rw [if_pos c7] at hq
  refine Sr<|At Z Z<|Zo<|Zu<|?_
  refine qaN [] _ (.inr Z) (.t1 Z) Z (h1.t h2|>.t h5) fun _ hS2=>?_
  first
    | (exact ⟨_,m1,iv1,ov1,R1,hq,⟨rfl,⟨by decide,by decide⟩⟩,rfl,(hM1.le (h2.t h5|>.t hS2))⟩)
    | (exact ⟨_,m1,iv1,ov1,R1,hq,⟨by rw [if_pos q8];rfl,qiD hu1 hu1⟩,rfl,(hM1.le (h2.t h5|>.t hS2))⟩)
 rw [if_neg c7] at hq
 refine Zk<|Zt<|Zs<|qay qag 12 Z ([]:Hl) (fun x hx=>by cases hx) ?_
 intro s8 h8
 refine za 0 Z (qaj Z Z Z (gc2.le (h1.t h2|>.t h5|>.t h8)) Z) Z<|za 1 Z (qar Z) Z<|za 2 Z (qaj Z Z Z (gc3.le (h1.t h2|>.t h5|>.t h8)) Z) Z<|za 3 Z (qar Z) Z ?_
 refine qb9 4 9 V ?_ ?_
 ·
  refine qb6 Z Tt (first:=[]) (captured:=[.pointer (some ⟨b5,0,none⟩)]) Z Z Z (AP.fr (fun L=>hE L _ c N f d (qco x.args 1) _ m1 iv1 ov1 R1 (hC.le (h1.t h2|>.t h5|>.t h8)) hn (hv2.le (h1.t h2|>.t h5|>.t h8)) (hM1.le (h2.t h5|>.t h8)) (qbP hq hr)) [] _) ?_ ?_
  ·
   rintro _ _ sx9 hx9 ⟨hp9,mf9,sf9,cf9,Zf9,he9,rfl,hF9⟩ fr9
   repeat (first | refine qaM ?_ | refine qaF ?_)
   refine qa5 [] _ Pr (h1.t h2|>.t h5|>.t h8|>.t hx9) fun _ hS2=>?_
   exact ⟨hp9,mf9,sf9,cf9,Zf9,qbS hq he9,rfl,hF9⟩
  rintro _ _ s9 h9 ⟨a9,m9,iv9,ov9,R9,he9,⟨rfl,hu9⟩,rfl,hM9⟩
  refine ⟨(fun x hx=>by cases hx),?_⟩
  rw [he9] at hq
  simp only [ER.and] at hq
  simp only [cQ9,nQ9]
  refine qb9 5 9 V ?_ ?_
  ·
   refine Jb Z Tt Z Z Z (qbx D _ _ x.op a1 a9 hu1 hu9) ?_
   rintro _ _ s10 h10 ⟨rfl,rfl⟩
   refine ⟨(fun x hx=>by cases hx),?_⟩
   refine za 6 Z (qar Z) Z<|za 7 Z (qbv Z Z) Z<|za 8 Z (qbv Z Z) Z<|qal 9 V<|qao Z Tt Z [_,_] Z Z ?_
   intro β11 s11 h11
   refine za 10 Z (qaY Z) Z<|qal 11 V<|Wu Z Tt 0 [_,_] Y9 (fun x hx=>by cases hx)<|qad V<|Zt<|Zs<|Sr<|qaf (qan 0 [_,_] Z Z Z Z Z) Z<|qaf (qam [] [_,_] Z Z Z Z Z Z) Z<|qaf (qdY Z Z (qbX _ _ _ _)) Z<|Nt<|?_
   refine qaK Z (fun c12=>?_) (fun c12=>?_)
   ·
    have q9:¬ (qfk x.op _).1=0:=fun h=>c12 (by rw [qgB h];exact ⟨rfl,rfl⟩)
    refine Zr<|Zqm Z Z<|?_
    refine qa3 (first:=[]) (captured:=[]) Z Z Z (qdg D [_] _ _ c N _ m9 iv9 ov9 _ _) ?_ ?_
    ·
     rintro _ _ sx13 hx13 ⟨hp13,rfl⟩ fr9
     repeat (first | refine qaM ?_ | refine qaF ?_)
     refine qa5 [_] _ Pr (h1.t h2|>.t h5|>.t h8|>.t h9|>.t h10|>.t h11|>.t hx13) fun _ hS2=>?_
     exact ⟨hp13,m9,_,_,_,by rw [hq,if_neg q9],rfl,((hM9.le (h10.t h11|>.t hx13)).fin _ _ _)⟩
    rintro _ _ s13 h13 ⟨⟩
   have q8:=c12.1
   rw [if_pos q8] at hq
   refine Zk<|Zt<|Sr<|Zqm Z Z<|At Z Z<|Zo<|?_
   refine qaN [_] _ (.inr Z) (.t1 Z) Z (h1.t h2|>.t h5|>.t h8|>.t h9|>.t h10|>.t h11) fun _ hS2=>?_
   first
     | (exact ⟨_,m9,iv9,ov9,R9,hq,⟨rfl,⟨by decide,by decide⟩⟩,rfl,(hM9.le (h10.t h11|>.t hS2))⟩)
     | (exact ⟨_,m9,iv9,ov9,R9,hq,⟨by rw [if_pos q8];rfl,qiD hu1 hu9⟩,rfl,(hM9.le (h10.t h11|>.t hS2))⟩)
  refine qao Z Tt Z [_,_] Z Z ?_
  intro β14 s14 h14
  refine qal 5 V<|Jb Z Tt Z Z Z (qbx D _ _ x.op a1 a9 hu1 hu9) ?_
  rintro _ _ s15 h15 ⟨rfl,rfl⟩
  refine ⟨(fun x hx=>by cases hx),?_⟩
  refine za 6 Z (qar Z) Z<|za 7 Z (qbv Z Z) Z<|za 8 Z (qbv Z Z) Z<|za 10 Z (qaY Z) Z<|qal 11 V<|Wu Z Tt 0 [_,_] Y9 (fun x hx=>by cases hx)<|qad V<|Zt<|Zs<|Sr<|qaf (qan 0 [_,_] Z Z Z Z Z) Z<|qaf (qam [] [_,_] Z Z Z Z Z Z) Z<|qaf (qdY Z Z (qbX _ _ _ _)) Z<|Nt<|?_
  refine qaK Z (fun c16=>?_) (fun c16=>?_)
  ·
   have q9:¬ (qfk x.op _).1=0:=fun h=>c16 (by rw [qgB h];exact ⟨rfl,rfl⟩)
   refine Zr<|Zqm Z Z<|?_
   refine qa3 (first:=[]) (captured:=[]) Z Z Z (qdg D [_] _ _ c N _ m9 iv9 ov9 _ _) ?_ ?_
   ·
    rintro _ _ sx17 hx17 ⟨hp17,rfl⟩ fr9
    repeat (first | refine qaM ?_ | refine qaF ?_)
    refine qa5 [_] _ Pr (h1.t h2|>.t h5|>.t h8|>.t h9|>.t h14|>.t h15|>.t hx17) fun _ hS2=>?_
    exact ⟨hp17,m9,_,_,_,by rw [hq,if_neg q9],rfl,((hM9.le (h14.t h15|>.t hx17)).fin _ _ _)⟩
   rintro _ _ s17 h17 ⟨⟩
  have q8:=c16.1
  rw [if_pos q8] at hq
  refine Zk<|Zt<|Sr<|Zqm Z Z<|At Z Z<|Zo<|?_
  refine qaN [_] _ (.inr Z) (.t1 Z) Z (h1.t h2|>.t h5|>.t h8|>.t h9|>.t h14|>.t h15) fun _ hS2=>?_
  first
    | (exact ⟨_,m9,iv9,ov9,R9,hq,⟨rfl,⟨by decide,by decide⟩⟩,rfl,(hM9.le (h14.t h15|>.t hS2))⟩)
    | (exact ⟨_,m9,iv9,ov9,R9,hq,⟨by rw [if_pos q8];rfl,qiD hu1 hu9⟩,rfl,(hM9.le (h14.t h15|>.t hS2))⟩)
 refine qao Z Tt Z [_,_] Z Z ?_
 intro β18 s18 h18
 refine qal 4 V ?_
 refine qb6 Z Tt (first:=[]) (captured:=[.pointer (some ⟨b5,0,none⟩)]) Z Z Z (AP.fr (fun L=>hE L _ c N f d (qco x.args 1) _ m1 iv1 ov1 R1 (hC.le (h1.t h2|>.t h5|>.t h8|>.t h18)) hn (hv2.le (h1.t h2|>.t h5|>.t h8|>.t h18)) (hM1.le (h2.t h5|>.t h8|>.t h18)) (qbP hq hr)) [_] _) ?_ ?_
 ·
  rintro _ _ sx19 hx19 ⟨hp19,mf19,sf19,cf19,Zf19,he19,rfl,hF19⟩ fr9
  repeat (first | refine qaM ?_ | refine qaF ?_)
  refine qa5 [_] _ Pr (h1.t h2|>.t h5|>.t h8|>.t h18|>.t hx19) fun _ hS2=>?_
  exact ⟨hp19,mf19,sf19,cf19,Zf19,qbS hq he19,rfl,hF19⟩
 rintro _ _ s19 h19 ⟨a19,m19,iv19,ov19,R19,he19,⟨rfl,hu19⟩,rfl,hM19⟩
 refine ⟨(fun x hx=>by cases hx),?_⟩
 rw [he19] at hq
 simp only [ER.and] at hq
 simp only [cQ9,nQ9]
 refine qal 5 V<|Jb Z Tt Z Z Z (qbx D _ _ x.op a1 a19 hu1 hu19) ?_
 rintro _ _ s20 h20 ⟨rfl,rfl⟩
 refine ⟨(fun x hx=>by cases hx),?_⟩
 refine za 6 Z (qar Z) Z<|za 7 Z (qbv Z Z) Z<|za 8 Z (qbv Z Z) Z<|za 10 Z (qaY Z) Z<|qal 11 V<|Wu Z Tt 0 [_,_] Y9 (fun x hx=>by cases hx)<|qad V<|Zt<|Zs<|Sr<|qaf (qan 0 [_,_] Z Z Z Z Z) Z<|qaf (qam [] [_,_] Z Z Z Z Z Z) Z<|qaf (qdY Z Z (qbX _ _ _ _)) Z<|Nt<|?_
 refine qaK Z (fun c21=>?_) (fun c21=>?_)
 ·
  have q9:¬ (qfk x.op _).1=0:=fun h=>c21 (by rw [qgB h];exact ⟨rfl,rfl⟩)
  refine Zr<|Zqm Z Z<|?_
  refine qa3 (first:=[]) (captured:=[]) Z Z Z (qdg D [_] _ _ c N _ m19 iv19 ov19 _ _) ?_ ?_
  ·
   rintro _ _ sx22 hx22 ⟨hp22,rfl⟩ fr9
   repeat (first | refine qaM ?_ | refine qaF ?_)
   refine qa5 [_] _ Pr (h1.t h2|>.t h5|>.t h8|>.t h18|>.t h19|>.t h20|>.t hx22) fun _ hS2=>?_
   exact ⟨hp22,m19,_,_,_,by rw [hq,if_neg q9],rfl,((hM19.le (h20.t hx22)).fin _ _ _)⟩
  rintro _ _ s22 h22 ⟨⟩
 have q8:=c21.1
 rw [if_pos q8] at hq
 refine Zk<|Zt<|Sr<|Zqm Z Z<|At Z Z<|Zo<|?_
 refine qaN [_] _ (.inr Z) (.t1 Z) Z (h1.t h2|>.t h5|>.t h8|>.t h18|>.t h19|>.t h20) fun _ hS2=>?_
 first
   | (exact ⟨_,m19,iv19,ov19,R19,hq,⟨rfl,⟨by decide,by decide⟩⟩,rfl,(hM19.le (h20.t hS2))⟩)
   | (exact ⟨_,m19,iv19,ov19,R19,hq,⟨by rw [if_pos q8];rfl,qiD hu1 hu19⟩,rfl,(hM19.le (h20.t hS2))⟩)
theorem qsZ{r:ER (List Int)}:(r.and fun vs m=>.ok ([]++vs) m)=r:=by cases r <;> rfl
theorem quZ{E:Ex→MS→ER Int}{l:List Ex}{k:Nat}(h:k < l.length)(pre:List Int)(m:MS):(qbb E (l.drop k) m).and (fun vs m=>.ok (pre++vs) m)=(E (qco l k) m).and fun v m=>(qbb E (l.drop (k+1)) m).and fun vs m=>.ok ((pre++[v])++vs) m:=by
 have e:qco l k=l[k]:=by rw [qco,List.getD_eq_getElem?_getD,List.getElem?_eq_getElem h];rfl
 rw [List.drop_eq_getElem_cons h,qbb,ER.and_assoc,e]
 congr 1
 funext v m
 rw [ER.and_assoc]
 congr 1
 funext vs m
 simp [ER.and,List.append_assoc]
structure CG where
 k:Nat
 pre:List Int
 m:MS
 iv:Value
 ov:Value
 R:Hl
 v:Value
 M:Hl
theorem wvs1(w:List Int)(x:Int):wv (w++[x])=wv w++[.int .u32 x]:=by simp [wv]
theorem qkt(p:Prg)(D n:Nat)(hE:EOK p D n)(L:Hl)(s:World)(c:MC)(N:Nat)(f:Fnc)(d:Nat)(xs:List Ex)(m:MS)(iv ov:Value)(R:Hl)(hC:CT p c s)(hn:c.nf=f.params.length+f.locals.length)(hM:MG p c N m iv ov R s)(hK:COK p D n)(b1 b2 k:Nat)(fk:Fnc)(A:Option Addr)(n1 z1:Nat)(gc1:CellsAt s b1 0 [.slice A n1 z1])(gc2:CellsAt s b2 0 [.int .i64 (k:Int)])(hA:VeS p f d s A n1 z1 xs)(hp:p.funcs[k]?=some fk)(hl:xs.length=fk.params.length)(hr:((qbb ((sem p OPp n).e f) xs m).and fun vs m=>(sem p OPp n).c k vs m)≠.out):AP prog D 130 [.pointer (some ⟨c.bm,0,none⟩),.pointer (some ⟨b1,0,none⟩),.pointer (some ⟨b2,0,none⟩)] (MB c N 0 m iv ov 0 0::MGb c m::MFb c m::(R++L)) s (okE p c N ((qbb ((sem p OPp n).e f) xs m).and fun vs m=>(sem p OPp n).c k vs m) VE RE [] L) (qeu c N ((qbb ((sem p OPp n).e f) xs m).and fun vs m=>(sem p OPp n).c k vs m) [] L):=by
 obtain ⟨r,hq⟩:∃ r,r=(qbb ((sem p OPp n).e f) xs m).and fun vs m=>(sem p OPp n).c k vs m:=⟨_,rfl⟩
 rw [← hq] at hr ⊢
 have hf9:=hC.fs fk (List.mem_of_getElem? hp)
 have hn1:=hA.1
 have hc1:=hA.2.1
 have hc2:=hA.2.2.1
 refine qaZ (fn:=f130) qaq func130 V Z ntmps130 Z (rs:=[.tmp 4]) Z [(0,_),(1,_),(2,_)] Z<|Sr<|At Z Z<|Sr<|At Z Z<|Zs<|Sr<|qaf (qaj Z Z Z (gc1.le (Lr D)) Z) Z<|Ws Y4<|Zqm Z Z<|Nt<|Zp<|?_
 refine qat (γ:=CG) (fun g=>[(0,_),(2,_),(4,_),(5,g.v),(8,_),(9,_),(10,.int .i64 (g.k:Int))]) (fun g=>g.M++(MB c N 0 g.m g.iv g.ov 0 0::MGb c g.m::MFb c g.m::(g.R++L))) (fun g tw=>Le D s tw∧(g.k≤n1∧MG p c N g.m g.iv g.ov g.R tw∧FL.Own 29 1 g.M g.v g.pre.length (wv g.pre)∧g.pre.length=g.k∧(∀ x∈g.pre,U32 x)∧r=((qbb ((sem p OPp n).e f) (xs.drop g.k) g.m).and fun vs m=>.ok (g.pre++vs) m).and fun vs m=>(sem p OPp n).c k vs m)) (fun g=>n1 - g.k) (fun _ _ _ h hl=>⟨h.1.trans hl,⟨h.2.1,h.2.2.1.le hl,h.2.2.2⟩⟩) ⟨0,[],m,iv,ov,R,.slice none 0 0,[]⟩ (.c6 Z Z Z Z Z Z (.cons Z (.nil _))) Z ⟨Le.refl _,⟨Nat.zero_le _,hM.le (Lr D),.nil,Z,fun x hx=>(by cases hx),by rw [hq,List.drop_zero,qsZ]⟩⟩ ?_
 intro g s1 I1
 obtain ⟨j,pre,mk,ivk,ovk,Rk,vk,Mk⟩:=g
 obtain ⟨hj0,hMk,hOk,hpl,hup,hq⟩:j≤n1∧MG p c N mk ivk ovk Rk s1∧FL.Own 29 1 Mk vk pre.length (wv pre)∧pre.length=j∧(∀ x∈pre,U32 x)∧r=((qbb ((sem p OPp n).e f) (xs.drop j) mk).and fun vs m=>.ok (pre++vs) m).and fun vs m=>(sem p OPp n).c k vs m:=I1.2
 obtain ⟨Av,cv,rfl,_,_⟩:=Own.slice hOk
 dsimp only
 refine Sr<|qba Z Z Z<|Nt<|Zs<|?_
 refine qab Z (fun c2=>?_) (fun c2=>?_)
 ·
  have hj:j < n1:=by omega
  rw [quZ O,ER.and_assoc] at hq
  obtain ⟨B0,o0,b0,hAe,hcE,hvE⟩:=VeS.at_ (hA.le I1.1) hj
  subst hAe
  refine Zk<|Zt<|Zs<|Zp<|Sr<|qaf (qaH Z Z Z Z Z Z hj) Z<|qaf (qaj Z Z Z (hcE.le (Lr D)) Z) Z<|At Z Z<|Zr<|Zqm Z Z<|Zqm Z Z<|Zqm Z Z<|?_
  refine qa3 (first:=[]) (captured:=[.pointer (some ⟨b0,0,none⟩)]) Z Z Z (AP.fr (fun L=>hE L _ c N f d (qco xs j) _ mk ivk ovk Rk (hC.le I1.1) hn (hvE.le (Lr D)) (hMk.le (Lr D)) (qbP hq hr)) Mk _) ?_ ?_
  ·
   rintro _ _ sx3 hx3 ⟨hp3,mf3,sf3,cf3,Zf3,he3,rfl,hF3⟩ fr9
   repeat (first | refine qaM ?_ | refine qaF ?_)
   refine qa5 Mk _ Pr (I1.1.t hx3) fun _ hS2=>?_
   exact ⟨hp3,mf3,sf3,cf3,Zf3,qbS hq he3,rfl,hF3⟩
  rintro _ _ s3 h3 ⟨a3,m3,iv3,ov3,R3,he3,⟨rfl,hu3⟩,rfl,hM3⟩
  rw [he3] at hq
  simp only [ER.and] at hq
  refine qbt [(_,_)] [_] Z Z Z Z Z Z Z Z Z ?_
  intro β4 s4 h4 hc4
  refine qbd (sz:=1) [] Mk _ Z Z Z Z Z Z Z hOk (Row.of_cells (hc4.le (Lr D)) Z Z) ⟨by simp [ti29];omega,by omega⟩ Z ?_
  intro v9 M9 s5 h5 oq
  obtain ⟨A9,c9,rfl,_,_⟩:=Own.slice oq
  simp only [List.nil_append]
  refine Zqa Z Z<|Zn<|Zb<|Zt<|Zr<|qaG Z Z Z (w64 O O)<|Zqm Z Z<|Zn<|?_
  refine qaa ⟨⟨j+1,pre++[a3],m3,iv3,ov3,R3,_,M9⟩,[],kp,Z,⟨(I1.1.t h3|>.t h4|>.t h5),⟨by show j+1≤n1;omega,(hM3.le (h4.t h5)),by rw [wvs1,List.length_append];exact oq,by simp;omega,fun x hx=>by rcases List.mem_append.1 hx with hx | hx;exact hup x hx;cases List.mem_singleton.1 hx;exact hu3,hq⟩⟩,(by show n1 - (j+1) < n1 - j;omega)⟩
 rw [List.drop_eq_nil_of_le O,qbb] at hq
 simp only [ER.and,List.append_nil] at hq
 refine Zl<|Zv<|Zv<|Zd<|Zt<|Zs<|qbs [] Mk _ ?_
 intro s6 h6 hpub6
 simp only [cQ9,nQ9]
 have hW:=Own.wds hOk hup hpub6
 refine Zr<|Zqm Z Z<|qaf (qaj Z Z Z (gc2.le (I1.1.t h6)) Z) Z<|Zqm Z Z ?_
 refine qa3 (first:=[]) (captured:=[]) Z Z Z (AP.fr (fun L=>hK L _ c N k fk pre Av pre.length cv mk ivk ovk Rk (hC.le (I1.1.t h6)) (hW.le (Lr D)) hp O (hMk.le h6) (hq▸hr)) [] _) ?_ ?_
 ·
  rintro _ _ sx7 hx7 ⟨hp7,mf7,sf7,cf7,Zf7,he7,rfl,hF7⟩ fr9
  repeat (first | refine qaM ?_ | refine qaF ?_)
  refine qa5 [] _ Pr (I1.1.t h6|>.t hx7) fun _ hS2=>?_
  exact ⟨hp7,mf7,sf7,cf7,Zf7,hq.trans he7,rfl,hF7⟩
 rintro _ _ s7 h7 ⟨a7,m7,iv7,ov7,R7,he7,⟨rfl,hu7⟩,rfl,hM7⟩
 rw [he7] at hq
 simp only [cQ9,nQ9]
 refine At Z Z<|Zo<|?_
 refine qaN [] _ (.inr Z) (.t1 Z) Z (I1.1.t h6|>.t h7) fun _ hS2=>?_
 exact ⟨_,m7,iv7,ov7,R7,hq,⟨rfl,hu7⟩,rfl,(hM7.le ((Lr D).t hS2))⟩
section
variable{p:Prg}{c:MC}{N:Nat}{m:MS}{iv ov:Value}{R:Hl}{s:World}
theorem qoy{l:List Int}{i:Nat}{v:Int}(h:∀ x∈l,U32 x)(hv:U32 v):∀ x∈l.set i v,U32 x:=fun x hx=>by
 rcases List.mem_or_eq_of_mem_set hx with h1 | rfl
 · exact h x h1
 · exact hv
theorem MG.setf(h:MG p c N m iv ov R s){v:Int}(hv:U32 v)(i:Nat):MG p c N { m with frm:=m.frm.set i v } iv ov R s:=⟨h.inp,h.out,h.ug,qoy h.uf hv,h.ua,h.ng,h.lg,by rw [List.length_set];exact h.lf,h.lb,h.la,h.ar,h.lo,h.lc,h.ll,h.lN⟩
theorem MG.setg(h:MG p c N m iv ov R s){v:Int}(hv:U32 v)(i:Nat):MG p c N { m with glo:=m.glo.set i v } iv ov R s:=⟨h.inp,h.out,qoy h.ug hv,h.uf,h.ua,h.ng,by rw [List.length_set];exact h.lg,h.lf,h.lb,h.la,h.ar,h.lo,h.lc,h.ll,h.lN⟩
end
theorem MG.arU{p:Prg}{c:MC}{N:Nat}{m:MS}{iv ov:Value}{R:Hl}{s:World}{k:Nat}{nm:Str}(hM:MG p c N m iv ov R s)(hg:qdO p nm=(k:Int)):∀ x∈qfj p nm m,U32 x:=fun x hx=>by
 rw [qfj,hg,Int.toNat_natCast,List.getD_eq_getElem?_getD] at hx
 cases hl:m.arr[k]? with
 | none=>rw [hl] at hx;cases hx
 | some l=>rw [hl] at hx;exact hM.ua l (List.mem_of_getElem? hl) x hx
theorem qvv{T:Stm→MS→ER (Int×Int)}{l:List Stm}{k:Nat}{x:Stm}(h:l[k]?=some x)(m:MS):qbp T (l.drop k) m=(T x m).and fun y m=>if y.1=0 then qbp T (l.drop (k+1)) m else .ok y m:=by
 obtain ⟨hl,rfl⟩:=List.getElem?_eq_some_iff.1 h
 rw [List.drop_eq_getElem_cons hl,qbp]
structure RG where
 k:Nat
 m:MS
 iv:Value
 ov:Value
 R:Hl
theorem qkg(p:Prg)(D n:Nat)(hT:TOK p D n)(L:Hl)(s:World)(c:MC)(N:Nat)(f:Fnc)(d:Nat)(xs:List Stm)(m:MS)(iv ov:Value)(R:Hl)(hC:CT p c s)(hn:c.nf=f.params.length+f.locals.length)(hM:MG p c N m iv ov R s)(A:Option Addr)(n1 z1:Nat)(hA:VsS p f d s A n1 z1 xs)(hr:qbp ((sem p OPp n).t f) xs m≠.out):AP prog D 89 [.pointer (some ⟨c.bm,0,none⟩),.slice A n1 z1] (MB c N 0 m iv ov 0 0::MGb c m::MFb c m::(R++L)) s (okE p c N (qbp ((sem p OPp n).t f) xs m) VS RS [] L) (qeu c N (qbp ((sem p OPp n).t f) xs m) [] L):=by
 obtain ⟨r,hq⟩:∃ r,r=qbp ((sem p OPp n).t f) xs m:=⟨_,rfl⟩
 rw [← hq] at hr ⊢
 have hn1:=hA.1
 have hc1:=hA.2.1
 have hc2:=hA.2.2.1
 refine qaZ (fn:=f89) qaq func89 V Z ntmps89 Z (rs:=[.tmp 4]) Z [(0,_),(1,_)] Z<|Sr<|At Z Z<|Zs<|Sr<|Zqm Z Z<|Ws Y4<|Zqm Z Z<|Nt<|Zp<|?_
 refine qat (γ:=RG) (fun g=>[(0,_),(4,_),(8,_),(9,_),(10,.int .i64 (g.k:Int))]) (fun g=>MB c N 0 g.m g.iv g.ov 0 0::MGb c g.m::MFb c g.m::(g.R++L)) (fun g tw=>Le D s tw∧(g.k≤n1∧MG p c N g.m g.iv g.ov g.R tw∧r=qbp ((sem p OPp n).t f) (xs.drop g.k) g.m)) (fun g=>n1 - g.k) (fun _ _ _ h hl=>⟨h.1.trans hl,⟨h.2.1,h.2.2.1.le hl,h.2.2.2⟩⟩) ⟨0,m,iv,ov,R⟩ (.c5 Z Z Z Z Z (.nil _)) Z ⟨Le.refl _,⟨Nat.zero_le _,hM.le (Lr D),hq⟩⟩ ?_
 intro g s1 I1
 obtain ⟨j,mk,ivk,ovk,Rk⟩:=g
 obtain ⟨hj0,hMk,hq⟩:j≤n1∧MG p c N mk ivk ovk Rk s1∧r=qbp ((sem p OPp n).t f) (xs.drop j) mk:=I1.2
 dsimp only
 refine Sr<|qba Z Z Z<|Nt<|Zs<|?_
 refine qab Z (fun c2=>?_) (fun c2=>?_)
 ·
  have hj:j < n1:=by omega
  obtain ⟨B0,o0,b0,x,hAe,hx,hcE,hvE⟩:=VsS.at_ (hA.le I1.1) hj
  subst hAe
  rw [qvv hx] at hq
  refine Zk<|Zt<|Zs<|Zp<|Sr<|qaf (qaH Z Z Z Z Z Z hj) Z<|qaf (qaj Z Z Z (hcE.le (Lr D)) Z) Z<|At Z Z<|Sr<|Zqm Z Z<|Zqm Z Z<|?_
  refine qa3 (first:=[]) (captured:=[.pointer (some ⟨b0,0,none⟩)]) Z Z Z (AP.fr (fun L=>hT L _ c N f d x _ mk ivk ovk Rk (hC.le I1.1) hn (hvE.le (Lr D)) (hMk.le (Lr D)) (qbP hq hr)) [] _) ?_ ?_
  ·
   rintro _ _ sx3 hx3 ⟨hp3,mf3,sf3,cf3,Zf3,he3,rfl,hF3⟩ fr9
   repeat (first | refine qaM ?_ | refine qaF ?_)
   refine qa5 [] _ Pr (I1.1.t hx3) fun _ hS2=>?_
   exact ⟨hp3,mf3,sf3,cf3,Zf3,qbS hq he3,rfl,hF3⟩
  rintro _ _ s3 h3 ⟨⟨a3,y3⟩,m3,iv3,ov3,R3,he3,⟨rfl,hu3,hz3⟩,rfl,hM3⟩
  rw [he3] at hq
  simp only [ER.and] at hq
  simp only [cQ9,nQ9]
  refine At Z Z<|Sr<|Zqm Z Z<|qcj Z Z Z<|Nt<|?_
  refine qaK Z (fun c4=>?_) (fun c4=>?_)
  ·
   rw [if_neg c4] at hq
   refine Sr<|Zqm Z Z<|At Z Z<|Zo<|Zc<|Zu<|Zu<|Zc<|Zu<|?_
   refine qaN [] _ (.inr Z) (.t1 Z) Z (I1.1.t h3) fun _ hS2=>?_
   first
     | (exact ⟨(_,_),m3,iv3,ov3,R3,hq,⟨rfl,hu3,hz3⟩,rfl,(hM3.le ((Lr D).t hS2))⟩)
     | (exact ⟨(0,0),m3,iv3,ov3,R3,hq,⟨rfl,⟨by decide,by decide⟩,fun _=>rfl⟩,rfl,(hM3.le ((Lr D).t hS2))⟩)
  rw [if_pos c4] at hq
  have hz9:=hz3 O
  simp only [RS] at *
  rw [hz9]
  refine Zk<|Zb<|Zt<|Zr<|qaG Z Z Z (w64 O O)<|Zqm Z Z<|Zn<|?_
  refine qaa ⟨⟨j+1,m3,iv3,ov3,R3⟩,[],kp,Z,⟨(I1.1.t h3),⟨by show j+1≤n1;omega,(hM3.le (Lr D)),hq⟩⟩,(by show n1 - (j+1) < n1 - j;omega)⟩
 rw [List.drop_eq_nil_of_le O,qbp] at hq
 refine Zl<|Zv<|Zv<|Zd<|Zt<|Sr<|At Z Z<|Zo<|?_
 refine qaN [] _ (.inr Z) (.t1 Z) Z I1.1 fun _ hS2=>?_
 first
   | (exact ⟨(_,_),mk,ivk,ovk,Rk,hq,⟨rfl,hu0,hz0⟩,rfl,(hMk.le ((Lr D).t hS2))⟩)
   | (exact ⟨(0,0),mk,ivk,ovk,Rk,hq,⟨rfl,⟨by decide,by decide⟩,fun _=>rfl⟩,rfl,(hMk.le ((Lr D).t hS2))⟩)
theorem qtw(p:Prg)(D n:Nat)(hE:EOK p D n)(L:Hl)(s:World)(c:MC)(N:Nat)(f:Fnc)(d:Nat)(x:Stm)(m:MS)(iv ov:Value)(R:Hl)(hC:CT p c s)(hn:c.nf=f.params.length+f.locals.length)(hM:MG p c N m iv ov R s)(b1 b2 b4:Nat)(hk:x.kind=1)(h0:0≤qbg f x.name)(hl:qbg f x.name < ((f.params.length+f.locals.length:Nat):Int))(gc1:CellsAt s b1 0 [.func (.func 123) #[] #[.pointer (some ⟨b4,0,none⟩)]])(gc2:CellsAt s b2 0 [.int .i64 (qbg f x.name)])(hv:VeR p f d s (qco x.exprs 0) [.func (.func 123) #[] #[.pointer (some ⟨b4,0,none⟩)]])(hr:sX p (sem p OPp n) f x m≠.out):AP prog D 125 [.pointer (some ⟨c.bm,0,none⟩),.pointer (some ⟨b1,0,none⟩),.pointer (some ⟨b2,0,none⟩)] (MB c N 0 m iv ov 0 0::MGb c m::MFb c m::(R++L)) s (okE p c N (sX p (sem p OPp n) f x m) VS RS [] L) (qeu c N (sX p (sem p OPp n) f x m) [] L):=by
 obtain ⟨r,hq⟩:∃ r,r=sX p (sem p OPp n) f x m:=⟨_,rfl⟩
 rw [← hq] at hr ⊢
 rw [sX,if_pos hk] at hq
 have hl3:qbg f x.name < (c.nf:Int):=by rw [hn];exact hl
 refine qaZ (fn:=f125) qaq func125 V Z ntmps125 Z (rs:=[.tmp 4]) Z [(0,_),(1,_),(2,_)] Z<|Sr<|At Z Z<|Zs<|qay qag 10 Z ([]:Hl) (fun x hx=>by cases hx) ?_
 intro s1 h1
 refine za 0 Z (qar Z) Z<|za 1 Z (qbz Z) Z<|za 2 Z (We Y4) Z<|za 4 Z (qaj Z Z Z (gc2.le h1) Z) Z<|za 5 Z (qaj Z Z Z (gc1.le h1) Z) Z<|za 6 Z (qar Z) Z ?_
 refine qb9 3 7 V ?_ ?_
 ·
  refine qcf Z Tt (Wd 0 Y5) Z<|qal 7 V ?_
  refine qb6 Z Tt (first:=[]) (captured:=[.pointer (some ⟨b4,0,none⟩)]) Z Z Z (AP.fr (fun L=>hE L _ c N f d (qco x.exprs 0) _ m iv ov R (hC.le h1) hn (hv.le h1) (hM.le h1) (qbP hq hr)) [] _) ?_ ?_
  ·
   rintro _ _ sx2 hx2 ⟨hp2,mf2,sf2,cf2,Zf2,he2,rfl,hF2⟩ fr9
   repeat (first | refine qaM ?_ | refine qaF ?_)
   refine qa5 [] _ Pr (h1.t hx2) fun _ hS2=>?_
   exact ⟨hp2,mf2,sf2,cf2,Zf2,qbS hq he2,rfl,hF2⟩
  rintro _ _ s2 h2 ⟨a2,m2,iv2,ov2,R2,he2,⟨rfl,hu2⟩,rfl,hM2⟩
  refine ⟨(fun x hx=>by cases hx),?_⟩
  rw [he2] at hq
  simp only [ER.and] at hq
  simp only [cQ9,nQ9]
  rw [qlQ,if_pos h0] at hq
  have hlf:qbg f x.name < (m2.frm.length:Int):=by rw [hM2.lf];exact hl3
  refine za 8 Z (qex Z Z Z Z Z Z h0 hl3) Z<|qal 9 V<|qiv Z Tt 2 _ Z Z Z Z Z (qg0 h0 hlf) Z (qgT _ h0 hlf) Z (fun x hx=>by cases hx)<|qad V<|Zt<|Sr<|At Z Z<|Zo<|?_
  refine qaN [] _ (.inr Z) (.t1 Z) Z (h1.t h2) fun _ hS2=>?_
  exact ⟨(0,0),{ m2 with frm:=m2.frm.set (qbg f x.name).toNat a2 },iv2,ov2,R2,hq,⟨rfl,⟨by decide,by decide⟩,fun _=>rfl⟩,rfl,((hM2.setf hu2 _).le ((Lr D).t hS2))⟩
 refine qb6 Z Tt (first:=[]) (captured:=[.pointer (some ⟨b4,0,none⟩)]) Z Z Z (AP.fr (fun L=>hE L _ c N f d (qco x.exprs 0) _ m iv ov R (hC.le h1) hn (hv.le h1) (hM.le h1) (qbP hq hr)) [] _) ?_ ?_
 ·
  rintro _ _ sx4 hx4 ⟨hp4,mf4,sf4,cf4,Zf4,he4,rfl,hF4⟩ fr9
  repeat (first | refine qaM ?_ | refine qaF ?_)
  refine qa5 [] _ Pr (h1.t hx4) fun _ hS2=>?_
  exact ⟨hp4,mf4,sf4,cf4,Zf4,qbS hq he4,rfl,hF4⟩
 rintro _ _ s4 h4 ⟨a4,m4,iv4,ov4,R4,he4,⟨rfl,hu4⟩,rfl,hM4⟩
 refine ⟨(fun x hx=>by cases hx),?_⟩
 rw [he4] at hq
 simp only [ER.and] at hq
 simp only [cQ9,nQ9]
 rw [qlQ,if_pos h0] at hq
 have hlf:qbg f x.name < (m4.frm.length:Int):=by rw [hM4.lf];exact hl3
 refine qal 3 V<|qcf Z Tt (Wd 0 Y5) Z<|za 8 Z (qex Z Z Z Z Z Z h0 hl3) Z<|qal 9 V<|qiv Z Tt 2 _ Z Z Z Z Z (qg0 h0 hlf) Z (qgT _ h0 hlf) Z (fun x hx=>by cases hx)<|qad V<|Zt<|Sr<|At Z Z<|Zo<|?_
 refine qaN [] _ (.inr Z) (.t1 Z) Z (h1.t h4) fun _ hS2=>?_
 exact ⟨(0,0),{ m4 with frm:=m4.frm.set (qbg f x.name).toNat a4 },iv4,ov4,R4,hq,⟨rfl,⟨by decide,by decide⟩,fun _=>rfl⟩,rfl,((hM4.setf hu4 _).le ((Lr D).t hS2))⟩
theorem qsj(p:Prg)(D n:Nat)(hE:EOK p D n)(L:Hl)(s:World)(c:MC)(N:Nat)(f:Fnc)(d:Nat)(x:Stm)(m:MS)(iv ov:Value)(R:Hl)(hC:CT p c s)(hn:c.nf=f.params.length+f.locals.length)(hM:MG p c N m iv ov R s)(b1 b2 b4 k:Nat)(g:Glo)(hk:x.kind=1)(hs:¬ 0≤qbg f x.name)(hg:qdO p x.name=(k:Int))(hp:p.globals[k]?=some g)(gc1:CellsAt s b1 0 [.func (.func 123) #[] #[.pointer (some ⟨b4,0,none⟩)]])(gc2:CellsAt s b2 0 [.int .i64 (k:Int)])(hv:VeR p f d s (qco x.exprs 0) [.func (.func 123) #[] #[.pointer (some ⟨b4,0,none⟩)]])(hr:sX p (sem p OPp n) f x m≠.out):AP prog D 126 [.pointer (some ⟨c.bm,0,none⟩),.pointer (some ⟨b1,0,none⟩),.pointer (some ⟨b2,0,none⟩)] (MB c N 0 m iv ov 0 0::MGb c m::MFb c m::(R++L)) s (okE p c N (sX p (sem p OPp n) f x m) VS RS [] L) (qeu c N (sX p (sem p OPp n) f x m) [] L):=by
 obtain ⟨r,hq⟩:∃ r,r=sX p (sem p OPp n) f x m:=⟨_,rfl⟩
 rw [← hq] at hr ⊢
 rw [sX,if_pos hk] at hq
 have hkl:=(List.getElem?_eq_some_iff.1 hp).1
 have hl3:(k:Int) < (c.ng:Int):=by rw [hM.ng];omega
 have h0:(0:Int)≤(k:Int):=by omega
 refine qaZ (fn:=f126) qaq func126 V Z ntmps126 Z (rs:=[.tmp 4]) Z [(0,_),(1,_),(2,_)] Z<|Sr<|At Z Z<|Zs<|qay qag 10 Z ([]:Hl) (fun x hx=>by cases hx) ?_
 intro s1 h1
 refine za 0 Z (qar Z) Z<|za 1 Z (qbz Z) Z<|za 2 Z (We Y4) Z<|za 4 Z (qaj Z Z Z (gc2.le h1) Z) Z<|za 5 Z (qaj Z Z Z (gc1.le h1) Z) Z<|za 6 Z (qar Z) Z ?_
 refine qb9 3 7 V ?_ ?_
 ·
  refine qcf Z Tt (Wd 0 Y5) Z<|qal 7 V ?_
  refine qb6 Z Tt (first:=[]) (captured:=[.pointer (some ⟨b4,0,none⟩)]) Z Z Z (AP.fr (fun L=>hE L _ c N f d (qco x.exprs 0) _ m iv ov R (hC.le h1) hn (hv.le h1) (hM.le h1) (qbP hq hr)) [] _) ?_ ?_
  ·
   rintro _ _ sx2 hx2 ⟨hp2,mf2,sf2,cf2,Zf2,he2,rfl,hF2⟩ fr9
   repeat (first | refine qaM ?_ | refine qaF ?_)
   refine qa5 [] _ Pr (h1.t hx2) fun _ hS2=>?_
   exact ⟨hp2,mf2,sf2,cf2,Zf2,qbS hq he2,rfl,hF2⟩
  rintro _ _ s2 h2 ⟨a2,m2,iv2,ov2,R2,he2,⟨rfl,hu2⟩,rfl,hM2⟩
  refine ⟨(fun x hx=>by cases hx),?_⟩
  rw [he2] at hq
  simp only [ER.and] at hq
  simp only [cQ9,nQ9]
  rw [qlQ,if_neg hs,hg] at hq
  have hlf:(k:Int) < (m2.glo.length:Int):=by rw [hM2.lg];exact hl3
  refine za 8 Z (qex Z Z Z Z Z Z h0 hl3) Z<|qal 9 V<|qiv Z Tt 1 _ Z Z Z Z Z (qg0 h0 hlf) Z (qgT _ h0 hlf) Z (fun x hx=>by cases hx)<|qad V<|Zt<|Sr<|At Z Z<|Zo<|?_
  refine qaN [] _ (.inr Z) (.t1 Z) Z (h1.t h2) fun _ hS2=>?_
  exact ⟨(0,0),{ m2 with glo:=m2.glo.set (k:Int).toNat a2 },iv2,ov2,R2,hq,⟨rfl,⟨by decide,by decide⟩,fun _=>rfl⟩,rfl,((hM2.setg hu2 _).le ((Lr D).t hS2))⟩
 refine qb6 Z Tt (first:=[]) (captured:=[.pointer (some ⟨b4,0,none⟩)]) Z Z Z (AP.fr (fun L=>hE L _ c N f d (qco x.exprs 0) _ m iv ov R (hC.le h1) hn (hv.le h1) (hM.le h1) (qbP hq hr)) [] _) ?_ ?_
 ·
  rintro _ _ sx4 hx4 ⟨hp4,mf4,sf4,cf4,Zf4,he4,rfl,hF4⟩ fr9
  repeat (first | refine qaM ?_ | refine qaF ?_)
  refine qa5 [] _ Pr (h1.t hx4) fun _ hS2=>?_
  exact ⟨hp4,mf4,sf4,cf4,Zf4,qbS hq he4,rfl,hF4⟩
 rintro _ _ s4 h4 ⟨a4,m4,iv4,ov4,R4,he4,⟨rfl,hu4⟩,rfl,hM4⟩
 refine ⟨(fun x hx=>by cases hx),?_⟩
 rw [he4] at hq
 simp only [ER.and] at hq
 simp only [cQ9,nQ9]
 rw [qlQ,if_neg hs,hg] at hq
 have hlf:(k:Int) < (m4.glo.length:Int):=by rw [hM4.lg];exact hl3
 refine qal 3 V<|qcf Z Tt (Wd 0 Y5) Z<|za 8 Z (qex Z Z Z Z Z Z h0 hl3) Z<|qal 9 V<|qiv Z Tt 1 _ Z Z Z Z Z (qg0 h0 hlf) Z (qgT _ h0 hlf) Z (fun x hx=>by cases hx)<|qad V<|Zt<|Sr<|At Z Z<|Zo<|?_
 refine qaN [] _ (.inr Z) (.t1 Z) Z (h1.t h4) fun _ hS2=>?_
 exact ⟨(0,0),{ m4 with glo:=m4.glo.set (k:Int).toNat a4 },iv4,ov4,R4,hq,⟨rfl,⟨by decide,by decide⟩,fun _=>rfl⟩,rfl,((hM4.setg hu4 _).le ((Lr D).t hS2))⟩
theorem qoM(p:Prg)(D n:Nat)(hE:EOK p D n)(L:Hl)(s:World)(c:MC)(N:Nat)(f:Fnc)(d:Nat)(x:Stm)(m:MS)(iv ov:Value)(R:Hl)(hC:CT p c s)(hn:c.nf=f.params.length+f.locals.length)(hM:MG p c N m iv ov R s)(b1 b2 k:Nat)(g:Glo)(A:Option Addr)(n1 z1:Nat)(hk:x.kind=2)(hg:qdO p x.name=(k:Int))(hp:p.globals[k]?=some g)(gc3:g.kind=3)(gc1:CellsAt s b1 0 [.int .i64 (k:Int)])(gc2:CellsAt s b2 0 [.slice A n1 z1])(hA:VeS p f d s A n1 z1 x.exprs)(h1n:1 < n1)(hr:sX p (sem p OPp n) f x m≠.out):AP prog D 86 [.pointer (some ⟨c.bm,0,none⟩),.pointer (some ⟨b1,0,none⟩),.pointer (some ⟨b2,0,none⟩)] (MB c N 0 m iv ov 0 0::MGb c m::MFb c m::(R++L)) s (okE p c N (sX p (sem p OPp n) f x m) VS RS [] L) (qeu c N (sX p (sem p OPp n) f x m) [] L):=by
 obtain ⟨r,hq⟩:∃ r,r=sX p (sem p OPp n) f x m:=⟨_,rfl⟩
 rw [← hq] at hr ⊢
 rw [qqk hk] at hq
 have h0n:0 < n1:=by omega
 obtain ⟨B0,o0,b0,rfl,hcE,hvE⟩:=VeS.at_ hA h0n
 obtain ⟨B1,o1,b4,hAe,hcF,hvF⟩:=VeS.at_ hA h1n
 simp only [Option.some.injEq,Addr.mk.injEq,and_true] at hAe
 obtain ⟨hAe1,hAe2⟩:=hAe
 subst hAe1
 subst hAe2
 obtain ⟨ba,hab,hca,hla,hkn⟩:=hM.ary hC hp gc3 hg
 refine qaZ (fn:=f86) qaq func86 V Z ntmps86 Z (rs:=[.tmp 4]) Z [(0,_),(1,_),(2,_)] Z<|Sr<|At Z Z<|Zs<|qay qag 7 Z ([]:Hl) (fun x hx=>by cases hx) ?_
 intro s1 h1
 refine za 0 Z (qar Z) Z<|za 1 Z (qaj Z Z Z (gc1.le h1) Z) Z<|za 2 Z (qaj Z Z Z (gc2.le h1) Z) Z<|za 3 Z (qaH Z Z Z Z Z Z h0n) Z<|za 4 Z (qaj Z Z Z (hcE.le h1) Z) Z<|qal 5 V ?_
 refine qb6 Z Tt (first:=[]) (captured:=[]) Z Z Z (AP.fr (fun L=>qhJ p D n hE L _ c N f d (qco x.exprs 0) x.name k b0 g m iv ov R (hC.le h1) hn (hM.le h1) hg hp gc3 (hvE.le h1) (qbP hq hr)) [] _) ?_ ?_
 ·
  rintro _ _ sx2 hx2 ⟨hp2,mf2,sf2,cf2,Zf2,he2,rfl,hF2⟩ fr9
  repeat (first | refine qaM ?_ | refine qaF ?_)
  refine qa5 [] _ Pr (h1.t hx2) fun _ hS2=>?_
  exact ⟨hp2,mf2,sf2,cf2,Zf2,qbS hq he2,rfl,hF2⟩
 rintro _ _ s2 h2 ⟨a2,m2,iv2,ov2,R2,he2,⟨rfl,hu2⟩,rfl,hM2⟩
 refine ⟨(fun x hx=>by cases hx),?_⟩
 rw [he2] at hq
 simp only [ER.and] at hq
 simp only [cQ9,nQ9]
 have hia:=qtv he2
 have hui:=hu2
 have hlo:=hu2.1
 obtain ⟨_,_,_,hla1,_⟩:=hM2.ary (hC.le (h1.t h2)) hp gc3 hg
 refine za 6 Z (qaY Z) Z<|qad V<|Zt<|Zs<|qay qag 15 Z ([]:Hl) (fun x hx=>by cases hx) ?_
 intro s3 h3
 refine za 0 Z (qar Z) Z<|za 1 Z (qbz Z) Z<|za 2 Z (We Y4) Z<|za 4 Z (qaj Z Z Z (gc1.le (h1.t h2|>.t h3)) Z) Z<|za 7 Z (qar Z) Z<|za 8 Z (qaj Z Z Z (gc2.le (h1.t h2|>.t h3)) Z) Z<|za 9 Z (qaH Z Z Z Z Z Z h1n) Z<|za 10 Z (qaj Z Z Z (hcF.le (h1.t h2|>.t h3)) Z) Z<|za 11 Z (qar Z) Z ?_
 refine qb9 3 12 V ?_ ?_
 ·
  refine qcf Z Tt (Wd 0 Y5) Z<|za 5 Z (qaH Z Z Z Z Z Z hkn) Z<|za 6 Z (qaj Z Z Z (hca.le (h1.t h2|>.t h3)) Z) Z<|qal 12 V ?_
  refine qb6 Z Tt (first:=[]) (captured:=[.pointer (some ⟨b4,0,none⟩)]) Z Z Z (AP.fr (fun L=>hE L _ c N f d (qco x.exprs 1) _ m2 iv2 ov2 R2 (hC.le (h1.t h2|>.t h3)) hn (hvF.le (h1.t h2|>.t h3)) (hM2.le h3) (qbP hq hr)) [] _) ?_ ?_
  ·
   rintro _ _ sx4 hx4 ⟨hp4,mf4,sf4,cf4,Zf4,he4,rfl,hF4⟩ fr9
   repeat (first | refine qaM ?_ | refine qaF ?_)
   refine qa5 [] _ Pr (h1.t h2|>.t h3|>.t hx4) fun _ hS2=>?_
   exact ⟨hp4,mf4,sf4,cf4,Zf4,qbS hq he4,rfl,hF4⟩
  rintro _ _ s4 h4 ⟨a4,m4,iv4,ov4,R4,he4,⟨rfl,hu4⟩,rfl,hM4⟩
  refine ⟨(fun x hx=>by cases hx),?_⟩
  rw [he4] at hq
  simp only [ER.and] at hq
  simp only [cQ9,nQ9]
  obtain ⟨_,_,_,hla2,_⟩:=hM4.ary (hC.le (h1.t h2|>.t h3|>.t h4)) hp gc3 hg
  obtain ⟨i,hbi,hset⟩:=hM4.blk hab hkn hg (MB c N 0 m4 iv4 ov4 0 0) (MGb c m4) (MFb c m4) L
  rw [hg,Int.toNat_natCast] at hq
  refine za 13 Z (qex Z Z Z Z Z Z hlo (show a2 < ((g.num.toNat:Nat):Int) by omega)) Z<|qal 14 V ?_
  obtain ⟨R9,hs9,hM9⟩:=hset ((qfj p x.name m4).set a2.toNat a4)
  have hM9:=hM9 _ (hM4.le (Lr D)) (by rw [List.length_set]) (qoy (hM4.arU hg) hu4)
  refine qiv Z Tt (i+3) _ Z Z hbi Z Z (qg0 hlo O) Z (qgT _ hlo O) hs9 (fun x hx=>by cases hx)<|qad V<|Zt<|Sr<|At Z Z<|Zo<|?_
  refine qaN [] _ (.inr Z) (.t1 Z) Z (h1.t h2|>.t h3|>.t h4) fun _ hS2=>?_
  exact ⟨(0,0),{ m4 with arr:=m4.arr.set k ((qfj p x.name m4).set a2.toNat a4) },iv4,ov4,R9,hq,⟨rfl,⟨by decide,by decide⟩,fun _=>rfl⟩,rfl,(hM9.le ((Lr D).t hS2))⟩
 refine qb6 Z Tt (first:=[]) (captured:=[.pointer (some ⟨b4,0,none⟩)]) Z Z Z (AP.fr (fun L=>hE L _ c N f d (qco x.exprs 1) _ m2 iv2 ov2 R2 (hC.le (h1.t h2|>.t h3)) hn (hvF.le (h1.t h2|>.t h3)) (hM2.le h3) (qbP hq hr)) [] _) ?_ ?_
 ·
  rintro _ _ sx6 hx6 ⟨hp6,mf6,sf6,cf6,Zf6,he6,rfl,hF6⟩ fr9
  repeat (first | refine qaM ?_ | refine qaF ?_)
  refine qa5 [] _ Pr (h1.t h2|>.t h3|>.t hx6) fun _ hS2=>?_
  exact ⟨hp6,mf6,sf6,cf6,Zf6,qbS hq he6,rfl,hF6⟩
 rintro _ _ s6 h6 ⟨a6,m6,iv6,ov6,R6,he6,⟨rfl,hu6⟩,rfl,hM6⟩
 refine ⟨(fun x hx=>by cases hx),?_⟩
 rw [he6] at hq
 simp only [ER.and] at hq
 simp only [cQ9,nQ9]
 obtain ⟨_,_,_,hla2,_⟩:=hM6.ary (hC.le (h1.t h2|>.t h3|>.t h6)) hp gc3 hg
 obtain ⟨i,hbi,hset⟩:=hM6.blk hab hkn hg (MB c N 0 m6 iv6 ov6 0 0) (MGb c m6) (MFb c m6) L
 rw [hg,Int.toNat_natCast] at hq
 refine qal 3 V<|qcf Z Tt (Wd 0 Y5) Z<|za 5 Z (qaH Z Z Z Z Z Z hkn) Z<|za 6 Z (qaj Z Z Z (hca.le (h1.t h2|>.t h3)) Z) Z<|za 13 Z (qex Z Z Z Z Z Z hlo (show a2 < ((g.num.toNat:Nat):Int) by omega)) Z<|qal 14 V ?_
 obtain ⟨R9,hs9,hM9⟩:=hset ((qfj p x.name m6).set a2.toNat a6)
 have hM9:=hM9 _ (hM6.le (Lr D)) (by rw [List.length_set]) (qoy (hM6.arU hg) hu6)
 refine qiv Z Tt (i+3) _ Z Z hbi Z Z (qg0 hlo O) Z (qgT _ hlo O) hs9 (fun x hx=>by cases hx)<|qad V<|Zt<|Sr<|At Z Z<|Zo<|?_
 refine qaN [] _ (.inr Z) (.t1 Z) Z (h1.t h2|>.t h3|>.t h6) fun _ hS2=>?_
 exact ⟨(0,0),{ m6 with arr:=m6.arr.set k ((qfj p x.name m6).set a2.toNat a6) },iv6,ov6,R9,hq,⟨rfl,⟨by decide,by decide⟩,fun _=>rfl⟩,rfl,(hM9.le ((Lr D).t hS2))⟩
theorem qtQ(p:Prg)(D n:Nat)(hE:EOK p D n)(hT:TOK p D n)(L:Hl)(s:World)(c:MC)(N:Nat)(f:Fnc)(d:Nat)(x:Stm)(m:MS)(iv ov:Value)(R:Hl)(hC:CT p c s)(hn:c.nf=f.params.length+f.locals.length)(hM:MG p c N m iv ov R s)(b1 b2 b3:Nat)(A:Option Addr)(n1 z1:Nat)(B:Option Addr)(n2 z2:Nat)(G:Option Addr)(n3 z3:Nat)(hk:x.kind=3)(gc1:CellsAt s b1 0 [.slice A n1 z1])(gc2:CellsAt s b2 0 [.slice B n2 z2])(gc3:CellsAt s b3 0 [.slice G n3 z3])(hA:VeS p f d s A n1 z1 x.exprs)(h0n:0 < n1)(hB:VsS p f d s B n2 z2 x.body)(hG:VsS p f d s G n3 z3 x.els)(hr:sX p (sem p OPp n) f x m≠.out):AP prog D 88 [.pointer (some ⟨c.bm,0,none⟩),.pointer (some ⟨b1,0,none⟩),.pointer (some ⟨b2,0,none⟩),.pointer (some ⟨b3,0,none⟩)] (MB c N 0 m iv ov 0 0::MGb c m::MFb c m::(R++L)) s (okE p c N (sX p (sem p OPp n) f x m) VS RS [] L) (qeu c N (sX p (sem p OPp n) f x m) [] L):=by
 obtain ⟨r,hq⟩:∃ r,r=sX p (sem p OPp n) f x m:=⟨_,rfl⟩
 rw [← hq] at hr ⊢
 rw [sX,if_neg O,if_neg O,if_pos hk] at hq
 obtain ⟨B0,o0,b0,rfl,hcE,hvE⟩:=VeS.at_ hA h0n
 refine qaZ (fn:=f88) qaq func88 V Z ntmps88 Z (rs:=[.tmp 5]) Z [(0,_),(1,_),(2,_),(3,_)] Z<|Sr<|At Z Z<|Zs<|Sr<|qaf (qaj Z Z Z (gc1.le (Lr D)) Z) Z<|qaf (qaH Z Z Z Z Z Z h0n) Z<|qaf (qaj Z Z Z (hcE.le (Lr D)) Z) Z<|Zqm Z Z ?_
 refine qa3 (first:=[]) (captured:=[.pointer (some ⟨b0,0,none⟩)]) Z Z Z (AP.fr (fun L=>hE L _ c N f d (qco x.exprs 0) _ m iv ov R (hC.le (Lr D)) hn (hvE.le (Lr D)) (hM.le (Lr D)) (qbP hq hr)) [] _) ?_ ?_
 ·
  rintro _ _ sx1 hx1 ⟨hp1,mf1,sf1,cf1,Zf1,he1,rfl,hF1⟩ fr9
  repeat (first | refine qaM ?_ | refine qaF ?_)
  refine qa5 [] _ Pr hx1 fun _ hS2=>?_
  exact ⟨hp1,mf1,sf1,cf1,Zf1,qbS hq he1,rfl,hF1⟩
 rintro _ _ s1 h1 ⟨a1,m1,iv1,ov1,R1,he1,⟨rfl,hu1⟩,rfl,hM1⟩
 rw [he1] at hq
 simp only [ER.and] at hq
 simp only [cQ9,nQ9]
 refine qcj Z Z Z<|Nt<|?_
 refine qaK Z (fun c2=>?_) (fun c2=>?_)
 ·
  rw [if_pos c2] at hq
  refine Sr<|Zqm Z Z<|qaf (qaj Z Z Z (gc2.le h1) Z) Z ?_
  refine qa3 (first:=[]) (captured:=[]) Z Z Z (AP.fr (fun L=>qkg p D n hT L _ c N f d x.body m1 iv1 ov1 R1 (hC.le h1) hn (hM1.le (Lr D)) B n2 z2 (hB.le h1) (hq▸hr)) [] _) ?_ ?_
  ·
   rintro _ _ sx3 hx3 ⟨hp3,mf3,sf3,cf3,Zf3,he3,rfl,hF3⟩ fr9
   repeat (first | refine qaM ?_ | refine qaF ?_)
   refine qa5 [] _ Pr (h1.t hx3) fun _ hS2=>?_
   exact ⟨hp3,mf3,sf3,cf3,Zf3,hq.trans he3,rfl,hF3⟩
  rintro _ _ s3 h3 ⟨a3,m3,iv3,ov3,R3,he3,⟨rfl,hu3,hz3⟩,rfl,hM3⟩
  rw [he3] at hq
  simp only [cQ9,nQ9]
  refine At Z Z<|Zo<|Zu<|?_
  refine qaN [] _ (.inr Z) (.t1 Z) Z (h1.t h3) fun _ hS2=>?_
  exact ⟨_,m3,iv3,ov3,R3,hq,⟨rfl,hu3,hz3⟩,rfl,(hM3.le ((Lr D).t hS2))⟩
 rw [if_neg (by simpa using c2)] at hq
 refine Zk<|Zt<|Sr<|Zqm Z Z<|qaf (qaj Z Z Z (gc3.le h1) Z) Z ?_
 refine qa3 (first:=[]) (captured:=[]) Z Z Z (AP.fr (fun L=>qkg p D n hT L _ c N f d x.els m1 iv1 ov1 R1 (hC.le h1) hn (hM1.le (Lr D)) G n3 z3 (hG.le h1) (hq▸hr)) [] _) ?_ ?_
 ·
  rintro _ _ sx4 hx4 ⟨hp4,mf4,sf4,cf4,Zf4,he4,rfl,hF4⟩ fr9
  repeat (first | refine qaM ?_ | refine qaF ?_)
  refine qa5 [] _ Pr (h1.t hx4) fun _ hS2=>?_
  exact ⟨hp4,mf4,sf4,cf4,Zf4,hq.trans he4,rfl,hF4⟩
 rintro _ _ s4 h4 ⟨a4,m4,iv4,ov4,R4,he4,⟨rfl,hu4,hz4⟩,rfl,hM4⟩
 rw [he4] at hq
 simp only [cQ9,nQ9]
 refine At Z Z<|Zo<|?_
 refine qaN [] _ (.inr Z) (.t1 Z) Z (h1.t h4) fun _ hS2=>?_
 exact ⟨_,m4,iv4,ov4,R4,hq,⟨rfl,hu4,hz4⟩,rfl,(hM4.le ((Lr D).t hS2))⟩
theorem qrM{p:Prg}{S:Sem}{f:Fnc}{x:Stm}{m:MS}(hk:x.kind=4):sX p S f x m=S.w f (qco x.exprs 0) x.body m:=by
 rw [sX,if_neg O,if_neg O,if_neg O,if_pos hk]
theorem qto{p:Prg}{S:Sem}{f:Fnc}{x:Stm}{m:MS}(hk:x.kind=5):sX p S f x m=((qbb (S.e f) x.exprs m).and fun vs m=>S.c (qja p x.name).toNat vs m).and fun _ m=>.ok (0,0) m:=by
 rw [sX,if_neg O,if_neg O,if_neg O,if_neg O,if_pos hk,ER.and_assoc]
theorem MG.put{p:Prg}{c:MC}{N:Nat}{m:MS}{iv ov:Value}{R:Hl}{s:World}(h:MG p c N m iv ov R s){b:UInt8}{ov':Value}{Mo:Hl}(hl:m.out.length < 20000)(hO:FL.Own 5 1 Mo ov' (m.out++[b]).length (bv (m.out++[b]))):MG p c N { m with out:=m.out++[b] } iv ov' (qdL c.ab m.arr++Mo) s:=⟨h.inp,⟨Mo,rfl,hO⟩,h.ug,h.uf,h.ua,h.ng,h.lg,h.lf,h.lb,h.la,h.ar,by simp;omega,h.lc,h.ll,h.lN⟩
theorem bvs1(w:List UInt8)(x:UInt8):bv (w++[x])=bv w++[.int .u8 (x.toNat:Int)]:=by simp [bv]
structure WG where
 j:Nat
 m:MS
 iv:Value
 ov:Value
 R:Hl
theorem qsp(p:Prg)(D n:Nat)(ihE:∀ j,j≤n→EOK p D j)(ihT:∀ j,j≤n→TOK p D j)(L:Hl)(s:World)(c:MC)(N:Nat)(f:Fnc)(d:Nat)(x:Stm)(m:MS)(iv ov:Value)(R:Hl)(hC:CT p c s)(hn:c.nf=f.params.length+f.locals.length)(hM:MG p c N m iv ov R s)(b1 b2:Nat)(A:Option Addr)(n1 z1:Nat)(B:Option Addr)(n2 z2:Nat)(hk:x.kind=4)(gc1:CellsAt s b1 0 [.slice A n1 z1])(gc2:CellsAt s b2 0 [.slice B n2 z2])(hA:VeS p f d s A n1 z1 x.exprs)(h0n:0 < n1)(hB:VsS p f d s B n2 z2 x.body)(hr:sX p (sem p OPp n) f x m≠.out):AP prog D 90 [.pointer (some ⟨c.bm,0,none⟩),.pointer (some ⟨b1,0,none⟩),.pointer (some ⟨b2,0,none⟩)] (MB c N 0 m iv ov 0 0::MGb c m::MFb c m::(R++L)) s (okE p c N (sX p (sem p OPp n) f x m) VS RS [] L) (qeu c N (sX p (sem p OPp n) f x m) [] L):=by
 obtain ⟨r,hq⟩:∃ r,r=sX p (sem p OPp n) f x m:=⟨_,rfl⟩
 rw [← hq] at hr ⊢
 rw [qrM hk] at hq
 obtain ⟨B0,o0,b0,rfl,hcE,hvE⟩:=VeS.at_ hA h0n
 refine qaZ (fn:=f90) qaq func90 V Z ntmps90 Z (rs:=[.tmp 4]) Z [(0,_),(1,_),(2,_)] Z<|Sr<|At Z Z<|Zs<|Zp<|?_
 refine qat (γ:=WG) (fun g=>[(0,_),(1,_),(2,_),(4,_)]) (fun g=>MB c N 0 g.m g.iv g.ov 0 0::MGb c g.m::MFb c g.m::(g.R++L)) (fun g tw=>Le D s tw∧(g.j≤n∧MG p c N g.m g.iv g.ov g.R tw∧r=(sem p OPp g.j).w f (qco x.exprs 0) x.body g.m)) (fun g=>g.j) (fun _ _ _ h hl=>⟨h.1.trans hl,⟨h.2.1,h.2.2.1.le hl,h.2.2.2⟩⟩) ⟨n,m,iv,ov,R⟩ (.c4 Z Z Z Z (.nil _)) Z ⟨Le.refl _,⟨Nat.le_refl _,hM.le (Lr D),hq⟩⟩ ?_
 intro g s1 I1
 obtain ⟨j,mk,ivk,ovk,Rk⟩:=g
 obtain ⟨hj0,hMk,hq⟩:j≤n∧MG p c N mk ivk ovk Rk s1∧r=(sem p OPp j).w f (qco x.exprs 0) x.body mk:=I1.2
 dsimp only
 obtain ⟨j,rfl⟩:∃ i,j=i+1:=by
   cases j with
   | zero=>exact absurd hq hr
   | succ i=>exact ⟨i,rfl⟩
 change r=wX (sem p OPp j) f (qco x.exprs 0) x.body mk at hq
 rw [wX] at hq
 have hE:=ihE j O
 have hT:=ihT j O
 refine Zs<|Sr<|qaf (qaj Z Z Z (gc1.le I1.1) Z) Z<|qaf (qaH Z Z Z Z Z Z h0n) Z<|qaf (qaj Z Z Z (hcE.le I1.1) Z) Z<|Zqm Z Z ?_
 refine qa3 (first:=[]) (captured:=[.pointer (some ⟨b0,0,none⟩)]) Z Z Z (AP.fr (fun L=>hE L _ c N f d (qco x.exprs 0) _ mk ivk ovk Rk (hC.le I1.1) hn (hvE.le I1.1) (hMk.le (Lr D)) (qbP hq hr)) [] _) ?_ ?_
 ·
  rintro _ _ sx2 hx2 ⟨hp2,mf2,sf2,cf2,Zf2,he2,rfl,hF2⟩ fr9
  repeat (first | refine qaM ?_ | refine qaF ?_)
  refine qa5 [] _ Pr (I1.1.t hx2) fun _ hS2=>?_
  exact ⟨hp2,mf2,sf2,cf2,Zf2,qbS hq he2,rfl,hF2⟩
 rintro _ _ s2 h2 ⟨a2,m2,iv2,ov2,R2,he2,⟨rfl,hu2⟩,rfl,hM2⟩
 rw [he2] at hq
 simp only [ER.and] at hq
 simp only [cQ9,nQ9]
 refine qcj Z Z Z<|Nt<|?_
 refine qaK Z (fun c3=>?_) (fun c3=>?_)
 ·
  rw [if_neg c3] at hq
  refine Zk<|Zt<|Zp<|Sr<|Zqm Z Z<|qaf (qaj Z Z Z (gc2.le (I1.1.t h2)) Z) Z ?_
  refine qa3 (first:=[]) (captured:=[]) Z Z Z (AP.fr (fun L=>qkg p D j hT L _ c N f d x.body m2 iv2 ov2 R2 (hC.le (I1.1.t h2)) hn (hM2.le (Lr D)) B n2 z2 (hB.le (I1.1.t h2)) (qbP hq hr)) [] _) ?_ ?_
  ·
   rintro _ _ sx4 hx4 ⟨hp4,mf4,sf4,cf4,Zf4,he4,rfl,hF4⟩ fr9
   repeat (first | refine qaM ?_ | refine qaF ?_)
   refine qa5 [] _ Pr (I1.1.t h2|>.t hx4) fun _ hS2=>?_
   exact ⟨hp4,mf4,sf4,cf4,Zf4,qbS hq he4,rfl,hF4⟩
  rintro _ _ s4 h4 ⟨⟨a4,y4⟩,m4,iv4,ov4,R4,he4,⟨rfl,hu4,hz4⟩,rfl,hM4⟩
  rw [he4] at hq
  simp only [ER.and] at hq
  simp only [cQ9,nQ9]
  refine At Z Z<|Sr<|Zqm Z Z<|qax Z Z Z<|Nt<|?_
  refine qab Z (fun c5=>?_) (fun c5=>?_)
  ·
   rw [if_pos c5] at hq
   have hz9:=hz4 O
   simp only [RS] at *
   rw [hz9]
   refine Zl<|Ze Z<|Zv<|Zd<|Zt<|Sr<|At Z Z<|Zo<|?_
   refine qaN [] _ (.inr Z) (.t1 Z) Z (I1.1.t h2|>.t h4) fun _ hS2=>?_
   first
     | (exact ⟨(_,_),m4,iv4,ov4,R4,hq,⟨rfl,hu4,hz4⟩,rfl,(hM4.le ((Lr D).t hS2))⟩)
     | (exact ⟨(0,0),m4,iv4,ov4,R4,hq,⟨rfl,⟨by decide,by decide⟩,fun _=>rfl⟩,rfl,(hM4.le ((Lr D).t hS2))⟩)
  rw [if_neg c5] at hq
  refine Sr<|Zqm Z Z<|qax Z Z Z<|Nt<|?_
  refine qab Z (fun c6=>?_) (fun c6=>?_)
  ·
   rw [if_pos c6] at hq
   refine Sr<|Zqm Z Z<|At Z Z<|Zo<|Zc<|Zu<|Zc<|Zu<|?_
   refine qaN [] _ (.inr Z) (.t1 Z) Z (I1.1.t h2|>.t h4) fun _ hS2=>?_
   first
     | (exact ⟨(_,_),m4,iv4,ov4,R4,hq,⟨rfl,hu4,hz4⟩,rfl,(hM4.le ((Lr D).t hS2))⟩)
     | (exact ⟨(0,0),m4,iv4,ov4,R4,hq,⟨rfl,⟨by decide,by decide⟩,fun _=>rfl⟩,rfl,(hM4.le ((Lr D).t hS2))⟩)
  rw [if_neg c6] at hq
  have hz9:=hz4 O
  simp only [RS] at *
  rw [hz9]
  refine Zk<|Zb<|?_
  refine qaa ⟨⟨j,m4,iv4,ov4,R4⟩,[],kp,Z,⟨(I1.1.t h2|>.t h4),⟨by show j≤n;omega,(hM4.le (Lr D)),hq⟩⟩,(by show j < j+1;omega)⟩
 rw [if_pos (by simpa using c3)] at hq
 refine Zl<|Zv<|Zv<|Zd<|Zt<|Sr<|At Z Z<|Zo<|?_
 refine qaN [] _ (.inr Z) (.t1 Z) Z (I1.1.t h2) fun _ hS2=>?_
 first
   | (exact ⟨(_,_),m2,iv2,ov2,R2,hq,⟨rfl,hu2,hz2⟩,rfl,(hM2.le ((Lr D).t hS2))⟩)
   | (exact ⟨(0,0),m2,iv2,ov2,R2,hq,⟨rfl,⟨by decide,by decide⟩,fun _=>rfl⟩,rfl,(hM2.le ((Lr D).t hS2))⟩)
theorem qox(p:Prg)(D n:Nat)(hE:EOK p D n)(L:Hl)(s:World)(c:MC)(N:Nat)(f:Fnc)(d:Nat)(x:Stm)(m:MS)(iv ov:Value)(R:Hl)(hC:CT p c s)(hn:c.nf=f.params.length+f.locals.length)(hM:MG p c N m iv ov R s)(hK:COK p D n)(b1 be bi k:Nat)(fk:Fnc)(A:Option Addr)(n1 z1:Nat)(hk:x.kind=5)(gc1:CellsAt s b1 0 [.func (.func 130) #[] #[.pointer (some ⟨be,0,none⟩),.pointer (some ⟨bi,0,none⟩)]])(he:CellsAt s be 0 [.slice A n1 z1])(hi:CellsAt s bi 0 [.int .i64 (k:Int)])(hA:VeS p f d s A n1 z1 x.exprs)(hg:qja p x.name=(k:Int))(hp:p.funcs[k]?=some fk)(hl:x.exprs.length=fk.params.length)(hr:sX p (sem p OPp n) f x m≠.out):AP prog D 92 [.pointer (some ⟨c.bm,0,none⟩),.pointer (some ⟨b1,0,none⟩)] (MB c N 0 m iv ov 0 0::MGb c m::MFb c m::(R++L)) s (okE p c N (sX p (sem p OPp n) f x m) VS RS [] L) (qeu c N (sX p (sem p OPp n) f x m) [] L):=by
 obtain ⟨r,hq⟩:∃ r,r=sX p (sem p OPp n) f x m:=⟨_,rfl⟩
 rw [← hq] at hr ⊢
 rw [qto hk,hg,Int.toNat_natCast] at hq
 refine qaZ (fn:=f92) qaq func92 V Z ntmps92 Z (rs:=[.tmp 3]) Z [(0,_),(1,_)] Z<|Sr<|At Z Z<|Sr<|qaf (qaj Z Z Z (gc1.le (Lr D)) Z) Z<|Zqm Z Z ?_
 refine qa3 (first:=[]) (captured:=[.pointer (some ⟨be,0,none⟩),.pointer (some ⟨bi,0,none⟩)]) Z Z Z (AP.fr (fun L=>qkt p D n hE L _ c N f d x.exprs m iv ov R (hC.le (Lr D)) hn (hM.le (Lr D)) hK be bi k fk A n1 z1 (he.le (Lr D)) (hi.le (Lr D)) (hA.le (Lr D)) hp hl (qbP hq hr)) [] _) ?_ ?_
 ·
  rintro _ _ sx1 hx1 ⟨hp1,mf1,sf1,cf1,Zf1,he1,rfl,hF1⟩ fr9
  repeat (first | refine qaM ?_ | refine qaF ?_)
  refine qa5 [] _ Pr hx1 fun _ hS2=>?_
  exact ⟨hp1,mf1,sf1,cf1,Zf1,qbS hq he1,rfl,hF1⟩
 rintro _ _ s1 h1 ⟨a1,m1,iv1,ov1,R1,he1,⟨rfl,hu1⟩,rfl,hM1⟩
 rw [he1] at hq
 simp only [ER.and] at hq
 simp only [cQ9,nQ9]
 refine Nt<|Sr<|At Z Z<|Zo<|?_
 refine qaN [] _ (.inr Z) (.t1 Z) Z h1 fun _ hS2=>?_
 exact ⟨(0,0),m1,iv1,ov1,R1,hq,⟨rfl,⟨by decide,by decide⟩,fun _=>rfl⟩,rfl,(hM1.le ((Lr D).t hS2))⟩
theorem qvq(p:Prg)(D n:Nat)(hE:EOK p D n)(L:Hl)(s:World)(c:MC)(N:Nat)(f:Fnc)(d:Nat)(x:Stm)(m:MS)(iv ov:Value)(R:Hl)(hC:CT p c s)(hn:c.nf=f.params.length+f.locals.length)(hM:MG p c N m iv ov R s)(b1:Nat)(A:Option Addr)(n1 z1:Nat)(hk:x.kind=6)(gc1:CellsAt s b1 0 [.slice A n1 z1])(hA:VeS p f d s A n1 z1 x.exprs)(h0n:0 < n1)(hr:sX p (sem p OPp n) f x m≠.out):AP prog D 93 [.pointer (some ⟨c.bm,0,none⟩),.pointer (some ⟨b1,0,none⟩)] (MB c N 0 m iv ov 0 0::MGb c m::MFb c m::(R++L)) s (okE p c N (sX p (sem p OPp n) f x m) VS RS [] L) (qeu c N (sX p (sem p OPp n) f x m) [] L):=by
 obtain ⟨r,hq⟩:∃ r,r=sX p (sem p OPp n) f x m:=⟨_,rfl⟩
 rw [← hq] at hr ⊢
 rw [sX,if_neg O,if_neg O,if_neg O,if_neg O,if_neg O,if_pos hk] at hq
 obtain ⟨B0,o0,b0,rfl,hcE,hvE⟩:=VeS.at_ hA h0n
 refine qaZ (fn:=f93) qaq func93 V Z ntmps93 Z (rs:=[.tmp 3]) Z [(0,_),(1,_)] Z<|Sr<|At Z Z<|Sr<|Zqm Z Z<|qaf (qaj Z Z Z (gc1.le (Lr D)) Z) Z<|qaf (qaH Z Z Z Z Z Z h0n) Z<|qaf (qaj Z Z Z (hcE.le (Lr D)) Z) Z<|Zqm Z Z ?_
 refine qa3 (first:=[]) (captured:=[.pointer (some ⟨b0,0,none⟩)]) Z Z Z (AP.fr (fun L=>hE L _ c N f d (qco x.exprs 0) _ m iv ov R (hC.le (Lr D)) hn (hvE.le (Lr D)) (hM.le (Lr D)) (qbP hq hr)) [] _) ?_ ?_
 ·
  rintro _ _ sx1 hx1 ⟨hp1,mf1,sf1,cf1,Zf1,he1,rfl,hF1⟩ fr9
  repeat (first | refine qaM ?_ | refine qaF ?_)
  refine qa5 [] _ Pr hx1 fun _ hS2=>?_
  exact ⟨hp1,mf1,sf1,cf1,Zf1,qbS hq he1,rfl,hF1⟩
 rintro _ _ s1 h1 ⟨a1,m1,iv1,ov1,R1,he1,⟨rfl,hu1⟩,rfl,hM1⟩
 rw [he1] at hq
 simp only [ER.and] at hq
 simp only [cQ9,nQ9]
 refine qcD Z Z<|Wb Y5<|Wt 0 [_,_,_,_,_,_,_,_,_,_,_,_] Y9<|Nt<|Sr<|At Z Z<|Zo<|?_
 refine qaN [] _ (.inr Z) (.t1 Z) Z h1 fun _ hS2=>?_
 exact ⟨(3,a1),m1,iv1,ov1,R1,hq,⟨rfl,hu1,fun h=>absurd rfl h⟩,rfl,(hM1.le ((Lr D).t hS2))⟩
theorem quF(p:Prg)(D n:Nat)(hE:EOK p D n)(L:Hl)(s:World)(c:MC)(N:Nat)(f:Fnc)(d:Nat)(x:Stm)(m:MS)(iv ov:Value)(R:Hl)(hC:CT p c s)(hn:c.nf=f.params.length+f.locals.length)(hM:MG p c N m iv ov R s)(b1:Nat)(A:Option Addr)(n1 z1:Nat)(hk:x.kind=7)(gc1:CellsAt s b1 0 [.slice A n1 z1])(hA:VeS p f d s A n1 z1 x.exprs)(h0n:0 < n1)(hr:sX p (sem p OPp n) f x m≠.out):AP prog D 94 [.pointer (some ⟨c.bm,0,none⟩),.pointer (some ⟨b1,0,none⟩)] (MB c N 0 m iv ov 0 0::MGb c m::MFb c m::(R++L)) s (okE p c N (sX p (sem p OPp n) f x m) VS RS [] L) (qeu c N (sX p (sem p OPp n) f x m) [] L):=by
 obtain ⟨r,hq⟩:∃ r,r=sX p (sem p OPp n) f x m:=⟨_,rfl⟩
 rw [← hq] at hr ⊢
 rw [sX,if_neg O,if_neg O,if_neg O,if_neg O,if_neg O,if_neg O,if_pos hk] at hq
 obtain ⟨B0,o0,b0,rfl,hcE,hvE⟩:=VeS.at_ hA h0n
 refine qaZ (fn:=f94) qaq func94 V Z ntmps94 Z (rs:=[.tmp 3]) Z [(0,_),(1,_)] Z<|Sr<|At Z Z<|Sr<|qaf (qaj Z Z Z (gc1.le (Lr D)) Z) Z<|qaf (qaH Z Z Z Z Z Z h0n) Z<|qaf (qaj Z Z Z (hcE.le (Lr D)) Z) Z<|Zqm Z Z ?_
 refine qa3 (first:=[]) (captured:=[.pointer (some ⟨b0,0,none⟩)]) Z Z Z (AP.fr (fun L=>hE L _ c N f d (qco x.exprs 0) _ m iv ov R (hC.le (Lr D)) hn (hvE.le (Lr D)) (hM.le (Lr D)) (qbP hq hr)) [] _) ?_ ?_
 ·
  rintro _ _ sx1 hx1 ⟨hp1,mf1,sf1,cf1,Zf1,he1,rfl,hF1⟩ fr9
  repeat (first | refine qaM ?_ | refine qaF ?_)
  refine qa5 [] _ Pr hx1 fun _ hS2=>?_
  exact ⟨hp1,mf1,sf1,cf1,Zf1,qbS hq he1,rfl,hF1⟩
 rintro _ _ s1 h1 ⟨a1,m1,iv1,ov1,R1,he1,⟨rfl,hu1⟩,rfl,hM1⟩
 rw [he1] at hq
 simp only [ER.and] at hq
 simp only [cQ9,nQ9]
 obtain ⟨Mo,hR,hO⟩:=hM1.out
 obtain ⟨Ao,co,hov,_,_⟩:=Own.slice hO
 subst hov
 subst hR
 refine At Z Z<|Zs<|Sr<|Zqm Z Z<|qcD Z Z<|Wb Y5<|W0 Y5<|Wl 0 Y6<|Ws Y4<|qf1 Z Z Z<|Nt<|?_
 refine qab Z (fun c2=>?_) (fun c2=>?_)
 ·
  have q9:=c2
  refine Zr<|Zqm Z Z<|?_
  refine qa3 (first:=[]) (captured:=[]) Z Z Z (qdg D [] _ _ c N _ m1 iv1 _ _ _) ?_ ?_
  ·
   rintro _ _ sx3 hx3 ⟨hp3,rfl⟩ fr9
   repeat (first | refine qaM ?_ | refine qaF ?_)
   refine qa5 [] _ Pr (h1.t hx3) fun _ hS2=>?_
   exact ⟨hp3,m1,_,_,_,by rw [hq,if_pos O],rfl,((hM1.le hx3).fin _ _ _)⟩
  rintro _ _ s3 h3 ⟨⟩
 have q9:=c2
 rw [if_neg O] at hq
 refine Zk<|Zt<|Sr<|Zqm Z Z<|Zqm Z Z<|qcD Z Z<|Wb Y5<|W0 Y5<|Wl 0 Y6<|Zqm Z Z<|qaf (qaw (qf6 Z Z Z Z Z) (congrArg (Value.int .u8) (u8w hu1))) Z<|qbt [(_,_)] [_] Z Z Z Z Z Z Z Z Z ?_
 intro β4 s4 h4 hc4
 refine qbd (sz:=1) (MB c N 0 m1 iv1 _ 0 0::MGb c m1::MFb c m1::qdL c.ab m1.arr) Mo L (by rw [List.append_assoc];rfl) Z Z Z Z Z Z hO (Row.of_cells (hc4.le (Lr D)) Z Z) ⟨by simp [ti5];omega,by omega⟩ Z ?_
 intro v9 M9 s5 h5 oq
 obtain ⟨A9,q9,rfl,_,_⟩:=Own.slice oq
 rw [← bvs1] at oq
 simp only [List.cons_append]
 rw [← List.append_assoc]
 refine qcD Z Z<|Wb Y5<|W0 Y5<|Wt 0 [_,_,_,_,_,_,_,_,_,_,_,_] Y9<|Nt<|Sr<|At Z Z<|Zo<|?_
 refine qaN [] _ (.inr Z) (.t1 Z) Z (h1.t h4|>.t h5) fun _ hS2=>?_
 exact ⟨(0,0),{ m1 with out:=m1.out++[UInt8.ofNat a1.toNat] },iv1,_,(qdL c.ab m1.arr++M9),hq,⟨rfl,⟨by decide,by decide⟩,fun _=>rfl⟩,rfl,((hM1.put O (by rw [List.length_append];exact oq)).le (h4.t h5|>.t hS2))⟩
theorem qqa(p:Prg)(D n:Nat)(hE:EOK p D n)(L:Hl)(s:World)(c:MC)(N:Nat)(f:Fnc)(d:Nat)(x:Stm)(m:MS)(iv ov:Value)(R:Hl)(hC:CT p c s)(hn:c.nf=f.params.length+f.locals.length)(hM:MG p c N m iv ov R s)(b1:Nat)(A:Option Addr)(n1 z1:Nat)(hk:x.kind=8)(gc1:CellsAt s b1 0 [.slice A n1 z1])(hA:VeS p f d s A n1 z1 x.exprs)(h0n:0 < n1)(hr:sX p (sem p OPp n) f x m≠.out):AP prog D 95 [.pointer (some ⟨c.bm,0,none⟩),.pointer (some ⟨b1,0,none⟩)] (MB c N 0 m iv ov 0 0::MGb c m::MFb c m::(R++L)) s (okE p c N (sX p (sem p OPp n) f x m) VS RS [] L) (qeu c N (sX p (sem p OPp n) f x m) [] L):=by
 obtain ⟨r,hq⟩:∃ r,r=sX p (sem p OPp n) f x m:=⟨_,rfl⟩
 rw [← hq] at hr ⊢
 rw [sX,if_neg O,if_neg O,if_neg O,if_neg O,if_neg O,if_neg O,if_neg O,if_pos hk] at hq
 obtain ⟨B0,o0,b0,rfl,hcE,hvE⟩:=VeS.at_ hA h0n
 refine qaZ (fn:=f95) qaq func95 V Z ntmps95 Z (rs:=[.tmp 3]) Z [(0,_),(1,_)] Z<|Sr<|At Z Z<|Sr<|Zqm Z Z<|qaf (qaj Z Z Z (gc1.le (Lr D)) Z) Z<|qaf (qaH Z Z Z Z Z Z h0n) Z<|qaf (qaj Z Z Z (hcE.le (Lr D)) Z) Z<|Zqm Z Z ?_
 refine qa3 (first:=[]) (captured:=[.pointer (some ⟨b0,0,none⟩)]) Z Z Z (AP.fr (fun L=>hE L _ c N f d (qco x.exprs 0) _ m iv ov R (hC.le (Lr D)) hn (hvE.le (Lr D)) (hM.le (Lr D)) (qbP hq hr)) [] _) ?_ ?_
 ·
  rintro _ _ sx1 hx1 ⟨hp1,mf1,sf1,cf1,Zf1,he1,rfl,hF1⟩ fr9
  repeat (first | refine qaM ?_ | refine qaF ?_)
  refine qa5 [] _ Pr hx1 fun _ hS2=>?_
  exact ⟨hp1,mf1,sf1,cf1,Zf1,qbS hq he1,rfl,hF1⟩
 rintro _ _ s1 h1 ⟨a1,m1,iv1,ov1,R1,he1,⟨rfl,hu1⟩,rfl,hM1⟩
 rw [he1] at hq
 simp only [ER.and] at hq
 simp only [cQ9,nQ9]
 refine qa3 (first:=[]) (captured:=[]) Z Z Z (qdg D [] _ _ c N _ m1 iv1 ov1 _ _) ?_ ?_
 ·
  rintro _ _ sx2 hx2 ⟨hp2,rfl⟩ fr9
  repeat (first | refine qaM ?_ | refine qaF ?_)
  refine qa5 [] _ Pr (h1.t hx2) fun _ hS2=>?_
  exact ⟨hp2,m1,_,_,_,hq,rfl,((hM1.le hx2).fin _ _ _)⟩
 rintro _ _ s2 h2 ⟨⟩
theorem quY(p:Prg)(D n:Nat)(L:Hl)(s:World)(c:MC)(N:Nat)(f:Fnc)(d:Nat)(x:Stm)(m:MS)(iv ov:Value)(R:Hl)(hC:CT p c s)(hn:c.nf=f.params.length+f.locals.length)(hM:MG p c N m iv ov R s)(hk:x.kind=9):AP prog D 96 [.pointer (some ⟨c.bm,0,none⟩)] (MB c N 0 m iv ov 0 0::MGb c m::MFb c m::(R++L)) s (okE p c N (sX p (sem p OPp n) f x m) VS RS [] L) (qeu c N (sX p (sem p OPp n) f x m) [] L):=by
 refine qaZ (fn:=f96) qaq func96 V Z ntmps96 Z (rs:=[.tmp 2]) Z [(0,_)] Z<|Sr<|At Z Z<|Sr<|At Z Z<|Zo<|?_
 refine qaN [] _ (.inr Z) (.t1 Z) Z (Lr D) fun _ hS2=>?_
 exact ⟨(1,0),m,iv,ov,R,by rw [sX,if_neg O,if_neg O,if_neg O,if_neg O,if_neg O,if_neg O,if_neg O,if_neg O,if_pos hk],⟨rfl,⟨by decide,by decide⟩,fun _=>rfl⟩,rfl,hM.le ((Lr D).t hS2)⟩
theorem qua(p:Prg)(D n:Nat)(L:Hl)(s:World)(c:MC)(N:Nat)(f:Fnc)(d:Nat)(x:Stm)(m:MS)(iv ov:Value)(R:Hl)(hC:CT p c s)(hn:c.nf=f.params.length+f.locals.length)(hM:MG p c N m iv ov R s)(hk:x.kind=10):AP prog D 97 [.pointer (some ⟨c.bm,0,none⟩)] (MB c N 0 m iv ov 0 0::MGb c m::MFb c m::(R++L)) s (okE p c N (sX p (sem p OPp n) f x m) VS RS [] L) (qeu c N (sX p (sem p OPp n) f x m) [] L):=by
 refine qaZ (fn:=f97) qaq func97 V Z ntmps97 Z (rs:=[.tmp 2]) Z [(0,_)] Z<|Sr<|At Z Z<|Sr<|At Z Z<|Zo<|?_
 refine qaN [] _ (.inr Z) (.t1 Z) Z (Lr D) fun _ hS2=>?_
 exact ⟨(2,0),m,iv,ov,R,by rw [sX,if_neg O,if_neg O,if_neg O,if_neg O,if_neg O,if_neg O,if_neg O,if_neg O,if_neg O],⟨rfl,⟨by decide,by decide⟩,fun _=>rfl⟩,rfl,hM.le ((Lr D).t hS2)⟩
end Go.Proofs.YtpdnijphccdiiaaGreatDoor
