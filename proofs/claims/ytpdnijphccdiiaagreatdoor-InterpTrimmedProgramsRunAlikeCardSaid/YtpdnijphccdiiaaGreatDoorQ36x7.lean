/- Part 7. -/
import Derived.Test.YtpdnijphccdiiaaGreatDoorQ36x6
import Derived.Recover
import Derived.ControlIn
set_option linter.unusedVariables false
set_option linter.unusedSimpArgs false
set_option linter.unnecessarySimpa false
set_option maxRecDepth 100000
set_option maxHeartbeats 8000000
namespace Go.Proofs.YtpdnijphccdiiaaGreatDoor
open Go.Proofs.Tryz
open Go.FL
attribute [local irreducible] JC JO JA JB qaO qaD qbV AC fill CellsAt QE Ev Mid
def Ck{α:Type}(m:MS):ER α→Prop
 | .ok _ m1=>m1.calls=m.calls
 | _=>True
theorem Ck.and{α β:Type}{m:MS}{r:ER α}{k:α→MS→ER β}(h:Ck m r)(hk:∀ a m1,Ck m1 (k a m1)):Ck m (r.and k):=by
 cases r with
 | out=>trivial
 | fin m1 st cd=>trivial
 | ok a m1=>
  have h2:=hk a m1
  have h3:m1.calls=m.calls:=h
  show Ck m (k a m1)
  cases hr:k a m1 with
  | out=>trivial
  | fin m2 st cd=>trivial
  | ok b m2=>rw [hr] at h2;exact (show m2.calls=m1.calls from h2).trans h3
theorem qmk{E:Ex→MS→ER Int}(hE:∀ x m,Ck m (E x m)):∀ (l:List Ex) (m:MS),Ck m (qbb E l m)
 | [],m=>by rw [qbb];exact rfl
 | x::r,m=>by rw [qbb];exact (hE x m).and fun v m1=>(qmk hE r m1).and fun _ _=>rfl
theorem qmB{T:Stm→MS→ER (Int×Int)}(hT:∀ x m,Ck m (T x m)):∀ (l:List Stm) (m:MS),Ck m (qbp T l m)
 | [],m=>by rw [qbp];exact rfl
 | x::r,m=>by
  rw [qbp]
  refine (hT x m).and fun y m1=>?_
  split
  · exact qmB hT r m1
  · exact rfl
theorem qqy{p:Prg}{OP:Int→Int→Int→Option Int}:∀ n,(∀ f x m,Ck m ((sem p OP n).e f x m))∧(∀ i vs m,Ck m ((sem p OP n).c i vs m))∧(∀ f x m,Ck m ((sem p OP n).t f x m))∧∀ f c b m,Ck m ((sem p OP n).w f c b m)
  | 0=>⟨fun _ _ _=>trivial,fun _ _ _=>trivial,fun _ _ _=>trivial,fun _ _ _ _=>trivial⟩
  | n+1=>by
    obtain ⟨hE,hC,hT,hW⟩:=qqy (p:=p) (OP:=OP) n
    have hR:=fun f=>qmB (T:=(sem p OP n).t f) (hT f)
    have hS:∀ m:MS,Ck m (qiB m):=fun m=>by unfold qiB;split;exact trivial;exact rfl
    refine ⟨fun f x m=>(hS m).and fun _ m=>?_,fun i vs m=>?_,fun f x m=>(hS m).and fun _ m=>?_,fun f c b m=>?_⟩
    · unfold vX
      split;exact rfl
      split;exact rfl
      split
      · exact (hE _ _ _).and fun i m=>by split;exact trivial;exact rfl
      split
      · exact (qmk (hE f) _ _).and fun vs m=>hC _ _ _
      split
      · unfold qnK;split <;> exact rfl
      split
      · exact (hE _ _ _).and fun a m=>rfl
      · refine (hE _ _ _).and fun a m=>?_
        split;exact rfl
        split;exact rfl
        refine (hE _ _ _).and fun b m=>?_
        split;exact rfl;exact trivial
    · show Ck m (cX p (sem p OP n) i vs m)
      unfold cX
      split
      · trivial
      · generalize qbp ((sem p OP n).t (p.funcs.getD i fn0)) (p.funcs.getD i fn0).body _=r
        cases r <;> first | trivial | rfl
    · unfold sX
      split
      · refine (hE _ _ _).and fun v m=>?_
        unfold qlQ;split <;> exact rfl
      split
      · refine (hE _ _ _).and fun i m=>?_
        split;exact trivial
        exact (hE _ _ _).and fun v m=>rfl
      split
      · refine (hE _ _ _).and fun v m=>?_
        split;exact hR f _ _;exact hR f _ _
      split
      · exact hW _ _ _ _
      split
      · exact (qmk (hE f) _ _).and fun vs m=>(hC _ _ _).and fun _ m=>rfl
      split
      · exact (hE _ _ _).and fun v m=>rfl
      split
      · refine (hE _ _ _).and fun v m=>?_
        split;exact trivial;exact rfl
      split
      · exact (hE _ _ _).and fun v m=>trivial
      split;exact rfl;exact rfl
    · show Ck m (wX (sem p OP n) f c b m)
      unfold wX
      refine (hE _ _ _).and fun v m=>?_
      split;exact rfl
      refine (hR f _ _).and fun y m=>?_
      split;exact rfl
      split;exact rfl
      exact hW _ _ _ _
theorem qxq{p:Prg}{OP:Int→Int→Int→Option Int}{n:Nat}{f:Fnc}{l:List Stm}{m m1:MS}{a:Int×Int}(h:qbp ((sem p OP n).t f) l m=.ok a m1):m1.calls=m.calls:=by
 have:=qmB (T:=(sem p OP n).t f) ((qqy (p:=p) (OP:=OP) n).2.2.1 f) l m
 rw [h] at this;exact this
theorem CT.at_{p:Prg}{c:MC}{s:World}{k:Nat}{fk:Fnc}(h:CT p c s)(hp:p.funcs[k]?=some fk):∃ b off d A n q,c.Af=some ⟨b,off,none⟩∧k < c.nF∧CellsAt s b (off+k * 2) [.int .i64 ((fk.params.length+fk.locals.length:Nat):Int),.slice A n q]∧VsS p fk d s A n q fk.body:=by
 obtain ⟨b,off,cs,h1,h2,_,d,A,n,q,rfl,h4⟩:=h.fn.2.2.2 k fk hp
 exact ⟨b,off,d,A,n,q,h1,by rw [h.fn.1];exact (List.getElem?_eq_some_iff.1 hp).1,h2,h4⟩
theorem qqL{vs:List Int}{sz:Nat}(h:vs.length≤sz):wv vs++(List.replicate sz (Value.int .u32 0)).drop vs.length=wv (qhC sz vs):=by
 rw [List.drop_replicate,qhC,List.take_of_length_le h,wv,wv,List.map_append,List.map_replicate]
theorem qm2{vs:List Int}{sz:Nat}(h:vs.length≤sz):(qhC sz vs).length=sz:=by
 rw [qhC,List.length_append,List.length_take,List.length_replicate];omega
theorem quO{vs:List Int}{sz:Nat}(h:∀ x∈vs,U32 x):∀ x∈qhC sz vs,U32 x:=fun x hx=>by
 rcases List.mem_append.1 hx with hx | hx
 · exact h x (List.mem_of_mem_take hx)
 · rw [List.mem_replicate] at hx;rw [hx.2];exact ⟨by decide,by decide⟩
theorem MG.call{p:Prg}{c:MC}{N:Nat}{m:MS}{iv ov:Value}{R:Hl}{s:World}(h:MG p c N m iv ov R s){l:List Int}{bf nf:Nat}(hl:l.length=nf)(hu:∀ x∈l,U32 x)(hc:¬ m.calls=100):MG p (c.wf bf nf) N { m with frm:=l,calls:=m.calls+1 } iv ov R s:=⟨h.inp,h.out,h.ug,hu,h.ua,h.ng,h.lg,hl,h.lb,h.la,h.ar,h.lo,by have:=h.lc;show m.calls+1≤100;omega,h.ll,h.lN⟩
theorem MG.back{p:Prg}{c:MC}{bf nf N:Nat}{m m0:MS}{iv ov:Value}{R:Hl}{s:World}(h:MG p (c.wf bf nf) N m iv ov R s){iv0 ov0:Value}{R0:Hl}{s0:World}(h0:MG p c N m0 iv0 ov0 R0 s0):MG p c N { m with frm:=m0.frm,calls:=m0.calls } iv ov R s:=⟨h.inp,h.out,h.ug,h0.uf,h.ua,h.ng,h.lg,h0.lf,h.lb,h.la,h.ar,h.lo,h0.lc,h.ll,h.lN⟩
theorem CT.wf{p:Prg}{c:MC}{s:World}(h:CT p c s)(bf nf:Nat):CT p (c.wf bf nf) s:=⟨h.fn,h.ar,h.fs,h.gu⟩
theorem pm52{a x y:Nat×Obj}{L:Hl}:(a::x::y::L).Perm (x::y::a::L):=(List.Perm.swap x a _).trans ((List.Perm.swap y a _).cons x)
theorem pm53{a x y:Nat×Obj}{L:Hl}:(x::y::a::L).Perm (a::x::y::L):=pm52.symm
theorem pm54{x y z:Nat×Obj}{R L:Hl}:(x::y::z::(R++L)).Perm (x::y::(R++z::L)):=((List.perm_middle (l₁:=R) (a:=z) (l₂:=L)).symm.cons y).cons x
theorem AP.perm{D:Nat}{f:FuncId}{args:List Value}{L L1:Hl}{s:World}{R R':Value→Hl→World→Prop}{X X':List PanicEntry→Hl→World→Prop}(hp:L.Perm L1)(h:AP prog D f args L1 s R X)(hq:∀ v L1' s',R v L1' s'→∃ L',L1'.Perm L'∧R' v L' s')(hx:∀ ch L1' s',X ch L1' s'→∃ L',L1'.Perm L'∧X' ch L' s'):AP prog D f args L s R' X':=
  ⟨h.1,fun ho=>by
    rw [qa4 hp _ ho]
    refine (h.2 (ho.perm hp)).mono ?_
    rintro e w' ⟨L1',s',hw,hok,hl,hr⟩
    rcases hr with ⟨v,he,hr⟩ | ⟨ch,he,hr⟩
    · obtain ⟨L',h1,h2⟩:=hq v L1' s' hr
      exact ⟨L',s',by rw [hw,qa4 h1 _ hok],hok.perm h1,hl,.inl ⟨v,he,h2⟩⟩
    · obtain ⟨L',h1,h2⟩:=hx ch L1' s' hr
      exact ⟨L',s',by rw [hw,qa4 h1 _ hok],hok.perm h1,hl,.inr ⟨ch,he,h2⟩⟩⟩
def okF(p:Prg)(c:MC)(N:Nat)(fv:Value)(r:ER Int)(L:Hl)(v:Value)(L':Hl)(s':World):Prop:=∃ a m' iv ov R,r=.ok a m'∧VE a v∧L'=MBv c N 0 m' iv ov 0 0 fv::MGb c m'::(R++L)∧MG p c N m' iv ov R s'
theorem qwH{p:Prg}{S:Sem}{k:Nat}{fk:Fnc}(hp:p.funcs[k]?=some fk)(vs:List Int)(m:MS):cX p S k vs m=if m.calls=100 then .fin m 1 3 else (qbp (S.t fk) fk.body { m with frm:=qhC (fk.params.length+fk.locals.length) vs,calls:=m.calls+1 }).and fun y m1=>.ok (if y.1=3 then y.2 else 0) { m1 with frm:=m.frm,calls:=m.calls }:=by
 have e:p.funcs.getD k fn0=fk:=by rw [List.getD_eq_getElem?_getD,hp];rfl
 rw [cX,e]
theorem qj6(p:Prg)(D n:Nat)(hT:TOK p D n)(L:Hl)(s:World)(c:MC)(N k:Nat)(fk:Fnc)(vs:List Int)(A1:Option Addr)(n1 z1:Nat)(m:MS)(iv ov:Value)(F0:Option Addr)(n0 z0:Nat)(R:Hl)(hC:CT p c s)(hW:Wds s A1 n1 z1 vs)(hp:p.funcs[k]?=some fk)(hl:vs.length=fk.params.length)(hM:MG p c N m iv ov R s)(hr:cX p (sem p OPp n) k vs m≠.out):AP prog D 52 [.pointer (some ⟨c.bm,0,none⟩),.int .i64 (k:Int),.slice A1 n1 z1] (MBv c N 0 m iv ov 0 0 (.slice F0 n0 z0)::MGb c m::(R++L)) s (okF p c N (.slice F0 n0 z0) (cX p (sem p OPp n) k vs m) L) (qeu c N (cX p (sem p OPp n) k vs m) [] L):=by
 obtain ⟨r,hq⟩:∃ r,r=cX p (sem p OPp n) k vs m:=⟨_,rfl⟩
 rw [← hq] at hr ⊢
 rw [qwH hp] at hq
 obtain ⟨bF,oF,d,Ab,nb,cb9,hAf,hkF,hcf,hB⟩:=hC.at_ hp
 have hf9:=hC.fs fk (List.mem_of_getElem? hp)
 have hn1:=hW.1
 have hcl:=hM.lc
 have hvl:vs.length≤fk.params.length+fk.locals.length:=by omega
 subst hn1
 refine qaZ (fn:=f52) qaq func52 V Z ntmps52 Z (rs:=[.tmp 6]) Z [(0,_),(1,_),(2,_)] Z<|Sr<|At Z Z<|Zs<|Sr<|Zqm Z Z<|qcD Z Z<|Wb Y5<|Wl 0 Y6<|qax Z Z Z<|Nt<|?_
 refine qab Z (fun c1=>?_) (fun c1=>?_)
 ·
  have q9:=c1
  refine Zr<|Zqm Z Z<|?_
  refine qa3 (first:=[]) (captured:=[]) Z Z Z (qdg D [] _ _ c N _ m iv ov _ _) ?_ ?_
  ·
   rintro _ _ sx2 hx2 ⟨hp2,rfl⟩ fr9
   repeat (first | refine qaM ?_ | refine qaF ?_)
   refine qa5 [] _ Pr hx2 fun _ hS2=>?_
   exact ⟨hp2,m,1,3,_,by rw [hq,if_pos O],rfl,(hM.le hx2).finv _ _ _ _ [MGb c m]⟩
  rintro _ _ s2 h2 ⟨⟩
 have q9:¬ m.calls=100:=by have:=c1;omega
 rw [if_neg q9] at hq
 refine Zk<|Zt<|Sr<|Zqm Z Z<|qcD Z Z<|W0 Y5<|qaf (qaw (Wd 0 Y5) (congrArg (fun a=>Value.slice a c.nF c.cF) hAf)) Z<|Zqm Z Z<|qaf (qap Z Z Z Z Z Z hkF) Z<|qaf (qas Z Z Z (hcf.le (Lr D)) Z) Z<|qae Z [_,_] Z Z ?_
 intro β3 s3 h3
 refine Wt 0 [_,_] Y9<|Nt<|Zs<|qbs [] [_] _ ?_
 intro s4 h4 hpub4
 simp only [cQ9,nQ9]
 have hc7:=hpub4 _ _ _ (List.mem_singleton.2 rfl)
  
 refine Zr<|Zqm Z Z<|qcD Z Z<|Wb Y5<|Wl 0 Y6<|At Z Z<|Sr<|Zqm Z Z<|W0 Y5<|qaf (qaj Z Z Z (hc7.le (Lr D)) Z) Z<|qwP (m:=fk.params.length+fk.locals.length) Z Z Z Z Z (by simp [ti29];omega) O Z ?_
 intro β s5 h5
 refine qcD Z Z<|Wb Y5<|Wt 1 [_,_,_,_,_,_,_,_,_,_,_,_] Y9<|Nt<|Sr<|Zqm Z Z<|qcD Z Z<|Wb Y5<|Wl 1 Y6<|Zqm Z Z<|qru 0 (L':=(β,cb (wv (qhC (fk.params.length+fk.locals.length) vs)) 29)::_) Z Z Z Z Z Z Z (hW.row.le (h3.t h4|>.t h5)) hvl (by simp) (by rw [qqL hvl];rfl) Z<|Nt<|Zs<|qeE pm52<|Zr<|Zqm Z Z<|qcD Z Z<|Wb Y5<|Wl 0 Y6<|?_
 refine qaf (qaw (qaX Z Z (w64 O O)) (congrArg (Value.int .i64) (show (m.calls:Int)+1=((m.calls+1:Nat):Int) by omega))) Z<|qcD Z Z<|Wb Y5<|Wt 0 [_,_,_,_,_,_,_,_,_,_,_,_] Y9<|Nt<|Sr<|Zqm Z Z<|qcD Z Z<|Wb Y5<|Wt 0 [_,_,_,_,_,_,_,_,_,_,_,_] Y9<|Nt<|Sr<|Zqm Z Z<|qaf (qbf Z Z Z Z) Z<|qaf (qaC 1 Z Z Z (hc7.le h5) Z) Z ?_
 refine qa3 (first:=[]) (captured:=[]) Z Z Z (qkg p D n hT L _ (c.wf β (fk.params.length+fk.locals.length)) N fk d fk.body { m with frm:=qhC (fk.params.length+fk.locals.length) vs,calls:=m.calls+1 } iv ov R ((hC.le (h3.t h4|>.t h5)).wf _ _) Z ((hM.le (h3.t h4|>.t h5)).call (qm2 hvl) (quO hW.u32) q9) Ab nb cb9 (hB.le (h3.t h4|>.t h5)) (qbP hq hr)) ?_ ?_
 ·
  rintro _ _ sx7 hx7 ⟨hp7,mf7,sf7,cf7,Zf7,he7,rfl,hF7⟩ fr9
  repeat (first | refine qaM ?_ | refine qaF ?_)
  refine qa5 [] _ Pr (h3.t h4|>.t h5|>.t hx7) fun _ hS2=>?_
  exact ⟨hp7,mf7,sf7,cf7,Zf7,qbS hq he7,rfl,hF7.wf⟩
 rintro _ _ s7 h7 ⟨⟨a7,y7⟩,m7,iv7,ov7,R7,he7,⟨rfl,hu7,hz7⟩,rfl,hM7⟩
 have hck:m7.calls=m.calls+1:=qxq he7
 rw [he7] at hq
 simp only [ER.and] at hq
 rw [show (if a7=3 then y7 else 0)=y7 from by split;rfl;rename_i h8;exact (hz7 h8).symm] at hq
 simp only [cQ9,nQ9]
 refine Nt<|Sr<|Zqm Z Z<|qcD Z Z<|Wb Y5<|Wl 0 Y6<|At Z Z<|Sr<|Zqm Z Z<|qcD Z Z<|Wb Y5<|Wt 0 [_,_,_,_,_,_,_,_,_,_,_,_] Y9<|Nt<|Sr<|Zqm Z Z<|qcD Z Z<|Wb Y5<|Wl 0 Y6<|qaf (qaw (qbU Z Z (w64 O O)) (congrArg (Value.int .i64) (show _=((m.calls:Nat):Int) by omega))) Z<|qcD Z Z<|Wb Y5<|Wt 0 [_,_,_,_,_,_,_,_,_,_,_,_] Y9<|Nt<|Zs<|qeE pm53 ?_
 refine Zr<|Zqm Z Z<|Zqm Z Z<|qcD Z Z<|Wb Y5<|Wt 1 [_,_,_,_,_,_,_,_,_,_,_,_] Y9<|Nt<|Sr<|Zqm Z Z<|At Z Z<|Zo<|?_
 refine qaN [_] _ (.inr Z) (.t1 Z) Z (h3.t h4|>.t h5|>.t h7) fun _ hS2=>?_
 exact ⟨_,{ m7 with frm:=m.frm,calls:=m.calls },iv7,ov7,R7,hq,⟨rfl,hu7⟩,rfl,(hM7.back hM).le ((Lr D).t hS2)⟩
theorem qry(p:Prg)(D n:Nat)(hT:TOK p D n)(L:Hl)(s:World)(c:MC)(N k:Nat)(fk:Fnc)(vs:List Int)(A1:Option Addr)(n1 c1:Nat)(m:MS)(iv ov:Value)(R:Hl)(hC:CT p c s)(hW:Wds s A1 n1 c1 vs)(hp:p.funcs[k]?=some fk)(hl:vs.length=fk.params.length)(hM:MG p c N m iv ov R s)(hr:cX p (sem p OPp n) k vs m≠.out):AP prog D 52 [.pointer (some ⟨c.bm,0,none⟩),.int .i64 (k:Int),.slice A1 n1 c1] (MB c N 0 m iv ov 0 0::MGb c m::MFb c m::(R++L)) s (okE p c N (cX p (sem p OPp n) k vs m) VE RE [] L) (qeu c N (cX p (sem p OPp n) k vs m) [] L):=by
  refine AP.perm pm54 (qj6 p D n hT (MFb c m::L) s c N k fk vs A1 n1 c1 m iv ov _ _ _ R hC hW hp hl hM hr) ?_ ?_
  · rintro v L1 s1 ⟨a,m',iv',ov',R',h1,h2,rfl,h4⟩
    have hf:m'.frm=m.frm:=by
      rw [cX] at h1
      split at h1
      · cases h1
      · cases hr2:qbp ((sem p OPp n).t (p.funcs.getD k fn0)) (p.funcs.getD k fn0).body { m with frm:=qhC ((p.funcs.getD k fn0).params.length+(p.funcs.getD k fn0).locals.length) vs,calls:=m.calls+1 } with
        | out=>rw [hr2] at h1;cases h1
        | fin _ _ _=>rw [hr2] at h1;cases h1
        | ok y m2=>rw [hr2] at h1;simp only [ER.and] at h1;injection h1 with _ h1;rw [← h1]
    refine ⟨_,pm54.symm,a,m',iv',ov',R',h1,h2,?_,h4⟩
    have e:MFb c m=MFb c m':=by rw [MFb,MFb,hf]
    rw [e];rfl
  · rintro ch L1 s1 ⟨h1,m',st,cd,Z,h2,rfl,h4⟩
    exact ⟨_,List.Perm.refl _,h1,m',st,cd,Z++[MFb c m],h2,by simp,h4.app _⟩
theorem vok(p:Prg)(D n:Nat)(hE:EOK p D n)(hK:COK p D n):VOK p D n:=by
 intro L s c N f d x w m iv ov R hC hn hv hM hr
 cases hv with
 | num b A1 n1 c1 hk hc hu=>exact ⟨_,[_],rfl,qvp D L s p _ c N f x m iv ov R hn hM b A1 n1 c1 hk hc hu⟩
 | slot b hk h0 hl hc=>exact ⟨_,[_],rfl,qt7 D L s p _ c N f x m iv ov R hn hM b hk h0 hl hc⟩
 | con b k g A n1 c1 hk hs hg hp h1 hc hu=>exact ⟨_,[_],rfl,qvt D L s p _ c N f x m iv ov R hn hM b k g A n1 c1 hk hs hg hp h1 hc hu⟩
 | var b k g hk hs hg hp h1 hc=>exact ⟨_,[_],rfl,qvP D L s p _ c N f x m iv ov R hn hM b k g hk hs hg hp h1 hc⟩
 | idx b1 b2 k g A n1 c1 hk hg hp h3 h1 h2 hA h0=>exact ⟨_,[_,_],rfl,qu4 p D n hE L s c N f d x m iv ov R hC hn hM b1 b2 k g A n1 c1 hk hg hp h3 h1 h2 hA h0 hr⟩
 | call w hk h=>
  obtain ⟨be,bi,A,n1,c1,k,fk,rfl,h1,h2,hA,hg,hp,hl⟩:=h
  have e:vX p OPp (sem p OPp n) f x m=(qbb ((sem p OPp n).e f) x.args m).and fun vs m=>(sem p OPp n).c k vs m:=by rw [qtd hk,hg,Int.toNat_natCast]
  rw [e] at hr ⊢
  exact ⟨_,[_,_],rfl,qkt p D n hE L s c N f d x.args m iv ov R hC hn hM hK be bi k fk A n1 c1 h1 h2 hA hp hl hr⟩
 | get hk=>exact ⟨_,[],rfl,qvF D L s p _ c N f x m iv ov R hn hM hk⟩
 | una b1 b2 A1 n1 c1 A n2 c2 hk h1 h2 hA h0=>exact ⟨_,[_,_],rfl,qwj p D n hE L s c N f d x m iv ov R hC hn hM b1 b2 A1 n1 c1 A n2 c2 hk h1 h2 hA h0 hr⟩
 | bin b1 b2 b3 v1 v2 hk h1 h2 h3 hv1 hv2 ho=>
  obtain ⟨b4,rfl⟩:=hv1.func
  obtain ⟨b5,rfl⟩:=hv2.func
  exact ⟨_,[_,_,_],rfl,qvV p D n hE L s c N f d x m iv ov R hC hn hM b1 b2 b3 b4 b5 hk h1 h2 h3 hv1 hv2 hr⟩
theorem sok(p:Prg)(D n:Nat)(ihE:∀ j,j≤n→EOK p D j)(ihT:∀ j,j≤n→TOK p D j)(hK:COK p D n):SOK p D n:=by
 intro L s c N f d x w m iv ov R hC hn hv hM hr
 have hE:=ihE n (Nat.le_refl _)
 have hT:=ihT n (Nat.le_refl _)
 cases hv with
 | setl b1 b2 v hk h0 hl h1 h2 hv=>
  obtain ⟨b4,rfl⟩:=hv.func
  exact ⟨_,[_,_],rfl,qtw p D n hE L s c N f d x m iv ov R hC hn hM b1 b2 b4 hk h0 hl h1 h2 hv hr⟩
 | setg b1 b2 k g v hk hs hg hp hg2 h1 h2 hv=>
  obtain ⟨b4,rfl⟩:=hv.func
  exact ⟨_,[_,_],rfl,qsj p D n hE L s c N f d x m iv ov R hC hn hM b1 b2 b4 k g hk hs hg hp h1 h2 hv hr⟩
 | store b1 b2 k g A n1 c1 hk hg hp h3 h1 h2 hA h0=>exact ⟨_,[_,_],rfl,qoM p D n hE L s c N f d x m iv ov R hC hn hM b1 b2 k g A n1 c1 hk hg hp h3 h1 h2 hA h0 hr⟩
 | cond b1 b2 b3 A n1 c1 B n2 c2 G n3 c3 hk h1 h2 h3 hA h0 hB hG=>exact ⟨_,[_,_,_],rfl,qtQ p D n hE hT L s c N f d x m iv ov R hC hn hM b1 b2 b3 A n1 c1 B n2 c2 G n3 c3 hk h1 h2 h3 hA h0 hB hG hr⟩
 | loop b1 b2 A n1 c1 B n2 c2 hk h1 h2 hA h0 hB=>exact ⟨_,[_,_],rfl,qsp p D n ihE ihT L s c N f d x m iv ov R hC hn hM b1 b2 A n1 c1 B n2 c2 hk h1 h2 hA h0 hB hr⟩
 | call b1 w hk h1 h=>
  obtain ⟨be,bi,A,n1,c1,k,fk,rfl,he,hi,hA,hg,hp,hl⟩:=h
  exact ⟨_,[_],rfl,qox p D n hE L s c N f d x m iv ov R hC hn hM hK b1 be bi k fk A n1 c1 hk h1 he hi hA hg hp hl hr⟩
 | ret b1 A n1 c1 hk h1 hA h0=>exact ⟨_,[_],rfl,qvq p D n hE L s c N f d x m iv ov R hC hn hM b1 A n1 c1 hk h1 hA h0 hr⟩
 | put b1 A n1 c1 hk h1 hA h0=>exact ⟨_,[_],rfl,quF p D n hE L s c N f d x m iv ov R hC hn hM b1 A n1 c1 hk h1 hA h0 hr⟩
 | stop b1 A n1 c1 hk h1 hA h0=>exact ⟨_,[_],rfl,qqa p D n hE L s c N f d x m iv ov R hC hn hM b1 A n1 c1 hk h1 hA h0 hr⟩
 | brk hk=>exact ⟨_,[],rfl,quY p D n L s c N f d x m iv ov R hC hn hM hk⟩
 | cont hk=>exact ⟨_,[],rfl,qua p D n L s c N f d x m iv ov R hC hn hM hk⟩
theorem qqY(p:Prg)(D:Nat):∀ n,EOK p D n∧COK p D n∧TOK p D n
 | 0=>⟨fun _ _ _ _ _ _ _ _ _ _ _ _ _ _ _ _ h=>absurd rfl h,fun _ _ _ _ _ _ _ _ _ _ _ _ _ _ _ _ _ _ _ h=>absurd rfl h,fun _ _ _ _ _ _ _ _ _ _ _ _ _ _ _ _ h=>absurd rfl h⟩
 | n+1=>by
  have ih:∀ j,j≤n→EOK p D j∧COK p D j∧TOK p D j:=fun j hj=>qqY p D j
  obtain ⟨hE,hK,hT⟩:=ih n (Nat.le_refl _)
  exact ⟨qow p D n (vok p D n hE hK),fun L s c N k fk vs A n1 c1 m iv ov R hC hW hp hl hM hr=>qry p D n hT L s c N k fk vs A n1 c1 m iv ov R hC hW hp hl hM hr,qpy p D n (sok p D n (fun j hj=>(ih j hj).1) (fun j hj=>(ih j hj).2.2) hK)⟩
end Go.Proofs.YtpdnijphccdiiaaGreatDoor
namespace Go.Proofs.YtpdnijphccdiiaaGreatDoor
open Go Go.FL
mutual
theorem qu9:∀ (x:Ex) (lv c c':Nat),c'≤c→(wkX x lv c).2=0→(wkX x lv c').2=0
 | .mk k o n nm ar,lv,c,c',hc,h=>by
  simp only [wkX] at h ⊢
  split at h
  · cases h
  rename_i h1
  split at h
  · rename_i h2;exact absurd h h2
  rename_i h2
  rw [if_neg O,if_neg h2]
  exact qi9 ar (lv+1) (c+1) (c'+1) O h
theorem qi9:∀ (l:List Ex) (lv c c':Nat),c'≤c→(qcp l lv c).2=0→(qcp l lv c').2=0
 | [],_,_,_,_,_=>rfl
 | x::r,lv,c,c',hc,h=>by
  simp only [qcp] at h ⊢
  split at h
  · rename_i h1;exact absurd h h1
  rename_i h1
  have a:=qu9 x lv c c' hc (by simpa using h1)
  rw [if_neg (by rw [a];simp)]
  rw [(qmo x lv c (by simpa using h1)).2.1] at h
  rw [(qmo x lv c' a).2.1]
  exact qi9 r lv _ _ O h
end
mutual
theorem quW:∀ (x:Stm) (lv c c':Nat),c'≤c→(wkS x lv c).2=0→(wkS x lv c').2=0
 | .mk k nm es b e,lv,c,c',hc,h=>by
  simp only [wkS] at h ⊢
  split at h
  · cases h
  rename_i h1
  split at h
  · rename_i h2;exact absurd h h2
  rename_i h2
  split at h
  · rename_i h3;exact absurd h h3
  rename_i h3
  split at h
  · rename_i h4;exact absurd h h4
  rename_i h4
  have h3':(qcp es 1 (c+1)).2=0:=by simpa using h3
  have h4':(qck b (lv+1) (qcp es 1 (c+1)).1).2=0:=by simpa using h4
  have a:=qi9 es 1 (c+1) (c'+1) O h3'
  have k1:=(qd5 es 1 (c+1) h3').2.1
  have k2:=(qd5 es 1 (c'+1) a).2.1
  have k3:=(qc1 b (lv+1) _ h4').2.1
  have b1:=qhM b (lv+1) (qcp es 1 (c+1)).1 (qcp es 1 (c'+1)).1 O h4'
  have k4:=(qc1 b (lv+1) _ b1).2.1
  rw [if_neg O,if_neg h2,if_neg (by rw [a];simp),if_neg (by rw [b1];simp)]
  exact qhM e (lv+1) _ _ O h
theorem qhM:∀ (l:List Stm) (lv c c':Nat),c'≤c→(qck l lv c).2=0→(qck l lv c').2=0
 | [],_,_,_,_,_=>rfl
 | x::r,lv,c,c',hc,h=>by
  simp only [qck] at h ⊢
  split at h
  · rename_i h1;exact absurd h h1
  rename_i h1
  have a:=quW x lv c c' hc (by simpa using h1)
  rw [if_neg (by rw [a];simp)]
  rw [(qlB x lv c (by simpa using h1)).2.1] at h
  rw [(qlB x lv c' a).2.1]
  exact qhM r lv _ _ O h
end
theorem qq1{x:Fnc}{c c':Nat}(hc:c'≤c)(h:(fnC x c).2=0):(fnC x c').2=0∧(fnC x c').1≤(fnC x c).1∧c≤(fnC x c).1:=by
 have h0:=(qfY h).2.2.2.2.2.1
 have h7:(fnC x c').2=0:=by
  unfold fnC at h ⊢
  split at h
  · cases h
  rename_i h1
  split at h
  · cases h
  rename_i h2
  split at h
  · cases h
  rename_i h3
  rw [if_neg h1,if_neg h2,if_neg h3]
  exact qhM _ _ _ _ hc h
 have h8:=(qfY h7).2.2.2.2.2.1
 exact ⟨h7,by omega,by omega⟩
theorem qsB{l l':List Fnc}(hs:l'.Sublist l):∀ {i i' c c':Nat},c'≤c→(fnF l i c).1=0→(fnF l' i' c').1=0:=by
 induction hs with
 | slnil=>intro i i' c c' _ _;rfl
 | cons x _ ih=>
  intro i i' c c' hc h
  rw [fnF] at h
  split at h
  · rename_i h1;exact absurd h h1
  rename_i h1
  have:=qq1 hc (by simpa using h1)
  exact ih O h
 | cons_cons x _ ih=>
  intro i i' c c' hc h
  rw [fnF] at h ⊢
  split at h
  · rename_i h1;exact absurd h h1
  rename_i h1
  have:=qq1 hc (by simpa using h1)
  rw [if_neg (by rw [this.1];simp)]
  exact ih this.2.1 h
theorem qrb:∀ {l:List Glo} {i:Nat},(∀ g∈l,qfw g=0)→glF l i=(0,0)
 | [],_,_=>rfl
 | x::r,i,h=>by
  rw [glF,if_neg (by rw [h x Mc];simp)]
  exact qrb fun g hg=>h g (List.mem_cons_of_mem _ hg)
theorem qsh{α:Type}{f:α→Nat}{l l':List α}(hs:l'.Sublist l):(l'.map f).sum≤(l.map f).sum:=by
 induction hs with
 | slnil=>exact Nat.le_refl _
 | cons x _ ih=>simp only [List.map_cons,List.sum_cons];omega
 | cons_cons x _ ih=>simp only [List.map_cons,List.sum_cons];omega
theorem qjz{α:Type}{f:α→Str}{l l':List α}(hs:l'.Sublist l):(l'.map f).flatten.length≤(l.map f).flatten.length:=by
 induction hs with
 | slnil=>exact Nat.le_refl _
 | cons x _ ih=>simp only [List.map_cons,List.flatten_cons,List.length_append];omega
 | cons_cons x _ ih=>simp only [List.map_cons,List.flatten_cons,List.length_append];omega
theorem qpR{p q:Prg}(hg:q.globals.Sublist p.globals)(hf:q.funcs.Sublist p.funcs)(h:(qd2 p).1=0):qd2 q=(0,0):=by
 have hs:=qfd h
 have hl:¬ 12000 < (qkw p).length:=by
  rw [qd2,if_neg (by simpa using hs)] at h
  intro h2;rw [if_pos h2] at h;cases h
 have h1:=hg.length_le
 have h2:=hf.length_le
 have h3:=qsh (f:=fun g:Glo=>g.init.length) hg
 have h4:=qjz (f:=qdW) hg
 have h5:=qjz (f:=qg1) hf
 unfold qbe at hs
 split at hs
 · cases hs
 rename_i h6
 split at hs
 · rename_i h7;exact absurd hs h7
 rename_i h7
 split at hs
 · cases hs
 rename_i h8
 have g0:=qht (l:=p.globals) (i:=0) (by simpa using h7)
 have hq:(qbe q).1=0:=by
  rw [qbe,if_neg O,qrb (fun g hm=>g0 g (hg.subset hm)),if_neg (by simp),if_neg O]
  exact qsB hf (Nat.le_refl _) hs
 refine qr1 (qe0 hq) ?_
 rw [qkw,List.length_append] at hl ⊢
 omega
theorem qns:∀ {l:List Glo} {seen:List Str} {i:Nat},(seen++l.map Glo.name).Nodup→qfl l seen i=(0,0)
  | [],_,_,_=>rfl
  | g::r,seen,i,h=>by
    rw [qfl,if_neg ?_]
    · exact qns (by simpa using h)
    · rw [List.nodup_append] at h
      intro hm;exact h.2.2 _ hm _ (by simp) rfl
theorem ql4:∀ {l:List Fnc} {seen:List Str} {i:Nat},(seen++l.map Fnc.name).Nodup→(∀ x∈l,(x.params++x.locals).Nodup)→qfi l seen i=(0,0)
  | [],_,_,_,_=>rfl
  | g::r,seen,i,h,h2=>by
    rw [qfi,if_neg ?_]
    · exact ql4 (by simpa using h) fun x hx=>h2 x (List.mem_cons_of_mem _ hx)
    · rw [List.nodup_append] at h
      rintro (hm | hm)
      · exact h.2.2 _ hm _ (by simp) rfl
      · exact hm (h2 g Mc)
theorem qmP(p:Prg):(ents p).map (·.1)=p.globals.map Glo.name++p.funcs.map Fnc.name:=by
 rw [ents,List.map_append]
 congr 1 <;> (apply List.ext_getElem <;> simp)
theorem qnu{p:Prg}:∀ {l:List Fnc} {i:Nat},(∀ x∈l,∀ nd∈qcn x.body 0,ndC p x nd=0)→qiS p l i=(0,0)
 | [],_,_=>rfl
 | x::r,i,h=>by
  have hb:∀ {l:List Nd},(∀ nd∈l,ndC p x nd=0)→qfH p x l=0:=by
   intro l
   induction l with
   | nil=>intro _;rfl
   | cons n r ih=>intro h;rw [qfH,if_pos (h n Mc)];exact ih fun nd hm=>h nd (List.mem_cons_of_mem _ hm)
  rw [qiS,if_pos (hb (h x Mc))]
  exact qnu fun y hy=>h y (List.mem_cons_of_mem _ hy)
theorem qsW{p:Prg}(h1:qd2 p=(0,0))(h2:qb2 p=(0,0))(h3:∀ x∈p.funcs,∀ nd∈qcn x.body 0,ndC p x nd=0):qbM p=(0,0):=by
 rw [qbM,h1,if_neg (by simp),h2,if_neg (by simp)];exact qnu h3
theorem qc0{α:Type}:∀ (B:List Bool) (l:List α),(qav B l).Sublist l
 | [],l=>by rw [qav];exact List.nil_sublist _
 | b::B,[]=>by rw [qav];exact List.nil_sublist _
 | b::B,x::l=>by
  rw [qav];split
  · exact (qc0 B l).cons_cons x
  · exact (qc0 B l).cons x
def qb4:List Bool→Nat→Nat
 | _,0=>0
 | [],_+1=>0
 | b::B,i+1=>qb4 B i+(if b=true then 1 else 0)
theorem qbI{α:Type}:∀ {B:List Bool} {l:List α} {i:Nat} {x:α},l[i]?=some x→B[i]?=some true→(qav B l)[qb4 B i]?=some x
 | [],l,i,x,_,h2=>by simp at h2
 | b::B,[],i,x,h,_=>by simp at h
 | b::B,y::l,0,x,h,h2=>by
  have h:y=x:=by simpa using h
  have h2:b=true:=by simpa using h2
  subst h h2
  rw [qav,qb4];rfl
 | b::B,y::l,i+1,x,h,h2=>by
  have ih:=qbI (B:=B) (l:=l) (i:=i) (x:=x) (by simpa using h) (by simpa using h2)
  rw [qav,qb4]
  split
  · rw [List.getElem?_cons_succ];exact ih
  · exact ih
theorem qff{α:Type}:∀ {B:List Bool} {l:List α} {k:Nat} {x:α},(qav B l)[k]?=some x→∃ i,l[i]?=some x∧B[i]?=some true∧qb4 B i=k
  | [],l,k,x,h=>by rw [qav] at h;cases h
  | b::B,[],k,x,h=>by rw [qav] at h;cases h
  | b::B,y::l,k,x,h=>by
    rw [qav] at h
    split at h
    · rename_i hb
      cases k with
      | zero=>exact ⟨0,h,by rw [hb];rfl,rfl⟩
      | succ k=>
        obtain ⟨i,a,b1,c⟩:=qff (B:=B) (l:=l) (by simpa using h)
        exact ⟨i+1,by simpa using a,by simpa using b1,by rw [qb4,c,if_pos hb]⟩
    · rename_i hb
      obtain ⟨i,a,b1,c⟩:=qff (B:=B) (l:=l) h
      exact ⟨i+1,by simpa using a,by simpa using b1,by rw [qb4,c,if_neg hb];rfl⟩
theorem qgo{α:Type}:∀ {B:List Bool} {l:List α},B.length=l.length→(∀ k:Nat,k < l.length→B[k]?=some true)→qav B l=l
 | [],[],_,_=>rfl
 | [],y::l,h,_=>by cases h
 | b::B,[],_,_=>rfl
 | b::B,y::l,h,h2=>by
  have hb:b=true:=by simpa using h2 0 (by simp)
  rw [qav,if_pos hb,qgo (B:=B) (l:=l) (by simpa using h) fun k hk=>by simpa using h2 (k+1) (by simp;omega)]
theorem qeZ{p:Prg}{nm:Str}{e:Str×(Int×Int)}(h:((ents p).find? fun e=>decide (e.1=nm))=some e):(∃ (i:Nat) (g:Glo),p.globals[i]?=some g∧g.name=nm∧e.2=((3:Int),(i:Int)))∨∃ (i:Nat) (f:Fnc),p.funcs[i]?=some f∧f.name=nm∧e.2=((4:Int),(i:Int)):=by
  have hn:e.1=nm:=by simpa using List.find?_some h
  have hm:=List.mem_of_find?_eq_some h
  rw [ents,List.mem_append] at hm
  rcases hm with hm | hm
  · obtain ⟨i,hi⟩:=List.getElem?_of_mem hm
    rw [List.getElem?_mapIdx] at hi
    cases hg:p.globals[i]? with
    | none=>rw [hg] at hi;cases hi
    | some g=>rw [hg] at hi;simp at hi;subst hi;exact .inl ⟨i,g,hg,hn,rfl⟩
  · obtain ⟨i,hi⟩:=List.getElem?_of_mem hm
    rw [List.getElem?_mapIdx] at hi
    cases hg:p.funcs[i]? with
    | none=>rw [hg] at hi;cases hi
    | some g=>rw [hg] at hi;simp at hi;subst hi;exact .inr ⟨i,g,hg,hn,rfl⟩
def qmE(F G:List Bool)(m:Int×Int):Int×Int:=if m.1=3 then (3,(qb4 G m.2.toNat:Int)) else if m.1=4 then (4,(qb4 F m.2.toNat:Int)) else m
theorem qoZ{p:Prg}{F G:List Bool}(hnd:((ents ⟨qav G p.globals,qav F p.funcs⟩).map (·.1)).Nodup){x:Fnc}{nm:Str}(h2:(qaz p x nm).2=true)(hg:∀ g:Nat,(qaz p x nm).1=((3:Int),(g:Int))→G[g]?=some true)(hf:∀ k:Nat,(qaz p x nm).1=((4:Int),(k:Int))→F[k]?=some true):qaz ⟨qav G p.globals,qav F p.funcs⟩ x nm=(qmE F G (qaz p x nm).1,true):=by
  unfold qaz at h2 hg hf ⊢
  split
  · rfl
  rename_i h3
  rw [if_neg h3] at h2 hg hf
  split
  · rfl
  rename_i h4
  rw [if_neg h4] at h2 hg hf
  cases hfd:(ents p).find? fun e=>decide (e.1=nm) with
  | none=>rw [hfd] at h2;cases h2
  | some e=>
    rw [hfd] at hg hf
    simp only at hg hf ⊢
    rcases qeZ hfd with ⟨i,g,a,b,c⟩ | ⟨i,g,a,b,c⟩
    · have k1:=qcS hnd (qhh (p:=⟨qav G p.globals,qav F p.funcs⟩) (qbI a (hg i c)))
      simp only [b] at k1
      rw [k1,c];rfl
    · have k1:=qcS hnd (qd9 (p:=⟨qav G p.globals,qav F p.funcs⟩) (qbI a (hf i c)))
      simp only [b] at k1
      rw [k1,c];rfl
theorem qeP{p:Prg}{x:Fnc}{u:Use}(h:qeD p x u=0)(hu:u.2.1≠0):(qaz p x u.1).2=true∧qce (qit p (qaz p x u.1).1.2) u.2.1 (qaz p x u.1).1.1∧¬ (u.2.1=4∧u.2.2≠(qur p (qaz p x u.1).1.2:Int)):=by
 unfold qeD at h
 rw [if_neg hu] at h
 split at h
 · cases h
 rename_i h1
 split at h
 · cases h
 rename_i h2
 split at h
 · cases h
 rename_i h3
 exact ⟨by simpa using h1,Decidable.not_not.1 h2,h3⟩
theorem qfb{p:Prg}{x:Fnc}{nd:Nd}(h:ndC p x nd=0):qeD p x nd.use=0∧∀ q:Prg,qeD q x nd.use=0→ndC q x nd=0:=by
 cases nd with
 | ex y lp=>exact ⟨h,fun q hq=>hq⟩
 | st y lp=>
  rw [ndC] at h
  split at h
  · cases h
  rename_i h1
  exact ⟨h,fun q hq=>by rw [ndC,if_neg h1];exact hq⟩
theorem qed{m:Int×Int}{k:Nat}{c:Int}(h1:m.1=c)(h2:m.2=(k:Int)):m=(c,(k:Int)):=Prod.ext h1 h2
section
variable{p:Prg}{F G:List Bool}(hnd:((ents ⟨qav G p.globals,qav F p.funcs⟩).map (·.1)).Nodup){x:Fnc}{nd:Nd}(h:ndC p x nd=0)(hg:∀ g:Nat,(g:Int)∈mnI p x 3 nd→G[g]?=some true)(hf:∀ k:Nat,(k:Int)∈mnI p x 4 nd→F[k]?=some true)
theorem qfx{p:Prg}{x:Fnc}{nd:Nd}{c:Int}{k:Nat}(hu:nd.use.2.1≠0)(h:(qaz p x nd.use.1).1=(c,(k:Int))):(k:Int)∈mnI p x c nd:=by
 rw [mnI,if_neg hu,h,if_pos rfl];simp
include hnd h hg hf in
theorem qhi(hu:nd.use.2.1≠0):qaz ⟨qav G p.globals,qav F p.funcs⟩ x nd.use.1=(qmE F G (qaz p x nd.use.1).1,true):=
 qoZ hnd (qeP (qfb h).1 hu).1 (fun g hm=>hg g (qfx hu hm)) (fun k hm=>hf k (qfx hu hm))
include hnd h hg hf in
theorem qr9:ndC ⟨qav G p.globals,qav F p.funcs⟩ x nd=0:=by
  refine (qfb h).2 _ ?_
  by_cases hu:nd.use.2.1=0
  · rw [qeD,if_pos hu]
  obtain ⟨a1,a2,a3⟩:=qeP (qfb h).1 hu
  have hm:=qhi hnd h hg hf hu
  rw [qeD,if_neg hu,hm,if_neg (by simp)]
  simp only
  rcases qch a1 with k1 | ⟨k1,k,k2,k3⟩ | ⟨k1,k,k2,k3⟩
  · rw [show qmE F G (qaz p x nd.use.1).1=(qaz p x nd.use.1).1 by rw [qmE,if_neg O,if_neg O]]
    have hp:(nd.use.2.1=1∨nd.use.2.1=2):=by
      unfold qce at a2
      omega
    rw [if_neg (by unfold qce;omega),if_neg O]
  · have e:=qed k1 k2
    rw [e] at a2 a3 ⊢
    obtain ⟨gl,hgl⟩:∃ gl,p.globals[k]?=some gl:=⟨_,List.getElem?_eq_getElem k3⟩
    have hq:=qbI hgl (hg k (qfx hu e))
    have e1:=qd6 hgl
    have e2:=qd6 (p:=⟨qav G p.globals,qav F p.funcs⟩) hq
    simp only [qmE,if_true,Int.toNat_natCast] at e2 ⊢
    rw [e2,← e1,if_neg (Decidable.not_not.2 a2),if_neg]
    unfold qce at a2
    simp only at a2
    omega
  · have e:=qed k1 k2
    rw [e] at a2 a3 ⊢
    obtain ⟨gl,hgl⟩:∃ gl,p.funcs[k]?=some gl:=⟨_,List.getElem?_eq_getElem k3⟩
    have hq:=qbI hgl (hf k (qfx hu e))
    have e1:=qfo (p:=p) (i:=(k:Int)) rfl hgl
    have e2:=qfo (p:=⟨qav G p.globals,qav F p.funcs⟩) (i:=((qb4 F k:Nat):Int)) rfl hq
    have e3:qmE F G ((4:Int),(k:Int))=(4,(qb4 F k:Int)):=by rw [qmE,if_neg (by simp),if_pos rfl];rfl
    rw [e3]
    simp only
    rw [e2,← e1,if_neg,if_neg a3]
    unfold qce at a2 ⊢
    simp only at a2
    omega
end
theorem qf4{α:Type}{q:α→Bool}:∀ {l:List α} {k:Nat},qa6 q l k < 0→∀ x∈l,q x=false
  | [],_,_=>fun x hx=>by cases hx
  | y::r,k,h=>fun x hx=>by
    rw [qa6] at h
    split at h
    · omega
    · rename_i h1
      rcases List.mem_cons.1 hx with rfl | hx
      · simpa using h1
      · exact qf4 h x hx
theorem qeg{p:Prg}(h:qb2 p=(0,0)):∃ (mi:Nat) (x:Fnc),qcu p.funcs=(mi:Int)∧p.funcs[mi]?=some x∧x.name=qbw∧x.params=[]:=by
 obtain ⟨mi,x,h1,h2,_⟩:=ql6 h
 obtain ⟨_,y,hy,hq⟩:=qdr (show qa6 (fun x:Fnc=>decide (x.name=qbw)) p.funcs 0=(mi:Int) from h1)
 rw [Nat.sub_zero,h2] at hy
 obtain rfl:x=y:=by simpa using hy
 refine ⟨mi,x,h1,h2,by simpa using hq,?_⟩
 rw [qb2] at h
 split at h
 · rename_i h3;rw [h] at h3;exact absurd rfl h3
 split at h
 · rename_i h3;rw [h] at h3;exact absurd rfl h3
 rw [if_neg O,h1,Int.toNat_natCast,h2] at h
 simp only at h
 split at h
 · assumption
 · cases h
theorem qgk{p:Prg}(hnd:((ents p).map (·.1)).Nodup){i j:Nat}{x y:Fnc}(hi:p.funcs[i]?=some x)(hj:p.funcs[j]?=some y)(hn:x.name=y.name):i=j:=by
 have a:=qcS hnd (qd9 hi)
 have b:=qcS hnd (qd9 hj)
 simp only [hn] at a b
 rw [a] at b
 simp at b
 omega
section
variable{p:Prg}{F G:List Bool}(hu:prU p)(h0:(qbM p).1=0)(hM:qpm p F G)
include hM in
theorem qqE{i k:Nat}(hF:F[i]?=some true)(hc:cal p i k):F[k]?=some true:=by
 obtain ⟨_,_,mi,_,_,h3,_⟩:=hM
 have:∀ a b,Rea p a b→∀ c,cal p b c→Rea p a c:=by
  intro a b hr
  induction hr with
  | refl=>exact fun c hc=>.step hc (.refl c)
  | step h _ ih=>exact fun c hc=>.step h (ih c hc)
 exact (h3 k).2 (this _ _ ((h3 i).1 hF) k hc)
include hM in
theorem qjE{i:Nat}{x:Fnc}{nd:Nd}(hF:F[i]?=some true)(hx:p.funcs[i]?=some x)(hn:nd∈qcn x.body 0):(∀ g:Nat,(g:Int)∈mnI p x 3 nd→G[g]?=some true)∧∀ k:Nat,(k:Int)∈mnI p x 4 nd→F[k]?=some true:=by
 refine ⟨fun g hg=>?_,fun k hk=>qqE hM hF ⟨x,hx,((qcw p x 4).2 _).2 ⟨nd,hn,hk⟩⟩⟩
 obtain ⟨_,_,mi,_,_,_,h4⟩:=hM
 exact (h4 g).2 ⟨i,hF,x,hx,((qcw p x 3).2 _).2 ⟨nd,hn,hg⟩⟩
include hu h0 in
theorem qf7:((ents ⟨qav G p.globals,qav F p.funcs⟩).map (·.1)).Nodup:=by
 obtain ⟨⟨_,hn,_⟩,_⟩:=OKP.of hu h0
 have:=(qc5 (p:=p) (by rw [hn])).1
 rw [qmP] at this ⊢
 exact List.Nodup.sublist (List.Sublist.append ((qc0 G p.globals).map _) ((qc0 F p.funcs).map _)) this
include hu h0 hM in
theorem qib:qbM ⟨qav G p.globals,qav F p.funcs⟩=(0,0):=by
  obtain ⟨⟨hV,hn,hnd⟩,hz⟩:=OKP.of hu h0
  have hND:=qf7 (F:=F) (G:=G) hu h0
  have hp0:(qd2 p).1=0:=by
    unfold qbM at h0
    split at h0
    · rename_i h1;exact absurd h0 h1
    · rename_i h1;simpa using h1
  have hpl:=(qc5 (p:=p) (by rw [hn])).2
  refine qsW (qpR (qc0 _ _) (qc0 _ _) hp0) ?_ ?_
  · have hND2:=hND
    rw [qmP] at hND2
    have e1:qfl (qav G p.globals) [] 0=(0,0):=qns (by rw [List.nodup_append] at hND2;simpa using hND2.1)
    have e2:qfi (qav F p.funcs) ((qav G p.globals).map Glo.name) (qav G p.globals).length=(0,0):=ql4 hND2 fun x hx=>hpl x ((qc0 F p.funcs).subset hx)
    rw [qb2,e1,if_neg (by simp),e2,if_neg (by simp)]
    obtain ⟨mi,x,m1,m2,m3,m4⟩:=qeg hn
    obtain ⟨_,_,mi',m5,m6,m7,_⟩:=hM
    obtain rfl:mi'=mi:=by omega
    have hk:=qbI m2 ((m7 mi').2 (.refl _))
    have hge:¬ qcu (qav F p.funcs) < 0:=by
      intro hlt
      have:=qf4 hlt x (List.mem_of_getElem? hk)
      rw [m3] at this;simp at this
    rw [if_neg hge]
    obtain ⟨k,hkk⟩:=Int.eq_ofNat_of_zero_le (show 0≤qcu (qav F p.funcs) by omega)
    obtain ⟨_,y,hy,hq⟩:=qdr (show qa6 (fun x:Fnc=>decide (x.name=qbw)) (qav F p.funcs) 0=(k:Int) from hkk)
    rw [Nat.sub_zero] at hy
    have hkr:=qgk hND hk hy (by rw [m3];exact (by simpa using hq:y.name=qbw).symm)
    rw [hkk,Int.toNat_natCast,← hkr,hk]
    simp only
    rw [if_pos m4]
  · intro x hx nd hm
    obtain ⟨k,hk⟩:=List.getElem?_of_mem hx
    obtain ⟨i,h1,h2,h3⟩:=qff hk
    have:=qjE hM h2 h1 hm
    exact qr9 hND (hnd x (List.mem_of_getElem? h1) nd hm) this.1 this.2
include hu h0 hM in
theorem qp0{i k:Nat}(hF:F[i]?=some true)(hc:cal p i k):cal ⟨qav G p.globals,qav F p.funcs⟩ (qb4 F i) (qb4 F k):=by
 obtain ⟨⟨hV,hn,hnd⟩,hz⟩:=OKP.of hu h0
 have hND:=qf7 (F:=F) (G:=G) hu h0
 obtain ⟨x,hx,hk⟩:=hc
 obtain ⟨nd,hm,hi⟩:=((qcw p x 4).2 _).1 hk
 obtain ⟨hu1,hmn⟩:=qhI hi
 have hmk:=qjE hM hF hx hm
 have:=qhi hND (hnd x (List.mem_of_getElem? hx) nd hm) hmk.1 hmk.2 hu1
 refine ⟨x,qbI hx hF,((qcw _ x 4).2 _).2 ⟨nd,hm,qfx hu1 ?_⟩⟩
 rw [this,hmn,qmE,if_neg (by simp),if_pos rfl];rfl
include hu h0 hM in
theorem qoa{i g:Nat}(hF:F[i]?=some true)(hc:glo p i g):glo ⟨qav G p.globals,qav F p.funcs⟩ (qb4 F i) (qb4 G g):=by
 obtain ⟨⟨hV,hn,hnd⟩,hz⟩:=OKP.of hu h0
 have hND:=qf7 (F:=F) (G:=G) hu h0
 obtain ⟨x,hx,hk⟩:=hc
 obtain ⟨nd,hm,hi⟩:=((qcw p x 3).2 _).1 hk
 obtain ⟨hu1,hmn⟩:=qhI hi
 have hmk:=qjE hM hF hx hm
 have:=qhi hND (hnd x (List.mem_of_getElem? hx) nd hm) hmk.1 hmk.2 hu1
 refine ⟨x,qbI hx hF,((qcw _ x 3).2 _).2 ⟨nd,hm,qfx hu1 ?_⟩⟩
 rw [this,hmn,qmE,if_pos rfl];rfl
include hu h0 hM in
theorem qmA{r:Prg}(hr:qh8 ⟨qav G p.globals,qav F p.funcs⟩ r):r=⟨qav G p.globals,qav F p.funcs⟩:=by
 have hz:=qib hu h0 hM
 have hND:=qf7 (F:=F) (G:=G) hu h0
 rcases hr with ⟨h1,_⟩ | ⟨_,F2,G2,hM2,rfl⟩
 · rw [hz] at h1;exact absurd rfl h1
 obtain ⟨⟨_,hn,_⟩,_⟩:=OKP.of hu h0
 obtain ⟨mi,x,m1,m2,m3,m4⟩:=qeg hn
 obtain ⟨q1,q2,mq,q3,q4,q5,q6⟩:=hM2
 have hmm:F[mi]?=some true∧∀ j:Nat,F[j]?=some true→Rea p mi j:=by
  obtain ⟨_,_,mi',m5,m6,m7,_⟩:=hM
  obtain rfl:mi'=mi:=by omega
  exact ⟨(m7 mi').2 (.refl _),fun j hj=>(m7 j).1 hj⟩
 have hk:=qbI m2 hmm.1
 obtain ⟨_,y,hy,hq⟩:=qdr (show qa6 (fun x:Fnc=>decide (x.name=qbw)) (qav F p.funcs) 0=(mq:Int) from q3)
 rw [Nat.sub_zero] at hy
 have hkr:=qgk hND hk hy (by rw [m3];exact (by simpa using hq:y.name=qbw).symm)
 have hR:∀ i j,Rea p i j→F[i]?=some true→Rea ⟨qav G p.globals,qav F p.funcs⟩ (qb4 F i) (qb4 F j):=by
  intro i j hr
  induction hr with
  | refl=>exact fun _=>.refl _
  | step hc _ ih=>exact fun hF=>.step (qp0 hu h0 hM hF hc) (ih (qqE hM hF hc))
 have hF2:∀ k:Nat,k < (qav F p.funcs).length→F2[k]?=some true:=by
  intro k hk2
  obtain ⟨j,h1,h2,h3⟩:=qff (List.getElem?_eq_getElem hk2)
  subst h3
  exact (q5 _).2 (hkr▸hR mi j (hmm.2 j h2) hmm.1)
 have hG2:∀ k:Nat,k < (qav G p.globals).length→G2[k]?=some true:=by
  intro k hk2
  obtain ⟨g,h1,h2,h3⟩:=qff (List.getElem?_eq_getElem hk2)
  subst h3
  have hM0:=hM
  obtain ⟨_,_,_,_,_,_,m8⟩:=hM0
  obtain ⟨j,hj,hgl⟩:=(m8 g).1 h2
  have:=qoa hu h0 hM hj hgl
  obtain ⟨x2,hx2,_⟩:=id this
  exact (q6 _).2 ⟨_,hF2 _ (List.getElem?_eq_some_iff.1 hx2).1,this⟩
 show Prg.mk (qav G2 (qav G p.globals)) (qav F2 (qav F p.funcs))=_
 rw [qgo q2 hG2,qgo q1 hF2]
end
theorem qkO{p q:Prg}(hu:prU p)(h0:(qbM p).1=0)(hT:qh8 p q):qbM q=(0,0)∧∀ r,qh8 q r→r=q:=by
 rcases hT with ⟨h1,_⟩ | ⟨_,F,G,hM,rfl⟩
 · exact absurd h0 h1
 · exact ⟨qib hu h0 hM,fun r hr=>qmA hu h0 hM hr⟩
def trM(G:List Bool)(m:MS):MS:={ m with glo:=qav G m.glo,arr:=qav G m.arr }
def LM(G:List Bool)(m:MS):Prop:=m.glo.length=G.length∧m.arr.length=G.length
def Al(G:List Bool){α:Type}(r r':ER α):Prop:=match r with
 | .out=>r'=.out
 | .ok a m=>LM G m∧r'=.ok a (trM G m)
 | .fin m st cd=>r'=.fin (trM G m) st cd
theorem Al.ok{G:List Bool}{α:Type}{a:α}{m:MS}(h:LM G m):Al G (.ok a m) (.ok a (trM G m)):=⟨h,rfl⟩
theorem Al.fin{G:List Bool}{α:Type}{m:MS}{st cd:Int}:Al G (.fin m st cd:ER α) (.fin (trM G m) st cd):=rfl
theorem Al.and{G:List Bool}{α β:Type}{r r':ER α}{k k':α→MS→ER β}(h:Al G r r')(hk:∀ a m,LM G m→Al G (k a m) (k' a (trM G m))):Al G (r.and k) (r'.and k'):=by
 cases r with
 | out=>cases h;rfl
 | ok a m=>obtain ⟨h1,rfl⟩:=h;exact hk a m h1
 | fin m st cd=>cases h;rfl
theorem qqP{G:List Bool}{m:MS}(h:LM G m):Al G (qiB m) (qiB (trM G m)):=by
 unfold qiB
 show Al G _ (if m.left=0 then .fin (trM G m) 0 0 else _)
 split
 · exact Al.fin
 · exact ⟨h,rfl⟩
theorem qge{α:Type}:∀ {B:List Bool} {l:List α} {i:Nat} {v:α},B[i]?=some true→qav B (l.set i v)=(qav B l).set (qb4 B i) v
 | [],_,_,_,h=>by simp at h
 | b::B,[],_,_,_=>by simp [qav]
 | b::B,y::l,0,v,h=>by
  have h:b=true:=by simpa using h
  subst h
  rw [List.set_cons_zero,qav,qav,if_pos rfl,if_pos rfl,qb4,List.set_cons_zero]
 | b::B,y::l,i+1,v,h=>by
  have ih:=qge (B:=B) (l:=l) (i:=i) (v:=v) (by simpa using h)
  rw [List.set_cons_succ,qav,qav,qb4,ih]
  split
  · rw [List.set_cons_succ]
  · rfl
theorem qeo{α:Type}{B:List Bool}{l:List α}{i:Nat}{d:α}(hl:i < l.length)(h:B[i]?=some true):(qav B l).getD (qb4 B i) d=l.getD i d:=by
 rw [List.getD_eq_getElem?_getD,List.getD_eq_getElem?_getD,qbI (List.getElem?_eq_getElem hl) h,List.getElem?_eq_getElem hl]
theorem qki{p:Prg}{f:Fnc}{nm:Str}{c k:Int}(h:(qaz p f nm).1=(c,k))(hc:c=3∨c=4):¬ 0≤qbg f nm:=by
 unfold qaz at h
 split at h
 · injection h with h1 _;omega
 rename_i k1
 split at h
 · injection h with h1 _;omega
 rename_i k2
 rw [qbg,if_neg k1,if_neg k2];decide
theorem qjD{p:Prg}{f:Fnc}{nm:Str}(h:(qaz p f nm).1.1=1∨(qaz p f nm).1.1=2):0≤qbg f nm:=by
 unfold qaz at h
 split at h
 · rename_i k1;rw [qbg,if_pos k1];exact k1
 rename_i k1
 split at h
 · rename_i k2;rw [qbg,if_neg k1,if_pos k2];omega
 cases hf:(ents p).find? fun e=>decide (e.1=nm) with
 | none=>rw [hf] at h;rcases h with h | h <;> cases h
 | some e=>
  rw [hf] at h
  simp only at h
  rcases qeZ hf with ⟨i,g,_,_,hc⟩ | ⟨i,g,_,_,hc⟩ <;> (rw [hc] at h;rcases h with h | h <;> cases h)
theorem qlS{p:Prg}{f:Fnc}{nm:Str}{c k:Int}(h:(qaz p f nm).1=(c,k))(hc:c=3∨c=4):∃ e,(ents p).find? (fun e=>decide (e.1=nm))=some e∧e.2=(c,k):=by
 unfold qaz at h
 split at h
 · injection h with h1 _;omega
 split at h
 · injection h with h1 _;omega
 cases hf:(ents p).find? fun e=>decide (e.1=nm) with
 | none=>rw [hf] at h;injection h with h1 _;omega
 | some e=>rw [hf] at h;exact ⟨e,rfl,h⟩
theorem qiV{p:Prg}{f:Fnc}{nm:Str}{k:Nat}(hnd:((ents p).map (·.1)).Nodup)(h:(qaz p f nm).1=((3:Int),(k:Int))):qdO p nm=(k:Int)∧k < p.globals.length:=by
  obtain ⟨e,he,h2⟩:=qlS h (.inl rfl)
  rcases qeZ he with ⟨i,g,a,b,c⟩ | ⟨i,g,a,b,c⟩
  · rw [h2] at c
    injection c with _ c
    obtain rfl:k=i:=by omega
    obtain ⟨hl,rfl⟩:=List.getElem?_eq_some_iff.1 a
    refine ⟨?_,hl⟩
    have:=qcz (p:=fun g:Glo=>decide (g.name=nm)) (l:=p.globals) (k:=k) (j:=0) (a:=p.globals[k]) (fun j y hj hy=>by
      cases hq:decide (y.name=nm) with
      | false=>rfl
      | true=>
        exfalso
        have hq:y.name=nm:=by simpa using hq
        have q1:=qcS hnd (qhh hy)
        have q2:=qcS hnd (qhh a)
        simp only [hq,b] at q1 q2
        rw [q1] at q2
        simp at q2;omega) a (by simpa using b)
    rw [qdO,this];simp
  · rw [h2] at c;cases c
theorem qjd{p:Prg}{f:Fnc}{nm:Str}{k:Nat}(hnd:((ents p).map (·.1)).Nodup)(h:(qaz p f nm).1=((4:Int),(k:Int))):qja p nm=(k:Int)∧k < p.funcs.length:=by
  obtain ⟨e,he,h2⟩:=qlS h (.inr rfl)
  rcases qeZ he with ⟨i,g,a,b,c⟩ | ⟨i,g,a,b,c⟩
  · rw [h2] at c;cases c
  · rw [h2] at c
    injection c with _ c
    obtain rfl:k=i:=by omega
    obtain ⟨hl,rfl⟩:=List.getElem?_eq_some_iff.1 a
    refine ⟨?_,hl⟩
    have:=qcz (p:=fun g:Fnc=>decide (g.name=nm)) (l:=p.funcs) (k:=k) (j:=0) (a:=p.funcs[k]) (fun j y hj hy=>by
      cases hq:decide (y.name=nm) with
      | false=>rfl
      | true=>
        exfalso
        have hq:y.name=nm:=by simpa using hq
        have q1:=qcS hnd (qd9 hy)
        have q2:=qcS hnd (qd9 a)
        simp only [hq,b] at q1 q2
        rw [q1] at q2
        simp at q2;omega) a (by simpa using b)
    rw [qja,this];simp
section
variable{p:Prg}{F G:List Bool}{OP:Int→Int→Int→Option Int}
def trP(p:Prg)(F G:List Bool):Prg:=⟨qav G p.globals,qav F p.funcs⟩
def NdK(p:Prg)(F G:List Bool)(f:Fnc)(nd:Nd):Prop:=ndC p f nd=0∧(∀ g:Nat,(g:Int)∈mnI p f 3 nd→G[g]?=some true)∧∀ k:Nat,(k:Int)∈mnI p f 4 nd→F[k]?=some true
def XK(p:Prg)(F G:List Bool)(f:Fnc)(x:Ex):Prop:=∃ lp,∀ nd∈ndX x lp,NdK p F G f nd
def SK(p:Prg)(F G:List Bool)(f:Fnc)(x:Stm):Prop:=∃ lp,∀ nd∈ndS x lp,NdK p F G f nd
structure TrH(p:Prg)(F G:List Bool):Prop where
 nd:((ents p).map (·.1)).Nodup
 nd':((ents (trP p F G)).map (·.1)).Nodup
 lenG:G.length=p.globals.length
 fs:∀ (i:Nat) (f:Fnc),p.funcs[i]?=some f→F[i]?=some true→∀ x∈f.body,SK p F G f x
theorem qfc{x:Ex}{lp:Nat}{nd:Nd}:∀ {l:List Ex},x∈l→nd∈ndX x lp→nd∈qek l lp
 | [],h,_=>by cases h
 | y::r,h,hn=>by
  rw [qek]
  rcases List.mem_cons.1 h with rfl | h
  · exact List.mem_append_left _ hn
  · exact List.mem_append_right _ (qfc h hn)
theorem qdM{x:Stm}{lp:Nat}{nd:Nd}:∀ {l:List Stm},x∈l→nd∈ndS x lp→nd∈qcn l lp
 | [],h,_=>by cases h
 | y::r,h,hn=>by
  rw [qcn]
  rcases List.mem_cons.1 h with rfl | h
  · exact List.mem_append_left _ hn
  · exact List.mem_append_right _ (qdM h hn)
theorem XK.args{f:Fnc}{x:Ex}(h:XK p F G f x):∀ y∈x.args,XK p F G f y:=by
 obtain ⟨lp,h⟩:=h
 obtain ⟨k,o,u,nm,ar⟩:=x
 exact fun y hy=>⟨lp,fun nd hn=>h nd (by rw [ndX];exact List.mem_cons_of_mem _ (qfc hy hn))⟩
theorem SK.exprs{f:Fnc}{x:Stm}(h:SK p F G f x):∀ y∈x.exprs,XK p F G f y:=by
 obtain ⟨lp,h⟩:=h
 obtain ⟨k,nm,es,b,el⟩:=x
 exact fun y hy=>⟨lp,fun nd hn=>h nd (by rw [ndS];exact List.mem_cons_of_mem _ (List.mem_append_left _ (qfc hy hn)))⟩
theorem SK.body{f:Fnc}{x:Stm}(h:SK p F G f x):∀ y∈x.body,SK p F G f y:=by
 obtain ⟨lp,h⟩:=h
 obtain ⟨k,nm,es,b,el⟩:=x
 exact fun y hy=>⟨_,fun nd hn=>h nd (by rw [ndS];exact List.mem_cons_of_mem _ (List.mem_append_right _ (List.mem_append_left _ (qdM hy hn))))⟩
theorem SK.els{f:Fnc}{x:Stm}(h:SK p F G f x):∀ y∈x.els,SK p F G f y:=by
 obtain ⟨lp,h⟩:=h
 obtain ⟨k,nm,es,b,el⟩:=x
 exact fun y hy=>⟨_,fun nd hn=>h nd (by rw [ndS];exact List.mem_cons_of_mem _ (List.mem_append_right _ (List.mem_append_right _ (qdM hy hn))))⟩
theorem qhG{x:Ex}{f:Fnc}(h:XK p F G f x):∃ lp,NdK p F G f (.ex x lp):=by
 obtain ⟨lp,h⟩:=h
 obtain ⟨k,o,u,nm,ar⟩:=x
 exact ⟨lp,h _ (by rw [ndX];exact List.mem_cons_self ..)⟩
theorem qgr{x:Stm}{f:Fnc}(h:SK p F G f x):∃ lp,NdK p F G f (.st x lp):=by
 obtain ⟨lp,h⟩:=h
 obtain ⟨k,nm,es,b,el⟩:=x
 exact ⟨lp,h _ (by rw [ndS];exact List.mem_cons_self ..)⟩
inductive Mn(p:Prg)(F G:List Bool)(f:Fnc)(nm:Str)(uk:Int):Prop where
 | slot (h:0≤qbg f nm) (hu:uk=1∨uk=2)
 | glo (k:Nat) (h:¬ 0≤qbg f nm) (h1:qdO p nm=(k:Int)) (h2:qdO (trP p F G) nm=(qb4 G k:Int)) (hl:k < p.globals.length) (hG:G[k]?=some true) (hu:uk≠4)
 | fn (k:Nat) (h1:qja p nm=(k:Int)) (h2:qja (trP p F G) nm=(qb4 F k:Int)) (hl:k < p.funcs.length) (hF:F[k]?=some true) (hu:uk=4)
theorem qkW(hT:TrH p F G){f:Fnc}{nd:Nd}(h:NdK p F G f nd)(hu:nd.use.2.1≠0):Mn p F G f nd.use.1 nd.use.2.1:=by
  obtain ⟨h1,h2,h3⟩:=h
  obtain ⟨a1,a2,_⟩:=qeP (qfb h1).1 hu
  have hr:=qhi (p:=p) (F:=F) (G:=G) hT.nd' h1 h2 h3 hu
  rcases qch a1 with k1 | ⟨k1,k,k2,k3⟩ | ⟨k1,k,k2,k3⟩
  · exact .slot (qjD k1) (by unfold qce at a2;omega)
  · have e:=qed k1 k2
    have e2:(qaz (trP p F G) f nd.use.1).1=((3:Int),((qb4 G k:Nat):Int)):=by
      show (qaz ⟨qav G p.globals,qav F p.funcs⟩ f nd.use.1).1=_
      rw [hr,e,qmE,if_pos rfl,Int.toNat_natCast]
    exact .glo k (qki e (.inl rfl)) (qiV hT.nd e).1 (qiV hT.nd' e2).1 k3 (h2 k (qfx hu e)) (by unfold qce at a2;omega)
  · have e:=qed k1 k2
    have e2:(qaz (trP p F G) f nd.use.1).1=((4:Int),((qb4 F k:Nat):Int)):=by
      show (qaz ⟨qav G p.globals,qav F p.funcs⟩ f nd.use.1).1=_
      rw [hr,e,qmE,if_neg (show ¬ (4:Int)=3 by decide),if_pos rfl,Int.toNat_natCast]
    exact .fn k (qjd hT.nd e).1 (qjd hT.nd' e2).1 k3 (h3 k (qfx hu e)) (by unfold qce at a2;omega)
def TrS(p:Prg)(F G:List Bool)(S S':Sem):Prop:=(∀ f x m,XK p F G f x→LM G m→Al G (S.e f x m) (S'.e f x (trM G m)))∧(∀ (i:Nat) vs m,i < p.funcs.length→F[i]?=some true→LM G m→Al G (S.c i vs m) (S'.c (qb4 F i) vs (trM G m)))∧(∀ f x m,SK p F G f x→LM G m→Al G (S.t f x m) (S'.t f x (trM G m)))∧∀ f c b m,XK p F G f c→(∀ x∈b,SK p F G f x)→LM G m→Al G (S.w f c b m) (S'.w f c b (trM G m))
theorem qnz{E E':Ex→MS→ER Int}:∀ (l:List Ex) (m:MS),(∀ x∈l,∀ m,LM G m→Al G (E x m) (E' x (trM G m)))→LM G m→Al G (qbb E l m) (qbb E' l (trM G m))
 | [],m,_,hm=>by rw [qbb,qbb];exact Al.ok hm
 | x::r,m,h,hm=>by
  rw [qbb,qbb]
  exact (h x Mc m hm).and fun v m1 h1=>(qnz r m1 (fun y hy=>h y (List.mem_cons_of_mem _ hy)) h1).and fun _ _ h2=>Al.ok h2
theorem qh4{T T':Stm→MS→ER (Int×Int)}:∀ (l:List Stm) (m:MS),(∀ x∈l,∀ m,LM G m→Al G (T x m) (T' x (trM G m)))→LM G m→Al G (qbp T l m) (qbp T' l (trM G m))
 | [],m,_,hm=>by rw [qbp,qbp];exact Al.ok hm
 | x::r,m,h,hm=>by
  rw [qbp,qbp]
  refine (h x Mc m hm).and fun y m1 h1=>?_
  split
  · exact qh4 r m1 (fun y hy=>h y (List.mem_cons_of_mem _ hy)) h1
  · exact Al.ok h1
theorem qqZ{f:Fnc}{l:List Ex}(h:∀ y∈l,XK p F G f y)(i:Nat):XK p F G f (qco l i):=by
 unfold qco
 rw [List.getD_eq_getElem?_getD]
 cases hl:l[i]? with
 | none=>
  refine ⟨0,fun nd hn=>?_⟩
  simp only [Option.getD_none,ex0,ndX,qek,List.mem_singleton] at hn
  subst hn
  exact ⟨rfl,fun g hg=>by simp [mnI,Nd.use,qdC,Ex.kind] at hg,fun g hg=>by simp [mnI,Nd.use,qdC,Ex.kind] at hg⟩
 | some x=>exact h x (List.mem_of_getElem? hl)
theorem qmV(hT:TrH p F G){nm:Str}{k:Nat}{m:MS}(h1:qdO p nm=(k:Int))(h2:qdO (trP p F G) nm=(qb4 G k:Int))(hl:k < p.globals.length)(hG:G[k]?=some true)(hm:LM G m):qfj (trP p F G) nm (trM G m)=qfj p nm m:=by
 unfold qfj
 rw [h1,h2,Int.toNat_natCast,Int.toNat_natCast]
 exact qeo (by rw [hm.2,hT.lenG];exact hl) hG
theorem qt9(hT:TrH p F G){f:Fnc}{x:Ex}(hX:XK p F G f x)(hk:x.kind=2){m:MS}(hm:LM G m):qjq (trP p F G) f x.name (trM G m)=qjq p f x.name m:=by
 obtain ⟨lp,h⟩:=qhG hX
 have hn9:(2:Int)≠0:=by decide
 have hu:(Nd.ex x lp).use=(x.name,2,0):=by rw [Nd.use,qdC,if_pos hk]
 have:=qkW hT h (by rw [hu];exact hn9)
 rw [hu] at this
 unfold qjq
 cases this with
 | slot h1 _=>rw [if_pos h1,if_pos h1];rfl
 | glo k h1 h2 h3 hl hG _=>
  rw [if_neg h1,if_neg h1,h2,h3,Int.toNat_natCast,Int.toNat_natCast]
  have e1:(trP p F G).globals.getD (qb4 G k) gl0=p.globals.getD k gl0:=qeo hl hG
  have e2:(trM G m).glo.getD (qb4 G k) 0=m.glo.getD k 0:=qeo (by rw [hm.1,hT.lenG];exact hl) hG
  rw [e1,e2]
 | fn k _ _ _ _ h5=>cases h5
theorem quP{m:MS}(h:LM G m):Al G (qnK m) (qnK (trM G m)):=by
 obtain ⟨g,a,f,inp,l,c,o⟩:=m
 cases inp <;> exact ⟨h,rfl⟩
theorem qwY(hT:TrH p F G){S S':Sem}(hS:TrS p F G S S'){f:Fnc}{x:Ex}{m:MS}(hX:XK p F G f x)(hm:LM G m):Al G (vX p OP S f x m) (vX (trP p F G) OP S' f x (trM G m)):=by
  obtain ⟨hE,hC,hT',hW⟩:=hS
  have hA:=fun i=>qqZ hX.args i
  unfold vX
  split
  · exact Al.ok hm
  split
  · rename_i hk;rw [qt9 hT hX hk hm];exact Al.ok hm
  split
  · rename_i hk
    obtain ⟨lp,h⟩:=qhG hX
    have hn9:(3:Int)≠0:=by decide
    have hu:(Nd.ex x lp).use=(x.name,3,0):=by rw [Nd.use,qdC,if_neg O,if_pos hk]
    have:=qkW hT h (by rw [hu];exact hn9)
    rw [hu] at this
    cases this with
    | slot _ h5=>rcases h5 with h5 | h5 <;> cases h5
    | fn k _ _ _ _ h5=>cases h5
    | glo k h1 h2 h3 hl hG _=>
      refine (hE _ _ _ (hA 0) hm).and fun i m1 hm1=>?_
      rw [qmV hT h2 h3 hl hG hm1]
      split
      · exact Al.fin
      · exact Al.ok hm1
  split
  · rename_i hk
    obtain ⟨lp,h⟩:=qhG hX
    have hn9:(4:Int)≠0:=by decide
    have hu:(Nd.ex x lp).use=(x.name,4,(x.args.length:Int)):=by rw [Nd.use,qdC,if_neg O,if_neg O,if_pos hk]
    have:=qkW hT h (by rw [hu];exact hn9)
    rw [hu] at this
    cases this with
    | slot _ h5=>rcases h5 with h5 | h5 <;> cases h5
    | glo k _ _ _ _ _ h5=>exact absurd rfl h5
    | fn k h2 h3 hl hF _=>
      rw [h2,h3,Int.toNat_natCast,Int.toNat_natCast]
      exact (qnz _ _ (fun y hy m hm=>hE f y m (hX.args y hy) hm) hm).and fun vs m1 hm1=>hC _ _ _ hl hF hm1
  split
  · exact quP hm
  split
  · exact (hE _ _ _ (hA 0) hm).and fun a m1 hm1=>Al.ok hm1
  · refine (hE _ _ _ (hA 0) hm).and fun a m1 hm1=>?_
    split
    · exact Al.ok hm1
    split
    · exact Al.ok hm1
    · refine (hE _ _ _ (hA 1) hm1).and fun b m2 hm2=>?_
      split
      · exact Al.ok hm2
      · exact Al.fin
theorem qwQ(hT:TrH p F G){S S':Sem}(hS:TrS p F G S S'){f:Fnc}{x:Stm}{m:MS}(hX:SK p F G f x)(hm:LM G m):Al G (sX p S f x m) (sX (trP p F G) S' f x (trM G m)):=by
  obtain ⟨hE,hC,hT',hW⟩:=hS
  have hA:=fun i=>qqZ hX.exprs i
  unfold sX
  split
  · rename_i hk
    obtain ⟨lp,h⟩:=qgr hX
    have hn9:(1:Int)≠0:=by decide
    have hu:(Nd.st x lp).use=(x.name,1,0):=by rw [Nd.use,qdD,if_pos hk]
    have:=qkW hT h (by rw [hu];exact hn9)
    rw [hu] at this
    refine (hE _ _ _ (hA 0) hm).and fun v m1 hm1=>?_
    cases this with
    | fn k _ _ _ _ h5=>cases h5
    | slot h1 _=>rw [qlQ,if_pos h1,qlQ,if_pos h1];exact ⟨hm1,rfl⟩
    | glo k h1 h2 h3 hl hG _=>
      rw [qlQ,if_neg h1,qlQ,if_neg h1,h2,h3,Int.toNat_natCast,Int.toNat_natCast]
      refine ⟨⟨by simp only [List.length_set];exact hm1.1,hm1.2⟩,?_⟩
      show ER.ok (0,0) { trM G m1 with glo:=(qav G m1.glo).set (qb4 G k) v }=.ok (0,0) { m1 with glo:=qav G (m1.glo.set k v),arr:=qav G m1.arr }
      rw [qge hG];rfl
  split
  · rename_i hk
    obtain ⟨lp,h⟩:=qgr hX
    have hn9:(3:Int)≠0:=by decide
    have hu:(Nd.st x lp).use=(x.name,3,0):=by rw [Nd.use,qdD,if_neg O,if_pos hk]
    have:=qkW hT h (by rw [hu];exact hn9)
    rw [hu] at this
    cases this with
    | slot _ h5=>rcases h5 with h5 | h5 <;> cases h5
    | fn k _ _ _ _ h5=>cases h5
    | glo k h1 h2 h3 hl hG _=>
      refine (hE _ _ _ (hA 0) hm).and fun i m1 hm1=>?_
      rw [qmV hT h2 h3 hl hG hm1]
      split
      · exact Al.fin
      · refine (hE _ _ _ (hA 1) hm1).and fun v m2 hm2=>?_
        rw [qmV hT h2 h3 hl hG hm2,h2,h3,Int.toNat_natCast,Int.toNat_natCast]
        refine ⟨⟨hm2.1,by simp only [List.length_set];exact hm2.2⟩,?_⟩
        show ER.ok (0,0) { trM G m2 with arr:=(qav G m2.arr).set (qb4 G k) ((qfj p x.name m2).set i.toNat v) }=.ok (0,0) { m2 with glo:=qav G m2.glo,arr:=qav G (m2.arr.set k ((qfj p x.name m2).set i.toNat v)) }
        rw [qge hG];rfl
  split
  · refine (hE _ _ _ (hA 0) hm).and fun v m1 hm1=>?_
    split
    · exact qh4 _ _ (fun y hy m hm=>hT' f y m (hX.body y hy) hm) hm1
    · exact qh4 _ _ (fun y hy m hm=>hT' f y m (hX.els y hy) hm) hm1
  split
  · exact hW _ _ _ _ (hA 0) hX.body hm
  split
  · rename_i hk
    obtain ⟨lp,h⟩:=qgr hX
    have hn9:(4:Int)≠0:=by decide
    have hu:(Nd.st x lp).use=(x.name,4,(x.exprs.length:Int)):=by rw [Nd.use,qdD,if_neg O,if_neg O,if_pos hk]
    have:=qkW hT h (by rw [hu];exact hn9)
    rw [hu] at this
    cases this with
    | slot _ h5=>rcases h5 with h5 | h5 <;> cases h5
    | glo k _ _ _ _ _ h5=>exact absurd rfl h5
    | fn k h2 h3 hl hF _=>
      rw [h2,h3,Int.toNat_natCast,Int.toNat_natCast]
      exact (qnz _ _ (fun y hy m hm=>hE f y m (hX.exprs y hy) hm) hm).and fun vs m1 hm1=>(hC _ _ _ hl hF hm1).and fun _ m2 hm2=>Al.ok hm2
  split
  · exact (hE _ _ _ (hA 0) hm).and fun v m1 hm1=>Al.ok hm1
  split
  · refine (hE _ _ _ (hA 0) hm).and fun v m1 hm1=>?_
    show Al G _ (if 20000≤m1.out.length then .fin (trM G m1) 5 0 else _)
    split
    · exact Al.fin
    · exact ⟨hm1,rfl⟩
  split
  · exact (hE _ _ _ (hA 0) hm).and fun v m1 hm1=>Al.fin
  split
  · exact Al.ok hm
  · exact Al.ok hm
theorem qq0(hT:TrH p F G):∀ n,TrS p F G (sem p OP n) (sem (trP p F G) OP n)
  | 0=>⟨fun _ _ _ _ _=>rfl,fun _ _ _ _ _ _=>rfl,fun _ _ _ _ _=>rfl,fun _ _ _ _ _ _ _=>rfl⟩
  | n+1=>by
    have hS:=qq0 hT n
    refine ⟨fun f x m hX hm=>(qqP hm).and fun _ m1 hm1=>qwY hT hS hX hm1,fun i vs m hi hF hm=>?_,fun f x m hX hm=>(qqP hm).and fun _ m1 hm1=>qwQ hT hS hX hm1,fun f c b m hX hB hm=>?_⟩
    · obtain ⟨hE,hC,hT',hW⟩:=hS
      show Al G (cX p (sem p OP n) i vs m) (cX (trP p F G) (sem (trP p F G) OP n) (qb4 F i) vs (trM G m))
      unfold cX
      have e1:(trP p F G).funcs.getD (qb4 F i) fn0=p.funcs.getD i fn0:=qeo hi hF
      rw [e1]
      show Al G _ (if m.calls=100 then .fin (trM G m) 1 3 else _)
      split
      · exact Al.fin
      · have hf:p.funcs[i]?=some (p.funcs.getD i fn0):=by rw [List.getD_eq_getElem?_getD,List.getElem?_eq_getElem hi];rfl
        exact (qh4 _ { m with frm:=qhC ((p.funcs.getD i fn0).params.length+(p.funcs.getD i fn0).locals.length) vs,calls:=m.calls+1 } (fun y hy m hm=>hT' _ y m (hT.fs i _ hf hF y hy) hm) hm).and fun y m1 hm1=>⟨hm1,rfl⟩
    · obtain ⟨hE,hC,hT',hW⟩:=hS
      show Al G (wX (sem p OP n) f c b m) (wX (sem (trP p F G) OP n) f c b (trM G m))
      unfold wX
      refine (hE _ _ _ hX hm).and fun v m1 hm1=>?_
      split
      · exact Al.ok hm1
      · refine (qh4 _ _ (fun y hy m hm=>hT' f y m (hB y hy) hm) hm1).and fun y m2 hm2=>?_
        split
        · exact Al.ok hm2
        split
        · exact Al.ok hm2
        · exact hW _ _ _ _ hX hB hm2
theorem qgH{α β:Type}(g:α→β):∀ (B:List Bool) (l:List α),qav B (l.map g)=(qav B l).map g
 | [],_=>by simp [qav]
 | b::B,[]=>by simp [qav]
 | b::B,y::l=>by
  rw [List.map_cons,qav,qav,qgH g B l]
  split <;> rfl
theorem qmQ{α:Type}(v:α)(B:List Bool):∀ (l:List Glo),qav B (List.replicate l.length v)=List.replicate (qav B l).length v:=fun l=>by
 have h1:List.replicate l.length v=l.map fun _=>v:=(List.map_const' ..).symm
 have h2:List.replicate (qav B l).length v=(qav B l).map fun _=>v:=(List.map_const' ..).symm
 rw [h1,h2,qgH]
theorem qvB(inp:Str)(steps:Nat):qhW (trP p F G) inp steps=trM G (qhW p inp steps):=by
 show MS.mk (List.replicate (qav G p.globals).length 0) ((qav G p.globals).map fun g=>if g.kind=3 then qhC g.num.toNat g.init else []) [] inp steps 0 []=MS.mk (qav G (List.replicate p.globals.length 0)) (qav G (p.globals.map fun g=>if g.kind=3 then qhC g.num.toNat g.init else [])) [] inp steps 0 []
 rw [qmQ,qgH]
theorem qtT{a:Nat}{r r':ER Int}(h:Al G r r'):qrg a r'=qrg a r:=by
 cases r with
 | out=>cases h;rfl
 | ok v m=>obtain ⟨_,rfl⟩:=h;rfl
 | fin m st cd=>cases h;rfl
end
theorem qol{p q:Prg}{OP:Int→Int→Int→Option Int}(hu:prU p)(h0:(qbM p).1=0)(hT:qh8 p q)(n:Nat)(inp:Str)(a:Nat):∃ mp mq:Nat,qcu p.funcs=(mp:Int)∧qcu q.funcs=(mq:Int)∧qrg a (qtN q OP n mq inp a)=qrg a (qtN p OP n mp inp a):=by
 rcases hT with ⟨h1,_⟩ | ⟨_,F,G,hM,rfl⟩
 · exact absurd h0 h1
 obtain ⟨⟨hV,hn,hnd⟩,hz⟩:=OKP.of hu h0
 have hND:=qf7 (F:=F) (G:=G) hu h0
 have hT:TrH p F G:=⟨(qc5 (p:=p) (by rw [hn])).1,hND,hM.2.1,fun i f hf hF x hx=>⟨0,fun nd hm=>by
  have h2:=qdM hx hm
  have h3:=qjE hM hF hf h2
  exact ⟨hnd f (List.mem_of_getElem? hf) nd h2,h3.1,h3.2⟩⟩⟩
 obtain ⟨mi,x,m1,m2,m3,m4⟩:=qeg hn
 obtain ⟨_,_,mi',m5,m6,m7,_⟩:=hM
 obtain rfl:mi'=mi:=by omega
 have hF:=(m7 mi').2 (.refl _)
 have hk:=qbI m2 hF
 have hge:¬ qcu (qav F p.funcs) < 0:=by
  intro hlt
  have:=qf4 hlt x (List.mem_of_getElem? hk)
  rw [m3] at this;simp at this
 obtain ⟨k,hkk⟩:=Int.eq_ofNat_of_zero_le (show 0≤qcu (qav F p.funcs) by omega)
 obtain ⟨_,y,hy,hq⟩:=qdr (show qa6 (fun x:Fnc=>decide (x.name=qbw)) (qav F p.funcs) 0=(k:Int) from hkk)
 rw [Nat.sub_zero] at hy
 have hkr:=qgk hND hk hy (by rw [m3];exact (by simpa using hq:y.name=qbw).symm)
 refine ⟨mi',qb4 F mi',m1,by rw [hkr];exact hkk,?_⟩
 have h:=(qq0 (OP:=OP) hT n).2.1 mi' [] (qhW p inp a) m6 hF ⟨by simp [qhW,hT.lenG],by simp [qhW,hT.lenG]⟩
 unfold qtN
 rw [show (⟨qav G p.globals,qav F p.funcs⟩:Prg)=trP p F G from rfl,qvB]
 exact qtT h
open Go.Proofs.Tryz
open Go.FL
attribute [local irreducible] JC JO JA JB qaO qaD qbV AC fill CellsAt QE Ev Mid
theorem qql(D:Nat)(L:Hl)(s:World)(A:Option Addr)(n c:Nat)(l:List Glo)(hA:Glos s A n c l)(fi:FuncId)(cap:List Value)(q:Glo→Bool)(hp:∀ s' g (A9:Option Addr) (n9 c9:Nat),Le D s s'→AC prog D fi ([.agg #[.int .i64 g.kind,St g.name,.int .u32 g.num,.slice A9 n9 c9]]++cap) L s' fun v L' _=>v=.bool (q g)∧L=L'):AC prog D 127 [.slice A n c,.func (.func fi) #[] cap.toArray] L s fun v L' _=>v=.int .i64 (qa6 q l 0)∧L=L':=by
 have hn:=hA.1
 have hc1:=hA.2.1
 have hc2:=hA.2.2.1
 refine qai (fn:=f127) qaq func127 V Z ntmps127 Z (rs:=[.tmp 4]) Z [(0,_),(1,_)] Z<|Sr<|At Z Z<|Zs<|Sr<|Zqm Z Z<|Ws Y4<|Zqm Z Z<|Nt<|Zp<|?_
 refine qat (γ:=Nat) (fun k=>[(0,_),(1,_),(4,_),(7,_),(8,.int .i64 (k:Int))]) (fun _=>_) (fun k tw=>Le D s tw∧(k≤n∧∀ i x,i < k→l[i]?=some x→q x=false)) (fun k=>n - k) (fun _ _ _ h hl=>⟨h.1.trans hl,h.2⟩) 0 (.c5 Z Z Z Z Z (.nil _)) Z ⟨Le.refl _,⟨Nat.zero_le _,fun i x hi=>by omega⟩⟩ ?_
 intro k s1 I1
 have hk0:=I1.2.1
 have hI:=I1.2.2
 refine Sr<|qba Z Z Z<|Nt<|Zs<|?_
 refine qab Z (fun c2=>?_) (fun c2=>?_)
 ·
  have hk:k < n:=by omega
  obtain ⟨b,off,x,A',n',c',rfl,hx,hcx,_⟩:=Glos.at_ (hA.le I1.1) hk
  refine Zk<|Zt<|Zs<|Zp<|Sr<|Zqm Z Z<|At Z Z<|Sr<|Zqm Z Z<|Zqm Z Z<|Zqm Z Z<|qaf (qap Z Z Z Z Z Z hk) Z<|qaf (qas Z Z Z hcx Z) Z<|qd1 (first:=[]) (captured:=cap) Z Z Z (hp _ x A' n' c' I1.1) ?_
  rintro _ _ s3 h3 ⟨rfl,rfl⟩
  refine Nt<|?_
  refine qes Z (fun c4=>?_) (fun c4=>?_)
  ·
   have hz:=c4
   refine Sr<|Zqm Z Z<|At Z Z<|Zo<|Zc<|Zu<|Zu<|Zc<|Zu<|?_
   refine rR [] L (.t1 Z) Z (I1.1.t h3) fun _ hS2=>?_
   refine ⟨?_,Z⟩
   first
     | (simp only [qaA];rw [qcz hI hx hz,Nat.zero_add])
     | (simp only [qaA];rw [qcF (fun i a hi h=>hI i a O h)])
  have hz:=c4
  refine Zk<|Zb<|Zt<|Zr<|qaG Z Z Z (w64 O O)<|Zqm Z Z<|Zn<|?_
  refine qaa ⟨(k+1),[],kp,Z,⟨(I1.1.t h3),⟨by omega,qa9 hI hx hz⟩⟩,O⟩
 refine Zl<|Zv<|Zv<|Zd<|Zt<|Sr<|At Z Z<|Zo<|?_
 refine rR [] L (.t1 Z) Z I1.1 fun _ hS2=>?_
 refine ⟨?_,Z⟩
 first
   | (simp only [qaA];rw [qcz hI hx hz,Nat.zero_add])
   | (simp only [qaA];rw [qcF (fun i a hi h=>hI i a O h)])
theorem qpb(D:Nat)(L:Hl)(s:World)(d:Nat)(A:Option Addr)(n c:Nat)(l:List Fnc)(hA:Fncs d s A n c l)(fi:FuncId)(cap:List Value)(q:Fnc→Bool)(hp:∀ s' g (A7:Option Addr) (n7 c7:Nat) (A8:Option Addr) (n8 c8:Nat) (A9:Option Addr) (n9 c9:Nat),Le D s s'→AC prog D fi ([.agg #[St g.name,.slice A7 n7 c7,.slice A8 n8 c8,.slice A9 n9 c9]]++cap) L s' fun v L' _=>v=.bool (q g)∧L=L'):AC prog D 168 [.slice A n c,.func (.func fi) #[] cap.toArray] L s fun v L' _=>v=.int .i64 (qa6 q l 0)∧L=L':=by
 have hn:=hA.1
 have hc1:=hA.2.1
 have hc2:=hA.2.2.1
 refine qai (fn:=f168) qaq func168 V Z ntmps168 Z (rs:=[.tmp 4]) Z [(0,_),(1,_)] Z<|Sr<|At Z Z<|Zs<|Sr<|Zqm Z Z<|Ws Y4<|Zqm Z Z<|Nt<|Zp<|?_
 refine qat (γ:=Nat) (fun k=>[(0,_),(1,_),(4,_),(7,_),(8,.int .i64 (k:Int))]) (fun _=>_) (fun k tw=>Le D s tw∧(k≤n∧∀ i x,i < k→l[i]?=some x→q x=false)) (fun k=>n - k) (fun _ _ _ h hl=>⟨h.1.trans hl,h.2⟩) 0 (.c5 Z Z Z Z Z (.nil _)) Z ⟨Le.refl _,⟨Nat.zero_le _,fun i x hi=>by omega⟩⟩ ?_
 intro k s1 I1
 have hk0:=I1.2.1
 have hI:=I1.2.2
 refine Sr<|qba Z Z Z<|Nt<|Zs<|?_
 refine qab Z (fun c2=>?_) (fun c2=>?_)
 ·
  have hk:k < n:=by omega
  obtain ⟨b,off,x,B1,m1,e1,B2,m2,e2,B3,m3,e3,rfl,hx,hcx,_⟩:=Fncs.at_ (hA.le I1.1) hk
  refine Zk<|Zt<|Zs<|Zp<|Sr<|Zqm Z Z<|At Z Z<|Sr<|Zqm Z Z<|Zqm Z Z<|Zqm Z Z<|qaf (qap Z Z Z Z Z Z hk) Z<|qaf (qas Z Z Z hcx Z) Z<|qd1 (first:=[]) (captured:=cap) Z Z Z (hp _ x B1 m1 e1 B2 m2 e2 B3 m3 e3 I1.1) ?_
  rintro _ _ s3 h3 ⟨rfl,rfl⟩
  refine Nt<|?_
  refine qes Z (fun c4=>?_) (fun c4=>?_)
  ·
   have hz:=c4
   refine Sr<|Zqm Z Z<|At Z Z<|Zo<|Zc<|Zu<|Zu<|Zc<|Zu<|?_
   refine rR [] L (.t1 Z) Z (I1.1.t h3) fun _ hS2=>?_
   refine ⟨?_,Z⟩
   first
     | (simp only [qaA];rw [qcz hI hx hz,Nat.zero_add])
     | (simp only [qaA];rw [qcF (fun i a hi h=>hI i a O h)])
  have hz:=c4
  refine Zk<|Zb<|Zt<|Zr<|qaG Z Z Z (w64 O O)<|Zqm Z Z<|Zn<|?_
  refine qaa ⟨(k+1),[],kp,Z,⟨(I1.1.t h3),⟨by omega,qa9 hI hx hz⟩⟩,O⟩
 refine Zl<|Zv<|Zv<|Zd<|Zt<|Sr<|At Z Z<|Zo<|?_
 refine rR [] L (.t1 Z) Z I1.1 fun _ hS2=>?_
 refine ⟨?_,Z⟩
 first
   | (simp only [qaA];rw [qcz hI hx hz,Nat.zero_add])
   | (simp only [qaA];rw [qcF (fun i a hi h=>hI i a O h)])
theorem qse(D:Nat)(L:Hl)(s:World)(g:Glo)(A9:Option Addr)(n9 c9:Nat)(b:Nat)(nm:Str)(hc:CellsAt s b 0 [St nm]):AC prog D 128 [.agg #[.int .i64 g.kind,St g.name,.int .u32 g.num,.slice A9 n9 c9],.pointer (some ⟨b,0,none⟩)] L s fun v L' _=>v=.bool (decide (g.name=nm))∧L=L':=by
 refine qai (fn:=f128) qaq func128 V Z ntmps128 Z (rs:=[.tmp 3]) Z [(0,_),(1,_)] Z<|Sr<|qau Z Z ?_
 intro β1 s1 h1
 refine At Z Z<|Sr<|Wb Y5<|Wl 0 Y6<|qaf (qaj Z Z Z (hc.le h1) Z) Z<|qll Z Z Z<|At Z Z<|Zo<|?_
 refine rR [_] L (.t1 Z) Z h1 fun _ hS2=>?_
 exact ⟨rfl,rfl⟩
theorem qrC(D:Nat)(L:Hl)(s:World)(g:Fnc)(A7:Option Addr)(n7 c7:Nat)(A8:Option Addr)(n8 c8:Nat)(A9:Option Addr)(n9 c9:Nat)(b:Nat)(nm:Str)(hc:CellsAt s b 0 [St nm]):AC prog D 169 [.agg #[St g.name,.slice A7 n7 c7,.slice A8 n8 c8,.slice A9 n9 c9],.pointer (some ⟨b,0,none⟩)] L s fun v L' _=>v=.bool (decide (g.name=nm))∧L=L':=by
 refine qai (fn:=f169) qaq func169 V Z ntmps169 Z (rs:=[.tmp 3]) Z [(0,_),(1,_)] Z<|Sr<|qau Z Z ?_
 intro β1 s1 h1
 refine At Z Z<|Sr<|W0 Y5<|Wl 0 Y6<|qaf (qaj Z Z Z (hc.le h1) Z) Z<|qll Z Z Z<|At Z Z<|Zo<|?_
 refine rR [_] L (.t1 Z) Z h1 fun _ hS2=>?_
 exact ⟨rfl,rfl⟩
theorem qe4(D:Nat)(L:Hl)(s:World)(d0:Nat)(p:Prg)(Ag Af:Option Addr)(ng cg nf cf:Nat)(hGl:Glos s Ag ng cg p.globals)(hFn:Fncs d0 s Af nf cf p.funcs)(f:Fnc)(P1 P2 P3:Option Addr)(p1 r1 p2 r2 p3 r3:Nat)(hP1:Strs s P1 p1 r1 f.params)(hP2:Strs s P2 p2 r2 f.locals)(nm:Str):AC prog D 85 [.agg #[.slice Ag ng cg,.slice Af nf cf,St f.name,.slice P1 p1 r1,.slice P2 p2 r2,.slice P3 p3 r3],St nm] L s fun v L' _=>v=.int .i64 (qdO p nm)∧L=L':=by
 refine qai (fn:=f85) qaq func85 V Z ntmps85 Z (rs:=[.tmp 4]) Z [(0,_),(1,_)] Z<|Sr<|qau Z Z ?_
 intro β1 s1 h1
 refine qfz Z Z Z ?_
 intro β2 s2 h2
 refine At Z Z<|Zs<|qbs [] [_] _ ?_
 intro s3 h3 hpub3
 simp only [cQ9,nQ9]
 have hc3:=hpub3 _ _ _ (List.mem_singleton.2 rfl)
 
 refine Zr<|W0 Y5<|W0 Y5<|Wl 0 Y6<|qaf (qbn Z) Z<|Jc Z Z Z (qql D _ _ Ag ng cg p.globals (hGl.le (h1.t h2|>.t h3)) _ _ (fun g=>decide (g.name=nm)) (fun s9 g A9 n9 c9 q9=>qse D _ s9 g A9 n9 c9 _ nm ((hc3.le (Lr D)).le q9))) ?_
 rintro _ _ s4 h4 ⟨rfl,rfl⟩
 refine At Z Z<|Zo<|?_
 refine rR [_] L (.t1 Z) Z (h1.t h2|>.t h3|>.t h4) fun _ hS2=>?_
 exact ⟨rfl,rfl⟩
theorem qlw(D:Nat)(L:Hl)(s:World)(d0:Nat)(p:Prg)(Ag Af:Option Addr)(ng cg nf cf:Nat)(hGl:Glos s Ag ng cg p.globals)(hFn:Fncs d0 s Af nf cf p.funcs)(f:Fnc)(P1 P2 P3:Option Addr)(p1 r1 p2 r2 p3 r3:Nat)(hP1:Strs s P1 p1 r1 f.params)(hP2:Strs s P2 p2 r2 f.locals)(nm:Str):AC prog D 129 [.agg #[.slice Ag ng cg,.slice Af nf cf,St f.name,.slice P1 p1 r1,.slice P2 p2 r2,.slice P3 p3 r3],St nm] L s fun v L' _=>v=.int .i64 (qja p nm)∧L=L':=by
 refine qai (fn:=f129) qaq func129 V Z ntmps129 Z (rs:=[.tmp 4]) Z [(0,_),(1,_)] Z<|Sr<|qau Z Z ?_
 intro β1 s1 h1
 refine qfz Z Z Z ?_
 intro β2 s2 h2
 refine At Z Z<|Zs<|qbs [] [_] _ ?_
 intro s3 h3 hpub3
 simp only [cQ9,nQ9]
 have hc3:=hpub3 _ _ _ (List.mem_singleton.2 rfl)
 
 refine Zr<|W0 Y5<|Wb Y5<|Wl 0 Y6<|qaf (qbn Z) Z<|Jc Z Z Z (qpb D _ _ d0 Af nf cf p.funcs (hFn.le (h1.t h2|>.t h3)) _ _ (fun g=>decide (g.name=nm)) (fun s9 g A7 n7 c7 A8 n8 c8 A9 n9 c9 q9=>qrC D _ s9 g A7 n7 c7 A8 n8 c8 A9 n9 c9 _ nm ((hc3.le (Lr D)).le q9))) ?_
 rintro _ _ s4 h4 ⟨rfl,rfl⟩
 refine At Z Z<|Zo<|?_
 refine rR [_] L (.t1 Z) Z (h1.t h2|>.t h3|>.t h4) fun _ hS2=>?_
 exact ⟨rfl,rfl⟩
theorem qjQ(D:Nat)(L:Hl)(s:World)(d0:Nat)(p:Prg)(Ag Af:Option Addr)(ng cg nf cf:Nat)(hGl:Glos s Ag ng cg p.globals)(hFn:Fncs d0 s Af nf cf p.funcs)(f:Fnc)(P1 P2 P3:Option Addr)(p1 r1 p2 r2 p3 r3:Nat)(hP1:Strs s P1 p1 r1 f.params)(hP2:Strs s P2 p2 r2 f.locals)(hsz:f.params.length+f.locals.length≤100)(nm:Str):AC prog D 124 [.agg #[.slice Ag ng cg,.slice Af nf cf,St f.name,.slice P1 p1 r1,.slice P2 p2 r2,.slice P3 p3 r3],St nm] L s fun v L' _=>v=.int .i64 (qbg f nm)∧L=L':=by
 have hn1:=hP1.1
 have hn2:=hP2.1
 have hb1:=hP1.2.1
 have hb2:=hP1.2.2.1
 have hb3:=hP2.2.1
 have hb4:=hP2.2.2.1
 have hi1:=qdI (p:=fun x=>decide (@Eq (List UInt8) nm x)) (l:=f.params) (k:=0)
 have hi2:=qdI (p:=fun x=>decide (@Eq (List UInt8) nm x)) (l:=f.locals) (k:=0)
 
 refine qai (fn:=f124) qaq func124 V Z ntmps124 Z (rs:=[.tmp 4]) Z [(0,_),(1,_)] Z<|Sr<|qau Z Z ?_
 intro β1 s1 h1
 refine At Z Z<|Zs<|Sr<|Wb Y5<|qaf (qbf Z Z Z Z) Z<|Wl 0 Y6<|Zqm Z Z<|Jc Z Z Z (qgl D _ _ P1 p1 r1 f.params (hP1.le h1) nm) ?_
 rintro _ _ s2 h2 ⟨rfl,rfl⟩
 refine At Z Z<|Sr<|Zqm Z Z<|qf1 Z Z Z<|Nt<|?_
 refine qab Z (fun c3=>?_) (fun c3=>?_)
 ·
  have hE:qbg f nm=_:=if_pos c3
  refine Sr<|Zqm Z Z<|At Z Z<|Zo<|Zu<|?_
  refine rR [_] L (.t1 Z) Z (h1.t h2) fun _ hS2=>?_
  exact ⟨by rw [hE];first | rfl | (simp only [qaA];rw [hn1]),rfl⟩
 have g13:=c3
 refine Zk<|Zt<|Zs<|Sr<|Wb Y5<|qaf (qbf Z Z Z Z) Z<|Wl 0 Y6<|Zqm Z Z<|Jc Z Z Z (qgl D _ _ P2 p2 r2 f.locals (hP2.le (h1.t h2)) nm) ?_
 rintro _ _ s4 h4 ⟨rfl,rfl⟩
 refine At Z Z<|Sr<|Zqm Z Z<|qf1 Z Z Z<|Nt<|?_
 refine qab Z (fun c5=>?_) (fun c5=>?_)
 ·
  have hE:qbg f nm=_:=(if_neg g13).trans (if_pos c5)
  refine Sr<|Wb Y5<|qaf (qbf Z Z Z Z) Z<|Wl 0 Y6<|Ws Y4<|Zqm Z Z<|qaG Z Z Z (w64 O O)<|At Z Z<|Zo<|Zu<|?_
  refine rR [_] L (.t1 Z) Z (h1.t h2|>.t h4) fun _ hS2=>?_
  exact ⟨by rw [hE];first | rfl | (simp only [qaA];rw [hn1]),rfl⟩
 have hE:qbg f nm=_:=(if_neg g13).trans (if_neg c5)
 refine Zk<|Zt<|Sr<|At Z Z<|Zo<|?_
 refine rR [_] L (.t1 Z) Z (h1.t h2|>.t h4) fun _ hS2=>?_
 exact ⟨by rw [hE];first | rfl | (simp only [qaA];rw [hn1]),rfl⟩
theorem qmh(f:Fnc)(nm:Str):qbg f nm < ((f.params.length+f.locals.length:Nat):Int):=by
 have hi1:=qdI (p:=fun y=>decide (nm=y)) (l:=f.params) (k:=0)
 have hi2:=qdI (p:=fun y=>decide (nm=y)) (l:=f.locals) (k:=0)
 unfold qbg
 repeat' split
 all_goals omega
def XOK(p:Prg)(f:Fnc)(x:Ex):Prop:=exV x=true∧∃ lp,∀ nd∈ndX x lp,ndC p f nd=0
def StOK(p:Prg)(f:Fnc)(x:Stm):Prop:=(∃ lv,stV x lv=true)∧∃ lp,∀ nd∈ndS x lp,ndC p f nd=0
structure POK(p:Prg):Prop where
 nd:((ents p).map (·.1)).Nodup
 gk:∀ g∈p.globals,1≤g.kind∧g.kind≤3
section
variable{p:Prg}{f:Fnc}
theorem XOK.args{x:Ex}(h:XOK p f x):∀ y∈x.args,XOK p f y:=fun y hy=>by
 obtain ⟨hv,lp,hn⟩:=h
 obtain ⟨k,o,u,nm,ar⟩:=x
 obtain ⟨j,hj⟩:=List.getElem?_of_mem hy
 exact ⟨(qb8 (qdP hv).2 hj).1,lp,fun nd hd=>hn nd (by rw [ndX];exact List.mem_cons_of_mem _ (qfc hy hd))⟩
theorem XOK.use{x:Ex}(h:XOK p f x):qeD p f (qdC x)=0:=by
 obtain ⟨_,lp,hn⟩:=h
 obtain ⟨k,o,u,nm,ar⟩:=x
 exact hn (.ex (.mk k o u nm ar) lp) (by rw [ndX];exact List.mem_cons_self ..)
theorem StOK.exprs{x:Stm}(h:StOK p f x):∀ y∈x.exprs,XOK p f y:=fun y hy=>by
 obtain ⟨⟨lv,hv⟩,lp,hn⟩:=h
 obtain ⟨k,nm,es,b,e⟩:=x
 obtain ⟨j,hj⟩:=List.getElem?_of_mem hy
 exact ⟨(qb8 (qdc hv).2.2.1 hj).1,lp,fun nd hd=>hn nd (by rw [ndS];exact List.mem_cons_of_mem _ (List.mem_append_left _ (qfc hy hd)))⟩
theorem StOK.body{x:Stm}(h:StOK p f x):∀ y∈x.body,StOK p f y:=fun y hy=>by
 obtain ⟨⟨lv,hv⟩,lp,hn⟩:=h
 obtain ⟨k,nm,es,b,e⟩:=x
 obtain ⟨j,hj⟩:=List.getElem?_of_mem hy
 exact ⟨⟨_,(qds (qdc hv).2.2.2.1 hj).1⟩,_,fun nd hd=>hn nd (by rw [ndS];exact List.mem_cons_of_mem _ (List.mem_append_right _ (List.mem_append_left _ (qdM hy hd))))⟩
theorem StOK.els{x:Stm}(h:StOK p f x):∀ y∈x.els,StOK p f y:=fun y hy=>by
 obtain ⟨⟨lv,hv⟩,lp,hn⟩:=h
 obtain ⟨k,nm,es,b,e⟩:=x
 obtain ⟨j,hj⟩:=List.getElem?_of_mem hy
 exact ⟨⟨_,(qds (qdc hv).2.2.2.2 hj).1⟩,_,fun nd hd=>hn nd (by rw [ndS];exact List.mem_cons_of_mem _ (List.mem_append_right _ (List.mem_append_right _ (qdM hy hd))))⟩
theorem StOK.use{x:Stm}(h:StOK p f x):qeD p f (qdD x)=0:=by
 obtain ⟨_,lp,hn⟩:=h
 obtain ⟨k,nm,es,b,e⟩:=x
 exact (qfb (hn (.st (.mk k nm es b e) lp) (by rw [ndS];exact List.mem_cons_self ..))).1
theorem qg6(hP:POK p){u:Use}(h:qeD p f u=0)(hu:u.2.1≠0):(0≤qbg f u.1∧(u.2.1=1∨u.2.1=2))∨(¬ 0≤qbg f u.1∧∃ (k:Nat) (g:Glo),qdO p u.1=(k:Int)∧p.globals[k]?=some g∧((g.kind=1∧u.2.1=2)∨(g.kind=2∧(u.2.1=1∨u.2.1=2))∨(g.kind=3∧u.2.1=3)))∨∃ (k:Nat) (fk:Fnc),qja p u.1=(k:Int)∧p.funcs[k]?=some fk∧u.2.1=4∧u.2.2=(fk.params.length:Int):=by
  obtain ⟨a1,a2,a3⟩:=qeP h hu
  rcases qch a1 with k1 | ⟨k1,k,k2,k3⟩ | ⟨k1,k,k2,k3⟩
  · exact .inl ⟨qjD k1,by unfold qce at a2;omega⟩
  · have e:=qed k1 k2
    obtain ⟨g,hg⟩:∃ g,p.globals[k]?=some g:=⟨_,List.getElem?_eq_getElem k3⟩
    have hk:=hP.gk g (List.mem_of_getElem? hg)
    rw [e] at a2
    have e1:=qd6 hg
    refine .inr (.inl ⟨qki e (.inl Z),k,g,(qiV hP.nd e).1,hg,?_⟩)
    unfold qce at a2
    simp only at a2
    omega
  · have e:=qed k1 k2
    obtain ⟨g,hg⟩:∃ g,p.funcs[k]?=some g:=⟨_,List.getElem?_eq_getElem k3⟩
    rw [e] at a2 a3
    have e1:=qfo (p:=p) (i:=(k:Int)) rfl hg
    refine .inr (.inr ⟨k,g,(qjd hP.nd e).1,hg,?_⟩)
    unfold qce at a2
    simp only at a2 a3
    rw [e1] at a3
    omega
theorem mn2(hP:POK p){x:Ex}(h:XOK p f x)(hk:x.kind=2):0≤qbg f x.name∨(¬ 0≤qbg f x.name∧∃ (k:Nat) (g:Glo),qdO p x.name=(k:Int)∧p.globals[k]?=some g):=by
 have hu:qdC x=(x.name,2,0):=by rw [qdC,if_pos hk]
 have:=h.use;rw [hu] at this
 rcases qg6 hP this (show (2:Int)≠0 by decide) with ⟨a,_⟩ | ⟨a,k,g,b,c,_⟩ | ⟨_,_,_,_,c,_⟩
 · exact .inl a
 · exact .inr ⟨a,k,g,b,c⟩
 · cases c
theorem mn3(hP:POK p){x:Ex}(h:XOK p f x)(hk:x.kind=3):∃ (k:Nat) (g:Glo),qdO p x.name=(k:Int)∧p.globals[k]?=some g∧g.kind=3:=by
 have hu:qdC x=(x.name,3,0):=by rw [qdC,if_neg O,if_pos hk]
 have:=h.use;rw [hu] at this
 rcases qg6 hP this (show (3:Int)≠0 by decide) with ⟨_,a⟩ | ⟨a,k,g,b,c,d⟩ | ⟨_,_,_,_,c,_⟩
 · rcases a with a | a <;> cases a
 · exact ⟨k,g,b,c,by simp only at d;omega⟩
 · cases c
theorem mn4(hP:POK p){x:Ex}(h:XOK p f x)(hk:x.kind=4):∃ (k:Nat) (fk:Fnc),qja p x.name=(k:Int)∧p.funcs[k]?=some fk∧x.args.length=fk.params.length:=by
 have hu:qdC x=(x.name,4,(x.args.length:Int)):=by rw [qdC,if_neg O,if_neg O,if_pos hk]
 have:=h.use;rw [hu] at this
 rcases qg6 hP this (show (4:Int)≠0 by decide) with ⟨_,a⟩ | ⟨a,k,g,b,c,d⟩ | ⟨k,fk,b,c,_,d⟩
 · rcases a with a | a <;> cases a
 · simp only at d;omega
 · exact ⟨k,fk,b,c,by simp only at d;omega⟩
theorem ms1(hP:POK p){x:Stm}(h:StOK p f x)(hk:x.kind=1):0≤qbg f x.name∨(¬ 0≤qbg f x.name∧∃ (k:Nat) (g:Glo),qdO p x.name=(k:Int)∧p.globals[k]?=some g∧g.kind=2):=by
 have hu:qdD x=(x.name,1,0):=by rw [qdD,if_pos hk]
 have:=h.use;rw [hu] at this
 rcases qg6 hP this (show (1:Int)≠0 by decide) with ⟨a,_⟩ | ⟨a,k,g,b,c,d⟩ | ⟨_,_,_,_,c,_⟩
 · exact .inl a
 · exact .inr ⟨a,k,g,b,c,by simp only at d;omega⟩
 · cases c
theorem ms2(hP:POK p){x:Stm}(h:StOK p f x)(hk:x.kind=2):∃ (k:Nat) (g:Glo),qdO p x.name=(k:Int)∧p.globals[k]?=some g∧g.kind=3:=by
 have hu:qdD x=(x.name,3,0):=by rw [qdD,if_neg O,if_pos hk]
 have:=h.use;rw [hu] at this
 rcases qg6 hP this (show (3:Int)≠0 by decide) with ⟨_,a⟩ | ⟨a,k,g,b,c,d⟩ | ⟨_,_,_,_,c,_⟩
 · rcases a with a | a <;> cases a
 · exact ⟨k,g,b,c,by simp only at d;omega⟩
 · cases c
theorem ms5(hP:POK p){x:Stm}(h:StOK p f x)(hk:x.kind=5):∃ (k:Nat) (fk:Fnc),qja p x.name=(k:Int)∧p.funcs[k]?=some fk∧x.exprs.length=fk.params.length:=by
 have hu:qdD x=(x.name,4,(x.exprs.length:Int)):=by rw [qdD,if_neg O,if_neg O,if_pos hk]
 have:=h.use;rw [hu] at this
 rcases qg6 hP this (show (4:Int)≠0 by decide) with ⟨_,a⟩ | ⟨a,k,g,b,c,d⟩ | ⟨k,fk,b,c,_,d⟩
 · rcases a with a | a <;> cases a
 · simp only at d;omega
 · exact ⟨k,fk,b,c,by simp only at d;omega⟩
end
theorem qoo(D:Nat)(L:Hl)(s:World)(d0:Nat)(p:Prg)(Ag Af:Option Addr)(ng cg nf cf:Nat)(hGl:Glos s Ag ng cg p.globals)(hFn:Fncs d0 s Af nf cf p.funcs)(f:Fnc)(P1 P2 P3:Option Addr)(p1 r1 p2 r2 p3 r3:Nat)(hP1:Strs s P1 p1 r1 f.params)(hP2:Strs s P2 p2 r2 f.locals)(hsz:f.params.length+f.locals.length≤100)(Vq:World→Ex→List Value→Prop)(x:Ex)(hk:x.kind=2)(hmn:0≤qbg f x.name∨(¬ 0≤qbg f x.name∧∃ (k:Nat) (g:Glo),qdO p x.name=(k:Int)∧p.globals[k]?=some g)):AC prog D 163 [.agg #[.slice Ag ng cg,.slice Af nf cf,St f.name,.slice P1 p1 r1,.slice P2 p2 r2,.slice P3 p3 r3],St x.name] L s fun v L' s'=>∃ M',L'=M'++L∧∀ s2,Le D s' s2→Pub M' s2→ViE p f Vq s2 x v:=by
 refine qai (fn:=f163) qaq func163 V Z ntmps163 Z (rs:=[.tmp 4]) Z [(0,_),(1,_)] Z<|Sr<|qau Z Z ?_
 intro β1 s1 h1
 refine At Z Z<|Zs<|Sr<|qaf (qan 0 [_,_,_,_,_,_] Z Z Z Z Z) Z<|Zqm Z Z<|Jc Z Z Z (qjQ D _ _ d0 p Ag Af ng cg nf cf (hGl.le h1) (hFn.le h1) f P1 P2 P3 p1 r1 p2 r2 p3 r3 (hP1.le h1) (hP2.le h1) hsz x.name) ?_
 rintro _ _ s2 h2 ⟨rfl,rfl⟩
 refine qae Z [_] Z Z ?_
 intro β3 s3 h3
 refine Wt 0 [_] Y9<|Nt<|Sr<|Wl 0 Y6<|qf1 Z Z Z<|Nt<|?_
 refine qab Z (fun c4=>?_) (fun c4=>?_)
 ·
  have h0:=c4
  refine Sr<|qaf (qbn Z) Z<|At Z Z<|Zo<|Zu<|?_
  refine rR [] _ (.t1 Z) Z (h1.t h2|>.t h3) fun _ hS2=>?_
  exact ⟨[_,_],rfl,fun s2 hs2 hp=>.slot _ hk h0 (qmh f _) (hp _ _ _ Mc)⟩
 have hs:=c4
 obtain ⟨gk,g,hgk,hgp⟩:=(hmn.resolve_left hs).2
 have hgl:gk < ng:=by rw [hGl.1];exact (List.getElem?_eq_some_iff.1 hgp).1
 refine Zk<|Zt<|Sr<|qaf (qan 1 [_,_,_,_,_,_] Z Z Z Z Z) Z<|Zqm Z Z<|Jc Z Z Z (qe4 D _ _ d0 p Ag Af ng cg nf cf (hGl.le (h1.t h2|>.t h3)) (hFn.le (h1.t h2|>.t h3)) f P1 P2 P3 p1 r1 p2 r2 p3 r3 (hP1.le (h1.t h2|>.t h3)) (hP2.le (h1.t h2|>.t h3)) x.name) ?_
 rintro _ _ s5 h5 ⟨rfl,rfl⟩
 obtain ⟨bz,oz,z,Ai,ni,ci,hAe,hz,hcz,_,huz,_⟩:=Glos.at_ (hGl.le (h1.t h2|>.t h3|>.t h5)) hgl
 subst hAe
 refine qae Z [_] Z Z ?_
 intro β6 s6 h6
 refine Wt 0 [_] Y9<|Nt<|Zs<|Sr<|W0 Y5<|W0 Y5<|Wl 2 Y6<|Wl 0 Y6<|qaf (qap (j:=gk) Z (show lk _ _=some (.int .i64 (gk:Int)) from by rw [← hgk];rfl) Z Z Z Z hgl) Z<|qaf (qas Z Z Z (hcz.le h6) Z) Z<|qae Z [_,_,_,_] Z Z ?_
 intro β7 s7 h7
 refine Wt 0 [_,_,_,_] Y9<|Nt<|Sr<|W0 Y5<|Wl 0 Y6<|qax Z Z Z<|Nt<|?_
 refine qab Z (fun c8=>?_) (fun c8=>?_)
 ·
  have gc1:=c8
  refine Sr<|qaf (qbn Z) Z<|At Z Z<|Zo<|Zu<|?_
  refine rR [] _ (.t1 Z) Z (h1.t h2|>.t h3|>.t h5|>.t h6|>.t h7) fun _ hS2=>?_
  exact ⟨[_,_,_,_],rfl,fun s2 hs2 hp=>.con _ gk z Ai ni ci hk hs hgk hz gc1 (hp _ _ _ Mc) huz⟩
 have gc1:=c8
 refine Zk<|Zt<|Sr<|qaf (qbn Z) Z<|At Z Z<|Zo<|?_
 refine rR [] _ (.t1 Z) Z (h1.t h2|>.t h3|>.t h5|>.t h6|>.t h7) fun _ hS2=>?_
 exact ⟨[_,_,_,_],rfl,fun s2 hs2 hp=>.var _ gk z hk hs hgk hz gc1 (by rw [← hgk];exact (hp _ _ _ (List.mem_cons_of_mem _ Mc)))⟩
theorem qk9(D:Nat)(L:Hl)(s:World)(d0:Nat)(p:Prg)(Ag Af:Option Addr)(ng cg nf cf:Nat)(hGl:Glos s Ag ng cg p.globals)(hFn:Fncs d0 s Af nf cf p.funcs)(f:Fnc)(P1 P2 P3:Option Addr)(p1 r1 p2 r2 p3 r3:Nat)(hP1:Strs s P1 p1 r1 f.params)(hP2:Strs s P2 p2 r2 f.locals)(hsz:f.params.length+f.locals.length≤100)(Vq:World→Stm→List Value→Prop)(d b4:Nat)(x:Stm)(hk:x.kind=1)(hmn:0≤qbg f x.name∨(¬ 0≤qbg f x.name∧∃ (k:Nat) (g:Glo),qdO p x.name=(k:Int)∧p.globals[k]?=some g∧g.kind=2))(hv:VeR p f d s (qco x.exprs 0) [.func (.func 123) #[] #[.pointer (some ⟨b4,0,none⟩)]]):AC prog D 84 [.agg #[.slice Ag ng cg,.slice Af nf cf,St f.name,.slice P1 p1 r1,.slice P2 p2 r2,.slice P3 p3 r3],St x.name,.func (.func 123) #[] #[.pointer (some ⟨b4,0,none⟩)]] L s fun v L' s'=>∃ M',L'=M'++L∧∀ s2,Le D s' s2→Pub M' s2→ViS p f (VeR p f d) Vq s2 x v:=by
 refine qai (fn:=f84) qaq func84 V Z ntmps84 Z (rs:=[.tmp 6]) Z [(0,_),(1,_),(2,_)] Z<|Sr<|qau Z Z ?_
 intro β1 s1 h1
 refine qfz Z Z Z ?_
 intro β2 s2 h2
 refine At Z Z<|Zs<|Sr<|qaf (qan 1 [_,_,_,_,_,_] Z Z Z Z Z) Z<|Zqm Z Z<|Jc Z Z Z (qjQ D _ _ d0 p Ag Af ng cg nf cf (hGl.le (h1.t h2)) (hFn.le (h1.t h2)) f P1 P2 P3 p1 r1 p2 r2 p3 r3 (hP1.le (h1.t h2)) (hP2.le (h1.t h2)) hsz x.name) ?_
 rintro _ _ s3 h3 ⟨rfl,rfl⟩
 refine qae Z [_] Z Z ?_
 intro β4 s4 h4
 refine Wt 0 [_] Y9<|Nt<|Sr<|Wl 0 Y6<|qf1 Z Z Z<|Nt<|?_
 refine qab Z (fun c5=>?_) (fun c5=>?_)
 ·
  have h0:=c5
  refine Sr<|qaf (qbn Z) Z<|At Z Z<|Zo<|Zu<|?_
  refine rR [] _ (.t1 Z) Z (h1.t h2|>.t h3|>.t h4) fun _ hS2=>?_
  exact ⟨[_,_,_],rfl,fun s2 hs2 hp=>.setl _ _ _ hk h0 (qmh f _) (hp _ _ _ (List.mem_cons_of_mem _ Mc)) (hp _ _ _ Mc) (VeR.le (h1.t h2|>.t h3|>.t h4|>.t (hS2.t hs2)) hv)⟩
 have hs:=c5
 obtain ⟨gk,g,hgk,hgp,hg2⟩:=(hmn.resolve_left hs).2
 refine Zk<|Zt<|Sr<|qaf (qan 2 [_,_,_,_,_,_] Z Z Z Z Z) Z<|Zqm Z Z<|Jc Z Z Z (qe4 D _ _ d0 p Ag Af ng cg nf cf (hGl.le (h1.t h2|>.t h3|>.t h4)) (hFn.le (h1.t h2|>.t h3|>.t h4)) f P1 P2 P3 p1 r1 p2 r2 p3 r3 (hP1.le (h1.t h2|>.t h3|>.t h4)) (hP2.le (h1.t h2|>.t h3|>.t h4)) x.name) ?_
 rintro _ _ s6 h6 ⟨rfl,rfl⟩
 refine qae Z [_] Z Z ?_
 intro β7 s7 h7
 refine Wt 0 [_] Y9<|Nt<|Sr<|qaf (qbn Z) Z<|At Z Z<|Zo<|?_
 refine rR [] _ (.t1 Z) Z (h1.t h2|>.t h3|>.t h4|>.t h6|>.t h7) fun _ hS2=>?_
 exact ⟨[_,_,_,_],rfl,fun s2 hs2 hp=>.setg _ _ gk g _ hk hs hgk hgp hg2 (hp _ _ _ (List.mem_cons_of_mem _ (List.mem_cons_of_mem _ Mc))) (by rw [← hgk];exact (hp _ _ _ Mc)) (VeR.le (h1.t h2|>.t h3|>.t h4|>.t h6|>.t h7|>.t (hS2.t hs2)) hv)⟩
theorem qiN(D:Nat)(L:Hl)(s:World)(d0:Nat)(p:Prg)(Ag Af:Option Addr)(ng cg nf cf:Nat)(hGl:Glos s Ag ng cg p.globals)(hFn:Fncs d0 s Af nf cf p.funcs)(f:Fnc)(P1 P2 P3:Option Addr)(p1 r1 p2 r2 p3 r3:Nat)(hP1:Strs s P1 p1 r1 f.params)(hP2:Strs s P2 p2 r2 f.locals)(d:Nat)(nm:Str)(xs:List Ex)(A:Option Addr)(n c:Nat)(k:Nat)(fk:Fnc)(hA:VeS p f d s A n c xs)(hg:qja p nm=(k:Int))(hpk:p.funcs[k]?=some fk)(hl:xs.length=fk.params.length):AC prog D 91 [.agg #[.slice Ag ng cg,.slice Af nf cf,St f.name,.slice P1 p1 r1,.slice P2 p2 r2,.slice P3 p3 r3],St nm,.slice A n c] L s fun v L' s'=>∃ M',L'=M'++L∧∀ s2,Le D s' s2→Pub M' s2→CallV p (VeR p f d) s2 nm xs v:=by
 refine qai (fn:=f91) qaq func91 V Z ntmps91 Z (rs:=[.tmp 6]) Z [(0,_),(1,_),(2,_)] Z<|Sr<|qau Z Z ?_
 intro β1 s1 h1
 refine qfz Z Z Z ?_
 intro β2 s2 h2
 refine At Z Z<|Sr<|qaf (qan 1 [_,_,_,_,_,_] Z Z Z Z Z) Z<|Zqm Z Z<|Jc Z Z Z (qlw D _ _ d0 p Ag Af ng cg nf cf (hGl.le (h1.t h2)) (hFn.le (h1.t h2)) f P1 P2 P3 p1 r1 p2 r2 p3 r3 (hP1.le (h1.t h2)) (hP2.le (h1.t h2)) nm) ?_
 rintro _ _ s3 h3 ⟨rfl,rfl⟩
 refine qae Z [_] Z Z ?_
 intro β4 s4 h4
 refine Wt 0 [_] Y9<|Nt<|Sr<|qaf (qbn Z) Z<|At Z Z<|Zo<|?_
 refine rR [] _ (.t1 Z) Z (h1.t h2|>.t h3|>.t h4) fun _ hS2=>?_
 exact ⟨[_,_,_],rfl,fun s2 hs2 hp=>⟨_,_,A,n,c,k,fk,rfl,(hp _ _ _ (List.mem_cons_of_mem _ Mc)),by rw [← hg];exact (hp _ _ _ Mc),hA.le (h1.t h2|>.t h3|>.t h4|>.t (hS2.t hs2)),hg,hpk,hl⟩⟩
theorem qk7(D:Nat)(L:Hl)(s:World)(p:Prg)(f:Fnc)(d b4 b5:Nat)(x:Ex)(hk:x.kind=7)(ho:4≤x.op∧x.op≤21)(hv1:VeR p f d s (qco x.args 0) [.func (.func 123) #[] #[.pointer (some ⟨b4,0,none⟩)]])(hv2:VeR p f d s (qco x.args 1) [.func (.func 123) #[] #[.pointer (some ⟨b5,0,none⟩)]]):AC prog D 167 [.int .i64 x.op,.func (.func 123) #[] #[.pointer (some ⟨b4,0,none⟩)],.func (.func 123) #[] #[.pointer (some ⟨b5,0,none⟩)]] L s fun v L' s'=>∃ M',L'=M'++L∧∀ s2,Le D s' s2→Pub M' s2→ViE p f (VeR p f d) s2 x v:=by
 refine qai (fn:=f167) qaq func167 V Z ntmps167 Z (rs:=[.tmp 6]) Z [(0,_),(1,_),(2,_)] Z<|Sr<|qfz Z Z Z ?_
 intro β1 s1 h1
 refine qfz Z Z Z ?_
 intro β2 s2 h2
 refine qfz Z Z Z ?_
 intro β3 s3 h3
 refine At Z Z<|Sr<|qaf (qbn Z) Z<|At Z Z<|Zo<|?_
 refine rR [] _ (.t1 Z) Z (h1.t h2|>.t h3) fun _ hS2=>?_
 exact ⟨[_,_,_],rfl,fun s2 hs2 hp=>.bin _ _ _ _ _ hk (hp _ _ _ (List.mem_cons_of_mem _ Mc)) (hp _ _ _ (List.mem_cons_of_mem _ (List.mem_cons_of_mem _ Mc))) (hp _ _ _ Mc) (VeR.le (h1.t h2|>.t h3|>.t (hS2.t hs2)) hv1) (VeR.le (h1.t h2|>.t h3|>.t (hS2.t hs2)) hv2) ho⟩
theorem ViE.func{p:Prg}{f:Fnc}{V:World→Ex→List Value→Prop}{s:World}{x:Ex}{v:Value}(h:ViE p f V s x v):∃ kk cap,v=.func (.func kk) #[] (List.toArray cap):=by
 cases h with
 | call w hk h=>obtain ⟨be,bi,A,n,c,k,fk,rfl,_⟩:=h;exact ⟨_,[_,_],rfl⟩
 | num=>exact ⟨_,[_],rfl⟩
 | slot=>exact ⟨_,[_],rfl⟩
 | con=>exact ⟨_,[_],rfl⟩
 | var=>exact ⟨_,[_],rfl⟩
 | idx=>exact ⟨_,[_,_],rfl⟩
 | get=>exact ⟨_,[],rfl⟩
 | una=>exact ⟨_,[_,_],rfl⟩
 | bin=>exact ⟨_,[_,_,_],rfl⟩
theorem ViS.func{p:Prg}{f:Fnc}{E:World→Ex→List Value→Prop}{V:World→Stm→List Value→Prop}{s:World}{x:Stm}{v:Value}(h:ViS p f E V s x v):∃ kk cap,v=.func (.func kk) #[] (List.toArray cap):=by
 cases h with
 | setl=>exact ⟨_,[_,_],rfl⟩
 | setg=>exact ⟨_,[_,_],rfl⟩
 | store=>exact ⟨_,[_,_],rfl⟩
 | cond=>exact ⟨_,[_,_,_],rfl⟩
 | loop=>exact ⟨_,[_,_],rfl⟩
 | call=>exact ⟨_,[_],rfl⟩
 | ret=>exact ⟨_,[_],rfl⟩
 | put=>exact ⟨_,[_],rfl⟩
 | stop=>exact ⟨_,[_],rfl⟩
 | brk=>exact ⟨_,[],rfl⟩
 | cont=>exact ⟨_,[],rfl⟩
theorem qoi(k:Int):qcR k≤6:=by
 unfold qcR;repeat' split
 all_goals omega
theorem qp1(k:Int):qdB k≤6:=by
 unfold qdB;repeat' split
 all_goals omega
def XPR(D d:Nat):Prop:=∀ (L:Hl) (s:World) (d0:Nat) (p:Prg) (Ag Af:Option Addr) (ng cg nf cf:Nat) (hGl:Glos s Ag ng cg p.globals) (hFn:Fncs d0 s Af nf cf p.funcs) (f:Fnc) (P1 P2 P3:Option Addr) (p1 r1 p2 r2 p3 r3:Nat) (hP1:Strs s P1 p1 r1 f.params) (hP2:Strs s P2 p2 r2 f.locals) (hsz:f.params.length+f.locals.length≤100) (hPK:POK p) (x:Ex) (A:Option Addr) (n c:Nat),Exs d s A n c x.args→U32 x.num→XOK p f x→AC prog D 122 [.agg #[.slice Ag ng cg,.slice Af nf cf,St f.name,.slice P1 p1 r1,.slice P2 p2 r2,.slice P3 p3 r3],.agg #[.int .i64 x.kind,.int .i64 x.op,.int .u32 x.num,St x.name,.slice A n c]] L s fun v L' s'=>L=L'∧ViE p f (VeR p f d) s' x v
def XSR(D d:Nat):Prop:=∀ (L:Hl) (s:World) (d0:Nat) (p:Prg) (Ag Af:Option Addr) (ng cg nf cf:Nat) (hGl:Glos s Ag ng cg p.globals) (hFn:Fncs d0 s Af nf cf p.funcs) (f:Fnc) (P1 P2 P3:Option Addr) (p1 r1 p2 r2 p3 r3:Nat) (hP1:Strs s P1 p1 r1 f.params) (hP2:Strs s P2 p2 r2 f.locals) (hsz:f.params.length+f.locals.length≤100) (hPK:POK p) (A:Option Addr) (n c:Nat) (xs:List Ex),Exs d s A n c xs→(∀ x∈xs,XOK p f x)→n≤100000→AC prog D 83 [.agg #[.slice Ag ng cg,.slice Af nf cf,St f.name,.slice P1 p1 r1,.slice P2 p2 r2,.slice P3 p3 r3],.slice A n c] L s fun v L' s'=>L=L'∧∃ A' n' c',v=.slice A' n' c'∧VeS p f d s' A' n' c' xs
theorem qgt(D d:Nat)(ih:∀ e,d=e+1→XPR D e)(L:Hl)(s:World)(d0:Nat)(p:Prg)(Ag Af:Option Addr)(ng cg nf cf:Nat)(hGl:Glos s Ag ng cg p.globals)(hFn:Fncs d0 s Af nf cf p.funcs)(f:Fnc)(P1 P2 P3:Option Addr)(p1 r1 p2 r2 p3 r3:Nat)(hP1:Strs s P1 p1 r1 f.params)(hP2:Strs s P2 p2 r2 f.locals)(hsz:f.params.length+f.locals.length≤100)(hPK:POK p)(A:Option Addr)(n c:Nat)(xs:List Ex)(hA:Exs d s A n c xs)(hO:∀ x∈xs,XOK p f x)(hnl:n≤100000):AC prog D 83 [.agg #[.slice Ag ng cg,.slice Af nf cf,St f.name,.slice P1 p1 r1,.slice P2 p2 r2,.slice P3 p3 r3],.slice A n c] L s fun v L' s'=>∃ M',L'=M'++L∧∀ s2,Le D s' s2→Pub M' s2→∃ A' n' c',v=.slice A' n' c'∧VeS p f d s2 A' n' c' xs:=by
 have hn1:=hA.1
 have hb1:=hA.2.1
 have hb2:=hA.2.2.1
 have hlim:n≤100000:=hnl
 refine qai (fn:=f83) qaq func83 V Z ntmps83 Z (rs:=[.tmp 4]) Z [(0,_),(1,_)] Z<|Sr<|qau Z Z ?_
 intro β1 s1 h1
 refine At Z Z<|Sr<|At Z Z<|Zs<|Sr<|Zqm Z Z<|Ws Y4<|Zqm Z Z<|Nt<|Zp<|?_
 refine qat (γ:=Nat×Value×Hl) (fun g=>[(2,_),(4,_),(5,g.2.1),(9,_),(10,_),(11,.int .i64 (g.1:Int))]) (fun g=>_::(g.2.2++L)) (fun g tw=>Le D s1 tw∧(g.1≤n∧∃ css,FL.Own 158 1 g.2.2 g.2.1 g.1 (List.flatten css)∧All2 (fun x cs=>cs.length=1∧VeR p f d tw x cs) (xs.take g.1) css)) (fun g=>n - g.1) (fun _ _ _ h hl=>⟨h.1.trans hl,(by obtain ⟨k1,css,k2,k3⟩:=h.2;exact ⟨k1,css,k2,k3.mono fun _ _ k=>⟨k.1,VeR.le hl k.2⟩⟩)⟩) (0,.slice none 0 0,[]) (.c6 Z Z Z Z Z Z (.nil _)) Z ⟨Le.refl _,⟨Nat.zero_le _,[],.nil,.nil⟩⟩ ?_
 intro g s2 I2
 obtain ⟨k,vk,Mk⟩:=g
 obtain ⟨hk0,css,hOk,hA2⟩:=I2.2
 simp only at hk0 hOk hA2
 dsimp only
 refine Sr<|qba Z Z Z<|Nt<|Zs<|?_
 refine qab Z (fun c3=>?_) (fun c3=>?_)
 ·
  have hk:k < n:=by omega
  obtain ⟨e,b,off,x,A',n',c',hd,rfl,hx,hcx,hxa,hxu,_⟩:=Exs.at_ (hA.le (h1.t I2.1)) hk
  have hxo:=hO x (List.mem_of_getElem? hx)
  refine Zk<|Zt<|Zs<|Zp<|Sr<|qaf (qap Z Z Z Z Z Z hk) Z<|qaf (qas Z Z Z (hcx.le (Lr D)) Z) Z<|qae Z [_,_,_,_,_] Z Z ?_
  intro β4 s4 h4
  refine Wt 0 [_,_,_,_,_] Y9<|Nt<|Sr<|qaf (qan 1 [_,_,_,_,_,_] Z Z Z Z Z) Z<|qaf (qan 0 [_,_,_,_,_] Z Z Z Z Z) Z<|Jc Z Z Z (ih e hd _ _ d0 p Ag Af ng cg nf cf (hGl.le (h1.t I2.1|>.t h4)) (hFn.le (h1.t I2.1|>.t h4)) f P1 P2 P3 p1 r1 p2 r2 p3 r3 (hP1.le (h1.t I2.1|>.t h4)) (hP2.le (h1.t I2.1|>.t h4)) hsz hPK x A' n' c' (hxa.le h4) hxu hxo) ?_
  rintro _ _ s5 h5 ⟨rfl,hvi⟩
  obtain ⟨kk,cap,hvf⟩:=hvi.func
  subst hvf
  refine qae Z [_] Z Z ?_
  intro β6 s6 h6
  refine Wt 0 [_] Y9<|Nt<|qbs [] [_,_] _ ?_
  intro s7 h7 hpub7
  simp only [cQ9,nQ9]
  have gbx:=hpub7 _ _ _ Mc
  refine Zr<|Zqm Z Z<|qaf (qbn Z) Z<|qbt [(_,_)] [_] Z Z Z Z Z Z Z Z Z ?_
  intro β8 s8 h8 hc8
  refine qbd (sz:=1) [_] Mk L Z Z Z Z Z Z Z hOk (Row.of_cells (hc8.le (Lr D)) Z Z) ⟨by simp [ti158];omega,by omega⟩ Z ?_
  intro v9 M9 s9 h9 oq
  simp only [cQ9,nQ9]
  refine Zqa Z Z<|Zn<|Zb<|Zt<|Zr<|qaG Z Z Z (w64 O O)<|Zqm Z Z<|Zn<|?_
  refine qaa ⟨(k+1,v9,M9),[],kp,Z,⟨(I2.1.t h4|>.t h5|>.t h6|>.t h7|>.t h8|>.t h9),⟨by simp only;omega,css++[[_]],by simp only [List.flatten_append,List.flatten_cons,List.flatten_nil,List.append_nil];exact oq,by simp only;rw [qaT hx];exact (hA2.mono fun _ _ k=>⟨k.1,VeR.le (h4.t h5|>.t h6|>.t h7|>.t h8|>.t h9) k.2⟩).snoc ⟨Z,hd▸⟨_,_,Z,gbx.le (h8.t h9),hvi.le (h6.t h7|>.t h8|>.t h9) (fun _ _ h=>VeR.le (h6.t h7|>.t h8|>.t h9) h)⟩⟩⟩⟩,Oz⟩
 obtain rfl:n=k:=by omega
 rw [List.take_of_length_le O] at hA2
 obtain ⟨Ak,ck,rfl,_,_⟩:=Own.slice hOk
 refine Zl<|Zv<|Zv<|Zd<|Zt<|Sr<|Zqm Z Z<|At Z Z<|Zo<|?_
 refine rR [] _ (.t1 Z) Z (h1.t I2.1) fun _ hS2=>?_
 exact ⟨_::Mk,rfl,fun s2 hs2 hp=>⟨_,_,_,rfl,Own.rows hOk hp.tail (hA2.mono fun _ _ k=>⟨k.1,VeR.le ((Lr D).t (hS2.t hs2)) k.2⟩) hn1⟩⟩
theorem qlc(D d:Nat)(ih:XSR D d)(L:Hl)(s:World)(d0:Nat)(p:Prg)(Ag Af:Option Addr)(ng cg nf cf:Nat)(hGl:Glos s Ag ng cg p.globals)(hFn:Fncs d0 s Af nf cf p.funcs)(f:Fnc)(P1 P2 P3:Option Addr)(p1 r1 p2 r2 p3 r3:Nat)(hP1:Strs s P1 p1 r1 f.params)(hP2:Strs s P2 p2 r2 f.locals)(hsz:f.params.length+f.locals.length≤100)(hPK:POK p)(x:Ex)(A:Option Addr)(n c:Nat)(hA:Exs d s A n c x.args)(hxu:U32 x.num)(hxo:XOK p f x):AC prog D 122 [.agg #[.slice Ag ng cg,.slice Af nf cf,St f.name,.slice P1 p1 r1,.slice P2 p2 r2,.slice P3 p3 r3],.agg #[.int .i64 x.kind,.int .i64 x.op,.int .u32 x.num,St x.name,.slice A n c]] L s fun v L' s'=>∃ M',L'=M'++L∧∀ s2,Le D s' s2→Pub M' s2→ViE p f (VeR p f d) s2 x v:=by
 obtain ⟨hC,_⟩:=qdP hxo.1
 obtain ⟨hk1,hk7,hle,hmo,ho6,ho7⟩:=qcy hC
 have hn1:=hA.1
 have hm6:=qoi x.kind
 refine qai (fn:=f122) qaq func122 V Z ntmps122 Z (rs:=[.tmp 4]) Z [(0,_),(1,_)] Z<|Sr<|qau Z Z ?_
 intro β1 s1 h1
 refine qau Z Z ?_
 intro β2 s2 h2
 refine At Z Z<|Sr<|qaf (qan 1 [_,_,_,_,_,_] Z Z Z Z Z) Z<|Wb Y5<|Wl 0 Y6<|Jc Z Z Z (ih _ _ d0 p Ag Af ng cg nf cf (hGl.le (h1.t h2)) (hFn.le (h1.t h2)) f P1 P2 P3 p1 r1 p2 r2 p3 r3 (hP1.le (h1.t h2)) (hP2.le (h1.t h2)) hsz hPK A n c x.args (hA.le (h1.t h2)) hxo.args O) ?_
 rintro _ _ s3 h3 ⟨rfl,A',n',c',rfl,hV⟩
 have hn2:=hV.1
 refine qae Z [_] Z Z ?_
 intro β4 s4 h4
 refine Wt 0 [_] Y9<|Nt<|Zs<|Sr<|W0 Y5<|Wl 1 Y6<|Nt<|Zp<|Sr<|qax Z Z Z<|At Z Z<|?_
 refine qab Z (fun c5=>?_) (fun c5=>?_)
 ·
  have hk1:x.kind=1:=c5
  refine Sr<|qaf (qbn Z) Z<|At Z Z<|Zo<|Zc<|Zu<|?_
  refine rR [] _ (.t1 Z) Z (h1.t h2|>.t h3|>.t h4) fun _ hS2=>?_
  exact ⟨[_,_,_],rfl,fun s2 hs2 hp=>.num _ A n c hk1 (hp _ _ _ (List.mem_cons_of_mem _ Mc)) hxu⟩
 refine Sr<|qax Z Z Z<|At Z Z<|?_
 refine qab Z (fun c6=>?_) (fun c6=>?_)
 ·
  have hk2:x.kind=2:=c6
  refine Sr<|qaf (qan 2 [_,_,_,_,_,_] Z Z Z Z Z) Z<|Wb Y5<|Wl 1 Y6<|Jc Z Z Z (AC.pubW (qoo D _ _ d0 p Ag Af ng cg nf cf (hGl.le (h1.t h2|>.t h3|>.t h4)) (hFn.le (h1.t h2|>.t h3|>.t h4)) f P1 P2 P3 p1 r1 p2 r2 p3 r3 (hP1.le (h1.t h2|>.t h3|>.t h4)) (hP2.le (h1.t h2|>.t h3|>.t h4)) hsz (VeR p f d) x hk2 (mn2 hPK hxo hk2))) ?_
  rintro _ _ s7 h7 ⟨rfl,hW⟩
  refine At Z Z<|Zo<|Zc<|Zu<|?_
  refine rR [] _ (.t1 Z) Z (h1.t h2|>.t h3|>.t h4|>.t h7) fun _ hS2=>?_
  first
    | (exact ⟨[_,_,_],rfl,fun s2 hs2 hp=>hW.le ((Lr D).t (hS2.t hs2)) fun _ _ h=>VeR.le ((Lr D).t (hS2.t hs2)) h⟩)
    | (exact ⟨[_,_,_],rfl,fun s2 hs2 hp=>.call _ hk4 (hW.le ((Lr D).t (hS2.t hs2)) fun _ _ h=>VeR.le ((Lr D).t (hS2.t hs2)) h)⟩)
 refine Sr<|qax Z Z Z<|At Z Z<|?_
 refine qab Z (fun c8=>?_) (fun c8=>?_)
 ·
  have hk3:x.kind=3:=c8
  obtain ⟨k,g,hg,hgp,g3⟩:=mn3 hPK hxo hk3
  have h0n:0 < n':=by have h9:qbF x.kind=1:=(by rw [hk3];rfl);omega
  refine Sr<|qaf (qan 2 [_,_,_,_,_,_] Z Z Z Z Z) Z<|Wb Y5<|Wl 1 Y6<|Jc Z Z Z (qe4 D _ _ d0 p Ag Af ng cg nf cf (hGl.le (h1.t h2|>.t h3|>.t h4)) (hFn.le (h1.t h2|>.t h3|>.t h4)) f P1 P2 P3 p1 r1 p2 r2 p3 r3 (hP1.le (h1.t h2|>.t h3|>.t h4)) (hP2.le (h1.t h2|>.t h3|>.t h4)) x.name) ?_
  rintro _ _ s9 h9 ⟨rfl,rfl⟩
  refine qae Z [_] Z Z ?_
  intro β10 s10 h10
  refine Wt 0 [_] Y9<|Nt<|Sr<|qaf (qbn Z) Z<|At Z Z<|Zo<|Zc<|Zu<|?_
  refine rR [] _ (.t1 Z) Z (h1.t h2|>.t h3|>.t h4|>.t h9|>.t h10) fun _ hS2=>?_
  exact ⟨[_,_,_,_],rfl,fun s2 hs2 hp=>.idx _ _ k g _ _ _ hk3 hg hgp g3 (by rw [← hg];exact (hp _ _ _ Mc)) (hp _ _ _ (List.mem_cons_of_mem _ Mc)) (hV.le (h4.t h9|>.t h10|>.t (hS2.t hs2))) h0n⟩
 refine Sr<|qax Z Z Z<|At Z Z<|?_
 refine qab Z (fun c11=>?_) (fun c11=>?_)
 ·
  have hk4:x.kind=4:=c11
  obtain ⟨k,fk,hg,hpk,hl⟩:=mn4 hPK hxo hk4
  refine Sr<|qaf (qan 2 [_,_,_,_,_,_] Z Z Z Z Z) Z<|Wb Y5<|Wl 1 Y6<|Wl 0 Y6<|Jc Z Z Z (AC.pubW (qiN D _ _ d0 p Ag Af ng cg nf cf (hGl.le (h1.t h2|>.t h3|>.t h4)) (hFn.le (h1.t h2|>.t h3|>.t h4)) f P1 P2 P3 p1 r1 p2 r2 p3 r3 (hP1.le (h1.t h2|>.t h3|>.t h4)) (hP2.le (h1.t h2|>.t h3|>.t h4)) d x.name x.args A' n' c' k fk (hV.le h4) hg hpk hl)) ?_
  rintro _ _ s12 h12 ⟨rfl,hW⟩
  refine At Z Z<|Zo<|Zc<|Zu<|?_
  refine rR [] _ (.t1 Z) Z (h1.t h2|>.t h3|>.t h4|>.t h12) fun _ hS2=>?_
  first
    | (exact ⟨[_,_,_],rfl,fun s2 hs2 hp=>hW.le ((Lr D).t (hS2.t hs2)) fun _ _ h=>VeR.le ((Lr D).t (hS2.t hs2)) h⟩)
    | (exact ⟨[_,_,_],rfl,fun s2 hs2 hp=>.call _ hk4 (hW.le ((Lr D).t (hS2.t hs2)) fun _ _ h=>VeR.le ((Lr D).t (hS2.t hs2)) h)⟩)
 refine Sr<|qax Z Z Z<|At Z Z<|?_
 refine qab Z (fun c13=>?_) (fun c13=>?_)
 ·
  have hk5:x.kind=5:=c13
  refine Sr<|At Z Z<|Zo<|Zc<|Zu<|?_
  refine rR [] _ (.t1 Z) Z (h1.t h2|>.t h3|>.t h4) fun _ hS2=>?_
  exact ⟨[_,_,_],rfl,fun s2 hs2 hp=>.get hk5⟩
 refine Sr<|qax Z Z Z<|At Z Z<|?_
 refine qab Z (fun c14=>?_) (fun c14=>?_)
 ·
  have hk6:x.kind=6:=c14
  have h0n:0 < n':=by have h9:qbF x.kind=1:=(by rw [hk6];rfl);omega
  refine Sr<|qaf (qbn Z) Z<|At Z Z<|Zo<|Zc<|Zu<|?_
  refine rR [] _ (.t1 Z) Z (h1.t h2|>.t h3|>.t h4) fun _ hS2=>?_
  exact ⟨[_,_,_],rfl,fun s2 hs2 hp=>.una _ _ A n c _ _ _ hk6 (hp _ _ _ (List.mem_cons_of_mem _ Mc)) (hp _ _ _ Mc) (hV.le (h4.t (hS2.t hs2))) h0n⟩
 have h0n:0 < n':=by have h9:qbF x.kind=2:=(by rw [show x.kind=7 by omega];rfl);omega
 have h1n:1 < n':=by have h9:qbF x.kind=2:=(by rw [show x.kind=7 by omega];rfl);omega
 obtain ⟨B0,o0,b4,hAe0,hcE,hvE⟩:=VeS.at_ hV h0n
 subst hAe0
 obtain ⟨B1,o1,b5,hAe,hcF,hvF⟩:=VeS.at_ hV h1n
 simp only [Option.some.injEq,Addr.mk.injEq,and_true] at hAe
 obtain ⟨hAe1,hAe2⟩:=hAe
 subst hAe1
 subst hAe2
 refine Zk<|Zb<|Zt<|Zs<|qay qag 10 Z _ (fun _ h=>h) ?_
 intro s15 h15
 refine za 0 Z (We Y4) Z<|za 1 Z (Wd 1 Y5) Z<|za 2 Z (Wd 0 Y5) Z<|za 3 Z (qaH Z Z Z Z Z Z h0n) Z<|za 4 Z (qaj Z Z Z (hcE.le (h4.t h15)) Z) Z<|za 5 Z (Wd 0 Y5) Z<|za 6 Z (qaH Z Z Z Z Z Z h1n) Z<|za 7 Z (qaj Z Z Z (hcF.le (h4.t h15)) Z) Z<|qal 8 V<|Jb Z Tt Z Z Z (AC.pubW (qk7 D _ _ p f d b4 b5 x O (ho7 O) (VeR.le (h4.t h15) hvE) (VeR.le (h4.t h15) hvF))) ?_
 rintro _ _ s16 h16 ⟨rfl,hW⟩
 refine ⟨fun _ _ h=>h,?_⟩
 refine za 9 Z (qaY Z) Z<|qad V<|Zt<|Zo<|?_
 refine rR [] _ (.t1 Z) Z (h1.t h2|>.t h3|>.t h4|>.t h15|>.t h16) fun _ hS2=>?_
 first
   | (exact ⟨[_,_,_],rfl,fun s2 hs2 hp=>hW.le ((Lr D).t (hS2.t hs2)) fun _ _ h=>VeR.le ((Lr D).t (hS2.t hs2)) h⟩)
   | (exact ⟨[_,_,_],rfl,fun s2 hs2 hp=>.call _ hk4 (hW.le ((Lr D).t (hS2.t hs2)) fun _ _ h=>VeR.le ((Lr D).t (hS2.t hs2)) h)⟩)
theorem xsr(D:Nat):∀ d,XSR D d
 | 0=>fun L s d0 p Ag Af ng cg nf cf hGl hFn f P1 P2 P3 p1 r1 p2 r2 p3 r3 hP1 hP2 hsz hPK A n c xs hA hO hnl=>AC.pubW (qgt D 0 (fun e h=>by omega) L s d0 p Ag Af ng cg nf cf hGl hFn f P1 P2 P3 p1 r1 p2 r2 p3 r3 hP1 hP2 hsz hPK A n c xs hA hO hnl)
 | d+1=>fun L s d0 p Ag Af ng cg nf cf hGl hFn f P1 P2 P3 p1 r1 p2 r2 p3 r3 hP1 hP2 hsz hPK A n c xs hA hO hnl=>AC.pubW (qgt D (d+1) (fun e h=>(show d=e by omega)▸fun L s d0 p Ag Af ng cg nf cf hGl hFn f P1 P2 P3 p1 r1 p2 r2 p3 r3 hP1 hP2 hsz hPK x A n c hA hu hx=>AC.pubW (qlc D d (xsr D d) L s d0 p Ag Af ng cg nf cf hGl hFn f P1 P2 P3 p1 r1 p2 r2 p3 r3 hP1 hP2 hsz hPK x A n c hA hu hx)) L s d0 p Ag Af ng cg nf cf hGl hFn f P1 P2 P3 p1 r1 p2 r2 p3 r3 hP1 hP2 hsz hPK A n c xs hA hO hnl)
def TPR(D d:Nat):Prop:=∀ (L:Hl) (s:World) (d0:Nat) (p:Prg) (Ag Af:Option Addr) (ng cg nf cf:Nat) (hGl:Glos s Ag ng cg p.globals) (hFn:Fncs d0 s Af nf cf p.funcs) (f:Fnc) (P1 P2 P3:Option Addr) (p1 r1 p2 r2 p3 r3:Nat) (hP1:Strs s P1 p1 r1 f.params) (hP2:Strs s P2 p2 r2 f.locals) (hsz:f.params.length+f.locals.length≤100) (hPK:POK p) (x:Stm) (A1:Option Addr) (n1 c1:Nat) (A2:Option Addr) (n2 c2:Nat) (A3:Option Addr) (n3 c3:Nat),Exs d s A1 n1 c1 x.exprs→Stms d s A2 n2 c2 x.body→Stms d s A3 n3 c3 x.els→qcC x.body≤2000→qcC x.els≤2000→StOK p f x→AC prog D 48 [.agg #[.slice Ag ng cg,.slice Af nf cf,St f.name,.slice P1 p1 r1,.slice P2 p2 r2,.slice P3 p3 r3],.agg #[.int .i64 x.kind,St x.name,.slice A1 n1 c1,.slice A2 n2 c2,.slice A3 n3 c3]] L s fun v L' s'=>L=L'∧ViS p f (VeR p f d) (VsR p f d) s' x v
def TSR(D d:Nat):Prop:=∀ (L:Hl) (s:World) (d0:Nat) (p:Prg) (Ag Af:Option Addr) (ng cg nf cf:Nat) (hGl:Glos s Ag ng cg p.globals) (hFn:Fncs d0 s Af nf cf p.funcs) (f:Fnc) (P1 P2 P3:Option Addr) (p1 r1 p2 r2 p3 r3:Nat) (hP1:Strs s P1 p1 r1 f.params) (hP2:Strs s P2 p2 r2 f.locals) (hsz:f.params.length+f.locals.length≤100) (hPK:POK p) (A:Option Addr) (n c:Nat) (xs:List Stm),Stms d s A n c xs→(∀ x∈xs,StOK p f x)→qcC xs≤2000→AC prog D 22 [.agg #[.slice Ag ng cg,.slice Af nf cf,St f.name,.slice P1 p1 r1,.slice P2 p2 r2,.slice P3 p3 r3],.slice A n c] L s fun v L' s'=>L=L'∧∃ A' n' c',v=.slice A' n' c'∧VsS p f d s' A' n' c' xs
theorem qg4(D d:Nat)(ih:∀ e,d=e+1→TPR D e)(L:Hl)(s:World)(d0:Nat)(p:Prg)(Ag Af:Option Addr)(ng cg nf cf:Nat)(hGl:Glos s Ag ng cg p.globals)(hFn:Fncs d0 s Af nf cf p.funcs)(f:Fnc)(P1 P2 P3:Option Addr)(p1 r1 p2 r2 p3 r3:Nat)(hP1:Strs s P1 p1 r1 f.params)(hP2:Strs s P2 p2 r2 f.locals)(hsz:f.params.length+f.locals.length≤100)(hPK:POK p)(A:Option Addr)(n c:Nat)(xs:List Stm)(hA:Stms d s A n c xs)(hO:∀ x∈xs,StOK p f x)(hN:qcC xs≤2000)(hnl:n≤100000):AC prog D 22 [.agg #[.slice Ag ng cg,.slice Af nf cf,St f.name,.slice P1 p1 r1,.slice P2 p2 r2,.slice P3 p3 r3],.slice A n c] L s fun v L' s'=>∃ M',L'=M'++L∧∀ s2,Le D s' s2→Pub M' s2→∃ A' n' c',v=.slice A' n' c'∧VsS p f d s2 A' n' c' xs:=by
 have hn1:=hA.1
 have hb1:=hA.2.1
 have hb2:=hA.2.2.1
 have hlim:n≤100000:=hnl
 refine qai (fn:=f22) qaq func22 V Z ntmps22 Z (rs:=[.tmp 4]) Z [(0,_),(1,_)] Z<|Sr<|qau Z Z ?_
 intro β1 s1 h1
 refine At Z Z<|Sr<|At Z Z<|Zs<|Sr<|Zqm Z Z<|Ws Y4<|Zqm Z Z<|Nt<|Zp<|?_
 refine qat (γ:=Nat×Value×Hl) (fun g=>[(2,_),(4,_),(5,g.2.1),(9,_),(10,_),(11,.int .i64 (g.1:Int))]) (fun g=>_::(g.2.2++L)) (fun g tw=>Le D s1 tw∧(g.1≤n∧∃ css,FL.Own 114 1 g.2.2 g.2.1 g.1 (List.flatten css)∧All2 (fun x cs=>cs.length=1∧VsR p f d tw x cs) (xs.take g.1) css)) (fun g=>n - g.1) (fun _ _ _ h hl=>⟨h.1.trans hl,(by obtain ⟨k1,css,k2,k3⟩:=h.2;exact ⟨k1,css,k2,k3.mono fun _ _ k=>⟨k.1,VsR.le hl k.2⟩⟩)⟩) (0,.slice none 0 0,[]) (.c6 Z Z Z Z Z Z (.nil _)) Z ⟨Le.refl _,⟨Nat.zero_le _,[],.nil,.nil⟩⟩ ?_
 intro g s2 I2
 obtain ⟨k,vk,Mk⟩:=g
 obtain ⟨hk0,css,hOk,hA2⟩:=I2.2
 simp only at hk0 hOk hA2
 dsimp only
 refine Sr<|qba Z Z Z<|Nt<|Zs<|?_
 refine qab Z (fun c3=>?_) (fun c3=>?_)
 ·
  have hk:k < n:=by omega
  obtain ⟨e,b,off,x,B1,m1,e1,B2,m2,e2,B3,m3,e3,hd,rfl,hx,hcx,hx1,hx2,hx3,_⟩:=Stms.at_ (hA.le (h1.t I2.1)) hk
  have hNx:=qfO hx
  have hxo:=hO x (List.mem_of_getElem? hx)
  refine Zk<|Zt<|Zs<|Zp<|Sr<|qaf (qap Z Z Z Z Z Z hk) Z<|qaf (qas Z Z Z (hcx.le (Lr D)) Z) Z<|qae Z [_,_,_,_,_] Z Z ?_
  intro β4 s4 h4
  refine Wt 0 [_,_,_,_,_] Y9<|Nt<|Sr<|qaf (qan 1 [_,_,_,_,_,_] Z Z Z Z Z) Z<|qaf (qan 0 [_,_,_,_,_] Z Z Z Z Z) Z<|Jc Z Z Z (ih e hd _ _ d0 p Ag Af ng cg nf cf (hGl.le (h1.t I2.1|>.t h4)) (hFn.le (h1.t I2.1|>.t h4)) f P1 P2 P3 p1 r1 p2 r2 p3 r3 (hP1.le (h1.t I2.1|>.t h4)) (hP2.le (h1.t I2.1|>.t h4)) hsz hPK x B1 m1 e1 B2 m2 e2 B3 m3 e3 (hx1.le h4) (hx2.le h4) (hx3.le h4) O O hxo) ?_
  rintro _ _ s5 h5 ⟨rfl,hvi⟩
  obtain ⟨kk,cap,hvf⟩:=hvi.func
  subst hvf
  refine qae Z [_] Z Z ?_
  intro β6 s6 h6
  refine Wt 0 [_] Y9<|Nt<|qbs [] [_,_] _ ?_
  intro s7 h7 hpub7
  simp only [cQ9,nQ9]
  have gbx:=hpub7 _ _ _ Mc
  refine Zr<|Zqm Z Z<|qaf (qbn Z) Z<|qbt [(_,_)] [_] Z Z Z Z Z Z Z Z Z ?_
  intro β8 s8 h8 hc8
  refine qbd (sz:=1) [_] Mk L Z Z Z Z Z Z Z hOk (Row.of_cells (hc8.le (Lr D)) Z Z) ⟨by simp [ti114];omega,by omega⟩ Z ?_
  intro v9 M9 s9 h9 oq
  simp only [cQ9,nQ9]
  refine Zqa Z Z<|Zn<|Zb<|Zt<|Zr<|qaG Z Z Z (w64 O O)<|Zqm Z Z<|Zn<|?_
  refine qaa ⟨(k+1,v9,M9),[],kp,Z,⟨(I2.1.t h4|>.t h5|>.t h6|>.t h7|>.t h8|>.t h9),⟨by simp only;omega,css++[[_]],by simp only [List.flatten_append,List.flatten_cons,List.flatten_nil,List.append_nil];exact oq,by simp only;rw [qaT hx];exact (hA2.mono fun _ _ k=>⟨k.1,VsR.le (h4.t h5|>.t h6|>.t h7|>.t h8|>.t h9) k.2⟩).snoc ⟨Z,hd▸⟨_,_,Z,gbx.le (h8.t h9),hvi.le (h6.t h7|>.t h8|>.t h9) (fun _ _ h=>VeR.le (h6.t h7|>.t h8|>.t h9) h) (fun _ _ h=>VsR.le (h6.t h7|>.t h8|>.t h9) h)⟩⟩⟩⟩,Oz⟩
 obtain rfl:n=k:=by omega
 rw [List.take_of_length_le O] at hA2
 obtain ⟨Ak,ck,rfl,_,_⟩:=Own.slice hOk
 refine Zl<|Zv<|Zv<|Zd<|Zt<|Sr<|Zqm Z Z<|At Z Z<|Zo<|?_
 refine rR [] _ (.t1 Z) Z (h1.t I2.1) fun _ hS2=>?_
 exact ⟨_::Mk,rfl,fun s2 hs2 hp=>⟨_,_,_,rfl,Own.rows hOk hp.tail (hA2.mono fun _ _ k=>⟨k.1,VsR.le ((Lr D).t (hS2.t hs2)) k.2⟩) hn1⟩⟩
theorem qkZ(D d:Nat)(ihB:TSR D d)(L:Hl)(s:World)(d0:Nat)(p:Prg)(Ag Af:Option Addr)(ng cg nf cf:Nat)(hGl:Glos s Ag ng cg p.globals)(hFn:Fncs d0 s Af nf cf p.funcs)(f:Fnc)(P1 P2 P3:Option Addr)(p1 r1 p2 r2 p3 r3:Nat)(hP1:Strs s P1 p1 r1 f.params)(hP2:Strs s P2 p2 r2 f.locals)(hsz:f.params.length+f.locals.length≤100)(hPK:POK p)(x:Stm)(A1:Option Addr)(n1 q1:Nat)(A2:Option Addr)(n2 q2:Nat)(A3:Option Addr)(n3 q3:Nat)(hA1:Exs d s A1 n1 q1 x.exprs)(hA2:Stms d s A2 n2 q2 x.body)(hA3:Stms d s A3 n3 q3 x.els)(hN2:qcC x.body≤2000)(hN3:qcC x.els≤2000)(hxo:StOK p f x):AC prog D 48 [.agg #[.slice Ag ng cg,.slice Af nf cf,St f.name,.slice P1 p1 r1,.slice P2 p2 r2,.slice P3 p3 r3],.agg #[.int .i64 x.kind,St x.name,.slice A1 n1 q1,.slice A2 n2 q2,.slice A3 n3 q3]] L s fun v L' s'=>∃ M',L'=M'++L∧∀ s2,Le D s' s2→Pub M' s2→ViS p f (VeR p f d) (VsR p f d) s2 x v:=by
 obtain ⟨lv,hlv⟩:=hxo.1
 obtain ⟨hk1,hk10,hle,hmo,_,_⟩:=qcU (qdc hlv).2.1
 have hn1:=hA1.1
 have hm6:=qp1 x.kind
 refine qai (fn:=f48) qaq func48 V Z ntmps48 Z (rs:=[.tmp 4]) Z [(0,_),(1,_)] Z<|Sr<|qau Z Z ?_
 intro β1 s1 h1
 refine qau Z Z ?_
 intro β2 s2 h2
 refine At Z Z<|Sr<|qaf (qan 1 [_,_,_,_,_,_] Z Z Z Z Z) Z<|Wb Y5<|Wl 0 Y6<|Jc Z Z Z (xsr D d _ _ d0 p Ag Af ng cg nf cf (hGl.le (h1.t h2)) (hFn.le (h1.t h2)) f P1 P2 P3 p1 r1 p2 r2 p3 r3 (hP1.le (h1.t h2)) (hP2.le (h1.t h2)) hsz hPK A1 n1 q1 x.exprs (hA1.le (h1.t h2)) hxo.exprs O) ?_
 rintro _ _ s3 h3 ⟨rfl,A',n',c',rfl,hV⟩
 have hn2:=hV.1
 refine qae Z [_] Z Z ?_
 intro β4 s4 h4
 refine Wt 0 [_] Y9<|Nt<|Zs<|Sr<|W0 Y5<|Wl 1 Y6<|Nt<|Zp<|Sr<|qax Z Z Z<|At Z Z<|?_
 refine qab Z (fun c5=>?_) (fun c5=>?_)
 ·
  have hkk:x.kind=1:=c5
  have h0n:0 < n':=by have h9:qcd x.kind=1:=(by rw [hkk];rfl);omega
  obtain ⟨B0,o0,b4,hAe0,hcE,hvE⟩:=VeS.at_ hV h0n
  subst hAe0
  refine Zs<|qay qag 8 Z _ (fun _ h=>h) ?_
  intro s6 h6
  refine za 0 Z (qan 2 [_,_,_,_,_,_] Z Z Z Z Z) Z<|za 1 Z (We Y4) Z<|za 2 Z (Wd 1 Y5) Z<|za 3 Z (Wd 0 Y5) Z<|za 4 Z (qaH Z Z Z Z Z Z h0n) Z<|za 5 Z (qaj Z Z Z (hcE.le (h4.t h6)) Z) Z<|qal 6 V<|Jb Z Tt Z Z Z (AC.pubW (qk9 D _ _ d0 p Ag Af ng cg nf cf (hGl.le (h1.t h2|>.t h3|>.t h4|>.t h6)) (hFn.le (h1.t h2|>.t h3|>.t h4|>.t h6)) f P1 P2 P3 p1 r1 p2 r2 p3 r3 (hP1.le (h1.t h2|>.t h3|>.t h4|>.t h6)) (hP2.le (h1.t h2|>.t h3|>.t h4|>.t h6)) hsz (VsR p f d) d b4 x hkk (ms1 hPK hxo hkk) (VeR.le (h4.t h6) hvE))) ?_
  rintro _ _ s7 h7 ⟨rfl,hW⟩
  refine ⟨fun _ _ h=>h,?_⟩
  refine za 7 Z (qaY Z) Z<|qad V<|Zt<|Zo<|Zc<|Zu<|?_
  refine rR [] _ (.t1 Z) Z (h1.t h2|>.t h3|>.t h4|>.t h6|>.t h7) fun _ hS2=>?_
  exact ⟨[_,_,_],rfl,fun s2 hs2 hp=>hW.le ((Lr D).t (hS2.t hs2)) (fun _ _ h=>VeR.le ((Lr D).t (hS2.t hs2)) h) fun _ _ h=>VsR.le ((Lr D).t (hS2.t hs2)) h⟩
 refine Sr<|qax Z Z Z<|At Z Z<|?_
 refine qab Z (fun c8=>?_) (fun c8=>?_)
 ·
  have hkk:x.kind=2:=c8
  obtain ⟨k,g,hg,hgp,g3⟩:=ms2 hPK hxo hkk
  have h1n:1 < n':=by have h9:qcd x.kind=2:=(by rw [hkk];rfl);omega
  refine Sr<|qaf (qan 2 [_,_,_,_,_,_] Z Z Z Z Z) Z<|Wb Y5<|Wl 1 Y6<|Jc Z Z Z (qe4 D _ _ d0 p Ag Af ng cg nf cf (hGl.le (h1.t h2|>.t h3|>.t h4)) (hFn.le (h1.t h2|>.t h3|>.t h4)) f P1 P2 P3 p1 r1 p2 r2 p3 r3 (hP1.le (h1.t h2|>.t h3|>.t h4)) (hP2.le (h1.t h2|>.t h3|>.t h4)) x.name) ?_
  rintro _ _ s9 h9 ⟨rfl,rfl⟩
  refine qae Z [_] Z Z ?_
  intro β10 s10 h10
  refine Wt 0 [_] Y9<|Nt<|Sr<|qaf (qbn Z) Z<|At Z Z<|Zo<|Zc<|Zu<|?_
  refine rR [] _ (.t1 Z) Z (h1.t h2|>.t h3|>.t h4|>.t h9|>.t h10) fun _ hS2=>?_
  exact ⟨[_,_,_,_],rfl,fun s2 hs2 hp=>.store _ _ k g _ _ _ hkk hg hgp g3 (by rw [← hg];exact (hp _ _ _ Mc)) (hp _ _ _ (List.mem_cons_of_mem _ Mc)) (hV.le (h4.t h9|>.t h10|>.t (hS2.t hs2))) h1n⟩
 refine Sr<|qax Z Z Z<|At Z Z<|?_
 refine qab Z (fun c11=>?_) (fun c11=>?_)
 ·
  have hkk:x.kind=3:=c11
  have h0n:0 < n':=by have h9:qcd x.kind=1:=(by rw [hkk];rfl);omega
  refine qho (γ:=Nat×Nat×Value×Value) (fun g=>[(7,.pointer (some ⟨g.1,0,none⟩)),(8,.pointer (some ⟨g.2.1,0,none⟩))]) (fun g=>[(g.1,cb [g.2.2.1] 60),(g.2.1,cb [g.2.2.2] 60)]) (fun g tw=>∃ B5 m5 e5 B6 m6 e6,g.2.2.1=.slice B5 m5 e5∧g.2.2.2=.slice B6 m6 e6∧VsS p f d tw B5 m5 e5 x.body∧VsS p f d tw B6 m6 e6 x.els) (fun _ _ _ h hl=>(by obtain ⟨a,b,c,d,e,f,h1,h2,h3,h4⟩:=h;exact ⟨a,b,c,d,e,f,h1,h2,h3.le hl,h4.le hl⟩)) ?_ ?_
  ·
   refine qay qag 12 Z _ (fun _ h=>h) ?_
   intro s13 h13
   refine za 0 Z (qan 2 [_,_,_,_,_,_] Z Z Z Z Z) Z<|za 1 Z (We Y4) Z<|za 2 Z (Wd 1 Y5) Z<|za 4 Z (qan 2 [_,_,_,_,_,_] Z Z Z Z Z) Z<|za 5 Z (We Y4) Z<|za 6 Z (Wd 1 Y5) Z ?_
   refine qlo 3 8 9 V ?_ ?_ ?_
   ·
    refine Jb Z Tt Z Z Z (ihB _ _ d0 p Ag Af ng cg nf cf (hGl.le (h1.t h2|>.t h3|>.t h4|>.t h13)) (hFn.le (h1.t h2|>.t h3|>.t h4|>.t h13)) f P1 P2 P3 p1 r1 p2 r2 p3 r3 (hP1.le (h1.t h2|>.t h3|>.t h4|>.t h13)) (hP2.le (h1.t h2|>.t h3|>.t h4|>.t h13)) hsz hPK A2 n2 q2 x.body (hA2.le (h1.t h2|>.t h3|>.t h4|>.t h13)) hxo.body O) ?_
    rintro _ _ s14 h14 ⟨rfl,B5,m5,e5,rfl,hB5⟩
    refine ⟨fun _ _ h=>h,?_⟩
    refine qlo 7 8 9 V ?_ ?_ ?_
    ·
     refine Jb Z Tt Z Z Z (ihB _ _ d0 p Ag Af ng cg nf cf (hGl.le (h1.t h2|>.t h3|>.t h4|>.t h13|>.t h14)) (hFn.le (h1.t h2|>.t h3|>.t h4|>.t h13|>.t h14)) f P1 P2 P3 p1 r1 p2 r2 p3 r3 (hP1.le (h1.t h2|>.t h3|>.t h4|>.t h13|>.t h14)) (hP2.le (h1.t h2|>.t h3|>.t h4|>.t h13|>.t h14)) hsz hPK A3 n3 q3 x.els (hA3.le (h1.t h2|>.t h3|>.t h4|>.t h13|>.t h14)) hxo.els O) ?_
     rintro _ _ s15 h15 ⟨rfl,B6,m6,e6,rfl,hB6⟩
     refine ⟨fun _ _ h=>h,?_⟩
     refine qb9 8 9 V ?_ ?_
     ·
      refine qao Z Tt Z [_] Z Z ?_
      intro β16 s16 h16
      refine qal 9 V<|qao Z Tt Z [_] Z Z ?_
      intro β17 s17 h17
      refine qal 10 V<|Wu Z Tt 1 [_] Y9 (sM (sbN (qfN (sbE _))))<|qal 11 V<|Wu Z Tt 0 [_] Y9 (sM (sbN (qfN (sbE _))))<|qad V ?_
      refine qaa (MidN.mk (β16,β17,_,_) [] (h13.t h14|>.t h15|>.t h16|>.t h17) (.c2 Z Z sk) (List.Perm.swap _ _ _) ⟨_,_,_,_,_,_,Z,Z,hB5.le (h15.t h16|>.t h17),hB6.le (h16.t h17)⟩)
     refine qao Z Tt Z [_] Z Z ?_
     intro β18 s18 h18
     refine qal 8 V<|qao Z Tt Z [_] Z Z ?_
     intro β19 s19 h19
     refine qal 10 V<|Wu Z Tt 0 [_] Y9 (sM (sbN (qfN (sbE _))))<|qal 11 V<|Wu Z Tt 1 [_] Y9 (sM (sbN (qfN (sbE _))))<|qad V ?_
     refine qaa (MidN.mk (β19,β18,_,_) [] (h13.t h14|>.t h15|>.t h18|>.t h19) (.c2 Z Z sk) Pr ⟨_,_,_,_,_,_,Z,Z,hB5.le (h15.t h18|>.t h19),hB6.le (h18.t h19)⟩)
    ·
     refine qao Z Tt Z [_] Z Z ?_
     intro β20 s20 h20
     refine qb9 7 9 V ?_ ?_
     ·
      refine Jb Z Tt Z Z Z (ihB _ _ d0 p Ag Af ng cg nf cf (hGl.le (h1.t h2|>.t h3|>.t h4|>.t h13|>.t h14|>.t h20)) (hFn.le (h1.t h2|>.t h3|>.t h4|>.t h13|>.t h14|>.t h20)) f P1 P2 P3 p1 r1 p2 r2 p3 r3 (hP1.le (h1.t h2|>.t h3|>.t h4|>.t h13|>.t h14|>.t h20)) (hP2.le (h1.t h2|>.t h3|>.t h4|>.t h13|>.t h14|>.t h20)) hsz hPK A3 n3 q3 x.els (hA3.le (h1.t h2|>.t h3|>.t h4|>.t h13|>.t h14|>.t h20)) hxo.els O) ?_
      rintro _ _ s21 h21 ⟨rfl,B6,m6,e6,rfl,hB6⟩
      refine ⟨fun _ _ h=>h,?_⟩
      refine qal 9 V<|qao Z Tt Z [_] Z Z ?_
      intro β22 s22 h22
      refine qal 10 V<|Wu Z Tt 1 [_] Y9 (sM (sbN (qfN (sbE _))))<|qal 11 V<|Wu Z Tt 0 [_] Y9 (sM (sbN (qfN (sbE _))))<|qad V ?_
      refine qaa (MidN.mk (β20,β22,_,_) [] (h13.t h14|>.t h20|>.t h21|>.t h22) (.c2 Z Z sk) (List.Perm.swap _ _ _) ⟨_,_,_,_,_,_,Z,Z,hB5.le (h20.t h21|>.t h22),hB6.le h22⟩)
     refine qao Z Tt Z [_] Z Z ?_
     intro β23 s23 h23
     refine qal 7 V<|Jb Z Tt Z Z Z (ihB _ _ d0 p Ag Af ng cg nf cf (hGl.le (h1.t h2|>.t h3|>.t h4|>.t h13|>.t h14|>.t h20|>.t h23)) (hFn.le (h1.t h2|>.t h3|>.t h4|>.t h13|>.t h14|>.t h20|>.t h23)) f P1 P2 P3 p1 r1 p2 r2 p3 r3 (hP1.le (h1.t h2|>.t h3|>.t h4|>.t h13|>.t h14|>.t h20|>.t h23)) (hP2.le (h1.t h2|>.t h3|>.t h4|>.t h13|>.t h14|>.t h20|>.t h23)) hsz hPK A3 n3 q3 x.els (hA3.le (h1.t h2|>.t h3|>.t h4|>.t h13|>.t h14|>.t h20|>.t h23)) hxo.els O) ?_
     rintro _ _ s24 h24 ⟨rfl,B6,m6,e6,rfl,hB6⟩
     refine ⟨fun _ _ h=>h,?_⟩
     refine qal 10 V<|Wu Z Tt 1 [_] Y9 (sM (sbN (qfN (sbE _))))<|qal 11 V<|Wu Z Tt 0 [_] Y9 (sM (sbN (qfN (sbE _))))<|qad V ?_
     refine qaa (MidN.mk (β20,β23,_,_) [] (h13.t h14|>.t h20|>.t h23|>.t h24) (.c2 Z Z sk) (List.Perm.swap _ _ _) ⟨_,_,_,_,_,_,Z,Z,hB5.le (h20.t h23|>.t h24),hB6.le (Lr D)⟩)
    refine qao Z Tt Z [_] Z Z ?_
    intro β25 s25 h25
    refine qb9 7 8 V ?_ ?_
    ·
     refine Jb Z Tt Z Z Z (ihB _ _ d0 p Ag Af ng cg nf cf (hGl.le (h1.t h2|>.t h3|>.t h4|>.t h13|>.t h14|>.t h25)) (hFn.le (h1.t h2|>.t h3|>.t h4|>.t h13|>.t h14|>.t h25)) f P1 P2 P3 p1 r1 p2 r2 p3 r3 (hP1.le (h1.t h2|>.t h3|>.t h4|>.t h13|>.t h14|>.t h25)) (hP2.le (h1.t h2|>.t h3|>.t h4|>.t h13|>.t h14|>.t h25)) hsz hPK A3 n3 q3 x.els (hA3.le (h1.t h2|>.t h3|>.t h4|>.t h13|>.t h14|>.t h25)) hxo.els O) ?_
     rintro _ _ s26 h26 ⟨rfl,B6,m6,e6,rfl,hB6⟩
     refine ⟨fun _ _ h=>h,?_⟩
     refine qal 8 V<|qao Z Tt Z [_] Z Z ?_
     intro β27 s27 h27
     refine qal 10 V<|Wu Z Tt 0 [_] Y9 (sM (sbN (qfN (sbE _))))<|qal 11 V<|Wu Z Tt 1 [_] Y9 (sM (sbN (qfN (sbE _))))<|qad V ?_
     refine qaa (MidN.mk (β27,β25,_,_) [] (h13.t h14|>.t h25|>.t h26|>.t h27) (.c2 Z Z sk) Pr ⟨_,_,_,_,_,_,Z,Z,hB5.le (h25.t h26|>.t h27),hB6.le h27⟩)
    refine qao Z Tt Z [_] Z Z ?_
    intro β28 s28 h28
    refine qal 7 V<|Jb Z Tt Z Z Z (ihB _ _ d0 p Ag Af ng cg nf cf (hGl.le (h1.t h2|>.t h3|>.t h4|>.t h13|>.t h14|>.t h25|>.t h28)) (hFn.le (h1.t h2|>.t h3|>.t h4|>.t h13|>.t h14|>.t h25|>.t h28)) f P1 P2 P3 p1 r1 p2 r2 p3 r3 (hP1.le (h1.t h2|>.t h3|>.t h4|>.t h13|>.t h14|>.t h25|>.t h28)) (hP2.le (h1.t h2|>.t h3|>.t h4|>.t h13|>.t h14|>.t h25|>.t h28)) hsz hPK A3 n3 q3 x.els (hA3.le (h1.t h2|>.t h3|>.t h4|>.t h13|>.t h14|>.t h25|>.t h28)) hxo.els O) ?_
    rintro _ _ s29 h29 ⟨rfl,B6,m6,e6,rfl,hB6⟩
    refine ⟨fun _ _ h=>h,?_⟩
    refine qal 10 V<|Wu Z Tt 0 [_] Y9 (sM (sbN (qfN (sbE _))))<|qal 11 V<|Wu Z Tt 1 [_] Y9 (sM (sbN (qfN (sbE _))))<|qad V ?_
    refine qaa (MidN.mk (β28,β25,_,_) [] (h13.t h14|>.t h25|>.t h28|>.t h29) (.c2 Z Z sk) Pr ⟨_,_,_,_,_,_,Z,Z,hB5.le (h25.t h28|>.t h29),hB6.le (Lr D)⟩)
   ·
    refine qao Z Tt Z [_] Z Z ?_
    intro β30 s30 h30
    refine qb9 3 9 V ?_ ?_
    ·
     refine Jb Z Tt Z Z Z (ihB _ _ d0 p Ag Af ng cg nf cf (hGl.le (h1.t h2|>.t h3|>.t h4|>.t h13|>.t h30)) (hFn.le (h1.t h2|>.t h3|>.t h4|>.t h13|>.t h30)) f P1 P2 P3 p1 r1 p2 r2 p3 r3 (hP1.le (h1.t h2|>.t h3|>.t h4|>.t h13|>.t h30)) (hP2.le (h1.t h2|>.t h3|>.t h4|>.t h13|>.t h30)) hsz hPK A2 n2 q2 x.body (hA2.le (h1.t h2|>.t h3|>.t h4|>.t h13|>.t h30)) hxo.body O) ?_
     rintro _ _ s31 h31 ⟨rfl,B5,m5,e5,rfl,hB5⟩
     refine ⟨fun _ _ h=>h,?_⟩
     refine qb9 7 9 V ?_ ?_
     ·
      refine Jb Z Tt Z Z Z (ihB _ _ d0 p Ag Af ng cg nf cf (hGl.le (h1.t h2|>.t h3|>.t h4|>.t h13|>.t h30|>.t h31)) (hFn.le (h1.t h2|>.t h3|>.t h4|>.t h13|>.t h30|>.t h31)) f P1 P2 P3 p1 r1 p2 r2 p3 r3 (hP1.le (h1.t h2|>.t h3|>.t h4|>.t h13|>.t h30|>.t h31)) (hP2.le (h1.t h2|>.t h3|>.t h4|>.t h13|>.t h30|>.t h31)) hsz hPK A3 n3 q3 x.els (hA3.le (h1.t h2|>.t h3|>.t h4|>.t h13|>.t h30|>.t h31)) hxo.els O) ?_
      rintro _ _ s32 h32 ⟨rfl,B6,m6,e6,rfl,hB6⟩
      refine ⟨fun _ _ h=>h,?_⟩
      refine qal 9 V<|qao Z Tt Z [_] Z Z ?_
      intro β33 s33 h33
      refine qal 10 V<|Wu Z Tt 1 [_] Y9 (sM (sbN (qfN (sbE _))))<|qal 11 V<|Wu Z Tt 0 [_] Y9 (sM (sbN (qfN (sbE _))))<|qad V ?_
      refine qaa (MidN.mk (β30,β33,_,_) [] (h13.t h30|>.t h31|>.t h32|>.t h33) (.c2 Z Z sk) (List.Perm.swap _ _ _) ⟨_,_,_,_,_,_,Z,Z,hB5.le (h32.t h33),hB6.le h33⟩)
     refine qao Z Tt Z [_] Z Z ?_
     intro β34 s34 h34
     refine qal 7 V<|Jb Z Tt Z Z Z (ihB _ _ d0 p Ag Af ng cg nf cf (hGl.le (h1.t h2|>.t h3|>.t h4|>.t h13|>.t h30|>.t h31|>.t h34)) (hFn.le (h1.t h2|>.t h3|>.t h4|>.t h13|>.t h30|>.t h31|>.t h34)) f P1 P2 P3 p1 r1 p2 r2 p3 r3 (hP1.le (h1.t h2|>.t h3|>.t h4|>.t h13|>.t h30|>.t h31|>.t h34)) (hP2.le (h1.t h2|>.t h3|>.t h4|>.t h13|>.t h30|>.t h31|>.t h34)) hsz hPK A3 n3 q3 x.els (hA3.le (h1.t h2|>.t h3|>.t h4|>.t h13|>.t h30|>.t h31|>.t h34)) hxo.els O) ?_
     rintro _ _ s35 h35 ⟨rfl,B6,m6,e6,rfl,hB6⟩
     refine ⟨fun _ _ h=>h,?_⟩
     refine qal 10 V<|Wu Z Tt 1 [_] Y9 (sM (sbN (qfN (sbE _))))<|qal 11 V<|Wu Z Tt 0 [_] Y9 (sM (sbN (qfN (sbE _))))<|qad V ?_
     refine qaa (MidN.mk (β30,β34,_,_) [] (h13.t h30|>.t h31|>.t h34|>.t h35) (.c2 Z Z sk) (List.Perm.swap _ _ _) ⟨_,_,_,_,_,_,Z,Z,hB5.le (h34.t h35),hB6.le (Lr D)⟩)
    refine qao Z Tt Z [_] Z Z ?_
    intro β36 s36 h36
    refine qal 3 V<|Jb Z Tt Z Z Z (ihB _ _ d0 p Ag Af ng cg nf cf (hGl.le (h1.t h2|>.t h3|>.t h4|>.t h13|>.t h30|>.t h36)) (hFn.le (h1.t h2|>.t h3|>.t h4|>.t h13|>.t h30|>.t h36)) f P1 P2 P3 p1 r1 p2 r2 p3 r3 (hP1.le (h1.t h2|>.t h3|>.t h4|>.t h13|>.t h30|>.t h36)) (hP2.le (h1.t h2|>.t h3|>.t h4|>.t h13|>.t h30|>.t h36)) hsz hPK A2 n2 q2 x.body (hA2.le (h1.t h2|>.t h3|>.t h4|>.t h13|>.t h30|>.t h36)) hxo.body O) ?_
    rintro _ _ s37 h37 ⟨rfl,B5,m5,e5,rfl,hB5⟩
    refine ⟨fun _ _ h=>h,?_⟩
    refine qal 7 V<|Jb Z Tt Z Z Z (ihB _ _ d0 p Ag Af ng cg nf cf (hGl.le (h1.t h2|>.t h3|>.t h4|>.t h13|>.t h30|>.t h36|>.t h37)) (hFn.le (h1.t h2|>.t h3|>.t h4|>.t h13|>.t h30|>.t h36|>.t h37)) f P1 P2 P3 p1 r1 p2 r2 p3 r3 (hP1.le (h1.t h2|>.t h3|>.t h4|>.t h13|>.t h30|>.t h36|>.t h37)) (hP2.le (h1.t h2|>.t h3|>.t h4|>.t h13|>.t h30|>.t h36|>.t h37)) hsz hPK A3 n3 q3 x.els (hA3.le (h1.t h2|>.t h3|>.t h4|>.t h13|>.t h30|>.t h36|>.t h37)) hxo.els O) ?_
    rintro _ _ s38 h38 ⟨rfl,B6,m6,e6,rfl,hB6⟩
    refine ⟨fun _ _ h=>h,?_⟩
    refine qal 10 V<|Wu Z Tt 1 [_] Y9 (sM (sbN (qfN (sbE _))))<|qal 11 V<|Wu Z Tt 0 [_] Y9 (sM (sbN (qfN (sbE _))))<|qad V ?_
    refine qaa (MidN.mk (β30,β36,_,_) [] (h13.t h30|>.t h36|>.t h37|>.t h38) (.c2 Z Z sk) (List.Perm.swap _ _ _) ⟨_,_,_,_,_,_,Z,Z,hB5.le h38,hB6.le (Lr D)⟩)
   refine qao Z Tt Z [_] Z Z ?_
   intro β39 s39 h39
   refine qb9 3 8 V ?_ ?_
   ·
    refine Jb Z Tt Z Z Z (ihB _ _ d0 p Ag Af ng cg nf cf (hGl.le (h1.t h2|>.t h3|>.t h4|>.t h13|>.t h39)) (hFn.le (h1.t h2|>.t h3|>.t h4|>.t h13|>.t h39)) f P1 P2 P3 p1 r1 p2 r2 p3 r3 (hP1.le (h1.t h2|>.t h3|>.t h4|>.t h13|>.t h39)) (hP2.le (h1.t h2|>.t h3|>.t h4|>.t h13|>.t h39)) hsz hPK A2 n2 q2 x.body (hA2.le (h1.t h2|>.t h3|>.t h4|>.t h13|>.t h39)) hxo.body O) ?_
    rintro _ _ s40 h40 ⟨rfl,B5,m5,e5,rfl,hB5⟩
    refine ⟨fun _ _ h=>h,?_⟩
    refine qb9 7 8 V ?_ ?_
    ·
     refine Jb Z Tt Z Z Z (ihB _ _ d0 p Ag Af ng cg nf cf (hGl.le (h1.t h2|>.t h3|>.t h4|>.t h13|>.t h39|>.t h40)) (hFn.le (h1.t h2|>.t h3|>.t h4|>.t h13|>.t h39|>.t h40)) f P1 P2 P3 p1 r1 p2 r2 p3 r3 (hP1.le (h1.t h2|>.t h3|>.t h4|>.t h13|>.t h39|>.t h40)) (hP2.le (h1.t h2|>.t h3|>.t h4|>.t h13|>.t h39|>.t h40)) hsz hPK A3 n3 q3 x.els (hA3.le (h1.t h2|>.t h3|>.t h4|>.t h13|>.t h39|>.t h40)) hxo.els O) ?_
     rintro _ _ s41 h41 ⟨rfl,B6,m6,e6,rfl,hB6⟩
     refine ⟨fun _ _ h=>h,?_⟩
     refine qal 8 V<|qao Z Tt Z [_] Z Z ?_
     intro β42 s42 h42
     refine qal 10 V<|Wu Z Tt 0 [_] Y9 (sM (sbN (qfN (sbE _))))<|qal 11 V<|Wu Z Tt 1 [_] Y9 (sM (sbN (qfN (sbE _))))<|qad V ?_
     refine qaa (MidN.mk (β42,β39,_,_) [] (h13.t h39|>.t h40|>.t h41|>.t h42) (.c2 Z Z sk) Pr ⟨_,_,_,_,_,_,Z,Z,hB5.le (h41.t h42),hB6.le h42⟩)
    refine qao Z Tt Z [_] Z Z ?_
    intro β43 s43 h43
    refine qal 7 V<|Jb Z Tt Z Z Z (ihB _ _ d0 p Ag Af ng cg nf cf (hGl.le (h1.t h2|>.t h3|>.t h4|>.t h13|>.t h39|>.t h40|>.t h43)) (hFn.le (h1.t h2|>.t h3|>.t h4|>.t h13|>.t h39|>.t h40|>.t h43)) f P1 P2 P3 p1 r1 p2 r2 p3 r3 (hP1.le (h1.t h2|>.t h3|>.t h4|>.t h13|>.t h39|>.t h40|>.t h43)) (hP2.le (h1.t h2|>.t h3|>.t h4|>.t h13|>.t h39|>.t h40|>.t h43)) hsz hPK A3 n3 q3 x.els (hA3.le (h1.t h2|>.t h3|>.t h4|>.t h13|>.t h39|>.t h40|>.t h43)) hxo.els O) ?_
    rintro _ _ s44 h44 ⟨rfl,B6,m6,e6,rfl,hB6⟩
    refine ⟨fun _ _ h=>h,?_⟩
    refine qal 10 V<|Wu Z Tt 0 [_] Y9 (sM (sbN (qfN (sbE _))))<|qal 11 V<|Wu Z Tt 1 [_] Y9 (sM (sbN (qfN (sbE _))))<|qad V ?_
    refine qaa (MidN.mk (β43,β39,_,_) [] (h13.t h39|>.t h40|>.t h43|>.t h44) (.c2 Z Z sk) Pr ⟨_,_,_,_,_,_,Z,Z,hB5.le (h43.t h44),hB6.le (Lr D)⟩)
   refine qao Z Tt Z [_] Z Z ?_
   intro β45 s45 h45
   refine qal 3 V<|Jb Z Tt Z Z Z (ihB _ _ d0 p Ag Af ng cg nf cf (hGl.le (h1.t h2|>.t h3|>.t h4|>.t h13|>.t h39|>.t h45)) (hFn.le (h1.t h2|>.t h3|>.t h4|>.t h13|>.t h39|>.t h45)) f P1 P2 P3 p1 r1 p2 r2 p3 r3 (hP1.le (h1.t h2|>.t h3|>.t h4|>.t h13|>.t h39|>.t h45)) (hP2.le (h1.t h2|>.t h3|>.t h4|>.t h13|>.t h39|>.t h45)) hsz hPK A2 n2 q2 x.body (hA2.le (h1.t h2|>.t h3|>.t h4|>.t h13|>.t h39|>.t h45)) hxo.body O) ?_
   rintro _ _ s46 h46 ⟨rfl,B5,m5,e5,rfl,hB5⟩
   refine ⟨fun _ _ h=>h,?_⟩
   refine qal 7 V<|Jb Z Tt Z Z Z (ihB _ _ d0 p Ag Af ng cg nf cf (hGl.le (h1.t h2|>.t h3|>.t h4|>.t h13|>.t h39|>.t h45|>.t h46)) (hFn.le (h1.t h2|>.t h3|>.t h4|>.t h13|>.t h39|>.t h45|>.t h46)) f P1 P2 P3 p1 r1 p2 r2 p3 r3 (hP1.le (h1.t h2|>.t h3|>.t h4|>.t h13|>.t h39|>.t h45|>.t h46)) (hP2.le (h1.t h2|>.t h3|>.t h4|>.t h13|>.t h39|>.t h45|>.t h46)) hsz hPK A3 n3 q3 x.els (hA3.le (h1.t h2|>.t h3|>.t h4|>.t h13|>.t h39|>.t h45|>.t h46)) hxo.els O) ?_
   rintro _ _ s47 h47 ⟨rfl,B6,m6,e6,rfl,hB6⟩
   refine ⟨fun _ _ h=>h,?_⟩
   refine qal 10 V<|Wu Z Tt 0 [_] Y9 (sM (sbN (qfN (sbE _))))<|qal 11 V<|Wu Z Tt 1 [_] Y9 (sM (sbN (qfN (sbE _))))<|qad V ?_
   refine qaa (MidN.mk (β45,β39,_,_) [] (h13.t h39|>.t h45|>.t h46|>.t h47) (.c2 Z Z sk) Pr ⟨_,_,_,_,_,_,Z,Z,hB5.le h47,hB6.le (Lr D)⟩)
  intro g s12 h12 I12
  simp only [cQ9,nQ9]
  obtain ⟨b7,b8,v5,v6⟩:=g
  obtain ⟨B5,m5,e5,B6,m6,e6,h95,h96,hB5,hB6⟩:=I12
  simp only at h95 h96
  subst h95
  subst h96
  dsimp only
  refine Sr<|qaf (qbn Z) Z<|At Z Z<|Zo<|Zc<|Zu<|?_
  refine rR [] _ (.t1 Z) Z (h1.t h2|>.t h3|>.t h4|>.t h12) fun _ hS2=>?_
  exact ⟨[_,_,_,_,_],rfl,fun s2 hs2 hp=>.cond _ _ _ _ _ _ _ _ _ _ _ _ hkk (hp _ _ _ (List.mem_cons_of_mem _ (List.mem_cons_of_mem _ Mc))) (hp _ _ _ Mc) (hp _ _ _ (List.mem_cons_of_mem _ Mc)) (hV.le (h4.t h12|>.t (hS2.t hs2))) h0n (hB5.le ((Lr D).t (hS2.t hs2))) (hB6.le ((Lr D).t (hS2.t hs2)))⟩
 refine Sr<|qax Z Z Z<|At Z Z<|?_
 refine qab Z (fun c48=>?_) (fun c48=>?_)
 ·
  have hkk:x.kind=4:=c48
  have h0n:0 < n':=by have h9:qcd x.kind=1:=(by rw [hkk];rfl);omega
  refine Sr<|qaf (qan 2 [_,_,_,_,_,_] Z Z Z Z Z) Z<|Wb Y5<|Wl 1 Y6<|Jc Z Z Z (ihB _ _ d0 p Ag Af ng cg nf cf (hGl.le (h1.t h2|>.t h3|>.t h4)) (hFn.le (h1.t h2|>.t h3|>.t h4)) f P1 P2 P3 p1 r1 p2 r2 p3 r3 (hP1.le (h1.t h2|>.t h3|>.t h4)) (hP2.le (h1.t h2|>.t h3|>.t h4)) hsz hPK A2 n2 q2 x.body (hA2.le (h1.t h2|>.t h3|>.t h4)) hxo.body O) ?_
  rintro _ _ s49 h49 ⟨rfl,B5,m5,e5,rfl,hB5⟩
  refine qae Z [_] Z Z ?_
  intro β50 s50 h50
  refine Wt 0 [_] Y9<|Nt<|Sr<|qaf (qbn Z) Z<|At Z Z<|Zo<|Zc<|Zu<|?_
  refine rR [] _ (.t1 Z) Z (h1.t h2|>.t h3|>.t h4|>.t h49|>.t h50) fun _ hS2=>?_
  exact ⟨[_,_,_,_],rfl,fun s2 hs2 hp=>.loop _ _ _ _ _ _ _ _ hkk (hp _ _ _ (List.mem_cons_of_mem _ Mc)) (hp _ _ _ Mc) (hV.le (h4.t h49|>.t h50|>.t (hS2.t hs2))) h0n (hB5.le (h50.t (hS2.t hs2)))⟩
 refine Sr<|qax Z Z Z<|At Z Z<|?_
 refine qab Z (fun c51=>?_) (fun c51=>?_)
 ·
  have hkk:x.kind=5:=c51
  obtain ⟨k,fk,hg,hpk,hl⟩:=ms5 hPK hxo hkk
  refine Sr<|qaf (qan 2 [_,_,_,_,_,_] Z Z Z Z Z) Z<|Wb Y5<|Wl 1 Y6<|Wl 0 Y6<|Jc Z Z Z (AC.pubW (qiN D _ _ d0 p Ag Af ng cg nf cf (hGl.le (h1.t h2|>.t h3|>.t h4)) (hFn.le (h1.t h2|>.t h3|>.t h4)) f P1 P2 P3 p1 r1 p2 r2 p3 r3 (hP1.le (h1.t h2|>.t h3|>.t h4)) (hP2.le (h1.t h2|>.t h3|>.t h4)) d x.name x.exprs A' n' c' k fk (hV.le h4) hg hpk hl)) ?_
  rintro _ _ s52 h52 ⟨rfl,hW⟩
  obtain ⟨be,bi,A9,n9,c9,k9,fk9,hvf,hW⟩:=hW
  subst hvf
  have hW:CallV p (VeR p f d) s52 x.name x.exprs _:=⟨be,bi,A9,n9,c9,k9,fk9,rfl,hW⟩
  refine qae Z [_] Z Z ?_
  intro β53 s53 h53
  refine Wt 0 [_] Y9<|Nt<|Sr<|qaf (qbn Z) Z<|At Z Z<|Zo<|Zc<|Zu<|?_
  refine rR [] _ (.t1 Z) Z (h1.t h2|>.t h3|>.t h4|>.t h52|>.t h53) fun _ hS2=>?_
  exact ⟨[_,_,_,_],rfl,fun s2 hs2 hp=>.call _ _ hkk (hp _ _ _ Mc) (hW.le (h53.t (hS2.t hs2)) fun _ _ h=>VeR.le (h53.t (hS2.t hs2)) h)⟩
 refine Sr<|qax Z Z Z<|At Z Z<|?_
 refine qab Z (fun c54=>?_) (fun c54=>?_)
 ·
  have hkk:x.kind=6:=c54
  have h0n:0 < n':=by have h9:qcd x.kind=1:=(by rw [hkk];rfl);omega
  refine Sr<|qaf (qbn Z) Z<|At Z Z<|Zo<|Zc<|Zu<|?_
  refine rR [] _ (.t1 Z) Z (h1.t h2|>.t h3|>.t h4) fun _ hS2=>?_
  exact ⟨[_,_,_],rfl,fun s2 hs2 hp=>.ret _ _ _ _ hkk (hp _ _ _ Mc) (hV.le (h4.t (hS2.t hs2))) h0n⟩
 refine Sr<|qax Z Z Z<|At Z Z<|?_
 refine qab Z (fun c55=>?_) (fun c55=>?_)
 ·
  have hkk:x.kind=7:=c55
  have h0n:0 < n':=by have h9:qcd x.kind=1:=(by rw [hkk];rfl);omega
  refine Sr<|qaf (qbn Z) Z<|At Z Z<|Zo<|Zc<|Zu<|?_
  refine rR [] _ (.t1 Z) Z (h1.t h2|>.t h3|>.t h4) fun _ hS2=>?_
  exact ⟨[_,_,_],rfl,fun s2 hs2 hp=>.put _ _ _ _ hkk (hp _ _ _ Mc) (hV.le (h4.t (hS2.t hs2))) h0n⟩
 refine Sr<|qax Z Z Z<|At Z Z<|?_
 refine qab Z (fun c56=>?_) (fun c56=>?_)
 ·
  have hkk:x.kind=8:=c56
  have h0n:0 < n':=by have h9:qcd x.kind=1:=(by rw [hkk];rfl);omega
  refine Sr<|qaf (qbn Z) Z<|At Z Z<|Zo<|Zc<|Zu<|?_
  refine rR [] _ (.t1 Z) Z (h1.t h2|>.t h3|>.t h4) fun _ hS2=>?_
  exact ⟨[_,_,_],rfl,fun s2 hs2 hp=>.stop _ _ _ _ hkk (hp _ _ _ Mc) (hV.le (h4.t (hS2.t hs2))) h0n⟩
 refine Sr<|qax Z Z Z<|At Z Z<|?_
 refine qab Z (fun c57=>?_) (fun c57=>?_)
 ·
  have hkk:x.kind=9:=c57
  refine Sr<|At Z Z<|Zo<|Zc<|Zu<|?_
  refine rR [] _ (.t1 Z) Z (h1.t h2|>.t h3|>.t h4) fun _ hS2=>?_
  exact ⟨[_,_,_],rfl,fun s2 hs2 hp=>.brk hkk⟩
 have hkk:x.kind=10:=by omega
 refine Zk<|Zb<|Zt<|Sr<|At Z Z<|Zo<|?_
 refine rR [] _ (.t1 Z) Z (h1.t h2|>.t h3|>.t h4) fun _ hS2=>?_
 exact ⟨[_,_,_],rfl,fun s2 hs2 hp=>.cont hkk⟩
theorem tsr(D:Nat):∀ d,TSR D d
 | 0=>fun L s d0 p Ag Af ng cg nf cf hGl hFn f P1 P2 P3 p1 r1 p2 r2 p3 r3 hP1 hP2 hsz hPK A n c xs hA hO hN=>AC.pubW (qg4 D 0 (fun e h=>by omega) L s d0 p Ag Af ng cg nf cf hGl hFn f P1 P2 P3 p1 r1 p2 r2 p3 r3 hP1 hP2 hsz hPK A n c xs hA hO hN (by have:=hA.1;have:=qfR xs;omega))
 | d+1=>fun L s d0 p Ag Af ng cg nf cf hGl hFn f P1 P2 P3 p1 r1 p2 r2 p3 r3 hP1 hP2 hsz hPK A n c xs hA hO hN=>AC.pubW (qg4 D (d+1) (fun e h=>(show d=e by omega)▸fun L s d0 p Ag Af ng cg nf cf hGl hFn f P1 P2 P3 p1 r1 p2 r2 p3 r3 hP1 hP2 hsz hPK x A1 n1 c1 A2 n2 c2 A3 n3 c3 h1 h2 h3 hN2 hN3 hx=>AC.pubW (qkZ D d (tsr D d) L s d0 p Ag Af ng cg nf cf hGl hFn f P1 P2 P3 p1 r1 p2 r2 p3 r3 hP1 hP2 hsz hPK x A1 n1 c1 A2 n2 c2 A3 n3 c3 h1 h2 h3 hN2 hN3 hx)) L s d0 p Ag Af ng cg nf cf hGl hFn f P1 P2 P3 p1 r1 p2 r2 p3 r3 hP1 hP2 hsz hPK A n c xs hA hO hN (by have:=hA.1;have:=qfR xs;omega))
end Go.Proofs.YtpdnijphccdiiaaGreatDoor
namespace Go.FL
open Go Go.RowKit
section
variable{P:Program}{TT:qaV}{D n:Nat}{ro:Option Nat}{Q:qdE}{ds:List Deferred}{fr:Fr}{L:Hl}{s s0:World}{ops:Array Oper}{rest:List Oper}{d ty:Nat}{pos:String}{af:Array Edge}{v:Value}
theorem qjK{f:FuncId}{x:Operand}{xs:List Operand}{first captured vs:List Value}{ts:Array TypeId}{R:Value→Hl→World→Prop}{X:List PanicEntry→Hl→World→Prop}(hx:lk fr x=some (.func (.func f) first.toArray captured.toArray))(hv:lks fr xs=some vs)
  (hd:Nat.blt d n=true) (h:AP P D f (first++vs++captured) L s R X) (kx:∀ ch L' s',Le D s s'→X ch L' s'→Q (.panic ch) ds fr L' s') (k:∀ v L' s',Le D s s'→R v L' s'→RO P TT D n ro ops Q rest ds ((d,v)::fr) L' s') :
  RO P TT D n ro ops Q (⟨some d,.call { callee:=.value x,args:=xs.toArray,argTypes:=ts },ty,pos,af,none⟩::rest) ds fr L s:=fun hT a hr ho=>by
 obtain ⟨⟨fn,h1,h2,h3⟩,hc⟩:=h
 have hρ:∀ x v,lk fr x=some v→a.eval x=v:=fun x v hx=>hr.ev hx
 simp only [wpListIn,Region.wanted,if_true]
 refine ⟨fun f _=>qfy ro f,?_⟩
 have hrun:(execOp a.eval ⟨some d,.call { callee:=.value x,args:=xs.toArray,argTypes:=ts },ty,pos,af,none⟩).run P (fill L s)=.ok (.enter f (first++vs++captured).toArray) (fill L s):=by
  have h2':¬ fn.name = "runtime.NumGoroutine" := by simpa using h2
  have h3':¬ fn.body=none:=by intro e;simp [e] at h3
  simp [execOp,resolve,Deferred.ofValue,invoke,callFunc,hρ x _ hx,qd0 hρ hv,h1,h2',h3']
 rw [Oper.semAt_eq _ _ _ (by nofun),hrun,Oper.uponIn_enter]
 refine ⟨qe2 ro 0,(qgj ro _ (hc ho)).mono ?_⟩
 rintro e w' ⟨L',s',rfl,h4,h5,h6⟩
 rcases h6 with ⟨v,rfl,h6⟩ | ⟨ch,rfl,h6⟩
 · exact k v L' s' h5 h6 hT _ (hr.put hd v) h4
 · exact ⟨ds,fr,L',s',hr,h4,rfl,kx _ _ _ h5 h6⟩
theorem qnM{f:FuncId}{x:Operand}{first captured:List Value}{ts:Array TypeId}(hx:lk fr x=some (.func (.func f) first.toArray captured.toArray))
  (k:RO P TT D n none ops Q rest ({ target:=.fn (.func f) captured.toArray,args:=first.toArray }::ds) fr L s) :
  RO P TT D n none ops Q (⟨none,.defer { callee:=.value x,args:=#[],argTypes:=ts },ty,pos,af,none⟩::rest) ds fr L s:=fun hT a hr ho=>by
 simp only [wpListIn,Region.wanted,if_true]
 refine ⟨fun f _=>qfy none f,?_⟩
 have hrun:(execOp a.eval ⟨none,.defer { callee:=.value x,args:=#[],argTypes:=ts },ty,pos,af,none⟩).run P (fill L s)=.ok (.defer { target:=.fn (.func f) captured.toArray,args:=first.toArray }) (fill L s):=by
  simp [execOp,resolve,Deferred.ofValue,hr.ev hx]
 rw [show (fro none).round=none from rfl,Oper.semAt_none,hrun,Oper.uponIn_defer]
 refine k hT _ ⟨?_,?_⟩ ho
 · exact hr.rel
 · show _::a.defers=_;rw [hr.defers]
def DC(P:Program)(D:Nat)(d:Deferred)(u:FrameMode)(L:Hl)(s:World)(K:Hl→World→Prop):Prop:=
 OKL D L s→∃ fv cap f args,d.target=.fn fv cap∧(invoke d.target d.args).run P (fill L s)=.ok (.enter f args) (fill L s)∧CallsD P f args u (fill L s) fun e u' w'=>∃ v,e=.returned v∧settle u'=.returning∧∃ L1 s1,w'=fill L1 s1∧OKL D L1 s1∧K L1 s1
def qsy(TT:qaV)(D:Nat)(rs:List ResultVar)(s0:World)(R:Value→Hl→World→Prop)(fr:Fr)(L:Hl)(s:World):Prop:=∃ vs A L',Res TT fr L rs vs∧L=A++L'∧Le D s0 s∧∀ s',Le D s s'→R (qaA vs) L' s'
def retV(P:Program)(TT:qaV)(D:Nat)(rs:List ResultVar)(s0:World)(R:Value→Hl→World→Prop):qdE
 | .normal,[],fr,L,s | .ret,[],fr,L,s=>qsy TT D rs s0 R fr L s
 | .normal,[d],fr,L,s | .ret,[d],fr,L,s=>DC P D d .returning L s fun L1 s1=>qsy TT D rs s0 R fr L1 s1
 | .panic ch,[d],fr,L,s=>DC P D d (.panicking ch) L s fun L1 s1=>qsy TT D rs s0 R fr L1 s1
 | _,_,_,_,_=>False
theorem qlC{f:FuncId}{fn:Func}{c:Code}{args:List Value}{R:Value→Hl→World→Prop}(hT:TabOK P TT)(hf:P.funcs[f]?=some fn)(hn:(fn.name == "runtime.NumGoroutine")=false)(hb:fn.body=some c)(hnt:fn.ntmps=n)(hle:Nat.ble args.length n=true){rs:List ResultVar}(hrs:fn.results.toList=rs)(fr0:Fr)(hfr:qeR 0 args=fr0)
    (h:RC P TT D n none (retV P TT D rs s R) c [] fr0 L s):AC P D f args L s R:=by
  subst hfr;subst hrs
  refine ⟨⟨fn,hf,hn,by simp [hb]⟩,fun ho=>calls_of_wp_defers hf hb ?_⟩
  have hle':args.length≤n:=Nat.le_of_ble_eq_true hle
  have hr:FrD [] n { tmps:=args.toArray++Array.replicate (fn.ntmps - args.toArray.size) undef,defers:=[] } (qeR 0 args):=by
    refine ⟨⟨by simp [hnt];omega,Z,fun t ht v hv=>?_,fun t v hv=>?_⟩,Z⟩
    · rw [qbC] at hv
      simp at hv
      obtain ⟨hlt,_⟩:=List.getElem?_eq_some_iff.1 hv
      simp [Array.getElem?_append,hlt]
      exact (List.getElem?_eq_some_iff.1 hv).2
    · rw [qbC] at hv
      simp at hv
      obtain ⟨hlt,_⟩:=List.getElem?_eq_some_iff.1 hv
      omega
  refine wpIn_wide.1 (wpIn_mono (n:=0) (h hT _ hr ho) ?_)
  rintro e a w ⟨ds,fr',L1,s1,k1,k2,rfl,hq⟩
  have fin:∀ (L2:Hl) (s2:World),OKL D L2 s2→qsy TT D fn.results.toList s R fr' L2 s2→∃ v,(results fn a.tmps).run P (fill L2 s2)=.ok v (fill L2 s2)∧∃ v' L' s',Ending.returned v=.returned v'∧fill L2 s2=fill L' s'∧OKL D L' s'∧Le D s s'∧R v' L' s':=fun L2 s2 ho2 hout=>by
    obtain ⟨vs,A,L',hres,rfl,hle1,hR⟩:=hout
    obtain ⟨d1,d2,d3⟩:=qbc ho2
    have hrun:(results fn a.tmps).run P (fill (A++L') s2)=.ok (qaA vs) (fill (A++L') s2):=by
      have h1:=Res.run hT k1.rel ho2 hres
      have h2:(fn.results.mapM (qpK a.tmps)).run P (fill (A++L') s2)=.ok vs.toArray (fill (A++L') s2):=by
        rw [Array.mapM_eq_mapM_toList]
        simp only [map_eq_pure_bind,Sem.run_bind,h1,Result.andThen_ok,Sem.run_pure]
      rw [qdy]
      simp only [Sem.run_bind,h2,Result.andThen_ok,Sem.run_pure]
      congr 1
      match vs with
      | []=>rfl
      | [v]=>rfl
      | v::u::r=>simp [qaA]
    exact ⟨_,hrun,_,L',fill A s2,rfl,d1,d2,hle1.trans d3,hR _ d3⟩
  have one:∀ (dd:Deferred) (u:FrameMode),u≠.run→ds=[dd]→DC P D dd u L1 s1 (fun L1 s1=>qsy TT D fn.results.toList s R fr' L1 s1)→Leaves P fn a.tmps (fun e w'=>∃ v L' s',e=.returned v∧w'=fill L' s'∧OKL D L' s'∧Le D s s'∧R v L' s') a.defers u (fill L1 s1):=fun dd u hu hds hdc=>by
    obtain ⟨fv,cap,g,gs,h1,h2,h3⟩:=hdc k2
    rw [k1.defers,hds]
    refine ⟨hu,fv,cap,g,gs,h1,h2,h3.mono ?_⟩
    rintro e u' w' ⟨v,rfl,hset,L2,s2,rfl,ho2,hout⟩
    show Leaves P fn a.tmps _ [] (settle u') (fill L2 s2)
    rw [hset]
    obtain ⟨v,h4,h5⟩:=fin L2 s2 ho2 hout
    exact ⟨v,h4,h5⟩
  match e,ds,hq with
  | .normal,[],hq=>
    show Leaves P fn a.tmps _ a.defers .returning (fill L1 s1)
    rw [k1.defers];exact fin L1 s1 k2 hq
  | .ret,[],hq=>
    show Leaves P fn a.tmps _ a.defers .returning (fill L1 s1)
    rw [k1.defers];exact fin L1 s1 k2 hq
  | .normal,[dd],hq=>exact one dd .returning (by intro h;cases h) rfl hq
  | .ret,[dd],hq=>exact one dd .returning (by intro h;cases h) rfl hq
  | .panic ch,[dd],hq=>exact one dd (.panicking ch) (by intro h;cases h) rfl hq
theorem qnr{J:List Deferred→Fr→Hl→World→Prop}{ch:List PanicEntry}(h:Q (.panic ch) ds fr L s):qi8 J Q (.panic ch) ds fr L s:=h
theorem qks{id:Nat}{ch:List PanicEntry}(h:Q (.panic ch) ds fr L s):qgn id Q (.panic ch) ds fr L s:=h
theorem ql5{rs:List ResultVar}{R:Value→Hl→World→Prop}{vs:List Value}(A L':Hl)(h:Res TT fr L rs vs)(hL:L=A++L')(hl:Le D s0 s)(hR:∀ s',Le D s s'→R (qaA vs) L' s'):qsy TT D rs s0 R fr L s:=⟨vs,A,L',h,hL,hl,hR⟩
theorem qrm{rs:List ResultVar}{R:Value→Hl→World→Prop}{ch:List PanicEntry}{dd:Deferred}(h:DC P D dd (.panicking ch) L s fun L1 s1=>qsy TT D rs s0 R fr L1 s1):retV P TT D rs s0 R (.panic ch) [dd] fr L s:=h
theorem qii{fn:Func}(h:fn.results=#[])(tmps:Array Value)(w:World):(results fn tmps).run P w=.ok (.tuple #[]) w:=by
 rw [qdy,h]
 simp
section rec
variable{f:FuncId}{fn:Func}{id d0 d1 t t' ty0 ty1:Nat}{ts:Array TypeId}{p0 p1:String}{a0 a1:Array Edge}{c2:Code}{cap:List Value}{K:Hl→World→Prop}
theorem qml(hnt:fn.ntmps=n)(hle:Nat.ble cap.length n=true):FrRel n { tmps:=cap.toArray++Array.replicate (fn.ntmps - cap.toArray.size) undef,defers:=[] } (qeR 0 cap):=by
  have hle':cap.length≤n:=Nat.le_of_ble_eq_true hle
  refine ⟨by simp [hnt];omega,Z,fun t ht v hv=>?_,fun t v hv=>?_⟩
  · rw [qbC] at hv
    simp at hv
    obtain ⟨hlt,_⟩:=List.getElem?_eq_some_iff.1 hv
    simp [Array.getElem?_append,hlt]
    exact (List.getElem?_eq_some_iff.1 hv).2
  · rw [qbC] at hv
    simp at hv
    obtain ⟨hlt,_⟩:=List.getElem?_eq_some_iff.1 hv
    omega
end rec
end
section
variable{P:Program}{TT:qaV}{D n:Nat}{Q:qbD}{fr:Fr}{L K:Hl}{s s0:World}{ops:Array Oper}{rest:List Oper}{d ty:Nat}{pos:String}{af:Array Edge}{v:Value}
theorem qvT{xt t:TypeId}{x:Operand}{u:Value}(hu:P.underlying t=some (.struct #[]))(hx:lk fr x=some (.iface t u)):QE P TT D fr (.typeAssert x xt t true) ty K s0 (.tuple #[u,.bool true]):=
 QE.pure fun hT dst pos af g ρ hρ w=>by simp [execOp,Instr.typeAssert,underlying,hu,hρ x _ hx]
theorem qny{t:Nat}(hz:(P.info? t).bind (fun i=>i.zero)=some (Value.agg #[]))(hd:Nat.blt d n=true)
  (k:∀ β s',Le D s s'→JO P TT D n ops Q rest ((d,.pointer (some ⟨β,0,none⟩))::fr) ((β,cb [] t)::L) s'):JO P TT D n ops Q (⟨some d,.alloc t,ty,pos,af,none⟩::rest) fr L s:=fun hT a hr ho=>
 qfL hd (fun hT _ dst pos af g ρ _=>by
  obtain ⟨h1,h2,h3⟩:=qaJ ho (cb [] t)
  refine ⟨?_,h2⟩
  obtain ⟨i,hi,hi2⟩:=Option.bind_eq_some_iff.1 hz
  have hzv:(zeroValue t).run P (fill L s)=.ok (.agg #[]) (fill L s):=by simp [zeroValue,typeInfo,hi,hi2]
  simp only [execOp,Instr.alloc,Sem.run_bind,hzv,Result.andThen_ok,newVar,qgp,Sem.run_pure,qaB,Value.cells]
  rw [← h1];rfl:Ev P TT D fr (.alloc t) ty L s (.value (.pointer (some ⟨s.heap.size,0,none⟩))) ((s.heap.size,cb [] t)::L) (s.alloc (dum D))) (k _ _ (qaJ ho (cb [] t)).2.2) hT a hr ho
theorem qvw{t:Nat}{x y:Operand}{a0:Addr}(hs:(P.info? t).map (fun i=>i.size)=some 0)(hx:lk fr x=some (.pointer (some a0)))(hy:lk fr y=some (.agg #[]))(k:JO P TT D n ops Q rest fr L s):JO P TT D n ops Q (⟨none,.store t x y,ty,pos,af,none⟩::rest) fr L s:=
 qr3 (fun hT ho dst pos af g ρ hρ=>by
  refine ⟨?_,ho⟩
  obtain ⟨i,hi,hi2⟩:=Option.map_eq_some_iff.1 hs
  simp [execOp,Instr.storeAt,storeVar,sizeOf,typeInfo,hi,hi2,hρ x _ hx,hρ y _ hy,Instr.sureAddr,Value.cells,storeCells]:Ev P TT D fr (.store t x y) ty L s .skip L s) k
def recD(id d0 d1 ty0 ty1:Nat)(ts:Array TypeId)(p0 p1:String)(a0 a1:Array Edge)(c2:Code):Code:=
 .seq (.region id #[⟨some d0,.call { callee:=.builtin .recover,args:=#[],argTypes:=ts },ty0,p0,a0,none⟩,⟨some d1,.assign (.tmp d0),ty1,p1,a1,none⟩] false) c2
section rec
variable{f:FuncId}{fn:Func}{id d0 d1 ty0 ty1:Nat}{ts:Array TypeId}{p0 p1:String}{a0 a1:Array Edge}{c2:Code}{cap:List Value}
theorem qmj{a:Act}{cs cs':List Frame}{w:World}{v0:Value}{Q:Exit→Act→List Frame→World→Prop}(hrec:recoverD cs=some (v0,cs'))
  (e1:(a.put (some d0) v0).eval (.tmp d0)=v0)
  (h:Q .normal ((a.put (some d0) v0).put (some d1) v0) cs' w):wpOpsS P #[⟨some d0,.call { callee:=.builtin .recover,args:=#[],argTypes:=ts },ty0,p0,a0,none⟩,⟨some d1,.assign (.tmp d0),ty1,p1,a1,none⟩] Q [0,1] a cs w:=by
 have h0:(execOp a.eval ⟨some d0,.call { callee:=.builtin .recover,args:=#[],argTypes:=ts },ty0,p0,a0,none⟩).run P w=.ok .recover w:=by
  simp [execOp,resolve,invoke,builtin]
 have hx:=(show (execOp (a.put (some d0) v0).eval ⟨some d1,.assign (.tmp d0),ty1,p1,a1,none⟩).run P w=.ok (.value v0) w by simp [execOp,e1])
 simp only [wpOpsS,Region.wanted,List.getElem?_toArray,List.getElem?_cons_zero,List.getElem?_cons_succ,if_true,h0,hrec,hx,Oper.upon]
 exact h
def quv(D:Nat)(K:Hl→World→Prop)(s:World):qbD:=fun e _ L' s'=>e=.normal∧∃ A L1,L'=A++L1∧Le D s s'∧∀ s2,Le D s' s2→K L1 s2
theorem qsu{K:Hl→World→Prop}{t0:TypeId}{v0:Value}(hT:TabOK P TT)(hf:P.funcs[f]?=some fn)(hn:(fn.name == "runtime.NumGoroutine")=false)(hb:fn.body=some (recD id d0 d1 ty0 ty1 ts p0 p1 a0 a1 c2))(hnt:fn.ntmps=n)(hle:Nat.ble cap.length n=true)(hrs:fn.results=#[])(hd0:Nat.blt d0 n=true)(hd1:Nat.blt d1 n=true)
  (fr0:Fr) (hfr:(d1,.iface t0 v0)::(d0,.iface t0 v0)::qeR 0 cap=fr0) (h:JC P TT D n (quv D K s) c2 fr0 L s):DC P D { target:=.fn (.func f) cap.toArray,args:=#[] } (.panicking [{ v:=.iface t0 v0,recovered:=false }]) L s K:=fun ho=>by
 subst hfr
 have h2':¬ fn.name = "runtime.NumGoroutine" := by simpa using hn
 refine ⟨_,_,f,cap.toArray,Z,by simp [invoke,callFunc,hf,h2',hb],callsD_of_wpS hf hb fun c₀ cs hm=>?_⟩
 have hr:=qml (fn:=fn) hnt hle
 have hr1:=hr.put hd0 (.iface t0 v0)
 have hr2:=hr1.put hd1 (.iface t0 v0)
 refine wpS_seq (wpS_region (qmj (v0:=.iface t0 v0) (cs':={ c₀ with mode:=.panicking [{ v:=.iface t0 v0,recovered:=true }] }::cs) (by simp [recoverD,hm]) (hr1.ev (x:=.tmp d0) (v:=.iface t0 v0) (by simp [lk,qbl])) ?_))
 refine wpS_of_wp (wp_mono (h hT _ hr2 ho) ?_)
 rintro e a w ⟨fr',L',s',k1,k2,rfl,rfl,A,L1,rfl,hl,hK⟩
 obtain ⟨d1,d2,d3⟩:=qbc k2
 exact ⟨k1.defers,.panicking [{ v:=.iface t0 v0,recovered:=true }],rfl,_,qii hrs _ _,_,rfl,by simp [settle],L1,fill A s',d1,d2,hK _ d3⟩
theorem qpU{x:Operand}{t t':Nat}{t0:TypeId}{v0:Value}(hu:P.underlying t=some (.interface (P.methodsAt t)))(hx:lk fr x=some (.iface t0 v0)):QE P TT D fr (.binOp .neq t x (.const .nilIface) t') ty K s0 (.bool true):=
 QE.pure fun hT dst pos af g ρ hρ w=>by
  have hc:ρ (.const .nilIface)=.nilIface:=hρ _ _ rfl
  simp [execOp,hρ x _ hx,hc,eqGuard,run_neq_held_nil w t t0 v0 hu]
end rec
end
end Go.FL
namespace Go.Proofs.YtpdnijphccdiiaaGreatDoor
open Go.Proofs.Tryz
open Go.FL
attribute [local irreducible] JC JO JA JB qaO qaD qbV AC fill CellsAt QE Ev Mid
theorem qrd(D:Nat)(L:Hl)(s:World)(K:Hl→World→Prop)(hK:∀ s',Le D s s'→K L s'):DC prog D { target:=.fn (.func 51) ([]:List Value).toArray,args:=([]:List Value).toArray } (.panicking [{ v:=.iface 117 (.agg #[]),recovered:=false }]) L s K:=by
 refine qsu (fn:=f51) qaq func51 V Z ntmps51 Z Z Z Z [(0,_),(3,_)] Z<|Sr<|Zqm Z Z<|qaf (qpU V Z) Z<|Nt<|Zy Z<|Sr<|Zqm Z Z<|qaf (qvT V Z) Z<|Zqm Z Z<|Zqx Z Z Z<|Zqx Z Z Z<|qny V Z ?_
 intro βz s1 h1
 refine qvw V Z Z<|At Z Z<|Sr<|Zqm Z Z<|qnb Z Z<|Nt<|Zz Z<|Zk<|?_
 exact ⟨rfl,[_],_,rfl,h1,fun s2 h2=>hK _ (h1.t h2)⟩
def qwt:ER Int→MS×Int×Int
 | .ok _ m=>(m,1,0)
 | .fin m st cd=>(m,st,cd)
 | .out=>(⟨[],[],[],[],0,0,[]⟩,0,0)
theorem qsS(s:World):Wds s none 0 0 []:=⟨rfl,Nat.le_refl _,by omega,fun i x h=>by cases h⟩
theorem qqt(p:Prg)(D n:Nat)(hT:TOK p D n)(L:Hl)(s:World)(c:MC)(N k:Nat)(fk:Fnc)(m:MS)(iv ov:Value)(F0:Option Addr)(n0 z0:Nat)(R:Hl)(hC:CT p c s)(hp:p.funcs[k]?=some fk)(hfk:fk.params=[])(hM:MG p c N m iv ov R s)(hr:cX p (sem p OPp n) k [] m≠.out):AC prog D 23 [.pointer (some ⟨c.bm,0,none⟩),.int .i64 (k:Int)] (MBv c N 0 m iv ov 0 0 (.slice F0 n0 z0)::MGb c m::(R++L)) s fun v L' s'=>v=.tuple #[]∧∃ m' st cd Z,L'=Z++L∧FIN c N m' st cd Z∧qwt (cX p (sem p OPp n) k [] m)=(m',st,cd):=by
 refine qlC (fn:=f23) qaq func23 V Z ntmps23 Z (rs:=[]) Z [(0,_),(1,_)] Z<|Ys<|Yr<|qnM Z<|Yn<|Yt<|Ys<|Yr<|Yqm Z Z<|Yqm Z Z<|?_
 refine qjK (first:=[]) (captured:=[]) Z Z Z (qj6 p D n hT L _ c N k fk [] none 0 0 m iv ov _ _ _ R (hC.le (Lr D)) (qsS _) hp (by rw [hfk];rfl) (hM.le (Lr D)) hr) ?_ ?_
 ·
  rintro _ _ sx1 hx1 ⟨hp1,m1,st1,cd1,Z1,he1,rfl,hF1⟩
  repeat (first | refine qnr ?_ | refine qks ?_)
  cases hp1
  refine qrm (qrd D _ _ _ (fun s9 q9=>?_))
  refine ql5 [] _ .nil Z (hx1.t q9) fun _ hS2=>?_
  exact ⟨rfl,m1,st1,cd1,Z1,rfl,hF1,by rw [he1];rfl⟩
 rintro _ _ s1 h1 ⟨a1,m1,iv1,ov1,R1,he1,⟨rfl,hu1⟩,rfl,hM1⟩
 
 refine Yn<|Yt<|Yr<|Yqm Z Z<|?_
 refine qjK (first:=[]) (captured:=[]) Z Z Z (qdg D [] _ _ c N _ m1 iv1 ov1 _ _) ?_ ?_
 ·
  rintro _ _ sx2 hx2 ⟨hp1,rfl⟩
  repeat (first | refine qnr ?_ | refine qks ?_)
  cases hp1
  refine qrm (qrd D _ _ _ (fun s9 q9=>?_))
  refine ql5 [] _ .nil Z (h1.t hx2|>.t q9) fun _ hS2=>?_
  exact ⟨rfl,m1,1,0,_,rfl,hM1.finv _ _ _ _ [MGb c m1],by rw [he1];rfl⟩
 rintro _ _ s2 h2 ⟨⟩
def qgW(p:Prg):List (List Int):=p.globals.map fun g=>if g.kind=3 then qhC g.num.toNat g.init else []
abbrev SN:Value:=.slice none 0 0
theorem qd3:∀ {ab:List (Option Nat)} {gs:List Glo} {g:Glo} {o:Option Nat},ab.length=gs.length→qid (ab++[o]) (gs++[g])=qid ab gs++[match o with | some b=>.slice (some ⟨b,0,none⟩) g.num.toNat g.num.toNat | none=>SN]
 | [],[],g,some b,_=>rfl
 | [],[],g,none,_=>rfl
 | some b::r,x::gs,g,o,h=>by rw [List.cons_append,List.cons_append,qid,qid,qd3 (by simpa using h),List.cons_append]
 | none::r,x::gs,g,o,h=>by rw [List.cons_append,List.cons_append,qid,qid,qd3 (by simpa using h),List.cons_append]
theorem qeq:∀ {ab:List (Option Nat)} {gs:List Glo},ab.length=gs.length→(qid ab gs).length=ab.length
 | [],[],_=>rfl
 | some b::r,x::gs,h=>by rw [qid,List.length_cons,qeq (by simpa using h),List.length_cons]
 | none::r,x::gs,h=>by rw [qid,List.length_cons,qeq (by simpa using h),List.length_cons]
theorem qfa:∀ {ab:List (Option Nat)} {ls:List (List Int)} {l:List Int} {o:Option Nat},ab.length=ls.length→qdL (ab++[o]) (ls++[l])=qdL ab ls++(match o with | some b=>[(b,cb (wv l) 29)] | none=>[])
 | [],[],l,some b,_=>rfl
 | [],[],l,none,_=>rfl
 | some b::r,x::ls,l,o,h=>by rw [List.cons_append,List.cons_append,qdL,qdL,qfa (by simpa using h),List.cons_append]
 | none::r,x::ls,l,o,h=>by rw [List.cons_append,List.cons_append,qdL,qdL,qfa (by simpa using h)]
section
variable{p:Prg}{ab:List (Option Nat)}{k ng:Nat}{g:Glo}{b:Nat}
def avR(p:Prg)(ab:List (Option Nat))(k ng:Nat):List Value:=qid ab (p.globals.take k)++List.replicate (ng - k) SN
theorem qgC(hl:ab.length=k)(hg:p.globals[k]?=some g):ab.length=(p.globals.take k).length:=by
 have:=(List.getElem?_eq_some_iff.1 hg).1
 rw [List.length_take];omega
theorem qv1(h:k < ng):List.replicate (ng - k) SN=SN::List.replicate (ng - (k+1)) SN:=by
 rw [show ng - k=ng - (k+1)+1 by omega,List.replicate_succ]
theorem qmC(hl:ab.length=k)(hg:p.globals[k]?=some g)(hk:k < ng):(avR p ab k ng).length=ng:=by
 rw [avR,List.length_append,qeq (qgC hl hg),List.length_replicate];omega
theorem qqh(hl:ab.length=k)(hg:p.globals[k]?=some g)(hk:k < ng):avR p ab k ng=avR p (ab++[none]) (k+1) ng:=by
 rw [avR,avR,qaT hg,qd3 (qgC hl hg),qv1 hk,List.append_assoc];rfl
theorem qr8(hl:ab.length=k)(hg:p.globals[k]?=some g)(hk:k < ng):qbW (avR p ab k ng) (0+k) [.slice (some ⟨b,0,none⟩) g.num.toNat g.num.toNat]=avR p (ab++[some b]) (k+1) ng:=by
 rw [Nat.zero_add,qdu _ _ _ (by rw [qmC hl hg hk];simp;omega)]
 have h1:=qeq (qgC hl hg)
 rw [avR,avR,qaT hg,qd3 (qgC hl hg),qv1 hk,List.take_append_of_le_length O,List.take_of_length_le O,List.drop_append,List.drop_eq_nil_of_le (by simp;omega),h1,hl,List.append_assoc,List.append_assoc]
 simp
theorem qsM(hl:ab.length=k)(hg:p.globals[k]?=some g):nth (avR p (ab++[some b]) (k+1) ng) (0+k)=some (.slice (some ⟨b,0,none⟩) g.num.toNat g.num.toNat):=by
 rw [Nat.zero_add,qdv,avR,qaT hg,qd3 (qgC hl hg),List.append_assoc,List.getElem?_append_right (by rw [qeq (qgC hl hg)];omega),qeq (qgC hl hg),hl,Nat.sub_self];rfl
theorem qt5(hl:ab.length=k)(hg:p.globals[k]?=some g)(hk:k < ng):Nat.ble (0+k+1) (avR p ab k ng).length=true:=by
 rw [Nat.ble_eq,qmC hl hg hk];omega
theorem qi3(hg:p.globals[k]?=some g):(qgW p)[k]?=some (if g.kind=3 then qhC g.num.toNat g.init else []):=by rw [qgW,List.getElem?_map,hg];rfl
theorem qsw(hl:ab.length=k)(hg:p.globals[k]?=some g)(h3:g.kind=3)(L:Hl):qdL ab ((qgW p).take k)++(b,cb (wv (qhC g.num.toNat g.init)) 29)::L=qdL (ab++[some b]) ((qgW p).take (k+1))++L:=by
 have hk:=(List.getElem?_eq_some_iff.1 hg).1
 rw [qaT (qi3 hg),qfa (by rw [List.length_take,qgW,List.length_map];omega),if_pos h3,List.append_assoc];rfl
theorem qor(hl:ab.length=k)(hg:p.globals[k]?=some g):qdL ab ((qgW p).take k)=qdL (ab++[none]) ((qgW p).take (k+1)):=by
 have hk:=(List.getElem?_eq_some_iff.1 hg).1
 rw [qaT (qi3 hg),qfa (by rw [List.length_take,qgW,List.length_map];omega),List.append_nil]
end
theorem pmA{a:Nat×Obj}(X:Hl){A L:Hl}:(a::(X++(A++L))).Perm (X++(A++a::L)):=by
 rw [← List.append_assoc,← List.append_assoc]
 exact List.perm_middle.symm
theorem qqG(n:Nat):wv (List.replicate n 0)=List.replicate n (.int .u32 0):=by simp [wv]
@[irreducible] def fuX:Nat:=100000002
theorem qnH:fuX=99999982+20:=by unfold fuX;rfl
def qmg(p:Prg)(inp:Str)(a:Nat):Str×Int×Int×Nat:=qrg a (qtN p OPp (fuX+1) (qcu p.funcs).toNat inp a)
def qfh(p:Prg)(inp:Str)(steps:Int):(Str×Int×Int×Nat)×(Int×Int):=if (qbM p).1≠0 then (([],0,0,0),qbM p) else if 400000 < inp.length then (([],0,0,0),(3,-2)) else if steps < 0∨50000000 < steps then (([],0,0,0),(4,-3)) else (qmg p inp steps.toNat,(0,0))
def OutV(s:World)(o:Str×Int×Int×Nat)(v:Value):Prop:=∃ A n c,v=.agg #[.slice A n c,.int .i64 o.2.1,.int .u32 o.2.2.1,.int .i64 (o.2.2.2:Int)]∧Bts s A n c o.1
theorem qpq{p:Prg}{inp:Str}{st:Int}(h:(qbM p).1≠0):qfh p inp st=(([],0,0,0),qbM p):=by rw [qfh,if_pos h]
theorem qo4{p:Prg}{inp:Str}{st:Int}(h:¬ (qbM p).1≠0)(h2:400000 < inp.length):qfh p inp st=(([],0,0,0),(3,-2)):=by rw [qfh,if_neg h,if_pos h2]
theorem qtx{p:Prg}{inp:Str}{st:Int}(h:¬ (qbM p).1≠0)(h2:¬ 400000 < inp.length)(h3:st < 0∨50000000 < st):qfh p inp st=(([],0,0,0),(4,-3)):=by rw [qfh,if_neg h,if_neg h2,if_pos h3]
theorem qf0{p:Prg}{inp:Str}{a:Nat}(h:¬ (qbM p).1≠0)(h2:¬ 400000 < inp.length)(h3:¬ ((a:Int) < 0∨50000000 < (a:Int))):qfh p inp a=(qmg p inp a,(0,0)):=by rw [qfh,if_neg h,if_neg h2,if_neg h3,Int.toNat_natCast]
theorem qhm{p:Prg}{inp:Str}{a mi:Nat}(hm:qcu p.funcs=(mi:Int)){m:MS}{st cd:Int}(h:qwt (cX p (sem p OPp fuX) mi [] (qhW p inp a))=(m,st,cd))(hr:cX p (sem p OPp fuX) mi [] (qhW p inp a)≠.out):qmg p inp a=(m.out,st,cd,a - m.left):=by
 rw [qmg,qtN,hm,Int.toNat_natCast]
 show qrg a (cX p (sem p OPp fuX) mi [] (qhW p inp a))=_
 cases hc:cX p (sem p OPp fuX) mi [] (qhW p inp a) with
 | out=>exact absurd hc hr
 | ok v m1=>rw [hc] at h;simp only [qwt,Prod.mk.injEq] at h;obtain ⟨rfl,rfl,rfl⟩:=h;rfl
 | fin m1 s1 c1=>rw [hc] at h;simp only [qwt,Prod.mk.injEq] at h;obtain ⟨rfl,rfl,rfl⟩:=h;rfl
theorem qiG(p:Prg)(inp:Str)(a mi:Nat)(ha:a≤50000000):cX p (sem p OPp fuX) mi [] (qhW p inp a)≠.out:=fun h=>by
 have:=(qqQ (p:=p) (OP:=OPp) (fuX+1)).2.1 mi [] (qhW p inp a) (by rw [qnH];show 2 * a+1 < _;omega)
 have e:(sem p OPp (fuX+1)).c mi [] (qhW p inp a)=.out:=h
 rw [e] at this;exact this
theorem OKP.pok{p:Prg}(h:OKP p):POK p:=⟨(qc5 (p:=p) (by rw [h.2.1])).1,fun g hg=>by have:=qcP (h.1.2.2.1 g hg).1;exact ⟨this.1,this.2.1⟩⟩
theorem OKP.sz{p:Prg}(h:OKP p):∀ f∈p.funcs,f.params.length+f.locals.length≤100:=fun f hf=>by
 have:=h.1.2.2.2.1 f hf
 have h1:=this.2.1
 have h2:=this.2.2.1
 omega
theorem OKP.st{p:Prg}(h:OKP p){f:Fnc}(hf:f∈p.funcs):(∀ x∈f.body,StOK p f x)∧qcC f.body≤2000:=by
 have hv:=h.1.2.2.2.1 f hf
 refine ⟨fun x hx=>?_,hv.2.2.2.2.2⟩
 obtain ⟨j,hj⟩:=List.getElem?_of_mem hx
 exact ⟨⟨1,(qds hv.2.2.2.2.1 hj).1⟩,0,fun nd hd=>h.2.2 f hf nd (qdM hx hd)⟩
theorem glo3{g:Glo}(h:qfw g=0)(h3:g.kind=3):g.init.length≤g.num.toNat∧g.num.toNat≤40000:=by
 unfold qfw at h
 split at h
 · cases h
 split at h
 · cases h
 split at h
 · cases h
 split at h
 · cases h
 rename_i h4
 split at h
 · cases h
 rename_i h5
 omega
theorem qvx{p:Prg}{inp:Str}{a ng:Nat}{c:MC}{s:World}{Ai:Option Addr}{ni qi:Nat}(h:OKP p)(hu:prU p)(hI:Bts s Ai ni qi inp)(ha:a≤50000000)(hng:c.ng=p.globals.length)(hnf:c.nf=0)(hlb:c.ab.length=c.ng)(hab:∀ (k:Nat) (g:Glo),p.globals[k]?=some g→g.kind=3→∃ b,c.ab[k]?=some (some b)):MG p c a (qhW p inp a) (.slice Ai ni qi) SN (qdL c.ab (qgW p)) s:=by
  refine ⟨⟨Ai,ni,qi,Z,hI⟩,⟨[],(List.append_nil _).symm,.nil⟩,fun x hx=>?_,fun x hx=>(by cases hx),fun l hl x hx=>?_,hng,?_,hnf.symm,hlb,?_,fun k g hg h3=>⟨hab k g hg h3,?_⟩,Nat.zero_le _,Nat.zero_le _,Nat.le_refl _,ha⟩
  · rw [show x=0 from (List.mem_replicate.1 hx).2];exact ⟨by decide,by decide⟩
  · obtain ⟨g,hg,rfl⟩:=List.mem_map.1 (show l∈qgW p from hl)
    split at hx
    · exact quO (hu.1 g hg).2 x hx
    · cases hx
  · rw [hng];exact List.length_replicate ..
  · rw [hng];exact List.length_map ..
  · have h0:=glo3 (h.1.2.2.1 g (List.mem_of_getElem? hg)).1 h3
    show ((qgW p).getD k []).length=_
    rw [List.getD_eq_getElem?_getD,qi3 hg,Option.getD_some,if_pos h3,qm2 h0.1]
end Go.Proofs.YtpdnijphccdiiaaGreatDoor
namespace Go.FL
open Go Go.RowKit
theorem qlO{P:Program}{TT:qaV}{D n:Nat}{Q:qbD}{fr:Fr}{L K:Hl}{s s0:World}{ops:Array Oper}{d ty:Nat}{pos:String}{af:Array Edge}{g:Option (Nat×Bool)}{fuel i t:Nat}{listed:Array Bool}{x:Operand}{zs:List Value}(hi:ops[i]?=some ⟨some d,.box t x,ty,pos,af,g⟩)(hg:GOK ops fr g)(hx:lk fr x=some (.agg zs.toArray))(hd:Nat.blt d n=true)
  (k:∀ β s',Le D s s'→JA P TT D n ops Q K s0 fuel (listed.setIfInBounds i true) ((d,.pointer (some ⟨β,0,none⟩))::fr) ((β,cb zs t)::L) s'):JB P TT D n ops Q K s0 fuel listed i fr L s:=fun hT a hf ho hl hK=>
 qhY hi hg (qnq hx (by simp [qa7]) ho) (qaJ ho (cb zs t)).2.2 (fun x _ h=>List.mem_cons_of_mem _ h) hd (k _ _ (qaJ ho (cb zs t)).2.2) hT a hf ho hl hK
end Go.FL
namespace Go.Proofs.YtpdnijphccdiiaaGreatDoor
open Go.Proofs.Tryz
open Go.FL
attribute [local irreducible] JC JO JA JB qaO qaD qbV AC fill CellsAt QE Ev Mid
theorem qvD{p:Prg}(hnd:((ents p).map (·.1)).Nodup){j k:Nat}{y x:Fnc}(hy:p.funcs[j]?=some y)(hx:p.funcs[k]?=some x)(e:y.name=x.name):j=k:=by
 have q1:=qcS hnd (qd9 hy)
 have q2:=qcS hnd (qd9 hx)
 simp only [e] at q1 q2
 rw [q1] at q2
 simp at q2;omega
theorem qfu{p:Prg}(hnd:((ents p).map (·.1)).Nodup){k:Nat}{x:Fnc}{mi mj:Int}(hx:p.funcs[k]?=some x)(h:∀ (j:Nat) (y:Fnc),j < k→p.funcs[j]?=some y→y.name=qbw→mi=(j:Int))(h1:x.name=qbw→mj=(k:Int))(h2:¬ x.name=qbw→mj=mi):∀ (j:Nat) (y:Fnc),j < k+1→p.funcs[j]?=some y→y.name=qbw→mj=(j:Int):=fun j y hj hy hn=>by
  by_cases hm:x.name=qbw
  · rw [h1 hm,qvD hnd hy hx (hn.trans hm.symm)]
  · rcases Nat.lt_or_eq_of_le (Nat.lt_succ_iff.1 hj) with hj | rfl
    · rw [h2 hm];exact h j y hj hy hn
    · rw [hx] at hy;injection hy with hy;subst hy;exact absurd hn hm
theorem qno{p:Prg}{ab:List (Option Nat)}{k:Nat}{x:Glo}{o:Option Nat}(hab:ab.length=k)(hx:p.globals[k]?=some x)(h:∀ (j:Nat) (y:Glo),j < k→p.globals[j]?=some y→y.kind=3→∃ b,ab[j]?=some (some b))(ho:x.kind=3→∃ b,o=some b):∀ (j:Nat) (y:Glo),j < k+1→p.globals[j]?=some y→y.kind=3→∃ b,(ab++[o])[j]?=some (some b):=fun j y hj hy h3=>by
  rcases Nat.lt_or_eq_of_le (Nat.lt_succ_iff.1 hj) with hj | rfl
  · obtain ⟨b,hb⟩:=h j y hj hy h3
    exact ⟨b,by rw [List.getElem?_append_left O];exact hb⟩
  · rw [hx] at hy;injection hy with hy;subst hy
    obtain ⟨b,rfl⟩:=ho h3
    exact ⟨b,by rw [List.getElem?_append_right O,hab,Nat.sub_self];rfl⟩
theorem pm26{Z:Hl}{o a b c d:Nat×Obj}{Mo K L:Hl}(h:Z.Perm (o::(Mo++K))):(Z++(a::b::c::d::L)).Perm (o::a::b::c::d::(Mo++(K++L))):=by
 have h1:=List.perm_append_comm_assoc (Mo++K) [a,b,c,d] L
 rw [List.append_assoc Mo K L] at h1
 exact (h.append_right _).trans (h1.cons o)
theorem qti{x a b:Nat×Obj}{R R':Hl}(hx:x∈(a::b::R).take 2):x∈a::b::R':=List.mem_append_left R' (show x∈[a,b] from hx)
theorem qrT(p:Prg)(inp:Str)(a:Nat)(c:MC)(iv:Value):MBv c a 0 (qhW p inp a) iv SN 0 0 SN=(c.bm,cb [.slice c.Af c.nF c.cF,.slice (some ⟨c.bg,0,none⟩) c.ng c.ng,.slice (some ⟨c.ba,0,none⟩) c.ng c.ng,SN,.int .u32 0,.int .i64 0,iv,.int .i64 (a:Int),SN,.int .i64 0,.int .u32 0,.int .i64 0] 51):=by
 rw [MBv]
 show (c.bm,cb [_,_,_,_,_,_,_,_,_,_,_,Value.int .i64 ((a:Int) - (a:Int))] 51)=_
 rw [Int.sub_self];rfl
theorem qiL(D:Nat)(L:Hl)(s:World)(c i:Int):AC prog D 21 [.int .i64 c,.int .i64 i] L s fun v L' _=>v=.agg #[.int .i64 c,.int .i64 i]∧L=L':=by
 refine qai (fn:=f21) qaq func21 V Z ntmps21 Z (rs:=[.cell 4 33]) Z [(0,_),(1,_)] Z<|Sr<|qae Z [_,_] Z Z ?_
 intro β1 s1 h1
 refine Nt<|Sr<|Zqm Z Z<|Zqm Z Z<|qaf (qam [(_,_),(_,_)] [_,_] Z Z Z Z Z Z) Z<|Wt 0 [_,_] Y9<|Nt<|Zo<|?_
 refine rR [_] L (.agg (us:=[_,_]) 0 Z Z Z Z Z (.nil)) Z h1 fun _ hS2=>?_
 exact ⟨rfl,rfl⟩
theorem qsq(D:Nat)(L:Hl)(s:World)(hG:GP s)(d:Nat)(p:Prg)(Ag Af:Option Addr)(ng cg nf cf:Nat)(hGl:Glos s Ag ng cg p.globals)(hFn:Fncs d s Af nf cf p.funcs)(Ai:Option Addr)(ni qi:Nat)(inp:Str)(hI:Bts s Ai ni qi inp)(steps:Int):AC prog D 9 [.agg #[.slice Ag ng cg,.slice Af nf cf],.slice Ai ni qi,.int .i64 steps] L s fun v L' s'=>∃ M',L'=M'++L∧∀ s2,Le D s' s2→Pub M' s2→∃ w,v=.tuple #[w,.agg #[.int .i64 (qfh p inp steps).2.1,.int .i64 (qfh p inp steps).2.2]]∧OutV s2 (qfh p inp steps).1 w:=by
 have hn1:=hGl.1
 have hn2:=hFn.1
 have hn3:=hI.1
 have hU:prU p:=⟨hGl.u,hFn.u⟩
 refine qai (fn:=f9) qaq func9 V Z ntmps9 Z (rs:=[.cell 6 31,.cell 7 33]) Z [(0,_),(1,_),(2,_)] Z<|Sr<|qau Z Z ?_
 intro β1 s1 h1
 refine qae Z [_,_,_,_] Z Z ?_
 intro β2 s2 h2
 refine qae Z [_,_] Z Z ?_
 intro β3 s3 h3
 refine Nt<|Zs<|Sr<|qaf (qan 2 [_,_] Z Z Z Z Z) Z<|Jc Z Z Z (qdt D _ _ (hG.le (h1.t h2|>.t h3)) d p Ag _ ng cg nf cf (hGl.le (h1.t h2|>.t h3)) (hFn.le (h1.t h2|>.t h3))) ?_
 rintro _ _ s4 h4 ⟨rfl,rfl⟩
 refine qae Z [_,_] Z Z ?_
 intro β5 s5 h5
 refine Wt 0 [_,_] Y9<|Nt<|Sr<|qaf (qan 0 [_,_] Z Z Z Z Z) Z<|qaf (qam [] [_,_] Z Z Z Z Z Z) Z<|qaf (qdY Z Z (qbX _ _ _ _)) Z<|Nt<|?_
 refine qaK Z (fun c6=>?_) (fun c6=>?_)
 ·
  have hb0:(qbM p).1≠0:=fun h=>c6 (by rw [qiz hU h];exact ⟨rfl,rfl⟩)
  have hE:qfh p inp steps=_:=qpq hb0
  refine Zs<|qcJ qag 4 Z [2,1] (by intro x hx;exact qbo hx) ?_
  intro s7 h7
  refine za 0 Z (qam [] [_,_,_,_] Z Z Z Z Z Z) Z<|za 1 Z (qan 0 [_,_] Z Z Z Z Z) Z<|qal 2 V<|Wu Z Tt 2 [_,_,_,_] Y9 (sM (sbY (sbN (sbY (sbE _)))))<|qal 3 V<|Wu Z Tt 1 [_,_] Y9 (sM (sbY (sbN (sbY (sbE _)))))<|qad V<|Zt<|Zo<|Zu<|?_
  refine rR [_,_,_,_] _ (.agg (us:=[_,_,_,_]) 2 Z Z Z Z Z (.agg (us:=[_,_]) 1 Z Z Z Z Z (.nil))) Z (h1.t h2|>.t h3|>.t h4|>.t h5|>.t h7) fun _ hS2=>?_
  first
    | exact ⟨[],rfl,fun s2 hs2 hp=>⟨.agg #[.slice none 0 0,.int .i64 0,.int .u32 0,.int .i64 0],by rw [hE];rfl,none,0,0,by rw [hE];rfl,by rw [hE];exact Bts.nil _ _ _ O⟩⟩
    | (have hE:qfh p inp (a:Int)=((m9.out,st9,cd9,a - m9.left),(0,0)):=by rw [hE0,qhm hmf he9 (qiG p inp a mi0 O)]
       have hst:(a:Int) - (m9.left:Int)=((a - m9.left:Nat):Int):=by omega
       exact ⟨Mo9++K9,(List.append_assoc ..).symm,fun s2 hs2 hp=>⟨_,by rw [hE];rfl,Ao,_,co,by rw [hE,hst],by rw [hE];exact Own.bts hO9 fun b zs t hm=>hp b zs t (List.mem_append_left _ hm)⟩⟩)
 have g4:=c6
 have g14:¬ (qbM p).1≠0:=fun h=>h g4.1
 obtain ⟨hOK,hz0⟩:=OKP.of hU g4.1
 have hV:=hOK.1
 have hV1:=hV.1
 have hV2:=hV.2.1
 have hVf:=hV.2.2.2.1
 have hND:=(qc5 (p:=p) (by rw [hOK.2.1])).1
 refine Zk<|Zt<|Zs<|Sr<|Zqm Z Z<|Ws Y4<|qbA Z Z Z<|Nt<|?_
 refine qab Z (fun c8=>?_) (fun c8=>?_)
 ·
  have hE:qfh p inp steps=_:=qo4 g14 O
  refine Sr<|qaf (qam [] [_,_,_,_] Z Z Z Z Z Z) Z<|Jc Z Z Z (qiL D _ _ _ _) ?_
  rintro _ _ s9 h9 ⟨rfl,rfl⟩
  refine Wt 2 [_,_,_,_] Y9<|Wt 1 [_,_] Y9<|Nt<|Zo<|Zu<|?_
  refine rR [_,_,_,_] _ (.agg (us:=[_,_,_,_]) 2 Z Z Z Z Z (.agg (us:=[_,_]) 1 Z Z Z Z Z (.nil))) Z (h1.t h2|>.t h3|>.t h4|>.t h5|>.t h9) fun _ hS2=>?_
  first
    | exact ⟨[],rfl,fun s2 hs2 hp=>⟨.agg #[.slice none 0 0,.int .i64 0,.int .u32 0,.int .i64 0],by rw [hE];rfl,none,0,0,by rw [hE];rfl,by rw [hE];exact Bts.nil _ _ _ O⟩⟩
    | (have hE:qfh p inp (a:Int)=((m9.out,st9,cd9,a - m9.left),(0,0)):=by rw [hE0,qhm hmf he9 (qiG p inp a mi0 O)]
       have hst:(a:Int) - (m9.left:Int)=((a - m9.left:Nat):Int):=by omega
       exact ⟨Mo9++K9,(List.append_assoc ..).symm,fun s2 hs2 hp=>⟨_,by rw [hE];rfl,Ao,_,co,by rw [hE,hst],by rw [hE];exact Own.bts hO9 fun b zs t hm=>hp b zs t (List.mem_append_left _ hm)⟩⟩)
 have g25:¬ 400000 < inp.length:=by omega
 refine Zk<|Zt<|Zs<|?_
 refine qaR 33 (steps < 0∨50000000 < steps) ?_ ?_
 ·
  refine Zr<|Zqm Z Z<|qba Z Z Z<|Zqm Z Z<|?_
  refine qak (t:=30) Z (fun c11=>?_) (fun c11=>?_)
  ·
   refine Wf Y4<|Wf Y4<|ZqT Z Z Z<|Zn<|?_
   refine qaa (MidB.mk (Lr D) Sb Z ((decide_eq_true O).symm))
  refine Zg Z Z<|Zqm Z Z<|Zg Z Z<|qbA Z Z Z<|ZqF Z Z Z<|Zn<|?_
  refine qaa (MidB.mk (Lr D) Sb Z (decide_eq_decide.2 O))
 intro s10 h10
 refine qab Z (fun c12=>?_) (fun c12=>?_)
 ·
  have hE:qfh p inp steps=_:=qtx g14 g25 c12
  refine Sr<|qaf (qam [] [_,_,_,_] Z Z Z Z Z Z) Z<|Jc Z Z Z (qiL D _ _ _ _) ?_
  rintro _ _ s13 h13 ⟨rfl,rfl⟩
  refine Wt 2 [_,_,_,_] Y9<|Wt 1 [_,_] Y9<|Nt<|Zo<|Zu<|?_
  refine rR [_,_,_,_] _ (.agg (us:=[_,_,_,_]) 2 Z Z Z Z Z (.agg (us:=[_,_]) 1 Z Z Z Z Z (.nil))) Z (h1.t h2|>.t h3|>.t h4|>.t h5|>.t h10|>.t h13) fun _ hS2=>?_
  first
    | exact ⟨[],rfl,fun s2 hs2 hp=>⟨.agg #[.slice none 0 0,.int .i64 0,.int .u32 0,.int .i64 0],by rw [hE];rfl,none,0,0,by rw [hE];rfl,by rw [hE];exact Bts.nil _ _ _ O⟩⟩
    | (have hE:qfh p inp (a:Int)=((m9.out,st9,cd9,a - m9.left),(0,0)):=by rw [hE0,qhm hmf he9 (qiG p inp a mi0 O)]
       have hst:(a:Int) - (m9.left:Int)=((a - m9.left:Nat):Int):=by omega
       exact ⟨Mo9++K9,(List.append_assoc ..).symm,fun s2 hs2 hp=>⟨_,by rw [hE];rfl,Ao,_,co,by rw [hE,hst],by rw [hE];exact Own.bts hO9 fun b zs t hm=>hp b zs t (List.mem_append_left _ hm)⟩⟩)
 obtain ⟨a,rfl⟩:=Int.eq_ofNat_of_zero_le (show 0≤steps by omega)
 have hE0:=qf0 (p:=p) (inp:=inp) (a:=a) g14 g25 c12
 refine Zk<|Zt<|?_
 refine qho (γ:=Nat×Nat×Nat) (fun g=>[(9,.pointer (some ⟨g.1,0,none⟩))]) (fun g=>[(g.1,cb [SN,.slice (some ⟨g.2.1,0,none⟩) ng ng,.slice (some ⟨g.2.2,0,none⟩) ng ng,SN,.int .u32 0,.int .i64 0,.slice Ai ni qi,.int .i64 (a:Int),SN,.int .i64 0,.int .u32 0,.int .i64 0] 51),(g.2.1,cb (wv (List.replicate ng 0)) 29),(g.2.2,cb (List.replicate ng SN) 47)]) (fun g tw=>True) (fun _ _ _ h hl=>h) ?_ ?_
 ·
  refine qay qag 13 Z _ (fun _ h=>h) ?_
  intro s15 h15
  refine za 0 Z (qar Z) Z<|za 1 Z (qar Z) Z<|za 2 Z (qbu Z Z Z Z) Z<|za 3 Z (Wd 3 Y5) Z<|za 4 Z (qbN Z Z Z) Z<|za 6 Z (qbu Z Z Z Z) Z<|za 7 Z (Wd 3 Y5) Z<|za 8 Z (qbN Z Z Z) Z ?_
  refine qb9 5 9 V ?_ ?_
  ·
   refine qbE Z Tt Z Z Z Z Z (by simp [ti29];omega) O Z ?_
   intro βg s16 h16
   rw [← qqG]
   refine qal 9 V<|qbE Z Tt Z Z Z Z Z (by simp [ti47];omega) O Z ?_
   intro βa s17 h17
   refine za 10 Z (qam [(_,_),(_,_),(_,_),(_,_)] [_,_,_,_,_,_,_,_,_,_,_,_] Z Z Z Z Z Z) Z<|qal 11 V<|qlO Z Tt Z Z ?_
   intro β18 s18 h18
   refine za 12 Z (qaY Z) Z<|qad V ?_
   refine qaa (MidN.mk (β18,βg,βa) [] (h15.t h16|>.t h17|>.t h18) (.cons Z sk) (List.Perm.trans (qac _ 1) (List.Perm.trans (qac _ 2) (qac _ 2))) Tt)
  refine qbE Z Tt Z Z Z Z Z (by simp [ti47];omega) O Z ?_
  intro βa s19 h19
  refine qal 5 V<|qbE Z Tt Z Z Z Z Z (by simp [ti29];omega) O Z ?_
  intro βg s20 h20
  rw [← qqG]
  refine za 10 Z (qam [(_,_),(_,_),(_,_),(_,_)] [_,_,_,_,_,_,_,_,_,_,_,_] Z Z Z Z Z Z) Z<|qal 11 V<|qlO Z Tt Z Z ?_
  intro β21 s21 h21
  refine za 12 Z (qaY Z) Z<|qad V ?_
  refine qaa (MidN.mk (β21,βg,βa) [] (h15.t h19|>.t h20|>.t h21) (.cons Z sk) (List.Perm.trans (qac _ 2) (List.Perm.trans (qac _ 2) (qac _ 2))) Tt)
 intro g s14 h14 I14
 simp only [cQ9,nQ9]
 obtain ⟨bm,bg,ba⟩:=g
 dsimp only
 refine Zs<|Sr<|W0 Y5<|qaf (Wd 6 Y5) Z<|Ws Y4<|Zqm Z Z<|Nt<|Zp<|?_
 refine qat (γ:=Nat×List (Option Nat)) (fun g=>[(3,_),(6,_),(7,_),(9,_),(49,_),(50,_),(51,.int .i64 (g.1:Int))]) (fun g=>_::_::(ba,cb (avR p g.2 g.1 ng) 47)::_::_::_::_::(qdL g.2 ((qgW p).take g.1)++L)) (fun g tw=>Le D s14 tw∧(g.1≤ng∧g.2.length=g.1∧∀ (j:Nat) (y:Glo),j < g.1→p.globals[j]?=some y→y.kind=3→∃ b,g.2[j]?=some (some b))) (fun g=>ng - g.1) (fun _ _ _ h hl=>⟨h.1.trans hl,h.2⟩) (0,[]) (.c6 Z Z Z Z Z Z (.cons Z (.nil _))) Z ⟨Le.refl _,⟨Nat.zero_le _,Z,fun j y hj=>absurd hj (Nat.not_lt_zero _)⟩⟩ ?_
 intro g s22 I22
 obtain ⟨k,ab⟩:=g
 obtain ⟨hk0,hab,hak⟩:=I22.2
 simp only at hk0 hab hak
 dsimp only
 refine Sr<|qba Z Z Z<|Nt<|Zs<|?_
 refine qab Z (fun c23=>?_) (fun c23=>?_)
 ·
  have hk:k < ng:=by omega
  obtain ⟨b,off,x,Aq,nq,cq,rfl,hx,hcx,hix,hux,hnl⟩:=Glos.at_ (hGl.le (h1.t h2|>.t h3|>.t h4|>.t h5|>.t h10|>.t h14|>.t I22.1)) hk
  have hn9:=hix.1
  subst hn9
  refine Zk<|Zt<|Zs<|Zp<|Sr<|Zqm Z Z<|qaf (qap Z Z Z Z Z Z hk) Z<|qaf (qas Z Z Z (hcx.le (Lr D)) Z) Z<|qae Z [_,_,_,_] Z Z ?_
  intro β24 s24 h24
  refine Zqa Z Z<|Wt 0 [_,_,_,_] Y9<|Nt<|Sr<|W0 Y5<|Wl 0 Y6<|qax Z Z Z<|Nt<|?_
  refine qab Z (fun c25=>?_) (fun c25=>?_)
  ·
   have g3:x.kind=3:=c25
   have g4:=glo3 (hOK.1.2.2.1 x (List.mem_of_getElem? hx)).1 g3
   have g42:=g4.2
   refine Zs<|qcJ qag 10 Z [3] (by intro x hx;exact qbo hx) ?_
   intro s26 h26
   refine za 0 Z (qar Z) Z<|za 1 Z (qbz Z) Z<|za 2 Z (We Y4) Z<|za 3 Z (Wd 1 Y5) Z<|za 4 Z (qar Z) Z<|za 5 Z (We Y4) Z<|za 6 Z (qaw (Wd 0 Y5) (congrArg (Value.int .u32) (Int.toNat_of_nonneg hux.1).symm)) Z<|qal 7 V<|qbE Z Tt Z Z Z Z Z (by simp [ti29];omega) O Z ?_
   intro βx s27 h27
   refine za 8 Z (qaH Z Z Z Z Z Z hk) Z<|qal 9 V<|qiv Z Tt 4 _ Z Z Z Z Z (qt5 hab hx hk) Z (qr8 hab hx hk) Z (sM (sbN (qby (qfN (sbE _)))))<|qad V<|Zt<|qcJ qag 10 Z [0] (by intro x hx;exact qbo hx) ?_
   intro s29 h29
   refine za 0 Z (qar Z) Z<|za 1 Z (qbz Z) Z<|za 2 Z (We Y4) Z<|za 3 Z (Wd 1 Y5) Z<|za 4 Z (qar Z) Z<|za 5 Z (qaH Z Z Z Z Z Z hk) Z<|za 6 Z (qdQ 3 Z Z Z Z (qsM hab hx)) Z<|za 7 Z (We Y4) Z<|za 8 Z (Wd 0 Y5) Z<|qal 9 V<|qrU Z Tt 0 (L':=(βx,cb (wv (qhC x.num.toNat x.init)) 29)::_) Z Z Z Z Z Z Z (hix.row.le (h24.t h26|>.t h27|>.t h29)) g4.1 (by simp) (by rw [qqL g4.1];rfl) Z (fun x hx _=>List.mem_cons_of_mem _ hx)<|qad V<|Zb<|Zt<|qeE (pmA [_,_,_,_,_,_,_,_]) ?_
   simp only [cQ9,nQ9]
   rw [qsw hab hx g3]
   refine Zr<|qaG Z Z Z (w64 O O)<|Zqm Z Z<|Zn<|?_
   refine qaa ⟨(k+1,ab++[some βx]),[_],kp,Z,⟨(I22.1.t h24|>.t h26|>.t h27|>.t h29),⟨by simp only;omega,by simp [hab],qno hab hx hak (fun h=>by first | exact ⟨_,Z⟩ | exact absurd h g3)⟩⟩,Oz⟩
  have g3:¬ x.kind=3:=c25
  refine Zk<|Zb<|Zt<|?_
  rw [qqh hab hx hk,qor hab hx]
  refine Zr<|qaG Z Z Z (w64 O O)<|Zqm Z Z<|Zn<|?_
  refine qaa ⟨(k+1,ab++[none]),[_],kp,Z,⟨(I22.1.t h24),⟨by simp only;omega,by simp [hab],qno hab hx hak (fun h=>by first | exact ⟨_,Z⟩ | exact absurd h g3)⟩⟩,Oz⟩
 obtain rfl:ng=k:=by omega
 rw [show (qgW p).take ng=qgW p from List.take_of_length_le (by rw [qgW,List.length_map];omega)]
 refine Zl<|Zv<|Zv<|Zd<|Zt<|Sr<|At Z Z<|Zs<|Sr<|Wb Y5<|qaf (Wd 6 Y5) Z<|Ws Y4<|Zqm Z Z<|Nt<|Zp<|?_
 rw [← List.nil_append (qdL ab (qgW p)++L)]
 refine qat (γ:=Nat×Int×Value×Hl) (fun g=>[(3,_),(6,_),(7,_),(9,_),(12,.int .i64 g.2.1),(80,_),(81,_),(82,.int .i64 (g.1:Int))]) (fun g=>(bm,cb [g.2.2.1,.slice (some ⟨bg,0,none⟩) ng ng,.slice (some ⟨ba,0,none⟩) ng ng,SN,.int .u32 0,.int .i64 0,.slice Ai ni qi,.int .i64 (a:Int),SN,.int .i64 0,.int .u32 0,.int .i64 0] 51)::_::_::_::_::_::_::(g.2.2.2++(qdL ab (qgW p)++L))) (fun g tw=>Le D s22 tw∧(g.1≤nf∧(∃ css,FL.Own 63 2 g.2.2.2 g.2.2.1 g.1 (List.flatten css)∧All2 (fun f cs=>cs.length=2∧FnV p tw f cs) (p.funcs.take g.1) css)∧∀ (j:Nat) (y:Fnc),j < g.1→p.funcs[j]?=some y→y.name=qbw→g.2.1=(j:Int))) (fun g=>nf - g.1) (fun _ _ _ h hl=>⟨h.1.trans hl,⟨h.2.1,(by obtain ⟨css,q1,q2⟩:=h.2.2.1;exact ⟨css,q1,q2.mono fun _ _ k=>⟨k.1,k.2.le hl⟩⟩),h.2.2.2⟩⟩) (0,0,SN,[]) (.c6 Z Z Z Z Z Z (.c2 Z Z (.nil _))) Z ⟨Le.refl _,⟨Nat.zero_le _,⟨[],FL.Own.nil,.nil⟩,fun j y hj=>absurd hj (Nat.not_lt_zero _)⟩⟩ ?_
 intro g s31 I31
 obtain ⟨k,mi,vf,Mf⟩:=g
 obtain ⟨hk0,⟨css,hO,hA2⟩,hmi⟩:=I31.2
 simp only at hk0 hO hA2 hmi
 dsimp only
 obtain ⟨Af2,cf2,rfl,_,_⟩:=Own.slice hO
 refine Sr<|qba Z Z Z<|Nt<|Zs<|?_
 refine qab Z (fun c32=>?_) (fun c32=>?_)
 ·
  have hk:k < nf:=by omega
  obtain ⟨b,off,x,B1,m1,d1,B2,m2,d2,B3,m3,d3,rfl,hx,hcx,hpx,hlx,hbx,hnl⟩:=Fncs.at_ (hFn.le (h1.t h2|>.t h3|>.t h4|>.t h5|>.t h10|>.t h14|>.t I22.1|>.t I31.1)) hk
  have hfx:=hVf x (List.mem_of_getElem? hx)
  have q83:=hOK.sz x (List.mem_of_getElem? hx)
  have qp83:=hpx.1
  have ql83:=hlx.1
  refine Zk<|Zt<|Zs<|Zp<|Sr<|Zqm Z Z<|qaf (qap Z Z Z Z Z Z hk) Z<|qaf (qas Z Z Z (hcx.le (Lr D)) Z) Z<|qae Z [_,_,_,_] Z Z ?_
  intro β33 s33 h33
  refine Zqa Z Z<|Wt 0 [_,_,_,_] Y9<|Nt<|?_
  refine qeC (γ:=Int) (fun mj=>[(12,.int .i64 mj)]) [_,_,_,_,_,_,_,_] Z (fun mj=>Mf++(qdL ab (qgW p)++L)) (fun mj tw=>(x.name=qbw→mj=(k:Int))∧(¬ x.name=qbw→mj=mi)) (fun _ _ _ h hl=>h) ?_ ?_
  ·
   refine Sr<|W0 Y5<|Wl 0 Y6<|qll Z Z Z<|Nt<|?_
   refine qab Z (fun c35=>?_) (fun c35=>?_)
   ·
    have gmn:x.name=qbw:=c35
    refine Zr<|Zqm Z Z<|Zqa Z Z<|Zn<|?_
    refine qaa (MidG.mk (k:Int) [] (Lr D) kp So Pr ⟨fun h=>(by first | rfl | exact absurd h gmn),fun h=>(by first | rfl | exact absurd gmn h)⟩)
   have gmn:¬ x.name=qbw:=c35
   refine Zk ?_
   refine qaa (MidG.mk mi [] (Lr D) kp So Pr ⟨fun h=>(by first | rfl | exact absurd h gmn),fun h=>(by first | rfl | exact absurd gmn h)⟩)
  intro mj s34 h34 I34
  simp only [cQ9,nQ9]
  have hmj:=I34
  refine Sr<|qaf (qan 7 [_,_] Z Z Z Z Z) Z<|qaf (qan 0 [_,_,_,_] Z Z Z Z Z) Z<|qaf (qam [(_,_),(_,_)] [_,_,_,_,_,_] Z Z Z Z Z Z) Z<|qae Z [_,_,_,_,_,_] Z Z ?_
  intro β36 s36 h36
  refine Wt 0 [_,_,_,_,_,_] Y9<|Nt<|qa1 qag 22 Z 2 ?_
  intro s37 h37
  refine za 0 Z (qar Z) Z<|za 1 Z (qar Z) Z<|za 2 Z (qbz Z) Z<|za 3 Z (qbu Z Z Z Z) Z<|za 5 Z (We Y4) Z<|za 6 Z (Wd 1 Y5) Z<|za 7 Z (qbN Z Z Z) Z<|za 8 Z (We Y4) Z<|za 9 Z (Wd 1 Y5) Z<|za 10 Z (qbN Z Z Z) Z<|za 11 Z (qaw (qaX Z Z (w64 O O)) (congrArg (Value.int .i64) (show (m1:Int)+(m2:Int)=((x.params.length+x.locals.length:Nat):Int) by have:=hpx.1;have:=hlx.1;omega))) Z<|za 12 Z (qan 0 [_,_,_,_,_,_] Z Z Z Z Z) Z<|za 13 Z (We Y4) Z ?_
  refine za 14 Z (Wd 1 Y5) Z ?_
  refine qb9 4 15 V ?_ ?_
  ·
   refine qcf Z Tt (Wd 2 Y5) Z<|qal 15 V ?_
   refine Jb Z Tt Z Z Z (tsr D d _ _ d p Ag _ ng cg nf cf (hGl.le (h1.t h2|>.t h3|>.t h4|>.t h5|>.t h10|>.t h14|>.t I22.1|>.t I31.1|>.t h33|>.t h34|>.t h36|>.t h37)) (hFn.le (h1.t h2|>.t h3|>.t h4|>.t h5|>.t h10|>.t h14|>.t I22.1|>.t I31.1|>.t h33|>.t h34|>.t h36|>.t h37)) x B1 B2 B3 m1 d1 m2 d2 m3 d3 (hpx.le (h33.t h34|>.t h36|>.t h37)) (hlx.le (h33.t h34|>.t h36|>.t h37)) (hOK.sz x (List.mem_of_getElem? hx)) hOK.pok B3 m3 d3 x.body (hbx.le (h33.t h34|>.t h36|>.t h37)) (hOK.st (List.mem_of_getElem? hx)).1 (hOK.st (List.mem_of_getElem? hx)).2) ?_
   rintro _ _ s38 h38 ⟨rfl,A',n',c',rfl,hV⟩
   refine ⟨fun _ _ h=>h,?_⟩
   refine za 16 Z (qam [(_,_),(_,_)] [_,_] Z Z Z Z Z Z) Z<|qal 17 V<|qjj Z Tt [(_,_)] [_,_] Z Z Z Z Z Z Z Z Z ?_
   intro βn s39 h39 hcb
   refine qal 18 V<|qhf Z Tt (sz:=2) [_,_,_,_,_,_,_,_,_] Mf _ Z Z Z Z Z Z Z hO (Row.of_cells (hcb.le (Lr D)) Z Z) ⟨by simp [ti63];omega,by omega⟩ Z (fun _ x hx _=>qti hx) ?_
   intro vq Mq s40 h40 oq
   obtain ⟨Avq,cvq,rfl,_,_⟩:=Own.slice oq
   simp only [cQ9,nQ9]
   refine za 19 Z (qbz Z) Z<|za 20 Z (qbu Z Z Z Z) Z<|qal 21 V<|Wu Z Tt 2 [_,_,_,_,_,_,_,_,_,_,_,_] Y9 (sM (qb3 (sb0 _)))<|qad V<|Zb<|Zt<|Zr<|qaG Z Z Z (w64 O O)<|Zqm Z Z<|Zn<|?_
   refine qaa ⟨(k+1,mj,.slice Avq (k+1) cvq,Mq),[_,_],kp,Z,⟨(I31.1.t h33|>.t h34|>.t h36|>.t h37|>.t h38|>.t h39|>.t h40),⟨by simp only;omega,⟨css++[[.int .i64 ((x.params.length+x.locals.length:Nat):Int),.slice A' n' c']],by simp only [List.flatten_append,List.flatten_cons,List.flatten_nil,List.append_nil];exact oq,by simp only;rw [qaT hx];exact qcY (hA2.mono fun _ _ k=>⟨k.1,k.2.le (h33.t h34|>.t h36|>.t h37|>.t h38|>.t h39|>.t h40)⟩) ⟨Z,d,A',n',c',Z,hV.le (h39.t h40)⟩⟩,qfu hND hx hmi hmj.1 hmj.2⟩⟩,Oz⟩
  refine Jb Z Tt Z Z Z (tsr D d _ _ d p Ag _ ng cg nf cf (hGl.le (h1.t h2|>.t h3|>.t h4|>.t h5|>.t h10|>.t h14|>.t I22.1|>.t I31.1|>.t h33|>.t h34|>.t h36|>.t h37)) (hFn.le (h1.t h2|>.t h3|>.t h4|>.t h5|>.t h10|>.t h14|>.t I22.1|>.t I31.1|>.t h33|>.t h34|>.t h36|>.t h37)) x B1 B2 B3 m1 d1 m2 d2 m3 d3 (hpx.le (h33.t h34|>.t h36|>.t h37)) (hlx.le (h33.t h34|>.t h36|>.t h37)) (hOK.sz x (List.mem_of_getElem? hx)) hOK.pok B3 m3 d3 x.body (hbx.le (h33.t h34|>.t h36|>.t h37)) (hOK.st (List.mem_of_getElem? hx)).1 (hOK.st (List.mem_of_getElem? hx)).2) ?_
  rintro _ _ s41 h41 ⟨rfl,A',n',c',rfl,hV⟩
  refine ⟨fun _ _ h=>h,?_⟩
  refine za 16 Z (qam [(_,_),(_,_)] [_,_] Z Z Z Z Z Z) Z ?_
  refine qb9 4 17 V ?_ ?_
  ·
   refine qcf Z Tt (Wd 2 Y5) Z<|qal 17 V<|qjj Z Tt [(_,_)] [_,_] Z Z Z Z Z Z Z Z Z ?_
   intro βn s42 h42 hcb
   refine qal 18 V<|qhf Z Tt (sz:=2) [_,_,_,_,_,_,_,_,_] Mf _ Z Z Z Z Z Z Z hO (Row.of_cells (hcb.le (Lr D)) Z Z) ⟨by simp [ti63];omega,by omega⟩ Z (fun _ x hx _=>qti hx) ?_
   intro vq Mq s43 h43 oq
   obtain ⟨Avq,cvq,rfl,_,_⟩:=Own.slice oq
   simp only [cQ9,nQ9]
   refine za 19 Z (qbz Z) Z<|za 20 Z (qbu Z Z Z Z) Z<|qal 21 V<|Wu Z Tt 2 [_,_,_,_,_,_,_,_,_,_,_,_] Y9 (sM (qb3 (sb0 _)))<|qad V<|Zb<|Zt<|Zr<|qaG Z Z Z (w64 O O)<|Zqm Z Z<|Zn<|?_
   refine qaa ⟨(k+1,mj,.slice Avq (k+1) cvq,Mq),[_,_],kp,Z,⟨(I31.1.t h33|>.t h34|>.t h36|>.t h37|>.t h41|>.t h42|>.t h43),⟨by simp only;omega,⟨css++[[.int .i64 ((x.params.length+x.locals.length:Nat):Int),.slice A' n' c']],by simp only [List.flatten_append,List.flatten_cons,List.flatten_nil,List.append_nil];exact oq,by simp only;rw [qaT hx];exact qcY (hA2.mono fun _ _ k=>⟨k.1,k.2.le (h33.t h34|>.t h36|>.t h37|>.t h41|>.t h42|>.t h43)⟩) ⟨Z,d,A',n',c',Z,hV.le (h42.t h43)⟩⟩,qfu hND hx hmi hmj.1 hmj.2⟩⟩,Oz⟩
  refine qjj Z Tt [(_,_)] [_,_] Z Z Z Z Z Z Z Z Z ?_
  intro βn s44 h44 hcb
  refine qal 4 V<|qcf Z Tt (Wd 2 Y5) Z<|qal 18 V<|qhf Z Tt (sz:=2) [_,_,_,_,_,_,_,_,_] Mf _ Z Z Z Z Z Z Z hO (Row.of_cells (hcb.le (Lr D)) Z Z) ⟨by simp [ti63];omega,by omega⟩ Z (fun _ x hx _=>qti hx) ?_
  intro vq Mq s45 h45 oq
  obtain ⟨Avq,cvq,rfl,_,_⟩:=Own.slice oq
  simp only [cQ9,nQ9]
  refine za 19 Z (qbz Z) Z<|za 20 Z (qbu Z Z Z Z) Z<|qal 21 V<|Wu Z Tt 2 [_,_,_,_,_,_,_,_,_,_,_,_] Y9 (sM (qb3 (sb0 _)))<|qad V<|Zb<|Zt<|Zr<|qaG Z Z Z (w64 O O)<|Zqm Z Z<|Zn<|?_
  refine qaa ⟨(k+1,mj,.slice Avq (k+1) cvq,Mq),[_,_],kp,Z,⟨(I31.1.t h33|>.t h34|>.t h36|>.t h37|>.t h41|>.t h44|>.t h45),⟨by simp only;omega,⟨css++[[.int .i64 ((x.params.length+x.locals.length:Nat):Int),.slice A' n' c']],by simp only [List.flatten_append,List.flatten_cons,List.flatten_nil,List.append_nil];exact oq,by simp only;rw [qaT hx];exact qcY (hA2.mono fun _ _ k=>⟨k.1,k.2.le (h33.t h34|>.t h36|>.t h37|>.t h41|>.t h44|>.t h45)⟩) ⟨Z,d,A',n',c',Z,hV.le (h44.t h45)⟩⟩,qfu hND hx hmi hmj.1 hmj.2⟩⟩,Oz⟩
 obtain rfl:nf=k:=by omega
 rw [List.take_of_length_le O] at hA2
 obtain ⟨mi0,xm,hmf,hxm,hnm,hpm⟩:=qeg hOK.2.1
 obtain rfl:=hmi mi0 xm (by rw [hn2];exact (List.getElem?_eq_some_iff.1 hxm).1) hxm hnm
 refine Zl<|Zv<|Zv<|Zd<|Zt<|Zs<|qbs [_,_,_,_,_,_,_] Mf _ ?_
 intro s46 h46 hpub46
 simp only [cQ9,nQ9]
 have hFV:Sl 2 (FnV p) s46 Af2 nf cf2 p.funcs:=Own.rows hO hpub46 (hA2.mono fun _ _ k=>⟨k.1,k.2.le h46⟩) hn2
 refine qbs [_,_] [_] _ ?_
 intro s47 h47 hpub47
 simp only [cQ9,nQ9]
 have hca0:=hpub47 _ _ _ (List.mem_singleton.2 rfl)
 rw [avR,Nat.sub_self,List.replicate_zero,List.append_nil,List.take_of_length_le O] at hca0
 have hca:CellsAt s47 ba 0 (qid ab p.globals):=hca0
 have hFV:=Sl.le (fun _ _ h=>FnV.le h47 h) hFV h47
 refine qeE (.cons _ (.cons _ (List.perm_append_comm_assoc [_,_,_,_] (qdL ab (qgW p)) L))) ?_
 simp only [cQ9,nQ9]
 rw [← qrT p inp a ⟨bm,bg,0,ba,Af2,nf,cf2,ng,0,ab⟩ _,show List.replicate ng (0:Int)=(qhW p inp a).glo from by rw [hn1];rfl]
 have hCT:CT p (⟨bm,bg,0,ba,Af2,nf,cf2,ng,0,ab⟩:MC) s47:=⟨hFV,hca,hOK.sz,fun g hg=>(hU.1 g hg).1⟩
 have hMG:MG p (⟨bm,bg,0,ba,Af2,nf,cf2,ng,0,ab⟩:MC) a (qhW p inp a) (.slice Ai ni qi) SN (qdL ab (qgW p)) s47:=qvx (ng:=ng) hOK hU (hI.le (h1.t h2|>.t h3|>.t h4|>.t h5|>.t h10|>.t h14|>.t I22.1|>.t I31.1|>.t h46|>.t h47)) O hn1 rfl hab (fun j y hy h3=>hak j y (by rw [hn1];exact (List.getElem?_eq_some_iff.1 hy).1) hy h3)
 refine Zr<|Zqm Z Z<|Zqm Z Z<|Jc Z Z Z (qqt p D fuX (qqY p D fuX).2.2 _ _ (⟨bm,bg,0,ba,Af2,nf,cf2,ng,0,ab⟩:MC) a mi0 xm (qhW p inp a) _ _ _ _ _ _ hCT hxm hpm hMG (qiG p inp a mi0 O)) ?_
 rintro _ _ s48 h48 ⟨rfl,m9,st9,cd9,Z9,rfl,hF9,he9⟩
 refine Nt<|Zs<|?_
 obtain ⟨u0,u1,u2,u3,u4,u5,u6,u7,ov9,Mo9,K9,hp9,hO9,hlo9,hll9⟩:=hF9
 obtain ⟨Ao,co,rfl,_,_⟩:=Own.slice hO9
 refine qeE (pm26 hp9)<|Zr<|Zqm Z Z<|qcD Z Z<|Wb Y5<|qaf (qan 0 [_,_,_,_] Z Z Z Z Z) Z<|qaf (qam [] [_,_] Z Z Z Z Z Z) Z<|Wt 3 [_,_,_,_] Y9<|Wt 2 [_,_] Y9<|Nt<|Zo<|?_
 refine rR [_,_,_,_,_] _ (.agg (us:=[_,_,_,_]) 3 Z Z Z Z Z (.agg (us:=[_,_]) 2 Z Z Z Z Z (.nil))) Z (h1.t h2|>.t h3|>.t h4|>.t h5|>.t h10|>.t h14|>.t I22.1|>.t I31.1|>.t h46|>.t h47|>.t h48) fun _ hS2=>?_
 first
   | exact ⟨[],rfl,fun s2 hs2 hp=>⟨.agg #[.slice none 0 0,.int .i64 0,.int .u32 0,.int .i64 0],by rw [hE];rfl,none,0,0,by rw [hE];rfl,by rw [hE];exact Bts.nil _ _ _ O⟩⟩
   | (have hE:qfh p inp (a:Int)=((m9.out,st9,cd9,a - m9.left),(0,0)):=by rw [hE0,qhm hmf he9 (qiG p inp a mi0 O)]
      have hst:(a:Int) - (m9.left:Int)=((a - m9.left:Nat):Int):=by omega
      exact ⟨Mo9++K9,(List.append_assoc ..).symm,fun s2 hs2 hp=>⟨_,by rw [hE];rfl,Ao,_,co,by rw [hE,hst],by rw [hE];exact Own.bts hO9 fun b zs t hm=>hp b zs t (List.mem_append_left _ hm)⟩⟩)
end Go.Proofs.YtpdnijphccdiiaaGreatDoor
