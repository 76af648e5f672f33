/- Part 9. -/
import Derived.Test.YtlfiplbamnpgoaaGreatDoorQ39x8
import Derived.Recover
import Derived.ControlIn
set_option linter.unusedSectionVars false
set_option linter.unusedVariables false
set_option linter.defProp false
set_option linter.unusedSimpArgs false
set_option linter.unnecessarySimpa false
set_option maxRecDepth 100000
set_option maxHeartbeats 8000000
namespace Go.Proofs.YtlfiplbamnpgoaaGreatDoor
open Go.Proofs.Tryz
open Go.FL
attribute [local irreducible] JC JO JA JB qaJ qax qbN AC fill CellsAt QE Ev Mid
variable(D:Nat)(L:Hl)(s:World){m:MS}{p:Prg}{c:MC}{vs:List Int}{iv ov v:Value}{a y:Nat×Obj}{x:Stm}
def Ck{α:Type}(m:MS):ER α→Prop
 | .ok _ m1=>m1.calls=m.calls
 | _=>True
def Ck.and{α β:Type}{r:ER α}{k:α→MS→ER β}(h:Ck m r)(hk:∀ a m1,Ck m1 (k a m1)):Ck m (r.and k):=by
 cases r with
 | out=>trivial
 | fin m1 st cd=>trivial
 | ok a m1=>
  have h2:=hk a m1;have h3:m1.calls=m.calls:=h;show Ck m (k a m1);cases hr:k a m1 with
  | out=>trivial
  | fin m2 st cd=>trivial
  | ok b m2=>rw [hr] at h2;exact (show m2.calls=m1.calls from h2).trans h3
def qoE{E:Ex→MS→ER Int}(hE:∀ x m,Ck m (E x m)):∀ (l:List Ex) (m:MS),Ck m (qbf E l m)
 | [],m=>by rw [qbf];exact rfl
 | x::r,m=>by rw [qbf];exact (hE x m).and fun v m1=>(qoE hE r m1).and fun _ _=>rfl
def qoF{T:Stm→MS→ER (Int×Int)}(hT:∀ x m,Ck m (T x m)):∀ (l:List Stm) (m:MS),Ck m (qbl T l m)
 | [],m=>by rw [qbl];exact rfl
 | x::r,m=>by
  rw [qbl];refine (hT x m).and fun y m1=>?_;split
  · exact qoF hT r m1
  · exact rfl
def qvr{p:Prg}{OP:Int→Int→Int→Option Int}:∀ n,(∀ f x m,Ck m ((sem p OP n).e f x m))∧(∀ i vs m,Ck m ((sem p OP n).c i vs m))∧(∀ f x m,Ck m ((sem p OP n).t f x m))∧∀ f c b m,Ck m ((sem p OP n).w f c b m)
  | 0=>⟨fun _ _ _=>trivial,fun _ _ _=>trivial,fun _ _ _=>trivial,fun _ _ _ _=>trivial⟩
  | n+1=>by
    obtain ⟨hE,hC,hT,hW⟩:=qvr (p:=p) (OP:=OP) n;have hR:=fun f=>qoF (T:=(sem p OP n).t f) (hT f);have hS:∀ m:MS,Ck m (qkv m):=fun m=>by unfold qkv;split;exact trivial;exact rfl
    refine ⟨fun f x m=>(hS m).and fun _ m=>?_,fun i vs m=>?_,fun f x m=>(hS m).and fun _ m=>?_,fun f c b m=>?_⟩
    · unfold vX
      split;exact rfl;split;exact rfl;split
      · exact (hE _ _ _).and fun i m=>by split;exact trivial;exact rfl
      split
      · exact (qoE (hE f) _ _).and fun vs m=>hC _ _ _
      split
      · unfold qvC;split<;>exact rfl
      split
      · exact (hE _ _ _).and fun a m=>rfl
      · refine (hE _ _ _).and fun a m=>?_
        split;exact rfl;split;exact rfl;refine (hE _ _ _).and fun b m=>?_;split;exact rfl;exact trivial
    · show Ck m (cX p (sem p OP n) i vs m)
      unfold cX;split
      · trivial
      · generalize qbl ((sem p OP n).t (p.funcs.getD i fn0)) (p.funcs.getD i fn0).body _=r
        cases r<;>first|trivial|rfl
    · unfold sX
      split
      · refine (hE _ _ _).and fun v m=>?_
        unfold qny;split<;>exact rfl
      split
      · refine (hE _ _ _).and fun i m=>?_
        split;exact trivial;exact (hE _ _ _).and fun v m=>rfl
      split
      · refine (hE _ _ _).and fun v m=>?_
        split;exact hR f _ _;exact hR f _ _
      split
      · exact hW _ _ _ _
      split
      · exact (qoE (hE f) _ _).and fun vs m=>(hC _ _ _).and fun _ m=>rfl
      split
      · exact (hE _ _ _).and fun v m=>rfl
      split
      · refine (hE _ _ _).and fun v m=>?_
        split;exact trivial;exact rfl
      split
      · exact (hE _ _ _).and fun v m=>trivial
      split;exact rfl;exact rfl
    · show Ck m (wX (sem p OP n) f c b m)
      unfold wX;refine (hE _ _ _).and fun v m=>?_;split;exact rfl;refine (hR f _ _).and fun y m=>?_;split;exact rfl;split;exact rfl;exact hW _ _ _ _
def qE2{OP:Int→Int→Int→Option Int}{n:Nat}{f:Fnc}{l:List Stm}{m1:MS}{a:Int×Int}(h:qbl ((sem p OP n).t f) l m=.ok a m1):m1.calls=m.calls:=by
 have:=qoF (T:=(sem p OP n).t f) ((qvr (p:=p) (OP:=OP) n).2.2.1 f) l m;rw [h] at this;exact this
def CT.at_{s:World}{k:Nat}{fk:Fnc}(h:CT p c s)(hp:p.funcs[k]?=some fk):∃ b off d A n q,c.Af=some ⟨b,off,none⟩∧k < c.nF∧CellsAt s b (off+k * 2) [.int .i64 ((fk.params.length+fk.locals.length:Nat):Int),.slice A n q]∧VsS p fk d s A n q fk.body:=by
 obtain ⟨b,off,cs,h1,h2,_,d,A,n,q,rfl,h4⟩:=h.fn.2.2.2 k fk hp;exact ⟨b,off,d,A,n,q,h1,by rw [h.fn.1];exact (List.getElem?_eq_some_iff.1 hp).1,h2,h4⟩
def qvx{sz:Nat}(h:vs.length≤sz):wv vs++(List.replicate sz (Value.int .u32 0)).drop vs.length=wv (qeQ sz vs):=by
 rw [List.drop_replicate,qeQ,List.take_of_length_le h,wv,wv,List.map_append,List.map_replicate]
theorem qoW{sz:Nat}(h:vs.length≤sz):(qeQ sz vs).length=sz:=by grind [qeQ,List.length_append]
def qCw{sz:Nat}(h:∀ x∈vs,U32 x):∀ x∈qeQ sz vs,U32 x:=fun x hx=>by
 rcases List.mem_append.1 hx with hx|hx
 · exact h x (List.mem_of_mem_take hx)
 · rw [List.mem_replicate] at hx;rw [hx.2];exact ⟨by decide,by decide⟩
def MG.call{N:Nat}{R:Hl}{s:World}(h:MG p c N m iv ov R s){l:List Int}{bf nf:Nat}(hl:l.length=nf)(hu:∀ x∈l,U32 x)(hc:¬ m.calls=100):MG p (c.wf bf nf) N { m with frm:=l,calls:=m.calls+1 } iv ov R s:=⟨h.inp,h.out,h.ug,hu,h.ua,h.ng,h.lg,hl,h.lb,h.la,h.ar,h.lo,by have:=h.lc;show m.calls+1≤100;omega,h.ll,h.lN⟩
def MG.back{bf nf N:Nat}{m0:MS}{R:Hl}{s:World}(h:MG p (c.wf bf nf) N m iv ov R s){iv0 ov0:Value}{R0:Hl}{s0:World}(h0:MG p c N m0 iv0 ov0 R0 s0):MG p c N { m with frm:=m0.frm,calls:=m0.calls } iv ov R s:=⟨h.inp,h.out,h.ug,h0.uf,h.ua,h.ng,h.lg,h0.lf,h.lb,h.la,h.ar,h.lo,h0.lc,h.ll,h.lN⟩
def CT.wf{s:World}(h:CT p c s)(bf nf:Nat):CT p (c.wf bf nf) s:=⟨h.fn,h.ar,h.fs,h.gu⟩
def pm52{x:Nat×Obj}{L:Hl}:(a::x::y::L).Perm (x::y::a::L):=(List.Perm.swap x a _).trans ((List.Perm.swap y a _).cons x)
def pm53{x:Nat×Obj}{L:Hl}:(x::y::a::L).Perm (a::x::y::L):=pm52.symm
def pm54{x z:Nat×Obj}{R L:Hl}:(x::y::z::(R++L)).Perm (x::y::(R++z::L)):=((List.perm_middle (l₁:=R) (a:=z) (l₂:=L)).symm.cons y).cons x
def AP.perm{D:Nat}{f:FuncId}{args:List Value}{L L1:Hl}{s:World}{R R':Value→Hl→World→Prop}{X X':List PanicEntry→Hl→World→Prop}(hp:L.Perm L1)(h:AP prog D f args L1 s R X)(hq:∀ v L1' s',R v L1' s'→∃ L',L1'.Perm L'∧R' v L' s')(hx:∀ ch L1' s',X ch L1' s'→∃ L',L1'.Perm L'∧X' ch L' s'):AP prog D f args L s R' X':=
  ⟨h.1,fun ho=>by
    rw [qa5 hp _ ho];refine (h.2 (ho.perm hp)).mono ?_;rintro e w' ⟨L1',s',hw,hok,hl,hr⟩;rcases hr with ⟨v,he,hr⟩|⟨ch,he,hr⟩
    · obtain ⟨L',h1,h2⟩:=hq v L1' s' hr
      exact ⟨L',s',by rw [hw,qa5 h1 _ hok],hok.perm h1,hl,.inl ⟨v,he,h2⟩⟩
    · obtain ⟨L',h1,h2⟩:=hx ch L1' s' hr
      exact ⟨L',s',by rw [hw,qa5 h1 _ hok],hok.perm h1,hl,.inr ⟨ch,he,h2⟩⟩⟩
def okF(p:Prg)(c:MC)(N:Nat)(fv:Value)(r:ER Int)(L:Hl)(v:Value)(L':Hl)(s':World):Prop:=∃ a m' iv ov R,r=.ok a m'∧VE a v∧L'=MBv c N 0 m' iv ov 0 0 fv::MGb c m'::(R++L)∧MG p c N m' iv ov R s'
def qEW{S:Sem}{k:Nat}{fk:Fnc}(hp:p.funcs[k]?=some fk)(vs:List Int)(m:MS):cX p S k vs m=if m.calls=100 then .fin m 1 3 else (qbl (S.t fk) fk.body { m with frm:=qeQ (fk.params.length+fk.locals.length) vs,calls:=m.calls+1 }).and fun y m1=>.ok (if y.1=3 then y.2 else 0) { m1 with frm:=m.frm,calls:=m.calls }:=by simp [hp,cX]
def qlF(p:Prg)(D n:Nat)(hT:TOK p D n)(L:Hl)(s:World)(c:MC)(N k:Nat)(fk:Fnc)(vs:List Int)(A1:Option Addr)(n1 z1:Nat)(m:MS)(iv ov:Value)(F0:Option Addr)(n0 z0:Nat)(R:Hl)(hC:CT p c s)(hW:Wds s A1 n1 z1 vs)(hp:p.funcs[k]?=some fk)(hl:vs.length=fk.params.length)(hM:MG p c N m iv ov R s)(hr:cX p (sem p OPp n) k vs m≠.out):AP prog D 50 [.pointer (some ⟨c.bm,0,none⟩),.int .i64 (k:Int),.slice A1 n1 z1] (MBv c N 0 m iv ov 0 0 (.slice F0 n0 z0)::MGb c m::(R++L)) s (okF p c N (.slice F0 n0 z0) (cX p (sem p OPp n) k vs m) L) (qeH c N (cX p (sem p OPp n) k vs m) [] L):=by
 obtain ⟨r,hq⟩:∃ r,r=cX p (sem p OPp n) k vs m:=⟨_,rfl⟩;rw [← hq] at hr ⊢;rw [qEW hp] at hq;obtain ⟨bF,oF,d,Ab,nb,cb9,hAf,hkF,hcf,hB⟩:=hC.at_ hp;have hf9:=hC.fs fk (List.mem_of_getElem? hp);have hn1:=hW.1;have hcl:=hM.lc;have hvl:vs.length≤fk.params.length+fk.locals.length:=by omega
 subst hn1;refine qaZ (fn:=f50) qao func50 V Z ntmps50 Z (rs:=[.tmp 6]) Z [(0,_),(1,_),(2,_)] Z<|J15 ?_ ?_<;>intro c1
 ·have q9:=c1;refine G2 ?_;refine qbb (first:=[]) (captured:=[]) Z Z Z (qdS D [] _ _ c N _ m iv ov _ _) ?_ ?_
  ·rintro _ _ sx2 hx2 ⟨hp2,rfl⟩ fr9;repeat (first|refine qbC ?_|refine qbh ?_)
   refine qbZ [] _ Pr hx2 fun _ hS2=>?_;exact ⟨hp2,m,1,3,_,by rw [hq,if_pos O],rfl,(hM.le hx2).finv _ _ _ _ [MGb c m]⟩
  rintro _ _ s2 h2 ⟨⟩
 have q9:¬ m.calls=100:=by have:=c1;omega
 rw [if_neg q9] at hq;refine G7 ?_;refine qae (qaC (Wd 0 Y5) (congrArg (fun a=>Value.slice a c.nF c.cF) hAf)) Z<|Zqm Z Z<|qae (qaw Z Z Z Z Z Z hkF) Z<|qae (qat Z Z Z (hcf.le (Lr D)) Z) Z<|qac Z [_,_] Z Z fun β2 s2 h2=>Wt 0 [_,_] Y9<|Nt<|Zs<|qcM [] [_] _ ?_;intro s3 h3 hpub3;have e3:=h2.t h3;simp only [cQ9,nQ9];have hc7:=hpub3 _ _ _ (List.mem_singleton.2 rfl)
 refine G12 ?_;refine qae (qak Z Z Z (hc7.le (Lr D)) Z) Z<|qEB (m:=fk.params.length+fk.locals.length) Z Z Z Z Z Q10 O Z fun β s4 h4=>G2 ?_;refine Wt 1 [_,_,_,_,_,_,_,_,_,_,_,_] Y9<|G9 ?_;refine qeU 0 (L':=(β,cb (wv (qeQ (fk.params.length+fk.locals.length) vs)) 34)::_) Z Z Z Z Z Z Z (hW.row.le (e3.t h4)) hvl (by simp) (by rw [qvx hvl];rfl) Z<|Nt<|Zs<|qgF pm52<|G5 ?_;have e4:=e3.t h4;refine qae (qaC (qaI Z Z (w64 O O)) (congrArg (Value.int .i64) (show (m.calls:Int)+1=((m.calls+1:Nat):Int) by omega))) Z<|G2 ?_;refine Wt 0 [_,_,_,_,_,_,_,_,_,_,_,_] Y9<|G7 ?_;refine Wt 0 [_,_,_,_,_,_,_,_,_,_,_,_] Y9<|G5 ?_;refine qae (qbD Z Z Z Z) Z<|qae (qa8 1 Z Z Z (hc7.le h4) Z) Z ?_;refine qbb (first:=[]) (captured:=[]) Z Z Z (qmn p D n hT L _ (c.wf β (fk.params.length+fk.locals.length)) N fk d fk.body { m with frm:=qeQ (fk.params.length+fk.locals.length) vs,calls:=m.calls+1 } iv ov R ((hC.le e4).wf _ _) Z ((hM.le e4).call (qoW hvl) (qCw hW.u32) q9) Ab nb cb9 (hB.le e4) (qbK hq hr)) ?_ ?_
 ·rintro _ _ sx6 hx6 ⟨hp6,mf6,sf6,cf6,Zf6,he6,rfl,hF6⟩ fr9;repeat (first|refine qbC ?_|refine qbh ?_)
  refine qbZ [] _ Pr (e4|>.t hx6) fun _ hS2=>?_;exact ⟨hp6,mf6,sf6,cf6,Zf6,qg0 hq he6,rfl,hF6.wf⟩
 rintro _ _ s6 h6 ⟨⟨a6,y6⟩,m6,iv6,ov6,R6,he6,⟨rfl,hu6,hz6⟩,rfl,hM6⟩;have hck:m6.calls=m.calls+1:=qE2 he6;rw [he6] at hq;simp only [ER.and] at hq;rw [show (if a6=3 then y6 else 0)=y6 from by split;rfl;rename_i h8;exact (hz6 h8).symm] at hq;simp only [cQ9,nQ9];refine G16 ?_;refine X16 ?_;refine qae (qaC (qbB Z Z (w64 O O)) (congrArg (Value.int .i64) (show _=((m.calls:Nat):Int) by omega))) Z<|G2 ?_;refine Wt 0 [_,_,_,_,_,_,_,_,_,_,_,_] Y9<|Nt<|Zs<|qgF pm53 ?_;refine G5 ?_;refine Wt 1 [_,_,_,_,_,_,_,_,_,_,_,_] Y9<|G9 ?_;refine qaT [_] _ (.inr Z) (.t1 Z) Z (e4.t h6) fun _ hS2=>?_;exact ⟨_,{ m6 with frm:=m.frm,calls:=m.calls },iv6,ov6,R6,hq,⟨rfl,hu6⟩,rfl,(hM6.back hM).le ((Lr D).t hS2)⟩
def qxy(p:Prg)(D n:Nat)(hT:TOK p D n)(L:Hl)(s:World)(c:MC)(N k:Nat)(fk:Fnc)(vs:List Int)(A1:Option Addr)(n1 c1:Nat)(m:MS)(iv ov:Value)(R:Hl)(hC:CT p c s)(hW:Wds s A1 n1 c1 vs)(hp:p.funcs[k]?=some fk)(hl:vs.length=fk.params.length)(hM:MG p c N m iv ov R s)(hr:cX p (sem p OPp n) k vs m≠.out):AP prog D 50 [.pointer (some ⟨c.bm,0,none⟩),.int .i64 (k:Int),.slice A1 n1 c1] (MB c N 0 m iv ov 0 0::MGb c m::MFb c m::(R++L)) s (okE p c N (cX p (sem p OPp n) k vs m) VE RE [] L) (qeH c N (cX p (sem p OPp n) k vs m) [] L):=by
  refine AP.perm pm54 (qlF p D n hT (MFb c m::L) s c N k fk vs A1 n1 c1 m iv ov _ _ _ R hC hW hp hl hM hr) ?_ ?_
  · rintro v L1 s1 ⟨a,m',iv',ov',R',h1,h2,rfl,h4⟩
    have hf:m'.frm=m.frm:=by
      rw [cX] at h1;split at h1
      · cases h1
      · cases hr2:qbl ((sem p OPp n).t (p.funcs.getD k fn0)) (p.funcs.getD k fn0).body { m with frm:=qeQ ((p.funcs.getD k fn0).params.length+(p.funcs.getD k fn0).locals.length) vs,calls:=m.calls+1 } with
        | out=>rw [hr2] at h1;cases h1
        | fin _ _ _=>rw [hr2] at h1;cases h1
        | ok y m2=>rw [hr2] at h1;simp only [ER.and] at h1;injection h1 with _ h1;rw [← h1]
    refine ⟨_,pm54.symm,a,m',iv',ov',R',h1,h2,?_,h4⟩;have e:MFb c m=MFb c m':=by rw [MFb,MFb,hf]
    rw [e];rfl
  · rintro ch L1 s1 ⟨h1,m',st,cd,Zq9,h2,rfl,h4⟩
    exact ⟨_,List.Perm.refl _,h1,m',st,cd,Zq9++[MFb c m],h2,by simp,h4.app _⟩
def vok(p:Prg)(D n:Nat)(hE:EOI p D n)(hK:COK p D n):VOK p D n:=by
 intro L s c N f d x w m iv ov R hC hn hv hM hr;cases hv with
 | num b A1 n1 c1 hk hc hu=>exact ⟨_,[_],rfl,qCZ D L s p _ c N f x m iv ov R hn hM b A1 n1 c1 hk hc hu⟩
 | slot b hk h0 hl hc=>exact ⟨_,[_],rfl,qy0 D L s p _ c N f x m iv ov R hn hM b hk h0 hl hc⟩
 | con b k g A n1 c1 hk hs hg hp h1 hc hu=>exact ⟨_,[_],rfl,qCk D L s p _ c N f x m iv ov R hn hM b k g A n1 c1 hk hs hg hp h1 hc hu⟩
 | var b k g hk hs hg hp h1 hc=>exact ⟨_,[_],rfl,qDQ D L s p _ c N f x m iv ov R hn hM b k g hk hs hg hp h1 hc⟩
 | idx b1 b2 k g A n1 c1 hk hg hp h3 h1 h2 hA h0=>exact ⟨_,[_,_],rfl,qCP p D n hE L s c N f d x m iv ov R hC hn hM b1 b2 k g A n1 c1 hk hg hp h3 h1 h2 hA h0 hr⟩
 | call w hk h=>
  obtain ⟨be,bi,A,n1,c1,k,fk,rfl,h1,h2,hA,hg,hp,hl⟩:=h;have e:vX p OPp (sem p OPp n) f x m=(qbf ((sem p OPp n).e f) x.args m).and fun vs m=>(sem p OPp n).c k vs m:=by rw [qAf hk,hg,Int.toNat_natCast]
  rw [e] at hr ⊢;exact ⟨_,[_,_],rfl,qlG p D n hE L s c N f d x.args m iv ov R hC hn hM hK be bi k fk A n1 c1 h1 h2 hA hp hl hr⟩
 | get hk=>exact ⟨_,[],rfl,qCD D L s p _ c N f x m iv ov R hn hM hk⟩
 | una b1 b2 A1 n1 c1 A n2 c2 hk h1 h2 hA h0=>exact ⟨_,[_,_],rfl,qDK p D n hE L s c N f d x m iv ov R hC hn hM b1 b2 A1 n1 c1 A n2 c2 hk h1 h2 hA h0 hr⟩
 | bin b1 b2 b3 v1 v2 hk h1 h2 h3 hv1 hv2 ho=>
  obtain ⟨b4,rfl⟩:=hv1.func;obtain ⟨b5,rfl⟩:=hv2.func;exact ⟨_,[_,_,_],rfl,qBZ p D n hE L s c N f d x m iv ov R hC hn hM b1 b2 b3 b4 b5 hk h1 h2 h3 hv1 hv2 hr⟩
def sok(p:Prg)(D n:Nat)(ihE:∀ j,j≤n→EOI p D j)(ihT:∀ j,j≤n→TOK p D j)(hK:COK p D n):SOI p D n:=by
 intro L s c N f d x w m iv ov R hC hn hv hM hr;have hE:=ihE n (Nat.le_refl _);have hT:=ihT n (Nat.le_refl _);cases hv with
 | setl b1 b2 v hk h0 hl h1 h2 hv=>
  obtain ⟨b4,rfl⟩:=hv.func;exact ⟨_,[_,_],rfl,qyT p D n hE L s c N f d x m iv ov R hC hn hM b1 b2 b4 hk h0 hl h1 h2 hv hr⟩
 | setg b1 b2 k g v hk hs hg hp hg2 h1 h2 hv=>
  obtain ⟨b4,rfl⟩:=hv.func;exact ⟨_,[_,_],rfl,qyS p D n hE L s c N f d x m iv ov R hC hn hM b1 b2 b4 k g hk hs hg hp h1 h2 hv hr⟩
 | store b1 b2 k g A n1 c1 hk hg hp h3 h1 h2 hA h0=>exact ⟨_,[_,_],rfl,qth p D n hE L s c N f d x m iv ov R hC hn hM b1 b2 k g A n1 c1 hk hg hp h3 h1 h2 hA h0 hr⟩
 | cond b1 b2 b3 A n1 c1 B n2 c2 G n3 c3 hk h1 h2 h3 hA h0 hB hG=>exact ⟨_,[_,_,_],rfl,qxE p D n hE hT L s c N f d x m iv ov R hC hn hM b1 b2 b3 A n1 c1 B n2 c2 G n3 c3 hk h1 h2 h3 hA h0 hB hG hr⟩
 | loop b1 b2 A n1 c1 B n2 c2 hk h1 h2 hA h0 hB=>exact ⟨_,[_,_],rfl,qyi p D n ihE ihT L s c N f d x m iv ov R hC hn hM b1 b2 A n1 c1 B n2 c2 hk h1 h2 hA h0 hB hr⟩
 | call b1 w hk h1 h=>
  obtain ⟨be,bi,A,n1,c1,k,fk,rfl,he,hi,hA,hg,hp,hl⟩:=h;exact ⟨_,[_],rfl,qsZ p D n hE L s c N f d x m iv ov R hC hn hM hK b1 be bi k fk A n1 c1 hk h1 he hi hA hg hp hl hr⟩
 | ret b1 A n1 c1 hk h1 hA h0=>exact ⟨_,[_],rfl,qDj p D n hE L s c N f d x m iv ov R hC hn hM b1 A n1 c1 hk h1 hA h0 hr⟩
 | put b1 A n1 c1 hk h1 hA h0=>exact ⟨_,[_],rfl,qDd p D n hE L s c N f d x m iv ov R hC hn hM b1 A n1 c1 hk h1 hA h0 hr⟩
 | stop b1 A n1 c1 hk h1 hA h0=>exact ⟨_,[_],rfl,qs8 p D n hE L s c N f d x m iv ov R hC hn hM b1 A n1 c1 hk h1 hA h0 hr⟩
 | brk hk=>exact ⟨_,[],rfl,qB2 p D n L s c N f d x m iv ov R hC hn hM hk⟩
 | cont hk=>exact ⟨_,[],rfl,qxF p D n L s c N f d x m iv ov R hC hn hM hk⟩
def qvf(p:Prg)(D:Nat):∀ n,EOI p D n∧COK p D n∧TOK p D n
 | 0=>⟨fun _ _ _ _ _ _ _ _ _ _ _ _ _ _ _ _ h=>absurd rfl h,fun _ _ _ _ _ _ _ _ _ _ _ _ _ _ _ _ _ _ _ h=>absurd rfl h,fun _ _ _ _ _ _ _ _ _ _ _ _ _ _ _ _ h=>absurd rfl h⟩
 | n+1=>by
  have ih:∀ j,j≤n→EOI p D j∧COK p D j∧TOK p D j:=fun j hj=>qvf p D j;obtain ⟨hE,hK,hT⟩:=ih n (Nat.le_refl _);exact ⟨qrM p D n (vok p D n hE hK),fun L s c N k fk vs A n1 c1 m iv ov R hC hW hp hl hM hr=>qxy p D n hT L s c N k fk vs A n1 c1 m iv ov R hC hW hp hl hM hr,quO p D n (sok p D n (fun j hj=>(ih j hj).1) (fun j hj=>(ih j hj).2.2) hK)⟩
def Cz81{p:Prop} (h:p:=by
 refine ⟨?_,Z⟩;first
  | (simp only [qbP];rw [qee hI hx hz,Nat.zero_add])
  | (simp only [qbP];rw [qfT (fun i a hi h=>hI i a O h)])):p:=h
def qAT{p:Prop} (h:p:=by
 refine G11 ?_;exact rR [] L (.t1 Z) Z I1.1 fun _ hS2=>Cz81):p:=h
def Ez24{p:Prop} (h:p:=by
  rintro _ _ s3 h3 ⟨rfl,rfl⟩;refine G2 ?_;refine qd1 Z ?_ ?_<;>intro c4;·have hz:=c4;refine G12 ?_;exact rX [] L Z (I1.1.t h3) fun _ hS2=>Cz81
  have hz:=c4;refine G4 ?_;refine qaV Z Z Z (w64 O O)<|G2 ?_;refine qaf ⟨(k+1),[],kp,Z,⟨(I1.1.t h3),⟨by omega,qcw hI hx hz⟩⟩,O⟩):p:=h
def qr5(A:Option Addr)(n c:Nat)(l:List Glo)(hA:Glos s A n c l)(fi:FuncId)(cap:List Value)(q:Glo→Bool)(hp:∀ s' g (A9:Option Addr) (n9 c9:Nat),Le D s s'→AC prog D fi ([.agg #[.int .i64 g.kind,St g.name,.int .u32 g.num,.slice A9 n9 c9]]++cap) L s' fun v L' _=>v=.bool (q g)∧L=L'):AC prog D 123 [.slice A n c,.func (.func fi) #[] cap.toArray] L s fun v L' _=>v=.int .i64 (qaN q l 0)∧L=L':=by
 have hn:=hA.1;have hc1:=hA.2.1;have hc2:=hA.2.2.1;refine qad (fn:=f123) qao func123 V Z ntmps123 Z (rs:=[.tmp 4]) Z [(0,_),(1,_)] Z<|G14 ?_;refine qaH (γ:=Nat) (fun k=>[(0,_),(1,_),(4,_),(7,_),(8,.int .i64 (k:Int))]) (fun _=>_) (fun k tw=>Le D s tw∧(k≤n∧∀ i x,i < k→l[i]?=some x→q x=false)) (fun k=>n - k) (fun _ _ _ h hl=>⟨h.1.trans hl,h.2⟩) 0 (.c5 Z Z Z Z Z (.nil _)) Z ⟨Le.refl _,⟨Nat.zero_le _,fun i x hi=>by omega⟩⟩ ?_;intro k s1 I1;have hI:=I1.2.2;refine J6 ?_ ?_<;>intro c2
 ·have hk:k < n:=by omega
  obtain ⟨b,off,x,A',n',c',rfl,hx,hcx,_⟩:=Glos.at_ (hA.le I1.1) hk;refine G15 ?_;refine qae (qaw Z Z Z Z Z Z hk) Z<|qae (qat Z Z Z hcx Z) Z<|qcN (first:=[]) (captured:=cap) Z Z Z (hp _ x A' n' c' I1.1) ?_;exact Ez24
 exact qAT
def qrS(d:Nat)(A:Option Addr)(n c:Nat)(l:List Fnc)(hA:Fncs d s A n c l)(fi:FuncId)(cap:List Value)(q:Fnc→Bool)(hp:∀ s' g (A7:Option Addr) (n7 c7:Nat) (A8:Option Addr) (n8 c8:Nat) (A9:Option Addr) (n9 c9:Nat),Le D s s'→AC prog D fi ([.agg #[St g.name,.slice A7 n7 c7,.slice A8 n8 c8,.slice A9 n9 c9]]++cap) L s' fun v L' _=>v=.bool (q g)∧L=L'):AC prog D 166 [.slice A n c,.func (.func fi) #[] cap.toArray] L s fun v L' _=>v=.int .i64 (qaN q l 0)∧L=L':=by
 have hn:=hA.1;have hc1:=hA.2.1;have hc2:=hA.2.2.1;refine qad (fn:=f166) qao func166 V Z ntmps166 Z (rs:=[.tmp 4]) Z [(0,_),(1,_)] Z<|G14 ?_;refine qaH (γ:=Nat) (fun k=>[(0,_),(1,_),(4,_),(7,_),(8,.int .i64 (k:Int))]) (fun _=>_) (fun k tw=>Le D s tw∧(k≤n∧∀ i x,i < k→l[i]?=some x→q x=false)) (fun k=>n - k) (fun _ _ _ h hl=>⟨h.1.trans hl,h.2⟩) 0 (.c5 Z Z Z Z Z (.nil _)) Z ⟨Le.refl _,⟨Nat.zero_le _,fun i x hi=>by omega⟩⟩ ?_;intro k s1 I1;have hI:=I1.2.2;refine J6 ?_ ?_<;>intro c2
 ·have hk:k < n:=by omega
  obtain ⟨b,off,x,B1,m1,e1,B2,m2,e2,B3,m3,e3,rfl,hx,hcx,_⟩:=Fncs.at_ (hA.le I1.1) hk;refine G15 ?_;refine qae (qaw Z Z Z Z Z Z hk) Z<|qae (qat Z Z Z hcx Z) Z<|qcN (first:=[]) (captured:=cap) Z Z Z (hp _ x B1 m1 e1 B2 m2 e2 B3 m3 e3 I1.1) ?_;exact Ez24
 exact qAT
def qx2(g:Glo)(A9:Option Addr)(n9 c9:Nat)(b:Nat)(nm:Str)(hc:CellsAt s b 0 [St nm]):AC prog D 124 [.agg #[.int .i64 g.kind,St g.name,.int .u32 g.num,.slice A9 n9 c9],.pointer (some ⟨b,0,none⟩)] L s fun v L' _=>v=.bool (decide (g.name=nm))∧L=L':=by
 refine qad (fn:=f124) qao func124 V Z ntmps124 Z (rs:=[.tmp 3]) Z [(0,_),(1,_)] Z<|Sr<|qar Z Z fun β1 s1 h1=>G7 ?_;refine qae (qak Z Z Z (hc.le h1) Z) Z<|qio Z Z Z<|G4 ?_;exact rX [_] L Z h1 fun _ hS2=>Cz0
def qxw(g:Fnc)(A7:Option Addr)(n7 c7:Nat)(A8:Option Addr)(n8 c8:Nat)(A9:Option Addr)(n9 c9:Nat)(b:Nat)(nm:Str)(hc:CellsAt s b 0 [St nm]):AC prog D 167 [.agg #[St g.name,.slice A7 n7 c7,.slice A8 n8 c8,.slice A9 n9 c9],.pointer (some ⟨b,0,none⟩)] L s fun v L' _=>v=.bool (decide (g.name=nm))∧L=L':=by
 refine qad (fn:=f167) qao func167 V Z ntmps167 Z (rs:=[.tmp 3]) Z [(0,_),(1,_)] Z<|Sr<|qar Z Z fun β1 s1 h1=>G7 ?_;refine qae (qak Z Z Z (hc.le h1) Z) Z<|qio Z Z Z<|G4 ?_;exact rX [_] L Z h1 fun _ hS2=>Cz0
def qAM{p:Prop} (h:p:=by
 rintro _ _ s4 h4 ⟨rfl,rfl⟩;refine G4 ?_;exact rX [_] L Z (h1.t h2|>.t h3|>.t h4) fun _ hS2=>Cz0):p:=h
def Ez79{p:Prop} (h:p:=by
 intro β1 s1 h1;refine qeK Z Z Z fun β2 s2 h2=>At Z Z<|Zs<|qcM [] [_] _ ?_;intro s3 h3 hpub3;have hc3:=hpub3 _ _ _ (List.mem_singleton.2 rfl)):p:=h
def qfo(d0:Nat)(p:Prg)(Ag Af:Option Addr)(ng cg nf cf:Nat)(hGl:Glos s Ag ng cg p.globals)(hFn:Fncs d0 s Af nf cf p.funcs)(f:Fnc)(P1 P2 P3:Option Addr)(p1 r1 p2 r2 p3 r3:Nat)(hP1:Strs s P1 p1 r1 f.params)(hP2:Strs s P2 p2 r2 f.locals)(nm:Str):AC prog D 81 [.agg #[.slice Ag ng cg,.slice Af nf cf,St f.name,.slice P1 p1 r1,.slice P2 p2 r2,.slice P3 p3 r3],St nm] L s fun v L' _=>v=.int .i64 (qdJ p nm)∧L=L':=by
 refine qad (fn:=f81) qao func81 V Z ntmps81 Z (rs:=[.tmp 4]) Z [(0,_),(1,_)] Z<|Sr<|qar Z Z ?_;intro β1 s1 h1;refine qeK Z Z Z fun β2 s2 h2=>At Z Z<|Zs<|qcM [] [_] _ ?_;intro s3 h3 hpub3;have hc3:=hpub3 _ _ _ (List.mem_singleton.2 rfl)
 refine G4 ?_;refine qae (qbj Z) Z<|Jc Z Z Z (qr5 D _ _ Ag ng cg p.globals (hGl.le (h1.t h2|>.t h3)) _ _ (fun g=>decide (g.name=nm)) (fun s9 g A9 n9 c9 q9=>qx2 D _ s9 g A9 n9 c9 _ nm ((hc3.le (Lr D)).le q9))) ?_;exact qAM
def qou(d0:Nat)(p:Prg)(Ag Af:Option Addr)(ng cg nf cf:Nat)(hGl:Glos s Ag ng cg p.globals)(hFn:Fncs d0 s Af nf cf p.funcs)(f:Fnc)(P1 P2 P3:Option Addr)(p1 r1 p2 r2 p3 r3:Nat)(hP1:Strs s P1 p1 r1 f.params)(hP2:Strs s P2 p2 r2 f.locals)(nm:Str):AC prog D 125 [.agg #[.slice Ag ng cg,.slice Af nf cf,St f.name,.slice P1 p1 r1,.slice P2 p2 r2,.slice P3 p3 r3],St nm] L s fun v L' _=>v=.int .i64 (qiv p nm)∧L=L':=by
 refine qad (fn:=f125) qao func125 V Z ntmps125 Z (rs:=[.tmp 4]) Z [(0,_),(1,_)] Z<|Sr<|qar Z Z ?_;intro β1 s1 h1;refine qeK Z Z Z fun β2 s2 h2=>At Z Z<|Zs<|qcM [] [_] _ ?_;intro s3 h3 hpub3;have hc3:=hpub3 _ _ _ (List.mem_singleton.2 rfl)
 refine G4 ?_;refine qae (qbj Z) Z<|Jc Z Z Z (qrS D _ _ d0 Af nf cf p.funcs (hFn.le (h1.t h2|>.t h3)) _ _ (fun g=>decide (g.name=nm)) (fun s9 g A7 n7 c7 A8 n8 c8 A9 n9 c9 q9=>qxw D _ s9 g A7 n7 c7 A8 n8 c8 A9 n9 c9 _ nm ((hc3.le (Lr D)).le q9))) ?_;exact qAM
def qEn{p:Prop} (h:p:=by
 exact ⟨by rw [hE];first|rfl|(simp only [qbP];rw [hn1]),rfl⟩):p:=h
def qmD(d0:Nat)(p:Prg)(Ag Af:Option Addr)(ng cg nf cf:Nat)(hGl:Glos s Ag ng cg p.globals)(hFn:Fncs d0 s Af nf cf p.funcs)(f:Fnc)(P1 P2 P3:Option Addr)(p1 r1 p2 r2 p3 r3:Nat)(hP1:Strs s P1 p1 r1 f.params)(hP2:Strs s P2 p2 r2 f.locals)(hsz:f.params.length+f.locals.length≤100)(nm:Str):AC prog D 120 [.agg #[.slice Ag ng cg,.slice Af nf cf,St f.name,.slice P1 p1 r1,.slice P2 p2 r2,.slice P3 p3 r3],St nm] L s fun v L' _=>v=.int .i64 (qa0 f nm)∧L=L':=by
 have hn1:=hP1.1;have hi2:=qfq (p:=fun x=>decide (@Eq (List UInt8) nm x)) (l:=f.locals) (k:=0)
 refine qad (fn:=f120) qao func120 V Z ntmps120 Z (rs:=[.tmp 4]) Z [(0,_),(1,_)] Z<|Sr<|qar Z Z fun β1 s1 h1=>G7 ?_;refine qae (qbD Z Z Z Z) Z<|G2 ?_;refine Je Z Z Z (qhl D _ _ P1 p1 r1 f.params (hP1.le h1) nm) fun s2 h2=>G6 ?_;refine qi6 Z Z Z<|G2 ?_;have e2:=h1.t h2;refine qaa Z ?_ ?_<;>intro c3;·have hE:qa0 f nm=_:=if_pos c3;refine G8 ?_;exact rX [_] L Z e2 fun _ hS2=>qEn
 have g13:=c3;refine G6 ?_;refine qae (qbD Z Z Z Z) Z<|G2 ?_;refine Je Z Z Z (qhl D _ _ P2 p2 r2 f.locals (hP2.le e2) nm) fun s4 h4=>G6 ?_;refine qi6 Z Z Z<|J2 ?_ ?_<;>intro c5;·have hE:qa0 f nm=_:=(if_neg g13).trans (if_pos c5);refine Sr<|Wb Y5<|qae (qbD Z Z Z Z) Z<|G3 ?_;refine qaV Z Z Z (w64 O O)<|G5 ?_;exact rX [_] L Z (e2.t h4) fun _ hS2=>qEn
 have hE:qa0 f nm=_:=(if_neg g13).trans (if_neg c5);refine G8 ?_;exact rX [_] L Z (e2.t h4) fun _ hS2=>qEn
def qqc(f:Fnc)(nm:Str):qa0 f nm < ((f.params.length+f.locals.length:Nat):Int):=by
 have hi1:=qfq (p:=fun y=>decide (nm=y)) (l:=f.params) (k:=0);have hi2:=qfq (p:=fun y=>decide (nm=y)) (l:=f.locals) (k:=0);unfold qa0;repeat' split
 all_goals omega
def XOI(p:Prg)(f:Fnc)(x:Ex):Prop:=exV x=true∧∃ lp,∀ nd∈ndX x lp,ndC p f nd=0
def StOK(p:Prg)(f:Fnc)(x:Stm):Prop:=(∃ lv,stV x lv=true)∧∃ lp,∀ nd∈ndS x lp,ndC p f nd=0
structure POK(p:Prg):Prop where
 nd:((ents p).map (·.1)).Nodup
 gk:∀ g∈p.globals,1≤g.kind∧g.kind≤3
section
variable{p:Prg}{f:Fnc}
def XOI.args{x:Ex}(h:XOI p f x):∀ y∈x.args,XOI p f y:=fun y hy=>by
 obtain ⟨hv,lp,hn⟩:=h;obtain ⟨k,o,u,nm,ar⟩:=x;obtain ⟨j,hj⟩:=List.getElem?_of_mem hy;exact ⟨(qcX (qdW hv).2 hj).1,lp,fun nd hd=>hn nd (by rw [ndX];exact List.mem_cons_of_mem _ (qiK hy hd))⟩
def XOI.use{x:Ex}(h:XOI p f x):qeT p f (qen x)=0:=by
 obtain ⟨_,lp,hn⟩:=h;obtain ⟨k,o,u,nm,ar⟩:=x;exact hn (.ex (.mk k o u nm ar) lp) (by rw [ndX];exact List.mem_cons_self ..)
def StOK.exprs(h:StOK p f x):∀ y∈x.exprs,XOI p f y:=fun y hy=>by
 obtain ⟨⟨lv,hv⟩,lp,hn⟩:=h;obtain ⟨k,nm,es,b,e⟩:=x;obtain ⟨j,hj⟩:=List.getElem?_of_mem hy;exact ⟨(qcX (qdm hv).2.2.1 hj).1,lp,fun nd hd=>hn nd (by rw [ndS];exact List.mem_cons_of_mem _ (List.mem_append_left _ (qiK hy hd)))⟩
def StOK.body(h:StOK p f x):∀ y∈x.body,StOK p f y:=fun y hy=>by
 obtain ⟨⟨lv,hv⟩,lp,hn⟩:=h;obtain ⟨k,nm,es,b,e⟩:=x;obtain ⟨j,hj⟩:=List.getElem?_of_mem hy;exact ⟨⟨_,(qhp (qdm hv).2.2.2.1 hj).1⟩,_,fun nd hd=>hn nd (by rw [ndS];exact List.mem_cons_of_mem _ (List.mem_append_right _ (List.mem_append_left _ (qgz hy hd))))⟩
def StOK.els(h:StOK p f x):∀ y∈x.els,StOK p f y:=fun y hy=>by
 obtain ⟨⟨lv,hv⟩,lp,hn⟩:=h;obtain ⟨k,nm,es,b,e⟩:=x;obtain ⟨j,hj⟩:=List.getElem?_of_mem hy;exact ⟨⟨_,(qhp (qdm hv).2.2.2.2 hj).1⟩,_,fun nd hd=>hn nd (by rw [ndS];exact List.mem_cons_of_mem _ (List.mem_append_right _ (List.mem_append_right _ (qgz hy hd))))⟩
def StOK.use(h:StOK p f x):qeT p f (qeo x)=0:=by
 obtain ⟨_,lp,hn⟩:=h;obtain ⟨k,nm,es,b,e⟩:=x;exact (qss (hn (.st (.mk k nm es b e) lp) (by rw [ndS];exact List.mem_cons_self ..))).1
def qmE(hP:POK p){u:Use}(h:qeT p f u=0)(hu:u.2.1≠0):(0≤qa0 f u.1∧(u.2.1=1∨u.2.1=2))∨(¬ 0≤qa0 f u.1∧∃ (k:Nat) (g:Glo),qdJ p u.1=(k:Int)∧p.globals[k]?=some g∧((g.kind=1∧u.2.1=2)∨(g.kind=2∧(u.2.1=1∨u.2.1=2))∨(g.kind=3∧u.2.1=3)))∨∃ (k:Nat) (fk:Fnc),qiv p u.1=(k:Int)∧p.funcs[k]?=some fk∧u.2.1=4∧u.2.2=(fk.params.length:Int):=by
  obtain ⟨a1,a2,a3⟩:=qqD h hu;rcases qha a1 with k1|⟨k1,k,k2,k3⟩|⟨k1,k,k2,k3⟩
  · exact .inl ⟨qs5 k1,by unfold qfZ at a2;omega⟩
  · have e:=qme k1 k2
    obtain ⟨g,hg⟩:∃ g,p.globals[k]?=some g:=⟨_,List.getElem?_eq_getElem k3⟩;have hk:=hP.gk g (List.mem_of_getElem? hg);rw [e] at a2;have e1:=qe3 hg;refine .inr (.inl ⟨qs4 e (.inl Z),k,g,(qx3 hP.nd e).1,hg,?_⟩);unfold qfZ at a2;simp only at a2;omega
  · have e:=qme k1 k2
    obtain ⟨g,hg⟩:∃ g,p.funcs[k]?=some g:=⟨_,List.getElem?_eq_getElem k3⟩;rw [e] at a2 a3;have e1:=qiO (p:=p) (i:=(k:Int)) rfl hg;refine .inr (.inr ⟨k,g,(qxx hP.nd e).1,hg,?_⟩);unfold qfZ at a2;rw [e1] at a3;omega
def mn2(hP:POK p){x:Ex}(h:XOI p f x)(hk:x.kind=2):0≤qa0 f x.name∨(¬ 0≤qa0 f x.name∧∃ (k:Nat) (g:Glo),qdJ p x.name=(k:Int)∧p.globals[k]?=some g):=by
 have hu:qen x=(x.name,2,0):=by rw [qen,if_pos hk]
 have:=h.use;rw [hu] at this;rcases qmE hP this (show (2:Int)≠0 by decide) with ⟨a,_⟩|⟨a,k,g,b,c,_⟩|⟨_,_,_,_,c,_⟩
 · exact .inl a
 · exact .inr ⟨a,k,g,b,c⟩
 · cases c
def Ez40{p:Prop} (h:p:=by
 have:=h.use;rw [hu] at this;rcases qmE hP this (show (3:Int)≠0 by decide) with ⟨_,a⟩|⟨a,k,g,b,c,d⟩|⟨_,_,_,_,c,_⟩
 · rcases a with a|a<;>cases a
 · exact ⟨k,g,b,c,by simp only at d;omega⟩
 · cases c):p:=h
def mn3(hP:POK p){x:Ex}(h:XOI p f x)(hk:x.kind=3):∃ (k:Nat) (g:Glo),qdJ p x.name=(k:Int)∧p.globals[k]?=some g∧g.kind=3:=by
 have hu:qen x=(x.name,3,0):=by rw [qen,if_neg O,if_pos hk]
 exact Ez40
def Ez38{p:Prop} (h:p:=by
 have:=h.use;rw [hu] at this;rcases qmE hP this (show (4:Int)≠0 by decide) with ⟨_,a⟩|⟨a,k,g,b,c,d⟩|⟨k,fk,b,c,_,d⟩
 · rcases a with a|a<;>cases a
 · simp only at d;omega
 · exact ⟨k,fk,b,c,by simp only at d;omega⟩):p:=h
def mn4(hP:POK p){x:Ex}(h:XOI p f x)(hk:x.kind=4):∃ (k:Nat) (fk:Fnc),qiv p x.name=(k:Int)∧p.funcs[k]?=some fk∧x.args.length=fk.params.length:=by
 have hu:qen x=(x.name,4,(x.args.length:Int)):=by rw [qen,if_neg O,if_neg O,if_pos hk]
 exact Ez38
def ms1(hP:POK p)(h:StOK p f x)(hk:x.kind=1):0≤qa0 f x.name∨(¬ 0≤qa0 f x.name∧∃ (k:Nat) (g:Glo),qdJ p x.name=(k:Int)∧p.globals[k]?=some g∧g.kind=2):=by
 have hu:qeo x=(x.name,1,0):=by rw [qeo,if_pos hk]
 have:=h.use;rw [hu] at this;rcases qmE hP this (show (1:Int)≠0 by decide) with ⟨a,_⟩|⟨a,k,g,b,c,d⟩|⟨_,_,_,_,c,_⟩
 · exact .inl a
 · exact .inr ⟨a,k,g,b,c,by simp only at d;omega⟩
 · cases c
def ms2(hP:POK p)(h:StOK p f x)(hk:x.kind=2):∃ (k:Nat) (g:Glo),qdJ p x.name=(k:Int)∧p.globals[k]?=some g∧g.kind=3:=by
 have hu:qeo x=(x.name,3,0):=by rw [qeo,if_neg O,if_pos hk]
 exact Ez40
def ms5(hP:POK p)(h:StOK p f x)(hk:x.kind=5):∃ (k:Nat) (fk:Fnc),qiv p x.name=(k:Int)∧p.funcs[k]?=some fk∧x.exprs.length=fk.params.length:=by
 have hu:qeo x=(x.name,4,(x.exprs.length:Int)):=by rw [qeo,if_neg O,if_neg O,if_pos hk]
 exact Ez38
end
def qsp(d0:Nat)(p:Prg)(Ag Af:Option Addr)(ng cg nf cf:Nat)(hGl:Glos s Ag ng cg p.globals)(hFn:Fncs d0 s Af nf cf p.funcs)(f:Fnc)(P1 P2 P3:Option Addr)(p1 r1 p2 r2 p3 r3:Nat)(hP1:Strs s P1 p1 r1 f.params)(hP2:Strs s P2 p2 r2 f.locals)(hsz:f.params.length+f.locals.length≤100)(Vq:World→Ex→List Value→Prop)(x:Ex)(hk:x.kind=2)(hmn:0≤qa0 f x.name∨(¬ 0≤qa0 f x.name∧∃ (k:Nat) (g:Glo),qdJ p x.name=(k:Int)∧p.globals[k]?=some g)):AC prog D 160 [.agg #[.slice Ag ng cg,.slice Af nf cf,St f.name,.slice P1 p1 r1,.slice P2 p2 r2,.slice P3 p3 r3],St x.name] L s fun v L' s'=>∃ M',L'=M'++L∧∀ s2,Le D s' s2→Pub M' s2→ViE p f Vq s2 x v:=by
 refine qad (fn:=f160) qao func160 V Z ntmps160 Z (rs:=[.tmp 4]) Z [(0,_),(1,_)] Z<|Sr<|qar Z Z fun β1 s1 h1=>G6 ?_;refine qae (qaj 0 [_,_,_,_,_,_] Z Z Z Z Z) Z<|Zqm Z Z<|Je Z Z Z (qmD D _ _ d0 p Ag Af ng cg nf cf (hGl.le h1) (hFn.le h1) f P1 P2 P3 p1 r1 p2 r2 p3 r3 (hP1.le h1) (hP2.le h1) hsz x.name) fun s2 h2=>qac Z [_] Z Z fun β3 s3 h3=>Wt 0 [_] Y9<|G5 ?_;refine qi6 Z Z Z<|G2 ?_;have e3:=h1.t h2|>.t h3;refine qaa Z ?_ ?_<;>intro c4;·have h0:=c4;refine Sr<|qae (qbj Z) Z<|G5 ?_;exact rR [] _ (.t1 Z) Z e3 fun _ hS2=>⟨[_,_],rfl,fun s2 hs2 hp=>.slot _ hk h0 (qqc f _) (hp _ _ _ Mc)⟩
 have hs:=c4;obtain ⟨gk,g,hgk,hgp⟩:=(hmn.resolve_left hs).2;have hgl:gk < ng:=by rw [hGl.1];exact (List.getElem?_eq_some_iff.1 hgp).1
 refine Zk<|Zt<|Sr<|qae (qaj 1 [_,_,_,_,_,_] Z Z Z Z Z) Z<|Zqm Z Z<|Je Z Z Z (qfo D _ _ d0 p Ag Af ng cg nf cf (hGl.le e3) (hFn.le e3) f P1 P2 P3 p1 r1 p2 r2 p3 r3 (hP1.le e3) (hP2.le e3) x.name) fun s5 h5=>?_;obtain ⟨bz,oz,z,Ai,ni,ci,hAe,hz,hcz,_,huz,_⟩:=Glos.at_ (hGl.le (e3.t h5)) hgl;subst hAe;refine qac Z [_] Z Z fun β6 s6 h6=>Wt 0 [_] Y9<|G9 ?_;refine qae (qaw (j:=gk) Z (show lk _ _=some (.int .i64 (gk:Int)) from by rw [← hgk];rfl) Z Z Z Z hgl) Z<|qae (qat Z Z Z (hcz.le h6) Z) Z<|qac Z [_,_,_,_] Z Z fun β7 s7 h7=>Wt 0 [_,_,_,_] Y9<|G9 ?_;have e7:=e3.t h5|>.t h6|>.t h7;refine qaa Z ?_ ?_<;>intro c8;·have gc1:=c8;refine Sr<|qae (qbj Z) Z<|G5 ?_;exact rR [] _ (.t1 Z) Z e7 fun _ hS2=>⟨[_,_,_,_],rfl,fun s2 hs2 hp=>.con _ gk z Ai ni ci hk hs hgk hz gc1 (hp _ _ _ Mc) huz⟩
 have gc1:=c8;refine Zk<|Zt<|Sr<|qae (qbj Z) Z<|G4 ?_;exact rR [] _ (.t1 Z) Z e7 fun _ hS2=>⟨[_,_,_,_],rfl,fun s2 hs2 hp=>.var _ gk z hk hs hgk hz gc1 (by rw [← hgk];exact (hp _ _ _ (List.mem_cons_of_mem _ Mc)))⟩
def qmO(d0:Nat)(p:Prg)(Ag Af:Option Addr)(ng cg nf cf:Nat)(hGl:Glos s Ag ng cg p.globals)(hFn:Fncs d0 s Af nf cf p.funcs)(f:Fnc)(P1 P2 P3:Option Addr)(p1 r1 p2 r2 p3 r3:Nat)(hP1:Strs s P1 p1 r1 f.params)(hP2:Strs s P2 p2 r2 f.locals)(hsz:f.params.length+f.locals.length≤100)(Vq:World→Stm→List Value→Prop)(d b4:Nat)(x:Stm)(hk:x.kind=1)(hmn:0≤qa0 f x.name∨(¬ 0≤qa0 f x.name∧∃ (k:Nat) (g:Glo),qdJ p x.name=(k:Int)∧p.globals[k]?=some g∧g.kind=2))(hv:VeR p f d s (qcj x.exprs 0) [.func (.func 119) #[] #[.pointer (some ⟨b4,0,none⟩)]]):AC prog D 80 [.agg #[.slice Ag ng cg,.slice Af nf cf,St f.name,.slice P1 p1 r1,.slice P2 p2 r2,.slice P3 p3 r3],St x.name,.func (.func 119) #[] #[.pointer (some ⟨b4,0,none⟩)]] L s fun v L' s'=>∃ M',L'=M'++L∧∀ s2,Le D s' s2→Pub M' s2→ViS p f (VeR p f d) Vq s2 x v:=by
 refine qad (fn:=f80) qao func80 V Z ntmps80 Z (rs:=[.tmp 6]) Z [(0,_),(1,_),(2,_)] Z<|Sr<|qar Z Z fun β1 s1 h1=>qeK Z Z Z fun β2 s2 h2=>G6 ?_;refine qae (qaj 1 [_,_,_,_,_,_] Z Z Z Z Z) Z<|Zqm Z Z<|Je Z Z Z (qmD D _ _ d0 p Ag Af ng cg nf cf (hGl.le (h1.t h2)) (hFn.le (h1.t h2)) f P1 P2 P3 p1 r1 p2 r2 p3 r3 (hP1.le (h1.t h2)) (hP2.le (h1.t h2)) hsz x.name) fun s3 h3=>qac Z [_] Z Z fun β4 s4 h4=>Wt 0 [_] Y9<|G5 ?_;refine qi6 Z Z Z<|G2 ?_;have e4:=h1.t h2|>.t h3|>.t h4;refine qaa Z ?_ ?_<;>intro c5;·have h0:=c5;refine Sr<|qae (qbj Z) Z<|G5 ?_;exact rR [] _ (.t1 Z) Z e4 fun _ hS2=>⟨[_,_,_],rfl,fun s2 hs2 hp=>.setl _ _ _ hk h0 (qqc f _) (hp _ _ _ (List.mem_cons_of_mem _ Mc)) (hp _ _ _ Mc) (VeR.le (e4|>.t (hS2.t hs2)) hv)⟩
 have hs:=c5;obtain ⟨gk,g,hgk,hgp,hg2⟩:=(hmn.resolve_left hs).2;refine Zk<|Zt<|Sr<|qae (qaj 2 [_,_,_,_,_,_] Z Z Z Z Z) Z<|Zqm Z Z<|Je Z Z Z (qfo D _ _ d0 p Ag Af ng cg nf cf (hGl.le e4) (hFn.le e4) f P1 P2 P3 p1 r1 p2 r2 p3 r3 (hP1.le e4) (hP2.le e4) x.name) fun s6 h6=>qac Z [_] Z Z fun β7 s7 h7=>Wt 0 [_] Y9<|Nt<|Sr<|qae (qbj Z) Z<|G4 ?_;exact rR [] _ (.t1 Z) Z (e4.t h6|>.t h7) fun _ hS2=>⟨[_,_,_,_],rfl,fun s2 hs2 hp=>.setg _ _ gk g _ hk hs hgk hgp hg2 (hp _ _ _ (List.mem_cons_of_mem _ (List.mem_cons_of_mem _ Mc))) (by rw [← hgk];exact (hp _ _ _ Mc)) (VeR.le (e4.t h6|>.t h7|>.t (hS2.t hs2)) hv)⟩
def qkw(d0:Nat)(p:Prg)(Ag Af:Option Addr)(ng cg nf cf:Nat)(hGl:Glos s Ag ng cg p.globals)(hFn:Fncs d0 s Af nf cf p.funcs)(f:Fnc)(P1 P2 P3:Option Addr)(p1 r1 p2 r2 p3 r3:Nat)(hP1:Strs s P1 p1 r1 f.params)(hP2:Strs s P2 p2 r2 f.locals)(d:Nat)(nm:Str)(xs:List Ex)(A:Option Addr)(n c:Nat)(k:Nat)(fk:Fnc)(hA:VeS p f d s A n c xs)(hg:qiv p nm=(k:Int))(hpk:p.funcs[k]?=some fk)(hl:xs.length=fk.params.length):AC prog D 87 [.agg #[.slice Ag ng cg,.slice Af nf cf,St f.name,.slice P1 p1 r1,.slice P2 p2 r2,.slice P3 p3 r3],St nm,.slice A n c] L s fun v L' s'=>∃ M',L'=M'++L∧∀ s2,Le D s' s2→Pub M' s2→CallV p (VeR p f d) s2 nm xs v:=by
 refine qad (fn:=f87) qao func87 V Z ntmps87 Z (rs:=[.tmp 6]) Z [(0,_),(1,_),(2,_)] Z<|Sr<|qar Z Z fun β1 s1 h1=>qeK Z Z Z fun β2 s2 h2=>At Z Z<|Sr<|qae (qaj 1 [_,_,_,_,_,_] Z Z Z Z Z) Z<|Zqm Z Z<|Je Z Z Z (qou D _ _ d0 p Ag Af ng cg nf cf (hGl.le (h1.t h2)) (hFn.le (h1.t h2)) f P1 P2 P3 p1 r1 p2 r2 p3 r3 (hP1.le (h1.t h2)) (hP2.le (h1.t h2)) nm) fun s3 h3=>qac Z [_] Z Z fun β4 s4 h4=>Wt 0 [_] Y9<|Nt<|Sr<|qae (qbj Z) Z<|G4 ?_;have e4:=h1.t h2|>.t h3|>.t h4;exact rR [] _ (.t1 Z) Z e4 fun _ hS2=>⟨[_,_,_],rfl,fun s2 hs2 hp=>⟨_,_,A,n,c,k,fk,rfl,(hp _ _ _ (List.mem_cons_of_mem _ Mc)),by rw [← hg];exact (hp _ _ _ Mc),hA.le (e4|>.t (hS2.t hs2)),hg,hpk,hl⟩⟩
def qmP(p:Prg)(f:Fnc)(d b4 b5:Nat)(x:Ex)(hk:x.kind=7)(ho:4≤x.op∧x.op≤21)(hv1:VeR p f d s (qcj x.args 0) [.func (.func 119) #[] #[.pointer (some ⟨b4,0,none⟩)]])(hv2:VeR p f d s (qcj x.args 1) [.func (.func 119) #[] #[.pointer (some ⟨b5,0,none⟩)]]):AC prog D 165 [.int .i64 x.op,.func (.func 119) #[] #[.pointer (some ⟨b4,0,none⟩)],.func (.func 119) #[] #[.pointer (some ⟨b5,0,none⟩)]] L s fun v L' s'=>∃ M',L'=M'++L∧∀ s2,Le D s' s2→Pub M' s2→ViE p f (VeR p f d) s2 x v:=by
 refine qad (fn:=f165) qao func165 V Z ntmps165 Z (rs:=[.tmp 6]) Z [(0,_),(1,_),(2,_)] Z<|Sr<|qeK Z Z Z fun β1 s1 h1=>qeK Z Z Z fun β2 s2 h2=>qeK Z Z Z fun β3 s3 h3=>At Z Z<|Sr<|qae (qbj Z) Z<|G4 ?_;have e3:=h1.t h2|>.t h3;exact rR [] _ (.t1 Z) Z e3 fun _ hS2=>⟨[_,_,_],rfl,fun s2 hs2 hp=>.bin _ _ _ _ _ hk (hp _ _ _ (List.mem_cons_of_mem _ Mc)) (hp _ _ _ (List.mem_cons_of_mem _ (List.mem_cons_of_mem _ Mc))) (hp _ _ _ Mc) (VeR.le (e3|>.t (hS2.t hs2)) hv1) (VeR.le (e3|>.t (hS2.t hs2)) hv2) ho⟩
def ViE.func{f:Fnc}{Vq9:World→Ex→List Value→Prop}{s:World}{x:Ex}(h:ViE p f Vq9 s x v):∃ kk cap,v=.func (.func kk) #[] (List.toArray cap):=by
 cases h with
 | call w hk h=>obtain ⟨be,bi,A,n,c,k,fk,rfl,_⟩:=h;exact ⟨_,[_,_],rfl⟩
 | num=>exact ⟨_,[_],rfl⟩
 | slot=>exact ⟨_,[_],rfl⟩
 | con=>exact ⟨_,[_],rfl⟩
 | var=>exact ⟨_,[_],rfl⟩
 | idx=>exact ⟨_,[_,_],rfl⟩
 | get=>exact ⟨_,[],rfl⟩
 | una=>exact ⟨_,[_,_],rfl⟩
 | bin=>exact ⟨_,[_,_,_],rfl⟩
def ViS.func{f:Fnc}{E:World→Ex→List Value→Prop}{Vq9:World→Stm→List Value→Prop}{s:World}(h:ViS p f E Vq9 s x v):∃ kk cap,v=.func (.func kk) #[] (List.toArray cap):=by
 cases h with
 | setl=>exact ⟨_,[_,_],rfl⟩
 | setg=>exact ⟨_,[_,_],rfl⟩
 | store=>exact ⟨_,[_,_],rfl⟩
 | cond=>exact ⟨_,[_,_,_],rfl⟩
 | loop=>exact ⟨_,[_,_],rfl⟩
 | call=>exact ⟨_,[_],rfl⟩
 | ret=>exact ⟨_,[_],rfl⟩
 | put=>exact ⟨_,[_],rfl⟩
 | stop=>exact ⟨_,[_],rfl⟩
 | brk=>exact ⟨_,[],rfl⟩
 | cont=>exact ⟨_,[],rfl⟩
theorem qsm(k:Int):qfU k≤6:=by grind [qfU]
theorem qsn(k:Int):qfV k≤6:=by grind [qfV]
def XPR(D d:Nat):Prop:=∀ (L:Hl) (s:World) (d0:Nat) (p:Prg) (Ag Af:Option Addr) (ng cg nf cf:Nat) (hGl:Glos s Ag ng cg p.globals) (hFn:Fncs d0 s Af nf cf p.funcs) (f:Fnc) (P1 P2 P3:Option Addr) (p1 r1 p2 r2 p3 r3:Nat) (hP1:Strs s P1 p1 r1 f.params) (hP2:Strs s P2 p2 r2 f.locals) (hsz:f.params.length+f.locals.length≤100) (hPK:POK p) (x:Ex) (A:Option Addr) (n c:Nat),Exs d s A n c x.args→U32 x.num→XOI p f x→AC prog D 118 [.agg #[.slice Ag ng cg,.slice Af nf cf,St f.name,.slice P1 p1 r1,.slice P2 p2 r2,.slice P3 p3 r3],.agg #[.int .i64 x.kind,.int .i64 x.op,.int .u32 x.num,St x.name,.slice A n c]] L s fun v L' s'=>L=L'∧ViE p f (VeR p f d) s' x v
def XSR(D d:Nat):Prop:=∀ (L:Hl) (s:World) (d0:Nat) (p:Prg) (Ag Af:Option Addr) (ng cg nf cf:Nat) (hGl:Glos s Ag ng cg p.globals) (hFn:Fncs d0 s Af nf cf p.funcs) (f:Fnc) (P1 P2 P3:Option Addr) (p1 r1 p2 r2 p3 r3:Nat) (hP1:Strs s P1 p1 r1 f.params) (hP2:Strs s P2 p2 r2 f.locals) (hsz:f.params.length+f.locals.length≤100) (hPK:POK p) (A:Option Addr) (n c:Nat) (xs:List Ex),Exs d s A n c xs→(∀ x∈xs,XOI p f x)→n≤100000→AC prog D 79 [.agg #[.slice Ag ng cg,.slice Af nf cf,St f.name,.slice P1 p1 r1,.slice P2 p2 r2,.slice P3 p3 r3],.slice A n c] L s fun v L' s'=>L=L'∧∃ A' n' c',v=.slice A' n' c'∧VeS p f d s' A' n' c' xs
def qhs(D d:Nat)(ih:∀ e,d=e+1→XPR D e)(L:Hl)(s:World)(d0:Nat)(p:Prg)(Ag Af:Option Addr)(ng cg nf cf:Nat)(hGl:Glos s Ag ng cg p.globals)(hFn:Fncs d0 s Af nf cf p.funcs)(f:Fnc)(P1 P2 P3:Option Addr)(p1 r1 p2 r2 p3 r3:Nat)(hP1:Strs s P1 p1 r1 f.params)(hP2:Strs s P2 p2 r2 f.locals)(hsz:f.params.length+f.locals.length≤100)(hPK:POK p)(A:Option Addr)(n c:Nat)(xs:List Ex)(hA:Exs d s A n c xs)(hO:∀ x∈xs,XOI p f x)(hnl:n≤100000):AC prog D 79 [.agg #[.slice Ag ng cg,.slice Af nf cf,St f.name,.slice P1 p1 r1,.slice P2 p2 r2,.slice P3 p3 r3],.slice A n c] L s fun v L' s'=>∃ M',L'=M'++L∧∀ s2,Le D s' s2→Pub M' s2→∃ A' n' c',v=.slice A' n' c'∧VeS p f d s2 A' n' c' xs:=by
 have hn1:=hA.1;refine qad (fn:=f79) qao func79 V Z ntmps79 Z (rs:=[.tmp 4]) Z [(0,_),(1,_)] Z<|Sr<|qar Z Z fun β1 s1 h1=>G17 ?_;refine qaH (γ:=Nat×Value×Hl) (fun g=>[(2,_),(4,_),(5,g.2.1),(9,_),(10,_),(11,.int .i64 (g.1:Int))]) (fun g=>_::(g.2.2++L)) (fun g tw=>Le D s1 tw∧(g.1≤n∧∃ css,FL.Own 189 1 g.2.2 g.2.1 g.1 (List.flatten css)∧All2 (fun x cs=>cs.length=1∧VeR p f d tw x cs) (xs.take g.1) css)) (fun g=>n - g.1) (fun _ _ _ h hl=>⟨h.1.trans hl,(by obtain ⟨k1,css,k2,k3⟩:=h.2;exact ⟨k1,css,k2,k3.mono fun _ _ k=>⟨k.1,VeR.le hl k.2⟩⟩)⟩) (0,.slice none 0 0,[]) (.c6 Z Z Z Z Z Z (.nil _)) Z ⟨Le.refl _,⟨Nat.zero_le _,[],.nil,.nil⟩⟩ ?_;intro g s2 I2;have e2:=h1.t I2.1;obtain ⟨k,vk,Mk⟩:=g;obtain ⟨hk0,css,hOk,hA2⟩:=I2.2;simp only at hk0 hOk hA2;refine J6 ?_ ?_<;>intro c3
 ·have hk:k < n:=by omega
  obtain ⟨e,b,off,x,A',n',c',hd,rfl,hx,hcx,hxa,hxu,_⟩:=Exs.at_ (hA.le e2) hk;have hxo:=hO x (List.mem_of_getElem? hx);refine G6 ?_;refine qae (qaw Z Z Z Z Z Z hk) Z<|qae (qat Z Z Z (hcx.le (Lr D)) Z) Z<|qac Z [_,_,_,_,_] Z Z fun β4 s4 h4=>Wt 0 [_,_,_,_,_] Y9<|Nt<|Sr<|qae (qaj 1 [_,_,_,_,_,_] Z Z Z Z Z) Z<|qae (qaj 0 [_,_,_,_,_] Z Z Z Z Z) Z<|Jc Z Z Z (ih e hd _ _ d0 p Ag Af ng cg nf cf (hGl.le (e2.t h4)) (hFn.le (e2.t h4)) f P1 P2 P3 p1 r1 p2 r2 p3 r3 (hP1.le (e2.t h4)) (hP2.le (e2.t h4)) hsz hPK x A' n' c' (hxa.le h4) hxu hxo) ?_;rintro _ _ s5 h5 ⟨rfl,hvi⟩;obtain ⟨kk,cap,hvf⟩:=hvi.func;subst hvf;refine qac Z [_] Z Z fun β6 s6 h6=>Wt 0 [_] Y9<|Nt<|qcM [] [_,_] _ ?_;intro s7 h7 hpub7;have gbx:=hpub7 _ _ _ Mc;refine Zr<|Zqm Z Z<|qae (qbj Z) Z<|qbd [(_,_)] [_] Z Z Z Z Z Z Z Z Z fun β8 s8 h8 hc8=>qcT (sz:=1) [_] Mk L Z Z Z Z Z Z Z hOk (Row.of_cells (hc8.le (Lr D)) Z Z) ⟨by simp [ti189];omega,by omega⟩ Z fun v9 M9 s9 h9 oq=>G5 ?_;refine qaV Z Z Z (w64 O O)<|G2 ?_;refine qaf ⟨(k+1,v9,M9),[],kp,Z,⟨(I2.1.t h4|>.t h5|>.t h6|>.t h7|>.t h8|>.t h9),⟨by simp only;omega,css++[[_]],by simp only [List.flatten_append,List.flatten_cons,List.flatten_nil,List.append_nil];exact oq,by simp only;rw [qbX hx];exact (hA2.mono fun _ _ k=>⟨k.1,VeR.le (h4.t h5|>.t h6|>.t h7|>.t h8|>.t h9) k.2⟩).snoc ⟨Z,hd▸⟨_,_,Z,gbx.le (h8.t h9),hvi.le (h6.t h7|>.t h8|>.t h9) (fun _ _ h=>VeR.le (h6.t h7|>.t h8|>.t h9) h)⟩⟩⟩⟩,Oz⟩
 obtain rfl:n=k:=by omega
 rw [List.take_of_length_le O] at hA2;obtain ⟨Ak,ck,rfl,_,_⟩:=Own.slice hOk;refine G12 ?_;exact rR [] _ (.t1 Z) Z e2 fun _ hS2=>⟨_::Mk,rfl,fun s2 hs2 hp=>⟨_,_,_,rfl,Own.rows hOk hp.tail (hA2.mono fun _ _ k=>⟨k.1,VeR.le ((Lr D).t (hS2.t hs2)) k.2⟩) hn1⟩⟩
def qEo{p:Prop} (h:p:=by
 first
  | (exact ⟨[_,_,_],rfl,fun s2 hs2 hp=>hW.le ((Lr D).t (hS2.t hs2)) fun _ _ h=>VeR.le ((Lr D).t (hS2.t hs2)) h⟩)
  | (exact ⟨[_,_,_],rfl,fun s2 hs2 hp=>.call _ hk4 (hW.le ((Lr D).t (hS2.t hs2)) fun _ _ h=>VeR.le ((Lr D).t (hS2.t hs2)) h)⟩)):p:=h
def qnu(D d:Nat)(ih:XSR D d)(L:Hl)(s:World)(d0:Nat)(p:Prg)(Ag Af:Option Addr)(ng cg nf cf:Nat)(hGl:Glos s Ag ng cg p.globals)(hFn:Fncs d0 s Af nf cf p.funcs)(f:Fnc)(P1 P2 P3:Option Addr)(p1 r1 p2 r2 p3 r3:Nat)(hP1:Strs s P1 p1 r1 f.params)(hP2:Strs s P2 p2 r2 f.locals)(hsz:f.params.length+f.locals.length≤100)(hPK:POK p)(x:Ex)(A:Option Addr)(n c:Nat)(hA:Exs d s A n c x.args)(hxu:U32 x.num)(hxo:XOI p f x):AC prog D 118 [.agg #[.slice Ag ng cg,.slice Af nf cf,St f.name,.slice P1 p1 r1,.slice P2 p2 r2,.slice P3 p3 r3],.agg #[.int .i64 x.kind,.int .i64 x.op,.int .u32 x.num,St x.name,.slice A n c]] L s fun v L' s'=>∃ M',L'=M'++L∧∀ s2,Le D s' s2→Pub M' s2→ViE p f (VeR p f d) s2 x v:=by
 obtain ⟨hC,_⟩:=qdW hxo.1;obtain ⟨hk1,hk7,hle,hmo,ho6,ho7⟩:=qcC hC;have hn1:=hA.1;have hm6:=qsm x.kind;refine qad (fn:=f118) qao func118 V Z ntmps118 Z (rs:=[.tmp 4]) Z [(0,_),(1,_)] Z<|Sr<|qar Z Z fun β1 s1 h1=>qar Z Z fun β2 s2 h2=>At Z Z<|Sr<|qae (qaj 1 [_,_,_,_,_,_] Z Z Z Z Z) Z<|G2 ?_;refine Jc Z Z Z (ih _ _ d0 p Ag Af ng cg nf cf (hGl.le (h1.t h2)) (hFn.le (h1.t h2)) f P1 P2 P3 p1 r1 p2 r2 p3 r3 (hP1.le (h1.t h2)) (hP2.le (h1.t h2)) hsz hPK A n c x.args (hA.le (h1.t h2)) hxo.args O) ?_;have e2:=h1.t h2;rintro _ _ s3 h3 ⟨rfl,A',n',c',rfl,hV⟩;have e3:=e2.t h3;have hn2:=hV.1;refine qac Z [_] Z Z fun β4 s4 h4=>Wt 0 [_] Y9<|G16 ?_;have e4:=e3.t h4;refine qaa Z ?_ ?_<;>intro c5;·have hk1:x.kind=1:=c5;refine X20 ?_;exact rR [] _ (.t1 Z) Z e4 fun _ hS2=>⟨[_,_,_],rfl,fun s2 hs2 hp=>.num _ A n c hk1 (hp _ _ _ (List.mem_cons_of_mem _ Mc)) hxu⟩
 refine J6 ?_ ?_<;>intro c6;·have hk2:x.kind=2:=c6;refine X11 ?_;refine Jc Z Z Z (AC.pubW (qsp D _ _ d0 p Ag Af ng cg nf cf (hGl.le e4) (hFn.le e4) f P1 P2 P3 p1 r1 p2 r2 p3 r3 (hP1.le e4) (hP2.le e4) hsz (VeR p f d) x hk2 (mn2 hPK hxo hk2))) ?_;rintro _ _ s7 h7 ⟨rfl,hW⟩;refine G6 ?_;exact rR [] _ (.t1 Z) Z (e4.t h7) fun _ hS2=>qEo
 refine J6 ?_ ?_<;>intro c7
 ·have hk3:x.kind=3:=c7;obtain ⟨k,g,hg,hgp,g3⟩:=mn3 hPK hxo hk3;have h0n:0 < n':=by have h9:qdx x.kind=1:=(by rw [hk3];rfl);omega
  refine Sr<|qae (qaj 2 [_,_,_,_,_,_] Z Z Z Z Z) Z<|G2 ?_;refine Je Z Z Z (qfo D _ _ d0 p Ag Af ng cg nf cf (hGl.le e4) (hFn.le e4) f P1 P2 P3 p1 r1 p2 r2 p3 r3 (hP1.le e4) (hP2.le e4) x.name) fun s8 h8=>qac Z [_] Z Z fun β9 s9 h9=>Wt 0 [_] Y9<|Nt<|Sr<|qae (qbj Z) Z<|G6 ?_;exact rR [] _ (.t1 Z) Z (e4.t h8|>.t h9) fun _ hS2=>⟨[_,_,_,_],rfl,fun s2 hs2 hp=>.idx _ _ k g _ _ _ hk3 hg hgp g3 (by rw [← hg];exact (hp _ _ _ Mc)) (hp _ _ _ (List.mem_cons_of_mem _ Mc)) (hV.le (h4.t h8|>.t h9|>.t (hS2.t hs2))) h0n⟩
 refine J6 ?_ ?_<;>intro c8;·have hk4:x.kind=4:=c8;obtain ⟨k,fk,hg,hpk,hl⟩:=mn4 hPK hxo hk4;refine Sr<|qae (qaj 2 [_,_,_,_,_,_] Z Z Z Z Z) Z<|G3 ?_;refine Jc Z Z Z (AC.pubW (qkw D _ _ d0 p Ag Af ng cg nf cf (hGl.le e4) (hFn.le e4) f P1 P2 P3 p1 r1 p2 r2 p3 r3 (hP1.le e4) (hP2.le e4) d x.name x.args A' n' c' k fk (hV.le h4) hg hpk hl)) ?_;rintro _ _ s9 h9 ⟨rfl,hW⟩;refine G6 ?_;exact rR [] _ (.t1 Z) Z (e4.t h9) fun _ hS2=>qEo
 refine J6 ?_ ?_<;>intro c9;·have hk5:x.kind=5:=c9;refine G8 ?_;exact rR [] _ (.t1 Z) Z e4 fun _ hS2=>⟨[_,_,_],rfl,fun s2 hs2 hp=>.get hk5⟩
 refine J6 ?_ ?_<;>intro c10
 ·have hk6:x.kind=6:=c10;have h0n:0 < n':=by have h9:qdx x.kind=1:=(by rw [hk6];rfl);omega
  refine Sr<|qae (qbj Z) Z<|G6 ?_;exact rR [] _ (.t1 Z) Z e4 fun _ hS2=>⟨[_,_,_],rfl,fun s2 hs2 hp=>.una _ _ A n c _ _ _ hk6 (hp _ _ _ (List.mem_cons_of_mem _ Mc)) (hp _ _ _ Mc) (hV.le (h4.t (hS2.t hs2))) h0n⟩
 have h0n:0 < n':=by have h9:qdx x.kind=2:=(by rw [show x.kind=7 by omega];rfl);omega
 have h1n:1 < n':=by have h9:qdx x.kind=2:=(by rw [show x.kind=7 by omega];rfl);omega
 obtain ⟨B0,o0,b4,hAe0,hcE,hvE⟩:=VeS.at_ hV h0n;subst hAe0;obtain ⟨B1,o1,b5,hAe,hcF,hvF⟩:=VeS.at_ hV h1n;simp only [Option.some.injEq,Addr.mk.injEq,and_true] at hAe;obtain ⟨hAe1,hAe2⟩:=hAe;subst hAe1;subst hAe2;refine G4 ?_;refine qaL qab 10 Z _ (fun _ h=>h) fun s11 h11=>H3 ?_;refine za 3 Z (qaQ Z Z Z Z Z Z h0n) Z<|za 4 Z (qak Z Z Z (hcE.le (h4.t h11)) Z) Z<|H1 ?_;refine za 6 Z (qaQ Z Z Z Z Z Z h1n) Z<|za 7 Z (qak Z Z Z (hcF.le (h4.t h11)) Z) Z<|qaq 8 V<|Jb Z Tt Z Z Z (AC.pubW (qmP D _ _ p f d b4 b5 x O (ho7 O) (VeR.le (h4.t h11) hvE) (VeR.le (h4.t h11) hvF))) ?_;rintro _ _ s12 h12 ⟨rfl,hW⟩;refine ⟨fun _ _ h=>h,?_⟩;refine H1 ?_;refine qah V<|G2 ?_;exact rR [] _ (.t1 Z) Z (e4.t h11|>.t h12) fun _ hS2=>qEo
def xsr(D:Nat):∀ d,XSR D d
 | 0=>fun L s d0 p Ag Af ng cg nf cf hGl hFn f P1 P2 P3 p1 r1 p2 r2 p3 r3 hP1 hP2 hsz hPK A n c xs hA hO hnl=>AC.pubW (qhs D 0 (fun e h=>by omega) L s d0 p Ag Af ng cg nf cf hGl hFn f P1 P2 P3 p1 r1 p2 r2 p3 r3 hP1 hP2 hsz hPK A n c xs hA hO hnl)
 | d+1=>fun L s d0 p Ag Af ng cg nf cf hGl hFn f P1 P2 P3 p1 r1 p2 r2 p3 r3 hP1 hP2 hsz hPK A n c xs hA hO hnl=>AC.pubW (qhs D (d+1) (fun e h=>(show d=e by omega)▸fun L s d0 p Ag Af ng cg nf cf hGl hFn f P1 P2 P3 p1 r1 p2 r2 p3 r3 hP1 hP2 hsz hPK x A n c hA hu hx=>AC.pubW (qnu D d (xsr D d) L s d0 p Ag Af ng cg nf cf hGl hFn f P1 P2 P3 p1 r1 p2 r2 p3 r3 hP1 hP2 hsz hPK x A n c hA hu hx)) L s d0 p Ag Af ng cg nf cf hGl hFn f P1 P2 P3 p1 r1 p2 r2 p3 r3 hP1 hP2 hsz hPK A n c xs hA hO hnl)
def TPR(D d:Nat):Prop:=∀ (L:Hl) (s:World) (d0:Nat) (p:Prg) (Ag Af:Option Addr) (ng cg nf cf:Nat) (hGl:Glos s Ag ng cg p.globals) (hFn:Fncs d0 s Af nf cf p.funcs) (f:Fnc) (P1 P2 P3:Option Addr) (p1 r1 p2 r2 p3 r3:Nat) (hP1:Strs s P1 p1 r1 f.params) (hP2:Strs s P2 p2 r2 f.locals) (hsz:f.params.length+f.locals.length≤100) (hPK:POK p) (x:Stm) (A1:Option Addr) (n1 c1:Nat) (A2:Option Addr) (n2 c2:Nat) (A3:Option Addr) (n3 c3:Nat),Exs d s A1 n1 c1 x.exprs→Stms d s A2 n2 c2 x.body→Stms d s A3 n3 c3 x.els→qbG x.body≤2000→qbG x.els≤2000→StOK p f x→AC prog D 46 [.agg #[.slice Ag ng cg,.slice Af nf cf,St f.name,.slice P1 p1 r1,.slice P2 p2 r2,.slice P3 p3 r3],.agg #[.int .i64 x.kind,St x.name,.slice A1 n1 c1,.slice A2 n2 c2,.slice A3 n3 c3]] L s fun v L' s'=>L=L'∧ViS p f (VeR p f d) (VsR p f d) s' x v
def TSR(D d:Nat):Prop:=∀ (L:Hl) (s:World) (d0:Nat) (p:Prg) (Ag Af:Option Addr) (ng cg nf cf:Nat) (hGl:Glos s Ag ng cg p.globals) (hFn:Fncs d0 s Af nf cf p.funcs) (f:Fnc) (P1 P2 P3:Option Addr) (p1 r1 p2 r2 p3 r3:Nat) (hP1:Strs s P1 p1 r1 f.params) (hP2:Strs s P2 p2 r2 f.locals) (hsz:f.params.length+f.locals.length≤100) (hPK:POK p) (A:Option Addr) (n c:Nat) (xs:List Stm),Stms d s A n c xs→(∀ x∈xs,StOK p f x)→qbG xs≤2000→AC prog D 19 [.agg #[.slice Ag ng cg,.slice Af nf cf,St f.name,.slice P1 p1 r1,.slice P2 p2 r2,.slice P3 p3 r3],.slice A n c] L s fun v L' s'=>L=L'∧∃ A' n' c',v=.slice A' n' c'∧VsS p f d s' A' n' c' xs
def qig(D d:Nat)(ih:∀ e,d=e+1→TPR D e)(L:Hl)(s:World)(d0:Nat)(p:Prg)(Ag Af:Option Addr)(ng cg nf cf:Nat)(hGl:Glos s Ag ng cg p.globals)(hFn:Fncs d0 s Af nf cf p.funcs)(f:Fnc)(P1 P2 P3:Option Addr)(p1 r1 p2 r2 p3 r3:Nat)(hP1:Strs s P1 p1 r1 f.params)(hP2:Strs s P2 p2 r2 f.locals)(hsz:f.params.length+f.locals.length≤100)(hPK:POK p)(A:Option Addr)(n c:Nat)(xs:List Stm)(hA:Stms d s A n c xs)(hO:∀ x∈xs,StOK p f x)(hN:qbG xs≤2000)(hnl:n≤100000):AC prog D 19 [.agg #[.slice Ag ng cg,.slice Af nf cf,St f.name,.slice P1 p1 r1,.slice P2 p2 r2,.slice P3 p3 r3],.slice A n c] L s fun v L' s'=>∃ M',L'=M'++L∧∀ s2,Le D s' s2→Pub M' s2→∃ A' n' c',v=.slice A' n' c'∧VsS p f d s2 A' n' c' xs:=by
 have hn1:=hA.1;refine qad (fn:=f19) qao func19 V Z ntmps19 Z (rs:=[.tmp 4]) Z [(0,_),(1,_)] Z<|Sr<|qar Z Z fun β1 s1 h1=>G17 ?_;refine qaH (γ:=Nat×Value×Hl) (fun g=>[(2,_),(4,_),(5,g.2.1),(9,_),(10,_),(11,.int .i64 (g.1:Int))]) (fun g=>_::(g.2.2++L)) (fun g tw=>Le D s1 tw∧(g.1≤n∧∃ css,FL.Own 133 1 g.2.2 g.2.1 g.1 (List.flatten css)∧All2 (fun x cs=>cs.length=1∧VsR p f d tw x cs) (xs.take g.1) css)) (fun g=>n - g.1) (fun _ _ _ h hl=>⟨h.1.trans hl,(by obtain ⟨k1,css,k2,k3⟩:=h.2;exact ⟨k1,css,k2,k3.mono fun _ _ k=>⟨k.1,VsR.le hl k.2⟩⟩)⟩) (0,.slice none 0 0,[]) (.c6 Z Z Z Z Z Z (.nil _)) Z ⟨Le.refl _,⟨Nat.zero_le _,[],.nil,.nil⟩⟩ ?_;intro g s2 I2;have e2q:=h1.t I2.1;obtain ⟨k,vk,Mk⟩:=g;obtain ⟨hk0,css,hOk,hA2⟩:=I2.2;simp only at hk0 hOk hA2;dsimp only;refine J6 ?_ ?_<;>intro c3
 ·have hk:k < n:=by omega
  obtain ⟨e,b,off,x,B1,m1,e1,B2,m2,e2,B3,m3,e3,hd,rfl,hx,hcx,hx1,hx2,hx3,_⟩:=Stms.at_ (hA.le e2q) hk;have hNx:=qmu hx;have hxo:=hO x (List.mem_of_getElem? hx);refine G6 ?_;refine qae (qaw Z Z Z Z Z Z hk) Z<|qae (qat Z Z Z (hcx.le (Lr D)) Z) Z<|qac Z [_,_,_,_,_] Z Z fun β4 s4 h4=>Wt 0 [_,_,_,_,_] Y9<|Nt<|Sr<|qae (qaj 1 [_,_,_,_,_,_] Z Z Z Z Z) Z<|qae (qaj 0 [_,_,_,_,_] Z Z Z Z Z) Z<|Jc Z Z Z (ih e hd _ _ d0 p Ag Af ng cg nf cf (hGl.le (e2q.t h4)) (hFn.le (e2q.t h4)) f P1 P2 P3 p1 r1 p2 r2 p3 r3 (hP1.le (e2q.t h4)) (hP2.le (e2q.t h4)) hsz hPK x B1 m1 e1 B2 m2 e2 B3 m3 e3 (hx1.le h4) (hx2.le h4) (hx3.le h4) O O hxo) ?_;rintro _ _ s5 h5 ⟨rfl,hvi⟩;obtain ⟨kk,cap,hvf⟩:=hvi.func;subst hvf;refine qac Z [_] Z Z fun β6 s6 h6=>Wt 0 [_] Y9<|Nt<|qcM [] [_,_] _ ?_;intro s7 h7 hpub7;simp only [cQ9,nQ9];have gbx:=hpub7 _ _ _ Mc;refine Zr<|Zqm Z Z<|qae (qbj Z) Z<|qbd [(_,_)] [_] Z Z Z Z Z Z Z Z Z fun β8 s8 h8 hc8=>qcT (sz:=1) [_] Mk L Z Z Z Z Z Z Z hOk (Row.of_cells (hc8.le (Lr D)) Z Z) ⟨by simp [ti133];omega,by omega⟩ Z ?_;have e8:=h6.t h7|>.t h8;intro v9 M9 s9 h9 oq;simp only [cQ9,nQ9];refine G5 ?_;refine qaV Z Z Z (w64 O O)<|G2 ?_;refine qaf ⟨(k+1,v9,M9),[],kp,Z,⟨(I2.1.t h4|>.t h5|>.t h6|>.t h7|>.t h8|>.t h9),⟨by simp only;omega,css++[[_]],by simp only [List.flatten_append,List.flatten_cons,List.flatten_nil,List.append_nil];exact oq,by simp only;rw [qbX hx];exact (hA2.mono fun _ _ k=>⟨k.1,VsR.le (h4.t h5|>.t h6|>.t h7|>.t h8|>.t h9) k.2⟩).snoc ⟨Z,hd▸⟨_,_,Z,gbx.le (h8.t h9),hvi.le (e8.t h9) (fun _ _ h=>VeR.le (e8.t h9) h) (fun _ _ h=>VsR.le (e8.t h9) h)⟩⟩⟩⟩,Oz⟩
 obtain rfl:n=k:=by omega
 rw [List.take_of_length_le O] at hA2;obtain ⟨Ak,ck,rfl,_,_⟩:=Own.slice hOk;refine G12 ?_;exact rR [] _ (.t1 Z) Z e2q fun _ hS2=>⟨_::Mk,rfl,fun s2 hs2 hp=>⟨_,_,_,rfl,Own.rows hOk hp.tail (hA2.mono fun _ _ k=>⟨k.1,VsR.le ((Lr D).t (hS2.t hs2)) k.2⟩) hn1⟩⟩
def qnv(D d:Nat)(ihB:TSR D d)(L:Hl)(s:World)(d0:Nat)(p:Prg)(Ag Af:Option Addr)(ng cg nf cf:Nat)(hGl:Glos s Ag ng cg p.globals)(hFn:Fncs d0 s Af nf cf p.funcs)(f:Fnc)(P1 P2 P3:Option Addr)(p1 r1 p2 r2 p3 r3:Nat)(hP1:Strs s P1 p1 r1 f.params)(hP2:Strs s P2 p2 r2 f.locals)(hsz:f.params.length+f.locals.length≤100)(hPK:POK p)(x:Stm)(A1:Option Addr)(n1 q1:Nat)(A2:Option Addr)(n2 q2:Nat)(A3:Option Addr)(n3 q3:Nat)(hA1:Exs d s A1 n1 q1 x.exprs)(hA2:Stms d s A2 n2 q2 x.body)(hA3:Stms d s A3 n3 q3 x.els)(hN2:qbG x.body≤2000)(hN3:qbG x.els≤2000)(hxo:StOK p f x):AC prog D 46 [.agg #[.slice Ag ng cg,.slice Af nf cf,St f.name,.slice P1 p1 r1,.slice P2 p2 r2,.slice P3 p3 r3],.agg #[.int .i64 x.kind,St x.name,.slice A1 n1 q1,.slice A2 n2 q2,.slice A3 n3 q3]] L s fun v L' s'=>∃ M',L'=M'++L∧∀ s2,Le D s' s2→Pub M' s2→ViS p f (VeR p f d) (VsR p f d) s2 x v:=by
 obtain ⟨lv,hlv⟩:=hxo.1;obtain ⟨hk1,hk10,hle,hmo,_,_⟩:=qcE (qdm hlv).2.1;have hn1:=hA1.1;have hm6:=qsn x.kind;refine qad (fn:=f46) qao func46 V Z ntmps46 Z (rs:=[.tmp 4]) Z [(0,_),(1,_)] Z<|Sr<|qar Z Z fun β1 s1 h1=>qar Z Z fun β2 s2 h2=>At Z Z<|Sr<|qae (qaj 1 [_,_,_,_,_,_] Z Z Z Z Z) Z<|G2 ?_;refine Jc Z Z Z (xsr D d _ _ d0 p Ag Af ng cg nf cf (hGl.le (h1.t h2)) (hFn.le (h1.t h2)) f P1 P2 P3 p1 r1 p2 r2 p3 r3 (hP1.le (h1.t h2)) (hP2.le (h1.t h2)) hsz hPK A1 n1 q1 x.exprs (hA1.le (h1.t h2)) hxo.exprs O) ?_;have e2:=h1.t h2;rintro _ _ s3 h3 ⟨rfl,A',n',c',rfl,hV⟩;have e3:=e2.t h3;have hn2:=hV.1;refine qac Z [_] Z Z fun β4 s4 h4=>Wt 0 [_] Y9<|G16 ?_;have e4:=e3.t h4;refine qaa Z ?_ ?_<;>intro c5
 ·have hkk:x.kind=1:=c5;have h0n:0 < n':=by have h9:qcY x.kind=1:=(by rw [hkk];rfl);omega
  obtain ⟨B0,o0,b4,hAe0,hcE,hvE⟩:=VeS.at_ hV h0n;subst hAe0;refine Zs<|qaL qab 8 Z _ (fun _ h=>h) fun s6 h6=>za 0 Z (qaj 2 [_,_,_,_,_,_] Z Z Z Z Z) Z<|H3 ?_;refine za 4 Z (qaQ Z Z Z Z Z Z h0n) Z<|za 5 Z (qak Z Z Z (hcE.le (h4.t h6)) Z) Z<|qaq 6 V<|Jb Z Tt Z Z Z (AC.pubW (qmO D _ _ d0 p Ag Af ng cg nf cf (hGl.le (e4.t h6)) (hFn.le (e4.t h6)) f P1 P2 P3 p1 r1 p2 r2 p3 r3 (hP1.le (e4.t h6)) (hP2.le (e4.t h6)) hsz (VsR p f d) d b4 x hkk (ms1 hPK hxo hkk) (VeR.le (h4.t h6) hvE))) ?_;rintro _ _ s7 h7 ⟨rfl,hW⟩;refine ⟨fun _ _ h=>h,?_⟩;refine H1 ?_;refine qah V<|G4 ?_;exact rR [] _ (.t1 Z) Z (e4.t h6|>.t h7) fun _ hS2=>⟨[_,_,_],rfl,fun s2 hs2 hp=>hW.le ((Lr D).t (hS2.t hs2)) (fun _ _ h=>VeR.le ((Lr D).t (hS2.t hs2)) h) fun _ _ h=>VsR.le ((Lr D).t (hS2.t hs2)) h⟩
 refine J6 ?_ ?_<;>intro c6
 ·have hkk:x.kind=2:=c6;obtain ⟨k,g,hg,hgp,g3⟩:=ms2 hPK hxo hkk;have h1n:1 < n':=by have h9:qcY x.kind=2:=(by rw [hkk];rfl);omega
  refine Sr<|qae (qaj 2 [_,_,_,_,_,_] Z Z Z Z Z) Z<|G2 ?_;refine Je Z Z Z (qfo D _ _ d0 p Ag Af ng cg nf cf (hGl.le e4) (hFn.le e4) f P1 P2 P3 p1 r1 p2 r2 p3 r3 (hP1.le e4) (hP2.le e4) x.name) fun s7 h7=>qac Z [_] Z Z fun β8 s8 h8=>Wt 0 [_] Y9<|Nt<|Sr<|qae (qbj Z) Z<|G6 ?_;exact rR [] _ (.t1 Z) Z (e4.t h7|>.t h8) fun _ hS2=>⟨[_,_,_,_],rfl,fun s2 hs2 hp=>.store _ _ k g _ _ _ hkk hg hgp g3 (by rw [← hg];exact (hp _ _ _ Mc)) (hp _ _ _ (List.mem_cons_of_mem _ Mc)) (hV.le (h4.t h7|>.t h8|>.t (hS2.t hs2))) h1n⟩
 refine J6 ?_ ?_<;>intro c7
 ·have hkk:x.kind=3:=c7;have h0n:0 < n':=by have h9:qcY x.kind=1:=(by rw [hkk];rfl);omega
  refine qkI (γ:=Nat×Nat×Value×Value) (fun g=>[(7,.pointer (some ⟨g.1,0,none⟩)),(8,.pointer (some ⟨g.2.1,0,none⟩))]) (fun g=>[(g.1,cb [g.2.2.1] 67),(g.2.1,cb [g.2.2.2] 67)]) (fun g tw=>∃ B5 m5 e5 B6 m6 e6,g.2.2.1=.slice B5 m5 e5∧g.2.2.2=.slice B6 m6 e6∧VsS p f d tw B5 m5 e5 x.body∧VsS p f d tw B6 m6 e6 x.els) (fun _ _ _ h hl=>(by obtain ⟨a,b,c,d,e,f,h1,h2,h3,h4⟩:=h;exact ⟨a,b,c,d,e,f,h1,h2,h3.le hl,h4.le hl⟩)) ?_ ?_
  ·refine qaL qab 12 Z _ (fun _ h=>h) fun s9 h9=>za 0 Z (qaj 2 [_,_,_,_,_,_] Z Z Z Z Z) Z<|H2 ?_;refine za 4 Z (qaj 2 [_,_,_,_,_,_] Z Z Z Z Z) Z<|H2 ?_;have e9:=e4.t h9;refine qBc 3 8 9 V ?_ ?_ ?_
   ·refine Jb Z Tt Z Z Z (ihB _ _ d0 p Ag Af ng cg nf cf (hGl.le e9) (hFn.le e9) f P1 P2 P3 p1 r1 p2 r2 p3 r3 (hP1.le e9) (hP2.le e9) hsz hPK A2 n2 q2 x.body (hA2.le e9) hxo.body O) ?_;rintro _ _ s10 h10 ⟨rfl,B5,m5,e5,rfl,hB5⟩;have e10:=e9.t h10;refine ⟨fun _ _ h=>h,?_⟩;refine qBc 7 8 9 V ?_ ?_ ?_
    ·refine Jb Z Tt Z Z Z (ihB _ _ d0 p Ag Af ng cg nf cf (hGl.le e10) (hFn.le e10) f P1 P2 P3 p1 r1 p2 r2 p3 r3 (hP1.le e10) (hP2.le e10) hsz hPK A3 n3 q3 x.els (hA3.le e10) hxo.els O) ?_;rintro _ _ s11 h11 ⟨rfl,B6,m6,e6,rfl,hB6⟩;refine ⟨fun _ _ h=>h,?_⟩;refine qdB 8 9 V ?_ ?_;·refine qaK Z Tt Z [_] Z Z fun β12 s12 h12=>qaq 9 V<|qaK Z Tt Z [_] Z Z fun β13 s13 h13=>qaq 10 V<|Wu Z Tt 1 [_] Y9 (sM (sbN (qgn (sbE _))))<|qaq 11 V<|Wu Z Tt 0 [_] Y9 (sM (sbN (qgn (sbE _))))<|qah V ?_;refine qaf (MidN.mk (β12,β13,_,_) [] (h9.t h10|>.t h11|>.t h12|>.t h13) (.c2 Z Z sk) (List.Perm.swap _ _ _) ⟨_,_,_,_,_,_,Z,Z,hB5.le (h11.t h12|>.t h13),hB6.le (h12.t h13)⟩)
     refine qaK Z Tt Z [_] Z Z fun β12 s12 h12=>qaq 8 V<|qaK Z Tt Z [_] Z Z fun β13 s13 h13=>qaq 10 V<|Wu Z Tt 0 [_] Y9 (sM (sbN (qgn (sbE _))))<|qaq 11 V<|Wu Z Tt 1 [_] Y9 (sM (sbN (qgn (sbE _))))<|qah V ?_;refine qaf (MidN.mk (β13,β12,_,_) [] (h9.t h10|>.t h11|>.t h12|>.t h13) (.c2 Z Z sk) Pr ⟨_,_,_,_,_,_,Z,Z,hB5.le (h11.t h12|>.t h13),hB6.le (h12.t h13)⟩)
    ·refine qaK Z Tt Z [_] Z Z fun β11 s11 h11=>qdB 7 9 V ?_ ?_;·refine Jb Z Tt Z Z Z (ihB _ _ d0 p Ag Af ng cg nf cf (hGl.le (e10.t h11)) (hFn.le (e10.t h11)) f P1 P2 P3 p1 r1 p2 r2 p3 r3 (hP1.le (e10.t h11)) (hP2.le (e10.t h11)) hsz hPK A3 n3 q3 x.els (hA3.le (e10.t h11)) hxo.els O) ?_;rintro _ _ s12 h12 ⟨rfl,B6,m6,e6,rfl,hB6⟩;refine ⟨fun _ _ h=>h,?_⟩;refine qaq 9 V<|qaK Z Tt Z [_] Z Z fun β13 s13 h13=>qaq 10 V<|Wu Z Tt 1 [_] Y9 (sM (sbN (qgn (sbE _))))<|qaq 11 V<|Wu Z Tt 0 [_] Y9 (sM (sbN (qgn (sbE _))))<|qah V ?_;refine qaf (MidN.mk (β11,β13,_,_) [] (h9.t h10|>.t h11|>.t h12|>.t h13) (.c2 Z Z sk) (List.Perm.swap _ _ _) ⟨_,_,_,_,_,_,Z,Z,hB5.le (h11.t h12|>.t h13),hB6.le h13⟩)
     refine qaK Z Tt Z [_] Z Z fun β12 s12 h12=>qaq 7 V<|Jb Z Tt Z Z Z (ihB _ _ d0 p Ag Af ng cg nf cf (hGl.le (e10.t h11|>.t h12)) (hFn.le (e10.t h11|>.t h12)) f P1 P2 P3 p1 r1 p2 r2 p3 r3 (hP1.le (e10.t h11|>.t h12)) (hP2.le (e10.t h11|>.t h12)) hsz hPK A3 n3 q3 x.els (hA3.le (e10.t h11|>.t h12)) hxo.els O) ?_;rintro _ _ s13 h13 ⟨rfl,B6,m6,e6,rfl,hB6⟩;refine ⟨fun _ _ h=>h,?_⟩;refine X7 ?_;refine qaf (MidN.mk (β11,β12,_,_) [] (h9.t h10|>.t h11|>.t h12|>.t h13) (.c2 Z Z sk) (List.Perm.swap _ _ _) ⟨_,_,_,_,_,_,Z,Z,hB5.le (h11.t h12|>.t h13),hB6.le (Lr D)⟩)
    refine qaK Z Tt Z [_] Z Z fun β11 s11 h11=>qdB 7 8 V ?_ ?_;·refine Jb Z Tt Z Z Z (ihB _ _ d0 p Ag Af ng cg nf cf (hGl.le (e10.t h11)) (hFn.le (e10.t h11)) f P1 P2 P3 p1 r1 p2 r2 p3 r3 (hP1.le (e10.t h11)) (hP2.le (e10.t h11)) hsz hPK A3 n3 q3 x.els (hA3.le (e10.t h11)) hxo.els O) ?_;rintro _ _ s12 h12 ⟨rfl,B6,m6,e6,rfl,hB6⟩;refine ⟨fun _ _ h=>h,?_⟩;refine qaq 8 V<|qaK Z Tt Z [_] Z Z fun β13 s13 h13=>qaq 10 V<|Wu Z Tt 0 [_] Y9 (sM (sbN (qgn (sbE _))))<|qaq 11 V<|Wu Z Tt 1 [_] Y9 (sM (sbN (qgn (sbE _))))<|qah V ?_;refine qaf (MidN.mk (β13,β11,_,_) [] (h9.t h10|>.t h11|>.t h12|>.t h13) (.c2 Z Z sk) Pr ⟨_,_,_,_,_,_,Z,Z,hB5.le (h11.t h12|>.t h13),hB6.le h13⟩)
    refine qaK Z Tt Z [_] Z Z fun β12 s12 h12=>qaq 7 V<|Jb Z Tt Z Z Z (ihB _ _ d0 p Ag Af ng cg nf cf (hGl.le (e10.t h11|>.t h12)) (hFn.le (e10.t h11|>.t h12)) f P1 P2 P3 p1 r1 p2 r2 p3 r3 (hP1.le (e10.t h11|>.t h12)) (hP2.le (e10.t h11|>.t h12)) hsz hPK A3 n3 q3 x.els (hA3.le (e10.t h11|>.t h12)) hxo.els O) ?_;rintro _ _ s13 h13 ⟨rfl,B6,m6,e6,rfl,hB6⟩;refine ⟨fun _ _ h=>h,?_⟩;refine X8 ?_;refine qaf (MidN.mk (β12,β11,_,_) [] (h9.t h10|>.t h11|>.t h12|>.t h13) (.c2 Z Z sk) Pr ⟨_,_,_,_,_,_,Z,Z,hB5.le (h11.t h12|>.t h13),hB6.le (Lr D)⟩)
   ·refine qaK Z Tt Z [_] Z Z fun β10 s10 h10=>qdB 3 9 V ?_ ?_
    ·refine Jb Z Tt Z Z Z (ihB _ _ d0 p Ag Af ng cg nf cf (hGl.le (e9.t h10)) (hFn.le (e9.t h10)) f P1 P2 P3 p1 r1 p2 r2 p3 r3 (hP1.le (e9.t h10)) (hP2.le (e9.t h10)) hsz hPK A2 n2 q2 x.body (hA2.le (e9.t h10)) hxo.body O) ?_;rintro _ _ s11 h11 ⟨rfl,B5,m5,e5,rfl,hB5⟩;have e11:=e9.t h10|>.t h11;refine ⟨fun _ _ h=>h,?_⟩;refine qdB 7 9 V ?_ ?_;·refine Jb Z Tt Z Z Z (ihB _ _ d0 p Ag Af ng cg nf cf (hGl.le e11) (hFn.le e11) f P1 P2 P3 p1 r1 p2 r2 p3 r3 (hP1.le e11) (hP2.le e11) hsz hPK A3 n3 q3 x.els (hA3.le e11) hxo.els O) ?_;rintro _ _ s12 h12 ⟨rfl,B6,m6,e6,rfl,hB6⟩;refine ⟨fun _ _ h=>h,?_⟩;refine qaq 9 V<|qaK Z Tt Z [_] Z Z fun β13 s13 h13=>qaq 10 V<|Wu Z Tt 1 [_] Y9 (sM (sbN (qgn (sbE _))))<|qaq 11 V<|Wu Z Tt 0 [_] Y9 (sM (sbN (qgn (sbE _))))<|qah V ?_;refine qaf (MidN.mk (β10,β13,_,_) [] (h9.t h10|>.t h11|>.t h12|>.t h13) (.c2 Z Z sk) (List.Perm.swap _ _ _) ⟨_,_,_,_,_,_,Z,Z,hB5.le (h12.t h13),hB6.le h13⟩)
     refine qaK Z Tt Z [_] Z Z fun β12 s12 h12=>qaq 7 V<|Jb Z Tt Z Z Z (ihB _ _ d0 p Ag Af ng cg nf cf (hGl.le (e11.t h12)) (hFn.le (e11.t h12)) f P1 P2 P3 p1 r1 p2 r2 p3 r3 (hP1.le (e11.t h12)) (hP2.le (e11.t h12)) hsz hPK A3 n3 q3 x.els (hA3.le (e11.t h12)) hxo.els O) ?_;rintro _ _ s13 h13 ⟨rfl,B6,m6,e6,rfl,hB6⟩;refine ⟨fun _ _ h=>h,?_⟩;refine X7 ?_;refine qaf (MidN.mk (β10,β12,_,_) [] (h9.t h10|>.t h11|>.t h12|>.t h13) (.c2 Z Z sk) (List.Perm.swap _ _ _) ⟨_,_,_,_,_,_,Z,Z,hB5.le (h12.t h13),hB6.le (Lr D)⟩)
    refine qaK Z Tt Z [_] Z Z fun β11 s11 h11=>qaq 3 V<|Jb Z Tt Z Z Z (ihB _ _ d0 p Ag Af ng cg nf cf (hGl.le (e9.t h10|>.t h11)) (hFn.le (e9.t h10|>.t h11)) f P1 P2 P3 p1 r1 p2 r2 p3 r3 (hP1.le (e9.t h10|>.t h11)) (hP2.le (e9.t h10|>.t h11)) hsz hPK A2 n2 q2 x.body (hA2.le (e9.t h10|>.t h11)) hxo.body O) ?_;have e11:=e9.t h10|>.t h11;rintro _ _ s12 h12 ⟨rfl,B5,m5,e5,rfl,hB5⟩;have e12:=e11.t h12;refine ⟨fun _ _ h=>h,?_⟩;refine qaq 7 V<|Jb Z Tt Z Z Z (ihB _ _ d0 p Ag Af ng cg nf cf (hGl.le e12) (hFn.le e12) f P1 P2 P3 p1 r1 p2 r2 p3 r3 (hP1.le e12) (hP2.le e12) hsz hPK A3 n3 q3 x.els (hA3.le e12) hxo.els O) ?_;rintro _ _ s13 h13 ⟨rfl,B6,m6,e6,rfl,hB6⟩;refine ⟨fun _ _ h=>h,?_⟩;refine X7 ?_;refine qaf (MidN.mk (β10,β11,_,_) [] (h9.t h10|>.t h11|>.t h12|>.t h13) (.c2 Z Z sk) (List.Perm.swap _ _ _) ⟨_,_,_,_,_,_,Z,Z,hB5.le h13,hB6.le (Lr D)⟩)
   refine qaK Z Tt Z [_] Z Z fun β10 s10 h10=>qdB 3 8 V ?_ ?_
   ·refine Jb Z Tt Z Z Z (ihB _ _ d0 p Ag Af ng cg nf cf (hGl.le (e9.t h10)) (hFn.le (e9.t h10)) f P1 P2 P3 p1 r1 p2 r2 p3 r3 (hP1.le (e9.t h10)) (hP2.le (e9.t h10)) hsz hPK A2 n2 q2 x.body (hA2.le (e9.t h10)) hxo.body O) ?_;rintro _ _ s11 h11 ⟨rfl,B5,m5,e5,rfl,hB5⟩;have e11:=e9.t h10|>.t h11;refine ⟨fun _ _ h=>h,?_⟩;refine qdB 7 8 V ?_ ?_;·refine Jb Z Tt Z Z Z (ihB _ _ d0 p Ag Af ng cg nf cf (hGl.le e11) (hFn.le e11) f P1 P2 P3 p1 r1 p2 r2 p3 r3 (hP1.le e11) (hP2.le e11) hsz hPK A3 n3 q3 x.els (hA3.le e11) hxo.els O) ?_;rintro _ _ s12 h12 ⟨rfl,B6,m6,e6,rfl,hB6⟩;refine ⟨fun _ _ h=>h,?_⟩;refine qaq 8 V<|qaK Z Tt Z [_] Z Z fun β13 s13 h13=>qaq 10 V<|Wu Z Tt 0 [_] Y9 (sM (sbN (qgn (sbE _))))<|qaq 11 V<|Wu Z Tt 1 [_] Y9 (sM (sbN (qgn (sbE _))))<|qah V ?_;refine qaf (MidN.mk (β13,β10,_,_) [] (h9.t h10|>.t h11|>.t h12|>.t h13) (.c2 Z Z sk) Pr ⟨_,_,_,_,_,_,Z,Z,hB5.le (h12.t h13),hB6.le h13⟩)
    refine qaK Z Tt Z [_] Z Z fun β12 s12 h12=>qaq 7 V<|Jb Z Tt Z Z Z (ihB _ _ d0 p Ag Af ng cg nf cf (hGl.le (e11.t h12)) (hFn.le (e11.t h12)) f P1 P2 P3 p1 r1 p2 r2 p3 r3 (hP1.le (e11.t h12)) (hP2.le (e11.t h12)) hsz hPK A3 n3 q3 x.els (hA3.le (e11.t h12)) hxo.els O) ?_;rintro _ _ s13 h13 ⟨rfl,B6,m6,e6,rfl,hB6⟩;refine ⟨fun _ _ h=>h,?_⟩;refine X8 ?_;refine qaf (MidN.mk (β12,β10,_,_) [] (h9.t h10|>.t h11|>.t h12|>.t h13) (.c2 Z Z sk) Pr ⟨_,_,_,_,_,_,Z,Z,hB5.le (h12.t h13),hB6.le (Lr D)⟩)
   refine qaK Z Tt Z [_] Z Z fun β11 s11 h11=>qaq 3 V<|Jb Z Tt Z Z Z (ihB _ _ d0 p Ag Af ng cg nf cf (hGl.le (e9.t h10|>.t h11)) (hFn.le (e9.t h10|>.t h11)) f P1 P2 P3 p1 r1 p2 r2 p3 r3 (hP1.le (e9.t h10|>.t h11)) (hP2.le (e9.t h10|>.t h11)) hsz hPK A2 n2 q2 x.body (hA2.le (e9.t h10|>.t h11)) hxo.body O) ?_;have e11:=e9.t h10|>.t h11;rintro _ _ s12 h12 ⟨rfl,B5,m5,e5,rfl,hB5⟩;have e12:=e11.t h12;refine ⟨fun _ _ h=>h,?_⟩;refine qaq 7 V<|Jb Z Tt Z Z Z (ihB _ _ d0 p Ag Af ng cg nf cf (hGl.le e12) (hFn.le e12) f P1 P2 P3 p1 r1 p2 r2 p3 r3 (hP1.le e12) (hP2.le e12) hsz hPK A3 n3 q3 x.els (hA3.le e12) hxo.els O) ?_;rintro _ _ s13 h13 ⟨rfl,B6,m6,e6,rfl,hB6⟩;refine ⟨fun _ _ h=>h,?_⟩;refine X8 ?_;refine qaf (MidN.mk (β11,β10,_,_) [] (h9.t h10|>.t h11|>.t h12|>.t h13) (.c2 Z Z sk) Pr ⟨_,_,_,_,_,_,Z,Z,hB5.le h13,hB6.le (Lr D)⟩)
  intro g s8 h8 I8;simp only [cQ9,nQ9];obtain ⟨b7,b8,v5,v6⟩:=g;obtain ⟨B5,m5,e5,B6,m6,e6,h95,h96,hB5,hB6⟩:=I8;simp only at h95 h96;subst h95;subst h96;dsimp only;refine X20 ?_;exact rR [] _ (.t1 Z) Z (e4.t h8) fun _ hS2=>⟨[_,_,_,_,_],rfl,fun s2 hs2 hp=>.cond _ _ _ _ _ _ _ _ _ _ _ _ hkk (hp _ _ _ (List.mem_cons_of_mem _ (List.mem_cons_of_mem _ Mc))) (hp _ _ _ Mc) (hp _ _ _ (List.mem_cons_of_mem _ Mc)) (hV.le (h4.t h8|>.t (hS2.t hs2))) h0n (hB5.le ((Lr D).t (hS2.t hs2))) (hB6.le ((Lr D).t (hS2.t hs2)))⟩
 refine J6 ?_ ?_<;>intro c8
 ·have hkk:x.kind=4:=c8;have h0n:0 < n':=by have h9:qcY x.kind=1:=(by rw [hkk];rfl);omega
  refine Sr<|qae (qaj 2 [_,_,_,_,_,_] Z Z Z Z Z) Z<|G2 ?_;refine Jc Z Z Z (ihB _ _ d0 p Ag Af ng cg nf cf (hGl.le e4) (hFn.le e4) f P1 P2 P3 p1 r1 p2 r2 p3 r3 (hP1.le e4) (hP2.le e4) hsz hPK A2 n2 q2 x.body (hA2.le e4) hxo.body O) ?_;rintro _ _ s9 h9 ⟨rfl,B5,m5,e5,rfl,hB5⟩;refine qac Z [_] Z Z fun β10 s10 h10=>Wt 0 [_] Y9<|Nt<|Sr<|qae (qbj Z) Z<|G6 ?_;exact rR [] _ (.t1 Z) Z (e4.t h9|>.t h10) fun _ hS2=>⟨[_,_,_,_],rfl,fun s2 hs2 hp=>.loop _ _ _ _ _ _ _ _ hkk (hp _ _ _ (List.mem_cons_of_mem _ Mc)) (hp _ _ _ Mc) (hV.le (h4.t h9|>.t h10|>.t (hS2.t hs2))) h0n (hB5.le (h10.t (hS2.t hs2)))⟩
 refine J6 ?_ ?_<;>intro c9;·have hkk:x.kind=5:=c9;obtain ⟨k,fk,hg,hpk,hl⟩:=ms5 hPK hxo hkk;refine Sr<|qae (qaj 2 [_,_,_,_,_,_] Z Z Z Z Z) Z<|G3 ?_;refine Jc Z Z Z (AC.pubW (qkw D _ _ d0 p Ag Af ng cg nf cf (hGl.le e4) (hFn.le e4) f P1 P2 P3 p1 r1 p2 r2 p3 r3 (hP1.le e4) (hP2.le e4) d x.name x.exprs A' n' c' k fk (hV.le h4) hg hpk hl)) ?_;rintro _ _ s10 h10 ⟨rfl,hW⟩;obtain ⟨be,bi,A9,n9,c9,k9,fk9,hvf,hW⟩:=hW;subst hvf;have hW:CallV p (VeR p f d) s10 x.name x.exprs _:=⟨be,bi,A9,n9,c9,k9,fk9,rfl,hW⟩;refine qac Z [_] Z Z fun β11 s11 h11=>Wt 0 [_] Y9<|Nt<|Sr<|qae (qbj Z) Z<|G6 ?_;exact rR [] _ (.t1 Z) Z (e4.t h10|>.t h11) fun _ hS2=>⟨[_,_,_,_],rfl,fun s2 hs2 hp=>.call _ _ hkk (hp _ _ _ Mc) (hW.le (h11.t (hS2.t hs2)) fun _ _ h=>VeR.le (h11.t (hS2.t hs2)) h)⟩
 refine J6 ?_ ?_<;>intro c10
 ·have hkk:x.kind=6:=c10;have h0n:0 < n':=by have h9:qcY x.kind=1:=(by rw [hkk];rfl);omega
  refine Sr<|qae (qbj Z) Z<|G6 ?_;exact rR [] _ (.t1 Z) Z e4 fun _ hS2=>⟨[_,_,_],rfl,fun s2 hs2 hp=>.ret _ _ _ _ hkk (hp _ _ _ Mc) (hV.le (h4.t (hS2.t hs2))) h0n⟩
 refine J6 ?_ ?_<;>intro c11
 ·have hkk:x.kind=7:=c11;have h0n:0 < n':=by have h9:qcY x.kind=1:=(by rw [hkk];rfl);omega
  refine Sr<|qae (qbj Z) Z<|G6 ?_;exact rR [] _ (.t1 Z) Z e4 fun _ hS2=>⟨[_,_,_],rfl,fun s2 hs2 hp=>.put _ _ _ _ hkk (hp _ _ _ Mc) (hV.le (h4.t (hS2.t hs2))) h0n⟩
 refine J6 ?_ ?_<;>intro c12
 ·have hkk:x.kind=8:=c12;have h0n:0 < n':=by have h9:qcY x.kind=1:=(by rw [hkk];rfl);omega
  refine Sr<|qae (qbj Z) Z<|G6 ?_;exact rR [] _ (.t1 Z) Z e4 fun _ hS2=>⟨[_,_,_],rfl,fun s2 hs2 hp=>.stop _ _ _ _ hkk (hp _ _ _ Mc) (hV.le (h4.t (hS2.t hs2))) h0n⟩
 refine J6 ?_ ?_<;>intro c13;·have hkk:x.kind=9:=c13;refine G8 ?_;exact rR [] _ (.t1 Z) Z e4 fun _ hS2=>⟨[_,_,_],rfl,fun s2 hs2 hp=>.brk hkk⟩
 have hkk:x.kind=10:=by omega
 refine G9 ?_;exact rR [] _ (.t1 Z) Z e4 fun _ hS2=>⟨[_,_,_],rfl,fun s2 hs2 hp=>.cont hkk⟩
def tsr(D:Nat):∀ d,TSR D d
 | 0=>fun L s d0 p Ag Af ng cg nf cf hGl hFn f P1 P2 P3 p1 r1 p2 r2 p3 r3 hP1 hP2 hsz hPK A n c xs hA hO hN=>AC.pubW (qig D 0 (fun e h=>by omega) L s d0 p Ag Af ng cg nf cf hGl hFn f P1 P2 P3 p1 r1 p2 r2 p3 r3 hP1 hP2 hsz hPK A n c xs hA hO hN (by have:=hA.1;have:=qiW xs;omega))
 | d+1=>fun L s d0 p Ag Af ng cg nf cf hGl hFn f P1 P2 P3 p1 r1 p2 r2 p3 r3 hP1 hP2 hsz hPK A n c xs hA hO hN=>AC.pubW (qig D (d+1) (fun e h=>(show d=e by omega)▸fun L s d0 p Ag Af ng cg nf cf hGl hFn f P1 P2 P3 p1 r1 p2 r2 p3 r3 hP1 hP2 hsz hPK x A1 n1 c1 A2 n2 c2 A3 n3 c3 h1 h2 h3 hN2 hN3 hx=>AC.pubW (qnv D d (tsr D d) L s d0 p Ag Af ng cg nf cf hGl hFn f P1 P2 P3 p1 r1 p2 r2 p3 r3 hP1 hP2 hsz hPK x A1 n1 c1 A2 n2 c2 A3 n3 c3 h1 h2 h3 hN2 hN3 hx)) L s d0 p Ag Af ng cg nf cf hGl hFn f P1 P2 P3 p1 r1 p2 r2 p3 r3 hP1 hP2 hsz hPK A n c xs hA hO hN (by have:=hA.1;have:=qiW xs;omega))
end Go.Proofs.YtlfiplbamnpgoaaGreatDoor
namespace Go.FL
open Go Go.RowKit
variable{ch:List PanicEntry}{x:Operand}
section
variable{P:Program}{TT:qaM}{D n:Nat}{ro:Option Nat}{Q:qdM}{ds:List Deferred}{fr:Fr}{L:Hl}{s s0:World}{ops:Array Oper}{rest:List Oper}{d ty:Nat}{pos:String}{af:Array Edge}{v:Value}
def qlA{f:FuncId}{x:Operand}{xs:List Operand}{first captured vs:List Value}{ts:Array TypeId}{R:Value→Hl→World→Prop}{X:List PanicEntry→Hl→World→Prop}(hx:lk fr x=some (.func (.func f) first.toArray captured.toArray))(hv:lks fr xs=some vs)
  (hd:Nat.blt d n=true) (h:AP P D f (first++vs++captured) L s R X) (kx:∀ ch L' s',Le D s s'→X ch L' s'→Q (.panic ch) ds fr L' s') (k:∀ v L' s',Le D s s'→R v L' s'→RO P TT D n ro ops Q rest ds ((d,v)::fr) L' s') :
  RO P TT D n ro ops Q (⟨some d,.call { callee:=.value x,args:=xs.toArray,argTypes:=ts },ty,pos,af,none⟩::rest) ds fr L s:=fun hT a hr ho=>by
 obtain ⟨⟨fn,h1,h2,h3⟩,hc⟩:=h;have hρ:∀ x v,lk fr x=some v→a.eval x=v:=fun x v hx=>hr.ev hx;simp only [wpListIn,Region.wanted,if_true];refine ⟨fun f _=>qf9 ro f,?_⟩;have hrun:(execOp a.eval ⟨some d,.call { callee:=.value x,args:=xs.toArray,argTypes:=ts },ty,pos,af,none⟩).run P (fill L s)=.ok (.enter f (first++vs++captured).toArray) (fill L s):=by
  exact qwl
 rw [Oper.semAt_eq _ _ _ (by nofun),hrun,Oper.uponIn_enter];refine ⟨qfn ro 0,(qgR ro _ (hc ho)).mono ?_⟩;rintro e w' ⟨L',s',rfl,h4,h5,h6⟩;rcases h6 with ⟨v,rfl,h6⟩|⟨ch,rfl,h6⟩
 · exact k v L' s' h5 h6 hT _ (hr.put hd v) h4
 · exact ⟨ds,fr,L',s',hr,h4,rfl,kx _ _ _ h5 h6⟩
def qq7{f:FuncId}{x:Operand}{first captured:List Value}{ts:Array TypeId}(hx:lk fr x=some (.func (.func f) first.toArray captured.toArray))
  (k:RO P TT D n none ops Q rest ({ target:=.fn (.func f) captured.toArray,args:=first.toArray }::ds) fr L s) :
  RO P TT D n none ops Q (⟨none,.defer { callee:=.value x,args:=#[],argTypes:=ts },ty,pos,af,none⟩::rest) ds fr L s:=fun hT a hr ho=>by
 simp only [wpListIn,Region.wanted,if_true];refine ⟨fun f _=>qf9 none f,?_⟩;have hrun:(execOp a.eval ⟨none,.defer { callee:=.value x,args:=#[],argTypes:=ts },ty,pos,af,none⟩).run P (fill L s)=.ok (.defer { target:=.fn (.func f) captured.toArray,args:=first.toArray }) (fill L s):=by
  simp [execOp,resolve,Deferred.ofValue,hr.ev hx]
 rw [show (fro none).round=none from rfl,Oper.semAt_none,hrun,Oper.uponIn_defer];refine k hT _ ⟨?_,?_⟩ ho
 · exact hr.rel
 · show _::a.defers=_;rw [hr.defers]
def DC(P:Program)(D:Nat)(d:Deferred)(u:FrameMode)(L:Hl)(s:World)(K:Hl→World→Prop):Prop:=
 OKL D L s→∃ fv cap f args,d.target=.fn fv cap∧(invoke d.target d.args).run P (fill L s)=.ok (.enter f args) (fill L s)∧CallsD P f args u (fill L s) fun e u' w'=>∃ v,e=.returned v∧settle u'=.returning∧∃ L1 s1,w'=fill L1 s1∧OKL D L1 s1∧K L1 s1
def qyA(TT:qaM)(D:Nat)(rs:List ResultVar)(s0:World)(R:Value→Hl→World→Prop)(fr:Fr)(L:Hl)(s:World):Prop:=∃ vs A L',Res TT fr L rs vs∧L=A++L'∧Le D s0 s∧∀ s',Le D s s'→R (qbP vs) L' s'
def retV(P:Program)(TT:qaM)(D:Nat)(rs:List ResultVar)(s0:World)(R:Value→Hl→World→Prop):qdM
 | .normal,[],fr,L,s|.ret,[],fr,L,s=>qyA TT D rs s0 R fr L s
 | .normal,[d],fr,L,s|.ret,[d],fr,L,s=>DC P D d .returning L s fun L1 s1=>qyA TT D rs s0 R fr L1 s1
 | .panic ch,[d],fr,L,s=>DC P D d (.panicking ch) L s fun L1 s1=>qyA TT D rs s0 R fr L1 s1
 | _,_,_,_,_=>False
def qA9{p:Prop} (h:p:=by
 show Leaves P fn a.tmps _ a.defers .returning (fill L1 s1);rw [k1.defers];exact fin L1 s1 k2 hq):p:=h
def qnz{f:FuncId}{fn:Func}{c:Code}{args:List Value}{R:Value→Hl→World→Prop}(hT:TabOK P TT)(hf:P.funcs[f]?=some fn)(hn:(fn.name == "runtime.NumGoroutine")=false)(hb:fn.body=some c)(hnt:fn.ntmps=n)(hle:Nat.ble args.length n=true){rs:List ResultVar}(hrs:fn.results.toList=rs)(fr0:Fr)(hfr:slots 0 args=fr0)
  (h:RC P TT D n none (retV P TT D rs s R) c [] fr0 L s):AC P D f args L s R:=by
 subst hfr;subst hrs;refine ⟨⟨fn,hf,hn,by simp [hb]⟩,fun ho=>calls_of_wp_defers hf hb ?_⟩;have hle':args.length≤n:=Nat.le_of_ble_eq_true hle;have hr:FrD [] n { tmps:=args.toArray++Array.replicate (fn.ntmps - args.toArray.size) undef,defers:=[] } (slots 0 args):=by
  exact Ez29
 refine wpIn_wide.1 (wpIn_mono (n:=0) (h hT _ hr ho) ?_);rintro e a w ⟨ds,fr',L1,s1,k1,k2,rfl,hq⟩;have fin:∀ (L2:Hl) (s2:World),OKL D L2 s2→qyA TT D fn.results.toList s R fr' L2 s2→∃ v,(results fn a.tmps).run P (fill L2 s2)=.ok v (fill L2 s2)∧∃ v' L' s',Ending.returned v=.returned v'∧fill L2 s2=fill L' s'∧OKL D L' s'∧Le D s s'∧R v' L' s':=fun L2 s2 ho2 hout=>by
  obtain ⟨vs,A,L',hres,rfl,hle1,hR⟩:=hout;obtain ⟨d1,d2,d3⟩:=qbp ho2;have hrun:(results fn a.tmps).run P (fill (A++L') s2)=.ok (qbP vs) (fill (A++L') s2):=by
   have h1:=Res.run hT k1.rel ho2 hres;have h2:(fn.results.mapM (qvT a.tmps)).run P (fill (A++L') s2)=.ok vs.toArray (fill (A++L') s2):=by
    exact qAZ
   exact Ez85
  exact ⟨_,hrun,_,L',fill A s2,rfl,d1,d2,hle1.trans d3,hR _ d3⟩
 have one:∀ (dd:Deferred) (u:FrameMode),u≠.run→ds=[dd]→DC P D dd u L1 s1 (fun L1 s1=>qyA TT D fn.results.toList s R fr' L1 s1)→Leaves P fn a.tmps (fun e w'=>∃ v L' s',e=.returned v∧w'=fill L' s'∧OKL D L' s'∧Le D s s'∧R v L' s') a.defers u (fill L1 s1):=fun dd u hu hds hdc=>by
  obtain ⟨fv,cap,g,gs,h1,h2,h3⟩:=hdc k2;rw [k1.defers,hds];refine ⟨hu,fv,cap,g,gs,h1,h2,h3.mono ?_⟩;rintro e u' w' ⟨v,rfl,hset,L2,s2,rfl,ho2,hout⟩;show Leaves P fn a.tmps _ [] (settle u') (fill L2 s2);rw [hset];obtain ⟨v,h4,h5⟩:=fin L2 s2 ho2 hout;exact ⟨v,h4,h5⟩
 match e,ds,hq with
 | .normal,[],hq=>
  exact qA9
 | .ret,[],hq=>
  exact qA9
 | .normal,[dd],hq=>exact one dd .returning (by intro h;cases h) rfl hq
 | .ret,[dd],hq=>exact one dd .returning (by intro h;cases h) rfl hq
 | .panic ch,[dd],hq=>exact one dd (.panicking ch) (by intro h;cases h) rfl hq
def qqx{J:List Deferred→Fr→Hl→World→Prop}(h:Q (.panic ch) ds fr L s):qlo J Q (.panic ch) ds fr L s:=h
def qlD{id:Nat}(h:Q (.panic ch) ds fr L s):qgP id Q (.panic ch) ds fr L s:=h
def qpQ{rs:List ResultVar}{R:Value→Hl→World→Prop}{vs:List Value}(A L':Hl)(h:Res TT fr L rs vs)(hL:L=A++L')(hl:Le D s0 s)(hR:∀ s',Le D s s'→R (qbP vs) L' s'):qyA TT D rs s0 R fr L s:=⟨vs,A,L',h,hL,hl,hR⟩
def qvU{rs:List ResultVar}{R:Value→Hl→World→Prop}{dd:Deferred}(h:DC P D dd (.panicking ch) L s fun L1 s1=>qyA TT D rs s0 R fr L1 s1):retV P TT D rs s0 R (.panic ch) [dd] fr L s:=h
def qkk{fn:Func}(h:fn.results=#[])(tmps:Array Value)(w:World):(results fn tmps).run P w=.ok (.tuple #[]) w:=by
 rw [qf0,h];simp
section rec
variable{f:FuncId}{fn:Func}{id d0 d1 t t' ty0 ty1:Nat}{ts:Array TypeId}{p0 p1:String}{a0 a1:Array Edge}{c2:Code}{cap:List Value}{K:Hl→World→Prop}
def qp0(hnt:fn.ntmps=n)(hle:Nat.ble cap.length n=true):FrRel n { tmps:=cap.toArray++Array.replicate (fn.ntmps - cap.toArray.size) undef,defers:=[] } (slots 0 cap):=by
 have hle':cap.length≤n:=Nat.le_of_ble_eq_true hle;exact qEq
end rec
end
section
variable{P:Program}{TT:qaM}{D n:Nat}{Q:qbs}{fr:Fr}{L K:Hl}{s s0:World}{ops:Array Oper}{rest:List Oper}{d ty:Nat}{pos:String}{af:Array Edge}{v:Value}
def qBt{xt t:TypeId}{u:Value}(hu:P.underlying t=some (.struct #[]))(hx:lk fr x=some (.iface t u)):QE P TT D fr (.typeAssert x xt t true) ty K s0 (.tuple #[u,.bool true]):=
 QE.pure fun hT dst pos af g ρ hρ w=>by simp [execOp,Instr.typeAssert,underlying,hu,hρ x _ hx]
def qnJ{t:Nat}(hz:(P.info? t).bind (fun i=>i.zero)=some (Value.agg #[]))(hd:Nat.blt d n=true)
  (k:∀ β s',Le D s s'→JO P TT D n ops Q rest ((d,.pointer (some ⟨β,0,none⟩))::fr) ((β,cb [] t)::L) s'):JO P TT D n ops Q (⟨some d,.alloc t,ty,pos,af,none⟩::rest) fr L s:=fun hT a hr ho=>
 qgH hd (fun hT _ dst pos af g ρ _=>by
  obtain ⟨h1,h2,h3⟩:=qaD ho (cb [] t);refine ⟨?_,h2⟩;obtain ⟨i,hi,hi2⟩:=Option.bind_eq_some_iff.1 hz;have hzv:(zeroValue t).run P (fill L s)=.ok (.agg #[]) (fill L s):=by simp [zeroValue,typeInfo,hi,hi2]
  simp only [execOp,Instr.alloc,Sem.run_bind,hzv,Result.andThen_ok,newVar,qhh,Sem.run_pure,qaF,Value.cells];rw [← h1];rfl:Ev P TT D fr (.alloc t) ty L s (.value (.pointer (some ⟨s.heap.size,0,none⟩))) ((s.heap.size,cb [] t)::L) (s.alloc (dum D))) (k _ _ (qaD ho (cb [] t)).2.2) hT a hr ho
def qBl{t:Nat}{y:Operand}{a0:Addr}(hs:(P.info? t).map (fun i=>i.size)=some 0)(hx:lk fr x=some (.pointer (some a0)))(hy:lk fr y=some (.agg #[]))(k:JO P TT D n ops Q rest fr L s):JO P TT D n ops Q (⟨none,.store t x y,ty,pos,af,none⟩::rest) fr L s:=
 qqZ (fun hT ho dst pos af g ρ hρ=>by
  refine ⟨?_,ho⟩;obtain ⟨i,hi,hi2⟩:=Option.map_eq_some_iff.1 hs;simp [execOp,Instr.storeAt,storeVar,sizeOf,typeInfo,hi,hi2,hρ x _ hx,hρ y _ hy,Instr.sureAddr,Value.cells,storeCells]:Ev P TT D fr (.store t x y) ty L s .skip L s) k
def recD(id d0 d1 ty0 ty1:Nat)(ts:Array TypeId)(p0 p1:String)(a0 a1:Array Edge)(c2:Code):Code:=
 .seq (.region id #[⟨some d0,.call { callee:=.builtin .recover,args:=#[],argTypes:=ts },ty0,p0,a0,none⟩,⟨some d1,.assign (.tmp d0),ty1,p1,a1,none⟩] false) c2
section rec
variable{f:FuncId}{fn:Func}{id d0 d1 ty0 ty1:Nat}{ts:Array TypeId}{p0 p1:String}{a0 a1:Array Edge}{c2:Code}{cap:List Value}
def qpZ{a:Act}{cs cs':List Frame}{w:World}{v0:Value}{Q:Exit→Act→List Frame→World→Prop}(hrec:recoverD cs=some (v0,cs'))
  (e1:(a.put (some d0) v0).eval (.tmp d0)=v0)
  (h:Q .normal ((a.put (some d0) v0).put (some d1) v0) cs' w):wpOpsS P #[⟨some d0,.call { callee:=.builtin .recover,args:=#[],argTypes:=ts },ty0,p0,a0,none⟩,⟨some d1,.assign (.tmp d0),ty1,p1,a1,none⟩] Q [0,1] a cs w:=by
 have h0:(execOp a.eval ⟨some d0,.call { callee:=.builtin .recover,args:=#[],argTypes:=ts },ty0,p0,a0,none⟩).run P w=.ok .recover w:=by
  simp [execOp,resolve,invoke,builtin]
 have hx:=(show (execOp (a.put (some d0) v0).eval ⟨some d1,.assign (.tmp d0),ty1,p1,a1,none⟩).run P w=.ok (.value v0) w by simp [execOp,e1]);simp only [wpOpsS,Region.wanted,List.getElem?_toArray,List.getElem?_cons_zero,List.getElem?_cons_succ,if_true,h0,hrec,hx,Oper.upon];exact h
def qBM(D:Nat)(K:Hl→World→Prop)(s:World):qbs:=fun e _ L' s'=>e=.normal∧∃ A L1,L'=A++L1∧Le D s s'∧∀ s2,Le D s' s2→K L1 s2
def qv9{K:Hl→World→Prop}{t0:TypeId}{v0:Value}(hT:TabOK P TT)(hf:P.funcs[f]?=some fn)(hn:(fn.name == "runtime.NumGoroutine")=false)(hb:fn.body=some (recD id d0 d1 ty0 ty1 ts p0 p1 a0 a1 c2))(hnt:fn.ntmps=n)(hle:Nat.ble cap.length n=true)(hrs:fn.results=#[])(hd0:Nat.blt d0 n=true)(hd1:Nat.blt d1 n=true)
  (fr0:Fr) (hfr:(d1,.iface t0 v0)::(d0,.iface t0 v0)::slots 0 cap=fr0) (h:JC P TT D n (qBM D K s) c2 fr0 L s):DC P D { target:=.fn (.func f) cap.toArray,args:=#[] } (.panicking [{ v:=.iface t0 v0,recovered:=false }]) L s K:=fun ho=>by
 subst hfr;have h2':¬ fn.name = "runtime.NumGoroutine" := by simpa using hn
 refine ⟨_,_,f,cap.toArray,Z,by simp [invoke,callFunc,hf,h2',hb],callsD_of_wpS hf hb fun c₀ cs hm=>?_⟩;have hr:=qp0 (fn:=fn) hnt hle;have hr1:=hr.put hd0 (.iface t0 v0);have hr2:=hr1.put hd1 (.iface t0 v0);refine wpS_seq (wpS_region (qpZ (v0:=.iface t0 v0) (cs':={ c₀ with mode:=.panicking [{ v:=.iface t0 v0,recovered:=true }] }::cs) (by simp [recoverD,hm]) (hr1.ev (x:=.tmp d0) (v:=.iface t0 v0) (by simp [lk,qa9])) ?_));refine wpS_of_wp (wp_mono (h hT _ hr2 ho) ?_);rintro e a w ⟨fr',L',s',k1,k2,rfl,rfl,A,L1,rfl,hl,hK⟩;obtain ⟨d1,d2,d3⟩:=qbp k2;exact ⟨k1.defers,.panicking [{ v:=.iface t0 v0,recovered:=true }],rfl,_,qkk hrs _ _,_,rfl,by simp [settle],L1,fill A s',d1,d2,hK _ d3⟩
def qq2{t t':Nat}{t0:TypeId}{v0:Value}(hu:P.underlying t=some (.interface (P.methodsAt t)))(hx:lk fr x=some (.iface t0 v0)):QE P TT D fr (.binOp .neq t x (.const .nilIface) t') ty K s0 (.bool true):=
 QE.pure fun hT dst pos af g ρ hρ w=>by
  have hc:ρ (.const .nilIface)=.nilIface:=hρ _ _ rfl;simp [execOp,hρ x _ hx,hc,eqGuard,run_neq_held_nil w t t0 v0 hu]
end rec
end
end Go.FL
namespace Go.Proofs.YtlfiplbamnpgoaaGreatDoor
open Go.Proofs.Tryz
open Go.FL
attribute [local irreducible] JC JO JA JB qaJ qax qbN AC fill CellsAt QE Ev Mid
variable{p:Prg}{inp:Str}
def qvZ(D:Nat)(L:Hl)(s:World)(K:Hl→World→Prop)(hK:∀ s',Le D s s'→K L s'):DC prog D { target:=.fn (.func 49) ([]:List Value).toArray,args:=([]:List Value).toArray } (.panicking [{ v:=.iface 136 (.agg #[]),recovered:=false }]) L s K:=by
 refine qv9 (fn:=f49) qao func49 V Z ntmps49 Z Z Z Z [(0,_),(3,_)] Z<|Sr<|Zqm Z Z<|qae (qq2 V Z) Z<|G6 ?_;refine qae (qBt V Z) Z<|G3 ?_;refine qnJ V Z fun βz s1 h1=>qBl V Z Z<|G6 ?_;refine qEI Z Z<|G4 ?_;exact ⟨rfl,[_],_,rfl,h1,fun s2 h2=>hK _ (h1.t h2)⟩
def qD8:ER Int→MS×Int×Int
 | .ok _ m=>(m,1,0)
 | .fin m st cd=>(m,st,cd)
 | .out=>(⟨[],[],[],[],0,0,[]⟩,0,0)
def qAk(s:World):Wds s none 0 0 []:=⟨rfl,Nat.le_refl _,by omega,fun i x h=>by cases h⟩
def qph(p:Prg)(D n:Nat)(hT:TOK p D n)(L:Hl)(s:World)(c:MC)(N k:Nat)(fk:Fnc)(m:MS)(iv ov:Value)(F0:Option Addr)(n0 z0:Nat)(R:Hl)(hC:CT p c s)(hp:p.funcs[k]?=some fk)(hfk:fk.params=[])(hM:MG p c N m iv ov R s)(hr:cX p (sem p OPp n) k [] m≠.out):AC prog D 20 [.pointer (some ⟨c.bm,0,none⟩),.int .i64 (k:Int)] (MBv c N 0 m iv ov 0 0 (.slice F0 n0 z0)::MGb c m::(R++L)) s fun v L' s'=>v=.tuple #[]∧∃ m' st cd Zq9,L'=Zq9++L∧FIN c N m' st cd Zq9∧qD8 (cX p (sem p OPp n) k [] m)=(m',st,cd):=by
 refine qnz (fn:=f20) qao func20 V Z ntmps20 Z (rs:=[]) Z [(0,_),(1,_)] Z<|Ys<|Yr<|qq7 Z<|Yn<|Yt<|Ys<|Yr<|Yqm Z Z<|Yqm Z Z<|?_;refine qlA (first:=[]) (captured:=[]) Z Z Z (qlF p D n hT L _ c N k fk [] none 0 0 m iv ov _ _ _ R (hC.le (Lr D)) (qAk _) hp (by rw [hfk];rfl) (hM.le (Lr D)) hr) ?_ ?_
 ·rintro _ _ sx1 hx1 ⟨hp1,m1,st1,cd1,Z1,he1,rfl,hF1⟩;repeat (first|refine qqx ?_|refine qlD ?_)
  cases hp1;refine qvU (qvZ D _ _ _ (fun s9 q9=>?_));refine qpQ [] _ .nil Z (hx1.t q9) fun _ hS2=>?_;exact ⟨rfl,m1,st1,cd1,Z1,rfl,hF1,by rw [he1];rfl⟩
 rintro _ _ s1 h1 ⟨a1,m1,iv1,ov1,R1,he1,⟨rfl,hu1⟩,rfl,hM1⟩
 refine Yn<|Yt<|Yr<|Yqm Z Z<|?_;refine qlA (first:=[]) (captured:=[]) Z Z Z (qdS D [] _ _ c N _ m1 iv1 ov1 _ _) ?_ ?_
 ·rintro _ _ sx2 hx2 ⟨hp1,rfl⟩;repeat (first|refine qqx ?_|refine qlD ?_)
  cases hp1;refine qvU (qvZ D _ _ _ (fun s9 q9=>?_));refine qpQ [] _ .nil Z (h1.t hx2|>.t q9) fun _ hS2=>?_;exact ⟨rfl,m1,1,0,_,rfl,hM1.finv _ _ _ _ [MGb c m1],by rw [he1];rfl⟩
 rintro _ _ s2 h2 ⟨⟩
def qhO(p:Prg):List (List Int):=p.globals.map fun g=>if g.kind=3 then qeQ g.num.toNat g.init else []
abbrev SN:Value:=.slice none 0 0
def qd8:∀ {ab:List (Option Nat)} {gs:List Glo} {g:Glo} {o:Option Nat},ab.length=gs.length→qjn (ab++[o]) (gs++[g])=qjn ab gs++[match o with|some b=>.slice (some ⟨b,0,none⟩) g.num.toNat g.num.toNat|none=>SN]
 | [],[],g,some b,_=>rfl
 | [],[],g,none,_=>rfl
 | some b::r,x::gs,g,o,h=>by rw [List.cons_append,List.cons_append,qjn,qjn,qd8 Q4,List.cons_append]
 | none::r,x::gs,g,o,h=>by rw [List.cons_append,List.cons_append,qjn,qjn,qd8 Q4,List.cons_append]
def qet:∀ {ab:List (Option Nat)} {gs:List Glo},ab.length=gs.length→(qjn ab gs).length=ab.length
 | [],[],_=>rfl
 | some b::r,x::gs,h=>by rw [qjn,List.length_cons,qet Q4,List.length_cons]
 | none::r,x::gs,h=>by rw [qjn,List.length_cons,qet Q4,List.length_cons]
def qfe:∀ {ab:List (Option Nat)} {ls:List (List Int)} {l:List Int} {o:Option Nat},ab.length=ls.length→qdO (ab++[o]) (ls++[l])=qdO ab ls++(match o with|some b=>[(b,cb (wv l) 34)]|none=>[])
 | [],[],l,some b,_=>rfl
 | [],[],l,none,_=>rfl
 | some b::r,x::ls,l,o,h=>by rw [List.cons_append,List.cons_append,qdO,qdO,qfe Q4,List.cons_append]
 | none::r,x::ls,l,o,h=>by rw [List.cons_append,List.cons_append,qdO,qdO,qfe Q4]
section
variable{p:Prg}{ab:List (Option Nat)}{k ng:Nat}{g:Glo}{b:Nat}
def avR(p:Prg)(ab:List (Option Nat))(k ng:Nat):List Value:=qjn ab (p.globals.take k)++List.replicate (ng - k) SN
theorem qhr(hl:ab.length=k)(hg:p.globals[k]?=some g):ab.length=(p.globals.take k).length:=by grind
def qDi(h:k < ng):List.replicate (ng - k) SN=SN::List.replicate (ng - (k+1)) SN:=by
 rw [show ng - k=ng - (k+1)+1 by omega,List.replicate_succ]
def qog(hl:ab.length=k)(hg:p.globals[k]?=some g)(hk:k < ng):(avR p ab k ng).length=ng:=by
 rw [avR,List.length_append,qet (qhr hl hg),List.length_replicate];omega
def qrm(hl:ab.length=k)(hg:p.globals[k]?=some g)(hk:k < ng):avR p ab k ng=avR p (ab++[none]) (k+1) ng:=by
 rw [avR,avR,qbX hg,qd8 (qhr hl hg),qDi hk,List.append_assoc];rfl
def qxi(hl:ab.length=k)(hg:p.globals[k]?=some g)(hk:k < ng):qbx (avR p ab k ng) (0+k) [.slice (some ⟨b,0,none⟩) g.num.toNat g.num.toNat]=avR p (ab++[some b]) (k+1) ng:=by
 rw [Nat.zero_add,qdl _ _ _ (by rw [qog hl hg hk];simp;omega)];have h1:=qet (qhr hl hg);rw [avR,avR,qbX hg,qd8 (qhr hl hg),qDi hk,List.take_append_of_le_length O,List.take_of_length_le O,List.drop_append,List.drop_eq_nil_of_le Q7,h1,hl,List.append_assoc,List.append_assoc];simp
def qxj(hl:ab.length=k)(hg:p.globals[k]?=some g):nth (avR p (ab++[some b]) (k+1) ng) (0+k)=some (.slice (some ⟨b,0,none⟩) g.num.toNat g.num.toNat):=by
 rw [Nat.zero_add,qdK,avR,qbX hg,qd8 (qhr hl hg),List.append_assoc,List.getElem?_append_right (by rw [qet (qhr hl hg)];omega),qet (qhr hl hg),hl,Nat.sub_self];rfl
def qxh(hl:ab.length=k)(hg:p.globals[k]?=some g)(hk:k < ng):Nat.ble (0+k+1) (avR p ab k ng).length=true:=by
 rw [Nat.ble_eq,qog hl hg hk];omega
def qkO(hg:p.globals[k]?=some g):(qhO p)[k]?=some (if g.kind=3 then qeQ g.num.toNat g.init else []):=by rw [qhO,List.getElem?_map,hg];rfl
def qxg(hl:ab.length=k)(hg:p.globals[k]?=some g)(h3:g.kind=3)(L:Hl):qdO ab ((qhO p).take k)++(b,cb (wv (qeQ g.num.toNat g.init)) 34)::L=qdO (ab++[some b]) ((qhO p).take (k+1))++L:=by
 have hk:=(List.getElem?_eq_some_iff.1 hg).1;rw [qbX (qkO hg),qfe (by rw [List.length_take,qhO,List.length_map];omega),if_pos h3,List.append_assoc];rfl
def qrl(hl:ab.length=k)(hg:p.globals[k]?=some g):qdO ab ((qhO p).take k)=qdO (ab++[none]) ((qhO p).take (k+1)):=by
 have hk:=(List.getElem?_eq_some_iff.1 hg).1;rw [qbX (qkO hg),qfe (by rw [List.length_take,qhO,List.length_map];omega),List.append_nil]
end
def pmA{a:Nat×Obj}(X:Hl){A L:Hl}:(a::(X++(A++L))).Perm (X++(A++a::L)):=by
 rw [← List.append_assoc,← List.append_assoc];exact List.perm_middle.symm
def qv6(n:Nat):wv (List.replicate n 0)=List.replicate n (.int .u32 0):=by simp [wv]
@[irreducible] def fuX:Nat:=100000002
def qvB:fuX=99999982+20:=by unfold fuX;rfl
def qAy(p:Prg)(inp:Str)(a:Nat):Str×Int×Int×Nat:=qFy a (qAz p OPp (fuX+1) (qcQ p.funcs).toNat inp a)
def qcJ(p:Prg)(inp:Str)(steps:Int):(Str×Int×Int×Nat)×(Int×Int):=if (qdC p).1≠0 then (([],0,0,0),qdC p) else if 400000 < inp.length then (([],0,0,0),(3,-2)) else if steps < 0∨50000000 < steps then (([],0,0,0),(4,-3)) else (qAy p inp steps.toNat,(0,0))
def OutV(s:World)(o:Str×Int×Int×Nat)(v:Value):Prop:=∃ A n c,v=.agg #[.slice A n c,.int .i64 o.2.1,.int .u32 o.2.2.1,.int .i64 (o.2.2.2:Int)]∧Bts s A n c o.1
def qp5{st:Int}(h:(qdC p).1≠0):qcJ p inp st=(([],0,0,0),qdC p):=by rw [qcJ,if_pos h]
def qsW{st:Int}(h:¬ (qdC p).1≠0)(h2:400000 < inp.length):qcJ p inp st=(([],0,0,0),(3,-2)):=by rw [qcJ,if_neg h,if_pos h2]
theorem qyM{st:Int}(h:¬ (qdC p).1≠0)(h2:¬ 400000 < inp.length)(h3:st < 0∨50000000 < st):qcJ p inp st=(([],0,0,0),(4,-3)):=by grind [qcJ]
theorem qkf{a:Nat}(h:¬ (qdC p).1≠0)(h2:¬ 400000 < inp.length)(h3:¬ ((a:Int) < 0∨50000000 < (a:Int))):qcJ p inp a=(qAy p inp a,(0,0)):=by grind [qcJ,Int.toNat_natCast]
def qyK{a mi:Nat}(hm:qcQ p.funcs=(mi:Int)){m:MS}{st cd:Int}(h:qD8 (cX p (sem p OPp fuX) mi [] (qiu p inp a))=(m,st,cd))(hr:cX p (sem p OPp fuX) mi [] (qiu p inp a)≠.out):qAy p inp a=(m.out,st,cd,a - m.left):=by
 rw [qAy,qAz,hm,Int.toNat_natCast];show qFy a (cX p (sem p OPp fuX) mi [] (qiu p inp a))=_;cases hc:cX p (sem p OPp fuX) mi [] (qiu p inp a) with
 | out=>exact absurd hc hr
 | ok v m1=>rw [hc] at h;simp only [qD8,Prod.mk.injEq] at h;obtain ⟨rfl,rfl,rfl⟩:=h;rfl
 | fin m1 s1 c1=>rw [hc] at h;simp only [qD8,Prod.mk.injEq] at h;obtain ⟨rfl,rfl,rfl⟩:=h;rfl
def qvV(p:Prg)(inp:Str)(a mi:Nat)(ha:a≤50000000):cX p (sem p OPp fuX) mi [] (qiu p inp a)≠.out:=fun h=>by
 have:=(qpC (p:=p) (OP:=OPp) (fuX+1)).2.1 mi [] (qiu p inp a) (by rw [qvB];show 2 * a+1 < _;omega);have e:(sem p OPp (fuX+1)).c mi [] (qiu p inp a)=.out:=h;rw [e] at this;exact this
def OKP.pok(h:OKP p):POK p:=⟨(qhb (p:=p) (by rw [h.2.1])).1,fun g hg=>by have:=qbS (h.1.2.2.1 g hg).1;exact ⟨this.1,this.2.1⟩⟩
def OKP.sz(h:OKP p):∀ f∈p.funcs,f.params.length+f.locals.length≤100:=fun f hf=>by
 have:=h.1.2.2.2.1 f hf;have h1:=this.2.1;have h2:=this.2.2.1;omega
def OKP.st(h:OKP p){f:Fnc}(hf:f∈p.funcs):(∀ x∈f.body,StOK p f x)∧qbG f.body≤2000:=by
 have hv:=h.1.2.2.2.1 f hf;refine ⟨fun x hx=>?_,hv.2.2.2.2.2⟩;obtain ⟨j,hj⟩:=List.getElem?_of_mem hx;exact ⟨⟨1,(qhp hv.2.2.2.2.1 hj).1⟩,0,fun nd hd=>h.2.2 f hf nd (qgz hx hd)⟩
def glo3{g:Glo}(h:qe4 g=0)(h3:g.kind=3):g.init.length≤g.num.toNat∧g.num.toNat≤40000:=by
 unfold qe4 at h;split at h
 · cases h
 split at h
 · cases h
 split at h
 · cases h
 split at h
 · cases h
 rename_i h4;split at h
 · cases h
 rename_i h5;omega
def qBY{a ng:Nat}{c:MC}{s:World}{Ai:Option Addr}{ni qi:Nat}(h:OKP p)(hu:prU p)(hI:Bts s Ai ni qi inp)(ha:a≤50000000)(hng:c.ng=p.globals.length)(hnf:c.nf=0)(hlb:c.ab.length=c.ng)(hab:∀ (k:Nat) (g:Glo),p.globals[k]?=some g→g.kind=3→∃ b,c.ab[k]?=some (some b)):MG p c a (qiu p inp a) (.slice Ai ni qi) SN (qdO c.ab (qhO p)) s:=by
  refine ⟨⟨Ai,ni,qi,Z,hI⟩,⟨[],(List.append_nil _).symm,.nil⟩,fun x hx=>?_,fun x hx=>(by cases hx),fun l hl x hx=>?_,hng,?_,hnf.symm,hlb,?_,fun k g hg h3=>⟨hab k g hg h3,?_⟩,Nat.zero_le _,Nat.zero_le _,Nat.le_refl _,ha⟩
  · rw [show x=0 from (List.mem_replicate.1 hx).2];exact ⟨by decide,by decide⟩
  · obtain ⟨g,hg,rfl⟩:=List.mem_map.1 (show l∈qhO p from hl)
    split at hx
    · exact qCw (hu.1 g hg).2 x hx
    · cases hx
  · rw [hng];exact List.length_replicate ..
  · rw [hng];exact List.length_map ..
  · have h0:=glo3 (h.1.2.2.1 g (List.mem_of_getElem? hg)).1 h3
    show ((qhO p).getD k []).length=_;rw [List.getD_eq_getElem?_getD,qkO hg,Option.getD_some,if_pos h3,qoW h0.1]
end Go.Proofs.YtlfiplbamnpgoaaGreatDoor
namespace Go.FL
open Go Go.RowKit
def qnH{P:Program}{TT:qaM}{D n:Nat}{Q:qbs}{fr:Fr}{L K:Hl}{s s0:World}{ops:Array Oper}{d ty:Nat}{pos:String}{af:Array Edge}{g:Option (Nat×Bool)}{fuel i t:Nat}{listed:Array Bool}{x:Operand}{zs:List Value}(hi:ops[i]?=some ⟨some d,.box t x,ty,pos,af,g⟩)(hg:GOK ops fr g)(hx:lk fr x=some (.agg zs.toArray))(hd:Nat.blt d n=true)
  (k:∀ β s',Le D s s'→JA P TT D n ops Q K s0 fuel (listed.setIfInBounds i true) ((d,.pointer (some ⟨β,0,none⟩))::fr) ((β,cb zs t)::L) s'):JB P TT D n ops Q K s0 fuel listed i fr L s:=fun hT a hf ho hl hK=>
 qhz hi hg (qnB hx (by simp [qa2]) ho) (qaD ho (cb zs t)).2.2 (fun x _ h=>List.mem_cons_of_mem _ h) hd (k _ _ (qaD ho (cb zs t)).2.2) hT a hf ho hl hK
end Go.FL
namespace Go.Proofs.YtlfiplbamnpgoaaGreatDoor
open Go.Proofs.Tryz
open Go.FL
attribute [local irreducible] JC JO JA JB qaJ qax qbN AC fill CellsAt QE Ev Mid
variable(D:Nat)(L:Hl)(s:World){k:Nat}{a b:Nat×Obj}{l l1:List UInt8}
def qCA{p:Prg}(hnd:((ents p).map (·.1)).Nodup){j:Nat}{y x:Fnc}(hy:p.funcs[j]?=some y)(hx:p.funcs[k]?=some x)(e:y.name=x.name):j=k:=by
 have q1:=qed hnd (qhU hy);have q2:=qed hnd (qhU hx);simp only [e] at q1 q2;rw [q1] at q2;simp at q2;omega
def qh7{p:Prg}(hnd:((ents p).map (·.1)).Nodup){x:Fnc}{mi mj:Int}(hx:p.funcs[k]?=some x)(h:∀ (j:Nat) (y:Fnc),j < k→p.funcs[j]?=some y→y.name=qbI→mi=(j:Int))(h1:x.name=qbI→mj=(k:Int))(h2:¬ x.name=qbI→mj=mi):∀ (j:Nat) (y:Fnc),j < k+1→p.funcs[j]?=some y→y.name=qbI→mj=(j:Int):=fun j y hj hy hn=>by
  by_cases hm:x.name=qbI
  · rw [h1 hm,qCA hnd hy hx (hn.trans hm.symm)]
  · rcases Nat.lt_or_eq_of_le (Nat.lt_succ_iff.1 hj) with hj|rfl
    · rw [h2 hm];exact h j y hj hy hn
    · rw [hx] at hy;injection hy with hy;subst hy;exact absurd hn hm
theorem qn2{p:Prg}{ab:List (Option Nat)}{x:Glo}{o:Option Nat}(hab:ab.length=k)(hx:p.globals[k]?=some x)(h:∀ (j:Nat) (y:Glo),j < k→p.globals[j]?=some y→y.kind=3→∃ b,ab[j]?=some (some b))(ho:x.kind=3→∃ b,o=some b):∀ (j:Nat) (y:Glo),j < k+1→p.globals[j]?=some y→y.kind=3→∃ b,(ab++[o])[j]?=some (some b):=by grind
def pm26{Zq9:Hl}{o c d:Nat×Obj}{Mo K L:Hl}(h:Zq9.Perm (o::(Mo++K))):(Zq9++(a::b::c::d::L)).Perm (o::a::b::c::d::(Mo++(K++L))):=by
 have h1:=List.perm_append_comm_assoc (Mo++K) [a,b,c,d] L;rw [List.append_assoc Mo K L] at h1;exact (h.append_right _).trans (h1.cons o)
theorem qCV{x:Nat×Obj}{R R':Hl}(hx:x∈(a::b::R).take 2):x∈a::b::R':=by grind
def qyl(p:Prg)(inp:Str)(a:Nat)(c:MC)(iv:Value):MBv c a 0 (qiu p inp a) iv SN 0 0 SN=(c.bm,cb [.slice c.Af c.nF c.cF,.slice (some ⟨c.bg,0,none⟩) c.ng c.ng,.slice (some ⟨c.ba,0,none⟩) c.ng c.ng,SN,.int .u32 0,.int .i64 0,iv,.int .i64 (a:Int),SN,.int .i64 0,.int .u32 0,.int .i64 0] 58):=by
 rw [MBv];show (c.bm,cb [_,_,_,_,_,_,_,_,_,_,_,Value.int .i64 ((a:Int) - (a:Int))] 58)=_;rw [Int.sub_self];rfl
def qjZ(c i:Int):AC prog D 18 [.int .i64 c,.int .i64 i] L s fun v L' _=>v=.agg #[.int .i64 c,.int .i64 i]∧L=L':=by
 refine qad (fn:=f18) qao func18 V Z ntmps18 Z (rs:=[.cell 4 30]) Z [(0,_),(1,_)] Z<|Sr<|qac Z [_,_] Z Z ?_;exact qAu
def qD1{p:Prop} (h:p:=by
  first
    | exact ⟨[],rfl,fun s2 hs2 hp=>⟨.agg #[.slice none 0 0,.int .i64 0,.int .u32 0,.int .i64 0],by rw [hE];rfl,none,0,0,by rw [hE];rfl,by rw [hE];exact Bts.nil _ _ _ O⟩⟩
    | (have hE:qcJ p inp (a:Int)=((m9.out,st9,cd9,a - m9.left),(0,0)):=by rw [hE0,qyK hmf he9 (qvV p inp a mi0 O)]
       have hst:(a:Int) - (m9.left:Int)=((a - m9.left:Nat):Int):=by omega
       exact ⟨Mo9++K9,(List.append_assoc ..).symm,fun s2 hs2 hp=>⟨_,by rw [hE];rfl,Ao,_,co,by rw [hE,hst],by rw [hE];exact Own.bts hO9 fun b zs t hm=>hp b zs t (List.mem_append_left _ hm)⟩⟩)):p:=h
def Ez7{p:Prop} (h:p:=by
 intro βn s26 h26 hcb;refine qaq 18 V<|qcS Z Tt (sz:=2) [_,_,_,_,_,_,_,_,_] Mf _ Z Z Z Z Z Z Z hO (Row.of_cells (hcb.le (Lr D)) Z Z) ⟨by simp [ti69];omega,by omega⟩ Z (fun _ x hx _=>qCV hx) ?_;intro vq Mq s27 h27 oq;obtain ⟨Avq,cvq,rfl,_,_⟩:=Own.slice oq;simp only [cQ9,nQ9];refine H2 ?_;refine qaq 21 V<|Wu Z Tt 2 [_,_,_,_,_,_,_,_,_,_,_,_] Y9 (sM (qgA (sb0 _)))<|qah V<|Zb<|Zt<|Zr<|qaV Z Z Z (w64 O O)<|G2 ?_;refine qaf ⟨(k+1,mj,.slice Avq (k+1) cvq,Mq),[_,_],kp,Z,⟨(I18.1.t h20|>.t h21|>.t h23|>.t h24|>.t h25|>.t h26|>.t h27),⟨by simp only;omega,⟨css++[[.int .i64 ((x.params.length+x.locals.length:Nat):Int),.slice A' n' c']],by simp only [List.flatten_append,List.flatten_cons,List.flatten_nil,List.append_nil];exact oq,by simp only;rw [qbX hx];exact qhN (hA2.mono fun _ _ k=>⟨k.1,k.2.le (h20.t h21|>.t h23|>.t h24|>.t h25|>.t h26|>.t h27)⟩) ⟨Z,d,A',n',c',Z,hV.le (h26.t h27)⟩⟩,qh7 hND hx hmi hmj.1 hmj.2⟩⟩,Oz⟩):p:=h
def qyI(hG:GP s)(d:Nat)(p:Prg)(Ag Af:Option Addr)(ng cg nf cf:Nat)(hGl:Glos s Ag ng cg p.globals)(hFn:Fncs d s Af nf cf p.funcs)(Ai:Option Addr)(ni qi:Nat)(inp:Str)(hI:Bts s Ai ni qi inp)(steps:Int):AC prog D 8 [.agg #[.slice Ag ng cg,.slice Af nf cf],.slice Ai ni qi,.int .i64 steps] L s fun v L' s'=>∃ M',L'=M'++L∧∀ s2,Le D s' s2→Pub M' s2→∃ w,v=.tuple #[w,.agg #[.int .i64 (qcJ p inp steps).2.1,.int .i64 (qcJ p inp steps).2.2]]∧OutV s2 (qcJ p inp steps).1 w:=by
 have hn1:=hGl.1;have hn2:=hFn.1;have hn3:=hI.1;have hU:prU p:=⟨hGl.u,hFn.u⟩;refine qad (fn:=f8) qao func8 V Z ntmps8 Z (rs:=[.cell 6 36,.cell 7 30]) Z [(0,_),(1,_),(2,_)] Z<|Sr<|qar Z Z fun β1 s1 h1=>qac Z [_,_,_,_] Z Z fun β2 s2 h2=>qac Z [_,_] Z Z fun β3 s3 h3=>Nt<|Zs<|Sr<|qae (qaj 2 [_,_] Z Z Z Z Z) Z<|Je Z Z Z (qia D _ _ (hG.le (h1.t h2|>.t h3)) d p Ag _ ng cg nf cf (hGl.le (h1.t h2|>.t h3)) (hFn.le (h1.t h2|>.t h3))) fun s4 h4=>qac Z [_,_] Z Z fun β5 s5 h5=>Wt 0 [_,_] Y9<|Nt<|Sr<|qae (qaj 0 [_,_] Z Z Z Z Z) Z<|qae (qai [] [_,_] Z Z Z Z Z Z) Z<|qae (qcU Z Z (qb3 _ _ _ _)) Z<|G2 ?_;have e5:=h1.t h2|>.t h3|>.t h4|>.t h5;refine qaR Z ?_ ?_<;>intro c6;·have hb0:(qdC p).1≠0:=fun h=>c6 (by rw [qCj hU h];exact ⟨rfl,rfl⟩);have hE:qcJ p inp steps=_:=qp5 hb0;refine Zs<|qaU qab 4 Z [2,1] Q3 fun s7 h7=>za 0 Z (qai [] [_,_,_,_] Z Z Z Z Z Z) Z<|za 1 Z (qaj 0 [_,_] Z Z Z Z Z) Z<|qaq 2 V<|Wu Z Tt 2 [_,_,_,_] Y9 (sM (sbY (sbN (sbY (sbE _)))))<|qaq 3 V<|Wu Z Tt 1 [_,_] Y9 (sM (sbY (sbN (sbY (sbE _)))))<|qah V<|G3 ?_;exact rR [_,_,_,_] _ (.agg (us:=[_,_,_,_]) 2 Z Z Z Z Z (.agg (us:=[_,_]) 1 Z Z Z Z Z (.nil))) Z (e5.t h7) fun _ hS2=>qD1
 have g4:=c6;have g14:¬ (qdC p).1≠0:=fun h=>h g4.1;obtain ⟨hOK,hz0⟩:=OKP.of hU g4.1;have hV:=hOK.1;have hV1:=hV.1;have hV2:=hV.2.1;have hVf:=hV.2.2.2.1;have hND:=(qhb (p:=p) (by rw [hOK.2.1])).1;refine J10 ?_ ?_<;>intro c7;·have hE:qcJ p inp steps=_:=qsW g14 O;refine Sr<|qae (qai [] [_,_,_,_] Z Z Z Z Z Z) Z<|Je Z Z Z (qjZ D _ _ _ _) fun s8 h8=>Wt 2 [_,_,_,_] Y9<|Wt 1 [_,_] Y9<|G4 ?_;exact rR [_,_,_,_] _ (.agg (us:=[_,_,_,_]) 2 Z Z Z Z Z (.agg (us:=[_,_]) 1 Z Z Z Z Z (.nil))) Z (e5.t h8) fun _ hS2=>qD1
 have g25:¬ 400000 < inp.length:=by omega
 refine G3 ?_;refine qbA 33 (steps < 0∨50000000 < steps) ?_ ?_
 ·refine G4 ?_;refine qap (t:=30) Z ?_ ?_<;>intro c9;·exact qA1
  refine G6 ?_;refine qaf (MidB.mk (Lr D) Sb Z (decide_eq_decide.2 O))
 intro s8 h8;have e8:=e5.t h8;refine qaa Z ?_ ?_<;>intro c10;·have hE:qcJ p inp steps=_:=qyM g14 g25 c10;refine Sr<|qae (qai [] [_,_,_,_] Z Z Z Z Z Z) Z<|Je Z Z Z (qjZ D _ _ _ _) fun s11 h11=>Wt 2 [_,_,_,_] Y9<|Wt 1 [_,_] Y9<|G4 ?_;exact rR [_,_,_,_] _ (.agg (us:=[_,_,_,_]) 2 Z Z Z Z Z (.agg (us:=[_,_]) 1 Z Z Z Z Z (.nil))) Z (e8.t h11) fun _ hS2=>qD1
 obtain ⟨a,rfl⟩:=Int.eq_ofNat_of_zero_le (show 0≤steps by omega);have hE0:=qkf (p:=p) (inp:=inp) (a:=a) g14 g25 c10;refine G2 ?_;refine qkI (γ:=Nat×Nat×Nat) (fun g=>[(9,.pointer (some ⟨g.1,0,none⟩))]) (fun g=>[(g.1,cb [SN,.slice (some ⟨g.2.1,0,none⟩) ng ng,.slice (some ⟨g.2.2,0,none⟩) ng ng,SN,.int .u32 0,.int .i64 0,.slice Ai ni qi,.int .i64 (a:Int),SN,.int .i64 0,.int .u32 0,.int .i64 0] 58),(g.2.1,cb (wv (List.replicate ng 0)) 34),(g.2.2,cb (List.replicate ng SN) 28)]) (fun g tw=>True) (fun _ _ _ h hl=>h) ?_ ?_
 ·refine qaL qab 13 Z _ (fun _ h=>h) fun s12 h12=>H3 ?_;refine za 3 Z (Wd 3 Y5) Z<|H2 ?_;refine za 7 Z (Wd 3 Y5) Z<|H1 ?_;refine qdB 5 9 V ?_ ?_;·refine qhA Z Tt Z Z Z Z Z Q10 O Z ?_;intro βg s13 h13;rw [← qv6];refine qaq 9 V<|qhA Z Tt Z Z Z Z Z (by simp [ti28];omega) O Z fun βa s14 h14=>za 10 Z (qai [(_,_),(_,_),(_,_),(_,_)] [_,_,_,_,_,_,_,_,_,_,_,_] Z Z Z Z Z Z) Z<|qaq 11 V<|qnH Z Tt Z Z fun β15 s15 h15=>H1 ?_;refine qah V ?_;refine qaf (MidN.mk (β15,βg,βa) [] (h12.t h13|>.t h14|>.t h15) (.cons Z sk) (List.Perm.trans (qce _ 1) (List.Perm.trans (qce _ 2) (qce _ 2))) Tt)
  refine qhA Z Tt Z Z Z Z Z (by simp [ti28];omega) O Z fun βa s13 h13=>qaq 5 V<|qhA Z Tt Z Z Z Z Z Q10 O Z ?_;intro βg s14 h14;rw [← qv6];refine za 10 Z (qai [(_,_),(_,_),(_,_),(_,_)] [_,_,_,_,_,_,_,_,_,_,_,_] Z Z Z Z Z Z) Z<|qaq 11 V<|qnH Z Tt Z Z fun β15 s15 h15=>H1 ?_;refine qah V ?_;refine qaf (MidN.mk (β15,βg,βa) [] (h12.t h13|>.t h14|>.t h15) (.cons Z sk) (List.Perm.trans (qce _ 2) (List.Perm.trans (qce _ 2) (qce _ 2))) Tt)
 intro g s11 h11 I11;have e11:=e8.t h11;simp only [cQ9,nQ9];obtain ⟨bm,bg,ba⟩:=g;dsimp only;refine G4 ?_;refine qae (Wd 6 Y5) Z<|G5 ?_;refine qaH (γ:=Nat×List (Option Nat)) (fun g=>[(3,_),(6,_),(7,_),(9,_),(49,_),(50,_),(51,.int .i64 (g.1:Int))]) (fun g=>_::_::(ba,cb (avR p g.2 g.1 ng) 28)::_::_::_::_::(qdO g.2 ((qhO p).take g.1)++L)) (fun g tw=>Le D s11 tw∧(g.1≤ng∧g.2.length=g.1∧∀ (j:Nat) (y:Glo),j < g.1→p.globals[j]?=some y→y.kind=3→∃ b,g.2[j]?=some (some b))) (fun g=>ng - g.1) (fun _ _ _ h hl=>⟨h.1.trans hl,h.2⟩) (0,[]) (.c6 Z Z Z Z Z Z (.cons Z (.nil _))) Z ⟨Le.refl _,⟨Nat.zero_le _,Z,fun j y hj=>absurd hj (Nat.not_lt_zero _)⟩⟩ ?_;intro g s16 I16;have e16:=e11.t I16.1;obtain ⟨k,ab⟩:=g;obtain ⟨hk0,hab,hak⟩:=I16.2;simp only at hk0 hab hak;dsimp only;refine J6 ?_ ?_<;>intro c17
 ·have hk:k < ng:=by omega
  obtain ⟨b,off,x,Aq,nq,cq,rfl,hx,hcx,hix,hux,hnl⟩:=Glos.at_ (hGl.le e16) hk;have hn9:=hix.1;subst hn9;refine G7 ?_;refine qae (qaw Z Z Z Z Z Z hk) Z<|qae (qat Z Z Z (hcx.le (Lr D)) Z) Z<|qac Z [_,_,_,_] Z Z fun β18 s18 h18=>Zqa Z Z<|Wt 0 [_,_,_,_] Y9<|J9 ?_ ?_<;>intro c19;·have g3:x.kind=3:=c19;have g4:=glo3 (hOK.1.2.2.1 x (List.mem_of_getElem? hx)).1 g3;have g42:=g4.2;refine Zs<|qaU qab 10 Z [3] Q3 fun s20 h20=>H6 ?_;refine za 6 Z (qaC (Wd 0 Y5) (congrArg (Value.int .u32) (Int.toNat_of_nonneg hux.1).symm)) Z<|qaq 7 V<|qhA Z Tt Z Z Z Z Z Q10 O Z fun βx s21 h21=>za 8 Z (qaQ Z Z Z Z Z Z hk) Z<|qaq 9 V<|qd0 Z Tt 4 _ Z Z Z Z Z (qxh hab hx hk) Z (qxi hab hx hk) Z (sM (sbN (qkG (qgn (sbE _)))))<|qah V<|Zt<|qaU qab 10 Z [0] Q3 fun s23 h23=>H5 ?_;refine za 5 Z (qaQ Z Z Z Z Z Z hk) Z<|za 6 Z (qb5 3 Z Z Z Z (qxj hab hx)) Z<|H2 ?_;refine qaq 9 V<|qwr Z Tt 0 (L':=(βx,cb (wv (qeQ x.num.toNat x.init)) 34)::_) Z Z Z Z Z Z Z (hix.row.le (h18.t h20|>.t h21|>.t h23)) g4.1 (by simp) (by rw [qvx g4.1];rfl) Z (fun x hx _=>List.mem_cons_of_mem _ hx)<|qah V<|Zb<|Zt<|qgF (pmA [_,_,_,_,_,_,_,_]) ?_;simp only [cQ9,nQ9];rw [qxg hab hx g3];refine Zr<|qaV Z Z Z (w64 O O)<|G2 ?_;refine qaf ⟨(k+1,ab++[some βx]),[_],kp,Z,⟨(I16.1.t h18|>.t h20|>.t h21|>.t h23),⟨by simp only;omega,by simp [hab],qn2 hab hx hak (fun h=>by first|exact ⟨_,Z⟩|exact absurd h g3)⟩⟩,Oz⟩
  have g3:¬ x.kind=3:=c19;refine G3 ?_;rw [qrm hab hx hk,qrl hab hx];refine Zr<|qaV Z Z Z (w64 O O)<|G2 ?_;refine qaf ⟨(k+1,ab++[none]),[_],kp,Z,⟨(I16.1.t h18),⟨by simp only;omega,by simp [hab],qn2 hab hx hak (fun h=>by first|exact ⟨_,Z⟩|exact absurd h g3)⟩⟩,Oz⟩
 obtain rfl:ng=k:=by omega
 rw [show (qhO p).take ng=qhO p from List.take_of_length_le (by rw [qhO,List.length_map];omega)];refine G14 ?_;refine qae (Wd 6 Y5) Z<|G5 ?_;rw [← List.nil_append (qdO ab (qhO p)++L)];refine qaH (γ:=Nat×Int×Value×Hl) (fun g=>[(3,_),(6,_),(7,_),(9,_),(12,.int .i64 g.2.1),(80,_),(81,_),(82,.int .i64 (g.1:Int))]) (fun g=>(bm,cb [g.2.2.1,.slice (some ⟨bg,0,none⟩) ng ng,.slice (some ⟨ba,0,none⟩) ng ng,SN,.int .u32 0,.int .i64 0,.slice Ai ni qi,.int .i64 (a:Int),SN,.int .i64 0,.int .u32 0,.int .i64 0] 58)::_::_::_::_::_::_::(g.2.2.2++(qdO ab (qhO p)++L))) (fun g tw=>Le D s16 tw∧(g.1≤nf∧(∃ css,FL.Own 70 2 g.2.2.2 g.2.2.1 g.1 (List.flatten css)∧All2 (fun f cs=>cs.length=2∧FnV p tw f cs) (p.funcs.take g.1) css)∧∀ (j:Nat) (y:Fnc),j < g.1→p.funcs[j]?=some y→y.name=qbI→g.2.1=(j:Int))) (fun g=>nf - g.1) (fun _ _ _ h hl=>⟨h.1.trans hl,⟨h.2.1,(by obtain ⟨css,q1,q2⟩:=h.2.2.1;exact ⟨css,q1,q2.mono fun _ _ k=>⟨k.1,k.2.le hl⟩⟩),h.2.2.2⟩⟩) (0,0,SN,[]) (.c6 Z Z Z Z Z Z (.c2 Z Z (.nil _))) Z ⟨Le.refl _,⟨Nat.zero_le _,⟨[],FL.Own.nil,.nil⟩,fun j y hj=>absurd hj (Nat.not_lt_zero _)⟩⟩ ?_;intro g s18 I18;have e18:=e16.t I18.1;obtain ⟨k,mi,vf,Mf⟩:=g;obtain ⟨hk0,⟨css,hO,hA2⟩,hmi⟩:=I18.2;simp only at hk0 hO hA2 hmi;dsimp only;obtain ⟨Af2,cf2,rfl,_,_⟩:=Own.slice hO;refine J6 ?_ ?_<;>intro c19
 ·have hk:k < nf:=by omega
  obtain ⟨b,off,x,B1,m1,d1,B2,m2,d2,B3,m3,d3,rfl,hx,hcx,hpx,hlx,hbx,hnl⟩:=Fncs.at_ (hFn.le e18) hk;have hfx:=hVf x (List.mem_of_getElem? hx);have q83:=hOK.sz x (List.mem_of_getElem? hx);have qp83:=hpx.1;have ql83:=hlx.1;refine G7 ?_;refine qae (qaw Z Z Z Z Z Z hk) Z<|qae (qat Z Z Z (hcx.le (Lr D)) Z) Z<|qac Z [_,_,_,_] Z Z fun β20 s20 h20=>Zqa Z Z<|Wt 0 [_,_,_,_] Y9<|G2 ?_;have e20:=e18.t h20;refine qd6 (γ:=Int) (fun mj=>[(12,.int .i64 mj)]) [_,_,_,_,_,_,_,_] Z (fun mj=>Mf++(qdO ab (qhO p)++L)) (fun mj tw=>(x.name=qbI→mj=(k:Int))∧(¬ x.name=qbI→mj=mi)) (fun _ _ _ h hl=>h) ?_ ?_
  ·refine G4 ?_;refine qio Z Z Z<|J2 ?_ ?_<;>intro c22;·have gmn:x.name=qbI:=c22;refine G4 ?_;refine qaf (MidG.mk (k:Int) [] (Lr D) kp So Pr ⟨fun h=>(by first|rfl|exact absurd h gmn),fun h=>(by first|rfl|exact absurd gmn h)⟩)
   have gmn:¬ x.name=qbI:=c22;refine Zk ?_;refine qaf (MidG.mk mi [] (Lr D) kp So Pr ⟨fun h=>(by first|rfl|exact absurd h gmn),fun h=>(by first|rfl|exact absurd gmn h)⟩)
  intro mj s21 h21 I21;have e21:=h20.t h21;simp only [cQ9,nQ9];have hmj:=I21;refine Sr<|qae (qaj 7 [_,_] Z Z Z Z Z) Z<|qae (qaj 0 [_,_,_,_] Z Z Z Z Z) Z<|qae (qai [(_,_),(_,_)] [_,_,_,_,_,_] Z Z Z Z Z Z) Z<|qac Z [_,_,_,_,_,_] Z Z fun β23 s23 h23=>Wt 0 [_,_,_,_,_,_] Y9<|Nt<|qaB qab 22 Z 2 fun s24 h24=>H10 ?_;refine za 11 Z (qaC (qaI Z Z (w64 O O)) (congrArg (Value.int .i64) (show (m1:Int)+(m2:Int)=((x.params.length+x.locals.length:Nat):Int) by have:=hpx.1;have:=hlx.1;omega))) Z<|za 12 Z (qaj 0 [_,_,_,_,_,_] Z Z Z Z Z) Z<|H1 ?_;have e24:=e21.t h23|>.t h24;refine H1 ?_;refine qdB 4 15 V ?_ ?_;·refine qbH Z Tt (Wd 2 Y5) Z<|qaq 15 V ?_;refine X3 ?_;rintro _ _ s25 h25 ⟨rfl,A',n',c',rfl,hV⟩;refine ⟨fun _ _ h=>h,?_⟩;refine za 16 Z (qai [(_,_),(_,_)] [_,_] Z Z Z Z Z Z) Z<|qaq 17 V<|qci Z Tt [(_,_)] [_,_] Z Z Z Z Z Z Z Z Z ?_;exact Ez7
  refine Jb Z Tt Z Z Z (tsr D d _ _ d p Ag _ ng cg nf cf (hGl.le (e20.t h21|>.t h23|>.t h24)) (hFn.le (e20.t h21|>.t h23|>.t h24)) x B1 B2 B3 m1 d1 m2 d2 m3 d3 (hpx.le e24) (hlx.le e24) (hOK.sz x (List.mem_of_getElem? hx)) hOK.pok B3 m3 d3 x.body (hbx.le e24) (hOK.st (List.mem_of_getElem? hx)).1 (hOK.st (List.mem_of_getElem? hx)).2) ?_;rintro _ _ s25 h25 ⟨rfl,A',n',c',rfl,hV⟩;refine ⟨fun _ _ h=>h,?_⟩;refine za 16 Z (qai [(_,_),(_,_)] [_,_] Z Z Z Z Z Z) Z ?_;refine qdB 4 17 V ?_ ?_;·refine qbH Z Tt (Wd 2 Y5) Z<|qaq 17 V<|qci Z Tt [(_,_)] [_,_] Z Z Z Z Z Z Z Z Z ?_;exact Ez7
  refine qci Z Tt [(_,_)] [_,_] Z Z Z Z Z Z Z Z Z fun βn s26 h26 hcb=>qaq 4 V<|qbH Z Tt (Wd 2 Y5) Z<|qaq 18 V<|qcS Z Tt (sz:=2) [_,_,_,_,_,_,_,_,_] Mf _ Z Z Z Z Z Z Z hO (Row.of_cells (hcb.le (Lr D)) Z Z) ⟨by simp [ti69];omega,by omega⟩ Z (fun _ x hx _=>qCV hx) ?_;intro vq Mq s27 h27 oq;obtain ⟨Avq,cvq,rfl,_,_⟩:=Own.slice oq;simp only [cQ9,nQ9];refine H2 ?_;refine qaq 21 V<|Wu Z Tt 2 [_,_,_,_,_,_,_,_,_,_,_,_] Y9 (sM (qgA (sb0 _)))<|qah V<|Zb<|Zt<|Zr<|qaV Z Z Z (w64 O O)<|G2 ?_;refine qaf ⟨(k+1,mj,.slice Avq (k+1) cvq,Mq),[_,_],kp,Z,⟨(I18.1.t h20|>.t h21|>.t h23|>.t h24|>.t h25|>.t h26|>.t h27),⟨by simp only;omega,⟨css++[[.int .i64 ((x.params.length+x.locals.length:Nat):Int),.slice A' n' c']],by simp only [List.flatten_append,List.flatten_cons,List.flatten_nil,List.append_nil];exact oq,by simp only;rw [qbX hx];exact qhN (hA2.mono fun _ _ k=>⟨k.1,k.2.le (e24.t h25|>.t h26|>.t h27)⟩) ⟨Z,d,A',n',c',Z,hV.le (h26.t h27)⟩⟩,qh7 hND hx hmi hmj.1 hmj.2⟩⟩,Oz⟩
 obtain rfl:nf=k:=by omega
 rw [List.take_of_length_le O] at hA2;obtain ⟨mi0,xm,hmf,hxm,hnm,hpm⟩:=qne hOK.2.1;obtain rfl:=hmi mi0 xm (by rw [hn2];exact (List.getElem?_eq_some_iff.1 hxm).1) hxm hnm;refine G6 ?_;refine qcM [_,_,_,_,_,_,_] Mf _ ?_;intro s20 h20 hpub20;simp only [cQ9,nQ9];have hFV:Sl 2 (FnV p) s20 Af2 nf cf2 p.funcs:=Own.rows hO hpub20 (hA2.mono fun _ _ k=>⟨k.1,k.2.le h20⟩) hn2;refine qcM [_,_] [_] _ ?_;intro s21 h21 hpub21;simp only [cQ9,nQ9];have hca0:=hpub21 _ _ _ (List.mem_singleton.2 rfl);rw [avR,Nat.sub_self,List.replicate_zero,List.append_nil,List.take_of_length_le O] at hca0;have hca:CellsAt s21 ba 0 (qjn ab p.globals):=hca0;have hFV:=Sl.le (fun _ _ h=>FnV.le h21 h) hFV h21;refine qgF (.cons _ (.cons _ (List.perm_append_comm_assoc [_,_,_,_] (qdO ab (qhO p)) L))) ?_;simp only [cQ9,nQ9];rw [← qyl p inp a ⟨bm,bg,0,ba,Af2,nf,cf2,ng,0,ab⟩ _,show List.replicate ng (0:Int)=(qiu p inp a).glo from by rw [hn1];rfl];have hCT:CT p (⟨bm,bg,0,ba,Af2,nf,cf2,ng,0,ab⟩:MC) s21:=⟨hFV,hca,hOK.sz,fun g hg=>(hU.1 g hg).1⟩;have hMG:MG p (⟨bm,bg,0,ba,Af2,nf,cf2,ng,0,ab⟩:MC) a (qiu p inp a) (.slice Ai ni qi) SN (qdO ab (qhO p)) s21:=qBY (ng:=ng) hOK hU (hI.le (e18.t h20|>.t h21)) O hn1 rfl hab (fun j y hy h3=>hak j y (by rw [hn1];exact (List.getElem?_eq_some_iff.1 hy).1) hy h3);refine G3 ?_;refine Jc Z Z Z (qph p D fuX (qvf p D fuX).2.2 _ _ (⟨bm,bg,0,ba,Af2,nf,cf2,ng,0,ab⟩:MC) a mi0 xm (qiu p inp a) _ _ _ _ _ _ hCT hxm hpm hMG (qvV p inp a mi0 O)) ?_;rintro _ _ s22 h22 ⟨rfl,m9,st9,cd9,Z9,rfl,hF9,he9⟩;refine G3 ?_;obtain ⟨u0,u1,u2,u3,u4,u5,u6,u7,ov9,Mo9,K9,hp9,hO9,hlo9,hll9⟩:=hF9;obtain ⟨Ao,co,rfl,_,_⟩:=Own.slice hO9;refine qgF (pm26 hp9)<|G4 ?_;refine qae (qaj 0 [_,_,_,_] Z Z Z Z Z) Z<|qae (qai [] [_,_] Z Z Z Z Z Z) Z<|Wt 3 [_,_,_,_] Y9<|Wt 2 [_,_] Y9<|G3 ?_;exact rR [_,_,_,_,_] _ (.agg (us:=[_,_,_,_]) 3 Z Z Z Z Z (.agg (us:=[_,_]) 2 Z Z Z Z Z (.nil))) Z (e18.t h20|>.t h21|>.t h22) fun _ hS2=>qD1
def qrw{s:World}{A:Option Addr}{n c:Nat}(h:Bts s A n c l)(hk:k≤n):Bts s A k c (l.take k):=by
 rcases Nat.lt_or_eq_of_le hk with hk|rfl
 · exact Sl.take h hk
 · rw [List.take_of_length_le (by have:=h.1;omega)];exact h
def qxl(hk:k=l1.length):decide (l1 <+: l)=decide (l.take k=l1):=by
 subst hk;rw [decide_eq_decide,List.prefix_iff_eq_take];exact eq_comm
theorem qBX(h:l.length < l1.length):decide (l1 <+: l)=false:=by grind
def qAV{p:Prop} (h:p:=by
 refine rR [] L (.t1 Z) Z h1 fun _ hS2=>?_;refine ⟨?_,Z⟩;first
  | (rw [qxl hn1];rfl)
  | (rw [qBX O];rfl)):p:=h
def qoj(A:Option Addr)(n c:Nat)(l:List UInt8)(hA:Bts s A n c l)(A1:Option Addr)(n1 c1:Nat)(l1:List UInt8)(hB:Bts s A1 n1 c1 l1):AC Tryz.prog D 11 [.slice A n c,.slice A1 n1 c1] L s fun v L' _=>v=.bool (decide (l1 <+: l))∧L=L':=by
 have hn:=hA.1;have hn1:=hB.1;have gc1:=hA.2.1;refine qad (fn:=Tryz.f11) qao Tryz.func11 V Z Tryz.ntmps11 Z (rs:=[.tmp 4]) Z [(0,_),(1,_)] Z<|G6 ?_;refine qaL qab 16 Z _ (fun _ h=>h) fun s1 h1=>H4 ?_;refine za 4 Z (qmM Z Z) Z<|H1 ?_;refine qgr (t:=10) Z ?_ ?_<;>intro c2;·refine H3 ?_;refine zg 9 Z ⟨_,Z,Z⟩ (qgJ Z Z Z Z Z O) Z<|zg 10 Z ⟨_,Z,Z⟩ (qje Z Z Z Z Z Z Z (qrw (k:=n1) (hA.le h1) O)) Z<|H1 ?_;refine zg 12 Z ⟨_,Z,Z⟩ (qje Z Z Z Z Z Z Z (hB.le h1)) Z<|zg 13 Z ⟨_,Z,Z⟩ (qvc Z Z) Z<|H2 ?_;refine qah V<|G2 ?_;exact qAV
 refine H10 ?_;refine qah V<|G2 ?_;exact qAV
def begT(A:Option Addr)(n c:Nat)(l:List UInt8)(hA:Bts s A n c l)(A1:Option Addr)(n1 c1:Nat)(l1:List UInt8)(hB:Bts s A1 n1 c1 l1)(h:l1 <+: l):AC Tryz.prog D 11 [.slice A n c,.slice A1 n1 c1] L s fun v L' _=>v=.bool true∧L=L':=
 (qoj D L s A n c l hA A1 n1 c1 l1 hB).mono fun v L' s' _ hv=>⟨hv.1.trans (by rw [decide_eq_true h]),hv.2⟩
def qyb(hG:GP s)(d:Nat)(p:Prg)(Ag Af:Option Addr)(ng cg nf cf:Nat)(hGl:Glos s Ag ng cg p.globals)(hFn:Fncs d s Af nf cf p.funcs)(Ai:Option Addr)(ni qi:Nat)(inp:Str)(hI:Bts s Ai ni qi inp)(steps:Int):AC Tryz.prog D 8 [.agg #[.slice Ag ng cg,.slice Af nf cf],.slice Ai ni qi,.int .i64 steps] L s fun v L' s'=>L=L'∧∃ w,v=.tuple #[w,.agg #[.int .i64 (qcJ p inp steps).2.1,.int .i64 (qcJ p inp steps).2.2]]∧OutV s' (qcJ p inp steps).1 w:=AC.pubW (qyI D L s hG d p Ag Af ng cg nf cf hGl hFn Ai ni qi inp hI steps)
end Go.Proofs.YtlfiplbamnpgoaaGreatDoor
namespace Go.Proofs.YtlfiplbamnpgoaaGreatDoor
open Go Go.FL
variable{a b s:Mst}{j k v:Int}{c w c':List Int}{x z:Ins}{e C σ:Nat}{nm:Str}{m:MS}
inductive Rch:Mst→Nat→Mst→Prop
 | nil (s:Mst):Rch s 0 s
 | cons {s s':Mst} {k:Nat} (h:s.stop=0) (r:Rch (qbi defT s) k s'):Rch s (k+1) s'
def Rch.trans{c:Mst}{j k:Nat}(h:Rch a j b)(r:Rch b k c):Rch a (j+k) c:=by
 induction h with
 | nil s=>rw [Nat.zero_add];exact r
 | cons h0 _ ih=>rw [Nat.add_right_comm];exact .cons h0 (ih r)
def Rch.run{k:Nat}(h:Rch a k b)(n:Nat):qd4 defT a (k+n)=((qd4 defT b n).1,(qd4 defT b n).2+k):=by
 induction h with
 | nil s=>rw [Nat.zero_add];rfl
 | cons h0 _ ih=>rw [Nat.add_right_comm,qd4,if_pos h0,ih];rfl
def Rch.one(h:a.stop=0)(e:qbi defT a=b):Rch a 1 b:=.cons h (e▸.nil _)
abbrev ms(c:List Int)(a b C d p:Int)(i o:Str):Mst:=⟨c,a,b,C,d,p,i,o,0,0⟩
theorem qcP{k:Nat}(h:c[k]?=some v):k < c.length∧c.getD k 0=v:=by grind
def qy9{a b C d:Int}{i o:Str}{p:Nat}(hk:c[p]?=some k)(hx:qeI defT.ins k=some x)(ho:x.operand=false):qbi defT (ms c a b C d p i o)=qbu (ms c a b C d ((p+1:Nat):Int) i o) 0 x.acts:=by
 obtain ⟨h1,h2⟩:=qcP hk;have h3:¬ (c.length:Int)≤(p:Int):=by omega
 simp only [qbi,h3,if_false,Int.toNat_natCast,h2,hx,ho,Bool.false_eq_true];rfl
def qqs{a b C d:Int}{i o:Str}{p:Nat}{n:Int}(hk:c[p]?=some k)(hn:c[p+1]?=some n)(hx:qeI defT.ins k=some x)(ho:x.operand=true):qbi defT (ms c a b C d p i o)=qbu (ms c a b C d ((p+2:Nat):Int) i o) n x.acts:=by
 obtain ⟨h1,h2⟩:=qcP hk;obtain ⟨h4,h5⟩:=qcP hn;have h3:¬ (c.length:Int)≤(p:Int):=by omega
 have h6:¬ (p:Int)+1=(c.length:Int):=by omega
 have h7:((p:Int)+1).toNat=p+1:=by omega
 simp only [qbi,h3,if_false,Int.toNat_natCast,h2,hx,ho,if_true,h6,h7,h5];rfl
section
variable{c:List Int}{a b C d n:Int}{i o:Str}{p q:Nat}
def qvH(h:c[p]?=some 1):qbi defT (ms c a b C d p i o)=⟨c,a,b,C,d,((p+1:Nat):Int),i,o,1,a⟩:=by
 rw [qy9 (x:=_) h rfl rfl];simp [qbu,qbz,qbY,qg3]
def qwi{p:Prop} (h:p:=by
 rw [qqs (x:=_) h h1 rfl rfl];simp [qbu,qbz,qbY,qdo,comp]):p:=h
def qpe(h:c[p]?=some 2)(h1:c[p+1]?=some n):qbi defT (ms c a b C d p i o)=ms c n b C d ((p+2:Nat):Int) i o:=by
 exact qwi
def qCN(h:c[p]?=some 3)(h1:c[p+1]?=some (q:Int))(hv:c[q]?=some v):qbi defT (ms c a b C d p i o)=ms c v b C d ((p+2:Nat):Int) i o:=by
 obtain ⟨h3,h4⟩:=qcP hv;have h5:¬ (c.length:Int)≤(q:Int):=by omega
 rw [qqs (x:=_) h h1 rfl rfl];simp [qbu,qbz,qbY,qdo,h5,← h4]
def qx9(h:c[p]?=some 4)(h1:c[p+1]?=some (q:Int))(hq:q < c.length):qbi defT (ms c a b C d p i o)=ms (c.set q a) a b C d ((p+2:Nat):Int) i o:=by
 have h5:¬ (c.length:Int)≤(q:Int):=by omega
 rw [qqs (x:=_) h h1 rfl rfl];simp [qbu,qbz,qbY,qg3,h5]
def qjX(h:c[p]?=some 9)(hq:q < c.length)(hl:c.length=65536):qbi defT (ms c a b (q:Int) d p i o)=ms (c.set q a) a b ((q+1:Nat):Int) d ((p+1:Nat):Int) i o:=by
 have h5:¬ (c.length:Int)≤(q:Int):=by omega
 have h6:w32 ((q:Int)+1)=((q+1:Nat):Int):=by unfold w32;omega
 rw [qy9 (x:=_) h rfl rfl];simp [qbu,qbz,qbY,qg3,qdo,comp,h5,h6]
def qpd(h:c[p]?=some 26)(h1:c[p+1]?=some n):qbi defT (ms c a b C d p i o)=ms c a b C d n i o:=by
 exact qwi
def Ez75{p:Prop} (h:p:=by
 obtain ⟨h3,h4⟩:=qcP hv;have h5:¬ (c.length:Int)≤(q:Int):=by omega
 rw [qqs (x:=_) h h1 rfl rfl];simp [qbu,qbz,qbY,qg3,qdo,comp,hw,h5,← h4]):p:=h
def qx6(h:c[p]?=some 5)(h1:c[p+1]?=some n)(hw:w32 (C - n)=(q:Int))(hv:c[q]?=some v):qbi defT (ms c a b C d p i o)=ms c v q C d ((p+2:Nat):Int) i o:=by
 exact Ez75
def qsc(h:c[p]?=some 6)(h1:c[p+1]?=some n)(hw:w32 (C - n)=(q:Int))(hq:q < c.length):qbi defT (ms c a b C d p i o)=ms (c.set q a) a q C d ((p+2:Nat):Int) i o:=by
 have h5:¬ (c.length:Int)≤(q:Int):=by omega
 rw [qqs (x:=_) h h1 rfl rfl];simp [qbu,qbz,qbY,qg3,qdo,comp,hw,h5]
def qx5(h:c[p]?=some 7)(h1:c[p+1]?=some n)(hw:w32 (a+n)=(q:Int))(hv:c[q]?=some v):qbi defT (ms c a b C d p i o)=ms c v q C d ((p+2:Nat):Int) i o:=by
 exact Ez75
def qCM(h:c[p]?=some 10)(h1:c[p+1]?=some n):qbi defT (ms c a b C d p i o)=ms c a b (w32 (C - n)) d ((p+2:Nat):Int) i o:=by
 rw [qqs (x:=_) h h1 rfl rfl];simp [qbu,qbz,qbY,qg3,qdo,comp]
def qx7(h:c[p]?=some 8)(h1:c[p+1]?=some n){r:Nat}(hv:c[r]?=some v)(hr:r < 65536)(hw:w32 (v+n)=(q:Int))(hq:q < c.length):qbi defT (ms c a b ((r+1:Nat):Int) d p i o)=ms (c.set q a) a q r d ((p+2:Nat):Int) i o:=by
 obtain ⟨h3,h4⟩:=qcP hv;have h5:¬ (c.length:Int)≤(q:Int):=by omega
 have h6:¬ (c.length:Int)≤(r:Int):=by omega
 have h7:w32 (r:Int)=(r:Int):=by unfold w32;omega
 rw [qqs (x:=_) h h1 rfl rfl];simp [qbu,qbz,qbY,qg3,qdo,comp,h6,h7,hv,hw,h5]
def qCK(h:c[p]?=some k)(hx:qeI defT.ins k=some x)(ho:x.operand=false){u w:Tm}(ha:x.acts=[⟨2,2,⟨1,2⟩,⟨0,1⟩⟩,⟨13,1,⟨1,2⟩,⟨0,0⟩⟩,⟨j,0,u,w⟩])(hj:(j≤3∨6≤j)∧j≤12){r:Nat}(hv:c[r]?=some v)(hr:r < 65536){A:Int}(hA:comp j (qbY (ms c a v r d ((p+1:Nat):Int) i o) 0 u) (qbY (ms c a v r d ((p+1:Nat):Int) i o) 0 w)=A):qbi defT (ms c a b ((r+1:Nat):Int) d p i o)=ms c A v r d ((p+1:Nat):Int) i o:=by
 obtain ⟨h3,h4⟩:=qcP hv;have h6:¬ (c.length:Int)≤(r:Int):=by omega
 have h7:w32 (r:Int)=(r:Int):=by unfold w32;omega
 have e1:¬ (j=4∨j=5):=by omega
 have e2:¬ (j=13∨j=14):=by omega
 have e3:j≠16:=by omega
 have e4:j≠13:=by omega
 have e5:j≠14:=by omega
 have e6:j≠15:=by omega
 have e7:¬ (j=17∨j=18∧qbY (ms c a v r d ((p+1:Nat):Int) i o) 0 w=0):=by omega
 have e8:j≤12:=hj.2;rw [qy9 (x:=_) h hx ho,ha];have f1:qbz (ms c a b ((r+1:Nat):Int) d ((p+1:Nat):Int) i o) ⟨2,2,⟨1,2⟩,⟨0,1⟩⟩ 0=ms c a b r d ((p+1:Nat):Int) i o:=by simp [qbz,qbY,qg3,qdo,comp,h7]
 have f2:qbz (ms c a b r d ((p+1:Nat):Int) i o) ⟨13,1,⟨1,2⟩,⟨0,0⟩⟩ 0=ms c a v r d ((p+1:Nat):Int) i o:=by simp [qbz,qbY,qg3,qdo,h6,← h4]
 have f3:qbz (ms c a v r d ((p+1:Nat):Int) i o) ⟨j,0,u,w⟩ 0=ms c A v r d ((p+1:Nat):Int) i o:=by
  simp only [qbz,e1,e2,e3,e4,e5,e6,e7,e8,hA,false_and,if_false,true_or,if_true];rfl
 simp only [qbu,f1,f2,f3];rfl
def qFq(h:c[p]?=some k)(hx:qeI defT.ins k=some x)(ho:x.operand=false)(ha:x.acts=[⟨2,2,⟨1,2⟩,⟨0,1⟩⟩,⟨13,1,⟨1,2⟩,⟨0,0⟩⟩,⟨18,0,⟨0,2⟩,⟨1,0⟩⟩,⟨j,0,⟨1,1⟩,⟨1,0⟩⟩])(hj:j=4∨j=5){r:Nat}(hv:c[r]?=some v)(hr:r < 65536):qbi defT (ms c a b ((r+1:Nat):Int) d p i o)=if a=0 then ⟨c,a,v,r,d,((p+1:Nat):Int),i,o,1,2⟩ else ms c (comp j v a) v r d ((p+1:Nat):Int) i o:=by
 obtain ⟨h3,h4⟩:=qcP hv;have h6:¬ (c.length:Int)≤(r:Int):=by omega
 have h7:w32 (r:Int)=(r:Int):=by unfold w32;omega
 rw [qy9 (x:=_) h hx ho,ha];have f1:qbz (ms c a b ((r+1:Nat):Int) d ((p+1:Nat):Int) i o) ⟨2,2,⟨1,2⟩,⟨0,1⟩⟩ 0=ms c a b r d ((p+1:Nat):Int) i o:=by simp [qbz,qbY,qg3,qdo,comp,h7]
 have f2:qbz (ms c a b r d ((p+1:Nat):Int) i o) ⟨13,1,⟨1,2⟩,⟨0,0⟩⟩ 0=ms c a v r d ((p+1:Nat):Int) i o:=by simp [qbz,qbY,qg3,qdo,h6,← h4]
 have f3:qbz (ms c a v r d ((p+1:Nat):Int) i o) ⟨18,0,⟨0,2⟩,⟨1,0⟩⟩ 0=if a=0 then ⟨c,a,v,r,d,((p+1:Nat):Int),i,o,1,2⟩ else ms c a v r d ((p+1:Nat):Int) i o:=by
  by_cases h0:a=0<;>simp [qbz,qbY,qg3,h0]
 simp only [qbu,f1,f2,f3];by_cases h0:a=0
 · simp [h0]
 · rcases hj with rfl|rfl<;>simp [h0,qbz,qbY,qg3,qdo]
def qga(h:c[p]?=some 24):qbi defT (ms c a b C d p i o)=ms c (if a=0 then 1 else 0) b C d ((p+1:Nat):Int) i o:=by
 rw [qy9 (x:=_) h rfl rfl];simp [qbu,qbz,qbY,qg3,qdo,comp]
def qpc(h:c[p]?=some 25)(h1:c[p+1]?=some n):qbi defT (ms c a b C d p i o)=if a < n then ms c a 1 C d ((p+2:Nat):Int) i o else ⟨c,a,0,C,d,((p+2:Nat):Int),i,o,1,1⟩:=by
 rw [qqs (x:=_) h h1 rfl rfl];by_cases h2:a < n<;>simp [qbu,qbz,qbY,qg3,qdo,comp,h2]
def qg7(h:c[p]?=some 27)(h1:c[p+1]?=some n):qbi defT (ms c a b C d p i o)=ms c a b C d (if a=0 then n else ((p+2:Nat):Int)) i o:=by
 rw [qqs (x:=_) h h1 rfl rfl];by_cases h2:a=0<;>simp [qbu,qbz,qbY,qg3,qdo,comp,h2]
def qCL(h:c[p]?=some 28)(h1:c[p+1]?=some n)(hq:q < c.length)(hl:c.length=65536)(he:e≤100):qbi defT (ms c a b (q:Int) (e:Int) p i o)=if e < 100 then ms (c.set q ((p+2:Nat):Int)) a 1 ((q+1:Nat):Int) ((e+1:Nat):Int) n i o else ⟨c,a,0,q,((e+1:Nat):Int),((p+2:Nat):Int),i,o,1,3⟩:=by
  have h5:¬ (c.length:Int)≤(q:Int):=by omega
  have h6:w32 ((q:Int)+1)=(q:Int)+1:=by unfold w32;omega
  have h7:w32 ((e:Int)+1)=(e:Int)+1:=by unfold w32;omega
  rw [qqs (x:=_) h h1 rfl rfl];by_cases h2:e < 100
  · have h8:(e:Int)+1 < 101:=by omega
    rw [if_pos h2];simp [qbu,qbz,qbY,qg3,qdo,comp,h5,h6,h7,h8]
  · have h8:¬ (e:Int)+1 < 101:=by omega
    rw [if_neg h2];simp [qbu,qbz,qbY,qg3,qdo,comp,h5,h6,h7,h8]
def qCO(h:c[p]?=some 29)(h1:c[p+1]?=some n)(hw:w32 (C - n)=(q:Int))(hv:c[q]?=some v)(he:e≤100):qbi defT (ms c a b C ((e+1:Nat):Int) p i o)=ms c a b q (e:Int) v i o:=by
 obtain ⟨h3,h4⟩:=qcP hv;have h5:¬ (c.length:Int)≤(q:Int):=by omega
 have h7:w32 (e:Int)=(e:Int):=by unfold w32;omega
 rw [qqs (x:=_) h h1 rfl rfl];simp [qbu,qbz,qbY,qg3,qdo,comp,hw,h5,h7,← h4]
def qFo(h:c[p]?=some 30):qbi defT (ms c a b C d p i o)=ms c (match i with|[]=>4294967295|x::_=>(x.toNat:Int)) b C d ((p+1:Nat):Int) (match i with|[]=>[]|_::r=>r) o:=by
 rw [qy9 (x:=_) h rfl rfl];cases i<;>simp [qbu,qbz,qdo]
def qFp(h:c[p]?=some 31):qbi defT (ms c a b C d p i o)=if o.length=20000 then ⟨c,a,b,C,d,((p+1:Nat):Int),i,o,5,0⟩ else ms c a b C d ((p+1:Nat):Int) i (o++[UInt8.ofNat (a.toNat % 256)]):=by
 rw [qy9 (x:=_) h rfl rfl];by_cases h2:o.length=20000<;>simp [qbu,qbz,qbY,qg3,h2]
def qx8(h:c[p]?=some 32)(h1:c[p+1]?=some n):qbi defT (ms c a b C d p i o)=ms c a b n d ((p+2:Nat):Int) i o:=by
 exact qwi
end
def liC(lab:Str→Int):Li→List Int
 | .op n=>[qcV defT n]
 | .ref n a=>[qcV defT n,lab a]
 | .num n v=>if n=qca then [v] else if n=qbU then List.replicate v.toNat 0 else [qcV defT n,v]
 | .lab _=>[]
def qe5(lab:Str→Int)(y:Li):(liC lab y).length=liW y:=by
 cases y with
 | num n v=>simp only [liC,liW];split<;>(try split)<;>simp
 | _=>rfl
def Cd(c:List Int)(lab:Str→Int):Nat→List Li→Nat→Prop
 | p,[],q=>p=q
 | p,y::r,q=>(∀ k v,(liC lab y)[k]?=some v→c[p+k]?=some v)∧(∀ a,y=.lab a→lab a=(p:Int))∧Cd c lab (p+liW y) r q
section
variable{c c':List Int}{lab:Str→Int}{p q:Nat}{L M:List Li}{y:Li}{n a:Str}{v:Int}
def qox:∀ (L M:List Li) (p q:Nat),Cd c lab p (L++M) q↔∃ m,Cd c lab p L m∧Cd c lab m M q
  | [],M,p,q=>⟨fun h=>⟨p,rfl,h⟩,fun ⟨m,h,k⟩=>by cases h;exact k⟩
  | y::L,M,p,q=>by
    rw [List.cons_append];constructor
    · rintro ⟨h1,h2,h3⟩
      obtain ⟨m,h4,h5⟩:=(qox L M _ q).1 h3;exact ⟨m,⟨h1,h2,h4⟩,h5⟩
    · rintro ⟨m,⟨h1,h2,h4⟩,h5⟩
      exact ⟨h1,h2,(qox L M _ q).2 ⟨m,h4,h5⟩⟩
def Cd.app(h:Cd c lab p (L++M) q):∃ m,Cd c lab p L m∧Cd c lab m M q:=(qox L M p q).1 h
def Cd.end_:∀ {L:List Li} {p q:Nat},Cd c lab p L q→q=p+cW L
 | [],p,q,h=>by cases h;rfl
 | y::r,p,q,h=>by rw [h.2.2.end_];simp only [cW,List.map_cons,List.sum_cons];omega
def Cd.le(h:Cd c lab p L q):p≤q:=by rw [h.end_];omega
def Cd.op(h:Cd c lab p (.op n::L) q):c[p]?=some (qcV defT n)∧Cd c lab (p+1) L q∧p+1≤q:=⟨h.1 0 _ rfl,h.2.2,h.2.2.le⟩
def Cd.ref(h:Cd c lab p (.ref n a::L) q):c[p]?=some (qcV defT n)∧c[p+1]?=some (lab a)∧Cd c lab (p+2) L q∧p+2≤q:=⟨h.1 0 _ rfl,h.1 1 _ rfl,h.2.2,h.2.2.le⟩
def Cd.num(h:Cd c lab p (.num n v::L) q)(h1:n≠qca)(h2:n≠qbU):c[p]?=some (qcV defT n)∧c[p+1]?=some v∧Cd c lab (p+2) L q∧p+2≤q:=by
 have e:liC lab (.num n v)=[qcV defT n,v]:=by rw [liC,if_neg h1,if_neg h2]
 have e2:liW (.num n v)=2:=by rw [liW,if_neg h1,if_neg h2]
 have h4:Cd c lab (p+2) L q:=e2▸h.2.2;exact ⟨h.1 0 _ (by rw [e];rfl),h.1 1 _ (by rw [e];rfl),h4,h4.le⟩
def Cd.lbl(h:Cd c lab p (.lab a::L) q):lab a=(p:Int)∧Cd c lab p L q:=⟨h.2.1 _ rfl,h.2.2⟩
def Cd.mono:∀ {L:List Li} {p q:Nat},Cd c lab p L q→(∀ k,p≤k→k < q→∀ v,c[k]?=some v→c'[k]?=some v)→Cd c' lab p L q
 | [],p,q,h,_=>h
 | y::r,p,q,h,k=>by
  have h3:=h.2.2.le;refine ⟨fun j v hj=>k _ O ?_ _ (h.1 j v hj),h.2.1,h.2.2.mono fun j h4 h5=>k j O h5⟩;have h6:=(List.getElem?_eq_some_iff.1 hj).1;rw [qe5] at h6;omega
end
def qli{n:Str}(h:ok1 n=true):n≠[]∧n≠qca∧n≠qbU∧qft n=false:=by
 exact Ez64
def qpK{n:Str}(h:ok0 n=true):n≠[]∧n≠qbO∧qft n=false:=by
 simp only [ok0,Bool.and_eq_true,Bool.not_eq_true'] at h;exact ⟨(qdw h.1.1.1).1,fun e=>by rw [e] at h;exact absurd h.2 Dc,h.2⟩
def qxa{y:Li}(h:qh6 y):qeM defT w (qd3 y)=w++liC (fun _=>0) y:=by
  cases y with
  | op n=>
    obtain ⟨h1,h2,h3⟩:=qpK h;simp [qeM,qd3,qb7,h1,h2,h3,liC]
  | ref n a=>
    obtain ⟨h1,h2,h3,h4⟩:=qli h.1;simp [qeM,qd3,qb7,h1,show n≠qbO from h3,h4,liC]
  | num n v=>
    obtain ⟨h0|rfl|rfl,hv⟩:=h
    · obtain ⟨h1,h2,h3,h4⟩:=qli h0
      simp [qeM,qd3,qb7,h1,show n≠qbO from h3,h4,liC,h2,h3]
    · simp [qeM,qd3,qb7,liC,show ¬ qca=qbO by decide,show qft qca=true by decide]
    · simp [qeM,qd3,qb7,liC,show qbU=qbO from rfl,show ¬ qbO=qca by decide,show ¬ qbO=[] by decide]
  | lab a=>simp [qeM,qd3,liC]
def rfY(i:Int)(p:Nat):Li→List (Int×Nat×Str×Int)
 | .ref _ a=>[(i,p+1,a,0)]
 | _=>[]
def qw8{r:List (Int×Nat×Str×Int)}{i:Int}{y:Li}(h:qh6 y):qhM defT w r i (qd3 y)=r++rfY i w.length y:=by
 cases y with
 | op n=>
  obtain ⟨h1,h2,h3⟩:=qpK h;simp [qhM,qd3,qdc,h1,h2,rfY]
 | ref n a=>
  obtain ⟨h1,h2,h3,h4⟩:=qli h.1;simp [qhM,qd3,qdc,h1,show n≠qbO from h3,h4,rfY,(qdw h.2).1]
 | num n v=>simp [qhM,qd3,qdc,rfY]
 | lab a=>simp [qhM,qd3,rfY]
def rfL:Nat→Nat→List Li→List (Int×Nat×Str×Int)
 | _,_,[]=>[]
 | i,p,y::L=>rfY (i:Int) p y++rfL (i+1) (p+liW y) L
def LB(l:List (Str×Int)):Nat→List Li→Prop
 | _,[]=>True
 | p,y::L=>(∀ a,y=.lab a→qbo l a=some (p:Int))∧LB l (p+liW y) L
def qpi{l:List (Str×Int)}{x:Str×Int}{a:Str}(h:qbo l a=some v):qbo (l++[x]) a=some v:=by
 induction l with
 | nil=>cases h
 | cons y l ih=>
  simp only [List.cons_append,qbo] at h ⊢;split
  · rename_i e;rw [if_pos e] at h;exact h
  · rename_i e;rw [if_neg e] at h;exact ih h
def qpj{l:List (Str×Int)}{a:Str}(h:qbo l a=none):qbo (l++[(a,v)]) a=some v:=by
 induction l with
 | nil=>simp [qbo]
 | cons y l ih=>
  simp only [List.cons_append,qbo] at h ⊢;split
  · rename_i e;rw [if_pos e] at h;cases h
  · rename_i e;rw [if_neg e] at h;exact ih h
def qjo:∀ (L:List Li) (i:Nat) (w:List Int) (l:List (Str×Int)) (r:List (Int×Nat×Str×Int)),(∀ y∈L,qh6 y)→(qaY L).Nodup→(∀ a∈qaY L,qbo l a=none)→w.length+cW L≤65536 →
    ∃ l',qi7 defT i w l r (splitB 10 (cT L))=.inr (w++L.flatMap (liC fun _=>0),l',r++rfL i w.length L)∧(∀ a v,qbo l a=some v→qbo l' a=some v)∧LB l' w.length L
  | [],i,w,l,r,_,_,_,_=>⟨l,by rw [qal,qoc];simp [rfL],fun _ _ h=>h,trivial⟩
  | y::L,i,w,l,r,hk,hn,hf,hw=>by
    have hy:=hk y Mc;obtain ⟨h1,h2⟩:=qpm hy;have e1:qaY (y::L)=qaY [y]++qaY L:=by rw [qaY,qaY,qaY,← List.filterMap_append];rfl
    rw [e1] at hn hf;rw [cW,List.map_cons,List.sum_cons] at hw;rw [List.nodup_append] at hn;have hf1:∀ a,y=.lab a→qbo l a=none:=fun a e=>hf a (by subst e;simp [qaY]);have hs:splitB 10 (cT (y::L))=liI y::splitB 10 (cT L):=by
      have:=qhn (c:=10) h2 [] (cT L);rw [qag,liT,List.append_assoc];exact this
    have hg:=qh3 (w:=w) hy hf1;have hl:=qip (w:=w) hy;obtain ⟨l',h3,h4,h5⟩:=qjo L (i+1) (qeM defT w (qd3 y)) (qkL w l (qd3 y)) (qhM defT w r i (qd3 y)) (fun z hz=>hk z (List.mem_cons_of_mem _ hz)) hn.2.1 (fun a ha=>by
      have:=hg a;rw [hf a (List.mem_append_right _ ha),show (qaY [y]).contains a=false by rw [← Bool.not_eq_true,List.contains_iff_mem];exact fun h=>hn.2.2 a h a ha rfl] at this;simpa using this) (by rw [hl,cW];omega)
    refine ⟨l',?_,fun a v ha=>h4 a v ?_,fun a e=>h4 a _ ?_,by rw [hl] at h5;exact h5⟩
    · rw [hs,qff h1 (qji hy hf1 O),h3,hl,qxa hy,qw8 hy]
      simp [rfL,List.append_assoc]
    · unfold qkL;split
      · exact ha
      · exact qpi ha
    · subst e
      have h6:=(qdw (show qa6 a=true from hy)).1;simp only [qkL,qd3,h6,if_false];exact qpj (hf1 a rfl)
def LB.some{l:List (Str×Int)}:∀ {L:List Li} {p:Nat},LB l p L→∀ a∈qaY L,∃ v:Nat,qbo l a=some (v:Int)∧v≤p+cW L
  | [],_,_,a,h=>by cases h
  | y::L,p,h,a,ha=>by
    have e1:qaY (y::L)=qaY [y]++qaY L:=by rw [qaY,qaY,qaY,← List.filterMap_append];rfl
    rw [e1,List.mem_append] at ha;rw [cW,List.map_cons,List.sum_cons];rcases ha with ha|ha
    · cases y with
      | lab b=>rw [show qaY [Li.lab b]=[b] from rfl,List.mem_singleton] at ha;subst ha;exact ⟨p,h.1 _ rfl,by omega⟩
      | _=>cases ha
    · obtain ⟨v,h1,h2⟩:=h.2.some a ha
      exact ⟨v,h1,by rw [cW] at h2;omega⟩
def qka{l:List (Str×Int)}:∀ (L:List Li) (i:Nat) (A:List Int),(∀ a∈qbL L,∃ v:Nat,qbo l a=some (v:Int)∧v≤65536)→qj9 l (rfL i A.length L) (A++L.flatMap (liC fun _=>0))=.inr (A++L.flatMap (liC fun a=>(qbo l a).getD 0))
 | [],_,A,_=>rfl
 | y::L,i,A,h=>by
  have e2:qbL (y::L)=qbL [y]++qbL L:=by rw [qbL,qbL,qbL,← List.filterMap_append];rfl
  have ih:=fun A=>qka L (i+1) A fun a ha=>h a (by rw [e2];exact List.mem_append_right _ ha);have hsame:rfY (i:Int) A.length y=[]→liC (fun _=>0) y=liC (fun a=>(qbo l a).getD 0) y→qj9 l (rfL i A.length (y::L)) (A++(y::L).flatMap (liC fun _=>0))=.inr (A++(y::L).flatMap (liC fun a=>(qbo l a).getD 0)):=fun e3 e4=>by
   have:=ih (A++liC (fun _=>0) y);rw [List.length_append,qe5,List.append_assoc,List.append_assoc] at this;rw [rfL,e3,List.nil_append,List.flatMap_cons,List.flatMap_cons,this,e4]
  cases y with
  | ref n a=>
   obtain ⟨v,h1,h2⟩:=h a (by rw [e2];exact List.mem_append_left _ (by simp [qbL]));have e5:(A++(Li.ref n a::L).flatMap (liC fun _=>0)).getD (A.length+1) 0=0:=by
    simp [List.flatMap_cons,liC,List.getElem?_append_right]
   have e6:(A++(Li.ref n a::L).flatMap (liC fun _=>0)).set (A.length+1) (v:Int)=(A++[qcV defT n,(v:Int)])++L.flatMap (liC fun _=>0):=by
    simp [List.flatMap_cons,liC,List.set_append_right]
   have e7:w32 (0+(v:Int))=v:=by unfold w32;omega
   have:=ih (A++[qcV defT n,(v:Int)]);rw [List.length_append,List.append_assoc,List.append_assoc] at this;show qj9 l ((((i:Nat):Int),A.length+1,a,0)::rfL (i+1) (A.length+2) L) _=_;rw [qj9];simp only [h1,e5,e7,e6];rw [List.append_assoc];refine this.trans ?_;simp [List.flatMap_cons,liC,h1]
  | op n=>exact hsame rfl rfl
  | num n v=>exact hsame rfl rfl
  | lab b=>exact hsame rfl rfl
def qoy{l:List (Str×Int)}{T:List Int}:∀ (L:List Li) (A:List Int),LB l A.length L→Cd (A++L.flatMap (liC fun a=>(qbo l a).getD 0)++T) (fun a=>(qbo l a).getD 0) A.length L (A.length+cW L)
  | [],A,_=>by simp [Cd,cW]
  | y::L,A,h=>by
    have ih:=qoy (l:=l) (T:=T) L (A++liC (fun a=>(qbo l a).getD 0) y);rw [List.length_append,qe5] at ih;refine ⟨fun k v hk=>?_,fun a e=>by show (qbo l a).getD 0=_;rw [h.1 a e];rfl,?_⟩
    · have hl:=(List.getElem?_eq_some_iff.1 hk).1
      rw [List.flatMap_cons,List.append_assoc,List.getElem?_append_right O,Nat.add_sub_cancel_left,List.append_assoc,List.getElem?_append_left hl];exact hk
    · have:=ih h.2
      rw [List.flatMap_cons,cW,List.map_cons,List.sum_cons,← Nat.add_assoc,← List.append_assoc];exact this
def qBW{L:List Li}(hk:∀ y∈L,qh6 y)(hn:(qaY L).Nodup)(hr:∀ a∈qbL L,a∈qaY L)(hw:cW L≤65536)(hl:(cT L).length≤400000):∃ w l lab,qgN defT (cT L)=.inr (w,l)∧w.length=cW L∧(∀ T,Cd (w++T) lab 0 L (cW L)):=by
 obtain ⟨l,h1,_,h3⟩:=qjo L 0 [] [] [] hk hn (fun _ _=>rfl) (by simpa using hw);have h4:=qka (l:=l) L 0 [] fun a ha=>by
  obtain ⟨v,h5,h6⟩:=h3.some a (hr a ha);exact ⟨v,h5,by simp only [List.length_nil] at h6;omega⟩
 refine ⟨_,l,fun a=>(qbo l a).getD 0,by rw [qgN,if_neg (by simpa using qoI),if_neg O,h1];simp only [List.nil_append] at h4 ⊢;simp only [h4];rfl,?_,fun T=>by simpa using qoy (T:=T) L [] h3⟩;rw [List.length_flatMap,cW];exact congrArg List.sum (List.map_congr_left fun y _=>qe5 _ y)
def qvv{α:Type}{nm:Str}(nf:α→Str)(c:Int)(f:Nat→Int):∀ (l:List α) (k:Nat),fdI (l.mapIdx fun i y=>(nf y,(c,f (k+i)))) nm=if 0≤qaN (fun y=>decide (nf y=nm)) l k then some (f (qaN (fun y=>decide (nf y=nm)) l k).toNat) else none
  | [],k=>by simp [fdI,qaN]
  | y::l,k=>by
    rw [List.mapIdx_cons,fdI,List.find?_cons];by_cases h:nf y=nm
    · simp [h,qaN]
    · have ih:=qvv (nm:=nm) nf c f l (k+1)
      simp only [Nat.add_right_comm k 1] at ih;simp only [h,decide_false,qaN,Bool.false_eq_true,if_false];rw [← ih,fdI];simp only [Nat.add_assoc,Nat.add_comm 1]
def qg1{α:Type}(nf:α→Str)(c:Int)(f:Nat→Int)(l:List α):fdI (l.mapIdx fun i y=>(nf y,(c,f i))) nm=if 0≤qaN (fun y=>decide (nf y=nm)) l 0 then some (f (qaN (fun y=>decide (nf y=nm)) l 0).toNat) else none:=by
 simpa using qvv (nm:=nm) nf c f l 0
theorem qCv{A B:List (Str×(Int×Int))}:fdI (A++B) nm=(fdI A nm).or (fdI B nm):=by grind [fdI]
def ql7{α:Type}{q:α→Bool}:∀ {l:List α} {k:Nat},qaN q l k < (k+l.length:Nat)
 | [],k=>by simp [qaN];omega
 | x::r,k=>by
  have:=ql7 (q:=q) (l:=r) (k:=k+1);simp only [qaN,List.length_cons];split<;>omega
def ql5{α:Type}{q:α→Bool}:∀ {l:List α} {k:Nat},0≤qaN q l k→(k:Int)≤qaN q l k∧∃ y,l[(qaN q l k).toNat - k]?=some y∧q y=true
  | [],k,h=>by simp [qaN] at h
  | x::r,k,h=>by
    simp only [qaN] at h ⊢;split
    · rename_i h1;exact ⟨Int.le_refl _,x,by simp,h1⟩
    · rename_i h1
      rw [if_neg h1] at h;obtain ⟨h2,y,h3,h4⟩:=ql5 h;refine ⟨by omega,y,?_,h4⟩;rw [show (qaN q r (k+1)).toNat - k=(qaN q r (k+1)).toNat - (k+1)+1 by omega,List.getElem?_cons_succ,h3]
def adr(x:Fnc)(k:Nat):Nat:=if k < x.params.length then k else k+1
def qqb{x:Fnc}(hn:(x.params++x.locals).Nodup):fdI (sE x) nm=if 0≤qa0 x nm then some (adr x (qa0 x nm).toNat:Int) else none:=by
  have e1:(fun y:Str=>decide (nm=y))=fun y=>decide (y=nm):=by funext y;simp [eq_comm]
  have l1:=ql7 (q:=fun y:Str=>decide (y=nm)) (l:=x.params) (k:=0);rw [sE,qCv,qg1 (nm:=nm) (fun y:Str=>y) 2 (fun i=>((x.params.length+1+i:Nat):Int)),qg1 (nm:=nm) (fun y:Str=>y) 1 (fun i=>(i:Int)),qa0,e1];by_cases hp:0≤qaN (fun y:Str=>decide (y=nm)) x.params 0
  · have hl:¬ 0≤qaN (fun y:Str=>decide (y=nm)) x.locals 0:=fun hl=>by
      obtain ⟨_,y,h1,h2⟩:=ql5 hp;obtain ⟨_,z,h3,h4⟩:=ql5 hl;have h2:=of_decide_eq_true h2;have h4:=of_decide_eq_true h4;subst h2;rw [List.nodup_append] at hn;exact hn.2.2 _ (List.mem_of_getElem? h1) _ (List.mem_of_getElem? h3) h4.symm
    rw [if_pos hp,if_neg hl,if_pos hp,if_pos hp,Option.none_or];congr 1;unfold adr;rw [if_pos O]
  · rw [if_neg hp,if_neg hp,Option.or_none]
    by_cases hl:0≤qaN (fun y:Str=>decide (y=nm)) x.locals 0
    · rw [if_pos hl,if_pos hl,if_pos O]
      congr 1;unfold adr;rw [if_neg O];omega
    · rw [if_neg hl,if_neg hl,if_neg O]
def qFi{p:Prg}(h:∃ a,fdI (gE p) nm=some a):gi p nm=qdJ p nm∧0≤qdJ p nm:=by
 have e:=qg1 (nm:=nm) Glo.name 3 (fun i=>(i:Int)) p.globals;obtain ⟨a,ha⟩:=h;rw [gi];unfold qdJ;rw [show fdI (gE p) nm=_ from e] at ha ⊢;split at ha
 · rename_i h1;rw [if_pos h1];exact ⟨by show ((qaN _ _ _).toNat:Int)=_;omega,h1⟩
 · cases ha
def qFg{p:Prg}(h:∃ a,fdI (fE p) nm=some a):fi p nm=qiv p nm∧0≤qiv p nm:=by
 have e:=qg1 (nm:=nm) Fnc.name 4 (fun i=>(i:Int)) p.funcs;obtain ⟨a,ha⟩:=h;rw [fi];unfold qiv;rw [show fdI (fE p) nm=_ from e] at ha ⊢;split at ha
 · rename_i h1;rw [if_pos h1];exact ⟨by show ((qaN _ _ _).toNat:Int)=_;omega,h1⟩
 · cases ha
structure Im where
 p:Prg
 OP:Int→Int→Int→Option Int
 img:List Int
 lab:Str→Int
 G:Nat
 H:Nat
 ga:Nat→Nat
variable{I:Im}
def szG(g:Glo):Nat:=(max g.num 1).toNat
structure Im.OK(I:Im):Prop where
 code:∀ (i:Nat) (x:Fnc),I.p.funcs[i]?=some x→∃ a b k:Nat,I.lab (fT (i:Int))=(a:Int)∧Cd I.img I.lab a (cF I.p x i k).1 b∧b≤I.G
 glo:∀ (i:Nat) (g:Glo),I.p.globals[i]?=some g→g.kind≠1→I.lab (gT (i:Int))=(I.ga i:Int)∧I.G≤I.ga i∧I.ga i+szG g≤I.H
 sep:∀ (i j:Nat) (g h:Glo),I.p.globals[i]?=some g→I.p.globals[j]?=some h→i < j→g.kind≠1→h.kind≠1→I.ga i+szG g≤I.ga j
 top:I.H≤49152
 gh:I.G≤I.H
 gk:∀ (i:Nat) (g:Glo),I.p.globals[i]?=some g→1≤g.kind∧g.kind≤3∧U32 g.num
 fn:∀ x∈I.p.funcs,PQ I.p x∧(x.params++x.locals).Nodup
structure MR(I:Im)(c:List Int)(m:MS):Prop where
 len:c.length=65536
 code:∀ k:Nat,k < I.G→c[k]?=I.img[k]?
 var:∀ (i:Nat) (g:Glo),I.p.globals[i]?=some g→g.kind=2→∃ v,m.glo[i]?=some v∧U32 v∧c[I.ga i]?=some v
 arr:∀ (i:Nat) (g:Glo),I.p.globals[i]?=some g→g.kind=3→∃ l,m.arr[i]?=some l∧(l.length:Int)=g.num∧∀ (j:Nat) (v:Int),l[j]?=some v→U32 v∧c[I.ga i+j]?=some v
 calls:m.calls≤100
 out:m.out.length≤20000
structure FR(x:Fnc)(F:Nat)(c:List Int)(frm:List Int):Prop where
 len:frm.length=x.params.length+x.locals.length
 at_:∀ (k:Nat) (v:Int),frm[k]?=some v→U32 v∧c[F+adr x k]?=some v
def SK(I:Im)(c c':List Int)(C:Nat):Prop:=∀ k:Nat,I.H≤k→k < C→c'[k]?=c[k]?
def FNo(σ:Nat)(s:Mst)(m m':MS)(st cd:Int):Prop:=∃ k s',Rch s k s'∧s'.output=m'.out∧s'.stop=st∧(st≠0→s'.code=cd)∧k+40 * m'.left≤40 * m.left∧m.left≤m'.left+40 * k+σ∧(st=0→m'.left=0)
def EK(I:Im)(τ:Nat)(s:Mst)(c:List Int)(C q:Nat)(m:MS)(v:Int)(m':MS):Prop:=∃ k c' b',Rch s k (ms c' v b' (C:Int) (m'.calls:Int) (q:Int) m'.inp m'.out)∧MR I c' m'∧SK I c c' C∧m'.frm=m.frm∧m'.calls=m.calls∧U32 v∧k+τ+40 * m'.left≤40 * m.left∧m.left≤m'.left+40 * k
def OE(I:Im)(τ σ:Nat)(s:Mst)(c:List Int)(C q:Nat)(m:MS):ER Int→Prop
 | .out=>True
 | .fin m' st cd=>FNo σ s m m' st cd
 | .ok v m'=>EK I τ s c C q m v m'
def SK.refl:SK I c c C:=fun _ _ _=>rfl
def SK.trans{c'':List Int}{C':Nat}(h:SK I c c' C)(h':SK I c' c'' C')(hC:C≤C'):SK I c c'' C:=fun k h1 h2=>(h' k h1 O).trans (h k h1 h2)
def SK.le{C':Nat}(h:SK I c c' C)(hC:C'≤C):SK I c c' C':=fun k h1 h2=>h k h1 O
def SK.set{q:Nat}(hq:q < I.H∨C≤q):SK I c (c.set q v) C:=fun k h1 h2=>List.getElem?_set_ne O
def qn7{x:Fnc}{k:Nat}(h:k < x.params.length+x.locals.length):adr x k < szF x:=by unfold adr szF;split<;>omega
def FR.keep{x:Fnc}{F:Nat}{frm:List Int}(h:FR x F c frm)(k:SK I c c' C)(hF:I.H≤F)(hC:F+szF x≤C):FR x F c' frm:=
 ⟨h.len,fun j v hj=>by
  have h1:=(List.getElem?_eq_some_iff.1 hj).1;have h2:=qn7 (x:=x) (k:=j) (by rw [← h.len];exact h1);exact ⟨(h.at_ j v hj).1,(k _ O O).trans (h.at_ j v hj).2⟩⟩
def MR.push{I:Im}{c:List Int}{m:MS}(h:MR I c m)(hI:I.OK){q:Nat}{v:Int}(hq:I.H≤q):MR I (c.set q v) m where
 len:=by rw [List.length_set];exact h.len
 code k hk:=by
  have:=hI.gh;rw [List.getElem?_set_ne O];exact h.code k hk
 var i g hg hk:=by
  obtain ⟨w,h1,h2,h3⟩:=h.var i g hg hk;obtain ⟨_,h5,h6⟩:=hI.glo i g hg O;exact ⟨w,h1,h2,by rw [List.getElem?_set_ne (by unfold szG at h6;omega)];exact h3⟩
 arr i g hg hk:=by
  obtain ⟨l,h1,h2,h3⟩:=h.arr i g hg hk;obtain ⟨_,h5,h6⟩:=hI.glo i g hg O;refine ⟨l,h1,h2,fun j w hj=>⟨(h3 j w hj).1,?_⟩⟩;have h7:=(List.getElem?_eq_some_iff.1 hj).1;rw [List.getElem?_set_ne (by unfold szG at h6;omega)];exact (h3 j w hj).2
 calls:=h.calls
 out:=h.out
def Ez72{p:Prop} (h:p:=by
 rcases Nat.lt_or_gt_of_ne e with h8|h8
 · have:=hI.sep j i g' g hg' hg h8 O O;unfold szG at this;omega
 · have:=hI.sep i j g g' hg hg' h8 O O;unfold szG at this;omega):p:=h
def MR.setVar(h:MR I c m)(hI:I.OK){i:Nat}{g:Glo}(hg:I.p.globals[i]?=some g)(hk:g.kind=2)(hv:U32 v):MR I (c.set (I.ga i) v) { m with glo:=m.glo.set i v } where
  len:=by rw [List.length_set];exact h.len
  code k hk:=by
    obtain ⟨_,h5,h6⟩:=hI.glo i g hg O;rw [List.getElem?_set_ne O];exact h.code k hk
  var j g' hg' hk':=by
    obtain ⟨w,h1,h2,h3⟩:=h.var j g' hg' hk';by_cases e:j=i
    · subst e
      have h4:=(List.getElem?_eq_some_iff.1 h3).1;have h5:=(List.getElem?_eq_some_iff.1 h1).1;exact ⟨v,List.getElem?_set_self h5,hv,List.getElem?_set_self h4⟩
    · have h7:I.ga i≠I.ga j:=by
        exact Ez72
      exact ⟨w,(List.getElem?_set_ne (fun e'=>e e'.symm)).trans h1,h2,(List.getElem?_set_ne h7).trans h3⟩
  arr j g' hg' hk':=by
    obtain ⟨l,h1,h2,h3⟩:=h.arr j g' hg' hk';refine ⟨l,h1,h2,fun k w hw=>⟨(h3 k w hw).1,?_⟩⟩;have h9:=(List.getElem?_eq_some_iff.1 hw).1;have h7:I.ga i≠I.ga j+k:=by
      have e:j≠i:=fun e=>by subst e;rw [hg] at hg';cases hg';omega
      exact Ez72
    exact (List.getElem?_set_ne h7).trans (h3 k w hw).2
  calls:=h.calls
  out:=h.out
def Ez71{p:Prop} (h:p:=by
 rcases Nat.lt_or_gt_of_ne e' with h8|h8
 · have:=hI.sep j i g' g hg' hg h8 O O;unfold szG at this;omega
 · have:=hI.sep i j g g' hg hg' h8 O O;unfold szG at this;omega):p:=h
def MR.setArr(h:MR I c m)(hI:I.OK){i:Nat}{g:Glo}(hg:I.p.globals[i]?=some g)(hk:g.kind=3){l:List Int}(hl:m.arr[i]?=some l)(he:e < l.length)(hv:U32 v):MR I (c.set (I.ga i+e) v) { m with arr:=m.arr.set i (l.set e v) } where
  len:=by rw [List.length_set];exact h.len
  code k hk:=by
    obtain ⟨_,h5,h6⟩:=hI.glo i g hg O;rw [List.getElem?_set_ne O];exact h.code k hk
  var j g' hg' hk':=by
    obtain ⟨w,h1,h2,h3⟩:=h.var j g' hg' hk';obtain ⟨l',h10,h11,_⟩:=h.arr i g hg hk;rw [hl] at h10;cases h10;have e':j≠i:=fun e=>by subst e;rw [hg] at hg';cases hg';omega
    have h7:I.ga i+e≠I.ga j:=by
      exact Ez71
    exact ⟨w,h1,h2,(List.getElem?_set_ne h7).trans h3⟩
  arr j g' hg' hk':=by
    obtain ⟨l',h1,h2,h3⟩:=h.arr j g' hg' hk';have hli:=(List.getElem?_eq_some_iff.1 hl).1;by_cases e':j=i
    · subst e'
      rw [hl] at h1;cases h1;refine ⟨l.set e v,List.getElem?_set_self hli,by rw [List.length_set];exact h2,fun k w hw=>?_⟩;by_cases ek:k=e
      · subst ek
        rw [List.getElem?_set_self he] at hw;cases hw;obtain ⟨_,h8⟩:=h3 k _ (List.getElem?_eq_getElem he);exact ⟨hv,List.getElem?_set_self (List.getElem?_eq_some_iff.1 h8).1⟩
      · rw [List.getElem?_set_ne (fun h=>ek h.symm)] at hw
        exact ⟨(h3 k w hw).1,(List.getElem?_set_ne O).trans (h3 k w hw).2⟩
    · obtain ⟨l2,h10,h11,_⟩:=h.arr i g hg hk
      rw [hl] at h10;cases h10;refine ⟨l',(List.getElem?_set_ne (fun e=>e' e.symm)).trans h1,h2,fun k w hw=>⟨(h3 k w hw).1,?_⟩⟩;have h9:=(List.getElem?_eq_some_iff.1 hw).1;have h7:I.ga i+e≠I.ga j+k:=by
        exact Ez71
      exact (List.getElem?_set_ne h7).trans (h3 k w hw).2
  calls:=h.calls
  out:=h.out
def qkA{p:Prg}{x:Fnc}{uk na:Int}(h:qeT p x (nm,uk,na)=0)(h0:uk≠0):(0≤qa0 x nm∧(uk=1∨uk=2))∨(¬ 0≤qa0 x nm∧((∃ (i:Nat) (g:Glo),gi p nm=(i:Int)∧qdJ p nm=(i:Int)∧p.globals[i]?=some g∧((g.kind=1∧uk=2)∨(g.kind=2∧(uk=1∨uk=2))∨(g.kind≠1∧g.kind≠2∧uk=3)))∨(uk=4∧∃ (i:Nat) (f:Fnc),fi p nm=(i:Int)∧qiv p nm=(i:Int)∧p.funcs[i]?=some f∧(f.params.length:Int)=na))):=by
  unfold qeT at h;rw [if_neg h0] at h;split at h
  · cases h
  rename_i h1;split at h
  · cases h
  rename_i h2;have h2:=Classical.not_not.1 h2;split at h
  · cases h
  rename_i h3;simp only at h1 h2 h3;unfold qa0;by_cases hp:0≤qaN (fun y=>decide (nm=y)) x.params 0
  · have hm:(qbn p x nm).1.1=1:=by rw [qbn,if_pos hp]
    rw [hm] at h2;rw [if_pos hp];exact .inl ⟨hp,by rcases h2 with h2|h2|h2<;>omega⟩
  by_cases hl:0≤qaN (fun y=>decide (nm=y)) x.locals 0
  · have hm:(qbn p x nm).1.1=2:=by rw [qbn,if_neg hp,if_pos hl]
    rw [hm] at h2;rw [if_neg hp,if_pos hl];exact .inl ⟨by omega,by rcases h2 with h2|h2|h2<;>omega⟩
  refine .inr ⟨by rw [if_neg hp,if_neg hl];omega,?_⟩;have hm:qbn p x nm=match (ents p).find? fun e=>decide (e.1=nm) with
      | some e=>(e.2,true)
      | none=>((0,0),false):=by rw [qbn,if_neg hp,if_neg hl]<;>rfl
  rw [show ents p=gE p++fE p from rfl,List.find?_append] at hm;cases hg:(gE p).find? fun e=>decide (e.1=nm) with
  | some e=>
    rw [hg] at hm;have hf:fdI (gE p) nm=some e.2.2:=by rw [fdI,hg];rfl
    obtain ⟨g1,g2⟩:=qFi ⟨_,hf⟩;obtain ⟨i,hi,rfl⟩:=List.mem_mapIdx.1 (List.mem_of_find?_eq_some hg);have hgi:gi p nm=(i:Int):=by rw [gi,hf];rfl
    refine .inl ⟨i,p.globals[i],hgi,g1▸hgi,List.getElem?_eq_getElem hi,?_⟩;exact Ez89
  | none=>
    rw [hg,Option.none_or] at hm;cases hf:(fE p).find? fun e=>decide (e.1=nm) with
    | none=>rw [hf] at hm;rw [hm] at h1;exact absurd rfl h1
    | some e=>
      rw [hf] at hm;have hf':fdI (fE p) nm=some e.2.2:=by rw [fdI,hf];rfl
      obtain ⟨g1,g2⟩:=qFg ⟨_,hf'⟩;obtain ⟨i,hi,rfl⟩:=List.mem_mapIdx.1 (List.mem_of_find?_eq_some hf);have hfi:fi p nm=(i:Int):=by rw [fi,hf'];rfl
      rw [hm] at h2 h3;simp only [qfZ] at h2;simp only [qiO (k:=i) rfl (List.getElem?_eq_getElem hi)] at h3;have h4:uk=4:=by omega
      exact .inr ⟨h4,i,_,hfi,g1▸hfi,List.getElem?_eq_getElem hi,by
        have:=Classical.not_not.1 (fun k=>h3 ⟨h4,k⟩);omega⟩
mutual
def dX:Ex→Nat
 | .mk _ _ _ _ az=>1+dXs az
def dXs:List Ex→Nat
 | []=>0
 | x::r=>max (dX x) (dXs r)
end
mutual
def qAo:∀ (x:Ex) (lv c:Nat),(wkX x lv c).2=0→lv+dX x≤17
 | .mk k o n nm az,lv,c,h=>by
  simp only [wkX] at h;split at h
  · cases h
  rename_i h1;split at h
  · rename_i h2;exact absurd h h2
  have:=qi4 az (lv+1) (c+1) h;rw [dX];omega
def qi4:∀ (l:List Ex) (lv c:Nat),(qd5 l lv c).2=0→dXs l=0∨lv+dXs l≤17
 | [],_,_,_=>.inl rfl
 | x::r,lv,c,h=>by
  simp only [qd5] at h;split at h
  · rename_i h1;exact absurd h h1
  rename_i h1;have h2:=qAo x lv c Q6;have h3:=qi4 r lv _ h;rw [dXs];omega
end
def OE.bind{τ σ1:Nat}{s1:Mst}{c1:List Int}{C1 q1 j δ:Nat}{m1:MS}{r:ER Int}{β:Type}{K:Int→MS→ER β}(X:ER β→Prop)(hX:X .out)(hF:∀ m' st cd,FNo σ s m m' st cd→X (.fin m' st cd))(h:OE I τ σ1 s1 c1 C1 q1 m1 r)(R:Rch s j s1)(h1:j+40 * m1.left≤40 * m.left)(h2:m.left≤m1.left+40 * j+δ)(h3:σ1+δ≤σ)(hK:∀ v m2,EK I τ s1 c1 C1 q1 m1 v m2→X (K v m2)):X (r.and K):=by
 cases r with
 | out=>exact hX
 | fin m' st cd=>
  obtain ⟨k,s',r1,r2,r3,r4,r5,r6,r7⟩:=h;exact hF _ _ _ ⟨j+k,s',R.trans r1,r2,r3,r4,by omega,by omega,r7⟩
 | ok v m2=>exact hK v m2 h
def qmz{β:Type}{K:MS→ER β}(X:ER β→Prop)(hs:s.stop=0)(ho:s.output=m.out)(hF:∀ m' st cd,FNo σ s m m' st cd→X (.fin m' st cd))(hK:m.left≠0→X (K { m with left:=m.left - 1 })):X ((qkv m).and fun _ m=>K m):=by
  unfold qkv;by_cases h:m.left=0
  · rw [if_pos h]
    exact hF _ _ _ ⟨0,s,.nil _,ho,hs,fun k=>absurd rfl k,by omega,by omega,fun _=>h⟩
  · rw [if_neg h];exact hK h
def opM(o x y:Int):Option Int:=
 if o=4 then some (comp 3 x y) else if o=5 then (if y=0 then none else some (comp 4 x y)) else if o=6 then (if y=0 then none else some (comp 5 x y))
 else if o=7 then some (comp 9 x y) else if o=8 then some (comp 10 x y) else if o=9 then some (comp 6 x y) else if o=10 then some (comp 1 x y)
 else if o=11 then some (comp 2 x y) else if o=12 then some (comp 7 x y) else if o=13 then some (comp 8 x y) else if o=14 then some (comp 11 x y)
 else if o=15 then some (if comp 11 x y=0 then 1 else 0) else if o=16 then some (comp 12 x y) else if o=17 then some (if comp 12 y x=0 then 1 else 0)
 else if o=18 then some (comp 12 y x) else some (if comp 12 x y=0 then 1 else 0)
def OpR(c:List Int)(x y:Int)(r pc q:Nat)(b d:Int)(i oo:Str):Option Int→Prop
 | some v=>U32 v∧∃ k b',1≤k∧k≤2∧Rch (ms c y b ((r+1:Nat):Int) d pc i oo) k (ms c v b' r d q i oo)
 | none=>∃ s',Rch (ms c y b ((r+1:Nat):Int) d pc i oo) 1 s'∧s'.output=oo∧s'.stop=1∧s'.code=2
section
variable{c:List Int}{lab:Str→Int}{x y b d:Int}{i oo:Str}{r pc q:Nat}{n:Str}
def b01{t:Int}:U32 (if t=0 then (1:Int) else 0):=by split<;>exact ⟨by omega,by omega⟩
def qdX{u w:Tm}(hcd:Cd c lab pc ([n].map .op) q)(hr:r < 65536)(hv:c[r]?=some x)(hn:qcV defT n=k)(hz:qeI defT.ins k=some z)(ho:z.operand=false)(ha:z.acts=[⟨2,2,⟨1,2⟩,⟨0,1⟩⟩,⟨13,1,⟨1,2⟩,⟨0,0⟩⟩,⟨j,0,u,w⟩])(hj:(j≤3∨6≤j)∧j≤12)(hA:comp j (qbY (ms c y x r d ((pc+1:Nat):Int) i oo) 0 u) (qbY (ms c y x r d ((pc+1:Nat):Int) i oo) 0 w)=v)(hU:U32 v):OpR c x y r pc q b d i oo (some v):=by
 obtain ⟨h1,h2,_⟩:=hcd.op;have h3:pc+1=q:=h2;rw [hn] at h1;exact ⟨hU,1,x,Nat.le_refl _,by omega,h3▸Rch.one rfl (qCK h1 hz ho ha hj hv hr hA)⟩
def qpN{u w:Tm}(hcd:Cd c lab pc ([n,qcv].map .op) q)(hr:r < 65536)(hv:c[r]?=some x)(hn:qcV defT n=k)(hz:qeI defT.ins k=some z)(ho:z.operand=false)(ha:z.acts=[⟨2,2,⟨1,2⟩,⟨0,1⟩⟩,⟨13,1,⟨1,2⟩,⟨0,0⟩⟩,⟨j,0,u,w⟩])(hj:(j≤3∨6≤j)∧j≤12)(hA:comp j (qbY (ms c y x r d ((pc+1:Nat):Int) i oo) 0 u) (qbY (ms c y x r d ((pc+1:Nat):Int) i oo) 0 w)=v):OpR c x y r pc q b d i oo (some (if v=0 then 1 else 0)):=by
 obtain ⟨h1,h2,_⟩:=hcd.op;obtain ⟨h4,h5,_⟩:=Cd.op h2;have h3:pc+1+1=q:=h5;rw [hn] at h1;exact ⟨b01,2,x,by omega,Nat.le_refl _,h3▸(Rch.one rfl (qCK h1 hz ho ha hj hv hr hA)).trans (Rch.one rfl (qga h4))⟩
def qvP(hcd:Cd c lab pc ([n].map .op) q)(hr:r < 65536)(hv:c[r]?=some x)(hn:qcV defT n=k)(hz:qeI defT.ins k=some z)(ho:z.operand=false)(ha:z.acts=[⟨2,2,⟨1,2⟩,⟨0,1⟩⟩,⟨13,1,⟨1,2⟩,⟨0,0⟩⟩,⟨18,0,⟨0,2⟩,⟨1,0⟩⟩,⟨j,0,⟨1,1⟩,⟨1,0⟩⟩])(hj:j=4∨j=5)(hU:U32 (comp j x y)):OpR c x y r pc q b d i oo (if y=0 then none else some (comp j x y)):=by
  obtain ⟨h1,h2,_⟩:=hcd.op;have h3:pc+1=q:=h2;rw [hn] at h1;have h4:=qFq (a:=y) (b:=b) (d:=d) (i:=i) (o:=oo) h1 hz ho ha hj hv hr;by_cases h0:y=0
  · rw [if_pos h0] at h4 ⊢
    exact ⟨_,Rch.one rfl h4,rfl,rfl,rfl⟩
  · rw [if_neg h0] at h4 ⊢
    exact ⟨hU,1,x,Nat.le_refl _,by omega,h3▸Rch.one rfl h4⟩
def qDn{o:Int}(h4:4≤o)(h19:o≤19)(hx:U32 x)(hy:U32 y)(hcd:Cd c lab pc ((opN o).map .op) q)(hr:r < 65536)(hv:c[r]?=some x):OpR c x y r pc q b d i oo (opM o x y):=by
 have hc:o=4∨o=5∨o=6∨o=7∨o=8∨o=9∨o=10∨o=11∨o=12∨o=13∨o=14∨o=15∨o=16∨o=17∨o=18∨o=19:=by omega
 rcases hc with rfl|rfl|rfl|rfl|rfl|rfl|rfl|rfl|rfl|rfl|rfl|rfl|rfl|rfl|rfl|rfl
 · exact qdX (n:=wMul) hcd hr hv rfl rfl rfl rfl Dc rfl (qb2 hx hy)
 · exact qvP (n:=wDiv) hcd hr hv rfl rfl rfl rfl Dc (qb2 hx hy)
 · exact qvP (n:=wMod) hcd hr hv rfl rfl rfl rfl Dc (qb2 hx hy)
 · exact qdX (n:=qDR) hcd hr hv rfl rfl rfl rfl Dc rfl (qb2 hx hy)
 · exact qdX (n:=qv2) hcd hr hv rfl rfl rfl rfl Dc rfl (qb2 hx hy)
 · exact qdX (n:=wAnd) hcd hr hv rfl rfl rfl rfl Dc rfl (qb2 hx hy)
 · exact qdX (n:=wAdd) hcd hr hv rfl rfl rfl rfl Dc rfl (qb2 hx hy)
 · exact qdX (n:=qAj) hcd hr hv rfl rfl rfl rfl Dc rfl (qb2 hx hy)
 · exact qdX (n:=wOr) hcd hr hv rfl rfl rfl rfl Dc rfl (qb2 hx hy)
 · exact qdX (n:=wXor) hcd hr hv rfl rfl rfl rfl Dc rfl (qb2 hx hy)
 · exact qdX (n:=wEq) hcd hr hv rfl rfl rfl rfl Dc rfl (qb2 hx hy)
 · exact qpN (n:=wEq) hcd hr hv rfl rfl rfl rfl Dc rfl
 · exact qdX (n:=quU) hcd hr hv rfl rfl rfl rfl Dc rfl (qb2 hx hy)
 · exact qpN (n:=quV) hcd hr hv rfl rfl rfl rfl Dc rfl
 · exact qdX (n:=quV) hcd hr hv rfl rfl rfl rfl Dc rfl (qb2 hy hx)
 · exact qpN (n:=quU) hcd hr hv rfl rfl rfl rfl Dc rfl
end
structure OPK(OP:Int→Int→Int→Option Int):Prop where
 una:∀ o a,1≤o→o≤3→U32 a→(OP o a 0).getD 0=if o=1 then (if a=0 then 1 else 0) else w32 ((if o=3 then 4294967295 else 0) - a)
 bin:∀ o x y,4≤o→o≤19→U32 x→U32 y→OP o x y=opM o x y
 and_:∀ x y,OP 20 x y=some (if x=0∨y=0 then 0 else 1)
 or_:∀ x y,OP 21 x y=some (if x=0∧y=0 then 0 else 1)
def PE(I:Im)(n:Nat):Prop:=∀ (x:Fnc) (e:Ex) (lp w kk a q:Nat) (m:MS) (c:List Int) (F:Nat) (av b:Int),x∈I.p.funcs→exV e=true→exU e=true→(∀ nd∈ndX e lp,ndC I.p x nd=0)→Cd I.img I.lab a (cE I.p x e w kk).1 q→q≤I.G→MR I c m→FR x F c m.frm→I.H≤F→F+szF x+w+6 * dX e+120 * (100 - m.calls)≤65530 →
 OE I 2 (dX e) (ms c av b ((F+szF x+w:Nat):Int) (m.calls:Int) (a:Int) m.inp m.out) c (F+szF x+w) q m ((sem I.p I.OP n).e x e m)
def CLE(I:Im)(s:Mst)(c:List Int)(B C q:Nat)(m:MS):ER Int→Prop
 | .out=>True
 | .fin m' st cd=>FNo 0 s m m' st cd
 | .ok v m'=>∃ k c' b',Rch s k (ms c' v b' (C:Int) (m'.calls:Int) (q:Int) m'.inp m'.out)∧MR I c' m'∧SK I c c' B∧m'.frm=m.frm∧m'.calls=m.calls∧U32 v∧k+3+40 * m'.left≤40 * m.left∧m.left≤m'.left+40 * k
def PC(I:Im)(n:Nat):Prop:=∀ (i:Nat) (f:Fnc) (vs:List Int) (a:Nat) (m:MS) (c:List Int) (B:Nat) (av b:Int),I.p.funcs[i]?=some f→vs.length=f.params.length→(∀ k v,vs[k]?=some v→U32 v∧c[B+k]?=some v)→I.img[a]?=some 28→I.img[a+1]?=some (I.lab (fT (i:Int)))→a+2≤I.G→MR I c m→I.H≤B→B+6+120 * (100 - m.calls)≤65530 →
 CLE I (ms c av b ((B+f.params.length:Nat):Int) (m.calls:Int) (a:Int) m.inp m.out) c B (B+f.params.length) (a+2) { m with left:=m.left+1 } ((sem I.p I.OP n).c i vs m)
def FNo.pre{σ1 j:Nat}{s1:Mst}{m1 m':MS}{st cd:Int}(h:FNo σ1 s1 m1 m' st cd)(R:Rch s j s1)(h1:j+40 * m1.left≤40 * m.left)(h2:m.left+σ1≤m1.left+40 * j+σ):FNo σ s m m' st cd:=by
 obtain ⟨k,s',r1,r2,r3,r4,r5,r6,r7⟩:=h;exact ⟨j+k,s',R.trans r1,r2,r3,r4,by omega,by omega,r7⟩
def MR.cell(h:MR I c m){k:Nat}(hv:I.img[k]?=some v)(hk:k < I.G):c[k]?=some v:=(h.code k hk).trans hv
def AK(I:Im)(s:Mst)(c:List Int)(C n q:Nat)(m:MS)(vs:List Int)(m':MS):Prop:=∃ k c' a' b',Rch s k (ms c' a' b' ((C+n:Nat):Int) (m'.calls:Int) (q:Int) m'.inp m'.out)∧MR I c' m'∧SK I c c' C∧m'.frm=m.frm∧m'.calls=m.calls∧vs.length=n∧(∀ k v,vs[k]?=some v→U32 v∧c'[C+k]?=some v)∧k+40 * m'.left≤40 * m.left∧m.left≤m'.left+40 * k
def OA(I:Im)(σ:Nat)(s:Mst)(c:List Int)(C n q:Nat)(m:MS):ER (List Int)→Prop
 | .out=>True
 | .fin m' st cd=>FNo σ s m m' st cd
 | .ok vs m'=>AK I s c C n q m vs m'
def qob{I:Im}{n:Nat}(hI:I.OK)(hE:PE I n){x:Fnc}(hx:x∈I.p.funcs)(lp:Nat):∀ (l:List Ex) (w kk a q:Nat) (m:MS) (c:List Int) (F:Nat) (av b:Int),qeG l=true→qfQ l=true→(∀ nd∈qfI l lp,ndC I.p x nd=0)→Cd I.img I.lab a (cC I.p x l w kk).1 q→q≤I.G→MR I c m→FR x F c m.frm→I.H≤F→F+szF x+w+l.length+6 * dXs l+120 * (100 - m.calls)≤65530 →
  OA I (dXs l) (ms c av b ((F+szF x+w:Nat):Int) (m.calls:Int) (a:Int) m.inp m.out) c (F+szF x+w) l.length q m (qbf ((sem I.p I.OP n).e x) l m)
 | [],w,kk,a,q,m,c,F,av,b,_,_,_,hcd,_,hM,_,_,_=>by
  unfold cC at hcd;cases (show a=q from hcd);exact ⟨0,c,av,b,.nil _,hM,.refl,rfl,rfl,rfl,fun k v h=>by simp at h,by omega,by omega⟩
 | y::r,w,kk,a,q,m,c,F,av,b,hv,hu,hd,hcd,hq,hM,hF,hH,hr=>by
  simp only [qeG,qfQ,Bool.and_eq_true] at hv hu;unfold cC at hcd;obtain ⟨q1,d1,d2⟩:=hcd.app;obtain ⟨e1,e2,e3⟩:=d2.op;rw [dXs,List.length_cons] at hr;rw [dXs,qbf];refine OE.bind (X:=OA I _ _ c _ _ q m) Tt (fun _ _ _ h=>h) (hE x y lp w kk a q1 m c F av b hx hv.1 hu.1 (fun nd h=>hd nd (List.mem_append_left _ h)) d1 O hM hF hH O) (.nil _) (j:=0) (δ:=0) O O O fun v m2 h=>?_;obtain ⟨k,c2,b2,R,hM2,hS,hf,hc,hU,k1,k2⟩:=h;have hl:=hM2.len;have hP:Rch _ 1 _:=Rch.one (a:=ms c2 v b2 ((F+szF x+w:Nat):Int) (m2.calls:Int) (q1:Int) m2.inp m2.out) rfl (qjX (hM2.cell e1 O) O hl);have hS2:SK I c2 (c2.set (F+szF x+w) v) (F+szF x+w):=.set (.inr (Nat.le_refl _));have hF2:FR x F (c2.set (F+szF x+w) v) m2.frm:=by rw [hf];exact hF.keep (hS.trans hS2 (Nat.le_refl _)) hH O
  have ih:=qob hI hE hx lp r (w+1) _ (q1+1) q m2 (c2.set (F+szF x+w) v) F v b2 hv.2 hu.2 (fun nd h=>hd nd (List.mem_append_right _ h)) e2 hq (hM2.push hI O) hF2 hH Q19;have R2:=R.trans hP;rw [show F+szF x+(w+1)=F+szF x+w+1 by omega] at ih;cases hrr:qbf ((sem I.p I.OP n).e x) r m2 with
  | out=>trivial
  | fin m' st cd=>rw [hrr] at ih;exact FNo.pre ih R2 O O
  | ok vs m3=>
   rw [hrr] at ih;obtain ⟨k',c3,a3,b3,R3,hM3,hS3,hf3,hc3,hn3,hv3,k3,k4⟩:=ih;refine ⟨_,c3,a3,b3,by rw [List.length_cons,show F+szF x+w+(r.length+1)=F+szF x+w+1+r.length by omega];exact R2.trans R3,hM3,(hS.trans hS2 (Nat.le_refl _)).trans hS3 O,hf3.trans hf,hc3.trans hc,by rw [List.length_cons,hn3,List.length_cons],fun k v' hk=>?_,by omega,by omega⟩;cases k with
   | zero=>
    simp only [List.getElem?_cons_zero,Option.some.injEq] at hk;subst hk;exact ⟨hU,(hS3 _ O O).trans (List.getElem?_set_self O)⟩
   | succ k=>
    rw [List.getElem?_cons_succ] at hk;have:=hv3 k v' hk;exact ⟨this.1,by rw [show F+szF x+w+(k+1)=F+szF x+w+1+k by omega];exact this.2⟩
abbrev dn(m:MS):MS:={ m with left:=m.left - 1 }
def MR.dn{I:Im}{c:List Int}{m:MS}(h:MR I c m):MR I c (dn m):=⟨h.len,h.code,h.var,h.arr,h.calls,h.out⟩
def EK.leaf{q:Nat}{b':Int}(hs:s.stop=0)(h:qbi defT s=ms c v b' (C:Int) (m.calls:Int) (q:Int) m.inp m.out)(hM:MR I c m)(hU:U32 v)(hl:m.left≠0):EK I 2 s c C q m v (Go.Proofs.YtlfiplbamnpgoaaGreatDoor.dn m):=
 ⟨1,c,b',.one hs h,hM.dn,.refl,rfl,rfl,hU,by show 1+2+40 * (m.left - 1)≤40 * m.left;omega,by show m.left≤m.left - 1+40 * 1;omega⟩
section
variable{I:Im}{n:Nat}(hI:I.OK){x:Fnc}(hx:x∈I.p.funcs){w kk a q F:Nat}{m:MS}{c:List Int}{av b:Int}{nu:Int}{nm:Str}(hq:q≤I.G)(hM:MR I c m)(hF:FR x F c m.frm)(hl:m.left≠0)
include hq hM hl
theorem qvt(hcd:Cd I.img I.lab a [.num qeE nu] q)(hU:U32 nu):EK I 2 (ms c av b (C:Int) (m.calls:Int) (a:Int) m.inp m.out) c C q m nu (dn m):=by
 obtain ⟨c1,c2,c3,c4⟩:=hcd.num Dc Dc;cases (show a+2=q from c3);exact .leaf rfl (qpe (hM.cell c1 O) (hM.cell c2 O)) hM hU hl
theorem qCp(hcd:Cd I.img I.lab a [.op qEd] q):OE I 2 0 (ms c av b (C:Int) (m.calls:Int) (a:Int) m.inp m.out) c C q m (qvC (dn m)):=by
 obtain ⟨c1,c3,c4⟩:=hcd.op;cases (show a+1=q from c3);have h:=qFo (a:=av) (b:=b) (C:=(C:Int)) (d:=(m.calls:Int)) (i:=m.inp) (o:=m.out) (hM.cell c1 O);unfold qvC;show OE I 2 0 _ c C _ m (match m.inp with|[]=>_|y::r=>_);cases hi:m.inp with
 | nil=>
  rw [hi] at h;exact ⟨1,c,b,.one rfl (by rw [h];exact congrArg (fun z=>ms c _ b _ _ _ z _) hi.symm),hM.dn,.refl,rfl,rfl,⟨by omega,by omega⟩,by show 1+2+40 * (m.left - 1)≤40 * m.left;omega,by show m.left≤m.left - 1+40 * 1;omega⟩
 | cons y r=>
  rw [hi] at h;have:=y.toNat_lt;exact ⟨1,c,b,.one rfl h,⟨hM.len,hM.code,hM.var,hM.arr,hM.calls,hM.out⟩,.refl,rfl,rfl,⟨by omega,by omega⟩,by show 1+2+40 * (m.left - 1)≤40 * m.left;omega,by show m.left≤m.left - 1+40 * 1;omega⟩
include hI hx hF
def Ez57{p:Prop} (h:p:=by
 have l1:=ql7 (q:=fun y:Str=>decide (nm=y)) (l:=x.params) (k:=0);have l2:=ql7 (q:=fun y:Str=>decide (nm=y)) (l:=x.locals) (k:=0);split
 · omega
 · split<;>omega):p:=h
theorem qxK(hcd:Cd I.img I.lab a [cN I.p x nm w] q)(hu:qeT I.p x (nm,2,0)=0)(hr:F+szF x+w≤65536):EK I 2 (ms c av b ((F+szF x+w:Nat):Int) (m.calls:Int) (a:Int) m.inp m.out) c (F+szF x+w) q m (qiI I.p x nm (dn m)) (dn m):=by
  obtain ⟨_,hnd⟩:=hI.fn x hx;have hs:=qqb (nm:=nm) hnd;unfold cN at hcd;rcases qkA hu Dc with ⟨h1,_⟩|⟨h1,h2|h2⟩
  · rw [if_pos h1] at hs
    rw [hs] at hcd;obtain ⟨c1,c2,c3,c4⟩:=hcd.num Dc Dc;cases (show a+2=q from c3);have hlt:(qa0 x nm).toNat < x.params.length+x.locals.length:=by
      unfold qa0 at h1 ⊢;exact Ez57
    have hv:=List.getElem?_eq_getElem (l:=m.frm) (i:=(qa0 x nm).toNat) (by rw [hF.len];exact hlt);obtain ⟨hU,hc⟩:=hF.at_ _ _ hv;have ha:=qn7 hlt;have he:qiI I.p x nm (dn m)=m.frm[(qa0 x nm).toNat]'(by rw [hF.len];exact hlt):=by
      rw [qiI,if_pos h1];show m.frm.getD _ 0=_;rw [List.getD_eq_getElem?_getD,hv];rfl
    rw [he];refine .leaf Z (qx6 (q:=F+adr x (qa0 x nm).toNat) (hM.cell c1 O) (hM.cell c2 O) ?_ hc) hM hU hl;unfold w32;omega
  · obtain ⟨i,g,h3,h4,h5,h6⟩:=h2
    rw [if_neg h1] at hs;rw [hs,h3] at hcd;obtain ⟨_,_,gu⟩:=hI.gk i g h5;have hgk:qqO I.p (i:Int)=g.kind:=qe3 h5;have he:qiI I.p x nm (dn m)=if g.kind=1 then g.num else m.glo.getD i 0:=by
      rw [qiI,if_neg h1,h4,Int.toNat_natCast,List.getD_eq_getElem?_getD,h5];rfl
    rw [he];rw [hgk] at hcd;by_cases hk:g.kind=1
    · rw [if_pos hk] at hcd ⊢
      rw [show gnI I.p (i:Int)=g.num by rw [gnI,Int.toNat_natCast,h5]] at hcd;exact qvt hq hM hl hcd gu
    · rw [if_neg hk] at hcd ⊢
      obtain ⟨c1,c2,c3,c4⟩:=hcd.ref;cases (show a+2=q from c3);obtain ⟨g1,g2,g3⟩:=hI.glo i g h5 hk;obtain ⟨v,v1,v2,v3⟩:=hM.var i g h5 O;have hv:m.glo.getD i 0=v:=by rw [List.getD_eq_getElem?_getD,v1];rfl
      rw [hv];rw [g1] at c2;exact .leaf rfl (qCN (hM.cell c1 O) (hM.cell c2 O) v3) hM v2 hl
  · exact absurd h2.1 Dc
end
section
variable{I:Im}{n:Nat}(hI:I.OK)(hO:OPK I.OP)(hE:PE I n)(hC:PC I n){x:Fnc}(hx:x∈I.p.funcs){lp w kk a q F:Nat}{m:MS}{c:List Int}{av b:Int}{o nu:Int}{nm:Str}{y z:Ex}(hq:q≤I.G)(hM:MR I c m)(hF:FR x F c m.frm)(hH:I.H≤F)(hl:m.left≠0)
include hE hx hM hF hH hl
theorem kid{β:Type}(hv:exV y=true)(hu:exU y=true)(hd:∀ nd∈ndX y lp,ndC I.p x nd=0){w' a' q' j D:Nat}{c':List Int}{av' b':Int}{s:Mst}(hcd:Cd I.img I.lab a' (cE I.p x y w' kk).1 q')(hq':q'≤I.G)(hM':MR I c' m)(hS:SK I c c' (F+szF x+w))(hw:w≤w')(hD:dX y+1≤D)(hr:F+szF x+w'+6 * dX y+120 * (100 - m.calls)≤65530)
  (R:Rch s j (ms c' av' b' ((F+szF x+w':Nat):Int) (m.calls:Int) (a':Int) m.inp m.out)) (hj:j≤40) {K:Int→MS→ER β} (X:ER β→Prop) (hX:X .out) (hFn:∀ m' st cd,FNo D s m m' st cd→X (.fin m' st cd))
  (hK:∀ v m2 k c2 b2,Rch s k (ms c2 v b2 ((F+szF x+w':Nat):Int) (m2.calls:Int) (q':Int) m2.inp m2.out)→MR I c2 m2→SK I c' c2 (F+szF x+w')→m2.frm=m.frm→m2.calls=m.calls→U32 v→k+42+40 * m2.left≤40 * m.left+j→m.left≤m2.left+40 * k+1→FR x F c2 m2.frm→1+j≤k+1→X (K v m2)):X (((sem I.p I.OP n).e x y (dn m)).and K):=by
 have hF':FR x F c' m.frm:=hF.keep hS hH O;refine OE.bind X hX hFn (hE x y lp w' kk a' q' (dn m) c' F av' b' hx hv hu hd hcd hq' hM'.dn hF' hH hr) R (by show j+40 * (m.left - 1)≤40 * m.left;omega) (δ:=1) (by show m.left≤m.left - 1+40 * j+1;omega) hD fun v m2 h=>?_;obtain ⟨k,c2,b2,R2,hM2,hS2,hf,hc,hU,k1,k2⟩:=h;have k1:k+2+40 * m2.left≤40 * (m.left - 1):=k1;have k2:m.left - 1≤m2.left+40 * k:=k2;have hf:m2.frm=m.frm:=hf;exact hK v m2 (j+k) c2 b2 (R.trans R2) hM2 hS2 hf hc hU O O (by rw [hf];exact hF'.keep hS2 hH O) O
variable{σ:Nat}
include hI hq
def qAQ{p:Prop} (h:p:=by
 rw [if_neg O] at hb;exact ⟨_,_,R.trans (.one rfl hb),rfl,rfl,fun _=>rfl,by omega,by omega,fun h=>absurd h Dc⟩):p:=h
theorem qsu(hv:exV y=true)(hu:exU y=true)(hd:∀ nd∈ndX y lp,ndC I.p x nd=0)(hn:qeT I.p x (nm,3,0)=0)(hcd:Cd I.img I.lab a ((cE I.p x y w kk).1++[.num qgi (gnI I.p (gi I.p nm)),.ref qmG (gT (gi I.p nm))]) q)(hσ:dX y+1≤σ)(hr:F+szF x+w+6 * dX y+120 * (100 - m.calls)≤65530):
    OE I 2 σ (ms c av b ((F+szF x+w:Nat):Int) (m.calls:Int) (a:Int) m.inp m.out) c (F+szF x+w) q m (((sem I.p I.OP n).e x y (dn m)).and fun i m=>if ((qes I.p nm m).length:Int)≤i then .fin m 1 1 else .ok ((qes I.p nm m).getD i.toNat 0) m):=by
  obtain ⟨q1,d1,d2⟩:=hcd.app;obtain ⟨c1,c2,c3,c4⟩:=d2.num Dc Dc;obtain ⟨c5,c6,c7,c8⟩:=Cd.ref c3;cases (show q1+2+2=q from c7);obtain ⟨_,h2⟩:=(qkA hn Dc).resolve_left (fun h=>by omega);obtain ⟨i,g,h3,h4,h5,h6⟩:=h2.resolve_right (fun h=>by omega);have hg3:=hI.gk i g h5;have hk:g.kind=3:=by omega
  obtain ⟨g1,g2,g3⟩:=hI.glo i g h5 O;refine kid (j:=0) (w':=w) (c':=c) hE hx hM hF hH hl hv hu hd d1 O hM .refl (Nat.le_refl _) hσ hr (.nil _) O (OE I 2 σ _ c _ _ m) Tt (fun _ _ _ h=>h) fun v m2 k c2' b2 R hM2 hS hf hc hU k1 k2 hF2 _=>?_;obtain ⟨l,l1,l2,l3⟩:=hM2.arr i g h5 hk;have ha:qes I.p nm m2=l:=by rw [qes,h4,Int.toNat_natCast,List.getD_eq_getElem?_getD,l1];rfl
  rw [h3,show gnI I.p (i:Int)=g.num by rw [gnI,Int.toNat_natCast,h5]] at c2;rw [h3,g1] at c6;have hb:=qpc (a:=v) (b:=b2) (C:=((F+szF x+w:Nat):Int)) (d:=(m2.calls:Int)) (i:=m2.inp) (o:=m2.out) (hM2.cell c1 O) (hM2.cell c2 O);show OE I 2 σ _ c _ _ m (if ((qes I.p nm m2).length:Int)≤v then _ else _);rw [ha];have hU:=hU;by_cases hv:(l.length:Int)≤v
  · rw [if_pos hv]
    exact qAQ
  · rw [if_neg hv]
    rw [if_pos O] at hb;obtain ⟨u1,u2⟩:=hU;have hlt:v.toNat < l.length:=by omega
    have hz:=List.getElem?_eq_getElem hlt;obtain ⟨z1,z2⟩:=l3 _ _ hz;have hfe:=qx5 (a:=v) (b:=1) (C:=((F+szF x+w:Nat):Int)) (d:=(m2.calls:Int)) (i:=m2.inp) (o:=m2.out) (q:=I.ga i+v.toNat) (p:=q1+2) (hM2.cell c5 O) (hM2.cell c6 O) (by have:=hI.top;unfold szG at g3;unfold w32;omega) z2;have hget:l.getD v.toNat 0=l[v.toNat]:=by rw [List.getD_eq_getElem?_getD,hz];rfl
    rw [hget];exact ⟨_,c2',_,(R.trans (.one rfl hb)).trans (.one rfl hfe),hM2,hS,hf,hc,z1,by omega,by omega⟩
end
end Go.Proofs.YtlfiplbamnpgoaaGreatDoor
