/- Part 8. -/
import Derived.Test.YtflplmcjbppfcaaGreatDoorQ38x7
import Derived.Lib.SliceRun
set_option linter.unusedVariables false
set_option linter.defProp false
set_option linter.unusedSimpArgs false
set_option linter.unnecessarySimpa false
set_option maxRecDepth 100000
set_option maxHeartbeats 8000000
namespace Go.Proofs.YtflplmcjbppfcaaGreatDoor
open Go.FL
attribute [local irreducible] JC JO JA JB qaZ qaL qb4 AC fill CellsAt QE Ev Mid
def qoF{p:Prg}{x:Fnc}{nm:Str}(h:(qaV p x nm).2=false):(qaV p x nm).1=(0,0):=by
 unfold qaV at h ⊢;split at h
 · cases h
 rename_i h1;rw [if_neg h1];split at h
 · cases h
 rename_i h2;rw [if_neg h2];split at h
 · cases h
 · rfl
def rnC(p:Prg)(x:Fnc)(r:RNd):Int:=if r.u=5 then (if r.loops=0 then 24 else 0) else qgp p x (r.name,r.u,r.count)
def qm7{u:Int}(h:1≤u∧u≤5):qus u=[108,101,97,118,101]↔u=5:=by
 have h5:u=1∨u=2∨u=3∨u=4∨u=5:=by omega
 rcases h5 with rfl|rfl|rfl|rfl|rfl
 · exact iff_of_false Dc Dc
 · exact iff_of_false Dc Dc
 · exact iff_of_false Dc Dc
 · exact iff_of_false Dc Dc
 · exact iff_of_true Dc rfl
def mean_0{p:Prg}{x:Fnc}{nm:Str}:(qaV p x nm).1.1=0↔(qaV p x nm).2=false:=by
  constructor
  · intro h
    cases h2:(qaV p x nm).2 with
    | false=>rfl
    | true=>
      rcases qfq h2 with h3|⟨h3,_⟩|⟨h3,_⟩
      · omega
      · omega
      · omega
  · intro h;rw [qoF h]
def qpR{u:Int}(h:1≤u∧u≤5)(h4:¬ u=4):¬ qus u=[99,97,108,108]:=by
 have h5:u=1∨u=2∨u=3∨u=5:=by omega
 rcases h5 with rfl|rfl|rfl|rfl<;>decide
def sgW:Str:=[115,101,116,32,103,101,116]
def qmj(gk mk:Int):Str:=if mk=4 then [99,97,108,108] else if mk=3 then (if gk=1 then [103,101,116] else if gk=2 then sgW else [105,116,101,109]) else sgW
def qla{gk u mk:Int}(hu:1≤u∧u≤4)(hm:1≤mk∧mk≤4)(hg:mk=3→1≤gk∧gk≤3):qus u∈splitB 32 (qmj gk mk)↔qg7 gk u mk:=by
  have h1:u=1∨u=2∨u=3∨u=4:=by omega
  have h2:mk=1∨mk=2∨mk=3∨mk=4:=by omega
  have e1:∀ g:Int,qmj g 1=sgW:=fun g=>rfl;have e2:∀ g:Int,qmj g 2=sgW:=fun g=>rfl;have e4:∀ g:Int,qmj g 4=[99,97,108,108]:=fun g=>rfl;rcases h2 with rfl|rfl|rfl|rfl
  · rw [e1];rcases h1 with rfl|rfl|rfl|rfl
    · exact iff_of_true Dc O
    · exact iff_of_true Dc O
    · exact iff_of_false Dc O
    · exact iff_of_false Dc O
  · rw [e2];rcases h1 with rfl|rfl|rfl|rfl
    · exact iff_of_true Dc O
    · exact iff_of_true Dc O
    · exact iff_of_false Dc O
    · exact iff_of_false Dc O
  · have hg:=hg rfl
    have h3:gk=1∨gk=2∨gk=3:=by omega
    rcases h3 with rfl|rfl|rfl<;>rcases h1 with rfl|rfl|rfl|rfl<;>decide
  · rw [e4];rcases h1 with rfl|rfl|rfl|rfl
    · exact iff_of_false Dc O
    · exact iff_of_false Dc O
    · exact iff_of_false Dc O
    · exact iff_of_true Dc O
def qvi(gk mk:Int):(qmj gk mk).length≤7:=by
  unfold qmj;by_cases h1:mk=4
  · rw [if_pos h1];decide
  rw [if_neg h1];by_cases h2:mk=3
  · rw [if_pos h2]
    by_cases h3:gk=1
    · rw [if_pos h3];decide
    rw [if_neg h3];by_cases h4:gk=2
    · rw [if_pos h4];decide
    · rw [if_neg h4];decide
  · rw [if_neg h2];decide
def qrr(D:Nat)(L:Hl)(s:World)(d:Nat)(p:Prg)(Ag Af:Option Addr)(ng cg nf cf:Nat)(hGl:Glos s Ag ng cg p.globals)(hFn:Fncs d s Af nf cf p.funcs)(hV:PV p)(f:Nat)(x:Fnc)(hx0:p.funcs[f]?=some x)(r:RNd)(hr:1≤r.u∧r.u≤5):AC Tryz.prog D 28 [.agg #[.slice Ag ng cg,.slice Af nf cf],.int .i64 (f:Int),.agg #[St r.name,St (qus r.u),.int .i64 r.count,.int .i64 r.loops]] L s fun v L' _=>v=.int .i64 (rnC p x r)∧L=L':=by
 have hn1:=hGl.1;have hn2:=hFn.1;refine qae (fn:=Tryz.f28) qav Tryz.func28 V Z Tryz.ntmps28 Z (rs:=[.tmp 6]) Z [(0,_),(1,_),(2,_)] Z<|Sr<|qay Z Z fun β1 s1 h1=>qay Z Z fun β2 s2 h2=>At Z Z<|Zs<|Sr<|Wb Y5<|Wl 0 Y6<|qad (qaz (v':=.bool (decide (r.u=5))) (qhB Z Z) (congrArg Value.bool (decide_eq_decide.2 (qm7 hr)))) Z<|Nt<|?_;have e2:=h1.t h2;refine qaa Z ?_ ?_<;>intro c3
 ·have g5:=c3;refine Zs<|Sr<|Wb Y5<|Wl 0 Y6<|qax Z Z Z<|Nt<|?_;refine qaa Z ?_ ?_<;>intro c4;·have hE:rnC p x r=24:=(if_pos g5).trans (if_pos c4);refine Sr<|At Z Z<|Zo<|Zu<|Zu<|?_;exact rR [_,_] L (.t1 Z) Z e2 fun _ hS2=>qck
  have hE:rnC p x r=0:=(if_pos g5).trans (if_neg c4);refine Zk<|Zt<|Sr<|At Z Z<|Zo<|Zu<|?_;exact rR [_,_] L (.t1 Z) Z e2 fun _ hS2=>qck
 have g5:=c3;have hu4:1≤r.u∧r.u≤4:=by omega
 have hE0:rnC p x r=qgp p x (r.name,r.u,r.count):=if_neg g5;have hn0:¬ r.u=0:=by omega
 refine Zk<|Zt<|Sr<|qad (qao 1 [_,_] Z Z Z Z Z) Z<|Zqm Z Z<|W0 Y5<|Wl 0 Y6<|Je Z Z Z (qoD D _ _ d p Ag Af ng cg nf cf (hGl.le e2) (hFn.le e2) f x hx0 r.name) fun s5 h5=>qag Z [_,_] Z Z fun β6 s6 h6=>Wt 0 [_,_] Y9<|Nt<|Zs<|Sr<|W0 Y5<|Wl 0 Y6<|qax Z Z Z<|Nt<|?_;have e6:=e2.t h5|>.t h6;refine qaa Z ?_ ?_<;>intro c7;·have hE:rnC p x r=12:=hE0.trans ((if_neg hn0).trans (if_pos (mean_0.1 c7)));refine Sr<|At Z Z<|Zo<|Zu<|?_;exact rR [_,_,_] L (.t1 Z) Z e6 fun _ hS2=>qck
 have g23:¬ (qaV p x r.name).2=false:=fun h=>c7 (mean_0.2 h);have hmk:=qfq (p:=p) (x:=x) (nm:=r.name) (by cases h9:(qaV p x r.name).2 with
   | false=>exact absurd h9 g23
   | true=>rfl)
 have hmk4:1≤(qaV p x r.name).1.1∧(qaV p x r.name).1.1≤4:=by omega
 have hg3:(qaV p x r.name).1.1=3→1≤qjE p (qaV p x r.name).1.2∧qjE p (qaV p x r.name).1.2≤3:=fun h=>by
   rcases hmk with q|⟨_,k,q1,q2⟩|⟨q,_⟩
   · omega
   · rw [q1,qej (List.getElem?_eq_getElem q2)]
     have:=qbY (hV.2.2.1 _ (List.getElem_mem q2)).1;exact ⟨this.1,this.2.1⟩
   · omega
 refine Zk<|Zt<|Sr<|At Z Z<|?_;refine qcH (γ:=Unit) (fun g=>[(8,St (qmj (qjE p (qaV p x r.name).1.2) (qaV p x r.name).1.1))]) [_,_,_] Z (fun g=>L) (fun g tw=>True) (fun _ _ _ h hl=>h) ?_ ?_
 ·refine Sr<|W0 Y5<|Wl 0 Y6<|qax Z Z Z<|Nt<|?_;refine qaa Z ?_ ?_<;>intro c9
  ·have hS8:[99,97,108,108]=qmj (qjE p (qaV p x r.name).1.2) (qaV p x r.name).1.1:=by rw [qmj,if_pos c9]
   refine Zr<|Zqa Z Z<|Zn<|?_;refine qab (MidG.mk () [] (Lr D) (.cons (congrArg (fun l:List UInt8=>some (St l)) As) (.nil _)) So Pr Tt)
  have g26:=c9;refine Sr<|W0 Y5<|Wl 0 Y6<|qax Z Z Z<|Nt<|?_;refine qaa Z ?_ ?_<;>intro c10
  ·have g29:=c10;obtain ⟨gi,hgi,hgl⟩:∃ k:Nat,(qaV p x r.name).1.2=(k:Int)∧k < p.globals.length:=by
     rcases hmk with q|⟨_,q⟩|⟨q,_⟩
     · omega
     · exact q
     · omega
   have hgn:gi < ng:=by omega
   obtain ⟨b,off,z,Ai,ni,ci,rfl,hz,hcz,hiz,huz,hnz⟩:=Glos.at_ (hGl.le e6) hgn;have hgk:=qej hz;have hgk3:z.kind=1∨z.kind=2∨z.kind=3:=by have:=hg3 g29;rw [hgi,hgk] at this;omega
   have hS8:(if z.kind=1 then [103,101,116] else if z.kind=2 then sgW else [105,116,101,109])=qmj (qjE p (qaV p x r.name).1.2) (qaV p x r.name).1.1:=by rw [qmj,if_neg g26,if_pos g29,hgi,hgk]
   refine Sr<|qa4 [(_,_),(_,_),(_,_)] [_,_,_] Z Z Z Z Z Z Z Z Z fun βu s11 h11 hcu=>At Z Z<|?_;rcases hgk3 with g3|g3|g3
   ·rw [if_pos g3] at hS8;refine Zr<|Zqm Z Z<|W0 Y5<|Wl 2 Y6<|Wb Y5<|Wl 0 Y6<|qad (qau (j:=gi) Z (show lk _ _=some (.int .i64 (gi:Int)) from by rw [← hgi];rfl) Z Z Z Z hgn) Z<|W0 Y5<|qad (qaq Z Z Z (hcz.le h11) Z) Z<|qad (qba (c:=((0:Nat):Int)) Z Z (by rw [w64 O O];omega)) Z<|qad (qau (j:=0) Z Z Z Z Z Z Dc) Z<|qad (qaF 0 Z Z Z (hcu.le (Lr D)) Z) Z<|Zqa Z Z<|Zn<|?_;refine qab (MidG.mk () [] h11 (.cons (congrArg (fun l:List UInt8=>some (St l)) As) (.nil _)) So Pr Tt)
   ·rw [if_neg O,if_pos g3] at hS8;rw [show sgW=[115,101,116,32,103,101,116] from rfl] at hS8;refine Zr<|Zqm Z Z<|W0 Y5<|Wl 2 Y6<|Wb Y5<|Wl 0 Y6<|qad (qau (j:=gi) Z (show lk _ _=some (.int .i64 (gi:Int)) from by rw [← hgi];rfl) Z Z Z Z hgn) Z<|W0 Y5<|qad (qaq Z Z Z (hcz.le h11) Z) Z<|qad (qba (c:=((1:Nat):Int)) Z Z (by rw [w64 O O];omega)) Z<|qad (qau (j:=1) Z Z Z Z Z Z Dc) Z<|qad (qaF 1 Z Z Z (hcu.le (Lr D)) Z) Z<|Zqa Z Z<|Zn<|?_;refine qab (MidG.mk () [] h11 (.cons (congrArg (fun l:List UInt8=>some (St l)) As) (.nil _)) So Pr Tt)
   rw [if_neg O,if_neg O] at hS8;refine Zr<|Zqm Z Z<|W0 Y5<|Wl 2 Y6<|Wb Y5<|Wl 0 Y6<|qad (qau (j:=gi) Z (show lk _ _=some (.int .i64 (gi:Int)) from by rw [← hgi];rfl) Z Z Z Z hgn) Z<|W0 Y5<|qad (qaq Z Z Z (hcz.le h11) Z) Z<|qad (qba (c:=((2:Nat):Int)) Z Z (by rw [w64 O O];omega)) Z<|qad (qau (j:=2) Z Z Z Z Z Z Dc) Z<|qad (qaF 2 Z Z Z (hcu.le (Lr D)) Z) Z<|Zqa Z Z<|Zn<|?_;refine qab (MidG.mk () [] h11 (.cons (congrArg (fun l:List UInt8=>some (St l)) As) (.nil _)) So Pr Tt)
  have hS8:sgW=qmj (qjE p (qaV p x r.name).1.2) (qaV p x r.name).1.1:=by rw [qmj,if_neg g26,if_neg c10]
  refine Zk ?_;refine qab (MidG.mk () [] (Lr D) (.cons (congrArg (fun l:List UInt8=>some (St l)) As) (.nil _)) So Pr Tt)
 intro g s8 h8 I8;have e8:=e6.t h8;simp only [cQ9,nQ9];refine Zs<|Zs<|qaJ qac 6 Z _ (fun _ h=>h) fun s12 h12=>za 0 Z (qan Z) Z<|za 2 Z (We Y4) Z<|za 3 Z (Wd 1 Y5) Z<|qar 1 V<|Jb Z Tt Z Z Z (qiL D _ _ _ 32 (by have:=qvi (qjE p (qaV p x r.name).1.2) (qaV p x r.name).1.1;omega)) ?_;have e12:=e8.t h12;rintro _ _ s13 h13 ⟨rfl,Asq9,ns,cs,rfl,hSs⟩;have e13:=e12.t h13;refine ⟨fun _ _ h=>h,?_⟩;refine qar 4 V<|Jf Z Tt Z Z Z (qfw D _ _ Asq9 ns cs _ (hSs.le (Lr D)) (qus r.u)) fun s14 h14=>za 5 Z (qnp Z Z) Z<|qaf V<|Zt ?_;have e14:=e13.t h14;refine qaa Z ?_ ?_<;>intro c15;·have g47:¬ qg7 (qjE p (qaV p x r.name).1.2) r.u (qaV p x r.name).1.1:=fun h=>absurd c15 (Int.not_lt.2 ((idxOf_mem (k:=0)).2 ((qla hu4 hmk4 hg3).2 h)));have hE:rnC p x r=13:=hE0.trans ((if_neg hn0).trans ((if_neg g23).trans (if_pos g47)));refine Sr<|At Z Z<|Zo<|Zu<|?_;exact rR [_,_,_] L (.t1 Z) Z e14 fun _ hS2=>qck
 have g47:qg7 (qjE p (qaV p x r.name).1.2) r.u (qaV p x r.name).1.1:=(qla hu4 hmk4 hg3).1 ((idxOf_mem (k:=0)).1 (Int.not_lt.1 c15));refine Zk<|Zt<|Zs<|Zs<|?_;rcases Classical.em (r.u=4) with g4|g4
 ·obtain ⟨j,hj,hjn⟩:∃ j:Nat,(qaV p x r.name).1.2=(j:Int)∧j < p.funcs.length:=by
    rcases hmk with q|⟨q,_⟩|⟨_,q⟩
    · exfalso;have:=g47;omega
    · exfalso;have:=g47;omega
    · exact q
  have hjf:j < nf:=by omega
  obtain ⟨b2,off2,z2,D1,t1,w1,D2,t2,w2,D3,t3,w3,rfl,hz2,hcy,hpz,hlz,hbz,hzl⟩:=Fncs.at_ (hFn.le e14) hjf;have hm9:=hpz.1;have hpar:=qkG hj hz2;refine qaJ qac 16 Z _ (fun _ h=>h) fun s16 h16=>za 0 Z (We Y4) Z<|za 1 Z (Wd 1 Y5) Z<|za 2 Z (qaz (v':=.bool true) (qhB Z Z) (bT (by rw [g4];rfl))) Z<|za 3 Z (qan Z) Z<|zg 4 Z ⟨_,Z,Z⟩ (We Y4) Z<|zg 5 Z ⟨_,Z,Z⟩ (Wd 2 Y5) Z<|zg 6 Z ⟨_,Z,Z⟩ (We Y4) Z<|zg 7 Z ⟨_,Z,Z⟩ (Wd 0 Y5) Z<|zg 8 Z ⟨_,Z,Z⟩ (qau (j:=j) Z (show lk _ _=some (.int .i64 (j:Int)) from by rw [← hj];rfl) Z Z Z Z hjf) Z<|zg 9 Z ⟨_,Z,Z⟩ (qbm Z Z Z Z) Z<|zg 10 Z ⟨_,Z,Z⟩ (qaF 1 Z Z Z (hcy.le h16) Z) Z<|zg 11 Z ⟨_,Z,Z⟩ (qbi Z Z Z) Z ?_;refine zg 12 Z ⟨_,Z,Z⟩ (We Y4) Z<|zg 13 Z ⟨_,Z,Z⟩ (Wd 1 Y5) Z<|zg 14 Z ⟨_,Z,Z⟩ (qhr Z Z) Z<|za 15 Z (qdn Z Z) Z<|qaf V<|Zt ?_;refine qaM Z ?_ ?_<;>intro c17;·have hE:rnC p x r=9:=hE0.trans ((if_neg hn0).trans ((if_neg g23).trans ((if_neg (fun h=>h g47)).trans (if_pos ⟨g4,by show r.count≠((qzu p (qaV p x r.name).1.2:Nat):Int);rw [hpar];have:=c17;omega⟩))));refine Sr<|At Z Z<|Zo<|Zu<|?_;exact rR [_,_,_] L (.t1 Z) Z (e14.t h16) fun _ hS2=>qck
  have hE:rnC p x r=0:=hE0.trans ((if_neg hn0).trans ((if_neg g23).trans ((if_neg (fun h=>h g47)).trans (if_neg (fun h=>h.2 (by show r.count=((qzu p (qaV p x r.name).1.2:Nat):Int);rw [hpar];have:=c17;omega))))));refine Zk<|Zt<|Sr<|At Z Z<|Zo<|?_;exact rR [_,_,_] L (.t1 Z) Z (e14.t h16) fun _ hS2=>qck
 refine qaJ qac 16 Z _ (fun _ h=>h) fun s18 h18=>za 0 Z (We Y4) Z<|za 1 Z (Wd 1 Y5) Z<|za 2 Z (qaz (v':=.bool false) (qhB Z Z) (bZ (qpR hr g4))) Z<|za 3 Z (qan Z) Z<|zn 4 Z Z Z Z Z<|zn 5 Z Z Z Z Z<|zn 6 Z Z Z Z Z<|zn 7 Z Z Z Z Z<|zn 8 Z Z Z Z Z<|zn 9 Z Z Z Z Z<|zn 10 Z Z Z Z Z<|zn 11 Z Z Z Z Z<|zn 12 Z Z Z Z Z<|zn 13 Z Z Z Z Z<|zn 14 Z Z Z Z Z<|za 15 Z (qdm Z Z) Z<|qaf V<|Zt<|Zz Z<|?_;have hE:rnC p x r=0:=hE0.trans ((if_neg hn0).trans ((if_neg g23).trans ((if_neg (fun h=>h g47)).trans (if_neg (fun h=>g4 h.1)))));refine Zk<|Zt<|Sr<|At Z Z<|Zo<|?_;exact rR [_,_,_] L (.t1 Z) Z (e14.t h18) fun _ hS2=>qck
def qrE:qh5 Tryz.prog 25:=AC.ok (qfw 0 [] default none 0 0 [] ⟨rfl,Nat.zero_le _,by omega,fun i x h=>by cases h⟩ [])
def qfv(D:Nat)(X L:Hl)(s:World)(M:Hl)(A:Option Addr)(n c:Nat)(l:List Str)(hO:FL.Own 9 1 M (.slice A n c) n (sb l))(hu:∀ x∈l,x.length≤9223372036854775807)(hn:n=l.length)(w:Str):AC Tryz.prog D 25 [.slice A n c,St w] (X++(M++L)) s fun v L' _=>v=.int .i64 (qbt (fun x=>decide (w=x)) l 0)∧L'=X++(M++L):=
 AC.perm (List.perm_append_comm_assoc ..) (AC.lend M (qud hO) qrE fun ho=>qfw D (X++L) _ A n c l (Own.strs hO hu (qo5 ho) hn) w) fun v L1 s1 ⟨g0,g1⟩=>⟨_,by rw [← g1];exact List.perm_append_comm_assoc ..,g0,rfl⟩
def bdR(p:Prg)(x:Fnc):List RNd→Int
 | []=>0
 | r::l=>if rnC p x r=0 then bdR p x l else rnC p x r
def qtT{p:Prg}{x:Fnc}{l:List RNd}{k:Nat}{r:RNd}(h:l[k]?=some r):bdR p x (l.drop k)=if rnC p x r=0 then bdR p x (l.drop (k+1)) else rnC p x r:=by
 obtain ⟨hk,rfl⟩:=List.getElem?_eq_some_iff.1 h;rw [List.drop_eq_getElem_cons hk,bdR]
def okN:Nd→Prop
 | .st y _=>y.kind≤10
 | .ex _ _=>True
def qBc:∀ (l:List Ex) (lp:Nat),∀ nd∈qea l lp,okN nd
  | [],_=>fun nd h=>by cases h
  | .mk k o n nm ar::r,lp=>fun nd h=>by
    rw [qea,ndX] at h;rcases List.mem_append.1 h with h|h
    · rcases List.mem_cons.1 h with rfl|h
      · trivial
      · exact qBc ar lp nd h
    · exact qBc r lp nd h
def qAm:∀ (l:List Stm) (lp lv:Nat),qdP l lv=true→∀ nd∈qcG l lp,okN nd
  | [],_,_,_=>fun nd h=>by cases h
  | .mk k nm es b e::r,lp,lv,hv=>fun nd h=>by
    have hv1:stV (.mk k nm es b e) lv=true:=(qfE hv (k:=0) rfl).1;have hv2:qdP r lv=true:=by
      have:=hv;rw [qdP,Bool.and_eq_true] at this;exact this.2
    obtain ⟨_,hc,_,hb,he⟩:=qdL hv1;rw [qcG,ndS] at h;rcases List.mem_append.1 h with h|h
    · rcases List.mem_cons.1 h with rfl|h
      · exact (qcx hc).2.1
      · rcases List.mem_append.1 h with h|h
        · exact qBc es lp nd h
        · rcases List.mem_append.1 h with h|h
          · exact qAm b _ _ hb nd h
          · exact qAm e _ _ he nd h
    · exact qAm r lp lv hv2 nd h
def qmd{p:Prg}{x:Fnc}{nm:Str}{u c c':Int}(h:u≠4):qgp p x (nm,u,c)=qgp p x (nm,u,c'):=by
 unfold qgp;simp only [h,false_and,if_false]
def qA9{p:Prg}{x:Fnc}{nd:Nd}(h:okN nd):(ndR nd=[]∧ndC p x nd=0)∨∃ r,ndR nd=[r]∧ndC p x nd=rnC p x r:=by
  cases nd with
  | ex y lp=>
    by_cases h1:2≤y.kind∧y.kind≤4
    · refine .inr ⟨_,by rw [ndR,if_pos h1],?_⟩
      rw [ndC,rnC,if_neg Oz];have h2:y.kind=2∨y.kind=3∨y.kind=4:=by omega
      rcases h2 with h2|h2|h2
      · rw [qfO,if_pos h2];simp only [h2];exact qmd Dc
      · rw [qfO,if_neg O,if_pos h2];simp only [h2];exact qmd Dc
      · rw [qfO,if_neg O,if_neg O,if_pos h2];simp only [h2]
    · refine .inl ⟨by rw [ndR,if_neg h1],?_⟩
      rw [ndC,qfO,if_neg O,if_neg O,if_neg O,qgp,if_pos rfl]
  | st y lp=>
    have hk:y.kind≤10:=h;by_cases h1:y.kind=1
    · refine .inr ⟨_,by rw [ndR,if_pos h1],?_⟩
      rw [ndC,if_neg O,rnC,if_neg (by simp),qfK,if_pos h1]
    by_cases h2:y.kind=2
    · refine .inr ⟨_,by rw [ndR,if_neg h1,if_pos h2],?_⟩
      rw [ndC,if_neg O,rnC,if_neg (by simp),qfK,if_neg h1,if_pos h2]
    by_cases h5:y.kind=5
    · refine .inr ⟨_,by rw [ndR,if_neg h1,if_neg h2,if_pos h5],?_⟩
      rw [ndC,if_neg O,rnC,if_neg (by simp),qfK,if_neg h1,if_neg h2,if_pos h5]
    by_cases h8:8 < y.kind
    · refine .inr ⟨_,by rw [ndR,if_neg h1,if_neg h2,if_neg h5,if_pos h8],?_⟩
      rw [ndC,rnC,if_pos rfl];by_cases h0:lp=0
      · rw [if_pos ⟨by omega,h0⟩,if_pos Oz]
      · rw [if_neg (fun q=>h0 q.2),if_neg Oz,qfK,if_neg h1,if_neg h2,if_neg h5,qgp,if_pos rfl]
    · refine .inl ⟨by rw [ndR,if_neg h1,if_neg h2,if_neg h5,if_neg h8],?_⟩
      rw [ndC,if_neg O,qfK,if_neg h1,if_neg h2,if_neg h5,qgp,if_pos rfl]
def qtU{p:Prg}{x:Fnc}:∀ {l:List Nd},(∀ nd∈l,okN nd)→bdR p x (l.flatMap ndR)=qgu p x l
  | [],_=>rfl
  | n::r,h=>by
    have ih:=qtU (p:=p) (x:=x) (l:=r) fun nd hn=>h nd (List.mem_cons_of_mem _ hn);rw [List.flatMap_cons,qgu];rcases qA9 (p:=p) (x:=x) (h n Mc) with ⟨h1,h2⟩|⟨q,h1,h2⟩
    · rw [h1,h2,if_pos rfl];exact ih
    · rw [h1,h2]
      show bdR p x (q::List.flatMap ndR r)=_;rw [bdR,ih]
def qpe{p:Prg}{x:Fnc}{lv:Nat}(h:qdP x.body lv=true):bdR p x (rss x.body 0)=qgu p x (qcG x.body 0):=qtU (qAm x.body 0 lv h)
def qBa{nd:Nd}{r:RNd}(h:r∈ndR nd):1≤r.u∧r.u≤5:=by
 cases nd with
 | ex y lp=>
  by_cases h1:2≤y.kind∧y.kind≤4
  · rw [ndR,if_pos h1,List.mem_singleton] at h;subst h;simp only;omega
  · rw [ndR,if_neg h1] at h;cases h
 | st y lp=>
  rw [ndR] at h;by_cases h1:y.kind=1
  · rw [if_pos h1,List.mem_singleton] at h;subst h;exact ⟨show (1:Int)≤1 by decide,show (1:Int)≤5 by decide⟩
  rw [if_neg h1] at h;by_cases h2:y.kind=2
  · rw [if_pos h2,List.mem_singleton] at h;subst h;exact ⟨show (1:Int)≤3 by decide,show (3:Int)≤5 by decide⟩
  rw [if_neg h2] at h;by_cases h5:y.kind=5
  · rw [if_pos h5,List.mem_singleton] at h;subst h;exact ⟨show (1:Int)≤4 by decide,show (4:Int)≤5 by decide⟩
  rw [if_neg h5] at h;by_cases h8:8 < y.kind
  · rw [if_pos h8,List.mem_singleton] at h;subst h;exact ⟨show (1:Int)≤5 by decide,show (5:Int)≤5 by decide⟩
  · rw [if_neg h8] at h;cases h
def qBl{l:List Stm}{lp:Nat}{r:RNd}(h:r∈rss l lp):1≤r.u∧r.u≤5:=by
 obtain ⟨nd,_,h1⟩:=List.mem_flatMap.1 h;exact qBa h1
def qwc(D:Nat)(L:Hl)(s:World)(d:Nat)(p:Prg)(Ag Af:Option Addr)(ng cg nf cf:Nat)(hGl:Glos s Ag ng cg p.globals)(hFn:Fncs d s Af nf cf p.funcs):AC Tryz.prog D 7 [.agg #[.slice Ag ng cg,.slice Af nf cf]] L s fun v L' _=>v=.agg #[.int .i64 (qcv p).1,.int .i64 (qcv p).2]∧L=L':=by
 have hn1:=hGl.1;have hn2:=hFn.1;have hU:prU p:=⟨hGl.u,hFn.u⟩;refine qae (fn:=Tryz.f7) qav Tryz.func7 V Z Tryz.ntmps7 Z (rs:=[.cell 2 27]) Z [(0,_)] Z<|Sr<|qay Z Z fun β1 s1 h1=>qag Z [_,_] Z Z fun β2 s2 h2=>Nt<|Sr<|qad (qao 1 [_,_] Z Z Z Z Z) Z<|Je Z Z Z (qrM D _ _ d p Ag Af ng cg nf cf (hGl.le (h1.t h2)) (hFn.le (h1.t h2))) fun s3 h3=>qag Z [_,_] Z Z fun β4 s4 h4=>Wt 0 [_,_] Y9<|Nt<|Zs<|Sr<|W0 Y5<|Wl 0 Y6<|qcb Z Z Z<|Nt<|?_;have e4:=h1.t h2|>.t h3|>.t h4;refine qaM Z ?_ ?_<;>intro c5;·have hE:qcv p=qf2 p:=if_pos c5;refine Sr<|qad (qao 0 [_,_] Z Z Z Z Z) Z<|Wt 1 [_,_] Y9<|Nt<|Zo<|Zu<|?_;exact rR [_,_,_] L (.agg (us:=[_,_]) 1 Z Z Z Z Z (.nil)) Z e4 fun _ hS2=>qck
 have g14:¬ (qf2 p).1≠0:=fun h=>h c5;have hz0:=qo4 c5;have hV:=PV.of hU (qfy c5);have hV1:=hV.1;have hV2:=hV.2.1;have hVf:=hV.2.2.2.1;obtain ⟨hN1,hNF⟩:=qlM hV;refine Zk<|Zt<|Sr<|At Z Z<|Zs<|Sr<|At Z Z<|Zp<|?_;refine qaA (γ:=Nat×Value×Hl) (fun g=>[(1,_),(2,_),(3,_),(4,g.2.1),(5,.int .i64 (g.1:Int))]) (fun g=>_::_::_::(g.2.2++L)) (fun g tw=>Le D s4 tw∧(g.1≤ng∧FL.Own 9 1 g.2.2 g.2.1 g.1 (sb ((p.globals.take g.1).map Glo.name))∧qgC p.globals [] 0=qgC (p.globals.drop g.1) ((p.globals.take g.1).map Glo.name) g.1)) (fun g=>ng - g.1) (fun _ _ _ h hl=>⟨h.1.trans hl,h.2⟩) (0,.slice none 0 0,[]) (.c5 Z Z Z Z Z (.nil _)) Z ⟨Le.refl _,⟨Nat.zero_le _,Own.nil,Z⟩⟩ ?_;intro g s6 I6;have e6:=e4.t I6.1;obtain ⟨k,vo,Mo⟩:=g;obtain ⟨hk0,hO,hS⟩:=I6.2;simp only at hk0 hO hS;dsimp only;obtain ⟨Av,cv,rfl,hv1,hv2⟩:=Own.slice hO;refine Zs<|Sr<|Zqm Z Z<|W0 Y5<|Wl 2 Y6<|Ws Y4<|qa8 Z Z Z<|Nt<|?_;refine qaa Z ?_ ?_<;>intro c7
 ·have hk:k < ng:=by omega
  obtain ⟨b,off,x,Ai,ni,ci,rfl,hx,hcx,hix,hux,hnl⟩:=Glos.at_ (hGl.le e6) hk;refine Zk<|Zt<|Zs<|Zp<|Zs<|Sr<|Zqm Z Z<|W0 Y5<|Wl 2 Y6<|Zqm Z Z<|qad (qau Z Z Z Z Z Z hk) Z<|qad (qbm Z Z Z Z) Z<|qad (qaF 1 Z Z Z (hcx.le (Lr D)) Z) Z<|Jc Z Z Z (qfv D [_,_,_] L _ Mo Av k cv _ hO (fun w hw=>hN1 w (by rw [List.map_take] at hw;exact List.mem_of_mem_take hw)) (by rw [List.length_map,List.length_take];omega) x.name) ?_;rintro _ _ s8 h8 ⟨rfl,rfl⟩;simp only [cQ9,nQ9];refine qhn Z Z Z<|Nt<|?_;refine qaa Z ?_ ?_<;>intro c9
  ·have hi9:=(idxOf_mem (k:=0)).1 c9;have q9:qgC p.globals [] 0=(8,(k:Int)):=by rw [hS,qiy hx,if_pos hi9]
   have hE9:qb2 p=(8,(k:Int)):=by rw [nF_g (by rw [q9];simp),q9]
   have hE:qcv p=(8,(k:Int)):=by rw [qcv,if_neg g14,if_pos (by rw [hE9];simp),hE9]
   refine Sr<|Zqm Z Z<|Je Z Z Z (qee D _ _ _ _) fun s10 h10=>Wt 1 [_,_] Y9<|Nt<|Zo<|Zu<|Zc<|Zu<|Zu<|Zc<|Zu<|?_;exact rR (_::_::_::Mo) L (.agg (us:=[_,_]) 1 Z Z Z Z Z (.nil)) Z (e6.t h8|>.t h10) fun _ hS2=>qck
  have hz:=fun q=>c9 ((idxOf_mem (k:=0)).2 q);refine Zk<|Zt<|Zr<|Zqm Z Z<|W0 Y5<|Wl 2 Y6<|Zqm Z Z<|qad (qau Z Z Z Z Z Z hk) Z<|qad (qbm Z Z Z Z) Z<|qad (qaF 1 Z Z Z (hcx.le h8) Z) Z<|qa4 [(_,_)] [_] Z Z Z Z Z Z Z Z Z fun βn s11 h11 hcb=>qbq (sz:=1) [_,_,_] Mo L Z Z Z Z Z Z Z hO (Row.of_cells (hcb.le (Lr D)) Z Z) ⟨by simp [ti9];omega,by omega⟩ Z ?_;intro vq Mq s12 h12 oq;obtain ⟨Avq,cvq,rfl,_,_⟩:=Own.slice oq;simp only [cQ9,nQ9];refine Zqa Z Z<|Zn<|Zb<|Zt<|Zr<|Zqm Z Z<|qaD Z Z Z (w64 O O)<|Zqa Z Z<|Zn<|?_;refine qab ⟨(k+1,.slice Avq (k+1) cvq,Mq),[],kp,Z,⟨(I6.1.t h8|>.t h11|>.t h12),⟨by simp only;omega,by rw [qaS Glo.name hx,qcK];exact oq,by simp only;rw [hS,qiy hx,if_neg hz,qaS Glo.name hx]⟩⟩,Oz⟩
 obtain rfl:ng=k:=by omega
 rw [List.drop_eq_nil_of_le O,qgC] at hS;rw [List.take_of_length_le O] at hO;refine Zl<|Zv<|Zv<|Zd<|Zt<|Zs<|Sr<|At Z Z<|Zp<|?_;refine qaA (γ:=Nat×Value×Hl) (fun g=>[(1,_),(2,_),(3,_),(4,g.2.1),(6,.int .i64 (g.1:Int))]) (fun g=>_::_::_::(g.2.2++L)) (fun g tw=>Le D s6 tw∧(g.1≤nf∧FL.Own 9 1 g.2.2 g.2.1 (ng+g.1) (sb (p.globals.map Glo.name++(p.funcs.take g.1).map Fnc.name))∧qgn p.funcs (p.globals.map Glo.name) p.globals.length=qgn (p.funcs.drop g.1) (p.globals.map Glo.name++(p.funcs.take g.1).map Fnc.name) (p.globals.length+g.1))) (fun g=>nf - g.1) (fun _ _ _ h hl=>⟨h.1.trans hl,h.2⟩) (0,.slice Av ng cv,Mo) (.c5 Z Z Z Z Z (.nil _)) Z ⟨Le.refl _,⟨Nat.zero_le _,by simpa using hO,by simp⟩⟩ ?_;intro g s13 I13;have e13:=e6.t I13.1;obtain ⟨k,vo,Mo⟩:=g;obtain ⟨hk0,hO,hSf⟩:=I13.2;simp only at hk0 hO hSf;dsimp only;obtain ⟨Av,cv,rfl,hv1,hv2⟩:=Own.slice hO;refine Zs<|Sr<|Zqm Z Z<|Wb Y5<|Wl 2 Y6<|Ws Y4<|qa8 Z Z Z<|Nt<|?_;refine qaa Z ?_ ?_<;>intro c14
 ·have hk:k < nf:=by omega
  obtain ⟨b,off,x,B1,m1,d1,B2,m2,d2,B3,m3,d3,rfl,hx,hcx,hpx,hlx,hbx,hnl⟩:=Fncs.at_ (hFn.le e13) hk;have hfx:=hVf x (List.mem_of_getElem? hx);obtain ⟨hi1,hi2,hi3,hi4,hi5,hi6⟩:=hfx;have hp9:=hpx.1;have hl9:=hlx.1;refine Zk<|Zt<|Zs<|Zp<|Sr<|Wb Y5<|Wl 2 Y6<|Zqm Z Z<|qad (qau Z Z Z Z Z Z hk) Z<|qad (qaw Z Z Z (hcx.le (Lr D)) Z) Z<|qag Z [_,_,_,_] Z Z fun β15 s15 h15=>Wt 0 [_,_,_,_] Y9<|Nt<|Zs<|Sr<|Zqm Z Z<|W0 Y5<|Wl 0 Y6<|Jc Z Z Z (qfv D [_,_,_,_] L _ Mo Av (ng+k) cv _ hO (fun w hw=>(List.mem_append.1 hw).elim (hN1 w) (fun hw=>hNF w (by rw [List.map_take] at hw;exact List.mem_of_mem_take hw))) (by rw [List.length_append,List.length_map,List.length_map,List.length_take];omega) x.name) ?_;rintro _ _ s16 h16 ⟨rfl,rfl⟩;have e16:=e13.t h15|>.t h16;simp only [cQ9,nQ9];refine qhn Z Z Z<|Nt<|?_;refine qaa Z ?_ ?_<;>intro c17
  ·have hi9:=(idxOf_mem (k:=0)).1 c17;have q9:qgn p.funcs (p.globals.map Glo.name) p.globals.length=(8,((ng+k:Nat):Int)):=by rw [hSf,qe2 hx,if_pos (.inl hi9),hn1]
   have hE9:qb2 p=(8,((ng+k:Nat):Int)):=by rw [qAl hS (by rw [q9];simp),q9]
   have hE:qcv p=(8,((ng+k:Nat):Int)):=by rw [qcv,if_neg g14,if_pos (by rw [hE9];simp),hE9]
   refine Sr<|W0 Y5<|Wl 3 Y6<|Ws Y4<|Zqm Z Z<|qad (qaC Z Z (show IntKind.i64.wrap ((ng:Int)+(k:Int))=((ng+k:Nat):Int) by rw [w64 O O];simp)) Z<|Je Z Z Z (qee D _ _ _ _) fun s18 h18=>Wt 2 [_,_] Y9<|Nt<|Zo<|Zu<|Zc<|Zu<|Zu<|Zc<|Zu<|?_;exact rR (_::_::_::_::Mo) L (.agg (us:=[_,_]) 2 Z Z Z Z Z (.nil)) Z (e16.t h18) fun _ hS2=>qck
  have hz:=fun q=>c17 ((idxOf_mem (k:=0)).2 q);refine Zk<|Zt<|Sr<|Zqm Z Z<|W0 Y5<|Wl 0 Y6<|qa4 [(_,_)] [_] Z Z Z Z Z Z Z Z Z fun βn s19 h19 hcb=>qbq (sz:=1) [_,_,_,_] Mo L Z Z Z Z Z Z Z hO (Row.of_cells (hcb.le (Lr D)) Z Z) ⟨by simp [ti9];omega,by omega⟩ Z ?_;intro vq Mq s20 h20 oq;have e20:=h15.t h16|>.t h19|>.t h20;obtain ⟨Avq,cvq,rfl,_,_⟩:=Own.slice oq;simp only [cQ9,nQ9];refine At Z Z<|Sr<|At Z Z<|Sr<|At Z Z<|Zp<|?_;refine qaA (γ:=Nat×Value×Hl) (fun g=>[(1,_),(2,_),(3,_),(4,_),(6,_),(7,_),(8,g.2.1),(9,.int .i64 (g.1:Int))]) (fun g=>_::_::_::_::(g.2.2++(Mq++L))) (fun g tw=>Le D s20 tw∧(g.1≤m1+m2∧FL.Own 9 1 g.2.2 g.2.1 g.1 (sb ((x.params++x.locals).take g.1))∧((x.params++x.locals).take g.1).Nodup)) (fun g=>m1+m2 - g.1) (fun _ _ _ h hl=>⟨h.1.trans hl,h.2⟩) (0,.slice none 0 0,[]) (.c6 Z Z Z Z Z Z (.c2 Z Z (.nil _))) Z ⟨Le.refl _,⟨Nat.zero_le _,Own.nil,by simp⟩⟩ ?_;intro g s21 I21;have e21:=e16.t h19|>.t h20|>.t I21.1;obtain ⟨j,vo2,M2⟩:=g;obtain ⟨hj0,hO2,hN2⟩:=I21.2;simp only at hj0 hO2 hN2;dsimp only;obtain ⟨Av2,cv2,rfl,_,_⟩:=Own.slice hO2;refine Zs<|Sr<|Zqm Z Z<|Wb Y5<|Wl 0 Y6<|Ws Y4<|Wb Y5<|Wl 0 Y6<|Ws Y4<|qaD Z Z Z (w64 O O)<|qa8 Z Z Z<|Nt<|?_;refine qaa Z ?_ ?_<;>intro c22
  ·have hj:j < m1+m2:=by omega
   obtain ⟨w8,hws⟩:∃ w,(x.params++x.locals)[j]?=some w:=⟨_,List.getElem?_eq_getElem (by rw [List.length_append];omega)⟩;refine Zk<|Zt<|Zs<|Zp<|Sr<|At Z Z<|Zs<|Sr<|Zqm Z Z<|Wb Y5<|Wl 0 Y6<|Ws Y4<|qa8 Z Z Z<|Nt<|?_;refine qaa Z ?_ ?_<;>intro c23
   ·have hjm:j < m1:=by omega
    obtain ⟨b2,off2,w9,rfl,hw9,hcw,hw8⟩:=Strs.at_ (hpx.le (e20.t I21.1)) hjm;obtain rfl:w9=w8:=by rw [List.getElem?_append_left O,hw9] at hws;injection hws
    refine Zr<|Wb Y5<|Wl 0 Y6<|Zqm Z Z<|qad (qaU Z Z Z Z Z Z hjm) Z<|qad (qaq Z Z Z (hcw.le (Lr D)) Z) Z<|At Z Z<|Zs<|Sr<|Zqm Z Z<|Zqm Z Z<|Jc Z Z Z (qfv D [_,_,_,_] (Mq++L) _ M2 Av2 _ cv2 _ hO2 (fun w hw=>by have:=qbG (hi4 w (List.mem_of_mem_take hw));omega) (by rw [List.length_take,List.length_append];omega) w9) ?_;rintro _ _ s24 h24 ⟨rfl,rfl⟩;simp only [cQ9,nQ9];refine qhn Z Z Z<|Nt<|?_;refine qaa Z ?_ ?_<;>intro c25
    ·have hi9:=(idxOf_mem (k:=0)).1 c25;have q9:qgn p.funcs (p.globals.map Glo.name) p.globals.length=(8,((ng+k:Nat):Int)):=by rw [hSf,qe2 hx,if_pos (.inr (qdB hws hi9)),hn1]
     have hE9:qb2 p=(8,((ng+k:Nat):Int)):=by rw [qAl hS (by rw [q9];simp),q9]
     have hE:qcv p=(8,((ng+k:Nat):Int)):=by rw [qcv,if_neg g14,if_pos (by rw [hE9];simp),hE9]
     rw [show M2++(Mq++L)=(M2++Mq)++L from (List.append_assoc ..).symm];refine Sr<|W0 Y5<|Wl 3 Y6<|Ws Y4<|Zqm Z Z<|qad (qaC Z Z (show IntKind.i64.wrap ((ng:Int)+(k:Int))=((ng+k:Nat):Int) by rw [w64 O O];simp)) Z<|Je Z Z Z (qee D _ _ _ _) fun s26 h26=>Wt 2 [_,_] Y9<|Nt<|Zo<|Zu<|Zc<|Zu<|Zu<|Zc<|Zc<|Zu<|Zu<|Zc<|Zu ?_;exact rR (_::_::_::_::(M2++Mq)) L (.agg (us:=[_,_]) 2 Z Z Z Z Z (.nil)) Z (e21.t h24|>.t h26) fun _ hS2=>qck
    have hzj:=fun q=>c25 ((idxOf_mem (k:=0)).2 q);refine Zk<|Zt<|Zr<|Zqm Z Z<|Zqm Z Z<|qa4 [(_,_)] [_] Z Z Z Z Z Z Z Z Z fun βn s27 h27 hcb=>qbq (sz:=1) [_,_,_,_] M2 (Mq++L) Z Z Z Z Z Z Z hO2 (Row.of_cells (hcb.le (Lr D)) Z Z) ⟨by simp [ti9];omega,by omega⟩ Z ?_;intro vw Mw s28 h28 ow;obtain ⟨Avw,cvw,rfl,_,_⟩:=Own.slice ow;simp only [cQ9,nQ9];refine Zqa Z Z<|Zn<|Zb<|Zt<|Zr<|Zqm Z Z<|qaD Z Z Z (w64 O O)<|Zqa Z Z<|Zn<|?_;refine qab ⟨(j+1,.slice Avw (j+1) cvw,Mw),[],kp,Z,⟨(I21.1.t h24|>.t h27|>.t h28),⟨by simp only;omega,by rw [qeF hws,qcK];exact ow,qf0 hws hN2 hzj⟩⟩,Oz⟩
   obtain ⟨j2,hj2⟩:∃ j2,j=m1+j2:=⟨j - m1,by omega⟩;have hjm:j2 < m2:=by omega
   obtain ⟨b2,off2,w9,rfl,hw9,hcw,hw8⟩:=Strs.at_ (hlx.le (e20.t I21.1)) hjm;obtain rfl:w9=w8:=by rw [List.getElem?_append_right O,show j - x.params.length=j2 by omega,hw9] at hws;injection hws
   refine Zr<|Wb Y5<|Wl 0 Y6<|Zqm Z Z<|Wb Y5<|Wl 0 Y6<|Ws Y4<|qad (qba (c:=(j2:Int)) Z Z (by rw [w64 O O];omega)) Z<|qad (qaU Z Z Z Z Z Z hjm) Z<|qad (qaq Z Z Z (hcw.le (Lr D)) Z) Z<|At Z Z<|Zs<|Sr<|Zqm Z Z<|Zqm Z Z<|Jc Z Z Z (qfv D [_,_,_,_] (Mq++L) _ M2 Av2 _ cv2 _ hO2 (fun w hw=>by have:=qbG (hi4 w (List.mem_of_mem_take hw));omega) (by rw [List.length_take,List.length_append];omega) w9) ?_;rintro _ _ s29 h29 ⟨rfl,rfl⟩;simp only [cQ9,nQ9];refine qhn Z Z Z<|Nt<|?_;refine qaa Z ?_ ?_<;>intro c30
   ·have hi9:=(idxOf_mem (k:=0)).1 c30;have q9:qgn p.funcs (p.globals.map Glo.name) p.globals.length=(8,((ng+k:Nat):Int)):=by rw [hSf,qe2 hx,if_pos (.inr (qdB hws hi9)),hn1]
    have hE9:qb2 p=(8,((ng+k:Nat):Int)):=by rw [qAl hS (by rw [q9];simp),q9]
    have hE:qcv p=(8,((ng+k:Nat):Int)):=by rw [qcv,if_neg g14,if_pos (by rw [hE9];simp),hE9]
    rw [show M2++(Mq++L)=(M2++Mq)++L from (List.append_assoc ..).symm];refine Sr<|W0 Y5<|Wl 3 Y6<|Ws Y4<|Zqm Z Z<|qad (qaC Z Z (show IntKind.i64.wrap ((ng:Int)+(k:Int))=((ng+k:Nat):Int) by rw [w64 O O];simp)) Z<|Je Z Z Z (qee D _ _ _ _) fun s31 h31=>Wt 2 [_,_] Y9<|Nt<|Zo<|Zu<|Zc<|Zu<|Zu<|Zc<|Zc<|Zu<|Zu<|Zc<|Zu ?_;exact rR (_::_::_::_::(M2++Mq)) L (.agg (us:=[_,_]) 2 Z Z Z Z Z (.nil)) Z (e21.t h29|>.t h31) fun _ hS2=>qck
   have hzj:=fun q=>c30 ((idxOf_mem (k:=0)).2 q);refine Zk<|Zt<|Zr<|Zqm Z Z<|Zqm Z Z<|qa4 [(_,_)] [_] Z Z Z Z Z Z Z Z Z fun βn s32 h32 hcb=>qbq (sz:=1) [_,_,_,_] M2 (Mq++L) Z Z Z Z Z Z Z hO2 (Row.of_cells (hcb.le (Lr D)) Z Z) ⟨by simp [ti9];omega,by omega⟩ Z ?_;intro vw Mw s33 h33 ow;obtain ⟨Avw,cvw,rfl,_,_⟩:=Own.slice ow;simp only [cQ9,nQ9];refine Zqa Z Z<|Zn<|Zb<|Zt<|Zr<|Zqm Z Z<|qaD Z Z Z (w64 O O)<|Zqa Z Z<|Zn<|?_;refine qab ⟨(j+1,.slice Avw (j+1) cvw,Mw),[],kp,Z,⟨(I21.1.t h29|>.t h32|>.t h33),⟨by simp only;omega,by rw [qeF hws,qcK];exact ow,qf0 hws hN2 hzj⟩⟩,Oz⟩
  have hnd:(x.params++x.locals).Nodup:=by
    rw [List.take_of_length_le (by rw [List.length_append];omega)] at hN2;exact hN2
  refine Zl<|Zv<|Zv<|Zd<|Zb<|Zt<|qdA [_,_,_,_] M2 _ ?_;intro s34 h34 hpub34;simp only [cQ9,nQ9];refine Zr<|Zqm Z Z<|qaD Z Z Z (w64 O O)<|Zqa Z Z<|Zn<|?_;refine qab ⟨(k+1,.slice Avq (ng+k+1) cvq,Mq),[_],kp,Z,⟨(I13.1.t h15|>.t h16|>.t h19|>.t h20|>.t I21.1|>.t h34),⟨by simp only;omega,by rw [qaS Fnc.name hx,← List.append_assoc,qcK];exact oq,by simp only;rw [hSf,qe2 hx,if_neg (fun h=>h.elim hz (fun h=>h hnd)),qaS Fnc.name hx,List.append_assoc];rfl⟩⟩,Oz⟩
 rw [List.drop_eq_nil_of_le O,qgn] at hSf;rw [List.take_of_length_le (show p.funcs.length≤k by omega)] at hO;refine Zl<|Zv<|Zv<|Zd<|Zt<|Sr<|qad (qao 2 [_,_] Z Z Z Z Z) Z<|Je Z Z Z (qoz D _ _ d p Ag _ ng cg nf cf (hGl.le e13) (hFn.le e13)) fun s35 h35=>At Z Z<|Zs<|Sr<|Zqm Z Z<|qa8 Z Z Z<|Nt<|?_;have e35:=e13.t h35;refine qaa Z ?_ ?_<;>intro c36
 ·have hE9:=nF_m hS hSf c36;have hE:qcv p=(12,-1):=by rw [qcv,if_neg g14,if_pos (by rw [hE9];simp),hE9]
  refine Sr<|Je Z Z Z (qee D _ _ _ _) fun s37 h37=>Wt 1 [_,_] Y9<|Nt<|Zo<|Zu<|?_;exact rR (_::_::_::Mo) L (.agg (us:=[_,_]) 1 Z Z Z Z Z (.nil)) Z (e35.t h37) fun _ hS2=>qck
 obtain ⟨j,hj⟩:=Int.eq_ofNat_of_zero_le (show 0≤qfY p.funcs by have:=c36;omega);have hjl:=qiu (p:=fun x:Fnc=>decide (x.name=qcU)) (l:=p.funcs) (k:=0);have hjl2:j < nf:=by unfold qfY at hj;omega
 obtain ⟨b,off,x,B1,m1,d1,B2,m2,d2,B3,m3,d3,rfl,hx,hcx,hpx,hlx,hbx,hnl⟩:=Fncs.at_ (hFn.le e35) hjl2;have hp9:=hpx.1;have hE8:=nF_p hS hSf hj hx;rw [hj];refine Zk<|Zt<|Zs<|Sr<|Wb Y5<|Wl 2 Y6<|Zqm Z Z<|qad (qau (j:=j) Z Z Z Z Z Z hjl2) Z<|qad (qbm Z Z Z Z) Z<|qad (qaF 1 Z Z Z (hcx.le (Lr D)) Z) Z<|Ws Y4<|qbl Z Z Z<|Nt<|?_;refine qaa Z ?_ ?_<;>intro c38
 ·have hE9:qb2 p=(9,-1):=by rw [hE8,if_neg (fun h=>by rw [h] at hp9;simp at hp9;omega)]
  have hE:qcv p=(9,-1):=by rw [qcv,if_neg g14,if_pos (by rw [hE9];simp),hE9]
  refine Sr<|Je Z Z Z (qee D _ _ _ _) fun s39 h39=>Wt 1 [_,_] Y9<|Nt<|Zo<|Zu<|?_;exact rR (_::_::_::Mo) L (.agg (us:=[_,_]) 1 Z Z Z Z Z (.nil)) Z (e35.t h39) fun _ hS2=>qck
 have hE9:qb2 p=(0,0):=by rw [hE8,if_pos (List.eq_nil_of_length_eq_zero O)]
 have g20:¬ (qb2 p).1≠0:=fun h=>h (by rw [hE9]);clear hx hcx hpx hlx hbx hnl hE8;refine Zk<|Zt<|Zs<|Sr<|At Z Z<|Zp<|qaA (γ:=Nat) (fun k=>[(1,_),(2,_),(3,_),(12,.int .i64 (k:Int))]) (fun _=>_) (fun k tw=>Le D s35 tw∧(k≤nf∧qlb p p.funcs p.globals.length=qlb p (p.funcs.drop k) (p.globals.length+k))) (fun k=>nf - k) (fun _ _ _ h hl=>⟨h.1.trans hl,h.2⟩) 0 (.c4 Z Z Z Z (.nil _)) Z ⟨Le.refl _,⟨Nat.zero_le _,Z⟩⟩ ?_;intro k s40 I40;have e40:=e35.t I40.1;have hk0:=I40.2.1;have hSb:=I40.2.2;refine Zs<|Sr<|Zqm Z Z<|Wb Y5<|Wl 2 Y6<|Ws Y4<|qa8 Z Z Z<|Nt<|?_;refine qaa Z ?_ ?_<;>intro c41
 ·have hk:k < nf:=by omega
  obtain ⟨b,off,x,B1,m1,d1,B2,m2,d2,B3,m3,d3,hAf,hx,hcx,hpx,hlx,hbx,hnl⟩:=Fncs.at_ (hFn.le e40) hk;injection hAf with hAf
  injection hAf with hAb hAo;subst hAb;subst hAo;obtain ⟨hi1,hi2,hi3,hi4,hi5,hi6⟩:=hVf x (List.mem_of_getElem? hx);refine Zk<|Zt<|Zs<|Zp<|Sr<|Wb Y5<|Wl 2 Y6<|Zqm Z Z<|qad (qau Z Z Z Z Z Z hk) Z<|qad (qbm Z Z Z Z) Z<|qad (qaF 3 Z Z Z (hcx.le (Lr D)) Z) Z<|Jc Z Z Z (rns D d _ _ B3 m3 d3 x.body 0 1 (hbx.le (Lr D)) hi5 O O) ?_;rintro _ _ s42 h42 ⟨rfl,Ar,nr,cr,rfl,hRs⟩;have hnr:=hRs.1;have hnr2:=hRs.2.1;have hnr3:=hRs.2.2.1;refine At Z Z<|Sr<|At Z Z<|Zp<|qaA (γ:=Nat) (fun j=>[(1,_),(2,_),(3,_),(12,_),(13,_),(14,.int .i64 (j:Int))]) (fun _=>_) (fun j tw=>Le D s42 tw∧(j≤nr∧bdR p x (rss x.body 0)=bdR p x ((rss x.body 0).drop j))) (fun j=>nr - j) (fun _ _ _ h hl=>⟨h.1.trans hl,h.2⟩) 0 (.c6 Z Z Z Z Z Z (.nil _)) Z ⟨Le.refl _,⟨Nat.zero_le _,Z⟩⟩ ?_;intro j s43 I43;have e43:=e40.t h42|>.t I43.1;have hj0:=I43.2.1;have hSr:=I43.2.2;refine Zs<|Sr<|Zqm Z Z<|Zqm Z Z<|Ws Y4<|qa8 Z Z Z<|Nt<|?_;refine qaa Z ?_ ?_<;>intro c44
  ·have hj:j < nr:=by omega
   obtain ⟨b3,off3,r,rfl,hrj,hcr⟩:=Rns.at_ (hRs.le I43.1) hj;have hru:=qBl (List.mem_of_getElem? hrj);refine Zk<|Zt<|Zs<|Zp<|Zs<|qaJ qac 8 Z _ (fun _ h=>h) fun s45 h45=>za 0 Z (qao 2 [_,_] Z Z Z Z Z) Z<|za 1 Z (qan Z) Z<|za 2 Z (qan Z) Z<|za 3 Z (qan Z) Z<|za 4 Z (qau Z Z Z Z Z Z hj) Z<|za 5 Z (qaw Z Z Z (hcr.le h45) Z) Z<|qar 6 V<|Jf Z Tt Z Z Z (qrr D _ _ d p Ag _ ng cg nf cf (hGl.le (e43.t h45)) (hFn.le (e43.t h45)) hV k x hx r hru) fun s46 h46=>za 7 Z (qa6 Z) Z<|qaf V<|Zt<|Sr<|Zqm Z Z<|qcb Z Z Z<|Nt<|?_;refine qaM Z ?_ ?_<;>intro c47
   ·have hzr:=c47;have hbn:qgu p x (qcG x.body 0)=rnC p x r:=by rw [← qpe hi5,hSr,qtT hrj,if_neg hzr]
    have hE:qcv p=(rnC p x r,((ng+k:Nat):Int)):=by rw [qcv,if_neg g14,if_neg g20,hSb,qid hx,if_neg (by rw [hbn];exact hzr),hbn,hn1]
    refine Sr<|Zqm Z Z<|W0 Y5<|Wl 2 Y6<|Ws Y4<|Zqm Z Z<|qad (qaC Z Z (show IntKind.i64.wrap ((ng:Int)+(k:Int))=((ng+k:Nat):Int) by rw [w64 O O];simp)) Z<|Je Z Z Z (qee D _ _ _ _) fun s48 h48=>Wt 1 [_,_] Y9<|Nt<|Zo<|Zc<|Zu<|Zu<|Zc<|Zc<|Zu<|Zu<|Zc<|Zu<|?_;exact rR (_::_::_::Mo) L (.agg (us:=[_,_]) 1 Z Z Z Z Z (.nil)) Z (e43.t h45|>.t h46|>.t h48) fun _ hS2=>qck
   have hzr:=c47;refine Zk<|Zb<|Zt<|Zr<|Zqm Z Z<|qaD Z Z Z (w64 O O)<|Zqa Z Z<|Zn<|?_;refine qab ⟨(j+1),[],kp,Z,⟨(I43.1.t h45|>.t h46),⟨by omega,by rw [hSr,qtT hrj,if_pos hzr]⟩⟩,O⟩
  have hbn:qgu p x (qcG x.body 0)=0:=by rw [← qpe hi5,hSr,List.drop_eq_nil_of_le O,bdR]
  refine Zl<|Zv<|Zv<|Zd<|Zb<|Zt<|Zr<|Zqm Z Z<|qaD Z Z Z (w64 O O)<|Zqa Z Z<|Zn<|?_;refine qab ⟨(k+1),[],kp,Z,⟨(I40.1.t h42|>.t I43.1),⟨by omega,by rw [hSb,qid hx,if_pos hbn];rfl⟩⟩,O⟩
 rw [List.drop_eq_nil_of_le O,qlb] at hSb;have hE:qcv p=qf2 p:=by rw [qcv,if_neg g14,if_neg g20,hSb,hz0]
 refine Zl<|Zv<|Zv<|Zd<|Zt<|Sr<|qad (qao 0 [_,_] Z Z Z Z Z) Z<|Wt 1 [_,_] Y9<|Nt<|Zo<|?_;exact rR (_::_::_::Mo) L (.agg (us:=[_,_]) 1 Z Z Z Z Z (.nil)) Z e40 fun _ hS2=>qck
def qr1{j:Nat}{l:List Ins}{y:Ins}(h:l[j]?=some y):l.take (j+1)=l.take j++[y]:=by
 obtain ⟨hj,rfl⟩:=List.getElem?_eq_some_iff.1 h;rw [List.take_succ_eq_append_getElem hj]
open Go.Proofs.Tryz
def qjM(D:Nat)(L:Hl)(s:World)(r:Int):AC prog D 34 [.int .u32 r] L s fun v L' _=>v=.agg #[.int .i64 1,.int .u32 r]∧L=L':=by
 refine qae (fn:=f34) qav func34 V Z ntmps34 Z (rs:=[.cell 2 91]) Z [(0,_)] Z<|Sr<|qag Z [_,_] Z Z fun β1 s1 h1=>Nt<|Sr<|Zqm Z Z<|qad (qak [(_,_),(_,_)] [_,_] Z Z Z Z Z Z) Z<|Wt 0 [_,_] Y9<|Nt<|Zo<|?_;exact rR [_] L (.agg (us:=[_,_]) 0 Z Z Z Z Z (.nil)) Z h1 fun _ hS2=>⟨rfl,rfl⟩
def qzr(D:Nat)(L:Hl)(s:World)(r:Int):AC prog D 37 [.int .u32 r] L s fun v L' _=>v=.agg #[.int .i64 0,.int .u32 r]∧L=L':=by
 refine qae (fn:=f37) qav func37 V Z ntmps37 Z (rs:=[.cell 2 91]) Z [(0,_)] Z<|Sr<|qag Z [_,_] Z Z fun β1 s1 h1=>Nt<|Sr<|Zqm Z Z<|qad (qak [(_,_),(_,_)] [_,_] Z Z Z Z Z Z) Z<|Wt 0 [_,_] Y9<|Nt<|Zo<|?_;exact rR [_] L (.agg (us:=[_,_]) 0 Z Z Z Z Z (.nil)) Z h1 fun _ hS2=>⟨rfl,rfl⟩
def qz0{l:List Tm}{x:Tm}(h:l[0]?=some x):l.getD 0 ⟨0,0⟩=x:=by simp [List.getD,h]
def qz1{l:List Tm}{x:Tm}(h:l[1]?=some x):l.getD 1 ⟨0,0⟩=x:=by simp [List.getD,h]
def qn0{l:List Tm}{n j:Nat}{y e:Tm}(hj:j < n)(hz:(j:Int)=0)(he:l[j]?=some e)(hy:y=if 1 < j then l.getD 1 ⟨0,0⟩ else ⟨0,0⟩):j+1≤n∧e=(if 0 < j+1 then l.getD 0 ⟨0,0⟩ else ⟨0,0⟩)∧y=(if 1 < j+1 then l.getD 1 ⟨0,0⟩ else ⟨0,0⟩):=by
 have h0:j=0:=by omega
 subst h0;exact ⟨hj,by rw [if_pos O,qz0 he],by rw [hy];rfl⟩
def qn1{l:List Tm}{n j:Nat}{x e:Tm}(hj:j < n)(hz:¬ (j:Int)=0)(hn:n≤2)(he:l[j]?=some e)(hx:x=if 0 < j then l.getD 0 ⟨0,0⟩ else ⟨0,0⟩):j+1≤n∧x=(if 0 < j+1 then l.getD 0 ⟨0,0⟩ else ⟨0,0⟩)∧e=(if 1 < j+1 then l.getD 1 ⟨0,0⟩ else ⟨0,0⟩):=by
 have h0:j=1:=by omega
 subst h0;exact ⟨hj,by rw [hx];rfl,by rw [if_pos O,qz1 he]⟩
def qz2{l:List Tm}{i:Nat}(h:l.length≤i):l.getD i ⟨0,0⟩=⟨0,0⟩:=by simp [List.getD,List.getElem?_eq_none h]
def qyQ(D:Nat)(L:Hl)(s:World)(kd tgt:Int)(A:Option Addr)(n c:Nat)(l:List Tm)(hA:Tms s A n c l)(hl:l.length≤2):AC prog D 36 [.int .i64 kd,.int .i64 tgt,.slice A n c] L s fun v L' _=>v=.agg #[.int .i64 kd,.int .i64 tgt,.int .i64 (l.getD 0 ⟨0,0⟩).kind,.int .u32 (l.getD 0 ⟨0,0⟩).val,.int .i64 (l.getD 1 ⟨0,0⟩).kind,.int .u32 (l.getD 1 ⟨0,0⟩).val]∧L=L':=by
 have hn:=hA.1;refine qae (fn:=f36) qav func36 V Z ntmps36 Z (rs:=[.cell 6 99]) Z [(0,_),(1,_),(2,_)] Z<|Sr<|qag Z [_,_,_,_,_,_] Z Z fun β1 s1 h1=>Nt<|Sr<|Zqm Z Z<|Zqm Z Z<|qad (qak [(_,_),(_,_)] [_,_,_,_,_,_] Z Z Z Z Z Z) Z<|qag Z [_,_,_,_,_,_] Z Z fun β2 s2 h2=>Wt 0 [_,_,_,_,_,_] Y9<|Nt<|Zs<|Sr<|Zqm Z Z<|Ws Y4<|Zqm Z Z<|Nt<|Zp<|?_;refine qaA (γ:=Nat×Tm×Tm) (fun g=>[(6,_),(7,_),(13,_),(14,_),(15,.int .i64 (g.1:Int))]) (fun g=>(β2,cb [.int .i64 kd,.int .i64 tgt,.int .i64 g.2.1.kind,.int .u32 g.2.1.val,.int .i64 g.2.2.kind,.int .u32 g.2.2.val] 99)::(β1,cb [.int .i64 0,.int .i64 0,.int .i64 0,.int .u32 0,.int .i64 0,.int .u32 0] 99)::L) (fun g tw=>Le D s2 tw∧(g.1≤n∧g.2.1=(if 0 < g.1 then l.getD 0 ⟨0,0⟩ else ⟨0,0⟩)∧g.2.2=(if 1 < g.1 then l.getD 1 ⟨0,0⟩ else ⟨0,0⟩))) (fun g=>n - g.1) (fun _ _ _ h hl=>⟨h.1.trans hl,h.2⟩) (0,⟨0,0⟩,⟨0,0⟩) (.c5 Z Z Z Z Z (.nil _)) Z ⟨Le.refl _,⟨Nat.zero_le _,Z,Z⟩⟩ ?_;intro g s3 I3;obtain ⟨j,x,y⟩:=g;obtain ⟨hj0,hx,hy⟩:=I3.2;simp only at hj0 hx hy;dsimp only;refine Sr<|qa8 Z Z Z<|Nt<|Zs<|?_;refine qaa Z ?_ ?_<;>intro c4
 ·have hk:j < n:=by omega
  obtain ⟨b,off,e,rfl,he,hce,hue⟩:=Tms.at_ (hA.le (h1.t h2|>.t I3.1)) hk;refine Zk<|Zt<|Zs<|Zp<|Sr<|Zqm Z Z<|qad (qau Z Z Z Z Z Z hk) Z<|qad (qaw Z Z Z (hce.le (Lr D)) Z) Z<|qag Z [_,_] Z Z fun β5 s5 h5=>Zqa Z Z<|Wt 0 [_,_] Y9<|Nt<|Sr<|Zqm Z Z<|qax Z Z Z<|Nt<|?_;refine qaa Z ?_ ?_<;>intro c6;·have hz0:=c6;refine Zr<|qad (qao 0 [_,_] Z Z Z Z Z) Z<|Wb Y5<|Wt 1 [_,_,_,_,_,_] Y9<|Zn<|Zb<|Zt<|Zr<|qaD Z Z Z (w64 O O)<|Zqm Z Z<|Zn<|?_;refine qab ⟨(j+1,e,y),[_],kp,Z,⟨(I3.1.t h5),by first|exact qn0 hk hz0 he hy|exact qn1 hk hz0 O he hx⟩,Oz⟩
  have hz0:=c6;refine Zr<|qad (qao 0 [_,_] Z Z Z Z Z) Z<|Wb Y5<|Wt 1 [_,_,_,_,_,_] Y9<|Zn<|Zb<|Zt<|Zr<|qaD Z Z Z (w64 O O)<|Zqm Z Z<|Zn<|?_;refine qab ⟨(j+1,x,e),[_],kp,Z,⟨(I3.1.t h5),by first|exact qn0 hk hz0 he hy|exact qn1 hk hz0 O he hx⟩,Oz⟩
 refine Zl<|Zv<|Zv<|Zd<|Zt<|Sr<|qad (qao 0 [_,_,_,_,_,_] Z Z Z Z Z) Z<|Wt 1 [_,_,_,_,_,_] Y9<|Nt<|Zo<|?_;refine rR [_,_] L (.agg (us:=[_,_,_,_,_,_]) 1 Z Z Z Z Z (.nil)) Z (h1.t h2|>.t I3.1) fun _ hS2=>?_;refine ⟨?_,Z⟩;have hjn:j=n:=by omega
 have e1:x=l.getD 0 ⟨0,0⟩:=by
   rw [hx];split
   · rfl
   · rw [qz2 O]
 have e2:y=l.getD 1 ⟨0,0⟩:=by
   rw [hy];split
   · rfl
   · rw [qz2 O]
 rw [← e1,← e2];rfl
def qyo(D:Nat)(L:Hl)(s:World)(name:List UInt8)(op:Bool)(A:Option Addr)(n c:Nat)(β:Nat)(v:Value)(M:Hl)(i:Nat)(xs:List Value)(hO:FL.Own 95 4 M v i xs)(hi:i≤1000):AC prog D 35 [St name,.bool op,.slice A n c,.pointer (some ⟨β,0,none⟩)] (((β,cb [.int .i64 65536,v] 42)::M)++L) s fun w L' s'=>∃ M',L'=M'++L∧w=.tuple #[]∧∃ v2 M2,M'=(β,cb [.int .i64 65536,v2] 42)::M2∧FL.Own 95 4 M2 v2 (i+1) (xs++[St name,.int .u32 ((i:Int)+1),.bool op,.slice A n c]):=by
 obtain ⟨Av,cv,rfl,kv1,kv2⟩:=Own.slice hO;simp only [List.cons_append];refine qae (fn:=f35) qav func35 V Z ntmps35 Z (rs:=[]) Z [(0,_),(1,_),(2,_),(3,_)] Z<|Zr<|Wb Y5<|Wl 0 Y6<|Zqm Z Z<|Wb Y5<|Wl 0 Y6<|Ws Y4<|qaD Z Z Z (w64 O O)<|qad (qaR Z Z Z Z Z (qfL O O)) Z<|Zqm Z Z<|Zqm Z Z<|qad (qak [(_,_),(_,_),(_,_),(_,_)] [_,_,_,_] Z Z Z Z Z Z) Z<|qa4 [(_,_)] [_,_,_,_] Z Z Z Z Z Z Z Z Z fun βn s1 h1 hcb=>qbq (sz:=4) [_] M L Z Z Z Z Z Z Z hO (Row.of_cells (hcb.le (Lr D)) Z Z) ⟨by simp [ti95];omega,by omega⟩ Z ?_;intro v2 M2 s2 h2 o2;obtain ⟨Av2,cv2,rfl,_,_⟩:=Own.slice o2;simp only [cQ9,nQ9];refine Wb Y5<|Wt 0 [_,_] Y9<|Zn ?_;refine qal [] _ (.inl Z) (.nil) Z (h1.t h2) fun _ hS2=>?_;exact ⟨_::M2,rfl,rfl,_,M2,rfl,o2⟩
def qmO(D:Nat)(L:Hl)(s:World)(A:Option Addr)(n c:Nat)(l:List Ac)(hA:Acs s A n c l)(β:Nat)(Ap:Option Addr)(np cp:Nat)(lp:List Ac)(hP:Acs s Ap np cp lp)(hn:n+np≤1000):AC prog D 38 [.slice A n c,.pointer (some ⟨β,0,none⟩)] ((β,cb [.slice Ap np cp] 93)::L) s fun v L' s'=>∃ M',L'=M'++((β,cb [.slice Ap np cp] 93)::L)∧∀ s2,Le D s' s2→Pub M' s2→∃ A2 n2 c2,v=.slice A2 n2 c2∧Acs s2 A2 n2 c2 (lp++l):=by
 refine qae (fn:=f38) qav func38 V Z ntmps38 Z (rs:=[.tmp 3]) Z [(0,_),(1,_)] Z<|Sr<|At Z Z<|Sr<|qnj (sz:=6) Z Z Z Z fun βo s1 h1 oo=>Wl 1 Y6<|qbq [] [_] _ Z Z Z Z Z Z Z oo (hP.row.le h1) ⟨by simp [ti99];omega,by omega⟩ Z ?_;intro v1 A1 s2 h2 o1;simp only [List.nil_append];refine Zqm Z Z<|qbq [] A1 _ Z Z Z Z Z Z Z o1 (hA.row.le (h1.t h2)) ⟨by simp [ti99];omega,by omega⟩ Z ?_;intro v2 A2x s3 h3 o2;simp only [List.nil_append];refine At Z Z<|Zo<|?_;refine rR [] _ (.t1 Z) Z (h1.t h2|>.t h3) fun _ hS2=>?_;simp only [List.nil_append,Nat.zero_add,← qva] at o2;obtain ⟨Av2,cv2,rfl,_,_⟩:=Own.slice o2;exact ⟨A2x,rfl,fun s2 hs2 hp=>⟨_,_,_,rfl,Own.acs o2 (fun a ha=>(List.mem_append.1 ha).elim (hP.u a) (hA.u a)) hp (by have:=hA.1;have:=hP.1;simp;omega)⟩⟩
def qo0(D:Nat)(L:Hl)(s:World)(A:Option Addr)(n c:Nat)(l:List Ac)(hA:Acs s A n c l)(β:Nat)(Ap:Option Addr)(np cp:Nat)(lp:List Ac)(hP:Acs s Ap np cp lp)(hn:n+np≤1000):AC prog D 38 [.slice A n c,.pointer (some ⟨β,0,none⟩)] ((β,cb [.slice Ap np cp] 93)::L) s fun v L' s'=>(β,cb [.slice Ap np cp] 93)::L=L'∧∃ A2 n2 c2,v=.slice A2 n2 c2∧Acs s' A2 n2 c2 (lp++l):=AC.pubW (qmO D L s A n c l hA β Ap np cp lp hP hn)
def qmP(D:Nat)(L:Hl)(s:World)(A:Option Addr)(n c:Nat)(l:List Ac)(hA:Acs s A n c l)(β:Nat)(Ap:Option Addr)(np cp:Nat)(lp:List Ac)(hP:Acs s Ap np cp lp)(hn:n+np≤1000):AC prog D 38 [.slice A n c,.pointer (some ⟨β,0,none⟩)] ([(β,cb [.slice Ap np cp] 93)]++L) s fun v L' s'=>∃ M',L'=M'++L∧M'=[(β,cb [.slice Ap np cp] 93)]∧∃ A2 n2 c2,v=.slice A2 n2 c2∧Acs s' A2 n2 c2 (lp++l):=
 (qo0 D L s A n c l hA β Ap np cp lp hP hn).mono fun v L' s' _ h=>⟨_,h.1.symm,rfl,h.2⟩
def qkA{D:Nat}{s s':World}{l:List Ins}{m:List (List Value)}(h:All2 (fun x cs=>cs.length=4∧InsR s x cs) l m)(hl:Le D s s'):All2 (fun x cs=>cs.length=4∧InsR s' x cs) l m:=h.mono fun a b h=>⟨h.1,h.2.le hl⟩
def qzv:List Ac:=[⟨2,2,⟨1,2⟩,⟨0,1⟩⟩,⟨13,1,⟨1,2⟩,⟨0,0⟩⟩]
def defT:Tab:=⟨65536,[
 ⟨[115,116,111,112],1,false,[⟨17,0,⟨1,0⟩,⟨0,0⟩⟩]⟩,
 ⟨[110,117,109],2,true,[⟨0,0,⟨2,0⟩,⟨0,0⟩⟩]⟩,
 ⟨[108,111,97,100],3,true,[⟨13,0,⟨2,0⟩,⟨0,0⟩⟩]⟩,
 ⟨[115,116,111,114,101],4,true,[⟨14,0,⟨2,0⟩,⟨1,0⟩⟩]⟩,
 ⟨[108,111,99,97,108],5,true,[⟨2,1,⟨1,2⟩,⟨2,0⟩⟩,⟨13,0,⟨1,1⟩,⟨0,0⟩⟩]⟩,
 ⟨[97,115,115,105,103,110],6,true,[⟨2,1,⟨1,2⟩,⟨2,0⟩⟩,⟨14,0,⟨1,1⟩,⟨1,0⟩⟩]⟩,
 ⟨[102,101,116,99,104],7,true,[⟨1,1,⟨1,0⟩,⟨2,0⟩⟩,⟨13,0,⟨1,1⟩,⟨0,0⟩⟩]⟩,
 ⟨[112,117,116,97,116],8,true,[⟨2,2,⟨1,2⟩,⟨0,1⟩⟩,⟨13,1,⟨1,2⟩,⟨0,0⟩⟩,⟨1,1,⟨1,1⟩,⟨2,0⟩⟩,⟨14,0,⟨1,1⟩,⟨1,0⟩⟩]⟩,
 ⟨[112,117,115,104],9,false,[⟨14,0,⟨1,2⟩,⟨1,0⟩⟩,⟨1,2,⟨1,2⟩,⟨0,1⟩⟩]⟩,
 ⟨[100,114,111,112],10,true,[⟨2,2,⟨1,2⟩,⟨2,0⟩⟩]⟩,
 ⟨[97,100,100],11,false,[⟨2,2,⟨1,2⟩,⟨0,1⟩⟩,⟨13,1,⟨1,2⟩,⟨0,0⟩⟩,⟨1,0,⟨1,1⟩,⟨1,0⟩⟩]⟩,
 ⟨[115,117,98],12,false,[⟨2,2,⟨1,2⟩,⟨0,1⟩⟩,⟨13,1,⟨1,2⟩,⟨0,0⟩⟩,⟨2,0,⟨1,1⟩,⟨1,0⟩⟩]⟩,
 ⟨[109,117,108],13,false,[⟨2,2,⟨1,2⟩,⟨0,1⟩⟩,⟨13,1,⟨1,2⟩,⟨0,0⟩⟩,⟨3,0,⟨1,1⟩,⟨1,0⟩⟩]⟩,
 ⟨[100,105,118],14,false,[⟨2,2,⟨1,2⟩,⟨0,1⟩⟩,⟨13,1,⟨1,2⟩,⟨0,0⟩⟩,⟨18,0,⟨0,2⟩,⟨1,0⟩⟩,⟨4,0,⟨1,1⟩,⟨1,0⟩⟩]⟩,
 ⟨[109,111,100],15,false,[⟨2,2,⟨1,2⟩,⟨0,1⟩⟩,⟨13,1,⟨1,2⟩,⟨0,0⟩⟩,⟨18,0,⟨0,2⟩,⟨1,0⟩⟩,⟨5,0,⟨1,1⟩,⟨1,0⟩⟩]⟩,
 ⟨[97,110,100],16,false,[⟨2,2,⟨1,2⟩,⟨0,1⟩⟩,⟨13,1,⟨1,2⟩,⟨0,0⟩⟩,⟨6,0,⟨1,1⟩,⟨1,0⟩⟩]⟩,
 ⟨[111,114],17,false,[⟨2,2,⟨1,2⟩,⟨0,1⟩⟩,⟨13,1,⟨1,2⟩,⟨0,0⟩⟩,⟨7,0,⟨1,1⟩,⟨1,0⟩⟩]⟩,
 ⟨[120,111,114],18,false,[⟨2,2,⟨1,2⟩,⟨0,1⟩⟩,⟨13,1,⟨1,2⟩,⟨0,0⟩⟩,⟨8,0,⟨1,1⟩,⟨1,0⟩⟩]⟩,
 ⟨[108,101,102,116],19,false,[⟨2,2,⟨1,2⟩,⟨0,1⟩⟩,⟨13,1,⟨1,2⟩,⟨0,0⟩⟩,⟨9,0,⟨1,1⟩,⟨1,0⟩⟩]⟩,
 ⟨[114,105,103,104,116],20,false,[⟨2,2,⟨1,2⟩,⟨0,1⟩⟩,⟨13,1,⟨1,2⟩,⟨0,0⟩⟩,⟨10,0,⟨1,1⟩,⟨1,0⟩⟩]⟩,
 ⟨[101,113],21,false,[⟨2,2,⟨1,2⟩,⟨0,1⟩⟩,⟨13,1,⟨1,2⟩,⟨0,0⟩⟩,⟨11,0,⟨1,1⟩,⟨1,0⟩⟩]⟩,
 ⟨[108,101,115,115],22,false,[⟨2,2,⟨1,2⟩,⟨0,1⟩⟩,⟨13,1,⟨1,2⟩,⟨0,0⟩⟩,⟨12,0,⟨1,1⟩,⟨1,0⟩⟩]⟩,
 ⟨[109,111,114,101],23,false,[⟨2,2,⟨1,2⟩,⟨0,1⟩⟩,⟨13,1,⟨1,2⟩,⟨0,0⟩⟩,⟨12,0,⟨1,0⟩,⟨1,1⟩⟩]⟩,
 ⟨[122,101,114,111],24,false,[⟨11,0,⟨1,0⟩,⟨0,0⟩⟩]⟩,
 ⟨[98,111,117,110,100],25,true,[⟨12,1,⟨1,0⟩,⟨2,0⟩⟩,⟨18,0,⟨0,1⟩,⟨1,1⟩⟩]⟩,
 ⟨[106,117,109,112],26,true,[⟨0,4,⟨2,0⟩,⟨0,0⟩⟩]⟩,
 ⟨[106,122,101,114,111],27,true,[⟨19,4,⟨2,0⟩,⟨1,0⟩⟩]⟩,
 ⟨[99,97,108,108],28,true,[⟨1,3,⟨1,3⟩,⟨0,1⟩⟩,⟨12,1,⟨1,3⟩,⟨0,101⟩⟩,⟨18,0,⟨0,3⟩,⟨1,1⟩⟩,⟨14,0,⟨1,2⟩,⟨1,4⟩⟩,⟨1,2,⟨1,2⟩,⟨0,1⟩⟩,⟨0,4,⟨2,0⟩,⟨0,0⟩⟩]⟩,
 ⟨[114,101,116],29,true,[⟨2,2,⟨1,2⟩,⟨2,0⟩⟩,⟨13,4,⟨1,2⟩,⟨0,0⟩⟩,⟨2,3,⟨1,3⟩,⟨0,1⟩⟩]⟩,
 ⟨[103,101,116],30,false,[⟨15,0,⟨0,0⟩,⟨0,0⟩⟩]⟩,
 ⟨[112,117,116],31,false,[⟨16,0,⟨1,0⟩,⟨0,0⟩⟩]⟩,
 ⟨[115,116,97,99,107],32,true,[⟨0,2,⟨2,0⟩,⟨0,0⟩⟩]⟩]⟩
end Go.Proofs.YtflplmcjbppfcaaGreatDoor
namespace Go.Proofs.YtflplmcjbppfcaaGreatDoor
open Go Go.FL
abbrev qgk:Str:=[110,117,109]
abbrev qdC:Str:=[112,117,115,104]
abbrev qh2:Str:=[98,111,117,110,100]
abbrev qpT:Str:=[102,101,116,99,104]
abbrev qBI:Str:=[103,101,116]
abbrev qdD:Str:=[122,101,114,111]
abbrev qAp:Str:=[115,117,98]
abbrev qdk:Str:=[106,122,101,114,111]
abbrev qe9:Str:=[106,117,109,112]
abbrev qpV:Str:=[115,116,111,114,101]
abbrev qiR:Str:=[97,115,115,105,103,110]
abbrev qpU:Str:=[112,117,116,97,116]
abbrev qxG:Str:=[114,101,116]
abbrev qBK:Str:=[112,117,116]
abbrev qiS:Str:=[115,116,111,112]
abbrev qxE:Str:=[100,114,111,112]
abbrev qhk:Str:=[99,97,108,108]
abbrev qh3:Str:=[115,116,97,99,107]
abbrev qmf:Str:=[108,111,99,97,108]
abbrev qxF:Str:=[108,111,97,100]
abbrev qdN:Str:=[119,111,114,100]
abbrev qdM:Str:=[115,112,97,99,101]
abbrev qkT:Str:=[101,110,100]
abbrev wMul:Str:=[109,117,108]
abbrev wDiv:Str:=[100,105,118]
abbrev wMod:Str:=[109,111,100]
abbrev qBJ:Str:=[108,101,102,116]
abbrev qz5:Str:=[114,105,103,104,116]
abbrev wAnd:Str:=[97,110,100]
abbrev wAdd:Str:=[97,100,100]
abbrev wOr:Str:=[111,114]
abbrev wXor:Str:=[120,111,114]
abbrev wEq:Str:=[101,113]
abbrev qz3:Str:=[108,101,115,115]
abbrev qz4:Str:=[109,111,114,101]
inductive Li where
 | op (n:Str)
 | ref (n a:Str)
 | num (n:Str) (v:Int)
 | lab (a:Str)
def liI:Li→Str
 | .op n=>32::n
 | .ref n a=>32::(n++32::a)
 | .num n v=>32::(n++32::qdq v)
 | .lab a=>a++[58]
def liT(y:Li):Str:=liI y++[10]
def cT(l:List Li):Str:=(l.map liT).flatten
def qaK(a b:List Li):cT (a++b)=cT a++cT b:=by simp [cT]
def qaj(y:Li)(l:List Li):cT (y::l)=liT y++cT l:=rfl
def qap:cT []=[]:=rfl
def lT(k:Nat):Str:=108::qdq k
def gT(i:Int):Str:=103::qdq i
def fT(i:Int):Str:=102::qdq i
def gE(p:Prg):List (Str×(Int×Int)):=p.globals.mapIdx fun i g=>(g.name,((3:Int),(i:Int)))
def fE(p:Prg):List (Str×(Int×Int)):=p.funcs.mapIdx fun i x=>(x.name,((4:Int),(i:Int)))
def sE(x:Fnc):List (Str×(Int×Int)):=(x.locals.mapIdx fun i w=>(w,((2:Int),((x.params.length+1+i:Nat):Int))))++(x.params.mapIdx fun i w=>(w,((1:Int),(i:Int))))
def fdI(T:List (Str×(Int×Int)))(nm:Str):Option Int:=(T.find? fun e=>decide (e.1=nm)).map fun e=>e.2.2
def gi(p:Prg)(nm:Str):Int:=(fdI (gE p) nm).getD 0
def fi(p:Prg)(nm:Str):Int:=(fdI (fE p) nm).getD 0
def gnI(p:Prg)(i:Int):Int:=match p.globals[i.toNat]? with
 | some g=>g.num
 | none=>0
def szF(x:Fnc):Nat:=x.params.length+1+x.locals.length
def cN(p:Prg)(x:Fnc)(nm:Str)(w:Nat):Li:=match fdI (sE x) nm with
 | some a=>.num qmf ((szF x:Int)+(w:Int) - a)
 | none=>if qjE p (gi p nm)=1 then .num qgk (gnI p (gi p nm)) else .ref qxF (gT (gi p nm))
def asL(p:Prg)(x:Fnc)(nm:Str):Li:=match fdI (sE x) nm with
 | some a=>.num qiR ((szF x:Int) - a)
 | none=>.ref qpV (gT (gi p nm))
def cL(p:Prg)(nm:Str)(n:Nat):List Li:=.ref qhk (fT (fi p nm))::(if 0 < n then [.num qxE n] else [])
def opL:List (List Str):=[[],[],[],[],[wMul],[wDiv],[wMod],[qBJ],[qz5],[wAnd],[wAdd],[qAp],[wOr],[wXor],[wEq],[wEq,qdD],[qz3],[qz4,qdD],[qz4],[qz3,qdD]]
def opN(o:Int):List Str:=opL.getD o.toNat []
mutual
def cE(p:Prg)(x:Fnc):Ex→Nat→Nat→List Li×Nat
 | .mk kd o n nm az,w,k=>if kd=1 then ([.num qgk n],k) else if kd=2 then ([cN p x nm w],k)
  else if kd=3 then ((cH p x az w k).1++[.num qh2 (gnI p (gi p nm)),.ref qpT (gT (gi p nm))],(cH p x az w k).2)
  else if kd=4 then ((cC p x az w k).1++cL p nm az.length,(cC p x az w k).2)
  else if kd=5 then ([.op qBI],k)
  else if kd=6 then (if o=1 then ((cH p x az w k).1++[.op qdD],(cH p x az w k).2)
   else (.num qgk (if o=3 then 4294967295 else 0)::.op qdC::(cH p x az (w+1) k).1++[.op qAp],(cH p x az (w+1) k).2))
  else if o=20 then ((cH p x az w k).1++.ref qdk (lT ((cH p x az w k).2+1))::(cI p x az w ((cH p x az w k).2+1)).1++[.op qdD,.op qdD,.lab (lT ((cH p x az w k).2+1))],(cI p x az w ((cH p x az w k).2+1)).2)
  else if o=21 then ((cH p x az w k).1++.op qdD::.ref qdk (lT ((cH p x az w k).2+1))::(cI p x az w ((cH p x az w k).2+1)).1++[.op qdD,.lab (lT ((cH p x az w k).2+1)),.op qdD],(cI p x az w ((cH p x az w k).2+1)).2)
  else ((cH p x az w k).1++.op qdC::(cI p x az (w+1) (cH p x az w k).2).1++(opN o).map .op,(cI p x az (w+1) (cH p x az w k).2).2)
def cH(p:Prg)(x:Fnc):List Ex→Nat→Nat→List Li×Nat
 | [],_,k=>([],k)
 | y::_,w,k=>cE p x y w k
def cI(p:Prg)(x:Fnc):List Ex→Nat→Nat→List Li×Nat
 | [],_,k=>([],k)
 | _::r,w,k=>cH p x r w k
def cC(p:Prg)(x:Fnc):List Ex→Nat→Nat→List Li×Nat
 | [],_,k=>([],k)
 | y::r,w,k=>((cE p x y w k).1++.op qdC::(cC p x r (w+1) (cE p x y w k).2).1,(cC p x r (w+1) (cE p x y w k).2).2)
end
mutual
def cS(p:Prg)(x:Fnc):Stm→Nat→List Str→List Li×Nat
 | .mk kd nm es b e,k,ls=>if kd=1 then ((cH p x es 0 k).1++[asL p x nm],(cH p x es 0 k).2)
  else if kd=2 then ((cH p x es 0 k).1++.num qh2 (gnI p (gi p nm))::.op qdC::(cI p x es 1 (cH p x es 0 k).2).1++[.ref qpU (gT (gi p nm))],(cI p x es 1 (cH p x es 0 k).2).2)
  else if kd=3 then (if e.length=0 then ((cH p x es 0 (k+1)).1++.ref qdk (lT (k+1))::(cB p x b (cH p x es 0 (k+1)).2 ls).1++[.lab (lT (k+1))],(cB p x b (cH p x es 0 (k+1)).2 ls).2)
   else ((cH p x es 0 (k+1)).1++.ref qdk (lT (k+1))::(cB p x b (cH p x es 0 (k+1)).2 ls).1++.ref qe9 (lT ((cB p x b (cH p x es 0 (k+1)).2 ls).2+1))::.lab (lT (k+1))::(cB p x e ((cB p x b (cH p x es 0 (k+1)).2 ls).2+1) ls).1++[.lab (lT ((cB p x b (cH p x es 0 (k+1)).2 ls).2+1))],(cB p x e ((cB p x b (cH p x es 0 (k+1)).2 ls).2+1) ls).2))
  else if kd=4 then (.lab (lT (k+1))::(cH p x es 0 (k+2)).1++.ref qdk (lT (k+2))::(cB p x b (cH p x es 0 (k+2)).2 (ls++[lT (k+1),lT (k+2)])).1++[.ref qe9 (lT (k+1)),.lab (lT (k+2))],(cB p x b (cH p x es 0 (k+2)).2 (ls++[lT (k+1),lT (k+2)])).2)
  else if kd=5 then ((cC p x es 0 k).1++cL p nm es.length,(cC p x es 0 k).2)
  else if kd=6 then ((cH p x es 0 k).1++[.num qxG (x.locals.length+1:Nat)],(cH p x es 0 k).2)
  else if kd=7 then ((cH p x es 0 k).1++[.op qBK],(cH p x es 0 k).2)
  else if kd=8 then ((cH p x es 0 k).1++[.op qiS],(cH p x es 0 k).2)
  else if kd=9 then ([.ref qe9 (ls.getD (ls.length - 1) [])],k) else ([.ref qe9 (ls.getD (ls.length - 2) [])],k)
def cB(p:Prg)(x:Fnc):List Stm→Nat→List Str→List Li×Nat
 | [],k,_=>([],k)
 | y::r,k,ls=>((cS p x y k ls).1++(cB p x r (cS p x y k ls).2 ls).1,(cB p x r (cS p x y k ls).2 ls).2)
end
def cF(p:Prg)(x:Fnc)(i k:Nat):List Li×Nat:=(.lab (fT i)::(if 0 < x.locals.length then [.num qgk 0] else [])++List.replicate x.locals.length (.op qdC)++(cB p x x.body k []).1++[.num qgk 0,.num qxG (x.locals.length+1:Nat)],(cB p x x.body k []).2)
def cFs(p:Prg):List Fnc→Nat→Nat→List Li×Nat
 | [],_,k=>([],k)
 | x::r,i,k=>((cF p x i k).1++(cFs p r (i+1) (cF p x i k).2).1,(cFs p r (i+1) (cF p x i k).2).2)
def cG(g:Glo)(i:Nat):List Li:=if g.kind=1 then [] else .lab (gT i)::g.init.map (.num qdN ·)++[.num qdM (max g.num 1 - (g.init.length:Int))]
def cGs:List Glo→Nat→List Li
 | [],_=>[]
 | g::r,i=>cG g i++cGs r (i+1)
def cP(p:Prg):List Li:=[.ref qh3 qkT,.ref qhk (fT (fi p qcU)),.num qgk 0,.op qiS]++(cFs p p.funcs 0 0).1++cGs p.globals 0++[.lab qkT]
def glN(g:Glo):Int:=if g.kind=2 then 1 else if g.kind=3 then g.num else 0
def qeP:List Glo→Int
 | []=>0
 | g::r=>glN g+qeP r
def qcW(p:Prg):Int:=100+qeP p.globals+60 * p.funcs.length+30 * qhy p.funcs
open Go Go.FL Go.RowKit
def qvP{c:UInt8}{l:List UInt8}(h:c ∉ l):fnd c l=none:=by
 induction l with
 | nil=>rfl
 | cons x l ih=>
  simp only [List.mem_cons,not_or] at h;have hx:¬ x=c:=fun e=>h.1 e.symm;simp [fnd,hx,ih h.2]
def qgY{c:UInt8}{l:List UInt8}(h:c ∉ l):qeA c l=(l,[],false):=by unfold qeA;rw [qvP h]
def qkQ{c:UInt8}{m:List UInt8}(h:c ∉ m)(cur r:List UInt8):qbH (c.toNat:Int) cur (m++c::r)=(cur++m)::splitB (c.toNat:Int) r:=by
 induction m generalizing cur with
 | nil=>simp [qbH,splitB]
 | cons x m ih=>
  simp only [List.mem_cons,not_or] at h;have hx:¬ (x.toNat:Int)=(c.toNat:Int):=fun e=>h.1 (u8_eq.2 e).symm;rw [List.cons_append,qbH,if_neg hx,ih h.2,List.append_assoc];rfl
def okL(c:UInt8):Bool:=qgf c || qfM c
def qv6:∀ k:Fin 256,okL (UInt8.ofNat k.val)=true→UInt8.ofNat k.val≠10∧UInt8.ofNat k.val≠32∧UInt8.ofNat k.val≠43∧UInt8.ofNat k.val≠58∧UInt8.ofNat k.val≠59:=by decide +kernel
def qg5{c:UInt8}(h:okL c=true):c≠10∧c≠32∧c≠43∧c≠58∧c≠59:=by
 have h1:=qv6 ⟨c.toNat,c.toNat_lt⟩;simp only [UInt8.ofNat_toNat] at h1;exact h1 h
abbrev qp7(w:Str):Prop:=w≠[]∧∀ c∈w,okL c=true
def qyK{l:List UInt8}{i:Nat}(h:qaX i l=true):∀ c∈l,okL c=true:=by
  induction l generalizing i with
  | nil=>intro c hc;cases hc
  | cons x l ih=>
    simp only [qaX,Bool.and_eq_true] at h;intro c hc;rcases List.mem_cons.1 hc with rfl|hc
    · have h1:=h.1
      simp only [qef,Bool.or_eq_true,Bool.and_eq_true] at h1;simp only [okL,Bool.or_eq_true];exact h1.imp id (·.1)
    · exact ih h.2 c hc
def qd6{l:Str}(h:qbd l=true):qp7 l:=by
 simp only [qbd,Bool.and_eq_true,decide_eq_true_eq] at h;exact ⟨h.1.1,qyK h.2⟩
def decW(v:Int):qp7 (qdq v):=⟨qlo _,fun c hc=>by simp [okL,List.all_eq_true.1 (qgZ v.toNat) c hc]⟩
def qch{w:Str}(h:qp7 w):(10:UInt8) ∉ w∧(43:UInt8) ∉ w∧(58:UInt8) ∉ w∧(59:UInt8) ∉ w:=
 ⟨fun m=>(qg5 (h.2 _ m)).1 rfl,fun m=>(qg5 (h.2 _ m)).2.2.1 rfl,fun m=>(qg5 (h.2 _ m)).2.2.2.1 rfl,fun m=>(qg5 (h.2 _ m)).2.2.2.2 rfl⟩
def qoe{m:Str}(h:qp7 m):qgm [] m=[m]:=by
 have h1:=qgz [] m [] fun x hx=>(qg5 (h.2 x hx)).2.1;rw [List.append_nil,List.nil_append] at h1;rw [h1,qgm,if_neg h.1]
def qy9{n:Str}(h:qp7 n):qiU (32::n)=[n]:=by
 unfold qiU splitB;rw [qeB,qgm,if_pos rfl,if_pos rfl,qoe h]
def qvN{n a:Str}(h:qp7 n)(ha:qp7 a):qiU (32::(n++32::a))=[n,a]:=by
 unfold qiU splitB;rw [qeB,qgm,if_pos rfl,if_pos rfl,qgz [] n _ fun x hx=>(qg5 (h.2 x hx)).2.1,List.nil_append,qgm,if_pos rfl,if_neg h.1,qoe ha]
def qvL{a:Str}(h:qp7 a):qiU (a++[58])=[a++[58]]:=by
 unfold qiU splitB;rw [qeB];have h1:=qgz [] (a++[58]) [] fun x hx=>by
  rcases List.mem_append.1 hx with h2|h2
  · exact (qg5 (h.2 x h2)).2.1
  · rw [List.mem_singleton.1 h2];decide
 rw [List.append_nil,List.nil_append] at h1;rw [h1,qgm,if_neg (by simp)]
def qlq{n:Str}(h:qp7 n):qjq 58 n=false:=by
 rw [qjq,decide_eq_false_iff_not];exact fun e=>(qch h).2.2.1 (List.mem_of_getLast? e)
def qyO(v:Int):qbd (qdq v)=false:=by
 cases hd:qdq v with
 | nil=>rfl
 | cons x l=>
  have h1:=List.all_eq_true.1 (qgZ v.toNat) x (by show x∈qdq v;rw [hd];exact List.mem_cons_self ..);simp only [qfM,Bool.and_eq_true,decide_eq_true_eq] at h1;have h2:qgf x=false:=by rw [Bool.eq_false_iff];simp only [qgf,ne_eq,Bool.and_eq_true,decide_eq_true_eq];omega
  simp [qbd,qaX,qef,h2]
def ok0(n:Str):Bool:=qbd n && (qcr defT.ins n).isSome && !qxQ defT n && !qg3 n
def ok1(n:Str):Bool:=qbd n && (qcr defT.ins n).isSome && qxQ defT n && !qg3 n
def qkB:Li→Prop
 | .op n=>ok0 n=true
 | .ref n a=>ok1 n=true∧qbd a=true
 | .num n v=>(ok1 n=true∨n=qdN∨n=qdM)∧U32 v
 | .lab a=>qbd a=true
def qho:Li→Ln
 | .op n=>⟨[],n,false,[],0⟩
 | .ref n a=>⟨[],n,true,a,0⟩
 | .num n v=>⟨[],n,true,[],v⟩
 | .lab a=>⟨a,[],false,[],0⟩
def liW:Li→Nat
 | .op _=>1
 | .ref _ _=>2
 | .num n v=>if n=qdN then 1 else if n=qdM then v.toNat else 2
 | .lab _=>0
def cW(l:List Li):Nat:=(l.map liW).sum
def qbN(l:List Li):List Str:=l.filterMap fun|.lab a=>some a|_=>none
def qdc(l:List Li):List Str:=l.filterMap fun|.ref _ a=>some a|_=>none
def qfs{n:Str}(h:ok1 n=true∨n=qdN∨n=qdM):qbd n=true:=by
 rcases h with h|rfl|rfl
 · simp only [ok1,Bool.and_eq_true] at h;exact h.1.1.1
 · decide
 · decide
def qlK{n a:Str}{x:Str×Int}(h:qbd n=true)(ha:qp7 a)(hx:qkF a=some x):qct (32::(n++32::a))=some ⟨[],n,true,x.1,x.2⟩∧(10:UInt8) ∉ 32::(n++32::a):=by
 have hn:=qd6 h;have hc:qeA 59 (32::(n++32::a))=(32::(n++32::a),[],false):=qgY (by simp [qch hn,qch ha]);refine ⟨?_,by simp [qch hn,qch ha]⟩;rw [qeE (W:=[n,a]) (lab:=[]) (R:=[n,a]) (by rw [hc];exact qvN hn ha) (by rw [qrh,if_neg (by rw [qlq hn];decide)]),qjd h,hx];rfl
def qvY{y:Li}(h:qkB y):qct (liI y)=some (qho y)∧(10:UInt8) ∉ liI y:=by
 cases y with
 | op n=>
  have h1:qbd n=true:=by simp only [qkB,ok0,Bool.and_eq_true] at h;exact h.1.1.1
  have hn:=qd6 h1;have hc:qeA 59 (32::n)=(32::n,[],false):=qgY (by simp [qch hn]);refine ⟨?_,by simp [liI,qch hn]⟩;rw [liI,qeE (W:=[n]) (lab:=[]) (R:=[n]) (by rw [hc];exact qy9 hn) (by rw [qrh,if_neg (by rw [qlq hn];decide)]),qjc h1];rfl
 | ref n a=>exact qlK (x:=(a,0)) (qfs (.inl h.1)) (qd6 h.2) (by rw [qkF,qgY (qch (qd6 h.2)).2.1,if_pos h.2];rfl)
 | num n v=>
  obtain ⟨h1,hv⟩:=h;obtain ⟨u,rfl⟩:=Int.eq_ofNat_of_zero_le hv.1;have:=hv.2;exact qlK (x:=([],(u:Int))) (qfs h1) (decW _) (by rw [qkF,qgY (qch (decW _)).2.1,if_neg (by rw [qyO];decide)];show (qjJ (Lib.decDigits u)).map _=_;rw [qlQ O];rfl)
 | lab a=>
  have hn:=qd6 h;have hc:qeA 59 (a++[58])=(a++[58],[],false):=qgY (by simp [qch hn]);refine ⟨?_,by simp [liI,qch hn]⟩;rw [liI,qeE (W:=[a++[58]]) (lab:=a) (R:=[]) (by rw [hc];exact qvL hn) (by rw [qrh,if_pos (by simp [qjq]),List.dropLast_concat];exact if_pos h)];rfl
def qk7{w:List Int}{y:Li}(h:qkB y):(qgt defT w (qho y)).length=w.length+liW y:=by
  have hs:∀ n,ok1 n=true→n≠[]∧n≠qdN∧n≠qdM∧qg3 n=false:=fun n h=>by
    simp only [ok1,Bool.and_eq_true,Bool.not_eq_true'] at h;exact ⟨(qd6 h.1.1.1).1,fun e=>by rw [e] at h;exact absurd h.2 Dc,fun e=>by rw [e] at h;exact absurd h.2 Dc,h.2⟩
  cases y with
  | op n=>
    simp only [qkB,ok0,Bool.and_eq_true,Bool.not_eq_true'] at h;have h1:=(qd6 h.1.1.1).1;have h2:n≠qcL:=fun e=>by rw [e] at h;exact absurd h.2 Dc
    simp [qgt,qho,qcq,h1,h2,h.2,liW]
  | ref n a => 
    obtain ⟨h1,h2,h3,h4⟩:=hs n h.1;simp [qgt,qho,qcq,h1,show n≠qcL from h3,h4,liW]
  | num n v=>
    obtain ⟨h0|rfl|rfl,hv⟩:=h
    · obtain ⟨h1,h2,h3,h4⟩:=hs n h0
      simp [qgt,qho,qcq,h1,show n≠qcL from h3,h4,liW,h2,h3]
    · simp [qgt,qho,qcq,liW,show ¬ qdN=qcL by decide,show qg3 qdN=true by decide]
    · simp [qgt,qho,qcq,liW,show qdM=qcL from rfl,show ¬ qcL=qdN by decide,show ¬ qcL=[] by decide]
  | lab a=>simp [qgt,qho,liW]
def qnD{w:List Int}{l:List (Str×Int)}{y:Li}(h:qkB y)(hf:∀ a,y=.lab a→qb7 l a=none)(hw:w.length+liW y≤65536):qeb defT w l (some (qho y))=0:=by
  have hl:=qk7 (w:=w) h;have h14:¬ defT.cells < ((qgt defT w (qho y)).length:Int):=by rw [hl];show ¬ (65536:Int) < _;omega
  cases y with
  | op n=>
    simp only [qkB,ok0,Bool.and_eq_true,Bool.not_eq_true'] at h;have h1:=(qd6 h.1.1.1).1;have h2:n≠[115,112,97,99,101]:=fun e=>by rw [e] at h;exact absurd h.2 Dc
    simp only [qho] at h14 ⊢;simp [qeb,h1,h2,h.1.1.2,h.1.2,h.2,h14]
  | ref n a=>
    have h:=h.1;simp only [ok1,Bool.and_eq_true,Bool.not_eq_true'] at h;have h1:=(qd6 h.1.1.1).1;have h2:n≠[115,112,97,99,101]:=fun e=>by rw [e] at h;exact absurd h.2 Dc
    simp only [qho] at h14 ⊢;simp [qeb,h1,h2,h.1.1.2,h.1.2,h.2,h14]
  | num n v=>
    obtain ⟨h0|rfl|rfl,hv⟩:=h
    · simp only [ok1,Bool.and_eq_true,Bool.not_eq_true'] at h0
      have h1:=(qd6 h0.1.1.1).1;simp only [qho] at h14 ⊢;simp [qeb,h1,h0.1.1.2,h0.1.2,h0.2,h14]
    all_goals
      simp only [qho] at h14 ⊢;simp [qeb,show qg3 qdN=true by decide,show qg3 qdM=true by decide,h14]
  | lab a=>
    have h1:=(qd6 h).1;simp [qeb,qho,h1,hf a rfl]
def qmH{w:List Int}{l:List (Str×Int)}{y:Li}(h:qkB y)(hf:∀ a,y=.lab a→qb7 l a=none)(a:Str):(qb7 (qm9 w l (qho y)) a).isSome=((qb7 l a).isSome || (qbN [y]).contains a):=by
 cases y with
 | lab b=>
  have h1:=(qd6 h).1;simp only [qm9,qho,h1,if_false];rw [qhT _ _ _ _ (hf b rfl)];by_cases e:a=b<;>simp [qbN,e]
 | _=>simp [qm9,qho,qbN]
def qvl(t:Tab)(i:Nat)(w:List Int)(l:List (Str×Int))(r:List (Int×Nat×Str×Int)):qi5 t i w l r (splitB 10 [])=.inr (w,l,r):=by
 show qi5 t i w l r [[]]=_;rw [qgP (show qct []=some ⟨[],[],false,[],0⟩ by decide) (by simp [qeb])];simp [qi5,qgt,qm9,qk6]
def qtP:∀ (L:List Li) (i:Nat) (w:List Int) (l:List (Str×Int)) (r:List (Int×Nat×Str×Int)),(∀ y∈L,qkB y)→(qbN L).Nodup→(∀ a∈qbN L,qb7 l a=none)→w.length+cW L≤65536 →
    ∃ w' l' r',qi5 defT i w l r (splitB 10 (cT L))=.inr (w',l',r')∧(∀ a,(qb7 l a).isSome=true∨a∈qbN L→(qb7 l' a).isSome=true)∧∀ x∈r',x∈r∨x.2.2.1∈qdc L
  | [],i,w,l,r,_,_,_,_=>⟨w,l,r,qvl ..,fun a h=>h.elim id fun h=>by (cases h),fun x h=>.inl h⟩
  | y::L,i,w,l,r,hk,hn,hf,hw=>by
    have hy:=hk y Mc;obtain ⟨h1,h2⟩:=qvY hy;have e1:qbN (y::L)=qbN [y]++qbN L:=by rw [qbN,qbN,qbN,← List.filterMap_append];rfl
    have e2:qdc (y::L)=qdc [y]++qdc L:=by rw [qdc,qdc,qdc,← List.filterMap_append];rfl
    rw [e1] at hn hf;rw [cW,List.map_cons,List.sum_cons] at hw;rw [List.nodup_append] at hn;have hf1:∀ a,y=.lab a→qb7 l a=none:=fun a e=>hf a (by subst e;simp [qbN]);have hs:splitB 10 (cT (y::L))=liI y::splitB 10 (cT L):=by
      have:=qkQ (c:=10) h2 [] (cT L);rw [qaj,liT,List.append_assoc];exact this
    have hg:=qmH (w:=w) hy hf1;obtain ⟨w',l',r',h3,h4,h5⟩:=qtP L (i+1) (qgt defT w (qho y)) (qm9 w l (qho y)) (qk6 defT w r i (qho y)) (fun z hz=>hk z (List.mem_cons_of_mem _ hz)) hn.2.1 (fun a ha=>by
      have:=hg a;rw [hf a (List.mem_append_right _ ha),show (qbN [y]).contains a=false by rw [← Bool.not_eq_true,List.contains_iff_mem];exact fun h=>hn.2.2 a h a ha rfl] at this;simpa using this) (by rw [qk7 hy,cW];omega)
    refine ⟨w',l',r',by rw [hs,qgP h1 (qnD hy hf1 O),h3],fun a ha=>h4 a ?_,fun x hx=>?_⟩
    · rw [hg a,e1,List.mem_append] at *
      rcases ha with ha|ha|ha
      · exact .inl (by rw [ha];rfl)
      · exact .inl (by rw [Bool.or_eq_true,List.contains_iff_mem];exact .inr ha)
      · exact .inr ha
    · rw [e2,List.mem_append]
      rcases h5 x hx with h6|h6
      · unfold qk6 qdG at h6
        split at h6
        · exact .inl h6
        split at h6
        · exact .inl h6
        split at h6
        · rename_i h7
          rcases List.mem_append.1 h6 with h8|h8
          · exact .inl h8
          · right;left
            rw [List.mem_singleton.1 h8];cases y<;>simp_all [qho,qdc]
        · exact .inl h6
      · exact .inr (.inr h6)
def quf{l:List (Str×Int)}:∀ (r:List (Int×Nat×Str×Int)) (w:List Int),(∀ x∈r,(qb7 l x.2.2.1).isSome=true)→∃ w',qlU l r w=.inr w'
 | [],w,_=>⟨w,rfl⟩
 | x::r,w,h=>by
  obtain ⟨a,ha⟩:=Option.isSome_iff_exists.1 (h x Mc);rw [qlU,ha];exact quf r _ fun y hy=>h y (List.mem_cons_of_mem _ hy)
def qyP:(qaO defT).1=0:=by decide +kernel
def qnF{L:List Li}(hk:∀ y∈L,qkB y)(hn:(qbN L).Nodup)(hr:∀ a∈qdc L,a∈qbN L)(hw:cW L≤65536)(hl:(cT L).length≤400000):∃ x,qhD defT (cT L)=.inr x:=by
 obtain ⟨w,l,r,h1,h2,h3⟩:=qtP L 0 [] [] [] hk hn (fun _ _=>rfl) (by simpa using hw);obtain ⟨w',h4⟩:=quf r w fun x hx=>h2 _ (.inr (hr _ ((h3 x hx).resolve_left (by simp))));exact ⟨_,by rw [qhD,if_neg (by simpa using qyP),if_neg O,h1];simp only [h4];rfl⟩
def qnU{l:Str}(h:l.all qfM=true)(i:Nat):qaX (i+1) l=true:=by
 induction l generalizing i with
 | nil=>rfl
 | cons c l ih=>
  simp only [List.all_cons,Bool.and_eq_true] at h;simp [qaX,qef,h.1,ih h.2]
def qcf{c:UInt8}{k:Nat}(hc:qgf c=true)(h:k≤99999):qbd (c::qdq k)=true:=by
 have h1:(qdq (k:Int)).length≤5:=by
  show (Lib.decDigits k).length≤5;rw [Lib.decDigits_length];exact qoG 4 k O
 have h2:=qnU (qgZ k) 0;simp only [qbd,qaX,qef,hc,Bool.true_or,Bool.true_and,Bool.and_eq_true,decide_eq_true_eq,List.length_cons];exact ⟨⟨by simp,by omega⟩,h2⟩
def qki{i j:Nat}(h:qdq (i:Int)=qdq (j:Int)):i=j:=by
 have h:Lib.decDigits i=Lib.decDigits j:=h;rw [← qfU i,h,qfU]
def qt8{i j:Nat}(h:lT i=lT j):i=j:=qki (List.cons.inj h).2
def qim(p:Prg)(ls:List Str)(a:Str):Prop:=(∃ i:Nat,i < p.funcs.length∧a=fT i)∨(∃ (i:Nat) (g:Glo),p.globals[i]?=some g∧g.kind≠1∧a=gT i)∨a∈ls
def lS(S:Nat→Prop)(a:Str):Prop:=∃ i,S i∧a=lT i
structure CG(Vq9:Li→Prop)(E D:Str→Prop)(L:List Li):Prop where
 ok:∀ y∈L,qkB y∧Vq9 y
 nd:(qbN L).Nodup
 mem:∀ a,a∈qbN L↔D a
 refs:∀ a∈qdc L,D a∨E a
def qhF(A B:List Li):cW (A++B)=cW A+cW B:=by simp [cW]
def qlJ(A B:List Li):qbN (A++B)=qbN A++qbN B:=List.filterMap_append ..
def qrK(A B:List Li):qdc (A++B)=qdc A++qdc B:=List.filterMap_append ..
section
variable{Vq9:Li→Prop}{E D D1 D2 E' D':Str→Prop}{A B L:List Li}{S S1 S2:Nat→Prop}
def CG.app(h1:CG Vq9 E D1 A)(h2:CG Vq9 E D2 B)(hd:∀ a,D1 a→D2 a→False)(hD:∀ a,D a↔D1 a∨D2 a):CG Vq9 E D (A++B) where
 ok y hy:=(List.mem_append.1 hy).elim (h1.ok y) (h2.ok y)
 nd:=by
  rw [qlJ,List.nodup_append];exact ⟨h1.nd,h2.nd,fun a ha b hb e=>hd a ((h1.mem a).1 ha) ((h2.mem a).1 (e▸hb))⟩
 mem a:=by rw [qlJ,List.mem_append,h1.mem,h2.mem,hD]
 refs a ha:=by
  rw [qrK,List.mem_append] at ha;rw [hD];rcases ha with ha|ha
  · exact (h1.refs a ha).imp .inl id
  · exact (h2.refs a ha).imp .inr id
def CG.tgt(h:CG Vq9 E D L)(hD:∀ a,D' a↔D a)(hE:∀ a,E a→E' a∨D' a):CG Vq9 E' D' L:=
 ⟨h.ok,h.nd,fun a=>(h.mem a).trans (hD a).symm,fun a ha=>(h.refs a ha).elim (fun k=>.inl ((hD a).2 k)) fun k=>(hE a k).symm⟩
def CG.nil:CG Vq9 E (lS fun _=>False) []:=⟨fun _ h=>(by cases h),List.nodup_nil,fun a=>⟨fun h=>(by cases h),fun ⟨_,h,_⟩=>h.elim⟩,fun _ h=>by cases h⟩
def CG.appS(h1:CG Vq9 E (lS S1) A)(h2:CG Vq9 E (lS S2) B)(hd:∀ i,S1 i→S2 i→False)(hS:∀ i,S i↔S1 i∨S2 i):CG Vq9 E (lS S) (A++B):=
 h1.app h2 (fun a ⟨i,h3,h4⟩ ⟨j,h5,h6⟩=>hd i h3 (qt8 (h4.symm.trans h6)▸h5)) fun a=>⟨fun ⟨i,h3,h4⟩=>((hS i).1 h3).imp (fun k=>⟨i,k,h4⟩) fun k=>⟨i,k,h4⟩,fun h=>h.elim (fun ⟨i,h3,h4⟩=>⟨i,(hS i).2 (.inl h3),h4⟩) fun ⟨i,h3,h4⟩=>⟨i,(hS i).2 (.inr h3),h4⟩⟩
def CG.c0{y:Li}(h:CG Vq9 E D L)(hy:qkB y∧Vq9 y)(hl:qbN [y]=[])(hr:∀ a∈qdc [y],E a):CG Vq9 E D (y::L):=
 CG.app (A:=[y]) (D1:=fun _=>False) ⟨fun z hz=>by rw [List.mem_singleton.1 hz];exact hy,by rw [hl];exact List.nodup_nil,fun a=>by rw [hl];simp,fun a ha=>.inr (hr a ha)⟩ h (fun _ h _=>h) fun a=>by simp
abbrev V2(y:Li):Prop:=liW y≤2
def CG.cop{n:Str}(h:CG V2 E D L)(hn:ok0 n=true):CG V2 E D (.op n::L):=h.c0 ⟨hn,(by decide:1≤2)⟩ rfl fun _ h=>by cases h
def CG.cref{n a:Str}(h:CG V2 E D L)(hn:ok1 n=true)(ha:qbd a=true)(hE:E a):CG V2 E D (.ref n a::L):=h.c0 ⟨⟨hn,ha⟩,Nat.le_refl 2⟩ rfl fun b hb=>by rw [show b=a from List.mem_singleton.1 hb];exact hE
def CG.cnum{n:Str}{v:Int}(h:CG V2 E D L)(hn:ok1 n=true)(hv:U32 v):CG V2 E D (.num n v::L):=h.c0 ⟨⟨.inl hn,hv⟩,by
  show liW _≤2;rw [liW];split
  · omega
  · split
    · rename_i e;subst e;exact absurd hn Dc
    · omega⟩ rfl fun _ h=>by cases h
def CG.one{a:Str}(ha:qbd a=true)(hV:Vq9 (.lab a)):CG Vq9 E (fun b=>b=a) [.lab a]:=⟨fun z hz=>by rw [List.mem_singleton.1 hz];exact ⟨ha,hV⟩,by simp [qbN],fun b=>by simp [qbN],fun _ h=>by cases h⟩
def CG.clab{j:Nat}(h:CG V2 E (lS S) L)(hj:j≤99999)(hS:¬ S j):CG V2 E (lS fun i=>i=j∨S i) (.lab (lT j)::L):=
 CG.appS (A:=[.lab (lT j)]) (S1:=fun i=>i=j) ((CG.one (qcf Dc hj) (Nat.zero_le _)).tgt (fun a=>by simp [lS,lT]) fun _ h=>.inl h) h (fun i h1 h2=>hS (h1▸h2)) fun _=>Iff.rfl
def CG.ops:∀ {l:List Str},(∀ n∈l,ok0 n=true)→CG V2 E (lS fun _=>False) (l.map .op)
 | [],_=>CG.nil
 | n::l,h=>(CG.ops fun m hm=>h m (List.mem_cons_of_mem _ hm)).cop (h n Mc)
end
structure CK(p:Prg)(ls:List Str)(N M k:Nat)(r:List Li×Nat):Prop where
 lo:k≤r.2
 hi:r.2≤k+2 * N
 len:r.1.length≤M
 cg:CG V2 (qim p ls) (lS fun i=>k < i∧i≤r.2) r.1
section
variable{p:Prg}{ls:List Str}{N M k:Nat}
def CK.leaf{L:List Li}(h:CG V2 (qim p ls) (lS fun _=>False) L)(hL:L.length≤M):CK p ls N M k (L,k):=⟨Nat.le_refl _,Nat.le_add_right ..,hL,h.tgt (fun a=>⟨fun ⟨i,h,_⟩=>by omega,fun ⟨_,h,_⟩=>h.elim⟩) fun a h=>.inl h⟩
def CK.nil:CK p ls N M k ([],k):=CK.leaf CG.nil (Nat.zero_le _)
def CK.tail{r:List Li×Nat}{N' M':Nat}{L:List Li}(h:CK p ls N M k r)(h2:CG V2 (qim p ls) (lS fun _=>False) L)(hN:N≤N')(hM:M+L.length≤M'):CK p ls N' M' k (r.1++L,r.2):=
 ⟨h.lo,by have:=h.hi;simp only;omega,by have:=h.len;simp only [List.length_append];omega,h.cg.appS h2 (fun _ _ k=>k) fun i=>by simp⟩
end
-- names
def qt1{T:List (Str×(Int×Int))}{nm:Str}{a:Int}(h:fdI T nm=some a):∃ e∈T,e.1=nm∧a=e.2.2:=by
 rw [fdI,Option.map_eq_some_iff] at h;obtain ⟨e,h1,h2⟩:=h;exact ⟨e,List.mem_of_find?_eq_some h1,by simpa using List.find?_some h1,h2.symm⟩
def fd_none{T:List (Str×(Int×Int))}{nm:Str}:fdI T nm=none↔∀ e∈T,e.1≠nm:=by
 rw [fdI,Option.map_eq_none_iff,List.find?_eq_none];simp
def qiK{x:Fnc}{nm:Str}{a:Int}(h:fdI (sE x) nm=some a):0≤a∧a < (szF x:Int):=by
 obtain ⟨e,h1,_,rfl⟩:=qt1 h;unfold szF;rcases List.mem_append.1 h1 with h1|h1
 all_goals
  obtain ⟨i,hi,rfl⟩:=List.mem_mapIdx.1 h1;simp only;omega
def qws{x:Fnc}{nm:Str}(h:nm∈x.params∨nm∈x.locals):∃ a,fdI (sE x) nm=some a:=by
 cases hf:fdI (sE x) nm with
 | some a=>exact ⟨a,rfl⟩
 | none=>
  have h0:=fd_none.1 hf;rcases h with h|h
  all_goals
   obtain ⟨i,hi,rfl⟩:=List.mem_iff_getElem.1 h
  · exact absurd rfl (h0 _ (List.mem_append_right _ (List.mem_mapIdx.2 ⟨i,hi,rfl⟩)))
  · exact absurd rfl (h0 _ (List.mem_append_left _ (List.mem_mapIdx.2 ⟨i,hi,rfl⟩)))
def qqX{p:Prg}{nm:Str}(h:0 < p.funcs.length):∃ i:Nat,fi p nm=(i:Int)∧i < p.funcs.length:=by
 unfold fi;cases hf:fdI (fE p) nm with
 | none=>exact ⟨0,rfl,h⟩
 | some a=>
  obtain ⟨e,h1,_,rfl⟩:=qt1 hf;obtain ⟨i,hi,rfl⟩:=List.mem_mapIdx.1 h1;exact ⟨i,rfl,hi⟩
def qgj{p:Prg}{x:Fnc}{nm:Str}{uk na:Int}(h:qgp p x (nm,uk,na)=0)(h0:uk≠0)(h4:uk≠4):((uk=1∨uk=2)∧∃ a,fdI (sE x) nm=some a)∨(fdI (sE x) nm=none∨uk=3)∧∃ (i:Nat) (g:Glo),gi p nm=(i:Int)∧p.globals[i]?=some g∧(uk=2∨g.kind≠1):=by
  unfold qgp at h;rw [if_neg h0] at h;split at h
  · cases h
  rename_i h1;split at h
  · cases h
  rename_i h2;have h2:=Classical.not_not.1 h2;simp only at h1 h2;by_cases hp:nm∈x.params∨nm∈x.locals
  · refine .inl ⟨?_,qws hp⟩
    have h3:(qaV p x nm).1.1=1∨(qaV p x nm).1.1=2:=by
      unfold qaV;split
      · exact .inl rfl
      · rename_i h5
        split
        · exact .inr rfl
        · rename_i h6
          rcases hp with hp|hp
          · exact absurd (idxOf_mem.2 hp) h5
          · exact absurd (idxOf_mem.2 hp) h6
    rcases h2 with h2|h2|h2
    · exact h2.2
    · omega
    · exact absurd h3 h2.1.1
  · have hs:fdI (sE x) nm=none:=fd_none.2 fun e he hn=>hp (by
      rcases List.mem_append.1 he with he|he;all_goals
        obtain ⟨i,hi,rfl⟩:=List.mem_mapIdx.1 he;subst hn
      · exact .inr (List.getElem_mem hi)
      · exact .inl (List.getElem_mem hi))
    refine .inr ⟨.inl hs,?_⟩;have hm:qaV p x nm=match (ents p).find? fun e=>decide (e.1=nm) with
      | some e=>(e.2,true)
      | none=>((0,0),false):=by
      rw [qaV,if_neg (fun k=>hp (.inl (idxOf_mem.1 k))),if_neg (fun k=>hp (.inr (idxOf_mem.1 k)))];rfl
    rw [show ents p=gE p++fE p from rfl,List.find?_append] at hm;cases hg:(gE p).find? fun e=>decide (e.1=nm) with
    | some e=>
      rw [hg] at hm;obtain ⟨i,hi,rfl⟩:=List.mem_mapIdx.1 (List.mem_of_find?_eq_some hg);refine ⟨i,p.globals[i],by rw [gi,fdI,hg];rfl,List.getElem?_eq_getElem hi,?_⟩;rw [hm] at h2;have hk:qjE p (i:Int)=p.globals[i].kind:=qej (List.getElem?_eq_getElem hi);simp only [Option.some_or,qg7,hk] at h2;omega
    | none=>
      rw [hg,Option.none_or] at hm;cases hf:(fE p).find? fun e=>decide (e.1=nm) with
      | none=>rw [hf] at hm;rw [hm] at h1;exact absurd rfl h1
      | some e=>
        rw [hf] at hm;obtain ⟨i,hi,rfl⟩:=List.mem_mapIdx.1 (List.mem_of_find?_eq_some hf);rw [hm] at h2;simp only [qg7] at h2;omega
structure PQ(p:Prg)(x:Fnc):Prop where
 f0:0 < p.funcs.length
 f64:p.funcs.length≤64
 g64:p.globals.length≤64
 gu:∀ g∈p.globals,U32 g.num
 p6:x.params.length≤6
 l12:x.locals.length≤12
def PQ.g{p:Prg}{x:Fnc}(h:PQ p x){i:Nat}{g:Glo}(hg:p.globals[i]?=some g):qbd (gT (i:Int))=true∧U32 (gnI p (i:Int)):=by
 obtain ⟨hi,rfl⟩:=List.getElem?_eq_some_iff.1 hg;have:=h.g64;exact ⟨qcf Dc O,by rw [gnI,Int.toNat_natCast,hg];exact h.gu _ (List.getElem_mem hi)⟩
def PQ.call{p:Prg}{x:Fnc}(h:PQ p x){ls:List Str}(nm:Str){n:Nat}(hn:n≤6):CG V2 (qim p ls) (lS fun _=>False) (cL p nm n)∧(cL p nm n).length≤2:=by
  obtain ⟨i,h1,h2⟩:=qqX (nm:=nm) h.f0;have h3:=h.f64;rw [cL,h1];refine ⟨CG.cref ?_ Dc (qcf Dc O) (.inl ⟨i,h2,Z⟩),?_⟩
  · split
    · exact CG.nil.cnum Dc ⟨by omega,by omega⟩
    · exact CG.nil
  · split<;>simp
def hN:List Ex→Nat
 | []=>0
 | y::_=>exN y
def iN:List Ex→Nat
 | []=>0
 | _::r=>hN r
def qra:∀ l:List Ex,hN l≤qbD l
 | []=>Nat.le_refl _
 | y::r=>by rw [hN,qbD];omega
def qkp:∀ y:Ex,0 < exN y
 | .mk ..=>by rw [exN];omega
def qrb:∀ l:List Ex,hN l+iN l≤qbD l
 | []=>Nat.le_refl _
 | y::r=>by have:=qra r;rw [hN,iN,qbD];omega
def qlR(o:Int):(opN o).length≤2∧∀ n∈opN o,ok0 n=true:=by
 unfold opN;have h:∀ l∈opL,l.length≤2∧∀ n∈l,ok0 n=true:=by decide +kernel
 by_cases hk:o.toNat < opL.length
 · rw [List.getD,List.getElem?_eq_getElem hk];exact h _ (List.getElem_mem hk)
 · rw [List.getD,List.getElem?_eq_none O];exact ⟨Nat.zero_le _,fun n h=>by cases h⟩
section
variable{p:Prg}{x:Fnc}(hq:PQ p x)
include hq
def qAT{ls:List Str}{nm:Str}{w:Nat}(hw:w≤9999)(h:qgp p x (nm,2,0)=0):CG V2 (qim p ls) (lS fun _=>False) [cN p x nm w]:=by
  have h6:=hq.p6;have h12:=hq.l12;unfold cN;rcases qgj h Dc Dc with ⟨_,a,ha⟩|⟨h0,i,g,hi,hg,_⟩
  · have h2:=qiK ha
    rw [ha];unfold szF at h2 ⊢;exact CG.nil.cnum Dc ⟨by omega,by omega⟩
  · rw [h0.resolve_right Dc,hi]
    obtain ⟨g1,g2⟩:=hq.g hg;dsimp only;split
    · exact CG.nil.cnum Dc g2
    · rename_i h3
      exact CG.nil.cref Dc g1 (.inr (.inl ⟨i,g,hg,fun e=>h3 (by rw [qej hg,e]),rfl⟩))
mutual
def qyH{ls:List Str}{lp:Nat}:∀ (e:Ex) (w k:Nat),exV e=true→exU e=true→(∀ nd∈ndX e lp,ndC p x nd=0)→k+2 * exN e≤99999→w+exN e≤9999→CK p ls (exN e) (8 * exN e) k (cE p x e w k)
  | .mk kd o n nm az,w,k,hv,hu,hd,hk,hw=>by
    obtain ⟨hc,hvs⟩:=qdI hv;obtain ⟨k1,k7,a1,a2,a3,a4⟩:=qb0 hc;simp only [exU,Bool.and_eq_true,decide_eq_true_eq] at hu;have hd0:=hd _ Mc;have hds:∀ nd∈qea az lp,ndC p x nd=0:=fun nd h=>hd nd (List.mem_cons_of_mem _ h);have hl:=qrb az;have hl1:=qra az;simp only [Ex.kind,Ex.op,Ex.args,Ex.name] at *;rw [exN] at hk hw ⊢;have H:=fun w k=>qvt (ls:=ls) az w k hvs hu.2 hds;have I:=fun w k=>qyz (ls:=ls) az w k hvs hu.2 hds;unfold cE;split
    · exact CK.leaf (CG.nil.cnum Dc hu.1) (by simp only [List.length_cons,List.length_nil];omega)
    split
    · rename_i h2
      exact CK.leaf (qAT hq O (by have e:qfO (.mk kd o n nm az)=(nm,2,0):=if_pos h2;rwa [ndC,e] at hd0)) (by simp only [List.length_cons,List.length_nil];omega)
    split
    · rename_i h2 h3
      obtain ⟨_,i,g,hi,hg,h4⟩:=(qgj (nm:=nm) (uk:=3) (na:=0) (by have e:qfO (.mk kd o n nm az)=(nm,3,0):=(if_neg h2).trans (if_pos h3);rwa [ndC,e] at hd0) Dc Dc).resolve_left (fun h=>by omega);obtain ⟨g1,g2⟩:=hq.g hg;rw [hi];exact (H w k O O).tail ((CG.nil.cref Dc g1 (.inr (.inl ⟨i,g,hg,h4.resolve_left Dc,rfl⟩))).cnum Dc g2) O (by simp only [List.length_cons,List.length_nil];omega)
    split
    · rename_i h4
      have ha:az.length≤6:=by have:=a2;simp only [qep,h4] at this;simpa using this
      obtain ⟨c1,c2⟩:=hq.call (ls:=ls) nm ha;exact (qvs (ls:=ls) az w k hvs hu.2 hds O O).tail c1 O O
    split
    · exact CK.leaf (CG.nil.cop Dc) (by simp only [List.length_cons,List.length_nil];omega)
    split
    · split
      · exact (H w k O O).tail (CG.nil.cop Dc) O (by simp only [List.length_cons,List.length_nil];omega)
      · have h:=H (w+1) k O O
        refine ⟨h.lo,by have:=h.hi;simp only;omega,by have:=h.len;simp only [List.length_append,List.length_cons,List.length_nil];omega,((h.cg.cop Dc).cnum Dc ?_).appS (CG.nil.cop Dc) (fun _ _ k=>k) fun i=>by simp⟩;split<;>exact ⟨by decide,by decide⟩
    have h1:=fun w'=>H w' k;split
    · have A:=H w k O O
      have B:=I w ((cH p x az w k).2+1) (by have:=A.hi;omega) O;have:=A.lo;have:=A.hi;have:=A.len;have:=B.lo;have:=B.hi;have:=B.len;refine ⟨by simp only;omega,by simp only;omega,by simp only [List.length_append,List.length_cons,List.length_nil];omega,?_⟩;refine CG.tgt (E:=fun a=>qim p ls a∨a=lT ((cH p x az w k).2+1)) ?_ (fun _=>Iff.rfl) fun a h=>h.imp id fun e=>⟨_,⟨?_,?_⟩,e⟩
      · exact ((A.cg.tgt (fun _=>Iff.rfl) fun a h=>.inl (.inl h)).appS ((B.cg.tgt (fun _=>Iff.rfl) fun a h=>.inl (.inl h)).cref Dc (qcf Dc O) (.inr rfl)) (S:=fun i=>(k < i∧i≤(cH p x az w k).2)∨((cH p x az w k).2+1 < i∧i≤(cI p x az w ((cH p x az w k).2+1)).2)) (fun i h1 h2=>by omega) fun i=>Iff.rfl).appS (((CG.nil.clab O id).cop Dc).cop Dc) (fun i h1 h2=>by simp only [or_false] at h2;omega) fun i=>by simp only [or_false];omega
      · omega
      · simp only;omega
    split
    · have A:=H w k O O
      have B:=I w ((cH p x az w k).2+1) (by have:=A.hi;omega) O;have:=A.lo;have:=A.hi;have:=A.len;have:=B.lo;have:=B.hi;have:=B.len;refine ⟨by simp only;omega,by simp only;omega,by simp only [List.length_append,List.length_cons,List.length_nil];omega,?_⟩;refine CG.tgt (E:=fun a=>qim p ls a∨a=lT ((cH p x az w k).2+1)) ?_ (fun _=>Iff.rfl) fun a h=>h.imp id fun e=>⟨_,⟨?_,?_⟩,e⟩
      · exact ((A.cg.tgt (fun _=>Iff.rfl) fun a h=>.inl (.inl h)).appS (((B.cg.tgt (fun _=>Iff.rfl) fun a h=>.inl (.inl h)).cref Dc (qcf Dc O) (.inr rfl)).cop Dc) (S:=fun i=>(k < i∧i≤(cH p x az w k).2)∨((cH p x az w k).2+1 < i∧i≤(cI p x az w ((cH p x az w k).2+1)).2)) (fun i h1 h2=>by omega) fun i=>Iff.rfl).appS (((CG.nil.cop Dc).clab O id).cop Dc) (fun i h1 h2=>by simp only [or_false] at h2;omega) fun i=>by simp only [or_false];omega
      · omega
      · simp only;omega
    · have A:=H w k O O
      have B:=I (w+1) (cH p x az w k).2 (by have:=A.hi;omega) O;have:=A.lo;have:=A.hi;have:=A.len;have:=B.lo;have:=B.hi;have:=B.len;obtain ⟨o1,o2⟩:=qlR o;exact ⟨by simp only;omega,by simp only;omega,by simp only [List.length_append,List.length_cons,List.length_nil,List.length_map];omega,(A.cg.appS (B.cg.cop Dc) (S:=fun i=>k < i∧i≤(cI p x az (w+1) (cH p x az w k).2).2) (fun i h1 h2=>by omega) fun i=>by omega).appS (CG.ops o2) (fun _ _ k=>k) fun i=>by simp⟩
def qvt{ls:List Str}{lp:Nat}:∀ (l:List Ex) (w k:Nat),qgy l=true→qiT l=true→(∀ nd∈qea l lp,ndC p x nd=0)→k+2 * hN l≤99999→w+hN l≤9999→CK p ls (hN l) (8 * hN l) k (cH p x l w k)
 | [],w,k,_,_,_,_,_=>by unfold cH;exact CK.nil
 | y::r,w,k,hv,hu,hd,hk,hw=>by
  simp only [qgy,qiT,Bool.and_eq_true] at hv hu;rw [hN] at *;unfold cH;exact qyH y w k hv.1 hu.1 (fun nd h=>hd nd (List.mem_append_left _ h)) hk hw
def qyz{ls:List Str}{lp:Nat}:∀ (l:List Ex) (w k:Nat),qgy l=true→qiT l=true→(∀ nd∈qea l lp,ndC p x nd=0)→k+2 * iN l≤99999→w+iN l≤9999→CK p ls (iN l) (8 * iN l) k (cI p x l w k)
 | [],w,k,_,_,_,_,_=>by unfold cI;exact CK.nil
 | y::r,w,k,hv,hu,hd,hk,hw=>by
  simp only [qgy,qiT,Bool.and_eq_true] at hv hu;rw [iN] at *;unfold cI;exact qvt r w k hv.2 hu.2 (fun nd h=>hd nd (List.mem_append_right _ h)) hk hw
def qvs{ls:List Str}{lp:Nat}:∀ (l:List Ex) (w k:Nat),qgy l=true→qiT l=true→(∀ nd∈qea l lp,ndC p x nd=0)→k+2 * qbD l≤99999→w+qbD l≤9999→CK p ls (qbD l) (8 * qbD l+l.length) k (cC p x l w k)
 | [],w,k,_,_,_,_,_=>by unfold cC;exact CK.nil
 | y::r,w,k,hv,hu,hd,hk,hw=>by
  simp only [qgy,qiT,Bool.and_eq_true] at hv hu;have hp:=qkp y;rw [qbD] at *;unfold cC;have A:=qyH (ls:=ls) y w k hv.1 hu.1 (fun nd h=>hd nd (List.mem_append_left _ h)) O O;have B:=qvs (ls:=ls) r (w+1) (cE p x y w k).2 hv.2 hu.2 (fun nd h=>hd nd (List.mem_append_right _ h)) (by have:=A.hi;omega) O;have:=A.lo;have:=A.hi;have:=A.len;have:=B.lo;have:=B.hi;have:=B.len;exact ⟨by simp only;omega,by simp only;omega,by simp only [List.length_append,List.length_cons,List.length_nil];omega,A.cg.appS (B.cg.cop Dc) (fun i h1 h2=>by omega) fun i=>by simp only;omega⟩
end
end
end Go.Proofs.YtflplmcjbppfcaaGreatDoor
namespace Go.FL
open Go Go.RowKit
section
variable{P:Program}{TT:qa5}{D n:Nat}{Q:qbC}{fr:Fr}{L K:Hl}{s s0:World}{ops:Array Oper}{rest:List Oper}{d ty:Nat}{pos:String}{af:Array Edge}
def qc0{P:Program}{TT:qa5}{D:Nat}{fr:Fr}{ty:Nat}{K:Hl}{s0:World}{κ:Type} [DecidableEq κ] {dk:TypeDesc} {kf:κ→Value} (KK:KeyK κ dk kf) {t b:Nat} {x y:Operand} {z:Value} (hm:qfe P t dk z) {es:List (κ×Value×Nat)} {k:κ} (hx:lk fr x=some (.map (some b))) (hy:lk fr y=some (kf k)) (hi:MapS s0 kf b es) :
  QE P TT D fr (.lookup t x y false) ty K s0 ((qaW es k).getD z):=fun hT dst pos af g ρ hρ L s ho hl hK=>by
 obtain ⟨ck,hb⟩:=hi.le (hl.trans (qei ho));simp only [execOp,hρ x _ hx,hρ y _ hy,Sem.run_bind,qd3 KK hm hb,Result.andThen_ok,Sem.run_pure];rfl
end
end Go.FL
namespace Go.Proofs.YtflplmcjbppfcaaGreatDoor
open Go Go.FL Go.RowKit
section
variable{p:Prg}{x:Fnc}{e y z:Ex}{az:List Ex}{w k j:Nat}
def qeX(h:az[0]?=some y):cH p x az w k=cE p x y w k:=by
 match az,h with
 | _::_,h=>simp at h;subst h;unfold cH;rfl
def qqG(h:az[1]?=some y):cI p x az w k=cE p x y w k:=by
 match az,h with
 | _::r,h=>unfold cI;exact qeX (by simpa using h)
def qAO(h:az[j]?=some y):cC p x (az.drop j) w k=((cE p x y w k).1++.op qdC::(cC p x (az.drop (j+1)) (w+1) (cE p x y w k).2).1,(cC p x (az.drop (j+1)) (w+1) (cE p x y w k).2).2):=by
 obtain ⟨hk,rfl⟩:=List.getElem?_eq_some_iff.1 h;rw [List.drop_eq_getElem_cons hk,cC]
def cX_1(h:e.kind=1):cE p x e w k=([.num qgk e.num],k):=by
 obtain ⟨kd,o,n,nm,az⟩:=e;unfold cE;exact if_pos h
def cX_2(h:e.kind=2):cE p x e w k=([cN p x e.name w],k):=by
 obtain ⟨kd,o,n,nm,az⟩:=e;have h:kd=2:=h;subst h;unfold cE;rfl
def cX_3(h:e.kind=3)(hy:e.args[0]?=some y):cE p x e w k=((cE p x y w k).1++[.num qh2 (gnI p (gi p e.name)),.ref qpT (gT (gi p e.name))],(cE p x y w k).2):=by
 obtain ⟨kd,o,n,nm,az⟩:=e;have h:kd=3:=h;subst h;simp only [cE,Int.reduceEq,↓reduceIte,qeX (az:=az) hy,Ex.name]
def cX_4(h:e.kind=4):cE p x e w k=((cC p x e.args w k).1++cL p e.name e.args.length,(cC p x e.args w k).2):=by
 obtain ⟨kd,o,n,nm,az⟩:=e;have h:kd=4:=h;subst h;unfold cE;rfl
def cX_5(h:e.kind=5):cE p x e w k=([.op qBI],k):=by
 obtain ⟨kd,o,n,nm,az⟩:=e;have h:kd=5:=h;subst h;unfold cE;rfl
def cX_6(h:e.kind=6)(ho:e.op=1)(hy:e.args[0]?=some y):cE p x e w k=((cE p x y w k).1++[.op qdD],(cE p x y w k).2):=by
 obtain ⟨kd,o,n,nm,az⟩:=e;have h:kd=6:=h;have ho:o=1:=ho;subst h;subst ho;simp only [cE,Int.reduceEq,↓reduceIte,qeX (az:=az) hy]
def cX_7(h:e.kind=6)(ho:¬ e.op=1)(hy:e.args[0]?=some y):cE p x e w k=(.num qgk (if e.op=3 then 4294967295 else 0)::.op qdC::(cE p x y (w+1) k).1++[.op qAp],(cE p x y (w+1) k).2):=by
 obtain ⟨kd,o,n,nm,az⟩:=e;have h:kd=6:=h;subst h;simp only [cE,Int.reduceEq,↓reduceIte,qeX (az:=az) hy,if_neg (show ¬ o=1 from ho),Ex.op];rfl
section
variable(h:e.kind=7)(hy:e.args[0]?=some y)(hz:e.args[1]?=some z)
include h hy hz
def qyE(ho:e.op=20):cE p x e w k=((cE p x y w k).1++.ref qdk (lT ((cE p x y w k).2+1))::(cE p x z w ((cE p x y w k).2+1)).1++[.op qdD,.op qdD,.lab (lT ((cE p x y w k).2+1))],(cE p x z w ((cE p x y w k).2+1)).2):=by
 obtain ⟨kd,o,n,nm,az⟩:=e;have h:kd=7:=h;have ho:o=20:=ho;subst h;subst ho;simp only [cE,Int.reduceEq,↓reduceIte,qeX (az:=az) hy,qqG (az:=az) hz]
def qyF(ho:e.op=21):cE p x e w k=((cE p x y w k).1++.op qdD::.ref qdk (lT ((cE p x y w k).2+1))::(cE p x z w ((cE p x y w k).2+1)).1++[.op qdD,.lab (lT ((cE p x y w k).2+1)),.op qdD],(cE p x z w ((cE p x y w k).2+1)).2):=by
 obtain ⟨kd,o,n,nm,az⟩:=e;have h:kd=7:=h;have ho:o=21:=ho;subst h;subst ho;simp only [cE,Int.reduceEq,↓reduceIte,qeX (az:=az) hy,qqG (az:=az) hz]
def qyG(ho:¬ e.op=20)(ho2:¬ e.op=21):cE p x e w k=((cE p x y w k).1++.op qdC::(cE p x z (w+1) (cE p x y w k).2).1++(opN e.op).map .op,(cE p x z (w+1) (cE p x y w k).2).2):=by
 obtain ⟨kd,o,n,nm,az⟩:=e;have h:kd=7:=h;subst h;simp only [cE,Int.reduceEq,↓reduceIte,qeX (az:=az) hy,qqG (az:=az) hz,if_neg (show ¬ o=20 from ho),if_neg (show ¬ o=21 from ho2),Ex.op]
end
mutual
def qkf:∀ (e:Ex) (w k:Nat),(cE p x e w k).2≤k+2 * exN e
 | .mk kd o n nm az,w,k=>by
  have a:=qqF az w k;have b:=qqF az (w+1) k;have c:=qvr az w k;have d:=qvu az w ((cH p x az w k).2+1);have f:=qvu az (w+1) (cH p x az w k).2;have g:=qrb az;rw [exN];unfold cE;repeat' split
  all_goals (simp only;omega)
def qqF:∀ (l:List Ex) (w k:Nat),(cH p x l w k).2≤k+2 * hN l
 | [],w,k=>by unfold cH;exact Nat.le_refl _
 | y::r,w,k=>by unfold cH;rw [hN];exact qkf y w k
def qvu:∀ (l:List Ex) (w k:Nat),(cI p x l w k).2≤k+2 * iN l
 | [],w,k=>by unfold cI;exact Nat.le_refl _
 | y::r,w,k=>by unfold cI;rw [iN];exact qqF r w k
def qvr:∀ (l:List Ex) (w k:Nat),(cC p x l w k).2≤k+2 * qbD l
 | [],w,k=>by unfold cC;exact Nat.le_refl _
 | y::r,w,k=>by
  have a:=qkf y w k;have b:=qvr r (w+1) (cE p x y w k).2;unfold cC;rw [qbD];simp only;omega
end
def XOK(p:Prg)(x:Fnc)(e:Ex):Prop:=exV e=true∧∃ lp,∀ nd∈ndX e lp,ndC p x nd=0
def XsOK(p:Prg)(x:Fnc)(l:List Ex):Prop:=qgy l=true∧∃ lp,∀ nd∈qea l lp,ndC p x nd=0
def XsOK.at_:∀ {l:List Ex} {j:Nat},XsOK p x l→l[j]?=some y→XOK p x y
 | z::r,0,⟨h1,lp,h2⟩,h=>by
  simp at h;subst h;simp only [qgy,Bool.and_eq_true] at h1;exact ⟨h1.1,lp,fun nd k=>h2 nd (List.mem_append_left _ k)⟩
 | z::r,j+1,⟨h1,lp,h2⟩,h=>by
  simp only [qgy,Bool.and_eq_true] at h1;exact XsOK.at_ (l:=r) ⟨h1.2,lp,fun nd k=>h2 nd (List.mem_append_right _ k)⟩ (by simpa using h)
def XOK.args(h:XOK p x e):XsOK p x e.args:=by
 obtain ⟨kd,o,n,nm,az⟩:=e;obtain ⟨h,lp,hd⟩:=h;exact ⟨(qdI h).2,lp,fun nd k=>hd nd (List.mem_cons_of_mem _ k)⟩
def qds:∀ {l:List Ex} {j:Nat},l[j]?=some y→qbD (l.drop j)=exN y+qbD (l.drop (j+1))
 | z::r,0,h=>by simp at h;subst h;simp only [List.drop_zero,List.drop_succ_cons,qbD]
 | z::r,j+1,h=>by simp only [List.drop_succ_cons];exact qds (by simpa using h)
def qvG(hy:e.args[0]?=some y):exN e=1+exN y+qbD (e.args.drop 1):=by
 obtain ⟨kd,o,n,nm,az⟩:=e;have h:=qds (l:=az) (j:=0) hy;rw [List.drop_zero] at h;rw [exN,h,← Nat.add_assoc];rfl
def qA2(hy:e.args[0]?=some y)(hz:e.args[1]?=some z):1+exN y+exN z≤exN e:=by
 rw [qvG hy,qds hz];omega
def nm_2(h:XOK p x e)(hk:e.kind=2):(∃ a,fdI (sE x) e.name=some a)∨fdI (sE x) e.name=none∧∃ (i:Nat) (g:Glo),gi p e.name=(i:Int)∧p.globals[i]?=some g:=by
 obtain ⟨kd,o,n,nm,az⟩:=e;obtain ⟨_,lp,hd⟩:=h;have hd:=hd _ Mc;rw [ndC,qfO,if_pos hk] at hd;rcases qgj hd Dc Dc with ⟨_,h1⟩|⟨h1,i,g,h2,h3,_⟩
 · exact .inl h1
 · exact .inr ⟨h1.resolve_right Dc,i,g,h2,h3⟩
def nm_3(h:XOK p x e)(hk:e.kind=3):∃ (i:Nat) (g:Glo),gi p e.name=(i:Int)∧p.globals[i]?=some g:=by
 obtain ⟨kd,o,n,nm,az⟩:=e;obtain ⟨_,lp,hd⟩:=h;have hd:=hd _ Mc;have hk:kd=3:=hk;subst hk;rw [ndC,qfO] at hd;obtain ⟨_,i,g,h2,h3,_⟩:=(qgj (x:=x) (nm:=nm) (uk:=3) (na:=0) hd Dc Dc).resolve_left (fun h=>absurd h.1 Dc);exact ⟨i,g,h2,h3⟩
def qon{i:Nat}{g:Glo}(h:p.globals[i]?=some g):gnI p (i:Int)=g.num:=by rw [gnI,Int.toNat_natCast,h]
def qkq(h:XOK p x e):qcJ e.kind≤e.args.length∧1≤e.kind∧e.kind≤7∧(e.kind=7→4≤e.op∧e.op≤21):=by
 obtain ⟨a1,a2,a3,a4,a5,a6⟩:=qb0 (qdI h.1).1;exact ⟨a3,a1,a2,fun k=>⟨(a6 k).1,(a6 k).2⟩⟩
def cN_s{nm:Str}{a:Int}(h:fdI (sE x) nm=some a):cN p x nm w=.num qmf ((szF x:Int)+(w:Int) - a):=by rw [cN,h]
section
variable{nm:Str}{i:Nat}{g:Glo}(h:fdI (sE x) nm=none)(hi:gi p nm=(i:Int))(hg:p.globals[i]?=some g)
include h hi hg
def cN_c(hc:g.kind=1):cN p x nm w=.num qgk g.num:=by rw [cN,h,hi,qej hg,qon hg];exact if_pos hc
def cN_g(hc:¬ g.kind=1):cN p x nm w=.ref qxF (gT (i:Int)):=by rw [cN,h,hi,qej hg];exact if_neg hc
end
end
def qfr{p:Prg}{x:Fnc}{kd:Int}{nm:Str}{es:List Ex}{b e:List Stm}{lp:Nat}(h:∀ nd∈ndS (.mk kd nm es b e) lp,ndC p x nd=0):ndC p x (.st (.mk kd nm es b e) lp)=0∧(∀ nd∈qea es lp,ndC p x nd=0)∧(∀ nd∈qcG b (if kd=4 then lp+1 else lp),ndC p x nd=0)∧∀ nd∈qcG e (if kd=4 then lp+1 else lp),ndC p x nd=0:=by
 rw [ndS] at h;exact ⟨h _ Mc,fun nd k=>h nd (List.mem_cons_of_mem _ (List.mem_append_left _ k)),fun nd k=>h nd (List.mem_cons_of_mem _ (List.mem_append_right _ (List.mem_append_left _ k))),fun nd k=>h nd (List.mem_cons_of_mem _ (List.mem_append_right _ (List.mem_append_right _ k)))⟩
section
variable{p:Prg}{x:Fnc}{y:Stm}{e f:Ex}{k j:Nat}{ls:List Str}
def qAM{nm:Str}{a:Int}(h:fdI (sE x) nm=some a):asL p x nm=.num qiR ((szF x:Int) - a):=by rw [asL,h]
def qAL{nm:Str}{i:Nat}(h:fdI (sE x) nm=none)(hi:gi p nm=(i:Int)):asL p x nm=.ref qpV (gT (i:Int)):=by rw [asL,h,hi]
def qAN{l:List Stm}(h:l[j]?=some y):cB p x (l.drop j) k ls=((cS p x y k ls).1++(cB p x (l.drop (j+1)) (cS p x y k ls).2 ls).1,(cB p x (l.drop (j+1)) (cS p x y k ls).2 ls).2):=by
 obtain ⟨hk,rfl⟩:=List.getElem?_eq_some_iff.1 h;rw [List.drop_eq_getElem_cons hk,cB]
def cS_1(h:y.kind=1)(he:y.exprs[0]?=some e):cS p x y k ls=((cE p x e 0 k).1++[asL p x y.name],(cE p x e 0 k).2):=by
 obtain ⟨kd,nm,es,b,l⟩:=y;have h:kd=1:=h;subst h;simp only [cS,Int.reduceEq,↓reduceIte,qeX (az:=es) he,Stm.name]
def cS_2(h:y.kind=2)(he:y.exprs[0]?=some e)(hf:y.exprs[1]?=some f):cS p x y k ls=((cE p x e 0 k).1++.num qh2 (gnI p (gi p y.name))::.op qdC::(cE p x f 1 (cE p x e 0 k).2).1++[.ref qpU (gT (gi p y.name))],(cE p x f 1 (cE p x e 0 k).2).2):=by
 obtain ⟨kd,nm,es,b,l⟩:=y;have h:kd=2:=h;subst h;simp only [cS,Int.reduceEq,↓reduceIte,qeX (az:=es) he,qqG (az:=es) hf,Stm.name]
def cS_3(h:y.kind=3)(he:y.exprs[0]?=some e)(hl:y.els=[]):cS p x y k ls=((cE p x e 0 (k+1)).1++.ref qdk (lT (k+1))::(cB p x y.body (cE p x e 0 (k+1)).2 ls).1++[.lab (lT (k+1))],(cB p x y.body (cE p x e 0 (k+1)).2 ls).2):=by
 obtain ⟨kd,nm,es,b,l⟩:=y;have h:kd=3:=h;have hl:l=[]:=hl;subst h;subst hl;simp only [cS,Int.reduceEq,↓reduceIte,qeX (az:=es) he,Stm.body,List.length_nil]
def qyC(h:y.kind=3)(he:y.exprs[0]?=some e)(hl:y.els.length≠0):cS p x y k ls=((cE p x e 0 (k+1)).1++.ref qdk (lT (k+1))::(cB p x y.body (cE p x e 0 (k+1)).2 ls).1++.ref qe9 (lT ((cB p x y.body (cE p x e 0 (k+1)).2 ls).2+1))::.lab (lT (k+1))::(cB p x y.els ((cB p x y.body (cE p x e 0 (k+1)).2 ls).2+1) ls).1++[.lab (lT ((cB p x y.body (cE p x e 0 (k+1)).2 ls).2+1))],(cB p x y.els ((cB p x y.body (cE p x e 0 (k+1)).2 ls).2+1) ls).2):=by
 obtain ⟨kd,nm,es,b,l⟩:=y;have h:kd=3:=h;subst h;simp only [cS,Int.reduceEq,↓reduceIte,qeX (az:=es) he,if_neg (show ¬ l.length=0 from hl),Stm.body,Stm.els]
def cS_4(h:y.kind=4)(he:y.exprs[0]?=some e):cS p x y k ls=(.lab (lT (k+1))::(cE p x e 0 (k+2)).1++.ref qdk (lT (k+2))::(cB p x y.body (cE p x e 0 (k+2)).2 (ls++[lT (k+1),lT (k+2)])).1++[.ref qe9 (lT (k+1)),.lab (lT (k+2))],(cB p x y.body (cE p x e 0 (k+2)).2 (ls++[lT (k+1),lT (k+2)])).2):=by
 obtain ⟨kd,nm,es,b,l⟩:=y;have h:kd=4:=h;subst h;simp only [cS,Int.reduceEq,↓reduceIte,qeX (az:=es) he,Stm.body]
def cS_5(h:y.kind=5):cS p x y k ls=((cC p x y.exprs 0 k).1++cL p y.name y.exprs.length,(cC p x y.exprs 0 k).2):=by
 obtain ⟨kd,nm,es,b,l⟩:=y;have h:kd=5:=h;subst h;unfold cS;rfl
def cS_6(h:y.kind=6)(he:y.exprs[0]?=some e):cS p x y k ls=((cE p x e 0 k).1++[.num qxG (x.locals.length+1:Nat)],(cE p x e 0 k).2):=by
 obtain ⟨kd,nm,es,b,l⟩:=y;have h:kd=6:=h;subst h;simp only [cS,Int.reduceEq,↓reduceIte,qeX (az:=es) he]
def cS_7(h:y.kind=7)(he:y.exprs[0]?=some e):cS p x y k ls=((cE p x e 0 k).1++[.op qBK],(cE p x e 0 k).2):=by
 obtain ⟨kd,nm,es,b,l⟩:=y;have h:kd=7:=h;subst h;simp only [cS,Int.reduceEq,↓reduceIte,qeX (az:=es) he]
def cS_8(h:y.kind=8)(he:y.exprs[0]?=some e):cS p x y k ls=((cE p x e 0 k).1++[.op qiS],(cE p x e 0 k).2):=by
 obtain ⟨kd,nm,es,b,l⟩:=y;have h:kd=8:=h;subst h;simp only [cS,Int.reduceEq,↓reduceIte,qeX (az:=es) he]
def cS_9(h:y.kind=9):cS p x y k ls=([.ref qe9 (ls.getD (ls.length - 1) [])],k):=by
 obtain ⟨kd,nm,es,b,l⟩:=y;have h:kd=9:=h;subst h;unfold cS;rfl
def qAU(h:y.kind=10):cS p x y k ls=([.ref qe9 (ls.getD (ls.length - 2) [])],k):=by
 obtain ⟨kd,nm,es,b,l⟩:=y;have h:kd=10:=h;subst h;unfold cS;rfl
mutual
def qyD:∀ (y:Stm) (k:Nat) (ls:List Str),(cS p x y k ls).2≤k+2 * stN y
 | .mk kd nm es b e,k,ls=>by
  have a:=fun k=>qqF (p:=p) (x:=x) es 0 k;have a1:=a k;have a2:=a (k+1);have a3:=a (k+2);have c:=qvr (p:=p) (x:=x) es 0 k;have d:=qvu (p:=p) (x:=x) es 1 (cH p x es 0 k).2;have f:=qmm b (cH p x es 0 (k+1)).2 ls;have g:=qmm e ((cB p x b (cH p x es 0 (k+1)).2 ls).2+1) ls;have i:=qmm b (cH p x es 0 (k+2)).2 (ls++[lT (k+1),lT (k+2)]);have h:=qrb es;have h2:=qra es;rw [stN];unfold cS;repeat' split
  all_goals (simp only;omega)
def qmm:∀ (l:List Stm) (k:Nat) (ls:List Str),(cB p x l k ls).2≤k+2 * qbr l
 | [],k,ls=>by unfold cB;exact Nat.le_refl _
 | y::r,k,ls=>by
  have a:=qyD y k ls;have b:=qmm r (cS p x y k ls).2 ls;unfold cB;rw [qbr];simp only;omega
end
def SmK(p:Prg)(x:Fnc)(y:Stm)(lp lv:Nat):Prop:=stV y lv=true∧∀ nd∈ndS y lp,ndC p x nd=0
def SbK(p:Prg)(x:Fnc)(l:List Stm)(lp lv:Nat):Prop:=qdP l lv=true∧∀ nd∈qcG l lp,ndC p x nd=0
def SbK.at_{lp lv:Nat}:∀ {l:List Stm} {j:Nat},SbK p x l lp lv→l[j]?=some y→SmK p x y lp lv
 | z::r,0,⟨h1,h2⟩,h=>by
  simp at h;subst h;simp only [qdP,Bool.and_eq_true] at h1;exact ⟨h1.1,fun nd k=>h2 nd (List.mem_append_left _ k)⟩
 | z::r,j+1,⟨h1,h2⟩,h=>by
  simp only [qdP,Bool.and_eq_true] at h1;exact SbK.at_ (l:=r) ⟨h1.2,fun nd k=>h2 nd (List.mem_append_right _ k)⟩ (by simpa using h)
def ql5:∀ {l:List Stm} {j:Nat},l[j]?=some y→qbr (l.drop j)=stN y+qbr (l.drop (j+1))
 | z::r,0,h=>by simp at h;subst h;simp only [List.drop_zero,List.drop_succ_cons,qbr]
 | z::r,j+1,h=>by simp only [List.drop_succ_cons];exact ql5 (by simpa using h)
def SmK.parts{lp lv:Nat}(h:SmK p x y lp lv):lv≤16∧XsOK p x y.exprs∧SbK p x y.body (if y.kind=4 then lp+1 else lp) (lv+1)∧SbK p x y.els (if y.kind=4 then lp+1 else lp) (lv+1):=by
 obtain ⟨h1,h2,h3,h4,h5⟩:=qdL h.1;obtain ⟨kd,nm,es,b,e⟩:=y;obtain ⟨d1,d2,d3,d4⟩:=qfr h.2;exact ⟨h1,⟨h3,_,d2⟩,⟨h4,d3⟩,⟨h5,d4⟩⟩
def sm_1{lp lv:Nat}(h:SmK p x y lp lv)(hk:y.kind=1):(∃ a,fdI (sE x) y.name=some a)∨fdI (sE x) y.name=none∧∃ (i:Nat) (g:Glo),gi p y.name=(i:Int)∧p.globals[i]?=some g:=by
 obtain ⟨kd,nm,es,b,e⟩:=y;have hd:=(qfr h.2).1;have e1:qfK (.mk kd nm es b e)=(nm,1,0):=if_pos hk;have hk:kd=1:=hk;rw [ndC,if_neg (by simp only [Stm.kind];omega),e1] at hd;rcases qgj hd Dc Dc with ⟨_,h1⟩|⟨h1,i,g,h2,h3,_⟩
 · exact .inl h1
 · exact .inr ⟨h1.resolve_right Dc,i,g,h2,h3⟩
def sm_2{lp lv:Nat}(h:SmK p x y lp lv)(hk:y.kind=2):∃ (i:Nat) (g:Glo),gi p y.name=(i:Int)∧p.globals[i]?=some g:=by
 obtain ⟨kd,nm,es,b,e⟩:=y;have hd:=(qfr h.2).1;have hk:kd=2:=hk;have e1:qfK (.mk kd nm es b e)=(nm,3,0):=(if_neg (show ¬ kd=1 by omega)).trans (if_pos hk);rw [ndC,if_neg (by simp only [Stm.kind];omega),e1] at hd;obtain ⟨_,i,g,h2,h3,_⟩:=(qgj (x:=x) (nm:=nm) (uk:=3) (na:=0) hd Dc Dc).resolve_left (fun h=>absurd h.1 Dc);exact ⟨i,g,h2,h3⟩
def sm_9{lp lv:Nat}(h:SmK p x y lp lv)(hk:y.kind=9∨y.kind=10):0 < lp:=by
 obtain ⟨kd,nm,es,b,e⟩:=y;have hd:=(qfr h.2).1;rw [ndC] at hd;by_cases h0:lp=0
 · rw [if_pos ⟨hk,h0⟩] at hd;cases hd
 · omega
def qul{j:Nat}(h:j < ls.length):(sb ls)[j]?=some (St (ls.getD j [])):=by
 rw [List.getD,List.getElem?_eq_getElem h,sb,List.getElem?_map,List.getElem?_eq_getElem h];rfl
end
def qlp{α:Type}{l:List α}{k:Nat}{x:α}(h:l[k]?=some x):l.drop k=x::l.drop (k+1):=by
 obtain ⟨hk,rfl⟩:=List.getElem?_eq_some_iff.1 h;exact List.drop_eq_getElem_cons hk
def qry{e:Nat}{R:Hl}{A:Option Addr}{n m c:Nat}{xs ys:List Value}(h:FL.Own e 1 R (.slice A n c) n (xs++ys))(hm:m=xs.length)(hn:n≠0):FL.Own e 1 R (.slice A m c) m xs:=by
 obtain ⟨b,zs,rfl,rfl,h1,h2,h3,h4⟩:=qg6 h O;subst hm;rw [List.append_assoc] at *;exact qlS rfl (by simp only [List.length_append] at h2 ⊢;omega) (by simp only [List.length_append] at h1;omega) h4
def qbX{κ:Type} [DecidableEq κ] {dk:TypeDesc} {kf:κ→Value} {P:Program} {TT:qa5} {D n:Nat} {Q:qbC} {fr:Fr} {L:Hl} {s:World} {ops:Array Oper} {rest:List Oper} {ty:Nat} {pos:String} {af:Array Edge} {v:Value} (KK:KeyK κ dk kf) {t b:Nat} {x y z:Operand} {zv:Value} (i:Nat) (hm:qfe P t dk zv) {es:List (κ×Value×Nat)} {ck:Nat} {k:κ} (hx:lk fr x=some (.map (some b))) (hy:lk fr y=some (kf k)) (hz:lk fr z=some v) (hi:L[i]?=some (b,mp kf es ck))
  (kk:∀ es' ck',(∀ j,qaW es' j=if j=k then some v else qaW es j)→JO P TT D n ops Q rest fr (qco L i (mp kf es' ck')) s):JO P TT D n ops Q (⟨none,.insert t x y z,ty,pos,af,none⟩::rest) fr L s:=by
 obtain ⟨ck',h⟩:=qj7 (TT:=TT) (D:=D) (s:=s) (ty:=ty) KK i hm hx hy hz hi;exact quI (fun hT ho dst pos af g ρ hρ=>h hT ho dst pos af g ρ hρ) (kk _ ck' (qey es k v ck))
def qnh{P:Program}{TT:qa5}{D n:Nat}{Q:qbC}{fr:Fr}{s:World}{c:Code}(X A Y:Hl)(h:∀ s',Le D s s'→(∀ b o,(b,o)∈A→s'.heap[b]?=some o)→JC P TT D n Q c fr (X++Y) s'):JC P TT D n Q c fr (X++(A++Y)) s:=fun ht a hr ho=>by
 have hp:(X++(A++Y)).Perm (A++(X++Y)):=by
  rw [← List.append_assoc,← List.append_assoc];exact (List.perm_append_comm).append_right Y
 rw [qbv hp _ ho];have ho2:=ho.perm hp;obtain ⟨e,d1,d2⟩:=qbn ho2;rw [e];exact h _ d2 (fun b o hm=>qa7 ho2.left hm) ht a hr d1
def quK{P:Program}{TT:qa5}{D:Nat}{fr:Fr}{s0:World}{ty:Nat}{K:Hl}{x y:Operand}{a b:Int}{k k':IntKind}{ts:Array TypeId}(hx:lk fr x=some (.int k a))(hy:lk fr y=some (.int k' b)):QE P TT D fr (.call { callee:=.builtin .max,args:=#[x,y],argTypes:=ts }) ty K s0 (.int k (max a b)):=by
 have e:max a b=if b > a then b else a:=by split<;>omega
 rw [e];exact QE.pure fun hT dst pos af g ρ hρ w=>by simp [execOp,resolve,invoke,builtin,Builtin.max_,Builtin.max2,hρ x _ hx,hρ y _ hy]
def qqa{κ:Type}{P:Program}{TT:qa5}{D n:Nat}{Q:qbC}{fr:Fr}{L K:Hl}{s s0:World}{ops:Array Oper}{d ty i0 t:Nat}{pos:String}{af:Array Edge}{g:Option (Nat×Bool)}{fuel:Nat}{listed:Array Bool}(hi0:ops[i0]?=some ⟨some d,.makeMap t none,ty,pos,af,g⟩)(hg:GOK ops fr g)(kf:κ→Value)(hd:Nat.blt d n=true)
  (k:∀ β s',Le D s s'→JA P TT D n ops Q K s0 fuel (listed.setIfInBounds i0 true) ((d,.map (some β))::fr) ((β,mp kf [] 0)::L) s'):JB P TT D n ops Q K s0 fuel listed i0 fr L s:=fun hT a hf ho hl hK=>
 qiW hi0 hg (qkU kf ho) (qaP ho (mp kf [] 0)).2.2 (fun x _ hx=>List.mem_cons_of_mem _ hx) hd (k _ _ (qaP ho (mp kf [] 0)).2.2) hT a hf ho hl hK
section
variable{p:Prg}{x:Fnc}{k:Nat}{w:Str}{g:Glo}{y:Fnc}
abbrev fI(m:Int×Int):Value:=.int .i64 m.2
def qA4(h:p.globals[k]?=some g):(gE p)[k]?=some (g.name,((3:Int),(k:Int))):=by rw [gE,List.getElem?_mapIdx,h];rfl
def qA3(h:p.funcs[k]?=some y):(fE p)[k]?=some (y.name,((4:Int),(k:Int))):=by rw [fE,List.getElem?_mapIdx,h];rfl
def sE_l(h:x.locals[k]?=some w):(sE x)[k]?=some (w,((2:Int),((x.params.length+1+k:Nat):Int))):=by
 have hl:=(List.getElem?_eq_some_iff.1 h).1;rw [sE,List.getElem?_append_left (by simpa using hl),List.getElem?_mapIdx,h];rfl
def sE_p(h:x.params[k]?=some w):(sE x)[x.locals.length+k]?=some (w,((1:Int),(k:Int))):=by
 rw [sE,List.getElem?_append_right (by simp),List.length_mapIdx,Nat.add_sub_cancel_left,List.getElem?_mapIdx,h];rfl
def qoa{T:List (Str×(Int×Int))}{es:List (Str×Value×Nat)}{n:Nat}(hn:T.length≤n)(h:∀ nm,qaW es nm=((T.take n).find? fun e=>decide (e.1=nm)).map fun e=>fI e.2)(nm:Str):qaW es nm=(fdI T nm).map (Value.int .i64):=by
 rw [h nm,List.take_of_length_le hn,fdI,Option.map_map];rfl
def qAP(p:Prg)(x:Fnc)(i k:Nat):cF p x i k=(.lab (fT i)::(if 0 < x.locals.length then [.num qgk 0] else [])++List.replicate x.locals.length (.op qdC)++(cB p x x.body k []).1++[.num qgk 0,.num qxG (x.locals.length+1:Nat)],(cB p x x.body k []).2):=rfl
def qlr:∀ l:List Ex,l.length≤qbD l
 | []=>Nat.le_refl _
 | z::r=>by have:=qkp z;have:=qlr r;rw [qbD,List.length_cons];omega
def ql6:∀ l:List Stm,l.length≤qbr l
 | []=>Nat.le_refl _
 | z::r=>by have:=qgi z;have:=ql6 r;rw [qbr,List.length_cons];omega
def qzd(h:g.kind=2):glN g=1:=if_pos h
def qze(h:g.kind=3):glN g=g.num:=by unfold glN;rw [if_neg O,if_pos h]
def qzc(h:¬ g.kind=2)(h2:¬ g.kind=3):glN g=0:=by unfold glN;rw [if_neg h,if_neg h2]
def qA6(h:U32 g.num):0≤glN g∧glN g < 4294967296:=by
 have:=h.1;have:=h.2;unfold glN;split
 · omega
 · split<;>omega
def qfZ:∀ (l:List Glo),(∀ g∈l,U32 g.num)→l.length≤64→0≤qeP l∧qeP l≤4294967296 * (l.length:Int)
 | [],_,_=>⟨Int.le_refl _,Int.le_refl _⟩
 | z::r,h,hl=>by
  have a:=qA6 (h z Mc);simp only [List.length_cons] at hl ⊢;have b:=qfZ r (fun y hy=>h y (List.mem_cons_of_mem _ hy)) O;rw [qeP];omega
def qlN{l:List Glo}(h:l[k]?=some g):qeP (l.drop k)=glN g+qeP (l.drop (k+1)):=by
 obtain ⟨hk,rfl⟩:=List.getElem?_eq_some_iff.1 h;rw [List.drop_eq_getElem_cons hk,qeP]
def qkv{l:List Fnc}(h:l[k]?=some y):qhy (l.drop k)=qbr y.body+qhy (l.drop (k+1)):=by
 obtain ⟨hk,rfl⟩:=List.getElem?_eq_some_iff.1 h;rw [List.drop_eq_getElem_cons hk,qhy]
def qlz:∀ (l:List Fnc),(∀ x∈l,qbr x.body≤2000)→qhy l≤2000 * l.length
 | [],_=>Nat.le_refl _
 | z::r,h=>by
  have a:=h z Mc;have b:=qlz r fun y hy=>h y (List.mem_cons_of_mem _ hy);rw [qhy,List.length_cons];omega
def qAQ(p:Prg)(x:Fnc)(i k:Nat):(cF p x i k).2≤k+2 * qbr x.body:=qmm x.body k []
def qyA(p:Prg):cP p=[.ref qh3 qkT,.ref qhk (fT (fi p qcU)),.num qgk 0,.op qiS]++(cFs p p.funcs 0 0).1++cGs p.globals 0++[.lab qkT]:=rfl
def qjC(h:qb2 p=(0,0)):0 < p.funcs.length:=by
  unfold qb2 at h;cases hf:p.funcs with
  | cons x r=>simp
  | nil=>
    rw [hf] at h;split at h
    · rename_i h2;rw [h] at h2;exact absurd rfl h2
    · split at h
      · rename_i h2;rw [h] at h2;exact absurd rfl h2
      · cases h
def qnO{l:List Glo}{i:Nat}(h:l[k]?=some g):cGs (l.drop k) i=cG g i++cGs (l.drop (k+1)) (i+1):=by
 obtain ⟨hk,rfl⟩:=List.getElem?_eq_some_iff.1 h;rw [List.drop_eq_getElem_cons hk,cGs]
def qyy{l:List Fnc}{i j:Nat}(h:l[k]?=some y):cFs p (l.drop k) i j=((cF p y i j).1++(cFs p (l.drop (k+1)) (i+1) (cF p y i j).2).1,(cFs p (l.drop (k+1)) (i+1) (cF p y i j).2).2):=by
 obtain ⟨hk,rfl⟩:=List.getElem?_eq_some_iff.1 h;rw [List.drop_eq_getElem_cons hk,cFs]
def qt6(hg:qfm g=0)(hu:U32 g.num):0≤max g.num 1 - (g.init.length:Int)∧max g.num 1 - (g.init.length:Int) < 4294967296:=by
  have h4:=(qbY hg).2.2.2.1;have h5:=(qbY hg).2.2.1;have hu1:=hu.1;have hu2:=hu.2;by_cases h3:g.kind=3
  · unfold qfm at hg
    rw [if_neg O,if_neg (by rw [h5];decide),if_neg O] at hg;split at hg
    · cases hg
    · split at hg
      · cases hg
      · omega
  · rw [h4 h3];simp only [List.length_nil];omega
end
open Go.Proofs.Tryz
open Go.FL
attribute [local irreducible] JC JO JA JB qaZ qaL qb4 AC fill CellsAt QE Ev Mid
structure CE where
 Ag:Option Addr
 ng:Nat
 cg:Nat
 Af:Option Addr
 nf:Nat
 cf:Nat
 gm:Nat
 fm:Nat
 sm:Option Nat
 sz:Nat
 nl:Nat
abbrev qcR(E:CE)(k w:Nat)(vl:Value):List Value:=[.int .i64 (k:Int),.slice E.Ag E.ng E.cg,.slice E.Af E.nf E.cf,.map (some E.gm),.map (some E.fm),.map E.sm,.int .i64 (E.sz:Int),.int .i64 (E.nl:Int),.int .i64 (w:Int),vl]
abbrev CR(E:CE)(bb k w:Nat)(vl:Value)(t:Str)(M:Hl):Prop:=WC (qcR E k w vl) 63 bb M t
def MpI(s:World)(b:Nat)(T:List (Str×(Int×Int))):Prop:=∃ es:List (Str×Value×Nat),MapS s (fun l=>St l) b es∧∀ nm,qaW es nm=(fdI T nm).map (Value.int .i64)
def MpI.le{D:Nat}{s s':World}{b:Nat}{T:List (Str×(Int×Int))}(h:MpI s b T)(hl:Le D s s'):MpI s' b T:=⟨_,h.choose_spec.1.le hl,h.choose_spec.2⟩
def qdv:qfe prog 55 .string (.int .i64 0):=⟨_,_,underlying55,underlying9,fun w=>by rw [qcC qj3];rfl⟩
def qhR{es:List (Str×Value×Nat)}{T:List (Str×(Int×Int))}(h:∀ nm,qaW es nm=(fdI T nm).map (Value.int .i64))(nm:Str):(qaW es nm).getD (.int .i64 0)=.int .i64 ((fdI T nm).getD 0):=by
 rw [h];cases fdI T nm<;>rfl
structure EOK(s:World)(p:Prg)(x:Fnc)(E:CE):Prop where
 gl:Glos s E.Ag E.ng E.cg p.globals
 mg:MpI s E.gm (gE p)
 mf:MpI s E.fm (fE p)
 ms:∃ b,E.sm=some b∧MpI s b (sE x)
 sz:E.sz=szF x
 nl:E.nl=x.locals.length
 pq:PQ p x
def EOK.le{D:Nat}{s s':World}{p:Prg}{x:Fnc}{E:CE}(h:EOK s p x E)(hl:Le D s s'):EOK s' p x E:=⟨h.gl.le hl,h.mg.le hl,h.mf.le hl,h.ms.imp fun _ k=>⟨k.1,k.2.le hl⟩,h.sz,h.nl,h.pq⟩
def qgA(D:Nat)(L:Hl)(s:World)(hG:GP s)(n:Int)(h0:0≤n)(h1:n≤9223372036854775807):AC prog D 48 [.int .i64 n] L s fun v L' _=>v=St (qdq n)∧L=L':=by
 have h:=qvT D L s hG.gw n O h1
 rwa [show Lib.itoa n=qdq n by unfold Lib.itoa;rw [if_neg O];rfl] at h
def qpH{s:World}{β:Nat}(ws:List Str)(hc:CellsAt s β 0 (sb ws))(hx:∀ x∈ws,x.length≤1000000000)(hn:ws.length≤1000):Strs s (some ⟨β,0,none⟩) ws.length ws.length ws:=
 Sl.lit (R:=fun _ x cs=>cs=[St x]∧x.length≤9223372036854775807) (ws.map fun x=>[St x]) hc (qpp ws) (qi3 (fun x=>[St x]) ws fun x hx1=>⟨rfl,rfl,by have:=hx x hx1;omega⟩) _ rfl O
def quu(D:Nat)(L:Hl)(s:World){R:List Value}{T bb:Nat}{M:Hl}{l:Str}(hW:WC R T bb M l)(A:Option Addr)(n c:Nat)(ws:List Str)(hS:Strs s A n c ws)(hj:(Lib.join ws [32]).length≤1000000000)(hn:ws.length≤2)(hlen:l.length≤1000000000):AC prog D 17 [.pointer (some ⟨bb,0,none⟩),.slice A n c] (M++L) s fun v L' _=>∃ M',L'=M'++L∧v=.tuple #[]∧WC R T bb M' (l++32::(Lib.join ws [32]++[10])):=by
 refine qae (fn:=f17) qav func17 V Z ntmps17 Z (rs:=[]) Z [(0,_),(1,_)] Z<|qaB qac 8 Z 0 fun s1 h1=>za 0 Z (qan Z) Z<|za 1 Z (qam Z) Z<|za 2 Z (qat Z Z Z Z) Z<|za 3 Z (qan Z) Z<|qar 4 V<|Jf Z Tt Z Z Z (qlI D _ _ A n c ws (hS.le h1) [32] O O) fun s2 h2=>za 5 Z (qah Z Z Uo) Z<|za 6 Z (qah Z Z Uo) Z<|qar 7 V<|Jb Z Tt Z Z Z (qbe D _ _ bb M l hW _ Ut) ?_;rintro _ _ s3 h3 ⟨M1,rfl,rfl,hW1⟩;refine ⟨(fun _ hx _=>by cases hx),?_⟩;refine qaf V ?_;refine qal [] _ (.inl Z) (.nil) Z (h1.t h2|>.t h3) fun _ hS2=>?_;exact ⟨_,rfl,rfl,hW1⟩
def qdr(D:Nat)(L:Hl)(s:World){R:List Value}{T bb:Nat}{M:Hl}{l:Str}(hW:WC R T bb M l){β:Nat}{n:Str}(hc:CellsAt s β 0 [St n])(hlen:l.length+(cT [.op n]).length≤1000000000):AC prog D 17 [.pointer (some ⟨bb,0,none⟩),.slice (some ⟨β,0,none⟩) 1 1] (M++L) s fun v L' _=>∃ M',L'=M'++L∧v=.tuple #[]∧WC R T bb M' (l++cT [.op n]):=by
 have e:cT [.op n]=32::(n++[10]):=by simp [cT,liT,liI]
 have j:Lib.join [n] [32]=n:=by simp [Lib.join,List.intercalate]
 rw [e] at hlen ⊢;simp only [List.length_cons,List.length_append,List.length_nil] at hlen;have:=quu D L s hW _ 1 1 [n] (qpH [n] hc (by simp;omega) (by simp)) (by rw [j];omega) (by simp) O
 rwa [j] at this
def qcm(D:Nat)(L:Hl)(s:World){R:List Value}{T bb:Nat}{M:Hl}{l:Str}(hW:WC R T bb M l){β:Nat}{n a:Str}(hc:CellsAt s β 0 [St n,St a])(hlen:l.length+(cT [.ref n a]).length≤1000000000):AC prog D 17 [.pointer (some ⟨bb,0,none⟩),.slice (some ⟨β,0,none⟩) 2 2] (M++L) s fun v L' _=>∃ M',L'=M'++L∧v=.tuple #[]∧WC R T bb M' (l++cT [.ref n a]):=by
 have e:cT [.ref n a]=32::((n++32::a)++[10]):=by simp [cT,liT,liI]
 have j:Lib.join [n,a] [32]=n++32::a:=by simp [Lib.join,List.intercalate]
 rw [e] at hlen ⊢;simp only [List.length_cons,List.length_append,List.length_nil] at hlen;have:=quu D L s hW _ 2 2 [n,a] (qpH [n,a] hc (by simp;omega) (by simp)) (by rw [j];simp only [List.length_append,List.length_cons];omega) (by simp) O
 rwa [j] at this
def qvJ(D:Nat)(L:Hl)(s:World)(hG:GP s)(i:Int)(h0:0≤i)(h1:i≤1000000000):AC prog D 18 [.int .i64 i] L s fun v L' _=>v=St (fT i)∧L=L':=by
 have hd:=qcd (n:=i) ⟨h0,by omega⟩;refine qae (fn:=f18) qav func18 V Z ntmps18 Z (rs:=[.tmp 2]) Z [(0,_)] Z<|Sr<|At Z Z<|Sr<|Zqm Z Z<|Je Z Z Z (qgA D _ _ (hG.le (Lr D)) i h0 O) fun s1 h1=>qad (qah Z Z Uo) Z<|At Z Z<|Zo<|?_;exact rR [] L (.t1 Z) Z h1 fun _ hS2=>⟨rfl,rfl⟩
def qom(D:Nat)(L:Hl)(s:World)(hG:GP s)(i:Int)(h0:0≤i)(h1:i≤1000000000):AC prog D 50 [.int .i64 i] L s fun v L' _=>v=St (gT i)∧L=L':=by
 have hd:=qcd (n:=i) ⟨h0,by omega⟩;refine qae (fn:=f50) qav func50 V Z ntmps50 Z (rs:=[.tmp 2]) Z [(0,_)] Z<|Sr<|At Z Z<|Sr<|Zqm Z Z<|Je Z Z Z (qgA D _ _ (hG.le (Lr D)) i h0 O) fun s1 h1=>qad (qah Z Z Uo) Z<|At Z Z<|Zo<|?_;exact rR [] L (.t1 Z) Z h1 fun _ hS2=>⟨rfl,rfl⟩
def qbS(D:Nat)(L:Hl)(s:World)(hG:GP s){R:List Value}{T bb:Nat}{M:Hl}{l:Str}(hW:WC R T bb M l)(n:Str)(i:Int)(hu:0≤i∧i < 4294967296)(hlen:l.length+(cT [.num n i]).length≤1000000000):AC prog D 19 [.pointer (some ⟨bb,0,none⟩),St n,.int .i64 i] (M++L) s fun v L' _=>∃ M',L'=M'++L∧v=.tuple #[]∧WC R T bb M' (l++cT [.num n i]):=by
 refine qae (fn:=f19) qav func19 V Z ntmps19 Z (rs:=[]) Z [(0,_),(1,_),(2,_)] Z<|Zr<|Zqm Z Z<|Zqm Z Z<|Zqm Z Z<|Je Z Z Z (qgA D _ _ (hG.le (Lr D)) i hu.1 O) fun s1 h1=>qa4 [(_,_),(_,_)] [_,_] Z Z Z Z Z Z Z Z Z fun β2 s2 h2 hc2=>Jc Z Z Z (qcm D _ _ hW (hc2.le (Lr D)) hlen) ?_;rintro _ _ s3 h3 ⟨M1,rfl,rfl,hW1⟩;refine Zn ?_;refine qal [] _ (.inl Z) (.nil) Z (h1.t h2|>.t h3) fun _ hS2=>?_;exact ⟨_,rfl,rfl,hW1⟩
def qbZ(D:Nat)(L:Hl)(s:World){R:List Value}{T bb:Nat}{M:Hl}{l:Str}(hW:WC R T bb M l)(a:Str)(hlen:l.length+(cT [.lab a]).length≤1000000000):AC prog D 22 [.pointer (some ⟨bb,0,none⟩),St a] (M++L) s fun v L' _=>∃ M',L'=M'++L∧v=.tuple #[]∧WC R T bb M' (l++cT [.lab a]):=by
 have e:cT [.lab a]=a++[58,10]:=by simp [cT,liT,liI]
 rw [e] at hlen ⊢;simp only [List.length_cons,List.length_append,List.length_nil] at hlen;refine qae (fn:=f22) qav func22 V Z ntmps22 Z (rs:=[]) Z [(0,_),(1,_)] Z<|Zr<|Zqm Z Z<|qaQ Z Z<|W0 Y5<|Zqm Z Z<|qad (qah Z Z Uo) Z<|Jc Z Z Z (qbe D _ _ bb M l hW _ Ut) ?_;rintro _ _ s1 h1 ⟨M1,rfl,rfl,hW1⟩;refine Zn ?_;refine qal [] _ (.inl Z) (.nil) Z h1 fun _ hS2=>?_;exact ⟨_,rfl,rfl,hW1⟩
def qeD(D:Nat)(L:Hl)(s:World)(hG:GP s){E:CE}{bb k w:Nat}{vl:Value}{M:Hl}{t:Str}(hW:CR E bb k w vl t M)(hk:k≤1000000):AC prog D 156 [.pointer (some ⟨bb,0,none⟩)] (M++L) s fun v L' _=>∃ M',L'=M'++L∧v=St (lT (k+1))∧CR E bb (k+1) w vl t M':=by
 have hd:=qcd (n:=((k+1:Nat):Int)) ⟨by omega,by omega⟩;refine qae (fn:=f156) qav func156 V Z ntmps156 Z (rs:=[.tmp 2]) Z [(0,_)] Z<|Sr<|At Z Z<|Zs<|?_;obtain ⟨p1,N1,v1,hp1,rfl,hb1⟩:=hW;simp only [List.cons_append,qcR];refine Zr<|Zqm Z Z<|qaQ Z Z<|Wb Y5<|Wl 0 Y6<|qad (qaC (c:=((k+1:Nat):Int)) Z Z (by rw [w64 O O];simp)) Z<|qaQ Z Z<|Wb Y5<|Wt 0 [_,_,_,_,_,_,_,_,_,_,_,_] Y9<|Nt<|Sr<|Zqm Z Z<|qaQ Z Z<|Wb Y5<|Wl 0 Y6<|Je Z Z Z (qgA D _ _ (hG.le (Lr D)) _ O O) fun s1 h1=>qad (qah Z Z Uo) Z<|At Z Z<|Zo<|?_;exact rR [] _ (.t1 Z) Z h1 fun _ hS2=>⟨(_::N1),rfl,rfl,⟨p1,N1,v1,hp1,rfl,hb1⟩⟩
def qiC(D:Nat)(L:Hl)(s:World){E:CE}{bb k w:Nat}{vl:Value}{M:Hl}{t:Str}(hW:CR E bb k w vl t M)(hk:w≤1000000)(hlen:t.length+(cT [.op qdC]).length≤1000000000):AC prog D 113 [.pointer (some ⟨bb,0,none⟩)] (M++L) s fun v L' _=>∃ M',L'=M'++L∧v=.tuple #[]∧CR E bb k (w+1) vl (t++cT [.op qdC]) M':=by
 refine qae (fn:=f113) qav func113 V Z ntmps113 Z (rs:=[]) Z [(0,_)] Z<|Sr<|Zqm Z Z<|qaQ Z Z<|W0 Y5<|qa4 [(_,_)] [_] Z Z Z Z Z Z Z Z Z fun β1 s1 h1 hc1=>Jc Z Z Z (qdr D _ _ (M:=M) (n:=qdC) hW (hc1.le (Lr D)) (by first|omega|(simp only [qaj,qap,List.length_append,List.length_nil];omega))) ?_;rintro _ _ s2 h2 ⟨M1,rfl,rfl,hW1⟩;refine Nt<|?_;obtain ⟨p2,N2,v2,hp2,rfl,hb2⟩:=hW1;simp only [List.cons_append,qcR];refine Zr<|Zqm Z Z<|qaQ Z Z<|Wb Y5<|Wl 0 Y6<|qad (qaC (c:=((w+1:Nat):Int)) Z Z (by rw [w64 O O];simp)) Z<|qaQ Z Z<|Wb Y5<|Wt 0 [_,_,_,_,_,_,_,_,_,_,_,_] Y9<|Zn ?_;refine qal [] _ (.inl Z) (.nil) Z (h1.t h2) fun _ hS2=>?_;exact ⟨(_::N2),rfl,rfl,⟨p2,N2,v2,hp2,rfl,hb2⟩⟩
def qxU{p:Prop} (h:p:=by
 exact ⟨M2,rfl,rfl,by rw [hT];simpa only [qaK,qaj,qap,List.append_assoc,List.append_nil,List.cons_append,List.nil_append,List.length_nil,Nat.add_zero] using (show CR ⟨_,ng,cg,Af,nf,cf,gm,fm,some bs,sz,nl⟩ bb _ w vl _ _ from hW2)⟩):p:=h
def qqM(D:Nat)(p:Prg)(x:Fnc)(L:Hl)(s:World)(hG:GP s)(E:CE)(hE:EOK s p x E)(bb k w:Nat)(vl:Value)(M:Hl)(t:Str)(hW:CR E bb k w vl t M)(nm:Str)(hnm:(∃ a,fdI (sE x) nm=some a)∨fdI (sE x) nm=none∧∃ (i:Nat) (g:Glo),gi p nm=(i:Int)∧p.globals[i]?=some g)(hw:w≤1000000)(hlen:t.length+(cT [cN p x nm w]).length≤1000000000):AC Tryz.prog D 153 [.pointer (some ⟨bb,0,none⟩),St nm] (M++L) s fun v L' _=>∃ M',L'=M'++L∧v=.tuple #[]∧CR E bb k w vl (t++cT [cN p x nm w]) M':=by
 obtain ⟨Ag,ng,cg,Af,nf,cf,gm,fm,sm,sz,nl⟩:=E;have hgl:Glos s Ag ng cg p.globals:=hE.gl;have hng:=hgl.1;have hsz:sz=szF x:=hE.sz;have hnl:nl=x.locals.length:=hE.nl;obtain ⟨bs,hbs,ess,hms,hhms⟩:=hE.ms;have hbs:sm=some bs:=hbs;subst hbs;obtain ⟨esg,hmg,hhmg⟩:=hE.mg;obtain ⟨esf,hmf,hhmf⟩:=hE.mf;have hp6:=hE.pq.p6;have hl12:=hE.pq.l12;have hg64:=hE.pq.g64;have hf64:=hE.pq.f64;unfold szF at hsz;refine qae (fn:=Tryz.f153) qav Tryz.func153 V Z Tryz.ntmps153 Z (rs:=[]) Z [(0,_),(1,_)] Z<|Zs<|Zs<|?_;obtain ⟨p1,N1,v1,hp1,rfl,hb1⟩:=hW;simp only [List.cons_append,qcR];rcases hnm with ⟨a,ha⟩|⟨hn,i,g,hi,hg⟩
 ·have hT:=cN_s (p:=p) (w:=w) ha;have hrg:=qiK ha;unfold szF at hT hrg;rw [← hsz] at hT;rw [hT] at hlen;simp only [qaK,qaj,qap,List.length_append,List.length_nil,List.cons_append] at hlen
  
  refine Zr<|Zqm Z Z<|qaQ Z Z<|Wb Y5<|Wl 0 Y6<|Zqm Z Z<|qad (qaz (qdF KeyK.str qdv Z Z (hms.le (Lr D))) (show _=Value.tuple #[.int .i64 a,.bool true] by rw [hhms,ha];rfl)) Z<|Zqm Z Z<|Zqx Z Z Z<|Zqx Z Z Z<|Zqa Z Z<|At Z Z<|Sr<|Zqm Z Z<|Nt<|Zy Z<|Zs<|qaB qac 15 Z 0 fun s1 h1=>za 0 Z (qan Z) Z<|za 1 Z (qam Z) Z<|za 2 Z (qat Z Z Z Z) Z<|za 3 Z (qan Z) Z<|za 4 Z (qam Z) Z<|za 5 Z (We Y4) Z<|za 7 Z (qan Z) Z<|za 8 Z (qam Z) Z<|za 9 Z (We Y4) Z<|za 12 Z (qan Z) Z ?_;refine qeR 6 10 V ?_ ?_;·refine qbA Z Tt (Wd 0 Y5) Z<|qar 10 V<|qbA Z Tt (Wd 0 Y5) Z<|za 11 Z (qaC Z Z (w64 O O)) Z<|za 13 Z (qba Z Z (w64 O O)) Z<|qar 14 V<|Jb Z Tt Z Z Z (qbS D _ _ (hG.le h1) (M:=(_::N1)) ⟨p1,N1,v1,hp1,Z,hb1⟩ qmf _ O (by first|omega|(simp only [qaj,qap,List.length_append,List.length_nil];omega))) ?_;rintro _ _ s2 h2 ⟨M2,rfl,rfl,hW2⟩;refine ⟨(fun _ hx _=>by cases hx),?_⟩;refine qaf V<|Zt<|Zo<|Zu<|?_;exact rR [] _ (.nil) Z (h1.t h2) fun _ hS2=>qxU
  refine qbA Z Tt (Wd 0 Y5) Z<|qar 6 V<|qbA Z Tt (Wd 0 Y5) Z<|za 11 Z (qaC Z Z (w64 O O)) Z<|za 13 Z (qba Z Z (w64 O O)) Z<|qar 14 V<|Jb Z Tt Z Z Z (qbS D _ _ (hG.le h1) (M:=(_::N1)) ⟨p1,N1,v1,hp1,Z,hb1⟩ qmf _ O (by first|omega|(simp only [qaj,qap,List.length_append,List.length_nil];omega))) ?_;rintro _ _ s3 h3 ⟨M2,rfl,rfl,hW2⟩;refine ⟨(fun _ hx _=>by cases hx),?_⟩;refine qaf V<|Zt<|Zo<|Zu<|?_;exact rR [] _ (.nil) Z (h1.t h3) fun _ hS2=>qxU
  
 refine Zr<|Zqm Z Z<|qaQ Z Z<|Wb Y5<|Wl 0 Y6<|Zqm Z Z<|qad (qaz (qdF KeyK.str qdv Z Z (hms.le (Lr D))) (show _=Value.tuple #[.int .i64 0,.bool false] by rw [hhms,hn];rfl)) Z<|Zqm Z Z<|Zqx Z Z Z<|Zqx Z Z Z<|Zqa Z Z<|At Z Z<|Sr<|Zqm Z Z<|Nt<|Zz Z<|Zk<|Zt<|Sr<|Zqm Z Z<|qaQ Z Z<|Wb Y5<|Wl 0 Y6<|Zqm Z Z<|qad (qaz (qc0 KeyK.str qdv Z Z (hmg.le (Lr D))) ((qhR hhmg _).trans (congrArg (Value.int .i64) hi))) Z ?_;refine At Z Z<|Zs<|Zs<|?_;have hik:i < ng:=by rw [hgl.1];exact (List.getElem?_eq_some_iff.1 hg).1
 obtain ⟨bg,og,g9,Ai,ni,ci,rfl,hg9,hcg,hig,hug,hnl9⟩:=Glos.at_ (hgl.le (Lr D)) hik;obtain rfl:g=g9:=Option.some.inj (hg.symm.trans hg9);have hgu:=hug.1;have hgu2:=hug.2;refine Zr<|Zqm Z Z<|qaQ Z Z<|Wb Y5<|W0 Y5<|Wl 0 Y6<|Zqm Z Z<|qad (qau Z Z Z Z Z Z hik) Z<|qad (qaw Z Z Z (hcg.le (Lr D)) Z) Z<|qag Z [_,_,_,_] Z Z fun β4 s4 h4=>Wt 0 [_,_,_,_] Y9<|Nt<|Sr<|W0 Y5<|Wl 0 Y6<|qax Z Z Z<|Nt<|?_;refine qaa Z ?_ ?_<;>intro c5;·have hT:=cN_c (w:=w) hn hi hg c5;rw [hT] at hlen;simp only [qaK,qaj,qap,List.length_append,List.length_nil,List.cons_append] at hlen;refine Zs<|qaB qac 7 Z 1 fun s6 h6=>za 0 Z (qan Z) Z<|za 1 Z (qam Z) Z<|za 2 Z (qat Z Z Z Z) Z<|za 3 Z (We Y4) Z<|za 4 Z (Wd 0 Y5) Z<|za 5 Z (qaR Z Z Z Z Z (w64 O O)) Z<|qar 6 V<|Jb Z Tt Z Z Z (AC.mid [_] (_::N1) L (qbS D _ _ (hG.le (h4.t h6)) (M:=(_::N1)) ⟨p1,N1,v1,hp1,Z,hb1⟩ qgk _ ⟨hgu,hgu2⟩ (by first|omega|(simp only [qaj,qap,List.length_append,List.length_nil];omega)))) ?_;rintro _ _ s7 h7 ⟨M2,rfl,rfl,hW2⟩;refine ⟨(fun x hx _=>qdZ hx),?_⟩;simp only [cQ9,nQ9];refine qaf V<|Zt<|Zo<|Zu<|?_;exact rR [_] _ (.nil) Z (h4.t h6|>.t h7) fun _ hS2=>qxU
 have hT:=cN_g (w:=w) hn hi hg c5;rw [hT] at hlen;simp only [qaK,qaj,qap,List.length_append,List.length_nil,List.cons_append] at hlen;refine Zk<|Zt<|qaB qac 7 Z 0 fun s8 h8=>za 0 Z (qan Z) Z<|za 1 Z (qam Z) Z<|za 2 Z (qat Z Z Z Z) Z<|za 3 Z (qan Z) Z<|qar 4 V<|Jf Z Tt Z Z Z (qom D _ _ (hG.le (h4.t h8)) _ O O) fun s9 h9=>qar 5 V<|qbQ Z Tt [(_,_),(_,_)] [_,_] Z Z Z Z Z Z Z Z Z fun β10 s10 h10 hc10=>qar 6 V<|Jb Z Tt Z Z Z (AC.mid [_] (_::N1) L (qcm D _ _ (M:=(_::N1)) (n:=qxF) ⟨p1,N1,v1,hp1,Z,hb1⟩ (hc10.le (Lr D)) (by first|omega|(simp only [qaj,qap,List.length_append,List.length_nil];omega)))) ?_;rintro _ _ s11 h11 ⟨M2,rfl,rfl,hW2⟩;refine ⟨(fun _ hx _=>by cases hx),?_⟩;simp only [cQ9,nQ9];refine qaf V ?_;refine qal [_] _ (.inl Z) (.nil) Z (h4.t h8|>.t h9|>.t h10|>.t h11) fun _ hS2=>?_;exact qxU
def qcB:qfe prog 290 (.int .i64) (.slice none 0 0):=⟨_,_,underlying290,underlying3,fun w=>by rw [qcC qpK];rfl⟩
def qcM{s:World}{β:Nat}{o:Int}(hc:CellsAt s β 0 (sb (opN o))):Strs s (some ⟨β,0,none⟩) (opN o).length (opN o).length (opN o):=qpH _ hc (fun x hx=>by
 have h:=(qlR o).2 x hx;simp only [ok0,Bool.and_eq_true] at h;have:=(qhU h.1.1.1).2;omega) (by have:=(qlR o).1;omega)
def qiB(D:Nat)(L:Hl)(s:World)(o:Int)(ho:4≤o∧o≤19):AC prog D 187 [.int .i64 o] L s fun v L' s'=>L=L'∧∃ A n c,v=.slice A n c∧Strs s' A n c (opN o):=by
 refine qae (fn:=f187) qav func187 V Z ntmps187 Z (rs:=[.tmp 2]) Z [(0,_)] Z<|Sr<|At Z Z<|Sr<|qex (Value.int .i64) Z fun βm s1 h1=>qa4 [(_,_)] [_] Z Z Z Z Z Z Z Z Z fun β2 s2 h2 hc2=>qbX (KeyK.int .i64) 0 qcB Z Z Z Z ?_;intro es3 _ e3;simp only [qco];refine qa4 [(_,_)] [_] Z Z Z Z Z Z Z Z Z fun β4 s4 h4 hc4=>qbX (KeyK.int .i64) 0 qcB Z Z Z Z ?_;intro es5 _ e5;simp only [qco];refine qa4 [(_,_)] [_] Z Z Z Z Z Z Z Z Z fun β6 s6 h6 hc6=>qbX (KeyK.int .i64) 0 qcB Z Z Z Z ?_;intro es7 _ e7;simp only [qco];refine qa4 [(_,_)] [_] Z Z Z Z Z Z Z Z Z fun β8 s8 h8 hc8=>qbX (KeyK.int .i64) 0 qcB Z Z Z Z ?_;intro es9 _ e9;simp only [qco];refine qa4 [(_,_)] [_] Z Z Z Z Z Z Z Z Z fun β10 s10 h10 hc10=>qbX (KeyK.int .i64) 0 qcB Z Z Z Z ?_;intro es11 _ e11;simp only [qco];refine qa4 [(_,_)] [_] Z Z Z Z Z Z Z Z Z fun β12 s12 h12 hc12=>qbX (KeyK.int .i64) 0 qcB Z Z Z Z ?_;intro es13 _ e13;simp only [qco];refine qa4 [(_,_)] [_] Z Z Z Z Z Z Z Z Z fun β14 s14 h14 hc14=>qbX (KeyK.int .i64) 0 qcB Z Z Z Z ?_;intro es15 _ e15;simp only [qco];refine qa4 [(_,_)] [_] Z Z Z Z Z Z Z Z Z fun β16 s16 h16 hc16=>qbX (KeyK.int .i64) 0 qcB Z Z Z Z ?_;intro es17 _ e17;simp only [qco];refine qa4 [(_,_)] [_] Z Z Z Z Z Z Z Z Z fun β18 s18 h18 hc18=>qbX (KeyK.int .i64) 0 qcB Z Z Z Z ?_;intro es19 _ e19;simp only [qco];refine qa4 [(_,_)] [_] Z Z Z Z Z Z Z Z Z fun β20 s20 h20 hc20=>qbX (KeyK.int .i64) 0 qcB Z Z Z Z ?_;intro es21 _ e21;simp only [qco];refine qa4 [(_,_)] [_] Z Z Z Z Z Z Z Z Z fun β22 s22 h22 hc22=>qbX (KeyK.int .i64) 0 qcB Z Z Z Z ?_;intro es23 _ e23;simp only [qco];refine qa4 [(_,_),(_,_)] [_,_] Z Z Z Z Z Z Z Z Z fun β24 s24 h24 hc24=>qbX (KeyK.int .i64) 0 qcB Z Z Z Z ?_;intro es25 _ e25;simp only [qco];refine qa4 [(_,_)] [_] Z Z Z Z Z Z Z Z Z fun β26 s26 h26 hc26=>qbX (KeyK.int .i64) 0 qcB Z Z Z Z ?_;intro es27 _ e27;simp only [qco];refine qa4 [(_,_),(_,_)] [_,_] Z Z Z Z Z Z Z Z Z fun β28 s28 h28 hc28=>qbX (KeyK.int .i64) 0 qcB Z Z Z Z ?_;intro es29 _ e29;simp only [qco];refine qa4 [(_,_)] [_] Z Z Z Z Z Z Z Z Z fun β30 s30 h30 hc30=>qbX (KeyK.int .i64) 0 qcB Z Z Z Z ?_;intro es31 _ e31;simp only [qco];refine qa4 [(_,_),(_,_)] [_,_] Z Z Z Z Z Z Z Z Z fun β32 s32 h32 hc32=>qbX (KeyK.int .i64) 0 qcB Z Z Z Z ?_;intro es33 _ e33;simp only [qco];refine Zqm Z Z<|Zqm Z Z<|qad (qiZ (KeyK.int .i64) 0 qcB Z Z Z) Z<|At Z Z<|Zo<|?_;refine rR [_] L (.t1 Z) Z (h1.t h2|>.t h4|>.t h6|>.t h8|>.t h10|>.t h12|>.t h14|>.t h16|>.t h18|>.t h20|>.t h22|>.t h24|>.t h26|>.t h28|>.t h30|>.t h32) fun _ hS2=>?_;refine ⟨Z,?_⟩;rcases (show o=4∨o=5∨o=6∨o=7∨o=8∨o=9∨o=10∨o=11∨o=12∨o=13∨o=14∨o=15∨o=16∨o=17∨o=18∨o=19 by omega) with rfl|rfl|rfl|rfl|rfl|rfl|rfl|rfl|rfl|rfl|rfl|rfl|rfl|rfl|rfl|rfl
 · exact ⟨_,1,1,by simp only [e3,e5,e7,e9,e11,e13,e15,e17,e19,e21,e23,e25,e27,e29,e31,e33,qaW,Int.reduceEq,↓reduceIte];rfl,qcM (o:=4) (hc2.le (h4.t h6|>.t h8|>.t h10|>.t h12|>.t h14|>.t h16|>.t h18|>.t h20|>.t h22|>.t h24|>.t h26|>.t h28|>.t h30|>.t h32|>.t hS2))⟩
 · exact ⟨_,1,1,by simp only [e3,e5,e7,e9,e11,e13,e15,e17,e19,e21,e23,e25,e27,e29,e31,e33,qaW,Int.reduceEq,↓reduceIte];rfl,qcM (o:=5) (hc4.le (h6.t h8|>.t h10|>.t h12|>.t h14|>.t h16|>.t h18|>.t h20|>.t h22|>.t h24|>.t h26|>.t h28|>.t h30|>.t h32|>.t hS2))⟩
 · exact ⟨_,1,1,by simp only [e3,e5,e7,e9,e11,e13,e15,e17,e19,e21,e23,e25,e27,e29,e31,e33,qaW,Int.reduceEq,↓reduceIte];rfl,qcM (o:=6) (hc6.le (h8.t h10|>.t h12|>.t h14|>.t h16|>.t h18|>.t h20|>.t h22|>.t h24|>.t h26|>.t h28|>.t h30|>.t h32|>.t hS2))⟩
 · exact ⟨_,1,1,by simp only [e3,e5,e7,e9,e11,e13,e15,e17,e19,e21,e23,e25,e27,e29,e31,e33,qaW,Int.reduceEq,↓reduceIte];rfl,qcM (o:=7) (hc8.le (h10.t h12|>.t h14|>.t h16|>.t h18|>.t h20|>.t h22|>.t h24|>.t h26|>.t h28|>.t h30|>.t h32|>.t hS2))⟩
 · exact ⟨_,1,1,by simp only [e3,e5,e7,e9,e11,e13,e15,e17,e19,e21,e23,e25,e27,e29,e31,e33,qaW,Int.reduceEq,↓reduceIte];rfl,qcM (o:=8) (hc10.le (h12.t h14|>.t h16|>.t h18|>.t h20|>.t h22|>.t h24|>.t h26|>.t h28|>.t h30|>.t h32|>.t hS2))⟩
 · exact ⟨_,1,1,by simp only [e3,e5,e7,e9,e11,e13,e15,e17,e19,e21,e23,e25,e27,e29,e31,e33,qaW,Int.reduceEq,↓reduceIte];rfl,qcM (o:=9) (hc12.le (h14.t h16|>.t h18|>.t h20|>.t h22|>.t h24|>.t h26|>.t h28|>.t h30|>.t h32|>.t hS2))⟩
 · exact ⟨_,1,1,by simp only [e3,e5,e7,e9,e11,e13,e15,e17,e19,e21,e23,e25,e27,e29,e31,e33,qaW,Int.reduceEq,↓reduceIte];rfl,qcM (o:=10) (hc14.le (h16.t h18|>.t h20|>.t h22|>.t h24|>.t h26|>.t h28|>.t h30|>.t h32|>.t hS2))⟩
 · exact ⟨_,1,1,by simp only [e3,e5,e7,e9,e11,e13,e15,e17,e19,e21,e23,e25,e27,e29,e31,e33,qaW,Int.reduceEq,↓reduceIte];rfl,qcM (o:=11) (hc16.le (h18.t h20|>.t h22|>.t h24|>.t h26|>.t h28|>.t h30|>.t h32|>.t hS2))⟩
 · exact ⟨_,1,1,by simp only [e3,e5,e7,e9,e11,e13,e15,e17,e19,e21,e23,e25,e27,e29,e31,e33,qaW,Int.reduceEq,↓reduceIte];rfl,qcM (o:=12) (hc18.le (h20.t h22|>.t h24|>.t h26|>.t h28|>.t h30|>.t h32|>.t hS2))⟩
 · exact ⟨_,1,1,by simp only [e3,e5,e7,e9,e11,e13,e15,e17,e19,e21,e23,e25,e27,e29,e31,e33,qaW,Int.reduceEq,↓reduceIte];rfl,qcM (o:=13) (hc20.le (h22.t h24|>.t h26|>.t h28|>.t h30|>.t h32|>.t hS2))⟩
 · exact ⟨_,1,1,by simp only [e3,e5,e7,e9,e11,e13,e15,e17,e19,e21,e23,e25,e27,e29,e31,e33,qaW,Int.reduceEq,↓reduceIte];rfl,qcM (o:=14) (hc22.le (h24.t h26|>.t h28|>.t h30|>.t h32|>.t hS2))⟩
 · exact ⟨_,2,2,by simp only [e3,e5,e7,e9,e11,e13,e15,e17,e19,e21,e23,e25,e27,e29,e31,e33,qaW,Int.reduceEq,↓reduceIte];rfl,qcM (o:=15) (hc24.le (h26.t h28|>.t h30|>.t h32|>.t hS2))⟩
 · exact ⟨_,1,1,by simp only [e3,e5,e7,e9,e11,e13,e15,e17,e19,e21,e23,e25,e27,e29,e31,e33,qaW,Int.reduceEq,↓reduceIte];rfl,qcM (o:=16) (hc26.le (h28.t h30|>.t h32|>.t hS2))⟩
 · exact ⟨_,2,2,by simp only [e3,e5,e7,e9,e11,e13,e15,e17,e19,e21,e23,e25,e27,e29,e31,e33,qaW,Int.reduceEq,↓reduceIte];rfl,qcM (o:=17) (hc28.le (h30.t h32|>.t hS2))⟩
 · exact ⟨_,1,1,by simp only [e3,e5,e7,e9,e11,e13,e15,e17,e19,e21,e23,e25,e27,e29,e31,e33,qaW,Int.reduceEq,↓reduceIte];rfl,qcM (o:=18) (hc30.le (h32.t hS2))⟩
 · exact ⟨_,2,2,by simp only [e3,e5,e7,e9,e11,e13,e15,e17,e19,e21,e23,e25,e27,e29,e31,e33,qaW,Int.reduceEq,↓reduceIte];rfl,qcM (o:=19) (hc32.le ((Lr D).t hS2))⟩
def EXC(D d:Nat)(p:Prg)(x:Fnc):Prop:=∀ (L:Hl) (s:World),GP s→∀ (E:CE),EOK s p x E→∀ (bb k w:Nat) (vl:Value) (M:Hl) (t:Str),CR E bb k w vl t M→∀ (e:Ex) (A:Option Addr) (n c:Nat),Exs d s A n c e.args→U32 e.num→XOK p x e→k+w+3 * exN e≤1000000→t.length+(cT (cE p x e w k).1).length≤1000000000→AC prog D 112 [.pointer (some ⟨bb,0,none⟩),.agg #[.int .i64 e.kind,.int .i64 e.op,.int .u32 e.num,St e.name,.slice A n c]] (M++L) s fun v L' _=>∃ M',L'=M'++L∧v=.tuple #[]∧CR E bb (cE p x e w k).2 w vl (t++cT (cE p x e w k).1) M'
def UNC(D d:Nat)(p:Prg)(x:Fnc):Prop:=∀ (L:Hl) (s:World),GP s→∀ (E:CE),EOK s p x E→∀ (bb k w:Nat) (vl:Value) (M:Hl) (t:Str),CR E bb k w vl t M→∀ (e:Ex) (A:Option Addr) (n c:Nat),e.kind=6→Exs d s A n c e.args→U32 e.num→XOK p x e→k+w+3 * exN e≤1000000→t.length+(cT (cE p x e w k).1).length≤1000000000→AC prog D 154 [.pointer (some ⟨bb,0,none⟩),.agg #[.int .i64 e.kind,.int .i64 e.op,.int .u32 e.num,St e.name,.slice A n c]] (M++L) s fun v L' _=>∃ M',L'=M'++L∧v=.tuple #[]∧CR E bb (cE p x e w k).2 w vl (t++cT (cE p x e w k).1) M'
def BIC(D d:Nat)(p:Prg)(x:Fnc):Prop:=∀ (L:Hl) (s:World),GP s→∀ (E:CE),EOK s p x E→∀ (bb k w:Nat) (vl:Value) (M:Hl) (t:Str),CR E bb k w vl t M→∀ (e:Ex) (A:Option Addr) (n c:Nat),e.kind=7→Exs d s A n c e.args→U32 e.num→XOK p x e→k+w+3 * exN e≤1000000→t.length+(cT (cE p x e w k).1).length≤1000000000→AC prog D 155 [.pointer (some ⟨bb,0,none⟩),.agg #[.int .i64 e.kind,.int .i64 e.op,.int .u32 e.num,St e.name,.slice A n c]] (M++L) s fun v L' _=>∃ M',L'=M'++L∧v=.tuple #[]∧CR E bb (cE p x e w k).2 w vl (t++cT (cE p x e w k).1) M'
def CLC(D d:Nat)(p:Prg)(x:Fnc):Prop:=∀ (L:Hl) (s:World),GP s→∀ (E:CE),EOK s p x E→∀ (bb k w:Nat) (vl:Value) (M:Hl) (t:Str),CR E bb k w vl t M→∀ (nm:Str) (A:Option Addr) (n c:Nat) (az:List Ex),Exs d s A n c az→XsOK p x az→az.length≤6→k+w+3 * qbD az≤1000000→t.length+(cT ((cC p x az w k).1++cL p nm az.length)).length≤1000000000→AC prog D 116 [.pointer (some ⟨bb,0,none⟩),St nm,.slice A n c] (M++L) s fun v L' _=>∃ M',L'=M'++L∧v=.tuple #[]∧CR E bb (cC p x az w k).2 w vl (t++cT ((cC p x az w k).1++cL p nm az.length)) M'
def qfV{d:Nat}{s:World}{A:Option Addr}{n c j:Nat}{p:Prg}{x:Fnc}{l:List Ex}(h:Exs d s A n c l)(hX:XsOK p x l)(hj:j < l.length):∃ e b off y A' n' c',d=e+1∧A=some ⟨b,off,none⟩∧j < n∧l[j]?=some y∧CellsAt s b (off+j * 5) [.int .i64 y.kind,.int .i64 y.op,.int .u32 y.num,St y.name,.slice A' n' c']∧Exs e s A' n' c' y.args∧U32 y.num∧XOK p x y:=by
 have hn:j < n:=by rw [h.1];exact hj
 obtain ⟨e,b,off,y,A',n',c',h1,h2,h3,h4,h5,h6,_⟩:=Exs.at_ h hn;exact ⟨e,b,off,y,A',n',c',h1,h2,hn,h3,h4,h5,h6,hX.at_ h3⟩
def qhH(D d:Nat)(p:Prg)(x:Fnc)(ih:∀ e,d=e+1→EXC D e p x)(L:Hl)(s:World)(hG:GP s)(E:CE)(hE:EOK s p x E)(bb k w:Nat)(vl:Value)(M:Hl)(t:Str)(hW:CR E bb k w vl t M)(nm:Str)(A:Option Addr)(n c:Nat)(az:List Ex)(hA:Exs d s A n c az)(hXs:XsOK p x az)(ha6:az.length≤6)(hk:k+w+3 * qbD az≤1000000)(hlen:t.length+(cT ((cC p x az w k).1++cL p nm az.length)).length≤1000000000):AC prog D 116 [.pointer (some ⟨bb,0,none⟩),St nm,.slice A n c] (M++L) s fun v L' _=>∃ M',L'=M'++L∧v=.tuple #[]∧CR E bb (cC p x az w k).2 w vl (t++cT ((cC p x az w k).1++cL p nm az.length)) M':=by
 obtain ⟨Ag,ng,cg,Af,nf,cf,gm,fm,sm,sz,nl⟩:=E;have hgl:Glos s Ag ng cg p.globals:=hE.gl;have hng:=hgl.1;have hsz:sz=szF x:=hE.sz;have hnl:nl=x.locals.length:=hE.nl;obtain ⟨bs,hbs,ess,hms,hhms⟩:=hE.ms;have hbs:sm=some bs:=hbs;subst hbs;obtain ⟨esg,hmg,hhmg⟩:=hE.mg;obtain ⟨esf,hmf,hhmf⟩:=hE.mf;have hp6:=hE.pq.p6;have hl12:=hE.pq.l12;have hg64:=hE.pq.g64;have hf64:=hE.pq.f64;unfold szF at hsz;obtain rfl:n=az.length:=hA.1;obtain ⟨i,hi,hil⟩:=qqX (nm:=nm) hE.pq.f0;rw [qaK,List.length_append] at hlen;have hcl:(liT (.ref qhk (fT (fi p nm)))).length≤(cT (cL p nm az.length)).length:=by rw [cL,qaj,List.length_append];omega
 refine qae (fn:=f116) qav func116 V Z ntmps116 Z (rs:=[]) Z [(0,_),(1,_),(2,_)] Z<|Zs<|Sr<|Zqm Z Z<|Ws Y4<|Zqm Z Z<|Nt<|Zp<|?_;refine qaA (γ:=Nat×Nat×Hl×Str) (fun g=>[(0,_),(1,_),(2,_),(9,_),(10,_),(11,.int .i64 (g.1:Int))]) (fun g=>g.2.2.1++L) (fun g tw=>Le D s tw∧(g.1≤az.length∧CR ⟨Ag,ng,cg,Af,nf,cf,gm,fm,some bs,sz,nl⟩ bb g.2.1 (w+g.1) vl g.2.2.2 g.2.2.1∧g.2.2.2++cT (cC p x (az.drop g.1) (w+g.1) g.2.1).1=t++cT (cC p x az w k).1∧(cC p x (az.drop g.1) (w+g.1) g.2.1).2=(cC p x az w k).2∧g.2.1+(w+g.1)+3 * qbD (az.drop g.1)≤1000000)) (fun g=>az.length - g.1) (fun _ _ _ h hl=>⟨h.1.trans hl,h.2⟩) (0,k,M,t) (.c6 Z Z Z Z Z Z (.nil _)) Z ⟨Le.refl _,⟨Nat.zero_le _,hW,Z,Z,hk⟩⟩ ?_;intro g s1 I1;obtain ⟨j,kj,Mj,tj⟩:=g;obtain ⟨hj0,hWj,hT1,hT2,hkj⟩:=I1.2;simp only at hj0 hWj hT1 hT2 hkj;dsimp only;have hle:=congrArg List.length hT1;simp only [List.length_append] at hle;refine Sr<|qa8 Z Z Z<|Nt<|Zs<|?_;refine qaa Z ?_ ?_<;>intro c2;·obtain ⟨dy,bky,oy,y,Ay,ny,cy,hdy,rfl,hny,hy,hcy,hsy,huy,hxy⟩:=qfV (j:=j) (hA.le I1.1) hXs O;have hT:=qAO (p:=p) (x:=x) (w:=w+j) (k:=kj) hy;rw [qds hy] at hkj;have hpos:=qkp y;rw [hT] at hle;simp only [qaK,qaj,List.length_append] at hle;refine Zk<|Zt<|Zs<|Zp<|Sr<|qad (qau Z Z Z Z Z Z hny) Z<|qad (qaw Z Z Z (hcy.le (Lr D)) Z) Z<|qag Z [_,_,_,_,_] Z Z fun β3 s3 h3=>Wt 0 [_,_,_,_,_] Y9<|Nt<|Sr<|Zqm Z Z<|qad (qao 0 [_,_,_,_,_] Z Z Z Z Z) Z<|Jc Z Z Z (AC.mid [_] Mj L (ih dy hdy _ _ (hG.le (I1.1.t h3)) _ (hE.le (I1.1.t h3)) _ _ _ _ Mj _ hWj y Ay ny cy (hsy.le h3) huy hxy O (by first|omega|(simp only [qaj,qap,List.length_append,List.length_nil];omega)))) ?_;rintro _ _ s4 h4 ⟨M1,rfl,rfl,hW1⟩;simp only [cQ9,nQ9];refine Nt<|Zr<|Zqm Z Z<|Jc Z Z Z (AC.mid [_] M1 L (qiC D _ _ (M:=M1) hW1 O (by first|omega|(simp only [qaj,qap,List.length_append,List.length_nil];omega)))) ?_;rintro _ _ s5 h5 ⟨M2,rfl,rfl,hW2⟩;simp only [cQ9,nQ9];refine Zn<|Zb<|Zt<|Zr<|qaD Z Z Z (w64 O O)<|Zqm Z Z<|Zn<|?_;refine qab ⟨(j+1,(cE p x y (w+j) kj).2,M2,_),[_],kp,Z,⟨(I1.1.t h3|>.t h4|>.t h5),⟨by simp only;omega,hW2,by simp only;rw [← hT1,hT];simp only [qaK,qaj,qap,List.append_assoc,List.append_nil,List.cons_append,List.nil_append,List.length_nil,Nat.add_zero];rfl,by simp only;rw [← hT2,hT];rfl,by simp only;have:=qkf (p:=p) (x:=x) y (w+j) kj;rw [show w+(j+1)=w+j+1 from Z];omega⟩⟩,Oz⟩
 obtain rfl:az.length=j:=by omega
 rw [List.drop_eq_nil_of_le (Nat.le_refl _),cC] at hT1 hT2;rw [show cT ([]:List Li)=[] from rfl,List.append_nil] at hT1;subst hT1;simp only at hT2;subst hT2;refine Zl<|Zv<|Zv<|Zd<|Zt<|Zs<|?_;obtain ⟨p1,N1,v1,hp1,rfl,hb1⟩:=hWj;simp only [List.cons_append,qcR];refine qaB qac 12 Z 0 fun s6 h6=>za 0 Z (qan Z) Z<|za 1 Z (qam Z) Z<|za 2 Z (qat Z Z Z Z) Z<|za 3 Z (qan Z) Z<|za 4 Z (qam Z) Z<|za 5 Z (We Y4) Z<|za 7 Z (qan Z) Z<|qar 6 V<|qbA Z Tt (Wd 0 Y5) Z<|za 8 Z (qaz (qc0 KeyK.str qdv Z Z (hmf.le (I1.1.t h6))) ((qhR hhmf _).trans (congrArg (Value.int .i64) (show _=fi p nm from Z)))) Z<|qar 9 V<|Jf Z Tt Z Z Z (qvJ D _ _ (hG.le (I1.1.t h6)) _ O O) fun s7 h7=>qar 10 V<|qbQ Z Tt [(_,_),(_,_)] [_,_] Z Z Z Z Z Z Z Z Z fun β8 s8 h8 hc8=>qar 11 V<|Jb Z Tt Z Z Z (qcm D _ _ (M:=(_::N1)) (n:=qhk) ⟨p1,N1,v1,hp1,Z,hb1⟩ (hc8.le (Lr D)) (by first|omega|(simp only [qaj,qap,List.length_append,List.length_nil];omega))) ?_;have e8:=I1.1.t h6|>.t h7|>.t h8;rintro _ _ s9 h9 ⟨M2,rfl,rfl,hW2⟩;refine ⟨(fun _ hx _=>by cases hx),?_⟩;refine qaf V<|Zt<|Sr<|Zqm Z Z<|Ws Y4<|At Z Z<|Sr<|Zqm Z Z<|qbl Z Z Z<|Nt<|?_;refine qaa Z ?_ ?_<;>intro c10
 ·have hT:cL p nm az.length=[.ref qhk (fT (fi p nm)),.num qxE az.length]:=by rw [cL,if_pos (by have:=c10;omega)]
  rw [hT] at hlen;simp only [qaj,qap,List.length_append,List.length_nil] at hlen;refine Sr<|Zqm Z Z<|qaQ Z Z<|W0 Y5<|Zqm Z Z<|Jc Z Z Z (qbS D _ _ (hG.le (e8.t h9)) (M:=M2) hW2 qxE _ O (by first|omega|(simp only [qaj,qap,List.length_append,List.length_nil];omega))) ?_;rintro _ _ s11 h11 ⟨M3,rfl,rfl,hW3⟩;refine Nt<|?_;obtain ⟨p4,N4,v4,hp4,rfl,hb4⟩:=hW3;simp only [List.cons_append,qcR];refine Zr<|Zqm Z Z<|qaQ Z Z<|Wb Y5<|Wl 0 Y6<|Zqm Z Z<|qad (qba (c:=(w:Int)) Z Z (by rw [w64 O O];omega)) Z<|qaQ Z Z<|Wb Y5<|Wt 0 [_,_,_,_,_,_,_,_,_,_,_,_] Y9<|Zn ?_;refine qal [] _ (.inl Z) (.nil) Z (e8.t h9|>.t h11) fun _ hS2=>?_;exact ⟨(_::N4),rfl,rfl,by rw [hT];simpa only [qaK,qaj,qap,List.append_assoc,List.append_nil,List.cons_append,List.nil_append,List.length_nil,Nat.add_zero] using (show CR ⟨_,ng,cg,Af,nf,cf,gm,fm,some bs,sz,nl⟩ bb _ w vl _ _ from ⟨p4,N4,v4,hp4,rfl,hb4⟩)⟩
 obtain rfl:az=[]:=List.eq_nil_of_length_eq_zero (by have:=c10;omega);have hT:cL p nm ([]:List Ex).length=[.ref qhk (fT (fi p nm))]:=rfl;refine Zk ?_;refine qal [] _ (.inl Z) (.nil) Z (e8.t h9) fun _ hS2=>?_;exact qxU
def qll(D d:Nat)(p:Prg)(x:Fnc)(ih:∀ e,d=e+1→EXC D e p x)(L:Hl)(s:World)(hG:GP s)(E:CE)(hE:EOK s p x E)(bb k w:Nat)(vl:Value)(M:Hl)(t:Str)(hW:CR E bb k w vl t M)(e:Ex)(A:Option Addr)(n c:Nat)(hk6:e.kind=6)(hA:Exs d s A n c e.args)(hu:U32 e.num)(hX:XOK p x e)(hk:k+w+3 * exN e≤1000000)(hlen:t.length+(cT (cE p x e w k).1).length≤1000000000):AC prog D 154 [.pointer (some ⟨bb,0,none⟩),.agg #[.int .i64 e.kind,.int .i64 e.op,.int .u32 e.num,St e.name,.slice A n c]] (M++L) s fun v L' _=>∃ M',L'=M'++L∧v=.tuple #[]∧CR E bb (cE p x e w k).2 w vl (t++cT (cE p x e w k).1) M':=by
 have hXs:=hX.args;obtain ⟨hla,_⟩:=qkq hX;rw [hk6] at hla;have hla:1≤e.args.length:=hla;refine qae (fn:=f154) qav func154 V Z ntmps154 Z (rs:=[]) Z [(0,_),(1,_)] Z<|Zs ?_;obtain ⟨dy,bky,oy,y,Ay,ny,cy,hdy,rfl,hny,hy,hcy,hsy,huy,hxy⟩:=qfV (j:=0) (hA.le (Lr D)) hXs O;have hN:=qvG hy;refine Zr<|qay Z Z fun β1 s1 h1=>Nt<|Zs<|Sr<|Wb Y5<|Wl 0 Y6<|qax Z Z Z<|Nt<|?_;refine qaa Z ?_ ?_<;>intro c2;·have hT:=cX_6 (p:=p) (x:=x) (w:=w) (k:=k) hk6 c2 hy;rw [hT] at hlen;simp only [qaK,qaj,qap,List.length_append,List.length_nil,List.cons_append] at hlen;refine Sr<|Zqm Z Z<|Wb Y5<|Wl 0 Y6<|qad (qau (j:=0) Z Z Z Z Z Z hny) Z<|qad (qaw Z Z Z (hcy.le h1) Z) Z<|Jc Z Z Z (AC.mid [_] M L (ih dy hdy _ _ (hG.le h1) _ (hE.le h1) _ _ _ _ M _ hW y Ay ny cy (hsy.le h1) huy hxy O (by first|omega|(simp only [qaj,qap,List.length_append,List.length_nil];omega)))) ?_;rintro _ _ s3 h3 ⟨M1,rfl,rfl,hW1⟩;simp only [cQ9,nQ9];refine Nt<|Sr<|Zqm Z Z<|qaQ Z Z<|W0 Y5<|qa4 [(_,_)] [_] Z Z Z Z Z Z Z Z Z fun β4 s4 h4 hc4=>Jc Z Z Z (AC.mid [_] M1 L (qdr D _ _ (M:=M1) (n:=qdD) hW1 (hc4.le (Lr D)) (by first|omega|(simp only [qaj,qap,List.length_append,List.length_nil];omega)))) ?_;rintro _ _ s5 h5 ⟨M2,rfl,rfl,hW2⟩;simp only [cQ9,nQ9];refine Nt<|Zo<|Zu<|?_;exact rR [_] _ (.nil) Z (h1.t h3|>.t h4|>.t h5) fun _ hS2=>⟨M2,rfl,rfl,by rw [hT];simpa only [qaK,qaj,qap,List.append_assoc,List.append_nil,List.cons_append,List.nil_append,List.length_nil,Nat.add_zero] using (show CR E bb _ w vl _ _ from hW2)⟩
 have hT:=cX_7 (p:=p) (x:=x) (w:=w) (k:=k) hk6 c2 hy;rw [hT] at hlen;simp only [qaK,qaj,qap,List.length_append,List.length_nil,List.cons_append] at hlen;refine Zk<|Zt<|Sr<|At Z Z<|?_;refine qcH (γ:=Unit) (fun _=>[(4,.int .i64 (if e.op=3 then 4294967295 else 0))]) [_] Z (fun g=>M++L) (fun g tw=>True) (fun _ _ _ h hl=>h) ?_ ?_
 ·refine Sr<|Wb Y5<|Wl 0 Y6<|qax Z Z Z<|Nt<|?_;refine qaa Z ?_ ?_<;>intro c7;·refine Zr<|Zqa Z Z<|Zn<|?_;refine qab (MidG.mk () [] (Lr D) (.cons (by first|(rw [if_pos ‹e.op=3›];rfl)|(rw [if_neg ‹¬ e.op=3›];rfl)) (.nil _)) So Pr Tt)
  refine Zk ?_;refine qab (MidG.mk () [] (Lr D) (.cons (by first|(rw [if_pos ‹e.op=3›];rfl)|(rw [if_neg ‹¬ e.op=3›];rfl)) (.nil _)) So Pr Tt)
 intro g s6 h6 I6;have e6:=h1.t h6;simp only [cQ9,nQ9];have hof:0≤(if e.op=3 then 4294967295 else 0:Int)∧(if e.op=3 then 4294967295 else 0:Int) < 4294967296:=by split<;>decide
 refine Sr<|Zqm Z Z<|qaQ Z Z<|W0 Y5<|Zqm Z Z<|Jc Z Z Z (AC.mid [_] M L (qbS D _ _ (hG.le e6) (M:=M) hW qgk _ hof (by first|omega|(simp only [qaj,qap,List.length_append,List.length_nil];omega)))) ?_;rintro _ _ s8 h8 ⟨M1,rfl,rfl,hW1⟩;have e8:=e6.t h8;simp only [cQ9,nQ9];refine Nt<|Sr<|Zqm Z Z<|Jc Z Z Z (AC.mid [_] M1 L (qiC D _ _ (M:=M1) hW1 O (by first|omega|(simp only [qaj,qap,List.length_append,List.length_nil];omega)))) ?_;rintro _ _ s9 h9 ⟨M2,rfl,rfl,hW2⟩;have e9:=e8.t h9;simp only [cQ9,nQ9];refine Nt<|Sr<|Zqm Z Z<|Wb Y5<|Wl 0 Y6<|qad (qau (j:=0) Z Z Z Z Z Z hny) Z<|qad (qaw Z Z Z (hcy.le e9) Z) Z<|Jc Z Z Z (AC.mid [_] M2 L (ih dy hdy _ _ (hG.le e9) _ (hE.le e9) _ _ _ _ M2 _ hW2 y Ay ny cy (hsy.le e9) huy hxy O (by first|omega|(simp only [qaj,qap,List.length_append,List.length_nil];omega)))) ?_;rintro _ _ s10 h10 ⟨M3,rfl,rfl,hW3⟩;simp only [cQ9,nQ9];refine Nt<|Sr<|Zqm Z Z<|qaQ Z Z<|W0 Y5<|qa4 [(_,_)] [_] Z Z Z Z Z Z Z Z Z fun β11 s11 h11 hc11=>Jc Z Z Z (AC.mid [_] M3 L (qdr D _ _ (M:=M3) (n:=qAp) hW3 (hc11.le (Lr D)) (by first|omega|(simp only [qaj,qap,List.length_append,List.length_nil];omega)))) ?_;rintro _ _ s12 h12 ⟨M4,rfl,rfl,hW4⟩;simp only [cQ9,nQ9];refine Nt<|?_;obtain ⟨p5,N5,v5,hp5,rfl,hb5⟩:=hW4;simp only [List.cons_append,qcR];refine Zr<|Zqm Z Z<|qaQ Z Z<|Wb Y5<|Wl 1 Y6<|qad (qba (c:=(w:Int)) Z Z (by rw [w64 O O];omega)) Z<|qaQ Z Z<|Wb Y5<|Wt 1 [_,_,_,_,_,_,_,_,_,_,_,_] Y9<|Zn ?_;refine qal [_] _ (.inl Z) (.nil) Z (e9.t h10|>.t h11|>.t h12) fun _ hS2=>?_;exact ⟨(_::N5),rfl,rfl,by rw [hT];simpa only [qaK,qaj,qap,List.append_assoc,List.append_nil,List.cons_append,List.nil_append,List.length_nil,Nat.add_zero] using (show CR E bb _ w vl _ _ from ⟨p5,N5,v5,hp5,rfl,hb5⟩)⟩
def qle(D d:Nat)(p:Prg)(x:Fnc)(ih:∀ e,d=e+1→EXC D e p x)(L:Hl)(s:World)(hG:GP s)(E:CE)(hE:EOK s p x E)(bb k w:Nat)(vl:Value)(M:Hl)(t:Str)(hW:CR E bb k w vl t M)(e:Ex)(A:Option Addr)(n c:Nat)(hk7:e.kind=7)(hA:Exs d s A n c e.args)(hu:U32 e.num)(hX:XOK p x e)(hk:k+w+3 * exN e≤1000000)(hlen:t.length+(cT (cE p x e w k).1).length≤1000000000):AC prog D 155 [.pointer (some ⟨bb,0,none⟩),.agg #[.int .i64 e.kind,.int .i64 e.op,.int .u32 e.num,St e.name,.slice A n c]] (M++L) s fun v L' _=>∃ M',L'=M'++L∧v=.tuple #[]∧CR E bb (cE p x e w k).2 w vl (t++cT (cE p x e w k).1) M':=by
 have hXs:=hX.args;obtain ⟨hla,_,_,hop⟩:=qkq hX;have hop:=hop hk7;rw [hk7] at hla;have hla:2≤e.args.length:=hla;refine qae (fn:=f155) qav func155 V Z ntmps155 Z (rs:=[]) Z [(0,_),(1,_)] Z<|Zs ?_;obtain ⟨dy,bky,oy,y,Ay,ny,cy,hdy,rfl,hny,hy,hcy,hsy,huy,hxy⟩:=qfV (j:=0) (hA.le (Lr D)) hXs O;obtain ⟨dz,bkz,oz,z,Az,nz,cz,hdz,hAz,hnz,hz,hcz,hsz,huz,hxz⟩:=qfV (j:=1) (hA.le (Lr D)) hXs O;cases hAz;have hN:=qA2 hy hz;have hk1:=qkf (p:=p) (x:=x) y w k;have hle0:t.length+(cT (cE p x y w k).1).length≤1000000000:=by
   have h9:(cT (cE p x y w k).1).length≤(cT (cE p x e w k).1).length:=by
     by_cases h20:e.op=20
     · rw [qyE hk7 hy hz h20];simp only [qaK,List.length_append];omega
     · by_cases h21:e.op=21
       · rw [qyF hk7 hy hz h21];simp only [qaK,List.length_append];omega
       · rw [qyG hk7 hy hz h20 h21];simp only [qaK,List.length_append];omega
   omega
 refine Zr<|qay Z Z fun β1 s1 h1=>Nt<|Sr<|Zqm Z Z<|Wb Y5<|Wl 0 Y6<|qad (qau (j:=0) Z Z Z Z Z Z hny) Z<|qad (qaw Z Z Z (hcy.le h1) Z) Z<|Jc Z Z Z (AC.mid [_] M L (ih dy hdy _ _ (hG.le h1) _ (hE.le h1) _ _ _ _ M _ hW y Ay ny cy (hsy.le h1) huy hxy O (by first|omega|(simp only [qaj,qap,List.length_append,List.length_nil];omega)))) ?_;rintro _ _ s2 h2 ⟨M1,rfl,rfl,hW1⟩;have e2:=h1.t h2;simp only [cQ9,nQ9];refine Nt<|Zs<|Sr<|Wb Y5<|Wl 0 Y6<|Nt<|Zp<|Sr<|qax Z Z Z<|At Z Z<|?_;refine qaa Z ?_ ?_<;>intro c3;·have hT:=qyE (p:=p) (x:=x) (w:=w) (k:=k) hk7 hy hz c3;rw [hT] at hlen;simp only [qaK,qaj,qap,List.length_append,List.length_nil,List.cons_append] at hlen;refine Sr<|Zqm Z Z<|qaQ Z Z<|W0 Y5<|Jc Z Z Z (AC.mid [_] M1 L (qeD D _ _ (hG.le e2) (M:=M1) hW1 O)) ?_;rintro _ _ s4 h4 ⟨M2,rfl,rfl,hW2⟩;have e4:=e2.t h4;simp only [cQ9,nQ9];refine At Z Z<|Sr<|Zqm Z Z<|qaQ Z Z<|W0 Y5<|Zqm Z Z<|qa4 [(_,_),(_,_)] [_,_] Z Z Z Z Z Z Z Z Z fun β5 s5 h5 hc5=>Jc Z Z Z (AC.mid [_] M2 L (qcm D _ _ (M:=M2) (n:=qdk) hW2 (hc5.le (Lr D)) (by first|omega|(simp only [qaj,qap,List.length_append,List.length_nil];omega)))) ?_;have e5:=e4.t h5;rintro _ _ s6 h6 ⟨M3,rfl,rfl,hW3⟩;have e6:=e5.t h6;simp only [cQ9,nQ9];refine Nt<|Sr<|Zqm Z Z<|Wb Y5<|Wl 0 Y6<|qad (qau (j:=1) Z Z Z Z Z Z hnz) Z<|qad (qaw Z Z Z (hcz.le e6) Z) Z<|Jc Z Z Z (AC.mid [_] M3 L (ih dz hdz _ _ (hG.le e6) _ (hE.le e6) _ _ _ _ M3 _ hW3 z Az nz cz (hsz.le e6) huz hxz O (by first|omega|(simp only [qaj,qap,List.length_append,List.length_nil];omega)))) ?_;rintro _ _ s7 h7 ⟨M4,rfl,rfl,hW4⟩;simp only [cQ9,nQ9];refine Nt<|Sr<|Zqm Z Z<|qaQ Z Z<|W0 Y5<|qa4 [(_,_)] [_] Z Z Z Z Z Z Z Z Z fun β8 s8 h8 hc8=>Jc Z Z Z (AC.mid [_] M4 L (qdr D _ _ (M:=M4) (n:=qdD) hW4 (hc8.le (Lr D)) (by first|omega|(simp only [qaj,qap,List.length_append,List.length_nil];omega)))) ?_;rintro _ _ s9 h9 ⟨M5,rfl,rfl,hW5⟩;simp only [cQ9,nQ9];refine Nt<|Sr<|Zqm Z Z<|qaQ Z Z<|W0 Y5<|qa4 [(_,_)] [_] Z Z Z Z Z Z Z Z Z fun β10 s10 h10 hc10=>Jc Z Z Z (AC.mid [_] M5 L (qdr D _ _ (M:=M5) (n:=qdD) hW5 (hc10.le (Lr D)) (by first|omega|(simp only [qaj,qap,List.length_append,List.length_nil];omega)))) ?_;rintro _ _ s11 h11 ⟨M6,rfl,rfl,hW6⟩;simp only [cQ9,nQ9];refine Nt<|Sr<|Zqm Z Z<|qaQ Z Z<|W0 Y5<|Zqm Z Z<|Jc Z Z Z (AC.mid [_] M6 L (qbZ D _ _ (M:=M6) hW6 _ (by first|omega|(simp only [qaj,qap,List.length_append,List.length_nil];omega)))) ?_;rintro _ _ s12 h12 ⟨M7,rfl,rfl,hW7⟩;simp only [cQ9,nQ9];refine Nt<|Zo<|Zc<|Zu<|?_;exact rR [_] _ (.nil) Z (e6.t h7|>.t h8|>.t h9|>.t h10|>.t h11|>.t h12) fun _ hS2=>⟨M7,rfl,rfl,by rw [hT];simpa only [qaK,qaj,qap,List.append_assoc,List.append_nil,List.cons_append,List.nil_append,List.length_nil,Nat.add_zero] using (show CR E bb _ w vl _ _ from hW7)⟩
 have ho20:=c3;refine Sr<|qax Z Z Z<|At Z Z<|?_;refine qaa Z ?_ ?_<;>intro c13;·have hT:=qyF (p:=p) (x:=x) (w:=w) (k:=k) hk7 hy hz c13;rw [hT] at hlen;simp only [qaK,qaj,qap,List.length_append,List.length_nil,List.cons_append] at hlen;refine Sr<|Zqm Z Z<|qaQ Z Z<|W0 Y5<|Jc Z Z Z (AC.mid [_] M1 L (qeD D _ _ (hG.le e2) (M:=M1) hW1 O)) ?_;rintro _ _ s14 h14 ⟨M2,rfl,rfl,hW2⟩;have e14:=e2.t h14;simp only [cQ9,nQ9];refine At Z Z<|Sr<|Zqm Z Z<|qaQ Z Z<|W0 Y5<|qa4 [(_,_)] [_] Z Z Z Z Z Z Z Z Z fun β15 s15 h15 hc15=>Jc Z Z Z (AC.mid [_] M2 L (qdr D _ _ (M:=M2) (n:=qdD) hW2 (hc15.le (Lr D)) (by first|omega|(simp only [qaj,qap,List.length_append,List.length_nil];omega)))) ?_;have e15:=e14.t h15;rintro _ _ s16 h16 ⟨M3,rfl,rfl,hW3⟩;have e16:=e15.t h16;simp only [cQ9,nQ9];refine Nt<|Sr<|Zqm Z Z<|qaQ Z Z<|W0 Y5<|Zqm Z Z<|qa4 [(_,_),(_,_)] [_,_] Z Z Z Z Z Z Z Z Z fun β17 s17 h17 hc17=>Jc Z Z Z (AC.mid [_] M3 L (qcm D _ _ (M:=M3) (n:=qdk) hW3 (hc17.le (Lr D)) (by first|omega|(simp only [qaj,qap,List.length_append,List.length_nil];omega)))) ?_;have e17:=e16.t h17;rintro _ _ s18 h18 ⟨M4,rfl,rfl,hW4⟩;have e18:=e17.t h18;simp only [cQ9,nQ9];refine Nt<|Sr<|Zqm Z Z<|Wb Y5<|Wl 0 Y6<|qad (qau (j:=1) Z Z Z Z Z Z hnz) Z<|qad (qaw Z Z Z (hcz.le e18) Z) Z<|Jc Z Z Z (AC.mid [_] M4 L (ih dz hdz _ _ (hG.le e18) _ (hE.le e18) _ _ _ _ M4 _ hW4 z Az nz cz (hsz.le e18) huz hxz O (by first|omega|(simp only [qaj,qap,List.length_append,List.length_nil];omega)))) ?_;rintro _ _ s19 h19 ⟨M5,rfl,rfl,hW5⟩;simp only [cQ9,nQ9];refine Nt<|Sr<|Zqm Z Z<|qaQ Z Z<|W0 Y5<|qa4 [(_,_)] [_] Z Z Z Z Z Z Z Z Z fun β20 s20 h20 hc20=>Jc Z Z Z (AC.mid [_] M5 L (qdr D _ _ (M:=M5) (n:=qdD) hW5 (hc20.le (Lr D)) (by first|omega|(simp only [qaj,qap,List.length_append,List.length_nil];omega)))) ?_;rintro _ _ s21 h21 ⟨M6,rfl,rfl,hW6⟩;simp only [cQ9,nQ9];refine Nt<|Sr<|Zqm Z Z<|qaQ Z Z<|W0 Y5<|Zqm Z Z<|Jc Z Z Z (AC.mid [_] M6 L (qbZ D _ _ (M:=M6) hW6 _ (by first|omega|(simp only [qaj,qap,List.length_append,List.length_nil];omega)))) ?_;rintro _ _ s22 h22 ⟨M7,rfl,rfl,hW7⟩;simp only [cQ9,nQ9];refine Nt<|Sr<|Zqm Z Z<|qaQ Z Z<|W0 Y5<|qa4 [(_,_)] [_] Z Z Z Z Z Z Z Z Z fun β23 s23 h23 hc23=>Jc Z Z Z (AC.mid [_] M7 L (qdr D _ _ (M:=M7) (n:=qdD) hW7 (hc23.le (Lr D)) (by first|omega|(simp only [qaj,qap,List.length_append,List.length_nil];omega)))) ?_;rintro _ _ s24 h24 ⟨M8,rfl,rfl,hW8⟩;simp only [cQ9,nQ9];refine Nt<|Zo<|Zc<|Zu<|?_;exact rR [_] _ (.nil) Z (e18.t h19|>.t h20|>.t h21|>.t h22|>.t h23|>.t h24) fun _ hS2=>⟨M8,rfl,rfl,by rw [hT];simpa only [qaK,qaj,qap,List.append_assoc,List.append_nil,List.cons_append,List.nil_append,List.length_nil,Nat.add_zero] using (show CR E bb _ w vl _ _ from hW8)⟩
 have hT:=qyG (p:=p) (x:=x) (w:=w) (k:=k) hk7 hy hz ho20 c13;rw [hT] at hlen;simp only [qaK,qaj,qap,List.length_append,List.length_nil,List.cons_append] at hlen;refine Zk<|Zb<|Zt<|Sr<|Zqm Z Z<|Jc Z Z Z (AC.mid [_] M1 L (qiC D _ _ (M:=M1) hW1 O (by first|omega|(simp only [qaj,qap,List.length_append,List.length_nil];omega)))) ?_;rintro _ _ s25 h25 ⟨M2,rfl,rfl,hW2⟩;have e25:=e2.t h25;simp only [cQ9,nQ9];refine Nt<|Sr<|Zqm Z Z<|Wb Y5<|Wl 0 Y6<|qad (qau (j:=1) Z Z Z Z Z Z hnz) Z<|qad (qaw Z Z Z (hcz.le e25) Z) Z<|Jc Z Z Z (AC.mid [_] M2 L (ih dz hdz _ _ (hG.le e25) _ (hE.le e25) _ _ _ _ M2 _ hW2 z Az nz cz (hsz.le e25) huz hxz O (by first|omega|(simp only [qaj,qap,List.length_append,List.length_nil];omega)))) ?_;rintro _ _ s26 h26 ⟨M3,rfl,rfl,hW3⟩;simp only [cQ9,nQ9];refine Nt<|Zs<|Sr<|Wb Y5<|Wl 0 Y6<|Jc Z Z Z (qiB D _ _ e.op O) ?_;rintro _ _ s27 h27 ⟨rfl,Ak,nk,ck,rfl,hK⟩;have hnk:nk≤2:=by rw [hK.1];exact (qlR _).1
 refine Ws Y4<|Zqm Z Z<|Nt<|Zp<|?_;obtain ⟨tq,hq,hWq⟩:∃ tq,tq=((t++cT (cE p x y w k).1)++cT [.op qdC])++cT (cE p x z (w+1) (cE p x y w k).2).1∧CR E bb (cE p x z (w+1) (cE p x y w k).2).2 (w+1) vl tq M3:=⟨_,rfl,hW3⟩;have hql:=congrArg List.length hq;simp only [qaj,qap,List.length_append,List.length_nil] at hql;refine qbV [_] (γ:=Nat×Hl×Str) (fun g=>[(0,_),(97,_),(98,_),(99,.int .i64 (g.1:Int))]) (fun g=>g.2.1++L) (fun g tw=>Le D s27 tw∧(g.1≤nk∧CR E bb (cE p x z (w+1) (cE p x y w k).2).2 (w+1) vl g.2.2 g.2.1∧g.2.2++cT (((opN e.op).drop g.1).map .op)=tq++cT ((opN e.op).map .op))) (fun g=>nk - g.1) (fun _ _ _ h hl=>⟨h.1.trans hl,h.2⟩) (0,M3,tq) (.c4 Z Z Z Z (.nil _)) Z ⟨Le.refl _,⟨Nat.zero_le _,hWq,Z⟩⟩ ?_;intro g s28 I28;simp only [cQ9,nQ9];obtain ⟨j,Mj,tj⟩:=g;obtain ⟨hj0,hWj,hT1⟩:=I28.2;simp only at hj0 hWj hT1;dsimp only;have hle:=congrArg List.length hT1;simp only [List.length_append] at hle;refine Sr<|qa8 Z Z Z<|Nt<|Zs<|?_;refine qaa Z ?_ ?_<;>intro c29
 ·have hjk:j < nk:=by omega
  obtain ⟨bk,ok,xk,rfl,hxk,hck,_⟩:=Strs.at_ (hK.le I28.1) hjk;have hsp:=qlp hxk;rw [hsp,List.map_cons,qaj,List.length_append] at hle;refine Zk<|Zt<|Zs<|Zp<|Sr<|qad (qaU Z Z Z Z Z Z hjk) Z<|qad (qaq Z Z Z (hck.le (Lr D)) Z) Z<|At Z Z<|Zr<|Zqm Z Z<|qaQ Z Z<|W0 Y5<|Zqm Z Z<|qa4 [(_,_)] [_] Z Z Z Z Z Z Z Z Z fun β30 s30 h30 hc30=>Jc Z Z Z (AC.mid [_] Mj L (qdr D _ _ (M:=Mj) (n:=_) hWj (hc30.le (Lr D)) (by first|omega|(simp only [qaj,qap,List.length_append,List.length_nil];omega)))) ?_;rintro _ _ s31 h31 ⟨M4,rfl,rfl,hW4⟩;simp only [cQ9,nQ9];refine Zn<|Zb<|Zt<|Zr<|qaD Z Z Z (w64 O O)<|Zqm Z Z<|Zn<|?_;refine qab ⟨(j+1,M4,_),[],kp,Z,⟨(I28.1.t h30|>.t h31),⟨by simp only;omega,hW4,by simp only;rw [← hT1,hsp];simp only [List.map_cons,qaK,qaj,qap,List.append_assoc,List.append_nil,List.cons_append,List.nil_append,List.length_nil,Nat.add_zero]⟩⟩,Oz⟩
 rw [List.drop_eq_nil_of_le (by have:=hK.1;omega),List.map_nil,qap,List.append_nil] at hT1;subst hT1;subst hq;refine Zl<|Zv<|Zv<|Zd<|Zt<|?_;obtain ⟨p4,N4,v4,hp4,rfl,hb4⟩:=hWj;simp only [List.cons_append,qcR];refine Zr<|Zqm Z Z<|qaQ Z Z<|Wb Y5<|Wl 1 Y6<|qad (qba (c:=(w:Int)) Z Z (by rw [w64 O O];omega)) Z<|qaQ Z Z<|Wb Y5<|Wt 1 [_,_,_,_,_,_,_,_,_,_,_,_] Y9<|Zn ?_;refine qal [_] _ (.inl Z) (.nil) Z (e25.t h26|>.t h27|>.t I28.1) fun _ hS2=>?_;exact ⟨(_::N4),rfl,rfl,by rw [hT];simpa only [qaK,qaj,qap,List.append_assoc,List.append_nil,List.cons_append,List.nil_append,List.length_nil,Nat.add_zero] using (show CR E bb _ w vl _ _ from ⟨p4,N4,v4,hp4,rfl,hb4⟩)⟩
def qxO{p:Prop} (h:p:=by
 exact ⟨M1,rfl,rfl,by (first|rw [hT]|skip);simpa only [qaK,qaj,qap,List.append_assoc,List.append_nil,List.cons_append,List.nil_append,List.length_nil,Nat.add_zero] using (show CR ⟨_,ng,cg,Af,nf,cf,gm,fm,some bs,sz,nl⟩ bb _ w vl _ _ from hW1)⟩):p:=h
def qlg(D d:Nat)(p:Prg)(x:Fnc)(ih:∀ e,d=e+1→EXC D e p x)(L:Hl)(s:World)(hG:GP s)(E:CE)(hE:EOK s p x E)(bb k w:Nat)(vl:Value)(M:Hl)(t:Str)(hW:CR E bb k w vl t M)(e:Ex)(A:Option Addr)(n c:Nat)(hUN:UNC D d p x)(hBI:BIC D d p x)(hCL:CLC D d p x)(hA:Exs d s A n c e.args)(hu:U32 e.num)(hX:XOK p x e)(hk:k+w+3 * exN e≤1000000)(hlen:t.length+(cT (cE p x e w k).1).length≤1000000000):AC prog D 112 [.pointer (some ⟨bb,0,none⟩),.agg #[.int .i64 e.kind,.int .i64 e.op,.int .u32 e.num,St e.name,.slice A n c]] (M++L) s fun v L' _=>∃ M',L'=M'++L∧v=.tuple #[]∧CR E bb (cE p x e w k).2 w vl (t++cT (cE p x e w k).1) M':=by
 obtain ⟨Ag,ng,cg,Af,nf,cf,gm,fm,sm,sz,nl⟩:=E;have hgl:Glos s Ag ng cg p.globals:=hE.gl;have hng:=hgl.1;have hsz:sz=szF x:=hE.sz;have hnl:nl=x.locals.length:=hE.nl;obtain ⟨bs,hbs,ess,hms,hhms⟩:=hE.ms;have hbs:sm=some bs:=hbs;subst hbs;obtain ⟨esg,hmg,hhmg⟩:=hE.mg;obtain ⟨esf,hmf,hhmf⟩:=hE.mf;have hp6:=hE.pq.p6;have hl12:=hE.pq.l12;have hg64:=hE.pq.g64;have hf64:=hE.pq.f64;unfold szF at hsz;have hXs:=hX.args;obtain ⟨hla,he1,he7,_⟩:=qkq hX;have hu1:=hu.1;have hu2:=hu.2;refine qae (fn:=f112) qav func112 V Z ntmps112 Z (rs:=[]) Z [(0,_),(1,_)] Z<|Sr<|qay Z Z fun β1 s1 h1=>Nt<|Sr<|W0 Y5<|Wl 0 Y6<|Nt<|Zp<|Sr<|qax Z Z Z<|At Z Z<|?_;refine qaa Z ?_ ?_<;>intro c2;·have hT:=cX_1 (p:=p) (x:=x) (w:=w) (k:=k) c2;rw [hT] at hlen;simp only [qaK,qaj,qap,List.length_append,List.length_nil,List.cons_append] at hlen;refine qaB qac 7 Z 1 fun s3 h3=>za 0 Z (qan Z) Z<|za 1 Z (qam Z) Z<|za 2 Z (qat Z Z Z Z) Z<|za 3 Z (We Y4) Z<|za 4 Z (Wd 0 Y5) Z<|za 5 Z (qaR Z Z Z Z Z (w64 O O)) Z<|qar 6 V<|Jb Z Tt Z Z Z (AC.mid [_] M L (qbS D _ _ (hG.le (h1.t h3)) (M:=M) hW qgk _ ⟨hu1,hu2⟩ (by first|omega|(simp only [qaj,qap,List.length_append,List.length_nil];omega)))) ?_;rintro _ _ s4 h4 ⟨M1,rfl,rfl,hW1⟩;refine ⟨(fun x hx _=>qdZ hx),?_⟩;simp only [cQ9,nQ9];refine qaf V<|Zb ?_;refine qal [_] _ (.inl Z) (.nil) Z (h1.t h3|>.t h4) fun _ hS2=>?_;exact qxO
 refine Sr<|qax Z Z Z<|At Z Z<|?_;refine qaa Z ?_ ?_<;>intro c5;·have hT:=cX_2 (p:=p) (x:=x) (w:=w) (k:=k) c5;have hnm:=nm_2 hX c5;have hlen0:=hlen;rw [hT] at hlen;simp only [qaK,qaj,qap,List.length_append,List.length_nil,List.cons_append] at hlen;refine Zr<|Zqm Z Z<|Wb Y5<|Wl 0 Y6<|Jc Z Z Z (AC.mid [_] M L (qqM D p x _ _ (hG.le h1) _ (hE.le h1) _ _ _ _ M _ hW _ hnm O (by rw [hT] at hlen0;exact hlen0))) ?_;rintro _ _ s6 h6 ⟨M1,rfl,rfl,hW1⟩;simp only [cQ9,nQ9];refine Zn<|Zb<|?_;refine qal [_] _ (.inl Z) (.nil) Z (h1.t h6) fun _ hS2=>?_;exact qxO
 refine Sr<|qax Z Z Z<|At Z Z<|?_;refine qaa Z ?_ ?_<;>intro c7
 ·have hT:=c7;rw [hT] at hla;have hla:1≤e.args.length:=hla;obtain ⟨i,g,hi,hg⟩:=nm_3 hX hT;obtain ⟨dy,bky,oy,y,Ay,ny,cy,hdy,rfl,hny,hy,hcy,hsy,huy,hxy⟩:=qfV (j:=0) (hA.le h1) hXs O;have hT:=cX_3 (p:=p) (x:=x) (w:=w) (k:=k) hT hy;rw [hi,qon hg] at hT;rw [hT] at hlen;simp only [qaK,qaj,qap,List.length_append,List.length_nil,List.cons_append] at hlen;have hN:=qvG hy;refine Zs ?_;obtain ⟨p1,N1,v1,hp1,rfl,hb1⟩:=hW;simp only [List.cons_append,qcR];refine qaJ qac 8 Z _ (fun _ h=>h) fun s8 h8=>za 0 Z (qan Z) Z<|za 1 Z (qam Z) Z<|za 2 Z (We Y4) Z<|za 3 Z (Wd 1 Y5) Z<|za 4 Z (We Y4) Z<|za 5 Z (Wd 0 Y5) Z<|za 6 Z (qaz (qc0 KeyK.str qdv Z Z (hmg.le (h1.t h8))) ((qhR hhmg _).trans (congrArg (Value.int .i64) hi))) Z<|za 7 Z (qa6 Z) Z<|qaf V<|Zt<|Sr<|Zqm Z Z<|Wb Y5<|Wl 0 Y6<|qad (qau (j:=0) Z Z Z Z Z Z hny) Z<|qad (qaw Z Z Z (hcy.le h8) Z) Z ?_;have e8:=h1.t h8;refine Jc Z Z Z (AC.mid [_] (_::N1) L (ih dy hdy _ _ (hG.le e8) _ (hE.le e8) _ _ _ _ (_::N1) _ ⟨p1,N1,v1,hp1,Z,hb1⟩ y Ay ny cy (hsy.le h8) huy hxy O (by first|omega|(simp only [qaj,qap,List.length_append,List.length_nil];omega)))) ?_;rintro _ _ s9 h9 ⟨M2,rfl,rfl,hW2⟩;simp only [cQ9,nQ9];refine Nt<|Zs<|?_;obtain ⟨p3,N3,v3,hp3,rfl,hb3⟩:=hW2;simp only [List.cons_append,qcR];have hik:i < ng:=by rw [hgl.1];exact (List.getElem?_eq_some_iff.1 hg).1
  obtain ⟨bg,og,g9,Ai,ni,ci,rfl,hg9,hcg,hig,hug,hnl9⟩:=Glos.at_ (hgl.le (e8.t h9)) hik;obtain rfl:g=g9:=Option.some.inj (hg.symm.trans hg9);have hgu:=hug.1;have hgu2:=hug.2;refine qaB qac 14 Z 0 fun s10 h10=>za 0 Z (qan Z) Z<|za 1 Z (qam Z) Z<|za 2 Z (qat Z Z Z Z) Z<|za 3 Z (qan Z) Z<|za 4 Z (qam Z) Z<|za 5 Z (We Y4) Z<|za 6 Z (qat Z Z Z Z) Z<|za 8 Z (qan Z) Z<|qar 7 V<|qbA Z Tt (Wd 1 Y5) Z<|za 9 Z (qau (j:=i) Z Z Z Z Z Z hik) Z<|za 10 Z (qbm Z Z Z Z) Z<|za 11 Z (qaF 2 Z Z Z (hcg.le h10) Z) Z<|za 12 Z (qaR Z Z Z Z Z (w64 O O)) Z<|qar 13 V ?_;have e10:=e8.t h9|>.t h10;refine Jb Z Tt Z Z Z (AC.mid [_] (_::N3) L (qbS D _ _ (hG.le e10) (M:=(_::N3)) ⟨p3,N3,v3,hp3,Z,hb3⟩ qh2 _ ⟨hgu,hgu2⟩ (by first|omega|(simp only [qaj,qap,List.length_append,List.length_nil];omega)))) ?_;rintro _ _ s11 h11 ⟨M4,rfl,rfl,hW4⟩;refine ⟨(fun _ hx _=>by cases hx),?_⟩;simp only [cQ9,nQ9];refine qaf V<|Zt<|qaB qac 7 Z 0 fun s12 h12=>za 0 Z (qan Z) Z<|za 1 Z (qam Z) Z<|za 2 Z (qat Z Z Z Z) Z<|za 3 Z (qan Z) Z<|qar 4 V<|Jf Z Tt Z Z Z (qom D _ _ (hG.le (e10.t h11|>.t h12)) _ O O) fun s13 h13=>qar 5 V<|qbQ Z Tt [(_,_),(_,_)] [_,_] Z Z Z Z Z Z Z Z Z fun β14 s14 h14 hc14=>qar 6 V<|Jb Z Tt Z Z Z (AC.mid [_] M4 L (qcm D _ _ (M:=M4) (n:=qpT) hW4 (hc14.le (Lr D)) (by first|omega|(simp only [qaj,qap,List.length_append,List.length_nil];omega)))) ?_;rintro _ _ s15 h15 ⟨M5,rfl,rfl,hW5⟩;refine ⟨(fun _ hx _=>by cases hx),?_⟩;simp only [cQ9,nQ9];refine qaf V<|Zb ?_;refine qal [_] _ (.inl Z) (.nil) Z (e10.t h11|>.t h12|>.t h13|>.t h14|>.t h15) fun _ hS2=>?_;exact ⟨M5,rfl,rfl,by (first|rw [hT]|skip);simpa only [qaK,qaj,qap,List.append_assoc,List.append_nil,List.cons_append,List.nil_append,List.length_nil,Nat.add_zero] using (show CR ⟨_,ng,cg,Af,nf,cf,gm,fm,some bs,sz,nl⟩ bb _ w vl _ _ from hW5)⟩
 refine Sr<|qax Z Z Z<|At Z Z<|?_;refine qaa Z ?_ ?_<;>intro c16
 ·have g4:=c16;have hT:=cX_4 (p:=p) (x:=x) (w:=w) (k:=k) g4;rw [hT] at hlen;have g6:e.args.length≤6:=by have:=(qb0 (qdI hX.1).1).2.2.2.1;rw [g4] at this;exact this
  have hN:qbD e.args < exN e:=by cases e;rw [exN];exact Nat.lt_add_of_pos_left Nat.one_pos
  refine Zr<|Zqm Z Z<|Wb Y5<|Wl 0 Y6<|Wb Y5<|Wl 0 Y6<|Jc Z Z Z (AC.mid [_] M L (hCL _ _ (hG.le h1) _ (hE.le h1) _ _ _ _ M _ hW _ _ _ _ e.args (hA.le h1) hXs g6 O hlen)) ?_;rintro _ _ s17 h17 ⟨M1,rfl,rfl,hW1⟩;simp only [cQ9,nQ9];refine Zn<|Zb<|?_;refine qal [_] _ (.inl Z) (.nil) Z (h1.t h17) fun _ hS2=>?_;exact qxO
 refine Sr<|qax Z Z Z<|At Z Z<|?_;refine qaa Z ?_ ?_<;>intro c18;·have hT:=cX_5 (p:=p) (x:=x) (w:=w) (k:=k) c18;rw [hT] at hlen;simp only [qaK,qaj,qap,List.length_append,List.length_nil,List.cons_append] at hlen;refine Zr<|Zqm Z Z<|qaQ Z Z<|W0 Y5<|qa4 [(_,_)] [_] Z Z Z Z Z Z Z Z Z fun β19 s19 h19 hc19=>Jc Z Z Z (AC.mid [_] M L (qdr D _ _ (M:=M) (n:=qBI) hW (hc19.le (Lr D)) (by first|omega|(simp only [qaj,qap,List.length_append,List.length_nil];omega)))) ?_;rintro _ _ s20 h20 ⟨M1,rfl,rfl,hW1⟩;simp only [cQ9,nQ9];refine Zn<|Zb<|?_;refine qal [_] _ (.inl Z) (.nil) Z (h1.t h19|>.t h20) fun _ hS2=>?_;exact qxO
 refine Sr<|qax Z Z Z<|At Z Z<|?_;refine qaa Z ?_ ?_<;>intro c21;·have hk6:=c21;refine Zr<|Zqm Z Z<|qad (qao 0 [_,_,_,_,_] Z Z Z Z Z) Z<|Jc Z Z Z (AC.mid [_] M L (hUN _ _ (hG.le h1) _ (hE.le h1) _ _ _ _ M _ hW e _ _ _ hk6 (hA.le h1) hu hX hk hlen)) ?_;rintro _ _ s22 h22 ⟨M1,rfl,rfl,hW1⟩;simp only [cQ9,nQ9];refine Zn<|Zb<|?_;refine qal [_] _ (.inl Z) (.nil) Z (h1.t h22) fun _ hS2=>?_;exact qxO
 refine Sr<|qax Z Z Z<|At Z Z<|?_;refine qaa Z ?_ ?_<;>intro c23;·have hk7:=c23;refine Zr<|Zqm Z Z<|qad (qao 0 [_,_,_,_,_] Z Z Z Z Z) Z<|Jc Z Z Z (AC.mid [_] M L (hBI _ _ (hG.le h1) _ (hE.le h1) _ _ _ _ M _ hW e _ _ _ hk7 (hA.le h1) hu hX hk hlen)) ?_;rintro _ _ s24 h24 ⟨M1,rfl,rfl,hW1⟩;simp only [cQ9,nQ9];refine Zn<|Zb<|?_;refine qal [_] _ (.inl Z) (.nil) Z (h1.t h24) fun _ hS2=>?_;exact qxO
 exfalso;omega
def qp5(D:Nat)(p:Prg)(x:Fnc):∀ d,CLC D d p x∧EXC D d p x
 | 0=>by
  have ih:∀ e,0=e+1→EXC D e p x:=fun e h=>by omega
  have hC:CLC D 0 p x:=fun L s hG E hE bb k w vl M t hW nm A n c az hA hXs h6 hk hlen=>qhH D 0 p x ih L s hG E hE bb k w vl M t hW nm A n c az hA hXs h6 hk hlen;have hU:UNC D 0 p x:=fun L s hG E hE bb k w vl M t hW e A n c h6 hA hu hX hk hlen=>qll D 0 p x ih L s hG E hE bb k w vl M t hW e A n c h6 hA hu hX hk hlen;have hB:BIC D 0 p x:=fun L s hG E hE bb k w vl M t hW e A n c h6 hA hu hX hk hlen=>qle D 0 p x ih L s hG E hE bb k w vl M t hW e A n c h6 hA hu hX hk hlen;exact ⟨hC,fun L s hG E hE bb k w vl M t hW e A n c hA hu hX hk hlen=>qlg D 0 p x ih L s hG E hE bb k w vl M t hW e A n c hU hB hC hA hu hX hk hlen⟩
 | d+1=>by
  have ih:∀ e,d+1=e+1→EXC D e p x:=fun e h=>(show d=e by omega)▸(qp5 D p x d).2;have hC:CLC D (d+1) p x:=fun L s hG E hE bb k w vl M t hW nm A n c az hA hXs h6 hk hlen=>qhH D (d+1) p x ih L s hG E hE bb k w vl M t hW nm A n c az hA hXs h6 hk hlen;have hU:UNC D (d+1) p x:=fun L s hG E hE bb k w vl M t hW e A n c h6 hA hu hX hk hlen=>qll D (d+1) p x ih L s hG E hE bb k w vl M t hW e A n c h6 hA hu hX hk hlen;have hB:BIC D (d+1) p x:=fun L s hG E hE bb k w vl M t hW e A n c h6 hA hu hX hk hlen=>qle D (d+1) p x ih L s hG E hE bb k w vl M t hW e A n c h6 hA hu hX hk hlen;exact ⟨hC,fun L s hG E hE bb k w vl M t hW e A n c hA hu hX hk hlen=>qlg D (d+1) p x ih L s hG E hE bb k w vl M t hW e A n c hU hB hC hA hu hX hk hlen⟩
end Go.Proofs.YtflplmcjbppfcaaGreatDoor
