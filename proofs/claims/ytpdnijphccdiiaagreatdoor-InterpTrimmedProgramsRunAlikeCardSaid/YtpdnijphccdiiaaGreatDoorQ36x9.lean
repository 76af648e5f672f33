/- The law InterpTrimmedProgramsRunAlike: for every input it returns true, and its arguments read behind the call az they read before; what the package-level variables of the library hold is tied tgt the text of the program. Part 9. -/
import Derived.Test.YtpdnijphccdiiaaGreatDoorQ36x8
import Derived.ProofKit
import Derived.OpenShut
import Derived.SizedLaws
import Derived.Deep.Slices
import Derived.Test.YtpdnijphccdiiaaGreatDoorRows
import Derived.Lay
import Derived.Lib.LaidTab
import Derived.Stop.LaidErr
import Derived.SevenTiedAt
import Derived.Test.YtpdnijphccdiiaaGreatDoorCards
import Derived.Test.YtpdnijphccdiiaaGreatDoorTie
set_option linter.unusedVariables false
set_option linter.unusedSimpArgs false
set_option linter.unnecessarySimpa false
set_option maxRecDepth 100000
set_option maxHeartbeats 8000000
namespace Go.Proofs.YtpdnijphccdiiaaGreatDoor
open Go.FL
attribute [local irreducible] JC JO JA JB qaO qaD qbV AC fill CellsAt QE Ev Mid
def rnC(p:Prg)(x:Fnc)(r:RNd):Int:=if r.u=5 then (if r.loops=0 then 24 else 0) else qeD p x (r.name,r.u,r.count)
theorem qkM{u:Int}(h:1≤u∧u≤5):qrk u=[108,101,97,118,101]↔u=5:=by
 have h5:u=1∨u=2∨u=3∨u=4∨u=5:=by omega
 rcases h5 with rfl | rfl | rfl | rfl | rfl
 · exact iff_of_false Dc Dc
 · exact iff_of_false Dc Dc
 · exact iff_of_false Dc Dc
 · exact iff_of_false Dc Dc
 · exact iff_of_true Dc rfl
theorem mean_0{p:Prg}{x:Fnc}{nm:Str}:(qaz p x nm).1.1=0↔(qaz p x nm).2=false:=by
  constructor
  · intro h
    cases h2:(qaz p x nm).2 with
    | false=>rfl
    | true=>
      rcases qch h2 with h3 | ⟨h3,_⟩ | ⟨h3,_⟩
      · omega
      · omega
      · omega
  · intro h;rw [qe3 h]
theorem qnl{u:Int}(h:1≤u∧u≤5)(h4:¬ u=4):¬ qrk u=[99,97,108,108]:=by
 have h5:u=1∨u=2∨u=3∨u=5:=by omega
 rcases h5 with rfl | rfl | rfl | rfl <;> decide
def sgW:Str:=[115,101,116,32,103,101,116]
def qli(gk mk:Int):Str:=if mk=4 then [99,97,108,108] else if mk=3 then (if gk=1 then [103,101,116] else if gk=2 then sgW else [105,116,101,109]) else sgW
theorem qjI{gk u mk:Int}(hu:1≤u∧u≤4)(hm:1≤mk∧mk≤4)(hg:mk=3→1≤gk∧gk≤3):qrk u∈qgs 32 (qli gk mk)↔qce gk u mk:=by
  have h1:u=1∨u=2∨u=3∨u=4:=by omega
  have h2:mk=1∨mk=2∨mk=3∨mk=4:=by omega
  have e1:∀ g:Int,qli g 1=sgW:=fun g=>rfl
  have e2:∀ g:Int,qli g 2=sgW:=fun g=>rfl
  have e4:∀ g:Int,qli g 4=[99,97,108,108]:=fun g=>rfl
  rcases h2 with rfl | rfl | rfl | rfl
  · rw [e1];rcases h1 with rfl | rfl | rfl | rfl
    · exact iff_of_true Dc O
    · exact iff_of_true Dc O
    · exact iff_of_false Dc O
    · exact iff_of_false Dc O
  · rw [e2];rcases h1 with rfl | rfl | rfl | rfl
    · exact iff_of_true Dc O
    · exact iff_of_true Dc O
    · exact iff_of_false Dc O
    · exact iff_of_false Dc O
  · have hg:=hg rfl
    have h3:gk=1∨gk=2∨gk=3:=by omega
    rcases h3 with rfl | rfl | rfl <;> rcases h1 with rfl | rfl | rfl | rfl <;> decide
  · rw [e4];rcases h1 with rfl | rfl | rfl | rfl
    · exact iff_of_false Dc O
    · exact iff_of_false Dc O
    · exact iff_of_false Dc O
    · exact iff_of_true Dc O
theorem qt0(gk mk:Int):(qli gk mk).length≤7:=by
  unfold qli
  by_cases h1:mk=4
  · rw [if_pos h1];decide
  rw [if_neg h1]
  by_cases h2:mk=3
  · rw [if_pos h2]
    by_cases h3:gk=1
    · rw [if_pos h3];decide
    rw [if_neg h3]
    by_cases h4:gk=2
    · rw [if_pos h4];decide
    · rw [if_neg h4];decide
  · rw [if_neg h2];decide
theorem qpJ(D:Nat)(L:Hl)(s:World)(d:Nat)(p:Prg)(Ag Af:Option Addr)(ng cg nf cf:Nat)(hGl:Glos s Ag ng cg p.globals)(hFn:Fncs d s Af nf cf p.funcs)(hV:PV p)(f:Nat)(x:Fnc)(hx0:p.funcs[f]?=some x)(r:RNd)(hr:1≤r.u∧r.u≤5):AC Tryz.prog D 28 [.agg #[.slice Ag ng cg,.slice Af nf cf],.int .i64 (f:Int),.agg #[St r.name,St (qrk r.u),.int .i64 r.count,.int .i64 r.loops]] L s fun v L' _=>v=.int .i64 (rnC p x r)∧L=L':=by
 have hn1:=hGl.1
 have hn2:=hFn.1
 refine qai (fn:=Tryz.f28) qaq Tryz.func28 V Z Tryz.ntmps28 Z (rs:=[.tmp 6]) Z [(0,_),(1,_),(2,_)] Z<|Sr<|qau Z Z ?_
 intro β1 s1 h1
 refine qau Z Z ?_
 intro β2 s2 h2
 refine At Z Z<|Zs<|Sr<|Wb Y5<|Wl 0 Y6<|qaf (qaw (v':=.bool (decide (r.u=5))) (qjF Z Z) (congrArg Value.bool (decide_eq_decide.2 (qkM hr)))) Z<|Nt<|?_
 refine qab Z (fun c3=>?_) (fun c3=>?_)
 ·
  have g5:=c3
  refine Zs<|Sr<|Wb Y5<|Wl 0 Y6<|qax Z Z Z<|Nt<|?_
  refine qab Z (fun c4=>?_) (fun c4=>?_)
  ·
   have hE:rnC p x r=24:=(if_pos g5).trans (if_pos c4)
   refine Sr<|At Z Z<|Zo<|Zu<|Zu<|?_
   refine rR [_,_] L (.t1 Z) Z (h1.t h2) fun _ hS2=>?_
   exact ⟨by rw [hE];rfl,rfl⟩
  have hE:rnC p x r=0:=(if_pos g5).trans (if_neg c4)
  refine Zk<|Zt<|Sr<|At Z Z<|Zo<|Zu<|?_
  refine rR [_,_] L (.t1 Z) Z (h1.t h2) fun _ hS2=>?_
  exact ⟨by rw [hE];rfl,rfl⟩
 have g5:=c3
 have hu4:1≤r.u∧r.u≤4:=by omega
 have hE0:rnC p x r=qeD p x (r.name,r.u,r.count):=if_neg g5
 have hn0:¬ r.u=0:=by omega
 refine Zk<|Zt<|Sr<|qaf (qan 1 [_,_] Z Z Z Z Z) Z<|Zqm Z Z<|W0 Y5<|Wl 0 Y6<|Jc Z Z Z (qnp D _ _ d p Ag Af ng cg nf cf (hGl.le (h1.t h2)) (hFn.le (h1.t h2)) f x hx0 r.name) ?_
 rintro _ _ s5 h5 ⟨rfl,rfl⟩
 refine qae Z [_,_] Z Z ?_
 intro β6 s6 h6
 refine Wt 0 [_,_] Y9<|Nt<|Zs<|Sr<|W0 Y5<|Wl 0 Y6<|qax Z Z Z<|Nt<|?_
 refine qab Z (fun c7=>?_) (fun c7=>?_)
 ·
  have hE:rnC p x r=12:=hE0.trans ((if_neg hn0).trans (if_pos (mean_0.1 c7)))
  refine Sr<|At Z Z<|Zo<|Zu<|?_
  refine rR [_,_,_] L (.t1 Z) Z (h1.t h2|>.t h5|>.t h6) fun _ hS2=>?_
  exact ⟨by rw [hE];rfl,rfl⟩
 have g23:¬ (qaz p x r.name).2=false:=fun h=>c7 (mean_0.2 h)
 have hmk:=qch (p:=p) (x:=x) (nm:=r.name) (by cases h9:(qaz p x r.name).2 with
   | false=>exact absurd h9 g23
   | true=>rfl)
 have hmk4:1≤(qaz p x r.name).1.1∧(qaz p x r.name).1.1≤4:=by omega
 have hg3:(qaz p x r.name).1.1=3→1≤qit p (qaz p x r.name).1.2∧qit p (qaz p x r.name).1.2≤3:=fun h=>by
   rcases hmk with q | ⟨_,k,q1,q2⟩ | ⟨q,_⟩
   · omega
   · rw [q1,qd6 (List.getElem?_eq_getElem q2)]
     have:=qcP (hV.2.2.1 _ (List.getElem_mem q2)).1
     exact ⟨this.1,this.2.1⟩
   · omega
 refine Zk<|Zt<|Sr<|At Z Z<|?_
 refine qeC (γ:=Unit) (fun g=>[(8,St (qli (qit p (qaz p x r.name).1.2) (qaz p x r.name).1.1))]) [_,_,_] Z (fun g=>L) (fun g tw=>True) (fun _ _ _ h hl=>h) ?_ ?_
 ·
  refine Sr<|W0 Y5<|Wl 0 Y6<|qax Z Z Z<|Nt<|?_
  refine qab Z (fun c9=>?_) (fun c9=>?_)
  ·
   have hS8:[99,97,108,108]=qli (qit p (qaz p x r.name).1.2) (qaz p x r.name).1.1:=by rw [qli,if_pos c9]
   refine Zr<|Zqa Z Z<|Zn<|?_
   refine qaa (MidG.mk () [] (Lr D) (.cons (congrArg (fun l:List UInt8=>some (St l)) As) (.nil _)) So Pr Tt)
  have g26:=c9
  refine Sr<|W0 Y5<|Wl 0 Y6<|qax Z Z Z<|Nt<|?_
  refine qab Z (fun c10=>?_) (fun c10=>?_)
  ·
   have g29:=c10
   obtain ⟨gi,hgi,hgl⟩:∃ k:Nat,(qaz p x r.name).1.2=(k:Int)∧k < p.globals.length:=by
     rcases hmk with q | ⟨_,q⟩ | ⟨q,_⟩
     · omega
     · exact q
     · omega
   have hgn:gi < ng:=by omega
   obtain ⟨b,off,z,Ai,ni,ci,rfl,hz,hcz,hiz,huz,hnz⟩:=Glos.at_ (hGl.le (h1.t h2|>.t h5|>.t h6)) hgn
   have hgk:=qd6 hz
   have hgk3:z.kind=1∨z.kind=2∨z.kind=3:=by have:=hg3 g29;rw [hgi,hgk] at this;omega
   have hS8:(if z.kind=1 then [103,101,116] else if z.kind=2 then sgW else [105,116,101,109])=qli (qit p (qaz p x r.name).1.2) (qaz p x r.name).1.1:=by rw [qli,if_neg g26,if_pos g29,hgi,hgk]
   refine Sr<|qbt [(_,_),(_,_),(_,_)] [_,_,_] Z Z Z Z Z Z Z Z Z ?_
   intro βu s11 h11 hcu
   refine At Z Z<|?_
   rcases hgk3 with g3 | g3 | g3
   ·
    rw [if_pos g3] at hS8
    refine Zr<|Zqm Z Z<|W0 Y5<|Wl 2 Y6<|Wb Y5<|Wl 0 Y6<|qaf (qap (j:=gi) Z (show lk _ _=some (.int .i64 (gi:Int)) from by rw [← hgi];rfl) Z Z Z Z hgn) Z<|W0 Y5<|qaf (qaj Z Z Z (hcz.le h11) Z) Z<|qaf (qbU (c:=((0:Nat):Int)) Z Z (by rw [w64 O O];omega)) Z<|qaf (qap (j:=0) Z Z Z Z Z Z Dc) Z<|qaf (qaC 0 Z Z Z (hcu.le (Lr D)) Z) Z<|Zqa Z Z<|Zn<|?_
    refine qaa (MidG.mk () [] h11 (.cons (congrArg (fun l:List UInt8=>some (St l)) As) (.nil _)) So Pr Tt)
   ·
    rw [if_neg O,if_pos g3] at hS8
    rw [show sgW=[115,101,116,32,103,101,116] from rfl] at hS8
    refine Zr<|Zqm Z Z<|W0 Y5<|Wl 2 Y6<|Wb Y5<|Wl 0 Y6<|qaf (qap (j:=gi) Z (show lk _ _=some (.int .i64 (gi:Int)) from by rw [← hgi];rfl) Z Z Z Z hgn) Z<|W0 Y5<|qaf (qaj Z Z Z (hcz.le h11) Z) Z<|qaf (qbU (c:=((1:Nat):Int)) Z Z (by rw [w64 O O];omega)) Z<|qaf (qap (j:=1) Z Z Z Z Z Z Dc) Z<|qaf (qaC 1 Z Z Z (hcu.le (Lr D)) Z) Z<|Zqa Z Z<|Zn<|?_
    refine qaa (MidG.mk () [] h11 (.cons (congrArg (fun l:List UInt8=>some (St l)) As) (.nil _)) So Pr Tt)
   rw [if_neg O,if_neg O] at hS8
   refine Zr<|Zqm Z Z<|W0 Y5<|Wl 2 Y6<|Wb Y5<|Wl 0 Y6<|qaf (qap (j:=gi) Z (show lk _ _=some (.int .i64 (gi:Int)) from by rw [← hgi];rfl) Z Z Z Z hgn) Z<|W0 Y5<|qaf (qaj Z Z Z (hcz.le h11) Z) Z<|qaf (qbU (c:=((2:Nat):Int)) Z Z (by rw [w64 O O];omega)) Z<|qaf (qap (j:=2) Z Z Z Z Z Z Dc) Z<|qaf (qaC 2 Z Z Z (hcu.le (Lr D)) Z) Z<|Zqa Z Z<|Zn<|?_
   refine qaa (MidG.mk () [] h11 (.cons (congrArg (fun l:List UInt8=>some (St l)) As) (.nil _)) So Pr Tt)
  have hS8:sgW=qli (qit p (qaz p x r.name).1.2) (qaz p x r.name).1.1:=by rw [qli,if_neg g26,if_neg c10]
  refine Zk ?_
  refine qaa (MidG.mk () [] (Lr D) (.cons (congrArg (fun l:List UInt8=>some (St l)) As) (.nil _)) So Pr Tt)
 intro g s8 h8 I8
 simp only [cQ9,nQ9]
 refine Zs<|Zs<|qay qag 6 Z _ (fun _ h=>h) ?_
 intro s12 h12
 refine za 0 Z (qar Z) Z<|za 2 Z (We Y4) Z<|za 3 Z (Wd 1 Y5) Z<|qal 1 V<|Jb Z Tt Z Z Z (qhB D _ _ _ 32 (by have:=qt0 (qit p (qaz p x r.name).1.2) (qaz p x r.name).1.1;omega)) ?_
 rintro _ _ s13 h13 ⟨rfl,As,ns,cs,rfl,hSs⟩
 refine ⟨fun _ _ h=>h,?_⟩
 refine qal 4 V<|Jb Z Tt Z Z Z (qe8 D _ _ As ns cs _ (hSs.le (Lr D)) (qrk r.u)) ?_
 rintro _ _ s14 h14 ⟨rfl,rfl⟩
 refine ⟨fun _ _ h=>h,?_⟩
 refine za 5 Z (qlA Z Z) Z<|qad V<|Zt ?_
 refine qab Z (fun c15=>?_) (fun c15=>?_)
 ·
  have g47:¬ qce (qit p (qaz p x r.name).1.2) r.u (qaz p x r.name).1.1:=fun h=>absurd c15 (Int.not_lt.2 ((qbQ (k:=0)).2 ((qjI hu4 hmk4 hg3).2 h)))
  have hE:rnC p x r=13:=hE0.trans ((if_neg hn0).trans ((if_neg g23).trans (if_pos g47)))
  refine Sr<|At Z Z<|Zo<|Zu<|?_
  refine rR [_,_,_] L (.t1 Z) Z (h1.t h2|>.t h5|>.t h6|>.t h8|>.t h12|>.t h13|>.t h14) fun _ hS2=>?_
  exact ⟨by rw [hE];rfl,rfl⟩
 have g47:qce (qit p (qaz p x r.name).1.2) r.u (qaz p x r.name).1.1:=(qjI hu4 hmk4 hg3).1 ((qbQ (k:=0)).1 (Int.not_lt.1 c15))
 refine Zk<|Zt<|Zs<|Zs<|?_
 rcases Classical.em (r.u=4) with g4 | g4
 ·
  obtain ⟨j,hj,hjn⟩:∃ j:Nat,(qaz p x r.name).1.2=(j:Int)∧j < p.funcs.length:=by
    rcases hmk with q | ⟨q,_⟩ | ⟨_,q⟩
    · exfalso;have:=g47;omega
    · exfalso;have:=g47;omega
    · exact q
  have hjf:j < nf:=by omega
  obtain ⟨b2,off2,z2,D1,t1,w1,D2,t2,w2,D3,t3,w3,rfl,hz2,hcy,hpz,hlz,hbz,hzl⟩:=Fncs.at_ (hFn.le (h1.t h2|>.t h5|>.t h6|>.t h8|>.t h12|>.t h13|>.t h14)) hjf
  have hm9:=hpz.1
  have hpar:=qfo hj hz2
  refine qay qag 16 Z _ (fun _ h=>h) ?_
  intro s16 h16
  refine za 0 Z (We Y4) Z<|za 1 Z (Wd 1 Y5) Z<|za 2 Z (qaw (v':=.bool true) (qjF Z Z) (bT (by rw [g4];rfl))) Z<|za 3 Z (qar Z) Z<|zg 4 Z ⟨_,Z,Z⟩ (We Y4) Z<|zg 5 Z ⟨_,Z,Z⟩ (Wd 2 Y5) Z<|zg 6 Z ⟨_,Z,Z⟩ (We Y4) Z<|zg 7 Z ⟨_,Z,Z⟩ (Wd 0 Y5) Z<|zg 8 Z ⟨_,Z,Z⟩ (qap (j:=j) Z (show lk _ _=some (.int .i64 (j:Int)) from by rw [← hj];rfl) Z Z Z Z hjf) Z<|zg 9 Z ⟨_,Z,Z⟩ (qbf Z Z Z Z) Z<|zg 10 Z ⟨_,Z,Z⟩ (qaC 1 Z Z Z (hcy.le h16) Z) Z<|zg 11 Z ⟨_,Z,Z⟩ (qbN Z Z Z) Z ?_
  refine zg 12 Z ⟨_,Z,Z⟩ (We Y4) Z<|zg 13 Z ⟨_,Z,Z⟩ (Wd 1 Y5) Z<|zg 14 Z ⟨_,Z,Z⟩ (qcB Z Z) Z<|za 15 Z (qcs Z Z) Z<|qad V<|Zt ?_
  refine qaK Z (fun c17=>?_) (fun c17=>?_)
  ·
   have hE:rnC p x r=9:=hE0.trans ((if_neg hn0).trans ((if_neg g23).trans ((if_neg (fun h=>h g47)).trans (if_pos ⟨g4,by show r.count≠((qur p (qaz p x r.name).1.2:Nat):Int);rw [hpar];have:=c17;omega⟩))))
   refine Sr<|At Z Z<|Zo<|Zu<|?_
   refine rR [_,_,_] L (.t1 Z) Z (h1.t h2|>.t h5|>.t h6|>.t h8|>.t h12|>.t h13|>.t h14|>.t h16) fun _ hS2=>?_
   exact ⟨by rw [hE];rfl,rfl⟩
  have hE:rnC p x r=0:=hE0.trans ((if_neg hn0).trans ((if_neg g23).trans ((if_neg (fun h=>h g47)).trans (if_neg (fun h=>h.2 (by show r.count=((qur p (qaz p x r.name).1.2:Nat):Int);rw [hpar];have:=c17;omega))))))
  refine Zk<|Zt<|Sr<|At Z Z<|Zo<|?_
  refine rR [_,_,_] L (.t1 Z) Z (h1.t h2|>.t h5|>.t h6|>.t h8|>.t h12|>.t h13|>.t h14|>.t h16) fun _ hS2=>?_
  exact ⟨by rw [hE];rfl,rfl⟩
 refine qay qag 16 Z _ (fun _ h=>h) ?_
 intro s18 h18
 refine za 0 Z (We Y4) Z<|za 1 Z (Wd 1 Y5) Z<|za 2 Z (qaw (v':=.bool false) (qjF Z Z) (bZ (qnl hr g4))) Z<|za 3 Z (qar Z) Z<|zn 4 Z Z Z Z Z<|zn 5 Z Z Z Z Z<|zn 6 Z Z Z Z Z<|zn 7 Z Z Z Z Z<|zn 8 Z Z Z Z Z<|zn 9 Z Z Z Z Z<|zn 10 Z Z Z Z Z<|zn 11 Z Z Z Z Z<|zn 12 Z Z Z Z Z<|zn 13 Z Z Z Z Z<|zn 14 Z Z Z Z Z<|za 15 Z (qeK Z Z) Z<|qad V<|Zt<|Zz Z<|?_
 have hE:rnC p x r=0:=hE0.trans ((if_neg hn0).trans ((if_neg g23).trans ((if_neg (fun h=>h g47)).trans (if_neg (fun h=>g4 h.1)))))
 refine Zk<|Zt<|Sr<|At Z Z<|Zo<|?_
 refine rR [_,_,_] L (.t1 Z) Z (h1.t h2|>.t h5|>.t h6|>.t h8|>.t h12|>.t h13|>.t h14|>.t h18) fun _ hS2=>?_
 exact ⟨by rw [hE];rfl,rfl⟩
theorem qqj:qij Tryz.prog 25:=AC.ok (qe8 0 [] default none 0 0 [] ⟨rfl,Nat.zero_le _,by omega,fun i x h=>by cases h⟩ [])
theorem qe6(D:Nat)(X L:Hl)(s:World)(M:Hl)(A:Option Addr)(n c:Nat)(l:List Str)(hO:FL.Own 9 1 M (.slice A n c) n (sb l))(hu:∀ x∈l,x.length≤9223372036854775807)(hn:n=l.length)(w:Str):AC Tryz.prog D 25 [.slice A n c,St w] (X++(M++L)) s fun v L' _=>v=.int .i64 (qa6 (fun x=>decide (w=x)) l 0)∧L'=X++(M++L):=
 AC.perm (List.perm_append_comm_assoc ..) (AC.lend M (qj9 hO) qqj fun ho=>qe8 D (X++L) _ A n c l (Own.strs hO hu (qji ho) hn) w) fun v L1 s1 ⟨g0,g1⟩=>⟨_,by rw [← g1];exact List.perm_append_comm_assoc ..,g0,rfl⟩
def bdR(p:Prg)(x:Fnc):List RNd→Int
 | []=>0
 | r::l=>if rnC p x r=0 then bdR p x l else rnC p x r
theorem qri{p:Prg}{x:Fnc}{l:List RNd}{k:Nat}{r:RNd}(h:l[k]?=some r):bdR p x (l.drop k)=if rnC p x r=0 then bdR p x (l.drop (k+1)) else rnC p x r:=by
 obtain ⟨hk,rfl⟩:=List.getElem?_eq_some_iff.1 h
 rw [List.drop_eq_getElem_cons hk,bdR]
def okN:Nd→Prop
 | .st y _=>y.kind≤10
 | .ex _ _=>True
theorem qxf:∀ (l:List Ex) (lp:Nat),∀ nd∈qek l lp,okN nd
  | [],_=>fun nd h=>by cases h
  | .mk k o n nm ar::r,lp=>fun nd h=>by
    rw [qek,ndX] at h
    rcases List.mem_append.1 h with h | h
    · rcases List.mem_cons.1 h with rfl | h
      · trivial
      · exact qxf ar lp nd h
    · exact qxf r lp nd h
theorem qwu:∀ (l:List Stm) (lp lv:Nat),qdU l lv=true→∀ nd∈qcn l lp,okN nd
  | [],_,_,_=>fun nd h=>by cases h
  | .mk k nm es b e::r,lp,lv,hv=>fun nd h=>by
    have hv1:stV (.mk k nm es b e) lv=true:=(qds hv (k:=0) rfl).1
    have hv2:qdU r lv=true:=by
      have:=hv
      rw [qdU,Bool.and_eq_true] at this
      exact this.2
    obtain ⟨_,hc,_,hb,he⟩:=qdc hv1
    rw [qcn,ndS] at h
    rcases List.mem_append.1 h with h | h
    · rcases List.mem_cons.1 h with rfl | h
      · exact (qcU hc).2.1
      · rcases List.mem_append.1 h with h | h
        · exact qxf es lp nd h
        · rcases List.mem_append.1 h with h | h
          · exact qwu b _ _ hb nd h
          · exact qwu e _ _ he nd h
    · exact qwu r lp lv hv2 nd h
theorem qj8{p:Prg}{x:Fnc}{nm:Str}{u c c':Int}(h:u≠4):qeD p x (nm,u,c)=qeD p x (nm,u,c'):=by
 unfold qeD
 simp only [h,false_and,if_false]
theorem qwI{p:Prg}{x:Fnc}{nd:Nd}(h:okN nd):(ndR nd=[]∧ndC p x nd=0)∨∃ r,ndR nd=[r]∧ndC p x nd=rnC p x r:=by
  cases nd with
  | ex y lp=>
    by_cases h1:2≤y.kind∧y.kind≤4
    · refine .inr ⟨_,by rw [ndR,if_pos h1],?_⟩
      rw [ndC,rnC,if_neg Oz]
      have h2:y.kind=2∨y.kind=3∨y.kind=4:=by omega
      rcases h2 with h2 | h2 | h2
      · rw [qdC,if_pos h2];simp only [h2];exact qj8 Dc
      · rw [qdC,if_neg O,if_pos h2];simp only [h2];exact qj8 Dc
      · rw [qdC,if_neg O,if_neg O,if_pos h2];simp only [h2]
    · refine .inl ⟨by rw [ndR,if_neg h1],?_⟩
      rw [ndC,qdC,if_neg O,if_neg O,if_neg O,qeD,if_pos rfl]
  | st y lp=>
    have hk:y.kind≤10:=h
    by_cases h1:y.kind=1
    · refine .inr ⟨_,by rw [ndR,if_pos h1],?_⟩
      rw [ndC,if_neg O,rnC,if_neg (by simp),qdD,if_pos h1]
    by_cases h2:y.kind=2
    · refine .inr ⟨_,by rw [ndR,if_neg h1,if_pos h2],?_⟩
      rw [ndC,if_neg O,rnC,if_neg (by simp),qdD,if_neg h1,if_pos h2]
    by_cases h5:y.kind=5
    · refine .inr ⟨_,by rw [ndR,if_neg h1,if_neg h2,if_pos h5],?_⟩
      rw [ndC,if_neg O,rnC,if_neg (by simp),qdD,if_neg h1,if_neg h2,if_pos h5]
    by_cases h8:8 < y.kind
    · refine .inr ⟨_,by rw [ndR,if_neg h1,if_neg h2,if_neg h5,if_pos h8],?_⟩
      rw [ndC,rnC,if_pos rfl]
      by_cases h0:lp=0
      · rw [if_pos ⟨by omega,h0⟩,if_pos Oz]
      · rw [if_neg (fun q=>h0 q.2),if_neg Oz,qdD,if_neg h1,if_neg h2,if_neg h5,qeD,if_pos rfl]
    · refine .inl ⟨by rw [ndR,if_neg h1,if_neg h2,if_neg h5,if_neg h8],?_⟩
      rw [ndC,if_neg O,qdD,if_neg h1,if_neg h2,if_neg h5,qeD,if_pos rfl]
theorem qqR{p:Prg}{x:Fnc}:∀ {l:List Nd},(∀ nd∈l,okN nd)→bdR p x (l.flatMap ndR)=qfH p x l
  | [],_=>rfl
  | n::r,h=>by
    have ih:=qqR (p:=p) (x:=x) (l:=r) fun nd hn=>h nd (List.mem_cons_of_mem _ hn)
    rw [List.flatMap_cons,qfH]
    rcases qwI (p:=p) (x:=x) (h n Mc) with ⟨h1,h2⟩ | ⟨q,h1,h2⟩
    · rw [h1,h2,if_pos rfl];exact ih
    · rw [h1,h2]
      show bdR p x (q::List.flatMap ndR r)=_
      rw [bdR,ih]
theorem qnE{p:Prg}{x:Fnc}{lv:Nat}(h:qdU x.body lv=true):bdR p x (rss x.body 0)=qfH p x (qcn x.body 0):=qqR (qwu x.body 0 lv h)
theorem qwU{nd:Nd}{r:RNd}(h:r∈ndR nd):1≤r.u∧r.u≤5:=by
 cases nd with
 | ex y lp=>
  by_cases h1:2≤y.kind∧y.kind≤4
  · rw [ndR,if_pos h1,List.mem_singleton] at h;subst h;simp only;omega
  · rw [ndR,if_neg h1] at h;cases h
 | st y lp=>
  rw [ndR] at h
  by_cases h1:y.kind=1
  · rw [if_pos h1,List.mem_singleton] at h;subst h;exact ⟨show (1:Int)≤1 by decide,show (1:Int)≤5 by decide⟩
  rw [if_neg h1] at h
  by_cases h2:y.kind=2
  · rw [if_pos h2,List.mem_singleton] at h;subst h;exact ⟨show (1:Int)≤3 by decide,show (3:Int)≤5 by decide⟩
  rw [if_neg h2] at h
  by_cases h5:y.kind=5
  · rw [if_pos h5,List.mem_singleton] at h;subst h;exact ⟨show (1:Int)≤4 by decide,show (4:Int)≤5 by decide⟩
  rw [if_neg h5] at h
  by_cases h8:8 < y.kind
  · rw [if_pos h8,List.mem_singleton] at h;subst h;exact ⟨show (1:Int)≤5 by decide,show (5:Int)≤5 by decide⟩
  · rw [if_neg h8] at h;cases h
theorem qwR{l:List Stm}{lp:Nat}{r:RNd}(h:r∈rss l lp):1≤r.u∧r.u≤5:=by
 obtain ⟨nd,_,h1⟩:=List.mem_flatMap.1 h
 exact qwU h1
theorem qsl(D:Nat)(L:Hl)(s:World)(d:Nat)(p:Prg)(Ag Af:Option Addr)(ng cg nf cf:Nat)(hGl:Glos s Ag ng cg p.globals)(hFn:Fncs d s Af nf cf p.funcs):AC Tryz.prog D 10 [.agg #[.slice Ag ng cg,.slice Af nf cf]] L s fun v L' _=>v=.agg #[.int .i64 (qbM p).1,.int .i64 (qbM p).2]∧L=L':=by
 have hn1:=hGl.1
 have hn2:=hFn.1
 have hU:prU p:=⟨hGl.u,hFn.u⟩
 refine qai (fn:=Tryz.f10) qaq Tryz.func10 V Z Tryz.ntmps10 Z (rs:=[.cell 2 33]) Z [(0,_)] Z<|Sr<|qau Z Z ?_
 intro β1 s1 h1
 refine qae Z [_,_] Z Z ?_
 intro β2 s2 h2
 refine Nt<|Sr<|qaf (qan 1 [_,_] Z Z Z Z Z) Z<|Jc Z Z Z (qpa D _ _ d p Ag Af ng cg nf cf (hGl.le (h1.t h2)) (hFn.le (h1.t h2))) ?_
 rintro _ _ s3 h3 ⟨rfl,rfl⟩
 refine qae Z [_,_] Z Z ?_
 intro β4 s4 h4
 refine Wt 0 [_,_] Y9<|Nt<|Zs<|Sr<|W0 Y5<|Wl 0 Y6<|qcj Z Z Z<|Nt<|?_
 refine qaK Z (fun c5=>?_) (fun c5=>?_)
 ·
  have hE:qbM p=qd2 p:=if_pos c5
  refine Sr<|qaf (qan 0 [_,_] Z Z Z Z Z) Z<|Wt 1 [_,_] Y9<|Nt<|Zo<|Zu<|?_
  refine rR [_,_,_] L (.agg (us:=[_,_]) 1 Z Z Z Z Z (.nil)) Z (h1.t h2|>.t h3|>.t h4) fun _ hS2=>?_
  exact ⟨by rw [hE];rfl,rfl⟩
 have g14:¬ (qd2 p).1≠0:=fun h=>h c5
 have hz0:=qjk c5
 have hV:=PV.of hU (qfd c5)
 have hV1:=hV.1
 have hV2:=hV.2.1
 have hVf:=hV.2.2.2.1
 obtain ⟨hN1,hNF⟩:=qjZ hV
 refine Zk<|Zt<|Sr<|At Z Z<|Zs<|Sr<|At Z Z<|Zp<|?_
 refine qat (γ:=Nat×Value×Hl) (fun g=>[(1,_),(2,_),(3,_),(4,g.2.1),(5,.int .i64 (g.1:Int))]) (fun g=>_::_::_::(g.2.2++L)) (fun g tw=>Le D s4 tw∧(g.1≤ng∧FL.Own 9 1 g.2.2 g.2.1 g.1 (sb ((p.globals.take g.1).map Glo.name))∧qfl p.globals [] 0=qfl (p.globals.drop g.1) ((p.globals.take g.1).map Glo.name) g.1)) (fun g=>ng - g.1) (fun _ _ _ h hl=>⟨h.1.trans hl,h.2⟩) (0,.slice none 0 0,[]) (.c5 Z Z Z Z Z (.nil _)) Z ⟨Le.refl _,⟨Nat.zero_le _,Own.nil,Z⟩⟩ ?_
 intro g s6 I6
 obtain ⟨k,vo,Mo⟩:=g
 obtain ⟨hk0,hO,hS⟩:=I6.2
 simp only at hk0 hO hS
 dsimp only
 obtain ⟨Av,cv,rfl,hv1,hv2⟩:=Own.slice hO
 refine Zs<|Sr<|Zqm Z Z<|W0 Y5<|Wl 2 Y6<|Ws Y4<|qba Z Z Z<|Nt<|?_
 refine qab Z (fun c7=>?_) (fun c7=>?_)
 ·
  have hk:k < ng:=by omega
  obtain ⟨b,off,x,Ai,ni,ci,rfl,hx,hcx,hix,hux,hnl⟩:=Glos.at_ (hGl.le (h1.t h2|>.t h3|>.t h4|>.t I6.1)) hk
  refine Zk<|Zt<|Zs<|Zp<|Zs<|Sr<|Zqm Z Z<|W0 Y5<|Wl 2 Y6<|Zqm Z Z<|qaf (qap Z Z Z Z Z Z hk) Z<|qaf (qbf Z Z Z Z) Z<|qaf (qaC 1 Z Z Z (hcx.le (Lr D)) Z) Z<|Jc Z Z Z (qe6 D [_,_,_] L _ Mo Av k cv _ hO (fun w hw=>hN1 w (by rw [List.map_take] at hw;exact List.mem_of_mem_take hw)) (by rw [List.length_map,List.length_take];omega) x.name) ?_
  rintro _ _ s8 h8 ⟨rfl,rfl⟩
  simp only [cQ9,nQ9]
  refine qf1 Z Z Z<|Nt<|?_
  refine qab Z (fun c9=>?_) (fun c9=>?_)
  ·
   have hi9:=(qbQ (k:=0)).1 c9
   have q9:qfl p.globals [] 0=(8,(k:Int)):=by rw [hS,qhU hx,if_pos hi9]
   have hE9:qb2 p=(8,(k:Int)):=by rw [nF_g (by rw [q9];simp),q9]
   have hE:qbM p=(8,(k:Int)):=by rw [qbM,if_neg g14,if_pos (by rw [hE9];simp),hE9]
   refine Sr<|Zqm Z Z<|Jc Z Z Z (qdZ D _ _ _ _) ?_
   rintro _ _ s10 h10 ⟨rfl,rfl⟩
   refine Wt 1 [_,_] Y9<|Nt<|Zo<|Zu<|Zc<|Zu<|Zu<|Zc<|Zu<|?_
   refine rR (_::_::_::Mo) L (.agg (us:=[_,_]) 1 Z Z Z Z Z (.nil)) Z (h1.t h2|>.t h3|>.t h4|>.t I6.1|>.t h8|>.t h10) fun _ hS2=>?_
   exact ⟨by rw [hE];rfl,rfl⟩
  have hz:=fun q=>c9 ((qbQ (k:=0)).2 q)
  refine Zk<|Zt<|Zr<|Zqm Z Z<|W0 Y5<|Wl 2 Y6<|Zqm Z Z<|qaf (qap Z Z Z Z Z Z hk) Z<|qaf (qbf Z Z Z Z) Z<|qaf (qaC 1 Z Z Z (hcx.le h8) Z) Z<|qbt [(_,_)] [_] Z Z Z Z Z Z Z Z Z ?_
  intro βn s11 h11 hcb
  refine qbd (sz:=1) [_,_,_] Mo L Z Z Z Z Z Z Z hO (Row.of_cells (hcb.le (Lr D)) Z Z) ⟨by simp [ti9];omega,by omega⟩ Z ?_
  intro vq Mq s12 h12 oq
  obtain ⟨Avq,cvq,rfl,_,_⟩:=Own.slice oq
  simp only [cQ9,nQ9]
  refine Zqa Z Z<|Zn<|Zb<|Zt<|Zr<|Zqm Z Z<|qaG Z Z Z (w64 O O)<|Zqa Z Z<|Zn<|?_
  refine qaa ⟨(k+1,.slice Avq (k+1) cvq,Mq),[],kp,Z,⟨(I6.1.t h8|>.t h11|>.t h12),⟨by simp only;omega,by rw [qaL Glo.name hx,qdh];exact oq,by simp only;rw [hS,qhU hx,if_neg hz,qaL Glo.name hx]⟩⟩,Oz⟩
 obtain rfl:ng=k:=by omega
 rw [List.drop_eq_nil_of_le O,qfl] at hS
 rw [List.take_of_length_le O] at hO
 refine Zl<|Zv<|Zv<|Zd<|Zt<|Zs<|Sr<|At Z Z<|Zp<|?_
 refine qat (γ:=Nat×Value×Hl) (fun g=>[(1,_),(2,_),(3,_),(4,g.2.1),(6,.int .i64 (g.1:Int))]) (fun g=>_::_::_::(g.2.2++L)) (fun g tw=>Le D s6 tw∧(g.1≤nf∧FL.Own 9 1 g.2.2 g.2.1 (ng+g.1) (sb (p.globals.map Glo.name++(p.funcs.take g.1).map Fnc.name))∧qfi p.funcs (p.globals.map Glo.name) p.globals.length=qfi (p.funcs.drop g.1) (p.globals.map Glo.name++(p.funcs.take g.1).map Fnc.name) (p.globals.length+g.1))) (fun g=>nf - g.1) (fun _ _ _ h hl=>⟨h.1.trans hl,h.2⟩) (0,.slice Av ng cv,Mo) (.c5 Z Z Z Z Z (.nil _)) Z ⟨Le.refl _,⟨Nat.zero_le _,by simpa using hO,by simp⟩⟩ ?_
 intro g s13 I13
 obtain ⟨k,vo,Mo⟩:=g
 obtain ⟨hk0,hO,hSf⟩:=I13.2
 simp only at hk0 hO hSf
 dsimp only
 obtain ⟨Av,cv,rfl,hv1,hv2⟩:=Own.slice hO
 refine Zs<|Sr<|Zqm Z Z<|Wb Y5<|Wl 2 Y6<|Ws Y4<|qba Z Z Z<|Nt<|?_
 refine qab Z (fun c14=>?_) (fun c14=>?_)
 ·
  have hk:k < nf:=by omega
  obtain ⟨b,off,x,B1,m1,d1,B2,m2,d2,B3,m3,d3,rfl,hx,hcx,hpx,hlx,hbx,hnl⟩:=Fncs.at_ (hFn.le (h1.t h2|>.t h3|>.t h4|>.t I6.1|>.t I13.1)) hk
  have hfx:=hVf x (List.mem_of_getElem? hx)
  obtain ⟨hi1,hi2,hi3,hi4,hi5,hi6⟩:=hfx
  have hp9:=hpx.1
  have hl9:=hlx.1
  refine Zk<|Zt<|Zs<|Zp<|Sr<|Wb Y5<|Wl 2 Y6<|Zqm Z Z<|qaf (qap Z Z Z Z Z Z hk) Z<|qaf (qas Z Z Z (hcx.le (Lr D)) Z) Z<|qae Z [_,_,_,_] Z Z ?_
  intro β15 s15 h15
  refine Wt 0 [_,_,_,_] Y9<|Nt<|Zs<|Sr<|Zqm Z Z<|W0 Y5<|Wl 0 Y6<|Jc Z Z Z (qe6 D [_,_,_,_] L _ Mo Av (ng+k) cv _ hO (fun w hw=>(List.mem_append.1 hw).elim (hN1 w) (fun hw=>hNF w (by rw [List.map_take] at hw;exact List.mem_of_mem_take hw))) (by rw [List.length_append,List.length_map,List.length_map,List.length_take];omega) x.name) ?_
  rintro _ _ s16 h16 ⟨rfl,rfl⟩
  simp only [cQ9,nQ9]
  refine qf1 Z Z Z<|Nt<|?_
  refine qab Z (fun c17=>?_) (fun c17=>?_)
  ·
   have hi9:=(qbQ (k:=0)).1 c17
   have q9:qfi p.funcs (p.globals.map Glo.name) p.globals.length=(8,((ng+k:Nat):Int)):=by rw [hSf,qeF hx,if_pos (.inl hi9),hn1]
   have hE9:qb2 p=(8,((ng+k:Nat):Int)):=by rw [qwm hS (by rw [q9];simp),q9]
   have hE:qbM p=(8,((ng+k:Nat):Int)):=by rw [qbM,if_neg g14,if_pos (by rw [hE9];simp),hE9]
   refine Sr<|W0 Y5<|Wl 3 Y6<|Ws Y4<|Zqm Z Z<|qaf (qaX Z Z (show IntKind.i64.wrap ((ng:Int)+(k:Int))=((ng+k:Nat):Int) by rw [w64 O O];simp)) Z<|Jc Z Z Z (qdZ D _ _ _ _) ?_
   rintro _ _ s18 h18 ⟨rfl,rfl⟩
   refine Wt 2 [_,_] Y9<|Nt<|Zo<|Zu<|Zc<|Zu<|Zu<|Zc<|Zu<|?_
   refine rR (_::_::_::_::Mo) L (.agg (us:=[_,_]) 2 Z Z Z Z Z (.nil)) Z (h1.t h2|>.t h3|>.t h4|>.t I6.1|>.t I13.1|>.t h15|>.t h16|>.t h18) fun _ hS2=>?_
   exact ⟨by rw [hE];rfl,rfl⟩
  have hz:=fun q=>c17 ((qbQ (k:=0)).2 q)
  refine Zk<|Zt<|Sr<|Zqm Z Z<|W0 Y5<|Wl 0 Y6<|qbt [(_,_)] [_] Z Z Z Z Z Z Z Z Z ?_
  intro βn s19 h19 hcb
  refine qbd (sz:=1) [_,_,_,_] Mo L Z Z Z Z Z Z Z hO (Row.of_cells (hcb.le (Lr D)) Z Z) ⟨by simp [ti9];omega,by omega⟩ Z ?_
  intro vq Mq s20 h20 oq
  obtain ⟨Avq,cvq,rfl,_,_⟩:=Own.slice oq
  simp only [cQ9,nQ9]
  refine At Z Z<|Sr<|At Z Z<|Sr<|At Z Z<|Zp<|?_
  refine qat (γ:=Nat×Value×Hl) (fun g=>[(1,_),(2,_),(3,_),(4,_),(6,_),(7,_),(8,g.2.1),(9,.int .i64 (g.1:Int))]) (fun g=>_::_::_::_::(g.2.2++(Mq++L))) (fun g tw=>Le D s20 tw∧(g.1≤m1+m2∧FL.Own 9 1 g.2.2 g.2.1 g.1 (sb ((x.params++x.locals).take g.1))∧((x.params++x.locals).take g.1).Nodup)) (fun g=>m1+m2 - g.1) (fun _ _ _ h hl=>⟨h.1.trans hl,h.2⟩) (0,.slice none 0 0,[]) (.c6 Z Z Z Z Z Z (.c2 Z Z (.nil _))) Z ⟨Le.refl _,⟨Nat.zero_le _,Own.nil,by simp⟩⟩ ?_
  intro g s21 I21
  obtain ⟨j,vo2,M2⟩:=g
  obtain ⟨hj0,hO2,hN2⟩:=I21.2
  simp only at hj0 hO2 hN2
  dsimp only
  obtain ⟨Av2,cv2,rfl,_,_⟩:=Own.slice hO2
  refine Zs<|Sr<|Zqm Z Z<|Wb Y5<|Wl 0 Y6<|Ws Y4<|Wb Y5<|Wl 0 Y6<|Ws Y4<|qaG Z Z Z (w64 O O)<|qba Z Z Z<|Nt<|?_
  refine qab Z (fun c22=>?_) (fun c22=>?_)
  ·
   have hj:j < m1+m2:=by omega
   obtain ⟨w8,hws⟩:∃ w,(x.params++x.locals)[j]?=some w:=⟨_,List.getElem?_eq_getElem (by rw [List.length_append];omega)⟩
   refine Zk<|Zt<|Zs<|Zp<|Sr<|At Z Z<|Zs<|Sr<|Zqm Z Z<|Wb Y5<|Wl 0 Y6<|Ws Y4<|qba Z Z Z<|Nt<|?_
   refine qab Z (fun c23=>?_) (fun c23=>?_)
   ·
    have hjm:j < m1:=by omega
    obtain ⟨b2,off2,w9,rfl,hw9,hcw,hw8⟩:=Strs.at_ (hpx.le (h15.t h16|>.t h19|>.t h20|>.t I21.1)) hjm
    obtain rfl:w9=w8:=by rw [List.getElem?_append_left O,hw9] at hws;injection hws
    refine Zr<|Wb Y5<|Wl 0 Y6<|Zqm Z Z<|qaf (qaH Z Z Z Z Z Z hjm) Z<|qaf (qaj Z Z Z (hcw.le (Lr D)) Z) Z<|At Z Z<|Zs<|Sr<|Zqm Z Z<|Zqm Z Z<|Jc Z Z Z (qe6 D [_,_,_,_] (Mq++L) _ M2 Av2 _ cv2 _ hO2 (fun w hw=>by have:=qbJ (hi4 w (List.mem_of_mem_take hw));omega) (by rw [List.length_take,List.length_append];omega) w9) ?_
    rintro _ _ s24 h24 ⟨rfl,rfl⟩
    simp only [cQ9,nQ9]
    refine qf1 Z Z Z<|Nt<|?_
    refine qab Z (fun c25=>?_) (fun c25=>?_)
    ·
     have hi9:=(qbQ (k:=0)).1 c25
     have q9:qfi p.funcs (p.globals.map Glo.name) p.globals.length=(8,((ng+k:Nat):Int)):=by rw [hSf,qeF hx,if_pos (.inr (qdo hws hi9)),hn1]
     have hE9:qb2 p=(8,((ng+k:Nat):Int)):=by rw [qwm hS (by rw [q9];simp),q9]
     have hE:qbM p=(8,((ng+k:Nat):Int)):=by rw [qbM,if_neg g14,if_pos (by rw [hE9];simp),hE9]
     rw [show M2++(Mq++L)=(M2++Mq)++L from (List.append_assoc ..).symm]
     refine Sr<|W0 Y5<|Wl 3 Y6<|Ws Y4<|Zqm Z Z<|qaf (qaX Z Z (show IntKind.i64.wrap ((ng:Int)+(k:Int))=((ng+k:Nat):Int) by rw [w64 O O];simp)) Z<|Jc Z Z Z (qdZ D _ _ _ _) ?_
     rintro _ _ s26 h26 ⟨rfl,rfl⟩
     refine Wt 2 [_,_] Y9<|Nt<|Zo<|Zu<|Zc<|Zu<|Zu<|Zc<|Zc<|Zu<|Zu<|Zc<|Zu ?_
     refine rR (_::_::_::_::(M2++Mq)) L (.agg (us:=[_,_]) 2 Z Z Z Z Z (.nil)) Z (h1.t h2|>.t h3|>.t h4|>.t I6.1|>.t I13.1|>.t h15|>.t h16|>.t h19|>.t h20|>.t I21.1|>.t h24|>.t h26) fun _ hS2=>?_
     exact ⟨by rw [hE];rfl,rfl⟩
    have hzj:=fun q=>c25 ((qbQ (k:=0)).2 q)
    refine Zk<|Zt<|Zr<|Zqm Z Z<|Zqm Z Z<|qbt [(_,_)] [_] Z Z Z Z Z Z Z Z Z ?_
    intro βn s27 h27 hcb
    refine qbd (sz:=1) [_,_,_,_] M2 (Mq++L) Z Z Z Z Z Z Z hO2 (Row.of_cells (hcb.le (Lr D)) Z Z) ⟨by simp [ti9];omega,by omega⟩ Z ?_
    intro vw Mw s28 h28 ow
    obtain ⟨Avw,cvw,rfl,_,_⟩:=Own.slice ow
    simp only [cQ9,nQ9]
    refine Zqa Z Z<|Zn<|Zb<|Zt<|Zr<|Zqm Z Z<|qaG Z Z Z (w64 O O)<|Zqa Z Z<|Zn<|?_
    refine qaa ⟨(j+1,.slice Avw (j+1) cvw,Mw),[],kp,Z,⟨(I21.1.t h24|>.t h27|>.t h28),⟨by simp only;omega,by rw [qaT hws,qdh];exact ow,qfs hws hN2 hzj⟩⟩,Oz⟩
   obtain ⟨j2,hj2⟩:∃ j2,j=m1+j2:=⟨j - m1,by omega⟩
   have hjm:j2 < m2:=by omega
   obtain ⟨b2,off2,w9,rfl,hw9,hcw,hw8⟩:=Strs.at_ (hlx.le (h15.t h16|>.t h19|>.t h20|>.t I21.1)) hjm
   obtain rfl:w9=w8:=by rw [List.getElem?_append_right O,show j - x.params.length=j2 by omega,hw9] at hws;injection hws
   refine Zr<|Wb Y5<|Wl 0 Y6<|Zqm Z Z<|Wb Y5<|Wl 0 Y6<|Ws Y4<|qaf (qbU (c:=(j2:Int)) Z Z (by rw [w64 O O];omega)) Z<|qaf (qaH Z Z Z Z Z Z hjm) Z<|qaf (qaj Z Z Z (hcw.le (Lr D)) Z) Z<|At Z Z<|Zs<|Sr<|Zqm Z Z<|Zqm Z Z<|Jc Z Z Z (qe6 D [_,_,_,_] (Mq++L) _ M2 Av2 _ cv2 _ hO2 (fun w hw=>by have:=qbJ (hi4 w (List.mem_of_mem_take hw));omega) (by rw [List.length_take,List.length_append];omega) w9) ?_
   rintro _ _ s29 h29 ⟨rfl,rfl⟩
   simp only [cQ9,nQ9]
   refine qf1 Z Z Z<|Nt<|?_
   refine qab Z (fun c30=>?_) (fun c30=>?_)
   ·
    have hi9:=(qbQ (k:=0)).1 c30
    have q9:qfi p.funcs (p.globals.map Glo.name) p.globals.length=(8,((ng+k:Nat):Int)):=by rw [hSf,qeF hx,if_pos (.inr (qdo hws hi9)),hn1]
    have hE9:qb2 p=(8,((ng+k:Nat):Int)):=by rw [qwm hS (by rw [q9];simp),q9]
    have hE:qbM p=(8,((ng+k:Nat):Int)):=by rw [qbM,if_neg g14,if_pos (by rw [hE9];simp),hE9]
    rw [show M2++(Mq++L)=(M2++Mq)++L from (List.append_assoc ..).symm]
    refine Sr<|W0 Y5<|Wl 3 Y6<|Ws Y4<|Zqm Z Z<|qaf (qaX Z Z (show IntKind.i64.wrap ((ng:Int)+(k:Int))=((ng+k:Nat):Int) by rw [w64 O O];simp)) Z<|Jc Z Z Z (qdZ D _ _ _ _) ?_
    rintro _ _ s31 h31 ⟨rfl,rfl⟩
    refine Wt 2 [_,_] Y9<|Nt<|Zo<|Zu<|Zc<|Zu<|Zu<|Zc<|Zc<|Zu<|Zu<|Zc<|Zu ?_
    refine rR (_::_::_::_::(M2++Mq)) L (.agg (us:=[_,_]) 2 Z Z Z Z Z (.nil)) Z (h1.t h2|>.t h3|>.t h4|>.t I6.1|>.t I13.1|>.t h15|>.t h16|>.t h19|>.t h20|>.t I21.1|>.t h29|>.t h31) fun _ hS2=>?_
    exact ⟨by rw [hE];rfl,rfl⟩
   have hzj:=fun q=>c30 ((qbQ (k:=0)).2 q)
   refine Zk<|Zt<|Zr<|Zqm Z Z<|Zqm Z Z<|qbt [(_,_)] [_] Z Z Z Z Z Z Z Z Z ?_
   intro βn s32 h32 hcb
   refine qbd (sz:=1) [_,_,_,_] M2 (Mq++L) Z Z Z Z Z Z Z hO2 (Row.of_cells (hcb.le (Lr D)) Z Z) ⟨by simp [ti9];omega,by omega⟩ Z ?_
   intro vw Mw s33 h33 ow
   obtain ⟨Avw,cvw,rfl,_,_⟩:=Own.slice ow
   simp only [cQ9,nQ9]
   refine Zqa Z Z<|Zn<|Zb<|Zt<|Zr<|Zqm Z Z<|qaG Z Z Z (w64 O O)<|Zqa Z Z<|Zn<|?_
   refine qaa ⟨(j+1,.slice Avw (j+1) cvw,Mw),[],kp,Z,⟨(I21.1.t h29|>.t h32|>.t h33),⟨by simp only;omega,by rw [qaT hws,qdh];exact ow,qfs hws hN2 hzj⟩⟩,Oz⟩
  have hnd:(x.params++x.locals).Nodup:=by
    rw [List.take_of_length_le (by rw [List.length_append];omega)] at hN2;exact hN2
  refine Zl<|Zv<|Zv<|Zd<|Zb<|Zt<|qbs [_,_,_,_] M2 _ ?_
  intro s34 h34 hpub34
  simp only [cQ9,nQ9]
  refine Zr<|Zqm Z Z<|qaG Z Z Z (w64 O O)<|Zqa Z Z<|Zn<|?_
  refine qaa ⟨(k+1,.slice Avq (ng+k+1) cvq,Mq),[_],kp,Z,⟨(I13.1.t h15|>.t h16|>.t h19|>.t h20|>.t I21.1|>.t h34),⟨by simp only;omega,by rw [qaL Fnc.name hx,← List.append_assoc,qdh];exact oq,by simp only;rw [hSf,qeF hx,if_neg (fun h=>h.elim hz (fun h=>h hnd)),qaL Fnc.name hx,List.append_assoc];rfl⟩⟩,Oz⟩
 rw [List.drop_eq_nil_of_le O,qfi] at hSf
 rw [List.take_of_length_le (show p.funcs.length≤k by omega)] at hO
 refine Zl<|Zv<|Zv<|Zd<|Zt<|Sr<|qaf (qan 2 [_,_] Z Z Z Z Z) Z<|Jc Z Z Z (qm8 D _ _ d p Ag _ ng cg nf cf (hGl.le (h1.t h2|>.t h3|>.t h4|>.t I6.1|>.t I13.1)) (hFn.le (h1.t h2|>.t h3|>.t h4|>.t I6.1|>.t I13.1))) ?_
 rintro _ _ s35 h35 ⟨rfl,rfl⟩
 refine At Z Z<|Zs<|Sr<|Zqm Z Z<|qba Z Z Z<|Nt<|?_
 refine qab Z (fun c36=>?_) (fun c36=>?_)
 ·
  have hE9:=nF_m hS hSf c36
  have hE:qbM p=(12,-1):=by rw [qbM,if_neg g14,if_pos (by rw [hE9];simp),hE9]
  refine Sr<|Jc Z Z Z (qdZ D _ _ _ _) ?_
  rintro _ _ s37 h37 ⟨rfl,rfl⟩
  refine Wt 1 [_,_] Y9<|Nt<|Zo<|Zu<|?_
  refine rR (_::_::_::Mo) L (.agg (us:=[_,_]) 1 Z Z Z Z Z (.nil)) Z (h1.t h2|>.t h3|>.t h4|>.t I6.1|>.t I13.1|>.t h35|>.t h37) fun _ hS2=>?_
  exact ⟨by rw [hE];rfl,rfl⟩
 obtain ⟨j,hj⟩:=Int.eq_ofNat_of_zero_le (show 0≤qcu p.funcs by have:=c36;omega)
 have hjl:=qdI (p:=fun x:Fnc=>decide (x.name=qbw)) (l:=p.funcs) (k:=0)
 have hjl2:j < nf:=by unfold qcu at hj;omega
 obtain ⟨b,off,x,B1,m1,d1,B2,m2,d2,B3,m3,d3,rfl,hx,hcx,hpx,hlx,hbx,hnl⟩:=Fncs.at_ (hFn.le (h1.t h2|>.t h3|>.t h4|>.t I6.1|>.t I13.1|>.t h35)) hjl2
 have hp9:=hpx.1
 have hE8:=nF_p hS hSf hj hx
 rw [hj]
 refine Zk<|Zt<|Zs<|Sr<|Wb Y5<|Wl 2 Y6<|Zqm Z Z<|qaf (qap (j:=j) Z Z Z Z Z Z hjl2) Z<|qaf (qbf Z Z Z Z) Z<|qaf (qaC 1 Z Z Z (hcx.le (Lr D)) Z) Z<|Ws Y4<|qbA Z Z Z<|Nt<|?_
 refine qab Z (fun c38=>?_) (fun c38=>?_)
 ·
  have hE9:qb2 p=(9,-1):=by rw [hE8,if_neg (fun h=>by rw [h] at hp9;simp at hp9;omega)]
  have hE:qbM p=(9,-1):=by rw [qbM,if_neg g14,if_pos (by rw [hE9];simp),hE9]
  refine Sr<|Jc Z Z Z (qdZ D _ _ _ _) ?_
  rintro _ _ s39 h39 ⟨rfl,rfl⟩
  refine Wt 1 [_,_] Y9<|Nt<|Zo<|Zu<|?_
  refine rR (_::_::_::Mo) L (.agg (us:=[_,_]) 1 Z Z Z Z Z (.nil)) Z (h1.t h2|>.t h3|>.t h4|>.t I6.1|>.t I13.1|>.t h35|>.t h39) fun _ hS2=>?_
  exact ⟨by rw [hE];rfl,rfl⟩
 have hE9:qb2 p=(0,0):=by rw [hE8,if_pos (List.eq_nil_of_length_eq_zero O)]
 have g20:¬ (qb2 p).1≠0:=fun h=>h (by rw [hE9])
 clear hx hcx hpx hlx hbx hnl hE8
 refine Zk<|Zt<|Zs<|Sr<|At Z Z<|Zp<|qat (γ:=Nat) (fun k=>[(1,_),(2,_),(3,_),(12,.int .i64 (k:Int))]) (fun _=>_) (fun k tw=>Le D s35 tw∧(k≤nf∧qiS p p.funcs p.globals.length=qiS p (p.funcs.drop k) (p.globals.length+k))) (fun k=>nf - k) (fun _ _ _ h hl=>⟨h.1.trans hl,h.2⟩) 0 (.c4 Z Z Z Z (.nil _)) Z ⟨Le.refl _,⟨Nat.zero_le _,Z⟩⟩ ?_
 intro k s40 I40
 have hk0:=I40.2.1
 have hSb:=I40.2.2
 refine Zs<|Sr<|Zqm Z Z<|Wb Y5<|Wl 2 Y6<|Ws Y4<|qba Z Z Z<|Nt<|?_
 refine qab Z (fun c41=>?_) (fun c41=>?_)
 ·
  have hk:k < nf:=by omega
  obtain ⟨b,off,x,B1,m1,d1,B2,m2,d2,B3,m3,d3,hAf,hx,hcx,hpx,hlx,hbx,hnl⟩:=Fncs.at_ (hFn.le (h1.t h2|>.t h3|>.t h4|>.t I6.1|>.t I13.1|>.t h35|>.t I40.1)) hk
  injection hAf with hAf
  injection hAf with hAb hAo
  subst hAb;subst hAo
  obtain ⟨hi1,hi2,hi3,hi4,hi5,hi6⟩:=hVf x (List.mem_of_getElem? hx)
  refine Zk<|Zt<|Zs<|Zp<|Sr<|Wb Y5<|Wl 2 Y6<|Zqm Z Z<|qaf (qap Z Z Z Z Z Z hk) Z<|qaf (qbf Z Z Z Z) Z<|qaf (qaC 3 Z Z Z (hcx.le (Lr D)) Z) Z<|Jc Z Z Z (rns D d _ _ B3 m3 d3 x.body 0 1 (hbx.le (Lr D)) hi5 O O) ?_
  rintro _ _ s42 h42 ⟨rfl,Ar,nr,cr,rfl,hRs⟩
  have hnr:=hRs.1
  have hnr2:=hRs.2.1
  have hnr3:=hRs.2.2.1
  refine At Z Z<|Sr<|At Z Z<|Zp<|qat (γ:=Nat) (fun j=>[(1,_),(2,_),(3,_),(12,_),(13,_),(14,.int .i64 (j:Int))]) (fun _=>_) (fun j tw=>Le D s42 tw∧(j≤nr∧bdR p x (rss x.body 0)=bdR p x ((rss x.body 0).drop j))) (fun j=>nr - j) (fun _ _ _ h hl=>⟨h.1.trans hl,h.2⟩) 0 (.c6 Z Z Z Z Z Z (.nil _)) Z ⟨Le.refl _,⟨Nat.zero_le _,Z⟩⟩ ?_
  intro j s43 I43
  have hj0:=I43.2.1
  have hSr:=I43.2.2
  refine Zs<|Sr<|Zqm Z Z<|Zqm Z Z<|Ws Y4<|qba Z Z Z<|Nt<|?_
  refine qab Z (fun c44=>?_) (fun c44=>?_)
  ·
   have hj:j < nr:=by omega
   obtain ⟨b3,off3,r,rfl,hrj,hcr⟩:=Rns.at_ (hRs.le I43.1) hj
   have hru:=qwR (List.mem_of_getElem? hrj)
   refine Zk<|Zt<|Zs<|Zp<|Zs<|qay qag 8 Z _ (fun _ h=>h) ?_
   intro s45 h45
   refine za 0 Z (qan 2 [_,_] Z Z Z Z Z) Z<|za 1 Z (qar Z) Z<|za 2 Z (qar Z) Z<|za 3 Z (qar Z) Z<|za 4 Z (qap Z Z Z Z Z Z hj) Z<|za 5 Z (qas Z Z Z (hcr.le h45) Z) Z<|qal 6 V<|Jb Z Tt Z Z Z (qpJ D _ _ d p Ag _ ng cg nf cf (hGl.le (h1.t h2|>.t h3|>.t h4|>.t I6.1|>.t I13.1|>.t h35|>.t I40.1|>.t h42|>.t I43.1|>.t h45)) (hFn.le (h1.t h2|>.t h3|>.t h4|>.t I6.1|>.t I13.1|>.t h35|>.t I40.1|>.t h42|>.t I43.1|>.t h45)) hV k x hx r hru) ?_
   rintro _ _ s46 h46 ⟨rfl,rfl⟩
   refine ⟨fun _ _ h=>h,?_⟩
   refine za 7 Z (qaY Z) Z<|qad V<|Zt<|Sr<|Zqm Z Z<|qcj Z Z Z<|Nt<|?_
   refine qaK Z (fun c47=>?_) (fun c47=>?_)
   ·
    have hzr:=c47
    have hbn:qfH p x (qcn x.body 0)=rnC p x r:=by rw [← qnE hi5,hSr,qri hrj,if_neg hzr]
    have hE:qbM p=(rnC p x r,((ng+k:Nat):Int)):=by rw [qbM,if_neg g14,if_neg g20,hSb,qhQ hx,if_neg (by rw [hbn];exact hzr),hbn,hn1]
    refine Sr<|Zqm Z Z<|W0 Y5<|Wl 2 Y6<|Ws Y4<|Zqm Z Z<|qaf (qaX Z Z (show IntKind.i64.wrap ((ng:Int)+(k:Int))=((ng+k:Nat):Int) by rw [w64 O O];simp)) Z<|Jc Z Z Z (qdZ D _ _ _ _) ?_
    rintro _ _ s48 h48 ⟨rfl,rfl⟩
    refine Wt 1 [_,_] Y9<|Nt<|Zo<|Zc<|Zu<|Zu<|Zc<|Zc<|Zu<|Zu<|Zc<|Zu<|?_
    refine rR (_::_::_::Mo) L (.agg (us:=[_,_]) 1 Z Z Z Z Z (.nil)) Z (h1.t h2|>.t h3|>.t h4|>.t I6.1|>.t I13.1|>.t h35|>.t I40.1|>.t h42|>.t I43.1|>.t h45|>.t h46|>.t h48) fun _ hS2=>?_
    exact ⟨by rw [hE];rfl,rfl⟩
   have hzr:=c47
   refine Zk<|Zb<|Zt<|Zr<|Zqm Z Z<|qaG Z Z Z (w64 O O)<|Zqa Z Z<|Zn<|?_
   refine qaa ⟨(j+1),[],kp,Z,⟨(I43.1.t h45|>.t h46),⟨by omega,by rw [hSr,qri hrj,if_pos hzr]⟩⟩,O⟩
  have hbn:qfH p x (qcn x.body 0)=0:=by rw [← qnE hi5,hSr,List.drop_eq_nil_of_le O,bdR]
  refine Zl<|Zv<|Zv<|Zd<|Zb<|Zt<|Zr<|Zqm Z Z<|qaG Z Z Z (w64 O O)<|Zqa Z Z<|Zn<|?_
  refine qaa ⟨(k+1),[],kp,Z,⟨(I40.1.t h42|>.t I43.1),⟨by omega,by rw [hSb,qhQ hx,if_pos hbn];rfl⟩⟩,O⟩
 rw [List.drop_eq_nil_of_le O,qiS] at hSb
 have hE:qbM p=qd2 p:=by rw [qbM,if_neg g14,if_neg g20,hSb,hz0]
 refine Zl<|Zv<|Zv<|Zd<|Zt<|Sr<|qaf (qan 0 [_,_] Z Z Z Z Z) Z<|Wt 1 [_,_] Y9<|Nt<|Zo<|?_
 refine rR (_::_::_::Mo) L (.agg (us:=[_,_]) 1 Z Z Z Z Z (.nil)) Z (h1.t h2|>.t h3|>.t h4|>.t I6.1|>.t I13.1|>.t h35|>.t I40.1) fun _ hS2=>?_
 exact ⟨by rw [hE];rfl,rfl⟩
open Go.Proofs.Tryz
theorem qgv(d:Nat)(s:World):Exs d s none 0 0 []:=⟨rfl,Nat.le_refl _,by omega,fun i x h=>by cases h⟩
theorem qhr(d:Nat)(s:World):Stms d s none 0 0 []:=⟨rfl,Nat.le_refl _,by omega,fun i x h=>by cases h⟩
theorem qfP(s:World):Strs s none 0 0 []:=⟨rfl,Nat.le_refl _,by omega,fun i x h=>by cases h⟩
theorem qsH(s:World):Wds s none 0 0 []:=⟨rfl,Nat.le_refl _,by omega,fun i x h=>by cases h⟩
def qwl:Ex:=.mk 5 0 0 [] []
def nX:Ex:=.mk 2 0 0 [110] []
def mulX:Ex:=.mk 7 4 0 [] [nX,.mk 1 0 2 [] []]
def qwW:Ex:=.mk 7 10 0 [] [qwl,mulX]
def qvi:Ex:=.mk 7 10 0 [] [qwl,.mk 1 0 6 [] []]
def smallQ:Prg:=⟨smallP.globals,smallP.funcs++[⟨[102],[],[],[]⟩]⟩
def smallM:Fnc:=⟨qbw,[],[],[.mk 7 [] [qwW] [] []]⟩
theorem qfI{d:Nat}{s:World}{k o n:Int}{nm:Str}{A:Option Addr}{m c:Nat}{l:List Ex}(h:Exs d s A m c l)(hn:U32 n)(hl:nm.length≤1000):([.int .i64 k,.int .i64 o,.int .u32 n,St nm,.slice A m c]:List Value).length=5∧ExR (d+1) s (.mk k o n nm l) [.int .i64 k,.int .i64 o,.int .u32 n,St nm,.slice A m c]:=⟨rfl,A,m,c,rfl,h,hn,show nm.length≤9223372036854775807 by omega⟩
theorem qnN{s:World}{b1 b2 b3 b4 b5 b6:Nat}(h1:CellsAt s b1 0 [.int .i64 2,.int .i64 0,.int .u32 0,St [110],.slice none 0 0,.int .i64 1,.int .i64 0,.int .u32 2,St [],.slice none 0 0])
  (h2:CellsAt s b2 0 [.int .i64 5,.int .i64 0,.int .u32 0,St [],.slice none 0 0,.int .i64 7,.int .i64 4,.int .u32 0,St [],.slice (some ⟨b1,0,none⟩) 2 2])
  (h3:CellsAt s b3 0 [.int .i64 1,St [110],.int .u32 3,.slice none 0 0]) (h4:CellsAt s b4 0 [.int .i64 7,.int .i64 10,.int .u32 0,St [],.slice (some ⟨b2,0,none⟩) 2 2])
  (h5:CellsAt s b5 0 [.int .i64 7,St [],.slice (some ⟨b4,0,none⟩) 1 1,.slice none 0 0,.slice none 0 0]) (h6:CellsAt s b6 0 [St qbw,.slice none 0 0,.slice none 0 0,.slice (some ⟨b5,0,none⟩) 1 1]) :
  Glos s (some ⟨b3,0,none⟩) 1 1 smallP.globals∧Fncs 5 s (some ⟨b6,0,none⟩) 1 1 smallP.funcs:=by
 have z:U32 0:=⟨by decide,by decide⟩
 have e1:Exs 2 s (some ⟨b1,0,none⟩) 2 2 [nX,.mk 1 0 2 [] []]:=Sl.lit [[_,_,_,_,_],[_,_,_,_,_]] h1 rfl (.cons (qfI (qgv 1 s) z Dc) (.cons (qfI (qgv 1 s) ⟨by decide,by decide⟩ Dc) .nil)) 2 rfl O
 have e2:Exs 3 s (some ⟨b2,0,none⟩) 2 2 [qwl,mulX]:=Sl.lit [[_,_,_,_,_],[_,_,_,_,_]] h2 rfl (.cons (qfI (qgv 2 s) z Dc) (.cons (qfI e1 z Dc) .nil)) 2 rfl O
 have e3:Exs 4 s (some ⟨b4,0,none⟩) 1 1 [qwW]:=Sl.lit [[_,_,_,_,_]] h4 rfl (.cons (qfI e2 z Dc) .nil) 1 rfl O
 have e4:Stms 5 s (some ⟨b5,0,none⟩) 1 1 [.mk 7 [] [qwW] [] []]:=Sl.lit [[_,_,_,_,_]] h5 rfl (.cons ⟨rfl,_,_,_,_,_,_,_,_,_,rfl,e3,qhr 4 s,qhr 4 s,by decide⟩ .nil) 1 rfl O
 exact ⟨Sl.lit [[_,_,_,_]] h3 rfl (.cons ⟨rfl,_,_,_,rfl,qsH s,⟨by decide,by decide⟩,by decide⟩ .nil) 1 rfl O,
  Sl.lit [[_,_,_,_]] h6 rfl (.cons ⟨rfl,_,_,_,_,_,_,_,_,_,rfl,qfP s,qfP s,e4,by decide⟩ .nil) 1 rfl O⟩
theorem qtr{s:World}{b1 b2:Nat}(h1:CellsAt s b1 0 [.int .i64 5,.int .i64 0,.int .u32 0,St [],.slice none 0 0,.int .i64 1,.int .i64 0,.int .u32 6,St [],.slice none 0 0])(h2:CellsAt s b2 0 [.int .i64 7,.int .i64 10,.int .u32 0,St [],.slice (some ⟨b1,0,none⟩) 2 2]):Exs 3 s (some ⟨b2,0,none⟩) 1 1 [qvi]:=by
 have e1:Exs 2 s (some ⟨b1,0,none⟩) 2 2 [qwl,.mk 1 0 6 [] []]:=Sl.lit [[_,_,_,_,_],[_,_,_,_,_]] h1 rfl (.cons (qfI (qgv 1 s) ⟨by decide,by decide⟩ Dc) (.cons (qfI (qgv 1 s) ⟨by decide,by decide⟩ Dc) .nil)) 2 rfl O
 exact Sl.lit [[_,_,_,_,_]] h2 rfl (.cons (qfI e1 ⟨by decide,by decide⟩ Dc) .nil) 1 rfl O
theorem qne{s:World}{g c:Nat}{A1 A2 A3:Option Addr}{n1 c1 n2 c2 n3 c3:Nat}(h:CellsAt s g 0 [St qbw,.slice A1 n1 c1,.slice A2 n2 c2,.slice A3 n3 c3,St [102],.slice none 0 0,.slice none 0 0,.slice none 0 0])(h1:Strs s A1 n1 c1 [])(h2:Strs s A2 n2 c2 [])(h3:Stms 5 s A3 n3 c3 smallM.body)(hc:2≤c)(hc2:c≤9223372036854775807):Fncs 5 s (some ⟨g,0,none⟩) 2 c smallQ.funcs:=by
 have:=(Sl.lit (sz:=4) (R:=FnR 5) (l:=smallQ.funcs) [[_,_,_,_],[_,_,_,_]] h rfl (.cons ⟨rfl,_,_,_,_,_,_,_,_,_,rfl,h1,h2,h3,by decide⟩ (.cons ⟨rfl,_,_,_,_,_,_,_,_,_,rfl,qfP s,qfP s,qhr 5 s,by decide⟩ .nil)) 2 rfl O)
 exact ⟨this.1,hc,hc2,this.2.2.2⟩
theorem qwo:qbM smallP=(0,0):=by decide +kernel
theorem quB:qbM smallQ=(0,0):=by decide +kernel
theorem qxp:qiT smallP 0 [110]=((3,0),(0,0)):=by decide +kernel
theorem sm_C:qhe smallP=[smallM]:=if_neg (by rw [qwo];decide)
theorem qxx:msP smallP smallM 4=[]:=by
 refine List.eq_nil_iff_forall_not_mem.2 fun i hi=>?_
 obtain ⟨nd,h1,h2⟩:=((qcw smallP smallM 4).2 i).1 hi
 have:∀ nd∈qcn smallM.body 0,mnI smallP smallM 4 nd=[]:=by decide +kernel
 rw [this nd h1] at h2;cases h2
theorem sm_F:(qfp smallP).2=(0,0):=by decide +kernel
theorem qxh:(qfp smallP).1.funcs=[⟨qbw,[],[],[.mk 7 [] [qvi] [] []]⟩]:=by kernel_rfl
theorem sm_O:(qfk 11 2).1=0∧(qfk 11 2).2=0∧opP 11 1 2=4294967295:=by decide +kernel
theorem sm_Z:(qfk 6 0).1=26∧(qfk 6 0).2=-3:=by decide +kernel
theorem sm_T{q:Prg}(h:qh8 smallQ q):q=smallP:=by
 rcases h with ⟨h1,_⟩ | ⟨_,F,G,⟨hF,hG,mi,hm,hmi,hj,hg⟩,rfl⟩
 · rw [quB] at h1;exact absurd rfl h1
 have h0:qcu smallQ.funcs=0:=by decide +kernel
 obtain rfl:0=mi:=by omega
 obtain ⟨a,b,rfl⟩:∃ a b,F=[a,b]:=by match F,hF with | [a,b],_=>exact ⟨a,b,rfl⟩
 obtain ⟨c,rfl⟩:∃ c,G=[c]:=by match G,hG with | [c],_=>exact ⟨c,rfl⟩
 have ha:a=true:=by simpa using (hj 0).2 (.refl 0)
 have hb:b=false:=by
  cases hb:b with
  | false=>rfl
  | true=>
   have:=(hj 1).1 (by rw [hb];rfl)
   cases this with
   | step hc _=>
    obtain ⟨x,hx,hk⟩:=hc
    obtain ⟨nd,h1,h2⟩:=((qcw smallQ x 4).2 _).1 hk
    obtain rfl:smallM=x:=Option.some.inj hx
    have:∀ nd∈qcn smallM.body 0,mnI smallQ smallM 4 nd=[]:=by decide +kernel
    rw [this nd h1] at h2;cases h2
 have hc:c=true:=by
  have:∃ nd∈qcn smallM.body 0,(0:Int)∈mnI smallQ smallM 3 nd:=by decide +kernel
  simpa using (hg 0).2 ⟨0,by rw [ha];rfl,smallM,rfl,((qcw smallQ smallM 3).2 _).2 this⟩
 subst ha hb hc
 rfl
theorem qtZ{s:World}{A:Option Addr}{n c:Nat}(h:Fncs 5 s A n c [⟨qbw,[],[],[.mk 7 [] [qvi] [] []]⟩]):n=1∧∃ b off A1 n1 c1 A2 n2 c2 b2 o2 c3,A=some ⟨b,off,none⟩∧CellsAt s b (off+0 * 4) [St qbw,.slice A1 n1 c1,.slice A2 n2 c2,.slice (some ⟨b2,o2,none⟩) 1 c3] ∧
  ∃ A4 n4 c4 A5 n5 c5 A6 n6 c6,CellsAt s b2 (o2+0 * 5) [.int .i64 7,St [],.slice A4 n4 c4,.slice A5 n5 c5,.slice A6 n6 c6]∧Exs 4 s A4 n4 c4 [qvi]:=by
 have hn:n=1:=h.1
 subst hn
 obtain ⟨b,off,x,A1,n1,c1,A2,n2,c2,A3,n3,c3,rfl,hx,hc,_,_,hB,_⟩:=Fncs.at_ h (show 0 < 1 by decide)
 obtain rfl:=Option.some.inj hx
 have hn3:n3=1:=hB.1
 subst hn3
 obtain ⟨e,b2,o2,y,A4,n4,c4,A5,n5,c5,A6,n6,c6,he,rfl,hy,hc2,hE,_,_,_⟩:=Stms.at_ hB (show 0 < 1 by decide)
 obtain rfl:=Option.some.inj hy
 obtain rfl:4=e:=by omega
 exact ⟨rfl,b,off,A1,n1,c1,A2,n2,c2,b2,o2,c3,rfl,hc,A4,n4,c4,A5,n5,c5,A6,n6,c6,hc2,hE⟩
theorem qnf(D:Nat)(L:Hl)(s:World)(n:Int):AC prog D 35 [.int .u32 n] L s fun v L' _=>v=.agg #[.int .i64 1,.int .i64 0,.int .u32 n,St [],.slice none 0 0]∧L=L':=by
 refine qai (fn:=f35) qaq func35 V Z ntmps35 Z (rs:=[.cell 2 89]) Z [(0,_)] Z<|Sr<|qae Z [_,_,_,_,_] Z Z ?_
 intro β1 s1 h1
 refine Nt<|Sr<|Zqm Z Z<|qaf (qam [(_,_),(_,_)] [_,_,_,_,_] Z Z Z Z Z Z) Z<|Wt 0 [_,_,_,_,_] Y9<|Nt<|Zo<|?_
 refine rR [_] L (.agg (us:=[_,_,_,_,_]) 0 Z Z Z Z Z (.nil)) Z h1 fun _ hS2=>?_
 exact ⟨rfl,rfl⟩
theorem qlM(D:Nat)(L:Hl)(s:World):AC prog D 19 [] L s fun v L' s'=>∃ M',L'=M'++L∧∀ s2,Le D s' s2→Pub M' s2→∃ bg bf,v=.agg #[.slice (some ⟨bg,0,none⟩) 1 1,.slice (some ⟨bf,0,none⟩) 1 1]∧Glos s2 (some ⟨bg,0,none⟩) 1 1 smallP.globals∧Fncs 5 s2 (some ⟨bf,0,none⟩) 1 1 smallP.funcs:=by
 refine qai (fn:=f19) qaq func19 V Z ntmps19 Z (rs:=[.cell 0 25]) Z [] Z<|Sr<|qae Z [_,_] Z Z ?_
 intro β1 s1 h1
 refine Nt<|Sr<|qaf (qam [(_,_),(_,_)] [_,_,_,_,_] Z Z Z Z Z Z) Z<|Jc Z Z Z (qnf D _ _ 2) ?_
 rintro _ _ s2 h2 ⟨rfl,rfl⟩
 refine qbt [(_,_),(_,_)] [_,_,_,_,_,_,_,_,_,_] Z Z Z Z Z Z Z Z Z ?_
 intro βa s3 h3 hca
 refine qaf (qam [(_,_),(_,_),(_,_)] [_,_,_,_,_] Z Z Z Z Z Z) Z<|qae Z [_,_,_,_,_] Z Z ?_
 intro β4 s4 h4
 refine Wt 0 [_,_,_,_,_] Y9<|Nt<|Sr<|qaf (qam [(_,_)] [_,_,_,_,_] Z Z Z Z Z Z) Z<|qaf (qan 0 [_,_,_,_,_] Z Z Z Z Z) Z<|qbt [(_,_),(_,_)] [_,_,_,_,_,_,_,_,_,_] Z Z Z Z Z Z Z Z Z ?_
 intro βb s5 h5 hcb
 refine qaf (qam [(_,_),(_,_),(_,_)] [_,_,_,_,_] Z Z Z Z Z Z) Z<|qae Z [_,_,_,_,_] Z Z ?_
 intro β6 s6 h6
 refine Wt 0 [_,_,_,_,_] Y9<|Nt<|Sr<|qaf (qam [(_,_),(_,_),(_,_)] [_,_,_,_] Z Z Z Z Z Z) Z<|qbt [(_,_)] [_,_,_,_] Z Z Z Z Z Z Z Z Z ?_
 intro βc s7 h7 hcc
 refine qaf (qan 0 [_,_,_,_,_] Z Z Z Z Z) Z<|qbt [(_,_)] [_,_,_,_,_] Z Z Z Z Z Z Z Z Z ?_
 intro βd s8 h8 hcd
 refine qaf (qam [(_,_),(_,_)] [_,_,_,_,_] Z Z Z Z Z Z) Z<|qbt [(_,_)] [_,_,_,_,_] Z Z Z Z Z Z Z Z Z ?_
 intro βe s9 h9 hce
 refine qaf (qam [(_,_),(_,_)] [_,_,_,_] Z Z Z Z Z Z) Z<|qbt [(_,_)] [_,_,_,_] Z Z Z Z Z Z Z Z Z ?_
 intro βf s10 h10 hcf
 refine qaf (qam [(_,_),(_,_)] [_,_] Z Z Z Z Z Z) Z<|Wt 2 [_,_] Y9<|Nt<|Zo<|?_
 refine rR [_,_,_] _ (.agg (us:=[_,_]) 2 Z Z Z Z Z (.nil)) Z (h1.t h2|>.t h3|>.t h4|>.t h5|>.t h6|>.t h7|>.t h8|>.t h9|>.t h10) fun _ hS2=>?_
 exact ⟨[],rfl,fun s2 hs2 hp=>⟨_,_,rfl,qnN (hca.le (h4.t h5|>.t h6|>.t h7|>.t h8|>.t h9|>.t h10|>.t (hS2.t hs2))) (hcb.le (h6.t h7|>.t h8|>.t h9|>.t h10|>.t (hS2.t hs2))) (hcc.le (h8.t h9|>.t h10|>.t (hS2.t hs2))) (hcd.le (h9.t h10|>.t (hS2.t hs2))) (hce.le (h10.t (hS2.t hs2))) (hcf.le ((Lr D).t (hS2.t hs2)))⟩⟩
theorem qct(D:Nat)(L:Hl)(s:World):AC prog D 19 [] L s fun v L' s'=>L=L'∧∃ bg bf,v=.agg #[.slice (some ⟨bg,0,none⟩) 1 1,.slice (some ⟨bf,0,none⟩) 1 1]∧Glos s' (some ⟨bg,0,none⟩) 1 1 smallP.globals∧Fncs 5 s' (some ⟨bf,0,none⟩) 1 1 smallP.funcs:=AC.pubW (qlM D L s)
theorem qiy(D:Nat)(L:Hl)(s:World)(A:Option Addr)(n c:Nat)(l:List UInt8)(hA:Bts s A n c l)(A1:Option Addr)(n1 c1:Nat)(l1:List UInt8)(hB:Bts s A1 n1 c1 l1):AC prog D 18 [.slice A n c,.slice A1 n1 c1] L s fun v L' _=>v=.bool (decide (l=l1))∧L=L':=by
 refine qai (fn:=f18) qaq func18 V Z ntmps18 Z (rs:=[.tmp 4]) Z [(0,_),(1,_)] Z<|Sr<|At Z Z<|Sr<|Zqm Z Z<|qaf (qjR Z Z Z Z Z Z Z (hA.le (Lr D))) Z<|Zqm Z Z<|qaf (qjR Z Z Z Z Z Z Z (hB.le (Lr D))) Z<|qll Z Z Z<|At Z Z<|Zo<|?_
 refine rR [] L (.t1 Z) Z (Lr D) fun _ hS2=>?_
 exact ⟨rfl,rfl⟩
theorem qgM(D:Nat)(L:Hl)(s:World)(A:Option Addr)(n c:Nat)(l:List UInt8)(hA:Bts s A n c l)(A1:Option Addr)(n1 c1:Nat)(l1:List UInt8)(hB:Bts s A1 n1 c1 l1)(p q r p1 q1 r1:Int):AC prog D 13 [.agg #[.slice A n c,.int .i64 p,.int .u32 q,.int .i64 r],.agg #[.slice A1 n1 c1,.int .i64 p1,.int .u32 q1,.int .i64 r1]] L s fun v L' _=>v=.bool (decide (l=l1∧p=p1∧q=q1∧r=r1))∧L=L':=by
 refine qai (fn:=f13) qaq func13 V Z ntmps13 Z (rs:=[.tmp 4]) Z [(0,_),(1,_)] Z<|Sr<|qau Z Z ?_
 intro β1 s1 h1
 refine qau Z Z ?_
 intro β2 s2 h2
 refine At Z Z<|Sr<|W0 Y5<|Wl 1 Y6<|W0 Y5<|Wl 0 Y6<|Jc Z Z Z (qiy D _ _ _ _ _ _ (hA.le (h1.t h2)) _ _ _ _ (hB.le (h1.t h2))) ?_
 rintro _ _ s3 h3 ⟨rfl,rfl⟩
 refine Zqm Z Z ?_
 refine qak (t:=10) Z (fun c4=>?_) (fun c4=>?_)
 ·
  refine Zg Z Z<|Wb Y5<|Zg Z Z<|Wl 1 Y6<|Zg Z Z<|Wb Y5<|Zg Z Z<|Wl 0 Y6<|Zg Z Z<|qax Z Z Z<|ZqT Z Z Z<|Zqm Z Z<|?_
  refine qak (t:=17) Z (fun c5=>?_) (fun c5=>?_)
  ·
   refine Zg Z Z<|Wb Y5<|Zg Z Z<|Wl 1 Y6<|Zg Z Z<|Wb Y5<|Zg Z Z<|Wl 0 Y6<|Zg Z Z<|qax Z Z Z<|ZqT Z Z Z<|Zqm Z Z<|?_
   refine qak (t:=24) Z (fun c6=>?_) (fun c6=>?_)
   ·
    refine Zg Z Z<|Wb Y5<|Zg Z Z<|Wl 1 Y6<|Zg Z Z<|Wb Y5<|Zg Z Z<|Wl 0 Y6<|Zg Z Z<|qax Z Z Z<|ZqT Z Z Z<|At Z Z<|Zo<|?_
    refine rR [_,_] L (.t1 Z) Z (h1.t h2|>.t h3) fun _ hS2=>?_
    exact ⟨by simp_all [qaA],rfl⟩
   refine Wf Y4<|Wf Y4<|Wf Y4<|Wf Y4<|Wf Y4<|ZqF Z Z Z<|At Z Z<|Zo<|?_
   refine rR [_,_] L (.t1 Z) Z (h1.t h2|>.t h3) fun _ hS2=>?_
   exact ⟨by simp_all [qaA],rfl⟩
  refine Wf Y4<|Wf Y4<|Wf Y4<|Wf Y4<|Wf Y4<|ZqF Z Z Z<|Zqm Z Z<|Wf Y4<|Wf Y4<|Wf Y4<|Wf Y4<|Wf Y4<|ZqF Z Z Z<|At Z Z<|Zo<|?_
  refine rR [_,_] L (.t1 Z) Z (h1.t h2|>.t h3) fun _ hS2=>?_
  exact ⟨by simp_all [qaA],rfl⟩
 refine Wf Y4<|Wf Y4<|Wf Y4<|Wf Y4<|Wf Y4<|ZqF Z Z Z<|Zqm Z Z<|Wf Y4<|Wf Y4<|Wf Y4<|Wf Y4<|Wf Y4<|ZqF Z Z Z<|Zqm Z Z<|Wf Y4<|Wf Y4<|Wf Y4<|Wf Y4<|Wf Y4<|ZqF Z Z Z<|At Z Z<|Zo<|?_
 refine rR [_,_] L (.t1 Z) Z (h1.t h2|>.t h3) fun _ hS2=>?_
 exact ⟨by simp_all [qaA],rfl⟩
theorem qiY{s:World}{b:Nat}{x:Int}{c:UInt8}(h:CellsAt s b 0 [.int .u8 x])(hx:x=(c.toNat:Int)):Bts s (some ⟨b,0,none⟩) 1 1 [c]:=by
 subst hx
 exact ⟨rfl,Nat.le_refl _,by omega,fun i x hi=>by
  cases i with
  | zero=>simp at hi;subst hi;exact ⟨b,0,_,rfl,h,rfl,rfl⟩
  | succ i=>cases hi⟩
theorem soT(D:Nat)(L:Hl)(s:World)(A:Option Addr)(n c:Nat)(l:List UInt8)(hA:Bts s A n c l)(A1:Option Addr)(n1 c1:Nat)(l1:List UInt8)(hB:Bts s A1 n1 c1 l1)(p q r p1 q1 r1:Int)(h:l=l1∧p=p1∧q=q1∧r=r1):AC prog D 13 [.agg #[.slice A n c,.int .i64 p,.int .u32 q,.int .i64 r],.agg #[.slice A1 n1 c1,.int .i64 p1,.int .u32 q1,.int .i64 r1]] L s fun v L' _=>v=.bool true∧L=L':=
 (qgM D L s A n c l hA A1 n1 c1 l1 hB p q r p1 q1 r1).mono fun v L' s' _ hv=>⟨hv.1.trans (by rw [decide_eq_true h]),hv.2⟩
theorem qj7(D:Nat)(L:Hl)(s:World)(hG:GP s)(d:Nat)(p:Prg)(Ag Af:Option Addr)(ng cg nf cf:Nat)(hGl:Glos s Ag ng cg p.globals)(hFn:Fncs d s Af nf cf p.funcs)(Ai:Option Addr)(ni qi:Nat)(inp:Str)(hI:Bts s Ai ni qi inp)(steps:Int):AC prog D 9 [.agg #[.slice Ag ng cg,.slice Af nf cf],.slice Ai ni qi,.int .i64 steps] L s fun v L' s'=>L=L'∧∃ w,v=.tuple #[w,.agg #[.int .i64 (qfh p inp steps).2.1,.int .i64 (qfh p inp steps).2.2]]∧OutV s' (qfh p inp steps).1 w:=AC.pubW (qsq D L s hG d p Ag Af ng cg nf cf hGl hFn Ai ni qi inp hI steps)
theorem qw0(n:Nat):qrg 6 (qtN smallP OPp (n+20+1) 0 [65] 6)=([71],1,0,6):=by kernel_rfl
theorem qwv(n:Nat):qrg 5 (qtN smallP OPp (n+20+1) 0 [65] 5)=([],0,0,5):=by kernel_rfl
theorem quU:(qcu smallP.funcs).toNat=0:=by decide +kernel
theorem quM:¬ (qbM smallP).1≠0:=by rw [qwo];decide
theorem qvQ:qfh smallP [65] 6=(([71],1,0,6),(0,0)):=by
 rw [show (6:Int)=((6:Nat):Int) from rfl,qf0 quM Dc Dc,qmg,quU,qnH,qw0]
theorem qvc:qfh smallP [65] 5=(([],0,0,5),(0,0)):=by
 rw [show (5:Int)=((5:Nat):Int) from rfl,qf0 quM Dc Dc,qmg,quU,qnH,qwv]
theorem qqc(D:Nat)(L:Hl)(s:World)(hG:GP s):AC Tryz.prog D 7 [] L s fun v L' _=>v=.bool true∧L=L':=by
 refine qai (fn:=Tryz.f7) qaq Tryz.func7 V Z Tryz.ntmps7 Z (rs:=[.tmp 0]) Z [] Z<|Sr<|At Z Z<|Sr<|Jc Z Z Z (qct D _ _) ?_
 rintro _ _ s1 h1 ⟨rfl,bg1,bf1,rfl,hg1,hf1⟩
 refine qbt [(_,_)] [_] Z Z Z Z Z Z Z Z Z ?_
 intro βu s2 h2 hcu
 refine Jc Z Z Z (qj7 D _ _ (hG.le (h1.t h2)) 5 smallP _ _ _ _ _ _ (hg1.le h2) (hf1.le h2) _ _ _ [65] (qiY (c:=65) (hcu.le (Lr D)) Z) 6) ?_
 rintro _ _ s3 h3 ⟨rfl,_,rfl,Ao,no,qo,rfl,hBo⟩
 
 refine Zqm Z Z<|Zqx Z Z Z<|Zqx Z Z Z<|qae Z [_,_,_,_] Z Z ?_
 intro β4 s4 h4
 refine qae Z [_,_] Z Z ?_
 intro β5 s5 h5
 refine Wt 1 [_,_,_,_] Y9<|Wt 0 [_,_] Y9<|Nt<|Sr<|Jc Z Z Z (qct D _ _) ?_
 rintro _ _ s6 h6 ⟨rfl,bg2,bf2,rfl,hg2,hf2⟩
 refine qbt [(_,_)] [_] Z Z Z Z Z Z Z Z Z ?_
 intro βv s7 h7 hcv
 refine Jc Z Z Z (qj7 D _ _ (hG.le (h1.t h2|>.t h3|>.t h4|>.t h5|>.t h6|>.t h7)) 5 smallP _ _ _ _ _ _ (hg2.le h7) (hf2.le h7) _ _ _ [65] (qiY (c:=65) (hcv.le (Lr D)) Z) 5) ?_
 rintro _ _ s8 h8 ⟨rfl,_,rfl,Ap,np,qp,rfl,hBp⟩
 
 refine Zqm Z Z<|Zqx Z Z Z<|Zqx Z Z Z<|qae Z [_,_,_,_] Z Z ?_
 intro β9 s9 h9
 refine qae Z [_,_] Z Z ?_
 intro β10 s10 h10
 refine Wt 1 [_,_,_,_] Y9<|Wt 0 [_,_] Y9<|Nt<|Zs<|Sr<|W0 Y5<|Wl 2 Y6<|qaf (qaw (v':=.bool false) (qcB Z Z) (bF (by rw [qvQ]))) Z<|Zqm Z Z<|Zg Z Z<|W0 Y5<|Zg Z Z<|Wl 0 Y6<|Zg Z Z<|qaf (qaw (v':=.bool false) (qcB Z Z) (bF (by rw [qvc]))) Z<|ZqF Z Z Z<|Nt<|Zz Z<|Zk<|Zt<|Sr<|qaf (qan 3 [_,_,_,_] Z Z Z Z Z) Z<|qbt [(_,_)] [_] Z Z Z Z Z Z Z Z Z ?_
 intro βw s11 h11 hcw
 refine qaf (qam [(_,_),(_,_),(_,_)] [_,_,_,_] Z Z Z Z Z Z) Z<|Jc Z Z Z (soT D _ _ _ _ _ _ (hBo.le (h4.t h5|>.t h6|>.t h7|>.t h8|>.t h9|>.t h10|>.t h11)) _ _ _ [71] (qiY (c:=71) (hcw.le (Lr D)) Z) _ _ _ _ _ _ (by rw [qvQ];exact ⟨Z,Z,Z,Z⟩)) ?_
 rintro _ _ s12 h12 ⟨rfl,rfl⟩
 refine Zqm Z Z<|Zg Z Z<|qaf (qan 1 [_,_,_,_] Z Z Z Z Z) Z<|Zg Z Z<|qaf (qam [(_,_)] [_,_,_,_] Z Z Z Z Z Z) Z<|Zg Z Z<|Jc Z Z Z (soT D _ _ _ _ _ _ (hBp.le (h9.t h10|>.t h11|>.t h12)) _ _ _ [] (Bts.nil _ _ _ O) _ _ _ _ _ _ (by rw [qvc];exact ⟨Z,Z,Z,Z⟩)) ?_
 rintro _ _ s13 h13 ⟨rfl,rfl⟩
 refine ZqT Z Z Z<|At Z Z<|Zo<|?_
 refine rR [_,_,_,_] L (.t1 Z) Z (h1.t h2|>.t h3|>.t h4|>.t h5|>.t h6|>.t h7|>.t h8|>.t h9|>.t h10|>.t h11|>.t h12|>.t h13) fun _ hS2=>?_
 exact ⟨rfl,rfl⟩
theorem qkK(D:Nat)(L:Hl)(s:World)(hG:GP s):AC Tryz.prog D 15 [] L s fun v L' _=>v=.bool true∧L=L':=by
 refine qai (fn:=Tryz.f15) qaq Tryz.func15 V Z Tryz.ntmps15 Z (rs:=[.tmp 0]) Z [] Z<|Sr<|At Z Z<|Sr<|Jc Z Z Z (qct D _ _) ?_
 rintro _ _ s1 h1 ⟨rfl,bg1,bf1,rfl,hg1,hf1⟩
 refine Jc Z Z Z (qkI D _ _ (hG.le h1) 5 smallP _ _ _ _ _ _ (hg1.le (Lr D)) (hf1.le (Lr D)) 0 [110]) ?_
 rintro _ _ s2 h2 ⟨rfl,rfl⟩
 refine Zqm Z Z<|Zqx Z Z Z<|Zqx Z Z Z<|qae Z [_,_] Z Z ?_
 intro β3 s3 h3
 refine qae Z [_,_] Z Z ?_
 intro β4 s4 h4
 refine Wt 1 [_,_] Y9<|Wt 0 [_,_] Y9<|Nt<|Sr<|Jc Z Z Z (qct D _ _) ?_
 rintro _ _ s5 h5 ⟨rfl,bg2,bf2,rfl,hg2,hf2⟩
 refine Jc Z Z Z (qkj D _ _ (hG.le (h1.t h2|>.t h3|>.t h4|>.t h5)) 5 smallP _ _ _ _ _ _ (hg2.le (Lr D)) (hf2.le (Lr D))) ?_
 rintro _ _ s6 h6 ⟨rfl,Ac,nc,cc,rfl,hCl⟩
 rw [sm_C] at hCl
 have hnc:nc=1:=hCl.1
 subst hnc
 obtain ⟨bq,oq,xq,Aq,nq,cq,rfl,hxq,hcq,hIq⟩:=ClsR.at_ hCl (show 0 < 1 by decide)
 obtain rfl:=Option.some.inj hxq
 rw [qxx] at hIq
 have hnq:nq=0:=hIq.1
 subst hnq
 refine Zqm Z Z<|Zqx Z Z Z<|Zqx Z Z Z<|qae Z [_,_] Z Z ?_
 intro β7 s7 h7
 refine Zqa Z Z<|Wt 0 [_,_] Y9<|Nt<|Sr<|Jc Z Z Z (qct D _ _) ?_
 rintro _ _ s8 h8 ⟨rfl,bg3,bf3,rfl,hg3,hf3⟩
 refine qaf (qen Z Z Z Z Z Z Z Z Z) Z<|Jc Z Z Z (qct D _ _) ?_
 rintro _ _ s9 h9 ⟨rfl,bg4,bf4,rfl,hg4,hf4⟩
 obtain ⟨b4,off4,x4,B1,m1,d1,B2,m2,d2,B3,m3,d3,hA4,hx4,hc4,hp4,hl4,hb4,_⟩:=Fncs.at_ hf4 (show 0 < 1 by decide)
 cases hA4
 obtain rfl:=Option.some.inj hx4
 refine qaf (qen Z Z Z Z Z Z Z Z Z) Z<|qaf (qam [(_,_)] [_,_,_,_] Z Z Z Z Z Z) Z<|qbt [(_,_)] [_,_,_,_] Z Z Z Z Z Z Z Z Z ?_
 intro βs s10 h10 hcs
 refine qtL (sz:=4) Z Z Z Z Z Z (hc4.le h10) Z (Row.of_cells (hcs.le (Lr D)) Z Z) Dc ⟨by decide +kernel,by decide⟩ Z ?_
 intro βv cv s11 h11 hcv hv1 hv2
 refine qaf (qam [(_,_),(_,_)] [_,_] Z Z Z Z Z Z) Z<|Jc Z Z Z (qlG D _ _ (hG.le (h1.t h2|>.t h3|>.t h4|>.t h5|>.t h6|>.t h7|>.t h8|>.t h9|>.t h10|>.t h11)) 5 smallQ _ _ _ _ _ _ (hg3.le (h9.t h10|>.t h11)) (qne (hcv.le (Lr D)) (hp4.le (h10.t h11)) (hl4.le (h10.t h11)) (hb4.le (h10.t h11)) hv1 hv2)) ?_
 rintro _ _ s12 h12 ⟨rfl,qt,hTq,Dg,kg,jg,Df,kf,jf,rfl,hgt,hft⟩
 obtain rfl:=sm_T hTq
 refine Zqm Z Z<|Zqx Z Z Z<|Zqx Z Z Z<|qae Z [_,_] Z Z ?_
 intro β13 s13 h13
 refine qae Z [_,_] Z Z ?_
 intro β14 s14 h14
 refine Wt 1 [_,_] Y9<|Wt 0 [_,_] Y9<|Nt<|Sr<|Jc Z Z Z (qct D _ _) ?_
 rintro _ _ s15 h15 ⟨rfl,bg5,bf5,rfl,hg5,hf5⟩
 refine Jc Z Z Z (quk D _ _ (hG.le (h1.t h2|>.t h3|>.t h4|>.t h5|>.t h6|>.t h7|>.t h8|>.t h9|>.t h10|>.t h11|>.t h12|>.t h13|>.t h14|>.t h15)) 5 smallP _ _ _ _ _ _ (hg5.le (Lr D)) (hf5.le (Lr D))) ?_
 rintro _ _ s16 h16 ⟨rfl,Eg,ug,wg,Ef,uf,wf,rfl,hgo,hfo⟩
 rw [qxh] at hfo
 obtain ⟨rfl,bo,oo,C1,r1,e1,C2,r2,e2,bo2,oo2,e3,rfl,hco,C4,r4,e4,C5,r5,e5,C6,r6,e6,hco2,hxo⟩:=qtZ hfo
 refine Zqm Z Z<|Zqx Z Z Z<|Zqx Z Z Z<|qae Z [_,_] Z Z ?_
 intro β17 s17 h17
 refine qae Z [_,_] Z Z ?_
 intro β18 s18 h18
 refine Wt 1 [_,_] Y9<|Wt 0 [_,_] Y9<|Nt<|Sr<|Jc Z Z Z (qbx D _ _ 11 1 2 ⟨by decide,by decide⟩ ⟨by decide,by decide⟩) ?_
 rintro _ _ s19 h19 ⟨rfl,rfl⟩
 refine Zqm Z Z<|Zqx Z Z Z<|Zqx Z Z Z<|qae Z [_,_] Z Z ?_
 intro β20 s20 h20
 refine Zqa Z Z<|Wt 0 [_,_] Y9<|Nt<|Sr<|Jc Z Z Z (qbx D _ _ 6 1 0 ⟨by decide,by decide⟩ ⟨by decide,by decide⟩) ?_
 rintro _ _ s21 h21 ⟨rfl,rfl⟩
 refine Zqm Z Z<|Zqx Z Z Z<|Zqx Z Z Z<|qae Z [_,_] Z Z ?_
 intro β22 s22 h22
 refine Zqa Z Z<|Wt 0 [_,_] Y9<|Nt<|Zs<|Sr<|W0 Y5<|qaf (Wd 7 Y5) Z<|qaf (qaw (v':=.bool false) (qcB Z Z) (bF (by rw [qxp]))) Z<|Zqm Z Z<|Zg Z Z<|W0 Y5<|Zg Z Z<|qaf (Wd 6 Y5) Z<|Zg Z Z<|qaf (qaw (v':=.bool false) (qcB Z Z) (bF (by rw [qwo]))) Z<|ZqF Z Z Z<|Zqm Z Z<|Zg Z Z<|W0 Y5<|Zg Z Z<|Wl 4 Y6<|Zg Z Z<|qaf (qaw (v':=.bool false) (qcB Z Z) (bF (by rw [quB]))) Z ?_
 refine ZqF Z Z Z<|Zqm Z Z<|Zg Z Z<|W0 Y5<|Zg Z Z<|Wl 2 Y6<|Zg Z Z<|qaf (qaw (v':=.bool false) (qcB Z Z) (bF (by rw [sm_F]))) Z<|ZqF Z Z Z<|Zqm Z Z<|Zg Z Z<|W0 Y5<|Zg Z Z<|Wl 1 Y6<|Zg Z Z<|qaf (qaw (v':=.bool false) (qcB Z Z) (bF (by exact sm_O.1))) Z<|ZqF Z Z Z<|Zqm Z Z<|Zg Z Z<|Zqm Z Z<|Zg Z Z<|Ws Y4<|Zg Z Z<|qaf (qaw (v':=.bool false) (qcB Z Z) (bF (by rfl))) Z ?_
 refine ZqF Z Z Z<|Zqm Z Z<|Zg Z Z<|Wb Y5<|Zg Z Z<|Wl 3 Y6<|Zg Z Z<|Ws Y4<|Zg Z Z<|qaf (qaw (v':=.bool false) (qcB Z Z) (bF (by rfl))) Z<|ZqF Z Z Z<|Zqm Z Z<|Zg Z Z<|Wb Y5<|Zg Z Z<|Wl 3 Y6<|Zg Z Z<|qaf (qap (j:=0) Z Z Z Z Z Z Dc) Z<|Zg Z Z<|qaf (qbf Z Z Z Z) Z<|Zg Z Z<|qaf (qaC 3 Z Z Z (hco.le (h17.t h18|>.t h19|>.t h20|>.t h21|>.t h22)) Z) Z<|Zg Z Z<|Ws Y4<|Zg Z Z<|qaf (qaw (v':=.bool false) (qcB Z Z) (bF (by rfl))) Z ?_
 refine ZqF Z Z Z<|Nt<|Zz Z<|Zk<|Zt<|Sr<|qaf (qam [(_,_)] [_,_,_,_,_] Z Z Z Z Z Z) Z<|Jc Z Z Z (qnf D _ _ 6) ?_
 rintro _ _ s23 h23 ⟨rfl,rfl⟩
 refine qbt [(_,_),(_,_)] [_,_,_,_,_,_,_,_,_,_] Z Z Z Z Z Z Z Z Z ?_
 intro βg s24 h24 hcg
 refine qaf (qam [(_,_),(_,_),(_,_)] [_,_,_,_,_] Z Z Z Z Z Z) Z<|qae Z [_,_,_,_,_] Z Z ?_
 intro β25 s25 h25
 refine Wt 0 [_,_,_,_,_] Y9<|Nt<|Zs<|qay qag 44 Z _ (fun _ h=>h) ?_
 intro s26 h26
 refine qal 0 V<|Jb Z Tt Z Z Z (qct D _ _) ?_
 rintro _ _ s27 h27 ⟨rfl,bg6,bf6,rfl,hg6,hf6⟩
 refine ⟨fun _ _ h=>h,?_⟩
 refine qal 1 V<|Jb Z Tt Z Z Z (qdt D _ _ (hG.le (h1.t h2|>.t h3|>.t h4|>.t h5|>.t h6|>.t h7|>.t h8|>.t h9|>.t h10|>.t h11|>.t h12|>.t h13|>.t h14|>.t h15|>.t h16|>.t h17|>.t h18|>.t h19|>.t h20|>.t h21|>.t h22|>.t h23|>.t h24|>.t h25|>.t h26|>.t h27)) 5 smallP _ _ _ _ _ _ (hg6.le (Lr D)) (hf6.le (Lr D))) ?_
 rintro _ _ s28 h28 ⟨rfl,rfl⟩
 refine ⟨fun _ _ h=>h,?_⟩
 refine za 2 Z (qen Z Z Z Z Z Z Z Z Z) Z<|za 3 Z (qaw (v':=.bool true) (qgh Z Z) (bT (by rw [qwo]))) Z<|za 4 Z (qar Z) Z<|zg 5 Z ⟨_,Z,Z⟩ (qan 9 [_,_] Z Z Z Z Z) Z<|zg 6 Z ⟨_,Z,Z⟩ (qam [(_,_)] [_,_] Z Z Z Z Z Z) Z<|zg 7 Z ⟨_,Z,Z⟩ (qaw (v':=.bool true) (qf9 Z Z (qve _ _ _ _)) (bT ⟨by rw [qxp],by rw [qxp]⟩)) Z<|za 8 Z (qcs Z Z) Z<|za 9 Z (qar Z) Z<|zg 10 Z ⟨_,Z,Z⟩ (qar Z) Z<|zg 11 Z ⟨_,Z,Z⟩ (qap (j:=0) Z Z Z Z Z Z Dc) Z ?_
 refine zg 12 Z ⟨_,Z,Z⟩ (qaj Z Z Z (hcq.le (h7.t h8|>.t h9|>.t h10|>.t h11|>.t h12|>.t h13|>.t h14|>.t h15|>.t h16|>.t h17|>.t h18|>.t h19|>.t h20|>.t h21|>.t h22|>.t h23|>.t h24|>.t h25|>.t h26)) Z) Z<|zg 13 Z ⟨_,Z,Z⟩ (qbN Z Z Z) Z<|zg 14 Z ⟨_,Z,Z⟩ (qaw (v':=.bool true) (qgh Z Z) (bT (by rfl))) Z<|za 15 Z (qcs Z Z) Z<|za 16 Z (qar Z) Z<|zg 17 Z ⟨_,Z,Z⟩ (qan 6 [_,_] Z Z Z Z Z) Z<|qal 18 V<|Jb Z ⟨_,Z,Z⟩ Z Z Z (qct D _ _) ?_
 rintro _ _ s29 h29 ⟨rfl,bg7,bf7,rfl,hg7,hf7⟩
 refine ⟨fun _ _ h=>h,?_⟩
 refine qal 19 V<|Jb Z ⟨_,Z,Z⟩ Z Z Z (qnS D _ _ 5 smallP _ _ _ _ _ _ (hgt.le (h13.t h14|>.t h15|>.t h16|>.t h17|>.t h18|>.t h19|>.t h20|>.t h21|>.t h22|>.t h23|>.t h24|>.t h25|>.t h26|>.t h27|>.t h28|>.t h29)) (hft.le (h13.t h14|>.t h15|>.t h16|>.t h17|>.t h18|>.t h19|>.t h20|>.t h21|>.t h22|>.t h23|>.t h24|>.t h25|>.t h26|>.t h27|>.t h28|>.t h29)) 5 _ _ _ _ _ _ (hg7.le (Lr D)) (hf7.le (Lr D))) ?_
 rintro _ _ s30 h30 ⟨rfl,rfl⟩
 refine ⟨fun _ _ h=>h,?_⟩
 refine za 20 Z (qcs Z Z) Z<|za 21 Z (qar Z) Z<|zg 22 Z ⟨_,Z,Z⟩ (We Y4) Z<|zg 23 Z ⟨_,Z,Z⟩ (Wd 4 Y5) Z<|zg 24 Z ⟨_,Z,Z⟩ (qap (j:=0) Z Z Z Z Z Z Dc) Z<|zg 25 Z ⟨_,Z,Z⟩ (qbf Z Z Z Z) Z<|zg 26 Z ⟨_,Z,Z⟩ (qaC 3 Z Z Z (hco.le (h17.t h18|>.t h19|>.t h20|>.t h21|>.t h22|>.t h23|>.t h24|>.t h25|>.t h26)) Z) Z<|zg 27 Z ⟨_,Z,Z⟩ (qap (j:=0) Z Z Z Z Z Z Dc) Z<|zg 28 Z ⟨_,Z,Z⟩ (qbf Z Z Z Z) Z ?_
 refine zg 29 Z ⟨_,Z,Z⟩ (qaC 2 Z Z Z (hco2.le (h17.t h18|>.t h19|>.t h20|>.t h21|>.t h22|>.t h23|>.t h24|>.t h25|>.t h26)) Z) Z<|zg 30 Z ⟨_,Z,Z⟩ (qan 0 [_,_,_,_,_] Z Z Z Z Z) Z<|qal 31 V<|qjj Z ⟨_,Z,Z⟩ [(_,_)] [_,_,_,_,_] Z Z Z Z Z Z Z Z Z ?_
 intro βh s31 h31 hch
 refine qal 32 V<|Jb Z ⟨_,Z,Z⟩ Z Z Z (qhw D 4 _ _ 3 _ _ _ _ _ _ [qvi] (hxo.le (h17.t h18|>.t h19|>.t h20|>.t h21|>.t h22|>.t h23|>.t h24|>.t h25|>.t h26|>.t h27|>.t h28|>.t h29|>.t h30|>.t h31)) (qtr (hcg.le (h25.t h26|>.t h27|>.t h28|>.t h29|>.t h30|>.t h31)) (hch.le (Lr D)))) ?_
 rintro _ _ s32 h32 ⟨rfl,rfl⟩
 refine ⟨fun _ _ h=>h,?_⟩
 refine za 33 Z (qcs Z Z) Z<|za 34 Z (qar Z) Z<|zg 35 Z ⟨_,Z,Z⟩ (qar Z) Z<|zg 36 Z ⟨_,Z,Z⟩ (qaw (v':=.bool true) (qgh Z Z) (bT (by rw [if_pos sm_O.1];exact sm_O.2.2))) Z<|za 37 Z (qcs Z Z) Z<|za 38 Z (qar Z) Z<|zg 39 Z ⟨_,Z,Z⟩ (qan 1 [_,_] Z Z Z Z Z) Z<|qal 40 V<|Jb Z ⟨_,Z,Z⟩ Z Z Z (qdZ D _ _ _ _) ?_
 rintro _ _ s33 h33 ⟨rfl,rfl⟩
 refine ⟨fun _ _ h=>h,?_⟩
 refine zg 41 Z ⟨_,Z,Z⟩ (qaw (v':=.bool true) (qf9 Z Z (qbX _ _ _ _)) (bT sm_Z)) Z<|za 42 Z (qcs Z Z) Z<|za 43 Z (qaY Z) Z<|qad V<|Zt<|Zo<|?_
 refine rR [_,_,_,_,_,_,_,_,_,_] L (.t1 Z) Z (h1.t h2|>.t h3|>.t h4|>.t h5|>.t h6|>.t h7|>.t h8|>.t h9|>.t h10|>.t h11|>.t h12|>.t h13|>.t h14|>.t h15|>.t h16|>.t h17|>.t h18|>.t h19|>.t h20|>.t h21|>.t h22|>.t h23|>.t h24|>.t h25|>.t h26|>.t h27|>.t h28|>.t h29|>.t h30|>.t h31|>.t h32|>.t h33) fun _ hS2=>?_
 exact ⟨rfl,rfl⟩
theorem qqJ{p:Prg}{inp:Str}{a:Int}(h:(qbM p).1=0)(ha:0≤a∧a≤200000)(hi:inp.length≤2000):∃ x:Nat,a=(x:Int)∧x≤200000∧qfh p inp a=(qmg p inp x,(0,0)):=by
 obtain ⟨x,rfl⟩:=Int.eq_ofNat_of_zero_le ha.1
 exact ⟨x,rfl,by omega,qf0 (fun h1=>h1 h) O O⟩
theorem qnW{p q:Prg}{inp:Str}{a:Int}(hu:prU p)(h:(qbM p).1=0)(hT:qh8 p q)(ha:0≤a∧a≤200000)(hi:inp.length≤2000):(qfh p inp a).2.1=0∧(qfh q inp a).2.1=0∧(qfh p inp a).1=(qfh q inp a).1:=by
 obtain ⟨x,rfl,_,h1⟩:=qqJ h ha hi
 obtain ⟨y,h3,_,h2⟩:=qqJ (p:=q) (by rw [(qkO hu h hT).1]) ha hi
 obtain rfl:x=y:=by omega
 rw [h1,h2]
 refine ⟨Z,Z,?_⟩
 obtain ⟨mp,mq,e1,e2,e3⟩:=qol (OP:=OPp) hu h hT (fuX+1) inp x
 show qmg p inp x=qmg q inp x
 rw [qmg,qmg,e1,e2,Int.toNat_natCast,Int.toNat_natCast,e3]
theorem qhj(D:Nat)(L:Hl)(s:World)(hG:GP s)(d:Nat)(p:Prg)(Ag Af:Option Addr)(ng cg nf cf:Nat)(hGl:Glos s Ag ng cg p.globals)(hFn:Fncs d s Af nf cf p.funcs)(Ai:Option Addr)(ni qi:Nat)(inp:Str)(hI:Bts s Ai ni qi inp)(a:Int):AC Tryz.prog D 5 [.agg #[.slice Ag ng cg,.slice Af nf cf],.slice Ai ni qi,.int .i64 a] L s fun v L' _=>v=.bool true∧L=L':=by
 have hn1:=hGl.1
 have hn2:=hFn.1
 have hU:prU p:=⟨hGl.u,hFn.u⟩
 have hni:=hI.1
 refine qai (fn:=Tryz.f5) qaq Tryz.func5 V Z Tryz.ntmps5 Z (rs:=[.tmp 6]) Z [(0,_),(1,_),(2,_)] Z<|Sr<|qau Z Z ?_
 intro β1 s1 h1
 refine At Z Z<|Zs<|Sr<|Jc Z Z Z (qqc D _ _ (hG.le h1)) ?_
 rintro _ _ s2 h2 ⟨rfl,rfl⟩
 refine qnb Z Z<|Zqm Z Z<|Zg Z Z<|Jc Z Z Z (qkK D _ _ (hG.le (h1.t h2))) ?_
 rintro _ _ s3 h3 ⟨rfl,rfl⟩
 refine Zg Z Z<|qnb Z Z<|ZqF Z Z Z<|Nt<|Zz Z<|Zk<|Zt<|Zs<|?_
 refine qaR 26 (¬ (0≤a∧a≤200000)∨2000 < (ni:Int)) ?_ ?_
 ·
  refine Zr<|Zqm Z Z<|Jc Z Z Z (qdx D _ _ _ _ _) ?_
  rintro _ _ s5 h5 ⟨rfl,rfl⟩
  refine qcr Z Z<|Zqm Z Z<|?_
  refine qaI (t:=22) Z (fun c6=>?_) (fun c6=>?_)
  ·
   refine Wf Y4<|Wf Y4<|Wf Y4<|ZqT Z Z Z<|Zn<|?_
   refine qaa (MidB.mk h5 Sb Z ((decide_eq_true O).symm))
  refine Zg Z Z<|Zqm Z Z<|Zg Z Z<|Ws Y4<|Zg Z Z<|qbA Z Z Z<|ZqF Z Z Z<|Zn<|?_
  refine qaa (MidB.mk h5 Sb Z (decide_eq_decide.2 O))
 intro s4 h4
 refine qab Z (fun c7=>?_) (fun c7=>?_)
 ·
  refine Sr<|At Z Z<|Zo<|Zu<|?_
  refine rR [_] L (.t1 Z) Z (h1.t h2|>.t h3|>.t h4) fun _ hS2=>?_
  exact ⟨rfl,rfl⟩
 have g26:=c7
 refine Zk<|Zt<|Sr<|qaf (qan 0 [_,_] Z Z Z Z Z) Z<|Jc Z Z Z (qlG D _ _ (hG.le (h1.t h2|>.t h3|>.t h4)) d p Ag Af ng cg nf cf (hGl.le (h1.t h2|>.t h3|>.t h4)) (hFn.le (h1.t h2|>.t h3|>.t h4))) ?_
 rintro _ _ s8 h8 ⟨rfl,qt,hTq,Xg,kXg,jXg,Xf,kXf,jXf,rfl,hXg,hXf⟩
 refine Zqm Z Z<|Zqx Z Z Z<|Zqx Z Z Z<|qae Z [_,_] Z Z ?_
 intro β9 s9 h9
 refine qae Z [_,_] Z Z ?_
 intro β10 s10 h10
 refine Wt 1 [_,_] Y9<|Wt 0 [_,_] Y9<|Nt<|Zs<|Sr<|W0 Y5<|Wl 0 Y6<|qcj Z Z Z<|Nt<|?_
 refine qaK Z (fun c11=>?_) (fun c11=>?_)
 ·
  refine Zs<|qay qag 5 Z _ (fun _ h=>h) ?_
  intro s12 h12
  refine za 0 Z (qan 0 [_,_] Z Z Z Z Z) Z<|za 1 Z (qan 2 [_,_] Z Z Z Z Z) Z<|qal 2 V<|Jb Z Tt Z Z Z (qsl D _ _ d p Ag Af ng cg nf cf (hGl.le (h1.t h2|>.t h3|>.t h4|>.t h8|>.t h9|>.t h10|>.t h12)) (hFn.le (h1.t h2|>.t h3|>.t h4|>.t h8|>.t h9|>.t h10|>.t h12))) ?_
  rintro _ _ s13 h13 ⟨rfl,rfl⟩
  refine ⟨fun _ _ h=>h,?_⟩
  refine za 3 Z (qaw (v':=.bool true) (qf9 Z Z (qbX _ _ _ _)) (bT ⟨Z,Z⟩)) Z<|za 4 Z (qaY Z) Z<|qad V<|Zt<|Zo<|Zu<|?_
  refine rR [_,_,_] L (.t1 Z) Z (h1.t h2|>.t h3|>.t h4|>.t h8|>.t h9|>.t h10|>.t h12|>.t h13) fun _ hS2=>?_
  exact ⟨rfl,rfl⟩
 have gk:=qnW (inp:=inp) (a:=a) hU (show (qbM p).1=0 by have:=c11;omega) hTq O O
 refine Zk<|Zt<|Sr<|qaf (qan 2 [_,_] Z Z Z Z Z) Z<|Zqm Z Z<|Zqm Z Z<|Jc Z Z Z (qj7 D _ _ (hG.le (h1.t h2|>.t h3|>.t h4|>.t h8|>.t h9|>.t h10)) d p Ag Af ng cg nf cf (hGl.le (h1.t h2|>.t h3|>.t h4|>.t h8|>.t h9|>.t h10)) (hFn.le (h1.t h2|>.t h3|>.t h4|>.t h8|>.t h9|>.t h10)) _ _ _ inp (hI.le (h1.t h2|>.t h3|>.t h4|>.t h8|>.t h9|>.t h10)) _) ?_
 rintro _ _ s14 h14 ⟨rfl,_,rfl,Ax,nx,qx,rfl,hBx⟩
    
 refine Zqm Z Z<|Zqx Z Z Z<|Zqx Z Z Z<|qae Z [_,_,_,_] Z Z ?_
 intro β15 s15 h15
 refine qae Z [_,_] Z Z ?_
 intro β16 s16 h16
 refine Wt 1 [_,_,_,_] Y9<|Wt 0 [_,_] Y9<|Nt<|Sr<|qaf (qan 3 [_,_] Z Z Z Z Z) Z<|Zqm Z Z<|Zqm Z Z<|Jc Z Z Z (qj7 D _ _ (hG.le (h1.t h2|>.t h3|>.t h4|>.t h8|>.t h9|>.t h10|>.t h14|>.t h15|>.t h16)) d qt _ _ _ _ _ _ (hXg.le (h9.t h10|>.t h14|>.t h15|>.t h16)) (hXf.le (h9.t h10|>.t h14|>.t h15|>.t h16)) _ _ _ inp (hI.le (h1.t h2|>.t h3|>.t h4|>.t h8|>.t h9|>.t h10|>.t h14|>.t h15|>.t h16)) _) ?_
 rintro _ _ s17 h17 ⟨rfl,_,rfl,Ay,ny,qy,rfl,hBy⟩
    
 refine Zqm Z Z<|Zqx Z Z Z<|Zqx Z Z Z<|qae Z [_,_,_,_] Z Z ?_
 intro β18 s18 h18
 refine qae Z [_,_] Z Z ?_
 intro β19 s19 h19
 refine Wt 1 [_,_,_,_] Y9<|Wt 0 [_,_] Y9<|Nt<|Sr<|W0 Y5<|Wl 2 Y6<|qaf (qaw (v':=.bool true) (qgh Z Z) (bT gk.1)) Z<|Zqm Z Z<|Zg Z Z<|W0 Y5<|Zg Z Z<|Wl 0 Y6<|Zg Z Z<|qaf (qaw (v':=.bool true) (qgh Z Z) (bT gk.2.1)) Z<|ZqT Z Z Z<|Zqm Z Z<|Zg Z Z<|qaf (qan 3 [_,_,_,_] Z Z Z Z Z) Z<|Zg Z Z<|qaf (qan 1 [_,_,_,_] Z Z Z Z Z) Z<|Zg Z Z ?_
 refine Jc Z Z Z (soT D _ _ _ _ _ _ (hBx.le (h15.t h16|>.t h17|>.t h18|>.t h19)) _ _ _ _ (hBy.le (h18.t h19)) _ _ _ _ _ _ (by rw [gk.2.2];exact ⟨Z,Z,Z,Z⟩)) ?_
 rintro _ _ s20 h20 ⟨rfl,rfl⟩
 refine ZqT Z Z Z<|At Z Z<|Zo<|?_
 refine rR [_,_,_,_,_,_,_] L (.t1 Z) Z (h1.t h2|>.t h3|>.t h4|>.t h8|>.t h9|>.t h10|>.t h14|>.t h15|>.t h16|>.t h17|>.t h18|>.t h19|>.t h20) fun _ hS2=>?_
 exact ⟨rfl,rfl⟩
end Go.Proofs.YtpdnijphccdiiaaGreatDoor
namespace Go.Proofs.YtpdnijphccdiiaaGreatDoor
open Go.Proofs.Tryz
open Go Go.FL Go.ChangeShapes Go.WideShapes Go.ChangeAt Go.RowKit Go.Deep
theorem qpz:ownKnob prog.godebug=none:=by kernel_rfl
theorem qpl:laidOutB prog=true:=by kernel_rfl
theorem qmu(l:List Obj):∃ D,∀ E,D≤E→∀ o∈l,o≠dum E:=by
 induction l with
 | nil=>exact ⟨0,fun _ _ _ h=>by cases h⟩
 | cons x l ih=>
  obtain ⟨D,hD⟩:=ih
  have hx:∃ B,∀ E,B≤E→x≠dum E:=by
   cases x with
   | mapIter a n b c=>exact ⟨n+1,fun E hE h=>by simp only [dum,Obj.mapIter.injEq] at h;omega⟩
   | _=>exact ⟨0,fun E _ h=>by simp [dum] at h⟩
  obtain ⟨B,hB⟩:=hx
  refine ⟨max D B,fun E hE o ho=>?_⟩
  rcases List.mem_cons.1 ho with rfl | ho
  · exact hB E O
  · exact hD E O o ho
theorem qkY(W:World):∃ D,∀ k:Nat,W.heap[k]?≠some (dum D):=by
 obtain ⟨D,hD⟩:=qmu W.heap.toList
 refine ⟨D,fun k hk=>hD D (Nat.le_refl _) (dum D) ?_ Z⟩
 rw [← Array.getElem?_toList] at hk
 exact List.mem_of_getElem? hk
theorem qnQ{D:Nat}{W W':World}(hD:∀ k:Nat,W.heap[k]?≠some (dum D))(h:Le D W W'):Below W.heap.size W W':=
 ⟨h.os,h.tape,h.output,h.size,fun k hk=>(h.block k hk).resolve_left (hD k)⟩
theorem qm0{P:Program}{f:FuncId}{args:List Value}{W:World}(h:∀ D,AC P D f args [] W fun v L' _=>v=.bool true∧[]=L') :
  Calls P f args.toArray W fun e W'=>e=.returned (.bool true)∧Below W.heap.size W W':=by
 obtain ⟨D,hD⟩:=qkY W
 refine ((h D).2 ⟨by simp,fun x hx=>by cases hx⟩).mono ?_
 rintro e w' ⟨v,L',s',h1,rfl,h3,h4,rfl,rfl⟩
 exact ⟨h1,qnQ hD h4⟩
section
variable{H:Type}{enc:TypeId×Value→H}{P:Program}
theorem qeW{W W':World}(hl:laidOutB P=true)(hb:Below W.heap.size W W'):∀ {ts:List TypeId} {vs:List Value} {ds:List (DataW H)} {ps:List MemPlace},(∀ t∈ts,P.readableRec t=true∧t < P.types.size)→(∀ x∈ps,x.block < W.heap.size) →
  DataW.TrodAll enc P W 0 (fun _=>true) true ts vs ds ps→DataW.TrodAll enc P W' 0 (fun b=>decide (b < W.heap.size)) true ts vs ds ps
 | [],_,_,_,_,_,h=>by
  obtain ⟨rfl,rfl,rfl⟩:=trodAll_nil h
  exact trodAll_mk0
 | t::ts,_,_,_,hts,hp,h=>by
  obtain ⟨v,vs,d,ds,a,b,rfl,rfl,rfl,h1,h2⟩:=trodAll_cons h
  have ht:=hts t Mc
  exact trodAll_cons_mk (Below.trod hl ht.1 ht.2 h1 hb fun x hx=>hp x (List.mem_append_left _ hx)) (qeW hl hb (fun t' h'=>hts t' (List.mem_cons_of_mem _ h')) (fun x hx=>hp x (List.mem_append_right _ hx)) h2)
theorem qoz{fn:Func}{s:ChangeSpec}{W W':World}{args:Array Value}{ds gs:List (DataW H)}{before:List MemPlace}{tb:TypeId}(hl:laidOutB P=true)(hts:∀ t∈fn.params.toList,P.readableRec t=true∧t < P.types.size)(hr:fn.resultTypes=#[tb])(hb:P.underlying tb=some .bool)
  (hv:s.vars=[]) (hW:DataW.Whole enc P fn.params.toList s.vars false W args.toList ds gs before) (hfn:s.fn H ds={ results:=[.lit (.bool true)],args:=ds }) (hB:Below W.heap.size W W'):s.post enc P fn false true false false W args (.bool true) W':=by
 have hlt:∀ x∈before,x.block < W.heap.size:=fun x hx=>hW.lt x hx
 have hW':=hW
 obtain ⟨p,q,hA,hV,rfl,_,_⟩:=hW
 rw [hv] at hV
 obtain ⟨rfl,rfl⟩:=trodVars_none hV
 refine ⟨ds,[],p++[],[],p,[],hW',?_,?_,?_,hB.frame _,fun h=>by cases h⟩
 · rw [List.append_nil,hfn,hr];exact trodAll_cons_mk (shut_bool hb _) trodAll_mk0
 · rw [List.append_nil,hfn];exact qeW hl hB hts (fun x hx=>hlt x (List.mem_append_left _ hx)) hA
 · rw [List.append_nil,hfn,hv];rfl
end
def Rd(W:World)(t:TypeId)(cs:List Value):Prop:=∃ (H:Type) (enc:TypeId×Value→H) (n:Nat) (x:DataW H×List MemPlace),DataW.trod enc prog W 0 (fun _=>true) true n t cs=some x
section
variable{W:World}{t e:TypeId}{cs:List Value}
theorem qfE{k:IntKind}(ht:prog.underlying t=some (.int k))(h:Rd W t cs):∃ n,cs=[.int k n]∧(Lit.int k n).wf=true:=by
 obtain ⟨H,enc,n,x,h⟩:=h
 obtain ⟨i,h1,_,h2⟩:=DataW.trod_int ht h
 exact ⟨i,h1,h2⟩
theorem qiO(ht:prog.underlying t=some .string)(h:Rd W t cs):∃ l:List UInt8,cs=[St l]∧l.length≤9223372036854775807:=by
 obtain ⟨H,enc,n,x,h⟩:=h
 obtain ⟨s,h1,_,h2⟩:=DataW.trod_string ht h
 refine ⟨s.data.toList,by rw [h1],?_⟩
 have:s.data.toList.length=s.size:=by rw [Array.length_toList];rfl
 simp only [maxLen] at h2
 omega
theorem qpd{fs:Array Field}(ht:prog.underlying t=some (.struct fs))(h:Rd W t cs){sz:Nat}(hc:prog.cellsOf t=sz):cs.length=sz∧∀ (i:Nat) (f:Field),fs[i]?=some f→∀ (ty off n:Nat),f.type=ty→f.offset=off→prog.cellsOf ty=n→Rd W ty ((cs.drop off).take n):=by
 obtain ⟨H,enc,n,x,h⟩:=h
 obtain ⟨xs,m,_,_,h1,h2,h3⟩:=DataW.trod_struct ht h
 refine ⟨h1.trans hc,fun i f hf ty off k e1 e2 e3=>?_⟩
 have hi:i < xs.length:=by rw [h2];exact (Array.getElem?_eq_some_iff.1 hf).1
 have:=h3 i f hf
 rw [List.getElem?_eq_getElem hi,e1,e2,e3] at this
 exact ⟨H,enc,m,_,this⟩
theorem qo6{sz:Nat}(ht:prog.underlying t=some (.slice e))(hc:prog.cellsOf e=sz)(hp:0 < sz)(h:Rd W t cs):∃ A n c,cs=[.slice A n c]∧n≤c∧c≤9223372036854775807 ∧
    ∀ i,i < n→∃ b off ds,A=some ⟨b,off,none⟩∧CellsAt W b (off+i * sz) ds∧ds.length=sz∧Rd W e ds:=by
  obtain ⟨H,enc,q,x,h⟩:=h
  rcases open_slice ht h with ⟨rfl,_⟩ | ⟨a,len,cap,m,k,D,Pl,rfl,_,h1,h2,h3,_,h4⟩
  · exact ⟨none,0,0,rfl,Nat.le_refl _,by omega,fun i hi=>by omega⟩
  · simp only [maxLen] at h2
    refine ⟨some a,len,cap,Z,h1,by omega,fun i hi=>?_⟩
    obtain ⟨ds,k1,k2⟩:=h4 i (by simp at h3;omega)
    rw [hc] at k1
    obtain ⟨_,k3,k4⟩:=World.cells?_some k1
    obtain ⟨b,off,spot⟩:=a
    have hs:spot=none:=by
      obtain ⟨ds0,j1,_⟩:=h4 0 (by simp at h3;omega)
      rw [hc,Nat.zero_mul] at j1
      obtain ⟨_,j3,j4⟩:=World.cells?_some j1
      have:=j4 0 hp
      rw [List.getElem?_eq_getElem O] at this
      simpa [Addr.add] using World.cell?_spot this
    subst hs
    refine ⟨b,off,ds,Z,fun j v hj=>?_,k3,H,enc,k,_,k2⟩
    have hl:j < sz:=by rw [← k3];exact (List.getElem?_eq_some_iff.1 hj).1
    have:=k4 j hl
    rw [hj,add_lit,add_lit] at this
    exact this
theorem qp5{α:Type} [Inhabited α] {R:World→α→List Value→Prop} {sz:Nat} (ht:prog.underlying t=some (.slice e)) (hc:prog.cellsOf e=sz) (hp:0 < sz) (h:Rd W t cs) (hel:∀ ds,Rd W e ds→∃ x:α,R W x ds):∃ A n c l,cs=[.slice A n c]∧Sl sz R W A n c l:=by
 obtain ⟨A,n,c,h1,h2,h3,h4⟩:=qo6 ht hc hp h
 obtain ⟨f,hf⟩:=choose_lt (α:=α) (p:=fun i x=>∃ b off ds,A=some ⟨b,off,none⟩∧CellsAt W b (off+i * sz) ds∧ds.length=sz∧R W x ds) (n:=n) (fun i hi=>by
  obtain ⟨b,off,ds,k1,k2,k3,k4⟩:=h4 i hi
  obtain ⟨x,hx⟩:=hel ds k4
  exact ⟨x,b,off,ds,k1,k2,k3,hx⟩)
 refine ⟨A,n,c,(List.range n).map f,h1,by simp,h2,h3,fun i x hi=>?_⟩
 rw [List.getElem?_map] at hi
 cases hr:(List.range n)[i]? with
 | none=>simp [hr] at hi
 | some j=>
  simp [hr] at hi
  obtain ⟨hi1,hi2⟩:=List.getElem?_eq_some_iff.1 hr
  simp at hi1 hi2
  subst hi2;subst hi
  exact hf i hi1
theorem len2{l:List Value}(h:l.length=2):∃ a b,l=[a,b]:=by match l,h with | [a,b],_=>exact ⟨a,b,rfl⟩
theorem len4{l:List Value}(h:l.length=4):∃ a b c d,l=[a,b,c,d]:=by match l,h with | [a,b,c,d],_=>exact ⟨a,b,c,d,rfl⟩
theorem qcc{a b:Value}(h:[a]=[b]):a=b:=by injection h
theorem qnm{n:Int}(h:(Lit.int .u32 n).wf=true):U32 n:=by have:=bounds_u32 h;exact ⟨by omega,by omega⟩
end
set_option maxRecDepth 100000
instance:Inhabited Ex:=⟨.mk 0 0 0 [] []⟩
instance:Inhabited Stm:=⟨.mk 0 [] [] [] []⟩
instance:Inhabited Fnc:=⟨⟨[],[],[],[]⟩⟩
instance:Inhabited Glo:=⟨⟨0,[],0,[]⟩⟩
theorem qqb:prog.cellsOf 3=1:=by kernel_rfl
theorem qug:prog.cellsOf 29=1:=by kernel_rfl
theorem qmF:prog.cellsOf 9=1:=by kernel_rfl
theorem qqT:prog.cellsOf 54=1:=by kernel_rfl
theorem qtW:prog.cellsOf 47=1:=by kernel_rfl
theorem qxo:prog.cellsOf 89=5:=by kernel_rfl
theorem qvl:prog.cellsOf 87=1:=by kernel_rfl
theorem qwS:prog.cellsOf 95=5:=by kernel_rfl
theorem qrP:prog.cellsOf 55=1:=by kernel_rfl
theorem c_fn:prog.cellsOf 57=4:=by kernel_rfl
theorem qwF:prog.cellsOf 23=1:=by kernel_rfl
theorem c_gl:prog.cellsOf 53=4:=by kernel_rfl
theorem qwx:prog.cellsOf 22=1:=by kernel_rfl
theorem qwT:prog.cellsOf 25=2:=by kernel_rfl
theorem len5{l:List Value}(h:l.length=5):∃ a b c d e,l=[a,b,c,d,e]:=by match l,h with | [a,b,c,d,e],_=>exact ⟨a,b,c,d,e,rfl⟩
def RdN(n:Nat)(W:World)(t:TypeId)(cs:List Value):Prop:=∃ (H:Type) (enc:TypeId×Value→H) (x:DataW H×List MemPlace),DataW.trod enc prog W 0 (fun _=>true) true n t cs=some x
section
variable{W:World}{t e:TypeId}{cs:List Value}
theorem RdN.rd{n:Nat}(h:RdN n W t cs):Rd W t cs:=by
 obtain ⟨H,enc,x,h⟩:=h
 exact ⟨H,enc,n,x,h⟩
theorem qeU{n:Nat}{fs:Array Field}(ht:prog.underlying t=some (.struct fs))(h:RdN n W t cs){sz:Nat}(hc:prog.cellsOf t=sz):cs.length=sz∧∃ m,n=m+1∧∀ (i:Nat) (f:Field),fs[i]?=some f→∀ (ty off k:Nat),f.type=ty→f.offset=off→prog.cellsOf ty=k→RdN m W ty ((cs.drop off).take k):=by
 obtain ⟨H,enc,x,h⟩:=h
 obtain ⟨xs,m,hm,_,h1,h2,h3⟩:=DataW.trod_struct ht h
 refine ⟨h1.trans hc,m,hm,fun i f hf ty off k e1 e2 e3=>?_⟩
 have hi:i < xs.length:=by rw [h2];exact (Array.getElem?_eq_some_iff.1 hf).1
 have:=h3 i f hf
 rw [List.getElem?_eq_getElem hi,e1,e2,e3] at this
 exact ⟨H,enc,_,this⟩
theorem qmt{n sz:Nat}(ht:prog.underlying t=some (.slice e))(hc:prog.cellsOf e=sz)(hp:0 < sz)(h:RdN n W t cs):∃ A m c,cs=[.slice A m c]∧m≤c∧c≤9223372036854775807 ∧
    ∀ i,i < m→∃ b off ds q,A=some ⟨b,off,none⟩∧CellsAt W b (off+i * sz) ds∧ds.length=sz∧n=q+1∧RdN q W e ds:=by
  obtain ⟨H,enc,x,h⟩:=h
  rcases DataW.trod_slice ht h with ⟨rfl,_⟩ | ⟨a,len,cap,elems,rest,q,hq,rfl,_,_,h1,h2,hlen,hel,_,_⟩
  · exact ⟨none,0,0,rfl,Nat.le_refl _,by omega,fun i hi=>by omega⟩
  · simp only [maxLen] at h2
    have h4:∀ i,i < len→∃ ds x,W.cells? 0 (a.add (i * sz)) sz=some ds∧DataW.trod enc prog W 0 (fun _=>true) true q e ds=some x:=by
      intro i hi
      have:=hel i hi
      rw [List.getElem?_eq_getElem O,hc] at this
      obtain ⟨ds,k1,k2⟩:=Option.bind_eq_some_iff.1 this
      exact ⟨ds,_,k1,k2⟩
    refine ⟨some a,len,cap,Z,h1,by omega,fun i hi=>?_⟩
    obtain ⟨ds,y,k1,k2⟩:=h4 i hi
    obtain ⟨_,k3,k4⟩:=World.cells?_some k1
    obtain ⟨b,off,spot⟩:=a
    have hs:spot=none:=by
      obtain ⟨ds0,_,j1,_⟩:=h4 0 O
      rw [Nat.zero_mul] at j1
      obtain ⟨_,j3,j4⟩:=World.cells?_some j1
      have:=j4 0 hp
      rw [List.getElem?_eq_getElem O] at this
      simpa [Addr.add] using World.cell?_spot this
    subst hs
    refine ⟨b,off,ds,q,Z,fun j v hj=>?_,k3,hq,H,enc,_,k2⟩
    have hl:j < sz:=by rw [← k3];exact (List.getElem?_eq_some_iff.1 hj).1
    have:=k4 j hl
    rw [hj,add_lit,add_lit] at this
    exact this
theorem qir{α:Type} [Inhabited α] {R:World→α→List Value→Prop} {n sz:Nat} (ht:prog.underlying t=some (.slice e)) (hc:prog.cellsOf e=sz) (hp:0 < sz) (h:RdN n W t cs) (hel:∀ q,n=q+1→∀ ds,RdN q W e ds→∃ x:α,R W x ds):∃ A m c l,cs=[.slice A m c]∧Sl sz R W A m c l:=by
 obtain ⟨A,m,c,h1,h2,h3,h4⟩:=qmt ht hc hp h
 obtain ⟨f,hf⟩:=choose_lt (α:=α) (p:=fun i x=>∃ b off ds,A=some ⟨b,off,none⟩∧CellsAt W b (off+i * sz) ds∧ds.length=sz∧R W x ds) (n:=m) (fun i hi=>by
  obtain ⟨b,off,ds,q,k1,k2,k3,k5,k4⟩:=h4 i hi
  obtain ⟨x,hx⟩:=hel q k5 ds k4
  exact ⟨x,b,off,ds,k1,k2,k3,hx⟩)
 refine ⟨A,m,c,(List.range m).map f,h1,by simp,h2,h3,fun i x hi=>?_⟩
 rw [List.getElem?_map] at hi
 cases hr:(List.range m)[i]? with
 | none=>simp [hr] at hi
 | some j=>
  simp [hr] at hi
  obtain ⟨hi1,hi2⟩:=List.getElem?_eq_some_iff.1 hr
  simp at hi1 hi2
  subst hi2;subst hi
  exact hf i hi1
theorem qpQ(h:Rd W 47 cs):∃ A n c l,cs=[.slice A n c]∧Wds W A n c l:=qp5 underlying47 qug Dc h fun _ hd=>by
 obtain ⟨n,h1,h2⟩:=qfE underlying29 hd
 exact ⟨n,h1,qnm h2⟩
theorem qmY(h:Rd W 54 cs):∃ A n c l,cs=[.slice A n c]∧Strs W A n c l:=
 qp5 (α:=List UInt8) (R:=fun _ x cs=>cs=[St x]∧x.length≤9223372036854775807) underlying54 qmF Dc h (fun _ hd=>qiO underlying9 hd)
theorem qwy(n:Nat):∀ cs,RdN n W 89 cs→∃ x:Ex,ExR n W x cs:=by
 refine Nat.strongRecOn n ?_
 intro n ih cs h
 obtain ⟨h1,m,rfl,h2⟩:=qeU underlying89 h qxo
 obtain ⟨a,b,c,d,e,rfl⟩:=len5 h1
 obtain ⟨k,e1,_⟩:=qfE underlying3 (h2 0 _ rfl _ _ _ rfl rfl qqb).rd
 obtain ⟨o,e2,_⟩:=qfE underlying3 (h2 1 _ rfl _ _ _ rfl rfl qqb).rd
 obtain ⟨u,e3,w3⟩:=qfE underlying29 (h2 2 _ rfl _ _ _ rfl rfl qug).rd
 obtain ⟨w,e4,w4⟩:=qiO underlying9 (h2 3 _ rfl _ _ _ rfl rfl qmF).rd
 obtain ⟨A,p,q,l,e5,w5⟩:=qir (R:=ExR m) underlying87 qxo Dc (h2 4 _ rfl _ _ _ rfl rfl qvl) fun q hq ds hd=>by
  obtain ⟨x,hx⟩:=ih q O ds hd
  exact ⟨x,hx.up O⟩
 have z1:a=.int .i64 k:=qcc e1
 have z2:b=.int .i64 o:=qcc e2
 have z3:c=.int .u32 u:=qcc e3
 have z4:d=St w:=qcc e4
 have z5:e=.slice A p q:=qcc e5
 subst z1;subst z2;subst z3;subst z4;subst z5
 exact ⟨.mk k o u w l,A,p,q,rfl,w5,qnm w3,w4⟩
theorem qv3{n:Nat}(h:RdN n W 87 cs):∃ A m c l,cs=[.slice A m c]∧Exs n W A m c l:=
 qir (R:=ExR n) underlying87 qxo Dc h fun q hq ds hd=>by
  obtain ⟨x,hx⟩:=qwy q ds hd
  exact ⟨x,hx.up O⟩
theorem qxj(n:Nat):∀ cs,RdN n W 95 cs→∃ x:Stm,StR n W x cs:=by
 refine Nat.strongRecOn n ?_
 intro n ih cs h
 obtain ⟨h1,m,rfl,h2⟩:=qeU underlying95 h qwS
 obtain ⟨a,b,c,d,e,rfl⟩:=len5 h1
 have hB:∀ {cs},RdN m W 55 cs→∃ A p q l,cs=[.slice A p q]∧Sl 5 (StR m) W A p q l:=fun h=>qir (R:=StR m) underlying55 qwS Dc h fun q hq ds hd=>by
  obtain ⟨x,hx⟩:=ih q O ds hd
  exact ⟨x,hx.up O⟩
 obtain ⟨k,e1,_⟩:=qfE underlying3 (h2 0 _ rfl _ _ _ rfl rfl qqb).rd
 obtain ⟨w,e2,w2⟩:=qiO underlying9 (h2 1 _ rfl _ _ _ rfl rfl qmF).rd
 obtain ⟨A1,p1,q1,l1,e3,w3⟩:=qv3 (h2 2 _ rfl _ _ _ rfl rfl qvl)
 obtain ⟨A2,p2,q2,l2,e4,w4⟩:=hB (h2 3 _ rfl _ _ _ rfl rfl qrP)
 obtain ⟨A3,p3,q3,l3,e5,w5⟩:=hB (h2 4 _ rfl _ _ _ rfl rfl qrP)
 have z1:a=.int .i64 k:=qcc e1
 have z2:b=St w:=qcc e2
 have z3:c=.slice A1 p1 q1:=qcc e3
 have z4:d=.slice A2 p2 q2:=qcc e4
 have z5:e=.slice A3 p3 q3:=qcc e5
 subst z1;subst z2;subst z3;subst z4;subst z5
 exact ⟨.mk k w l1 l2 l3,A1,p1,q1,A2,p2,q2,A3,p3,q3,rfl,w3,w4,w5,w2⟩
theorem qvK{n:Nat}(h:RdN n W 55 cs):∃ A m c l,cs=[.slice A m c]∧Stms n W A m c l:=
 qir (R:=StR n) underlying55 qwS Dc h fun q hq ds hd=>by
  obtain ⟨x,hx⟩:=qxj q ds hd
  exact ⟨x,hx.up O⟩
theorem FnR.up{d e:Nat}{s:World}{x:Fnc}{cs:List Value}(h:FnR d s x cs)(he:d≤e):FnR e s x cs:=by
 obtain ⟨A1,n1,c1,A2,n2,c2,A3,n3,c3,h1,h2,h3,h4,h5⟩:=h
 exact ⟨A1,n1,c1,A2,n2,c2,A3,n3,c3,h1,h2,h3,Stms.up h4 he,h5⟩
theorem qwK{n:Nat}{cs:List Value}(h:RdN n W 57 cs):∃ x:Fnc,FnR n W x cs:=by
 obtain ⟨h1,m,rfl,h2⟩:=qeU underlying57 h c_fn
 obtain ⟨a,b,c,d,rfl⟩:=len4 h1
 obtain ⟨w,e1,w1⟩:=qiO underlying9 (h2 0 _ rfl _ _ _ rfl rfl qmF).rd
 obtain ⟨A1,p1,q1,l1,e2,w2⟩:=qmY (h2 1 _ rfl _ _ _ rfl rfl qqT).rd
 obtain ⟨A2,p2,q2,l2,e3,w3⟩:=qmY (h2 2 _ rfl _ _ _ rfl rfl qqT).rd
 obtain ⟨A3,p3,q3,l3,e4,w4⟩:=qvK (h2 3 _ rfl _ _ _ rfl rfl qrP)
 have z1:a=St w:=qcc e1
 have z2:b=.slice A1 p1 q1:=qcc e2
 have z3:c=.slice A2 p2 q2:=qcc e3
 have z4:d=.slice A3 p3 q3:=qcc e4
 subst z1;subst z2;subst z3;subst z4
 exact ⟨⟨w,l1,l2,l3⟩,A1,p1,q1,A2,p2,q2,A3,p3,q3,rfl,w2,w3,Stms.up w4 O,w1⟩
theorem qwB{cs:List Value}(h:Rd W 53 cs):∃ x:Glo,GlR W x cs:=by
 obtain ⟨h1,h2⟩:=qpd underlying53 h c_gl
 obtain ⟨a,b,c,d,rfl⟩:=len4 h1
 obtain ⟨k,e1,_⟩:=qfE underlying3 (h2 0 _ rfl _ _ _ rfl rfl qqb)
 obtain ⟨w,e2,w2⟩:=qiO underlying9 (h2 1 _ rfl _ _ _ rfl rfl qmF)
 obtain ⟨u,e3,w3⟩:=qfE underlying29 (h2 2 _ rfl _ _ _ rfl rfl qug)
 obtain ⟨A,p,q,l,e4,w4⟩:=qpQ (h2 3 _ rfl _ _ _ rfl rfl qtW)
 have z1:a=.int .i64 k:=qcc e1
 have z2:b=St w:=qcc e2
 have z3:c=.int .u32 u:=qcc e3
 have z4:d=.slice A p q:=qcc e4
 subst z1;subst z2;subst z3;subst z4
 exact ⟨⟨k,w,u,l⟩,A,p,q,rfl,w4,qnm w3,w2⟩
theorem qv9{n:Nat}{cs:List Value}(h:RdN n W 25 cs):∃ (p:Prg) (Ag Af:Option Addr) (ng cg nf cf:Nat),cs=[.slice Ag ng cg,.slice Af nf cf]∧Glos W Ag ng cg p.globals∧Fncs n W Af nf cf p.funcs:=by
 obtain ⟨h1,m,rfl,h2⟩:=qeU underlying25 h qwT
 obtain ⟨a,b,rfl⟩:=len2 h1
 obtain ⟨Ag,ng,cg,lg,e1,w1⟩:=qp5 (R:=GlR) underlying22 c_gl Dc (h2 0 _ rfl _ _ _ rfl rfl qwx).rd fun _ hd=>qwB hd
 obtain ⟨Af,nf,cf,lf,e2,w2⟩:=qir (R:=FnR (m+1)) underlying23 c_fn Dc (h2 1 _ rfl _ _ _ rfl rfl qwF) fun q hq ds hd=>by
  obtain ⟨x,hx⟩:=qwK hd
  exact ⟨x,hx.up O⟩
 have z1:a=.slice Ag ng cg:=qcc e1
 have z2:b=.slice Af nf cf:=qcc e2
 subst z1;subst z2
 exact ⟨⟨lg,lf⟩,Ag,Af,ng,cg,nf,cf,rfl,w1,w2⟩
end
section
variable{H:Type}{enc:TypeId×Value→H}{W:World}{base:Nat}{v:Value}{d:DataW H}{ps:List MemPlace}
theorem qww{t:TypeId}(hd:DataW.Trod enc prog W 0 (fun _=>true) true t v d ps):Rd W t v.cells.toList:=by
 obtain ⟨n,h⟩:=hd
 exact ⟨H,enc,n,_,h⟩
theorem qut{t:TypeId}{fs:Array Field}(ht:prog.underlying t=some (.struct fs))(hv:Value.okWide prog W .any base t v):∃ cs,v=.agg cs:=by
 unfold Value.okWide at hv
 rw [ht] at hv
 obtain ⟨cs,h,_⟩:=hv
 exact ⟨cs,h⟩
theorem qtn(hv:Value.okWide prog W .any base 25 v)(hd:DataW.Trod enc prog W 0 (fun _=>true) true 25 v d ps):∃ (m:Nat) (p:Prg) (Ag Af:Option Addr) (ng cg nf cf:Nat),v=.agg #[.slice Ag ng cg,.slice Af nf cf]∧Glos W Ag ng cg p.globals∧Fncs m W Af nf cf p.funcs:=by
 obtain ⟨cs,rfl⟩:=qut underlying25 hv
 obtain ⟨n,h⟩:=hd
 obtain ⟨p,Ag,Af,ng,cg,nf,cf,h1,h2,h3⟩:=qv9 (n:=n) ⟨H,enc,_,h⟩
 refine ⟨n,p,Ag,Af,ng,cg,nf,cf,?_,h2,h3⟩
 simp only [Value.cells] at h1
 rw [← h1]
end
theorem qq9{W:World}{nm:String}{g:Nat}{cs:Array Value}(hg:prog.globalNamed nm=some g)(h:W.var? prog nm=some cs):∃ ty fz,W.heap[g]?=some (.cells cs ty fz):=by
  unfold World.var? at h
  rw [hg] at h
  simp only [Option.bind_some] at h
  split at h
  · rename_i c t f hb
    injection h with h
    subst h
    exact ⟨t,f,hb⟩
  · cases h
theorem qxv{W:World}(h:laidMetH prog Rows.interpRunMatchesSpecRow.laid W):GP W:=by
 rw [MakeChecks.laidMetH_plain _ _ _ V] at h
 have h2:=h.tail.tail
 have hpow:=Lib.tabIs_of_head (zs:=Lib.pow10Tab) (k:=.u64) (g:=2) V V underlying281 underlying195 V V h2
 have hasc:=Lib.tabIs_of_head (zs:=Lib.asciiSpaceTab) (k:=.u8) (g:=0) V V underlying254 underlying5 V V h2.tail.tail
 exact ⟨⟨qq9 (g:=2) V hpow⟩,qq9 (g:=0) V hasc⟩
set_option maxRecDepth 100000
section
variable{H:Type}{enc:TypeId×Value→H}{W:World}{base:Nat}{v:Value}{d:DataW H}{ps:List MemPlace}{cs:List Value}
theorem c_u8:prog.cellsOf 5=1:=by kernel_rfl
theorem qqi(h:Rd W 26 cs):∃ A n c l,cs=[.slice A n c]∧Bts W A n c l:=qp5 underlying26 c_u8 Dc h fun _ hd=>by
 obtain ⟨n,h1,h2⟩:=qfE underlying5 hd
 have:=bounds_u8 h2
 refine ⟨UInt8.ofNat n.toNat,h1.trans ?_⟩
 have e:((UInt8.ofNat n.toNat).toNat:Int)=n:=by simp [UInt8.toNat_ofNat'];omega
 rw [e]
theorem qrY{t e:TypeId}(ht:prog.underlying t=some (.slice e))(hv:Value.okWide prog W .any base t v):v.cells.toList=[v]:=by
 unfold Value.okWide at hv
 rw [ht] at hv
 simp only [Cell.okWide] at hv
 cases v <;> simp_all [Value.cells,Cell.ok]
theorem qnx(hv:Value.okWide prog W .any base 26 v)(hd:DataW.Trod enc prog W 0 (fun _=>true) true 26 v d ps):∃ A n c l,v=.slice A n c∧Bts W A n c l:=by
 obtain ⟨A,n,c,l,h1,h2⟩:=qqi (qww hd)
 rw [qrY underlying26 hv] at h1
 exact ⟨A,n,c,l,qcc h1,h2⟩
end
open Go Go.FL Go.ChangeShapes Go.WideShapes Go.ChangeAt Go.RowKit
theorem qcl:∀ t∈f5.params.toList,prog.readableRec t=true∧t < prog.types.size:=by
 rw [params5]
 intro t ht
 simp only [List.mem_cons,List.not_mem_nil,or_false] at ht
 rcases ht with rfl | rfl | rfl <;> exact ⟨by kernel_rfl,of_decide_eq_true V⟩
theorem qb5(H:Type)(enc:TypeId×Value→H)(W:World)(base:Nat)(args:Array Value)(ds gs:List (DataW H))(before:List MemPlace)
  (hval:∀ (j:Nat) t v,f5.params[j]?=some t→args[j]?=some v→Value.okWide prog W .any base t v)
  (hW:DataW.Whole enc prog f5.params.toList Rows.interpTrimmedProgramsRunAlikeSpec.vars false W args.toList ds gs before) (hL:laidMetH prog Rows.interpTrimmedProgramsRunAlikeRow.laid W) :
  Calls prog 5 args W fun e W'=>∃ v,e=.returned v∧Rows.interpTrimmedProgramsRunAlikeSpec.post enc prog f5 false true false false W args v W':=by
 have hW':=hW
 obtain ⟨p,q,hA0,hV,rfl,hfz,hnd⟩:=hW'
 have hA:DataW.TrodAll enc prog W 0 (fun _=>true) true f5.params.toList args.toList ds p:=hA0
 rw [params5] at hA hval
 obtain ⟨v0,vs0,d0,ds0,p0,q0,hargs0,rfl,rfl,h0,r0⟩:=trodAll_cons hA
 obtain ⟨v1,vs1,d1,ds1,p1,q1,hargs1,rfl,rfl,h1,r1⟩:=trodAll_cons r0
 obtain ⟨v2,vs2,d2,ds2,p2,q2,hargs2,rfl,rfl,h2,r2⟩:=trodAll_cons r1
 obtain ⟨rfl,rfl,rfl⟩:=trodAll_nil r2
 obtain rfl:args=#[v0,v1,v2]:=by cases args;simp_all
 obtain ⟨rfl,rfl⟩:=trodVars_none hV
 obtain ⟨m0,p0,Ag0,Af0,ng0,cg0,nf0,cf0,rfl,hGl0,hFn0⟩:=qtn (hval 0 25 v0 rfl rfl) h0
 obtain ⟨A1,n1,c1,l1,rfl,hB1⟩:=qnx (hval 1 26 v1 rfl rfl) h1
 obtain ⟨k2,rfl,rfl,rfl,wk2⟩:=open_int underlying3 (hval 2 3 v2 rfl rfl) h2
 refine (qm0 (args:=[_,_,_]) fun D=>qhj D [] W (qxv hL) m0 p0 Ag0 Af0 ng0 cg0 nf0 cf0 hGl0 hFn0 A1 n1 c1 l1 hB1 k2).mono fun e W' ⟨he,hg⟩=>?_
 subst he
 exact ⟨_,rfl,qoz qpl qcl V underlying4 rfl hW rfl hg⟩
theorem qcg(os:Os)(started:os.Started)(H:Type)(enc:TypeId×Value→H) :
  ReturnsInHanded {} checked os 5 .any (fun w args=>(Rows.interpTrimmedProgramsRunAlikeSpec.pre enc prog f5 [] false w args∧laidMetH prog Rows.interpTrimmedProgramsRunAlikeRow.laid w)∧sizedMet enc prog f5 (OpenSpec.ofChange Rows.interpTrimmedProgramsRunAlikeSpec) false w args) (Rows.interpTrimmedProgramsRunAlikeSpec.post enc prog f5 false true false false):=by
 refine returnsInHanded_of_change_and (C:=checked) (X:=fun w _=>laidMetH prog Rows.interpTrimmedProgramsRunAlikeRow.laid w) (fun _ _ _ hh h=>h.of_heap hh) qpz started V func5
  (ChangeSpec.witness_shaped (enc:=enc) (C:=checked) (os:=os) (X:=fun w _=>laidMetH prog Rows.interpTrimmedProgramsRunAlikeRow.laid w) false (World.laidAll prog os Rows.interpTrimmedProgramsRunAlikeRow.laid) #[.agg #[.slice none 0 0,.slice none 0 0],.slice none 0 0,.int .i64 0] 8 (World.laidAll_os _ _ _)
   (World.shaped_of_ZipB V V) V V V
   (by rw [MakeChecks.laidMetH_plain _ _ _ V];exact laidMet_laidAll _ V V)) ?_
 intro W base args ds gs before hval hW _ _ hL _
 exact qb5 H enc W base args ds gs before hval hW hL
theorem qcm:Rows.InterpTrimmedProgramsRunAlikeSaid:=
 OpenClaim.holds_of_wide 5 f5 rfl rfl rfl rfl rfl rfl rfl ⟨rfl,rfl,rfl,rfl,rfl⟩ rfl rfl rfl rfl rfl V func5 V
  (of_decide_eq_true V) (by unfold Func.isWrapper;first | (rw [if_pos (by decide +kernel)];kernel_rfl) | (rw [if_neg (by decide +kernel)];exact ⟨rfl,rfl⟩))
  (fun os started H enc _=>qcg os started H enc)
theorem qci(f:FuncId)(fn:Func)(hf:Tryz.pinned.checked.prog.funcNamed Rows.interpTrimmedProgramsRunAlikeRow.func=some f)(hfn:Tryz.pinned.checked.prog.funcs[f]?=some fn):true=Tryz.pinned.checked.prog.looks []∧∀ (j:Nat) t,fn.params[j]?=some t→Tryz.pinned.checked.prog.wantsStandIn t=false:=by
 obtain rfl:f=5:=Option.some.inj ((show prog.funcNamed Rows.interpTrimmedProgramsRunAlikeRow.func=some 5 by kernel_rfl).symm.trans hf) |>.symm
 obtain rfl:fn=f5:=(Option.some.inj (func5.symm.trans hfn)).symm
 exact ⟨by kernel_rfl,fun j t ht=>by
  rw [params5] at ht
  have hm:t∈[25,26,3]:=by simpa using Array.mem_of_getElem? ht
  have hall:([25,26,3].all fun u=>!prog.wantsStandIn u)=true:=by kernel_rfl
  exact (show prog.wantsStandIn t=false by simpa using List.all_eq_true.1 hall t hm)⟩
theorem interpTrimmedProgramsRunAlike_holds : Rows.InterpTrimmedProgramsRunAlikeCardSaid :=
 Claim7.holds_tied_plain_at .later [] _ _ _ _ qcm (fun _ h=>by cases h) V (fun _ h=>by cases h) interpTrimmedProgramsRunAlike_row_tie rfl ⟨rfl,rfl⟩ V rfl qci V
end Go.Proofs.YtpdnijphccdiiaaGreatDoor
