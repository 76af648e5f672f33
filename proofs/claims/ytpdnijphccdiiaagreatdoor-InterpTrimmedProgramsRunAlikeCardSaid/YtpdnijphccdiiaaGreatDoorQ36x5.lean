/- Part 5. -/
import Derived.Test.YtpdnijphccdiiaaGreatDoorQ36x4
import Derived.Lib.SliceRun
set_option linter.unusedVariables false
set_option linter.unusedSimpArgs false
set_option linter.unnecessarySimpa false
set_option maxRecDepth 100000
set_option maxHeartbeats 8000000
namespace Go.Proofs.YtpdnijphccdiiaaGreatDoor
open Go.FL
attribute [local irreducible] JC JO JA JB qaO qaD qbV AC fill CellsAt QE Ev Mid
def qiT(p:Prg)(fi:Int)(nm:Str):(Int×Int)×(Int×Int):=if (qbM p).1≠0 then ((0,0),qbM p) else if fi < 0∨(p.funcs.length:Int)≤fi then ((0,0),(4,-2)) else match p.funcs[fi.toNat]? with
 | some x=>if (qaz p x nm).2=false then ((0,0),(12,-3)) else ((qaz p x nm).1,(0,0))
 | none=>((0,0),(4,-2))
theorem qsC{p:Prg}{fi:Int}{nm:Str}(h:(qbM p).1≠0):qiT p fi nm=((0,0),qbM p):=if_pos h
theorem qsO{p:Prg}{fi:Int}{nm:Str}(h:¬ (qbM p).1≠0)(h2:fi < 0∨(p.funcs.length:Int)≤fi):qiT p fi nm=((0,0),(4,-2)):=(if_neg h).trans (if_pos h2)
theorem quD{p:Prg}{j:Nat}{x:Fnc}{nm:Str}(h:¬ (qbM p).1≠0)(hx:p.funcs[j]?=some x):qiT p (j:Int) nm=if (qaz p x nm).2=false then ((0,0),(12,-3)) else ((qaz p x nm).1,(0,0)):=by
 have hl:=(List.getElem?_eq_some_iff.1 hx).1
 rw [qiT,if_neg h,if_neg O,Int.toNat_natCast,hx]
theorem qiz{p:Prg}(hu:prU p)(h:(qbM p).1=0):qbM p=(0,0):=(OKP.of hu h).2
theorem quG(D:Nat)(L:Hl)(s:World)(nd:Nd)(nv:Value)(hN:NdV s nd nv):AC Tryz.prog D 66 [nv] L s fun v L' _=>v=.agg #[St (nd.use).1,.int .i64 (nd.use).2.1,.int .i64 (nd.use).2.2]∧L=L':=by
 cases nd with
 | st y lp=>obtain ⟨b,o,C1,r1,e1,C2,r2,e2,C3,r3,e3,rfl,hy,hr⟩:=hN;exact qu1 D L s y b o C1 C2 C3 r1 e1 r2 e2 r3 e3 hy hr _
 | ex y lp=>obtain ⟨b,o,C1,r1,e1,rfl,hy,hr⟩:=hN;exact qvO D L s y b o C1 r1 e1 hy hr _
theorem qkI(D:Nat)(L:Hl)(s:World)(hG:GP s)(d:Nat)(p:Prg)(Ag Af:Option Addr)(ng cg nf cf:Nat)(hGl:Glos s Ag ng cg p.globals)(hFn:Fncs d s Af nf cf p.funcs)(fi:Int)(nm:List UInt8):AC Tryz.prog D 32 [.agg #[.slice Ag ng cg,.slice Af nf cf],.int .i64 fi,St nm] L s fun v L' _=>v=.tuple #[.agg #[.int .i64 (qiT p fi nm).1.1,.int .i64 (qiT p fi nm).1.2],.agg #[.int .i64 (qiT p fi nm).2.1,.int .i64 (qiT p fi nm).2.2]]∧L=L':=by
 have hn1:=hGl.1
 have hn2:=hFn.1
 have hU:prU p:=⟨hGl.u,hFn.u⟩
 refine qai (fn:=Tryz.f32) qaq Tryz.func32 V Z Tryz.ntmps32 Z (rs:=[.cell 6 79,.cell 7 33]) Z [(0,_),(1,_),(2,_)] Z<|Sr<|qau Z Z ?_
 intro β1 s1 h1
 refine qae Z [_,_] Z Z ?_
 intro β2 s2 h2
 refine qae Z [_,_] Z Z ?_
 intro β3 s3 h3
 refine Nt<|Zs<|Sr<|qaf (qan 2 [_,_] Z Z Z Z Z) Z<|Jc Z Z Z (qdt D _ _ (hG.le (h1.t h2|>.t h3)) d p Ag _ ng cg nf cf (hGl.le (h1.t h2|>.t h3)) (hFn.le (h1.t h2|>.t h3))) ?_
 rintro _ _ s4 h4 ⟨rfl,rfl⟩
 refine qae Z [_,_] Z Z ?_
 intro β5 s5 h5
 refine Wt 0 [_,_] Y9<|Nt<|Sr<|qaf (qan 0 [_,_] Z Z Z Z Z) Z<|qaf (qam [] [_,_] Z Z Z Z Z Z) Z<|qaf (qdY Z Z (qbX _ _ _ _)) Z<|Nt<|?_
 refine qaK Z (fun c6=>?_) (fun c6=>?_)
 ·
  have hE:qiT p fi nm=((0,0),qbM p):=qsC (fun h=>c6 (by rw [qiz hU h];exact ⟨rfl,rfl⟩))
  refine Zs<|qcJ qag 4 Z [2,1] (by intro x hx;exact qbo hx) ?_
  intro s7 h7
  refine za 0 Z (qam [] [_,_] Z Z Z Z Z Z) Z<|za 1 Z (qan 0 [_,_] Z Z Z Z Z) Z<|qal 2 V<|Wu Z Tt 2 [_,_] Y9 (sM (sbY (sbN (sbY (sbE _)))))<|qal 3 V<|Wu Z Tt 1 [_,_] Y9 (sM (sbY (sbN (sbY (sbE _)))))<|qad V<|Zt<|Zo<|Zu<|?_
  refine rR [_,_,_,_] L (.agg (us:=[_,_]) 2 Z Z Z Z Z (.agg (us:=[_,_]) 1 Z Z Z Z Z (.nil))) Z (h1.t h2|>.t h3|>.t h4|>.t h5|>.t h7) fun _ hS2=>?_
  exact ⟨by rw [hE];rfl,rfl⟩
 have g4:=c6
 have g14:¬ (qbM p).1≠0:=fun h=>h g4.1
 obtain ⟨hOK,hz0⟩:=OKP.of hU g4.1
 have hV:=hOK.1
 have hV1:=hV.1
 have hV2:=hV.2.1
 have hVf:=hV.2.2.2.1
 have hND:=(qc5 (p:=p) (by rw [hOK.2.1])).1
 refine Zk<|Zt<|Zs<|?_
 refine qaR 26 (fi < 0∨(nf:Int)≤fi) ?_ ?_
 ·
  refine Zr<|Zqm Z Z<|qba Z Z Z<|Zqm Z Z<|?_
  refine qak (t:=20) Z (fun c9=>?_) (fun c9=>?_)
  ·
   refine Wf Y4<|Wf Y4<|Wf Y4<|Wf Y4<|Wf Y4<|ZqT Z Z Z<|Zn<|?_
   refine qaa (MidB.mk (Lr D) Sb Z ((decide_eq_true O).symm))
  refine Zg Z Z<|Zqm Z Z<|Zg Z Z<|Wb Y5<|Zg Z Z<|Wl 3 Y6<|Zg Z Z<|Ws Y4<|Zg Z Z<|qf1 Z Z Z<|ZqF Z Z Z<|Zn<|?_
  refine qaa (MidB.mk (Lr D) Sb Z (decide_eq_decide.2 O))
 intro s8 h8
 refine qab Z (fun c10=>?_) (fun c10=>?_)
 ·
  have hE:=qsO (nm:=nm) g14 (by rw [← hn2];exact c10)
  refine Sr<|qaf (qam [] [_,_] Z Z Z Z Z Z) Z<|Jc Z Z Z (qbY D _ _ _ _) ?_
  rintro _ _ s11 h11 ⟨rfl,rfl⟩
  refine Wt 2 [_,_] Y9<|Wt 1 [_,_] Y9<|Nt<|Zo<|Zu<|?_
  refine rR [_,_,_,_] L (.agg (us:=[_,_]) 2 Z Z Z Z Z (.agg (us:=[_,_]) 1 Z Z Z Z Z (.nil))) Z (h1.t h2|>.t h3|>.t h4|>.t h5|>.t h8|>.t h11) fun _ hS2=>?_
  exact ⟨by rw [hE];rfl,rfl⟩
 obtain ⟨j,rfl⟩:=Int.eq_ofNat_of_zero_le (show 0≤fi by omega)
 have hk:j < nf:=by omega
 obtain ⟨b,off,x,B1,m1,d1,B2,m2,d2,B3,m3,d3,rfl,hx,hcx,hpx,hlx,hbx,hnl⟩:=Fncs.at_ (hFn.le (h1.t h2|>.t h3|>.t h4|>.t h5|>.t h8)) hk
 have hfx:=hVf x (List.mem_of_getElem? hx)
 have hE9:=quD (nm:=nm) g14 hx
 refine Zk<|Zt<|Zs<|qay qag 15 Z _ (fun _ h=>h) ?_
 intro s12 h12
 refine za 0 Z (qan 3 [_,_] Z Z Z Z Z) Z<|za 2 Z (We Y4) Z<|za 3 Z (Wd 3 Y5) Z<|za 4 Z (qar Z) Z<|za 5 Z (qap Z Z Z Z Z Z hk) Z<|za 6 Z (qas Z Z Z (hcx.le h12) Z) Z<|za 7 Z (qar Z) Z ?_
 refine qb9 1 12 V ?_ ?_
 ·
  refine Jb Z Tt Z Z Z (qca D _ _ d p Ag _ ng cg nf cf (hGl.le (h1.t h2|>.t h3|>.t h4|>.t h5|>.t h8|>.t h12)) (hFn.le (h1.t h2|>.t h3|>.t h4|>.t h5|>.t h8|>.t h12)) hND) ?_
  rintro _ _ s13 h13 ⟨rfl,bm,rfl,hM⟩
  refine ⟨fun _ _ h=>h,?_⟩
  refine qb9 8 12 V ?_ ?_
  ·
   refine Jb Z Tt Z Z Z (qeB D _ _ p Ag _ ng cg nf cf bm (hM.le (Lr D)) x B1 B2 B3 m1 d1 m2 d2 m3 d3 (hpx.le (h12.t h13)) (hlx.le (h12.t h13)) nm) ?_
   rintro _ _ s14 h14 ⟨rfl,rfl⟩
   refine ⟨fun _ _ h=>h,?_⟩
   refine za 9 Z (qar Z) Z<|za 10 Z (qbv Z Z) Z<|za 11 Z (qbv Z Z) Z<|qal 12 V<|qao Z Tt Z [_,_] Z Z ?_
   intro β15 s15 h15
   refine qal 13 V<|Wu Z Tt 0 [_,_] Y9 (sM (qby (sbE _)))<|za 14 Z (qaY Z) Z<|qad V<|Zt<|Zs<|Sr<|Zqm Z Z<|qcr Z Z<|Nt<|?_
   refine qdS Z (fun c16=>?_) (fun c16=>?_)
   ·
    have hE:qiT p (j:Int) nm=((0,0),(12,-3)):=by rw [hE9,if_pos c16]
    refine Sr<|qaf (qam [] [_,_] Z Z Z Z Z Z) Z<|Jc Z Z Z (qbY D _ _ _ _) ?_
    rintro _ _ s17 h17 ⟨rfl,rfl⟩
    refine Wt 3 [_,_] Y9<|Wt 2 [_,_] Y9<|Nt<|Zo<|Zu<|?_
    refine rR [_,_,_,_,_] L (.agg (us:=[_,_]) 3 Z Z Z Z Z (.agg (us:=[_,_]) 2 Z Z Z Z Z (.nil))) Z (h1.t h2|>.t h3|>.t h4|>.t h5|>.t h8|>.t h12|>.t h13|>.t h14|>.t h15|>.t h17) fun _ hS2=>?_
    exact ⟨by rw [hE];rfl,rfl⟩
   have hE:qiT p (j:Int) nm=((qaz p x nm).1,(0,0)):=by rw [hE9,if_neg (by rw [c16];decide)]
   refine Zk<|Zt<|Sr<|qaf (qan 0 [_,_] Z Z Z Z Z) Z<|qaf (qam [] [_,_] Z Z Z Z Z Z) Z<|Wt 3 [_,_] Y9<|Wt 2 [_,_] Y9<|Nt<|Zo<|?_
   refine rR [_,_,_,_,_] L (.agg (us:=[_,_]) 3 Z Z Z Z Z (.agg (us:=[_,_]) 2 Z Z Z Z Z (.nil))) Z (h1.t h2|>.t h3|>.t h4|>.t h5|>.t h8|>.t h12|>.t h13|>.t h14|>.t h15) fun _ hS2=>?_
   exact ⟨by rw [hE];rfl,rfl⟩
  refine qao Z Tt Z [_,_] Z Z ?_
  intro β18 s18 h18
  refine qal 8 V<|Jb Z Tt Z Z Z (qeB D _ _ p Ag _ ng cg nf cf bm (hM.le h18) x B1 B2 B3 m1 d1 m2 d2 m3 d3 (hpx.le (h12.t h13|>.t h18)) (hlx.le (h12.t h13|>.t h18)) nm) ?_
  rintro _ _ s19 h19 ⟨rfl,rfl⟩
  refine ⟨fun _ _ h=>h,?_⟩
  refine za 9 Z (qar Z) Z<|za 10 Z (qbv Z Z) Z<|za 11 Z (qbv Z Z) Z<|qal 13 V<|Wu Z Tt 0 [_,_] Y9 (sM (qby (sbE _)))<|za 14 Z (qaY Z) Z<|qad V<|Zt<|Zs<|Sr<|Zqm Z Z<|qcr Z Z<|Nt<|?_
  refine qdS Z (fun c20=>?_) (fun c20=>?_)
  ·
   have hE:qiT p (j:Int) nm=((0,0),(12,-3)):=by rw [hE9,if_pos c20]
   refine Sr<|qaf (qam [] [_,_] Z Z Z Z Z Z) Z<|Jc Z Z Z (qbY D _ _ _ _) ?_
   rintro _ _ s21 h21 ⟨rfl,rfl⟩
   refine Wt 3 [_,_] Y9<|Wt 2 [_,_] Y9<|Nt<|Zo<|Zu<|?_
   refine rR [_,_,_,_,_] L (.agg (us:=[_,_]) 3 Z Z Z Z Z (.agg (us:=[_,_]) 2 Z Z Z Z Z (.nil))) Z (h1.t h2|>.t h3|>.t h4|>.t h5|>.t h8|>.t h12|>.t h13|>.t h18|>.t h19|>.t h21) fun _ hS2=>?_
   exact ⟨by rw [hE];rfl,rfl⟩
  have hE:qiT p (j:Int) nm=((qaz p x nm).1,(0,0)):=by rw [hE9,if_neg (by rw [c20];decide)]
  refine Zk<|Zt<|Sr<|qaf (qan 0 [_,_] Z Z Z Z Z) Z<|qaf (qam [] [_,_] Z Z Z Z Z Z) Z<|Wt 3 [_,_] Y9<|Wt 2 [_,_] Y9<|Nt<|Zo<|?_
  refine rR [_,_,_,_,_] L (.agg (us:=[_,_]) 3 Z Z Z Z Z (.agg (us:=[_,_]) 2 Z Z Z Z Z (.nil))) Z (h1.t h2|>.t h3|>.t h4|>.t h5|>.t h8|>.t h12|>.t h13|>.t h18|>.t h19) fun _ hS2=>?_
  exact ⟨by rw [hE];rfl,rfl⟩
 refine qao Z Tt Z [_,_] Z Z ?_
 intro β22 s22 h22
 refine qal 1 V<|Jb Z Tt Z Z Z (qca D _ _ d p Ag _ ng cg nf cf (hGl.le (h1.t h2|>.t h3|>.t h4|>.t h5|>.t h8|>.t h12|>.t h22)) (hFn.le (h1.t h2|>.t h3|>.t h4|>.t h5|>.t h8|>.t h12|>.t h22)) hND) ?_
 rintro _ _ s23 h23 ⟨rfl,bm,rfl,hM⟩
 refine ⟨fun _ _ h=>h,?_⟩
 refine qal 8 V<|Jb Z Tt Z Z Z (qeB D _ _ p Ag _ ng cg nf cf bm (hM.le (Lr D)) x B1 B2 B3 m1 d1 m2 d2 m3 d3 (hpx.le (h12.t h22|>.t h23)) (hlx.le (h12.t h22|>.t h23)) nm) ?_
 rintro _ _ s24 h24 ⟨rfl,rfl⟩
 refine ⟨fun _ _ h=>h,?_⟩
 refine za 9 Z (qar Z) Z<|za 10 Z (qbv Z Z) Z<|za 11 Z (qbv Z Z) Z<|qal 13 V<|Wu Z Tt 0 [_,_] Y9 (sM (qby (sbE _)))<|za 14 Z (qaY Z) Z<|qad V<|Zt<|Zs<|Sr<|Zqm Z Z<|qcr Z Z<|Nt<|?_
 refine qdS Z (fun c25=>?_) (fun c25=>?_)
 ·
  have hE:qiT p (j:Int) nm=((0,0),(12,-3)):=by rw [hE9,if_pos c25]
  refine Sr<|qaf (qam [] [_,_] Z Z Z Z Z Z) Z<|Jc Z Z Z (qbY D _ _ _ _) ?_
  rintro _ _ s26 h26 ⟨rfl,rfl⟩
  refine Wt 3 [_,_] Y9<|Wt 2 [_,_] Y9<|Nt<|Zo<|Zu<|?_
  refine rR [_,_,_,_,_] L (.agg (us:=[_,_]) 3 Z Z Z Z Z (.agg (us:=[_,_]) 2 Z Z Z Z Z (.nil))) Z (h1.t h2|>.t h3|>.t h4|>.t h5|>.t h8|>.t h12|>.t h22|>.t h23|>.t h24|>.t h26) fun _ hS2=>?_
  exact ⟨by rw [hE];rfl,rfl⟩
 have hE:qiT p (j:Int) nm=((qaz p x nm).1,(0,0)):=by rw [hE9,if_neg (by rw [c25];decide)]
 refine Zk<|Zt<|Sr<|qaf (qan 0 [_,_] Z Z Z Z Z) Z<|qaf (qam [] [_,_] Z Z Z Z Z Z) Z<|Wt 3 [_,_] Y9<|Wt 2 [_,_] Y9<|Nt<|Zo<|?_
 refine rR [_,_,_,_,_] L (.agg (us:=[_,_]) 3 Z Z Z Z Z (.agg (us:=[_,_]) 2 Z Z Z Z Z (.nil))) Z (h1.t h2|>.t h3|>.t h4|>.t h5|>.t h8|>.t h12|>.t h22|>.t h23|>.t h24) fun _ hS2=>?_
 exact ⟨by rw [hE];rfl,rfl⟩
def mnI(p:Prg)(x:Fnc)(kd:Int)(nd:Nd):List Int:=if nd.use.2.1=0 then [] else if (qaz p x nd.use.1).1.1=kd then [(qaz p x nd.use.1).1.2] else []
theorem qvn{p:Prg}{x:Fnc}{kd:Int}{nd:Nd}:(mnI p x kd nd).length≤1:=by
 unfold mnI;split
 · simp
 · split <;> simp
def msP(p:Prg)(x:Fnc)(kd:Int):List Int:=Lib.compact (qgN ((qcn x.body 0).flatMap (mnI p x kd)))
theorem qcw(p:Prg)(x:Fnc)(kd:Int):(msP p x kd).Pairwise (· < ·)∧∀ i,i∈msP p x kd↔∃ nd∈qcn x.body 0,i∈mnI p x kd nd:=by
 have h1:=qle ((qcn x.body 0).flatMap (mnI p x kd))
 have h2:=qiM h1.1
 exact ⟨h2.1,fun i=>by rw [msP,h2.2,h1.2,List.mem_flatMap]⟩
abbrev MnG:=Value×Hl×List Int
theorem qrl{p:Prg}{x:Fnc}{kd:Int}:∀ {l:List Nd} {g g':MnG},qgJ (fun _:MnG=>none) (fun g nd g1=>g1.2.2=g.2.2++mnI p x kd nd) g l g'→g'.2.2=g.2.2++l.flatMap (mnI p x kd)
 | [],g,g',h=>by
  have h:g'=g:=h
  subst h;simp
 | n::r,g,g',⟨g1,h1,h2⟩=>by
  have h1:g1.2.2=g.2.2++mnI p x kd n:=h1
  have h2:qgJ (fun _:MnG=>none) (fun g nd g1=>g1.2.2=g.2.2++mnI p x kd nd) g1 r g':=h2
  rw [qrl h2,h1,List.flatMap_cons,List.append_assoc]
def LsR(s:World)(l:List Int)(v:Value):Prop:=∃ A n c,v=.slice A n c∧Its s A n c l
theorem LsR.le{D:Nat}{s s':World}{l:List Int}{v:Value}(h:LsR s l v)(hl:Le D s s'):LsR s' l v:=by
 obtain ⟨A,n,c,h1,h2⟩:=h
 exact ⟨A,n,c,h1,h2.le hl⟩
theorem qiE(D:Nat)(L:Hl)(s:World)(p:Prg)(Ag Af:Option Addr)(ng cg nf cf bm d:Nat)(hM:NmOK s bm p)(x:Fnc)(B1 B2 B3:Option Addr)(m1 d1 m2 d2 m3 d3:Nat)(hpx:Strs s B1 m1 d1 x.params)(hlx:Strs s B2 m2 d2 x.locals)(hbx:Stms d s B3 m3 d3 x.body)(hfx:fnV x)(kd:Int):AC Tryz.prog D 40 [.agg #[.slice Ag ng cg,.slice Af nf cf,.map (some bm)],.agg #[St x.name,.slice B1 m1 d1,.slice B2 m2 d2,.slice B3 m3 d3],.int .i64 kd] L s fun v L' s'=>∃ M',L'=M'++L∧∀ s2,Le D s' s2→Pub M' s2→LsR s2 (msP p x kd) v:=by
 have hbl:(qcn x.body 0).length≤2000:=by rw [qe9];exact hfx.2.2.2.2.2
 refine qd4 (fn:=Tryz.f40) qaq Tryz.func40 V Z Tryz.ntmps40 Z (rs:=[.tmp 6]) Z [(0,_),(1,_),(2,_)] Z<|Ys<|Yr<|qjs Z Z ?_
 intro β1 s1 h1
 refine qjs Z Z ?_
 intro β2 s2 h2
 refine qrq Z Z Z ?_
 intro β3 s3 h3
 refine Yqa Z Z<|Yn<|Yt<|Ys<|Yr<|qb1 Z [_] Z Z ?_
 intro β4 s4 h4
 refine Yn<|Yt<|Ys<|Ys<|Yr<|qcq (qan 2 [_,_,_,_] Z Z Z Z Z) Z<|Rc9 Z Z Z (qqz D _ _ x B1 B2 B3 m1 d1 m2 d2 m3 d3) ?_
 rintro _ _ s5 h5 ⟨rfl,ba,rfl,hba⟩
 refine Yn<|Yt<|Yp<|?_
 refine qiF (σ:=MnG) (α:=Nd×Option Addr×Option Addr×Nat) (fun g=>(β4,cb [g.1] 91)::_::_::_::(g.2.1++L)) (fun g tw=>FL.Own 3 1 g.2.1 g.1 g.2.2.length (iv g.2.2)∧g.2.2.length≤2000) (fun g=>none) (fun g xn g1=>g1.2.2=g.2.2++mnI p x kd xn.1) (fun xn=>[.agg #[.pointer xn.2.1,.pointer xn.2.2.1,.int .i64 (xn.2.2.2:Int)]]) (fun g xn tw=>NdV tw xn.1 (.agg #[.pointer xn.2.1,.pointer xn.2.2.1,.int .i64 (xn.2.2.2:Int)])∧g.2.2.length < (qcn x.body 0).length) (fun g1=>g1.2.2=(qcn x.body 0).flatMap (mnI p x kd)) (AR:=(fun xn fr A=>∃ βy,Keeps fr [(8,.pointer (some ⟨βy,0,none⟩)),(3,.pointer (some ⟨β1,0,none⟩)),(4,.pointer (some ⟨β2,0,none⟩)),(5,.pointer (some ⟨β3,0,none⟩)),(7,.pointer (some ⟨β4,0,none⟩))]∧A=[(βy,cb [.pointer xn.2.1,.pointer xn.2.2.1,.int .i64 (xn.2.2.2:Int)] 111)])) (cap:=[_]) Z (.slice none 0 0,[],[]) Z (⟨FL.Own.nil,Nat.zero_le _⟩) Z (fun _ _ _ h _=>h) (fun _=>.inl Z) (fun _=>rfl) Z ?_ ?_ ?_ ?_
 ·
  intro l6 x6 L6 s6
  refine Yr<|qb1 Z [_,_,_] Z Z ?_
  intro β7 s7 h7
  refine qeX 0 [_,_,_] Z Z Z Z Z Z Z Z Z<|Yn ?_
  exact ⟨rfl,rfl,⟨[_],⟨_,(.cons rfl (.cons rfl (.cons rfl (.cons rfl (.cons rfl (.nil _)))))),rfl⟩,rfl⟩,h7⟩
 ·
  rintro l8 d8 o8 p8 g xn s8 s9 fr8 A8 h8 h9 I8 hp8 P8 ⟨βy,hK8,rfl⟩
  refine qq7 hK8 ?_
  simp only [cQ9,nQ9]
  obtain ⟨vo,Mo,acc⟩:=g
  obtain ⟨nd,pa,pb,lp⟩:=xn
  obtain ⟨hO,hol⟩:=I8
  obtain ⟨hN,hcl⟩:=P8
  simp only at hO hol hN hcl
  dsimp only
  refine Yp<|Ys<|Yr<|qcq (qan 0 [_,_,_] Z Z Z Z Z) Z<|Rc9 Z Z Z (quG D _ _ nd _ (hN.le h9)) ?_
  rintro _ _ s10 h10 ⟨rfl,rfl⟩
  refine qb1 Z [_,_,_] Z Z ?_
  intro β11 s11 h11
  refine qeX 0 [_,_,_] Z Z Z Z Z Z Z Z Z<|Yn<|Yt<|Ys<|Yr<|qxu Z Z Z Z Z<|Yql 0 Z Z Z Z Z Z<|Yqne Z Z Z<|Yn<|Yt<|?_
  refine qjY Z (fun c12=>?_) (fun c12=>?_)
  ·
   have hu:=c12
   refine Ys<|Yr<|qcq (qan 7 [_,_,_] Z Z Z Z Z) Z<|qcq (qan 6 [_,_,_,_] Z Z Z Z Z) Z<|qwr Z Z Z Z Z<|Yql 0 Z Z Z Z Z Z<|Rc9 Z Z Z (qeB D _ _ p Ag Af ng cg nf cf bm (hM.le (h1.t h2|>.t h3|>.t h4|>.t h5|>.t h8|>.t h9|>.t h10|>.t h11)) x B1 B2 B3 m1 d1 m2 d2 m3 d3 (hpx.le (h1.t h2|>.t h3|>.t h4|>.t h5|>.t h8|>.t h9|>.t h10|>.t h11)) (hlx.le (h1.t h2|>.t h3|>.t h4|>.t h5|>.t h8|>.t h9|>.t h10|>.t h11)) _) ?_
   rintro _ _ s13 h13 ⟨rfl,rfl⟩
   refine Yqm Z Z<|Yqx Z Z Z<|Yqx Z Z Z<|qb1 Z [_,_] Z Z ?_
   intro β14 s14 h14
   refine qeX 0 [_,_] Z Z Z Z Z Z Z Z Z<|Yqa Z Z<|Yn<|Yt<|Ys<|Yr<|qwr Z Z Z Z Z<|Yql 0 Z Z Z Z Z Z<|qcq (Wd 6 Y5) Z<|Yqeq Z Z Z<|Yn<|Yt<|?_
   refine qig Z (fun c15=>?_) (fun c15=>?_)
   ·
    have hI:mnI p x kd nd=[(qaz p x nd.use.1).1.2]:=(if_neg hu).trans (if_pos c15)
    refine Yr<|Yql 5 Z Z Z Z Z Z<|qxu Z Z Z Z Z<|Yql 0 Z Z Z Z Z Z<|qxk [(_,_)] [_] Z Z Z Z Z Z Z Z Z ?_
    intro βn s16 h16 hcb
    refine qvH (sz:=1) [_,_,_,_,_,_,_,_,_] Mo L Z Z Z Z Z Z Z hO (Row.of_cells (hcb.le (Lr D)) Z Z) ⟨by simp [ti3];omega,by omega⟩ Z ?_
    intro vq Mq s17 h17 oq
    obtain ⟨Avq,cvq,rfl,_,_⟩:=Own.slice oq
    simp only [cQ9,nQ9]
    refine qeX 5 [_] Z Z Z Z Z Z Z Z Z<|Yn<|Yb<|?_
    refine ⟨(.slice Avq (acc.length+1) cvq,Mq,acc++[(qaz p x nd.use.1).1.2]),(by simp only;rw [hI]),Z,[_,_,_],Z,(h10.t h11|>.t h13|>.t h14|>.t h16|>.t h17),⟨by simp only;rw [List.length_append,qs8];exact oq,by simp only [List.length_append,List.length_cons,List.length_nil];omega⟩⟩
   have hI:mnI p x kd nd=[]:=(if_neg hu).trans (if_neg c15)
   refine Yk<|Yb<|?_
   refine ⟨(vo,Mo,acc),(by simp only;rw [hI,List.append_nil]),Z,[_,_,_],Z,(h10.t h11|>.t h13|>.t h14),⟨hO,hol⟩⟩
  have hI:mnI p x kd nd=[]:=if_pos c12
  refine Yk<|Yb<|?_
  refine ⟨(vo,Mo,acc),(by simp only;rw [hI,List.append_nil]),Z,[_,_],Z,(h10.t h11),⟨hO,hol⟩⟩
 ·
  intro l18 HH s18 h18 hY
  refine (qm5 D _ _ HH (fun (g:MnG) tw=>FL.Own 3 1 g.2.1 g.1 g.2.2.length (iv g.2.2)∧g.2.2.length≤2000) (fun _=>none) (fun g nd g1=>g1.2.2=g.2.2++mnI p x kd nd) l18 (.slice none 0 0,[],[]) (fun g=>g.2.2.length) (qcn x.body 0).length (fun g nd g1 h=>by have h:g1.2.2=g.2.2++mnI p x kd nd:=h;show g1.2.2.length≤g.2.2.length+1;rw [h,List.length_append];have:=qvn (p:=p) (x:=x) (kd:=kd) (nd:=nd);omega) (fun _ _ _ h _=>h) ?_ ⟨FL.Own.nil,Nat.zero_le _⟩ Z ba d x B1 B2 B3 m1 d1 m2 d2 m3 d3 (hba.le h18) (hbx.le (h1.t h2|>.t h3|>.t h4|>.t h5|>.t h18)) hfx.2.2.2.2.1 (by simp)).mono ?_
  · intro g nd nv s2 hl2 hI2 hp2 hc2 hN2
    obtain ⟨pa,pb,lp,rfl⟩:=hN2.agg
    exact hY g (nd,pa,pb,lp) s2 (h18.trans hl2) hI2 rfl ⟨hN2,hc2⟩
  · rintro v L' s3 _ ⟨g',h1,h2,h3⟩
    exact ⟨g',by have:=qrl h1;simpa using this,h2,h3⟩
 intro d19 g s19 h19 F19 I19
 obtain ⟨vo,Mo,acc⟩:=g
 obtain ⟨hO,hol⟩:=I19
 have hF:=F19
 simp only at hO hol hF
 dsimp only
 obtain ⟨Ao,co,rfl,_,_⟩:=Own.slice hO
 refine Yb<|Yt<|Ys<|Yr<|Yql 1 Z Z Z Z Z Z<|Rc9 Z Z Z (AC.mid [_,_,_,_,_] Mo L (qrt D _ _ 3 Mo Ao acc.length co acc hO O)) ?_
 rintro _ _ s20 h20 ⟨M2,rfl,rfl,hO2⟩
 simp only [cQ9,nQ9]
 refine Yn<|Yt<|Ys<|Yr<|Yql 1 Z Z Z Z Z Z<|Rc9 Z Z Z (AC.mid [_,_,_,_,_] M2 L (qlh D _ _ 3 M2 Ao acc.length co _ hO2)) ?_
 rintro _ _ s21 h21 ⟨M4,rfl,rfl,hO4⟩
 simp only [cQ9,nQ9]
 refine Yqa Z Z<|Yn<|Yt<|Yo<|?_
 refine qcb [_,_,_,_,_] _ (.inr Z) (.t1 Z) Z (h1.t h2|>.t h3|>.t h4|>.t h5|>.t h19|>.t h20|>.t h21) ⟨[_],Z,List.Sublist.cons_cons _ (List.nil_sublist _)⟩ fun _ hS2=>?_
 subst hF
 exact ⟨M4,rfl,fun s2 hs2 hp=>⟨_,_,_,rfl,Own.its hO4 hp rfl⟩⟩
theorem qgD(D:Nat)(L:Hl)(s:World)(p:Prg)(Ag Af:Option Addr)(ng cg nf cf bm d:Nat)(hM:NmOK s bm p)(x:Fnc)(B1 B2 B3:Option Addr)(m1 d1 m2 d2 m3 d3:Nat)(hpx:Strs s B1 m1 d1 x.params)(hlx:Strs s B2 m2 d2 x.locals)(hbx:Stms d s B3 m3 d3 x.body)(hfx:fnV x)(kd:Int):AC Tryz.prog D 40 [.agg #[.slice Ag ng cg,.slice Af nf cf,.map (some bm)],.agg #[St x.name,.slice B1 m1 d1,.slice B2 m2 d2,.slice B3 m3 d3],.int .i64 kd] L s fun v L' s'=>L=L'∧LsR s' (msP p x kd) v:=AC.pubW (qiE D L s p Ag Af ng cg nf cf bm d hM x B1 B2 B3 m1 d1 m2 d2 m3 d3 hpx hlx hbx hfx kd)
def ClsR(p:Prg)(s:World)(A:Option Addr)(n c:Nat)(l:List Fnc):Prop:=Sl 1 (fun s x cs=>∃ v,cs=[v]∧LsR s (msP p x 4) v) s A n c l
theorem ClsR.le{D:Nat}{p:Prg}{s s':World}{A:Option Addr}{n c:Nat}{l:List Fnc}(h:ClsR p s A n c l)(hl:Le D s s'):ClsR p s' A n c l:=Sl.le (fun _ _ ⟨v,h1,h2⟩=>⟨v,h1,h2.le hl⟩) h hl
theorem ClsR.at_{p:Prg}{s:World}{A:Option Addr}{n c k:Nat}{l:List Fnc}(h:ClsR p s A n c l)(hk:k < n):∃ b off x A' n' c',A=some ⟨b,off,none⟩∧l[k]?=some x∧CellsAt s b (off+k) [.slice A' n' c']∧Its s A' n' c' (msP p x 4):=by
 have hl:k < l.length:=by rw [← h.1];exact hk
 obtain ⟨b,off,cs,h1,h2,_,v,rfl,A',n',c',rfl,h3⟩:=h.2.2.2 k l[k] (List.getElem?_eq_getElem hl)
 exact ⟨b,off,l[k],A',n',c',h1,List.getElem?_eq_getElem hl,by simpa using h2,h3⟩
def qhe(p:Prg):List Fnc:=if (qbM p).1≠0 then [] else p.funcs
theorem qsX(l:List Value):l=(l.map fun x=>[x]).flatten:=by
 induction l with
 | nil=>rfl
 | cons x l ih=>simp only [List.map_cons,List.flatten_cons,List.cons_append,List.nil_append];rw [← ih]
theorem qof{α:Type}{R:α→Value→Prop}{l:List α}{vs:List Value}(h:All2 R l vs):All2 (fun x cs=>cs.length=1∧∃ v,cs=[v]∧R x v) l (vs.map fun v=>[v]):=by
 induction h with
 | nil=>exact .nil
 | cons h _ ih=>exact .cons ⟨rfl,_,rfl,h⟩ ih
theorem Own.cls{e:Nat}{p:Prg}{A:Hl}{Ad:Option Addr}{n c:Nat}{l:List Fnc}{vs:List Value}{s:World}(h:FL.Own e 1 A (.slice Ad n c) n vs)(ha:All2 (fun x v=>LsR s (msP p x 4) v) l vs)(hp:Pub A s)(hn:n=l.length):ClsR p s Ad n c l:=
 Own.rows (R:=fun s x cs=>∃ v,cs=[v]∧LsR s (msP p x 4) v) (qsX vs▸h) hp (qof ha) hn
theorem qtX(p:Prg)(s:World):ClsR p s none 0 0 []:=⟨rfl,Nat.le_refl _,by omega,fun i x h=>by cases h⟩
theorem qlj{l:List Fnc}{k:Nat}{x:Fnc}(h:l[k]?=some x):l.take (k+1)=l.take k++[x]:=by
 obtain ⟨hk,rfl⟩:=List.getElem?_eq_some_iff.1 h
 exact List.take_succ_eq_append_getElem hk
theorem qmx(D:Nat)(L:Hl)(s:World)(hG:GP s)(d:Nat)(p:Prg)(Ag Af:Option Addr)(ng cg nf cf:Nat)(hGl:Glos s Ag ng cg p.globals)(hFn:Fncs d s Af nf cf p.funcs):AC Tryz.prog D 33 [.agg #[.slice Ag ng cg,.slice Af nf cf]] L s fun v L' s'=>∃ M',L'=M'++L∧∀ s2,Le D s' s2→Pub M' s2→∃ A n c,v=.tuple #[.slice A n c,.agg #[.int .i64 (qbM p).1,.int .i64 (qbM p).2]]∧ClsR p s2 A n c (qhe p):=by
 have hn1:=hGl.1
 have hn2:=hFn.1
 have hU:prU p:=⟨hGl.u,hFn.u⟩
 refine qai (fn:=Tryz.f33) qaq Tryz.func33 V Z Tryz.ntmps33 Z (rs:=[.tmp 2,.cell 3 33]) Z [(0,_)] Z<|Sr<|qau Z Z ?_
 intro β1 s1 h1
 refine Zqa Z Z<|qae Z [_,_] Z Z ?_
 intro β2 s2 h2
 refine Nt<|Zs<|Sr<|qaf (qan 1 [_,_] Z Z Z Z Z) Z<|Jc Z Z Z (qdt D _ _ (hG.le (h1.t h2)) d p Ag _ ng cg nf cf (hGl.le (h1.t h2)) (hFn.le (h1.t h2))) ?_
 rintro _ _ s3 h3 ⟨rfl,rfl⟩
 refine qae Z [_,_] Z Z ?_
 intro β4 s4 h4
 refine Wt 0 [_,_] Y9<|Nt<|Sr<|qaf (qan 0 [_,_] Z Z Z Z Z) Z<|qaf (qam [] [_,_] Z Z Z Z Z Z) Z<|qaf (qdY Z Z (qbX _ _ _ _)) Z<|Nt<|?_
 refine qaK Z (fun c5=>?_) (fun c5=>?_)
 ·
  have hb0:(qbM p).1≠0:=fun h=>c5 (by rw [qiz hU h];exact ⟨rfl,rfl⟩)
  have hC:qhe p=[]:=if_pos hb0
  refine Zs<|qcJ qag 3 Z [1] (by intro x hx;exact qbo hx) ?_
  intro s6 h6
  refine za 0 Z (qan 0 [_,_] Z Z Z Z Z) Z<|za 1 Z (qaY Z) Z<|qal 2 V<|Wu Z Tt 1 [_,_] Y9 (sM (qb3 (sbE _)))<|qad V<|Zt<|Zo<|Zu<|?_
  refine rR [_,_,_] _ (.tmp Z (.agg (us:=[_,_]) 1 Z Z Z Z Z (.nil))) Z (h1.t h2|>.t h3|>.t h4|>.t h6) fun _ hS2=>?_
  rw [hC];exact ⟨[],rfl,fun s2 hs2 hp=>⟨none,0,0,rfl,qtX p s2⟩⟩
 have g4:=c5
 have g14:¬ (qbM p).1≠0:=fun h=>h g4.1
 obtain ⟨hOK,hz0⟩:=OKP.of hU g4.1
 have hV:=hOK.1
 have hV1:=hV.1
 have hV2:=hV.2.1
 have hVf:=hV.2.2.2.1
 have hND:=(qc5 (p:=p) (by rw [hOK.2.1])).1
 have hC:qhe p=p.funcs:=if_neg g14
 refine Zk<|Zt<|Sr<|qaf (qan 2 [_,_] Z Z Z Z Z) Z<|Jc Z Z Z (qca D _ _ d p Ag _ ng cg nf cf (hGl.le (h1.t h2|>.t h3|>.t h4)) (hFn.le (h1.t h2|>.t h3|>.t h4)) hND) ?_
 rintro _ _ s7 h7 ⟨rfl,bm,rfl,hM⟩
 refine qae Z [_,_,_] Z Z ?_
 intro β8 s8 h8
 refine Wt 0 [_,_,_] Y9<|Nt<|Sr<|At Z Z<|Zs<|Sr<|Wb Y5<|Wl 3 Y6<|Ws Y4<|Zqm Z Z<|Nt<|Zp<|?_
 refine qat (γ:=Nat×Value×Hl×List Value) (fun g=>[(2,_),(3,_),(5,_),(6,g.2.1),(18,_),(19,_),(20,.int .i64 (g.1:Int))]) (fun g=>_::_::_::_::(g.2.2.1++L)) (fun g tw=>Le D s8 tw∧(g.1≤nf∧FL.Own 91 1 g.2.2.1 g.2.1 g.1 g.2.2.2∧All2 (fun x v=>LsR tw (msP p x 4) v) (p.funcs.take g.1) g.2.2.2)) (fun g=>nf - g.1) (fun _ _ _ h hl=>⟨h.1.trans hl,⟨h.2.1,h.2.2.1,h.2.2.2.mono fun _ _ q=>q.le hl⟩⟩) (0,.slice none 0 0,[],[]) (.c6 Z Z Z Z Z Z (.cons Z (.nil _))) Z ⟨Le.refl _,⟨Nat.zero_le _,FL.Own.nil,.nil⟩⟩ ?_
 intro g s9 I9
 obtain ⟨k,vo,Mo,vs⟩:=g
 obtain ⟨hk0,hO,hcs⟩:=I9.2
 simp only at hk0 hO hcs
 dsimp only
 obtain ⟨Ao,co,rfl,_,_⟩:=Own.slice hO
 refine Sr<|qba Z Z Z<|Nt<|Zs<|?_
 refine qab Z (fun c10=>?_) (fun c10=>?_)
 ·
  have hk:k < nf:=by omega
  obtain ⟨b,off,x,B1,m1,d1,B2,m2,d2,B3,m3,d3,rfl,hx,hcx,hpx,hlx,hbx,hnl⟩:=Fncs.at_ (hFn.le (h1.t h2|>.t h3|>.t h4|>.t h7|>.t h8|>.t I9.1)) hk
  have hfx:=hVf x (List.mem_of_getElem? hx)
  refine Zk<|Zt<|Zs<|Zp<|Sr<|qaf (qap Z Z Z Z Z Z hk) Z<|qaf (qas Z Z Z (hcx.le (Lr D)) Z) Z<|qae Z [_,_,_,_] Z Z ?_
  intro β11 s11 h11
  refine Wt 0 [_,_,_,_] Y9<|Nt<|Zr<|Zqm Z Z<|qaf (qan 1 [_,_,_] Z Z Z Z Z) Z<|qaf (qan 0 [_,_,_,_] Z Z Z Z Z) Z<|Jc Z Z Z (qgD D _ _ p Ag _ ng cg nf cf bm d (hM.le (h8.t I9.1|>.t h11)) x B1 B2 B3 m1 d1 m2 d2 m3 d3 (hpx.le h11) (hlx.le h11) (hbx.le h11) hfx 4) ?_
  rintro _ _ s12 h12 ⟨rfl,Aw,nw,cw,rfl,hIw⟩
  refine qbt [(_,_)] [_] Z Z Z Z Z Z Z Z Z ?_
  intro βn s13 h13 hcb
  refine qbd (sz:=1) [_,_,_,_,_] Mo L Z Z Z Z Z Z Z hO (Row.of_cells (hcb.le (Lr D)) Z Z) ⟨by simp [ti91];omega,by omega⟩ Z ?_
  intro vq Mq s14 h14 oq
  obtain ⟨Avq,cvq,rfl,_,_⟩:=Own.slice oq
  simp only [cQ9,nQ9]
  refine Zqa Z Z<|Zn<|Zb<|Zt<|Zr<|qaG Z Z Z (w64 O O)<|Zqm Z Z<|Zn<|?_
  refine qaa ⟨(k+1,.slice Avq (k+1) cvq,Mq,vs++[.slice Aw nw cw]),[_],kp,Z,⟨(I9.1.t h11|>.t h12|>.t h13|>.t h14),⟨by simp only;omega,oq,by simp only;rw [qlj hx];exact All2.snoc (hcs.mono fun _ _ q=>q.le (h11.t h12|>.t h13|>.t h14)) ⟨_,_,_,Z,hIw.le (h13.t h14)⟩⟩⟩,Oz⟩
 obtain rfl:k=nf:=by omega
 rw [List.take_of_length_le O] at hcs
 refine Zl<|Zv<|Zv<|Zd<|Zt<|Sr<|Zqm Z Z<|qaf (qam [] [_,_] Z Z Z Z Z Z) Z<|Zqa Z Z<|Wt 2 [_,_] Y9<|Nt<|Zo<|?_
 refine rR [_,_,_,_] _ (.tmp Z (.agg (us:=[_,_]) 2 Z Z Z Z Z (.nil))) Z (h1.t h2|>.t h3|>.t h4|>.t h7|>.t h8|>.t I9.1) fun _ hS2=>?_
 rw [hC,hz0];exact ⟨Mo,rfl,fun s2 hs2 hp=>⟨_,_,_,rfl,Own.cls hO (hcs.mono fun _ _ q=>q.le ((Lr D).t (hS2.t hs2))) hp hn2⟩⟩
theorem qkj(D:Nat)(L:Hl)(s:World)(hG:GP s)(d:Nat)(p:Prg)(Ag Af:Option Addr)(ng cg nf cf:Nat)(hGl:Glos s Ag ng cg p.globals)(hFn:Fncs d s Af nf cf p.funcs):AC Tryz.prog D 33 [.agg #[.slice Ag ng cg,.slice Af nf cf]] L s fun v L' s'=>L=L'∧∃ A n c,v=.tuple #[.slice A n c,.agg #[.int .i64 (qbM p).1,.int .i64 (qbM p).2]]∧ClsR p s' A n c (qhe p):=AC.pubW (qmx D L s hG d p Ag Af ng cg nf cf hGl hFn)
end Go.Proofs.YtpdnijphccdiiaaGreatDoor
namespace Go.FL
open Go Go.RowKit
section
variable{P:Program}{TT:qaV}{D n:Nat}{Q:qbD}{fr:Fr}{L K:Hl}{s s0:World}{ops:Array Oper}{rest:List Oper}{d ty:Nat}{pos:String}{af:Array Edge}
theorem qku{x:Operand}{A:Option Addr}{m c t t' e:Nat}{ti:TI}(hx:lk fr x=some (.slice A m c))(ht:qaE TT t=some ti)(hk:ti.kind=.sl e):QE P TT D fr (.binOp .eql t x (.const (.slice none 0 0)) t') ty K s0 (.bool A.isNone):=
 QE.pure fun hT dst pos af g ρ hρ w=>by
  have hc:=hρ (.const (.slice none 0 0)) _ rfl
  have hu:P.underlying t=some (.slice e):=by
   obtain ⟨h1,h2,_⟩:=hT.at_ ht
   rw [hk] at h2
   rw [h1]
   exact congrArg some h2
  have h:=Lib.run_eql_slice_nil (P:=P) w t e A m c 0 0 hu
  simp [execOp,hρ x _ hx,hc,eqGuard,h]
theorem JA_4{fuel:Nat}{listed:Array Bool}(i j m o:Nat)(hr:Region.ready .any ops listed=[i,j,m,o])(h:JB P TT D n ops Q K s0 fuel listed i fr L s)(h':JB P TT D n ops Q K s0 fuel listed j fr L s)(h'':JB P TT D n ops Q K s0 fuel listed m fr L s)(h4:JB P TT D n ops Q K s0 fuel listed o fr L s):JA P TT D n ops Q K s0 (fuel+1) listed fr L s:=
 qjL hr (by simp) (by simpa using ⟨h,h',h'',h4⟩)
theorem qbZ(M1 X F L:Hl):(M1++(X++(F++L))).Perm (X++((F++M1)++L)):=by
 have:=List.perm_append_comm_assoc M1 (X++F) L
 simpa [List.append_assoc] using this
theorem qk1{P:Program}{TT:qaV}{D:Nat}{fr:Fr}{ty:Nat}{K:Hl}{s0:World}{κ:Type} [DecidableEq κ] {dk:TypeDesc} {kf:κ→Value} (KK:KeyK κ dk kf) {t b:Nat} {x y:Operand} {z:Value} (hm:qkz P t dk z) {es:List (κ×Value×Nat)} {k:κ} (hx:lk fr x=some (.map (some b))) (hy:lk fr y=some (kf k)) (hi:MapS s0 kf b es) :
  QE P TT D fr (.lookup t x y false) ty K s0 ((qcx es k).getD z):=fun hT dst pos af g ρ hρ L s ho hl hK=>by
 obtain ⟨ck,hb⟩:=hi.le (hl.trans (qdl ho))
 simp only [execOp,hρ x _ hx,hρ y _ hy,Sem.run_bind,qgx KK hm hb,Result.andThen_ok,Sem.run_pure]
 rfl
end
inductive All3{α β γ:Type}(R:α→β→γ→Prop):List α→List β→List γ→Prop
 | nil:All3 R [] [] []
 | cons {a b c us vs ws}:R a b c→All3 R us vs ws→All3 R (a::us) (b::vs) (c::ws)
section
variable{α β γ:Type}{R S:α→β→γ→Prop}
theorem All3.len{us:List α}{vs:List β}{ws:List γ}(h:All3 R us vs ws):us.length=vs.length∧ws.length=vs.length:=by
 induction h with
 | nil=>exact ⟨rfl,rfl⟩
 | cons _ _ ih=>exact ⟨by simp [ih.1],by simp [ih.2]⟩
theorem All3.app{us us':List α}{vs vs':List β}{ws ws':List γ}(h:All3 R us vs ws)(h':All3 R us' vs' ws'):All3 R (us++us') (vs++vs') (ws++ws'):=by
 induction h with
 | nil=>exact h'
 | cons h1 _ ih=>exact .cons h1 ih
theorem All3.mono(hR:∀ a b c,R a b c→S a b c){us:List α}{vs:List β}{ws:List γ}(h:All3 R us vs ws):All3 S us vs ws:=by
 induction h with
 | nil=>exact .nil
 | cons h1 _ ih=>exact .cons (hR _ _ _ h1) ih
theorem All3.at_{us:List α}{vs:List β}{ws:List γ}(h:All3 R us vs ws){k:Nat}(hk:k < vs.length):∃ us1 a us2 vs1 b vs2 ws1 c ws2,us=us1++a::us2∧vs=vs1++b::vs2∧ws=ws1++c::ws2∧vs1.length=k∧R a b c∧All3 R us1 vs1 ws1∧All3 R us2 vs2 ws2:=by
 induction h generalizing k with
 | nil=>exact absurd hk (Nat.not_lt_zero _)
 | @cons a b c us vs ws h1 h2 ih=>
  cases k with
  | zero=>exact ⟨[],a,us,[],b,vs,[],c,ws,rfl,rfl,rfl,rfl,h1,.nil,h2⟩
  | succ k=>
   obtain ⟨us1,a',us2,vs1,b',vs2,ws1,c',ws2,rfl,rfl,rfl,e,r1,r2,r3⟩:=ih (k:=k) (by simpa using hk)
   exact ⟨a::us1,a',us2,b::vs1,b',vs2,c::ws1,c',ws2,rfl,rfl,rfl,by simp [e],r1,.cons h1 r2,r3⟩
theorem qiI{Ms:List Hl}{xs:List β}{css:List γ}{R:Hl→β→γ→Prop}{P:Nat×Obj→Prop}(h:All3 R Ms xs css)(hR:∀ M x cs,R M x cs→∀ y∈M,P y):∀ y∈Ms.flatten,P y:=by
 induction h with
 | nil=>exact fun y h=>by cases h
 | cons h1 _ ih=>
  intro y hy
  rw [List.flatten_cons] at hy
  rcases List.mem_append.1 hy with hy | hy
  · exact hR _ _ _ h1 y hy
  · exact ih y hy
end
theorem qtH{P c Q:List Value}{off j:Nat}(h:P.length=off)(hj:j < c.length):nth (P++(c++Q)) (off+j)=nth c j:=by
 rw [qdv,qdv,List.getElem?_append_right O,show off+j - P.length=j by omega,List.getElem?_append_left hj]
theorem qu7{zs vs:List Value}{off n:Nat}(hn:vs.length=n)(h:∀ j v,vs[j]?=some v→zs[off+j]?=some v):cut zs off n=some vs:=by
 induction n generalizing off vs with
 | zero=>rw [List.eq_nil_of_length_eq_zero hn];rfl
 | succ n ih=>
  cases vs with
  | nil=>cases hn
  | cons v vs=>
   have h1:=ih (off:=off+1) (vs:=vs) (by simpa using hn) fun j u hj=>by
    have:=h (j+1) u (by simpa using hj)
    rwa [show off+1+j=off+(j+1) by omega]
   have h0:=h 0 v rfl
   simp only [cut,qdv]
   rw [show zs[off]?=some v from h0]
   simp only [h1]
theorem qsz{P c Q:List Value}{off n:Nat}(h:P.length=off)(hn:c.length=n):cut (P++(c++Q)) off n=some c:=by
 refine qu7 hn fun j v hj=>?_
 have hl:=(List.getElem?_eq_some_iff.1 hj).1
 rw [List.getElem?_append_right O,show off+j - P.length=j by omega,List.getElem?_append_left hl];exact hj
theorem qkV{P c v Q:List Value}{off:Nat}(h:P.length=off)(hv:v.length=c.length):qbW (P++(c++Q)) off v=P++(v++Q):=by
 rw [qdu _ _ _ (by simp only [List.length_append];omega),List.take_append_of_le_length O,List.take_of_length_le O,List.append_assoc]
 congr 2
 rw [← List.append_assoc,List.drop_append_of_le_length (by simp only [List.length_append];omega),List.drop_of_length_le (by simp only [List.length_append];omega)];rfl
theorem qtD{P c Q:List Value}{off n:Nat}(h:P.length=off)(hn:c.length=n):Nat.ble (off+n) (P++(c++Q)).length=true:=Nat.ble_eq_true_of_le (by simp only [List.length_append];omega)
end Go.FL
namespace Go.Proofs.YtpdnijphccdiiaaGreatDoor
open Go Go.FL Go.RowKit
theorem qh0{β γ:Type}{Ms:List Hl}{xs:List β}{css:List γ}{R:Hl→β→γ→Prop}{S:β→γ→Prop}(h:All3 R Ms xs css)(hR:∀ M∈Ms,∀ x cs,R M x cs→S x cs):All2 S xs css:=by
 induction h with
 | nil=>exact .nil
 | cons h1 _ ih=>exact .cons (hR _ Mc _ _ h1) (ih fun M hM=>hR M (List.mem_cons_of_mem _ hM))
def OX:Nat→Hl→Ex→List Value→Prop
 | 0,_,_,_=>False
 | d+1,M,x,cs=>∃ A n c,cs=[.int .i64 x.kind,.int .i64 x.op,.int .u32 x.num,St x.name,.slice A n c]∧(∃ css Ms R,FL.Own 89 5 R (.slice A n c) n css.flatten∧M=R++Ms.flatten∧All3 (OX d) Ms x.args css∧n=x.args.length)∧U32 x.num∧x.name.length≤9223372036854775807
def OXs(d:Nat)(M:Hl)(A:Option Addr)(n c:Nat)(xs:List Ex):Prop:=∃ css Ms R,FL.Own 89 5 R (.slice A n c) n css.flatten∧M=R++Ms.flatten∧All3 (OX d) Ms xs css∧n=xs.length
theorem OX.eq{d:Nat}{M:Hl}{x:Ex}{cs:List Value}(h:OX d M x cs):∃ e A n c,d=e+1∧cs=[.int .i64 x.kind,.int .i64 x.op,.int .u32 x.num,St x.name,.slice A n c]∧OXs e M A n c x.args∧U32 x.num∧x.name.length≤9223372036854775807:=by
 cases d with
 | zero=>exact h.elim
 | succ e=>obtain ⟨A,n,c,h1,h2,h3⟩:=h;exact ⟨e,A,n,c,rfl,h1,h2,h3⟩
theorem OX.mk{d:Nat}{M:Hl}{x:Ex}{A:Option Addr}{n c:Nat}(h:OXs d M A n c x.args)(hu:U32 x.num)(hl:x.name.length≤9223372036854775807):OX (d+1) M x [.int .i64 x.kind,.int .i64 x.op,.int .u32 x.num,St x.name,.slice A n c]:=⟨A,n,c,rfl,h,hu,hl⟩
theorem OXs.nil(d:Nat):OXs d [] none 0 0 []:=⟨[],[],[],.nil,rfl,.nil,rfl⟩
theorem qe1{Ms:List Hl}{s:World}(h:Pub Ms.flatten s):∀ M∈Ms,Pub M s:=fun M hM b zs t hm=>h b zs t (List.mem_flatten.2 ⟨M,hM,hm⟩)
theorem OX.pub{s:World}:∀ {d:Nat} {M:Hl} {x:Ex} {cs:List Value},OX d M x cs→Pub M s→cs.length=5∧ExR d s x cs:=by
 intro d
 induction d with
 | zero=>exact fun h=>h.elim
 | succ d ih=>
  intro M x cs h hp
  obtain ⟨A,n,c,rfl,⟨css,Ms,R,k1,rfl,k3,k4⟩,h3,h4⟩:=h
  exact ⟨rfl,A,n,c,rfl,Own.rows k1 hp.left (qh0 k3 fun M hM x cs h=>ih h (qe1 hp.right M hM)) k4,h3,h4⟩
theorem OXs.pub{s:World}{d:Nat}{M:Hl}{A:Option Addr}{n c:Nat}{xs:List Ex}(h:OXs d M A n c xs)(hp:Pub M s):Exs d s A n c xs:=by
 obtain ⟨css,Ms,R,k1,rfl,k3,k4⟩:=h
 exact Own.rows k1 hp.left (qh0 k3 fun M hM x cs h=>h.pub (qe1 hp.right M hM)) k4
theorem OX.cb{D:Nat}:∀ {d:Nat} {M:Hl} {x:Ex} {cs:List Value},OX d M x cs→∀ y∈M,y.2≠dum D:=by
 intro d
 induction d with
 | zero=>exact fun h=>h.elim
 | succ d ih=>
  intro M x cs h
  obtain ⟨A,n,c,rfl,⟨css,Ms,R,k1,rfl,k3,k4⟩,h3,h4⟩:=h
  intro y hy
  rcases List.mem_append.1 hy with hy | hy
  · exact qj9 k1 y hy
  · exact qiI k3 (fun M x cs h=>ih h) y hy
theorem OXs.cb{D d:Nat}{M:Hl}{A:Option Addr}{n c:Nat}{xs:List Ex}(h:OXs d M A n c xs):∀ y∈M,y.2≠dum D:=by
 obtain ⟨css,Ms,R,k1,rfl,k3,k4⟩:=h
 intro y hy
 rcases List.mem_append.1 hy with hy | hy
 · exact qj9 k1 y hy
 · exact qiI k3 (fun M x cs h=>h.cb) y hy
theorem qnA{d:Nat}{Ms:List Hl}{xs:List Ex}{css:List (List Value)}(h:All3 (OX d) Ms xs css):css.flatten.length=xs.length * 5:=by
 induction h with
 | nil=>rfl
 | cons h1 _ ih=>
  obtain ⟨e,A,n,c,_,rfl,_⟩:=h1.eq
  simp only [List.flatten_cons,List.length_append,ih,List.length_cons,List.length_nil];omega
open Go.Proofs.Tryz
open Go.FL
attribute [local irreducible] JC JO JA JB qaO qaD qbV AC fill CellsAt QE Ev Mid
theorem qva{s:World}{A:Option Addr}{n c:Nat}{l:List Str}(h:Strs s A n c l):∀ x∈l,x.length≤9223372036854775807:=fun x hx=>by
 obtain ⟨k,hk⟩:=List.getElem?_of_mem hx
 have hl:=(List.getElem?_eq_some_iff.1 hk).1
 obtain ⟨b,off,y,_,h2,_,h4⟩:=Strs.at_ h (show k < n by rw [h.1];exact hl)
 rw [hk] at h2;injection h2 with h2;subst h2;exact h4
theorem qkN(D:Nat)(L:Hl)(s:World)(A:Option Addr)(n c:Nat)(l:List Int)(hW:Wds s A n c l)(hn:n≤4000000):AC prog D 69 [.slice A n c] L s fun v L' s'=>∃ M',L'=M'++L∧∀ s2,Le D s' s2→Pub M' s2→∃ A' n' c',v=.slice A' n' c'∧Wds s2 A' n' c' l:=by
 refine qai (fn:=f69) qaq func69 V Z ntmps69 Z (rs:=[.tmp 2]) Z [(0,_)] Z<|Sr<|At Z Z<|Zs<|Sr<|Zqm Z Z<|qaf (qku Z Z Z) Z<|Nt<|?_
 refine qes Z (fun c1=>?_) (fun c1=>?_)
 ·
  obtain rfl:A=none:=by simpa using c1
  have hn0:n=0:=by
    rcases Nat.eq_zero_or_pos n with h | h
    · exact h
    · obtain ⟨b,off,x,e0,_⟩:=Wds.at_ hW h
      cases e0
  obtain rfl:l=[]:=List.eq_nil_of_length_eq_zero (by have:=hW.1;omega)
  refine Sr<|At Z Z<|Zo<|Zu<|?_
  refine rR [] _ (.t1 Z) Z (Lr D) fun _ hS2=>?_
  exact ⟨[],rfl,fun s2 hs2 hp=>⟨none,0,0,rfl,Wds.nil s2 none 0 O⟩⟩
 refine Zk<|Zt<|Sr<|qq2 (sz:=1) Z Z Z Z ?_
 intro βz s2 h2 oz
 refine Zqm Z Z<|qbd (sz:=1) [] _ L Z Z Z Z Z Z Z oz (hW.le h2).row ⟨by simp [ti29];omega,by omega⟩ Z ?_
 intro vq Mq s3 h3 oq
 obtain ⟨Avq,cvq,rfl,_,_⟩:=Own.slice oq
 rw [Nat.zero_add,List.nil_append] at oq
 simp only [List.nil_append]
 refine At Z Z<|Zo<|?_
 refine rR [] _ (.t1 Z) Z (h2.t h3) fun _ hS2=>?_
 exact ⟨Mq,rfl,fun s2 hs2 hp=>⟨_,_,_,rfl,by have:=Own.wds oq (Wds.u32 hW) hp;simpa using this⟩⟩
theorem qkE(D:Nat)(L:Hl)(s:World)(A:Option Addr)(n c:Nat)(l:List Str)(hW:Strs s A n c l)(hn:n≤4000000):AC prog D 70 [.slice A n c] L s fun v L' s'=>∃ M',L'=M'++L∧∀ s2,Le D s' s2→Pub M' s2→∃ A' n' c',v=.slice A' n' c'∧Strs s2 A' n' c' l:=by
 refine qai (fn:=f70) qaq func70 V Z ntmps70 Z (rs:=[.tmp 2]) Z [(0,_)] Z<|Sr<|At Z Z<|Zs<|Sr<|Zqm Z Z<|qaf (qku Z Z Z) Z<|Nt<|?_
 refine qes Z (fun c1=>?_) (fun c1=>?_)
 ·
  obtain rfl:A=none:=by simpa using c1
  have hn0:n=0:=by
    rcases Nat.eq_zero_or_pos n with h | h
    · exact h
    · obtain ⟨b,off,x,e0,_⟩:=Strs.at_ hW h
      cases e0
  obtain rfl:l=[]:=List.eq_nil_of_length_eq_zero (by have:=hW.1;omega)
  refine Sr<|At Z Z<|Zo<|Zu<|?_
  refine rR [] _ (.t1 Z) Z (Lr D) fun _ hS2=>?_
  exact ⟨[],rfl,fun s2 hs2 hp=>⟨none,0,0,rfl,⟨rfl,Nat.le_refl _,by omega,fun i x h=>by cases h⟩⟩⟩
 refine Zk<|Zt<|Sr<|qq2 (sz:=1) Z Z Z Z ?_
 intro βz s2 h2 oz
 refine Zqm Z Z<|qbd (sz:=1) [] _ L Z Z Z Z Z Z Z oz (hW.le h2).row ⟨by simp [ti9];omega,by omega⟩ Z ?_
 intro vq Mq s3 h3 oq
 obtain ⟨Avq,cvq,rfl,_,_⟩:=Own.slice oq
 rw [Nat.zero_add,List.nil_append] at oq
 simp only [List.nil_append]
 refine At Z Z<|Zo<|?_
 refine rR [] _ (.t1 Z) Z (h2.t h3) fun _ hS2=>?_
 exact ⟨Mq,rfl,fun s2 hs2 hp=>⟨_,_,_,rfl,by have:=Own.strs oq (qva hW) hp hW.1;simpa using this⟩⟩
theorem qnG(D:Nat)(L:Hl)(s:World)(A:Option Addr)(n c:Nat)(l:List Int)(hW:Wds s A n c l)(hn:n≤4000000):AC prog D 69 [.slice A n c] L s fun v L' s'=>L=L'∧∃ A' n' c',v=.slice A' n' c'∧Wds s' A' n' c' l:=AC.pubW (qkN D L s A n c l hW hn)
theorem qaQ(D:Nat)(L:Hl)(s:World)(A:Option Addr)(n c:Nat)(l:List Str)(hW:Strs s A n c l)(hn:n≤4000000):AC prog D 70 [.slice A n c] L s fun v L' s'=>L=L'∧∃ A' n' c',v=.slice A' n' c'∧Strs s' A' n' c' l:=AC.pubW (qkE D L s A n c l hW hn)
theorem qhn{x:Ex}:∀ {l:List Ex} {k:Nat},l[k]?=some x→qdG x.args+k+1≤qdG l
 | [],k,h=>by cases h
 | .mk a b c d e::r,0,h=>by
  simp at h;subst h
  rw [qdG,exN];simp only [Ex.args];omega
 | .mk a b c d e::r,k+1,h=>by
  have:=qhn (l:=r) (k:=k) (by simpa using h)
  rw [qdG,exN];omega
theorem qjT:∀ l:List Ex,l.length≤qdG l
 | []=>Nat.le_refl _
 | .mk a b c d e::r=>by have:=qjT r;rw [qdG,exN,List.length_cons];omega
theorem qaT{α:Type}{l:List α}{k:Nat}{x:α}(h:l[k]?=some x):l.take (k+1)=l.take k++[x]:=by
 obtain ⟨hk,rfl⟩:=List.getElem?_eq_some_iff.1 h
 exact List.take_succ_eq_append_getElem hk
theorem qga{α β γ:Type}{R:α→β→γ→Prop}{us:List α}{vs:List β}{ws:List γ}{a:α}{b:β}{c:γ}(h:All3 R us vs ws)(h1:R a b c):All3 R (us++[a]) (vs++[b]) (ws++[c]):=h.app (.cons h1 .nil)
def CLX(D d:Nat):Prop:=∀ (L:Hl) (s:World) (A:Option Addr) (n c:Nat) (xs:List Ex),Exs d s A n c xs→qdG xs≤4000000→AC prog D 110 [.slice A n c] L s fun v L' _=>∃ M',L'=M'++L∧∃ A' n' c',v=.slice A' n' c'∧OXs d M' A' n' c' xs
theorem qjB(D d:Nat)(ih:∀ e,d=e+1→CLX D e)(L:Hl)(s:World)(A:Option Addr)(n c:Nat)(xs:List Ex)(hA:Exs d s A n c xs)(hx9:qdG xs≤4000000):AC prog D 110 [.slice A n c] L s fun v L' _=>∃ M',L'=M'++L∧∃ A' n' c',v=.slice A' n' c'∧OXs d M' A' n' c' xs:=by
 have hn:=hA.1
 have hc1:=hA.2.1
 have hc2:=hA.2.2.1
 have hl9:=qjT xs
 refine qai (fn:=f110) qaq func110 V Z ntmps110 Z (rs:=[.tmp 2]) Z [(0,_)] Z<|Sr<|At Z Z<|Sr<|At Z Z<|Zs<|Sr<|Zqm Z Z<|Ws Y4<|Zqm Z Z<|Nt<|Zp<|?_
 refine qat (γ:=Nat×Value×Hl×Hl) (fun g=>[(2,_),(3,g.2.1),(6,_),(7,_),(8,.int .i64 (g.1:Int))]) (fun g=>g.2.2.1++(g.2.2.2++L)) (fun g tw=>Le D s tw∧(g.1≤n∧∃ css Ms,FL.Own 89 5 g.2.2.1 g.2.1 g.1 (List.flatten css)∧g.2.2.2=List.flatten Ms∧All3 (OX d) Ms (xs.take g.1) css)) (fun g=>n - g.1) (fun _ _ _ h hl=>⟨h.1.trans hl,h.2⟩) (0,.slice none 0 0,[],[]) (.c5 Z Z Z Z Z (.nil _)) Z ⟨Le.refl _,⟨Nat.zero_le _,[],[],FL.Own.nil,Z,.nil⟩⟩ ?_
 intro g s1 I1
 obtain ⟨k,vo,Mo,Fo⟩:=g
 obtain ⟨hk0,css,Ms,hO,hF,hA3⟩:=I1.2
 simp only at hk0 hO hF hA3
 dsimp only
 obtain ⟨Ao,co,rfl,_,_⟩:=Own.slice hO
 refine Sr<|qba Z Z Z<|Nt<|Zs<|?_
 refine qab Z (fun c2=>?_) (fun c2=>?_)
 ·
  have hk:k < n:=by omega
  obtain ⟨e,b,off,x,A',n',c',hd,rfl,hx,hcx,hax,hux,hnl⟩:=Exs.at_ (hA.le I1.1) hk
  have hx8:=qhn hx
  refine Zk<|Zt<|Zs<|Zp<|Sr<|qaf (qap Z Z Z Z Z Z hk) Z<|qaf (qas Z Z Z (hcx.le (Lr D)) Z) Z<|qae Z [_,_,_,_,_] Z Z ?_
  intro β3 s3 h3
  refine Wt 0 [_,_,_,_,_] Y9<|Nt<|Sr<|Wb Y5<|Wl 0 Y6<|Jc Z Z Z (AC.mid [_] [] (Mo++(Fo++L)) (ih e hd _ _ A' n' c' x.args (hax.le h3) O)) ?_
  rintro _ _ s4 h4 ⟨M1,rfl,A1,n1,c1,rfl,hM1⟩
  simp only [cQ9,nQ9]
  refine Wb Y5<|Wt 0 [_,_,_,_,_] Y9<|Nt<|qeE (L':=_::(Mo++((Fo++M1)++L))) (List.Perm.cons _ (qbZ M1 Mo Fo L))<|Zr<|Zqm Z Z<|qaf (qan 0 [_,_,_,_,_] Z Z Z Z Z) Z<|qbt [(_,_)] [_,_,_,_,_] Z Z Z Z Z Z Z Z Z ?_
  intro βn s5 h5 hcb
  refine qbd (sz:=5) [_] Mo ((Fo++M1)++L) Z Z Z Z Z Z Z hO (Row.of_cells (hcb.le (Lr D)) Z Z) ⟨by simp [ti89];omega,by omega⟩ Z ?_
  intro vq Mq s6 h6 oq
  obtain ⟨Avq,cvq,rfl,_,_⟩:=Own.slice oq
  simp only [cQ9,nQ9]
  refine Zqa Z Z<|Zn<|Zb<|Zt<|Zr<|qaG Z Z Z (w64 O O)<|Zqm Z Z<|Zn<|?_
  refine qaa ⟨(k+1,.slice Avq (k+1) cvq,Mq,Fo++M1),[_],kp,Z,⟨(I1.1.t h3|>.t h4|>.t h5|>.t h6),⟨by simp only;omega,css++[[.int .i64 x.kind,.int .i64 x.op,.int .u32 x.num,St x.name,.slice A1 n1 c1]],Ms++[M1],by simp only [List.flatten_append,List.flatten_cons,List.flatten_nil,List.append_nil];exact oq,by simp only [List.flatten_append,List.flatten_cons,List.flatten_nil,List.append_nil];rw [hF],by simp only;rw [qaT hx];exact qga hA3 (hd▸OX.mk hM1 hux hnl)⟩⟩,Oz⟩
 obtain rfl:n=k:=by omega
 rw [List.take_of_length_le O] at hA3
 refine Zl<|Zv<|Zv<|Zd<|Zt<|Sr<|Zqm Z Z<|At Z Z<|Zo<|?_
 refine rR [] _ (.t1 Z) Z I1.1 fun _ hS2=>?_
 exact ⟨Mo++Fo,(List.append_assoc Mo Fo L).symm,_,_,_,rfl,css,Ms,Mo,hO,by rw [hF],hA3,hn⟩
theorem clx(D:Nat):∀ d,CLX D d
 | 0=>fun L s A n c xs hA hx9=>qjB D 0 (fun e h=>by omega) L s A n c xs hA hx9
 | d+1=>fun L s A n c xs hA hx9=>qjB D (d+1) (fun e h=>(show d=e by omega)▸clx D d) L s A n c xs hA hx9
def Rws(sz:Nat)(s:World)(A:Option Addr)(n c:Nat)(css:List (List Value)):Prop:=Sl sz (fun _ x cs=>cs=x) s A n c css
theorem Rws.le{D sz:Nat}{s s':World}{A:Option Addr}{n c:Nat}{l:List (List Value)}(h:Rws sz s A n c l)(hl:Le D s s'):Rws sz s' A n c l:=Sl.le (fun _ _ h=>h) h hl
theorem Rws.at_{sz:Nat}{s:World}{A:Option Addr}{n c k:Nat}{l:List (List Value)}{x:List Value}(h:Rws sz s A n c l)(hx:l[k]?=some x):∃ b off,A=some ⟨b,off,none⟩∧CellsAt s b (off+k * sz) x:=by
 obtain ⟨b,off,cs,h1,h2,_,rfl⟩:=h.2.2.2 k x hx
 exact ⟨b,off,h1,h2⟩
theorem Rws.own{e sz:Nat}{M:Hl}{A:Option Addr}{n c:Nat}{css:List (List Value)}{s:World}(h:FL.Own e sz M (.slice A n c) n css.flatten)(hp:Pub M s)(ha:∀ cs∈css,cs.length=sz)(hn:n=css.length):Rws sz s A n c css:=by
 refine Own.rows h hp ?_ hn
 clear h hn
 induction css with
 | nil=>exact .nil
 | cons x l ih=>exact .cons ⟨ha x Mc,rfl⟩ (ih fun y hy=>ha y (List.mem_cons_of_mem _ hy))
def SO:Nat→World→Hl→Stm→List Value→Prop
 | 0,_,_,_,_=>False
 | d+1,s,M,x,cs=>∃ A1 n1 c1 A2 n2 c2 A3 n3 c3 M1 M2 M3,cs=[.int .i64 x.kind,St x.name,.slice A1 n1 c1,.slice A2 n2 c2,.slice A3 n3 c3]∧M=M1++(M2++M3)∧OXs d M1 A1 n1 c1 x.exprs ∧
   (∃ css Ms,M2=Ms.flatten∧Rws 5 s A2 n2 c2 css∧All3 (SO d s) Ms x.body css)∧(∃ css Ms,M3=Ms.flatten∧Rws 5 s A3 n3 c3 css∧All3 (SO d s) Ms x.els css)∧x.name.length≤9223372036854775807
def SOs(d:Nat)(s:World)(M:Hl)(A:Option Addr)(n c:Nat)(l:List Stm):Prop:=∃ css Ms,M=Ms.flatten∧Rws 5 s A n c css∧All3 (SO d s) Ms l css
theorem SO.le{D:Nat}{s s':World}(hl:Le D s s'):∀ {d:Nat} {M:Hl} {x:Stm} {cs:List Value},SO d s M x cs→SO d s' M x cs:=by
 intro d
 induction d with
 | zero=>exact fun h=>h.elim
 | succ d ih=>
  intro M x cs ⟨A1,n1,c1,A2,n2,c2,A3,n3,c3,M1,M2,M3,h1,h2,h3,⟨c4,m4,e4,r4,k4⟩,⟨c5,m5,e5,r5,k5⟩,h6⟩
  exact ⟨A1,n1,c1,A2,n2,c2,A3,n3,c3,M1,M2,M3,h1,h2,h3,⟨c4,m4,e4,r4.le hl,k4.mono fun _ _ _ h=>ih h⟩,⟨c5,m5,e5,r5.le hl,k5.mono fun _ _ _ h=>ih h⟩,h6⟩
theorem SOs.le{D d:Nat}{s s':World}{M:Hl}{A:Option Addr}{n c:Nat}{l:List Stm}(h:SOs d s M A n c l)(hl:Le D s s'):SOs d s' M A n c l:=by
 obtain ⟨c4,m4,e4,r4,k4⟩:=h
 exact ⟨c4,m4,e4,r4.le hl,k4.mono fun _ _ _ h=>SO.le hl h⟩
theorem SO.mk{d:Nat}{s:World}{M1 M2 M3:Hl}{x:Stm}{A1 A2 A3:Option Addr}{n1 c1 n2 c2 n3 c3:Nat}(h1:OXs d M1 A1 n1 c1 x.exprs)(h2:SOs d s M2 A2 n2 c2 x.body)(h3:SOs d s M3 A3 n3 c3 x.els)(hl:x.name.length≤9223372036854775807):SO (d+1) s (M1++(M2++M3)) x [.int .i64 x.kind,St x.name,.slice A1 n1 c1,.slice A2 n2 c2,.slice A3 n3 c3]:=
 ⟨A1,n1,c1,A2,n2,c2,A3,n3,c3,M1,M2,M3,rfl,rfl,h1,h2,h3,hl⟩
theorem SO.eq{d:Nat}{s:World}{M:Hl}{x:Stm}{cs:List Value}(h:SO d s M x cs):∃ e A1 n1 c1 A2 n2 c2 A3 n3 c3 M1 M2 M3,d=e+1∧cs=[.int .i64 x.kind,St x.name,.slice A1 n1 c1,.slice A2 n2 c2,.slice A3 n3 c3]∧M=M1++(M2++M3)∧OXs e M1 A1 n1 c1 x.exprs∧SOs e s M2 A2 n2 c2 x.body∧SOs e s M3 A3 n3 c3 x.els∧x.name.length≤9223372036854775807:=by
 cases d with
 | zero=>exact h.elim
 | succ e=>obtain ⟨A1,n1,c1,A2,n2,c2,A3,n3,c3,M1,M2,M3,h1⟩:=h;exact ⟨e,A1,n1,c1,A2,n2,c2,A3,n3,c3,M1,M2,M3,rfl,h1⟩
theorem SO.five{d:Nat}{s:World}{M:Hl}{x:Stm}{cs:List Value}(h:SO d s M x cs):cs.length=5:=by
 obtain ⟨_,_,_,_,_,_,_,_,_,_,_,_,_,_,rfl,_⟩:=h.eq;rfl
theorem qgS{α β γ:Type}{R:α→β→γ→Prop}{P:γ→Prop}(hR:∀ a b c,R a b c→P c){us:List α}{vs:List β}{ws:List γ}(h:All3 R us vs ws):∀ c∈ws,P c:=by
 induction h with
 | nil=>exact fun c h=>by cases h
 | cons h1 _ ih=>
   intro c hc;rcases List.mem_cons.1 hc with rfl | hc
   · exact hR _ _ _ h1
   · exact ih c hc
theorem qfO{x:Stm}:∀ {l:List Stm} {k:Nat},l[k]?=some x→qdG x.exprs+qcC x.body+qcC x.els+k+1≤qcC l
 | [],k,h=>by cases h
 | .mk a b c d e::r,0,h=>by
  simp at h;subst h
  rw [qcC,stN];simp only [Stm.exprs,Stm.body,Stm.els];omega
 | .mk a b c d e::r,k+1,h=>by
  have:=qfO (l:=r) (k:=k) (by simpa using h)
  rw [qcC,stN];omega
theorem qfR:∀ l:List Stm,l.length≤qcC l
 | []=>Nat.le_refl _
 | .mk a b c d e::r=>by have:=qfR r;rw [qcC,stN,List.length_cons];omega
def CLS(D d:Nat):Prop:=∀ (L:Hl) (s:World) (A:Option Addr) (n c:Nat) (xs:List Stm),Stms d s A n c xs→qcC xs≤4000000→AC prog D 71 [.slice A n c] L s fun v L' s'=>∃ M',L'=M'++L∧∃ A' n' c',v=.slice A' n' c'∧SOs d s' M' A' n' c' xs
theorem qdb(b:Nat×Obj)(M1 M2 M3 Mo Fo L:Hl):(b::(M3++(M2++(M1++(Mo++(Fo++L)))))).Perm (b::(Mo++((Fo++(M1++(M2++M3)))++L))):=by
 refine List.Perm.cons _ ?_
 have h1:(M3++(M2++M1)).Perm (M1++(M2++M3)):=by
  have a:(M3++(M2++M1)).Perm ((M2++M1)++M3):=List.perm_append_comm
  have b:((M2++M1)++M3).Perm ((M1++M2)++M3):=List.Perm.append_right M3 List.perm_append_comm
  simpa [List.append_assoc] using a.trans b
 have h2:(M3++(M2++(M1++(Mo++(Fo++L))))).Perm ((M1++(M2++M3))++(Mo++(Fo++L))):=by
  have:=List.Perm.append_right (Mo++(Fo++L)) h1
  simpa [List.append_assoc] using this
 exact h2.trans (qbZ (M1++(M2++M3)) Mo Fo L)
theorem qj4(D d:Nat)(ih:∀ e,d=e+1→CLS D e)(L:Hl)(s:World)(A:Option Addr)(n c:Nat)(xs:List Stm)(hA:Stms d s A n c xs)(hx9:qcC xs≤4000000):AC prog D 71 [.slice A n c] L s fun v L' s'=>∃ M',L'=M'++L∧∃ A' n' c',v=.slice A' n' c'∧∀ s2,Le D s' s2→SOs d s2 M' A' n' c' xs:=by
 have hn:=hA.1
 have hc1:=hA.2.1
 have hc2:=hA.2.2.1
 have hl9:=qfR xs
 refine qai (fn:=f71) qaq func71 V Z ntmps71 Z (rs:=[.tmp 2]) Z [(0,_)] Z<|Sr<|At Z Z<|Sr<|At Z Z<|Zs<|Sr<|Zqm Z Z<|Ws Y4<|Zqm Z Z<|Nt<|Zp<|?_
 refine qat (γ:=Nat×Value×Hl×Hl) (fun g=>[(2,_),(3,g.2.1),(6,_),(7,_),(8,.int .i64 (g.1:Int))]) (fun g=>g.2.2.1++(g.2.2.2++L)) (fun g tw=>Le D s tw∧(g.1≤n∧∃ css Ms,FL.Own 95 5 g.2.2.1 g.2.1 g.1 (List.flatten css)∧g.2.2.2=List.flatten Ms∧All3 (SO d tw) Ms (xs.take g.1) css)) (fun g=>n - g.1) (fun _ _ _ h hl=>⟨h.1.trans hl,⟨h.2.1,by obtain ⟨css,Ms,q1,q2,q3⟩:=h.2.2;exact ⟨css,Ms,q1,q2,q3.mono fun _ _ _ k=>SO.le hl k⟩⟩⟩) (0,.slice none 0 0,[],[]) (.c5 Z Z Z Z Z (.nil _)) Z ⟨Le.refl _,⟨Nat.zero_le _,[],[],FL.Own.nil,Z,.nil⟩⟩ ?_
 intro g s1 I1
 obtain ⟨k,vo,Mo,Fo⟩:=g
 obtain ⟨hk0,css,Ms,hO,hF,hA3⟩:=I1.2
 simp only at hk0 hO hF hA3
 dsimp only
 obtain ⟨Ao,co,rfl,_,_⟩:=Own.slice hO
 refine Sr<|qba Z Z Z<|Nt<|Zs<|?_
 refine qab Z (fun c2=>?_) (fun c2=>?_)
 ·
  have hk:k < n:=by omega
  obtain ⟨e,b,off,x,A1,n1,p1,A2,n2,p2,A3,n3,p3,hd,rfl,hx,hcx,hax,hbx,hex,hnl⟩:=Stms.at_ (hA.le I1.1) hk
  have hx8:=qfO hx
  refine Zk<|Zt<|Zs<|Zp<|Sr<|qaf (qap Z Z Z Z Z Z hk) Z<|qaf (qas Z Z Z (hcx.le (Lr D)) Z) Z<|qae Z [_,_,_,_,_] Z Z ?_
  intro β3 s3 h3
  refine Wt 0 [_,_,_,_,_] Y9<|Nt<|?_
  refine qlR [] Z (γ:=Value×Value×Value×Hl×Hl×Hl) (fun g=>(β3,cb [.int .i64 x.kind,St x.name,g.1,g.2.1,g.2.2.1] 95)::(Mo++((Fo++(g.2.2.2.1++(g.2.2.2.2.1++g.2.2.2.2.2)))++L))) (fun g tw=>(∃ A n c,g.1=.slice A n c∧OXs e g.2.2.2.1 A n c x.exprs)∧(∃ A n c,g.2.1=.slice A n c∧SOs e tw g.2.2.2.2.1 A n c x.body)∧(∃ A n c,g.2.2.1=.slice A n c∧SOs e tw g.2.2.2.2.2 A n c x.els)) (fun _ _ _ h hl=>⟨h.1,by obtain ⟨A,n,c,q1,q2⟩:=h.2.1;exact ⟨A,n,c,q1,q2.le hl⟩,by obtain ⟨A,n,c,q1,q2⟩:=h.2.2;exact ⟨A,n,c,q1,q2.le hl⟩⟩) ?_ ?_
  ·
   refine qa1 qag 15 Z 0 ?_
   intro s5 h5
   refine za 0 Z (We Y4) Z<|za 3 Z (We Y4) Z<|za 6 Z (We Y4) Z ?_
   refine qlo 1 4 7 V ?_ ?_ ?_
   ·
    refine qcf Z Tt (Wd 0 Y5) Z ?_
    refine qlo 2 4 7 V ?_ ?_ ?_
    ·
     refine Jb Z Tt Z Z Z (AC.mid [_] [] (Mo++(Fo++L)) (clx D e _ _ A1 n1 p1 x.exprs (hax.le (h3.t h5)) O)) ?_
     rintro _ _ s6 h6 ⟨M1,rfl,C1,r1,e1,rfl,hM1⟩
     refine ⟨(fun x hx _=>nomatch hx),?_⟩
     simp only [cQ9,nQ9]
     refine qb9 4 7 V ?_ ?_
     ·
      refine qcf Z Tt (Wd 0 Y5) Z ?_
      refine qb9 5 7 V ?_ ?_
      ·
       refine Jb Z Tt Z Z Z (AC.mid [_] [] (M1++(Mo++(Fo++L))) (ih e hd _ _ A2 n2 p2 x.body (hbx.le (h3.t h5|>.t h6)) O)) ?_
       rintro _ _ s7 h7 ⟨M2,rfl,C2,r2,e2,rfl,hM2⟩
       refine ⟨(fun x hx _=>nomatch hx),?_⟩
       simp only [cQ9,nQ9]
       refine qal 7 V<|qcf Z Tt (Wd 0 Y5) Z<|za 9 Z (We Y4) Z<|qal 8 V<|Jb Z Tt Z Z Z (AC.mid [_] [] (M2++(M1++(Mo++(Fo++L)))) (ih e hd _ _ A3 n3 p3 x.els (hex.le (h3.t h5|>.t h6|>.t h7)) O)) ?_
       rintro _ _ s8 h8 ⟨M3,rfl,C3,r3,e3,rfl,hM3⟩
       refine ⟨(fun x hx _=>nomatch hx),?_⟩
       simp only [cQ9,nQ9]
       refine qal 10 V<|Wu Z Tt 0 [_,_,_,_,_] Y9 (sM (sb0 _))<|za 11 Z (We Y4) Z<|qal 12 V<|Wu Z Tt 0 [_,_,_,_,_] Y9 (sM (sb0 _))<|za 13 Z (We Y4) Z<|qal 14 V<|Wu Z Tt 0 [_,_,_,_,_] Y9 (sM (sb0 _))<|qad V ?_
       refine qaa (MidF.mk (.slice C1 r1 e1,.slice C2 r2 e2,.slice C3 r3 e3,M1,M2,M3) [] (h5.t h6|>.t h7|>.t h8) sk (qdb _ M1 M2 M3 Mo Fo L) ⟨⟨_,_,_,Z,hM1⟩,⟨_,_,_,Z,hM2.le h8⟩,⟨_,_,_,Z,hM3.le (Lr D)⟩⟩)
      refine qcf Z Tt (Wd 0 Y5) Z<|za 9 Z (We Y4) Z<|qal 5 V<|Jb Z Tt Z Z Z (AC.mid [_] [] (M1++(Mo++(Fo++L))) (ih e hd _ _ A2 n2 p2 x.body (hbx.le (h3.t h5|>.t h6)) O)) ?_
      rintro _ _ s9 h9 ⟨M2,rfl,C2,r2,e2,rfl,hM2⟩
      refine ⟨(fun x hx _=>nomatch hx),?_⟩
      simp only [cQ9,nQ9]
      refine qal 8 V<|Jb Z Tt Z Z Z (AC.mid [_] [] (M2++(M1++(Mo++(Fo++L)))) (ih e hd _ _ A3 n3 p3 x.els (hex.le (h3.t h5|>.t h6|>.t h9)) O)) ?_
      rintro _ _ s10 h10 ⟨M3,rfl,C3,r3,e3,rfl,hM3⟩
      refine ⟨(fun x hx _=>nomatch hx),?_⟩
      simp only [cQ9,nQ9]
      refine qal 10 V<|Wu Z Tt 0 [_,_,_,_,_] Y9 (sM (sb0 _))<|za 11 Z (We Y4) Z<|qal 12 V<|Wu Z Tt 0 [_,_,_,_,_] Y9 (sM (sb0 _))<|za 13 Z (We Y4) Z<|qal 14 V<|Wu Z Tt 0 [_,_,_,_,_] Y9 (sM (sb0 _))<|qad V ?_
      refine qaa (MidF.mk (.slice C1 r1 e1,.slice C2 r2 e2,.slice C3 r3 e3,M1,M2,M3) [] (h5.t h6|>.t h9|>.t h10) sk (qdb _ M1 M2 M3 Mo Fo L) ⟨⟨_,_,_,Z,hM1⟩,⟨_,_,_,Z,hM2.le h10⟩,⟨_,_,_,Z,hM3.le (Lr D)⟩⟩)
     refine qcf Z Tt (Wd 0 Y5) Z<|qal 4 V<|qcf Z Tt (Wd 0 Y5) Z<|za 9 Z (We Y4) Z<|qal 5 V<|Jb Z Tt Z Z Z (AC.mid [_] [] (M1++(Mo++(Fo++L))) (ih e hd _ _ A2 n2 p2 x.body (hbx.le (h3.t h5|>.t h6)) O)) ?_
     rintro _ _ s11 h11 ⟨M2,rfl,C2,r2,e2,rfl,hM2⟩
     refine ⟨(fun x hx _=>nomatch hx),?_⟩
     simp only [cQ9,nQ9]
     refine qal 8 V<|Jb Z Tt Z Z Z (AC.mid [_] [] (M2++(M1++(Mo++(Fo++L)))) (ih e hd _ _ A3 n3 p3 x.els (hex.le (h3.t h5|>.t h6|>.t h11)) O)) ?_
     rintro _ _ s12 h12 ⟨M3,rfl,C3,r3,e3,rfl,hM3⟩
     refine ⟨(fun x hx _=>nomatch hx),?_⟩
     simp only [cQ9,nQ9]
     refine qal 10 V<|Wu Z Tt 0 [_,_,_,_,_] Y9 (sM (sb0 _))<|za 11 Z (We Y4) Z<|qal 12 V<|Wu Z Tt 0 [_,_,_,_,_] Y9 (sM (sb0 _))<|za 13 Z (We Y4) Z<|qal 14 V<|Wu Z Tt 0 [_,_,_,_,_] Y9 (sM (sb0 _))<|qad V ?_
     refine qaa (MidF.mk (.slice C1 r1 e1,.slice C2 r2 e2,.slice C3 r3 e3,M1,M2,M3) [] (h5.t h6|>.t h11|>.t h12) sk (qdb _ M1 M2 M3 Mo Fo L) ⟨⟨_,_,_,Z,hM1⟩,⟨_,_,_,Z,hM2.le h12⟩,⟨_,_,_,Z,hM3.le (Lr D)⟩⟩)
    ·
     refine qcf Z Tt (Wd 0 Y5) Z ?_
     refine qb9 2 7 V ?_ ?_
     ·
      refine Jb Z Tt Z Z Z (AC.mid [_] [] (Mo++(Fo++L)) (clx D e _ _ A1 n1 p1 x.exprs (hax.le (h3.t h5)) O)) ?_
      rintro _ _ s13 h13 ⟨M1,rfl,C1,r1,e1,rfl,hM1⟩
      refine ⟨(fun x hx _=>nomatch hx),?_⟩
      simp only [cQ9,nQ9]
      refine qb9 5 7 V ?_ ?_
      ·
       refine Jb Z Tt Z Z Z (AC.mid [_] [] (M1++(Mo++(Fo++L))) (ih e hd _ _ A2 n2 p2 x.body (hbx.le (h3.t h5|>.t h13)) O)) ?_
       rintro _ _ s14 h14 ⟨M2,rfl,C2,r2,e2,rfl,hM2⟩
       refine ⟨(fun x hx _=>nomatch hx),?_⟩
       simp only [cQ9,nQ9]
       refine qal 7 V<|qcf Z Tt (Wd 0 Y5) Z<|za 9 Z (We Y4) Z<|qal 8 V<|Jb Z Tt Z Z Z (AC.mid [_] [] (M2++(M1++(Mo++(Fo++L)))) (ih e hd _ _ A3 n3 p3 x.els (hex.le (h3.t h5|>.t h13|>.t h14)) O)) ?_
       rintro _ _ s15 h15 ⟨M3,rfl,C3,r3,e3,rfl,hM3⟩
       refine ⟨(fun x hx _=>nomatch hx),?_⟩
       simp only [cQ9,nQ9]
       refine qal 10 V<|Wu Z Tt 0 [_,_,_,_,_] Y9 (sM (sb0 _))<|za 11 Z (We Y4) Z<|qal 12 V<|Wu Z Tt 0 [_,_,_,_,_] Y9 (sM (sb0 _))<|za 13 Z (We Y4) Z<|qal 14 V<|Wu Z Tt 0 [_,_,_,_,_] Y9 (sM (sb0 _))<|qad V ?_
       refine qaa (MidF.mk (.slice C1 r1 e1,.slice C2 r2 e2,.slice C3 r3 e3,M1,M2,M3) [] (h5.t h13|>.t h14|>.t h15) sk (qdb _ M1 M2 M3 Mo Fo L) ⟨⟨_,_,_,Z,hM1⟩,⟨_,_,_,Z,hM2.le h15⟩,⟨_,_,_,Z,hM3.le (Lr D)⟩⟩)
      refine qcf Z Tt (Wd 0 Y5) Z<|za 9 Z (We Y4) Z<|qal 5 V<|Jb Z Tt Z Z Z (AC.mid [_] [] (M1++(Mo++(Fo++L))) (ih e hd _ _ A2 n2 p2 x.body (hbx.le (h3.t h5|>.t h13)) O)) ?_
      rintro _ _ s16 h16 ⟨M2,rfl,C2,r2,e2,rfl,hM2⟩
      refine ⟨(fun x hx _=>nomatch hx),?_⟩
      simp only [cQ9,nQ9]
      refine qal 8 V<|Jb Z Tt Z Z Z (AC.mid [_] [] (M2++(M1++(Mo++(Fo++L)))) (ih e hd _ _ A3 n3 p3 x.els (hex.le (h3.t h5|>.t h13|>.t h16)) O)) ?_
      rintro _ _ s17 h17 ⟨M3,rfl,C3,r3,e3,rfl,hM3⟩
      refine ⟨(fun x hx _=>nomatch hx),?_⟩
      simp only [cQ9,nQ9]
      refine qal 10 V<|Wu Z Tt 0 [_,_,_,_,_] Y9 (sM (sb0 _))<|za 11 Z (We Y4) Z<|qal 12 V<|Wu Z Tt 0 [_,_,_,_,_] Y9 (sM (sb0 _))<|za 13 Z (We Y4) Z<|qal 14 V<|Wu Z Tt 0 [_,_,_,_,_] Y9 (sM (sb0 _))<|qad V ?_
      refine qaa (MidF.mk (.slice C1 r1 e1,.slice C2 r2 e2,.slice C3 r3 e3,M1,M2,M3) [] (h5.t h13|>.t h16|>.t h17) sk (qdb _ M1 M2 M3 Mo Fo L) ⟨⟨_,_,_,Z,hM1⟩,⟨_,_,_,Z,hM2.le h17⟩,⟨_,_,_,Z,hM3.le (Lr D)⟩⟩)
     refine qcf Z Tt (Wd 0 Y5) Z<|qal 2 V<|Jb Z Tt Z Z Z (AC.mid [_] [] (Mo++(Fo++L)) (clx D e _ _ A1 n1 p1 x.exprs (hax.le (h3.t h5)) O)) ?_
     rintro _ _ s18 h18 ⟨M1,rfl,C1,r1,e1,rfl,hM1⟩
     refine ⟨(fun x hx _=>nomatch hx),?_⟩
     simp only [cQ9,nQ9]
     refine za 9 Z (We Y4) Z<|qal 5 V<|Jb Z Tt Z Z Z (AC.mid [_] [] (M1++(Mo++(Fo++L))) (ih e hd _ _ A2 n2 p2 x.body (hbx.le (h3.t h5|>.t h18)) O)) ?_
     rintro _ _ s19 h19 ⟨M2,rfl,C2,r2,e2,rfl,hM2⟩
     refine ⟨(fun x hx _=>nomatch hx),?_⟩
     simp only [cQ9,nQ9]
     refine qal 8 V<|Jb Z Tt Z Z Z (AC.mid [_] [] (M2++(M1++(Mo++(Fo++L)))) (ih e hd _ _ A3 n3 p3 x.els (hex.le (h3.t h5|>.t h18|>.t h19)) O)) ?_
     rintro _ _ s20 h20 ⟨M3,rfl,C3,r3,e3,rfl,hM3⟩
     refine ⟨(fun x hx _=>nomatch hx),?_⟩
     simp only [cQ9,nQ9]
     refine qal 10 V<|Wu Z Tt 0 [_,_,_,_,_] Y9 (sM (sb0 _))<|za 11 Z (We Y4) Z<|qal 12 V<|Wu Z Tt 0 [_,_,_,_,_] Y9 (sM (sb0 _))<|za 13 Z (We Y4) Z<|qal 14 V<|Wu Z Tt 0 [_,_,_,_,_] Y9 (sM (sb0 _))<|qad V ?_
     refine qaa (MidF.mk (.slice C1 r1 e1,.slice C2 r2 e2,.slice C3 r3 e3,M1,M2,M3) [] (h5.t h18|>.t h19|>.t h20) sk (qdb _ M1 M2 M3 Mo Fo L) ⟨⟨_,_,_,Z,hM1⟩,⟨_,_,_,Z,hM2.le h20⟩,⟨_,_,_,Z,hM3.le (Lr D)⟩⟩)
    refine qcf Z Tt (Wd 0 Y5) Z ?_
    refine qb9 2 4 V ?_ ?_
    ·
     refine Jb Z Tt Z Z Z (AC.mid [_] [] (Mo++(Fo++L)) (clx D e _ _ A1 n1 p1 x.exprs (hax.le (h3.t h5)) O)) ?_
     rintro _ _ s21 h21 ⟨M1,rfl,C1,r1,e1,rfl,hM1⟩
     refine ⟨(fun x hx _=>nomatch hx),?_⟩
     simp only [cQ9,nQ9]
     refine qal 4 V<|qcf Z Tt (Wd 0 Y5) Z<|za 9 Z (We Y4) Z<|qal 5 V<|Jb Z Tt Z Z Z (AC.mid [_] [] (M1++(Mo++(Fo++L))) (ih e hd _ _ A2 n2 p2 x.body (hbx.le (h3.t h5|>.t h21)) O)) ?_
     rintro _ _ s22 h22 ⟨M2,rfl,C2,r2,e2,rfl,hM2⟩
     refine ⟨(fun x hx _=>nomatch hx),?_⟩
     simp only [cQ9,nQ9]
     refine qal 8 V<|Jb Z Tt Z Z Z (AC.mid [_] [] (M2++(M1++(Mo++(Fo++L)))) (ih e hd _ _ A3 n3 p3 x.els (hex.le (h3.t h5|>.t h21|>.t h22)) O)) ?_
     rintro _ _ s23 h23 ⟨M3,rfl,C3,r3,e3,rfl,hM3⟩
     refine ⟨(fun x hx _=>nomatch hx),?_⟩
     simp only [cQ9,nQ9]
     refine qal 10 V<|Wu Z Tt 0 [_,_,_,_,_] Y9 (sM (sb0 _))<|za 11 Z (We Y4) Z<|qal 12 V<|Wu Z Tt 0 [_,_,_,_,_] Y9 (sM (sb0 _))<|za 13 Z (We Y4) Z<|qal 14 V<|Wu Z Tt 0 [_,_,_,_,_] Y9 (sM (sb0 _))<|qad V ?_
     refine qaa (MidF.mk (.slice C1 r1 e1,.slice C2 r2 e2,.slice C3 r3 e3,M1,M2,M3) [] (h5.t h21|>.t h22|>.t h23) sk (qdb _ M1 M2 M3 Mo Fo L) ⟨⟨_,_,_,Z,hM1⟩,⟨_,_,_,Z,hM2.le h23⟩,⟨_,_,_,Z,hM3.le (Lr D)⟩⟩)
    refine qcf Z Tt (Wd 0 Y5) Z<|qal 2 V<|Jb Z Tt Z Z Z (AC.mid [_] [] (Mo++(Fo++L)) (clx D e _ _ A1 n1 p1 x.exprs (hax.le (h3.t h5)) O)) ?_
    rintro _ _ s24 h24 ⟨M1,rfl,C1,r1,e1,rfl,hM1⟩
    refine ⟨(fun x hx _=>nomatch hx),?_⟩
    simp only [cQ9,nQ9]
    refine za 9 Z (We Y4) Z<|qal 5 V<|Jb Z Tt Z Z Z (AC.mid [_] [] (M1++(Mo++(Fo++L))) (ih e hd _ _ A2 n2 p2 x.body (hbx.le (h3.t h5|>.t h24)) O)) ?_
    rintro _ _ s25 h25 ⟨M2,rfl,C2,r2,e2,rfl,hM2⟩
    refine ⟨(fun x hx _=>nomatch hx),?_⟩
    simp only [cQ9,nQ9]
    refine qal 8 V<|Jb Z Tt Z Z Z (AC.mid [_] [] (M2++(M1++(Mo++(Fo++L)))) (ih e hd _ _ A3 n3 p3 x.els (hex.le (h3.t h5|>.t h24|>.t h25)) O)) ?_
    rintro _ _ s26 h26 ⟨M3,rfl,C3,r3,e3,rfl,hM3⟩
    refine ⟨(fun x hx _=>nomatch hx),?_⟩
    simp only [cQ9,nQ9]
    refine qal 10 V<|Wu Z Tt 0 [_,_,_,_,_] Y9 (sM (sb0 _))<|za 11 Z (We Y4) Z<|qal 12 V<|Wu Z Tt 0 [_,_,_,_,_] Y9 (sM (sb0 _))<|za 13 Z (We Y4) Z<|qal 14 V<|Wu Z Tt 0 [_,_,_,_,_] Y9 (sM (sb0 _))<|qad V ?_
    refine qaa (MidF.mk (.slice C1 r1 e1,.slice C2 r2 e2,.slice C3 r3 e3,M1,M2,M3) [] (h5.t h24|>.t h25|>.t h26) sk (qdb _ M1 M2 M3 Mo Fo L) ⟨⟨_,_,_,Z,hM1⟩,⟨_,_,_,Z,hM2.le h26⟩,⟨_,_,_,Z,hM3.le (Lr D)⟩⟩)
   ·
    refine qcf Z Tt (Wd 0 Y5) Z ?_
    refine qb9 1 7 V ?_ ?_
    ·
     refine qcf Z Tt (Wd 0 Y5) Z ?_
     refine qb9 2 7 V ?_ ?_
     ·
      refine Jb Z Tt Z Z Z (AC.mid [_] [] (Mo++(Fo++L)) (clx D e _ _ A1 n1 p1 x.exprs (hax.le (h3.t h5)) O)) ?_
      rintro _ _ s27 h27 ⟨M1,rfl,C1,r1,e1,rfl,hM1⟩
      refine ⟨(fun x hx _=>nomatch hx),?_⟩
      simp only [cQ9,nQ9]
      refine qb9 5 7 V ?_ ?_
      ·
       refine Jb Z Tt Z Z Z (AC.mid [_] [] (M1++(Mo++(Fo++L))) (ih e hd _ _ A2 n2 p2 x.body (hbx.le (h3.t h5|>.t h27)) O)) ?_
       rintro _ _ s28 h28 ⟨M2,rfl,C2,r2,e2,rfl,hM2⟩
       refine ⟨(fun x hx _=>nomatch hx),?_⟩
       simp only [cQ9,nQ9]
       refine qal 7 V<|qcf Z Tt (Wd 0 Y5) Z<|za 9 Z (We Y4) Z<|qal 8 V<|Jb Z Tt Z Z Z (AC.mid [_] [] (M2++(M1++(Mo++(Fo++L)))) (ih e hd _ _ A3 n3 p3 x.els (hex.le (h3.t h5|>.t h27|>.t h28)) O)) ?_
       rintro _ _ s29 h29 ⟨M3,rfl,C3,r3,e3,rfl,hM3⟩
       refine ⟨(fun x hx _=>nomatch hx),?_⟩
       simp only [cQ9,nQ9]
       refine qal 10 V<|Wu Z Tt 0 [_,_,_,_,_] Y9 (sM (sb0 _))<|za 11 Z (We Y4) Z<|qal 12 V<|Wu Z Tt 0 [_,_,_,_,_] Y9 (sM (sb0 _))<|za 13 Z (We Y4) Z<|qal 14 V<|Wu Z Tt 0 [_,_,_,_,_] Y9 (sM (sb0 _))<|qad V ?_
       refine qaa (MidF.mk (.slice C1 r1 e1,.slice C2 r2 e2,.slice C3 r3 e3,M1,M2,M3) [] (h5.t h27|>.t h28|>.t h29) sk (qdb _ M1 M2 M3 Mo Fo L) ⟨⟨_,_,_,Z,hM1⟩,⟨_,_,_,Z,hM2.le h29⟩,⟨_,_,_,Z,hM3.le (Lr D)⟩⟩)
      refine qcf Z Tt (Wd 0 Y5) Z<|za 9 Z (We Y4) Z<|qal 5 V<|Jb Z Tt Z Z Z (AC.mid [_] [] (M1++(Mo++(Fo++L))) (ih e hd _ _ A2 n2 p2 x.body (hbx.le (h3.t h5|>.t h27)) O)) ?_
      rintro _ _ s30 h30 ⟨M2,rfl,C2,r2,e2,rfl,hM2⟩
      refine ⟨(fun x hx _=>nomatch hx),?_⟩
      simp only [cQ9,nQ9]
      refine qal 8 V<|Jb Z Tt Z Z Z (AC.mid [_] [] (M2++(M1++(Mo++(Fo++L)))) (ih e hd _ _ A3 n3 p3 x.els (hex.le (h3.t h5|>.t h27|>.t h30)) O)) ?_
      rintro _ _ s31 h31 ⟨M3,rfl,C3,r3,e3,rfl,hM3⟩
      refine ⟨(fun x hx _=>nomatch hx),?_⟩
      simp only [cQ9,nQ9]
      refine qal 10 V<|Wu Z Tt 0 [_,_,_,_,_] Y9 (sM (sb0 _))<|za 11 Z (We Y4) Z<|qal 12 V<|Wu Z Tt 0 [_,_,_,_,_] Y9 (sM (sb0 _))<|za 13 Z (We Y4) Z<|qal 14 V<|Wu Z Tt 0 [_,_,_,_,_] Y9 (sM (sb0 _))<|qad V ?_
      refine qaa (MidF.mk (.slice C1 r1 e1,.slice C2 r2 e2,.slice C3 r3 e3,M1,M2,M3) [] (h5.t h27|>.t h30|>.t h31) sk (qdb _ M1 M2 M3 Mo Fo L) ⟨⟨_,_,_,Z,hM1⟩,⟨_,_,_,Z,hM2.le h31⟩,⟨_,_,_,Z,hM3.le (Lr D)⟩⟩)
     refine qcf Z Tt (Wd 0 Y5) Z<|qal 2 V<|Jb Z Tt Z Z Z (AC.mid [_] [] (Mo++(Fo++L)) (clx D e _ _ A1 n1 p1 x.exprs (hax.le (h3.t h5)) O)) ?_
     rintro _ _ s32 h32 ⟨M1,rfl,C1,r1,e1,rfl,hM1⟩
     refine ⟨(fun x hx _=>nomatch hx),?_⟩
     simp only [cQ9,nQ9]
     refine za 9 Z (We Y4) Z<|qal 5 V<|Jb Z Tt Z Z Z (AC.mid [_] [] (M1++(Mo++(Fo++L))) (ih e hd _ _ A2 n2 p2 x.body (hbx.le (h3.t h5|>.t h32)) O)) ?_
     rintro _ _ s33 h33 ⟨M2,rfl,C2,r2,e2,rfl,hM2⟩
     refine ⟨(fun x hx _=>nomatch hx),?_⟩
     simp only [cQ9,nQ9]
     refine qal 8 V<|Jb Z Tt Z Z Z (AC.mid [_] [] (M2++(M1++(Mo++(Fo++L)))) (ih e hd _ _ A3 n3 p3 x.els (hex.le (h3.t h5|>.t h32|>.t h33)) O)) ?_
     rintro _ _ s34 h34 ⟨M3,rfl,C3,r3,e3,rfl,hM3⟩
     refine ⟨(fun x hx _=>nomatch hx),?_⟩
     simp only [cQ9,nQ9]
     refine qal 10 V<|Wu Z Tt 0 [_,_,_,_,_] Y9 (sM (sb0 _))<|za 11 Z (We Y4) Z<|qal 12 V<|Wu Z Tt 0 [_,_,_,_,_] Y9 (sM (sb0 _))<|za 13 Z (We Y4) Z<|qal 14 V<|Wu Z Tt 0 [_,_,_,_,_] Y9 (sM (sb0 _))<|qad V ?_
     refine qaa (MidF.mk (.slice C1 r1 e1,.slice C2 r2 e2,.slice C3 r3 e3,M1,M2,M3) [] (h5.t h32|>.t h33|>.t h34) sk (qdb _ M1 M2 M3 Mo Fo L) ⟨⟨_,_,_,Z,hM1⟩,⟨_,_,_,Z,hM2.le h34⟩,⟨_,_,_,Z,hM3.le (Lr D)⟩⟩)
    refine qcf Z Tt (Wd 0 Y5) Z<|qal 1 V<|qcf Z Tt (Wd 0 Y5) Z<|qal 2 V<|Jb Z Tt Z Z Z (AC.mid [_] [] (Mo++(Fo++L)) (clx D e _ _ A1 n1 p1 x.exprs (hax.le (h3.t h5)) O)) ?_
    rintro _ _ s35 h35 ⟨M1,rfl,C1,r1,e1,rfl,hM1⟩
    refine ⟨(fun x hx _=>nomatch hx),?_⟩
    simp only [cQ9,nQ9]
    refine za 9 Z (We Y4) Z<|qal 5 V<|Jb Z Tt Z Z Z (AC.mid [_] [] (M1++(Mo++(Fo++L))) (ih e hd _ _ A2 n2 p2 x.body (hbx.le (h3.t h5|>.t h35)) O)) ?_
    rintro _ _ s36 h36 ⟨M2,rfl,C2,r2,e2,rfl,hM2⟩
    refine ⟨(fun x hx _=>nomatch hx),?_⟩
    simp only [cQ9,nQ9]
    refine qal 8 V<|Jb Z Tt Z Z Z (AC.mid [_] [] (M2++(M1++(Mo++(Fo++L)))) (ih e hd _ _ A3 n3 p3 x.els (hex.le (h3.t h5|>.t h35|>.t h36)) O)) ?_
    rintro _ _ s37 h37 ⟨M3,rfl,C3,r3,e3,rfl,hM3⟩
    refine ⟨(fun x hx _=>nomatch hx),?_⟩
    simp only [cQ9,nQ9]
    refine qal 10 V<|Wu Z Tt 0 [_,_,_,_,_] Y9 (sM (sb0 _))<|za 11 Z (We Y4) Z<|qal 12 V<|Wu Z Tt 0 [_,_,_,_,_] Y9 (sM (sb0 _))<|za 13 Z (We Y4) Z<|qal 14 V<|Wu Z Tt 0 [_,_,_,_,_] Y9 (sM (sb0 _))<|qad V ?_
    refine qaa (MidF.mk (.slice C1 r1 e1,.slice C2 r2 e2,.slice C3 r3 e3,M1,M2,M3) [] (h5.t h35|>.t h36|>.t h37) sk (qdb _ M1 M2 M3 Mo Fo L) ⟨⟨_,_,_,Z,hM1⟩,⟨_,_,_,Z,hM2.le h37⟩,⟨_,_,_,Z,hM3.le (Lr D)⟩⟩)
   refine qcf Z Tt (Wd 0 Y5) Z ?_
   refine qb9 1 4 V ?_ ?_
   ·
    refine qcf Z Tt (Wd 0 Y5) Z ?_
    refine qb9 2 4 V ?_ ?_
    ·
     refine Jb Z Tt Z Z Z (AC.mid [_] [] (Mo++(Fo++L)) (clx D e _ _ A1 n1 p1 x.exprs (hax.le (h3.t h5)) O)) ?_
     rintro _ _ s38 h38 ⟨M1,rfl,C1,r1,e1,rfl,hM1⟩
     refine ⟨(fun x hx _=>nomatch hx),?_⟩
     simp only [cQ9,nQ9]
     refine qal 4 V<|qcf Z Tt (Wd 0 Y5) Z<|za 9 Z (We Y4) Z<|qal 5 V<|Jb Z Tt Z Z Z (AC.mid [_] [] (M1++(Mo++(Fo++L))) (ih e hd _ _ A2 n2 p2 x.body (hbx.le (h3.t h5|>.t h38)) O)) ?_
     rintro _ _ s39 h39 ⟨M2,rfl,C2,r2,e2,rfl,hM2⟩
     refine ⟨(fun x hx _=>nomatch hx),?_⟩
     simp only [cQ9,nQ9]
     refine qal 8 V<|Jb Z Tt Z Z Z (AC.mid [_] [] (M2++(M1++(Mo++(Fo++L)))) (ih e hd _ _ A3 n3 p3 x.els (hex.le (h3.t h5|>.t h38|>.t h39)) O)) ?_
     rintro _ _ s40 h40 ⟨M3,rfl,C3,r3,e3,rfl,hM3⟩
     refine ⟨(fun x hx _=>nomatch hx),?_⟩
     simp only [cQ9,nQ9]
     refine qal 10 V<|Wu Z Tt 0 [_,_,_,_,_] Y9 (sM (sb0 _))<|za 11 Z (We Y4) Z<|qal 12 V<|Wu Z Tt 0 [_,_,_,_,_] Y9 (sM (sb0 _))<|za 13 Z (We Y4) Z<|qal 14 V<|Wu Z Tt 0 [_,_,_,_,_] Y9 (sM (sb0 _))<|qad V ?_
     refine qaa (MidF.mk (.slice C1 r1 e1,.slice C2 r2 e2,.slice C3 r3 e3,M1,M2,M3) [] (h5.t h38|>.t h39|>.t h40) sk (qdb _ M1 M2 M3 Mo Fo L) ⟨⟨_,_,_,Z,hM1⟩,⟨_,_,_,Z,hM2.le h40⟩,⟨_,_,_,Z,hM3.le (Lr D)⟩⟩)
    refine qcf Z Tt (Wd 0 Y5) Z<|qal 2 V<|Jb Z Tt Z Z Z (AC.mid [_] [] (Mo++(Fo++L)) (clx D e _ _ A1 n1 p1 x.exprs (hax.le (h3.t h5)) O)) ?_
    rintro _ _ s41 h41 ⟨M1,rfl,C1,r1,e1,rfl,hM1⟩
    refine ⟨(fun x hx _=>nomatch hx),?_⟩
    simp only [cQ9,nQ9]
    refine za 9 Z (We Y4) Z<|qal 5 V<|Jb Z Tt Z Z Z (AC.mid [_] [] (M1++(Mo++(Fo++L))) (ih e hd _ _ A2 n2 p2 x.body (hbx.le (h3.t h5|>.t h41)) O)) ?_
    rintro _ _ s42 h42 ⟨M2,rfl,C2,r2,e2,rfl,hM2⟩
    refine ⟨(fun x hx _=>nomatch hx),?_⟩
    simp only [cQ9,nQ9]
    refine qal 8 V<|Jb Z Tt Z Z Z (AC.mid [_] [] (M2++(M1++(Mo++(Fo++L)))) (ih e hd _ _ A3 n3 p3 x.els (hex.le (h3.t h5|>.t h41|>.t h42)) O)) ?_
    rintro _ _ s43 h43 ⟨M3,rfl,C3,r3,e3,rfl,hM3⟩
    refine ⟨(fun x hx _=>nomatch hx),?_⟩
    simp only [cQ9,nQ9]
    refine qal 10 V<|Wu Z Tt 0 [_,_,_,_,_] Y9 (sM (sb0 _))<|za 11 Z (We Y4) Z<|qal 12 V<|Wu Z Tt 0 [_,_,_,_,_] Y9 (sM (sb0 _))<|za 13 Z (We Y4) Z<|qal 14 V<|Wu Z Tt 0 [_,_,_,_,_] Y9 (sM (sb0 _))<|qad V ?_
    refine qaa (MidF.mk (.slice C1 r1 e1,.slice C2 r2 e2,.slice C3 r3 e3,M1,M2,M3) [] (h5.t h41|>.t h42|>.t h43) sk (qdb _ M1 M2 M3 Mo Fo L) ⟨⟨_,_,_,Z,hM1⟩,⟨_,_,_,Z,hM2.le h43⟩,⟨_,_,_,Z,hM3.le (Lr D)⟩⟩)
   refine qcf Z Tt (Wd 0 Y5) Z<|qal 1 V<|qcf Z Tt (Wd 0 Y5) Z<|qal 2 V<|Jb Z Tt Z Z Z (AC.mid [_] [] (Mo++(Fo++L)) (clx D e _ _ A1 n1 p1 x.exprs (hax.le (h3.t h5)) O)) ?_
   rintro _ _ s44 h44 ⟨M1,rfl,C1,r1,e1,rfl,hM1⟩
   refine ⟨(fun x hx _=>nomatch hx),?_⟩
   simp only [cQ9,nQ9]
   refine za 9 Z (We Y4) Z<|qal 5 V<|Jb Z Tt Z Z Z (AC.mid [_] [] (M1++(Mo++(Fo++L))) (ih e hd _ _ A2 n2 p2 x.body (hbx.le (h3.t h5|>.t h44)) O)) ?_
   rintro _ _ s45 h45 ⟨M2,rfl,C2,r2,e2,rfl,hM2⟩
   refine ⟨(fun x hx _=>nomatch hx),?_⟩
   simp only [cQ9,nQ9]
   refine qal 8 V<|Jb Z Tt Z Z Z (AC.mid [_] [] (M2++(M1++(Mo++(Fo++L)))) (ih e hd _ _ A3 n3 p3 x.els (hex.le (h3.t h5|>.t h44|>.t h45)) O)) ?_
   rintro _ _ s46 h46 ⟨M3,rfl,C3,r3,e3,rfl,hM3⟩
   refine ⟨(fun x hx _=>nomatch hx),?_⟩
   simp only [cQ9,nQ9]
   refine qal 10 V<|Wu Z Tt 0 [_,_,_,_,_] Y9 (sM (sb0 _))<|za 11 Z (We Y4) Z<|qal 12 V<|Wu Z Tt 0 [_,_,_,_,_] Y9 (sM (sb0 _))<|za 13 Z (We Y4) Z<|qal 14 V<|Wu Z Tt 0 [_,_,_,_,_] Y9 (sM (sb0 _))<|qad V ?_
   refine qaa (MidF.mk (.slice C1 r1 e1,.slice C2 r2 e2,.slice C3 r3 e3,M1,M2,M3) [] (h5.t h44|>.t h45|>.t h46) sk (qdb _ M1 M2 M3 Mo Fo L) ⟨⟨_,_,_,Z,hM1⟩,⟨_,_,_,Z,hM2.le h46⟩,⟨_,_,_,Z,hM3.le (Lr D)⟩⟩)
  intro g s4 h4 I4
  simp only [cQ9,nQ9]
  obtain ⟨v1,v2,v3,M1,M2,M3⟩:=g
  obtain ⟨⟨C1,r1,e1,q1,hM1⟩,⟨C2,r2,e2,q2,hM2⟩,⟨C3,r3,e3,q3,hM3⟩⟩:=I4
  simp only at q1 q2 q3 hM1 hM2 hM3
  subst q1 q2 q3
  dsimp only
  refine Zr<|Zqm Z Z<|qaf (qan 0 [_,_,_,_,_] Z Z Z Z Z) Z<|qbt [(_,_)] [_,_,_,_,_] Z Z Z Z Z Z Z Z Z ?_
  intro βn s47 h47 hcb
  refine qbd (sz:=5) [_] Mo ((Fo++(M1++(M2++M3)))++L) Z Z Z Z Z Z Z hO (Row.of_cells (hcb.le (Lr D)) Z Z) ⟨by simp [ti95];omega,by omega⟩ Z ?_
  intro vq Mq s48 h48 oq
  obtain ⟨Avq,cvq,rfl,_,_⟩:=Own.slice oq
  simp only [cQ9,nQ9]
  refine Zqa Z Z<|Zn<|Zb<|Zt<|Zr<|qaG Z Z Z (w64 O O)<|Zqm Z Z<|Zn<|?_
  refine qaa ⟨(k+1,.slice Avq (k+1) cvq,Mq,Fo++(M1++(M2++M3))),[_],kp,Z,⟨(I1.1.t h3|>.t h4|>.t h47|>.t h48),⟨by simp only;omega,css++[[.int .i64 x.kind,St x.name,.slice C1 r1 e1,.slice C2 r2 e2,.slice C3 r3 e3]],Ms++[M1++(M2++M3)],by simp only [List.flatten_append,List.flatten_cons,List.flatten_nil,List.append_nil];exact oq,by simp only [List.flatten_append,List.flatten_cons,List.flatten_nil,List.append_nil];rw [hF],by simp only;rw [qaT hx];exact qga (hA3.mono fun _ _ _ k=>SO.le (h3.t h4|>.t h47|>.t h48) k) (hd▸SO.mk hM1 (hM2.le (h47.t h48)) (hM3.le (h47.t h48)) hnl)⟩⟩,Oz⟩
 obtain rfl:n=k:=by omega
 rw [List.take_of_length_le O] at hA3
 refine Zl<|Zv<|Zv<|Zd<|Zt<|Zs<|qbs [] Mo _ ?_
 intro s49 h49 hpub49
 simp only [cQ9,nQ9]
 have hRw:Rws 5 s49 Ao n co css:=Rws.own hO hpub49 (qgS (fun _ _ _ h=>SO.five h) hA3) (by have:=hA3.len;omega)
 refine Zr<|Zqm Z Z<|At Z Z<|Zo<|?_
 refine rR [] _ (.t1 Z) Z (I1.1.t h49) fun _ hS2=>?_
 exact ⟨Fo,rfl,_,_,_,rfl,fun s2 hs2=>⟨css,Ms,hF,hRw.le ((Lr D).t (hS2.t hs2)),hA3.mono fun _ _ _ k=>SO.le (h49.t (hS2.t hs2)) k⟩⟩
theorem qqU{D d:Nat}{f:FuncId}{args:List Value}{L:Hl}{s:World}{xs:List Stm}(h:AC prog D f args L s fun v L' s'=>∃ M',L'=M'++L∧∃ A' n' c',v=.slice A' n' c'∧∀ s2,Le D s' s2→SOs d s2 M' A' n' c' xs):AC prog D f args L s fun v L' s'=>∃ M',L'=M'++L∧∃ A' n' c',v=.slice A' n' c'∧SOs d s' M' A' n' c' xs:=h.mono fun v L' s' _ ⟨M',h1,A',n',c',h2,h3⟩=>⟨M',h1,A',n',c',h2,h3 _ (Le.refl _)⟩
theorem cls(D:Nat):∀ d,CLS D d
 | 0=>fun L s A n c xs hA hx9=>qqU (qj4 D 0 (fun e h=>by omega) L s A n c xs hA hx9)
 | d+1=>fun L s A n c xs hA hx9=>qqU (qj4 D (d+1) (fun e h=>(show d=e by omega)▸cls D d) L s A n c xs hA hx9)
def FO(d:Nat)(s:World)(M:Hl)(x:Fnc)(cs:List Value):Prop:=∃ A1 n1 c1 A2 n2 c2 A3 n3 c3,cs=[St x.name,.slice A1 n1 c1,.slice A2 n2 c2,.slice A3 n3 c3]∧Strs s A1 n1 c1 x.params∧Strs s A2 n2 c2 x.locals∧SOs d s M A3 n3 c3 x.body∧x.name.length≤9223372036854775807
def FOs(d:Nat)(s:World)(M:Hl)(A:Option Addr)(n c:Nat)(l:List Fnc):Prop:=∃ css Ms,M=Ms.flatten∧Rws 4 s A n c css∧All3 (FO d s) Ms l css
theorem FO.le{D d:Nat}{s s':World}{M:Hl}{x:Fnc}{cs:List Value}(h:FO d s M x cs)(hl:Le D s s'):FO d s' M x cs:=by
 obtain ⟨A1,n1,c1,A2,n2,c2,A3,n3,c3,h1,h2,h3,h4,h5⟩:=h
 exact ⟨A1,n1,c1,A2,n2,c2,A3,n3,c3,h1,h2.le hl,h3.le hl,h4.le hl,h5⟩
theorem FO.four{d:Nat}{s:World}{M:Hl}{x:Fnc}{cs:List Value}(h:FO d s M x cs):cs.length=4:=by
 obtain ⟨A1,n1,c1,A2,n2,c2,A3,n3,c3,rfl,_⟩:=h;rfl
theorem FOs.le{D d:Nat}{s s':World}{M:Hl}{A:Option Addr}{n c:Nat}{l:List Fnc}(h:FOs d s M A n c l)(hl:Le D s s'):FOs d s' M A n c l:=by
 obtain ⟨c4,m4,e4,r4,k4⟩:=h
 exact ⟨c4,m4,e4,r4.le hl,k4.mono fun _ _ _ h=>h.le hl⟩
theorem qcY{α β:Type}{R:α→β→Prop}{l:List α}{m:List β}{a:α}{b:β}(h:All2 R l m)(h1:R a b):All2 R (l++[a]) (m++[b]):=by
 induction h with
 | nil=>exact .cons h1 .nil
 | cons k _ ih=>exact .cons k ih
theorem qk6(D:Nat)(L:Hl)(s:World)(d:Nat)(p:Prg)(Ag Af:Option Addr)(ng cg nf cf:Nat)(hGl:Glos s Ag ng cg p.globals)(hFn:Fncs d s Af nf cf p.funcs)(hV:PV p):AC Tryz.prog D 41 [.agg #[.slice Ag ng cg,.slice Af nf cf]] L s fun v L' s'=>∃ M',L'=M'++L∧∃ Bg mg eg Bf mf ef,v=.agg #[.slice Bg mg eg,.slice Bf mf ef]∧∀ s2,Le D s' s2→Glos s2 Bg mg eg p.globals∧FOs d s2 M' Bf mf ef p.funcs:=by
 have hn1:=hGl.1
 have hn2:=hFn.1
 have hV1:=hV.1
 have hV2:=hV.2.1
 have hVg:=hV.2.2.1
 have hVf:=hV.2.2.2.1
 refine qai (fn:=Tryz.f41) qaq Tryz.func41 V Z Tryz.ntmps41 Z (rs:=[.cell 2 25]) Z [(0,_)] Z<|Sr<|qau Z Z ?_
 intro β1 s1 h1
 refine qae Z [_,_] Z Z ?_
 intro β2 s2 h2
 refine Nt<|Sr<|qae Z [_,_] Z Z ?_
 intro β3 s3 h3
 refine Nt<|Zs<|Sr<|W0 Y5<|Wl 2 Y6<|Ws Y4<|Zqm Z Z<|Nt<|Zp<|?_
 refine qat (γ:=Nat×Value×Hl) (fun g=>[(1,_),(2,_),(3,_),(9,_),(10,_),(11,.int .i64 (g.1:Int))]) (fun g=>(β3,cb [g.2.1,.slice none 0 0] 25)::_::_::(g.2.2++L)) (fun g tw=>Le D s3 tw∧(g.1≤ng∧∃ css,FL.Own 53 4 g.2.2 g.2.1 g.1 (List.flatten css)∧All2 (fun x cs=>cs.length=4∧GlR tw x cs) (p.globals.take g.1) css)) (fun g=>ng - g.1) (fun _ _ _ h hl=>⟨h.1.trans hl,⟨h.2.1,by obtain ⟨css,q1,q2⟩:=h.2.2;exact ⟨css,q1,q2.mono fun _ _ k=>⟨k.1,k.2.le hl⟩⟩⟩⟩) (0,.slice none 0 0,[]) (.c6 Z Z Z Z Z Z (.nil _)) Z ⟨Le.refl _,⟨Nat.zero_le _,[],FL.Own.nil,.nil⟩⟩ ?_
 intro g s4 I4
 obtain ⟨k,vo,Mo⟩:=g
 obtain ⟨hk0,css,hO,hA2⟩:=I4.2
 simp only at hk0 hO hA2
 dsimp only
 obtain ⟨Ao,co,rfl,_,_⟩:=Own.slice hO
 refine Sr<|qba Z Z Z<|Nt<|Zs<|?_
 refine qab Z (fun c5=>?_) (fun c5=>?_)
 ·
  have hk:k < ng:=by omega
  obtain ⟨b,off,x,Ai,ni,ci,rfl,hx,hcx,hix,hux,hnl⟩:=Glos.at_ (hGl.le (h1.t h2|>.t h3|>.t I4.1)) hk
  have hni:=hix.1
  have hgx:=(hVg x (List.mem_of_getElem? hx)).2
  refine Zk<|Zt<|Zs<|Zp<|Sr<|qaf (qap Z Z Z Z Z Z hk) Z<|qaf (qas Z Z Z (hcx.le (Lr D)) Z) Z<|qae Z [_,_,_,_] Z Z ?_
  intro β6 s6 h6
  refine Wt 0 [_,_,_,_] Y9<|Nt<|Sr<|Wb Y5<|Wl 0 Y6<|Jc Z Z Z (qnG D _ _ Ai ni ci x.init (hix.le h6) O) ?_
  rintro _ _ s7 h7 ⟨rfl,Aw,nw,cw,rfl,hWw⟩
  refine Wb Y5<|Wt 0 [_,_,_,_] Y9<|Nt<|Zr<|W0 Y5<|Wl 1 Y6<|qaf (qan 0 [_,_,_,_] Z Z Z Z Z) Z<|qbt [(_,_)] [_,_,_,_] Z Z Z Z Z Z Z Z Z ?_
  intro βn s8 h8 hcb
  refine qbd (sz:=4) [_,_,_,_] Mo L Z Z Z Z Z Z Z hO (Row.of_cells (hcb.le (Lr D)) Z Z) ⟨by simp [ti53];omega,by omega⟩ Z ?_
  intro vq Mq s9 h9 oq
  obtain ⟨Avq,cvq,rfl,_,_⟩:=Own.slice oq
  simp only [cQ9,nQ9]
  refine W0 Y5<|Wt 1 [_,_] Y9<|Zn<|Zb<|Zt<|Zr<|qaG Z Z Z (w64 O O)<|Zqm Z Z<|Zn<|?_
  refine qaa ⟨(k+1,.slice Avq (k+1) cvq,Mq),[_],kp,Z,⟨(I4.1.t h6|>.t h7|>.t h8|>.t h9),⟨by simp only;omega,css++[[.int .i64 x.kind,St x.name,.int .u32 x.num,.slice Aw nw cw]],by simp only [List.flatten_append,List.flatten_cons,List.flatten_nil,List.append_nil];exact oq,by simp only;rw [qaT hx];exact qcY (hA2.mono fun _ _ k=>⟨k.1,k.2.le (h6.t h7|>.t h8|>.t h9)⟩) ⟨Z,Aw,nw,cw,Z,hWw.le (h8.t h9),hux,hnl⟩⟩⟩,Oz⟩
 obtain rfl:ng=k:=by omega
 rw [List.take_of_length_le O] at hA2
 refine Zl<|Zv<|Zv<|Zd<|Zt<|Zs<|Zs<|qbs [_,_,_] Mo _ ?_
 intro s10 h10 hpub10
 simp only [cQ9,nQ9]
 have hGN:Glos s10 Ao ng co p.globals:=Own.rows hO hpub10 (hA2.mono fun _ _ k=>⟨k.1,k.2.le h10⟩) hn1
 obtain ⟨Go,hGo⟩:∃ Go,Go=Ao:=⟨_,rfl⟩
 obtain ⟨eg,heg⟩:∃ eg,eg=co:=⟨_,rfl⟩
 rw [← hGo,← heg] at hGN ⊢
 clear hGo heg hO hA2
 refine Zr<|Wb Y5<|Wl 2 Y6<|Ws Y4<|Zqm Z Z<|Nt<|Zp<|?_
 refine qat (γ:=Nat×Value×Hl×Hl) (fun g=>[(2,_),(3,_),(27,_),(28,_),(29,.int .i64 (g.1:Int))]) (fun g=>(β3,cb [.slice Go ng eg,g.2.1] 25)::_::_::(g.2.2.1++(g.2.2.2++L))) (fun g tw=>Le D s10 tw∧(g.1≤nf∧∃ css Ms,FL.Own 57 4 g.2.2.1 g.2.1 g.1 (List.flatten css)∧g.2.2.2=List.flatten Ms∧All3 (FO d tw) Ms (p.funcs.take g.1) css)) (fun g=>nf - g.1) (fun _ _ _ h hl=>⟨h.1.trans hl,⟨h.2.1,by obtain ⟨css,Ms,q1,q2,q3⟩:=h.2.2;exact ⟨css,Ms,q1,q2,q3.mono fun _ _ _ k=>k.le hl⟩⟩⟩) (0,.slice none 0 0,[],[]) (.c5 Z Z Z Z Z (.nil _)) Z ⟨Le.refl _,⟨Nat.zero_le _,[],[],FL.Own.nil,Z,.nil⟩⟩ ?_
 intro g s11 I11
 obtain ⟨k,vo,Mo,Fo⟩:=g
 obtain ⟨hk0,css,Ms,hO,hF,hA3⟩:=I11.2
 simp only at hk0 hO hF hA3
 dsimp only
 obtain ⟨Ao,co,rfl,_,_⟩:=Own.slice hO
 refine Sr<|qba Z Z Z<|Nt<|Zs<|?_
 refine qab Z (fun c12=>?_) (fun c12=>?_)
 ·
  have hk:k < nf:=by omega
  obtain ⟨b,off,x,B1,m1,d1,B2,m2,d2,B3,m3,d3,rfl,hx,hcx,hpx,hlx,hbx,hnl⟩:=Fncs.at_ (hFn.le (h1.t h2|>.t h3|>.t I4.1|>.t h10|>.t I11.1)) hk
  obtain ⟨hi1,hi2,hi3,hi4,hi5,hi6⟩:=hVf x (List.mem_of_getElem? hx)
  have hp9:=hpx.1
  have hl9:=hlx.1
  refine Zk<|Zt<|Zs<|Zp<|Sr<|qaf (qap Z Z Z Z Z Z hk) Z<|qaf (qas Z Z Z (hcx.le (Lr D)) Z) Z<|qae Z [_,_,_,_] Z Z ?_
  intro β13 s13 h13
  refine Wt 0 [_,_,_,_] Y9<|Nt<|?_
  refine qlR [] Z (γ:=Value×Value×Value×Hl) (fun g=>(β13,cb [St x.name,g.1,g.2.1,g.2.2.1] 57)::(β3,cb [.slice Go ng eg,.slice Ao k co] 25)::(β2,cb [.slice none 0 0,.slice none 0 0] 25)::(β1,cb [.slice Ag ng cg,.slice (some ⟨b,off,none⟩) nf cf] 25)::(Mo++((Fo++g.2.2.2)++L))) (fun g tw=>(∃ A n c,g.1=.slice A n c∧Strs tw A n c x.params)∧(∃ A n c,g.2.1=.slice A n c∧Strs tw A n c x.locals)∧(∃ A n c,g.2.2.1=.slice A n c∧SOs d tw g.2.2.2 A n c x.body)) (fun _ _ _ h hl=>⟨by obtain ⟨A,n,c,q1,q2⟩:=h.1;exact ⟨A,n,c,q1,q2.le hl⟩,by obtain ⟨A,n,c,q1,q2⟩:=h.2.1;exact ⟨A,n,c,q1,q2.le hl⟩,by obtain ⟨A,n,c,q1,q2⟩:=h.2.2;exact ⟨A,n,c,q1,q2.le hl⟩⟩) ?_ ?_
  ·
   refine qa1 qag 15 Z 0 ?_
   intro s15 h15
   refine za 0 Z (We Y4) Z<|za 3 Z (We Y4) Z<|za 6 Z (We Y4) Z ?_
   refine qlo 1 4 7 V ?_ ?_ ?_
   ·
    refine qcf Z Tt (Wd 0 Y5) Z ?_
    refine qlo 2 4 7 V ?_ ?_ ?_
    ·
     refine Jb Z Tt Z Z Z (qaQ D _ _ B1 m1 d1 x.params (hpx.le (h13.t h15)) O) ?_
     rintro _ _ s16 h16 ⟨rfl,C1,r1,e1,rfl,hS1⟩
     refine ⟨(fun x hx _=>nomatch hx),?_⟩
     refine qb9 4 7 V ?_ ?_
     ·
      refine qcf Z Tt (Wd 0 Y5) Z ?_
      refine qb9 5 7 V ?_ ?_
      ·
       refine Jb Z Tt Z Z Z (qaQ D _ _ B2 m2 d2 x.locals (hlx.le (h13.t h15|>.t h16)) O) ?_
       rintro _ _ s17 h17 ⟨rfl,C2,r2,e2,rfl,hS2q⟩
       refine ⟨(fun x hx _=>nomatch hx),?_⟩
       refine qal 7 V<|qcf Z Tt (Wd 0 Y5) Z<|za 9 Z (We Y4) Z<|qal 8 V<|Jb Z Tt Z Z Z (AC.mid [_,_,_,_] [] (Mo++(Fo++L)) (cls D d _ _ B3 m3 d3 x.body (hbx.le (h13.t h15|>.t h16|>.t h17)) O)) ?_
       rintro _ _ s18 h18 ⟨M1,rfl,C3,r3,e3,rfl,hS3⟩
       refine ⟨(fun x hx _=>nomatch hx),?_⟩
       simp only [cQ9,nQ9]
       refine qal 10 V<|Wu Z Tt 0 [_,_,_,_] Y9 (sM (sb0 _))<|za 11 Z (We Y4) Z<|qal 12 V<|Wu Z Tt 0 [_,_,_,_] Y9 (sM (sb0 _))<|za 13 Z (We Y4) Z<|qal 14 V<|Wu Z Tt 0 [_,_,_,_] Y9 (sM (sb0 _))<|qad V ?_
       refine qaa (MidF.mk (.slice C1 r1 e1,.slice C2 r2 e2,.slice C3 r3 e3,M1) [] (h15.t h16|>.t h17|>.t h18) sk (.cons _ (.cons _ (.cons _ (.cons _ (qbZ M1 Mo Fo L))))) ⟨⟨_,_,_,Z,hS1.le (h17.t h18)⟩,⟨_,_,_,Z,hS2q.le h18⟩,⟨_,_,_,Z,hS3.le (Lr D)⟩⟩)
      refine qcf Z Tt (Wd 0 Y5) Z<|za 9 Z (We Y4) Z<|qal 5 V<|Jb Z Tt Z Z Z (qaQ D _ _ B2 m2 d2 x.locals (hlx.le (h13.t h15|>.t h16)) O) ?_
      rintro _ _ s19 h19 ⟨rfl,C2,r2,e2,rfl,hS2q⟩
      refine ⟨(fun x hx _=>nomatch hx),?_⟩
      refine qal 8 V<|Jb Z Tt Z Z Z (AC.mid [_,_,_,_] [] (Mo++(Fo++L)) (cls D d _ _ B3 m3 d3 x.body (hbx.le (h13.t h15|>.t h16|>.t h19)) O)) ?_
      rintro _ _ s20 h20 ⟨M1,rfl,C3,r3,e3,rfl,hS3⟩
      refine ⟨(fun x hx _=>nomatch hx),?_⟩
      simp only [cQ9,nQ9]
      refine qal 10 V<|Wu Z Tt 0 [_,_,_,_] Y9 (sM (sb0 _))<|za 11 Z (We Y4) Z<|qal 12 V<|Wu Z Tt 0 [_,_,_,_] Y9 (sM (sb0 _))<|za 13 Z (We Y4) Z<|qal 14 V<|Wu Z Tt 0 [_,_,_,_] Y9 (sM (sb0 _))<|qad V ?_
      refine qaa (MidF.mk (.slice C1 r1 e1,.slice C2 r2 e2,.slice C3 r3 e3,M1) [] (h15.t h16|>.t h19|>.t h20) sk (.cons _ (.cons _ (.cons _ (.cons _ (qbZ M1 Mo Fo L))))) ⟨⟨_,_,_,Z,hS1.le (h19.t h20)⟩,⟨_,_,_,Z,hS2q.le h20⟩,⟨_,_,_,Z,hS3.le (Lr D)⟩⟩)
     refine qcf Z Tt (Wd 0 Y5) Z<|qal 4 V<|qcf Z Tt (Wd 0 Y5) Z<|za 9 Z (We Y4) Z<|qal 5 V<|Jb Z Tt Z Z Z (qaQ D _ _ B2 m2 d2 x.locals (hlx.le (h13.t h15|>.t h16)) O) ?_
     rintro _ _ s21 h21 ⟨rfl,C2,r2,e2,rfl,hS2q⟩
     refine ⟨(fun x hx _=>nomatch hx),?_⟩
     refine qal 8 V<|Jb Z Tt Z Z Z (AC.mid [_,_,_,_] [] (Mo++(Fo++L)) (cls D d _ _ B3 m3 d3 x.body (hbx.le (h13.t h15|>.t h16|>.t h21)) O)) ?_
     rintro _ _ s22 h22 ⟨M1,rfl,C3,r3,e3,rfl,hS3⟩
     refine ⟨(fun x hx _=>nomatch hx),?_⟩
     simp only [cQ9,nQ9]
     refine qal 10 V<|Wu Z Tt 0 [_,_,_,_] Y9 (sM (sb0 _))<|za 11 Z (We Y4) Z<|qal 12 V<|Wu Z Tt 0 [_,_,_,_] Y9 (sM (sb0 _))<|za 13 Z (We Y4) Z<|qal 14 V<|Wu Z Tt 0 [_,_,_,_] Y9 (sM (sb0 _))<|qad V ?_
     refine qaa (MidF.mk (.slice C1 r1 e1,.slice C2 r2 e2,.slice C3 r3 e3,M1) [] (h15.t h16|>.t h21|>.t h22) sk (.cons _ (.cons _ (.cons _ (.cons _ (qbZ M1 Mo Fo L))))) ⟨⟨_,_,_,Z,hS1.le (h21.t h22)⟩,⟨_,_,_,Z,hS2q.le h22⟩,⟨_,_,_,Z,hS3.le (Lr D)⟩⟩)
    ·
     refine qcf Z Tt (Wd 0 Y5) Z ?_
     refine qb9 2 7 V ?_ ?_
     ·
      refine Jb Z Tt Z Z Z (qaQ D _ _ B1 m1 d1 x.params (hpx.le (h13.t h15)) O) ?_
      rintro _ _ s23 h23 ⟨rfl,C1,r1,e1,rfl,hS1⟩
      refine ⟨(fun x hx _=>nomatch hx),?_⟩
      refine qb9 5 7 V ?_ ?_
      ·
       refine Jb Z Tt Z Z Z (qaQ D _ _ B2 m2 d2 x.locals (hlx.le (h13.t h15|>.t h23)) O) ?_
       rintro _ _ s24 h24 ⟨rfl,C2,r2,e2,rfl,hS2q⟩
       refine ⟨(fun x hx _=>nomatch hx),?_⟩
       refine qal 7 V<|qcf Z Tt (Wd 0 Y5) Z<|za 9 Z (We Y4) Z<|qal 8 V<|Jb Z Tt Z Z Z (AC.mid [_,_,_,_] [] (Mo++(Fo++L)) (cls D d _ _ B3 m3 d3 x.body (hbx.le (h13.t h15|>.t h23|>.t h24)) O)) ?_
       rintro _ _ s25 h25 ⟨M1,rfl,C3,r3,e3,rfl,hS3⟩
       refine ⟨(fun x hx _=>nomatch hx),?_⟩
       simp only [cQ9,nQ9]
       refine qal 10 V<|Wu Z Tt 0 [_,_,_,_] Y9 (sM (sb0 _))<|za 11 Z (We Y4) Z<|qal 12 V<|Wu Z Tt 0 [_,_,_,_] Y9 (sM (sb0 _))<|za 13 Z (We Y4) Z<|qal 14 V<|Wu Z Tt 0 [_,_,_,_] Y9 (sM (sb0 _))<|qad V ?_
       refine qaa (MidF.mk (.slice C1 r1 e1,.slice C2 r2 e2,.slice C3 r3 e3,M1) [] (h15.t h23|>.t h24|>.t h25) sk (.cons _ (.cons _ (.cons _ (.cons _ (qbZ M1 Mo Fo L))))) ⟨⟨_,_,_,Z,hS1.le (h24.t h25)⟩,⟨_,_,_,Z,hS2q.le h25⟩,⟨_,_,_,Z,hS3.le (Lr D)⟩⟩)
      refine qcf Z Tt (Wd 0 Y5) Z<|za 9 Z (We Y4) Z<|qal 5 V<|Jb Z Tt Z Z Z (qaQ D _ _ B2 m2 d2 x.locals (hlx.le (h13.t h15|>.t h23)) O) ?_
      rintro _ _ s26 h26 ⟨rfl,C2,r2,e2,rfl,hS2q⟩
      refine ⟨(fun x hx _=>nomatch hx),?_⟩
      refine qal 8 V<|Jb Z Tt Z Z Z (AC.mid [_,_,_,_] [] (Mo++(Fo++L)) (cls D d _ _ B3 m3 d3 x.body (hbx.le (h13.t h15|>.t h23|>.t h26)) O)) ?_
      rintro _ _ s27 h27 ⟨M1,rfl,C3,r3,e3,rfl,hS3⟩
      refine ⟨(fun x hx _=>nomatch hx),?_⟩
      simp only [cQ9,nQ9]
      refine qal 10 V<|Wu Z Tt 0 [_,_,_,_] Y9 (sM (sb0 _))<|za 11 Z (We Y4) Z<|qal 12 V<|Wu Z Tt 0 [_,_,_,_] Y9 (sM (sb0 _))<|za 13 Z (We Y4) Z<|qal 14 V<|Wu Z Tt 0 [_,_,_,_] Y9 (sM (sb0 _))<|qad V ?_
      refine qaa (MidF.mk (.slice C1 r1 e1,.slice C2 r2 e2,.slice C3 r3 e3,M1) [] (h15.t h23|>.t h26|>.t h27) sk (.cons _ (.cons _ (.cons _ (.cons _ (qbZ M1 Mo Fo L))))) ⟨⟨_,_,_,Z,hS1.le (h26.t h27)⟩,⟨_,_,_,Z,hS2q.le h27⟩,⟨_,_,_,Z,hS3.le (Lr D)⟩⟩)
     refine qcf Z Tt (Wd 0 Y5) Z<|qal 2 V<|Jb Z Tt Z Z Z (qaQ D _ _ B1 m1 d1 x.params (hpx.le (h13.t h15)) O) ?_
     rintro _ _ s28 h28 ⟨rfl,C1,r1,e1,rfl,hS1⟩
     refine ⟨(fun x hx _=>nomatch hx),?_⟩
     refine za 9 Z (We Y4) Z<|qal 5 V<|Jb Z Tt Z Z Z (qaQ D _ _ B2 m2 d2 x.locals (hlx.le (h13.t h15|>.t h28)) O) ?_
     rintro _ _ s29 h29 ⟨rfl,C2,r2,e2,rfl,hS2q⟩
     refine ⟨(fun x hx _=>nomatch hx),?_⟩
     refine qal 8 V<|Jb Z Tt Z Z Z (AC.mid [_,_,_,_] [] (Mo++(Fo++L)) (cls D d _ _ B3 m3 d3 x.body (hbx.le (h13.t h15|>.t h28|>.t h29)) O)) ?_
     rintro _ _ s30 h30 ⟨M1,rfl,C3,r3,e3,rfl,hS3⟩
     refine ⟨(fun x hx _=>nomatch hx),?_⟩
     simp only [cQ9,nQ9]
     refine qal 10 V<|Wu Z Tt 0 [_,_,_,_] Y9 (sM (sb0 _))<|za 11 Z (We Y4) Z<|qal 12 V<|Wu Z Tt 0 [_,_,_,_] Y9 (sM (sb0 _))<|za 13 Z (We Y4) Z<|qal 14 V<|Wu Z Tt 0 [_,_,_,_] Y9 (sM (sb0 _))<|qad V ?_
     refine qaa (MidF.mk (.slice C1 r1 e1,.slice C2 r2 e2,.slice C3 r3 e3,M1) [] (h15.t h28|>.t h29|>.t h30) sk (.cons _ (.cons _ (.cons _ (.cons _ (qbZ M1 Mo Fo L))))) ⟨⟨_,_,_,Z,hS1.le (h29.t h30)⟩,⟨_,_,_,Z,hS2q.le h30⟩,⟨_,_,_,Z,hS3.le (Lr D)⟩⟩)
    refine qcf Z Tt (Wd 0 Y5) Z ?_
    refine qb9 2 4 V ?_ ?_
    ·
     refine Jb Z Tt Z Z Z (qaQ D _ _ B1 m1 d1 x.params (hpx.le (h13.t h15)) O) ?_
     rintro _ _ s31 h31 ⟨rfl,C1,r1,e1,rfl,hS1⟩
     refine ⟨(fun x hx _=>nomatch hx),?_⟩
     refine qal 4 V<|qcf Z Tt (Wd 0 Y5) Z<|za 9 Z (We Y4) Z<|qal 5 V<|Jb Z Tt Z Z Z (qaQ D _ _ B2 m2 d2 x.locals (hlx.le (h13.t h15|>.t h31)) O) ?_
     rintro _ _ s32 h32 ⟨rfl,C2,r2,e2,rfl,hS2q⟩
     refine ⟨(fun x hx _=>nomatch hx),?_⟩
     refine qal 8 V<|Jb Z Tt Z Z Z (AC.mid [_,_,_,_] [] (Mo++(Fo++L)) (cls D d _ _ B3 m3 d3 x.body (hbx.le (h13.t h15|>.t h31|>.t h32)) O)) ?_
     rintro _ _ s33 h33 ⟨M1,rfl,C3,r3,e3,rfl,hS3⟩
     refine ⟨(fun x hx _=>nomatch hx),?_⟩
     simp only [cQ9,nQ9]
     refine qal 10 V<|Wu Z Tt 0 [_,_,_,_] Y9 (sM (sb0 _))<|za 11 Z (We Y4) Z<|qal 12 V<|Wu Z Tt 0 [_,_,_,_] Y9 (sM (sb0 _))<|za 13 Z (We Y4) Z<|qal 14 V<|Wu Z Tt 0 [_,_,_,_] Y9 (sM (sb0 _))<|qad V ?_
     refine qaa (MidF.mk (.slice C1 r1 e1,.slice C2 r2 e2,.slice C3 r3 e3,M1) [] (h15.t h31|>.t h32|>.t h33) sk (.cons _ (.cons _ (.cons _ (.cons _ (qbZ M1 Mo Fo L))))) ⟨⟨_,_,_,Z,hS1.le (h32.t h33)⟩,⟨_,_,_,Z,hS2q.le h33⟩,⟨_,_,_,Z,hS3.le (Lr D)⟩⟩)
    refine qcf Z Tt (Wd 0 Y5) Z<|qal 2 V<|Jb Z Tt Z Z Z (qaQ D _ _ B1 m1 d1 x.params (hpx.le (h13.t h15)) O) ?_
    rintro _ _ s34 h34 ⟨rfl,C1,r1,e1,rfl,hS1⟩
    refine ⟨(fun x hx _=>nomatch hx),?_⟩
    refine za 9 Z (We Y4) Z<|qal 5 V<|Jb Z Tt Z Z Z (qaQ D _ _ B2 m2 d2 x.locals (hlx.le (h13.t h15|>.t h34)) O) ?_
    rintro _ _ s35 h35 ⟨rfl,C2,r2,e2,rfl,hS2q⟩
    refine ⟨(fun x hx _=>nomatch hx),?_⟩
    refine qal 8 V<|Jb Z Tt Z Z Z (AC.mid [_,_,_,_] [] (Mo++(Fo++L)) (cls D d _ _ B3 m3 d3 x.body (hbx.le (h13.t h15|>.t h34|>.t h35)) O)) ?_
    rintro _ _ s36 h36 ⟨M1,rfl,C3,r3,e3,rfl,hS3⟩
    refine ⟨(fun x hx _=>nomatch hx),?_⟩
    simp only [cQ9,nQ9]
    refine qal 10 V<|Wu Z Tt 0 [_,_,_,_] Y9 (sM (sb0 _))<|za 11 Z (We Y4) Z<|qal 12 V<|Wu Z Tt 0 [_,_,_,_] Y9 (sM (sb0 _))<|za 13 Z (We Y4) Z<|qal 14 V<|Wu Z Tt 0 [_,_,_,_] Y9 (sM (sb0 _))<|qad V ?_
    refine qaa (MidF.mk (.slice C1 r1 e1,.slice C2 r2 e2,.slice C3 r3 e3,M1) [] (h15.t h34|>.t h35|>.t h36) sk (.cons _ (.cons _ (.cons _ (.cons _ (qbZ M1 Mo Fo L))))) ⟨⟨_,_,_,Z,hS1.le (h35.t h36)⟩,⟨_,_,_,Z,hS2q.le h36⟩,⟨_,_,_,Z,hS3.le (Lr D)⟩⟩)
   ·
    refine qcf Z Tt (Wd 0 Y5) Z ?_
    refine qb9 1 7 V ?_ ?_
    ·
     refine qcf Z Tt (Wd 0 Y5) Z ?_
     refine qb9 2 7 V ?_ ?_
     ·
      refine Jb Z Tt Z Z Z (qaQ D _ _ B1 m1 d1 x.params (hpx.le (h13.t h15)) O) ?_
      rintro _ _ s37 h37 ⟨rfl,C1,r1,e1,rfl,hS1⟩
      refine ⟨(fun x hx _=>nomatch hx),?_⟩
      refine qb9 5 7 V ?_ ?_
      ·
       refine Jb Z Tt Z Z Z (qaQ D _ _ B2 m2 d2 x.locals (hlx.le (h13.t h15|>.t h37)) O) ?_
       rintro _ _ s38 h38 ⟨rfl,C2,r2,e2,rfl,hS2q⟩
       refine ⟨(fun x hx _=>nomatch hx),?_⟩
       refine qal 7 V<|qcf Z Tt (Wd 0 Y5) Z<|za 9 Z (We Y4) Z<|qal 8 V<|Jb Z Tt Z Z Z (AC.mid [_,_,_,_] [] (Mo++(Fo++L)) (cls D d _ _ B3 m3 d3 x.body (hbx.le (h13.t h15|>.t h37|>.t h38)) O)) ?_
       rintro _ _ s39 h39 ⟨M1,rfl,C3,r3,e3,rfl,hS3⟩
       refine ⟨(fun x hx _=>nomatch hx),?_⟩
       simp only [cQ9,nQ9]
       refine qal 10 V<|Wu Z Tt 0 [_,_,_,_] Y9 (sM (sb0 _))<|za 11 Z (We Y4) Z<|qal 12 V<|Wu Z Tt 0 [_,_,_,_] Y9 (sM (sb0 _))<|za 13 Z (We Y4) Z<|qal 14 V<|Wu Z Tt 0 [_,_,_,_] Y9 (sM (sb0 _))<|qad V ?_
       refine qaa (MidF.mk (.slice C1 r1 e1,.slice C2 r2 e2,.slice C3 r3 e3,M1) [] (h15.t h37|>.t h38|>.t h39) sk (.cons _ (.cons _ (.cons _ (.cons _ (qbZ M1 Mo Fo L))))) ⟨⟨_,_,_,Z,hS1.le (h38.t h39)⟩,⟨_,_,_,Z,hS2q.le h39⟩,⟨_,_,_,Z,hS3.le (Lr D)⟩⟩)
      refine qcf Z Tt (Wd 0 Y5) Z<|za 9 Z (We Y4) Z<|qal 5 V<|Jb Z Tt Z Z Z (qaQ D _ _ B2 m2 d2 x.locals (hlx.le (h13.t h15|>.t h37)) O) ?_
      rintro _ _ s40 h40 ⟨rfl,C2,r2,e2,rfl,hS2q⟩
      refine ⟨(fun x hx _=>nomatch hx),?_⟩
      refine qal 8 V<|Jb Z Tt Z Z Z (AC.mid [_,_,_,_] [] (Mo++(Fo++L)) (cls D d _ _ B3 m3 d3 x.body (hbx.le (h13.t h15|>.t h37|>.t h40)) O)) ?_
      rintro _ _ s41 h41 ⟨M1,rfl,C3,r3,e3,rfl,hS3⟩
      refine ⟨(fun x hx _=>nomatch hx),?_⟩
      simp only [cQ9,nQ9]
      refine qal 10 V<|Wu Z Tt 0 [_,_,_,_] Y9 (sM (sb0 _))<|za 11 Z (We Y4) Z<|qal 12 V<|Wu Z Tt 0 [_,_,_,_] Y9 (sM (sb0 _))<|za 13 Z (We Y4) Z<|qal 14 V<|Wu Z Tt 0 [_,_,_,_] Y9 (sM (sb0 _))<|qad V ?_
      refine qaa (MidF.mk (.slice C1 r1 e1,.slice C2 r2 e2,.slice C3 r3 e3,M1) [] (h15.t h37|>.t h40|>.t h41) sk (.cons _ (.cons _ (.cons _ (.cons _ (qbZ M1 Mo Fo L))))) ⟨⟨_,_,_,Z,hS1.le (h40.t h41)⟩,⟨_,_,_,Z,hS2q.le h41⟩,⟨_,_,_,Z,hS3.le (Lr D)⟩⟩)
     refine qcf Z Tt (Wd 0 Y5) Z<|qal 2 V<|Jb Z Tt Z Z Z (qaQ D _ _ B1 m1 d1 x.params (hpx.le (h13.t h15)) O) ?_
     rintro _ _ s42 h42 ⟨rfl,C1,r1,e1,rfl,hS1⟩
     refine ⟨(fun x hx _=>nomatch hx),?_⟩
     refine za 9 Z (We Y4) Z<|qal 5 V<|Jb Z Tt Z Z Z (qaQ D _ _ B2 m2 d2 x.locals (hlx.le (h13.t h15|>.t h42)) O) ?_
     rintro _ _ s43 h43 ⟨rfl,C2,r2,e2,rfl,hS2q⟩
     refine ⟨(fun x hx _=>nomatch hx),?_⟩
     refine qal 8 V<|Jb Z Tt Z Z Z (AC.mid [_,_,_,_] [] (Mo++(Fo++L)) (cls D d _ _ B3 m3 d3 x.body (hbx.le (h13.t h15|>.t h42|>.t h43)) O)) ?_
     rintro _ _ s44 h44 ⟨M1,rfl,C3,r3,e3,rfl,hS3⟩
     refine ⟨(fun x hx _=>nomatch hx),?_⟩
     simp only [cQ9,nQ9]
     refine qal 10 V<|Wu Z Tt 0 [_,_,_,_] Y9 (sM (sb0 _))<|za 11 Z (We Y4) Z<|qal 12 V<|Wu Z Tt 0 [_,_,_,_] Y9 (sM (sb0 _))<|za 13 Z (We Y4) Z<|qal 14 V<|Wu Z Tt 0 [_,_,_,_] Y9 (sM (sb0 _))<|qad V ?_
     refine qaa (MidF.mk (.slice C1 r1 e1,.slice C2 r2 e2,.slice C3 r3 e3,M1) [] (h15.t h42|>.t h43|>.t h44) sk (.cons _ (.cons _ (.cons _ (.cons _ (qbZ M1 Mo Fo L))))) ⟨⟨_,_,_,Z,hS1.le (h43.t h44)⟩,⟨_,_,_,Z,hS2q.le h44⟩,⟨_,_,_,Z,hS3.le (Lr D)⟩⟩)
    refine qcf Z Tt (Wd 0 Y5) Z<|qal 1 V<|qcf Z Tt (Wd 0 Y5) Z<|qal 2 V<|Jb Z Tt Z Z Z (qaQ D _ _ B1 m1 d1 x.params (hpx.le (h13.t h15)) O) ?_
    rintro _ _ s45 h45 ⟨rfl,C1,r1,e1,rfl,hS1⟩
    refine ⟨(fun x hx _=>nomatch hx),?_⟩
    refine za 9 Z (We Y4) Z<|qal 5 V<|Jb Z Tt Z Z Z (qaQ D _ _ B2 m2 d2 x.locals (hlx.le (h13.t h15|>.t h45)) O) ?_
    rintro _ _ s46 h46 ⟨rfl,C2,r2,e2,rfl,hS2q⟩
    refine ⟨(fun x hx _=>nomatch hx),?_⟩
    refine qal 8 V<|Jb Z Tt Z Z Z (AC.mid [_,_,_,_] [] (Mo++(Fo++L)) (cls D d _ _ B3 m3 d3 x.body (hbx.le (h13.t h15|>.t h45|>.t h46)) O)) ?_
    rintro _ _ s47 h47 ⟨M1,rfl,C3,r3,e3,rfl,hS3⟩
    refine ⟨(fun x hx _=>nomatch hx),?_⟩
    simp only [cQ9,nQ9]
    refine qal 10 V<|Wu Z Tt 0 [_,_,_,_] Y9 (sM (sb0 _))<|za 11 Z (We Y4) Z<|qal 12 V<|Wu Z Tt 0 [_,_,_,_] Y9 (sM (sb0 _))<|za 13 Z (We Y4) Z<|qal 14 V<|Wu Z Tt 0 [_,_,_,_] Y9 (sM (sb0 _))<|qad V ?_
    refine qaa (MidF.mk (.slice C1 r1 e1,.slice C2 r2 e2,.slice C3 r3 e3,M1) [] (h15.t h45|>.t h46|>.t h47) sk (.cons _ (.cons _ (.cons _ (.cons _ (qbZ M1 Mo Fo L))))) ⟨⟨_,_,_,Z,hS1.le (h46.t h47)⟩,⟨_,_,_,Z,hS2q.le h47⟩,⟨_,_,_,Z,hS3.le (Lr D)⟩⟩)
   refine qcf Z Tt (Wd 0 Y5) Z ?_
   refine qb9 1 4 V ?_ ?_
   ·
    refine qcf Z Tt (Wd 0 Y5) Z ?_
    refine qb9 2 4 V ?_ ?_
    ·
     refine Jb Z Tt Z Z Z (qaQ D _ _ B1 m1 d1 x.params (hpx.le (h13.t h15)) O) ?_
     rintro _ _ s48 h48 ⟨rfl,C1,r1,e1,rfl,hS1⟩
     refine ⟨(fun x hx _=>nomatch hx),?_⟩
     refine qal 4 V<|qcf Z Tt (Wd 0 Y5) Z<|za 9 Z (We Y4) Z<|qal 5 V<|Jb Z Tt Z Z Z (qaQ D _ _ B2 m2 d2 x.locals (hlx.le (h13.t h15|>.t h48)) O) ?_
     rintro _ _ s49 h49 ⟨rfl,C2,r2,e2,rfl,hS2q⟩
     refine ⟨(fun x hx _=>nomatch hx),?_⟩
     refine qal 8 V<|Jb Z Tt Z Z Z (AC.mid [_,_,_,_] [] (Mo++(Fo++L)) (cls D d _ _ B3 m3 d3 x.body (hbx.le (h13.t h15|>.t h48|>.t h49)) O)) ?_
     rintro _ _ s50 h50 ⟨M1,rfl,C3,r3,e3,rfl,hS3⟩
     refine ⟨(fun x hx _=>nomatch hx),?_⟩
     simp only [cQ9,nQ9]
     refine qal 10 V<|Wu Z Tt 0 [_,_,_,_] Y9 (sM (sb0 _))<|za 11 Z (We Y4) Z<|qal 12 V<|Wu Z Tt 0 [_,_,_,_] Y9 (sM (sb0 _))<|za 13 Z (We Y4) Z<|qal 14 V<|Wu Z Tt 0 [_,_,_,_] Y9 (sM (sb0 _))<|qad V ?_
     refine qaa (MidF.mk (.slice C1 r1 e1,.slice C2 r2 e2,.slice C3 r3 e3,M1) [] (h15.t h48|>.t h49|>.t h50) sk (.cons _ (.cons _ (.cons _ (.cons _ (qbZ M1 Mo Fo L))))) ⟨⟨_,_,_,Z,hS1.le (h49.t h50)⟩,⟨_,_,_,Z,hS2q.le h50⟩,⟨_,_,_,Z,hS3.le (Lr D)⟩⟩)
    refine qcf Z Tt (Wd 0 Y5) Z<|qal 2 V<|Jb Z Tt Z Z Z (qaQ D _ _ B1 m1 d1 x.params (hpx.le (h13.t h15)) O) ?_
    rintro _ _ s51 h51 ⟨rfl,C1,r1,e1,rfl,hS1⟩
    refine ⟨(fun x hx _=>nomatch hx),?_⟩
    refine za 9 Z (We Y4) Z<|qal 5 V<|Jb Z Tt Z Z Z (qaQ D _ _ B2 m2 d2 x.locals (hlx.le (h13.t h15|>.t h51)) O) ?_
    rintro _ _ s52 h52 ⟨rfl,C2,r2,e2,rfl,hS2q⟩
    refine ⟨(fun x hx _=>nomatch hx),?_⟩
    refine qal 8 V<|Jb Z Tt Z Z Z (AC.mid [_,_,_,_] [] (Mo++(Fo++L)) (cls D d _ _ B3 m3 d3 x.body (hbx.le (h13.t h15|>.t h51|>.t h52)) O)) ?_
    rintro _ _ s53 h53 ⟨M1,rfl,C3,r3,e3,rfl,hS3⟩
    refine ⟨(fun x hx _=>nomatch hx),?_⟩
    simp only [cQ9,nQ9]
    refine qal 10 V<|Wu Z Tt 0 [_,_,_,_] Y9 (sM (sb0 _))<|za 11 Z (We Y4) Z<|qal 12 V<|Wu Z Tt 0 [_,_,_,_] Y9 (sM (sb0 _))<|za 13 Z (We Y4) Z<|qal 14 V<|Wu Z Tt 0 [_,_,_,_] Y9 (sM (sb0 _))<|qad V ?_
    refine qaa (MidF.mk (.slice C1 r1 e1,.slice C2 r2 e2,.slice C3 r3 e3,M1) [] (h15.t h51|>.t h52|>.t h53) sk (.cons _ (.cons _ (.cons _ (.cons _ (qbZ M1 Mo Fo L))))) ⟨⟨_,_,_,Z,hS1.le (h52.t h53)⟩,⟨_,_,_,Z,hS2q.le h53⟩,⟨_,_,_,Z,hS3.le (Lr D)⟩⟩)
   refine qcf Z Tt (Wd 0 Y5) Z<|qal 1 V<|qcf Z Tt (Wd 0 Y5) Z<|qal 2 V<|Jb Z Tt Z Z Z (qaQ D _ _ B1 m1 d1 x.params (hpx.le (h13.t h15)) O) ?_
   rintro _ _ s54 h54 ⟨rfl,C1,r1,e1,rfl,hS1⟩
   refine ⟨(fun x hx _=>nomatch hx),?_⟩
   refine za 9 Z (We Y4) Z<|qal 5 V<|Jb Z Tt Z Z Z (qaQ D _ _ B2 m2 d2 x.locals (hlx.le (h13.t h15|>.t h54)) O) ?_
   rintro _ _ s55 h55 ⟨rfl,C2,r2,e2,rfl,hS2q⟩
   refine ⟨(fun x hx _=>nomatch hx),?_⟩
   refine qal 8 V<|Jb Z Tt Z Z Z (AC.mid [_,_,_,_] [] (Mo++(Fo++L)) (cls D d _ _ B3 m3 d3 x.body (hbx.le (h13.t h15|>.t h54|>.t h55)) O)) ?_
   rintro _ _ s56 h56 ⟨M1,rfl,C3,r3,e3,rfl,hS3⟩
   refine ⟨(fun x hx _=>nomatch hx),?_⟩
   simp only [cQ9,nQ9]
   refine qal 10 V<|Wu Z Tt 0 [_,_,_,_] Y9 (sM (sb0 _))<|za 11 Z (We Y4) Z<|qal 12 V<|Wu Z Tt 0 [_,_,_,_] Y9 (sM (sb0 _))<|za 13 Z (We Y4) Z<|qal 14 V<|Wu Z Tt 0 [_,_,_,_] Y9 (sM (sb0 _))<|qad V ?_
   refine qaa (MidF.mk (.slice C1 r1 e1,.slice C2 r2 e2,.slice C3 r3 e3,M1) [] (h15.t h54|>.t h55|>.t h56) sk (.cons _ (.cons _ (.cons _ (.cons _ (qbZ M1 Mo Fo L))))) ⟨⟨_,_,_,Z,hS1.le (h55.t h56)⟩,⟨_,_,_,Z,hS2q.le h56⟩,⟨_,_,_,Z,hS3.le (Lr D)⟩⟩)
  intro g s14 h14 I14
  simp only [cQ9,nQ9]
  obtain ⟨v1,v2,v3,M1⟩:=g
  obtain ⟨⟨C1,r1,e1,q1,hS1⟩,⟨C2,r2,e2,q2,hS2q⟩,⟨C3,r3,e3,q3,hS3⟩⟩:=I14
  simp only at q1 q2 q3 hS1 hS2q hS3
  subst q1 q2 q3
  dsimp only
  refine Zr<|Wb Y5<|Wl 1 Y6<|qaf (qan 0 [_,_,_,_] Z Z Z Z Z) Z<|qbt [(_,_)] [_,_,_,_] Z Z Z Z Z Z Z Z Z ?_
  intro βn s57 h57 hcb
  refine qbd (sz:=4) [_,_,_,_] Mo ((Fo++M1)++L) Z Z Z Z Z Z Z hO (Row.of_cells (hcb.le (Lr D)) Z Z) ⟨by simp [ti57];omega,by omega⟩ Z ?_
  intro vq Mq s58 h58 oq
  obtain ⟨Avq,cvq,rfl,_,_⟩:=Own.slice oq
  simp only [cQ9,nQ9]
  refine Wb Y5<|Wt 1 [_,_] Y9<|Zn<|Zb<|Zt<|Zr<|qaG Z Z Z (w64 O O)<|Zqm Z Z<|Zn<|?_
  refine qaa ⟨(k+1,.slice Avq (k+1) cvq,Mq,Fo++M1),[_],kp,Z,⟨(I11.1.t h13|>.t h14|>.t h57|>.t h58),⟨by simp only;omega,css++[[St x.name,.slice C1 r1 e1,.slice C2 r2 e2,.slice C3 r3 e3]],Ms++[M1],by simp only [List.flatten_append,List.flatten_cons,List.flatten_nil,List.append_nil];exact oq,by simp only [List.flatten_append,List.flatten_cons,List.flatten_nil,List.append_nil];rw [hF],by simp only;rw [qaT hx];exact qga (hA3.mono fun _ _ _ k=>k.le (h13.t h14|>.t h57|>.t h58)) ⟨C1,r1,e1,C2,r2,e2,C3,r3,e3,Z,hS1.le (h57.t h58),hS2q.le (h57.t h58),hS3.le (h57.t h58),hnl⟩⟩⟩,Oz⟩
 obtain rfl:nf=k:=by omega
 rw [List.take_of_length_le O] at hA3
 refine Zl<|Zv<|Zv<|Zd<|Zt<|Zs<|qbs [_,_,_] Mo _ ?_
 intro s59 h59 hpub59
 simp only [cQ9,nQ9]
 have hRw:Rws 4 s59 Ao nf co css:=Rws.own hO hpub59 (qgS (fun _ _ _ h=>h.four) hA3) (by have:=hA3.len;omega)
 refine Zr<|qaf (qan 0 [_,_] Z Z Z Z Z) Z<|Wt 1 [_,_] Y9<|Nt<|Zo<|?_
 refine rR [_,_,_] _ (.agg (us:=[_,_]) 1 Z Z Z Z Z (.nil)) Z (h1.t h2|>.t h3|>.t I4.1|>.t h10|>.t I11.1|>.t h59) fun _ hS2=>?_
 exact ⟨Fo,rfl,_,_,_,_,_,_,rfl,fun s2 hs2=>⟨hGN.le (I11.1.t h59|>.t (hS2.t hs2)),css,Ms,hF,hRw.le ((Lr D).t (hS2.t hs2)),hA3.mono fun _ _ _ k=>k.le (h59.t (hS2.t hs2))⟩⟩
theorem qdq(D:Nat)(L:Hl)(s:World)(d:Nat)(p:Prg)(Ag Af:Option Addr)(ng cg nf cf:Nat)(hGl:Glos s Ag ng cg p.globals)(hFn:Fncs d s Af nf cf p.funcs)(hV:PV p):AC Tryz.prog D 41 [.agg #[.slice Ag ng cg,.slice Af nf cf]] L s fun v L' s'=>∃ M',L'=M'++L∧∃ Bg mg eg Bf mf ef,v=.agg #[.slice Bg mg eg,.slice Bf mf ef]∧Glos s' Bg mg eg p.globals∧FOs d s' M' Bf mf ef p.funcs:=(qk6 D L s d p Ag Af ng cg nf cf hGl hFn hV).mono fun v L' s' _ ⟨M',h1,Bg,mg,eg,Bf,mf,ef,h2,h3⟩=>⟨M',h1,Bg,mg,eg,Bf,mf,ef,h2,h3 _ (Le.refl _)⟩
def bvs(l:List Bool):List Value:=l.map Value.bool
theorem qso{l:List Bool}{j:Nat}(h:j < l.length):nth (bvs l) (0+j)=some (.bool (l.getD j false)):=by
 rw [qdv,Nat.zero_add,bvs,List.getElem?_map,List.getElem?_eq_getElem h,List.getD_eq_getElem?_getD,List.getElem?_eq_getElem h];rfl
theorem quJ{l:List Bool}{j:Nat}(h:j < l.length):Nat.ble (0+j+1) (bvs l).length=true:=Nat.ble_eq_true_of_le (by simp only [bvs,List.length_map];omega)
theorem qv0{l:List Bool}{j:Nat}(h:j < l.length)(v:Bool):qbW (bvs l) (0+j) [.bool v]=bvs (l.set j v):=by
 have:=qrH (xs:=bvs l) (ys:=[]) (.bool v) (show j < (bvs l).length by simpa [bvs] using h)
 simpa [bvs,List.map_set] using this
def qdd:List Bool→Nat
 | []=>0
 | b::r=>(if b=true then 0 else 1)+qdd r
theorem qg3:∀ {l:List Bool} {j:Nat},j < l.length→l.getD j false=false→qdd (l.set j true) < qdd l
 | [],j,h,_=>by cases h
 | b::r,0,_,h=>by
  have h:b=false:=h
  subst h;rw [List.set_cons_zero,qdd,qdd];simp
 | b::r,j+1,h,h2=>by
  have:=qg3 (l:=r) (j:=j) (by simpa using h) (by simpa using h2)
  rw [List.set_cons_succ,qdd,qdd];omega
theorem qgG:∀ {l m:List Bool},m.length=l.length→(∀ j:Nat,l[j]?=some true→m[j]?=some true)→qdd m≤qdd l
 | [],[],_,_=>Nat.le_refl _
 | [],b::r,h,_=>by cases h
 | b::r,[],h,_=>by cases h
 | a::l,b::m,h,hm=>by
  have h1:=qgG (l:=l) (m:=m) (by simpa using h) fun j hj=>by simpa using hm (j+1) (by simpa using hj)
  have h0:=hm 0
  rw [qdd,qdd]
  cases a with
  | true=>
   have hb:=h0 rfl
   simp at hb;subst hb;simp;exact h1
  | false=>cases b <;> simp <;> omega
theorem qe3{p:Prg}{x:Fnc}{nm:Str}(h:(qaz p x nm).2=false):(qaz p x nm).1=(0,0):=by
 unfold qaz at h ⊢
 split at h
 · cases h
 rename_i h1
 rw [if_neg h1]
 split at h
 · cases h
 rename_i h2
 rw [if_neg h2]
 split at h
 · cases h
 · rfl
theorem qhI{p:Prg}{x:Fnc}{kd:Int}{nd:Nd}{i:Int}(h:i∈mnI p x kd nd):nd.use.2.1≠0∧(qaz p x nd.use.1).1=(kd,i):=by
  unfold mnI at h
  split at h
  · cases h
  · rename_i h1
    split at h
    · rename_i h2
      rw [List.mem_singleton] at h
      exact ⟨h1,by rw [← h2,h]⟩
    · cases h
theorem qlx{p:Prg}{x:Fnc}{i:Int}(h:i∈msP p x 3):∃ k:Nat,i=(k:Int)∧k < p.globals.length:=by
 obtain ⟨nd,_,h1⟩:=((qcw p x 3).2 i).1 h
 obtain ⟨_,h2⟩:=qhI h1
 cases h3:(qaz p x nd.use.1).2 with
 | false=>rw [qe3 h3] at h2;cases h2
 | true=>
  rcases qch h3 with h4 | ⟨_,k,h5,h6⟩ | ⟨h4,_⟩
  · rw [h2] at h4;rcases h4 with h4 | h4 <;> cases h4
  · exact ⟨k,by rw [← h5,h2],h6⟩
  · rw [h2] at h4;cases h4
theorem qr6{p:Prg}{x:Fnc}{i:Int}(h:i∈msP p x 4):∃ k:Nat,i=(k:Int)∧k < p.funcs.length:=by
 obtain ⟨nd,_,h1⟩:=((qcw p x 4).2 i).1 h
 obtain ⟨_,h2⟩:=qhI h1
 cases h3:(qaz p x nd.use.1).2 with
 | false=>rw [qe3 h3] at h2;cases h2
 | true=>
  rcases qch h3 with h4 | ⟨h4,_⟩ | ⟨_,k,h5,h6⟩
  · rw [h2] at h4;rcases h4 with h4 | h4 <;> cases h4
  · rw [h2] at h4;cases h4
  · exact ⟨k,by rw [← h5,h2],h6⟩
def cal(p:Prg)(j k:Nat):Prop:=∃ x,p.funcs[j]?=some x∧(k:Int)∈msP p x 4
def glo(p:Prg)(j g:Nat):Prop:=∃ x,p.funcs[j]?=some x∧(g:Int)∈msP p x 3
inductive Rea(p:Prg):Nat→Nat→Prop
 | refl (i:Nat):Rea p i i
 | step {i k j:Nat}:cal p i k→Rea p k j→Rea p i j
structure Rch(p:Prg)(i:Nat)(F G F' G':List Bool):Prop where
 lenF:F'.length=F.length
 lenG:G'.length=G.length
 monoF:∀ j:Nat,F[j]?=some true→F'[j]?=some true
 monoG:∀ j:Nat,G[j]?=some true→G'[j]?=some true
 hit:F'[i]?=some true
 new:∀ j:Nat,F'[j]?=some true→F[j]?=some true∨(Rea p i j∧(∀ k:Nat,cal p j k→F'[k]?=some true)∧∀ g:Nat,glo p j g→G'[g]?=some true)
 newG:∀ g:Nat,G'[g]?=some true→G[g]?=some true∨∃ j:Nat,F'[j]?=some true∧F[j]?≠some true∧glo p j g
structure RchL(p:Prg)(l:List Int)(F G F' G':List Bool):Prop where
 lenF:F'.length=F.length
 lenG:G'.length=G.length
 monoF:∀ j:Nat,F[j]?=some true→F'[j]?=some true
 monoG:∀ j:Nat,G[j]?=some true→G'[j]?=some true
 hit:∀ k:Nat,(k:Int)∈l→F'[k]?=some true
 new:∀ j:Nat,F'[j]?=some true→F[j]?=some true∨((∃ k:Nat,(k:Int)∈l∧Rea p k j)∧(∀ k:Nat,cal p j k→F'[k]?=some true)∧∀ g:Nat,glo p j g→G'[g]?=some true)
 newG:∀ g:Nat,G'[g]?=some true→G[g]?=some true∨∃ j:Nat,F'[j]?=some true∧F[j]?≠some true∧glo p j g
theorem RchL.nil(p:Prg)(F G:List Bool):RchL p [] F G F G:=⟨rfl,rfl,fun _ h=>h,fun _ h=>h,fun k h=>(by cases h),fun j h=>.inl h,fun g h=>.inl h⟩
theorem RchL.snoc{p:Prg}{l:List Int}{F G F2 G2 F3 G3:List Bool}{k:Nat}(h:RchL p l F G F2 G2)(r:Rch p k F2 G2 F3 G3):RchL p (l++[(k:Int)]) F G F3 G3 where
  lenF:=r.lenF.trans h.lenF
  lenG:=r.lenG.trans h.lenG
  monoF j hj:=r.monoF j (h.monoF j hj)
  monoG j hj:=r.monoG j (h.monoG j hj)
  hit j hj:=by
    rcases List.mem_append.1 hj with hj | hj
    · exact r.monoF _ (h.hit j hj)
    · rw [List.mem_singleton] at hj
      obtain rfl:j=k:=by omega
      exact r.hit
  new j hj:=by
    rcases r.new j hj with h1 | ⟨h1,h2,h3⟩
    · rcases h.new j h1 with h4 | ⟨⟨k',h5,h6⟩,h7,h8⟩
      · exact .inl h4
      · exact .inr ⟨⟨k',List.mem_append_left _ h5,h6⟩,fun k hk=>r.monoF _ (h7 k hk),fun g hg=>r.monoG _ (h8 g hg)⟩
    · exact .inr ⟨⟨k,List.mem_append_right _ (List.mem_singleton.2 rfl),h1⟩,h2,h3⟩
  newG g hg:=by
    rcases r.newG g hg with h1 | ⟨j,h1,h2,h3⟩
    · rcases h.newG g h1 with h4 | ⟨j,h4,h5,h6⟩
      · exact .inl h4
      · exact .inr ⟨j,r.monoF _ h4,h5,h6⟩
    · exact .inr ⟨j,h1,fun h4=>h2 (h.monoF _ h4),h3⟩
def qcE(G:List Bool)(l:List Int):List Bool:=l.foldl (fun G i=>G.set i.toNat true) G
theorem qie(G:List Bool)(l:List Int)(j:Nat):qcE G (l++[(j:Int)])=(qcE G l).set j true:=by simp [qcE,List.foldl_append]
theorem qeA(G:List Bool)(l:List Int):(qcE G l).length=G.length:=by
 induction l generalizing G with
 | nil=>rfl
 | cons x r ih=>show (qcE (G.set x.toNat true) r).length=_;rw [ih];simp
theorem set_true{G:List Bool}{j k:Nat}:(G.set j true)[k]?=some true↔(k=j∧j < G.length)∨G[k]?=some true:=by
  rw [List.getElem?_set]
  by_cases h:j=k
  · subst h
    by_cases hl:j < G.length
    · simp [hl]
    · simp [hl,List.getElem?_eq_none (Nat.le_of_not_lt hl)]
  · have:¬ k=j:=fun e=>h e.symm
    simp [h,this]
theorem qi2{l:List Int}:∀ {G:List Bool} {g:Nat},(∀ i∈l,∃ k:Nat,i=(k:Int)∧k < G.length)→((qcE G l)[g]?=some true↔(g:Int)∈l∨G[g]?=some true):=by
  induction l with
  | nil=>intro G g _;simp [qcE]
  | cons x r ih=>
    intro G g hl
    obtain ⟨k,rfl,hk⟩:=hl x Mc
    show (qcE (G.set ((k:Int)).toNat true) r)[g]?=some true↔_
    rw [Int.toNat_natCast,ih (fun i hi=>by rw [List.length_set];exact hl i (List.mem_cons_of_mem _ hi)),set_true,List.mem_cons]
    constructor
    · rintro (h | ⟨h,_⟩ | h)
      · exact .inl (.inr h)
      · exact .inl (.inl (by rw [h]))
      · exact .inr h
    · rintro ((h | h) | h)
      · exact .inr (.inl ⟨by omega,hk⟩)
      · exact .inl h
      · exact .inr (.inr h)
theorem Rch.at{p:Prg}{i:Nat}{F G:List Bool}(h:F.getD i false=true)(hi:i < F.length):Rch p i F G F G:=by
 refine ⟨Z,Z,fun _ h=>h,fun _ h=>h,?_,fun j h=>.inl h,fun g h=>.inl h⟩
 rw [List.getD_eq_getElem?_getD,List.getElem?_eq_getElem hi] at h
 rw [List.getElem?_eq_getElem hi];exact congrArg some h
theorem RchL.done{p:Prg}{i:Nat}{x:Fnc}{F G F' G':List Bool}(hx:p.funcs[i]?=some x)(hi:i < F.length)(h0:F.getD i false=false)(hg:p.globals.length=G.length)(h:RchL p (msP p x 4) (F.set i true) (qcE G (msP p x 3)) F' G'):Rch p i F G F' G':=by
  have hm:∀ g:Nat,(qcE G (msP p x 3))[g]?=some true↔(g:Int)∈msP p x 3∨G[g]?=some true:=fun g=>qi2 fun j hj=>by
    obtain ⟨k,h1,h2⟩:=qlx hj
    exact ⟨k,h1,by omega⟩
  have hF0:F[i]?≠some true:=fun e=>by
    rw [List.getD_eq_getElem?_getD,e] at h0;cases h0
  have hFi:F'[i]?=some true:=h.monoF i (set_true.2 (.inl ⟨rfl,hi⟩))
  refine ⟨h.lenF.trans (by simp),h.lenG.trans (qeA _ _),fun j hj=>h.monoF j (set_true.2 (.inr hj)),fun j hj=>h.monoG j ((hm j).2 (.inr hj)),hFi,fun j hj=>?_,fun g hg2=>?_⟩
  · rcases h.new j hj with h1 | ⟨⟨k,h1,h2⟩,h3,h4⟩
    · rcases set_true.1 h1 with ⟨rfl,_⟩ | h1
      · refine .inr ⟨.refl _,fun k hk=>?_,fun g hg2=>?_⟩
        · obtain ⟨y,hy,hk⟩:=hk
          rw [hx] at hy;injection hy with hy;subst hy
          exact h.hit k hk
        · obtain ⟨y,hy,hk⟩:=hg2
          rw [hx] at hy;injection hy with hy;subst hy
          exact h.monoG g ((hm g).2 (.inl hk))
      · exact .inl h1
    · exact .inr ⟨.step ⟨x,hx,h1⟩ h2,h3,h4⟩
  · rcases h.newG g hg2 with h1 | ⟨j,h1,h2,h3⟩
    · rcases (hm g).1 h1 with h1 | h1
      · exact .inr ⟨i,hFi,hF0,x,hx,h1⟩
      · exact .inl h1
    · exact .inr ⟨j,h1,fun h4=>h2 (set_true.2 (.inr h4)),h3⟩
structure TrE(s:World)(p:Prg)(d bf bn bp bg bc br oF oG bm:Nat)(Ag Af Ac:Option Addr)(ng cg nf cf cc:Nat):Prop where
 xf:CellsAt s bf 0 [.slice (some ⟨oF,0,none⟩) nf nf]
 xn:CellsAt s bn 0 [.slice Ag ng cg,.slice Af nf cf,.map (some bm)]
 xp:CellsAt s bp 0 [.slice Ag ng cg,.slice Af nf cf]
 xg:CellsAt s bg 0 [.slice (some ⟨oG,0,none⟩) ng ng]
 xc:CellsAt s bc 0 [.slice Ac nf cc]
 xr:CellsAt s br 0 [.func (.func 39) #[] #[.pointer (some ⟨bf,0,none⟩),.pointer (some ⟨bn,0,none⟩),.pointer (some ⟨bp,0,none⟩),.pointer (some ⟨bg,0,none⟩),.pointer (some ⟨bc,0,none⟩),.pointer (some ⟨br,0,none⟩)]]
 nm:NmOK s bm p
 gl:Glos s Ag ng cg p.globals
 fn:Fncs d s Af nf cf p.funcs
 cl:ClsR p s Ac nf cc p.funcs
theorem TrE.le{D:Nat}{s s':World}{p:Prg}{d bf bn bp bg bc br oF oG bm:Nat}{Ag Af Ac:Option Addr}{ng cg nf cf cc:Nat}(h:TrE s p d bf bn bp bg bc br oF oG bm Ag Af Ac ng cg nf cf cc)(hl:Le D s s'):TrE s' p d bf bn bp bg bc br oF oG bm Ag Af Ac ng cg nf cf cc:=
 ⟨h.xf.le hl,h.xn.le hl,h.xp.le hl,h.xg.le hl,h.xc.le hl,h.xr.le hl,h.nm.le hl,h.gl.le hl,h.fn.le hl,h.cl.le hl⟩
def TRC(D m:Nat):Prop:=∀ (L:Hl) (s:World) (p:Prg) (d bf bn bp bg bc br oF oG bm:Nat) (Ag Af Ac:Option Addr) (ng cg nf cf cc:Nat),TrE s p d bf bn bp bg bc br oF oG bm Ag Af Ac ng cg nf cf cc→PV p→∀ (i:Nat) (F G:List Bool),i < nf→F.length=nf→G.length=ng→qdd F < m →
 AC Tryz.prog D 39 [.int .i64 (i:Int),.pointer (some ⟨bf,0,none⟩),.pointer (some ⟨bn,0,none⟩),.pointer (some ⟨bp,0,none⟩),.pointer (some ⟨bg,0,none⟩),.pointer (some ⟨bc,0,none⟩),.pointer (some ⟨br,0,none⟩)] ((oF,cb (bvs F) 4)::(oG,cb (bvs G) 4)::L) s fun v L' _=>v=.tuple #[]∧∃ F' G',L'=(oF,cb (bvs F') 4)::(oG,cb (bvs G') 4)::L∧Rch p i F G F' G'
theorem qtf(D m:Nat)(ih:∀ e,m=e+1→TRC D e)(L:Hl)(s:World)(p:Prg)(d bf bn bp bg bc br oF oG bm:Nat)(Ag Af Ac:Option Addr)(ng cg nf cf cc:Nat)(hE:TrE s p d bf bn bp bg bc br oF oG bm Ag Af Ac ng cg nf cf cc)(hV:PV p)(i:Nat)(F G:List Bool)(hi:i < nf)(hFl:F.length=nf)(hGl:G.length=ng)(hm:qdd F < m):AC Tryz.prog D 39 [.int .i64 (i:Int),.pointer (some ⟨bf,0,none⟩),.pointer (some ⟨bn,0,none⟩),.pointer (some ⟨bp,0,none⟩),.pointer (some ⟨bg,0,none⟩),.pointer (some ⟨bc,0,none⟩),.pointer (some ⟨br,0,none⟩)] ((oF,cb (bvs F) 4)::(oG,cb (bvs G) 4)::L) s fun v L' _=>v=.tuple #[]∧∃ F' G',L'=(oF,cb (bvs F') 4)::(oG,cb (bvs G') 4)::L∧Rch p i F G F' G':=by
 have hn1:=hE.gl.1
 have hn2:=hE.fn.1
 have hVf:=hV.2.2.2.1
 have hiF:i < F.length:=by omega
 refine qai (fn:=Tryz.f39) qaq Tryz.func39 V Z Tryz.ntmps39 Z (rs:=[]) Z [(0,_),(1,_),(2,_),(3,_),(4,_),(5,_),(6,_)] Z<|Zs<|Sr<|qaf (qaj Z Z Z (hE.xf.le (Lr D)) Z) Z<|Zqm Z Z<|qaf (qaH Z Z Z Z Z Z hi) Z<|qaf (qdQ 0 Z Z Z Z (qso hiF)) Z<|Nt<|?_
 refine qes Z (fun c1=>?_) (fun c1=>?_)
 ·
  have g15:=c1
  refine Zo<|Zu<|?_
  refine rR [] _ (.nil) Z (Lr D) fun _ hS2=>?_
  exact ⟨rfl,F,G,rfl,Rch.at g15 hiF⟩
 have g15:=c1
 obtain ⟨e,hd⟩:∃ e,m=e+1:=⟨m - 1,by omega⟩
 obtain ⟨b,off,x,B1,m1,d1,B2,m2,d2,B3,m3,d3,rfl,hx,hcx,hpx,hlx,hbx,hnl⟩:=Fncs.at_ (hE.fn.le (Lr D)) hi
 have hfx:=hVf x (List.mem_of_getElem? hx)
 have hs1:=qg3 hiF g15
 refine Zk<|Zt<|Sr<|qaf (qaj Z Z Z (hE.xf.le (Lr D)) Z) Z<|Zqm Z Z<|qaf (qaH Z Z Z Z Z Z hi) Z<|qo1 0 (bvs (F.set i true)) Z Z Z Z Z (quJ hiF) Z (qv0 hiF true) Z<|Nt<|Zs<|Zs<|qay qag 9 Z _ (fun _ h=>h) ?_
 intro s3 h3
 refine za 0 Z (qas Z Z Z (hE.xn.le h3) Z) Z<|za 1 Z (qbf Z Z Z Z) Z<|za 2 Z (qaC 1 Z Z Z (hE.xp.le h3) Z) Z<|za 3 Z (qar Z) Z<|za 4 Z (qap Z Z Z Z Z Z hi) Z<|za 5 Z (qas Z Z Z (hcx.le h3) Z) Z<|za 8 Z (qar Z) Z<|qal 6 V<|Jb Z Tt Z Z Z (qgD D _ _ p Ag _ ng cg nf cf bm d (hE.nm.le h3) x B1 B2 B3 m1 d1 m2 d2 m3 d3 (hpx.le h3) (hlx.le h3) (hbx.le h3) hfx 3) ?_
 rintro _ _ s4 h4 ⟨rfl,Aw,nw,cw,rfl,hIw⟩
 refine ⟨fun _ _ h=>h,?_⟩
 have hnw:=hIw.1
 have hnw2:=hIw.2.1
 have hnw3:=hIw.2.2.1
 refine za 7 Z (qbN Z Z Z) Z<|qad V<|Zt<|Zp<|qat (γ:=Nat×List Bool) (fun g=>[(0,_),(4,_),(5,_),(6,_),(25,_),(26,_),(27,.int .i64 (g.1:Int))]) (fun g=>(oF,cb (bvs (F.set i true)) 4)::(oG,cb (bvs g.2) 4)::L) (fun g tw=>Le D s4 tw∧(g.1≤nw∧g.2=qcE G ((msP p x 3).take g.1))) (fun g=>nw - g.1) (fun _ _ _ h hl=>⟨h.1.trans hl,h.2⟩) (0,G) (.c6 Z Z Z Z Z Z (.cons Z (.nil _))) Z ⟨Le.refl _,⟨Nat.zero_le _,Z⟩⟩ ?_
 intro g s5 I5
 obtain ⟨k,Gk⟩:=g
 obtain ⟨hk0,hGk⟩:=I5.2
 simp only at hk0 hGk
 dsimp only
 refine Sr<|qba Z Z Z<|Nt<|Zs<|?_
 refine qab Z (fun c6=>?_) (fun c6=>?_)
 ·
  have hk:k < nw:=by omega
  obtain ⟨b2,off2,y,rfl,hy,hcy,_⟩:=Its.at_ (hIw.le I5.1) hk
  obtain ⟨j,rfl,hj⟩:=qlx (List.mem_of_getElem? hy)
  have hjg:j < ng:=by omega
  have hjG:j < Gk.length:=by rw [hGk,qeA];omega
  refine Zk<|Zt<|Zs<|Zp<|Sr<|qaf (qaH Z Z Z Z Z Z hk) Z<|qaf (qaj Z Z Z (hcy.le (Lr D)) Z) Z<|At Z Z<|Zr<|qaf (qaj Z Z Z (hE.xg.le (h3.t h4|>.t I5.1)) Z) Z<|Zqm Z Z<|qaf (qaH Z Z Z Z Z Z hjg) Z<|qo1 1 (bvs (Gk.set j true)) Z Z Z Z Z (quJ hjG) Z (qv0 hjG true) Z<|Zn<|Zb<|Zt<|Zr<|qaG Z Z Z (w64 O O)<|Zqm Z Z<|Zn<|?_
  refine qaa ⟨(k+1,Gk.set j true),[],kp,Z,⟨I5.1,⟨by simp only;omega,by simp only;rw [qaT hy,qie,hGk]⟩⟩,Oz⟩
 rw [List.take_of_length_le O] at hGk
 subst hGk
 obtain ⟨b3,off3,x2,Aq,nq,cq,rfl,hx2,hcq,hIq⟩:=ClsR.at_ (hE.cl.le (h3.t h4|>.t I5.1)) hi
 obtain rfl:x=x2:=by rw [hx] at hx2;injection hx2
 have hnq:=hIq.1
 have hnq2:=hIq.2.1
 have hnq3:=hIq.2.2.1
 refine Zl<|Zv<|Zv<|Zd<|Zt<|Sr<|qaf (qaj Z Z Z (hE.xc.le (h3.t h4|>.t I5.1)) Z) Z<|Zqm Z Z<|qaf (qaH Z Z Z Z Z Z hi) Z<|qaf (qaj Z Z Z (hcq.le (Lr D)) Z) Z<|Ws Y4<|Zqm Z Z<|Nt<|Zp<|?_
 refine qat (γ:=Nat×List Bool×List Bool) (fun g=>[(6,_),(38,_),(39,_),(40,.int .i64 (g.1:Int))]) (fun g=>(oF,cb (bvs g.2.1) 4)::(oG,cb (bvs g.2.2) 4)::L) (fun g tw=>Le D s5 tw∧(g.1≤nq∧RchL p ((msP p x 4).take g.1) (F.set i true) (qcE G (msP p x 3)) g.2.1 g.2.2)) (fun g=>nq - g.1) (fun _ _ _ h hl=>⟨h.1.trans hl,h.2⟩) (0,F.set i true,qcE G (msP p x 3)) (.c4 Z Z Z Z (.nil _)) Z ⟨Le.refl _,⟨Nat.zero_le _,RchL.nil _ _ _⟩⟩ ?_
 intro g s8 I8
 obtain ⟨k,F2,G2⟩:=g
 obtain ⟨hk0,hR⟩:=I8.2
 simp only at hk0 hR
 dsimp only
 refine Sr<|qba Z Z Z<|Nt<|Zs<|?_
 refine qab Z (fun c9=>?_) (fun c9=>?_)
 ·
  have hk:k < nq:=by omega
  obtain ⟨b2,off2,y,rfl,hy,hcy,_⟩:=Its.at_ (hIq.le I8.1) hk
  obtain ⟨j,rfl,hj⟩:=qr6 (List.mem_of_getElem? hy)
  have hjf:j < nf:=by omega
  have hm2:=qgG hR.lenF hR.monoF
  have hF2l:=hR.lenF
  have hG2l:=hR.lenG
  rw [List.length_set] at hF2l
  rw [qeA] at hG2l
  refine Zk<|Zt<|Zs<|Zp<|Sr<|qaf (qaH Z Z Z Z Z Z hk) Z<|qaf (qaj Z Z Z (hcy.le (Lr D)) Z) Z<|At Z Z<|Zr<|qaf (qaj Z Z Z (hE.xr.le (h3.t h4|>.t I5.1|>.t I8.1)) Z) Z<|Zqm Z Z<|qd1 (first:=[]) (captured:=[_,_,_,_,_,_]) Z Z Z (ih e hd _ _ p d bf bn bp bg bc br oF oG bm Ag _ _ ng cg nf cf cc (hE.le (h3.t h4|>.t I5.1|>.t I8.1)) hV j F2 G2 hjf O O O) ?_
  rintro _ _ s10 h10 ⟨rfl,F3,G3,rfl,hR3⟩
  refine Zn<|Zb<|Zt<|Zr<|qaG Z Z Z (w64 O O)<|Zqm Z Z<|Zn<|?_
  refine qaa ⟨(k+1,F3,G3),[],kp,Z,⟨(I8.1.t h10),⟨by simp only;omega,by simp only;rw [qaT hy];exact hR.snoc hR3⟩⟩,Oz⟩
 rw [List.take_of_length_le O] at hR
 refine Zl<|Zv<|Zv<|Zd<|?_
 refine qbm [] _ (.inl Z) (.nil) Z (h3.t h4|>.t I5.1|>.t I8.1) fun _ hS2=>?_
 exact ⟨rfl,F2,G2,rfl,hR.done hx hiF g15 O⟩
theorem trc(D:Nat):∀ m,TRC D m
 | 0=>fun L s p d bf bn bp bg bc br oF oG bm Ag Af Ac ng cg nf cf cc hE hV i F G hi hF hG hm=>by omega
 | m+1=>fun L s p d bf bn bp bg bc br oF oG bm Ag Af Ac ng cg nf cf cc hE hV i F G hi hF hG hm=>qtf D (m+1) (fun e h=>(show m=e by omega)▸trc D m) L s p d bf bn bp bg bc br oF oG bm Ag Af Ac ng cg nf cf cc hE hV i F G hi hF hG hm
theorem qky(n:Nat):qdd (List.replicate n false)=n:=by
 induction n with
 | zero=>rfl
 | succ n ih=>rw [List.replicate_succ,qdd,ih];simp;omega
theorem qbR(n:Nat):List.replicate n (Value.bool false)=bvs (List.replicate n false):=by simp [bvs]
theorem SO.pub{s:World}:∀ {d:Nat} {M:Hl} {x:Stm} {cs:List Value},SO d s M x cs→Pub M s→cs.length=5∧StR d s x cs:=by
 intro d
 induction d with
 | zero=>exact fun h=>h.elim
 | succ d ih=>
  intro M x cs h hp
  obtain ⟨e,A1,n1,c1,A2,n2,c2,A3,n3,c3,M1,M2,M3,he,rfl,rfl,h1,⟨k2,m2,rfl,r2,q2⟩,⟨k3,m3,rfl,r3,q3⟩,h4⟩:=h.eq
  obtain rfl:d=e:=by omega
  have row:∀ {A:Option Addr} {n c:Nat} {l:List Stm} {css:List (List Value)} {Ms:List Hl},Rws 5 s A n c css→All3 (SO d s) Ms l css→Pub Ms.flatten s→Sl 5 (StR d) s A n c l:=by
   intro A n c l css Ms hr ha hpm
   have hl:=ha.len
   refine ⟨by rw [hr.1];exact hl.2,hr.2.1,hr.2.2.1,fun i y hy=>?_⟩
   have hil:i < l.length:=(List.getElem?_eq_some_iff.1 hy).1
   obtain ⟨us1,u,us2,vs1,v,vs2,ws1,w,ws2,rfl,rfl,rfl,e1,e2,e3,_⟩:=ha.at_ hil
   have hy2:v=y:=by
    rw [List.getElem?_append_right O,show i - vs1.length=0 by omega] at hy
    simpa using hy
   subst hy2
   have hw:(ws1++w::ws2)[i]?=some w:=by
    have:=e3.len
    rw [List.getElem?_append_right O,show i - ws1.length=0 by omega];rfl
   obtain ⟨b,off,hb1,hb2⟩:=hr.at_ hw
   obtain ⟨h5,h6⟩:=ih e2 (qe1 hpm u (List.mem_append_right _ Mc))
   exact ⟨b,off,w,hb1,hb2,h5,h6⟩
  exact ⟨rfl,A1,n1,c1,A2,n2,c2,A3,n3,c3,rfl,h1.pub hp.left,row r2 q2 hp.right.left,row r3 q3 hp.right.right,h4⟩
theorem SOs.pub{s:World}{d:Nat}{M:Hl}{A:Option Addr}{n c:Nat}{l:List Stm}(h:SOs d s M A n c l)(hp:Pub M s):Stms d s A n c l:=by
 obtain ⟨css,Ms,rfl,hr,ha⟩:=h
 have hl:=ha.len
 refine ⟨by rw [hr.1];exact hl.2,hr.2.1,hr.2.2.1,fun i y hy=>?_⟩
 have hil:i < l.length:=(List.getElem?_eq_some_iff.1 hy).1
 obtain ⟨us1,u,us2,vs1,v,vs2,ws1,w,ws2,rfl,rfl,rfl,e1,e2,e3,_⟩:=ha.at_ hil
 have hy2:v=y:=by
  rw [List.getElem?_append_right O,show i - vs1.length=0 by omega] at hy
  simpa using hy
 subst hy2
 have hw:(ws1++w::ws2)[i]?=some w:=by
  have:=e3.len
  rw [List.getElem?_append_right O,show i - ws1.length=0 by omega];rfl
 obtain ⟨b,off,hb1,hb2⟩:=hr.at_ hw
 obtain ⟨h5,h6⟩:=e2.pub (qe1 hp u (List.mem_append_right _ Mc))
 exact ⟨b,off,w,hb1,hb2,h5,h6⟩
theorem FOs.pub{s:World}{d:Nat}{M:Hl}{A:Option Addr}{n c:Nat}{l:List Fnc}(h:FOs d s M A n c l)(hp:Pub M s):Fncs d s A n c l:=by
 obtain ⟨css,Ms,rfl,hr,ha⟩:=h
 have hl:=ha.len
 refine ⟨by rw [hr.1];exact hl.2,hr.2.1,hr.2.2.1,fun i y hy=>?_⟩
 have hil:i < l.length:=(List.getElem?_eq_some_iff.1 hy).1
 obtain ⟨us1,u,us2,vs1,v,vs2,ws1,w,ws2,rfl,rfl,rfl,e1,e2,e3,_⟩:=ha.at_ hil
 have hy2:v=y:=by
  rw [List.getElem?_append_right O,show i - vs1.length=0 by omega] at hy
  simpa using hy
 subst hy2
 have hw:(ws1++w::ws2)[i]?=some w:=by
  have:=e3.len
  rw [List.getElem?_append_right O,show i - ws1.length=0 by omega];rfl
 obtain ⟨b,off,hb1,hb2⟩:=hr.at_ hw
 obtain ⟨A1,n1,c1,A2,n2,c2,A3,n3,c3,q1,q2,q3,q4,q5⟩:=e2
 exact ⟨b,off,w,hb1,hb2,by rw [q1];rfl,A1,n1,c1,A2,n2,c2,A3,n3,c3,q1,q2,q3,q4.pub (qe1 hp u (List.mem_append_right _ Mc)),q5⟩
theorem qgi(D:Nat)(L:Hl)(s:World)(d:Nat)(p:Prg)(Ag Af:Option Addr)(ng cg nf cf:Nat)(hGl:Glos s Ag ng cg p.globals)(hFn:Fncs d s Af nf cf p.funcs)(hV:PV p):AC Tryz.prog D 41 [.agg #[.slice Ag ng cg,.slice Af nf cf]] L s fun v L' s'=>L=L'∧∃ Bg mg eg Bf mf ef,v=.agg #[.slice Bg mg eg,.slice Bf mf ef]∧Glos s' Bg mg eg p.globals∧Fncs d s' Bf mf ef p.funcs:=by
 refine (AC.pub (qdq D L s d p Ag Af ng cg nf cf hGl hFn hV)).mono ?_
 rintro v L1 s1 _ ⟨h1,M1,s2,⟨Bg,mg,eg,Bf,mf,ef,h2,h3,h4⟩,hl,h5⟩
 exact ⟨h1,Bg,mg,eg,Bf,mf,ef,h2,h3.le hl,(h4.le hl).pub h5⟩
def qav{α:Type}:List Bool→List α→List α
 | b::B,x::l=>if b=true then x::qav B l else qav B l
 | [],_=>[]
 | _::_,[]=>[]
theorem qb7{α:Type}:∀ {B:List Bool} {l:List α} {k:Nat} {x:α},l[k]?=some x→qav B (l.take (k+1))=qav B (l.take k)++(if B.getD k false=true then [x] else [])
 | [],l,k,x,_=>by simp [qav]
 | b::B,[],k,x,h=>by cases h
 | b::B,y::l,0,x,h=>by
  simp at h;subst h
  simp only [List.take_succ_cons,List.take_zero,qav,List.getD_cons_zero,List.nil_append]
  cases B <;> simp [qav]
 | b::B,y::l,k+1,x,h=>by
  have:=qb7 (B:=B) (l:=l) (k:=k) (x:=x) (by simpa using h)
  simp only [List.take_succ_cons,qav,List.getD_cons_succ]
  by_cases hb:b=true
  · rw [if_pos hb,if_pos hb,this];rfl
  · rw [if_neg hb,if_neg hb,this]
theorem qhL{α:Type}:∀ (B:List Bool) (l:List α),(qav B l).length≤l.length
 | [],l=>by simp [qav]
 | b::B,[]=>by simp [qav]
 | b::B,x::l=>by
  have:=qhL B l
  rw [qav];split
  · simp only [List.length_cons];omega
  · simp only [List.length_cons];omega
theorem qdr{α:Type}{q:α→Bool}:∀ {l:List α} {k j:Nat},qa6 q l k=(j:Int)→k≤j∧∃ y,l[j - k]?=some y∧q y=true
  | [],k,j,h=>by rw [qa6] at h;omega
  | y::r,k,j,h=>by
    rw [qa6] at h
    split at h
    · rename_i h1
      have:j=k:=by omega
      subst this
      exact ⟨Nat.le_refl _,y,by simp,h1⟩
    · obtain ⟨h2,z,h3,h4⟩:=qdr h
      exact ⟨by omega,z,by rw [show j - k=(j - (k+1))+1 by omega];simpa using h3,h4⟩
theorem qcS{β:Type}:∀ {l:List (Str×β)} {i:Nat} {e:Str×β},(l.map (·.1)).Nodup→l[i]?=some e→l.find? (fun y=>decide (y.1=e.1))=some e
 | [],i,e,_,h=>by cases h
 | y::l,0,e,_,h=>by simp at h;subst h;simp
 | y::l,i+1,e,hn,h=>by
  rw [List.map_cons,List.nodup_cons] at hn
  have h1:l[i]?=some e:=by simpa using h
  have hne:¬ y.1=e.1:=fun e2=>hn.1 (e2▸List.mem_map.2 ⟨e,List.mem_of_getElem? h1,rfl⟩)
  rw [List.find?_cons_of_neg (by simpa using hne)]
  exact qcS hn.2 h1
theorem ql6{p:Prg}(h:qb2 p=(0,0)):∃ (mi:Nat) (x:Fnc),qcu p.funcs=(mi:Int)∧p.funcs[mi]?=some x∧((ents p).find? fun e=>decide (e.1=qbw))=some (qbw,((4:Int),(mi:Int))):=by
 have hnd:=(qc5 (p:=p) (by rw [h])).1
 have h0:¬ qcu p.funcs < 0:=by
  intro hlt
  rw [qb2] at h
  split at h
  · rename_i h1;exact h1 (by rw [h])
  split at h
  · rename_i h1;exact h1 (by rw [h])
  first
   | (rw [if_pos hlt] at h;cases h)
   | cases h
 obtain ⟨mi,hmi⟩:=Int.eq_ofNat_of_zero_le (show 0≤qcu p.funcs by omega)
 obtain ⟨_,x,hx,hq⟩:=qdr (show qa6 (fun x:Fnc=>decide (x.name=qbw)) p.funcs 0=(mi:Int) from hmi)
 have hnm:x.name=qbw:=by simpa using hq
 have hf:=qcS hnd (qd9 (p:=p) (k:=mi) (x:=x) (by simpa using hx))
 rw [hnm] at hf
 exact ⟨mi,x,hmi,by simpa using hx,hf⟩
def qpm(p:Prg)(F G:List Bool):Prop:=F.length=p.funcs.length∧G.length=p.globals.length∧∃ mi:Nat,qcu p.funcs=(mi:Int)∧mi < p.funcs.length∧(∀ j:Nat,F[j]?=some true↔Rea p mi j)∧∀ g:Nat,G[g]?=some true↔∃ j:Nat,F[j]?=some true∧glo p j g
theorem qeV{n j:Nat}:¬ (List.replicate n false)[j]?=some true:=by
 rw [List.getElem?_replicate];split <;> simp
theorem qqs{p:Prg}{mi:Nat}{F G:List Bool}(hm:qcu p.funcs=(mi:Int))(hl:mi < p.funcs.length)(h:Rch p mi (List.replicate p.funcs.length false) (List.replicate p.globals.length false) F G):qpm p F G:=by
  refine ⟨by rw [h.lenF];simp,by rw [h.lenG];simp,mi,hm,hl,fun j=>⟨fun hj=>?_,fun hr=>?_⟩,fun g=>⟨fun hg=>?_,fun ⟨j,h1,h2⟩=>?_⟩⟩
  · rcases h.new j hj with h1 | h1
    · exact absurd h1 qeV
    · exact h1.1
  · have:∀ i j,Rea p i j→F[i]?=some true→F[j]?=some true:=by
      intro i j hr
      induction hr with
      | refl=>exact fun h=>h
      | step hc _ ih=>
        intro hi
        rcases h.new _ hi with h1 | h1
        · exact absurd h1 qeV
        · exact ih (h1.2.1 _ hc)
    exact this mi j hr h.hit
  · rcases h.newG g hg with h1 | ⟨j,h1,_,h2⟩
    · exact absurd h1 qeV
    · exact ⟨j,h1,h2⟩
  · rcases h.new j h1 with h3 | h3
    · exact absurd h3 qeV
    · exact h3.2.2 g h2
def qh8(p q:Prg):Prop:=((qbM p).1≠0∧q=⟨[],[]⟩)∨((qbM p).1=0∧∃ F G,qpm p F G∧q=⟨qav G p.globals,qav F p.funcs⟩)
theorem qhK(s:World):Glos s none 0 0 []:=⟨rfl,Nat.le_refl _,by omega,fun i x h=>by cases h⟩
theorem qhE(d:Nat)(s:World):Fncs d s none 0 0 []:=⟨rfl,Nat.le_refl _,by omega,fun i x h=>by cases h⟩
theorem qo8(D:Nat)(L:Hl)(s:World)(hG:GP s)(d:Nat)(p:Prg)(Ag Af:Option Addr)(ng cg nf cf:Nat)(hGl:Glos s Ag ng cg p.globals)(hFn:Fncs d s Af nf cf p.funcs):AC Tryz.prog D 16 [.agg #[.slice Ag ng cg,.slice Af nf cf]] L s fun v L' s'=>∃ M',L'=M'++L∧∀ s2,Le D s' s2→Pub M' s2→∃ q,qh8 p q∧∃ Bg mg eg Bf mf ef,v=.tuple #[.agg #[.slice Bg mg eg,.slice Bf mf ef],.agg #[.int .i64 (qbM p).1,.int .i64 (qbM p).2]]∧Glos s2 Bg mg eg q.globals∧Fncs d s2 Bf mf ef q.funcs:=by
 have hn1:=hGl.1
 have hn2:=hFn.1
 have hU:prU p:=⟨hGl.u,hFn.u⟩
 refine qai (fn:=Tryz.f16) qaq Tryz.func16 V Z Tryz.ntmps16 Z (rs:=[.cell 2 25,.cell 3 33]) Z [(0,_)] Z<|Sr<|qau Z Z ?_
 intro β1 s1 h1
 refine qae Z [_,_] Z Z ?_
 intro β2 s2 h2
 refine qae Z [_,_] Z Z ?_
 intro β3 s3 h3
 refine Nt<|Sr<|qaf (qan 2 [_,_] Z Z Z Z Z) Z<|Jc Z Z Z (qkj D _ _ (hG.le (h1.t h2|>.t h3)) d p Ag _ ng cg nf cf (hGl.le (h1.t h2|>.t h3)) (hFn.le (h1.t h2|>.t h3))) ?_
 rintro _ _ s4 h4 ⟨rfl,Ac,nc,cc,rfl,hCl⟩
 refine Zqm Z Z<|Zqx Z Z Z<|Zqx Z Z Z<|qae Z [_] Z Z ?_
 intro β5 s5 h5
 refine qae Z [_,_] Z Z ?_
 intro β6 s6 h6
 refine Wt 1 [_] Y9<|Wt 0 [_,_] Y9<|Nt<|Zs<|Sr<|qaf (qan 0 [_,_] Z Z Z Z Z) Z<|qaf (qam [] [_,_] Z Z Z Z Z Z) Z<|qaf (qdY Z Z (qbX _ _ _ _)) Z<|Nt<|?_
 refine qaK Z (fun c7=>?_) (fun c7=>?_)
 ·
  have hb0:(qbM p).1≠0:=fun h=>c7 (by rw [qiz hU h];exact ⟨rfl,rfl⟩)
  refine Zs<|qcJ qag 4 Z [3,2] (by intro x hx;exact qbo hx) ?_
  intro s8 h8
  refine za 0 Z (qam [] [_,_] Z Z Z Z Z Z) Z<|za 1 Z (qan 0 [_,_] Z Z Z Z Z) Z<|qal 2 V<|Wu Z Tt 3 [_,_] Y9 (sM (qb3 (sbN (sbY (sbE _)))))<|qal 3 V<|Wu Z Tt 2 [_,_] Y9 (sM (qb3 (sbN (sbY (sbE _)))))<|qad V<|Zt<|Zo<|Zu<|?_
  refine rR [_,_,_,_,_] _ (.agg (us:=[_,_]) 3 Z Z Z Z Z (.agg (us:=[_,_]) 2 Z Z Z Z Z (.nil))) Z (h1.t h2|>.t h3|>.t h4|>.t h5|>.t h6|>.t h8) fun _ hS2=>?_
  exact ⟨[],rfl,fun s2 hs2 hp=>⟨⟨[],[]⟩,.inl ⟨hb0,rfl⟩,none,0,0,none,0,0,rfl,qhK _,qhE _ _⟩⟩
 have g4:=c7
 have g14:¬ (qbM p).1≠0:=fun h=>h g4.1
 obtain ⟨hOK,hz0⟩:=OKP.of hU g4.1
 have hV:=hOK.1
 have hV1:=hV.1
 have hV2:=hV.2.1
 have hVf:=hV.2.2.2.1
 have hND:=(qc5 (p:=p) (by rw [hOK.2.1])).1
 rw [show qhe p=p.funcs from if_neg g14] at hCl
 obtain rfl:nf=nc:=by have:=hCl.1;omega
 obtain ⟨mi,xm,hmi,hxm,hmf⟩:=ql6 hOK.2.1
 have hml:=(List.getElem?_eq_some_iff.1 hxm).1
 refine Zk<|Zt<|Sr<|qaf (qan 4 [_,_] Z Z Z Z Z) Z<|Jc Z Z Z (qca D _ _ d p Ag _ ng cg nf cf (hGl.le (h1.t h2|>.t h3|>.t h4|>.t h5|>.t h6)) (hFn.le (h1.t h2|>.t h3|>.t h4|>.t h5|>.t h6)) hND) ?_
 rintro _ _ s9 h9 ⟨rfl,bm,rfl,hM⟩
 have hM0:=hM
 obtain ⟨es,hMs,hes⟩:=hM0
 refine qae Z [_,_,_] Z Z ?_
 intro β10 s10 h10
 refine Wt 0 [_,_,_] Y9<|Nt<|?_
 refine qho (γ:=Nat×Nat×Nat×Nat) (fun g=>[(7,.pointer (some ⟨g.1,0,none⟩)),(8,.pointer (some ⟨g.2.1,0,none⟩))]) (fun g=>[(g.1,cb [.slice (some ⟨g.2.2.1,0,none⟩) nf nf] 100),(g.2.1,cb [.slice (some ⟨g.2.2.2,0,none⟩) ng ng] 100),(g.2.2.1,cb (bvs (List.replicate nf false)) 4),(g.2.2.2,cb (bvs (List.replicate ng false)) 4)]) (fun g tw=>True) (fun _ _ _ h hl=>h) ?_ ?_
 ·
  refine qay qag 12 Z _ (fun _ h=>h) ?_
  intro s12 h12
  refine za 0 Z (We Y4) Z<|za 1 Z (Wd 5 Y5) Z<|za 2 Z (qbN Z Z Z) Z<|za 4 Z (qbu Z Z Z Z) Z<|za 5 Z (Wd 5 Y5) Z<|za 6 Z (qbN Z Z Z) Z ?_
  refine JA_4 3 7 8 9 V ?_ ?_ ?_ ?_
  ·
   refine qbE Z Tt Z Z Z Z Z (by simp [ti4];omega) O Z ?_
   intro βf s13 h13
   rw [qbR]
   refine qlo 7 8 9 V ?_ ?_ ?_
   ·
    refine qbE Z Tt Z Z Z Z Z (by simp [ti4];omega) O Z ?_
    intro βg s14 h14
    rw [qbR]
    refine qb9 8 9 V ?_ ?_
    ·
     refine qao Z Tt Z [_] Z Z ?_
     intro β15 s15 h15
     refine qal 9 V<|qao Z Tt Z [_] Z Z ?_
     intro β16 s16 h16
     refine qal 10 V<|Wu Z Tt 1 [_] Y9 (sM (qcI (qby (qb3 (sbE _)))))<|qal 11 V<|Wu Z Tt 0 [_] Y9 (sM (qcI (qby (qb3 (sbE _)))))<|qad V ?_
     refine qaa (MidN.mk (β15,β16,βf,βg) [] (h12.t h13|>.t h14|>.t h15|>.t h16) (.c2 Z Z sk) (List.Perm.trans (qac _ 2) (List.Perm.trans (qac _ 3) (List.Perm.trans (qac _ 2) (qac _ 3)))) Tt)
    refine qao Z Tt Z [_] Z Z ?_
    intro β17 s17 h17
    refine qal 8 V<|qao Z Tt Z [_] Z Z ?_
    intro β18 s18 h18
    refine qal 10 V<|Wu Z Tt 0 [_] Y9 (sM (qcI (qby (qb3 (sbE _)))))<|qal 11 V<|Wu Z Tt 1 [_] Y9 (sM (qcI (qby (qb3 (sbE _)))))<|qad V ?_
    refine qaa (MidN.mk (β18,β17,βf,βg) [] (h12.t h13|>.t h14|>.t h17|>.t h18) (.c2 Z Z sk) (List.Perm.trans (qac _ 2) (List.Perm.trans (qac _ 3) (List.Perm.trans (qac _ 3) (qac _ 3)))) Tt)
   ·
    refine qao Z Tt Z [_] Z Z ?_
    intro β19 s19 h19
    refine qb9 7 9 V ?_ ?_
    ·
     refine qbE Z Tt Z Z Z Z Z (by simp [ti4];omega) O Z ?_
     intro βg s20 h20
     rw [qbR]
     refine qal 9 V<|qao Z Tt Z [_] Z Z ?_
     intro β21 s21 h21
     refine qal 10 V<|Wu Z Tt 2 [_] Y9 (sM (qcI (qby (qb3 (sbE _)))))<|qal 11 V<|Wu Z Tt 0 [_] Y9 (sM (qcI (qby (qb3 (sbE _)))))<|qad V ?_
     refine qaa (MidN.mk (β19,β21,βf,βg) [] (h12.t h13|>.t h19|>.t h20|>.t h21) (.c2 Z Z sk) (List.Perm.trans (qac _ 1) (List.Perm.trans (qac _ 3) (List.Perm.trans (qac _ 2) (qac _ 3)))) Tt)
    refine qao Z Tt Z [_] Z Z ?_
    intro β22 s22 h22
    refine qb9 7 10 V ?_ ?_
    ·
     refine qbE Z Tt Z Z Z Z Z (by simp [ti4];omega) O Z ?_
     intro βg s23 h23
     rw [qbR]
     refine qal 10 V<|Wu Z Tt 2 [_] Y9 (sM (qcI (qby (qb3 (sbE _)))))<|qal 11 V<|Wu Z Tt 1 [_] Y9 (sM (qcI (qby (qb3 (sbE _)))))<|qad V ?_
     refine qaa (MidN.mk (β19,β22,βf,βg) [] (h12.t h13|>.t h19|>.t h22|>.t h23) (.c2 Z Z sk) (List.Perm.trans (qac _ 0) (List.Perm.trans (qac _ 3) (List.Perm.trans (qac _ 2) (qac _ 3)))) Tt)
    refine Wu Z Tt 1 [_] Y9 (sM (qup (qby (qb3 (sbE _)))))<|qal 7 V<|qbE Z Tt Z Z Z Z Z (by simp [ti4];omega) O Z ?_
    intro βg s24 h24
    rw [qbR]
    refine qal 11 V<|Wu Z Tt 1 [_] Y9 (sM (qcI (qby (qb3 (sbE _)))))<|qad V ?_
    refine qaa (MidN.mk (β19,β22,βf,βg) [] (h12.t h13|>.t h19|>.t h22|>.t h24) (.c2 Z Z sk) (List.Perm.trans (qac _ 0) (List.Perm.trans (qac _ 3) (List.Perm.trans (qac _ 2) (qac _ 3)))) Tt)
   refine qao Z Tt Z [_] Z Z ?_
   intro β25 s25 h25
   refine qb9 7 8 V ?_ ?_
   ·
    refine qbE Z Tt Z Z Z Z Z (by simp [ti4];omega) O Z ?_
    intro βg s26 h26
    rw [qbR]
    refine qal 8 V<|qao Z Tt Z [_] Z Z ?_
    intro β27 s27 h27
    refine qal 10 V<|Wu Z Tt 0 [_] Y9 (sM (qcI (qby (qb3 (sbE _)))))<|qal 11 V<|Wu Z Tt 2 [_] Y9 (sM (qcI (qby (qb3 (sbE _)))))<|qad V ?_
    refine qaa (MidN.mk (β27,β25,βf,βg) [] (h12.t h13|>.t h25|>.t h26|>.t h27) (.c2 Z Z sk) (List.Perm.trans (qac _ 1) (List.Perm.trans (qac _ 3) (List.Perm.trans (qac _ 3) (qac _ 3)))) Tt)
   refine qao Z Tt Z [_] Z Z ?_
   intro β28 s28 h28
   refine qb9 7 10 V ?_ ?_
   ·
    refine qbE Z Tt Z Z Z Z Z (by simp [ti4];omega) O Z ?_
    intro βg s29 h29
    rw [qbR]
    refine qal 10 V<|Wu Z Tt 1 [_] Y9 (sM (qcI (qby (qb3 (sbE _)))))<|qal 11 V<|Wu Z Tt 2 [_] Y9 (sM (qcI (qby (qb3 (sbE _)))))<|qad V ?_
    refine qaa (MidN.mk (β28,β25,βf,βg) [] (h12.t h13|>.t h25|>.t h28|>.t h29) (.c2 Z Z sk) (List.Perm.trans (qac _ 0) (List.Perm.trans (qac _ 3) (List.Perm.trans (qac _ 3) (qac _ 3)))) Tt)
   refine Wu Z Tt 0 [_] Y9 (sM (qup (qby (qb3 (sbE _)))))<|qal 7 V<|qbE Z Tt Z Z Z Z Z (by simp [ti4];omega) O Z ?_
   intro βg s30 h30
   rw [qbR]
   refine qal 11 V<|Wu Z Tt 2 [_] Y9 (sM (qcI (qby (qb3 (sbE _)))))<|qad V ?_
   refine qaa (MidN.mk (β28,β25,βf,βg) [] (h12.t h13|>.t h25|>.t h28|>.t h30) (.c2 Z Z sk) (List.Perm.trans (qac _ 0) (List.Perm.trans (qac _ 3) (List.Perm.trans (qac _ 3) (qac _ 3)))) Tt)
  ·
   refine qbE Z Tt Z Z Z Z Z (by simp [ti4];omega) O Z ?_
   intro βg s31 h31
   rw [qbR]
   refine qlo 3 8 9 V ?_ ?_ ?_
   ·
    refine qbE Z Tt Z Z Z Z Z (by simp [ti4];omega) O Z ?_
    intro βf s32 h32
    rw [qbR]
    refine qb9 8 9 V ?_ ?_
    ·
     refine qao Z Tt Z [_] Z Z ?_
     intro β33 s33 h33
     refine qal 9 V<|qao Z Tt Z [_] Z Z ?_
     intro β34 s34 h34
     refine qal 10 V<|Wu Z Tt 1 [_] Y9 (sM (qcI (qby (qb3 (sbE _)))))<|qal 11 V<|Wu Z Tt 0 [_] Y9 (sM (qcI (qby (qb3 (sbE _)))))<|qad V ?_
     refine qaa (MidN.mk (β33,β34,βf,βg) [] (h12.t h31|>.t h32|>.t h33|>.t h34) (.c2 Z Z sk) (List.Perm.trans (qac _ 3) (List.Perm.trans (qac _ 3) (List.Perm.trans (qac _ 2) (qac _ 3)))) Tt)
    refine qao Z Tt Z [_] Z Z ?_
    intro β35 s35 h35
    refine qal 8 V<|qao Z Tt Z [_] Z Z ?_
    intro β36 s36 h36
    refine qal 10 V<|Wu Z Tt 0 [_] Y9 (sM (qcI (qby (qb3 (sbE _)))))<|qal 11 V<|Wu Z Tt 1 [_] Y9 (sM (qcI (qby (qb3 (sbE _)))))<|qad V ?_
    refine qaa (MidN.mk (β36,β35,βf,βg) [] (h12.t h31|>.t h32|>.t h35|>.t h36) (.c2 Z Z sk) (List.Perm.trans (qac _ 3) (List.Perm.trans (qac _ 3) (List.Perm.trans (qac _ 3) (qac _ 3)))) Tt)
   ·
    refine qao Z Tt Z [_] Z Z ?_
    intro β37 s37 h37
    refine qb9 3 9 V ?_ ?_
    ·
     refine qbE Z Tt Z Z Z Z Z (by simp [ti4];omega) O Z ?_
     intro βf s38 h38
     rw [qbR]
     refine qal 9 V<|qao Z Tt Z [_] Z Z ?_
     intro β39 s39 h39
     refine qal 10 V<|Wu Z Tt 2 [_] Y9 (sM (qcI (qby (qb3 (sbE _)))))<|qal 11 V<|Wu Z Tt 0 [_] Y9 (sM (qcI (qby (qb3 (sbE _)))))<|qad V ?_
     refine qaa (MidN.mk (β37,β39,βf,βg) [] (h12.t h31|>.t h37|>.t h38|>.t h39) (.c2 Z Z sk) (List.Perm.trans (qac _ 3) (List.Perm.trans (qac _ 2) (List.Perm.trans (qac _ 2) (qac _ 3)))) Tt)
    refine qao Z Tt Z [_] Z Z ?_
    intro β40 s40 h40
    refine qal 3 V<|qbE Z Tt Z Z Z Z Z (by simp [ti4];omega) O Z ?_
    intro βf s41 h41
    rw [qbR]
    refine qal 10 V<|Wu Z Tt 2 [_] Y9 (sM (qcI (qby (qb3 (sbE _)))))<|qal 11 V<|Wu Z Tt 1 [_] Y9 (sM (qcI (qby (qb3 (sbE _)))))<|qad V ?_
    refine qaa (MidN.mk (β37,β40,βf,βg) [] (h12.t h31|>.t h37|>.t h40|>.t h41) (.c2 Z Z sk) (List.Perm.trans (qac _ 3) (List.Perm.trans (qac _ 1) (List.Perm.trans (qac _ 2) (qac _ 3)))) Tt)
   refine qao Z Tt Z [_] Z Z ?_
   intro β42 s42 h42
   refine qb9 3 8 V ?_ ?_
   ·
    refine qbE Z Tt Z Z Z Z Z (by simp [ti4];omega) O Z ?_
    intro βf s43 h43
    rw [qbR]
    refine qal 8 V<|qao Z Tt Z [_] Z Z ?_
    intro β44 s44 h44
    refine qal 10 V<|Wu Z Tt 0 [_] Y9 (sM (qcI (qby (qb3 (sbE _)))))<|qal 11 V<|Wu Z Tt 2 [_] Y9 (sM (qcI (qby (qb3 (sbE _)))))<|qad V ?_
    refine qaa (MidN.mk (β44,β42,βf,βg) [] (h12.t h31|>.t h42|>.t h43|>.t h44) (.c2 Z Z sk) (List.Perm.trans (qac _ 3) (List.Perm.trans (qac _ 2) (List.Perm.trans (qac _ 3) (qac _ 3)))) Tt)
   refine qao Z Tt Z [_] Z Z ?_
   intro β45 s45 h45
   refine qal 3 V<|qbE Z Tt Z Z Z Z Z (by simp [ti4];omega) O Z ?_
   intro βf s46 h46
   rw [qbR]
   refine qal 10 V<|Wu Z Tt 1 [_] Y9 (sM (qcI (qby (qb3 (sbE _)))))<|qal 11 V<|Wu Z Tt 2 [_] Y9 (sM (qcI (qby (qb3 (sbE _)))))<|qad V ?_
   refine qaa (MidN.mk (β45,β42,βf,βg) [] (h12.t h31|>.t h42|>.t h45|>.t h46) (.c2 Z Z sk) (List.Perm.trans (qac _ 3) (List.Perm.trans (qac _ 1) (List.Perm.trans (qac _ 3) (qac _ 3)))) Tt)
  ·
   refine qao Z Tt Z [_] Z Z ?_
   intro β47 s47 h47
   refine qlo 3 7 9 V ?_ ?_ ?_
   ·
    refine qbE Z Tt Z Z Z Z Z (by simp [ti4];omega) O Z ?_
    intro βf s48 h48
    rw [qbR]
    refine qb9 7 9 V ?_ ?_
    ·
     refine qbE Z Tt Z Z Z Z Z (by simp [ti4];omega) O Z ?_
     intro βg s49 h49
     rw [qbR]
     refine qal 9 V<|qao Z Tt Z [_] Z Z ?_
     intro β50 s50 h50
     refine qal 10 V<|Wu Z Tt 3 [_] Y9 (sM (qcI (qby (qb3 (sbE _)))))<|qal 11 V<|Wu Z Tt 0 [_] Y9 (sM (qcI (qby (qb3 (sbE _)))))<|qad V ?_
     refine qaa (MidN.mk (β47,β50,βf,βg) [] (h12.t h47|>.t h48|>.t h49|>.t h50) (.c2 Z Z sk) (List.Perm.trans (qac _ 1) (List.Perm.trans (qac _ 2) (List.Perm.trans (qac _ 2) (qac _ 3)))) Tt)
    refine qao Z Tt Z [_] Z Z ?_
    intro β51 s51 h51
    refine qb9 7 10 V ?_ ?_
    ·
     refine qbE Z Tt Z Z Z Z Z (by simp [ti4];omega) O Z ?_
     intro βg s52 h52
     rw [qbR]
     refine qal 10 V<|Wu Z Tt 3 [_] Y9 (sM (qcI (qby (qb3 (sbE _)))))<|qal 11 V<|Wu Z Tt 1 [_] Y9 (sM (qcI (qby (qb3 (sbE _)))))<|qad V ?_
     refine qaa (MidN.mk (β47,β51,βf,βg) [] (h12.t h47|>.t h48|>.t h51|>.t h52) (.c2 Z Z sk) (List.Perm.trans (qac _ 0) (List.Perm.trans (qac _ 2) (List.Perm.trans (qac _ 2) (qac _ 3)))) Tt)
    refine Wu Z Tt 2 [_] Y9 (sM (qup (qby (qb3 (sbE _)))))<|qal 7 V<|qbE Z Tt Z Z Z Z Z (by simp [ti4];omega) O Z ?_
    intro βg s53 h53
    rw [qbR]
    refine qal 11 V<|Wu Z Tt 1 [_] Y9 (sM (qcI (qby (qb3 (sbE _)))))<|qad V ?_
    refine qaa (MidN.mk (β47,β51,βf,βg) [] (h12.t h47|>.t h48|>.t h51|>.t h53) (.c2 Z Z sk) (List.Perm.trans (qac _ 0) (List.Perm.trans (qac _ 2) (List.Perm.trans (qac _ 2) (qac _ 3)))) Tt)
   ·
    refine qbE Z Tt Z Z Z Z Z (by simp [ti4];omega) O Z ?_
    intro βg s54 h54
    rw [qbR]
    refine qb9 3 9 V ?_ ?_
    ·
     refine qbE Z Tt Z Z Z Z Z (by simp [ti4];omega) O Z ?_
     intro βf s55 h55
     rw [qbR]
     refine qal 9 V<|qao Z Tt Z [_] Z Z ?_
     intro β56 s56 h56
     refine qal 10 V<|Wu Z Tt 3 [_] Y9 (sM (qcI (qby (qb3 (sbE _)))))<|qal 11 V<|Wu Z Tt 0 [_] Y9 (sM (qcI (qby (qb3 (sbE _)))))<|qad V ?_
     refine qaa (MidN.mk (β47,β56,βf,βg) [] (h12.t h47|>.t h54|>.t h55|>.t h56) (.c2 Z Z sk) (List.Perm.trans (qac _ 2) (List.Perm.trans (qac _ 2) (List.Perm.trans (qac _ 2) (qac _ 3)))) Tt)
    refine qao Z Tt Z [_] Z Z ?_
    intro β57 s57 h57
    refine qal 3 V<|qbE Z Tt Z Z Z Z Z (by simp [ti4];omega) O Z ?_
    intro βf s58 h58
    rw [qbR]
    refine qal 10 V<|Wu Z Tt 3 [_] Y9 (sM (qcI (qby (qb3 (sbE _)))))<|qal 11 V<|Wu Z Tt 1 [_] Y9 (sM (qcI (qby (qb3 (sbE _)))))<|qad V ?_
    refine qaa (MidN.mk (β47,β57,βf,βg) [] (h12.t h47|>.t h54|>.t h57|>.t h58) (.c2 Z Z sk) (List.Perm.trans (qac _ 2) (List.Perm.trans (qac _ 1) (List.Perm.trans (qac _ 2) (qac _ 3)))) Tt)
   refine qao Z Tt Z [_] Z Z ?_
   intro β59 s59 h59
   refine qb9 3 7 V ?_ ?_
   ·
    refine qbE Z Tt Z Z Z Z Z (by simp [ti4];omega) O Z ?_
    intro βf s60 h60
    rw [qbR]
    refine qb9 7 10 V ?_ ?_
    ·
     refine qbE Z Tt Z Z Z Z Z (by simp [ti4];omega) O Z ?_
     intro βg s61 h61
     rw [qbR]
     refine qal 10 V<|Wu Z Tt 3 [_] Y9 (sM (qcI (qby (qb3 (sbE _)))))<|qal 11 V<|Wu Z Tt 2 [_] Y9 (sM (qcI (qby (qb3 (sbE _)))))<|qad V ?_
     refine qaa (MidN.mk (β47,β59,βf,βg) [] (h12.t h47|>.t h59|>.t h60|>.t h61) (.c2 Z Z sk) (List.Perm.trans (qac _ 0) (List.Perm.trans (qac _ 1) (List.Perm.trans (qac _ 2) (qac _ 3)))) Tt)
    refine Wu Z Tt 2 [_] Y9 (sM (qup (qby (qb3 (sbE _)))))<|qal 7 V<|qbE Z Tt Z Z Z Z Z (by simp [ti4];omega) O Z ?_
    intro βg s62 h62
    rw [qbR]
    refine qal 11 V<|Wu Z Tt 2 [_] Y9 (sM (qcI (qby (qb3 (sbE _)))))<|qad V ?_
    refine qaa (MidN.mk (β47,β59,βf,βg) [] (h12.t h47|>.t h59|>.t h60|>.t h62) (.c2 Z Z sk) (List.Perm.trans (qac _ 0) (List.Perm.trans (qac _ 1) (List.Perm.trans (qac _ 2) (qac _ 3)))) Tt)
   refine qbE Z Tt Z Z Z Z Z (by simp [ti4];omega) O Z ?_
   intro βg s63 h63
   rw [qbR]
   refine qal 3 V<|qbE Z Tt Z Z Z Z Z (by simp [ti4];omega) O Z ?_
   intro βf s64 h64
   rw [qbR]
   refine qal 10 V<|Wu Z Tt 3 [_] Y9 (sM (qcI (qby (qb3 (sbE _)))))<|qal 11 V<|Wu Z Tt 2 [_] Y9 (sM (qcI (qby (qb3 (sbE _)))))<|qad V ?_
   refine qaa (MidN.mk (β47,β59,βf,βg) [] (h12.t h47|>.t h59|>.t h63|>.t h64) (.c2 Z Z sk) (List.Perm.trans (qac _ 1) (List.Perm.trans (qac _ 1) (List.Perm.trans (qac _ 2) (qac _ 3)))) Tt)
  refine qao Z Tt Z [_] Z Z ?_
  intro β65 s65 h65
  refine qlo 3 7 8 V ?_ ?_ ?_
  ·
   refine qbE Z Tt Z Z Z Z Z (by simp [ti4];omega) O Z ?_
   intro βf s66 h66
   rw [qbR]
   refine qb9 7 8 V ?_ ?_
   ·
    refine qbE Z Tt Z Z Z Z Z (by simp [ti4];omega) O Z ?_
    intro βg s67 h67
    rw [qbR]
    refine qal 8 V<|qao Z Tt Z [_] Z Z ?_
    intro β68 s68 h68
    refine qal 10 V<|Wu Z Tt 0 [_] Y9 (sM (qcI (qby (qb3 (sbE _)))))<|qal 11 V<|Wu Z Tt 3 [_] Y9 (sM (qcI (qby (qb3 (sbE _)))))<|qad V ?_
    refine qaa (MidN.mk (β68,β65,βf,βg) [] (h12.t h65|>.t h66|>.t h67|>.t h68) (.c2 Z Z sk) (List.Perm.trans (qac _ 1) (List.Perm.trans (qac _ 2) (List.Perm.trans (qac _ 3) (qac _ 3)))) Tt)
   refine qao Z Tt Z [_] Z Z ?_
   intro β69 s69 h69
   refine qb9 7 10 V ?_ ?_
   ·
    refine qbE Z Tt Z Z Z Z Z (by simp [ti4];omega) O Z ?_
    intro βg s70 h70
    rw [qbR]
    refine qal 10 V<|Wu Z Tt 1 [_] Y9 (sM (qcI (qby (qb3 (sbE _)))))<|qal 11 V<|Wu Z Tt 3 [_] Y9 (sM (qcI (qby (qb3 (sbE _)))))<|qad V ?_
    refine qaa (MidN.mk (β69,β65,βf,βg) [] (h12.t h65|>.t h66|>.t h69|>.t h70) (.c2 Z Z sk) (List.Perm.trans (qac _ 0) (List.Perm.trans (qac _ 2) (List.Perm.trans (qac _ 3) (qac _ 3)))) Tt)
   refine Wu Z Tt 0 [_] Y9 (sM (qup (qby (qb3 (sbE _)))))<|qal 7 V<|qbE Z Tt Z Z Z Z Z (by simp [ti4];omega) O Z ?_
   intro βg s71 h71
   rw [qbR]
   refine qal 11 V<|Wu Z Tt 3 [_] Y9 (sM (qcI (qby (qb3 (sbE _)))))<|qad V ?_
   refine qaa (MidN.mk (β69,β65,βf,βg) [] (h12.t h65|>.t h66|>.t h69|>.t h71) (.c2 Z Z sk) (List.Perm.trans (qac _ 0) (List.Perm.trans (qac _ 2) (List.Perm.trans (qac _ 3) (qac _ 3)))) Tt)
  ·
   refine qbE Z Tt Z Z Z Z Z (by simp [ti4];omega) O Z ?_
   intro βg s72 h72
   rw [qbR]
   refine qb9 3 8 V ?_ ?_
   ·
    refine qbE Z Tt Z Z Z Z Z (by simp [ti4];omega) O Z ?_
    intro βf s73 h73
    rw [qbR]
    refine qal 8 V<|qao Z Tt Z [_] Z Z ?_
    intro β74 s74 h74
    refine qal 10 V<|Wu Z Tt 0 [_] Y9 (sM (qcI (qby (qb3 (sbE _)))))<|qal 11 V<|Wu Z Tt 3 [_] Y9 (sM (qcI (qby (qb3 (sbE _)))))<|qad V ?_
    refine qaa (MidN.mk (β74,β65,βf,βg) [] (h12.t h65|>.t h72|>.t h73|>.t h74) (.c2 Z Z sk) (List.Perm.trans (qac _ 2) (List.Perm.trans (qac _ 2) (List.Perm.trans (qac _ 3) (qac _ 3)))) Tt)
   refine qao Z Tt Z [_] Z Z ?_
   intro β75 s75 h75
   refine qal 3 V<|qbE Z Tt Z Z Z Z Z (by simp [ti4];omega) O Z ?_
   intro βf s76 h76
   rw [qbR]
   refine qal 10 V<|Wu Z Tt 1 [_] Y9 (sM (qcI (qby (qb3 (sbE _)))))<|qal 11 V<|Wu Z Tt 3 [_] Y9 (sM (qcI (qby (qb3 (sbE _)))))<|qad V ?_
   refine qaa (MidN.mk (β75,β65,βf,βg) [] (h12.t h65|>.t h72|>.t h75|>.t h76) (.c2 Z Z sk) (List.Perm.trans (qac _ 2) (List.Perm.trans (qac _ 1) (List.Perm.trans (qac _ 3) (qac _ 3)))) Tt)
  refine qao Z Tt Z [_] Z Z ?_
  intro β77 s77 h77
  refine qb9 3 7 V ?_ ?_
  ·
   refine qbE Z Tt Z Z Z Z Z (by simp [ti4];omega) O Z ?_
   intro βf s78 h78
   rw [qbR]
   refine qb9 7 10 V ?_ ?_
   ·
    refine qbE Z Tt Z Z Z Z Z (by simp [ti4];omega) O Z ?_
    intro βg s79 h79
    rw [qbR]
    refine qal 10 V<|Wu Z Tt 2 [_] Y9 (sM (qcI (qby (qb3 (sbE _)))))<|qal 11 V<|Wu Z Tt 3 [_] Y9 (sM (qcI (qby (qb3 (sbE _)))))<|qad V ?_
    refine qaa (MidN.mk (β77,β65,βf,βg) [] (h12.t h65|>.t h77|>.t h78|>.t h79) (.c2 Z Z sk) (List.Perm.trans (qac _ 0) (List.Perm.trans (qac _ 1) (List.Perm.trans (qac _ 3) (qac _ 3)))) Tt)
   refine Wu Z Tt 1 [_] Y9 (sM (qup (qby (qb3 (sbE _)))))<|qal 7 V<|qbE Z Tt Z Z Z Z Z (by simp [ti4];omega) O Z ?_
   intro βg s80 h80
   rw [qbR]
   refine qal 11 V<|Wu Z Tt 3 [_] Y9 (sM (qcI (qby (qb3 (sbE _)))))<|qad V ?_
   refine qaa (MidN.mk (β77,β65,βf,βg) [] (h12.t h65|>.t h77|>.t h78|>.t h80) (.c2 Z Z sk) (List.Perm.trans (qac _ 0) (List.Perm.trans (qac _ 1) (List.Perm.trans (qac _ 3) (qac _ 3)))) Tt)
  refine qbE Z Tt Z Z Z Z Z (by simp [ti4];omega) O Z ?_
  intro βg s81 h81
  rw [qbR]
  refine qal 3 V<|qbE Z Tt Z Z Z Z Z (by simp [ti4];omega) O Z ?_
  intro βf s82 h82
  rw [qbR]
  refine qal 10 V<|Wu Z Tt 2 [_] Y9 (sM (qcI (qby (qb3 (sbE _)))))<|qal 11 V<|Wu Z Tt 3 [_] Y9 (sM (qcI (qby (qb3 (sbE _)))))<|qad V ?_
  refine qaa (MidN.mk (β77,β65,βf,βg) [] (h12.t h65|>.t h77|>.t h81|>.t h82) (.c2 Z Z sk) (List.Perm.trans (qac _ 1) (List.Perm.trans (qac _ 1) (List.Perm.trans (qac _ 3) (qac _ 3)))) Tt)
 intro g s11 h11 I11
 simp only [cQ9,nQ9]
 obtain ⟨b7,b8,oF,oG⟩:=g
 dsimp only
 refine Sr<|qae Z [_] Z Z ?_
 intro β83 s83 h83
 refine Nt<|Sr<|qaf (qbn Z) Z<|Wt 0 [_] Y9<|Nt<|Zs<|qej 5<|qej 7<|qej 10<|qbs [] [_,_,_,_,_,_] _ ?_
 intro s84 h84 hpub84
 simp only [cQ9,nQ9]
 have hE:TrE s84 p d _ _ _ _ _ _ oF oG bm Ag Af Ac ng cg nf cf cc:=⟨hpub84 _ _ _ (List.mem_cons_of_mem _ (List.mem_cons_of_mem _ (List.mem_cons_of_mem _ (List.mem_cons_of_mem _ Mc)))),hpub84 _ _ _ (List.mem_cons_of_mem _ (List.mem_cons_of_mem _ Mc)),hpub84 _ _ _ Mc,hpub84 _ _ _ (List.mem_cons_of_mem _ (List.mem_cons_of_mem _ (List.mem_cons_of_mem _ (List.mem_cons_of_mem _ (List.mem_cons_of_mem _ Mc))))),hpub84 _ _ _ (List.mem_cons_of_mem _ Mc),hpub84 _ _ _ (List.mem_cons_of_mem _ (List.mem_cons_of_mem _ (List.mem_cons_of_mem _ Mc))),hM.le (h10.t h11|>.t h83|>.t h84),hGl.le (h1.t h2|>.t h3|>.t h4|>.t h5|>.t h6|>.t h9|>.t h10|>.t h11|>.t h83|>.t h84),hFn.le (h1.t h2|>.t h3|>.t h4|>.t h5|>.t h6|>.t h9|>.t h10|>.t h11|>.t h83|>.t h84),hCl.le (h5.t h6|>.t h9|>.t h10|>.t h11|>.t h83|>.t h84)⟩
   
 refine Zr<|qaf (qaj Z Z Z (hE.xr.le (Lr D)) Z) Z<|qaf (qbf Z Z Z Z) Z<|qaf (qaC 2 Z Z Z (hE.xn.le (Lr D)) Z) Z<|qaf (qaw (qk1 KeyK.str qj3 Z Z (hMs.le (h10.t h11|>.t h83|>.t h84))) (show (qcx es qbw).getD (.agg #[.int .i64 0,.int .i64 0])=.agg #[.int .i64 4,.int .i64 (mi:Int)] by rw [hes qbw,hmf];rfl)) Z<|qaf (qen Z Z Z Z Z Z Z Z Z) Z ?_
 refine qd1 (first:=[]) (captured:=[_,_,_,_,_,_]) Z Z Z (trc D (nf+1) _ _ p d _ _ _ _ _ _ oF oG bm Ag Af Ac ng cg nf cf cc (hE.le (Lr D)) hV mi (List.replicate nf false) (List.replicate ng false) O (by simp) (by simp) (by rw [qky];omega)) ?_
 rintro _ _ s85 h85 ⟨rfl,F1,G1,rfl,hR⟩
 have hMk:qpm p F1 G1:=qqs hmi hml (by rw [← hn2,← hn1];exact hR)
 have hF1l:=hMk.1
 have hG1l:=hMk.2.1
 refine Nt<|Sr<|qae Z [_,_] Z Z ?_
 intro β86 s86 h86
 refine Nt<|Zs<|Sr<|qaf (qas Z Z Z (hE.xp.le (h85.t h86)) Z) Z<|Jc Z Z Z (qgi D _ _ d p Ag _ ng cg nf cf (hE.gl.le (h85.t h86)) (hE.fn.le (h85.t h86)) hV) ?_
 rintro _ _ s87 h87 ⟨rfl,Cg,Cmg,Ceg,Cf,Cmf,Cef,rfl,ChG,ChF⟩
 refine qaf (qen Z Z Z Z Z Z Z Z Z) Z<|Ws Y4<|Zqm Z Z<|Nt<|Zp<|?_
 refine qat (γ:=Nat×Value×Hl) (fun g=>[(1,_),(2,_),(3,_),(7,_),(8,_),(10,_),(44,_),(45,_),(46,.int .i64 (g.1:Int))]) (fun g=>(β86,cb [g.2.1,.slice none 0 0] 25)::_::_::_::_::_::(g.2.2++L)) (fun g tw=>Le D s87 tw∧(g.1≤Cmg∧∃ css,FL.Own 53 4 g.2.2 g.2.1 (qav G1 (p.globals.take g.1)).length (List.flatten css)∧All2 (fun x cs=>cs.length=4∧GlR tw x cs) (qav G1 (p.globals.take g.1)) css)) (fun g=>Cmg - g.1) (fun _ _ _ h hl=>⟨h.1.trans hl,⟨h.2.1,by obtain ⟨css,q1,q2⟩:=h.2.2;exact ⟨css,q1,q2.mono fun _ _ k=>⟨k.1,k.2.le hl⟩⟩⟩⟩) (0,.slice none 0 0,[]) (.c6 Z Z Z Z Z Z (.c3 Z Z Z (.nil _))) Z ⟨Le.refl _,⟨Nat.zero_le _,[],by cases G1 <;> exact FL.Own.nil,by cases G1 <;> exact .nil⟩⟩ ?_
 intro g s88 I88
 obtain ⟨k,vo,Mo⟩:=g
 obtain ⟨hk0,css,hO,hA2⟩:=I88.2
 simp only at hk0 hO hA2
 dsimp only
 obtain ⟨Ao,co,rfl,_,_⟩:=Own.slice hO
 have hkl:=qhL G1 (p.globals.take k)
 rw [List.length_take] at hkl
 refine Sr<|qba Z Z Z<|Nt<|Zs<|?_
 refine qab Z (fun c89=>?_) (fun c89=>?_)
 ·
  have hk:k < Cmg:=by omega
  have hnC:=ChG.1
  obtain ⟨b,off,x,Ai,ni,ci,rfl,hx,hcx,hix,hux,hnl⟩:=Glos.at_ (ChG.le I88.1) hk
  have hkg:k < ng:=by omega
  have hkG:k < G1.length:=by omega
  refine Zk<|Zt<|Zs<|Zp<|Sr<|Zqm Z Z<|qaf (qap Z Z Z Z Z Z hk) Z<|qaf (qas Z Z Z (hcx.le (Lr D)) Z) Z<|qae Z [_,_,_,_] Z Z ?_
  intro β90 s90 h90
  refine Zqa Z Z<|Wt 0 [_,_,_,_] Y9<|Nt<|Sr<|qaf (qaj Z Z Z (hE.xg.le (h85.t h86|>.t h87|>.t I88.1|>.t h90)) Z) Z<|Zqm Z Z<|qaf (qaH Z Z Z Z Z Z hkg) Z<|qaf (qdQ 3 Z Z Z Z (qso hkG)) Z<|Nt<|?_
  refine qes Z (fun c91=>?_) (fun c91=>?_)
  ·
   have hgt:=c91
   refine Zr<|W0 Y5<|Wl 1 Y6<|qaf (qan 0 [_,_,_,_] Z Z Z Z Z) Z<|qbt [(_,_)] [_,_,_,_] Z Z Z Z Z Z Z Z Z ?_
   intro βn s92 h92 hcb
   refine qbd (sz:=4) [_,_,_,_,_,_,_] Mo L Z Z Z Z Z Z Z hO (Row.of_cells (hcb.le (Lr D)) Z Z) ⟨by simp [ti53];omega,by omega⟩ Z ?_
   intro vq Mq s93 h93 oq
   obtain ⟨Avq,cvq,rfl,_,_⟩:=Own.slice oq
   simp only [cQ9,nQ9]
   refine W0 Y5<|Wt 1 [_,_] Y9<|Zn<|Zb<|Zt<|Zr<|qaG Z Z Z (w64 O O)<|Zqm Z Z<|Zn<|?_
   refine qaa ⟨(k+1,.slice Avq ((qav G1 (p.globals.take k)).length+1) cvq,Mq),[_],kp,Z,⟨(I88.1.t h90|>.t h92|>.t h93),⟨by simp only;omega,css++[[.int .i64 x.kind,St x.name,.int .u32 x.num,.slice Ai ni ci]],by simp only [List.flatten_append,List.flatten_cons,List.flatten_nil,List.append_nil];rw [qb7 hx,if_pos hgt,List.length_append];exact oq,by simp only;rw [qb7 hx,if_pos hgt];exact qcY (hA2.mono fun _ _ k=>⟨k.1,k.2.le (h90.t h92|>.t h93)⟩) ⟨Z,Ai,ni,ci,Z,hix.le (h90.t h92|>.t h93),hux,hnl⟩⟩⟩,Oz⟩
  have hgt:=c91
  refine Zk<|Zb<|Zt<|Zr<|qaG Z Z Z (w64 O O)<|Zqm Z Z<|Zn<|?_
  refine qaa ⟨(k+1,_,Mo),[_],kp,Z,⟨(I88.1.t h90),⟨by simp only;omega,css,by simp only;rw [qb7 hx,if_neg (by rw [hgt];decide),List.append_nil];exact hO,by simp only;rw [qb7 hx,if_neg (by rw [hgt];decide),List.append_nil];exact hA2.mono fun _ _ k=>⟨k.1,k.2.le h90⟩⟩⟩,Oz⟩
 have hnC:=ChG.1
 obtain rfl:Cmg=k:=by omega
 rw [List.take_of_length_le O] at hO hA2 ⊢
 refine Zl<|Zv<|Zv<|Zd<|Zt<|Zs<|Zs<|qbs [_,_,_,_,_,_] Mo _ ?_
 intro s94 h94 hpub94
 simp only [cQ9,nQ9]
 have hGN:Glos s94 Ao (qav G1 p.globals).length co (qav G1 p.globals):=Own.rows hO hpub94 (hA2.mono fun _ _ k=>⟨k.1,k.2.le h94⟩) rfl
 obtain ⟨Go,hGo⟩:∃ Go,Go=Ao:=⟨_,rfl⟩
 obtain ⟨mg2,hmg2⟩:∃ m,m=(qav G1 p.globals).length:=⟨_,rfl⟩
 obtain ⟨eg2,heg2⟩:∃ eg,eg=co:=⟨_,rfl⟩
 rw [← hGo,← hmg2,← heg2] at hGN ⊢
 clear hGo hmg2 heg2 hO hA2
 refine Zr<|qaf (qas Z Z Z (hE.xp.le (h85.t h86|>.t h87|>.t I88.1|>.t h94)) Z) Z<|Jc Z Z Z (qgi D _ _ d p Ag _ ng cg nf cf (hE.gl.le (h85.t h86|>.t h87|>.t I88.1|>.t h94)) (hE.fn.le (h85.t h86|>.t h87|>.t I88.1|>.t h94)) hV) ?_
 rintro _ _ s95 h95 ⟨rfl,Eg,Emg,Eeg,Ef,Emf,Eef,rfl,EhG,EhF⟩
 refine qaf (qen Z Z Z Z Z Z Z Z Z) Z<|Ws Y4<|Zqm Z Z<|Nt<|Zp<|?_
 refine qat (γ:=Nat×Value×Hl) (fun g=>[(2,_),(3,_),(7,_),(10,_),(64,_),(65,_),(66,.int .i64 (g.1:Int))]) (fun g=>(β86,cb [.slice Go mg2 eg2,g.2.1] 25)::_::_::_::_::_::(g.2.2++L)) (fun g tw=>Le D s95 tw∧(g.1≤Emf∧∃ css,FL.Own 57 4 g.2.2 g.2.1 (qav F1 (p.funcs.take g.1)).length (List.flatten css)∧All2 (fun x cs=>cs.length=4∧FnR d tw x cs) (qav F1 (p.funcs.take g.1)) css)) (fun g=>Emf - g.1) (fun _ _ _ h hl=>⟨h.1.trans hl,⟨h.2.1,by obtain ⟨css,q1,q2⟩:=h.2.2;exact ⟨css,q1,q2.mono fun _ _ k=>⟨k.1,k.2.le hl⟩⟩⟩⟩) (0,.slice none 0 0,[]) (.c6 Z Z Z Z Z Z (.cons Z (.nil _))) Z ⟨Le.refl _,⟨Nat.zero_le _,[],by cases F1 <;> exact FL.Own.nil,by cases F1 <;> exact .nil⟩⟩ ?_
 intro g s96 I96
 obtain ⟨k,vo,Mo⟩:=g
 obtain ⟨hk0,css,hO,hA2⟩:=I96.2
 simp only at hk0 hO hA2
 dsimp only
 obtain ⟨Ao,co,rfl,_,_⟩:=Own.slice hO
 have hkl:=qhL F1 (p.funcs.take k)
 rw [List.length_take] at hkl
 refine Sr<|qba Z Z Z<|Nt<|Zs<|?_
 refine qab Z (fun c97=>?_) (fun c97=>?_)
 ·
  have hk:k < Emf:=by omega
  have hnE:=EhF.1
  obtain ⟨b,off,x,B1,m1,d1,B2,m2,d2,B3,m3,d3,rfl,hx,hcx,hpx,hlx,hbx,hnl⟩:=Fncs.at_ (EhF.le I96.1) hk
  have hkf:k < nf:=by omega
  have hkF:k < F1.length:=by omega
  refine Zk<|Zt<|Zs<|Zp<|Sr<|Zqm Z Z<|qaf (qap Z Z Z Z Z Z hk) Z<|qaf (qas Z Z Z (hcx.le (Lr D)) Z) Z<|qae Z [_,_,_,_] Z Z ?_
  intro β98 s98 h98
  refine Zqa Z Z<|Wt 0 [_,_,_,_] Y9<|Nt<|Sr<|qaf (qaj Z Z Z (hE.xf.le (h85.t h86|>.t h87|>.t I88.1|>.t h94|>.t h95|>.t I96.1|>.t h98)) Z) Z<|Zqm Z Z<|qaf (qaH Z Z Z Z Z Z hkf) Z<|qaf (qdQ 2 Z Z Z Z (qso hkF)) Z<|Nt<|?_
  refine qes Z (fun c99=>?_) (fun c99=>?_)
  ·
   have hgt:=c99
   refine Zr<|Wb Y5<|Wl 1 Y6<|qaf (qan 0 [_,_,_,_] Z Z Z Z Z) Z<|qbt [(_,_)] [_,_,_,_] Z Z Z Z Z Z Z Z Z ?_
   intro βn s100 h100 hcb
   refine qbd (sz:=4) [_,_,_,_,_,_,_] Mo L Z Z Z Z Z Z Z hO (Row.of_cells (hcb.le (Lr D)) Z Z) ⟨by simp [ti57];omega,by omega⟩ Z ?_
   intro vq Mq s101 h101 oq
   obtain ⟨Avq,cvq,rfl,_,_⟩:=Own.slice oq
   simp only [cQ9,nQ9]
   refine Wb Y5<|Wt 1 [_,_] Y9<|Zn<|Zb<|Zt<|Zr<|qaG Z Z Z (w64 O O)<|Zqm Z Z<|Zn<|?_
   refine qaa ⟨(k+1,.slice Avq ((qav F1 (p.funcs.take k)).length+1) cvq,Mq),[_],kp,Z,⟨(I96.1.t h98|>.t h100|>.t h101),⟨by simp only;omega,css++[[St x.name,.slice B1 m1 d1,.slice B2 m2 d2,.slice B3 m3 d3]],by simp only [List.flatten_append,List.flatten_cons,List.flatten_nil,List.append_nil];rw [qb7 hx,if_pos hgt,List.length_append];exact oq,by simp only;rw [qb7 hx,if_pos hgt];exact qcY (hA2.mono fun _ _ k=>⟨k.1,k.2.le (h98.t h100|>.t h101)⟩) ⟨Z,B1,m1,d1,B2,m2,d2,B3,m3,d3,Z,hpx.le (h98.t h100|>.t h101),hlx.le (h98.t h100|>.t h101),hbx.le (h98.t h100|>.t h101),hnl⟩⟩⟩,Oz⟩
  have hgt:=c99
  refine Zk<|Zb<|Zt<|Zr<|qaG Z Z Z (w64 O O)<|Zqm Z Z<|Zn<|?_
  refine qaa ⟨(k+1,_,Mo),[_],kp,Z,⟨(I96.1.t h98),⟨by simp only;omega,css,by simp only;rw [qb7 hx,if_neg (by rw [hgt];decide),List.append_nil];exact hO,by simp only;rw [qb7 hx,if_neg (by rw [hgt];decide),List.append_nil];exact hA2.mono fun _ _ k=>⟨k.1,k.2.le h98⟩⟩⟩,Oz⟩
 have hnE:=EhF.1
 obtain rfl:Emf=k:=by omega
 rw [List.take_of_length_le O] at hO hA2 ⊢
 refine Zl<|Zv<|Zv<|Zd<|Zt<|Sr<|qaf (qan 0 [_,_] Z Z Z Z Z) Z<|qaf (qam [] [_,_] Z Z Z Z Z Z) Z<|Wt 5 [_,_] Y9<|Wt 4 [_,_] Y9<|Nt<|Zo<|?_
 refine rR [_,_,_,_,_,_] _ (.agg (us:=[_,_]) 5 Z Z Z Z Z (.agg (us:=[_,_]) 4 Z Z Z Z Z (.nil))) Z (h1.t h2|>.t h3|>.t h4|>.t h5|>.t h6|>.t h9|>.t h10|>.t h11|>.t h83|>.t h84|>.t h85|>.t h86|>.t h87|>.t I88.1|>.t h94|>.t h95|>.t I96.1) fun _ hS2=>?_
 exact ⟨Mo,rfl,fun s2 hs2 hp=>⟨⟨qav G1 p.globals,qav F1 p.funcs⟩,.inr ⟨g4.1,F1,G1,hMk,rfl⟩,_,_,_,_,_,_,by rw [hz0];rfl,hGN.le (h95.t I96.1|>.t (hS2.t hs2)),Own.rows hO hp (hA2.mono fun _ _ k=>⟨k.1,k.2.le ((Lr D).t (hS2.t hs2))⟩) rfl⟩⟩
theorem qlG(D:Nat)(L:Hl)(s:World)(hG:GP s)(d:Nat)(p:Prg)(Ag Af:Option Addr)(ng cg nf cf:Nat)(hGl:Glos s Ag ng cg p.globals)(hFn:Fncs d s Af nf cf p.funcs):AC prog D 16 [.agg #[.slice Ag ng cg,.slice Af nf cf]] L s fun v L' s'=>L=L'∧∃ q,qh8 p q∧∃ Bg mg eg Bf mf ef,v=.tuple #[.agg #[.slice Bg mg eg,.slice Bf mf ef],.agg #[.int .i64 (qbM p).1,.int .i64 (qbM p).2]]∧Glos s' Bg mg eg q.globals∧Fncs d s' Bf mf ef q.funcs:=AC.pubW (qo8 D L s hG d p Ag Af ng cg nf cf hGl hFn)
def qjU(p:Prg)(i:Int):Int:=match p.globals[i.toNat]? with
 | some g=>g.num
 | none=>0
theorem qnd{p:Prg}{k:Nat}{x:Glo}(h:p.globals[k]?=some x):qjU p (k:Int)=x.num:=by rw [qjU,Int.toNat_natCast,h]
def qeI(p:Prg)(f:Fnc)(x:Ex):Option Int:=
 if x.kind=2 then (if (qaz p f x.name).1.1=3∧qit p (qaz p f x.name).1.2=1 then some (qjU p (qaz p f x.name).1.2) else none)
 else if x.kind=6 then (match x.args with
  | a::_=>if a.kind=1∧(qfk x.op 0).1=0 then some (opP x.op a.num 0) else none
  | []=>none)
 else if x.kind=7 then (match x.args with
  | a::b::_=>if a.kind=1 then (if b.kind=1 then (if (qfk x.op b.num).1=0 then some (opP x.op a.num b.num) else none) else if x.op=20∧a.num=0 then some 0 else if x.op=21∧a.num≠0 then some 1 else none) else none
  | _=>none)
 else none
theorem qxe{p:Prg}{f:Fnc}{x a:Ex}(h2:¬ x.kind=2)(h6:x.kind=6)(ha:x.args[0]?=some a):qeI p f x=if a.kind=1∧(qfk x.op 0).1=0 then some (opP x.op a.num 0) else none:=by
 rw [qeI,if_neg h2,if_pos h6]
 cases h:x.args with
 | nil=>rw [h] at ha;cases ha
 | cons y r=>rw [h] at ha;simp at ha;subst ha;rfl
theorem qwJ{p:Prg}{f:Fnc}{x a b:Ex}(h2:¬ x.kind=2)(h6:¬ x.kind=6)(h7:x.kind=7)(ha:x.args[0]?=some a)(hb:x.args[1]?=some b):qeI p f x=if a.kind=1 then (if b.kind=1 then (if (qfk x.op b.num).1=0 then some (opP x.op a.num b.num) else none) else if x.op=20∧a.num=0 then some 0 else if x.op=21∧a.num≠0 then some 1 else none) else none:=by
 rw [qeI,if_neg h2,if_neg h6,if_pos h7]
 cases h:x.args with
 | nil=>rw [h] at ha;cases ha
 | cons y r=>
  cases r with
  | nil=>rw [h] at hb;cases hb
  | cons z r=>rw [h] at ha hb;simp at ha hb;subst ha;subst hb;rfl
theorem qnV{c:Int×Int}{v:Int}(hc:c.1=0→c=(0,0)):Value.tuple #[.int .u32 (if c.1=0 then v else 0),.bool (decide (c.1=0∧c.2=0))]=.tuple #[.int .u32 ((if c.1=0 then some v else none:Option Int).getD 0),.bool (if c.1=0 then some v else none:Option Int).isSome]:=by
 by_cases h:c.1=0
 · have:=hc h;simp [this]
 · simp [h]
theorem qgB{k y:Int}(h:(qfk k y).1=0):qfk k y=(0,0):=by
 unfold qfk at h ⊢
 split at h
 · cases h
 rename_i h1
 rw [if_neg h1]
 split at h
 · cases h
 rename_i h2
 rw [if_neg h2]
theorem qmM(D:Nat)(L:Hl)(s:World)(bx d:Nat)(k o u:Int)(nm:List UInt8)(A:Option Addr)(n c i:Nat)(xs:List Ex)(hA:Exs d s A n c xs)(a:Ex)(ha:xs[i]?=some a):AC prog D 151 [.int .i64 (i:Int),.pointer (some ⟨bx,0,none⟩)] ((bx,cb [.int .i64 k,.int .i64 o,.int .u32 u,St nm,.slice A n c] 89)::L) s fun v L' _=>v=.bool (decide (a.kind=1))∧L'=(bx,cb [.int .i64 k,.int .i64 o,.int .u32 u,St nm,.slice A n c] 89)::L:=by
 have hi:i < n:=by rw [hA.1];exact (List.getElem?_eq_some_iff.1 ha).1
 obtain ⟨e,b,off,y,A',n',c',hd,rfl,hy,hcy,hay,huy,hnl⟩:=Exs.at_ hA hi
 obtain rfl:a=y:=by rw [ha] at hy;injection hy
 refine qai (fn:=f151) qaq func151 V Z ntmps151 Z (rs:=[.tmp 3]) Z [(0,_),(1,_)] Z<|Sr<|At Z Z<|Sr<|Wb Y5<|Wl 0 Y6<|Zqm Z Z<|qaf (qap Z Z Z Z Z Z hi) Z<|W0 Y5<|qaf (qaj Z Z Z (hcy.le (Lr D)) Z) Z<|qax Z Z Z<|At Z Z<|Zo<|?_
 refine rR [] _ (.t1 Z) Z (Lr D) fun _ hS2=>?_
 exact ⟨rfl,rfl⟩
theorem qk0(D:Nat)(L:Hl)(s:World)(bm:Nat)(Ag Af:Option Addr)(ng cg nf cf:Nat)(p:Prg)(hM:NmOK s bm p)(hGl:Glos s Ag ng cg p.globals)(f:Fnc)(B1 B2 B3:Option Addr)(m1 d1 m2 d2 m3 d3:Nat)(hpx:Strs s B1 m1 d1 f.params)(hlx:Strs s B2 m2 d2 f.locals)(d:Nat)(x:Ex)(A:Option Addr)(n c:Nat)(hA:Exs d s A n c x.args)(hl6:x.kind=6→1≤x.args.length)(hl7:x.kind=7→2≤x.args.length):AC prog D 111 [.agg #[.slice Ag ng cg,.slice Af nf cf,.map (some bm),St f.name,.slice B1 m1 d1,.slice B2 m2 d2,.slice B3 m3 d3],.agg #[.int .i64 x.kind,.int .i64 x.op,.int .u32 x.num,St x.name,.slice A n c]] L s fun v L' _=>v=.tuple #[.int .u32 ((qeI p f x).getD 0),.bool (qeI p f x).isSome]∧L=L':=by
 have hn1:=hGl.1
 have hn9:=hA.1
 refine qai (fn:=f111) qaq func111 V Z ntmps111 Z (rs:=[.tmp 4,.tmp 5]) Z [(0,_),(1,_)] Z<|Sr<|qau Z Z ?_
 intro β1 s1 h1
 refine qau Z Z ?_
 intro β2 s2 h2
 refine Zqa Z Z<|At Z Z<|Sr<|qaf (qbn Z) Z<|At Z Z<|Zs<|Sr<|W0 Y5<|Wl 0 Y6<|Nt<|Zp<|Sr<|qax Z Z Z<|At Z Z<|?_
 refine qab Z (fun c3=>?_) (fun c3=>?_)
 ·
  have g2:=c3
  refine Sr<|W0 Y5<|qaf (qan 1 [_,_,_] Z Z Z Z Z) Z<|Wb Y5<|qaf (qan 1 [_,_,_,_] Z Z Z Z Z) Z<|Wb Y5<|Wl 0 Y6<|Jc Z Z Z (qeB D _ _ p Ag Af ng cg nf cf bm (hM.le (h1.t h2)) f B1 B2 B3 m1 d1 m2 d2 m3 d3 (hpx.le (h1.t h2)) (hlx.le (h1.t h2)) x.name) ?_
  rintro _ _ s4 h4 ⟨rfl,rfl⟩
  refine Zqm Z Z<|Zqx Z Z Z<|Zqx Z Z Z<|qae Z [_,_] Z Z ?_
  intro β5 s5 h5
  refine Wt 0 [_,_] Y9<|At Z Z<|Zs<|Zs<|?_
  rcases Classical.em ((qaz p f x.name).1.1=3) with g3 | g3
  ·
   have hk3:∃ k:Nat,(qaz p f x.name).1.2=(k:Int)∧k < p.globals.length:=by
     cases h3:(qaz p f x.name).2 with
     | false=>rw [qe3 h3] at g3;cases g3
     | true=>
       rcases qch h3 with q4 | ⟨_,q4⟩ | ⟨q4,_⟩
       · rw [g3] at q4;rcases q4 with q4 | q4 <;> cases q4
       · exact q4
       · rw [g3] at q4;cases q4
   obtain ⟨gi,hgi,hgl⟩:=hk3
   obtain ⟨b,off,z,Ai,ni,ci,rfl,hz,hcz,hiz,huz,hnz⟩:=Glos.at_ (hGl.le (h1.t h2|>.t h4|>.t h5)) (show gi < ng by omega)
   have hgk:=qd6 hz
   have hgn:=qnd hz
   refine Zr<|W0 Y5<|Wl 0 Y6<|qaf (qaw (v':=.bool false) (qcB Z Z) (bF g3)) Z<|Zqm Z Z<|Zg Z Z<|W0 Y5<|Zg Z Z<|W0 Y5<|Zg Z Z<|W0 Y5<|Zg Z Z<|Wl 2 Y6<|Zg Z Z<|Wb Y5<|Zg Z Z<|Wl 0 Y6<|Zg Z Z<|qaf (qap (j:=gi) Z (show lk _ _=some (.int .i64 (gi:Int)) from by rw [← hgi];rfl) Z Z Z Z (show gi < ng by omega)) Z<|Zg Z Z<|W0 Y5<|Zg Z Z<|qaf (qaj Z Z Z (hcz.le (Lr D)) Z) Z<|Zg Z Z<|qcj Z Z Z<|ZqF Z Z Z<|Nt<|?_
   refine qaK Z (fun c6=>?_) (fun c6=>?_)
   ·
    have hE:qeI p f x=none:=by rw [qeI,if_pos g2,if_neg];rintro ⟨q1,q2⟩;rw [hgi,hgk] at q2;exact c6 q2
    refine Sr<|Zqa Z Z<|At Z Z<|Zo<|Zu<|Zc<|Zu<|?_
    refine rR [_,_,_] L (.tmp Z (.t1 Z)) Z (h1.t h2|>.t h4|>.t h5) fun _ hS2=>?_
    exact ⟨by rw [hE];rfl,rfl⟩
   have hE:qeI p f x=some z.num:=by rw [qeI,if_pos g2,if_pos ⟨g3,by rw [hgi,hgk];exact c6⟩,hgi,hgn]
   refine Zk<|Zt<|Sr<|W0 Y5<|W0 Y5<|W0 Y5<|Wl 2 Y6<|Wb Y5<|Wl 0 Y6<|qaf (qap (j:=gi) Z (show lk _ _=some (.int .i64 (gi:Int)) from by rw [← hgi];rfl) Z Z Z Z (show gi < ng by omega)) Z<|qaf (qbf Z Z Z Z) Z<|qaf (qaC 2 Z Z Z (hcz.le (Lr D)) Z) Z<|Zqa Z Z<|At Z Z<|Zo<|Zc<|Zu<|?_
   refine rR [_,_,_] L (.tmp Z (.t1 Z)) Z (h1.t h2|>.t h4|>.t h5) fun _ hS2=>?_
   exact ⟨by rw [hE];rfl,rfl⟩
  refine Zr<|W0 Y5<|Wl 0 Y6<|qaf (qaw (v':=.bool true) (qcB Z Z) (bN g3)) Z<|Zqm Z Z<|Wf Y4<|Wf Y4<|Wf Y4<|Wf Y4<|Wf Y4<|Wf Y4<|Wf Y4<|Wf Y4<|Wf Y4<|Wf Y4<|ZqT Z Z Z<|Nt<|Zy Z<|?_
  have hE:qeI p f x=none:=by rw [qeI,if_pos g2,if_neg];rintro ⟨q1,q2⟩;exact g3 q1
  refine Sr<|Zqa Z Z<|At Z Z<|Zo<|Zu<|Zc<|Zu<|?_
  refine rR [_,_,_] L (.tmp Z (.t1 Z)) Z (h1.t h2|>.t h4|>.t h5) fun _ hS2=>?_
  exact ⟨by rw [hE];rfl,rfl⟩
 have g2:=c3
 refine Sr<|qax Z Z Z<|At Z Z<|?_
 refine qab Z (fun c7=>?_) (fun c7=>?_)
 ·
  have g6:=c7
  have h0n:0 < n:=by have:=hl6 g6;omega
  obtain ⟨e,b,off,a,A',n',c',hd,rfl,ha,hca,_,hua,_⟩:=Exs.at_ (hA.le (h1.t h2)) h0n
  have hE6:=qxe (p:=p) (f:=f) g2 g6 ha
  refine Zs<|Sr<|Zqm Z Z<|qd1 (first:=[]) (captured:=[_]) Z Z Z (qmM D _ _ _ d _ _ _ _ _ n c 0 x.args (hA.le (h1.t h2)) a ha) ?_
  rintro _ _ s8 h8 ⟨rfl,rfl⟩
  refine qcr Z Z<|Nt<|?_
  refine qaK Z (fun c9=>?_) (fun c9=>?_)
  ·
   have hE:qeI p f x=none:=by rw [hE6,if_neg (fun h=>c9 h.1)]
   refine Sr<|Zqa Z Z<|At Z Z<|Zo<|Zu<|Zc<|Zu<|?_
   refine rR [_,_] L (.tmp Z (.t1 Z)) Z (h1.t h2|>.t h8) fun _ hS2=>?_
   exact ⟨by rw [hE];rfl,rfl⟩
  have g57:=c9
  have hE9:qeI p f x=if (qfk x.op 0).1=0 then some (opP x.op a.num 0) else none:=by
    rw [hE6]
    by_cases h:(qfk x.op 0).1=0
    · rw [if_pos ⟨g57,h⟩,if_pos h]
    · rw [if_neg (fun k=>h k.2),if_neg h]
  refine Zk<|Zt<|Zs<|qay qag 14 Z _ (fun _ h=>h) ?_
  intro s10 h10
  refine za 0 Z (We Y4) Z<|za 1 Z (Wd 0 Y5) Z<|za 2 Z (We Y4) Z<|za 3 Z (Wd 0 Y5) Z<|za 4 Z (qap (j:=0) Z Z Z Z Z Z h0n) Z<|za 5 Z (qbf Z Z Z Z) Z<|za 6 Z (qaC 2 Z Z Z (hca.le (h8.t h10)) Z) Z ?_
  refine qb9 7 11 V ?_ ?_
  ·
   refine Jb Z Tt Z Z Z (qbx D _ _ x.op a.num 0 hua ⟨by decide,by decide⟩) ?_
   rintro _ _ s11 h11 ⟨rfl,rfl⟩
   refine ⟨fun _ _ h=>h,?_⟩
   refine za 8 Z (qar Z) Z<|za 9 Z (qbv Z Z) Z<|za 10 Z (qbv Z Z) Z<|qal 11 V<|qao Z Tt Z [_,_] Z Z ?_
   intro β12 s12 h12
   refine za 12 Z (qaY Z) Z<|qal 13 V<|Wu Z Tt 0 [_,_] Y9 (sM (qb3 (sbE _)))<|qad V<|Zt<|Zs<|qay qag 6 Z _ (fun _ h=>h) ?_
   intro s13 h13
   refine za 0 Z (qar Z) Z<|za 1 Z (qan 0 [_,_] Z Z Z Z Z) Z<|za 2 Z (qam [] [_,_] Z Z Z Z Z Z) Z<|za 3 Z (qf9 Z Z (qbX _ _ _ _)) Z<|za 4 Z (qaY Z) Z<|za 5 Z (qaY Z) Z<|qad V<|Zt<|Zo<|Zc<|Zu<|?_
   refine rR [_,_,_] L (.tmp Z (.t1 Z)) Z (h1.t h2|>.t h8|>.t h10|>.t h11|>.t h12|>.t h13) fun _ hS2=>?_
   exact ⟨by rw [hE9];exact qnV qgB,rfl⟩
  refine qao Z Tt Z [_,_] Z Z ?_
  intro β14 s14 h14
  refine qal 7 V<|Jb Z Tt Z Z Z (qbx D _ _ x.op a.num 0 hua ⟨by decide,by decide⟩) ?_
  rintro _ _ s15 h15 ⟨rfl,rfl⟩
  refine ⟨fun _ _ h=>h,?_⟩
  refine za 8 Z (qar Z) Z<|za 9 Z (qbv Z Z) Z<|za 10 Z (qbv Z Z) Z<|za 12 Z (qaY Z) Z<|qal 13 V<|Wu Z Tt 0 [_,_] Y9 (sM (qb3 (sbE _)))<|qad V<|Zt<|Zs<|qay qag 6 Z _ (fun _ h=>h) ?_
  intro s16 h16
  refine za 0 Z (qar Z) Z<|za 1 Z (qan 0 [_,_] Z Z Z Z Z) Z<|za 2 Z (qam [] [_,_] Z Z Z Z Z Z) Z<|za 3 Z (qf9 Z Z (qbX _ _ _ _)) Z<|za 4 Z (qaY Z) Z<|za 5 Z (qaY Z) Z<|qad V<|Zt<|Zo<|Zc<|Zu<|?_
  refine rR [_,_,_] L (.tmp Z (.t1 Z)) Z (h1.t h2|>.t h8|>.t h10|>.t h14|>.t h15|>.t h16) fun _ hS2=>?_
  exact ⟨by rw [hE9];exact qnV qgB,rfl⟩
 have g6:=c7
 refine Sr<|qax Z Z Z<|At Z Z<|?_
 refine qab Z (fun c17=>?_) (fun c17=>?_)
 ·
  have g7:=c17
  have h0n:0 < n:=by have:=hl7 g7;omega
  have h1n:1 < n:=by have:=hl7 g7;omega
  obtain ⟨e,b0,off,a,A',n',c',hd,rfl,ha,hca,_,hua,_⟩:=Exs.at_ (hA.le (h1.t h2)) h0n
  obtain ⟨e2,b02,off2,b,A2',n2',c2',hd2,hA2,hb,hcb,_,hub,_⟩:=Exs.at_ (hA.le (h1.t h2)) h1n
  injection hA2 with hA2
  injection hA2 with hA3 hA4
  subst hA3;subst hA4
  have hE7:=qwJ (p:=p) (f:=f) g2 g6 g7 ha hb
  refine Zs<|Sr<|Zqm Z Z<|qd1 (first:=[]) (captured:=[_]) Z Z Z (qmM D _ _ _ d _ _ _ _ _ n c 0 x.args (hA.le (h1.t h2)) a ha) ?_
  rintro _ _ s18 h18 ⟨rfl,rfl⟩
  refine qcr Z Z<|Nt<|?_
  refine qaK Z (fun c19=>?_) (fun c19=>?_)
  ·
   have hE:qeI p f x=none:=by rw [hE7,if_neg c19]
   refine Sr<|Zqa Z Z<|At Z Z<|Zo<|Zu<|Zc<|Zu<|?_
   refine rR [_,_] L (.tmp Z (.t1 Z)) Z (h1.t h2|>.t h18) fun _ hS2=>?_
   exact ⟨by rw [hE];rfl,rfl⟩
  rw [if_pos c19] at hE7
  refine Zk<|Zt<|Sr<|Wb Y5<|Wl 0 Y6<|qaf (qap (j:=0) Z Z Z Z Z Z h0n) Z<|qaf (qbf Z Z Z Z) Z<|qaf (qaC 2 Z Z Z (hca.le h18) Z) Z<|At Z Z<|Zp<|Sr<|Zqm Z Z<|qd1 (first:=[]) (captured:=[_]) Z Z Z (qmM D _ _ _ d _ _ _ _ _ n c 1 x.args (hA.le (h1.t h2|>.t h18)) b hb) ?_
  rintro _ _ s20 h20 ⟨rfl,rfl⟩
  refine At Z Z<|?_
  refine qab Z (fun c21=>?_) (fun c21=>?_)
  ·
   have hE9:qeI p f x=if (qfk x.op b.num).1=0 then some (opP x.op a.num b.num) else none:=by rw [hE7,if_pos c21]
   refine Zs<|qay qag 15 Z _ (fun _ h=>h) ?_
   intro s22 h22
   refine za 0 Z (We Y4) Z<|za 1 Z (Wd 0 Y5) Z<|za 2 Z (qar Z) Z<|za 3 Z (We Y4) Z<|za 4 Z (Wd 0 Y5) Z<|za 5 Z (qap (j:=1) Z Z Z Z Z Z h1n) Z<|za 6 Z (qbf Z Z Z Z) Z<|za 7 Z (qaC 2 Z Z Z (hcb.le (h18.t h20|>.t h22)) Z) Z ?_
   refine qb9 8 12 V ?_ ?_
   ·
    refine Jb Z Tt Z Z Z (qbx D _ _ x.op a.num b.num hua hub) ?_
    rintro _ _ s23 h23 ⟨rfl,rfl⟩
    refine ⟨fun _ _ h=>h,?_⟩
    refine za 9 Z (qar Z) Z<|za 10 Z (qbv Z Z) Z<|za 11 Z (qbv Z Z) Z<|qal 12 V<|qao Z Tt Z [_,_] Z Z ?_
    intro β24 s24 h24
    refine za 13 Z (qaY Z) Z<|qal 14 V<|Wu Z Tt 0 [_,_] Y9 (sM (qb3 (sbE _)))<|qad V<|Zt<|Zs<|qay qag 6 Z _ (fun _ h=>h) ?_
    intro s25 h25
    refine za 0 Z (qar Z) Z<|za 1 Z (qan 0 [_,_] Z Z Z Z Z) Z<|za 2 Z (qam [] [_,_] Z Z Z Z Z Z) Z<|za 3 Z (qf9 Z Z (qbX _ _ _ _)) Z<|za 4 Z (qaY Z) Z<|za 5 Z (qaY Z) Z<|qad V<|Zt<|Zo<|Zc<|Zc<|Zu<|?_
    refine rR [_,_,_] L (.tmp Z (.t1 Z)) Z (h1.t h2|>.t h18|>.t h20|>.t h22|>.t h23|>.t h24|>.t h25) fun _ hS2=>?_
    exact ⟨by rw [hE9];exact qnV qgB,rfl⟩
   refine qao Z Tt Z [_,_] Z Z ?_
   intro β26 s26 h26
   refine qal 8 V<|Jb Z Tt Z Z Z (qbx D _ _ x.op a.num b.num hua hub) ?_
   rintro _ _ s27 h27 ⟨rfl,rfl⟩
   refine ⟨fun _ _ h=>h,?_⟩
   refine za 9 Z (qar Z) Z<|za 10 Z (qbv Z Z) Z<|za 11 Z (qbv Z Z) Z<|za 13 Z (qaY Z) Z<|qal 14 V<|Wu Z Tt 0 [_,_] Y9 (sM (qb3 (sbE _)))<|qad V<|Zt<|Zs<|qay qag 6 Z _ (fun _ h=>h) ?_
   intro s28 h28
   refine za 0 Z (qar Z) Z<|za 1 Z (qan 0 [_,_] Z Z Z Z Z) Z<|za 2 Z (qam [] [_,_] Z Z Z Z Z Z) Z<|za 3 Z (qf9 Z Z (qbX _ _ _ _)) Z<|za 4 Z (qaY Z) Z<|za 5 Z (qaY Z) Z<|qad V<|Zt<|Zo<|Zc<|Zc<|Zu<|?_
   refine rR [_,_,_] L (.tmp Z (.t1 Z)) Z (h1.t h2|>.t h18|>.t h20|>.t h22|>.t h26|>.t h27|>.t h28) fun _ hS2=>?_
   exact ⟨by rw [hE9];exact qnV qgB,rfl⟩
  rw [if_neg c21] at hE7
  refine qaR 102 (x.op=20∧a.num=0) ?_ ?_
  ·
   refine Zr<|Wb Y5<|Wl 0 Y6<|qax Z Z Z<|Zqm Z Z<|?_
   refine qak (t:=106) Z (fun c30=>?_) (fun c30=>?_)
   ·
    refine Zg Z Z<|Zqm Z Z<|Zg Z Z<|qax Z Z Z<|ZqT Z Z Z<|Zqa Z Z<|Zn<|?_
    refine qaa (MidB.mk (Lr D) Sb Z (decide_eq_decide.2 O))
   refine Wf Y4<|Wf Y4<|ZqF Z Z Z<|Zqa Z Z<|Zn<|?_
   refine qaa (MidB.mk (Lr D) Sb Z ((decide_eq_false O).symm))
  intro s29 h29
  refine qab Z (fun c31=>?_) (fun c31=>?_)
  ·
   have hE:qeI p f x=some 0:=by rw [hE7,if_pos c31]
   refine Sr<|Zqa Z Z<|At Z Z<|Zo<|Zc<|Zc<|Zu<|?_
   refine rR [_,_] L (.tmp Z (.t1 Z)) Z (h1.t h2|>.t h18|>.t h20|>.t h29) fun _ hS2=>?_
   exact ⟨by rw [hE];rfl,rfl⟩
  rw [if_neg c31] at hE7
  refine qaR 110 (x.op=21∧a.num≠0) ?_ ?_
  ·
   refine Zr<|Wb Y5<|Wl 0 Y6<|qax Z Z Z<|Zqm Z Z<|?_
   refine qak (t:=114) Z (fun c33=>?_) (fun c33=>?_)
   ·
    refine Zg Z Z<|Zqm Z Z<|Zg Z Z<|qcj Z Z Z<|ZqT Z Z Z<|Zqa Z Z<|Zn<|?_
    refine qaa (MidB.mk (Lr D) Sb Z (qbq O))
   refine Wf Y4<|Wf Y4<|ZqF Z Z Z<|Zqa Z Z<|Zn<|?_
   refine qaa (MidB.mk (Lr D) Sb Z ((decide_eq_false O).symm))
  intro s32 h32
  refine qab Z (fun c34=>?_) (fun c34=>?_)
  ·
   have hE:qeI p f x=some 1:=by rw [hE7,if_pos c34]
   refine Sr<|Zqa Z Z<|At Z Z<|Zo<|Zc<|Zc<|Zu<|?_
   refine rR [_,_] L (.tmp Z (.t1 Z)) Z (h1.t h2|>.t h18|>.t h20|>.t h29|>.t h32) fun _ hS2=>?_
   exact ⟨by rw [hE];rfl,rfl⟩
  have hE:qeI p f x=none:=by rw [hE7,if_neg c34]
  refine Zk<|Zb<|Zb<|Zt<|Sr<|Zqa Z Z<|At Z Z<|Zo<|?_
  refine rR [_,_] L (.tmp Z (.t1 Z)) Z (h1.t h2|>.t h18|>.t h20|>.t h29|>.t h32) fun _ hS2=>?_
  exact ⟨by rw [hE];rfl,rfl⟩
 have hE:qeI p f x=none:=by rw [qeI,if_neg g2,if_neg g6,if_neg c17]
 refine Zk<|Zb<|Zt<|Sr<|Zqa Z Z<|At Z Z<|Zo<|?_
 refine rR [_,_] L (.tmp Z (.t1 Z)) Z (h1.t h2) fun _ hS2=>?_
 exact ⟨by rw [hE];rfl,rfl⟩
end Go.Proofs.YtpdnijphccdiiaaGreatDoor
