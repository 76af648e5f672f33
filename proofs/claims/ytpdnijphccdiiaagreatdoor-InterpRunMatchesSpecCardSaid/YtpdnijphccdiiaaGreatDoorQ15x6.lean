/- Part 6. -/
import Derived.Test.YtpdnijphccdiiaaGreatDoorQ15x5
import Derived.Recover
import Derived.ControlIn
set_option linter.unusedVariables false
set_option linter.unusedSimpArgs false
set_option linter.unnecessarySimpa false
set_option maxRecDepth 100000
set_option maxHeartbeats 8000000
namespace Go.Proofs.YtpdnijphccdiiaaGreatDoor
open Go.Proofs.Tryz
open Go.FL
attribute [local irreducible] JC JO JA JB qaJ qaw qbM AC fill CellsAt QE Ev Mid
theorem qnd(D:Nat)(L:Hl)(s:World)(A:Option Addr)(n c:Nat)(l:List Glo)(hA:Glos s A n c l)(fi:FuncId)(cap:List Value)(q:Glo→Bool)(hp:∀ s' g (A9:Option Addr) (n9 c9:Nat),Le D s s'→AC prog D fi ([.agg #[.int .i64 g.kind,St g.name,.int .u32 g.num,.slice A9 n9 c9]]++cap) L s' fun v L' _=>v=.bool (q g)∧L=L'):AC prog D 127 [.slice A n c,.func (.func fi) #[] cap.toArray] L s fun v L' _=>v=.int .i64 (qbb q l 0)∧L=L':=by
 have hn:=hA.1
 have hc1:=hA.2.1
 have hc2:=hA.2.2.1
 refine qai (fn:=f127) qao func127 V Z ntmps127 Z (rs:=[.tmp 4]) Z [(0,_),(1,_)] Z<|Sr<|At Z Z<|Zs<|Sr<|Zqm Z Z<|Ws Y4<|Zqm Z Z<|Nt<|Zp<|?_
 refine qav (γ:=Nat) (fun k=>[(0,_),(1,_),(4,_),(7,_),(8,.int .i64 (k:Int))]) (fun _=>_) (fun k tw=>Le D s tw∧(k≤n∧∀ i x,i < k→l[i]?=some x→q x=false)) (fun k=>n - k) (fun _ _ _ h hl=>⟨h.1.trans hl,h.2⟩) 0 (.c5 Z Z Z Z Z (.nil _)) Z ⟨Le.refl _,⟨Nat.zero_le _,fun i x hi=>by omega⟩⟩ ?_
 intro k s1 I1
 have hk0:=I1.2.1
 have hI:=I1.2.2
 refine Sr<|qbh Z Z Z<|Nt<|Zs<|?_
 refine qaa Z (fun c2=>?_) (fun c2=>?_)
 ·
  have hk:k < n:=by omega
  obtain ⟨b,off,x,A',n',c',rfl,hx,hcx,_⟩:=Glos.at_ (hA.le I1.1) hk
  refine Zk<|Zt<|Zs<|Zp<|Sr<|Zqm Z Z<|At Z Z<|Sr<|Zqm Z Z<|Zqm Z Z<|Zqm Z Z<|qac (qap Z Z Z Z Z Z hk) Z<|qac (qau Z Z Z hcx Z) Z<|qh6 (first:=[]) (captured:=cap) Z Z Z (hp _ x A' n' c' I1.1) ?_
  rintro _ _ s3 h3 ⟨rfl,rfl⟩
  refine Nt<|?_
  refine qcf Z (fun c4=>?_) (fun c4=>?_)
  ·
   have hz:=c4
   refine Sr<|Zqm Z Z<|At Z Z<|Zo<|Zc<|Zu<|Zu<|Zc<|Zu<|?_
   refine rR [] L (.t1 Z) Z (I1.1.t h3) fun _ hS2=>?_
   refine ⟨?_,Z⟩
   first
     | (simp only [qat];rw [qca hI hx hz,Nat.zero_add])
     | (simp only [qat];rw [qcj (fun i a hi h=>hI i a O h)])
  have hz:=c4
  refine Zk<|Zb<|Zt<|Zr<|qaF Z Z Z (w64 O O)<|Zqm Z Z<|Zn<|?_
  refine qab ⟨(k+1),[],kp,Z,⟨(I1.1.t h3),⟨by omega,qbc hI hx hz⟩⟩,O⟩
 refine Zl<|Zv<|Zv<|Zd<|Zt<|Sr<|At Z Z<|Zo<|?_
 refine rR [] L (.t1 Z) Z I1.1 fun _ hS2=>?_
 refine ⟨?_,Z⟩
 first
   | (simp only [qat];rw [qca hI hx hz,Nat.zero_add])
   | (simp only [qat];rw [qcj (fun i a hi h=>hI i a O h)])
theorem qoy(D:Nat)(L:Hl)(s:World)(d:Nat)(A:Option Addr)(n c:Nat)(l:List Fnc)(hA:Fncs d s A n c l)(fi:FuncId)(cap:List Value)(q:Fnc→Bool)(hp:∀ s' g (A7:Option Addr) (n7 c7:Nat) (A8:Option Addr) (n8 c8:Nat) (A9:Option Addr) (n9 c9:Nat),Le D s s'→AC prog D fi ([.agg #[St g.name,.slice A7 n7 c7,.slice A8 n8 c8,.slice A9 n9 c9]]++cap) L s' fun v L' _=>v=.bool (q g)∧L=L'):AC prog D 168 [.slice A n c,.func (.func fi) #[] cap.toArray] L s fun v L' _=>v=.int .i64 (qbb q l 0)∧L=L':=by
 have hn:=hA.1
 have hc1:=hA.2.1
 have hc2:=hA.2.2.1
 refine qai (fn:=f168) qao func168 V Z ntmps168 Z (rs:=[.tmp 4]) Z [(0,_),(1,_)] Z<|Sr<|At Z Z<|Zs<|Sr<|Zqm Z Z<|Ws Y4<|Zqm Z Z<|Nt<|Zp<|?_
 refine qav (γ:=Nat) (fun k=>[(0,_),(1,_),(4,_),(7,_),(8,.int .i64 (k:Int))]) (fun _=>_) (fun k tw=>Le D s tw∧(k≤n∧∀ i x,i < k→l[i]?=some x→q x=false)) (fun k=>n - k) (fun _ _ _ h hl=>⟨h.1.trans hl,h.2⟩) 0 (.c5 Z Z Z Z Z (.nil _)) Z ⟨Le.refl _,⟨Nat.zero_le _,fun i x hi=>by omega⟩⟩ ?_
 intro k s1 I1
 have hk0:=I1.2.1
 have hI:=I1.2.2
 refine Sr<|qbh Z Z Z<|Nt<|Zs<|?_
 refine qaa Z (fun c2=>?_) (fun c2=>?_)
 ·
  have hk:k < n:=by omega
  obtain ⟨b,off,x,B1,m1,e1,B2,m2,e2,B3,m3,e3,rfl,hx,hcx,_⟩:=Fncs.at_ (hA.le I1.1) hk
  refine Zk<|Zt<|Zs<|Zp<|Sr<|Zqm Z Z<|At Z Z<|Sr<|Zqm Z Z<|Zqm Z Z<|Zqm Z Z<|qac (qap Z Z Z Z Z Z hk) Z<|qac (qau Z Z Z hcx Z) Z<|qh6 (first:=[]) (captured:=cap) Z Z Z (hp _ x B1 m1 e1 B2 m2 e2 B3 m3 e3 I1.1) ?_
  rintro _ _ s3 h3 ⟨rfl,rfl⟩
  refine Nt<|?_
  refine qcf Z (fun c4=>?_) (fun c4=>?_)
  ·
   have hz:=c4
   refine Sr<|Zqm Z Z<|At Z Z<|Zo<|Zc<|Zu<|Zu<|Zc<|Zu<|?_
   refine rR [] L (.t1 Z) Z (I1.1.t h3) fun _ hS2=>?_
   refine ⟨?_,Z⟩
   first
     | (simp only [qat];rw [qca hI hx hz,Nat.zero_add])
     | (simp only [qat];rw [qcj (fun i a hi h=>hI i a O h)])
  have hz:=c4
  refine Zk<|Zb<|Zt<|Zr<|qaF Z Z Z (w64 O O)<|Zqm Z Z<|Zn<|?_
  refine qab ⟨(k+1),[],kp,Z,⟨(I1.1.t h3),⟨by omega,qbc hI hx hz⟩⟩,O⟩
 refine Zl<|Zv<|Zv<|Zd<|Zt<|Sr<|At Z Z<|Zo<|?_
 refine rR [] L (.t1 Z) Z I1.1 fun _ hS2=>?_
 refine ⟨?_,Z⟩
 first
   | (simp only [qat];rw [qca hI hx hz,Nat.zero_add])
   | (simp only [qat];rw [qcj (fun i a hi h=>hI i a O h)])
theorem qq2(D:Nat)(L:Hl)(s:World)(g:Glo)(A9:Option Addr)(n9 c9:Nat)(b:Nat)(nm:Str)(hc:CellsAt s b 0 [St nm]):AC prog D 128 [.agg #[.int .i64 g.kind,St g.name,.int .u32 g.num,.slice A9 n9 c9],.pointer (some ⟨b,0,none⟩)] L s fun v L' _=>v=.bool (decide (g.name=nm))∧L=L':=by
 refine qai (fn:=f128) qao func128 V Z ntmps128 Z (rs:=[.tmp 3]) Z [(0,_),(1,_)] Z<|Sr<|qaq Z Z ?_
 intro β1 s1 h1
 refine At Z Z<|Sr<|Wb Y5<|Wl 0 Y6<|qac (qah Z Z Z (hc.le h1) Z) Z<|qka Z Z Z<|At Z Z<|Zo<|?_
 refine rR [_] L (.t1 Z) Z h1 fun _ hS2=>?_
 exact ⟨rfl,rfl⟩
theorem qsc(D:Nat)(L:Hl)(s:World)(g:Fnc)(A7:Option Addr)(n7 c7:Nat)(A8:Option Addr)(n8 c8:Nat)(A9:Option Addr)(n9 c9:Nat)(b:Nat)(nm:Str)(hc:CellsAt s b 0 [St nm]):AC prog D 169 [.agg #[St g.name,.slice A7 n7 c7,.slice A8 n8 c8,.slice A9 n9 c9],.pointer (some ⟨b,0,none⟩)] L s fun v L' _=>v=.bool (decide (g.name=nm))∧L=L':=by
 refine qai (fn:=f169) qao func169 V Z ntmps169 Z (rs:=[.tmp 3]) Z [(0,_),(1,_)] Z<|Sr<|qaq Z Z ?_
 intro β1 s1 h1
 refine At Z Z<|Sr<|W0 Y5<|Wl 0 Y6<|qac (qah Z Z Z (hc.le h1) Z) Z<|qka Z Z Z<|At Z Z<|Zo<|?_
 refine rR [_] L (.t1 Z) Z h1 fun _ hS2=>?_
 exact ⟨rfl,rfl⟩
theorem qej(D:Nat)(L:Hl)(s:World)(d0:Nat)(p:Prg)(Ag Af:Option Addr)(ng cg nf cf:Nat)(hGl:Glos s Ag ng cg p.globals)(hFn:Fncs d0 s Af nf cf p.funcs)(f:Fnc)(P1 P2 P3:Option Addr)(p1 r1 p2 r2 p3 r3:Nat)(hP1:Strs s P1 p1 r1 f.params)(hP2:Strs s P2 p2 r2 f.locals)(nm:Str):AC prog D 85 [.agg #[.slice Ag ng cg,.slice Af nf cf,St f.name,.slice P1 p1 r1,.slice P2 p2 r2,.slice P3 p3 r3],St nm] L s fun v L' _=>v=.int .i64 (qdi p nm)∧L=L':=by
 refine qai (fn:=f85) qao func85 V Z ntmps85 Z (rs:=[.tmp 4]) Z [(0,_),(1,_)] Z<|Sr<|qaq Z Z ?_
 intro β1 s1 h1
 refine qe4 Z Z Z ?_
 intro β2 s2 h2
 refine At Z Z<|Zs<|qbC [] [_] _ ?_
 intro s3 h3 hpub3
 simp only [cQ9,nQ9]
 have hc3:=hpub3 _ _ _ (List.mem_singleton.2 rfl)
 
 refine Zr<|W0 Y5<|W0 Y5<|Wl 0 Y6<|qac (qbu Z) Z<|Jc Z Z Z (qnd D _ _ Ag ng cg p.globals (hGl.le (h1.t h2|>.t h3)) _ _ (fun g=>decide (g.name=nm)) (fun s9 g A9 n9 c9 q9=>qq2 D _ s9 g A9 n9 c9 _ nm ((hc3.le (Lr D)).le q9))) ?_
 rintro _ _ s4 h4 ⟨rfl,rfl⟩
 refine At Z Z<|Zo<|?_
 refine rR [_] L (.t1 Z) Z (h1.t h2|>.t h3|>.t h4) fun _ hS2=>?_
 exact ⟨rfl,rfl⟩
theorem qkQ(D:Nat)(L:Hl)(s:World)(d0:Nat)(p:Prg)(Ag Af:Option Addr)(ng cg nf cf:Nat)(hGl:Glos s Ag ng cg p.globals)(hFn:Fncs d0 s Af nf cf p.funcs)(f:Fnc)(P1 P2 P3:Option Addr)(p1 r1 p2 r2 p3 r3:Nat)(hP1:Strs s P1 p1 r1 f.params)(hP2:Strs s P2 p2 r2 f.locals)(nm:Str):AC prog D 129 [.agg #[.slice Ag ng cg,.slice Af nf cf,St f.name,.slice P1 p1 r1,.slice P2 p2 r2,.slice P3 p3 r3],St nm] L s fun v L' _=>v=.int .i64 (qhx p nm)∧L=L':=by
 refine qai (fn:=f129) qao func129 V Z ntmps129 Z (rs:=[.tmp 4]) Z [(0,_),(1,_)] Z<|Sr<|qaq Z Z ?_
 intro β1 s1 h1
 refine qe4 Z Z Z ?_
 intro β2 s2 h2
 refine At Z Z<|Zs<|qbC [] [_] _ ?_
 intro s3 h3 hpub3
 simp only [cQ9,nQ9]
 have hc3:=hpub3 _ _ _ (List.mem_singleton.2 rfl)
 
 refine Zr<|W0 Y5<|Wb Y5<|Wl 0 Y6<|qac (qbu Z) Z<|Jc Z Z Z (qoy D _ _ d0 Af nf cf p.funcs (hFn.le (h1.t h2|>.t h3)) _ _ (fun g=>decide (g.name=nm)) (fun s9 g A7 n7 c7 A8 n8 c8 A9 n9 c9 q9=>qsc D _ s9 g A7 n7 c7 A8 n8 c8 A9 n9 c9 _ nm ((hc3.le (Lr D)).le q9))) ?_
 rintro _ _ s4 h4 ⟨rfl,rfl⟩
 refine At Z Z<|Zo<|?_
 refine rR [_] L (.t1 Z) Z (h1.t h2|>.t h3|>.t h4) fun _ hS2=>?_
 exact ⟨rfl,rfl⟩
theorem qi6(D:Nat)(L:Hl)(s:World)(d0:Nat)(p:Prg)(Ag Af:Option Addr)(ng cg nf cf:Nat)(hGl:Glos s Ag ng cg p.globals)(hFn:Fncs d0 s Af nf cf p.funcs)(f:Fnc)(P1 P2 P3:Option Addr)(p1 r1 p2 r2 p3 r3:Nat)(hP1:Strs s P1 p1 r1 f.params)(hP2:Strs s P2 p2 r2 f.locals)(hsz:f.params.length+f.locals.length≤100)(nm:Str):AC prog D 124 [.agg #[.slice Ag ng cg,.slice Af nf cf,St f.name,.slice P1 p1 r1,.slice P2 p2 r2,.slice P3 p3 r3],St nm] L s fun v L' _=>v=.int .i64 (qa4 f nm)∧L=L':=by
 have hn1:=hP1.1
 have hn2:=hP2.1
 have hb1:=hP1.2.1
 have hb2:=hP1.2.2.1
 have hb3:=hP2.2.1
 have hb4:=hP2.2.2.1
 have hi1:=qdv (p:=fun x=>decide (@Eq (List UInt8) nm x)) (l:=f.params) (k:=0)
 have hi2:=qdv (p:=fun x=>decide (@Eq (List UInt8) nm x)) (l:=f.locals) (k:=0)
 
 refine qai (fn:=f124) qao func124 V Z ntmps124 Z (rs:=[.tmp 4]) Z [(0,_),(1,_)] Z<|Sr<|qaq Z Z ?_
 intro β1 s1 h1
 refine At Z Z<|Zs<|Sr<|Wb Y5<|qac (qbs Z Z Z Z) Z<|Wl 0 Y6<|Zqm Z Z<|Jc Z Z Z (qf0 D _ _ P1 p1 r1 f.params (hP1.le h1) nm) ?_
 rintro _ _ s2 h2 ⟨rfl,rfl⟩
 refine At Z Z<|Sr<|Zqm Z Z<|qfa Z Z Z<|Nt<|?_
 refine qaa Z (fun c3=>?_) (fun c3=>?_)
 ·
  have hE:qa4 f nm=_:=if_pos c3
  refine Sr<|Zqm Z Z<|At Z Z<|Zo<|Zu<|?_
  refine rR [_] L (.t1 Z) Z (h1.t h2) fun _ hS2=>?_
  exact ⟨by rw [hE];first | rfl | (simp only [qat];rw [hn1]),rfl⟩
 have g13:=c3
 refine Zk<|Zt<|Zs<|Sr<|Wb Y5<|qac (qbs Z Z Z Z) Z<|Wl 0 Y6<|Zqm Z Z<|Jc Z Z Z (qf0 D _ _ P2 p2 r2 f.locals (hP2.le (h1.t h2)) nm) ?_
 rintro _ _ s4 h4 ⟨rfl,rfl⟩
 refine At Z Z<|Sr<|Zqm Z Z<|qfa Z Z Z<|Nt<|?_
 refine qaa Z (fun c5=>?_) (fun c5=>?_)
 ·
  have hE:qa4 f nm=_:=(if_neg g13).trans (if_pos c5)
  refine Sr<|Wb Y5<|qac (qbs Z Z Z Z) Z<|Wl 0 Y6<|Ws Y4<|Zqm Z Z<|qaF Z Z Z (w64 O O)<|At Z Z<|Zo<|Zu<|?_
  refine rR [_] L (.t1 Z) Z (h1.t h2|>.t h4) fun _ hS2=>?_
  exact ⟨by rw [hE];first | rfl | (simp only [qat];rw [hn1]),rfl⟩
 have hE:qa4 f nm=_:=(if_neg g13).trans (if_neg c5)
 refine Zk<|Zt<|Sr<|At Z Z<|Zo<|?_
 refine rR [_] L (.t1 Z) Z (h1.t h2|>.t h4) fun _ hS2=>?_
 exact ⟨by rw [hE];first | rfl | (simp only [qat];rw [hn1]),rfl⟩
theorem qim(f:Fnc)(nm:Str):qa4 f nm < ((f.params.length+f.locals.length:Nat):Int):=by
 have hi1:=qdv (p:=fun y=>decide (nm=y)) (l:=f.params) (k:=0)
 have hi2:=qdv (p:=fun y=>decide (nm=y)) (l:=f.locals) (k:=0)
 unfold qa4
 repeat' split
 all_goals omega
def XOK(p:Prg)(f:Fnc)(x:Ex):Prop:=exV x=true∧∃ lp,∀ nd∈ndX x lp,ndC p f nd=0
def StOK(p:Prg)(f:Fnc)(x:Stm):Prop:=(∃ lv,stV x lv=true)∧∃ lp,∀ nd∈ndS x lp,ndC p f nd=0
structure POK(p:Prg):Prop where
 nd:((ents p).map (·.1)).Nodup
 gk:∀ g∈p.globals,1≤g.kind∧g.kind≤3
section
variable{p:Prg}{f:Fnc}
theorem XOK.args{x:Ex}(h:XOK p f x):∀ y∈x.args,XOK p f y:=fun y hy=>by
 obtain ⟨hv,lp,hn⟩:=h
 obtain ⟨k,o,u,nm,ar⟩:=x
 obtain ⟨j,hj⟩:=List.getElem?_of_mem hy
 exact ⟨(qbW (qdx hv).2 hj).1,lp,fun nd hd=>hn nd (by rw [ndX];exact List.mem_cons_of_mem _ (qg3 hy hd))⟩
theorem XOK.use{x:Ex}(h:XOK p f x):qeg p f (qdk x)=0:=by
 obtain ⟨_,lp,hn⟩:=h
 obtain ⟨k,o,u,nm,ar⟩:=x
 exact hn (.ex (.mk k o u nm ar) lp) (by rw [ndX];exact List.mem_cons_self ..)
theorem StOK.exprs{x:Stm}(h:StOK p f x):∀ y∈x.exprs,XOK p f y:=fun y hy=>by
 obtain ⟨⟨lv,hv⟩,lp,hn⟩:=h
 obtain ⟨k,nm,es,b,e⟩:=x
 obtain ⟨j,hj⟩:=List.getElem?_of_mem hy
 exact ⟨(qbW (qcI hv).2.2.1 hj).1,lp,fun nd hd=>hn nd (by rw [ndS];exact List.mem_cons_of_mem _ (List.mem_append_left _ (qg3 hy hd)))⟩
theorem StOK.body{x:Stm}(h:StOK p f x):∀ y∈x.body,StOK p f y:=fun y hy=>by
 obtain ⟨⟨lv,hv⟩,lp,hn⟩:=h
 obtain ⟨k,nm,es,b,e⟩:=x
 obtain ⟨j,hj⟩:=List.getElem?_of_mem hy
 exact ⟨⟨_,(qdy (qcI hv).2.2.2.1 hj).1⟩,_,fun nd hd=>hn nd (by rw [ndS];exact List.mem_cons_of_mem _ (List.mem_append_right _ (List.mem_append_left _ (qfj hy hd))))⟩
theorem StOK.els{x:Stm}(h:StOK p f x):∀ y∈x.els,StOK p f y:=fun y hy=>by
 obtain ⟨⟨lv,hv⟩,lp,hn⟩:=h
 obtain ⟨k,nm,es,b,e⟩:=x
 obtain ⟨j,hj⟩:=List.getElem?_of_mem hy
 exact ⟨⟨_,(qdy (qcI hv).2.2.2.2 hj).1⟩,_,fun nd hd=>hn nd (by rw [ndS];exact List.mem_cons_of_mem _ (List.mem_append_right _ (List.mem_append_right _ (qfj hy hd))))⟩
theorem StOK.use{x:Stm}(h:StOK p f x):qeg p f (qdd x)=0:=by
 obtain ⟨_,lp,hn⟩:=h
 obtain ⟨k,nm,es,b,e⟩:=x
 exact (qoM (hn (.st (.mk k nm es b e) lp) (by rw [ndS];exact List.mem_cons_self ..))).1
theorem qgv(hP:POK p){u:Use}(h:qeg p f u=0)(hu:u.2.1≠0):(0≤qa4 f u.1∧(u.2.1=1∨u.2.1=2))∨(¬ 0≤qa4 f u.1∧∃ (k:Nat) (g:Glo),qdi p u.1=(k:Int)∧p.globals[k]?=some g∧((g.kind=1∧u.2.1=2)∨(g.kind=2∧(u.2.1=1∨u.2.1=2))∨(g.kind=3∧u.2.1=3)))∨∃ (k:Nat) (fk:Fnc),qhx p u.1=(k:Int)∧p.funcs[k]?=some fk∧u.2.1=4∧u.2.2=(fk.params.length:Int):=by
  obtain ⟨a1,a2,a3⟩:=qhB h hu
  rcases qdh a1 with k1 | ⟨k1,k,k2,k3⟩ | ⟨k1,k,k2,k3⟩
  · exact .inl ⟨qg1 k1,by unfold qcb at a2;omega⟩
  · have e:=qfi k1 k2
    obtain ⟨g,hg⟩:∃ g,p.globals[k]?=some g:=⟨_,List.getElem?_eq_getElem k3⟩
    have hk:=hP.gk g (List.mem_of_getElem? hg)
    rw [e] at a2
    have e1:=qeL hg
    refine .inr (.inl ⟨qjk e (.inl Z),k,g,(qlt hP.nd e).1,hg,?_⟩)
    unfold qcb at a2
    simp only at a2
    omega
  · have e:=qfi k1 k2
    obtain ⟨g,hg⟩:∃ g,p.funcs[k]?=some g:=⟨_,List.getElem?_eq_getElem k3⟩
    rw [e] at a2 a3
    have e1:=qfR (p:=p) (i:=(k:Int)) rfl hg
    refine .inr (.inr ⟨k,g,(qk9 hP.nd e).1,hg,?_⟩)
    unfold qcb at a2
    simp only at a2 a3
    rw [e1] at a3
    omega
theorem mn2(hP:POK p){x:Ex}(h:XOK p f x)(hk:x.kind=2):0≤qa4 f x.name∨(¬ 0≤qa4 f x.name∧∃ (k:Nat) (g:Glo),qdi p x.name=(k:Int)∧p.globals[k]?=some g):=by
 have hu:qdk x=(x.name,2,0):=by rw [qdk,if_pos hk]
 have:=h.use;rw [hu] at this
 rcases qgv hP this (show (2:Int)≠0 by decide) with ⟨a,_⟩ | ⟨a,k,g,b,c,_⟩ | ⟨_,_,_,_,c,_⟩
 · exact .inl a
 · exact .inr ⟨a,k,g,b,c⟩
 · cases c
theorem mn3(hP:POK p){x:Ex}(h:XOK p f x)(hk:x.kind=3):∃ (k:Nat) (g:Glo),qdi p x.name=(k:Int)∧p.globals[k]?=some g∧g.kind=3:=by
 have hu:qdk x=(x.name,3,0):=by rw [qdk,if_neg O,if_pos hk]
 have:=h.use;rw [hu] at this
 rcases qgv hP this (show (3:Int)≠0 by decide) with ⟨_,a⟩ | ⟨a,k,g,b,c,d⟩ | ⟨_,_,_,_,c,_⟩
 · rcases a with a | a <;> cases a
 · exact ⟨k,g,b,c,by simp only at d;omega⟩
 · cases c
theorem mn4(hP:POK p){x:Ex}(h:XOK p f x)(hk:x.kind=4):∃ (k:Nat) (fk:Fnc),qhx p x.name=(k:Int)∧p.funcs[k]?=some fk∧x.args.length=fk.params.length:=by
 have hu:qdk x=(x.name,4,(x.args.length:Int)):=by rw [qdk,if_neg O,if_neg O,if_pos hk]
 have:=h.use;rw [hu] at this
 rcases qgv hP this (show (4:Int)≠0 by decide) with ⟨_,a⟩ | ⟨a,k,g,b,c,d⟩ | ⟨k,fk,b,c,_,d⟩
 · rcases a with a | a <;> cases a
 · simp only at d;omega
 · exact ⟨k,fk,b,c,by simp only at d;omega⟩
theorem ms1(hP:POK p){x:Stm}(h:StOK p f x)(hk:x.kind=1):0≤qa4 f x.name∨(¬ 0≤qa4 f x.name∧∃ (k:Nat) (g:Glo),qdi p x.name=(k:Int)∧p.globals[k]?=some g∧g.kind=2):=by
 have hu:qdd x=(x.name,1,0):=by rw [qdd,if_pos hk]
 have:=h.use;rw [hu] at this
 rcases qgv hP this (show (1:Int)≠0 by decide) with ⟨a,_⟩ | ⟨a,k,g,b,c,d⟩ | ⟨_,_,_,_,c,_⟩
 · exact .inl a
 · exact .inr ⟨a,k,g,b,c,by simp only at d;omega⟩
 · cases c
theorem ms2(hP:POK p){x:Stm}(h:StOK p f x)(hk:x.kind=2):∃ (k:Nat) (g:Glo),qdi p x.name=(k:Int)∧p.globals[k]?=some g∧g.kind=3:=by
 have hu:qdd x=(x.name,3,0):=by rw [qdd,if_neg O,if_pos hk]
 have:=h.use;rw [hu] at this
 rcases qgv hP this (show (3:Int)≠0 by decide) with ⟨_,a⟩ | ⟨a,k,g,b,c,d⟩ | ⟨_,_,_,_,c,_⟩
 · rcases a with a | a <;> cases a
 · exact ⟨k,g,b,c,by simp only at d;omega⟩
 · cases c
theorem ms5(hP:POK p){x:Stm}(h:StOK p f x)(hk:x.kind=5):∃ (k:Nat) (fk:Fnc),qhx p x.name=(k:Int)∧p.funcs[k]?=some fk∧x.exprs.length=fk.params.length:=by
 have hu:qdd x=(x.name,4,(x.exprs.length:Int)):=by rw [qdd,if_neg O,if_neg O,if_pos hk]
 have:=h.use;rw [hu] at this
 rcases qgv hP this (show (4:Int)≠0 by decide) with ⟨_,a⟩ | ⟨a,k,g,b,c,d⟩ | ⟨k,fk,b,c,_,d⟩
 · rcases a with a | a <;> cases a
 · simp only at d;omega
 · exact ⟨k,fk,b,c,by simp only at d;omega⟩
end
theorem qoI(D:Nat)(L:Hl)(s:World)(d0:Nat)(p:Prg)(Ag Af:Option Addr)(ng cg nf cf:Nat)(hGl:Glos s Ag ng cg p.globals)(hFn:Fncs d0 s Af nf cf p.funcs)(f:Fnc)(P1 P2 P3:Option Addr)(p1 r1 p2 r2 p3 r3:Nat)(hP1:Strs s P1 p1 r1 f.params)(hP2:Strs s P2 p2 r2 f.locals)(hsz:f.params.length+f.locals.length≤100)(Vq:World→Ex→List Value→Prop)(x:Ex)(hk:x.kind=2)(hmn:0≤qa4 f x.name∨(¬ 0≤qa4 f x.name∧∃ (k:Nat) (g:Glo),qdi p x.name=(k:Int)∧p.globals[k]?=some g)):AC prog D 163 [.agg #[.slice Ag ng cg,.slice Af nf cf,St f.name,.slice P1 p1 r1,.slice P2 p2 r2,.slice P3 p3 r3],St x.name] L s fun v L' s'=>∃ M',L'=M'++L∧∀ s2,Le D s' s2→Pub M' s2→ViE p f Vq s2 x v:=by
 refine qai (fn:=f163) qao func163 V Z ntmps163 Z (rs:=[.tmp 4]) Z [(0,_),(1,_)] Z<|Sr<|qaq Z Z ?_
 intro β1 s1 h1
 refine At Z Z<|Zs<|Sr<|qac (qag 0 [_,_,_,_,_,_] Z Z Z Z Z) Z<|Zqm Z Z<|Jc Z Z Z (qi6 D _ _ d0 p Ag Af ng cg nf cf (hGl.le h1) (hFn.le h1) f P1 P2 P3 p1 r1 p2 r2 p3 r3 (hP1.le h1) (hP2.le h1) hsz x.name) ?_
 rintro _ _ s2 h2 ⟨rfl,rfl⟩
 refine qaj Z [_] Z Z ?_
 intro β3 s3 h3
 refine Wt 0 [_] Y9<|Nt<|Sr<|Wl 0 Y6<|qfa Z Z Z<|Nt<|?_
 refine qaa Z (fun c4=>?_) (fun c4=>?_)
 ·
  have h0:=c4
  refine Sr<|qac (qbu Z) Z<|At Z Z<|Zo<|Zu<|?_
  refine rR [] _ (.t1 Z) Z (h1.t h2|>.t h3) fun _ hS2=>?_
  exact ⟨[_,_],rfl,fun s2 hs2 hp=>.slot _ hk h0 (qim f _) (hp _ _ _ Mc)⟩
 have hs:=c4
 obtain ⟨gk,g,hgk,hgp⟩:=(hmn.resolve_left hs).2
 have hgl:gk < ng:=by rw [hGl.1];exact (List.getElem?_eq_some_iff.1 hgp).1
 refine Zk<|Zt<|Sr<|qac (qag 1 [_,_,_,_,_,_] Z Z Z Z Z) Z<|Zqm Z Z<|Jc Z Z Z (qej D _ _ d0 p Ag Af ng cg nf cf (hGl.le (h1.t h2|>.t h3)) (hFn.le (h1.t h2|>.t h3)) f P1 P2 P3 p1 r1 p2 r2 p3 r3 (hP1.le (h1.t h2|>.t h3)) (hP2.le (h1.t h2|>.t h3)) x.name) ?_
 rintro _ _ s5 h5 ⟨rfl,rfl⟩
 obtain ⟨bz,oz,z,Ai,ni,ci,hAe,hz,hcz,_,huz,_⟩:=Glos.at_ (hGl.le (h1.t h2|>.t h3|>.t h5)) hgl
 subst hAe
 refine qaj Z [_] Z Z ?_
 intro β6 s6 h6
 refine Wt 0 [_] Y9<|Nt<|Zs<|Sr<|W0 Y5<|W0 Y5<|Wl 2 Y6<|Wl 0 Y6<|qac (qap (j:=gk) Z (show lk _ _=some (.int .i64 (gk:Int)) from by rw [← hgk];rfl) Z Z Z Z hgl) Z<|qac (qau Z Z Z (hcz.le h6) Z) Z<|qaj Z [_,_,_,_] Z Z ?_
 intro β7 s7 h7
 refine Wt 0 [_,_,_,_] Y9<|Nt<|Sr<|W0 Y5<|Wl 0 Y6<|qar Z Z Z<|Nt<|?_
 refine qaa Z (fun c8=>?_) (fun c8=>?_)
 ·
  have gc1:=c8
  refine Sr<|qac (qbu Z) Z<|At Z Z<|Zo<|Zu<|?_
  refine rR [] _ (.t1 Z) Z (h1.t h2|>.t h3|>.t h5|>.t h6|>.t h7) fun _ hS2=>?_
  exact ⟨[_,_,_,_],rfl,fun s2 hs2 hp=>.con _ gk z Ai ni ci hk hs hgk hz gc1 (hp _ _ _ Mc) huz⟩
 have gc1:=c8
 refine Zk<|Zt<|Sr<|qac (qbu Z) Z<|At Z Z<|Zo<|?_
 refine rR [] _ (.t1 Z) Z (h1.t h2|>.t h3|>.t h5|>.t h6|>.t h7) fun _ hS2=>?_
 exact ⟨[_,_,_,_],rfl,fun s2 hs2 hp=>.var _ gk z hk hs hgk hz gc1 (by rw [← hgk];exact (hp _ _ _ (List.mem_cons_of_mem _ Mc)))⟩
theorem qj6(D:Nat)(L:Hl)(s:World)(d0:Nat)(p:Prg)(Ag Af:Option Addr)(ng cg nf cf:Nat)(hGl:Glos s Ag ng cg p.globals)(hFn:Fncs d0 s Af nf cf p.funcs)(f:Fnc)(P1 P2 P3:Option Addr)(p1 r1 p2 r2 p3 r3:Nat)(hP1:Strs s P1 p1 r1 f.params)(hP2:Strs s P2 p2 r2 f.locals)(hsz:f.params.length+f.locals.length≤100)(Vq:World→Stm→List Value→Prop)(d b4:Nat)(x:Stm)(hk:x.kind=1)(hmn:0≤qa4 f x.name∨(¬ 0≤qa4 f x.name∧∃ (k:Nat) (g:Glo),qdi p x.name=(k:Int)∧p.globals[k]?=some g∧g.kind=2))(hv:VeR p f d s (qbA x.exprs 0) [.func (.func 123) #[] #[.pointer (some ⟨b4,0,none⟩)]]):AC prog D 84 [.agg #[.slice Ag ng cg,.slice Af nf cf,St f.name,.slice P1 p1 r1,.slice P2 p2 r2,.slice P3 p3 r3],St x.name,.func (.func 123) #[] #[.pointer (some ⟨b4,0,none⟩)]] L s fun v L' s'=>∃ M',L'=M'++L∧∀ s2,Le D s' s2→Pub M' s2→ViS p f (VeR p f d) Vq s2 x v:=by
 refine qai (fn:=f84) qao func84 V Z ntmps84 Z (rs:=[.tmp 6]) Z [(0,_),(1,_),(2,_)] Z<|Sr<|qaq Z Z ?_
 intro β1 s1 h1
 refine qe4 Z Z Z ?_
 intro β2 s2 h2
 refine At Z Z<|Zs<|Sr<|qac (qag 1 [_,_,_,_,_,_] Z Z Z Z Z) Z<|Zqm Z Z<|Jc Z Z Z (qi6 D _ _ d0 p Ag Af ng cg nf cf (hGl.le (h1.t h2)) (hFn.le (h1.t h2)) f P1 P2 P3 p1 r1 p2 r2 p3 r3 (hP1.le (h1.t h2)) (hP2.le (h1.t h2)) hsz x.name) ?_
 rintro _ _ s3 h3 ⟨rfl,rfl⟩
 refine qaj Z [_] Z Z ?_
 intro β4 s4 h4
 refine Wt 0 [_] Y9<|Nt<|Sr<|Wl 0 Y6<|qfa Z Z Z<|Nt<|?_
 refine qaa Z (fun c5=>?_) (fun c5=>?_)
 ·
  have h0:=c5
  refine Sr<|qac (qbu Z) Z<|At Z Z<|Zo<|Zu<|?_
  refine rR [] _ (.t1 Z) Z (h1.t h2|>.t h3|>.t h4) fun _ hS2=>?_
  exact ⟨[_,_,_],rfl,fun s2 hs2 hp=>.setl _ _ _ hk h0 (qim f _) (hp _ _ _ (List.mem_cons_of_mem _ Mc)) (hp _ _ _ Mc) (VeR.le (h1.t h2|>.t h3|>.t h4|>.t (hS2.t hs2)) hv)⟩
 have hs:=c5
 obtain ⟨gk,g,hgk,hgp,hg2⟩:=(hmn.resolve_left hs).2
 refine Zk<|Zt<|Sr<|qac (qag 2 [_,_,_,_,_,_] Z Z Z Z Z) Z<|Zqm Z Z<|Jc Z Z Z (qej D _ _ d0 p Ag Af ng cg nf cf (hGl.le (h1.t h2|>.t h3|>.t h4)) (hFn.le (h1.t h2|>.t h3|>.t h4)) f P1 P2 P3 p1 r1 p2 r2 p3 r3 (hP1.le (h1.t h2|>.t h3|>.t h4)) (hP2.le (h1.t h2|>.t h3|>.t h4)) x.name) ?_
 rintro _ _ s6 h6 ⟨rfl,rfl⟩
 refine qaj Z [_] Z Z ?_
 intro β7 s7 h7
 refine Wt 0 [_] Y9<|Nt<|Sr<|qac (qbu Z) Z<|At Z Z<|Zo<|?_
 refine rR [] _ (.t1 Z) Z (h1.t h2|>.t h3|>.t h4|>.t h6|>.t h7) fun _ hS2=>?_
 exact ⟨[_,_,_,_],rfl,fun s2 hs2 hp=>.setg _ _ gk g _ hk hs hgk hgp hg2 (hp _ _ _ (List.mem_cons_of_mem _ (List.mem_cons_of_mem _ Mc))) (by rw [← hgk];exact (hp _ _ _ Mc)) (VeR.le (h1.t h2|>.t h3|>.t h4|>.t h6|>.t h7|>.t (hS2.t hs2)) hv)⟩
theorem qhK(D:Nat)(L:Hl)(s:World)(d0:Nat)(p:Prg)(Ag Af:Option Addr)(ng cg nf cf:Nat)(hGl:Glos s Ag ng cg p.globals)(hFn:Fncs d0 s Af nf cf p.funcs)(f:Fnc)(P1 P2 P3:Option Addr)(p1 r1 p2 r2 p3 r3:Nat)(hP1:Strs s P1 p1 r1 f.params)(hP2:Strs s P2 p2 r2 f.locals)(d:Nat)(nm:Str)(xs:List Ex)(A:Option Addr)(n c:Nat)(k:Nat)(fk:Fnc)(hA:VeS p f d s A n c xs)(hg:qhx p nm=(k:Int))(hpk:p.funcs[k]?=some fk)(hl:xs.length=fk.params.length):AC prog D 91 [.agg #[.slice Ag ng cg,.slice Af nf cf,St f.name,.slice P1 p1 r1,.slice P2 p2 r2,.slice P3 p3 r3],St nm,.slice A n c] L s fun v L' s'=>∃ M',L'=M'++L∧∀ s2,Le D s' s2→Pub M' s2→CallV p (VeR p f d) s2 nm xs v:=by
 refine qai (fn:=f91) qao func91 V Z ntmps91 Z (rs:=[.tmp 6]) Z [(0,_),(1,_),(2,_)] Z<|Sr<|qaq Z Z ?_
 intro β1 s1 h1
 refine qe4 Z Z Z ?_
 intro β2 s2 h2
 refine At Z Z<|Sr<|qac (qag 1 [_,_,_,_,_,_] Z Z Z Z Z) Z<|Zqm Z Z<|Jc Z Z Z (qkQ D _ _ d0 p Ag Af ng cg nf cf (hGl.le (h1.t h2)) (hFn.le (h1.t h2)) f P1 P2 P3 p1 r1 p2 r2 p3 r3 (hP1.le (h1.t h2)) (hP2.le (h1.t h2)) nm) ?_
 rintro _ _ s3 h3 ⟨rfl,rfl⟩
 refine qaj Z [_] Z Z ?_
 intro β4 s4 h4
 refine Wt 0 [_] Y9<|Nt<|Sr<|qac (qbu Z) Z<|At Z Z<|Zo<|?_
 refine rR [] _ (.t1 Z) Z (h1.t h2|>.t h3|>.t h4) fun _ hS2=>?_
 exact ⟨[_,_,_],rfl,fun s2 hs2 hp=>⟨_,_,A,n,c,k,fk,rfl,(hp _ _ _ (List.mem_cons_of_mem _ Mc)),by rw [← hg];exact (hp _ _ _ Mc),hA.le (h1.t h2|>.t h3|>.t h4|>.t (hS2.t hs2)),hg,hpk,hl⟩⟩
theorem qj0(D:Nat)(L:Hl)(s:World)(p:Prg)(f:Fnc)(d b4 b5:Nat)(x:Ex)(hk:x.kind=7)(ho:4≤x.op∧x.op≤21)(hv1:VeR p f d s (qbA x.args 0) [.func (.func 123) #[] #[.pointer (some ⟨b4,0,none⟩)]])(hv2:VeR p f d s (qbA x.args 1) [.func (.func 123) #[] #[.pointer (some ⟨b5,0,none⟩)]]):AC prog D 167 [.int .i64 x.op,.func (.func 123) #[] #[.pointer (some ⟨b4,0,none⟩)],.func (.func 123) #[] #[.pointer (some ⟨b5,0,none⟩)]] L s fun v L' s'=>∃ M',L'=M'++L∧∀ s2,Le D s' s2→Pub M' s2→ViE p f (VeR p f d) s2 x v:=by
 refine qai (fn:=f167) qao func167 V Z ntmps167 Z (rs:=[.tmp 6]) Z [(0,_),(1,_),(2,_)] Z<|Sr<|qe4 Z Z Z ?_
 intro β1 s1 h1
 refine qe4 Z Z Z ?_
 intro β2 s2 h2
 refine qe4 Z Z Z ?_
 intro β3 s3 h3
 refine At Z Z<|Sr<|qac (qbu Z) Z<|At Z Z<|Zo<|?_
 refine rR [] _ (.t1 Z) Z (h1.t h2|>.t h3) fun _ hS2=>?_
 exact ⟨[_,_,_],rfl,fun s2 hs2 hp=>.bin _ _ _ _ _ hk (hp _ _ _ (List.mem_cons_of_mem _ Mc)) (hp _ _ _ (List.mem_cons_of_mem _ (List.mem_cons_of_mem _ Mc))) (hp _ _ _ Mc) (VeR.le (h1.t h2|>.t h3|>.t (hS2.t hs2)) hv1) (VeR.le (h1.t h2|>.t h3|>.t (hS2.t hs2)) hv2) ho⟩
theorem ViE.func{p:Prg}{f:Fnc}{V:World→Ex→List Value→Prop}{s:World}{x:Ex}{v:Value}(h:ViE p f V s x v):∃ kk cap,v=.func (.func kk) #[] (List.toArray cap):=by
 cases h with
 | call w hk h=>obtain ⟨be,bi,A,n,c,k,fk,rfl,_⟩:=h;exact ⟨_,[_,_],rfl⟩
 | num=>exact ⟨_,[_],rfl⟩
 | slot=>exact ⟨_,[_],rfl⟩
 | con=>exact ⟨_,[_],rfl⟩
 | var=>exact ⟨_,[_],rfl⟩
 | idx=>exact ⟨_,[_,_],rfl⟩
 | get=>exact ⟨_,[],rfl⟩
 | una=>exact ⟨_,[_,_],rfl⟩
 | bin=>exact ⟨_,[_,_,_],rfl⟩
theorem ViS.func{p:Prg}{f:Fnc}{E:World→Ex→List Value→Prop}{V:World→Stm→List Value→Prop}{s:World}{x:Stm}{v:Value}(h:ViS p f E V s x v):∃ kk cap,v=.func (.func kk) #[] (List.toArray cap):=by
 cases h with
 | setl=>exact ⟨_,[_,_],rfl⟩
 | setg=>exact ⟨_,[_,_],rfl⟩
 | store=>exact ⟨_,[_,_],rfl⟩
 | cond=>exact ⟨_,[_,_,_],rfl⟩
 | loop=>exact ⟨_,[_,_],rfl⟩
 | call=>exact ⟨_,[_],rfl⟩
 | ret=>exact ⟨_,[_],rfl⟩
 | put=>exact ⟨_,[_],rfl⟩
 | stop=>exact ⟨_,[_],rfl⟩
 | brk=>exact ⟨_,[],rfl⟩
 | cont=>exact ⟨_,[],rfl⟩
theorem qjn(k:Int):qcv k≤6:=by
 unfold qcv;repeat' split
 all_goals omega
theorem qnb(k:Int):qcA k≤6:=by
 unfold qcA;repeat' split
 all_goals omega
def XPR(D d:Nat):Prop:=∀ (L:Hl) (s:World) (d0:Nat) (p:Prg) (Ag Af:Option Addr) (ng cg nf cf:Nat) (hGl:Glos s Ag ng cg p.globals) (hFn:Fncs d0 s Af nf cf p.funcs) (f:Fnc) (P1 P2 P3:Option Addr) (p1 r1 p2 r2 p3 r3:Nat) (hP1:Strs s P1 p1 r1 f.params) (hP2:Strs s P2 p2 r2 f.locals) (hsz:f.params.length+f.locals.length≤100) (hPK:POK p) (x:Ex) (A:Option Addr) (n c:Nat),Exs d s A n c x.args→U32 x.num→XOK p f x→AC prog D 122 [.agg #[.slice Ag ng cg,.slice Af nf cf,St f.name,.slice P1 p1 r1,.slice P2 p2 r2,.slice P3 p3 r3],.agg #[.int .i64 x.kind,.int .i64 x.op,.int .u32 x.num,St x.name,.slice A n c]] L s fun v L' s'=>L=L'∧ViE p f (VeR p f d) s' x v
def XSR(D d:Nat):Prop:=∀ (L:Hl) (s:World) (d0:Nat) (p:Prg) (Ag Af:Option Addr) (ng cg nf cf:Nat) (hGl:Glos s Ag ng cg p.globals) (hFn:Fncs d0 s Af nf cf p.funcs) (f:Fnc) (P1 P2 P3:Option Addr) (p1 r1 p2 r2 p3 r3:Nat) (hP1:Strs s P1 p1 r1 f.params) (hP2:Strs s P2 p2 r2 f.locals) (hsz:f.params.length+f.locals.length≤100) (hPK:POK p) (A:Option Addr) (n c:Nat) (xs:List Ex),Exs d s A n c xs→(∀ x∈xs,XOK p f x)→n≤100000→AC prog D 83 [.agg #[.slice Ag ng cg,.slice Af nf cf,St f.name,.slice P1 p1 r1,.slice P2 p2 r2,.slice P3 p3 r3],.slice A n c] L s fun v L' s'=>L=L'∧∃ A' n' c',v=.slice A' n' c'∧VeS p f d s' A' n' c' xs
theorem qfT(D d:Nat)(ih:∀ e,d=e+1→XPR D e)(L:Hl)(s:World)(d0:Nat)(p:Prg)(Ag Af:Option Addr)(ng cg nf cf:Nat)(hGl:Glos s Ag ng cg p.globals)(hFn:Fncs d0 s Af nf cf p.funcs)(f:Fnc)(P1 P2 P3:Option Addr)(p1 r1 p2 r2 p3 r3:Nat)(hP1:Strs s P1 p1 r1 f.params)(hP2:Strs s P2 p2 r2 f.locals)(hsz:f.params.length+f.locals.length≤100)(hPK:POK p)(A:Option Addr)(n c:Nat)(xs:List Ex)(hA:Exs d s A n c xs)(hO:∀ x∈xs,XOK p f x)(hnl:n≤100000):AC prog D 83 [.agg #[.slice Ag ng cg,.slice Af nf cf,St f.name,.slice P1 p1 r1,.slice P2 p2 r2,.slice P3 p3 r3],.slice A n c] L s fun v L' s'=>∃ M',L'=M'++L∧∀ s2,Le D s' s2→Pub M' s2→∃ A' n' c',v=.slice A' n' c'∧VeS p f d s2 A' n' c' xs:=by
 have hn1:=hA.1
 have hb1:=hA.2.1
 have hb2:=hA.2.2.1
 have hlim:n≤100000:=hnl
 refine qai (fn:=f83) qao func83 V Z ntmps83 Z (rs:=[.tmp 4]) Z [(0,_),(1,_)] Z<|Sr<|qaq Z Z ?_
 intro β1 s1 h1
 refine At Z Z<|Sr<|At Z Z<|Zs<|Sr<|Zqm Z Z<|Ws Y4<|Zqm Z Z<|Nt<|Zp<|?_
 refine qav (γ:=Nat×Value×Hl) (fun g=>[(2,_),(4,_),(5,g.2.1),(9,_),(10,_),(11,.int .i64 (g.1:Int))]) (fun g=>_::(g.2.2++L)) (fun g tw=>Le D s1 tw∧(g.1≤n∧∃ css,FL.Own 158 1 g.2.2 g.2.1 g.1 (List.flatten css)∧All2 (fun x cs=>cs.length=1∧VeR p f d tw x cs) (xs.take g.1) css)) (fun g=>n - g.1) (fun _ _ _ h hl=>⟨h.1.trans hl,(by obtain ⟨k1,css,k2,k3⟩:=h.2;exact ⟨k1,css,k2,k3.mono fun _ _ k=>⟨k.1,VeR.le hl k.2⟩⟩)⟩) (0,.slice none 0 0,[]) (.c6 Z Z Z Z Z Z (.nil _)) Z ⟨Le.refl _,⟨Nat.zero_le _,[],.nil,.nil⟩⟩ ?_
 intro g s2 I2
 obtain ⟨k,vk,Mk⟩:=g
 obtain ⟨hk0,css,hOk,hA2⟩:=I2.2
 simp only at hk0 hOk hA2
 dsimp only
 refine Sr<|qbh Z Z Z<|Nt<|Zs<|?_
 refine qaa Z (fun c3=>?_) (fun c3=>?_)
 ·
  have hk:k < n:=by omega
  obtain ⟨e,b,off,x,A',n',c',hd,rfl,hx,hcx,hxa,hxu,_⟩:=Exs.at_ (hA.le (h1.t I2.1)) hk
  have hxo:=hO x (List.mem_of_getElem? hx)
  refine Zk<|Zt<|Zs<|Zp<|Sr<|qac (qap Z Z Z Z Z Z hk) Z<|qac (qau Z Z Z (hcx.le (Lr D)) Z) Z<|qaj Z [_,_,_,_,_] Z Z ?_
  intro β4 s4 h4
  refine Wt 0 [_,_,_,_,_] Y9<|Nt<|Sr<|qac (qag 1 [_,_,_,_,_,_] Z Z Z Z Z) Z<|qac (qag 0 [_,_,_,_,_] Z Z Z Z Z) Z<|Jc Z Z Z (ih e hd _ _ d0 p Ag Af ng cg nf cf (hGl.le (h1.t I2.1|>.t h4)) (hFn.le (h1.t I2.1|>.t h4)) f P1 P2 P3 p1 r1 p2 r2 p3 r3 (hP1.le (h1.t I2.1|>.t h4)) (hP2.le (h1.t I2.1|>.t h4)) hsz hPK x A' n' c' (hxa.le h4) hxu hxo) ?_
  rintro _ _ s5 h5 ⟨rfl,hvi⟩
  obtain ⟨kk,cap,hvf⟩:=hvi.func
  subst hvf
  refine qaj Z [_] Z Z ?_
  intro β6 s6 h6
  refine Wt 0 [_] Y9<|Nt<|qbC [] [_,_] _ ?_
  intro s7 h7 hpub7
  simp only [cQ9,nQ9]
  have gbx:=hpub7 _ _ _ Mc
  refine Zr<|Zqm Z Z<|qac (qbu Z) Z<|qbk [(_,_)] [_] Z Z Z Z Z Z Z Z Z ?_
  intro β8 s8 h8 hc8
  refine qba (sz:=1) [_] Mk L Z Z Z Z Z Z Z hOk (Row.of_cells (hc8.le (Lr D)) Z Z) ⟨by simp [ti158];omega,by omega⟩ Z ?_
  intro v9 M9 s9 h9 oq
  simp only [cQ9,nQ9]
  refine Zqa Z Z<|Zn<|Zb<|Zt<|Zr<|qaF Z Z Z (w64 O O)<|Zqm Z Z<|Zn<|?_
  refine qab ⟨(k+1,v9,M9),[],kp,Z,⟨(I2.1.t h4|>.t h5|>.t h6|>.t h7|>.t h8|>.t h9),⟨by simp only;omega,css++[[_]],by simp only [List.flatten_append,List.flatten_cons,List.flatten_nil,List.append_nil];exact oq,by simp only;rw [qaS hx];exact (hA2.mono fun _ _ k=>⟨k.1,VeR.le (h4.t h5|>.t h6|>.t h7|>.t h8|>.t h9) k.2⟩).snoc ⟨Z,hd▸⟨_,_,Z,gbx.le (h8.t h9),hvi.le (h6.t h7|>.t h8|>.t h9) (fun _ _ h=>VeR.le (h6.t h7|>.t h8|>.t h9) h)⟩⟩⟩⟩,Oz⟩
 obtain rfl:n=k:=by omega
 rw [List.take_of_length_le O] at hA2
 obtain ⟨Ak,ck,rfl,_,_⟩:=Own.slice hOk
 refine Zl<|Zv<|Zv<|Zd<|Zt<|Sr<|Zqm Z Z<|At Z Z<|Zo<|?_
 refine rR [] _ (.t1 Z) Z (h1.t I2.1) fun _ hS2=>?_
 exact ⟨_::Mk,rfl,fun s2 hs2 hp=>⟨_,_,_,rfl,Own.rows hOk hp.tail (hA2.mono fun _ _ k=>⟨k.1,VeR.le ((Lr D).t (hS2.t hs2)) k.2⟩) hn1⟩⟩
theorem qjV(D d:Nat)(ih:XSR D d)(L:Hl)(s:World)(d0:Nat)(p:Prg)(Ag Af:Option Addr)(ng cg nf cf:Nat)(hGl:Glos s Ag ng cg p.globals)(hFn:Fncs d0 s Af nf cf p.funcs)(f:Fnc)(P1 P2 P3:Option Addr)(p1 r1 p2 r2 p3 r3:Nat)(hP1:Strs s P1 p1 r1 f.params)(hP2:Strs s P2 p2 r2 f.locals)(hsz:f.params.length+f.locals.length≤100)(hPK:POK p)(x:Ex)(A:Option Addr)(n c:Nat)(hA:Exs d s A n c x.args)(hxu:U32 x.num)(hxo:XOK p f x):AC prog D 122 [.agg #[.slice Ag ng cg,.slice Af nf cf,St f.name,.slice P1 p1 r1,.slice P2 p2 r2,.slice P3 p3 r3],.agg #[.int .i64 x.kind,.int .i64 x.op,.int .u32 x.num,St x.name,.slice A n c]] L s fun v L' s'=>∃ M',L'=M'++L∧∀ s2,Le D s' s2→Pub M' s2→ViE p f (VeR p f d) s2 x v:=by
 obtain ⟨hC,_⟩:=qdx hxo.1
 obtain ⟨hk1,hk7,hle,hmo,ho6,ho7⟩:=qb5 hC
 have hn1:=hA.1
 have hm6:=qjn x.kind
 refine qai (fn:=f122) qao func122 V Z ntmps122 Z (rs:=[.tmp 4]) Z [(0,_),(1,_)] Z<|Sr<|qaq Z Z ?_
 intro β1 s1 h1
 refine qaq Z Z ?_
 intro β2 s2 h2
 refine At Z Z<|Sr<|qac (qag 1 [_,_,_,_,_,_] Z Z Z Z Z) Z<|Wb Y5<|Wl 0 Y6<|Jc Z Z Z (ih _ _ d0 p Ag Af ng cg nf cf (hGl.le (h1.t h2)) (hFn.le (h1.t h2)) f P1 P2 P3 p1 r1 p2 r2 p3 r3 (hP1.le (h1.t h2)) (hP2.le (h1.t h2)) hsz hPK A n c x.args (hA.le (h1.t h2)) hxo.args O) ?_
 rintro _ _ s3 h3 ⟨rfl,A',n',c',rfl,hV⟩
 have hn2:=hV.1
 refine qaj Z [_] Z Z ?_
 intro β4 s4 h4
 refine Wt 0 [_] Y9<|Nt<|Zs<|Sr<|W0 Y5<|Wl 1 Y6<|Nt<|Zp<|Sr<|qar Z Z Z<|At Z Z<|?_
 refine qaa Z (fun c5=>?_) (fun c5=>?_)
 ·
  have hk1:x.kind=1:=c5
  refine Sr<|qac (qbu Z) Z<|At Z Z<|Zo<|Zc<|Zu<|?_
  refine rR [] _ (.t1 Z) Z (h1.t h2|>.t h3|>.t h4) fun _ hS2=>?_
  exact ⟨[_,_,_],rfl,fun s2 hs2 hp=>.num _ A n c hk1 (hp _ _ _ (List.mem_cons_of_mem _ Mc)) hxu⟩
 refine Sr<|qar Z Z Z<|At Z Z<|?_
 refine qaa Z (fun c6=>?_) (fun c6=>?_)
 ·
  have hk2:x.kind=2:=c6
  refine Sr<|qac (qag 2 [_,_,_,_,_,_] Z Z Z Z Z) Z<|Wb Y5<|Wl 1 Y6<|Jc Z Z Z (AC.pubW (qoI D _ _ d0 p Ag Af ng cg nf cf (hGl.le (h1.t h2|>.t h3|>.t h4)) (hFn.le (h1.t h2|>.t h3|>.t h4)) f P1 P2 P3 p1 r1 p2 r2 p3 r3 (hP1.le (h1.t h2|>.t h3|>.t h4)) (hP2.le (h1.t h2|>.t h3|>.t h4)) hsz (VeR p f d) x hk2 (mn2 hPK hxo hk2))) ?_
  rintro _ _ s7 h7 ⟨rfl,hW⟩
  refine At Z Z<|Zo<|Zc<|Zu<|?_
  refine rR [] _ (.t1 Z) Z (h1.t h2|>.t h3|>.t h4|>.t h7) fun _ hS2=>?_
  first
    | (exact ⟨[_,_,_],rfl,fun s2 hs2 hp=>hW.le ((Lr D).t (hS2.t hs2)) fun _ _ h=>VeR.le ((Lr D).t (hS2.t hs2)) h⟩)
    | (exact ⟨[_,_,_],rfl,fun s2 hs2 hp=>.call _ hk4 (hW.le ((Lr D).t (hS2.t hs2)) fun _ _ h=>VeR.le ((Lr D).t (hS2.t hs2)) h)⟩)
 refine Sr<|qar Z Z Z<|At Z Z<|?_
 refine qaa Z (fun c8=>?_) (fun c8=>?_)
 ·
  have hk3:x.kind=3:=c8
  obtain ⟨k,g,hg,hgp,g3⟩:=mn3 hPK hxo hk3
  have h0n:0 < n':=by have h9:qbG x.kind=1:=(by rw [hk3];rfl);omega
  refine Sr<|qac (qag 2 [_,_,_,_,_,_] Z Z Z Z Z) Z<|Wb Y5<|Wl 1 Y6<|Jc Z Z Z (qej D _ _ d0 p Ag Af ng cg nf cf (hGl.le (h1.t h2|>.t h3|>.t h4)) (hFn.le (h1.t h2|>.t h3|>.t h4)) f P1 P2 P3 p1 r1 p2 r2 p3 r3 (hP1.le (h1.t h2|>.t h3|>.t h4)) (hP2.le (h1.t h2|>.t h3|>.t h4)) x.name) ?_
  rintro _ _ s9 h9 ⟨rfl,rfl⟩
  refine qaj Z [_] Z Z ?_
  intro β10 s10 h10
  refine Wt 0 [_] Y9<|Nt<|Sr<|qac (qbu Z) Z<|At Z Z<|Zo<|Zc<|Zu<|?_
  refine rR [] _ (.t1 Z) Z (h1.t h2|>.t h3|>.t h4|>.t h9|>.t h10) fun _ hS2=>?_
  exact ⟨[_,_,_,_],rfl,fun s2 hs2 hp=>.idx _ _ k g _ _ _ hk3 hg hgp g3 (by rw [← hg];exact (hp _ _ _ Mc)) (hp _ _ _ (List.mem_cons_of_mem _ Mc)) (hV.le (h4.t h9|>.t h10|>.t (hS2.t hs2))) h0n⟩
 refine Sr<|qar Z Z Z<|At Z Z<|?_
 refine qaa Z (fun c11=>?_) (fun c11=>?_)
 ·
  have hk4:x.kind=4:=c11
  obtain ⟨k,fk,hg,hpk,hl⟩:=mn4 hPK hxo hk4
  refine Sr<|qac (qag 2 [_,_,_,_,_,_] Z Z Z Z Z) Z<|Wb Y5<|Wl 1 Y6<|Wl 0 Y6<|Jc Z Z Z (AC.pubW (qhK D _ _ d0 p Ag Af ng cg nf cf (hGl.le (h1.t h2|>.t h3|>.t h4)) (hFn.le (h1.t h2|>.t h3|>.t h4)) f P1 P2 P3 p1 r1 p2 r2 p3 r3 (hP1.le (h1.t h2|>.t h3|>.t h4)) (hP2.le (h1.t h2|>.t h3|>.t h4)) d x.name x.args A' n' c' k fk (hV.le h4) hg hpk hl)) ?_
  rintro _ _ s12 h12 ⟨rfl,hW⟩
  refine At Z Z<|Zo<|Zc<|Zu<|?_
  refine rR [] _ (.t1 Z) Z (h1.t h2|>.t h3|>.t h4|>.t h12) fun _ hS2=>?_
  first
    | (exact ⟨[_,_,_],rfl,fun s2 hs2 hp=>hW.le ((Lr D).t (hS2.t hs2)) fun _ _ h=>VeR.le ((Lr D).t (hS2.t hs2)) h⟩)
    | (exact ⟨[_,_,_],rfl,fun s2 hs2 hp=>.call _ hk4 (hW.le ((Lr D).t (hS2.t hs2)) fun _ _ h=>VeR.le ((Lr D).t (hS2.t hs2)) h)⟩)
 refine Sr<|qar Z Z Z<|At Z Z<|?_
 refine qaa Z (fun c13=>?_) (fun c13=>?_)
 ·
  have hk5:x.kind=5:=c13
  refine Sr<|At Z Z<|Zo<|Zc<|Zu<|?_
  refine rR [] _ (.t1 Z) Z (h1.t h2|>.t h3|>.t h4) fun _ hS2=>?_
  exact ⟨[_,_,_],rfl,fun s2 hs2 hp=>.get hk5⟩
 refine Sr<|qar Z Z Z<|At Z Z<|?_
 refine qaa Z (fun c14=>?_) (fun c14=>?_)
 ·
  have hk6:x.kind=6:=c14
  have h0n:0 < n':=by have h9:qbG x.kind=1:=(by rw [hk6];rfl);omega
  refine Sr<|qac (qbu Z) Z<|At Z Z<|Zo<|Zc<|Zu<|?_
  refine rR [] _ (.t1 Z) Z (h1.t h2|>.t h3|>.t h4) fun _ hS2=>?_
  exact ⟨[_,_,_],rfl,fun s2 hs2 hp=>.una _ _ A n c _ _ _ hk6 (hp _ _ _ (List.mem_cons_of_mem _ Mc)) (hp _ _ _ Mc) (hV.le (h4.t (hS2.t hs2))) h0n⟩
 have h0n:0 < n':=by have h9:qbG x.kind=2:=(by rw [show x.kind=7 by omega];rfl);omega
 have h1n:1 < n':=by have h9:qbG x.kind=2:=(by rw [show x.kind=7 by omega];rfl);omega
 obtain ⟨B0,o0,b4,hAe0,hcE,hvE⟩:=VeS.at_ hV h0n
 subst hAe0
 obtain ⟨B1,o1,b5,hAe,hcF,hvF⟩:=VeS.at_ hV h1n
 simp only [Option.some.injEq,Addr.mk.injEq,and_true] at hAe
 obtain ⟨hAe1,hAe2⟩:=hAe
 subst hAe1
 subst hAe2
 refine Zk<|Zb<|Zt<|Zs<|qay qad 10 Z _ (fun _ h=>h) ?_
 intro s15 h15
 refine za 0 Z (We Y4) Z<|za 1 Z (Wd 1 Y5) Z<|za 2 Z (Wd 0 Y5) Z<|za 3 Z (qas Z Z Z Z Z Z h0n) Z<|za 4 Z (qah Z Z Z (hcE.le (h4.t h15)) Z) Z<|za 5 Z (Wd 0 Y5) Z<|za 6 Z (qas Z Z Z Z Z Z h1n) Z<|za 7 Z (qah Z Z Z (hcF.le (h4.t h15)) Z) Z<|qax 8 V<|Jb Z Tt Z Z Z (AC.pubW (qj0 D _ _ p f d b4 b5 x O (ho7 O) (VeR.le (h4.t h15) hvE) (VeR.le (h4.t h15) hvF))) ?_
 rintro _ _ s16 h16 ⟨rfl,hW⟩
 refine ⟨fun _ _ h=>h,?_⟩
 refine za 9 Z (qaM Z) Z<|qal V<|Zt<|Zo<|?_
 refine rR [] _ (.t1 Z) Z (h1.t h2|>.t h3|>.t h4|>.t h15|>.t h16) fun _ hS2=>?_
 first
   | (exact ⟨[_,_,_],rfl,fun s2 hs2 hp=>hW.le ((Lr D).t (hS2.t hs2)) fun _ _ h=>VeR.le ((Lr D).t (hS2.t hs2)) h⟩)
   | (exact ⟨[_,_,_],rfl,fun s2 hs2 hp=>.call _ hk4 (hW.le ((Lr D).t (hS2.t hs2)) fun _ _ h=>VeR.le ((Lr D).t (hS2.t hs2)) h)⟩)
theorem xsr(D:Nat):∀ d,XSR D d
 | 0=>fun L s d0 p Ag Af ng cg nf cf hGl hFn f P1 P2 P3 p1 r1 p2 r2 p3 r3 hP1 hP2 hsz hPK A n c xs hA hO hnl=>AC.pubW (qfT D 0 (fun e h=>by omega) L s d0 p Ag Af ng cg nf cf hGl hFn f P1 P2 P3 p1 r1 p2 r2 p3 r3 hP1 hP2 hsz hPK A n c xs hA hO hnl)
 | d+1=>fun L s d0 p Ag Af ng cg nf cf hGl hFn f P1 P2 P3 p1 r1 p2 r2 p3 r3 hP1 hP2 hsz hPK A n c xs hA hO hnl=>AC.pubW (qfT D (d+1) (fun e h=>(show d=e by omega)▸fun L s d0 p Ag Af ng cg nf cf hGl hFn f P1 P2 P3 p1 r1 p2 r2 p3 r3 hP1 hP2 hsz hPK x A n c hA hu hx=>AC.pubW (qjV D d (xsr D d) L s d0 p Ag Af ng cg nf cf hGl hFn f P1 P2 P3 p1 r1 p2 r2 p3 r3 hP1 hP2 hsz hPK x A n c hA hu hx)) L s d0 p Ag Af ng cg nf cf hGl hFn f P1 P2 P3 p1 r1 p2 r2 p3 r3 hP1 hP2 hsz hPK A n c xs hA hO hnl)
def TPR(D d:Nat):Prop:=∀ (L:Hl) (s:World) (d0:Nat) (p:Prg) (Ag Af:Option Addr) (ng cg nf cf:Nat) (hGl:Glos s Ag ng cg p.globals) (hFn:Fncs d0 s Af nf cf p.funcs) (f:Fnc) (P1 P2 P3:Option Addr) (p1 r1 p2 r2 p3 r3:Nat) (hP1:Strs s P1 p1 r1 f.params) (hP2:Strs s P2 p2 r2 f.locals) (hsz:f.params.length+f.locals.length≤100) (hPK:POK p) (x:Stm) (A1:Option Addr) (n1 c1:Nat) (A2:Option Addr) (n2 c2:Nat) (A3:Option Addr) (n3 c3:Nat),Exs d s A1 n1 c1 x.exprs→Stms d s A2 n2 c2 x.body→Stms d s A3 n3 c3 x.els→qch x.body≤2000→qch x.els≤2000→StOK p f x→AC prog D 48 [.agg #[.slice Ag ng cg,.slice Af nf cf,St f.name,.slice P1 p1 r1,.slice P2 p2 r2,.slice P3 p3 r3],.agg #[.int .i64 x.kind,St x.name,.slice A1 n1 c1,.slice A2 n2 c2,.slice A3 n3 c3]] L s fun v L' s'=>L=L'∧ViS p f (VeR p f d) (VsR p f d) s' x v
def TSR(D d:Nat):Prop:=∀ (L:Hl) (s:World) (d0:Nat) (p:Prg) (Ag Af:Option Addr) (ng cg nf cf:Nat) (hGl:Glos s Ag ng cg p.globals) (hFn:Fncs d0 s Af nf cf p.funcs) (f:Fnc) (P1 P2 P3:Option Addr) (p1 r1 p2 r2 p3 r3:Nat) (hP1:Strs s P1 p1 r1 f.params) (hP2:Strs s P2 p2 r2 f.locals) (hsz:f.params.length+f.locals.length≤100) (hPK:POK p) (A:Option Addr) (n c:Nat) (xs:List Stm),Stms d s A n c xs→(∀ x∈xs,StOK p f x)→qch xs≤2000→AC prog D 22 [.agg #[.slice Ag ng cg,.slice Af nf cf,St f.name,.slice P1 p1 r1,.slice P2 p2 r2,.slice P3 p3 r3],.slice A n c] L s fun v L' s'=>L=L'∧∃ A' n' c',v=.slice A' n' c'∧VsS p f d s' A' n' c' xs
theorem qgg(D d:Nat)(ih:∀ e,d=e+1→TPR D e)(L:Hl)(s:World)(d0:Nat)(p:Prg)(Ag Af:Option Addr)(ng cg nf cf:Nat)(hGl:Glos s Ag ng cg p.globals)(hFn:Fncs d0 s Af nf cf p.funcs)(f:Fnc)(P1 P2 P3:Option Addr)(p1 r1 p2 r2 p3 r3:Nat)(hP1:Strs s P1 p1 r1 f.params)(hP2:Strs s P2 p2 r2 f.locals)(hsz:f.params.length+f.locals.length≤100)(hPK:POK p)(A:Option Addr)(n c:Nat)(xs:List Stm)(hA:Stms d s A n c xs)(hO:∀ x∈xs,StOK p f x)(hN:qch xs≤2000)(hnl:n≤100000):AC prog D 22 [.agg #[.slice Ag ng cg,.slice Af nf cf,St f.name,.slice P1 p1 r1,.slice P2 p2 r2,.slice P3 p3 r3],.slice A n c] L s fun v L' s'=>∃ M',L'=M'++L∧∀ s2,Le D s' s2→Pub M' s2→∃ A' n' c',v=.slice A' n' c'∧VsS p f d s2 A' n' c' xs:=by
 have hn1:=hA.1
 have hb1:=hA.2.1
 have hb2:=hA.2.2.1
 have hlim:n≤100000:=hnl
 refine qai (fn:=f22) qao func22 V Z ntmps22 Z (rs:=[.tmp 4]) Z [(0,_),(1,_)] Z<|Sr<|qaq Z Z ?_
 intro β1 s1 h1
 refine At Z Z<|Sr<|At Z Z<|Zs<|Sr<|Zqm Z Z<|Ws Y4<|Zqm Z Z<|Nt<|Zp<|?_
 refine qav (γ:=Nat×Value×Hl) (fun g=>[(2,_),(4,_),(5,g.2.1),(9,_),(10,_),(11,.int .i64 (g.1:Int))]) (fun g=>_::(g.2.2++L)) (fun g tw=>Le D s1 tw∧(g.1≤n∧∃ css,FL.Own 114 1 g.2.2 g.2.1 g.1 (List.flatten css)∧All2 (fun x cs=>cs.length=1∧VsR p f d tw x cs) (xs.take g.1) css)) (fun g=>n - g.1) (fun _ _ _ h hl=>⟨h.1.trans hl,(by obtain ⟨k1,css,k2,k3⟩:=h.2;exact ⟨k1,css,k2,k3.mono fun _ _ k=>⟨k.1,VsR.le hl k.2⟩⟩)⟩) (0,.slice none 0 0,[]) (.c6 Z Z Z Z Z Z (.nil _)) Z ⟨Le.refl _,⟨Nat.zero_le _,[],.nil,.nil⟩⟩ ?_
 intro g s2 I2
 obtain ⟨k,vk,Mk⟩:=g
 obtain ⟨hk0,css,hOk,hA2⟩:=I2.2
 simp only at hk0 hOk hA2
 dsimp only
 refine Sr<|qbh Z Z Z<|Nt<|Zs<|?_
 refine qaa Z (fun c3=>?_) (fun c3=>?_)
 ·
  have hk:k < n:=by omega
  obtain ⟨e,b,off,x,B1,m1,e1,B2,m2,e2,B3,m3,e3,hd,rfl,hx,hcx,hx1,hx2,hx3,_⟩:=Stms.at_ (hA.le (h1.t I2.1)) hk
  have hNx:=qgU hx
  have hxo:=hO x (List.mem_of_getElem? hx)
  refine Zk<|Zt<|Zs<|Zp<|Sr<|qac (qap Z Z Z Z Z Z hk) Z<|qac (qau Z Z Z (hcx.le (Lr D)) Z) Z<|qaj Z [_,_,_,_,_] Z Z ?_
  intro β4 s4 h4
  refine Wt 0 [_,_,_,_,_] Y9<|Nt<|Sr<|qac (qag 1 [_,_,_,_,_,_] Z Z Z Z Z) Z<|qac (qag 0 [_,_,_,_,_] Z Z Z Z Z) Z<|Jc Z Z Z (ih e hd _ _ d0 p Ag Af ng cg nf cf (hGl.le (h1.t I2.1|>.t h4)) (hFn.le (h1.t I2.1|>.t h4)) f P1 P2 P3 p1 r1 p2 r2 p3 r3 (hP1.le (h1.t I2.1|>.t h4)) (hP2.le (h1.t I2.1|>.t h4)) hsz hPK x B1 m1 e1 B2 m2 e2 B3 m3 e3 (hx1.le h4) (hx2.le h4) (hx3.le h4) O O hxo) ?_
  rintro _ _ s5 h5 ⟨rfl,hvi⟩
  obtain ⟨kk,cap,hvf⟩:=hvi.func
  subst hvf
  refine qaj Z [_] Z Z ?_
  intro β6 s6 h6
  refine Wt 0 [_] Y9<|Nt<|qbC [] [_,_] _ ?_
  intro s7 h7 hpub7
  simp only [cQ9,nQ9]
  have gbx:=hpub7 _ _ _ Mc
  refine Zr<|Zqm Z Z<|qac (qbu Z) Z<|qbk [(_,_)] [_] Z Z Z Z Z Z Z Z Z ?_
  intro β8 s8 h8 hc8
  refine qba (sz:=1) [_] Mk L Z Z Z Z Z Z Z hOk (Row.of_cells (hc8.le (Lr D)) Z Z) ⟨by simp [ti114];omega,by omega⟩ Z ?_
  intro v9 M9 s9 h9 oq
  simp only [cQ9,nQ9]
  refine Zqa Z Z<|Zn<|Zb<|Zt<|Zr<|qaF Z Z Z (w64 O O)<|Zqm Z Z<|Zn<|?_
  refine qab ⟨(k+1,v9,M9),[],kp,Z,⟨(I2.1.t h4|>.t h5|>.t h6|>.t h7|>.t h8|>.t h9),⟨by simp only;omega,css++[[_]],by simp only [List.flatten_append,List.flatten_cons,List.flatten_nil,List.append_nil];exact oq,by simp only;rw [qaS hx];exact (hA2.mono fun _ _ k=>⟨k.1,VsR.le (h4.t h5|>.t h6|>.t h7|>.t h8|>.t h9) k.2⟩).snoc ⟨Z,hd▸⟨_,_,Z,gbx.le (h8.t h9),hvi.le (h6.t h7|>.t h8|>.t h9) (fun _ _ h=>VeR.le (h6.t h7|>.t h8|>.t h9) h) (fun _ _ h=>VsR.le (h6.t h7|>.t h8|>.t h9) h)⟩⟩⟩⟩,Oz⟩
 obtain rfl:n=k:=by omega
 rw [List.take_of_length_le O] at hA2
 obtain ⟨Ak,ck,rfl,_,_⟩:=Own.slice hOk
 refine Zl<|Zv<|Zv<|Zd<|Zt<|Sr<|Zqm Z Z<|At Z Z<|Zo<|?_
 refine rR [] _ (.t1 Z) Z (h1.t I2.1) fun _ hS2=>?_
 exact ⟨_::Mk,rfl,fun s2 hs2 hp=>⟨_,_,_,rfl,Own.rows hOk hp.tail (hA2.mono fun _ _ k=>⟨k.1,VsR.le ((Lr D).t (hS2.t hs2)) k.2⟩) hn1⟩⟩
theorem qjF(D d:Nat)(ihB:TSR D d)(L:Hl)(s:World)(d0:Nat)(p:Prg)(Ag Af:Option Addr)(ng cg nf cf:Nat)(hGl:Glos s Ag ng cg p.globals)(hFn:Fncs d0 s Af nf cf p.funcs)(f:Fnc)(P1 P2 P3:Option Addr)(p1 r1 p2 r2 p3 r3:Nat)(hP1:Strs s P1 p1 r1 f.params)(hP2:Strs s P2 p2 r2 f.locals)(hsz:f.params.length+f.locals.length≤100)(hPK:POK p)(x:Stm)(A1:Option Addr)(n1 q1:Nat)(A2:Option Addr)(n2 q2:Nat)(A3:Option Addr)(n3 q3:Nat)(hA1:Exs d s A1 n1 q1 x.exprs)(hA2:Stms d s A2 n2 q2 x.body)(hA3:Stms d s A3 n3 q3 x.els)(hN2:qch x.body≤2000)(hN3:qch x.els≤2000)(hxo:StOK p f x):AC prog D 48 [.agg #[.slice Ag ng cg,.slice Af nf cf,St f.name,.slice P1 p1 r1,.slice P2 p2 r2,.slice P3 p3 r3],.agg #[.int .i64 x.kind,St x.name,.slice A1 n1 q1,.slice A2 n2 q2,.slice A3 n3 q3]] L s fun v L' s'=>∃ M',L'=M'++L∧∀ s2,Le D s' s2→Pub M' s2→ViS p f (VeR p f d) (VsR p f d) s2 x v:=by
 obtain ⟨lv,hlv⟩:=hxo.1
 obtain ⟨hk1,hk10,hle,hmo,_,_⟩:=qcl (qcI hlv).2.1
 have hn1:=hA1.1
 have hm6:=qnb x.kind
 refine qai (fn:=f48) qao func48 V Z ntmps48 Z (rs:=[.tmp 4]) Z [(0,_),(1,_)] Z<|Sr<|qaq Z Z ?_
 intro β1 s1 h1
 refine qaq Z Z ?_
 intro β2 s2 h2
 refine At Z Z<|Sr<|qac (qag 1 [_,_,_,_,_,_] Z Z Z Z Z) Z<|Wb Y5<|Wl 0 Y6<|Jc Z Z Z (xsr D d _ _ d0 p Ag Af ng cg nf cf (hGl.le (h1.t h2)) (hFn.le (h1.t h2)) f P1 P2 P3 p1 r1 p2 r2 p3 r3 (hP1.le (h1.t h2)) (hP2.le (h1.t h2)) hsz hPK A1 n1 q1 x.exprs (hA1.le (h1.t h2)) hxo.exprs O) ?_
 rintro _ _ s3 h3 ⟨rfl,A',n',c',rfl,hV⟩
 have hn2:=hV.1
 refine qaj Z [_] Z Z ?_
 intro β4 s4 h4
 refine Wt 0 [_] Y9<|Nt<|Zs<|Sr<|W0 Y5<|Wl 1 Y6<|Nt<|Zp<|Sr<|qar Z Z Z<|At Z Z<|?_
 refine qaa Z (fun c5=>?_) (fun c5=>?_)
 ·
  have hkk:x.kind=1:=c5
  have h0n:0 < n':=by have h9:qbO x.kind=1:=(by rw [hkk];rfl);omega
  obtain ⟨B0,o0,b4,hAe0,hcE,hvE⟩:=VeS.at_ hV h0n
  subst hAe0
  refine Zs<|qay qad 8 Z _ (fun _ h=>h) ?_
  intro s6 h6
  refine za 0 Z (qag 2 [_,_,_,_,_,_] Z Z Z Z Z) Z<|za 1 Z (We Y4) Z<|za 2 Z (Wd 1 Y5) Z<|za 3 Z (Wd 0 Y5) Z<|za 4 Z (qas Z Z Z Z Z Z h0n) Z<|za 5 Z (qah Z Z Z (hcE.le (h4.t h6)) Z) Z<|qax 6 V<|Jb Z Tt Z Z Z (AC.pubW (qj6 D _ _ d0 p Ag Af ng cg nf cf (hGl.le (h1.t h2|>.t h3|>.t h4|>.t h6)) (hFn.le (h1.t h2|>.t h3|>.t h4|>.t h6)) f P1 P2 P3 p1 r1 p2 r2 p3 r3 (hP1.le (h1.t h2|>.t h3|>.t h4|>.t h6)) (hP2.le (h1.t h2|>.t h3|>.t h4|>.t h6)) hsz (VsR p f d) d b4 x hkk (ms1 hPK hxo hkk) (VeR.le (h4.t h6) hvE))) ?_
  rintro _ _ s7 h7 ⟨rfl,hW⟩
  refine ⟨fun _ _ h=>h,?_⟩
  refine za 7 Z (qaM Z) Z<|qal V<|Zt<|Zo<|Zc<|Zu<|?_
  refine rR [] _ (.t1 Z) Z (h1.t h2|>.t h3|>.t h4|>.t h6|>.t h7) fun _ hS2=>?_
  exact ⟨[_,_,_],rfl,fun s2 hs2 hp=>hW.le ((Lr D).t (hS2.t hs2)) (fun _ _ h=>VeR.le ((Lr D).t (hS2.t hs2)) h) fun _ _ h=>VsR.le ((Lr D).t (hS2.t hs2)) h⟩
 refine Sr<|qar Z Z Z<|At Z Z<|?_
 refine qaa Z (fun c8=>?_) (fun c8=>?_)
 ·
  have hkk:x.kind=2:=c8
  obtain ⟨k,g,hg,hgp,g3⟩:=ms2 hPK hxo hkk
  have h1n:1 < n':=by have h9:qbO x.kind=2:=(by rw [hkk];rfl);omega
  refine Sr<|qac (qag 2 [_,_,_,_,_,_] Z Z Z Z Z) Z<|Wb Y5<|Wl 1 Y6<|Jc Z Z Z (qej D _ _ d0 p Ag Af ng cg nf cf (hGl.le (h1.t h2|>.t h3|>.t h4)) (hFn.le (h1.t h2|>.t h3|>.t h4)) f P1 P2 P3 p1 r1 p2 r2 p3 r3 (hP1.le (h1.t h2|>.t h3|>.t h4)) (hP2.le (h1.t h2|>.t h3|>.t h4)) x.name) ?_
  rintro _ _ s9 h9 ⟨rfl,rfl⟩
  refine qaj Z [_] Z Z ?_
  intro β10 s10 h10
  refine Wt 0 [_] Y9<|Nt<|Sr<|qac (qbu Z) Z<|At Z Z<|Zo<|Zc<|Zu<|?_
  refine rR [] _ (.t1 Z) Z (h1.t h2|>.t h3|>.t h4|>.t h9|>.t h10) fun _ hS2=>?_
  exact ⟨[_,_,_,_],rfl,fun s2 hs2 hp=>.store _ _ k g _ _ _ hkk hg hgp g3 (by rw [← hg];exact (hp _ _ _ Mc)) (hp _ _ _ (List.mem_cons_of_mem _ Mc)) (hV.le (h4.t h9|>.t h10|>.t (hS2.t hs2))) h1n⟩
 refine Sr<|qar Z Z Z<|At Z Z<|?_
 refine qaa Z (fun c11=>?_) (fun c11=>?_)
 ·
  have hkk:x.kind=3:=c11
  have h0n:0 < n':=by have h9:qbO x.kind=1:=(by rw [hkk];rfl);omega
  refine qlS (γ:=Nat×Nat×Value×Value) (fun g=>[(7,.pointer (some ⟨g.1,0,none⟩)),(8,.pointer (some ⟨g.2.1,0,none⟩))]) (fun g=>[(g.1,cb [g.2.2.1] 60),(g.2.1,cb [g.2.2.2] 60)]) (fun g tw=>∃ B5 m5 e5 B6 m6 e6,g.2.2.1=.slice B5 m5 e5∧g.2.2.2=.slice B6 m6 e6∧VsS p f d tw B5 m5 e5 x.body∧VsS p f d tw B6 m6 e6 x.els) (fun _ _ _ h hl=>(by obtain ⟨a,b,c,d,e,f,h1,h2,h3,h4⟩:=h;exact ⟨a,b,c,d,e,f,h1,h2,h3.le hl,h4.le hl⟩)) ?_ ?_
  ·
   refine qay qad 12 Z _ (fun _ h=>h) ?_
   intro s13 h13
   refine za 0 Z (qag 2 [_,_,_,_,_,_] Z Z Z Z Z) Z<|za 1 Z (We Y4) Z<|za 2 Z (Wd 1 Y5) Z<|za 4 Z (qag 2 [_,_,_,_,_,_] Z Z Z Z Z) Z<|za 5 Z (We Y4) Z<|za 6 Z (Wd 1 Y5) Z ?_
   refine JA_3 3 8 9 V ?_ ?_ ?_
   ·
    refine Jb Z Tt Z Z Z (ihB _ _ d0 p Ag Af ng cg nf cf (hGl.le (h1.t h2|>.t h3|>.t h4|>.t h13)) (hFn.le (h1.t h2|>.t h3|>.t h4|>.t h13)) f P1 P2 P3 p1 r1 p2 r2 p3 r3 (hP1.le (h1.t h2|>.t h3|>.t h4|>.t h13)) (hP2.le (h1.t h2|>.t h3|>.t h4|>.t h13)) hsz hPK A2 n2 q2 x.body (hA2.le (h1.t h2|>.t h3|>.t h4|>.t h13)) hxo.body O) ?_
    rintro _ _ s14 h14 ⟨rfl,B5,m5,e5,rfl,hB5⟩
    refine ⟨fun _ _ h=>h,?_⟩
    refine JA_3 7 8 9 V ?_ ?_ ?_
    ·
     refine Jb Z Tt Z Z Z (ihB _ _ d0 p Ag Af ng cg nf cf (hGl.le (h1.t h2|>.t h3|>.t h4|>.t h13|>.t h14)) (hFn.le (h1.t h2|>.t h3|>.t h4|>.t h13|>.t h14)) f P1 P2 P3 p1 r1 p2 r2 p3 r3 (hP1.le (h1.t h2|>.t h3|>.t h4|>.t h13|>.t h14)) (hP2.le (h1.t h2|>.t h3|>.t h4|>.t h13|>.t h14)) hsz hPK A3 n3 q3 x.els (hA3.le (h1.t h2|>.t h3|>.t h4|>.t h13|>.t h14)) hxo.els O) ?_
     rintro _ _ s15 h15 ⟨rfl,B6,m6,e6,rfl,hB6⟩
     refine ⟨fun _ _ h=>h,?_⟩
     refine qfl 8 9 V ?_ ?_
     ·
      refine qaL Z Tt Z [_] Z Z ?_
      intro β16 s16 h16
      refine qax 9 V<|qaL Z Tt Z [_] Z Z ?_
      intro β17 s17 h17
      refine qax 10 V<|Wu Z Tt 1 [_] Y9 (sM (sbN (qdC (sbE _))))<|qax 11 V<|Wu Z Tt 0 [_] Y9 (sM (sbN (qdC (sbE _))))<|qal V ?_
      refine qab (MidN.mk (β16,β17,_,_) [] (h13.t h14|>.t h15|>.t h16|>.t h17) (.c2 Z Z sk) (List.Perm.swap _ _ _) ⟨_,_,_,_,_,_,Z,Z,hB5.le (h15.t h16|>.t h17),hB6.le (h16.t h17)⟩)
     refine qaL Z Tt Z [_] Z Z ?_
     intro β18 s18 h18
     refine qax 8 V<|qaL Z Tt Z [_] Z Z ?_
     intro β19 s19 h19
     refine qax 10 V<|Wu Z Tt 0 [_] Y9 (sM (sbN (qdC (sbE _))))<|qax 11 V<|Wu Z Tt 1 [_] Y9 (sM (sbN (qdC (sbE _))))<|qal V ?_
     refine qab (MidN.mk (β19,β18,_,_) [] (h13.t h14|>.t h15|>.t h18|>.t h19) (.c2 Z Z sk) Pr ⟨_,_,_,_,_,_,Z,Z,hB5.le (h15.t h18|>.t h19),hB6.le (h18.t h19)⟩)
    ·
     refine qaL Z Tt Z [_] Z Z ?_
     intro β20 s20 h20
     refine qfl 7 9 V ?_ ?_
     ·
      refine Jb Z Tt Z Z Z (ihB _ _ d0 p Ag Af ng cg nf cf (hGl.le (h1.t h2|>.t h3|>.t h4|>.t h13|>.t h14|>.t h20)) (hFn.le (h1.t h2|>.t h3|>.t h4|>.t h13|>.t h14|>.t h20)) f P1 P2 P3 p1 r1 p2 r2 p3 r3 (hP1.le (h1.t h2|>.t h3|>.t h4|>.t h13|>.t h14|>.t h20)) (hP2.le (h1.t h2|>.t h3|>.t h4|>.t h13|>.t h14|>.t h20)) hsz hPK A3 n3 q3 x.els (hA3.le (h1.t h2|>.t h3|>.t h4|>.t h13|>.t h14|>.t h20)) hxo.els O) ?_
      rintro _ _ s21 h21 ⟨rfl,B6,m6,e6,rfl,hB6⟩
      refine ⟨fun _ _ h=>h,?_⟩
      refine qax 9 V<|qaL Z Tt Z [_] Z Z ?_
      intro β22 s22 h22
      refine qax 10 V<|Wu Z Tt 1 [_] Y9 (sM (sbN (qdC (sbE _))))<|qax 11 V<|Wu Z Tt 0 [_] Y9 (sM (sbN (qdC (sbE _))))<|qal V ?_
      refine qab (MidN.mk (β20,β22,_,_) [] (h13.t h14|>.t h20|>.t h21|>.t h22) (.c2 Z Z sk) (List.Perm.swap _ _ _) ⟨_,_,_,_,_,_,Z,Z,hB5.le (h20.t h21|>.t h22),hB6.le h22⟩)
     refine qaL Z Tt Z [_] Z Z ?_
     intro β23 s23 h23
     refine qax 7 V<|Jb Z Tt Z Z Z (ihB _ _ d0 p Ag Af ng cg nf cf (hGl.le (h1.t h2|>.t h3|>.t h4|>.t h13|>.t h14|>.t h20|>.t h23)) (hFn.le (h1.t h2|>.t h3|>.t h4|>.t h13|>.t h14|>.t h20|>.t h23)) f P1 P2 P3 p1 r1 p2 r2 p3 r3 (hP1.le (h1.t h2|>.t h3|>.t h4|>.t h13|>.t h14|>.t h20|>.t h23)) (hP2.le (h1.t h2|>.t h3|>.t h4|>.t h13|>.t h14|>.t h20|>.t h23)) hsz hPK A3 n3 q3 x.els (hA3.le (h1.t h2|>.t h3|>.t h4|>.t h13|>.t h14|>.t h20|>.t h23)) hxo.els O) ?_
     rintro _ _ s24 h24 ⟨rfl,B6,m6,e6,rfl,hB6⟩
     refine ⟨fun _ _ h=>h,?_⟩
     refine qax 10 V<|Wu Z Tt 1 [_] Y9 (sM (sbN (qdC (sbE _))))<|qax 11 V<|Wu Z Tt 0 [_] Y9 (sM (sbN (qdC (sbE _))))<|qal V ?_
     refine qab (MidN.mk (β20,β23,_,_) [] (h13.t h14|>.t h20|>.t h23|>.t h24) (.c2 Z Z sk) (List.Perm.swap _ _ _) ⟨_,_,_,_,_,_,Z,Z,hB5.le (h20.t h23|>.t h24),hB6.le (Lr D)⟩)
    refine qaL Z Tt Z [_] Z Z ?_
    intro β25 s25 h25
    refine qfl 7 8 V ?_ ?_
    ·
     refine Jb Z Tt Z Z Z (ihB _ _ d0 p Ag Af ng cg nf cf (hGl.le (h1.t h2|>.t h3|>.t h4|>.t h13|>.t h14|>.t h25)) (hFn.le (h1.t h2|>.t h3|>.t h4|>.t h13|>.t h14|>.t h25)) f P1 P2 P3 p1 r1 p2 r2 p3 r3 (hP1.le (h1.t h2|>.t h3|>.t h4|>.t h13|>.t h14|>.t h25)) (hP2.le (h1.t h2|>.t h3|>.t h4|>.t h13|>.t h14|>.t h25)) hsz hPK A3 n3 q3 x.els (hA3.le (h1.t h2|>.t h3|>.t h4|>.t h13|>.t h14|>.t h25)) hxo.els O) ?_
     rintro _ _ s26 h26 ⟨rfl,B6,m6,e6,rfl,hB6⟩
     refine ⟨fun _ _ h=>h,?_⟩
     refine qax 8 V<|qaL Z Tt Z [_] Z Z ?_
     intro β27 s27 h27
     refine qax 10 V<|Wu Z Tt 0 [_] Y9 (sM (sbN (qdC (sbE _))))<|qax 11 V<|Wu Z Tt 1 [_] Y9 (sM (sbN (qdC (sbE _))))<|qal V ?_
     refine qab (MidN.mk (β27,β25,_,_) [] (h13.t h14|>.t h25|>.t h26|>.t h27) (.c2 Z Z sk) Pr ⟨_,_,_,_,_,_,Z,Z,hB5.le (h25.t h26|>.t h27),hB6.le h27⟩)
    refine qaL Z Tt Z [_] Z Z ?_
    intro β28 s28 h28
    refine qax 7 V<|Jb Z Tt Z Z Z (ihB _ _ d0 p Ag Af ng cg nf cf (hGl.le (h1.t h2|>.t h3|>.t h4|>.t h13|>.t h14|>.t h25|>.t h28)) (hFn.le (h1.t h2|>.t h3|>.t h4|>.t h13|>.t h14|>.t h25|>.t h28)) f P1 P2 P3 p1 r1 p2 r2 p3 r3 (hP1.le (h1.t h2|>.t h3|>.t h4|>.t h13|>.t h14|>.t h25|>.t h28)) (hP2.le (h1.t h2|>.t h3|>.t h4|>.t h13|>.t h14|>.t h25|>.t h28)) hsz hPK A3 n3 q3 x.els (hA3.le (h1.t h2|>.t h3|>.t h4|>.t h13|>.t h14|>.t h25|>.t h28)) hxo.els O) ?_
    rintro _ _ s29 h29 ⟨rfl,B6,m6,e6,rfl,hB6⟩
    refine ⟨fun _ _ h=>h,?_⟩
    refine qax 10 V<|Wu Z Tt 0 [_] Y9 (sM (sbN (qdC (sbE _))))<|qax 11 V<|Wu Z Tt 1 [_] Y9 (sM (sbN (qdC (sbE _))))<|qal V ?_
    refine qab (MidN.mk (β28,β25,_,_) [] (h13.t h14|>.t h25|>.t h28|>.t h29) (.c2 Z Z sk) Pr ⟨_,_,_,_,_,_,Z,Z,hB5.le (h25.t h28|>.t h29),hB6.le (Lr D)⟩)
   ·
    refine qaL Z Tt Z [_] Z Z ?_
    intro β30 s30 h30
    refine qfl 3 9 V ?_ ?_
    ·
     refine Jb Z Tt Z Z Z (ihB _ _ d0 p Ag Af ng cg nf cf (hGl.le (h1.t h2|>.t h3|>.t h4|>.t h13|>.t h30)) (hFn.le (h1.t h2|>.t h3|>.t h4|>.t h13|>.t h30)) f P1 P2 P3 p1 r1 p2 r2 p3 r3 (hP1.le (h1.t h2|>.t h3|>.t h4|>.t h13|>.t h30)) (hP2.le (h1.t h2|>.t h3|>.t h4|>.t h13|>.t h30)) hsz hPK A2 n2 q2 x.body (hA2.le (h1.t h2|>.t h3|>.t h4|>.t h13|>.t h30)) hxo.body O) ?_
     rintro _ _ s31 h31 ⟨rfl,B5,m5,e5,rfl,hB5⟩
     refine ⟨fun _ _ h=>h,?_⟩
     refine qfl 7 9 V ?_ ?_
     ·
      refine Jb Z Tt Z Z Z (ihB _ _ d0 p Ag Af ng cg nf cf (hGl.le (h1.t h2|>.t h3|>.t h4|>.t h13|>.t h30|>.t h31)) (hFn.le (h1.t h2|>.t h3|>.t h4|>.t h13|>.t h30|>.t h31)) f P1 P2 P3 p1 r1 p2 r2 p3 r3 (hP1.le (h1.t h2|>.t h3|>.t h4|>.t h13|>.t h30|>.t h31)) (hP2.le (h1.t h2|>.t h3|>.t h4|>.t h13|>.t h30|>.t h31)) hsz hPK A3 n3 q3 x.els (hA3.le (h1.t h2|>.t h3|>.t h4|>.t h13|>.t h30|>.t h31)) hxo.els O) ?_
      rintro _ _ s32 h32 ⟨rfl,B6,m6,e6,rfl,hB6⟩
      refine ⟨fun _ _ h=>h,?_⟩
      refine qax 9 V<|qaL Z Tt Z [_] Z Z ?_
      intro β33 s33 h33
      refine qax 10 V<|Wu Z Tt 1 [_] Y9 (sM (sbN (qdC (sbE _))))<|qax 11 V<|Wu Z Tt 0 [_] Y9 (sM (sbN (qdC (sbE _))))<|qal V ?_
      refine qab (MidN.mk (β30,β33,_,_) [] (h13.t h30|>.t h31|>.t h32|>.t h33) (.c2 Z Z sk) (List.Perm.swap _ _ _) ⟨_,_,_,_,_,_,Z,Z,hB5.le (h32.t h33),hB6.le h33⟩)
     refine qaL Z Tt Z [_] Z Z ?_
     intro β34 s34 h34
     refine qax 7 V<|Jb Z Tt Z Z Z (ihB _ _ d0 p Ag Af ng cg nf cf (hGl.le (h1.t h2|>.t h3|>.t h4|>.t h13|>.t h30|>.t h31|>.t h34)) (hFn.le (h1.t h2|>.t h3|>.t h4|>.t h13|>.t h30|>.t h31|>.t h34)) f P1 P2 P3 p1 r1 p2 r2 p3 r3 (hP1.le (h1.t h2|>.t h3|>.t h4|>.t h13|>.t h30|>.t h31|>.t h34)) (hP2.le (h1.t h2|>.t h3|>.t h4|>.t h13|>.t h30|>.t h31|>.t h34)) hsz hPK A3 n3 q3 x.els (hA3.le (h1.t h2|>.t h3|>.t h4|>.t h13|>.t h30|>.t h31|>.t h34)) hxo.els O) ?_
     rintro _ _ s35 h35 ⟨rfl,B6,m6,e6,rfl,hB6⟩
     refine ⟨fun _ _ h=>h,?_⟩
     refine qax 10 V<|Wu Z Tt 1 [_] Y9 (sM (sbN (qdC (sbE _))))<|qax 11 V<|Wu Z Tt 0 [_] Y9 (sM (sbN (qdC (sbE _))))<|qal V ?_
     refine qab (MidN.mk (β30,β34,_,_) [] (h13.t h30|>.t h31|>.t h34|>.t h35) (.c2 Z Z sk) (List.Perm.swap _ _ _) ⟨_,_,_,_,_,_,Z,Z,hB5.le (h34.t h35),hB6.le (Lr D)⟩)
    refine qaL Z Tt Z [_] Z Z ?_
    intro β36 s36 h36
    refine qax 3 V<|Jb Z Tt Z Z Z (ihB _ _ d0 p Ag Af ng cg nf cf (hGl.le (h1.t h2|>.t h3|>.t h4|>.t h13|>.t h30|>.t h36)) (hFn.le (h1.t h2|>.t h3|>.t h4|>.t h13|>.t h30|>.t h36)) f P1 P2 P3 p1 r1 p2 r2 p3 r3 (hP1.le (h1.t h2|>.t h3|>.t h4|>.t h13|>.t h30|>.t h36)) (hP2.le (h1.t h2|>.t h3|>.t h4|>.t h13|>.t h30|>.t h36)) hsz hPK A2 n2 q2 x.body (hA2.le (h1.t h2|>.t h3|>.t h4|>.t h13|>.t h30|>.t h36)) hxo.body O) ?_
    rintro _ _ s37 h37 ⟨rfl,B5,m5,e5,rfl,hB5⟩
    refine ⟨fun _ _ h=>h,?_⟩
    refine qax 7 V<|Jb Z Tt Z Z Z (ihB _ _ d0 p Ag Af ng cg nf cf (hGl.le (h1.t h2|>.t h3|>.t h4|>.t h13|>.t h30|>.t h36|>.t h37)) (hFn.le (h1.t h2|>.t h3|>.t h4|>.t h13|>.t h30|>.t h36|>.t h37)) f P1 P2 P3 p1 r1 p2 r2 p3 r3 (hP1.le (h1.t h2|>.t h3|>.t h4|>.t h13|>.t h30|>.t h36|>.t h37)) (hP2.le (h1.t h2|>.t h3|>.t h4|>.t h13|>.t h30|>.t h36|>.t h37)) hsz hPK A3 n3 q3 x.els (hA3.le (h1.t h2|>.t h3|>.t h4|>.t h13|>.t h30|>.t h36|>.t h37)) hxo.els O) ?_
    rintro _ _ s38 h38 ⟨rfl,B6,m6,e6,rfl,hB6⟩
    refine ⟨fun _ _ h=>h,?_⟩
    refine qax 10 V<|Wu Z Tt 1 [_] Y9 (sM (sbN (qdC (sbE _))))<|qax 11 V<|Wu Z Tt 0 [_] Y9 (sM (sbN (qdC (sbE _))))<|qal V ?_
    refine qab (MidN.mk (β30,β36,_,_) [] (h13.t h30|>.t h36|>.t h37|>.t h38) (.c2 Z Z sk) (List.Perm.swap _ _ _) ⟨_,_,_,_,_,_,Z,Z,hB5.le h38,hB6.le (Lr D)⟩)
   refine qaL Z Tt Z [_] Z Z ?_
   intro β39 s39 h39
   refine qfl 3 8 V ?_ ?_
   ·
    refine Jb Z Tt Z Z Z (ihB _ _ d0 p Ag Af ng cg nf cf (hGl.le (h1.t h2|>.t h3|>.t h4|>.t h13|>.t h39)) (hFn.le (h1.t h2|>.t h3|>.t h4|>.t h13|>.t h39)) f P1 P2 P3 p1 r1 p2 r2 p3 r3 (hP1.le (h1.t h2|>.t h3|>.t h4|>.t h13|>.t h39)) (hP2.le (h1.t h2|>.t h3|>.t h4|>.t h13|>.t h39)) hsz hPK A2 n2 q2 x.body (hA2.le (h1.t h2|>.t h3|>.t h4|>.t h13|>.t h39)) hxo.body O) ?_
    rintro _ _ s40 h40 ⟨rfl,B5,m5,e5,rfl,hB5⟩
    refine ⟨fun _ _ h=>h,?_⟩
    refine qfl 7 8 V ?_ ?_
    ·
     refine Jb Z Tt Z Z Z (ihB _ _ d0 p Ag Af ng cg nf cf (hGl.le (h1.t h2|>.t h3|>.t h4|>.t h13|>.t h39|>.t h40)) (hFn.le (h1.t h2|>.t h3|>.t h4|>.t h13|>.t h39|>.t h40)) f P1 P2 P3 p1 r1 p2 r2 p3 r3 (hP1.le (h1.t h2|>.t h3|>.t h4|>.t h13|>.t h39|>.t h40)) (hP2.le (h1.t h2|>.t h3|>.t h4|>.t h13|>.t h39|>.t h40)) hsz hPK A3 n3 q3 x.els (hA3.le (h1.t h2|>.t h3|>.t h4|>.t h13|>.t h39|>.t h40)) hxo.els O) ?_
     rintro _ _ s41 h41 ⟨rfl,B6,m6,e6,rfl,hB6⟩
     refine ⟨fun _ _ h=>h,?_⟩
     refine qax 8 V<|qaL Z Tt Z [_] Z Z ?_
     intro β42 s42 h42
     refine qax 10 V<|Wu Z Tt 0 [_] Y9 (sM (sbN (qdC (sbE _))))<|qax 11 V<|Wu Z Tt 1 [_] Y9 (sM (sbN (qdC (sbE _))))<|qal V ?_
     refine qab (MidN.mk (β42,β39,_,_) [] (h13.t h39|>.t h40|>.t h41|>.t h42) (.c2 Z Z sk) Pr ⟨_,_,_,_,_,_,Z,Z,hB5.le (h41.t h42),hB6.le h42⟩)
    refine qaL Z Tt Z [_] Z Z ?_
    intro β43 s43 h43
    refine qax 7 V<|Jb Z Tt Z Z Z (ihB _ _ d0 p Ag Af ng cg nf cf (hGl.le (h1.t h2|>.t h3|>.t h4|>.t h13|>.t h39|>.t h40|>.t h43)) (hFn.le (h1.t h2|>.t h3|>.t h4|>.t h13|>.t h39|>.t h40|>.t h43)) f P1 P2 P3 p1 r1 p2 r2 p3 r3 (hP1.le (h1.t h2|>.t h3|>.t h4|>.t h13|>.t h39|>.t h40|>.t h43)) (hP2.le (h1.t h2|>.t h3|>.t h4|>.t h13|>.t h39|>.t h40|>.t h43)) hsz hPK A3 n3 q3 x.els (hA3.le (h1.t h2|>.t h3|>.t h4|>.t h13|>.t h39|>.t h40|>.t h43)) hxo.els O) ?_
    rintro _ _ s44 h44 ⟨rfl,B6,m6,e6,rfl,hB6⟩
    refine ⟨fun _ _ h=>h,?_⟩
    refine qax 10 V<|Wu Z Tt 0 [_] Y9 (sM (sbN (qdC (sbE _))))<|qax 11 V<|Wu Z Tt 1 [_] Y9 (sM (sbN (qdC (sbE _))))<|qal V ?_
    refine qab (MidN.mk (β43,β39,_,_) [] (h13.t h39|>.t h40|>.t h43|>.t h44) (.c2 Z Z sk) Pr ⟨_,_,_,_,_,_,Z,Z,hB5.le (h43.t h44),hB6.le (Lr D)⟩)
   refine qaL Z Tt Z [_] Z Z ?_
   intro β45 s45 h45
   refine qax 3 V<|Jb Z Tt Z Z Z (ihB _ _ d0 p Ag Af ng cg nf cf (hGl.le (h1.t h2|>.t h3|>.t h4|>.t h13|>.t h39|>.t h45)) (hFn.le (h1.t h2|>.t h3|>.t h4|>.t h13|>.t h39|>.t h45)) f P1 P2 P3 p1 r1 p2 r2 p3 r3 (hP1.le (h1.t h2|>.t h3|>.t h4|>.t h13|>.t h39|>.t h45)) (hP2.le (h1.t h2|>.t h3|>.t h4|>.t h13|>.t h39|>.t h45)) hsz hPK A2 n2 q2 x.body (hA2.le (h1.t h2|>.t h3|>.t h4|>.t h13|>.t h39|>.t h45)) hxo.body O) ?_
   rintro _ _ s46 h46 ⟨rfl,B5,m5,e5,rfl,hB5⟩
   refine ⟨fun _ _ h=>h,?_⟩
   refine qax 7 V<|Jb Z Tt Z Z Z (ihB _ _ d0 p Ag Af ng cg nf cf (hGl.le (h1.t h2|>.t h3|>.t h4|>.t h13|>.t h39|>.t h45|>.t h46)) (hFn.le (h1.t h2|>.t h3|>.t h4|>.t h13|>.t h39|>.t h45|>.t h46)) f P1 P2 P3 p1 r1 p2 r2 p3 r3 (hP1.le (h1.t h2|>.t h3|>.t h4|>.t h13|>.t h39|>.t h45|>.t h46)) (hP2.le (h1.t h2|>.t h3|>.t h4|>.t h13|>.t h39|>.t h45|>.t h46)) hsz hPK A3 n3 q3 x.els (hA3.le (h1.t h2|>.t h3|>.t h4|>.t h13|>.t h39|>.t h45|>.t h46)) hxo.els O) ?_
   rintro _ _ s47 h47 ⟨rfl,B6,m6,e6,rfl,hB6⟩
   refine ⟨fun _ _ h=>h,?_⟩
   refine qax 10 V<|Wu Z Tt 0 [_] Y9 (sM (sbN (qdC (sbE _))))<|qax 11 V<|Wu Z Tt 1 [_] Y9 (sM (sbN (qdC (sbE _))))<|qal V ?_
   refine qab (MidN.mk (β45,β39,_,_) [] (h13.t h39|>.t h45|>.t h46|>.t h47) (.c2 Z Z sk) Pr ⟨_,_,_,_,_,_,Z,Z,hB5.le h47,hB6.le (Lr D)⟩)
  intro g s12 h12 I12
  simp only [cQ9,nQ9]
  obtain ⟨b7,b8,v5,v6⟩:=g
  obtain ⟨B5,m5,e5,B6,m6,e6,h95,h96,hB5,hB6⟩:=I12
  simp only at h95 h96
  subst h95
  subst h96
  dsimp only
  refine Sr<|qac (qbu Z) Z<|At Z Z<|Zo<|Zc<|Zu<|?_
  refine rR [] _ (.t1 Z) Z (h1.t h2|>.t h3|>.t h4|>.t h12) fun _ hS2=>?_
  exact ⟨[_,_,_,_,_],rfl,fun s2 hs2 hp=>.cond _ _ _ _ _ _ _ _ _ _ _ _ hkk (hp _ _ _ (List.mem_cons_of_mem _ (List.mem_cons_of_mem _ Mc))) (hp _ _ _ Mc) (hp _ _ _ (List.mem_cons_of_mem _ Mc)) (hV.le (h4.t h12|>.t (hS2.t hs2))) h0n (hB5.le ((Lr D).t (hS2.t hs2))) (hB6.le ((Lr D).t (hS2.t hs2)))⟩
 refine Sr<|qar Z Z Z<|At Z Z<|?_
 refine qaa Z (fun c48=>?_) (fun c48=>?_)
 ·
  have hkk:x.kind=4:=c48
  have h0n:0 < n':=by have h9:qbO x.kind=1:=(by rw [hkk];rfl);omega
  refine Sr<|qac (qag 2 [_,_,_,_,_,_] Z Z Z Z Z) Z<|Wb Y5<|Wl 1 Y6<|Jc Z Z Z (ihB _ _ d0 p Ag Af ng cg nf cf (hGl.le (h1.t h2|>.t h3|>.t h4)) (hFn.le (h1.t h2|>.t h3|>.t h4)) f P1 P2 P3 p1 r1 p2 r2 p3 r3 (hP1.le (h1.t h2|>.t h3|>.t h4)) (hP2.le (h1.t h2|>.t h3|>.t h4)) hsz hPK A2 n2 q2 x.body (hA2.le (h1.t h2|>.t h3|>.t h4)) hxo.body O) ?_
  rintro _ _ s49 h49 ⟨rfl,B5,m5,e5,rfl,hB5⟩
  refine qaj Z [_] Z Z ?_
  intro β50 s50 h50
  refine Wt 0 [_] Y9<|Nt<|Sr<|qac (qbu Z) Z<|At Z Z<|Zo<|Zc<|Zu<|?_
  refine rR [] _ (.t1 Z) Z (h1.t h2|>.t h3|>.t h4|>.t h49|>.t h50) fun _ hS2=>?_
  exact ⟨[_,_,_,_],rfl,fun s2 hs2 hp=>.loop _ _ _ _ _ _ _ _ hkk (hp _ _ _ (List.mem_cons_of_mem _ Mc)) (hp _ _ _ Mc) (hV.le (h4.t h49|>.t h50|>.t (hS2.t hs2))) h0n (hB5.le (h50.t (hS2.t hs2)))⟩
 refine Sr<|qar Z Z Z<|At Z Z<|?_
 refine qaa Z (fun c51=>?_) (fun c51=>?_)
 ·
  have hkk:x.kind=5:=c51
  obtain ⟨k,fk,hg,hpk,hl⟩:=ms5 hPK hxo hkk
  refine Sr<|qac (qag 2 [_,_,_,_,_,_] Z Z Z Z Z) Z<|Wb Y5<|Wl 1 Y6<|Wl 0 Y6<|Jc Z Z Z (AC.pubW (qhK D _ _ d0 p Ag Af ng cg nf cf (hGl.le (h1.t h2|>.t h3|>.t h4)) (hFn.le (h1.t h2|>.t h3|>.t h4)) f P1 P2 P3 p1 r1 p2 r2 p3 r3 (hP1.le (h1.t h2|>.t h3|>.t h4)) (hP2.le (h1.t h2|>.t h3|>.t h4)) d x.name x.exprs A' n' c' k fk (hV.le h4) hg hpk hl)) ?_
  rintro _ _ s52 h52 ⟨rfl,hW⟩
  obtain ⟨be,bi,A9,n9,c9,k9,fk9,hvf,hW⟩:=hW
  subst hvf
  have hW:CallV p (VeR p f d) s52 x.name x.exprs _:=⟨be,bi,A9,n9,c9,k9,fk9,rfl,hW⟩
  refine qaj Z [_] Z Z ?_
  intro β53 s53 h53
  refine Wt 0 [_] Y9<|Nt<|Sr<|qac (qbu Z) Z<|At Z Z<|Zo<|Zc<|Zu<|?_
  refine rR [] _ (.t1 Z) Z (h1.t h2|>.t h3|>.t h4|>.t h52|>.t h53) fun _ hS2=>?_
  exact ⟨[_,_,_,_],rfl,fun s2 hs2 hp=>.call _ _ hkk (hp _ _ _ Mc) (hW.le (h53.t (hS2.t hs2)) fun _ _ h=>VeR.le (h53.t (hS2.t hs2)) h)⟩
 refine Sr<|qar Z Z Z<|At Z Z<|?_
 refine qaa Z (fun c54=>?_) (fun c54=>?_)
 ·
  have hkk:x.kind=6:=c54
  have h0n:0 < n':=by have h9:qbO x.kind=1:=(by rw [hkk];rfl);omega
  refine Sr<|qac (qbu Z) Z<|At Z Z<|Zo<|Zc<|Zu<|?_
  refine rR [] _ (.t1 Z) Z (h1.t h2|>.t h3|>.t h4) fun _ hS2=>?_
  exact ⟨[_,_,_],rfl,fun s2 hs2 hp=>.ret _ _ _ _ hkk (hp _ _ _ Mc) (hV.le (h4.t (hS2.t hs2))) h0n⟩
 refine Sr<|qar Z Z Z<|At Z Z<|?_
 refine qaa Z (fun c55=>?_) (fun c55=>?_)
 ·
  have hkk:x.kind=7:=c55
  have h0n:0 < n':=by have h9:qbO x.kind=1:=(by rw [hkk];rfl);omega
  refine Sr<|qac (qbu Z) Z<|At Z Z<|Zo<|Zc<|Zu<|?_
  refine rR [] _ (.t1 Z) Z (h1.t h2|>.t h3|>.t h4) fun _ hS2=>?_
  exact ⟨[_,_,_],rfl,fun s2 hs2 hp=>.put _ _ _ _ hkk (hp _ _ _ Mc) (hV.le (h4.t (hS2.t hs2))) h0n⟩
 refine Sr<|qar Z Z Z<|At Z Z<|?_
 refine qaa Z (fun c56=>?_) (fun c56=>?_)
 ·
  have hkk:x.kind=8:=c56
  have h0n:0 < n':=by have h9:qbO x.kind=1:=(by rw [hkk];rfl);omega
  refine Sr<|qac (qbu Z) Z<|At Z Z<|Zo<|Zc<|Zu<|?_
  refine rR [] _ (.t1 Z) Z (h1.t h2|>.t h3|>.t h4) fun _ hS2=>?_
  exact ⟨[_,_,_],rfl,fun s2 hs2 hp=>.stop _ _ _ _ hkk (hp _ _ _ Mc) (hV.le (h4.t (hS2.t hs2))) h0n⟩
 refine Sr<|qar Z Z Z<|At Z Z<|?_
 refine qaa Z (fun c57=>?_) (fun c57=>?_)
 ·
  have hkk:x.kind=9:=c57
  refine Sr<|At Z Z<|Zo<|Zc<|Zu<|?_
  refine rR [] _ (.t1 Z) Z (h1.t h2|>.t h3|>.t h4) fun _ hS2=>?_
  exact ⟨[_,_,_],rfl,fun s2 hs2 hp=>.brk hkk⟩
 have hkk:x.kind=10:=by omega
 refine Zk<|Zb<|Zt<|Sr<|At Z Z<|Zo<|?_
 refine rR [] _ (.t1 Z) Z (h1.t h2|>.t h3|>.t h4) fun _ hS2=>?_
 exact ⟨[_,_,_],rfl,fun s2 hs2 hp=>.cont hkk⟩
theorem tsr(D:Nat):∀ d,TSR D d
 | 0=>fun L s d0 p Ag Af ng cg nf cf hGl hFn f P1 P2 P3 p1 r1 p2 r2 p3 r3 hP1 hP2 hsz hPK A n c xs hA hO hN=>AC.pubW (qgg D 0 (fun e h=>by omega) L s d0 p Ag Af ng cg nf cf hGl hFn f P1 P2 P3 p1 r1 p2 r2 p3 r3 hP1 hP2 hsz hPK A n c xs hA hO hN (by have:=hA.1;have:=qg9 xs;omega))
 | d+1=>fun L s d0 p Ag Af ng cg nf cf hGl hFn f P1 P2 P3 p1 r1 p2 r2 p3 r3 hP1 hP2 hsz hPK A n c xs hA hO hN=>AC.pubW (qgg D (d+1) (fun e h=>(show d=e by omega)▸fun L s d0 p Ag Af ng cg nf cf hGl hFn f P1 P2 P3 p1 r1 p2 r2 p3 r3 hP1 hP2 hsz hPK x A1 n1 c1 A2 n2 c2 A3 n3 c3 h1 h2 h3 hN2 hN3 hx=>AC.pubW (qjF D d (tsr D d) L s d0 p Ag Af ng cg nf cf hGl hFn f P1 P2 P3 p1 r1 p2 r2 p3 r3 hP1 hP2 hsz hPK x A1 n1 c1 A2 n2 c2 A3 n3 c3 h1 h2 h3 hN2 hN3 hx)) L s d0 p Ag Af ng cg nf cf hGl hFn f P1 P2 P3 p1 r1 p2 r2 p3 r3 hP1 hP2 hsz hPK A n c xs hA hO hN (by have:=hA.1;have:=qg9 xs;omega))
end Go.Proofs.YtpdnijphccdiiaaGreatDoor
namespace Go.FL
open Go Go.RowKit
section
variable{P:Program}{TT:qaZ}{D n:Nat}{ro:Option Nat}{Q:qdo}{ds:List Deferred}{fr:Fr}{L:Hl}{s s0:World}{ops:Array Oper}{rest:List Oper}{d ty:Nat}{pos:String}{af:Array Edge}{v:Value}
theorem qjm{f:FuncId}{x:Operand}{xs:List Operand}{first captured vs:List Value}{ts:Array TypeId}{R:Value→Hl→World→Prop}{X:List PanicEntry→Hl→World→Prop}(hx:lk fr x=some (.func (.func f) first.toArray captured.toArray))(hv:lks fr xs=some vs)
  (hd:Nat.blt d n=true) (h:AP P D f (first++vs++captured) L s R X) (kx:∀ ch L' s',Le D s s'→X ch L' s'→Q (.panic ch) ds fr L' s') (k:∀ v L' s',Le D s s'→R v L' s'→RO P TT D n ro ops Q rest ds ((d,v)::fr) L' s') :
  RO P TT D n ro ops Q (⟨some d,.call { callee:=.value x,args:=xs.toArray,argTypes:=ts },ty,pos,af,none⟩::rest) ds fr L s:=fun hT a hr ho=>by
 obtain ⟨⟨fn,h1,h2,h3⟩,hc⟩:=h
 have hρ:∀ x v,lk fr x=some v→a.eval x=v:=fun x v hx=>hr.ev hx
 simp only [wpListIn,Region.wanted,if_true]
 refine ⟨fun f _=>qe8 ro f,?_⟩
 have hrun:(execOp a.eval ⟨some d,.call { callee:=.value x,args:=xs.toArray,argTypes:=ts },ty,pos,af,none⟩).run P (fill L s)=.ok (.enter f (first++vs++captured).toArray) (fill L s):=by
  have h2':¬ fn.name = "runtime.NumGoroutine" := by simpa using h2
  have h3':¬ fn.body=none:=by intro e;simp [e] at h3
  simp [execOp,resolve,Deferred.ofValue,invoke,callFunc,hρ x _ hx,qdK hρ hv,h1,h2',h3']
 rw [Oper.semAt_eq _ _ _ (by nofun),hrun,Oper.uponIn_enter]
 refine ⟨qex ro 0,(qfL ro _ (hc ho)).mono ?_⟩
 rintro e w' ⟨L',s',rfl,h4,h5,h6⟩
 rcases h6 with ⟨v,rfl,h6⟩ | ⟨ch,rfl,h6⟩
 · exact k v L' s' h5 h6 hT _ (hr.put hd v) h4
 · exact ⟨ds,fr,L',s',hr,h4,rfl,kx _ _ _ h5 h6⟩
theorem qmZ{f:FuncId}{x:Operand}{first captured:List Value}{ts:Array TypeId}(hx:lk fr x=some (.func (.func f) first.toArray captured.toArray))
  (k:RO P TT D n none ops Q rest ({ target:=.fn (.func f) captured.toArray,args:=first.toArray }::ds) fr L s) :
  RO P TT D n none ops Q (⟨none,.defer { callee:=.value x,args:=#[],argTypes:=ts },ty,pos,af,none⟩::rest) ds fr L s:=fun hT a hr ho=>by
 simp only [wpListIn,Region.wanted,if_true]
 refine ⟨fun f _=>qe8 none f,?_⟩
 have hrun:(execOp a.eval ⟨none,.defer { callee:=.value x,args:=#[],argTypes:=ts },ty,pos,af,none⟩).run P (fill L s)=.ok (.defer { target:=.fn (.func f) captured.toArray,args:=first.toArray }) (fill L s):=by
  simp [execOp,resolve,Deferred.ofValue,hr.ev hx]
 rw [show (fro none).round=none from rfl,Oper.semAt_none,hrun,Oper.uponIn_defer]
 refine k hT _ ⟨?_,?_⟩ ho
 · exact hr.rel
 · show _::a.defers=_;rw [hr.defers]
def DC(P:Program)(D:Nat)(d:Deferred)(u:FrameMode)(L:Hl)(s:World)(K:Hl→World→Prop):Prop:=
 OKL D L s→∃ fv cap f args,d.target=.fn fv cap∧(invoke d.target d.args).run P (fill L s)=.ok (.enter f args) (fill L s)∧CallsD P f args u (fill L s) fun e u' w'=>∃ v,e=.returned v∧settle u'=.returning∧∃ L1 s1,w'=fill L1 s1∧OKL D L1 s1∧K L1 s1
def qrW(TT:qaZ)(D:Nat)(rs:List ResultVar)(s0:World)(R:Value→Hl→World→Prop)(fr:Fr)(L:Hl)(s:World):Prop:=∃ vs A L',Res TT fr L rs vs∧L=A++L'∧Le D s0 s∧∀ s',Le D s s'→R (qat vs) L' s'
def retV(P:Program)(TT:qaZ)(D:Nat)(rs:List ResultVar)(s0:World)(R:Value→Hl→World→Prop):qdo
 | .normal,[],fr,L,s | .ret,[],fr,L,s=>qrW TT D rs s0 R fr L s
 | .normal,[d],fr,L,s | .ret,[d],fr,L,s=>DC P D d .returning L s fun L1 s1=>qrW TT D rs s0 R fr L1 s1
 | .panic ch,[d],fr,L,s=>DC P D d (.panicking ch) L s fun L1 s1=>qrW TT D rs s0 R fr L1 s1
 | _,_,_,_,_=>False
theorem qmp{f:FuncId}{fn:Func}{c:Code}{args:List Value}{R:Value→Hl→World→Prop}(hT:TabOK P TT)(hf:P.funcs[f]?=some fn)(hn:(fn.name == "runtime.NumGoroutine")=false)(hb:fn.body=some c)(hnt:fn.ntmps=n)(hle:Nat.ble args.length n=true){rs:List ResultVar}(hrs:fn.results.toList=rs)(fr0:Fr)(hfr:qeF 0 args=fr0)
    (h:RC P TT D n none (retV P TT D rs s R) c [] fr0 L s):AC P D f args L s R:=by
  subst hfr;subst hrs
  refine ⟨⟨fn,hf,hn,by simp [hb]⟩,fun ho=>calls_of_wp_defers hf hb ?_⟩
  have hle':args.length≤n:=Nat.le_of_ble_eq_true hle
  have hr:FrD [] n { tmps:=args.toArray++Array.replicate (fn.ntmps - args.toArray.size) undef,defers:=[] } (qeF 0 args):=by
    refine ⟨⟨by simp [hnt];omega,Z,fun t ht v hv=>?_,fun t v hv=>?_⟩,Z⟩
    · rw [qby] at hv
      simp at hv
      obtain ⟨hlt,_⟩:=List.getElem?_eq_some_iff.1 hv
      simp [Array.getElem?_append,hlt]
      exact (List.getElem?_eq_some_iff.1 hv).2
    · rw [qby] at hv
      simp at hv
      obtain ⟨hlt,_⟩:=List.getElem?_eq_some_iff.1 hv
      omega
  refine wpIn_wide.1 (wpIn_mono (n:=0) (h hT _ hr ho) ?_)
  rintro e a w ⟨ds,fr',L1,s1,k1,k2,rfl,hq⟩
  have fin:∀ (L2:Hl) (s2:World),OKL D L2 s2→qrW TT D fn.results.toList s R fr' L2 s2→∃ v,(results fn a.tmps).run P (fill L2 s2)=.ok v (fill L2 s2)∧∃ v' L' s',Ending.returned v=.returned v'∧fill L2 s2=fill L' s'∧OKL D L' s'∧Le D s s'∧R v' L' s':=fun L2 s2 ho2 hout=>by
    obtain ⟨vs,A,L',hres,rfl,hle1,hR⟩:=hout
    obtain ⟨d1,d2,d3⟩:=qbm ho2
    have hrun:(results fn a.tmps).run P (fill (A++L') s2)=.ok (qat vs) (fill (A++L') s2):=by
      have h1:=Res.run hT k1.rel ho2 hres
      have h2:(fn.results.mapM (qmX a.tmps)).run P (fill (A++L') s2)=.ok vs.toArray (fill (A++L') s2):=by
        rw [Array.mapM_eq_mapM_toList]
        simp only [map_eq_pure_bind,Sem.run_bind,h1,Result.andThen_ok,Sem.run_pure]
      rw [qdg]
      simp only [Sem.run_bind,h2,Result.andThen_ok,Sem.run_pure]
      congr 1
      match vs with
      | []=>rfl
      | [v]=>rfl
      | v::u::r=>simp [qat]
    exact ⟨_,hrun,_,L',fill A s2,rfl,d1,d2,hle1.trans d3,hR _ d3⟩
  have one:∀ (dd:Deferred) (u:FrameMode),u≠.run→ds=[dd]→DC P D dd u L1 s1 (fun L1 s1=>qrW TT D fn.results.toList s R fr' L1 s1)→Leaves P fn a.tmps (fun e w'=>∃ v L' s',e=.returned v∧w'=fill L' s'∧OKL D L' s'∧Le D s s'∧R v L' s') a.defers u (fill L1 s1):=fun dd u hu hds hdc=>by
    obtain ⟨fv,cap,g,gs,h1,h2,h3⟩:=hdc k2
    rw [k1.defers,hds]
    refine ⟨hu,fv,cap,g,gs,h1,h2,h3.mono ?_⟩
    rintro e u' w' ⟨v,rfl,hset,L2,s2,rfl,ho2,hout⟩
    show Leaves P fn a.tmps _ [] (settle u') (fill L2 s2)
    rw [hset]
    obtain ⟨v,h4,h5⟩:=fin L2 s2 ho2 hout
    exact ⟨v,h4,h5⟩
  match e,ds,hq with
  | .normal,[],hq=>
    show Leaves P fn a.tmps _ a.defers .returning (fill L1 s1)
    rw [k1.defers];exact fin L1 s1 k2 hq
  | .ret,[],hq=>
    show Leaves P fn a.tmps _ a.defers .returning (fill L1 s1)
    rw [k1.defers];exact fin L1 s1 k2 hq
  | .normal,[dd],hq=>exact one dd .returning (by intro h;cases h) rfl hq
  | .ret,[dd],hq=>exact one dd .returning (by intro h;cases h) rfl hq
  | .panic ch,[dd],hq=>exact one dd (.panicking ch) (by intro h;cases h) rfl hq
theorem qlY{J:List Deferred→Fr→Hl→World→Prop}{ch:List PanicEntry}(h:Q (.panic ch) ds fr L s):qil J Q (.panic ch) ds fr L s:=h
theorem qjh{id:Nat}{ch:List PanicEntry}(h:Q (.panic ch) ds fr L s):qfK id Q (.panic ch) ds fr L s:=h
theorem qlw{rs:List ResultVar}{R:Value→Hl→World→Prop}{vs:List Value}(A L':Hl)(h:Res TT fr L rs vs)(hL:L=A++L')(hl:Le D s0 s)(hR:∀ s',Le D s s'→R (qat vs) L' s'):qrW TT D rs s0 R fr L s:=⟨vs,A,L',h,hL,hl,hR⟩
theorem qpt{rs:List ResultVar}{R:Value→Hl→World→Prop}{ch:List PanicEntry}{dd:Deferred}(h:DC P D dd (.panicking ch) L s fun L1 s1=>qrW TT D rs s0 R fr L1 s1):retV P TT D rs s0 R (.panic ch) [dd] fr L s:=h
theorem qhM{fn:Func}(h:fn.results=#[])(tmps:Array Value)(w:World):(results fn tmps).run P w=.ok (.tuple #[]) w:=by
 rw [qdg,h]
 simp
section rec
variable{f:FuncId}{fn:Func}{id d0 d1 t t' ty0 ty1:Nat}{ts:Array TypeId}{p0 p1:String}{a0 a1:Array Edge}{c2:Code}{cap:List Value}{K:Hl→World→Prop}
theorem ql5(hnt:fn.ntmps=n)(hle:Nat.ble cap.length n=true):FrRel n { tmps:=cap.toArray++Array.replicate (fn.ntmps - cap.toArray.size) undef,defers:=[] } (qeF 0 cap):=by
  have hle':cap.length≤n:=Nat.le_of_ble_eq_true hle
  refine ⟨by simp [hnt];omega,Z,fun t ht v hv=>?_,fun t v hv=>?_⟩
  · rw [qby] at hv
    simp at hv
    obtain ⟨hlt,_⟩:=List.getElem?_eq_some_iff.1 hv
    simp [Array.getElem?_append,hlt]
    exact (List.getElem?_eq_some_iff.1 hv).2
  · rw [qby] at hv
    simp at hv
    obtain ⟨hlt,_⟩:=List.getElem?_eq_some_iff.1 hv
    omega
end rec
end
section
variable{P:Program}{TT:qaZ}{D n:Nat}{Q:qbD}{fr:Fr}{L K:Hl}{s s0:World}{ops:Array Oper}{rest:List Oper}{d ty:Nat}{pos:String}{af:Array Edge}{v:Value}
theorem qsH{xt t:TypeId}{x:Operand}{u:Value}(hu:P.underlying t=some (.struct #[]))(hx:lk fr x=some (.iface t u)):QE P TT D fr (.typeAssert x xt t true) ty K s0 (.tuple #[u,.bool true]):=
 QE.pure fun hT dst pos af g ρ hρ w=>by simp [execOp,Instr.typeAssert,underlying,hu,hρ x _ hx]
theorem ql0{t:Nat}(hz:(P.info? t).bind (fun i=>i.zero)=some (Value.agg #[]))(hd:Nat.blt d n=true)
  (k:∀ β s',Le D s s'→JO P TT D n ops Q rest ((d,.pointer (some ⟨β,0,none⟩))::fr) ((β,cb [] t)::L) s'):JO P TT D n ops Q (⟨some d,.alloc t,ty,pos,af,none⟩::rest) fr L s:=fun hT a hr ho=>
 qf6 hd (fun hT _ dst pos af g ρ _=>by
  obtain ⟨h1,h2,h3⟩:=qaH ho (cb [] t)
  refine ⟨?_,h2⟩
  obtain ⟨i,hi,hi2⟩:=Option.bind_eq_some_iff.1 hz
  have hzv:(zeroValue t).run P (fill L s)=.ok (.agg #[]) (fill L s):=by simp [zeroValue,typeInfo,hi,hi2]
  simp only [execOp,Instr.alloc,Sem.run_bind,hzv,Result.andThen_ok,newVar,qg4,Sem.run_pure,qaG,Value.cells]
  rw [← h1];rfl:Ev P TT D fr (.alloc t) ty L s (.value (.pointer (some ⟨s.heap.size,0,none⟩))) ((s.heap.size,cb [] t)::L) (s.alloc (dum D))) (k _ _ (qaH ho (cb [] t)).2.2) hT a hr ho
theorem qup{t:Nat}{x y:Operand}{a0:Addr}(hs:(P.info? t).map (fun i=>i.size)=some 0)(hx:lk fr x=some (.pointer (some a0)))(hy:lk fr y=some (.agg #[]))(k:JO P TT D n ops Q rest fr L s):JO P TT D n ops Q (⟨none,.store t x y,ty,pos,af,none⟩::rest) fr L s:=
 qq3 (fun hT ho dst pos af g ρ hρ=>by
  refine ⟨?_,ho⟩
  obtain ⟨i,hi,hi2⟩:=Option.map_eq_some_iff.1 hs
  simp [execOp,Instr.storeAt,storeVar,sizeOf,typeInfo,hi,hi2,hρ x _ hx,hρ y _ hy,Instr.sureAddr,Value.cells,storeCells]:Ev P TT D fr (.store t x y) ty L s .skip L s) k
def recD(id d0 d1 ty0 ty1:Nat)(ts:Array TypeId)(p0 p1:String)(a0 a1:Array Edge)(c2:Code):Code:=
 .seq (.region id #[⟨some d0,.call { callee:=.builtin .recover,args:=#[],argTypes:=ts },ty0,p0,a0,none⟩,⟨some d1,.assign (.tmp d0),ty1,p1,a1,none⟩] false) c2
section rec
variable{f:FuncId}{fn:Func}{id d0 d1 ty0 ty1:Nat}{ts:Array TypeId}{p0 p1:String}{a0 a1:Array Edge}{c2:Code}{cap:List Value}
theorem qlX{a:Act}{cs cs':List Frame}{w:World}{v0:Value}{Q:Exit→Act→List Frame→World→Prop}(hrec:recoverD cs=some (v0,cs'))
  (e1:(a.put (some d0) v0).eval (.tmp d0)=v0)
  (h:Q .normal ((a.put (some d0) v0).put (some d1) v0) cs' w):wpOpsS P #[⟨some d0,.call { callee:=.builtin .recover,args:=#[],argTypes:=ts },ty0,p0,a0,none⟩,⟨some d1,.assign (.tmp d0),ty1,p1,a1,none⟩] Q [0,1] a cs w:=by
 have h0:(execOp a.eval ⟨some d0,.call { callee:=.builtin .recover,args:=#[],argTypes:=ts },ty0,p0,a0,none⟩).run P w=.ok .recover w:=by
  simp [execOp,resolve,invoke,builtin]
 have hx:=(show (execOp (a.put (some d0) v0).eval ⟨some d1,.assign (.tmp d0),ty1,p1,a1,none⟩).run P w=.ok (.value v0) w by simp [execOp,e1])
 simp only [wpOpsS,Region.wanted,List.getElem?_toArray,List.getElem?_cons_zero,List.getElem?_cons_succ,if_true,h0,hrec,hx,Oper.upon]
 exact h
def qsJ(D:Nat)(K:Hl→World→Prop)(s:World):qbD:=fun e _ L' s'=>e=.normal∧∃ A L1,L'=A++L1∧Le D s s'∧∀ s2,Le D s' s2→K L1 s2
theorem qpX{K:Hl→World→Prop}{t0:TypeId}{v0:Value}(hT:TabOK P TT)(hf:P.funcs[f]?=some fn)(hn:(fn.name == "runtime.NumGoroutine")=false)(hb:fn.body=some (recD id d0 d1 ty0 ty1 ts p0 p1 a0 a1 c2))(hnt:fn.ntmps=n)(hle:Nat.ble cap.length n=true)(hrs:fn.results=#[])(hd0:Nat.blt d0 n=true)(hd1:Nat.blt d1 n=true)
  (fr0:Fr) (hfr:(d1,.iface t0 v0)::(d0,.iface t0 v0)::qeF 0 cap=fr0) (h:JC P TT D n (qsJ D K s) c2 fr0 L s):DC P D { target:=.fn (.func f) cap.toArray,args:=#[] } (.panicking [{ v:=.iface t0 v0,recovered:=false }]) L s K:=fun ho=>by
 subst hfr
 have h2':¬ fn.name = "runtime.NumGoroutine" := by simpa using hn
 refine ⟨_,_,f,cap.toArray,Z,by simp [invoke,callFunc,hf,h2',hb],callsD_of_wpS hf hb fun c₀ cs hm=>?_⟩
 have hr:=ql5 (fn:=fn) hnt hle
 have hr1:=hr.put hd0 (.iface t0 v0)
 have hr2:=hr1.put hd1 (.iface t0 v0)
 refine wpS_seq (wpS_region (qlX (v0:=.iface t0 v0) (cs':={ c₀ with mode:=.panicking [{ v:=.iface t0 v0,recovered:=true }] }::cs) (by simp [recoverD,hm]) (hr1.ev (x:=.tmp d0) (v:=.iface t0 v0) (by simp [lk,qbo])) ?_))
 refine wpS_of_wp (wp_mono (h hT _ hr2 ho) ?_)
 rintro e a w ⟨fr',L',s',k1,k2,rfl,rfl,A,L1,rfl,hl,hK⟩
 obtain ⟨d1,d2,d3⟩:=qbm k2
 exact ⟨k1.defers,.panicking [{ v:=.iface t0 v0,recovered:=true }],rfl,_,qhM hrs _ _,_,rfl,by simp [settle],L1,fill A s',d1,d2,hK _ d3⟩
theorem qo0{x:Operand}{t t':Nat}{t0:TypeId}{v0:Value}(hu:P.underlying t=some (.interface (P.methodsAt t)))(hx:lk fr x=some (.iface t0 v0)):QE P TT D fr (.binOp .neq t x (.const .nilIface) t') ty K s0 (.bool true):=
 QE.pure fun hT dst pos af g ρ hρ w=>by
  have hc:ρ (.const .nilIface)=.nilIface:=hρ _ _ rfl
  simp [execOp,hρ x _ hx,hc,eqGuard,run_neq_held_nil w t t0 v0 hu]
end rec
end
end Go.FL
namespace Go.Proofs.YtpdnijphccdiiaaGreatDoor
open Go.Proofs.Tryz
open Go.FL
attribute [local irreducible] JC JO JA JB qaJ qaw qbM AC fill CellsAt QE Ev Mid
theorem qpF(D:Nat)(L:Hl)(s:World)(K:Hl→World→Prop)(hK:∀ s',Le D s s'→K L s'):DC prog D { target:=.fn (.func 51) ([]:List Value).toArray,args:=([]:List Value).toArray } (.panicking [{ v:=.iface 117 (.agg #[]),recovered:=false }]) L s K:=by
 refine qpX (fn:=f51) qao func51 V Z ntmps51 Z Z Z Z [(0,_),(3,_)] Z<|Sr<|Zqm Z Z<|qac (qo0 V Z) Z<|Nt<|Zy Z<|Sr<|Zqm Z Z<|qac (qsH V Z) Z<|Zqm Z Z<|Zqx Z Z Z<|Zqx Z Z Z<|ql0 V Z ?_
 intro βz s1 h1
 refine qup V Z Z<|At Z Z<|Sr<|Zqm Z Z<|ZqnT Z Z<|Nt<|Zz Z<|Zk<|?_
 exact ⟨rfl,[_],_,rfl,h1,fun s2 h2=>hK _ (h1.t h2)⟩
def quJ:ER Int→MS×Int×Int
 | .ok _ m=>(m,1,0)
 | .fin m st cd=>(m,st,cd)
 | .out=>(⟨[],[],[],[],0,0,[]⟩,0,0)
theorem qfC(s:World):Wds s none 0 0 []:=⟨rfl,Nat.le_refl _,by omega,fun i x h=>by cases h⟩
theorem qmG(p:Prg)(D n:Nat)(hT:TOK p D n)(L:Hl)(s:World)(c:MC)(N k:Nat)(fk:Fnc)(m:MS)(iv ov:Value)(F0:Option Addr)(n0 z0:Nat)(R:Hl)(hC:CT p c s)(hp:p.funcs[k]?=some fk)(hfk:fk.params=[])(hM:MG p c N m iv ov R s)(hr:cX p (sem p OPp n) k [] m≠.out):AC prog D 23 [.pointer (some ⟨c.bm,0,none⟩),.int .i64 (k:Int)] (MBv c N 0 m iv ov 0 0 (.slice F0 n0 z0)::MGb c m::(R++L)) s fun v L' s'=>v=.tuple #[]∧∃ m' st cd Z,L'=Z++L∧FIN c N m' st cd Z∧quJ (cX p (sem p OPp n) k [] m)=(m',st,cd):=by
 refine qmp (fn:=f23) qao func23 V Z ntmps23 Z (rs:=[]) Z [(0,_),(1,_)] Z<|Ys<|Yr<|qmZ Z<|Yn<|Yt<|Ys<|Yr<|Yqm Z Z<|Yqm Z Z<|?_
 refine qjm (first:=[]) (captured:=[]) Z Z Z (qi3 p D n hT L _ c N k fk [] none 0 0 m iv ov _ _ _ R (hC.le (Lr D)) (qfC _) hp (by rw [hfk];rfl) (hM.le (Lr D)) hr) ?_ ?_
 ·
  rintro _ _ sx1 hx1 ⟨hp1,m1,st1,cd1,Z1,he1,rfl,hF1⟩
  repeat (first | refine qlY ?_ | refine qjh ?_)
  cases hp1
  refine qpt (qpF D _ _ _ (fun s9 q9=>?_))
  refine qlw [] _ .nil Z (hx1.t q9) fun _ hS2=>?_
  exact ⟨rfl,m1,st1,cd1,Z1,rfl,hF1,by rw [he1];rfl⟩
 rintro _ _ s1 h1 ⟨a1,m1,iv1,ov1,R1,he1,⟨rfl,hu1⟩,rfl,hM1⟩
 
 refine Yn<|Yt<|Yr<|Yqm Z Z<|?_
 refine qjm (first:=[]) (captured:=[]) Z Z Z (qc2 D [] _ _ c N _ m1 iv1 ov1 _ _) ?_ ?_
 ·
  rintro _ _ sx2 hx2 ⟨hp1,rfl⟩
  repeat (first | refine qlY ?_ | refine qjh ?_)
  cases hp1
  refine qpt (qpF D _ _ _ (fun s9 q9=>?_))
  refine qlw [] _ .nil Z (h1.t hx2|>.t q9) fun _ hS2=>?_
  exact ⟨rfl,m1,1,0,_,rfl,hM1.finv _ _ _ _ [MGb c m1],by rw [he1];rfl⟩
 rintro _ _ s2 h2 ⟨⟩
def qef(p:Prg):List (List Int):=p.globals.map fun g=>if g.kind=3 then qft g.num.toNat g.init else []
abbrev SN:Value:=.slice none 0 0
theorem qcp:∀ {ab:List (Option Nat)} {gs:List Glo} {g:Glo} {o:Option Nat},ab.length=gs.length→qgE (ab++[o]) (gs++[g])=qgE ab gs++[match o with | some b=>.slice (some ⟨b,0,none⟩) g.num.toNat g.num.toNat | none=>SN]
 | [],[],g,some b,_=>rfl
 | [],[],g,none,_=>rfl
 | some b::r,x::gs,g,o,h=>by rw [List.cons_append,List.cons_append,qgE,qgE,qcp (by simpa using h),List.cons_append]
 | none::r,x::gs,g,o,h=>by rw [List.cons_append,List.cons_append,qgE,qgE,qcp (by simpa using h),List.cons_append]
theorem qdU:∀ {ab:List (Option Nat)} {gs:List Glo},ab.length=gs.length→(qgE ab gs).length=ab.length
 | [],[],_=>rfl
 | some b::r,x::gs,h=>by rw [qgE,List.length_cons,qdU (by simpa using h),List.length_cons]
 | none::r,x::gs,h=>by rw [qgE,List.length_cons,qdU (by simpa using h),List.length_cons]
theorem qen:∀ {ab:List (Option Nat)} {ls:List (List Int)} {l:List Int} {o:Option Nat},ab.length=ls.length→qb1 (ab++[o]) (ls++[l])=qb1 ab ls++(match o with | some b=>[(b,cb (wv l) 29)] | none=>[])
 | [],[],l,some b,_=>rfl
 | [],[],l,none,_=>rfl
 | some b::r,x::ls,l,o,h=>by rw [List.cons_append,List.cons_append,qb1,qb1,qen (by simpa using h),List.cons_append]
 | none::r,x::ls,l,o,h=>by rw [List.cons_append,List.cons_append,qb1,qb1,qen (by simpa using h)]
section
variable{p:Prg}{ab:List (Option Nat)}{k ng:Nat}{g:Glo}{b:Nat}
def avR(p:Prg)(ab:List (Option Nat))(k ng:Nat):List Value:=qgE ab (p.globals.take k)++List.replicate (ng - k) SN
theorem qd5(hl:ab.length=k)(hg:p.globals[k]?=some g):ab.length=(p.globals.take k).length:=by
 have:=(List.getElem?_eq_some_iff.1 hg).1
 rw [List.length_take];omega
theorem qtT(h:k < ng):List.replicate (ng - k) SN=SN::List.replicate (ng - (k+1)) SN:=by
 rw [show ng - k=ng - (k+1)+1 by omega,List.replicate_succ]
theorem qlf(hl:ab.length=k)(hg:p.globals[k]?=some g)(hk:k < ng):(avR p ab k ng).length=ng:=by
 rw [avR,List.length_append,qdU (qd5 hl hg),List.length_replicate];omega
theorem qnq(hl:ab.length=k)(hg:p.globals[k]?=some g)(hk:k < ng):avR p ab k ng=avR p (ab++[none]) (k+1) ng:=by
 rw [avR,avR,qaS hg,qcp (qd5 hl hg),qtT hk,List.append_assoc];rfl
theorem qp3(hl:ab.length=k)(hg:p.globals[k]?=some g)(hk:k < ng):qbN (avR p ab k ng) (0+k) [.slice (some ⟨b,0,none⟩) g.num.toNat g.num.toNat]=avR p (ab++[some b]) (k+1) ng:=by
 rw [Nat.zero_add,qdf _ _ _ (by rw [qlf hl hg hk];simp;omega)]
 have h1:=qdU (qd5 hl hg)
 rw [avR,avR,qaS hg,qcp (qd5 hl hg),qtT hk,List.take_append_of_le_length O,List.take_of_length_le O,List.drop_append,List.drop_eq_nil_of_le (by simp;omega),h1,hl,List.append_assoc,List.append_assoc]
 simp
theorem qrn(hl:ab.length=k)(hg:p.globals[k]?=some g):nth (avR p (ab++[some b]) (k+1) ng) (0+k)=some (.slice (some ⟨b,0,none⟩) g.num.toNat g.num.toNat):=by
 rw [Nat.zero_add,qeE,avR,qaS hg,qcp (qd5 hl hg),List.append_assoc,List.getElem?_append_right (by rw [qdU (qd5 hl hg)];omega),qdU (qd5 hl hg),hl,Nat.sub_self];rfl
theorem qr5(hl:ab.length=k)(hg:p.globals[k]?=some g)(hk:k < ng):Nat.ble (0+k+1) (avR p ab k ng).length=true:=by
 rw [Nat.ble_eq,qlf hl hg hk];omega
theorem qg7(hg:p.globals[k]?=some g):(qef p)[k]?=some (if g.kind=3 then qft g.num.toNat g.init else []):=by rw [qef,List.getElem?_map,hg];rfl
theorem qkD(hl:ab.length=k)(hg:p.globals[k]?=some g)(h3:g.kind=3)(L:Hl):qb1 ab ((qef p).take k)++(b,cb (wv (qft g.num.toNat g.init)) 29)::L=qb1 (ab++[some b]) ((qef p).take (k+1))++L:=by
 have hk:=(List.getElem?_eq_some_iff.1 hg).1
 rw [qaS (qg7 hg),qen (by rw [List.length_take,qef,List.length_map];omega),if_pos h3,List.append_assoc];rfl
theorem qgO(hl:ab.length=k)(hg:p.globals[k]?=some g):qb1 ab ((qef p).take k)=qb1 (ab++[none]) ((qef p).take (k+1)):=by
 have hk:=(List.getElem?_eq_some_iff.1 hg).1
 rw [qaS (qg7 hg),qen (by rw [List.length_take,qef,List.length_map];omega),List.append_nil]
end
theorem pmA{a:Nat×Obj}(X:Hl){A L:Hl}:(a::(X++(A++L))).Perm (X++(A++a::L)):=by
 rw [← List.append_assoc,← List.append_assoc]
 exact List.perm_middle.symm
theorem qo6(n:Nat):wv (List.replicate n 0)=List.replicate n (.int .u32 0):=by simp [wv]
@[irreducible] def fuX:Nat:=100000002
theorem qlR:fuX=99999982+20:=by unfold fuX;rfl
def qh1(p:Prg)(inp:Str)(a:Nat):Str×Int×Int×Nat:=quI a (quH p OPp (fuX+1) (qcV p.funcs).toNat inp a)
def qeJ(p:Prg)(inp:Str)(steps:Int):(Str×Int×Int×Nat)×(Int×Int):=if (qcN p).1≠0 then (([],0,0,0),qcN p) else if 400000 < inp.length then (([],0,0,0),(3,-2)) else if steps < 0∨50000000 < steps then (([],0,0,0),(4,-3)) else (qh1 p inp steps.toNat,(0,0))
def quM(s:World)(o:Str×Int×Int×Nat)(v:Value):Prop:=∃ A n c,v=.agg #[.slice A n c,.int .i64 o.2.1,.int .u32 o.2.2.1,.int .i64 (o.2.2.2:Int)]∧Bts s A n c o.1
theorem qje{p:Prg}{inp:Str}{st:Int}(h:(qcN p).1≠0):qeJ p inp st=(([],0,0,0),qcN p):=by rw [qeJ,if_pos h]
theorem qiW{p:Prg}{inp:Str}{st:Int}(h:¬ (qcN p).1≠0)(h2:400000 < inp.length):qeJ p inp st=(([],0,0,0),(3,-2)):=by rw [qeJ,if_neg h,if_pos h2]
theorem qlq{p:Prg}{inp:Str}{st:Int}(h:¬ (qcN p).1≠0)(h2:¬ 400000 < inp.length)(h3:st < 0∨50000000 < st):qeJ p inp st=(([],0,0,0),(4,-3)):=by rw [qeJ,if_neg h,if_neg h2,if_pos h3]
theorem qfd{p:Prg}{inp:Str}{a:Nat}(h:¬ (qcN p).1≠0)(h2:¬ 400000 < inp.length)(h3:¬ ((a:Int) < 0∨50000000 < (a:Int))):qeJ p inp a=(qh1 p inp a,(0,0)):=by rw [qeJ,if_neg h,if_neg h2,if_neg h3,Int.toNat_natCast]
theorem qcw{p:Prg}{inp:Str}{a mi:Nat}(hm:qcV p.funcs=(mi:Int)){m:MS}{st cd:Int}(h:quJ (cX p (sem p OPp fuX) mi [] (qei p inp a))=(m,st,cd))(hr:cX p (sem p OPp fuX) mi [] (qei p inp a)≠.out):qh1 p inp a=(m.out,st,cd,a - m.left):=by
 rw [qh1,quH,hm,Int.toNat_natCast]
 show quI a (cX p (sem p OPp fuX) mi [] (qei p inp a))=_
 cases hc:cX p (sem p OPp fuX) mi [] (qei p inp a) with
 | out=>exact absurd hc hr
 | ok v m1=>rw [hc] at h;simp only [quJ,Prod.mk.injEq] at h;obtain ⟨rfl,rfl,rfl⟩:=h;rfl
 | fin m1 s1 c1=>rw [hc] at h;simp only [quJ,Prod.mk.injEq] at h;obtain ⟨rfl,rfl,rfl⟩:=h;rfl
theorem qgp(p:Prg)(inp:Str)(a mi:Nat)(ha:a≤50000000):cX p (sem p OPp fuX) mi [] (qei p inp a)≠.out:=fun h=>by
 have:=(qpe (p:=p) (OP:=OPp) (fuX+1)).2.1 mi [] (qei p inp a) (by rw [qlR];show 2 * a+1 < _;omega)
 have e:(sem p OPp (fuX+1)).c mi [] (qei p inp a)=.out:=h
 rw [e] at this;exact this
theorem OKP.pok{p:Prg}(h:OKP p):POK p:=⟨(qgJ (p:=p) (by rw [h.2.1])).1,fun g hg=>by have:=qcn (h.1.2.2.1 g hg).1;exact ⟨this.1,this.2.1⟩⟩
theorem OKP.sz{p:Prg}(h:OKP p):∀ f∈p.funcs,f.params.length+f.locals.length≤100:=fun f hf=>by
 have:=h.1.2.2.2.1 f hf
 have h1:=this.2.1
 have h2:=this.2.2.1
 omega
theorem OKP.st{p:Prg}(h:OKP p){f:Fnc}(hf:f∈p.funcs):(∀ x∈f.body,StOK p f x)∧qch f.body≤2000:=by
 have hv:=h.1.2.2.2.1 f hf
 refine ⟨fun x hx=>?_,hv.2.2.2.2.2⟩
 obtain ⟨j,hj⟩:=List.getElem?_of_mem hx
 exact ⟨⟨1,(qdy hv.2.2.2.2.1 hj).1⟩,0,fun nd hd=>h.2.2 f hf nd (qfj hx hd)⟩
theorem qs0{g:Glo}(h:qfc g=0)(h3:g.kind=3):g.init.length≤g.num.toNat∧g.num.toNat≤40000:=by
 unfold qfc at h
 split at h
 · cases h
 split at h
 · cases h
 split at h
 · cases h
 split at h
 · cases h
 rename_i h4
 split at h
 · cases h
 rename_i h5
 omega
theorem qug{p:Prg}{inp:Str}{a ng:Nat}{c:MC}{s:World}{Ai:Option Addr}{ni qi:Nat}(h:OKP p)(hu:prU p)(hI:Bts s Ai ni qi inp)(ha:a≤50000000)(hng:c.ng=p.globals.length)(hnf:c.nf=0)(hlb:c.ab.length=c.ng)(hab:∀ (k:Nat) (g:Glo),p.globals[k]?=some g→g.kind=3→∃ b,c.ab[k]?=some (some b)):MG p c a (qei p inp a) (.slice Ai ni qi) SN (qb1 c.ab (qef p)) s:=by
  refine ⟨⟨Ai,ni,qi,Z,hI⟩,⟨[],(List.append_nil _).symm,.nil⟩,fun x hx=>?_,fun x hx=>(by cases hx),fun l hl x hx=>?_,hng,?_,hnf.symm,hlb,?_,fun k g hg h3=>⟨hab k g hg h3,?_⟩,Nat.zero_le _,Nat.zero_le _,Nat.le_refl _,ha⟩
  · rw [show x=0 from (List.mem_replicate.1 hx).2];exact ⟨by decide,by decide⟩
  · obtain ⟨g,hg,rfl⟩:=List.mem_map.1 (show l∈qef p from hl)
    split at hx
    · exact qkF (hu.1 g hg).2 x hx
    · cases hx
  · rw [hng];exact List.length_replicate ..
  · rw [hng];exact List.length_map ..
  · have h0:=qs0 (h.1.2.2.1 g (List.mem_of_getElem? hg)).1 h3
    show ((qef p).getD k []).length=_
    rw [List.getD_eq_getElem?_getD,qg7 hg,Option.getD_some,if_pos h3,qf2 h0.1]
end Go.Proofs.YtpdnijphccdiiaaGreatDoor
namespace Go.FL
open Go Go.RowKit
theorem qkK{P:Program}{TT:qaZ}{D n:Nat}{Q:qbD}{fr:Fr}{L K:Hl}{s s0:World}{ops:Array Oper}{d ty:Nat}{pos:String}{af:Array Edge}{g:Option (Nat×Bool)}{fuel i t:Nat}{listed:Array Bool}{x:Operand}{zs:List Value}(hi:ops[i]?=some ⟨some d,.box t x,ty,pos,af,g⟩)(hg:GOK ops fr g)(hx:lk fr x=some (.agg zs.toArray))(hd:Nat.blt d n=true)
  (k:∀ β s',Le D s s'→JA P TT D n ops Q K s0 fuel (listed.setIfInBounds i true) ((d,.pointer (some ⟨β,0,none⟩))::fr) ((β,cb zs t)::L) s'):JB P TT D n ops Q K s0 fuel listed i fr L s:=fun hT a hf ho hl hK=>
 qhw hi hg (qli hx (by simp [qa6]) ho) (qaH ho (cb zs t)).2.2 (fun x _ h=>List.mem_cons_of_mem _ h) hd (k _ _ (qaH ho (cb zs t)).2.2) hT a hf ho hl hK
end Go.FL
namespace Go.Proofs.YtpdnijphccdiiaaGreatDoor
open Go.Proofs.Tryz
open Go.FL
attribute [local irreducible] JC JO JA JB qaJ qaw qbM AC fill CellsAt QE Ev Mid
theorem qt1{p:Prg}(hnd:((ents p).map (·.1)).Nodup){j k:Nat}{y x:Fnc}(hy:p.funcs[j]?=some y)(hx:p.funcs[k]?=some x)(e:y.name=x.name):j=k:=by
 have q1:=qdL hnd (qeX hy)
 have q2:=qdL hnd (qeX hx)
 simp only [e] at q1 q2
 rw [q1] at q2
 simp at q2;omega
theorem qeS{p:Prg}(hnd:((ents p).map (·.1)).Nodup){k:Nat}{x:Fnc}{mi mj:Int}(hx:p.funcs[k]?=some x)(h:∀ (j:Nat) (y:Fnc),j < k→p.funcs[j]?=some y→y.name=qbY→mi=(j:Int))(h1:x.name=qbY→mj=(k:Int))(h2:¬ x.name=qbY→mj=mi):∀ (j:Nat) (y:Fnc),j < k+1→p.funcs[j]?=some y→y.name=qbY→mj=(j:Int):=fun j y hj hy hn=>by
  by_cases hm:x.name=qbY
  · rw [h1 hm,qt1 hnd hy hx (hn.trans hm.symm)]
  · rcases Nat.lt_or_eq_of_le (Nat.lt_succ_iff.1 hj) with hj | rfl
    · rw [h2 hm];exact h j y hj hy hn
    · rw [hx] at hy;injection hy with hy;subst hy;exact absurd hn hm
theorem qfP{p:Prg}{ab:List (Option Nat)}{k:Nat}{x:Glo}{o:Option Nat}(hab:ab.length=k)(hx:p.globals[k]?=some x)(h:∀ (j:Nat) (y:Glo),j < k→p.globals[j]?=some y→y.kind=3→∃ b,ab[j]?=some (some b))(ho:x.kind=3→∃ b,o=some b):∀ (j:Nat) (y:Glo),j < k+1→p.globals[j]?=some y→y.kind=3→∃ b,(ab++[o])[j]?=some (some b):=fun j y hj hy h3=>by
  rcases Nat.lt_or_eq_of_le (Nat.lt_succ_iff.1 hj) with hj | rfl
  · obtain ⟨b,hb⟩:=h j y hj hy h3
    exact ⟨b,by rw [List.getElem?_append_left O];exact hb⟩
  · rw [hx] at hy;injection hy with hy;subst hy
    obtain ⟨b,rfl⟩:=ho h3
    exact ⟨b,by rw [List.getElem?_append_right O,hab,Nat.sub_self];rfl⟩
theorem pm26{Z:Hl}{o a b c d:Nat×Obj}{Mo K L:Hl}(h:Z.Perm (o::(Mo++K))):(Z++(a::b::c::d::L)).Perm (o::a::b::c::d::(Mo++(K++L))):=by
 have h1:=List.perm_append_comm_assoc (Mo++K) [a,b,c,d] L
 rw [List.append_assoc Mo K L] at h1
 exact (h.append_right _).trans (h1.cons o)
theorem qq5{x a b:Nat×Obj}{R R':Hl}(hx:x∈(a::b::R).take 2):x∈a::b::R':=List.mem_append_left R' (show x∈[a,b] from hx)
theorem qrw(p:Prg)(inp:Str)(a:Nat)(c:MC)(iv:Value):MBv c a 0 (qei p inp a) iv SN 0 0 SN=(c.bm,cb [.slice c.Af c.nF c.cF,.slice (some ⟨c.bg,0,none⟩) c.ng c.ng,.slice (some ⟨c.ba,0,none⟩) c.ng c.ng,SN,.int .u32 0,.int .i64 0,iv,.int .i64 (a:Int),SN,.int .i64 0,.int .u32 0,.int .i64 0] 51):=by
 rw [MBv]
 show (c.bm,cb [_,_,_,_,_,_,_,_,_,_,_,Value.int .i64 ((a:Int) - (a:Int))] 51)=_
 rw [Int.sub_self];rfl
theorem qhi(D:Nat)(L:Hl)(s:World)(c i:Int):AC prog D 21 [.int .i64 c,.int .i64 i] L s fun v L' _=>v=.agg #[.int .i64 c,.int .i64 i]∧L=L':=by
 refine qai (fn:=f21) qao func21 V Z ntmps21 Z (rs:=[.cell 4 33]) Z [(0,_),(1,_)] Z<|Sr<|qaj Z [_,_] Z Z ?_
 intro β1 s1 h1
 refine Nt<|Sr<|Zqm Z Z<|Zqm Z Z<|qac (qam [(_,_),(_,_)] [_,_] Z Z Z Z Z Z) Z<|Wt 0 [_,_] Y9<|Nt<|Zo<|?_
 refine rR [_] L (.agg (us:=[_,_]) 0 Z Z Z Z Z (.nil)) Z h1 fun _ hS2=>?_
 exact ⟨rfl,rfl⟩
theorem qqW(D:Nat)(L:Hl)(s:World)(hG:GP s)(d:Nat)(p:Prg)(Ag Af:Option Addr)(ng cg nf cf:Nat)(hGl:Glos s Ag ng cg p.globals)(hFn:Fncs d s Af nf cf p.funcs)(Ai:Option Addr)(ni qi:Nat)(inp:Str)(hI:Bts s Ai ni qi inp)(steps:Int):AC prog D 9 [.agg #[.slice Ag ng cg,.slice Af nf cf],.slice Ai ni qi,.int .i64 steps] L s fun v L' s'=>∃ M',L'=M'++L∧∀ s2,Le D s' s2→Pub M' s2→∃ w,v=.tuple #[w,.agg #[.int .i64 (qeJ p inp steps).2.1,.int .i64 (qeJ p inp steps).2.2]]∧quM s2 (qeJ p inp steps).1 w:=by
 have hn1:=hGl.1
 have hn2:=hFn.1
 have hn3:=hI.1
 have hU:prU p:=⟨hGl.u,hFn.u⟩
 refine qai (fn:=f9) qao func9 V Z ntmps9 Z (rs:=[.cell 6 31,.cell 7 33]) Z [(0,_),(1,_),(2,_)] Z<|Sr<|qaq Z Z ?_
 intro β1 s1 h1
 refine qaj Z [_,_,_,_] Z Z ?_
 intro β2 s2 h2
 refine qaj Z [_,_] Z Z ?_
 intro β3 s3 h3
 refine Nt<|Zs<|Sr<|qac (qag 2 [_,_] Z Z Z Z Z) Z<|Jc Z Z Z (qj2 D _ _ (hG.le (h1.t h2|>.t h3)) d p Ag _ ng cg nf cf (hGl.le (h1.t h2|>.t h3)) (hFn.le (h1.t h2|>.t h3))) ?_
 rintro _ _ s4 h4 ⟨rfl,rfl⟩
 refine qaj Z [_,_] Z Z ?_
 intro β5 s5 h5
 refine Wt 0 [_,_] Y9<|Nt<|Sr<|qac (qag 0 [_,_] Z Z Z Z Z) Z<|qac (qam [] [_,_] Z Z Z Z Z Z) Z<|qac (qgw Z Z (qc8 _ _ _ _)) Z<|Nt<|?_
 refine qaP Z (fun c6=>?_) (fun c6=>?_)
 ·
  have hb0:(qcN p).1≠0:=fun h=>c6 (by rw [qt0 hU h];exact ⟨rfl,rfl⟩)
  have hE:qeJ p inp steps=_:=qje hb0
  refine Zs<|qbJ qad 4 Z [2,1] (by intro x hx;exact qaY hx) ?_
  intro s7 h7
  refine za 0 Z (qam [] [_,_,_,_] Z Z Z Z Z Z) Z<|za 1 Z (qag 0 [_,_] Z Z Z Z Z) Z<|qax 2 V<|Wu Z Tt 2 [_,_,_,_] Y9 (sM (sbY (sbN (sbY (sbE _)))))<|qax 3 V<|Wu Z Tt 1 [_,_] Y9 (sM (sbY (sbN (sbY (sbE _)))))<|qal V<|Zt<|Zo<|Zu<|?_
  refine rR [_,_,_,_] _ (.agg (us:=[_,_,_,_]) 2 Z Z Z Z Z (.agg (us:=[_,_]) 1 Z Z Z Z Z (.nil))) Z (h1.t h2|>.t h3|>.t h4|>.t h5|>.t h7) fun _ hS2=>?_
  first
    | exact ⟨[],rfl,fun s2 hs2 hp=>⟨.agg #[.slice none 0 0,.int .i64 0,.int .u32 0,.int .i64 0],by rw [hE];rfl,none,0,0,by rw [hE];rfl,by rw [hE];exact Bts.nil _ _ _ O⟩⟩
    | (have hE:qeJ p inp (a:Int)=((m9.out,st9,cd9,a - m9.left),(0,0)):=by rw [hE0,qcw hmf he9 (qgp p inp a mi0 O)]
       have hst:(a:Int) - (m9.left:Int)=((a - m9.left:Nat):Int):=by omega
       exact ⟨Mo9++K9,(List.append_assoc ..).symm,fun s2 hs2 hp=>⟨_,by rw [hE];rfl,Ao,_,co,by rw [hE,hst],by rw [hE];exact Own.bts hO9 fun b zs t hm=>hp b zs t (List.mem_append_left _ hm)⟩⟩)
 have g4:=c6
 have g14:¬ (qcN p).1≠0:=fun h=>h g4.1
 obtain ⟨hOK,hz0⟩:=OKP.of hU g4.1
 have hV:=hOK.1
 have hV1:=hV.1
 have hV2:=hV.2.1
 have hVf:=hV.2.2.2.1
 have hND:=(qgJ (p:=p) (by rw [hOK.2.1])).1
 refine Zk<|Zt<|Zs<|Sr<|Zqm Z Z<|Ws Y4<|qbv Z Z Z<|Nt<|?_
 refine qaa Z (fun c8=>?_) (fun c8=>?_)
 ·
  have hE:qeJ p inp steps=_:=qiW g14 O
  refine Sr<|qac (qam [] [_,_,_,_] Z Z Z Z Z Z) Z<|Jc Z Z Z (qhi D _ _ _ _) ?_
  rintro _ _ s9 h9 ⟨rfl,rfl⟩
  refine Wt 2 [_,_,_,_] Y9<|Wt 1 [_,_] Y9<|Nt<|Zo<|Zu<|?_
  refine rR [_,_,_,_] _ (.agg (us:=[_,_,_,_]) 2 Z Z Z Z Z (.agg (us:=[_,_]) 1 Z Z Z Z Z (.nil))) Z (h1.t h2|>.t h3|>.t h4|>.t h5|>.t h9) fun _ hS2=>?_
  first
    | exact ⟨[],rfl,fun s2 hs2 hp=>⟨.agg #[.slice none 0 0,.int .i64 0,.int .u32 0,.int .i64 0],by rw [hE];rfl,none,0,0,by rw [hE];rfl,by rw [hE];exact Bts.nil _ _ _ O⟩⟩
    | (have hE:qeJ p inp (a:Int)=((m9.out,st9,cd9,a - m9.left),(0,0)):=by rw [hE0,qcw hmf he9 (qgp p inp a mi0 O)]
       have hst:(a:Int) - (m9.left:Int)=((a - m9.left:Nat):Int):=by omega
       exact ⟨Mo9++K9,(List.append_assoc ..).symm,fun s2 hs2 hp=>⟨_,by rw [hE];rfl,Ao,_,co,by rw [hE,hst],by rw [hE];exact Own.bts hO9 fun b zs t hm=>hp b zs t (List.mem_append_left _ hm)⟩⟩)
 have g25:¬ 400000 < inp.length:=by omega
 refine Zk<|Zt<|Zs<|?_
 refine qaU 33 (steps < 0∨50000000 < steps) ?_ ?_
 ·
  refine Zr<|Zqm Z Z<|qbh Z Z Z<|Zqm Z Z<|?_
  refine qak (t:=30) Z (fun c11=>?_) (fun c11=>?_)
  ·
   refine Wf Y4<|Wf Y4<|ZqT Z Z Z<|Zn<|?_
   refine qab (MidB.mk (Lr D) Sb Z ((decide_eq_true O).symm))
  refine Zg Z Z<|Zqm Z Z<|Zg Z Z<|qbv Z Z Z<|ZqF Z Z Z<|Zn<|?_
  refine qab (MidB.mk (Lr D) Sb Z (decide_eq_decide.2 O))
 intro s10 h10
 refine qaa Z (fun c12=>?_) (fun c12=>?_)
 ·
  have hE:qeJ p inp steps=_:=qlq g14 g25 c12
  refine Sr<|qac (qam [] [_,_,_,_] Z Z Z Z Z Z) Z<|Jc Z Z Z (qhi D _ _ _ _) ?_
  rintro _ _ s13 h13 ⟨rfl,rfl⟩
  refine Wt 2 [_,_,_,_] Y9<|Wt 1 [_,_] Y9<|Nt<|Zo<|Zu<|?_
  refine rR [_,_,_,_] _ (.agg (us:=[_,_,_,_]) 2 Z Z Z Z Z (.agg (us:=[_,_]) 1 Z Z Z Z Z (.nil))) Z (h1.t h2|>.t h3|>.t h4|>.t h5|>.t h10|>.t h13) fun _ hS2=>?_
  first
    | exact ⟨[],rfl,fun s2 hs2 hp=>⟨.agg #[.slice none 0 0,.int .i64 0,.int .u32 0,.int .i64 0],by rw [hE];rfl,none,0,0,by rw [hE];rfl,by rw [hE];exact Bts.nil _ _ _ O⟩⟩
    | (have hE:qeJ p inp (a:Int)=((m9.out,st9,cd9,a - m9.left),(0,0)):=by rw [hE0,qcw hmf he9 (qgp p inp a mi0 O)]
       have hst:(a:Int) - (m9.left:Int)=((a - m9.left:Nat):Int):=by omega
       exact ⟨Mo9++K9,(List.append_assoc ..).symm,fun s2 hs2 hp=>⟨_,by rw [hE];rfl,Ao,_,co,by rw [hE,hst],by rw [hE];exact Own.bts hO9 fun b zs t hm=>hp b zs t (List.mem_append_left _ hm)⟩⟩)
 obtain ⟨a,rfl⟩:=Int.eq_ofNat_of_zero_le (show 0≤steps by omega)
 have hE0:=qfd (p:=p) (inp:=inp) (a:=a) g14 g25 c12
 refine Zk<|Zt<|?_
 refine qlS (γ:=Nat×Nat×Nat) (fun g=>[(9,.pointer (some ⟨g.1,0,none⟩))]) (fun g=>[(g.1,cb [SN,.slice (some ⟨g.2.1,0,none⟩) ng ng,.slice (some ⟨g.2.2,0,none⟩) ng ng,SN,.int .u32 0,.int .i64 0,.slice Ai ni qi,.int .i64 (a:Int),SN,.int .i64 0,.int .u32 0,.int .i64 0] 51),(g.2.1,cb (wv (List.replicate ng 0)) 29),(g.2.2,cb (List.replicate ng SN) 47)]) (fun g tw=>True) (fun _ _ _ h hl=>h) ?_ ?_
 ·
  refine qay qad 13 Z _ (fun _ h=>h) ?_
  intro s15 h15
  refine za 0 Z (qan Z) Z<|za 1 Z (qan Z) Z<|za 2 Z (qbp Z Z Z Z) Z<|za 3 Z (Wd 3 Y5) Z<|za 4 Z (qbR Z Z Z) Z<|za 6 Z (qbp Z Z Z Z) Z<|za 7 Z (Wd 3 Y5) Z<|za 8 Z (qbR Z Z Z) Z ?_
  refine qfl 5 9 V ?_ ?_
  ·
   refine qlK Z Tt Z Z Z Z Z (by simp [ti29];omega) O Z ?_
   intro βg s16 h16
   rw [← qo6]
   refine qax 9 V<|qlK Z Tt Z Z Z Z Z (by simp [ti47];omega) O Z ?_
   intro βa s17 h17
   refine za 10 Z (qam [(_,_),(_,_),(_,_),(_,_)] [_,_,_,_,_,_,_,_,_,_,_,_] Z Z Z Z Z Z) Z<|qax 11 V<|qkK Z Tt Z Z ?_
   intro β18 s18 h18
   refine za 12 Z (qaM Z) Z<|qal V ?_
   refine qab (MidN.mk (β18,βg,βa) [] (h15.t h16|>.t h17|>.t h18) (.cons Z sk) (List.Perm.trans (qb0 _ 1) (List.Perm.trans (qb0 _ 2) (qb0 _ 2))) Tt)
  refine qlK Z Tt Z Z Z Z Z (by simp [ti47];omega) O Z ?_
  intro βa s19 h19
  refine qax 5 V<|qlK Z Tt Z Z Z Z Z (by simp [ti29];omega) O Z ?_
  intro βg s20 h20
  rw [← qo6]
  refine za 10 Z (qam [(_,_),(_,_),(_,_),(_,_)] [_,_,_,_,_,_,_,_,_,_,_,_] Z Z Z Z Z Z) Z<|qax 11 V<|qkK Z Tt Z Z ?_
  intro β21 s21 h21
  refine za 12 Z (qaM Z) Z<|qal V ?_
  refine qab (MidN.mk (β21,βg,βa) [] (h15.t h19|>.t h20|>.t h21) (.cons Z sk) (List.Perm.trans (qb0 _ 2) (List.Perm.trans (qb0 _ 2) (qb0 _ 2))) Tt)
 intro g s14 h14 I14
 simp only [cQ9,nQ9]
 obtain ⟨bm,bg,ba⟩:=g
 dsimp only
 refine Zs<|Sr<|W0 Y5<|qac (Wd 6 Y5) Z<|Ws Y4<|Zqm Z Z<|Nt<|Zp<|?_
 refine qav (γ:=Nat×List (Option Nat)) (fun g=>[(3,_),(6,_),(7,_),(9,_),(49,_),(50,_),(51,.int .i64 (g.1:Int))]) (fun g=>_::_::(ba,cb (avR p g.2 g.1 ng) 47)::_::_::_::_::(qb1 g.2 ((qef p).take g.1)++L)) (fun g tw=>Le D s14 tw∧(g.1≤ng∧g.2.length=g.1∧∀ (j:Nat) (y:Glo),j < g.1→p.globals[j]?=some y→y.kind=3→∃ b,g.2[j]?=some (some b))) (fun g=>ng - g.1) (fun _ _ _ h hl=>⟨h.1.trans hl,h.2⟩) (0,[]) (.c6 Z Z Z Z Z Z (.cons Z (.nil _))) Z ⟨Le.refl _,⟨Nat.zero_le _,Z,fun j y hj=>absurd hj (Nat.not_lt_zero _)⟩⟩ ?_
 intro g s22 I22
 obtain ⟨k,ab⟩:=g
 obtain ⟨hk0,hab,hak⟩:=I22.2
 simp only at hk0 hab hak
 dsimp only
 refine Sr<|qbh Z Z Z<|Nt<|Zs<|?_
 refine qaa Z (fun c23=>?_) (fun c23=>?_)
 ·
  have hk:k < ng:=by omega
  obtain ⟨b,off,x,Aq,nq,cq,rfl,hx,hcx,hix,hux,hnl⟩:=Glos.at_ (hGl.le (h1.t h2|>.t h3|>.t h4|>.t h5|>.t h10|>.t h14|>.t I22.1)) hk
  have hn9:=hix.1
  subst hn9
  refine Zk<|Zt<|Zs<|Zp<|Sr<|Zqm Z Z<|qac (qap Z Z Z Z Z Z hk) Z<|qac (qau Z Z Z (hcx.le (Lr D)) Z) Z<|qaj Z [_,_,_,_] Z Z ?_
  intro β24 s24 h24
  refine Zqa Z Z<|Wt 0 [_,_,_,_] Y9<|Nt<|Sr<|W0 Y5<|Wl 0 Y6<|qar Z Z Z<|Nt<|?_
  refine qaa Z (fun c25=>?_) (fun c25=>?_)
  ·
   have g3:x.kind=3:=c25
   have g4:=qs0 (hOK.1.2.2.1 x (List.mem_of_getElem? hx)).1 g3
   have g42:=g4.2
   refine Zs<|qbJ qad 10 Z [3] (by intro x hx;exact qaY hx) ?_
   intro s26 h26
   refine za 0 Z (qan Z) Z<|za 1 Z (qbx Z) Z<|za 2 Z (We Y4) Z<|za 3 Z (Wd 1 Y5) Z<|za 4 Z (qan Z) Z<|za 5 Z (We Y4) Z<|za 6 Z (qae (Wd 0 Y5) (congrArg (Value.int .u32) (Int.toNat_of_nonneg hux.1).symm)) Z<|qax 7 V<|qlK Z Tt Z Z Z Z Z (by simp [ti29];omega) O Z ?_
   intro βx s27 h27
   refine za 8 Z (qas Z Z Z Z Z Z hk) Z<|qax 9 V<|qf9 Z Tt 4 _ Z Z Z Z Z (qr5 hab hx hk) Z (qp3 hab hx hk) Z (sM (sbN (sby4 (qdC (sbE _)))))<|qal V<|Zt<|qbJ qad 10 Z [0] (by intro x hx;exact qaY hx) ?_
   intro s29 h29
   refine za 0 Z (qan Z) Z<|za 1 Z (qbx Z) Z<|za 2 Z (We Y4) Z<|za 3 Z (Wd 1 Y5) Z<|za 4 Z (qan Z) Z<|za 5 Z (qas Z Z Z Z Z Z hk) Z<|za 6 Z (qdE 3 Z Z Z Z (qrn hab hx)) Z<|za 7 Z (We Y4) Z<|za 8 Z (Wd 0 Y5) Z<|qax 9 V<|qrd Z Tt 0 (L':=(βx,cb (wv (qft x.num.toNat x.init)) 29)::_) Z Z Z Z Z Z Z (hix.row.le (h24.t h26|>.t h27|>.t h29)) g4.1 (by simp) (by rw [qpc g4.1];rfl) Z (fun x hx _=>List.mem_cons_of_mem _ hx)<|qal V<|Zb<|Zt<|qdG (pmA [_,_,_,_,_,_,_,_]) ?_
   simp only [cQ9,nQ9]
   rw [qkD hab hx g3]
   refine Zr<|qaF Z Z Z (w64 O O)<|Zqm Z Z<|Zn<|?_
   refine qab ⟨(k+1,ab++[some βx]),[_],kp,Z,⟨(I22.1.t h24|>.t h26|>.t h27|>.t h29),⟨by simp only;omega,by simp [hab],qfP hab hx hak (fun h=>by first | exact ⟨_,Z⟩ | exact absurd h g3)⟩⟩,Oz⟩
  have g3:¬ x.kind=3:=c25
  refine Zk<|Zb<|Zt<|?_
  rw [qnq hab hx hk,qgO hab hx]
  refine Zr<|qaF Z Z Z (w64 O O)<|Zqm Z Z<|Zn<|?_
  refine qab ⟨(k+1,ab++[none]),[_],kp,Z,⟨(I22.1.t h24),⟨by simp only;omega,by simp [hab],qfP hab hx hak (fun h=>by first | exact ⟨_,Z⟩ | exact absurd h g3)⟩⟩,Oz⟩
 obtain rfl:ng=k:=by omega
 rw [show (qef p).take ng=qef p from List.take_of_length_le (by rw [qef,List.length_map];omega)]
 refine Zl<|Zv<|Zv<|Zd<|Zt<|Sr<|At Z Z<|Zs<|Sr<|Wb Y5<|qac (Wd 6 Y5) Z<|Ws Y4<|Zqm Z Z<|Nt<|Zp<|?_
 rw [← List.nil_append (qb1 ab (qef p)++L)]
 refine qav (γ:=Nat×Int×Value×Hl) (fun g=>[(3,_),(6,_),(7,_),(9,_),(12,.int .i64 g.2.1),(80,_),(81,_),(82,.int .i64 (g.1:Int))]) (fun g=>(bm,cb [g.2.2.1,.slice (some ⟨bg,0,none⟩) ng ng,.slice (some ⟨ba,0,none⟩) ng ng,SN,.int .u32 0,.int .i64 0,.slice Ai ni qi,.int .i64 (a:Int),SN,.int .i64 0,.int .u32 0,.int .i64 0] 51)::_::_::_::_::_::_::(g.2.2.2++(qb1 ab (qef p)++L))) (fun g tw=>Le D s22 tw∧(g.1≤nf∧(∃ css,FL.Own 63 2 g.2.2.2 g.2.2.1 g.1 (List.flatten css)∧All2 (fun f cs=>cs.length=2∧FnV p tw f cs) (p.funcs.take g.1) css)∧∀ (j:Nat) (y:Fnc),j < g.1→p.funcs[j]?=some y→y.name=qbY→g.2.1=(j:Int))) (fun g=>nf - g.1) (fun _ _ _ h hl=>⟨h.1.trans hl,⟨h.2.1,(by obtain ⟨css,q1,q2⟩:=h.2.2.1;exact ⟨css,q1,q2.mono fun _ _ k=>⟨k.1,k.2.le hl⟩⟩),h.2.2.2⟩⟩) (0,0,SN,[]) (.c6 Z Z Z Z Z Z (.c2 Z Z (.nil _))) Z ⟨Le.refl _,⟨Nat.zero_le _,⟨[],FL.Own.nil,.nil⟩,fun j y hj=>absurd hj (Nat.not_lt_zero _)⟩⟩ ?_
 intro g s31 I31
 obtain ⟨k,mi,vf,Mf⟩:=g
 obtain ⟨hk0,⟨css,hO,hA2⟩,hmi⟩:=I31.2
 simp only at hk0 hO hA2 hmi
 dsimp only
 obtain ⟨Af2,cf2,rfl,_,_⟩:=Own.slice hO
 refine Sr<|qbh Z Z Z<|Nt<|Zs<|?_
 refine qaa Z (fun c32=>?_) (fun c32=>?_)
 ·
  have hk:k < nf:=by omega
  obtain ⟨b,off,x,B1,m1,d1,B2,m2,d2,B3,m3,d3,rfl,hx,hcx,hpx,hlx,hbx,hnl⟩:=Fncs.at_ (hFn.le (h1.t h2|>.t h3|>.t h4|>.t h5|>.t h10|>.t h14|>.t I22.1|>.t I31.1)) hk
  have hfx:=hVf x (List.mem_of_getElem? hx)
  have q83:=hOK.sz x (List.mem_of_getElem? hx)
  have qp83:=hpx.1
  have ql83:=hlx.1
  refine Zk<|Zt<|Zs<|Zp<|Sr<|Zqm Z Z<|qac (qap Z Z Z Z Z Z hk) Z<|qac (qau Z Z Z (hcx.le (Lr D)) Z) Z<|qaj Z [_,_,_,_] Z Z ?_
  intro β33 s33 h33
  refine Zqa Z Z<|Wt 0 [_,_,_,_] Y9<|Nt<|?_
  refine qd9 (γ:=Int) (fun mj=>[(12,.int .i64 mj)]) [_,_,_,_,_,_,_,_] Z (fun mj=>Mf++(qb1 ab (qef p)++L)) (fun mj tw=>(x.name=qbY→mj=(k:Int))∧(¬ x.name=qbY→mj=mi)) (fun _ _ _ h hl=>h) ?_ ?_
  ·
   refine Sr<|W0 Y5<|Wl 0 Y6<|qka Z Z Z<|Nt<|?_
   refine qaa Z (fun c35=>?_) (fun c35=>?_)
   ·
    have gmn:x.name=qbY:=c35
    refine Zr<|Zqm Z Z<|Zqa Z Z<|Zn<|?_
    refine qab (MidG.mk (k:Int) [] (Lr D) kp So Pr ⟨fun h=>(by first | rfl | exact absurd h gmn),fun h=>(by first | rfl | exact absurd gmn h)⟩)
   have gmn:¬ x.name=qbY:=c35
   refine Zk ?_
   refine qab (MidG.mk mi [] (Lr D) kp So Pr ⟨fun h=>(by first | rfl | exact absurd h gmn),fun h=>(by first | rfl | exact absurd gmn h)⟩)
  intro mj s34 h34 I34
  simp only [cQ9,nQ9]
  have hmj:=I34
  refine Sr<|qac (qag 7 [_,_] Z Z Z Z Z) Z<|qac (qag 0 [_,_,_,_] Z Z Z Z Z) Z<|qac (qam [(_,_),(_,_)] [_,_,_,_,_,_] Z Z Z Z Z Z) Z<|qaj Z [_,_,_,_,_,_] Z Z ?_
  intro β36 s36 h36
  refine Wt 0 [_,_,_,_,_,_] Y9<|Nt<|qa2 qad 22 Z 2 ?_
  intro s37 h37
  refine za 0 Z (qan Z) Z<|za 1 Z (qan Z) Z<|za 2 Z (qbx Z) Z<|za 3 Z (qbp Z Z Z Z) Z<|za 5 Z (We Y4) Z<|za 6 Z (Wd 1 Y5) Z<|za 7 Z (qbR Z Z Z) Z<|za 8 Z (We Y4) Z<|za 9 Z (Wd 1 Y5) Z<|za 10 Z (qbR Z Z Z) Z<|za 11 Z (qae (qaR Z Z (w64 O O)) (congrArg (Value.int .i64) (show (m1:Int)+(m2:Int)=((x.params.length+x.locals.length:Nat):Int) by have:=hpx.1;have:=hlx.1;omega))) Z<|za 12 Z (qag 0 [_,_,_,_,_,_] Z Z Z Z Z) Z<|za 13 Z (We Y4) Z ?_
  refine za 14 Z (Wd 1 Y5) Z ?_
  refine qfl 4 15 V ?_ ?_
  ·
   refine qe3 Z Tt (Wd 2 Y5) Z<|qax 15 V ?_
   refine Jb Z Tt Z Z Z (tsr D d _ _ d p Ag _ ng cg nf cf (hGl.le (h1.t h2|>.t h3|>.t h4|>.t h5|>.t h10|>.t h14|>.t I22.1|>.t I31.1|>.t h33|>.t h34|>.t h36|>.t h37)) (hFn.le (h1.t h2|>.t h3|>.t h4|>.t h5|>.t h10|>.t h14|>.t I22.1|>.t I31.1|>.t h33|>.t h34|>.t h36|>.t h37)) x B1 B2 B3 m1 d1 m2 d2 m3 d3 (hpx.le (h33.t h34|>.t h36|>.t h37)) (hlx.le (h33.t h34|>.t h36|>.t h37)) (hOK.sz x (List.mem_of_getElem? hx)) hOK.pok B3 m3 d3 x.body (hbx.le (h33.t h34|>.t h36|>.t h37)) (hOK.st (List.mem_of_getElem? hx)).1 (hOK.st (List.mem_of_getElem? hx)).2) ?_
   rintro _ _ s38 h38 ⟨rfl,A',n',c',rfl,hV⟩
   refine ⟨fun _ _ h=>h,?_⟩
   refine za 16 Z (qam [(_,_),(_,_)] [_,_] Z Z Z Z Z Z) Z<|qax 17 V<|qhX Z Tt [(_,_)] [_,_] Z Z Z Z Z Z Z Z Z ?_
   intro βn s39 h39 hcb
   refine qax 18 V<|qe7 Z Tt (sz:=2) [_,_,_,_,_,_,_,_,_] Mf _ Z Z Z Z Z Z Z hO (Row.of_cells (hcb.le (Lr D)) Z Z) ⟨by simp [ti63];omega,by omega⟩ Z (fun _ x hx _=>qq5 hx) ?_
   intro vq Mq s40 h40 oq
   obtain ⟨Avq,cvq,rfl,_,_⟩:=Own.slice oq
   simp only [cQ9,nQ9]
   refine za 19 Z (qbx Z) Z<|za 20 Z (qbp Z Z Z Z) Z<|qax 21 V<|Wu Z Tt 2 [_,_,_,_,_,_,_,_,_,_,_,_] Y9 (sM (qmw (sb0 _)))<|qal V<|Zb<|Zt<|Zr<|qaF Z Z Z (w64 O O)<|Zqm Z Z<|Zn<|?_
   refine qab ⟨(k+1,mj,.slice Avq (k+1) cvq,Mq),[_,_],kp,Z,⟨(I31.1.t h33|>.t h34|>.t h36|>.t h37|>.t h38|>.t h39|>.t h40),⟨by simp only;omega,⟨css++[[.int .i64 ((x.params.length+x.locals.length:Nat):Int),.slice A' n' c']],by simp only [List.flatten_append,List.flatten_cons,List.flatten_nil,List.append_nil];exact oq,by simp only;rw [qaS hx];exact qeN (hA2.mono fun _ _ k=>⟨k.1,k.2.le (h33.t h34|>.t h36|>.t h37|>.t h38|>.t h39|>.t h40)⟩) ⟨Z,d,A',n',c',Z,hV.le (h39.t h40)⟩⟩,qeS hND hx hmi hmj.1 hmj.2⟩⟩,Oz⟩
  refine Jb Z Tt Z Z Z (tsr D d _ _ d p Ag _ ng cg nf cf (hGl.le (h1.t h2|>.t h3|>.t h4|>.t h5|>.t h10|>.t h14|>.t I22.1|>.t I31.1|>.t h33|>.t h34|>.t h36|>.t h37)) (hFn.le (h1.t h2|>.t h3|>.t h4|>.t h5|>.t h10|>.t h14|>.t I22.1|>.t I31.1|>.t h33|>.t h34|>.t h36|>.t h37)) x B1 B2 B3 m1 d1 m2 d2 m3 d3 (hpx.le (h33.t h34|>.t h36|>.t h37)) (hlx.le (h33.t h34|>.t h36|>.t h37)) (hOK.sz x (List.mem_of_getElem? hx)) hOK.pok B3 m3 d3 x.body (hbx.le (h33.t h34|>.t h36|>.t h37)) (hOK.st (List.mem_of_getElem? hx)).1 (hOK.st (List.mem_of_getElem? hx)).2) ?_
  rintro _ _ s41 h41 ⟨rfl,A',n',c',rfl,hV⟩
  refine ⟨fun _ _ h=>h,?_⟩
  refine za 16 Z (qam [(_,_),(_,_)] [_,_] Z Z Z Z Z Z) Z ?_
  refine qfl 4 17 V ?_ ?_
  ·
   refine qe3 Z Tt (Wd 2 Y5) Z<|qax 17 V<|qhX Z Tt [(_,_)] [_,_] Z Z Z Z Z Z Z Z Z ?_
   intro βn s42 h42 hcb
   refine qax 18 V<|qe7 Z Tt (sz:=2) [_,_,_,_,_,_,_,_,_] Mf _ Z Z Z Z Z Z Z hO (Row.of_cells (hcb.le (Lr D)) Z Z) ⟨by simp [ti63];omega,by omega⟩ Z (fun _ x hx _=>qq5 hx) ?_
   intro vq Mq s43 h43 oq
   obtain ⟨Avq,cvq,rfl,_,_⟩:=Own.slice oq
   simp only [cQ9,nQ9]
   refine za 19 Z (qbx Z) Z<|za 20 Z (qbp Z Z Z Z) Z<|qax 21 V<|Wu Z Tt 2 [_,_,_,_,_,_,_,_,_,_,_,_] Y9 (sM (qmw (sb0 _)))<|qal V<|Zb<|Zt<|Zr<|qaF Z Z Z (w64 O O)<|Zqm Z Z<|Zn<|?_
   refine qab ⟨(k+1,mj,.slice Avq (k+1) cvq,Mq),[_,_],kp,Z,⟨(I31.1.t h33|>.t h34|>.t h36|>.t h37|>.t h41|>.t h42|>.t h43),⟨by simp only;omega,⟨css++[[.int .i64 ((x.params.length+x.locals.length:Nat):Int),.slice A' n' c']],by simp only [List.flatten_append,List.flatten_cons,List.flatten_nil,List.append_nil];exact oq,by simp only;rw [qaS hx];exact qeN (hA2.mono fun _ _ k=>⟨k.1,k.2.le (h33.t h34|>.t h36|>.t h37|>.t h41|>.t h42|>.t h43)⟩) ⟨Z,d,A',n',c',Z,hV.le (h42.t h43)⟩⟩,qeS hND hx hmi hmj.1 hmj.2⟩⟩,Oz⟩
  refine qhX Z Tt [(_,_)] [_,_] Z Z Z Z Z Z Z Z Z ?_
  intro βn s44 h44 hcb
  refine qax 4 V<|qe3 Z Tt (Wd 2 Y5) Z<|qax 18 V<|qe7 Z Tt (sz:=2) [_,_,_,_,_,_,_,_,_] Mf _ Z Z Z Z Z Z Z hO (Row.of_cells (hcb.le (Lr D)) Z Z) ⟨by simp [ti63];omega,by omega⟩ Z (fun _ x hx _=>qq5 hx) ?_
  intro vq Mq s45 h45 oq
  obtain ⟨Avq,cvq,rfl,_,_⟩:=Own.slice oq
  simp only [cQ9,nQ9]
  refine za 19 Z (qbx Z) Z<|za 20 Z (qbp Z Z Z Z) Z<|qax 21 V<|Wu Z Tt 2 [_,_,_,_,_,_,_,_,_,_,_,_] Y9 (sM (qmw (sb0 _)))<|qal V<|Zb<|Zt<|Zr<|qaF Z Z Z (w64 O O)<|Zqm Z Z<|Zn<|?_
  refine qab ⟨(k+1,mj,.slice Avq (k+1) cvq,Mq),[_,_],kp,Z,⟨(I31.1.t h33|>.t h34|>.t h36|>.t h37|>.t h41|>.t h44|>.t h45),⟨by simp only;omega,⟨css++[[.int .i64 ((x.params.length+x.locals.length:Nat):Int),.slice A' n' c']],by simp only [List.flatten_append,List.flatten_cons,List.flatten_nil,List.append_nil];exact oq,by simp only;rw [qaS hx];exact qeN (hA2.mono fun _ _ k=>⟨k.1,k.2.le (h33.t h34|>.t h36|>.t h37|>.t h41|>.t h44|>.t h45)⟩) ⟨Z,d,A',n',c',Z,hV.le (h44.t h45)⟩⟩,qeS hND hx hmi hmj.1 hmj.2⟩⟩,Oz⟩
 obtain rfl:nf=k:=by omega
 rw [List.take_of_length_le O] at hA2
 obtain ⟨mi0,xm,hmf,hxm,hnm,hpm⟩:=qgq hOK.2.1
 obtain rfl:=hmi mi0 xm (by rw [hn2];exact (List.getElem?_eq_some_iff.1 hxm).1) hxm hnm
 refine Zl<|Zv<|Zv<|Zd<|Zt<|Zs<|qbC [_,_,_,_,_,_,_] Mf _ ?_
 intro s46 h46 hpub46
 simp only [cQ9,nQ9]
 have hFV:Sl 2 (FnV p) s46 Af2 nf cf2 p.funcs:=Own.rows hO hpub46 (hA2.mono fun _ _ k=>⟨k.1,k.2.le h46⟩) hn2
 refine qbC [_,_] [_] _ ?_
 intro s47 h47 hpub47
 simp only [cQ9,nQ9]
 have hca0:=hpub47 _ _ _ (List.mem_singleton.2 rfl)
 rw [avR,Nat.sub_self,List.replicate_zero,List.append_nil,List.take_of_length_le O] at hca0
 have hca:CellsAt s47 ba 0 (qgE ab p.globals):=hca0
 have hFV:=Sl.le (fun _ _ h=>FnV.le h47 h) hFV h47
 refine qdG (.cons _ (.cons _ (List.perm_append_comm_assoc [_,_,_,_] (qb1 ab (qef p)) L))) ?_
 simp only [cQ9,nQ9]
 rw [← qrw p inp a ⟨bm,bg,0,ba,Af2,nf,cf2,ng,0,ab⟩ _,show List.replicate ng (0:Int)=(qei p inp a).glo from by rw [hn1];rfl]
 have hCT:CT p (⟨bm,bg,0,ba,Af2,nf,cf2,ng,0,ab⟩:MC) s47:=⟨hFV,hca,hOK.sz,fun g hg=>(hU.1 g hg).1⟩
 have hMG:MG p (⟨bm,bg,0,ba,Af2,nf,cf2,ng,0,ab⟩:MC) a (qei p inp a) (.slice Ai ni qi) SN (qb1 ab (qef p)) s47:=qug (ng:=ng) hOK hU (hI.le (h1.t h2|>.t h3|>.t h4|>.t h5|>.t h10|>.t h14|>.t I22.1|>.t I31.1|>.t h46|>.t h47)) O hn1 rfl hab (fun j y hy h3=>hak j y (by rw [hn1];exact (List.getElem?_eq_some_iff.1 hy).1) hy h3)
 refine Zr<|Zqm Z Z<|Zqm Z Z<|Jc Z Z Z (qmG p D fuX (qpj p D fuX).2.2 _ _ (⟨bm,bg,0,ba,Af2,nf,cf2,ng,0,ab⟩:MC) a mi0 xm (qei p inp a) _ _ _ _ _ _ hCT hxm hpm hMG (qgp p inp a mi0 O)) ?_
 rintro _ _ s48 h48 ⟨rfl,m9,st9,cd9,Z9,rfl,hF9,he9⟩
 refine Nt<|Zs<|?_
 obtain ⟨u0,u1,u2,u3,u4,u5,u6,u7,ov9,Mo9,K9,hp9,hO9,hlo9,hll9⟩:=hF9
 obtain ⟨Ao,co,rfl,_,_⟩:=Own.slice hO9
 refine qdG (pm26 hp9)<|Zr<|Zqm Z Z<|qcd Z Z<|Wb Y5<|qac (qag 0 [_,_,_,_] Z Z Z Z Z) Z<|qac (qam [] [_,_] Z Z Z Z Z Z) Z<|Wt 3 [_,_,_,_] Y9<|Wt 2 [_,_] Y9<|Nt<|Zo<|?_
 refine rR [_,_,_,_,_] _ (.agg (us:=[_,_,_,_]) 3 Z Z Z Z Z (.agg (us:=[_,_]) 2 Z Z Z Z Z (.nil))) Z (h1.t h2|>.t h3|>.t h4|>.t h5|>.t h10|>.t h14|>.t I22.1|>.t I31.1|>.t h46|>.t h47|>.t h48) fun _ hS2=>?_
 first
   | exact ⟨[],rfl,fun s2 hs2 hp=>⟨.agg #[.slice none 0 0,.int .i64 0,.int .u32 0,.int .i64 0],by rw [hE];rfl,none,0,0,by rw [hE];rfl,by rw [hE];exact Bts.nil _ _ _ O⟩⟩
   | (have hE:qeJ p inp (a:Int)=((m9.out,st9,cd9,a - m9.left),(0,0)):=by rw [hE0,qcw hmf he9 (qgp p inp a mi0 O)]
      have hst:(a:Int) - (m9.left:Int)=((a - m9.left:Nat):Int):=by omega
      exact ⟨Mo9++K9,(List.append_assoc ..).symm,fun s2 hs2 hp=>⟨_,by rw [hE];rfl,Ao,_,co,by rw [hE,hst],by rw [hE];exact Own.bts hO9 fun b zs t hm=>hp b zs t (List.mem_append_left _ hm)⟩⟩)
theorem qmN:qfE 32 kwT=kwords:=by decide +kernel
theorem qrs{k:Nat}{w s:Str}(h:kwords[k]?=some w)(he:w=s):kwB s=true:=List.any_eq_true.2 ⟨w,List.mem_of_getElem? h,by simp [he]⟩
theorem qm1{s:Str}(h:∀ i w,i < kwords.length→kwords[i]?=some w→decide (w=s)=false):kwB s=false:=by
 cases hk:kwB s with
 | false=>rfl
 | true=>
  obtain ⟨w,hw,e⟩:=List.any_eq_true.1 hk
  obtain ⟨i,hi⟩:=List.getElem?_of_mem hw
  rw [h i w (List.getElem?_eq_some_iff.1 hi).1 hi] at e;cases e
theorem namedS_iff{k:Int}:qcc k=true↔(k=1∨k=2∨k=5):=by simp [qcc,or_assoc]
theorem qge{k:Int}:qcc k=false↔¬ (k=1∨k=2∨k=5):=by rw [← namedS_iff];cases qcc k <;> simp
theorem qtp(D:Nat)(L:Hl)(s:World)(w:List UInt8):AC prog D 132 [St w] L s fun v L' _=>v=.bool (kwB w)∧L=L':=by
 refine qai (fn:=f132) qao func132 V Z ntmps132 Z (rs:=[.tmp 2]) Z [(0,_)] Z<|Sr<|At Z Z<|Sr<|Jc Z Z Z (qgQ D _ _ kwT 32 Dc) ?_
 rintro _ _ s1 h1 ⟨rfl,Ak,nk,ck,rfl,hK⟩
 rw [qmN] at hK
 have hnk:=hK.1
 have hnk2:kwords.length=13:=by decide
 refine At Z Z<|Zs<|Sr<|At Z Z<|Zp<|qav (γ:=Nat) (fun k=>[(0,_),(2,_),(3,_),(4,.int .i64 (k:Int))]) (fun _=>_) (fun k tw=>Le D s1 tw∧(k≤nk∧∀ i x,i < k→kwords[i]?=some x→decide (x=w)=false)) (fun k=>nk - k) (fun _ _ _ h hl=>⟨h.1.trans hl,h.2⟩) 0 (.c4 Z Z Z Z (.nil _)) Z ⟨Le.refl _,⟨Nat.zero_le _,fun i x hi=>by omega⟩⟩ ?_
 intro k s2 I2
 have hk0:=I2.2.1
 have hI:=I2.2.2
 refine Zs<|Sr<|Zqm Z Z<|Zqm Z Z<|Ws Y4<|qbh Z Z Z<|Nt<|?_
 refine qaa Z (fun c3=>?_) (fun c3=>?_)
 ·
  have hk:k < nk:=by omega
  obtain ⟨b,off,x,rfl,hx,hcx,_⟩:=Strs.at_ (hK.le I2.1) hk
  refine Zk<|Zt<|Zs<|Zp<|Sr<|Zqm Z Z<|Zqm Z Z<|qac (qas Z Z Z Z Z Z hk) Z<|qac (qah Z Z Z (hcx.le (Lr D)) Z) Z<|Zqm Z Z<|qka Z Z Z<|Nt<|?_
  refine qaa Z (fun c4=>?_) (fun c4=>?_)
  ·
   have hq:=c4
   refine Sr<|At Z Z<|Zo<|Zc<|Zu<|Zu<|Zc<|Zu<|?_
   refine rR [] L (.t1 Z) Z (h1.t I2.1) fun _ hS2=>?_
   exact ⟨by rw [qrs hx hq];rfl,rfl⟩
  have hq:=c4
  refine Zk<|Zb<|Zt<|Zr<|Zqm Z Z<|qaF Z Z Z (w64 O O)<|Zqa Z Z<|Zn<|?_
  refine qab ⟨(k+1),[],kp,Z,⟨I2.1,⟨by omega,qbc hI hx (decide_eq_false hq)⟩⟩,O⟩
 refine Zl<|Zv<|Zv<|Zd<|Zt<|Sr<|At Z Z<|Zo<|?_
 refine rR [] L (.t1 Z) Z (h1.t I2.1) fun _ hS2=>?_
 exact ⟨by rw [qm1 (fun i w hi h=>hI i w O h)];rfl,rfl⟩
theorem qdj(D:Nat)(L:Hl)(s:World)(w:List UInt8)(hw:w.length≤9223372036854775807):AC prog D 99 [St w] L s fun v L' _=>v=.bool (qaT w)∧L=L':=by
 refine qai (fn:=f99) qao func99 V Z ntmps99 Z (rs:=[.tmp 2]) Z [(0,_)] Z<|Sr<|At Z Z<|Sr<|Zqm Z Z<|Jc Z Z Z (qlm D _ _ w 12 hw) ?_
 rintro _ _ s1 h1 ⟨rfl,rfl⟩
 refine Zqm Z Z ?_
 refine qc9 (t:=5) Z (fun c2=>?_) (fun c2=>?_)
 ·
  refine Zg Z Z<|Zqm Z Z<|Zg Z Z<|Jc Z Z Z (qtp D _ _ w) ?_
  rintro _ _ s3 h3 ⟨rfl,rfl⟩
  refine Zg Z Z<|qbV Z Z<|ZqT Z Z Z<|At Z Z<|Zo<|?_
  refine rR [] L (.t1 Z) Z (h1.t h3) fun _ hS2=>?_
  refine ⟨?_,Z⟩
  simp only [qat,qaT]
  simp_all
 refine Wf Y4<|Wf Y4<|Wf Y4<|ZqF Z Z Z<|At Z Z<|Zo<|?_
 refine rR [] L (.t1 Z) Z h1 fun _ hS2=>?_
 refine ⟨?_,Z⟩
 simp only [qat,qaT]
 simp_all
theorem qqY(D:Nat)(L:Hl)(s:World)(g:Glo)(A:Option Addr)(n c:Nat)(hA:Wds s A n c g.init)(hu:U32 g.num)(hl:g.name.length≤9223372036854775807):AC prog D 98 [.agg #[.int .i64 g.kind,St g.name,.int .u32 g.num,.slice A n c]] L s fun v L' _=>v=.int .i64 (qfc g)∧L=L':=by
 have hn:=hA.1
 have hu1:=hu.1
 have hu2:=hu.2
 refine qai (fn:=f98) qao func98 V Z ntmps98 Z (rs:=[.tmp 2]) Z [(0,_)] Z<|Sr<|qaq Z Z ?_
 intro β1 s1 h1
 refine At Z Z<|Zs<|Sr<|W0 Y5<|Wl 0 Y6<|Jc Z Z Z (qcY D _ _ _ _ _) ?_
 rintro _ _ s2 h2 ⟨rfl,rfl⟩
 refine qbV Z Z<|Nt<|?_
 refine qaP Z (fun c3=>?_) (fun c3=>?_)
 ·
  refine Sr<|At Z Z<|Zo<|Zu<|?_
  refine rR [_] L (.t1 Z) Z (h1.t h2) fun _ hS2=>?_
  refine ⟨?_,Z⟩
  simp only [qat];rw [qaQ hn]
  repeat' split
  all_goals (first | rfl | (exfalso;omega) | (exfalso;simp_all;done) | (exfalso;simp_all;omega))
 refine Zk<|Zt<|Zs<|Sr<|Wb Y5<|Wl 0 Y6<|Jc Z Z Z (qdj D _ _ g.name hl) ?_
 rintro _ _ s4 h4 ⟨rfl,rfl⟩
 refine qbV Z Z<|Nt<|?_
 refine qcH Z (fun c5=>?_) (fun c5=>?_)
 ·
  refine Sr<|At Z Z<|Zo<|Zu<|?_
  refine rR [_] L (.t1 Z) Z (h1.t h2|>.t h4) fun _ hS2=>?_
  refine ⟨?_,Z⟩
  simp only [qat];rw [qaQ hn]
  repeat' split
  all_goals (first | rfl | (exfalso;omega) | (exfalso;simp_all;done) | (exfalso;simp_all;omega))
 refine Zk<|Zt<|Zs<|?_
 refine qaU 29 ((g.kind≠3∧0 < n)∨(g.kind=2∧g.num≠0)) ?_ ?_
 ·
  refine Zr<|W0 Y5<|Wl 0 Y6<|qbh Z Z Z<|Zqm Z Z<|?_
  refine qak (t:=14) Z (fun c7=>?_) (fun c7=>?_)
  ·
   refine Zg Z Z<|Wb Y5<|Zg Z Z<|Wl 0 Y6<|Zg Z Z<|Ws Y4<|Zg Z Z<|qbv Z Z Z<|ZqT Z Z Z<|Zqm Z Z<|?_
   refine qak (t:=20) Z (fun c8=>?_) (fun c8=>?_)
   ·
    refine Wf Y4<|Wf Y4<|Wf Y4<|Wf Y4<|Zh Z Z Z<|Zh Z Z Z<|Zh Z Z Z<|Wf Y4<|ZqT Z Z Z<|Zn<|?_
    refine qab (MidB.mk (Lr D) Sb Z ((decide_eq_true O).symm))
   refine Zg Z Z<|W0 Y5<|Zg Z Z<|Wl 0 Y6<|Zg Z Z<|qar Z Z Z<|Zg Z Z<|Zqm Z Z<|?_
   refine qak (t:=24) Z (fun c9=>?_) (fun c9=>?_)
   ·
    refine Zg Z Z<|Wb Y5<|Zg Z Z<|Wl 0 Y6<|Zg Z Z<|qb2 Z Z Z<|Zg Z Z<|ZqT Z Z Z<|ZqF Z Z Z<|Zn<|?_
    refine qab (MidB.mk (Lr D) Sb Z (qbw O))
   refine Wf Y4<|Wf Y4<|Wf Y4<|Zg Z Z<|ZqF Z Z Z<|ZqF Z Z Z<|Zn<|?_
   refine qab (MidB.mk (Lr D) Sb Z ((decide_eq_false O).symm))
  refine Wf Y4<|Wf Y4<|Wf Y4<|Wf Y4<|ZqF Z Z Z<|Zqm Z Z<|Zg Z Z<|W0 Y5<|Zg Z Z<|Wl 0 Y6<|Zg Z Z<|qar Z Z Z<|Zg Z Z<|Zqm Z Z<|?_
  refine qak (t:=24) Z (fun c10=>?_) (fun c10=>?_)
  ·
   refine Zg Z Z<|Wb Y5<|Zg Z Z<|Wl 0 Y6<|Zg Z Z<|qb2 Z Z Z<|Zg Z Z<|ZqT Z Z Z<|ZqF Z Z Z<|Zn<|?_
   refine qab (MidB.mk (Lr D) Sb Z (qbw O))
  refine Wf Y4<|Wf Y4<|Wf Y4<|Zg Z Z<|ZqF Z Z Z<|ZqF Z Z Z<|Zn<|?_
  refine qab (MidB.mk (Lr D) Sb Z ((decide_eq_false O).symm))
 intro s6 h6
 refine qaa Z (fun c11=>?_) (fun c11=>?_)
 ·
  refine Sr<|At Z Z<|Zo<|Zu<|?_
  refine rR [_] L (.t1 Z) Z (h1.t h2|>.t h4|>.t h6) fun _ hS2=>?_
  refine ⟨?_,Z⟩
  simp only [qat];rw [qaQ hn]
  repeat' split
  all_goals (first | rfl | (exfalso;omega) | (exfalso;simp_all;done) | (exfalso;simp_all;omega))
 refine Zk<|Zt<|Zs<|?_
 refine qaU 39 (g.kind=3∧(g.num < 1∨40000 < g.num)) ?_ ?_
 ·
  refine Zr<|W0 Y5<|Wl 0 Y6<|qar Z Z Z<|Zqm Z Z<|?_
  refine qak (t:=33) Z (fun c13=>?_) (fun c13=>?_)
  ·
   refine Zg Z Z<|Wb Y5<|Zg Z Z<|Wl 0 Y6<|Zg Z Z<|qac (qbl Z Z Z Z Z (w64 O O)) Z<|Zg Z Z<|Jc Z Z Z (qcY D _ _ _ _ _) ?_
   rintro _ _ s14 h14 ⟨rfl,rfl⟩
   refine Zg Z Z<|qbV Z Z<|ZqT Z Z Z<|Zn<|?_
   refine qab (MidB.mk h14 Sb Z (qbw O))
  refine Wf Y4<|Wf Y4<|Wf Y4<|Wf Y4<|Wf Y4<|ZqF Z Z Z<|Zn<|?_
  refine qab (MidB.mk (Lr D) Sb Z ((decide_eq_false O).symm))
 intro s12 h12
 refine qaa Z (fun c15=>?_) (fun c15=>?_)
 ·
  refine Sr<|At Z Z<|Zo<|Zu<|?_
  refine rR [_] L (.t1 Z) Z (h1.t h2|>.t h4|>.t h6|>.t h12) fun _ hS2=>?_
  refine ⟨?_,Z⟩
  simp only [qat];rw [qaQ hn]
  repeat' split
  all_goals (first | rfl | (exfalso;omega) | (exfalso;simp_all;done) | (exfalso;simp_all;omega))
 refine Zk<|Zt<|Zs<|?_
 refine qaU 51 (g.kind=3∧g.num < (n:Int)) ?_ ?_
 ·
  refine Zr<|W0 Y5<|Wl 0 Y6<|qar Z Z Z<|Zqm Z Z<|?_
  refine qak (t:=43) Z (fun c17=>?_) (fun c17=>?_)
  ·
   refine Zg Z Z<|Wb Y5<|Zg Z Z<|Wl 0 Y6<|Zg Z Z<|Ws Y4<|Zg Z Z<|Wb Y5<|Zg Z Z<|Wl 0 Y6<|Zg Z Z<|qac (qbl Z Z Z Z Z (w64 O O)) Z<|Zg Z Z<|qbv Z Z Z<|ZqT Z Z Z<|Zn<|?_
   refine qab (MidB.mk (Lr D) Sb Z (decide_eq_decide.2 O))
  refine Wf Y4<|Wf Y4<|Wf Y4<|Wf Y4<|Wf Y4<|Wf Y4<|Wf Y4<|ZqF Z Z Z<|Zn<|?_
  refine qab (MidB.mk (Lr D) Sb Z ((decide_eq_false O).symm))
 intro s16 h16
 refine qaa Z (fun c18=>?_) (fun c18=>?_)
 ·
  refine Sr<|At Z Z<|Zo<|Zu<|?_
  refine rR [_] L (.t1 Z) Z (h1.t h2|>.t h4|>.t h6|>.t h12|>.t h16) fun _ hS2=>?_
  refine ⟨?_,Z⟩
  simp only [qat];rw [qaQ hn]
  repeat' split
  all_goals (first | rfl | (exfalso;omega) | (exfalso;simp_all;done) | (exfalso;simp_all;omega))
 refine Zk<|Zt<|Sr<|At Z Z<|Zo<|?_
 refine rR [_] L (.t1 Z) Z (h1.t h2|>.t h4|>.t h6|>.t h12|>.t h16) fun _ hS2=>?_
 refine ⟨?_,Z⟩
 simp only [qat];rw [qaQ hn]
 repeat' split
 all_goals (first | rfl | (exfalso;omega) | (exfalso;simp_all;done) | (exfalso;simp_all;omega))
theorem qr4(D:Nat)(L:Hl)(s:World)(x:Ex)(A:Option Addr)(n c:Nat)(hn:n=x.args.length)(hc:n≤9223372036854775807)(hl:x.name.length≤9223372036854775807):AC prog D 170 [.agg #[.int .i64 x.kind,.int .i64 x.op,.int .u32 x.num,St x.name,.slice A n c]] L s fun v L' _=>v=.int .i64 (exC x.kind x.op x.num x.name x.args.length)∧L=L':=by
 refine qai (fn:=f170) qao func170 V Z ntmps170 Z (rs:=[.tmp 2]) Z [(0,_)] Z<|Sr<|qaq Z Z ?_
 intro β1 s1 h1
 refine At Z Z<|Zs<|?_
 refine qaU 31 (x.kind < 1∨7 < x.kind∨¬ ¬ ((x.kind=6∧(x.op < 1∨3 < x.op))∨(x.kind=7∧(x.op < 4∨21 < x.op)))) ?_ ?_
 ·
  refine Zr<|W0 Y5<|Wl 0 Y6<|Jc Z Z Z (qcY D _ _ _ _ _) ?_
  rintro _ _ s3 h3 ⟨rfl,rfl⟩
  refine qbV Z Z<|Zqm Z Z<|?_
  refine qaE (t:=10) Z (fun c4=>?_) (fun c4=>?_)
  ·
   refine Wf Y4<|Wf Y4<|Wf Y4<|Wf Y4<|Zh Z Z Z<|Zh Z Z Z<|Zh Z Z Z<|Zh Z Z Z<|Wf Y4<|ZqT Z Z Z<|Zqm Z Z<|Wf Y4<|Wf Y4<|Wf Y4<|Wf Y4<|Zh Z Z Z<|Zh Z Z Z<|Zh Z Z Z<|Zh Z Z Z<|Wf Y4<|ZqT Z Z Z<|Zn<|?_
   refine qab (MidB.mk h3 Sb Z ((decide_eq_true O).symm))
  refine Zg Z Z<|W0 Y5<|Zg Z Z<|Wl 0 Y6<|Zg Z Z<|qar Z Z Z<|Zg Z Z<|Zqm Z Z<|?_
  refine qak (t:=14) Z (fun c5=>?_) (fun c5=>?_)
  ·
   refine Zg Z Z<|Wb Y5<|Zg Z Z<|Wl 0 Y6<|Zg Z Z<|Jc Z Z Z (qcY D _ _ _ _ _) ?_
   rintro _ _ s6 h6 ⟨rfl,rfl⟩
   refine Zg Z Z<|qbV Z Z<|Zg Z Z<|ZqT Z Z Z<|ZqF Z Z Z<|Zqm Z Z<|?_
   refine qaE (t:=21) Z (fun c7=>?_) (fun c7=>?_)
   ·
    refine Wf Y4<|Wf Y4<|Wf Y4<|Wf Y4<|Zh Z Z Z<|Zh Z Z Z<|Zh Z Z Z<|Zh Z Z Z<|Wf Y4<|ZqT Z Z Z<|Zn<|?_
    refine qab (MidB.mk (h3.t h6) Sb Z ((decide_eq_true O).symm))
   refine Zg Z Z<|W0 Y5<|Zg Z Z<|Wl 0 Y6<|Zg Z Z<|qar Z Z Z<|Zg Z Z<|Zqm Z Z<|?_
   refine qak (t:=25) Z (fun c8=>?_) (fun c8=>?_)
   ·
    refine Zg Z Z<|Wb Y5<|Zg Z Z<|Wl 0 Y6<|Zg Z Z<|Jc Z Z Z (qcY D _ _ _ _ _) ?_
    rintro _ _ s9 h9 ⟨rfl,rfl⟩
    refine Zg Z Z<|qbV Z Z<|Zg Z Z<|ZqT Z Z Z<|ZqF Z Z Z<|Zn<|?_
    refine qab (MidB.mk (h3.t h6|>.t h9) Sb Z (qbw O))
   refine Wf Y4<|Wf Y4<|Wf Y4<|Wf Y4<|Zg Z Z<|ZqF Z Z Z<|ZqF Z Z Z<|Zn<|?_
   refine qab (MidB.mk (h3.t h6) Sb Z ((decide_eq_false O).symm))
  refine Wf Y4<|Wf Y4<|Wf Y4<|Wf Y4<|Zg Z Z<|ZqF Z Z Z<|ZqF Z Z Z<|Zqm Z Z<|Zg Z Z<|W0 Y5<|Zg Z Z<|Wl 0 Y6<|Zg Z Z<|qar Z Z Z<|Zg Z Z<|Zqm Z Z<|?_
  refine qak (t:=25) Z (fun c10=>?_) (fun c10=>?_)
  ·
   refine Zg Z Z<|Wb Y5<|Zg Z Z<|Wl 0 Y6<|Zg Z Z<|Jc Z Z Z (qcY D _ _ _ _ _) ?_
   rintro _ _ s11 h11 ⟨rfl,rfl⟩
   refine Zg Z Z<|qbV Z Z<|Zg Z Z<|ZqT Z Z Z<|ZqF Z Z Z<|Zn<|?_
   refine qab (MidB.mk (h3.t h11) Sb Z (qbw O))
  refine Wf Y4<|Wf Y4<|Wf Y4<|Wf Y4<|Zg Z Z<|ZqF Z Z Z<|ZqF Z Z Z<|Zn<|?_
  refine qab (MidB.mk h3 Sb Z ((decide_eq_false O).symm))
 intro s2 h2
 refine qaa Z (fun c12=>?_) (fun c12=>?_)
 ·
  have hE:=qtV hn c12
  refine Sr<|At Z Z<|Zo<|Zu<|?_
  refine rR [_] L (.t1 Z) Z (h1.t h2) fun _ hS2=>?_
  exact ⟨by rw [hE];rfl,rfl⟩
 have g5:=c12
 refine Zk<|Zt<|Sr<|W0 Y5<|Wl 0 Y6<|Jc Z Z Z (qcY D _ _ _ _ _) ?_
 rintro _ _ s13 h13 ⟨rfl,rfl⟩
 refine At Z Z<|Zs<|?_
 refine qaU 41 ((2≤x.kind∧x.kind≤4)∧qaT x.name=false) ?_ ?_
 ·
  refine Zr<|Zqm Z Z<|Zqm Z Z<|?_
  refine qak (t:=36) Z (fun c15=>?_) (fun c15=>?_)
  ·
   refine Zg Z Z<|Wb Y5<|Zg Z Z<|Wl 0 Y6<|Zg Z Z<|Jc Z Z Z (qdj D _ _ x.name hl) ?_
   rintro _ _ s16 h16 ⟨rfl,rfl⟩
   refine Zg Z Z<|qbV Z Z<|ZqT Z Z Z<|Zn<|?_
   refine qab (MidB.mk h16 Sb Z ((qiA As)))
  refine Wf Y4<|Wf Y4<|Wf Y4<|Wf Y4<|ZqF Z Z Z<|Zn<|?_
  refine qab (MidB.mk (Lr D) Sb Z ((decide_eq_false (fun h=>absurd h.1 As)).symm))
 intro s14 h14
 refine qaa Z (fun c17=>?_) (fun c17=>?_)
 ·
  have hE:=qsV hn g5 c17
  refine Sr<|At Z Z<|Zo<|Zu<|?_
  refine rR [_] L (.t1 Z) Z (h1.t h2|>.t h13|>.t h14) fun _ hS2=>?_
  exact ⟨by rw [hE];rfl,rfl⟩
 have g7:=c17
 refine Zk<|Zt<|Sr<|At Z Z<|Sr<|At Z Z<|?_
 refine qd9 (γ:=Unit) (fun _=>[(4,.int .i64 (qbG x.kind:Int)),(5,.int .i64 (qcv x.kind:Int))]) [_] Z (fun g=>L) (fun g tw=>True) (fun _ _ _ h hl=>h) ?_ ?_
 ·
  refine qaU 49 (x.kind=3∨x.kind=6) ?_ ?_
  ·
   refine Zr<|W0 Y5<|Wl 0 Y6<|qar Z Z Z<|Zqm Z Z<|?_
   refine qak (t:=45) Z (fun c20=>?_) (fun c20=>?_)
   ·
    refine Wf Y4<|Wf Y4<|Wf Y4<|ZqT Z Z Z<|Zn<|?_
    refine qab (MidB.mk (Lr D) Sb Z ((decide_eq_true O).symm))
   refine Zg Z Z<|W0 Y5<|Zg Z Z<|Wl 0 Y6<|Zg Z Z<|qar Z Z Z<|ZqF Z Z Z<|Zn<|?_
   refine qab (MidB.mk (Lr D) Sb Z (decide_eq_decide.2 O))
  intro s19 h19
  refine qaa Z (fun c21=>?_) (fun c21=>?_)
  ·
   refine Sr<|At Z Z<|Zr<|Zqa Z Z<|Zn<|?_
   refine qab (MidG.mk () [] h19 (.cons (by unfold qbG;first | (rw [if_pos O];rfl) | (rw [if_neg O,if_pos O];rfl) | (rw [if_neg O,if_neg O,if_pos O];rfl) | (rw [if_neg O,if_neg O,if_neg O];rfl) | (rw [if_neg O,if_neg O];rfl)) (.cons (by unfold qcv;first | (rw [if_pos O];rfl) | (rw [if_neg O,if_pos O];rfl) | (rw [if_neg O,if_neg O,if_pos O];rfl) | (rw [if_neg O,if_neg O,if_neg O];rfl) | (rw [if_neg O,if_neg O];rfl)) (.nil _))) So Pr Tt)
  refine Sr<|W0 Y5<|Wl 0 Y6<|qar Z Z Z<|Nt<|?_
  refine qaa Z (fun c22=>?_) (fun c22=>?_)
  ·
   refine Zr<|Zqa Z Z<|Zn<|?_
   refine qab (MidG.mk () [] h19 (.cons (by unfold qbG;first | (rw [if_pos O];rfl) | (rw [if_neg O,if_pos O];rfl) | (rw [if_neg O,if_neg O,if_pos O];rfl) | (rw [if_neg O,if_neg O,if_neg O];rfl) | (rw [if_neg O,if_neg O];rfl)) (.cons (by unfold qcv;first | (rw [if_pos O];rfl) | (rw [if_neg O,if_pos O];rfl) | (rw [if_neg O,if_neg O,if_pos O];rfl) | (rw [if_neg O,if_neg O,if_neg O];rfl) | (rw [if_neg O,if_neg O];rfl)) (.nil _))) So Pr Tt)
  refine Sr<|W0 Y5<|Wl 0 Y6<|qar Z Z Z<|Nt<|?_
  refine qaa Z (fun c23=>?_) (fun c23=>?_)
  ·
   refine Sr<|At Z Z<|Zr<|Zqa Z Z<|Zn<|?_
   refine qab (MidG.mk () [] h19 (.cons (by unfold qbG;first | (rw [if_pos O];rfl) | (rw [if_neg O,if_pos O];rfl) | (rw [if_neg O,if_neg O,if_pos O];rfl) | (rw [if_neg O,if_neg O,if_neg O];rfl) | (rw [if_neg O,if_neg O];rfl)) (.cons (by unfold qcv;first | (rw [if_pos O];rfl) | (rw [if_neg O,if_pos O];rfl) | (rw [if_neg O,if_neg O,if_pos O];rfl) | (rw [if_neg O,if_neg O,if_neg O];rfl) | (rw [if_neg O,if_neg O];rfl)) (.nil _))) So Pr Tt)
  refine Zk ?_
  refine qab (MidG.mk () [] h19 (.cons (by unfold qbG;first | (rw [if_pos O];rfl) | (rw [if_neg O,if_pos O];rfl) | (rw [if_neg O,if_neg O,if_pos O];rfl) | (rw [if_neg O,if_neg O,if_neg O];rfl) | (rw [if_neg O,if_neg O];rfl)) (.cons (by unfold qcv;first | (rw [if_pos O];rfl) | (rw [if_neg O,if_pos O];rfl) | (rw [if_neg O,if_neg O,if_pos O];rfl) | (rw [if_neg O,if_neg O,if_neg O];rfl) | (rw [if_neg O,if_neg O];rfl)) (.nil _))) So Pr Tt)
 intro g s18 h18 I18
 simp only [cQ9,nQ9]
 refine Zs ?_
 refine qaU 91 ((¬ (2≤x.kind∧x.kind≤4)∧x.name≠[])∨(x.kind≠1∧x.num≠0)∨(¬ (x.kind=6∨x.kind=7)∧x.op≠0)∨n < qbG x.kind∨qcv x.kind < n) ?_ ?_
 ·
  refine Zr<|Zqm Z Z<|qbV Z Z<|Zqm Z Z<|?_
  refine qaE (t:=58) Z (fun c25=>?_) (fun c25=>?_)
  ·
   refine Zg Z Z<|Wb Y5<|Zg Z Z<|Wl 0 Y6<|Zg Z Z<|qti Z Z Z<|ZqT Z Z Z<|Zqm Z Z<|?_
   refine qaE (t:=63) Z (fun c26=>?_) (fun c26=>?_)
   ·
    refine Wf Y4<|Wf Y4<|Wf Y4<|Wf Y4<|Zh Z Z Z<|Zh Z Z Z<|Zh Z Z Z<|Wf Y4<|ZqT Z Z Z<|Zqm Z Z<|Wf Y4<|Wf Y4<|Wf Y4<|Wf Y4<|Zh Z Z Z<|Zh Z Z Z<|Zh Z Z Z<|Wf Y4<|ZqT Z Z Z<|Zqm Z Z<|Wf Y4<|Wf Y4<|Wf Y4<|Wf Y4<|Wf Y4<|Wf Y4<|Wf Y4<|ZqT Z Z Z<|Zn<|?_
    refine qab (MidB.mk (Lr D) Sb Z ((decide_eq_true Og).symm))
   refine Zg Z Z<|W0 Y5<|Zg Z Z<|Wl 0 Y6<|Zg Z Z<|qb2 Z Z Z<|Zg Z Z<|Zqm Z Z<|?_
   refine qaE (t:=67) Z (fun c27=>?_) (fun c27=>?_)
   ·
    refine Zg Z Z<|Wb Y5<|Zg Z Z<|Wl 0 Y6<|Zg Z Z<|qb2 Z Z Z<|Zg Z Z<|ZqT Z Z Z<|ZqF Z Z Z<|Zqm Z Z<|?_
    refine qaE (t:=73) Z (fun c28=>?_) (fun c28=>?_)
    ·
     refine Wf Y4<|Wf Y4<|Wf Y4<|Wf Y4<|Zh Z Z Z<|Zh Z Z Z<|Zh Z Z Z<|Wf Y4<|ZqT Z Z Z<|Zqm Z Z<|Wf Y4<|Wf Y4<|Wf Y4<|Wf Y4<|Wf Y4<|Wf Y4<|Wf Y4<|ZqT Z Z Z<|Zn<|?_
     refine qab (MidB.mk (Lr D) Sb Z ((decide_eq_true Og).symm))
    refine Zg Z Z<|W0 Y5<|Zg Z Z<|Wl 0 Y6<|Zg Z Z<|qbh Z Z Z<|Zg Z Z<|Zqm Z Z<|?_
    refine qak (t:=77) Z (fun c29=>?_) (fun c29=>?_)
    ·
     refine Zg Z Z<|Wb Y5<|Zg Z Z<|Wl 0 Y6<|Zg Z Z<|qb2 Z Z Z<|Zg Z Z<|ZqT Z Z Z<|ZqF Z Z Z<|Zqm Z Z<|?_
     refine qaE (t:=83) Z (fun c30=>?_) (fun c30=>?_)
     ·
      refine Wf Y4<|Wf Y4<|Wf Y4<|Wf Y4<|Wf Y4<|Wf Y4<|Wf Y4<|ZqT Z Z Z<|Zn<|?_
      refine qab (MidB.mk (Lr D) Sb Z ((decide_eq_true Og).symm))
     refine Zg Z Z<|Wb Y5<|Zg Z Z<|Wl 0 Y6<|Zg Z Z<|Ws Y4<|Zg Z Z<|Zqm Z Z<|Zg Z Z<|Zqm Z Z<|Zg Z Z<|Jc Z Z Z (qcY D _ _ _ _ _) ?_
     rintro _ _ s31 h31 ⟨rfl,rfl⟩
     refine Zg Z Z<|qbV Z Z<|ZqF Z Z Z<|Zn<|?_
     refine qab (MidB.mk h31 Sb Z (qbw Og))
    refine Wf Y4<|Wf Y4<|Wf Y4<|Zg Z Z<|ZqF Z Z Z<|ZqF Z Z Z<|Zqm Z Z<|Zg Z Z<|Wb Y5<|Zg Z Z<|Wl 0 Y6<|Zg Z Z<|Ws Y4<|Zg Z Z<|Zqm Z Z<|Zg Z Z<|Zqm Z Z<|Zg Z Z<|Jc Z Z Z (qcY D _ _ _ _ _) ?_
    rintro _ _ s32 h32 ⟨rfl,rfl⟩
    refine Zg Z Z<|qbV Z Z<|ZqF Z Z Z<|Zn<|?_
    refine qab (MidB.mk h32 Sb Z (qbw Og))
   refine Wf Y4<|Wf Y4<|Wf Y4<|Zg Z Z<|ZqF Z Z Z<|ZqF Z Z Z<|Zqm Z Z<|Zg Z Z<|W0 Y5<|Zg Z Z<|Wl 0 Y6<|Zg Z Z<|qbh Z Z Z<|Zg Z Z<|Zqm Z Z<|?_
   refine qak (t:=77) Z (fun c33=>?_) (fun c33=>?_)
   ·
    refine Zg Z Z<|Wb Y5<|Zg Z Z<|Wl 0 Y6<|Zg Z Z<|qb2 Z Z Z<|Zg Z Z<|ZqT Z Z Z<|ZqF Z Z Z<|Zqm Z Z<|?_
    refine qaE (t:=83) Z (fun c34=>?_) (fun c34=>?_)
    ·
     refine Wf Y4<|Wf Y4<|Wf Y4<|Wf Y4<|Wf Y4<|Wf Y4<|Wf Y4<|ZqT Z Z Z<|Zn<|?_
     refine qab (MidB.mk (Lr D) Sb Z ((decide_eq_true Og).symm))
    refine Zg Z Z<|Wb Y5<|Zg Z Z<|Wl 0 Y6<|Zg Z Z<|Ws Y4<|Zg Z Z<|Zqm Z Z<|Zg Z Z<|Zqm Z Z<|Zg Z Z<|Jc Z Z Z (qcY D _ _ _ _ _) ?_
    rintro _ _ s35 h35 ⟨rfl,rfl⟩
    refine Zg Z Z<|qbV Z Z<|ZqF Z Z Z<|Zn<|?_
    refine qab (MidB.mk h35 Sb Z (qbw Og))
   refine Wf Y4<|Wf Y4<|Wf Y4<|Zg Z Z<|ZqF Z Z Z<|ZqF Z Z Z<|Zqm Z Z<|Zg Z Z<|Wb Y5<|Zg Z Z<|Wl 0 Y6<|Zg Z Z<|Ws Y4<|Zg Z Z<|Zqm Z Z<|Zg Z Z<|Zqm Z Z<|Zg Z Z<|Jc Z Z Z (qcY D _ _ _ _ _) ?_
   rintro _ _ s36 h36 ⟨rfl,rfl⟩
   refine Zg Z Z<|qbV Z Z<|ZqF Z Z Z<|Zn<|?_
   refine qab (MidB.mk h36 Sb Z (qbw Og))
  refine Wf Y4<|Wf Y4<|Wf Y4<|ZqF Z Z Z<|Zqm Z Z<|Zg Z Z<|W0 Y5<|Zg Z Z<|Wl 0 Y6<|Zg Z Z<|qb2 Z Z Z<|Zg Z Z<|Zqm Z Z ?_
  refine qaE (t:=67) Z (fun c37=>?_) (fun c37=>?_)
  ·
   refine Zg Z Z<|Wb Y5<|Zg Z Z<|Wl 0 Y6<|Zg Z Z<|qb2 Z Z Z<|Zg Z Z<|ZqT Z Z Z<|ZqF Z Z Z<|Zqm Z Z<|?_
   refine qaE (t:=73) Z (fun c38=>?_) (fun c38=>?_)
   ·
    refine Wf Y4<|Wf Y4<|Wf Y4<|Wf Y4<|Zh Z Z Z<|Zh Z Z Z<|Zh Z Z Z<|Wf Y4<|ZqT Z Z Z<|Zqm Z Z<|Wf Y4<|Wf Y4<|Wf Y4<|Wf Y4<|Wf Y4<|Wf Y4<|Wf Y4<|ZqT Z Z Z<|Zn<|?_
    refine qab (MidB.mk (Lr D) Sb Z ((decide_eq_true Og).symm))
   refine Zg Z Z<|W0 Y5<|Zg Z Z<|Wl 0 Y6<|Zg Z Z<|qbh Z Z Z<|Zg Z Z<|Zqm Z Z<|?_
   refine qak (t:=77) Z (fun c39=>?_) (fun c39=>?_)
   ·
    refine Zg Z Z<|Wb Y5<|Zg Z Z<|Wl 0 Y6<|Zg Z Z<|qb2 Z Z Z<|Zg Z Z<|ZqT Z Z Z<|ZqF Z Z Z<|Zqm Z Z<|?_
    refine qaE (t:=83) Z (fun c40=>?_) (fun c40=>?_)
    ·
     refine Wf Y4<|Wf Y4<|Wf Y4<|Wf Y4<|Wf Y4<|Wf Y4<|Wf Y4<|ZqT Z Z Z<|Zn<|?_
     refine qab (MidB.mk (Lr D) Sb Z ((decide_eq_true Og).symm))
    refine Zg Z Z<|Wb Y5<|Zg Z Z<|Wl 0 Y6<|Zg Z Z<|Ws Y4<|Zg Z Z<|Zqm Z Z<|Zg Z Z<|Zqm Z Z<|Zg Z Z<|Jc Z Z Z (qcY D _ _ _ _ _) ?_
    rintro _ _ s41 h41 ⟨rfl,rfl⟩
    refine Zg Z Z<|qbV Z Z<|ZqF Z Z Z<|Zn<|?_
    refine qab (MidB.mk h41 Sb Z (qbw Og))
   refine Wf Y4<|Wf Y4<|Wf Y4<|Zg Z Z<|ZqF Z Z Z<|ZqF Z Z Z<|Zqm Z Z<|Zg Z Z<|Wb Y5<|Zg Z Z<|Wl 0 Y6<|Zg Z Z<|Ws Y4<|Zg Z Z<|Zqm Z Z<|Zg Z Z<|Zqm Z Z<|Zg Z Z<|Jc Z Z Z (qcY D _ _ _ _ _) ?_
   rintro _ _ s42 h42 ⟨rfl,rfl⟩
   refine Zg Z Z<|qbV Z Z<|ZqF Z Z Z<|Zn<|?_
   refine qab (MidB.mk h42 Sb Z (qbw Og))
  refine Wf Y4<|Wf Y4<|Wf Y4<|Zg Z Z<|ZqF Z Z Z<|ZqF Z Z Z<|Zqm Z Z<|Zg Z Z<|W0 Y5<|Zg Z Z<|Wl 0 Y6<|Zg Z Z<|qbh Z Z Z<|Zg Z Z<|Zqm Z Z<|?_
  refine qak (t:=77) Z (fun c43=>?_) (fun c43=>?_)
  ·
   refine Zg Z Z<|Wb Y5<|Zg Z Z<|Wl 0 Y6<|Zg Z Z<|qb2 Z Z Z<|Zg Z Z<|ZqT Z Z Z<|ZqF Z Z Z<|Zqm Z Z<|?_
   refine qaE (t:=83) Z (fun c44=>?_) (fun c44=>?_)
   ·
    refine Wf Y4<|Wf Y4<|Wf Y4<|Wf Y4<|Wf Y4<|Wf Y4<|Wf Y4<|ZqT Z Z Z<|Zn<|?_
    refine qab (MidB.mk (Lr D) Sb Z ((decide_eq_true Og).symm))
   refine Zg Z Z<|Wb Y5<|Zg Z Z<|Wl 0 Y6<|Zg Z Z<|Ws Y4<|Zg Z Z<|Zqm Z Z<|Zg Z Z<|Zqm Z Z<|Zg Z Z<|Jc Z Z Z (qcY D _ _ _ _ _) ?_
   rintro _ _ s45 h45 ⟨rfl,rfl⟩
   refine Zg Z Z<|qbV Z Z<|ZqF Z Z Z<|Zn<|?_
   refine qab (MidB.mk h45 Sb Z (qbw Og))
  refine Wf Y4<|Wf Y4<|Wf Y4<|Zg Z Z<|ZqF Z Z Z<|ZqF Z Z Z<|Zqm Z Z<|Zg Z Z<|Wb Y5<|Zg Z Z<|Wl 0 Y6<|Zg Z Z<|Ws Y4<|Zg Z Z<|Zqm Z Z<|Zg Z Z<|Zqm Z Z<|Zg Z Z<|Jc Z Z Z (qcY D _ _ _ _ _) ?_
  rintro _ _ s46 h46 ⟨rfl,rfl⟩
  refine Zg Z Z<|qbV Z Z<|ZqF Z Z Z<|Zn<|?_
  refine qab (MidB.mk h46 Sb Z (qbw Og))
 intro s24 h24
 refine qaa Z (fun c47=>?_) (fun c47=>?_)
 ·
  have hE:=qtz hn g5 g7 c47
  refine Sr<|At Z Z<|Zo<|Zu<|?_
  refine rR [_] L (.t1 Z) Z (h1.t h2|>.t h13|>.t h14|>.t h18|>.t h24) fun _ hS2=>?_
  exact ⟨by rw [hE];rfl,rfl⟩
 have hE:=quB hn g5 g7 c47
 refine Zk<|Zt<|Sr<|At Z Z<|Zo<|?_
 refine rR [_] L (.t1 Z) Z (h1.t h2|>.t h13|>.t h14|>.t h18|>.t h24) fun _ hS2=>?_
 exact ⟨by rw [hE];rfl,rfl⟩
theorem qri(D:Nat)(L:Hl)(s:World)(x:Stm)(A1 A2 A3:Option Addr)(n1 q1 n2 q2 n3 q3:Nat)(hn1:n1=x.exprs.length)(hn2:n2=x.body.length)(hn3:n3=x.els.length)(hc1:n1≤9223372036854775807)(hl:x.name.length≤9223372036854775807):AC prog D 133 [.agg #[.int .i64 x.kind,St x.name,.slice A1 n1 q1,.slice A2 n2 q2,.slice A3 n3 q3]] L s fun v L' _=>v=.int .i64 (stC x.kind x.name x.exprs.length x.body.length x.els.length)∧L=L':=by
 refine qai (fn:=f133) qao func133 V Z ntmps133 Z (rs:=[.tmp 2]) Z [(0,_)] Z<|Sr<|qaq Z Z ?_
 intro β1 s1 h1
 refine At Z Z<|Zs<|Sr<|W0 Y5<|Wl 0 Y6<|Jc Z Z Z (qcY D _ _ _ _ _) ?_
 rintro _ _ s2 h2 ⟨rfl,rfl⟩
 refine qbV Z Z<|Nt<|?_
 refine qaP Z (fun c3=>?_) (fun c3=>?_)
 ·
  have hE:=qut (a:=x.exprs.length) (b:=x.body.length) (c:=x.els.length) (show x.kind < 1∨10 < x.kind by omega)
  refine Sr<|At Z Z<|Zo<|Zu<|?_
  refine rR [_] L (.t1 Z) Z (h1.t h2) fun _ hS2=>?_
  exact ⟨by rw [hE];rfl,rfl⟩
 have g5:¬ (x.kind < 1∨10 < x.kind):=by omega
 refine Zk<|Zt<|?_
 refine qaU 3 (x.kind=1∨x.kind=2∨x.kind=5) ?_ ?_
 ·
  refine Zr<|W0 Y5<|Wl 0 Y6<|qar Z Z Z<|Zqm Z Z<|?_
  refine qak (t:=13) Z (fun c5=>?_) (fun c5=>?_)
  ·
   refine Wf Y4<|Wf Y4<|Wf Y4<|ZqT Z Z Z<|Zqm Z Z<|Wf Y4<|Wf Y4<|Wf Y4<|ZqT Z Z Z<|Zqa Z Z<|Zn<|?_
   refine qab (MidB.mk (Lr D) Sb Z ((decide_eq_true O).symm))
  refine Zg Z Z<|W0 Y5<|Zg Z Z<|Wl 0 Y6<|Zg Z Z<|qar Z Z Z<|ZqF Z Z Z<|Zqm Z Z<|?_
  refine qak (t:=18) Z (fun c6=>?_) (fun c6=>?_)
  ·
   refine Wf Y4<|Wf Y4<|Wf Y4<|ZqT Z Z Z<|Zqa Z Z<|Zn<|?_
   refine qab (MidB.mk (Lr D) Sb Z ((decide_eq_true O).symm))
  refine Zg Z Z<|W0 Y5<|Zg Z Z<|Wl 0 Y6<|Zg Z Z<|qar Z Z Z<|ZqF Z Z Z<|Zqa Z Z<|Zn<|?_
  refine qab (MidB.mk (Lr D) Sb Z (decide_eq_decide.2 O))
 intro s4 h4
 refine Zs ?_
 refine qaU 29 (qcc x.kind=true∧qaT x.name=false) ?_ ?_
 ·
  refine Zr<|Zqm Z Z<|Zqm Z Z<|?_
  refine qak (t:=24) Z (fun c8=>?_) (fun c8=>?_)
  ·
   refine Zg Z Z<|Wb Y5<|Zg Z Z<|Wl 0 Y6<|Zg Z Z<|Jc Z Z Z (qdj D _ _ x.name hl) ?_
   rintro _ _ s9 h9 ⟨rfl,rfl⟩
   refine Zg Z Z<|qbV Z Z<|ZqT Z Z Z<|Zn<|?_
   refine qab (MidB.mk h9 Sb Z ((qiA (namedS_iff.2 As))))
  refine Wf Y4<|Wf Y4<|Wf Y4<|Wf Y4<|ZqF Z Z Z<|Zn<|?_
  refine qab (MidB.mk (Lr D) Sb Z ((decide_eq_false (fun h=>absurd (namedS_iff.1 h.1) As)).symm))
 intro s7 h7
 refine qaa Z (fun c10=>?_) (fun c10=>?_)
 ·
  have hE:=qtg (a:=x.exprs.length) (b:=x.body.length) (c:=x.els.length) g5 c10
  refine Sr<|At Z Z<|Zo<|Zu<|?_
  refine rR [_] L (.t1 Z) Z (h1.t h2|>.t h4|>.t h7) fun _ hS2=>?_
  exact ⟨by rw [hE];rfl,rfl⟩
 have g7:=c10
 refine Zk<|Zt<|Sr<|At Z Z<|Sr<|At Z Z<|?_
 refine qd9 (γ:=Unit) (fun _=>[(4,.int .i64 (qbO x.kind:Int)),(5,.int .i64 (qcA x.kind:Int))]) [_] Z (fun g=>L) (fun g tw=>True) (fun _ _ _ h hl=>h) ?_ ?_
 ·
  refine Sr<|W0 Y5<|Wl 0 Y6<|qar Z Z Z<|Nt<|?_
  refine qaa Z (fun c12=>?_) (fun c12=>?_)
  ·
   refine Sr<|At Z Z<|Zr<|Zqa Z Z<|Zn<|?_
   refine qab (MidG.mk () [] (Lr D) (.cons (by unfold qbO;first | (rw [if_pos O];rfl) | (rw [if_neg O,if_pos O];rfl) | (rw [if_neg O,if_neg O,if_pos O];rfl) | (rw [if_neg O,if_neg O,if_neg O];rfl) | (rw [if_neg O,if_neg O];rfl)) (.cons (by unfold qcA;first | (rw [if_pos O];rfl) | (rw [if_neg O,if_pos O];rfl) | (rw [if_neg O,if_neg O,if_pos O];rfl) | (rw [if_neg O,if_neg O,if_neg O];rfl) | (rw [if_neg O,if_neg O];rfl)) (.nil _))) So Pr Tt)
  refine Sr<|W0 Y5<|Wl 0 Y6<|qar Z Z Z<|Nt<|?_
  refine qaa Z (fun c13=>?_) (fun c13=>?_)
  ·
   refine Sr<|At Z Z<|Zr<|Zqa Z Z<|Zn<|?_
   refine qab (MidG.mk () [] (Lr D) (.cons (by unfold qbO;first | (rw [if_pos O];rfl) | (rw [if_neg O,if_pos O];rfl) | (rw [if_neg O,if_neg O,if_pos O];rfl) | (rw [if_neg O,if_neg O,if_neg O];rfl) | (rw [if_neg O,if_neg O];rfl)) (.cons (by unfold qcA;first | (rw [if_pos O];rfl) | (rw [if_neg O,if_pos O];rfl) | (rw [if_neg O,if_neg O,if_pos O];rfl) | (rw [if_neg O,if_neg O,if_neg O];rfl) | (rw [if_neg O,if_neg O];rfl)) (.nil _))) So Pr Tt)
  refine Sr<|W0 Y5<|Wl 0 Y6<|qbv Z Z Z<|Nt<|?_
  refine qaa Z (fun c14=>?_) (fun c14=>?_)
  ·
   refine Sr<|At Z Z<|Zr<|Zqa Z Z<|Zn<|?_
   refine qab (MidG.mk () [] (Lr D) (.cons (by unfold qbO;first | (rw [if_pos O];rfl) | (rw [if_neg O,if_pos O];rfl) | (rw [if_neg O,if_neg O,if_pos O];rfl) | (rw [if_neg O,if_neg O,if_neg O];rfl) | (rw [if_neg O,if_neg O];rfl)) (.cons (by unfold qcA;first | (rw [if_pos O];rfl) | (rw [if_neg O,if_pos O];rfl) | (rw [if_neg O,if_neg O,if_pos O];rfl) | (rw [if_neg O,if_neg O,if_neg O];rfl) | (rw [if_neg O,if_neg O];rfl)) (.nil _))) So Pr Tt)
  refine Zk ?_
  refine qab (MidG.mk () [] (Lr D) (.cons (by unfold qbO;first | (rw [if_pos O];rfl) | (rw [if_neg O,if_pos O];rfl) | (rw [if_neg O,if_neg O,if_pos O];rfl) | (rw [if_neg O,if_neg O,if_neg O];rfl) | (rw [if_neg O,if_neg O];rfl)) (.cons (by unfold qcA;first | (rw [if_pos O];rfl) | (rw [if_neg O,if_pos O];rfl) | (rw [if_neg O,if_neg O,if_pos O];rfl) | (rw [if_neg O,if_neg O,if_neg O];rfl) | (rw [if_neg O,if_neg O];rfl)) (.nil _))) So Pr Tt)
 intro g s11 h11 I11
 simp only [cQ9,nQ9]
 refine Zs ?_
 refine qaU 81 ((¬ (x.kind=1∨x.kind=2∨x.kind=5)∧x.name≠[])∨(¬ (x.kind=3∨x.kind=4)∧0 < n2)∨(¬ x.kind=3∧0 < n3)∨n1 < qbO x.kind∨qcA x.kind < n1) ?_ ?_
 ·
  refine Zr<|Zqm Z Z<|qbV Z Z<|Zqm Z Z<|?_
  refine qaE (t:=41) Z (fun c16=>?_) (fun c16=>?_)
  ·
   refine Zg Z Z<|Wb Y5<|Zg Z Z<|Wl 0 Y6<|Zg Z Z<|qti Z Z Z<|ZqT Z Z Z<|Zqm Z Z<|?_
   refine qaE (t:=46) Z (fun c17=>?_) (fun c17=>?_)
   ·
    refine Wf Y4<|Wf Y4<|Wf Y4<|Wf Y4<|Wf Y4<|Wf Y4<|Wf Y4<|ZqT Z Z Z<|Zqm Z Z<|Wf Y4<|Wf Y4<|Wf Y4<|Wf Y4<|Wf Y4<|Zh Z Z Z<|Zh Z Z Z<|Zh Z Z Z<|Wf Y4<|Wf Y4<|Zh Z Z Z<|Zh Z Z Z<|Zh Z Z Z<|Wf Y4<|ZqT Z Z Z<|Zqm Z Z<|Wf Y4<|Wf Y4<|Wf Y4<|Wf Y4<|Wf Y4<|Zh Z Z Z<|Zh Z Z Z<|Zh Z Z Z<|Wf Y4<|ZqT Z Z Z<|Zn<|?_
    refine qab (MidB.mk (Lr D) Sb Z ((decide_eq_true Og).symm))
   refine Zg Z Z<|Wb Y5<|Zg Z Z<|Wl 0 Y6<|Zg Z Z<|Ws Y4<|Zg Z Z<|Zqm Z Z<|Zg Z Z<|Zqm Z Z<|Zg Z Z<|Jc Z Z Z (qcY D _ _ _ _ _) ?_
   rintro _ _ s18 h18 ⟨rfl,rfl⟩
   refine Zg Z Z<|qbV Z Z<|ZqF Z Z Z<|Zqm Z Z<|?_
   refine qaE (t:=55) Z (fun c19=>?_) (fun c19=>?_)
   ·
    refine Wf Y4<|Wf Y4<|Wf Y4<|Wf Y4<|Wf Y4<|Zh Z Z Z<|Zh Z Z Z<|Zh Z Z Z<|Wf Y4<|Wf Y4<|Zh Z Z Z<|Zh Z Z Z<|Zh Z Z Z<|Wf Y4<|ZqT Z Z Z<|Zqm Z Z<|Wf Y4<|Wf Y4<|Wf Y4<|Wf Y4<|Wf Y4<|Zh Z Z Z<|Zh Z Z Z<|Zh Z Z Z<|Wf Y4<|ZqT Z Z Z<|Zn<|?_
    refine qab (MidB.mk h18 Sb Z ((decide_eq_true Og).symm))
   refine Zg Z Z<|Wb Y5<|Zg Z Z<|Wl 0 Y6<|Zg Z Z<|Ws Y4<|Zg Z Z<|qbv Z Z Z<|Zg Z Z<|Zqm Z Z<|?_
   refine qak (t:=60) Z (fun c20=>?_) (fun c20=>?_)
   ·
    refine Zg Z Z<|W0 Y5<|Zg Z Z<|Wl 0 Y6<|Zg Z Z<|qb2 Z Z Z<|Zg Z Z<|ZqT Z Z Z<|Zg Z Z<|Zqm Z Z<|?_
    refine qaE (t:=65) Z (fun c21=>?_) (fun c21=>?_)
    ·
     refine Zg Z Z<|W0 Y5<|Zg Z Z<|Wl 0 Y6<|Zg Z Z<|qb2 Z Z Z<|Zg Z Z<|ZqT Z Z Z<|ZqF Z Z Z<|Zqm Z Z<|?_
     refine qaE (t:=71) Z (fun c22=>?_) (fun c22=>?_)
     ·
      refine Wf Y4<|Wf Y4<|Wf Y4<|Wf Y4<|Wf Y4<|Zh Z Z Z<|Zh Z Z Z<|Zh Z Z Z<|Wf Y4<|ZqT Z Z Z<|Zn<|?_
      refine qab (MidB.mk h18 Sb Z ((decide_eq_true Og).symm))
     refine Zg Z Z<|Wb Y5<|Zg Z Z<|Wl 0 Y6<|Zg Z Z<|Ws Y4<|Zg Z Z<|qbv Z Z Z<|Zg Z Z<|Zqm Z Z<|?_
     refine qak (t:=76) Z (fun c23=>?_) (fun c23=>?_)
     ·
      refine Zg Z Z<|W0 Y5<|Zg Z Z<|Wl 0 Y6<|Zg Z Z<|qb2 Z Z Z<|Zg Z Z<|ZqT Z Z Z<|ZqF Z Z Z<|Zn<|?_
      refine qab (MidB.mk h18 Sb Z (qbw Og))
     refine Wf Y4<|Wf Y4<|Wf Y4<|Zg Z Z<|ZqF Z Z Z<|ZqF Z Z Z<|Zn<|?_
     refine qab (MidB.mk h18 Sb Z ((decide_eq_false Og).symm))
    refine Wf Y4<|Wf Y4<|Wf Y4<|Zg Z Z<|ZqF Z Z Z<|ZqF Z Z Z<|Zqm Z Z<|Zg Z Z<|Wb Y5<|Zg Z Z<|Wl 0 Y6<|Zg Z Z<|Ws Y4<|Zg Z Z<|qbv Z Z Z<|Zg Z Z<|Zqm Z Z<|?_
    refine qak (t:=76) Z (fun c24=>?_) (fun c24=>?_)
    ·
     refine Zg Z Z<|W0 Y5<|Zg Z Z<|Wl 0 Y6<|Zg Z Z<|qb2 Z Z Z<|Zg Z Z<|ZqT Z Z Z<|ZqF Z Z Z<|Zn<|?_
     refine qab (MidB.mk h18 Sb Z (qbw Og))
    refine Wf Y4<|Wf Y4<|Wf Y4<|Zg Z Z<|ZqF Z Z Z<|ZqF Z Z Z<|Zn<|?_
    refine qab (MidB.mk h18 Sb Z ((decide_eq_false Og).symm))
   refine Wf Y4<|Wf Y4<|Wf Y4<|Zg Z Z<|ZqF Z Z Z<|Zg Z Z<|Zqm Z Z<|Wf Y4<|Wf Y4<|Wf Y4<|Zg Z Z<|ZqF Z Z Z<|ZqF Z Z Z<|Zqm Z Z<|Zg Z Z<|Wb Y5<|Zg Z Z<|Wl 0 Y6<|Zg Z Z<|Ws Y4<|Zg Z Z<|qbv Z Z Z<|Zg Z Z<|Zqm Z Z<|?_
   refine qak (t:=76) Z (fun c25=>?_) (fun c25=>?_)
   ·
    refine Zg Z Z<|W0 Y5<|Zg Z Z<|Wl 0 Y6<|Zg Z Z<|qb2 Z Z Z<|Zg Z Z<|ZqT Z Z Z<|ZqF Z Z Z<|Zn<|?_
    refine qab (MidB.mk h18 Sb Z (qbw Og))
   refine Wf Y4<|Wf Y4<|Wf Y4<|Zg Z Z<|ZqF Z Z Z<|ZqF Z Z Z<|Zn<|?_
   refine qab (MidB.mk h18 Sb Z ((decide_eq_false Og).symm))
  refine Wf Y4<|Wf Y4<|Wf Y4<|ZqF Z Z Z<|Zqm Z Z<|Zg Z Z<|Wb Y5<|Zg Z Z<|Wl 0 Y6<|Zg Z Z<|Ws Y4<|Zg Z Z<|Zqm Z Z<|Zg Z Z<|Zqm Z Z<|Zg Z Z<|Jc Z Z Z (qcY D _ _ _ _ _) ?_
  rintro _ _ s26 h26 ⟨rfl,rfl⟩
  refine Zg Z Z<|qbV Z Z<|ZqF Z Z Z<|Zqm Z Z<|?_
  refine qaE (t:=55) Z (fun c27=>?_) (fun c27=>?_)
  ·
   refine Wf Y4<|Wf Y4<|Wf Y4<|Wf Y4<|Wf Y4<|Zh Z Z Z<|Zh Z Z Z<|Zh Z Z Z<|Wf Y4<|Wf Y4<|Zh Z Z Z<|Zh Z Z Z<|Zh Z Z Z<|Wf Y4<|ZqT Z Z Z<|Zqm Z Z<|Wf Y4<|Wf Y4<|Wf Y4<|Wf Y4<|Wf Y4<|Zh Z Z Z<|Zh Z Z Z<|Zh Z Z Z<|Wf Y4<|ZqT Z Z Z<|Zn<|?_
   refine qab (MidB.mk h26 Sb Z ((decide_eq_true Og).symm))
  refine Zg Z Z<|Wb Y5<|Zg Z Z<|Wl 0 Y6<|Zg Z Z<|Ws Y4<|Zg Z Z<|qbv Z Z Z<|Zg Z Z<|Zqm Z Z<|?_
  refine qak (t:=60) Z (fun c28=>?_) (fun c28=>?_)
  ·
   refine Zg Z Z<|W0 Y5<|Zg Z Z<|Wl 0 Y6<|Zg Z Z<|qb2 Z Z Z<|Zg Z Z<|ZqT Z Z Z<|Zg Z Z<|Zqm Z Z<|?_
   refine qaE (t:=65) Z (fun c29=>?_) (fun c29=>?_)
   ·
    refine Zg Z Z<|W0 Y5<|Zg Z Z<|Wl 0 Y6<|Zg Z Z<|qb2 Z Z Z<|Zg Z Z<|ZqT Z Z Z<|ZqF Z Z Z<|Zqm Z Z<|?_
    refine qaE (t:=71) Z (fun c30=>?_) (fun c30=>?_)
    ·
     refine Wf Y4<|Wf Y4<|Wf Y4<|Wf Y4<|Wf Y4<|Zh Z Z Z<|Zh Z Z Z<|Zh Z Z Z<|Wf Y4<|ZqT Z Z Z<|Zn<|?_
     refine qab (MidB.mk h26 Sb Z ((decide_eq_true Og).symm))
    refine Zg Z Z<|Wb Y5<|Zg Z Z<|Wl 0 Y6<|Zg Z Z<|Ws Y4<|Zg Z Z<|qbv Z Z Z<|Zg Z Z<|Zqm Z Z<|?_
    refine qak (t:=76) Z (fun c31=>?_) (fun c31=>?_)
    ·
     refine Zg Z Z<|W0 Y5<|Zg Z Z<|Wl 0 Y6<|Zg Z Z<|qb2 Z Z Z<|Zg Z Z<|ZqT Z Z Z<|ZqF Z Z Z<|Zn<|?_
     refine qab (MidB.mk h26 Sb Z (qbw Og))
    refine Wf Y4<|Wf Y4<|Wf Y4<|Zg Z Z<|ZqF Z Z Z<|ZqF Z Z Z<|Zn<|?_
    refine qab (MidB.mk h26 Sb Z ((decide_eq_false Og).symm))
   refine Wf Y4<|Wf Y4<|Wf Y4<|Zg Z Z<|ZqF Z Z Z<|ZqF Z Z Z<|Zqm Z Z<|Zg Z Z<|Wb Y5<|Zg Z Z<|Wl 0 Y6<|Zg Z Z<|Ws Y4<|Zg Z Z<|qbv Z Z Z<|Zg Z Z<|Zqm Z Z<|?_
   refine qak (t:=76) Z (fun c32=>?_) (fun c32=>?_)
   ·
    refine Zg Z Z<|W0 Y5<|Zg Z Z<|Wl 0 Y6<|Zg Z Z<|qb2 Z Z Z<|Zg Z Z<|ZqT Z Z Z<|ZqF Z Z Z<|Zn<|?_
    refine qab (MidB.mk h26 Sb Z (qbw Og))
   refine Wf Y4<|Wf Y4<|Wf Y4<|Zg Z Z<|ZqF Z Z Z<|ZqF Z Z Z<|Zn<|?_
   refine qab (MidB.mk h26 Sb Z ((decide_eq_false Og).symm))
  refine Wf Y4<|Wf Y4<|Wf Y4<|Zg Z Z<|ZqF Z Z Z<|Zg Z Z<|Zqm Z Z<|Wf Y4<|Wf Y4<|Wf Y4<|Zg Z Z<|ZqF Z Z Z<|ZqF Z Z Z<|Zqm Z Z<|Zg Z Z<|Wb Y5<|Zg Z Z<|Wl 0 Y6<|Zg Z Z<|Ws Y4<|Zg Z Z<|qbv Z Z Z<|Zg Z Z<|Zqm Z Z<|?_
  refine qak (t:=76) Z (fun c33=>?_) (fun c33=>?_)
  ·
   refine Zg Z Z<|W0 Y5<|Zg Z Z<|Wl 0 Y6<|Zg Z Z<|qb2 Z Z Z<|Zg Z Z<|ZqT Z Z Z<|ZqF Z Z Z<|Zn<|?_
   refine qab (MidB.mk h26 Sb Z (qbw Og))
  refine Wf Y4<|Wf Y4<|Wf Y4<|Zg Z Z<|ZqF Z Z Z<|ZqF Z Z Z<|Zn<|?_
  refine qab (MidB.mk h26 Sb Z ((decide_eq_false Og).symm))
 intro s15 h15
 refine qaa Z (fun c34=>?_) (fun c34=>?_)
 ·
  have hE:=qs4 hn1 hn2 hn3 g5 g7 (by rw [qge];exact c34)
  refine Sr<|At Z Z<|Zo<|Zu<|?_
  refine rR [_] L (.t1 Z) Z (h1.t h2|>.t h4|>.t h7|>.t h11|>.t h15) fun _ hS2=>?_
  exact ⟨by rw [hE];rfl,rfl⟩
 have hE:=quE hn1 hn2 hn3 g5 g7 (by rw [qge];exact c34)
 refine Zk<|Zt<|Sr<|At Z Z<|Zo<|?_
 refine rR [_] L (.t1 Z) Z (h1.t h2|>.t h4|>.t h7|>.t h11|>.t h15) fun _ hS2=>?_
 exact ⟨by rw [hE];rfl,rfl⟩
def RXC(D d:Nat):Prop:=∀ (L:Hl) (s:World) (lv c:Nat) (A:Option Addr) (n cc:Nat) (l:List Ex),Exs d s A n cc l→c≤2000→lv≤17→AC prog D 134 [.slice A n cc,.int .i64 (lv:Int),.int .i64 (c:Int)] L s fun v L' _=>v=.tuple #[.int .i64 ((qco l lv c).1:Int),.int .i64 (qco l lv c).2]∧L=L'
def RSC(D d:Nat):Prop:=∀ (L:Hl) (s:World) (lv c:Nat) (A:Option Addr) (n cc:Nat) (l:List Stm),Stms d s A n cc l→c≤2000→lv≤17→AC prog D 100 [.slice A n cc,.int .i64 (lv:Int),.int .i64 (c:Int)] L s fun v L' _=>v=.tuple #[.int .i64 ((qb3 l lv c).1:Int),.int .i64 (qb3 l lv c).2]∧L=L'
theorem qdW{l:List Ex}{lv c:Nat}(hc:c≤2000)(h:(qco l lv c).2=0):(qco l lv c).1≤2000:=by
 have hw:=qeR l lv c h;rw [hw.2.1];rcases hw.2.2 with h | h <;> omega
theorem qdT{l:List Stm}{lv c:Nat}(hc:c≤2000)(h:(qb3 l lv c).2=0):(qb3 l lv c).1≤2000:=by
 have hw:=qdq l lv c h;rw [hw.2.1];rcases hw.2.2 with h | h <;> omega
theorem qjf(D d:Nat)(ih:∀ e,d=e+1→RXC D e)(L:Hl)(s:World)(lv c:Nat)(A:Option Addr)(n cc:Nat)(l:List Ex)(hA:Exs d s A n cc l)(hc:c≤2000)(hlv:lv≤17):AC prog D 134 [.slice A n cc,.int .i64 (lv:Int),.int .i64 (c:Int)] L s fun v L' _=>v=.tuple #[.int .i64 ((qco l lv c).1:Int),.int .i64 (qco l lv c).2]∧L=L':=by
 have hn:=hA.1
 have hc1:=hA.2.1
 have hc2:=hA.2.2.1
 refine qai (fn:=f134) qao func134 V Z ntmps134 Z (rs:=[.tmp 6,.tmp 7]) Z [(0,_),(1,_),(2,_)] Z<|Sr<|Zqa Z Z<|At Z Z<|Zs<|Sr<|At Z Z<|Zp ?_
 refine qav (γ:=Nat×Nat) (fun g=>[(0,_),(1,_),(2,.int .i64 (g.2:Int)),(6,_),(7,_),(8,.int .i64 (g.1:Int))]) (fun _=>_) (fun g tw=>Le D s tw∧(g.1≤n∧g.2≤2000∧qco l lv c=qco (l.drop g.1) lv g.2)) (fun g=>n - g.1) (fun _ _ _ h hl=>⟨h.1.trans hl,h.2⟩) (0,c) (.c6 Z Z Z Z Z Z (.nil _)) Z ⟨Le.refl _,⟨Nat.zero_le _,hc,Z⟩⟩ ?_
 intro g s1 I1
 obtain ⟨k,ck⟩:=g
 obtain ⟨hk0,hck,hS⟩:=I1.2
 simp only at hk0 hck hS
 dsimp only
 refine Zs<|Sr<|Zqm Z Z<|Zqm Z Z<|Ws Y4<|qbh Z Z Z<|Nt<|?_
 refine qaa Z (fun c2=>?_) (fun c2=>?_)
 ·
  have hk:k < n:=by omega
  obtain ⟨e,b,off,x,A',n',c',hd,rfl,hx,hcx,hax,hux,hnl⟩:=Exs.at_ (hA.le I1.1) hk
  have hn':=hax.1
  have hq':=hax.2.2.1
  have hq2':=hax.2.1
  refine Zk<|Zt<|Zs<|Zp<|Sr<|Zqm Z Z<|qac (qaR Z Z (show IntKind.i64.wrap ((ck:Int)+1)=((ck+1:Nat):Int) by rw [w64 O O];simp)) Z<|At Z Z<|Zs<|?_
  refine qaU 23 (16 < lv∨2000 < ck+1) ?_ ?_
  ·
   refine Zr<|Zqm Z Z<|qbv Z Z Z<|Zqm Z Z<|?_
   refine qak (t:=20) Z (fun c4=>?_) (fun c4=>?_)
   ·
    refine Wf Y4<|Wf Y4<|ZqT Z Z Z<|Zn<|?_
    refine qab (MidB.mk (Lr D) Sb Z ((decide_eq_true O).symm))
   refine Zg Z Z<|Zqm Z Z<|Zg Z Z<|qbv Z Z Z<|ZqF Z Z Z<|Zn<|?_
   refine qab (MidB.mk (Lr D) Sb Z (decide_eq_decide.2 O))
  intro s3 h3
  refine qaa Z (fun c5=>?_) (fun c5=>?_)
  ·
   have g4:16 < lv∨2000 < ck+1:=by have:=c5;omega
   have hE:wkX x lv ck=(ck+1,2):=by rw [qe1,if_pos g4]
   have gE:¬ (wkX x lv ck).2=0:=by rw [hE];simp
   refine Sr<|Zqm Z Z<|Zqa Z Z<|At Z Z<|Zo<|Zu<|Zc<|Zu<|Zu<|Zc<|Zu<|?_
   refine rR [] L (.tmp Z (.t1 Z)) Z (I1.1.t h3) fun _ hS2=>?_
   rw [hS,qc7 hx,if_pos gE,hE];exact ⟨rfl,rfl⟩
  have g4:¬ (16 < lv∨2000 < ck+1):=by have:=c5;omega
  refine Zk<|Zt<|Sr<|Zqm Z Z<|Zqm Z Z<|qac (qap Z Z Z Z Z Z hk) Z<|qac (qau Z Z Z (hcx.le h3) Z) Z<|Jc Z Z Z (qr4 D _ _ x A' n' c' hn' O hnl) ?_
  rintro _ _ s6 h6 ⟨rfl,rfl⟩
  refine At Z Z<|Zs<|Sr<|Zqm Z Z<|qar Z Z Z<|Nt<|?_
  refine qaa Z (fun c7=>?_) (fun c7=>?_)
  ·
   have hE:wkX x lv ck=qco x.args (lv+1) (ck+1):=by rw [qe1,if_neg g4,if_neg (fun h=>h c7)]
   refine Zr<|Zqm Z Z<|Zqm Z Z<|qac (qap Z Z Z Z Z Z hk) Z<|qac (qbs Z Z Z Z) Z<|qac (qaC 4 Z Z Z (hcx.le (h3.t h6)) Z) Z<|Zqm Z Z<|qac (qaR Z Z (show IntKind.i64.wrap ((lv:Int)+1)=((lv+1:Nat):Int) by rw [w64 O O];simp)) Z<|Zqm Z Z<|Jc Z Z Z (ih e hd _ _ (lv+1) (ck+1) A' n' c' x.args (hax.le (h3.t h6)) O O) ?_
   rintro _ _ s8 h8 ⟨rfl,rfl⟩
   refine Zqm Z Z<|Zqx Z Z Z<|Zqx Z Z Z<|Zqa Z Z<|At Z Z<|Sr<|Zqm Z Z<|qb2 Z Z Z<|Nt ?_
   refine qaP Z (fun c9=>?_) (fun c9=>?_)
   ·
    have gE:¬ (wkX x lv ck).2=0:=by rw [hE];exact c9
    refine Sr<|Zqm Z Z<|Zqm Z Z<|Zqa Z Z<|At Z Z<|Zo<|Zc<|Zu<|Zu<|Zc<|Zu<|?_
    refine rR [] L (.tmp Z (.t1 Z)) Z (I1.1.t h3|>.t h6|>.t h8) fun _ hS2=>?_
    rw [hS,qc7 hx,if_pos gE,hE];exact ⟨rfl,rfl⟩
   have g1:=c9
   refine Zk<|Zb<|Zt<|Zr<|Zqm Z Z<|qaF Z Z Z (w64 O O)<|Zqa Z Z<|Zn<|?_
   refine qab ⟨(k+1,(qco x.args (lv+1) (ck+1)).1),[],kp,Z,⟨(I1.1.t h3|>.t h6|>.t h8),⟨by simp only;omega,qdW O g1,by simp only;rw [hS,qc7 hx,hE,if_neg (by rw [g1];decide)]⟩⟩,Oz⟩
  have g0:=c7
  have hE:wkX x lv ck=(ck+1,exC x.kind x.op x.num x.name x.args.length):=by rw [qe1,if_neg g4,if_pos c7]
  refine Zk<|Zt<|Sr<|Zqm Z Z<|qb2 Z Z Z<|Nt<|?_
  refine qaP Z (fun c10=>?_) (fun c10=>?_)
  ·
   have gE:¬ (wkX x lv ck).2=0:=by rw [hE];exact c10
   refine Sr<|Zqm Z Z<|Zqm Z Z<|Zqa Z Z<|At Z Z<|Zo<|Zc<|Zu<|Zu<|Zc<|Zu<|?_
   refine rR [] L (.tmp Z (.t1 Z)) Z (I1.1.t h3|>.t h6) fun _ hS2=>?_
   rw [hS,qc7 hx,if_pos gE,hE];exact ⟨rfl,rfl⟩
  exact absurd c10 g0 --end
 rw [List.drop_eq_nil_of_le O,qco] at hS
 refine Zl<|Zv<|Zv<|Zd<|Zt<|Sr<|Zqm Z Z<|Zqa Z Z<|At Z Z<|Zo ?_
 refine rR [] L (.tmp Z (.t1 Z)) Z I1.1 fun _ hS2=>?_
 rw [hS];exact ⟨rfl,rfl⟩
theorem qo9(D:Nat):∀ d,RXC D d
 | 0=>fun L s lv c A n cc l hA hc hlv=>qjf D 0 (fun e h=>by omega) L s lv c A n cc l hA hc hlv
 | d+1=>fun L s lv c A n cc l hA hc hlv=>qjf D (d+1) (fun e h=>(show d=e by omega)▸qo9 D d) L s lv c A n cc l hA hc hlv
theorem qjj(D d:Nat)(ih:∀ e,d=e+1→RSC D e)(L:Hl)(s:World)(lv c:Nat)(A:Option Addr)(n cc:Nat)(l:List Stm)(hA:Stms d s A n cc l)(hc:c≤2000)(hlv:lv≤17):AC prog D 100 [.slice A n cc,.int .i64 (lv:Int),.int .i64 (c:Int)] L s fun v L' _=>v=.tuple #[.int .i64 ((qb3 l lv c).1:Int),.int .i64 (qb3 l lv c).2]∧L=L':=by
 have hn:=hA.1
 have hc1:=hA.2.1
 have hc2:=hA.2.2.1
 refine qai (fn:=f100) qao func100 V Z ntmps100 Z (rs:=[.tmp 6,.tmp 7]) Z [(0,_),(1,_),(2,_)] Z<|Sr<|Zqa Z Z<|At Z Z<|Zs<|Sr<|At Z Z<|Zp ?_
 refine qav (γ:=Nat×Nat) (fun g=>[(0,_),(1,_),(2,.int .i64 (g.2:Int)),(6,_),(7,_),(8,.int .i64 (g.1:Int))]) (fun _=>_) (fun g tw=>Le D s tw∧(g.1≤n∧g.2≤2000∧qb3 l lv c=qb3 (l.drop g.1) lv g.2)) (fun g=>n - g.1) (fun _ _ _ h hl=>⟨h.1.trans hl,h.2⟩) (0,c) (.c6 Z Z Z Z Z Z (.nil _)) Z ⟨Le.refl _,⟨Nat.zero_le _,hc,Z⟩⟩ ?_
 intro g s1 I1
 obtain ⟨k,ck⟩:=g
 obtain ⟨hk0,hck,hS⟩:=I1.2
 simp only at hk0 hck hS
 dsimp only
 refine Zs<|Sr<|Zqm Z Z<|Zqm Z Z<|Ws Y4<|qbh Z Z Z<|Nt<|?_
 refine qaa Z (fun c2=>?_) (fun c2=>?_)
 ·
  have hk:k < n:=by omega
  obtain ⟨e,b,off,x,A1,n1,p1,A2,n2,p2,A3,n3,p3,hd,rfl,hx,hcx,hax,hbx,hex,hnl⟩:=Stms.at_ (hA.le I1.1) hk
  have hn1:=hax.1
  have hn2:=hbx.1
  have hn3:=hex.1
  have hq1:=hax.2.2.1
  have hq2:=hax.2.1
  refine Zk<|Zt<|Zs<|Zp<|Sr<|Zqm Z Z<|qac (qaR Z Z (show IntKind.i64.wrap ((ck:Int)+1)=((ck+1:Nat):Int) by rw [w64 O O];simp)) Z<|At Z Z<|Zs<|?_
  refine qaU 23 (16 < lv∨2000 < ck+1) ?_ ?_
  ·
   refine Zr<|Zqm Z Z<|qbv Z Z Z<|Zqm Z Z<|?_
   refine qak (t:=20) Z (fun c4=>?_) (fun c4=>?_)
   ·
    refine Wf Y4<|Wf Y4<|ZqT Z Z Z<|Zn<|?_
    refine qab (MidB.mk (Lr D) Sb Z ((decide_eq_true O).symm))
   refine Zg Z Z<|Zqm Z Z<|Zg Z Z<|qbv Z Z Z<|ZqF Z Z Z<|Zn<|?_
   refine qab (MidB.mk (Lr D) Sb Z (decide_eq_decide.2 O))
  intro s3 h3
  refine qaa Z (fun c5=>?_) (fun c5=>?_)
  ·
   have g4:16 < lv∨2000 < ck+1:=by have:=c5;omega
   have hE:wkS x lv ck=(ck+1,2):=by rw [qdA,if_pos g4]
   have gE:¬ (wkS x lv ck).2=0:=by rw [hE];simp
   refine Sr<|Zqm Z Z<|Zqa Z Z<|At Z Z<|Zo<|Zu<|Zc<|Zu<|Zu<|Zc<|Zu<|?_
   refine rR [] L (.tmp Z (.t1 Z)) Z (I1.1.t h3) fun _ hS2=>?_
   rw [hS,qb6 hx,if_pos gE,hE];exact ⟨rfl,rfl⟩
  have g4:¬ (16 < lv∨2000 < ck+1):=by have:=c5;omega
  refine Zk<|Zt<|Sr<|Zqm Z Z<|Zqm Z Z<|qac (qap Z Z Z Z Z Z hk) Z<|qac (qau Z Z Z (hcx.le h3) Z) Z<|Jc Z Z Z (qri D _ _ x A1 A2 A3 n1 p1 n2 p2 n3 p3 hn1 hn2 hn3 O hnl) ?_
  rintro _ _ s6 h6 ⟨rfl,rfl⟩
  refine At Z Z<|Zs<|Sr<|Zqm Z Z<|qar Z Z Z<|Nt<|?_
  refine qaa Z (fun c7=>?_) (fun c7=>?_)
  ·
   have g0:=c7
   refine Zr<|Zqm Z Z<|Zqm Z Z<|qac (qap Z Z Z Z Z Z hk) Z<|qac (qbs Z Z Z Z) Z<|qac (qaC 2 Z Z Z (hcx.le (h3.t h6)) Z) Z<|Zqm Z Z<|Jc Z Z Z (qo9 D e _ _ 1 (ck+1) A1 n1 p1 x.exprs (hax.le (h3.t h6)) O O) ?_
   rintro _ _ s8 h8 ⟨rfl,rfl⟩
   refine Zqm Z Z<|Zqx Z Z Z<|Zqx Z Z Z<|Zqa Z Z<|At Z Z<|Zs<|Sr<|Zqm Z Z<|qar Z Z Z<|Nt<|?_
   refine qaa Z (fun c9=>?_) (fun c9=>?_)
   ·
    have g1:=c9
    refine Zr<|Zqm Z Z<|Zqm Z Z<|qac (qap Z Z Z Z Z Z hk) Z<|qac (qbs Z Z Z Z) Z<|qac (qaC 3 Z Z Z (hcx.le (h3.t h6|>.t h8)) Z) Z<|Zqm Z Z<|qac (qaR Z Z (show IntKind.i64.wrap ((lv:Int)+1)=((lv+1:Nat):Int) by rw [w64 O O];simp)) Z<|Zqm Z Z<|Jc Z Z Z (ih e hd _ _ (lv+1) (qco x.exprs 1 (ck+1)).1 A2 n2 p2 x.body (hbx.le (h3.t h6|>.t h8)) (qdW O g1) O) ?_
    rintro _ _ s10 h10 ⟨rfl,rfl⟩
    refine Zqm Z Z<|Zqx Z Z Z<|Zqx Z Z Z<|Zqa Z Z<|At Z Z<|Zs<|Sr<|Zqm Z Z<|qar Z Z Z<|Nt<|?_
    refine qaa Z (fun c11=>?_) (fun c11=>?_)
    ·
     have g2:=c11
     refine Zr<|Zqm Z Z<|Zqm Z Z<|qac (qap Z Z Z Z Z Z hk) Z<|qac (qbs Z Z Z Z) Z<|qac (qaC 4 Z Z Z (hcx.le (h3.t h6|>.t h8|>.t h10)) Z) Z<|Zqm Z Z<|qac (qaR Z Z (show IntKind.i64.wrap ((lv:Int)+1)=((lv+1:Nat):Int) by rw [w64 O O];simp)) Z<|Zqm Z Z<|Jc Z Z Z (ih e hd _ _ (lv+1) (qb3 x.body (lv+1) (qco x.exprs 1 (ck+1)).1).1 A3 n3 p3 x.els (hex.le (h3.t h6|>.t h8|>.t h10)) (qdT (qdW O g1) g2) O) ?_
     rintro _ _ s12 h12 ⟨rfl,rfl⟩
     refine Zqm Z Z<|Zqx Z Z Z<|Zqx Z Z Z<|Zqa Z Z<|At Z Z<|Sr<|Zqm Z Z<|qb2 Z Z Z<|Nt ?_
     refine qaP Z (fun c13=>?_) (fun c13=>?_)
     ·
      have hE:wkS x lv ck=qb3 x.els (lv+1) (qb3 x.body (lv+1) (qco x.exprs 1 (ck+1)).1).1:=by rw [qdA,if_neg g4,if_neg (fun h=>h g0),if_neg (fun h=>h g1),if_neg (fun h=>h g2)]
      have gE:¬ (wkS x lv ck).2=0:=by rw [hE];exact c13
      refine Sr<|Zqm Z Z<|Zqm Z Z<|Zqa Z Z<|At Z Z<|Zo<|Zc<|Zu<|Zu<|Zc<|Zu<|?_
      refine rR [] L (.tmp Z (.t1 Z)) Z (I1.1.t h3|>.t h6|>.t h8|>.t h10|>.t h12) fun _ hS2=>?_
      rw [hS,qb6 hx,if_pos gE,hE];exact ⟨rfl,rfl⟩
     have g3:=c13
     have hE:wkS x lv ck=qb3 x.els (lv+1) (qb3 x.body (lv+1) (qco x.exprs 1 (ck+1)).1).1:=by rw [qdA,if_neg g4,if_neg (fun h=>h g0),if_neg (fun h=>h g1),if_neg (fun h=>h g2)]
     refine Zk<|Zb<|Zt<|Zr<|Zqm Z Z<|qaF Z Z Z (w64 O O)<|Zqa Z Z<|Zn<|?_
     refine qab ⟨(k+1,(qb3 x.els (lv+1) (qb3 x.body (lv+1) (qco x.exprs 1 (ck+1)).1).1).1),[],kp,Z,⟨(I1.1.t h3|>.t h6|>.t h8|>.t h10|>.t h12),⟨by simp only;omega,qdT (qdT (qdW O g1) g2) g3,by simp only;rw [hS,qb6 hx,hE,if_neg (fun h=>h g3)]⟩⟩,Oz⟩
    have g2:=c11
    refine Zk<|Zt<|Sr<|Zqm Z Z<|qb2 Z Z Z<|Nt<|?_
    refine qaP Z (fun c14=>?_) (fun c14=>?_)
    ·
     have hE:wkS x lv ck=qb3 x.body (lv+1) (qco x.exprs 1 (ck+1)).1:=by rw [qdA,if_neg g4,if_neg (fun h=>h g0),if_neg (fun h=>h g1),if_pos g2]
     have gE:¬ (wkS x lv ck).2=0:=by rw [hE];exact c14
     refine Sr<|Zqm Z Z<|Zqm Z Z<|Zqa Z Z<|At Z Z<|Zo<|Zc<|Zu<|Zu<|Zc<|Zu<|?_
     refine rR [] L (.tmp Z (.t1 Z)) Z (I1.1.t h3|>.t h6|>.t h8|>.t h10) fun _ hS2=>?_
     rw [hS,qb6 hx,if_pos gE,hE];exact ⟨rfl,rfl⟩
    exact absurd c14 g2 --end
   have g1:=c9
   refine Zk<|Zt<|Zs<|Sr<|Zqm Z Z<|qar Z Z Z<|Nt<|?_
   refine qaa Z (fun c15=>?_) (fun c15=>?_)
   ·
    exact absurd c15 g1 --end
   refine Zk<|Zt<|Sr<|Zqm Z Z<|qb2 Z Z Z<|Nt<|?_
   refine qaP Z (fun c16=>?_) (fun c16=>?_)
   ·
    have hE:wkS x lv ck=qco x.exprs 1 (ck+1):=by rw [qdA,if_neg g4,if_neg (fun h=>h g0),if_pos g1]
    have gE:¬ (wkS x lv ck).2=0:=by rw [hE];exact c16
    refine Sr<|Zqm Z Z<|Zqm Z Z<|Zqa Z Z<|At Z Z<|Zo<|Zc<|Zu<|Zu<|Zc<|Zu<|?_
    refine rR [] L (.tmp Z (.t1 Z)) Z (I1.1.t h3|>.t h6|>.t h8) fun _ hS2=>?_
    rw [hS,qb6 hx,if_pos gE,hE];exact ⟨rfl,rfl⟩
   exact absurd c16 g1 --end
  have g0:=c7
  refine Zk<|Zt<|Zs<|Sr<|Zqm Z Z<|qar Z Z Z<|Nt<|?_
  refine qaa Z (fun c17=>?_) (fun c17=>?_)
  ·
   exact absurd c17 g0 --end
  refine Zk<|Zt<|Zs<|Sr<|Zqm Z Z<|qar Z Z Z<|Nt<|?_
  refine qaa Z (fun c18=>?_) (fun c18=>?_)
  ·
   exact absurd c18 g0 --end
  refine Zk<|Zt<|Sr<|Zqm Z Z<|qb2 Z Z Z<|Nt<|?_
  refine qaP Z (fun c19=>?_) (fun c19=>?_)
  ·
   have hE:wkS x lv ck=(ck+1,stC x.kind x.name x.exprs.length x.body.length x.els.length):=by rw [qdA,if_neg g4,if_pos g0]
   have gE:¬ (wkS x lv ck).2=0:=by rw [hE];exact c19
   refine Sr<|Zqm Z Z<|Zqm Z Z<|Zqa Z Z<|At Z Z<|Zo<|Zc<|Zu<|Zu<|Zc<|Zu<|?_
   refine rR [] L (.tmp Z (.t1 Z)) Z (I1.1.t h3|>.t h6) fun _ hS2=>?_
   rw [hS,qb6 hx,if_pos gE,hE];exact ⟨rfl,rfl⟩
  exact absurd c19 g0 --end
 rw [List.drop_eq_nil_of_le O,qb3] at hS
 refine Zl<|Zv<|Zv<|Zd<|Zt<|Sr<|Zqm Z Z<|Zqa Z Z<|At Z Z<|Zo ?_
 refine rR [] L (.tmp Z (.t1 Z)) Z I1.1 fun _ hS2=>?_
 rw [hS];exact ⟨rfl,rfl⟩
theorem qpf(D:Nat):∀ d,RSC D d
 | 0=>fun L s lv c A n cc l hA hc hlv=>qjj D 0 (fun e h=>by omega) L s lv c A n cc l hA hc hlv
 | d+1=>fun L s lv c A n cc l hA hc hlv=>qjj D (d+1) (fun e h=>(show d=e by omega)▸qpf D d) L s lv c A n cc l hA hc hlv
theorem qkP{x:Fnc}{c:Nat}{w:Str}(h:¬ qaT x.name=false)(hs2:¬ (6 < x.params.length∨12 < x.locals.length))(hw:w∈x.params++x.locals)(hi:qaT w=false):fnC x c=(c,7):=by
 obtain ⟨i,hi2⟩:=List.getElem?_of_mem hw
 exact qmn h hs2 hi2 hi
theorem qsf{x:Fnc}{c:Nat}(h:¬ qaT x.name=false)(hs2:¬ (6 < x.params.length∨12 < x.locals.length))(h3:∀ i w,i < x.params.length→x.params[i]?=some w→qaT w=true)(h4:∀ i w,i < x.locals.length→x.locals[i]?=some w→qaT w=true):fnC x c=qb3 x.body 1 c:=by
 refine qpJ h hs2 fun i w _ hi=>?_
 have hw:=List.mem_of_getElem? hi
 rcases List.mem_append.1 hw with hw | hw
 · obtain ⟨j,hj⟩:=List.getElem?_of_mem hw;exact h3 j w (List.getElem?_eq_some_iff.1 hj).1 hj
 · obtain ⟨j,hj⟩:=List.getElem?_of_mem hw;exact h4 j w (List.getElem?_eq_some_iff.1 hj).1 hj
theorem qki(D:Nat)(L:Hl)(s:World)(d:Nat)(p:Prg)(Ag Af:Option Addr)(ng cg nf cf:Nat)(hGl:Glos s Ag ng cg p.globals)(hFn:Fncs d s Af nf cf p.funcs):AC prog D 54 [.agg #[.slice Ag ng cg,.slice Af nf cf]] L s fun v L' _=>v=.agg #[.int .i64 (qbj p).1,.int .i64 (qbj p).2]∧L=L':=by
 have hn1:=hGl.1
 have hn2:=hFn.1
 refine qai (fn:=f54) qao func54 V Z ntmps54 Z (rs:=[.cell 2 33]) Z [(0,_)] Z<|Sr<|qaq Z Z ?_
 intro β1 s1 h1
 refine qaj Z [_,_] Z Z ?_
 intro β2 s2 h2
 refine Nt<|Zs<|?_
 refine qaU 22 (64 < ng∨64 < nf) ?_ ?_
 ·
  refine Zr<|W0 Y5<|Wl 1 Y6<|Ws Y4<|qbv Z Z Z<|Zqm Z Z<|?_
  refine qak (t:=17) Z (fun c4=>?_) (fun c4=>?_)
  ·
   refine Wf Y4<|Wf Y4<|Wf Y4<|Wf Y4<|ZqT Z Z Z<|Zn<|?_
   refine qab (MidB.mk (Lr D) Sb Z ((decide_eq_true O).symm))
  refine Zg Z Z<|Wb Y5<|Zg Z Z<|Wl 1 Y6<|Zg Z Z<|Ws Y4<|Zg Z Z<|qbv Z Z Z<|ZqF Z Z Z<|Zn<|?_
  refine qab (MidB.mk (Lr D) Sb Z (decide_eq_decide.2 O))
 intro s3 h3
 refine qaa Z (fun c5=>?_) (fun c5=>?_)
 ·
  have hE:=qir (p:=p) O
  refine Sr<|Jc Z Z Z (qdB D _ _ _ _) ?_
  rintro _ _ s6 h6 ⟨rfl,rfl⟩
  refine Wt 0 [_,_] Y9<|Nt<|Zo<|Zu<|?_
  refine rR [_,_] L (.agg (us:=[_,_]) 0 Z Z Z Z Z (.nil)) Z (h1.t h2|>.t h3|>.t h6) fun _ hS2=>?_
  exact ⟨by rw [hE];rfl,rfl⟩
 have g20:¬ (64 < p.globals.length∨64 < p.funcs.length):=by omega
 refine Zk<|Zt<|Sr<|At Z Z<|Zs<|Sr<|At Z Z<|Zp<|qdY [_,_] (γ:=Nat×Nat) (fun g=>[(1,_),(2,_),(3,.int .i64 (g.2:Int)),(4,.int .i64 (g.1:Int))]) (fun g=>L) (fun g tw=>Le D s3 tw∧(g.1≤ng∧glF p.globals 0=glF (p.globals.drop g.1) g.1∧g.2=((p.globals.take g.1).map fun g=>g.init.length).sum∧g.2≤g.1 * 40000)) (fun g=>ng - g.1) (fun _ _ _ h hl=>⟨h.1.trans hl,h.2⟩) (0,0) (.c4 Z Z Z Z (.nil _)) Z ⟨Le.refl _,⟨Nat.zero_le _,Z,Z,Nat.zero_le _⟩⟩ ?_
 intro g s7 I7
 simp only [cQ9,nQ9]
 obtain ⟨k,z⟩:=g
 obtain ⟨hk0,hS,hz,hz4⟩:=I7.2
 simp only at hk0 hS hz hz4
 dsimp only
 refine Zs<|Sr<|Zqm Z Z<|W0 Y5<|Wl 1 Y6<|Ws Y4<|qbh Z Z Z<|Nt<|?_
 refine qaa Z (fun c8=>?_) (fun c8=>?_)
 ·
  have hk:k < ng:=by omega
  obtain ⟨b,off,x,Ai,ni,ci,rfl,hx,hcx,hix,hux,hnl⟩:=Glos.at_ (hGl.le (h1.t h2|>.t h3|>.t I7.1)) hk
  have hni:=hix.1
  refine Zk<|Zt<|Zs<|Zp<|Sr<|W0 Y5<|Wl 1 Y6<|Zqm Z Z<|qac (qap Z Z Z Z Z Z hk) Z<|qac (qau Z Z Z (hcx.le (Lr D)) Z) Z<|Jc Z Z Z (qqY D _ _ x Ai ni ci (hix.le (Lr D)) hux hnl) ?_
  rintro _ _ s9 h9 ⟨rfl,rfl⟩
  refine At Z Z<|Zs<|Sr<|Zqm Z Z<|qb2 Z Z Z<|Nt<|?_
  refine qaP Z (fun c10=>?_) (fun c10=>?_)
  ·
   have hE:qbj p=(qfc x,(k:Int)):=by
     have h9:glF p.globals 0=(qfc x,(k:Int)):=by rw [hS,qi8 hx,if_pos c10]
     rw [qpy g20 (by rw [h9];exact c10),h9]
   refine Sr<|Zqm Z Z<|Zqm Z Z<|Jc Z Z Z (qdB D _ _ _ _) ?_
   rintro _ _ s11 h11 ⟨rfl,rfl⟩
   refine Wt 0 [_,_] Y9<|Nt<|Zo<|Zu<|Zc<|Zu<|Zu<|Zc<|Zu<|?_
   refine rR [_,_] L (.agg (us:=[_,_]) 0 Z Z Z Z Z (.nil)) Z (h1.t h2|>.t h3|>.t I7.1|>.t h9|>.t h11) fun _ hS2=>?_
   exact ⟨by rw [hE];rfl,rfl⟩
  have g33:¬ qfc x≠0:=fun h=>h c10
  have hg4:=(qcn (show qfc x=0 by simpa using g33)).2.2.2.2.2
  refine Zk<|Zt<|Zr<|Zqm Z Z<|W0 Y5<|Wl 1 Y6<|Zqm Z Z<|qac (qap Z Z Z Z Z Z hk) Z<|qac (qbs Z Z Z Z) Z<|qac (qaC 3 Z Z Z (hcx.le h9) Z) Z<|Ws Y4<|qac (qaR Z Z (show IntKind.i64.wrap ((z:Int)+(ni:Int))=((z+ni:Nat):Int) by rw [w64 O O];simp)) Z<|Zqa Z Z<|Zn<|Zb<|Zt<|Zr<|Zqm Z Z<|qaF Z Z Z (w64 O O)<|Zqa Z Z<|Zn<|?_
  refine qab ⟨(k+1,z+ni),[],kp,Z,⟨(I7.1.t h9),⟨by simp only;omega,by simp only;rw [hS,qi8 hx,if_neg g33],by simp only;rw [qlH hx,← hz,hni],by simp only;omega⟩⟩,Oz⟩
 rw [List.drop_eq_nil_of_le O] at hS
 rw [List.take_of_length_le O] at hz
 refine Zl<|Zv<|Zv<|Zd<|Zt<|Zs<|Sr<|Zqm Z Z<|qbv Z Z Z<|Nt<|?_
 refine qaa Z (fun c12=>?_) (fun c12=>?_)
 ·
  have hE:=qgA g20 hS O
  refine Sr<|Jc Z Z Z (qdB D _ _ _ _) ?_
  rintro _ _ s13 h13 ⟨rfl,rfl⟩
  refine Wt 0 [_,_] Y9<|Nt<|Zo<|Zu<|?_
  refine rR [_,_] L (.agg (us:=[_,_]) 0 Z Z Z Z Z (.nil)) Z (h1.t h2|>.t h3|>.t I7.1|>.t h13) fun _ hS2=>?_
  exact ⟨by rw [hE];rfl,rfl⟩
 have g44:=qsS g20 hS O
 refine Zk<|Zt<|Sr<|At Z Z<|Zs<|Sr<|At Z Z<|Zp<|qdY [_,_] (γ:=Nat×Nat) (fun g=>[(1,_),(2,_),(6,.int .i64 (g.2:Int)),(7,.int .i64 (g.1:Int))]) (fun g=>L) (fun g tw=>Le D s7 tw∧(g.1≤nf∧g.2≤2000∧fnF p.funcs p.globals.length 0=fnF (p.funcs.drop g.1) (p.globals.length+g.1) g.2)) (fun g=>nf - g.1) (fun _ _ _ h hl=>⟨h.1.trans hl,h.2⟩) (0,0) (.c4 Z Z Z Z (.nil _)) Z ⟨Le.refl _,⟨Nat.zero_le _,Nat.zero_le _,Z⟩⟩ ?_
 intro g s14 I14
 simp only [cQ9,nQ9]
 obtain ⟨k,ck⟩:=g
 obtain ⟨hk0,hck,hS2⟩:=I14.2
 simp only at hk0 hck hS2
 dsimp only
 refine Zs<|Sr<|Zqm Z Z<|Wb Y5<|Wl 1 Y6<|Ws Y4<|qbh Z Z Z<|Nt<|?_
 refine qaa Z (fun c15=>?_) (fun c15=>?_)
 ·
  have hk:k < nf:=by omega
  obtain ⟨b,off,x,B1,m1,d1,B2,m2,d2,B3,m3,d3,rfl,hx,hcx,hpx,hlx,hbx,hnl⟩:=Fncs.at_ (hFn.le (h1.t h2|>.t h3|>.t I7.1|>.t I14.1)) hk
  have hm1:=hpx.1
  have hm2:=hlx.1
  refine Zk<|Zt<|Zs<|Zp<|Sr<|Wb Y5<|Wl 1 Y6<|Zqm Z Z<|qac (qap Z Z Z Z Z Z hk) Z<|qac (qau Z Z Z (hcx.le (Lr D)) Z) Z<|qaj Z [_,_,_,_] Z Z ?_
  intro β16 s16 h16
  refine Wt 0 [_,_,_,_] Y9<|Nt<|Sr<|W0 Y5<|Wl 2 Y6<|Ws Y4<|Zqm Z Z<|qac (qaR Z Z (show IntKind.i64.wrap ((ng:Int)+(k:Int))=((ng+k:Nat):Int) by rw [w64 O O];simp)) Z<|At Z Z<|Zs<|Sr<|W0 Y5<|Wl 0 Y6<|Jc Z Z Z (qdj D _ _ x.name hnl) ?_
  rintro _ _ s17 h17 ⟨rfl,rfl⟩
  refine qbV Z Z<|Nt<|?_
  refine qcH Z (fun c18=>?_) (fun c18=>?_)
  ·
   have hi:qaT x.name=false:=by simpa using c18
   have hC:=qiB (c:=ck) hi
   have hE:qbj p=((fnC x ck).2,((ng+k:Nat):Int)):=by rw [g44,hS2,qe2 hx,if_pos (by rw [hC];exact (by simp)),hn1]
   rw [hC] at hE
   refine Sr<|Zqm Z Z<|Jc Z Z Z (qdB D _ _ _ _) ?_
   rintro _ _ s19 h19 ⟨rfl,rfl⟩
   refine Wt 1 [_,_] Y9<|Nt<|Zo<|Zu<|Zc<|Zu<|Zu<|Zc<|Zu<|?_
   refine rR [_,_,_] L (.agg (us:=[_,_]) 1 Z Z Z Z Z (.nil)) Z (h1.t h2|>.t h3|>.t I7.1|>.t I14.1|>.t h16|>.t h17|>.t h19) fun _ hS2=>?_
   exact ⟨by rw [hE];rfl,rfl⟩
  have g74:¬ qaT x.name=false:=by simpa using c18
  refine Zk<|Zt<|Zs<|?_
  refine qaU 86 (6 < m1∨12 < m2) ?_ ?_
  ·
   refine Zr<|Wb Y5<|Wl 0 Y6<|Ws Y4<|qbv Z Z Z<|Zqm Z Z<|?_
   refine qak (t:=81) Z (fun c21=>?_) (fun c21=>?_)
   ·
    refine Wf Y4<|Wf Y4<|Wf Y4<|Wf Y4<|ZqT Z Z Z<|Zn<|?_
    refine qab (MidB.mk (Lr D) Sb Z ((decide_eq_true O).symm))
   refine Zg Z Z<|Wb Y5<|Zg Z Z<|Wl 0 Y6<|Zg Z Z<|Ws Y4<|Zg Z Z<|qbv Z Z Z<|ZqF Z Z Z<|Zn<|?_
   refine qab (MidB.mk (Lr D) Sb Z (decide_eq_decide.2 O))
  intro s20 h20
  refine qaa Z (fun c22=>?_) (fun c22=>?_)
  ·
   have hC:=qiF (c:=ck) g74 O
   have hE:qbj p=((fnC x ck).2,((ng+k:Nat):Int)):=by rw [g44,hS2,qe2 hx,if_pos (by rw [hC];exact (by simp)),hn1]
   rw [hC] at hE
   refine Sr<|Zqm Z Z<|Jc Z Z Z (qdB D _ _ _ _) ?_
   rintro _ _ s23 h23 ⟨rfl,rfl⟩
   refine Wt 1 [_,_] Y9<|Nt<|Zo<|Zu<|Zc<|Zu<|Zu<|Zc<|Zu<|?_
   refine rR [_,_,_] L (.agg (us:=[_,_]) 1 Z Z Z Z Z (.nil)) Z (h1.t h2|>.t h3|>.t I7.1|>.t I14.1|>.t h16|>.t h17|>.t h20|>.t h23) fun _ hS2=>?_
   exact ⟨by rw [hE];rfl,rfl⟩
  have g86:¬ (6 < x.params.length∨12 < x.locals.length):=by omega
  refine Zk<|Zt<|Zs<|Sr<|At Z Z<|Zp<|qdY [_,_,_] (γ:=Nat) (fun j=>[(1,_),(2,_),(6,_),(7,_),(8,_),(9,_),(10,.int .i64 (j:Int))]) (fun j=>L) (fun j tw=>Le D s20 tw∧(j≤m1∧∀ i w,i < j→x.params[i]?=some w→qaT w=true)) (fun j=>m1 - j) (fun _ _ _ h hl=>⟨h.1.trans hl,h.2⟩) 0 (.c6 Z Z Z Z Z Z (.cons Z (.nil _))) Z ⟨Le.refl _,⟨Nat.zero_le _,fun i w hi=>by omega⟩⟩ ?_
  intro j s24 I24
  simp only [cQ9,nQ9]
  have hj0:=I24.2.1
  have hP:=I24.2.2
  refine Zs<|Sr<|Zqm Z Z<|Wb Y5<|Wl 0 Y6<|Ws Y4<|qbh Z Z Z<|Nt<|?_
  refine qaa Z (fun c25=>?_) (fun c25=>?_)
  ·
   have hj:j < m1:=by omega
   obtain ⟨bw,ow,w,rfl,hw,hcw,hwl⟩:=Strs.at_ (hpx.le (h16.t h17|>.t h20|>.t I24.1)) hj
   refine Zk<|Zt<|Zs<|Zp<|Sr<|Wb Y5<|Wl 0 Y6<|Zqm Z Z<|qac (qas Z Z Z Z Z Z hj) Z<|qac (qah Z Z Z (hcw.le (Lr D)) Z) Z<|Jc Z Z Z (qdj D _ _ w hwl) ?_
   rintro _ _ s26 h26 ⟨rfl,rfl⟩
   refine qbV Z Z<|Nt<|?_
   refine qcH Z (fun c27=>?_) (fun c27=>?_)
   ·
    have hC:=qkP (c:=ck) g74 g86 (List.mem_append_left _ (List.mem_of_getElem? hw)) (by simpa using c27)
    have hE:qbj p=((fnC x ck).2,((ng+k:Nat):Int)):=by rw [g44,hS2,qe2 hx,if_pos (by rw [hC];exact (by simp)),hn1]
    rw [hC] at hE
    refine Sr<|Zqm Z Z<|Jc Z Z Z (qdB D _ _ _ _) ?_
    rintro _ _ s28 h28 ⟨rfl,rfl⟩
    refine Wt 1 [_,_] Y9<|Nt<|Zo<|Zc<|Zu<|Zu<|Zc<|Zu<|Zc<|Zu<|Zu<|Zc<|Zu ?_
    refine rR [_,_,_] L (.agg (us:=[_,_]) 1 Z Z Z Z Z (.nil)) Z (h1.t h2|>.t h3|>.t I7.1|>.t I14.1|>.t h16|>.t h17|>.t h20|>.t I24.1|>.t h26|>.t h28) fun _ hS2=>?_
    exact ⟨by rw [hE];rfl,rfl⟩
   have hid:qaT w=true:=by simpa using c27
   refine Zk<|Zb<|Zt<|Zr<|Zqm Z Z<|qaF Z Z Z (w64 O O)<|Zqa Z Z<|Zn<|?_
   refine qab ⟨(j+1),[],kp,Z,⟨(I24.1.t h26),⟨by omega,qbc hP hw hid⟩⟩,O⟩
  obtain rfl:j=m1:=by omega
  refine Zl<|Zv<|Zv<|Zd<|Zt<|Zs<|Sr<|At Z Z<|Zp<|qdY [_,_,_] (γ:=Nat) (fun j=>[(1,_),(2,_),(6,_),(7,_),(8,_),(9,_),(11,.int .i64 (j:Int))]) (fun j=>L) (fun j tw=>Le D s24 tw∧(j≤m2∧∀ i w,i < j→x.locals[i]?=some w→qaT w=true)) (fun j=>m2 - j) (fun _ _ _ h hl=>⟨h.1.trans hl,h.2⟩) 0 (.c6 Z Z Z Z Z Z (.cons Z (.nil _))) Z ⟨Le.refl _,⟨Nat.zero_le _,fun i w hi=>by omega⟩⟩ ?_
  intro j s29 I29
  simp only [cQ9,nQ9]
  have hj0:=I29.2.1
  have hQ:=I29.2.2
  refine Zs<|Sr<|Zqm Z Z<|Wb Y5<|Wl 0 Y6<|Ws Y4<|qbh Z Z Z<|Nt<|?_
  refine qaa Z (fun c30=>?_) (fun c30=>?_)
  ·
   have hj:j < m2:=by omega
   obtain ⟨bw,ow,w,rfl,hw,hcw,hwl⟩:=Strs.at_ (hlx.le (h16.t h17|>.t h20|>.t I24.1|>.t I29.1)) hj
   refine Zk<|Zt<|Zs<|Zp<|Sr<|Wb Y5<|Wl 0 Y6<|Zqm Z Z<|qac (qas Z Z Z Z Z Z hj) Z<|qac (qah Z Z Z (hcw.le (Lr D)) Z) Z<|Jc Z Z Z (qdj D _ _ w hwl) ?_
   rintro _ _ s31 h31 ⟨rfl,rfl⟩
   refine qbV Z Z<|Nt<|?_
   refine qcH Z (fun c32=>?_) (fun c32=>?_)
   ·
    have hC:=qkP (c:=ck) g74 g86 (List.mem_append_right _ (List.mem_of_getElem? hw)) (by simpa using c32)
    have hE:qbj p=((fnC x ck).2,((ng+k:Nat):Int)):=by rw [g44,hS2,qe2 hx,if_pos (by rw [hC];exact (by simp)),hn1]
    rw [hC] at hE
    refine Sr<|Zqm Z Z<|Jc Z Z Z (qdB D _ _ _ _) ?_
    rintro _ _ s33 h33 ⟨rfl,rfl⟩
    refine Wt 1 [_,_] Y9<|Nt<|Zo<|Zc<|Zu<|Zu<|Zc<|Zu<|Zc<|Zu<|Zu<|Zc<|Zu ?_
    refine rR [_,_,_] L (.agg (us:=[_,_]) 1 Z Z Z Z Z (.nil)) Z (h1.t h2|>.t h3|>.t I7.1|>.t I14.1|>.t h16|>.t h17|>.t h20|>.t I24.1|>.t I29.1|>.t h31|>.t h33) fun _ hS2=>?_
    exact ⟨by rw [hE];rfl,rfl⟩
   have hid:qaT w=true:=by simpa using c32
   refine Zk<|Zb<|Zt<|Zr<|Zqm Z Z<|qaF Z Z Z (w64 O O)<|Zqa Z Z<|Zn<|?_
   refine qab ⟨(j+1),[],kp,Z,⟨(I29.1.t h31),⟨by omega,qbc hQ hw hid⟩⟩,O⟩
  obtain rfl:j=m2:=by omega
  have hC:=qsf (c:=ck) g74 g86 (fun i w hi h=>hP i w O h) (fun i w hi h=>hQ i w O h)
  refine Zl<|Zv<|Zv<|Zd<|Zt<|Sr<|At Z Z<|Sr<|Wb Y5<|Wl 0 Y6<|Zqm Z Z<|Jc Z Z Z (qpf D d _ _ 1 ck B3 m3 d3 x.body (hbx.le (h16.t h17|>.t h20|>.t I24.1|>.t I29.1)) hck O) ?_
  rintro _ _ s34 h34 ⟨rfl,rfl⟩
  refine Zqm Z Z<|Zqx Z Z Z<|Zqx Z Z Z<|Zqa Z Z<|At Z Z<|Sr<|Zqm Z Z<|qb2 Z Z Z<|Nt ?_
  refine qaP Z (fun c35=>?_) (fun c35=>?_)
  ·
   have hE:qbj p=((fnC x ck).2,((ng+k:Nat):Int)):=by rw [g44,hS2,qe2 hx,if_pos (by rw [hC];exact c35),hn1]
   rw [hC] at hE
   refine Sr<|Zqm Z Z<|Zqm Z Z<|Jc Z Z Z (qdB D _ _ _ _) ?_
   rintro _ _ s36 h36 ⟨rfl,rfl⟩
   refine Wt 1 [_,_] Y9<|Nt<|Zo<|Zc<|Zu<|Zu<|Zc<|Zu<|?_
   refine rR [_,_,_] L (.agg (us:=[_,_]) 1 Z Z Z Z Z (.nil)) Z (h1.t h2|>.t h3|>.t I7.1|>.t I14.1|>.t h16|>.t h17|>.t h20|>.t I24.1|>.t I29.1|>.t h34|>.t h36) fun _ hS2=>?_
   exact ⟨by rw [hE];rfl,rfl⟩
  have g60:(qb3 x.body 1 ck).2=0:=c35
  refine Zk<|Zb<|Zt<|Zr<|Zqm Z Z<|qaF Z Z Z (w64 O O)<|Zqa Z Z<|Zn<|?_
  refine qab ⟨(k+1,(qb3 x.body 1 ck).1),[_],kp,Z,⟨(I14.1.t h16|>.t h17|>.t h20|>.t I24.1|>.t I29.1|>.t h34),⟨by simp only;omega,qdT hck g60,by simp only;rw [hS2,qe2 hx,hC,if_neg (fun h=>h g60)];rfl⟩⟩,Oz⟩
 rw [List.drop_eq_nil_of_le O] at hS2
 have hE:qbj p=(0,0):=by rw [g44,hS2];rfl
 refine Zl<|Zv<|Zv<|Zd<|Zt<|Sr<|qac (qam [] [_,_] Z Z Z Z Z Z) Z<|Wt 0 [_,_] Y9<|Nt<|Zo<|?_
 refine rR [_,_] L (.agg (us:=[_,_]) 0 Z Z Z Z Z (.nil)) Z (h1.t h2|>.t h3|>.t I7.1|>.t I14.1) fun _ hS2=>?_
 exact ⟨by rw [hE];rfl,rfl⟩
end Go.Proofs.YtpdnijphccdiiaaGreatDoor
