/- Part 8. -/
import Derived.Test.YtpdnijphccdiiaaGreatDoorQ36x7
set_option linter.unusedVariables false
set_option linter.unusedSimpArgs false
set_option linter.unnecessarySimpa false
set_option maxRecDepth 100000
set_option maxHeartbeats 8000000
namespace Go.Proofs.YtpdnijphccdiiaaGreatDoor
open Go.Proofs.Tryz
open Go.FL
attribute [local irreducible] JC JO JA JB qaO qaD qbV AC fill CellsAt QE Ev Mid
theorem qoW:qgs 32 kwT=kwords:=by decide +kernel
theorem qs6{k:Nat}{w s:Str}(h:kwords[k]?=some w)(he:w=s):kwB s=true:=List.any_eq_true.2 ⟨w,List.mem_of_getElem? h,by simp [he]⟩
theorem qoR{s:Str}(h:∀ i w,i < kwords.length→kwords[i]?=some w→decide (w=s)=false):kwB s=false:=by
 cases hk:kwB s with
 | false=>rfl
 | true=>
  obtain ⟨w,hw,e⟩:=List.any_eq_true.1 hk
  obtain ⟨i,hi⟩:=List.getElem?_of_mem hw
  rw [h i w (List.getElem?_eq_some_iff.1 hi).1 hi] at e;cases e
theorem namedS_iff{k:Int}:qc8 k=true↔(k=1∨k=2∨k=5):=by simp [qc8,or_assoc]
theorem qg9{k:Int}:qc8 k=false↔¬ (k=1∨k=2∨k=5):=by rw [← namedS_iff];cases qc8 k <;> simp
theorem quN(D:Nat)(L:Hl)(s:World)(w:List UInt8):AC prog D 132 [St w] L s fun v L' _=>v=.bool (kwB w)∧L=L':=by
 refine qai (fn:=f132) qaq func132 V Z ntmps132 Z (rs:=[.tmp 2]) Z [(0,_)] Z<|Sr<|At Z Z<|Sr<|Jc Z Z Z (qhB D _ _ kwT 32 Dc) ?_
 rintro _ _ s1 h1 ⟨rfl,Ak,nk,ck,rfl,hK⟩
 rw [qoW] at hK
 have hnk:=hK.1
 have hnk2:kwords.length=13:=by decide
 refine At Z Z<|Zs<|Sr<|At Z Z<|Zp<|qat (γ:=Nat) (fun k=>[(0,_),(2,_),(3,_),(4,.int .i64 (k:Int))]) (fun _=>_) (fun k tw=>Le D s1 tw∧(k≤nk∧∀ i x,i < k→kwords[i]?=some x→decide (x=w)=false)) (fun k=>nk - k) (fun _ _ _ h hl=>⟨h.1.trans hl,h.2⟩) 0 (.c4 Z Z Z Z (.nil _)) Z ⟨Le.refl _,⟨Nat.zero_le _,fun i x hi=>by omega⟩⟩ ?_
 intro k s2 I2
 have hk0:=I2.2.1
 have hI:=I2.2.2
 refine Zs<|Sr<|Zqm Z Z<|Zqm Z Z<|Ws Y4<|qba Z Z Z<|Nt<|?_
 refine qab Z (fun c3=>?_) (fun c3=>?_)
 ·
  have hk:k < nk:=by omega
  obtain ⟨b,off,x,rfl,hx,hcx,_⟩:=Strs.at_ (hK.le I2.1) hk
  refine Zk<|Zt<|Zs<|Zp<|Sr<|Zqm Z Z<|Zqm Z Z<|qaf (qaH Z Z Z Z Z Z hk) Z<|qaf (qaj Z Z Z (hcx.le (Lr D)) Z) Z<|Zqm Z Z<|qll Z Z Z<|Nt<|?_
  refine qab Z (fun c4=>?_) (fun c4=>?_)
  ·
   have hq:=c4
   refine Sr<|At Z Z<|Zo<|Zc<|Zu<|Zu<|Zc<|Zu<|?_
   refine rR [] L (.t1 Z) Z (h1.t I2.1) fun _ hS2=>?_
   exact ⟨by rw [qs6 hx hq];rfl,rfl⟩
  have hq:=c4
  refine Zk<|Zb<|Zt<|Zr<|Zqm Z Z<|qaG Z Z Z (w64 O O)<|Zqa Z Z<|Zn<|?_
  refine qaa ⟨(k+1),[],kp,Z,⟨I2.1,⟨by omega,qa9 hI hx (decide_eq_false hq)⟩⟩,O⟩
 refine Zl<|Zv<|Zv<|Zd<|Zt<|Sr<|At Z Z<|Zo<|?_
 refine rR [] L (.t1 Z) Z (h1.t I2.1) fun _ hS2=>?_
 exact ⟨by rw [qoR (fun i w hi h=>hI i w O h)];rfl,rfl⟩
theorem qdA(D:Nat)(L:Hl)(s:World)(w:List UInt8)(hw:w.length≤9223372036854775807):AC prog D 99 [St w] L s fun v L' _=>v=.bool (qaU w)∧L=L':=by
 refine qai (fn:=f99) qaq func99 V Z ntmps99 Z (rs:=[.tmp 2]) Z [(0,_)] Z<|Sr<|At Z Z<|Sr<|Zqm Z Z<|Jc Z Z Z (qmq D _ _ w 12 hw) ?_
 rintro _ _ s1 h1 ⟨rfl,rfl⟩
 refine Zqm Z Z ?_
 refine qfn (t:=5) Z (fun c2=>?_) (fun c2=>?_)
 ·
  refine Zg Z Z<|Zqm Z Z<|Zg Z Z<|Jc Z Z Z (quN D _ _ w) ?_
  rintro _ _ s3 h3 ⟨rfl,rfl⟩
  refine Zg Z Z<|qcr Z Z<|ZqT Z Z Z<|At Z Z<|Zo<|?_
  refine rR [] L (.t1 Z) Z (h1.t h3) fun _ hS2=>?_
  refine ⟨?_,Z⟩
  simp only [qaA,qaU]
  simp_all
 refine Wf Y4<|Wf Y4<|Wf Y4<|ZqF Z Z Z<|At Z Z<|Zo<|?_
 refine rR [] L (.t1 Z) Z h1 fun _ hS2=>?_
 refine ⟨?_,Z⟩
 simp only [qaA,qaU]
 simp_all
theorem qtz(D:Nat)(L:Hl)(s:World)(g:Glo)(A:Option Addr)(n c:Nat)(hA:Wds s A n c g.init)(hu:U32 g.num)(hl:g.name.length≤9223372036854775807):AC prog D 98 [.agg #[.int .i64 g.kind,St g.name,.int .u32 g.num,.slice A n c]] L s fun v L' _=>v=.int .i64 (qfw g)∧L=L':=by
 have hn:=hA.1
 have hu1:=hu.1
 have hu2:=hu.2
 refine qai (fn:=f98) qaq func98 V Z ntmps98 Z (rs:=[.tmp 2]) Z [(0,_)] Z<|Sr<|qau Z Z ?_
 intro β1 s1 h1
 refine At Z Z<|Zs<|Sr<|W0 Y5<|Wl 0 Y6<|Jc Z Z Z (qdx D _ _ _ _ _) ?_
 rintro _ _ s2 h2 ⟨rfl,rfl⟩
 refine qcr Z Z<|Nt<|?_
 refine qaK Z (fun c3=>?_) (fun c3=>?_)
 ·
  refine Sr<|At Z Z<|Zo<|Zu<|?_
  refine rR [_] L (.t1 Z) Z (h1.t h2) fun _ hS2=>?_
  refine ⟨?_,Z⟩
  simp only [qaA];rw [qaS hn]
  repeat' split
  all_goals (first | rfl | (exfalso;omega) | (exfalso;simp_all;done) | (exfalso;simp_all;omega))
 refine Zk<|Zt<|Zs<|Sr<|Wb Y5<|Wl 0 Y6<|Jc Z Z Z (qdA D _ _ g.name hl) ?_
 rintro _ _ s4 h4 ⟨rfl,rfl⟩
 refine qcr Z Z<|Nt<|?_
 refine qdS Z (fun c5=>?_) (fun c5=>?_)
 ·
  refine Sr<|At Z Z<|Zo<|Zu<|?_
  refine rR [_] L (.t1 Z) Z (h1.t h2|>.t h4) fun _ hS2=>?_
  refine ⟨?_,Z⟩
  simp only [qaA];rw [qaS hn]
  repeat' split
  all_goals (first | rfl | (exfalso;omega) | (exfalso;simp_all;done) | (exfalso;simp_all;omega))
 refine Zk<|Zt<|Zs<|?_
 refine qaR 29 ((g.kind≠3∧0 < n)∨(g.kind=2∧g.num≠0)) ?_ ?_
 ·
  refine Zr<|W0 Y5<|Wl 0 Y6<|qba Z Z Z<|Zqm Z Z<|?_
  refine qak (t:=14) Z (fun c7=>?_) (fun c7=>?_)
  ·
   refine Zg Z Z<|Wb Y5<|Zg Z Z<|Wl 0 Y6<|Zg Z Z<|Ws Y4<|Zg Z Z<|qbA Z Z Z<|ZqT Z Z Z<|Zqm Z Z<|?_
   refine qak (t:=20) Z (fun c8=>?_) (fun c8=>?_)
   ·
    refine Wf Y4<|Wf Y4<|Wf Y4<|Wf Y4<|Zh Z Z Z<|Zh Z Z Z<|Zh Z Z Z<|Wf Y4<|ZqT Z Z Z<|Zn<|?_
    refine qaa (MidB.mk (Lr D) Sb Z ((decide_eq_true O).symm))
   refine Zg Z Z<|W0 Y5<|Zg Z Z<|Wl 0 Y6<|Zg Z Z<|qax Z Z Z<|Zg Z Z<|Zqm Z Z<|?_
   refine qak (t:=24) Z (fun c9=>?_) (fun c9=>?_)
   ·
    refine Zg Z Z<|Wb Y5<|Zg Z Z<|Wl 0 Y6<|Zg Z Z<|qcj Z Z Z<|Zg Z Z<|ZqT Z Z Z<|ZqF Z Z Z<|Zn<|?_
    refine qaa (MidB.mk (Lr D) Sb Z (qbq O))
   refine Wf Y4<|Wf Y4<|Wf Y4<|Zg Z Z<|ZqF Z Z Z<|ZqF Z Z Z<|Zn<|?_
   refine qaa (MidB.mk (Lr D) Sb Z ((decide_eq_false O).symm))
  refine Wf Y4<|Wf Y4<|Wf Y4<|Wf Y4<|ZqF Z Z Z<|Zqm Z Z<|Zg Z Z<|W0 Y5<|Zg Z Z<|Wl 0 Y6<|Zg Z Z<|qax Z Z Z<|Zg Z Z<|Zqm Z Z<|?_
  refine qak (t:=24) Z (fun c10=>?_) (fun c10=>?_)
  ·
   refine Zg Z Z<|Wb Y5<|Zg Z Z<|Wl 0 Y6<|Zg Z Z<|qcj Z Z Z<|Zg Z Z<|ZqT Z Z Z<|ZqF Z Z Z<|Zn<|?_
   refine qaa (MidB.mk (Lr D) Sb Z (qbq O))
  refine Wf Y4<|Wf Y4<|Wf Y4<|Zg Z Z<|ZqF Z Z Z<|ZqF Z Z Z<|Zn<|?_
  refine qaa (MidB.mk (Lr D) Sb Z ((decide_eq_false O).symm))
 intro s6 h6
 refine qab Z (fun c11=>?_) (fun c11=>?_)
 ·
  refine Sr<|At Z Z<|Zo<|Zu<|?_
  refine rR [_] L (.t1 Z) Z (h1.t h2|>.t h4|>.t h6) fun _ hS2=>?_
  refine ⟨?_,Z⟩
  simp only [qaA];rw [qaS hn]
  repeat' split
  all_goals (first | rfl | (exfalso;omega) | (exfalso;simp_all;done) | (exfalso;simp_all;omega))
 refine Zk<|Zt<|Zs<|?_
 refine qaR 39 (g.kind=3∧(g.num < 1∨40000 < g.num)) ?_ ?_
 ·
  refine Zr<|W0 Y5<|Wl 0 Y6<|qax Z Z Z<|Zqm Z Z<|?_
  refine qak (t:=33) Z (fun c13=>?_) (fun c13=>?_)
  ·
   refine Zg Z Z<|Wb Y5<|Zg Z Z<|Wl 0 Y6<|Zg Z Z<|qaf (qbH Z Z Z Z Z (w64 O O)) Z<|Zg Z Z<|Jc Z Z Z (qdx D _ _ _ _ _) ?_
   rintro _ _ s14 h14 ⟨rfl,rfl⟩
   refine Zg Z Z<|qcr Z Z<|ZqT Z Z Z<|Zn<|?_
   refine qaa (MidB.mk h14 Sb Z (qbq O))
  refine Wf Y4<|Wf Y4<|Wf Y4<|Wf Y4<|Wf Y4<|ZqF Z Z Z<|Zn<|?_
  refine qaa (MidB.mk (Lr D) Sb Z ((decide_eq_false O).symm))
 intro s12 h12
 refine qab Z (fun c15=>?_) (fun c15=>?_)
 ·
  refine Sr<|At Z Z<|Zo<|Zu<|?_
  refine rR [_] L (.t1 Z) Z (h1.t h2|>.t h4|>.t h6|>.t h12) fun _ hS2=>?_
  refine ⟨?_,Z⟩
  simp only [qaA];rw [qaS hn]
  repeat' split
  all_goals (first | rfl | (exfalso;omega) | (exfalso;simp_all;done) | (exfalso;simp_all;omega))
 refine Zk<|Zt<|Zs<|?_
 refine qaR 51 (g.kind=3∧g.num < (n:Int)) ?_ ?_
 ·
  refine Zr<|W0 Y5<|Wl 0 Y6<|qax Z Z Z<|Zqm Z Z<|?_
  refine qak (t:=43) Z (fun c17=>?_) (fun c17=>?_)
  ·
   refine Zg Z Z<|Wb Y5<|Zg Z Z<|Wl 0 Y6<|Zg Z Z<|Ws Y4<|Zg Z Z<|Wb Y5<|Zg Z Z<|Wl 0 Y6<|Zg Z Z<|qaf (qbH Z Z Z Z Z (w64 O O)) Z<|Zg Z Z<|qbA Z Z Z<|ZqT Z Z Z<|Zn<|?_
   refine qaa (MidB.mk (Lr D) Sb Z (decide_eq_decide.2 O))
  refine Wf Y4<|Wf Y4<|Wf Y4<|Wf Y4<|Wf Y4<|Wf Y4<|Wf Y4<|ZqF Z Z Z<|Zn<|?_
  refine qaa (MidB.mk (Lr D) Sb Z ((decide_eq_false O).symm))
 intro s16 h16
 refine qab Z (fun c18=>?_) (fun c18=>?_)
 ·
  refine Sr<|At Z Z<|Zo<|Zu<|?_
  refine rR [_] L (.t1 Z) Z (h1.t h2|>.t h4|>.t h6|>.t h12|>.t h16) fun _ hS2=>?_
  refine ⟨?_,Z⟩
  simp only [qaA];rw [qaS hn]
  repeat' split
  all_goals (first | rfl | (exfalso;omega) | (exfalso;simp_all;done) | (exfalso;simp_all;omega))
 refine Zk<|Zt<|Sr<|At Z Z<|Zo<|?_
 refine rR [_] L (.t1 Z) Z (h1.t h2|>.t h4|>.t h6|>.t h12|>.t h16) fun _ hS2=>?_
 refine ⟨?_,Z⟩
 simp only [qaA];rw [qaS hn]
 repeat' split
 all_goals (first | rfl | (exfalso;omega) | (exfalso;simp_all;done) | (exfalso;simp_all;omega))
theorem quj(D:Nat)(L:Hl)(s:World)(x:Ex)(A:Option Addr)(n c:Nat)(hn:n=x.args.length)(hc:n≤9223372036854775807)(hl:x.name.length≤9223372036854775807):AC prog D 170 [.agg #[.int .i64 x.kind,.int .i64 x.op,.int .u32 x.num,St x.name,.slice A n c]] L s fun v L' _=>v=.int .i64 (exC x.kind x.op x.num x.name x.args.length)∧L=L':=by
 refine qai (fn:=f170) qaq func170 V Z ntmps170 Z (rs:=[.tmp 2]) Z [(0,_)] Z<|Sr<|qau Z Z ?_
 intro β1 s1 h1
 refine At Z Z<|Zs<|?_
 refine qaR 31 (x.kind < 1∨7 < x.kind∨¬ ¬ ((x.kind=6∧(x.op < 1∨3 < x.op))∨(x.kind=7∧(x.op < 4∨21 < x.op)))) ?_ ?_
 ·
  refine Zr<|W0 Y5<|Wl 0 Y6<|Jc Z Z Z (qdx D _ _ _ _ _) ?_
  rintro _ _ s3 h3 ⟨rfl,rfl⟩
  refine qcr Z Z<|Zqm Z Z<|?_
  refine qaI (t:=10) Z (fun c4=>?_) (fun c4=>?_)
  ·
   refine Wf Y4<|Wf Y4<|Wf Y4<|Wf Y4<|Zh Z Z Z<|Zh Z Z Z<|Zh Z Z Z<|Zh Z Z Z<|Wf Y4<|ZqT Z Z Z<|Zqm Z Z<|Wf Y4<|Wf Y4<|Wf Y4<|Wf Y4<|Zh Z Z Z<|Zh Z Z Z<|Zh Z Z Z<|Zh Z Z Z<|Wf Y4<|ZqT Z Z Z<|Zn<|?_
   refine qaa (MidB.mk h3 Sb Z ((decide_eq_true O).symm))
  refine Zg Z Z<|W0 Y5<|Zg Z Z<|Wl 0 Y6<|Zg Z Z<|qax Z Z Z<|Zg Z Z<|Zqm Z Z<|?_
  refine qak (t:=14) Z (fun c5=>?_) (fun c5=>?_)
  ·
   refine Zg Z Z<|Wb Y5<|Zg Z Z<|Wl 0 Y6<|Zg Z Z<|Jc Z Z Z (qdx D _ _ _ _ _) ?_
   rintro _ _ s6 h6 ⟨rfl,rfl⟩
   refine Zg Z Z<|qcr Z Z<|Zg Z Z<|ZqT Z Z Z<|ZqF Z Z Z<|Zqm Z Z<|?_
   refine qaI (t:=21) Z (fun c7=>?_) (fun c7=>?_)
   ·
    refine Wf Y4<|Wf Y4<|Wf Y4<|Wf Y4<|Zh Z Z Z<|Zh Z Z Z<|Zh Z Z Z<|Zh Z Z Z<|Wf Y4<|ZqT Z Z Z<|Zn<|?_
    refine qaa (MidB.mk (h3.t h6) Sb Z ((decide_eq_true O).symm))
   refine Zg Z Z<|W0 Y5<|Zg Z Z<|Wl 0 Y6<|Zg Z Z<|qax Z Z Z<|Zg Z Z<|Zqm Z Z<|?_
   refine qak (t:=25) Z (fun c8=>?_) (fun c8=>?_)
   ·
    refine Zg Z Z<|Wb Y5<|Zg Z Z<|Wl 0 Y6<|Zg Z Z<|Jc Z Z Z (qdx D _ _ _ _ _) ?_
    rintro _ _ s9 h9 ⟨rfl,rfl⟩
    refine Zg Z Z<|qcr Z Z<|Zg Z Z<|ZqT Z Z Z<|ZqF Z Z Z<|Zn<|?_
    refine qaa (MidB.mk (h3.t h6|>.t h9) Sb Z (qbq O))
   refine Wf Y4<|Wf Y4<|Wf Y4<|Wf Y4<|Zg Z Z<|ZqF Z Z Z<|ZqF Z Z Z<|Zn<|?_
   refine qaa (MidB.mk (h3.t h6) Sb Z ((decide_eq_false O).symm))
  refine Wf Y4<|Wf Y4<|Wf Y4<|Wf Y4<|Zg Z Z<|ZqF Z Z Z<|ZqF Z Z Z<|Zqm Z Z<|Zg Z Z<|W0 Y5<|Zg Z Z<|Wl 0 Y6<|Zg Z Z<|qax Z Z Z<|Zg Z Z<|Zqm Z Z<|?_
  refine qak (t:=25) Z (fun c10=>?_) (fun c10=>?_)
  ·
   refine Zg Z Z<|Wb Y5<|Zg Z Z<|Wl 0 Y6<|Zg Z Z<|Jc Z Z Z (qdx D _ _ _ _ _) ?_
   rintro _ _ s11 h11 ⟨rfl,rfl⟩
   refine Zg Z Z<|qcr Z Z<|Zg Z Z<|ZqT Z Z Z<|ZqF Z Z Z<|Zn<|?_
   refine qaa (MidB.mk (h3.t h11) Sb Z (qbq O))
  refine Wf Y4<|Wf Y4<|Wf Y4<|Wf Y4<|Zg Z Z<|ZqF Z Z Z<|ZqF Z Z Z<|Zn<|?_
  refine qaa (MidB.mk h3 Sb Z ((decide_eq_false O).symm))
 intro s2 h2
 refine qab Z (fun c12=>?_) (fun c12=>?_)
 ·
  have hE:=qvs hn c12
  refine Sr<|At Z Z<|Zo<|Zu<|?_
  refine rR [_] L (.t1 Z) Z (h1.t h2) fun _ hS2=>?_
  exact ⟨by rw [hE];rfl,rfl⟩
 have g5:=c12
 refine Zk<|Zt<|Sr<|W0 Y5<|Wl 0 Y6<|Jc Z Z Z (qdx D _ _ _ _ _) ?_
 rintro _ _ s13 h13 ⟨rfl,rfl⟩
 refine At Z Z<|Zs<|?_
 refine qaR 41 ((2≤x.kind∧x.kind≤4)∧qaU x.name=false) ?_ ?_
 ·
  refine Zr<|Zqm Z Z<|Zqm Z Z<|?_
  refine qak (t:=36) Z (fun c15=>?_) (fun c15=>?_)
  ·
   refine Zg Z Z<|Wb Y5<|Zg Z Z<|Wl 0 Y6<|Zg Z Z<|Jc Z Z Z (qdA D _ _ x.name hl) ?_
   rintro _ _ s16 h16 ⟨rfl,rfl⟩
   refine Zg Z Z<|qcr Z Z<|ZqT Z Z Z<|Zn<|?_
   refine qaa (MidB.mk h16 Sb Z ((qkb As)))
  refine Wf Y4<|Wf Y4<|Wf Y4<|Wf Y4<|ZqF Z Z Z<|Zn<|?_
  refine qaa (MidB.mk (Lr D) Sb Z ((decide_eq_false (fun h=>absurd h.1 As)).symm))
 intro s14 h14
 refine qab Z (fun c17=>?_) (fun c17=>?_)
 ·
  have hE:=qus hn g5 c17
  refine Sr<|At Z Z<|Zo<|Zu<|?_
  refine rR [_] L (.t1 Z) Z (h1.t h2|>.t h13|>.t h14) fun _ hS2=>?_
  exact ⟨by rw [hE];rfl,rfl⟩
 have g7:=c17
 refine Zk<|Zt<|Sr<|At Z Z<|Sr<|At Z Z<|?_
 refine qeC (γ:=Unit) (fun _=>[(4,.int .i64 (qbF x.kind:Int)),(5,.int .i64 (qcR x.kind:Int))]) [_] Z (fun g=>L) (fun g tw=>True) (fun _ _ _ h hl=>h) ?_ ?_
 ·
  refine qaR 49 (x.kind=3∨x.kind=6) ?_ ?_
  ·
   refine Zr<|W0 Y5<|Wl 0 Y6<|qax Z Z Z<|Zqm Z Z<|?_
   refine qak (t:=45) Z (fun c20=>?_) (fun c20=>?_)
   ·
    refine Wf Y4<|Wf Y4<|Wf Y4<|ZqT Z Z Z<|Zn<|?_
    refine qaa (MidB.mk (Lr D) Sb Z ((decide_eq_true O).symm))
   refine Zg Z Z<|W0 Y5<|Zg Z Z<|Wl 0 Y6<|Zg Z Z<|qax Z Z Z<|ZqF Z Z Z<|Zn<|?_
   refine qaa (MidB.mk (Lr D) Sb Z (decide_eq_decide.2 O))
  intro s19 h19
  refine qab Z (fun c21=>?_) (fun c21=>?_)
  ·
   refine Sr<|At Z Z<|Zr<|Zqa Z Z<|Zn<|?_
   refine qaa (MidG.mk () [] h19 (.cons (by unfold qbF;first | (rw [if_pos O];rfl) | (rw [if_neg O,if_pos O];rfl) | (rw [if_neg O,if_neg O,if_pos O];rfl) | (rw [if_neg O,if_neg O,if_neg O];rfl) | (rw [if_neg O,if_neg O];rfl)) (.cons (by unfold qcR;first | (rw [if_pos O];rfl) | (rw [if_neg O,if_pos O];rfl) | (rw [if_neg O,if_neg O,if_pos O];rfl) | (rw [if_neg O,if_neg O,if_neg O];rfl) | (rw [if_neg O,if_neg O];rfl)) (.nil _))) So Pr Tt)
  refine Sr<|W0 Y5<|Wl 0 Y6<|qax Z Z Z<|Nt<|?_
  refine qab Z (fun c22=>?_) (fun c22=>?_)
  ·
   refine Zr<|Zqa Z Z<|Zn<|?_
   refine qaa (MidG.mk () [] h19 (.cons (by unfold qbF;first | (rw [if_pos O];rfl) | (rw [if_neg O,if_pos O];rfl) | (rw [if_neg O,if_neg O,if_pos O];rfl) | (rw [if_neg O,if_neg O,if_neg O];rfl) | (rw [if_neg O,if_neg O];rfl)) (.cons (by unfold qcR;first | (rw [if_pos O];rfl) | (rw [if_neg O,if_pos O];rfl) | (rw [if_neg O,if_neg O,if_pos O];rfl) | (rw [if_neg O,if_neg O,if_neg O];rfl) | (rw [if_neg O,if_neg O];rfl)) (.nil _))) So Pr Tt)
  refine Sr<|W0 Y5<|Wl 0 Y6<|qax Z Z Z<|Nt<|?_
  refine qab Z (fun c23=>?_) (fun c23=>?_)
  ·
   refine Sr<|At Z Z<|Zr<|Zqa Z Z<|Zn<|?_
   refine qaa (MidG.mk () [] h19 (.cons (by unfold qbF;first | (rw [if_pos O];rfl) | (rw [if_neg O,if_pos O];rfl) | (rw [if_neg O,if_neg O,if_pos O];rfl) | (rw [if_neg O,if_neg O,if_neg O];rfl) | (rw [if_neg O,if_neg O];rfl)) (.cons (by unfold qcR;first | (rw [if_pos O];rfl) | (rw [if_neg O,if_pos O];rfl) | (rw [if_neg O,if_neg O,if_pos O];rfl) | (rw [if_neg O,if_neg O,if_neg O];rfl) | (rw [if_neg O,if_neg O];rfl)) (.nil _))) So Pr Tt)
  refine Zk ?_
  refine qaa (MidG.mk () [] h19 (.cons (by unfold qbF;first | (rw [if_pos O];rfl) | (rw [if_neg O,if_pos O];rfl) | (rw [if_neg O,if_neg O,if_pos O];rfl) | (rw [if_neg O,if_neg O,if_neg O];rfl) | (rw [if_neg O,if_neg O];rfl)) (.cons (by unfold qcR;first | (rw [if_pos O];rfl) | (rw [if_neg O,if_pos O];rfl) | (rw [if_neg O,if_neg O,if_pos O];rfl) | (rw [if_neg O,if_neg O,if_neg O];rfl) | (rw [if_neg O,if_neg O];rfl)) (.nil _))) So Pr Tt)
 intro g s18 h18 I18
 simp only [cQ9,nQ9]
 refine Zs ?_
 refine qaR 91 ((¬ (2≤x.kind∧x.kind≤4)∧x.name≠[])∨(x.kind≠1∧x.num≠0)∨(¬ (x.kind=6∨x.kind=7)∧x.op≠0)∨n < qbF x.kind∨qcR x.kind < n) ?_ ?_
 ·
  refine Zr<|Zqm Z Z<|qcr Z Z<|Zqm Z Z<|?_
  refine qaI (t:=58) Z (fun c25=>?_) (fun c25=>?_)
  ·
   refine Zg Z Z<|Wb Y5<|Zg Z Z<|Wl 0 Y6<|Zg Z Z<|qwq Z Z Z<|ZqT Z Z Z<|Zqm Z Z<|?_
   refine qaI (t:=63) Z (fun c26=>?_) (fun c26=>?_)
   ·
    refine Wf Y4<|Wf Y4<|Wf Y4<|Wf Y4<|Zh Z Z Z<|Zh Z Z Z<|Zh Z Z Z<|Wf Y4<|ZqT Z Z Z<|Zqm Z Z<|Wf Y4<|Wf Y4<|Wf Y4<|Wf Y4<|Zh Z Z Z<|Zh Z Z Z<|Zh Z Z Z<|Wf Y4<|ZqT Z Z Z<|Zqm Z Z<|Wf Y4<|Wf Y4<|Wf Y4<|Wf Y4<|Wf Y4<|Wf Y4<|Wf Y4<|ZqT Z Z Z<|Zn<|?_
    refine qaa (MidB.mk (Lr D) Sb Z ((decide_eq_true Og).symm))
   refine Zg Z Z<|W0 Y5<|Zg Z Z<|Wl 0 Y6<|Zg Z Z<|qcj Z Z Z<|Zg Z Z<|Zqm Z Z<|?_
   refine qaI (t:=67) Z (fun c27=>?_) (fun c27=>?_)
   ·
    refine Zg Z Z<|Wb Y5<|Zg Z Z<|Wl 0 Y6<|Zg Z Z<|qcj Z Z Z<|Zg Z Z<|ZqT Z Z Z<|ZqF Z Z Z<|Zqm Z Z<|?_
    refine qaI (t:=73) Z (fun c28=>?_) (fun c28=>?_)
    ·
     refine Wf Y4<|Wf Y4<|Wf Y4<|Wf Y4<|Zh Z Z Z<|Zh Z Z Z<|Zh Z Z Z<|Wf Y4<|ZqT Z Z Z<|Zqm Z Z<|Wf Y4<|Wf Y4<|Wf Y4<|Wf Y4<|Wf Y4<|Wf Y4<|Wf Y4<|ZqT Z Z Z<|Zn<|?_
     refine qaa (MidB.mk (Lr D) Sb Z ((decide_eq_true Og).symm))
    refine Zg Z Z<|W0 Y5<|Zg Z Z<|Wl 0 Y6<|Zg Z Z<|qba Z Z Z<|Zg Z Z<|Zqm Z Z<|?_
    refine qak (t:=77) Z (fun c29=>?_) (fun c29=>?_)
    ·
     refine Zg Z Z<|Wb Y5<|Zg Z Z<|Wl 0 Y6<|Zg Z Z<|qcj Z Z Z<|Zg Z Z<|ZqT Z Z Z<|ZqF Z Z Z<|Zqm Z Z<|?_
     refine qaI (t:=83) Z (fun c30=>?_) (fun c30=>?_)
     ·
      refine Wf Y4<|Wf Y4<|Wf Y4<|Wf Y4<|Wf Y4<|Wf Y4<|Wf Y4<|ZqT Z Z Z<|Zn<|?_
      refine qaa (MidB.mk (Lr D) Sb Z ((decide_eq_true Og).symm))
     refine Zg Z Z<|Wb Y5<|Zg Z Z<|Wl 0 Y6<|Zg Z Z<|Ws Y4<|Zg Z Z<|Zqm Z Z<|Zg Z Z<|Zqm Z Z<|Zg Z Z<|Jc Z Z Z (qdx D _ _ _ _ _) ?_
     rintro _ _ s31 h31 ⟨rfl,rfl⟩
     refine Zg Z Z<|qcr Z Z<|ZqF Z Z Z<|Zn<|?_
     refine qaa (MidB.mk h31 Sb Z (qbq Og))
    refine Wf Y4<|Wf Y4<|Wf Y4<|Zg Z Z<|ZqF Z Z Z<|ZqF Z Z Z<|Zqm Z Z<|Zg Z Z<|Wb Y5<|Zg Z Z<|Wl 0 Y6<|Zg Z Z<|Ws Y4<|Zg Z Z<|Zqm Z Z<|Zg Z Z<|Zqm Z Z<|Zg Z Z<|Jc Z Z Z (qdx D _ _ _ _ _) ?_
    rintro _ _ s32 h32 ⟨rfl,rfl⟩
    refine Zg Z Z<|qcr Z Z<|ZqF Z Z Z<|Zn<|?_
    refine qaa (MidB.mk h32 Sb Z (qbq Og))
   refine Wf Y4<|Wf Y4<|Wf Y4<|Zg Z Z<|ZqF Z Z Z<|ZqF Z Z Z<|Zqm Z Z<|Zg Z Z<|W0 Y5<|Zg Z Z<|Wl 0 Y6<|Zg Z Z<|qba Z Z Z<|Zg Z Z<|Zqm Z Z<|?_
   refine qak (t:=77) Z (fun c33=>?_) (fun c33=>?_)
   ·
    refine Zg Z Z<|Wb Y5<|Zg Z Z<|Wl 0 Y6<|Zg Z Z<|qcj Z Z Z<|Zg Z Z<|ZqT Z Z Z<|ZqF Z Z Z<|Zqm Z Z<|?_
    refine qaI (t:=83) Z (fun c34=>?_) (fun c34=>?_)
    ·
     refine Wf Y4<|Wf Y4<|Wf Y4<|Wf Y4<|Wf Y4<|Wf Y4<|Wf Y4<|ZqT Z Z Z<|Zn<|?_
     refine qaa (MidB.mk (Lr D) Sb Z ((decide_eq_true Og).symm))
    refine Zg Z Z<|Wb Y5<|Zg Z Z<|Wl 0 Y6<|Zg Z Z<|Ws Y4<|Zg Z Z<|Zqm Z Z<|Zg Z Z<|Zqm Z Z<|Zg Z Z<|Jc Z Z Z (qdx D _ _ _ _ _) ?_
    rintro _ _ s35 h35 ⟨rfl,rfl⟩
    refine Zg Z Z<|qcr Z Z<|ZqF Z Z Z<|Zn<|?_
    refine qaa (MidB.mk h35 Sb Z (qbq Og))
   refine Wf Y4<|Wf Y4<|Wf Y4<|Zg Z Z<|ZqF Z Z Z<|ZqF Z Z Z<|Zqm Z Z<|Zg Z Z<|Wb Y5<|Zg Z Z<|Wl 0 Y6<|Zg Z Z<|Ws Y4<|Zg Z Z<|Zqm Z Z<|Zg Z Z<|Zqm Z Z<|Zg Z Z<|Jc Z Z Z (qdx D _ _ _ _ _) ?_
   rintro _ _ s36 h36 ⟨rfl,rfl⟩
   refine Zg Z Z<|qcr Z Z<|ZqF Z Z Z<|Zn<|?_
   refine qaa (MidB.mk h36 Sb Z (qbq Og))
  refine Wf Y4<|Wf Y4<|Wf Y4<|ZqF Z Z Z<|Zqm Z Z<|Zg Z Z<|W0 Y5<|Zg Z Z<|Wl 0 Y6<|Zg Z Z<|qcj Z Z Z<|Zg Z Z<|Zqm Z Z ?_
  refine qaI (t:=67) Z (fun c37=>?_) (fun c37=>?_)
  ·
   refine Zg Z Z<|Wb Y5<|Zg Z Z<|Wl 0 Y6<|Zg Z Z<|qcj Z Z Z<|Zg Z Z<|ZqT Z Z Z<|ZqF Z Z Z<|Zqm Z Z<|?_
   refine qaI (t:=73) Z (fun c38=>?_) (fun c38=>?_)
   ·
    refine Wf Y4<|Wf Y4<|Wf Y4<|Wf Y4<|Zh Z Z Z<|Zh Z Z Z<|Zh Z Z Z<|Wf Y4<|ZqT Z Z Z<|Zqm Z Z<|Wf Y4<|Wf Y4<|Wf Y4<|Wf Y4<|Wf Y4<|Wf Y4<|Wf Y4<|ZqT Z Z Z<|Zn<|?_
    refine qaa (MidB.mk (Lr D) Sb Z ((decide_eq_true Og).symm))
   refine Zg Z Z<|W0 Y5<|Zg Z Z<|Wl 0 Y6<|Zg Z Z<|qba Z Z Z<|Zg Z Z<|Zqm Z Z<|?_
   refine qak (t:=77) Z (fun c39=>?_) (fun c39=>?_)
   ·
    refine Zg Z Z<|Wb Y5<|Zg Z Z<|Wl 0 Y6<|Zg Z Z<|qcj Z Z Z<|Zg Z Z<|ZqT Z Z Z<|ZqF Z Z Z<|Zqm Z Z<|?_
    refine qaI (t:=83) Z (fun c40=>?_) (fun c40=>?_)
    ·
     refine Wf Y4<|Wf Y4<|Wf Y4<|Wf Y4<|Wf Y4<|Wf Y4<|Wf Y4<|ZqT Z Z Z<|Zn<|?_
     refine qaa (MidB.mk (Lr D) Sb Z ((decide_eq_true Og).symm))
    refine Zg Z Z<|Wb Y5<|Zg Z Z<|Wl 0 Y6<|Zg Z Z<|Ws Y4<|Zg Z Z<|Zqm Z Z<|Zg Z Z<|Zqm Z Z<|Zg Z Z<|Jc Z Z Z (qdx D _ _ _ _ _) ?_
    rintro _ _ s41 h41 ⟨rfl,rfl⟩
    refine Zg Z Z<|qcr Z Z<|ZqF Z Z Z<|Zn<|?_
    refine qaa (MidB.mk h41 Sb Z (qbq Og))
   refine Wf Y4<|Wf Y4<|Wf Y4<|Zg Z Z<|ZqF Z Z Z<|ZqF Z Z Z<|Zqm Z Z<|Zg Z Z<|Wb Y5<|Zg Z Z<|Wl 0 Y6<|Zg Z Z<|Ws Y4<|Zg Z Z<|Zqm Z Z<|Zg Z Z<|Zqm Z Z<|Zg Z Z<|Jc Z Z Z (qdx D _ _ _ _ _) ?_
   rintro _ _ s42 h42 ⟨rfl,rfl⟩
   refine Zg Z Z<|qcr Z Z<|ZqF Z Z Z<|Zn<|?_
   refine qaa (MidB.mk h42 Sb Z (qbq Og))
  refine Wf Y4<|Wf Y4<|Wf Y4<|Zg Z Z<|ZqF Z Z Z<|ZqF Z Z Z<|Zqm Z Z<|Zg Z Z<|W0 Y5<|Zg Z Z<|Wl 0 Y6<|Zg Z Z<|qba Z Z Z<|Zg Z Z<|Zqm Z Z<|?_
  refine qak (t:=77) Z (fun c43=>?_) (fun c43=>?_)
  ·
   refine Zg Z Z<|Wb Y5<|Zg Z Z<|Wl 0 Y6<|Zg Z Z<|qcj Z Z Z<|Zg Z Z<|ZqT Z Z Z<|ZqF Z Z Z<|Zqm Z Z<|?_
   refine qaI (t:=83) Z (fun c44=>?_) (fun c44=>?_)
   ·
    refine Wf Y4<|Wf Y4<|Wf Y4<|Wf Y4<|Wf Y4<|Wf Y4<|Wf Y4<|ZqT Z Z Z<|Zn<|?_
    refine qaa (MidB.mk (Lr D) Sb Z ((decide_eq_true Og).symm))
   refine Zg Z Z<|Wb Y5<|Zg Z Z<|Wl 0 Y6<|Zg Z Z<|Ws Y4<|Zg Z Z<|Zqm Z Z<|Zg Z Z<|Zqm Z Z<|Zg Z Z<|Jc Z Z Z (qdx D _ _ _ _ _) ?_
   rintro _ _ s45 h45 ⟨rfl,rfl⟩
   refine Zg Z Z<|qcr Z Z<|ZqF Z Z Z<|Zn<|?_
   refine qaa (MidB.mk h45 Sb Z (qbq Og))
  refine Wf Y4<|Wf Y4<|Wf Y4<|Zg Z Z<|ZqF Z Z Z<|ZqF Z Z Z<|Zqm Z Z<|Zg Z Z<|Wb Y5<|Zg Z Z<|Wl 0 Y6<|Zg Z Z<|Ws Y4<|Zg Z Z<|Zqm Z Z<|Zg Z Z<|Zqm Z Z<|Zg Z Z<|Jc Z Z Z (qdx D _ _ _ _ _) ?_
  rintro _ _ s46 h46 ⟨rfl,rfl⟩
  refine Zg Z Z<|qcr Z Z<|ZqF Z Z Z<|Zn<|?_
  refine qaa (MidB.mk h46 Sb Z (qbq Og))
 intro s24 h24
 refine qab Z (fun c47=>?_) (fun c47=>?_)
 ·
  have hE:=qvJ hn g5 g7 c47
  refine Sr<|At Z Z<|Zo<|Zu<|?_
  refine rR [_] L (.t1 Z) Z (h1.t h2|>.t h13|>.t h14|>.t h18|>.t h24) fun _ hS2=>?_
  exact ⟨by rw [hE];rfl,rfl⟩
 have hE:=qvA hn g5 g7 c47
 refine Zk<|Zt<|Sr<|At Z Z<|Zo<|?_
 refine rR [_] L (.t1 Z) Z (h1.t h2|>.t h13|>.t h14|>.t h18|>.t h24) fun _ hS2=>?_
 exact ⟨by rw [hE];rfl,rfl⟩
theorem qsi(D:Nat)(L:Hl)(s:World)(x:Stm)(A1 A2 A3:Option Addr)(n1 q1 n2 q2 n3 q3:Nat)(hn1:n1=x.exprs.length)(hn2:n2=x.body.length)(hn3:n3=x.els.length)(hc1:n1≤9223372036854775807)(hl:x.name.length≤9223372036854775807):AC prog D 133 [.agg #[.int .i64 x.kind,St x.name,.slice A1 n1 q1,.slice A2 n2 q2,.slice A3 n3 q3]] L s fun v L' _=>v=.int .i64 (stC x.kind x.name x.exprs.length x.body.length x.els.length)∧L=L':=by
 refine qai (fn:=f133) qaq func133 V Z ntmps133 Z (rs:=[.tmp 2]) Z [(0,_)] Z<|Sr<|qau Z Z ?_
 intro β1 s1 h1
 refine At Z Z<|Zs<|Sr<|W0 Y5<|Wl 0 Y6<|Jc Z Z Z (qdx D _ _ _ _ _) ?_
 rintro _ _ s2 h2 ⟨rfl,rfl⟩
 refine qcr Z Z<|Nt<|?_
 refine qaK Z (fun c3=>?_) (fun c3=>?_)
 ·
  have hE:=quK (a:=x.exprs.length) (b:=x.body.length) (c:=x.els.length) (show x.kind < 1∨10 < x.kind by omega)
  refine Sr<|At Z Z<|Zo<|Zu<|?_
  refine rR [_] L (.t1 Z) Z (h1.t h2) fun _ hS2=>?_
  exact ⟨by rw [hE];rfl,rfl⟩
 have g5:¬ (x.kind < 1∨10 < x.kind):=by omega
 refine Zk<|Zt<|?_
 refine qaR 3 (x.kind=1∨x.kind=2∨x.kind=5) ?_ ?_
 ·
  refine Zr<|W0 Y5<|Wl 0 Y6<|qax Z Z Z<|Zqm Z Z<|?_
  refine qak (t:=13) Z (fun c5=>?_) (fun c5=>?_)
  ·
   refine Wf Y4<|Wf Y4<|Wf Y4<|ZqT Z Z Z<|Zqm Z Z<|Wf Y4<|Wf Y4<|Wf Y4<|ZqT Z Z Z<|Zqa Z Z<|Zn<|?_
   refine qaa (MidB.mk (Lr D) Sb Z ((decide_eq_true O).symm))
  refine Zg Z Z<|W0 Y5<|Zg Z Z<|Wl 0 Y6<|Zg Z Z<|qax Z Z Z<|ZqF Z Z Z<|Zqm Z Z<|?_
  refine qak (t:=18) Z (fun c6=>?_) (fun c6=>?_)
  ·
   refine Wf Y4<|Wf Y4<|Wf Y4<|ZqT Z Z Z<|Zqa Z Z<|Zn<|?_
   refine qaa (MidB.mk (Lr D) Sb Z ((decide_eq_true O).symm))
  refine Zg Z Z<|W0 Y5<|Zg Z Z<|Wl 0 Y6<|Zg Z Z<|qax Z Z Z<|ZqF Z Z Z<|Zqa Z Z<|Zn<|?_
  refine qaa (MidB.mk (Lr D) Sb Z (decide_eq_decide.2 O))
 intro s4 h4
 refine Zs ?_
 refine qaR 29 (qc8 x.kind=true∧qaU x.name=false) ?_ ?_
 ·
  refine Zr<|Zqm Z Z<|Zqm Z Z<|?_
  refine qak (t:=24) Z (fun c8=>?_) (fun c8=>?_)
  ·
   refine Zg Z Z<|Wb Y5<|Zg Z Z<|Wl 0 Y6<|Zg Z Z<|Jc Z Z Z (qdA D _ _ x.name hl) ?_
   rintro _ _ s9 h9 ⟨rfl,rfl⟩
   refine Zg Z Z<|qcr Z Z<|ZqT Z Z Z<|Zn<|?_
   refine qaa (MidB.mk h9 Sb Z ((qkb (namedS_iff.2 As))))
  refine Wf Y4<|Wf Y4<|Wf Y4<|Wf Y4<|ZqF Z Z Z<|Zn<|?_
  refine qaa (MidB.mk (Lr D) Sb Z ((decide_eq_false (fun h=>absurd (namedS_iff.1 h.1) As)).symm))
 intro s7 h7
 refine qab Z (fun c10=>?_) (fun c10=>?_)
 ·
  have hE:=qwg (a:=x.exprs.length) (b:=x.body.length) (c:=x.els.length) g5 c10
  refine Sr<|At Z Z<|Zo<|Zu<|?_
  refine rR [_] L (.t1 Z) Z (h1.t h2|>.t h4|>.t h7) fun _ hS2=>?_
  exact ⟨by rw [hE];rfl,rfl⟩
 have g7:=c10
 refine Zk<|Zt<|Sr<|At Z Z<|Sr<|At Z Z<|?_
 refine qeC (γ:=Unit) (fun _=>[(4,.int .i64 (qcd x.kind:Int)),(5,.int .i64 (qdB x.kind:Int))]) [_] Z (fun g=>L) (fun g tw=>True) (fun _ _ _ h hl=>h) ?_ ?_
 ·
  refine Sr<|W0 Y5<|Wl 0 Y6<|qax Z Z Z<|Nt<|?_
  refine qab Z (fun c12=>?_) (fun c12=>?_)
  ·
   refine Sr<|At Z Z<|Zr<|Zqa Z Z<|Zn<|?_
   refine qaa (MidG.mk () [] (Lr D) (.cons (by unfold qcd;first | (rw [if_pos O];rfl) | (rw [if_neg O,if_pos O];rfl) | (rw [if_neg O,if_neg O,if_pos O];rfl) | (rw [if_neg O,if_neg O,if_neg O];rfl) | (rw [if_neg O,if_neg O];rfl)) (.cons (by unfold qdB;first | (rw [if_pos O];rfl) | (rw [if_neg O,if_pos O];rfl) | (rw [if_neg O,if_neg O,if_pos O];rfl) | (rw [if_neg O,if_neg O,if_neg O];rfl) | (rw [if_neg O,if_neg O];rfl)) (.nil _))) So Pr Tt)
  refine Sr<|W0 Y5<|Wl 0 Y6<|qax Z Z Z<|Nt<|?_
  refine qab Z (fun c13=>?_) (fun c13=>?_)
  ·
   refine Sr<|At Z Z<|Zr<|Zqa Z Z<|Zn<|?_
   refine qaa (MidG.mk () [] (Lr D) (.cons (by unfold qcd;first | (rw [if_pos O];rfl) | (rw [if_neg O,if_pos O];rfl) | (rw [if_neg O,if_neg O,if_pos O];rfl) | (rw [if_neg O,if_neg O,if_neg O];rfl) | (rw [if_neg O,if_neg O];rfl)) (.cons (by unfold qdB;first | (rw [if_pos O];rfl) | (rw [if_neg O,if_pos O];rfl) | (rw [if_neg O,if_neg O,if_pos O];rfl) | (rw [if_neg O,if_neg O,if_neg O];rfl) | (rw [if_neg O,if_neg O];rfl)) (.nil _))) So Pr Tt)
  refine Sr<|W0 Y5<|Wl 0 Y6<|qbA Z Z Z<|Nt<|?_
  refine qab Z (fun c14=>?_) (fun c14=>?_)
  ·
   refine Sr<|At Z Z<|Zr<|Zqa Z Z<|Zn<|?_
   refine qaa (MidG.mk () [] (Lr D) (.cons (by unfold qcd;first | (rw [if_pos O];rfl) | (rw [if_neg O,if_pos O];rfl) | (rw [if_neg O,if_neg O,if_pos O];rfl) | (rw [if_neg O,if_neg O,if_neg O];rfl) | (rw [if_neg O,if_neg O];rfl)) (.cons (by unfold qdB;first | (rw [if_pos O];rfl) | (rw [if_neg O,if_pos O];rfl) | (rw [if_neg O,if_neg O,if_pos O];rfl) | (rw [if_neg O,if_neg O,if_neg O];rfl) | (rw [if_neg O,if_neg O];rfl)) (.nil _))) So Pr Tt)
  refine Zk ?_
  refine qaa (MidG.mk () [] (Lr D) (.cons (by unfold qcd;first | (rw [if_pos O];rfl) | (rw [if_neg O,if_pos O];rfl) | (rw [if_neg O,if_neg O,if_pos O];rfl) | (rw [if_neg O,if_neg O,if_neg O];rfl) | (rw [if_neg O,if_neg O];rfl)) (.cons (by unfold qdB;first | (rw [if_pos O];rfl) | (rw [if_neg O,if_pos O];rfl) | (rw [if_neg O,if_neg O,if_pos O];rfl) | (rw [if_neg O,if_neg O,if_neg O];rfl) | (rw [if_neg O,if_neg O];rfl)) (.nil _))) So Pr Tt)
 intro g s11 h11 I11
 simp only [cQ9,nQ9]
 refine Zs ?_
 refine qaR 81 ((¬ (x.kind=1∨x.kind=2∨x.kind=5)∧x.name≠[])∨(¬ (x.kind=3∨x.kind=4)∧0 < n2)∨(¬ x.kind=3∧0 < n3)∨n1 < qcd x.kind∨qdB x.kind < n1) ?_ ?_
 ·
  refine Zr<|Zqm Z Z<|qcr Z Z<|Zqm Z Z<|?_
  refine qaI (t:=41) Z (fun c16=>?_) (fun c16=>?_)
  ·
   refine Zg Z Z<|Wb Y5<|Zg Z Z<|Wl 0 Y6<|Zg Z Z<|qwq Z Z Z<|ZqT Z Z Z<|Zqm Z Z<|?_
   refine qaI (t:=46) Z (fun c17=>?_) (fun c17=>?_)
   ·
    refine Wf Y4<|Wf Y4<|Wf Y4<|Wf Y4<|Wf Y4<|Wf Y4<|Wf Y4<|ZqT Z Z Z<|Zqm Z Z<|Wf Y4<|Wf Y4<|Wf Y4<|Wf Y4<|Wf Y4<|Zh Z Z Z<|Zh Z Z Z<|Zh Z Z Z<|Wf Y4<|Wf Y4<|Zh Z Z Z<|Zh Z Z Z<|Zh Z Z Z<|Wf Y4<|ZqT Z Z Z<|Zqm Z Z<|Wf Y4<|Wf Y4<|Wf Y4<|Wf Y4<|Wf Y4<|Zh Z Z Z<|Zh Z Z Z<|Zh Z Z Z<|Wf Y4<|ZqT Z Z Z<|Zn<|?_
    refine qaa (MidB.mk (Lr D) Sb Z ((decide_eq_true Og).symm))
   refine Zg Z Z<|Wb Y5<|Zg Z Z<|Wl 0 Y6<|Zg Z Z<|Ws Y4<|Zg Z Z<|Zqm Z Z<|Zg Z Z<|Zqm Z Z<|Zg Z Z<|Jc Z Z Z (qdx D _ _ _ _ _) ?_
   rintro _ _ s18 h18 ⟨rfl,rfl⟩
   refine Zg Z Z<|qcr Z Z<|ZqF Z Z Z<|Zqm Z Z<|?_
   refine qaI (t:=55) Z (fun c19=>?_) (fun c19=>?_)
   ·
    refine Wf Y4<|Wf Y4<|Wf Y4<|Wf Y4<|Wf Y4<|Zh Z Z Z<|Zh Z Z Z<|Zh Z Z Z<|Wf Y4<|Wf Y4<|Zh Z Z Z<|Zh Z Z Z<|Zh Z Z Z<|Wf Y4<|ZqT Z Z Z<|Zqm Z Z<|Wf Y4<|Wf Y4<|Wf Y4<|Wf Y4<|Wf Y4<|Zh Z Z Z<|Zh Z Z Z<|Zh Z Z Z<|Wf Y4<|ZqT Z Z Z<|Zn<|?_
    refine qaa (MidB.mk h18 Sb Z ((decide_eq_true Og).symm))
   refine Zg Z Z<|Wb Y5<|Zg Z Z<|Wl 0 Y6<|Zg Z Z<|Ws Y4<|Zg Z Z<|qbA Z Z Z<|Zg Z Z<|Zqm Z Z<|?_
   refine qak (t:=60) Z (fun c20=>?_) (fun c20=>?_)
   ·
    refine Zg Z Z<|W0 Y5<|Zg Z Z<|Wl 0 Y6<|Zg Z Z<|qcj Z Z Z<|Zg Z Z<|ZqT Z Z Z<|Zg Z Z<|Zqm Z Z<|?_
    refine qaI (t:=65) Z (fun c21=>?_) (fun c21=>?_)
    ·
     refine Zg Z Z<|W0 Y5<|Zg Z Z<|Wl 0 Y6<|Zg Z Z<|qcj Z Z Z<|Zg Z Z<|ZqT Z Z Z<|ZqF Z Z Z<|Zqm Z Z<|?_
     refine qaI (t:=71) Z (fun c22=>?_) (fun c22=>?_)
     ·
      refine Wf Y4<|Wf Y4<|Wf Y4<|Wf Y4<|Wf Y4<|Zh Z Z Z<|Zh Z Z Z<|Zh Z Z Z<|Wf Y4<|ZqT Z Z Z<|Zn<|?_
      refine qaa (MidB.mk h18 Sb Z ((decide_eq_true Og).symm))
     refine Zg Z Z<|Wb Y5<|Zg Z Z<|Wl 0 Y6<|Zg Z Z<|Ws Y4<|Zg Z Z<|qbA Z Z Z<|Zg Z Z<|Zqm Z Z<|?_
     refine qak (t:=76) Z (fun c23=>?_) (fun c23=>?_)
     ·
      refine Zg Z Z<|W0 Y5<|Zg Z Z<|Wl 0 Y6<|Zg Z Z<|qcj Z Z Z<|Zg Z Z<|ZqT Z Z Z<|ZqF Z Z Z<|Zn<|?_
      refine qaa (MidB.mk h18 Sb Z (qbq Og))
     refine Wf Y4<|Wf Y4<|Wf Y4<|Zg Z Z<|ZqF Z Z Z<|ZqF Z Z Z<|Zn<|?_
     refine qaa (MidB.mk h18 Sb Z ((decide_eq_false Og).symm))
    refine Wf Y4<|Wf Y4<|Wf Y4<|Zg Z Z<|ZqF Z Z Z<|ZqF Z Z Z<|Zqm Z Z<|Zg Z Z<|Wb Y5<|Zg Z Z<|Wl 0 Y6<|Zg Z Z<|Ws Y4<|Zg Z Z<|qbA Z Z Z<|Zg Z Z<|Zqm Z Z<|?_
    refine qak (t:=76) Z (fun c24=>?_) (fun c24=>?_)
    ·
     refine Zg Z Z<|W0 Y5<|Zg Z Z<|Wl 0 Y6<|Zg Z Z<|qcj Z Z Z<|Zg Z Z<|ZqT Z Z Z<|ZqF Z Z Z<|Zn<|?_
     refine qaa (MidB.mk h18 Sb Z (qbq Og))
    refine Wf Y4<|Wf Y4<|Wf Y4<|Zg Z Z<|ZqF Z Z Z<|ZqF Z Z Z<|Zn<|?_
    refine qaa (MidB.mk h18 Sb Z ((decide_eq_false Og).symm))
   refine Wf Y4<|Wf Y4<|Wf Y4<|Zg Z Z<|ZqF Z Z Z<|Zg Z Z<|Zqm Z Z<|Wf Y4<|Wf Y4<|Wf Y4<|Zg Z Z<|ZqF Z Z Z<|ZqF Z Z Z<|Zqm Z Z<|Zg Z Z<|Wb Y5<|Zg Z Z<|Wl 0 Y6<|Zg Z Z<|Ws Y4<|Zg Z Z<|qbA Z Z Z<|Zg Z Z<|Zqm Z Z<|?_
   refine qak (t:=76) Z (fun c25=>?_) (fun c25=>?_)
   ·
    refine Zg Z Z<|W0 Y5<|Zg Z Z<|Wl 0 Y6<|Zg Z Z<|qcj Z Z Z<|Zg Z Z<|ZqT Z Z Z<|ZqF Z Z Z<|Zn<|?_
    refine qaa (MidB.mk h18 Sb Z (qbq Og))
   refine Wf Y4<|Wf Y4<|Wf Y4<|Zg Z Z<|ZqF Z Z Z<|ZqF Z Z Z<|Zn<|?_
   refine qaa (MidB.mk h18 Sb Z ((decide_eq_false Og).symm))
  refine Wf Y4<|Wf Y4<|Wf Y4<|ZqF Z Z Z<|Zqm Z Z<|Zg Z Z<|Wb Y5<|Zg Z Z<|Wl 0 Y6<|Zg Z Z<|Ws Y4<|Zg Z Z<|Zqm Z Z<|Zg Z Z<|Zqm Z Z<|Zg Z Z<|Jc Z Z Z (qdx D _ _ _ _ _) ?_
  rintro _ _ s26 h26 ⟨rfl,rfl⟩
  refine Zg Z Z<|qcr Z Z<|ZqF Z Z Z<|Zqm Z Z<|?_
  refine qaI (t:=55) Z (fun c27=>?_) (fun c27=>?_)
  ·
   refine Wf Y4<|Wf Y4<|Wf Y4<|Wf Y4<|Wf Y4<|Zh Z Z Z<|Zh Z Z Z<|Zh Z Z Z<|Wf Y4<|Wf Y4<|Zh Z Z Z<|Zh Z Z Z<|Zh Z Z Z<|Wf Y4<|ZqT Z Z Z<|Zqm Z Z<|Wf Y4<|Wf Y4<|Wf Y4<|Wf Y4<|Wf Y4<|Zh Z Z Z<|Zh Z Z Z<|Zh Z Z Z<|Wf Y4<|ZqT Z Z Z<|Zn<|?_
   refine qaa (MidB.mk h26 Sb Z ((decide_eq_true Og).symm))
  refine Zg Z Z<|Wb Y5<|Zg Z Z<|Wl 0 Y6<|Zg Z Z<|Ws Y4<|Zg Z Z<|qbA Z Z Z<|Zg Z Z<|Zqm Z Z<|?_
  refine qak (t:=60) Z (fun c28=>?_) (fun c28=>?_)
  ·
   refine Zg Z Z<|W0 Y5<|Zg Z Z<|Wl 0 Y6<|Zg Z Z<|qcj Z Z Z<|Zg Z Z<|ZqT Z Z Z<|Zg Z Z<|Zqm Z Z<|?_
   refine qaI (t:=65) Z (fun c29=>?_) (fun c29=>?_)
   ·
    refine Zg Z Z<|W0 Y5<|Zg Z Z<|Wl 0 Y6<|Zg Z Z<|qcj Z Z Z<|Zg Z Z<|ZqT Z Z Z<|ZqF Z Z Z<|Zqm Z Z<|?_
    refine qaI (t:=71) Z (fun c30=>?_) (fun c30=>?_)
    ·
     refine Wf Y4<|Wf Y4<|Wf Y4<|Wf Y4<|Wf Y4<|Zh Z Z Z<|Zh Z Z Z<|Zh Z Z Z<|Wf Y4<|ZqT Z Z Z<|Zn<|?_
     refine qaa (MidB.mk h26 Sb Z ((decide_eq_true Og).symm))
    refine Zg Z Z<|Wb Y5<|Zg Z Z<|Wl 0 Y6<|Zg Z Z<|Ws Y4<|Zg Z Z<|qbA Z Z Z<|Zg Z Z<|Zqm Z Z<|?_
    refine qak (t:=76) Z (fun c31=>?_) (fun c31=>?_)
    ·
     refine Zg Z Z<|W0 Y5<|Zg Z Z<|Wl 0 Y6<|Zg Z Z<|qcj Z Z Z<|Zg Z Z<|ZqT Z Z Z<|ZqF Z Z Z<|Zn<|?_
     refine qaa (MidB.mk h26 Sb Z (qbq Og))
    refine Wf Y4<|Wf Y4<|Wf Y4<|Zg Z Z<|ZqF Z Z Z<|ZqF Z Z Z<|Zn<|?_
    refine qaa (MidB.mk h26 Sb Z ((decide_eq_false Og).symm))
   refine Wf Y4<|Wf Y4<|Wf Y4<|Zg Z Z<|ZqF Z Z Z<|ZqF Z Z Z<|Zqm Z Z<|Zg Z Z<|Wb Y5<|Zg Z Z<|Wl 0 Y6<|Zg Z Z<|Ws Y4<|Zg Z Z<|qbA Z Z Z<|Zg Z Z<|Zqm Z Z<|?_
   refine qak (t:=76) Z (fun c32=>?_) (fun c32=>?_)
   ·
    refine Zg Z Z<|W0 Y5<|Zg Z Z<|Wl 0 Y6<|Zg Z Z<|qcj Z Z Z<|Zg Z Z<|ZqT Z Z Z<|ZqF Z Z Z<|Zn<|?_
    refine qaa (MidB.mk h26 Sb Z (qbq Og))
   refine Wf Y4<|Wf Y4<|Wf Y4<|Zg Z Z<|ZqF Z Z Z<|ZqF Z Z Z<|Zn<|?_
   refine qaa (MidB.mk h26 Sb Z ((decide_eq_false Og).symm))
  refine Wf Y4<|Wf Y4<|Wf Y4<|Zg Z Z<|ZqF Z Z Z<|Zg Z Z<|Zqm Z Z<|Wf Y4<|Wf Y4<|Wf Y4<|Zg Z Z<|ZqF Z Z Z<|ZqF Z Z Z<|Zqm Z Z<|Zg Z Z<|Wb Y5<|Zg Z Z<|Wl 0 Y6<|Zg Z Z<|Ws Y4<|Zg Z Z<|qbA Z Z Z<|Zg Z Z<|Zqm Z Z<|?_
  refine qak (t:=76) Z (fun c33=>?_) (fun c33=>?_)
  ·
   refine Zg Z Z<|W0 Y5<|Zg Z Z<|Wl 0 Y6<|Zg Z Z<|qcj Z Z Z<|Zg Z Z<|ZqT Z Z Z<|ZqF Z Z Z<|Zn<|?_
   refine qaa (MidB.mk h26 Sb Z (qbq Og))
  refine Wf Y4<|Wf Y4<|Wf Y4<|Zg Z Z<|ZqF Z Z Z<|ZqF Z Z Z<|Zn<|?_
  refine qaa (MidB.mk h26 Sb Z ((decide_eq_false Og).symm))
 intro s15 h15
 refine qab Z (fun c34=>?_) (fun c34=>?_)
 ·
  have hE:=qu8 hn1 hn2 hn3 g5 g7 (by rw [qg9];exact c34)
  refine Sr<|At Z Z<|Zo<|Zu<|?_
  refine rR [_] L (.t1 Z) Z (h1.t h2|>.t h4|>.t h7|>.t h11|>.t h15) fun _ hS2=>?_
  exact ⟨by rw [hE];rfl,rfl⟩
 have hE:=qwd hn1 hn2 hn3 g5 g7 (by rw [qg9];exact c34)
 refine Zk<|Zt<|Sr<|At Z Z<|Zo<|?_
 refine rR [_] L (.t1 Z) Z (h1.t h2|>.t h4|>.t h7|>.t h11|>.t h15) fun _ hS2=>?_
 exact ⟨by rw [hE];rfl,rfl⟩
def RXC(D d:Nat):Prop:=∀ (L:Hl) (s:World) (lv c:Nat) (A:Option Addr) (n cc:Nat) (l:List Ex),Exs d s A n cc l→c≤2000→lv≤17→AC prog D 134 [.slice A n cc,.int .i64 (lv:Int),.int .i64 (c:Int)] L s fun v L' _=>v=.tuple #[.int .i64 ((qcp l lv c).1:Int),.int .i64 (qcp l lv c).2]∧L=L'
def RSC(D d:Nat):Prop:=∀ (L:Hl) (s:World) (lv c:Nat) (A:Option Addr) (n cc:Nat) (l:List Stm),Stms d s A n cc l→c≤2000→lv≤17→AC prog D 100 [.slice A n cc,.int .i64 (lv:Int),.int .i64 (c:Int)] L s fun v L' _=>v=.tuple #[.int .i64 ((qck l lv c).1:Int),.int .i64 (qck l lv c).2]∧L=L'
theorem qel{l:List Ex}{lv c:Nat}(hc:c≤2000)(h:(qcp l lv c).2=0):(qcp l lv c).1≤2000:=by
 have hw:=qd5 l lv c h;rw [hw.2.1];rcases hw.2.2 with h | h <;> omega
theorem qep{l:List Stm}{lv c:Nat}(hc:c≤2000)(h:(qck l lv c).2=0):(qck l lv c).1≤2000:=by
 have hw:=qc1 l lv c h;rw [hw.2.1];rcases hw.2.2 with h | h <;> omega
theorem qkr(D d:Nat)(ih:∀ e,d=e+1→RXC D e)(L:Hl)(s:World)(lv c:Nat)(A:Option Addr)(n cc:Nat)(l:List Ex)(hA:Exs d s A n cc l)(hc:c≤2000)(hlv:lv≤17):AC prog D 134 [.slice A n cc,.int .i64 (lv:Int),.int .i64 (c:Int)] L s fun v L' _=>v=.tuple #[.int .i64 ((qcp l lv c).1:Int),.int .i64 (qcp l lv c).2]∧L=L':=by
 have hn:=hA.1
 have hc1:=hA.2.1
 have hc2:=hA.2.2.1
 refine qai (fn:=f134) qaq func134 V Z ntmps134 Z (rs:=[.tmp 6,.tmp 7]) Z [(0,_),(1,_),(2,_)] Z<|Sr<|Zqa Z Z<|At Z Z<|Zs<|Sr<|At Z Z<|Zp ?_
 refine qat (γ:=Nat×Nat) (fun g=>[(0,_),(1,_),(2,.int .i64 (g.2:Int)),(6,_),(7,_),(8,.int .i64 (g.1:Int))]) (fun _=>_) (fun g tw=>Le D s tw∧(g.1≤n∧g.2≤2000∧qcp l lv c=qcp (l.drop g.1) lv g.2)) (fun g=>n - g.1) (fun _ _ _ h hl=>⟨h.1.trans hl,h.2⟩) (0,c) (.c6 Z Z Z Z Z Z (.nil _)) Z ⟨Le.refl _,⟨Nat.zero_le _,hc,Z⟩⟩ ?_
 intro g s1 I1
 obtain ⟨k,ck⟩:=g
 obtain ⟨hk0,hck,hS⟩:=I1.2
 simp only at hk0 hck hS
 dsimp only
 refine Zs<|Sr<|Zqm Z Z<|Zqm Z Z<|Ws Y4<|qba Z Z Z<|Nt<|?_
 refine qab Z (fun c2=>?_) (fun c2=>?_)
 ·
  have hk:k < n:=by omega
  obtain ⟨e,b,off,x,A',n',c',hd,rfl,hx,hcx,hax,hux,hnl⟩:=Exs.at_ (hA.le I1.1) hk
  have hn':=hax.1
  have hq':=hax.2.2.1
  have hq2':=hax.2.1
  refine Zk<|Zt<|Zs<|Zp<|Sr<|Zqm Z Z<|qaf (qaX Z Z (show IntKind.i64.wrap ((ck:Int)+1)=((ck+1:Nat):Int) by rw [w64 O O];simp)) Z<|At Z Z<|Zs<|?_
  refine qaR 23 (16 < lv∨2000 < ck+1) ?_ ?_
  ·
   refine Zr<|Zqm Z Z<|qbA Z Z Z<|Zqm Z Z<|?_
   refine qak (t:=20) Z (fun c4=>?_) (fun c4=>?_)
   ·
    refine Wf Y4<|Wf Y4<|ZqT Z Z Z<|Zn<|?_
    refine qaa (MidB.mk (Lr D) Sb Z ((decide_eq_true O).symm))
   refine Zg Z Z<|Zqm Z Z<|Zg Z Z<|qbA Z Z Z<|ZqF Z Z Z<|Zn<|?_
   refine qaa (MidB.mk (Lr D) Sb Z (decide_eq_decide.2 O))
  intro s3 h3
  refine qab Z (fun c5=>?_) (fun c5=>?_)
  ·
   have g4:16 < lv∨2000 < ck+1:=by have:=c5;omega
   have hE:wkX x lv ck=(ck+1,2):=by rw [qfA,if_pos g4]
   have gE:¬ (wkX x lv ck).2=0:=by rw [hE];simp
   refine Sr<|Zqm Z Z<|Zqa Z Z<|At Z Z<|Zo<|Zu<|Zc<|Zu<|Zu<|Zc<|Zu<|?_
   refine rR [] L (.tmp Z (.t1 Z)) Z (I1.1.t h3) fun _ hS2=>?_
   rw [hS,qdm hx,if_pos gE,hE];exact ⟨rfl,rfl⟩
  have g4:¬ (16 < lv∨2000 < ck+1):=by have:=c5;omega
  refine Zk<|Zt<|Sr<|Zqm Z Z<|Zqm Z Z<|qaf (qap Z Z Z Z Z Z hk) Z<|qaf (qas Z Z Z (hcx.le h3) Z) Z<|Jc Z Z Z (quj D _ _ x A' n' c' hn' O hnl) ?_
  rintro _ _ s6 h6 ⟨rfl,rfl⟩
  refine At Z Z<|Zs<|Sr<|Zqm Z Z<|qax Z Z Z<|Nt<|?_
  refine qab Z (fun c7=>?_) (fun c7=>?_)
  ·
   have hE:wkX x lv ck=qcp x.args (lv+1) (ck+1):=by rw [qfA,if_neg g4,if_neg (fun h=>h c7)]
   refine Zr<|Zqm Z Z<|Zqm Z Z<|qaf (qap Z Z Z Z Z Z hk) Z<|qaf (qbf Z Z Z Z) Z<|qaf (qaC 4 Z Z Z (hcx.le (h3.t h6)) Z) Z<|Zqm Z Z<|qaf (qaX Z Z (show IntKind.i64.wrap ((lv:Int)+1)=((lv+1:Nat):Int) by rw [w64 O O];simp)) Z<|Zqm Z Z<|Jc Z Z Z (ih e hd _ _ (lv+1) (ck+1) A' n' c' x.args (hax.le (h3.t h6)) O O) ?_
   rintro _ _ s8 h8 ⟨rfl,rfl⟩
   refine Zqm Z Z<|Zqx Z Z Z<|Zqx Z Z Z<|Zqa Z Z<|At Z Z<|Sr<|Zqm Z Z<|qcj Z Z Z<|Nt ?_
   refine qaK Z (fun c9=>?_) (fun c9=>?_)
   ·
    have gE:¬ (wkX x lv ck).2=0:=by rw [hE];exact c9
    refine Sr<|Zqm Z Z<|Zqm Z Z<|Zqa Z Z<|At Z Z<|Zo<|Zc<|Zu<|Zu<|Zc<|Zu<|?_
    refine rR [] L (.tmp Z (.t1 Z)) Z (I1.1.t h3|>.t h6|>.t h8) fun _ hS2=>?_
    rw [hS,qdm hx,if_pos gE,hE];exact ⟨rfl,rfl⟩
   have g1:=c9
   refine Zk<|Zb<|Zt<|Zr<|Zqm Z Z<|qaG Z Z Z (w64 O O)<|Zqa Z Z<|Zn<|?_
   refine qaa ⟨(k+1,(qcp x.args (lv+1) (ck+1)).1),[],kp,Z,⟨(I1.1.t h3|>.t h6|>.t h8),⟨by simp only;omega,qel O g1,by simp only;rw [hS,qdm hx,hE,if_neg (by rw [g1];decide)]⟩⟩,Oz⟩
  have g0:=c7
  have hE:wkX x lv ck=(ck+1,exC x.kind x.op x.num x.name x.args.length):=by rw [qfA,if_neg g4,if_pos c7]
  refine Zk<|Zt<|Sr<|Zqm Z Z<|qcj Z Z Z<|Nt<|?_
  refine qaK Z (fun c10=>?_) (fun c10=>?_)
  ·
   have gE:¬ (wkX x lv ck).2=0:=by rw [hE];exact c10
   refine Sr<|Zqm Z Z<|Zqm Z Z<|Zqa Z Z<|At Z Z<|Zo<|Zc<|Zu<|Zu<|Zc<|Zu<|?_
   refine rR [] L (.tmp Z (.t1 Z)) Z (I1.1.t h3|>.t h6) fun _ hS2=>?_
   rw [hS,qdm hx,if_pos gE,hE];exact ⟨rfl,rfl⟩
  exact absurd c10 g0 --end
 rw [List.drop_eq_nil_of_le O,qcp] at hS
 refine Zl<|Zv<|Zv<|Zd<|Zt<|Sr<|Zqm Z Z<|Zqa Z Z<|At Z Z<|Zo ?_
 refine rR [] L (.tmp Z (.t1 Z)) Z I1.1 fun _ hS2=>?_
 rw [hS];exact ⟨rfl,rfl⟩
theorem qrf(D:Nat):∀ d,RXC D d
 | 0=>fun L s lv c A n cc l hA hc hlv=>qkr D 0 (fun e h=>by omega) L s lv c A n cc l hA hc hlv
 | d+1=>fun L s lv c A n cc l hA hc hlv=>qkr D (d+1) (fun e h=>(show d=e by omega)▸qrf D d) L s lv c A n cc l hA hc hlv
theorem qjW(D d:Nat)(ih:∀ e,d=e+1→RSC D e)(L:Hl)(s:World)(lv c:Nat)(A:Option Addr)(n cc:Nat)(l:List Stm)(hA:Stms d s A n cc l)(hc:c≤2000)(hlv:lv≤17):AC prog D 100 [.slice A n cc,.int .i64 (lv:Int),.int .i64 (c:Int)] L s fun v L' _=>v=.tuple #[.int .i64 ((qck l lv c).1:Int),.int .i64 (qck l lv c).2]∧L=L':=by
 have hn:=hA.1
 have hc1:=hA.2.1
 have hc2:=hA.2.2.1
 refine qai (fn:=f100) qaq func100 V Z ntmps100 Z (rs:=[.tmp 6,.tmp 7]) Z [(0,_),(1,_),(2,_)] Z<|Sr<|Zqa Z Z<|At Z Z<|Zs<|Sr<|At Z Z<|Zp ?_
 refine qat (γ:=Nat×Nat) (fun g=>[(0,_),(1,_),(2,.int .i64 (g.2:Int)),(6,_),(7,_),(8,.int .i64 (g.1:Int))]) (fun _=>_) (fun g tw=>Le D s tw∧(g.1≤n∧g.2≤2000∧qck l lv c=qck (l.drop g.1) lv g.2)) (fun g=>n - g.1) (fun _ _ _ h hl=>⟨h.1.trans hl,h.2⟩) (0,c) (.c6 Z Z Z Z Z Z (.nil _)) Z ⟨Le.refl _,⟨Nat.zero_le _,hc,Z⟩⟩ ?_
 intro g s1 I1
 obtain ⟨k,ck⟩:=g
 obtain ⟨hk0,hck,hS⟩:=I1.2
 simp only at hk0 hck hS
 dsimp only
 refine Zs<|Sr<|Zqm Z Z<|Zqm Z Z<|Ws Y4<|qba Z Z Z<|Nt<|?_
 refine qab Z (fun c2=>?_) (fun c2=>?_)
 ·
  have hk:k < n:=by omega
  obtain ⟨e,b,off,x,A1,n1,p1,A2,n2,p2,A3,n3,p3,hd,rfl,hx,hcx,hax,hbx,hex,hnl⟩:=Stms.at_ (hA.le I1.1) hk
  have hn1:=hax.1
  have hn2:=hbx.1
  have hn3:=hex.1
  have hq1:=hax.2.2.1
  have hq2:=hax.2.1
  refine Zk<|Zt<|Zs<|Zp<|Sr<|Zqm Z Z<|qaf (qaX Z Z (show IntKind.i64.wrap ((ck:Int)+1)=((ck+1:Nat):Int) by rw [w64 O O];simp)) Z<|At Z Z<|Zs<|?_
  refine qaR 23 (16 < lv∨2000 < ck+1) ?_ ?_
  ·
   refine Zr<|Zqm Z Z<|qbA Z Z Z<|Zqm Z Z<|?_
   refine qak (t:=20) Z (fun c4=>?_) (fun c4=>?_)
   ·
    refine Wf Y4<|Wf Y4<|ZqT Z Z Z<|Zn<|?_
    refine qaa (MidB.mk (Lr D) Sb Z ((decide_eq_true O).symm))
   refine Zg Z Z<|Zqm Z Z<|Zg Z Z<|qbA Z Z Z<|ZqF Z Z Z<|Zn<|?_
   refine qaa (MidB.mk (Lr D) Sb Z (decide_eq_decide.2 O))
  intro s3 h3
  refine qab Z (fun c5=>?_) (fun c5=>?_)
  ·
   have g4:16 < lv∨2000 < ck+1:=by have:=c5;omega
   have hE:wkS x lv ck=(ck+1,2):=by rw [qdR,if_pos g4]
   have gE:¬ (wkS x lv ck).2=0:=by rw [hE];simp
   refine Sr<|Zqm Z Z<|Zqa Z Z<|At Z Z<|Zo<|Zu<|Zc<|Zu<|Zu<|Zc<|Zu<|?_
   refine rR [] L (.tmp Z (.t1 Z)) Z (I1.1.t h3) fun _ hS2=>?_
   rw [hS,qcA hx,if_pos gE,hE];exact ⟨rfl,rfl⟩
  have g4:¬ (16 < lv∨2000 < ck+1):=by have:=c5;omega
  refine Zk<|Zt<|Sr<|Zqm Z Z<|Zqm Z Z<|qaf (qap Z Z Z Z Z Z hk) Z<|qaf (qas Z Z Z (hcx.le h3) Z) Z<|Jc Z Z Z (qsi D _ _ x A1 A2 A3 n1 p1 n2 p2 n3 p3 hn1 hn2 hn3 O hnl) ?_
  rintro _ _ s6 h6 ⟨rfl,rfl⟩
  refine At Z Z<|Zs<|Sr<|Zqm Z Z<|qax Z Z Z<|Nt<|?_
  refine qab Z (fun c7=>?_) (fun c7=>?_)
  ·
   have g0:=c7
   refine Zr<|Zqm Z Z<|Zqm Z Z<|qaf (qap Z Z Z Z Z Z hk) Z<|qaf (qbf Z Z Z Z) Z<|qaf (qaC 2 Z Z Z (hcx.le (h3.t h6)) Z) Z<|Zqm Z Z<|Jc Z Z Z (qrf D e _ _ 1 (ck+1) A1 n1 p1 x.exprs (hax.le (h3.t h6)) O O) ?_
   rintro _ _ s8 h8 ⟨rfl,rfl⟩
   refine Zqm Z Z<|Zqx Z Z Z<|Zqx Z Z Z<|Zqa Z Z<|At Z Z<|Zs<|Sr<|Zqm Z Z<|qax Z Z Z<|Nt<|?_
   refine qab Z (fun c9=>?_) (fun c9=>?_)
   ·
    have g1:=c9
    refine Zr<|Zqm Z Z<|Zqm Z Z<|qaf (qap Z Z Z Z Z Z hk) Z<|qaf (qbf Z Z Z Z) Z<|qaf (qaC 3 Z Z Z (hcx.le (h3.t h6|>.t h8)) Z) Z<|Zqm Z Z<|qaf (qaX Z Z (show IntKind.i64.wrap ((lv:Int)+1)=((lv+1:Nat):Int) by rw [w64 O O];simp)) Z<|Zqm Z Z<|Jc Z Z Z (ih e hd _ _ (lv+1) (qcp x.exprs 1 (ck+1)).1 A2 n2 p2 x.body (hbx.le (h3.t h6|>.t h8)) (qel O g1) O) ?_
    rintro _ _ s10 h10 ⟨rfl,rfl⟩
    refine Zqm Z Z<|Zqx Z Z Z<|Zqx Z Z Z<|Zqa Z Z<|At Z Z<|Zs<|Sr<|Zqm Z Z<|qax Z Z Z<|Nt<|?_
    refine qab Z (fun c11=>?_) (fun c11=>?_)
    ·
     have g2:=c11
     refine Zr<|Zqm Z Z<|Zqm Z Z<|qaf (qap Z Z Z Z Z Z hk) Z<|qaf (qbf Z Z Z Z) Z<|qaf (qaC 4 Z Z Z (hcx.le (h3.t h6|>.t h8|>.t h10)) Z) Z<|Zqm Z Z<|qaf (qaX Z Z (show IntKind.i64.wrap ((lv:Int)+1)=((lv+1:Nat):Int) by rw [w64 O O];simp)) Z<|Zqm Z Z<|Jc Z Z Z (ih e hd _ _ (lv+1) (qck x.body (lv+1) (qcp x.exprs 1 (ck+1)).1).1 A3 n3 p3 x.els (hex.le (h3.t h6|>.t h8|>.t h10)) (qep (qel O g1) g2) O) ?_
     rintro _ _ s12 h12 ⟨rfl,rfl⟩
     refine Zqm Z Z<|Zqx Z Z Z<|Zqx Z Z Z<|Zqa Z Z<|At Z Z<|Sr<|Zqm Z Z<|qcj Z Z Z<|Nt ?_
     refine qaK Z (fun c13=>?_) (fun c13=>?_)
     ·
      have hE:wkS x lv ck=qck x.els (lv+1) (qck x.body (lv+1) (qcp x.exprs 1 (ck+1)).1).1:=by rw [qdR,if_neg g4,if_neg (fun h=>h g0),if_neg (fun h=>h g1),if_neg (fun h=>h g2)]
      have gE:¬ (wkS x lv ck).2=0:=by rw [hE];exact c13
      refine Sr<|Zqm Z Z<|Zqm Z Z<|Zqa Z Z<|At Z Z<|Zo<|Zc<|Zu<|Zu<|Zc<|Zu<|?_
      refine rR [] L (.tmp Z (.t1 Z)) Z (I1.1.t h3|>.t h6|>.t h8|>.t h10|>.t h12) fun _ hS2=>?_
      rw [hS,qcA hx,if_pos gE,hE];exact ⟨rfl,rfl⟩
     have g3:=c13
     have hE:wkS x lv ck=qck x.els (lv+1) (qck x.body (lv+1) (qcp x.exprs 1 (ck+1)).1).1:=by rw [qdR,if_neg g4,if_neg (fun h=>h g0),if_neg (fun h=>h g1),if_neg (fun h=>h g2)]
     refine Zk<|Zb<|Zt<|Zr<|Zqm Z Z<|qaG Z Z Z (w64 O O)<|Zqa Z Z<|Zn<|?_
     refine qaa ⟨(k+1,(qck x.els (lv+1) (qck x.body (lv+1) (qcp x.exprs 1 (ck+1)).1).1).1),[],kp,Z,⟨(I1.1.t h3|>.t h6|>.t h8|>.t h10|>.t h12),⟨by simp only;omega,qep (qep (qel O g1) g2) g3,by simp only;rw [hS,qcA hx,hE,if_neg (fun h=>h g3)]⟩⟩,Oz⟩
    have g2:=c11
    refine Zk<|Zt<|Sr<|Zqm Z Z<|qcj Z Z Z<|Nt<|?_
    refine qaK Z (fun c14=>?_) (fun c14=>?_)
    ·
     have hE:wkS x lv ck=qck x.body (lv+1) (qcp x.exprs 1 (ck+1)).1:=by rw [qdR,if_neg g4,if_neg (fun h=>h g0),if_neg (fun h=>h g1),if_pos g2]
     have gE:¬ (wkS x lv ck).2=0:=by rw [hE];exact c14
     refine Sr<|Zqm Z Z<|Zqm Z Z<|Zqa Z Z<|At Z Z<|Zo<|Zc<|Zu<|Zu<|Zc<|Zu<|?_
     refine rR [] L (.tmp Z (.t1 Z)) Z (I1.1.t h3|>.t h6|>.t h8|>.t h10) fun _ hS2=>?_
     rw [hS,qcA hx,if_pos gE,hE];exact ⟨rfl,rfl⟩
    exact absurd c14 g2 --end
   have g1:=c9
   refine Zk<|Zt<|Zs<|Sr<|Zqm Z Z<|qax Z Z Z<|Nt<|?_
   refine qab Z (fun c15=>?_) (fun c15=>?_)
   ·
    exact absurd c15 g1 --end
   refine Zk<|Zt<|Sr<|Zqm Z Z<|qcj Z Z Z<|Nt<|?_
   refine qaK Z (fun c16=>?_) (fun c16=>?_)
   ·
    have hE:wkS x lv ck=qcp x.exprs 1 (ck+1):=by rw [qdR,if_neg g4,if_neg (fun h=>h g0),if_pos g1]
    have gE:¬ (wkS x lv ck).2=0:=by rw [hE];exact c16
    refine Sr<|Zqm Z Z<|Zqm Z Z<|Zqa Z Z<|At Z Z<|Zo<|Zc<|Zu<|Zu<|Zc<|Zu<|?_
    refine rR [] L (.tmp Z (.t1 Z)) Z (I1.1.t h3|>.t h6|>.t h8) fun _ hS2=>?_
    rw [hS,qcA hx,if_pos gE,hE];exact ⟨rfl,rfl⟩
   exact absurd c16 g1 --end
  have g0:=c7
  refine Zk<|Zt<|Zs<|Sr<|Zqm Z Z<|qax Z Z Z<|Nt<|?_
  refine qab Z (fun c17=>?_) (fun c17=>?_)
  ·
   exact absurd c17 g0 --end
  refine Zk<|Zt<|Zs<|Sr<|Zqm Z Z<|qax Z Z Z<|Nt<|?_
  refine qab Z (fun c18=>?_) (fun c18=>?_)
  ·
   exact absurd c18 g0 --end
  refine Zk<|Zt<|Sr<|Zqm Z Z<|qcj Z Z Z<|Nt<|?_
  refine qaK Z (fun c19=>?_) (fun c19=>?_)
  ·
   have hE:wkS x lv ck=(ck+1,stC x.kind x.name x.exprs.length x.body.length x.els.length):=by rw [qdR,if_neg g4,if_pos g0]
   have gE:¬ (wkS x lv ck).2=0:=by rw [hE];exact c19
   refine Sr<|Zqm Z Z<|Zqm Z Z<|Zqa Z Z<|At Z Z<|Zo<|Zc<|Zu<|Zu<|Zc<|Zu<|?_
   refine rR [] L (.tmp Z (.t1 Z)) Z (I1.1.t h3|>.t h6) fun _ hS2=>?_
   rw [hS,qcA hx,if_pos gE,hE];exact ⟨rfl,rfl⟩
  exact absurd c19 g0 --end
 rw [List.drop_eq_nil_of_le O,qck] at hS
 refine Zl<|Zv<|Zv<|Zd<|Zt<|Sr<|Zqm Z Z<|Zqa Z Z<|At Z Z<|Zo ?_
 refine rR [] L (.tmp Z (.t1 Z)) Z I1.1 fun _ hS2=>?_
 rw [hS];exact ⟨rfl,rfl⟩
theorem qqX(D:Nat):∀ d,RSC D d
 | 0=>fun L s lv c A n cc l hA hc hlv=>qjW D 0 (fun e h=>by omega) L s lv c A n cc l hA hc hlv
 | d+1=>fun L s lv c A n cc l hA hc hlv=>qjW D (d+1) (fun e h=>(show d=e by omega)▸qqX D d) L s lv c A n cc l hA hc hlv
theorem qmU{x:Fnc}{c:Nat}{w:Str}(h:¬ qaU x.name=false)(hs2:¬ (6 < x.params.length∨12 < x.locals.length))(hw:w∈x.params++x.locals)(hi:qaU w=false):fnC x c=(c,7):=by
 obtain ⟨i,hi2⟩:=List.getElem?_of_mem hw
 exact qlt h hs2 hi2 hi
theorem qrL{x:Fnc}{c:Nat}(h:¬ qaU x.name=false)(hs2:¬ (6 < x.params.length∨12 < x.locals.length))(h3:∀ i w,i < x.params.length→x.params[i]?=some w→qaU w=true)(h4:∀ i w,i < x.locals.length→x.locals[i]?=some w→qaU w=true):fnC x c=qck x.body 1 c:=by
 refine qq5 h hs2 fun i w _ hi=>?_
 have hw:=List.mem_of_getElem? hi
 rcases List.mem_append.1 hw with hw | hw
 · obtain ⟨j,hj⟩:=List.getElem?_of_mem hw;exact h3 j w (List.getElem?_eq_some_iff.1 hj).1 hj
 · obtain ⟨j,hj⟩:=List.getElem?_of_mem hw;exact h4 j w (List.getElem?_eq_some_iff.1 hj).1 hj
theorem qlW(D:Nat)(L:Hl)(s:World)(d:Nat)(p:Prg)(Ag Af:Option Addr)(ng cg nf cf:Nat)(hGl:Glos s Ag ng cg p.globals)(hFn:Fncs d s Af nf cf p.funcs):AC prog D 54 [.agg #[.slice Ag ng cg,.slice Af nf cf]] L s fun v L' _=>v=.agg #[.int .i64 (qbe p).1,.int .i64 (qbe p).2]∧L=L':=by
 have hn1:=hGl.1
 have hn2:=hFn.1
 refine qai (fn:=f54) qaq func54 V Z ntmps54 Z (rs:=[.cell 2 33]) Z [(0,_)] Z<|Sr<|qau Z Z ?_
 intro β1 s1 h1
 refine qae Z [_,_] Z Z ?_
 intro β2 s2 h2
 refine Nt<|Zs<|?_
 refine qaR 22 (64 < ng∨64 < nf) ?_ ?_
 ·
  refine Zr<|W0 Y5<|Wl 1 Y6<|Ws Y4<|qbA Z Z Z<|Zqm Z Z<|?_
  refine qak (t:=17) Z (fun c4=>?_) (fun c4=>?_)
  ·
   refine Wf Y4<|Wf Y4<|Wf Y4<|Wf Y4<|ZqT Z Z Z<|Zn<|?_
   refine qaa (MidB.mk (Lr D) Sb Z ((decide_eq_true O).symm))
  refine Zg Z Z<|Wb Y5<|Zg Z Z<|Wl 1 Y6<|Zg Z Z<|Ws Y4<|Zg Z Z<|qbA Z Z Z<|ZqF Z Z Z<|Zn<|?_
  refine qaa (MidB.mk (Lr D) Sb Z (decide_eq_decide.2 O))
 intro s3 h3
 refine qab Z (fun c5=>?_) (fun c5=>?_)
 ·
  have hE:=qi4 (p:=p) O
  refine Sr<|Jc Z Z Z (qdZ D _ _ _ _) ?_
  rintro _ _ s6 h6 ⟨rfl,rfl⟩
  refine Wt 0 [_,_] Y9<|Nt<|Zo<|Zu<|?_
  refine rR [_,_] L (.agg (us:=[_,_]) 0 Z Z Z Z Z (.nil)) Z (h1.t h2|>.t h3|>.t h6) fun _ hS2=>?_
  exact ⟨by rw [hE];rfl,rfl⟩
 have g20:¬ (64 < p.globals.length∨64 < p.funcs.length):=by omega
 refine Zk<|Zt<|Sr<|At Z Z<|Zs<|Sr<|At Z Z<|Zp<|qem [_,_] (γ:=Nat×Nat) (fun g=>[(1,_),(2,_),(3,.int .i64 (g.2:Int)),(4,.int .i64 (g.1:Int))]) (fun g=>L) (fun g tw=>Le D s3 tw∧(g.1≤ng∧glF p.globals 0=glF (p.globals.drop g.1) g.1∧g.2=((p.globals.take g.1).map fun g=>g.init.length).sum∧g.2≤g.1 * 40000)) (fun g=>ng - g.1) (fun _ _ _ h hl=>⟨h.1.trans hl,h.2⟩) (0,0) (.c4 Z Z Z Z (.nil _)) Z ⟨Le.refl _,⟨Nat.zero_le _,Z,Z,Nat.zero_le _⟩⟩ ?_
 intro g s7 I7
 simp only [cQ9,nQ9]
 obtain ⟨k,z⟩:=g
 obtain ⟨hk0,hS,hz,hz4⟩:=I7.2
 simp only at hk0 hS hz hz4
 dsimp only
 refine Zs<|Sr<|Zqm Z Z<|W0 Y5<|Wl 1 Y6<|Ws Y4<|qba Z Z Z<|Nt<|?_
 refine qab Z (fun c8=>?_) (fun c8=>?_)
 ·
  have hk:k < ng:=by omega
  obtain ⟨b,off,x,Ai,ni,ci,rfl,hx,hcx,hix,hux,hnl⟩:=Glos.at_ (hGl.le (h1.t h2|>.t h3|>.t I7.1)) hk
  have hni:=hix.1
  refine Zk<|Zt<|Zs<|Zp<|Sr<|W0 Y5<|Wl 1 Y6<|Zqm Z Z<|qaf (qap Z Z Z Z Z Z hk) Z<|qaf (qas Z Z Z (hcx.le (Lr D)) Z) Z<|Jc Z Z Z (qtz D _ _ x Ai ni ci (hix.le (Lr D)) hux hnl) ?_
  rintro _ _ s9 h9 ⟨rfl,rfl⟩
  refine At Z Z<|Zs<|Sr<|Zqm Z Z<|qcj Z Z Z<|Nt<|?_
  refine qaK Z (fun c10=>?_) (fun c10=>?_)
  ·
   have hE:qbe p=(qfw x,(k:Int)):=by
     have h9:glF p.globals 0=(qfw x,(k:Int)):=by rw [hS,qjP hx,if_pos c10]
     rw [qrp g20 (by rw [h9];exact c10),h9]
   refine Sr<|Zqm Z Z<|Zqm Z Z<|Jc Z Z Z (qdZ D _ _ _ _) ?_
   rintro _ _ s11 h11 ⟨rfl,rfl⟩
   refine Wt 0 [_,_] Y9<|Nt<|Zo<|Zu<|Zc<|Zu<|Zu<|Zc<|Zu<|?_
   refine rR [_,_] L (.agg (us:=[_,_]) 0 Z Z Z Z Z (.nil)) Z (h1.t h2|>.t h3|>.t I7.1|>.t h9|>.t h11) fun _ hS2=>?_
   exact ⟨by rw [hE];rfl,rfl⟩
  have g33:¬ qfw x≠0:=fun h=>h c10
  have hg4:=(qcP (show qfw x=0 by simpa using g33)).2.2.2.2.2
  refine Zk<|Zt<|Zr<|Zqm Z Z<|W0 Y5<|Wl 1 Y6<|Zqm Z Z<|qaf (qap Z Z Z Z Z Z hk) Z<|qaf (qbf Z Z Z Z) Z<|qaf (qaC 3 Z Z Z (hcx.le h9) Z) Z<|Ws Y4<|qaf (qaX Z Z (show IntKind.i64.wrap ((z:Int)+(ni:Int))=((z+ni:Nat):Int) by rw [w64 O O];simp)) Z<|Zqa Z Z<|Zn<|Zb<|Zt<|Zr<|Zqm Z Z<|qaG Z Z Z (w64 O O)<|Zqa Z Z<|Zn<|?_
  refine qaa ⟨(k+1,z+ni),[],kp,Z,⟨(I7.1.t h9),⟨by simp only;omega,by simp only;rw [hS,qjP hx,if_neg g33],by simp only;rw [qmI hx,← hz,hni],by simp only;omega⟩⟩,Oz⟩
 rw [List.drop_eq_nil_of_le O] at hS
 rw [List.take_of_length_le O] at hz
 refine Zl<|Zv<|Zv<|Zd<|Zt<|Zs<|Sr<|Zqm Z Z<|qbA Z Z Z<|Nt<|?_
 refine qab Z (fun c12=>?_) (fun c12=>?_)
 ·
  have hE:=qhl g20 hS O
  refine Sr<|Jc Z Z Z (qdZ D _ _ _ _) ?_
  rintro _ _ s13 h13 ⟨rfl,rfl⟩
  refine Wt 0 [_,_] Y9<|Nt<|Zo<|Zu<|?_
  refine rR [_,_] L (.agg (us:=[_,_]) 0 Z Z Z Z Z (.nil)) Z (h1.t h2|>.t h3|>.t I7.1|>.t h13) fun _ hS2=>?_
  exact ⟨by rw [hE];rfl,rfl⟩
 have g44:=qvL g20 hS O
 refine Zk<|Zt<|Sr<|At Z Z<|Zs<|Sr<|At Z Z<|Zp<|qem [_,_] (γ:=Nat×Nat) (fun g=>[(1,_),(2,_),(6,.int .i64 (g.2:Int)),(7,.int .i64 (g.1:Int))]) (fun g=>L) (fun g tw=>Le D s7 tw∧(g.1≤nf∧g.2≤2000∧fnF p.funcs p.globals.length 0=fnF (p.funcs.drop g.1) (p.globals.length+g.1) g.2)) (fun g=>nf - g.1) (fun _ _ _ h hl=>⟨h.1.trans hl,h.2⟩) (0,0) (.c4 Z Z Z Z (.nil _)) Z ⟨Le.refl _,⟨Nat.zero_le _,Nat.zero_le _,Z⟩⟩ ?_
 intro g s14 I14
 simp only [cQ9,nQ9]
 obtain ⟨k,ck⟩:=g
 obtain ⟨hk0,hck,hS2⟩:=I14.2
 simp only at hk0 hck hS2
 dsimp only
 refine Zs<|Sr<|Zqm Z Z<|Wb Y5<|Wl 1 Y6<|Ws Y4<|qba Z Z Z<|Nt<|?_
 refine qab Z (fun c15=>?_) (fun c15=>?_)
 ·
  have hk:k < nf:=by omega
  obtain ⟨b,off,x,B1,m1,d1,B2,m2,d2,B3,m3,d3,rfl,hx,hcx,hpx,hlx,hbx,hnl⟩:=Fncs.at_ (hFn.le (h1.t h2|>.t h3|>.t I7.1|>.t I14.1)) hk
  have hm1:=hpx.1
  have hm2:=hlx.1
  refine Zk<|Zt<|Zs<|Zp<|Sr<|Wb Y5<|Wl 1 Y6<|Zqm Z Z<|qaf (qap Z Z Z Z Z Z hk) Z<|qaf (qas Z Z Z (hcx.le (Lr D)) Z) Z<|qae Z [_,_,_,_] Z Z ?_
  intro β16 s16 h16
  refine Wt 0 [_,_,_,_] Y9<|Nt<|Sr<|W0 Y5<|Wl 2 Y6<|Ws Y4<|Zqm Z Z<|qaf (qaX Z Z (show IntKind.i64.wrap ((ng:Int)+(k:Int))=((ng+k:Nat):Int) by rw [w64 O O];simp)) Z<|At Z Z<|Zs<|Sr<|W0 Y5<|Wl 0 Y6<|Jc Z Z Z (qdA D _ _ x.name hnl) ?_
  rintro _ _ s17 h17 ⟨rfl,rfl⟩
  refine qcr Z Z<|Nt<|?_
  refine qdS Z (fun c18=>?_) (fun c18=>?_)
  ·
   have hi:qaU x.name=false:=by simpa using c18
   have hC:=qkf (c:=ck) hi
   have hE:qbe p=((fnC x ck).2,((ng+k:Nat):Int)):=by rw [g44,hS2,qfG hx,if_pos (by rw [hC];exact (by simp)),hn1]
   rw [hC] at hE
   refine Sr<|Zqm Z Z<|Jc Z Z Z (qdZ D _ _ _ _) ?_
   rintro _ _ s19 h19 ⟨rfl,rfl⟩
   refine Wt 1 [_,_] Y9<|Nt<|Zo<|Zu<|Zc<|Zu<|Zu<|Zc<|Zu<|?_
   refine rR [_,_,_] L (.agg (us:=[_,_]) 1 Z Z Z Z Z (.nil)) Z (h1.t h2|>.t h3|>.t I7.1|>.t I14.1|>.t h16|>.t h17|>.t h19) fun _ hS2=>?_
   exact ⟨by rw [hE];rfl,rfl⟩
  have g74:¬ qaU x.name=false:=by simpa using c18
  refine Zk<|Zt<|Zs<|?_
  refine qaR 86 (6 < m1∨12 < m2) ?_ ?_
  ·
   refine Zr<|Wb Y5<|Wl 0 Y6<|Ws Y4<|qbA Z Z Z<|Zqm Z Z<|?_
   refine qak (t:=81) Z (fun c21=>?_) (fun c21=>?_)
   ·
    refine Wf Y4<|Wf Y4<|Wf Y4<|Wf Y4<|ZqT Z Z Z<|Zn<|?_
    refine qaa (MidB.mk (Lr D) Sb Z ((decide_eq_true O).symm))
   refine Zg Z Z<|Wb Y5<|Zg Z Z<|Wl 0 Y6<|Zg Z Z<|Ws Y4<|Zg Z Z<|qbA Z Z Z<|ZqF Z Z Z<|Zn<|?_
   refine qaa (MidB.mk (Lr D) Sb Z (decide_eq_decide.2 O))
  intro s20 h20
  refine qab Z (fun c22=>?_) (fun c22=>?_)
  ·
   have hC:=qj5 (c:=ck) g74 O
   have hE:qbe p=((fnC x ck).2,((ng+k:Nat):Int)):=by rw [g44,hS2,qfG hx,if_pos (by rw [hC];exact (by simp)),hn1]
   rw [hC] at hE
   refine Sr<|Zqm Z Z<|Jc Z Z Z (qdZ D _ _ _ _) ?_
   rintro _ _ s23 h23 ⟨rfl,rfl⟩
   refine Wt 1 [_,_] Y9<|Nt<|Zo<|Zu<|Zc<|Zu<|Zu<|Zc<|Zu<|?_
   refine rR [_,_,_] L (.agg (us:=[_,_]) 1 Z Z Z Z Z (.nil)) Z (h1.t h2|>.t h3|>.t I7.1|>.t I14.1|>.t h16|>.t h17|>.t h20|>.t h23) fun _ hS2=>?_
   exact ⟨by rw [hE];rfl,rfl⟩
  have g86:¬ (6 < x.params.length∨12 < x.locals.length):=by omega
  refine Zk<|Zt<|Zs<|Sr<|At Z Z<|Zp<|qem [_,_,_] (γ:=Nat) (fun j=>[(1,_),(2,_),(6,_),(7,_),(8,_),(9,_),(10,.int .i64 (j:Int))]) (fun j=>L) (fun j tw=>Le D s20 tw∧(j≤m1∧∀ i w,i < j→x.params[i]?=some w→qaU w=true)) (fun j=>m1 - j) (fun _ _ _ h hl=>⟨h.1.trans hl,h.2⟩) 0 (.c6 Z Z Z Z Z Z (.cons Z (.nil _))) Z ⟨Le.refl _,⟨Nat.zero_le _,fun i w hi=>by omega⟩⟩ ?_
  intro j s24 I24
  simp only [cQ9,nQ9]
  have hj0:=I24.2.1
  have hP:=I24.2.2
  refine Zs<|Sr<|Zqm Z Z<|Wb Y5<|Wl 0 Y6<|Ws Y4<|qba Z Z Z<|Nt<|?_
  refine qab Z (fun c25=>?_) (fun c25=>?_)
  ·
   have hj:j < m1:=by omega
   obtain ⟨bw,ow,w,rfl,hw,hcw,hwl⟩:=Strs.at_ (hpx.le (h16.t h17|>.t h20|>.t I24.1)) hj
   refine Zk<|Zt<|Zs<|Zp<|Sr<|Wb Y5<|Wl 0 Y6<|Zqm Z Z<|qaf (qaH Z Z Z Z Z Z hj) Z<|qaf (qaj Z Z Z (hcw.le (Lr D)) Z) Z<|Jc Z Z Z (qdA D _ _ w hwl) ?_
   rintro _ _ s26 h26 ⟨rfl,rfl⟩
   refine qcr Z Z<|Nt<|?_
   refine qdS Z (fun c27=>?_) (fun c27=>?_)
   ·
    have hC:=qmU (c:=ck) g74 g86 (List.mem_append_left _ (List.mem_of_getElem? hw)) (by simpa using c27)
    have hE:qbe p=((fnC x ck).2,((ng+k:Nat):Int)):=by rw [g44,hS2,qfG hx,if_pos (by rw [hC];exact (by simp)),hn1]
    rw [hC] at hE
    refine Sr<|Zqm Z Z<|Jc Z Z Z (qdZ D _ _ _ _) ?_
    rintro _ _ s28 h28 ⟨rfl,rfl⟩
    refine Wt 1 [_,_] Y9<|Nt<|Zo<|Zc<|Zu<|Zu<|Zc<|Zu<|Zc<|Zu<|Zu<|Zc<|Zu ?_
    refine rR [_,_,_] L (.agg (us:=[_,_]) 1 Z Z Z Z Z (.nil)) Z (h1.t h2|>.t h3|>.t I7.1|>.t I14.1|>.t h16|>.t h17|>.t h20|>.t I24.1|>.t h26|>.t h28) fun _ hS2=>?_
    exact ⟨by rw [hE];rfl,rfl⟩
   have hid:qaU w=true:=by simpa using c27
   refine Zk<|Zb<|Zt<|Zr<|Zqm Z Z<|qaG Z Z Z (w64 O O)<|Zqa Z Z<|Zn<|?_
   refine qaa ⟨(j+1),[],kp,Z,⟨(I24.1.t h26),⟨by omega,qa9 hP hw hid⟩⟩,O⟩
  obtain rfl:j=m1:=by omega
  refine Zl<|Zv<|Zv<|Zd<|Zt<|Zs<|Sr<|At Z Z<|Zp<|qem [_,_,_] (γ:=Nat) (fun j=>[(1,_),(2,_),(6,_),(7,_),(8,_),(9,_),(11,.int .i64 (j:Int))]) (fun j=>L) (fun j tw=>Le D s24 tw∧(j≤m2∧∀ i w,i < j→x.locals[i]?=some w→qaU w=true)) (fun j=>m2 - j) (fun _ _ _ h hl=>⟨h.1.trans hl,h.2⟩) 0 (.c6 Z Z Z Z Z Z (.cons Z (.nil _))) Z ⟨Le.refl _,⟨Nat.zero_le _,fun i w hi=>by omega⟩⟩ ?_
  intro j s29 I29
  simp only [cQ9,nQ9]
  have hj0:=I29.2.1
  have hQ:=I29.2.2
  refine Zs<|Sr<|Zqm Z Z<|Wb Y5<|Wl 0 Y6<|Ws Y4<|qba Z Z Z<|Nt<|?_
  refine qab Z (fun c30=>?_) (fun c30=>?_)
  ·
   have hj:j < m2:=by omega
   obtain ⟨bw,ow,w,rfl,hw,hcw,hwl⟩:=Strs.at_ (hlx.le (h16.t h17|>.t h20|>.t I24.1|>.t I29.1)) hj
   refine Zk<|Zt<|Zs<|Zp<|Sr<|Wb Y5<|Wl 0 Y6<|Zqm Z Z<|qaf (qaH Z Z Z Z Z Z hj) Z<|qaf (qaj Z Z Z (hcw.le (Lr D)) Z) Z<|Jc Z Z Z (qdA D _ _ w hwl) ?_
   rintro _ _ s31 h31 ⟨rfl,rfl⟩
   refine qcr Z Z<|Nt<|?_
   refine qdS Z (fun c32=>?_) (fun c32=>?_)
   ·
    have hC:=qmU (c:=ck) g74 g86 (List.mem_append_right _ (List.mem_of_getElem? hw)) (by simpa using c32)
    have hE:qbe p=((fnC x ck).2,((ng+k:Nat):Int)):=by rw [g44,hS2,qfG hx,if_pos (by rw [hC];exact (by simp)),hn1]
    rw [hC] at hE
    refine Sr<|Zqm Z Z<|Jc Z Z Z (qdZ D _ _ _ _) ?_
    rintro _ _ s33 h33 ⟨rfl,rfl⟩
    refine Wt 1 [_,_] Y9<|Nt<|Zo<|Zc<|Zu<|Zu<|Zc<|Zu<|Zc<|Zu<|Zu<|Zc<|Zu ?_
    refine rR [_,_,_] L (.agg (us:=[_,_]) 1 Z Z Z Z Z (.nil)) Z (h1.t h2|>.t h3|>.t I7.1|>.t I14.1|>.t h16|>.t h17|>.t h20|>.t I24.1|>.t I29.1|>.t h31|>.t h33) fun _ hS2=>?_
    exact ⟨by rw [hE];rfl,rfl⟩
   have hid:qaU w=true:=by simpa using c32
   refine Zk<|Zb<|Zt<|Zr<|Zqm Z Z<|qaG Z Z Z (w64 O O)<|Zqa Z Z<|Zn<|?_
   refine qaa ⟨(j+1),[],kp,Z,⟨(I29.1.t h31),⟨by omega,qa9 hQ hw hid⟩⟩,O⟩
  obtain rfl:j=m2:=by omega
  have hC:=qrL (c:=ck) g74 g86 (fun i w hi h=>hP i w O h) (fun i w hi h=>hQ i w O h)
  refine Zl<|Zv<|Zv<|Zd<|Zt<|Sr<|At Z Z<|Sr<|Wb Y5<|Wl 0 Y6<|Zqm Z Z<|Jc Z Z Z (qqX D d _ _ 1 ck B3 m3 d3 x.body (hbx.le (h16.t h17|>.t h20|>.t I24.1|>.t I29.1)) hck O) ?_
  rintro _ _ s34 h34 ⟨rfl,rfl⟩
  refine Zqm Z Z<|Zqx Z Z Z<|Zqx Z Z Z<|Zqa Z Z<|At Z Z<|Sr<|Zqm Z Z<|qcj Z Z Z<|Nt ?_
  refine qaK Z (fun c35=>?_) (fun c35=>?_)
  ·
   have hE:qbe p=((fnC x ck).2,((ng+k:Nat):Int)):=by rw [g44,hS2,qfG hx,if_pos (by rw [hC];exact c35),hn1]
   rw [hC] at hE
   refine Sr<|Zqm Z Z<|Zqm Z Z<|Jc Z Z Z (qdZ D _ _ _ _) ?_
   rintro _ _ s36 h36 ⟨rfl,rfl⟩
   refine Wt 1 [_,_] Y9<|Nt<|Zo<|Zc<|Zu<|Zu<|Zc<|Zu<|?_
   refine rR [_,_,_] L (.agg (us:=[_,_]) 1 Z Z Z Z Z (.nil)) Z (h1.t h2|>.t h3|>.t I7.1|>.t I14.1|>.t h16|>.t h17|>.t h20|>.t I24.1|>.t I29.1|>.t h34|>.t h36) fun _ hS2=>?_
   exact ⟨by rw [hE];rfl,rfl⟩
  have g60:(qck x.body 1 ck).2=0:=c35
  refine Zk<|Zb<|Zt<|Zr<|Zqm Z Z<|qaG Z Z Z (w64 O O)<|Zqa Z Z<|Zn<|?_
  refine qaa ⟨(k+1,(qck x.body 1 ck).1),[_],kp,Z,⟨(I14.1.t h16|>.t h17|>.t h20|>.t I24.1|>.t I29.1|>.t h34),⟨by simp only;omega,qep hck g60,by simp only;rw [hS2,qfG hx,hC,if_neg (fun h=>h g60)];rfl⟩⟩,Oz⟩
 rw [List.drop_eq_nil_of_le O] at hS2
 have hE:qbe p=(0,0):=by rw [g44,hS2];rfl
 refine Zl<|Zv<|Zv<|Zd<|Zt<|Sr<|qaf (qam [] [_,_] Z Z Z Z Z Z) Z<|Wt 0 [_,_] Y9<|Nt<|Zo<|?_
 refine rR [_,_] L (.agg (us:=[_,_]) 0 Z Z Z Z Z (.nil)) Z (h1.t h2|>.t h3|>.t I7.1|>.t I14.1) fun _ hS2=>?_
 exact ⟨by rw [hE];rfl,rfl⟩
theorem qp7{w:Nat}(h:¬ w < 10):Lib.decDigits w=Lib.decDigits (w / 10)++Lib.decDigits (w % 10):=by
 rw [Lib.decDigits,dif_neg h,Lib.decDigits_one (i:=w % 10) O]
theorem qw9(n:Nat):Value.int .u32 ((n:Int).tmod 10)=.int .u32 ((n % 10:Nat):Int):=by rw [Int.tmod_eq_emod_of_nonneg O];rfl
theorem qwX{n:Nat}(h:n < 4294967296):Value.int .u32 (IntKind.u32.wrap ((n:Int).tdiv 10))=.int .u32 ((n / 10:Nat):Int):=by
 rw [Int.tdiv_eq_ediv_of_nonneg O,IntKind.wrap_u32];congr 1;omega
theorem qxi{n:Nat}(h:n < 10):Value.int .u8 (IntKind.u8.wrap (IntKind.u32.wrap (48+(n:Int))))=.int .u8 ((UInt8.ofNat (48+n)).toNat:Int):=by
 rw [IntKind.wrap_u32,IntKind.wrap_u8];congr 1;simp only [UInt8.toNat_ofNat'];omega
theorem qsQ{s:World}{b:Nat}{l:List UInt8}(h:CellsAt s b 0 (bv l))(hl:l.length≤1000):Bts s (some ⟨b,0,none⟩) l.length l.length l:=qm1 (yc:=[]) (cc:=l.length) (by simpa using h) (by simp) O
theorem qjb(D:Nat)(L:Hl)(s:World)(w:Nat)(hw:w < 4294967296)(ih:∀ w',w' < w→∀ (L:Hl) (s:World),AC prog D 101 [.int .u32 (w':Int)] L s fun v L' _=>v=St (Lib.decDigits w')∧L=L'):AC prog D 101 [.int .u32 (w:Int)] L s fun v L' _=>v=St (Lib.decDigits w)∧L=L':=by
 refine qai (fn:=f101) qaq func101 V Z ntmps101 Z (rs:=[.tmp 2]) Z [(0,_)] Z<|Sr<|At Z Z<|Zs<|Sr<|Zqm Z Z<|qba Z Z Z<|Nt<|?_
 refine qab Z (fun c1=>?_) (fun c1=>?_)
 ·
  have hw1:w < 10:=by omega
  refine Sr<|Zqm Z Z<|qaf (qnw Z Z) Z<|qaf (qaw (qf6 Z Z Z Z Z) (qxi hw1)) Z<|qbt [(_,_)] [_] Z Z Z Z Z Z Z Z Z ?_
  intro βn s2 h2 hcb
  refine qaf (qjR Z Z Z Z Z Z Z (qsQ (l:=[UInt8.ofNat (48+w)]) (hcb.le (Lr D)) (by simp))) Z<|At Z Z<|Zo<|Zu<|?_
  refine rR [] L (.t1 Z) Z h2 fun _ hS2=>?_
  exact ⟨by rw [Lib.decDigits_one hw1];rfl,rfl⟩
 have hw1:¬ w < 10:=by omega
 have hl1:=qjp (u:=w / 10) O
 have hl2:=qjp (u:=w % 10) O
 refine Zk<|Zt<|Sr<|Zqm Z Z<|qaf (qaw (qqN Z Z Dc) (qwX hw)) Z<|Jc Z Z Z (ih (w / 10) O _ _) ?_
 rintro _ _ s3 h3 ⟨rfl,rfl⟩
 refine Zqm Z Z<|qaf (qaw (qq6 Z Z Dc) (qw9 w)) Z<|Jc Z Z Z (ih (w % 10) O _ _) ?_
 rintro _ _ s4 h4 ⟨rfl,rfl⟩
 refine qaf (qah Z Z O) Z<|At Z Z<|Zo<|?_
 refine rR [] L (.t1 Z) Z (h3.t h4) fun _ hS2=>?_
 exact ⟨by rw [qp7 hw1];rfl,rfl⟩
theorem qkQ(D:Nat)(w:Nat)(hw:w < 4294967296):∀ (L:Hl) (s:World),AC prog D 101 [.int .u32 (w:Int)] L s fun v L' _=>v=St (Lib.decDigits w)∧L=L':=by
 induction w using Nat.strongRecOn with
 | _ w ih=>exact fun L s=>qjb D L s w hw fun w' h=>ih w' h O
theorem qkn(D:Nat)(L:Hl)(s:World)(n:Int)(hn:U32 n):AC prog D 101 [.int .u32 n] L s fun v L' _=>v=St (qe7 n)∧L=L':=by
 obtain ⟨w,rfl⟩:=Int.eq_ofNat_of_zero_le hn.1
 have:=hn.2
 exact qkQ D w O L s
theorem qhA{ws:List Str}{k:Nat}{x:Str}(h:ws[k]?=some x)(hk:¬ 0 < k):qaW (ws.take (k+1))=qaW (ws.take k)++x:=by
 obtain rfl:k=0:=by omega
 cases ws with
 | nil=>cases h
 | cons y r=>simp at h;subst h;rfl
theorem qlX(l:List Str)(h:l≠[])(x:Str):qaW (l++[x])=qaW l++[44,32]++x:=by
 induction l with
 | nil=>exact absurd rfl h
 | cons y r ih=>
  cases r with
  | nil=>simp [qaW]
  | cons z r=>
   have:=ih (by simp)
   simp only [List.cons_append] at this ⊢
   rw [qaW,this,qaW];simp
theorem qhq{ws:List Str}{k:Nat}{x:Str}(h:ws[k]?=some x)(hk:0 < k):qaW (ws.take (k+1))=qaW (ws.take k)++[44,32]++x:=by
 obtain ⟨hl,rfl⟩:=List.getElem?_eq_some_iff.1 h
 rw [List.take_succ_eq_append_getElem hl]
 exact qlX _ (fun h=>by have:=congrArg List.length h;rw [List.length_take,List.length_nil] at this;omega) _
theorem qme(ws:List Str)(k:Nat):qgI (ws.take k)≤qgI ws:=by
 induction ws generalizing k with
 | nil=>simp
 | cons x r ih=>
  cases k with
  | zero=>simp [qgI]
  | succ k=>have:=ih k;rw [List.take_succ_cons,qbL,qbL];omega
def sgV:Str:=[32,33,32,45,32,126,32,42,32,47,32,37,32,60,60,32,62,62,32,38,32,43,32,45,32,124,32,94,32,61,61,32,33,61,32,60,32,60,61,32,62,32,62,61,32,38,38,32,124,124]
theorem qog:qgs 32 sgV=signL:=by decide +kernel
def strT:Str:=[32,32,32,32,53,53,53,53,53,53,52,52,52,52,51,51,51,51,51,51,50,49]
theorem qrR{j:Nat}(h4:4≤j)(h:j≤21):∃ ch,strT[j]?=some ch∧(ch.toNat:Int) - 48=qbG j:=by
 have k:∀ i:_root_.Fin 22,4≤i.val→strT[i.val]?=some (strT.getD i.val 0)∧((strT.getD i.val 0).toNat:Int) - 48=qbG i.val:=by decide +kernel
 exact ⟨_,k ⟨j,by omega⟩ h4⟩
theorem qc4(D:Nat)(L:Hl)(s:World)(A:Option Addr)(n c:Nat)(ws:List Str)(hS:Strs s A n c ws)(hW:qgI ws≤1000000000):AC prog D 102 [.slice A n c] L s fun v L' _=>v=St (qaW ws)∧L=L':=by
 have hn:=hS.1
 have hq:=hS.2.1
 have hq2:=hS.2.2.1
 refine qai (fn:=f102) qaq func102 V Z ntmps102 Z (rs:=[.tmp 2]) Z [(0,_)] Z<|Sr<|At Z Z<|Sr<|At Z Z<|Zs<|Sr<|At Z Z<|Zp<|qat (γ:=Nat) (fun k=>[(0,_),(2,_),(3,St (qaW (ws.take k))),(4,.int .i64 (k:Int))]) (fun _=>_) (fun k tw=>Le D s tw∧(k≤n)) (fun k=>n - k) (fun _ _ _ h hl=>⟨h.1.trans hl,h.2⟩) 0 (.c4 Z Z Z Z (.nil _)) Z ⟨Le.refl _,Nat.zero_le _⟩ ?_
 intro k s1 I1
 have hk0:=I1.2
 refine Zs<|Sr<|Zqm Z Z<|Zqm Z Z<|Ws Y4<|qba Z Z Z<|Nt<|?_
 refine qab Z (fun c2=>?_) (fun c2=>?_)
 ·
  have hk:k < n:=by omega
  obtain ⟨b,off,x,rfl,hx,hcx,hxl⟩:=Strs.at_ (hS.le I1.1) hk
  have hcl:=qbi (ws.take (k+1))
  have hct:=qme ws (k+1)
  refine Zk<|Zt<|Zs<|Zp<|Zs<|Sr<|Zqm Z Z<|qbA Z Z Z<|Nt<|?_
  refine qab Z (fun c3=>?_) (fun c3=>?_)
  ·
   have g12:0 < k:=by omega
   rw [qhq hx g12] at hcl
   simp only [List.length_append,List.length_cons,List.length_nil] at hcl
   refine Zr<|Zqm Z Z<|qaf (qah Z Z Uo) Z<|At Z Z<|Zr<|Zqm Z Z<|Zqm Z Z<|Zqm Z Z<|qaf (qaH Z Z Z Z Z Z hk) Z<|qaf (qaj Z Z Z (hcx.le (Lr D)) Z) Z<|qaf (qah Z Z Ut) Z<|Zqa Z Z<|Zn<|Zb<|Zt<|Zr<|Zqm Z Z<|qaG Z Z Z (w64 O O)<|Zqa Z Z<|Zn<|?_
   refine qaa ⟨(k+1),[],(.c2 Z Z (.cons (by first | exact congrArg (fun l=>some (St l)) (qhq hx O).symm | exact congrArg (fun l=>some (St l)) (qhA hx O).symm) kp)),Z,⟨I1.1,(show k+1≤n by omega)⟩,O⟩
  have g12:¬ 0 < k:=by omega
  rw [qhA hx g12] at hcl
  simp only [List.length_append,List.length_cons,List.length_nil] at hcl
  refine Zk<|Zt<|Zr<|Zqm Z Z<|Zqm Z Z<|Zqm Z Z<|qaf (qaH Z Z Z Z Z Z hk) Z<|qaf (qaj Z Z Z (hcx.le (Lr D)) Z) Z<|qaf (qah Z Z Ut) Z<|Zqa Z Z<|Zn<|Zb<|Zt<|Zr<|Zqm Z Z<|qaG Z Z Z (w64 O O)<|Zqa Z Z<|Zn<|?_
  refine qaa ⟨(k+1),[],(.c2 Z Z (.cons (by first | exact congrArg (fun l=>some (St l)) (qhq hx O).symm | exact congrArg (fun l=>some (St l)) (qhA hx O).symm) kp)),Z,⟨I1.1,(show k+1≤n by omega)⟩,O⟩
 obtain rfl:k=n:=by omega
 refine Zl<|Zv<|Zv<|Zd<|Zt<|Sr<|Zqm Z Z<|At Z Z<|Zo<|?_
 refine rR [] L (.t1 Z) Z I1.1 fun _ hS2=>?_
 exact ⟨by rw [List.take_of_length_le O];rfl,rfl⟩
theorem qmc(D:Nat)(L:Hl)(s:World)(o:Int)(ho:1≤o∧o≤21):AC prog D 196 [.int .i64 o] L s fun v L' _=>v=St (qkx o)∧L=L':=by
 obtain ⟨j,rfl⟩:∃ j:Nat,o=(j:Int):=Int.eq_ofNat_of_zero_le O
 refine qai (fn:=f196) qaq func196 V Z ntmps196 Z (rs:=[.tmp 2]) Z [(0,_)] Z<|Sr<|At Z Z<|Sr<|Jc Z Z Z (qhB D _ _ sgV 32 Dc) ?_
 rintro _ _ s1 h1 ⟨rfl,Ak,nk,ck,rfl,hK⟩
 rw [qog] at hK
 have hnk:nk=22:=hK.1
 obtain ⟨bk,ok,xk,rfl,hxk,hck,_⟩:=Strs.at_ hK (show j < nk by omega)
 refine Zqm Z Z<|qaf (qaH Z Z Z Z Z Z (show j < nk by omega)) Z<|qaf (qaj Z Z Z (hck.le (Lr D)) Z) Z<|At Z Z<|Zo<|?_
 refine rR [] L (.t1 Z) Z h1 fun _ hS2=>?_
 refine ⟨?_,Z⟩
 rw [qkx,Int.toNat_natCast,List.getD,hxk];rfl
theorem qt2(D:Nat)(L:Hl)(s:World)(o:Int)(ho:4≤o∧o≤21):AC prog D 197 [.int .i64 o] L s fun v L' _=>v=.int .i64 (qbG o)∧L=L':=by
 obtain ⟨j,rfl⟩:∃ j:Nat,o=(j:Int):=Int.eq_ofNat_of_zero_le O
 obtain ⟨ch,hch,hv⟩:=qrR (j:=j) O O
 have hc8:=ch.toNat_lt
 refine qai (fn:=f197) qaq func197 V Z ntmps197 Z (rs:=[.tmp 2]) Z [(0,_)] Z<|Sr<|At Z Z<|Sr<|Zqm Z Z<|qaf (qgO Z Z Z Z hch) Z<|qaf (qaw (qf6 Z Z Z Z Z) (show Value.int .i64 (IntKind.i64.wrap (ch.toNat:Int))=.int .i64 (ch.toNat:Int) by rw [w64 O O])) Z<|qaf (qbU (c:=qbG j) Z Z (by rw [w64 O O];exact hv)) Z<|At Z Z<|Zo<|?_
 refine rR [] L (.t1 Z) Z (Lr D) fun _ hS2=>?_
 exact ⟨rfl,rfl⟩
theorem qgu(D:Nat)(L:Hl)(s:World)(lv:Nat)(hlv:lv≤20):AC prog D 135 [.int .i64 (lv:Int)] L s fun v L' _=>v=St (qaP lv)∧L=L':=by
 refine qai (fn:=f135) qaq func135 V Z ntmps135 Z (rs:=[.tmp 2]) Z [(0,_)] Z<|Sr<|At Z Z<|Sr<|At Z Z<|Zs<|Sr<|At Z Z<|Zp<|qat (γ:=Nat) (fun k=>[(0,_),(2,_),(3,St (qaP k)),(4,.int .i64 (k:Int))]) (fun _=>_) (fun k tw=>Le D s tw∧(k≤lv)) (fun k=>lv - k) (fun _ _ _ h hl=>⟨h.1.trans hl,h.2⟩) 0 (.c4 Z Z Z Z (.nil _)) Z ⟨Le.refl _,Nat.zero_le _⟩ ?_
 intro k s1 I1
 have hk0:=I1.2
 have hml:=qbT k
 refine Zs<|Sr<|Zqm Z Z<|Zqm Z Z<|qba Z Z Z<|Nt<|?_
 refine qab Z (fun c2=>?_) (fun c2=>?_)
 ·
  have hk:k < lv:=by omega
  refine Zk<|Zt<|Zs<|Zp<|Zr<|Zqm Z Z<|qaf (qah Z Z Uo) Z<|Zqa Z Z<|Zn<|Zb<|Zt<|Zr<|Zqm Z Z<|qaG Z Z Z (w64 O O)<|Zqa Z Z<|Zn<|?_
  refine qaa ⟨(k+1),[],kp,Z,⟨I1.1,(show k+1≤lv by omega)⟩,O⟩
 obtain rfl:k=lv:=by omega
 refine Zl<|Zv<|Zv<|Zd<|Zt<|Sr<|Zqm Z Z<|At Z Z<|Zo<|?_
 refine rR [] L (.t1 Z) Z I1.1 fun _ hS2=>?_
 exact ⟨rfl,rfl⟩
def EXR(D d:Nat):Prop:=∀ (L:Hl) (s:World) (x:Ex) (A:Option Addr) (n c:Nat) (out:Int),Exs d s A n c x.args→U32 x.num→exV x=true→exN x≤2000→AC prog D 171 [.agg #[.int .i64 x.kind,.int .i64 x.op,.int .u32 x.num,St x.name,.slice A n c],.int .i64 out] L s fun v L' _=>v=St (exT x out)∧L=L'
theorem qgV{x:Ex}(hv:exV x=true)(h:¬ x.kind=7)(out:Int):exT x out=exT x 0:=by
 have hk:=qcy (qdP hv).1
 rw [qhp hk.1 hk.2.1 out,if_neg (fun k=>h k.1)]
theorem qwc{x:Ex}(hv:exV x=true)(h:x.kind=7){out:Int}(ho:qbG x.op < out):exT x out=[40]++exT x 0++[41]:=by
 have hk:=qcy (qdP hv).1
 rw [qhp hk.1 hk.2.1 out,if_pos ⟨h,ho⟩]
theorem qwk{x:Ex}(hv:exV x=true)(h:x.kind=7){out:Int}(ho:¬ qbG x.op < out):exT x out=exT x 0:=by
 have hk:=qcy (qdP hv).1
 rw [qhp hk.1 hk.2.1 out,if_neg (fun k=>ho k.2)]
theorem qj1(D d:Nat)(ih:∀ e,d=e+1→EXR D e)(L:Hl)(s:World)(x:Ex)(A:Option Addr)(n c:Nat)(out:Int)(hA:Exs d s A n c x.args)(hu:U32 x.num)(hv:exV x=true)(hN:exN x≤2000):AC prog D 171 [.agg #[.int .i64 x.kind,.int .i64 x.op,.int .u32 x.num,St x.name,.slice A n c],.int .i64 out] L s fun v L' _=>v=St (exT x out)∧L=L':=by
 have hxl:=qf8 x 0 hv (qka hu hA.u)
 have hC:=qdP hv
 have hka:=qcy hC.1
 have hl:=hA.1
 have hq1:=hA.2.1
 have hq2:=hA.2.2.1
 have hNx:=qqS x
 have htw:=qdN x.args [] hC.2 hA.u
 rw [qbO] at htw
 refine qai (fn:=f171) qaq func171 V Z ntmps171 Z (rs:=[.tmp 4]) Z [(0,_),(1,_)] Z<|Sr<|qau Z Z ?_
 intro β1 s1 h1
 refine At Z Z<|Sr<|At Z Z<|Zs<|?_
 refine qaR 16 (x.kind=3∨x.kind=4) ?_ ?_
 ·
  refine Zr<|W0 Y5<|Wl 0 Y6<|qax Z Z Z<|Zqm Z Z<|?_
  refine qak (t:=12) Z (fun c3=>?_) (fun c3=>?_)
  ·
   refine Wf Y4<|Wf Y4<|Wf Y4<|ZqT Z Z Z<|Zn<|?_
   refine qaa (MidB.mk (Lr D) Sb Z ((decide_eq_true O).symm))
  refine Zg Z Z<|W0 Y5<|Zg Z Z<|Wl 0 Y6<|Zg Z Z<|qax Z Z Z<|ZqF Z Z Z<|Zn<|?_
  refine qaa (MidB.mk (Lr D) Sb Z (decide_eq_decide.2 O))
 intro s2 h2
 refine qab Z (fun c4=>?_) (fun c4=>?_)
 ·
  have g34:=c4
  have hn6:n≤6:=g34.elim (fun h=>by have:=qgF hv (.inl h);omega) (fun h=>by have:=qrc hv h;omega)
  refine Sr<|At Z Z<|Zp<|qat (γ:=Nat×Value×Hl) (fun g=>[(1,_),(2,_),(4,_),(5,g.2.1),(6,.int .i64 (g.1:Int))]) (fun g=>_::(g.2.2++L)) (fun g tw=>Le D s2 tw∧(g.1≤n∧FL.Own 9 1 g.2.2 g.2.1 g.1 (sb ((x.args.take g.1).map fun x=>exT x 0)))) (fun g=>n - g.1) (fun _ _ _ h hl=>⟨h.1.trans hl,h.2⟩) (0,.slice none 0 0,[]) (.c5 Z Z Z Z Z (.nil _)) Z ⟨Le.refl _,⟨Nat.zero_le _,Own.nil⟩⟩ ?_
  intro g s5 I5
  obtain ⟨k,vo,Mo⟩:=g
  obtain ⟨hk0,hO⟩:=I5.2
  simp only at hk0 hO
  dsimp only
  refine Zs<|Sr<|Zqm Z Z<|Wb Y5<|Wl 0 Y6<|Ws Y4<|qba Z Z Z<|Nt<|?_
  refine qab Z (fun c6=>?_) (fun c6=>?_)
  ·
   have hk:k < n:=by omega
   obtain ⟨e,b,off,y,A',n',c',rfl,rfl,hx,hcy,hay,huy,hnl⟩:=Exs.at_ (hA.le (h1.t h2|>.t I5.1)) hk
   obtain ⟨hvy,hNy⟩:=qb8 hC.2 hx
   refine Zk<|Zt<|Zs<|Zp<|Zr<|Zqm Z Z<|Wb Y5<|Wl 0 Y6<|Zqm Z Z<|qaf (qap Z Z Z Z Z Z hk) Z<|qaf (qas Z Z Z (hcy.le (Lr D)) Z) Z<|Jc Z Z Z (ih e Z _ _ y A' n' c' 0 (hay.le (Lr D)) huy hvy O) ?_
   rintro _ _ s7 h7 ⟨rfl,rfl⟩
   refine qbt [(_,_)] [_] Z Z Z Z Z Z Z Z Z ?_
   intro βn s8 h8 hcb
   refine qbd (sz:=1) [_] Mo L Z Z Z Z Z Z Z hO (Row.of_cells (hcb.le (Lr D)) Z Z) ⟨by simp [ti9];omega,by omega⟩ Z ?_
   intro vq Mq s9 h9 oq
   obtain ⟨Avq,cvq,rfl,_,_⟩:=Own.slice oq
   simp only [cQ9,nQ9]
   refine Zqa Z Z<|Zn<|Zb<|Zt<|Zr<|Zqm Z Z<|qaG Z Z Z (w64 O O)<|Zqa Z Z<|Zn<|?_
   refine qaa ⟨(k+1,.slice Avq (k+1) cvq,Mq),[],kp,Z,⟨(I5.1.t h7|>.t h8|>.t h9),⟨by simp only;omega,by rw [qaL (fun x=>exT x 0) hx,qdh];exact oq⟩⟩,Oz⟩
  obtain rfl:k=n:=by omega
  rw [List.take_of_length_le O] at hO
  obtain ⟨Ao,co,rfl,_,_⟩:=Own.slice hO
  refine Zl<|Zv<|Zv<|Zd<|Zt<|Zs<|Sr<|W0 Y5<|Wl 0 Y6<|qax Z Z Z<|Nt ?_
  refine qab Z (fun c10=>?_) (fun c10=>?_)
  ·
   exfalso;omega --end
  refine Zk<|Zt<|Zs<|Sr<|W0 Y5<|Wl 0 Y6<|qax Z Z Z<|Nt<|?_
  refine qab Z (fun c11=>?_) (fun c11=>?_)
  ·
   exfalso;omega --end
  refine Zk<|Zt<|Zs<|Sr<|W0 Y5<|Wl 0 Y6<|qax Z Z Z<|Nt<|?_
  refine qab Z (fun c12=>?_) (fun c12=>?_)
  ·
   obtain ⟨y0,hy0⟩:∃ y,x.args[0]?=some y:=⟨_,List.getElem?_eq_getElem (show 0 < x.args.length by have:=qgF hv (.inl c12);omega)⟩
   have hT3:=qvU c12 (qgF hv (.inl c12)) hy0
   have hT:=(qgV hv O out).trans hT3
   have hW:qaW (x.args.map fun x=>exT x 0)=exT y0 0:=by rw [qkT (qgF hv (.inl c12)) hy0];rfl
   rw [← hW] at hT
   have hcl:=qbi (x.args.map fun x=>exT x 0)
   have hnm:=qhu hC.1
   refine Zs<|qbs [_] Mo _ ?_
   intro s13 h13 hpub13
   simp only [cQ9,nQ9]
   have hSt:=Own.strs hO (qfU hC.2 hA.u O) hpub13 (by rw [List.length_map];omega)
   refine qay qag 8 Z _ (fun _ h=>h) ?_
   intro s14 h14
   refine za 0 Z (We Y4) Z<|za 1 Z (Wd 0 Y5) Z<|za 2 Z (qah Z Z Uo) Z<|za 3 Z (qar Z) Z<|qal 4 V<|Jb Z Tt Z Z Z (qc4 D _ _ Ao _ co (x.args.map fun x=>exT x 0) (hSt.le h14) O) ?_
   rintro _ _ s15 h15 ⟨rfl,rfl⟩
   refine ⟨fun _ _ h=>h,?_⟩
   refine za 5 Z (qah Z Z Uo) Z<|za 6 Z (qah Z Z Uo) Z<|za 7 Z (qaY Z) Z<|qad V<|Zt<|Zo<|Zu<|?_
   refine rR [_] L (.t1 Z) Z (h1.t h2|>.t I5.1|>.t h13|>.t h14|>.t h15) fun _ hS2=>?_
   exact ⟨by rw [hT];rfl,rfl⟩
  refine Zk<|Zt<|Zs<|Sr<|W0 Y5<|Wl 0 Y6<|qax Z Z Z<|Nt<|?_
  refine qab Z (fun c16=>?_) (fun c16=>?_)
  ·
   have hT:=(qgV hv O out).trans (quy c16)
   rw [qbO] at hT
   have hcl:=qbi (x.args.map fun x=>exT x 0)
   have hnm:=qhu hC.1
   refine Zs<|qbs [_] Mo _ ?_
   intro s17 h17 hpub17
   simp only [cQ9,nQ9]
   have hSt:=Own.strs hO (qfU hC.2 hA.u O) hpub17 (by rw [List.length_map];omega)
   refine qay qag 8 Z _ (fun _ h=>h) ?_
   intro s18 h18
   refine za 0 Z (We Y4) Z<|za 1 Z (Wd 0 Y5) Z<|za 2 Z (qah Z Z Uo) Z<|za 3 Z (qar Z) Z<|qal 4 V<|Jb Z Tt Z Z Z (qc4 D _ _ Ao _ co (x.args.map fun x=>exT x 0) (hSt.le h18) O) ?_
   rintro _ _ s19 h19 ⟨rfl,rfl⟩
   refine ⟨fun _ _ h=>h,?_⟩
   refine za 5 Z (qah Z Z Uo) Z<|za 6 Z (qah Z Z Uo) Z<|za 7 Z (qaY Z) Z<|qad V<|Zt<|Zo<|Zu<|?_
   refine rR [_] L (.t1 Z) Z (h1.t h2|>.t I5.1|>.t h17|>.t h18|>.t h19) fun _ hS2=>?_
   exact ⟨by rw [hT];rfl,rfl⟩
  exfalso;omega --end
 have g34:=c4
 refine Zk<|Zt<|Zs<|Sr<|W0 Y5<|Wl 0 Y6<|qax Z Z Z<|Nt<|?_
 refine qab Z (fun c20=>?_) (fun c20=>?_)
 ·
  have hT:=(qgV hv O out).trans (qu5 c20)
  refine Sr<|Wb Y5<|Wl 0 Y6<|Jc Z Z Z (qkn D _ _ _ hu) ?_
  rintro _ _ s21 h21 ⟨rfl,rfl⟩
  refine At Z Z<|Zo<|Zu<|?_
  refine rR [_] L (.t1 Z) Z (h1.t h2|>.t h21) fun _ hS2=>?_
  exact ⟨by rw [hT];rfl,rfl⟩
 refine Zk<|Zt<|Zs<|Sr<|W0 Y5<|Wl 0 Y6<|qax Z Z Z<|Nt<|?_
 refine qab Z (fun c22=>?_) (fun c22=>?_)
 ·
  have hT:=(qgV hv O out).trans (qvz c22)
  refine Sr<|Wb Y5<|Wl 0 Y6<|At Z Z<|Zo<|Zu<|?_
  refine rR [_] L (.t1 Z) Z (h1.t h2) fun _ hS2=>?_
  exact ⟨by rw [hT];rfl,rfl⟩
 refine Zk<|Zt<|Zs<|Sr<|W0 Y5<|Wl 0 Y6<|qax Z Z Z<|Nt<|?_
 refine qab Z (fun c23=>?_) (fun c23=>?_)
 ·
  exfalso;omega --end
 refine Zk<|Zt<|Zs<|Sr<|W0 Y5<|Wl 0 Y6<|qax Z Z Z<|Nt<|?_
 refine qab Z (fun c24=>?_) (fun c24=>?_)
 ·
  exfalso;omega --end
 refine Zk<|Zt<|Zs<|Sr<|W0 Y5<|Wl 0 Y6<|qax Z Z Z<|Nt<|?_
 refine qab Z (fun c25=>?_) (fun c25=>?_)
 ·
  have hT:=(qgV hv O out).trans (qu2 c25)
  refine Sr<|At Z Z<|Zo<|Zu<|?_
  refine rR [_] L (.t1 Z) Z (h1.t h2) fun _ hS2=>?_
  exact ⟨by rw [hT];rfl,rfl⟩
 refine Zk<|Zt<|Zs<|Sr<|W0 Y5<|Wl 0 Y6<|qax Z Z Z<|Nt<|?_
 refine qab Z (fun c26=>?_) (fun c26=>?_)
 ·
  have hl1:=qgF hv (.inr c26)
  have hop:=hka.2.2.2.2.1 c26
  obtain ⟨e,b,off,y,A1,n1,c1,rfl,rfl,hy,hcy,hay,huy,hnl⟩:=Exs.at_ (hA.le (h1.t h2)) (show 0 < n by omega)
  obtain ⟨hvy,hNy⟩:=qb8 hC.2 hy
  have hT:=(qgV hv O out).trans (qvZ c26 hl1 hy)
  have hyl:=qf8 y 9 hvy (qka huy hay.u)
  have hsl:=qls x.op
  refine Zs<|qay qag 10 Z _ (fun _ h=>h) ?_
  intro s27 h27
  refine za 0 Z (We Y4) Z<|za 1 Z (Wd 0 Y5) Z<|za 3 Z (We Y4) Z<|za 4 Z (Wd 0 Y5) Z<|za 5 Z (qap (j:=0) Z Z Z Z Z Z O) Z<|za 6 Z (qas Z Z Z (hcy.le h27) Z) Z<|qal 2 V<|Jb Z Tt Z Z Z (qmc D _ _ x.op O) ?_
  rintro _ _ s28 h28 ⟨rfl,rfl⟩
  refine ⟨fun _ _ h=>h,?_⟩
  refine qal 7 V<|Jb Z Tt Z Z Z (ih e Z _ _ y A1 n1 c1 9 (hay.le (h27.t h28)) huy hvy O) ?_
  rintro _ _ s29 h29 ⟨rfl,rfl⟩
  refine ⟨fun _ _ h=>h,?_⟩
  refine za 8 Z (qah Z Z O) Z<|za 9 Z (qaY Z) Z<|qad V<|Zt<|Zo<|Zu<|?_
  refine rR [_] L (.t1 Z) Z (h1.t h2|>.t h27|>.t h28|>.t h29) fun _ hS2=>?_
  exact ⟨by rw [hT];rfl,rfl⟩
 have h7:x.kind=7:=by omega
 have hl2:=qqD hv h7
 have hop:=hka.2.2.2.2.2 h7
 obtain ⟨e,b,off,y,A1,n1,c1,rfl,rfl,hy,hcy,hay,huy,hnl⟩:=Exs.at_ (hA.le (h1.t h2)) (show 0 < n by omega)
 obtain ⟨hvy,hNy⟩:=qb8 hC.2 hy
 obtain ⟨e',b',off',z,A2,n2,c2,hd2,hab,hz,hcz,haz,huz,hnz⟩:=Exs.at_ (hA.le (h1.t h2)) (show 1 < n by omega)
 cases hab
 obtain rfl:e=e':=by omega
 obtain ⟨hvz,hNz⟩:=qb8 hC.2 hz
 have hT0:=qwi h7 hl2 hy hz
 rw [hT0] at hxl
 simp only [List.length_append,List.length_cons,List.length_nil] at hxl
 have hsg:=qhT x.op
 refine Zk<|Zt<|Sr<|Wb Y5<|Wl 0 Y6<|Jc Z Z Z (qt2 D _ _ x.op O) ?_
 rintro _ _ s30 h30 ⟨rfl,rfl⟩
 refine At Z Z<|Zs<|qay qag 21 Z _ (fun _ h=>h) ?_
 intro s31 h31
 refine za 0 Z (We Y4) Z<|za 1 Z (Wd 0 Y5) Z<|za 2 Z (qap (j:=0) Z Z Z Z Z Z O) Z<|za 3 Z (qas Z Z Z (hcy.le (h30.t h31)) Z) Z<|za 4 Z (qar Z) Z<|za 7 Z (We Y4) Z<|za 8 Z (Wd 0 Y5) Z<|za 12 Z (We Y4) Z<|za 13 Z (Wd 0 Y5) Z<|za 14 Z (qap (j:=1) Z Z Z Z Z Z O) Z<|za 15 Z (qas Z Z Z (hcz.le (h30.t h31)) Z) Z<|za 16 Z (qar Z) Z<|za 17 Z (qaX (c:=qbG x.op+1) Z Z (by rw [w64 O O])) Z<|qal 5 V ?_
 refine Jb Z Tt Z Z Z (ih e Z _ _ y A1 n1 c1 (qbG x.op) (hay.le (h30.t h31)) huy hvy O) ?_
 rintro _ _ s32 h32 ⟨rfl,rfl⟩
 refine ⟨fun _ _ h=>h,?_⟩
 refine za 6 Z (qah Z Z Uo) Z<|qal 9 V<|Jb Z Tt Z Z Z (qmc D _ _ x.op O) ?_
 rintro _ _ s33 h33 ⟨rfl,rfl⟩
 refine ⟨fun _ _ h=>h,?_⟩
 refine za 10 Z (qah Z Z Uo) Z<|za 11 Z (qah Z Z Uo) Z<|qal 18 V<|Jb Z Tt Z Z Z (ih e Z _ _ z A2 n2 c2 (qbG x.op+1) (haz.le (h30.t h31|>.t h32|>.t h33)) huz hvz O) ?_
 rintro _ _ s34 h34 ⟨rfl,rfl⟩
 refine ⟨fun _ _ h=>h,?_⟩
 refine za 19 Z (qah Z Z Uo) Z<|za 20 Z (qaY Z) Z<|qad V<|Zt<|Zs<|Sr<|Zqm Z Z<|Zqm Z Z<|qba Z Z Z<|Nt<|?_
 refine qab Z (fun c35=>?_) (fun c35=>?_)
 ·
  have hT:=(qwc hv h7 c35).trans (by rw [hT0])
  refine Sr<|Zqm Z Z<|qaf (qah Z Z Uo) Z<|qaf (qah Z Z Uo) Z<|At Z Z<|Zo<|Zu<|?_
  refine rR [_] L (.t1 Z) Z (h1.t h2|>.t h30|>.t h31|>.t h32|>.t h33|>.t h34) fun _ hS2=>?_
  exact ⟨by rw [hT];rfl,rfl⟩
 have hT:=(qwk hv h7 c35).trans hT0
 refine Zk<|Zt<|Sr<|Zqm Z Z<|At Z Z<|Zo<|?_
 refine rR [_] L (.t1 Z) Z (h1.t h2|>.t h30|>.t h31|>.t h32|>.t h33|>.t h34) fun _ hS2=>?_
 exact ⟨by rw [hT];rfl,rfl⟩
theorem qq8(D:Nat):∀ d,EXR D d
 | 0=>fun L s x A n c out hA hu hv hN=>qj1 D 0 (fun e h=>by omega) L s x A n c out hA hu hv hN
 | d+1=>fun L s x A n c out hA hu hv hN=>qj1 D (d+1) (fun e h=>(show d=e by omega)▸qq8 D d) L s x A n c out hA hu hv hN
def RTC(D d:Nat):Prop:=∀ (L:Hl) (s:World) (x:Stm) (A1 A2 A3:Option Addr) (n1 q1 n2 q2 n3 q3:Nat) (lv:Nat),Exs d s A1 n1 q1 x.exprs→Stms d s A2 n2 q2 x.body→Stms d s A3 n3 q3 x.els→stV x lv=true→stN x≤2000→AC prog D 136 [.agg #[.int .i64 x.kind,St x.name,.slice A1 n1 q1,.slice A2 n2 q2,.slice A3 n3 q3],.int .i64 (lv:Int)] L s fun v L' _=>v=St (stT x lv)∧L=L'
def RSS(D d:Nat):Prop:=∀ (L:Hl) (s:World) (A:Option Addr) (n c:Nat) (xs:List Stm) (lv:Nat),Stms d s A n c xs→qdU xs lv=true→qcC xs≤2000→lv≤17→AC prog D 103 [.slice A n c,.int .i64 (lv:Int)] L s fun v L' _=>v=St (qdp xs lv)∧L=L'
theorem qfT{l:List Str}{i:Nat}{w:Str}(h:l[i]?=some w):w.length+2≤qgI l:=by
 induction l generalizing i with
 | nil=>cases h
 | cons x r ih=>
  rw [qbL]
  cases i with
  | zero=>simp at h;subst h;omega
  | succ i=>have:=ih (by simpa using h);omega
theorem qlT{xs:List Stm}{k lv:Nat}{x:Stm}(h:xs[k]?=some x):qdp (xs.take (k+1)) lv=qdp (xs.take k) lv++qaP lv++stT x lv:=by
 induction xs generalizing k with
 | nil=>cases h
 | cons y r ih=>
  cases k with
  | zero=>simp at h;subst h;simp [qdp]
  | succ k=>rw [List.take_succ_cons,List.take_succ_cons,qdp,qdp,ih (by simpa using h)];simp
theorem ql3{xs:List Stm}{lv:Nat}(k:Nat):(qdp (xs.take k) lv).length≤(qdp xs lv).length:=by
 induction xs generalizing k with
 | nil=>simp
 | cons y r ih=>
  cases k with
  | zero=>simp [qdp]
  | succ k=>have:=ih k;rw [List.take_succ_cons,qdp,qdp];simp only [List.length_append];omega
section
variable{x z:Stm}{lv:Nat}{w0 w1 wd:Str}
theorem rt_1(h:x.kind=1)(h0:(qdJ x.exprs [])[0]?=some w0):stT x lv=x.name++[32,61,32]++w0++[59,10]:=by
 rw [qev O,qgK,if_pos h,List.getD,h0];rfl
theorem rt_2(h:x.kind=2)(h0:(qdJ x.exprs [])[0]?=some w0)(h1:(qdJ x.exprs [])[1]?=some w1):stT x lv=x.name++[91]++w0++[93,32,61,32]++w1++[59,10]:=by
 rw [qev O,qgK,if_neg O,if_pos h,List.getD,h0,List.getD,h1];rfl
theorem rt_5(h:x.kind=5):stT x lv=x.name++[40]++qaW (qdJ x.exprs [])++[41,59,10]:=by
 rw [qev O,qgK,if_neg O,if_neg O,if_pos h]
theorem rt_6(h:x.kind=6):stT x lv=[114,101,116,117,114,110,32]++qaW (qdJ x.exprs [])++[59,10]:=by
 rw [qev O,qgK,if_neg O,if_neg O,if_neg O,if_pos h]
theorem rt_7(h:x.kind=7):stT x lv=[112,117,116,32]++qaW (qdJ x.exprs [])++[59,10]:=by
 rw [qev O,qgK,if_neg O,if_neg O,if_neg O,if_neg O,if_pos h]
theorem rt_8(h:x.kind=8):stT x lv=[115,116,111,112,32]++qaW (qdJ x.exprs [])++[59,10]:=by
 rw [qev O,qgK,if_neg O,if_neg O,if_neg O,if_neg O,if_neg O,if_pos h]
theorem rt_9(h:x.kind=9):stT x lv=[98,114,101,97,107]++qaW (qdJ x.exprs [])++[59,10]:=by
 rw [qev O,qgK,if_neg O,if_neg O,if_neg O,if_neg O,if_neg O,if_neg O,if_pos h]
theorem qxy(h:x.kind=10):stT x lv=[99,111,110,116,105,110,117,101]++qaW (qdJ x.exprs [])++[59,10]:=by
 rw [qev O,qgK,if_neg O,if_neg O,if_neg O,if_neg O,if_neg O,if_neg O,if_neg O]
theorem qw6(h:x.kind=3∨x.kind=4)(h0:(qdJ x.exprs [])[0]?=some w0)(hw:(if x.kind=3 then [105,102] else [119,104,105,108,101])=wd):stT x lv=wd++[32,40]++w0++[41,32,123,10]++qdp x.body (lv+1)++qaP lv++[125]++(if x.els.isEmpty=true then [10] else if qnL x.els=true then [32,101,108,115,101,32]++st1 x.els lv else [32,101,108,115,101,32,123,10]++qdp x.els (lv+1)++qaP lv++[125,10]):=by
 cases x with
 | mk k nm es b e=>
  have h:k=3∨k=4:=h
  have h0:(qdJ es [])[0]?=some w0:=h0
  have hw:(if k=3 then [105,102] else [119,104,105,108,101])=wd:=hw
  simp only [stT];rw [if_pos h,hw,List.getD,h0];rfl
theorem rt_a(h:x.kind=3∨x.kind=4)(h0:(qdJ x.exprs [])[0]?=some w0)(hw:(if x.kind=3 then [105,102] else [119,104,105,108,101])=wd)(he:x.els=[]):stT x lv=wd++[32,40]++w0++[41,32,123,10]++qdp x.body (lv+1)++qaP lv++[125]++[10]:=by
 rw [qw6 h h0 hw,he];rfl
theorem rt_b(h:x.kind=3∨x.kind=4)(h0:(qdJ x.exprs [])[0]?=some w0)(hw:(if x.kind=3 then [105,102] else [119,104,105,108,101])=wd)(hl:x.els.length=1)(hz:x.els[0]?=some z)(hk:z.kind=3):stT x lv=wd++[32,40]++w0++[41,32,123,10]++qdp x.body (lv+1)++qaP lv++[125]++[32,101,108,115,101,32]++stT z lv:=by
 rw [qw6 h h0 hw,qkT hl hz]
 cases z with
 | mk k nm es b l=>
  have hk:k=3:=hk
  rw [if_neg (by simp),if_pos (by simp [qnL,hk])];simp [st1]
theorem rt_c(h:x.kind=3∨x.kind=4)(h0:(qdJ x.exprs [])[0]?=some w0)(hw:(if x.kind=3 then [105,102] else [119,104,105,108,101])=wd)(hl:x.els.length≠0)(hn:¬ (x.els.length=1∧∀ z,x.els[0]?=some z→z.kind=3)):stT x lv=wd++[32,40]++w0++[41,32,123,10]++qdp x.body (lv+1)++qaP lv++[125]++[32,101,108,115,101,32,123,10]++qdp x.els (lv+1)++qaP lv++[125,10]:=by
  rw [qw6 h h0 hw,if_neg (by intro g;exact hl (by simpa using g)),if_neg]
  · simp
  · intro g
    match he:x.els,g with
    | [.mk k nm es b l],g=>exact hn ⟨by rw [he];rfl,fun z hz=>by rw [he] at hz;simp at hz;subst hz;show k=3;simpa [qnL] using g⟩
end
theorem qko(D d:Nat)(ih:∀ e,d=e+1→RTC D e)(L:Hl)(s:World)(A:Option Addr)(n c:Nat)(xs:List Stm)(lv:Nat)(hA:Stms d s A n c xs)(hv:qdU xs lv=true)(hN:qcC xs≤2000)(hlv:lv≤17):AC prog D 103 [.slice A n c,.int .i64 (lv:Int)] L s fun v L' _=>v=St (qdp xs lv)∧L=L':=by
 have hn:=hA.1
 have hc1:=hA.2.1
 have hc2:=hA.2.2.1
 have hml:=qbT lv
 have htl:=qcV xs lv hv hA.u
 refine qai (fn:=f103) qaq func103 V Z ntmps103 Z (rs:=[.tmp 4]) Z [(0,_),(1,_)] Z<|Sr<|At Z Z<|Sr<|At Z Z<|Zs<|Sr<|At Z Z<|Zp<|qat (γ:=Nat) (fun k=>[(0,_),(1,_),(4,_),(5,St (qdp (xs.take k) lv)),(6,.int .i64 (k:Int))]) (fun _=>_) (fun k tw=>Le D s tw∧(k≤n)) (fun k=>n - k) (fun _ _ _ h hl=>⟨h.1.trans hl,h.2⟩) 0 (.c5 Z Z Z Z Z (.nil _)) Z ⟨Le.refl _,Nat.zero_le _⟩ ?_
 intro k s1 I1
 have hk0:=I1.2
 have htk:=ql3 (xs:=xs) (lv:=lv) k
 refine Zs<|Sr<|Zqm Z Z<|Zqm Z Z<|Ws Y4<|qba Z Z Z<|Nt<|?_
 refine qab Z (fun c2=>?_) (fun c2=>?_)
 ·
  have hk:k < n:=by omega
  obtain ⟨e,b,off,x,A1,n1,p1,A2,n2,p2,A3,n3,p3,hd,rfl,hx,hcx,hax,hbx,hex,hnl⟩:=Stms.at_ (hA.le I1.1) hk
  obtain ⟨hvx,hNx⟩:=qds hv hx
  have hxs:=qgf x lv hvx (Stms.u_at hA.u hx)
  refine Zk<|Zt<|Zs<|Zp<|qay qag 12 Z _ (fun _ h=>h) ?_
  intro s3 h3
  refine za 0 Z (qar Z) Z<|za 1 Z (qar Z) Z<|za 4 Z (qar Z) Z<|za 5 Z (qar Z) Z<|za 6 Z (qap Z Z Z Z Z Z hk) Z<|za 7 Z (qas Z Z Z (hcx.le h3) Z) Z<|za 8 Z (qar Z) Z<|qal 2 V<|Jb Z Tt Z Z Z (qgu D _ _ lv O) ?_
  rintro _ _ s4 h4 ⟨rfl,rfl⟩
  refine ⟨fun _ _ h=>h,?_⟩
  refine za 3 Z (qah Z Z Ut) Z<|qal 9 V<|Jb Z Tt Z Z Z (ih e hd _ _ x A1 A2 A3 n1 p1 n2 p2 n3 p3 lv (hax.le (h3.t h4)) (hbx.le (h3.t h4)) (hex.le (h3.t h4)) hvx O) ?_
  rintro _ _ s5 h5 ⟨rfl,rfl⟩
  refine ⟨fun _ _ h=>h,?_⟩
  refine za 10 Z (qah Z Z Ut) Z<|za 11 Z (qaY Z) Z<|qad V<|Zb<|Zt<|Zr<|Zqm Z Z<|qaG Z Z Z (w64 O O)<|Zqa Z Z<|Zn<|?_
  refine qaa ⟨(k+1),[],(.c3 Z Z Z (.cons (congrArg (fun l=>some (St l)) (qlT hx).symm) kp)),Z,⟨(I1.1.t h3|>.t h4|>.t h5),(show k+1≤n by omega)⟩,O⟩
 obtain rfl:k=n:=by omega
 refine Zl<|Zv<|Zv<|Zd<|Zt<|Sr<|Zqm Z Z<|At Z Z<|Zo<|?_
 refine rR [] L (.t1 Z) Z I1.1 fun _ hS2=>?_
 exact ⟨by rw [List.take_of_length_le O];rfl,rfl⟩
theorem qoJ(k:Int):qdB k≤6:=by
 unfold qdB
 repeat' split
 all_goals decide
theorem qkq(D d:Nat)(hB:RSS D d)(ih:∀ e,d=e+1→RTC D e)(L:Hl)(s:World)(x:Stm)(A1 A2 A3:Option Addr)(n1 q1 n2 q2 n3 q3:Nat)(lv:Nat)(hA1:Exs d s A1 n1 q1 x.exprs)(hA2:Stms d s A2 n2 q2 x.body)(hA3:Stms d s A3 n3 q3 x.els)(hv:stV x lv=true)(hN:stN x≤2000):AC prog D 136 [.agg #[.int .i64 x.kind,St x.name,.slice A1 n1 q1,.slice A2 n2 q2,.slice A3 n3 q3],.int .i64 (lv:Int)] L s fun v L' _=>v=St (stT x lv)∧L=L':=by
 have hn:=hA1.1
 have hn3:=hA3.1
 have hq:=hA1.2.1
 have hq9:=hA1.2.2.1
 have hml:=qbT lv
 obtain ⟨hlv,hC,hvE,hvB,hvL⟩:=qdc hv
 have hka:=qcU hC
 have hNs:=qqW x
 have htw:=qdN x.exprs [] hvE hA1.u
 have hbl:=qcV x.body (lv+1) hvB hA2.u
 have hel:=qcV x.els (lv+1) hvL hA3.u
 have hnm:=qjM hC
 have hn6:n1≤6:=by have h:=hka.2.2.2.1;have:=qoJ x.kind;omega
 refine qai (fn:=f136) qaq func136 V Z ntmps136 Z (rs:=[.tmp 4]) Z [(0,_),(1,_)] Z<|Sr<|qau Z Z ?_
 intro β1 s1 h1
 refine At Z Z<|Sr<|At Z Z<|Zs<|Sr<|At Z Z<|Zp<|qat (γ:=Nat×Value×Hl) (fun g=>[(1,_),(2,_),(4,_),(5,g.2.1),(6,.int .i64 (g.1:Int))]) (fun g=>_::(g.2.2++L)) (fun g tw=>Le D s1 tw∧(g.1≤n1∧FL.Own 9 1 g.2.2 g.2.1 g.1 (sb ((x.exprs.take g.1).map fun x=>exT x 0)))) (fun g=>n1 - g.1) (fun _ _ _ h hl=>⟨h.1.trans hl,h.2⟩) (0,.slice none 0 0,[]) (.c5 Z Z Z Z Z (.nil _)) Z ⟨Le.refl _,⟨Nat.zero_le _,Own.nil⟩⟩ ?_
 intro g s2 I2
 obtain ⟨k,vo,Mo⟩:=g
 obtain ⟨hk0,hO⟩:=I2.2
 simp only at hk0 hO
 dsimp only
 refine Zs<|Sr<|Zqm Z Z<|Wb Y5<|Wl 0 Y6<|Ws Y4<|qba Z Z Z<|Nt<|?_
 refine qab Z (fun c3=>?_) (fun c3=>?_)
 ·
  have hk:k < n1:=by omega
  obtain ⟨e,b,off,y,A',n',c',hd,rfl,hx,hcy,hay,huy,hnl⟩:=Exs.at_ (hA1.le (h1.t I2.1)) hk
  obtain ⟨hvy,hNy⟩:=qb8 hvE hx
  refine Zk<|Zt<|Zs<|Zp<|Zr<|Zqm Z Z<|Wb Y5<|Wl 0 Y6<|Zqm Z Z<|qaf (qap Z Z Z Z Z Z hk) Z<|qaf (qas Z Z Z (hcy.le (Lr D)) Z) Z<|Jc Z Z Z (qq8 D e _ _ y A' n' c' 0 (hay.le (Lr D)) huy hvy O) ?_
  rintro _ _ s4 h4 ⟨rfl,rfl⟩
  refine qbt [(_,_)] [_] Z Z Z Z Z Z Z Z Z ?_
  intro βn s5 h5 hcb
  refine qbd (sz:=1) [_] Mo L Z Z Z Z Z Z Z hO (Row.of_cells (hcb.le (Lr D)) Z Z) ⟨by simp [ti9];omega,by omega⟩ Z ?_
  intro vq Mq s6 h6 oq
  obtain ⟨Avq,cvq,rfl,_,_⟩:=Own.slice oq
  simp only [cQ9,nQ9]
  refine Zqa Z Z<|Zn<|Zb<|Zt<|Zr<|Zqm Z Z<|qaG Z Z Z (w64 O O)<|Zqa Z Z<|Zn<|?_
  refine qaa ⟨(k+1,.slice Avq (k+1) cvq,Mq),[],kp,Z,⟨(I2.1.t h4|>.t h5|>.t h6),⟨by simp only;omega,by rw [qaL (fun x=>exT x 0) hx,qdh];exact oq⟩⟩,Oz⟩
 obtain rfl:n1=k:=by omega
 rw [List.take_of_length_le O] at hO
 obtain ⟨Ao,co,rfl,_,_⟩:=Own.slice hO
 refine Zl<|Zv<|Zv<|Zd<|Zt<|Zs<|Zs<|qbs [_] Mo _ ?_
 intro s7 h7 hpub7
 simp only [cQ9,nQ9]
 have hSt:=Own.strs hO (qfU hvE hA1.u O) hpub7 (by rw [List.length_map];omega)
 refine Zr<|W0 Y5<|Wl 0 Y6<|qax Z Z Z<|Nt<|?_
 refine qab Z (fun c8=>?_) (fun c8=>?_)
 ·
  have hl1:=qiP hv (.inl c8)
  obtain ⟨b0,o0,w0,hb0,hw0,hcw,hwl⟩:=Strs.at_ (hSt.le (Lr D)) (show 0 < n1 by omega)
  cases hb0
  rw [← qbO] at hw0
  have hg0:=qfT hw0
  have hT:=rt_1 (lv:=lv) c8 hw0
  refine Zs<|qay qag 9 Z _ (fun _ h=>h) ?_
  intro s9 h9
  refine za 0 Z (We Y4) Z<|za 1 Z (Wd 0 Y5) Z<|za 2 Z (qah Z Z Uo) Z<|za 3 Z (qar Z) Z<|za 4 Z (qaH (j:=0) Z Z Z Z Z Z (show 0 < n1 by omega)) Z<|za 5 Z (qaj Z Z Z (hcw.le h9) Z) Z<|za 6 Z (qah Z Z Uo) Z<|za 7 Z (qah Z Z Uo) Z<|za 8 Z (qaY Z) Z<|qad V<|Zt<|Zo<|Zu<|?_
  refine rR [_] L (.t1 Z) Z (h1.t I2.1|>.t h7|>.t h9) fun _ hS2=>?_
  exact ⟨by rw [hT];rfl,rfl⟩
 refine Zk<|Zt<|Zs<|Sr<|W0 Y5<|Wl 0 Y6<|qax Z Z Z<|Nt<|?_
 refine qab Z (fun c10=>?_) (fun c10=>?_)
 ·
  have hl1:=qvd hv c10
  obtain ⟨b0,o0,w0,hb0,hw0,hcw,hwl⟩:=Strs.at_ (hSt.le (Lr D)) (show 0 < n1 by omega)
  cases hb0
  rw [← qbO] at hw0
  have hg0:=qfT hw0
  obtain ⟨b1,o1,w1,hb1,hw1,hcw1,hwl1⟩:=Strs.at_ (hSt.le (Lr D)) (show 1 < n1 by omega)
  cases hb1
  rw [← qbO] at hw1
  have hg1:=qfT hw1
  have hT:=rt_2 (lv:=lv) c10 hw0 hw1
  refine Zs<|qay qag 14 Z _ (fun _ h=>h) ?_
  intro s11 h11
  refine za 0 Z (We Y4) Z<|za 1 Z (Wd 0 Y5) Z<|za 2 Z (qah Z Z Uo) Z<|za 3 Z (qar Z) Z<|za 4 Z (qaH (j:=0) Z Z Z Z Z Z (show 0 < n1 by omega)) Z<|za 5 Z (qaj Z Z Z (hcw.le h11) Z) Z<|za 6 Z (qah Z Z Uo) Z<|za 7 Z (qah Z Z Uo) Z<|za 8 Z (qar Z) Z<|za 9 Z (qaH (j:=1) Z Z Z Z Z Z (show 1 < n1 by omega)) Z<|za 10 Z (qaj Z Z Z (hcw1.le h11) Z) Z<|za 11 Z (qah Z Z Uo) Z<|za 12 Z (qah Z Z Uo) Z<|za 13 Z (qaY Z) Z<|qad V<|Zt<|Zo<|Zu<|?_
  refine rR [_] L (.t1 Z) Z (h1.t I2.1|>.t h7|>.t h11) fun _ hS2=>?_
  exact ⟨by rw [hT];rfl,rfl⟩
 refine Zk<|Zt<|Zs<|Sr<|W0 Y5<|Wl 0 Y6<|qax Z Z Z<|Nt<|?_
 refine qab Z (fun c12=>?_) (fun c12=>?_)
 ·
  have hT:=rt_5 (lv:=lv) c12
  rw [qbO] at hT htw
  have hcl:=qbi (x.exprs.map fun x=>exT x 0)
  refine Zs<|qay qag 8 Z _ (fun _ h=>h) ?_
  intro s13 h13
  refine za 0 Z (We Y4) Z<|za 1 Z (Wd 0 Y5) Z<|za 2 Z (qah Z Z Uo) Z<|za 3 Z (qar Z) Z<|qal 4 V<|Jb Z Tt Z Z Z (qc4 D _ _ Ao _ co (x.exprs.map fun x=>exT x 0) (hSt.le h13) O) ?_
  rintro _ _ s14 h14 ⟨rfl,rfl⟩
  refine ⟨fun _ _ h=>h,?_⟩
  refine za 5 Z (qah Z Z Uo) Z<|za 6 Z (qah Z Z Uo) Z<|za 7 Z (qaY Z) Z<|qad V<|Zt<|Zo<|Zu<|?_
  refine rR [_] L (.t1 Z) Z (h1.t I2.1|>.t h7|>.t h13|>.t h14) fun _ hS2=>?_
  exact ⟨by rw [hT];rfl,rfl⟩
 refine Zk<|Zt<|Zs<|Sr<|W0 Y5<|Wl 0 Y6<|qbA Z Z Z<|Nt<|?_
 refine qab Z (fun c15=>?_) (fun c15=>?_)
 ·
  rw [qbO] at htw
  have hcl:=qbi (x.exprs.map fun x=>exT x 0)
  refine Sr<|qbt [(_,_),(_,_),(_,_),(_,_),(_,_)] [_,_,_,_,_] Z Z Z Z Z Z Z Z Z ?_
  intro βr s16 h16 hcr
  refine At Z Z<|Zs<|?_
  rcases (show x.kind=6∨x.kind=7∨x.kind=8∨x.kind=9∨x.kind=10 by omega) with gk6 | gk7 | gk8 | gk9 | gk10
  ·
   have hT:=rt_6 (lv:=lv) gk6
   rw [qbO] at hT
   refine qay qag 11 Z _ (fun _ h=>h) ?_
   intro s17 h17
   refine za 0 Z (qar Z) Z<|za 1 Z (qbu Z Z Z Z) Z<|za 2 Z (Wd 0 Y5) Z<|za 3 Z (qbU (c:=((0:Nat):Int)) Z Z (by rw [w64 O O];omega)) Z<|za 4 Z (qaH Z Z Z Z Z Z (show 0 < 5 by omega)) Z<|za 5 Z (qaj Z Z Z (hcr.le h17) Z) Z<|za 6 Z (qar Z) Z<|qal 7 V<|Jb Z Tt Z Z Z (qc4 D _ _ Ao _ co (x.exprs.map fun x=>exT x 0) (hSt.le (h16.t h17)) O) ?_
   rintro _ _ s18 h18 ⟨rfl,rfl⟩
   refine ⟨fun _ _ h=>h,?_⟩
   refine za 8 Z (qah Z Z Uo) Z<|za 9 Z (qah Z Z Uo) Z<|za 10 Z (qaY Z) Z<|qad V<|Zt<|Zo<|Zu<|?_
   refine rR [_] L (.t1 Z) Z (h1.t I2.1|>.t h7|>.t h16|>.t h17|>.t h18) fun _ hS2=>?_
   exact ⟨by rw [hT];rfl,rfl⟩
  ·
   have hT:=rt_7 (lv:=lv) gk7
   rw [qbO] at hT
   refine qay qag 11 Z _ (fun _ h=>h) ?_
   intro s19 h19
   refine za 0 Z (qar Z) Z<|za 1 Z (qbu Z Z Z Z) Z<|za 2 Z (Wd 0 Y5) Z<|za 3 Z (qbU (c:=((1:Nat):Int)) Z Z (by rw [w64 O O];omega)) Z<|za 4 Z (qaH Z Z Z Z Z Z (show 1 < 5 by omega)) Z<|za 5 Z (qaC 1 Z Z Z (hcr.le h19) Z) Z<|za 6 Z (qar Z) Z<|qal 7 V<|Jb Z Tt Z Z Z (qc4 D _ _ Ao _ co (x.exprs.map fun x=>exT x 0) (hSt.le (h16.t h19)) O) ?_
   rintro _ _ s20 h20 ⟨rfl,rfl⟩
   refine ⟨fun _ _ h=>h,?_⟩
   refine za 8 Z (qah Z Z Uo) Z<|za 9 Z (qah Z Z Uo) Z<|za 10 Z (qaY Z) Z<|qad V<|Zt<|Zo<|Zu<|?_
   refine rR [_] L (.t1 Z) Z (h1.t I2.1|>.t h7|>.t h16|>.t h19|>.t h20) fun _ hS2=>?_
   exact ⟨by rw [hT];rfl,rfl⟩
  ·
   have hT:=rt_8 (lv:=lv) gk8
   rw [qbO] at hT
   refine qay qag 11 Z _ (fun _ h=>h) ?_
   intro s21 h21
   refine za 0 Z (qar Z) Z<|za 1 Z (qbu Z Z Z Z) Z<|za 2 Z (Wd 0 Y5) Z<|za 3 Z (qbU (c:=((2:Nat):Int)) Z Z (by rw [w64 O O];omega)) Z<|za 4 Z (qaH Z Z Z Z Z Z (show 2 < 5 by omega)) Z<|za 5 Z (qaC 2 Z Z Z (hcr.le h21) Z) Z<|za 6 Z (qar Z) Z<|qal 7 V<|Jb Z Tt Z Z Z (qc4 D _ _ Ao _ co (x.exprs.map fun x=>exT x 0) (hSt.le (h16.t h21)) O) ?_
   rintro _ _ s22 h22 ⟨rfl,rfl⟩
   refine ⟨fun _ _ h=>h,?_⟩
   refine za 8 Z (qah Z Z Uo) Z<|za 9 Z (qah Z Z Uo) Z<|za 10 Z (qaY Z) Z<|qad V<|Zt<|Zo<|Zu<|?_
   refine rR [_] L (.t1 Z) Z (h1.t I2.1|>.t h7|>.t h16|>.t h21|>.t h22) fun _ hS2=>?_
   exact ⟨by rw [hT];rfl,rfl⟩
  ·
   have hT:=rt_9 (lv:=lv) gk9
   rw [qbO] at hT
   refine qay qag 11 Z _ (fun _ h=>h) ?_
   intro s23 h23
   refine za 0 Z (qar Z) Z<|za 1 Z (qbu Z Z Z Z) Z<|za 2 Z (Wd 0 Y5) Z<|za 3 Z (qbU (c:=((3:Nat):Int)) Z Z (by rw [w64 O O];omega)) Z<|za 4 Z (qaH Z Z Z Z Z Z (show 3 < 5 by omega)) Z<|za 5 Z (qaC 3 Z Z Z (hcr.le h23) Z) Z<|za 6 Z (qar Z) Z<|qal 7 V<|Jb Z Tt Z Z Z (qc4 D _ _ Ao _ co (x.exprs.map fun x=>exT x 0) (hSt.le (h16.t h23)) O) ?_
   rintro _ _ s24 h24 ⟨rfl,rfl⟩
   refine ⟨fun _ _ h=>h,?_⟩
   refine za 8 Z (qah Z Z Uo) Z<|za 9 Z (qah Z Z Uo) Z<|za 10 Z (qaY Z) Z<|qad V<|Zt<|Zo<|Zu<|?_
   refine rR [_] L (.t1 Z) Z (h1.t I2.1|>.t h7|>.t h16|>.t h23|>.t h24) fun _ hS2=>?_
   exact ⟨by rw [hT];rfl,rfl⟩
  have hT:=qxy (lv:=lv) gk10
  rw [qbO] at hT
  refine qay qag 11 Z _ (fun _ h=>h) ?_
  intro s25 h25
  refine za 0 Z (qar Z) Z<|za 1 Z (qbu Z Z Z Z) Z<|za 2 Z (Wd 0 Y5) Z<|za 3 Z (qbU (c:=((4:Nat):Int)) Z Z (by rw [w64 O O];omega)) Z<|za 4 Z (qaH Z Z Z Z Z Z (show 4 < 5 by omega)) Z<|za 5 Z (qaC 4 Z Z Z (hcr.le h25) Z) Z<|za 6 Z (qar Z) Z<|qal 7 V<|Jb Z Tt Z Z Z (qc4 D _ _ Ao _ co (x.exprs.map fun x=>exT x 0) (hSt.le (h16.t h25)) O) ?_
  rintro _ _ s26 h26 ⟨rfl,rfl⟩
  refine ⟨fun _ _ h=>h,?_⟩
  refine za 8 Z (qah Z Z Uo) Z<|za 9 Z (qah Z Z Uo) Z<|za 10 Z (qaY Z) Z<|qad V<|Zt<|Zo<|Zu<|?_
  refine rR [_] L (.t1 Z) Z (h1.t I2.1|>.t h7|>.t h16|>.t h25|>.t h26) fun _ hS2=>?_
  exact ⟨by rw [hT];rfl,rfl⟩
 have h34:x.kind=3∨x.kind=4:=by omega
 have hl1:=qiP hv (h34.elim (fun h=>.inr (.inl h)) (fun h=>.inr (.inr (.inl h))))
 obtain ⟨b0,o0,w0,hb0,hw0,hcw,hwl⟩:=Strs.at_ (hSt.le (Lr D)) (show 0 < n1 by omega)
 cases hb0
 rw [← qbO] at hw0
 have hg0:=qfT hw0
      
 refine Zk<|Zt<|Sr<|At Z Z<|Zs<|Sr<|W0 Y5<|Wl 0 Y6<|qax Z Z Z<|Nt<|?_
 refine qab Z (fun c27=>?_) (fun c27=>?_)
 ·
  have hwd:(if x.kind=3 then [105,102] else [119,104,105,108,101])=([105,102]:Str):=if_pos c27
  refine Zr<|At Z Z<|Zs<|qay qag 18 Z _ (fun _ h=>h) ?_
  intro s28 h28
  refine za 0 Z (qar Z) Z<|za 1 Z (qah Z Z Uo) Z<|za 2 Z (qar Z) Z<|za 3 Z (qaH (j:=0) Z Z Z Z Z Z (show 0 < n1 by omega)) Z<|za 4 Z (qaj Z Z Z (hcw.le h28) Z) Z<|za 5 Z (qah Z Z Uo) Z<|za 6 Z (qah Z Z Uo) Z<|za 7 Z (We Y4) Z<|za 8 Z (Wd 0 Y5) Z<|za 9 Z (qar Z) Z<|za 10 Z (qaX Z Z (show IntKind.i64.wrap ((lv:Int)+1)=((lv+1:Nat):Int) by rw [w64 O O];simp)) Z<|za 13 Z (qar Z) Z<|qal 11 V<|Jb Z Tt Z Z Z (hB _ _ A2 n2 q2 x.body (lv+1) (hA2.le (h1.t I2.1|>.t h7|>.t h28)) hvB O O) ?_
  rintro _ _ s29 h29 ⟨rfl,rfl⟩
  refine ⟨fun _ _ h=>h,?_⟩
  refine za 12 Z (qah Z Z Uo) Z<|qal 14 V<|Jb Z Tt Z Z Z (qgu D _ _ lv O) ?_
  rintro _ _ s30 h30 ⟨rfl,rfl⟩
  refine ⟨fun _ _ h=>h,?_⟩
  refine za 15 Z (qah Z Z Uo) Z<|za 16 Z (qah Z Z Uo) Z<|za 17 Z (qaY Z) Z<|qad V<|Zt<|Zs<|Sr<|Wb Y5<|Wl 0 Y6<|Ws Y4<|qax Z Z Z<|Nt<|?_
  refine qab Z (fun c31=>?_) (fun c31=>?_)
  ·
   have hT:=rt_a h34 hw0 hwd (List.eq_nil_of_length_eq_zero O) (lv:=lv)
   refine Sr<|Zqm Z Z<|qaf (qah Z Z Uo) Z<|At Z Z<|Zo<|Zu<|?_
   refine rR [_] L (.t1 Z) Z (h1.t I2.1|>.t h7|>.t h28|>.t h29|>.t h30) fun _ hS2=>?_
   exact ⟨by rw [hT];rfl,rfl⟩
  have g0:x.els.length≠0:=by omega
  obtain ⟨e,b,off,z,B1,m1,d1,B2,m2,d2,B3,m3,d3,hd,rfl,hz,hcz,haz,hbz,hez,hnlz⟩:=Stms.at_ (hA3.le (h1.t I2.1|>.t h7|>.t h28|>.t h29|>.t h30)) (show 0 < n3 by omega)
  obtain ⟨hvz,hNz⟩:=qds hvL hz
  refine Zk<|Zt<|Zs<|?_
  refine qaR 114 (n3=1∧z.kind=3) ?_ ?_
  ·
   refine Zr<|Wb Y5<|Wl 0 Y6<|Ws Y4<|qax Z Z Z<|Zqm Z Z<|?_
   refine qak (t:=107) Z (fun c33=>?_) (fun c33=>?_)
   ·
    refine Zg Z Z<|Wb Y5<|Zg Z Z<|Wl 0 Y6<|Zg Z Z<|qaf (qap (j:=0) Z Z Z Z Z Z O) Z<|Zg Z Z<|W0 Y5<|Zg Z Z<|qaf (qaj Z Z Z (hcz.le (Lr D)) Z) Z<|Zg Z Z<|qax Z Z Z<|ZqT Z Z Z<|Zn<|?_
    refine qaa (MidB.mk (Lr D) Sb Z (decide_eq_decide.2 O))
   refine Wf Y4<|Wf Y4<|Wf Y4<|Wf Y4<|Wf Y4<|Wf Y4<|ZqF Z Z Z<|Zn<|?_
   refine qaa (MidB.mk (Lr D) Sb Z ((decide_eq_false O).symm))
  intro s32 h32
  refine qab Z (fun c34=>?_) (fun c34=>?_)
  ·
   have g3:=c34
   have hT:=rt_b h34 hw0 hwd O hz g3.2 (lv:=lv)
   have hvz2:=qfe z lv (lv+1) O hvz
   have hzl:=qgf z lv hvz2 (Stms.u_at hA3.u hz)
   refine Sr<|Zqm Z Z<|qaf (qah Z Z Uo) Z<|Wb Y5<|Wl 0 Y6<|qaf (qap (j:=0) Z Z Z Z Z Z O) Z<|qaf (qas Z Z Z (hcz.le h32) Z) Z<|Zqm Z Z<|Jc Z Z Z (ih e hd _ _ z B1 B2 B3 m1 d1 m2 d2 m3 d3 lv (haz.le h32) (hbz.le h32) (hez.le h32) hvz2 O) ?_
   rintro _ _ s35 h35 ⟨rfl,rfl⟩
   refine qaf (qah Z Z Uo) Z<|At Z Z<|Zo<|Zu<|?_
   refine rR [_] L (.t1 Z) Z (h1.t I2.1|>.t h7|>.t h28|>.t h29|>.t h30|>.t h32|>.t h35) fun _ hS2=>?_
   exact ⟨by rw [hT];rfl,rfl⟩
  have g3:=c34
  have hT:=rt_c h34 hw0 hwd g0 (fun h=>g3 ⟨by omega,h.2 z hz⟩) (lv:=lv)
  refine Zk<|Zt<|Sr<|Zqm Z Z<|qaf (qah Z Z Uo) Z<|Wb Y5<|Wl 0 Y6<|Zqm Z Z<|qaf (qaX Z Z (show IntKind.i64.wrap ((lv:Int)+1)=((lv+1:Nat):Int) by rw [w64 O O];simp)) Z<|Jc Z Z Z (hB _ _ _ n3 q3 x.els (lv+1) (hA3.le (h1.t I2.1|>.t h7|>.t h28|>.t h29|>.t h30|>.t h32)) hvL O O) ?_
  rintro _ _ s36 h36 ⟨rfl,rfl⟩
  refine qaf (qah Z Z Uo) Z<|Zqm Z Z<|Jc Z Z Z (qgu D _ _ lv O) ?_
  rintro _ _ s37 h37 ⟨rfl,rfl⟩
  refine qaf (qah Z Z Uo) Z<|qaf (qah Z Z Uo) Z<|At Z Z<|Zo<|?_
  refine rR [_] L (.t1 Z) Z (h1.t I2.1|>.t h7|>.t h28|>.t h29|>.t h30|>.t h32|>.t h36|>.t h37) fun _ hS2=>?_
  exact ⟨by rw [hT];rfl,rfl⟩
 have hwd:(if x.kind=3 then [105,102] else [119,104,105,108,101])=([119,104,105,108,101]:Str):=if_neg c27
 refine Zk<|Zt<|Zs<|qay qag 18 Z _ (fun _ h=>h) ?_
 intro s38 h38
 refine za 0 Z (qar Z) Z<|za 1 Z (qah Z Z Uo) Z<|za 2 Z (qar Z) Z<|za 3 Z (qaH (j:=0) Z Z Z Z Z Z (show 0 < n1 by omega)) Z<|za 4 Z (qaj Z Z Z (hcw.le h38) Z) Z<|za 5 Z (qah Z Z Uo) Z<|za 6 Z (qah Z Z Uo) Z<|za 7 Z (We Y4) Z<|za 8 Z (Wd 0 Y5) Z<|za 9 Z (qar Z) Z<|za 10 Z (qaX Z Z (show IntKind.i64.wrap ((lv:Int)+1)=((lv+1:Nat):Int) by rw [w64 O O];simp)) Z<|za 13 Z (qar Z) Z<|qal 11 V<|Jb Z Tt Z Z Z (hB _ _ A2 n2 q2 x.body (lv+1) (hA2.le (h1.t I2.1|>.t h7|>.t h38)) hvB O O) ?_
 rintro _ _ s39 h39 ⟨rfl,rfl⟩
 refine ⟨fun _ _ h=>h,?_⟩
 refine za 12 Z (qah Z Z Uo) Z<|qal 14 V<|Jb Z Tt Z Z Z (qgu D _ _ lv O) ?_
 rintro _ _ s40 h40 ⟨rfl,rfl⟩
 refine ⟨fun _ _ h=>h,?_⟩
 refine za 15 Z (qah Z Z Uo) Z<|za 16 Z (qah Z Z Uo) Z<|za 17 Z (qaY Z) Z<|qad V<|Zt<|Zs<|Sr<|Wb Y5<|Wl 0 Y6<|Ws Y4<|qax Z Z Z<|Nt<|?_
 refine qab Z (fun c41=>?_) (fun c41=>?_)
 ·
  have hT:=rt_a h34 hw0 hwd (List.eq_nil_of_length_eq_zero O) (lv:=lv)
  refine Sr<|Zqm Z Z<|qaf (qah Z Z Uo) Z<|At Z Z<|Zo<|Zu<|?_
  refine rR [_] L (.t1 Z) Z (h1.t I2.1|>.t h7|>.t h38|>.t h39|>.t h40) fun _ hS2=>?_
  exact ⟨by rw [hT];rfl,rfl⟩
 have g0:x.els.length≠0:=by omega
 obtain ⟨e,b,off,z,B1,m1,d1,B2,m2,d2,B3,m3,d3,hd,rfl,hz,hcz,haz,hbz,hez,hnlz⟩:=Stms.at_ (hA3.le (h1.t I2.1|>.t h7|>.t h38|>.t h39|>.t h40)) (show 0 < n3 by omega)
 obtain ⟨hvz,hNz⟩:=qds hvL hz
 refine Zk<|Zt<|Zs<|?_
 refine qaR 114 (n3=1∧z.kind=3) ?_ ?_
 ·
  refine Zr<|Wb Y5<|Wl 0 Y6<|Ws Y4<|qax Z Z Z<|Zqm Z Z<|?_
  refine qak (t:=107) Z (fun c43=>?_) (fun c43=>?_)
  ·
   refine Zg Z Z<|Wb Y5<|Zg Z Z<|Wl 0 Y6<|Zg Z Z<|qaf (qap (j:=0) Z Z Z Z Z Z O) Z<|Zg Z Z<|W0 Y5<|Zg Z Z<|qaf (qaj Z Z Z (hcz.le (Lr D)) Z) Z<|Zg Z Z<|qax Z Z Z<|ZqT Z Z Z<|Zn<|?_
   refine qaa (MidB.mk (Lr D) Sb Z (decide_eq_decide.2 O))
  refine Wf Y4<|Wf Y4<|Wf Y4<|Wf Y4<|Wf Y4<|Wf Y4<|ZqF Z Z Z<|Zn<|?_
  refine qaa (MidB.mk (Lr D) Sb Z ((decide_eq_false O).symm))
 intro s42 h42
 refine qab Z (fun c44=>?_) (fun c44=>?_)
 ·
  have g3:=c44
  have hT:=rt_b h34 hw0 hwd O hz g3.2 (lv:=lv)
  have hvz2:=qfe z lv (lv+1) O hvz
  have hzl:=qgf z lv hvz2 (Stms.u_at hA3.u hz)
  refine Sr<|Zqm Z Z<|qaf (qah Z Z Uo) Z<|Wb Y5<|Wl 0 Y6<|qaf (qap (j:=0) Z Z Z Z Z Z O) Z<|qaf (qas Z Z Z (hcz.le h42) Z) Z<|Zqm Z Z<|Jc Z Z Z (ih e hd _ _ z B1 B2 B3 m1 d1 m2 d2 m3 d3 lv (haz.le h42) (hbz.le h42) (hez.le h42) hvz2 O) ?_
  rintro _ _ s45 h45 ⟨rfl,rfl⟩
  refine qaf (qah Z Z Uo) Z<|At Z Z<|Zo<|Zu<|?_
  refine rR [_] L (.t1 Z) Z (h1.t I2.1|>.t h7|>.t h38|>.t h39|>.t h40|>.t h42|>.t h45) fun _ hS2=>?_
  exact ⟨by rw [hT];rfl,rfl⟩
 have g3:=c44
 have hT:=rt_c h34 hw0 hwd g0 (fun h=>g3 ⟨by omega,h.2 z hz⟩) (lv:=lv)
 refine Zk<|Zt<|Sr<|Zqm Z Z<|qaf (qah Z Z Uo) Z<|Wb Y5<|Wl 0 Y6<|Zqm Z Z<|qaf (qaX Z Z (show IntKind.i64.wrap ((lv:Int)+1)=((lv+1:Nat):Int) by rw [w64 O O];simp)) Z<|Jc Z Z Z (hB _ _ _ n3 q3 x.els (lv+1) (hA3.le (h1.t I2.1|>.t h7|>.t h38|>.t h39|>.t h40|>.t h42)) hvL O O) ?_
 rintro _ _ s46 h46 ⟨rfl,rfl⟩
 refine qaf (qah Z Z Uo) Z<|Zqm Z Z<|Jc Z Z Z (qgu D _ _ lv O) ?_
 rintro _ _ s47 h47 ⟨rfl,rfl⟩
 refine qaf (qah Z Z Uo) Z<|qaf (qah Z Z Uo) Z<|At Z Z<|Zo<|?_
 refine rR [_] L (.t1 Z) Z (h1.t I2.1|>.t h7|>.t h38|>.t h39|>.t h40|>.t h42|>.t h46|>.t h47) fun _ hS2=>?_
 exact ⟨by rw [hT];rfl,rfl⟩
theorem qiW(D:Nat):∀ d,RSS D d∧RTC D d
 | 0=>by
  have hB:RSS D 0:=fun L s A n c xs lv hA hv hN hlv=>qko D 0 (fun e h=>by omega) L s A n c xs lv hA hv hN hlv
  exact ⟨hB,fun L s x A1 A2 A3 n1 q1 n2 q2 n3 q3 lv hA1 hA2 hA3 hv hN=>qkq D 0 hB (fun e h=>by omega) L s x A1 A2 A3 n1 q1 n2 q2 n3 q3 lv hA1 hA2 hA3 hv hN⟩
 | d+1=>by
  have ih:∀ e,d+1=e+1→RTC D e:=fun e h=>(show d=e by omega)▸(qiW D d).2
  have hB:RSS D (d+1):=fun L s A n c xs lv hA hv hN hlv=>qko D (d+1) ih L s A n c xs lv hA hv hN hlv
  exact ⟨hB,fun L s x A1 A2 A3 n1 q1 n2 q2 n3 q3 lv hA1 hA2 hA3 hv hN=>qkq D (d+1) hB ih L s x A1 A2 A3 n1 q1 n2 q2 n3 q3 lv hA1 hA2 hA3 hv hN⟩
theorem qcX{α:Type}{f:α→Str}{l:List α}{k:Nat}{x:α}(h:l[k]?=some x):((l.take (k+1)).map f).flatten=((l.take k).map f).flatten++f x:=by
 rw [qaL f h];simp
theorem qh5{α:Type}{f:α→Str}(l:List α)(k:Nat):(((l.take k).map f).flatten).length≤((l.map f).flatten).length:=by
 induction l generalizing k with
 | nil=>simp
 | cons x r ih=>
  cases k with
  | zero=>simp
  | succ k=>have:=ih k;simp only [List.take_succ_cons,List.map_cons,List.flatten_cons,List.length_append];omega
theorem pg_1{g:Glo}(h:g.kind=1):qdW g=[99,111,110,115,116,32]++g.name++[32,61,32]++qe7 g.num++[59,10]:=by unfold qdW;rw [if_pos h]
theorem pg_2{g:Glo}(h:g.kind=2):qdW g=[118,97,114,32]++g.name++[59,10]:=by unfold qdW;rw [if_neg O,if_pos h]
theorem pg_3{g:Glo}(h:¬ g.kind=1)(h2:¬ g.kind=2)(h3:g.init=[]):qdW g=[97,114,114,97,121,32]++g.name++[91]++qe7 g.num++[93]++[59,10]:=by unfold qdW;rw [if_neg h,if_neg h2,if_pos h3];simp
theorem pg_4{g:Glo}(h:¬ g.kind=1)(h2:¬ g.kind=2)(h3:g.init≠[]):qdW g=[97,114,114,97,121,32]++g.name++[91]++qe7 g.num++[93]++[32,61,32]++qaW (g.init.map qe7)++[59,10]:=by unfold qdW;rw [if_neg h,if_neg h2,if_neg h3];simp
theorem pf_0{x:Fnc}(h:x.locals=[]):qg1 x=[102,117,110,99,32]++x.name++[40]++qaW x.params++[41,32,123,10]++qdp x.body 1++[125,10]:=by unfold qg1;rw [if_pos h];simp
theorem pf_1{x:Fnc}(h:x.locals≠[]):qg1 x=[102,117,110,99,32]++x.name++[40]++qaW x.params++[41,32,123,10]++[32,32,118,97,114,32]++qaW x.locals++[59,10]++qdp x.body 1++[125,10]:=by unfold qg1;rw [if_neg h];simp
theorem qi0(D:Nat)(L:Hl)(s:World)(d:Nat)(p:Prg)(Ag Af:Option Addr)(ng cg nf cf:Nat)(hGl:Glos s Ag ng cg p.globals)(hFn:Fncs d s Af nf cf p.funcs)(hV:PV p):AC prog D 55 [.agg #[.slice Ag ng cg,.slice Af nf cf]] L s fun v L' _=>v=St (qkw p)∧L=L':=by
 have hn1:=hGl.1
 have hn2:=hFn.1
 have hU:=hGl.u
 have hUf:=hFn.u
 obtain ⟨hV1,hV2,hVg,hVf,hVl⟩:=hV
 have hpl:((p.globals.map qdW).flatten).length+((p.funcs.map qg1).flatten).length≤1000000:=by rw [qkw,List.length_append] at hVl;exact hVl
 refine qai (fn:=f55) qaq func55 V Z ntmps55 Z (rs:=[.tmp 2]) Z [(0,_)] Z<|Sr<|qau Z Z ?_
 intro β1 s1 h1
 refine At Z Z<|Sr<|At Z Z<|Zs<|Sr<|At Z Z<|Zp<|qat (γ:=Nat) (fun k=>[(1,_),(2,_),(3,St (((p.globals.take k).map qdW).flatten)),(4,.int .i64 (k:Int))]) (fun _=>_) (fun k tw=>Le D s1 tw∧(k≤ng)) (fun k=>ng - k) (fun _ _ _ h hl=>⟨h.1.trans hl,h.2⟩) 0 (.c4 Z Z Z Z (.nil _)) Z ⟨Le.refl _,Nat.zero_le _⟩ ?_
 intro k s2 I2
 have hk0:=I2.2
 have hle:=qh5 (f:=qdW) p.globals k
 refine Zs<|Sr<|Zqm Z Z<|W0 Y5<|Wl 0 Y6<|Ws Y4<|qba Z Z Z<|Nt<|?_
 refine qab Z (fun c3=>?_) (fun c3=>?_)
 ·
  have hk:k < ng:=by omega
  obtain ⟨b,off,x,Ai,ni,ci,rfl,hx,hcx,hix,hux,hnl⟩:=Glos.at_ (hGl.le (h1.t I2.1)) hk
  have hgx:=hVg x (List.mem_of_getElem? hx)
  have hg0:=qcP hgx.1
  have hil:=qbJ hg0.2.2.1
  have hdl:=qdF hux
  have hni:=hix.1
  have hci:=qbi (x.init.map qe7)
  have hct:=qhS x.init hix.u32
  refine Zk<|Zt<|Zs<|Zp<|Sr<|W0 Y5<|Wl 0 Y6<|Zqm Z Z<|qaf (qap Z Z Z Z Z Z hk) Z<|qaf (qas Z Z Z (hcx.le (Lr D)) Z) Z<|qae Z [_,_,_,_] Z Z ?_
  intro β4 s4 h4
  refine Wt 0 [_,_,_,_] Y9<|Nt<|Zs<|Sr<|W0 Y5<|Wl 0 Y6<|qax Z Z Z<|Nt<|?_
  refine qab Z (fun c5=>?_) (fun c5=>?_)
  ·
   have hT:=pg_1 c5
   refine qay qag 11 Z _ (fun _ h=>h) ?_
   intro s6 h6
   refine za 0 Z (qar Z) Z<|za 1 Z (qah Z Z Ut) Z<|za 2 Z (We Y4) Z<|za 3 Z (Wd 0 Y5) Z<|za 4 Z (qah Z Z Uo) Z<|za 5 Z (qah Z Z Uo) Z<|za 6 Z (We Y4) Z<|za 7 Z (Wd 0 Y5) Z<|qal 8 V<|Jb Z Tt Z Z Z (qkn D _ _ _ hux) ?_
   rintro _ _ s7 h7 ⟨rfl,rfl⟩
   refine ⟨fun _ _ h=>h,?_⟩
   refine za 9 Z (qah Z Z Uo) Z<|za 10 Z (qaY Z) Z<|qad V<|Zt<|Zr<|Zqm Z Z<|qaf (qah Z Z Ut) Z<|Zqa Z Z<|Zn<|Zb<|Zt<|Zr<|Zqm Z Z<|qaG Z Z Z (w64 O O)<|Zqa Z Z<|Zn<|?_
   refine qaa ⟨(k+1),[_],(.c2 Z Z (.cons (congrArg (fun l=>some (St l)) (by rw [qcX hx,hT];simp only [List.append_assoc])) kp)),Z,⟨(I2.1.t h4|>.t h6|>.t h7),(show k+1≤ng by omega)⟩,O⟩
  have g1:=c5
  refine Sr<|W0 Y5<|Wl 0 Y6<|qax Z Z Z<|Nt<|?_
  refine qab Z (fun c8=>?_) (fun c8=>?_)
  ·
   have hT:=pg_2 c8
   refine Zr<|Zqm Z Z<|qaf (qah Z Z Ut) Z<|Wb Y5<|Wl 0 Y6<|qaf (qah Z Z Uo) Z<|At Z Z<|Zr<|Zqm Z Z<|qaf (qah Z Z Ut) Z<|Zqa Z Z<|Zn<|Zb<|Zt<|Zr<|Zqm Z Z<|qaG Z Z Z (w64 O O)<|Zqa Z Z<|Zn<|?_
   refine qaa ⟨(k+1),[_],(.c2 Z Z (.cons (congrArg (fun l=>some (St l)) (by rw [qcX hx,hT];simp only [List.append_assoc])) kp)),Z,⟨(I2.1.t h4),(show k+1≤ng by omega)⟩,O⟩
  have g2:=c8
  refine Zs<|qay qag 12 Z _ (fun _ h=>h) ?_
  intro s9 h9
  refine za 0 Z (qar Z) Z<|za 1 Z (qah Z Z Ut) Z<|za 2 Z (We Y4) Z<|za 3 Z (Wd 0 Y5) Z<|za 4 Z (qah Z Z Uo) Z<|za 5 Z (qah Z Z Uo) Z<|za 6 Z (We Y4) Z<|za 7 Z (Wd 0 Y5) Z<|qal 8 V<|Jb Z Tt Z Z Z (qkn D _ _ _ hux) ?_
  rintro _ _ s10 h10 ⟨rfl,rfl⟩
  refine ⟨fun _ _ h=>h,?_⟩
  refine za 9 Z (qah Z Z Uo) Z<|za 10 Z (qah Z Z Uo) Z<|za 11 Z (qaY Z) Z<|qad V<|Zt<|Sr<|At Z Z<|Zs<|Sr<|At Z Z<|Zp ?_
  refine qat (γ:=Nat×Value×Hl) (fun g=>[(1,_),(2,_),(3,_),(4,_),(5,_),(6,g.2.1),(7,.int .i64 (g.1:Int))]) (fun g=>_::_::(g.2.2++L)) (fun g tw=>Le D s10 tw∧(g.1≤ni∧FL.Own 9 1 g.2.2 g.2.1 g.1 (sb ((x.init.take g.1).map qe7)))) (fun g=>ni - g.1) (fun _ _ _ h hl=>⟨h.1.trans hl,h.2⟩) (0,.slice none 0 0,[]) (.c6 Z Z Z Z Z Z (.cons Z (.nil _))) Z ⟨Le.refl _,⟨Nat.zero_le _,Own.nil⟩⟩ ?_
  intro g s11 I11
  obtain ⟨j,vo,Mo⟩:=g
  obtain ⟨hj0,hO⟩:=I11.2
  simp only at hj0 hO
  dsimp only
  refine Zs<|Sr<|Zqm Z Z<|Wb Y5<|Wl 0 Y6<|Ws Y4<|qba Z Z Z<|Nt<|?_
  refine qab Z (fun c12=>?_) (fun c12=>?_)
  ·
   have hj:j < ni:=by omega
   obtain ⟨b2,off2,y,hb2,hy,hcy,huy⟩:=Wds.at_ (hix.le (h4.t h9|>.t h10|>.t I11.1)) hj
   subst hb2
   refine Zk<|Zt<|Zs<|Zp<|Zr<|Zqm Z Z<|Wb Y5<|Wl 0 Y6<|Zqm Z Z<|qaf (qaH Z Z Z Z Z Z hj) Z<|qaf (qaj Z Z Z (hcy.le (Lr D)) Z) Z<|Jc Z Z Z (qkn D _ _ _ huy) ?_
   rintro _ _ s13 h13 ⟨rfl,rfl⟩
   refine qbt [(_,_)] [_] Z Z Z Z Z Z Z Z Z ?_
   intro βn s14 h14 hcb
   refine qbd (sz:=1) [_,_] Mo L Z Z Z Z Z Z Z hO (Row.of_cells (hcb.le (Lr D)) Z Z) ⟨by simp [ti9];omega,by omega⟩ Z ?_
   intro vq Mq s15 h15 oq
   obtain ⟨Avq,cvq,rfl,_,_⟩:=Own.slice oq
   simp only [cQ9,nQ9]
   refine Zqa Z Z<|Zn<|Zb<|Zt<|Zr<|Zqm Z Z<|qaG Z Z Z (w64 O O)<|Zqa Z Z<|Zn<|?_
   refine qaa ⟨(j+1,.slice Avq (j+1) cvq,Mq),[],kp,Z,⟨(I11.1.t h13|>.t h14|>.t h15),⟨by simp only;omega,by rw [qaL qe7 hy,qdh];exact oq⟩⟩,Oz⟩
  obtain rfl:ni=j:=by omega
  rw [List.take_of_length_le O] at hO
  obtain ⟨Ao,co,rfl,_,_⟩:=Own.slice hO
  refine Zl<|Zv<|Zv<|Zd<|Zt<|Zs<|qbs [_,_] Mo _ ?_
  intro s16 h16 hpub16
  simp only [cQ9,nQ9]
  have hSt:=Own.strs hO (qmD hix.u32) hpub16 (by rw [List.length_map];omega)
  refine Zr<|Zqm Z Z<|Ws Y4<|qbA Z Z Z<|Nt<|?_
  refine qab Z (fun c17=>?_) (fun c17=>?_)
  ·
   have hT:=pg_4 g1 g2 (fun h=>by rw [h] at hni;simp at hni;omega)
   refine Zr<|Zqm Z Z<|qaf (qah Z Z Ut) Z<|Zqm Z Z<|Jc Z Z Z (qc4 D _ _ Ao _ co (x.init.map qe7) (hSt.le (Lr D)) O) ?_
   rintro _ _ s18 h18 ⟨rfl,rfl⟩
   refine qaf (qah Z Z Ut) Z<|At Z Z<|Zr<|Zqm Z Z<|qaf (qah Z Z Ut) Z<|Zqa Z Z<|Zn<|Zb<|Zt<|Zr<|Zqm Z Z<|qaG Z Z Z (w64 O O)<|Zqa Z Z<|Zn<|?_
   refine qaa ⟨(k+1),[_],(.c2 Z Z (.cons (congrArg (fun l=>some (St l)) (by rw [qcX hx,hT];simp only [List.append_assoc])) kp)),Z,⟨(I2.1.t h4|>.t h9|>.t h10|>.t I11.1|>.t h16|>.t h18),(show k+1≤ng by omega)⟩,O⟩
  have hT:=pg_3 g1 g2 (List.eq_nil_of_length_eq_zero O)
  refine Zk<|Zt<|Zr<|Zqm Z Z<|qaf (qah Z Z Ut) Z<|Zqa Z Z<|Zn<|Zb<|Zt<|Zr<|Zqm Z Z<|qaG Z Z Z (w64 O O)<|Zqa Z Z<|Zn<|?_
  refine qaa ⟨(k+1),[_],(.c2 Z Z (.cons (congrArg (fun l=>some (St l)) (by rw [qcX hx,hT];simp only [List.append_assoc])) kp)),Z,⟨(I2.1.t h4|>.t h9|>.t h10|>.t I11.1|>.t h16),(show k+1≤ng by omega)⟩,O⟩
 obtain rfl:ng=k:=by omega
 refine Zl<|Zv<|Zv<|Zd<|Zt<|Zs<|Sr<|At Z Z<|Zp<|qat (γ:=Nat) (fun k=>[(1,_),(2,_),(3,St ((p.globals.map qdW).flatten++((p.funcs.take k).map qg1).flatten)),(8,.int .i64 (k:Int))]) (fun _=>_) (fun k tw=>Le D s2 tw∧(k≤nf)) (fun k=>nf - k) (fun _ _ _ h hl=>⟨h.1.trans hl,h.2⟩) 0 (.c2 Z Z (.cons (congrArg (fun l=>some (St l)) (by rw [List.take_of_length_le (show p.globals.length≤ng by omega)];simp)) (.cons Z (.nil _)))) Z ⟨Le.refl _,Nat.zero_le _⟩ ?_
 intro k s19 I19
 have hk0:=I19.2
 have hle:=qh5 (f:=qg1) p.funcs k
 refine Zs<|Sr<|Zqm Z Z<|Wb Y5<|Wl 0 Y6<|Ws Y4<|qba Z Z Z<|Nt<|?_
 refine qab Z (fun c20=>?_) (fun c20=>?_)
 ·
  have hk:k < nf:=by omega
  obtain ⟨b,off,x,B1,m1,d1,B2,m2,d2,B3,m3,d3,rfl,hx,hcx,hpx,hlx,hbx,hnl⟩:=Fncs.at_ (hFn.le (h1.t I2.1|>.t I19.1)) hk
  obtain ⟨hi1,hi2,hi3,hi4,hi5,hi6⟩:=hVf x (List.mem_of_getElem? hx)
  have hil:=qbJ hi1
  have hp1:=qbi x.params
  have hp2:=qeh x.params fun w hw=>hi4 w (List.mem_append_left _ hw)
  have hl1:=qbi x.locals
  have hl2:=qeh x.locals fun w hw=>hi4 w (List.mem_append_right _ hw)
  have hln:=hlx.1
  have hbl:=qcV x.body 1 hi5 (hUf x (List.mem_of_getElem? hx))
  refine Zk<|Zt<|Zs<|Zp<|Sr<|Wb Y5<|Wl 0 Y6<|Zqm Z Z<|qaf (qap Z Z Z Z Z Z hk) Z<|qaf (qas Z Z Z (hcx.le (Lr D)) Z) Z<|qae Z [_,_,_,_] Z Z ?_
  intro β21 s21 h21
  refine Wt 0 [_,_,_,_] Y9<|Nt<|Zs<|qay qag 12 Z _ (fun _ h=>h) ?_
  intro s22 h22
  refine za 0 Z (qar Z) Z<|za 1 Z (qah Z Z Ut) Z<|za 2 Z (qbu Z Z Z Z) Z<|za 3 Z (Wd 0 Y5) Z<|za 4 Z (qah Z Z Uo) Z<|za 5 Z (qah Z Z Uo) Z<|za 6 Z (We Y4) Z<|za 7 Z (Wd 0 Y5) Z<|qal 8 V<|Jb Z Tt Z Z Z (qc4 D _ _ B1 m1 d1 x.params (hpx.le (h21.t h22)) O) ?_
  rintro _ _ s23 h23 ⟨rfl,rfl⟩
  refine ⟨fun _ _ h=>h,?_⟩
  refine za 9 Z (qah Z Z Uo) Z<|za 10 Z (qah Z Z Uo) Z<|za 11 Z (qaY Z) Z<|qad V<|Zt<|Zs<|Sr<|Wb Y5<|Wl 0 Y6<|Ws Y4<|qbA Z Z Z<|Nt<|?_
  refine qab Z (fun c24=>?_) (fun c24=>?_)
  ·
   have hT:=pf_1 (x:=x) (fun h=>by rw [h] at hln;simp at hln;omega)
   refine Zr<|Zqm Z Z<|qaf (qah Z Z Ut) Z<|Wb Y5<|Wl 0 Y6<|Jc Z Z Z (qc4 D _ _ B2 m2 d2 x.locals (hlx.le (h21.t h22|>.t h23)) O) ?_
   rintro _ _ s25 h25 ⟨rfl,rfl⟩
   refine qaf (qah Z Z Uo) Z<|qaf (qah Z Z Uo) Z<|At Z Z<|Zr<|Zqm Z Z<|Wb Y5<|Wl 0 Y6<|Jc Z Z Z ((qiW D d).1 _ _ B3 m3 d3 x.body 1 (hbx.le (h21.t h22|>.t h23|>.t h25)) hi5 hi6 O) ?_
   rintro _ _ s26 h26 ⟨rfl,rfl⟩
   refine qaf (qah Z Z Ut) Z<|qaf (qah Z Z Uo) Z<|Zqa Z Z<|Zn<|Zb<|Zt<|Zr<|Zqm Z Z<|qaG Z Z Z (w64 O O)<|Zqa Z Z<|Zn<|?_
   refine qaa ⟨(k+1),[_],(.c2 Z Z (.cons (congrArg (fun l=>some (St l)) (by rw [qcX hx,hT];simp only [List.append_assoc])) kp)),Z,⟨(I19.1.t h21|>.t h22|>.t h23|>.t h25|>.t h26),(show k+1≤nf by omega)⟩,O⟩
  have hT:=pf_0 (x:=x) (List.eq_nil_of_length_eq_zero O)
  refine Zk<|Zt<|Zr<|Zqm Z Z<|Wb Y5<|Wl 0 Y6<|Jc Z Z Z ((qiW D d).1 _ _ B3 m3 d3 x.body 1 (hbx.le (h21.t h22|>.t h23)) hi5 hi6 O) ?_
  rintro _ _ s27 h27 ⟨rfl,rfl⟩
  refine qaf (qah Z Z Ut) Z<|qaf (qah Z Z Uo) Z<|Zqa Z Z<|Zn<|Zb<|Zt<|Zr<|Zqm Z Z<|qaG Z Z Z (w64 O O)<|Zqa Z Z<|Zn<|?_
  refine qaa ⟨(k+1),[_],(.c2 Z Z (.cons (congrArg (fun l=>some (St l)) (by rw [qcX hx,hT];simp only [List.append_assoc])) kp)),Z,⟨(I19.1.t h21|>.t h22|>.t h23|>.t h27),(show k+1≤nf by omega)⟩,O⟩
 obtain rfl:nf=k:=by omega
 refine Zl<|Zv<|Zv<|Zd<|Zt<|Sr<|Zqm Z Z<|At Z Z<|Zo<|?_
 refine rR [_] L (.t1 Z) Z (h1.t I2.1|>.t I19.1) fun _ hS2=>?_
 exact ⟨by rw [List.take_of_length_le (show p.funcs.length≤nf by omega)];rfl,rfl⟩
theorem qpa(D:Nat)(L:Hl)(s:World)(d:Nat)(p:Prg)(Ag Af:Option Addr)(ng cg nf cf:Nat)(hGl:Glos s Ag ng cg p.globals)(hFn:Fncs d s Af nf cf p.funcs):AC prog D 24 [.agg #[.slice Ag ng cg,.slice Af nf cf]] L s fun v L' _=>v=.agg #[.int .i64 (qd2 p).1,.int .i64 (qd2 p).2]∧L=L':=by
 have hU:prU p:=⟨hGl.u,hFn.u⟩
 refine qai (fn:=f24) qaq func24 V Z ntmps24 Z (rs:=[.cell 2 33]) Z [(0,_)] Z<|Sr<|qau Z Z ?_
 intro β1 s1 h1
 refine qae Z [_,_] Z Z ?_
 intro β2 s2 h2
 refine Nt<|Sr<|qaf (qan 1 [_,_] Z Z Z Z Z) Z<|Jc Z Z Z (qlW D _ _ d p Ag Af ng cg nf cf (hGl.le (h1.t h2)) (hFn.le (h1.t h2))) ?_
 rintro _ _ s3 h3 ⟨rfl,rfl⟩
 refine qae Z [_,_] Z Z ?_
 intro β4 s4 h4
 refine Wt 0 [_,_] Y9<|Nt<|Zs<|?_
 refine qaR 14 ((qbe p).1=0∧12000 < (qkw p).length) ?_ ?_
 ·
  refine Zr<|W0 Y5<|Wl 0 Y6<|qax Z Z Z<|Zqm Z Z<|?_
  refine qak (t:=9) Z (fun c6=>?_) (fun c6=>?_)
  ·
   refine Zg Z Z<|qaf (qan 2 [_,_] Z Z Z Z Z) Z<|Zg Z Z<|Jc Z Z Z (qi0 D _ _ d p Ag Af ng cg nf cf (hGl.le (h1.t h2|>.t h3|>.t h4)) (hFn.le (h1.t h2|>.t h3|>.t h4)) (PV.of hU As)) ?_
   rintro _ _ s7 h7 ⟨rfl,rfl⟩
   refine Zg Z Z<|qik Z Z Z Z<|Zg Z Z<|qbA Z Z Z<|ZqT Z Z Z<|Zn<|?_
   refine qaa (MidB.mk h7 Sb Z (decide_eq_decide.2 O))
  refine Wf Y4<|Wf Y4<|Wf Y4<|Wf Y4<|ZqF Z Z Z<|Zn<|?_
  refine qaa (MidB.mk (Lr D) Sb Z ((decide_eq_false O).symm))
 intro s5 h5
 refine qab Z (fun c8=>?_) (fun c8=>?_)
 ·
  have hE:=qnD (qe0 c8.1) c8.2
  refine Zr<|Jc Z Z Z (qdZ D _ _ _ _) ?_
  rintro _ _ s9 h9 ⟨rfl,rfl⟩
  refine Wt 0 [_,_] Y9<|Nt<|Sr<|qaf (qan 0 [_,_] Z Z Z Z Z) Z<|Wt 1 [_,_] Y9<|Nt<|Zo<|?_
  refine rR [_,_,_] L (.agg (us:=[_,_]) 1 Z Z Z Z Z (.nil)) Z (h1.t h2|>.t h3|>.t h4|>.t h5|>.t h9) fun _ hS2=>?_
  exact ⟨by rw [hE];rfl,rfl⟩
 have hE:qd2 p=qbe p:=by
   by_cases h0:(qbe p).1=0
   · rw [qr1 (qe0 h0) (fun h=>c8 ⟨h0,h⟩),qe0 h0]
   · exact qnc h0
 refine Zk<|Zt<|Sr<|qaf (qan 0 [_,_] Z Z Z Z Z) Z<|Wt 1 [_,_] Y9<|Nt<|Zo<|?_
 refine rR [_,_,_] L (.agg (us:=[_,_]) 1 Z Z Z Z Z (.nil)) Z (h1.t h2|>.t h3|>.t h4|>.t h5) fun _ hS2=>?_
 exact ⟨by rw [hE];rfl,rfl⟩
theorem qgy(D:Nat)(L:Hl)(s:World)(A:Option Addr)(n c:Nat)(l:List Str)(hA:Strs s A n c l)(A1:Option Addr)(n1 c1:Nat)(l1:List Str)(hB:Strs s A1 n1 c1 l1):AC prog D 64 [.slice A n c,.slice A1 n1 c1] L s fun v L' _=>v=.bool (decide (l=l1))∧L=L':=by
 have hn:=hA.1
 have hc1:=hA.2.1
 have hc2:=hA.2.2.1
 have hn1:=hB.1
 refine qai (fn:=f64) qaq func64 V Z ntmps64 Z (rs:=[.tmp 4]) Z [(0,_),(1,_)] Z<|Sr<|At Z Z<|Zs<|Sr<|Zqm Z Z<|Ws Y4<|Zqm Z Z<|Ws Y4<|qcj Z Z Z<|Nt<|?_
 refine qaK Z (fun c1=>?_) (fun c1=>?_)
 ·
  refine Sr<|At Z Z<|Zo<|Zu<|?_
  refine rR [] L (.t1 Z) Z (Lr D) fun _ hS2=>?_
  refine ⟨?_,Z⟩
  have h0:l≠l1:=fun e=>by subst e;omega
  simp [qaA,h0];done
 refine Zk<|Zt<|Zs<|Sr<|At Z Z<|Zp<|qat (γ:=Nat) (fun k=>[(0,_),(1,_),(4,_),(5,.int .i64 (k:Int))]) (fun _=>_) (fun k tw=>Le D s tw∧(k≤n∧∀ i x,i < k→l[i]?=some x→l1[i]?=some x)) (fun k=>n - k) (fun _ _ _ h hl=>⟨h.1.trans hl,h.2⟩) 0 (.c4 Z Z Z Z (.nil _)) Z ⟨Le.refl _,⟨Nat.zero_le _,fun i c hi=>by omega⟩⟩ ?_
 intro k s2 I2
 have hk0:=I2.2.1
 have hI:=I2.2.2
 refine Zs<|Sr<|Zqm Z Z<|Zqm Z Z<|Ws Y4<|qba Z Z Z<|Nt<|?_
 refine qab Z (fun c3=>?_) (fun c3=>?_)
 ·
  have hk:k < n:=by omega
  obtain ⟨b,off,x,rfl,hx,hcx,_⟩:=Strs.at_ (hA.le I2.1) hk
  obtain ⟨b1,off1,y,rfl,hy,hcy,_⟩:=Strs.at_ (hB.le I2.1) (show k < n1 by omega)
  refine Zk<|Zt<|Zs<|Zp<|Zs<|qay qag 9 Z _ (fun _ h=>h) ?_
  intro s4 h4
  refine za 0 Z (qar Z) Z<|za 1 Z (qar Z) Z<|za 2 Z (qaH Z Z Z Z Z Z hk) Z<|za 3 Z (qaj Z Z Z (hcx.le h4) Z) Z<|za 4 Z (qar Z) Z<|za 5 Z (qar Z) Z<|za 6 Z (qaH Z Z Z Z Z Z (show k < n1 by omega)) Z<|za 7 Z (qaj Z Z Z (hcy.le h4) Z) Z<|za 8 Z (qha Z Z) Z<|qad V<|Zt ?_
  refine qaK Z (fun c5=>?_) (fun c5=>?_)
  ·
   have hE:x≠y:=by assumption
   refine Sr<|At Z Z<|Zo<|Zc<|Zu<|Zu<|Zc<|Zu<|?_
   refine rR [] L (.t1 Z) Z (I2.1.t h4) fun _ hS2=>?_
   refine ⟨?_,Z⟩
   have h0:l≠l1:=qgQ hx hy hE
   simp [qaA,h0];done
  have hE:x=y:=by simpa using c5
  refine Zk<|Zb<|Zt<|Zr<|Zqm Z Z<|qaG Z Z Z (w64 O O)<|Zqa Z Z<|Zn<|?_
  refine qaa ⟨(k+1),[],kp,Z,⟨(I2.1.t h4),⟨by omega,qa9 hI hx (hE▸hy)⟩⟩,O⟩
 refine Zl<|Zv<|Zv<|Zd<|Zt<|Sr<|At Z Z<|Zo<|?_
 refine rR [] L (.t1 Z) Z I2.1 fun _ hS2=>?_
 refine ⟨?_,Z⟩
 have h0:l=l1:=qgP O (fun i x hi h=>hI i x O h)
 simp [qaA,h0];done
def SEC(D d:Nat):Prop:=∀ (L:Hl) (s:World) (d2:Nat) (A B:Option Addr) (n m c c2:Nat) (l:List Ex),Exs d s A n c l→Exs d2 s B m c2 l→AC prog D 37 [.slice A n c,.slice B m c2] L s fun v L' _=>v=.bool true∧L=L'
def SSC(D d:Nat):Prop:=∀ (L:Hl) (s:World) (d2:Nat) (A B:Option Addr) (n m c c2:Nat) (l:List Stm),Stms d s A n c l→Stms d2 s B m c2 l→AC prog D 65 [.slice A n c,.slice B m c2] L s fun v L' _=>v=.bool true∧L=L'
theorem qgZ(D d:Nat)(ih:∀ e,d=e+1→SEC D e)(L:Hl)(s:World)(d2:Nat)(A B:Option Addr)(n m c c2:Nat)(l:List Ex)(hA:Exs d s A n c l)(hB:Exs d2 s B m c2 l):AC prog D 37 [.slice A n c,.slice B m c2] L s fun v L' _=>v=.bool true∧L=L':=by
 have hn:=hA.1
 have hq1:=hA.2.1
 have hq2:=hA.2.2.1
 have hm:=hB.1
 obtain rfl:n=m:=by omega
 refine qai (fn:=f37) qaq func37 V Z ntmps37 Z (rs:=[.tmp 4]) Z [(0,_),(1,_)] Z<|Sr<|At Z Z<|Zs<|Sr<|Zqm Z Z<|Ws Y4<|Zqm Z Z<|Ws Y4<|qaf (qaw (v':=.bool false) (qcB Z Z) (bF Z)) Z<|Nt<|Zz Z<|Zk<|Zt<|Zs<|Sr<|At Z Z<|Zp<|?_
 refine qat (γ:=Nat) (fun k=>[(0,_),(1,_),(4,_),(5,.int .i64 (k:Int))]) (fun _=>_) (fun k tw=>Le D s tw∧(k≤n)) (fun k=>n - k) (fun _ _ _ h hl=>⟨h.1.trans hl,h.2⟩) 0 (.c4 Z Z Z Z (.nil _)) Z ⟨Le.refl _,Nat.zero_le _⟩ ?_
 intro k s1 I1
 have hk0:=I1.2
 refine Zs<|Sr<|Zqm Z Z<|Zqm Z Z<|Ws Y4<|qba Z Z Z<|Nt<|?_
 refine qab Z (fun c2=>?_) (fun c2=>?_)
 ·
  have hk:k < n:=by omega
  obtain ⟨e,b,off,x,A1,n1,p1,hd,rfl,hx,hcx,hax,hux,hnl⟩:=Exs.at_ (hA.le I1.1) hk
  obtain ⟨e2,b2,off2,y,B1,m1,p2,hd2,rfl,hy,hcy,hay,huy,hny⟩:=Exs.at_ (hB.le I1.1) hk
  obtain rfl:x=y:=Option.some.inj (hx.symm.trans hy)
  refine Zk<|Zt<|Zs<|Zp<|Sr<|Zqm Z Z<|Zqm Z Z<|qaf (qap Z Z Z Z Z Z hk) Z<|qaf (qas Z Z Z (hcx.le (Lr D)) Z) Z<|qae Z [_,_,_,_,_] Z Z ?_
  intro β3 s3 h3
  refine Wt 0 [_,_,_,_,_] Y9<|Nt<|Sr<|Zqm Z Z<|Zqm Z Z<|qaf (qap Z Z Z Z Z Z hk) Z<|qaf (qas Z Z Z (hcy.le h3) Z) Z<|qae Z [_,_,_,_,_] Z Z ?_
  intro β4 s4 h4
  refine Wt 0 [_,_,_,_,_] Y9<|Nt<|Sr<|W0 Y5<|Wl 1 Y6<|W0 Y5<|Wl 0 Y6<|qaf (qaw (v':=.bool false) (qcB Z Z) (bF Z)) Z<|Zqm Z Z<|Zg Z Z<|Wb Y5<|Zg Z Z<|Wl 1 Y6<|Zg Z Z<|Wb Y5<|Zg Z Z<|Wl 0 Y6<|Zg Z Z<|qaf (qaw (v':=.bool false) (qcB Z Z) (bF Z)) Z<|ZqF Z Z Z<|Zqm Z Z<|Zg Z Z<|Wb Y5<|Zg Z Z<|Wl 1 Y6<|Zg Z Z<|Wb Y5<|Zg Z Z<|Wl 0 Y6<|Zg Z Z<|?_
  refine qaf (qaw (v':=.bool false) (qcB Z Z) (bF Z)) Z<|ZqF Z Z Z<|Zqm Z Z<|Zg Z Z<|Wb Y5<|Zg Z Z<|Wl 1 Y6<|Zg Z Z<|Wb Y5<|Zg Z Z<|Wl 0 Y6<|Zg Z Z<|qaf (qaw (v':=.bool false) (qha Z Z) (bF Z)) Z<|ZqF Z Z Z<|Zqm Z Z<|Zg Z Z<|Wb Y5<|Zg Z Z<|Wl 1 Y6<|Zg Z Z<|Wb Y5<|Zg Z Z<|Wl 0 Y6<|Zg Z Z<|Jc Z Z Z (ih e hd _ _ e2 A1 B1 n1 m1 p1 p2 x.args (hax.le (h3.t h4)) (hay.le (h3.t h4))) ?_
  rintro _ _ s5 h5 ⟨rfl,rfl⟩
  refine Zg Z Z<|qnb Z Z<|ZqF Z Z Z<|Nt<|Zz Z<|Zk<|Zb<|Zt<|Zr<|Zqm Z Z<|qaG Z Z Z (w64 O O)<|Zqa Z Z<|Zn<|?_
  refine qaa ⟨(k+1),[_,_],kp,Z,⟨(I1.1.t h3|>.t h4|>.t h5),(show k+1≤n by omega)⟩,O⟩
 refine Zl<|Zv<|Zv<|Zd<|Zt<|Sr<|At Z Z<|Zo<|?_
 refine rR [] L (.t1 Z) Z I1.1 fun _ hS2=>?_
 exact ⟨rfl,rfl⟩
theorem qhw(D:Nat):∀ d,SEC D d
 | 0=>fun L s d2 A B n m c c2 l hA hB=>qgZ D 0 (fun e h=>by omega) L s d2 A B n m c c2 l hA hB
 | d+1=>fun L s d2 A B n m c c2 l hA hB=>qgZ D (d+1) (fun e h=>(show d=e by omega)▸qhw D d) L s d2 A B n m c c2 l hA hB
theorem qg2(D d:Nat)(ih:∀ e,d=e+1→SSC D e)(L:Hl)(s:World)(d2:Nat)(A B:Option Addr)(n m c c2:Nat)(l:List Stm)(hA:Stms d s A n c l)(hB:Stms d2 s B m c2 l):AC prog D 65 [.slice A n c,.slice B m c2] L s fun v L' _=>v=.bool true∧L=L':=by
 have hn:=hA.1
 have hq1:=hA.2.1
 have hq2:=hA.2.2.1
 have hm:=hB.1
 obtain rfl:n=m:=by omega
 refine qai (fn:=f65) qaq func65 V Z ntmps65 Z (rs:=[.tmp 4]) Z [(0,_),(1,_)] Z<|Sr<|At Z Z<|Zs<|Sr<|Zqm Z Z<|Ws Y4<|Zqm Z Z<|Ws Y4<|qaf (qaw (v':=.bool false) (qcB Z Z) (bF Z)) Z<|Nt<|Zz Z<|Zk<|Zt<|Zs<|Sr<|At Z Z<|Zp<|?_
 refine qat (γ:=Nat) (fun k=>[(0,_),(1,_),(4,_),(5,.int .i64 (k:Int))]) (fun _=>_) (fun k tw=>Le D s tw∧(k≤n)) (fun k=>n - k) (fun _ _ _ h hl=>⟨h.1.trans hl,h.2⟩) 0 (.c4 Z Z Z Z (.nil _)) Z ⟨Le.refl _,Nat.zero_le _⟩ ?_
 intro k s1 I1
 have hk0:=I1.2
 refine Zs<|Sr<|Zqm Z Z<|Zqm Z Z<|Ws Y4<|qba Z Z Z<|Nt<|?_
 refine qab Z (fun c2=>?_) (fun c2=>?_)
 ·
  have hk:k < n:=by omega
  obtain ⟨e,b,off,x,A1,n1,p1,A2,n2,p2,A3,n3,p3,hd,rfl,hx,hcx,ha1,ha2,ha3,hnl⟩:=Stms.at_ (hA.le I1.1) hk
  obtain ⟨e2,b2,off2,y,B1,m1,u1,B2,m2,u2,B3,m3,u3,hd2,rfl,hy,hcy,hb1,hb2,hb3,hny⟩:=Stms.at_ (hB.le I1.1) hk
  obtain rfl:x=y:=Option.some.inj (hx.symm.trans hy)
  refine Zk<|Zt<|Zs<|Zp<|Sr<|Zqm Z Z<|Zqm Z Z<|qaf (qap Z Z Z Z Z Z hk) Z<|qaf (qas Z Z Z (hcx.le (Lr D)) Z) Z<|qae Z [_,_,_,_,_] Z Z ?_
  intro β3 s3 h3
  refine Wt 0 [_,_,_,_,_] Y9<|Nt<|Sr<|Zqm Z Z<|Zqm Z Z<|qaf (qap Z Z Z Z Z Z hk) Z<|qaf (qas Z Z Z (hcy.le h3) Z) Z<|qae Z [_,_,_,_,_] Z Z ?_
  intro β4 s4 h4
  refine Wt 0 [_,_,_,_,_] Y9<|Nt<|Sr<|W0 Y5<|Wl 1 Y6<|W0 Y5<|Wl 0 Y6<|qaf (qaw (v':=.bool false) (qcB Z Z) (bF Z)) Z<|Zqm Z Z<|Zg Z Z<|Wb Y5<|Zg Z Z<|Wl 1 Y6<|Zg Z Z<|Wb Y5<|Zg Z Z<|Wl 0 Y6<|Zg Z Z<|qaf (qaw (v':=.bool false) (qha Z Z) (bF Z)) Z<|ZqF Z Z Z<|Zqm Z Z<|Zg Z Z<|Wb Y5<|Zg Z Z<|Wl 1 Y6<|Zg Z Z<|Wb Y5<|Zg Z Z<|Wl 0 Y6<|Zg Z Z<|?_
  refine Jc Z Z Z (qhw D e _ _ e2 A1 B1 n1 m1 p1 u1 x.exprs (ha1.le (h3.t h4)) (hb1.le (h3.t h4))) ?_
  rintro _ _ s5 h5 ⟨rfl,rfl⟩
  refine Zg Z Z<|qnb Z Z<|ZqF Z Z Z<|Zqm Z Z<|Zg Z Z<|Wb Y5<|Zg Z Z<|Wl 1 Y6<|Zg Z Z<|Wb Y5<|Zg Z Z<|Wl 0 Y6<|Zg Z Z<|Jc Z Z Z (ih e hd _ _ e2 A2 B2 n2 m2 p2 u2 x.body (ha2.le (h3.t h4|>.t h5)) (hb2.le (h3.t h4|>.t h5))) ?_
  rintro _ _ s6 h6 ⟨rfl,rfl⟩
  refine Zg Z Z<|qnb Z Z<|ZqF Z Z Z<|Zqm Z Z<|Zg Z Z<|Wb Y5<|Zg Z Z<|Wl 1 Y6<|Zg Z Z<|Wb Y5<|Zg Z Z<|Wl 0 Y6<|Zg Z Z<|Jc Z Z Z (ih e hd _ _ e2 A3 B3 n3 m3 p3 u3 x.els (ha3.le (h3.t h4|>.t h5|>.t h6)) (hb3.le (h3.t h4|>.t h5|>.t h6))) ?_
  rintro _ _ s7 h7 ⟨rfl,rfl⟩
  refine Zg Z Z<|qnb Z Z<|ZqF Z Z Z<|Nt<|Zz Z<|Zk<|Zb<|Zt<|Zr<|Zqm Z Z<|qaG Z Z Z (w64 O O)<|Zqa Z Z<|Zn<|?_
  refine qaa ⟨(k+1),[_,_],kp,Z,⟨(I1.1.t h3|>.t h4|>.t h5|>.t h6|>.t h7),(show k+1≤n by omega)⟩,O⟩
 refine Zl<|Zv<|Zv<|Zd<|Zt<|Sr<|At Z Z<|Zo<|?_
 refine rR [] L (.t1 Z) Z I1.1 fun _ hS2=>?_
 exact ⟨rfl,rfl⟩
theorem qkl(D:Nat):∀ d,SSC D d
 | 0=>fun L s d2 A B n m c c2 l hA hB=>qg2 D 0 (fun e h=>by omega) L s d2 A B n m c c2 l hA hB
 | d+1=>fun L s d2 A B n m c c2 l hA hB=>qg2 D (d+1) (fun e h=>(show d=e by omega)▸qkl D d) L s d2 A B n m c c2 l hA hB
theorem qnS(D:Nat)(L:Hl)(s:World)(d:Nat)(p:Prg)(Ag Af:Option Addr)(ng cg nf cf:Nat)(hGl:Glos s Ag ng cg p.globals)(hFn:Fncs d s Af nf cf p.funcs)(d2:Nat)(Bg Bf:Option Addr)(mg eg mf ef:Nat)(hGl2:Glos s Bg mg eg p.globals)(hFn2:Fncs d2 s Bf mf ef p.funcs):AC prog D 36 [.agg #[.slice Ag ng cg,.slice Af nf cf],.agg #[.slice Bg mg eg,.slice Bf mf ef]] L s fun v L' _=>v=.bool true∧L=L':=by
 have hn:=hGl.1
 have hq1:=hGl.2.1
 have hq2:=hGl.2.2.1
 have hm:=hGl2.1
 obtain rfl:ng=mg:=by omega
 have hn3:=hFn.1
 have hq3:=hFn.2.1
 have hq4:=hFn.2.2.1
 have hm2:=hFn2.1
 obtain rfl:nf=mf:=by omega
 refine qai (fn:=f36) qaq func36 V Z ntmps36 Z (rs:=[.tmp 4]) Z [(0,_),(1,_)] Z<|Sr<|qau Z Z ?_
 intro β1 s1 h1
 refine qau Z Z ?_
 intro β2 s2 h2
 refine At Z Z<|Zs<|Sr<|W0 Y5<|Wl 1 Y6<|Ws Y4<|W0 Y5<|Wl 0 Y6<|Ws Y4<|qaf (qaw (v':=.bool false) (qcB Z Z) (bF Z)) Z<|Zqm Z Z<|Zg Z Z<|Wb Y5<|Zg Z Z<|Wl 1 Y6<|Zg Z Z<|Ws Y4<|Zg Z Z<|Wb Y5<|Zg Z Z<|Wl 0 Y6<|Zg Z Z<|Ws Y4<|Zg Z Z<|qaf (qaw (v':=.bool false) (qcB Z Z) (bF Z)) Z<|ZqF Z Z Z<|Nt<|Zz Z<|Zk<|Zt<|Zs<|Sr<|At Z Z<|Zp ?_
 refine qat (γ:=Nat) (fun k=>[(2,_),(3,_),(4,_),(5,.int .i64 (k:Int))]) (fun _=>_) (fun k tw=>Le D s2 tw∧(k≤ng)) (fun k=>ng - k) (fun _ _ _ h hl=>⟨h.1.trans hl,h.2⟩) 0 (.c4 Z Z Z Z (.nil _)) Z ⟨Le.refl _,Nat.zero_le _⟩ ?_
 intro k s3 I3
 have hk0:=I3.2
 refine Zs<|Sr<|Zqm Z Z<|W0 Y5<|Wl 1 Y6<|Ws Y4<|qba Z Z Z<|Nt<|?_
 refine qab Z (fun c4=>?_) (fun c4=>?_)
 ·
  have hk:k < ng:=by omega
  obtain ⟨b,off,x,A1,n1,p1,rfl,hx,hcx,hax,hux,hnl⟩:=Glos.at_ (hGl.le (h1.t h2|>.t I3.1)) hk
  obtain ⟨b2,off2,y,B1,m1,p2,rfl,hy,hcy,hay,huy,hny⟩:=Glos.at_ (hGl2.le (h1.t h2|>.t I3.1)) hk
  obtain rfl:x=y:=Option.some.inj (hx.symm.trans hy)
  refine Zk<|Zt<|Zs<|Zp<|Sr<|W0 Y5<|Wl 1 Y6<|Zqm Z Z<|qaf (qap Z Z Z Z Z Z hk) Z<|qaf (qas Z Z Z (hcx.le (Lr D)) Z) Z<|qae Z [_,_,_,_] Z Z ?_
  intro β5 s5 h5
  refine Wt 0 [_,_,_,_] Y9<|Nt<|Sr<|W0 Y5<|Wl 1 Y6<|Zqm Z Z<|qaf (qap Z Z Z Z Z Z hk) Z<|qaf (qas Z Z Z (hcy.le h5) Z) Z<|qae Z [_,_,_,_] Z Z ?_
  intro β6 s6 h6
  refine Wt 0 [_,_,_,_] Y9<|Nt<|Sr<|W0 Y5<|Wl 1 Y6<|W0 Y5<|Wl 0 Y6<|qaf (qaw (v':=.bool false) (qcB Z Z) (bF Z)) Z<|Zqm Z Z<|Zg Z Z<|Wb Y5<|Zg Z Z<|Wl 1 Y6<|Zg Z Z<|Wb Y5<|Zg Z Z<|Wl 0 Y6<|Zg Z Z<|qaf (qaw (v':=.bool false) (qha Z Z) (bF Z)) Z<|ZqF Z Z Z<|Zqm Z Z<|Zg Z Z<|Wb Y5<|Zg Z Z<|Wl 1 Y6<|Zg Z Z<|Wb Y5<|Zg Z Z<|Wl 0 Y6<|Zg Z Z<|?_
  refine qaf (qaw (v':=.bool false) (qcB Z Z) (bF Z)) Z<|ZqF Z Z Z<|Zqm Z Z<|Zg Z Z<|Wb Y5<|Zg Z Z<|Wl 1 Y6<|Zg Z Z<|Wb Y5<|Zg Z Z<|Wl 0 Y6<|Zg Z Z<|Jc Z Z Z (AC.isT (qin D _ _ A1 n1 p1 x.init (hax.le (h5.t h6)) B1 m1 p2 x.init (hay.le (h5.t h6))) Z) ?_
  rintro _ _ s7 h7 ⟨rfl,rfl⟩
  refine Zg Z Z<|qnb Z Z<|ZqF Z Z Z<|Nt<|Zz Z<|Zk<|Zb<|Zt<|Zr<|Zqm Z Z<|qaG Z Z Z (w64 O O)<|Zqa Z Z<|Zn<|?_
  refine qaa ⟨(k+1),[_,_],kp,Z,⟨(I3.1.t h5|>.t h6|>.t h7),(show k+1≤ng by omega)⟩,O⟩
 refine Zl<|Zv<|Zv<|Zd<|Zt<|Zs<|Sr<|At Z Z<|Zp<|qat (γ:=Nat) (fun k=>[(2,_),(3,_),(4,_),(8,.int .i64 (k:Int))]) (fun _=>_) (fun k tw=>Le D s3 tw∧(k≤nf)) (fun k=>nf - k) (fun _ _ _ h hl=>⟨h.1.trans hl,h.2⟩) 0 (.c4 Z Z Z Z (.nil _)) Z ⟨Le.refl _,Nat.zero_le _⟩ ?_
 intro k s8 I8
 have hk0:=I8.2
 refine Zs<|Sr<|Zqm Z Z<|Wb Y5<|Wl 1 Y6<|Ws Y4<|qba Z Z Z<|Nt<|?_
 refine qab Z (fun c9=>?_) (fun c9=>?_)
 ·
  have hk:k < nf:=by omega
  obtain ⟨b,off,x,A1,n1,p1,A2,n2,p2,A3,n3,p3,rfl,hx,hcx,ha1,ha2,ha3,hnl⟩:=Fncs.at_ (hFn.le (h1.t h2|>.t I3.1|>.t I8.1)) hk
  obtain ⟨b2,off2,y,B1,m1,u1,B2,m2,u2,B3,m3,u3,rfl,hy,hcy,hb1,hb2,hb3,hny⟩:=Fncs.at_ (hFn2.le (h1.t h2|>.t I3.1|>.t I8.1)) hk
  obtain rfl:x=y:=Option.some.inj (hx.symm.trans hy)
  refine Zk<|Zt<|Zs<|Zp<|Sr<|Wb Y5<|Wl 1 Y6<|Zqm Z Z<|qaf (qap Z Z Z Z Z Z hk) Z<|qaf (qas Z Z Z (hcx.le (Lr D)) Z) Z<|qae Z [_,_,_,_] Z Z ?_
  intro β10 s10 h10
  refine Wt 0 [_,_,_,_] Y9<|Nt<|Sr<|Wb Y5<|Wl 1 Y6<|Zqm Z Z<|qaf (qap Z Z Z Z Z Z hk) Z<|qaf (qas Z Z Z (hcy.le h10) Z) Z<|qae Z [_,_,_,_] Z Z ?_
  intro β11 s11 h11
  refine Wt 0 [_,_,_,_] Y9<|Nt<|Sr<|W0 Y5<|Wl 1 Y6<|W0 Y5<|Wl 0 Y6<|qaf (qaw (v':=.bool false) (qha Z Z) (bF Z)) Z<|Zqm Z Z<|Zg Z Z<|Wb Y5<|Zg Z Z<|Wl 1 Y6<|Zg Z Z<|Wb Y5<|Zg Z Z<|Wl 0 Y6<|Zg Z Z<|Jc Z Z Z (AC.isT (qgy D _ _ A1 n1 p1 x.params (ha1.le (h10.t h11)) B1 m1 u1 x.params (hb1.le (h10.t h11))) Z) ?_
  rintro _ _ s12 h12 ⟨rfl,rfl⟩
  refine Zg Z Z<|qnb Z Z<|ZqF Z Z Z<|Zqm Z Z<|Zg Z Z<|Wb Y5<|Zg Z Z<|Wl 1 Y6<|Zg Z Z<|Wb Y5<|Zg Z Z<|Wl 0 Y6<|Zg Z Z<|Jc Z Z Z (AC.isT (qgy D _ _ A2 n2 p2 x.locals (ha2.le (h10.t h11|>.t h12)) B2 m2 u2 x.locals (hb2.le (h10.t h11|>.t h12))) Z) ?_
  rintro _ _ s13 h13 ⟨rfl,rfl⟩
  refine Zg Z Z<|qnb Z Z<|ZqF Z Z Z<|Zqm Z Z<|Zg Z Z<|Wb Y5<|Zg Z Z<|Wl 1 Y6<|Zg Z Z<|Wb Y5<|Zg Z Z<|Wl 0 Y6<|Zg Z Z<|Jc Z Z Z (qkl D d _ _ d2 A3 B3 n3 m3 p3 u3 x.body (ha3.le (h10.t h11|>.t h12|>.t h13)) (hb3.le (h10.t h11|>.t h12|>.t h13))) ?_
  rintro _ _ s14 h14 ⟨rfl,rfl⟩
  refine Zg Z Z<|qnb Z Z<|ZqF Z Z Z<|Nt<|Zz Z<|Zk<|Zb<|Zt<|Zr<|Zqm Z Z<|qaG Z Z Z (w64 O O)<|Zqa Z Z<|Zn<|?_
  refine qaa ⟨(k+1),[_,_],kp,Z,⟨(I8.1.t h10|>.t h11|>.t h12|>.t h13|>.t h14),(show k+1≤nf by omega)⟩,O⟩
 refine Zl<|Zv<|Zv<|Zd<|Zt<|Sr<|At Z Z<|Zo<|?_
 refine rR [_,_] L (.t1 Z) Z (h1.t h2|>.t I3.1|>.t I8.1) fun _ hS2=>?_
 exact ⟨rfl,rfl⟩
theorem qe8(D:Nat)(L:Hl)(s:World)(A:Option Addr)(n c:Nat)(l:List Str)(hA:Strs s A n c l)(w:List UInt8):AC prog D 25 [.slice A n c,St w] L s fun v L' _=>v=.int .i64 (qa6 (fun x=>decide (w=x)) l 0)∧L=L':=by
 have hn:=hA.1
 have hc1:=hA.2.1
 have hc2:=hA.2.2.1
 refine qai (fn:=f25) qaq func25 V Z ntmps25 Z (rs:=[.tmp 4]) Z [(0,_),(1,_)] Z<|Sr<|At Z Z<|Zs<|Sr<|At Z Z<|Zp<|qat (γ:=Nat) (fun k=>[(0,_),(1,_),(4,_),(5,.int .i64 (k:Int))]) (fun _=>_) (fun k tw=>Le D s tw∧(k≤n∧∀ i x,i < k→l[i]?=some x→decide (w=x)=false)) (fun k=>n - k) (fun _ _ _ h hl=>⟨h.1.trans hl,h.2⟩) 0 (.c4 Z Z Z Z (.nil _)) Z ⟨Le.refl _,⟨Nat.zero_le _,fun i x hi=>by omega⟩⟩ ?_
 intro k s1 I1
 have hk0:=I1.2.1
 have hI:=I1.2.2
 refine Zs<|Sr<|Zqm Z Z<|Zqm Z Z<|Ws Y4<|qba Z Z Z<|Nt<|?_
 refine qab Z (fun c2=>?_) (fun c2=>?_)
 ·
  have hk:k < n:=by omega
  obtain ⟨b,off,x,rfl,hx,hcx,_⟩:=Strs.at_ (hA.le I1.1) hk
  refine Zk<|Zt<|Zs<|Zp<|Sr<|Zqm Z Z<|Zqm Z Z<|qaf (qaH Z Z Z Z Z Z hk) Z<|qaf (qaj Z Z Z (hcx.le (Lr D)) Z) Z<|Zqm Z Z<|qll Z Z Z<|Nt<|?_
  refine qab Z (fun c3=>?_) (fun c3=>?_)
  ·
   have hz:decide (w=x)=true:=decide_eq_true (Eq.symm c3)
   refine Sr<|Zqm Z Z<|At Z Z<|Zo<|Zc<|Zu<|Zu<|Zc<|Zu<|?_
   refine rR [] L (.t1 Z) Z I1.1 fun _ hS2=>?_
   refine ⟨?_,Z⟩
   simp only [qaA];rw [qcz hI hx hz,Nat.zero_add]
  have hz:decide (w=x)=false:=decide_eq_false (fun h=>c3 h.symm)
  refine Zk<|Zb<|Zt<|Zr<|Zqm Z Z<|qaG Z Z Z (w64 O O)<|Zqa Z Z<|Zn<|?_
  refine qaa ⟨(k+1),[],kp,Z,⟨I1.1,⟨by omega,qa9 hI hx hz⟩⟩,O⟩
 refine Zl<|Zv<|Zv<|Zd<|Zt<|Sr<|At Z Z<|Zo<|?_
 refine rR [] L (.t1 Z) Z I1.1 fun _ hS2=>?_
 refine ⟨?_,Z⟩
 simp only [qaA];rw [qcF (fun i x hi h=>hI i x O h)]
theorem qm8(D:Nat)(L:Hl)(s:World)(d:Nat)(p:Prg)(Ag Af:Option Addr)(ng cg nf cf:Nat)(hGl:Glos s Ag ng cg p.globals)(hFn:Fncs d s Af nf cf p.funcs):AC prog D 26 [.agg #[.slice Ag ng cg,.slice Af nf cf]] L s fun v L' _=>v=.int .i64 (qcu p.funcs)∧L=L':=by
 have hn:=hFn.1
 have hc1:=hFn.2.1
 have hc2:=hFn.2.2.1
 refine qai (fn:=f26) qaq func26 V Z ntmps26 Z (rs:=[.tmp 2]) Z [(0,_)] Z<|Sr<|qau Z Z ?_
 intro β1 s1 h1
 refine At Z Z<|Zs<|Sr<|At Z Z<|Zp<|qat (γ:=Nat) (fun k=>[(1,_),(2,_),(3,.int .i64 (k:Int))]) (fun _=>_) (fun k tw=>Le D s1 tw∧(k≤nf∧∀ i x,i < k→p.funcs[i]?=some x→decide (x.name=qbw)=false)) (fun k=>nf - k) (fun _ _ _ h hl=>⟨h.1.trans hl,h.2⟩) 0 (.c3 Z Z Z (.nil _)) Z ⟨Le.refl _,⟨Nat.zero_le _,fun i x hi=>by omega⟩⟩ ?_
 intro k s2 I2
 have hk0:=I2.2.1
 have hI:=I2.2.2
 refine Zs<|Sr<|Zqm Z Z<|Wb Y5<|Wl 0 Y6<|Ws Y4<|qba Z Z Z<|Nt<|?_
 refine qab Z (fun c3=>?_) (fun c3=>?_)
 ·
  have hk:k < nf:=by omega
  obtain ⟨b,off,x,B1,m1,d1,B2,m2,d2,B3,m3,d3,rfl,hx,hcx,hpx,hlx,hbx,hnl⟩:=Fncs.at_ (hFn.le (h1.t I2.1)) hk
  refine Zk<|Zt<|Zs<|Zp<|Sr<|Wb Y5<|Wl 0 Y6<|Zqm Z Z<|qaf (qap Z Z Z Z Z Z hk) Z<|W0 Y5<|qaf (qaj Z Z Z (hcx.le (Lr D)) Z) Z<|qll Z Z Z<|Nt<|?_
  refine qab Z (fun c4=>?_) (fun c4=>?_)
  ·
   have hz:decide (x.name=qbw)=true:=decide_eq_true c4
   refine Sr<|Zqm Z Z<|At Z Z<|Zo<|Zc<|Zu<|Zu<|Zc<|Zu<|?_
   refine rR [_] L (.t1 Z) Z (h1.t I2.1) fun _ hS2=>?_
   refine ⟨?_,Z⟩
   simp only [qaA];rw [qcu,qcz hI hx hz,Nat.zero_add]
  have hz:decide (x.name=qbw)=false:=decide_eq_false c4
  refine Zk<|Zb<|Zt<|Zr<|Zqm Z Z<|qaG Z Z Z (w64 O O)<|Zqa Z Z<|Zn<|?_
  refine qaa ⟨(k+1),[],kp,Z,⟨I2.1,⟨by omega,qa9 hI hx hz⟩⟩,O⟩
 refine Zl<|Zv<|Zv<|Zd<|Zt<|Sr<|At Z Z<|Zo<|?_
 refine rR [_] L (.t1 Z) Z (h1.t I2.1) fun _ hS2=>?_
 refine ⟨?_,Z⟩
 simp only [qaA];rw [qcu,qcF (fun i x hi h=>hI i x O h)]
theorem qng{l:List (Str×(Int×Int))}{nm:Str}{k:Nat}{e:Str×(Int×Int)}(h:∀ i y,i < k→l[i]?=some y→¬ y.1=nm)(hk:l[k]?=some e)(he:e.1=nm):l.find? (fun y=>decide (y.1=nm))=some e:=by
 induction l generalizing k with
 | nil=>cases hk
 | cons y l ih=>
  cases k with
  | zero=>simp at hk;subst hk;simp [List.find?,he]
  | succ k=>
   have h0:=h 0 y O rfl
   simp only [List.find?,h0,decide_false]
   exact ih (k:=k) (fun i z hi hz=>h (i+1) z O (by simpa using hz)) (by simpa using hk)
theorem qn7{l:List (Str×(Int×Int))}{nm:Str}(h:∀ i y,i < l.length→l[i]?=some y→¬ y.1=nm):l.find? (fun y=>decide (y.1=nm))=none:=by
 rw [List.find?_eq_none]
 intro y hy
 obtain ⟨i,hi⟩:=List.mem_iff_getElem?.1 hy
 simp [h i y (List.getElem?_eq_some_iff.1 hi).1 hi]
theorem qnp(D:Nat)(L:Hl)(s:World)(d:Nat)(p:Prg)(Ag Af:Option Addr)(ng cg nf cf:Nat)(hGl:Glos s Ag ng cg p.globals)(hFn:Fncs d s Af nf cf p.funcs)(f:Nat)(x:Fnc)(hx0:p.funcs[f]?=some x)(nm:List UInt8):AC prog D 57 [.agg #[.slice Ag ng cg,.slice Af nf cf],.int .i64 (f:Int),St nm] L s fun v L' _=>v=.agg #[.int .i64 (qaz p x nm).1.1,.int .i64 (qaz p x nm).1.2]∧L=L':=by
 have hn1:=hGl.1
 have hn2:=hFn.1
 have hq1:=hGl.2.1
 have hq2:=hGl.2.2.1
 have hq3:=hFn.2.1
 have hq4:=hFn.2.2.1
 have hfl:=(List.getElem?_eq_some_iff.1 hx0).1
 have hfn:f < nf:=by omega
 obtain ⟨b,off,x9,B1,m1,d1,B2,m2,d2,B3,m3,d3,hAf,hx9,hcx,hpx,hlx,hbx,hnl⟩:=Fncs.at_ hFn hfn
 obtain rfl:x=x9:=Option.some.inj (hx0.symm.trans hx9)
 subst hAf
 refine qai (fn:=f57) qaq func57 V Z ntmps57 Z (rs:=[.cell 6 79]) Z [(0,_),(1,_),(2,_)] Z<|Sr<|qau Z Z ?_
 intro β1 s1 h1
 refine qae Z [_,_] Z Z ?_
 intro β2 s2 h2
 refine Nt<|Sr<|Wb Y5<|Wl 1 Y6<|Zqm Z Z<|qaf (qap Z Z Z Z Z Z hfn) Z<|qaf (qas Z Z Z (hcx.le (h1.t h2)) Z) Z<|qae Z [_,_,_,_] Z Z ?_
 intro β3 s3 h3
 refine Wt 0 [_,_,_,_] Y9<|Nt<|Sr<|Wb Y5<|Wl 0 Y6<|Zqm Z Z<|Jc Z Z Z (qe8 D _ _ B1 m1 d1 x.params (hpx.le (h1.t h2|>.t h3)) nm) ?_
 rintro _ _ s4 h4 ⟨rfl,rfl⟩
 refine At Z Z<|Zs<|Sr<|Zqm Z Z<|qf1 Z Z Z<|Nt<|?_
 refine qab Z (fun c5=>?_) (fun c5=>?_)
 ·
  have hE:(qaz p x nm).1=(1,qa6 (fun y=>decide (nm=y)) x.params 0):=by rw [qaz,if_pos c5]
  refine Sr<|Zqm Z Z<|qaf (qam [(_,_),(_,_)] [_,_] Z Z Z Z Z Z) Z<|Wt 1 [_,_] Y9<|Nt<|Zo<|Zu<|?_
  refine rR [_,_,_] L (.agg (us:=[_,_]) 1 Z Z Z Z Z (.nil)) Z (h1.t h2|>.t h3|>.t h4) fun _ hS2=>?_
  exact ⟨by rw [hE];rfl,rfl⟩
 have g21:=c5
 refine Zk<|Zt<|Sr<|Wb Y5<|Wl 0 Y6<|Zqm Z Z<|Jc Z Z Z (qe8 D _ _ B2 m2 d2 x.locals (hlx.le (h1.t h2|>.t h3|>.t h4)) nm) ?_
 rintro _ _ s6 h6 ⟨rfl,rfl⟩
 refine At Z Z<|Zs<|Sr<|Zqm Z Z<|qf1 Z Z Z<|Nt<|?_
 refine qab Z (fun c7=>?_) (fun c7=>?_)
 ·
  have hE:(qaz p x nm).1=(2,qa6 (fun y=>decide (nm=y)) x.locals 0):=by rw [qaz,if_neg g21,if_pos c7]
  refine Sr<|Zqm Z Z<|qaf (qam [(_,_),(_,_)] [_,_] Z Z Z Z Z Z) Z<|Wt 1 [_,_] Y9<|Nt<|Zo<|Zu<|?_
  refine rR [_,_,_] L (.agg (us:=[_,_]) 1 Z Z Z Z Z (.nil)) Z (h1.t h2|>.t h3|>.t h4|>.t h6) fun _ hS2=>?_
  exact ⟨by rw [hE];rfl,rfl⟩
 have g29:=c7
 refine Zk<|Zt<|Zs<|Sr<|At Z Z<|Zp<|qat (γ:=Nat) (fun k=>[(2,_),(3,_),(6,_),(9,.int .i64 (k:Int))]) (fun _=>_) (fun k tw=>Le D s6 tw∧(k≤ng∧∀ i e,i < k→(ents p)[i]?=some e→¬ e.1=nm)) (fun k=>ng - k) (fun _ _ _ h hl=>⟨h.1.trans hl,h.2⟩) 0 (.c4 Z Z Z Z (.nil _)) Z ⟨Le.refl _,⟨Nat.zero_le _,fun i x hi=>by omega⟩⟩ ?_
 intro k s8 I8
 have hk0:=I8.2.1
 have hI:=I8.2.2
 refine Zs<|Sr<|Zqm Z Z<|W0 Y5<|Wl 2 Y6<|Ws Y4<|qba Z Z Z<|Nt<|?_
 refine qab Z (fun c9=>?_) (fun c9=>?_)
 ·
  have hk:k < ng:=by omega
  obtain ⟨b2,off2,y,Ai,ni,ci,hAg,hy,hcy,hiy,huy,hny⟩:=Glos.at_ (hGl.le (h1.t h2|>.t h3|>.t h4|>.t h6|>.t I8.1)) hk
  subst hAg
  refine Zk<|Zt<|Zs<|Zp<|Sr<|W0 Y5<|Wl 2 Y6<|Zqm Z Z<|qaf (qap Z Z Z Z Z Z hk) Z<|qaf (qbf Z Z Z Z) Z<|qaf (qaC 1 Z Z Z (hcy.le (Lr D)) Z) Z<|Zqm Z Z<|qll Z Z Z<|Nt<|?_
  refine qab Z (fun c10=>?_) (fun c10=>?_)
  ·
   have hE:(qaz p x nm).1=(3,(k:Int)):=by rw [qaz,if_neg g21,if_neg g29,qng hI (qhh hy) c10]
   refine Sr<|Zqm Z Z<|qaf (qam [(_,_),(_,_)] [_,_] Z Z Z Z Z Z) Z<|Wt 1 [_,_] Y9<|Nt<|Zo<|Zc<|Zu<|Zu<|Zc<|Zu<|?_
   refine rR [_,_,_] L (.agg (us:=[_,_]) 1 Z Z Z Z Z (.nil)) Z (h1.t h2|>.t h3|>.t h4|>.t h6|>.t I8.1) fun _ hS2=>?_
   exact ⟨by rw [hE];rfl,rfl⟩
  have hz:=c10
  refine Zk<|Zb<|Zt<|Zr<|Zqm Z Z<|qaG Z Z Z (w64 O O)<|Zqa Z Z<|Zn<|?_
  refine qaa ⟨(k+1),[],kp,Z,⟨I8.1,⟨by omega,qa9 hI (qhh hy) hz⟩⟩,O⟩
 obtain rfl:p.globals.length=k:=by omega
 refine Zl<|Zv<|Zv<|Zd<|Zt<|Zs<|Sr<|At Z Z<|Zp<|qat (γ:=Nat) (fun k=>[(2,_),(3,_),(6,_),(10,.int .i64 (k:Int))]) (fun _=>_) (fun k tw=>Le D s8 tw∧(k≤nf∧∀ i e,i < p.globals.length+k→(ents p)[i]?=some e→¬ e.1=nm)) (fun k=>nf - k) (fun _ _ _ h hl=>⟨h.1.trans hl,h.2⟩) 0 (.c4 Z Z Z Z (.nil _)) Z ⟨Le.refl _,⟨Nat.zero_le _,hI⟩⟩ ?_
 intro k s11 I11
 have hk0:=I11.2.1
 have hJ:=I11.2.2
 refine Zs<|Sr<|Zqm Z Z<|Wb Y5<|Wl 2 Y6<|Ws Y4<|qba Z Z Z<|Nt<|?_
 refine qab Z (fun c12=>?_) (fun c12=>?_)
 ·
  have hk:k < nf:=by omega
  obtain ⟨b2,off2,y,C1,r1,e1,C2,r2,e2,C3,r3,e3,hAf2,hy,hcy,hpy,hly,hby,hny⟩:=Fncs.at_ (hFn.le (h1.t h2|>.t h3|>.t h4|>.t h6|>.t I8.1|>.t I11.1)) hk
  cases hAf2
  refine Zk<|Zt<|Zs<|Zp<|Sr<|Wb Y5<|Wl 2 Y6<|Zqm Z Z<|qaf (qap Z Z Z Z Z Z hk) Z<|W0 Y5<|qaf (qaj Z Z Z (hcy.le (Lr D)) Z) Z<|Zqm Z Z<|qll Z Z Z<|Nt<|?_
  refine qab Z (fun c13=>?_) (fun c13=>?_)
  ·
   have hE:(qaz p x nm).1=(4,(k:Int)):=by rw [qaz,if_neg g21,if_neg g29,qng hJ (qd9 hy) c13]
   refine Sr<|Zqm Z Z<|qaf (qam [(_,_),(_,_)] [_,_] Z Z Z Z Z Z) Z<|Wt 1 [_,_] Y9<|Nt<|Zo<|Zc<|Zu<|Zu<|Zc<|Zu<|?_
   refine rR [_,_,_] L (.agg (us:=[_,_]) 1 Z Z Z Z Z (.nil)) Z (h1.t h2|>.t h3|>.t h4|>.t h6|>.t I8.1|>.t I11.1) fun _ hS2=>?_
   exact ⟨by rw [hE];rfl,rfl⟩
  have hz:=c13
  refine Zk<|Zb<|Zt<|Zr<|Zqm Z Z<|qaG Z Z Z (w64 O O)<|Zqa Z Z<|Zn<|?_
  refine qaa ⟨(k+1),[],kp,Z,⟨I11.1,⟨by omega,qa9 hJ (qd9 hy) hz⟩⟩,O⟩
 have hE:(qaz p x nm).1=(0,0):=by rw [qaz,if_neg g21,if_neg g29,qn7 (fun i e hi h=>hJ i e (by rw [ents,List.length_append,List.length_mapIdx,List.length_mapIdx] at hi;omega) h)]
 refine Zl<|Zv<|Zv<|Zd<|Zt<|Sr<|qaf (qam [] [_,_] Z Z Z Z Z Z) Z<|Wt 1 [_,_] Y9<|Nt<|Zo<|?_
 refine rR [_,_,_] L (.agg (us:=[_,_]) 1 Z Z Z Z Z (.nil)) Z (h1.t h2|>.t h3|>.t h4|>.t h6|>.t I8.1|>.t I11.1) fun _ hS2=>?_
 exact ⟨by rw [hE];rfl,rfl⟩
end Go.Proofs.YtpdnijphccdiiaaGreatDoor
namespace Go.FL
open Go Go.RowKit
theorem qg7{α:Type}{sz:Nat}{f:α→List Value}(hf:∀ x,(f x).length=sz){s:World}{b:Nat}:∀ {l:List α} {off:Nat},(∀ (i:Nat) (x:α),l[i]?=some x→CellsAt s b (off+i * sz) (f x))→CellsAt s b off (l.map f).flatten
  | [],off,_=>fun j v h=>by simp at h
  | x::r,off,h=>by
    have h0:=h 0 x rfl
    have ih:=qg7 hf (l:=r) (off:=off+sz) fun i y hy=>by
      have:=h (i+1) y (by simpa using hy)
      rwa [show off+(i+1) * sz=off+sz+i * sz by rw [Nat.succ_mul];omega] at this
    intro j v hj
    rw [List.map_cons,List.flatten_cons] at hj
    by_cases hl:j < (f x).length
    · rw [List.getElem?_append_left hl] at hj
      have:=h0 j v hj
      rwa [Nat.zero_mul,Nat.add_zero] at this
    · rw [List.getElem?_append_right O] at hj
      have:=ih (j - (f x).length) v hj
      rw [hf x] at this hl
      rwa [show off+sz+(j - sz)=off+j by omega] at this
theorem qn6{α:Type}{sz:Nat}{f:α→List Value}(hf:∀ x,(f x).length=sz)(l:List α):(l.map f).flatten.length=l.length * sz:=by
 induction l with
 | nil=>simp
 | cons x r ih=>rw [List.map_cons,List.flatten_cons,List.length_append,ih,hf,List.length_cons,Nat.succ_mul];omega
end Go.FL
namespace Go.Proofs.YtpdnijphccdiiaaGreatDoor
open Go Go.FL Go.RowKit
theorem Sl.rowF{α:Type}{sz:Nat}{f:α→List Value}{s:World}{A:Option Addr}{n c:Nat}{l:List α}(h:Sl sz (fun _ x cs=>cs=f x) s A n c l)(hf:∀ x,(f x).length=sz)(h1:∀ x,∀ u∈f x,u.oneCell'=true):Row s A n sz (l.map f).flatten:=by
  refine ⟨by rw [qn6 hf,h.1],fun u hu=>?_,fun j u hj=>?_⟩
  · obtain ⟨cs,hc,hu⟩:=List.mem_flatten.1 hu
    obtain ⟨x,_,rfl⟩:=List.mem_map.1 hc
    exact h1 x u hu
  · cases l with
    | nil=>simp at hj
    | cons x r=>
      obtain ⟨b,off,cs,hA,_,_,_⟩:=h.2.2.2 0 x rfl
      subst hA
      refine ⟨b,off,Z,qg7 hf (l:=x::r) (off:=off) (fun i y hy=>?_) j u hj⟩
      obtain ⟨b2,off2,cs2,hA2,h2,_,h3⟩:=h.2.2.2 i y hy
      injection hA2 with hA2
      injection hA2 with e1 e2
      subst e1;subst e2;subst h3
      exact h2
theorem Own.rowF{α:Type}{e sz:Nat}{f:α→List Value}{M:Hl}{A:Option Addr}{n c:Nat}{l:List α}{s:World}(h:FL.Own e sz M (.slice A n c) n (l.map f).flatten)(hf:∀ x,(f x).length=sz)(hp:Pub M s)(hn:n=l.length):Sl sz (fun _ x cs=>cs=f x) s A n c l:=by
 refine Own.rows h hp ?_ hn
 clear h hn
 induction l with
 | nil=>exact .nil
 | cons x r ih=>exact .cons ⟨hf x,rfl⟩ ih
open Go.Proofs.Tryz
open Go.FL
attribute [local irreducible] JC JO JA JB qaO qaD qbV AC fill CellsAt QE Ev Mid
structure RNd where
 name:Str
 u:Int
 count:Int
 loops:Int
def qrk(u:Int):Str:=if u=1 then [115,101,116] else if u=2 then [103,101,116] else if u=3 then [105,116,101,109] else if u=4 then [99,97,108,108] else [108,101,97,118,101]
def rnv(r:RNd):List Value:=[St r.name,St (qrk r.u),.int .i64 r.count,.int .i64 r.loops]
def qkL(l:List RNd):List Value:=(l.map rnv).flatten
theorem qcW(a b:List RNd):qkL (a++b)=qkL a++qkL b:=by simp [qkL]
def Rns(s:World)(A:Option Addr)(n c:Nat)(l:List RNd):Prop:=Sl 4 (fun _ r cs=>cs=rnv r) s A n c l
theorem Rns.le{D:Nat}{s s':World}{A:Option Addr}{n c:Nat}{l:List RNd}(h:Rns s A n c l)(hl:Le D s s'):Rns s' A n c l:=Sl.le (fun _ _ h=>h) h hl
theorem Rns.row{s:World}{A:Option Addr}{n c:Nat}{l:List RNd}(h:Rns s A n c l):Row s A n 4 (qkL l):=Sl.rowF h (fun _=>rfl) (fun x u hu=>by
 simp only [rnv,List.mem_cons,List.not_mem_nil,or_false] at hu
 rcases hu with rfl | rfl | rfl | rfl <;> rfl)
theorem Rns.at_{s:World}{A:Option Addr}{n c k:Nat}{l:List RNd}(h:Rns s A n c l)(hk:k < n):∃ b off r,A=some ⟨b,off,none⟩∧l[k]?=some r∧CellsAt s b (off+k * 4) [St r.name,St (qrk r.u),.int .i64 r.count,.int .i64 r.loops]:=by
 have hl:k < l.length:=by rw [← h.1];exact hk
 obtain ⟨b,off,cs,h1,h2,_,rfl⟩:=h.2.2.2 k l[k] (List.getElem?_eq_getElem hl)
 exact ⟨b,off,l[k],h1,List.getElem?_eq_getElem hl,h2⟩
def ndR:Nd→List RNd
 | .ex x _=>if 2≤x.kind∧x.kind≤4 then [⟨x.name,x.kind,(x.args.length:Int),0⟩] else []
 | .st x lp=>if x.kind=1 then [⟨x.name,1,0,0⟩] else if x.kind=2 then [⟨x.name,3,0,0⟩] else if x.kind=5 then [⟨x.name,4,(x.exprs.length:Int),0⟩] else if 8 < x.kind then [⟨[],5,0,(lp:Int)⟩] else []
theorem qqO(n:Nd):(ndR n).length≤1:=by
 cases n with
 | ex x lp=>
  by_cases h:2≤x.kind∧x.kind≤4
  · rw [ndR,if_pos h];exact Nat.le_refl 1
  · rw [ndR,if_neg h];exact Nat.zero_le _
 | st x lp=>
  rw [ndR]
  by_cases h1:x.kind=1
  · rw [if_pos h1];exact Nat.le_refl 1
  rw [if_neg h1]
  by_cases h2:x.kind=2
  · rw [if_pos h2];exact Nat.le_refl 1
  rw [if_neg h2]
  by_cases h5:x.kind=5
  · rw [if_pos h5];exact Nat.le_refl 1
  rw [if_neg h5]
  by_cases h8:8 < x.kind
  · rw [if_pos h8];exact Nat.le_refl 1
  · rw [if_neg h8];exact Nat.zero_le _
theorem qmT(l:List Nd):(l.flatMap ndR).length≤l.length:=by
 induction l with
 | nil=>simp
 | cons x r ih=>have:=qqO x;rw [List.flatMap_cons,List.length_append,List.length_cons];omega
def rxs(l:List Ex)(lp:Nat):List RNd:=(qek l lp).flatMap ndR
def rss(l:List Stm)(lp:Nat):List RNd:=(qcn l lp).flatMap ndR
mutual
theorem qxd:∀ (x:Ex) (lp:Nat),(ndX x lp).flatMap ndR=(ndX x 0).flatMap ndR
 | .mk k o n nm ar,lp=>by rw [ndX,ndX,List.flatMap_cons,List.flatMap_cons,ql9 ar lp];rfl
theorem ql9:∀ (l:List Ex) (lp:Nat),(qek l lp).flatMap ndR=(qek l 0).flatMap ndR
 | [],_=>rfl
 | x::r,lp=>by rw [qek,qek,List.flatMap_append,List.flatMap_append,qxd x lp,ql9 r lp]
end
theorem qpL(a b:List Ex)(lp:Nat):qek (a++b) lp=qek a lp++qek b lp:=by
 induction a with
 | nil=>rfl
 | cons x r ih=>rw [List.cons_append,qek,qek,ih,List.append_assoc]
theorem qpA(a b:List Stm)(lp:Nat):qcn (a++b) lp=qcn a lp++qcn b lp:=by
 induction a with
 | nil=>rfl
 | cons x r ih=>rw [List.cons_append,qcn,qcn,ih,List.append_assoc]
theorem qfW{l:List Ex}{k:Nat}{x:Ex}(h:l[k]?=some x):rxs (l.take (k+1)) 0=rxs (l.take k) 0++ndR (.ex x 0)++rxs x.args 0:=by
 rw [rxs,qaT h,qpL,List.flatMap_append]
 cases x with
 | mk a b c d e=>simp only [qek,ndX,List.append_nil,List.flatMap_cons,rxs,List.append_assoc,Ex.args]
theorem qoD{l:List Stm}{k lp:Nat}{x:Stm}(h:l[k]?=some x):rss (l.take (k+1)) lp=rss (l.take k) lp++ndR (.st x lp)++rxs x.exprs 0++rss x.body (lpI x lp)++rss x.els (lpI x lp):=by
 rw [rss,qaT h,qpA,List.flatMap_append]
 cases x with
 | mk a b c d e=>
  simp only [qcn,ndS,List.append_nil,List.flatMap_cons,List.flatMap_append,rss,rxs,List.append_assoc,Stm.exprs,Stm.body,Stm.els,lpI,Stm.kind]
  rw [ql9 c lp]
  rfl
theorem qmL(l:List Ex)(lp:Nat):(rxs l lp).length≤qdG l:=Nat.le_trans (qmT _) (Nat.le_of_eq (qf2 l lp))
theorem qlv(l:List Stm)(lp:Nat):(rss l lp).length≤qcC l:=Nat.le_trans (qmT _) (Nat.le_of_eq (qe9 l lp))
theorem qk8(l:List Ex)(k:Nat):qdG (l.take k)≤qdG l:=by
 induction l generalizing k with
 | nil=>simp [qdG]
 | cons x r ih=>cases k with
  | zero=>simp [qdG]
  | succ k=>rw [List.take_succ_cons,qdG,qdG];have:=ih k;omega
theorem qkC(l:List Stm)(k:Nat):qcC (l.take k)≤qcC l:=by
 induction l generalizing k with
 | nil=>simp [qcC]
 | cons x r ih=>cases k with
  | zero=>simp [qcC]
  | succ k=>rw [List.take_succ_cons,qcC,qcC];have:=ih k;omega
def RNX(D d:Nat):Prop:=∀ (L:Hl) (s:World) (A:Option Addr) (n c:Nat) (xs:List Ex),Exs d s A n c xs→qdG xs≤4000000→AC prog D 56 [.slice A n c] L s fun v L' s'=>L=L'∧∃ A' n' c',v=.slice A' n' c'∧Rns s' A' n' c' (rxs xs 0)
def RNS(D d:Nat):Prop:=∀ (L:Hl) (s:World) (A:Option Addr) (n c:Nat) (xs:List Stm) (lp lv:Nat),Stms d s A n c xs→qdU xs lv=true→lp≤lv→qcC xs≤4000000→AC prog D 27 [.slice A n c,.int .i64 (lp:Int)] L s fun v L' s'=>L=L'∧∃ A' n' c',v=.slice A' n' c'∧Rns s' A' n' c' (rss xs lp)
theorem qm7(D d:Nat)(ih:∀ e,d=e+1→RNX D e)(L:Hl)(s:World)(A:Option Addr)(n c:Nat)(xs:List Ex)(hA:Exs d s A n c xs)(hx9:qdG xs≤4000000):AC prog D 56 [.slice A n c] L s fun v L' s'=>∃ M',L'=M'++L∧∀ s2,Le D s' s2→Pub M' s2→∃ A' n' c',v=.slice A' n' c'∧Rns s2 A' n' c' (rxs xs 0):=by
 have hn:=hA.1
 have hc1:=hA.2.1
 have hc2:=hA.2.2.1
 refine qai (fn:=f56) qaq func56 V Z ntmps56 Z (rs:=[.tmp 2]) Z [(0,_)] Z<|Sr<|At Z Z<|Sr<|At Z Z<|Zs<|Sr<|At Z Z<|Zp<|?_
 refine qat (γ:=Nat×Value×Hl) (fun g=>[(0,_),(2,_),(3,g.2.1),(4,.int .i64 (g.1:Int))]) (fun g=>g.2.2++L) (fun g tw=>Le D s tw∧(g.1≤n∧FL.Own 71 4 g.2.2 g.2.1 (rxs (xs.take g.1) 0).length (qkL (rxs (xs.take g.1) 0)))) (fun g=>n - g.1) (fun _ _ _ h hl=>⟨h.1.trans hl,h.2⟩) (0,.slice none 0 0,[]) (.c4 Z Z Z Z (.nil _)) Z ⟨Le.refl _,⟨Nat.zero_le _,FL.Own.nil⟩⟩ ?_
 intro g s1 I1
 obtain ⟨k,vo,Mo⟩:=g
 obtain ⟨hk0,hO⟩:=I1.2
 simp only at hk0 hO
 dsimp only
 obtain ⟨Ao,co,rfl,_,_⟩:=Own.slice hO
 have hle1:=qmL (xs.take k) 0
 have hle2:=qk8 xs k
 refine Zs<|Sr<|Zqm Z Z<|Zqm Z Z<|Ws Y4<|qba Z Z Z<|Nt<|?_
 refine qab Z (fun c2=>?_) (fun c2=>?_)
 ·
  have hk:k < n:=by omega
  obtain ⟨e,b,off,x,A',n',c',hd,rfl,hx,hcx,hax,hux,hnl⟩:=Exs.at_ (hA.le I1.1) hk
  have hx8:=qhn hx
  have hn':=hax.1
  have hax2:=hax.2.1
  have hax3:=hax.2.2.1
  have hle3:=qmL x.args 0
  refine Zk<|Zt<|Zs<|Zp<|Sr<|Zqm Z Z<|Zqm Z Z<|qaf (qap Z Z Z Z Z Z hk) Z<|qaf (qas Z Z Z (hcx.le (Lr D)) Z) Z<|qae Z [_,_,_,_,_] Z Z ?_
  intro β3 s3 h3
  refine Wt 0 [_,_,_,_,_] Y9<|Nt<|Zs<|Sr<|W0 Y5<|Wl 0 Y6<|Jc Z Z Z (qdx D _ _ _ _ _) ?_
  rintro _ _ s4 h4 ⟨rfl,rfl⟩
  refine Nt<|?_
  refine qab Z (fun c5=>?_) (fun c5=>?_)
  ·
   have g19:=c5
   have hu3:x.kind=2∨x.kind=3∨x.kind=4:=by omega
   have hR0:ndR (.ex x 0)=[⟨x.name,x.kind,(x.args.length:Int),0⟩]:=if_pos O
   have hlit:qkL [⟨x.name,x.kind,(x.args.length:Int),0⟩]=[St x.name,St (qrk x.kind),.int .i64 (n':Int),.int .i64 0]:=by rw [hn'];rfl
   refine Sr<|qbt [(_,_),(_,_),(_,_)] [_,_,_] Z Z Z Z Z Z Z Z Z ?_
   intro βu s6 h6 hcu
   refine At Z Z<|?_
   rcases hu3 with g2 | g2 | g2
   ·
    refine qa1 qag 16 Z 1 ?_
    intro s7 h7
    refine za 0 Z (qar Z) Z<|za 1 Z (We Y4) Z<|za 2 Z (Wd 0 Y5) Z<|za 3 Z (qar Z) Z<|za 4 Z (qbu Z Z Z Z) Z<|za 5 Z (Wd 0 Y5) Z<|za 6 Z (qbU (c:=((0:Nat):Int)) Z Z (by rw [w64 O O];omega)) Z<|za 7 Z (qap (j:=0) Z Z Z Z Z Z Dc) Z<|za 8 Z (qaC 0 Z Z Z (hcu.le h7) Z) Z<|za 9 Z (We Y4) Z<|za 10 Z (Wd 0 Y5) Z<|za 11 Z (qbN Z Z Z) Z<|za 12 Z (qam [(_,_),(_,_),(_,_)] [_,_,_,_] Z Z Z Z Z Z) Z<|qal 13 V ?_
    refine qjj Z Tt [(_,_)] [_,_,_,_] Z Z Z Z Z Z Z Z Z ?_
    intro βn s8 h8 hcb
    refine qal 14 V<|qhf (sz:=4) Z (by exact Tt) [_] Mo L Z Z Z Z Z Z Z hO (Row.of_cells (hcb.le (Lr D)) Z Z) ⟨by simp [ti71];omega,by omega⟩ Z (fun A2 x hx _=>qeG hx) ?_
    intro vx1 Mx1 s9 h9 ox1
    obtain ⟨Ax1,cx1,rfl,_,_⟩:=Own.slice ox1
    simp only [cQ9,nQ9]
    refine za 15 Z (qaY Z) Z<|qad V<|Zt<|Zr<|Zqm Z Z<|Wb Y5<|Wl 0 Y6<|Jc Z Z Z (ih e hd _ _ A' n' c' x.args (hax.le (h3.t h4|>.t h6|>.t h7|>.t h8|>.t h9)) O) ?_
    rintro _ _ s10 h10 ⟨rfl,Ar,nr,cr,rfl,hRr⟩
    have hAr:=hRr.1
    refine qbd (sz:=4) [_] Mx1 L Z Z Z Z Z Z Z ox1 (hRr.le (Lr D)).row ⟨by simp [ti71];omega,by omega⟩ Z ?_
    intro vx2 Mx2 s11 h11 ox2
    obtain ⟨Ax2,cx2,rfl,_,_⟩:=Own.slice ox2
    simp only [cQ9,nQ9]
    refine Zqa Z Z<|Zn<|Zb<|Zt<|Zr<|Zqm Z Z<|qaG Z Z Z (w64 O O)<|Zqa Z Z<|Zn<|?_
    refine qaa ⟨(k+1,.slice Ax2 _ cx2,Mx2),[_],kp,Z,⟨(I1.1.t h3|>.t h4|>.t h6|>.t h7|>.t h8|>.t h9|>.t h10|>.t h11),⟨by simp only;omega,by simp only;rw [qfW hx,hR0,List.length_append,List.length_append,qcW,qcW];rw [← hAr,hlit,g2];exact ox2⟩⟩,Oz⟩
   ·
    refine qa1 qag 16 Z 1 ?_
    intro s12 h12
    refine za 0 Z (qar Z) Z<|za 1 Z (We Y4) Z<|za 2 Z (Wd 0 Y5) Z<|za 3 Z (qar Z) Z<|za 4 Z (qbu Z Z Z Z) Z<|za 5 Z (Wd 0 Y5) Z<|za 6 Z (qbU (c:=((1:Nat):Int)) Z Z (by rw [w64 O O];omega)) Z<|za 7 Z (qap (j:=1) Z Z Z Z Z Z Dc) Z<|za 8 Z (qaC 1 Z Z Z (hcu.le h12) Z) Z<|za 9 Z (We Y4) Z<|za 10 Z (Wd 0 Y5) Z<|za 11 Z (qbN Z Z Z) Z<|za 12 Z (qam [(_,_),(_,_),(_,_)] [_,_,_,_] Z Z Z Z Z Z) Z<|qal 13 V ?_
    refine qjj Z Tt [(_,_)] [_,_,_,_] Z Z Z Z Z Z Z Z Z ?_
    intro βn s13 h13 hcb
    refine qal 14 V<|qhf (sz:=4) Z (by exact Tt) [_] Mo L Z Z Z Z Z Z Z hO (Row.of_cells (hcb.le (Lr D)) Z Z) ⟨by simp [ti71];omega,by omega⟩ Z (fun A2 x hx _=>qeG hx) ?_
    intro vx1 Mx1 s14 h14 ox1
    obtain ⟨Ax1,cx1,rfl,_,_⟩:=Own.slice ox1
    simp only [cQ9,nQ9]
    refine za 15 Z (qaY Z) Z<|qad V<|Zt<|Zr<|Zqm Z Z<|Wb Y5<|Wl 0 Y6<|Jc Z Z Z (ih e hd _ _ A' n' c' x.args (hax.le (h3.t h4|>.t h6|>.t h12|>.t h13|>.t h14)) O) ?_
    rintro _ _ s15 h15 ⟨rfl,Ar,nr,cr,rfl,hRr⟩
    have hAr:=hRr.1
    refine qbd (sz:=4) [_] Mx1 L Z Z Z Z Z Z Z ox1 (hRr.le (Lr D)).row ⟨by simp [ti71];omega,by omega⟩ Z ?_
    intro vx2 Mx2 s16 h16 ox2
    obtain ⟨Ax2,cx2,rfl,_,_⟩:=Own.slice ox2
    simp only [cQ9,nQ9]
    refine Zqa Z Z<|Zn<|Zb<|Zt<|Zr<|Zqm Z Z<|qaG Z Z Z (w64 O O)<|Zqa Z Z<|Zn<|?_
    refine qaa ⟨(k+1,.slice Ax2 _ cx2,Mx2),[_],kp,Z,⟨(I1.1.t h3|>.t h4|>.t h6|>.t h12|>.t h13|>.t h14|>.t h15|>.t h16),⟨by simp only;omega,by simp only;rw [qfW hx,hR0,List.length_append,List.length_append,qcW,qcW];rw [← hAr,hlit,g2];exact ox2⟩⟩,Oz⟩
   refine qa1 qag 16 Z 1 ?_
   intro s17 h17
   refine za 0 Z (qar Z) Z<|za 1 Z (We Y4) Z<|za 2 Z (Wd 0 Y5) Z<|za 3 Z (qar Z) Z<|za 4 Z (qbu Z Z Z Z) Z<|za 5 Z (Wd 0 Y5) Z<|za 6 Z (qbU (c:=((2:Nat):Int)) Z Z (by rw [w64 O O];omega)) Z<|za 7 Z (qap (j:=2) Z Z Z Z Z Z Dc) Z<|za 8 Z (qaC 2 Z Z Z (hcu.le h17) Z) Z<|za 9 Z (We Y4) Z<|za 10 Z (Wd 0 Y5) Z<|za 11 Z (qbN Z Z Z) Z<|za 12 Z (qam [(_,_),(_,_),(_,_)] [_,_,_,_] Z Z Z Z Z Z) Z<|qal 13 V<|qjj Z Tt [(_,_)] [_,_,_,_] Z Z Z Z Z Z Z Z Z ?_
   intro βn s18 h18 hcb
   refine qal 14 V<|qhf (sz:=4) Z (by exact Tt) [_] Mo L Z Z Z Z Z Z Z hO (Row.of_cells (hcb.le (Lr D)) Z Z) ⟨by simp [ti71];omega,by omega⟩ Z (fun A2 x hx _=>qeG hx) ?_
   intro vx1 Mx1 s19 h19 ox1
   obtain ⟨Ax1,cx1,rfl,_,_⟩:=Own.slice ox1
   simp only [cQ9,nQ9]
   refine za 15 Z (qaY Z) Z<|qad V<|Zt<|Zr<|Zqm Z Z<|Wb Y5<|Wl 0 Y6<|Jc Z Z Z (ih e hd _ _ A' n' c' x.args (hax.le (h3.t h4|>.t h6|>.t h17|>.t h18|>.t h19)) O) ?_
   rintro _ _ s20 h20 ⟨rfl,Ar,nr,cr,rfl,hRr⟩
   have hAr:=hRr.1
   refine qbd (sz:=4) [_] Mx1 L Z Z Z Z Z Z Z ox1 (hRr.le (Lr D)).row ⟨by simp [ti71];omega,by omega⟩ Z ?_
   intro vx2 Mx2 s21 h21 ox2
   obtain ⟨Ax2,cx2,rfl,_,_⟩:=Own.slice ox2
   simp only [cQ9,nQ9]
   refine Zqa Z Z<|Zn<|Zb<|Zt<|Zr<|Zqm Z Z<|qaG Z Z Z (w64 O O)<|Zqa Z Z<|Zn<|?_
   refine qaa ⟨(k+1,.slice Ax2 _ cx2,Mx2),[_],kp,Z,⟨(I1.1.t h3|>.t h4|>.t h6|>.t h17|>.t h18|>.t h19|>.t h20|>.t h21),⟨by simp only;omega,by simp only;rw [qfW hx,hR0,List.length_append,List.length_append,qcW,qcW];rw [← hAr,hlit,g2];exact ox2⟩⟩,Oz⟩
  have hR0:ndR (.ex x 0)=[]:=if_neg (by have:=c5;omega)
  refine Zk<|Zt<|Zr<|Zqm Z Z<|Wb Y5<|Wl 0 Y6<|Jc Z Z Z (ih e hd _ _ A' n' c' x.args (hax.le (h3.t h4)) O) ?_
  rintro _ _ s22 h22 ⟨rfl,Ar,nr,cr,rfl,hRr⟩
  have hAr:=hRr.1
  refine qbd (sz:=4) [_] Mo L Z Z Z Z Z Z Z hO (hRr.le (Lr D)).row ⟨by simp [ti71];omega,by omega⟩ Z ?_
  intro vx1 Mx1 s23 h23 ox1
  obtain ⟨Ax1,cx1,rfl,_,_⟩:=Own.slice ox1
  simp only [cQ9,nQ9]
  refine Zqa Z Z<|Zn<|Zb<|Zt<|Zr<|Zqm Z Z<|qaG Z Z Z (w64 O O)<|Zqa Z Z<|Zn<|?_
  refine qaa ⟨(k+1,.slice Ax1 _ cx1,Mx1),[_],kp,Z,⟨(I1.1.t h3|>.t h4|>.t h22|>.t h23),⟨by simp only;omega,by simp only;rw [qfW hx,hR0,List.length_append,List.length_append,qcW,qcW];rw [← hAr];simpa [qkL] using ox1⟩⟩,Oz⟩
 obtain rfl:n=k:=by omega
 rw [List.take_of_length_le O] at hO ⊢
 refine Zl<|Zv<|Zv<|Zd<|Zt<|Sr<|Zqm Z Z<|At Z Z<|Zo<|?_
 refine rR [] _ (.t1 Z) Z I1.1 fun _ hS2=>?_
 exact ⟨Mo,rfl,fun s2 hs2 hp=>⟨_,_,_,rfl,Own.rowF hO (fun _=>rfl) hp rfl⟩⟩
theorem qrh{D d:Nat}(h:∀ (L:Hl) (s:World) (A:Option Addr) (n c:Nat) (xs:List Ex),Exs d s A n c xs→qdG xs≤4000000→AC prog D 56 [.slice A n c] L s fun v L' s'=>∃ M',L'=M'++L∧∀ s2,Le D s' s2→Pub M' s2→∃ A' n' c',v=.slice A' n' c'∧Rns s2 A' n' c' (rxs xs 0)):RNX D d:=fun L s A n c xs hA hx=>AC.pubW (h L s A n c xs hA hx)
theorem rnx(D:Nat):∀ d,RNX D d
 | 0=>qrh (qm7 D 0 (fun e h=>by omega))
 | d+1=>qrh (qm7 D (d+1) (fun e h=>(show d=e by omega)▸rnx D d))
theorem qm6(D d:Nat)(ih:∀ e,d=e+1→RNS D e)(L:Hl)(s:World)(A:Option Addr)(n c:Nat)(xs:List Stm)(lp lv:Nat)(hA:Stms d s A n c xs)(hv:qdU xs lv=true)(hlp:lp≤lv)(hx9:qcC xs≤4000000):AC Tryz.prog D 27 [.slice A n c,.int .i64 (lp:Int)] L s fun v L' s'=>∃ M',L'=M'++L∧∀ s2,Le D s' s2→Pub M' s2→∃ A' n' c',v=.slice A' n' c'∧Rns s2 A' n' c' (rss xs lp):=by
 have hn:=hA.1
 have hc1:=hA.2.1
 have hc2:=hA.2.2.1
 refine qai (fn:=Tryz.f27) qaq Tryz.func27 V Z Tryz.ntmps27 Z (rs:=[.tmp 4]) Z [(0,_),(1,_)] Z<|Sr<|At Z Z<|Sr<|At Z Z<|Zs<|Sr<|At Z Z<|Zp<|?_
 refine qat (γ:=Nat×Value×Hl) (fun g=>[(0,_),(1,_),(4,_),(5,g.2.1),(6,.int .i64 (g.1:Int))]) (fun g=>g.2.2++L) (fun g tw=>Le D s tw∧(g.1≤n∧FL.Own 71 4 g.2.2 g.2.1 (rss (xs.take g.1) lp).length (qkL (rss (xs.take g.1) lp)))) (fun g=>n - g.1) (fun _ _ _ h hl=>⟨h.1.trans hl,h.2⟩) (0,.slice none 0 0,[]) (.c5 Z Z Z Z Z (.nil _)) Z ⟨Le.refl _,⟨Nat.zero_le _,FL.Own.nil⟩⟩ ?_
 intro g s1 I1
 obtain ⟨k,vo,Mo⟩:=g
 obtain ⟨hk0,hO⟩:=I1.2
 simp only at hk0 hO
 dsimp only
 obtain ⟨Ao,co,rfl,_,_⟩:=Own.slice hO
 have hle1:=qlv (xs.take k) lp
 have hle2:=qkC xs k
 refine Zs<|Sr<|Zqm Z Z<|Zqm Z Z<|Ws Y4<|qba Z Z Z<|Nt<|?_
 refine qab Z (fun c2=>?_) (fun c2=>?_)
 ·
  have hk:k < n:=by omega
  obtain ⟨e,b,off,x,A1,n1,p1,A2,n2,p2,A3,n3,p3,hd,rfl,hx,hcx,hax,hbx,hex,hnl⟩:=Stms.at_ (hA.le I1.1) hk
  have hn1:=hax.1
  have hq1:=hax.2.1
  have hq2:=hax.2.2.1
  have hx8:=qfO hx
  obtain ⟨hvx,_⟩:=qds hv hx
  obtain ⟨hlv,_,_,hvB,hvL⟩:=qdc hvx
  have hl3:=qmL x.exprs 0
  have hl4:=qlv x.body (lpI x lp)
  have hl5:=qlv x.els (lpI x lp)
  have hl6:=qqO (.st x lp)
  have hlI:lpI x lp≤lv+1:=by rw [lpI];split <;> omega
  refine Zk<|Zt<|Zs<|Zp<|Sr<|Zqm Z Z<|Zqm Z Z<|qaf (qap Z Z Z Z Z Z hk) Z<|qaf (qas Z Z Z (hcx.le (Lr D)) Z) Z<|qae Z [_,_,_,_,_] Z Z ?_
  intro β3 s3 h3
  refine Wt 0 [_,_,_,_,_] Y9<|Nt<|Sr<|Zqm Z Z<|At Z Z<|?_
  refine qeC (γ:=Value×Hl) (fun g=>[(5,g.1),(8,.int .i64 ((lpI x lp:Nat):Int))]) [_] Z (fun g=>g.2++L) (fun g tw=>FL.Own 71 4 g.2 g.1 ((rss (xs.take k) lp).length+(ndR (.st x lp)).length) (qkL (rss (xs.take k) lp)++qkL (ndR (.st x lp)))) (fun _ _ _ h hl=>h) ?_ ?_
  ·
   refine Sr<|W0 Y5<|Wl 0 Y6<|qax Z Z Z<|Nt<|?_
   refine qab Z (fun c5=>?_) (fun c5=>?_)
   ·
    have hR0:ndR (.st x lp)=[⟨x.name,1,0,0⟩]:=if_pos c5
    refine Zr<|Zqm Z Z<|Wb Y5<|Wl 0 Y6<|qaf (qam [(_,_),(_,_)] [_,_,_,_] Z Z Z Z Z Z) Z<|qbt [(_,_)] [_,_,_,_] Z Z Z Z Z Z Z Z Z ?_
    intro βn s6 h6 hcb
    refine qbd (sz:=4) [_] Mo L Z Z Z Z Z Z Z hO (Row.of_cells (hcb.le (Lr D)) Z Z) ⟨by simp [ti71];omega,by omega⟩ Z ?_
    intro vx1 Mx1 s7 h7 ox1
    obtain ⟨Ax1,cx1,rfl,_,_⟩:=Own.slice ox1
    simp only [cQ9,nQ9]
    refine Zqa Z Z<|Zn<|?_
    refine qaa (MidG.mk (.slice Ax1 _ cx1,Mx1) [] (h6.t h7) (.cons Z (.cons (congrArg (fun i:Int=>some (Value.int .i64 i)) (by rw [lpI];split <;> omega)) (.nil _))) So Pr (by rw [hR0];exact ox1))
   have g1:=c5
   refine Sr<|W0 Y5<|Wl 0 Y6<|qax Z Z Z<|Nt<|?_
   refine qab Z (fun c8=>?_) (fun c8=>?_)
   ·
    have hR0:ndR (.st x lp)=[⟨x.name,3,0,0⟩]:=(if_neg g1).trans (if_pos c8)
    refine Zr<|Zqm Z Z<|Wb Y5<|Wl 0 Y6<|qaf (qam [(_,_),(_,_)] [_,_,_,_] Z Z Z Z Z Z) Z<|qbt [(_,_)] [_,_,_,_] Z Z Z Z Z Z Z Z Z ?_
    intro βn s9 h9 hcb
    refine qbd (sz:=4) [_] Mo L Z Z Z Z Z Z Z hO (Row.of_cells (hcb.le (Lr D)) Z Z) ⟨by simp [ti71];omega,by omega⟩ Z ?_
    intro vx1 Mx1 s10 h10 ox1
    obtain ⟨Ax1,cx1,rfl,_,_⟩:=Own.slice ox1
    simp only [cQ9,nQ9]
    refine Zqa Z Z<|Zn<|?_
    refine qaa (MidG.mk (.slice Ax1 _ cx1,Mx1) [] (h9.t h10) (.cons Z (.cons (congrArg (fun i:Int=>some (Value.int .i64 i)) (by rw [lpI];split <;> omega)) (.nil _))) So Pr (by rw [hR0];exact ox1))
   have g2:=c8
   refine Sr<|W0 Y5<|Wl 0 Y6<|qax Z Z Z<|Nt<|?_
   refine qab Z (fun c11=>?_) (fun c11=>?_)
   ·
    have hR0:ndR (.st x lp)=[⟨x.name,4,(n1:Int),0⟩]:=by rw [hn1];exact (if_neg g1).trans ((if_neg g2).trans (if_pos c11))
    refine Zr<|Zqm Z Z<|Wb Y5<|Wl 0 Y6<|Wb Y5<|Wl 0 Y6<|Ws Y4<|qaf (qam [(_,_),(_,_),(_,_)] [_,_,_,_] Z Z Z Z Z Z) Z<|qbt [(_,_)] [_,_,_,_] Z Z Z Z Z Z Z Z Z ?_
    intro βn s12 h12 hcb
    refine qbd (sz:=4) [_] Mo L Z Z Z Z Z Z Z hO (Row.of_cells (hcb.le (Lr D)) Z Z) ⟨by simp [ti71];omega,by omega⟩ Z ?_
    intro vx1 Mx1 s13 h13 ox1
    obtain ⟨Ax1,cx1,rfl,_,_⟩:=Own.slice ox1
    simp only [cQ9,nQ9]
    refine Zqa Z Z<|Zn<|?_
    refine qaa (MidG.mk (.slice Ax1 _ cx1,Mx1) [] (h12.t h13) (.cons Z (.cons (congrArg (fun i:Int=>some (Value.int .i64 i)) (by rw [lpI];split <;> omega)) (.nil _))) So Pr (by rw [hR0];exact ox1))
   have g5:=c11
   refine Sr<|W0 Y5<|Wl 0 Y6<|qbA Z Z Z<|Nt<|?_
   refine qab Z (fun c14=>?_) (fun c14=>?_)
   ·
    have hR0:ndR (.st x lp)=[⟨[],5,0,(lp:Int)⟩]:=(if_neg g1).trans ((if_neg g2).trans ((if_neg g5).trans (if_pos (by have:=c14;omega))))
    refine Zr<|Zqm Z Z<|Zqm Z Z<|qaf (qam [(_,_),(_,_)] [_,_,_,_] Z Z Z Z Z Z) Z<|qbt [(_,_)] [_,_,_,_] Z Z Z Z Z Z Z Z Z ?_
    intro βn s15 h15 hcb
    refine qbd (sz:=4) [_] Mo L Z Z Z Z Z Z Z hO (Row.of_cells (hcb.le (Lr D)) Z Z) ⟨by simp [ti71];omega,by omega⟩ Z ?_
    intro vx1 Mx1 s16 h16 ox1
    obtain ⟨Ax1,cx1,rfl,_,_⟩:=Own.slice ox1
    simp only [cQ9,nQ9]
    refine Zqa Z Z<|Zn<|?_
    refine qaa (MidG.mk (.slice Ax1 _ cx1,Mx1) [] (h15.t h16) (.cons Z (.cons (congrArg (fun i:Int=>some (Value.int .i64 i)) (by rw [lpI];split <;> omega)) (.nil _))) So Pr (by rw [hR0];exact ox1))
   have hR0:ndR (.st x lp)=[]:=(if_neg g1).trans ((if_neg g2).trans ((if_neg g5).trans (if_neg (by have:=c14;omega))))
   refine Sr<|W0 Y5<|Wl 0 Y6<|qax Z Z Z<|Nt<|?_
   refine qab Z (fun c17=>?_) (fun c17=>?_)
   ·
    refine Zr<|Zqm Z Z<|qaG Z Z Z (w64 O O)<|Zqa Z Z<|Zn<|?_
    refine qaa (MidG.mk (.slice Ao _ co,Mo) [] (Lr D) (.cons Z (.cons (congrArg (fun i:Int=>some (Value.int .i64 i)) (by rw [lpI];split <;> omega)) (.nil _))) So Pr (by rw [hR0];simpa [qkL] using hO))
   refine Zk ?_
   refine qaa (MidG.mk (.slice Ao _ co,Mo) [] (Lr D) (.cons Z (.cons (congrArg (fun i:Int=>some (Value.int .i64 i)) (by rw [lpI];split <;> omega)) (.nil _))) So Pr (by rw [hR0];simpa [qkL] using hO))
  intro g s4 h4 I4
  simp only [cQ9,nQ9]
  obtain ⟨vo,Mo⟩:=g
  have hO:=I4
  simp only at hO
  dsimp only
  obtain ⟨Ao,co,rfl,_,_⟩:=Own.slice hO
  refine Sr<|Zqm Z Z<|Wb Y5<|Wl 0 Y6<|Jc Z Z Z (rnx D e _ _ A1 n1 p1 x.exprs (hax.le (h3.t h4)) O) ?_
  rintro _ _ s18 h18 ⟨rfl,Ar,nr1,cr,rfl,hRx⟩
  have hr1:=hRx.1
  refine qbd (sz:=4) [_] Mo L Z Z Z Z Z Z Z hO (hRx.le (Lr D)).row ⟨by simp [ti71];omega,by omega⟩ Z ?_
  intro vx1 Mx1 s19 h19 ox1
  obtain ⟨Ax1,cx1,rfl,_,_⟩:=Own.slice ox1
  simp only [cQ9,nQ9]
  refine At Z Z<|Sr<|Zqm Z Z<|Wb Y5<|Wl 0 Y6<|Zqm Z Z<|Jc Z Z Z (ih e hd _ _ A2 n2 p2 x.body (lpI x lp) (lv+1) (hbx.le (h3.t h4|>.t h18|>.t h19)) hvB hlI O) ?_
  rintro _ _ s20 h20 ⟨rfl,Ar2,nr2,cr2,rfl,hRb⟩
  have hr2:=hRb.1
  refine qbd (sz:=4) [_] Mx1 L Z Z Z Z Z Z Z ox1 (hRb.le (Lr D)).row ⟨by simp [ti71];omega,by omega⟩ Z ?_
  intro vx2 Mx2 s21 h21 ox2
  obtain ⟨Ax2,cx2,rfl,_,_⟩:=Own.slice ox2
  simp only [cQ9,nQ9]
  refine At Z Z<|Zr<|Zqm Z Z<|Wb Y5<|Wl 0 Y6<|Zqm Z Z<|Jc Z Z Z (ih e hd _ _ A3 n3 p3 x.els (lpI x lp) (lv+1) (hex.le (h3.t h4|>.t h18|>.t h19|>.t h20|>.t h21)) hvL hlI O) ?_
  rintro _ _ s22 h22 ⟨rfl,Ar3,nr3,cr3,rfl,hRe⟩
  have hr3:=hRe.1
  refine qbd (sz:=4) [_] Mx2 L Z Z Z Z Z Z Z ox2 (hRe.le (Lr D)).row ⟨by simp [ti71];omega,by omega⟩ Z ?_
  intro vx3 Mx3 s23 h23 ox3
  obtain ⟨Ax3,cx3,rfl,_,_⟩:=Own.slice ox3
  simp only [cQ9,nQ9]
  refine Zqa Z Z<|Zn<|Zb<|Zt<|Zr<|Zqm Z Z<|qaG Z Z Z (w64 O O)<|Zqa Z Z<|Zn<|?_
  refine qaa ⟨(k+1,.slice Ax3 _ cx3,Mx3),[_],kp,Z,⟨(I1.1.t h3|>.t h4|>.t h18|>.t h19|>.t h20|>.t h21|>.t h22|>.t h23),⟨by simp only;omega,by simp only;rw [qoD hx];simp only [List.length_append,qcW];rw [← hr1,← hr2,← hr3];exact ox3⟩⟩,Oz⟩
 obtain rfl:n=k:=by omega
 rw [List.take_of_length_le O] at hO ⊢
 refine Zl<|Zv<|Zv<|Zd<|Zt<|Sr<|Zqm Z Z<|At Z Z<|Zo<|?_
 refine rR [] _ (.t1 Z) Z I1.1 fun _ hS2=>?_
 exact ⟨Mo,rfl,fun s2 hs2 hp=>⟨_,_,_,rfl,Own.rowF hO (fun _=>rfl) hp rfl⟩⟩
theorem qqw{D d:Nat}(h:∀ (L:Hl) (s:World) (A:Option Addr) (n c:Nat) (xs:List Stm) (lp lv:Nat),Stms d s A n c xs→qdU xs lv=true→lp≤lv→qcC xs≤4000000→AC Tryz.prog D 27 [.slice A n c,.int .i64 (lp:Int)] L s fun v L' s'=>∃ M',L'=M'++L∧∀ s2,Le D s' s2→Pub M' s2→∃ A' n' c',v=.slice A' n' c'∧Rns s2 A' n' c' (rss xs lp)):RNS D d:=fun L s A n c xs lp lv hA h1 h2 h3=>AC.pubW (h L s A n c xs lp lv hA h1 h2 h3)
theorem rns(D:Nat):∀ d,RNS D d
 | 0=>qqw (qm6 D 0 (fun e h=>by omega))
 | d+1=>qqw (qm6 D (d+1) (fun e h=>(show d=e by omega)▸rns D d))
end Go.Proofs.YtpdnijphccdiiaaGreatDoor
