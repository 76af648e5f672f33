/- Part 3. -/
import Derived.Test.YtpdnijphccdiiaaGreatDoorQ15x2
import Derived.Lib.SmallJoins
import Derived.Lib.Repeat
set_option linter.unusedVariables false
set_option linter.unusedSimpArgs false
set_option linter.unnecessarySimpa false
set_option maxRecDepth 100000
set_option maxHeartbeats 8000000
namespace Go.Proofs.YtpdnijphccdiiaaGreatDoor
open Go.Proofs.Tryz
open Go.FL
attribute [local irreducible] JC JO JA JB qaJ qaw qbM AC fill CellsAt QE Ev Mid
theorem qov(D:Nat)(L:Hl)(s:World)(bc c lv:Nat)(hc:c≤2000):AC prog D 154 [.pointer (some ⟨bc,0,none⟩),.int .i64 (lv:Int)] ((bc,cb [.int .i64 (c:Int)] 146)::L) s fun v L' _=>v=.bool (decide (¬ (16 < lv∨2000 < c+1)))∧L'=(bc,cb [.int .i64 ((c+1:Nat):Int)] 146)::L:=by
 refine qai (fn:=f154) qao func154 V Z ntmps154 Z (rs:=[.tmp 4]) Z [(0,_),(1,_)] Z<|Sr<|At Z Z<|Sr<|Zqm Z Z<|qcd Z Z<|W0 Y5<|Wl 0 Y6<|qac (qaR (c:=((c+1:Nat):Int)) Z Z (by rw [w64 O O];simp)) Z<|qcd Z Z<|W0 Y5<|Wt 0 [_] Y9<|Nt<|Sr<|Zqm Z Z<|qmx Z Z Z<|Zqm Z Z<|?_
 refine qak (t:=14) Z (fun c1=>?_) (fun c1=>?_)
 ·
  refine Zg Z Z<|Zqm Z Z<|Zg Z Z<|qcd Z Z<|Zg Z Z<|W0 Y5<|Zg Z Z<|Wl 0 Y6<|Zg Z Z<|qmx Z Z Z<|ZqT Z Z Z<|At Z Z<|Zo<|?_
  refine rR [] _ (.t1 Z) Z (Lr D) fun _ hS2=>?_
  refine ⟨?_,Z⟩
  simp only [qat]
  exact congrArg Value.bool (decide_eq_decide.2 O)
 refine Wf Y4<|Wf Y4<|Wf Y4<|Wf Y4<|Wf Y4<|ZqF Z Z Z<|At Z Z<|Zo<|?_
 refine rR [] _ (.t1 Z) Z (Lr D) fun _ hS2=>?_
 refine ⟨?_,Z⟩
 simp only [qat]
 exact congrArg Value.bool (decide_eq_false O).symm
theorem qlZ(D:Nat)(L:Hl)(s:World)(k:Int)(h1:1≤k)(h2:k≤10):AC prog D 155 [.int .i64 k] L s fun v L' _=>v=.tuple #[.int .i64 (qbO k:Int),.int .i64 (qcA k:Int),.bool (qcc k),.bool (decide (k=3∨k=4)),.bool (decide (k=3))]∧L=L':=by
 refine qai (fn:=f155) qao func155 V Z ntmps155 Z (rs:=[.tmp 2,.tmp 3,.tmp 4,.tmp 5,.tmp 6]) Z [(0,_)] Z<|Sr<|Zqa Z Z<|Zqa Z Z<|Zqa Z Z<|Zqa Z Z<|At Z Z<|Zs<|Sr<|Zqm Z Z<|Nt<|Zp<|Sr<|qar Z Z Z<|At Z Z<|?_
 refine qaa Z (fun c1=>?_) (fun c1=>?_)
 ·
  refine Sr<|Zqa Z Z<|Zqa Z Z<|Zqa Z Z<|Zqa Z Z<|At Z Z<|Zo<|Zc<|Zu<|?_
  refine rR [] L (.tmp Z (.tmp Z (.tmp Z (.tmp Z (.t1 Z))))) Z (Lr D) fun _ hS2=>?_
  refine ⟨?_,Z⟩
  have h9:k=1∨k=2∨k=3∨k=4∨k=5∨k=6∨k=7∨k=8∨k=9∨k=10:=by omega
  rcases h9 with rfl | rfl | rfl | rfl | rfl | rfl | rfl | rfl | rfl | rfl <;> first | rfl | (exfalso;omega)
 refine Sr<|qar Z Z Z<|At Z Z<|?_
 refine qaa Z (fun c2=>?_) (fun c2=>?_)
 ·
  refine Sr<|Zqa Z Z<|Zqa Z Z<|Zqa Z Z<|Zqa Z Z<|At Z Z<|Zo<|Zc<|Zu<|?_
  refine rR [] L (.tmp Z (.tmp Z (.tmp Z (.tmp Z (.t1 Z))))) Z (Lr D) fun _ hS2=>?_
  refine ⟨?_,Z⟩
  have h9:k=1∨k=2∨k=3∨k=4∨k=5∨k=6∨k=7∨k=8∨k=9∨k=10:=by omega
  rcases h9 with rfl | rfl | rfl | rfl | rfl | rfl | rfl | rfl | rfl | rfl <;> first | rfl | (exfalso;omega)
 refine Sr<|qar Z Z Z<|At Z Z<|?_
 refine qaa Z (fun c3=>?_) (fun c3=>?_)
 ·
  refine Sr<|Zqa Z Z<|Zqa Z Z<|Zqa Z Z<|Zqa Z Z<|At Z Z<|Zo<|Zc<|Zu<|?_
  refine rR [] L (.tmp Z (.tmp Z (.tmp Z (.tmp Z (.t1 Z))))) Z (Lr D) fun _ hS2=>?_
  refine ⟨?_,Z⟩
  have h9:k=1∨k=2∨k=3∨k=4∨k=5∨k=6∨k=7∨k=8∨k=9∨k=10:=by omega
  rcases h9 with rfl | rfl | rfl | rfl | rfl | rfl | rfl | rfl | rfl | rfl <;> first | rfl | (exfalso;omega)
 refine Sr<|qar Z Z Z<|At Z Z<|?_
 refine qaa Z (fun c4=>?_) (fun c4=>?_)
 ·
  refine Sr<|Zqa Z Z<|Zqa Z Z<|Zqa Z Z<|Zqa Z Z<|At Z Z<|Zo<|Zc<|Zu<|?_
  refine rR [] L (.tmp Z (.tmp Z (.tmp Z (.tmp Z (.t1 Z))))) Z (Lr D) fun _ hS2=>?_
  refine ⟨?_,Z⟩
  have h9:k=1∨k=2∨k=3∨k=4∨k=5∨k=6∨k=7∨k=8∨k=9∨k=10:=by omega
  rcases h9 with rfl | rfl | rfl | rfl | rfl | rfl | rfl | rfl | rfl | rfl <;> first | rfl | (exfalso;omega)
 refine Sr<|qar Z Z Z<|At Z Z<|?_
 refine qaa Z (fun c5=>?_) (fun c5=>?_)
 ·
  refine Sr<|Zqa Z Z<|Zqa Z Z<|Zqa Z Z<|Zqa Z Z<|At Z Z<|Zo<|Zc<|Zu<|?_
  refine rR [] L (.tmp Z (.tmp Z (.tmp Z (.tmp Z (.t1 Z))))) Z (Lr D) fun _ hS2=>?_
  refine ⟨?_,Z⟩
  have h9:k=1∨k=2∨k=3∨k=4∨k=5∨k=6∨k=7∨k=8∨k=9∨k=10:=by omega
  rcases h9 with rfl | rfl | rfl | rfl | rfl | rfl | rfl | rfl | rfl | rfl <;> first | rfl | (exfalso;omega)
 refine Zs<|Sr<|qar Z Z Z<|At Z Z<|?_
 refine qaa Z (fun c6=>?_) (fun c6=>?_)
 ·
  refine Zk<|Zt<|?_
  refine qaa Z (fun c7=>?_) (fun c7=>?_)
  ·
   refine Sr<|Zqa Z Z<|Zqa Z Z<|Zqa Z Z<|Zqa Z Z<|At Z Z<|Zo<|Zc<|Zu<|?_
   refine rR [] L (.tmp Z (.tmp Z (.tmp Z (.tmp Z (.t1 Z))))) Z (Lr D) fun _ hS2=>?_
   refine ⟨?_,Z⟩
   have h9:k=1∨k=2∨k=3∨k=4∨k=5∨k=6∨k=7∨k=8∨k=9∨k=10:=by omega
   rcases h9 with rfl | rfl | rfl | rfl | rfl | rfl | rfl | rfl | rfl | rfl <;> first | rfl | (exfalso;omega)
  refine Zk<|Zb<|Zt<|Sr<|Zqa Z Z<|Zqa Z Z<|Zqa Z Z<|Zqa Z Z<|At Z Z<|Zo ?_
  refine rR [] L (.tmp Z (.tmp Z (.tmp Z (.tmp Z (.t1 Z))))) Z (Lr D) fun _ hS2=>?_
  refine ⟨?_,Z⟩
  have h9:k=1∨k=2∨k=3∨k=4∨k=5∨k=6∨k=7∨k=8∨k=9∨k=10:=by omega
  rcases h9 with rfl | rfl | rfl | rfl | rfl | rfl | rfl | rfl | rfl | rfl <;> first | rfl | (exfalso;omega)
 refine Zr<|qar Z Z Z<|At Z Z<|?_
 refine qaa Z (fun c8=>?_) (fun c8=>?_)
 ·
  refine Sr<|Zqa Z Z<|Zqa Z Z<|Zqa Z Z<|Zqa Z Z<|At Z Z<|Zo<|Zc<|Zu<|?_
  refine rR [] L (.tmp Z (.tmp Z (.tmp Z (.tmp Z (.t1 Z))))) Z (Lr D) fun _ hS2=>?_
  refine ⟨?_,Z⟩
  have h9:k=1∨k=2∨k=3∨k=4∨k=5∨k=6∨k=7∨k=8∨k=9∨k=10:=by omega
  rcases h9 with rfl | rfl | rfl | rfl | rfl | rfl | rfl | rfl | rfl | rfl <;> first | rfl | (exfalso;omega)
 refine Zk<|Zb<|Zt<|Sr<|Zqa Z Z<|Zqa Z Z<|Zqa Z Z<|Zqa Z Z<|At Z Z<|Zo ?_
 refine rR [] L (.tmp Z (.tmp Z (.tmp Z (.tmp Z (.t1 Z))))) Z (Lr D) fun _ hS2=>?_
 refine ⟨?_,Z⟩
 have h9:k=1∨k=2∨k=3∨k=4∨k=5∨k=6∨k=7∨k=8∨k=9∨k=10:=by omega
 rcases h9 with rfl | rfl | rfl | rfl | rfl | rfl | rfl | rfl | rfl | rfl <;> first | rfl | (exfalso;omega)
theorem ql2(D:Nat)(L:Hl)(s:World)(k:Int):AC prog D 184 [.int .i64 k] L s fun v L' _=>v=.tuple #[.int .i64 (qbG k:Int),.int .i64 (qcv k:Int)]∧L=L':=by
 refine qai (fn:=f184) qao func184 V Z ntmps184 Z (rs:=[.tmp 2,.tmp 3]) Z [(0,_)] Z<|Sr<|Zqa Z Z<|At Z Z<|Zs<|Sr<|Zqm Z Z<|Nt<|Zp<|Zs<|Sr<|qar Z Z Z<|At Z Z<|?_
 refine qaa Z (fun c1=>?_) (fun c1=>?_)
 ·
  refine Zk<|Zt<|?_
  refine qaa Z (fun c2=>?_) (fun c2=>?_)
  ·
   refine Sr<|Zqa Z Z<|At Z Z<|Zo<|Zc<|Zu<|?_
   refine rR [] L (.tmp Z (.t1 Z)) Z (Lr D) fun _ hS2=>?_
   refine ⟨?_,Z⟩
   simp only [qat];unfold qbG qcv
   repeat' split
   all_goals (first | rfl | (exfalso;omega))
  refine Sr<|qar Z Z Z<|At Z Z<|?_
  refine qaa Z (fun c3=>?_) (fun c3=>?_)
  ·
   refine Sr<|Zqa Z Z<|At Z Z<|Zo<|Zc<|Zu<|?_
   refine rR [] L (.tmp Z (.t1 Z)) Z (Lr D) fun _ hS2=>?_
   refine ⟨?_,Z⟩
   simp only [qat];unfold qbG qcv
   repeat' split
   all_goals (first | rfl | (exfalso;omega))
  refine Sr<|qar Z Z Z<|At Z Z<|?_
  refine qaa Z (fun c4=>?_) (fun c4=>?_)
  ·
   refine Sr<|Zqa Z Z<|At Z Z<|Zo<|Zc<|Zu<|?_
   refine rR [] L (.tmp Z (.t1 Z)) Z (Lr D) fun _ hS2=>?_
   refine ⟨?_,Z⟩
   simp only [qat];unfold qbG qcv
   repeat' split
   all_goals (first | rfl | (exfalso;omega))
  refine Zk<|Zb<|Zt<|Sr<|Zqa Z Z<|At Z Z<|Zo<|?_
  refine rR [] L (.tmp Z (.t1 Z)) Z (Lr D) fun _ hS2=>?_
  refine ⟨?_,Z⟩
  simp only [qat];unfold qbG qcv
  repeat' split
  all_goals (first | rfl | (exfalso;omega))
 refine Zr<|qar Z Z Z<|At Z Z<|?_
 refine qaa Z (fun c5=>?_) (fun c5=>?_)
 ·
  refine Sr<|Zqa Z Z<|At Z Z<|Zo<|Zc<|Zu<|?_
  refine rR [] L (.tmp Z (.t1 Z)) Z (Lr D) fun _ hS2=>?_
  refine ⟨?_,Z⟩
  simp only [qat];unfold qbG qcv
  repeat' split
  all_goals (first | rfl | (exfalso;omega))
 refine Sr<|qar Z Z Z<|At Z Z<|?_
 refine qaa Z (fun c6=>?_) (fun c6=>?_)
 ·
  refine Sr<|Zqa Z Z<|At Z Z<|Zo<|Zc<|Zu<|?_
  refine rR [] L (.tmp Z (.t1 Z)) Z (Lr D) fun _ hS2=>?_
  refine ⟨?_,Z⟩
  simp only [qat];unfold qbG qcv
  repeat' split
  all_goals (first | rfl | (exfalso;omega))
 refine Sr<|qar Z Z Z<|At Z Z<|?_
 refine qaa Z (fun c7=>?_) (fun c7=>?_)
 ·
  refine Sr<|Zqa Z Z<|At Z Z<|Zo<|Zc<|Zu<|?_
  refine rR [] L (.tmp Z (.t1 Z)) Z (Lr D) fun _ hS2=>?_
  refine ⟨?_,Z⟩
  simp only [qat];unfold qbG qcv
  repeat' split
  all_goals (first | rfl | (exfalso;omega))
 refine Zk<|Zb<|Zt<|Sr<|Zqa Z Z<|At Z Z<|Zo<|?_
 refine rR [] L (.tmp Z (.t1 Z)) Z (Lr D) fun _ hS2=>?_
 refine ⟨?_,Z⟩
 simp only [qat];unfold qbG qcv
 repeat' split
 all_goals (first | rfl | (exfalso;omega))
theorem qr8(D:Nat)(L:Hl)(s:World)(x:Ex)(A:Option Addr)(n c:Nat):AC prog D 183 [.agg #[.int .i64 x.kind,.int .i64 x.op,.int .u32 x.num,St x.name,.slice A n c]] L s fun v L' _=>v=.bool (decide (¬ ((x.kind=6∧(x.op < 1∨3 < x.op))∨(x.kind=7∧(x.op < 4∨21 < x.op)))))∧L=L':=by
 refine qai (fn:=f183) qao func183 V Z ntmps183 Z (rs:=[.tmp 2]) Z [(0,_)] Z<|Sr<|qaq Z Z ?_
 intro β1 s1 h1
 refine At Z Z<|Zs<|Sr<|W0 Y5<|Wl 0 Y6<|Nt<|Zp<|Sr<|qar Z Z Z<|At Z Z<|?_
 refine qaa Z (fun c2=>?_) (fun c2=>?_)
 ·
  refine Sr<|Wb Y5<|Wl 0 Y6<|qfa Z Z Z<|Zqm Z Z<|?_
  refine qak (t:=10) Z (fun c3=>?_) (fun c3=>?_)
  ·
   refine Zg Z Z<|Wb Y5<|Zg Z Z<|Wl 0 Y6<|Zg Z Z<|qmx Z Z Z<|ZqT Z Z Z<|At Z Z<|Zo<|Zc<|Zu ?_
   refine rR [_] L (.t1 Z) Z h1 fun _ hS2=>?_
   refine ⟨?_,Z⟩
   simp only [qat]
   exact congrArg Value.bool (decide_eq_decide.2 O)
  refine Wf Y4<|Wf Y4<|Wf Y4<|ZqF Z Z Z<|At Z Z<|Zo<|Zc<|Zu<|?_
  refine rR [_] L (.t1 Z) Z h1 fun _ hS2=>?_
  refine ⟨?_,Z⟩
  simp only [qat]
  exact congrArg Value.bool (decide_eq_false O).symm
 refine Sr<|qar Z Z Z<|At Z Z<|?_
 refine qaa Z (fun c4=>?_) (fun c4=>?_)
 ·
  refine Sr<|Wb Y5<|Wl 0 Y6<|qfa Z Z Z<|Zqm Z Z<|?_
  refine qak (t:=20) Z (fun c5=>?_) (fun c5=>?_)
  ·
   refine Zg Z Z<|Wb Y5<|Zg Z Z<|Wl 0 Y6<|Zg Z Z<|qmx Z Z Z<|ZqT Z Z Z<|At Z Z<|Zo<|Zc<|Zu ?_
   refine rR [_] L (.t1 Z) Z h1 fun _ hS2=>?_
   refine ⟨?_,Z⟩
   simp only [qat]
   exact congrArg Value.bool (decide_eq_decide.2 O)
  refine Wf Y4<|Wf Y4<|Wf Y4<|ZqF Z Z Z<|At Z Z<|Zo<|Zc<|Zu<|?_
  refine rR [_] L (.t1 Z) Z h1 fun _ hS2=>?_
  refine ⟨?_,Z⟩
  simp only [qat]
  exact congrArg Value.bool (decide_eq_false O).symm
 refine Zk<|Zb<|Zt<|Sr<|At Z Z<|Zo<|?_
 refine rR [_] L (.t1 Z) Z h1 fun _ hS2=>?_
 refine ⟨?_,Z⟩
 simp only [qat]
 exact congrArg Value.bool (decide_eq_true O).symm
theorem qaQ{g:Glo}{n:Nat}(h:n=g.init.length):qfc g=if g.kind < 1∨3 < g.kind then 5 else if qaT g.name=false then 7 else if (g.kind≠3∧0 < n)∨(g.kind=2∧g.num≠0) then 6 else if g.kind=3∧(g.num < 1∨40000 < g.num) then 4 else if g.kind=3∧g.num < (n:Int) then 2 else 0:=by
 have hi:g.init≠[]↔0 < n:=by rw [h];exact List.length_pos_iff.symm
 simp only [qfc,hi,h]
theorem qlo(D:Nat)(L:Hl)(s:World)(hG:GP s)(g:Glo)(A:Option Addr)(n c:Nat)(hA:Wds s A n c g.init)(hu:U32 g.num):AC prog D 74 [.agg #[.int .i64 g.kind,St g.name,.int .u32 g.num,.slice A n c]] L s fun v L' _=>v=.int .i64 (qfc g)∧L=L':=by
 have hn:=hA.1
 have hu1:=hu.1
 have hu2:=hu.2
 refine qai (fn:=f74) qao func74 V Z ntmps74 Z (rs:=[.tmp 2]) Z [(0,_)] Z<|Sr<|qaq Z Z ?_
 intro β1 s1 h1
 refine At Z Z<|Zs<|Zp<|Sr<|W0 Y5<|Wl 0 Y6<|qbh Z Z Z<|Zqm Z Z<|?_
 refine qak (t:=7) Z (fun c2=>?_) (fun c2=>?_)
 ·
  refine Wf Y4<|Wf Y4<|Wf Y4<|ZqT Z Z Z<|At Z Z<|Zy Z<|Sr<|At Z Z<|Zo<|Zc<|Zu<|?_
  refine rR [_] L (.t1 Z) Z h1 fun _ hS2=>?_
  refine ⟨?_,Z⟩
  simp only [qat];rw [qaQ hn]
  repeat' split
  all_goals (first | rfl | (exfalso;omega) | (exfalso;simp_all;done) | (exfalso;simp_all;omega))
 refine Zg Z Z<|W0 Y5<|Zg Z Z<|Wl 0 Y6<|Zg Z Z<|qbv Z Z Z<|ZqF Z Z Z<|At Z Z<|?_
 refine qaa Z (fun c3=>?_) (fun c3=>?_)
 ·
  refine Sr<|At Z Z<|Zo<|Zc<|Zu<|?_
  refine rR [_] L (.t1 Z) Z h1 fun _ hS2=>?_
  refine ⟨?_,Z⟩
  simp only [qat];rw [qaQ hn]
  repeat' split
  all_goals (first | rfl | (exfalso;omega) | (exfalso;simp_all;done) | (exfalso;simp_all;omega))
 refine Sr<|Wb Y5<|Wl 0 Y6<|Jc Z Z Z (qer D _ _ (hG.le h1) g.name) ?_
 rintro _ _ s4 h4 ⟨rfl,rfl⟩
 refine qbV Z Z<|At Z Z<|?_
 refine qcH Z (fun c5=>?_) (fun c5=>?_)
 ·
  refine Sr<|At Z Z<|Zo<|Zc<|Zu<|?_
  refine rR [_] L (.t1 Z) Z (h1.t h4) fun _ hS2=>?_
  refine ⟨?_,Z⟩
  simp only [qat];rw [qaQ hn]
  repeat' split
  all_goals (first | rfl | (exfalso;omega) | (exfalso;simp_all;done) | (exfalso;simp_all;omega))
 refine Zs<|Sr<|W0 Y5<|Wl 0 Y6<|qb2 Z Z Z<|Zqm Z Z<|?_
 refine qaE (t:=21) Z (fun c6=>?_) (fun c6=>?_)
 ·
  refine Zg Z Z<|Wb Y5<|Zg Z Z<|Wl 0 Y6<|Zg Z Z<|Ws Y4<|Zg Z Z<|qbv Z Z Z<|ZqT Z Z Z<|At Z Z<|?_
  refine qaa Z (fun c7=>?_) (fun c7=>?_)
  ·
   refine Zk<|Zt<|?_
   refine qaa Z (fun c8=>?_) (fun c8=>?_)
   ·
    refine Sr<|At Z Z<|Zo<|Zc<|Zu<|?_
    refine rR [_] L (.t1 Z) Z (h1.t h4) fun _ hS2=>?_
    refine ⟨?_,Z⟩
    simp only [qat];rw [qaQ hn]
    repeat' split
    all_goals (first | rfl | (exfalso;omega) | (exfalso;simp_all;done) | (exfalso;simp_all;omega))
   refine Sr<|W0 Y5<|Wl 0 Y6<|qar Z Z Z<|Zqm Z Z<|?_
   refine qak (t:=39) Z (fun c9=>?_) (fun c9=>?_)
   ·
    refine Zg Z Z<|Wb Y5<|Zg Z Z<|Wl 0 Y6<|Zg Z Z<|qbh Z Z Z<|Zg Z Z<|Zqm Z Z<|?_
    refine qak (t:=43) Z (fun c10=>?_) (fun c10=>?_)
    ·
     refine Wf Y4<|Wf Y4<|Wf Y4<|Zg Z Z<|ZqT Z Z Z<|ZqT Z Z Z<|At Z Z<|Zy Z<|Sr<|At Z Z<|Zo<|Zc<|Zu<|?_
     refine rR [_] L (.t1 Z) Z (h1.t h4) fun _ hS2=>?_
     refine ⟨?_,Z⟩
     simp only [qat];rw [qaQ hn]
     repeat' split
     all_goals (first | rfl | (exfalso;omega) | (exfalso;simp_all;done) | (exfalso;simp_all;omega))
    refine Zg Z Z<|Wb Y5<|Zg Z Z<|Wl 0 Y6<|Zg Z Z<|qbv Z Z Z<|Zg Z Z<|ZqF Z Z Z<|ZqT Z Z Z<|At Z Z<|?_
    refine qaa Z (fun c11=>?_) (fun c11=>?_)
    ·
     refine Sr<|At Z Z<|Zo<|Zc<|Zu<|?_
     refine rR [_] L (.t1 Z) Z (h1.t h4) fun _ hS2=>?_
     refine ⟨?_,Z⟩
     simp only [qat];rw [qaQ hn]
     repeat' split
     all_goals (first | rfl | (exfalso;omega) | (exfalso;simp_all;done) | (exfalso;simp_all;omega))
    refine Sr<|W0 Y5<|Wl 0 Y6<|qar Z Z Z<|Zqm Z Z<|?_
    refine qak (t:=53) Z (fun c12=>?_) (fun c12=>?_)
    ·
     refine Zg Z Z<|Wb Y5<|Zg Z Z<|Wl 0 Y6<|Zg Z Z<|Ws Y4<|Zg Z Z<|Wb Y5<|Zg Z Z<|Wl 0 Y6<|Zg Z Z<|qac (qbl Z Z Z Z Z (w64 O O)) Z<|Zg Z Z<|qbv Z Z Z<|ZqT Z Z Z<|At Z Z<|?_
     refine qaa Z (fun c13=>?_) (fun c13=>?_)
     ·
      refine Sr<|At Z Z<|Zo<|Zc<|Zu<|?_
      refine rR [_] L (.t1 Z) Z (h1.t h4) fun _ hS2=>?_
      refine ⟨?_,Z⟩
      simp only [qat];rw [qaQ hn]
      repeat' split
      all_goals (first | rfl | (exfalso;omega) | (exfalso;simp_all;done) | (exfalso;simp_all;omega))
     refine Zk<|Zb<|Zt<|Sr<|At Z Z<|Zo<|?_
     refine rR [_] L (.t1 Z) Z (h1.t h4) fun _ hS2=>?_
     refine ⟨?_,Z⟩
     simp only [qat];rw [qaQ hn]
     repeat' split
     all_goals (first | rfl | (exfalso;omega) | (exfalso;simp_all;done) | (exfalso;simp_all;omega))
    refine Wf Y4<|Wf Y4<|Wf Y4<|Wf Y4<|Wf Y4<|Wf Y4<|Wf Y4<|ZqF Z Z Z<|At Z Z<|Zz Z<|Zk<|Zb<|Zt<|Sr<|At Z Z<|Zo<|?_
    refine rR [_] L (.t1 Z) Z (h1.t h4) fun _ hS2=>?_
    refine ⟨?_,Z⟩
    simp only [qat];rw [qaQ hn]
    repeat' split
    all_goals (first | rfl | (exfalso;omega) | (exfalso;simp_all;done) | (exfalso;simp_all;omega))
   refine Wf Y4<|Wf Y4<|Wf Y4<|Wf Y4<|Zh Z Z Z<|Zh Z Z Z<|Zh Z Z Z<|Wf Y4<|ZqF Z Z Z<|At Z Z<|Zz Z<|Sr<|W0 Y5<|Wl 0 Y6<|qar Z Z Z<|Zqm Z Z<|?_
   refine qak (t:=53) Z (fun c14=>?_) (fun c14=>?_)
   ·
    refine Zg Z Z<|Wb Y5<|Zg Z Z<|Wl 0 Y6<|Zg Z Z<|Ws Y4<|Zg Z Z<|Wb Y5<|Zg Z Z<|Wl 0 Y6<|Zg Z Z<|qac (qbl Z Z Z Z Z (w64 O O)) Z<|Zg Z Z<|qbv Z Z Z<|ZqT Z Z Z<|At Z Z<|?_
    refine qaa Z (fun c15=>?_) (fun c15=>?_)
    ·
     refine Sr<|At Z Z<|Zo<|Zc<|Zu<|?_
     refine rR [_] L (.t1 Z) Z (h1.t h4) fun _ hS2=>?_
     refine ⟨?_,Z⟩
     simp only [qat];rw [qaQ hn]
     repeat' split
     all_goals (first | rfl | (exfalso;omega) | (exfalso;simp_all;done) | (exfalso;simp_all;omega))
    refine Zk<|Zb<|Zt<|Sr<|At Z Z<|Zo<|?_
    refine rR [_] L (.t1 Z) Z (h1.t h4) fun _ hS2=>?_
    refine ⟨?_,Z⟩
    simp only [qat];rw [qaQ hn]
    repeat' split
    all_goals (first | rfl | (exfalso;omega) | (exfalso;simp_all;done) | (exfalso;simp_all;omega))
   refine Wf Y4<|Wf Y4<|Wf Y4<|Wf Y4<|Wf Y4<|Wf Y4<|Wf Y4<|ZqF Z Z Z<|At Z Z<|Zz Z<|Zk<|Zb<|Zt<|Sr<|At Z Z<|Zo<|?_
   refine rR [_] L (.t1 Z) Z (h1.t h4) fun _ hS2=>?_
   refine ⟨?_,Z⟩
   simp only [qat];rw [qaQ hn]
   repeat' split
   all_goals (first | rfl | (exfalso;omega) | (exfalso;simp_all;done) | (exfalso;simp_all;omega))
  refine Zr<|W0 Y5<|Wl 0 Y6<|qar Z Z Z<|Zqm Z Z<|?_
  refine qak (t:=30) Z (fun c16=>?_) (fun c16=>?_)
  ·
   refine Zg Z Z<|Wb Y5<|Zg Z Z<|Wl 0 Y6<|Zg Z Z<|qb2 Z Z Z<|ZqT Z Z Z<|At Z Z<|?_
   refine qaP Z (fun c17=>?_) (fun c17=>?_)
   ·
    refine Sr<|At Z Z<|Zo<|Zc<|Zu<|?_
    refine rR [_] L (.t1 Z) Z (h1.t h4) fun _ hS2=>?_
    refine ⟨?_,Z⟩
    simp only [qat];rw [qaQ hn]
    repeat' split
    all_goals (first | rfl | (exfalso;omega) | (exfalso;simp_all;done) | (exfalso;simp_all;omega))
   refine Sr<|W0 Y5<|Wl 0 Y6<|qar Z Z Z<|Zqm Z Z<|?_
   refine qak (t:=39) Z (fun c18=>?_) (fun c18=>?_)
   ·
    refine Zg Z Z<|Wb Y5<|Zg Z Z<|Wl 0 Y6<|Zg Z Z<|qbh Z Z Z<|Zg Z Z<|Zqm Z Z<|?_
    refine qak (t:=43) Z (fun c19=>?_) (fun c19=>?_)
    ·
     refine Wf Y4<|Wf Y4<|Wf Y4<|Zg Z Z<|ZqT Z Z Z<|ZqT Z Z Z<|At Z Z<|Zy Z<|Sr<|At Z Z<|Zo<|Zc<|Zu<|?_
     refine rR [_] L (.t1 Z) Z (h1.t h4) fun _ hS2=>?_
     refine ⟨?_,Z⟩
     simp only [qat];rw [qaQ hn]
     repeat' split
     all_goals (first | rfl | (exfalso;omega) | (exfalso;simp_all;done) | (exfalso;simp_all;omega))
    refine Zg Z Z<|Wb Y5<|Zg Z Z<|Wl 0 Y6<|Zg Z Z<|qbv Z Z Z<|Zg Z Z<|ZqF Z Z Z<|ZqT Z Z Z<|At Z Z<|?_
    refine qaa Z (fun c20=>?_) (fun c20=>?_)
    ·
     refine Sr<|At Z Z<|Zo<|Zc<|Zu<|?_
     refine rR [_] L (.t1 Z) Z (h1.t h4) fun _ hS2=>?_
     refine ⟨?_,Z⟩
     simp only [qat];rw [qaQ hn]
     repeat' split
     all_goals (first | rfl | (exfalso;omega) | (exfalso;simp_all;done) | (exfalso;simp_all;omega))
    refine Sr<|W0 Y5<|Wl 0 Y6<|qar Z Z Z<|Zqm Z Z<|?_
    refine qak (t:=53) Z (fun c21=>?_) (fun c21=>?_)
    ·
     refine Zg Z Z<|Wb Y5<|Zg Z Z<|Wl 0 Y6<|Zg Z Z<|Ws Y4<|Zg Z Z<|Wb Y5<|Zg Z Z<|Wl 0 Y6<|Zg Z Z<|qac (qbl Z Z Z Z Z (w64 O O)) Z<|Zg Z Z<|qbv Z Z Z<|ZqT Z Z Z<|At Z Z<|?_
     refine qaa Z (fun c22=>?_) (fun c22=>?_)
     ·
      refine Sr<|At Z Z<|Zo<|Zc<|Zu<|?_
      refine rR [_] L (.t1 Z) Z (h1.t h4) fun _ hS2=>?_
      refine ⟨?_,Z⟩
      simp only [qat];rw [qaQ hn]
      repeat' split
      all_goals (first | rfl | (exfalso;omega) | (exfalso;simp_all;done) | (exfalso;simp_all;omega))
     refine Zk<|Zb<|Zt<|Sr<|At Z Z<|Zo<|?_
     refine rR [_] L (.t1 Z) Z (h1.t h4) fun _ hS2=>?_
     refine ⟨?_,Z⟩
     simp only [qat];rw [qaQ hn]
     repeat' split
     all_goals (first | rfl | (exfalso;omega) | (exfalso;simp_all;done) | (exfalso;simp_all;omega))
    refine Wf Y4<|Wf Y4<|Wf Y4<|Wf Y4<|Wf Y4<|Wf Y4<|Wf Y4<|ZqF Z Z Z<|At Z Z<|Zz Z<|Zk<|Zb<|Zt<|Sr<|At Z Z<|Zo<|?_
    refine rR [_] L (.t1 Z) Z (h1.t h4) fun _ hS2=>?_
    refine ⟨?_,Z⟩
    simp only [qat];rw [qaQ hn]
    repeat' split
    all_goals (first | rfl | (exfalso;omega) | (exfalso;simp_all;done) | (exfalso;simp_all;omega))
   refine Wf Y4<|Wf Y4<|Wf Y4<|Wf Y4<|Zh Z Z Z<|Zh Z Z Z<|Zh Z Z Z<|Wf Y4<|ZqF Z Z Z<|At Z Z<|Zz Z<|Sr<|W0 Y5<|Wl 0 Y6<|qar Z Z Z<|Zqm Z Z<|?_
   refine qak (t:=53) Z (fun c23=>?_) (fun c23=>?_)
   ·
    refine Zg Z Z<|Wb Y5<|Zg Z Z<|Wl 0 Y6<|Zg Z Z<|Ws Y4<|Zg Z Z<|Wb Y5<|Zg Z Z<|Wl 0 Y6<|Zg Z Z<|qac (qbl Z Z Z Z Z (w64 O O)) Z<|Zg Z Z<|qbv Z Z Z<|ZqT Z Z Z<|At Z Z<|?_
    refine qaa Z (fun c24=>?_) (fun c24=>?_)
    ·
     refine Sr<|At Z Z<|Zo<|Zc<|Zu<|?_
     refine rR [_] L (.t1 Z) Z (h1.t h4) fun _ hS2=>?_
     refine ⟨?_,Z⟩
     simp only [qat];rw [qaQ hn]
     repeat' split
     all_goals (first | rfl | (exfalso;omega) | (exfalso;simp_all;done) | (exfalso;simp_all;omega))
    refine Zk<|Zb<|Zt<|Sr<|At Z Z<|Zo<|?_
    refine rR [_] L (.t1 Z) Z (h1.t h4) fun _ hS2=>?_
    refine ⟨?_,Z⟩
    simp only [qat];rw [qaQ hn]
    repeat' split
    all_goals (first | rfl | (exfalso;omega) | (exfalso;simp_all;done) | (exfalso;simp_all;omega))
   refine Wf Y4<|Wf Y4<|Wf Y4<|Wf Y4<|Wf Y4<|Wf Y4<|Wf Y4<|ZqF Z Z Z<|At Z Z<|Zz Z<|Zk<|Zb<|Zt<|Sr<|At Z Z<|Zo<|?_
   refine rR [_] L (.t1 Z) Z (h1.t h4) fun _ hS2=>?_
   refine ⟨?_,Z⟩
   simp only [qat];rw [qaQ hn]
   repeat' split
   all_goals (first | rfl | (exfalso;omega) | (exfalso;simp_all;done) | (exfalso;simp_all;omega))
  refine Wf Y4<|Wf Y4<|Wf Y4<|ZqF Z Z Z<|At Z Z<|Zz Z<|Sr<|W0 Y5<|Wl 0 Y6<|qar Z Z Z<|Zqm Z Z<|?_
  refine qak (t:=39) Z (fun c25=>?_) (fun c25=>?_)
  ·
   refine Zg Z Z<|Wb Y5<|Zg Z Z<|Wl 0 Y6<|Zg Z Z<|qbh Z Z Z<|Zg Z Z<|Zqm Z Z<|?_
   refine qak (t:=43) Z (fun c26=>?_) (fun c26=>?_)
   ·
    refine Wf Y4<|Wf Y4<|Wf Y4<|Zg Z Z<|ZqT Z Z Z<|ZqT Z Z Z<|At Z Z<|Zy Z<|Sr<|At Z Z<|Zo<|Zc<|Zu<|?_
    refine rR [_] L (.t1 Z) Z (h1.t h4) fun _ hS2=>?_
    refine ⟨?_,Z⟩
    simp only [qat];rw [qaQ hn]
    repeat' split
    all_goals (first | rfl | (exfalso;omega) | (exfalso;simp_all;done) | (exfalso;simp_all;omega))
   refine Zg Z Z<|Wb Y5<|Zg Z Z<|Wl 0 Y6<|Zg Z Z<|qbv Z Z Z<|Zg Z Z<|ZqF Z Z Z<|ZqT Z Z Z<|At Z Z<|?_
   refine qaa Z (fun c27=>?_) (fun c27=>?_)
   ·
    refine Sr<|At Z Z<|Zo<|Zc<|Zu<|?_
    refine rR [_] L (.t1 Z) Z (h1.t h4) fun _ hS2=>?_
    refine ⟨?_,Z⟩
    simp only [qat];rw [qaQ hn]
    repeat' split
    all_goals (first | rfl | (exfalso;omega) | (exfalso;simp_all;done) | (exfalso;simp_all;omega))
   refine Sr<|W0 Y5<|Wl 0 Y6<|qar Z Z Z<|Zqm Z Z<|?_
   refine qak (t:=53) Z (fun c28=>?_) (fun c28=>?_)
   ·
    refine Zg Z Z<|Wb Y5<|Zg Z Z<|Wl 0 Y6<|Zg Z Z<|Ws Y4<|Zg Z Z<|Wb Y5<|Zg Z Z<|Wl 0 Y6<|Zg Z Z<|qac (qbl Z Z Z Z Z (w64 O O)) Z<|Zg Z Z<|qbv Z Z Z<|ZqT Z Z Z<|At Z Z<|?_
    refine qaa Z (fun c29=>?_) (fun c29=>?_)
    ·
     refine Sr<|At Z Z<|Zo<|Zc<|Zu<|?_
     refine rR [_] L (.t1 Z) Z (h1.t h4) fun _ hS2=>?_
     refine ⟨?_,Z⟩
     simp only [qat];rw [qaQ hn]
     repeat' split
     all_goals (first | rfl | (exfalso;omega) | (exfalso;simp_all;done) | (exfalso;simp_all;omega))
    refine Zk<|Zb<|Zt<|Sr<|At Z Z<|Zo<|?_
    refine rR [_] L (.t1 Z) Z (h1.t h4) fun _ hS2=>?_
    refine ⟨?_,Z⟩
    simp only [qat];rw [qaQ hn]
    repeat' split
    all_goals (first | rfl | (exfalso;omega) | (exfalso;simp_all;done) | (exfalso;simp_all;omega))
   refine Wf Y4<|Wf Y4<|Wf Y4<|Wf Y4<|Wf Y4<|Wf Y4<|Wf Y4<|ZqF Z Z Z<|At Z Z<|Zz Z<|Zk<|Zb<|Zt<|Sr<|At Z Z<|Zo<|?_
   refine rR [_] L (.t1 Z) Z (h1.t h4) fun _ hS2=>?_
   refine ⟨?_,Z⟩
   simp only [qat];rw [qaQ hn]
   repeat' split
   all_goals (first | rfl | (exfalso;omega) | (exfalso;simp_all;done) | (exfalso;simp_all;omega))
  refine Wf Y4<|Wf Y4<|Wf Y4<|Wf Y4<|Zh Z Z Z<|Zh Z Z Z<|Zh Z Z Z<|Wf Y4<|ZqF Z Z Z<|At Z Z<|Zz Z<|Sr<|W0 Y5<|Wl 0 Y6<|qar Z Z Z<|Zqm Z Z<|?_
  refine qak (t:=53) Z (fun c30=>?_) (fun c30=>?_)
  ·
   refine Zg Z Z<|Wb Y5<|Zg Z Z<|Wl 0 Y6<|Zg Z Z<|Ws Y4<|Zg Z Z<|Wb Y5<|Zg Z Z<|Wl 0 Y6<|Zg Z Z<|qac (qbl Z Z Z Z Z (w64 O O)) Z<|Zg Z Z<|qbv Z Z Z<|ZqT Z Z Z<|At Z Z<|?_
   refine qaa Z (fun c31=>?_) (fun c31=>?_)
   ·
    refine Sr<|At Z Z<|Zo<|Zc<|Zu<|?_
    refine rR [_] L (.t1 Z) Z (h1.t h4) fun _ hS2=>?_
    refine ⟨?_,Z⟩
    simp only [qat];rw [qaQ hn]
    repeat' split
    all_goals (first | rfl | (exfalso;omega) | (exfalso;simp_all;done) | (exfalso;simp_all;omega))
   refine Zk<|Zb<|Zt<|Sr<|At Z Z<|Zo<|?_
   refine rR [_] L (.t1 Z) Z (h1.t h4) fun _ hS2=>?_
   refine ⟨?_,Z⟩
   simp only [qat];rw [qaQ hn]
   repeat' split
   all_goals (first | rfl | (exfalso;omega) | (exfalso;simp_all;done) | (exfalso;simp_all;omega))
  refine Wf Y4<|Wf Y4<|Wf Y4<|Wf Y4<|Wf Y4<|Wf Y4<|Wf Y4<|ZqF Z Z Z<|At Z Z<|Zz Z<|Zk<|Zb<|Zt<|Sr<|At Z Z<|Zo<|?_
  refine rR [_] L (.t1 Z) Z (h1.t h4) fun _ hS2=>?_
  refine ⟨?_,Z⟩
  simp only [qat];rw [qaQ hn]
  repeat' split
  all_goals (first | rfl | (exfalso;omega) | (exfalso;simp_all;done) | (exfalso;simp_all;omega))
 refine Wf Y4<|Wf Y4<|Wf Y4<|Wf Y4<|ZqF Z Z Z<|At Z Z<|Zz Z<|Zr<|W0 Y5<|Wl 0 Y6<|qar Z Z Z<|Zqm Z Z<|?_
 refine qak (t:=30) Z (fun c32=>?_) (fun c32=>?_)
 ·
  refine Zg Z Z<|Wb Y5<|Zg Z Z<|Wl 0 Y6<|Zg Z Z<|qb2 Z Z Z<|ZqT Z Z Z<|At Z Z<|?_
  refine qaP Z (fun c33=>?_) (fun c33=>?_)
  ·
   refine Sr<|At Z Z<|Zo<|Zc<|Zu<|?_
   refine rR [_] L (.t1 Z) Z (h1.t h4) fun _ hS2=>?_
   refine ⟨?_,Z⟩
   simp only [qat];rw [qaQ hn]
   repeat' split
   all_goals (first | rfl | (exfalso;omega) | (exfalso;simp_all;done) | (exfalso;simp_all;omega))
  refine Sr<|W0 Y5<|Wl 0 Y6<|qar Z Z Z<|Zqm Z Z<|?_
  refine qak (t:=39) Z (fun c34=>?_) (fun c34=>?_)
  ·
   refine Zg Z Z<|Wb Y5<|Zg Z Z<|Wl 0 Y6<|Zg Z Z<|qbh Z Z Z<|Zg Z Z<|Zqm Z Z<|?_
   refine qak (t:=43) Z (fun c35=>?_) (fun c35=>?_)
   ·
    refine Wf Y4<|Wf Y4<|Wf Y4<|Zg Z Z<|ZqT Z Z Z<|ZqT Z Z Z<|At Z Z<|Zy Z<|Sr<|At Z Z<|Zo<|Zc<|Zu<|?_
    refine rR [_] L (.t1 Z) Z (h1.t h4) fun _ hS2=>?_
    refine ⟨?_,Z⟩
    simp only [qat];rw [qaQ hn]
    repeat' split
    all_goals (first | rfl | (exfalso;omega) | (exfalso;simp_all;done) | (exfalso;simp_all;omega))
   refine Zg Z Z<|Wb Y5<|Zg Z Z<|Wl 0 Y6<|Zg Z Z<|qbv Z Z Z<|Zg Z Z<|ZqF Z Z Z<|ZqT Z Z Z<|At Z Z<|?_
   refine qaa Z (fun c36=>?_) (fun c36=>?_)
   ·
    refine Sr<|At Z Z<|Zo<|Zc<|Zu<|?_
    refine rR [_] L (.t1 Z) Z (h1.t h4) fun _ hS2=>?_
    refine ⟨?_,Z⟩
    simp only [qat];rw [qaQ hn]
    repeat' split
    all_goals (first | rfl | (exfalso;omega) | (exfalso;simp_all;done) | (exfalso;simp_all;omega))
   refine Sr<|W0 Y5<|Wl 0 Y6<|qar Z Z Z<|Zqm Z Z<|?_
   refine qak (t:=53) Z (fun c37=>?_) (fun c37=>?_)
   ·
    refine Zg Z Z<|Wb Y5<|Zg Z Z<|Wl 0 Y6<|Zg Z Z<|Ws Y4<|Zg Z Z<|Wb Y5<|Zg Z Z<|Wl 0 Y6<|Zg Z Z<|qac (qbl Z Z Z Z Z (w64 O O)) Z<|Zg Z Z<|qbv Z Z Z<|ZqT Z Z Z<|At Z Z<|?_
    refine qaa Z (fun c38=>?_) (fun c38=>?_)
    ·
     refine Sr<|At Z Z<|Zo<|Zc<|Zu<|?_
     refine rR [_] L (.t1 Z) Z (h1.t h4) fun _ hS2=>?_
     refine ⟨?_,Z⟩
     simp only [qat];rw [qaQ hn]
     repeat' split
     all_goals (first | rfl | (exfalso;omega) | (exfalso;simp_all;done) | (exfalso;simp_all;omega))
    refine Zk<|Zb<|Zt<|Sr<|At Z Z<|Zo<|?_
    refine rR [_] L (.t1 Z) Z (h1.t h4) fun _ hS2=>?_
    refine ⟨?_,Z⟩
    simp only [qat];rw [qaQ hn]
    repeat' split
    all_goals (first | rfl | (exfalso;omega) | (exfalso;simp_all;done) | (exfalso;simp_all;omega))
   refine Wf Y4<|Wf Y4<|Wf Y4<|Wf Y4<|Wf Y4<|Wf Y4<|Wf Y4<|ZqF Z Z Z<|At Z Z<|Zz Z<|Zk<|Zb<|Zt<|Sr<|At Z Z<|Zo<|?_
   refine rR [_] L (.t1 Z) Z (h1.t h4) fun _ hS2=>?_
   refine ⟨?_,Z⟩
   simp only [qat];rw [qaQ hn]
   repeat' split
   all_goals (first | rfl | (exfalso;omega) | (exfalso;simp_all;done) | (exfalso;simp_all;omega))
  refine Wf Y4<|Wf Y4<|Wf Y4<|Wf Y4<|Zh Z Z Z<|Zh Z Z Z<|Zh Z Z Z<|Wf Y4<|ZqF Z Z Z<|At Z Z<|Zz Z<|Sr<|W0 Y5<|Wl 0 Y6<|qar Z Z Z<|Zqm Z Z<|?_
  refine qak (t:=53) Z (fun c39=>?_) (fun c39=>?_)
  ·
   refine Zg Z Z<|Wb Y5<|Zg Z Z<|Wl 0 Y6<|Zg Z Z<|Ws Y4<|Zg Z Z<|Wb Y5<|Zg Z Z<|Wl 0 Y6<|Zg Z Z<|qac (qbl Z Z Z Z Z (w64 O O)) Z<|Zg Z Z<|qbv Z Z Z<|ZqT Z Z Z<|At Z Z<|?_
   refine qaa Z (fun c40=>?_) (fun c40=>?_)
   ·
    refine Sr<|At Z Z<|Zo<|Zc<|Zu<|?_
    refine rR [_] L (.t1 Z) Z (h1.t h4) fun _ hS2=>?_
    refine ⟨?_,Z⟩
    simp only [qat];rw [qaQ hn]
    repeat' split
    all_goals (first | rfl | (exfalso;omega) | (exfalso;simp_all;done) | (exfalso;simp_all;omega))
   refine Zk<|Zb<|Zt<|Sr<|At Z Z<|Zo<|?_
   refine rR [_] L (.t1 Z) Z (h1.t h4) fun _ hS2=>?_
   refine ⟨?_,Z⟩
   simp only [qat];rw [qaQ hn]
   repeat' split
   all_goals (first | rfl | (exfalso;omega) | (exfalso;simp_all;done) | (exfalso;simp_all;omega))
  refine Wf Y4<|Wf Y4<|Wf Y4<|Wf Y4<|Wf Y4<|Wf Y4<|Wf Y4<|ZqF Z Z Z<|At Z Z<|Zz Z<|Zk<|Zb<|Zt<|Sr<|At Z Z<|Zo<|?_
  refine rR [_] L (.t1 Z) Z (h1.t h4) fun _ hS2=>?_
  refine ⟨?_,Z⟩
  simp only [qat];rw [qaQ hn]
  repeat' split
  all_goals (first | rfl | (exfalso;omega) | (exfalso;simp_all;done) | (exfalso;simp_all;omega))
 refine Wf Y4<|Wf Y4<|Wf Y4<|ZqF Z Z Z<|At Z Z<|Zz Z<|Sr<|W0 Y5<|Wl 0 Y6<|qar Z Z Z<|Zqm Z Z<|?_
 refine qak (t:=39) Z (fun c41=>?_) (fun c41=>?_)
 ·
  refine Zg Z Z<|Wb Y5<|Zg Z Z<|Wl 0 Y6<|Zg Z Z<|qbh Z Z Z<|Zg Z Z<|Zqm Z Z<|?_
  refine qak (t:=43) Z (fun c42=>?_) (fun c42=>?_)
  ·
   refine Wf Y4<|Wf Y4<|Wf Y4<|Zg Z Z<|ZqT Z Z Z<|ZqT Z Z Z<|At Z Z<|Zy Z<|Sr<|At Z Z<|Zo<|Zc<|Zu<|?_
   refine rR [_] L (.t1 Z) Z (h1.t h4) fun _ hS2=>?_
   refine ⟨?_,Z⟩
   simp only [qat];rw [qaQ hn]
   repeat' split
   all_goals (first | rfl | (exfalso;omega) | (exfalso;simp_all;done) | (exfalso;simp_all;omega))
  refine Zg Z Z<|Wb Y5<|Zg Z Z<|Wl 0 Y6<|Zg Z Z<|qbv Z Z Z<|Zg Z Z<|ZqF Z Z Z<|ZqT Z Z Z<|At Z Z<|?_
  refine qaa Z (fun c43=>?_) (fun c43=>?_)
  ·
   refine Sr<|At Z Z<|Zo<|Zc<|Zu<|?_
   refine rR [_] L (.t1 Z) Z (h1.t h4) fun _ hS2=>?_
   refine ⟨?_,Z⟩
   simp only [qat];rw [qaQ hn]
   repeat' split
   all_goals (first | rfl | (exfalso;omega) | (exfalso;simp_all;done) | (exfalso;simp_all;omega))
  refine Sr<|W0 Y5<|Wl 0 Y6<|qar Z Z Z<|Zqm Z Z<|?_
  refine qak (t:=53) Z (fun c44=>?_) (fun c44=>?_)
  ·
   refine Zg Z Z<|Wb Y5<|Zg Z Z<|Wl 0 Y6<|Zg Z Z<|Ws Y4<|Zg Z Z<|Wb Y5<|Zg Z Z<|Wl 0 Y6<|Zg Z Z<|qac (qbl Z Z Z Z Z (w64 O O)) Z<|Zg Z Z<|qbv Z Z Z<|ZqT Z Z Z<|At Z Z<|?_
   refine qaa Z (fun c45=>?_) (fun c45=>?_)
   ·
    refine Sr<|At Z Z<|Zo<|Zc<|Zu<|?_
    refine rR [_] L (.t1 Z) Z (h1.t h4) fun _ hS2=>?_
    refine ⟨?_,Z⟩
    simp only [qat];rw [qaQ hn]
    repeat' split
    all_goals (first | rfl | (exfalso;omega) | (exfalso;simp_all;done) | (exfalso;simp_all;omega))
   refine Zk<|Zb<|Zt<|Sr<|At Z Z<|Zo<|?_
   refine rR [_] L (.t1 Z) Z (h1.t h4) fun _ hS2=>?_
   refine ⟨?_,Z⟩
   simp only [qat];rw [qaQ hn]
   repeat' split
   all_goals (first | rfl | (exfalso;omega) | (exfalso;simp_all;done) | (exfalso;simp_all;omega))
  refine Wf Y4<|Wf Y4<|Wf Y4<|Wf Y4<|Wf Y4<|Wf Y4<|Wf Y4<|ZqF Z Z Z<|At Z Z<|Zz Z<|Zk<|Zb<|Zt<|Sr<|At Z Z<|Zo<|?_
  refine rR [_] L (.t1 Z) Z (h1.t h4) fun _ hS2=>?_
  refine ⟨?_,Z⟩
  simp only [qat];rw [qaQ hn]
  repeat' split
  all_goals (first | rfl | (exfalso;omega) | (exfalso;simp_all;done) | (exfalso;simp_all;omega))
 refine Wf Y4<|Wf Y4<|Wf Y4<|Wf Y4<|Zh Z Z Z<|Zh Z Z Z<|Zh Z Z Z<|Wf Y4<|ZqF Z Z Z<|At Z Z<|Zz Z<|Sr<|W0 Y5<|Wl 0 Y6<|qar Z Z Z<|Zqm Z Z<|?_
 refine qak (t:=53) Z (fun c46=>?_) (fun c46=>?_)
 ·
  refine Zg Z Z<|Wb Y5<|Zg Z Z<|Wl 0 Y6<|Zg Z Z<|Ws Y4<|Zg Z Z<|Wb Y5<|Zg Z Z<|Wl 0 Y6<|Zg Z Z<|qac (qbl Z Z Z Z Z (w64 O O)) Z<|Zg Z Z<|qbv Z Z Z<|ZqT Z Z Z<|At Z Z<|?_
  refine qaa Z (fun c47=>?_) (fun c47=>?_)
  ·
   refine Sr<|At Z Z<|Zo<|Zc<|Zu<|?_
   refine rR [_] L (.t1 Z) Z (h1.t h4) fun _ hS2=>?_
   refine ⟨?_,Z⟩
   simp only [qat];rw [qaQ hn]
   repeat' split
   all_goals (first | rfl | (exfalso;omega) | (exfalso;simp_all;done) | (exfalso;simp_all;omega))
  refine Zk<|Zb<|Zt<|Sr<|At Z Z<|Zo<|?_
  refine rR [_] L (.t1 Z) Z (h1.t h4) fun _ hS2=>?_
  refine ⟨?_,Z⟩
  simp only [qat];rw [qaQ hn]
  repeat' split
  all_goals (first | rfl | (exfalso;omega) | (exfalso;simp_all;done) | (exfalso;simp_all;omega))
 refine Wf Y4<|Wf Y4<|Wf Y4<|Wf Y4<|Wf Y4<|Wf Y4<|Wf Y4<|ZqF Z Z Z<|At Z Z<|Zz Z<|Zk<|Zb<|Zt<|Sr<|At Z Z<|Zo<|?_
 refine rR [_] L (.t1 Z) Z (h1.t h4) fun _ hS2=>?_
 refine ⟨?_,Z⟩
 simp only [qat];rw [qaQ hn]
 repeat' split
 all_goals (first | rfl | (exfalso;omega) | (exfalso;simp_all;done) | (exfalso;simp_all;omega))
theorem qe1(x:Ex)(lv c:Nat):wkX x lv c=if 16 < lv∨2000 < c+1 then (c+1,2) else if exC x.kind x.op x.num x.name x.args.length≠0 then (c+1,exC x.kind x.op x.num x.name x.args.length) else qco x.args (lv+1) (c+1):=by
 cases x;rfl
theorem qc7{l:List Ex}{k:Nat}{x:Ex}(h:l[k]?=some x)(lv c:Nat):qco (l.drop k) lv c=if (wkX x lv c).2≠0 then wkX x lv c else qco (l.drop (k+1)) lv (wkX x lv c).1:=by
 obtain ⟨hk,rfl⟩:=List.getElem?_eq_some_iff.1 h
 rw [List.drop_eq_getElem_cons hk,qco]
theorem qiA{p:Prop} [Decidable p] {b:Bool} (h:p):(!b)=decide (p∧b=false):=by cases b <;> simp [h]
section
variable{x:Ex}{n:Nat}(hn:n=x.args.length)
include hn
theorem qtV(h:x.kind < 1∨7 < x.kind∨¬ ¬ ((x.kind=6∧(x.op < 1∨3 < x.op))∨(x.kind=7∧(x.op < 4∨21 < x.op)))):exC x.kind x.op x.num x.name x.args.length=5:=by
 have _:=hn
 rw [exC,if_pos];omega
variable(h5:¬ (x.kind < 1∨7 < x.kind∨¬ ¬ ((x.kind=6∧(x.op < 1∨3 < x.op))∨(x.kind=7∧(x.op < 4∨21 < x.op)))))
include h5
theorem qsV(h:(2≤x.kind∧x.kind≤4)∧qaT x.name=false):exC x.kind x.op x.num x.name x.args.length=7:=by
 have _:=hn
 rw [exC,if_neg O,if_pos ⟨decide_eq_true h.1,h.2⟩]
variable(h7:¬ ((2≤x.kind∧x.kind≤4)∧qaT x.name=false))
include h7
theorem qtz(h:(¬ (2≤x.kind∧x.kind≤4)∧x.name≠[])∨(x.kind≠1∧x.num≠0)∨(¬ (x.kind=6∨x.kind=7)∧x.op≠0)∨n < qbG x.kind∨qcv x.kind < n):exC x.kind x.op x.num x.name x.args.length=6:=by
 rw [exC,if_neg O,if_neg (fun k=>h7 ⟨of_decide_eq_true k.1,k.2⟩),if_pos]
 rcases h with h | h | h | h | h
 · exact .inl ⟨decide_eq_false h.1,h.2⟩
 · exact .inr (.inl h)
 · exact .inr (.inr (.inl ⟨by omega,h.2⟩))
 · exact .inr (.inr (.inr (.inl O)))
 · exact .inr (.inr (.inr (.inr O)))
theorem quB(h:¬ ((¬ (2≤x.kind∧x.kind≤4)∧x.name≠[])∨(x.kind≠1∧x.num≠0)∨(¬ (x.kind=6∨x.kind=7)∧x.op≠0)∨n < qbG x.kind∨qcv x.kind < n)):exC x.kind x.op x.num x.name x.args.length=0:=by
 rw [exC,if_neg O,if_neg (fun k=>h7 ⟨of_decide_eq_true k.1,k.2⟩),if_neg]
 intro k
 refine h ?_
 rcases k with k | k | k | k | k
 · exact .inl ⟨of_decide_eq_false k.1,k.2⟩
 · exact .inr (.inl k)
 · exact .inr (.inr (.inl ⟨by omega,k.2⟩))
 · exact .inr (.inr (.inr (.inl O)))
 · exact .inr (.inr (.inr (.inr O)))
end
theorem qht(D:Nat)(L:Hl)(s:World)(y:Nat×Obj)(bc c lv:Nat)(hc:c≤2000):AC prog D 154 [.pointer (some ⟨bc,0,none⟩),.int .i64 (lv:Int)] (y::(bc,cb [.int .i64 (c:Int)] 146)::L) s fun v L' _=>v=.bool (decide (¬ (16 < lv∨2000 < c+1)))∧L'=y::(bc,cb [.int .i64 ((c+1:Nat):Int)] 146)::L:=
 AC.perm (List.Perm.swap ..) (qov D (y::L) s bc c lv hc) fun v L1 s1 ⟨h0,h1⟩=>⟨_,by rw [h1];exact List.Perm.swap ..,h0,rfl⟩
def CXC(D d:Nat):Prop:=∀ (L:Hl) (s:World),GP s→∀ (bc c lv:Nat) (A:Option Addr) (n cc:Nat) (l:List Ex),Exs d s A n cc l→c≤2000→lv≤17→AC prog D 156 [.pointer (some ⟨bc,0,none⟩),.slice A n cc,.int .i64 (lv:Int)] ((bc,cb [.int .i64 (c:Int)] 146)::L) s fun v L' _=>v=.int .i64 (qco l lv c).2∧L'=(bc,cb [.int .i64 ((qco l lv c).1:Int)] 146)::L
theorem CXC.swap{D d:Nat}(h:CXC D d)(L:Hl)(s:World)(hG:GP s)(y:Nat×Obj)(bc c lv:Nat)(A:Option Addr)(n cc:Nat)(l:List Ex)(hA:Exs d s A n cc l)(hc:c≤2000)(hlv:lv≤17):AC prog D 156 [.pointer (some ⟨bc,0,none⟩),.slice A n cc,.int .i64 (lv:Int)] (y::(bc,cb [.int .i64 (c:Int)] 146)::L) s fun v L' _=>v=.int .i64 (qco l lv c).2∧L'=y::(bc,cb [.int .i64 ((qco l lv c).1:Int)] 146)::L:=
 AC.perm (List.Perm.swap ..) (h (y::L) s hG bc c lv A n cc l hA hc hlv) fun v L1 s1 ⟨h0,h1⟩=>⟨_,by rw [h1];exact List.Perm.swap ..,h0,rfl⟩
theorem qfM(D d:Nat)(ih:∀ e,d=e+1→CXC D e)(L:Hl)(s:World)(hG:GP s)(bc c lv:Nat)(A:Option Addr)(n cc:Nat)(l:List Ex)(hA:Exs d s A n cc l)(hc:c≤2000)(hlv:lv≤17):AC prog D 156 [.pointer (some ⟨bc,0,none⟩),.slice A n cc,.int .i64 (lv:Int)] ((bc,cb [.int .i64 (c:Int)] 146)::L) s fun v L' _=>v=.int .i64 (qco l lv c).2∧L'=(bc,cb [.int .i64 ((qco l lv c).1:Int)] 146)::L:=by
 have hn:=hA.1
 have hc1:=hA.2.1
 have hc2:=hA.2.2.1
 refine qai (fn:=f156) qao func156 V Z ntmps156 Z (rs:=[.tmp 6]) Z [(0,_),(1,_),(2,_)] Z<|Sr<|At Z Z<|Zs<|Sr<|Zqm Z Z<|Ws Y4<|Zqm Z Z<|Nt<|Zp<|?_
 refine qav (γ:=Nat×Nat) (fun g=>[(0,_),(2,_),(6,_),(14,_),(15,_),(16,.int .i64 (g.1:Int))]) (fun g=>(bc,cb [.int .i64 (g.2:Int)] 146)::L) (fun g tw=>Le D s tw∧(g.1≤n∧g.2≤2000∧qco l lv c=qco (l.drop g.1) lv g.2)) (fun g=>n - g.1) (fun _ _ _ h hl=>⟨h.1.trans hl,h.2⟩) (0,c) (.c6 Z Z Z Z Z Z (.nil _)) Z ⟨Le.refl _,⟨Nat.zero_le _,hc,Z⟩⟩ ?_
 intro g s1 I1
 obtain ⟨k,ck⟩:=g
 obtain ⟨hk0,hck,hS⟩:=I1.2
 simp only at hk0 hck hS
 dsimp only
 refine Sr<|qbh Z Z Z<|Nt<|Zs<|?_
 refine qaa Z (fun c2=>?_) (fun c2=>?_)
 ·
  have hk:k < n:=by omega
  obtain ⟨e,b,off,x,A',n',c',hd,rfl,hx,hcx,hax,hux,hnl⟩:=Exs.at_ (hA.le I1.1) hk
  have hn':=hax.1
  refine Zk<|Zt<|Zs<|Zp<|Sr<|qac (qap Z Z Z Z Z Z hk) Z<|qac (qau Z Z Z (hcx.le (Lr D)) Z) Z<|qaj Z [_,_,_,_,_] Z Z ?_
  intro β3 s3 h3
  refine Wt 0 [_,_,_,_,_] Y9<|Nt<|Zs<|Sr<|Zqm Z Z<|Zqm Z Z<|Jc Z Z Z (qht D L _ _ bc ck lv hck) ?_
  rintro _ _ s4 h4 ⟨rfl,rfl⟩
  refine qbV Z Z<|Nt<|?_
  refine qaP Z (fun c5=>?_) (fun c5=>?_)
  ·
   have g4:16 < lv∨2000 < ck+1:=by have:=c5;omega
   have hE:wkX x lv ck=(ck+1,2):=by rw [qe1,if_pos g4]
   refine Sr<|At Z Z<|Zo<|Zu<|Zc<|Zu<|Zu<|Zc<|Zu<|?_
   refine rR [_] _ (.t1 Z) Z (I1.1.t h3|>.t h4) fun _ hS2=>?_
   rw [hS,qc7 hx,hE,if_pos (by simp;done)];exact ⟨rfl,rfl⟩
  have g4:¬ (16 < lv∨2000 < ck+1):=by have:=c5;omega
  refine Zk<|Zt<|Zs<|?_
  refine qaU 36 (x.kind < 1∨7 < x.kind∨¬ ¬ ((x.kind=6∧(x.op < 1∨3 < x.op))∨(x.kind=7∧(x.op < 4∨21 < x.op)))) ?_ ?_
  ·
   refine Zr<|W0 Y5<|Wl 0 Y6<|qbh Z Z Z<|Zqm Z Z<|?_
   refine qak (t:=27) Z (fun c7=>?_) (fun c7=>?_)
   ·
    refine Wf Y4<|Wf Y4<|Wf Y4<|ZqT Z Z Z<|Zqm Z Z<|Wf Y4<|Wf Y4<|Wf Y4<|ZqT Z Z Z<|Zn<|?_
    refine qab (MidB.mk (Lr D) Sb Z ((decide_eq_true O).symm))
   refine Zg Z Z<|W0 Y5<|Zg Z Z<|Wl 0 Y6<|Zg Z Z<|qbv Z Z Z<|ZqF Z Z Z<|Zqm Z Z<|?_
   refine qak (t:=32) Z (fun c8=>?_) (fun c8=>?_)
   ·
    refine Wf Y4<|Wf Y4<|Wf Y4<|ZqT Z Z Z<|Zn<|?_
    refine qab (MidB.mk (Lr D) Sb Z ((decide_eq_true O).symm))
   refine Zg Z Z<|qac (qag 0 [_,_,_,_,_] Z Z Z Z Z) Z<|Zg Z Z<|Jc Z Z Z (qr8 D _ _ x A' n' c') ?_
   rintro _ _ s9 h9 ⟨rfl,rfl⟩
   refine Zg Z Z<|qbV Z Z<|ZqF Z Z Z<|Zn<|?_
   refine qab (MidB.mk h9 Sb Z (qbw O))
  intro s6 h6
  refine qaa Z (fun c10=>?_) (fun c10=>?_)
  ·
   have hx5:=qtV hn' c10
   have hE:wkX x lv ck=(ck+1,5):=by rw [qe1,if_neg g4,if_pos (by rw [hx5];decide),hx5]
   refine Sr<|At Z Z<|Zo<|Zu<|Zc<|Zu<|Zu<|Zc<|Zu<|?_
   refine rR [_] _ (.t1 Z) Z (I1.1.t h3|>.t h4|>.t h6) fun _ hS2=>?_
   rw [hS,qc7 hx,hE,if_pos (by simp;done)];exact ⟨rfl,rfl⟩
  have g5:=c10
  refine Zk<|Zt<|?_
  refine qaU 9 (2≤x.kind∧x.kind≤4) ?_ ?_
  ·
   refine Zr<|W0 Y5<|Wl 0 Y6<|qar Z Z Z<|Zqm Z Z<|?_
   refine qak (t:=40) Z (fun c12=>?_) (fun c12=>?_)
   ·
    refine Wf Y4<|Wf Y4<|Wf Y4<|ZqT Z Z Z<|Zqm Z Z<|Wf Y4<|Wf Y4<|Wf Y4<|ZqT Z Z Z<|Zqa Z Z<|Zn<|?_
    refine qab (MidB.mk (Lr D) Sb Z ((decide_eq_true O).symm))
   refine Zg Z Z<|W0 Y5<|Zg Z Z<|Wl 0 Y6<|Zg Z Z<|qar Z Z Z<|ZqF Z Z Z<|Zqm Z Z<|?_
   refine qak (t:=45) Z (fun c13=>?_) (fun c13=>?_)
   ·
    refine Wf Y4<|Wf Y4<|Wf Y4<|ZqT Z Z Z<|Zqa Z Z<|Zn<|?_
    refine qab (MidB.mk (Lr D) Sb Z ((decide_eq_true O).symm))
   refine Zg Z Z<|W0 Y5<|Zg Z Z<|Wl 0 Y6<|Zg Z Z<|qar Z Z Z<|ZqF Z Z Z<|Zqa Z Z<|Zn<|?_
   refine qab (MidB.mk (Lr D) Sb Z (decide_eq_decide.2 O))
  intro s11 h11
  refine qaU 10 (x.kind=6∨x.kind=7) ?_ ?_
  ·
   refine Zr<|W0 Y5<|Wl 0 Y6<|qar Z Z Z<|Zqm Z Z<|?_
   refine qak (t:=53) Z (fun c15=>?_) (fun c15=>?_)
   ·
    refine Wf Y4<|Wf Y4<|Wf Y4<|ZqT Z Z Z<|Zqa Z Z<|Zn<|?_
    refine qab (MidB.mk (Lr D) Sb Z ((decide_eq_true O).symm))
   refine Zg Z Z<|W0 Y5<|Zg Z Z<|Wl 0 Y6<|Zg Z Z<|qar Z Z Z<|ZqF Z Z Z<|Zqa Z Z<|Zn<|?_
   refine qab (MidB.mk (Lr D) Sb Z (decide_eq_decide.2 O))
  intro s14 h14
  refine Sr<|W0 Y5<|Wl 0 Y6<|Jc Z Z Z (ql2 D _ _ x.kind) ?_
  rintro _ _ s16 h16 ⟨rfl,rfl⟩
  refine Zqm Z Z<|Zqx Z Z Z<|Zqx Z Z Z<|Zqa Z Z<|At Z Z<|Zs<|Zp<|?_
  refine qaU 64 ((2≤x.kind∧x.kind≤4)∧qaT x.name=false) ?_ ?_
  ·
   refine Zr<|Zqm Z Z<|Zqm Z Z<|?_
   refine qak (t:=66) Z (fun c18=>?_) (fun c18=>?_)
   ·
    refine Zg Z Z<|Wb Y5<|Zg Z Z<|Wl 0 Y6<|Zg Z Z<|Jc Z Z Z (qer D _ _ (hG.le (I1.1.t h3|>.t h4|>.t h6|>.t h11|>.t h14|>.t h16)) x.name) ?_
    rintro _ _ s19 h19 ⟨rfl,rfl⟩
    refine Zg Z Z<|qbV Z Z<|ZqT Z Z Z<|Zqa Z Z<|Zn<|?_
    refine qab (MidB.mk h19 Sb Z ((qiA As)))
   refine Wf Y4<|Wf Y4<|Wf Y4<|Wf Y4<|ZqF Z Z Z<|Zqa Z Z<|Zn<|?_
   refine qab (MidB.mk (Lr D) Sb Z ((decide_eq_false (fun h=>absurd h.1 As)).symm))
  intro s17 h17
  refine qaa Z (fun c20=>?_) (fun c20=>?_)
  ·
   have hx7:=qsV hn' g5 c20
   have hE:wkX x lv ck=(ck+1,7):=by rw [qe1,if_neg g4,if_pos (by rw [hx7];decide),hx7]
   refine Sr<|At Z Z<|Zo<|Zc<|Zu<|Zc<|Zu<|Zu<|Zc<|Zu ?_
   refine rR [_] _ (.t1 Z) Z (I1.1.t h3|>.t h4|>.t h6|>.t h11|>.t h14|>.t h16|>.t h17) fun _ hS2=>?_
   rw [hS,qc7 hx,hE,if_pos (by simp;done)];exact ⟨rfl,rfl⟩
  have g7:=c20
  refine qd9 (γ:=Unit) (fun _=>[(72,.bool (decide ((¬ (2≤x.kind∧x.kind≤4)∧x.name≠[])∨(x.kind≠1∧x.num≠0)∨(¬ (x.kind=6∨x.kind=7)∧x.op≠0)∨n' < qbG x.kind∨qcv x.kind < n')))]) [_,_] Z (fun g=>L) (fun g tw=>True) (fun _ _ _ h hl=>h) ?_ ?_
  ·
   refine Sr<|Zqm Z Z<|qbV Z Z<|Zqm Z Z<|?_
   refine qaE (t:=75) Z (fun c22=>?_) (fun c22=>?_)
   ·
    refine Zg Z Z<|Wb Y5<|Zg Z Z<|Wl 0 Y6<|Zg Z Z<|qti Z Z Z<|ZqT Z Z Z<|At Z Z<|?_
    refine qaP Z (fun c23=>?_) (fun c23=>?_)
    ·
     refine Zk ?_
     refine qab (MidG.mk () [] (Lr D) (.cons Kb (.nil _)) So Pr Tt)
    refine Sr<|Zqm Z Z<|qbV Z Z<|Zqm Z Z<|?_
    refine qaE (t:=82) Z (fun c24=>?_) (fun c24=>?_)
    ·
     refine Zg Z Z<|Wb Y5<|Zg Z Z<|Wl 0 Y6<|Zg Z Z<|qb2 Z Z Z<|ZqT Z Z Z<|At Z Z<|?_
     refine qaP Z (fun c25=>?_) (fun c25=>?_)
     ·
      refine Zk ?_
      refine qab (MidG.mk () [] (Lr D) (.cons Kb (.nil _)) So Pr Tt)
     refine Sr<|W0 Y5<|Wl 0 Y6<|qb2 Z Z Z<|Zqm Z Z<|?_
     refine qaE (t:=90) Z (fun c26=>?_) (fun c26=>?_)
     ·
      refine Zg Z Z<|Wb Y5<|Zg Z Z<|Wl 0 Y6<|Zg Z Z<|qb2 Z Z Z<|ZqT Z Z Z<|At Z Z<|?_
      refine qaP Z (fun c27=>?_) (fun c27=>?_)
      ·
       refine Zk ?_
       refine qab (MidG.mk () [] (Lr D) (.cons Kb (.nil _)) So Pr Tt)
      refine Sr<|Wb Y5<|Wl 0 Y6<|Ws Y4<|Zqm Z Z<|qbh Z Z Z<|At Z Z<|?_
      refine qaa Z (fun c28=>?_) (fun c28=>?_)
      ·
       refine Zk ?_
       refine qab (MidG.mk () [] (Lr D) (.cons Kb (.nil _)) So Pr Tt)
      refine Zr<|Wb Y5<|Wl 0 Y6<|Ws Y4<|Zqm Z Z<|qbv Z Z Z<|Zqa Z Z<|Zn<|?_
      refine qab (MidG.mk () [] (Lr D) (.cons Kb (.nil _)) So Pr Tt)
     refine Wf Y4<|Wf Y4<|Wf Y4<|ZqF Z Z Z<|At Z Z<|Zz Z<|Sr<|Wb Y5<|Wl 0 Y6<|Ws Y4<|Zqm Z Z<|qbh Z Z Z<|At Z Z<|?_
     refine qaa Z (fun c29=>?_) (fun c29=>?_)
     ·
      refine Zk ?_
      refine qab (MidG.mk () [] (Lr D) (.cons Kb (.nil _)) So Pr Tt)
     refine Zr<|Wb Y5<|Wl 0 Y6<|Ws Y4<|Zqm Z Z<|qbv Z Z Z<|Zqa Z Z<|Zn<|?_
     refine qab (MidG.mk () [] (Lr D) (.cons Kb (.nil _)) So Pr Tt)
    refine Wf Y4<|Wf Y4<|Wf Y4<|ZqF Z Z Z<|At Z Z<|Zz Z<|Sr<|W0 Y5<|Wl 0 Y6<|qb2 Z Z Z<|Zqm Z Z<|?_
    refine qaE (t:=90) Z (fun c30=>?_) (fun c30=>?_)
    ·
     refine Zg Z Z<|Wb Y5<|Zg Z Z<|Wl 0 Y6<|Zg Z Z<|qb2 Z Z Z<|ZqT Z Z Z<|At Z Z<|?_
     refine qaP Z (fun c31=>?_) (fun c31=>?_)
     ·
      refine Zk ?_
      refine qab (MidG.mk () [] (Lr D) (.cons Kb (.nil _)) So Pr Tt)
     refine Sr<|Wb Y5<|Wl 0 Y6<|Ws Y4<|Zqm Z Z<|qbh Z Z Z<|At Z Z<|?_
     refine qaa Z (fun c32=>?_) (fun c32=>?_)
     ·
      refine Zk ?_
      refine qab (MidG.mk () [] (Lr D) (.cons Kb (.nil _)) So Pr Tt)
     refine Zr<|Wb Y5<|Wl 0 Y6<|Ws Y4<|Zqm Z Z<|qbv Z Z Z<|Zqa Z Z<|Zn<|?_
     refine qab (MidG.mk () [] (Lr D) (.cons Kb (.nil _)) So Pr Tt)
    refine Wf Y4<|Wf Y4<|Wf Y4<|ZqF Z Z Z<|At Z Z<|Zz Z<|Sr<|Wb Y5<|Wl 0 Y6<|Ws Y4<|Zqm Z Z<|qbh Z Z Z<|At Z Z<|?_
    refine qaa Z (fun c33=>?_) (fun c33=>?_)
    ·
     refine Zk ?_
     refine qab (MidG.mk () [] (Lr D) (.cons Kb (.nil _)) So Pr Tt)
    refine Zr<|Wb Y5<|Wl 0 Y6<|Ws Y4<|Zqm Z Z<|qbv Z Z Z<|Zqa Z Z<|Zn<|?_
    refine qab (MidG.mk () [] (Lr D) (.cons Kb (.nil _)) So Pr Tt)
   refine Wf Y4<|Wf Y4<|Wf Y4<|ZqF Z Z Z<|At Z Z<|Zz Z<|Sr<|Zqm Z Z<|qbV Z Z<|Zqm Z Z ?_
   refine qaE (t:=82) Z (fun c34=>?_) (fun c34=>?_)
   ·
    refine Zg Z Z<|Wb Y5<|Zg Z Z<|Wl 0 Y6<|Zg Z Z<|qb2 Z Z Z<|ZqT Z Z Z<|At Z Z<|?_
    refine qaP Z (fun c35=>?_) (fun c35=>?_)
    ·
     refine Zk ?_
     refine qab (MidG.mk () [] (Lr D) (.cons Kb (.nil _)) So Pr Tt)
    refine Sr<|W0 Y5<|Wl 0 Y6<|qb2 Z Z Z<|Zqm Z Z<|?_
    refine qaE (t:=90) Z (fun c36=>?_) (fun c36=>?_)
    ·
     refine Zg Z Z<|Wb Y5<|Zg Z Z<|Wl 0 Y6<|Zg Z Z<|qb2 Z Z Z<|ZqT Z Z Z<|At Z Z<|?_
     refine qaP Z (fun c37=>?_) (fun c37=>?_)
     ·
      refine Zk ?_
      refine qab (MidG.mk () [] (Lr D) (.cons Kb (.nil _)) So Pr Tt)
     refine Sr<|Wb Y5<|Wl 0 Y6<|Ws Y4<|Zqm Z Z<|qbh Z Z Z<|At Z Z<|?_
     refine qaa Z (fun c38=>?_) (fun c38=>?_)
     ·
      refine Zk ?_
      refine qab (MidG.mk () [] (Lr D) (.cons Kb (.nil _)) So Pr Tt)
     refine Zr<|Wb Y5<|Wl 0 Y6<|Ws Y4<|Zqm Z Z<|qbv Z Z Z<|Zqa Z Z<|Zn<|?_
     refine qab (MidG.mk () [] (Lr D) (.cons Kb (.nil _)) So Pr Tt)
    refine Wf Y4<|Wf Y4<|Wf Y4<|ZqF Z Z Z<|At Z Z<|Zz Z<|Sr<|Wb Y5<|Wl 0 Y6<|Ws Y4<|Zqm Z Z<|qbh Z Z Z<|At Z Z<|?_
    refine qaa Z (fun c39=>?_) (fun c39=>?_)
    ·
     refine Zk ?_
     refine qab (MidG.mk () [] (Lr D) (.cons Kb (.nil _)) So Pr Tt)
    refine Zr<|Wb Y5<|Wl 0 Y6<|Ws Y4<|Zqm Z Z<|qbv Z Z Z<|Zqa Z Z<|Zn<|?_
    refine qab (MidG.mk () [] (Lr D) (.cons Kb (.nil _)) So Pr Tt)
   refine Wf Y4<|Wf Y4<|Wf Y4<|ZqF Z Z Z<|At Z Z<|Zz Z<|Sr<|W0 Y5<|Wl 0 Y6<|qb2 Z Z Z<|Zqm Z Z<|?_
   refine qaE (t:=90) Z (fun c40=>?_) (fun c40=>?_)
   ·
    refine Zg Z Z<|Wb Y5<|Zg Z Z<|Wl 0 Y6<|Zg Z Z<|qb2 Z Z Z<|ZqT Z Z Z<|At Z Z<|?_
    refine qaP Z (fun c41=>?_) (fun c41=>?_)
    ·
     refine Zk ?_
     refine qab (MidG.mk () [] (Lr D) (.cons Kb (.nil _)) So Pr Tt)
    refine Sr<|Wb Y5<|Wl 0 Y6<|Ws Y4<|Zqm Z Z<|qbh Z Z Z<|At Z Z<|?_
    refine qaa Z (fun c42=>?_) (fun c42=>?_)
    ·
     refine Zk ?_
     refine qab (MidG.mk () [] (Lr D) (.cons Kb (.nil _)) So Pr Tt)
    refine Zr<|Wb Y5<|Wl 0 Y6<|Ws Y4<|Zqm Z Z<|qbv Z Z Z<|Zqa Z Z<|Zn<|?_
    refine qab (MidG.mk () [] (Lr D) (.cons Kb (.nil _)) So Pr Tt)
   refine Wf Y4<|Wf Y4<|Wf Y4<|ZqF Z Z Z<|At Z Z<|Zz Z<|Sr<|Wb Y5<|Wl 0 Y6<|Ws Y4<|Zqm Z Z<|qbh Z Z Z<|At Z Z<|?_
   refine qaa Z (fun c43=>?_) (fun c43=>?_)
   ·
    refine Zk ?_
    refine qab (MidG.mk () [] (Lr D) (.cons Kb (.nil _)) So Pr Tt)
   refine Zr<|Wb Y5<|Wl 0 Y6<|Ws Y4<|Zqm Z Z<|qbv Z Z Z<|Zqa Z Z<|Zn<|?_
   refine qab (MidG.mk () [] (Lr D) (.cons Kb (.nil _)) So Pr Tt)
  intro g s21 h21 I21
  simp only [cQ9,nQ9]
         
  refine qaa Z (fun c44=>?_) (fun c44=>?_)
  ·
   have hx6:=qtz hn' g5 g7 c44
   have hE:wkX x lv ck=(ck+1,6):=by rw [qe1,if_neg g4,if_pos (by rw [hx6];decide),hx6]
   refine Sr<|At Z Z<|Zo<|Zc<|Zu<|Zc<|Zu<|Zu<|Zc<|Zu ?_
   refine rR [_] _ (.t1 Z) Z (I1.1.t h3|>.t h4|>.t h6|>.t h11|>.t h14|>.t h16|>.t h17|>.t h21) fun _ hS2=>?_
   rw [hS,qc7 hx,hE,if_pos (by simp;done)];exact ⟨rfl,rfl⟩
  have hE:wkX x lv ck=qco x.args (lv+1) (ck+1):=by rw [qe1,if_neg g4,if_neg (by rw [quB hn' g5 g7 c44];decide)]
  refine Zk<|Zb<|Zt<|Sr<|Zqm Z Z<|Wb Y5<|Wl 0 Y6<|Zqm Z Z<|qac (qaR Z Z (show IntKind.i64.wrap ((lv:Int)+1)=((lv+1:Nat):Int) by rw [w64 O O];simp)) Z<|Jc Z Z Z ((ih e hd).swap L _ (hG.le (I1.1.t h3|>.t h4|>.t h6|>.t h11|>.t h14|>.t h16|>.t h17|>.t h21)) _ bc (ck+1) (lv+1) A' n' c' x.args (hax.le (h3.t h4|>.t h6|>.t h11|>.t h14|>.t h16|>.t h17|>.t h21)) O O) ?_
  rintro _ _ s45 h45 ⟨rfl,rfl⟩
  refine At Z Z<|Sr<|Zqm Z Z<|qb2 Z Z Z<|Nt<|?_
  refine qaP Z (fun c46=>?_) (fun c46=>?_)
  ·
   have g0:=c46
   refine Sr<|Zqm Z Z<|At Z Z<|Zo<|Zc<|Zu<|Zu<|Zc<|Zu<|?_
   refine rR [_] _ (.t1 Z) Z (I1.1.t h3|>.t h4|>.t h6|>.t h11|>.t h14|>.t h16|>.t h17|>.t h21|>.t h45) fun _ hS2=>?_
   rw [hS,qc7 hx,hE,if_pos g0];exact ⟨rfl,rfl⟩
  have g0:=c46
  refine Zk<|Zb<|Zt<|Zr<|qaF Z Z Z (w64 O O)<|Zqm Z Z<|Zn<|?_
  refine qab ⟨(k+1,(qco x.args (lv+1) (ck+1)).1),[_],kp,Z,⟨(I1.1.t h3|>.t h4|>.t h6|>.t h11|>.t h14|>.t h16|>.t h17|>.t h21|>.t h45),⟨by simp only;omega,by simp only;have hw:=qeR x.args (lv+1) (ck+1) g0;rw [hw.2.1];rcases hw.2.2 with h | h <;> omega,by simp only;rw [hS,qc7 hx,hE,if_neg (by rw [g0];decide)]⟩⟩,Oz⟩
 rw [List.drop_eq_nil_of_le O,qco] at hS
 refine Zl<|Zv<|Zv<|Zd<|Zt<|Sr<|At Z Z<|Zo<|?_
 refine rR [] _ (.t1 Z) Z I1.1 fun _ hS2=>?_
 rw [hS];exact ⟨rfl,rfl⟩
theorem cxc(D:Nat):∀ d,CXC D d
 | 0=>fun L s hG bc c lv A n cc l hA hc hlv=>qfM D 0 (fun e h=>by omega) L s hG bc c lv A n cc l hA hc hlv
 | d+1=>fun L s hG bc c lv A n cc l hA hc hlv=>qfM D (d+1) (fun e h=>(show d=e by omega)▸cxc D d) L s hG bc c lv A n cc l hA hc hlv
theorem qdA(x:Stm)(lv c:Nat):wkS x lv c=if 16 < lv∨2000 < c+1 then (c+1,2) else if stC x.kind x.name x.exprs.length x.body.length x.els.length≠0 then (c+1,stC x.kind x.name x.exprs.length x.body.length x.els.length)
  else if (qco x.exprs 1 (c+1)).2≠0 then qco x.exprs 1 (c+1) else if (qb3 x.body (lv+1) (qco x.exprs 1 (c+1)).1).2≠0 then qb3 x.body (lv+1) (qco x.exprs 1 (c+1)).1 else qb3 x.els (lv+1) (qb3 x.body (lv+1) (qco x.exprs 1 (c+1)).1).1:=by
 cases x;rfl
theorem qb6{l:List Stm}{k:Nat}{x:Stm}(h:l[k]?=some x)(lv c:Nat):qb3 (l.drop k) lv c=if (wkS x lv c).2≠0 then wkS x lv c else qb3 (l.drop (k+1)) lv (wkS x lv c).1:=by
 obtain ⟨hk,rfl⟩:=List.getElem?_eq_some_iff.1 h
 rw [List.drop_eq_getElem_cons hk,qb3]
def wkP(x:Stm)(lv c:Nat)(j:Nat):Nat×Int:=if j=0 then (if (qb3 x.body (lv+1) c).2≠0 then qb3 x.body (lv+1) c else qb3 x.els (lv+1) (qb3 x.body (lv+1) c).1) else if j=1 then qb3 x.els (lv+1) c else (c,0)
section
variable{x:Stm}{n1 n2 n3:Nat}(hn1:n1=x.exprs.length)(hn2:n2=x.body.length)(hn3:n3=x.els.length)
theorem qut{a b c:Nat}(h:x.kind < 1∨10 < x.kind):stC x.kind x.name a b c=5:=by rw [stC,if_pos h]
variable(g5:¬ (x.kind < 1∨10 < x.kind))
include g5
theorem qtg{a b c:Nat}(h:qcc x.kind=true∧qaT x.name=false):stC x.kind x.name a b c=7:=by rw [stC,if_neg g5,if_pos h]
variable(g7:¬ (qcc x.kind=true∧qaT x.name=false))
include g7 hn1 hn2 hn3
theorem qs4(h:(qcc x.kind=false∧x.name≠[])∨(¬ (x.kind=3∨x.kind=4)∧0 < n2)∨(¬ x.kind=3∧0 < n3)∨n1 < qbO x.kind∨qcA x.kind < n1):stC x.kind x.name x.exprs.length x.body.length x.els.length=6:=by
 rw [stC,if_neg g5,if_neg g7,if_pos]
 rcases h with h | h | h | h | h
 · exact .inl h
 · exact .inr (.inr (.inr (.inl ⟨by omega,by omega,by omega⟩)))
 · exact .inr (.inr (.inr (.inr ⟨by omega,by omega⟩)))
 · exact .inr (.inl O)
 · exact .inr (.inr (.inl O))
theorem quE(h:¬ ((qcc x.kind=false∧x.name≠[])∨(¬ (x.kind=3∨x.kind=4)∧0 < n2)∨(¬ x.kind=3∧0 < n3)∨n1 < qbO x.kind∨qcA x.kind < n1)):stC x.kind x.name x.exprs.length x.body.length x.els.length=0:=by
 rw [stC,if_neg g5,if_neg g7,if_neg]
 intro k
 refine h ?_
 rcases k with k | k | k | k | k
 · exact .inl k
 · exact .inr (.inr (.inr (.inl O)))
 · exact .inr (.inr (.inr (.inr O)))
 · exact .inr (.inl ⟨by omega,by omega⟩)
 · exact .inr (.inr (.inl ⟨by omega,by omega⟩))
end
def CSC(D d:Nat):Prop:=∀ (L:Hl) (s:World),GP s→∀ (bc c lv:Nat) (A:Option Addr) (n cc:Nat) (l:List Stm),Stms d s A n cc l→c≤2000→lv≤17→AC prog D 113 [.pointer (some ⟨bc,0,none⟩),.slice A n cc,.int .i64 (lv:Int)] ((bc,cb [.int .i64 (c:Int)] 146)::L) s fun v L' _=>v=.int .i64 (qb3 l lv c).2∧L'=(bc,cb [.int .i64 ((qb3 l lv c).1:Int)] 146)::L
theorem CSC.swap{D d:Nat}(h:CSC D d)(L:Hl)(s:World)(hG:GP s)(y:Nat×Obj)(bc c lv:Nat)(A:Option Addr)(n cc:Nat)(l:List Stm)(hA:Stms d s A n cc l)(hc:c≤2000)(hlv:lv≤17):AC prog D 113 [.pointer (some ⟨bc,0,none⟩),.slice A n cc,.int .i64 (lv:Int)] (y::(bc,cb [.int .i64 (c:Int)] 146)::L) s fun v L' _=>v=.int .i64 (qb3 l lv c).2∧L'=y::(bc,cb [.int .i64 ((qb3 l lv c).1:Int)] 146)::L:=
 AC.perm (List.Perm.swap ..) (h (y::L) s hG bc c lv A n cc l hA hc hlv) fun v L1 s1 ⟨g0,h1⟩=>⟨_,by rw [h1];exact List.Perm.swap ..,g0,rfl⟩
theorem qq4(x:Stm)(lv c:Nat):wkP x lv c 0=if (qb3 x.body (lv+1) c).2≠0 then qb3 x.body (lv+1) c else wkP x lv (qb3 x.body (lv+1) c).1 1:=rfl
theorem qtQ(x:Stm)(lv c:Nat):wkP x lv c 1=qb3 x.els (lv+1) c:=rfl
theorem qul(x:Stm)(lv c:Nat):wkP x lv c 2=(c,0):=rfl
theorem qpu(x:Stm)(lv c:Nat)(h:(qb3 x.els (lv+1) c).2=0):wkP x lv c 1=wkP x lv (qb3 x.els (lv+1) c).1 2:=by rw [qtQ,qul,← h]
theorem qgo(D d:Nat)(ih:∀ e,d=e+1→CSC D e)(L:Hl)(s:World)(hG:GP s)(bc c lv:Nat)(A:Option Addr)(n cc:Nat)(l:List Stm)(hA:Stms d s A n cc l)(hc:c≤2000)(hlv:lv≤17):AC prog D 113 [.pointer (some ⟨bc,0,none⟩),.slice A n cc,.int .i64 (lv:Int)] ((bc,cb [.int .i64 (c:Int)] 146)::L) s fun v L' _=>v=.int .i64 (qb3 l lv c).2∧L'=(bc,cb [.int .i64 ((qb3 l lv c).1:Int)] 146)::L:=by
 have hn:=hA.1
 have hc1:=hA.2.1
 have hc2:=hA.2.2.1
 refine qai (fn:=f113) qao func113 V Z ntmps113 Z (rs:=[.tmp 6]) Z [(0,_),(1,_),(2,_)] Z<|Sr<|At Z Z<|Zs<|Sr<|Zqm Z Z<|Ws Y4<|Zqm Z Z<|Nt<|Zp<|?_
 refine qav (γ:=Nat×Nat) (fun g=>[(0,_),(2,_),(6,_),(18,_),(19,_),(20,.int .i64 (g.1:Int))]) (fun g=>(bc,cb [.int .i64 (g.2:Int)] 146)::L) (fun g tw=>Le D s tw∧(g.1≤n∧g.2≤2000∧qb3 l lv c=qb3 (l.drop g.1) lv g.2)) (fun g=>n - g.1) (fun _ _ _ h hl=>⟨h.1.trans hl,h.2⟩) (0,c) (.c6 Z Z Z Z Z Z (.nil _)) Z ⟨Le.refl _,⟨Nat.zero_le _,hc,Z⟩⟩ ?_
 intro g s1 I1
 obtain ⟨k,ck⟩:=g
 obtain ⟨hk0,hck,hS⟩:=I1.2
 simp only at hk0 hck hS
 dsimp only
 refine Sr<|qbh Z Z Z<|Nt<|Zs<|?_
 refine qaa Z (fun c2=>?_) (fun c2=>?_)
 ·
  have hk:k < n:=by omega
  obtain ⟨e,b,off,x,A1,n1,c1,A2,n2,c2,A3,n3,c3,hd,rfl,hx,hcx,hax,hbx,hex,hnl⟩:=Stms.at_ (hA.le I1.1) hk
  have hn1:=hax.1
  have hn2:=hbx.1
  have hn3:=hex.1
  refine Zk<|Zt<|Zs<|Zp<|Sr<|qac (qap Z Z Z Z Z Z hk) Z<|qac (qau Z Z Z (hcx.le (Lr D)) Z) Z<|qaj Z [_,_,_,_,_] Z Z ?_
  intro β3 s3 h3
  refine Wt 0 [_,_,_,_,_] Y9<|Nt<|Zs<|Sr<|Zqm Z Z<|Zqm Z Z<|Jc Z Z Z (qht D L _ _ bc ck lv hck) ?_
  rintro _ _ s4 h4 ⟨rfl,rfl⟩
  refine qbV Z Z<|Nt<|?_
  refine qaP Z (fun c5=>?_) (fun c5=>?_)
  ·
   have g4:16 < lv∨2000 < ck+1:=by have:=c5;omega
   have hE:wkS x lv ck=(ck+1,2):=by rw [qdA,if_pos g4]
   refine Sr<|At Z Z<|Zo<|Zu<|Zc<|Zu<|Zu<|Zc<|Zu<|?_
   refine rR [_] _ (.t1 Z) Z (I1.1.t h3|>.t h4) fun _ hS2=>?_
   rw [hS,qb6 hx,hE,if_pos (by simp;done)];exact ⟨rfl,rfl⟩
  have g4:¬ (16 < lv∨2000 < ck+1):=by have:=c5;omega
  refine Zk<|Zt<|Zs<|?_
  refine qaU 35 (x.kind < 1∨10 < x.kind) ?_ ?_
  ·
   refine Zr<|W0 Y5<|Wl 0 Y6<|qbh Z Z Z<|Zqm Z Z<|?_
   refine qak (t:=31) Z (fun c7=>?_) (fun c7=>?_)
   ·
    refine Wf Y4<|Wf Y4<|Wf Y4<|ZqT Z Z Z<|Zn<|?_
    refine qab (MidB.mk (Lr D) Sb Z ((decide_eq_true O).symm))
   refine Zg Z Z<|W0 Y5<|Zg Z Z<|Wl 0 Y6<|Zg Z Z<|qbv Z Z Z<|ZqF Z Z Z<|Zn<|?_
   refine qab (MidB.mk (Lr D) Sb Z (decide_eq_decide.2 O))
  intro s6 h6
  refine qaa Z (fun c8=>?_) (fun c8=>?_)
  ·
   have hx5:=qut (x:=x) (a:=x.exprs.length) (b:=x.body.length) (c:=x.els.length) c8
   have hE:wkS x lv ck=(ck+1,5):=by rw [qdA,if_neg g4,if_pos (by rw [hx5];decide),hx5]
   refine Sr<|At Z Z<|Zo<|Zu<|Zc<|Zu<|Zu<|Zc<|Zu<|?_
   refine rR [_] _ (.t1 Z) Z (I1.1.t h3|>.t h4|>.t h6) fun _ hS2=>?_
   rw [hS,qb6 hx,hE,if_pos (by simp;done)];exact ⟨rfl,rfl⟩
  have g5:=c8
  refine Zk<|Zt<|Sr<|W0 Y5<|Wl 0 Y6<|Jc Z Z Z (qlZ D _ _ x.kind O O) ?_
  rintro _ _ s9 h9 ⟨rfl,rfl⟩
  refine Zqm Z Z<|Zqx Z Z Z<|Zqx Z Z Z<|Zqx Z Z Z<|Zqx Z Z Z<|Zqx Z Z Z<|Zqa Z Z<|Zqa Z Z<|Zqa Z Z<|Zqa Z Z<|At Z Z<|Zs<|Zp<|?_
  refine qaU 45 (qcc x.kind=true∧qaT x.name=false) ?_ ?_
  ·
   refine Zr<|Zqm Z Z<|Zqm Z Z<|?_
   refine qc9 (t:=47) Z (fun c11=>?_) (fun c11=>?_)
   ·
    refine Zg Z Z<|Wb Y5<|Zg Z Z<|Wl 0 Y6<|Zg Z Z<|Jc Z Z Z (qer D _ _ (hG.le (I1.1.t h3|>.t h4|>.t h6|>.t h9)) x.name) ?_
    rintro _ _ s12 h12 ⟨rfl,rfl⟩
    refine Zg Z Z<|qbV Z Z<|ZqT Z Z Z<|Zqa Z Z<|Zn<|?_
    refine qab (MidB.mk h12 Sb Z ((qiA As)))
   refine Wf Y4<|Wf Y4<|Wf Y4<|Wf Y4<|ZqF Z Z Z<|Zqa Z Z<|Zn<|?_
   refine qab (MidB.mk (Lr D) Sb Z ((decide_eq_false (fun h=>absurd h.1 (by simp [*]))).symm))
  intro s10 h10
  refine qaa Z (fun c13=>?_) (fun c13=>?_)
  ·
   have hx7:=qtg (a:=x.exprs.length) (b:=x.body.length) (c:=x.els.length) g5 c13
   have hE:wkS x lv ck=(ck+1,7):=by rw [qdA,if_neg g4,if_pos (by rw [hx7];decide),hx7]
   refine Sr<|At Z Z<|Zo<|Zc<|Zu<|Zc<|Zu<|Zu<|Zc<|Zu ?_
   refine rR [_] _ (.t1 Z) Z (I1.1.t h3|>.t h4|>.t h6|>.t h9|>.t h10) fun _ hS2=>?_
   rw [hS,qb6 hx,hE,if_pos (by simp;done)];exact ⟨rfl,rfl⟩
  have g7:=c13
  refine qd9 (γ:=Unit) (fun _=>[(53,.bool (decide ((qcc x.kind=false∧x.name≠[])∨(¬ (x.kind=3∨x.kind=4)∧0 < n2)∨(¬ x.kind=3∧0 < n3)∨n1 < qbO x.kind∨qcA x.kind < n1)))]) [_,_] Z (fun g=>L) (fun g tw=>True) (fun _ _ _ h hl=>h) ?_ ?_
  ·
   refine Sr<|Zqm Z Z<|qbV Z Z<|Zqm Z Z<|?_
   refine qnI (t:=56) Z (fun c15=>?_) (fun c15=>?_)
   ·
    refine Zg Z Z<|Wb Y5<|Zg Z Z<|Wl 0 Y6<|Zg Z Z<|qti Z Z Z<|ZqT Z Z Z<|At Z Z<|?_
    refine qaP Z (fun c16=>?_) (fun c16=>?_)
    ·
     refine Zk ?_
     refine qab (MidG.mk () [] (Lr D) (.cons Kb (.nil _)) So Pr Tt)
    refine Sr<|Zqm Z Z<|qbV Z Z<|Zqm Z Z<|?_
    refine qaE (t:=63) Z (fun c17=>?_) (fun c17=>?_)
    ·
     refine Zg Z Z<|Wb Y5<|Zg Z Z<|Wl 0 Y6<|Zg Z Z<|Ws Y4<|Zg Z Z<|qbv Z Z Z<|ZqT Z Z Z<|At Z Z<|?_
     refine qaa Z (fun c18=>?_) (fun c18=>?_)
     ·
      refine Zk ?_
      refine qab (MidG.mk () [] (Lr D) (.cons Kb (.nil _)) So Pr Tt)
     refine Sr<|Zqm Z Z<|qbV Z Z<|Zqm Z Z<|?_
     refine qaE (t:=71) Z (fun c19=>?_) (fun c19=>?_)
     ·
      refine Zg Z Z<|Wb Y5<|Zg Z Z<|Wl 0 Y6<|Zg Z Z<|Ws Y4<|Zg Z Z<|qbv Z Z Z<|ZqT Z Z Z<|At Z Z<|?_
      refine qaa Z (fun c20=>?_) (fun c20=>?_)
      ·
       refine Zk ?_
       refine qab (MidG.mk () [] (Lr D) (.cons Kb (.nil _)) So Pr Tt)
      refine Sr<|Wb Y5<|Wl 0 Y6<|Ws Y4<|Zqm Z Z<|qbh Z Z Z<|At Z Z<|?_
      refine qaa Z (fun c21=>?_) (fun c21=>?_)
      ·
       refine Zk ?_
       refine qab (MidG.mk () [] (Lr D) (.cons Kb (.nil _)) So Pr Tt)
      refine Zr<|Wb Y5<|Wl 0 Y6<|Ws Y4<|Zqm Z Z<|qbv Z Z Z<|Zqa Z Z<|Zn<|?_
      refine qab (MidG.mk () [] (Lr D) (.cons Kb (.nil _)) So Pr Tt)
     refine Wf Y4<|Wf Y4<|Wf Y4<|Wf Y4<|ZqF Z Z Z<|At Z Z<|Zz Z<|Sr<|Wb Y5<|Wl 0 Y6<|Ws Y4<|Zqm Z Z<|qbh Z Z Z<|At Z Z<|?_
     refine qaa Z (fun c22=>?_) (fun c22=>?_)
     ·
      refine Zk ?_
      refine qab (MidG.mk () [] (Lr D) (.cons Kb (.nil _)) So Pr Tt)
     refine Zr<|Wb Y5<|Wl 0 Y6<|Ws Y4<|Zqm Z Z<|qbv Z Z Z<|Zqa Z Z<|Zn<|?_
     refine qab (MidG.mk () [] (Lr D) (.cons Kb (.nil _)) So Pr Tt)
    refine Wf Y4<|Wf Y4<|Wf Y4<|Wf Y4<|ZqF Z Z Z<|At Z Z<|Zz Z<|Sr<|Zqm Z Z<|qbV Z Z<|Zqm Z Z<|?_
    refine qaE (t:=71) Z (fun c23=>?_) (fun c23=>?_)
    ·
     refine Zg Z Z<|Wb Y5<|Zg Z Z<|Wl 0 Y6<|Zg Z Z<|Ws Y4<|Zg Z Z<|qbv Z Z Z<|ZqT Z Z Z<|At Z Z<|?_
     refine qaa Z (fun c24=>?_) (fun c24=>?_)
     ·
      refine Zk ?_
      refine qab (MidG.mk () [] (Lr D) (.cons Kb (.nil _)) So Pr Tt)
     refine Sr<|Wb Y5<|Wl 0 Y6<|Ws Y4<|Zqm Z Z<|qbh Z Z Z<|At Z Z<|?_
     refine qaa Z (fun c25=>?_) (fun c25=>?_)
     ·
      refine Zk ?_
      refine qab (MidG.mk () [] (Lr D) (.cons Kb (.nil _)) So Pr Tt)
     refine Zr<|Wb Y5<|Wl 0 Y6<|Ws Y4<|Zqm Z Z<|qbv Z Z Z<|Zqa Z Z<|Zn<|?_
     refine qab (MidG.mk () [] (Lr D) (.cons Kb (.nil _)) So Pr Tt)
    refine Wf Y4<|Wf Y4<|Wf Y4<|Wf Y4<|ZqF Z Z Z<|At Z Z<|Zz Z<|Sr<|Wb Y5<|Wl 0 Y6<|Ws Y4<|Zqm Z Z<|qbh Z Z Z<|At Z Z<|?_
    refine qaa Z (fun c26=>?_) (fun c26=>?_)
    ·
     refine Zk ?_
     refine qab (MidG.mk () [] (Lr D) (.cons Kb (.nil _)) So Pr Tt)
    refine Zr<|Wb Y5<|Wl 0 Y6<|Ws Y4<|Zqm Z Z<|qbv Z Z Z<|Zqa Z Z<|Zn<|?_
    refine qab (MidG.mk () [] (Lr D) (.cons Kb (.nil _)) So Pr Tt)
   refine Wf Y4<|Wf Y4<|Wf Y4<|ZqF Z Z Z<|At Z Z<|Zz Z<|Sr<|Zqm Z Z<|qbV Z Z<|Zqm Z Z ?_
   refine qaE (t:=63) Z (fun c27=>?_) (fun c27=>?_)
   ·
    refine Zg Z Z<|Wb Y5<|Zg Z Z<|Wl 0 Y6<|Zg Z Z<|Ws Y4<|Zg Z Z<|qbv Z Z Z<|ZqT Z Z Z<|At Z Z<|?_
    refine qaa Z (fun c28=>?_) (fun c28=>?_)
    ·
     refine Zk ?_
     refine qab (MidG.mk () [] (Lr D) (.cons Kb (.nil _)) So Pr Tt)
    refine Sr<|Zqm Z Z<|qbV Z Z<|Zqm Z Z<|?_
    refine qaE (t:=71) Z (fun c29=>?_) (fun c29=>?_)
    ·
     refine Zg Z Z<|Wb Y5<|Zg Z Z<|Wl 0 Y6<|Zg Z Z<|Ws Y4<|Zg Z Z<|qbv Z Z Z<|ZqT Z Z Z<|At Z Z<|?_
     refine qaa Z (fun c30=>?_) (fun c30=>?_)
     ·
      refine Zk ?_
      refine qab (MidG.mk () [] (Lr D) (.cons Kb (.nil _)) So Pr Tt)
     refine Sr<|Wb Y5<|Wl 0 Y6<|Ws Y4<|Zqm Z Z<|qbh Z Z Z<|At Z Z<|?_
     refine qaa Z (fun c31=>?_) (fun c31=>?_)
     ·
      refine Zk ?_
      refine qab (MidG.mk () [] (Lr D) (.cons Kb (.nil _)) So Pr Tt)
     refine Zr<|Wb Y5<|Wl 0 Y6<|Ws Y4<|Zqm Z Z<|qbv Z Z Z<|Zqa Z Z<|Zn<|?_
     refine qab (MidG.mk () [] (Lr D) (.cons Kb (.nil _)) So Pr Tt)
    refine Wf Y4<|Wf Y4<|Wf Y4<|Wf Y4<|ZqF Z Z Z<|At Z Z<|Zz Z<|Sr<|Wb Y5<|Wl 0 Y6<|Ws Y4<|Zqm Z Z<|qbh Z Z Z<|At Z Z<|?_
    refine qaa Z (fun c32=>?_) (fun c32=>?_)
    ·
     refine Zk ?_
     refine qab (MidG.mk () [] (Lr D) (.cons Kb (.nil _)) So Pr Tt)
    refine Zr<|Wb Y5<|Wl 0 Y6<|Ws Y4<|Zqm Z Z<|qbv Z Z Z<|Zqa Z Z<|Zn<|?_
    refine qab (MidG.mk () [] (Lr D) (.cons Kb (.nil _)) So Pr Tt)
   refine Wf Y4<|Wf Y4<|Wf Y4<|Wf Y4<|ZqF Z Z Z<|At Z Z<|Zz Z<|Sr<|Zqm Z Z<|qbV Z Z<|Zqm Z Z<|?_
   refine qaE (t:=71) Z (fun c33=>?_) (fun c33=>?_)
   ·
    refine Zg Z Z<|Wb Y5<|Zg Z Z<|Wl 0 Y6<|Zg Z Z<|Ws Y4<|Zg Z Z<|qbv Z Z Z<|ZqT Z Z Z<|At Z Z<|?_
    refine qaa Z (fun c34=>?_) (fun c34=>?_)
    ·
     refine Zk ?_
     refine qab (MidG.mk () [] (Lr D) (.cons Kb (.nil _)) So Pr Tt)
    refine Sr<|Wb Y5<|Wl 0 Y6<|Ws Y4<|Zqm Z Z<|qbh Z Z Z<|At Z Z<|?_
    refine qaa Z (fun c35=>?_) (fun c35=>?_)
    ·
     refine Zk ?_
     refine qab (MidG.mk () [] (Lr D) (.cons Kb (.nil _)) So Pr Tt)
    refine Zr<|Wb Y5<|Wl 0 Y6<|Ws Y4<|Zqm Z Z<|qbv Z Z Z<|Zqa Z Z<|Zn<|?_
    refine qab (MidG.mk () [] (Lr D) (.cons Kb (.nil _)) So Pr Tt)
   refine Wf Y4<|Wf Y4<|Wf Y4<|Wf Y4<|ZqF Z Z Z<|At Z Z<|Zz Z<|Sr<|Wb Y5<|Wl 0 Y6<|Ws Y4<|Zqm Z Z<|qbh Z Z Z<|At Z Z<|?_
   refine qaa Z (fun c36=>?_) (fun c36=>?_)
   ·
    refine Zk ?_
    refine qab (MidG.mk () [] (Lr D) (.cons Kb (.nil _)) So Pr Tt)
   refine Zr<|Wb Y5<|Wl 0 Y6<|Ws Y4<|Zqm Z Z<|qbv Z Z Z<|Zqa Z Z<|Zn<|?_
   refine qab (MidG.mk () [] (Lr D) (.cons Kb (.nil _)) So Pr Tt)
  intro g s14 h14 I14
  simp only [cQ9,nQ9]
       
  refine qaa Z (fun c37=>?_) (fun c37=>?_)
  ·
   have hx6:=qs4 hn1 hn2 hn3 g5 g7 c37
   have hE:wkS x lv ck=(ck+1,6):=by rw [qdA,if_neg g4,if_pos (by rw [hx6];decide),hx6]
   refine Sr<|At Z Z<|Zo<|Zc<|Zu<|Zc<|Zu<|Zu<|Zc<|Zu ?_
   refine rR [_] _ (.t1 Z) Z (I1.1.t h3|>.t h4|>.t h6|>.t h9|>.t h10|>.t h14) fun _ hS2=>?_
   rw [hS,qb6 hx,hE,if_pos (by simp;done)];exact ⟨rfl,rfl⟩
  have hx0:=quE hn1 hn2 hn3 g5 g7 c37
  refine Zk<|Zb<|Zt<|Zs<|Sr<|Zqm Z Z<|Wb Y5<|Wl 0 Y6<|Jc Z Z Z ((cxc D e).swap L _ (hG.le (I1.1.t h3|>.t h4|>.t h6|>.t h9|>.t h10|>.t h14)) _ bc (ck+1) 1 A1 n1 c1 x.exprs (hax.le (h3.t h4|>.t h6|>.t h9|>.t h10|>.t h14)) O O) ?_
  rintro _ _ s38 h38 ⟨rfl,rfl⟩
  refine At Z Z<|Sr<|Zqm Z Z<|qb2 Z Z Z<|Nt<|?_
  refine qaP Z (fun c39=>?_) (fun c39=>?_)
  ·
   have g0:=c39
   have hE:wkS x lv ck=qco x.exprs 1 (ck+1):=by rw [qdA,if_neg g4,if_neg (by rw [hx0];decide),if_pos g0]
   refine Sr<|Zqm Z Z<|At Z Z<|Zo<|Zu<|Zc<|Zu<|Zu<|Zc<|Zu ?_
   refine rR [_] _ (.t1 Z) Z (I1.1.t h3|>.t h4|>.t h6|>.t h9|>.t h10|>.t h14|>.t h38) fun _ hS2=>?_
   rw [hS,qb6 hx,hE,if_pos g0];exact ⟨rfl,rfl⟩
  have g0:=c39
  have hE:wkS x lv ck=wkP x lv (qco x.exprs 1 (ck+1)).1 0:=by rw [qdA,if_neg g4,if_neg (by rw [hx0];decide),if_neg (by simpa using g0)];rfl
  have hw0:=qeR x.exprs 1 (ck+1) g0
  have hcx0:(qco x.exprs 1 (ck+1)).1≤2000:=by rw [hw0.2.1];rcases hw0.2.2 with h | h <;> omega
  refine Zk<|Zt<|Sr<|Wb Y5<|Wl 0 Y6<|Wb Y5<|Wl 0 Y6<|qbk [(_,_),(_,_)] [_,_] Z Z Z Z Z Z Z Z Z ?_
  intro βp s40 h40 hcp
  refine Ws Y4<|Zqm Z Z<|Nt<|Zp<|?_
  refine qdY [_] (γ:=Nat×Nat) (fun g=>[(0,_),(2,_),(6,_),(18,_),(19,_),(20,_),(98,_),(99,_),(100,.int .i64 (g.1:Int))]) (fun g=>(bc,cb [.int .i64 (g.2:Int)] 146)::L) (fun g tw=>Le D s40 tw∧(g.1≤2∧g.2≤2000∧wkP x lv (qco x.exprs 1 (ck+1)).1 0=wkP x lv g.2 g.1)) (fun g=>2 - g.1) (fun _ _ _ h hl=>⟨h.1.trans hl,h.2⟩) (0,(qco x.exprs 1 (ck+1)).1) (.c6 Z Z Z Z Z Z (.c3 Z Z Z (.nil _))) Z ⟨Le.refl _,⟨Nat.zero_le _,hcx0,Z⟩⟩ ?_
  intro g s41 I41
  simp only [cQ9,nQ9]
  obtain ⟨j,cj⟩:=g
  obtain ⟨hj0,hcj,hP⟩:=I41.2
  simp only at hj0 hcj hP
  dsimp only
  refine Sr<|qbh Z Z Z<|Nt<|Zs<|?_
  refine qaa Z (fun c42=>?_) (fun c42=>?_)
  ·
   have hj2:j < 2:=by omega
   refine Zk<|Zt<|Zs<|Zp<|Zs<|?_
   rcases (show j=0∨j=1 by omega) with rfl | rfl
   ·
    refine Zr<|qac (qas Z Z Z Z Z Z O) Z<|qac (qah Z Z Z (hcp.le I41.1) Z) Z<|At Z Z<|Sr<|Zqm Z Z<|Zqm Z Z<|Zqm Z Z<|qac (qaR Z Z (show IntKind.i64.wrap ((lv:Int)+1)=((lv+1:Nat):Int) by rw [w64 O O];simp)) Z<|Jc Z Z Z ((ih e hd).swap L _ (hG.le (I1.1.t h3|>.t h4|>.t h6|>.t h9|>.t h10|>.t h14|>.t h38|>.t h40|>.t I41.1)) _ bc cj (lv+1) A2 n2 c2 x.body (hbx.le (h3.t h4|>.t h6|>.t h9|>.t h10|>.t h14|>.t h38|>.t h40|>.t I41.1)) hcj O) ?_
    rintro _ _ s43 h43 ⟨rfl,rfl⟩
    refine At Z Z<|Sr<|Zqm Z Z<|qb2 Z Z Z<|Nt<|?_
    refine qaP Z (fun c44=>?_) (fun c44=>?_)
    ·
     have hz:=c44
     refine Sr<|Zqm Z Z<|At Z Z<|Zo<|Zc<|Zu<|Zu<|Zc<|Zc<|Zu<|Zu<|Zc<|Zu<|?_
     refine rR [_] _ (.t1 Z) Z (I1.1.t h3|>.t h4|>.t h6|>.t h9|>.t h10|>.t h14|>.t h38|>.t h40|>.t I41.1|>.t h43) fun _ hS2=>?_
     rw [hS,qb6 hx,hE,hP,qq4,if_pos hz,if_pos hz];exact ⟨rfl,rfl⟩
    have hz:=c44
    refine Zk<|Zb<|Zt<|Zr<|qaF Z Z Z (w64 O O)<|Zqm Z Z<|Zn<|?_
    refine qab ⟨(1,(qb3 x.body (lv+1) cj).1),[],kp,Z,⟨(I41.1.t h43),by first | exact ⟨by simp only;omega,by simp only;have hw:=qdq x.body (lv+1) cj hz;rw [hw.2.1];rcases hw.2.2 with h | h <;> omega,by simp only;rw [hP,qq4,if_neg (by rw [hz];decide)]⟩ | exact ⟨by simp only;omega,by simp only;have hw:=qdq x.els (lv+1) cj hz;rw [hw.2.1];rcases hw.2.2 with h | h <;> omega,by simp only;rw [hP,qpu _ _ _ hz]⟩⟩,Oz⟩
   refine Zr<|qac (qas Z Z Z Z Z Z O) Z<|qac (qaC 1 Z Z Z (hcp.le I41.1) Z) Z<|At Z Z<|Sr<|Zqm Z Z<|Zqm Z Z<|Zqm Z Z<|qac (qaR Z Z (show IntKind.i64.wrap ((lv:Int)+1)=((lv+1:Nat):Int) by rw [w64 O O];simp)) Z<|Jc Z Z Z ((ih e hd).swap L _ (hG.le (I1.1.t h3|>.t h4|>.t h6|>.t h9|>.t h10|>.t h14|>.t h38|>.t h40|>.t I41.1)) _ bc cj (lv+1) A3 n3 c3 x.els (hex.le (h3.t h4|>.t h6|>.t h9|>.t h10|>.t h14|>.t h38|>.t h40|>.t I41.1)) hcj O) ?_
   rintro _ _ s45 h45 ⟨rfl,rfl⟩
   refine At Z Z<|Sr<|Zqm Z Z<|qb2 Z Z Z<|Nt<|?_
   refine qaP Z (fun c46=>?_) (fun c46=>?_)
   ·
    have hz:=c46
    refine Sr<|Zqm Z Z<|At Z Z<|Zo<|Zc<|Zu<|Zu<|Zc<|Zc<|Zu<|Zu<|Zc<|Zu<|?_
    refine rR [_] _ (.t1 Z) Z (I1.1.t h3|>.t h4|>.t h6|>.t h9|>.t h10|>.t h14|>.t h38|>.t h40|>.t I41.1|>.t h45) fun _ hS2=>?_
    rw [hS,qb6 hx,hE,hP,qtQ,if_pos hz];exact ⟨rfl,rfl⟩
   have hz:=c46
   refine Zk<|Zb<|Zt<|Zr<|qaF Z Z Z (w64 O O)<|Zqm Z Z<|Zn<|?_
   refine qab ⟨(2,(qb3 x.els (lv+1) cj).1),[],kp,Z,⟨(I41.1.t h45),by first | exact ⟨by simp only;omega,by simp only;have hw:=qdq x.body (lv+1) cj hz;rw [hw.2.1];rcases hw.2.2 with h | h <;> omega,by simp only;rw [hP,qq4,if_neg (by rw [hz];decide)]⟩ | exact ⟨by simp only;omega,by simp only;have hw:=qdq x.els (lv+1) cj hz;rw [hw.2.1];rcases hw.2.2 with h | h <;> omega,by simp only;rw [hP,qpu _ _ _ hz]⟩⟩,Oz⟩
  obtain rfl:j=2:=by omega
  rw [qul] at hP
  refine Zl<|Zv<|Zv<|Zd<|Zb<|Zt<|Zr<|qaF Z Z Z (w64 O O)<|Zqm Z Z<|Zn<|?_
  refine qab ⟨(k+1,cj),[_],kp,Z,⟨(I1.1.t h3|>.t h4|>.t h6|>.t h9|>.t h10|>.t h14|>.t h38|>.t h40|>.t I41.1),⟨by simp only;omega,hcj,by simp only;rw [hS,qb6 hx,hE,hP,if_neg (by simp)]⟩⟩,Oz⟩
 rw [List.drop_eq_nil_of_le O,qb3] at hS
 refine Zl<|Zv<|Zv<|Zd<|Zt<|Sr<|At Z Z<|Zo<|?_
 refine rR [] _ (.t1 Z) Z I1.1 fun _ hS2=>?_
 rw [hS];exact ⟨rfl,rfl⟩
theorem csc(D:Nat):∀ d,CSC D d
 | 0=>fun L s hG bc c lv A n cc l hA hc hlv=>qgo D 0 (fun e h=>by omega) L s hG bc c lv A n cc l hA hc hlv
 | d+1=>fun L s hG bc c lv A n cc l hA hc hlv=>qgo D (d+1) (fun e h=>(show d=e by omega)▸csc D d) L s hG bc c lv A n cc l hA hc hlv
end Go.Proofs.YtpdnijphccdiiaaGreatDoor
namespace Go.FL
open Go Go.RowKit
def qrV(L:Hl)(i:Nat):Hl:=match L[i]? with
 | some x=>x::L.eraseIdx i
 | none=>L
theorem qb0(L:Hl)(i:Nat):L.Perm (qrV L i):=by
 unfold qrV
 cases h:L[i]? with
 | none=>exact List.Perm.refl _
 | some x=>
  induction L generalizing i with
  | nil=>simp at h
  | cons y L ih=>
   cases i with
   | zero=>simp at h;subst h;exact List.Perm.refl _
   | succ i=>
    simp at h
    simp only [List.eraseIdx_cons_succ]
    exact ((ih i h).cons y).trans (List.Perm.swap x y _)
theorem qgL{P:Program}{TT:qaZ}{D n:Nat}{Q:qbD}{fr:Fr}{L:Hl}{s:World}{c:Code}(i:Nat)(h:JC P TT D n Q c fr (qrV L i) s):JC P TT D n Q c fr L s:=fun ht a hr ho=>by
 rw [qa7 (qb0 L i) _ ho]
 exact h ht a hr (ho.perm (qb0 L i))
section
variable{P:Program}{TT:qaZ}{D:Nat}{fr:Fr}{ty:Nat}{K:Hl}{s0:World}{v:Value}
theorem qdG{n:Nat}{Q:qbD}{c:Code}{L L':Hl}{s:World}(hp:L.Perm L')(h:JC P TT D n Q c fr L' s):JC P TT D n Q c fr L s:=fun ht a hr ho=>by
 rw [qa7 hp _ ho]
 exact h ht a hr (ho.perm hp)
theorem qk0{xs ys:List Value}{k:Nat}{v:Value}(h:xs[k]?=some v):nth (xs++ys) (0+k)=some v:=by
 rw [qeE,Nat.zero_add,List.getElem?_append_left (List.getElem?_eq_some_iff.1 h).1,h]
theorem qkd{xs ys:List Value}{k:Nat}(v:Value)(h:k < xs.length):qbN (xs++ys) (0+k) [v]=xs.set k v++ys:=by
 rw [Nat.zero_add]
 induction xs generalizing k with
 | nil=>cases h
 | cons x xs ih=>
  cases k with
  | zero=>simp [qbN]
  | succ k=>
   have:=ih (k:=k) (by simpa using h)
   simp only [List.cons_append,qbN,List.set_cons_succ] at this ⊢
   rw [this]
theorem qld{xs ys:List Value}{k:Nat}(h:k < xs.length):Nat.ble (0+k+1) (xs++ys).length=true:=Nat.ble_eq_true_of_le (by rw [List.length_append];omega)
theorem qlL{e:Nat}{A:Hl}{n:Nat}{xs:List Value}(h:FL.Own e 1 A v n xs)(h0:0 < n):∃ b cap ys,A=[(b,cb (xs++ys) e)]∧v=.slice (some ⟨b,0,none⟩) n cap∧xs.length=n∧xs.length+ys.length=cap∧cap≤9223372036854775807:=by
 cases h with
 | nil=>cases h0
 | blk b cap n xs ys hn hc hnc hm=>exact ⟨b,cap,ys,rfl,rfl,by simpa using hn,by simpa using hc,hm⟩
end
end Go.FL
namespace Go.Proofs.YtpdnijphccdiiaaGreatDoor
open Go Go.FL
theorem qgz:∀ {l:List Ex},(∀ x∈l,exU x=true)→qkb l=true
 | [],_=>rfl
 | x::r,h=>by simp only [qkb,h x Mc,qgz fun y hy=>h y (List.mem_cons_of_mem _ hy),Bool.and_self]
theorem qfh:∀ {l:List Stm},(∀ x∈l,stU x=true)→qgs l=true
 | [],_=>rfl
 | x::r,h=>by simp only [qgs,h x Mc,qfh fun y hy=>h y (List.mem_cons_of_mem _ hy),Bool.and_self]
theorem Sl.all{α:Type}{sz:Nat}{R:World→α→List Value→Prop}{s:World}{A:Option Addr}{n c:Nat}{l:List α}{p:α→Prop}(h:Sl sz R s A n c l)(hR:∀ x cs,R s x cs→p x):∀ x∈l,p x:=fun x hx=>by
 obtain ⟨i,hi⟩:=List.getElem?_of_mem hx
 obtain ⟨_,_,_,_,_,_,h4⟩:=h.2.2.2 i x hi
 exact hR _ _ h4
theorem ExR.u{s:World}:∀ {d:Nat} {x:Ex} {cs:List Value},ExR d s x cs→exU x=true
 | 0,_,_,h=>h.elim
 | d+1,.mk k o n nm az,_,⟨A,m,c,_,h2,h3,_⟩=>by
  have h:=qgz (Sl.all (p:=fun x=>exU x=true) h2 fun x cs hx=>ExR.u hx)
  have h':qkb az=true:=h
  simp only [exU,h',Bool.and_true,decide_eq_true_eq]
  exact h3
theorem Exs.u{s:World}{d:Nat}{A:Option Addr}{n c:Nat}{l:List Ex}(h:Exs d s A n c l):qkb l=true:=qgz (Sl.all (p:=fun x=>exU x=true) h fun x cs hx=>ExR.u hx)
theorem StR.u{s:World}:∀ {d:Nat} {x:Stm} {cs:List Value},StR d s x cs→stU x=true
 | 0,_,_,h=>h.elim
 | d+1,.mk k nm es b e,_,⟨A1,n1,c1,A2,n2,c2,A3,n3,c3,_,h2,h3,h4,_⟩=>by
  have h:=qfh (Sl.all (p:=fun x=>stU x=true) h3 fun x cs hx=>StR.u hx)
  have h':qgs b=true:=h
  have k:=qfh (Sl.all (p:=fun x=>stU x=true) h4 fun x cs hx=>StR.u hx)
  have k':qgs e=true:=k
  have g:qkb es=true:=Exs.u h2
  simp only [stU,g,h',k',Bool.and_self]
theorem Stms.u{s:World}{d:Nat}{A:Option Addr}{n c:Nat}{l:List Stm}(h:Stms d s A n c l):qgs l=true:=qfh (Sl.all (p:=fun x=>stU x=true) h fun x cs hx=>StR.u hx)
theorem qbW:∀ {l:List Ex} {k:Nat} {y:Ex},qix l=true→l[k]?=some y→exV y=true∧exN y≤qdD l
 | [],_,_,_,h=>by cases h
 | x::r,0,y,hv,h=>by
  simp at h;subst h
  simp only [qix,Bool.and_eq_true] at hv
  exact ⟨hv.1,by rw [qdD];omega⟩
 | x::r,k+1,y,hv,h=>by
  simp only [qix,Bool.and_eq_true] at hv
  have:=qbW hv.2 (show r[k]?=some y by simpa using h)
  exact ⟨this.1,by rw [qdD];omega⟩
theorem qb5{k o n:Int}{nm:Str}{na:Nat}(h:exC k o n nm na=0):1≤k∧k≤7∧qbG k≤na∧na≤qcv k∧(k=6→1≤o∧o≤3)∧(k=7→4≤o∧o≤21):=by
 unfold exC at h
 split at h
 · cases h
 rename_i h1
 split at h
 · cases h
 split at h
 · cases h
 rename_i h3
 refine ⟨by omega,by omega,?_,?_,by omega,by omega⟩
 · exact Nat.le_of_not_lt fun hh=>h3 (.inr (.inr (.inr (.inl hh))))
 · exact Nat.le_of_not_lt fun hh=>h3 (.inr (.inr (.inr (.inr hh))))
theorem qdx{x:Ex}(h:exV x=true):exC x.kind x.op x.num x.name x.args.length=0∧qix x.args=true:=by
 cases x with
 | mk k o n nm az=>simp only [exV,Bool.and_eq_true,decide_eq_true_eq] at h;exact h
theorem qpg(x:Ex):exN x=1+qdD x.args:=by cases x;rfl
theorem qjg{x:Ex}(h1:0≤x.num∧x.num < 4294967296)(h2:qkb x.args=true):exU x=true:=by
 cases x with
 | mk k o n nm az=>simp only [exU,Bool.and_eq_true,decide_eq_true_eq];exact ⟨h1,h2⟩
theorem qd6(x:Ex)(out:Int):exT x out=exW x.kind x.op x.num x.name (qdt x.args (qeZ x.kind x.op)) out:=by cases x;rfl
theorem qbI(l:List Ex):qdt l []=l.map fun x=>exT x 0:=by
 induction l with
 | nil=>rfl
 | cons x r ih=>simp only [qdt,List.headD_nil,List.tail_nil,List.map_cons,ih]
theorem qgP(o:Int):1≤qbB o∧qbB o≤5:=by
 unfold qbB
 repeat' split
 all_goals (constructor <;> decide)
section
variable{x y z:Ex}
theorem quw(h:x.kind=1):exT x 0=qeB x.num:=by rw [qd6,exW,if_pos h]
theorem qtm(h:x.kind=2):exT x 0=x.name:=by rw [qd6,exW,h];rfl
theorem qj3{α:Type}{l:List α}{y:α}(hl:l.length=1)(h:l[0]?=some y):l=[y]:=by
 match l,hl,h with
 | [a],_,h=>simp at h;rw [h]
theorem qui{α:Type}{l:List α}{y z:α}(hl:l.length=2)(h:l[0]?=some y)(h1:l[1]?=some z):l=[y,z]:=by
 match l,hl,h,h1 with
 | [a,b],_,h,h1=>simp at h h1;rw [h,h1]
theorem qsG(h:x.kind=3)(hl:x.args.length=1)(hy:x.args[0]?=some y):exT x 0=x.name++[91]++exT y 0++[93]:=by
 rw [qd6,qj3 hl hy,h];rfl
theorem qtC(h:x.kind=4):exT x 0=x.name++[40]++qaV (qdt x.args [])++[41]:=by
 rw [qd6,h];rfl
theorem qs8(h:x.kind=5):exT x 0=[103,101,116]:=by rw [qd6,exW,h];rfl
theorem quj(h:x.kind=6)(hl:x.args.length=1)(hy:x.args[0]?=some y):exT x 0=qjO x.op++exT y 9:=by
 rw [qd6,qj3 hl hy,h];rfl
theorem qtB(h:x.kind=7)(hl:x.args.length=2)(hy:x.args[0]?=some y)(hz:x.args[1]?=some z):exT x 0=exT y (qbB x.op)++[32]++qjO x.op++[32]++exT z (qbB x.op+1):=by
 have:=qgP x.op
 rw [qd6,qui hl hy hz,h]
 show (if qbB x.op < 0 then _ else _)=_
 rw [if_neg O];rfl
theorem qgH(h1:1≤x.kind)(h7:x.kind≤7)(out:Int):exT x out=if x.kind=7∧qbB x.op < out then [40]++exT x 0++[41] else exT x 0:=by
  have hs:=qgP x.op
  by_cases h:x.kind=7
  · have e:∀ q,exT x q=if qbB x.op < q then [40]++((qdt x.args (qeZ x.kind x.op)).getD 0 []++[32]++qjO x.op++[32]++(qdt x.args (qeZ x.kind x.op)).getD 1 [])++[41] else (qdt x.args (qeZ x.kind x.op)).getD 0 []++[32]++qjO x.op++[32]++(qdt x.args (qeZ x.kind x.op)).getD 1 []:=fun q=>by
      rw [qd6,exW,if_neg O,if_neg O,if_neg O,if_neg O,if_neg O,if_neg O]
    rw [e out,e 0,if_neg (show ¬ qbB x.op < 0 by omega)]
    by_cases ho:qbB x.op < out
    · rw [if_pos ho,if_pos ⟨h,ho⟩]
    · rw [if_neg ho,if_neg (fun k=>ho k.2)]
  · rw [if_neg (fun k=>h k.1),qd6,qd6]
    unfold exW
    repeat' split
    all_goals (first | rfl | omega)
end
theorem qg0(n:Nat):Lib.repeatL [32,32] n=qaO n:=by
 induction n with
 | zero=>rfl
 | succ n ih=>
  have:∀ n,qaO n++[32,32]=[32,32]++qaO n:=fun n=>by
   induction n with
   | zero=>rfl
   | succ n ih=>rw [qaO,ih,List.append_assoc,ih]
  have:qaO (n+1)=[32,32]++qaO n:=this n
  rw [this,← ih];rfl
end Go.Proofs.YtpdnijphccdiiaaGreatDoor
namespace Go.FL
open Go Go.RowKit
theorem qly{P:Program}{TT:qaZ}{D:Nat}{fr:Fr}{K:Hl}{s0:World}{ty:Nat}{x:Operand}{t:Nat}{A:Option Addr}{m c:Nat}{ti:TI}{e:Nat}(hx:lk fr x=some (.slice A m c))(ht:qaB TT t=some ti)(hk:ti.kind=.sl e):QE P TT D fr (.call { callee:=.builtin .cap,args:=#[x],argTypes:=#[t] }) ty K s0 (.int .i64 (c:Int)):=
 QE.pure fun hT dst pos af g ρ hρ w=>by
  obtain ⟨k1,k2,_⟩:=hT.at_ ht
  rw [hk] at k2
  simp only [TK.fits] at k2
  rw [k2] at k1
  simp [execOp,resolve,invoke,builtin,hρ x _ hx,Builtin.cap_,run_underlying k1,goInt]
end Go.FL
namespace Go.Proofs.YtpdnijphccdiiaaGreatDoor
open Go Go.FL Go.RowKit
theorem qqi{e cap:Nat}{M:Hl}{v:Value}{xs:List Value}(h:FL.Own e 1 M v cap xs):∃ A c,v=.slice A cap c∧FL.Own e 1 M (.slice A 0 c) 0 []:=by
 cases h with
 | nil=>exact ⟨none,0,rfl,.nil⟩
 | blk b c n xs ys hn hc hnc hm=>exact ⟨_,_,rfl,by
   have:=FL.Own.blk (e:=e) (sz:=1) b c 0 [] (xs++ys) rfl (by simpa using hc) (Nat.zero_le _) hm
   simpa using this⟩
theorem qc1(a b:List (List UInt8)):sb (a++b)=sb a++sb b:=by simp [sb]
theorem Strs.row{s:World}{A:Option Addr}{n c:Nat}{l:List (List UInt8)}(h:Strs s A n c l):Row s A n 1 (sb l):=by
  refine ⟨by simp [sb,h.1],fun u hu=>?_,fun j u hj=>?_⟩
  · obtain ⟨x,_,rfl⟩:=List.mem_map.1 hu;rfl
  · obtain ⟨x,hx,rfl⟩:∃ x,l[j]?=some x∧u=St x:=by
      simp only [sb,List.getElem?_map] at hj
      cases hl:l[j]? with
      | none=>rw [hl] at hj;cases hj
      | some x=>rw [hl] at hj;injection hj with hj;exact ⟨x,rfl,hj.symm⟩
    obtain ⟨b,off,cs,h1,h2,_,rfl,_⟩:=h.2.2.2 j x hx
    exact ⟨b,off,h1,by have:=h2 0 (St x) rfl;simpa using this⟩
theorem Strs.len{s:World}{A:Option Addr}{n c:Nat}{l:List (List UInt8)}(h:Strs s A n c l):∀ x∈l,x.length≤9223372036854775807:=fun x hx=>by
 obtain ⟨j,hj⟩:=List.getElem?_of_mem hx
 obtain ⟨_,_,_,_,_,_,_,h5⟩:=h.2.2.2 j x hj
 exact h5
open Go.Proofs.Tryz
open Go.FL
attribute [local irreducible] JC JO JA JB qaJ qaw qbM AC fill CellsAt QE Ev Mid
theorem qoa(D:Nat)(L:Hl)(s:World)(m:Nat)(hm:m≤1000000000):AC prog D 120 [.slice none 0 0,.int .i64 (m:Int)] L s fun v L' _=>∃ M A c,L'=M++L∧v=.slice A 0 c∧FL.Own 9 1 M (.slice A 0 c) 0 []:=by
 refine qai (fn:=f120) qao func120 V Z ntmps120 Z (rs:=[.tmp 4]) Z [(0,_),(1,_)] Z<|Sr<|At Z Z<|Zs<|Sr<|Zqm Z Z<|qbh Z Z Z<|Nt<|?_
 refine qaa Z (fun c1=>?_) (fun c1=>?_)
 ·
  exfalso;omega --end
 refine Zk<|Zt<|Zs<|Sr<|Zqm Z Z<|Zqm Z Z<|qac (qly Z Z Z) Z<|Zqm Z Z<|Ws Y4<|qac (qbd (c:=(0:Int)) Z Z Z) Z<|qac (qbd (c:=((m:Nat):Int)) Z Z (by rw [w64 O O];omega)) Z<|At Z Z<|Sr<|Zqm Z Z<|qbv Z Z Z<|Nt<|?_
 refine qaa Z (fun c2=>?_) (fun c2=>?_)
 ·
  have hpos:0 < m:=by omega
  refine Zr<|Zqm Z Z<|Zqm Z Z<|qac (qly Z Z Z) Z<|qac (qji (j:=0) Z Z Z Z Z (Nat.le_refl _)) Z<|Zqm Z Z<|ql4 (sz:=1) (m:=m) (news:=List.replicate m (St [])) [] [] L Z Z Z Z Z Z Z Own.nil (by simp) (fun hT w i k1 i1 i2 i3 i4=>qk5 m k1 underlying3 i1 i2 i4 Z Z O (by rw [i3];simp [ti9];omega)) ⟨by simp [ti9];omega,by omega⟩ Z ?_
  intro v1 M1 s3 h3 o1 n1
  simp only [Nat.zero_add,List.nil_append] at o1
  obtain ⟨Ag,cg,rfl,o2⟩:=qqi o1
  refine Zqm Z Z<|Ws Y4<|qac (qji (j:=0) Z Z Z Z Z (Nat.zero_le _)) Z<|At Z Z<|Sr<|Zqm Z Z<|At Z Z<|Zo<|?_
  refine rR [] _ (.t1 Z) Z h3 fun _ hS2=>?_
  first | exact ⟨M1,Ag,cg,rfl,rfl,o2⟩ | exact ⟨[],none,0,rfl,rfl,Own.nil⟩
 have hm0:m=0:=by omega
 refine Zk<|Zt<|Sr<|Zqm Z Z<|At Z Z<|Zo<|?_
 refine rR [] _ (.t1 Z) Z (Lr D) fun _ hS2=>?_
 first | exact ⟨M1,Ag,cg,rfl,rfl,o2⟩ | exact ⟨[],none,0,rfl,rfl,Own.nil⟩
theorem qjB(D:Nat)(L:Hl)(s:World)(b:Nat)(A1 A2:Option Addr)(n1 c1 n2 c2:Nat)(l1 l2:List Str)(hs1:Strs s A1 n1 c1 l1)(hs2:Strs s A2 n2 c2 l2)(hb:CellsAt s b 0 [.slice A1 n1 c1,.slice A2 n2 c2])(hn1:n1≤1000)(hn2:n2≤1000):AC prog D 79 [.slice (some ⟨b,0,none⟩) 2 2] L s fun v L' s'=>∃ M',L'=M'++L∧∀ s2,Le D s' s2→Pub M' s2→∃ A n c,v=.slice A n c∧Strs s2 A n c (l1++l2):=by
 have hl1:=hs1.1
 have hl2:=hs2.1
 refine qai (fn:=f79) qao func79 V Z ntmps79 Z (rs:=[.tmp 2]) Z [(0,_)] Z<|Sr<|At Z Z<|Sr<|At Z Z<|Zs<|Sr<|Zqm Z Z<|Ws Y4<|Zqm Z Z<|Nt<|Zp<|?_
 refine qav (γ:=Nat×Nat) (fun g=>[(0,_),(2,_),(3,.int .i64 (g.2:Int)),(9,_),(10,_),(11,.int .i64 (g.1:Int))]) (fun g=>L) (fun g tw=>Le D s tw∧(g.1≤2∧g.2≤g.1 * 1000)) (fun g=>2 - g.1) (fun _ _ _ h hl=>⟨h.1.trans hl,h.2⟩) (0,0) (.c6 Z Z Z Z Z Z (.nil _)) Z ⟨Le.refl _,⟨Nat.zero_le _,Nat.zero_le _⟩⟩ ?_
 intro g s1 I1
 obtain ⟨j,z⟩:=g
 obtain ⟨hj0,hz⟩:=I1.2
 simp only at hj0 hz
 dsimp only
 refine Sr<|qbh Z Z Z<|Nt<|Zs<|?_
 refine qaa Z (fun c2=>?_) (fun c2=>?_)
 ·
  have hjj:j < 2:=by omega
  refine Zk<|Zt<|Zs<|Zp<|Zs<|?_
  rcases (show j=0∨j=1 by omega) with rfl | rfl
  ·
   refine Zr<|qac (qas Z Z Z Z Z Z O) Z<|qac (qah Z Z Z (hb.le I1.1) Z) Z<|At Z Z<|Sr<|Zqm Z Z<|Zqm Z Z<|Ws Y4<|qac (qaR (c:=((z+n1:Nat):Int)) Z Z (by rw [w64 O O];simp)) Z<|At Z Z<|Sr<|Zqm Z Z<|qbh Z Z Z<|Nt<|?_
   refine qaa Z (fun c3=>?_) (fun c3=>?_)
   ·
    exfalso;omega --end
   refine Zk<|Zb<|Zt<|Zr<|qaF Z Z Z (w64 O O)<|Zqm Z Z<|Zn<|?_
   refine qab ⟨(1,z+n1),[],kp,Z,⟨I1.1,⟨by simp only;omega,by simp only;omega⟩⟩,Oz⟩
  refine Zr<|qac (qas Z Z Z Z Z Z O) Z<|qac (qaC 1 Z Z Z (hb.le I1.1) Z) Z<|At Z Z<|Sr<|Zqm Z Z<|Zqm Z Z<|Ws Y4<|qac (qaR (c:=((z+n2:Nat):Int)) Z Z (by rw [w64 O O];simp)) Z<|At Z Z<|Sr<|Zqm Z Z<|qbh Z Z Z<|Nt<|?_
  refine qaa Z (fun c4=>?_) (fun c4=>?_)
  ·
   exfalso;omega --end
  refine Zk<|Zb<|Zt<|Zr<|qaF Z Z Z (w64 O O)<|Zqm Z Z<|Zn<|?_
  refine qab ⟨(2,z+n2),[],kp,Z,⟨I1.1,⟨by simp only;omega,by simp only;omega⟩⟩,Oz⟩
 obtain rfl:j=2:=by omega
 refine Zl<|Zv<|Zv<|Zd<|Zt<|Sr<|Zqm Z Z<|Jc Z Z Z (qoa D _ _ z O) ?_
 rintro _ _ s5 h5 ⟨Mg,Ag,cg,rfl,rfl,hOg⟩
 refine At Z Z<|Zs<|Sr<|Zqm Z Z<|Ws Y4<|Zqm Z Z<|Nt<|Zp<|?_
 refine qav (γ:=Nat×Value×Hl×List Str) (fun g=>[(2,_),(6,g.2.1),(25,_),(26,_),(27,.int .i64 (g.1:Int))]) (fun g=>g.2.2.1++L) (fun g tw=>Le D s5 tw∧(g.1≤2∧FL.Own 9 1 g.2.2.1 g.2.1 g.2.2.2.length (sb g.2.2.2)∧g.2.2.2=(if g.1=0 then [] else if g.1=1 then l1 else l1++l2))) (fun g=>2 - g.1) (fun _ _ _ h hl=>⟨h.1.trans hl,h.2⟩) (0,.slice Ag 0 cg,Mg,[]) (.c5 Z Z Z Z Z (.nil _)) Z ⟨Le.refl _,⟨Nat.zero_le _,hOg,Z⟩⟩ ?_
 intro g s6 I6
 obtain ⟨j,vo,Mo,out⟩:=g
 obtain ⟨hj0,hO,hout⟩:=I6.2
 simp only at hj0 hO hout
 dsimp only
 refine Sr<|qbh Z Z Z<|Nt<|Zs<|?_
 refine qaa Z (fun c7=>?_) (fun c7=>?_)
 ·
  have hjj:j < 2:=by omega
  refine Zk<|Zt<|Zs<|Zp<|Zs<|?_
  rcases (show j=0∨j=1 by omega) with rfl | rfl
  ·
   obtain rfl:out=[]:=hout
   refine Zr<|qac (qas Z Z Z Z Z Z O) Z<|qac (qah Z Z Z (hb.le (I1.1.t h5|>.t I6.1)) Z) Z<|At Z Z<|Zr<|Zqm Z Z<|Zqm Z Z<|qba (sz:=1) [] Mo L Z Z Z Z Z Z Z hO (hs1.row.le (I1.1.t h5|>.t I6.1)) ⟨by simp [ti9];omega,by (try simp only [List.length_nil]);omega⟩ Z ?_
   intro vq Mq s8 h8 oq
   obtain ⟨Avq,cvq,rfl,_,_⟩:=Own.slice oq
   simp only [List.nil_append]
   refine Zqa Z Z<|Zn<|Zb<|Zt<|Zr<|qaF Z Z Z (w64 O O)<|Zqm Z Z<|Zn<|?_
   refine qab ⟨(1,.slice Avq (0+n1) cvq,Mq,l1),[],kp,Z,⟨(I6.1.t h8),by first | exact ⟨by simp only;omega,by have h:=oq;simp only [List.length_nil,Nat.zero_add,sb,List.map_nil,List.nil_append] at h ⊢;rw [← hl1];exact h,Z⟩ | exact ⟨by simp only;omega,by have h:=oq;rw [← qc1] at h;rw [List.length_append,← hl2];exact h,Z⟩⟩,Oz⟩
  obtain rfl:l1=out:=hout.symm
  refine Zr<|qac (qas Z Z Z Z Z Z O) Z<|qac (qaC 1 Z Z Z (hb.le (I1.1.t h5|>.t I6.1)) Z) Z<|At Z Z<|Zr<|Zqm Z Z<|Zqm Z Z<|qba (sz:=1) [] Mo L Z Z Z Z Z Z Z hO (hs2.row.le (I1.1.t h5|>.t I6.1)) ⟨by simp [ti9];omega,by (try simp only [List.length_nil]);omega⟩ Z ?_
  intro vq Mq s9 h9 oq
  obtain ⟨Avq,cvq,rfl,_,_⟩:=Own.slice oq
  simp only [List.nil_append]
  refine Zqa Z Z<|Zn<|Zb<|Zt<|Zr<|qaF Z Z Z (w64 O O)<|Zqm Z Z<|Zn<|?_
  refine qab ⟨(2,.slice Avq (l1.length+n2) cvq,Mq,l1++l2),[],kp,Z,⟨(I6.1.t h9),by first | exact ⟨by simp only;omega,by have h:=oq;simp only [List.length_nil,Nat.zero_add,sb,List.map_nil,List.nil_append] at h ⊢;rw [← hl1];exact h,Z⟩ | exact ⟨by simp only;omega,by have h:=oq;rw [← qc1] at h;rw [List.length_append,← hl2];exact h,Z⟩⟩,Oz⟩
 obtain rfl:j=2:=by omega
 obtain rfl:out=l1++l2:=hout
 obtain ⟨Ao,co,rfl,_,_⟩:=Own.slice hO
 refine Zl<|Zv<|Zv<|Zd<|Zt<|Sr<|Zqm Z Z<|At Z Z<|Zo<|?_
 refine rR [] _ (.t1 Z) Z (I1.1.t h5|>.t I6.1) fun _ hS2=>?_
 exact ⟨Mo,rfl,fun s2 hs9 hp=>⟨_,_,_,rfl,Own.strs hO (fun x hx=>(List.mem_append.1 hx).elim (hs1.len x) (hs2.len x)) hp rfl⟩⟩
theorem qhZ(D:Nat)(L:Hl)(s:World)(b:Nat)(A1 A2:Option Addr)(n1 c1 n2 c2:Nat)(l1 l2:List Str)(hs1:Strs s A1 n1 c1 l1)(hs2:Strs s A2 n2 c2 l2)(hb:CellsAt s b 0 [.slice A1 n1 c1,.slice A2 n2 c2])(hn1:n1≤1000)(hn2:n2≤1000):AC prog D 79 [.slice (some ⟨b,0,none⟩) 2 2] L s fun v L' s'=>L=L'∧∃ A n c,v=.slice A n c∧Strs s' A n c (l1++l2):=AC.pubW (qjB D L s b A1 A2 n1 c1 n2 c2 l1 l2 hs1 hs2 hb hn1 hn2)
theorem qiB{x:Fnc}{c:Nat}(h:qaT x.name=false):fnC x c=(c,7):=by rw [fnC,if_pos h]
theorem qiF{x:Fnc}{c:Nat}(h:¬ qaT x.name=false)(hs2:6 < x.params.length∨12 < x.locals.length):fnC x c=(c,2):=by rw [fnC,if_neg h,if_pos hs2]
theorem qmn{x:Fnc}{c k:Nat}{w:Str}(h:¬ qaT x.name=false)(hs2:¬ (6 < x.params.length∨12 < x.locals.length))(hw:(x.params++x.locals)[k]?=some w)(hi:qaT w=false):fnC x c=(c,7):=by
 rw [fnC,if_neg h,if_neg hs2,if_pos]
 exact List.any_eq_true.2 ⟨w,List.mem_of_getElem? hw,by rw [hi];rfl⟩
theorem qpJ{x:Fnc}{c:Nat}(h:¬ qaT x.name=false)(hs2:¬ (6 < x.params.length∨12 < x.locals.length))(h3:∀ i w,i < (x.params++x.locals).length→(x.params++x.locals)[i]?=some w→qaT w=true):fnC x c=qb3 x.body 1 c:=by
 rw [fnC,if_neg h,if_neg hs2,if_neg]
 rw [List.any_eq_true]
 rintro ⟨w,hw,hb⟩
 obtain ⟨i,hi⟩:=List.getElem?_of_mem hw
 rw [h3 i w (List.getElem?_eq_some_iff.1 hi).1 hi] at hb
 cases hb
theorem qof(D:Nat)(L:Hl)(s:World)(hG:GP s)(bc c d:Nat)(x:Fnc)(A1 A2 A3:Option Addr)(n1 q1 n2 q2 n3 q3:Nat)(hs1:Strs s A1 n1 q1 x.params)(hs2:Strs s A2 n2 q2 x.locals)(hs3:Stms d s A3 n3 q3 x.body)(hc:c≤2000):AC prog D 75 [.pointer (some ⟨bc,0,none⟩),.agg #[St x.name,.slice A1 n1 q1,.slice A2 n2 q2,.slice A3 n3 q3]] ((bc,cb [.int .i64 (c:Int)] 146)::L) s fun v L' _=>v=.int .i64 (fnC x c).2∧L'=(bc,cb [.int .i64 ((fnC x c).1:Int)] 146)::L:=by
 have hl1:=hs1.1
 have hl2:=hs2.1
 refine qai (fn:=f75) qao func75 V Z ntmps75 Z (rs:=[.tmp 4]) Z [(0,_),(1,_)] Z<|Sr<|qaq Z Z ?_
 intro β1 s1 h1
 refine At Z Z<|Zs<|Zp<|Sr<|W0 Y5<|Wl 0 Y6<|Jc Z Z Z (qer D _ _ (hG.le h1) x.name) ?_
 rintro _ _ s2 h2 ⟨rfl,rfl⟩
 refine qbV Z Z<|At Z Z<|?_
 refine qcH Z (fun c3=>?_) (fun c3=>?_)
 ·
  have hnm:=c3
  refine Sr<|At Z Z<|Zo<|Zc<|Zu<|?_
  refine rR [_] _ (.t1 Z) Z (h1.t h2) fun _ hS2=>?_
  rw [qiB (by simpa using hnm)];exact ⟨rfl,rfl⟩
 have hnm:=c3
 refine qaU 12 (6 < n1∨12 < n2) ?_ ?_
 ·
  refine Zr<|Wb Y5<|Wl 0 Y6<|Ws Y4<|qbv Z Z Z<|Zqm Z Z<|?_
  refine qak (t:=17) Z (fun c5=>?_) (fun c5=>?_)
  ·
   refine Wf Y4<|Wf Y4<|Wf Y4<|Wf Y4<|ZqT Z Z Z<|Zqa Z Z<|Zn<|?_
   refine qab (MidB.mk (Lr D) Sb Z ((decide_eq_true O).symm))
  refine Zg Z Z<|Wb Y5<|Zg Z Z<|Wl 0 Y6<|Zg Z Z<|Ws Y4<|Zg Z Z<|qbv Z Z Z<|ZqF Z Z Z<|Zqa Z Z<|Zn<|?_
  refine qab (MidB.mk (Lr D) Sb Z (decide_eq_decide.2 O))
 intro s4 h4
 refine qaa Z (fun c6=>?_) (fun c6=>?_)
 ·
  have hmany:=c6
  refine Sr<|At Z Z<|Zo<|Zc<|Zu<|?_
  refine rR [_] _ (.t1 Z) Z (h1.t h2|>.t h4) fun _ hS2=>?_
  rw [qiF (by simpa using hnm) O];exact ⟨rfl,rfl⟩
 have hmany:=c6
 refine Zk<|Zb<|Zt<|Zs<|Sr<|Wb Y5<|Wl 0 Y6<|Wb Y5<|Wl 0 Y6<|qbk [(_,_),(_,_)] [_,_] Z Z Z Z Z Z Z Z Z ?_
 intro βp s7 h7 hcp
 refine Jc Z Z Z (qhZ D _ _ _ A1 A2 n1 q1 n2 q2 x.params x.locals (hs1.le (h1.t h2|>.t h4|>.t h7)) (hs2.le (h1.t h2|>.t h4|>.t h7)) (hcp.le (Lr D)) O O) ?_
 rintro _ _ s8 h8 ⟨rfl,Aq,nq,cq,rfl,hQ⟩
 have hnq:=hQ.1
 have hnq2:=hQ.2.1
 have hnq3:=hQ.2.2.1
 refine Ws Y4<|Zqm Z Z<|Nt<|Zp<|qav (γ:=Nat) (fun k=>[(0,_),(3,_),(4,_),(28,_),(29,_),(30,.int .i64 (k:Int))]) (fun k=>_::(bc,cb [.int .i64 (c:Int)] 146)::L) (fun k tw=>Le D s8 tw∧(k≤nq∧∀ i w,i < k→(x.params++x.locals)[i]?=some w→qaT w=true)) (fun k=>nq - k) (fun _ _ _ h hl=>⟨h.1.trans hl,h.2⟩) 0 (.c6 Z Z Z Z Z Z (.nil _)) Z ⟨Le.refl _,⟨Nat.zero_le _,fun i w hi=>by omega⟩⟩ ?_
 intro k s9 I9
 have hk0:=I9.2.1
 have hI:=I9.2.2
 refine Sr<|qbh Z Z Z<|Nt<|Zs<|?_
 refine qaa Z (fun c10=>?_) (fun c10=>?_)
 ·
  have hk:k < nq:=by omega
  obtain ⟨b,off,w,rfl,hw,hcw,_⟩:=Strs.at_ (hQ.le I9.1) hk
  refine Zk<|Zt<|Zs<|Zp<|Sr<|qac (qas Z Z Z Z Z Z hk) Z<|qac (qah Z Z Z (hcw.le (Lr D)) Z) Z<|At Z Z<|Sr<|Zqm Z Z<|Jc Z Z Z (qer D _ _ (hG.le (h1.t h2|>.t h4|>.t h7|>.t h8|>.t I9.1)) w) ?_
  rintro _ _ s11 h11 ⟨rfl,rfl⟩
  refine qbV Z Z<|Nt<|?_
  refine qcH Z (fun c12=>?_) (fun c12=>?_)
  ·
   have hid:=c12
   refine Sr<|At Z Z<|Zo<|Zc<|Zu<|Zu<|Zc<|Zu<|?_
   refine rR [_] _ (.t1 Z) Z (h1.t h2|>.t h4|>.t h7|>.t h8|>.t I9.1|>.t h11) fun _ hS2=>?_
   rw [qmn (by simpa using hnm) O hw (by simpa using hid)];exact ⟨rfl,rfl⟩
  have hid:=c12
  refine Zk<|Zb<|Zt<|Zr<|qaF Z Z Z (w64 O O)<|Zqm Z Z<|Zn<|?_
  refine qab ⟨(k+1),[],kp,Z,⟨(I9.1.t h11),⟨by omega,qbc hI hw (by simpa using hid)⟩⟩,O⟩
 refine Zl<|Zv<|Zv<|Zd<|Zt<|Sr<|Zqm Z Z<|Wb Y5<|Wl 0 Y6<|Jc Z Z Z ((csc D d).swap L _ (hG.le (h1.t h2|>.t h4|>.t h7|>.t h8|>.t I9.1)) _ bc c 1 A3 n3 q3 x.body (hs3.le (h1.t h2|>.t h4|>.t h7|>.t h8|>.t I9.1)) hc O) ?_
 rintro _ _ s13 h13 ⟨rfl,rfl⟩
 refine At Z Z<|Zo<|?_
 refine rR [_] _ (.t1 Z) Z (h1.t h2|>.t h4|>.t h7|>.t h8|>.t I9.1|>.t h13) fun _ hS2=>?_
 rw [qpJ (by simpa using hnm) O (fun i w hi h=>hI i w O h)];exact ⟨rfl,rfl⟩
theorem qfG:∀ (ws:List (List UInt8)),Lib.join ws [44,32]=qaV ws
 | []=>rfl
 | [x]=>by simp [Lib.join,qaV,List.intercalate]
 | x::y::r=>by
  have:=qfG (y::r)
  simp only [Lib.join,List.intercalate,List.intersperse_cons_cons,List.flatten_cons] at this ⊢
  rw [qaV,← this];simp
theorem qaI{α β:Type}(f:α→β){l:List α}{k:Nat}{x:α}(h:l[k]?=some x):(l.take (k+1)).map f=(l.take k).map f++[f x]:=by
 obtain ⟨hk,rfl⟩:=List.getElem?_eq_some_iff.1 h
 rw [List.take_succ_eq_append_getElem hk,List.map_append];rfl
theorem qfs(D:Nat)(L:Hl)(s:World)(A:Option Addr)(n c:Nat)(ws:List (List UInt8))(hS:Strs s A n c ws)(hlen:qf4 ws≤1000000000):AC prog D 117 [.slice A n c,St [44,32]] L s fun v L' _=>v=St (qaV ws)∧L=L':=by
 have h1:=qbf ws
 have h2:ws.length≤qf4 ws:=by
  clear hS hlen h1
  induction ws with
  | nil=>exact Nat.zero_le _
  | cons x r ih=>rw [qbE,List.length_cons];omega
 have:=qnj D L s A n c ws hS [44,32] (by rw [qfG];omega) O
 rwa [qfG] at this
theorem qgX(l:List Int)(h:∀ x∈l,U32 x):qf4 (l.map qeB)≤12 * l.length:=by
 induction l with
 | nil=>exact Nat.le_refl _
 | cons x r ih=>
  have h1:=qds (h x Mc)
  have h2:=ih fun y hy=>h y (List.mem_cons_of_mem _ hy)
  rw [List.map_cons,qbE,List.length_cons];omega
theorem qlr{l:List Int}(h:∀ x∈l,U32 x):∀ x∈l.map qeB,x.length≤9223372036854775807:=fun x hx=>by
 obtain ⟨y,hy,rfl⟩:=List.mem_map.1 hx
 have:=qds (h y hy);omega
theorem qjL(D:Nat)(L:Hl)(s:World)(hG:GP s)(A:Option Addr)(n c:Nat)(l:List Int)(hW:Wds s A n c l)(hn:n≤1000):AC prog D 116 [.slice A n c] L s fun v L' _=>v=St (qaV (l.map qeB))∧L=L':=by
 have hl:=hW.1
 have hu:=hW.u32
 have htw:=qgX l hu
 refine qai (fn:=f116) qao func116 V Z ntmps116 Z (rs:=[.tmp 2]) Z [(0,_)] Z<|Sr<|At Z Z<|Sr<|At Z Z<|Zs<|Sr<|Zqm Z Z<|Ws Y4<|Zqm Z Z<|Nt<|Zp<|?_
 refine qav (γ:=Nat×Value×Hl) (fun g=>[(2,_),(3,g.2.1),(6,_),(7,_),(8,.int .i64 (g.1:Int))]) (fun g=>g.2.2++L) (fun g tw=>Le D s tw∧(g.1≤n∧FL.Own 9 1 g.2.2 g.2.1 g.1 (sb ((l.take g.1).map qeB)))) (fun g=>n - g.1) (fun _ _ _ h hl=>⟨h.1.trans hl,h.2⟩) (0,.slice none 0 0,[]) (.c5 Z Z Z Z Z (.nil _)) Z ⟨Le.refl _,⟨Nat.zero_le _,Own.nil⟩⟩ ?_
 intro g s1 I1
 obtain ⟨k,vo,Mo⟩:=g
 obtain ⟨hk0,hO⟩:=I1.2
 simp only at hk0 hO
 dsimp only
 refine Sr<|qbh Z Z Z<|Nt<|Zs<|?_
 refine qaa Z (fun c2=>?_) (fun c2=>?_)
 ·
  have hk:k < n:=by omega
  obtain ⟨b,off,x,rfl,hx,hcx,hux⟩:=Wds.at_ (hW.le I1.1) hk
  refine Zk<|Zt<|Zs<|Zp<|Sr<|qac (qas Z Z Z Z Z Z hk) Z<|qac (qah Z Z Z (hcx.le (Lr D)) Z) Z<|At Z Z<|Zr<|Zqm Z Z<|Zqm Z Z<|Jc Z Z Z (qdH D _ _ (hG.le I1.1) x hux) ?_
  rintro _ _ s3 h3 ⟨rfl,rfl⟩
  refine qbk [(_,_)] [_] Z Z Z Z Z Z Z Z Z ?_
  intro βn s4 h4 hcb
  refine qba (sz:=1) [] Mo L Z Z Z Z Z Z Z hO (Row.of_cells (hcb.le (Lr D)) Z Z) ⟨by simp [ti9];omega,by omega⟩ Z ?_
  intro vq Mq s5 h5 oq
  obtain ⟨Avq,cvq,rfl,_,_⟩:=Own.slice oq
  simp only [cQ9,nQ9]
  refine Zqa Z Z<|Zn<|Zb<|Zt<|Zr<|qaF Z Z Z (w64 O O)<|Zqm Z Z<|Zn<|?_
  refine qab ⟨(k+1,.slice Avq (k+1) cvq,Mq),[],kp,Z,⟨(I1.1.t h3|>.t h4|>.t h5),⟨by simp only;omega,by rw [qaI qeB hx,qc1];exact oq⟩⟩,Oz⟩
 obtain rfl:k=n:=by omega
 rw [List.take_of_length_le O] at hO
 obtain ⟨Ao,co,rfl,_,_⟩:=Own.slice hO
 refine Zl<|Zv<|Zv<|Zd<|Zt<|Zs<|qbC [] Mo _ ?_
 intro s6 h6 hpub6
 simp only [cQ9,nQ9]
 have hSt:=Own.strs hO (qlr hu) hpub6 (by rw [List.length_map];omega)
 refine Zr<|Zqm Z Z<|Jc Z Z Z (qfs D _ _ Ao k co (l.map qeB) (hSt.le (Lr D)) O) ?_
 rintro _ _ s7 h7 ⟨rfl,rfl⟩
 refine At Z Z<|Zo<|?_
 refine rR [] L (.t1 Z) Z (I1.1.t h6|>.t h7) fun _ hS2=>?_
 exact ⟨rfl,rfl⟩
def EXT(D d:Nat):Prop:=∀ (L:Hl) (s:World),GP s→∀ (x:Ex) (A:Option Addr) (n c:Nat),Exs d s A n c x.args→U32 x.num→exV x=true→exN x≤2000→AC prog D 189 [.agg #[.int .i64 x.kind,.int .i64 x.op,.int .u32 x.num,St x.name,.slice A n c]] L s fun v L' _=>v=St (exT x 0)∧L=L'
theorem qfm{l:List Ex}(hv:qix l=true)(hu:qkb l=true)(hN:qdD l≤2000):∀ x∈l.map (fun x=>exT x 0),x.length≤9223372036854775807:=fun x hx=>by
 have h1:=qdp l [] hv hu
 rw [qbI] at h1
 have h2:∀ (l:List Str),x∈l→x.length≤qf4 l:=fun l=>by
  induction l with
  | nil=>intro h;cases h
  | cons y r ih=>
   intro h
   rw [qbE]
   rcases List.mem_cons.1 h with rfl | h
   · omega
   · have:=ih h;omega
 have:=h2 _ hx;omega
theorem qgu(D d:Nat)(ih:∀ e,d=e+1→EXT D e)(L:Hl)(s:World)(hG:GP s)(A:Option Addr)(n c:Nat)(l:List Ex)(hA:Exs d s A n c l)(hv:qix l=true)(hN:qdD l≤2000)(hn:n≤1000):AC prog D 191 [.slice A n c] L s fun v L' _=>v=St (qaV (qdt l []))∧L=L':=by
 have hl:=hA.1
 have hu:=hA.u
 have htw:=qdp l [] hv hu
 rw [qbI] at htw ⊢
 refine qai (fn:=f191) qao func191 V Z ntmps191 Z (rs:=[.tmp 2]) Z [(0,_)] Z<|Sr<|At Z Z<|Sr<|At Z Z<|Zs<|Sr<|Zqm Z Z<|Ws Y4<|Zqm Z Z<|Nt<|Zp<|?_
 refine qav (γ:=Nat×Value×Hl) (fun g=>[(2,_),(3,g.2.1),(6,_),(7,_),(8,.int .i64 (g.1:Int))]) (fun g=>g.2.2++L) (fun g tw=>Le D s tw∧(g.1≤n∧FL.Own 9 1 g.2.2 g.2.1 g.1 (sb ((l.take g.1).map fun x=>exT x 0)))) (fun g=>n - g.1) (fun _ _ _ h hl=>⟨h.1.trans hl,h.2⟩) (0,.slice none 0 0,[]) (.c5 Z Z Z Z Z (.nil _)) Z ⟨Le.refl _,⟨Nat.zero_le _,Own.nil⟩⟩ ?_
 intro g s1 I1
 obtain ⟨k,vo,Mo⟩:=g
 obtain ⟨hk0,hO⟩:=I1.2
 simp only at hk0 hO
 dsimp only
 refine Sr<|qbh Z Z Z<|Nt<|Zs<|?_
 refine qaa Z (fun c2=>?_) (fun c2=>?_)
 ·
  have hk:k < n:=by omega
  obtain ⟨e,b,off,x,A',n',c',hd,rfl,hx,hcx,hax,hux,hnl⟩:=Exs.at_ (hA.le I1.1) hk
  obtain ⟨hvx,hNx⟩:=qbW hv hx
  refine Zk<|Zt<|Zs<|Zp<|Sr<|qac (qap Z Z Z Z Z Z hk) Z<|qac (qau Z Z Z (hcx.le (Lr D)) Z) Z<|qaj Z [_,_,_,_,_] Z Z ?_
  intro β3 s3 h3
  refine Wt 0 [_,_,_,_,_] Y9<|Nt<|Zr<|Zqm Z Z<|qac (qag 0 [_,_,_,_,_] Z Z Z Z Z) Z<|Jc Z Z Z (ih e hd _ _ (hG.le (I1.1.t h3)) x A' n' c' (hax.le h3) hux hvx O) ?_
  rintro _ _ s4 h4 ⟨rfl,rfl⟩
  refine qbk [(_,_)] [_] Z Z Z Z Z Z Z Z Z ?_
  intro βn s5 h5 hcb
  refine qba (sz:=1) [_] Mo L Z Z Z Z Z Z Z hO (Row.of_cells (hcb.le (Lr D)) Z Z) ⟨by simp [ti9];omega,by omega⟩ Z ?_
  intro vq Mq s6 h6 oq
  obtain ⟨Avq,cvq,rfl,_,_⟩:=Own.slice oq
  simp only [cQ9,nQ9]
  refine Zqa Z Z<|Zn<|Zb<|Zt<|Zr<|qaF Z Z Z (w64 O O)<|Zqm Z Z<|Zn<|?_
  refine qab ⟨(k+1,.slice Avq (k+1) cvq,Mq),[_],kp,Z,⟨(I1.1.t h3|>.t h4|>.t h5|>.t h6),⟨by simp only;omega,by rw [qaI (fun x=>exT x 0) hx,qc1];exact oq⟩⟩,Oz⟩
 obtain rfl:k=n:=by omega
 rw [List.take_of_length_le O] at hO
 obtain ⟨Ao,co,rfl,_,_⟩:=Own.slice hO
 refine Zl<|Zv<|Zv<|Zd<|Zt<|Zs<|qbC [] Mo _ ?_
 intro s7 h7 hpub7
 simp only [cQ9,nQ9]
 have hSt:=Own.strs hO (qfm hv hu hN) hpub7 (by rw [List.length_map];omega)
 refine Zr<|Zqm Z Z<|Jc Z Z Z (qfs D _ _ Ao k co (l.map fun x=>exT x 0) (hSt.le (Lr D)) O) ?_
 rintro _ _ s8 h8 ⟨rfl,rfl⟩
 refine At Z Z<|Zo<|?_
 refine rR [] L (.t1 Z) Z (I1.1.t h7|>.t h8) fun _ hS2=>?_
 exact ⟨rfl,rfl⟩
theorem qij(D d:Nat)(hE:EXT D d)(L:Hl)(s:World)(hG:GP s)(x:Ex)(A:Option Addr)(n c:Nat)(hA:Exs d s A n c x.args)(hu:U32 x.num)(hv:exV x=true)(hN:exN x≤2000)(b:Bool):AC prog D 213 [.agg #[.int .i64 x.kind,.int .i64 x.op,.int .u32 x.num,St x.name,.slice A n c],.bool b] L s fun v L' _=>v=St (if x.kind=7∧b=true then [40]++exT x 0++[41] else exT x 0)∧L=L':=by
 have hxl:=qfV x 0 hv (qjg hu hA.u)
 refine qai (fn:=f213) qao func213 V Z ntmps213 Z (rs:=[.tmp 4]) Z [(0,_),(1,_)] Z<|Sr<|qaq Z Z ?_
 intro β1 s1 h1
 refine At Z Z<|Zs<|Sr<|W0 Y5<|Wl 0 Y6<|qar Z Z Z<|Zqm Z Z<|?_
 refine qak (t:=8) Z (fun c2=>?_) (fun c2=>?_)
 ·
  refine Zg Z Z<|Zqm Z Z<|ZqT Z Z Z<|Nt<|?_
  refine qcf Z (fun c3=>?_) (fun c3=>?_)
  ·
   refine Sr<|qac (qag 0 [_,_,_,_,_] Z Z Z Z Z) Z<|Jc Z Z Z (hE _ _ (hG.le h1) x A n c (hA.le h1) hu hv hN) ?_
   rintro _ _ s4 h4 ⟨rfl,rfl⟩
   refine qac (qaf Z Z Uo) Z<|qac (qaf Z Z Uo) Z<|At Z Z<|Zo<|Zu<|?_
   refine rR [_] L (.t1 Z) Z (h1.t h4) fun _ hS2=>?_
   rw [if_pos ⟨by assumption,by assumption⟩];exact ⟨rfl,rfl⟩
  refine Zk<|Zt<|Sr<|qac (qag 0 [_,_,_,_,_] Z Z Z Z Z) Z<|Jc Z Z Z (hE _ _ (hG.le h1) x A n c (hA.le h1) hu hv hN) ?_
  rintro _ _ s5 h5 ⟨rfl,rfl⟩
  refine At Z Z<|Zo<|?_
  refine rR [_] L (.t1 Z) Z (h1.t h5) fun _ hS2=>?_
  rw [if_neg (fun k=>by have h9:=k.2;simp_all)];exact ⟨rfl,rfl⟩
 refine Wf Y4<|ZqF Z Z Z<|Nt<|Zz Z<|Zk<|Zt<|Sr<|qac (qag 0 [_,_,_,_,_] Z Z Z Z Z) Z<|Jc Z Z Z (hE _ _ (hG.le h1) x A n c (hA.le h1) hu hv hN) ?_
 rintro _ _ s6 h6 ⟨rfl,rfl⟩
 refine At Z Z<|Zo<|?_
 refine rR [_] L (.t1 Z) Z (h1.t h6) fun _ hS2=>?_
 rw [if_neg (fun k=>absurd k.1 As)];exact ⟨rfl,rfl⟩
theorem qcs(D d:Nat)(hE:EXT D d)(L:Hl)(s:World)(hG:GP s)(x:Ex)(A:Option Addr)(n c:Nat)(hA:Exs d s A n c x.args)(hu:U32 x.num)(hv:exV x=true)(hN:exN x≤2000)(out:Int)(b:Bool)(hb:b=decide (qbB x.op < out)):AC prog D 213 [.agg #[.int .i64 x.kind,.int .i64 x.op,.int .u32 x.num,St x.name,.slice A n c],.bool b] L s fun v L' _=>v=St (exT x out)∧L=L':=by
 have h:=qij D d hE L s hG x A n c hA hu hv hN b
 have hk:=qb5 (qdx hv).1
 have e:(if x.kind=7∧b=true then [40]++exT x 0++[41] else exT x 0)=exT x out:=by
  rw [qgH hk.1 hk.2.1 out,hb];simp only [decide_eq_true_eq]
 rwa [e] at h
theorem qfQ{x:Ex}(hv:exV x=true)(h:x.kind=3∨x.kind=6):x.args.length=1:=by
 have ha:=qb5 (qdx hv).1
 have h1:=ha.2.2.1;have h2:=ha.2.2.2.1
 rcases h with h | h <;> (rw [h] at h1 h2;simp [qbG,qcv] at h1 h2;omega)
theorem qpv{x:Ex}(hv:exV x=true)(h:x.kind=4):x.args.length≤6:=by
 have ha:=qb5 (qdx hv).1
 have h2:=ha.2.2.2.1
 rw [h] at h2;simp [qcv] at h2;omega
theorem qpo{x:Ex}(hv:exV x=true)(h:x.kind=7):x.args.length=2:=by
 have ha:=qb5 (qdx hv).1
 have h1:=ha.2.2.1;have h2:=ha.2.2.2.1
 rw [h] at h1 h2;simp [qbG,qcv] at h1 h2;omega
theorem qhp(D d:Nat)(ih:∀ e,d=e+1→EXT D e)(L:Hl)(s:World)(hG:GP s)(x:Ex)(A:Option Addr)(n c:Nat)(hA:Exs d s A n c x.args)(hu:U32 x.num)(hv:exV x=true)(hN:exN x≤2000):AC prog D 189 [.agg #[.int .i64 x.kind,.int .i64 x.op,.int .u32 x.num,St x.name,.slice A n c]] L s fun v L' _=>v=St (exT x 0)∧L=L':=by
 have hxl:=qfV x 0 hv (qjg hu hA.u)
 have hC:=qdx hv
 have hka:=qb5 hC.1
 have hl:=hA.1
 have hNx:=qpg x
 refine qai (fn:=f189) qao func189 V Z ntmps189 Z (rs:=[.tmp 2]) Z [(0,_)] Z<|Sr<|qaq Z Z ?_
 intro β1 s1 h1
 refine At Z Z<|Zs<|Sr<|W0 Y5<|Wl 0 Y6<|Nt<|Zp<|Sr<|qar Z Z Z<|At Z Z<|?_
 refine qaa Z (fun c2=>?_) (fun c2=>?_)
 ·
  have hT:=quw c2
  refine Sr<|Wb Y5<|Wl 0 Y6<|Jc Z Z Z (qdH D _ _ (hG.le h1) _ hu) ?_
  rintro _ _ s3 h3 ⟨rfl,rfl⟩
  refine At Z Z<|Zo<|Zc<|Zu<|?_
  refine rR [_] L (.t1 Z) Z (h1.t h3) fun _ hS2=>?_
  exact ⟨by rw [hT];rfl,rfl⟩
 refine Sr<|qar Z Z Z<|At Z Z<|?_
 refine qaa Z (fun c4=>?_) (fun c4=>?_)
 ·
  have hT:=qtm c4
  refine Sr<|Wb Y5<|Wl 0 Y6<|At Z Z<|Zo<|Zc<|Zu<|?_
  refine rR [_] L (.t1 Z) Z h1 fun _ hS2=>?_
  exact ⟨by rw [hT];rfl,rfl⟩
 refine Sr<|qar Z Z Z<|At Z Z<|?_
 refine qaa Z (fun c5=>?_) (fun c5=>?_)
 ·
  have hl1:=qfQ hv (.inl c5)
  obtain ⟨e,b,off,y,A1,n1,c1,rfl,rfl,hy,hcy,hay,huy,hnl⟩:=Exs.at_ (hA.le h1) (show 0 < n by omega)
  obtain ⟨hvy,hNy⟩:=qbW hC.2 hy
  have hT:=qsG c5 hl1 hy
  rw [hT] at hxl
  simp only [List.length_append,List.length_cons,List.length_nil] at hxl
  refine Zs<|qay qad 11 Z _ (fun _ h=>h) ?_
  intro s6 h6
  refine za 0 Z (We Y4) Z<|za 1 Z (Wd 0 Y5) Z<|za 2 Z (qaf Z Z Uo) Z<|za 3 Z (We Y4) Z<|za 4 Z (Wd 0 Y5) Z<|za 5 Z (qap (j:=0) Z Z Z Z Z Z O) Z<|za 6 Z (qau Z Z Z (hcy.le h6) Z) Z<|qax 7 V<|Jb Z Tt Z Z Z (ih e Z _ _ (hG.le (h1.t h6)) y A1 n1 c1 (hay.le h6) huy hvy O) ?_
  rintro _ _ s7 h7 ⟨rfl,rfl⟩
  refine ⟨fun _ _ h=>h,?_⟩
  refine za 8 Z (qaf Z Z Uo) Z<|za 9 Z (qaf Z Z Uo) Z<|za 10 Z (qaM Z) Z<|qal V<|Zt<|Zo<|Zc<|Zu<|?_
  refine rR [_] L (.t1 Z) Z (h1.t h6|>.t h7) fun _ hS2=>?_
  exact ⟨by rw [hT];rfl,rfl⟩
 refine Sr<|qar Z Z Z<|At Z Z<|?_
 refine qaa Z (fun c8=>?_) (fun c8=>?_)
 ·
  have hl4:=qpv hv c8
  have hT:=qtC c8
  rw [hT] at hxl
  simp only [List.length_append,List.length_cons,List.length_nil] at hxl
  refine Zs<|qay qad 9 Z _ (fun _ h=>h) ?_
  intro s9 h9
  refine za 0 Z (We Y4) Z<|za 1 Z (Wd 0 Y5) Z<|za 2 Z (qaf Z Z Uo) Z<|za 3 Z (We Y4) Z<|za 4 Z (Wd 0 Y5) Z<|qax 5 V<|Jb Z Tt Z Z Z (qgu D d ih _ _ (hG.le (h1.t h9)) A n c x.args (hA.le (h1.t h9)) hC.2 O O) ?_
  rintro _ _ s10 h10 ⟨rfl,rfl⟩
  refine ⟨fun _ _ h=>h,?_⟩
  refine za 6 Z (qaf Z Z Uo) Z<|za 7 Z (qaf Z Z Uo) Z<|za 8 Z (qaM Z) Z<|qal V<|Zt<|Zo<|Zc<|Zu<|?_
  refine rR [_] L (.t1 Z) Z (h1.t h9|>.t h10) fun _ hS2=>?_
  exact ⟨by rw [hT];rfl,rfl⟩
 refine Sr<|qar Z Z Z<|At Z Z<|?_
 refine qaa Z (fun c11=>?_) (fun c11=>?_)
 ·
  refine Sr<|At Z Z<|Zo<|Zc<|Zu<|?_
  refine rR [_] L (.t1 Z) Z h1 fun _ hS2=>?_
  exact ⟨by rw [qs8 As];rfl,rfl⟩
 refine Sr<|qar Z Z Z<|At Z Z<|?_
 refine qaa Z (fun c12=>?_) (fun c12=>?_)
 ·
  have hl1:=qfQ hv (.inr c12)
  have hop:=hka.2.2.2.2.1 c12
  obtain ⟨e,b,off,y,A1,n1,c1,rfl,rfl,hy,hcy,hay,huy,hnl⟩:=Exs.at_ (hA.le h1) (show 0 < n by omega)
  obtain ⟨hvy,hNy⟩:=qbW hC.2 hy
  have hT:=quj c12 hl1 hy
  rw [hT] at hxl
  simp only [List.length_append,List.length_cons,List.length_nil] at hxl
  refine Zs<|qay qad 10 Z _ (fun _ h=>h) ?_
  intro s13 h13
  refine za 0 Z (We Y4) Z<|za 1 Z (Wd 0 Y5) Z<|za 3 Z (We Y4) Z<|za 4 Z (Wd 0 Y5) Z<|za 5 Z (qap (j:=0) Z Z Z Z Z Z O) Z<|za 6 Z (qau Z Z Z (hcy.le h13) Z) Z<|qax 2 V<|Jb Z Tt Z Z Z (qis D _ _ (hG.le (h1.t h13)) x.op O) ?_
  rintro _ _ s14 h14 ⟨rfl,rfl⟩
  refine ⟨fun _ _ h=>h,?_⟩
  refine qax 7 V<|Jb Z Tt Z Z Z (qcs D e (ih e Z) _ _ (hG.le (h1.t h13|>.t h14)) y _ _ _ (hay.le (h13.t h14)) huy hvy O 9 _ (by have:=qgP y.op;exact (decide_eq_true O).symm)) ?_
  rintro _ _ s15 h15 ⟨rfl,rfl⟩
  refine ⟨fun _ _ h=>h,?_⟩
  refine za 8 Z (qaf Z Z O) Z<|za 9 Z (qaM Z) Z<|qal V<|Zt<|Zo<|Zc<|Zu<|?_
  refine rR [_] L (.t1 Z) Z (h1.t h13|>.t h14|>.t h15) fun _ hS2=>?_
  exact ⟨by rw [hT];rfl,rfl⟩
 have h7:x.kind=7:=by omega
 have hl2:=qpo hv h7
 have hop:=hka.2.2.2.2.2 h7
 obtain ⟨e,b,off,y,A1,n1,c1,rfl,rfl,hy,hcy,hay,huy,hnl⟩:=Exs.at_ (hA.le h1) (show 0 < n by omega)
 obtain ⟨hvy,hNy⟩:=qbW hC.2 hy
 obtain ⟨e',b',off',z,A2,n2,c2,hd2,hab,hz,hcz,haz,huz,hnz⟩:=Exs.at_ (hA.le h1) (show 1 < n by omega)
 cases hab
 obtain rfl:e=e':=by omega
 obtain ⟨hvz,hNz⟩:=qbW hC.2 hz
 have hT:=qtB h7 hl2 hy hz
 rw [hT] at hxl
 simp only [List.length_append,List.length_cons,List.length_nil] at hxl
 refine Zk<|Zb<|Zt<|Sr<|Wb Y5<|Wl 0 Y6<|Jc Z Z Z (qcR D _ _ x.op) ?_
 rintro _ _ s16 h16 ⟨rfl,rfl⟩
 refine At Z Z<|Zs<|qay qad 12 Z _ (fun _ h=>h) ?_
 intro s17 h17
 refine za 0 Z (We Y4) Z<|za 1 Z (Wd 0 Y5) Z<|za 2 Z (qap (j:=0) Z Z Z Z Z Z O) Z<|za 3 Z (qau Z Z Z (hcy.le (h16.t h17)) Z) Z<|za 4 Z (We Y4) Z<|za 5 Z (Wd 0 Y5) Z<|za 6 Z (qap (j:=1) Z Z Z Z Z Z O) Z<|za 7 Z (qau Z Z Z (hcz.le (h16.t h17)) Z) Z ?_
 refine qfl 8 9 V ?_ ?_
 ·
  refine qaL Z Tt Z [_,_,_,_,_] Z Z ?_
  intro β18 s18 h18
  refine qax 9 V<|qaL Z Tt Z [_,_,_,_,_] Z Z ?_
  intro β19 s19 h19
  refine qax 10 V<|Wu Z Tt 1 [_,_,_,_,_] Y9 (sM (sbN (sbY (sbE _))))<|qax 11 V<|Wu Z Tt 0 [_,_,_,_,_] Y9 (sM (sbN (sbY (sbE _))))<|qal V<|Zt<|Zs<|qay qad 22 Z _ (fun _ h=>h) ?_
  intro s20 h20
  refine za 0 Z (qag 1 [_,_,_,_,_] Z Z Z Z Z) Z<|za 1 Z (We Y4) Z<|za 2 Z (Wd 1 Y5) Z<|za 4 Z (qan Z) Z<|za 8 Z (We Y4) Z<|za 9 Z (Wd 2 Y5) Z<|za 13 Z (qag 0 [_,_,_,_,_] Z Z Z Z Z) Z<|za 14 Z (We Y4) Z<|za 15 Z (Wd 0 Y5) Z<|za 17 Z (qan Z) Z<|qax 3 V<|Jb Z Tt Z Z Z (qcR D _ _ y.op) ?_
  rintro _ _ s21 h21 ⟨rfl,rfl⟩
  refine ⟨fun _ _ h=>h,?_⟩
  refine za 5 Z (qb7 Z Z) Z<|qax 6 V<|Jb Z Tt Z Z Z (qcs D e (ih e Z) _ _ (hG.le (h1.t h16|>.t h17|>.t h18|>.t h19|>.t h20|>.t h21)) y _ _ _ (hay.le (h16.t h17|>.t h18|>.t h19|>.t h20|>.t h21)) huy hvy O (qbB x.op) _ (Z)) ?_
  rintro _ _ s22 h22 ⟨rfl,rfl⟩
  refine ⟨fun _ _ h=>h,?_⟩
  refine za 7 Z (qaf Z Z Uo) Z<|qax 10 V<|Jb Z Tt Z Z Z (qis D _ _ (hG.le (h1.t h16|>.t h17|>.t h18|>.t h19|>.t h20|>.t h21|>.t h22)) x.op O) ?_
  rintro _ _ s23 h23 ⟨rfl,rfl⟩
  refine ⟨fun _ _ h=>h,?_⟩
  refine za 11 Z (qaf Z Z Uo) Z<|za 12 Z (qaf Z Z Uo) Z<|qax 16 V<|Jb Z Tt Z Z Z (qcR D _ _ z.op) ?_
  rintro _ _ s24 h24 ⟨rfl,rfl⟩
  refine ⟨fun _ _ h=>h,?_⟩
  refine za 18 Z (qrL Z Z) Z<|qax 19 V<|Jb Z Tt Z Z Z (qcs D e (ih e Z) _ _ (hG.le (h1.t h16|>.t h17|>.t h18|>.t h19|>.t h20|>.t h21|>.t h22|>.t h23|>.t h24)) z _ _ _ (haz.le (h16.t h17|>.t h18|>.t h19|>.t h20|>.t h21|>.t h22|>.t h23|>.t h24)) huz hvz O (qbB x.op+1) _ (by simp only [decide_eq_decide];omega)) ?_
  rintro _ _ s25 h25 ⟨rfl,rfl⟩
  refine ⟨fun _ _ h=>h,?_⟩
  refine za 20 Z (qaf Z Z Uo) Z<|za 21 Z (qaM Z) Z<|qal V<|Zt<|Zo<|?_
  refine rR [_,_,_] L (.t1 Z) Z (h1.t h16|>.t h17|>.t h18|>.t h19|>.t h20|>.t h21|>.t h22|>.t h23|>.t h24|>.t h25) fun _ hS2=>?_
  exact ⟨by rw [hT];rfl,rfl⟩
 refine qaL Z Tt Z [_,_,_,_,_] Z Z ?_
 intro β26 s26 h26
 refine qax 8 V<|qaL Z Tt Z [_,_,_,_,_] Z Z ?_
 intro β27 s27 h27
 refine qax 10 V<|Wu Z Tt 0 [_,_,_,_,_] Y9 (sM (sbN (sbY (sbE _))))<|qax 11 V<|Wu Z Tt 1 [_,_,_,_,_] Y9 (sM (sbN (sbY (sbE _))))<|qal V<|Zt<|Zs<|qay qad 22 Z _ (fun _ h=>h) ?_
 intro s28 h28
 refine za 0 Z (qag 0 [_,_,_,_,_] Z Z Z Z Z) Z<|za 1 Z (We Y4) Z<|za 2 Z (Wd 0 Y5) Z<|za 4 Z (qan Z) Z<|za 8 Z (We Y4) Z<|za 9 Z (Wd 2 Y5) Z<|za 13 Z (qag 1 [_,_,_,_,_] Z Z Z Z Z) Z<|za 14 Z (We Y4) Z<|za 15 Z (Wd 1 Y5) Z<|za 17 Z (qan Z) Z<|qax 3 V<|Jb Z Tt Z Z Z (qcR D _ _ y.op) ?_
 rintro _ _ s29 h29 ⟨rfl,rfl⟩
 refine ⟨fun _ _ h=>h,?_⟩
 refine za 5 Z (qb7 Z Z) Z<|qax 6 V<|Jb Z Tt Z Z Z (qcs D e (ih e Z) _ _ (hG.le (h1.t h16|>.t h17|>.t h26|>.t h27|>.t h28|>.t h29)) y _ _ _ (hay.le (h16.t h17|>.t h26|>.t h27|>.t h28|>.t h29)) huy hvy O (qbB x.op) _ (Z)) ?_
 rintro _ _ s30 h30 ⟨rfl,rfl⟩
 refine ⟨fun _ _ h=>h,?_⟩
 refine za 7 Z (qaf Z Z Uo) Z<|qax 10 V<|Jb Z Tt Z Z Z (qis D _ _ (hG.le (h1.t h16|>.t h17|>.t h26|>.t h27|>.t h28|>.t h29|>.t h30)) x.op O) ?_
 rintro _ _ s31 h31 ⟨rfl,rfl⟩
 refine ⟨fun _ _ h=>h,?_⟩
 refine za 11 Z (qaf Z Z Uo) Z<|za 12 Z (qaf Z Z Uo) Z<|qax 16 V<|Jb Z Tt Z Z Z (qcR D _ _ z.op) ?_
 rintro _ _ s32 h32 ⟨rfl,rfl⟩
 refine ⟨fun _ _ h=>h,?_⟩
 refine za 18 Z (qrL Z Z) Z<|qax 19 V<|Jb Z Tt Z Z Z (qcs D e (ih e Z) _ _ (hG.le (h1.t h16|>.t h17|>.t h26|>.t h27|>.t h28|>.t h29|>.t h30|>.t h31|>.t h32)) z _ _ _ (haz.le (h16.t h17|>.t h26|>.t h27|>.t h28|>.t h29|>.t h30|>.t h31|>.t h32)) huz hvz O (qbB x.op+1) _ (by simp only [decide_eq_decide];omega)) ?_
 rintro _ _ s33 h33 ⟨rfl,rfl⟩
 refine ⟨fun _ _ h=>h,?_⟩
 refine za 20 Z (qaf Z Z Uo) Z<|za 21 Z (qaM Z) Z<|qal V<|Zt<|Zo<|?_
 refine rR [_,_,_] L (.t1 Z) Z (h1.t h16|>.t h17|>.t h26|>.t h27|>.t h28|>.t h29|>.t h30|>.t h31|>.t h32|>.t h33) fun _ hS2=>?_
 exact ⟨by rw [hT];rfl,rfl⟩
theorem qck(D:Nat):∀ d,EXT D d
 | 0=>fun L s hG x A n c hA hu hv hN=>qhp D 0 (fun e h=>by omega) L s hG x A n c hA hu hv hN
 | d+1=>fun L s hG x A n c hA hu hv hN=>qhp D (d+1) (fun e h=>(show d=e by omega)▸qck D d) L s hG x A n c hA hu hv hN
theorem qom(D d:Nat)(L:Hl)(s:World)(hG:GP s)(A:Option Addr)(n c:Nat)(l:List Ex)(hA:Exs d s A n c l)(hv:qix l=true)(hN:qdD l≤2000)(hn:n≤1000):AC prog D 191 [.slice A n c] L s fun v L' _=>v=St (qaV (qdt l []))∧L=L':=qgu D d (fun e _=>qck D e) L s hG A n c l hA hv hN hn
end Go.Proofs.YtpdnijphccdiiaaGreatDoor
namespace Go.FL
open Go Go.RowKit
section
variable{P:Program}{TT:qaZ}{D n:Nat}{Q:qbD}{fr:Fr}{L L' K:Hl}{s s' s0:World}{ops:Array Oper}{rest:List Oper}{d ty:Nat}{op:Op}{pos:String}{af:Array Edge}{v:Value}
theorem qa2{id:Nat}{l:List Oper}(hm:P.follows .mixedOrders=true)(N:Nat)(hN:l.length=N)(j:Nat)
  (h:∀ s',Le D s s'→JA P TT D n l.toArray Q (L.take j) s' N (Array.replicate N false) fr L s'):JC P TT D n Q (.region id l.toArray true) fr L s:=qay hm N hN _ (fun _ hx=>List.mem_of_mem_take hx) h
end
end Go.FL
namespace Go.Proofs.YtpdnijphccdiiaaGreatDoor
open Go Go.FL Go.RowKit
def BV(M:Hl)(v:Value)(l:List UInt8):Prop:=FL.Own 5 1 M v l.length (bv l)∧(l=[]→M=[]∧v=.slice none 0 0)
theorem BV.nil:BV [] (.slice none 0 0) []:=⟨Own.nil,fun _=>⟨rfl,rfl⟩⟩
theorem qmM{e:Nat}{M:Hl}{n:Nat}{xs:List Value}(h:FL.Own e 1 M (.slice none 0 0) n xs):M=[]:=by cases h;rfl
theorem BV.app{M M1:Hl}{v v1:Value}{l l2:List UInt8}(h:BV M v l)(o:FL.Own 5 1 M1 v1 (l.length+l2.length) (bv l++bv l2))(hn:v=.slice none 0 0→l2.length=0→v1=.slice none 0 0):BV M1 v1 (l++l2):=by
 have hb:bv (l++l2)=bv l++bv l2:=by simp [bv]
 refine ⟨by rw [hb,List.length_append];exact o,fun h0=>?_⟩
 obtain ⟨h1,h2⟩:=List.append_eq_nil_iff.1 h0
 have hv:=hn (h.2 h1).2 (by rw [h2];rfl)
 subst hv
 exact ⟨qmM o,rfl⟩
theorem BV.cap{M:Hl}{A:Option Addr}{n c:Nat}{l:List UInt8}(h:BV M (.slice A n c) l):A=none∨c≠0:=by
  by_cases h0:l=[]
  · have:=(h.2 h0).2;injection this with e;exact .inl e
  · right
    obtain ⟨_,c',e,h2,_⟩:=Own.slice h.1
    injection e with e1 e2 e3
    have:l.length≠0:=by simpa using h0
    omega
theorem qe9{x a:Nat×Obj}{R R':Hl}(hx:x∈(a::R).take 1):x∈a::R':=by
 simp only [List.take_succ_cons,List.take_zero,List.mem_cons,List.not_mem_nil,or_false] at hx
 rw [hx];exact List.mem_cons_self ..
theorem qfy{x a b:Nat×Obj}{R R':Hl}(hx:x∈(a::b::R).take 2):x∈a::b::R':=by
 simp only [List.take_succ_cons,List.take_zero,List.mem_cons,List.not_mem_nil,or_false] at hx
 rcases hx with rfl | rfl
 · exact List.mem_cons_self ..
 · exact List.mem_cons_of_mem _ Mc
def Wr(bb:Nat)(M:Hl)(l:List UInt8):Prop:=∃ p M0 v,(p=none∨p=some ⟨bb,0,none⟩)∧M=(bb,cb [.pointer p,v] 183)::M0∧BV M0 v l
theorem Wr.mk{bb:Nat}{p:Option Addr}{M0:Hl}{v:Value}{l:List UInt8}(hp:p=none∨p=some ⟨bb,0,none⟩)(h:BV M0 v l):Wr bb ((bb,cb [.pointer p,v] 183)::M0) l:=⟨p,M0,v,hp,rfl,h⟩
open Go Go.FL
theorem qdV{a b:Str}(h:∃ T,b=T++[10]):∃ T,a++b=T++[10]:=by
 obtain ⟨T,rfl⟩:=h
 exact ⟨a++T,(List.append_assoc ..).symm⟩
theorem qi7(k:Int)(nm:Str)(es:List Str):∃ T,qf5 k nm es=T++[10]:=by
 unfold qf5
 repeat' split
 all_goals first
  | exact qdV ⟨[59],rfl⟩
  | exact qdV ⟨[41,59],rfl⟩
theorem qma:∀ (x:Stm) (lv:Nat),∃ T,stT x lv=T++[10]
  | .mk k nm es b [],lv=>by
    simp only [stT]
    by_cases h:k=3∨k=4
    · rw [if_pos h];refine qdV ?_;rw [if_pos (by rfl)];exact ⟨[],rfl⟩
    · rw [if_neg h];exact qi7 ..
  | .mk k nm es b (z::r),lv=>by
    simp only [stT]
    by_cases h:k=3∨k=4
    · rw [if_pos h]
      refine qdV ?_
      rw [if_neg (by simp)]
      by_cases hi:qmy (z::r)=true
      · rw [if_pos hi,st1];exact qdV (qma z lv)
      · rw [if_neg hi];exact qdV ⟨[125],rfl⟩
    · rw [if_neg h];exact qi7 ..
def stI(x:Stm)(lv:Nat):Str:=(stT x lv).dropLast
theorem qmi(x:Stm)(lv:Nat):stI x lv++[10]=stT x lv:=by
 obtain ⟨T,h⟩:=qma x lv
 rw [stI,h,List.dropLast_concat]
theorem qd7{x:Stm}{lv:Nat}{T:Str}(h:stT x lv=T++[10]):stI x lv=T:=by rw [stI,h,List.dropLast_concat]
def otI(e:List Stm)(lv:Nat):Str:=if e.isEmpty=true then [] else if qmy e=true then [32,101,108,115,101,32]++(st1 e lv).dropLast else [32,101,108,115,101,32,123,10]++qdc e (lv+1)++qaO lv++[125]
theorem qvb(e:List Stm)(lv:Nat):(if e.isEmpty=true then [10] else if qmy e=true then [32,101,108,115,101,32]++st1 e lv else [32,101,108,115,101,32,123,10]++qdc e (lv+1)++qaO lv++[125,10])=otI e lv++[10]:=by
  unfold otI
  split
  · rfl
  split
  · rename_i h1 h2
    match e,h2 with
    | [],h2=>exact absurd rfl h1
    | _::_::_,h2=>exact absurd h2 (by simp [qmy])
    | [z],h2 => 
      simp only [st1]
      rw [List.append_assoc]
      exact congrArg _ (qmi z lv).symm
  · simp
theorem qrx(lv:Nat):otI [] lv=[]:=rfl
theorem qtj{e:List Stm}{z:Stm}(lv:Nat)(h:e.length=1)(hz:e[0]?=some z)(hk:z.kind=3):otI e lv=[32,101,108,115,101,32]++stI z lv:=by
 rw [qj3 h hz]
 cases z with
 | mk k nm es b l=>
  have hk:k=3:=hk
  unfold otI
  rw [if_neg (by simp),if_pos (by simp [qmy,hk])];rfl
theorem qmJ{e:List Stm}(lv:Nat)(h0:e.length≠0)(h:¬ (e.length=1∧∀ z,e[0]?=some z→z.kind=3)):otI e lv=[32,101,108,115,101,32,123,10]++qdc e (lv+1)++qaO lv++[125]:=by
 unfold otI
 rw [if_neg (by intro g;exact h0 (by simpa using g)),if_neg]
 intro g
 match e,g with
 | [.mk k nm es b l],g=>exact h ⟨rfl,fun z hz=>by simp at hz;subst hz;show k=3;simpa [qmy] using g⟩
theorem qcI{x:Stm}{lv:Nat}(h:stV x lv=true):lv≤16∧stC x.kind x.name x.exprs.length x.body.length x.els.length=0∧qix x.exprs=true∧qdN x.body (lv+1)=true∧qdN x.els (lv+1)=true:=by
 cases x with
 | mk k nm es b e=>simp only [stV,Bool.and_eq_true,decide_eq_true_eq] at h;exact ⟨h.1.1.1.1,h.1.1.1.2,h.1.1.2,h.1.2,h.2⟩
theorem qpG(x:Stm):stN x=1+qdD x.exprs+qch x.body+qch x.els:=by cases x;rfl
theorem qcl{k:Int}{nm:Str}{ne nb nl:Nat}(h:stC k nm ne nb nl=0):1≤k∧k≤10∧qbO k≤ne∧ne≤qcA k∧(0 < nb→k=3∨k=4)∧(0 < nl→k=3):=by
  unfold stC at h
  split at h
  · cases h
  rename_i h1
  split at h
  · cases h
  split at h
  · cases h
  rename_i h3
  refine ⟨by omega,by omega,?_,?_,?_,?_⟩
  · exact Nat.le_of_not_lt fun hh=>h3 (.inr (.inl hh))
  · exact Nat.le_of_not_lt fun hh=>h3 (.inr (.inr (.inl hh)))
  · intro hb
    by_cases h4:k=3∨k=4
    · exact h4
    · exact absurd (.inr (.inr (.inr (.inl ⟨hb,fun e=>h4 (.inl e),fun e=>h4 (.inr e)⟩)))) h3
  · intro hb
    by_cases h4:k=3
    · exact h4
    · exact absurd (.inr (.inr (.inr (.inr ⟨hb,h4⟩)))) h3
theorem qdy:∀ {l:List Stm} {k lv:Nat} {y:Stm},qdN l lv=true→l[k]?=some y→stV y lv=true∧stN y≤qch l
 | [],_,_,_,_,h=>by cases h
 | x::r,0,lv,y,hv,h=>by
  simp at h;subst h
  simp only [qdN,Bool.and_eq_true] at hv
  exact ⟨hv.1,by rw [qch];omega⟩
 | x::r,k+1,lv,y,hv,h=>by
  simp only [qdN,Bool.and_eq_true] at hv
  have:=qdy hv.2 (show r[k]?=some y by simpa using h)
  exact ⟨this.1,by rw [qch];omega⟩
theorem ql7{l:List Stm}{k lv:Nat}{x:Stm}(h:l[k]?=some x):qdc (l.drop k) lv=qaO lv++stT x lv++qdc (l.drop (k+1)) lv:=by
 obtain ⟨hk,rfl⟩:=List.getElem?_eq_some_iff.1 h
 rw [List.drop_eq_getElem_cons hk,qdc]
section
variable{x:Stm}{y z:Ex}{lv:Nat}
theorem qhq(hv:stV x lv=true)(h:x.kind=1∨x.kind=3∨x.kind=4∨x.kind=6∨x.kind=7∨x.kind=8):x.exprs.length=1:=by
 have ha:=qcl (qcI hv).2.1
 have h1:=ha.2.2.1;have h2:=ha.2.2.2.1
 rcases h with h | h | h | h | h | h <;> (rw [h] at h1 h2;simp [qbO,qcA] at h1 h2;omega)
theorem qud(hv:stV x lv=true)(h:x.kind=2):x.exprs.length=2:=by
 have ha:=qcl (qcI hv).2.1
 have h1:=ha.2.2.1;have h2:=ha.2.2.2.1
 rw [h] at h1 h2;simp [qbO,qcA] at h1 h2;omega
theorem qvF(hv:stV x lv=true)(h:x.kind=5):x.exprs.length≤6:=by
 have ha:=qcl (qcI hv).2.1
 have h2:=ha.2.2.2.1
 rw [h] at h2;simp [qcA] at h2;omega
theorem qsX(hv:stV x lv=true)(h:x.kind=9∨x.kind=10):x.exprs=[]:=by
 have ha:=qcl (qcI hv).2.1
 have h2:=ha.2.2.2.1
 rcases h with h | h <;> (rw [h] at h2;simp [qcA] at h2;exact h2)
theorem quW(hv:stV x lv=true)(h:x.kind≠3):x.els=[]:=by
 have ha:=(qcl (qcI hv).2.1).2.2.2.2.2
 cases he:x.els with
 | nil=>rfl
 | cons a r=>rw [he] at ha;exact absurd (ha (by simp)) h
theorem qd4(h:¬ (x.kind=3∨x.kind=4)):stT x lv=qf5 x.kind x.name (qdt x.exprs []):=by
 cases x with
 | mk k nm es b e=>
  have h:¬ (k=3∨k=4):=h
  simp only [stT];rw [if_neg h];rfl
theorem qgj{l:List Ex}(h:l.length=1)(hy:l[0]?=some y):qdt l []=[exT y 0]:=by rw [qj3 h hy];rfl
theorem qtE{l:List Ex}(h:l.length=2)(hy:l[0]?=some y)(hz:l[1]?=some z):qdt l []=[exT y 0,exT z 0]:=by rw [qui h hy hz];rfl
theorem qvl(h:x.kind=1)(hl:x.exprs.length=1)(hy:x.exprs[0]?=some y):stI x lv=x.name++[32,61,32]++exT y 0++[59]:=qd7 (by
 rw [qd4 O,h,qgj hl hy];simp [qf5])
theorem qvK(h:x.kind=2)(hl:x.exprs.length=2)(hy:x.exprs[0]?=some y)(hz:x.exprs[1]?=some z):stI x lv=x.name++[91]++exT y 0++[93,32,61,32]++exT z 0++[59]:=qd7 (by
 rw [qd4 O,h,qtE hl hy hz];simp [qf5])
theorem qvt(h:x.kind=5):stI x lv=x.name++[40]++qaV (qdt x.exprs [])++[41,59]:=qd7 (by
 rw [qd4 O,h];simp [qf5])
theorem qvh(h:x.kind=6)(hl:x.exprs.length=1)(hy:x.exprs[0]?=some y):stI x lv=[114,101,116,117,114,110,32]++exT y 0++[59]:=qd7 (by
 rw [qd4 O,h,qgj hl hy];simp [qf5,qaV])
theorem qvr(h:x.kind=7)(hl:x.exprs.length=1)(hy:x.exprs[0]?=some y):stI x lv=[112,117,116,32]++exT y 0++[59]:=qd7 (by
 rw [qd4 O,h,qgj hl hy];simp [qf5,qaV])
theorem quV(h:x.kind=8)(hl:x.exprs.length=1)(hy:x.exprs[0]?=some y):stI x lv=[115,116,111,112,32]++exT y 0++[59]:=qd7 (by
 rw [qd4 O,h,qgj hl hy];simp [qf5,qaV])
theorem qvE(h:x.kind=9)(hl:x.exprs=[]):stI x lv=[98,114,101,97,107,59]:=qd7 (by
 rw [qd4 O,h,hl];simp [qf5,qaV,qdt])
theorem qsF(h:x.kind=10)(hl:x.exprs=[]):stI x lv=[99,111,110,116,105,110,117,101,59]:=qd7 (by
 rw [qd4 O,h,hl];simp [qf5,qaV,qdt])
theorem quX(h:x.kind=3)(hl:x.exprs.length=1)(hy:x.exprs[0]?=some y):stI x lv=[105,102,32,40]++exT y 0++[41,32,123,10]++qdc x.body (lv+1)++qaO lv++[125]++otI x.els lv:=qd7 (by
 cases x with
 | mk k nm es b e=>
  have h:k=3:=h
  have hl:es.length=1:=hl
  have hy:es[0]?=some y:=hy
  simp only [stT];rw [if_pos (.inl h),qvb,qgj hl hy,h];simp [Stm.body,Stm.els])
theorem quR(h:x.kind=4)(hl:x.exprs.length=1)(hy:x.exprs[0]?=some y)(he:x.els=[]):stI x lv=[119,104,105,108,101,32,40]++exT y 0++[41,32,123,10]++qdc x.body (lv+1)++qaO lv++[125]:=qd7 (by
 cases x with
 | mk k nm es b e=>
  have h:k=4:=h
  have he:e=[]:=he
  have hl:es.length=1:=hl
  have hy:es[0]?=some y:=hy
  simp only [stT];rw [if_pos (.inr h),qgj hl hy,h,he];simp [Stm.body])
end
open Go.Proofs.Tryz
open Go.FL
attribute [local irreducible] JC JO JA JB qaJ qaw qbM AC fill CellsAt QE Ev Mid
theorem qhV(D:Nat)(L:Hl)(s:World)(bb:Nat)(p:Option Addr)(hp:p=none∨p=some ⟨bb,0,none⟩)(v:Value):AC prog D 186 [.pointer (some ⟨bb,0,none⟩)] ((bb,cb [.pointer p,v] 183)::L) s fun u L' _=>u=.tuple #[]∧L'=(bb,cb [.pointer (some ⟨bb,0,none⟩),v] 183)::L:=by
 refine qai (fn:=f186) qao func186 V Z ntmps186 Z (rs:=[]) Z [(0,_)] Z<|Sr<|Zqm Z Z<|qcd Z Z<|W0 Y5<|Wl 0 Y6<|qac (qt7 underlying179 Z) Z<|Nt<|?_
 refine qcf Z (fun c1=>?_) (fun c1=>?_)
 ·
  obtain rfl:p=none:=by simpa using c1
  refine Zr<|Zqm Z Z<|Zqm Z Z<|qac (qte 0 underlying179 underlying260 Z Z Z Z) Z<|qac (qsn func206 V V V V Z Z) Z<|qac (qou 0 underlying260 underlying179 Z Z Z V) Z<|qcd Z Z<|W0 Y5<|Wt 0 [_,_] Y9<|Zn ?_
  refine qbz [] _ (.inl Z) (.nil) Z (Lr D) fun _ hS2=>?_
  exact ⟨rfl,rfl⟩
 obtain rfl:p=some ⟨bb,0,none⟩:=hp.resolve_left (fun h=>by rw [h] at c1;cases c1)
 refine Sr<|Zqm Z Z<|qcd Z Z<|W0 Y5<|Wl 0 Y6<|Zqm Z Z<|qac (qtI underlying179 Z Z Z) Z<|Nt<|Zz Z<|Zk<|?_
 refine qbz [] _ (.inl Z) (.nil) Z (Lr D) fun _ hS2=>?_
 exact ⟨rfl,rfl⟩
theorem qmj(D:Nat)(L:Hl)(s:World)(bb:Nat)(p:Option Addr)(hp:p=none∨p=some ⟨bb,0,none⟩)(M:Hl)(v:Value)(l:List UInt8)(hb:BV M v l)(l2:List UInt8)(hlen:l.length+l2.length≤140737488355328):AC prog D 158 [.pointer (some ⟨bb,0,none⟩),St l2] ((bb,cb [.pointer p,v] 183)::(M++L)) s fun u L' _=>u=.tuple #[.int .i64 (l2.length:Int),.nilIface]∧∃ M' v',L'=(bb,cb [.pointer (some ⟨bb,0,none⟩),v'] 183)::(M'++L)∧BV M' v' (l++l2):=by
 obtain ⟨Ab,cb1,rfl,kb1,kb2⟩:=Own.slice hb.1
 refine qai (fn:=f158) qao func158 V Z ntmps158 Z (rs:=[.tmp 4,.tmp 5]) Z [(0,_),(1,_)] Z<|Sr<|Zqa Z Z<|At Z Z<|Sr<|Zqm Z Z<|Jc Z Z Z (qhV D _ _ bb p hp _) ?_
 rintro _ _ s1 h1 ⟨rfl,rfl⟩
 refine Nt<|Sr<|Zqm Z Z<|Zqm Z Z<|qcd Z Z<|Wb Y5<|Wl 0 Y6<|Zqm Z Z<|ql4 (sz:=1) (m:=l2.length) (news:=l2.map fun b=>Value.int .u8 (b.toNat:Int)) [_] M L Z Z Z Z Z Z Z hb.1 (by simp) (fun hT w i k1 i1 i2 i3 i4=>qmP l2 k1 underlying9 i1 i2 i3 i4) ⟨by simp [ti5];omega,by omega⟩ Z ?_
 intro v1 M1 s2 h2 o1 n1
 obtain ⟨Av1,cv1,rfl,_,_⟩:=Own.slice o1
 simp only [cQ9,nQ9]
 refine qcd Z Z<|Wb Y5<|Wt 0 [_,_] Y9<|Nt<|Sr<|Zqm Z Z<|qgR Z Z Z Z<|Zqa Z Z<|At Z Z<|Zo<|?_
 refine rR [] _ (.tmp Z (.t1 Z)) Z (h1.t h2) fun _ hS2=>?_
 exact ⟨rfl,M1,_,rfl,hb.app o1 n1⟩
theorem qp7(D:Nat)(L:Hl)(s:World)(bb:Nat)(p:Option Addr)(M:Hl)(v:Value)(l:List UInt8)(hb:BV M v l):AC prog D 119 [.pointer (some ⟨bb,0,none⟩)] ((bb,cb [.pointer p,v] 183)::(M++L)) s fun u L' _=>u=St l∧L'=L:=by
 obtain ⟨Ab,cb1,rfl,kb1,kb2⟩:=Own.slice hb.1
 refine qai (fn:=f119) qao func119 V Z ntmps119 Z (rs:=[.tmp 2]) Z [(0,_)] Z<|Sr<|At Z Z<|Zs<|qa2 qad 12 Z 1 ?_
 intro s1 h1
 refine za 0 Z (qan Z) Z<|za 1 Z (qbx Z) Z<|za 2 Z (We Y4) Z<|za 3 Z (Wd 0 Y5) Z<|za 4 Z (qtW Z hb.cap) Z<|za 5 Z (qan Z) Z<|za 6 Z (qbx Z) Z<|za 7 Z (We Y4) Z<|za 8 Z (Wd 0 Y5) Z<|za 9 Z (qbR Z Z Z) Z<|qax 10 V<|qpY Z Tt [_] M L Z underlying227 V Z Z hb.1 (fun h=>(hb.2 h).1) Z (fun x hx _=>qe9 hx) ?_
 intro s2 h2
 simp only [cQ9,nQ9]
 refine za 11 Z (qaM Z) Z<|qal V<|Zt<|Zo<|?_
 refine rR [_] _ (.t1 Z) Z (h1.t h2) fun _ hS2=>?_
 exact ⟨rfl,rfl⟩
theorem qbe(D:Nat)(L:Hl)(s:World)(bb:Nat)(M:Hl)(l:List UInt8)(hW:Wr bb M l)(l2:List UInt8)(hlen:l.length+l2.length≤140737488355328):AC prog D 158 [.pointer (some ⟨bb,0,none⟩),St l2] (M++L) s fun u L' _=>∃ M',L'=M'++L∧u=.tuple #[.int .i64 (l2.length:Int),.nilIface]∧Wr bb M' (l++l2):=by
 obtain ⟨p,M0,v,hp,rfl,hb⟩:=hW
 refine (qmj D L s bb p hp M0 v l hb l2 hlen).mono ?_
 rintro u L1 s1 _ ⟨h1,M1,v1,h2,h3⟩
 exact ⟨_::M1,h2,h1,Wr.mk (.inr rfl) h3⟩
theorem qoV(D:Nat)(L:Hl)(s:World)(bb:Nat)(M:Hl)(l:List UInt8)(hW:Wr bb M l):AC prog D 119 [.pointer (some ⟨bb,0,none⟩)] (M++L) s fun u L' _=>u=St l∧L=L':=by
 obtain ⟨p,M0,v,hp,rfl,hb⟩:=hW
 refine (qp7 D L s bb p M0 v l hb).mono ?_
 rintro u L1 s1 _ ⟨h1,h2⟩
 exact ⟨h1,h2.symm⟩
theorem qdF(D:Nat)(L:Hl)(s:World)(bb:Nat)(M:Hl)(l:List UInt8)(hW:Wr bb M l)(lv:Nat)(hlv:lv≤17)(hlen:l.length≤2000000000):AC prog D 157 [.pointer (some ⟨bb,0,none⟩),.int .i64 (lv:Int)] (M++L) s fun v L' _=>∃ M',L'=M'++L∧v=.tuple #[]∧Wr bb M' (l++qaO lv):=by
 have hml:=qbL lv
 refine qai (fn:=f157) qao func157 V Z ntmps157 Z (rs:=[]) Z [(0,_),(1,_)] Z<|qa2 qad 6 Z 0 ?_
 intro s1 h1
 refine za 0 Z (qan Z) Z<|za 1 Z (qbx Z) Z<|za 2 Z (qbp Z Z Z Z) Z<|za 3 Z (qan Z) Z<|qax 4 V<|Jb Z Tt Z Z Z (qlv D _ _ [32,32] lv O (by simp;omega)) ?_
 rintro _ _ s2 h2 ⟨rfl,rfl⟩
 refine ⟨fun _ _ h=>h,?_⟩
 rw [qg0]
 refine qax 5 V<|Jb Z Tt Z Z Z (qbe D _ _ bb M l hW _ Ut) ?_
 rintro _ _ s3 h3 ⟨M1,rfl,rfl,hW1⟩
 refine ⟨(fun _ hx _=>by cases hx),?_⟩
 refine qal V ?_
 refine qbz [] _ (.inl Z) (.nil) Z (h1.t h2|>.t h3) fun _ hS2=>?_
 exact ⟨_,rfl,rfl,hW1⟩
theorem qdM(D:Nat)(L:Hl)(s:World)(bb:Nat)(M:Hl)(l:List UInt8)(hW:Wr bb M l)(lv:Nat)(hlv:lv≤17)(t:List UInt8)(hlen:l.length+t.length≤1000000000):AC prog D 114 [.pointer (some ⟨bb,0,none⟩),.int .i64 (lv:Int),St t] (M++L) s fun v L' _=>∃ M',L'=M'++L∧v=.tuple #[]∧Wr bb M' (l++(qaO lv++t++[10])):=by
 have hml:=qbL lv
 refine qai (fn:=f114) qao func114 V Z ntmps114 Z (rs:=[]) Z [(0,_),(1,_),(2,_)] Z<|Sr<|Zqm Z Z<|Zqm Z Z<|Jc Z Z Z (qdF D _ _ bb M l hW lv hlv O) ?_
 rintro _ _ s1 h1 ⟨M1,rfl,rfl,hW1⟩
 refine Nt<|Zr<|Zqm Z Z<|qcd Z Z<|W0 Y5<|Zqm Z Z<|qac (qaf Z Z Uo) Z<|Jc Z Z Z (qbe D _ _ bb M1 (l++qaO lv) hW1 _ Ut) ?_
 rintro _ _ s2 h2 ⟨M2,rfl,rfl,hW2⟩
 refine Zn ?_
 refine qbz [] _ (.inl Z) (.nil) Z (h1.t h2) fun _ hS2=>?_
 exact ⟨_,rfl,rfl,by simpa only [List.append_assoc] using hW2⟩
def BDC(D d:Nat):Prop:=∀ (L:Hl) (s:World),GP s→∀ (bb:Nat) (M:Hl) (l:List UInt8),Wr bb M l→∀ (A:Option Addr) (n c:Nat) (xs:List Stm) (lv:Nat),Stms d s A n c xs→qdN xs lv=true→qch xs≤2000→lv≤17→l.length+(qdc xs lv).length≤1000000000→AC prog D 118 [.pointer (some ⟨bb,0,none⟩),.slice A n c,.int .i64 (lv:Int)] (M++L) s fun v L' _=>∃ M',L'=M'++L∧v=.tuple #[]∧Wr bb M' (l++qdc xs lv)
def OTC(D d:Nat):Prop:=∀ (L:Hl) (s:World),GP s→∀ (bb:Nat) (M:Hl) (l:List UInt8),Wr bb M l→∀ (A:Option Addr) (n c:Nat) (xs:List Stm) (lv:Nat),Stms d s A n c xs→qdN xs (lv+1)=true→qch xs≤2000→lv≤16→l.length+(otI xs lv).length≤1000000000→AC prog D 190 [.pointer (some ⟨bb,0,none⟩),.slice A n c,.int .i64 (lv:Int)] (M++L) s fun v L' _=>∃ M',L'=M'++L∧v=.tuple #[]∧Wr bb M' (l++otI xs lv)
def STC(D d:Nat):Prop:=∀ (L:Hl) (s:World),GP s→∀ (bb:Nat) (M:Hl) (l:List UInt8),Wr bb M l→∀ (A1 A2 A3:Option Addr) (n1 c1 n2 c2 n3 c3:Nat) (x:Stm) (lv:Nat),Exs d s A1 n1 c1 x.exprs→Stms d s A2 n2 c2 x.body→Stms d s A3 n3 c3 x.els→stV x lv=true→stN x≤2000→l.length+(stI x lv).length≤1000000000→AC prog D 161 [.pointer (some ⟨bb,0,none⟩),.agg #[.int .i64 x.kind,St x.name,.slice A1 n1 c1,.slice A2 n2 c2,.slice A3 n3 c3],.int .i64 (lv:Int)] (M++L) s fun v L' _=>∃ M',L'=M'++L∧v=.tuple #[]∧Wr bb M' (l++stI x lv)
theorem qgx(D d:Nat)(ih:∀ e,d=e+1→STC D e)(L:Hl)(s:World)(hG:GP s)(bb:Nat)(M:Hl)(l:List UInt8)(hW:Wr bb M l)(A:Option Addr)(n c:Nat)(xs:List Stm)(lv:Nat)(hA:Stms d s A n c xs)(hv:qdN xs lv=true)(hN:qch xs≤2000)(hlv:lv≤17)(hlen:l.length+(qdc xs lv).length≤1000000000):AC prog D 118 [.pointer (some ⟨bb,0,none⟩),.slice A n c,.int .i64 (lv:Int)] (M++L) s fun v L' _=>∃ M',L'=M'++L∧v=.tuple #[]∧Wr bb M' (l++qdc xs lv):=by
 have hn:=hA.1
 have hc1:=hA.2.1
 have hc2:=hA.2.2.1
 have hml:=qbL lv
 refine qai (fn:=f118) qao func118 V Z ntmps118 Z (rs:=[]) Z [(0,_),(1,_),(2,_)] Z<|Sr<|Zqm Z Z<|Ws Y4<|Zqm Z Z<|Nt<|Zp<|?_
 refine qav (γ:=Nat×Hl×List UInt8) (fun g=>[(0,_),(2,_),(8,_),(9,_),(10,.int .i64 (g.1:Int))]) (fun g=>g.2.1++L) (fun g tw=>Le D s tw∧(g.1≤n∧Wr bb g.2.1 g.2.2∧g.2.2++qdc (xs.drop g.1) lv=l++qdc xs lv)) (fun g=>n - g.1) (fun _ _ _ h hl=>⟨h.1.trans hl,h.2⟩) (0,M,l) (.c5 Z Z Z Z Z (.nil _)) Z ⟨Le.refl _,⟨Nat.zero_le _,hW,Z⟩⟩ ?_
 intro g s1 I1
 obtain ⟨k,Mo,lo⟩:=g
 obtain ⟨hk0,hWo,hS⟩:=I1.2
 simp only at hk0 hWo hS
 dsimp only
 have hle:=congrArg List.length hS
 simp only [List.length_append] at hle
 refine Sr<|qbh Z Z Z<|Nt<|Zs<|?_
 refine qaa Z (fun c2=>?_) (fun c2=>?_)
 ·
  have hk:k < n:=by omega
  obtain ⟨e,b,off,x,A1,n1,c1,A2,n2,c2,A3,n3,c3,hd,rfl,hx,hcx,hax,hbx,hex,hnl⟩:=Stms.at_ (hA.le I1.1) hk
  obtain ⟨hvx,hNx⟩:=qdy hv hx
  have hs1:=congrArg List.length (ql7 (lv:=lv) hx)
  have hs2:=congrArg List.length (qmi x lv)
  simp only [List.length_append,List.length_cons,List.length_nil] at hs1 hs2
  refine Zk<|Zt<|Zs<|Zp<|Sr<|qac (qap Z Z Z Z Z Z hk) Z<|qac (qau Z Z Z (hcx.le (Lr D)) Z) Z<|qaj Z [_,_,_,_,_] Z Z ?_
  intro β3 s3 h3
  refine Wt 0 [_,_,_,_,_] Y9<|Nt<|Sr<|Zqm Z Z<|Zqm Z Z<|Jc Z Z Z (AC.mid [_] Mo L (qdF D _ _ bb Mo lo hWo lv hlv O)) ?_
  rintro _ _ s4 h4 ⟨M1,rfl,rfl,hW1⟩
  simp only [cQ9,nQ9]
  refine Nt<|Sr<|Zqm Z Z<|qac (qag 0 [_,_,_,_,_] Z Z Z Z Z) Z<|Zqm Z Z<|Jc Z Z Z (AC.mid [_] M1 L (ih e hd _ _ (hG.le (I1.1.t h3|>.t h4)) bb M1 (lo++qaO lv) hW1 A1 A2 A3 n1 c1 n2 c2 n3 c3 x lv (hax.le (h3.t h4)) (hbx.le (h3.t h4)) (hex.le (h3.t h4)) hvx O (by simp only [List.length_append];omega))) ?_
  rintro _ _ s5 h5 ⟨M2,rfl,rfl,hW2⟩
  simp only [cQ9,nQ9]
  refine Nt<|Zr<|Zqm Z Z<|qcd Z Z<|W0 Y5<|Jc Z Z Z (AC.mid [_] M2 L (qbe D _ _ bb M2 ((lo++qaO lv)++stI x lv) hW2 [10] Ut)) ?_
  rintro _ _ s6 h6 ⟨M3,rfl,rfl,hW3⟩
  simp only [cQ9,nQ9]
  refine Zn<|Zb<|Zt<|Zr<|qaF Z Z Z (w64 O O)<|Zqm Z Z<|Zn<|?_
  refine qab ⟨(k+1,M3,((lo++qaO lv)++stI x lv)++[10]),[_],kp,Z,⟨(I1.1.t h3|>.t h4|>.t h5|>.t h6),⟨by simp only;omega,hW3,by simp only;rw [← hS,ql7 hx,← qmi x lv];simp only [List.append_assoc]⟩⟩,Oz⟩
 rw [List.drop_eq_nil_of_le O,qdc,List.append_nil] at hS
 refine Zl<|Zv<|Zv<|Zd<|?_
 refine qbz [] _ (.inl Z) (.nil) Z I1.1 fun _ hS2=>?_
 exact ⟨_,rfl,rfl,hS▸hWo⟩
theorem qgc(D d:Nat)(ih:∀ e,d=e+1→STC D e)(hB:BDC D d)(L:Hl)(s:World)(hG:GP s)(bb:Nat)(M:Hl)(l:List UInt8)(hW:Wr bb M l)(A:Option Addr)(n c:Nat)(xs:List Stm)(lv:Nat)(hA:Stms d s A n c xs)(hv:qdN xs (lv+1)=true)(hN:qch xs≤2000)(hlv:lv≤16)(hlen:l.length+(otI xs lv).length≤1000000000):AC prog D 190 [.pointer (some ⟨bb,0,none⟩),.slice A n c,.int .i64 (lv:Int)] (M++L) s fun v L' _=>∃ M',L'=M'++L∧v=.tuple #[]∧Wr bb M' (l++otI xs lv):=by
 have hn:=hA.1
 have hc1:=hA.2.1
 have hc2:=hA.2.2.1
 have hml:=qbL lv
 refine qai (fn:=f190) qao func190 V Z ntmps190 Z (rs:=[]) Z [(0,_),(1,_),(2,_)] Z<|Zp<|Sr<|Zqm Z Z<|Ws Y4<|qar Z Z Z<|At Z Z<|?_
 refine qaa Z (fun c1=>?_) (fun c1=>?_)
 ·
  obtain rfl:xs=[]:=List.eq_nil_of_length_eq_zero O
  refine Zk<|Zb<|?_
  refine qbz [] _ (.inl Z) (.nil) Z (Lr D) fun _ hS2=>?_
  exact ⟨_,rfl,rfl,by rw [qrx,List.append_nil];exact hW⟩
 have g0:xs.length≠0:=by omega
 obtain ⟨e,b,off,z,A1,n1,c1,A2,n2,c2,A3,n3,c3,hd,rfl,hz,hcz,haz,hbz,hez,hnl⟩:=Stms.at_ (hA.le (Lr D)) (show 0 < n by omega)
 obtain ⟨hvz,hNz⟩:=qdy hv hz
 refine qaU 26 (n=1∧z.kind=3) ?_ ?_
 ·
  refine Zr<|Zqm Z Z<|Ws Y4<|qar Z Z Z<|Zqm Z Z<|?_
  refine qak (t:=30) Z (fun c3=>?_) (fun c3=>?_)
  ·
   refine Zg Z Z<|Zqm Z Z<|Zg Z Z<|qac (qap (j:=0) Z Z Z Z Z Z O) Z<|Zg Z Z<|W0 Y5<|Zg Z Z<|qac (qah Z Z Z (hcz.le (Lr D)) Z) Z<|Zg Z Z<|qar Z Z Z<|ZqT Z Z Z<|Zqa Z Z<|Zn<|?_
   refine qab (MidB.mk (Lr D) Sb Z (decide_eq_decide.2 O))
  refine Wf Y4<|Wf Y4<|Wf Y4<|Wf Y4<|Wf Y4<|ZqF Z Z Z<|Zqa Z Z<|Zn<|?_
  refine qab (MidB.mk (Lr D) Sb Z ((decide_eq_false O).symm))
 intro s2 h2
 refine qaa Z (fun c4=>?_) (fun c4=>?_)
 ·
  have g3:=c4
  have hT:=qtj lv O hz g3.2
  rw [hT] at hlen
  simp only [List.length_append,List.length_cons,List.length_nil] at hlen
  have hvz2:=qem z lv (lv+1) O hvz
  refine Sr<|Zqm Z Z<|qcd Z Z<|W0 Y5<|Jc Z Z Z (qbe D _ _ bb M l hW [32,101,108,115,101,32] Ut) ?_
  rintro _ _ s5 h5 ⟨M1,rfl,rfl,hW1⟩
  refine Nt<|Zr<|Zqm Z Z<|Zqm Z Z<|qac (qap (j:=0) Z Z Z Z Z Z O) Z<|qac (qau Z Z Z (hcz.le (h2.t h5)) Z) Z<|Zqm Z Z<|Jc Z Z Z (ih e hd _ _ (hG.le (h2.t h5)) bb M1 _ hW1 A1 A2 A3 n1 c1 n2 c2 n3 c3 z lv (haz.le (h2.t h5)) (hbz.le (h2.t h5)) (hez.le (h2.t h5)) hvz2 O Uo) ?_
  rintro _ _ s6 h6 ⟨M2,rfl,rfl,hW2⟩
  refine Zn<|Zb<|?_
  refine qbz [] _ (.inl Z) (.nil) Z (h2.t h5|>.t h6) fun _ hS2=>?_
  exact ⟨_,rfl,rfl,by rw [hT];simpa only [List.append_assoc] using hW2⟩
 have g3:=c4
 have hT:=qmJ (e:=xs) lv g0 (fun h=>g3 ⟨by omega,h.2 z hz⟩)
 rw [hT] at hlen
 simp only [List.length_append,List.length_cons,List.length_nil] at hlen
 refine Sr<|Zqm Z Z<|qcd Z Z<|W0 Y5<|Jc Z Z Z (qbe D _ _ bb M l hW [32,101,108,115,101,32,123,10] Ut) ?_
 rintro _ _ s7 h7 ⟨M1,rfl,rfl,hW1⟩
 refine Nt<|Sr<|Zqm Z Z<|Zqm Z Z<|Zqm Z Z<|qac (qaR Z Z (show IntKind.i64.wrap ((lv:Int)+1)=((lv+1:Nat):Int) by rw [w64 O O];simp)) Z<|Jc Z Z Z (hB _ _ (hG.le (h2.t h7)) bb M1 _ hW1 _ n c xs (lv+1) (hA.le (h2.t h7)) hv hN O Uo) ?_
 rintro _ _ s8 h8 ⟨M2,rfl,rfl,hW2⟩
 refine Nt<|Sr<|Zqm Z Z<|Zqm Z Z<|Jc Z Z Z (qdF D _ _ bb M2 _ hW2 lv O Uo) ?_
 rintro _ _ s9 h9 ⟨M3,rfl,rfl,hW3⟩
 refine Nt<|Zr<|Zqm Z Z<|qcd Z Z<|W0 Y5<|Jc Z Z Z (qbe D _ _ bb M3 _ hW3 [125] Ut) ?_
 rintro _ _ s10 h10 ⟨M4,rfl,rfl,hW4⟩
 refine Zn<|Zb<|?_
 refine qbz [] _ (.inl Z) (.nil) Z (h2.t h7|>.t h8|>.t h9|>.t h10) fun _ hS2=>?_
 exact ⟨_,rfl,rfl,by rw [hT];simpa only [List.append_assoc] using hW4⟩
theorem qiC(D d:Nat)(hB:BDC D d)(hO:OTC D d)(L:Hl)(s:World)(hG:GP s)(bb:Nat)(M:Hl)(l:List UInt8)(hW:Wr bb M l)(A1 A2 A3:Option Addr)(n1 c1 n2 c2 n3 c3:Nat)(x:Stm)(lv:Nat)(hA1:Exs d s A1 n1 c1 x.exprs)(hA2:Stms d s A2 n2 c2 x.body)(hA3:Stms d s A3 n3 c3 x.els)(hv:stV x lv=true)(hN:stN x≤2000)(hlen:l.length+(stI x lv).length≤1000000000):AC prog D 161 [.pointer (some ⟨bb,0,none⟩),.agg #[.int .i64 x.kind,St x.name,.slice A1 n1 c1,.slice A2 n2 c2,.slice A3 n3 c3],.int .i64 (lv:Int)] (M++L) s fun v L' _=>∃ M',L'=M'++L∧v=.tuple #[]∧Wr bb M' (l++stI x lv):=by
 have hn:=hA1.1
 have hml:=qbL lv
 obtain ⟨hlv,hC,hvE,hvB,hvL⟩:=qcI hv
 have hka:=qcl hC
 have hNs:=qpG x
 refine qai (fn:=f161) qao func161 V Z ntmps161 Z (rs:=[]) Z [(0,_),(1,_),(2,_)] Z<|Sr<|qaq Z Z ?_
 intro β1 s1 h1
 refine Nt<|Sr<|W0 Y5<|Wl 0 Y6<|Nt<|Zp<|Sr<|qar Z Z Z<|At Z Z<|?_
 refine qaa Z (fun c2=>?_) (fun c2=>?_)
 ·
  have hl1:=qhq hv (.inl c2)
  obtain ⟨e,b,off,y,Ay,ny,cy,hd,rfl,hy,hcy,hay,huy,hnl⟩:=Exs.at_ (hA1.le h1) (show 0 < n1 by omega)
  obtain ⟨hvy,hNy⟩:=qbW hvE hy
  have hT:=qvl (lv:=lv) c2 hl1 hy
  rw [hT] at hlen
  simp only [List.length_append,List.length_cons,List.length_nil] at hlen
  refine qa2 qad 14 Z 1 ?_
  intro s3 h3
  refine za 0 Z (qan Z) Z<|za 1 Z (qbx Z) Z<|za 2 Z (qbp Z Z Z Z) Z<|za 3 Z (We Y4) Z<|za 4 Z (Wd 0 Y5) Z<|za 5 Z (qaf Z Z Uo) Z<|za 6 Z (We Y4) Z<|za 7 Z (Wd 0 Y5) Z<|za 8 Z (qap (j:=0) Z Z Z Z Z Z O) Z<|za 9 Z (qau Z Z Z (hcy.le h3) Z) Z<|qax 10 V<|Jb Z Tt Z Z Z (qck D _ _ _ (hG.le (h1.t h3)) y Ay ny cy (hay.le h3) huy hvy O) ?_
  rintro _ _ s4 h4 ⟨rfl,rfl⟩
  refine ⟨fun _ _ h=>h,?_⟩
  refine za 11 Z (qaf Z Z Uo) Z<|za 12 Z (qaf Z Z Uo) Z<|qax 13 V<|Jb Z Tt Z Z Z (AC.mid [_] M L (qbe D _ _ bb M l hW _ Ut)) ?_
  rintro _ _ s5 h5 ⟨M1,rfl,rfl,hW1⟩
  refine ⟨(fun x hx _=>qe9 hx),?_⟩
  simp only [cQ9,nQ9]
  refine qal V<|Zb ?_
  refine qbz [_] _ (.inl Z) (.nil) Z (h1.t h3|>.t h4|>.t h5) fun _ hS2=>?_
  exact ⟨_,rfl,rfl,by rw [hT];exact hW1⟩
 refine Sr<|qar Z Z Z<|At Z Z<|?_
 refine qaa Z (fun c6=>?_) (fun c6=>?_)
 ·
  have hl2:=qud hv c6
  obtain ⟨e,b,off,y,Ay,ny,cy,hd,rfl,hy,hcy,hay,huy,hnl⟩:=Exs.at_ (hA1.le h1) (show 0 < n1 by omega)
  obtain ⟨hvy,hNy⟩:=qbW hvE hy
  obtain ⟨e',b',off',z,Az,nz,cz,hd2,hab,hz,hcz,haz,huz,hnz⟩:=Exs.at_ (hA1.le h1) (show 1 < n1 by omega)
  cases hab
  obtain ⟨hvz,hNz⟩:=qbW hvE hz
  have hT:=qvK (lv:=lv) c6 hl2 hy hz
  rw [hT] at hlen
  simp only [List.length_append,List.length_cons,List.length_nil] at hlen
  refine qa2 qad 21 Z 1 ?_
  intro s7 h7
  refine za 0 Z (qan Z) Z<|za 1 Z (qbx Z) Z<|za 2 Z (qbp Z Z Z Z) Z<|za 3 Z (We Y4) Z<|za 4 Z (Wd 0 Y5) Z<|za 5 Z (qaf Z Z Uo) Z<|za 6 Z (We Y4) Z<|za 7 Z (Wd 0 Y5) Z<|za 8 Z (qap (j:=0) Z Z Z Z Z Z O) Z<|za 9 Z (qau Z Z Z (hcy.le h7) Z) Z<|za 13 Z (We Y4) Z<|za 14 Z (Wd 0 Y5) Z<|za 15 Z (qap (j:=1) Z Z Z Z Z Z O) Z<|za 16 Z (qau Z Z Z (hcz.le h7) Z) Z<|qax 10 V<|Jb Z Tt Z Z Z (qck D _ _ _ (hG.le (h1.t h7)) y Ay ny cy (hay.le h7) huy hvy O) ?_
  rintro _ _ s8 h8 ⟨rfl,rfl⟩
  refine ⟨fun _ _ h=>h,?_⟩
  refine za 11 Z (qaf Z Z Uo) Z<|za 12 Z (qaf Z Z Uo) Z<|qax 17 V<|Jb Z Tt Z Z Z (qck D _ _ _ (hG.le (h1.t h7|>.t h8)) z Az nz cz (haz.le (h7.t h8)) huz hvz O) ?_
  rintro _ _ s9 h9 ⟨rfl,rfl⟩
  refine ⟨fun _ _ h=>h,?_⟩
  refine za 18 Z (qaf Z Z Uo) Z<|za 19 Z (qaf Z Z Uo) Z<|qax 20 V<|Jb Z Tt Z Z Z (AC.mid [_] M L (qbe D _ _ bb M l hW _ Ut)) ?_
  rintro _ _ s10 h10 ⟨M1,rfl,rfl,hW1⟩
  refine ⟨(fun x hx _=>qe9 hx),?_⟩
  simp only [cQ9,nQ9]
  refine qal V<|Zb ?_
  refine qbz [_] _ (.inl Z) (.nil) Z (h1.t h7|>.t h8|>.t h9|>.t h10) fun _ hS2=>?_
  exact ⟨_,rfl,rfl,by rw [hT];exact hW1⟩
 refine Sr<|qar Z Z Z<|At Z Z<|?_
 refine qaa Z (fun c11=>?_) (fun c11=>?_)
 ·
  have hl1:=qhq hv (.inr (.inl c11))
  obtain ⟨e,b,off,y,Ay,ny,cy,hd,rfl,hy,hcy,hay,huy,hnl⟩:=Exs.at_ (hA1.le h1) (show 0 < n1 by omega)
  obtain ⟨hvy,hNy⟩:=qbW hvE hy
  have hT:=quX (lv:=lv) c11 hl1 hy
  rw [hT] at hlen
  simp only [List.length_append,List.length_cons,List.length_nil] at hlen
  refine Zs<|qa2 qad 11 Z 1 ?_
  intro s12 h12
  refine za 0 Z (qan Z) Z<|za 1 Z (qbx Z) Z<|za 2 Z (qbp Z Z Z Z) Z<|za 3 Z (We Y4) Z<|za 4 Z (Wd 0 Y5) Z<|za 5 Z (qap (j:=0) Z Z Z Z Z Z O) Z<|za 6 Z (qau Z Z Z (hcy.le h12) Z) Z<|qax 7 V<|Jb Z Tt Z Z Z (qck D _ _ _ (hG.le (h1.t h12)) y Ay ny cy (hay.le h12) huy hvy O) ?_
  rintro _ _ s13 h13 ⟨rfl,rfl⟩
  refine ⟨fun _ _ h=>h,?_⟩
  refine za 8 Z (qaf Z Z Uo) Z<|za 9 Z (qaf Z Z Uo) Z<|qax 10 V<|Jb Z Tt Z Z Z (AC.mid [_] M L (qbe D _ _ bb M l hW _ Ut)) ?_
  rintro _ _ s14 h14 ⟨M1,rfl,rfl,hW1⟩
  refine ⟨(fun x hx _=>qe9 hx),?_⟩
  simp only [cQ9,nQ9]
  refine qal V<|Zt<|Sr<|Zqm Z Z<|Wb Y5<|Wl 0 Y6<|Zqm Z Z<|qac (qaR Z Z (show IntKind.i64.wrap ((lv:Int)+1)=((lv+1:Nat):Int) by rw [w64 O O];simp)) Z<|Jc Z Z Z (AC.mid [_] M1 L (hB _ _ (hG.le (h1.t h12|>.t h13|>.t h14)) bb M1 _ hW1 _ _ _ x.body (lv+1) (hA2.le (h1.t h12|>.t h13|>.t h14)) hvB O O Uo)) ?_
  rintro _ _ s15 h15 ⟨M2,rfl,rfl,hW2⟩
  simp only [cQ9,nQ9]
  refine Nt<|Sr<|Zqm Z Z<|Zqm Z Z<|Jc Z Z Z (AC.mid [_] M2 L (qdF D _ _ bb M2 _ hW2 lv O Uo)) ?_
  rintro _ _ s16 h16 ⟨M3,rfl,rfl,hW3⟩
  simp only [cQ9,nQ9]
  refine Nt<|Sr<|Zqm Z Z<|qcd Z Z<|W0 Y5<|Jc Z Z Z (AC.mid [_] M3 L (qbe D _ _ bb M3 _ hW3 [125] Ut)) ?_
  rintro _ _ s17 h17 ⟨M4,rfl,rfl,hW4⟩
  simp only [cQ9,nQ9]
  refine Nt<|Zr<|Zqm Z Z<|Wb Y5<|Wl 0 Y6<|Zqm Z Z<|Jc Z Z Z (AC.mid [_] M4 L (hO _ _ (hG.le (h1.t h12|>.t h13|>.t h14|>.t h15|>.t h16|>.t h17)) bb M4 _ hW4 _ _ _ x.els lv (hA3.le (h1.t h12|>.t h13|>.t h14|>.t h15|>.t h16|>.t h17)) hvL O hlv Uo)) ?_
  rintro _ _ s18 h18 ⟨M5,rfl,rfl,hW5⟩
  simp only [cQ9,nQ9]
  refine Zn<|Zb<|?_
  refine qbz [_] _ (.inl Z) (.nil) Z (h1.t h12|>.t h13|>.t h14|>.t h15|>.t h16|>.t h17|>.t h18) fun _ hS2=>?_
  exact ⟨_,rfl,rfl,by rw [hT];simpa only [List.append_assoc] using hW5⟩
 refine Sr<|qar Z Z Z<|At Z Z<|?_
 refine qaa Z (fun c19=>?_) (fun c19=>?_)
 ·
  have hle:=quW hv (show x.kind≠3 by omega)
  have hl1:=qhq hv (.inr (.inr (.inl c19)))
  obtain ⟨e,b,off,y,Ay,ny,cy,hd,rfl,hy,hcy,hay,huy,hnl⟩:=Exs.at_ (hA1.le h1) (show 0 < n1 by omega)
  obtain ⟨hvy,hNy⟩:=qbW hvE hy
  have hT:=quR (lv:=lv) c19 hl1 hy hle
  rw [hT] at hlen
  simp only [List.length_append,List.length_cons,List.length_nil] at hlen
  refine Zs<|qa2 qad 11 Z 1 ?_
  intro s20 h20
  refine za 0 Z (qan Z) Z<|za 1 Z (qbx Z) Z<|za 2 Z (qbp Z Z Z Z) Z<|za 3 Z (We Y4) Z<|za 4 Z (Wd 0 Y5) Z<|za 5 Z (qap (j:=0) Z Z Z Z Z Z O) Z<|za 6 Z (qau Z Z Z (hcy.le h20) Z) Z<|qax 7 V<|Jb Z Tt Z Z Z (qck D _ _ _ (hG.le (h1.t h20)) y Ay ny cy (hay.le h20) huy hvy O) ?_
  rintro _ _ s21 h21 ⟨rfl,rfl⟩
  refine ⟨fun _ _ h=>h,?_⟩
  refine za 8 Z (qaf Z Z Uo) Z<|za 9 Z (qaf Z Z Uo) Z<|qax 10 V<|Jb Z Tt Z Z Z (AC.mid [_] M L (qbe D _ _ bb M l hW _ Ut)) ?_
  rintro _ _ s22 h22 ⟨M1,rfl,rfl,hW1⟩
  refine ⟨(fun x hx _=>qe9 hx),?_⟩
  simp only [cQ9,nQ9]
  refine qal V<|Zt<|Sr<|Zqm Z Z<|Wb Y5<|Wl 0 Y6<|Zqm Z Z<|qac (qaR Z Z (show IntKind.i64.wrap ((lv:Int)+1)=((lv+1:Nat):Int) by rw [w64 O O];simp)) Z<|Jc Z Z Z (AC.mid [_] M1 L (hB _ _ (hG.le (h1.t h20|>.t h21|>.t h22)) bb M1 _ hW1 _ _ _ x.body (lv+1) (hA2.le (h1.t h20|>.t h21|>.t h22)) hvB O O Uo)) ?_
  rintro _ _ s23 h23 ⟨M2,rfl,rfl,hW2⟩
  simp only [cQ9,nQ9]
  refine Nt<|Sr<|Zqm Z Z<|Zqm Z Z<|Jc Z Z Z (AC.mid [_] M2 L (qdF D _ _ bb M2 _ hW2 lv O Uo)) ?_
  rintro _ _ s24 h24 ⟨M3,rfl,rfl,hW3⟩
  simp only [cQ9,nQ9]
  refine Nt<|Zr<|Zqm Z Z<|qcd Z Z<|W0 Y5<|Jc Z Z Z (AC.mid [_] M3 L (qbe D _ _ bb M3 _ hW3 [125] Ut)) ?_
  rintro _ _ s25 h25 ⟨M4,rfl,rfl,hW4⟩
  simp only [cQ9,nQ9]
  refine Zn<|Zb<|?_
  refine qbz [_] _ (.inl Z) (.nil) Z (h1.t h20|>.t h21|>.t h22|>.t h23|>.t h24|>.t h25) fun _ hS2=>?_
  exact ⟨_,rfl,rfl,by rw [hT];simpa only [List.append_assoc] using hW4⟩
 refine Sr<|qar Z Z Z<|At Z Z<|?_
 refine qaa Z (fun c26=>?_) (fun c26=>?_)
 ·
  have hl5:=qvF hv c26
  have hT:=qvt (lv:=lv) c26
  rw [hT] at hlen
  simp only [List.length_append,List.length_cons,List.length_nil] at hlen
  refine qa2 qad 12 Z 1 ?_
  intro s27 h27
  refine za 0 Z (qan Z) Z<|za 1 Z (qbx Z) Z<|za 2 Z (qbp Z Z Z Z) Z<|za 3 Z (We Y4) Z<|za 4 Z (Wd 0 Y5) Z<|za 5 Z (qaf Z Z Uo) Z<|za 6 Z (We Y4) Z<|za 7 Z (Wd 0 Y5) Z<|qax 8 V<|Jb Z Tt Z Z Z (qom D d _ _ (hG.le (h1.t h27)) _ _ _ x.exprs (hA1.le (h1.t h27)) hvE O O) ?_
  rintro _ _ s28 h28 ⟨rfl,rfl⟩
  refine ⟨fun _ _ h=>h,?_⟩
  refine za 9 Z (qaf Z Z Uo) Z<|za 10 Z (qaf Z Z Uo) Z<|qax 11 V<|Jb Z Tt Z Z Z (AC.mid [_] M L (qbe D _ _ bb M l hW _ Ut)) ?_
  rintro _ _ s29 h29 ⟨M1,rfl,rfl,hW1⟩
  refine ⟨(fun x hx _=>qe9 hx),?_⟩
  simp only [cQ9,nQ9]
  refine qal V<|Zb ?_
  refine qbz [_] _ (.inl Z) (.nil) Z (h1.t h27|>.t h28|>.t h29) fun _ hS2=>?_
  exact ⟨_,rfl,rfl,by rw [hT];exact hW1⟩
 refine Sr<|qar Z Z Z<|At Z Z<|?_
 refine qaa Z (fun c30=>?_) (fun c30=>?_)
 ·
  have hl1:=qhq hv (.inr (.inr (.inr (.inl c30))))
  obtain ⟨e,b,off,y,Ay,ny,cy,hd,rfl,hy,hcy,hay,huy,hnl⟩:=Exs.at_ (hA1.le h1) (show 0 < n1 by omega)
  obtain ⟨hvy,hNy⟩:=qbW hvE hy
  have hT:=qvh (lv:=lv) c30 hl1 hy
  rw [hT] at hlen
  simp only [List.length_append,List.length_cons,List.length_nil] at hlen
  refine qa2 qad 11 Z 1 ?_
  intro s31 h31
  refine za 0 Z (qan Z) Z<|za 1 Z (qbx Z) Z<|za 2 Z (qbp Z Z Z Z) Z<|za 3 Z (We Y4) Z<|za 4 Z (Wd 0 Y5) Z<|za 5 Z (qap (j:=0) Z Z Z Z Z Z O) Z<|za 6 Z (qau Z Z Z (hcy.le h31) Z) Z<|qax 7 V<|Jb Z Tt Z Z Z (qck D _ _ _ (hG.le (h1.t h31)) y Ay ny cy (hay.le h31) huy hvy O) ?_
  rintro _ _ s32 h32 ⟨rfl,rfl⟩
  refine ⟨fun _ _ h=>h,?_⟩
  refine za 8 Z (qaf Z Z Uo) Z<|za 9 Z (qaf Z Z Uo) Z<|qax 10 V<|Jb Z Tt Z Z Z (AC.mid [_] M L (qbe D _ _ bb M l hW _ Ut)) ?_
  rintro _ _ s33 h33 ⟨M1,rfl,rfl,hW1⟩
  refine ⟨(fun x hx _=>qe9 hx),?_⟩
  simp only [cQ9,nQ9]
  refine qal V<|Zb ?_
  refine qbz [_] _ (.inl Z) (.nil) Z (h1.t h31|>.t h32|>.t h33) fun _ hS2=>?_
  exact ⟨_,rfl,rfl,by rw [hT];exact hW1⟩
 refine Sr<|qar Z Z Z<|At Z Z<|?_
 refine qaa Z (fun c34=>?_) (fun c34=>?_)
 ·
  have hl1:=qhq hv (.inr (.inr (.inr (.inr (.inl c34)))))
  obtain ⟨e,b,off,y,Ay,ny,cy,hd,rfl,hy,hcy,hay,huy,hnl⟩:=Exs.at_ (hA1.le h1) (show 0 < n1 by omega)
  obtain ⟨hvy,hNy⟩:=qbW hvE hy
  have hT:=qvr (lv:=lv) c34 hl1 hy
  rw [hT] at hlen
  simp only [List.length_append,List.length_cons,List.length_nil] at hlen
  refine qa2 qad 11 Z 1 ?_
  intro s35 h35
  refine za 0 Z (qan Z) Z<|za 1 Z (qbx Z) Z<|za 2 Z (qbp Z Z Z Z) Z<|za 3 Z (We Y4) Z<|za 4 Z (Wd 0 Y5) Z<|za 5 Z (qap (j:=0) Z Z Z Z Z Z O) Z<|za 6 Z (qau Z Z Z (hcy.le h35) Z) Z<|qax 7 V<|Jb Z Tt Z Z Z (qck D _ _ _ (hG.le (h1.t h35)) y Ay ny cy (hay.le h35) huy hvy O) ?_
  rintro _ _ s36 h36 ⟨rfl,rfl⟩
  refine ⟨fun _ _ h=>h,?_⟩
  refine za 8 Z (qaf Z Z Uo) Z<|za 9 Z (qaf Z Z Uo) Z<|qax 10 V<|Jb Z Tt Z Z Z (AC.mid [_] M L (qbe D _ _ bb M l hW _ Ut)) ?_
  rintro _ _ s37 h37 ⟨M1,rfl,rfl,hW1⟩
  refine ⟨(fun x hx _=>qe9 hx),?_⟩
  simp only [cQ9,nQ9]
  refine qal V<|Zb ?_
  refine qbz [_] _ (.inl Z) (.nil) Z (h1.t h35|>.t h36|>.t h37) fun _ hS2=>?_
  exact ⟨_,rfl,rfl,by rw [hT];exact hW1⟩
 refine Sr<|qar Z Z Z<|At Z Z<|?_
 refine qaa Z (fun c38=>?_) (fun c38=>?_)
 ·
  have hl1:=qhq hv (.inr (.inr (.inr (.inr (.inr c38)))))
  obtain ⟨e,b,off,y,Ay,ny,cy,hd,rfl,hy,hcy,hay,huy,hnl⟩:=Exs.at_ (hA1.le h1) (show 0 < n1 by omega)
  obtain ⟨hvy,hNy⟩:=qbW hvE hy
  have hT:=quV (lv:=lv) c38 hl1 hy
  rw [hT] at hlen
  simp only [List.length_append,List.length_cons,List.length_nil] at hlen
  refine qa2 qad 11 Z 1 ?_
  intro s39 h39
  refine za 0 Z (qan Z) Z<|za 1 Z (qbx Z) Z<|za 2 Z (qbp Z Z Z Z) Z<|za 3 Z (We Y4) Z<|za 4 Z (Wd 0 Y5) Z<|za 5 Z (qap (j:=0) Z Z Z Z Z Z O) Z<|za 6 Z (qau Z Z Z (hcy.le h39) Z) Z<|qax 7 V<|Jb Z Tt Z Z Z (qck D _ _ _ (hG.le (h1.t h39)) y Ay ny cy (hay.le h39) huy hvy O) ?_
  rintro _ _ s40 h40 ⟨rfl,rfl⟩
  refine ⟨fun _ _ h=>h,?_⟩
  refine za 8 Z (qaf Z Z Uo) Z<|za 9 Z (qaf Z Z Uo) Z<|qax 10 V<|Jb Z Tt Z Z Z (AC.mid [_] M L (qbe D _ _ bb M l hW _ Ut)) ?_
  rintro _ _ s41 h41 ⟨M1,rfl,rfl,hW1⟩
  refine ⟨(fun x hx _=>qe9 hx),?_⟩
  simp only [cQ9,nQ9]
  refine qal V<|Zb ?_
  refine qbz [_] _ (.inl Z) (.nil) Z (h1.t h39|>.t h40|>.t h41) fun _ hS2=>?_
  exact ⟨_,rfl,rfl,by rw [hT];exact hW1⟩
 refine Sr<|qar Z Z Z<|At Z Z<|?_
 refine qaa Z (fun c42=>?_) (fun c42=>?_)
 ·
  have hT:=qvE (lv:=lv) c42 (qsX hv (.inl c42))
  rw [hT] at hlen
  simp only [List.length_append,List.length_cons,List.length_nil] at hlen
  refine Zr<|Zqm Z Z<|qcd Z Z<|W0 Y5<|Jc Z Z Z (AC.mid [_] M L (qbe D _ _ bb M l hW [98,114,101,97,107,59] Ut)) ?_
  rintro _ _ s43 h43 ⟨M1,rfl,rfl,hW1⟩
  simp only [cQ9,nQ9]
  refine Zn<|Zb<|?_
  refine qbz [_] _ (.inl Z) (.nil) Z (h1.t h43) fun _ hS2=>?_
  exact ⟨_,rfl,rfl,by rw [hT];exact hW1⟩
 refine Sr<|qar Z Z Z<|At Z Z<|?_
 refine qaa Z (fun c44=>?_) (fun c44=>?_)
 ·
  have hT:=qsF (lv:=lv) c44 (qsX hv (.inr c44))
  rw [hT] at hlen
  simp only [List.length_append,List.length_cons,List.length_nil] at hlen
  refine Zr<|Zqm Z Z<|qcd Z Z<|W0 Y5<|Jc Z Z Z (AC.mid [_] M L (qbe D _ _ bb M l hW [99,111,110,116,105,110,117,101,59] Ut)) ?_
  rintro _ _ s45 h45 ⟨M1,rfl,rfl,hW1⟩
  simp only [cQ9,nQ9]
  refine Zn<|Zb<|?_
  refine qbz [_] _ (.inl Z) (.nil) Z (h1.t h45) fun _ hS2=>?_
  exact ⟨_,rfl,rfl,by rw [hT];exact hW1⟩
 exfalso;omega --end
theorem alls(D:Nat):∀ d,BDC D d∧OTC D d∧STC D d
 | 0=>by
  have hB:BDC D 0:=fun L s hG bb M l hW A n c xs lv hA hv hN hlv hlen=>qgx D 0 (fun e h=>by omega) L s hG bb M l hW A n c xs lv hA hv hN hlv hlen
  have hO:OTC D 0:=fun L s hG bb M l hW A n c xs lv hA hv hN hlv hlen=>qgc D 0 (fun e h=>by omega) hB L s hG bb M l hW A n c xs lv hA hv hN hlv hlen
  exact ⟨hB,hO,fun L s hG bb M l hW A1 A2 A3 n1 c1 n2 c2 n3 c3 x lv hA1 hA2 hA3 hv hN hlen=>qiC D 0 hB hO L s hG bb M l hW A1 A2 A3 n1 c1 n2 c2 n3 c3 x lv hA1 hA2 hA3 hv hN hlen⟩
 | d+1=>by
  have ih:∀ e,d+1=e+1→STC D e:=fun e h=>(show d=e by omega)▸(alls D d).2.2
  have hB:BDC D (d+1):=fun L s hG bb M l hW A n c xs lv hA hv hN hlv hlen=>qgx D (d+1) ih L s hG bb M l hW A n c xs lv hA hv hN hlv hlen
  have hO:OTC D (d+1):=fun L s hG bb M l hW A n c xs lv hA hv hN hlv hlen=>qgc D (d+1) ih hB L s hG bb M l hW A n c xs lv hA hv hN hlv hlen
  exact ⟨hB,hO,fun L s hG bb M l hW A1 A2 A3 n1 c1 n2 c2 n3 c3 x lv hA1 hA2 hA3 hv hN hlen=>qiC D (d+1) hB hO L s hG bb M l hW A1 A2 A3 n1 c1 n2 c2 n3 c3 x lv hA1 hA2 hA3 hv hN hlen⟩
end Go.Proofs.YtpdnijphccdiiaaGreatDoor
namespace Go.Proofs.YtpdnijphccdiiaaGreatDoor
open Go Go.FL
def fnV(x:Fnc):Prop:=qaT x.name=true∧x.params.length≤6∧x.locals.length≤12∧(∀ w∈x.params++x.locals,qaT w=true)∧qdN x.body 1=true∧qch x.body≤2000
theorem qja{x:Fnc}{c:Nat}(h:(fnC x c).2=0):qaT x.name=true∧x.params.length≤6∧x.locals.length≤12∧(∀ w∈x.params++x.locals,qaT w=true)∧qdN x.body 1=true∧(fnC x c).1=c+qch x.body∧(qch x.body=0∨c+qch x.body≤2000):=by
 unfold fnC at h ⊢
 split at h
 · cases h
 rename_i h1
 split at h
 · cases h
 rename_i h2
 split at h
 · cases h
 rename_i h3
 rw [if_neg h1,if_neg h2,if_neg h3]
 obtain ⟨a,b,c⟩:=qdq _ _ _ h
 refine ⟨by simpa using h1,by omega,by omega,fun w hw=>?_,a,b,c⟩
 cases hi:qaT w with
 | true=>rfl
 | false=>exact absurd (List.any_eq_true.2 ⟨w,hw,by rw [hi];rfl⟩) h3
def qsz:List Fnc→Nat
 | []=>0
 | x::r=>qch x.body+qsz r
theorem qiN:∀ {l:List Fnc} {i c:Nat},(fnF l i c).1=0→(∀ x∈l,fnV x)∧(qsz l=0∨c+qsz l≤2000)
  | [],_,_,_=>⟨fun x hx=>(by cases hx),.inl rfl⟩
  | x::r,i,c,h=>by
    rw [fnF] at h
    split at h
    · rename_i h1;exact absurd h h1
    rename_i h1
    obtain ⟨a1,a2,a3,a4,a5,a6,a7⟩:=qja (x:=x) (c:=c) (by simpa using h1)
    obtain ⟨b1,b2⟩:=qiN h
    rw [a6] at b2
    refine ⟨fun y hy=>?_,?_⟩
    · rcases List.mem_cons.1 hy with rfl | hy
      · exact ⟨a1,a2,a3,a4,a5,by omega⟩
      · exact b1 y hy
    · rw [qsz];omega
theorem qjq:∀ {l:List Glo} {i:Nat},(glF l i).1=0→∀ g∈l,qfc g=0
 | [],_,_=>fun g hg=>by cases hg
 | x::r,i,h=>fun g hg=>by
  rw [glF] at h
  split at h
  · rename_i h1;exact absurd h h1
  rename_i h1
  rcases List.mem_cons.1 hg with rfl | hg
  · simpa using h1
  · exact qjq h g hg
theorem qpK:∀ {l:List Fnc} {i c:Nat},(fnF l i c).1=0→fnF l i c=(0,0)
 | [],_,_,_=>rfl
 | x::r,i,c,h=>by
  rw [fnF] at h ⊢
  split at h
  · rename_i h1;exact absurd h h1
  rename_i h1
  rw [if_neg h1];exact qpK h
theorem qfS{p:Prg}(h:(qbj p).1=0):qbj p=(0,0):=by
 unfold qbj at h ⊢
 split at h
 · cases h
 rename_i h1
 rw [if_neg h1]
 split at h
 · rename_i h2;exact absurd h h2
 rename_i h2
 rw [if_neg h2]
 split at h
 · cases h
 rename_i h3
 rw [if_neg h3];exact qpK h
theorem qk7{p:Prg}(h:(qeK p).1=0):qeK p=(0,0):=by
 unfold qeK at h ⊢
 split at h
 · rename_i h2;exact absurd h h2
 rename_i h2
 rw [if_neg h2]
 split at h
 · cases h
 rename_i h3
 rw [if_neg h3]
theorem qcn{g:Glo}(h:qfc g=0):1≤g.kind∧g.kind≤3∧qaT g.name=true∧(g.kind≠3→g.init=[])∧(g.kind=2→g.num=0)∧g.init.length≤40000:=by
  unfold qfc at h
  split at h
  · cases h
  rename_i h1
  split at h
  · cases h
  rename_i h2
  split at h
  · cases h
  rename_i h3
  split at h
  · cases h
  rename_i h4
  split at h
  · cases h
  rename_i h5
  have hi:g.kind≠3→g.init=[]:=fun hk=>by
    by_cases he:g.init=[]
    · exact he
    · exact absurd (.inl ⟨hk,he⟩) h3
  refine ⟨by omega,by omega,by simpa using h2,hi,fun hk=>?_,?_⟩
  · by_cases he:g.num=0
    · exact he
    · exact absurd (.inr ⟨hk,he⟩) h3
  · by_cases hk:g.kind=3
    · omega
    · rw [hi hk];exact Nat.zero_le _
def prU(p:Prg):Prop:=(∀ g∈p.globals,U32 g.num∧∀ x∈g.init,U32 x)∧∀ x∈p.funcs,qgs x.body=true
def PV(p:Prg):Prop:=p.globals.length≤64∧p.funcs.length≤64∧(∀ g∈p.globals,qfc g=0∧g.init.length≤1000)∧(∀ x∈p.funcs,fnV x)∧(qkc p).length≤1000000
theorem qke(l:List Int)(h:∀ x∈l,U32 x):qf4 (l.map qeB)≤12 * l.length:=by
 induction l with
 | nil=>exact Nat.le_refl _
 | cons x r ih=>
  have h1:=qds (h x Mc)
  have h2:=ih fun y hy=>h y (List.mem_cons_of_mem _ hy)
  rw [List.map_cons,qbE,List.length_cons];omega
theorem qdS(l:List Str)(h:∀ x∈l,qaT x=true):qf4 l≤14 * l.length:=by
 induction l with
 | nil=>exact Nat.le_refl _
 | cons x r ih=>
  have h1:=qbF (h x Mc)
  have h2:=ih fun y hy=>h y (List.mem_cons_of_mem _ hy)
  rw [qbE,List.length_cons];omega
theorem qoN{g:Glo}(h:qfc g=0)(hu:U32 g.num∧∀ x∈g.init,U32 x):(qdP g).length≤50+12 * g.init.length:=by
 have h1:=qbF (qcn h).2.2.1
 have h2:=qds hu.1
 have h3:=qbf (g.init.map qeB)
 have h4:=qke g.init hu.2
 unfold qdP
 repeat' split
 all_goals ((try simp only [List.length_append,List.length_cons,List.length_nil]);omega)
theorem qoc{x:Fnc}(h:fnV x)(hu:qgs x.body=true):(qg8 x).length≤350+200 * qch x.body:=by
 obtain ⟨a1,a2,a3,a4,a5,a6⟩:=h
 have h1:=qbF a1
 have h2:=qbf x.params
 have h3:=qdS x.params fun w hw=>a4 w (List.mem_append_left _ hw)
 have h4:=qbf x.locals
 have h5:=qdS x.locals fun w hw=>a4 w (List.mem_append_right _ hw)
 have h6:=qcB x.body 1 a5 hu
 unfold qg8
 split
 all_goals ((try simp only [List.length_append,List.length_cons,List.length_nil]);omega)
theorem qjr:∀ {l:List Glo},(∀ g∈l,qfc g=0)→(∀ g∈l,U32 g.num∧∀ x∈g.init,U32 x)→((l.map qdP).flatten).length≤50 * l.length+12 * (l.map fun g=>g.init.length).sum
 | [],_,_=>Nat.zero_le _
 | g::r,h,hu=>by
  have h1:=qoN (h g Mc) (hu g Mc)
  have h2:=qjr (l:=r) (fun y hy=>h y (List.mem_cons_of_mem _ hy)) (fun y hy=>hu y (List.mem_cons_of_mem _ hy))
  simp only [List.map_cons,List.flatten_cons,List.length_append,List.length_cons,List.sum_cons]
  omega
theorem qi2:∀ {l:List Fnc},(∀ x∈l,fnV x)→(∀ x∈l,qgs x.body=true)→((l.map qg8).flatten).length≤350 * l.length+200 * qsz l
 | [],_,_=>Nat.zero_le _
 | x::r,h,hu=>by
  have h1:=qoc (h x Mc) (hu x Mc)
  have h2:=qi2 (l:=r) (fun y hy=>h y (List.mem_cons_of_mem _ hy)) (fun y hy=>hu y (List.mem_cons_of_mem _ hy))
  simp only [List.map_cons,List.flatten_cons,List.length_append,List.length_cons,qsz]
  omega
theorem qnz{α:Type}{f:α→Nat}{l:List α}{x:α}(h:x∈l):f x≤(l.map f).sum:=by
 induction l with
 | nil=>cases h
 | cons y r ih=>
  simp only [List.map_cons,List.sum_cons]
  rcases List.mem_cons.1 h with rfl | h
  · omega
  · have:=ih h;omega
theorem PV.of{p:Prg}(hu:prU p)(h:(qbj p).1=0):PV p:=by
  unfold qbj at h
  split at h
  · cases h
  rename_i h1
  split at h
  · rename_i h2;exact absurd h h2
  rename_i h2
  split at h
  · cases h
  rename_i h3
  obtain ⟨b1,b2⟩:=qiN h
  have a1:=qjq (l:=p.globals) (i:=0) (by simpa using h2)
  have c1:=qjr a1 hu.1
  have c2:=qi2 b1 hu.2
  refine ⟨by omega,by omega,fun g hg=>⟨a1 g hg,?_⟩,b1,?_⟩
  · have:=qnz (f:=fun g:Glo=>g.init.length) hg
    omega
  · rw [qkc,List.length_append];omega
theorem Glos.u{s:World}{A:Option Addr}{n c:Nat}{l:List Glo}(h:Glos s A n c l):∀ g∈l,U32 g.num∧∀ x∈g.init,U32 x:=
 Sl.all (p:=fun g=>U32 g.num∧∀ x∈g.init,U32 x) h fun g cs ⟨_,_,_,_,hw,hu,_⟩=>⟨hu,hw.u32⟩
theorem Fncs.u{d:Nat}{s:World}{A:Option Addr}{n c:Nat}{l:List Fnc}(h:Fncs d s A n c l):∀ x∈l,qgs x.body=true:=
 Sl.all (p:=fun x=>qgs x.body=true) h fun x cs ⟨_,_,_,_,_,_,_,_,_,_,_,_,hb,_⟩=>Stms.u hb
theorem qdR{α:Type}{f:α→Str}{l:List α}{k:Nat}{x:α}(h:l[k]?=some x):((l.drop k).map f).flatten=f x++((l.drop (k+1)).map f).flatten:=by
 obtain ⟨hk,rfl⟩:=List.getElem?_eq_some_iff.1 h
 rw [List.drop_eq_getElem_cons hk];rfl
theorem qi8{l:List Glo}{k i:Nat}{x:Glo}(h:l[k]?=some x):glF (l.drop k) i=if qfc x≠0 then (qfc x,(i:Int)) else glF (l.drop (k+1)) (i+1):=by
 obtain ⟨hk,rfl⟩:=List.getElem?_eq_some_iff.1 h
 rw [List.drop_eq_getElem_cons hk];rfl
theorem qe2{l:List Fnc}{k i c:Nat}{x:Fnc}(h:l[k]?=some x):fnF (l.drop k) i c=if (fnC x c).2≠0 then ((fnC x c).2,(i:Int)) else fnF (l.drop (k+1)) (i+1) (fnC x c).1:=by
 obtain ⟨hk,rfl⟩:=List.getElem?_eq_some_iff.1 h
 rw [List.drop_eq_getElem_cons hk];rfl
theorem qlH{α:Type}{f:α→Nat}{l:List α}{k:Nat}{x:α}(h:l[k]?=some x):((l.take (k+1)).map f).sum=((l.take k).map f).sum+f x:=by
 obtain ⟨hk,rfl⟩:=List.getElem?_eq_some_iff.1 h
 rw [List.take_succ_eq_append_getElem hk,List.map_append,List.sum_append];simp
theorem qt2{g:Glo}(h:g.kind=1):qdP g=qaO 0++([99,111,110,115,116,32]++g.name++[32,61,32]++qeB g.num++[59])++[10]:=by unfold qdP;rw [if_pos h];simp [qaO]
theorem qua{g:Glo}(h:g.kind=2):qdP g=qaO 0++([118,97,114,32]++g.name++[59])++[10]:=by unfold qdP;rw [if_neg O,if_pos h];simp [qaO]
theorem qsI{g:Glo}(h:¬ g.kind=1)(h2:¬ g.kind=2)(h3:g.init=[]):qdP g=qaO 0++([97,114,114,97,121,32]++g.name++[91]++qeB g.num++[93,59])++[10]:=by unfold qdP;rw [if_neg h,if_neg h2,if_pos h3];simp [qaO]
theorem qtq{g:Glo}(h:¬ g.kind=1)(h2:¬ g.kind=2)(h3:g.init≠[]):qdP g=qaO 0++([97,114,114,97,121,32]++g.name++[91]++qeB g.num++[93,32,61,32]++qaV (g.init.map qeB)++[59])++[10]:=by unfold qdP;rw [if_neg h,if_neg h2,if_neg h3];simp [qaO]
theorem qir{p:Prg}(h:64 < p.globals.length∨64 < p.funcs.length):qbj p=(2,-1):=by rw [qbj,if_pos h]
theorem qpy{p:Prg}(h:¬ (64 < p.globals.length∨64 < p.funcs.length))(h2:(glF p.globals 0).1≠0):qbj p=glF p.globals 0:=by rw [qbj,if_neg h,if_pos h2]
theorem qgA{p:Prg}(h:¬ (64 < p.globals.length∨64 < p.funcs.length))(h2:glF p.globals 0=(0,0))(h3:1000 < (p.globals.map fun g=>g.init.length).sum):qbj p=(2,-1):=by rw [qbj,if_neg h,h2,if_neg (by simp),if_pos h3]
theorem qsS{p:Prg}(h:¬ (64 < p.globals.length∨64 < p.funcs.length))(h2:glF p.globals 0=(0,0))(h3:¬ 1000 < (p.globals.map fun g=>g.init.length).sum):qbj p=fnF p.funcs p.globals.length 0:=by rw [qbj,if_neg h,h2,if_neg (by simp),if_neg h3]
theorem qkf{p:Prg}(h:(qbj p).1≠0):qeK p=qbj p:=by rw [qeK,if_pos h]
theorem qln{p:Prg}(h:qbj p=(0,0))(h2:12000 < (qkc p).length):qeK p=(14,-1):=by rw [qeK,if_neg (by rw [h];simp),if_pos h2]
theorem qtv{p:Prg}(h:qbj p=(0,0))(h2:¬ 12000 < (qkc p).length):qeK p=(0,0):=by rw [qeK,if_neg (by rw [h];simp),if_neg h2]
theorem qfY{p:Prg}(h:(qeK p).1=0):(qbj p).1=0:=by
 unfold qeK at h
 split at h
 · rename_i h2;exact absurd h h2
 · rename_i h2;simpa using h2
theorem Stms.u_at:∀ {l:List Stm} {k:Nat} {x:Stm},qgs l=true→l[k]?=some x→stU x=true
 | [],_,_,_,h=>by cases h
 | y::r,0,x,hu,h=>by
  simp at h;subst h
  simp only [qgs,Bool.and_eq_true] at hu;exact hu.1
 | y::r,k+1,x,hu,h=>by
  simp only [qgs,Bool.and_eq_true] at hu
  exact Stms.u_at hu.2 (by simpa using h)
open Go.Proofs.Tryz
open Go.FL
attribute [local irreducible] JC JO JA JB qaJ qaw qbM AC fill CellsAt QE Ev Mid
theorem qeA(D:Nat)(L:Hl)(s:World)(c i:Int):AC prog D 73 [.int .i64 c,.int .i64 i] L s fun v L' _=>v=.agg #[.int .i64 c,.int .i64 i]∧L=L':=by
 refine qai (fn:=f73) qao func73 V Z ntmps73 Z (rs:=[.cell 4 33]) Z [(0,_),(1,_)] Z<|Sr<|qaj Z [_,_] Z Z ?_
 intro β1 s1 h1
 refine Nt<|Sr<|Zqm Z Z<|Zqm Z Z<|qac (qam [(_,_),(_,_)] [_,_] Z Z Z Z Z Z) Z<|Wt 0 [_,_] Y9<|Nt<|Zo<|?_
 refine rR [_] L (.agg (us:=[_,_]) 0 Z Z Z Z Z (.nil)) Z h1 fun _ hS2=>?_
 exact ⟨rfl,rfl⟩
theorem qme(D:Nat)(X L:Hl)(s:World)(bb:Nat)(M:Hl)(l:List UInt8)(hW:Wr bb M l):AC prog D 119 [.pointer (some ⟨bb,0,none⟩)] (X++(M++L)) s fun u L' _=>u=St l∧L'=X++L:=
 AC.perm (List.perm_append_comm_assoc ..) (qoV D (X++L) s bb M l hW) fun u L1 s1 ⟨g0,g1⟩=>⟨_,List.Perm.refl _,g0,g1.symm⟩
theorem qjN(D:Nat)(y:Nat×Obj)(L:Hl)(s:World)(hG:GP s)(bc c d:Nat)(x:Fnc)(A1 A2 A3:Option Addr)(n1 q1 n2 q2 n3 q3:Nat)(hs1:Strs s A1 n1 q1 x.params)(hs2:Strs s A2 n2 q2 x.locals)(hs3:Stms d s A3 n3 q3 x.body)(hc:c≤2000):AC prog D 75 [.pointer (some ⟨bc,0,none⟩),.agg #[St x.name,.slice A1 n1 q1,.slice A2 n2 q2,.slice A3 n3 q3]] (y::(bc,cb [.int .i64 (c:Int)] 146)::L) s fun v L' _=>v=.int .i64 (fnC x c).2∧L'=y::(bc,cb [.int .i64 ((fnC x c).1:Int)] 146)::L:=
 AC.perm (List.Perm.swap ..) (qof D (y::L) s hG bc c d x A1 A2 A3 n1 q1 n2 q2 n3 q3 hs1 hs2 hs3 hc) fun v L1 s1 ⟨g0,h1⟩=>⟨_,by rw [h1];exact List.Perm.swap ..,g0,rfl⟩
theorem qrr(D:Nat)(L:Hl)(s:World)(hG:GP s)(d:Nat)(p:Prg)(Ag Af:Option Addr)(ng cg nf cf:Nat)(hGl:Glos s Ag ng cg p.globals)(hFn:Fncs d s Af nf cf p.funcs)(hV:PV p):AC prog D 76 [.agg #[.slice Ag ng cg,.slice Af nf cf]] L s fun v L' _=>v=St (qkc p)∧L=L':=by
 have hn1:=hGl.1
 have hn2:=hFn.1
 have hU:=hGl.u
 have hUf:=hFn.u
 obtain ⟨hV1,hV2,hVg,hVf,hVl⟩:=hV
 have hpl:((p.globals.map qdP).flatten).length+((p.funcs.map qg8).flatten).length≤1000000:=by rw [qkc,List.length_append] at hVl;exact hVl
 refine qai (fn:=f76) qao func76 V Z ntmps76 Z (rs:=[.tmp 2]) Z [(0,_)] Z<|Sr<|qaq Z Z ?_
 intro β1 s1 h1
 refine At Z Z<|Sr<|qac (qam [] [_,_] Z Z Z Z Z Z) Z<|qaq Z Z ?_
 intro β2 s2 h2
 refine At Z Z<|Zs<|Zs<|qgL 1 ?_
 
 refine Zr<|W0 Y5<|Wl 0 Y6<|Ws Y4<|Zqm Z Z<|Nt<|Zp<|?_
 refine qav (γ:=Nat×Hl×List UInt8) (fun g=>[(1,_),(2,_),(3,_),(11,_),(12,_),(13,.int .i64 (g.1:Int))]) (fun g=>(β1,cb [.slice Ag ng cg,.slice Af nf cf] 25)::(g.2.1++L)) (fun g tw=>Le D s2 tw∧(g.1≤ng∧Wr β2 g.2.1 g.2.2∧g.2.2++((p.globals.drop g.1).map qdP).flatten=(p.globals.map qdP).flatten)) (fun g=>ng - g.1) (fun _ _ _ h hl=>⟨h.1.trans hl,h.2⟩) (0,[(β2,cb [.pointer none,.slice none 0 0] 183)],[]) (.c6 Z Z Z Z Z Z (.nil _)) Z ⟨Le.refl _,⟨Nat.zero_le _,Wr.mk (.inl Z) BV.nil,Z⟩⟩ ?_
 intro g s3 I3
 obtain ⟨k,Mo,lo⟩:=g
 obtain ⟨hk0,hWo,hS⟩:=I3.2
 simp only at hk0 hWo hS
 dsimp only
 have hle:=congrArg List.length hS
 simp only [List.length_append] at hle
 refine Sr<|qbh Z Z Z<|Nt<|Zs<|?_
 refine qaa Z (fun c4=>?_) (fun c4=>?_)
 ·
  have hk:k < ng:=by omega
  obtain ⟨b,off,x,Ai,ni,ci,rfl,hx,hcx,hix,hux,hnl⟩:=Glos.at_ (hGl.le (h1.t h2|>.t I3.1)) hk
  have hgx:=hVg x (List.mem_of_getElem? hx)
  have hg0:=qcn hgx.1
  have hil:=qbF hg0.2.2.1
  have hdl:=qds hux
  have hni:=hix.1
  have hci:=qbf (x.init.map qeB)
  have hct:=qgX x.init hix.u32
  refine Zk<|Zt<|Zs<|Zp<|Sr<|qac (qap Z Z Z Z Z Z hk) Z<|qac (qau Z Z Z (hcx.le (Lr D)) Z) Z<|qaj Z [_,_,_,_] Z Z ?_
  intro β5 s5 h5
  refine Wt 0 [_,_,_,_] Y9<|Nt<|Zp<|Sr<|W0 Y5<|Wl 0 Y6<|qar Z Z Z<|At Z Z<|?_
  refine qaa Z (fun c6=>?_) (fun c6=>?_)
  ·
   have hT:=qt2 c6
   refine qa2 qad 11 Z 2 ?_
   intro s7 h7
   refine za 0 Z (qan Z) Z<|za 1 Z (We Y4) Z<|za 2 Z (Wd 0 Y5) Z<|za 3 Z (qaf Z Z Uo) Z<|za 4 Z (qaf Z Z Uo) Z<|za 5 Z (We Y4) Z<|za 6 Z (Wd 0 Y5) Z<|qax 7 V<|Jb Z Tt Z Z Z (qdH D _ _ (hG.le (h1.t h2|>.t I3.1|>.t h5|>.t h7)) _ hux) ?_
   rintro _ _ s8 h8 ⟨rfl,rfl⟩
   refine ⟨fun _ _ h=>h,?_⟩
   refine za 8 Z (qaf Z Z Uo) Z<|za 9 Z (qaf Z Z Uo) Z<|qax 10 V<|Jb Z Tt Z Z Z (AC.mid [_,_] Mo L (qdM D _ _ β2 Mo lo hWo 0 O _ (by (try simp only [List.length_append,List.length_cons,List.length_nil,qaO]);omega))) ?_
   rintro _ _ s9 h9 ⟨M1,rfl,rfl,hW1⟩
   refine ⟨(fun x hx _=>qfy hx),?_⟩
   simp only [cQ9,nQ9]
   have hWx:Wr β2 M1 (lo++qdP x):=by rw [hT];exact hW1
   refine qal V<|Zb<|Zb<|Zt<|Zr<|qaF Z Z Z (w64 O O)<|Zqm Z Z<|Zn<|?_
   refine qab ⟨(k+1,M1,lo++qdP x),[_],kp,Z,⟨(I3.1.t h5|>.t h7|>.t h8|>.t h9),⟨by simp only;omega,hWx,by simp only;rw [← hS,qdR hx,List.append_assoc]⟩⟩,Oz⟩
  have g1:=c6
  refine Sr<|W0 Y5<|Wl 0 Y6<|qar Z Z Z<|At Z Z<|?_
  refine qaa Z (fun c10=>?_) (fun c10=>?_)
  ·
   have hT:=qua c10
   refine Zr<|Zqm Z Z<|Wb Y5<|Wl 0 Y6<|qac (qaf Z Z Uo) Z<|qac (qaf Z Z Uo) Z<|Jc Z Z Z (AC.mid [_,_] Mo L (qdM D _ _ β2 Mo lo hWo 0 O _ (by (try simp only [List.length_append,List.length_cons,List.length_nil,qaO]);omega))) ?_
   rintro _ _ s11 h11 ⟨M1,rfl,rfl,hW1⟩
   simp only [cQ9,nQ9]
   have hWx:Wr β2 M1 (lo++qdP x):=by rw [hT];exact hW1
   refine Zn<|Zb<|Zb<|Zt<|Zr<|qaF Z Z Z (w64 O O)<|Zqm Z Z<|Zn<|?_
   refine qab ⟨(k+1,M1,lo++qdP x),[_],kp,Z,⟨(I3.1.t h5|>.t h11),⟨by simp only;omega,hWx,by simp only;rw [← hS,qdR hx,List.append_assoc]⟩⟩,Oz⟩
  have g2:=c10
  refine Sr<|Wb Y5<|Wl 0 Y6<|Ws Y4<|qar Z Z Z<|At Z Z<|?_
  refine qaa Z (fun c12=>?_) (fun c12=>?_)
  ·
   have hT:=qsI g1 g2 (List.eq_nil_of_length_eq_zero O)
   refine qa2 qad 11 Z 2 ?_
   intro s13 h13
   refine za 0 Z (qan Z) Z<|za 1 Z (We Y4) Z<|za 2 Z (Wd 0 Y5) Z<|za 3 Z (qaf Z Z Uo) Z<|za 4 Z (qaf Z Z Uo) Z<|za 5 Z (We Y4) Z<|za 6 Z (Wd 0 Y5) Z<|qax 7 V<|Jb Z Tt Z Z Z (qdH D _ _ (hG.le (h1.t h2|>.t I3.1|>.t h5|>.t h13)) _ hux) ?_
   rintro _ _ s14 h14 ⟨rfl,rfl⟩
   refine ⟨fun _ _ h=>h,?_⟩
   refine za 8 Z (qaf Z Z Uo) Z<|za 9 Z (qaf Z Z Uo) Z<|qax 10 V<|Jb Z Tt Z Z Z (AC.mid [_,_] Mo L (qdM D _ _ β2 Mo lo hWo 0 O _ (by (try simp only [List.length_append,List.length_cons,List.length_nil,qaO]);omega))) ?_
   rintro _ _ s15 h15 ⟨M1,rfl,rfl,hW1⟩
   refine ⟨(fun x hx _=>qfy hx),?_⟩
   simp only [cQ9,nQ9]
   have hWx:Wr β2 M1 (lo++qdP x):=by rw [hT];exact hW1
   refine qal V<|Zb<|Zb<|Zt<|Zr<|qaF Z Z Z (w64 O O)<|Zqm Z Z<|Zn<|?_
   refine qab ⟨(k+1,M1,lo++qdP x),[_],kp,Z,⟨(I3.1.t h5|>.t h13|>.t h14|>.t h15),⟨by simp only;omega,hWx,by simp only;rw [← hS,qdR hx,List.append_assoc]⟩⟩,Oz⟩
  have hT:=qtq g1 g2 (fun h=>by rw [h] at hni;simp at hni;omega)
  refine qa2 qad 16 Z 2 ?_
  intro s16 h16
  refine za 0 Z (qan Z) Z<|za 1 Z (We Y4) Z<|za 2 Z (Wd 0 Y5) Z<|za 3 Z (qaf Z Z Uo) Z<|za 4 Z (qaf Z Z Uo) Z<|za 5 Z (We Y4) Z<|za 6 Z (Wd 0 Y5) Z<|za 10 Z (We Y4) Z<|za 11 Z (Wd 0 Y5) Z<|qax 7 V<|Jb Z Tt Z Z Z (qdH D _ _ (hG.le (h1.t h2|>.t I3.1|>.t h5|>.t h16)) _ hux) ?_
  rintro _ _ s17 h17 ⟨rfl,rfl⟩
  refine ⟨fun _ _ h=>h,?_⟩
  refine za 8 Z (qaf Z Z Uo) Z<|za 9 Z (qaf Z Z Uo) Z<|qax 12 V<|Jb Z Tt Z Z Z (qjL D _ _ (hG.le (h1.t h2|>.t I3.1|>.t h5|>.t h16|>.t h17)) Ai ni ci x.init (hix.le (h5.t h16|>.t h17)) O) ?_
  rintro _ _ s18 h18 ⟨rfl,rfl⟩
  refine ⟨fun _ _ h=>h,?_⟩
  refine za 13 Z (qaf Z Z Uo) Z<|za 14 Z (qaf Z Z Uo) Z<|qax 15 V<|Jb Z Tt Z Z Z (AC.mid [_,_] Mo L (qdM D _ _ β2 Mo lo hWo 0 O _ (by (try simp only [List.length_append,List.length_cons,List.length_nil,qaO]);omega))) ?_
  rintro _ _ s19 h19 ⟨M1,rfl,rfl,hW1⟩
  refine ⟨(fun x hx _=>qfy hx),?_⟩
  simp only [cQ9,nQ9]
  have hWx:Wr β2 M1 (lo++qdP x):=by rw [hT];exact hW1
  refine qal V<|Zb<|Zb<|Zt<|Zr<|qaF Z Z Z (w64 O O)<|Zqm Z Z<|Zn<|?_
  refine qab ⟨(k+1,M1,lo++qdP x),[_],kp,Z,⟨(I3.1.t h5|>.t h16|>.t h17|>.t h18|>.t h19),⟨by simp only;omega,hWx,by simp only;rw [← hS,qdR hx,List.append_assoc]⟩⟩,Oz⟩
 rw [List.drop_eq_nil_of_le O,List.map_nil,List.flatten_nil,List.append_nil] at hS
 refine Zl<|Zv<|Zv<|Zd<|Zt<|Zs<|Sr<|Wb Y5<|Wl 0 Y6<|Ws Y4<|Zqm Z Z<|Nt<|Zp<|?_
 refine qav (γ:=Nat×Hl×List UInt8) (fun g=>[(2,_),(3,_),(76,_),(77,_),(78,.int .i64 (g.1:Int))]) (fun g=>(β1,cb [.slice Ag ng cg,.slice Af nf cf] 25)::(g.2.1++L)) (fun g tw=>Le D s3 tw∧(g.1≤nf∧Wr β2 g.2.1 g.2.2∧g.2.2++((p.funcs.drop g.1).map qg8).flatten=qkc p)) (fun g=>nf - g.1) (fun _ _ _ h hl=>⟨h.1.trans hl,h.2⟩) (0,Mo,lo) (.c5 Z Z Z Z Z (.nil _)) Z ⟨Le.refl _,⟨Nat.zero_le _,hWo,by simp only [List.drop_zero];rw [hS,qkc]⟩⟩ ?_
 intro g s20 I20
 obtain ⟨k,Mo,lo⟩:=g
 obtain ⟨hk0,hWo,hS⟩:=I20.2
 simp only at hk0 hWo hS
 dsimp only
 have hle:=congrArg List.length hS
 simp only [List.length_append] at hle
 refine Sr<|qbh Z Z Z<|Nt<|Zs<|?_
 refine qaa Z (fun c21=>?_) (fun c21=>?_)
 ·
  have hk:k < nf:=by omega
  obtain ⟨b,off,x,B1,m1,d1,B2,m2,d2,B3,m3,d3,rfl,hx,hcx,hpx,hlx,hbx,hnl⟩:=Fncs.at_ (hFn.le (h1.t h2|>.t I3.1|>.t I20.1)) hk
  obtain ⟨hi1,hi2,hi3,hi4,hi5,hi6⟩:=hVf x (List.mem_of_getElem? hx)
  have hil:=qbF hi1
  have hp1:=qbf x.params
  have hp2:=qdS x.params fun w hw=>hi4 w (List.mem_append_left _ hw)
  have hl1:=qbf x.locals
  have hl2:=qdS x.locals fun w hw=>hi4 w (List.mem_append_right _ hw)
  have hln:=hlx.1
  have hbl:=qcB x.body 1 hi5 (hUf x (List.mem_of_getElem? hx))
  refine Zk<|Zt<|Zs<|Zp<|Sr<|qac (qap Z Z Z Z Z Z hk) Z<|qac (qau Z Z Z (hcx.le (Lr D)) Z) Z<|qaj Z [_,_,_,_] Z Z ?_
  intro β22 s22 h22
  refine Wt 0 [_,_,_,_] Y9<|Nt<|Zs<|qa2 qad 11 Z 2 ?_
  intro s23 h23
  refine za 0 Z (qan Z) Z<|za 1 Z (qbp Z Z Z Z) Z<|za 2 Z (Wd 0 Y5) Z<|za 3 Z (qaf Z Z Uo) Z<|za 4 Z (qaf Z Z Uo) Z<|za 5 Z (We Y4) Z<|za 6 Z (Wd 0 Y5) Z<|qax 7 V<|Jb Z Tt Z Z Z (qfs D _ _ B1 m1 d1 x.params (hpx.le (h22.t h23)) O) ?_
  rintro _ _ s24 h24 ⟨rfl,rfl⟩
  refine ⟨fun _ _ h=>h,?_⟩
  refine za 8 Z (qaf Z Z Uo) Z<|za 9 Z (qaf Z Z Uo) Z<|qax 10 V<|Jb Z Tt Z Z Z (AC.mid [_,_] Mo L (qdM D _ _ β2 Mo lo hWo 0 O _ (by (try simp only [List.length_append,List.length_cons,List.length_nil,qaO]);omega))) ?_
  rintro _ _ s25 h25 ⟨M1,rfl,rfl,hW1⟩
  refine ⟨(fun x hx _=>qfy hx),?_⟩
  simp only [cQ9,nQ9]
  refine qal V<|Zt<|Zs<|Sr<|Wb Y5<|Wl 0 Y6<|Ws Y4<|qbv Z Z Z<|Nt<|?_
  refine qaa Z (fun c26=>?_) (fun c26=>?_)
  ·
   have hlc:x.locals≠[]:=fun h=>by rw [h] at hln;simp at hln;omega
   refine Zr<|Zqm Z Z<|Wb Y5<|Wl 0 Y6<|Jc Z Z Z (qfs D _ _ B2 m2 d2 x.locals (hlx.le (h22.t h23|>.t h24|>.t h25)) O) ?_
   rintro _ _ s27 h27 ⟨rfl,rfl⟩
   refine qac (qaf Z Z Uo) Z<|qac (qaf Z Z Uo) Z<|Jc Z Z Z (AC.mid [_,_] M1 L (qdM D _ _ β2 M1 _ hW1 1 O _ (by (try simp only [List.length_append,List.length_cons,List.length_nil,qaO]);omega))) ?_
   rintro _ _ s28 h28 ⟨M2,rfl,rfl,hW2⟩
   simp only [cQ9,nQ9]
   refine Nt<|Sr<|Zqm Z Z<|Wb Y5<|Wl 0 Y6<|Jc Z Z Z (AC.mid [_,_] M2 L ((alls D d).1 _ _ (hG.le (h1.t h2|>.t I3.1|>.t I20.1|>.t h22|>.t h23|>.t h24|>.t h25|>.t h27|>.t h28)) β2 M2 _ hW2 B3 m3 d3 x.body 1 (hbx.le (h22.t h23|>.t h24|>.t h25|>.t h27|>.t h28)) hi5 hi6 O (by simp only [List.length_append,List.length_cons,List.length_nil,qaO];omega))) ?_
   rintro _ _ s29 h29 ⟨M3,rfl,rfl,hW3⟩
   simp only [cQ9,nQ9]
   refine Nt<|Zr<|Zqm Z Z<|Jc Z Z Z (AC.mid [_,_] M3 L (qdM D _ _ β2 M3 _ hW3 0 O [125] (by (try simp only [List.length_append,List.length_cons,List.length_nil,qaO]);omega))) ?_
   rintro _ _ s30 h30 ⟨M4,rfl,rfl,hW4⟩
   simp only [cQ9,nQ9]
   have hWx:Wr β2 M4 (lo++qg8 x):=by simpa [qg8,hlc,qaO,List.append_assoc] using hW4
   refine Zn<|Zb<|Zt<|Zr<|qaF Z Z Z (w64 O O)<|Zqm Z Z<|Zn<|?_
   refine qab ⟨(k+1,M4,lo++qg8 x),[_],kp,Z,⟨(I20.1.t h22|>.t h23|>.t h24|>.t h25|>.t h27|>.t h28|>.t h29|>.t h30),⟨by simp only;omega,hWx,by simp only;rw [← hS,qdR hx,List.append_assoc]⟩⟩,Oz⟩
  have hlc:x.locals=[]:=List.eq_nil_of_length_eq_zero O
  refine Zk<|Zt<|Sr<|Zqm Z Z<|Wb Y5<|Wl 0 Y6<|Jc Z Z Z (AC.mid [_,_] M1 L ((alls D d).1 _ _ (hG.le (h1.t h2|>.t I3.1|>.t I20.1|>.t h22|>.t h23|>.t h24|>.t h25)) β2 M1 _ hW1 B3 m3 d3 x.body 1 (hbx.le (h22.t h23|>.t h24|>.t h25)) hi5 hi6 O (by simp only [List.length_append,List.length_cons,List.length_nil,qaO];omega))) ?_
  rintro _ _ s31 h31 ⟨M3,rfl,rfl,hW3⟩
  simp only [cQ9,nQ9]
  refine Nt<|Zr<|Zqm Z Z<|Jc Z Z Z (AC.mid [_,_] M3 L (qdM D _ _ β2 M3 _ hW3 0 O [125] (by (try simp only [List.length_append,List.length_cons,List.length_nil,qaO]);omega))) ?_
  rintro _ _ s32 h32 ⟨M4,rfl,rfl,hW4⟩
  simp only [cQ9,nQ9]
  have hWx:Wr β2 M4 (lo++qg8 x):=by simpa [qg8,hlc,qaO,List.append_assoc] using hW4
  refine Zn<|Zb<|Zt<|Zr<|qaF Z Z Z (w64 O O)<|Zqm Z Z<|Zn<|?_
  refine qab ⟨(k+1,M4,lo++qg8 x),[_],kp,Z,⟨(I20.1.t h22|>.t h23|>.t h24|>.t h25|>.t h31|>.t h32),⟨by simp only;omega,hWx,by simp only;rw [← hS,qdR hx,List.append_assoc]⟩⟩,Oz⟩
 rw [List.drop_eq_nil_of_le O,List.map_nil,List.flatten_nil,List.append_nil] at hS
 refine Zl<|Zv<|Zv<|Zd<|Zt<|Sr<|Zqm Z Z<|qcd Z Z<|W0 Y5<|Jc Z Z Z (qme D [_] L _ β2 Mo lo hWo) ?_
 rintro _ _ s33 h33 ⟨rfl,rfl⟩
 simp only [cQ9,nQ9]
 refine At Z Z<|Zo<|?_
 refine rR [_] L (.t1 Z) Z (h1.t h2|>.t I3.1|>.t I20.1|>.t h33) fun _ hS2=>?_
 exact ⟨by rw [← hS];rfl,rfl⟩
theorem bT{p:Prop} [Decidable p] (h:p):Value.bool (decide p)=.bool true:=by rw [decide_eq_true h]
theorem bF{p:Prop} [Decidable p] (h:p):Value.bool (!decide p)=.bool false:=by rw [decide_eq_true h];rfl
theorem bN{p:Prop} [Decidable p] (h:¬ p):Value.bool (!decide p)=.bool true:=by rw [decide_eq_false h];rfl
theorem bZ{p:Prop} [Decidable p] (h:¬ p):Value.bool (decide p)=.bool false:=by rw [decide_eq_false h]
theorem qiu(D:Nat)(L:Hl)(s:World)(hG:GP s)(d:Nat)(p:Prg)(Ag Af:Option Addr)(ng cg nf cf:Nat)(hGl:Glos s Ag ng cg p.globals)(hFn:Fncs d s Af nf cf p.funcs):AC Tryz.prog D 43 [.agg #[.slice Ag ng cg,.slice Af nf cf]] L s fun v L' _=>v=.agg #[.int .i64 (qeK p).1,.int .i64 (qeK p).2]∧L=L':=by
 have hn1:=hGl.1
 have hn2:=hFn.1
 have hU:prU p:=⟨hGl.u,hFn.u⟩
 refine qai (fn:=Tryz.f43) qao Tryz.func43 V Z Tryz.ntmps43 Z (rs:=[.cell 2 33]) Z [(0,_)] Z<|Sr<|qaq Z Z ?_
 intro β1 s1 h1
 refine qaj Z [_,_] Z Z ?_
 intro β2 s2 h2
 refine Nt<|Zs<|?_
 refine qaU 20 (64 < ng∨64 < nf) ?_ ?_
 ·
  refine Zr<|W0 Y5<|Wl 1 Y6<|Ws Y4<|qbv Z Z Z<|Zqm Z Z<|?_
  refine qak (t:=15) Z (fun c4=>?_) (fun c4=>?_)
  ·
   refine Wf Y4<|Wf Y4<|Wf Y4<|Wf Y4<|ZqT Z Z Z<|Zn<|?_
   refine qab (MidB.mk (Lr D) Sb Z ((decide_eq_true O).symm))
  refine Zg Z Z<|Wb Y5<|Zg Z Z<|Wl 1 Y6<|Zg Z Z<|Ws Y4<|Zg Z Z<|qbv Z Z Z<|ZqF Z Z Z<|Zn<|?_
  refine qab (MidB.mk (Lr D) Sb Z (decide_eq_decide.2 O))
 intro s3 h3
 refine qaa Z (fun c5=>?_) (fun c5=>?_)
 ·
  have hE:qeK p=(2,-1):=by rw [qkf (by rw [qir O];simp),qir O]
  refine Sr<|Jc Z Z Z (qeA D _ _ _ _) ?_
  rintro _ _ s6 h6 ⟨rfl,rfl⟩
  refine Wt 0 [_,_] Y9<|Nt<|Zo<|Zu<|?_
  refine rR [_,_] L (.agg (us:=[_,_]) 0 Z Z Z Z Z (.nil)) Z (h1.t h2|>.t h3|>.t h6) fun _ hS2=>?_
  exact ⟨by rw [hE];rfl,rfl⟩
 have g20:¬ (64 < p.globals.length∨64 < p.funcs.length):=by omega
 refine Zk<|Zt<|Sr<|At Z Z<|Zs<|Sr<|W0 Y5<|Wl 1 Y6<|Ws Y4<|Zqm Z Z<|Nt<|Zp<|?_
 refine qdY [_,_] (γ:=Nat×Nat) (fun g=>[(1,_),(2,_),(3,.int .i64 (g.2:Int)),(23,_),(24,_),(25,.int .i64 (g.1:Int))]) (fun g=>L) (fun g tw=>Le D s3 tw∧(g.1≤ng∧glF p.globals 0=glF (p.globals.drop g.1) g.1∧g.2=((p.globals.take g.1).map fun g=>g.init.length).sum∧g.2≤g.1 * 40000)) (fun g=>ng - g.1) (fun _ _ _ h hl=>⟨h.1.trans hl,h.2⟩) (0,0) (.c6 Z Z Z Z Z Z (.nil _)) Z ⟨Le.refl _,⟨Nat.zero_le _,Z,Z,Nat.zero_le _⟩⟩ ?_
 intro g s7 I7
 simp only [cQ9,nQ9]
 obtain ⟨k,z⟩:=g
 obtain ⟨hk0,hS,hz,hz4⟩:=I7.2
 simp only at hk0 hS hz hz4
 dsimp only
 refine Sr<|qbh Z Z Z<|Nt<|Zs<|?_
 refine qaa Z (fun c8=>?_) (fun c8=>?_)
 ·
  have hk:k < ng:=by omega
  obtain ⟨b,off,x,Ai,ni,ci,rfl,hx,hcx,hix,hux,hnl⟩:=Glos.at_ (hGl.le (h1.t h2|>.t h3|>.t I7.1)) hk
  have hni:=hix.1
  refine Zk<|Zt<|Zs<|Zp<|Sr<|Zqm Z Z<|qac (qap Z Z Z Z Z Z hk) Z<|qac (qau Z Z Z (hcx.le (Lr D)) Z) Z<|qaj Z [_,_,_,_] Z Z ?_
  intro β9 s9 h9
  refine Zqa Z Z<|Wt 0 [_,_,_,_] Y9<|Nt<|Zs<|Sr<|qac (qag 0 [_,_,_,_] Z Z Z Z Z) Z<|Jc Z Z Z (qlo D _ _ (hG.le (h1.t h2|>.t h3|>.t I7.1|>.t h9)) x Ai ni ci (hix.le h9) hux) ?_
  rintro _ _ s10 h10 ⟨rfl,rfl⟩
  refine At Z Z<|Sr<|Zqm Z Z<|qb2 Z Z Z<|Nt<|?_
  refine qaP Z (fun c11=>?_) (fun c11=>?_)
  ·
   have hE:qeK p=(qfc x,(k:Int)):=by
     have h9:glF p.globals 0=(qfc x,(k:Int)):=by rw [hS,qi8 hx,if_pos c11]
     have h8:qbj p=(qfc x,(k:Int)):=by rw [qpy g20 (by rw [h9];exact c11),h9]
     rw [qkf (by rw [h8];exact c11),h8]
   refine Sr<|Zqm Z Z<|Zqm Z Z<|Jc Z Z Z (qeA D _ _ _ _) ?_
   rintro _ _ s12 h12 ⟨rfl,rfl⟩
   refine Wt 1 [_,_] Y9<|Nt<|Zo<|Zu<|Zc<|Zu<|Zu<|Zc<|Zu<|?_
   refine rR [_,_,_] L (.agg (us:=[_,_]) 1 Z Z Z Z Z (.nil)) Z (h1.t h2|>.t h3|>.t I7.1|>.t h9|>.t h10|>.t h12) fun _ hS2=>?_
   exact ⟨by rw [hE];rfl,rfl⟩
  have g33:¬ qfc x≠0:=fun h=>h c11
  have hg4:=(qcn (show qfc x=0 by simpa using g33)).2.2.2.2.2
  refine Zk<|Zt<|Zr<|Zqm Z Z<|Wb Y5<|Wl 0 Y6<|Ws Y4<|qac (qaR Z Z (show IntKind.i64.wrap ((z:Int)+(ni:Int))=((z+ni:Nat):Int) by rw [w64 O O];simp)) Z<|Zqa Z Z<|Zn<|Zb<|Zt<|Zr<|qaF Z Z Z (w64 O O)<|Zqm Z Z<|Zn<|?_
  refine qab ⟨(k+1,z+ni),[_],kp,Z,⟨(I7.1.t h9|>.t h10),⟨by simp only;omega,by simp only;rw [hS,qi8 hx,if_neg g33],by simp only;rw [qlH hx,← hz,hni],by simp only;omega⟩⟩,Oz⟩
 rw [List.drop_eq_nil_of_le O] at hS
 rw [List.take_of_length_le O] at hz
 refine Zl<|Zv<|Zv<|Zd<|Zt<|Zs<|Sr<|Zqm Z Z<|qbv Z Z Z<|Nt<|?_
 refine qaa Z (fun c13=>?_) (fun c13=>?_)
 ·
  have hE:qeK p=(2,-1):=by rw [qkf (by rw [qgA g20 hS O];simp),qgA g20 hS O]
  refine Sr<|Jc Z Z Z (qeA D _ _ _ _) ?_
  rintro _ _ s14 h14 ⟨rfl,rfl⟩
  refine Wt 0 [_,_] Y9<|Nt<|Zo<|Zu<|?_
  refine rR [_,_] L (.agg (us:=[_,_]) 0 Z Z Z Z Z (.nil)) Z (h1.t h2|>.t h3|>.t I7.1|>.t h14) fun _ hS2=>?_
  exact ⟨by rw [hE];rfl,rfl⟩
 have g44:=qsS g20 hS O
 refine Zk<|Zt<|Sr<|qac (qam [] [_] Z Z Z Z Z Z) Z<|qaq Z Z ?_
 intro β15 s15 h15
 refine At Z Z<|Zs<|Sr<|Wb Y5<|Wl 2 Y6<|Ws Y4<|Zqm Z Z<|Nt<|Zp ?_
 refine qav (γ:=Nat×Nat) (fun g=>[(1,_),(2,_),(7,_),(49,_),(50,_),(51,.int .i64 (g.1:Int))]) (fun g=>(β15,cb [.int .i64 (g.2:Int)] 146)::_::_::L) (fun g tw=>Le D s15 tw∧(g.1≤nf∧g.2≤2000∧fnF p.funcs p.globals.length 0=fnF (p.funcs.drop g.1) (p.globals.length+g.1) g.2)) (fun g=>nf - g.1) (fun _ _ _ h hl=>⟨h.1.trans hl,h.2⟩) (0,0) (.c6 Z Z Z Z Z Z (.nil _)) Z ⟨Le.refl _,⟨Nat.zero_le _,Nat.zero_le _,Z⟩⟩ ?_
 intro g s16 I16
 obtain ⟨k,ck⟩:=g
 obtain ⟨hk0,hck,hS2⟩:=I16.2
 simp only at hk0 hck hS2
 dsimp only
 refine Sr<|qbh Z Z Z<|Nt<|Zs<|?_
 refine qaa Z (fun c17=>?_) (fun c17=>?_)
 ·
  have hk:k < nf:=by omega
  obtain ⟨b,off,x,B1,m1,d1,B2,m2,d2,B3,m3,d3,rfl,hx,hcx,hpx,hlx,hbx,hnl⟩:=Fncs.at_ (hFn.le (h1.t h2|>.t h3|>.t I7.1|>.t h15|>.t I16.1)) hk
  refine Zk<|Zt<|Zs<|Zp<|Sr<|Zqm Z Z<|qac (qap Z Z Z Z Z Z hk) Z<|qac (qau Z Z Z (hcx.le (Lr D)) Z) Z<|qaj Z [_,_,_,_] Z Z ?_
  intro β18 s18 h18
  refine Zqa Z Z<|Wt 0 [_,_,_,_] Y9<|Nt<|Sr<|Zqm Z Z<|qac (qag 0 [_,_,_,_] Z Z Z Z Z) Z<|Jc Z Z Z (qjN D _ _ _ (hG.le (h1.t h2|>.t h3|>.t I7.1|>.t h15|>.t I16.1|>.t h18)) _ ck d x B1 B2 B3 m1 d1 m2 d2 m3 d3 (hpx.le h18) (hlx.le h18) (hbx.le h18) hck) ?_
  rintro _ _ s19 h19 ⟨rfl,rfl⟩
  refine At Z Z<|Sr<|Zqm Z Z<|qb2 Z Z Z<|Nt<|?_
  refine qaP Z (fun c20=>?_) (fun c20=>?_)
  ·
   have hE:qeK p=((fnC x ck).2,((ng+k:Nat):Int)):=by
     have h8:qbj p=((fnC x ck).2,((ng+k:Nat):Int)):=by rw [g44,hS2,qe2 hx,if_pos c20,hn1]
     rw [qkf (by rw [h8];exact c20),h8]
   refine Sr<|Zqm Z Z<|W0 Y5<|Wl 3 Y6<|Ws Y4<|Zqm Z Z<|qac (qaR Z Z (show IntKind.i64.wrap ((ng:Int)+(k:Int))=((ng+k:Nat):Int) by rw [w64 O O];simp)) Z<|Jc Z Z Z (qeA D _ _ _ _) ?_
   rintro _ _ s21 h21 ⟨rfl,rfl⟩
   refine Wt 2 [_,_] Y9<|Nt<|Zo<|Zc<|Zu<|Zu<|Zc<|Zu<|?_
   refine rR [_,_,_,_] L (.agg (us:=[_,_]) 2 Z Z Z Z Z (.nil)) Z (h1.t h2|>.t h3|>.t I7.1|>.t h15|>.t I16.1|>.t h18|>.t h19|>.t h21) fun _ hS2=>?_
   exact ⟨by rw [hE];rfl,rfl⟩
  have g60:¬ (fnC x ck).2≠0:=fun h=>h c20
  refine Zk<|Zb<|Zt<|Zr<|qaF Z Z Z (w64 O O)<|Zqm Z Z<|Zn<|?_
  refine qab ⟨(k+1,(fnC x ck).1),[_],kp,Z,⟨(I16.1.t h18|>.t h19),⟨by simp only;omega,by simp only;have hw:=qja (show (fnC x ck).2=0 by simpa using g60);omega,by simp only;rw [hS2,qe2 hx,if_neg g60];rfl⟩⟩,Oz⟩
 rw [List.drop_eq_nil_of_le O] at hS2
 have hsh:qbj p=(0,0):=by rw [g44,hS2];rfl
 have hV:=PV.of hU (by rw [hsh])
 refine Zl<|Zv<|Zv<|Zd<|Zt<|Zs<|Sr<|qac (qag 2 [_,_] Z Z Z Z Z) Z<|Jc Z Z Z (qrr D _ _ (hG.le (h1.t h2|>.t h3|>.t I7.1|>.t h15|>.t I16.1)) d p Ag Af ng cg nf cf (hGl.le (h1.t h2|>.t h3|>.t I7.1|>.t h15|>.t I16.1)) (hFn.le (h1.t h2|>.t h3|>.t I7.1|>.t h15|>.t I16.1)) hV) ?_
 rintro _ _ s22 h22 ⟨rfl,rfl⟩
 refine qgR Z Z Z Z<|qbv Z Z Z<|Nt<|?_
 refine qaa Z (fun c23=>?_) (fun c23=>?_)
 ·
  have hE:=qln hsh O
  refine Sr<|Jc Z Z Z (qeA D _ _ _ _) ?_
  rintro _ _ s24 h24 ⟨rfl,rfl⟩
  refine Wt 1 [_,_] Y9<|Nt<|Zo<|Zu<|?_
  refine rR [_,_,_] L (.agg (us:=[_,_]) 1 Z Z Z Z Z (.nil)) Z (h1.t h2|>.t h3|>.t I7.1|>.t h15|>.t I16.1|>.t h22|>.t h24) fun _ hS2=>?_
  exact ⟨by rw [hE];rfl,rfl⟩
 have hE:=qtv hsh O
 refine Zk<|Zt<|Sr<|qac (qam [] [_,_] Z Z Z Z Z Z) Z<|Wt 1 [_,_] Y9<|Nt<|Zo<|?_
 refine rR [_,_,_] L (.agg (us:=[_,_]) 1 Z Z Z Z Z (.nil)) Z (h1.t h2|>.t h3|>.t I7.1|>.t h15|>.t I16.1|>.t h22) fun _ hS2=>?_
 exact ⟨by rw [hE];rfl,rfl⟩
end Go.Proofs.YtpdnijphccdiiaaGreatDoor
