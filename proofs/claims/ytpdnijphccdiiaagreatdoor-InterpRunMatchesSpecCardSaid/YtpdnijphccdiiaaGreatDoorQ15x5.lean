/- Part 5. -/
import Derived.Test.YtpdnijphccdiiaaGreatDoorQ15x4
import Derived.Shelf.Sort.Plain
import Derived.Shelf.Slices.CompactI
import Derived.Shelf.Slices.In.SortNone
import Derived.WalkSmall
import Derived.ArgAppend
set_option linter.unusedVariables false
set_option linter.unusedSimpArgs false
set_option linter.unnecessarySimpa false
set_option maxRecDepth 100000
set_option maxHeartbeats 8000000
namespace Go.Proofs.YtpdnijphccdiiaaGreatDoor
open Go.Proofs.Tryz
open Go.FL
attribute [local irreducible] JC JO JA JB qaJ qaw qbM AC fill CellsAt QE Ev Mid
theorem qtF{P:Program}{TT:qaZ}{D:Nat}{fr:Fr}{ty:Nat}{K:Hl}{s0:World}{x:Operand}{t:Nat}{a:Int}(hx:lk fr x=some (.int .u32 a)):QE P TT D fr (.unOp .neg t x) ty K s0 (.int .u32 (w32 (0 - a))):=QE.pure fun _ dst pos af g ρ hρ w=>by
 have h:Op.unary .neg (.int .u32 a)=pure (.int .u32 (IntKind.u32.wrap (0 - a))):=rfl
 rw [IntKind.wrap_u32] at h
 simp [execOp,hρ x _ hx,h,w32]
theorem qmF{n:Nat}(h:n < 4294967296):4294967295 ^^^ n=4294967295 - n:=by
 have e:(~~~(BitVec.ofNat 32 n)).toNat=4294967295 - n:=by rw [BitVec.toNat_not,BitVec.toNat_ofNat,Nat.mod_eq_of_lt h]
 rw [← e,BitVec.not_def,BitVec.toNat_xor,BitVec.toNat_allOnes,BitVec.toNat_ofNat,Nat.mod_eq_of_lt h]
theorem qrM{P:Program}{TT:qaZ}{D:Nat}{fr:Fr}{ty:Nat}{K:Hl}{s0:World}{x:Operand}{t:Nat}{a:Int}(hx:lk fr x=some (.int .u32 a))(ha:U32 a):QE P TT D fr (.unOp .xor t x) ty K s0 (.int .u32 (4294967295 - a)):=QE.pure fun _ dst pos af g ρ hρ w=>by
 have h:=qhr (P:=P) (t:=t) (x:=4294967295) (y:=a) ⟨by decide,by decide⟩ ha w
 have e:Op.unary .xor (.int .u32 a)=Op.intBits .xor .u32 4294967295 a:=rfl
 have e2:binOp .xor t (.int .u32 4294967295) (.int .u32 a)=Op.intBits .xor .u32 4294967295 a:=rfl
 rw [e2] at h
 obtain ⟨n,rfl⟩:=Int.eq_ofNat_of_zero_le ha.1
 have hn:n < 4294967296:=by have:=ha.2;omega
 have e3:(((4294967295:Int).toNat ^^^ ((n:Nat):Int).toNat:Nat):Int)=4294967295 - (n:Int):=by
  show ((4294967295 ^^^ n:Nat):Int)=_
  rw [qmF hn];omega
 rw [e3] at h
 simp [execOp,hρ x _ hx,e,h]
def qdw(op x y:Int):Bool:=if op=1 then decide (x=0) else if op=14 then decide (x=y) else if op=15 then !decide (x=y) else if op=16 then decide (x < y) else if op=17 then decide (x≤y) else if op=18 then decide (y < x) else if op=19 then decide (y≤x) else if op=20 then (!decide (x=0) && !decide (y=0)) else (!decide (x=0) || !decide (y=0))
def opP(op x y:Int):Int:=if 14≤op∨op=1 then (if qdw op x y=true then 1 else 0) else if op=2 then w32 (0 - x) else if op=3 then 4294967295 - x else if op=4 then w32 (x * y) else if op=5 then x / y else if op=6 then x % y
 else if op=7 then (((x.toNat <<< y.toNat) % 4294967296:Nat):Int) else if op=8 then ((x.toNat >>> y.toNat:Nat):Int) else if op=9 then ((x.toNat &&& y.toNat:Nat):Int) else if op=10 then w32 (x+y) else if op=11 then w32 (x - y) else if op=12 then ((x.toNat ||| y.toNat:Nat):Int) else ((x.toNat ^^^ y.toNat:Nat):Int)
def qee(op y:Int):Int×Int:=if op < 1∨21 < op then (4,-1) else if (op=5∨op=6)∧y=0 then (26,-3) else (0,0)
theorem qnu(D:Nat)(L:Hl)(s:World)(k x y:Int)(hk:k=1∨(14≤k∧k≤21)):AC prog D 61 [.int .i64 k,.int .u32 x,.int .u32 y] L s fun v L' _=>v=.bool (qdw k x y)∧L=L':=by
 refine qai (fn:=f61) qao func61 V Z ntmps61 Z (rs:=[.tmp 6]) Z [(0,_),(1,_),(2,_)] Z<|Sr<|At Z Z<|Zs<|Sr<|Zqm Z Z<|Nt<|Zp<|Sr<|qar Z Z Z<|At Z Z<|?_
 refine qaa Z (fun c1=>?_) (fun c1=>?_)
 ·
  refine Sr<|Zqm Z Z<|qar Z Z Z<|At Z Z<|Zo<|Zc<|Zu<|?_
  refine rR [] L (.t1 Z) Z (Lr D) fun _ hS2=>?_
  refine ⟨?_,Z⟩
  simp [qat,qdw, *];done
 refine Sr<|qar Z Z Z<|At Z Z<|?_
 refine qaa Z (fun c2=>?_) (fun c2=>?_)
 ·
  refine Sr<|Zqm Z Z<|Zqm Z Z<|qar Z Z Z<|At Z Z<|Zo<|Zc<|Zu<|?_
  refine rR [] L (.t1 Z) Z (Lr D) fun _ hS2=>?_
  refine ⟨?_,Z⟩
  simp [qat,qdw, *];done
 refine Sr<|qar Z Z Z<|At Z Z<|?_
 refine qaa Z (fun c3=>?_) (fun c3=>?_)
 ·
  refine Sr<|Zqm Z Z<|Zqm Z Z<|qb2 Z Z Z<|At Z Z<|Zo<|Zc<|Zu<|?_
  refine rR [] L (.t1 Z) Z (Lr D) fun _ hS2=>?_
  refine ⟨?_,Z⟩
  simp [qat,qdw, *];done
 refine Sr<|qar Z Z Z<|At Z Z<|?_
 refine qaa Z (fun c4=>?_) (fun c4=>?_)
 ·
  refine Sr<|Zqm Z Z<|Zqm Z Z<|qbh Z Z Z<|At Z Z<|Zo<|Zc<|Zu<|?_
  refine rR [] L (.t1 Z) Z (Lr D) fun _ hS2=>?_
  refine ⟨?_,Z⟩
  simp [qat,qdw, *];done
 refine Sr<|qar Z Z Z<|At Z Z<|?_
 refine qaa Z (fun c5=>?_) (fun c5=>?_)
 ·
  refine Sr<|Zqm Z Z<|Zqm Z Z<|qmx Z Z Z<|At Z Z<|Zo<|Zc<|Zu<|?_
  refine rR [] L (.t1 Z) Z (Lr D) fun _ hS2=>?_
  refine ⟨?_,Z⟩
  simp [qat,qdw, *];done
 refine Sr<|qar Z Z Z<|At Z Z<|?_
 refine qaa Z (fun c6=>?_) (fun c6=>?_)
 ·
  refine Sr<|Zqm Z Z<|Zqm Z Z<|qbv Z Z Z<|At Z Z<|Zo<|Zc<|Zu<|?_
  refine rR [] L (.t1 Z) Z (Lr D) fun _ hS2=>?_
  refine ⟨?_,Z⟩
  simp [qat,qdw, *];done
 refine Sr<|qar Z Z Z<|At Z Z<|?_
 refine qaa Z (fun c7=>?_) (fun c7=>?_)
 ·
  refine Sr<|Zqm Z Z<|Zqm Z Z<|qfa Z Z Z<|At Z Z<|Zo<|Zc<|Zu<|?_
  refine rR [] L (.t1 Z) Z (Lr D) fun _ hS2=>?_
  refine ⟨?_,Z⟩
  simp [qat,qdw, *];done
 refine Sr<|qar Z Z Z<|At Z Z<|?_
 refine qaa Z (fun c8=>?_) (fun c8=>?_)
 ·
  refine Sr<|Zqm Z Z<|qb2 Z Z Z<|Zqm Z Z<|?_
  refine qaE (t:=46) Z (fun c9=>?_) (fun c9=>?_)
  ·
   refine Zg Z Z<|Zqm Z Z<|Zg Z Z<|qb2 Z Z Z<|ZqT Z Z Z<|At Z Z<|Zo<|Zc<|Zu<|?_
   refine rR [] L (.t1 Z) Z (Lr D) fun _ hS2=>?_
   refine ⟨?_,Z⟩
   simp [qat,qdw, *];done
  refine Wf Y4<|Wf Y4<|ZqF Z Z Z<|At Z Z<|Zo<|Zc<|Zu<|?_
  refine rR [] L (.t1 Z) Z (Lr D) fun _ hS2=>?_
  refine ⟨?_,Z⟩
  simp [qat,qdw, *];done
 refine Zk<|Zb<|Zt<|Sr<|Zqm Z Z<|qb2 Z Z Z<|Zqm Z Z<|?_
 refine qaE (t:=52) Z (fun c10=>?_) (fun c10=>?_)
 ·
  refine Wf Y4<|Wf Y4<|ZqT Z Z Z<|At Z Z<|Zo<|?_
  refine rR [] L (.t1 Z) Z (Lr D) fun _ hS2=>?_
  refine ⟨?_,Z⟩
  have h21:k=21:=by omega
  simp [qat,qdw, *];done
 refine Zg Z Z<|Zqm Z Z<|Zg Z Z<|qb2 Z Z Z<|ZqF Z Z Z<|At Z Z<|Zo<|?_
 refine rR [] L (.t1 Z) Z (Lr D) fun _ hS2=>?_
 refine ⟨?_,Z⟩
 have h21:k=21:=by omega
 simp [qat,qdw, *];done
theorem qia(D:Nat)(L:Hl)(s:World)(k:Int)(x y:Int)(hx:U32 x)(hy:U32 y)(hk:2≤k∧k≤13)(hz:k=5∨k=6→y≠0):AC prog D 62 [.int .i64 k,.int .u32 x,.int .u32 y] L s fun v L' _=>v=.int .u32 (opP k x y)∧L=L':=by
 refine qai (fn:=f62) qao func62 V Z ntmps62 Z (rs:=[.tmp 6]) Z [(0,_),(1,_),(2,_)] Z<|Sr<|At Z Z<|Zs<|Sr<|Zqm Z Z<|Nt<|Zp<|Sr<|qar Z Z Z<|At Z Z<|?_
 refine qaa Z (fun c1=>?_) (fun c1=>?_)
 ·
  refine Sr<|Zqm Z Z<|qac (qtF Z) Z<|At Z Z<|Zo<|Zc<|Zu<|?_
  refine rR [] L (.t1 Z) Z (Lr D) fun _ hS2=>?_
  refine ⟨?_,Z⟩
  have hk1:¬ (14≤k∨k=1):=by omega
  simp only [qat,opP]
  rw [if_neg hk1]
  simp [qda, *];done
 refine Sr<|qar Z Z Z<|At Z Z<|?_
 refine qaa Z (fun c2=>?_) (fun c2=>?_)
 ·
  refine Sr<|Zqm Z Z<|qac (qrM Z hx) Z<|At Z Z<|Zo<|Zc<|Zu<|?_
  refine rR [] L (.t1 Z) Z (Lr D) fun _ hS2=>?_
  refine ⟨?_,Z⟩
  have hk1:¬ (14≤k∨k=1):=by omega
  simp only [qat,opP]
  rw [if_neg hk1]
  simp [qda, *];done
 refine Sr<|qar Z Z Z<|At Z Z<|?_
 refine qaa Z (fun c3=>?_) (fun c3=>?_)
 ·
  refine Sr<|Zqm Z Z<|Zqm Z Z<|qac (qhn Z Z) Z<|At Z Z<|Zo<|Zc<|Zu<|?_
  refine rR [] L (.t1 Z) Z (Lr D) fun _ hS2=>?_
  refine ⟨?_,Z⟩
  have hk1:¬ (14≤k∨k=1):=by omega
  simp only [qat,opP]
  rw [if_neg hk1]
  simp [qda, *];done
 refine Sr<|qar Z Z Z<|At Z Z<|?_
 refine qaa Z (fun c4=>?_) (fun c4=>?_)
 ·
  refine Sr<|Zqm Z Z<|Zqm Z Z<|qac (qev Z Z (hz (.inl As))) Z<|At Z Z<|Zo<|Zc<|Zu<|?_
  refine rR [] L (.t1 Z) Z (Lr D) fun _ hS2=>?_
  refine ⟨?_,Z⟩
  have hk1:¬ (14≤k∨k=1):=by omega
  simp only [qat,opP]
  rw [if_neg hk1]
  have h5:k=5:=by assumption
  simp [h5,qda,qvw hx hy];done
 refine Sr<|qar Z Z Z<|At Z Z<|?_
 refine qaa Z (fun c5=>?_) (fun c5=>?_)
 ·
  refine Sr<|Zqm Z Z<|Zqm Z Z<|qac (qhD Z Z (hz (.inr As))) Z<|At Z Z<|Zo<|Zc<|Zu<|?_
  refine rR [] L (.t1 Z) Z (Lr D) fun _ hS2=>?_
  refine ⟨?_,Z⟩
  have hk1:¬ (14≤k∨k=1):=by omega
  simp only [qat,opP]
  rw [if_neg hk1]
  have h6:k=6:=by assumption
  simp [h6,modW hx];done
 refine Sr<|qar Z Z Z<|At Z Z<|?_
 refine qaa Z (fun c6=>?_) (fun c6=>?_)
 ·
  refine Sr<|Zqm Z Z<|Zqm Z Z<|qac (qhv Z Z qlG (qmh hx hy)) Z<|At Z Z<|Zo<|Zc<|Zu<|?_
  refine rR [] L (.t1 Z) Z (Lr D) fun _ hS2=>?_
  refine ⟨?_,Z⟩
  have hk1:¬ (14≤k∨k=1):=by omega
  simp only [qat,opP]
  rw [if_neg hk1]
  simp [qda, *];done
 refine Sr<|qar Z Z Z<|At Z Z<|?_
 refine qaa Z (fun c7=>?_) (fun c7=>?_)
 ·
  refine Sr<|Zqm Z Z<|Zqm Z Z<|qac (qhv Z Z qkO (qlp hx hy)) Z<|At Z Z<|Zo<|Zc<|Zu<|?_
  refine rR [] L (.t1 Z) Z (Lr D) fun _ hS2=>?_
  refine ⟨?_,Z⟩
  have hk1:¬ (14≤k∨k=1):=by omega
  simp only [qat,opP]
  rw [if_neg hk1]
  simp [qda, *];done
 refine Sr<|qar Z Z Z<|At Z Z<|?_
 refine qaa Z (fun c8=>?_) (fun c8=>?_)
 ·
  refine Sr<|Zqm Z Z<|Zqm Z Z<|qac (qhv Z Z qmm (qkE hx hy)) Z<|At Z Z<|Zo<|Zc<|Zu<|?_
  refine rR [] L (.t1 Z) Z (Lr D) fun _ hS2=>?_
  refine ⟨?_,Z⟩
  have hk1:¬ (14≤k∨k=1):=by omega
  simp only [qat,opP]
  rw [if_neg hk1]
  simp [qda, *];done
 refine Sr<|qar Z Z Z<|At Z Z<|?_
 refine qaa Z (fun c9=>?_) (fun c9=>?_)
 ·
  refine Sr<|Zqm Z Z<|Zqm Z Z<|qac (qe0 Z Z) Z<|At Z Z<|Zo<|Zc<|Zu<|?_
  refine rR [] L (.t1 Z) Z (Lr D) fun _ hS2=>?_
  refine ⟨?_,Z⟩
  have hk1:¬ (14≤k∨k=1):=by omega
  simp only [qat,opP]
  rw [if_neg hk1]
  simp [qda, *];done
 refine Sr<|qar Z Z Z<|At Z Z<|?_
 refine qaa Z (fun c10=>?_) (fun c10=>?_)
 ·
  refine Sr<|Zqm Z Z<|Zqm Z Z<|qac (qfO Z Z) Z<|At Z Z<|Zo<|Zc<|Zu<|?_
  refine rR [] L (.t1 Z) Z (Lr D) fun _ hS2=>?_
  refine ⟨?_,Z⟩
  have hk1:¬ (14≤k∨k=1):=by omega
  simp only [qat,opP]
  rw [if_neg hk1]
  simp [qda, *];done
 refine Sr<|qar Z Z Z<|At Z Z<|?_
 refine qaa Z (fun c11=>?_) (fun c11=>?_)
 ·
  refine Sr<|Zqm Z Z<|Zqm Z Z<|qac (qhv Z Z qnW (qnm hx hy)) Z<|At Z Z<|Zo<|Zc<|Zu<|?_
  refine rR [] L (.t1 Z) Z (Lr D) fun _ hS2=>?_
  refine ⟨?_,Z⟩
  have hk1:¬ (14≤k∨k=1):=by omega
  simp only [qat,opP]
  rw [if_neg hk1]
  simp [qda, *];done
 refine Zk<|Zb<|Zt<|Sr<|Zqm Z Z<|Zqm Z Z<|qac (qhv Z Z qkZ (qhr hx hy)) Z<|At Z Z<|Zo<|?_
 refine rR [] L (.t1 Z) Z (Lr D) fun _ hS2=>?_
 refine ⟨?_,Z⟩
 have hk1:¬ (14≤k∨k=1):=by omega
 simp only [qat,opP]
 rw [if_neg hk1]
 simp [qda, *];done
theorem qcE(D:Nat)(L:Hl)(s:World)(k:Int)(x y:Int)(hx:U32 x)(hy:U32 y):AC prog D 34 [.int .i64 k,.int .u32 x,.int .u32 y] L s fun v L' _=>v=.tuple #[.int .u32 (if (qee k y).1=0 then opP k x y else 0),.agg #[.int .i64 (qee k y).1,.int .i64 (qee k y).2]]∧L=L':=by
 refine qai (fn:=f34) qao func34 V Z ntmps34 Z (rs:=[.tmp 6,.cell 7 33]) Z [(0,_),(1,_),(2,_)] Z<|Sr<|Zqa Z Z<|qaj Z [_,_] Z Z ?_
 intro β1 s1 h1
 refine Nt<|Zs<|Zp<|?_
 refine qaU 8 (k < 1∨21 < k) ?_ ?_
 ·
  refine Zr<|Zqm Z Z<|qbh Z Z Z<|Zqm Z Z<|?_
  refine qak (t:=11) Z (fun c3=>?_) (fun c3=>?_)
  ·
   refine Wf Y4<|Wf Y4<|ZqT Z Z Z<|Zqa Z Z<|Zn<|?_
   refine qab (MidB.mk (Lr D) Sb Z ((decide_eq_true O).symm))
  refine Zg Z Z<|Zqm Z Z<|Zg Z Z<|qbv Z Z Z<|ZqF Z Z Z<|Zqa Z Z<|Zn<|?_
  refine qab (MidB.mk (Lr D) Sb Z (decide_eq_decide.2 O))
 intro s2 h2
 refine qaa Z (fun c4=>?_) (fun c4=>?_)
 ·
  have hE:qee k y=(4,-1):=if_pos c4
  refine Sr<|Jc Z Z Z (qcM D _ _ _ _) ?_
  rintro _ _ s5 h5 ⟨rfl,rfl⟩
  refine Zqa Z Z<|Wt 0 [_,_] Y9<|Nt<|Zo<|Zc<|Zu<|?_
  refine rR [_] L (.tmp Z (.agg (us:=[_,_]) 0 Z Z Z Z Z (.nil))) Z (h1.t h2|>.t h5) fun _ hS2=>?_
  refine ⟨?_,Z⟩
  rw [hE]
  rfl
 have g8:=c4
 refine qaU 16 ((k=5∨k=6)∧y=0) ?_ ?_
 ·
  refine Zr<|Zqm Z Z<|qar Z Z Z<|Zqm Z Z<|?_
  refine qak (t:=19) Z (fun c7=>?_) (fun c7=>?_)
  ·
   refine Wf Y4<|Wf Y4<|ZqT Z Z Z<|Zqm Z Z<|Zg Z Z<|Zqm Z Z<|Zg Z Z<|qar Z Z Z<|ZqT Z Z Z<|Zqa Z Z<|Zn<|?_
   refine qab (MidB.mk (Lr D) Sb Z (decide_eq_decide.2 O))
  refine Zg Z Z<|Zqm Z Z<|Zg Z Z<|qar Z Z Z<|ZqF Z Z Z<|Zqm Z Z<|?_
  refine qak (t:=23) Z (fun c8=>?_) (fun c8=>?_)
  ·
   refine Zg Z Z<|Zqm Z Z<|Zg Z Z<|qar Z Z Z<|ZqT Z Z Z<|Zqa Z Z<|Zn<|?_
   refine qab (MidB.mk (Lr D) Sb Z (decide_eq_decide.2 O))
  refine Wf Y4<|Wf Y4<|ZqF Z Z Z<|Zqa Z Z<|Zn<|?_
  refine qab (MidB.mk (Lr D) Sb Z ((decide_eq_false O).symm))
 intro s6 h6
 refine qaa Z (fun c9=>?_) (fun c9=>?_)
 ·
  have hE:qee k y=(26,-3):=(if_neg g8).trans (if_pos c9)
  refine Sr<|Jc Z Z Z (qcM D _ _ _ _) ?_
  rintro _ _ s10 h10 ⟨rfl,rfl⟩
  refine Zqa Z Z<|Wt 0 [_,_] Y9<|Nt<|Zo<|Zc<|Zu<|?_
  refine rR [_] L (.tmp Z (.agg (us:=[_,_]) 0 Z Z Z Z Z (.nil))) Z (h1.t h2|>.t h6|>.t h10) fun _ hS2=>?_
  refine ⟨?_,Z⟩
  rw [hE]
  rfl
 have g16:=c9
 have hE:qee k y=(0,0):=(if_neg g8).trans (if_neg g16)
 refine Zk<|Zb<|Zt<|Zs<|?_
 refine qaU 33 (14≤k∨k=1) ?_ ?_
 ·
  refine Zr<|Zqm Z Z<|qfa Z Z Z<|Zqm Z Z<|?_
  refine qak (t:=30) Z (fun c12=>?_) (fun c12=>?_)
  ·
   refine Wf Y4<|Wf Y4<|ZqT Z Z Z<|Zn<|?_
   refine qab (MidB.mk (Lr D) Sb Z ((decide_eq_true O).symm))
  refine Zg Z Z<|Zqm Z Z<|Zg Z Z<|qar Z Z Z<|ZqF Z Z Z<|Zn<|?_
  refine qab (MidB.mk (Lr D) Sb Z (decide_eq_decide.2 O))
 intro s11 h11
 refine qaa Z (fun c13=>?_) (fun c13=>?_)
 ·
  have g33:=c13
  refine Zs<|Sr<|Zqm Z Z<|Zqm Z Z<|Zqm Z Z<|Jc Z Z Z (qnu D _ _ k x y O) ?_
  rintro _ _ s14 h14 ⟨rfl,rfl⟩
  refine Nt<|?_
  refine qcf Z (fun c15=>?_) (fun c15=>?_)
  ·
   have hO:opP k x y=1:=by rw [opP,if_pos g33,if_pos c15]
   refine Sr<|qac (qam [] [_,_] Z Z Z Z Z Z) Z<|Zqa Z Z<|Wt 0 [_,_] Y9<|Nt<|Zo<|Zu<|Zu<|?_
   refine rR [_] L (.tmp Z (.agg (us:=[_,_]) 0 Z Z Z Z Z (.nil))) Z (h1.t h2|>.t h6|>.t h11|>.t h14) fun _ hS2=>?_
   refine ⟨?_,Z⟩
   rw [hE]
   rw [hO];rfl
  have hO:opP k x y=0:=by rw [opP,if_pos g33,if_neg (by rw [c15];decide)]
  refine Zk<|Zt<|Sr<|qac (qam [] [_,_] Z Z Z Z Z Z) Z<|Zqa Z Z<|Wt 0 [_,_] Y9<|Nt<|Zo<|Zu<|?_
  refine rR [_] L (.tmp Z (.agg (us:=[_,_]) 0 Z Z Z Z Z (.nil))) Z (h1.t h2|>.t h6|>.t h11|>.t h14) fun _ hS2=>?_
  refine ⟨?_,Z⟩
  rw [hE]
  rw [hO];rfl
 have g33:=c13
 refine Zk<|Zt<|Sr<|Zqm Z Z<|Zqm Z Z<|Zqm Z Z<|Jc Z Z Z (qia D _ _ k x y hx hy O (fun h h0=>g16 ⟨h,h0⟩)) ?_
 rintro _ _ s16 h16 ⟨rfl,rfl⟩
 refine qac (qam [] [_,_] Z Z Z Z Z Z) Z<|Zqa Z Z<|Wt 0 [_,_] Y9<|Nt<|Zo<|?_
 refine rR [_] L (.tmp Z (.agg (us:=[_,_]) 0 Z Z Z Z Z (.nil))) Z (h1.t h2|>.t h6|>.t h11|>.t h16) fun _ hS2=>?_
 refine ⟨?_,Z⟩
 rw [hE]
 rfl
end Go.Proofs.YtpdnijphccdiiaaGreatDoor
namespace Go.Proofs.YtpdnijphccdiiaaGreatDoor
open Go Go.FL Go.RowKit
def qvq(l:List Int):List Int:=l.mergeSort fun x y=>decide (x≤y)
open Go.FL
attribute [local irreducible] JC JO JA JB qaJ qaw qbM AC fill CellsAt QE Ev Mid
theorem qt0{p:Prg}(hu:prU p)(h:(qcN p).1=0):qcN p=(0,0):=(OKP.of hu h).2
def mnI(p:Prg)(x:Fnc)(kd:Int)(nd:Nd):List Int:=if nd.use.2.1=0 then [] else if (qaz p x nd.use.1).1.1=kd then [(qaz p x nd.use.1).1.2] else []
def msP(p:Prg)(x:Fnc)(kd:Int):List Int:=Lib.compact (qvq ((qcz x.body 0).flatMap (mnI p x kd)))
theorem qjc{x:Ex}:∀ {l:List Ex} {k:Nat},l[k]?=some x→qdD x.args+k+1≤qdD l
 | [],k,h=>by cases h
 | .mk a b c d e::r,0,h=>by
  simp at h;subst h
  rw [qdD,exN];simp only [Ex.args];omega
 | .mk a b c d e::r,k+1,h=>by
  have:=qjc (l:=r) (k:=k) (by simpa using h)
  rw [qdD,exN];omega
theorem qaS{α:Type}{l:List α}{k:Nat}{x:α}(h:l[k]?=some x):l.take (k+1)=l.take k++[x]:=by
 obtain ⟨hk,rfl⟩:=List.getElem?_eq_some_iff.1 h
 exact List.take_succ_eq_append_getElem hk
theorem qgU{x:Stm}:∀ {l:List Stm} {k:Nat},l[k]?=some x→qdD x.exprs+qch x.body+qch x.els+k+1≤qch l
 | [],k,h=>by cases h
 | .mk a b c d e::r,0,h=>by
  simp at h;subst h
  rw [qch,stN];simp only [Stm.exprs,Stm.body,Stm.els];omega
 | .mk a b c d e::r,k+1,h=>by
  have:=qgU (l:=r) (k:=k) (by simpa using h)
  rw [qch,stN];omega
theorem qg9:∀ l:List Stm,l.length≤qch l
 | []=>Nat.le_refl _
 | .mk a b c d e::r=>by have:=qg9 r;rw [qch,stN,List.length_cons];omega
theorem qeN{α β:Type}{R:α→β→Prop}{l:List α}{m:List β}{a:α}{b:β}(h:All2 R l m)(h1:R a b):All2 R (l++[a]) (m++[b]):=by
 induction h with
 | nil=>exact .cons h1 .nil
 | cons k _ ih=>exact .cons k ih
theorem qll{p:Prg}{x:Fnc}{nm:Str}(h:(qaz p x nm).2=false):(qaz p x nm).1=(0,0):=by
 unfold qaz at h ⊢
 split at h
 · cases h
 rename_i h1
 rw [if_neg h1]
 split at h
 · cases h
 rename_i h2
 rw [if_neg h2]
 split at h
 · cases h
 · rfl
def cal(p:Prg)(j k:Nat):Prop:=∃ x,p.funcs[j]?=some x∧(k:Int)∈msP p x 4
def glo(p:Prg)(j g:Nat):Prop:=∃ x,p.funcs[j]?=some x∧(g:Int)∈msP p x 3
inductive Rea(p:Prg):Nat→Nat→Prop
 | refl (i:Nat):Rea p i i
 | step {i k j:Nat}:cal p i k→Rea p k j→Rea p i j
def qtf{α:Type}:List Bool→List α→List α
 | b::B,x::l=>if b=true then x::qtf B l else qtf B l
 | [],_=>[]
 | _::_,[]=>[]
theorem qfF{α:Type}{q:α→Bool}:∀ {l:List α} {k j:Nat},qbb q l k=(j:Int)→k≤j∧∃ y,l[j - k]?=some y∧q y=true
  | [],k,j,h=>by rw [qbb] at h;omega
  | y::r,k,j,h=>by
    rw [qbb] at h
    split at h
    · rename_i h1
      have:j=k:=by omega
      subst this
      exact ⟨Nat.le_refl _,y,by simp,h1⟩
    · obtain ⟨h2,z,h3,h4⟩:=qfF h
      exact ⟨by omega,z,by rw [show j - k=(j - (k+1))+1 by omega];simpa using h3,h4⟩
theorem qdL{β:Type}:∀ {l:List (Str×β)} {i:Nat} {e:Str×β},(l.map (·.1)).Nodup→l[i]?=some e→l.find? (fun y=>decide (y.1=e.1))=some e
 | [],i,e,_,h=>by cases h
 | y::l,0,e,_,h=>by simp at h;subst h;simp
 | y::l,i+1,e,hn,h=>by
  rw [List.map_cons,List.nodup_cons] at hn
  have h1:l[i]?=some e:=by simpa using h
  have hne:¬ y.1=e.1:=fun e2=>hn.1 (e2▸List.mem_map.2 ⟨e,List.mem_of_getElem? h1,rfl⟩)
  rw [List.find?_cons_of_neg (by simpa using hne)]
  exact qdL hn.2 h1
theorem qrz{p:Prg}(h:qbU p=(0,0)):∃ (mi:Nat) (x:Fnc),qcV p.funcs=(mi:Int)∧p.funcs[mi]?=some x∧((ents p).find? fun e=>decide (e.1=qbY))=some (qbY,((4:Int),(mi:Int))):=by
 have hnd:=(qgJ (p:=p) (by rw [h])).1
 have h0:¬ qcV p.funcs < 0:=by
  intro hlt
  rw [qbU] at h
  split at h
  · rename_i h1;exact h1 (by rw [h])
  split at h
  · rename_i h1;exact h1 (by rw [h])
  first
   | (rw [if_pos hlt] at h;cases h)
   | cases h
 obtain ⟨mi,hmi⟩:=Int.eq_ofNat_of_zero_le (show 0≤qcV p.funcs by omega)
 obtain ⟨_,x,hx,hq⟩:=qfF (show qbb (fun x:Fnc=>decide (x.name=qbY)) p.funcs 0=(mi:Int) from hmi)
 have hnm:x.name=qbY:=by simpa using hq
 have hf:=qdL hnd (qeX (p:=p) (k:=mi) (x:=x) (by simpa using hx))
 rw [hnm] at hf
 exact ⟨mi,x,hmi,by simpa using hx,hf⟩
def marks(p:Prg)(F G:List Bool):Prop:=F.length=p.funcs.length∧G.length=p.globals.length∧∃ mi:Nat,qcV p.funcs=(mi:Int)∧mi < p.funcs.length∧(∀ j:Nat,F[j]?=some true↔Rea p mi j)∧∀ g:Nat,G[g]?=some true↔∃ j:Nat,F[j]?=some true∧glo p j g
theorem ql8{k y:Int}(h:(qee k y).1=0):qee k y=(0,0):=by
 unfold qee at h ⊢
 split at h
 · cases h
 rename_i h1
 rw [if_neg h1]
 split at h
 · cases h
 rename_i h2
 rw [if_neg h2]
theorem qmA(a:Int):U32 (w32 a):=by unfold w32;exact ⟨by omega,by omega⟩
theorem qf8{k x y:Int}(hx:U32 x)(hy:U32 y):U32 (opP k x y):=by
  have hX:x.toNat < 4294967296:=by have:=hx.2;omega
  have hY:y.toNat < 4294967296:=by have:=hy.2;omega
  rw [opP]
  by_cases g0:14≤k∨k=1
  · rw [if_pos g0]
    by_cases h:qdw k x y=true
    · rw [if_pos h];exact ⟨by decide,by decide⟩
    · rw [if_neg h];exact ⟨by decide,by decide⟩
  rw [if_neg g0]
  by_cases g2:k=2
  · rw [if_pos g2];exact qmA _
  rw [if_neg g2]
  by_cases g3:k=3
  · rw [if_pos g3];have:=hx.1;have:=hx.2;exact ⟨by omega,by omega⟩
  rw [if_neg g3]
  by_cases g4:k=4
  · rw [if_pos g4];exact qmA _
  rw [if_neg g4]
  by_cases g5:k=5
  · rw [if_pos g5];exact ⟨Int.ediv_nonneg hx.1 hy.1,Int.lt_of_le_of_lt (Int.ediv_le_self _ hx.1) hx.2⟩
  rw [if_neg g5]
  by_cases g6:k=6
  · rw [if_pos g6]
    rcases Int.lt_or_eq_of_le hy.1 with h5 | h5
    · exact ⟨Int.emod_nonneg _ O,Int.lt_trans (Int.emod_lt_of_pos _ h5) hy.2⟩
    · rw [← h5,Int.emod_zero];exact hx
  rw [if_neg g6]
  by_cases g7:k=7
  · rw [if_pos g7]
    have:=Nat.mod_lt (x.toNat <<< y.toNat) (show 0 < 4294967296 by omega)
    exact ⟨Int.natCast_nonneg _,by omega⟩
  rw [if_neg g7]
  by_cases g8:k=8
  · rw [if_pos g8]
    have:x.toNat >>> y.toNat≤x.toNat:=Nat.shiftRight_le _ _
    exact ⟨Int.natCast_nonneg _,by omega⟩
  rw [if_neg g8]
  by_cases g9:k=9
  · rw [if_pos g9]
    have:x.toNat &&& y.toNat≤x.toNat:=Nat.and_le_left
    exact ⟨Int.natCast_nonneg _,by omega⟩
  rw [if_neg g9]
  by_cases g10:k=10
  · rw [if_pos g10];exact qmA _
  rw [if_neg g10]
  by_cases g11:k=11
  · rw [if_pos g11];exact qmA _
  rw [if_neg g11]
  by_cases g12:k=12
  · rw [if_pos g12]
    have:x.toNat ||| y.toNat < 2 ^ 32:=Nat.or_lt_two_pow hX hY
    exact ⟨Int.natCast_nonneg _,by omega⟩
  rw [if_neg g12]
  have:x.toNat ^^^ y.toNat < 2 ^ 32:=Nat.xor_lt_two_pow hX hY
  exact ⟨Int.natCast_nonneg _,by omega⟩
end Go.Proofs.YtpdnijphccdiiaaGreatDoor
namespace Go.Proofs.YtpdnijphccdiiaaGreatDoor
open Go Go.FL
def OPp(op x y:Int):Option Int:=if (qee op y).1=0 then some (opP op x y) else none
end Go.Proofs.YtpdnijphccdiiaaGreatDoor
namespace Go.FL
open Go Go.RowKit
section
variable{P:Program}{TT:qaZ}{D n:Nat}{Q:qbD}{fr:Fr}{L K:Hl}{s s0:World}{ops:Array Oper}{rest:List Oper}{d ty:Nat}{pos:String}{af:Array Edge}{v:Value}{g:Option (Nat×Bool)}{fuel:Nat}{listed:Array Bool}
def AP(P:Program)(D:Nat)(f:FuncId)(args:List Value)(L:Hl)(s:World)(R:Value→Hl→World→Prop)(X:List PanicEntry→Hl→World→Prop):Prop:=
 qjy P f∧(OKL D L s→Calls P f args.toArray (fill L s) fun e w'=>∃ L' s',w'=fill L' s'∧OKL D L' s'∧Le D s s'∧((∃ v,e=.returned v∧R v L' s')∨∃ ch,e=.panicked ch∧X ch L' s'))
theorem AP.mono{f:FuncId}{args:List Value}{R R':Value→Hl→World→Prop}{X X':List PanicEntry→Hl→World→Prop}(h:AP P D f args L s R X)(hr:∀ v L' s',Le D s s'→R v L' s'→R' v L' s')(hx:∀ ch L' s',Le D s s'→X ch L' s'→X' ch L' s'):AP P D f args L s R' X':=
 ⟨h.1,fun ho=>(h.2 ho).mono fun _ _ ⟨L',s',h2,h3,h4,h5⟩=>⟨L',s',h2,h3,h4,h5.imp (fun ⟨v,a,b⟩=>⟨v,a,hr _ _ _ h4 b⟩) fun ⟨ch,a,b⟩=>⟨ch,a,hx _ _ _ h4 b⟩⟩⟩
theorem qa3{f:FuncId}{x:Operand}{xs:List Operand}{first captured vs:List Value}{ts:Array TypeId}{R:Value→Hl→World→Prop}{X:List PanicEntry→Hl→World→Prop}(hx:lk fr x=some (.func (.func f) first.toArray captured.toArray))(hv:lks fr xs=some vs)
  (hd:Nat.blt d n=true) (h:AP P D f (first++vs++captured) L s R X) (kx:∀ ch L' s',Le D s s'→X ch L' s'→∀ fr',Q (.panic ch) fr' L' s') (k:∀ v L' s',Le D s s'→R v L' s'→JO P TT D n ops Q rest ((d,v)::fr) L' s') :
  JO P TT D n ops Q (⟨some d,.call { callee:=.value x,args:=xs.toArray,argTypes:=ts },ty,pos,af,none⟩::rest) fr L s:=fun hT a hr ho=>by
 obtain ⟨⟨fn,h1,h2,h3⟩,hc⟩:=h
 have hρ:∀ x v,lk fr x=some v→a.eval x=v:=fun x v hx=>hr.ev hx
 simp only [wpList,Region.wanted,if_true]
 refine .inl ?_
 have hrun:(execOp a.eval ⟨some d,.call { callee:=.value x,args:=xs.toArray,argTypes:=ts },ty,pos,af,none⟩).run P (fill L s)=.ok (.enter f (first++vs++captured).toArray) (fill L s):=by
  have h2':¬ fn.name = "runtime.NumGoroutine" := by simpa using h2
  have h3':¬ fn.body=none:=by intro e;simp [e] at h3
  simp [execOp,resolve,Deferred.ofValue,invoke,callFunc,hρ x _ hx,qdK hρ hv,h1,h2',h3']
 simp only [Oper.wp,hrun,Oper.upon]
 refine (hc ho).mono ?_
 rintro e w' ⟨L',s',rfl,h4,h5,h6⟩
 rcases h6 with ⟨v,rfl,h6⟩ | ⟨ch,rfl,h6⟩
 · exact k v L' s' h5 h6 hT _ (hr.put hd v) h4
 · exact ⟨fr,L',s',hr,h4,rfl,kx _ _ _ h5 h6 fr⟩
theorem qbT{i:Nat}{f:FuncId}{x:Operand}{xs:List Operand}{first captured vs:List Value}{ts:Array TypeId}{R:Value→Hl→World→Prop}{X:List PanicEntry→Hl→World→Prop}(hi:ops[i]?=some ⟨some d,.call { callee:=.value x,args:=xs.toArray,argTypes:=ts },ty,pos,af,g⟩)(hg:GOK ops fr g)
    (hx:lk fr x=some (.func (.func f) first.toArray captured.toArray)) (hv:lks fr xs=some vs) (hd:Nat.blt d n=true) (h:AP P D f (first++vs++captured) L s R X) (kx:∀ ch L' s',Le D s s'→X ch L' s'→∀ fr',Q (.panic ch) fr' L' s')
    (k:∀ v L' s',Le D s s'→R v L' s'→(∀ x∈K,x∈L→x∈L')∧JA P TT D n ops Q K s0 fuel (listed.setIfInBounds i true) ((d,v)::fr) L' s') :
    JB P TT D n ops Q K s0 fuel listed i fr L s:=fun hT a hf ho hl hK=>by
  obtain ⟨⟨fn,h1,h2,h3⟩,hc⟩:=h
  have hρ:∀ x v,lk fr x=some v→a.eval x=v:=fun x v hx=>hf.ev hx
  simp only [wpOp,hi,hg.wanted hf,if_true]
  refine .inl ?_
  have hrun:(execOp a.eval ⟨some d,.call { callee:=.value x,args:=xs.toArray,argTypes:=ts },ty,pos,af,g⟩).run P (fill L s)=.ok (.enter f (first++vs++captured).toArray) (fill L s):=by
    have h2':¬ fn.name = "runtime.NumGoroutine" := by simpa using h2
    have h3':¬ fn.body=none:=by intro e;simp [e] at h3
    simp [execOp,resolve,Deferred.ofValue,invoke,callFunc,hρ x _ hx,qdK hρ hv,h1,h2',h3']
  simp only [Oper.wp,hrun,Oper.upon]
  refine (hc ho).mono ?_
  rintro e w' ⟨L',s',rfl,h4,h5,h6⟩
  rcases h6 with ⟨v,rfl,h6⟩ | ⟨ch,rfl,h6⟩
  · obtain ⟨k1,k2⟩:=k v L' s' h5 h6
    have hK2:∀ x∈K,x∈L':=fun x hx=>k1 x hx (hK x hx)
    exact ⟨⟨L',s',rfl,h4,hl.trans h5,hK2⟩,k2 hT _ (hf.put hd v) h4 (hl.trans h5) hK2⟩
  · exact ⟨hf.bare,L',s',h4,rfl,kx _ _ _ h5 h6⟩
theorem AP.mid{f:FuncId}{args:List Value}{R:Value→Hl→World→Prop}{Z:List PanicEntry→Hl→World→Prop}(X M Y:Hl)(h:AP P D f args (M++(X++Y)) s (fun v L' s'=>∃ M',L'=M'++(X++Y)∧R v M' s') fun ch L' s'=>∃ M',L'=M'++(X++Y)∧Z ch M' s') :
  AP P D f args (X++(M++Y)) s (fun v L' s'=>∃ M',L'=X++(M'++Y)∧R v M' s') fun ch L' s'=>∃ M',L'=X++(M'++Y)∧Z ch M' s':=by
 have hp:∀ M':Hl,(X++(M'++Y)).Perm (M'++(X++Y)):=fun M'=>by
  rw [← List.append_assoc,← List.append_assoc]
  exact (List.perm_append_comm).append_right Y
 refine ⟨h.1,fun ho=>?_⟩
 rw [qa7 (hp M) _ ho]
 refine (h.2 (ho.perm (hp M))).mono ?_
 rintro e w' ⟨L',s',rfl,h3,h4,h5⟩
 rcases h5 with ⟨v,h1,M',rfl,h6⟩ | ⟨ch,h1,M',rfl,h6⟩
 · exact ⟨X++(M'++Y),s',(qa7 (hp M').symm _ h3),h3.perm (hp M').symm,h4,.inl ⟨v,h1,M',rfl,h6⟩⟩
 · exact ⟨X++(M'++Y),s',(qa7 (hp M').symm _ h3),h3.perm (hp M').symm,h4,.inr ⟨ch,h1,M',rfl,h6⟩⟩
theorem qkv{K:Hl}{t:Nat}(hu:P.underlying t=some (.struct #[]))(hz:(P.info? t).bind (fun i=>i.zero)=some (Value.agg #[])):QE P TT D fr (.build t #[]) ty K s0 (.agg #[]):=
 QE.pure fun hT dst pos af g ρ hρ w=>by
  obtain ⟨i,h1,h2⟩:=Option.bind_eq_some_iff.1 hz
  simp [execOp,Instr.build,underlying,hu,zeroValue,typeInfo,h1,h2,Instr.fill,Value.cells]
theorem qpN{K:Hl}{t:Nat}{x:Operand}{v:Value}(hu:P.underlying t=some (.struct #[]))(hx:lk fr x=some v):QE P TT D fr (.makeInterface t x) ty K s0 (.iface t v):=
 QE.pure fun hT dst pos af g ρ hρ w=>by simp [execOp,Instr.makeInterface,underlying,hu,hρ x _ hx]
theorem qjd{dst:Option Nat}{x:Operand}{t:TypeId}{u:Value}(hx:lk fr x=some (.iface t u))(h:∀ fr',Q (.panic [{ v:=.iface t u,recovered:=false }]) fr' L s):JO P TT D n ops Q (⟨dst,.panic x,ty,pos,af,none⟩::rest) fr L s:=fun hT a hr ho=>by
 simp only [wpList,Region.wanted,if_true]
 refine .inl ?_
 have hrun:(execOp a.eval ⟨dst,.panic x,ty,pos,af,none⟩).run P (fill L s)=.halt (.panic (.iface t u)) (fill L s):=by
  simp [execOp,hr.ev hx,run_panic_iface]
 simp only [Oper.wp,hrun,Oper.upon]
 exact ⟨fr,L,s,hr,ho,rfl,h fr⟩
def qvC(TT:qaZ)(D:Nat)(rs:List ResultVar)(s0:World)(R:Value→Hl→World→Prop)(X:List PanicEntry→Hl→World→Prop):qbD
 | .panic ch,_,L,s=>∃ A L',L.Perm (A++L')∧Le D s0 s∧∀ s',Le D s s'→X ch L' s'
 | e,fr,L,s=>qbM TT D rs s0 R e fr L s
theorem qaN{rs:List ResultVar}{R:Value→Hl→World→Prop}{X:List PanicEntry→Hl→World→Prop}{e:Exit}{vs:List Value}(A L':Hl)(he:e=.normal∨e=.ret)(h:Res TT fr L rs vs)(hL:L=A++L')(hl:Le D s0 s)(hR:∀ s',Le D s s'→R (qat vs) L' s'):qvC TT D rs s0 R X e fr L s:=by
 rcases he with rfl | rfl
 · exact qbz A L' (.inl rfl) h hL hl hR
 · exact qbz A L' (.inr rfl) h hL hl hR
theorem qa5{rs:List ResultVar}{R:Value→Hl→World→Prop}{X:List PanicEntry→Hl→World→Prop}{ch:List PanicEntry}(A L':Hl)(hL:L.Perm (A++L'))(hl:Le D s0 s)(hX:∀ s',Le D s s'→X ch L' s'):qvC TT D rs s0 R X (.panic ch) fr L s:=⟨A,L',hL,hl,hX⟩
theorem qaK{J:Fr→Hl→World→Prop}{ch:List PanicEntry}(h:Q (.panic ch) fr L s):qaJ J Q (.panic ch) fr L s:=h
theorem qaA{id:Nat}{ch:List PanicEntry}(h:Q (.panic ch) fr L s):qaw id Q (.panic ch) fr L s:=h
theorem qa0{f:FuncId}{fn:Func}{c:Code}{args:List Value}{R:Value→Hl→World→Prop}{X:List PanicEntry→Hl→World→Prop}(hT:TabOK P TT)(hf:P.funcs[f]?=some fn)(hn:(fn.name == "runtime.NumGoroutine")=false)(hb:fn.body=some c)(hnt:fn.ntmps=n)(hle:Nat.ble args.length n=true){rs:List ResultVar}(hrs:fn.results.toList=rs)(fr0:Fr)(hfr:qeF 0 args=fr0)
    (h:JC P TT D n (qvC TT D rs s R X) c fr0 L s):AP P D f args L s R X:=by
  subst hfr;subst hrs
  refine ⟨⟨fn,hf,hn,by simp [hb]⟩,fun ho=>calls_of_wp hf hb ?_⟩
  have hle':args.length≤n:=Nat.le_of_ble_eq_true hle
  have hr:FrRel n { tmps:=args.toArray++Array.replicate (fn.ntmps - args.toArray.size) undef,defers:=[] } (qeF 0 args):=by
    refine ⟨by simp [hnt];omega,Z,fun t ht v hv=>?_,fun t v hv=>?_⟩
    · rw [qby] at hv
      simp at hv
      obtain ⟨hlt,_⟩:=List.getElem?_eq_some_iff.1 hv
      simp [Array.getElem?_append,hlt]
      exact (List.getElem?_eq_some_iff.1 hv).2
    · rw [qby] at hv
      simp at hv
      obtain ⟨hlt,_⟩:=List.getElem?_eq_some_iff.1 hv
      omega
  refine wp_mono (h hT _ hr ho) ?_
  rintro e a w ⟨fr',L1,s1,k1,k2,rfl,hq⟩
  have good:∀ {e:Exit},qbM TT D fn.results.toList s R e fr' L1 s1→bodyPost P fn (fun e w'=>∃ L' s',w'=fill L' s'∧OKL D L' s'∧Le D s s'∧((∃ v,e=.returned v∧R v L' s')∨∃ ch,e=.panicked ch∧X ch L' s')) e a (fill L1 s1):=by
    rintro e ⟨he,vs,A,L',hres,rfl,hle1,hR⟩
    obtain ⟨d1,d2,d3⟩:=qbm k2
    have hrun:(results fn a.tmps).run P (fill (A++L') s1)=.ok (qat vs) (fill (A++L') s1):=by
      have h1:=Res.run hT k1 k2 hres
      have h2:(fn.results.mapM (qmX a.tmps)).run P (fill (A++L') s1)=.ok vs.toArray (fill (A++L') s1):=by
        rw [Array.mapM_eq_mapM_toList]
        simp only [map_eq_pure_bind,Sem.run_bind,h1,Result.andThen_ok,Sem.run_pure]
      rw [qdg]
      simp only [Sem.run_bind,h2,Result.andThen_ok,Sem.run_pure]
      congr 1
      match vs with
      | []=>rfl
      | [v]=>rfl
      | v::u::r=>simp [qat]
    have hpost:∃ v,(results fn a.tmps).run P (fill (A++L') s1)=.ok v (fill (A++L') s1)∧∃ L'_1 s',fill (A++L') s1=fill L'_1 s'∧OKL D L'_1 s'∧Le D s s'∧((∃ v_1,Ending.returned v=.returned v_1∧R v_1 L'_1 s')∨∃ ch,Ending.returned v=.panicked ch∧X ch L'_1 s'):=
      ⟨_,hrun,L',fill A s1,d1,d2,hle1.trans d3,.inl ⟨_,rfl,hR _ d3⟩⟩
    rcases he with rfl | rfl
    · exact ⟨k1.defers,hpost⟩
    · exact ⟨k1.defers,hpost⟩
  cases e with
  | panic ch=>
    obtain ⟨A,L',hp,hle1,hX⟩:=hq
    obtain ⟨d1,d2,d3⟩:=qbm (k2.perm hp)
    rw [qa7 hp _ k2]
    exact ⟨k1.defers,L',fill A s1,d1,d2,hle1.trans d3,.inr ⟨ch,rfl,hX _ d3⟩⟩
  | _=>exact good hq
end
theorem qdz{P:Program}{TT:qaZ}{D:Nat}{fr:Fr}{K:Hl}{s0:World}{ty t e b off len cap:Nat}{x y:Operand}{ti te:TI}{ik:IntKind}{i:Int}(hx:lk fr x=some (.slice (some ⟨b,off,none⟩) len cap))(hy:lk fr y=some (.int ik i))(ht:qaB TT t=some ti)(hk:ti.kind=.sl e)(he:qaB TT e=some te)
  (hs:te.size=1) (h0:0≤i) (h1:i < len):QE P TT D fr (.indexAddr t x y) ty K s0 (.pointer (some ⟨b,off+i.toNat,none⟩)):=by
 obtain ⟨j,rfl⟩:=Int.eq_ofNat_of_zero_le h0
 exact qas hx hy ht hk he hs O
end Go.FL
namespace Go.Proofs.YtpdnijphccdiiaaGreatDoor
open Go Go.FL
theorem qhk{l:List Int}{i:Int}(h0:0≤i)(h:i < l.length):nth (wv l) (0+i.toNat)=some (.int .u32 (l.getD i.toNat 0)):=by
 have hl:i.toNat < l.length:=by omega
 rw [Nat.zero_add,qeE,List.getD_eq_getElem?_getD];simp [wv,hl]
theorem qfx{l:List Int}{i:Int}(v:Int)(h0:0≤i)(h:i < l.length):qbN (wv l) (0+i.toNat) [.int .u32 v]=wv (l.set i.toNat v):=by
 have hl:i.toNat < l.length:=by omega
 rw [Nat.zero_add,qdf _ _ _ (by simp [wv];omega)]
 simp only [wv,List.map_set]
 rw [List.set_eq_take_append_cons_drop]
 simp [hl]
theorem qfN{l:List Int}{i:Int}(h0:0≤i)(h:i < l.length):Nat.ble (0+i.toNat+1) (wv l).length=true:=by
 rw [Nat.ble_eq];simp [wv];omega
theorem qsx{a:Int}(h1:0≤a)(h2:a < 18446744073709551616):IntKind.u64.wrap a=a:=by simp [IntKind.wrap,IntKind.bits,IntKind.signed];omega
theorem u8w{x:Int}(h:U32 x):IntKind.u8.wrap x=((UInt8.ofNat x.toNat).toNat:Int):=by
 obtain ⟨h1,h2⟩:=h
 rw [IntKind.wrap_u8]
 simp [UInt8.toNat_ofNat']
 omega
open Go.FL
attribute [local irreducible] JC JO JA JB qaJ qaw qbM AC fill CellsAt QE Ev Mid
def CallV(p:Prg)(V:World→Ex→List Value→Prop)(s:World)(nm:Str)(args:List Ex)(w:Value):Prop:=∃ be bi A n c k fk,w=.func (.func 130) #[] #[.pointer (some ⟨be,0,none⟩),.pointer (some ⟨bi,0,none⟩)]∧CellsAt s be 0 [.slice A n c]∧CellsAt s bi 0 [.int .i64 ((k:Nat):Int)]∧Sl 1 V s A n c args∧qhx p nm=(k:Int)∧p.funcs[k]?=some fk∧args.length=fk.params.length
inductive ViE(p:Prg)(f:Fnc)(V:World→Ex→List Value→Prop)(s:World)(x:Ex):Value→Prop
 | num (b:Nat) (A1:Option Addr) (n1 c1:Nat) (hk:x.kind=1) (hc:CellsAt s b 0 [.int .i64 x.kind,.int .i64 x.op,.int .u32 x.num,St x.name,.slice A1 n1 c1]) (hu:U32 x.num):ViE p f V s x (.func (.func 162) #[] #[.pointer (some ⟨b,0,none⟩)])
 | slot (b:Nat) (hk:x.kind=2) (h0:0≤qa4 f x.name) (hl:qa4 f x.name < ((f.params.length+f.locals.length:Nat):Int)) (hc:CellsAt s b 0 [.int .i64 (qa4 f x.name)]):ViE p f V s x (.func (.func 192) #[] #[.pointer (some ⟨b,0,none⟩)])
 | con (b k:Nat) (g:Glo) (A n c) (hk:x.kind=2) (hs:¬ 0≤qa4 f x.name) (hg:qdi p x.name=(k:Int)) (hp:p.globals[k]?=some g) (h1:g.kind=1) (hc:CellsAt s b 0 [.int .i64 g.kind,St g.name,.int .u32 g.num,.slice A n c]) (hu:U32 g.num):ViE p f V s x (.func (.func 193) #[] #[.pointer (some ⟨b,0,none⟩)])
 | var (b k:Nat) (g:Glo) (hk:x.kind=2) (hs:¬ 0≤qa4 f x.name) (hg:qdi p x.name=(k:Int)) (hp:p.globals[k]?=some g) (h1:¬ g.kind=1) (hc:CellsAt s b 0 [.int .i64 (k:Int)]):ViE p f V s x (.func (.func 194) #[] #[.pointer (some ⟨b,0,none⟩)])
 | idx (b1 b2 k:Nat) (g:Glo) (A n c) (hk:x.kind=3) (hg:qdi p x.name=(k:Int)) (hp:p.globals[k]?=some g) (h3:g.kind=3) (h1:CellsAt s b1 0 [.int .i64 (k:Int)]) (h2:CellsAt s b2 0 [.slice A n c]) (hA:Sl 1 V s A n c x.args) (hn:0 < n):ViE p f V s x (.func (.func 164) #[] #[.pointer (some ⟨b1,0,none⟩),.pointer (some ⟨b2,0,none⟩)])
 | call (w:Value) (hk:x.kind=4) (h:CallV p V s x.name x.args w):ViE p f V s x w
 | get (hk:x.kind=5):ViE p f V s x (.func (.func 165) #[] #[])
 | una (b1 b2:Nat) (A1:Option Addr) (n1 c1:Nat) (A n c) (hk:x.kind=6) (h1:CellsAt s b1 0 [.int .i64 x.kind,.int .i64 x.op,.int .u32 x.num,St x.name,.slice A1 n1 c1]) (h2:CellsAt s b2 0 [.slice A n c]) (hA:Sl 1 V s A n c x.args) (hn:0 < n):ViE p f V s x (.func (.func 166) #[] #[.pointer (some ⟨b1,0,none⟩),.pointer (some ⟨b2,0,none⟩)])
 | bin (b1 b2 b3:Nat) (v1 v2:Value) (hk:x.kind=7) (h1:CellsAt s b1 0 [v1]) (h2:CellsAt s b2 0 [.int .i64 x.op]) (h3:CellsAt s b3 0 [v2]) (hv1:V s (qbA x.args 0) [v1]) (hv2:V s (qbA x.args 1) [v2]) (ho:4≤x.op∧x.op≤21):ViE p f V s x (.func (.func 195) #[] #[.pointer (some ⟨b1,0,none⟩),.pointer (some ⟨b2,0,none⟩),.pointer (some ⟨b3,0,none⟩)])
def VeR(p:Prg)(f:Fnc):Nat→World→Ex→List Value→Prop
 | 0,_,_,_=>False
 | d+1,s,x,cs=>∃ b w,cs=[.func (.func 123) #[] #[.pointer (some ⟨b,0,none⟩)]]∧CellsAt s b 0 [w]∧ViE p f (VeR p f d) s x w
inductive ViS(p:Prg)(f:Fnc)(E:World→Ex→List Value→Prop)(V:World→Stm→List Value→Prop)(s:World)(x:Stm):Value→Prop
 | setl (b1 b2:Nat) (v:Value) (hk:x.kind=1) (h0:0≤qa4 f x.name) (hl:qa4 f x.name < ((f.params.length+f.locals.length:Nat):Int)) (h1:CellsAt s b1 0 [v]) (h2:CellsAt s b2 0 [.int .i64 (qa4 f x.name)]) (hv:E s (qbA x.exprs 0) [v]):ViS p f E V s x (.func (.func 125) #[] #[.pointer (some ⟨b1,0,none⟩),.pointer (some ⟨b2,0,none⟩)])
 | setg (b1 b2 k:Nat) (g:Glo) (v:Value) (hk:x.kind=1) (hs:¬ 0≤qa4 f x.name) (hg:qdi p x.name=(k:Int)) (hp:p.globals[k]?=some g) (hg2:g.kind=2) (h1:CellsAt s b1 0 [v]) (h2:CellsAt s b2 0 [.int .i64 (k:Int)]) (hv:E s (qbA x.exprs 0) [v]):ViS p f E V s x (.func (.func 126) #[] #[.pointer (some ⟨b1,0,none⟩),.pointer (some ⟨b2,0,none⟩)])
 | store (b1 b2 k:Nat) (g:Glo) (A n c) (hk:x.kind=2) (hg:qdi p x.name=(k:Int)) (hp:p.globals[k]?=some g) (h3:g.kind=3) (h1:CellsAt s b1 0 [.int .i64 (k:Int)]) (h2:CellsAt s b2 0 [.slice A n c]) (hA:Sl 1 E s A n c x.exprs) (hn:1 < n):ViS p f E V s x (.func (.func 86) #[] #[.pointer (some ⟨b1,0,none⟩),.pointer (some ⟨b2,0,none⟩)])
 | cond (b1 b2 b3:Nat) (A n c B m e G k i) (hk:x.kind=3) (h1:CellsAt s b1 0 [.slice A n c]) (h2:CellsAt s b2 0 [.slice B m e]) (h3:CellsAt s b3 0 [.slice G k i]) (hA:Sl 1 E s A n c x.exprs) (hn:0 < n) (hB:Sl 1 V s B m e x.body) (hG:Sl 1 V s G k i x.els):ViS p f E V s x (.func (.func 88) #[] #[.pointer (some ⟨b1,0,none⟩),.pointer (some ⟨b2,0,none⟩),.pointer (some ⟨b3,0,none⟩)])
 | loop (b1 b2:Nat) (A n c B m e) (hk:x.kind=4) (h1:CellsAt s b1 0 [.slice A n c]) (h2:CellsAt s b2 0 [.slice B m e]) (hA:Sl 1 E s A n c x.exprs) (hn:0 < n) (hB:Sl 1 V s B m e x.body):ViS p f E V s x (.func (.func 90) #[] #[.pointer (some ⟨b1,0,none⟩),.pointer (some ⟨b2,0,none⟩)])
 | call (b1:Nat) (w:Value) (hk:x.kind=5) (h1:CellsAt s b1 0 [w]) (h:CallV p E s x.name x.exprs w):ViS p f E V s x (.func (.func 92) #[] #[.pointer (some ⟨b1,0,none⟩)])
 | ret (b1:Nat) (A n c) (hk:x.kind=6) (h1:CellsAt s b1 0 [.slice A n c]) (hA:Sl 1 E s A n c x.exprs) (hn:0 < n):ViS p f E V s x (.func (.func 93) #[] #[.pointer (some ⟨b1,0,none⟩)])
 | put (b1:Nat) (A n c) (hk:x.kind=7) (h1:CellsAt s b1 0 [.slice A n c]) (hA:Sl 1 E s A n c x.exprs) (hn:0 < n):ViS p f E V s x (.func (.func 94) #[] #[.pointer (some ⟨b1,0,none⟩)])
 | stop (b1:Nat) (A n c) (hk:x.kind=8) (h1:CellsAt s b1 0 [.slice A n c]) (hA:Sl 1 E s A n c x.exprs) (hn:0 < n):ViS p f E V s x (.func (.func 95) #[] #[.pointer (some ⟨b1,0,none⟩)])
 | brk (hk:x.kind=9):ViS p f E V s x (.func (.func 96) #[] #[])
 | cont (hk:x.kind=10):ViS p f E V s x (.func (.func 97) #[] #[])
def VsR(p:Prg)(f:Fnc):Nat→World→Stm→List Value→Prop
 | 0,_,_,_=>False
 | d+1,s,x,cs=>∃ b w,cs=[.func (.func 49) #[] #[.pointer (some ⟨b,0,none⟩)]]∧CellsAt s b 0 [w]∧ViS p f (VeR p f d) (VsR p f d) s x w
def FnV(p:Prg)(s:World)(f:Fnc)(cs:List Value):Prop:=∃ d A n c,cs=[.int .i64 ((f.params.length+f.locals.length:Nat):Int),.slice A n c]∧Sl 1 (VsR p f d) s A n c f.body
theorem CallV.le{D:Nat}{p:Prg}{V:World→Ex→List Value→Prop}{s s':World}{nm:Str}{args:List Ex}{w:Value}(hl:Le D s s')(hV:∀ x cs,V s x cs→V s' x cs)(h:CallV p V s nm args w):CallV p V s' nm args w:=by
 obtain ⟨be,bi,A,n,c,k,fk,h1,h2,h3,h4,h5⟩:=h
 exact ⟨be,bi,A,n,c,k,fk,h1,h2.le hl,h3.le hl,Sl.le (fun x cs h=>hV x cs h) h4 hl,h5⟩
theorem ViE.le{D:Nat}{p:Prg}{f:Fnc}{V:World→Ex→List Value→Prop}{s s':World}{x:Ex}{w:Value}(hl:Le D s s')(hV:∀ x cs,V s x cs→V s' x cs)(h:ViE p f V s x w):ViE p f V s' x w:=by
 have hS:∀ {A n c l},Sl 1 V s A n c l→Sl 1 V s' A n c l:=fun h=>Sl.le (fun x cs h=>hV x cs h) h hl
 cases h with
 | num b A1 n1 c1 hk hc hu=>exact .num b A1 n1 c1 hk (hc.le hl) hu
 | slot b hk h0 hl' hc=>exact .slot b hk h0 hl' (hc.le hl)
 | con b k g A n c hk hs hg hp h1 hc hu=>exact .con b k g A n c hk hs hg hp h1 (hc.le hl) hu
 | var b k g hk hs hg hp h1 hc=>exact .var b k g hk hs hg hp h1 (hc.le hl)
 | idx b1 b2 k g A n c hk hg hp h3 h1 h2 hA hn=>exact .idx b1 b2 k g A n c hk hg hp h3 (h1.le hl) (h2.le hl) (hS hA) hn
 | call w hk h=>exact .call w hk (h.le hl hV)
 | get hk=>exact .get hk
 | una b1 b2 A1 n1 c1 A n c hk h1 h2 hA hn=>exact .una b1 b2 A1 n1 c1 A n c hk (h1.le hl) (h2.le hl) (hS hA) hn
 | bin b1 b2 b3 v1 v2 hk h1 h2 h3 hv1 hv2 ho=>exact .bin b1 b2 b3 v1 v2 hk (h1.le hl) (h2.le hl) (h3.le hl) (hV _ _ hv1) (hV _ _ hv2) ho
theorem VeR.le{D:Nat}{p:Prg}{f:Fnc}{s s':World}(hl:Le D s s'):∀ {d:Nat} {x:Ex} {cs:List Value},VeR p f d s x cs→VeR p f d s' x cs
 | 0,_,_,h=>h
 | _+1,_,_,⟨b,w,h1,h2,h3⟩=>⟨b,w,h1,h2.le hl,h3.le hl fun _ _ h=>VeR.le hl h⟩
theorem ViS.le{D:Nat}{p:Prg}{f:Fnc}{E:World→Ex→List Value→Prop}{V:World→Stm→List Value→Prop}{s s':World}{x:Stm}{w:Value}(hl:Le D s s')(hE:∀ x cs,E s x cs→E s' x cs)(hV:∀ x cs,V s x cs→V s' x cs)(h:ViS p f E V s x w):ViS p f E V s' x w:=by
 have hS:∀ {A n c l},Sl 1 E s A n c l→Sl 1 E s' A n c l:=fun h=>Sl.le (fun x cs h=>hE x cs h) h hl
 have hT:∀ {A n c l},Sl 1 V s A n c l→Sl 1 V s' A n c l:=fun h=>Sl.le (fun x cs h=>hV x cs h) h hl
 cases h with
 | setl b1 b2 v hk h0 hl' h1 h2 hv=>exact .setl b1 b2 v hk h0 hl' (h1.le hl) (h2.le hl) (hE _ _ hv)
 | setg b1 b2 k g v hk hs hg hp hg2 h1 h2 hv=>exact .setg b1 b2 k g v hk hs hg hp hg2 (h1.le hl) (h2.le hl) (hE _ _ hv)
 | store b1 b2 k g A n c hk hg hp h3 h1 h2 hA hn=>exact .store b1 b2 k g A n c hk hg hp h3 (h1.le hl) (h2.le hl) (hS hA) hn
 | cond b1 b2 b3 A n c B m e G k i hk h1 h2 h3 hA hn hB hG=>exact .cond b1 b2 b3 A n c B m e G k i hk (h1.le hl) (h2.le hl) (h3.le hl) (hS hA) hn (hT hB) (hT hG)
 | loop b1 b2 A n c B m e hk h1 h2 hA hn hB=>exact .loop b1 b2 A n c B m e hk (h1.le hl) (h2.le hl) (hS hA) hn (hT hB)
 | call b1 w hk h1 h=>exact .call b1 w hk (h1.le hl) (h.le hl hE)
 | ret b1 A n c hk h1 hA hn=>exact .ret b1 A n c hk (h1.le hl) (hS hA) hn
 | put b1 A n c hk h1 hA hn=>exact .put b1 A n c hk (h1.le hl) (hS hA) hn
 | stop b1 A n c hk h1 hA hn=>exact .stop b1 A n c hk (h1.le hl) (hS hA) hn
 | brk hk=>exact .brk hk
 | cont hk=>exact .cont hk
theorem VsR.le{D:Nat}{p:Prg}{f:Fnc}{s s':World}(hl:Le D s s'):∀ {d:Nat} {x:Stm} {cs:List Value},VsR p f d s x cs→VsR p f d s' x cs
 | 0,_,_,h=>h
 | _+1,_,_,⟨b,w,h1,h2,h3⟩=>⟨b,w,h1,h2.le hl,h3.le hl (fun _ _ h=>VeR.le hl h) fun _ _ h=>VsR.le hl h⟩
theorem FnV.le{D:Nat}{p:Prg}{s s':World}(hl:Le D s s'){f:Fnc}{cs:List Value}(h:FnV p s f cs):FnV p s' f cs:=by
 obtain ⟨d,A,n,c,h1,h2⟩:=h
 exact ⟨d,A,n,c,h1,Sl.le (fun _ _ h=>VsR.le hl h) h2 hl⟩
def VeS(p:Prg)(f:Fnc)(d:Nat)(s:World)(A:Option Addr)(n c:Nat)(l:List Ex):Prop:=Sl 1 (VeR p f d) s A n c l
def VsS(p:Prg)(f:Fnc)(d:Nat)(s:World)(A:Option Addr)(n c:Nat)(l:List Stm):Prop:=Sl 1 (VsR p f d) s A n c l
theorem VeS.le{D:Nat}{p:Prg}{f:Fnc}{d:Nat}{s s':World}{A:Option Addr}{n c:Nat}{l:List Ex}(h:VeS p f d s A n c l)(hl:Le D s s'):VeS p f d s' A n c l:=Sl.le (fun _ _ h=>VeR.le hl h) h hl
theorem VsS.le{D:Nat}{p:Prg}{f:Fnc}{d:Nat}{s s':World}{A:Option Addr}{n c:Nat}{l:List Stm}(h:VsS p f d s A n c l)(hl:Le D s s'):VsS p f d s' A n c l:=Sl.le (fun _ _ h=>VsR.le hl h) h hl
theorem VeR.func{p:Prg}{f:Fnc}{d:Nat}{s:World}{x:Ex}{v:Value}(h:VeR p f d s x [v]):∃ b,v=.func (.func 123) #[] #[.pointer (some ⟨b,0,none⟩)]:=by
 cases d with
 | zero=>exact h.elim
 | succ d=>obtain ⟨b,w,h1,_⟩:=h;exact ⟨b,by simpa using h1⟩
theorem VsR.func{p:Prg}{f:Fnc}{d:Nat}{s:World}{x:Stm}{v:Value}(h:VsR p f d s x [v]):∃ b,v=.func (.func 49) #[] #[.pointer (some ⟨b,0,none⟩)]:=by
 cases d with
 | zero=>exact h.elim
 | succ d=>obtain ⟨b,w,h1,_⟩:=h;exact ⟨b,by simpa using h1⟩
theorem VeS.at_{p:Prg}{f:Fnc}{d:Nat}{s:World}{A:Option Addr}{n c:Nat}{l:List Ex}{k:Nat}(h:VeS p f d s A n c l)(hk:k < n):∃ B off b,A=some ⟨B,off,none⟩∧CellsAt s B (off+k) [.func (.func 123) #[] #[.pointer (some ⟨b,0,none⟩)]]∧VeR p f d s (qbA l k) [.func (.func 123) #[] #[.pointer (some ⟨b,0,none⟩)]]:=by
 have hl:k < l.length:=by rw [← h.1];exact hk
 obtain ⟨B,off,cs,h1,h2,h3,h4⟩:=h.2.2.2 k l[k] (List.getElem?_eq_getElem hl)
 have e:qbA l k=l[k]:=by rw [qbA,List.getD_eq_getElem?_getD,List.getElem?_eq_getElem hl];rfl
 match cs,h3 with
 | [v],_=>
  obtain ⟨b,rfl⟩:=h4.func
  exact ⟨B,off,b,h1,by rw [Nat.mul_one] at h2;exact h2,by rw [e];exact h4⟩
theorem VsS.at_{p:Prg}{f:Fnc}{d:Nat}{s:World}{A:Option Addr}{n c:Nat}{l:List Stm}{k:Nat}(h:VsS p f d s A n c l)(hk:k < n):∃ B off b x,A=some ⟨B,off,none⟩∧l[k]?=some x∧CellsAt s B (off+k) [.func (.func 49) #[] #[.pointer (some ⟨b,0,none⟩)]]∧VsR p f d s x [.func (.func 49) #[] #[.pointer (some ⟨b,0,none⟩)]]:=by
 have hl:k < l.length:=by rw [← h.1];exact hk
 obtain ⟨B,off,cs,h1,h2,h3,h4⟩:=h.2.2.2 k l[k] (List.getElem?_eq_getElem hl)
 match cs,h3 with
 | [v],_=>
  obtain ⟨b,rfl⟩:=h4.func
  exact ⟨B,off,b,l[k],h1,List.getElem?_eq_getElem hl,by rw [Nat.mul_one] at h2;exact h2,h4⟩
structure MC where
 bm:Nat
 bg:Nat
 bf:Nat
 ba:Nat
 Af:Option Addr
 nF:Nat
 cF:Nat
 ng:Nat
 nf:Nat
 ab:List (Option Nat)
def MBv(c:MC)(N:Nat)(res:Int)(m:MS)(iv ov:Value)(st cd:Int)(fv:Value):Nat×Obj:=(c.bm,cb [.slice c.Af c.nF c.cF,.slice (some ⟨c.bg,0,none⟩) c.ng c.ng,.slice (some ⟨c.ba,0,none⟩) c.ng c.ng,fv,.int .u32 res,.int .i64 (m.calls:Int),iv,.int .i64 (m.left:Int),ov,.int .i64 st,.int .u32 cd,.int .i64 ((N:Int) - (m.left:Int))] 51)
abbrev MB(c:MC)(N:Nat)(res:Int)(m:MS)(iv ov:Value)(st cd:Int):Nat×Obj:=MBv c N res m iv ov st cd (.slice (some ⟨c.bf,0,none⟩) c.nf c.nf)
def MGb(c:MC)(m:MS):Nat×Obj:=(c.bg,cb (wv m.glo) 29)
def MFb(c:MC)(m:MS):Nat×Obj:=(c.bf,cb (wv m.frm) 29)
def qb1:List (Option Nat)→List (List Int)→Hl
 | some b::r,l::ls=>(b,cb (wv l) 29)::qb1 r ls
 | none::r,_::ls=>qb1 r ls
 | _,_=>[]
def qgE:List (Option Nat)→List Glo→List Value
 | some b::r,g::gs=>.slice (some ⟨b,0,none⟩) g.num.toNat g.num.toNat::qgE r gs
 | none::r,_::gs=>.slice none 0 0::qgE r gs
 | _,_=>[]
structure MG(p:Prg)(c:MC)(N:Nat)(m:MS)(iv ov:Value)(R:Hl)(s:World):Prop where
 inp:∃ A n q,iv=.slice A n q∧Bts s A n q m.inp
 out:∃ Mo,R=qb1 c.ab m.arr++Mo∧FL.Own 5 1 Mo ov m.out.length (bv m.out)
 ug:∀ x∈m.glo,U32 x
 uf:∀ x∈m.frm,U32 x
 ua:∀ l∈m.arr,∀ x∈l,U32 x
 ng:c.ng=p.globals.length
 lg:m.glo.length=c.ng
 lf:m.frm.length=c.nf
 lb:c.ab.length=c.ng
 la:m.arr.length=c.ng
 ar:∀ (k:Nat) (g:Glo),p.globals[k]?=some g→g.kind=3→(∃ b,c.ab[k]?=some (some b))∧(m.arr.getD k []).length=g.num.toNat
 lo:m.out.length≤20000
 lc:m.calls≤100
 ll:m.left≤N
 lN:N≤50000000
structure CT(p:Prg)(c:MC)(s:World):Prop where
 fn:Sl 2 (FnV p) s c.Af c.nF c.cF p.funcs
 ar:CellsAt s c.ba 0 (qgE c.ab p.globals)
 fs:∀ f∈p.funcs,f.params.length+f.locals.length≤100
 gu:∀ g∈p.globals,U32 g.num
theorem MG.le{D:Nat}{p:Prg}{c:MC}{N:Nat}{m:MS}{iv ov:Value}{R:Hl}{s s':World}(h:MG p c N m iv ov R s)(hl:Le D s s'):MG p c N m iv ov R s':=by
 obtain ⟨A,n,q,h1,h2⟩:=h.inp
 exact ⟨⟨A,n,q,h1,h2.le hl⟩,h.out,h.ug,h.uf,h.ua,h.ng,h.lg,h.lf,h.lb,h.la,h.ar,h.lo,h.lc,h.ll,h.lN⟩
theorem CT.le{D:Nat}{p:Prg}{c:MC}{s s':World}(h:CT p c s)(hl:Le D s s'):CT p c s':=⟨Sl.le (fun _ _ h=>FnV.le hl h) h.fn hl,h.ar.le hl,h.fs,h.gu⟩
def qsv(ch:List PanicEntry):Prop:=ch=[{ v:=.iface 117 (.agg #[]),recovered:=false }]
def FIN(c:MC)(N:Nat)(m:MS)(st cd:Int)(Z:Hl):Prop:=∃ u0 u1 u2 u3 u4 u5 u6 u7 ov Mo K,Z.Perm ((c.bm,cb [u0,u1,u2,u3,u4,u5,u6,u7,ov,.int .i64 st,.int .u32 cd,.int .i64 ((N:Int) - (m.left:Int))] 51)::(Mo++K))∧FL.Own 5 1 Mo ov m.out.length (bv m.out)∧m.out.length≤20000∧m.left≤N
theorem MG.finv{p:Prg}{c:MC}{N:Nat}{m:MS}{iv ov:Value}{R:Hl}{s:World}(h:MG p c N m iv ov R s)(res st cd:Int)(fv:Value)(X:Hl):FIN c N m st cd (MBv c N res m iv ov st cd fv::(X++R)):=by
 obtain ⟨Mo,rfl,hO⟩:=h.out
 refine ⟨_,_,_,_,_,_,_,_,ov,Mo,X++qb1 c.ab m.arr,List.Perm.cons _ ?_,hO,h.lo,h.ll⟩
 rw [← List.append_assoc]
 exact List.perm_append_comm
theorem MG.fin{p:Prg}{c:MC}{N:Nat}{m:MS}{iv ov:Value}{R:Hl}{s:World}(h:MG p c N m iv ov R s)(res st cd:Int):FIN c N m st cd (MB c N res m iv ov st cd::MGb c m::MFb c m::R):=h.finv res st cd _ [MGb c m,MFb c m]
theorem FIN.app{c:MC}{N:Nat}{m:MS}{st cd:Int}{Z:Hl}(h:FIN c N m st cd Z)(X:Hl):FIN c N m st cd (Z++X):=by
 obtain ⟨u0,u1,u2,u3,u4,u5,u6,u7,ov,Mo,K,h1,h2⟩:=h
 exact ⟨u0,u1,u2,u3,u4,u5,u6,u7,ov,Mo,K++X,by simpa [List.append_assoc] using h1.append_right X,h2⟩
def MC.wf(c:MC)(bf nf:Nat):MC:={ c with bf:=bf,nf:=nf }
theorem FIN.wf{c:MC}{bf nf N:Nat}{m:MS}{st cd:Int}{Z:Hl}(h:FIN (c.wf bf nf) N m st cd Z):FIN c N m st cd Z:=h
def okE(p:Prg)(c:MC)(N:Nat){α:Type}(r:ER α)(V:α→Value→Prop)(RS:α→Int)(X L:Hl)(v:Value)(L':Hl)(s':World):Prop:=∃ a m' iv ov R,r=.ok a m'∧V a v∧L'=X++(MB c N (RS a) m' iv ov 0 0::MGb c m'::MFb c m'::(R++L))∧MG p c N m' iv ov R s'
def qd0(c:MC)(N:Nat){α:Type}(r:ER α)(X L:Hl)(ch:List PanicEntry)(L':Hl)(_:World):Prop:=qsv ch∧∃ m' st cd Z,r=.fin m' st cd∧L'=X++(Z++L)∧FIN c N m' st cd Z
theorem AP.fr{p:Prg}{D:Nat}{g:FuncId}{args:List Value}{s:World}{c:MC}{N:Nat}{res:Int}{m:MS}{iv ov:Value}{R:Hl}{α:Type}{r:ER α}{V:α→Value→Prop}{RS:α→Int}(h:∀ L,AP Tryz.prog D g args (MB c N res m iv ov 0 0::MGb c m::MFb c m::(R++L)) s (okE p c N r V RS [] L) (qd0 c N r [] L))(X L:Hl):AP Tryz.prog D g args (X++(MB c N res m iv ov 0 0::MGb c m::MFb c m::(R++L))) s (okE p c N r V RS X L) (qd0 c N r X L):=
 (AP.mid (R:=fun v M' s'=>∃ a m' iv ov R,r=.ok a m'∧V a v∧M'=MB c N (RS a) m' iv ov 0 0::MGb c m'::MFb c m'::R∧MG p c N m' iv ov R s') (Z:=fun ch M' _=>qsv ch∧∃ m' st cd,r=.fin m' st cd∧FIN c N m' st cd M') X (MB c N res m iv ov 0 0::MGb c m::MFb c m::R) L
  ((h (X++L)).mono (fun v L' s' _ ⟨a,m',iv,ov,R,h1,h2,h3,h4⟩=>⟨_,h3,a,m',iv,ov,R,h1,h2,rfl,h4⟩) fun ch L' s' _ ⟨h1,m',st,cd,Z,h2,h3,h4⟩=>⟨Z,h3,h1,m',st,cd,h2,h4⟩)).mono
  (fun v L' s' _ ⟨M',h0,a,m',iv,ov,R,h1,h2,h3,h4⟩=>⟨a,m',iv,ov,R,h1,h2,by rw [h0,h3];rfl,h4⟩) fun ch L' s' _ ⟨M',h0,h1,m',st,cd,h2,h3⟩=>⟨h1,m',st,cd,M',h2,h0,h3⟩
def VE(a:Int)(v:Value):Prop:=v=.int .u32 a∧U32 a
def VS(y:Int×Int)(v:Value):Prop:=v=.int .i64 y.1∧U32 y.2∧(y.1≠3→y.2=0)
def RE(_:Int):Int:=0
def RS(y:Int×Int):Int:=y.2
def EOK(p:Prg)(D n:Nat):Prop:=∀ (L:Hl) (s:World) (c:MC) (N:Nat) (f:Fnc) (d:Nat) (x:Ex) (b:Nat) (m:MS) (iv ov:Value) (R:Hl),CT p c s→c.nf=f.params.length+f.locals.length→VeR p f d s x [.func (.func 123) #[] #[.pointer (some ⟨b,0,none⟩)]]→MG p c N m iv ov R s→(sem p OPp n).e f x m≠.out →
 AP Tryz.prog D 123 [.pointer (some ⟨c.bm,0,none⟩),.pointer (some ⟨b,0,none⟩)] (MB c N 0 m iv ov 0 0::MGb c m::MFb c m::(R++L)) s (okE p c N ((sem p OPp n).e f x m) VE RE [] L) (qd0 c N ((sem p OPp n).e f x m) [] L)
def TOK(p:Prg)(D n:Nat):Prop:=∀ (L:Hl) (s:World) (c:MC) (N:Nat) (f:Fnc) (d:Nat) (x:Stm) (b:Nat) (m:MS) (iv ov:Value) (R:Hl),CT p c s→c.nf=f.params.length+f.locals.length→VsR p f d s x [.func (.func 49) #[] #[.pointer (some ⟨b,0,none⟩)]]→MG p c N m iv ov R s→(sem p OPp n).t f x m≠.out →
 AP Tryz.prog D 49 [.pointer (some ⟨c.bm,0,none⟩),.pointer (some ⟨b,0,none⟩)] (MB c N 0 m iv ov 0 0::MGb c m::MFb c m::(R++L)) s (okE p c N ((sem p OPp n).t f x m) VS RS [] L) (qd0 c N ((sem p OPp n).t f x m) [] L)
def COK(p:Prg)(D n:Nat):Prop:=∀ (L:Hl) (s:World) (c:MC) (N k:Nat) (fk:Fnc) (vs:List Int) (A:Option Addr) (n1 c1:Nat) (m:MS) (iv ov:Value) (R:Hl),CT p c s→Wds s A n1 c1 vs→p.funcs[k]?=some fk→vs.length=fk.params.length→MG p c N m iv ov R s→(sem p OPp n).c k vs m≠.out →
 AP Tryz.prog D 52 [.pointer (some ⟨c.bm,0,none⟩),.int .i64 (k:Int),.slice A n1 c1] (MB c N 0 m iv ov 0 0::MGb c m::MFb c m::(R++L)) s (okE p c N ((sem p OPp n).c k vs m) VE RE [] L) (qd0 c N ((sem p OPp n).c k vs m) [] L)
theorem qaW{α β:Type}{a:ER α}{k:α→MS→ER β}{r:ER β}(h:r=a.and k)(hr:r≠.out):a≠.out:=by rintro rfl;exact hr h
theorem qbt{α β:Type}{a:ER α}{k:α→MS→ER β}{r:ER β}{m:MS}{st cd:Int}(h:r=a.and k)(h2:a=.fin m st cd):r=.fin m st cd:=by rw [h,h2];rfl
theorem MG.stp{p:Prg}{c:MC}{N:Nat}{m:MS}{iv ov:Value}{R:Hl}{s:World}(h:MG p c N m iv ov R s):MG p c N { m with left:=m.left - 1 } iv ov R s:=⟨h.inp,h.out,h.ug,h.uf,h.ua,h.ng,h.lg,h.lf,h.lb,h.la,h.ar,h.lo,h.lc,Nat.le_trans (Nat.sub_le _ _) h.ll,h.lN⟩
open Go.Proofs.Tryz
theorem qnE(D:Nat)(X:Hl)(s:World)(c:MC)(N:Nat)(res:Int)(m:MS)(iv ov:Value)(st cd:Int)(fv:Value):AP prog D 53 [.pointer (some ⟨c.bm,0,none⟩),.int .i64 st,.int .u32 cd] (MBv c N res m iv ov 0 0 fv::X) s (fun _ _ _=>False) fun ch L' _=>qsv ch∧L'=MBv c N res m iv ov st cd fv::X:=by
 refine qa0 (fn:=f53) qao func53 V Z ntmps53 Z (rs:=[]) Z [(0,_),(1,_),(2,_)] Z<|Sr<|Zqm Z Z<|Zqm Z Z<|Zqm Z Z<|Zqm Z Z<|qcd Z Z<|Wb Y5<|qac (qbs Z Z Z Z) Z<|Wt 0 [_,_,_,_,_,_,_,_,_,_,_,_] Y9<|qcd Z Z<|Wb Y5<|qac (qbs Z Z Z Z) Z<|Wt 0 [_,_,_,_,_,_,_,_,_,_,_,_] Y9<|Nt<|Zr<|qac (qkv V V) Z<|qac (qpN V Z) Z ?_
 refine qjd Z (fun fr9=>?_)
 repeat (first | refine qaK ?_ | refine qaA ?_)
 refine qa5 [] _ Pr (Lr D) fun _ hS2=>?_
 exact ⟨rfl,rfl⟩
theorem qju(D:Nat)(X:Hl)(s:World)(c:MC)(N:Nat)(res:Int)(m:MS)(iv ov:Value)(hl:m.left≤N)(hN:N≤50000000):AP prog D 50 [.pointer (some ⟨c.bm,0,none⟩)] (MB c N res m iv ov 0 0::X) s (fun _ L' _=>¬ m.left=0∧L'=MB c N res { m with left:=m.left - 1 } iv ov 0 0::X) fun ch L' _=>qsv ch∧m.left=0∧L'=MB c N res m iv ov 0 0::X:=by
 refine qa0 (fn:=f50) qao func50 V Z ntmps50 Z (rs:=[]) Z [(0,_)] Z<|Zs<|Sr<|Zqm Z Z<|qcd Z Z<|Wb Y5<|Wl 0 Y6<|qar Z Z Z<|Nt<|?_
 refine qaa Z (fun c1=>?_) (fun c1=>?_)
 ·
  have h0:=c1
  refine Zr<|qac (qkv V V) Z<|qac (qpN V Z) Z ?_
  refine qjd Z (fun fr9=>?_)
  repeat (first | refine qaK ?_ | refine qaA ?_)
  refine qa5 [] _ Pr (Lr D) fun _ hS2=>?_
  exact ⟨rfl,by omega,rfl⟩
 have h0:=c1
 refine Zk<|Zt<|Sr<|Zqm Z Z<|qcd Z Z<|Wb Y5<|Wl 0 Y6<|qac (qae (qbd Z Z (w64 O O)) (congrArg (Value.int .i64) (show (m.left:Int) - 1=((m.left - 1:Nat):Int) by omega))) Z<|qcd Z Z<|Wb Y5<|Wt 0 [_,_,_,_,_,_,_,_,_,_,_,_] Y9<|Nt<|Zr<|Zqm Z Z<|qcd Z Z<|Wb Y5<|qac (qbs Z Z Z Z) Z<|Wl 0 Y6<|qac (qae (qaR Z Z (w64 O O)) (congrArg (Value.int .i64) (show (N:Int) - (m.left:Int)+1=(N:Int) - ((m.left - 1:Nat):Int) by omega))) Z ?_
 refine qcd Z Z<|Wb Y5<|qac (qbs Z Z Z Z) Z<|Wt 0 [_,_,_,_,_,_,_,_,_,_,_,_] Y9<|Zn ?_
 refine qaN [] _ (.inl Z) (.nil) Z (Lr D) fun _ hS2=>?_
 exact ⟨by omega,rfl⟩
theorem qc2(D:Nat)(X Y:Hl)(s:World)(c:MC)(N:Nat)(res:Int)(m:MS)(iv ov:Value)(st cd:Int){fv:Value}:AP prog D 53 [.pointer (some ⟨c.bm,0,none⟩),.int .i64 st,.int .u32 cd] (X++(MBv c N res m iv ov 0 0 fv::Y)) s (fun _ _ _=>False) fun ch L' _=>qsv ch∧L'=X++(MBv c N res m iv ov st cd fv::Y):=
 (AP.mid (R:=fun _ _ _=>False) (Z:=fun ch M' _=>qsv ch∧M'=[MBv c N res m iv ov st cd fv]) X [MBv c N res m iv ov 0 0 fv] Y ((qnE D (X++Y) s c N res m iv ov st cd fv).mono (fun _ _ _ _ h=>h.elim) fun ch L' s' _ h=>⟨[MBv c N res m iv ov st cd fv],h.2,h.1,rfl⟩)).mono
  (fun _ _ _ _ ⟨_,_,h⟩=>h) fun ch L' s' _ ⟨M',h0,h1,h2⟩=>⟨h1,by rw [h0,h2];rfl⟩
theorem VeR.opn{p:Prg}{f:Fnc}{d b:Nat}{s:World}{x:Ex}(h:VeR p f d s x [.func (.func 123) #[] #[.pointer (some ⟨b,0,none⟩)]]):∃ e w,CellsAt s b 0 [w]∧ViE p f (VeR p f e) s x w:=by
 cases d with
 | zero=>exact h.elim
 | succ e=>
  obtain ⟨b2,w,h1,h2,h3⟩:=h
  simp only [List.cons.injEq,Value.func.injEq,Array.mk.injEq,Value.pointer.injEq,Option.some.injEq,Addr.mk.injEq,and_true,true_and] at h1
  subst h1
  exact ⟨e,w,h2,h3⟩
theorem VsR.opn{p:Prg}{f:Fnc}{d b:Nat}{s:World}{x:Stm}(h:VsR p f d s x [.func (.func 49) #[] #[.pointer (some ⟨b,0,none⟩)]]):∃ e w,CellsAt s b 0 [w]∧ViS p f (VeR p f e) (VsR p f e) s x w:=by
 cases d with
 | zero=>exact h.elim
 | succ e=>
  obtain ⟨b2,w,h1,h2,h3⟩:=h
  simp only [List.cons.injEq,Value.func.injEq,Array.mk.injEq,Value.pointer.injEq,Option.some.injEq,Addr.mk.injEq,and_true,true_and] at h1
  subst h1
  exact ⟨e,w,h2,h3⟩
def VOK(p:Prg)(D n:Nat):Prop:=∀ (L:Hl) (s:World) (c:MC) (N:Nat) (f:Fnc) (d:Nat) (x:Ex) (w:Value) (m:MS) (iv ov:Value) (R:Hl),CT p c s→c.nf=f.params.length+f.locals.length→ViE p f (VeR p f d) s x w→MG p c N m iv ov R s→vX p OPp (sem p OPp n) f x m≠.out →
 ∃ kk cap,w=.func (.func kk) #[] cap.toArray∧AP prog D kk (.pointer (some ⟨c.bm,0,none⟩)::cap) (MB c N 0 m iv ov 0 0::MGb c m::MFb c m::(R++L)) s (okE p c N (vX p OPp (sem p OPp n) f x m) VE RE [] L) (qd0 c N (vX p OPp (sem p OPp n) f x m) [] L)
def SOK(p:Prg)(D n:Nat):Prop:=∀ (L:Hl) (s:World) (c:MC) (N:Nat) (f:Fnc) (d:Nat) (x:Stm) (w:Value) (m:MS) (iv ov:Value) (R:Hl),CT p c s→c.nf=f.params.length+f.locals.length→ViS p f (VeR p f d) (VsR p f d) s x w→MG p c N m iv ov R s→sX p (sem p OPp n) f x m≠.out →
 ∃ kk cap,w=.func (.func kk) #[] cap.toArray∧AP prog D kk (.pointer (some ⟨c.bm,0,none⟩)::cap) (MB c N 0 m iv ov 0 0::MGb c m::MFb c m::(R++L)) s (okE p c N (sX p (sem p OPp n) f x m) VS RS [] L) (qd0 c N (sX p (sem p OPp n) f x m) [] L)
theorem qnG(p:Prg)(D n:Nat)(ih:VOK p D n)(L:Hl)(s:World)(c:MC)(N:Nat)(f:Fnc)(d:Nat)(x:Ex)(b:Nat)(m:MS)(iv ov:Value)(R:Hl)(hC:CT p c s)(hn:c.nf=f.params.length+f.locals.length)(hv:VeR p f d s x [.func (.func 123) #[] #[.pointer (some ⟨b,0,none⟩)]])(hM:MG p c N m iv ov R s)(hr:(sem p OPp (n+1)).e f x m≠.out):AP prog D 123 [.pointer (some ⟨c.bm,0,none⟩),.pointer (some ⟨b,0,none⟩)] (MB c N 0 m iv ov 0 0::MGb c m::MFb c m::(R++L)) s (okE p c N ((sem p OPp (n+1)).e f x m) VE RE [] L) (qd0 c N ((sem p OPp (n+1)).e f x m) [] L):=by
 obtain ⟨r,hq⟩:∃ r,r=(sem p OPp (n+1)).e f x m:=⟨_,rfl⟩
 rw [← hq] at hr ⊢
 change r=(qgi m).and _ at hq
 obtain ⟨e,w,hcb,hw⟩:=hv.opn
 refine qa0 (fn:=f123) qao func123 V Z ntmps123 Z (rs:=[.tmp 3]) Z [(0,_),(1,_)] Z<|Sr<|At Z Z<|Sr<|Zqm Z Z<|?_
 refine qa3 (first:=[]) (captured:=[]) Z Z Z (qju D _ _ c N _ m iv ov hM.ll hM.lN) ?_ ?_
 ·
  rintro _ _ sx1 hx1 ⟨hp,g0,rfl⟩ fr9
  repeat (first | refine qaK ?_ | refine qaA ?_)
  refine qa5 [] _ Pr hx1 fun _ hS2=>?_
  exact ⟨hp,m,0,0,_,by rw [hq,qgi,if_pos g0];rfl,rfl,hM.fin _ _ _⟩
 rintro _ _ s1 h1 ⟨g0,rfl⟩
 rw [qgi,if_neg g0] at hq
 simp only [ER.and] at hq
 have hM1:=(hM.le h1).stp
 refine Nt<|Sr<|?_
 obtain ⟨kk,cap,rfl,hI⟩:=ih L _ c N f e x w _ iv ov R (hC.le h1) hn (hw.le h1 fun _ _ h=>VeR.le h1 h) hM1 (by rw [← hq];exact hr)
 rw [← hq] at hI
 refine qac (qah Z Z Z (hcb.le h1) Z) Z<|Zqm Z Z ?_
 refine qa3 (first:=[]) (captured:=cap) Z Z Z (hI) ?_ ?_
 ·
  rintro _ _ sx2 hx2 ⟨hp,m1,st1,cd1,Z1,he1,rfl,hF1⟩ fr9
  repeat (first | refine qaK ?_ | refine qaA ?_)
  refine qa5 [] _ Pr (h1.t hx2) fun _ hS2=>?_
  exact ⟨hp,m1,st1,cd1,Z1,he1,rfl,hF1⟩
 rintro _ _ s2 h2 ⟨a1,m1,iv1,ov1,R1,he1,⟨rfl,hu1⟩,rfl,hM2⟩
 refine At Z Z<|Zo<|?_
 refine qaN [] _ (.inr Z) (.t1 Z) Z (h1.t h2) fun _ hS2=>?_
 exact ⟨a1,m1,iv1,ov1,R1,he1,⟨rfl,hu1⟩,rfl,hM2.le ((Lr D).t hS2)⟩
theorem qn1(p:Prg)(D n:Nat)(ih:SOK p D n)(L:Hl)(s:World)(c:MC)(N:Nat)(f:Fnc)(d:Nat)(x:Stm)(b:Nat)(m:MS)(iv ov:Value)(R:Hl)(hC:CT p c s)(hn:c.nf=f.params.length+f.locals.length)(hv:VsR p f d s x [.func (.func 49) #[] #[.pointer (some ⟨b,0,none⟩)]])(hM:MG p c N m iv ov R s)(hr:(sem p OPp (n+1)).t f x m≠.out):AP prog D 49 [.pointer (some ⟨c.bm,0,none⟩),.pointer (some ⟨b,0,none⟩)] (MB c N 0 m iv ov 0 0::MGb c m::MFb c m::(R++L)) s (okE p c N ((sem p OPp (n+1)).t f x m) VS RS [] L) (qd0 c N ((sem p OPp (n+1)).t f x m) [] L):=by
 obtain ⟨r,hq⟩:∃ r,r=(sem p OPp (n+1)).t f x m:=⟨_,rfl⟩
 rw [← hq] at hr ⊢
 change r=(qgi m).and _ at hq
 obtain ⟨e,w,hcb,hw⟩:=hv.opn
 refine qa0 (fn:=f49) qao func49 V Z ntmps49 Z (rs:=[.tmp 3]) Z [(0,_),(1,_)] Z<|Sr<|At Z Z<|Sr<|Zqm Z Z<|?_
 refine qa3 (first:=[]) (captured:=[]) Z Z Z (qju D _ _ c N _ m iv ov hM.ll hM.lN) ?_ ?_
 ·
  rintro _ _ sx1 hx1 ⟨hp,g0,rfl⟩ fr9
  repeat (first | refine qaK ?_ | refine qaA ?_)
  refine qa5 [] _ Pr hx1 fun _ hS2=>?_
  exact ⟨hp,m,0,0,_,by rw [hq,qgi,if_pos g0];rfl,rfl,hM.fin _ _ _⟩
 rintro _ _ s1 h1 ⟨g0,rfl⟩
 rw [qgi,if_neg g0] at hq
 simp only [ER.and] at hq
 have hM1:=(hM.le h1).stp
 refine Nt<|Sr<|?_
 obtain ⟨kk,cap,rfl,hI⟩:=ih L _ c N f e x w _ iv ov R (hC.le h1) hn (hw.le h1 (fun _ _ h=>VeR.le h1 h) (fun _ _ h=>VsR.le h1 h)) hM1 (by rw [← hq];exact hr)
 rw [← hq] at hI
 refine qac (qah Z Z Z (hcb.le h1) Z) Z<|Zqm Z Z ?_
 refine qa3 (first:=[]) (captured:=cap) Z Z Z (hI) ?_ ?_
 ·
  rintro _ _ sx2 hx2 ⟨hp,m1,st1,cd1,Z1,he1,rfl,hF1⟩ fr9
  repeat (first | refine qaK ?_ | refine qaA ?_)
  refine qa5 [] _ Pr (h1.t hx2) fun _ hS2=>?_
  exact ⟨hp,m1,st1,cd1,Z1,he1,rfl,hF1⟩
 rintro _ _ s2 h2 ⟨a1,m1,iv1,ov1,R1,he1,⟨rfl,hu1⟩,rfl,hM2⟩
 refine At Z Z<|Zo<|?_
 refine qaN [] _ (.inr Z) (.t1 Z) Z (h1.t h2) fun _ hS2=>?_
 exact ⟨a1,m1,iv1,ov1,R1,he1,⟨rfl,hu1⟩,rfl,hM2.le ((Lr D).t hS2)⟩
theorem qgk{l:List Int}(h:∀ x∈l,U32 x)(i:Nat):U32 (l.getD i 0):=by
 rw [List.getD_eq_getElem?_getD]
 cases hl:l[i]? with
 | none=>exact ⟨by decide,by decide⟩
 | some x=>exact h x (List.mem_of_getElem? hl)
theorem qqm{p:Prg}{S:Sem}{f:Fnc}{x:Ex}{m:MS}(hk:x.kind=2)(h:0≤qa4 f x.name):vX p OPp S f x m=.ok (m.frm.getD (qa4 f x.name).toNat 0) m:=by
 rw [vX,if_neg O,if_pos hk,qgY,if_pos h]
theorem qux{p:Prg}{S:Sem}{f:Fnc}{x:Ex}{m:MS}{k:Nat}{g:Glo}(hk:x.kind=2)(h:¬ 0≤qa4 f x.name)(hg:qdi p x.name=(k:Int))(hp:p.globals[k]?=some g)(h1:g.kind=1):vX p OPp S f x m=.ok g.num m:=by
 rw [vX,if_neg O,if_pos hk,qgY,if_neg h,hg,Int.toNat_natCast,List.getD_eq_getElem?_getD,hp,Option.getD_some,if_pos h1]
theorem qto{p:Prg}{S:Sem}{f:Fnc}{x:Ex}{m:MS}{k:Nat}{g:Glo}(hk:x.kind=2)(h:¬ 0≤qa4 f x.name)(hg:qdi p x.name=(k:Int))(hp:p.globals[k]?=some g)(h1:¬ g.kind=1):vX p OPp S f x m=.ok (m.glo.getD (k:Int).toNat 0) m:=by
 rw [vX,if_neg O,if_pos hk,qgY,if_neg h,hg,Int.toNat_natCast,List.getD_eq_getElem?_getD (l:=p.globals),hp,Option.getD_some,if_neg h1]
theorem MG.rd{p:Prg}{c:MC}{N:Nat}{m:MS}{iv ov:Value}{R:Hl}{s:World}(h:MG p c N m iv ov R s){l:List UInt8}{A:Option Addr}{n q:Nat}(hb:Bts s A n q l):MG p c N { m with inp:=l } (.slice A n q) ov R s:=⟨⟨A,n,q,rfl,hb⟩,h.out,h.ug,h.uf,h.ua,h.ng,h.lg,h.lf,h.lb,h.la,h.ar,h.lo,h.lc,h.ll,h.lN⟩
theorem qtP(D:Nat)(L:Hl)(s:World)(p:Prg)(S:Sem)(c:MC)(N:Nat)(f:Fnc)(x:Ex)(m:MS)(iv ov:Value)(R:Hl)(hn:c.nf=f.params.length+f.locals.length)(hM:MG p c N m iv ov R s)(b:Nat)(A1:Option Addr)(n1 z1:Nat)(hk:x.kind=1)(hc:CellsAt s b 0 [.int .i64 x.kind,.int .i64 x.op,.int .u32 x.num,St x.name,.slice A1 n1 z1])(hu:U32 x.num):AP prog D 162 [.pointer (some ⟨c.bm,0,none⟩),.pointer (some ⟨b,0,none⟩)] (MB c N 0 m iv ov 0 0::MGb c m::MFb c m::(R++L)) s (okE p c N (vX p OPp S f x m) VE RE [] L) (qd0 c N (vX p OPp S f x m) [] L):=by
 refine qa0 (fn:=f162) qao func162 V Z ntmps162 Z (rs:=[.tmp 3]) Z [(0,_),(1,_)] Z<|Sr<|At Z Z<|Sr<|qac (qbs Z Z Z Z) Z<|qac (qaC 2 Z Z Z (hc.le (Lr D)) Z) Z<|At Z Z<|Zo<|?_
 refine qaN [] _ (.inr Z) (.t1 Z) Z (Lr D) fun _ hS2=>?_
 exact ⟨_,m,iv,ov,R,by rw [vX,if_pos hk],⟨rfl,hu⟩,rfl,hM.le ((Lr D).t hS2)⟩
theorem qrP(D:Nat)(L:Hl)(s:World)(p:Prg)(S:Sem)(c:MC)(N:Nat)(f:Fnc)(x:Ex)(m:MS)(iv ov:Value)(R:Hl)(hn:c.nf=f.params.length+f.locals.length)(hM:MG p c N m iv ov R s)(b:Nat)(hk:x.kind=2)(h0:0≤qa4 f x.name)(hl:qa4 f x.name < ((f.params.length+f.locals.length:Nat):Int))(hc:CellsAt s b 0 [.int .i64 (qa4 f x.name)]):AP prog D 192 [.pointer (some ⟨c.bm,0,none⟩),.pointer (some ⟨b,0,none⟩)] (MB c N 0 m iv ov 0 0::MGb c m::MFb c m::(R++L)) s (okE p c N (vX p OPp S f x m) VE RE [] L) (qd0 c N (vX p OPp S f x m) [] L):=by
 have hl2:qa4 f x.name < (m.frm.length:Int):=by rw [hM.lf,hn];exact hl
 have hl3:qa4 f x.name < (c.nf:Int):=by rw [hn];exact hl
 refine qa0 (fn:=f192) qao func192 V Z ntmps192 Z (rs:=[.tmp 3]) Z [(0,_),(1,_)] Z<|Sr<|At Z Z<|Zs<|qay qad 8 Z _ (fun _ h=>h) ?_
 intro s1 h1
 refine za 0 Z (qan Z) Z<|za 1 Z (qbx Z) Z<|za 2 Z (We Y4) Z<|za 3 Z (Wd 0 Y5) Z<|za 4 Z (qah Z Z Z (hc.le h1) Z) Z<|za 5 Z (qdz Z Z Z Z Z Z h0 hl3) Z<|za 6 Z (qdE 2 Z Z Z Z (qhk h0 hl2)) Z<|za 7 Z (qaM Z) Z<|qal V<|Zt<|Zo<|?_
 refine qaN [] _ (.inr Z) (.t1 Z) Z h1 fun _ hS2=>?_
 exact ⟨_,m,iv,ov,R,qqm hk h0,⟨rfl,qgk hM.uf _⟩,rfl,hM.le (h1.t hS2)⟩
theorem qta(D:Nat)(L:Hl)(s:World)(p:Prg)(S:Sem)(c:MC)(N:Nat)(f:Fnc)(x:Ex)(m:MS)(iv ov:Value)(R:Hl)(hn:c.nf=f.params.length+f.locals.length)(hM:MG p c N m iv ov R s)(b k:Nat)(g:Glo)(A:Option Addr)(n1 z1:Nat)(hk:x.kind=2)(hs:¬ 0≤qa4 f x.name)(hg:qdi p x.name=(k:Int))(hp:p.globals[k]?=some g)(gc1:g.kind=1)(hc:CellsAt s b 0 [.int .i64 g.kind,St g.name,.int .u32 g.num,.slice A n1 z1])(hu:U32 g.num):AP prog D 193 [.pointer (some ⟨c.bm,0,none⟩),.pointer (some ⟨b,0,none⟩)] (MB c N 0 m iv ov 0 0::MGb c m::MFb c m::(R++L)) s (okE p c N (vX p OPp S f x m) VE RE [] L) (qd0 c N (vX p OPp S f x m) [] L):=by
 refine qa0 (fn:=f193) qao func193 V Z ntmps193 Z (rs:=[.tmp 3]) Z [(0,_),(1,_)] Z<|Sr<|At Z Z<|Sr<|qac (qbs Z Z Z Z) Z<|qac (qaC 2 Z Z Z (hc.le (Lr D)) Z) Z<|At Z Z<|Zo<|?_
 refine qaN [] _ (.inr Z) (.t1 Z) Z (Lr D) fun _ hS2=>?_
 exact ⟨_,m,iv,ov,R,qux hk hs hg hp gc1,⟨rfl,hu⟩,rfl,hM.le ((Lr D).t hS2)⟩
theorem qtn(D:Nat)(L:Hl)(s:World)(p:Prg)(S:Sem)(c:MC)(N:Nat)(f:Fnc)(x:Ex)(m:MS)(iv ov:Value)(R:Hl)(hn:c.nf=f.params.length+f.locals.length)(hM:MG p c N m iv ov R s)(b k:Nat)(g:Glo)(hk:x.kind=2)(hs:¬ 0≤qa4 f x.name)(hg:qdi p x.name=(k:Int))(hp:p.globals[k]?=some g)(gc1:¬ g.kind=1)(hc:CellsAt s b 0 [.int .i64 (k:Int)]):AP prog D 194 [.pointer (some ⟨c.bm,0,none⟩),.pointer (some ⟨b,0,none⟩)] (MB c N 0 m iv ov 0 0::MGb c m::MFb c m::(R++L)) s (okE p c N (vX p OPp S f x m) VE RE [] L) (qd0 c N (vX p OPp S f x m) [] L):=by
 have hkl:=(List.getElem?_eq_some_iff.1 hp).1
 have hl2:(k:Int) < (m.glo.length:Int):=by rw [hM.lg,hM.ng];omega
 have hl3:(k:Int) < (c.ng:Int):=by rw [hM.ng];omega
 refine qa0 (fn:=f194) qao func194 V Z ntmps194 Z (rs:=[.tmp 3]) Z [(0,_),(1,_)] Z<|Sr<|At Z Z<|Zs<|qay qad 8 Z _ (fun _ h=>h) ?_
 intro s1 h1
 refine za 0 Z (qan Z) Z<|za 1 Z (qbx Z) Z<|za 2 Z (We Y4) Z<|za 3 Z (Wd 0 Y5) Z<|za 4 Z (qah Z Z Z (hc.le h1) Z) Z<|za 5 Z (qdz Z Z Z Z Z Z O hl3) Z<|za 6 Z (qdE 1 Z Z Z Z (qhk O hl2)) Z<|za 7 Z (qaM Z) Z<|qal V<|Zt<|Zo<|?_
 refine qaN [] _ (.inr Z) (.t1 Z) Z h1 fun _ hS2=>?_
 exact ⟨_,m,iv,ov,R,qto hk hs hg hp gc1,⟨rfl,qgk hM.ug _⟩,rfl,hM.le (h1.t hS2)⟩
theorem qur(D:Nat)(L:Hl)(s:World)(p:Prg)(S:Sem)(c:MC)(N:Nat)(f:Fnc)(x:Ex)(m:MS)(iv ov:Value)(R:Hl)(hn:c.nf=f.params.length+f.locals.length)(hM:MG p c N m iv ov R s)(hk:x.kind=5):AP prog D 165 [.pointer (some ⟨c.bm,0,none⟩)] (MB c N 0 m iv ov 0 0::MGb c m::MFb c m::(R++L)) s (okE p c N (vX p OPp S f x m) VE RE [] L) (qd0 c N (vX p OPp S f x m) [] L):=by
 obtain ⟨Ai,ni,qi,rfl,hI⟩:=hM.inp
 have hni:=hI.1
 have hvx:vX p OPp S f x m=qjD m:=by rw [vX,if_neg O,if_neg O,if_neg O,if_neg O,if_pos hk]
 rw [hvx]
 refine qa0 (fn:=f165) qao func165 V Z ntmps165 Z (rs:=[.tmp 2]) Z [(0,_)] Z<|Sr<|At Z Z<|Zs<|Sr<|Zqm Z Z<|qcd Z Z<|Wb Y5<|Wl 0 Y6<|Ws Y4<|qar Z Z Z<|Nt<|?_
 refine qaa Z (fun c1=>?_) (fun c1=>?_)
 ·
  have hE:m.inp=[]:=List.eq_nil_of_length_eq_zero O
  refine Sr<|At Z Z<|Zo<|Zu<|?_
  refine qaN [] _ (.inr Z) (.t1 Z) Z (Lr D) fun _ hS2=>?_
  first
    | (exact ⟨_,m,_,ov,R,by simp only [qjD,hE],⟨rfl,⟨by decide,by decide⟩⟩,rfl,hM.le ((Lr D).t hS2)⟩)
    | (exact ⟨_,{ m with inp:=l },_,ov,R,by simp only [qjD,hl],⟨rfl,⟨by omega,by have:=ch.toNat_lt;omega⟩⟩,rfl,(hM.rd hI.tail).le ((Lr D).t hS2)⟩)
 have h0n:0 < ni:=by omega
 obtain ⟨b,off,ch,hAi,hch,hcc⟩:=Bts.at_ hI h0n
 subst hAi
 obtain ⟨l,hl⟩:∃ l,m.inp=ch::l:=by
   cases h:m.inp with
   | nil=>rw [h] at hch;cases hch
   | cons y l=>rw [h] at hch;simp at hch;exact ⟨l,by rw [hch]⟩
 rw [hl] at hI
 refine Zk<|Zt<|Sr<|Zqm Z Z<|qcd Z Z<|Wb Y5<|Wl 0 Y6<|qac (qas Z Z Z Z Z Z h0n) Z<|qac (qah Z Z Z (hcc.le (Lr D)) Z) Z<|At Z Z<|Sr<|Zqm Z Z<|Zqm Z Z<|qcd Z Z<|Wb Y5<|Wl 0 Y6<|qac (qpI Z Z Z Z Z (show 1≤ni by omega)) Z<|qcd Z Z<|Wb Y5<|Wt 0 [_,_,_,_,_,_,_,_,_,_,_,_] Y9<|Nt<|Sr<|Zqm Z Z<|?_
 refine qac (qae (qdI Z Z Z Z Z) (congrArg (Value.int .u32) (show IntKind.u32.wrap (ch.toNat:Int)=(ch.toNat:Int) by rw [IntKind.wrap_u32];have:=ch.toNat_lt;omega))) Z<|At Z Z<|Zo<|?_
 refine qaN [] _ (.inr Z) (.t1 Z) Z (Lr D) fun _ hS2=>?_
 first
   | (exact ⟨_,m,_,ov,R,by simp only [qjD,hE],⟨rfl,⟨by decide,by decide⟩⟩,rfl,hM.le ((Lr D).t hS2)⟩)
   | (exact ⟨_,{ m with inp:=l },_,ov,R,by simp only [qjD,hl],⟨rfl,⟨by omega,by have:=ch.toNat_lt;omega⟩⟩,rfl,(hM.rd hI.tail).le ((Lr D).t hS2)⟩)
end Go.Proofs.YtpdnijphccdiiaaGreatDoor
namespace Go.FL
open Go Go.RowKit
variable{P:Program}{TT:qaZ}{D n:Nat}{Q:qbD}{fr:Fr}{L:Hl}{s:World}{ops:Array Oper}{rest:List Oper}{d ty:Nat}{pos:String}{af:Array Edge}
theorem CellsAt.pre{b off:Nat}{xs ys:List Value}(h:CellsAt s b off (xs++ys)):CellsAt s b off xs:=fun j v hj=>h j v (by rw [List.getElem?_append_left (List.getElem?_eq_some_iff.1 hj).1];exact hj)
theorem CellsAt.nth{b:Nat}{l:List Value}{j:Nat}{v:Value}(h:CellsAt s b 0 l)(hj:l[j]?=some v):CellsAt s b (0+j) [v]:=fun i u hi=>by
 cases i with
 | zero=>simp at hi;subst hi;exact h j v hj
 | succ i=>simp at hi
end Go.FL
namespace Go.Proofs.YtpdnijphccdiiaaGreatDoor
open Go.Proofs.Tryz
open Go.FL
attribute [local irreducible] JC JO JA JB qaJ qaw qbM AC fill CellsAt QE Ev Mid
def iX(p:Prg)(S:Sem)(f:Fnc)(nm:Str)(y:Ex)(m:MS):ER Int:=(S.e f y m).and fun i m1=>if ((qd1 p nm m1).length:Int)≤i then .fin m1 1 1 else .ok i m1
theorem ER.and_assoc{α β γ:Type}(r:ER α)(k:α→MS→ER β)(g:β→MS→ER γ):(r.and k).and g=r.and fun a m=>(k a m).and g:=by cases r <;> rfl
theorem qt4{p:Prg}{S:Sem}{f:Fnc}{x:Ex}{m:MS}(hk:x.kind=3):vX p OPp S f x m=(iX p S f x.name (qbA x.args 0) m).and fun i m1=>.ok ((qd1 p x.name m1).getD i.toNat 0) m1:=by
 rw [vX,if_neg O,if_neg O,if_pos hk,iX,ER.and_assoc]
 congr 1
 funext i m1
 split <;> rfl
theorem qo3{p:Prg}{S:Sem}{f:Fnc}{x:Stm}{m:MS}(hk:x.kind=2):sX p S f x m=(iX p S f x.name (qbA x.exprs 0) m).and fun i m1=>(S.e f (qbA x.exprs 1) m1).and fun v m2=>.ok (0,0) { m2 with arr:=m2.arr.set (qdi p x.name).toNat ((qd1 p x.name m2).set i.toNat v) }:=by
 rw [sX,if_neg O,if_pos hk,iX,ER.and_assoc]
 congr 1
 funext i m1
 split <;> rfl
theorem qsk{p:Prg}{S:Sem}{f:Fnc}{nm:Str}{y:Ex}{m m1:MS}{a:Int}(h:iX p S f nm y m=.ok a m1):a < ((qd1 p nm m1).length:Int):=by
 unfold iX at h
 cases hr:S.e f y m with
 | out=>rw [hr] at h;cases h
 | fin _ _ _=>rw [hr] at h;cases h
 | ok i m2=>
  rw [hr] at h
  simp only [ER.and] at h
  split at h
  · cases h
  · injection h with h1 h2;subst h1;subst h2;omega
theorem qkG{p:Prg}{S:Sem}{f:Fnc}{x:Ex}{m:MS}(hk:x.kind=4):vX p OPp S f x m=(qaD (S.e f) x.args m).and fun vs m=>S.c (qhx p x.name).toNat vs m:=by
 rw [vX,if_neg O,if_neg O,if_neg O,if_pos hk]
theorem qpx{p:Prg}{S:Sem}{f:Fnc}{x:Ex}{m:MS}(hk:x.kind=6):vX p OPp S f x m=(S.e f (qbA x.args 0) m).and fun a m=>.ok (if (qee x.op 0).1=0 then opP x.op a 0 else 0) m:=by
 rw [vX,if_neg O,if_neg O,if_neg O,if_neg O,if_neg O,if_pos hk]
 congr 1
 funext a m
 rw [OPp];split <;> rfl
theorem qkl{p:Prg}{S:Sem}{f:Fnc}{x:Ex}{m:MS}(hk:x.kind=7):vX p OPp S f x m=(S.e f (qbA x.args 0) m).and fun a m=>if x.op=20∧a=0 then .ok 0 m else if x.op=21∧a≠0 then .ok 1 m else (S.e f (qbA x.args 1) m).and fun b m=>if (qee x.op b).1=0 then .ok (opP x.op a b) m else .fin m 1 2:=by
 rw [vX,if_neg O,if_neg O,if_neg O,if_neg O,if_neg O,if_neg O]
 congr 1
 funext a m
 split
 · rfl
 split
 · rfl
 congr 1
 funext b m
 by_cases h:(qee x.op b).1=0
 · simp only [OPp,if_pos h]
 · simp only [OPp,if_neg h]
theorem opU{k x y:Int}(hx:U32 x)(hy:U32 y):U32 (if (qee k y).1=0 then opP k x y else 0):=by
 split
 · exact qf8 hx hy
 · exact ⟨by decide,by decide⟩
theorem qgS:∀ {ab:List (Option Nat)} {gs:List Glo} {k b:Nat} {g:Glo},ab[k]?=some (some b)→gs[k]?=some g→(qgE ab gs)[k]?=some (.slice (some ⟨b,0,none⟩) g.num.toNat g.num.toNat)
 | [],_,_,_,_,h,_=>by simp at h
 | _::_,[],_,_,_,_,h=>by simp at h
 | some b::r,g::gs,0,b2,g2,h1,h2=>by simp at h1 h2;subst h1;subst h2;rfl
 | none::r,g::gs,0,b2,g2,h1,h2=>by simp at h1
 | some b::r,g::gs,k+1,b2,g2,h1,h2=>by rw [qgE,List.getElem?_cons_succ];exact qgS (by simpa using h1) (by simpa using h2)
 | none::r,g::gs,k+1,b2,g2,h1,h2=>by rw [qgE,List.getElem?_cons_succ];exact qgS (by simpa using h1) (by simpa using h2)
theorem qgD:∀ {ab:List (Option Nat)} {ls:List (List Int)} {k b:Nat},ab[k]?=some (some b)→k < ls.length→∃ i,(qb1 ab ls)[i]?=some (b,cb (wv (ls.getD k [])) 29)∧i < (qb1 ab ls).length∧∀ l,(qb1 ab ls).set i (b,cb (wv l) 29)=qb1 ab (ls.set k l)
 | [],_,_,_,h,_=>by simp at h
 | _::_,[],_,_,_,h=>by simp at h
 | some b::r,l::ls,0,b2,h1,h2=>by
  simp at h1;subst h1
  exact ⟨0,rfl,by simp [qb1],fun l=>rfl⟩
 | none::r,l::ls,0,b2,h1,h2=>by simp at h1
 | some b::r,l::ls,k+1,b2,h1,h2=>by
  obtain ⟨i,a1,a2,a3⟩:=qgD (ab:=r) (ls:=ls) (k:=k) (b:=b2) (by simpa using h1) (by simpa using h2)
  refine ⟨i+1,by rw [qb1,List.getElem?_cons_succ];simpa using a1,by rw [qb1,List.length_cons];omega,fun l2=>?_⟩
  rw [List.set_cons_succ,qb1,qb1,List.set_cons_succ,a3]
 | none::r,l::ls,k+1,b2,h1,h2=>by
  obtain ⟨i,a1,a2,a3⟩:=qgD (ab:=r) (ls:=ls) (k:=k) (b:=b2) (by simpa using h1) (by simpa using h2)
  exact ⟨i,by rw [qb1];simpa using a1,a2,fun l2=>by rw [List.set_cons_succ,qb1,qb1,a3]⟩
theorem qiT{b:Nat}{o o':Obj}:∀ {L:Hl} {i:Nat},L[i]?=some (b,o)→qdl L i o'=L.set i (b,o')
 | [],_,h=>by simp at h
 | x::L,0,h=>by simp at h;subst h;rfl
 | x::L,i+1,h=>by rw [qdl,List.set_cons_succ,qiT (by simpa using h)]
section
variable{p:Prg}{c:MC}{N:Nat}{m:MS}{iv ov:Value}{R:Hl}{s:World}{k:Nat}{g:Glo}{nm:Str}
theorem MG.ary(hM:MG p c N m iv ov R s)(hC:CT p c s)(hp:p.globals[k]?=some g)(h3:g.kind=3)(hg:qdi p nm=(k:Int)):∃ b,c.ab[k]?=some (some b)∧CellsAt s c.ba (0+k) [.slice (some ⟨b,0,none⟩) g.num.toNat g.num.toNat]∧(qd1 p nm m).length=g.num.toNat∧k < c.ng:=by
 obtain ⟨⟨b,hb⟩,hl⟩:=hM.ar k g hp h3
 exact ⟨b,hb,hC.ar.nth (qgS hb hp),by rw [qd1,hg,Int.toNat_natCast];exact hl,by rw [hM.ng];exact (List.getElem?_eq_some_iff.1 hp).1⟩
theorem MG.blk{b:Nat}(hM:MG p c N m iv ov R s)(hb:c.ab[k]?=some (some b))(hk:k < c.ng)(hg:qdi p nm=(k:Int))(x y z:Nat×Obj)(L:Hl):∃ i,(x::y::z::(R++L))[i+3]?=some (b,cb (wv (qd1 p nm m)) 29)∧∀ l,(∃ R',qdl (x::y::z::(R++L)) (i+3) (cb (wv l) 29)=x::y::z::(R'++L)∧∀ s',MG p c N m iv ov R s'→l.length=(qd1 p nm m).length→(∀ v∈l,U32 v)→MG p c N { m with arr:=m.arr.set k l } iv ov R' s'):=by
  obtain ⟨Mo,hR,hO⟩:=hM.out
  obtain ⟨i,a1,a2,a3⟩:=qgD (ls:=m.arr) hb (by rw [hM.la];exact hk)
  have hA:qd1 p nm m=m.arr.getD k []:=by rw [qd1,hg,Int.toNat_natCast]
  refine ⟨i,?_,fun l=>⟨qb1 c.ab (m.arr.set k l)++Mo,?_,fun s' hM' hl hu=>?_⟩⟩
  · show (R++L)[i]?=_
    rw [hR,List.append_assoc,List.getElem?_append_left a2,a1,hA]
  · rw [← a3,hR,qiT (b:=b) (o:=cb (wv (qd1 p nm m)) 29)]
    · show x::y::z::((qb1 c.ab m.arr++Mo++L).set i _)=_
      rw [List.append_assoc,List.set_append_left _ _ a2,List.append_assoc]
    · show (qb1 c.ab m.arr++Mo++L)[i]?=_
      rw [List.append_assoc,List.getElem?_append_left a2,a1,hA]
  · have hk2:k < m.arr.length:=by rw [hM.la];exact hk
    refine ⟨hM'.inp,⟨Mo,Z,hO⟩,hM'.ug,hM'.uf,fun l2 h2 v hv=>?_,hM'.ng,hM'.lg,hM'.lf,hM'.lb,by rw [List.length_set];exact hM'.la,fun j g2 hj h3=>?_,hM'.lo,hM'.lc,hM'.ll,hM'.lN⟩
    · rcases List.mem_or_eq_of_mem_set h2 with h2 | rfl
      · exact hM'.ua l2 h2 v hv
      · exact hu v hv
    · obtain ⟨q1,q2⟩:=hM'.ar j g2 hj h3
      refine ⟨q1,?_⟩
      by_cases hjk:k=j
      · subst hjk
        show ((m.arr.set k l).getD k []).length=_
        rw [List.getD_eq_getElem?_getD,List.getElem?_set_self hk2,Option.getD_some,hl,hA];exact q2
      · show ((m.arr.set k l).getD j []).length=_
        rw [List.getD_eq_getElem?_getD,List.getElem?_set_ne hjk,← List.getD_eq_getElem?_getD];exact q2
theorem MG.ix(hM:MG p c N m iv ov R s)(hg:qdi p nm=(k:Int))(i:Nat):U32 ((qd1 p nm m).getD i 0):=by
 refine qgk (fun x hx=>?_) i
 rw [qd1,hg,Int.toNat_natCast,List.getD_eq_getElem?_getD] at hx
 cases hl:m.arr[k]? with
 | none=>rw [hl] at hx;cases hx
 | some l=>rw [hl] at hx;exact hM.ua l (List.mem_of_getElem? hl) x hx
end
theorem qg5(p:Prg)(D n:Nat)(hE:EOK p D n)(L:Hl)(s:World)(c:MC)(N:Nat)(f:Fnc)(d:Nat)(y:Ex)(nm:Str)(k b:Nat)(g:Glo)(m:MS)(iv ov:Value)(R:Hl)(hC:CT p c s)(hn:c.nf=f.params.length+f.locals.length)(hM:MG p c N m iv ov R s)(hg:qdi p nm=(k:Int))(hp:p.globals[k]?=some g)(gc3:g.kind=3)(hv:VeR p f d s y [.func (.func 123) #[] #[.pointer (some ⟨b,0,none⟩)]])(hr:iX p (sem p OPp n) f nm y m≠.out):AP prog D 87 [.pointer (some ⟨c.bm,0,none⟩),.int .i64 (k:Int),.func (.func 123) #[] #[.pointer (some ⟨b,0,none⟩)]] (MB c N 0 m iv ov 0 0::MGb c m::MFb c m::(R++L)) s (okE p c N (iX p (sem p OPp n) f nm y m) VE RE [] L) (qd0 c N (iX p (sem p OPp n) f nm y m) [] L):=by
 obtain ⟨r,hq⟩:∃ r,r=iX p (sem p OPp n) f nm y m:=⟨_,rfl⟩
 rw [← hq] at hr ⊢
 rw [iX] at hq
 refine qa0 (fn:=f87) qao func87 V Z ntmps87 Z (rs:=[.tmp 6]) Z [(0,_),(1,_),(2,_)] Z<|Sr<|At Z Z<|Sr<|Zqm Z Z<|Zqm Z Z<|?_
 refine qa3 (first:=[]) (captured:=[.pointer (some ⟨b,0,none⟩)]) Z Z Z (AP.fr (fun L=>hE L _ c N f d y _ m iv ov R (hC.le (Lr D)) hn (hv.le (Lr D)) (hM.le (Lr D)) (qaW hq hr)) [] _) ?_ ?_
 ·
  rintro _ _ sx1 hx1 ⟨hp1,mf1,sf1,cf1,Zf1,he1,rfl,hF1⟩ fr9
  repeat (first | refine qaK ?_ | refine qaA ?_)
  refine qa5 [] _ Pr hx1 fun _ hS2=>?_
  exact ⟨hp1,mf1,sf1,cf1,Zf1,qbt hq he1,rfl,hF1⟩
 rintro _ _ s1 h1 ⟨a1,m1,iv1,ov1,R1,he1,⟨rfl,hu1⟩,rfl,hM1⟩
 rw [he1] at hq
 simp only [ER.and] at hq
 simp only [cQ9,nQ9]
 obtain ⟨ba,hab,hca,hla,hkn⟩:=hM1.ary (hC.le h1) hp gc3 hg
 rw [hla] at hq
 have hlo:=hu1.1
 have hhi:=hu1.2
 have hgu:=(hC.gu g (List.mem_of_getElem? hp)).2
 have hgn:g.num.toNat≤9223372036854775807:=by omega
 refine At Z Z<|Zs<|Sr<|Zqm Z Z<|qac (qbl Z Z Z Z Z (qsx O O)) Z<|Zqm Z Z<|qcd Z Z<|Wb Y5<|Wl 0 Y6<|Zqm Z Z<|qac (qas Z Z Z Z Z Z hkn) Z<|qac (qah Z Z Z (hca.le (Lr D)) Z) Z<|Ws Y4<|qac (qbl Z Z Z Z Z (qsx O O)) Z<|qfa Z Z Z<|Nt<|?_
 refine qaa Z (fun c2=>?_) (fun c2=>?_)
 ·
  have q9:=c2
  refine Zr<|Zqm Z Z<|?_
  refine qa3 (first:=[]) (captured:=[]) Z Z Z (qc2 D [] _ _ c N _ m1 iv1 ov1 _ _) ?_ ?_
  ·
   rintro _ _ sx3 hx3 ⟨hp3,rfl⟩ fr9
   repeat (first | refine qaK ?_ | refine qaA ?_)
   refine qa5 [] _ Pr (h1.t hx3) fun _ hS2=>?_
   exact ⟨hp3,m1,_,_,_,by rw [hq,if_pos O],rfl,((hM1.le hx3).fin _ _ _)⟩
  rintro _ _ s3 h3 ⟨⟩
 have q9:=c2
 rw [if_neg O] at hq
 refine Zk<|Zt<|Sr<|Zqm Z Z<|At Z Z<|Zo<|?_
 refine qaN [] _ (.inr Z) (.t1 Z) Z h1 fun _ hS2=>?_
 exact ⟨_,m1,iv1,ov1,R1,hq,⟨rfl,hu1⟩,rfl,(hM1.le ((Lr D).t hS2))⟩
theorem qtZ(p:Prg)(D n:Nat)(hE:EOK p D n)(L:Hl)(s:World)(c:MC)(N:Nat)(f:Fnc)(d:Nat)(x:Ex)(m:MS)(iv ov:Value)(R:Hl)(hC:CT p c s)(hn:c.nf=f.params.length+f.locals.length)(hM:MG p c N m iv ov R s)(b1 b2 k:Nat)(g:Glo)(A:Option Addr)(n1 z1:Nat)(hk:x.kind=3)(hg:qdi p x.name=(k:Int))(hp:p.globals[k]?=some g)(gc3:g.kind=3)(gc1:CellsAt s b1 0 [.int .i64 (k:Int)])(gc2:CellsAt s b2 0 [.slice A n1 z1])(hA:VeS p f d s A n1 z1 x.args)(h0:0 < n1)(hr:vX p OPp (sem p OPp n) f x m≠.out):AP prog D 164 [.pointer (some ⟨c.bm,0,none⟩),.pointer (some ⟨b1,0,none⟩),.pointer (some ⟨b2,0,none⟩)] (MB c N 0 m iv ov 0 0::MGb c m::MFb c m::(R++L)) s (okE p c N (vX p OPp (sem p OPp n) f x m) VE RE [] L) (qd0 c N (vX p OPp (sem p OPp n) f x m) [] L):=by
 obtain ⟨r,hq⟩:∃ r,r=vX p OPp (sem p OPp n) f x m:=⟨_,rfl⟩
 rw [← hq] at hr ⊢
 rw [qt4 hk] at hq
 obtain ⟨B0,o0,b0,rfl,hcE,hvE⟩:=VeS.at_ hA h0
 obtain ⟨ba,hab,hca,hla,hkn⟩:=hM.ary hC hp gc3 hg
 refine qa0 (fn:=f164) qao func164 V Z ntmps164 Z (rs:=[.tmp 4]) Z [(0,_),(1,_),(2,_)] Z<|Sr<|At Z Z<|Zs<|qay qad 16 Z ([]:Hl) (fun x hx=>by cases hx) ?_
 intro s1 h1
 refine za 0 Z (qan Z) Z<|za 1 Z (qbx Z) Z<|za 2 Z (We Y4) Z<|za 4 Z (qah Z Z Z (gc1.le h1) Z) Z<|za 7 Z (qan Z) Z<|za 8 Z (qah Z Z Z (gc1.le h1) Z) Z<|za 9 Z (qah Z Z Z (gc2.le h1) Z) Z<|za 10 Z (qas Z Z Z Z Z Z h0) Z<|za 11 Z (qah Z Z Z (hcE.le h1) Z) Z ?_
 refine qfl 3 12 V ?_ ?_
 ·
  refine qe3 Z Tt (Wd 0 Y5) Z<|za 5 Z (qas Z Z Z Z Z Z hkn) Z<|za 6 Z (qah Z Z Z (hca.le h1) Z) Z<|qax 12 V ?_
  refine qbT Z Tt (first:=[]) (captured:=[]) Z Z Z (AP.fr (fun L=>qg5 p D n hE L _ c N f d (qbA x.args 0) x.name k b0 g m iv ov R (hC.le h1) hn (hM.le h1) hg hp gc3 (hvE.le h1) (qaW hq hr)) [] _) ?_ ?_
  ·
   rintro _ _ sx2 hx2 ⟨hp2,mf2,sf2,cf2,Zf2,he2,rfl,hF2⟩ fr9
   repeat (first | refine qaK ?_ | refine qaA ?_)
   refine qa5 [] _ Pr (h1.t hx2) fun _ hS2=>?_
   exact ⟨hp2,mf2,sf2,cf2,Zf2,qbt hq he2,rfl,hF2⟩
  rintro _ _ s2 h2 ⟨a2,m2,iv2,ov2,R2,he2,⟨rfl,hu2⟩,rfl,hM2⟩
  refine ⟨(fun x hx=>by cases hx),?_⟩
  rw [he2] at hq
  simp only [ER.and] at hq
  simp only [cQ9,nQ9]
  have hia:=qsk he2
  have hlo:=hu2.1
  obtain ⟨ba2,hab2,_,hla2,_⟩:=hM2.ary (hC.le (h1.t h2)) hp gc3 hg
  rw [hab] at hab2
  injection hab2 with hab2
  injection hab2 with hab2
  subst hab2
  obtain ⟨i,hbi,_⟩:=hM2.blk hab hkn hg (MB c N 0 m2 iv2 ov2 0 0) (MGb c m2) (MFb c m2) L
  refine za 13 Z (qdz Z Z Z Z Z Z hlo (show a2 < ((g.num.toNat:Nat):Int) by omega)) Z<|qax 14 V<|qe3 Z Tt (qdE (i+3) Z hbi Z Z (qhk hlo hia)) Z<|za 15 Z (qaM Z) Z<|qal V<|Zt<|Zo<|?_
  refine qaN [] _ (.inr Z) (.t1 Z) Z (h1.t h2) fun _ hS2=>?_
  exact ⟨_,m2,iv2,ov2,R2,hq,⟨rfl,hM2.ix hg _⟩,rfl,(hM2.le ((Lr D).t hS2))⟩
 refine qbT Z Tt (first:=[]) (captured:=[]) Z Z Z (AP.fr (fun L=>qg5 p D n hE L _ c N f d (qbA x.args 0) x.name k b0 g m iv ov R (hC.le h1) hn (hM.le h1) hg hp gc3 (hvE.le h1) (qaW hq hr)) [] _) ?_ ?_
 ·
  rintro _ _ sx3 hx3 ⟨hp3,mf3,sf3,cf3,Zf3,he3,rfl,hF3⟩ fr9
  repeat (first | refine qaK ?_ | refine qaA ?_)
  refine qa5 [] _ Pr (h1.t hx3) fun _ hS2=>?_
  exact ⟨hp3,mf3,sf3,cf3,Zf3,qbt hq he3,rfl,hF3⟩
 rintro _ _ s3 h3 ⟨a3,m3,iv3,ov3,R3,he3,⟨rfl,hu3⟩,rfl,hM3⟩
 refine ⟨(fun x hx=>by cases hx),?_⟩
 rw [he3] at hq
 simp only [ER.and] at hq
 simp only [cQ9,nQ9]
 have hia:=qsk he3
 have hlo:=hu3.1
 obtain ⟨ba2,hab2,_,hla2,_⟩:=hM3.ary (hC.le (h1.t h3)) hp gc3 hg
 rw [hab] at hab2
 injection hab2 with hab2
 injection hab2 with hab2
 subst hab2
 obtain ⟨i,hbi,_⟩:=hM3.blk hab hkn hg (MB c N 0 m3 iv3 ov3 0 0) (MGb c m3) (MFb c m3) L
 refine qax 3 V<|qe3 Z Tt (Wd 0 Y5) Z<|za 5 Z (qas Z Z Z Z Z Z hkn) Z<|za 6 Z (qah Z Z Z (hca.le h1) Z) Z<|za 13 Z (qdz Z Z Z Z Z Z hlo (show a3 < ((g.num.toNat:Nat):Int) by omega)) Z<|qax 14 V<|qe3 Z Tt (qdE (i+3) Z hbi Z Z (qhk hlo hia)) Z<|za 15 Z (qaM Z) Z<|qal V<|Zt<|Zo<|?_
 refine qaN [] _ (.inr Z) (.t1 Z) Z (h1.t h3) fun _ hS2=>?_
 exact ⟨_,m3,iv3,ov3,R3,hq,⟨rfl,hM3.ix hg _⟩,rfl,(hM3.le ((Lr D).t hS2))⟩
theorem qt5(p:Prg)(D n:Nat)(hE:EOK p D n)(L:Hl)(s:World)(c:MC)(N:Nat)(f:Fnc)(d:Nat)(x:Ex)(m:MS)(iv ov:Value)(R:Hl)(hC:CT p c s)(hn:c.nf=f.params.length+f.locals.length)(hM:MG p c N m iv ov R s)(b1 b2:Nat)(A1:Option Addr)(n1 z1:Nat)(A:Option Addr)(n2 z2:Nat)(hk:x.kind=6)(gc1:CellsAt s b1 0 [.int .i64 x.kind,.int .i64 x.op,.int .u32 x.num,St x.name,.slice A1 n1 z1])(gc2:CellsAt s b2 0 [.slice A n2 z2])(hA:VeS p f d s A n2 z2 x.args)(h0:0 < n2)(hr:vX p OPp (sem p OPp n) f x m≠.out):AP prog D 166 [.pointer (some ⟨c.bm,0,none⟩),.pointer (some ⟨b1,0,none⟩),.pointer (some ⟨b2,0,none⟩)] (MB c N 0 m iv ov 0 0::MGb c m::MFb c m::(R++L)) s (okE p c N (vX p OPp (sem p OPp n) f x m) VE RE [] L) (qd0 c N (vX p OPp (sem p OPp n) f x m) [] L):=by
 obtain ⟨r,hq⟩:∃ r,r=vX p OPp (sem p OPp n) f x m:=⟨_,rfl⟩
 rw [← hq] at hr ⊢
 rw [qpx hk] at hq
 obtain ⟨B0,o0,b0,rfl,hcE,hvE⟩:=VeS.at_ hA h0
 refine qa0 (fn:=f166) qao func166 V Z ntmps166 Z (rs:=[.tmp 4]) Z [(0,_),(1,_),(2,_)] Z<|Sr<|At Z Z<|Zs<|qay qad 14 Z ([]:Hl) (fun x hx=>by cases hx) ?_
 intro s1 h1
 refine za 0 Z (qbs Z Z Z Z) Z<|za 1 Z (qaC 1 Z Z Z (gc1.le h1) Z) Z<|za 2 Z (qah Z Z Z (gc2.le h1) Z) Z<|za 3 Z (qas Z Z Z Z Z Z h0) Z<|za 4 Z (qah Z Z Z (hcE.le h1) Z) Z<|za 5 Z (qan Z) Z ?_
 refine qfl 6 11 V ?_ ?_
 ·
  refine qbT Z Tt (first:=[]) (captured:=[.pointer (some ⟨b0,0,none⟩)]) Z Z Z (AP.fr (fun L=>hE L _ c N f d (qbA x.args 0) _ m iv ov R (hC.le h1) hn (hvE.le h1) (hM.le h1) (qaW hq hr)) [] _) ?_ ?_
  ·
   rintro _ _ sx2 hx2 ⟨hp2,mf2,sf2,cf2,Zf2,he2,rfl,hF2⟩ fr9
   repeat (first | refine qaK ?_ | refine qaA ?_)
   refine qa5 [] _ Pr (h1.t hx2) fun _ hS2=>?_
   exact ⟨hp2,mf2,sf2,cf2,Zf2,qbt hq he2,rfl,hF2⟩
  rintro _ _ s2 h2 ⟨a2,m2,iv2,ov2,R2,he2,⟨rfl,hu2⟩,rfl,hM2⟩
  refine ⟨(fun x hx=>by cases hx),?_⟩
  rw [he2] at hq
  simp only [ER.and] at hq
  simp only [cQ9,nQ9]
  refine qfl 7 11 V ?_ ?_
  ·
   refine Jb Z Tt Z Z Z (qcE D _ _ x.op a2 0 hu2 ⟨by decide,by decide⟩) ?_
   rintro _ _ s3 h3 ⟨rfl,rfl⟩
   refine ⟨(fun x hx=>by cases hx),?_⟩
   refine za 8 Z (qan Z) Z<|za 9 Z (qaX Z Z) Z<|za 10 Z (qaX Z Z) Z<|qax 11 V<|qaL Z Tt Z [_,_] Z Z ?_
   intro β4 s4 h4
   refine za 12 Z (qaM Z) Z<|qax 13 V<|Wu Z Tt 0 [_,_] Y9 (fun x hx=>by cases hx)<|qal V<|Zt<|Sr<|Zqm Z Z<|At Z Z<|Zo<|?_
   refine qaN [_] _ (.inr Z) (.t1 Z) Z (h1.t h2|>.t h3|>.t h4) fun _ hS2=>?_
   exact ⟨_,m2,iv2,ov2,R2,hq,⟨rfl,opU hu2 ⟨by decide,by decide⟩⟩,rfl,(hM2.le (h3.t h4|>.t hS2))⟩
  refine qaL Z Tt Z [_,_] Z Z ?_
  intro β5 s5 h5
  refine qax 7 V<|Jb Z Tt Z Z Z (qcE D _ _ x.op a2 0 hu2 ⟨by decide,by decide⟩) ?_
  rintro _ _ s6 h6 ⟨rfl,rfl⟩
  refine ⟨(fun x hx=>by cases hx),?_⟩
  refine za 8 Z (qan Z) Z<|za 9 Z (qaX Z Z) Z<|za 10 Z (qaX Z Z) Z<|za 12 Z (qaM Z) Z<|qax 13 V<|Wu Z Tt 0 [_,_] Y9 (fun x hx=>by cases hx)<|qal V<|Zt<|Sr<|Zqm Z Z<|At Z Z<|Zo<|?_
  refine qaN [_] _ (.inr Z) (.t1 Z) Z (h1.t h2|>.t h5|>.t h6) fun _ hS2=>?_
  exact ⟨_,m2,iv2,ov2,R2,hq,⟨rfl,opU hu2 ⟨by decide,by decide⟩⟩,rfl,(hM2.le (h5.t h6|>.t hS2))⟩
 refine qaL Z Tt Z [_,_] Z Z ?_
 intro β7 s7 h7
 refine qax 6 V ?_
 refine qbT Z Tt (first:=[]) (captured:=[.pointer (some ⟨b0,0,none⟩)]) Z Z Z (AP.fr (fun L=>hE L _ c N f d (qbA x.args 0) _ m iv ov R (hC.le (h1.t h7)) hn (hvE.le (h1.t h7)) (hM.le (h1.t h7)) (qaW hq hr)) [_] _) ?_ ?_
 ·
  rintro _ _ sx8 hx8 ⟨hp8,mf8,sf8,cf8,Zf8,he8,rfl,hF8⟩ fr9
  repeat (first | refine qaK ?_ | refine qaA ?_)
  refine qa5 [_] _ Pr (h1.t h7|>.t hx8) fun _ hS2=>?_
  exact ⟨hp8,mf8,sf8,cf8,Zf8,qbt hq he8,rfl,hF8⟩
 rintro _ _ s8 h8 ⟨a8,m8,iv8,ov8,R8,he8,⟨rfl,hu8⟩,rfl,hM8⟩
 refine ⟨(fun x hx=>by cases hx),?_⟩
 rw [he8] at hq
 simp only [ER.and] at hq
 simp only [cQ9,nQ9]
 refine qax 7 V<|Jb Z Tt Z Z Z (qcE D _ _ x.op a8 0 hu8 ⟨by decide,by decide⟩) ?_
 rintro _ _ s9 h9 ⟨rfl,rfl⟩
 refine ⟨(fun x hx=>by cases hx),?_⟩
 refine za 8 Z (qan Z) Z<|za 9 Z (qaX Z Z) Z<|za 10 Z (qaX Z Z) Z<|za 12 Z (qaM Z) Z<|qax 13 V<|Wu Z Tt 0 [_,_] Y9 (fun x hx=>by cases hx)<|qal V<|Zt<|Sr<|Zqm Z Z<|At Z Z<|Zo<|?_
 refine qaN [_] _ (.inr Z) (.t1 Z) Z (h1.t h7|>.t h8|>.t h9) fun _ hS2=>?_
 exact ⟨_,m8,iv8,ov8,R8,hq,⟨rfl,opU hu8 ⟨by decide,by decide⟩⟩,rfl,(hM8.le (h9.t hS2))⟩
theorem qtM(p:Prg)(D n:Nat)(hE:EOK p D n)(L:Hl)(s:World)(c:MC)(N:Nat)(f:Fnc)(d:Nat)(x:Ex)(m:MS)(iv ov:Value)(R:Hl)(hC:CT p c s)(hn:c.nf=f.params.length+f.locals.length)(hM:MG p c N m iv ov R s)(b1 b2 b3 b4 b5:Nat)(hk:x.kind=7)(gc1:CellsAt s b1 0 [.func (.func 123) #[] #[.pointer (some ⟨b4,0,none⟩)]])(gc2:CellsAt s b2 0 [.int .i64 x.op])(gc3:CellsAt s b3 0 [.func (.func 123) #[] #[.pointer (some ⟨b5,0,none⟩)]])(hv1:VeR p f d s (qbA x.args 0) [.func (.func 123) #[] #[.pointer (some ⟨b4,0,none⟩)]])(hv2:VeR p f d s (qbA x.args 1) [.func (.func 123) #[] #[.pointer (some ⟨b5,0,none⟩)]])(hr:vX p OPp (sem p OPp n) f x m≠.out):AP prog D 195 [.pointer (some ⟨c.bm,0,none⟩),.pointer (some ⟨b1,0,none⟩),.pointer (some ⟨b2,0,none⟩),.pointer (some ⟨b3,0,none⟩)] (MB c N 0 m iv ov 0 0::MGb c m::MFb c m::(R++L)) s (okE p c N (vX p OPp (sem p OPp n) f x m) VE RE [] L) (qd0 c N (vX p OPp (sem p OPp n) f x m) [] L):=by
 obtain ⟨r,hq⟩:∃ r,r=vX p OPp (sem p OPp n) f x m:=⟨_,rfl⟩
 rw [← hq] at hr ⊢
 rw [qkl hk] at hq
 refine qa0 (fn:=f195) qao func195 V Z ntmps195 Z (rs:=[.tmp 5]) Z [(0,_),(1,_),(2,_),(3,_)] Z<|Sr<|At Z Z<|Sr<|qac (qah Z Z Z (gc1.le (Lr D)) Z) Z<|Zqm Z Z ?_
 refine qa3 (first:=[]) (captured:=[.pointer (some ⟨b4,0,none⟩)]) Z Z Z (AP.fr (fun L=>hE L _ c N f d (qbA x.args 0) _ m iv ov R (hC.le (Lr D)) hn (hv1.le (Lr D)) (hM.le (Lr D)) (qaW hq hr)) [] _) ?_ ?_
 ·
  rintro _ _ sx1 hx1 ⟨hp1,mf1,sf1,cf1,Zf1,he1,rfl,hF1⟩ fr9
  repeat (first | refine qaK ?_ | refine qaA ?_)
  refine qa5 [] _ Pr hx1 fun _ hS2=>?_
  exact ⟨hp1,mf1,sf1,cf1,Zf1,qbt hq he1,rfl,hF1⟩
 rintro _ _ s1 h1 ⟨a1,m1,iv1,ov1,R1,he1,⟨rfl,hu1⟩,rfl,hM1⟩
 rw [he1] at hq
 simp only [ER.and] at hq
 simp only [cQ9,nQ9]
 refine At Z Z<|Zs<|?_
 refine qaU 17 (x.op=20∧a1=0) ?_ ?_
 ·
  refine Zr<|qac (qah Z Z Z (gc2.le h1) Z) Z<|qar Z Z Z<|Zqm Z Z<|?_
  refine qak (t:=14) Z (fun c3=>?_) (fun c3=>?_)
  ·
   refine Zg Z Z<|Zqm Z Z<|Zg Z Z<|qar Z Z Z<|ZqT Z Z Z<|Zn<|?_
   refine qab (MidB.mk (Lr D) Sb Z (decide_eq_decide.2 O))
  refine Wf Y4<|Wf Y4<|ZqF Z Z Z<|Zn<|?_
  refine qab (MidB.mk (Lr D) Sb Z ((decide_eq_false O).symm))
 intro s2 h2
 refine qaa Z (fun c4=>?_) (fun c4=>?_)
 ·
  rw [if_pos c4] at hq
  refine Sr<|At Z Z<|Zo<|Zu<|?_
  refine qaN [] _ (.inr Z) (.t1 Z) Z (h1.t h2) fun _ hS2=>?_
  first
    | (exact ⟨_,m1,iv1,ov1,R1,hq,⟨rfl,⟨by decide,by decide⟩⟩,rfl,(hM1.le (h2.t hS2))⟩)
    | (exact ⟨_,m1,iv1,ov1,R1,hq,⟨by rw [if_pos q8];rfl,qf8 hu1 hu1⟩,rfl,(hM1.le (h2.t hS2))⟩)
 rw [if_neg c4] at hq
 refine Zk<|Zt<|Zs<|?_
 refine qaU 23 (x.op=21∧a1≠0) ?_ ?_
 ·
  refine Zr<|qac (qah Z Z Z (gc2.le (h1.t h2)) Z) Z<|qar Z Z Z<|Zqm Z Z<|?_
  refine qak (t:=20) Z (fun c6=>?_) (fun c6=>?_)
  ·
   refine Zg Z Z<|Zqm Z Z<|Zg Z Z<|qb2 Z Z Z<|ZqT Z Z Z<|Zn<|?_
   refine qab (MidB.mk (Lr D) Sb Z (qbw O))
  refine Wf Y4<|Wf Y4<|ZqF Z Z Z<|Zn<|?_
  refine qab (MidB.mk (Lr D) Sb Z ((decide_eq_false O).symm))
 intro s5 h5
 refine qaa Z (fun c7=>?_) (fun c7=>?_)
 ·
  rw [if_pos c7] at hq
  refine Sr<|At Z Z<|Zo<|Zu<|?_
  refine qaN [] _ (.inr Z) (.t1 Z) Z (h1.t h2|>.t h5) fun _ hS2=>?_
  first
    | (exact ⟨_,m1,iv1,ov1,R1,hq,⟨rfl,⟨by decide,by decide⟩⟩,rfl,(hM1.le (h2.t h5|>.t hS2))⟩)
    | (exact ⟨_,m1,iv1,ov1,R1,hq,⟨by rw [if_pos q8];rfl,qf8 hu1 hu1⟩,rfl,(hM1.le (h2.t h5|>.t hS2))⟩)
 rw [if_neg c7] at hq
 refine Zk<|Zt<|Zs<|qay qad 12 Z ([]:Hl) (fun x hx=>by cases hx) ?_
 intro s8 h8
 refine za 0 Z (qah Z Z Z (gc2.le (h1.t h2|>.t h5|>.t h8)) Z) Z<|za 1 Z (qan Z) Z<|za 2 Z (qah Z Z Z (gc3.le (h1.t h2|>.t h5|>.t h8)) Z) Z<|za 3 Z (qan Z) Z ?_
 refine qfl 4 9 V ?_ ?_
 ·
  refine qbT Z Tt (first:=[]) (captured:=[.pointer (some ⟨b5,0,none⟩)]) Z Z Z (AP.fr (fun L=>hE L _ c N f d (qbA x.args 1) _ m1 iv1 ov1 R1 (hC.le (h1.t h2|>.t h5|>.t h8)) hn (hv2.le (h1.t h2|>.t h5|>.t h8)) (hM1.le (h2.t h5|>.t h8)) (qaW hq hr)) [] _) ?_ ?_
  ·
   rintro _ _ sx9 hx9 ⟨hp9,mf9,sf9,cf9,Zf9,he9,rfl,hF9⟩ fr9
   repeat (first | refine qaK ?_ | refine qaA ?_)
   refine qa5 [] _ Pr (h1.t h2|>.t h5|>.t h8|>.t hx9) fun _ hS2=>?_
   exact ⟨hp9,mf9,sf9,cf9,Zf9,qbt hq he9,rfl,hF9⟩
  rintro _ _ s9 h9 ⟨a9,m9,iv9,ov9,R9,he9,⟨rfl,hu9⟩,rfl,hM9⟩
  refine ⟨(fun x hx=>by cases hx),?_⟩
  rw [he9] at hq
  simp only [ER.and] at hq
  simp only [cQ9,nQ9]
  refine qfl 5 9 V ?_ ?_
  ·
   refine Jb Z Tt Z Z Z (qcE D _ _ x.op a1 a9 hu1 hu9) ?_
   rintro _ _ s10 h10 ⟨rfl,rfl⟩
   refine ⟨(fun x hx=>by cases hx),?_⟩
   refine za 6 Z (qan Z) Z<|za 7 Z (qaX Z Z) Z<|za 8 Z (qaX Z Z) Z<|qax 9 V<|qaL Z Tt Z [_,_] Z Z ?_
   intro β11 s11 h11
   refine za 10 Z (qaM Z) Z<|qax 11 V<|Wu Z Tt 0 [_,_] Y9 (fun x hx=>by cases hx)<|qal V<|Zt<|Zs<|Sr<|qac (qag 0 [_,_] Z Z Z Z Z) Z<|qac (qam [] [_,_] Z Z Z Z Z Z) Z<|qac (qgw Z Z (qc8 _ _ _ _)) Z<|Nt<|?_
   refine qaP Z (fun c12=>?_) (fun c12=>?_)
   ·
    have q9:¬ (qee x.op _).1=0:=fun h=>c12 (by rw [ql8 h];exact ⟨rfl,rfl⟩)
    refine Zr<|Zqm Z Z<|?_
    refine qa3 (first:=[]) (captured:=[]) Z Z Z (qc2 D [_] _ _ c N _ m9 iv9 ov9 _ _) ?_ ?_
    ·
     rintro _ _ sx13 hx13 ⟨hp13,rfl⟩ fr9
     repeat (first | refine qaK ?_ | refine qaA ?_)
     refine qa5 [_] _ Pr (h1.t h2|>.t h5|>.t h8|>.t h9|>.t h10|>.t h11|>.t hx13) fun _ hS2=>?_
     exact ⟨hp13,m9,_,_,_,by rw [hq,if_neg q9],rfl,((hM9.le (h10.t h11|>.t hx13)).fin _ _ _)⟩
    rintro _ _ s13 h13 ⟨⟩
   have q8:=c12.1
   rw [if_pos q8] at hq
   refine Zk<|Zt<|Sr<|Zqm Z Z<|At Z Z<|Zo<|?_
   refine qaN [_] _ (.inr Z) (.t1 Z) Z (h1.t h2|>.t h5|>.t h8|>.t h9|>.t h10|>.t h11) fun _ hS2=>?_
   first
     | (exact ⟨_,m9,iv9,ov9,R9,hq,⟨rfl,⟨by decide,by decide⟩⟩,rfl,(hM9.le (h10.t h11|>.t hS2))⟩)
     | (exact ⟨_,m9,iv9,ov9,R9,hq,⟨by rw [if_pos q8];rfl,qf8 hu1 hu9⟩,rfl,(hM9.le (h10.t h11|>.t hS2))⟩)
  refine qaL Z Tt Z [_,_] Z Z ?_
  intro β14 s14 h14
  refine qax 5 V<|Jb Z Tt Z Z Z (qcE D _ _ x.op a1 a9 hu1 hu9) ?_
  rintro _ _ s15 h15 ⟨rfl,rfl⟩
  refine ⟨(fun x hx=>by cases hx),?_⟩
  refine za 6 Z (qan Z) Z<|za 7 Z (qaX Z Z) Z<|za 8 Z (qaX Z Z) Z<|za 10 Z (qaM Z) Z<|qax 11 V<|Wu Z Tt 0 [_,_] Y9 (fun x hx=>by cases hx)<|qal V<|Zt<|Zs<|Sr<|qac (qag 0 [_,_] Z Z Z Z Z) Z<|qac (qam [] [_,_] Z Z Z Z Z Z) Z<|qac (qgw Z Z (qc8 _ _ _ _)) Z<|Nt<|?_
  refine qaP Z (fun c16=>?_) (fun c16=>?_)
  ·
   have q9:¬ (qee x.op _).1=0:=fun h=>c16 (by rw [ql8 h];exact ⟨rfl,rfl⟩)
   refine Zr<|Zqm Z Z<|?_
   refine qa3 (first:=[]) (captured:=[]) Z Z Z (qc2 D [_] _ _ c N _ m9 iv9 ov9 _ _) ?_ ?_
   ·
    rintro _ _ sx17 hx17 ⟨hp17,rfl⟩ fr9
    repeat (first | refine qaK ?_ | refine qaA ?_)
    refine qa5 [_] _ Pr (h1.t h2|>.t h5|>.t h8|>.t h9|>.t h14|>.t h15|>.t hx17) fun _ hS2=>?_
    exact ⟨hp17,m9,_,_,_,by rw [hq,if_neg q9],rfl,((hM9.le (h14.t h15|>.t hx17)).fin _ _ _)⟩
   rintro _ _ s17 h17 ⟨⟩
  have q8:=c16.1
  rw [if_pos q8] at hq
  refine Zk<|Zt<|Sr<|Zqm Z Z<|At Z Z<|Zo<|?_
  refine qaN [_] _ (.inr Z) (.t1 Z) Z (h1.t h2|>.t h5|>.t h8|>.t h9|>.t h14|>.t h15) fun _ hS2=>?_
  first
    | (exact ⟨_,m9,iv9,ov9,R9,hq,⟨rfl,⟨by decide,by decide⟩⟩,rfl,(hM9.le (h14.t h15|>.t hS2))⟩)
    | (exact ⟨_,m9,iv9,ov9,R9,hq,⟨by rw [if_pos q8];rfl,qf8 hu1 hu9⟩,rfl,(hM9.le (h14.t h15|>.t hS2))⟩)
 refine qaL Z Tt Z [_,_] Z Z ?_
 intro β18 s18 h18
 refine qax 4 V ?_
 refine qbT Z Tt (first:=[]) (captured:=[.pointer (some ⟨b5,0,none⟩)]) Z Z Z (AP.fr (fun L=>hE L _ c N f d (qbA x.args 1) _ m1 iv1 ov1 R1 (hC.le (h1.t h2|>.t h5|>.t h8|>.t h18)) hn (hv2.le (h1.t h2|>.t h5|>.t h8|>.t h18)) (hM1.le (h2.t h5|>.t h8|>.t h18)) (qaW hq hr)) [_] _) ?_ ?_
 ·
  rintro _ _ sx19 hx19 ⟨hp19,mf19,sf19,cf19,Zf19,he19,rfl,hF19⟩ fr9
  repeat (first | refine qaK ?_ | refine qaA ?_)
  refine qa5 [_] _ Pr (h1.t h2|>.t h5|>.t h8|>.t h18|>.t hx19) fun _ hS2=>?_
  exact ⟨hp19,mf19,sf19,cf19,Zf19,qbt hq he19,rfl,hF19⟩
 rintro _ _ s19 h19 ⟨a19,m19,iv19,ov19,R19,he19,⟨rfl,hu19⟩,rfl,hM19⟩
 refine ⟨(fun x hx=>by cases hx),?_⟩
 rw [he19] at hq
 simp only [ER.and] at hq
 simp only [cQ9,nQ9]
 refine qax 5 V<|Jb Z Tt Z Z Z (qcE D _ _ x.op a1 a19 hu1 hu19) ?_
 rintro _ _ s20 h20 ⟨rfl,rfl⟩
 refine ⟨(fun x hx=>by cases hx),?_⟩
 refine za 6 Z (qan Z) Z<|za 7 Z (qaX Z Z) Z<|za 8 Z (qaX Z Z) Z<|za 10 Z (qaM Z) Z<|qax 11 V<|Wu Z Tt 0 [_,_] Y9 (fun x hx=>by cases hx)<|qal V<|Zt<|Zs<|Sr<|qac (qag 0 [_,_] Z Z Z Z Z) Z<|qac (qam [] [_,_] Z Z Z Z Z Z) Z<|qac (qgw Z Z (qc8 _ _ _ _)) Z<|Nt<|?_
 refine qaP Z (fun c21=>?_) (fun c21=>?_)
 ·
  have q9:¬ (qee x.op _).1=0:=fun h=>c21 (by rw [ql8 h];exact ⟨rfl,rfl⟩)
  refine Zr<|Zqm Z Z<|?_
  refine qa3 (first:=[]) (captured:=[]) Z Z Z (qc2 D [_] _ _ c N _ m19 iv19 ov19 _ _) ?_ ?_
  ·
   rintro _ _ sx22 hx22 ⟨hp22,rfl⟩ fr9
   repeat (first | refine qaK ?_ | refine qaA ?_)
   refine qa5 [_] _ Pr (h1.t h2|>.t h5|>.t h8|>.t h18|>.t h19|>.t h20|>.t hx22) fun _ hS2=>?_
   exact ⟨hp22,m19,_,_,_,by rw [hq,if_neg q9],rfl,((hM19.le (h20.t hx22)).fin _ _ _)⟩
  rintro _ _ s22 h22 ⟨⟩
 have q8:=c21.1
 rw [if_pos q8] at hq
 refine Zk<|Zt<|Sr<|Zqm Z Z<|At Z Z<|Zo<|?_
 refine qaN [_] _ (.inr Z) (.t1 Z) Z (h1.t h2|>.t h5|>.t h8|>.t h18|>.t h19|>.t h20) fun _ hS2=>?_
 first
   | (exact ⟨_,m19,iv19,ov19,R19,hq,⟨rfl,⟨by decide,by decide⟩⟩,rfl,(hM19.le (h20.t hS2))⟩)
   | (exact ⟨_,m19,iv19,ov19,R19,hq,⟨by rw [if_pos q8];rfl,qf8 hu1 hu19⟩,rfl,(hM19.le (h20.t hS2))⟩)
theorem ql3{r:ER (List Int)}:(r.and fun vs m=>.ok ([]++vs) m)=r:=by cases r <;> rfl
theorem qpk{E:Ex→MS→ER Int}{l:List Ex}{k:Nat}(h:k < l.length)(pre:List Int)(m:MS):(qaD E (l.drop k) m).and (fun vs m=>.ok (pre++vs) m)=(E (qbA l k) m).and fun v m=>(qaD E (l.drop (k+1)) m).and fun vs m=>.ok ((pre++[v])++vs) m:=by
 have e:qbA l k=l[k]:=by rw [qbA,List.getD_eq_getElem?_getD,List.getElem?_eq_getElem h];rfl
 rw [List.drop_eq_getElem_cons h,qaD,ER.and_assoc,e]
 congr 1
 funext v m
 rw [ER.and_assoc]
 congr 1
 funext vs m
 simp [ER.and,List.append_assoc]
structure CG where
 k:Nat
 pre:List Int
 m:MS
 iv:Value
 ov:Value
 R:Hl
 v:Value
 M:Hl
theorem qsy(w:List Int)(x:Int):wv (w++[x])=wv w++[.int .u32 x]:=by simp [wv]
theorem qjl(p:Prg)(D n:Nat)(hE:EOK p D n)(L:Hl)(s:World)(c:MC)(N:Nat)(f:Fnc)(d:Nat)(xs:List Ex)(m:MS)(iv ov:Value)(R:Hl)(hC:CT p c s)(hn:c.nf=f.params.length+f.locals.length)(hM:MG p c N m iv ov R s)(hK:COK p D n)(b1 b2 k:Nat)(fk:Fnc)(A:Option Addr)(n1 z1:Nat)(gc1:CellsAt s b1 0 [.slice A n1 z1])(gc2:CellsAt s b2 0 [.int .i64 (k:Int)])(hA:VeS p f d s A n1 z1 xs)(hp:p.funcs[k]?=some fk)(hl:xs.length=fk.params.length)(hr:((qaD ((sem p OPp n).e f) xs m).and fun vs m=>(sem p OPp n).c k vs m)≠.out):AP prog D 130 [.pointer (some ⟨c.bm,0,none⟩),.pointer (some ⟨b1,0,none⟩),.pointer (some ⟨b2,0,none⟩)] (MB c N 0 m iv ov 0 0::MGb c m::MFb c m::(R++L)) s (okE p c N ((qaD ((sem p OPp n).e f) xs m).and fun vs m=>(sem p OPp n).c k vs m) VE RE [] L) (qd0 c N ((qaD ((sem p OPp n).e f) xs m).and fun vs m=>(sem p OPp n).c k vs m) [] L):=by
 obtain ⟨r,hq⟩:∃ r,r=(qaD ((sem p OPp n).e f) xs m).and fun vs m=>(sem p OPp n).c k vs m:=⟨_,rfl⟩
 rw [← hq] at hr ⊢
 have hf9:=hC.fs fk (List.mem_of_getElem? hp)
 have hn1:=hA.1
 have hc1:=hA.2.1
 have hc2:=hA.2.2.1
 refine qa0 (fn:=f130) qao func130 V Z ntmps130 Z (rs:=[.tmp 4]) Z [(0,_),(1,_),(2,_)] Z<|Sr<|At Z Z<|Sr<|At Z Z<|Zs<|Sr<|qac (qah Z Z Z (gc1.le (Lr D)) Z) Z<|Ws Y4<|Zqm Z Z<|Nt<|Zp<|?_
 refine qav (γ:=CG) (fun g=>[(0,_),(2,_),(4,_),(5,g.v),(8,_),(9,_),(10,.int .i64 (g.k:Int))]) (fun g=>g.M++(MB c N 0 g.m g.iv g.ov 0 0::MGb c g.m::MFb c g.m::(g.R++L))) (fun g tw=>Le D s tw∧(g.k≤n1∧MG p c N g.m g.iv g.ov g.R tw∧FL.Own 29 1 g.M g.v g.pre.length (wv g.pre)∧g.pre.length=g.k∧(∀ x∈g.pre,U32 x)∧r=((qaD ((sem p OPp n).e f) (xs.drop g.k) g.m).and fun vs m=>.ok (g.pre++vs) m).and fun vs m=>(sem p OPp n).c k vs m)) (fun g=>n1 - g.k) (fun _ _ _ h hl=>⟨h.1.trans hl,⟨h.2.1,h.2.2.1.le hl,h.2.2.2⟩⟩) ⟨0,[],m,iv,ov,R,.slice none 0 0,[]⟩ (.c6 Z Z Z Z Z Z (.cons Z (.nil _))) Z ⟨Le.refl _,⟨Nat.zero_le _,hM.le (Lr D),.nil,Z,fun x hx=>(by cases hx),by rw [hq,List.drop_zero,ql3]⟩⟩ ?_
 intro g s1 I1
 obtain ⟨j,pre,mk,ivk,ovk,Rk,vk,Mk⟩:=g
 obtain ⟨hj0,hMk,hOk,hpl,hup,hq⟩:j≤n1∧MG p c N mk ivk ovk Rk s1∧FL.Own 29 1 Mk vk pre.length (wv pre)∧pre.length=j∧(∀ x∈pre,U32 x)∧r=((qaD ((sem p OPp n).e f) (xs.drop j) mk).and fun vs m=>.ok (pre++vs) m).and fun vs m=>(sem p OPp n).c k vs m:=I1.2
 obtain ⟨Av,cv,rfl,_,_⟩:=Own.slice hOk
 dsimp only
 refine Sr<|qbh Z Z Z<|Nt<|Zs<|?_
 refine qaa Z (fun c2=>?_) (fun c2=>?_)
 ·
  have hj:j < n1:=by omega
  rw [qpk O,ER.and_assoc] at hq
  obtain ⟨B0,o0,b0,hAe,hcE,hvE⟩:=VeS.at_ (hA.le I1.1) hj
  subst hAe
  refine Zk<|Zt<|Zs<|Zp<|Sr<|qac (qas Z Z Z Z Z Z hj) Z<|qac (qah Z Z Z (hcE.le (Lr D)) Z) Z<|At Z Z<|Zr<|Zqm Z Z<|Zqm Z Z<|Zqm Z Z<|?_
  refine qa3 (first:=[]) (captured:=[.pointer (some ⟨b0,0,none⟩)]) Z Z Z (AP.fr (fun L=>hE L _ c N f d (qbA xs j) _ mk ivk ovk Rk (hC.le I1.1) hn (hvE.le (Lr D)) (hMk.le (Lr D)) (qaW hq hr)) Mk _) ?_ ?_
  ·
   rintro _ _ sx3 hx3 ⟨hp3,mf3,sf3,cf3,Zf3,he3,rfl,hF3⟩ fr9
   repeat (first | refine qaK ?_ | refine qaA ?_)
   refine qa5 Mk _ Pr (I1.1.t hx3) fun _ hS2=>?_
   exact ⟨hp3,mf3,sf3,cf3,Zf3,qbt hq he3,rfl,hF3⟩
  rintro _ _ s3 h3 ⟨a3,m3,iv3,ov3,R3,he3,⟨rfl,hu3⟩,rfl,hM3⟩
  rw [he3] at hq
  simp only [ER.and] at hq
  refine qbk [(_,_)] [_] Z Z Z Z Z Z Z Z Z ?_
  intro β4 s4 h4 hc4
  refine qba (sz:=1) [] Mk _ Z Z Z Z Z Z Z hOk (Row.of_cells (hc4.le (Lr D)) Z Z) ⟨by simp [ti29];omega,by omega⟩ Z ?_
  intro v9 M9 s5 h5 oq
  obtain ⟨A9,c9,rfl,_,_⟩:=Own.slice oq
  simp only [List.nil_append]
  refine Zqa Z Z<|Zn<|Zb<|Zt<|Zr<|qaF Z Z Z (w64 O O)<|Zqm Z Z<|Zn<|?_
  refine qab ⟨⟨j+1,pre++[a3],m3,iv3,ov3,R3,_,M9⟩,[],kp,Z,⟨(I1.1.t h3|>.t h4|>.t h5),⟨by show j+1≤n1;omega,(hM3.le (h4.t h5)),by rw [qsy,List.length_append];exact oq,by simp;omega,fun x hx=>by rcases List.mem_append.1 hx with hx | hx;exact hup x hx;cases List.mem_singleton.1 hx;exact hu3,hq⟩⟩,(by show n1 - (j+1) < n1 - j;omega)⟩
 rw [List.drop_eq_nil_of_le O,qaD] at hq
 simp only [ER.and,List.append_nil] at hq
 refine Zl<|Zv<|Zv<|Zd<|Zt<|Zs<|qbC [] Mk _ ?_
 intro s6 h6 hpub6
 simp only [cQ9,nQ9]
 have hW:=Own.wds hOk hup hpub6
 refine Zr<|Zqm Z Z<|qac (qah Z Z Z (gc2.le (I1.1.t h6)) Z) Z<|Zqm Z Z ?_
 refine qa3 (first:=[]) (captured:=[]) Z Z Z (AP.fr (fun L=>hK L _ c N k fk pre Av pre.length cv mk ivk ovk Rk (hC.le (I1.1.t h6)) (hW.le (Lr D)) hp O (hMk.le h6) (hq▸hr)) [] _) ?_ ?_
 ·
  rintro _ _ sx7 hx7 ⟨hp7,mf7,sf7,cf7,Zf7,he7,rfl,hF7⟩ fr9
  repeat (first | refine qaK ?_ | refine qaA ?_)
  refine qa5 [] _ Pr (I1.1.t h6|>.t hx7) fun _ hS2=>?_
  exact ⟨hp7,mf7,sf7,cf7,Zf7,hq.trans he7,rfl,hF7⟩
 rintro _ _ s7 h7 ⟨a7,m7,iv7,ov7,R7,he7,⟨rfl,hu7⟩,rfl,hM7⟩
 rw [he7] at hq
 simp only [cQ9,nQ9]
 refine At Z Z<|Zo<|?_
 refine qaN [] _ (.inr Z) (.t1 Z) Z (I1.1.t h6|>.t h7) fun _ hS2=>?_
 exact ⟨_,m7,iv7,ov7,R7,hq,⟨rfl,hu7⟩,rfl,(hM7.le ((Lr D).t hS2))⟩
section
variable{p:Prg}{c:MC}{N:Nat}{m:MS}{iv ov:Value}{R:Hl}{s:World}
theorem qh5{l:List Int}{i:Nat}{v:Int}(h:∀ x∈l,U32 x)(hv:U32 v):∀ x∈l.set i v,U32 x:=fun x hx=>by
 rcases List.mem_or_eq_of_mem_set hx with h1 | rfl
 · exact h x h1
 · exact hv
theorem MG.setf(h:MG p c N m iv ov R s){v:Int}(hv:U32 v)(i:Nat):MG p c N { m with frm:=m.frm.set i v } iv ov R s:=⟨h.inp,h.out,h.ug,qh5 h.uf hv,h.ua,h.ng,h.lg,by rw [List.length_set];exact h.lf,h.lb,h.la,h.ar,h.lo,h.lc,h.ll,h.lN⟩
theorem MG.setg(h:MG p c N m iv ov R s){v:Int}(hv:U32 v)(i:Nat):MG p c N { m with glo:=m.glo.set i v } iv ov R s:=⟨h.inp,h.out,qh5 h.ug hv,h.uf,h.ua,h.ng,by rw [List.length_set];exact h.lg,h.lf,h.lb,h.la,h.ar,h.lo,h.lc,h.ll,h.lN⟩
end
theorem MG.arU{p:Prg}{c:MC}{N:Nat}{m:MS}{iv ov:Value}{R:Hl}{s:World}{k:Nat}{nm:Str}(hM:MG p c N m iv ov R s)(hg:qdi p nm=(k:Int)):∀ x∈qd1 p nm m,U32 x:=fun x hx=>by
 rw [qd1,hg,Int.toNat_natCast,List.getD_eq_getElem?_getD] at hx
 cases hl:m.arr[k]? with
 | none=>rw [hl] at hx;cases hx
 | some l=>rw [hl] at hx;exact hM.ua l (List.mem_of_getElem? hl) x hx
theorem qpO{T:Stm→MS→ER (Int×Int)}{l:List Stm}{k:Nat}{x:Stm}(h:l[k]?=some x)(m:MS):qbi T (l.drop k) m=(T x m).and fun y m=>if y.1=0 then qbi T (l.drop (k+1)) m else .ok y m:=by
 obtain ⟨hl,rfl⟩:=List.getElem?_eq_some_iff.1 h
 rw [List.drop_eq_getElem_cons hl,qbi]
structure RG where
 k:Nat
 m:MS
 iv:Value
 ov:Value
 R:Hl
theorem qiE(p:Prg)(D n:Nat)(hT:TOK p D n)(L:Hl)(s:World)(c:MC)(N:Nat)(f:Fnc)(d:Nat)(xs:List Stm)(m:MS)(iv ov:Value)(R:Hl)(hC:CT p c s)(hn:c.nf=f.params.length+f.locals.length)(hM:MG p c N m iv ov R s)(A:Option Addr)(n1 z1:Nat)(hA:VsS p f d s A n1 z1 xs)(hr:qbi ((sem p OPp n).t f) xs m≠.out):AP prog D 89 [.pointer (some ⟨c.bm,0,none⟩),.slice A n1 z1] (MB c N 0 m iv ov 0 0::MGb c m::MFb c m::(R++L)) s (okE p c N (qbi ((sem p OPp n).t f) xs m) VS RS [] L) (qd0 c N (qbi ((sem p OPp n).t f) xs m) [] L):=by
 obtain ⟨r,hq⟩:∃ r,r=qbi ((sem p OPp n).t f) xs m:=⟨_,rfl⟩
 rw [← hq] at hr ⊢
 have hn1:=hA.1
 have hc1:=hA.2.1
 have hc2:=hA.2.2.1
 refine qa0 (fn:=f89) qao func89 V Z ntmps89 Z (rs:=[.tmp 4]) Z [(0,_),(1,_)] Z<|Sr<|At Z Z<|Zs<|Sr<|Zqm Z Z<|Ws Y4<|Zqm Z Z<|Nt<|Zp<|?_
 refine qav (γ:=RG) (fun g=>[(0,_),(4,_),(8,_),(9,_),(10,.int .i64 (g.k:Int))]) (fun g=>MB c N 0 g.m g.iv g.ov 0 0::MGb c g.m::MFb c g.m::(g.R++L)) (fun g tw=>Le D s tw∧(g.k≤n1∧MG p c N g.m g.iv g.ov g.R tw∧r=qbi ((sem p OPp n).t f) (xs.drop g.k) g.m)) (fun g=>n1 - g.k) (fun _ _ _ h hl=>⟨h.1.trans hl,⟨h.2.1,h.2.2.1.le hl,h.2.2.2⟩⟩) ⟨0,m,iv,ov,R⟩ (.c5 Z Z Z Z Z (.nil _)) Z ⟨Le.refl _,⟨Nat.zero_le _,hM.le (Lr D),hq⟩⟩ ?_
 intro g s1 I1
 obtain ⟨j,mk,ivk,ovk,Rk⟩:=g
 obtain ⟨hj0,hMk,hq⟩:j≤n1∧MG p c N mk ivk ovk Rk s1∧r=qbi ((sem p OPp n).t f) (xs.drop j) mk:=I1.2
 dsimp only
 refine Sr<|qbh Z Z Z<|Nt<|Zs<|?_
 refine qaa Z (fun c2=>?_) (fun c2=>?_)
 ·
  have hj:j < n1:=by omega
  obtain ⟨B0,o0,b0,x,hAe,hx,hcE,hvE⟩:=VsS.at_ (hA.le I1.1) hj
  subst hAe
  rw [qpO hx] at hq
  refine Zk<|Zt<|Zs<|Zp<|Sr<|qac (qas Z Z Z Z Z Z hj) Z<|qac (qah Z Z Z (hcE.le (Lr D)) Z) Z<|At Z Z<|Sr<|Zqm Z Z<|Zqm Z Z<|?_
  refine qa3 (first:=[]) (captured:=[.pointer (some ⟨b0,0,none⟩)]) Z Z Z (AP.fr (fun L=>hT L _ c N f d x _ mk ivk ovk Rk (hC.le I1.1) hn (hvE.le (Lr D)) (hMk.le (Lr D)) (qaW hq hr)) [] _) ?_ ?_
  ·
   rintro _ _ sx3 hx3 ⟨hp3,mf3,sf3,cf3,Zf3,he3,rfl,hF3⟩ fr9
   repeat (first | refine qaK ?_ | refine qaA ?_)
   refine qa5 [] _ Pr (I1.1.t hx3) fun _ hS2=>?_
   exact ⟨hp3,mf3,sf3,cf3,Zf3,qbt hq he3,rfl,hF3⟩
  rintro _ _ s3 h3 ⟨⟨a3,y3⟩,m3,iv3,ov3,R3,he3,⟨rfl,hu3,hz3⟩,rfl,hM3⟩
  rw [he3] at hq
  simp only [ER.and] at hq
  simp only [cQ9,nQ9]
  refine At Z Z<|Sr<|Zqm Z Z<|qb2 Z Z Z<|Nt<|?_
  refine qaP Z (fun c4=>?_) (fun c4=>?_)
  ·
   rw [if_neg c4] at hq
   refine Sr<|Zqm Z Z<|At Z Z<|Zo<|Zc<|Zu<|Zu<|Zc<|Zu<|?_
   refine qaN [] _ (.inr Z) (.t1 Z) Z (I1.1.t h3) fun _ hS2=>?_
   first
     | (exact ⟨(_,_),m3,iv3,ov3,R3,hq,⟨rfl,hu3,hz3⟩,rfl,(hM3.le ((Lr D).t hS2))⟩)
     | (exact ⟨(0,0),m3,iv3,ov3,R3,hq,⟨rfl,⟨by decide,by decide⟩,fun _=>rfl⟩,rfl,(hM3.le ((Lr D).t hS2))⟩)
  rw [if_pos c4] at hq
  have hz9:=hz3 O
  simp only [RS] at *
  rw [hz9]
  refine Zk<|Zb<|Zt<|Zr<|qaF Z Z Z (w64 O O)<|Zqm Z Z<|Zn<|?_
  refine qab ⟨⟨j+1,m3,iv3,ov3,R3⟩,[],kp,Z,⟨(I1.1.t h3),⟨by show j+1≤n1;omega,(hM3.le (Lr D)),hq⟩⟩,(by show n1 - (j+1) < n1 - j;omega)⟩
 rw [List.drop_eq_nil_of_le O,qbi] at hq
 refine Zl<|Zv<|Zv<|Zd<|Zt<|Sr<|At Z Z<|Zo<|?_
 refine qaN [] _ (.inr Z) (.t1 Z) Z I1.1 fun _ hS2=>?_
 first
   | (exact ⟨(_,_),mk,ivk,ovk,Rk,hq,⟨rfl,hu0,hz0⟩,rfl,(hMk.le ((Lr D).t hS2))⟩)
   | (exact ⟨(0,0),mk,ivk,ovk,Rk,hq,⟨rfl,⟨by decide,by decide⟩,fun _=>rfl⟩,rfl,(hMk.le ((Lr D).t hS2))⟩)
theorem qqB(p:Prg)(D n:Nat)(hE:EOK p D n)(L:Hl)(s:World)(c:MC)(N:Nat)(f:Fnc)(d:Nat)(x:Stm)(m:MS)(iv ov:Value)(R:Hl)(hC:CT p c s)(hn:c.nf=f.params.length+f.locals.length)(hM:MG p c N m iv ov R s)(b1 b2 b4:Nat)(hk:x.kind=1)(h0:0≤qa4 f x.name)(hl:qa4 f x.name < ((f.params.length+f.locals.length:Nat):Int))(gc1:CellsAt s b1 0 [.func (.func 123) #[] #[.pointer (some ⟨b4,0,none⟩)]])(gc2:CellsAt s b2 0 [.int .i64 (qa4 f x.name)])(hv:VeR p f d s (qbA x.exprs 0) [.func (.func 123) #[] #[.pointer (some ⟨b4,0,none⟩)]])(hr:sX p (sem p OPp n) f x m≠.out):AP prog D 125 [.pointer (some ⟨c.bm,0,none⟩),.pointer (some ⟨b1,0,none⟩),.pointer (some ⟨b2,0,none⟩)] (MB c N 0 m iv ov 0 0::MGb c m::MFb c m::(R++L)) s (okE p c N (sX p (sem p OPp n) f x m) VS RS [] L) (qd0 c N (sX p (sem p OPp n) f x m) [] L):=by
 obtain ⟨r,hq⟩:∃ r,r=sX p (sem p OPp n) f x m:=⟨_,rfl⟩
 rw [← hq] at hr ⊢
 rw [sX,if_pos hk] at hq
 have hl3:qa4 f x.name < (c.nf:Int):=by rw [hn];exact hl
 refine qa0 (fn:=f125) qao func125 V Z ntmps125 Z (rs:=[.tmp 4]) Z [(0,_),(1,_),(2,_)] Z<|Sr<|At Z Z<|Zs<|qay qad 10 Z ([]:Hl) (fun x hx=>by cases hx) ?_
 intro s1 h1
 refine za 0 Z (qan Z) Z<|za 1 Z (qbx Z) Z<|za 2 Z (We Y4) Z<|za 4 Z (qah Z Z Z (gc2.le h1) Z) Z<|za 5 Z (qah Z Z Z (gc1.le h1) Z) Z<|za 6 Z (qan Z) Z ?_
 refine qfl 3 7 V ?_ ?_
 ·
  refine qe3 Z Tt (Wd 0 Y5) Z<|qax 7 V ?_
  refine qbT Z Tt (first:=[]) (captured:=[.pointer (some ⟨b4,0,none⟩)]) Z Z Z (AP.fr (fun L=>hE L _ c N f d (qbA x.exprs 0) _ m iv ov R (hC.le h1) hn (hv.le h1) (hM.le h1) (qaW hq hr)) [] _) ?_ ?_
  ·
   rintro _ _ sx2 hx2 ⟨hp2,mf2,sf2,cf2,Zf2,he2,rfl,hF2⟩ fr9
   repeat (first | refine qaK ?_ | refine qaA ?_)
   refine qa5 [] _ Pr (h1.t hx2) fun _ hS2=>?_
   exact ⟨hp2,mf2,sf2,cf2,Zf2,qbt hq he2,rfl,hF2⟩
  rintro _ _ s2 h2 ⟨a2,m2,iv2,ov2,R2,he2,⟨rfl,hu2⟩,rfl,hM2⟩
  refine ⟨(fun x hx=>by cases hx),?_⟩
  rw [he2] at hq
  simp only [ER.and] at hq
  simp only [cQ9,nQ9]
  rw [qmz,if_pos h0] at hq
  have hlf:qa4 f x.name < (m2.frm.length:Int):=by rw [hM2.lf];exact hl3
  refine za 8 Z (qdz Z Z Z Z Z Z h0 hl3) Z<|qax 9 V<|qf9 Z Tt 2 _ Z Z Z Z Z (qfN h0 hlf) Z (qfx _ h0 hlf) Z (fun x hx=>by cases hx)<|qal V<|Zt<|Sr<|At Z Z<|Zo<|?_
  refine qaN [] _ (.inr Z) (.t1 Z) Z (h1.t h2) fun _ hS2=>?_
  exact ⟨(0,0),{ m2 with frm:=m2.frm.set (qa4 f x.name).toNat a2 },iv2,ov2,R2,hq,⟨rfl,⟨by decide,by decide⟩,fun _=>rfl⟩,rfl,((hM2.setf hu2 _).le ((Lr D).t hS2))⟩
 refine qbT Z Tt (first:=[]) (captured:=[.pointer (some ⟨b4,0,none⟩)]) Z Z Z (AP.fr (fun L=>hE L _ c N f d (qbA x.exprs 0) _ m iv ov R (hC.le h1) hn (hv.le h1) (hM.le h1) (qaW hq hr)) [] _) ?_ ?_
 ·
  rintro _ _ sx4 hx4 ⟨hp4,mf4,sf4,cf4,Zf4,he4,rfl,hF4⟩ fr9
  repeat (first | refine qaK ?_ | refine qaA ?_)
  refine qa5 [] _ Pr (h1.t hx4) fun _ hS2=>?_
  exact ⟨hp4,mf4,sf4,cf4,Zf4,qbt hq he4,rfl,hF4⟩
 rintro _ _ s4 h4 ⟨a4,m4,iv4,ov4,R4,he4,⟨rfl,hu4⟩,rfl,hM4⟩
 refine ⟨(fun x hx=>by cases hx),?_⟩
 rw [he4] at hq
 simp only [ER.and] at hq
 simp only [cQ9,nQ9]
 rw [qmz,if_pos h0] at hq
 have hlf:qa4 f x.name < (m4.frm.length:Int):=by rw [hM4.lf];exact hl3
 refine qax 3 V<|qe3 Z Tt (Wd 0 Y5) Z<|za 8 Z (qdz Z Z Z Z Z Z h0 hl3) Z<|qax 9 V<|qf9 Z Tt 2 _ Z Z Z Z Z (qfN h0 hlf) Z (qfx _ h0 hlf) Z (fun x hx=>by cases hx)<|qal V<|Zt<|Sr<|At Z Z<|Zo<|?_
 refine qaN [] _ (.inr Z) (.t1 Z) Z (h1.t h4) fun _ hS2=>?_
 exact ⟨(0,0),{ m4 with frm:=m4.frm.set (qa4 f x.name).toNat a4 },iv4,ov4,R4,hq,⟨rfl,⟨by decide,by decide⟩,fun _=>rfl⟩,rfl,((hM4.setf hu4 _).le ((Lr D).t hS2))⟩
theorem qrQ(p:Prg)(D n:Nat)(hE:EOK p D n)(L:Hl)(s:World)(c:MC)(N:Nat)(f:Fnc)(d:Nat)(x:Stm)(m:MS)(iv ov:Value)(R:Hl)(hC:CT p c s)(hn:c.nf=f.params.length+f.locals.length)(hM:MG p c N m iv ov R s)(b1 b2 b4 k:Nat)(g:Glo)(hk:x.kind=1)(hs:¬ 0≤qa4 f x.name)(hg:qdi p x.name=(k:Int))(hp:p.globals[k]?=some g)(gc1:CellsAt s b1 0 [.func (.func 123) #[] #[.pointer (some ⟨b4,0,none⟩)]])(gc2:CellsAt s b2 0 [.int .i64 (k:Int)])(hv:VeR p f d s (qbA x.exprs 0) [.func (.func 123) #[] #[.pointer (some ⟨b4,0,none⟩)]])(hr:sX p (sem p OPp n) f x m≠.out):AP prog D 126 [.pointer (some ⟨c.bm,0,none⟩),.pointer (some ⟨b1,0,none⟩),.pointer (some ⟨b2,0,none⟩)] (MB c N 0 m iv ov 0 0::MGb c m::MFb c m::(R++L)) s (okE p c N (sX p (sem p OPp n) f x m) VS RS [] L) (qd0 c N (sX p (sem p OPp n) f x m) [] L):=by
 obtain ⟨r,hq⟩:∃ r,r=sX p (sem p OPp n) f x m:=⟨_,rfl⟩
 rw [← hq] at hr ⊢
 rw [sX,if_pos hk] at hq
 have hkl:=(List.getElem?_eq_some_iff.1 hp).1
 have hl3:(k:Int) < (c.ng:Int):=by rw [hM.ng];omega
 have h0:(0:Int)≤(k:Int):=by omega
 refine qa0 (fn:=f126) qao func126 V Z ntmps126 Z (rs:=[.tmp 4]) Z [(0,_),(1,_),(2,_)] Z<|Sr<|At Z Z<|Zs<|qay qad 10 Z ([]:Hl) (fun x hx=>by cases hx) ?_
 intro s1 h1
 refine za 0 Z (qan Z) Z<|za 1 Z (qbx Z) Z<|za 2 Z (We Y4) Z<|za 4 Z (qah Z Z Z (gc2.le h1) Z) Z<|za 5 Z (qah Z Z Z (gc1.le h1) Z) Z<|za 6 Z (qan Z) Z ?_
 refine qfl 3 7 V ?_ ?_
 ·
  refine qe3 Z Tt (Wd 0 Y5) Z<|qax 7 V ?_
  refine qbT Z Tt (first:=[]) (captured:=[.pointer (some ⟨b4,0,none⟩)]) Z Z Z (AP.fr (fun L=>hE L _ c N f d (qbA x.exprs 0) _ m iv ov R (hC.le h1) hn (hv.le h1) (hM.le h1) (qaW hq hr)) [] _) ?_ ?_
  ·
   rintro _ _ sx2 hx2 ⟨hp2,mf2,sf2,cf2,Zf2,he2,rfl,hF2⟩ fr9
   repeat (first | refine qaK ?_ | refine qaA ?_)
   refine qa5 [] _ Pr (h1.t hx2) fun _ hS2=>?_
   exact ⟨hp2,mf2,sf2,cf2,Zf2,qbt hq he2,rfl,hF2⟩
  rintro _ _ s2 h2 ⟨a2,m2,iv2,ov2,R2,he2,⟨rfl,hu2⟩,rfl,hM2⟩
  refine ⟨(fun x hx=>by cases hx),?_⟩
  rw [he2] at hq
  simp only [ER.and] at hq
  simp only [cQ9,nQ9]
  rw [qmz,if_neg hs,hg] at hq
  have hlf:(k:Int) < (m2.glo.length:Int):=by rw [hM2.lg];exact hl3
  refine za 8 Z (qdz Z Z Z Z Z Z h0 hl3) Z<|qax 9 V<|qf9 Z Tt 1 _ Z Z Z Z Z (qfN h0 hlf) Z (qfx _ h0 hlf) Z (fun x hx=>by cases hx)<|qal V<|Zt<|Sr<|At Z Z<|Zo<|?_
  refine qaN [] _ (.inr Z) (.t1 Z) Z (h1.t h2) fun _ hS2=>?_
  exact ⟨(0,0),{ m2 with glo:=m2.glo.set (k:Int).toNat a2 },iv2,ov2,R2,hq,⟨rfl,⟨by decide,by decide⟩,fun _=>rfl⟩,rfl,((hM2.setg hu2 _).le ((Lr D).t hS2))⟩
 refine qbT Z Tt (first:=[]) (captured:=[.pointer (some ⟨b4,0,none⟩)]) Z Z Z (AP.fr (fun L=>hE L _ c N f d (qbA x.exprs 0) _ m iv ov R (hC.le h1) hn (hv.le h1) (hM.le h1) (qaW hq hr)) [] _) ?_ ?_
 ·
  rintro _ _ sx4 hx4 ⟨hp4,mf4,sf4,cf4,Zf4,he4,rfl,hF4⟩ fr9
  repeat (first | refine qaK ?_ | refine qaA ?_)
  refine qa5 [] _ Pr (h1.t hx4) fun _ hS2=>?_
  exact ⟨hp4,mf4,sf4,cf4,Zf4,qbt hq he4,rfl,hF4⟩
 rintro _ _ s4 h4 ⟨a4,m4,iv4,ov4,R4,he4,⟨rfl,hu4⟩,rfl,hM4⟩
 refine ⟨(fun x hx=>by cases hx),?_⟩
 rw [he4] at hq
 simp only [ER.and] at hq
 simp only [cQ9,nQ9]
 rw [qmz,if_neg hs,hg] at hq
 have hlf:(k:Int) < (m4.glo.length:Int):=by rw [hM4.lg];exact hl3
 refine qax 3 V<|qe3 Z Tt (Wd 0 Y5) Z<|za 8 Z (qdz Z Z Z Z Z Z h0 hl3) Z<|qax 9 V<|qf9 Z Tt 1 _ Z Z Z Z Z (qfN h0 hlf) Z (qfx _ h0 hlf) Z (fun x hx=>by cases hx)<|qal V<|Zt<|Sr<|At Z Z<|Zo<|?_
 refine qaN [] _ (.inr Z) (.t1 Z) Z (h1.t h4) fun _ hS2=>?_
 exact ⟨(0,0),{ m4 with glo:=m4.glo.set (k:Int).toNat a4 },iv4,ov4,R4,hq,⟨rfl,⟨by decide,by decide⟩,fun _=>rfl⟩,rfl,((hM4.setg hu4 _).le ((Lr D).t hS2))⟩
theorem qnJ(p:Prg)(D n:Nat)(hE:EOK p D n)(L:Hl)(s:World)(c:MC)(N:Nat)(f:Fnc)(d:Nat)(x:Stm)(m:MS)(iv ov:Value)(R:Hl)(hC:CT p c s)(hn:c.nf=f.params.length+f.locals.length)(hM:MG p c N m iv ov R s)(b1 b2 k:Nat)(g:Glo)(A:Option Addr)(n1 z1:Nat)(hk:x.kind=2)(hg:qdi p x.name=(k:Int))(hp:p.globals[k]?=some g)(gc3:g.kind=3)(gc1:CellsAt s b1 0 [.int .i64 (k:Int)])(gc2:CellsAt s b2 0 [.slice A n1 z1])(hA:VeS p f d s A n1 z1 x.exprs)(h1n:1 < n1)(hr:sX p (sem p OPp n) f x m≠.out):AP prog D 86 [.pointer (some ⟨c.bm,0,none⟩),.pointer (some ⟨b1,0,none⟩),.pointer (some ⟨b2,0,none⟩)] (MB c N 0 m iv ov 0 0::MGb c m::MFb c m::(R++L)) s (okE p c N (sX p (sem p OPp n) f x m) VS RS [] L) (qd0 c N (sX p (sem p OPp n) f x m) [] L):=by
 obtain ⟨r,hq⟩:∃ r,r=sX p (sem p OPp n) f x m:=⟨_,rfl⟩
 rw [← hq] at hr ⊢
 rw [qo3 hk] at hq
 have h0n:0 < n1:=by omega
 obtain ⟨B0,o0,b0,rfl,hcE,hvE⟩:=VeS.at_ hA h0n
 obtain ⟨B1,o1,b4,hAe,hcF,hvF⟩:=VeS.at_ hA h1n
 simp only [Option.some.injEq,Addr.mk.injEq,and_true] at hAe
 obtain ⟨hAe1,hAe2⟩:=hAe
 subst hAe1
 subst hAe2
 obtain ⟨ba,hab,hca,hla,hkn⟩:=hM.ary hC hp gc3 hg
 refine qa0 (fn:=f86) qao func86 V Z ntmps86 Z (rs:=[.tmp 4]) Z [(0,_),(1,_),(2,_)] Z<|Sr<|At Z Z<|Zs<|qay qad 7 Z ([]:Hl) (fun x hx=>by cases hx) ?_
 intro s1 h1
 refine za 0 Z (qan Z) Z<|za 1 Z (qah Z Z Z (gc1.le h1) Z) Z<|za 2 Z (qah Z Z Z (gc2.le h1) Z) Z<|za 3 Z (qas Z Z Z Z Z Z h0n) Z<|za 4 Z (qah Z Z Z (hcE.le h1) Z) Z<|qax 5 V ?_
 refine qbT Z Tt (first:=[]) (captured:=[]) Z Z Z (AP.fr (fun L=>qg5 p D n hE L _ c N f d (qbA x.exprs 0) x.name k b0 g m iv ov R (hC.le h1) hn (hM.le h1) hg hp gc3 (hvE.le h1) (qaW hq hr)) [] _) ?_ ?_
 ·
  rintro _ _ sx2 hx2 ⟨hp2,mf2,sf2,cf2,Zf2,he2,rfl,hF2⟩ fr9
  repeat (first | refine qaK ?_ | refine qaA ?_)
  refine qa5 [] _ Pr (h1.t hx2) fun _ hS2=>?_
  exact ⟨hp2,mf2,sf2,cf2,Zf2,qbt hq he2,rfl,hF2⟩
 rintro _ _ s2 h2 ⟨a2,m2,iv2,ov2,R2,he2,⟨rfl,hu2⟩,rfl,hM2⟩
 refine ⟨(fun x hx=>by cases hx),?_⟩
 rw [he2] at hq
 simp only [ER.and] at hq
 simp only [cQ9,nQ9]
 have hia:=qsk he2
 have hui:=hu2
 have hlo:=hu2.1
 obtain ⟨_,_,_,hla1,_⟩:=hM2.ary (hC.le (h1.t h2)) hp gc3 hg
 refine za 6 Z (qaM Z) Z<|qal V<|Zt<|Zs<|qay qad 15 Z ([]:Hl) (fun x hx=>by cases hx) ?_
 intro s3 h3
 refine za 0 Z (qan Z) Z<|za 1 Z (qbx Z) Z<|za 2 Z (We Y4) Z<|za 4 Z (qah Z Z Z (gc1.le (h1.t h2|>.t h3)) Z) Z<|za 7 Z (qan Z) Z<|za 8 Z (qah Z Z Z (gc2.le (h1.t h2|>.t h3)) Z) Z<|za 9 Z (qas Z Z Z Z Z Z h1n) Z<|za 10 Z (qah Z Z Z (hcF.le (h1.t h2|>.t h3)) Z) Z<|za 11 Z (qan Z) Z ?_
 refine qfl 3 12 V ?_ ?_
 ·
  refine qe3 Z Tt (Wd 0 Y5) Z<|za 5 Z (qas Z Z Z Z Z Z hkn) Z<|za 6 Z (qah Z Z Z (hca.le (h1.t h2|>.t h3)) Z) Z<|qax 12 V ?_
  refine qbT Z Tt (first:=[]) (captured:=[.pointer (some ⟨b4,0,none⟩)]) Z Z Z (AP.fr (fun L=>hE L _ c N f d (qbA x.exprs 1) _ m2 iv2 ov2 R2 (hC.le (h1.t h2|>.t h3)) hn (hvF.le (h1.t h2|>.t h3)) (hM2.le h3) (qaW hq hr)) [] _) ?_ ?_
  ·
   rintro _ _ sx4 hx4 ⟨hp4,mf4,sf4,cf4,Zf4,he4,rfl,hF4⟩ fr9
   repeat (first | refine qaK ?_ | refine qaA ?_)
   refine qa5 [] _ Pr (h1.t h2|>.t h3|>.t hx4) fun _ hS2=>?_
   exact ⟨hp4,mf4,sf4,cf4,Zf4,qbt hq he4,rfl,hF4⟩
  rintro _ _ s4 h4 ⟨a4,m4,iv4,ov4,R4,he4,⟨rfl,hu4⟩,rfl,hM4⟩
  refine ⟨(fun x hx=>by cases hx),?_⟩
  rw [he4] at hq
  simp only [ER.and] at hq
  simp only [cQ9,nQ9]
  obtain ⟨_,_,_,hla2,_⟩:=hM4.ary (hC.le (h1.t h2|>.t h3|>.t h4)) hp gc3 hg
  obtain ⟨i,hbi,hset⟩:=hM4.blk hab hkn hg (MB c N 0 m4 iv4 ov4 0 0) (MGb c m4) (MFb c m4) L
  rw [hg,Int.toNat_natCast] at hq
  refine za 13 Z (qdz Z Z Z Z Z Z hlo (show a2 < ((g.num.toNat:Nat):Int) by omega)) Z<|qax 14 V ?_
  obtain ⟨R9,hs9,hM9⟩:=hset ((qd1 p x.name m4).set a2.toNat a4)
  have hM9:=hM9 _ (hM4.le (Lr D)) (by rw [List.length_set]) (qh5 (hM4.arU hg) hu4)
  refine qf9 Z Tt (i+3) _ Z Z hbi Z Z (qfN hlo O) Z (qfx _ hlo O) hs9 (fun x hx=>by cases hx)<|qal V<|Zt<|Sr<|At Z Z<|Zo<|?_
  refine qaN [] _ (.inr Z) (.t1 Z) Z (h1.t h2|>.t h3|>.t h4) fun _ hS2=>?_
  exact ⟨(0,0),{ m4 with arr:=m4.arr.set k ((qd1 p x.name m4).set a2.toNat a4) },iv4,ov4,R9,hq,⟨rfl,⟨by decide,by decide⟩,fun _=>rfl⟩,rfl,(hM9.le ((Lr D).t hS2))⟩
 refine qbT Z Tt (first:=[]) (captured:=[.pointer (some ⟨b4,0,none⟩)]) Z Z Z (AP.fr (fun L=>hE L _ c N f d (qbA x.exprs 1) _ m2 iv2 ov2 R2 (hC.le (h1.t h2|>.t h3)) hn (hvF.le (h1.t h2|>.t h3)) (hM2.le h3) (qaW hq hr)) [] _) ?_ ?_
 ·
  rintro _ _ sx6 hx6 ⟨hp6,mf6,sf6,cf6,Zf6,he6,rfl,hF6⟩ fr9
  repeat (first | refine qaK ?_ | refine qaA ?_)
  refine qa5 [] _ Pr (h1.t h2|>.t h3|>.t hx6) fun _ hS2=>?_
  exact ⟨hp6,mf6,sf6,cf6,Zf6,qbt hq he6,rfl,hF6⟩
 rintro _ _ s6 h6 ⟨a6,m6,iv6,ov6,R6,he6,⟨rfl,hu6⟩,rfl,hM6⟩
 refine ⟨(fun x hx=>by cases hx),?_⟩
 rw [he6] at hq
 simp only [ER.and] at hq
 simp only [cQ9,nQ9]
 obtain ⟨_,_,_,hla2,_⟩:=hM6.ary (hC.le (h1.t h2|>.t h3|>.t h6)) hp gc3 hg
 obtain ⟨i,hbi,hset⟩:=hM6.blk hab hkn hg (MB c N 0 m6 iv6 ov6 0 0) (MGb c m6) (MFb c m6) L
 rw [hg,Int.toNat_natCast] at hq
 refine qax 3 V<|qe3 Z Tt (Wd 0 Y5) Z<|za 5 Z (qas Z Z Z Z Z Z hkn) Z<|za 6 Z (qah Z Z Z (hca.le (h1.t h2|>.t h3)) Z) Z<|za 13 Z (qdz Z Z Z Z Z Z hlo (show a2 < ((g.num.toNat:Nat):Int) by omega)) Z<|qax 14 V ?_
 obtain ⟨R9,hs9,hM9⟩:=hset ((qd1 p x.name m6).set a2.toNat a6)
 have hM9:=hM9 _ (hM6.le (Lr D)) (by rw [List.length_set]) (qh5 (hM6.arU hg) hu6)
 refine qf9 Z Tt (i+3) _ Z Z hbi Z Z (qfN hlo O) Z (qfx _ hlo O) hs9 (fun x hx=>by cases hx)<|qal V<|Zt<|Sr<|At Z Z<|Zo<|?_
 refine qaN [] _ (.inr Z) (.t1 Z) Z (h1.t h2|>.t h3|>.t h6) fun _ hS2=>?_
 exact ⟨(0,0),{ m6 with arr:=m6.arr.set k ((qd1 p x.name m6).set a2.toNat a6) },iv6,ov6,R9,hq,⟨rfl,⟨by decide,by decide⟩,fun _=>rfl⟩,rfl,(hM9.le ((Lr D).t hS2))⟩
theorem qpR(p:Prg)(D n:Nat)(hE:EOK p D n)(hT:TOK p D n)(L:Hl)(s:World)(c:MC)(N:Nat)(f:Fnc)(d:Nat)(x:Stm)(m:MS)(iv ov:Value)(R:Hl)(hC:CT p c s)(hn:c.nf=f.params.length+f.locals.length)(hM:MG p c N m iv ov R s)(b1 b2 b3:Nat)(A:Option Addr)(n1 z1:Nat)(B:Option Addr)(n2 z2:Nat)(G:Option Addr)(n3 z3:Nat)(hk:x.kind=3)(gc1:CellsAt s b1 0 [.slice A n1 z1])(gc2:CellsAt s b2 0 [.slice B n2 z2])(gc3:CellsAt s b3 0 [.slice G n3 z3])(hA:VeS p f d s A n1 z1 x.exprs)(h0n:0 < n1)(hB:VsS p f d s B n2 z2 x.body)(hG:VsS p f d s G n3 z3 x.els)(hr:sX p (sem p OPp n) f x m≠.out):AP prog D 88 [.pointer (some ⟨c.bm,0,none⟩),.pointer (some ⟨b1,0,none⟩),.pointer (some ⟨b2,0,none⟩),.pointer (some ⟨b3,0,none⟩)] (MB c N 0 m iv ov 0 0::MGb c m::MFb c m::(R++L)) s (okE p c N (sX p (sem p OPp n) f x m) VS RS [] L) (qd0 c N (sX p (sem p OPp n) f x m) [] L):=by
 obtain ⟨r,hq⟩:∃ r,r=sX p (sem p OPp n) f x m:=⟨_,rfl⟩
 rw [← hq] at hr ⊢
 rw [sX,if_neg O,if_neg O,if_pos hk] at hq
 obtain ⟨B0,o0,b0,rfl,hcE,hvE⟩:=VeS.at_ hA h0n
 refine qa0 (fn:=f88) qao func88 V Z ntmps88 Z (rs:=[.tmp 5]) Z [(0,_),(1,_),(2,_),(3,_)] Z<|Sr<|At Z Z<|Zs<|Sr<|qac (qah Z Z Z (gc1.le (Lr D)) Z) Z<|qac (qas Z Z Z Z Z Z h0n) Z<|qac (qah Z Z Z (hcE.le (Lr D)) Z) Z<|Zqm Z Z ?_
 refine qa3 (first:=[]) (captured:=[.pointer (some ⟨b0,0,none⟩)]) Z Z Z (AP.fr (fun L=>hE L _ c N f d (qbA x.exprs 0) _ m iv ov R (hC.le (Lr D)) hn (hvE.le (Lr D)) (hM.le (Lr D)) (qaW hq hr)) [] _) ?_ ?_
 ·
  rintro _ _ sx1 hx1 ⟨hp1,mf1,sf1,cf1,Zf1,he1,rfl,hF1⟩ fr9
  repeat (first | refine qaK ?_ | refine qaA ?_)
  refine qa5 [] _ Pr hx1 fun _ hS2=>?_
  exact ⟨hp1,mf1,sf1,cf1,Zf1,qbt hq he1,rfl,hF1⟩
 rintro _ _ s1 h1 ⟨a1,m1,iv1,ov1,R1,he1,⟨rfl,hu1⟩,rfl,hM1⟩
 rw [he1] at hq
 simp only [ER.and] at hq
 simp only [cQ9,nQ9]
 refine qb2 Z Z Z<|Nt<|?_
 refine qaP Z (fun c2=>?_) (fun c2=>?_)
 ·
  rw [if_pos c2] at hq
  refine Sr<|Zqm Z Z<|qac (qah Z Z Z (gc2.le h1) Z) Z ?_
  refine qa3 (first:=[]) (captured:=[]) Z Z Z (AP.fr (fun L=>qiE p D n hT L _ c N f d x.body m1 iv1 ov1 R1 (hC.le h1) hn (hM1.le (Lr D)) B n2 z2 (hB.le h1) (hq▸hr)) [] _) ?_ ?_
  ·
   rintro _ _ sx3 hx3 ⟨hp3,mf3,sf3,cf3,Zf3,he3,rfl,hF3⟩ fr9
   repeat (first | refine qaK ?_ | refine qaA ?_)
   refine qa5 [] _ Pr (h1.t hx3) fun _ hS2=>?_
   exact ⟨hp3,mf3,sf3,cf3,Zf3,hq.trans he3,rfl,hF3⟩
  rintro _ _ s3 h3 ⟨a3,m3,iv3,ov3,R3,he3,⟨rfl,hu3,hz3⟩,rfl,hM3⟩
  rw [he3] at hq
  simp only [cQ9,nQ9]
  refine At Z Z<|Zo<|Zu<|?_
  refine qaN [] _ (.inr Z) (.t1 Z) Z (h1.t h3) fun _ hS2=>?_
  exact ⟨_,m3,iv3,ov3,R3,hq,⟨rfl,hu3,hz3⟩,rfl,(hM3.le ((Lr D).t hS2))⟩
 rw [if_neg (by simpa using c2)] at hq
 refine Zk<|Zt<|Sr<|Zqm Z Z<|qac (qah Z Z Z (gc3.le h1) Z) Z ?_
 refine qa3 (first:=[]) (captured:=[]) Z Z Z (AP.fr (fun L=>qiE p D n hT L _ c N f d x.els m1 iv1 ov1 R1 (hC.le h1) hn (hM1.le (Lr D)) G n3 z3 (hG.le h1) (hq▸hr)) [] _) ?_ ?_
 ·
  rintro _ _ sx4 hx4 ⟨hp4,mf4,sf4,cf4,Zf4,he4,rfl,hF4⟩ fr9
  repeat (first | refine qaK ?_ | refine qaA ?_)
  refine qa5 [] _ Pr (h1.t hx4) fun _ hS2=>?_
  exact ⟨hp4,mf4,sf4,cf4,Zf4,hq.trans he4,rfl,hF4⟩
 rintro _ _ s4 h4 ⟨a4,m4,iv4,ov4,R4,he4,⟨rfl,hu4,hz4⟩,rfl,hM4⟩
 rw [he4] at hq
 simp only [cQ9,nQ9]
 refine At Z Z<|Zo<|?_
 refine qaN [] _ (.inr Z) (.t1 Z) Z (h1.t h4) fun _ hS2=>?_
 exact ⟨_,m4,iv4,ov4,R4,hq,⟨rfl,hu4,hz4⟩,rfl,(hM4.le ((Lr D).t hS2))⟩
theorem qlE{p:Prg}{S:Sem}{f:Fnc}{x:Stm}{m:MS}(hk:x.kind=4):sX p S f x m=S.w f (qbA x.exprs 0) x.body m:=by
 rw [sX,if_neg O,if_neg O,if_neg O,if_pos hk]
theorem qq1{p:Prg}{S:Sem}{f:Fnc}{x:Stm}{m:MS}(hk:x.kind=5):sX p S f x m=((qaD (S.e f) x.exprs m).and fun vs m=>S.c (qhx p x.name).toNat vs m).and fun _ m=>.ok (0,0) m:=by
 rw [sX,if_neg O,if_neg O,if_neg O,if_neg O,if_pos hk,ER.and_assoc]
theorem MG.put{p:Prg}{c:MC}{N:Nat}{m:MS}{iv ov:Value}{R:Hl}{s:World}(h:MG p c N m iv ov R s){b:UInt8}{ov':Value}{Mo:Hl}(hl:m.out.length < 20000)(hO:FL.Own 5 1 Mo ov' (m.out++[b]).length (bv (m.out++[b]))):MG p c N { m with out:=m.out++[b] } iv ov' (qb1 c.ab m.arr++Mo) s:=⟨h.inp,⟨Mo,rfl,hO⟩,h.ug,h.uf,h.ua,h.ng,h.lg,h.lf,h.lb,h.la,h.ar,by simp;omega,h.lc,h.ll,h.lN⟩
theorem qu6(w:List UInt8)(x:UInt8):bv (w++[x])=bv w++[.int .u8 (x.toNat:Int)]:=by simp [bv]
structure WG where
 j:Nat
 m:MS
 iv:Value
 ov:Value
 R:Hl
theorem qqx(p:Prg)(D n:Nat)(ihE:∀ j,j≤n→EOK p D j)(ihT:∀ j,j≤n→TOK p D j)(L:Hl)(s:World)(c:MC)(N:Nat)(f:Fnc)(d:Nat)(x:Stm)(m:MS)(iv ov:Value)(R:Hl)(hC:CT p c s)(hn:c.nf=f.params.length+f.locals.length)(hM:MG p c N m iv ov R s)(b1 b2:Nat)(A:Option Addr)(n1 z1:Nat)(B:Option Addr)(n2 z2:Nat)(hk:x.kind=4)(gc1:CellsAt s b1 0 [.slice A n1 z1])(gc2:CellsAt s b2 0 [.slice B n2 z2])(hA:VeS p f d s A n1 z1 x.exprs)(h0n:0 < n1)(hB:VsS p f d s B n2 z2 x.body)(hr:sX p (sem p OPp n) f x m≠.out):AP prog D 90 [.pointer (some ⟨c.bm,0,none⟩),.pointer (some ⟨b1,0,none⟩),.pointer (some ⟨b2,0,none⟩)] (MB c N 0 m iv ov 0 0::MGb c m::MFb c m::(R++L)) s (okE p c N (sX p (sem p OPp n) f x m) VS RS [] L) (qd0 c N (sX p (sem p OPp n) f x m) [] L):=by
 obtain ⟨r,hq⟩:∃ r,r=sX p (sem p OPp n) f x m:=⟨_,rfl⟩
 rw [← hq] at hr ⊢
 rw [qlE hk] at hq
 obtain ⟨B0,o0,b0,rfl,hcE,hvE⟩:=VeS.at_ hA h0n
 refine qa0 (fn:=f90) qao func90 V Z ntmps90 Z (rs:=[.tmp 4]) Z [(0,_),(1,_),(2,_)] Z<|Sr<|At Z Z<|Zs<|Zp<|?_
 refine qav (γ:=WG) (fun g=>[(0,_),(1,_),(2,_),(4,_)]) (fun g=>MB c N 0 g.m g.iv g.ov 0 0::MGb c g.m::MFb c g.m::(g.R++L)) (fun g tw=>Le D s tw∧(g.j≤n∧MG p c N g.m g.iv g.ov g.R tw∧r=(sem p OPp g.j).w f (qbA x.exprs 0) x.body g.m)) (fun g=>g.j) (fun _ _ _ h hl=>⟨h.1.trans hl,⟨h.2.1,h.2.2.1.le hl,h.2.2.2⟩⟩) ⟨n,m,iv,ov,R⟩ (.c4 Z Z Z Z (.nil _)) Z ⟨Le.refl _,⟨Nat.le_refl _,hM.le (Lr D),hq⟩⟩ ?_
 intro g s1 I1
 obtain ⟨j,mk,ivk,ovk,Rk⟩:=g
 obtain ⟨hj0,hMk,hq⟩:j≤n∧MG p c N mk ivk ovk Rk s1∧r=(sem p OPp j).w f (qbA x.exprs 0) x.body mk:=I1.2
 dsimp only
 obtain ⟨j,rfl⟩:∃ i,j=i+1:=by
   cases j with
   | zero=>exact absurd hq hr
   | succ i=>exact ⟨i,rfl⟩
 change r=wX (sem p OPp j) f (qbA x.exprs 0) x.body mk at hq
 rw [wX] at hq
 have hE:=ihE j O
 have hT:=ihT j O
 refine Zs<|Sr<|qac (qah Z Z Z (gc1.le I1.1) Z) Z<|qac (qas Z Z Z Z Z Z h0n) Z<|qac (qah Z Z Z (hcE.le I1.1) Z) Z<|Zqm Z Z ?_
 refine qa3 (first:=[]) (captured:=[.pointer (some ⟨b0,0,none⟩)]) Z Z Z (AP.fr (fun L=>hE L _ c N f d (qbA x.exprs 0) _ mk ivk ovk Rk (hC.le I1.1) hn (hvE.le I1.1) (hMk.le (Lr D)) (qaW hq hr)) [] _) ?_ ?_
 ·
  rintro _ _ sx2 hx2 ⟨hp2,mf2,sf2,cf2,Zf2,he2,rfl,hF2⟩ fr9
  repeat (first | refine qaK ?_ | refine qaA ?_)
  refine qa5 [] _ Pr (I1.1.t hx2) fun _ hS2=>?_
  exact ⟨hp2,mf2,sf2,cf2,Zf2,qbt hq he2,rfl,hF2⟩
 rintro _ _ s2 h2 ⟨a2,m2,iv2,ov2,R2,he2,⟨rfl,hu2⟩,rfl,hM2⟩
 rw [he2] at hq
 simp only [ER.and] at hq
 simp only [cQ9,nQ9]
 refine qb2 Z Z Z<|Nt<|?_
 refine qaP Z (fun c3=>?_) (fun c3=>?_)
 ·
  rw [if_neg c3] at hq
  refine Zk<|Zt<|Zp<|Sr<|Zqm Z Z<|qac (qah Z Z Z (gc2.le (I1.1.t h2)) Z) Z ?_
  refine qa3 (first:=[]) (captured:=[]) Z Z Z (AP.fr (fun L=>qiE p D j hT L _ c N f d x.body m2 iv2 ov2 R2 (hC.le (I1.1.t h2)) hn (hM2.le (Lr D)) B n2 z2 (hB.le (I1.1.t h2)) (qaW hq hr)) [] _) ?_ ?_
  ·
   rintro _ _ sx4 hx4 ⟨hp4,mf4,sf4,cf4,Zf4,he4,rfl,hF4⟩ fr9
   repeat (first | refine qaK ?_ | refine qaA ?_)
   refine qa5 [] _ Pr (I1.1.t h2|>.t hx4) fun _ hS2=>?_
   exact ⟨hp4,mf4,sf4,cf4,Zf4,qbt hq he4,rfl,hF4⟩
  rintro _ _ s4 h4 ⟨⟨a4,y4⟩,m4,iv4,ov4,R4,he4,⟨rfl,hu4,hz4⟩,rfl,hM4⟩
  rw [he4] at hq
  simp only [ER.and] at hq
  simp only [cQ9,nQ9]
  refine At Z Z<|Sr<|Zqm Z Z<|qar Z Z Z<|Nt<|?_
  refine qaa Z (fun c5=>?_) (fun c5=>?_)
  ·
   rw [if_pos c5] at hq
   have hz9:=hz4 O
   simp only [RS] at *
   rw [hz9]
   refine Zl<|Ze Z<|Zv<|Zd<|Zt<|Sr<|At Z Z<|Zo<|?_
   refine qaN [] _ (.inr Z) (.t1 Z) Z (I1.1.t h2|>.t h4) fun _ hS2=>?_
   first
     | (exact ⟨(_,_),m4,iv4,ov4,R4,hq,⟨rfl,hu4,hz4⟩,rfl,(hM4.le ((Lr D).t hS2))⟩)
     | (exact ⟨(0,0),m4,iv4,ov4,R4,hq,⟨rfl,⟨by decide,by decide⟩,fun _=>rfl⟩,rfl,(hM4.le ((Lr D).t hS2))⟩)
  rw [if_neg c5] at hq
  refine Sr<|Zqm Z Z<|qar Z Z Z<|Nt<|?_
  refine qaa Z (fun c6=>?_) (fun c6=>?_)
  ·
   rw [if_pos c6] at hq
   refine Sr<|Zqm Z Z<|At Z Z<|Zo<|Zc<|Zu<|Zc<|Zu<|?_
   refine qaN [] _ (.inr Z) (.t1 Z) Z (I1.1.t h2|>.t h4) fun _ hS2=>?_
   first
     | (exact ⟨(_,_),m4,iv4,ov4,R4,hq,⟨rfl,hu4,hz4⟩,rfl,(hM4.le ((Lr D).t hS2))⟩)
     | (exact ⟨(0,0),m4,iv4,ov4,R4,hq,⟨rfl,⟨by decide,by decide⟩,fun _=>rfl⟩,rfl,(hM4.le ((Lr D).t hS2))⟩)
  rw [if_neg c6] at hq
  have hz9:=hz4 O
  simp only [RS] at *
  rw [hz9]
  refine Zk<|Zb<|?_
  refine qab ⟨⟨j,m4,iv4,ov4,R4⟩,[],kp,Z,⟨(I1.1.t h2|>.t h4),⟨by show j≤n;omega,(hM4.le (Lr D)),hq⟩⟩,(by show j < j+1;omega)⟩
 rw [if_pos (by simpa using c3)] at hq
 refine Zl<|Zv<|Zv<|Zd<|Zt<|Sr<|At Z Z<|Zo<|?_
 refine qaN [] _ (.inr Z) (.t1 Z) Z (I1.1.t h2) fun _ hS2=>?_
 first
   | (exact ⟨(_,_),m2,iv2,ov2,R2,hq,⟨rfl,hu2,hz2⟩,rfl,(hM2.le ((Lr D).t hS2))⟩)
   | (exact ⟨(0,0),m2,iv2,ov2,R2,hq,⟨rfl,⟨by decide,by decide⟩,fun _=>rfl⟩,rfl,(hM2.le ((Lr D).t hS2))⟩)
theorem qmL(p:Prg)(D n:Nat)(hE:EOK p D n)(L:Hl)(s:World)(c:MC)(N:Nat)(f:Fnc)(d:Nat)(x:Stm)(m:MS)(iv ov:Value)(R:Hl)(hC:CT p c s)(hn:c.nf=f.params.length+f.locals.length)(hM:MG p c N m iv ov R s)(hK:COK p D n)(b1 be bi k:Nat)(fk:Fnc)(A:Option Addr)(n1 z1:Nat)(hk:x.kind=5)(gc1:CellsAt s b1 0 [.func (.func 130) #[] #[.pointer (some ⟨be,0,none⟩),.pointer (some ⟨bi,0,none⟩)]])(he:CellsAt s be 0 [.slice A n1 z1])(hi:CellsAt s bi 0 [.int .i64 (k:Int)])(hA:VeS p f d s A n1 z1 x.exprs)(hg:qhx p x.name=(k:Int))(hp:p.funcs[k]?=some fk)(hl:x.exprs.length=fk.params.length)(hr:sX p (sem p OPp n) f x m≠.out):AP prog D 92 [.pointer (some ⟨c.bm,0,none⟩),.pointer (some ⟨b1,0,none⟩)] (MB c N 0 m iv ov 0 0::MGb c m::MFb c m::(R++L)) s (okE p c N (sX p (sem p OPp n) f x m) VS RS [] L) (qd0 c N (sX p (sem p OPp n) f x m) [] L):=by
 obtain ⟨r,hq⟩:∃ r,r=sX p (sem p OPp n) f x m:=⟨_,rfl⟩
 rw [← hq] at hr ⊢
 rw [qq1 hk,hg,Int.toNat_natCast] at hq
 refine qa0 (fn:=f92) qao func92 V Z ntmps92 Z (rs:=[.tmp 3]) Z [(0,_),(1,_)] Z<|Sr<|At Z Z<|Sr<|qac (qah Z Z Z (gc1.le (Lr D)) Z) Z<|Zqm Z Z ?_
 refine qa3 (first:=[]) (captured:=[.pointer (some ⟨be,0,none⟩),.pointer (some ⟨bi,0,none⟩)]) Z Z Z (AP.fr (fun L=>qjl p D n hE L _ c N f d x.exprs m iv ov R (hC.le (Lr D)) hn (hM.le (Lr D)) hK be bi k fk A n1 z1 (he.le (Lr D)) (hi.le (Lr D)) (hA.le (Lr D)) hp hl (qaW hq hr)) [] _) ?_ ?_
 ·
  rintro _ _ sx1 hx1 ⟨hp1,mf1,sf1,cf1,Zf1,he1,rfl,hF1⟩ fr9
  repeat (first | refine qaK ?_ | refine qaA ?_)
  refine qa5 [] _ Pr hx1 fun _ hS2=>?_
  exact ⟨hp1,mf1,sf1,cf1,Zf1,qbt hq he1,rfl,hF1⟩
 rintro _ _ s1 h1 ⟨a1,m1,iv1,ov1,R1,he1,⟨rfl,hu1⟩,rfl,hM1⟩
 rw [he1] at hq
 simp only [ER.and] at hq
 simp only [cQ9,nQ9]
 refine Nt<|Sr<|At Z Z<|Zo<|?_
 refine qaN [] _ (.inr Z) (.t1 Z) Z h1 fun _ hS2=>?_
 exact ⟨(0,0),m1,iv1,ov1,R1,hq,⟨rfl,⟨by decide,by decide⟩,fun _=>rfl⟩,rfl,(hM1.le ((Lr D).t hS2))⟩
theorem qs5(p:Prg)(D n:Nat)(hE:EOK p D n)(L:Hl)(s:World)(c:MC)(N:Nat)(f:Fnc)(d:Nat)(x:Stm)(m:MS)(iv ov:Value)(R:Hl)(hC:CT p c s)(hn:c.nf=f.params.length+f.locals.length)(hM:MG p c N m iv ov R s)(b1:Nat)(A:Option Addr)(n1 z1:Nat)(hk:x.kind=6)(gc1:CellsAt s b1 0 [.slice A n1 z1])(hA:VeS p f d s A n1 z1 x.exprs)(h0n:0 < n1)(hr:sX p (sem p OPp n) f x m≠.out):AP prog D 93 [.pointer (some ⟨c.bm,0,none⟩),.pointer (some ⟨b1,0,none⟩)] (MB c N 0 m iv ov 0 0::MGb c m::MFb c m::(R++L)) s (okE p c N (sX p (sem p OPp n) f x m) VS RS [] L) (qd0 c N (sX p (sem p OPp n) f x m) [] L):=by
 obtain ⟨r,hq⟩:∃ r,r=sX p (sem p OPp n) f x m:=⟨_,rfl⟩
 rw [← hq] at hr ⊢
 rw [sX,if_neg O,if_neg O,if_neg O,if_neg O,if_neg O,if_pos hk] at hq
 obtain ⟨B0,o0,b0,rfl,hcE,hvE⟩:=VeS.at_ hA h0n
 refine qa0 (fn:=f93) qao func93 V Z ntmps93 Z (rs:=[.tmp 3]) Z [(0,_),(1,_)] Z<|Sr<|At Z Z<|Sr<|Zqm Z Z<|qac (qah Z Z Z (gc1.le (Lr D)) Z) Z<|qac (qas Z Z Z Z Z Z h0n) Z<|qac (qah Z Z Z (hcE.le (Lr D)) Z) Z<|Zqm Z Z ?_
 refine qa3 (first:=[]) (captured:=[.pointer (some ⟨b0,0,none⟩)]) Z Z Z (AP.fr (fun L=>hE L _ c N f d (qbA x.exprs 0) _ m iv ov R (hC.le (Lr D)) hn (hvE.le (Lr D)) (hM.le (Lr D)) (qaW hq hr)) [] _) ?_ ?_
 ·
  rintro _ _ sx1 hx1 ⟨hp1,mf1,sf1,cf1,Zf1,he1,rfl,hF1⟩ fr9
  repeat (first | refine qaK ?_ | refine qaA ?_)
  refine qa5 [] _ Pr hx1 fun _ hS2=>?_
  exact ⟨hp1,mf1,sf1,cf1,Zf1,qbt hq he1,rfl,hF1⟩
 rintro _ _ s1 h1 ⟨a1,m1,iv1,ov1,R1,he1,⟨rfl,hu1⟩,rfl,hM1⟩
 rw [he1] at hq
 simp only [ER.and] at hq
 simp only [cQ9,nQ9]
 refine qcd Z Z<|Wb Y5<|Wt 0 [_,_,_,_,_,_,_,_,_,_,_,_] Y9<|Nt<|Sr<|At Z Z<|Zo<|?_
 refine qaN [] _ (.inr Z) (.t1 Z) Z h1 fun _ hS2=>?_
 exact ⟨(3,a1),m1,iv1,ov1,R1,hq,⟨rfl,hu1,fun h=>absurd rfl h⟩,rfl,(hM1.le ((Lr D).t hS2))⟩
theorem qt3(p:Prg)(D n:Nat)(hE:EOK p D n)(L:Hl)(s:World)(c:MC)(N:Nat)(f:Fnc)(d:Nat)(x:Stm)(m:MS)(iv ov:Value)(R:Hl)(hC:CT p c s)(hn:c.nf=f.params.length+f.locals.length)(hM:MG p c N m iv ov R s)(b1:Nat)(A:Option Addr)(n1 z1:Nat)(hk:x.kind=7)(gc1:CellsAt s b1 0 [.slice A n1 z1])(hA:VeS p f d s A n1 z1 x.exprs)(h0n:0 < n1)(hr:sX p (sem p OPp n) f x m≠.out):AP prog D 94 [.pointer (some ⟨c.bm,0,none⟩),.pointer (some ⟨b1,0,none⟩)] (MB c N 0 m iv ov 0 0::MGb c m::MFb c m::(R++L)) s (okE p c N (sX p (sem p OPp n) f x m) VS RS [] L) (qd0 c N (sX p (sem p OPp n) f x m) [] L):=by
 obtain ⟨r,hq⟩:∃ r,r=sX p (sem p OPp n) f x m:=⟨_,rfl⟩
 rw [← hq] at hr ⊢
 rw [sX,if_neg O,if_neg O,if_neg O,if_neg O,if_neg O,if_neg O,if_pos hk] at hq
 obtain ⟨B0,o0,b0,rfl,hcE,hvE⟩:=VeS.at_ hA h0n
 refine qa0 (fn:=f94) qao func94 V Z ntmps94 Z (rs:=[.tmp 3]) Z [(0,_),(1,_)] Z<|Sr<|At Z Z<|Sr<|qac (qah Z Z Z (gc1.le (Lr D)) Z) Z<|qac (qas Z Z Z Z Z Z h0n) Z<|qac (qah Z Z Z (hcE.le (Lr D)) Z) Z<|Zqm Z Z ?_
 refine qa3 (first:=[]) (captured:=[.pointer (some ⟨b0,0,none⟩)]) Z Z Z (AP.fr (fun L=>hE L _ c N f d (qbA x.exprs 0) _ m iv ov R (hC.le (Lr D)) hn (hvE.le (Lr D)) (hM.le (Lr D)) (qaW hq hr)) [] _) ?_ ?_
 ·
  rintro _ _ sx1 hx1 ⟨hp1,mf1,sf1,cf1,Zf1,he1,rfl,hF1⟩ fr9
  repeat (first | refine qaK ?_ | refine qaA ?_)
  refine qa5 [] _ Pr hx1 fun _ hS2=>?_
  exact ⟨hp1,mf1,sf1,cf1,Zf1,qbt hq he1,rfl,hF1⟩
 rintro _ _ s1 h1 ⟨a1,m1,iv1,ov1,R1,he1,⟨rfl,hu1⟩,rfl,hM1⟩
 rw [he1] at hq
 simp only [ER.and] at hq
 simp only [cQ9,nQ9]
 obtain ⟨Mo,hR,hO⟩:=hM1.out
 obtain ⟨Ao,co,hov,_,_⟩:=Own.slice hO
 subst hov
 subst hR
 refine At Z Z<|Zs<|Sr<|Zqm Z Z<|qcd Z Z<|Wb Y5<|W0 Y5<|Wl 0 Y6<|Ws Y4<|qfa Z Z Z<|Nt<|?_
 refine qaa Z (fun c2=>?_) (fun c2=>?_)
 ·
  have q9:=c2
  refine Zr<|Zqm Z Z<|?_
  refine qa3 (first:=[]) (captured:=[]) Z Z Z (qc2 D [] _ _ c N _ m1 iv1 _ _ _) ?_ ?_
  ·
   rintro _ _ sx3 hx3 ⟨hp3,rfl⟩ fr9
   repeat (first | refine qaK ?_ | refine qaA ?_)
   refine qa5 [] _ Pr (h1.t hx3) fun _ hS2=>?_
   exact ⟨hp3,m1,_,_,_,by rw [hq,if_pos O],rfl,((hM1.le hx3).fin _ _ _)⟩
  rintro _ _ s3 h3 ⟨⟩
 have q9:=c2
 rw [if_neg O] at hq
 refine Zk<|Zt<|Sr<|Zqm Z Z<|Zqm Z Z<|qcd Z Z<|Wb Y5<|W0 Y5<|Wl 0 Y6<|Zqm Z Z<|qac (qae (qdI Z Z Z Z Z) (congrArg (Value.int .u8) (u8w hu1))) Z<|qbk [(_,_)] [_] Z Z Z Z Z Z Z Z Z ?_
 intro β4 s4 h4 hc4
 refine qba (sz:=1) (MB c N 0 m1 iv1 _ 0 0::MGb c m1::MFb c m1::qb1 c.ab m1.arr) Mo L (by rw [List.append_assoc];rfl) Z Z Z Z Z Z hO (Row.of_cells (hc4.le (Lr D)) Z Z) ⟨by simp [ti5];omega,by omega⟩ Z ?_
 intro v9 M9 s5 h5 oq
 obtain ⟨A9,q9,rfl,_,_⟩:=Own.slice oq
 rw [← qu6] at oq
 simp only [List.cons_append]
 rw [← List.append_assoc]
 refine qcd Z Z<|Wb Y5<|W0 Y5<|Wt 0 [_,_,_,_,_,_,_,_,_,_,_,_] Y9<|Nt<|Sr<|At Z Z<|Zo<|?_
 refine qaN [] _ (.inr Z) (.t1 Z) Z (h1.t h4|>.t h5) fun _ hS2=>?_
 exact ⟨(0,0),{ m1 with out:=m1.out++[UInt8.ofNat a1.toNat] },iv1,_,(qb1 c.ab m1.arr++M9),hq,⟨rfl,⟨by decide,by decide⟩,fun _=>rfl⟩,rfl,((hM1.put O (by rw [List.length_append];exact oq)).le (h4.t h5|>.t hS2))⟩
theorem qns(p:Prg)(D n:Nat)(hE:EOK p D n)(L:Hl)(s:World)(c:MC)(N:Nat)(f:Fnc)(d:Nat)(x:Stm)(m:MS)(iv ov:Value)(R:Hl)(hC:CT p c s)(hn:c.nf=f.params.length+f.locals.length)(hM:MG p c N m iv ov R s)(b1:Nat)(A:Option Addr)(n1 z1:Nat)(hk:x.kind=8)(gc1:CellsAt s b1 0 [.slice A n1 z1])(hA:VeS p f d s A n1 z1 x.exprs)(h0n:0 < n1)(hr:sX p (sem p OPp n) f x m≠.out):AP prog D 95 [.pointer (some ⟨c.bm,0,none⟩),.pointer (some ⟨b1,0,none⟩)] (MB c N 0 m iv ov 0 0::MGb c m::MFb c m::(R++L)) s (okE p c N (sX p (sem p OPp n) f x m) VS RS [] L) (qd0 c N (sX p (sem p OPp n) f x m) [] L):=by
 obtain ⟨r,hq⟩:∃ r,r=sX p (sem p OPp n) f x m:=⟨_,rfl⟩
 rw [← hq] at hr ⊢
 rw [sX,if_neg O,if_neg O,if_neg O,if_neg O,if_neg O,if_neg O,if_neg O,if_pos hk] at hq
 obtain ⟨B0,o0,b0,rfl,hcE,hvE⟩:=VeS.at_ hA h0n
 refine qa0 (fn:=f95) qao func95 V Z ntmps95 Z (rs:=[.tmp 3]) Z [(0,_),(1,_)] Z<|Sr<|At Z Z<|Sr<|Zqm Z Z<|qac (qah Z Z Z (gc1.le (Lr D)) Z) Z<|qac (qas Z Z Z Z Z Z h0n) Z<|qac (qah Z Z Z (hcE.le (Lr D)) Z) Z<|Zqm Z Z ?_
 refine qa3 (first:=[]) (captured:=[.pointer (some ⟨b0,0,none⟩)]) Z Z Z (AP.fr (fun L=>hE L _ c N f d (qbA x.exprs 0) _ m iv ov R (hC.le (Lr D)) hn (hvE.le (Lr D)) (hM.le (Lr D)) (qaW hq hr)) [] _) ?_ ?_
 ·
  rintro _ _ sx1 hx1 ⟨hp1,mf1,sf1,cf1,Zf1,he1,rfl,hF1⟩ fr9
  repeat (first | refine qaK ?_ | refine qaA ?_)
  refine qa5 [] _ Pr hx1 fun _ hS2=>?_
  exact ⟨hp1,mf1,sf1,cf1,Zf1,qbt hq he1,rfl,hF1⟩
 rintro _ _ s1 h1 ⟨a1,m1,iv1,ov1,R1,he1,⟨rfl,hu1⟩,rfl,hM1⟩
 rw [he1] at hq
 simp only [ER.and] at hq
 simp only [cQ9,nQ9]
 refine qa3 (first:=[]) (captured:=[]) Z Z Z (qc2 D [] _ _ c N _ m1 iv1 ov1 _ _) ?_ ?_
 ·
  rintro _ _ sx2 hx2 ⟨hp2,rfl⟩ fr9
  repeat (first | refine qaK ?_ | refine qaA ?_)
  refine qa5 [] _ Pr (h1.t hx2) fun _ hS2=>?_
  exact ⟨hp2,m1,_,_,_,hq,rfl,((hM1.le hx2).fin _ _ _)⟩
 rintro _ _ s2 h2 ⟨⟩
theorem qsZ(p:Prg)(D n:Nat)(L:Hl)(s:World)(c:MC)(N:Nat)(f:Fnc)(d:Nat)(x:Stm)(m:MS)(iv ov:Value)(R:Hl)(hC:CT p c s)(hn:c.nf=f.params.length+f.locals.length)(hM:MG p c N m iv ov R s)(hk:x.kind=9):AP prog D 96 [.pointer (some ⟨c.bm,0,none⟩)] (MB c N 0 m iv ov 0 0::MGb c m::MFb c m::(R++L)) s (okE p c N (sX p (sem p OPp n) f x m) VS RS [] L) (qd0 c N (sX p (sem p OPp n) f x m) [] L):=by
 refine qa0 (fn:=f96) qao func96 V Z ntmps96 Z (rs:=[.tmp 2]) Z [(0,_)] Z<|Sr<|At Z Z<|Sr<|At Z Z<|Zo<|?_
 refine qaN [] _ (.inr Z) (.t1 Z) Z (Lr D) fun _ hS2=>?_
 exact ⟨(1,0),m,iv,ov,R,by rw [sX,if_neg O,if_neg O,if_neg O,if_neg O,if_neg O,if_neg O,if_neg O,if_neg O,if_pos hk],⟨rfl,⟨by decide,by decide⟩,fun _=>rfl⟩,rfl,hM.le ((Lr D).t hS2)⟩
theorem qre(p:Prg)(D n:Nat)(L:Hl)(s:World)(c:MC)(N:Nat)(f:Fnc)(d:Nat)(x:Stm)(m:MS)(iv ov:Value)(R:Hl)(hC:CT p c s)(hn:c.nf=f.params.length+f.locals.length)(hM:MG p c N m iv ov R s)(hk:x.kind=10):AP prog D 97 [.pointer (some ⟨c.bm,0,none⟩)] (MB c N 0 m iv ov 0 0::MGb c m::MFb c m::(R++L)) s (okE p c N (sX p (sem p OPp n) f x m) VS RS [] L) (qd0 c N (sX p (sem p OPp n) f x m) [] L):=by
 refine qa0 (fn:=f97) qao func97 V Z ntmps97 Z (rs:=[.tmp 2]) Z [(0,_)] Z<|Sr<|At Z Z<|Sr<|At Z Z<|Zo<|?_
 refine qaN [] _ (.inr Z) (.t1 Z) Z (Lr D) fun _ hS2=>?_
 exact ⟨(2,0),m,iv,ov,R,by rw [sX,if_neg O,if_neg O,if_neg O,if_neg O,if_neg O,if_neg O,if_neg O,if_neg O,if_neg O],⟨rfl,⟨by decide,by decide⟩,fun _=>rfl⟩,rfl,hM.le ((Lr D).t hS2)⟩
def Ck{α:Type}(m:MS):ER α→Prop
 | .ok _ m1=>m1.calls=m.calls
 | _=>True
theorem Ck.and{α β:Type}{m:MS}{r:ER α}{k:α→MS→ER β}(h:Ck m r)(hk:∀ a m1,Ck m1 (k a m1)):Ck m (r.and k):=by
 cases r with
 | out=>trivial
 | fin m1 st cd=>trivial
 | ok a m1=>
  have h2:=hk a m1
  have h3:m1.calls=m.calls:=h
  show Ck m (k a m1)
  cases hr:k a m1 with
  | out=>trivial
  | fin m2 st cd=>trivial
  | ok b m2=>rw [hr] at h2;exact (show m2.calls=m1.calls from h2).trans h3
theorem ql9{E:Ex→MS→ER Int}(hE:∀ x m,Ck m (E x m)):∀ (l:List Ex) (m:MS),Ck m (qaD E l m)
 | [],m=>by rw [qaD];exact rfl
 | x::r,m=>by rw [qaD];exact (hE x m).and fun v m1=>(ql9 hE r m1).and fun _ _=>rfl
theorem qkh{T:Stm→MS→ER (Int×Int)}(hT:∀ x m,Ck m (T x m)):∀ (l:List Stm) (m:MS),Ck m (qbi T l m)
 | [],m=>by rw [qbi];exact rfl
 | x::r,m=>by
  rw [qbi]
  refine (hT x m).and fun y m1=>?_
  split
  · exact qkh hT r m1
  · exact rfl
theorem qpz{p:Prg}{OP:Int→Int→Int→Option Int}:∀ n,(∀ f x m,Ck m ((sem p OP n).e f x m))∧(∀ i vs m,Ck m ((sem p OP n).c i vs m))∧(∀ f x m,Ck m ((sem p OP n).t f x m))∧∀ f c b m,Ck m ((sem p OP n).w f c b m)
  | 0=>⟨fun _ _ _=>trivial,fun _ _ _=>trivial,fun _ _ _=>trivial,fun _ _ _ _=>trivial⟩
  | n+1=>by
    obtain ⟨hE,hC,hT,hW⟩:=qpz (p:=p) (OP:=OP) n
    have hR:=fun f=>qkh (T:=(sem p OP n).t f) (hT f)
    have hS:∀ m:MS,Ck m (qgi m):=fun m=>by unfold qgi;split;exact trivial;exact rfl
    refine ⟨fun f x m=>(hS m).and fun _ m=>?_,fun i vs m=>?_,fun f x m=>(hS m).and fun _ m=>?_,fun f c b m=>?_⟩
    · unfold vX
      split;exact rfl
      split;exact rfl
      split
      · exact (hE _ _ _).and fun i m=>by split;exact trivial;exact rfl
      split
      · exact (ql9 (hE f) _ _).and fun vs m=>hC _ _ _
      split
      · unfold qjD;split <;> exact rfl
      split
      · exact (hE _ _ _).and fun a m=>rfl
      · refine (hE _ _ _).and fun a m=>?_
        split;exact rfl
        split;exact rfl
        refine (hE _ _ _).and fun b m=>?_
        split;exact rfl;exact trivial
    · show Ck m (cX p (sem p OP n) i vs m)
      unfold cX
      split
      · trivial
      · generalize qbi ((sem p OP n).t (p.funcs.getD i fn0)) (p.funcs.getD i fn0).body _=r
        cases r <;> first | trivial | rfl
    · unfold sX
      split
      · refine (hE _ _ _).and fun v m=>?_
        unfold qmz;split <;> exact rfl
      split
      · refine (hE _ _ _).and fun i m=>?_
        split;exact trivial
        exact (hE _ _ _).and fun v m=>rfl
      split
      · refine (hE _ _ _).and fun v m=>?_
        split;exact hR f _ _;exact hR f _ _
      split
      · exact hW _ _ _ _
      split
      · exact (ql9 (hE f) _ _).and fun vs m=>(hC _ _ _).and fun _ m=>rfl
      split
      · exact (hE _ _ _).and fun v m=>rfl
      split
      · refine (hE _ _ _).and fun v m=>?_
        split;exact trivial;exact rfl
      split
      · exact (hE _ _ _).and fun v m=>trivial
      split;exact rfl;exact rfl
    · show Ck m (wX (sem p OP n) f c b m)
      unfold wX
      refine (hE _ _ _).and fun v m=>?_
      split;exact rfl
      refine (hR f _ _).and fun y m=>?_
      split;exact rfl
      split;exact rfl
      exact hW _ _ _ _
theorem qlN{p:Prg}{OP:Int→Int→Int→Option Int}{n:Nat}{f:Fnc}{l:List Stm}{m m1:MS}{a:Int×Int}(h:qbi ((sem p OP n).t f) l m=.ok a m1):m1.calls=m.calls:=by
 have:=qkh (T:=(sem p OP n).t f) ((qpz (p:=p) (OP:=OP) n).2.2.1 f) l m
 rw [h] at this;exact this
theorem CT.at_{p:Prg}{c:MC}{s:World}{k:Nat}{fk:Fnc}(h:CT p c s)(hp:p.funcs[k]?=some fk):∃ b off d A n q,c.Af=some ⟨b,off,none⟩∧k < c.nF∧CellsAt s b (off+k * 2) [.int .i64 ((fk.params.length+fk.locals.length:Nat):Int),.slice A n q]∧VsS p fk d s A n q fk.body:=by
 obtain ⟨b,off,cs,h1,h2,_,d,A,n,q,rfl,h4⟩:=h.fn.2.2.2 k fk hp
 exact ⟨b,off,d,A,n,q,h1,by rw [h.fn.1];exact (List.getElem?_eq_some_iff.1 hp).1,h2,h4⟩
theorem qpc{vs:List Int}{sz:Nat}(h:vs.length≤sz):wv vs++(List.replicate sz (Value.int .u32 0)).drop vs.length=wv (qft sz vs):=by
 rw [List.drop_replicate,qft,List.take_of_length_le h,wv,wv,List.map_append,List.map_replicate]
theorem qf2{vs:List Int}{sz:Nat}(h:vs.length≤sz):(qft sz vs).length=sz:=by
 rw [qft,List.length_append,List.length_take,List.length_replicate];omega
theorem qkF{vs:List Int}{sz:Nat}(h:∀ x∈vs,U32 x):∀ x∈qft sz vs,U32 x:=fun x hx=>by
 rcases List.mem_append.1 hx with hx | hx
 · exact h x (List.mem_of_mem_take hx)
 · rw [List.mem_replicate] at hx;rw [hx.2];exact ⟨by decide,by decide⟩
theorem MG.call{p:Prg}{c:MC}{N:Nat}{m:MS}{iv ov:Value}{R:Hl}{s:World}(h:MG p c N m iv ov R s){l:List Int}{bf nf:Nat}(hl:l.length=nf)(hu:∀ x∈l,U32 x)(hc:¬ m.calls=100):MG p (c.wf bf nf) N { m with frm:=l,calls:=m.calls+1 } iv ov R s:=⟨h.inp,h.out,h.ug,hu,h.ua,h.ng,h.lg,hl,h.lb,h.la,h.ar,h.lo,by have:=h.lc;show m.calls+1≤100;omega,h.ll,h.lN⟩
theorem MG.back{p:Prg}{c:MC}{bf nf N:Nat}{m m0:MS}{iv ov:Value}{R:Hl}{s:World}(h:MG p (c.wf bf nf) N m iv ov R s){iv0 ov0:Value}{R0:Hl}{s0:World}(h0:MG p c N m0 iv0 ov0 R0 s0):MG p c N { m with frm:=m0.frm,calls:=m0.calls } iv ov R s:=⟨h.inp,h.out,h.ug,h0.uf,h.ua,h.ng,h.lg,h0.lf,h.lb,h.la,h.ar,h.lo,h0.lc,h.ll,h.lN⟩
theorem CT.wf{p:Prg}{c:MC}{s:World}(h:CT p c s)(bf nf:Nat):CT p (c.wf bf nf) s:=⟨h.fn,h.ar,h.fs,h.gu⟩
theorem pm52{a x y:Nat×Obj}{L:Hl}:(a::x::y::L).Perm (x::y::a::L):=(List.Perm.swap x a _).trans ((List.Perm.swap y a _).cons x)
theorem pm53{a x y:Nat×Obj}{L:Hl}:(x::y::a::L).Perm (a::x::y::L):=pm52.symm
theorem pm54{x y z:Nat×Obj}{R L:Hl}:(x::y::z::(R++L)).Perm (x::y::(R++z::L)):=((List.perm_middle (l₁:=R) (a:=z) (l₂:=L)).symm.cons y).cons x
theorem AP.perm{D:Nat}{f:FuncId}{args:List Value}{L L1:Hl}{s:World}{R R':Value→Hl→World→Prop}{X X':List PanicEntry→Hl→World→Prop}(hp:L.Perm L1)(h:AP prog D f args L1 s R X)(hq:∀ v L1' s',R v L1' s'→∃ L',L1'.Perm L'∧R' v L' s')(hx:∀ ch L1' s',X ch L1' s'→∃ L',L1'.Perm L'∧X' ch L' s'):AP prog D f args L s R' X':=
  ⟨h.1,fun ho=>by
    rw [qa7 hp _ ho]
    refine (h.2 (ho.perm hp)).mono ?_
    rintro e w' ⟨L1',s',hw,hok,hl,hr⟩
    rcases hr with ⟨v,he,hr⟩ | ⟨ch,he,hr⟩
    · obtain ⟨L',h1,h2⟩:=hq v L1' s' hr
      exact ⟨L',s',by rw [hw,qa7 h1 _ hok],hok.perm h1,hl,.inl ⟨v,he,h2⟩⟩
    · obtain ⟨L',h1,h2⟩:=hx ch L1' s' hr
      exact ⟨L',s',by rw [hw,qa7 h1 _ hok],hok.perm h1,hl,.inr ⟨ch,he,h2⟩⟩⟩
def okF(p:Prg)(c:MC)(N:Nat)(fv:Value)(r:ER Int)(L:Hl)(v:Value)(L':Hl)(s':World):Prop:=∃ a m' iv ov R,r=.ok a m'∧VE a v∧L'=MBv c N 0 m' iv ov 0 0 fv::MGb c m'::(R++L)∧MG p c N m' iv ov R s'
theorem qs3{p:Prg}{S:Sem}{k:Nat}{fk:Fnc}(hp:p.funcs[k]?=some fk)(vs:List Int)(m:MS):cX p S k vs m=if m.calls=100 then .fin m 1 3 else (qbi (S.t fk) fk.body { m with frm:=qft (fk.params.length+fk.locals.length) vs,calls:=m.calls+1 }).and fun y m1=>.ok (if y.1=3 then y.2 else 0) { m1 with frm:=m.frm,calls:=m.calls }:=by
 have e:p.funcs.getD k fn0=fk:=by rw [List.getD_eq_getElem?_getD,hp];rfl
 rw [cX,e]
theorem qi3(p:Prg)(D n:Nat)(hT:TOK p D n)(L:Hl)(s:World)(c:MC)(N k:Nat)(fk:Fnc)(vs:List Int)(A1:Option Addr)(n1 z1:Nat)(m:MS)(iv ov:Value)(F0:Option Addr)(n0 z0:Nat)(R:Hl)(hC:CT p c s)(hW:Wds s A1 n1 z1 vs)(hp:p.funcs[k]?=some fk)(hl:vs.length=fk.params.length)(hM:MG p c N m iv ov R s)(hr:cX p (sem p OPp n) k vs m≠.out):AP prog D 52 [.pointer (some ⟨c.bm,0,none⟩),.int .i64 (k:Int),.slice A1 n1 z1] (MBv c N 0 m iv ov 0 0 (.slice F0 n0 z0)::MGb c m::(R++L)) s (okF p c N (.slice F0 n0 z0) (cX p (sem p OPp n) k vs m) L) (qd0 c N (cX p (sem p OPp n) k vs m) [] L):=by
 obtain ⟨r,hq⟩:∃ r,r=cX p (sem p OPp n) k vs m:=⟨_,rfl⟩
 rw [← hq] at hr ⊢
 rw [qs3 hp] at hq
 obtain ⟨bF,oF,d,Ab,nb,cb9,hAf,hkF,hcf,hB⟩:=hC.at_ hp
 have hf9:=hC.fs fk (List.mem_of_getElem? hp)
 have hn1:=hW.1
 have hcl:=hM.lc
 have hvl:vs.length≤fk.params.length+fk.locals.length:=by omega
 subst hn1
 refine qa0 (fn:=f52) qao func52 V Z ntmps52 Z (rs:=[.tmp 6]) Z [(0,_),(1,_),(2,_)] Z<|Sr<|At Z Z<|Zs<|Sr<|Zqm Z Z<|qcd Z Z<|Wb Y5<|Wl 0 Y6<|qar Z Z Z<|Nt<|?_
 refine qaa Z (fun c1=>?_) (fun c1=>?_)
 ·
  have q9:=c1
  refine Zr<|Zqm Z Z<|?_
  refine qa3 (first:=[]) (captured:=[]) Z Z Z (qc2 D [] _ _ c N _ m iv ov _ _) ?_ ?_
  ·
   rintro _ _ sx2 hx2 ⟨hp2,rfl⟩ fr9
   repeat (first | refine qaK ?_ | refine qaA ?_)
   refine qa5 [] _ Pr hx2 fun _ hS2=>?_
   exact ⟨hp2,m,1,3,_,by rw [hq,if_pos O],rfl,(hM.le hx2).finv _ _ _ _ [MGb c m]⟩
  rintro _ _ s2 h2 ⟨⟩
 have q9:¬ m.calls=100:=by have:=c1;omega
 rw [if_neg q9] at hq
 refine Zk<|Zt<|Sr<|Zqm Z Z<|qcd Z Z<|W0 Y5<|qac (qae (Wd 0 Y5) (congrArg (fun a=>Value.slice a c.nF c.cF) hAf)) Z<|Zqm Z Z<|qac (qap Z Z Z Z Z Z hkF) Z<|qac (qau Z Z Z (hcf.le (Lr D)) Z) Z<|qaj Z [_,_] Z Z ?_
 intro β3 s3 h3
 refine Wt 0 [_,_] Y9<|Nt<|Zs<|qbC [] [_] _ ?_
 intro s4 h4 hpub4
 simp only [cQ9,nQ9]
 have hc7:=hpub4 _ _ _ (List.mem_singleton.2 rfl)
  
 refine Zr<|Zqm Z Z<|qcd Z Z<|Wb Y5<|Wl 0 Y6<|At Z Z<|Sr<|Zqm Z Z<|W0 Y5<|qac (qah Z Z Z (hc7.le (Lr D)) Z) Z<|qsO (m:=fk.params.length+fk.locals.length) Z Z Z Z Z (by simp [ti29];omega) O Z ?_
 intro β s5 h5
 refine qcd Z Z<|Wb Y5<|Wt 1 [_,_,_,_,_,_,_,_,_,_,_,_] Y9<|Nt<|Sr<|Zqm Z Z<|qcd Z Z<|Wb Y5<|Wl 1 Y6<|Zqm Z Z<|qrU 0 (L':=(β,cb (wv (qft (fk.params.length+fk.locals.length) vs)) 29)::_) Z Z Z Z Z Z Z (hW.row.le (h3.t h4|>.t h5)) hvl (by simp) (by rw [qpc hvl];rfl) Z<|Nt<|Zs<|qdG pm52<|Zr<|Zqm Z Z<|qcd Z Z<|Wb Y5<|Wl 0 Y6<|?_
 refine qac (qae (qaR Z Z (w64 O O)) (congrArg (Value.int .i64) (show (m.calls:Int)+1=((m.calls+1:Nat):Int) by omega))) Z<|qcd Z Z<|Wb Y5<|Wt 0 [_,_,_,_,_,_,_,_,_,_,_,_] Y9<|Nt<|Sr<|Zqm Z Z<|qcd Z Z<|Wb Y5<|Wt 0 [_,_,_,_,_,_,_,_,_,_,_,_] Y9<|Nt<|Sr<|Zqm Z Z<|qac (qbs Z Z Z Z) Z<|qac (qaC 1 Z Z Z (hc7.le h5) Z) Z ?_
 refine qa3 (first:=[]) (captured:=[]) Z Z Z (qiE p D n hT L _ (c.wf β (fk.params.length+fk.locals.length)) N fk d fk.body { m with frm:=qft (fk.params.length+fk.locals.length) vs,calls:=m.calls+1 } iv ov R ((hC.le (h3.t h4|>.t h5)).wf _ _) Z ((hM.le (h3.t h4|>.t h5)).call (qf2 hvl) (qkF hW.u32) q9) Ab nb cb9 (hB.le (h3.t h4|>.t h5)) (qaW hq hr)) ?_ ?_
 ·
  rintro _ _ sx7 hx7 ⟨hp7,mf7,sf7,cf7,Zf7,he7,rfl,hF7⟩ fr9
  repeat (first | refine qaK ?_ | refine qaA ?_)
  refine qa5 [] _ Pr (h3.t h4|>.t h5|>.t hx7) fun _ hS2=>?_
  exact ⟨hp7,mf7,sf7,cf7,Zf7,qbt hq he7,rfl,hF7.wf⟩
 rintro _ _ s7 h7 ⟨⟨a7,y7⟩,m7,iv7,ov7,R7,he7,⟨rfl,hu7,hz7⟩,rfl,hM7⟩
 have hck:m7.calls=m.calls+1:=qlN he7
 rw [he7] at hq
 simp only [ER.and] at hq
 rw [show (if a7=3 then y7 else 0)=y7 from by split;rfl;rename_i h8;exact (hz7 h8).symm] at hq
 simp only [cQ9,nQ9]
 refine Nt<|Sr<|Zqm Z Z<|qcd Z Z<|Wb Y5<|Wl 0 Y6<|At Z Z<|Sr<|Zqm Z Z<|qcd Z Z<|Wb Y5<|Wt 0 [_,_,_,_,_,_,_,_,_,_,_,_] Y9<|Nt<|Sr<|Zqm Z Z<|qcd Z Z<|Wb Y5<|Wl 0 Y6<|qac (qae (qbd Z Z (w64 O O)) (congrArg (Value.int .i64) (show _=((m.calls:Nat):Int) by omega))) Z<|qcd Z Z<|Wb Y5<|Wt 0 [_,_,_,_,_,_,_,_,_,_,_,_] Y9<|Nt<|Zs<|qdG pm53 ?_
 refine Zr<|Zqm Z Z<|Zqm Z Z<|qcd Z Z<|Wb Y5<|Wt 1 [_,_,_,_,_,_,_,_,_,_,_,_] Y9<|Nt<|Sr<|Zqm Z Z<|At Z Z<|Zo<|?_
 refine qaN [_] _ (.inr Z) (.t1 Z) Z (h3.t h4|>.t h5|>.t h7) fun _ hS2=>?_
 exact ⟨_,{ m7 with frm:=m.frm,calls:=m.calls },iv7,ov7,R7,hq,⟨rfl,hu7⟩,rfl,(hM7.back hM).le ((Lr D).t hS2)⟩
theorem qsp(p:Prg)(D n:Nat)(hT:TOK p D n)(L:Hl)(s:World)(c:MC)(N k:Nat)(fk:Fnc)(vs:List Int)(A1:Option Addr)(n1 c1:Nat)(m:MS)(iv ov:Value)(R:Hl)(hC:CT p c s)(hW:Wds s A1 n1 c1 vs)(hp:p.funcs[k]?=some fk)(hl:vs.length=fk.params.length)(hM:MG p c N m iv ov R s)(hr:cX p (sem p OPp n) k vs m≠.out):AP prog D 52 [.pointer (some ⟨c.bm,0,none⟩),.int .i64 (k:Int),.slice A1 n1 c1] (MB c N 0 m iv ov 0 0::MGb c m::MFb c m::(R++L)) s (okE p c N (cX p (sem p OPp n) k vs m) VE RE [] L) (qd0 c N (cX p (sem p OPp n) k vs m) [] L):=by
  refine AP.perm pm54 (qi3 p D n hT (MFb c m::L) s c N k fk vs A1 n1 c1 m iv ov _ _ _ R hC hW hp hl hM hr) ?_ ?_
  · rintro v L1 s1 ⟨a,m',iv',ov',R',h1,h2,rfl,h4⟩
    have hf:m'.frm=m.frm:=by
      rw [cX] at h1
      split at h1
      · cases h1
      · cases hr2:qbi ((sem p OPp n).t (p.funcs.getD k fn0)) (p.funcs.getD k fn0).body { m with frm:=qft ((p.funcs.getD k fn0).params.length+(p.funcs.getD k fn0).locals.length) vs,calls:=m.calls+1 } with
        | out=>rw [hr2] at h1;cases h1
        | fin _ _ _=>rw [hr2] at h1;cases h1
        | ok y m2=>rw [hr2] at h1;simp only [ER.and] at h1;injection h1 with _ h1;rw [← h1]
    refine ⟨_,pm54.symm,a,m',iv',ov',R',h1,h2,?_,h4⟩
    have e:MFb c m=MFb c m':=by rw [MFb,MFb,hf]
    rw [e];rfl
  · rintro ch L1 s1 ⟨h1,m',st,cd,Z,h2,rfl,h4⟩
    exact ⟨_,List.Perm.refl _,h1,m',st,cd,Z++[MFb c m],h2,by simp,h4.app _⟩
theorem vok(p:Prg)(D n:Nat)(hE:EOK p D n)(hK:COK p D n):VOK p D n:=by
 intro L s c N f d x w m iv ov R hC hn hv hM hr
 cases hv with
 | num b A1 n1 c1 hk hc hu=>exact ⟨_,[_],rfl,qtP D L s p _ c N f x m iv ov R hn hM b A1 n1 c1 hk hc hu⟩
 | slot b hk h0 hl hc=>exact ⟨_,[_],rfl,qrP D L s p _ c N f x m iv ov R hn hM b hk h0 hl hc⟩
 | con b k g A n1 c1 hk hs hg hp h1 hc hu=>exact ⟨_,[_],rfl,qta D L s p _ c N f x m iv ov R hn hM b k g A n1 c1 hk hs hg hp h1 hc hu⟩
 | var b k g hk hs hg hp h1 hc=>exact ⟨_,[_],rfl,qtn D L s p _ c N f x m iv ov R hn hM b k g hk hs hg hp h1 hc⟩
 | idx b1 b2 k g A n1 c1 hk hg hp h3 h1 h2 hA h0=>exact ⟨_,[_,_],rfl,qtZ p D n hE L s c N f d x m iv ov R hC hn hM b1 b2 k g A n1 c1 hk hg hp h3 h1 h2 hA h0 hr⟩
 | call w hk h=>
  obtain ⟨be,bi,A,n1,c1,k,fk,rfl,h1,h2,hA,hg,hp,hl⟩:=h
  have e:vX p OPp (sem p OPp n) f x m=(qaD ((sem p OPp n).e f) x.args m).and fun vs m=>(sem p OPp n).c k vs m:=by rw [qkG hk,hg,Int.toNat_natCast]
  rw [e] at hr ⊢
  exact ⟨_,[_,_],rfl,qjl p D n hE L s c N f d x.args m iv ov R hC hn hM hK be bi k fk A n1 c1 h1 h2 hA hp hl hr⟩
 | get hk=>exact ⟨_,[],rfl,qur D L s p _ c N f x m iv ov R hn hM hk⟩
 | una b1 b2 A1 n1 c1 A n2 c2 hk h1 h2 hA h0=>exact ⟨_,[_,_],rfl,qt5 p D n hE L s c N f d x m iv ov R hC hn hM b1 b2 A1 n1 c1 A n2 c2 hk h1 h2 hA h0 hr⟩
 | bin b1 b2 b3 v1 v2 hk h1 h2 h3 hv1 hv2 ho=>
  obtain ⟨b4,rfl⟩:=hv1.func
  obtain ⟨b5,rfl⟩:=hv2.func
  exact ⟨_,[_,_,_],rfl,qtM p D n hE L s c N f d x m iv ov R hC hn hM b1 b2 b3 b4 b5 hk h1 h2 h3 hv1 hv2 hr⟩
theorem sok(p:Prg)(D n:Nat)(ihE:∀ j,j≤n→EOK p D j)(ihT:∀ j,j≤n→TOK p D j)(hK:COK p D n):SOK p D n:=by
 intro L s c N f d x w m iv ov R hC hn hv hM hr
 have hE:=ihE n (Nat.le_refl _)
 have hT:=ihT n (Nat.le_refl _)
 cases hv with
 | setl b1 b2 v hk h0 hl h1 h2 hv=>
  obtain ⟨b4,rfl⟩:=hv.func
  exact ⟨_,[_,_],rfl,qqB p D n hE L s c N f d x m iv ov R hC hn hM b1 b2 b4 hk h0 hl h1 h2 hv hr⟩
 | setg b1 b2 k g v hk hs hg hp hg2 h1 h2 hv=>
  obtain ⟨b4,rfl⟩:=hv.func
  exact ⟨_,[_,_],rfl,qrQ p D n hE L s c N f d x m iv ov R hC hn hM b1 b2 b4 k g hk hs hg hp h1 h2 hv hr⟩
 | store b1 b2 k g A n1 c1 hk hg hp h3 h1 h2 hA h0=>exact ⟨_,[_,_],rfl,qnJ p D n hE L s c N f d x m iv ov R hC hn hM b1 b2 k g A n1 c1 hk hg hp h3 h1 h2 hA h0 hr⟩
 | cond b1 b2 b3 A n1 c1 B n2 c2 G n3 c3 hk h1 h2 h3 hA h0 hB hG=>exact ⟨_,[_,_,_],rfl,qpR p D n hE hT L s c N f d x m iv ov R hC hn hM b1 b2 b3 A n1 c1 B n2 c2 G n3 c3 hk h1 h2 h3 hA h0 hB hG hr⟩
 | loop b1 b2 A n1 c1 B n2 c2 hk h1 h2 hA h0 hB=>exact ⟨_,[_,_],rfl,qqx p D n ihE ihT L s c N f d x m iv ov R hC hn hM b1 b2 A n1 c1 B n2 c2 hk h1 h2 hA h0 hB hr⟩
 | call b1 w hk h1 h=>
  obtain ⟨be,bi,A,n1,c1,k,fk,rfl,he,hi,hA,hg,hp,hl⟩:=h
  exact ⟨_,[_],rfl,qmL p D n hE L s c N f d x m iv ov R hC hn hM hK b1 be bi k fk A n1 c1 hk h1 he hi hA hg hp hl hr⟩
 | ret b1 A n1 c1 hk h1 hA h0=>exact ⟨_,[_],rfl,qs5 p D n hE L s c N f d x m iv ov R hC hn hM b1 A n1 c1 hk h1 hA h0 hr⟩
 | put b1 A n1 c1 hk h1 hA h0=>exact ⟨_,[_],rfl,qt3 p D n hE L s c N f d x m iv ov R hC hn hM b1 A n1 c1 hk h1 hA h0 hr⟩
 | stop b1 A n1 c1 hk h1 hA h0=>exact ⟨_,[_],rfl,qns p D n hE L s c N f d x m iv ov R hC hn hM b1 A n1 c1 hk h1 hA h0 hr⟩
 | brk hk=>exact ⟨_,[],rfl,qsZ p D n L s c N f d x m iv ov R hC hn hM hk⟩
 | cont hk=>exact ⟨_,[],rfl,qre p D n L s c N f d x m iv ov R hC hn hM hk⟩
theorem qpj(p:Prg)(D:Nat):∀ n,EOK p D n∧COK p D n∧TOK p D n
 | 0=>⟨fun _ _ _ _ _ _ _ _ _ _ _ _ _ _ _ _ h=>absurd rfl h,fun _ _ _ _ _ _ _ _ _ _ _ _ _ _ _ _ _ _ _ h=>absurd rfl h,fun _ _ _ _ _ _ _ _ _ _ _ _ _ _ _ _ h=>absurd rfl h⟩
 | n+1=>by
  have ih:∀ j,j≤n→EOK p D j∧COK p D j∧TOK p D j:=fun j hj=>qpj p D j
  obtain ⟨hE,hK,hT⟩:=ih n (Nat.le_refl _)
  exact ⟨qnG p D n (vok p D n hE hK),fun L s c N k fk vs A n1 c1 m iv ov R hC hW hp hl hM hr=>qsp p D n hT L s c N k fk vs A n1 c1 m iv ov R hC hW hp hl hM hr,qn1 p D n (sok p D n (fun j hj=>(ih j hj).1) (fun j hj=>(ih j hj).2.2) hK)⟩
end Go.Proofs.YtpdnijphccdiiaaGreatDoor
namespace Go.Proofs.YtpdnijphccdiiaaGreatDoor
open Go Go.FL
theorem qfI{p:Prg}{nm:Str}{e:Str×(Int×Int)}(h:((ents p).find? fun e=>decide (e.1=nm))=some e):(∃ (i:Nat) (g:Glo),p.globals[i]?=some g∧g.name=nm∧e.2=((3:Int),(i:Int)))∨∃ (i:Nat) (f:Fnc),p.funcs[i]?=some f∧f.name=nm∧e.2=((4:Int),(i:Int)):=by
  have hn:e.1=nm:=by simpa using List.find?_some h
  have hm:=List.mem_of_find?_eq_some h
  rw [ents,List.mem_append] at hm
  rcases hm with hm | hm
  · obtain ⟨i,hi⟩:=List.getElem?_of_mem hm
    rw [List.getElem?_mapIdx] at hi
    cases hg:p.globals[i]? with
    | none=>rw [hg] at hi;cases hi
    | some g=>rw [hg] at hi;simp at hi;subst hi;exact .inl ⟨i,g,hg,hn,rfl⟩
  · obtain ⟨i,hi⟩:=List.getElem?_of_mem hm
    rw [List.getElem?_mapIdx] at hi
    cases hg:p.funcs[i]? with
    | none=>rw [hg] at hi;cases hi
    | some g=>rw [hg] at hi;simp at hi;subst hi;exact .inr ⟨i,g,hg,hn,rfl⟩
theorem qhB{p:Prg}{x:Fnc}{u:Use}(h:qeg p x u=0)(hu:u.2.1≠0):(qaz p x u.1).2=true∧qcb (qh3 p (qaz p x u.1).1.2) u.2.1 (qaz p x u.1).1.1∧¬ (u.2.1=4∧u.2.2≠(qsw p (qaz p x u.1).1.2:Int)):=by
 unfold qeg at h
 rw [if_neg hu] at h
 split at h
 · cases h
 rename_i h1
 split at h
 · cases h
 rename_i h2
 split at h
 · cases h
 rename_i h3
 exact ⟨by simpa using h1,Decidable.not_not.1 h2,h3⟩
theorem qoM{p:Prg}{x:Fnc}{nd:Nd}(h:ndC p x nd=0):qeg p x nd.use=0∧∀ q:Prg,qeg q x nd.use=0→ndC q x nd=0:=by
 cases nd with
 | ex y lp=>exact ⟨h,fun q hq=>hq⟩
 | st y lp=>
  rw [ndC] at h
  split at h
  · cases h
  rename_i h1
  exact ⟨h,fun q hq=>by rw [ndC,if_neg h1];exact hq⟩
theorem qfi{m:Int×Int}{k:Nat}{c:Int}(h1:m.1=c)(h2:m.2=(k:Int)):m=(c,(k:Int)):=Prod.ext h1 h2
theorem qgq{p:Prg}(h:qbU p=(0,0)):∃ (mi:Nat) (x:Fnc),qcV p.funcs=(mi:Int)∧p.funcs[mi]?=some x∧x.name=qbY∧x.params=[]:=by
 obtain ⟨mi,x,h1,h2,_⟩:=qrz h
 obtain ⟨_,y,hy,hq⟩:=qfF (show qbb (fun x:Fnc=>decide (x.name=qbY)) p.funcs 0=(mi:Int) from h1)
 rw [Nat.sub_zero,h2] at hy
 obtain rfl:x=y:=by simpa using hy
 refine ⟨mi,x,h1,h2,by simpa using hq,?_⟩
 rw [qbU] at h
 split at h
 · rename_i h3;rw [h] at h3;exact absurd rfl h3
 split at h
 · rename_i h3;rw [h] at h3;exact absurd rfl h3
 rw [if_neg O,h1,Int.toNat_natCast,h2] at h
 simp only at h
 split at h
 · assumption
 · cases h
theorem qjk{p:Prg}{f:Fnc}{nm:Str}{c k:Int}(h:(qaz p f nm).1=(c,k))(hc:c=3∨c=4):¬ 0≤qa4 f nm:=by
 unfold qaz at h
 split at h
 · injection h with h1 _;omega
 rename_i k1
 split at h
 · injection h with h1 _;omega
 rename_i k2
 rw [qa4,if_neg k1,if_neg k2];decide
theorem qg1{p:Prg}{f:Fnc}{nm:Str}(h:(qaz p f nm).1.1=1∨(qaz p f nm).1.1=2):0≤qa4 f nm:=by
 unfold qaz at h
 split at h
 · rename_i k1;rw [qa4,if_pos k1];exact k1
 rename_i k1
 split at h
 · rename_i k2;rw [qa4,if_neg k1,if_pos k2];omega
 cases hf:(ents p).find? fun e=>decide (e.1=nm) with
 | none=>rw [hf] at h;rcases h with h | h <;> cases h
 | some e=>
  rw [hf] at h
  simp only at h
  rcases qfI hf with ⟨i,g,_,_,hc⟩ | ⟨i,g,_,_,hc⟩ <;> (rw [hc] at h;rcases h with h | h <;> cases h)
theorem qmf{p:Prg}{f:Fnc}{nm:Str}{c k:Int}(h:(qaz p f nm).1=(c,k))(hc:c=3∨c=4):∃ e,(ents p).find? (fun e=>decide (e.1=nm))=some e∧e.2=(c,k):=by
 unfold qaz at h
 split at h
 · injection h with h1 _;omega
 split at h
 · injection h with h1 _;omega
 cases hf:(ents p).find? fun e=>decide (e.1=nm) with
 | none=>rw [hf] at h;injection h with h1 _;omega
 | some e=>rw [hf] at h;exact ⟨e,rfl,h⟩
theorem qlt{p:Prg}{f:Fnc}{nm:Str}{k:Nat}(hnd:((ents p).map (·.1)).Nodup)(h:(qaz p f nm).1=((3:Int),(k:Int))):qdi p nm=(k:Int)∧k < p.globals.length:=by
  obtain ⟨e,he,h2⟩:=qmf h (.inl rfl)
  rcases qfI he with ⟨i,g,a,b,c⟩ | ⟨i,g,a,b,c⟩
  · rw [h2] at c
    injection c with _ c
    obtain rfl:k=i:=by omega
    obtain ⟨hl,rfl⟩:=List.getElem?_eq_some_iff.1 a
    refine ⟨?_,hl⟩
    have:=qca (p:=fun g:Glo=>decide (g.name=nm)) (l:=p.globals) (k:=k) (j:=0) (a:=p.globals[k]) (fun j y hj hy=>by
      cases hq:decide (y.name=nm) with
      | false=>rfl
      | true=>
        exfalso
        have hq:y.name=nm:=by simpa using hq
        have q1:=qdL hnd (qhE hy)
        have q2:=qdL hnd (qhE a)
        simp only [hq,b] at q1 q2
        rw [q1] at q2
        simp at q2;omega) a (by simpa using b)
    rw [qdi,this];simp
  · rw [h2] at c;cases c
theorem qk9{p:Prg}{f:Fnc}{nm:Str}{k:Nat}(hnd:((ents p).map (·.1)).Nodup)(h:(qaz p f nm).1=((4:Int),(k:Int))):qhx p nm=(k:Int)∧k < p.funcs.length:=by
  obtain ⟨e,he,h2⟩:=qmf h (.inr rfl)
  rcases qfI he with ⟨i,g,a,b,c⟩ | ⟨i,g,a,b,c⟩
  · rw [h2] at c;cases c
  · rw [h2] at c
    injection c with _ c
    obtain rfl:k=i:=by omega
    obtain ⟨hl,rfl⟩:=List.getElem?_eq_some_iff.1 a
    refine ⟨?_,hl⟩
    have:=qca (p:=fun g:Fnc=>decide (g.name=nm)) (l:=p.funcs) (k:=k) (j:=0) (a:=p.funcs[k]) (fun j y hj hy=>by
      cases hq:decide (y.name=nm) with
      | false=>rfl
      | true=>
        exfalso
        have hq:y.name=nm:=by simpa using hq
        have q1:=qdL hnd (qeX hy)
        have q2:=qdL hnd (qeX a)
        simp only [hq,b] at q1 q2
        rw [q1] at q2
        simp at q2;omega) a (by simpa using b)
    rw [qhx,this];simp
section
variable{p:Prg}{F G:List Bool}{OP:Int→Int→Int→Option Int}
theorem qg3{x:Ex}{lp:Nat}{nd:Nd}:∀ {l:List Ex},x∈l→nd∈ndX x lp→nd∈qd2 l lp
 | [],h,_=>by cases h
 | y::r,h,hn=>by
  rw [qd2]
  rcases List.mem_cons.1 h with rfl | h
  · exact List.mem_append_left _ hn
  · exact List.mem_append_right _ (qg3 h hn)
theorem qfj{x:Stm}{lp:Nat}{nd:Nd}:∀ {l:List Stm},x∈l→nd∈ndS x lp→nd∈qcz l lp
 | [],h,_=>by cases h
 | y::r,h,hn=>by
  rw [qcz]
  rcases List.mem_cons.1 h with rfl | h
  · exact List.mem_append_left _ hn
  · exact List.mem_append_right _ (qfj h hn)
end
end Go.Proofs.YtpdnijphccdiiaaGreatDoor
