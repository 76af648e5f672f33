/- Part 4. -/
import Derived.Test.YtpdnijphccdiiaaGreatDoorQ15x3
import Derived.RangeFuncIn
import Derived.RangeFuncLeaves
import Derived.RangeFuncCalls
import Derived.RangeFuncRecord
import Derived.TacticsIn
import Derived.Sort.LoopGhostIn
import Derived.OrdersIn
set_option linter.unusedVariables false
set_option linter.unusedSimpArgs false
set_option linter.unnecessarySimpa false
set_option maxRecDepth 100000
set_option maxHeartbeats 8000000
namespace Go.Proofs.YtpdnijphccdiiaaGreatDoor
open Go Go.FL
abbrev Use:=Str×Int×Int
def qdd(x:Stm):Use:=if x.kind=1 then (x.name,1,0) else if x.kind=2 then (x.name,3,0) else if x.kind=5 then (x.name,4,(x.exprs.length:Int)) else ([],0,0)
def qdk(x:Ex):Use:=if x.kind=2 then (x.name,2,0) else if x.kind=3 then (x.name,3,0) else if x.kind=4 then (x.name,4,(x.args.length:Int)) else ([],0,0)
inductive Nd where
 | st (x:Stm) (loops:Nat)
 | ex (x:Ex) (loops:Nat)
def Nd.use:Nd→Use
 | .st x _=>qdd x
 | .ex x _=>qdk x
mutual
def ndX:Ex→Nat→List Nd
 | .mk k o n nm az,lp=>.ex (.mk k o n nm az) lp::qd2 az lp
def qd2:List Ex→Nat→List Nd
 | [],_=>[]
 | x::r,lp=>ndX x lp++qd2 r lp
end
mutual
def ndS:Stm→Nat→List Nd
 | .mk k nm es b e,lp=>.st (.mk k nm es b e) lp::(qd2 es lp++(qcz b (if k=4 then lp+1 else lp)++qcz e (if k=4 then lp+1 else lp)))
def qcz:List Stm→Nat→List Nd
 | [],_=>[]
 | x::r,lp=>ndS x lp++qcz r lp
end
def qfe:List Glo→List Str→Nat→Int×Int
 | [],_,_=>(0,0)
 | g::r,seen,i=>if g.name∈seen then (8,(i:Int)) else qfe r (seen++[g.name]) (i+1)
def qfb:List Fnc→List Str→Nat→Int×Int
 | [],_,_=>(0,0)
 | x::r,seen,i=>if x.name∈seen∨¬ (x.params++x.locals).Nodup then (8,(i:Int)) else qfb r (seen++[x.name]) (i+1)
def qbY:Str:=[109,97,105,110]
def qcV(l:List Fnc):Int:=qbb (fun x=>decide (x.name=qbY)) l 0
def qbU(p:Prg):Int×Int:=if (qfe p.globals [] 0).1≠0 then qfe p.globals [] 0 else if (qfb p.funcs (p.globals.map Glo.name) p.globals.length).1≠0 then qfb p.funcs (p.globals.map Glo.name) p.globals.length
 else if qcV p.funcs < 0 then (12,-1) else match p.funcs[(qcV p.funcs).toNat]? with
  | some x=>if x.params=[] then (0,0) else (9,-1)
  | none=>(0,0)
theorem qbK{w:Str}:∀ {l:List Str} {k:Nat},(0≤qbb (fun x=>decide (w=x)) l k)↔w∈l
 | [],k=>by simp [qbb]
 | x::r,k=>by
  rw [qbb]
  by_cases h:w=x
  · simp [h]
  · rw [if_neg (by simpa using h),qbK];simp [h]
theorem qgr{α:Type}{p:α→Bool}{x:α}:∀ {l:List α} {k:Nat},qbb p (l++[x]) k=if 0≤qbb p l k then qbb p l k else if p x=true then ((k+l.length:Nat):Int) else -1
 | [],k=>by simp [qbb]
 | y::r,k=>by
  rw [List.cons_append,qbb,qbb]
  by_cases h:p y=true
  · rw [if_pos h,if_pos h,if_pos O]
  · rw [if_neg h,if_neg h,qgr,List.length_cons,show k+1+r.length=k+(r.length+1) by omega]
theorem qdv{α:Type}{p:α→Bool}:∀ {l:List α} {k:Nat},qbb p l k < ((k+l.length:Nat):Int)
 | [],k=>by simp [qbb];omega
 | y::r,k=>by
  rw [qbb]
  split
  · rw [List.length_cons];omega
  · have:=qdv (p:=p) (l:=r) (k:=k+1);rw [List.length_cons];omega
theorem qgG{l:List Glo}{k i:Nat}{x:Glo}{seen:List Str}(h:l[k]?=some x):qfe (l.drop k) seen i=if x.name∈seen then (8,(i:Int)) else qfe (l.drop (k+1)) (seen++[x.name]) (i+1):=by
 obtain ⟨hk,rfl⟩:=List.getElem?_eq_some_iff.1 h
 rw [List.drop_eq_getElem_cons hk,qfe]
theorem qed{l:List Fnc}{k i:Nat}{x:Fnc}{seen:List Str}(h:l[k]?=some x):qfb (l.drop k) seen i=if x.name∈seen∨¬ (x.params++x.locals).Nodup then (8,(i:Int)) else qfb (l.drop (k+1)) (seen++[x.name]) (i+1):=by
 obtain ⟨hk,rfl⟩:=List.getElem?_eq_some_iff.1 h
 rw [List.drop_eq_getElem_cons hk,qfb]
theorem qeO{l:List Str}{k:Nat}{x:Str}(h:l[k]?=some x)(hn:(l.take k).Nodup)(hx:x ∉ l.take k):(l.take (k+1)).Nodup:=by
 obtain ⟨hk,rfl⟩:=List.getElem?_eq_some_iff.1 h
 rw [List.take_succ_eq_append_getElem hk,List.nodup_append]
 refine ⟨hn,by simp,fun a ha b hb=>?_⟩
 rw [List.mem_singleton] at hb;subst hb
 intro e;subst e;exact hx ha
theorem qc6{l:List Str}{k:Nat}{x:Str}(h:l[k]?=some x)(hx:x∈l.take k):¬ l.Nodup:=by
 obtain ⟨hk,rfl⟩:=List.getElem?_eq_some_iff.1 h
 intro hn
 have h2:(l.take k++l.drop k).Nodup:=by rw [List.take_append_drop];exact hn
 rw [List.nodup_append] at h2
 exact h2.2.2 _ hx _ (by rw [List.drop_eq_getElem_cons hk];exact List.mem_cons_self ..) rfl
end Go.Proofs.YtpdnijphccdiiaaGreatDoor
namespace Go.FL
open Go Go.RowKit Go.Proofs.YtpdnijphccdiiaaGreatDoor
theorem qae{P:Program}{TT:qaZ}{D:Nat}{fr:Fr}{ty:Nat}{op:Op}{K:Hl}{s0:World}{v v':Value}(h:QE P TT D fr op ty K s0 v)(e:v=v'):QE P TT D fr op ty K s0 v':=e▸h
theorem qmm:(BinOp.and≠.eql∧BinOp.and≠.neq):=⟨(by intro h;cases h),(by intro h;cases h)⟩
theorem qnW:(BinOp.or≠.eql∧BinOp.or≠.neq):=⟨(by intro h;cases h),(by intro h;cases h)⟩
theorem qkZ:(BinOp.xor≠.eql∧BinOp.xor≠.neq):=⟨(by intro h;cases h),(by intro h;cases h)⟩
theorem qlG:(BinOp.shl≠.eql∧BinOp.shl≠.neq):=⟨(by intro h;cases h),(by intro h;cases h)⟩
theorem qkO:(BinOp.shr≠.eql∧BinOp.shr≠.neq):=⟨(by intro h;cases h),(by intro h;cases h)⟩
theorem qeV{x:Int}(h:U32 x):(BitVec.ofInt 32 x).toNat=x.toNat:=by
 obtain ⟨h1,h2⟩:=h
 rw [BitVec.toNat_ofInt]
 omega
theorem qmt{n:Nat}(h:n < 4294967296):IntKind.u32.wrap (n:Int)=(n:Int):=by rw [IntKind.wrap_u32];omega
section
variable{P:Program}{t:Nat}{x y:Int}
theorem qkE(hx:U32 x)(hy:U32 y)(w:World):(binOp .and t (.int .u32 x) (.int .u32 y)).run P w=.ok (.int .u32 ((x.toNat &&& y.toNat:Nat):Int)) w:=by
 have h:(BitVec.ofInt 32 x &&& BitVec.ofInt 32 y).toNat=x.toNat &&& y.toNat:=by rw [BitVec.toNat_and,qeV hx,qeV hy]
 have h2:x.toNat &&& y.toNat < 4294967296:=h▸(BitVec.ofInt 32 x &&& BitVec.ofInt 32 y).isLt
 have h3:Op.intBits .and .u32 x y=pure (.int .u32 (IntKind.u32.wrap ((BitVec.ofInt 32 x &&& BitVec.ofInt 32 y).toNat:Int))):=rfl
 simp only [binOp,h3,h,qmt h2]
 rfl
theorem qnm(hx:U32 x)(hy:U32 y)(w:World):(binOp .or t (.int .u32 x) (.int .u32 y)).run P w=.ok (.int .u32 ((x.toNat ||| y.toNat:Nat):Int)) w:=by
 have h:(BitVec.ofInt 32 x ||| BitVec.ofInt 32 y).toNat=x.toNat ||| y.toNat:=by rw [BitVec.toNat_or,qeV hx,qeV hy]
 have h2:x.toNat ||| y.toNat < 4294967296:=h▸(BitVec.ofInt 32 x ||| BitVec.ofInt 32 y).isLt
 have h3:Op.intBits .or .u32 x y=pure (.int .u32 (IntKind.u32.wrap ((BitVec.ofInt 32 x ||| BitVec.ofInt 32 y).toNat:Int))):=rfl
 simp only [binOp,h3,h,qmt h2]
 rfl
theorem qhr(hx:U32 x)(hy:U32 y)(w:World):(binOp .xor t (.int .u32 x) (.int .u32 y)).run P w=.ok (.int .u32 ((x.toNat ^^^ y.toNat:Nat):Int)) w:=by
 have h:(BitVec.ofInt 32 x ^^^ BitVec.ofInt 32 y).toNat=x.toNat ^^^ y.toNat:=by rw [BitVec.toNat_xor,qeV hx,qeV hy]
 have h2:x.toNat ^^^ y.toNat < 4294967296:=h▸(BitVec.ofInt 32 x ^^^ BitVec.ofInt 32 y).isLt
 have h3:Op.intBits .xor .u32 x y=pure (.int .u32 (IntKind.u32.wrap ((BitVec.ofInt 32 x ^^^ BitVec.ofInt 32 y).toNat:Int))):=rfl
 simp only [binOp,h3,h,qmt h2]
 rfl
theorem qgI{n:Nat}(h:32≤n):(2:Nat) ^ n=4294967296 * 2 ^ (n - 32):=by
 rw [show n=32+(n - 32) by omega,Nat.pow_add];simp
theorem qkq(X Y:Nat):(X * 2 ^ min Y 32) % 4294967296=(X <<< Y) % 4294967296:=by
  rw [Nat.shiftLeft_eq]
  rcases Nat.le_total Y 32 with h | h
  · rw [Nat.min_eq_left h]
  · rw [Nat.min_eq_right h,qgI h]
    rw [show X * (4294967296 * 2 ^ (Y - 32))=4294967296 * (X * 2 ^ (Y - 32)) by rw [Nat.mul_left_comm]]
    omega
theorem qkz{X:Nat}(hX:X < 4294967296)(Y:Nat):X / 2 ^ min Y 32=X >>> Y:=by
  rw [Nat.shiftRight_eq_div_pow]
  rcases Nat.le_total Y 32 with h | h
  · rw [Nat.min_eq_left h]
  · rw [Nat.min_eq_right h,Nat.div_eq_of_lt O,Nat.div_eq_of_lt]
    have:(2:Nat) ^ 32≤2 ^ Y:=Nat.pow_le_pow_right O h
    omega
theorem qmh(hx:U32 x)(hy:U32 y)(w:World):(binOp .shl t (.int .u32 x) (.int .u32 y)).run P w=.ok (.int .u32 (((x.toNat <<< y.toNat) % 4294967296:Nat):Int)) w:=by
 obtain ⟨X,rfl⟩:=Int.eq_ofNat_of_zero_le hx.1
 obtain ⟨Y,rfl⟩:=Int.eq_ofNat_of_zero_le hy.1
 have h3:Op.shift .shl .u32 (X:Int) .u32 (Y:Int)=pure (.int .u32 (IntKind.u32.wrap ((X:Int) * 2 ^ min Y 32))):=by
  unfold Op.shift
  rw [if_neg O]
  rfl
 have h4:IntKind.u32.wrap ((X:Int) * 2 ^ min Y 32)=(((X <<< Y) % 4294967296:Nat):Int):=by
  rw [IntKind.wrap_u32,← qkq]
  have:((X * 2 ^ min Y 32:Nat):Int)=(X:Int) * 2 ^ min Y 32:=by push_cast;rfl
  rw [← this];omega
 simp only [binOp,h3,h4,Int.toNat_natCast]
 rfl
theorem qlp(hx:U32 x)(hy:U32 y)(w:World):(binOp .shr t (.int .u32 x) (.int .u32 y)).run P w=.ok (.int .u32 ((x.toNat >>> y.toNat:Nat):Int)) w:=by
 obtain ⟨X,rfl⟩:=Int.eq_ofNat_of_zero_le hx.1
 obtain ⟨Y,rfl⟩:=Int.eq_ofNat_of_zero_le hy.1
 have h3:Op.shift .shr .u32 (X:Int) .u32 (Y:Int)=pure (.int .u32 ((X:Int).fdiv (2 ^ min Y 32))):=by
  unfold Op.shift
  rw [if_neg O]
  rfl
 have h4:(X:Int).fdiv (2 ^ min Y 32)=((X >>> Y:Nat):Int):=by
  rw [← qkz (by have:=hx.2;omega)]
  have:((2 ^ min Y 32:Nat):Int)=(2:Int) ^ min Y 32:=by push_cast;rfl
  rw [← this,Int.fdiv_eq_ediv_of_nonneg _ (Int.natCast_nonneg _)]
  rfl
 simp only [binOp,h3,h4,Int.toNat_natCast]
 rfl
end
end Go.FL
namespace Go.Proofs.YtpdnijphccdiiaaGreatDoor
open Go Go.FL
def bwN(f:Nat→Bool)(X Y:Nat):Nat→Nat
 | 0=>0
 | k+1=>bwN f X Y k+if f (X / 2 ^ k % 2+Y / 2 ^ k % 2) then 2 ^ k else 0
theorem qpl(f:Nat→Bool)(X Y k:Nat):bwN f X Y k < 2 ^ k:=by
 induction k with
 | zero=>simp [bwN]
 | succ k ih=>simp only [bwN,Nat.pow_succ];split <;> omega
theorem qrD(f:Nat→Bool)(X Y k i:Nat):(bwN f X Y k).testBit i=(decide (i < k) && f (X / 2 ^ i % 2+Y / 2 ^ i % 2)):=by
  induction k with
  | zero=>simp [bwN]
  | succ k ih=>
    have hlt:=qpl f X Y k
    simp only [bwN]
    by_cases hf:f (X / 2 ^ k % 2+Y / 2 ^ k % 2)=true
    · rw [if_pos hf,Nat.add_comm]
      rcases Nat.lt_trichotomy i k with h | h | h
      · rw [Nat.testBit_two_pow_add_gt h,ih];simp [h,Nat.lt_succ_of_lt h]
      · subst h;rw [Nat.testBit_two_pow_add_eq,ih];simp [hf]
      · rw [Nat.testBit_lt_two_pow]
        · simp [show ¬ i < k+1 by omega]
        · calc 2 ^ k+bwN f X Y k < 2 ^ k+2 ^ k:=by omega
            _=2 ^ (k+1):=by rw [Nat.pow_succ];omega
            _≤2 ^ i:=Nat.pow_le_pow_right O O
    · rw [if_neg hf,Nat.add_zero,ih]
      rcases Nat.lt_trichotomy i k with h | h | h
      · simp [h,Nat.lt_succ_of_lt h]
      · subst h;simp [hf]
      · simp [show ¬ i < k+1 by omega,show ¬ i < k by omega]
theorem qci(X i:Nat):X.testBit i=decide (X / 2 ^ i % 2=1):=by
 rw [Nat.testBit_eq_decide_div_mod_eq]
theorem qrm{f:Nat→Bool}{X Y Z:Nat}(hZ:Z < 4294967296)(h:∀ i,Z.testBit i=f (X / 2 ^ i % 2+Y / 2 ^ i % 2)∨32≤i):bwN f X Y 32=Z:=by
  apply Nat.eq_of_testBit_eq
  intro i
  rw [qrD]
  by_cases hi:i < 32
  · rcases h i with h | h
    · simp [hi,h]
    · omega
  · rw [Nat.testBit_lt_two_pow (x:=Z) (i:=i)]
    · simp [hi]
    · have h32:(2:Nat) ^ 32≤2 ^ i:=Nat.pow_le_pow_right O O
      omega
theorem qtb{X Y:Nat}(hX:X < 4294967296):bwN (fun d=>decide (d=2)) X Y 32=X &&& Y:=by
 refine qrm (Nat.lt_of_le_of_lt Nat.and_le_left hX) fun i=>.inl ?_
 rw [Nat.testBit_and,qci,qci]
 have h1:X / 2 ^ i % 2 < 2:=Nat.mod_lt _ O
 have h2:Y / 2 ^ i % 2 < 2:=Nat.mod_lt _ O
 rw [Bool.eq_iff_iff];simp;omega
theorem qvv{X Y:Nat}(hX:X < 4294967296)(hY:Y < 4294967296):bwN (fun d=>decide (d=1) || decide (d=2)) X Y 32=X ||| Y:=by
 refine qrm (Nat.or_lt_two_pow (n:=32) hX hY) fun i=>.inl ?_
 rw [Nat.testBit_or,qci,qci]
 have h1:X / 2 ^ i % 2 < 2:=Nat.mod_lt _ O
 have h2:Y / 2 ^ i % 2 < 2:=Nat.mod_lt _ O
 rw [Bool.eq_iff_iff];simp;omega
theorem qtd{X Y:Nat}(hX:X < 4294967296)(hY:Y < 4294967296):bwN (fun d=>decide (d=1)) X Y 32=X ^^^ Y:=by
 refine qrm (Nat.xor_lt_two_pow (n:=32) hX hY) fun i=>.inl ?_
 rw [Nat.testBit_xor,qci,qci]
 have h1:X / 2 ^ i % 2 < 2:=Nat.mod_lt _ O
 have h2:Y / 2 ^ i % 2 < 2:=Nat.mod_lt _ O
 rw [Bool.eq_iff_iff];simp;omega
def shN(left:Bool)(X:Nat):Nat→Nat
 | 0=>X
 | k+1=>if left then (shN left X k+shN left X k) % 4294967296 else shN left X k / 2
theorem qiJ{X:Nat}(hX:X < 4294967296)(k:Nat):shN true X k=(X <<< k) % 4294967296:=by
 induction k with
 | zero=>simp [shN,Nat.mod_eq_of_lt hX]
 | succ k ih=>simp only [shN,if_true,ih,Nat.shiftLeft_eq,Nat.pow_succ];rw [← Nat.mul_assoc];omega
theorem qhb(X k:Nat):shN false X k=X >>> k:=by
 induction k with
 | zero=>simp [shN]
 | succ k ih=>simp only [shN,ih,Nat.shiftRight_succ];rfl
theorem qtJ{X:Nat}(hX:X < 4294967296)(b:Bool)(k:Nat):shN b X k < 4294967296:=by
 induction k with
 | zero=>exact hX
 | succ k ih=>simp only [shN];split <;> omega
theorem qsN{X k:Nat}(hX:X < 4294967296)(hk:32 < k)(b:Bool):shN b X k=0:=by
 cases b with
 | true=>
  rw [qiJ hX,← qkq,Nat.min_eq_right O];omega
 | false=>
  rw [qhb,← qkz hX,Nat.min_eq_right O,Nat.div_eq_of_lt O]
open Go.Proofs.Tryz
open Go.FL
attribute [local irreducible] JC JO JA JB qaJ qaw qbM AC fill CellsAt QE Ev Mid
theorem qcM(D:Nat)(L:Hl)(s:World)(c i:Int):AC prog D 47 [.int .i64 c,.int .i64 i] L s fun v L' _=>v=.agg #[.int .i64 c,.int .i64 i]∧L=L':=by
 refine qai (fn:=f47) qao func47 V Z ntmps47 Z (rs:=[.cell 4 33]) Z [(0,_),(1,_)] Z<|Sr<|qaj Z [_,_] Z Z ?_
 intro β1 s1 h1
 refine Nt<|Sr<|Zqm Z Z<|Zqm Z Z<|qac (qam [(_,_),(_,_)] [_,_] Z Z Z Z Z Z) Z<|Wt 0 [_,_] Y9<|Nt<|Zo<|?_
 refine rR [_] L (.agg (us:=[_,_]) 0 Z Z Z Z Z (.nil)) Z h1 fun _ hS2=>?_
 exact ⟨rfl,rfl⟩
theorem qvL(D:Nat)(L:Hl)(s:World)(x:Stm)(b o:Nat)(A1 A2 A3:Option Addr)(n1 q1 n2 q2 n3 q3:Nat)(hx:CellsAt s b o [.int .i64 x.kind,St x.name,.slice A1 n1 q1,.slice A2 n2 q2,.slice A3 n3 q3])(hn:n1=x.exprs.length)(lp:Int):AC prog D 66 [.agg #[.pointer (some ⟨b,o,none⟩),.pointer none,.int .i64 lp]] L s fun v L' _=>v=.agg #[St (qdd x).1,.int .i64 (qdd x).2.1,.int .i64 (qdd x).2.2]∧L=L':=by
 refine qai (fn:=f66) qao func66 V Z ntmps66 Z (rs:=[.cell 2 135]) Z [(0,_)] Z<|Sr<|qaq Z Z ?_
 intro β1 s1 h1
 refine qaj Z [_,_,_] Z Z ?_
 intro β2 s2 h2
 refine Nt<|Zs<|Sr<|W0 Y5<|Wl 1 Y6<|qac (qae (v':=.bool true) (qjp underlying108 Z) Z) Z<|Nt<|Zy Z<|Zs<|Sr<|W0 Y5<|Wl 1 Y6<|At Z Z<|Sr<|Zqm Z Z<|qcd Z Z<|W0 Y5<|qac (qah Z Z Z (hx.le (h1.t h2)) Z) Z<|Nt<|Zp<|Sr<|qar Z Z Z<|At Z Z<|?_
 refine qaa Z (fun c3=>?_) (fun c3=>?_)
 ·
  refine Sr<|Zqm Z Z<|qcd Z Z<|qac (qbs Z Z Z Z) Z<|qac (qaC 1 Z Z Z (hx.le (h1.t h2)) Z) Z<|qac (qam [(_,_),(_,_),(_,_)] [_,_,_] Z Z Z Z Z Z) Z<|Wt 0 [_,_,_] Y9<|Nt<|Zo<|Zc<|Zu<|Zu<|?_
  refine rR [_,_] L (.agg (us:=[_,_,_]) 0 Z Z Z Z Z (.nil)) Z (h1.t h2) fun _ hS2=>?_
  subst hn
  refine ⟨?_,Z⟩
  simp only [qat];unfold qdd
  repeat' split
  all_goals (first | rfl | (exfalso;omega) | (exfalso;simp_all;done))
 refine Sr<|qar Z Z Z<|At Z Z<|?_
 refine qaa Z (fun c4=>?_) (fun c4=>?_)
 ·
  refine Sr<|Zqm Z Z<|qcd Z Z<|qac (qbs Z Z Z Z) Z<|qac (qaC 1 Z Z Z (hx.le (h1.t h2)) Z) Z<|qac (qam [(_,_),(_,_),(_,_)] [_,_,_] Z Z Z Z Z Z) Z<|Wt 0 [_,_,_] Y9<|Nt<|Zo<|Zc<|Zu<|Zu<|?_
  refine rR [_,_] L (.agg (us:=[_,_,_]) 0 Z Z Z Z Z (.nil)) Z (h1.t h2) fun _ hS2=>?_
  subst hn
  refine ⟨?_,Z⟩
  simp only [qat];unfold qdd
  repeat' split
  all_goals (first | rfl | (exfalso;omega) | (exfalso;simp_all;done))
 refine Sr<|qar Z Z Z<|At Z Z<|?_
 refine qaa Z (fun c5=>?_) (fun c5=>?_)
 ·
  refine Zs<|qbJ qad 11 Z [0] (by intro x hx;exact qaY hx) ?_
  intro s6 h6
  refine za 0 Z (qan Z) Z<|za 1 Z (qbx Z) Z<|za 2 Z (qbs Z Z Z Z) Z<|za 3 Z (qaC 1 Z Z Z (hx.le (h1.t h2|>.t h6)) Z) Z<|za 4 Z (qan Z) Z<|za 5 Z (qbx Z) Z<|za 6 Z (qbs Z Z Z Z) Z<|za 7 Z (qaC 2 Z Z Z (hx.le (h1.t h2|>.t h6)) Z) Z<|za 8 Z (qbR Z Z Z) Z<|za 9 Z (qam [(_,_),(_,_),(_,_)] [_,_,_] Z Z Z Z Z Z) Z<|qax 10 V<|Wu Z Tt 0 [_,_,_] Y9 (sM (sbY (sbE _)))<|qal V<|Zt<|Zo<|Zc<|Zu<|Zu<|?_
  refine rR [_,_] L (.agg (us:=[_,_,_]) 0 Z Z Z Z Z (.nil)) Z (h1.t h2|>.t h6) fun _ hS2=>?_
  subst hn
  refine ⟨?_,Z⟩
  simp only [qat];unfold qdd
  repeat' split
  all_goals (first | rfl | (exfalso;omega) | (exfalso;simp_all;done))
 refine Zk<|Zb<|Zt<|Sr<|qac (qam [] [_,_,_] Z Z Z Z Z Z) Z<|Wt 0 [_,_,_] Y9<|Nt<|Zo<|Zu<|?_
 refine rR [_,_] L (.agg (us:=[_,_,_]) 0 Z Z Z Z Z (.nil)) Z (h1.t h2) fun _ hS2=>?_
 subst hn
 refine ⟨?_,Z⟩
 simp only [qat];unfold qdd
 repeat' split
 all_goals (first | rfl | (exfalso;omega) | (exfalso;simp_all;done))
theorem qvm(D:Nat)(L:Hl)(s:World)(x:Ex)(b o:Nat)(A:Option Addr)(n c:Nat)(hx:CellsAt s b o [.int .i64 x.kind,.int .i64 x.op,.int .u32 x.num,St x.name,.slice A n c])(hn:n=x.args.length)(lp:Int):AC prog D 66 [.agg #[.pointer none,.pointer (some ⟨b,o,none⟩),.int .i64 lp]] L s fun v L' _=>v=.agg #[St (qdk x).1,.int .i64 (qdk x).2.1,.int .i64 (qdk x).2.2]∧L=L':=by
 refine qai (fn:=f66) qao func66 V Z ntmps66 Z (rs:=[.cell 2 135]) Z [(0,_)] Z<|Sr<|qaq Z Z ?_
 intro β1 s1 h1
 refine qaj Z [_,_,_] Z Z ?_
 intro β2 s2 h2
 refine Nt<|Zs<|Sr<|W0 Y5<|Wl 1 Y6<|qac (qae (v':=.bool false) (qjp underlying108 Z) Z) Z<|Nt<|Zz Z<|Zk<|Zt<|Zs<|Sr<|Wb Y5<|Wl 1 Y6<|At Z Z<|Sr<|Zqm Z Z<|qcd Z Z<|W0 Y5<|qac (qah Z Z Z (hx.le (h1.t h2)) Z) Z<|Nt<|Zp<|Sr<|qar Z Z Z<|At Z Z<|?_
 refine qaa Z (fun c3=>?_) (fun c3=>?_)
 ·
  refine Sr<|Zqm Z Z<|qcd Z Z<|qac (qbs Z Z Z Z) Z<|qac (qaC 3 Z Z Z (hx.le (h1.t h2)) Z) Z<|qac (qam [(_,_),(_,_),(_,_)] [_,_,_] Z Z Z Z Z Z) Z<|Wt 0 [_,_,_] Y9<|Nt<|Zo<|Zc<|Zu<|?_
  refine rR [_,_] L (.agg (us:=[_,_,_]) 0 Z Z Z Z Z (.nil)) Z (h1.t h2) fun _ hS2=>?_
  subst hn
  refine ⟨?_,Z⟩
  simp only [qat];unfold qdk
  repeat' split
  all_goals (first | rfl | (exfalso;omega) | (exfalso;simp_all;done))
 refine Sr<|qar Z Z Z<|At Z Z<|?_
 refine qaa Z (fun c4=>?_) (fun c4=>?_)
 ·
  refine Sr<|Zqm Z Z<|qcd Z Z<|qac (qbs Z Z Z Z) Z<|qac (qaC 3 Z Z Z (hx.le (h1.t h2)) Z) Z<|qac (qam [(_,_),(_,_),(_,_)] [_,_,_] Z Z Z Z Z Z) Z<|Wt 0 [_,_,_] Y9<|Nt<|Zo<|Zc<|Zu<|?_
  refine rR [_,_] L (.agg (us:=[_,_,_]) 0 Z Z Z Z Z (.nil)) Z (h1.t h2) fun _ hS2=>?_
  subst hn
  refine ⟨?_,Z⟩
  simp only [qat];unfold qdk
  repeat' split
  all_goals (first | rfl | (exfalso;omega) | (exfalso;simp_all;done))
 refine Sr<|qar Z Z Z<|At Z Z<|?_
 refine qaa Z (fun c5=>?_) (fun c5=>?_)
 ·
  refine Zs<|qbJ qad 11 Z [0] (by intro x hx;exact qaY hx) ?_
  intro s6 h6
  refine za 0 Z (qan Z) Z<|za 1 Z (qbx Z) Z<|za 2 Z (qbs Z Z Z Z) Z<|za 3 Z (qaC 3 Z Z Z (hx.le (h1.t h2|>.t h6)) Z) Z<|za 4 Z (qan Z) Z<|za 5 Z (qbx Z) Z<|za 6 Z (qbs Z Z Z Z) Z<|za 7 Z (qaC 4 Z Z Z (hx.le (h1.t h2|>.t h6)) Z) Z<|za 8 Z (qbR Z Z Z) Z<|za 9 Z (qam [(_,_),(_,_),(_,_)] [_,_,_] Z Z Z Z Z Z) Z<|qax 10 V<|Wu Z Tt 0 [_,_,_] Y9 (sM (sbY (sbE _)))<|qal V<|Zt<|Zo<|Zc<|Zu<|?_
  refine rR [_,_] L (.agg (us:=[_,_,_]) 0 Z Z Z Z Z (.nil)) Z (h1.t h2|>.t h6) fun _ hS2=>?_
  subst hn
  refine ⟨?_,Z⟩
  simp only [qat];unfold qdk
  repeat' split
  all_goals (first | rfl | (exfalso;omega) | (exfalso;simp_all;done))
 refine Zk<|Zb<|Zt<|Sr<|qac (qam [] [_,_,_] Z Z Z Z Z Z) Z<|Wt 0 [_,_,_] Y9<|Nt<|Zo<|?_
 refine rR [_,_] L (.agg (us:=[_,_,_]) 0 Z Z Z Z Z (.nil)) Z (h1.t h2) fun _ hS2=>?_
 subst hn
 refine ⟨?_,Z⟩
 simp only [qat];unfold qdk
 repeat' split
 all_goals (first | rfl | (exfalso;omega) | (exfalso;simp_all;done))
end Go.Proofs.YtpdnijphccdiiaaGreatDoor
namespace Go.FL
open Go Go.RowKit
theorem qiL{L:Hl}{s:World}(nd:(L.map (·.1)).Nodup){b:Nat}{o:Obj}(hb:b < s.heap.size)(hx:(b,o)∈L):(fill L s).heap[b]?=some o:=by
  induction L with
  | nil=>cases hx
  | cons x L ih=>
    simp only [List.map_cons,List.nodup_cons] at nd
    rcases List.mem_cons.1 hx with rfl | hx
    · rw [fill];exact qcL _ (by rw [qaG];exact hb)
    · rw [fill,qbS]
      · exact ih nd.2 hx
      · intro e;exact nd.1 (by rw [e];exact List.mem_map.2 ⟨_,hx,rfl⟩)
theorem AC.lend{P:Program}{D:Nat}{f:FuncId}{args:List Value}{L:Hl}{s:World}{R:Value→Prop}(M:Hl)(hM:∀ x∈M,x.2≠dum D)(hf:qjy P f)(h:OKL D M s→AC P D f args L (fill M s) (fun v L' _=>R v∧L=L')) :
    AC P D f args (M++L) s (fun v L' _=>R v∧M++L=L'):=by
  refine ⟨hf,fun ho=>?_⟩
  have hoM:OKL D M s:=ho.left
  have hp:(M++L).Perm (L++M):=List.perm_append_comm
  have hnd:=ho.nd
  rw [List.map_append,List.nodup_append] at hnd
  have hdis:∀ x∈L,x.1 ∉ M.map (·.1):=fun x hx hm=>hnd.2.2 _ hm _ (List.mem_map.2 ⟨x,hx,rfl⟩) rfl
  have e:fill (M++L) s=fill L (fill M s):=by rw [qa7 hp _ ho,qeb]
  have ho3:OKL D L (fill M s):=⟨ho.right.nd,fun x hx=>by rw [qbg (hdis x hx)];exact ho.right.dm x hx⟩
  rw [e]
  refine ((h hoM).2 ho3).mono ?_
  rintro en w' ⟨v,L1,s1,h1,rfl,h3,h4,h6,rfl⟩
  have hlt:∀ x∈M,x.1 < s.heap.size:=fun x hx=>hoM.lt hx
  have hsz:s.heap.size≤s1.heap.size:=by have:=h4.size;rwa [qaG] at this
  have hs1:∀ x∈M,s1.heap[x.1]?=some x.2:=fun x hx=>by
    have hm:=qa8 hoM (b:=x.1) (o:=x.2) hx
    rcases h4.block x.1 (by rw [qaG];exact hlt x hx) with hd | hd
    · rw [hm] at hd;exact absurd (Option.some.inj hd) (hM x hx)
    · rw [hd,hm]
  have hk:(M.map fun x=>(x.1,dum D)).map (·.1)=M.map (·.1):=by rw [List.map_map];rfl
  have ho4:OKL D (M++L) (fill (M.map fun x=>(x.1,dum D)) s1):=⟨ho.nd,fun x hx=>by
    rcases List.mem_append.1 hx with hx | hx
    · exact qiL (by rw [hk];exact hnd.1) (Nat.lt_of_lt_of_le (hlt x hx) hsz) (List.mem_map.2 ⟨x,hx,rfl⟩)
    · rw [qbg (by rw [hk];exact hdis x hx)];exact h3.dm x hx⟩
  have hw:fill M (fill (M.map fun x=>(x.1,dum D)) s1)=s1:=by
    refine qc3 (qc4 fun k=>?_) ?_ ?_ ?_ ?_
    · by_cases hm:k∈M.map (·.1)
      · obtain ⟨x,hx,rfl⟩:=List.mem_map.1 hm
        rw [qiL (o:=x.2) hnd.1 (by rw [qaG];exact Nat.lt_of_lt_of_le (hlt x hx) hsz) hx,hs1 x hx]
      · rw [qbg hm,qbg (by rw [hk];exact hm)]
    · rw [qbQ,qbQ]
    · rw [qcF,qcF]
    · rw [qcO,qcO]
    · rw [qbr,qbr]
  refine ⟨v,M++L,fill (M.map fun x=>(x.1,dum D)) s1,h1,?_,ho4,?_,h6,Z⟩
  · rw [qa7 hp _ ho4,qeb,hw]
  · refine ⟨?_,?_,?_,?_,fun k hk1=>?_⟩
    · rw [qcO,h4.os,qcO]
    · rw [qbQ,h4.tape,qbQ]
    · rw [qbr,h4.output,qbr]
    · rw [qaG];exact hsz
    · by_cases hm:k∈M.map (·.1)
      · obtain ⟨x,hx,rfl⟩:=List.mem_map.1 hm
        exact .inl (hoM.dm x hx)
      · rw [qbg (by rw [hk];exact hm)]
        have:=h4.block k (by rw [qaG];exact hk1)
        rw [qbg hm] at this;exact this
theorem AC.ok{P:Program}{D:Nat}{f:FuncId}{args:List Value}{L:Hl}{s:World}{R:Value→Hl→World→Prop}(h:AC P D f args L s R):qjy P f:=h.1
theorem qlM{D:Nat}{M:Hl}{s:World}(h:OKL D M s):Pub M (fill M s):=fun b zs t hm j u hj=>by
 rw [qcC h hm,Nat.zero_add];exact hj
theorem qpi{e sz:Nat}{M:Hl}{v:Value}{n:Nat}{xs:List Value}(h:FL.Own e sz M v n xs){D:Nat}:∀ x∈M,x.2≠dum D:=by
 cases h with
 | nil=>intro x hx;cases hx
 | blk b cap n xs ys _ _ _ _=>
  intro x hx
  rw [List.mem_singleton] at hx;subst hx
  intro e;cases e
end Go.FL
namespace Go.Proofs.YtpdnijphccdiiaaGreatDoor
open Go.Proofs.Tryz
open Go.FL
attribute [local irreducible] JC JO JA JB qaJ qaw qbM AC fill CellsAt QE Ev Mid
theorem qfJ(D:Nat)(L:Hl)(s:World)(A:Option Addr)(n c:Nat)(l:List Str)(hA:Strs s A n c l)(w:Str):AC prog D 77 [.slice A n c,St w] L s fun v L' _=>v=.bool (decide (w∈l))∧L=L':=by
 have h:=qiy D L s A n c l hA w
 rwa [show decide (0≤qbb (fun x=>decide (w=x)) l 0)=decide (w∈l) from decide_eq_decide.2 qbK] at h
theorem qot:qjy prog 77:=by
 have h:=qfJ 0 [] (default:World) none 0 0 [] ⟨rfl,Nat.zero_le _,by omega,fun i x h=>by cases h⟩ []
 exact AC.ok h
theorem qhh(D:Nat)(X L:Hl)(s:World)(M:Hl)(A:Option Addr)(n c:Nat)(l:List Str)(hO:FL.Own 9 1 M (.slice A n c) n (sb l))(hu:∀ x∈l,x.length≤9223372036854775807)(hn:n=l.length)(w:Str):AC prog D 77 [.slice A n c,St w] (X++(M++L)) s fun v L' _=>v=.bool (decide (w∈l))∧L'=X++(M++L):=
 AC.perm (List.perm_append_comm_assoc ..) (AC.lend M (qpi hO) qot fun ho=>qfJ D (X++L) _ A n c l (Own.strs hO hu (qlM ho) hn) w) fun v L1 s1 ⟨g0,g1⟩=>⟨_,by rw [← g1];exact List.perm_append_comm_assoc ..,g0,rfl⟩
theorem qrq(D:Nat)(L:Hl)(s:World)(A:Option Addr)(n c:Nat)(l:List Str)(hA:Strs s A n c l):AC prog D 78 [.slice A n c] L s fun v L' _=>v=.bool (decide (¬ l.Nodup))∧L=L':=by
 have hn:=hA.1
 have hq1:=hA.2.1
 have hq2:=hA.2.2.1
 refine qai (fn:=f78) qao func78 V Z ntmps78 Z (rs:=[.tmp 2]) Z [(0,_)] Z<|Sr<|At Z Z<|Zs<|Sr<|Zqm Z Z<|Ws Y4<|Zqm Z Z<|Nt<|Zp<|qav (γ:=Nat) (fun k=>[(0,_),(2,_),(5,_),(6,_),(7,.int .i64 (k:Int))]) (fun _=>_) (fun k tw=>Le D s tw∧(k≤n∧(l.take k).Nodup)) (fun k=>n - k) (fun _ _ _ h hl=>⟨h.1.trans hl,h.2⟩) 0 (.c5 Z Z Z Z Z (.nil _)) Z ⟨Le.refl _,⟨Nat.zero_le _,by simp⟩⟩ ?_
 intro k s1 I1
 have hk0:=I1.2.1
 have hI:=I1.2.2
 refine Sr<|qbh Z Z Z<|Nt<|Zs<|?_
 refine qaa Z (fun c2=>?_) (fun c2=>?_)
 ·
  have hk:k < n:=by omega
  obtain ⟨b,off,x,rfl,hx,hcx,hxl⟩:=Strs.at_ (hA.le I1.1) hk
  refine Zk<|Zt<|Zs<|Zp<|Sr<|Zqm Z Z<|qac (qas Z Z Z Z Z Z hk) Z<|qac (qah Z Z Z (hcx.le (Lr D)) Z) Z<|Zqa Z Z<|At Z Z<|Sr<|Zqm Z Z<|Zqm Z Z<|qac (qji (j:=k) Z Z Z Z Z O) Z<|Zqm Z Z<|Jc Z Z Z (qfJ D _ _ _ k c (l.take k) (Sl.take (hA.le I1.1) hk) x) ?_
  rintro _ _ s3 h3 ⟨rfl,rfl⟩
  refine Nt<|?_
  refine qaa Z (fun c4=>?_) (fun c4=>?_)
  ·
   have hz:=c4
   refine Sr<|At Z Z<|Zo<|Zc<|Zu<|Zu<|Zc<|Zu<|?_
   refine rR [] L (.t1 Z) Z (I1.1.t h3) fun _ hS2=>?_
   exact ⟨by rw [decide_eq_true (qc6 hx hz)];rfl,rfl⟩
  have hz:=c4
  refine Zk<|Zb<|Zt<|Zr<|qaF Z Z Z (w64 O O)<|Zqm Z Z<|Zn<|?_
  refine qab ⟨(k+1),[],kp,Z,⟨(I1.1.t h3),⟨by omega,qeO hx hI hz⟩⟩,O⟩
 rw [List.take_of_length_le O] at hI
 refine Zl<|Zv<|Zv<|Zd<|Zt<|Sr<|At Z Z<|Zo<|?_
 refine rR [] L (.t1 Z) Z I1.1 fun _ hS2=>?_
 exact ⟨by rw [decide_eq_false (fun h=>h hI)];rfl,rfl⟩
theorem qk4{p:Prg}:(∀ {l:List Glo} {seen:List Str} {i:Nat},(qfe l seen i).1=0→qfe l seen i=(0,0))∧∀ {l:List Fnc} {seen:List Str} {i:Nat},(qfb l seen i).1=0→qfb l seen i=(0,0):=by
  constructor
  · intro l
    induction l with
    | nil=>intros;rfl
    | cons x r ih=>
      intro seen i h
      rw [qfe] at h ⊢
      split at h
      · cases h
      · rename_i h1;rw [if_neg h1];exact ih h
  · intro l
    induction l with
    | nil=>intros;rfl
    | cons x r ih=>
      intro seen i h
      rw [qfb] at h ⊢
      split at h
      · cases h
      · rename_i h1;rw [if_neg h1];exact ih h
theorem nF_g{p:Prg}(h:(qfe p.globals [] 0).1≠0):qbU p=qfe p.globals [] 0:=by rw [qbU,if_pos h]
theorem quL{p:Prg}(h0:qfe p.globals [] 0=(0,0))(h:(qfb p.funcs (p.globals.map Glo.name) p.globals.length).1≠0):qbU p=qfb p.funcs (p.globals.map Glo.name) p.globals.length:=by rw [qbU,h0,if_neg (by simp),if_pos h]
theorem nF_m{p:Prg}(h0:qfe p.globals [] 0=(0,0))(h1:qfb p.funcs (p.globals.map Glo.name) p.globals.length=(0,0))(h:qcV p.funcs < 0):qbU p=(12,-1):=by rw [qbU,h0,if_neg (by simp),h1,if_neg (by simp),if_pos h]
theorem nF_p{p:Prg}{x:Fnc}{j:Nat}(h0:qfe p.globals [] 0=(0,0))(h1:qfb p.funcs (p.globals.map Glo.name) p.globals.length=(0,0))(h:qcV p.funcs=(j:Int))(hx:p.funcs[j]?=some x):qbU p=if x.params=[] then (0,0) else (9,-1):=by
 rw [qbU,h0,if_neg (by simp),h1,if_neg (by simp),h,if_neg O,Int.toNat_natCast,hx]
theorem qiQ{p:Prg}(hV:PV p):(∀ w∈p.globals.map Glo.name,w.length≤9223372036854775807)∧∀ w∈p.funcs.map Fnc.name,w.length≤9223372036854775807:=by
  obtain ⟨_,_,hg,hf,_⟩:=hV
  constructor
  · intro w hw
    obtain ⟨x,hx,rfl⟩:=List.mem_map.1 hw
    have:=qbF (qcn (hg x hx).1).2.2.1;omega
  · intro w hw
    obtain ⟨x,hx,rfl⟩:=List.mem_map.1 hw
    have:=qbF (hf x hx).1;omega
theorem qjo{α:Type}{p:α→Bool}:∀ {l:List α} {k:Nat},(0≤qbb p l k→∃ y∈l,p y=true)∧(qbb p l k < 0→qbb p l k=-1)
  | [],k=>⟨fun h=>by simp [qbb] at h,fun _=>rfl⟩
  | y::r,k=>by
    rw [qbb]
    by_cases h:p y=true
    · rw [if_pos h];exact ⟨fun _=>⟨y,List.mem_cons_self ..,h⟩,fun h=>by omega⟩
    · rw [if_neg h]
      have ih:=qjo (p:=p) (l:=r) (k:=k+1)
      exact ⟨fun h=>by obtain ⟨z,h1,h2⟩:=ih.1 h;exact ⟨z,List.mem_cons_of_mem _ h1,h2⟩,ih.2⟩
theorem qhl{l:List Fnc}{k:Nat}{x:Fnc}(hx:l[k]?=some x)(hz:x.name ∉ (l.take k).map Fnc.name):qbb (fun x:Fnc=>decide (x.name=qbY)) (l.take (k+1)) 0=if x.name=qbY then (k:Int) else qbb (fun x:Fnc=>decide (x.name=qbY)) (l.take k) 0:=by
  obtain ⟨hk,rfl⟩:=List.getElem?_eq_some_iff.1 hx
  rw [List.take_succ_eq_append_getElem hk,qgr,List.length_take]
  have he:=qjo (p:=fun x:Fnc=>decide (x.name=qbY)) (l:=l.take k) (k:=0)
  by_cases hm:l[k].name=qbY
  · rw [if_pos hm,if_neg,if_pos (by simpa using hm),show min k l.length=k by omega,Nat.zero_add]
    intro h0
    obtain ⟨y,hy,e⟩:=he.1 h0
    exact hz (List.mem_map.2 ⟨y,hy,by rw [hm];simpa using e⟩)
  · rw [if_neg hm]
    split
    · rfl
    · rename_i h0
      rw [if_neg (by simpa using hm)]
      exact (he.2 O).symm
theorem qqM(D:Nat)(L:Hl)(s:World)(d:Nat)(p:Prg)(Ag Af:Option Addr)(ng cg nf cf:Nat)(hGl:Glos s Ag ng cg p.globals)(hFn:Fncs d s Af nf cf p.funcs)(hV:PV p):AC prog D 44 [.agg #[.slice Ag ng cg,.slice Af nf cf]] L s fun v L' _=>v=.agg #[.int .i64 (qbU p).1,.int .i64 (qbU p).2]∧L=L':=by
 have hn1:=hGl.1
 have hn2:=hFn.1
 obtain ⟨hN1,hN2⟩:=qiQ hV
 have hV1:=hV.1
 have hV2:=hV.2.1
 have hVf:=hV.2.2.2.1
 refine qai (fn:=f44) qao func44 V Z ntmps44 Z (rs:=[.cell 2 33]) Z [(0,_)] Z<|Sr<|qaq Z Z ?_
 intro β1 s1 h1
 refine qaj Z [_,_] Z Z ?_
 intro β2 s2 h2
 refine Nt<|Sr<|At Z Z<|Zs<|Sr<|W0 Y5<|Wl 1 Y6<|Ws Y4<|Zqm Z Z<|Nt<|Zp<|?_
 refine qav (γ:=Nat×Value×Hl) (fun g=>[(1,_),(2,_),(3,g.2.1),(10,_),(11,_),(12,.int .i64 (g.1:Int))]) (fun g=>_::_::(g.2.2++L)) (fun g tw=>Le D s2 tw∧(g.1≤ng∧FL.Own 9 1 g.2.2 g.2.1 g.1 (sb ((p.globals.take g.1).map Glo.name))∧qfe p.globals [] 0=qfe (p.globals.drop g.1) ((p.globals.take g.1).map Glo.name) g.1)) (fun g=>ng - g.1) (fun _ _ _ h hl=>⟨h.1.trans hl,h.2⟩) (0,.slice none 0 0,[]) (.c6 Z Z Z Z Z Z (.nil _)) Z ⟨Le.refl _,⟨Nat.zero_le _,Own.nil,Z⟩⟩ ?_
 intro g s3 I3
 obtain ⟨k,vo,Mo⟩:=g
 obtain ⟨hk0,hO,hS⟩:=I3.2
 simp only at hk0 hO hS
 dsimp only
 obtain ⟨Av,cv,rfl,hv1,hv2⟩:=Own.slice hO
 refine Sr<|qbh Z Z Z<|Nt<|Zs<|?_
 refine qaa Z (fun c4=>?_) (fun c4=>?_)
 ·
  have hk:k < ng:=by omega
  obtain ⟨b,off,x,Ai,ni,ci,rfl,hx,hcx,hix,hux,hnl⟩:=Glos.at_ (hGl.le (h1.t h2|>.t I3.1)) hk
  refine Zk<|Zt<|Zs<|Zp<|Sr<|Zqm Z Z<|qac (qap Z Z Z Z Z Z hk) Z<|qac (qau Z Z Z (hcx.le (Lr D)) Z) Z<|qaj Z [_,_,_,_] Z Z ?_
  intro β5 s5 h5
  refine Zqa Z Z<|Wt 0 [_,_,_,_] Y9<|Nt<|Zs<|Sr<|Zqm Z Z<|Wb Y5<|Wl 0 Y6<|Jc Z Z Z (qhh D [_,_,_] L _ Mo Av k cv _ hO (fun w hw=>hN1 w (by rw [List.map_take] at hw;exact List.mem_of_mem_take hw)) (by rw [List.length_map,List.length_take];omega) x.name) ?_
  rintro _ _ s6 h6 ⟨rfl,rfl⟩
  simp only [cQ9,nQ9]
  refine Nt<|?_
  refine qaa Z (fun c7=>?_) (fun c7=>?_)
  ·
   have hE:qbU p=(8,(k:Int)):=by
     have h9:qfe p.globals [] 0=(8,(k:Int)):=by rw [hS,qgG hx,if_pos c7]
     rw [nF_g (by rw [h9];simp),h9]
   refine Sr<|Zqm Z Z<|Jc Z Z Z (qcM D _ _ _ _) ?_
   rintro _ _ s8 h8 ⟨rfl,rfl⟩
   refine Wt 1 [_,_] Y9<|Nt<|Zo<|Zu<|Zc<|Zu<|Zu<|Zc<|Zu<|?_
   refine rR (_::_::_::Mo) L (.agg (us:=[_,_]) 1 Z Z Z Z Z (.nil)) Z (h1.t h2|>.t I3.1|>.t h5|>.t h6|>.t h8) fun _ hS2=>?_
   exact ⟨by rw [hE];rfl,rfl⟩
  have hz:=c7
  refine Zk<|Zt<|Zr<|Zqm Z Z<|Wb Y5<|Wl 0 Y6<|qbk [(_,_)] [_] Z Z Z Z Z Z Z Z Z ?_
  intro βn s9 h9 hcb
  refine qba (sz:=1) [_,_,_] Mo L Z Z Z Z Z Z Z hO (Row.of_cells (hcb.le (Lr D)) Z Z) ⟨by simp [ti9];omega,by omega⟩ Z ?_
  intro vq Mq s10 h10 oq
  obtain ⟨Avq,cvq,rfl,_,_⟩:=Own.slice oq
  simp only [cQ9,nQ9]
  refine Zqa Z Z<|Zn<|Zb<|Zt<|Zr<|qaF Z Z Z (w64 O O)<|Zqm Z Z<|Zn<|?_
  refine qab ⟨(k+1,.slice Avq (k+1) cvq,Mq),[_],kp,Z,⟨(I3.1.t h5|>.t h6|>.t h9|>.t h10),⟨by simp only;omega,by rw [qaI Glo.name hx,qc1];exact oq,by simp only;rw [hS,qgG hx,if_neg hz,qaI Glo.name hx]⟩⟩,Oz⟩
 obtain rfl:ng=k:=by omega
 rw [List.drop_eq_nil_of_le O,qfe] at hS
 rw [List.take_of_length_le O] at hO
 refine Zl<|Zv<|Zv<|Zd<|Zt<|Sr<|At Z Z<|Zs<|Sr<|Wb Y5<|Wl 1 Y6<|Ws Y4<|Zqm Z Z<|Nt<|Zp<|?_
 refine qav (γ:=Nat×Value×Hl) (fun g=>[(1,_),(2,_),(3,g.2.1),(6,.int .i64 (qbb (fun x=>decide (x.name=qbY)) (p.funcs.take g.1) 0)),(30,_),(31,_),(32,.int .i64 (g.1:Int))]) (fun g=>_::_::(g.2.2++L)) (fun g tw=>Le D s3 tw∧(g.1≤nf∧FL.Own 9 1 g.2.2 g.2.1 (ng+g.1) (sb (p.globals.map Glo.name++(p.funcs.take g.1).map Fnc.name))∧qfb p.funcs (p.globals.map Glo.name) p.globals.length=qfb (p.funcs.drop g.1) (p.globals.map Glo.name++(p.funcs.take g.1).map Fnc.name) (p.globals.length+g.1))) (fun g=>nf - g.1) (fun _ _ _ h hl=>⟨h.1.trans hl,h.2⟩) (0,.slice Av ng cv,Mo) (.c6 Z Z Z Z Z Z (.cons Z (.nil _))) Z ⟨Le.refl _,⟨Nat.zero_le _,by simpa using hO,by simp⟩⟩ ?_
 intro g s11 I11
 obtain ⟨k,vo,Mo⟩:=g
 obtain ⟨hk0,hO,hS2⟩:=I11.2
 simp only at hk0 hO hS2
 dsimp only
 obtain ⟨Av,cv,rfl,hv1,hv2⟩:=Own.slice hO
 refine Sr<|qbh Z Z Z<|Nt<|Zs<|?_
 refine qaa Z (fun c12=>?_) (fun c12=>?_)
 ·
  have hk:k < nf:=by omega
  obtain ⟨b,off,x,B1,m1,d1,B2,m2,d2,B3,m3,d3,rfl,hx,hcx,hpx,hlx,hbx,hnl⟩:=Fncs.at_ (hFn.le (h1.t h2|>.t I3.1|>.t I11.1)) hk
  obtain ⟨hi1,hi2,hi3,hi4,hi5,hi6⟩:=hVf x (List.mem_of_getElem? hx)
  have hp9:=hpx.1
  have hl9:=hlx.1
  refine Zk<|Zt<|Zs<|Zp<|Sr<|Zqm Z Z<|qac (qap Z Z Z Z Z Z hk) Z<|qac (qau Z Z Z (hcx.le (Lr D)) Z) Z<|qaj Z [_,_,_,_] Z Z ?_
  intro β13 s13 h13
  refine Zqa Z Z<|Wt 0 [_,_,_,_] Y9<|Nt<|Zs<|?_
  refine qaU 49 (x.name∈(p.globals.map Glo.name++(p.funcs.take k).map Fnc.name)∨¬ (x.params++x.locals).Nodup) ?_ ?_
  ·
   refine Zr<|Zqm Z Z<|W0 Y5<|Wl 0 Y6<|Jc Z Z Z (qhh D [_,_,_] L _ Mo Av (ng+k) cv _ hO (fun w hw=>(List.mem_append.1 hw).elim (hN1 w) (fun hw=>hN2 w (by rw [List.map_take] at hw;exact List.mem_of_mem_take hw))) (by rw [List.length_append,List.length_map,List.length_map,List.length_take];omega) x.name) ?_
   rintro _ _ s15 h15 ⟨rfl,rfl⟩
   simp only [cQ9,nQ9]
   refine Zqm Z Z ?_
   refine qak (t:=41) Z (fun c16=>?_) (fun c16=>?_)
   ·
    refine Wf Y4<|Wf Y4<|Wf Y4<|Wf Y4<|Wf Y4<|Wf Y4<|Wf Y4<|ZqT Z Z Z<|Zn<|?_
    refine qab (MidB.mk h15 Sb Z ((decide_eq_true (.inl As)).symm))
   refine Zg Z Z<|Wb Y5<|Zg Z Z<|Wl 0 Y6<|Zg Z Z<|Wb Y5<|Zg Z Z<|Wl 0 Y6<|Zg Z Z<|qbk [(_,_),(_,_)] [_,_] Z Z Z Z Z Z Z Z Z ?_
   intro βp s17 h17 hcp
   refine Zg Z Z<|Jc Z Z Z (qhZ D _ _ _ B1 B2 m1 d1 m2 d2 x.params x.locals (hpx.le (h13.t h15|>.t h17)) (hlx.le (h13.t h15|>.t h17)) (hcp.le (Lr D)) O O) ?_
   rintro _ _ s18 h18 ⟨rfl,Aq,nq,cq,rfl,hQ⟩
   refine Zg Z Z<|Jc Z Z Z (qrq D _ _ Aq nq cq _ (hQ.le (Lr D))) ?_
   rintro _ _ s19 h19 ⟨rfl,rfl⟩
   refine ZqF Z Z Z<|Zn<|?_
   refine qab (MidB.mk (h15.t h17|>.t h18|>.t h19) Sb Z (decide_eq_decide.2 (⟨fun h=>.inr h,fun h=>h.resolve_left As⟩)))
  intro s14 h14
  refine qaa Z (fun c20=>?_) (fun c20=>?_)
  ·
   have hE:qbU p=(8,((ng+k:Nat):Int)):=by
     have h9:qfb p.funcs (p.globals.map Glo.name) p.globals.length=(8,((ng+k:Nat):Int)):=by rw [hS2,qed hx,if_pos c20,hn1]
     rw [quL hS (by rw [h9];simp),h9]
   refine Sr<|W0 Y5<|Wl 2 Y6<|Ws Y4<|Zqm Z Z<|qac (qaR Z Z (show IntKind.i64.wrap ((ng:Int)+(k:Int))=((ng+k:Nat):Int) by rw [w64 O O];simp)) Z<|Jc Z Z Z (qcM D _ _ _ _) ?_
   rintro _ _ s21 h21 ⟨rfl,rfl⟩
   refine Wt 1 [_,_] Y9<|Nt<|Zo<|Zu<|Zc<|Zu<|Zu<|Zc<|Zu<|?_
   refine rR (_::_::_::Mo) L (.agg (us:=[_,_]) 1 Z Z Z Z Z (.nil)) Z (h1.t h2|>.t I3.1|>.t I11.1|>.t h13|>.t h14|>.t h21) fun _ hS2=>?_
   exact ⟨by rw [hE];rfl,rfl⟩
  have hz:=c20
  refine Zk<|Zt<|Sr<|Zqm Z Z<|W0 Y5<|Wl 0 Y6<|qbk [(_,_)] [_] Z Z Z Z Z Z Z Z Z ?_
  intro βn s22 h22 hcb
  refine qba (sz:=1) [_,_,_] Mo L Z Z Z Z Z Z Z hO (Row.of_cells (hcb.le (Lr D)) Z Z) ⟨by simp [ti9];omega,by omega⟩ Z ?_
  intro vq Mq s23 h23 oq
  obtain ⟨Avq,cvq,rfl,_,_⟩:=Own.slice oq
  simp only [cQ9,nQ9]
  refine At Z Z<|Sr<|W0 Y5<|Wl 0 Y6<|qka Z Z Z<|Nt<|?_
  refine qaa Z (fun c24=>?_) (fun c24=>?_)
  ·
   have hmn:x.name=qbY:=c24
   refine Zr<|Zqm Z Z<|Zqa Z Z<|Zn<|Zb<|Zt<|Zr<|qaF Z Z Z (w64 O O)<|Zqm Z Z<|Zn<|?_
   refine qab ⟨(k+1,.slice Avq (ng+k+1) cvq,Mq),[_],(.c3 Z Z Z (.cons (congrArg (fun i=>some (Value.int .i64 i)) (by rw [qhl hx (fun h=>hz (.inl (List.mem_append_right _ h)))];first | rw [if_pos hmn] | rw [if_neg hmn])) kp)),Z,⟨(I11.1.t h13|>.t h14|>.t h22|>.t h23),⟨by simp only;omega,by rw [qaI Fnc.name hx,← List.append_assoc,qc1];exact oq,by simp only;rw [hS2,qed hx,if_neg hz,qaI Fnc.name hx,List.append_assoc];rfl⟩⟩,Oz⟩
  have hmn:¬ x.name=qbY:=c24
  refine Zk<|Zb<|Zt<|Zr<|qaF Z Z Z (w64 O O)<|Zqm Z Z<|Zn<|?_
  refine qab ⟨(k+1,.slice Avq (ng+k+1) cvq,Mq),[_],(.c3 Z Z Z (.cons (congrArg (fun i=>some (Value.int .i64 i)) (by rw [qhl hx (fun h=>hz (.inl (List.mem_append_right _ h)))];first | rw [if_pos hmn] | rw [if_neg hmn])) kp)),Z,⟨(I11.1.t h13|>.t h14|>.t h22|>.t h23),⟨by simp only;omega,by rw [qaI Fnc.name hx,← List.append_assoc,qc1];exact oq,by simp only;rw [hS2,qed hx,if_neg hz,qaI Fnc.name hx,List.append_assoc];rfl⟩⟩,Oz⟩
 rw [List.drop_eq_nil_of_le O,qfb] at hS2
 rw [List.take_of_length_le (show p.funcs.length≤k by omega)]
 refine Zl<|Zv<|Zv<|Zd<|Zt<|Zs<|Sr<|Zqm Z Z<|qbh Z Z Z<|Nt<|?_
 refine qaa Z (fun c25=>?_) (fun c25=>?_)
 ·
  have hE:=nF_m hS hS2 (show qcV p.funcs < 0 from c25)
  refine Sr<|Jc Z Z Z (qcM D _ _ _ _) ?_
  rintro _ _ s26 h26 ⟨rfl,rfl⟩
  refine Wt 0 [_,_] Y9<|Nt<|Zo<|Zu<|?_
  refine rR (_::_::Mo) L (.agg (us:=[_,_]) 0 Z Z Z Z Z (.nil)) Z (h1.t h2|>.t I3.1|>.t I11.1|>.t h26) fun _ hS2=>?_
  exact ⟨by rw [hE];rfl,rfl⟩
 obtain ⟨j,hj⟩:=Int.eq_ofNat_of_zero_le (show 0≤qcV p.funcs by unfold qcV;omega)
 have hjl:=qdv (p:=fun x:Fnc=>decide (x.name=qbY)) (l:=p.funcs) (k:=0)
 have hjl2:j < nf:=by unfold qcV at hj;omega
 obtain ⟨b,off,x,B1,m1,d1,B2,m2,d2,B3,m3,d3,rfl,hx,hcx,hpx,hlx,hbx,hnl⟩:=Fncs.at_ (hFn.le (h1.t h2|>.t I3.1|>.t I11.1)) hjl2
 have hp9:=hpx.1
 have hE:=nF_p hS hS2 hj hx
 rw [show qbb (fun x:Fnc=>decide (x.name=qbY)) p.funcs 0=(j:Int) from hj]
 refine Zk<|Zt<|Zs<|Sr<|Wb Y5<|Wl 1 Y6<|Zqm Z Z<|qac (qap (j:=j) Z Z Z Z Z Z hjl2) Z<|qac (qbs Z Z Z Z) Z<|qac (qaC 1 Z Z Z (hcx.le (Lr D)) Z) Z<|Ws Y4<|qbv Z Z Z<|Nt<|?_
 refine qaa Z (fun c27=>?_) (fun c27=>?_)
 ·
  rw [if_neg (fun h=>by rw [h] at hp9;simp at hp9;omega)] at hE
  refine Sr<|Jc Z Z Z (qcM D _ _ _ _) ?_
  rintro _ _ s28 h28 ⟨rfl,rfl⟩
  refine Wt 0 [_,_] Y9<|Nt<|Zo<|Zu<|?_
  refine rR (_::_::Mo) L (.agg (us:=[_,_]) 0 Z Z Z Z Z (.nil)) Z (h1.t h2|>.t I3.1|>.t I11.1|>.t h28) fun _ hS2=>?_
  exact ⟨by rw [hE];rfl,rfl⟩
 rw [if_pos (List.eq_nil_of_length_eq_zero O)] at hE
 refine Zk<|Zt<|Sr<|qac (qam [] [_,_] Z Z Z Z Z Z) Z<|Wt 0 [_,_] Y9<|Nt<|Zo<|?_
 refine rR (_::_::Mo) L (.agg (us:=[_,_]) 0 Z Z Z Z Z (.nil)) Z (h1.t h2|>.t I3.1|>.t I11.1) fun _ hS2=>?_
 exact ⟨by rw [hE];rfl,rfl⟩
end Go.Proofs.YtpdnijphccdiiaaGreatDoor
namespace Go.FL
open Go Go.RowKit
def MapS{κ:Type}(s:World)(kf:κ→Value)(b:Nat)(es:List (κ×Value×Nat)):Prop:=∃ ck,s.heap[b]?=some (mp kf es ck)
theorem MapS.le{κ:Type}{D:Nat}{s s':World}{kf:κ→Value}{b:Nat}{es:List (κ×Value×Nat)}(h:MapS s kf b es)(hl:Le D s s'):MapS s' kf b es:=by
 obtain ⟨ck,h⟩:=h
 refine ⟨ck,?_⟩
 have hb:b < s.heap.size:=by
  rcases Nat.lt_or_ge b s.heap.size with h1 | h1
  · exact h1
  · rw [Array.getElem?_eq_none h1] at h;cases h
 rcases hl.block b hb with h1 | h1
 · rw [h] at h1;cases h1
 · rw [h1,h]
theorem qjX{P:Program}{TT:qaZ}{D:Nat}{fr:Fr}{ty:Nat}{K:Hl}{s0:World}{κ:Type} [DecidableEq κ] {dk:TypeDesc} {kf:κ→Value} (KK:KeyK κ dk kf) {t b:Nat} {x y:Operand} {z:Value} (hm:qlg P t dk z) {es:List (κ×Value×Nat)} {k:κ} (hx:lk fr x=some (.map (some b))) (hy:lk fr y=some (kf k)) (hi:MapS s0 kf b es) :
  QE P TT D fr (.lookup t x y true) ty K s0 (.tuple #[(qce es k).getD z,.bool (qce es k).isSome]):=fun hT dst pos af g ρ hρ L s ho hl hK=>by
 obtain ⟨ck,hb⟩:=hi.le (hl.trans (qfw ho))
 simp only [execOp,hρ x _ hx,hρ y _ hy,Sem.run_bind,qie KK hm hb,Result.andThen_ok,Sem.run_pure]
 rfl
theorem AC.pubO{P:Program}{D:Nat}{f:FuncId}{args:List Value}{L:Hl}{s:World}{R:Value→Hl→World→Prop}(h:AC P D f args L s (fun v L' s'=>∃ M',L'=M'++L∧R v M' s')) :
  AC P D f args L s (fun v L' s'=>L=L'∧∃ M' s1,R v M' s1∧Le D s1 s'∧∀ b o,(b,o)∈M'→s'.heap[b]?=some o):=by
 refine ⟨h.1,fun ho=>(h.2 ho).mono ?_⟩
 rintro e w' ⟨v,L',s',h1,rfl,h3,h4,M',rfl,h6⟩
 obtain ⟨d1,d2,d3⟩:=qbm h3
 exact ⟨v,L,fill M' s',h1,d1,d2,h4.trans d3,rfl,M',s',h6,d3,fun b o hm=>qa8 h3.left hm⟩
end Go.FL
namespace Go.Proofs.YtpdnijphccdiiaaGreatDoor
open Go.Proofs.Tryz
open Go.FL
attribute [local irreducible] JC JO JA JB qaJ qaw qbM AC fill CellsAt QE Ev Mid
theorem qkn:qlg prog 96 .string (.agg #[.int .i64 0,.int .i64 0]):=⟨_,_,underlying96,underlying9,fun w=>by rw [qey qmv];rfl⟩
def MV(m:Int×Int):Value:=.agg #[.int .i64 m.1,.int .i64 m.2]
def ents(p:Prg):List (Str×(Int×Int)):=(p.globals.mapIdx fun i g=>(g.name,((3:Int),(i:Int))))++(p.funcs.mapIdx fun i x=>(x.name,((4:Int),(i:Int))))
def qaz(p:Prg)(x:Fnc)(nm:Str):(Int×Int)×Bool:=if 0≤qbb (fun y=>decide (nm=y)) x.params 0 then ((1,qbb (fun y=>decide (nm=y)) x.params 0),true) else if 0≤qbb (fun y=>decide (nm=y)) x.locals 0 then ((2,qbb (fun y=>decide (nm=y)) x.locals 0),true)
 else match (ents p).find? fun e=>decide (e.1=nm) with
  | some e=>(e.2,true)
  | none=>((0,0),false)
def NmOK(s:World)(b:Nat)(p:Prg):Prop:=∃ es:List (Str×Value×Nat),MapS s (fun l=>St l) b es∧∀ nm,qce es nm=((ents p).find? fun e=>decide (e.1=nm)).map fun e=>MV e.2
theorem NmOK.le{D:Nat}{s s':World}{b:Nat}{p:Prg}(h:NmOK s b p)(hl:Le D s s'):NmOK s' b p:=by
 obtain ⟨es,h1,h2⟩:=h
 exact ⟨es,h1.le hl,h2⟩
theorem qlU(D:Nat)(L:Hl)(s:World)(p:Prg)(Ag Af:Option Addr)(ng cg nf cf bm:Nat)(hM:NmOK s bm p)(x:Fnc)(A1 A2 A3:Option Addr)(n1 q1 n2 q2 n3 q3:Nat)(hs1:Strs s A1 n1 q1 x.params)(hs2:Strs s A2 n2 q2 x.locals)(nm:List UInt8):AC prog D 60 [.agg #[.slice Ag ng cg,.slice Af nf cf,.map (some bm)],.agg #[St x.name,.slice A1 n1 q1,.slice A2 n2 q2,.slice A3 n3 q3],St nm] L s fun v L' _=>v=.tuple #[.agg #[.int .i64 (qaz p x nm).1.1,.int .i64 (qaz p x nm).1.2],.bool (qaz p x nm).2]∧L=L':=by
 obtain ⟨es,hMs,hes⟩:=hM
 refine qai (fn:=f60) qao func60 V Z ntmps60 Z (rs:=[.cell 6 79,.tmp 7]) Z [(0,_),(1,_),(2,_)] Z<|Sr<|qaq Z Z ?_
 intro β1 s1 h1
 refine qaq Z Z ?_
 intro β2 s2 h2
 refine qaj Z [_,_] Z Z ?_
 intro β3 s3 h3
 refine At Z Z<|Zs<|Sr<|Wb Y5<|Wl 1 Y6<|Zqm Z Z<|Jc Z Z Z (qf0 D _ _ A1 n1 q1 x.params (hs1.le (h1.t h2|>.t h3)) nm) ?_
 rintro _ _ s4 h4 ⟨rfl,rfl⟩
 refine At Z Z<|Sr<|Zqm Z Z<|qfa Z Z Z<|Nt<|?_
 refine qaa Z (fun c5=>?_) (fun c5=>?_)
 ·
  have hE:qaz p x nm=_:=if_pos c5
  refine Sr<|Zqm Z Z<|qac (qam [(_,_),(_,_)] [_,_] Z Z Z Z Z Z) Z<|Wt 0 [_,_] Y9<|At Z Z<|Zo<|Zu<|?_
  refine rR [_,_,_] L (.agg (us:=[_,_]) 0 Z Z Z Z Z (.t1 Z)) Z (h1.t h2|>.t h3|>.t h4) fun _ hS2=>?_
  exact ⟨by rw [hE];rfl,rfl⟩
 have g17:=c5
 refine Zk<|Zt<|Zs<|Sr<|Wb Y5<|Wl 1 Y6<|Zqm Z Z<|Jc Z Z Z (qf0 D _ _ A2 n2 q2 x.locals (hs2.le (h1.t h2|>.t h3|>.t h4)) nm) ?_
 rintro _ _ s6 h6 ⟨rfl,rfl⟩
 refine At Z Z<|Sr<|Zqm Z Z<|qfa Z Z Z<|Nt<|?_
 refine qaa Z (fun c7=>?_) (fun c7=>?_)
 ·
  have hE:qaz p x nm=_:=(if_neg g17).trans (if_pos c7)
  refine Sr<|Zqm Z Z<|qac (qam [(_,_),(_,_)] [_,_] Z Z Z Z Z Z) Z<|Wt 0 [_,_] Y9<|At Z Z<|Zo<|Zu<|?_
  refine rR [_,_,_] L (.agg (us:=[_,_]) 0 Z Z Z Z Z (.t1 Z)) Z (h1.t h2|>.t h3|>.t h4|>.t h6) fun _ hS2=>?_
  exact ⟨by rw [hE];rfl,rfl⟩
 have g25:=c7
 obtain ⟨mm,bb,hmm,hE⟩:∃ (mm:Int×Int) (bb:Bool),(qce es nm).getD (.agg #[.int .i64 0,.int .i64 0])=MV mm∧(qce es nm).isSome=bb∧qaz p x nm=(mm,bb):=by
   rw [hes nm,qaz,if_neg g17,if_neg g25]
   cases (ents p).find? fun e=>decide (e.1=nm) with
   | none=>exact ⟨(0,0),false,rfl,rfl,rfl⟩
   | some e=>exact ⟨e.2,true,rfl,rfl,rfl⟩
 obtain ⟨hbb,hE⟩:=hE
 refine Zk<|Zt<|Sr<|Wb Y5<|Wl 2 Y6<|Zqm Z Z<|qac (qae (qjX KeyK.str qkn Z Z (hMs.le (h1.t h2|>.t h3|>.t h4|>.t h6))) (show Value.tuple #[(qce es nm).getD (.agg #[.int .i64 0,.int .i64 0]),.bool (qce es nm).isSome]=.tuple #[.agg #[.int .i64 mm.1,.int .i64 mm.2],.bool bb] by rw [hmm,hbb];rfl)) Z<|Zqm Z Z<|Zqx Z Z Z<|Zqx Z Z Z<|qaj Z [_,_] Z Z ?_
 intro β8 s8 h8
 refine Wt 0 [_,_] Y9<|At Z Z<|Sr<|qac (qag 0 [_,_] Z Z Z Z Z) Z<|Zqm Z Z<|Wt 1 [_,_] Y9<|At Z Z<|Zo<|?_
 refine rR [_,_,_,_] L (.agg (us:=[_,_]) 1 Z Z Z Z Z (.t1 Z)) Z (h1.t h2|>.t h3|>.t h4|>.t h6|>.t h8) fun _ hS2=>?_
 exact ⟨by rw [hE];rfl,rfl⟩
theorem qhe{l:List (Str×(Int×Int))}{k ck:Nat}{e:Str×(Int×Int)}{es:List (Str×Value×Nat)}(hk:l[k]?=some e)(hnd:(l.map (·.1)).Nodup)(h:∀ nm,qce es nm=((l.take k).find? fun e=>decide (e.1=nm)).map fun e=>MV e.2)(nm:Str):qce (qj9 es e.1 (MV e.2) ck) nm=((l.take (k+1)).find? fun e=>decide (e.1=nm)).map fun e=>MV e.2:=by
  obtain ⟨hl,rfl⟩:=List.getElem?_eq_some_iff.1 hk
  rw [qjQ,List.take_succ_eq_append_getElem hl,List.find?_append,h nm]
  by_cases hn:nm=l[k].1
  · subst hn
    rw [if_pos rfl]
    have h0:(l.take k).find? (fun e=>decide (e.1=l[k].1))=none:=by
      rw [List.find?_eq_none]
      intro y hy hd
      have h2:((l.take k++l.drop k).map (·.1)).Nodup:=by rw [List.take_append_drop];exact hnd
      rw [List.map_append,List.nodup_append] at h2
      exact h2.2.2 _ (List.mem_map.2 ⟨y,hy,rfl⟩) _ (List.mem_map.2 ⟨l[k],by rw [List.drop_eq_getElem_cons hl];exact List.mem_cons_self ..,rfl⟩) (by simpa using hd)
    rw [h0];simp
  · rw [if_neg hn]
    have h1:[l[k]].find? (fun e=>decide (e.1=nm))=none:=by simp [List.find?,Ne.symm hn,show ¬ l[k].1=nm from fun h=>hn h.symm]
    rw [h1,Option.or_none]
theorem qhE{p:Prg}{k:Nat}{x:Glo}(h:p.globals[k]?=some x):(ents p)[k]?=some (x.name,((3:Int),(k:Int))):=by
 obtain ⟨hl,rfl⟩:=List.getElem?_eq_some_iff.1 h
 rw [ents,List.getElem?_append_left (by simpa using hl)];simp [hl]
theorem qeX{p:Prg}{k:Nat}{x:Fnc}(h:p.funcs[k]?=some x):(ents p)[p.globals.length+k]?=some (x.name,((4:Int),(k:Int))):=by
 obtain ⟨hl,rfl⟩:=List.getElem?_eq_some_iff.1 h
 rw [ents,List.getElem?_append_right (by simp)];simp [hl]
theorem qoS(D:Nat)(L:Hl)(s:World)(d:Nat)(p:Prg)(Ag Af:Option Addr)(ng cg nf cf:Nat)(hGl:Glos s Ag ng cg p.globals)(hFn:Fncs d s Af nf cf p.funcs)(hD:((ents p).map (·.1)).Nodup):AC prog D 38 [.agg #[.slice Ag ng cg,.slice Af nf cf]] L s fun v L' _=>∃ M',L'=M'++L∧∃ bm es ck,M'=[(bm,mp (fun l=>St l) es ck)]∧v=.agg #[.slice Ag ng cg,.slice Af nf cf,.map (some bm)]∧∀ nm,qce es nm=((ents p).find? fun e=>decide (e.1=nm)).map fun e=>MV e.2:=by
 have hn1:=hGl.1
 have hn2:=hFn.1
 have hq1:=hGl.2.1
 have hq2:=hGl.2.2.1
 have hq3:=hFn.2.1
 have hq4:=hFn.2.2.1
 refine qai (fn:=f38) qao func38 V Z ntmps38 Z (rs:=[.cell 2 98]) Z [(0,_)] Z<|Sr<|qaq Z Z ?_
 intro β1 s1 h1
 refine qaj Z [_,_,_] Z Z ?_
 intro β2 s2 h2
 refine Nt<|Sr<|qac (qag 1 [_,_] Z Z Z Z Z) Z<|qoH (fun l=>St l) Z ?_
 intro βm s3 h3
 refine qac (qam [(_,_),(_,_)] [_,_,_] Z Z Z Z Z Z) Z<|qaj Z [_,_,_] Z Z ?_
 intro β4 s4 h4
 refine Wt 0 [_,_,_] Y9<|Nt<|Zs<|Sr<|W0 Y5<|Wl 3 Y6<|Ws Y4<|Zqm Z Z<|Nt<|Zp<|?_
 refine qav (γ:=Nat×List (Str×Value×Nat)×Nat) (fun g=>[(1,_),(2,_),(3,_),(12,_),(13,_),(14,.int .i64 (g.1:Int))]) (fun g=>_::(βm,mp (fun l=>St l) g.2.1 g.2.2)::_::_::L) (fun g tw=>Le D s4 tw∧(g.1≤ng∧∀ nm,qce g.2.1 nm=(((ents p).take g.1).find? fun e=>decide (e.1=nm)).map fun e=>MV e.2)) (fun g=>ng - g.1) (fun _ _ _ h hl=>⟨h.1.trans hl,h.2⟩) (0,[],0) (.c6 Z Z Z Z Z Z (.nil _)) Z ⟨Le.refl _,⟨Nat.zero_le _,fun nm=>rfl⟩⟩ ?_
 intro g s5 I5
 obtain ⟨k,es,ck⟩:=g
 obtain ⟨hk0,hS⟩:=I5.2
 simp only at hk0 hS
 dsimp only
 refine Sr<|qbh Z Z Z<|Nt<|Zs<|?_
 refine qaa Z (fun c6=>?_) (fun c6=>?_)
 ·
  have hk:k < ng:=by omega
  obtain ⟨b,off,x,Ai,ni,ci,rfl,hx,hcx,hix,hux,hnl⟩:=Glos.at_ (hGl.le (h1.t h2|>.t h3|>.t h4|>.t I5.1)) hk
  refine Zk<|Zt<|Zs<|Zp<|Sr<|Zqm Z Z<|qac (qap Z Z Z Z Z Z hk) Z<|qac (qau Z Z Z (hcx.le (Lr D)) Z) Z<|qaj Z [_,_,_,_] Z Z ?_
  intro β7 s7 h7
  refine Zqa Z Z<|Wt 0 [_,_,_,_] Y9<|Nt<|Zr<|Wb Y5<|Wl 1 Y6<|Wb Y5<|Wl 0 Y6<|Zqm Z Z<|qac (qam [(_,_),(_,_)] [_,_] Z Z Z Z Z Z) Z<|qkk KeyK.str 2 qkn Z Z Z Z ?_
  intro ck1
  simp only [qdl]
  refine Zn<|Zb<|Zt<|Zr<|qaF Z Z Z (w64 O O)<|Zqm Z Z<|Zn<|?_
  refine qab ⟨(k+1,_,ck1),[_],kp,Z,⟨(I5.1.t h7),⟨by simp only;omega,qhe (qhE hx) hD hS⟩⟩,Oz⟩
 obtain rfl:p.globals.length=k:=by omega
 refine Zl<|Zv<|Zv<|Zd<|Zt<|Zs<|Sr<|Wb Y5<|Wl 3 Y6<|Ws Y4<|Zqm Z Z<|Nt<|Zp<|?_
 refine qav (γ:=Nat×List (Str×Value×Nat)×Nat) (fun g=>[(2,_),(3,_),(27,_),(28,_),(29,.int .i64 (g.1:Int))]) (fun g=>_::(βm,mp (fun l=>St l) g.2.1 g.2.2)::_::_::L) (fun g tw=>Le D s5 tw∧(g.1≤nf∧∀ nm,qce g.2.1 nm=(((ents p).take (p.globals.length+g.1)).find? fun e=>decide (e.1=nm)).map fun e=>MV e.2)) (fun g=>nf - g.1) (fun _ _ _ h hl=>⟨h.1.trans hl,h.2⟩) (0,es,ck) (.c5 Z Z Z Z Z (.nil _)) Z ⟨Le.refl _,⟨Nat.zero_le _,hS⟩⟩ ?_
 intro g s9 I9
 obtain ⟨k,es,ck⟩:=g
 obtain ⟨hk0,hSq⟩:=I9.2
 simp only at hk0 hSq
 dsimp only
 refine Sr<|qbh Z Z Z<|Nt<|Zs<|?_
 refine qaa Z (fun c10=>?_) (fun c10=>?_)
 ·
  have hk:k < nf:=by omega
  obtain ⟨b,off,x,B1,m1,d1,B2,m2,d2,B3,m3,d3,rfl,hx,hcx,hpx,hlx,hbx,hnl⟩:=Fncs.at_ (hFn.le (h1.t h2|>.t h3|>.t h4|>.t I5.1|>.t I9.1)) hk
  refine Zk<|Zt<|Zs<|Zp<|Sr<|Zqm Z Z<|qac (qap Z Z Z Z Z Z hk) Z<|qac (qau Z Z Z (hcx.le (Lr D)) Z) Z<|qaj Z [_,_,_,_] Z Z ?_
  intro β11 s11 h11
  refine Zqa Z Z<|Wt 0 [_,_,_,_] Y9<|Nt<|Zr<|Wb Y5<|Wl 1 Y6<|W0 Y5<|Wl 0 Y6<|Zqm Z Z<|qac (qam [(_,_),(_,_)] [_,_] Z Z Z Z Z Z) Z<|qkk KeyK.str 2 qkn Z Z Z Z ?_
  intro ck1
  simp only [qdl]
  refine Zn<|Zb<|Zt<|Zr<|qaF Z Z Z (w64 O O)<|Zqm Z Z<|Zn<|?_
  refine qab ⟨(k+1,_,ck1),[_],kp,Z,⟨(I9.1.t h11),⟨by simp only;omega,qhe (qeX hx) hD hSq⟩⟩,Oz⟩
 rw [List.take_of_length_le (show (ents p).length≤p.globals.length+k by rw [ents,List.length_append,List.length_mapIdx,List.length_mapIdx];omega)] at hSq
 refine Zl<|Zv<|Zv<|Zd<|Zt<|Zs<|qgL 2<|qgL 3<|Zr<|qac (qag 2 [_,_,_] Z Z Z Z Z) Z<|Wt 1 [_,_,_] Y9<|Nt<|Zo<|?_
 refine rR [_,_,_] _ (.agg (us:=[_,_,_]) 1 Z Z Z Z Z (.nil)) Z (h1.t h2|>.t h3|>.t h4|>.t I5.1|>.t I9.1) fun _ hS2=>?_
 exact ⟨[_],rfl,_,es,ck,rfl,rfl,hSq⟩
theorem qqe(D:Nat)(L:Hl)(s:World)(d:Nat)(p:Prg)(Ag Af:Option Addr)(ng cg nf cf:Nat)(hGl:Glos s Ag ng cg p.globals)(hFn:Fncs d s Af nf cf p.funcs)(hD:((ents p).map (·.1)).Nodup):AC prog D 38 [.agg #[.slice Ag ng cg,.slice Af nf cf]] L s fun v L' s'=>L=L'∧∃ bm,v=.agg #[.slice Ag ng cg,.slice Af nf cf,.map (some bm)]∧NmOK s' bm p:=by
 refine (AC.pubO (qoS D L s d p Ag Af ng cg nf cf hGl hFn hD)).mono ?_
 rintro v L1 s1 _ ⟨h1,M1,s2,⟨bm,es,ck,rfl,h3,h4⟩,_,h5⟩
 exact ⟨h1,bm,h3,es,⟨ck,h5 _ _ Mc⟩,h4⟩
def qh3(p:Prg)(i:Int):Int:=match p.globals[i.toNat]? with
 | some g=>g.kind
 | none=>0
theorem qeL{p:Prg}{k:Nat}{x:Glo}(h:p.globals[k]?=some x):qh3 p (k:Int)=x.kind:=by rw [qh3,Int.toNat_natCast,h]
abbrev qcb(gk uk mk:Int):Prop:=((mk=1∨mk=2)∧(uk=1∨uk=2))∨(mk=4∧uk=4)∨((¬ (mk=1∨mk=2)∧mk≠4)∧((gk=1∧uk=2)∨(gk=2∧(uk=1∨uk=2))∨(gk≠1∧gk≠2∧uk=3)))
theorem qkm(D:Nat)(L:Hl)(s:World)(p:Prg)(Ag Af:Option Addr)(ng cg nf cf bm:Nat)(hGl:Glos s Ag ng cg p.globals)(u:Use)(mk mi:Int)(hm:¬ (mk=1∨mk=2)→mk≠4→∃ k:Nat,mi=(k:Int)∧k < ng):AC Tryz.prog D 82 [.agg #[.slice Ag ng cg,.slice Af nf cf,.map (some bm)],.agg #[St (u).1,.int .i64 (u).2.1,.int .i64 (u).2.2],.agg #[.int .i64 mk,.int .i64 mi]] L s fun v L' _=>v=.bool (decide (qcb (qh3 p mi) u.2.1 mk))∧L=L':=by
 refine qai (fn:=Tryz.f82) qao Tryz.func82 V Z Tryz.ntmps82 Z (rs:=[.tmp 6]) Z [(0,_),(1,_),(2,_)] Z<|Sr<|qaq Z Z ?_
 intro β1 s1 h1
 refine qaq Z Z ?_
 intro β2 s2 h2
 refine qaq Z Z ?_
 intro β3 s3 h3
 refine At Z Z<|Zs<|Sr<|W0 Y5<|Wl 0 Y6<|Nt<|Zp<|Zs<|Sr<|qar Z Z Z<|At Z Z<|?_
 refine qaa Z (fun c4=>?_) (fun c4=>?_)
 ·
  refine Zk<|Zt<|?_
  refine qaa Z (fun c5=>?_) (fun c5=>?_)
  ·
   refine Sr<|Wb Y5<|Wl 1 Y6<|qar Z Z Z<|Zqm Z Z<|?_
   refine qak (t:=15) Z (fun c6=>?_) (fun c6=>?_)
   ·
    refine Wf Y4<|Wf Y4<|Wf Y4<|ZqT Z Z Z<|At Z Z<|Zo<|Zc<|Zu<|?_
    refine rR [_,_,_] L (.t1 Z) Z (h1.t h2|>.t h3) fun _ hS2=>?_
    refine ⟨?_,Z⟩
    simp only [qat,qcb]
    clear hm
    try rw [hgk]
    exact congrArg Value.bool (decide_eq_true O).symm
   refine Zg Z Z<|Wb Y5<|Zg Z Z<|Wl 1 Y6<|Zg Z Z<|qar Z Z Z<|ZqF Z Z Z<|At Z Z<|Zo<|Zc<|Zu ?_
   refine rR [_,_,_] L (.t1 Z) Z (h1.t h2|>.t h3) fun _ hS2=>?_
   refine ⟨?_,Z⟩
   simp only [qat,qcb]
   clear hm
   try rw [hgk]
   exact congrArg Value.bool (decide_eq_decide.2 O)
  refine Sr<|qar Z Z Z<|At Z Z<|?_
  refine qaa Z (fun c7=>?_) (fun c7=>?_)
  ·
   refine Sr<|Wb Y5<|Wl 1 Y6<|qar Z Z Z<|At Z Z<|Zo<|Zc<|Zu<|?_
   refine rR [_,_,_] L (.t1 Z) Z (h1.t h2|>.t h3) fun _ hS2=>?_
   refine ⟨?_,Z⟩
   simp only [qat,qcb]
   clear hm
   try rw [hgk]
   exact congrArg Value.bool (decide_eq_decide.2 O)
  obtain ⟨k,rfl,hk⟩:=hm O O
  obtain ⟨b,off,x,Ai,ni,ci,rfl,hx,hcx,hix,hux,hnl⟩:=Glos.at_ (hGl.le (h1.t h2|>.t h3)) hk
  have hgk:=qeL hx
  refine Zk<|Zb<|Zt<|Zs<|Sr<|W0 Y5<|W0 Y5<|Wl 2 Y6<|Wb Y5<|Wl 0 Y6<|qac (qap Z Z Z Z Z Z hk) Z<|W0 Y5<|qac (qah Z Z Z (hcx.le (Lr D)) Z) Z<|Nt<|Zp<|Sr<|qar Z Z Z<|At Z Z<|?_
  refine qaa Z (fun c8=>?_) (fun c8=>?_)
  ·
   refine Sr<|Wb Y5<|Wl 1 Y6<|qar Z Z Z<|At Z Z<|Zo<|Zc<|Zu<|?_
   refine rR [_,_,_] L (.t1 Z) Z (h1.t h2|>.t h3) fun _ hS2=>?_
   refine ⟨?_,Z⟩
   simp only [qat,qcb]
   clear hm
   try rw [hgk]
   exact congrArg Value.bool (decide_eq_decide.2 O)
  refine Sr<|qar Z Z Z<|At Z Z<|?_
  refine qaa Z (fun c9=>?_) (fun c9=>?_)
  ·
   refine Sr<|Wb Y5<|Wl 1 Y6<|qar Z Z Z<|Zqm Z Z<|?_
   refine qak (t:=43) Z (fun c10=>?_) (fun c10=>?_)
   ·
    refine Wf Y4<|Wf Y4<|Wf Y4<|ZqT Z Z Z<|At Z Z<|Zo<|Zc<|Zu<|?_
    refine rR [_,_,_] L (.t1 Z) Z (h1.t h2|>.t h3) fun _ hS2=>?_
    refine ⟨?_,Z⟩
    simp only [qat,qcb]
    clear hm
    try rw [hgk]
    exact congrArg Value.bool (decide_eq_true O).symm
   refine Zg Z Z<|Wb Y5<|Zg Z Z<|Wl 1 Y6<|Zg Z Z<|qar Z Z Z<|ZqF Z Z Z<|At Z Z<|Zo<|Zc<|Zu ?_
   refine rR [_,_,_] L (.t1 Z) Z (h1.t h2|>.t h3) fun _ hS2=>?_
   refine ⟨?_,Z⟩
   simp only [qat,qcb]
   clear hm
   try rw [hgk]
   exact congrArg Value.bool (decide_eq_decide.2 O)
  refine Zk<|Zb<|Zt<|Sr<|Wb Y5<|Wl 1 Y6<|qar Z Z Z<|At Z Z<|Zo<|?_
  refine rR [_,_,_] L (.t1 Z) Z (h1.t h2|>.t h3) fun _ hS2=>?_
  refine ⟨?_,Z⟩
  simp only [qat,qcb]
  clear hm
  try rw [hgk]
  exact congrArg Value.bool (decide_eq_decide.2 O)
 refine Zr<|qar Z Z Z<|At Z Z<|?_
 refine qaa Z (fun c11=>?_) (fun c11=>?_)
 ·
  refine Sr<|Wb Y5<|Wl 1 Y6<|qar Z Z Z<|Zqm Z Z<|?_
  refine qak (t:=15) Z (fun c12=>?_) (fun c12=>?_)
  ·
   refine Wf Y4<|Wf Y4<|Wf Y4<|ZqT Z Z Z<|At Z Z<|Zo<|Zc<|Zu<|?_
   refine rR [_,_,_] L (.t1 Z) Z (h1.t h2|>.t h3) fun _ hS2=>?_
   refine ⟨?_,Z⟩
   simp only [qat,qcb]
   clear hm
   try rw [hgk]
   exact congrArg Value.bool (decide_eq_true O).symm
  refine Zg Z Z<|Wb Y5<|Zg Z Z<|Wl 1 Y6<|Zg Z Z<|qar Z Z Z<|ZqF Z Z Z<|At Z Z<|Zo<|Zc<|Zu ?_
  refine rR [_,_,_] L (.t1 Z) Z (h1.t h2|>.t h3) fun _ hS2=>?_
  refine ⟨?_,Z⟩
  simp only [qat,qcb]
  clear hm
  try rw [hgk]
  exact congrArg Value.bool (decide_eq_decide.2 O)
 refine Sr<|qar Z Z Z<|At Z Z<|?_
 refine qaa Z (fun c13=>?_) (fun c13=>?_)
 ·
  refine Sr<|Wb Y5<|Wl 1 Y6<|qar Z Z Z<|At Z Z<|Zo<|Zc<|Zu<|?_
  refine rR [_,_,_] L (.t1 Z) Z (h1.t h2|>.t h3) fun _ hS2=>?_
  refine ⟨?_,Z⟩
  simp only [qat,qcb]
  clear hm
  try rw [hgk]
  exact congrArg Value.bool (decide_eq_decide.2 O)
 obtain ⟨k,rfl,hk⟩:=hm O O
 obtain ⟨b,off,x,Ai,ni,ci,rfl,hx,hcx,hix,hux,hnl⟩:=Glos.at_ (hGl.le (h1.t h2|>.t h3)) hk
 have hgk:=qeL hx
 refine Zk<|Zb<|Zt<|Zs<|Sr<|W0 Y5<|W0 Y5<|Wl 2 Y6<|Wb Y5<|Wl 0 Y6<|qac (qap Z Z Z Z Z Z hk) Z<|W0 Y5<|qac (qah Z Z Z (hcx.le (Lr D)) Z) Z<|Nt<|Zp<|Sr<|qar Z Z Z<|At Z Z<|?_
 refine qaa Z (fun c14=>?_) (fun c14=>?_)
 ·
  refine Sr<|Wb Y5<|Wl 1 Y6<|qar Z Z Z<|At Z Z<|Zo<|Zc<|Zu<|?_
  refine rR [_,_,_] L (.t1 Z) Z (h1.t h2|>.t h3) fun _ hS2=>?_
  refine ⟨?_,Z⟩
  simp only [qat,qcb]
  clear hm
  try rw [hgk]
  exact congrArg Value.bool (decide_eq_decide.2 O)
 refine Sr<|qar Z Z Z<|At Z Z<|?_
 refine qaa Z (fun c15=>?_) (fun c15=>?_)
 ·
  refine Sr<|Wb Y5<|Wl 1 Y6<|qar Z Z Z<|Zqm Z Z<|?_
  refine qak (t:=43) Z (fun c16=>?_) (fun c16=>?_)
  ·
   refine Wf Y4<|Wf Y4<|Wf Y4<|ZqT Z Z Z<|At Z Z<|Zo<|Zc<|Zu<|?_
   refine rR [_,_,_] L (.t1 Z) Z (h1.t h2|>.t h3) fun _ hS2=>?_
   refine ⟨?_,Z⟩
   simp only [qat,qcb]
   clear hm
   try rw [hgk]
   exact congrArg Value.bool (decide_eq_true O).symm
  refine Zg Z Z<|Wb Y5<|Zg Z Z<|Wl 1 Y6<|Zg Z Z<|qar Z Z Z<|ZqF Z Z Z<|At Z Z<|Zo<|Zc<|Zu ?_
  refine rR [_,_,_] L (.t1 Z) Z (h1.t h2|>.t h3) fun _ hS2=>?_
  refine ⟨?_,Z⟩
  simp only [qat,qcb]
  clear hm
  try rw [hgk]
  exact congrArg Value.bool (decide_eq_decide.2 O)
 refine Zk<|Zb<|Zt<|Sr<|Wb Y5<|Wl 1 Y6<|qar Z Z Z<|At Z Z<|Zo<|?_
 refine rR [_,_,_] L (.t1 Z) Z (h1.t h2|>.t h3) fun _ hS2=>?_
 refine ⟨?_,Z⟩
 simp only [qat,qcb]
 clear hm
 try rw [hgk]
 exact congrArg Value.bool (decide_eq_decide.2 O)
theorem qdh{p:Prg}{x:Fnc}{nm:Str}(h:(qaz p x nm).2=true):((qaz p x nm).1.1=1∨(qaz p x nm).1.1=2)∨((qaz p x nm).1.1=3∧∃ k:Nat,(qaz p x nm).1.2=(k:Int)∧k < p.globals.length)∨((qaz p x nm).1.1=4∧∃ k:Nat,(qaz p x nm).1.2=(k:Int)∧k < p.funcs.length):=by
  unfold qaz at h ⊢
  split
  · exact .inl (.inl rfl)
  split
  · exact .inl (.inr rfl)
  rename_i h1 h2
  rw [if_neg h1,if_neg h2] at h
  cases hf:(ents p).find? fun e=>decide (e.1=nm) with
  | none=>rw [hf] at h;cases h
  | some e=>
    have hm:=List.mem_of_find?_eq_some hf
    rw [ents,List.mem_append] at hm
    rcases hm with hm | hm
    · obtain ⟨i,hi⟩:=List.getElem?_of_mem hm
      rw [List.getElem?_mapIdx] at hi
      cases hg:p.globals[i]? with
      | none=>rw [hg] at hi;cases hi
      | some g=>rw [hg] at hi;simp at hi;subst hi;exact .inr (.inl ⟨rfl,i,rfl,(List.getElem?_eq_some_iff.1 hg).1⟩)
    · obtain ⟨i,hi⟩:=List.getElem?_of_mem hm
      rw [List.getElem?_mapIdx] at hi
      cases hg:p.funcs[i]? with
      | none=>rw [hg] at hi;cases hi
      | some g=>rw [hg] at hi;simp at hi;subst hi;exact .inr (.inr ⟨rfl,i,rfl,(List.getElem?_eq_some_iff.1 hg).1⟩)
def qsw(p:Prg)(i:Int):Nat:=match p.funcs[i.toNat]? with
 | some x=>x.params.length
 | none=>0
theorem qfR{p:Prg}{k:Nat}{x:Fnc}{i:Int}(hi:i=(k:Int))(h:p.funcs[k]?=some x):qsw p i=x.params.length:=by rw [hi,qsw,Int.toNat_natCast,h]
def qeg(p:Prg)(x:Fnc)(u:Use):Int:=if u.2.1=0 then 0 else if (qaz p x u.1).2=false then 12 else if ¬ qcb (qh3 p (qaz p x u.1).1.2) u.2.1 (qaz p x u.1).1.1 then 13 else if u.2.1=4∧u.2.2≠(qsw p (qaz p x u.1).1.2:Int) then 9 else 0
def ndC(p:Prg)(x:Fnc):Nd→Int
 | .st y lp=>if (y.kind=9∨y.kind=10)∧lp=0 then 24 else qeg p x (qdd y)
 | .ex y _=>qeg p x (qdk y)
theorem qqE(D:Nat)(L:Hl)(s:World)(d:Nat)(p:Prg)(Ag Af:Option Addr)(ng cg nf cf:Nat)(hGl:Glos s Ag ng cg p.globals)(hFn:Fncs d s Af nf cf p.funcs)(bm:Nat)(hM:NmOK s bm p)(x:Fnc)(A1 A2 A3:Option Addr)(n1 q1 n2 q2 n3 q3:Nat)(hs1:Strs s A1 n1 q1 x.params)(hs2:Strs s A2 n2 q2 x.locals)(y:Stm)(b o:Nat)(C1 C2 C3:Option Addr)(r1 e1 r2 e2 r3 e3:Nat)(hy:CellsAt s b o [.int .i64 y.kind,St y.name,.slice C1 r1 e1,.slice C2 r2 e2,.slice C3 r3 e3])(hr:r1=y.exprs.length)(lp:Nat):AC prog D 46 [.agg #[.slice Ag ng cg,.slice Af nf cf,.map (some bm)],.agg #[St x.name,.slice A1 n1 q1,.slice A2 n2 q2,.slice A3 n3 q3],.agg #[.pointer (some ⟨b,o,none⟩),.pointer none,.int .i64 (lp:Int)]] L s fun v L' _=>v=.int .i64 (ndC p x (.st y lp))∧L=L':=by
 have hn1:=hGl.1
 have hn2:=hFn.1
 refine qai (fn:=f46) qao func46 V Z ntmps46 Z (rs:=[.tmp 6]) Z [(0,_),(1,_),(2,_)] Z<|Sr<|qaq Z Z ?_
 intro β1 s1 h1
 refine qaq Z Z ?_
 intro β2 s2 h2
 refine qaq Z Z ?_
 intro β3 s3 h3
 refine At Z Z<|Zs<|Sr<|W0 Y5<|Wl 0 Y6<|At Z Z<|?_
 refine qaU 33 ((y.kind=9∨y.kind=10)∧lp=0) ?_ ?_
 ·
  refine Zr<|Zqm Z Z<|qac (qae (v':=.bool true) (qjp underlying108 Z) Z) Z<|Zqm Z Z<|Zg Z Z<|Zqm Z Z<|Zg Z Z<|qcd Z Z<|Zg Z Z<|W0 Y5<|Zg Z Z<|qac (qah Z Z Z (hy.le (h1.t h2|>.t h3)) Z) Z<|Zg Z Z<|qar Z Z Z<|Zg Z Z<|Zqm Z Z<|?_
  refine qak (t:=21) Z (fun c5=>?_) (fun c5=>?_)
  ·
   refine Wf Y4<|Wf Y4<|Wf Y4<|Wf Y4<|Wf Y4<|Zg Z Z<|ZqT Z Z Z<|ZqT Z Z Z<|Zqm Z Z<|Zg Z Z<|Wb Y5<|Zg Z Z<|Wl 0 Y6<|Zg Z Z<|qar Z Z Z<|ZqT Z Z Z<|Zn<|?_
   refine qab (MidB.mk (Lr D) Sb Z (decide_eq_decide.2 O))
  refine Zg Z Z<|Zqm Z Z<|Zg Z Z<|qcd Z Z<|Zg Z Z<|W0 Y5<|Zg Z Z<|qac (qah Z Z Z (hy.le (h1.t h2|>.t h3)) Z) Z<|Zg Z Z<|qar Z Z Z<|Zg Z Z<|ZqF Z Z Z<|ZqT Z Z Z<|Zqm Z Z<|?_
  refine qak (t:=29) Z (fun c6=>?_) (fun c6=>?_)
  ·
   refine Zg Z Z<|Wb Y5<|Zg Z Z<|Wl 0 Y6<|Zg Z Z<|qar Z Z Z<|ZqT Z Z Z<|Zn<|?_
   refine qab (MidB.mk (Lr D) Sb Z (decide_eq_decide.2 O))
  refine Wf Y4<|Wf Y4<|Wf Y4<|ZqF Z Z Z<|Zn<|?_
  refine qab (MidB.mk (Lr D) Sb Z ((decide_eq_false O).symm))
 intro s4 h4
 refine qaa Z (fun c7=>?_) (fun c7=>?_)
 ·
  have g33:=c7
  refine Sr<|At Z Z<|Zo<|Zu<|?_
  refine rR [_,_,_] L (.t1 Z) Z (h1.t h2|>.t h3|>.t h4) fun _ hS2=>?_
  exact ⟨by rw [ndC,if_pos g33];rfl,rfl⟩
 have g33:=c7
 refine Zk<|Zt<|Sr<|qac (qag 0 [_,_,_] Z Z Z Z Z) Z<|Jc Z Z Z (qvL D _ _ y b o C1 C2 C3 r1 e1 r2 e2 r3 e3 (hy.le (h1.t h2|>.t h3|>.t h4)) hr _) ?_
 rintro _ _ s8 h8 ⟨rfl,rfl⟩
 refine qaj Z [_,_,_] Z Z ?_
 intro β9 s9 h9
 refine Wt 0 [_,_,_] Y9<|Nt<|Zs<|Sr<|Wb Y5<|Wl 0 Y6<|qar Z Z Z<|Nt<|?_
 refine qaa Z (fun c10=>?_) (fun c10=>?_)
 ·
  have hE:qeg p x (qdd y)=0:=if_pos c10
  refine Sr<|At Z Z<|Zo<|Zu<|?_
  refine rR [_,_,_,_] L (.t1 Z) Z (h1.t h2|>.t h3|>.t h4|>.t h8|>.t h9) fun _ hS2=>?_
  exact ⟨by rw [ndC,if_neg g33,hE];rfl,rfl⟩
 have g38:¬ (qdd y).2.1=0:=c10
 refine Zk<|Zt<|Sr<|qac (qag 3 [_,_,_] Z Z Z Z Z) Z<|qac (qag 2 [_,_,_,_] Z Z Z Z Z) Z<|W0 Y5<|Wl 0 Y6<|Jc Z Z Z (qlU D _ _ p Ag Af ng cg nf cf bm (hM.le (h1.t h2|>.t h3|>.t h4|>.t h8|>.t h9)) x A1 A2 A3 n1 q1 n2 q2 n3 q3 (hs1.le (h1.t h2|>.t h3|>.t h4|>.t h8|>.t h9)) (hs2.le (h1.t h2|>.t h3|>.t h4|>.t h8|>.t h9)) _) ?_
 rintro _ _ s11 h11 ⟨rfl,rfl⟩
 refine Zqm Z Z<|Zqx Z Z Z<|Zqx Z Z Z<|qaj Z [_,_] Z Z ?_
 intro β12 s12 h12
 refine Wt 0 [_,_] Y9<|At Z Z<|Zs<|Zp<|Sr<|Zqm Z Z<|qbV Z Z<|At Z Z<|?_
 refine qcH Z (fun c13=>?_) (fun c13=>?_)
 ·
  have hE:qeg p x (qdd y)=12:=(if_neg g38).trans (if_pos c13)
  refine Sr<|At Z Z<|Zo<|Zc<|Zu<|?_
  refine rR [_,_,_,_,_] L (.t1 Z) Z (h1.t h2|>.t h3|>.t h4|>.t h8|>.t h9|>.t h11|>.t h12) fun _ hS2=>?_
  exact ⟨by rw [ndC,if_neg g33,hE];rfl,rfl⟩
 have g47:¬ (qaz p x (qdd y).1).2=false:=by rw [c13];decide
 have hmk:=qdh c13
 refine Sr<|qac (qag 4 [_,_,_] Z Z Z Z Z) Z<|qac (qag 1 [_,_,_] Z Z Z Z Z) Z<|qac (qag 0 [_,_] Z Z Z Z Z) Z<|Jc Z Z Z (qkm D _ _ p Ag Af ng cg nf cf bm (hGl.le (h1.t h2|>.t h3|>.t h4|>.t h8|>.t h9|>.t h11|>.t h12)) (qdd y) (qaz p x (qdd y).1).1.1 (qaz p x (qdd y).1).1.2 (fun h1 h2=>hmk.elim (fun h=>absurd h h1) (fun h=>h.elim (fun h=>by obtain ⟨k,e1,e2⟩:=h.2;exact ⟨k,e1,by omega⟩) (fun h=>absurd h.1 h2)))) ?_
 rintro _ _ s14 h14 ⟨rfl,rfl⟩
 refine qbV Z Z<|At Z Z<|?_
 refine qaP Z (fun c15=>?_) (fun c15=>?_)
 ·
  have hE:qeg p x (qdd y)=13:=(if_neg g38).trans ((if_neg g47).trans (if_pos c15))
  refine Sr<|At Z Z<|Zo<|Zc<|Zu<|?_
  refine rR [_,_,_,_,_] L (.t1 Z) Z (h1.t h2|>.t h3|>.t h4|>.t h8|>.t h9|>.t h11|>.t h12|>.t h14) fun _ hS2=>?_
  exact ⟨by rw [ndC,if_neg g33,hE];rfl,rfl⟩
 have g50:¬ ¬ qcb (qh3 p (qaz p x (qdd y).1).1.2) (qdd y).2.1 (qaz p x (qdd y).1).1.1:=fun h=>h c15
 have g51:=c15
 refine Zs ?_
 rcases Classical.em ((qdd y).2.1=4) with g4 | g4
 ·
  obtain ⟨hk4,j,hj,hjn⟩:=hmk.elim (fun h=>absurd g51 (fun k=>by omega)) (fun h=>h.elim (fun h=>absurd g51 (fun k=>by omega)) id)
  obtain ⟨b,off,z,B1,m1,d1,B2,m2,d2,B3,m3,d3,rfl,hz,hcz,hpz,hlz,hbz,hzl⟩:=Fncs.at_ (hFn.le (h1.t h2|>.t h3|>.t h4|>.t h8|>.t h9|>.t h11|>.t h12|>.t h14)) (show j < nf by omega)
  have hm9:=hpz.1
  have hpar:=qfR hj hz
  refine qay qad 18 Z _ (fun _ h=>h) ?_
  intro s16 h16
  refine za 0 Z (We Y4) Z<|za 1 Z (Wd 1 Y5) Z<|za 2 Z (qae (v':=.bool true) (qa9 Z Z) (bT g4)) Z<|za 3 Z (qan Z) Z<|zg 4 Z ⟨_,Z,Z⟩ (We Y4) Z<|zg 5 Z ⟨_,Z,Z⟩ (Wd 1 Y5) Z<|zg 6 Z ⟨_,Z,Z⟩ (qbp Z Z Z Z) Z<|zg 7 Z ⟨_,Z,Z⟩ (We Y4) Z<|zg 8 Z ⟨_,Z,Z⟩ (Wd 4 Y5) Z<|zg 9 Z ⟨_,Z,Z⟩ (We Y4) Z<|zg 10 Z ⟨_,Z,Z⟩ (Wd 0 Y5) Z<|zg 11 Z ⟨_,Z,Z⟩ (qap (j:=j) Z (show lk _ _=some (.int .i64 (j:Int)) from by rw [← hj];rfl) Z Z Z Z (show j < nf by omega)) Z ?_
  refine zg 12 Z ⟨_,Z,Z⟩ (qbs Z Z Z Z) Z<|zg 13 Z ⟨_,Z,Z⟩ (qaC 1 Z Z Z (hcz.le h16) Z) Z<|zg 14 Z ⟨_,Z,Z⟩ (qbR Z Z Z) Z<|zg 15 Z ⟨_,Z,Z⟩ (qec Z Z) Z<|za 16 Z (qep Z Z) Z<|za 17 Z (qaM Z) Z<|qal V<|Zt ?_
  refine qaP Z (fun c17=>?_) (fun c17=>?_)
  ·
   have hE:qeg p x (qdd y)=9:=(if_neg g38).trans ((if_neg g47).trans ((if_neg g50).trans (if_pos ⟨g4,by rw [hpar];have:=c17;omega⟩)))
   refine Sr<|At Z Z<|Zo<|Zc<|Zu<|?_
   refine rR [_,_,_,_,_] L (.t1 Z) Z (h1.t h2|>.t h3|>.t h4|>.t h8|>.t h9|>.t h11|>.t h12|>.t h14|>.t h16) fun _ hS2=>?_
   exact ⟨by rw [ndC,if_neg g33,hE];rfl,rfl⟩
  have hE:qeg p x (qdd y)=0:=(if_neg g38).trans ((if_neg g47).trans ((if_neg g50).trans (if_neg (fun h=>h.2 (by rw [hpar];have:=c17;omega)))))
  refine Zk<|Zb<|Zt<|Sr<|At Z Z<|Zo<|?_
  refine rR [_,_,_,_,_] L (.t1 Z) Z (h1.t h2|>.t h3|>.t h4|>.t h8|>.t h9|>.t h11|>.t h12|>.t h14|>.t h16) fun _ hS2=>?_
  exact ⟨by rw [ndC,if_neg g33,hE];rfl,rfl⟩
 refine qay qad 18 Z _ (fun _ h=>h) ?_
 intro s18 h18
 refine za 0 Z (We Y4) Z<|za 1 Z (Wd 1 Y5) Z<|za 2 Z (qae (v':=.bool false) (qa9 Z Z) (bZ g4)) Z<|za 3 Z (qan Z) Z<|zn 4 Z Z Z Z Z<|zn 5 Z Z Z Z Z<|zn 6 Z Z Z Z Z<|zn 7 Z Z Z Z Z<|zn 8 Z Z Z Z Z<|zn 9 Z Z Z Z Z<|zn 10 Z Z Z Z Z<|zn 11 Z Z Z Z Z<|zn 12 Z Z Z Z Z<|zn 13 Z Z Z Z Z<|zn 14 Z Z Z Z Z<|zn 15 Z Z Z Z Z<|za 16 Z (qeo Z Z) Z<|za 17 Z (qaM Z) Z<|qal V<|Zt<|Zz Z<|?_
 have hE:qeg p x (qdd y)=0:=(if_neg g38).trans ((if_neg g47).trans ((if_neg g50).trans (if_neg (fun h=>g4 h.1))))
 refine Zk<|Zb<|Zt<|Sr<|At Z Z<|Zo<|?_
 refine rR [_,_,_,_,_] L (.t1 Z) Z (h1.t h2|>.t h3|>.t h4|>.t h8|>.t h9|>.t h11|>.t h12|>.t h14|>.t h18) fun _ hS2=>?_
 exact ⟨by rw [ndC,if_neg g33,hE];rfl,rfl⟩
theorem qq9(D:Nat)(L:Hl)(s:World)(d:Nat)(p:Prg)(Ag Af:Option Addr)(ng cg nf cf:Nat)(hGl:Glos s Ag ng cg p.globals)(hFn:Fncs d s Af nf cf p.funcs)(bm:Nat)(hM:NmOK s bm p)(x:Fnc)(A1 A2 A3:Option Addr)(n1 q1 n2 q2 n3 q3:Nat)(hs1:Strs s A1 n1 q1 x.params)(hs2:Strs s A2 n2 q2 x.locals)(y:Ex)(b o:Nat)(A:Option Addr)(n c:Nat)(hy:CellsAt s b o [.int .i64 y.kind,.int .i64 y.op,.int .u32 y.num,St y.name,.slice A n c])(hr:n=y.args.length)(lp:Nat):AC prog D 46 [.agg #[.slice Ag ng cg,.slice Af nf cf,.map (some bm)],.agg #[St x.name,.slice A1 n1 q1,.slice A2 n2 q2,.slice A3 n3 q3],.agg #[.pointer none,.pointer (some ⟨b,o,none⟩),.int .i64 (lp:Int)]] L s fun v L' _=>v=.int .i64 (ndC p x (.ex y lp))∧L=L':=by
 have hn1:=hGl.1
 have hn2:=hFn.1
 refine qai (fn:=f46) qao func46 V Z ntmps46 Z (rs:=[.tmp 6]) Z [(0,_),(1,_),(2,_)] Z<|Sr<|qaq Z Z ?_
 intro β1 s1 h1
 refine qaq Z Z ?_
 intro β2 s2 h2
 refine qaq Z Z ?_
 intro β3 s3 h3
 refine At Z Z<|Zs<|Sr<|W0 Y5<|Wl 0 Y6<|At Z Z<|Sr<|Zqm Z Z<|qac (qae (v':=.bool false) (qjp underlying108 Z) Z) Z<|Zqm Z Z<|Wf Y4<|Wf Y4<|Wf Y4<|Wf Y4<|Wf Y4<|Wf Y4<|Zh Z Z Z<|Zh Z Z Z<|Zh Z Z Z<|Zh Z Z Z<|Zh Z Z Z<|Wf Y4<|ZqF Z Z Z<|Zqm Z Z<|Wf Y4<|Wf Y4<|Wf Y4<|ZqF Z Z Z<|Nt<|Zz Z<|Zk<|Zt<|Sr<|qac (qag 0 [_,_,_] Z Z Z Z Z) Z ?_
 refine Jc Z Z Z (qvm D _ _ y b o A n c (hy.le (h1.t h2|>.t h3)) hr _) ?_
 rintro _ _ s4 h4 ⟨rfl,rfl⟩
 refine qaj Z [_,_,_] Z Z ?_
 intro β5 s5 h5
 refine Wt 0 [_,_,_] Y9<|Nt<|Zs<|Sr<|Wb Y5<|Wl 0 Y6<|qar Z Z Z<|Nt<|?_
 refine qaa Z (fun c6=>?_) (fun c6=>?_)
 ·
  have hE:qeg p x (qdk y)=0:=if_pos c6
  refine Sr<|At Z Z<|Zo<|Zu<|?_
  refine rR [_,_,_,_] L (.t1 Z) Z (h1.t h2|>.t h3|>.t h4|>.t h5) fun _ hS2=>?_
  exact ⟨by rw [ndC,hE];rfl,rfl⟩
 have g38:¬ (qdk y).2.1=0:=c6
 refine Zk<|Zt<|Sr<|qac (qag 3 [_,_,_] Z Z Z Z Z) Z<|qac (qag 2 [_,_,_,_] Z Z Z Z Z) Z<|W0 Y5<|Wl 0 Y6<|Jc Z Z Z (qlU D _ _ p Ag Af ng cg nf cf bm (hM.le (h1.t h2|>.t h3|>.t h4|>.t h5)) x A1 A2 A3 n1 q1 n2 q2 n3 q3 (hs1.le (h1.t h2|>.t h3|>.t h4|>.t h5)) (hs2.le (h1.t h2|>.t h3|>.t h4|>.t h5)) _) ?_
 rintro _ _ s7 h7 ⟨rfl,rfl⟩
 refine Zqm Z Z<|Zqx Z Z Z<|Zqx Z Z Z<|qaj Z [_,_] Z Z ?_
 intro β8 s8 h8
 refine Wt 0 [_,_] Y9<|At Z Z<|Zs<|Zp<|Sr<|Zqm Z Z<|qbV Z Z<|At Z Z<|?_
 refine qcH Z (fun c9=>?_) (fun c9=>?_)
 ·
  have hE:qeg p x (qdk y)=12:=(if_neg g38).trans (if_pos c9)
  refine Sr<|At Z Z<|Zo<|Zc<|Zu<|?_
  refine rR [_,_,_,_,_] L (.t1 Z) Z (h1.t h2|>.t h3|>.t h4|>.t h5|>.t h7|>.t h8) fun _ hS2=>?_
  exact ⟨by rw [ndC,hE];rfl,rfl⟩
 have g47:¬ (qaz p x (qdk y).1).2=false:=by rw [c9];decide
 have hmk:=qdh c9
 refine Sr<|qac (qag 4 [_,_,_] Z Z Z Z Z) Z<|qac (qag 1 [_,_,_] Z Z Z Z Z) Z<|qac (qag 0 [_,_] Z Z Z Z Z) Z<|Jc Z Z Z (qkm D _ _ p Ag Af ng cg nf cf bm (hGl.le (h1.t h2|>.t h3|>.t h4|>.t h5|>.t h7|>.t h8)) (qdk y) (qaz p x (qdk y).1).1.1 (qaz p x (qdk y).1).1.2 (fun h1 h2=>hmk.elim (fun h=>absurd h h1) (fun h=>h.elim (fun h=>by obtain ⟨k,e1,e2⟩:=h.2;exact ⟨k,e1,by omega⟩) (fun h=>absurd h.1 h2)))) ?_
 rintro _ _ s10 h10 ⟨rfl,rfl⟩
 refine qbV Z Z<|At Z Z<|?_
 refine qaP Z (fun c11=>?_) (fun c11=>?_)
 ·
  have hE:qeg p x (qdk y)=13:=(if_neg g38).trans ((if_neg g47).trans (if_pos c11))
  refine Sr<|At Z Z<|Zo<|Zc<|Zu<|?_
  refine rR [_,_,_,_,_] L (.t1 Z) Z (h1.t h2|>.t h3|>.t h4|>.t h5|>.t h7|>.t h8|>.t h10) fun _ hS2=>?_
  exact ⟨by rw [ndC,hE];rfl,rfl⟩
 have g50:¬ ¬ qcb (qh3 p (qaz p x (qdk y).1).1.2) (qdk y).2.1 (qaz p x (qdk y).1).1.1:=fun h=>h c11
 have g51:=c11
 refine Zs ?_
 rcases Classical.em ((qdk y).2.1=4) with g4 | g4
 ·
  obtain ⟨hk4,j,hj,hjn⟩:=hmk.elim (fun h=>absurd g51 (fun k=>by omega)) (fun h=>h.elim (fun h=>absurd g51 (fun k=>by omega)) id)
  obtain ⟨b,off,z,B1,m1,d1,B2,m2,d2,B3,m3,d3,rfl,hz,hcz,hpz,hlz,hbz,hzl⟩:=Fncs.at_ (hFn.le (h1.t h2|>.t h3|>.t h4|>.t h5|>.t h7|>.t h8|>.t h10)) (show j < nf by omega)
  have hm9:=hpz.1
  have hpar:=qfR hj hz
  refine qay qad 18 Z _ (fun _ h=>h) ?_
  intro s12 h12
  refine za 0 Z (We Y4) Z<|za 1 Z (Wd 1 Y5) Z<|za 2 Z (qae (v':=.bool true) (qa9 Z Z) (bT g4)) Z<|za 3 Z (qan Z) Z<|zg 4 Z ⟨_,Z,Z⟩ (We Y4) Z<|zg 5 Z ⟨_,Z,Z⟩ (Wd 1 Y5) Z<|zg 6 Z ⟨_,Z,Z⟩ (qbp Z Z Z Z) Z<|zg 7 Z ⟨_,Z,Z⟩ (We Y4) Z<|zg 8 Z ⟨_,Z,Z⟩ (Wd 4 Y5) Z<|zg 9 Z ⟨_,Z,Z⟩ (We Y4) Z<|zg 10 Z ⟨_,Z,Z⟩ (Wd 0 Y5) Z<|zg 11 Z ⟨_,Z,Z⟩ (qap (j:=j) Z (show lk _ _=some (.int .i64 (j:Int)) from by rw [← hj];rfl) Z Z Z Z (show j < nf by omega)) Z ?_
  refine zg 12 Z ⟨_,Z,Z⟩ (qbs Z Z Z Z) Z<|zg 13 Z ⟨_,Z,Z⟩ (qaC 1 Z Z Z (hcz.le h12) Z) Z<|zg 14 Z ⟨_,Z,Z⟩ (qbR Z Z Z) Z<|zg 15 Z ⟨_,Z,Z⟩ (qec Z Z) Z<|za 16 Z (qep Z Z) Z<|za 17 Z (qaM Z) Z<|qal V<|Zt ?_
  refine qaP Z (fun c13=>?_) (fun c13=>?_)
  ·
   have hE:qeg p x (qdk y)=9:=(if_neg g38).trans ((if_neg g47).trans ((if_neg g50).trans (if_pos ⟨g4,by rw [hpar];have:=c13;omega⟩)))
   refine Sr<|At Z Z<|Zo<|Zc<|Zu<|?_
   refine rR [_,_,_,_,_] L (.t1 Z) Z (h1.t h2|>.t h3|>.t h4|>.t h5|>.t h7|>.t h8|>.t h10|>.t h12) fun _ hS2=>?_
   exact ⟨by rw [ndC,hE];rfl,rfl⟩
  have hE:qeg p x (qdk y)=0:=(if_neg g38).trans ((if_neg g47).trans ((if_neg g50).trans (if_neg (fun h=>h.2 (by rw [hpar];have:=c13;omega)))))
  refine Zk<|Zb<|Zt<|Sr<|At Z Z<|Zo<|?_
  refine rR [_,_,_,_,_] L (.t1 Z) Z (h1.t h2|>.t h3|>.t h4|>.t h5|>.t h7|>.t h8|>.t h10|>.t h12) fun _ hS2=>?_
  exact ⟨by rw [ndC,hE];rfl,rfl⟩
 refine qay qad 18 Z _ (fun _ h=>h) ?_
 intro s14 h14
 refine za 0 Z (We Y4) Z<|za 1 Z (Wd 1 Y5) Z<|za 2 Z (qae (v':=.bool false) (qa9 Z Z) (bZ g4)) Z<|za 3 Z (qan Z) Z<|zn 4 Z Z Z Z Z<|zn 5 Z Z Z Z Z<|zn 6 Z Z Z Z Z<|zn 7 Z Z Z Z Z<|zn 8 Z Z Z Z Z<|zn 9 Z Z Z Z Z<|zn 10 Z Z Z Z Z<|zn 11 Z Z Z Z Z<|zn 12 Z Z Z Z Z<|zn 13 Z Z Z Z Z<|zn 14 Z Z Z Z Z<|zn 15 Z Z Z Z Z<|za 16 Z (qeo Z Z) Z<|za 17 Z (qaM Z) Z<|qal V<|Zt<|Zz Z<|?_
 have hE:qeg p x (qdk y)=0:=(if_neg g38).trans ((if_neg g47).trans ((if_neg g50).trans (if_neg (fun h=>g4 h.1))))
 refine Zk<|Zb<|Zt<|Sr<|At Z Z<|Zo<|?_
 refine rR [_,_,_,_,_] L (.t1 Z) Z (h1.t h2|>.t h3|>.t h4|>.t h5|>.t h7|>.t h8|>.t h10|>.t h14) fun _ hS2=>?_
 exact ⟨by rw [ndC,hE];rfl,rfl⟩
end Go.Proofs.YtpdnijphccdiiaaGreatDoor
namespace Go.FL
open Go Go.RowKit
def fro(ro:Option Nat):Fence:={ Fence.wide with round:=ro }
theorem qfL{P:Program}{f:FuncId}{args:Array Value}{w:World}{R:Ending→World→Prop}(ro:Option Nat)(n:Nat)(h:Calls P f args w R):CallsIn (fro ro) n P f args w R:=by
 cases ro with
 | none=>exact callsIn_wide.2 h
 | some l=>exact CallsIn.inRound l (callsIn_wide.2 h)
theorem qex(ro:Option Nat)(n:Nat):(fro ro).depth.isSome=true→1≤n:=fun h=>by cases h
theorem qe8(ro:Option Nat)(f:FuncId):(fro ro).fn f:=trivial
structure FrD(ds:List Deferred)(n:Nat)(a:Act)(fr:Fr):Prop where
 rel:FrRel n { a with defers:=[] } fr
 defers:a.defers=ds
theorem FrD.ev{ds:List Deferred}{n:Nat}{a:Act}{fr:Fr}(h:FrD ds n a fr){x:Operand}{v:Value}(hx:lk fr x=some v):a.eval x=v:=h.rel.ev hx
theorem FrD.put{ds:List Deferred}{n:Nat}{a:Act}{fr:Fr}(h:FrD ds n a fr){d:Nat}(hd:Nat.blt d n=true)(v:Value):FrD ds n (a.put (some d) v) ((d,v)::fr):=
 ⟨h.rel.put hd v,h.defers⟩
theorem FrD.sub{ds:List Deferred}{n:Nat}{a:Act}{fr l:Fr}(h:FrD ds n a fr)(hs:Keeps fr l):FrD ds n a l:=⟨h.rel.sub hs,h.defers⟩
abbrev qdo:=Exit→List Deferred→Fr→Hl→World→Prop
def qtU(D n:Nat)(Q:qdo):Exit→Act→World→Prop:=fun e a w=>∃ ds fr L s,FrD ds n a fr∧OKL D L s∧w=fill L s∧Q e ds fr L s
def RC(P:Program)(TT:qaZ)(D n:Nat)(ro:Option Nat)(Q:qdo)(c:Code)(ds:List Deferred)(fr:Fr)(L:Hl)(s:World):Prop:=
 TabOK P TT→∀ a,FrD ds n a fr→OKL D L s→c.wpIn (fro ro) 0 P (qtU D n Q) a (fill L s)
def RO(P:Program)(TT:qaZ)(D n:Nat)(ro:Option Nat)(ops:Array Oper)(Q:qdo)(l:List Oper)(ds:List Deferred)(fr:Fr)(L:Hl)(s:World):Prop:=
 TabOK P TT→∀ a,FrD ds n a fr→OKL D L s→wpListIn (fro ro) 0 P ops (qtU D n Q) l a (fill L s)
section control
variable{P:Program}{TT:qaZ}{D n:Nat}{ro:Option Nat}{Q:qdo}{ds:List Deferred}{fr:Fr}{L:Hl}{s:World}
def qil(J:List Deferred→Fr→Hl→World→Prop)(Q:qdo):qdo
 | .normal,ds,fr,L,s=>J ds fr L s
 | e,ds,fr,L,s=>Q e ds fr L s
def qfK(id:Nat)(Q:qdo):qdo
 | .exit i,ds,fr,L,s=>if i=id then Q .normal ds fr L s else Q (.exit i) ds fr L s
 | e,ds,fr,L,s=>Q e ds fr L s
theorem qsa(h:Q .normal ds fr L s):RC P TT D n ro Q .skip ds fr L s:=fun _ _ hr ho=>wpIn_skip ⟨ds,fr,L,s,hr,ho,rfl,h⟩
theorem qsb{id:Nat}(h:Q (.exit id) ds fr L s):RC P TT D n ro Q (.exit id) ds fr L s:=fun _ _ hr ho=>wpIn_exit ⟨ds,fr,L,s,hr,ho,rfl,h⟩
theorem qsC(h:Q .ret ds fr L s):RC P TT D n ro Q .ret ds fr L s:=fun _ _ hr ho=>wpIn_ret ⟨ds,fr,L,s,hr,ho,rfl,h⟩
theorem quq{x y:Code}(h:RC P TT D n ro (qil (RC P TT D n ro Q y) Q) x ds fr L s):RC P TT D n ro Q (.seq x y) ds fr L s:=fun ht a hr ho=>
 wpIn_seq (wpIn_mono (h ht a hr ho) fun e a w ⟨ds',fr',L',s',h1,h2,h3,h4⟩=>by
  cases e with
  | normal=>subst h3;exact h4 ht a h1 h2
  | _=>exact ⟨ds',fr',L',s',h1,h2,h3,h4⟩)
theorem qoD{id:Nat}{c:Code}(h:RC P TT D n ro (qfK id Q) c ds fr L s):RC P TT D n ro Q (.block id c) ds fr L s:=fun ht a hr ho=>
 wpIn_block (wpIn_mono (h ht a hr ho) fun e a w ⟨ds',fr',L',s',h1,h2,h3,h4⟩=>by
  cases e with
  | exit i=>
   simp only [qfK] at h4
   simp only [Exit.inBlock]
   by_cases hi:i=id
   · simp only [hi,if_true] at h4 ⊢;exact ⟨ds',fr',L',s',h1,h2,h3,h4⟩
   · simp only [hi,if_false] at h4 ⊢;exact ⟨ds',fr',L',s',h1,h2,h3,h4⟩
  | _=>exact ⟨ds',fr',L',s',h1,h2,h3,h4⟩)
theorem qnt{c:Operand}{x y:Code}{b:Bool}(hc:lk fr c=some (.bool b))(h1:b=true→RC P TT D n ro Q x ds fr L s)(h2:b=false→RC P TT D n ro Q y ds fr L s):RC P TT D n ro Q (.cond c x y) ds fr L s:=
 fun ht a hr ho=>wpIn_cond_split (hr.ev hc) (fun hb=>h1 hb ht a hr ho) (fun hb=>h2 hb ht a hr ho)
theorem qiG{c:Operand}{x y:Code}{p:Prop} [Decidable p] (hc:lk fr c=some (.bool (decide p))) (h1:p→RC P TT D n ro Q x ds fr L s) (h2:¬ p→RC P TT D n ro Q y ds fr L s):RC P TT D n ro Q (.cond c x y) ds fr L s:=
 qnt hc (fun hb=>h1 (of_decide_eq_true hb)) (fun hb=>h2 (of_decide_eq_false hb))
theorem qlQ{c:Operand}{x y:Code}{p:Prop} [Decidable p] (hc:lk fr c=some (.bool (!decide p))) (h1:¬ p→RC P TT D n ro Q x ds fr L s) (h2:p→RC P TT D n ro Q y ds fr L s):RC P TT D n ro Q (.cond c x y) ds fr L s:=
 qnt hc (fun hb=>h1 (by simpa using hb)) (fun hb=>h2 (by simpa using hb))
theorem qjb{c:Operand}{x y:Code}{b:Bool}(hc:lk fr c=some (.bool (!b)))(h1:b=false→RC P TT D n ro Q x ds fr L s)(h2:b=true→RC P TT D n ro Q y ds fr L s):RC P TT D n ro Q (.cond c x y) ds fr L s:=
 qnt hc (fun hb=>h1 (by simpa using hb)) (fun hb=>h2 (by simpa using hb))
theorem quk{c:Operand}{x y:Code}(hc:lk fr c=some (.bool true))(h1:RC P TT D n ro Q x ds fr L s):RC P TT D n ro Q (.cond c x y) ds fr L s:=
 qnt hc (fun _=>h1) (fun hb=>by cases hb)
theorem qkw{id:Nat}{l:List Oper}(h:RO P TT D n ro l.toArray Q l ds fr L s):RC P TT D n ro Q (.region id l.toArray false) ds fr L s:=
 fun ht a hr ho=>wpIn_region_lit (h ht a hr ho)
theorem qtR{ops:Array Oper}(h:Q .normal ds fr L s):RO P TT D n ro ops Q [] ds fr L s:=fun _ _ hr ho=>⟨ds,fr,L,s,hr,ho,rfl,h⟩
theorem qmb{γ:Type}{c:Code}(S:γ→Fr)(H:γ→Hl)(I:γ→World→Prop)(μ:γ→Nat)(mono:∀ g s s',I g s→Le D s s'→I g s')(g0:γ)
  (hS:Keeps fr (S g0)) (hL:L=H g0) (hI:I g0 s)
  (round:∀ g s,I g s→RC P TT D n ro (qil (fun ds' fr' L' s'=>ds'=ds∧∃ g' A,Keeps fr' (S g')∧L'=A++H g'∧I g' s'∧μ g' < μ g) Q) c ds (S g) (H g) s) :
  RC P TT D n ro Q (.loop c) ds fr L s:=fun ht a hr ho=>by
 refine wpIn_loop_ghost (fun m a w=>∃ g s,μ g=m∧FrD ds n a (S g)∧OKL D (H g) s∧w=fill (H g) s∧I g s) (μ g0) ⟨g0,s,Z,hr.sub hS,hL▸ho,hL▸Z,hI⟩ ?_
 rintro m a w ⟨g,s,rfl,h1,h2,rfl,h4⟩
 refine wpIn_mono (round g s h4 ht a h1 h2) ?_
 rintro e a' w' ⟨ds',fr',L',s',k1,k2,rfl,k4⟩
 cases e with
 | normal=>
  obtain ⟨rfl,g',A,j1,rfl,j3,j4⟩:=k4
  obtain ⟨e,d1,d2⟩:=qbm k2
  exact ⟨μ g',j4,g',_,rfl,k1.sub j1,d1,e,mono _ _ _ j3 d2⟩
 | _=>exact ⟨ds',fr',L',s',k1,k2,rfl,k4⟩
theorem qnO{γ:Type}{c:Code}(S:γ→Fr)(H:γ→Hl)(E:γ→List Deferred)(I:γ→World→Prop)(μ:γ→Nat)(mono:∀ g s s',I g s→Le D s s'→I g s')(g0:γ)
  (hS:Keeps fr (S g0)) (hL:L=H g0) (hE:ds=E g0) (hI:I g0 s)
  (round:∀ g s,I g s→RC P TT D n ro (qil (fun ds' fr' L' s'=>∃ g' A,ds'=E g'∧Keeps fr' (S g')∧L'=A++H g'∧I g' s'∧μ g' < μ g) Q) c (E g) (S g) (H g) s) :
  RC P TT D n ro Q (.loop c) ds fr L s:=fun ht a hr ho=>by
 subst hE
 refine wpIn_loop_ghost (fun m a w=>∃ g s,μ g=m∧FrD (E g) n a (S g)∧OKL D (H g) s∧w=fill (H g) s∧I g s) (μ g0) ⟨g0,s,Z,hr.sub hS,hL▸ho,hL▸Z,hI⟩ ?_
 rintro m a w ⟨g,s,rfl,h1,h2,rfl,h4⟩
 refine wpIn_mono (round g s h4 ht a h1 h2) ?_
 rintro e a' w' ⟨ds',fr',L',s',k1,k2,rfl,k4⟩
 cases e with
 | normal=>
  obtain ⟨g',A,rfl,j1,rfl,j3,j4⟩:=k4
  obtain ⟨e,d1,d2⟩:=qbm k2
  exact ⟨μ g',j4,g',_,rfl,k1.sub j1,d1,e,mono _ _ _ j3 d2⟩
 | _=>exact ⟨ds',fr',L',s',k1,k2,rfl,k4⟩
theorem qfW{J:List Deferred→Fr→Hl→World→Prop}(h:J ds fr L s):qil J Q .normal ds fr L s:=h
theorem qpT{J:List Deferred→Fr→Hl→World→Prop}(h:Q .ret ds fr L s):qil J Q .ret ds fr L s:=h
theorem qpU{J:List Deferred→Fr→Hl→World→Prop}{i:Nat}(h:Q (.exit i) ds fr L s):qil J Q (.exit i) ds fr L s:=h
theorem qm0{id:Nat}(h:Q .normal ds fr L s):qfK id Q .normal ds fr L s:=h
theorem qmW{id:Nat}(h:Q .ret ds fr L s):qfK id Q .ret ds fr L s:=h
theorem qoh{id:Nat}(h:Q .normal ds fr L s):qfK id Q (.exit id) ds fr L s:=by simpa [qfK] using h
end control
section ops
variable{P:Program}{TT:qaZ}{D n:Nat}{ro:Option Nat}{Q:qdo}{ds:List Deferred}{fr:Fr}{L L':Hl}{s s':World}{ops:Array Oper}{rest:List Oper}{d ty:Nat}{op:Op}{pos:String}{af:Array Edge}{v:Value}
theorem qsr(hnd:∀ c,op≠.defer c)(hd:Nat.blt d n=true)(h:Ev P TT D fr op ty L s (.value v) L' s')(k:RO P TT D n ro ops Q rest ds ((d,v)::fr) L' s') :
  RO P TT D n ro ops Q (⟨some d,op,ty,pos,af,none⟩::rest) ds fr L s:=fun ht a hr ho=>by
 obtain ⟨h1,h2⟩:=h ht ho (some d) pos af none a.eval (fun x v hx=>hr.ev hx)
 simp only [wpListIn,Region.wanted,if_true]
 refine ⟨fun f _=>qe8 ro f,?_⟩
 rw [Oper.semAt_eq _ _ _ hnd,h1,Oper.uponIn_value]
 exact k ht _ (hr.put hd v) h2
theorem quQ(hnd:∀ c,op≠.defer c)(h:Ev P TT D fr op ty L s .skip L' s')(k:RO P TT D n ro ops Q rest ds fr L' s') :
  RO P TT D n ro ops Q (⟨none,op,ty,pos,af,none⟩::rest) ds fr L s:=fun ht a hr ho=>by
 obtain ⟨h1,h2⟩:=h ht ho none pos af none a.eval (fun x v hx=>hr.ev hx)
 simp only [wpListIn,Region.wanted,if_true]
 refine ⟨fun f _=>qe8 ro f,?_⟩
 rw [Oper.semAt_eq _ _ _ hnd,h1,Oper.uponIn_skip]
 exact k ht _ hr h2
theorem qcm(h:QE P TT D fr op ty L s v)(hd:Nat.blt d n=true)(k:RO P TT D n ro ops Q rest ds ((d,v)::fr) L s)(hnd:∀ c,op≠.defer c:=by nofun):RO P TT D n ro ops Q (⟨some d,op,ty,pos,af,none⟩::rest) ds fr L s:=
 qsr hnd hd (fun ht ho dst pos af g ρ hρ=>⟨h ht dst pos af g ρ hρ L s ho (Le.refl _) (fun _ hx=>hx),ho⟩) k
theorem qq7{f:FuncId}{x:Operand}{xs:List Operand}{first captured vs:List Value}{ts:Array TypeId}{R:Value→Hl→World→Prop}(hx:lk fr x=some (.func (.func f) first.toArray captured.toArray))(hv:lks fr xs=some vs)
  (hd:Nat.blt d n=true) (h:AC P D f (first++vs++captured) L s R) (k:∀ v L' s',Le D s s'→R v L' s'→RO P TT D n ro ops Q rest ds ((d,v)::fr) L' s') :
  RO P TT D n ro ops Q (⟨some d,.call { callee:=.value x,args:=xs.toArray,argTypes:=ts },ty,pos,af,none⟩::rest) ds fr L s:=fun hT a hr ho=>by
 obtain ⟨⟨fn,h1,h2,h3⟩,hc⟩:=h
 have hρ:∀ x v,lk fr x=some v→a.eval x=v:=fun x v hx=>hr.ev hx
 simp only [wpListIn,Region.wanted,if_true]
 refine ⟨fun f _=>qe8 ro f,?_⟩
 have hrun:(execOp a.eval ⟨some d,.call { callee:=.value x,args:=xs.toArray,argTypes:=ts },ty,pos,af,none⟩).run P (fill L s)=.ok (.enter f (first++vs++captured).toArray) (fill L s):=by
  have h2':¬ fn.name = "runtime.NumGoroutine" := by simpa using h2
  have h3':¬ fn.body=none:=by intro e;simp [e] at h3
  simp [execOp,resolve,Deferred.ofValue,invoke,callFunc,hρ x _ hx,qdK hρ hv,h1,h2',h3']
 rw [Oper.semAt_eq _ _ _ (by nofun),hrun,Oper.uponIn_enter]
 refine ⟨qex ro 0,(qfL ro _ (hc ho)).mono ?_⟩
 rintro e w' ⟨v,L',s',rfl,rfl,h4,h5,h6⟩
 exact k v L' s' h5 h6 hT _ (hr.put hd v) h4
theorem Rc9{f:FuncId}{x:Operand}{xs:List Operand}{vs:List Value}{ts:Array TypeId}{R:Value→Hl→World→Prop}(hx:lk fr x=some (.func (.func f) ([]:List Value).toArray ([]:List Value).toArray))(hv:lks fr xs=some vs)
  (hd:Nat.blt d n=true) (h:AC P D f (([]:List Value)++vs++[]) L s R) (k:∀ v L' s',Le D s s'→R v L' s'→RO P TT D n ro ops Q rest ds ((d,v)::fr) L' s') :
  RO P TT D n ro ops Q (⟨some d,.call { callee:=.value x,args:=xs.toArray,argTypes:=ts },ty,pos,af,none⟩::rest) ds fr L s:=qq7 (first:=[]) (captured:=[]) hx hv hd h k
def YC(P:Program)(D:Nat)(l:Nat)(args:List Value)(L:Hl)(s:World)(R:Value→Hl→World→Prop):Prop:=
 OKL D L s→∃ fn tmps assign body,(Instr.yield l args.toArray).run P (fill L s)=.ok (.round l fn tmps assign body) (fill L s) ∧
  RoundIn Fence.wide 0 P l fn tmps assign body (fill L s) fun e w'=>∃ v L' s',e=.returned v∧w'=fill L' s'∧OKL D L' s'∧Le D s s'∧R v L' s'
theorem qiS{l:Nat}{x:Operand}{xs:List Operand}{vs:List Value}{ts:Array TypeId}{R:Value→Hl→World→Prop}(hx:lk fr x=some (.func (.yield l) #[] #[]))(hv:lks fr xs=some vs)
  (hd:Nat.blt d n=true) (h:YC P D l vs L s R) (k:∀ v L' s',Le D s s'→R v L' s'→RO P TT D n none ops Q rest ds ((d,v)::fr) L' s') :
  RO P TT D n none ops Q (⟨some d,.call { callee:=.value x,args:=xs.toArray,argTypes:=ts },ty,pos,af,none⟩::rest) ds fr L s:=fun hT a hr ho=>by
 obtain ⟨fn,tmps,assign,body,hy,hR⟩:=h ho
 have hρ:∀ x v,lk fr x=some v→a.eval x=v:=fun x v hx=>hr.ev hx
 simp only [wpListIn,Region.wanted,if_true]
 refine ⟨fun f _=>qe8 none f,?_⟩
 have hrun:(execOp a.eval ⟨some d,.call { callee:=.value x,args:=xs.toArray,argTypes:=ts },ty,pos,af,none⟩).run P (fill L s)=.ok (.round l fn tmps assign body) (fill L s):=by
  simp [execOp,resolve,Deferred.ofValue,invoke,hρ x _ hx,qdK hρ hv,hy]
 rw [Oper.semAt_eq _ _ _ (by nofun),hrun,Oper.uponIn_round]
 refine ⟨qex none 0,RoundIn.mono hR ?_⟩
 rintro e w' ⟨v,L',s',rfl,rfl,h4,h5,h6⟩
 exact k v L' s' h5 h6 hT _ (hr.put hd v) h4
theorem qnQ{t:Nat}{ti:TI}(ht:qaB TT t=some ti)(hd:Nat.blt d n=true)
  (k:∀ β s',Le D s s'→RO P TT D n ro ops Q rest ds ((d,.pointer (some ⟨β,0,none⟩))::fr) ((β,cb ti.zeros t)::L) s'):RO P TT D n ro ops Q (⟨some d,.alloc t,ty,pos,af,none⟩::rest) ds fr L s:=fun hT a hr ho=>
 qsr (by nofun) hd (qgC ht ho) (k _ _ (qaH ho (cb ti.zeros t)).2.2) hT a hr ho
theorem qcS{t:Nat}{ti:TI}(ht:qaB TT t=some ti)(zs:List Value)(hz:ti.zeros=zs)(hd:Nat.blt d n=true)
  (k:∀ β s',Le D s s'→RO P TT D n ro ops Q rest ds ((d,.pointer (some ⟨β,0,none⟩))::fr) ((β,cb zs t)::L) s'):RO P TT D n ro ops Q (⟨some d,.alloc t,ty,pos,af,none⟩::rest) ds fr L s:=by subst hz;exact qnQ ht hd k
theorem qga{t b off:Nat}{x y:Operand}{ti:TI}{t':Nat}{zs:List Value}(i:Nat)(zs':List Value){L':Hl}(hx:lk fr x=some (.pointer (some ⟨b,off,none⟩)))(hy:lk fr y=some v)(hi:L[i]?=some (b,cb zs t'))(ht:qaB TT t=some ti)
  (hl:(qa6 v).length=ti.size) (hle:Nat.ble (off+ti.size) zs.length=true) (h1:(qa6 v).all (·.oneCell')=true) (hs:qbN zs off (qa6 v)=zs') (hL:qdl L i (cb zs' t')=L')
  (k:RO P TT D n ro ops Q rest ds fr L' s):RO P TT D n ro ops Q (⟨none,.store t x y,ty,pos,af,none⟩::rest) ds fr L s:=by
 subst hL;exact quQ (by nofun) (qqN i zs' hx hy hi ht hl hle h1 hs) k
theorem qvG{dst:Option Nat}{j t:Nat}{w:Bool}(hj:qd3 ops j=some t)(hv:qa1 fr t=some (.bool w))
  (k:RO P TT D n ro ops Q (⟨dst,op,ty,pos,af,none⟩::rest) ds fr L s):RO P TT D n ro ops Q (⟨dst,op,ty,pos,af,some (j,w)⟩::rest) ds fr L s:=fun ht a hr ho=>by
 have k1:=k ht a hr ho
 have hy:yielded ops a.tmps j=some w:=by
  have h1:=hr.rel.slot t (hr.rel.top _ _ hv) _ hv
  unfold qd3 at hj
  simp only at h1
  simp [yielded,hj,h1]
 simp only [wpListIn,Region.wanted,if_true] at k1
 simp only [wpListIn,Region.wanted,hy,beq_self_eq_true,if_true]
 exact k1
theorem quS{d:Nat}{j t:Nat}{w b:Bool}(hd:Nat.blt d n=true)(hj:qd3 ops j=some t)(hv:qa1 fr t=some (.bool b))(hb:(b != w)=true)
  (k:RO P TT D n ro ops Q rest ds ((d,undef)::fr) L s):RO P TT D n ro ops Q (⟨some d,op,ty,pos,af,some (j,w)⟩::rest) ds fr L s:=fun ht a hr ho=>by
 have hy:yielded ops a.tmps j=some b:=by
  have h1:=hr.rel.slot t (hr.rel.top _ _ hv) _ hv
  unfold qd3 at hj
  simp only at h1
  simp [yielded,hj,h1]
 have hne:(some b == some w)=false:=by cases b <;> cases w <;> simp_all
 simp only [wpListIn,Region.wanted,hy,hne,Bool.false_eq_true,if_false]
 exact ⟨fun f _=>qe8 ro f,k ht _ (hr.put hd undef) ho⟩
theorem qrJ{l:List Oper}{t:Nat}{b:Bool}(hv:qa1 fr t=some (.bool b))(h1:b=true→RO P TT D n ro ops Q l ds ((t,.bool true)::fr) L s)(h2:b=false→RO P TT D n ro ops Q l ds ((t,.bool false)::fr) L s) :
  RO P TT D n ro ops Q l ds fr L s:=fun ht a hr ho=>by
 cases b with
 | true=>exact h1 rfl ht a (hr.sub fun t' v' h=>by rw [qbo] at h;split at h <;> simp_all) ho
 | false=>exact h2 rfl ht a (hr.sub fun t' v' h=>by rw [qbo] at h;split at h <;> simp_all) ho
theorem qfv{l:List Oper}{t:Nat}{b:Bool}(hv:qa1 fr t=some (.bool (!b)))(h1:b=false→RO P TT D n ro ops Q l ds ((t,.bool true)::fr) L s)(h2:b=true→RO P TT D n ro ops Q l ds ((t,.bool false)::fr) L s) :
  RO P TT D n ro ops Q l ds fr L s:=qrJ hv (fun h=>h1 (by simpa using h)) (fun h=>h2 (by simpa using h))
end ops
section anyorder
variable{P:Program}{TT:qaZ}{D n:Nat}{ro:Option Nat}{Q:qdo}{ds:List Deferred}{fr:Fr}{L L':Hl}{s s':World}{ops:Array Oper}{d ty fuel:Nat}{op:Op}{pos:String}{af:Array Edge}{v:Value}{listed:Array Bool}
end anyorder
section calls
variable{P:Program}{TT:qaZ}{D n:Nat}{Q:qdo}{ds:List Deferred}{fr:Fr}{L:Hl}{s:World}
def qfU(b:Nat):Deferred:={ target:=.collected b,args:=#[] }
abbrev qit(b:Nat):Nat×Obj:=(b,Obj.deferred (some []))
def retG(TT:qaZ)(D:Nat)(rs:List ResultVar)(s0:World)(R:Value→Hl→World→Prop):qdo:=fun e ds fr L s=>
 (e=.normal∨e=.ret)∧∃ vs A L',Res TT fr L rs vs∧L=A++L'∧Le D s0 s∧(∀ s',Le D s s'→R (qat vs) L' s')∧(∃ bs:List Nat,ds=bs.map qfU∧(bs.map qit).Sublist A)
theorem Res.set{fr:Fr}{L L':Hl}(hL:∀ (i:Nat) b zs t,L[i]?=some (b,cb zs t)→L'[i]?=some (b,cb zs t)){rs:List ResultVar}{vs:List Value}(h:Res TT fr L rs vs):Res TT fr L' rs vs:=by
 induction h with
 | nil=>exact .nil
 | tmp h _ ih=>exact .tmp h ih
 | one i h hi ht hk hv _ ih=>exact .one i h (hL _ _ _ _ hi) ht hk hv ih
 | agg i h hi ht hk hv _ ih=>exact .agg i h (hL _ _ _ _ hi) ht hk hv ih
theorem qiR(L:Hl)(i j:Nat)(o:Obj)(h:i≠j):(qdl L i o)[j]?=L[j]?:=by
 induction L generalizing i j with
 | nil=>cases i <;> rfl
 | cons x L ih=>
  cases i with
  | zero=>cases j with
   | zero=>exact absurd rfl h
   | succ j=>rfl
  | succ i=>cases j with
   | zero=>rfl
   | succ j=>simp only [qdl,List.getElem?_cons_succ];exact ih i j O
theorem qgW{A L':Hl}{i:Nat}(o:Obj)(h:i < A.length):qdl (A++L') i o=qdl A i o++L':=by
 induction A generalizing i with
 | nil=>cases h
 | cons x A ih=>
  cases i with
  | zero=>rfl
  | succ i=>simp only [List.cons_append,qdl];rw [ih (by simpa using h)]
theorem qdm(w:World)(b:Nat)(o:Obj):w.putObj b o=qbn w b o:=rfl
theorem qez{f:FuncId}{fn:Func}{c:Code}{args:List Value}{R:Value→Hl→World→Prop}(hT:TabOK P TT)(hf:P.funcs[f]?=some fn)(hn:(fn.name == "runtime.NumGoroutine")=false)(hb:fn.body=some c)(hnt:fn.ntmps=n)(hle:Nat.ble args.length n=true){rs:List ResultVar}(hrs:fn.results.toList=rs)(fr0:Fr)(hfr:qeF 0 args=fr0)
    (h:RC P TT D n none (retG TT D rs s R) c [] fr0 L s):AC P D f args L s R:=by
  subst hfr;subst hrs
  refine ⟨⟨fn,hf,hn,by simp [hb]⟩,fun ho=>(callsIn_wide (n:=0)).1 (callsIn_of_wp_marks hf hb Tt ?_)⟩
  have hle':args.length≤n:=Nat.le_of_ble_eq_true hle
  have hr:FrD [] n { tmps:=args.toArray++Array.replicate (fn.ntmps - args.toArray.size) undef,defers:=[] } (qeF 0 args):=by
    refine ⟨⟨by simp [hnt];omega,Z,fun t ht v hv=>?_,fun t v hv=>?_⟩,Z⟩
    · rw [qby] at hv
      simp at hv
      obtain ⟨hlt,_⟩:=List.getElem?_eq_some_iff.1 hv
      simp [Array.getElem?_append,hlt]
      exact (List.getElem?_eq_some_iff.1 hv).2
    · rw [qby] at hv
      simp at hv
      obtain ⟨hlt,_⟩:=List.getElem?_eq_some_iff.1 hv
      omega
  refine wpIn_mono (h hT _ hr ho) ?_
  rintro e a w ⟨ds,fr',L1,s1,k1,k2,rfl,he,vs,A,L',hres,rfl,hle1,hR,hds⟩
  have fin:∀ (A2:Hl),OKL D (A2++L') s1→Res TT fr' (A2++L') fn.results.toList vs→LeavesIn Fence.wide 0 P fn a.tmps (fun e w'=>∃ v L' s',e=.returned v∧w'=fill L' s'∧OKL D L' s'∧Le D s s'∧R v L' s') [] .returning (fill (A2++L') s1):=fun A2 ho2 hres2=>by
    obtain ⟨d1,d2,d3⟩:=qbm ho2
    have hrun:(results fn a.tmps).run P (fill (A2++L') s1)=.ok (qat vs) (fill (A2++L') s1):=by
      have h1:=Res.run hT k1.rel ho2 hres2
      have h2:(fn.results.mapM (qmX a.tmps)).run P (fill (A2++L') s1)=.ok vs.toArray (fill (A2++L') s1):=by
        rw [Array.mapM_eq_mapM_toList]
        simp only [map_eq_pure_bind,Sem.run_bind,h1,Result.andThen_ok,Sem.run_pure]
      rw [qdg]
      simp only [Sem.run_bind,h2,Result.andThen_ok,Sem.run_pure]
      congr 1
      match vs with
      | []=>rfl
      | [v]=>rfl
      | v::u::r=>simp [qat]
    exact ⟨_,hrun,_,L',fill A2 s1,rfl,d1,d2,hle1.trans d3,hR _ d3⟩
  have key:∀ (bs:List Nat),bs.Nodup→∀ (A2:Hl),(∀ b∈bs,(b,Obj.deferred (some []))∈A2)→OKL D (A2++L') s1→Res TT fr' (A2++L') fn.results.toList vs→LeavesInM Fence.wide 0 P fn a.tmps (fun e w'=>∃ v L' s',e=.returned v∧w'=fill L' s'∧OKL D L' s'∧Le D s s'∧R v L' s') (bs.map qfU) .returning (fill (A2++L') s1):=by
    intro bs
    induction bs with
    | nil=>intro _ A2 _ k2 hres;exact fin A2 k2 hres
    | cons b bs ih=>
      intro hnd A2 hin k2 hres
      obtain ⟨i,hi,hie⟩:=List.getElem_of_mem (hin b Mc)
      have hig:(A2++L')[i]?=some (b,Obj.deferred (some [])):=by rw [List.getElem?_append_left hi,List.getElem?_eq_getElem hi,hie]
      have hw:(fill (A2++L') s1).heap[b]?=some (.deferred (some [])):=qa8 k2 (List.mem_of_getElem? hig)
      refine ⟨(fun h=>by cases h),.inl ⟨b,_,Z,run_takeDeferred hw,?_⟩⟩
      rw [qdm,← qcr k2 hig,qgW _ hi]
      have ho2:=qdQ k2 i (Obj.deferred none)
      rw [qgW _ hi] at ho2
      refine ih (List.nodup_cons.1 hnd).2 (qdl A2 i (.deferred none)) (fun c hc=>?_) ho2 (Res.set (fun j c zs t hj=>?_) hres)
      · have hne:b≠c:=fun e=>(List.nodup_cons.1 hnd).1 (e▸hc)
        obtain ⟨j,hj,hje⟩:=List.getElem_of_mem (hin c (List.mem_cons_of_mem _ hc))
        have hij:i≠j:=fun e=>by subst e;rw [hie] at hje;injection hje with h1 _;exact hne h1
        exact List.mem_of_getElem? (i:=j) (by rw [qiR _ _ _ _ hij,List.getElem?_eq_getElem hj,hje])
      · rw [← qgW _ hi,qiR _ _ _ _ (fun e=>by subst e;rw [hig] at hj;cases hj)]
        exact hj
  obtain ⟨bs,rfl,hsub⟩:=hds
  have hin:∀ b∈bs,(b,Obj.deferred (some []))∈A:=fun b hb=>hsub.subset (List.mem_map_of_mem hb)
  have hnd:bs.Nodup:=by
    have h1:(A.map (·.1)).Nodup:=by have:=k2.nd;rw [List.map_append] at this;exact (List.nodup_append.1 this).1
    have h2:=(hsub.map (·.1)).nodup h1
    rwa [List.map_map,show ((fun x:Nat×Obj=>x.1) ∘ qit)=id from rfl,List.map_id] at h2
  have key:=key bs hnd A hin k2 hres
  rw [← k1.defers] at key
  rcases he with rfl | rfl
  · exact key
  · exact key
theorem qbZ{rs:List ResultVar}{s0:World}{R:Value→Hl→World→Prop}{e:Exit}{vs:List Value}(A L':Hl)(he:e=.normal∨e=.ret)(h:Res TT fr L rs vs)(hL:L=A++L')(hl:Le D s0 s)(hds:∃ bs:List Nat,ds=bs.map qfU∧(bs.map qit).Sublist A)(hR:∀ s',Le D s s'→R (qat vs) L' s'):retG TT D rs s0 R e ds fr L s:=
 ⟨he,vs,A,L',h,hL,hl,hR,hds⟩
def jmp:Exit→Option (Option Code)
 | .normal=>some none
 | .ret=>some (some .ret)
 | .exit id=>some (some (.exit id))
 | _=>none
def quA:Option Code→Exit
 | none=>.normal
 | some .ret=>.ret
 | some (.exit id)=>.exit id
 | _=>.normal
def qo5(fr:Fr)(ps:List Nat)(vs:List Value):Fr:=(ps.zip vs).foldl (fun fr x=>(x.1,x.2)::fr) fr
theorem qj4(n:Nat):∀ (l:List (Nat×Value)) (fr:Fr) (a:Act),FrRel n { a with defers:=[] } fr→l.all (fun x=>Nat.blt x.1 n)=true →
  FrRel n { tmps:=l.foldl (fun tmps x=>tmps.setIfInBounds x.1 x.2) a.tmps,defers:=[] } (l.foldl (fun fr x=>(x.1,x.2)::fr) fr):=by
 intro l
 induction l with
 | nil=>intro fr a h _;exact h
 | cons x l ih=>
  intro fr a h hl
  simp only [List.all_cons,Bool.and_eq_true] at hl
  exact ih _ { a with tmps:=a.tmps.setIfInBounds x.1 x.2 } (h.put hl.1 x.2) hl.2
section range
variable{σ α:Type}(H:σ→Hl)(I:σ→World→Prop)(pend:σ→Option Code)(St:σ→α→σ→Prop)(enc:α→List Value)(Pre:σ→α→World→Prop)(Fin:σ→Prop)
end range
end calls
section
variable{P:Program}{TT:qaZ}{D n:Nat}{ro:Option Nat}{Q:qdo}{ds:List Deferred}{fr:Fr}{L:Hl}{s:World}{ops:Array Oper}{rest:List Oper}{d ty:Nat}{pos:String}{af:Array Edge}{v:Value}
theorem Yqm{x:Operand}(hx:lk fr x=some v)(hd:Nat.blt d n=true)(k:RO P TT D n ro ops Q rest ds ((d,v)::fr) L s):RO P TT D n ro ops Q (⟨some d,.move x,ty,pos,af,none⟩::rest) ds fr L s:=qcm (qan hx) hd k
theorem Yqa{x:Operand}(hx:lk fr x=some v)(hd:Nat.blt d n=true)(k:RO P TT D n ro ops Q rest ds ((d,v)::fr) L s):RO P TT D n ro ops Q (⟨some d,.assign x,ty,pos,af,none⟩::rest) ds fr L s:=qcm (qaM hx) hd k
theorem YqT{c x y:Operand}(hc:lk fr c=some (.bool true))(hx:lk fr x=some v)(hd:Nat.blt d n=true)(k:RO P TT D n ro ops Q rest ds ((d,v)::fr) L s):RO P TT D n ro ops Q (⟨some d,.pick c x y,ty,pos,af,none⟩::rest) ds fr L s:=qcm (qep hc hx) hd k
theorem YqF{c x y:Operand}(hc:lk fr c=some (.bool false))(hx:lk fr y=some v)(hd:Nat.blt d n=true)(k:RO P TT D n ro ops Q rest ds ((d,v)::fr) L s):RO P TT D n ro ops Q (⟨some d,.pick c x y,ty,pos,af,none⟩::rest) ds fr L s:=qcm (qeo hc hx) hd k
theorem Yqeq{x y:Operand}{ik:IntKind}{a b:Int}{t t':Nat}(hx:lk fr x=some (.int ik a))(hy:lk fr y=some (.int ik b))(hd:Nat.blt d n=true)(k:RO P TT D n ro ops Q rest ds ((d,.bool (decide (a=b)))::fr) L s):RO P TT D n ro ops Q (⟨some d,.binOp .eql t x y t',ty,pos,af,none⟩::rest) ds fr L s:=qcm (qa9 hx hy) hd k
theorem Yqne{x y:Operand}{ik:IntKind}{a b:Int}{t t':Nat}(hx:lk fr x=some (.int ik a))(hy:lk fr y=some (.int ik b))(hd:Nat.blt d n=true)(k:RO P TT D n ro ops Q rest ds ((d,.bool (!decide (a=b)))::fr) L s):RO P TT D n ro ops Q (⟨some d,.binOp .neq t x y t',ty,pos,af,none⟩::rest) ds fr L s:=qcm (qec hx hy) hd k
theorem quZ{x y:Operand}{ik:IntKind}{a b:Int}{t t':Nat}(hx:lk fr x=some (.int ik a))(hy:lk fr y=some (.int ik b))(hd:Nat.blt d n=true)(k:RO P TT D n ro ops Q rest ds ((d,.bool (decide (a < b)))::fr) L s):RO P TT D n ro ops Q (⟨some d,.binOp .lss t x y t',ty,pos,af,none⟩::rest) ds fr L s:=qcm (qb7 hx hy) hd k
theorem qpH{x:Operand}{b:Bool}{t:Nat}(hx:lk fr x=some (.bool b))(hd:Nat.blt d n=true)(k:RO P TT D n ro ops Q rest ds ((d,.bool (!b))::fr) L s):RO P TT D n ro ops Q (⟨some d,.unOp .not t x,ty,pos,af,none⟩::rest) ds fr L s:=qcm (qiO hx) hd k
theorem quK{x:Operand}{t:Nat}{A:Option Addr}{m c:Nat}{ti:TI}{e:Nat}(hx:lk fr x=some (.slice A m c))(ht:qaB TT t=some ti)(hk:ti.kind=.sl e)(hd:Nat.blt d n=true)(k:RO P TT D n ro ops Q rest ds ((d,.int .i64 (m:Int))::fr) L s):RO P TT D n ro ops Q (⟨some d,.call { callee:=.builtin .len,args:=#[x],argTypes:=#[t] },ty,pos,af,none⟩::rest) ds fr L s:=qcm (qbR hx ht hk) hd k
theorem qst{x:Operand}{a:Addr}(hx:lk fr x=some (.pointer (some a)))(hd:Nat.blt d n=true)(k:RO P TT D n ro ops Q rest ds ((d,.pointer (some a))::fr) L s):RO P TT D n ro ops Q (⟨some d,.nilCheck x,ty,pos,af,none⟩::rest) ds fr L s:=qcm (qbx hx) hd k
theorem Yqf0{t f b off:Nat}{x:Operand}{ti:TI}{os:List Nat}(hx:lk fr x=some (.pointer (some ⟨b,off,none⟩)))(ht:qaB TT t=some ti)(hk:ti.kind=.st os)(hf:qiM os f=some 0)(hd:Nat.blt d n=true)(k:RO P TT D n ro ops Q rest ds ((d,.pointer (some ⟨b,off,none⟩))::fr) L s):RO P TT D n ro ops Q (⟨some d,.fieldAddr t x f,ty,pos,af,none⟩::rest) ds fr L s:=qcm (qbp hx ht hk hf) hd k
theorem YqfB{t f fo b:Nat}{x:Operand}{ti:TI}{os:List Nat}(hx:lk fr x=some (.pointer (some ⟨b,0,none⟩)))(ht:qaB TT t=some ti)(hk:ti.kind=.st os)(hf:qiM os f=some fo)(hd:Nat.blt d n=true)(k:RO P TT D n ro ops Q rest ds ((d,.pointer (some ⟨b,fo,none⟩))::fr) L s):RO P TT D n ro ops Q (⟨some d,.fieldAddr t x f,ty,pos,af,none⟩::rest) ds fr L s:=qcm (qlb hx ht hk hf) hd k
theorem Yql{t b off:Nat}{x:Operand}{ti:TI}{t':Nat}{zs:List Value}(i:Nat)(hx:lk fr x=some (.pointer (some ⟨b,off,none⟩)))(hi:L[i]?=some (b,cb zs t'))(ht:qaB TT t=some ti)(hk:qdO ti.kind=true)(hv:nth zs off=some v)(hd:Nat.blt d n=true)(k:RO P TT D n ro ops Q rest ds ((d,v)::fr) L s):RO P TT D n ro ops Q (⟨some d,.load t x,ty,pos,af,none⟩::rest) ds fr L s:=qcm (qdE i hx hi ht hk hv) hd k
theorem qlD{x y:Operand}{ik:IntKind}{a b c:Int}{t t':Nat}(hx:lk fr x=some (.int ik a))(hy:lk fr y=some (.int ik b))(hd:Nat.blt d n=true)(hc:ik.wrap (a+b)=c)(k:RO P TT D n ro ops Q rest ds ((d,.int ik c)::fr) L s):RO P TT D n ro ops Q (⟨some d,.binOp .add t x y t',ty,pos,af,none⟩::rest) ds fr L s:=qcm (qaR hx hy hc) hd k
end
abbrev Ys:=@quq
abbrev Yr:=@qkw
abbrev Yn:=@qtR
abbrev Yt:=@qfW
abbrev Yu:=@qpT
abbrev Yv:=@qpU
abbrev Yb:=@qm0
abbrev Yc:=@qmW
abbrev Yd:=@qoh
abbrev Yk:=@qsa
abbrev Yl:=@qsb
abbrev Yo:=@qsC
abbrev Yp:=@qoD
abbrev Yy:=@quk
abbrev Yg:=@qvG
abbrev Yf:=@quS
end Go.FL
namespace Go.Proofs.YtpdnijphccdiiaaGreatDoor
open Go.Proofs.Tryz
open Go.FL
attribute [local irreducible] JC JO JA JB qaJ qaw qbM AC fill CellsAt QE Ev Mid
def NdV(s:World):Nd→Value→Prop
 | .st x lp,v=>∃ b o A1 n1 c1 A2 n2 c2 A3 n3 c3,v=.agg #[.pointer (some ⟨b,o,none⟩),.pointer none,.int .i64 (lp:Int)]∧CellsAt s b o [.int .i64 x.kind,St x.name,.slice A1 n1 c1,.slice A2 n2 c2,.slice A3 n3 c3]∧n1=x.exprs.length
 | .ex x lp,v=>∃ b o A n c,v=.agg #[.pointer none,.pointer (some ⟨b,o,none⟩),.int .i64 (lp:Int)]∧CellsAt s b o [.int .i64 x.kind,.int .i64 x.op,.int .u32 x.num,St x.name,.slice A n c]∧n=x.args.length
theorem NdV.mkE{s:World}{x:Ex}{lp b o n c:Nat}{A:Option Addr}(h:CellsAt s b o [.int .i64 x.kind,.int .i64 x.op,.int .u32 x.num,St x.name,.slice A n c])(hn:n=x.args.length):NdV s (.ex x lp) (.agg #[.pointer none,.pointer (some ⟨b,o,none⟩),.int .i64 (lp:Int)]):=⟨b,o,A,n,c,rfl,h,hn⟩
theorem NdV.mkS{s:World}{x:Stm}{lp b o n1 c1 n2 c2 n3 c3:Nat}{A1 A2 A3:Option Addr}(h:CellsAt s b o [.int .i64 x.kind,St x.name,.slice A1 n1 c1,.slice A2 n2 c2,.slice A3 n3 c3])(hn:n1=x.exprs.length):NdV s (.st x lp) (.agg #[.pointer (some ⟨b,o,none⟩),.pointer none,.int .i64 (lp:Int)]):=⟨b,o,A1,n1,c1,A2,n2,c2,A3,n3,c3,rfl,h,hn⟩
def qgl{σ:Type}(pend:σ→Option Code)(St:σ→Nd→σ→Prop):σ→List Nd→σ→Prop
 | g,[],g'=>g'=g
 | g,p::r,g'=>∃ g1,St g p g1∧if (pend g1).isNone=true then qgl pend St g1 r g' else g'=g1
theorem qel{σ:Type}{pend:σ→Option Code}{St:σ→Nd→σ→Prop}{b:List Nd}:∀ {a:List Nd} {g g1 g':σ},pend g=none→qgl pend St g a g1→((pend g1).isNone=true→qgl pend St g1 b g')→((pend g1).isNone=false→g'=g1)→qgl pend St g (a++b) g'
  | [],g,g1,g',hp,h,h1,_=>by
    have h:g1=g:=h
    subst h;exact h1 (by rw [hp];rfl)
  | p::r,g,g1,g',_,⟨g2,k1,k2⟩,h1,h2=>by
    refine ⟨g2,k1,?_⟩
    by_cases h3:(pend g2).isNone=true
    · rw [if_pos h3] at k2 ⊢
      exact qel (Option.isNone_iff_eq_none.1 h3) k2 h1 h2
    · rw [if_neg h3] at k2 ⊢
      subst k2;exact h2 (Bool.eq_false_iff.2 h3)
theorem qb9{σ:Type}{pend:σ→Option Code}{St:σ→Nd→σ→Prop}{cnt:σ→Nat}(hcn:∀ g nd g1,St g nd g1→cnt g1≤cnt g+1):∀ {l:List Nd} {g g':σ},qgl pend St g l g'→cnt g'≤cnt g+l.length
  | [],g,g',h=>by
    have h:g'=g:=h
    subst h;simp
  | p::r,g,g',⟨g1,h1,h2⟩=>by
    have e1:=hcn _ _ _ h1
    by_cases h3:(pend g1).isNone=true
    · rw [if_pos h3] at h2
      have e2:=qb9 hcn h2
      rw [List.length_cons];omega
    · rw [if_neg h3] at h2
      subst h2;rw [List.length_cons];omega
theorem qgV{l:List Ex}{k lp:Nat}{x:Ex}(h:l[k]?=some x):qd2 (l.drop k) lp=.ex x lp::(qd2 x.args lp++qd2 (l.drop (k+1)) lp):=by
 obtain ⟨hk,rfl⟩:=List.getElem?_eq_some_iff.1 h
 rw [List.drop_eq_getElem_cons hk,qd2]
 cases l[k] with
 | mk a b c d e=>rfl
def IXC(D d:Nat):Prop:=∀ (s:World) (σ:Type) (H:σ→Hl) (I:σ→World→Prop) (pend:σ→Option Code) (St:σ→Nd→σ→Prop) (l:Nat) (g0:σ) (cnt:σ→Nat) (B:Nat),(∀ g nd g1,St g nd g1→cnt g1≤cnt g+1)→(∀ g s s',I g s→Le D s s'→I g s')→(∀ g nd nv s',Le D s s'→I g s'→pend g=none→cnt g < B→NdV s' nd nv→YC prog D l [nv] (H g) s' fun v L' s3=>∃ g1,St g nd g1∧v=.bool (pend g1).isNone∧L'=H g1∧I g1 s3)→I g0 s→pend g0=none→∀ (A:Option Addr) (n c:Nat) (xs:List Ex) (lp:Nat),Exs d s A n c xs→cnt g0+(qd2 xs lp).length≤B→AC prog D 121 [.slice A n c,.int .i64 (lp:Int),.func (.yield l) #[] #[]] (H g0) s fun v L' s3=>∃ g',qgl pend St g0 (qd2 xs lp) g'∧v=.bool (pend g').isNone∧L'=H g'∧I g' s3
theorem qkW(D d:Nat)(ih:∀ e,d=e+1→IXC D e)(s:World)(σ:Type)(H:σ→Hl)(I:σ→World→Prop)(pend:σ→Option Code)(St:σ→Nd→σ→Prop)(l:Nat)(g0:σ)(cnt:σ→Nat)(B:Nat)(hcn:∀ g nd g1,St g nd g1→cnt g1≤cnt g+1)(mono:∀ g s s',I g s→Le D s s'→I g s')(hY:∀ g nd nv s',Le D s s'→I g s'→pend g=none→cnt g < B→NdV s' nd nv→YC prog D l [nv] (H g) s' fun v L' s3=>∃ g1,St g nd g1∧v=.bool (pend g1).isNone∧L'=H g1∧I g1 s3)(hI:I g0 s)(hp:pend g0=none)(A:Option Addr)(n c:Nat)(xs:List Ex)(lp:Nat)(hA:Exs d s A n c xs)(hBn:cnt g0+(qd2 xs lp).length≤B):AC prog D 121 [.slice A n c,.int .i64 (lp:Int),.func (.yield l) #[] #[]] (H g0) s fun v L' s3=>∃ g',qgl pend St g0 (qd2 xs lp) g'∧v=.bool (pend g').isNone∧L'=H g'∧I g' s3:=by
 have hn:=hA.1
 have hc1:=hA.2.1
 have hc2:=hA.2.2.1
 refine qez (fn:=f121) qao func121 V Z ntmps121 Z (rs:=[.tmp 6]) Z [(0,_),(1,_),(2,_)] Z<|Ys<|Yr<|Yqa Z Z<|Yn<|Yt<|Ys<|Ys<|Yr<|Yqm Z Z<|quK Z Z Z Z<|Yqm Z Z<|Yn<|Yt<|Yp<|?_
 refine qmb (γ:=σ×Nat) (fun g=>[(0,_),(1,_),(2,_),(6,_),(9,_),(10,.int .i64 (g.2:Int))]) (fun g=>H g.1) (fun g tw=>Le D s tw∧(g.2≤n∧I g.1 tw∧pend g.1=none∧cnt g.1+(qd2 (xs.drop g.2) lp).length≤B∧(∀ g',qgl pend St g.1 (qd2 (xs.drop g.2) lp) g'→qgl pend St g0 (qd2 xs lp) g'))) (fun g=>n - g.2) (fun _ _ _ h hl=>⟨h.1.trans hl,⟨h.2.1,mono _ _ _ h.2.2.1 hl,h.2.2.2⟩⟩) (g0,0) (.c6 Z Z Z Z Z Z (.nil _)) Z ⟨Le.refl _,⟨Nat.zero_le _,mono _ _ _ hI (Lr D),hp,hBn,fun g' h=>h⟩⟩ ?_
 intro g s1 I1
 obtain ⟨g,k⟩:=g
 obtain ⟨hk0,hIg,hpg,hbn,hrun⟩:=I1.2
 simp only at hk0 hIg hpg hbn hrun
 dsimp only
 refine Ys<|Yr<|quZ Z Z Z<|Yn<|Yt<|Ys<|?_
 refine qiG Z (fun c2=>?_) (fun c2=>?_)
 ·
  have hk:k < n:=by omega
  obtain ⟨e,b,off,x,A',n',c',hd,rfl,hx,hcx,hax,hux,hnl⟩:=Exs.at_ (hA.le I1.1) hk
  have hn':=hax.1
  rw [qgV hx,List.length_cons,List.length_append] at hbn
  refine Yk<|Yt<|Ys<|Yp<|Ys<|Yr<|Yqm Z Z<|Yqa Z Z<|Yn<|Yt<|Ys<|Yr<|Yqm Z Z<|Yqm Z Z<|Yqm Z Z<|qcm (qap Z Z Z Z Z Z hk) Z<|Yqm Z Z<|qcm (qam [(_,_),(_,_)] [_,_,_] Z Z Z Z Z Z) Z<|qiS Z Z Z (hY g (.ex x lp) _ _ I1.1 (mono _ _ _ hIg (Lr D)) hpg O (NdV.mkE (hcx.le (Lr D)) hn')) ?_
  rintro _ _ s3 h3 ⟨g1,hst,rfl,rfl,hIn⟩
  refine qpH Z Z<|Yqm Z Z<|?_
  refine qfv (t:=21) Z (fun c4=>?_) (fun c4=>?_)
  ·
   refine Yf Z Z Z Z<|Yf Z Z Z Z<|Yf Z Z Z Z<|Yf Z Z Z Z<|Yf Z Z Z Z<|Yf Z Z Z Z<|Yf Z Z Z Z<|Yf Z Z Z Z<|Yf Z Z Z Z<|YqT Z Z Z<|Yn<|Yt<|Yy Z ?_
   have hp2:=trivial
   refine Ys<|Yr<|Yqa Z Z<|Yn<|Yt<|Yo<|Yc<|Yu<|Yu<|Yc<|Yu<|?_
   refine qbZ [] _ (.inr Z) (.t1 Z) Z (I1.1.t h3) ⟨[],Z,List.nil_sublist _⟩ fun _ hS2=>?_
   exact ⟨g1,hrun g1 (by rw [qgV hx];exact ⟨g1,hst,by rw [if_neg (by simp only [*];decide)]⟩),by simp only [*];rfl,rfl,mono _ _ _ hIn ((Lr D).t hS2)⟩
  refine Yg Z Z<|Yqm Z Z<|Yg Z Z<|Yqm Z Z<|Yg Z Z<|qcm (qap Z Z Z Z Z Z hk) Z<|Yg Z Z<|qcm (qbs Z Z Z Z) Z<|Yg Z Z<|qcm (qaC 4 Z Z Z (hcx.le h3) Z) Z<|Yg Z Z<|Yqm Z Z<|Yg Z Z<|Yqm Z Z<|Yg Z Z<|Rc9 Z Z Z (ih e hd _ σ H I pend St l g1 cnt B hcn mono (fun g nd nv s9 hl=>hY g nd nv s9 (I1.1.t h3|>.t hl)) (mono _ _ _ hIn (Lr D)) (Option.isNone_iff_eq_none.1 As) A' n' c' x.args lp (hax.le h3) (by have e1:=hcn _ _ _ hst;omega)) ?_
  rintro _ _ s5 h5 ⟨g2,hrn,rfl,rfl,hIn2⟩
  refine Yg Z Z<|qpH Z Z<|YqF Z Z Z<|Yn<|Yt<|?_
  refine qjb Z (fun c6=>?_) (fun c6=>?_)
  ·
   have hp2:=c6
   refine Ys<|Yr<|Yqa Z Z<|Yn<|Yt<|Yo<|Yc<|Yu<|Yu<|Yc<|Yu<|?_
   refine qbZ [] _ (.inr Z) (.t1 Z) Z (I1.1.t h3|>.t h5) ⟨[],Z,List.nil_sublist _⟩ fun _ hS2=>?_
   exact ⟨g2,hrun g2 (by rw [qgV hx];exact ⟨g1,hst,by rw [if_pos As];exact qel (Option.isNone_iff_eq_none.1 As) hrn (fun h9=>by rw [hp2] at h9;cases h9) (fun _=>rfl)⟩),by rw [hp2];rfl,rfl,mono _ _ _ hIn2 ((Lr D).t hS2)⟩
  have hp2:=c6
  refine Yk<|Yb<|Yt<|Yr<|qlD Z Z Z (w64 O O)<|Yqm Z Z<|Yn<|?_
  refine qfW ⟨Z,(g2,k+1),[],(.c6 Z Z Z Z Z Z (.nil _)),Z,⟨(I1.1.t h3|>.t h5),⟨by simp only;omega,mono _ _ _ hIn2 (Lr D),Option.isNone_iff_eq_none.1 hp2,by have e1:=hcn _ _ _ hst;have e2:=qb9 hcn hrn;simp only;omega,fun g' h=>hrun g' (by rw [qgV hx];exact ⟨g1,hst,by rw [if_pos As];exact qel (Option.isNone_iff_eq_none.1 As) hrn (fun _=>h) (fun h9=>by rw [hp2] at h9;cases h9)⟩)⟩⟩,Oz⟩
 rw [List.drop_eq_nil_of_le O,qd2] at hrun
 refine Yl<|Yv<|Yv<|Yd<|Yt<|Ys<|Yr<|Yqa Z Z<|Yn<|Yt<|Yo<|?_
 refine qbZ [] _ (.inr Z) (.t1 Z) Z I1.1 ⟨[],Z,List.nil_sublist _⟩ fun _ hS2=>?_
 exact ⟨g,hrun g rfl,by rw [hpg];rfl,rfl,mono _ _ _ hIg ((Lr D).t hS2)⟩
theorem ixc(D:Nat):∀ d,IXC D d
 | 0=>fun s σ H I pend St l g0 cnt B hcn mono hY hI hp A n c xs lp hA hBn=>qkW D 0 (fun e h=>by omega) s σ H I pend St l g0 cnt B hcn mono hY hI hp A n c xs lp hA hBn
 | d+1=>fun s σ H I pend St l g0 cnt B hcn mono hY hI hp A n c xs lp hA hBn=>qkW D (d+1) (fun e h=>(show d=e by omega)▸ixc D d) s σ H I pend St l g0 cnt B hcn mono hY hI hp A n c xs lp hA hBn
section
variable{σ:Type}{pend:σ→Option Code}{St:σ→Nd→σ→Prop}{a b:List Nd}{g g1 g':σ}
theorem qct(hp:(pend g).isNone=true)(h:qgl pend St g a g1)(h1:(pend g1).isNone=false):qgl pend St g (a++b) g1:=qel (Option.isNone_iff_eq_none.1 hp) h (fun h9=>by rw [h1] at h9;cases h9) fun _=>rfl
theorem qcx(hp:(pend g).isNone=true)(h:qgl pend St g a g1)(h1:(pend g1).isNone=true)(k:qgl pend St g1 b g'):qgl pend St g (a++b) g':=qel (Option.isNone_iff_eq_none.1 hp) h (fun _=>k) fun h9=>by rw [h1] at h9;cases h9
end
def lpI(x:Stm)(lp:Nat):Nat:=if x.kind=4 then lp+1 else lp
theorem qdr{l:List Stm}{k lp:Nat}{x:Stm}(h:l[k]?=some x):qcz (l.drop k) lp=.st x lp::((qd2 x.exprs lp++(qcz x.body (lpI x lp)++qcz x.els (lpI x lp)))++qcz (l.drop (k+1)) lp):=by
 obtain ⟨hk,rfl⟩:=List.getElem?_eq_some_iff.1 h
 rw [List.drop_eq_getElem_cons hk,qcz]
 cases l[k] with
 | mk a b c d e=>rfl
def ISC(D d:Nat):Prop:=∀ (s:World) (σ:Type) (H:σ→Hl) (I:σ→World→Prop) (pend:σ→Option Code) (St:σ→Nd→σ→Prop) (l:Nat) (g0:σ) (cnt:σ→Nat) (B:Nat),(∀ g nd g1,St g nd g1→cnt g1≤cnt g+1)→(∀ g s s',I g s→Le D s s'→I g s')→(∀ g nd nv s',Le D s s'→I g s'→pend g=none→cnt g < B→NdV s' nd nv→YC prog D l [nv] (H g) s' fun v L' s3=>∃ g1,St g nd g1∧v=.bool (pend g1).isNone∧L'=H g1∧I g1 s3)→I g0 s→pend g0=none→∀ (A:Option Addr) (n c:Nat) (xs:List Stm) (lp lv:Nat),Stms d s A n c xs→qdN xs lv=true→lp≤lv→cnt g0+(qcz xs lp).length≤B→AC prog D 81 [.slice A n c,.int .i64 (lp:Int),.func (.yield l) #[] #[]] (H g0) s fun v L' s3=>∃ g',qgl pend St g0 (qcz xs lp) g'∧v=.bool (pend g').isNone∧L'=H g'∧I g' s3
theorem qmo(D d:Nat)(ih:∀ e,d=e+1→ISC D e)(s:World)(σ:Type)(H:σ→Hl)(I:σ→World→Prop)(pend:σ→Option Code)(St:σ→Nd→σ→Prop)(l:Nat)(g0:σ)(cnt:σ→Nat)(B:Nat)(hcn:∀ g nd g1,St g nd g1→cnt g1≤cnt g+1)(mono:∀ g s s',I g s→Le D s s'→I g s')(hY:∀ g nd nv s',Le D s s'→I g s'→pend g=none→cnt g < B→NdV s' nd nv→YC prog D l [nv] (H g) s' fun v L' s3=>∃ g1,St g nd g1∧v=.bool (pend g1).isNone∧L'=H g1∧I g1 s3)(hI:I g0 s)(hp:pend g0=none)(A:Option Addr)(n c:Nat)(xs:List Stm)(lp lv:Nat)(hA:Stms d s A n c xs)(hv:qdN xs lv=true)(hlp:lp≤lv)(hBn:cnt g0+(qcz xs lp).length≤B):AC prog D 81 [.slice A n c,.int .i64 (lp:Int),.func (.yield l) #[] #[]] (H g0) s fun v L' s3=>∃ g',qgl pend St g0 (qcz xs lp) g'∧v=.bool (pend g').isNone∧L'=H g'∧I g' s3:=by
 have hn:=hA.1
 have hc1:=hA.2.1
 have hc2:=hA.2.2.1
 refine qez (fn:=f81) qao func81 V Z ntmps81 Z (rs:=[.tmp 6]) Z [(0,_),(1,_),(2,_)] Z<|Ys<|Yr<|Yqa Z Z<|Yn<|Yt<|Ys<|Ys<|Yr<|Yqm Z Z<|quK Z Z Z Z<|Yqm Z Z<|Yn<|Yt<|Yp<|?_
 refine qmb (γ:=σ×Nat) (fun g=>[(0,_),(1,_),(2,_),(6,_),(11,_),(12,.int .i64 (g.2:Int))]) (fun g=>H g.1) (fun g tw=>Le D s tw∧(g.2≤n∧I g.1 tw∧pend g.1=none∧cnt g.1+(qcz (xs.drop g.2) lp).length≤B∧(∀ g',qgl pend St g.1 (qcz (xs.drop g.2) lp) g'→qgl pend St g0 (qcz xs lp) g'))) (fun g=>n - g.2) (fun _ _ _ h hl=>⟨h.1.trans hl,⟨h.2.1,mono _ _ _ h.2.2.1 hl,h.2.2.2⟩⟩) (g0,0) (.c6 Z Z Z Z Z Z (.nil _)) Z ⟨Le.refl _,⟨Nat.zero_le _,mono _ _ _ hI (Lr D),hp,hBn,fun g' h=>h⟩⟩ ?_
 intro g s1 I1
 obtain ⟨g,k⟩:=g
 obtain ⟨hk0,hIg,hpg,hbn,hrun⟩:=I1.2
 simp only at hk0 hIg hpg hbn hrun
 dsimp only
 refine Ys<|Yr<|quZ Z Z Z<|Yn<|Yt<|Ys<|?_
 refine qiG Z (fun c2=>?_) (fun c2=>?_)
 ·
  have hk:k < n:=by omega
  obtain ⟨e,b,off,x,A1,n1,p1,A2,n2,p2,A3,n3,p3,hd,rfl,hx,hcx,hax,hbx,hex,hnl⟩:=Stms.at_ (hA.le I1.1) hk
  have hn':=hax.1
  obtain ⟨hvx,_⟩:=qdy hv hx
  obtain ⟨hlv,_,_,hvB,hvL⟩:=qcI hvx
  rw [qdr hx,List.length_cons,List.length_append,List.length_append,List.length_append] at hbn
  refine Yk<|Yt<|Ys<|Yp<|Ys<|Yr<|Yqm Z Z<|Yqa Z Z<|Yn<|Yt<|Ys<|Yr<|Yqm Z Z<|Yqm Z Z<|qcm (qap Z Z Z Z Z Z hk) Z<|Yqa Z Z<|Yn<|Yt<|Ys<|Ys<|Yr<|Yqm Z Z<|Yqm Z Z<|Yqm Z Z<|qcm (qam [(_,_),(_,_)] [_,_,_] Z Z Z Z Z Z) Z<|qiS Z Z Z (hY g (.st x lp) _ _ I1.1 (mono _ _ _ hIg (Lr D)) hpg O (NdV.mkS (hcx.le (Lr D)) hn')) ?_
  rintro _ _ s3 h3 ⟨g1,hst,rfl,rfl,hI1⟩
  refine qpH Z Z<|Yqm Z Z<|?_
  refine qfv (t:=24) Z (fun c4=>?_) (fun c4=>?_)
  ·
   refine Yf Z Z Z Z<|Yf Z Z Z Z<|Yf Z Z Z Z<|Yf Z Z Z Z<|Yf Z Z Z Z<|Yf Z Z Z Z<|Yf Z Z Z Z<|Yf Z Z Z Z<|YqT Z Z Z<|Yn<|Yt<|Yy Z<|?_
   have q33:=trivial
   refine Ys<|Yr<|Yqa Z Z<|Yn<|Yt<|Yo<|Yu<|Yc<|Yu<|Yu<|Yc<|Yu<|?_
   refine qbZ [] _ (.inr Z) (.t1 Z) Z (I1.1.t h3) ⟨[],Z,List.nil_sublist _⟩ fun _ hS2=>?_
   exact ⟨g1,hrun g1 (by rw [qdr hx];exact ⟨g1,hst,by rw [if_neg (by rw [show (pend g1).isNone=false by assumption];decide)]⟩),(show qat [Value.bool false]=.bool (pend g1).isNone by rw [show (pend g1).isNone=false by assumption];rfl),rfl,mono _ _ _ hI1 ((Lr D).t hS2)⟩
  refine Yg Z Z<|Yqm Z Z<|Yg Z Z<|qst Z Z<|Yg Z Z<|qcm (qbs Z Z Z Z) Z<|Yg Z Z<|qcm (qaC 2 Z Z Z (hcx.le h3) Z) Z<|Yg Z Z<|Yqm Z Z<|Yg Z Z<|Yqm Z Z<|Yg Z Z<|Rc9 Z Z Z (ixc D e _ σ H I pend St l g1 cnt B hcn mono (fun g nd nv s9 hl=>hY g nd nv s9 (I1.1.t h3|>.t hl)) (mono _ _ _ hI1 (Lr D)) (Option.isNone_iff_eq_none.1 As) A1 n1 p1 x.exprs lp (hax.le h3) (by have e1:=hcn _ _ _ hst;omega)) ?_
  rintro _ _ s5 h5 ⟨g2,hr2,rfl,rfl,hI2⟩
  refine Yg Z Z<|qpH Z Z<|YqF Z Z Z<|Yn<|Yt<|?_
  refine qjb Z (fun c6=>?_) (fun c6=>?_)
  ·
   have q33:=c6
   refine Ys<|Yr<|Yqa Z Z<|Yn<|Yt<|Yo<|Yu<|Yc<|Yu<|Yu<|Yc<|Yu<|?_
   refine qbZ [] _ (.inr Z) (.t1 Z) Z (I1.1.t h3|>.t h5) ⟨[],Z,List.nil_sublist _⟩ fun _ hS2=>?_
   exact ⟨g2,hrun g2 (by rw [qdr hx];exact ⟨g1,hst,by rw [if_pos As];exact qct As (qct As hr2 As) As⟩),(show qat [Value.bool false]=.bool (pend g2).isNone by rw [show (pend g2).isNone=false by assumption];rfl),rfl,mono _ _ _ hI2 ((Lr D).t hS2)⟩
  have q33:=c6
  refine Yk<|Yt<|Ys<|Yr<|Yqm Z Z<|Yqa Z Z<|Yn<|Yt<|Ys<|Ys<|Yr<|Yqm Z Z<|qst Z Z<|Yqf0 Z Z Z Z Z<|qcm (qah Z Z Z (hcx.le (h3.t h5)) Z) Z<|Yqeq Z Z Z<|Yn<|Yt<|?_
  refine qiG Z (fun c7=>?_) (fun c7=>?_)
  ·
   have hlI:lpI x lp=lp+1:=if_pos c7
   have hlI2:lpI x lp≤lv+1:=by omega
   refine Yr<|Yqm Z Z<|qcm (qaR Z Z (show IntKind.i64.wrap ((lp:Int)+1)=((lpI x lp:Nat):Int) by rw [w64 O O];omega)) Z<|Yqa Z Z<|Yn<|Yt<|Ys<|Yr<|Yqm Z Z<|qst Z Z<|qcm (qbs Z Z Z Z) Z<|qcm (qaC 3 Z Z Z (hcx.le (h3.t h5)) Z) Z<|Yqm Z Z<|Yqm Z Z<|?_
   refine Rc9 Z Z Z (ih e hd _ σ H I pend St l g2 cnt B hcn mono (fun g nd nv s9 hl=>hY g nd nv s9 (I1.1.t h3|>.t h5|>.t hl)) (mono _ _ _ hI2 (Lr D)) (Option.isNone_iff_eq_none.1 As) A2 n2 p2 x.body (lpI x lp) (lv+1) (hbx.le (h3.t h5)) hvB hlI2 (by have e1:=hcn _ _ _ hst;have e2:=qb9 hcn hr2;omega)) ?_
   rintro _ _ s8 h8 ⟨g3,hr3,rfl,rfl,hI3⟩
     
   refine qpH Z Z<|Yqm Z Z<|?_
   refine qfv (t:=50) Z (fun c9=>?_) (fun c9=>?_)
   ·
    refine Yf Z Z Z Z<|Yf Z Z Z Z<|Yf Z Z Z Z<|Yf Z Z Z Z<|Yf Z Z Z Z<|Yf Z Z Z Z<|Yf Z Z Z Z<|Yf Z Z Z Z<|YqT Z Z Z<|Yn<|Yt<|Yy Z<|?_
    have q59:=trivial
    refine Ys<|Yr<|Yqa Z Z<|Yn<|Yt<|Yo<|Yc<|Yu<|Yu<|Yc<|Yu<|?_
    refine qbZ [] _ (.inr Z) (.t1 Z) Z (I1.1.t h3|>.t h5|>.t h8) ⟨[],Z,List.nil_sublist _⟩ fun _ hS2=>?_
    exact ⟨g3,hrun g3 (by rw [qdr hx];exact ⟨g1,hst,by rw [if_pos As];exact qct As (qcx As hr2 As (qct As hr3 As)) As⟩),(show qat [Value.bool false]=.bool (pend g3).isNone by rw [show (pend g3).isNone=false by assumption];rfl),rfl,mono _ _ _ hI3 ((Lr D).t hS2)⟩
   refine Yg Z Z<|Yqm Z Z<|Yg Z Z<|qst Z Z<|Yg Z Z<|qcm (qbs Z Z Z Z) Z<|Yg Z Z<|qcm (qaC 4 Z Z Z (hcx.le (h3.t h5|>.t h8)) Z) Z<|Yg Z Z<|Yqm Z Z<|Yg Z Z<|Yqm Z Z<|Yg Z Z<|Rc9 Z Z Z (ih e hd _ σ H I pend St l g3 cnt B hcn mono (fun g nd nv s9 hl=>hY g nd nv s9 (I1.1.t h3|>.t h5|>.t h8|>.t hl)) (mono _ _ _ hI3 (Lr D)) (Option.isNone_iff_eq_none.1 As) A3 n3 p3 x.els (lpI x lp) (lv+1) (hex.le (h3.t h5|>.t h8)) hvL hlI2 (by have e1:=hcn _ _ _ hst;have e2:=qb9 hcn hr2;have e3:=qb9 hcn hr3;omega)) ?_
   rintro _ _ s10 h10 ⟨g4,hr4,rfl,rfl,hI4⟩
      
   refine Yg Z Z<|qpH Z Z<|YqF Z Z Z<|Yn<|Yt<|?_
   refine qjb Z (fun c11=>?_) (fun c11=>?_)
   ·
    have q59:=c11
    refine Ys<|Yr<|Yqa Z Z<|Yn<|Yt<|Yo<|Yc<|Yu<|Yu<|Yc<|Yu<|?_
    refine qbZ [] _ (.inr Z) (.t1 Z) Z (I1.1.t h3|>.t h5|>.t h8|>.t h10) ⟨[],Z,List.nil_sublist _⟩ fun _ hS2=>?_
    exact ⟨g4,hrun g4 (by rw [qdr hx];exact ⟨g1,hst,by rw [if_pos As];exact qct As (qcx As hr2 As (qcx As hr3 As hr4)) As⟩),(show qat [Value.bool false]=.bool (pend g4).isNone by rw [show (pend g4).isNone=false by assumption];rfl),rfl,mono _ _ _ hI4 ((Lr D).t hS2)⟩
   have q59:=c11
   refine Yk<|Yb<|Yt<|Yr<|qlD Z Z Z (w64 O O)<|Yqm Z Z<|Yn<|?_
   refine qfW ⟨Z,(g4,k+1),[],(.c6 Z Z Z Z Z Z (.nil _)),Z,⟨(I1.1.t h3|>.t h5|>.t h8|>.t h10),⟨by simp only;omega,mono _ _ _ hI4 (Lr D),(Option.isNone_iff_eq_none.1 As),by have e1:=hcn _ _ _ hst;have e2:=qb9 hcn hr2;have e3:=qb9 hcn hr3;have e4:=qb9 hcn hr4;simp only;omega,fun g' h=>hrun g' (by rw [qdr hx];exact ⟨g1,hst,by rw [if_pos As];exact qcx As (qcx As hr2 As (qcx As hr3 As hr4)) As h⟩)⟩⟩,Oz⟩
  have hlI:lpI x lp=lp:=if_neg c7
  have hlI2:lpI x lp≤lv+1:=by omega
  refine Yk<|Yt<|Ys<|Yr<|Yqm Z Z<|qst Z Z<|qcm (qbs Z Z Z Z) Z<|qcm (qaC 3 Z Z Z (hcx.le (h3.t h5)) Z) Z<|Yqm Z Z<|Yqm Z Z<|Rc9 Z Z Z ((by have h9:=ih e hd _ σ H I pend St l g2 cnt B hcn mono (fun g nd nv s9 hl=>hY g nd nv s9 (I1.1.t h3|>.t h5|>.t hl)) (mono _ _ _ hI2 (Lr D)) (Option.isNone_iff_eq_none.1 As) A2 n2 p2 x.body (lpI x lp) (lv+1) (hbx.le (h3.t h5)) hvB hlI2 (by have e1:=hcn _ _ _ hst;have e2:=qb9 hcn hr2;omega);rw [hlI] at h9;exact h9)) ?_
  rintro _ _ s12 h12 ⟨g3,hr3,rfl,rfl,hI3⟩
  rw [← hlI] at hr3
  refine qpH Z Z<|Yqm Z Z<|?_
  refine qfv (t:=50) Z (fun c13=>?_) (fun c13=>?_)
  ·
   refine Yf Z Z Z Z<|Yf Z Z Z Z<|Yf Z Z Z Z<|Yf Z Z Z Z<|Yf Z Z Z Z<|Yf Z Z Z Z<|Yf Z Z Z Z<|Yf Z Z Z Z<|YqT Z Z Z<|Yn<|Yt<|Yy Z<|?_
   have q59:=trivial
   refine Ys<|Yr<|Yqa Z Z<|Yn<|Yt<|Yo<|Yc<|Yu<|Yu<|Yc<|Yu<|?_
   refine qbZ [] _ (.inr Z) (.t1 Z) Z (I1.1.t h3|>.t h5|>.t h12) ⟨[],Z,List.nil_sublist _⟩ fun _ hS2=>?_
   exact ⟨g3,hrun g3 (by rw [qdr hx];exact ⟨g1,hst,by rw [if_pos As];exact qct As (qcx As hr2 As (qct As hr3 As)) As⟩),(show qat [Value.bool false]=.bool (pend g3).isNone by rw [show (pend g3).isNone=false by assumption];rfl),rfl,mono _ _ _ hI3 ((Lr D).t hS2)⟩
  refine Yg Z Z<|Yqm Z Z<|Yg Z Z<|qst Z Z<|Yg Z Z<|qcm (qbs Z Z Z Z) Z<|Yg Z Z<|qcm (qaC 4 Z Z Z (hcx.le (h3.t h5|>.t h12)) Z) Z<|Yg Z Z<|Yqm Z Z<|Yg Z Z<|Yqm Z Z<|Yg Z Z<|?_
  refine Rc9 Z Z Z ((by have h9:=ih e hd _ σ H I pend St l g3 cnt B hcn mono (fun g nd nv s9 hl=>hY g nd nv s9 (I1.1.t h3|>.t h5|>.t h12|>.t hl)) (mono _ _ _ hI3 (Lr D)) (Option.isNone_iff_eq_none.1 As) A3 n3 p3 x.els (lpI x lp) (lv+1) (hex.le (h3.t h5|>.t h12)) hvL hlI2 (by have e1:=hcn _ _ _ hst;have e2:=qb9 hcn hr2;have e3:=qb9 hcn hr3;omega);rw [hlI] at h9;exact h9)) ?_
  rintro _ _ s14 h14 ⟨g4,hr4,rfl,rfl,hI4⟩
  rw [← hlI] at hr4
  refine Yg Z Z<|qpH Z Z<|YqF Z Z Z<|Yn<|Yt<|?_
  refine qjb Z (fun c15=>?_) (fun c15=>?_)
  ·
   have q59:=c15
   refine Ys<|Yr<|Yqa Z Z<|Yn<|Yt<|Yo<|Yc<|Yu<|Yu<|Yc<|Yu<|?_
   refine qbZ [] _ (.inr Z) (.t1 Z) Z (I1.1.t h3|>.t h5|>.t h12|>.t h14) ⟨[],Z,List.nil_sublist _⟩ fun _ hS2=>?_
   exact ⟨g4,hrun g4 (by rw [qdr hx];exact ⟨g1,hst,by rw [if_pos As];exact qct As (qcx As hr2 As (qcx As hr3 As hr4)) As⟩),(show qat [Value.bool false]=.bool (pend g4).isNone by rw [show (pend g4).isNone=false by assumption];rfl),rfl,mono _ _ _ hI4 ((Lr D).t hS2)⟩
  have q59:=c15
  refine Yk<|Yb<|Yt<|Yr<|qlD Z Z Z (w64 O O)<|Yqm Z Z<|Yn<|?_
  refine qfW ⟨Z,(g4,k+1),[],(.c6 Z Z Z Z Z Z (.nil _)),Z,⟨(I1.1.t h3|>.t h5|>.t h12|>.t h14),⟨by simp only;omega,mono _ _ _ hI4 (Lr D),(Option.isNone_iff_eq_none.1 As),by have e1:=hcn _ _ _ hst;have e2:=qb9 hcn hr2;have e3:=qb9 hcn hr3;have e4:=qb9 hcn hr4;simp only;omega,fun g' h=>hrun g' (by rw [qdr hx];exact ⟨g1,hst,by rw [if_pos As];exact qcx As (qcx As hr2 As (qcx As hr3 As hr4)) As h⟩)⟩⟩,Oz⟩
 rw [List.drop_eq_nil_of_le O,qcz] at hrun
 refine Yl<|Yv<|Yv<|Yd<|Yt<|Ys<|Yr<|Yqa Z Z<|Yn<|Yt<|Yo<|?_
 refine qbZ [] _ (.inr Z) (.t1 Z) Z I1.1 ⟨[],Z,List.nil_sublist _⟩ fun _ hS2=>?_
 exact ⟨g,hrun g rfl,by rw [hpg];rfl,rfl,mono _ _ _ hIg ((Lr D).t hS2)⟩
theorem isc(D:Nat):∀ d,ISC D d
 | 0=>fun s σ H I pend St l g0 cnt B hcn mono hY hI hp A n c xs lp lv hA hv hlp hBn=>qmo D 0 (fun e h=>by omega) s σ H I pend St l g0 cnt B hcn mono hY hI hp A n c xs lp lv hA hv hlp hBn
 | d+1=>fun s σ H I pend St l g0 cnt B hcn mono hY hI hp A n c xs lp lv hA hv hlp hBn=>qmo D (d+1) (fun e h=>(show d=e by omega)▸isc D d) s σ H I pend St l g0 cnt B hcn mono hY hI hp A n c xs lp lv hA hv hlp hBn
theorem qqn(D:Nat)(s:World)(σ:Type)(H:σ→Hl)(I:σ→World→Prop)(pend:σ→Option Code)(Sr:σ→Nd→σ→Prop)(l:Nat)(g0:σ)(cnt:σ→Nat)(B:Nat)(hcn:∀ g nd g1,Sr g nd g1→cnt g1≤cnt g+1)(mono:∀ g s s',I g s→Le D s s'→I g s')(hY:∀ g nd nv s',Le D s s'→I g s'→pend g=none→cnt g < B→NdV s' nd nv→YC prog D l [nv] (H g) s' fun v L' s3=>∃ g1,Sr g nd g1∧v=.bool (pend g1).isNone∧L'=H g1∧I g1 s3)(hI:I g0 s)(hp:pend g0=none)(b d:Nat)(x:Fnc)(A1 A2 A3:Option Addr)(n1 q1 n2 q2 n3 q3:Nat)(hcb:CellsAt s b 0 [St x.name,.slice A1 n1 q1,.slice A2 n2 q2,.slice A3 n3 q3])(hB:Stms d s A3 n3 q3 x.body)(hv:qdN x.body 1=true)(hBn:cnt g0+(qcz x.body 0).length≤B):AC prog D 80 [.func (.yield l) #[] #[],.pointer (some ⟨b,0,none⟩)] (H g0) s fun _ L' s3=>∃ g',qgl pend Sr g0 (qcz x.body 0) g'∧L'=H g'∧I g' s3:=by
 refine qez (fn:=f80) qao func80 V Z ntmps80 Z (rs:=[]) Z [(0,_),(1,_)] Z<|Yr<|qcm (qbs Z Z Z Z) Z<|qcm (qaC 3 Z Z Z (hcb.le (Lr D)) Z) Z<|Yqm Z Z<|Rc9 Z Z Z (isc D d _ σ H I pend Sr l g0 cnt B hcn mono (fun g nd nv s9 hl=>hY g nd nv s9 ((Lr D).t hl)) (mono _ _ _ hI (Lr D)) hp A3 n3 q3 x.body 0 1 (hB.le (Lr D)) hv O hBn) ?_
 rintro _ _ s1 h1 ⟨g2,hr2,rfl,rfl,hI2⟩
 refine Yn ?_
 refine qbZ [] _ (.inl Z) (.nil) Z h1 ⟨[],Z,List.nil_sublist _⟩ fun _ hS2=>?_
 exact ⟨g2,hr2,rfl,mono _ _ _ hI2 ((Lr D).t hS2)⟩
theorem qqH(D:Nat)(L:Hl)(s:World)(x:Fnc)(A1 A2 A3:Option Addr)(n1 q1 n2 q2 n3 q3:Nat):AC prog D 45 [.agg #[St x.name,.slice A1 n1 q1,.slice A2 n2 q2,.slice A3 n3 q3]] L s fun v L' _=>∃ M',L'=M'++L∧∃ b,M'=[(b,cb [St x.name,.slice A1 n1 q1,.slice A2 n2 q2,.slice A3 n3 q3] 57)]∧v=.func (.func 80) #[] #[.pointer (some ⟨b,0,none⟩)]:=by
 refine qai (fn:=f45) qao func45 V Z ntmps45 Z (rs:=[.tmp 2]) Z [(0,_)] Z<|Sr<|qaq Z Z ?_
 intro β1 s1 h1
 refine At Z Z<|Sr<|qac (qbu Z) Z<|At Z Z<|Zo<|?_
 refine rR [] _ (.t1 Z) Z h1 fun _ hS2=>?_
 exact ⟨[_],rfl,_,rfl,rfl⟩
theorem qmI(D:Nat)(L:Hl)(s:World)(d:Nat)(p:Prg)(Ag Af:Option Addr)(ng cg nf cf:Nat)(hGl:Glos s Ag ng cg p.globals)(hFn:Fncs d s Af nf cf p.funcs)(bm:Nat)(hM:NmOK s bm p)(x:Fnc)(A1 A2 A3:Option Addr)(n1 q1 n2 q2 n3 q3:Nat)(hs1:Strs s A1 n1 q1 x.params)(hs2:Strs s A2 n2 q2 x.locals)(nd:Nd)(nv:Value)(hN:NdV s nd nv):AC prog D 46 [.agg #[.slice Ag ng cg,.slice Af nf cf,.map (some bm)],.agg #[St x.name,.slice A1 n1 q1,.slice A2 n2 q2,.slice A3 n3 q3],nv] L s fun v L' _=>v=.int .i64 (ndC p x nd)∧L=L':=by
 cases nd with
 | st y lp=>
  obtain ⟨b,o,C1,r1,e1,C2,r2,e2,C3,r3,e3,rfl,hy,hr⟩:=hN
  exact qqE D L s d p Ag Af ng cg nf cf hGl hFn bm hM x A1 A2 A3 n1 q1 n2 q2 n3 q3 hs1 hs2 y b o C1 C2 C3 r1 e1 r2 e2 r3 e3 hy hr lp
 | ex y lp=>
  obtain ⟨b,o,C1,r1,e1,rfl,hy,hr⟩:=hN
  exact qq9 D L s d p Ag Af ng cg nf cf hGl hFn bm hM x A1 A2 A3 n1 q1 n2 q2 n3 q3 hs1 hs2 y b o C1 r1 e1 hy hr lp
theorem qkV:∀ {l:List Glo} {seen:List Str} {i:Nat},seen.Nodup→qfe l seen i=(0,0)→(seen++l.map Glo.name).Nodup
  | [],seen,_,h,_=>by simpa using h
  | g::r,seen,i,h,h0=>by
    rw [qfe] at h0
    split at h0
    · cases h0
    · rename_i h1
      have:=qkV (l:=r) (seen:=seen++[g.name]) (by
        rw [List.nodup_append]
        refine ⟨h,by simp,fun a ha b hb=>?_⟩
        rw [List.mem_singleton] at hb;subst hb
        intro e;subst e;exact h1 ha) h0
      simpa using this
theorem qmg:∀ {l:List Fnc} {seen:List Str} {i:Nat},seen.Nodup→qfb l seen i=(0,0)→(seen++l.map Fnc.name).Nodup∧∀ x∈l,(x.params++x.locals).Nodup
  | [],seen,_,h,_=>⟨by simpa using h,fun x hx=>by cases hx⟩
  | g::r,seen,i,h,h0=>by
    rw [qfb] at h0
    split at h0
    · cases h0
    · rename_i h1
      have:=qmg (l:=r) (seen:=seen++[g.name]) (by
        rw [List.nodup_append]
        refine ⟨h,by simp,fun a ha b hb=>?_⟩
        rw [List.mem_singleton] at hb;subst hb
        intro e;subst e;exact h1 (.inl ha)) h0
      refine ⟨by simpa using this.1,fun x hx=>?_⟩
      rcases List.mem_cons.1 hx with rfl | hx
      · exact Decidable.not_not.1 fun h2=>h1 (.inr h2)
      · exact this.2 x hx
theorem qgJ{p:Prg}(h:(qbU p).1=0):((ents p).map (·.1)).Nodup∧∀ x∈p.funcs,(x.params++x.locals).Nodup:=by
 unfold qbU at h
 split at h
 · rename_i h1;exact absurd h h1
 rename_i h1
 split at h
 · rename_i h2;exact absurd h h2
 rename_i h2
 have e1:=qkV (l:=p.globals) (seen:=[]) (i:=0) (by simp) ((qk4 (p:=p)).1 (by simpa using h1))
 have e2:=qmg (l:=p.funcs) (seen:=p.globals.map Glo.name) (i:=p.globals.length) (by simpa using e1) ((qk4 (p:=p)).2 (by simpa using h2))
 refine ⟨?_,e2.2⟩
 have:(ents p).map (·.1)=p.globals.map Glo.name++p.funcs.map Fnc.name:=by
  rw [ents,List.map_append]
  congr 1 <;> (apply List.ext_getElem <;> simp)
 rw [this];exact e2.1
end Go.Proofs.YtpdnijphccdiiaaGreatDoor
namespace Go.FL
open Go Go.RowKit
theorem qiD(A R:Hl)(l:Nat)(o o':Obj):qdl (A++(l,o)::R) A.length o'=A++(l,o')::R:=by
 induction A with
 | nil=>rfl
 | cons x A ih=>show x::qdl (A++(l,o)::R) A.length o'=_;rw [ih];rfl
section calls
variable{P:Program}{TT:qaZ}{D n:Nat}{Q:qdo}{ds:List Deferred}{fr:Fr}{L:Hl}{s:World}
section range
variable{σ α:Type}(H:σ→Hl)(I:σ→World→Prop)(pend:σ→Option Code)(St:σ→α→σ→Prop)(enc:α→List Value)(Pre:σ→α→World→Prop)(Fin:σ→Prop)
theorem qlI{AR:α→Fr→Hl→Prop}{g:Operand}{ps:List Nat}{assign body:Code}{fi:FuncId}{cap:List Value}(hg:lk fr g=some (.func (.func fi) #[] cap.toArray))(g0:σ)(hL:L=H g0)(hI0:I g0 s)(hp0:pend g0=none)
    (mono:∀ g s s',I g s→Le D s s'→I g s') (hpd:∀ g,pend g=none∨pend g=some .ret∨∃ id,pend g=some (.exit id))
    (hps:∀ p,(enc p).length=ps.length) (hpn:ps.all (fun t=>Nat.blt t n)=true)
    (hassign:∀ (l:Nat) (p:α) (L':Hl) (s':World),RC P TT D n (some l) (fun e ds' fr' L1 s1=>e=.normal∧ds'=[]∧(∃ A,AR p fr' A∧L1=A++L')∧Le D s' s1) assign [] (qo5 fr ps (enc p)) L' s')
    (hbody:∀ (l dk:Nat) (o1 o2:Obj) (g:σ) (p:α) (s' s0:World) (fr1:Fr) (A1:Hl),Le D s s'→Le D s' s0→I g s'→pend g=none→Pre g p s'→AR p fr1 A1 →
      RC P TT D n (some l) (fun e _ _ L1 s1=>∃ g1,St g p g1∧jmp e=some (pend g1)∧∃ A,L1=A++((l,o1)::(dk,o2)::H g1)∧Le D s0 s1∧I g1 s1) body [] fr1 (A1++((l,o1)::(dk,o2)::H g)) s0)
    (hit:∀ (l:Nat) (HH:σ→Hl) (s':World),Le D s s'→(∀ g p s'',Le D s s''→I g s''→pend g=none→Pre g p s''→YC P D l (enc p) (HH g) s'' fun v L' s3=>∃ g1,St g p g1∧v=.bool (pend g1).isNone∧L'=HH g1∧I g1 s3) →
      AC P D fi (.func (.yield l) #[] #[]::cap) (HH g0) s' fun _ L' s3=>∃ g',Fin g'∧L'=HH g'∧I g' s3)
    (hpost:∀ (dk:Nat) (g':σ) (s3:World),Le D s s3→Fin g'→I g' s3→Q (quA (pend g')) (qfU dk::ds) fr ((dk,Obj.deferred (some []))::H g') s3) :
    RC P TT D n none Q (.rangeFunc g ps.toArray assign body) ds fr L s:=fun hT a hr ho=>by
  subst hL
  refine wpIn_rangeFunc ?_
  intro fn _
  have hro:(fro none).round=none:=rfl
  rw [hro]
  -- the two blocks
  obtain ⟨a1,a2,a3⟩:=qaH ho (Obj.deferred (some []))
  obtain ⟨rec,hrec⟩:∃ rec:LoopState→Option Code→Loop,rec=fun st pe=>{ state:=st,pending:=pe,fn,tmps:=a.tmps,params:=ps.toArray,assign,body,defers:=(fill (H g0) s).heap.size }:=⟨_,rfl⟩
  obtain ⟨b1,b2,b3⟩:=qaH a2 (Obj.loop (rec .ready none))
  obtain ⟨dk,hdk⟩:∃ dk,dk=s.heap.size:=⟨_,rfl⟩
  obtain ⟨l,hl⟩:∃ l,l=(s.alloc (dum D)).heap.size:=⟨_,rfl⟩
  rw [← hdk,← hl] at b1 b2
  rw [← hdk] at a1
  have hfs:(fill (H g0) s).heap.size=dk:=by rw [qaG,hdk]
  obtain ⟨HH,hHH⟩:∃ HH:σ→Hl,HH=fun g=>(l,Obj.loop (rec (if (pend g).isNone then .ready else .done) (pend g)))::(dk,Obj.deferred (some []))::H g:=⟨_,rfl⟩
  have hst0:HH g0=(l,Obj.loop (rec .ready none))::(dk,Obj.deferred (some []))::H g0:=by rw [hHH];simp only [hp0,Option.isNone_none,if_true]
  obtain ⟨s2,hs2⟩:∃ s2,s2=(s.alloc (dum D)).alloc (dum D):=⟨_,rfl⟩
  rw [← hs2] at b1 b2 b3
  have hle2:Le D s s2:=a3.trans b3
  -- a round
  have hY:∀ g p s'',Le D s s''→I g s''→pend g=none→Pre g p s''→YC P D l (enc p) (HH g) s'' fun v L' s3=>∃ g1,St g p g1∧v=.bool (pend g1).isNone∧L'=HH g1∧I g1 s3:=by
    intro g p s'' hls hI hpn0 hPre hoY
    have eH:HH g=(l,Obj.loop (rec .ready none))::(dk,Obj.deferred (some []))::H g:=by rw [hHH];simp only [hpn0,Option.isNone_none,if_true]
    rw [eH] at hoY ⊢
    have hrl:(fill ((l,Obj.loop (rec .ready none))::(dk,Obj.deferred (some []))::H g) s'').heap[l]?=some (.loop (rec .ready none)):=qa8 hoY Mc
    have hsz:((enc p).toArray).size=(rec .ready none).params.size:=by rw [hrec];simp [hps p]
    refine ⟨_,_,_,_,run_yield hrl hsz,?_⟩
    have hro2:RoundIn (fro none) 0 P l (rec .ready none).fn (((rec .ready none).params.zip (enc p).toArray).foldl (fun tmps x=>tmps.setIfInBounds x.1 x.2) (rec .ready none).tmps) (rec .ready none).assign (rec .ready none).body (fill ((l,Obj.loop (rec .ready none))::(dk,Obj.deferred (some []))::H g) s'') fun e w'=>∃ v L' s',e=.returned v∧w'=fill L' s'∧OKL D L' s'∧Le D s'' s'∧(∃ g1,St g p g1∧v=.bool (pend g1).isNone∧L'=HH g1∧I g1 s'):=by
      refine roundIn_of_wpIn Tt ?_
      have e1:(rec .ready none).assign=assign:=by rw [hrec]
      have e2:(rec .ready none).body=body:=by rw [hrec]
      have e3:((rec .ready none).params.zip (enc p).toArray).foldl (fun tmps x=>tmps.setIfInBounds x.1 x.2) (rec .ready none).tmps=(ps.zip (enc p)).foldl (fun tmps x=>tmps.setIfInBounds x.1 x.2) a.tmps:=by
        rw [hrec];simp
      rw [e1,e2,e3]
      have hfr:FrD [] n { tmps:=(ps.zip (enc p)).foldl (fun tmps x=>tmps.setIfInBounds x.1 x.2) a.tmps,defers:=[] } (qo5 fr ps (enc p)):=by
        refine ⟨qj4 n (ps.zip (enc p)) fr a hr.rel ?_,Z⟩
        rw [List.all_eq_true] at hpn ⊢
        intro x hx
        exact hpn x.1 (List.of_mem_zip hx).1
      refine wpIn_mono (hassign l p _ s'' hT _ hfr hoY) ?_
      rintro e a1 w1 ⟨ds1,fr1,L1,s1,k1,k2,rfl,rfl,rfl,⟨A1,k3,rfl⟩,k4⟩
      -- the round begins
      have hrl1:(fill (A1++((l,Obj.loop (rec .ready none))::(dk,Obj.deferred (some []))::H g)) s1).heap[l]?=some (.loop (rec .ready none)):=qa8 k2 (List.mem_append_right _ Mc)
      have hst:(rec .ready none).state=.ready:=by rw [hrec]
      refine ⟨_,run_beginRound hrl1 hst,?_⟩
      obtain ⟨ob,hob⟩:∃ ob,ob=Obj.loop { rec .ready none with state:=.busy }:=⟨_,rfl⟩
      rw [qdm,← hob,← qcr k2 (i:=A1.length) (p:=Obj.loop (rec .ready none)) (by simp) ob]
      have ho3:=qdQ k2 A1.length ob
      rw [qiD] at ho3 ⊢
      refine wpIn_mono (hbody l dk ob (Obj.deferred (some [])) g p s'' s1 fr1 A1 hls k4 hI hpn0 hPre k3 hT _ k1 ho3) ?_
      rintro e2 a2 w2 ⟨ds2,fr2,L2,s2',j1,j2,rfl,g1,jst,jj,A,rfl,jle,jI⟩
      obtain ⟨d1,d2,d3⟩:=qbm j2
      have hend:∀ j:Option Code,pend g1=j→∃ v w',(Instr.endRound l j).run P (fill (A++((l,ob)::(dk,Obj.deferred (some []))::H g1)) s2')=.ok v w'∧(∃ v' L' s',Ending.returned v=.returned v'∧w'=fill L' s'∧OKL D L' s'∧Le D s'' s'∧(∃ g1,St g p g1∧v'=.bool (pend g1).isNone∧L'=HH g1∧I g1 s')):=by
        intro j hj
        have hrl2:(fill ((l,ob)::(dk,Obj.deferred (some []))::H g1) (fill A s2')).heap[l]?=some (.loop { rec .ready none with state:=.busy }):=by rw [qa8 d2 Mc,hob]
        rw [d1]
        refine ⟨_,_,run_endRound j hrl2,_,HH g1,fill A s2',Z,?_,?_,k4.trans (jle.trans d3),g1,jst,by rw [hj],Z,mono _ _ _ jI d3⟩
        · rw [qdm,← qcr d2 (i:=0) rfl]
          simp only [qdl,hHH,hj]
          congr 3
          rw [hrec]
        · have:=qdQ d2 0 (Obj.loop (rec (if (pend g1).isNone then .ready else .done) (pend g1)))
          simp only [qdl] at this
          rw [hHH];exact this
      cases e2 with
      | normal=>exact hend none (by simpa [jmp] using jj.symm)
      | ret=>exact hend (some .ret) (by simpa [jmp] using jj.symm)
      | exit id=>exact hend (some (.exit id)) (by simpa [jmp] using jj.symm)
      | goto t=>cases jj
      | panic c=>cases jj
      | outgrown=>cases jj
    exact hro2
  have hAC:=hit l HH s2 hle2 hY
  obtain ⟨⟨fn0,h1,h2,h3⟩,hc⟩:=hAC
  have h2':¬ fn0.name = "runtime.NumGoroutine" := by simpa using h2
  have h3':¬ fn0.body=none:=by intro e;simp [e] at h3
  have hev:=hr.ev hg
  have hworld:((fill (H g0) s).alloc (.deferred (some []))).alloc (.loop (rec .ready none))=fill (HH g0) s2:=by rw [hst0,← b1,← a1]
  have hen:(Instr.enterLoop fn a.tmps ps.toArray assign body none).run P (fill (H g0) s)=.ok (l,[qfU dk]) (fill (HH g0) s2):=by
    rw [run_enterLoop_outer,← hworld]
    have e1:(fill (H g0) s).heap.size+1=l:=by rw [hfs,hl,World.size_alloc,hdk]
    rw [e1,qfU,← hfs,hrec]
  refine ⟨l,[qfU dk],fill (HH g0) s2,{ target:=.fn (.func fi) cap.toArray,args:=#[.func (.yield l) #[] #[]] },fill (HH g0) s2,fi,(.func (.yield l) #[] #[]::cap).toArray,fill (HH g0) s2,hen,?_,fun f _=>qe8 none f,?_,qex none 0,?_⟩
  · simp only [resolve,hev]
    simp [go_sem]
  · simp [invoke,callFunc,h1,h2',h3']
  · have hoH:OKL D (HH g0) s2:=by rw [hst0];exact b2
    refine (qfL none _ (hc hoH)).mono ?_
    rintro e w' ⟨v,L',s3,rfl,rfl,q1,q2,g',q3,rfl,q4⟩
    have eH:HH g'=(l,Obj.loop (rec (if (pend g').isNone then .ready else .done) (pend g')))::(dk,Obj.deferred (some []))::H g':=by rw [hHH]
    rw [eH] at q1 ⊢
    have hrl:(fill ((l,Obj.loop (rec (if (pend g').isNone then .ready else .done) (pend g')))::(dk,Obj.deferred (some []))::H g') s3).heap[l]?=some (.loop (rec (if (pend g').isNone then .ready else .done) (pend g'))):=qa8 q1 Mc
    have hnb:(rec (if (pend g').isNone then .ready else .done) (pend g')).state≠.busy:=by
      rw [hrec];simp only;split <;> (intro h;cases h)
    have hpe:(rec (if (pend g').isNone then .ready else .done) (pend g')).pending=pend g':=by rw [hrec]
    have hrun:=run_endLoop (P:=P) hrl hnb
    rw [hpe] at hrun
    obtain ⟨oe,hoe⟩:∃ oe,(Instr.endLoop l).run P (fill ((l,Obj.loop (rec (if (pend g').isNone then .ready else .done) (pend g')))::(dk,Obj.deferred (some []))::H g') s3)=.ok (pend g') (qbn (fill ((l,Obj.loop (rec (if (pend g').isNone then .ready else .done) (pend g')))::(dk,Obj.deferred (some []))::H g') s3) l oe):=⟨_,hrun⟩
    refine ⟨pend g',_,hoe,?_⟩
    rw [← qcr q1 (i:=0) rfl oe]
    have ho4:=qdQ q1 0 oe
    simp only [qdl] at ho4 ⊢
    obtain ⟨d1,d2,d3⟩:=qbm (A:=[(l,oe)]) (B:=(dk,Obj.deferred (some []))::H g') ho4
    simp only [cQ9,nQ9] at d1
    rw [d1]
    have hQ:=hpost dk g' (fill [(l,oe)] s3) (hle2.trans (q2.trans d3)) q3 (mono _ _ _ q4 d3)
    have hfr2:FrD (qfU dk::ds) n { a with defers:=[qfU dk]++a.defers } fr:=⟨hr.rel,by show [qfU dk]++a.defers=_;rw [hr.defers];rfl⟩
    rcases hpd g' with hp | hp | ⟨id,hp⟩
    · rw [hp] at hQ ⊢
      exact ⟨_,_,_,_,hfr2,d2,rfl,hQ⟩
    · rw [hp] at hQ ⊢
      exact wpIn_ret ⟨_,_,_,_,hfr2,d2,rfl,hQ⟩
    · rw [hp] at hQ ⊢
      exact wpIn_exit ⟨_,_,_,_,hfr2,d2,rfl,hQ⟩
end range
end calls
theorem qth{P:Program}{TT:qaZ}{D n:Nat}{ro:Option Nat}{Q:qdo}{c:Code}{ds:List Deferred}{fr fr':Fr}{L:Hl}{s:World}(h:Keeps fr fr')(k:RC P TT D n ro Q c ds fr' L s):RC P TT D n ro Q c ds fr L s:=fun ht a hr ho=>k ht a (hr.sub h) ho
theorem qqC{P:Program}{TT:qaZ}{D n:Nat}{ro:Option Nat}{Q:qdo}{ds:List Deferred}{fr:Fr}{L L':Hl}{s:World}{c:Code}(hp:L.Perm L')(h:RC P TT D n ro Q c ds fr L' s):RC P TT D n ro Q c ds fr L s:=fun ht a hr ho=>by
 rw [qa7 hp _ ho]
 exact h ht a hr (ho.perm hp)
section
variable{P:Program}{TT:qaZ}{D n:Nat}{ro:Option Nat}{Q:qdo}{ds:List Deferred}{fr:Fr}{L:Hl}{s:World}{ops:Array Oper}{rest:List Oper}{d ty:Nat}{pos:String}{af:Array Edge}{v:Value}
theorem qtk{t:Nat}{x:Operand}{zs:List Value}(hx:lk fr x=some v)(hz:qa6 v=zs)(hd:Nat.blt d n=true)
  (k:∀ β s',Le D s s'→RO P TT D n ro ops Q rest ds ((d,.pointer (some ⟨β,0,none⟩))::fr) ((β,cb zs t)::L) s'):RO P TT D n ro ops Q (⟨some d,.box t x,ty,pos,af,none⟩::rest) ds fr L s:=fun hT a hr ho=>
 qsr (by nofun) hd (qli hx hz ho) (k _ _ (qaH ho (cb zs t)).2.2) hT a hr ho
theorem qqk{t:Nat}{x:Operand}{zs:List Value}(hx:lk fr x=some (.agg zs.toArray))(hd:Nat.blt d n=true)
  (k:∀ β s',Le D s s'→RO P TT D n ro ops Q rest ds ((d,.pointer (some ⟨β,0,none⟩))::fr) ((β,cb zs t)::L) s'):RO P TT D n ro ops Q (⟨some d,.box t x,ty,pos,af,none⟩::rest) ds fr L s:=
 qtk hx (by simp [qa6]) hd k
end
end Go.FL
namespace Go.Proofs.YtpdnijphccdiiaaGreatDoor
open Go.FL
attribute [local irreducible] JC JO JA JB qaJ qaw qbM AC fill CellsAt QE Ev Mid
theorem NdV.agg{s:World}{nd:Nd}{nv:Value}(h:NdV s nd nv):∃ (pa pb:Option Addr) (lp:Nat),nv=.agg #[.pointer pa,.pointer pb,.int .i64 (lp:Int)]:=by
 cases nd with
 | st y lp=>obtain ⟨b,o,C1,r1,e1,C2,r2,e2,C3,r3,e3,rfl,hy,hr⟩:=h;exact ⟨_,_,_,rfl⟩
 | ex y lp=>obtain ⟨b,o,C1,r1,e1,rfl,hy,hr⟩:=h;exact ⟨_,_,_,rfl⟩
theorem NdV.le{D:Nat}{s s':World}{nd:Nd}{nv:Value}(h:NdV s nd nv)(hl:Le D s s'):NdV s' nd nv:=by
 cases nd with
 | st y lp=>obtain ⟨b,o,C1,r1,e1,C2,r2,e2,C3,r3,e3,rfl,hy,hr⟩:=h;exact ⟨b,o,C1,r1,e1,C2,r2,e2,C3,r3,e3,rfl,hy.le hl,hr⟩
 | ex y lp=>obtain ⟨b,o,C1,r1,e1,rfl,hy,hr⟩:=h;exact ⟨b,o,C1,r1,e1,rfl,hy.le hl,hr⟩
theorem qfu:∀ (l:List Ex) (lp:Nat),(qd2 l lp).length=qdD l
 | [],_=>rfl
 | .mk k o n nm ar::r,lp=>by rw [qd2,ndX,qdD,exN,List.length_append,List.length_cons,qfu ar,qfu r];omega
theorem qfp:∀ (l:List Stm) (lp:Nat),(qcz l lp).length=qch l
 | [],_=>rfl
 | .mk k nm es b e::r,lp=>by rw [qcz,ndS,qch,stN,List.length_append,List.length_cons,List.length_append,List.length_append,qfu es,qfp b,qfp e,qfp r];omega
def qfo(p:Prg)(x:Fnc):List Nd→Int
 | []=>0
 | n::r=>if ndC p x n=0 then qfo p x r else ndC p x n
def qi4(p:Prg):List Fnc→Nat→Int×Int
 | [],_=>(0,0)
 | x::r,i=>if qfo p x (qcz x.body 0)=0 then qi4 p r (i+1) else (qfo p x (qcz x.body 0),(i:Int))
def qcN(p:Prg):Int×Int:=if (qeK p).1≠0 then qeK p else if (qbU p).1≠0 then qbU p else qi4 p p.funcs p.globals.length
theorem qgN{p:Prg}{l:List Fnc}{k i:Nat}{x:Fnc}(h:l[k]?=some x):qi4 p (l.drop k) i=if qfo p x (qcz x.body 0)=0 then qi4 p (l.drop (k+1)) (i+1) else (qfo p x (qcz x.body 0),(i:Int)):=by
 obtain ⟨hk,rfl⟩:=List.getElem?_eq_some_iff.1 h
 rw [List.drop_eq_getElem_cons hk,qi4]
theorem qhd{p:Prg}{x:Fnc}:∀ {l:List Nd},qfo p x l=0→∀ nd∈l,ndC p x nd=0
  | [],_=>fun nd h=>by cases h
  | n::r,h=>fun nd hm=>by
    rw [qfo] at h
    split at h
    · rename_i h1
      rcases List.mem_cons.1 hm with rfl | hm
      · exact h1
      · exact qhd h nd hm
    · rename_i h1;exact absurd h h1
theorem qhm{p:Prg}:∀ {l:List Fnc} {i:Nat},(qi4 p l i).1=0→qi4 p l i=(0,0)∧∀ x∈l,∀ nd∈qcz x.body 0,ndC p x nd=0
  | [],_,_=>⟨rfl,fun x h=>by cases h⟩
  | y::r,i,h=>by
    rw [qi4] at h ⊢
    split at h
    · rename_i h1
      obtain ⟨a,b⟩:=qhm h
      rw [if_pos h1]
      refine ⟨a,fun x hm=>?_⟩
      rcases List.mem_cons.1 hm with rfl | hm
      · exact qhd h1
      · exact b x hm
    · rename_i h1;exact absurd h h1
theorem qjx{p:Prg}(h:(qbU p).1=0):qbU p=(0,0):=by
  unfold qbU at h ⊢
  split at h
  · rename_i h1;exact absurd h h1
  rename_i h1
  rw [if_neg h1]
  split at h
  · rename_i h2;exact absurd h h2
  rename_i h2
  rw [if_neg h2]
  split at h
  · cases h
  rename_i h3
  rw [if_neg h3]
  split at h
  · split at h
    · rename_i h4;rw [if_pos h4]
    · cases h
  · rfl
def OKP(p:Prg):Prop:=PV p∧qbU p=(0,0)∧∀ x∈p.funcs,∀ nd∈qcz x.body 0,ndC p x nd=0
theorem OKP.of{p:Prg}(hu:prU p)(h:(qcN p).1=0):OKP p∧qcN p=(0,0):=by
 unfold qcN at h ⊢
 split at h
 · rename_i h1;exact absurd h h1
 rename_i h1
 split at h
 · rename_i h2;exact absurd h h2
 rename_i h2
 rw [if_neg h1,if_neg h2]
 obtain ⟨a,b⟩:=qhm h
 exact ⟨⟨PV.of hu (qfY (by simpa using h1)),qjx (by simpa using h2),b⟩,a⟩
abbrev qn4(g:Option Int):Option Code:=g.map fun _=>.ret
abbrev stO(p:Prg)(x:Fnc)(nd:Nd)(g1:Option Int):Prop:=g1=if ndC p x nd=0 then none else some (ndC p x nd)
theorem qlJ{p:Prg}{x:Fnc}:∀ {l:List Nd} {g':Option Int},qgl qn4 (fun _ nd g1=>stO p x nd g1) none l g'→g'=if qfo p x l=0 then none else some (qfo p x l)
  | [],g',h=>by
    have h:g'=none:=h
    rw [h,qfo,if_pos rfl]
  | n::r,g',⟨g1,h1,h2⟩=>by
    have h1:g1=if ndC p x n=0 then none else some (ndC p x n):=h1
    by_cases h3:ndC p x n=0
    · rw [if_pos h3] at h1;subst h1
      rw [show (qn4 none).isNone=true from rfl,if_pos rfl] at h2
      rw [qfo,if_pos h3];exact qlJ h2
    · rw [if_neg h3] at h1;subst h1
      rw [if_neg (by simp)] at h2
      subst h2
      rw [qfo,if_neg h3,if_neg h3]
theorem quy(D:Nat)(L:Hl)(s:World)(x:Fnc)(A1 A2 A3:Option Addr)(n1 q1 n2 q2 n3 q3:Nat):AC Tryz.prog D 45 [.agg #[St x.name,.slice A1 n1 q1,.slice A2 n2 q2,.slice A3 n3 q3]] L s fun v L' s'=>L=L'∧∃ b,v=.func (.func 80) #[] #[.pointer (some ⟨b,0,none⟩)]∧CellsAt s' b 0 [St x.name,.slice A1 n1 q1,.slice A2 n2 q2,.slice A3 n3 q3]:=by
 refine (AC.pub (qqH D L s x A1 A2 A3 n1 q1 n2 q2 n3 q3)).mono ?_
 rintro v L1 s1 _ ⟨h1,M1,s2,⟨b,rfl,h3⟩,_,h5⟩
 exact ⟨h1,b,h3,h5 _ _ _ Mc⟩
theorem qj2(D:Nat)(L:Hl)(s:World)(hG:GP s)(d:Nat)(p:Prg)(Ag Af:Option Addr)(ng cg nf cf:Nat)(hGl:Glos s Ag ng cg p.globals)(hFn:Fncs d s Af nf cf p.funcs):AC Tryz.prog D 20 [.agg #[.slice Ag ng cg,.slice Af nf cf]] L s fun v L' _=>v=.agg #[.int .i64 (qcN p).1,.int .i64 (qcN p).2]∧L=L':=by
 have hn1:=hGl.1
 have hn2:=hFn.1
 have hU:prU p:=⟨hGl.u,hFn.u⟩
 refine qez (fn:=Tryz.f20) qao Tryz.func20 V Z Tryz.ntmps20 Z (rs:=[.cell 2 33]) Z [(0,_)] Z<|Ys<|Yr<|qqk Z Z ?_
 intro β1 s1 h1
 refine qcS Z [_,_] Z Z ?_
 intro β2 s2 h2
 refine Yn<|Yt<|Ys<|Ys<|Yr<|qcm (qag 1 [_,_] Z Z Z Z Z) Z<|Rc9 Z Z Z (qiu D _ _ (hG.le (h1.t h2)) d p Ag _ ng cg nf cf (hGl.le (h1.t h2)) (hFn.le (h1.t h2))) ?_
 rintro _ _ s3 h3 ⟨rfl,rfl⟩
 refine qcS Z [_,_] Z Z ?_
 intro β4 s4 h4
 refine qga 0 [_,_] Z Z Z Z Z Z Z Z Z<|Yn<|Yt<|Ys<|Yr<|qcm (qag 0 [_,_] Z Z Z Z Z) Z<|qcm (qam [] [_,_] Z Z Z Z Z Z) Z<|qcm (qgw Z Z (qc8 _ _ _ _)) Z<|Yn<|Yt<|?_
 refine qlQ Z (fun c5=>?_) (fun c5=>?_)
 ·
  have hE:qcN p=qeK p:=if_pos (fun h=>c5 (by rw [qk7 h];exact ⟨rfl,rfl⟩))
  refine Ys<|Yr<|qcm (qag 0 [_,_] Z Z Z Z Z) Z<|qga 1 [_,_] Z Z Z Z Z Z Z Z Z<|Yn<|Yt<|Yo<|Yu<|?_
  refine qbZ (_::_::_::[]) L (.inr Z) (.agg (us:=[_,_]) 1 Z Z Z Z Z (.nil)) Z (h1.t h2|>.t h3|>.t h4) ⟨[],Z,List.nil_sublist _⟩ fun _ hS2=>?_
  exact ⟨by rw [hE];rfl,rfl⟩
 have g4:=c5
 have g14:¬ (qeK p).1≠0:=fun h=>h g4.1
 have hV:=PV.of hU (qfY g4.1)
 have hV1:=hV.1
 have hV2:=hV.2.1
 have hVf:=hV.2.2.2.1
 refine Yk<|Yt<|Ys<|Ys<|Yr<|qcm (qag 2 [_,_] Z Z Z Z Z) Z<|Rc9 Z Z Z (qqM D _ _ d p Ag _ ng cg nf cf (hGl.le (h1.t h2|>.t h3|>.t h4)) (hFn.le (h1.t h2|>.t h3|>.t h4)) hV) ?_
 rintro _ _ s6 h6 ⟨rfl,rfl⟩
 refine qcS Z [_,_] Z Z ?_
 intro β7 s7 h7
 refine qga 0 [_,_] Z Z Z Z Z Z Z Z Z<|Yn<|Yt<|Ys<|Yr<|qcm (qag 0 [_,_] Z Z Z Z Z) Z<|qcm (qam [] [_,_] Z Z Z Z Z Z) Z<|qcm (qgw Z Z (qc8 _ _ _ _)) Z<|Yn<|Yt<|?_
 refine qlQ Z (fun c8=>?_) (fun c8=>?_)
 ·
  have hE:qcN p=qbU p:=(if_neg g14).trans (if_pos (fun h=>c8 (by rw [qjx h];exact ⟨rfl,rfl⟩)))
  refine Ys<|Yr<|qcm (qag 0 [_,_] Z Z Z Z Z) Z<|qga 2 [_,_] Z Z Z Z Z Z Z Z Z<|Yn<|Yt<|Yo<|Yu<|?_
  refine qbZ (_::_::_::_::[]) L (.inr Z) (.agg (us:=[_,_]) 2 Z Z Z Z Z (.nil)) Z (h1.t h2|>.t h3|>.t h4|>.t h6|>.t h7) ⟨[],Z,List.nil_sublist _⟩ fun _ hS2=>?_
  exact ⟨by rw [hE];rfl,rfl⟩
 have g5:=c8
 have g20:¬ (qbU p).1≠0:=fun h=>h g5.1
 refine Yk<|Yt<|Ys<|Yr<|qcm (qag 3 [_,_] Z Z Z Z Z) Z<|Rc9 Z Z Z (qqe D _ _ d p Ag _ ng cg nf cf (hGl.le (h1.t h2|>.t h3|>.t h4|>.t h6|>.t h7)) (hFn.le (h1.t h2|>.t h3|>.t h4|>.t h6|>.t h7)) (qgJ g5.1).1) ?_
 rintro _ _ s9 h9 ⟨rfl,bm,rfl,hM⟩
 refine qcS Z [_,_,_] Z Z ?_
 intro β10 s10 h10
 refine qga 0 [_,_,_] Z Z Z Z Z Z Z Z Z<|Yn<|Yt<|Ys<|Ys<|Yr<|YqfB Z Z Z Z Z<|Yql 4 Z Z Z Z Z Z<|quK Z Z Z Z<|Yqm Z Z<|Yn<|Yt<|Yp<|?_
 refine qnO (γ:=Nat×List Nat) (fun g=>[(1,_),(2,_),(5,_),(25,_),(26,_),(27,.int .i64 (g.1:Int))]) (fun g=>_::_::_::_::_::(g.2.map qit++L)) (fun g=>g.2.map qfU) (fun g tw=>Le D s10 tw∧(g.1≤nf∧qi4 p p.funcs p.globals.length=qi4 p (p.funcs.drop g.1) (p.globals.length+g.1))) (fun g=>nf - g.1) (fun _ _ _ h hl=>⟨h.1.trans hl,h.2⟩) (0,[]) (.c6 Z Z Z Z Z Z (.nil _)) Z Z ⟨Le.refl _,⟨Nat.zero_le _,Z⟩⟩ ?_
 intro g s11 I11
 obtain ⟨k,bs⟩:=g
 obtain ⟨hk0,hS⟩:=I11.2
 simp only at hk0 hS
 dsimp only
 refine Ys<|Yr<|quZ Z Z Z<|Yn<|Yt<|Ys<|?_
 refine qiG Z (fun c12=>?_) (fun c12=>?_)
 ·
  have hk:k < nf:=by omega
  obtain ⟨b,off,x,B1,m1,d1,B2,m2,d2,B3,m3,d3,rfl,hx,hcx,hpx,hlx,hbx,hnl⟩:=Fncs.at_ (hFn.le (h1.t h2|>.t h3|>.t h4|>.t h6|>.t h7|>.t h9|>.t h10|>.t I11.1)) hk
  have hfx:=hVf x (List.mem_of_getElem? hx)
  refine Yk<|Yt<|Ys<|Yp<|Ys<|Yr<|Yqm Z Z<|qcm (qap Z Z Z Z Z Z hk) Z<|qcm (qau Z Z Z (hcx.le (Lr D)) Z) Z<|qcS Z [_] Z Z ?_
  intro β13 s13 h13
  refine qcS Z [_,_,_,_] Z Z ?_
  intro β14 s14 h14
  refine qga 1 [_] Z Z Z Z Z Z Z Z Z<|qga 0 [_,_,_,_] Z Z Z Z Z Z Z Z Z<|Yn<|Yt<|Ys<|Yr<|qcm (qag 0 [_,_,_,_] Z Z Z Z Z) Z<|Rc9 Z Z Z (quy D _ _ x B1 B2 B3 m1 d1 m2 d2 m3 d3) ?_
  rintro _ _ s15 h15 ⟨rfl,ba,rfl,hba⟩
  refine Yn<|Yt<|Yp<|?_
  refine qlI (σ:=Option Int) (α:=Nd×Option Addr×Option Addr×Nat) (fun g=>(β14,cb [St x.name,.slice B1 m1 d1,.slice B2 m2 d2,.slice B3 m3 d3] 57)::(β13,cb [.int .i64 (k:Int)] 3)::_::_::_::(β2,cb [.int .i64 (g.getD 0),.int .i64 (match g with | none=>0 | some _=>(ng:Int)+(k:Int))] 33)::_::(bs.map qit++L)) (fun g tw=>True) (fun g=>qn4 g) (fun g xn g1=>stO p x xn.1 g1) (fun xn=>[.agg #[.pointer xn.2.1,.pointer xn.2.2.1,.int .i64 (xn.2.2.2:Int)]]) (fun g xn tw=>NdV tw xn.1 (.agg #[.pointer xn.2.1,.pointer xn.2.2.1,.int .i64 (xn.2.2.2:Int)])) (fun g1=>g1=if qfo p x (qcz x.body 0)=0 then none else some (qfo p x (qcz x.body 0))) (AR:=(fun xn fr A=>∃ βy,Keeps fr [(8,.pointer (some ⟨βy,0,none⟩)),(1,.pointer (some ⟨β1,0,none⟩)),(2,.pointer (some ⟨β2,0,none⟩)),(5,.pointer (some ⟨β10,0,none⟩)),(6,.pointer (some ⟨β13,0,none⟩)),(7,.pointer (some ⟨β14,0,none⟩))]∧A=[(βy,cb [.pointer xn.2.1,.pointer xn.2.2.1,.int .i64 (xn.2.2.2:Int)] 111)])) (cap:=[_]) Z none Z (Tt) Z (fun _ _ _ h _=>h) (fun g=>by cases g with
    | none=>exact .inl rfl
    | some f=>exact .inr (.inl rfl)) (fun _=>rfl) rfl ?_ ?_ ?_ ?_
  ·
   intro l16 x16 L16 s16
   refine Yr<|qcS Z [_,_,_] Z Z ?_
   intro β17 s17 h17
   refine qga 0 [_,_,_] Z Z Z Z Z Z Z Z Z<|Yn ?_
   exact ⟨rfl,rfl,⟨[_],⟨_,(.cons rfl (.cons rfl (.cons rfl (.cons rfl (.cons rfl (.cons rfl (.nil _))))))),rfl⟩,rfl⟩,h17⟩
  ·
   rintro l18 d18 o18 p18 g xn s18 s19 fr18 A18 h18 h19 I18 hp18 P18 ⟨βy,hK18,rfl⟩
   refine qth hK18 ?_
   simp only [cQ9,nQ9]
   obtain ⟨nd,pa,pb,lp⟩:=xn
   have hN:=P18
   simp only at hN
   obtain rfl:g=none:=by cases g with
     | none=>rfl
     | some f=>cases hp18
   dsimp only
   refine Yp<|Ys<|Yr<|qcm (qag 5 [_,_,_] Z Z Z Z Z) Z<|qcm (qag 3 [_,_,_,_] Z Z Z Z Z) Z<|qcm (qag 0 [_,_,_] Z Z Z Z Z) Z ?_
   refine Rc9 Z Z Z (qmI D _ _ d p Ag _ ng cg nf cf (hGl.le (h1.t h2|>.t h3|>.t h4|>.t h6|>.t h7|>.t h9|>.t h10|>.t I11.1|>.t h13|>.t h14|>.t h15|>.t h18|>.t h19)) (hFn.le (h1.t h2|>.t h3|>.t h4|>.t h6|>.t h7|>.t h9|>.t h10|>.t I11.1|>.t h13|>.t h14|>.t h15|>.t h18|>.t h19)) bm (hM.le (h10.t I11.1|>.t h13|>.t h14|>.t h15|>.t h18|>.t h19)) x B1 B2 B3 m1 d1 m2 d2 m3 d3 (hpx.le (h13.t h14|>.t h15|>.t h18|>.t h19)) (hlx.le (h13.t h14|>.t h15|>.t h18|>.t h19)) nd _ (hN.le h19)) ?_
   rintro _ _ s20 h20 ⟨rfl,rfl⟩
   refine Yqa Z Z<|Yn<|Yt<|Ys<|Yr<|Yqm Z Z<|Yqne Z Z Z<|Yn<|Yt<|?_
   refine qlQ Z (fun c21=>?_) (fun c21=>?_)
   ·
    have hz:¬ ndC p x nd=0:=c21
    refine Ys<|Yr<|Yqm Z Z<|Yqf0 Z Z Z Z Z<|qcm (Wd 9 Y5) Z<|quK Z Z Z Z<|Yql 4 Z Z Z Z Z Z<|qlD Z Z Z (w64 O O)<|Rc9 Z Z Z (qcM D _ _ _ _) ?_
    rintro _ _ s22 h22 ⟨rfl,rfl⟩
    refine qga 8 [_,_] Z Z Z Z Z Z Z Z Z<|Yn<|Yt<|Yo<|Yc<|?_
    refine ⟨some (ndC p x nd),(by simp only [stO];rw [if_neg hz]),Z,[_],Z,(h20.t h22),Tt⟩
   have hz:ndC p x nd=0:=c21
   refine Yk<|Yb<|?_
   refine ⟨none,(by simp only [stO];rw [if_pos hz]),Z,[_],Z,h20,Tt⟩
  ·
   intro l23 HH s23 h23 hY
   refine (qqn D _ _ HH (fun g tw=>True) (qn4) (fun g nd g1=>stO p x nd g1) l23 none ((fun _=>0)) (qcz x.body 0).length (fun _ _ _ _=>Nat.zero_le _) (fun g s s' h hl=>h) ?_ (Tt) Z ba d x B1 B2 B3 m1 d1 m2 d2 m3 d3 (hba.le h23) (hbx.le (h13.t h14|>.t h15|>.t h23)) hfx.2.2.2.2.1 (Nat.le_of_eq (Nat.zero_add _))).mono ?_
   · intro g nd nv s2 hl2 hI2 hp2 hc2 hN2
     obtain ⟨pa,pb,lp,rfl⟩:=hN2.agg
     exact hY g (nd,pa,pb,lp) s2 (h23.trans hl2) hI2 hp2 hN2
   · rintro v L' s3 _ ⟨g',h1,h2,h3⟩
     exact ⟨g',qlJ h1,h2,h3⟩
  intro d24 g s24 h24 F24 I24
  have hF:g=if qfo p x (qcz x.body 0)=0 then none else some (qfo p x (qcz x.body 0)):=F24
  cases g with
  | some f=>
   have hbn:¬ qfo p x (qcz x.body 0)=0:=fun h=>by rw [if_pos h] at hF;cases hF
   rw [if_neg hbn] at hF
   injection hF with hF
   have hE:qcN p=(f,(ng:Int)+(k:Int)):=by
     rw [qcN,if_neg g14,if_neg g20,hS,qgN hx,if_neg hbn,← hF,hn1];simp
   refine Yc<|Yc<|Yu<|Yu<|Yc<|Yu<|?_
   refine qbZ (_::_::_::_::_::_::_::_::bs.map qit) L (.inr Z) (.agg (us:=[_,_]) 6 Z Z Z Z Z (.nil)) Z (h1.t h2|>.t h3|>.t h4|>.t h6|>.t h7|>.t h9|>.t h10|>.t I11.1|>.t h13|>.t h14|>.t h15|>.t h24) ⟨_::bs,Z,List.Sublist.cons_cons _ (List.Sublist.cons _ (List.Sublist.cons _ (List.Sublist.cons _ (List.Sublist.cons _ (List.Sublist.cons _ (List.Sublist.cons _ (List.Sublist.cons _ (List.Sublist.refl _))))))))⟩ fun _ hS2=>?_
   exact ⟨by rw [hE];rfl,rfl⟩
  | none=>
   have hbn:qfo p x (qcz x.body 0)=0:=by
     by_cases h:qfo p x (qcz x.body 0)=0
     · exact h
     · rw [if_neg h] at hF;cases hF
   refine Yb<|Yb<|Yt<|qqC (List.perm_append_comm_assoc [_] [_,_,_,_,_,_,_] _) ?_
   simp only [cQ9,nQ9]
   refine Yr<|qlD Z Z Z (w64 O O)<|Yqm Z Z<|Yn<|?_
   refine qfW ⟨(k+1,d24::bs),[_,_],Z,(.c6 Z Z Z Z Z Z (.nil _)),Z,⟨(I11.1.t h13|>.t h14|>.t h15|>.t h24),⟨by simp only;omega,by simp only;rw [hS,qgN hx,if_pos hbn];rfl⟩⟩,Oz⟩
 rw [List.drop_eq_nil_of_le O,qi4] at hS
 have hE:qcN p=(0,0):=by rw [qcN,if_neg g14,if_neg g20,hS]
 refine Yl<|Yv<|Yv<|Yd<|Yt<|Ys<|Yr<|qcm (qam [] [_,_] Z Z Z Z Z Z) Z<|qga 3 [_,_] Z Z Z Z Z Z Z Z Z<|Yn<|Yt<|Yo<|?_
 refine qbZ (_::_::_::_::_::bs.map qit) L (.inr Z) (.agg (us:=[_,_]) 3 Z Z Z Z Z (.nil)) Z (h1.t h2|>.t h3|>.t h4|>.t h6|>.t h7|>.t h9|>.t h10|>.t I11.1) ⟨bs,Z,List.Sublist.cons _ (List.Sublist.cons _ (List.Sublist.cons _ (List.Sublist.cons _ (List.Sublist.cons _ (List.Sublist.refl _)))))⟩ fun _ hS2=>?_
 exact ⟨by rw [hE];rfl,rfl⟩
open Go.Proofs.Tryz
theorem qs1(D:Nat)(L:Hl)(s:World)(l:List UInt8)(c:Int)(hl:l.length≤9223372036854775807):AC prog D 226 [St l,.int .u8 c] L s fun v L' _=>v=.bool (l.any fun x=>decide ((x.toNat:Int)=c))∧L=L':=by
 refine qai (fn:=f226) qao func226 V Z ntmps226 Z (rs:=[.tmp 4]) Z [(0,_),(1,_)] Z<|Sr<|At Z Z<|Zs<|Sr<|At Z Z<|Zp<|qav (γ:=Nat) (fun k=>[(0,_),(1,_),(4,_),(5,.int .i64 (k:Int))]) (fun _=>_) (fun k tw=>Le D s tw∧(k≤l.length∧∀ i x,i < k→l[i]?=some x→decide ((x.toNat:Int)=c)=false)) (fun k=>l.length - k) (fun _ _ _ h hl=>⟨h.1.trans hl,h.2⟩) 0 (.c4 Z Z Z Z (.nil _)) Z ⟨Le.refl _,⟨Nat.zero_le _,fun i c hi=>by omega⟩⟩ ?_
 intro k s1 I1
 have hk0:=I1.2.1
 have hI:=I1.2.2
 refine Zs<|Sr<|Zqm Z Z<|Zqm Z Z<|qgR Z Z Z Z<|qbh Z Z Z<|Nt<|?_
 refine qaa Z (fun c2=>?_) (fun c2=>?_)
 ·
  have hk:k < l.length:=by omega
  obtain ⟨ch,hch⟩:∃ ch,l[k]?=some ch:=⟨_,List.getElem?_eq_getElem hk⟩
  refine Zk<|Zt<|Zs<|Zp<|Sr<|Zqm Z Z<|Zqm Z Z<|qac (qfA Z Z Z Z hch) Z<|Zqm Z Z<|qar Z Z Z<|Nt<|?_
  refine qaa Z (fun c3=>?_) (fun c3=>?_)
  ·
   have hz:=decide_eq_true c3
   refine Sr<|At Z Z<|Zo<|Zc<|Zu<|Zu<|Zc<|Zu<|?_
   refine rR [] L (.t1 Z) Z I1.1 fun _ hS2=>?_
   refine ⟨?_,Z⟩
   simp only [qat];rw [qqJ hch hz];done
  have hz:=decide_eq_false c3
  refine Zk<|Zb<|Zt<|Zr<|Zqm Z Z<|qaF Z Z Z (w64 O O)<|Zqa Z Z<|Zn<|?_
  refine qab ⟨(k+1),[],kp,Z,⟨I1.1,⟨by omega,qbc hI hch hz⟩⟩,O⟩
 refine Zl<|Zv<|Zv<|Zd<|Zt<|Sr<|At Z Z<|Zo<|?_
 refine rR [] L (.t1 Z) Z I1.1 fun _ hS2=>?_
 refine ⟨?_,Z⟩
 simp only [qat];rw [qoU (fun i x hi hx=>hI i x O hx)];done
theorem qpn{a:Int}(h1:0≤a)(h2:a < 4294967296):IntKind.u32.wrap a=a:=by rw [IntKind.wrap_u32];omega
theorem qda(a:Int):IntKind.u32.wrap a=w32 a:=IntKind.wrap_u32 a
theorem qvw{x y:Int}(hx:U32 x)(hy:U32 y):w32 (x.tdiv y)=x / y:=by
 obtain ⟨h1,h2⟩:=hx
 obtain ⟨h3,h4⟩:=hy
 rw [Int.tdiv_eq_ediv_of_nonneg h1]
 have h5:0≤x / y:=Int.ediv_nonneg h1 h3
 have h6:x / y≤x:=Int.ediv_le_self _ h1
 unfold w32;omega
theorem modW{x y:Int}(hx:U32 x):x.tmod y=x % y:=Int.tmod_eq_emod_of_nonneg hx.1
theorem modR{x y:Int}(hx:U32 x)(hy:U32 y)(h0:y≠0):w32 (x - w32 (w32 (x.tdiv y) * y))=x % y:=by
 rw [qvw hx hy]
 have h1:=Int.mul_ediv_add_emod x y
 have h2:=Int.emod_nonneg x h0
 have h3:x % y < y:=Int.emod_lt_of_pos x (by have:=hy.1;omega)
 rw [Int.mul_comm] at h1
 have h4:=hx.1
 have h5:=hx.2
 have h6:0≤x / y * y:=Int.mul_nonneg (Int.ediv_nonneg h4 hy.1) hy.1
 unfold w32;omega
theorem qnP{b:Bool}(h:b=true)(X k:Nat):Value.int .u32 (IntKind.u32.wrap (((shN b X k:Nat):Int)+((shN b X k:Nat):Int)))=.int .u32 ((shN b X (k+1):Nat):Int):=by
 subst h;rw [IntKind.wrap_u32];simp only [shN,if_true];congr 1
theorem qon{b:Bool}(h:b=false){X k:Nat}(hX:X < 4294967296):Value.int .u32 (IntKind.u32.wrap (((shN b X k:Nat):Int).tdiv 2))=.int .u32 ((shN b X (k+1):Nat):Int):=by
 have:=qtJ hX b k
 subst h;rw [IntKind.wrap_u32];simp only [shN];congr 1;rw [Int.tdiv_eq_ediv_of_nonneg O];simp;omega
theorem qek{X:Nat}(hX:X < 4294967296)(k:Nat):Value.int .u32 (IntKind.u32.wrap (((X / 2 ^ k:Nat):Int).tdiv 2))=.int .u32 ((X / 2 ^ (k+1):Nat):Int):=by
 have h1:X / 2 ^ k≤X:=Nat.div_le_self _ _
 rw [Nat.pow_succ,← Nat.div_div_eq_div_mul]
 generalize X / 2 ^ k=Z at h1
 rw [IntKind.wrap_u32,Int.tdiv_eq_ediv_of_nonneg O];congr 1;omega
theorem qhJ(k:Nat):Value.int .u32 (IntKind.u32.wrap (((2 ^ k % 4294967296:Nat):Int) * 2))=.int .u32 ((2 ^ (k+1) % 4294967296:Nat):Int):=by
 rw [IntKind.wrap_u32,Nat.pow_succ];congr 1;omega
theorem qjU(a b:Nat):Value.int .u8 (IntKind.u8.wrap (48+IntKind.u8.wrap (IntKind.u32.wrap (((a:Nat):Int).tmod 2+((b:Nat):Int).tmod 2))))=.int .u8 ((48+(a % 2+b % 2):Nat):Int):=by
 rw [IntKind.wrap_u32,IntKind.wrap_u8,IntKind.wrap_u8,Int.tmod_eq_emod_of_nonneg O,Int.tmod_eq_emod_of_nonneg O];congr 1;omega
def qd8(l:List UInt8)(d:Nat):Bool:=l.any fun x=>decide ((x.toNat:Int)=((48+d:Nat):Int))
theorem qtG{l:List UInt8}{X Y k:Nat}(hk:k < 32)(h:(l.any fun x=>decide ((x.toNat:Int)=((48+(X / 2 ^ k % 2+Y / 2 ^ k % 2):Nat):Int)))=true):Value.int .u32 (IntKind.u32.wrap (((bwN (qd8 l) X Y k:Nat):Int)+((2 ^ k % 4294967296:Nat):Int)))=.int .u32 ((bwN (qd8 l) X Y (k+1):Nat):Int):=by
 have h1:=qpl (qd8 l) X Y (k+1)
 have h2:(2:Nat) ^ (k+1)≤2 ^ 32:=Nat.pow_le_pow_right O O
 have h3:qd8 l (X / 2 ^ k % 2+Y / 2 ^ k % 2)=true:=h
 have h5:(2:Nat) ^ k < 4294967296:=by rw [Nat.pow_succ] at h2;have:(0:Nat) < 2 ^ k:=Nat.pos_of_ne_zero (by simp);omega
 simp only [bwN,h3,if_true] at h1 ⊢
 rw [IntKind.wrap_u32,Nat.mod_eq_of_lt h5];congr 1;omega
theorem ql6{l:List UInt8}{X Y k:Nat}(h:(l.any fun x=>decide ((x.toNat:Int)=((48+(X / 2 ^ k % 2+Y / 2 ^ k % 2):Nat):Int)))=false):Value.int .u32 ((bwN (qd8 l) X Y k:Nat):Int)=.int .u32 ((bwN (qd8 l) X Y (k+1):Nat):Int):=by
 have h3:qd8 l (X / 2 ^ k % 2+Y / 2 ^ k % 2)=false:=h
 simp [bwN,h3]
theorem qtx:qd8 [50]=fun d=>decide (d=2):=by funext d;unfold qd8;rw [Bool.eq_iff_iff];simp;omega
theorem qtt:qd8 [49]=fun d=>decide (d=1):=by funext d;unfold qd8;rw [Bool.eq_iff_iff];simp;omega
theorem qsl:qd8 [49,50]=fun d=>decide (d=1) || decide (d=2):=by funext d;unfold qd8;rw [Bool.eq_iff_iff];simp;omega
theorem qb4(D:Nat)(L:Hl)(s:World)(b:Bool):AC prog D 172 [.bool b] L s fun v L' _=>v=.int .u32 (if b then 1 else 0)∧L=L':=by
 refine qai (fn:=f172) qao func172 V Z ntmps172 Z (rs:=[.tmp 2]) Z [(0,_)] Z<|Sr<|At Z Z<|Zs<|Sr<|Zqm Z Z<|Nt<|?_
 refine qcf Z (fun c1=>?_) (fun c1=>?_)
 ·
  refine Sr<|At Z Z<|Zo<|Zu<|?_
  refine rR [] L (.t1 Z) Z (Lr D) fun _ hS2=>?_
  exact ⟨by simp [qat, *],rfl⟩
 refine Zk<|Zt<|Sr<|At Z Z<|Zo<|?_
 refine rR [] L (.t1 Z) Z (Lr D) fun _ hS2=>?_
 exact ⟨by simp [qat, *],rfl⟩
theorem qgt(D:Nat)(L:Hl)(s:World)(x y:Int)(hx:U32 x)(hy:U32 y)(b:Bool):AC prog D 216 [.int .u32 x,.int .u32 y,.bool b] L s fun v L' _=>v=.int .u32 ((shN b x.toNat y.toNat:Nat):Int)∧L=L':=by
 obtain ⟨X,rfl⟩:=Int.eq_ofNat_of_zero_le hx.1
 obtain ⟨Y,rfl⟩:=Int.eq_ofNat_of_zero_le hy.1
 have hX:X < 4294967296:=by have:=hx.2;omega
 refine qai (fn:=f216) qao func216 V Z ntmps216 Z (rs:=[.tmp 6]) Z [(0,_),(1,_),(2,_)] Z<|Sr<|At Z Z<|Zs<|Sr<|Zqm Z Z<|qbv Z Z Z<|Nt<|?_
 refine qaa Z (fun c1=>?_) (fun c1=>?_)
 ·
  refine Sr<|At Z Z<|Zo<|Zu<|?_
  refine rR [] L (.t1 Z) Z (Lr D) fun _ hS2=>?_
  refine ⟨?_,Z⟩
  have hf:=qsN hX (show 32 < Y by omega) b
  simp [qat,hf];done
 refine Zk<|Zt<|Zs<|Sr<|At Z Z<|Zp<|qav (γ:=Nat) (fun k=>[(0,.int .u32 ((shN b X k:Nat):Int)),(1,_),(2,_),(6,_),(7,.int .u32 (k:Int))]) (fun _=>_) (fun k tw=>Le D s tw∧(k≤Y)) (fun k=>Y - k) (fun _ _ _ h hl=>⟨h.1.trans hl,h.2⟩) 0 (.c5 Z Z Z Z Z (.nil _)) Z ⟨Le.refl _,Nat.zero_le _⟩ ?_
 intro k s2 I2
 have hk0:=I2.2
 refine Zs<|Sr<|Zqm Z Z<|Zqm Z Z<|qbh Z Z Z<|Nt<|?_
 refine qaa Z (fun c3=>?_) (fun c3=>?_)
 ·
  refine Zk<|Zt<|Zs<|Zp<|Sr<|Zqm Z Z<|Nt<|?_
  refine qcf Z (fun c4=>?_) (fun c4=>?_)
  ·
   have hl:=c4
   refine Zr<|Zqm Z Z<|Zqm Z Z<|qac (qae (qe0 Z Z) (qnP hl X k)) Z<|Zqa Z Z<|Zn<|Zb<|Zt<|Zr<|Zqm Z Z<|qac (qaR Z Z (qpn O O)) Z<|Zqa Z Z<|Zn<|?_
   refine qab ⟨(k+1),[],kp,Z,⟨I2.1,O⟩,O⟩
  have hl:=c4
  refine Zr<|Zqm Z Z<|qac (qae (qev Z Z Dc) (qon hl hX)) Z<|Zqa Z Z<|Zn<|Zb<|Zt<|Zr<|Zqm Z Z<|qac (qaR Z Z (qpn O O)) Z<|Zqa Z Z<|Zn<|?_
  refine qab ⟨(k+1),[],kp,Z,⟨I2.1,O⟩,O⟩
 refine Zl<|Zv<|Zv<|Zd<|Zt<|Sr<|Zqm Z Z<|At Z Z<|Zo<|?_
 refine rR [] L (.t1 Z) Z I2.1 fun _ hS2=>?_
 refine ⟨?_,Z⟩
 have he:k=Y:=by omega
 subst he
 simp [qat];done
theorem qeQ(D:Nat)(L:Hl)(s:World)(x y:Int)(hx:U32 x)(hy:U32 y)(l:List UInt8)(hl:l.length≤9223372036854775807):AC prog D 215 [.int .u32 x,.int .u32 y,St l] L s fun v L' _=>v=.int .u32 ((bwN (qd8 l) x.toNat y.toNat 32:Nat):Int)∧L=L':=by
 obtain ⟨X,rfl⟩:=Int.eq_ofNat_of_zero_le hx.1
 obtain ⟨Y,rfl⟩:=Int.eq_ofNat_of_zero_le hy.1
 have hX:X < 4294967296:=by have:=hx.2;omega
 have hY:Y < 4294967296:=by have:=hy.2;omega
 refine qai (fn:=f215) qao func215 V Z ntmps215 Z (rs:=[.tmp 6]) Z [(0,_),(1,_),(2,_)] Z<|Sr<|At Z Z<|Sr<|At Z Z<|Sr<|At Z Z<|Zs<|Sr<|At Z Z<|Zp<|?_
 refine qav (γ:=Nat) (fun k=>[(0,.int .u32 ((X / 2 ^ k:Nat):Int)),(1,.int .u32 ((Y / 2 ^ k:Nat):Int)),(2,_),(6,_),(7,.int .u32 ((bwN (qd8 l) X Y k:Nat):Int)),(8,.int .u32 ((2 ^ k % 4294967296:Nat):Int)),(9,.int .i64 (k:Int))]) (fun _=>_) (fun k tw=>Le D s tw∧(k≤32)) (fun k=>32 - k) (fun _ _ _ h hl=>⟨h.1.trans hl,h.2⟩) 0 (.cons (by simp;rfl) (.cons (by simp;rfl) (.c2 Z Z (.cons (by simp [bwN];rfl) (.cons (by simp;rfl) (.cons Z (.nil _))))))) Z ⟨Le.refl _,Nat.zero_le _⟩ ?_
 intro k s1 I1
 have hk0:=I1.2
 refine Zs<|Sr<|Zqm Z Z<|qbh Z Z Z<|Nt<|?_
 refine qaa Z (fun c2=>?_) (fun c2=>?_)
 ·
  refine Zk<|Zt<|Zs<|Zp<|Sr<|Zqm Z Z<|qac (qhD Z Z O) Z<|Zqm Z Z<|qac (qhD Z Z O) Z<|qac (qe0 Z Z) Z<|qac (qdI Z Z Z Z Z) Z<|qac (qae (qe0 Z Z) (qjU (X / 2 ^ k) (Y / 2 ^ k))) Z<|At Z Z<|Zs<|Sr<|Zqm Z Z<|Zqm Z Z<|Jc Z Z Z (qs1 D _ _ _ _ hl) ?_
  rintro _ _ s3 h3 ⟨rfl,rfl⟩
  refine Nt<|?_
  refine qcf Z (fun c4=>?_) (fun c4=>?_)
  ·
   have hb:=c4
   refine Zr<|Zqm Z Z<|Zqm Z Z<|qac (qae (qe0 Z Z) (qtG O hb)) Z<|At Z Z<|Sr<|Zqm Z Z<|qac (qae (qhn Z Z) (qhJ k)) Z<|At Z Z<|Sr<|Zqm Z Z<|qac (qae (qev Z Z Dc) (qek hX k)) Z<|At Z Z<|Zr<|Zqm Z Z<|qac (qae (qev Z Z Dc) (qek hY k)) Z<|Zqa Z Z<|Zn<|Zb<|Zt<|Zr<|Zqm Z Z<|qaF Z Z Z (w64 O O)<|Zqa Z Z<|Zn<|?_
   refine qab ⟨(k+1),[],(.cons rfl (.cons rfl (.cons rfl (.cons rfl (.cons (by first | rfl | exact congrArg some (ql6 hb)) kp))))),rfl,⟨(I1.1.t h3),O⟩,O⟩
  have hb:=c4
  refine Zk<|Zt<|Sr<|Zqm Z Z<|qac (qae (qhn Z Z) (qhJ k)) Z<|At Z Z<|Sr<|Zqm Z Z<|qac (qae (qev Z Z Dc) (qek hX k)) Z<|At Z Z<|Zr<|Zqm Z Z<|qac (qae (qev Z Z Dc) (qek hY k)) Z<|Zqa Z Z<|Zn<|Zb<|Zt<|Zr<|Zqm Z Z<|qaF Z Z Z (w64 O O)<|Zqa Z Z<|Zn<|?_
  refine qab ⟨(k+1),[],(.cons rfl (.cons rfl (.cons rfl (.cons rfl (.cons (by first | rfl | exact congrArg some (ql6 hb)) kp))))),rfl,⟨(I1.1.t h3),O⟩,O⟩
 refine Zl<|Zv<|Zv<|Zd<|Zt<|Sr<|Zqm Z Z<|At Z Z<|Zo<|?_
 refine rR [] L (.t1 Z) Z I1.1 fun _ hS2=>?_
 have he:k=32:=by omega
 subst he
 exact ⟨by simp [qat],rfl⟩
theorem qid(D:Nat)(L:Hl)(s:World)(k:Int)(x y:Int)(hx:U32 x)(hy:U32 y)(hz:k=4∨k=5→y≠0):AC prog D 198 [.int .i64 k,.int .u32 x,.int .u32 y] L s fun v L' _=>v=.int .u32 (qh2 k x y)∧L=L':=by
 have hX:x.toNat < 4294967296:=by have:=hx.2;omega
 have hY:y.toNat < 4294967296:=by have:=hy.2;omega
 have e2:=qtb (Y:=y.toNat) hX
 have e1:=qtd hX hY
 have e3:=qvv hX hY
 have e4:=qiJ hX y.toNat
 have e5:=qhb x.toNat y.toNat
 refine qai (fn:=f198) qao func198 V Z ntmps198 Z (rs:=[.tmp 6]) Z [(0,_),(1,_),(2,_)] Z<|Sr<|At Z Z<|Zs<|Sr<|Zqm Z Z<|qar Z Z Z<|Nt<|?_
 refine qaa Z (fun c1=>?_) (fun c1=>?_)
 ·
  refine Sr<|Zqm Z Z<|Zqm Z Z<|qac (qe0 Z Z) Z<|At Z Z<|Zo<|Zu<|?_
  refine rR [] L (.t1 Z) Z (Lr D) fun _ hS2=>?_
  refine ⟨?_,Z⟩
  simp [qat,qh2,qda, *];done
 refine Zk<|Zt<|Zs<|Sr<|Zqm Z Z<|qar Z Z Z<|Nt<|?_
 refine qaa Z (fun c2=>?_) (fun c2=>?_)
 ·
  refine Sr<|Zqm Z Z<|Zqm Z Z<|qac (qfO Z Z) Z<|At Z Z<|Zo<|Zu<|?_
  refine rR [] L (.t1 Z) Z (Lr D) fun _ hS2=>?_
  refine ⟨?_,Z⟩
  simp [qat,qh2,qda, *];done
 refine Zk<|Zt<|Zs<|Sr<|Zqm Z Z<|qar Z Z Z<|Nt<|?_
 refine qaa Z (fun c3=>?_) (fun c3=>?_)
 ·
  refine Sr<|Zqm Z Z<|Zqm Z Z<|qac (qhn Z Z) Z<|At Z Z<|Zo<|Zu<|?_
  refine rR [] L (.t1 Z) Z (Lr D) fun _ hS2=>?_
  refine ⟨?_,Z⟩
  simp [qat,qh2,qda, *];done
 refine Zk<|Zt<|Zs<|Sr<|Zqm Z Z<|qar Z Z Z<|Nt<|?_
 refine qaa Z (fun c4=>?_) (fun c4=>?_)
 ·
  refine Sr<|Zqm Z Z<|Zqm Z Z<|qac (qev Z Z (hz (.inl As))) Z<|At Z Z<|Zo<|Zu<|?_
  refine rR [] L (.t1 Z) Z (Lr D) fun _ hS2=>?_
  refine ⟨?_,Z⟩
  have h4:k=4:=by assumption
  simp [qat,qh2,qda,qvw hx hy,h4];done
 refine Zk<|Zt<|Zs<|Sr<|Zqm Z Z<|qar Z Z Z<|Nt<|?_
 refine qaa Z (fun c5=>?_) (fun c5=>?_)
 ·
  refine Sr<|Zqm Z Z<|Zqm Z Z<|Zqm Z Z<|qac (qev Z Z (hz (.inr As))) Z<|Zqm Z Z<|qac (qhn Z Z) Z<|qac (qfO Z Z) Z<|At Z Z<|Zo<|Zu<|?_
  refine rR [] L (.t1 Z) Z (Lr D) fun _ hS2=>?_
  refine ⟨?_,Z⟩
  have h5:k=5:=by assumption
  simp [qat,qh2,qda,modR hx hy (hz (.inr h5)),h5];done
 refine Zk<|Zt<|Zs<|Sr<|Zqm Z Z<|qar Z Z Z<|Nt<|?_
 refine qaa Z (fun c6=>?_) (fun c6=>?_)
 ·
  refine Sr<|Zqm Z Z<|Zqm Z Z<|Jc Z Z Z (qeQ D _ _ _ _ hx hy [50] Dc) ?_
  rintro _ _ s7 h7 ⟨rfl,rfl⟩
  refine At Z Z<|Zo<|Zu<|?_
  refine rR [] L (.t1 Z) Z h7 fun _ hS2=>?_
  refine ⟨?_,Z⟩
  have h6:k=6:=by assumption
  simp [qat,qh2,qtx,e2,h6];done
 refine Zk<|Zt<|Zs<|Sr<|Zqm Z Z<|qar Z Z Z<|Nt<|?_
 refine qaa Z (fun c8=>?_) (fun c8=>?_)
 ·
  refine Sr<|Zqm Z Z<|Zqm Z Z<|Jc Z Z Z (qeQ D _ _ _ _ hx hy [49,50] Dc) ?_
  rintro _ _ s9 h9 ⟨rfl,rfl⟩
  refine At Z Z<|Zo<|Zu<|?_
  refine rR [] L (.t1 Z) Z h9 fun _ hS2=>?_
  refine ⟨?_,Z⟩
  have h7:k=7:=by assumption
  simp only [qat,qh2,qsl,e3,h7];simp;done
 refine Zk<|Zt<|Zs<|Sr<|Zqm Z Z<|qar Z Z Z<|Nt<|?_
 refine qaa Z (fun c10=>?_) (fun c10=>?_)
 ·
  refine Sr<|Zqm Z Z<|Zqm Z Z<|Jc Z Z Z (qeQ D _ _ _ _ hx hy [49] Dc) ?_
  rintro _ _ s11 h11 ⟨rfl,rfl⟩
  refine At Z Z<|Zo<|Zu<|?_
  refine rR [] L (.t1 Z) Z h11 fun _ hS2=>?_
  refine ⟨?_,Z⟩
  have h8:k=8:=by assumption
  simp [qat,qh2,qtt,e1,h8];done
 refine Zk<|Zt<|Zs<|Sr<|Zqm Z Z<|qar Z Z Z<|Zqm Z Z<|?_
 refine qak (t:=53) Z (fun c12=>?_) (fun c12=>?_)
 ·
  refine Wf Y4<|Wf Y4<|ZqT Z Z Z<|Nt<|Zy Z<|Sr<|Zqm Z Z<|Zqm Z Z<|Zqm Z Z<|qar Z Z Z<|Jc Z Z Z (qgt D _ _ _ _ hx hy _) ?_
  rintro _ _ s13 h13 ⟨rfl,rfl⟩
  refine At Z Z<|Zo<|Zu<|?_
  refine rR [] L (.t1 Z) Z h13 fun _ hS2=>?_
  refine ⟨?_,Z⟩
  have h9:k=9:=by assumption
  simp [qat,qh2,e4,h9];done
 refine Zg Z Z<|Zqm Z Z<|Zg Z Z<|qar Z Z Z<|ZqF Z Z Z<|Nt<|?_
 refine qaa Z (fun c14=>?_) (fun c14=>?_)
 ·
  refine Sr<|Zqm Z Z<|Zqm Z Z<|Zqm Z Z<|qar Z Z Z<|Jc Z Z Z (qgt D _ _ _ _ hx hy _) ?_
  rintro _ _ s15 h15 ⟨rfl,rfl⟩
  refine At Z Z<|Zo<|Zu<|?_
  refine rR [] L (.t1 Z) Z h15 fun _ hS2=>?_
  refine ⟨?_,Z⟩
  have h10:k=10:=by assumption
  simp [qat,qh2,e5,h10];done
 refine Zk<|Zt<|Zs<|Sr<|Zqm Z Z<|qar Z Z Z<|Nt<|?_
 refine qaa Z (fun c16=>?_) (fun c16=>?_)
 ·
  refine Sr<|Zqm Z Z<|Zqm Z Z<|qar Z Z Z<|Jc Z Z Z (qb4 D _ _ _) ?_
  rintro _ _ s17 h17 ⟨rfl,rfl⟩
  refine At Z Z<|Zo<|Zu<|?_
  refine rR [] L (.t1 Z) Z h17 fun _ hS2=>?_
  refine ⟨?_,Z⟩
  simp [qat,qh2,qda, *];done
 refine Zk<|Zt<|Zs<|Sr<|Zqm Z Z<|qar Z Z Z<|Nt<|?_
 refine qaa Z (fun c18=>?_) (fun c18=>?_)
 ·
  refine Sr<|Zqm Z Z<|Zqm Z Z<|qbh Z Z Z<|Jc Z Z Z (qb4 D _ _ _) ?_
  rintro _ _ s19 h19 ⟨rfl,rfl⟩
  refine At Z Z<|Zo<|Zu<|?_
  refine rR [] L (.t1 Z) Z h19 fun _ hS2=>?_
  refine ⟨?_,Z⟩
  simp [qat,qh2,qda, *];done
 refine Zk<|Zt<|Sr<|Zqm Z Z<|At Z Z<|Zo<|?_
 refine rR [] L (.t1 Z) Z (Lr D) fun _ hS2=>?_
 refine ⟨?_,Z⟩
 simp [qat,qh2,qda, *];done
end Go.Proofs.YtpdnijphccdiiaaGreatDoor
