/- Part 4. -/
import Derived.Test.YtpdnijphccdiiaaGreatDoorQ36x3
import Derived.RangeFuncIn
import Derived.RangeFuncLeaves
import Derived.RangeFuncCalls
import Derived.RangeFuncRecord
import Derived.TacticsIn
import Derived.Sort.LoopGhostIn
import Derived.OrdersIn
import Derived.Shelf.Sort.Plain
import Derived.Shelf.Slices.CompactI
import Derived.Shelf.Slices.In.SortNone
set_option linter.unusedVariables false
set_option linter.unusedSimpArgs false
set_option linter.unnecessarySimpa false
set_option maxRecDepth 100000
set_option maxHeartbeats 8000000
namespace Go.Proofs.YtpdnijphccdiiaaGreatDoor
open Go Go.FL
abbrev Use:=Str×Int×Int
def qdD(x:Stm):Use:=if x.kind=1 then (x.name,1,0) else if x.kind=2 then (x.name,3,0) else if x.kind=5 then (x.name,4,(x.exprs.length:Int)) else ([],0,0)
def qdC(x:Ex):Use:=if x.kind=2 then (x.name,2,0) else if x.kind=3 then (x.name,3,0) else if x.kind=4 then (x.name,4,(x.args.length:Int)) else ([],0,0)
inductive Nd where
 | st (x:Stm) (loops:Nat)
 | ex (x:Ex) (loops:Nat)
def Nd.use:Nd→Use
 | .st x _=>qdD x
 | .ex x _=>qdC x
mutual
def ndX:Ex→Nat→List Nd
 | .mk k o n nm az,lp=>.ex (.mk k o n nm az) lp::qek az lp
def qek:List Ex→Nat→List Nd
 | [],_=>[]
 | x::r,lp=>ndX x lp++qek r lp
end
mutual
def ndS:Stm→Nat→List Nd
 | .mk k nm es b e,lp=>.st (.mk k nm es b e) lp::(qek es lp++(qcn b (if k=4 then lp+1 else lp)++qcn e (if k=4 then lp+1 else lp)))
def qcn:List Stm→Nat→List Nd
 | [],_=>[]
 | x::r,lp=>ndS x lp++qcn r lp
end
def qfl:List Glo→List Str→Nat→Int×Int
 | [],_,_=>(0,0)
 | g::r,seen,i=>if g.name∈seen then (8,(i:Int)) else qfl r (seen++[g.name]) (i+1)
def qfi:List Fnc→List Str→Nat→Int×Int
 | [],_,_=>(0,0)
 | x::r,seen,i=>if x.name∈seen∨¬ (x.params++x.locals).Nodup then (8,(i:Int)) else qfi r (seen++[x.name]) (i+1)
def qbw:Str:=[109,97,105,110]
def qcu(l:List Fnc):Int:=qa6 (fun x=>decide (x.name=qbw)) l 0
def qb2(p:Prg):Int×Int:=if (qfl p.globals [] 0).1≠0 then qfl p.globals [] 0 else if (qfi p.funcs (p.globals.map Glo.name) p.globals.length).1≠0 then qfi p.funcs (p.globals.map Glo.name) p.globals.length
 else if qcu p.funcs < 0 then (12,-1) else match p.funcs[(qcu p.funcs).toNat]? with
  | some x=>if x.params=[] then (0,0) else (9,-1)
  | none=>(0,0)
theorem qbQ{w:Str}:∀ {l:List Str} {k:Nat},(0≤qa6 (fun x=>decide (w=x)) l k)↔w∈l
 | [],k=>by simp [qa6]
 | x::r,k=>by
  rw [qa6]
  by_cases h:w=x
  · simp [h]
  · rw [if_neg (by simpa using h),qbQ];simp [h]
theorem qgU{α:Type}{p:α→Bool}{x:α}:∀ {l:List α} {k:Nat},qa6 p (l++[x]) k=if 0≤qa6 p l k then qa6 p l k else if p x=true then ((k+l.length:Nat):Int) else -1
 | [],k=>by simp [qa6]
 | y::r,k=>by
  rw [List.cons_append,qa6,qa6]
  by_cases h:p y=true
  · rw [if_pos h,if_pos h,if_pos O]
  · rw [if_neg h,if_neg h,qgU,List.length_cons,show k+1+r.length=k+(r.length+1) by omega]
theorem qdI{α:Type}{p:α→Bool}:∀ {l:List α} {k:Nat},qa6 p l k < ((k+l.length:Nat):Int)
 | [],k=>by simp [qa6];omega
 | y::r,k=>by
  rw [qa6]
  split
  · rw [List.length_cons];omega
  · have:=qdI (p:=p) (l:=r) (k:=k+1);rw [List.length_cons];omega
theorem qhU{l:List Glo}{k i:Nat}{x:Glo}{seen:List Str}(h:l[k]?=some x):qfl (l.drop k) seen i=if x.name∈seen then (8,(i:Int)) else qfl (l.drop (k+1)) (seen++[x.name]) (i+1):=by
 obtain ⟨hk,rfl⟩:=List.getElem?_eq_some_iff.1 h
 rw [List.drop_eq_getElem_cons hk,qfl]
theorem qeF{l:List Fnc}{k i:Nat}{x:Fnc}{seen:List Str}(h:l[k]?=some x):qfi (l.drop k) seen i=if x.name∈seen∨¬ (x.params++x.locals).Nodup then (8,(i:Int)) else qfi (l.drop (k+1)) (seen++[x.name]) (i+1):=by
 obtain ⟨hk,rfl⟩:=List.getElem?_eq_some_iff.1 h
 rw [List.drop_eq_getElem_cons hk,qfi]
theorem qfs{l:List Str}{k:Nat}{x:Str}(h:l[k]?=some x)(hn:(l.take k).Nodup)(hx:x ∉ l.take k):(l.take (k+1)).Nodup:=by
 obtain ⟨hk,rfl⟩:=List.getElem?_eq_some_iff.1 h
 rw [List.take_succ_eq_append_getElem hk,List.nodup_append]
 refine ⟨hn,by simp,fun a ha b hb=>?_⟩
 rw [List.mem_singleton] at hb;subst hb
 intro e;subst e;exact hx ha
theorem qdo{l:List Str}{k:Nat}{x:Str}(h:l[k]?=some x)(hx:x∈l.take k):¬ l.Nodup:=by
 obtain ⟨hk,rfl⟩:=List.getElem?_eq_some_iff.1 h
 intro hn
 have h2:(l.take k++l.drop k).Nodup:=by rw [List.take_append_drop];exact hn
 rw [List.nodup_append] at h2
 exact h2.2.2 _ hx _ (by rw [List.drop_eq_getElem_cons hk];exact List.mem_cons_self ..) rfl
end Go.Proofs.YtpdnijphccdiiaaGreatDoor
namespace Go.FL
open Go Go.RowKit Go.Proofs.YtpdnijphccdiiaaGreatDoor
theorem qaw{P:Program}{TT:qaV}{D:Nat}{fr:Fr}{ty:Nat}{op:Op}{K:Hl}{s0:World}{v v':Value}(h:QE P TT D fr op ty K s0 v)(e:v=v'):QE P TT D fr op ty K s0 v':=e▸h
theorem qnn:(BinOp.and≠.eql∧BinOp.and≠.neq):=⟨(by intro h;cases h),(by intro h;cases h)⟩
theorem qpX:(BinOp.or≠.eql∧BinOp.or≠.neq):=⟨(by intro h;cases h),(by intro h;cases h)⟩
theorem qni:(BinOp.xor≠.eql∧BinOp.xor≠.neq):=⟨(by intro h;cases h),(by intro h;cases h)⟩
theorem qmG:(BinOp.shl≠.eql∧BinOp.shl≠.neq):=⟨(by intro h;cases h),(by intro h;cases h)⟩
theorem qlr:(BinOp.shr≠.eql∧BinOp.shr≠.neq):=⟨(by intro h;cases h),(by intro h;cases h)⟩
theorem qft{x:Int}(h:U32 x):(BitVec.ofInt 32 x).toNat=x.toNat:=by
 obtain ⟨h1,h2⟩:=h
 rw [BitVec.toNat_ofInt]
 omega
theorem ql2{n:Nat}(h:n < 4294967296):IntKind.u32.wrap (n:Int)=(n:Int):=by rw [IntKind.wrap_u32];omega
section
variable{P:Program}{t:Nat}{x y:Int}
theorem qnC(hx:U32 x)(hy:U32 y)(w:World):(binOp .and t (.int .u32 x) (.int .u32 y)).run P w=.ok (.int .u32 ((x.toNat &&& y.toNat:Nat):Int)) w:=by
 have h:(BitVec.ofInt 32 x &&& BitVec.ofInt 32 y).toNat=x.toNat &&& y.toNat:=by rw [BitVec.toNat_and,qft hx,qft hy]
 have h2:x.toNat &&& y.toNat < 4294967296:=h▸(BitVec.ofInt 32 x &&& BitVec.ofInt 32 y).isLt
 have h3:Op.intBits .and .u32 x y=pure (.int .u32 (IntKind.u32.wrap ((BitVec.ofInt 32 x &&& BitVec.ofInt 32 y).toNat:Int))):=rfl
 simp only [binOp,h3,h,ql2 h2]
 rfl
theorem qoA(hx:U32 x)(hy:U32 y)(w:World):(binOp .or t (.int .u32 x) (.int .u32 y)).run P w=.ok (.int .u32 ((x.toNat ||| y.toNat:Nat):Int)) w:=by
 have h:(BitVec.ofInt 32 x ||| BitVec.ofInt 32 y).toNat=x.toNat ||| y.toNat:=by rw [BitVec.toNat_or,qft hx,qft hy]
 have h2:x.toNat ||| y.toNat < 4294967296:=h▸(BitVec.ofInt 32 x ||| BitVec.ofInt 32 y).isLt
 have h3:Op.intBits .or .u32 x y=pure (.int .u32 (IntKind.u32.wrap ((BitVec.ofInt 32 x ||| BitVec.ofInt 32 y).toNat:Int))):=rfl
 simp only [binOp,h3,h,ql2 h2]
 rfl
theorem qiC(hx:U32 x)(hy:U32 y)(w:World):(binOp .xor t (.int .u32 x) (.int .u32 y)).run P w=.ok (.int .u32 ((x.toNat ^^^ y.toNat:Nat):Int)) w:=by
 have h:(BitVec.ofInt 32 x ^^^ BitVec.ofInt 32 y).toNat=x.toNat ^^^ y.toNat:=by rw [BitVec.toNat_xor,qft hx,qft hy]
 have h2:x.toNat ^^^ y.toNat < 4294967296:=h▸(BitVec.ofInt 32 x ^^^ BitVec.ofInt 32 y).isLt
 have h3:Op.intBits .xor .u32 x y=pure (.int .u32 (IntKind.u32.wrap ((BitVec.ofInt 32 x ^^^ BitVec.ofInt 32 y).toNat:Int))):=rfl
 simp only [binOp,h3,h,ql2 h2]
 rfl
theorem qhR{n:Nat}(h:32≤n):(2:Nat) ^ n=4294967296 * 2 ^ (n - 32):=by
 rw [show n=32+(n - 32) by omega,Nat.pow_add];simp
theorem qsd(X Y:Nat):(X * 2 ^ min Y 32) % 4294967296=(X <<< Y) % 4294967296:=by
  rw [Nat.shiftLeft_eq]
  rcases Nat.le_total Y 32 with h | h
  · rw [Nat.min_eq_left h]
  · rw [Nat.min_eq_right h,qhR h]
    rw [show X * (4294967296 * 2 ^ (Y - 32))=4294967296 * (X * 2 ^ (Y - 32)) by rw [Nat.mul_left_comm]]
    omega
theorem qsv{X:Nat}(hX:X < 4294967296)(Y:Nat):X / 2 ^ min Y 32=X >>> Y:=by
  rw [Nat.shiftRight_eq_div_pow]
  rcases Nat.le_total Y 32 with h | h
  · rw [Nat.min_eq_left h]
  · rw [Nat.min_eq_right h,Nat.div_eq_of_lt O,Nat.div_eq_of_lt]
    have:(2:Nat) ^ 32≤2 ^ Y:=Nat.pow_le_pow_right O h
    omega
theorem qmy(hx:U32 x)(hy:U32 y)(w:World):(binOp .shl t (.int .u32 x) (.int .u32 y)).run P w=.ok (.int .u32 (((x.toNat <<< y.toNat) % 4294967296:Nat):Int)) w:=by
 obtain ⟨X,rfl⟩:=Int.eq_ofNat_of_zero_le hx.1
 obtain ⟨Y,rfl⟩:=Int.eq_ofNat_of_zero_le hy.1
 have h3:Op.shift .shl .u32 (X:Int) .u32 (Y:Int)=pure (.int .u32 (IntKind.u32.wrap ((X:Int) * 2 ^ min Y 32))):=by
  unfold Op.shift
  rw [if_neg O]
  rfl
 have h4:IntKind.u32.wrap ((X:Int) * 2 ^ min Y 32)=(((X <<< Y) % 4294967296:Nat):Int):=by
  rw [IntKind.wrap_u32,← qsd]
  have:((X * 2 ^ min Y 32:Nat):Int)=(X:Int) * 2 ^ min Y 32:=by push_cast;rfl
  rw [← this];omega
 simp only [binOp,h3,h4,Int.toNat_natCast]
 rfl
theorem qlI(hx:U32 x)(hy:U32 y)(w:World):(binOp .shr t (.int .u32 x) (.int .u32 y)).run P w=.ok (.int .u32 ((x.toNat >>> y.toNat:Nat):Int)) w:=by
 obtain ⟨X,rfl⟩:=Int.eq_ofNat_of_zero_le hx.1
 obtain ⟨Y,rfl⟩:=Int.eq_ofNat_of_zero_le hy.1
 have h3:Op.shift .shr .u32 (X:Int) .u32 (Y:Int)=pure (.int .u32 ((X:Int).fdiv (2 ^ min Y 32))):=by
  unfold Op.shift
  rw [if_neg O]
  rfl
 have h4:(X:Int).fdiv (2 ^ min Y 32)=((X >>> Y:Nat):Int):=by
  rw [← qsv (by have:=hx.2;omega)]
  have:((2 ^ min Y 32:Nat):Int)=(2:Int) ^ min Y 32:=by push_cast;rfl
  rw [← this,Int.fdiv_eq_ediv_of_nonneg _ (Int.natCast_nonneg _)]
  rfl
 simp only [binOp,h3,h4,Int.toNat_natCast]
 rfl
end
end Go.FL
namespace Go.Proofs.YtpdnijphccdiiaaGreatDoor
open Go Go.FL
open Go.Proofs.Tryz
open Go.FL
attribute [local irreducible] JC JO JA JB qaO qaD qbV AC fill CellsAt QE Ev Mid
theorem qbY(D:Nat)(L:Hl)(s:World)(c i:Int):AC prog D 47 [.int .i64 c,.int .i64 i] L s fun v L' _=>v=.agg #[.int .i64 c,.int .i64 i]∧L=L':=by
 refine qai (fn:=f47) qaq func47 V Z ntmps47 Z (rs:=[.cell 4 33]) Z [(0,_),(1,_)] Z<|Sr<|qae Z [_,_] Z Z ?_
 intro β1 s1 h1
 refine Nt<|Sr<|Zqm Z Z<|Zqm Z Z<|qaf (qam [(_,_),(_,_)] [_,_] Z Z Z Z Z Z) Z<|Wt 0 [_,_] Y9<|Nt<|Zo<|?_
 refine rR [_] L (.agg (us:=[_,_]) 0 Z Z Z Z Z (.nil)) Z h1 fun _ hS2=>?_
 exact ⟨rfl,rfl⟩
theorem qu1(D:Nat)(L:Hl)(s:World)(x:Stm)(b o:Nat)(A1 A2 A3:Option Addr)(n1 q1 n2 q2 n3 q3:Nat)(hx:CellsAt s b o [.int .i64 x.kind,St x.name,.slice A1 n1 q1,.slice A2 n2 q2,.slice A3 n3 q3])(hn:n1=x.exprs.length)(lp:Int):AC prog D 66 [.agg #[.pointer (some ⟨b,o,none⟩),.pointer none,.int .i64 lp]] L s fun v L' _=>v=.agg #[St (qdD x).1,.int .i64 (qdD x).2.1,.int .i64 (qdD x).2.2]∧L=L':=by
 refine qai (fn:=f66) qaq func66 V Z ntmps66 Z (rs:=[.cell 2 135]) Z [(0,_)] Z<|Sr<|qau Z Z ?_
 intro β1 s1 h1
 refine qae Z [_,_,_] Z Z ?_
 intro β2 s2 h2
 refine Nt<|Zs<|Sr<|W0 Y5<|Wl 1 Y6<|qaf (qaw (v':=.bool true) (qjG underlying108 Z) Z) Z<|Nt<|Zy Z<|Zs<|Sr<|W0 Y5<|Wl 1 Y6<|At Z Z<|Sr<|Zqm Z Z<|qcD Z Z<|W0 Y5<|qaf (qaj Z Z Z (hx.le (h1.t h2)) Z) Z<|Nt<|Zp<|Sr<|qax Z Z Z<|At Z Z<|?_
 refine qab Z (fun c3=>?_) (fun c3=>?_)
 ·
  refine Sr<|Zqm Z Z<|qcD Z Z<|qaf (qbf Z Z Z Z) Z<|qaf (qaC 1 Z Z Z (hx.le (h1.t h2)) Z) Z<|qaf (qam [(_,_),(_,_),(_,_)] [_,_,_] Z Z Z Z Z Z) Z<|Wt 0 [_,_,_] Y9<|Nt<|Zo<|Zc<|Zu<|Zu<|?_
  refine rR [_,_] L (.agg (us:=[_,_,_]) 0 Z Z Z Z Z (.nil)) Z (h1.t h2) fun _ hS2=>?_
  subst hn
  refine ⟨?_,Z⟩
  simp only [qaA];unfold qdD
  repeat' split
  all_goals (first | rfl | (exfalso;omega) | (exfalso;simp_all;done))
 refine Sr<|qax Z Z Z<|At Z Z<|?_
 refine qab Z (fun c4=>?_) (fun c4=>?_)
 ·
  refine Sr<|Zqm Z Z<|qcD Z Z<|qaf (qbf Z Z Z Z) Z<|qaf (qaC 1 Z Z Z (hx.le (h1.t h2)) Z) Z<|qaf (qam [(_,_),(_,_),(_,_)] [_,_,_] Z Z Z Z Z Z) Z<|Wt 0 [_,_,_] Y9<|Nt<|Zo<|Zc<|Zu<|Zu<|?_
  refine rR [_,_] L (.agg (us:=[_,_,_]) 0 Z Z Z Z Z (.nil)) Z (h1.t h2) fun _ hS2=>?_
  subst hn
  refine ⟨?_,Z⟩
  simp only [qaA];unfold qdD
  repeat' split
  all_goals (first | rfl | (exfalso;omega) | (exfalso;simp_all;done))
 refine Sr<|qax Z Z Z<|At Z Z<|?_
 refine qab Z (fun c5=>?_) (fun c5=>?_)
 ·
  refine Zs<|qcJ qag 11 Z [0] (by intro x hx;exact qbo hx) ?_
  intro s6 h6
  refine za 0 Z (qar Z) Z<|za 1 Z (qbz Z) Z<|za 2 Z (qbf Z Z Z Z) Z<|za 3 Z (qaC 1 Z Z Z (hx.le (h1.t h2|>.t h6)) Z) Z<|za 4 Z (qar Z) Z<|za 5 Z (qbz Z) Z<|za 6 Z (qbf Z Z Z Z) Z<|za 7 Z (qaC 2 Z Z Z (hx.le (h1.t h2|>.t h6)) Z) Z<|za 8 Z (qbN Z Z Z) Z<|za 9 Z (qam [(_,_),(_,_),(_,_)] [_,_,_] Z Z Z Z Z Z) Z<|qal 10 V<|Wu Z Tt 0 [_,_,_] Y9 (sM (sbY (sbE _)))<|qad V<|Zt<|Zo<|Zc<|Zu<|Zu<|?_
  refine rR [_,_] L (.agg (us:=[_,_,_]) 0 Z Z Z Z Z (.nil)) Z (h1.t h2|>.t h6) fun _ hS2=>?_
  subst hn
  refine ⟨?_,Z⟩
  simp only [qaA];unfold qdD
  repeat' split
  all_goals (first | rfl | (exfalso;omega) | (exfalso;simp_all;done))
 refine Zk<|Zb<|Zt<|Sr<|qaf (qam [] [_,_,_] Z Z Z Z Z Z) Z<|Wt 0 [_,_,_] Y9<|Nt<|Zo<|Zu<|?_
 refine rR [_,_] L (.agg (us:=[_,_,_]) 0 Z Z Z Z Z (.nil)) Z (h1.t h2) fun _ hS2=>?_
 subst hn
 refine ⟨?_,Z⟩
 simp only [qaA];unfold qdD
 repeat' split
 all_goals (first | rfl | (exfalso;omega) | (exfalso;simp_all;done))
theorem qvO(D:Nat)(L:Hl)(s:World)(x:Ex)(b o:Nat)(A:Option Addr)(n c:Nat)(hx:CellsAt s b o [.int .i64 x.kind,.int .i64 x.op,.int .u32 x.num,St x.name,.slice A n c])(hn:n=x.args.length)(lp:Int):AC prog D 66 [.agg #[.pointer none,.pointer (some ⟨b,o,none⟩),.int .i64 lp]] L s fun v L' _=>v=.agg #[St (qdC x).1,.int .i64 (qdC x).2.1,.int .i64 (qdC x).2.2]∧L=L':=by
 refine qai (fn:=f66) qaq func66 V Z ntmps66 Z (rs:=[.cell 2 135]) Z [(0,_)] Z<|Sr<|qau Z Z ?_
 intro β1 s1 h1
 refine qae Z [_,_,_] Z Z ?_
 intro β2 s2 h2
 refine Nt<|Zs<|Sr<|W0 Y5<|Wl 1 Y6<|qaf (qaw (v':=.bool false) (qjG underlying108 Z) Z) Z<|Nt<|Zz Z<|Zk<|Zt<|Zs<|Sr<|Wb Y5<|Wl 1 Y6<|At Z Z<|Sr<|Zqm Z Z<|qcD Z Z<|W0 Y5<|qaf (qaj Z Z Z (hx.le (h1.t h2)) Z) Z<|Nt<|Zp<|Sr<|qax Z Z Z<|At Z Z<|?_
 refine qab Z (fun c3=>?_) (fun c3=>?_)
 ·
  refine Sr<|Zqm Z Z<|qcD Z Z<|qaf (qbf Z Z Z Z) Z<|qaf (qaC 3 Z Z Z (hx.le (h1.t h2)) Z) Z<|qaf (qam [(_,_),(_,_),(_,_)] [_,_,_] Z Z Z Z Z Z) Z<|Wt 0 [_,_,_] Y9<|Nt<|Zo<|Zc<|Zu<|?_
  refine rR [_,_] L (.agg (us:=[_,_,_]) 0 Z Z Z Z Z (.nil)) Z (h1.t h2) fun _ hS2=>?_
  subst hn
  refine ⟨?_,Z⟩
  simp only [qaA];unfold qdC
  repeat' split
  all_goals (first | rfl | (exfalso;omega) | (exfalso;simp_all;done))
 refine Sr<|qax Z Z Z<|At Z Z<|?_
 refine qab Z (fun c4=>?_) (fun c4=>?_)
 ·
  refine Sr<|Zqm Z Z<|qcD Z Z<|qaf (qbf Z Z Z Z) Z<|qaf (qaC 3 Z Z Z (hx.le (h1.t h2)) Z) Z<|qaf (qam [(_,_),(_,_),(_,_)] [_,_,_] Z Z Z Z Z Z) Z<|Wt 0 [_,_,_] Y9<|Nt<|Zo<|Zc<|Zu<|?_
  refine rR [_,_] L (.agg (us:=[_,_,_]) 0 Z Z Z Z Z (.nil)) Z (h1.t h2) fun _ hS2=>?_
  subst hn
  refine ⟨?_,Z⟩
  simp only [qaA];unfold qdC
  repeat' split
  all_goals (first | rfl | (exfalso;omega) | (exfalso;simp_all;done))
 refine Sr<|qax Z Z Z<|At Z Z<|?_
 refine qab Z (fun c5=>?_) (fun c5=>?_)
 ·
  refine Zs<|qcJ qag 11 Z [0] (by intro x hx;exact qbo hx) ?_
  intro s6 h6
  refine za 0 Z (qar Z) Z<|za 1 Z (qbz Z) Z<|za 2 Z (qbf Z Z Z Z) Z<|za 3 Z (qaC 3 Z Z Z (hx.le (h1.t h2|>.t h6)) Z) Z<|za 4 Z (qar Z) Z<|za 5 Z (qbz Z) Z<|za 6 Z (qbf Z Z Z Z) Z<|za 7 Z (qaC 4 Z Z Z (hx.le (h1.t h2|>.t h6)) Z) Z<|za 8 Z (qbN Z Z Z) Z<|za 9 Z (qam [(_,_),(_,_),(_,_)] [_,_,_] Z Z Z Z Z Z) Z<|qal 10 V<|Wu Z Tt 0 [_,_,_] Y9 (sM (sbY (sbE _)))<|qad V<|Zt<|Zo<|Zc<|Zu<|?_
  refine rR [_,_] L (.agg (us:=[_,_,_]) 0 Z Z Z Z Z (.nil)) Z (h1.t h2|>.t h6) fun _ hS2=>?_
  subst hn
  refine ⟨?_,Z⟩
  simp only [qaA];unfold qdC
  repeat' split
  all_goals (first | rfl | (exfalso;omega) | (exfalso;simp_all;done))
 refine Zk<|Zb<|Zt<|Sr<|qaf (qam [] [_,_,_] Z Z Z Z Z Z) Z<|Wt 0 [_,_,_] Y9<|Nt<|Zo<|?_
 refine rR [_,_] L (.agg (us:=[_,_,_]) 0 Z Z Z Z Z (.nil)) Z (h1.t h2) fun _ hS2=>?_
 subst hn
 refine ⟨?_,Z⟩
 simp only [qaA];unfold qdC
 repeat' split
 all_goals (first | rfl | (exfalso;omega) | (exfalso;simp_all;done))
end Go.Proofs.YtpdnijphccdiiaaGreatDoor
namespace Go.FL
open Go Go.RowKit
theorem qjw{L:Hl}{s:World}(nd:(L.map (·.1)).Nodup){b:Nat}{o:Obj}(hb:b < s.heap.size)(hx:(b,o)∈L):(fill L s).heap[b]?=some o:=by
  induction L with
  | nil=>cases hx
  | cons x L ih=>
    simp only [List.map_cons,List.nodup_cons] at nd
    rcases List.mem_cons.1 hx with rfl | hx
    · rw [fill];exact qc6 _ (by rw [qaB];exact hb)
    · rw [fill,qb0]
      · exact ih nd.2 hx
      · intro e;exact nd.1 (by rw [e];exact List.mem_map.2 ⟨_,hx,rfl⟩)
theorem AC.lend{P:Program}{D:Nat}{f:FuncId}{args:List Value}{L:Hl}{s:World}{R:Value→Prop}(M:Hl)(hM:∀ x∈M,x.2≠dum D)(hf:qij P f)(h:OKL D M s→AC P D f args L (fill M s) (fun v L' _=>R v∧L=L')) :
    AC P D f args (M++L) s (fun v L' _=>R v∧M++L=L'):=by
  refine ⟨hf,fun ho=>?_⟩
  have hoM:OKL D M s:=ho.left
  have hp:(M++L).Perm (L++M):=List.perm_append_comm
  have hnd:=ho.nd
  rw [List.map_append,List.nodup_append] at hnd
  have hdis:∀ x∈L,x.1 ∉ M.map (·.1):=fun x hx hm=>hnd.2.2 _ hm _ (List.mem_map.2 ⟨x,hx,rfl⟩) rfl
  have e:fill (M++L) s=fill L (fill M s):=by rw [qa4 hp _ ho,qez]
  have ho3:OKL D L (fill M s):=⟨ho.right.nd,fun x hx=>by rw [qa8 (hdis x hx)];exact ho.right.dm x hx⟩
  rw [e]
  refine ((h hoM).2 ho3).mono ?_
  rintro en w' ⟨v,L1,s1,h1,rfl,h3,h4,h6,rfl⟩
  have hlt:∀ x∈M,x.1 < s.heap.size:=fun x hx=>hoM.lt hx
  have hsz:s.heap.size≤s1.heap.size:=by have:=h4.size;rwa [qaB] at this
  have hs1:∀ x∈M,s1.heap[x.1]?=some x.2:=fun x hx=>by
    have hm:=qa2 hoM (b:=x.1) (o:=x.2) hx
    rcases h4.block x.1 (by rw [qaB];exact hlt x hx) with hd | hd
    · rw [hm] at hd;exact absurd (Option.some.inj hd) (hM x hx)
    · rw [hd,hm]
  have hk:(M.map fun x=>(x.1,dum D)).map (·.1)=M.map (·.1):=by rw [List.map_map];rfl
  have ho4:OKL D (M++L) (fill (M.map fun x=>(x.1,dum D)) s1):=⟨ho.nd,fun x hx=>by
    rcases List.mem_append.1 hx with hx | hx
    · exact qjw (by rw [hk];exact hnd.1) (Nat.lt_of_lt_of_le (hlt x hx) hsz) (List.mem_map.2 ⟨x,hx,rfl⟩)
    · rw [qa8 (by rw [hk];exact hdis x hx)];exact h3.dm x hx⟩
  have hw:fill M (fill (M.map fun x=>(x.1,dum D)) s1)=s1:=by
    refine qdi (qdk fun k=>?_) ?_ ?_ ?_ ?_
    · by_cases hm:k∈M.map (·.1)
      · obtain ⟨x,hx,rfl⟩:=List.mem_map.1 hm
        rw [qjw (o:=x.2) hnd.1 (by rw [qaB];exact Nat.lt_of_lt_of_le (hlt x hx) hsz) hx,hs1 x hx]
      · rw [qa8 hm,qa8 (by rw [hk];exact hm)]
    · rw [qbK,qbK]
    · rw [qcZ,qcZ]
    · rw [qcG,qcG]
    · rw [qbj,qbj]
  refine ⟨v,M++L,fill (M.map fun x=>(x.1,dum D)) s1,h1,?_,ho4,?_,h6,Z⟩
  · rw [qa4 hp _ ho4,qez,hw]
  · refine ⟨?_,?_,?_,?_,fun k hk1=>?_⟩
    · rw [qcG,h4.os,qcG]
    · rw [qbK,h4.tape,qbK]
    · rw [qbj,h4.output,qbj]
    · rw [qaB];exact hsz
    · by_cases hm:k∈M.map (·.1)
      · obtain ⟨x,hx,rfl⟩:=List.mem_map.1 hm
        exact .inl (hoM.dm x hx)
      · rw [qa8 (by rw [hk];exact hm)]
        have:=h4.block k (by rw [qaB];exact hk1)
        rw [qa8 hm] at this;exact this
theorem AC.ok{P:Program}{D:Nat}{f:FuncId}{args:List Value}{L:Hl}{s:World}{R:Value→Hl→World→Prop}(h:AC P D f args L s R):qij P f:=h.1
theorem qji{D:Nat}{M:Hl}{s:World}(h:OKL D M s):Pub M (fill M s):=fun b zs t hm j u hj=>by
 rw [qcL h hm,Nat.zero_add];exact hj
theorem qj9{e sz:Nat}{M:Hl}{v:Value}{n:Nat}{xs:List Value}(h:FL.Own e sz M v n xs){D:Nat}:∀ x∈M,x.2≠dum D:=by
 cases h with
 | nil=>intro x hx;cases hx
 | blk b cap n xs ys _ _ _ _=>
  intro x hx
  rw [List.mem_singleton] at hx;subst hx
  intro e;cases e
end Go.FL
namespace Go.Proofs.YtpdnijphccdiiaaGreatDoor
open Go.Proofs.Tryz
open Go.FL
attribute [local irreducible] JC JO JA JB qaO qaD qbV AC fill CellsAt QE Ev Mid
theorem qgd(D:Nat)(L:Hl)(s:World)(A:Option Addr)(n c:Nat)(l:List Str)(hA:Strs s A n c l)(w:Str):AC prog D 77 [.slice A n c,St w] L s fun v L' _=>v=.bool (decide (w∈l))∧L=L':=by
 have h:=qkv D L s A n c l hA w
 rwa [show decide (0≤qa6 (fun x=>decide (w=x)) l 0)=decide (w∈l) from decide_eq_decide.2 qbQ] at h
theorem qpF:qij prog 77:=by
 have h:=qgd 0 [] (default:World) none 0 0 [] ⟨rfl,Nat.zero_le _,by omega,fun i x h=>by cases h⟩ []
 exact AC.ok h
theorem qhZ(D:Nat)(X L:Hl)(s:World)(M:Hl)(A:Option Addr)(n c:Nat)(l:List Str)(hO:FL.Own 9 1 M (.slice A n c) n (sb l))(hu:∀ x∈l,x.length≤9223372036854775807)(hn:n=l.length)(w:Str):AC prog D 77 [.slice A n c,St w] (X++(M++L)) s fun v L' _=>v=.bool (decide (w∈l))∧L'=X++(M++L):=
 AC.perm (List.perm_append_comm_assoc ..) (AC.lend M (qj9 hO) qpF fun ho=>qgd D (X++L) _ A n c l (Own.strs hO hu (qji ho) hn) w) fun v L1 s1 ⟨g0,g1⟩=>⟨_,by rw [← g1];exact List.perm_append_comm_assoc ..,g0,rfl⟩
theorem qrF(D:Nat)(L:Hl)(s:World)(A:Option Addr)(n c:Nat)(l:List Str)(hA:Strs s A n c l):AC prog D 78 [.slice A n c] L s fun v L' _=>v=.bool (decide (¬ l.Nodup))∧L=L':=by
 have hn:=hA.1
 have hq1:=hA.2.1
 have hq2:=hA.2.2.1
 refine qai (fn:=f78) qaq func78 V Z ntmps78 Z (rs:=[.tmp 2]) Z [(0,_)] Z<|Sr<|At Z Z<|Zs<|Sr<|Zqm Z Z<|Ws Y4<|Zqm Z Z<|Nt<|Zp<|qat (γ:=Nat) (fun k=>[(0,_),(2,_),(5,_),(6,_),(7,.int .i64 (k:Int))]) (fun _=>_) (fun k tw=>Le D s tw∧(k≤n∧(l.take k).Nodup)) (fun k=>n - k) (fun _ _ _ h hl=>⟨h.1.trans hl,h.2⟩) 0 (.c5 Z Z Z Z Z (.nil _)) Z ⟨Le.refl _,⟨Nat.zero_le _,by simp⟩⟩ ?_
 intro k s1 I1
 have hk0:=I1.2.1
 have hI:=I1.2.2
 refine Sr<|qba Z Z Z<|Nt<|Zs<|?_
 refine qab Z (fun c2=>?_) (fun c2=>?_)
 ·
  have hk:k < n:=by omega
  obtain ⟨b,off,x,rfl,hx,hcx,hxl⟩:=Strs.at_ (hA.le I1.1) hk
  refine Zk<|Zt<|Zs<|Zp<|Sr<|Zqm Z Z<|qaf (qaH Z Z Z Z Z Z hk) Z<|qaf (qaj Z Z Z (hcx.le (Lr D)) Z) Z<|Zqa Z Z<|At Z Z<|Sr<|Zqm Z Z<|Zqm Z Z<|qaf (ql8 (j:=k) Z Z Z Z Z O) Z<|Zqm Z Z<|Jc Z Z Z (qgd D _ _ _ k c (l.take k) (Sl.take (hA.le I1.1) hk) x) ?_
  rintro _ _ s3 h3 ⟨rfl,rfl⟩
  refine Nt<|?_
  refine qab Z (fun c4=>?_) (fun c4=>?_)
  ·
   have hz:=c4
   refine Sr<|At Z Z<|Zo<|Zc<|Zu<|Zu<|Zc<|Zu<|?_
   refine rR [] L (.t1 Z) Z (I1.1.t h3) fun _ hS2=>?_
   exact ⟨by rw [decide_eq_true (qdo hx hz)];rfl,rfl⟩
  have hz:=c4
  refine Zk<|Zb<|Zt<|Zr<|qaG Z Z Z (w64 O O)<|Zqm Z Z<|Zn<|?_
  refine qaa ⟨(k+1),[],kp,Z,⟨(I1.1.t h3),⟨by omega,qfs hx hI hz⟩⟩,O⟩
 rw [List.take_of_length_le O] at hI
 refine Zl<|Zv<|Zv<|Zd<|Zt<|Sr<|At Z Z<|Zo<|?_
 refine rR [] L (.t1 Z) Z I1.1 fun _ hS2=>?_
 exact ⟨by rw [decide_eq_false (fun h=>h hI)];rfl,rfl⟩
theorem qmw{p:Prg}:(∀ {l:List Glo} {seen:List Str} {i:Nat},(qfl l seen i).1=0→qfl l seen i=(0,0))∧∀ {l:List Fnc} {seen:List Str} {i:Nat},(qfi l seen i).1=0→qfi l seen i=(0,0):=by
  constructor
  · intro l
    induction l with
    | nil=>intros;rfl
    | cons x r ih=>
      intro seen i h
      rw [qfl] at h ⊢
      split at h
      · cases h
      · rename_i h1;rw [if_neg h1];exact ih h
  · intro l
    induction l with
    | nil=>intros;rfl
    | cons x r ih=>
      intro seen i h
      rw [qfi] at h ⊢
      split at h
      · cases h
      · rename_i h1;rw [if_neg h1];exact ih h
theorem nF_g{p:Prg}(h:(qfl p.globals [] 0).1≠0):qb2 p=qfl p.globals [] 0:=by rw [qb2,if_pos h]
theorem qwm{p:Prg}(h0:qfl p.globals [] 0=(0,0))(h:(qfi p.funcs (p.globals.map Glo.name) p.globals.length).1≠0):qb2 p=qfi p.funcs (p.globals.map Glo.name) p.globals.length:=by rw [qb2,h0,if_neg (by simp),if_pos h]
theorem nF_m{p:Prg}(h0:qfl p.globals [] 0=(0,0))(h1:qfi p.funcs (p.globals.map Glo.name) p.globals.length=(0,0))(h:qcu p.funcs < 0):qb2 p=(12,-1):=by rw [qb2,h0,if_neg (by simp),h1,if_neg (by simp),if_pos h]
theorem nF_p{p:Prg}{x:Fnc}{j:Nat}(h0:qfl p.globals [] 0=(0,0))(h1:qfi p.funcs (p.globals.map Glo.name) p.globals.length=(0,0))(h:qcu p.funcs=(j:Int))(hx:p.funcs[j]?=some x):qb2 p=if x.params=[] then (0,0) else (9,-1):=by
 rw [qb2,h0,if_neg (by simp),h1,if_neg (by simp),h,if_neg O,Int.toNat_natCast,hx]
theorem qjZ{p:Prg}(hV:PV p):(∀ w∈p.globals.map Glo.name,w.length≤9223372036854775807)∧∀ w∈p.funcs.map Fnc.name,w.length≤9223372036854775807:=by
  obtain ⟨_,_,hg,hf,_⟩:=hV
  constructor
  · intro w hw
    obtain ⟨x,hx,rfl⟩:=List.mem_map.1 hw
    have:=qbJ (qcP (hg x hx).1).2.2.1;omega
  · intro w hw
    obtain ⟨x,hx,rfl⟩:=List.mem_map.1 hw
    have:=qbJ (hf x hx).1;omega
theorem qjv{α:Type}{p:α→Bool}:∀ {l:List α} {k:Nat},(0≤qa6 p l k→∃ y∈l,p y=true)∧(qa6 p l k < 0→qa6 p l k=-1)
  | [],k=>⟨fun h=>by simp [qa6] at h,fun _=>rfl⟩
  | y::r,k=>by
    rw [qa6]
    by_cases h:p y=true
    · rw [if_pos h];exact ⟨fun _=>⟨y,List.mem_cons_self ..,h⟩,fun h=>by omega⟩
    · rw [if_neg h]
      have ih:=qjv (p:=p) (l:=r) (k:=k+1)
      exact ⟨fun h=>by obtain ⟨z,h1,h2⟩:=ih.1 h;exact ⟨z,List.mem_cons_of_mem _ h1,h2⟩,ih.2⟩
theorem qh1{l:List Fnc}{k:Nat}{x:Fnc}(hx:l[k]?=some x)(hz:x.name ∉ (l.take k).map Fnc.name):qa6 (fun x:Fnc=>decide (x.name=qbw)) (l.take (k+1)) 0=if x.name=qbw then (k:Int) else qa6 (fun x:Fnc=>decide (x.name=qbw)) (l.take k) 0:=by
  obtain ⟨hk,rfl⟩:=List.getElem?_eq_some_iff.1 hx
  rw [List.take_succ_eq_append_getElem hk,qgU,List.length_take]
  have he:=qjv (p:=fun x:Fnc=>decide (x.name=qbw)) (l:=l.take k) (k:=0)
  by_cases hm:l[k].name=qbw
  · rw [if_pos hm,if_neg,if_pos (by simpa using hm),show min k l.length=k by omega,Nat.zero_add]
    intro h0
    obtain ⟨y,hy,e⟩:=he.1 h0
    exact hz (List.mem_map.2 ⟨y,hy,by rw [hm];simpa using e⟩)
  · rw [if_neg hm]
    split
    · rfl
    · rename_i h0
      rw [if_neg (by simpa using hm)]
      exact (he.2 O).symm
theorem qsL(D:Nat)(L:Hl)(s:World)(d:Nat)(p:Prg)(Ag Af:Option Addr)(ng cg nf cf:Nat)(hGl:Glos s Ag ng cg p.globals)(hFn:Fncs d s Af nf cf p.funcs)(hV:PV p):AC prog D 44 [.agg #[.slice Ag ng cg,.slice Af nf cf]] L s fun v L' _=>v=.agg #[.int .i64 (qb2 p).1,.int .i64 (qb2 p).2]∧L=L':=by
 have hn1:=hGl.1
 have hn2:=hFn.1
 obtain ⟨hN1,hN2⟩:=qjZ hV
 have hV1:=hV.1
 have hV2:=hV.2.1
 have hVf:=hV.2.2.2.1
 refine qai (fn:=f44) qaq func44 V Z ntmps44 Z (rs:=[.cell 2 33]) Z [(0,_)] Z<|Sr<|qau Z Z ?_
 intro β1 s1 h1
 refine qae Z [_,_] Z Z ?_
 intro β2 s2 h2
 refine Nt<|Sr<|At Z Z<|Zs<|Sr<|W0 Y5<|Wl 1 Y6<|Ws Y4<|Zqm Z Z<|Nt<|Zp<|?_
 refine qat (γ:=Nat×Value×Hl) (fun g=>[(1,_),(2,_),(3,g.2.1),(10,_),(11,_),(12,.int .i64 (g.1:Int))]) (fun g=>_::_::(g.2.2++L)) (fun g tw=>Le D s2 tw∧(g.1≤ng∧FL.Own 9 1 g.2.2 g.2.1 g.1 (sb ((p.globals.take g.1).map Glo.name))∧qfl p.globals [] 0=qfl (p.globals.drop g.1) ((p.globals.take g.1).map Glo.name) g.1)) (fun g=>ng - g.1) (fun _ _ _ h hl=>⟨h.1.trans hl,h.2⟩) (0,.slice none 0 0,[]) (.c6 Z Z Z Z Z Z (.nil _)) Z ⟨Le.refl _,⟨Nat.zero_le _,Own.nil,Z⟩⟩ ?_
 intro g s3 I3
 obtain ⟨k,vo,Mo⟩:=g
 obtain ⟨hk0,hO,hS⟩:=I3.2
 simp only at hk0 hO hS
 dsimp only
 obtain ⟨Av,cv,rfl,hv1,hv2⟩:=Own.slice hO
 refine Sr<|qba Z Z Z<|Nt<|Zs<|?_
 refine qab Z (fun c4=>?_) (fun c4=>?_)
 ·
  have hk:k < ng:=by omega
  obtain ⟨b,off,x,Ai,ni,ci,rfl,hx,hcx,hix,hux,hnl⟩:=Glos.at_ (hGl.le (h1.t h2|>.t I3.1)) hk
  refine Zk<|Zt<|Zs<|Zp<|Sr<|Zqm Z Z<|qaf (qap Z Z Z Z Z Z hk) Z<|qaf (qas Z Z Z (hcx.le (Lr D)) Z) Z<|qae Z [_,_,_,_] Z Z ?_
  intro β5 s5 h5
  refine Zqa Z Z<|Wt 0 [_,_,_,_] Y9<|Nt<|Zs<|Sr<|Zqm Z Z<|Wb Y5<|Wl 0 Y6<|Jc Z Z Z (qhZ D [_,_,_] L _ Mo Av k cv _ hO (fun w hw=>hN1 w (by rw [List.map_take] at hw;exact List.mem_of_mem_take hw)) (by rw [List.length_map,List.length_take];omega) x.name) ?_
  rintro _ _ s6 h6 ⟨rfl,rfl⟩
  simp only [cQ9,nQ9]
  refine Nt<|?_
  refine qab Z (fun c7=>?_) (fun c7=>?_)
  ·
   have hE:qb2 p=(8,(k:Int)):=by
     have h9:qfl p.globals [] 0=(8,(k:Int)):=by rw [hS,qhU hx,if_pos c7]
     rw [nF_g (by rw [h9];simp),h9]
   refine Sr<|Zqm Z Z<|Jc Z Z Z (qbY D _ _ _ _) ?_
   rintro _ _ s8 h8 ⟨rfl,rfl⟩
   refine Wt 1 [_,_] Y9<|Nt<|Zo<|Zu<|Zc<|Zu<|Zu<|Zc<|Zu<|?_
   refine rR (_::_::_::Mo) L (.agg (us:=[_,_]) 1 Z Z Z Z Z (.nil)) Z (h1.t h2|>.t I3.1|>.t h5|>.t h6|>.t h8) fun _ hS2=>?_
   exact ⟨by rw [hE];rfl,rfl⟩
  have hz:=c7
  refine Zk<|Zt<|Zr<|Zqm Z Z<|Wb Y5<|Wl 0 Y6<|qbt [(_,_)] [_] Z Z Z Z Z Z Z Z Z ?_
  intro βn s9 h9 hcb
  refine qbd (sz:=1) [_,_,_] Mo L Z Z Z Z Z Z Z hO (Row.of_cells (hcb.le (Lr D)) Z Z) ⟨by simp [ti9];omega,by omega⟩ Z ?_
  intro vq Mq s10 h10 oq
  obtain ⟨Avq,cvq,rfl,_,_⟩:=Own.slice oq
  simp only [cQ9,nQ9]
  refine Zqa Z Z<|Zn<|Zb<|Zt<|Zr<|qaG Z Z Z (w64 O O)<|Zqm Z Z<|Zn<|?_
  refine qaa ⟨(k+1,.slice Avq (k+1) cvq,Mq),[_],kp,Z,⟨(I3.1.t h5|>.t h6|>.t h9|>.t h10),⟨by simp only;omega,by rw [qaL Glo.name hx,qdh];exact oq,by simp only;rw [hS,qhU hx,if_neg hz,qaL Glo.name hx]⟩⟩,Oz⟩
 obtain rfl:ng=k:=by omega
 rw [List.drop_eq_nil_of_le O,qfl] at hS
 rw [List.take_of_length_le O] at hO
 refine Zl<|Zv<|Zv<|Zd<|Zt<|Sr<|At Z Z<|Zs<|Sr<|Wb Y5<|Wl 1 Y6<|Ws Y4<|Zqm Z Z<|Nt<|Zp<|?_
 refine qat (γ:=Nat×Value×Hl) (fun g=>[(1,_),(2,_),(3,g.2.1),(6,.int .i64 (qa6 (fun x=>decide (x.name=qbw)) (p.funcs.take g.1) 0)),(30,_),(31,_),(32,.int .i64 (g.1:Int))]) (fun g=>_::_::(g.2.2++L)) (fun g tw=>Le D s3 tw∧(g.1≤nf∧FL.Own 9 1 g.2.2 g.2.1 (ng+g.1) (sb (p.globals.map Glo.name++(p.funcs.take g.1).map Fnc.name))∧qfi p.funcs (p.globals.map Glo.name) p.globals.length=qfi (p.funcs.drop g.1) (p.globals.map Glo.name++(p.funcs.take g.1).map Fnc.name) (p.globals.length+g.1))) (fun g=>nf - g.1) (fun _ _ _ h hl=>⟨h.1.trans hl,h.2⟩) (0,.slice Av ng cv,Mo) (.c6 Z Z Z Z Z Z (.cons Z (.nil _))) Z ⟨Le.refl _,⟨Nat.zero_le _,by simpa using hO,by simp⟩⟩ ?_
 intro g s11 I11
 obtain ⟨k,vo,Mo⟩:=g
 obtain ⟨hk0,hO,hS2⟩:=I11.2
 simp only at hk0 hO hS2
 dsimp only
 obtain ⟨Av,cv,rfl,hv1,hv2⟩:=Own.slice hO
 refine Sr<|qba Z Z Z<|Nt<|Zs<|?_
 refine qab Z (fun c12=>?_) (fun c12=>?_)
 ·
  have hk:k < nf:=by omega
  obtain ⟨b,off,x,B1,m1,d1,B2,m2,d2,B3,m3,d3,rfl,hx,hcx,hpx,hlx,hbx,hnl⟩:=Fncs.at_ (hFn.le (h1.t h2|>.t I3.1|>.t I11.1)) hk
  obtain ⟨hi1,hi2,hi3,hi4,hi5,hi6⟩:=hVf x (List.mem_of_getElem? hx)
  have hp9:=hpx.1
  have hl9:=hlx.1
  refine Zk<|Zt<|Zs<|Zp<|Sr<|Zqm Z Z<|qaf (qap Z Z Z Z Z Z hk) Z<|qaf (qas Z Z Z (hcx.le (Lr D)) Z) Z<|qae Z [_,_,_,_] Z Z ?_
  intro β13 s13 h13
  refine Zqa Z Z<|Wt 0 [_,_,_,_] Y9<|Nt<|Zs<|?_
  refine qaR 49 (x.name∈(p.globals.map Glo.name++(p.funcs.take k).map Fnc.name)∨¬ (x.params++x.locals).Nodup) ?_ ?_
  ·
   refine Zr<|Zqm Z Z<|W0 Y5<|Wl 0 Y6<|Jc Z Z Z (qhZ D [_,_,_] L _ Mo Av (ng+k) cv _ hO (fun w hw=>(List.mem_append.1 hw).elim (hN1 w) (fun hw=>hN2 w (by rw [List.map_take] at hw;exact List.mem_of_mem_take hw))) (by rw [List.length_append,List.length_map,List.length_map,List.length_take];omega) x.name) ?_
   rintro _ _ s15 h15 ⟨rfl,rfl⟩
   simp only [cQ9,nQ9]
   refine Zqm Z Z ?_
   refine qak (t:=41) Z (fun c16=>?_) (fun c16=>?_)
   ·
    refine Wf Y4<|Wf Y4<|Wf Y4<|Wf Y4<|Wf Y4<|Wf Y4<|Wf Y4<|ZqT Z Z Z<|Zn<|?_
    refine qaa (MidB.mk h15 Sb Z ((decide_eq_true (.inl As)).symm))
   refine Zg Z Z<|Wb Y5<|Zg Z Z<|Wl 0 Y6<|Zg Z Z<|Wb Y5<|Zg Z Z<|Wl 0 Y6<|Zg Z Z<|qbt [(_,_),(_,_)] [_,_] Z Z Z Z Z Z Z Z Z ?_
   intro βp s17 h17 hcp
   refine Zg Z Z<|Jc Z Z Z (qh3 D _ _ _ B1 B2 m1 d1 m2 d2 x.params x.locals (hpx.le (h13.t h15|>.t h17)) (hlx.le (h13.t h15|>.t h17)) (hcp.le (Lr D)) O O) ?_
   rintro _ _ s18 h18 ⟨rfl,Aq,nq,cq,rfl,hQ⟩
   refine Zg Z Z<|Jc Z Z Z (qrF D _ _ Aq nq cq _ (hQ.le (Lr D))) ?_
   rintro _ _ s19 h19 ⟨rfl,rfl⟩
   refine ZqF Z Z Z<|Zn<|?_
   refine qaa (MidB.mk (h15.t h17|>.t h18|>.t h19) Sb Z (decide_eq_decide.2 (⟨fun h=>.inr h,fun h=>h.resolve_left As⟩)))
  intro s14 h14
  refine qab Z (fun c20=>?_) (fun c20=>?_)
  ·
   have hE:qb2 p=(8,((ng+k:Nat):Int)):=by
     have h9:qfi p.funcs (p.globals.map Glo.name) p.globals.length=(8,((ng+k:Nat):Int)):=by rw [hS2,qeF hx,if_pos c20,hn1]
     rw [qwm hS (by rw [h9];simp),h9]
   refine Sr<|W0 Y5<|Wl 2 Y6<|Ws Y4<|Zqm Z Z<|qaf (qaX Z Z (show IntKind.i64.wrap ((ng:Int)+(k:Int))=((ng+k:Nat):Int) by rw [w64 O O];simp)) Z<|Jc Z Z Z (qbY D _ _ _ _) ?_
   rintro _ _ s21 h21 ⟨rfl,rfl⟩
   refine Wt 1 [_,_] Y9<|Nt<|Zo<|Zu<|Zc<|Zu<|Zu<|Zc<|Zu<|?_
   refine rR (_::_::_::Mo) L (.agg (us:=[_,_]) 1 Z Z Z Z Z (.nil)) Z (h1.t h2|>.t I3.1|>.t I11.1|>.t h13|>.t h14|>.t h21) fun _ hS2=>?_
   exact ⟨by rw [hE];rfl,rfl⟩
  have hz:=c20
  refine Zk<|Zt<|Sr<|Zqm Z Z<|W0 Y5<|Wl 0 Y6<|qbt [(_,_)] [_] Z Z Z Z Z Z Z Z Z ?_
  intro βn s22 h22 hcb
  refine qbd (sz:=1) [_,_,_] Mo L Z Z Z Z Z Z Z hO (Row.of_cells (hcb.le (Lr D)) Z Z) ⟨by simp [ti9];omega,by omega⟩ Z ?_
  intro vq Mq s23 h23 oq
  obtain ⟨Avq,cvq,rfl,_,_⟩:=Own.slice oq
  simp only [cQ9,nQ9]
  refine At Z Z<|Sr<|W0 Y5<|Wl 0 Y6<|qll Z Z Z<|Nt<|?_
  refine qab Z (fun c24=>?_) (fun c24=>?_)
  ·
   have hmn:x.name=qbw:=c24
   refine Zr<|Zqm Z Z<|Zqa Z Z<|Zn<|Zb<|Zt<|Zr<|qaG Z Z Z (w64 O O)<|Zqm Z Z<|Zn<|?_
   refine qaa ⟨(k+1,.slice Avq (ng+k+1) cvq,Mq),[_],(.c3 Z Z Z (.cons (congrArg (fun i=>some (Value.int .i64 i)) (by rw [qh1 hx (fun h=>hz (.inl (List.mem_append_right _ h)))];first | rw [if_pos hmn] | rw [if_neg hmn])) kp)),Z,⟨(I11.1.t h13|>.t h14|>.t h22|>.t h23),⟨by simp only;omega,by rw [qaL Fnc.name hx,← List.append_assoc,qdh];exact oq,by simp only;rw [hS2,qeF hx,if_neg hz,qaL Fnc.name hx,List.append_assoc];rfl⟩⟩,Oz⟩
  have hmn:¬ x.name=qbw:=c24
  refine Zk<|Zb<|Zt<|Zr<|qaG Z Z Z (w64 O O)<|Zqm Z Z<|Zn<|?_
  refine qaa ⟨(k+1,.slice Avq (ng+k+1) cvq,Mq),[_],(.c3 Z Z Z (.cons (congrArg (fun i=>some (Value.int .i64 i)) (by rw [qh1 hx (fun h=>hz (.inl (List.mem_append_right _ h)))];first | rw [if_pos hmn] | rw [if_neg hmn])) kp)),Z,⟨(I11.1.t h13|>.t h14|>.t h22|>.t h23),⟨by simp only;omega,by rw [qaL Fnc.name hx,← List.append_assoc,qdh];exact oq,by simp only;rw [hS2,qeF hx,if_neg hz,qaL Fnc.name hx,List.append_assoc];rfl⟩⟩,Oz⟩
 rw [List.drop_eq_nil_of_le O,qfi] at hS2
 rw [List.take_of_length_le (show p.funcs.length≤k by omega)]
 refine Zl<|Zv<|Zv<|Zd<|Zt<|Zs<|Sr<|Zqm Z Z<|qba Z Z Z<|Nt<|?_
 refine qab Z (fun c25=>?_) (fun c25=>?_)
 ·
  have hE:=nF_m hS hS2 (show qcu p.funcs < 0 from c25)
  refine Sr<|Jc Z Z Z (qbY D _ _ _ _) ?_
  rintro _ _ s26 h26 ⟨rfl,rfl⟩
  refine Wt 0 [_,_] Y9<|Nt<|Zo<|Zu<|?_
  refine rR (_::_::Mo) L (.agg (us:=[_,_]) 0 Z Z Z Z Z (.nil)) Z (h1.t h2|>.t I3.1|>.t I11.1|>.t h26) fun _ hS2=>?_
  exact ⟨by rw [hE];rfl,rfl⟩
 obtain ⟨j,hj⟩:=Int.eq_ofNat_of_zero_le (show 0≤qcu p.funcs by unfold qcu;omega)
 have hjl:=qdI (p:=fun x:Fnc=>decide (x.name=qbw)) (l:=p.funcs) (k:=0)
 have hjl2:j < nf:=by unfold qcu at hj;omega
 obtain ⟨b,off,x,B1,m1,d1,B2,m2,d2,B3,m3,d3,rfl,hx,hcx,hpx,hlx,hbx,hnl⟩:=Fncs.at_ (hFn.le (h1.t h2|>.t I3.1|>.t I11.1)) hjl2
 have hp9:=hpx.1
 have hE:=nF_p hS hS2 hj hx
 rw [show qa6 (fun x:Fnc=>decide (x.name=qbw)) p.funcs 0=(j:Int) from hj]
 refine Zk<|Zt<|Zs<|Sr<|Wb Y5<|Wl 1 Y6<|Zqm Z Z<|qaf (qap (j:=j) Z Z Z Z Z Z hjl2) Z<|qaf (qbf Z Z Z Z) Z<|qaf (qaC 1 Z Z Z (hcx.le (Lr D)) Z) Z<|Ws Y4<|qbA Z Z Z<|Nt<|?_
 refine qab Z (fun c27=>?_) (fun c27=>?_)
 ·
  rw [if_neg (fun h=>by rw [h] at hp9;simp at hp9;omega)] at hE
  refine Sr<|Jc Z Z Z (qbY D _ _ _ _) ?_
  rintro _ _ s28 h28 ⟨rfl,rfl⟩
  refine Wt 0 [_,_] Y9<|Nt<|Zo<|Zu<|?_
  refine rR (_::_::Mo) L (.agg (us:=[_,_]) 0 Z Z Z Z Z (.nil)) Z (h1.t h2|>.t I3.1|>.t I11.1|>.t h28) fun _ hS2=>?_
  exact ⟨by rw [hE];rfl,rfl⟩
 rw [if_pos (List.eq_nil_of_length_eq_zero O)] at hE
 refine Zk<|Zt<|Sr<|qaf (qam [] [_,_] Z Z Z Z Z Z) Z<|Wt 0 [_,_] Y9<|Nt<|Zo<|?_
 refine rR (_::_::Mo) L (.agg (us:=[_,_]) 0 Z Z Z Z Z (.nil)) Z (h1.t h2|>.t I3.1|>.t I11.1) fun _ hS2=>?_
 exact ⟨by rw [hE];rfl,rfl⟩
end Go.Proofs.YtpdnijphccdiiaaGreatDoor
namespace Go.FL
open Go Go.RowKit
def MapS{κ:Type}(s:World)(kf:κ→Value)(b:Nat)(es:List (κ×Value×Nat)):Prop:=∃ ck,s.heap[b]?=some (mp kf es ck)
theorem MapS.le{κ:Type}{D:Nat}{s s':World}{kf:κ→Value}{b:Nat}{es:List (κ×Value×Nat)}(h:MapS s kf b es)(hl:Le D s s'):MapS s' kf b es:=by
 obtain ⟨ck,h⟩:=h
 refine ⟨ck,?_⟩
 have hb:b < s.heap.size:=by
  rcases Nat.lt_or_ge b s.heap.size with h1 | h1
  · exact h1
  · rw [Array.getElem?_eq_none h1] at h;cases h
 rcases hl.block b hb with h1 | h1
 · rw [h] at h1;cases h1
 · rw [h1,h]
theorem qkH{P:Program}{TT:qaV}{D:Nat}{fr:Fr}{ty:Nat}{K:Hl}{s0:World}{κ:Type} [DecidableEq κ] {dk:TypeDesc} {kf:κ→Value} (KK:KeyK κ dk kf) {t b:Nat} {x y:Operand} {z:Value} (hm:qkz P t dk z) {es:List (κ×Value×Nat)} {k:κ} (hx:lk fr x=some (.map (some b))) (hy:lk fr y=some (kf k)) (hi:MapS s0 kf b es) :
  QE P TT D fr (.lookup t x y true) ty K s0 (.tuple #[(qcx es k).getD z,.bool (qcx es k).isSome]):=fun hT dst pos af g ρ hρ L s ho hl hK=>by
 obtain ⟨ck,hb⟩:=hi.le (hl.trans (qdl ho))
 simp only [execOp,hρ x _ hx,hρ y _ hy,Sem.run_bind,qgx KK hm hb,Result.andThen_ok,Sem.run_pure]
 rfl
theorem AC.pubO{P:Program}{D:Nat}{f:FuncId}{args:List Value}{L:Hl}{s:World}{R:Value→Hl→World→Prop}(h:AC P D f args L s (fun v L' s'=>∃ M',L'=M'++L∧R v M' s')) :
  AC P D f args L s (fun v L' s'=>L=L'∧∃ M' s1,R v M' s1∧Le D s1 s'∧∀ b o,(b,o)∈M'→s'.heap[b]?=some o):=by
 refine ⟨h.1,fun ho=>(h.2 ho).mono ?_⟩
 rintro e w' ⟨v,L',s',h1,rfl,h3,h4,M',rfl,h6⟩
 obtain ⟨d1,d2,d3⟩:=qbc h3
 exact ⟨v,L,fill M' s',h1,d1,d2,h4.trans d3,rfl,M',s',h6,d3,fun b o hm=>qa2 h3.left hm⟩
end Go.FL
namespace Go.Proofs.YtpdnijphccdiiaaGreatDoor
open Go.Proofs.Tryz
open Go.FL
attribute [local irreducible] JC JO JA JB qaO qaD qbV AC fill CellsAt QE Ev Mid
theorem qj3:qkz prog 96 .string (.agg #[.int .i64 0,.int .i64 0]):=⟨_,_,underlying96,underlying9,fun w=>by rw [qeM qmv];rfl⟩
def MV(m:Int×Int):Value:=.agg #[.int .i64 m.1,.int .i64 m.2]
def ents(p:Prg):List (Str×(Int×Int)):=(p.globals.mapIdx fun i g=>(g.name,((3:Int),(i:Int))))++(p.funcs.mapIdx fun i x=>(x.name,((4:Int),(i:Int))))
def qaz(p:Prg)(x:Fnc)(nm:Str):(Int×Int)×Bool:=if 0≤qa6 (fun y=>decide (nm=y)) x.params 0 then ((1,qa6 (fun y=>decide (nm=y)) x.params 0),true) else if 0≤qa6 (fun y=>decide (nm=y)) x.locals 0 then ((2,qa6 (fun y=>decide (nm=y)) x.locals 0),true)
 else match (ents p).find? fun e=>decide (e.1=nm) with
  | some e=>(e.2,true)
  | none=>((0,0),false)
def NmOK(s:World)(b:Nat)(p:Prg):Prop:=∃ es:List (Str×Value×Nat),MapS s (fun l=>St l) b es∧∀ nm,qcx es nm=((ents p).find? fun e=>decide (e.1=nm)).map fun e=>MV e.2
theorem NmOK.le{D:Nat}{s s':World}{b:Nat}{p:Prg}(h:NmOK s b p)(hl:Le D s s'):NmOK s' b p:=by
 obtain ⟨es,h1,h2⟩:=h
 exact ⟨es,h1.le hl,h2⟩
theorem qeB(D:Nat)(L:Hl)(s:World)(p:Prg)(Ag Af:Option Addr)(ng cg nf cf bm:Nat)(hM:NmOK s bm p)(x:Fnc)(A1 A2 A3:Option Addr)(n1 q1 n2 q2 n3 q3:Nat)(hs1:Strs s A1 n1 q1 x.params)(hs2:Strs s A2 n2 q2 x.locals)(nm:List UInt8):AC prog D 60 [.agg #[.slice Ag ng cg,.slice Af nf cf,.map (some bm)],.agg #[St x.name,.slice A1 n1 q1,.slice A2 n2 q2,.slice A3 n3 q3],St nm] L s fun v L' _=>v=.tuple #[.agg #[.int .i64 (qaz p x nm).1.1,.int .i64 (qaz p x nm).1.2],.bool (qaz p x nm).2]∧L=L':=by
 obtain ⟨es,hMs,hes⟩:=hM
 refine qai (fn:=f60) qaq func60 V Z ntmps60 Z (rs:=[.cell 6 79,.tmp 7]) Z [(0,_),(1,_),(2,_)] Z<|Sr<|qau Z Z ?_
 intro β1 s1 h1
 refine qau Z Z ?_
 intro β2 s2 h2
 refine qae Z [_,_] Z Z ?_
 intro β3 s3 h3
 refine At Z Z<|Zs<|Sr<|Wb Y5<|Wl 1 Y6<|Zqm Z Z<|Jc Z Z Z (qgl D _ _ A1 n1 q1 x.params (hs1.le (h1.t h2|>.t h3)) nm) ?_
 rintro _ _ s4 h4 ⟨rfl,rfl⟩
 refine At Z Z<|Sr<|Zqm Z Z<|qf1 Z Z Z<|Nt<|?_
 refine qab Z (fun c5=>?_) (fun c5=>?_)
 ·
  have hE:qaz p x nm=_:=if_pos c5
  refine Sr<|Zqm Z Z<|qaf (qam [(_,_),(_,_)] [_,_] Z Z Z Z Z Z) Z<|Wt 0 [_,_] Y9<|At Z Z<|Zo<|Zu<|?_
  refine rR [_,_,_] L (.agg (us:=[_,_]) 0 Z Z Z Z Z (.t1 Z)) Z (h1.t h2|>.t h3|>.t h4) fun _ hS2=>?_
  exact ⟨by rw [hE];rfl,rfl⟩
 have g17:=c5
 refine Zk<|Zt<|Zs<|Sr<|Wb Y5<|Wl 1 Y6<|Zqm Z Z<|Jc Z Z Z (qgl D _ _ A2 n2 q2 x.locals (hs2.le (h1.t h2|>.t h3|>.t h4)) nm) ?_
 rintro _ _ s6 h6 ⟨rfl,rfl⟩
 refine At Z Z<|Sr<|Zqm Z Z<|qf1 Z Z Z<|Nt<|?_
 refine qab Z (fun c7=>?_) (fun c7=>?_)
 ·
  have hE:qaz p x nm=_:=(if_neg g17).trans (if_pos c7)
  refine Sr<|Zqm Z Z<|qaf (qam [(_,_),(_,_)] [_,_] Z Z Z Z Z Z) Z<|Wt 0 [_,_] Y9<|At Z Z<|Zo<|Zu<|?_
  refine rR [_,_,_] L (.agg (us:=[_,_]) 0 Z Z Z Z Z (.t1 Z)) Z (h1.t h2|>.t h3|>.t h4|>.t h6) fun _ hS2=>?_
  exact ⟨by rw [hE];rfl,rfl⟩
 have g25:=c7
 obtain ⟨mm,bb,hmm,hE⟩:∃ (mm:Int×Int) (bb:Bool),(qcx es nm).getD (.agg #[.int .i64 0,.int .i64 0])=MV mm∧(qcx es nm).isSome=bb∧qaz p x nm=(mm,bb):=by
   rw [hes nm,qaz,if_neg g17,if_neg g25]
   cases (ents p).find? fun e=>decide (e.1=nm) with
   | none=>exact ⟨(0,0),false,rfl,rfl,rfl⟩
   | some e=>exact ⟨e.2,true,rfl,rfl,rfl⟩
 obtain ⟨hbb,hE⟩:=hE
 refine Zk<|Zt<|Sr<|Wb Y5<|Wl 2 Y6<|Zqm Z Z<|qaf (qaw (qkH KeyK.str qj3 Z Z (hMs.le (h1.t h2|>.t h3|>.t h4|>.t h6))) (show Value.tuple #[(qcx es nm).getD (.agg #[.int .i64 0,.int .i64 0]),.bool (qcx es nm).isSome]=.tuple #[.agg #[.int .i64 mm.1,.int .i64 mm.2],.bool bb] by rw [hmm,hbb];rfl)) Z<|Zqm Z Z<|Zqx Z Z Z<|Zqx Z Z Z<|qae Z [_,_] Z Z ?_
 intro β8 s8 h8
 refine Wt 0 [_,_] Y9<|At Z Z<|Sr<|qaf (qan 0 [_,_] Z Z Z Z Z) Z<|Zqm Z Z<|Wt 1 [_,_] Y9<|At Z Z<|Zo<|?_
 refine rR [_,_,_,_] L (.agg (us:=[_,_]) 1 Z Z Z Z Z (.t1 Z)) Z (h1.t h2|>.t h3|>.t h4|>.t h6|>.t h8) fun _ hS2=>?_
 exact ⟨by rw [hE];rfl,rfl⟩
theorem qiJ{l:List (Str×(Int×Int))}{k ck:Nat}{e:Str×(Int×Int)}{es:List (Str×Value×Nat)}(hk:l[k]?=some e)(hnd:(l.map (·.1)).Nodup)(h:∀ nm,qcx es nm=((l.take k).find? fun e=>decide (e.1=nm)).map fun e=>MV e.2)(nm:Str):qcx (qlp es e.1 (MV e.2) ck) nm=((l.take (k+1)).find? fun e=>decide (e.1=nm)).map fun e=>MV e.2:=by
  obtain ⟨hl,rfl⟩:=List.getElem?_eq_some_iff.1 hk
  rw [qla,List.take_succ_eq_append_getElem hl,List.find?_append,h nm]
  by_cases hn:nm=l[k].1
  · subst hn
    rw [if_pos rfl]
    have h0:(l.take k).find? (fun e=>decide (e.1=l[k].1))=none:=by
      rw [List.find?_eq_none]
      intro y hy hd
      have h2:((l.take k++l.drop k).map (·.1)).Nodup:=by rw [List.take_append_drop];exact hnd
      rw [List.map_append,List.nodup_append] at h2
      exact h2.2.2 _ (List.mem_map.2 ⟨y,hy,rfl⟩) _ (List.mem_map.2 ⟨l[k],by rw [List.drop_eq_getElem_cons hl];exact List.mem_cons_self ..,rfl⟩) (by simpa using hd)
    rw [h0];simp
  · rw [if_neg hn]
    have h1:[l[k]].find? (fun e=>decide (e.1=nm))=none:=by simp [List.find?,Ne.symm hn,show ¬ l[k].1=nm from fun h=>hn h.symm]
    rw [h1,Option.or_none]
theorem qhh{p:Prg}{k:Nat}{x:Glo}(h:p.globals[k]?=some x):(ents p)[k]?=some (x.name,((3:Int),(k:Int))):=by
 obtain ⟨hl,rfl⟩:=List.getElem?_eq_some_iff.1 h
 rw [ents,List.getElem?_append_left (by simpa using hl)];simp [hl]
theorem qd9{p:Prg}{k:Nat}{x:Fnc}(h:p.funcs[k]?=some x):(ents p)[p.globals.length+k]?=some (x.name,((4:Int),(k:Int))):=by
 obtain ⟨hl,rfl⟩:=List.getElem?_eq_some_iff.1 h
 rw [ents,List.getElem?_append_right (by simp)];simp [hl]
theorem qp3(D:Nat)(L:Hl)(s:World)(d:Nat)(p:Prg)(Ag Af:Option Addr)(ng cg nf cf:Nat)(hGl:Glos s Ag ng cg p.globals)(hFn:Fncs d s Af nf cf p.funcs)(hD:((ents p).map (·.1)).Nodup):AC prog D 38 [.agg #[.slice Ag ng cg,.slice Af nf cf]] L s fun v L' _=>∃ M',L'=M'++L∧∃ bm es ck,M'=[(bm,mp (fun l=>St l) es ck)]∧v=.agg #[.slice Ag ng cg,.slice Af nf cf,.map (some bm)]∧∀ nm,qcx es nm=((ents p).find? fun e=>decide (e.1=nm)).map fun e=>MV e.2:=by
 have hn1:=hGl.1
 have hn2:=hFn.1
 have hq1:=hGl.2.1
 have hq2:=hGl.2.2.1
 have hq3:=hFn.2.1
 have hq4:=hFn.2.2.1
 refine qai (fn:=f38) qaq func38 V Z ntmps38 Z (rs:=[.cell 2 98]) Z [(0,_)] Z<|Sr<|qau Z Z ?_
 intro β1 s1 h1
 refine qae Z [_,_,_] Z Z ?_
 intro β2 s2 h2
 refine Nt<|Sr<|qaf (qan 1 [_,_] Z Z Z Z Z) Z<|qn3 (fun l=>St l) Z ?_
 intro βm s3 h3
 refine qaf (qam [(_,_),(_,_)] [_,_,_] Z Z Z Z Z Z) Z<|qae Z [_,_,_] Z Z ?_
 intro β4 s4 h4
 refine Wt 0 [_,_,_] Y9<|Nt<|Zs<|Sr<|W0 Y5<|Wl 3 Y6<|Ws Y4<|Zqm Z Z<|Nt<|Zp<|?_
 refine qat (γ:=Nat×List (Str×Value×Nat)×Nat) (fun g=>[(1,_),(2,_),(3,_),(12,_),(13,_),(14,.int .i64 (g.1:Int))]) (fun g=>_::(βm,mp (fun l=>St l) g.2.1 g.2.2)::_::_::L) (fun g tw=>Le D s4 tw∧(g.1≤ng∧∀ nm,qcx g.2.1 nm=(((ents p).take g.1).find? fun e=>decide (e.1=nm)).map fun e=>MV e.2)) (fun g=>ng - g.1) (fun _ _ _ h hl=>⟨h.1.trans hl,h.2⟩) (0,[],0) (.c6 Z Z Z Z Z Z (.nil _)) Z ⟨Le.refl _,⟨Nat.zero_le _,fun nm=>rfl⟩⟩ ?_
 intro g s5 I5
 obtain ⟨k,es,ck⟩:=g
 obtain ⟨hk0,hS⟩:=I5.2
 simp only at hk0 hS
 dsimp only
 refine Sr<|qba Z Z Z<|Nt<|Zs<|?_
 refine qab Z (fun c6=>?_) (fun c6=>?_)
 ·
  have hk:k < ng:=by omega
  obtain ⟨b,off,x,Ai,ni,ci,rfl,hx,hcx,hix,hux,hnl⟩:=Glos.at_ (hGl.le (h1.t h2|>.t h3|>.t h4|>.t I5.1)) hk
  refine Zk<|Zt<|Zs<|Zp<|Sr<|Zqm Z Z<|qaf (qap Z Z Z Z Z Z hk) Z<|qaf (qas Z Z Z (hcx.le (Lr D)) Z) Z<|qae Z [_,_,_,_] Z Z ?_
  intro β7 s7 h7
  refine Zqa Z Z<|Wt 0 [_,_,_,_] Y9<|Nt<|Zr<|Wb Y5<|Wl 1 Y6<|Wb Y5<|Wl 0 Y6<|Zqm Z Z<|qaf (qam [(_,_),(_,_)] [_,_] Z Z Z Z Z Z) Z<|qlu KeyK.str 2 qj3 Z Z Z Z ?_
  intro ck1
  simp only [qdV]
  refine Zn<|Zb<|Zt<|Zr<|qaG Z Z Z (w64 O O)<|Zqm Z Z<|Zn<|?_
  refine qaa ⟨(k+1,_,ck1),[_],kp,Z,⟨(I5.1.t h7),⟨by simp only;omega,qiJ (qhh hx) hD hS⟩⟩,Oz⟩
 obtain rfl:p.globals.length=k:=by omega
 refine Zl<|Zv<|Zv<|Zd<|Zt<|Zs<|Sr<|Wb Y5<|Wl 3 Y6<|Ws Y4<|Zqm Z Z<|Nt<|Zp<|?_
 refine qat (γ:=Nat×List (Str×Value×Nat)×Nat) (fun g=>[(2,_),(3,_),(27,_),(28,_),(29,.int .i64 (g.1:Int))]) (fun g=>_::(βm,mp (fun l=>St l) g.2.1 g.2.2)::_::_::L) (fun g tw=>Le D s5 tw∧(g.1≤nf∧∀ nm,qcx g.2.1 nm=(((ents p).take (p.globals.length+g.1)).find? fun e=>decide (e.1=nm)).map fun e=>MV e.2)) (fun g=>nf - g.1) (fun _ _ _ h hl=>⟨h.1.trans hl,h.2⟩) (0,es,ck) (.c5 Z Z Z Z Z (.nil _)) Z ⟨Le.refl _,⟨Nat.zero_le _,hS⟩⟩ ?_
 intro g s9 I9
 obtain ⟨k,es,ck⟩:=g
 obtain ⟨hk0,hSq⟩:=I9.2
 simp only at hk0 hSq
 dsimp only
 refine Sr<|qba Z Z Z<|Nt<|Zs<|?_
 refine qab Z (fun c10=>?_) (fun c10=>?_)
 ·
  have hk:k < nf:=by omega
  obtain ⟨b,off,x,B1,m1,d1,B2,m2,d2,B3,m3,d3,rfl,hx,hcx,hpx,hlx,hbx,hnl⟩:=Fncs.at_ (hFn.le (h1.t h2|>.t h3|>.t h4|>.t I5.1|>.t I9.1)) hk
  refine Zk<|Zt<|Zs<|Zp<|Sr<|Zqm Z Z<|qaf (qap Z Z Z Z Z Z hk) Z<|qaf (qas Z Z Z (hcx.le (Lr D)) Z) Z<|qae Z [_,_,_,_] Z Z ?_
  intro β11 s11 h11
  refine Zqa Z Z<|Wt 0 [_,_,_,_] Y9<|Nt<|Zr<|Wb Y5<|Wl 1 Y6<|W0 Y5<|Wl 0 Y6<|Zqm Z Z<|qaf (qam [(_,_),(_,_)] [_,_] Z Z Z Z Z Z) Z<|qlu KeyK.str 2 qj3 Z Z Z Z ?_
  intro ck1
  simp only [qdV]
  refine Zn<|Zb<|Zt<|Zr<|qaG Z Z Z (w64 O O)<|Zqm Z Z<|Zn<|?_
  refine qaa ⟨(k+1,_,ck1),[_],kp,Z,⟨(I9.1.t h11),⟨by simp only;omega,qiJ (qd9 hx) hD hSq⟩⟩,Oz⟩
 rw [List.take_of_length_le (show (ents p).length≤p.globals.length+k by rw [ents,List.length_append,List.length_mapIdx,List.length_mapIdx];omega)] at hSq
 refine Zl<|Zv<|Zv<|Zd<|Zt<|Zs<|qej 2<|qej 3<|Zr<|qaf (qan 2 [_,_,_] Z Z Z Z Z) Z<|Wt 1 [_,_,_] Y9<|Nt<|Zo<|?_
 refine rR [_,_,_] _ (.agg (us:=[_,_,_]) 1 Z Z Z Z Z (.nil)) Z (h1.t h2|>.t h3|>.t h4|>.t I5.1|>.t I9.1) fun _ hS2=>?_
 exact ⟨[_],rfl,_,es,ck,rfl,rfl,hSq⟩
theorem qca(D:Nat)(L:Hl)(s:World)(d:Nat)(p:Prg)(Ag Af:Option Addr)(ng cg nf cf:Nat)(hGl:Glos s Ag ng cg p.globals)(hFn:Fncs d s Af nf cf p.funcs)(hD:((ents p).map (·.1)).Nodup):AC prog D 38 [.agg #[.slice Ag ng cg,.slice Af nf cf]] L s fun v L' s'=>L=L'∧∃ bm,v=.agg #[.slice Ag ng cg,.slice Af nf cf,.map (some bm)]∧NmOK s' bm p:=by
 refine (AC.pubO (qp3 D L s d p Ag Af ng cg nf cf hGl hFn hD)).mono ?_
 rintro v L1 s1 _ ⟨h1,M1,s2,⟨bm,es,ck,rfl,h3,h4⟩,_,h5⟩
 exact ⟨h1,bm,h3,es,⟨ck,h5 _ _ Mc⟩,h4⟩
def qit(p:Prg)(i:Int):Int:=match p.globals[i.toNat]? with
 | some g=>g.kind
 | none=>0
theorem qd6{p:Prg}{k:Nat}{x:Glo}(h:p.globals[k]?=some x):qit p (k:Int)=x.kind:=by rw [qit,Int.toNat_natCast,h]
abbrev qce(gk uk mk:Int):Prop:=((mk=1∨mk=2)∧(uk=1∨uk=2))∨(mk=4∧uk=4)∨((¬ (mk=1∨mk=2)∧mk≠4)∧((gk=1∧uk=2)∨(gk=2∧(uk=1∨uk=2))∨(gk≠1∧gk≠2∧uk=3)))
theorem qlV(D:Nat)(L:Hl)(s:World)(p:Prg)(Ag Af:Option Addr)(ng cg nf cf bm:Nat)(hGl:Glos s Ag ng cg p.globals)(u:Use)(mk mi:Int)(hm:¬ (mk=1∨mk=2)→mk≠4→∃ k:Nat,mi=(k:Int)∧k < ng):AC Tryz.prog D 82 [.agg #[.slice Ag ng cg,.slice Af nf cf,.map (some bm)],.agg #[St (u).1,.int .i64 (u).2.1,.int .i64 (u).2.2],.agg #[.int .i64 mk,.int .i64 mi]] L s fun v L' _=>v=.bool (decide (qce (qit p mi) u.2.1 mk))∧L=L':=by
 refine qai (fn:=Tryz.f82) qaq Tryz.func82 V Z Tryz.ntmps82 Z (rs:=[.tmp 6]) Z [(0,_),(1,_),(2,_)] Z<|Sr<|qau Z Z ?_
 intro β1 s1 h1
 refine qau Z Z ?_
 intro β2 s2 h2
 refine qau Z Z ?_
 intro β3 s3 h3
 refine At Z Z<|Zs<|Sr<|W0 Y5<|Wl 0 Y6<|Nt<|Zp<|Zs<|Sr<|qax Z Z Z<|At Z Z<|?_
 refine qab Z (fun c4=>?_) (fun c4=>?_)
 ·
  refine Zk<|Zt<|?_
  refine qab Z (fun c5=>?_) (fun c5=>?_)
  ·
   refine Sr<|Wb Y5<|Wl 1 Y6<|qax Z Z Z<|Zqm Z Z<|?_
   refine qak (t:=15) Z (fun c6=>?_) (fun c6=>?_)
   ·
    refine Wf Y4<|Wf Y4<|Wf Y4<|ZqT Z Z Z<|At Z Z<|Zo<|Zc<|Zu<|?_
    refine rR [_,_,_] L (.t1 Z) Z (h1.t h2|>.t h3) fun _ hS2=>?_
    refine ⟨?_,Z⟩
    simp only [qaA,qce]
    clear hm
    try rw [hgk]
    exact congrArg Value.bool (decide_eq_true O).symm
   refine Zg Z Z<|Wb Y5<|Zg Z Z<|Wl 1 Y6<|Zg Z Z<|qax Z Z Z<|ZqF Z Z Z<|At Z Z<|Zo<|Zc<|Zu ?_
   refine rR [_,_,_] L (.t1 Z) Z (h1.t h2|>.t h3) fun _ hS2=>?_
   refine ⟨?_,Z⟩
   simp only [qaA,qce]
   clear hm
   try rw [hgk]
   exact congrArg Value.bool (decide_eq_decide.2 O)
  refine Sr<|qax Z Z Z<|At Z Z<|?_
  refine qab Z (fun c7=>?_) (fun c7=>?_)
  ·
   refine Sr<|Wb Y5<|Wl 1 Y6<|qax Z Z Z<|At Z Z<|Zo<|Zc<|Zu<|?_
   refine rR [_,_,_] L (.t1 Z) Z (h1.t h2|>.t h3) fun _ hS2=>?_
   refine ⟨?_,Z⟩
   simp only [qaA,qce]
   clear hm
   try rw [hgk]
   exact congrArg Value.bool (decide_eq_decide.2 O)
  obtain ⟨k,rfl,hk⟩:=hm O O
  obtain ⟨b,off,x,Ai,ni,ci,rfl,hx,hcx,hix,hux,hnl⟩:=Glos.at_ (hGl.le (h1.t h2|>.t h3)) hk
  have hgk:=qd6 hx
  refine Zk<|Zb<|Zt<|Zs<|Sr<|W0 Y5<|W0 Y5<|Wl 2 Y6<|Wb Y5<|Wl 0 Y6<|qaf (qap Z Z Z Z Z Z hk) Z<|W0 Y5<|qaf (qaj Z Z Z (hcx.le (Lr D)) Z) Z<|Nt<|Zp<|Sr<|qax Z Z Z<|At Z Z<|?_
  refine qab Z (fun c8=>?_) (fun c8=>?_)
  ·
   refine Sr<|Wb Y5<|Wl 1 Y6<|qax Z Z Z<|At Z Z<|Zo<|Zc<|Zu<|?_
   refine rR [_,_,_] L (.t1 Z) Z (h1.t h2|>.t h3) fun _ hS2=>?_
   refine ⟨?_,Z⟩
   simp only [qaA,qce]
   clear hm
   try rw [hgk]
   exact congrArg Value.bool (decide_eq_decide.2 O)
  refine Sr<|qax Z Z Z<|At Z Z<|?_
  refine qab Z (fun c9=>?_) (fun c9=>?_)
  ·
   refine Sr<|Wb Y5<|Wl 1 Y6<|qax Z Z Z<|Zqm Z Z<|?_
   refine qak (t:=43) Z (fun c10=>?_) (fun c10=>?_)
   ·
    refine Wf Y4<|Wf Y4<|Wf Y4<|ZqT Z Z Z<|At Z Z<|Zo<|Zc<|Zu<|?_
    refine rR [_,_,_] L (.t1 Z) Z (h1.t h2|>.t h3) fun _ hS2=>?_
    refine ⟨?_,Z⟩
    simp only [qaA,qce]
    clear hm
    try rw [hgk]
    exact congrArg Value.bool (decide_eq_true O).symm
   refine Zg Z Z<|Wb Y5<|Zg Z Z<|Wl 1 Y6<|Zg Z Z<|qax Z Z Z<|ZqF Z Z Z<|At Z Z<|Zo<|Zc<|Zu ?_
   refine rR [_,_,_] L (.t1 Z) Z (h1.t h2|>.t h3) fun _ hS2=>?_
   refine ⟨?_,Z⟩
   simp only [qaA,qce]
   clear hm
   try rw [hgk]
   exact congrArg Value.bool (decide_eq_decide.2 O)
  refine Zk<|Zb<|Zt<|Sr<|Wb Y5<|Wl 1 Y6<|qax Z Z Z<|At Z Z<|Zo<|?_
  refine rR [_,_,_] L (.t1 Z) Z (h1.t h2|>.t h3) fun _ hS2=>?_
  refine ⟨?_,Z⟩
  simp only [qaA,qce]
  clear hm
  try rw [hgk]
  exact congrArg Value.bool (decide_eq_decide.2 O)
 refine Zr<|qax Z Z Z<|At Z Z<|?_
 refine qab Z (fun c11=>?_) (fun c11=>?_)
 ·
  refine Sr<|Wb Y5<|Wl 1 Y6<|qax Z Z Z<|Zqm Z Z<|?_
  refine qak (t:=15) Z (fun c12=>?_) (fun c12=>?_)
  ·
   refine Wf Y4<|Wf Y4<|Wf Y4<|ZqT Z Z Z<|At Z Z<|Zo<|Zc<|Zu<|?_
   refine rR [_,_,_] L (.t1 Z) Z (h1.t h2|>.t h3) fun _ hS2=>?_
   refine ⟨?_,Z⟩
   simp only [qaA,qce]
   clear hm
   try rw [hgk]
   exact congrArg Value.bool (decide_eq_true O).symm
  refine Zg Z Z<|Wb Y5<|Zg Z Z<|Wl 1 Y6<|Zg Z Z<|qax Z Z Z<|ZqF Z Z Z<|At Z Z<|Zo<|Zc<|Zu ?_
  refine rR [_,_,_] L (.t1 Z) Z (h1.t h2|>.t h3) fun _ hS2=>?_
  refine ⟨?_,Z⟩
  simp only [qaA,qce]
  clear hm
  try rw [hgk]
  exact congrArg Value.bool (decide_eq_decide.2 O)
 refine Sr<|qax Z Z Z<|At Z Z<|?_
 refine qab Z (fun c13=>?_) (fun c13=>?_)
 ·
  refine Sr<|Wb Y5<|Wl 1 Y6<|qax Z Z Z<|At Z Z<|Zo<|Zc<|Zu<|?_
  refine rR [_,_,_] L (.t1 Z) Z (h1.t h2|>.t h3) fun _ hS2=>?_
  refine ⟨?_,Z⟩
  simp only [qaA,qce]
  clear hm
  try rw [hgk]
  exact congrArg Value.bool (decide_eq_decide.2 O)
 obtain ⟨k,rfl,hk⟩:=hm O O
 obtain ⟨b,off,x,Ai,ni,ci,rfl,hx,hcx,hix,hux,hnl⟩:=Glos.at_ (hGl.le (h1.t h2|>.t h3)) hk
 have hgk:=qd6 hx
 refine Zk<|Zb<|Zt<|Zs<|Sr<|W0 Y5<|W0 Y5<|Wl 2 Y6<|Wb Y5<|Wl 0 Y6<|qaf (qap Z Z Z Z Z Z hk) Z<|W0 Y5<|qaf (qaj Z Z Z (hcx.le (Lr D)) Z) Z<|Nt<|Zp<|Sr<|qax Z Z Z<|At Z Z<|?_
 refine qab Z (fun c14=>?_) (fun c14=>?_)
 ·
  refine Sr<|Wb Y5<|Wl 1 Y6<|qax Z Z Z<|At Z Z<|Zo<|Zc<|Zu<|?_
  refine rR [_,_,_] L (.t1 Z) Z (h1.t h2|>.t h3) fun _ hS2=>?_
  refine ⟨?_,Z⟩
  simp only [qaA,qce]
  clear hm
  try rw [hgk]
  exact congrArg Value.bool (decide_eq_decide.2 O)
 refine Sr<|qax Z Z Z<|At Z Z<|?_
 refine qab Z (fun c15=>?_) (fun c15=>?_)
 ·
  refine Sr<|Wb Y5<|Wl 1 Y6<|qax Z Z Z<|Zqm Z Z<|?_
  refine qak (t:=43) Z (fun c16=>?_) (fun c16=>?_)
  ·
   refine Wf Y4<|Wf Y4<|Wf Y4<|ZqT Z Z Z<|At Z Z<|Zo<|Zc<|Zu<|?_
   refine rR [_,_,_] L (.t1 Z) Z (h1.t h2|>.t h3) fun _ hS2=>?_
   refine ⟨?_,Z⟩
   simp only [qaA,qce]
   clear hm
   try rw [hgk]
   exact congrArg Value.bool (decide_eq_true O).symm
  refine Zg Z Z<|Wb Y5<|Zg Z Z<|Wl 1 Y6<|Zg Z Z<|qax Z Z Z<|ZqF Z Z Z<|At Z Z<|Zo<|Zc<|Zu ?_
  refine rR [_,_,_] L (.t1 Z) Z (h1.t h2|>.t h3) fun _ hS2=>?_
  refine ⟨?_,Z⟩
  simp only [qaA,qce]
  clear hm
  try rw [hgk]
  exact congrArg Value.bool (decide_eq_decide.2 O)
 refine Zk<|Zb<|Zt<|Sr<|Wb Y5<|Wl 1 Y6<|qax Z Z Z<|At Z Z<|Zo<|?_
 refine rR [_,_,_] L (.t1 Z) Z (h1.t h2|>.t h3) fun _ hS2=>?_
 refine ⟨?_,Z⟩
 simp only [qaA,qce]
 clear hm
 try rw [hgk]
 exact congrArg Value.bool (decide_eq_decide.2 O)
theorem qch{p:Prg}{x:Fnc}{nm:Str}(h:(qaz p x nm).2=true):((qaz p x nm).1.1=1∨(qaz p x nm).1.1=2)∨((qaz p x nm).1.1=3∧∃ k:Nat,(qaz p x nm).1.2=(k:Int)∧k < p.globals.length)∨((qaz p x nm).1.1=4∧∃ k:Nat,(qaz p x nm).1.2=(k:Int)∧k < p.funcs.length):=by
  unfold qaz at h ⊢
  split
  · exact .inl (.inl rfl)
  split
  · exact .inl (.inr rfl)
  rename_i h1 h2
  rw [if_neg h1,if_neg h2] at h
  cases hf:(ents p).find? fun e=>decide (e.1=nm) with
  | none=>rw [hf] at h;cases h
  | some e=>
    have hm:=List.mem_of_find?_eq_some hf
    rw [ents,List.mem_append] at hm
    rcases hm with hm | hm
    · obtain ⟨i,hi⟩:=List.getElem?_of_mem hm
      rw [List.getElem?_mapIdx] at hi
      cases hg:p.globals[i]? with
      | none=>rw [hg] at hi;cases hi
      | some g=>rw [hg] at hi;simp at hi;subst hi;exact .inr (.inl ⟨rfl,i,rfl,(List.getElem?_eq_some_iff.1 hg).1⟩)
    · obtain ⟨i,hi⟩:=List.getElem?_of_mem hm
      rw [List.getElem?_mapIdx] at hi
      cases hg:p.funcs[i]? with
      | none=>rw [hg] at hi;cases hi
      | some g=>rw [hg] at hi;simp at hi;subst hi;exact .inr (.inr ⟨rfl,i,rfl,(List.getElem?_eq_some_iff.1 hg).1⟩)
def qur(p:Prg)(i:Int):Nat:=match p.funcs[i.toNat]? with
 | some x=>x.params.length
 | none=>0
theorem qfo{p:Prg}{k:Nat}{x:Fnc}{i:Int}(hi:i=(k:Int))(h:p.funcs[k]?=some x):qur p i=x.params.length:=by rw [hi,qur,Int.toNat_natCast,h]
def qeD(p:Prg)(x:Fnc)(u:Use):Int:=if u.2.1=0 then 0 else if (qaz p x u.1).2=false then 12 else if ¬ qce (qit p (qaz p x u.1).1.2) u.2.1 (qaz p x u.1).1.1 then 13 else if u.2.1=4∧u.2.2≠(qur p (qaz p x u.1).1.2:Int) then 9 else 0
def ndC(p:Prg)(x:Fnc):Nd→Int
 | .st y lp=>if (y.kind=9∨y.kind=10)∧lp=0 then 24 else qeD p x (qdD y)
 | .ex y _=>qeD p x (qdC y)
theorem quf(D:Nat)(L:Hl)(s:World)(d:Nat)(p:Prg)(Ag Af:Option Addr)(ng cg nf cf:Nat)(hGl:Glos s Ag ng cg p.globals)(hFn:Fncs d s Af nf cf p.funcs)(bm:Nat)(hM:NmOK s bm p)(x:Fnc)(A1 A2 A3:Option Addr)(n1 q1 n2 q2 n3 q3:Nat)(hs1:Strs s A1 n1 q1 x.params)(hs2:Strs s A2 n2 q2 x.locals)(y:Stm)(b o:Nat)(C1 C2 C3:Option Addr)(r1 e1 r2 e2 r3 e3:Nat)(hy:CellsAt s b o [.int .i64 y.kind,St y.name,.slice C1 r1 e1,.slice C2 r2 e2,.slice C3 r3 e3])(hr:r1=y.exprs.length)(lp:Nat):AC prog D 46 [.agg #[.slice Ag ng cg,.slice Af nf cf,.map (some bm)],.agg #[St x.name,.slice A1 n1 q1,.slice A2 n2 q2,.slice A3 n3 q3],.agg #[.pointer (some ⟨b,o,none⟩),.pointer none,.int .i64 (lp:Int)]] L s fun v L' _=>v=.int .i64 (ndC p x (.st y lp))∧L=L':=by
 have hn1:=hGl.1
 have hn2:=hFn.1
 refine qai (fn:=f46) qaq func46 V Z ntmps46 Z (rs:=[.tmp 6]) Z [(0,_),(1,_),(2,_)] Z<|Sr<|qau Z Z ?_
 intro β1 s1 h1
 refine qau Z Z ?_
 intro β2 s2 h2
 refine qau Z Z ?_
 intro β3 s3 h3
 refine At Z Z<|Zs<|Sr<|W0 Y5<|Wl 0 Y6<|At Z Z<|?_
 refine qaR 33 ((y.kind=9∨y.kind=10)∧lp=0) ?_ ?_
 ·
  refine Zr<|Zqm Z Z<|qaf (qaw (v':=.bool true) (qjG underlying108 Z) Z) Z<|Zqm Z Z<|Zg Z Z<|Zqm Z Z<|Zg Z Z<|qcD Z Z<|Zg Z Z<|W0 Y5<|Zg Z Z<|qaf (qaj Z Z Z (hy.le (h1.t h2|>.t h3)) Z) Z<|Zg Z Z<|qax Z Z Z<|Zg Z Z<|Zqm Z Z<|?_
  refine qak (t:=21) Z (fun c5=>?_) (fun c5=>?_)
  ·
   refine Wf Y4<|Wf Y4<|Wf Y4<|Wf Y4<|Wf Y4<|Zg Z Z<|ZqT Z Z Z<|ZqT Z Z Z<|Zqm Z Z<|Zg Z Z<|Wb Y5<|Zg Z Z<|Wl 0 Y6<|Zg Z Z<|qax Z Z Z<|ZqT Z Z Z<|Zn<|?_
   refine qaa (MidB.mk (Lr D) Sb Z (decide_eq_decide.2 O))
  refine Zg Z Z<|Zqm Z Z<|Zg Z Z<|qcD Z Z<|Zg Z Z<|W0 Y5<|Zg Z Z<|qaf (qaj Z Z Z (hy.le (h1.t h2|>.t h3)) Z) Z<|Zg Z Z<|qax Z Z Z<|Zg Z Z<|ZqF Z Z Z<|ZqT Z Z Z<|Zqm Z Z<|?_
  refine qak (t:=29) Z (fun c6=>?_) (fun c6=>?_)
  ·
   refine Zg Z Z<|Wb Y5<|Zg Z Z<|Wl 0 Y6<|Zg Z Z<|qax Z Z Z<|ZqT Z Z Z<|Zn<|?_
   refine qaa (MidB.mk (Lr D) Sb Z (decide_eq_decide.2 O))
  refine Wf Y4<|Wf Y4<|Wf Y4<|ZqF Z Z Z<|Zn<|?_
  refine qaa (MidB.mk (Lr D) Sb Z ((decide_eq_false O).symm))
 intro s4 h4
 refine qab Z (fun c7=>?_) (fun c7=>?_)
 ·
  have g33:=c7
  refine Sr<|At Z Z<|Zo<|Zu<|?_
  refine rR [_,_,_] L (.t1 Z) Z (h1.t h2|>.t h3|>.t h4) fun _ hS2=>?_
  exact ⟨by rw [ndC,if_pos g33];rfl,rfl⟩
 have g33:=c7
 refine Zk<|Zt<|Sr<|qaf (qan 0 [_,_,_] Z Z Z Z Z) Z<|Jc Z Z Z (qu1 D _ _ y b o C1 C2 C3 r1 e1 r2 e2 r3 e3 (hy.le (h1.t h2|>.t h3|>.t h4)) hr _) ?_
 rintro _ _ s8 h8 ⟨rfl,rfl⟩
 refine qae Z [_,_,_] Z Z ?_
 intro β9 s9 h9
 refine Wt 0 [_,_,_] Y9<|Nt<|Zs<|Sr<|Wb Y5<|Wl 0 Y6<|qax Z Z Z<|Nt<|?_
 refine qab Z (fun c10=>?_) (fun c10=>?_)
 ·
  have hE:qeD p x (qdD y)=0:=if_pos c10
  refine Sr<|At Z Z<|Zo<|Zu<|?_
  refine rR [_,_,_,_] L (.t1 Z) Z (h1.t h2|>.t h3|>.t h4|>.t h8|>.t h9) fun _ hS2=>?_
  exact ⟨by rw [ndC,if_neg g33,hE];rfl,rfl⟩
 have g38:¬ (qdD y).2.1=0:=c10
 refine Zk<|Zt<|Sr<|qaf (qan 3 [_,_,_] Z Z Z Z Z) Z<|qaf (qan 2 [_,_,_,_] Z Z Z Z Z) Z<|W0 Y5<|Wl 0 Y6<|Jc Z Z Z (qeB D _ _ p Ag Af ng cg nf cf bm (hM.le (h1.t h2|>.t h3|>.t h4|>.t h8|>.t h9)) x A1 A2 A3 n1 q1 n2 q2 n3 q3 (hs1.le (h1.t h2|>.t h3|>.t h4|>.t h8|>.t h9)) (hs2.le (h1.t h2|>.t h3|>.t h4|>.t h8|>.t h9)) _) ?_
 rintro _ _ s11 h11 ⟨rfl,rfl⟩
 refine Zqm Z Z<|Zqx Z Z Z<|Zqx Z Z Z<|qae Z [_,_] Z Z ?_
 intro β12 s12 h12
 refine Wt 0 [_,_] Y9<|At Z Z<|Zs<|Zp<|Sr<|Zqm Z Z<|qcr Z Z<|At Z Z<|?_
 refine qdS Z (fun c13=>?_) (fun c13=>?_)
 ·
  have hE:qeD p x (qdD y)=12:=(if_neg g38).trans (if_pos c13)
  refine Sr<|At Z Z<|Zo<|Zc<|Zu<|?_
  refine rR [_,_,_,_,_] L (.t1 Z) Z (h1.t h2|>.t h3|>.t h4|>.t h8|>.t h9|>.t h11|>.t h12) fun _ hS2=>?_
  exact ⟨by rw [ndC,if_neg g33,hE];rfl,rfl⟩
 have g47:¬ (qaz p x (qdD y).1).2=false:=by rw [c13];decide
 have hmk:=qch c13
 refine Sr<|qaf (qan 4 [_,_,_] Z Z Z Z Z) Z<|qaf (qan 1 [_,_,_] Z Z Z Z Z) Z<|qaf (qan 0 [_,_] Z Z Z Z Z) Z<|Jc Z Z Z (qlV D _ _ p Ag Af ng cg nf cf bm (hGl.le (h1.t h2|>.t h3|>.t h4|>.t h8|>.t h9|>.t h11|>.t h12)) (qdD y) (qaz p x (qdD y).1).1.1 (qaz p x (qdD y).1).1.2 (fun h1 h2=>hmk.elim (fun h=>absurd h h1) (fun h=>h.elim (fun h=>by obtain ⟨k,e1,e2⟩:=h.2;exact ⟨k,e1,by omega⟩) (fun h=>absurd h.1 h2)))) ?_
 rintro _ _ s14 h14 ⟨rfl,rfl⟩
 refine qcr Z Z<|At Z Z<|?_
 refine qaK Z (fun c15=>?_) (fun c15=>?_)
 ·
  have hE:qeD p x (qdD y)=13:=(if_neg g38).trans ((if_neg g47).trans (if_pos c15))
  refine Sr<|At Z Z<|Zo<|Zc<|Zu<|?_
  refine rR [_,_,_,_,_] L (.t1 Z) Z (h1.t h2|>.t h3|>.t h4|>.t h8|>.t h9|>.t h11|>.t h12|>.t h14) fun _ hS2=>?_
  exact ⟨by rw [ndC,if_neg g33,hE];rfl,rfl⟩
 have g50:¬ ¬ qce (qit p (qaz p x (qdD y).1).1.2) (qdD y).2.1 (qaz p x (qdD y).1).1.1:=fun h=>h c15
 have g51:=c15
 refine Zs ?_
 rcases Classical.em ((qdD y).2.1=4) with g4 | g4
 ·
  obtain ⟨hk4,j,hj,hjn⟩:=hmk.elim (fun h=>absurd g51 (fun k=>by omega)) (fun h=>h.elim (fun h=>absurd g51 (fun k=>by omega)) id)
  obtain ⟨b,off,z,B1,m1,d1,B2,m2,d2,B3,m3,d3,rfl,hz,hcz,hpz,hlz,hbz,hzl⟩:=Fncs.at_ (hFn.le (h1.t h2|>.t h3|>.t h4|>.t h8|>.t h9|>.t h11|>.t h12|>.t h14)) (show j < nf by omega)
  have hm9:=hpz.1
  have hpar:=qfo hj hz
  refine qay qag 18 Z _ (fun _ h=>h) ?_
  intro s16 h16
  refine za 0 Z (We Y4) Z<|za 1 Z (Wd 1 Y5) Z<|za 2 Z (qaw (v':=.bool true) (qgh Z Z) (bT g4)) Z<|za 3 Z (qar Z) Z<|zg 4 Z ⟨_,Z,Z⟩ (We Y4) Z<|zg 5 Z ⟨_,Z,Z⟩ (Wd 1 Y5) Z<|zg 6 Z ⟨_,Z,Z⟩ (qbu Z Z Z Z) Z<|zg 7 Z ⟨_,Z,Z⟩ (We Y4) Z<|zg 8 Z ⟨_,Z,Z⟩ (Wd 4 Y5) Z<|zg 9 Z ⟨_,Z,Z⟩ (We Y4) Z<|zg 10 Z ⟨_,Z,Z⟩ (Wd 0 Y5) Z<|zg 11 Z ⟨_,Z,Z⟩ (qap (j:=j) Z (show lk _ _=some (.int .i64 (j:Int)) from by rw [← hj];rfl) Z Z Z Z (show j < nf by omega)) Z ?_
  refine zg 12 Z ⟨_,Z,Z⟩ (qbf Z Z Z Z) Z<|zg 13 Z ⟨_,Z,Z⟩ (qaC 1 Z Z Z (hcz.le h16) Z) Z<|zg 14 Z ⟨_,Z,Z⟩ (qbN Z Z Z) Z<|zg 15 Z ⟨_,Z,Z⟩ (qcB Z Z) Z<|za 16 Z (qcs Z Z) Z<|za 17 Z (qaY Z) Z<|qad V<|Zt ?_
  refine qaK Z (fun c17=>?_) (fun c17=>?_)
  ·
   have hE:qeD p x (qdD y)=9:=(if_neg g38).trans ((if_neg g47).trans ((if_neg g50).trans (if_pos ⟨g4,by rw [hpar];have:=c17;omega⟩)))
   refine Sr<|At Z Z<|Zo<|Zc<|Zu<|?_
   refine rR [_,_,_,_,_] L (.t1 Z) Z (h1.t h2|>.t h3|>.t h4|>.t h8|>.t h9|>.t h11|>.t h12|>.t h14|>.t h16) fun _ hS2=>?_
   exact ⟨by rw [ndC,if_neg g33,hE];rfl,rfl⟩
  have hE:qeD p x (qdD y)=0:=(if_neg g38).trans ((if_neg g47).trans ((if_neg g50).trans (if_neg (fun h=>h.2 (by rw [hpar];have:=c17;omega)))))
  refine Zk<|Zb<|Zt<|Sr<|At Z Z<|Zo<|?_
  refine rR [_,_,_,_,_] L (.t1 Z) Z (h1.t h2|>.t h3|>.t h4|>.t h8|>.t h9|>.t h11|>.t h12|>.t h14|>.t h16) fun _ hS2=>?_
  exact ⟨by rw [ndC,if_neg g33,hE];rfl,rfl⟩
 refine qay qag 18 Z _ (fun _ h=>h) ?_
 intro s18 h18
 refine za 0 Z (We Y4) Z<|za 1 Z (Wd 1 Y5) Z<|za 2 Z (qaw (v':=.bool false) (qgh Z Z) (bZ g4)) Z<|za 3 Z (qar Z) Z<|zn 4 Z Z Z Z Z<|zn 5 Z Z Z Z Z<|zn 6 Z Z Z Z Z<|zn 7 Z Z Z Z Z<|zn 8 Z Z Z Z Z<|zn 9 Z Z Z Z Z<|zn 10 Z Z Z Z Z<|zn 11 Z Z Z Z Z<|zn 12 Z Z Z Z Z<|zn 13 Z Z Z Z Z<|zn 14 Z Z Z Z Z<|zn 15 Z Z Z Z Z<|za 16 Z (qeK Z Z) Z<|za 17 Z (qaY Z) Z<|qad V<|Zt<|Zz Z<|?_
 have hE:qeD p x (qdD y)=0:=(if_neg g38).trans ((if_neg g47).trans ((if_neg g50).trans (if_neg (fun h=>g4 h.1))))
 refine Zk<|Zb<|Zt<|Sr<|At Z Z<|Zo<|?_
 refine rR [_,_,_,_,_] L (.t1 Z) Z (h1.t h2|>.t h3|>.t h4|>.t h8|>.t h9|>.t h11|>.t h12|>.t h14|>.t h18) fun _ hS2=>?_
 exact ⟨by rw [ndC,if_neg g33,hE];rfl,rfl⟩
theorem qrX(D:Nat)(L:Hl)(s:World)(d:Nat)(p:Prg)(Ag Af:Option Addr)(ng cg nf cf:Nat)(hGl:Glos s Ag ng cg p.globals)(hFn:Fncs d s Af nf cf p.funcs)(bm:Nat)(hM:NmOK s bm p)(x:Fnc)(A1 A2 A3:Option Addr)(n1 q1 n2 q2 n3 q3:Nat)(hs1:Strs s A1 n1 q1 x.params)(hs2:Strs s A2 n2 q2 x.locals)(y:Ex)(b o:Nat)(A:Option Addr)(n c:Nat)(hy:CellsAt s b o [.int .i64 y.kind,.int .i64 y.op,.int .u32 y.num,St y.name,.slice A n c])(hr:n=y.args.length)(lp:Nat):AC prog D 46 [.agg #[.slice Ag ng cg,.slice Af nf cf,.map (some bm)],.agg #[St x.name,.slice A1 n1 q1,.slice A2 n2 q2,.slice A3 n3 q3],.agg #[.pointer none,.pointer (some ⟨b,o,none⟩),.int .i64 (lp:Int)]] L s fun v L' _=>v=.int .i64 (ndC p x (.ex y lp))∧L=L':=by
 have hn1:=hGl.1
 have hn2:=hFn.1
 refine qai (fn:=f46) qaq func46 V Z ntmps46 Z (rs:=[.tmp 6]) Z [(0,_),(1,_),(2,_)] Z<|Sr<|qau Z Z ?_
 intro β1 s1 h1
 refine qau Z Z ?_
 intro β2 s2 h2
 refine qau Z Z ?_
 intro β3 s3 h3
 refine At Z Z<|Zs<|Sr<|W0 Y5<|Wl 0 Y6<|At Z Z<|Sr<|Zqm Z Z<|qaf (qaw (v':=.bool false) (qjG underlying108 Z) Z) Z<|Zqm Z Z<|Wf Y4<|Wf Y4<|Wf Y4<|Wf Y4<|Wf Y4<|Wf Y4<|Zh Z Z Z<|Zh Z Z Z<|Zh Z Z Z<|Zh Z Z Z<|Zh Z Z Z<|Wf Y4<|ZqF Z Z Z<|Zqm Z Z<|Wf Y4<|Wf Y4<|Wf Y4<|ZqF Z Z Z<|Nt<|Zz Z<|Zk<|Zt<|Sr<|qaf (qan 0 [_,_,_] Z Z Z Z Z) Z ?_
 refine Jc Z Z Z (qvO D _ _ y b o A n c (hy.le (h1.t h2|>.t h3)) hr _) ?_
 rintro _ _ s4 h4 ⟨rfl,rfl⟩
 refine qae Z [_,_,_] Z Z ?_
 intro β5 s5 h5
 refine Wt 0 [_,_,_] Y9<|Nt<|Zs<|Sr<|Wb Y5<|Wl 0 Y6<|qax Z Z Z<|Nt<|?_
 refine qab Z (fun c6=>?_) (fun c6=>?_)
 ·
  have hE:qeD p x (qdC y)=0:=if_pos c6
  refine Sr<|At Z Z<|Zo<|Zu<|?_
  refine rR [_,_,_,_] L (.t1 Z) Z (h1.t h2|>.t h3|>.t h4|>.t h5) fun _ hS2=>?_
  exact ⟨by rw [ndC,hE];rfl,rfl⟩
 have g38:¬ (qdC y).2.1=0:=c6
 refine Zk<|Zt<|Sr<|qaf (qan 3 [_,_,_] Z Z Z Z Z) Z<|qaf (qan 2 [_,_,_,_] Z Z Z Z Z) Z<|W0 Y5<|Wl 0 Y6<|Jc Z Z Z (qeB D _ _ p Ag Af ng cg nf cf bm (hM.le (h1.t h2|>.t h3|>.t h4|>.t h5)) x A1 A2 A3 n1 q1 n2 q2 n3 q3 (hs1.le (h1.t h2|>.t h3|>.t h4|>.t h5)) (hs2.le (h1.t h2|>.t h3|>.t h4|>.t h5)) _) ?_
 rintro _ _ s7 h7 ⟨rfl,rfl⟩
 refine Zqm Z Z<|Zqx Z Z Z<|Zqx Z Z Z<|qae Z [_,_] Z Z ?_
 intro β8 s8 h8
 refine Wt 0 [_,_] Y9<|At Z Z<|Zs<|Zp<|Sr<|Zqm Z Z<|qcr Z Z<|At Z Z<|?_
 refine qdS Z (fun c9=>?_) (fun c9=>?_)
 ·
  have hE:qeD p x (qdC y)=12:=(if_neg g38).trans (if_pos c9)
  refine Sr<|At Z Z<|Zo<|Zc<|Zu<|?_
  refine rR [_,_,_,_,_] L (.t1 Z) Z (h1.t h2|>.t h3|>.t h4|>.t h5|>.t h7|>.t h8) fun _ hS2=>?_
  exact ⟨by rw [ndC,hE];rfl,rfl⟩
 have g47:¬ (qaz p x (qdC y).1).2=false:=by rw [c9];decide
 have hmk:=qch c9
 refine Sr<|qaf (qan 4 [_,_,_] Z Z Z Z Z) Z<|qaf (qan 1 [_,_,_] Z Z Z Z Z) Z<|qaf (qan 0 [_,_] Z Z Z Z Z) Z<|Jc Z Z Z (qlV D _ _ p Ag Af ng cg nf cf bm (hGl.le (h1.t h2|>.t h3|>.t h4|>.t h5|>.t h7|>.t h8)) (qdC y) (qaz p x (qdC y).1).1.1 (qaz p x (qdC y).1).1.2 (fun h1 h2=>hmk.elim (fun h=>absurd h h1) (fun h=>h.elim (fun h=>by obtain ⟨k,e1,e2⟩:=h.2;exact ⟨k,e1,by omega⟩) (fun h=>absurd h.1 h2)))) ?_
 rintro _ _ s10 h10 ⟨rfl,rfl⟩
 refine qcr Z Z<|At Z Z<|?_
 refine qaK Z (fun c11=>?_) (fun c11=>?_)
 ·
  have hE:qeD p x (qdC y)=13:=(if_neg g38).trans ((if_neg g47).trans (if_pos c11))
  refine Sr<|At Z Z<|Zo<|Zc<|Zu<|?_
  refine rR [_,_,_,_,_] L (.t1 Z) Z (h1.t h2|>.t h3|>.t h4|>.t h5|>.t h7|>.t h8|>.t h10) fun _ hS2=>?_
  exact ⟨by rw [ndC,hE];rfl,rfl⟩
 have g50:¬ ¬ qce (qit p (qaz p x (qdC y).1).1.2) (qdC y).2.1 (qaz p x (qdC y).1).1.1:=fun h=>h c11
 have g51:=c11
 refine Zs ?_
 rcases Classical.em ((qdC y).2.1=4) with g4 | g4
 ·
  obtain ⟨hk4,j,hj,hjn⟩:=hmk.elim (fun h=>absurd g51 (fun k=>by omega)) (fun h=>h.elim (fun h=>absurd g51 (fun k=>by omega)) id)
  obtain ⟨b,off,z,B1,m1,d1,B2,m2,d2,B3,m3,d3,rfl,hz,hcz,hpz,hlz,hbz,hzl⟩:=Fncs.at_ (hFn.le (h1.t h2|>.t h3|>.t h4|>.t h5|>.t h7|>.t h8|>.t h10)) (show j < nf by omega)
  have hm9:=hpz.1
  have hpar:=qfo hj hz
  refine qay qag 18 Z _ (fun _ h=>h) ?_
  intro s12 h12
  refine za 0 Z (We Y4) Z<|za 1 Z (Wd 1 Y5) Z<|za 2 Z (qaw (v':=.bool true) (qgh Z Z) (bT g4)) Z<|za 3 Z (qar Z) Z<|zg 4 Z ⟨_,Z,Z⟩ (We Y4) Z<|zg 5 Z ⟨_,Z,Z⟩ (Wd 1 Y5) Z<|zg 6 Z ⟨_,Z,Z⟩ (qbu Z Z Z Z) Z<|zg 7 Z ⟨_,Z,Z⟩ (We Y4) Z<|zg 8 Z ⟨_,Z,Z⟩ (Wd 4 Y5) Z<|zg 9 Z ⟨_,Z,Z⟩ (We Y4) Z<|zg 10 Z ⟨_,Z,Z⟩ (Wd 0 Y5) Z<|zg 11 Z ⟨_,Z,Z⟩ (qap (j:=j) Z (show lk _ _=some (.int .i64 (j:Int)) from by rw [← hj];rfl) Z Z Z Z (show j < nf by omega)) Z ?_
  refine zg 12 Z ⟨_,Z,Z⟩ (qbf Z Z Z Z) Z<|zg 13 Z ⟨_,Z,Z⟩ (qaC 1 Z Z Z (hcz.le h12) Z) Z<|zg 14 Z ⟨_,Z,Z⟩ (qbN Z Z Z) Z<|zg 15 Z ⟨_,Z,Z⟩ (qcB Z Z) Z<|za 16 Z (qcs Z Z) Z<|za 17 Z (qaY Z) Z<|qad V<|Zt ?_
  refine qaK Z (fun c13=>?_) (fun c13=>?_)
  ·
   have hE:qeD p x (qdC y)=9:=(if_neg g38).trans ((if_neg g47).trans ((if_neg g50).trans (if_pos ⟨g4,by rw [hpar];have:=c13;omega⟩)))
   refine Sr<|At Z Z<|Zo<|Zc<|Zu<|?_
   refine rR [_,_,_,_,_] L (.t1 Z) Z (h1.t h2|>.t h3|>.t h4|>.t h5|>.t h7|>.t h8|>.t h10|>.t h12) fun _ hS2=>?_
   exact ⟨by rw [ndC,hE];rfl,rfl⟩
  have hE:qeD p x (qdC y)=0:=(if_neg g38).trans ((if_neg g47).trans ((if_neg g50).trans (if_neg (fun h=>h.2 (by rw [hpar];have:=c13;omega)))))
  refine Zk<|Zb<|Zt<|Sr<|At Z Z<|Zo<|?_
  refine rR [_,_,_,_,_] L (.t1 Z) Z (h1.t h2|>.t h3|>.t h4|>.t h5|>.t h7|>.t h8|>.t h10|>.t h12) fun _ hS2=>?_
  exact ⟨by rw [ndC,hE];rfl,rfl⟩
 refine qay qag 18 Z _ (fun _ h=>h) ?_
 intro s14 h14
 refine za 0 Z (We Y4) Z<|za 1 Z (Wd 1 Y5) Z<|za 2 Z (qaw (v':=.bool false) (qgh Z Z) (bZ g4)) Z<|za 3 Z (qar Z) Z<|zn 4 Z Z Z Z Z<|zn 5 Z Z Z Z Z<|zn 6 Z Z Z Z Z<|zn 7 Z Z Z Z Z<|zn 8 Z Z Z Z Z<|zn 9 Z Z Z Z Z<|zn 10 Z Z Z Z Z<|zn 11 Z Z Z Z Z<|zn 12 Z Z Z Z Z<|zn 13 Z Z Z Z Z<|zn 14 Z Z Z Z Z<|zn 15 Z Z Z Z Z<|za 16 Z (qeK Z Z) Z<|za 17 Z (qaY Z) Z<|qad V<|Zt<|Zz Z<|?_
 have hE:qeD p x (qdC y)=0:=(if_neg g38).trans ((if_neg g47).trans ((if_neg g50).trans (if_neg (fun h=>g4 h.1))))
 refine Zk<|Zb<|Zt<|Sr<|At Z Z<|Zo<|?_
 refine rR [_,_,_,_,_] L (.t1 Z) Z (h1.t h2|>.t h3|>.t h4|>.t h5|>.t h7|>.t h8|>.t h10|>.t h14) fun _ hS2=>?_
 exact ⟨by rw [ndC,hE];rfl,rfl⟩
end Go.Proofs.YtpdnijphccdiiaaGreatDoor
namespace Go.FL
open Go Go.RowKit
def fro(ro:Option Nat):Fence:={ Fence.wide with round:=ro }
theorem qgj{P:Program}{f:FuncId}{args:Array Value}{w:World}{R:Ending→World→Prop}(ro:Option Nat)(n:Nat)(h:Calls P f args w R):CallsIn (fro ro) n P f args w R:=by
 cases ro with
 | none=>exact callsIn_wide.2 h
 | some l=>exact CallsIn.inRound l (callsIn_wide.2 h)
theorem qe2(ro:Option Nat)(n:Nat):(fro ro).depth.isSome=true→1≤n:=fun h=>by cases h
theorem qfy(ro:Option Nat)(f:FuncId):(fro ro).fn f:=trivial
structure FrD(ds:List Deferred)(n:Nat)(a:Act)(fr:Fr):Prop where
 rel:FrRel n { a with defers:=[] } fr
 defers:a.defers=ds
theorem FrD.ev{ds:List Deferred}{n:Nat}{a:Act}{fr:Fr}(h:FrD ds n a fr){x:Operand}{v:Value}(hx:lk fr x=some v):a.eval x=v:=h.rel.ev hx
theorem FrD.put{ds:List Deferred}{n:Nat}{a:Act}{fr:Fr}(h:FrD ds n a fr){d:Nat}(hd:Nat.blt d n=true)(v:Value):FrD ds n (a.put (some d) v) ((d,v)::fr):=
 ⟨h.rel.put hd v,h.defers⟩
theorem FrD.sub{ds:List Deferred}{n:Nat}{a:Act}{fr l:Fr}(h:FrD ds n a fr)(hs:Keeps fr l):FrD ds n a l:=⟨h.rel.sub hs,h.defers⟩
abbrev qdE:=Exit→List Deferred→Fr→Hl→World→Prop
def qvo(D n:Nat)(Q:qdE):Exit→Act→World→Prop:=fun e a w=>∃ ds fr L s,FrD ds n a fr∧OKL D L s∧w=fill L s∧Q e ds fr L s
def RC(P:Program)(TT:qaV)(D n:Nat)(ro:Option Nat)(Q:qdE)(c:Code)(ds:List Deferred)(fr:Fr)(L:Hl)(s:World):Prop:=
 TabOK P TT→∀ a,FrD ds n a fr→OKL D L s→c.wpIn (fro ro) 0 P (qvo D n Q) a (fill L s)
def RO(P:Program)(TT:qaV)(D n:Nat)(ro:Option Nat)(ops:Array Oper)(Q:qdE)(l:List Oper)(ds:List Deferred)(fr:Fr)(L:Hl)(s:World):Prop:=
 TabOK P TT→∀ a,FrD ds n a fr→OKL D L s→wpListIn (fro ro) 0 P ops (qvo D n Q) l a (fill L s)
section control
variable{P:Program}{TT:qaV}{D n:Nat}{ro:Option Nat}{Q:qdE}{ds:List Deferred}{fr:Fr}{L:Hl}{s:World}
def qi8(J:List Deferred→Fr→Hl→World→Prop)(Q:qdE):qdE
 | .normal,ds,fr,L,s=>J ds fr L s
 | e,ds,fr,L,s=>Q e ds fr L s
def qgn(id:Nat)(Q:qdE):qdE
 | .exit i,ds,fr,L,s=>if i=id then Q .normal ds fr L s else Q (.exit i) ds fr L s
 | e,ds,fr,L,s=>Q e ds fr L s
theorem qrW(h:Q .normal ds fr L s):RC P TT D n ro Q .skip ds fr L s:=fun _ _ hr ho=>wpIn_skip ⟨ds,fr,L,s,hr,ho,rfl,h⟩
theorem qtF{id:Nat}(h:Q (.exit id) ds fr L s):RC P TT D n ro Q (.exit id) ds fr L s:=fun _ _ hr ho=>wpIn_exit ⟨ds,fr,L,s,hr,ho,rfl,h⟩
theorem qux(h:Q .ret ds fr L s):RC P TT D n ro Q .ret ds fr L s:=fun _ _ hr ho=>wpIn_ret ⟨ds,fr,L,s,hr,ho,rfl,h⟩
theorem quw{x y:Code}(h:RC P TT D n ro (qi8 (RC P TT D n ro Q y) Q) x ds fr L s):RC P TT D n ro Q (.seq x y) ds fr L s:=fun ht a hr ho=>
 wpIn_seq (wpIn_mono (h ht a hr ho) fun e a w ⟨ds',fr',L',s',h1,h2,h3,h4⟩=>by
  cases e with
  | normal=>subst h3;exact h4 ht a h1 h2
  | _=>exact ⟨ds',fr',L',s',h1,h2,h3,h4⟩)
theorem qou{id:Nat}{c:Code}(h:RC P TT D n ro (qgn id Q) c ds fr L s):RC P TT D n ro Q (.block id c) ds fr L s:=fun ht a hr ho=>
 wpIn_block (wpIn_mono (h ht a hr ho) fun e a w ⟨ds',fr',L',s',h1,h2,h3,h4⟩=>by
  cases e with
  | exit i=>
   simp only [qgn] at h4
   simp only [Exit.inBlock]
   by_cases hi:i=id
   · simp only [hi,if_true] at h4 ⊢;exact ⟨ds',fr',L',s',h1,h2,h3,h4⟩
   · simp only [hi,if_false] at h4 ⊢;exact ⟨ds',fr',L',s',h1,h2,h3,h4⟩
  | _=>exact ⟨ds',fr',L',s',h1,h2,h3,h4⟩)
theorem qp9{c:Operand}{x y:Code}{b:Bool}(hc:lk fr c=some (.bool b))(h1:b=true→RC P TT D n ro Q x ds fr L s)(h2:b=false→RC P TT D n ro Q y ds fr L s):RC P TT D n ro Q (.cond c x y) ds fr L s:=
 fun ht a hr ho=>wpIn_cond_split (hr.ev hc) (fun hb=>h1 hb ht a hr ho) (fun hb=>h2 hb ht a hr ho)
theorem qig{c:Operand}{x y:Code}{p:Prop} [Decidable p] (hc:lk fr c=some (.bool (decide p))) (h1:p→RC P TT D n ro Q x ds fr L s) (h2:¬ p→RC P TT D n ro Q y ds fr L s):RC P TT D n ro Q (.cond c x y) ds fr L s:=
 qp9 hc (fun hb=>h1 (of_decide_eq_true hb)) (fun hb=>h2 (of_decide_eq_false hb))
theorem qjY{c:Operand}{x y:Code}{p:Prop} [Decidable p] (hc:lk fr c=some (.bool (!decide p))) (h1:¬ p→RC P TT D n ro Q x ds fr L s) (h2:p→RC P TT D n ro Q y ds fr L s):RC P TT D n ro Q (.cond c x y) ds fr L s:=
 qp9 hc (fun hb=>h1 (by simpa using hb)) (fun hb=>h2 (by simpa using hb))
theorem qkk{c:Operand}{x y:Code}{b:Bool}(hc:lk fr c=some (.bool (!b)))(h1:b=false→RC P TT D n ro Q x ds fr L s)(h2:b=true→RC P TT D n ro Q y ds fr L s):RC P TT D n ro Q (.cond c x y) ds fr L s:=
 qp9 hc (fun hb=>h1 (by simpa using hb)) (fun hb=>h2 (by simpa using hb))
theorem quT{c:Operand}{x y:Code}(hc:lk fr c=some (.bool true))(h1:RC P TT D n ro Q x ds fr L s):RC P TT D n ro Q (.cond c x y) ds fr L s:=
 qp9 hc (fun _=>h1) (fun hb=>by cases hb)
theorem qmb{id:Nat}{l:List Oper}(h:RO P TT D n ro l.toArray Q l ds fr L s):RC P TT D n ro Q (.region id l.toArray false) ds fr L s:=
 fun ht a hr ho=>wpIn_region_lit (h ht a hr ho)
theorem qvC{ops:Array Oper}(h:Q .normal ds fr L s):RO P TT D n ro ops Q [] ds fr L s:=fun _ _ hr ho=>⟨ds,fr,L,s,hr,ho,rfl,h⟩
theorem qlZ{γ:Type}{c:Code}(S:γ→Fr)(H:γ→Hl)(I:γ→World→Prop)(μ:γ→Nat)(mono:∀ g s s',I g s→Le D s s'→I g s')(g0:γ)
  (hS:Keeps fr (S g0)) (hL:L=H g0) (hI:I g0 s)
  (round:∀ g s,I g s→RC P TT D n ro (qi8 (fun ds' fr' L' s'=>ds'=ds∧∃ g' A,Keeps fr' (S g')∧L'=A++H g'∧I g' s'∧μ g' < μ g) Q) c ds (S g) (H g) s) :
  RC P TT D n ro Q (.loop c) ds fr L s:=fun ht a hr ho=>by
 refine wpIn_loop_ghost (fun m a w=>∃ g s,μ g=m∧FrD ds n a (S g)∧OKL D (H g) s∧w=fill (H g) s∧I g s) (μ g0) ⟨g0,s,Z,hr.sub hS,hL▸ho,hL▸Z,hI⟩ ?_
 rintro m a w ⟨g,s,rfl,h1,h2,rfl,h4⟩
 refine wpIn_mono (round g s h4 ht a h1 h2) ?_
 rintro e a' w' ⟨ds',fr',L',s',k1,k2,rfl,k4⟩
 cases e with
 | normal=>
  obtain ⟨rfl,g',A,j1,rfl,j3,j4⟩:=k4
  obtain ⟨e,d1,d2⟩:=qbc k2
  exact ⟨μ g',j4,g',_,rfl,k1.sub j1,d1,e,mono _ _ _ j3 d2⟩
 | _=>exact ⟨ds',fr',L',s',k1,k2,rfl,k4⟩
theorem qqq{γ:Type}{c:Code}(S:γ→Fr)(H:γ→Hl)(E:γ→List Deferred)(I:γ→World→Prop)(μ:γ→Nat)(mono:∀ g s s',I g s→Le D s s'→I g s')(g0:γ)
  (hS:Keeps fr (S g0)) (hL:L=H g0) (hE:ds=E g0) (hI:I g0 s)
  (round:∀ g s,I g s→RC P TT D n ro (qi8 (fun ds' fr' L' s'=>∃ g' A,ds'=E g'∧Keeps fr' (S g')∧L'=A++H g'∧I g' s'∧μ g' < μ g) Q) c (E g) (S g) (H g) s) :
  RC P TT D n ro Q (.loop c) ds fr L s:=fun ht a hr ho=>by
 subst hE
 refine wpIn_loop_ghost (fun m a w=>∃ g s,μ g=m∧FrD (E g) n a (S g)∧OKL D (H g) s∧w=fill (H g) s∧I g s) (μ g0) ⟨g0,s,Z,hr.sub hS,hL▸ho,hL▸Z,hI⟩ ?_
 rintro m a w ⟨g,s,rfl,h1,h2,rfl,h4⟩
 refine wpIn_mono (round g s h4 ht a h1 h2) ?_
 rintro e a' w' ⟨ds',fr',L',s',k1,k2,rfl,k4⟩
 cases e with
 | normal=>
  obtain ⟨g',A,rfl,j1,rfl,j3,j4⟩:=k4
  obtain ⟨e,d1,d2⟩:=qbc k2
  exact ⟨μ g',j4,g',_,rfl,k1.sub j1,d1,e,mono _ _ _ j3 d2⟩
 | _=>exact ⟨ds',fr',L',s',k1,k2,rfl,k4⟩
theorem qgA{J:List Deferred→Fr→Hl→World→Prop}(h:J ds fr L s):qi8 J Q .normal ds fr L s:=h
theorem qtg{J:List Deferred→Fr→Hl→World→Prop}(h:Q .ret ds fr L s):qi8 J Q .ret ds fr L s:=h
theorem qtO{J:List Deferred→Fr→Hl→World→Prop}{i:Nat}(h:Q (.exit i) ds fr L s):qi8 J Q (.exit i) ds fr L s:=h
theorem qoe{id:Nat}(h:Q .normal ds fr L s):qgn id Q .normal ds fr L s:=h
theorem qoC{id:Nat}(h:Q .ret ds fr L s):qgn id Q .ret ds fr L s:=h
theorem qpx{id:Nat}(h:Q .normal ds fr L s):qgn id Q (.exit id) ds fr L s:=by simpa [qgn] using h
end control
section ops
variable{P:Program}{TT:qaV}{D n:Nat}{ro:Option Nat}{Q:qdE}{ds:List Deferred}{fr:Fr}{L L':Hl}{s s':World}{ops:Array Oper}{rest:List Oper}{d ty:Nat}{op:Op}{pos:String}{af:Array Edge}{v:Value}
theorem qmr(hnd:∀ c,op≠.defer c)(hd:Nat.blt d n=true)(h:Ev P TT D fr op ty L s (.value v) L' s')(k:RO P TT D n ro ops Q rest ds ((d,v)::fr) L' s') :
  RO P TT D n ro ops Q (⟨some d,op,ty,pos,af,none⟩::rest) ds fr L s:=fun ht a hr ho=>by
 obtain ⟨h1,h2⟩:=h ht ho (some d) pos af none a.eval (fun x v hx=>hr.ev hx)
 simp only [wpListIn,Region.wanted,if_true]
 refine ⟨fun f _=>qfy ro f,?_⟩
 rw [Oper.semAt_eq _ _ _ hnd,h1,Oper.uponIn_value]
 exact k ht _ (hr.put hd v) h2
theorem qwO(hnd:∀ c,op≠.defer c)(h:Ev P TT D fr op ty L s .skip L' s')(k:RO P TT D n ro ops Q rest ds fr L' s') :
  RO P TT D n ro ops Q (⟨none,op,ty,pos,af,none⟩::rest) ds fr L s:=fun ht a hr ho=>by
 obtain ⟨h1,h2⟩:=h ht ho none pos af none a.eval (fun x v hx=>hr.ev hx)
 simp only [wpListIn,Region.wanted,if_true]
 refine ⟨fun f _=>qfy ro f,?_⟩
 rw [Oper.semAt_eq _ _ _ hnd,h1,Oper.uponIn_skip]
 exact k ht _ hr h2
theorem qcq(h:QE P TT D fr op ty L s v)(hd:Nat.blt d n=true)(k:RO P TT D n ro ops Q rest ds ((d,v)::fr) L s)(hnd:∀ c,op≠.defer c:=by nofun):RO P TT D n ro ops Q (⟨some d,op,ty,pos,af,none⟩::rest) ds fr L s:=
 qmr hnd hd (fun ht ho dst pos af g ρ hρ=>⟨h ht dst pos af g ρ hρ L s ho (Le.refl _) (fun _ hx=>hx),ho⟩) k
theorem qsD{f:FuncId}{x:Operand}{xs:List Operand}{first captured vs:List Value}{ts:Array TypeId}{R:Value→Hl→World→Prop}(hx:lk fr x=some (.func (.func f) first.toArray captured.toArray))(hv:lks fr xs=some vs)
  (hd:Nat.blt d n=true) (h:AC P D f (first++vs++captured) L s R) (k:∀ v L' s',Le D s s'→R v L' s'→RO P TT D n ro ops Q rest ds ((d,v)::fr) L' s') :
  RO P TT D n ro ops Q (⟨some d,.call { callee:=.value x,args:=xs.toArray,argTypes:=ts },ty,pos,af,none⟩::rest) ds fr L s:=fun hT a hr ho=>by
 obtain ⟨⟨fn,h1,h2,h3⟩,hc⟩:=h
 have hρ:∀ x v,lk fr x=some v→a.eval x=v:=fun x v hx=>hr.ev hx
 simp only [wpListIn,Region.wanted,if_true]
 refine ⟨fun f _=>qfy ro f,?_⟩
 have hrun:(execOp a.eval ⟨some d,.call { callee:=.value x,args:=xs.toArray,argTypes:=ts },ty,pos,af,none⟩).run P (fill L s)=.ok (.enter f (first++vs++captured).toArray) (fill L s):=by
  have h2':¬ fn.name = "runtime.NumGoroutine" := by simpa using h2
  have h3':¬ fn.body=none:=by intro e;simp [e] at h3
  simp [execOp,resolve,Deferred.ofValue,invoke,callFunc,hρ x _ hx,qd0 hρ hv,h1,h2',h3']
 rw [Oper.semAt_eq _ _ _ (by nofun),hrun,Oper.uponIn_enter]
 refine ⟨qe2 ro 0,(qgj ro _ (hc ho)).mono ?_⟩
 rintro e w' ⟨v,L',s',rfl,rfl,h4,h5,h6⟩
 exact k v L' s' h5 h6 hT _ (hr.put hd v) h4
theorem Rc9{f:FuncId}{x:Operand}{xs:List Operand}{vs:List Value}{ts:Array TypeId}{R:Value→Hl→World→Prop}(hx:lk fr x=some (.func (.func f) ([]:List Value).toArray ([]:List Value).toArray))(hv:lks fr xs=some vs)
  (hd:Nat.blt d n=true) (h:AC P D f (([]:List Value)++vs++[]) L s R) (k:∀ v L' s',Le D s s'→R v L' s'→RO P TT D n ro ops Q rest ds ((d,v)::fr) L' s') :
  RO P TT D n ro ops Q (⟨some d,.call { callee:=.value x,args:=xs.toArray,argTypes:=ts },ty,pos,af,none⟩::rest) ds fr L s:=qsD (first:=[]) (captured:=[]) hx hv hd h k
def YC(P:Program)(D:Nat)(l:Nat)(args:List Value)(L:Hl)(s:World)(R:Value→Hl→World→Prop):Prop:=
 OKL D L s→∃ fn tmps assign body,(Instr.yield l args.toArray).run P (fill L s)=.ok (.round l fn tmps assign body) (fill L s) ∧
  RoundIn Fence.wide 0 P l fn tmps assign body (fill L s) fun e w'=>∃ v L' s',e=.returned v∧w'=fill L' s'∧OKL D L' s'∧Le D s s'∧R v L' s'
theorem qkp{l:Nat}{x:Operand}{xs:List Operand}{vs:List Value}{ts:Array TypeId}{R:Value→Hl→World→Prop}(hx:lk fr x=some (.func (.yield l) #[] #[]))(hv:lks fr xs=some vs)
  (hd:Nat.blt d n=true) (h:YC P D l vs L s R) (k:∀ v L' s',Le D s s'→R v L' s'→RO P TT D n none ops Q rest ds ((d,v)::fr) L' s') :
  RO P TT D n none ops Q (⟨some d,.call { callee:=.value x,args:=xs.toArray,argTypes:=ts },ty,pos,af,none⟩::rest) ds fr L s:=fun hT a hr ho=>by
 obtain ⟨fn,tmps,assign,body,hy,hR⟩:=h ho
 have hρ:∀ x v,lk fr x=some v→a.eval x=v:=fun x v hx=>hr.ev hx
 simp only [wpListIn,Region.wanted,if_true]
 refine ⟨fun f _=>qfy none f,?_⟩
 have hrun:(execOp a.eval ⟨some d,.call { callee:=.value x,args:=xs.toArray,argTypes:=ts },ty,pos,af,none⟩).run P (fill L s)=.ok (.round l fn tmps assign body) (fill L s):=by
  simp [execOp,resolve,Deferred.ofValue,invoke,hρ x _ hx,qd0 hρ hv,hy]
 rw [Oper.semAt_eq _ _ _ (by nofun),hrun,Oper.uponIn_round]
 refine ⟨qe2 none 0,RoundIn.mono hR ?_⟩
 rintro e w' ⟨v,L',s',rfl,rfl,h4,h5,h6⟩
 exact k v L' s' h5 h6 hT _ (hr.put hd v) h4
theorem qpu{t:Nat}{ti:TI}(ht:qaE TT t=some ti)(hd:Nat.blt d n=true)
  (k:∀ β s',Le D s s'→RO P TT D n ro ops Q rest ds ((d,.pointer (some ⟨β,0,none⟩))::fr) ((β,cb ti.zeros t)::L) s'):RO P TT D n ro ops Q (⟨some d,.alloc t,ty,pos,af,none⟩::rest) ds fr L s:=fun hT a hr ho=>
 qmr (by nofun) hd (qhN ht ho) (k _ _ (qaJ ho (cb ti.zeros t)).2.2) hT a hr ho
theorem qb1{t:Nat}{ti:TI}(ht:qaE TT t=some ti)(zs:List Value)(hz:ti.zeros=zs)(hd:Nat.blt d n=true)
  (k:∀ β s',Le D s s'→RO P TT D n ro ops Q rest ds ((d,.pointer (some ⟨β,0,none⟩))::fr) ((β,cb zs t)::L) s'):RO P TT D n ro ops Q (⟨some d,.alloc t,ty,pos,af,none⟩::rest) ds fr L s:=by subst hz;exact qpu ht hd k
theorem qeX{t b off:Nat}{x y:Operand}{ti:TI}{t':Nat}{zs:List Value}(i:Nat)(zs':List Value){L':Hl}(hx:lk fr x=some (.pointer (some ⟨b,off,none⟩)))(hy:lk fr y=some v)(hi:L[i]?=some (b,cb zs t'))(ht:qaE TT t=some ti)
  (hl:(qa7 v).length=ti.size) (hle:Nat.ble (off+ti.size) zs.length=true) (h1:(qa7 v).all (·.oneCell')=true) (hs:qbW zs off (qa7 v)=zs') (hL:qdV L i (cb zs' t')=L')
  (k:RO P TT D n ro ops Q rest ds fr L' s):RO P TT D n ro ops Q (⟨none,.store t x y,ty,pos,af,none⟩::rest) ds fr L s:=by
 subst hL;exact qwO (by nofun) (qsY i zs' hx hy hi ht hl hle h1 hs) k
theorem qxk{t e len:Nat}{ti te:TI}{ps:List (Nat×Operand)}(vals:List (Nat×Value))(vs:List Value)(ht:qaE TT t=some ti)(hk:ti.kind=.sl e)(he:qaE TT e=some te)(hv:lkp fr ps=some vals)(hsz:Nat.ble (len * te.size) 16777216=true)(hpos:Nat.blt 0 len=true)(hp:vals.all (fun x=>Nat.blt x.1 len)=true)
  (hb:bld (qfK te.size 0 len) (List.replicate len te.zeros).flatten vals=some vs) (hd:Nat.blt d n=true) (k:∀ β s',Le D s s'→CellsAt s' β 0 vs→RO P TT D n ro ops Q rest ds ((d,.slice (some ⟨β,0,none⟩) len len)::fr) L s') :
  RO P TT D n ro ops Q (⟨some d,.buildSlice t len ps.toArray,ty,pos,af,none⟩::rest) ds fr L s:=fun hT a hr ho=>by
 obtain ⟨h1,h2,h3⟩:=qaJ ho (cb vs e)
 obtain ⟨d1,d2,d3⟩:=qbc (A:=[(s.heap.size,cb vs e)]) (B:=L) h2
 refine qmr (by nofun) (L':=L) (s':=fill [(s.heap.size,cb vs e)] (s.alloc (dum D))) hd (fun hT _ dst pos af g ρ hρ=>⟨?_,d2⟩) (k _ _ (h3.trans d3) (qef h2)) hT a hr ho
 rw [← d1]
 exact (qrA vals vs ht hk he hv hsz hpos hp hb ho hT ho dst pos af g ρ hρ).1
theorem qvH{t e m c k sz:Nat}{x y:Operand}{ti te:TI}{A1:Option Addr}{news xs:List Value}(B A L0:Hl)(hL:L=B++(A++L0))(hx:lk fr x=some v)(hy:lk fr y=some (.slice A1 m c))(ht:qaE TT t=some ti)(hk:ti.kind=.sl e)(he:qaE TT e=some te)(hsz:te.size=sz)
  (hO:FL.Own e sz A v k xs) (hR:Row s A1 m sz news) (h63:(k+m) * te.bytes≤140737488355328∧k+m≤9223372036854775807) (hd:Nat.blt d n=true)
  (kk:∀ v' A' s',Le D s s'→FL.Own e sz A' v' (k+m) (xs++news)→RO P TT D n ro ops Q rest ds ((d,v')::fr) (B++(A'++L0)) s') :
  RO P TT D n ro ops Q (⟨some d,.call { callee:=.builtin .append,args:=#[x,y],argTypes:=#[t,t] },ty,pos,af,none⟩::rest) ds fr L s:=fun hT a hr ho=>by
 subst hL
 obtain ⟨v',A',s',h1,h2,h3⟩:=qmZ (ty:=ty) B A L0 hT hx hy ht hk he hsz hO hR h63 ho
 exact qmr (by nofun) hd h1 (kk v' A' s' h2 h3) hT a hr ho
theorem qxc{dst:Option Nat}{j t:Nat}{w:Bool}(hj:qet ops j=some t)(hv:qa0 fr t=some (.bool w))
  (k:RO P TT D n ro ops Q (⟨dst,op,ty,pos,af,none⟩::rest) ds fr L s):RO P TT D n ro ops Q (⟨dst,op,ty,pos,af,some (j,w)⟩::rest) ds fr L s:=fun ht a hr ho=>by
 have k1:=k ht a hr ho
 have hy:yielded ops a.tmps j=some w:=by
  have h1:=hr.rel.slot t (hr.rel.top _ _ hv) _ hv
  unfold qet at hj
  simp only at h1
  simp [yielded,hj,h1]
 simp only [wpListIn,Region.wanted,if_true] at k1
 simp only [wpListIn,Region.wanted,hy,beq_self_eq_true,if_true]
 exact k1
theorem qw4{d:Nat}{j t:Nat}{w b:Bool}(hd:Nat.blt d n=true)(hj:qet ops j=some t)(hv:qa0 fr t=some (.bool b))(hb:(b != w)=true)
  (k:RO P TT D n ro ops Q rest ds ((d,undef)::fr) L s):RO P TT D n ro ops Q (⟨some d,op,ty,pos,af,some (j,w)⟩::rest) ds fr L s:=fun ht a hr ho=>by
 have hy:yielded ops a.tmps j=some b:=by
  have h1:=hr.rel.slot t (hr.rel.top _ _ hv) _ hv
  unfold qet at hj
  simp only at h1
  simp [yielded,hj,h1]
 have hne:(some b == some w)=false:=by cases b <;> cases w <;> simp_all
 simp only [wpListIn,Region.wanted,hy,hne,Bool.false_eq_true,if_false]
 exact ⟨fun f _=>qfy ro f,k ht _ (hr.put hd undef) ho⟩
theorem qrG{l:List Oper}{t:Nat}{b:Bool}(hv:qa0 fr t=some (.bool b))(h1:b=true→RO P TT D n ro ops Q l ds ((t,.bool true)::fr) L s)(h2:b=false→RO P TT D n ro ops Q l ds ((t,.bool false)::fr) L s) :
  RO P TT D n ro ops Q l ds fr L s:=fun ht a hr ho=>by
 cases b with
 | true=>exact h1 rfl ht a (hr.sub fun t' v' h=>by rw [qbl] at h;split at h <;> simp_all) ho
 | false=>exact h2 rfl ht a (hr.sub fun t' v' h=>by rw [qbl] at h;split at h <;> simp_all) ho
theorem qfZ{l:List Oper}{t:Nat}{b:Bool}(hv:qa0 fr t=some (.bool (!b)))(h1:b=false→RO P TT D n ro ops Q l ds ((t,.bool true)::fr) L s)(h2:b=true→RO P TT D n ro ops Q l ds ((t,.bool false)::fr) L s) :
  RO P TT D n ro ops Q l ds fr L s:=qrG hv (fun h=>h1 (by simpa using h)) (fun h=>h2 (by simpa using h))
end ops
section anyorder
variable{P:Program}{TT:qaV}{D n:Nat}{ro:Option Nat}{Q:qdE}{ds:List Deferred}{fr:Fr}{L L':Hl}{s s':World}{ops:Array Oper}{d ty fuel:Nat}{op:Op}{pos:String}{af:Array Edge}{v:Value}{listed:Array Bool}
end anyorder
section calls
variable{P:Program}{TT:qaV}{D n:Nat}{Q:qdE}{ds:List Deferred}{fr:Fr}{L:Hl}{s:World}
def qgg(b:Nat):Deferred:={ target:=.collected b,args:=#[] }
abbrev qiX(b:Nat):Nat×Obj:=(b,Obj.deferred (some []))
def retG(TT:qaV)(D:Nat)(rs:List ResultVar)(s0:World)(R:Value→Hl→World→Prop):qdE:=fun e ds fr L s=>
 (e=.normal∨e=.ret)∧∃ vs A L',Res TT fr L rs vs∧L=A++L'∧Le D s0 s∧(∀ s',Le D s s'→R (qaA vs) L' s')∧(∃ bs:List Nat,ds=bs.map qgg∧(bs.map qiX).Sublist A)
theorem Res.set{fr:Fr}{L L':Hl}(hL:∀ (i:Nat) b zs t,L[i]?=some (b,cb zs t)→L'[i]?=some (b,cb zs t)){rs:List ResultVar}{vs:List Value}(h:Res TT fr L rs vs):Res TT fr L' rs vs:=by
 induction h with
 | nil=>exact .nil
 | tmp h _ ih=>exact .tmp h ih
 | one i h hi ht hk hv _ ih=>exact .one i h (hL _ _ _ _ hi) ht hk hv ih
 | agg i h hi ht hk hv _ ih=>exact .agg i h (hL _ _ _ _ hi) ht hk hv ih
theorem qj0(L:Hl)(i j:Nat)(o:Obj)(h:i≠j):(qdV L i o)[j]?=L[j]?:=by
 induction L generalizing i j with
 | nil=>cases i <;> rfl
 | cons x L ih=>
  cases i with
  | zero=>cases j with
   | zero=>exact absurd rfl h
   | succ j=>rfl
  | succ i=>cases j with
   | zero=>rfl
   | succ j=>simp only [qdV,List.getElem?_cons_succ];exact ih i j O
theorem qhs{A L':Hl}{i:Nat}(o:Obj)(h:i < A.length):qdV (A++L') i o=qdV A i o++L':=by
 induction A generalizing i with
 | nil=>cases h
 | cons x A ih=>
  cases i with
  | zero=>rfl
  | succ i=>simp only [List.cons_append,qdV];rw [ih (by simpa using h)]
theorem qdH(w:World)(b:Nat)(o:Obj):w.putObj b o=qbk w b o:=rfl
theorem qd4{f:FuncId}{fn:Func}{c:Code}{args:List Value}{R:Value→Hl→World→Prop}(hT:TabOK P TT)(hf:P.funcs[f]?=some fn)(hn:(fn.name == "runtime.NumGoroutine")=false)(hb:fn.body=some c)(hnt:fn.ntmps=n)(hle:Nat.ble args.length n=true){rs:List ResultVar}(hrs:fn.results.toList=rs)(fr0:Fr)(hfr:qeR 0 args=fr0)
    (h:RC P TT D n none (retG TT D rs s R) c [] fr0 L s):AC P D f args L s R:=by
  subst hfr;subst hrs
  refine ⟨⟨fn,hf,hn,by simp [hb]⟩,fun ho=>(callsIn_wide (n:=0)).1 (callsIn_of_wp_marks hf hb Tt ?_)⟩
  have hle':args.length≤n:=Nat.le_of_ble_eq_true hle
  have hr:FrD [] n { tmps:=args.toArray++Array.replicate (fn.ntmps - args.toArray.size) undef,defers:=[] } (qeR 0 args):=by
    refine ⟨⟨by simp [hnt];omega,Z,fun t ht v hv=>?_,fun t v hv=>?_⟩,Z⟩
    · rw [qbC] at hv
      simp at hv
      obtain ⟨hlt,_⟩:=List.getElem?_eq_some_iff.1 hv
      simp [Array.getElem?_append,hlt]
      exact (List.getElem?_eq_some_iff.1 hv).2
    · rw [qbC] at hv
      simp at hv
      obtain ⟨hlt,_⟩:=List.getElem?_eq_some_iff.1 hv
      omega
  refine wpIn_mono (h hT _ hr ho) ?_
  rintro e a w ⟨ds,fr',L1,s1,k1,k2,rfl,he,vs,A,L',hres,rfl,hle1,hR,hds⟩
  have fin:∀ (A2:Hl),OKL D (A2++L') s1→Res TT fr' (A2++L') fn.results.toList vs→LeavesIn Fence.wide 0 P fn a.tmps (fun e w'=>∃ v L' s',e=.returned v∧w'=fill L' s'∧OKL D L' s'∧Le D s s'∧R v L' s') [] .returning (fill (A2++L') s1):=fun A2 ho2 hres2=>by
    obtain ⟨d1,d2,d3⟩:=qbc ho2
    have hrun:(results fn a.tmps).run P (fill (A2++L') s1)=.ok (qaA vs) (fill (A2++L') s1):=by
      have h1:=Res.run hT k1.rel ho2 hres2
      have h2:(fn.results.mapM (qpK a.tmps)).run P (fill (A2++L') s1)=.ok vs.toArray (fill (A2++L') s1):=by
        rw [Array.mapM_eq_mapM_toList]
        simp only [map_eq_pure_bind,Sem.run_bind,h1,Result.andThen_ok,Sem.run_pure]
      rw [qdy]
      simp only [Sem.run_bind,h2,Result.andThen_ok,Sem.run_pure]
      congr 1
      match vs with
      | []=>rfl
      | [v]=>rfl
      | v::u::r=>simp [qaA]
    exact ⟨_,hrun,_,L',fill A2 s1,rfl,d1,d2,hle1.trans d3,hR _ d3⟩
  have key:∀ (bs:List Nat),bs.Nodup→∀ (A2:Hl),(∀ b∈bs,(b,Obj.deferred (some []))∈A2)→OKL D (A2++L') s1→Res TT fr' (A2++L') fn.results.toList vs→LeavesInM Fence.wide 0 P fn a.tmps (fun e w'=>∃ v L' s',e=.returned v∧w'=fill L' s'∧OKL D L' s'∧Le D s s'∧R v L' s') (bs.map qgg) .returning (fill (A2++L') s1):=by
    intro bs
    induction bs with
    | nil=>intro _ A2 _ k2 hres;exact fin A2 k2 hres
    | cons b bs ih=>
      intro hnd A2 hin k2 hres
      obtain ⟨i,hi,hie⟩:=List.getElem_of_mem (hin b Mc)
      have hig:(A2++L')[i]?=some (b,Obj.deferred (some [])):=by rw [List.getElem?_append_left hi,List.getElem?_eq_getElem hi,hie]
      have hw:(fill (A2++L') s1).heap[b]?=some (.deferred (some [])):=qa2 k2 (List.mem_of_getElem? hig)
      refine ⟨(fun h=>by cases h),.inl ⟨b,_,Z,run_takeDeferred hw,?_⟩⟩
      rw [qdH,← qcO k2 hig,qhs _ hi]
      have ho2:=qdX k2 i (Obj.deferred none)
      rw [qhs _ hi] at ho2
      refine ih (List.nodup_cons.1 hnd).2 (qdV A2 i (.deferred none)) (fun c hc=>?_) ho2 (Res.set (fun j c zs t hj=>?_) hres)
      · have hne:b≠c:=fun e=>(List.nodup_cons.1 hnd).1 (e▸hc)
        obtain ⟨j,hj,hje⟩:=List.getElem_of_mem (hin c (List.mem_cons_of_mem _ hc))
        have hij:i≠j:=fun e=>by subst e;rw [hie] at hje;injection hje with h1 _;exact hne h1
        exact List.mem_of_getElem? (i:=j) (by rw [qj0 _ _ _ _ hij,List.getElem?_eq_getElem hj,hje])
      · rw [← qhs _ hi,qj0 _ _ _ _ (fun e=>by subst e;rw [hig] at hj;cases hj)]
        exact hj
  obtain ⟨bs,rfl,hsub⟩:=hds
  have hin:∀ b∈bs,(b,Obj.deferred (some []))∈A:=fun b hb=>hsub.subset (List.mem_map_of_mem hb)
  have hnd:bs.Nodup:=by
    have h1:(A.map (·.1)).Nodup:=by have:=k2.nd;rw [List.map_append] at this;exact (List.nodup_append.1 this).1
    have h2:=(hsub.map (·.1)).nodup h1
    rwa [List.map_map,show ((fun x:Nat×Obj=>x.1) ∘ qiX)=id from rfl,List.map_id] at h2
  have key:=key bs hnd A hin k2 hres
  rw [← k1.defers] at key
  rcases he with rfl | rfl
  · exact key
  · exact key
theorem qcb{rs:List ResultVar}{s0:World}{R:Value→Hl→World→Prop}{e:Exit}{vs:List Value}(A L':Hl)(he:e=.normal∨e=.ret)(h:Res TT fr L rs vs)(hL:L=A++L')(hl:Le D s0 s)(hds:∃ bs:List Nat,ds=bs.map qgg∧(bs.map qiX).Sublist A)(hR:∀ s',Le D s s'→R (qaA vs) L' s'):retG TT D rs s0 R e ds fr L s:=
 ⟨he,vs,A,L',h,hL,hl,hR,hds⟩
def jmp:Exit→Option (Option Code)
 | .normal=>some none
 | .ret=>some (some .ret)
 | .exit id=>some (some (.exit id))
 | _=>none
def qv6:Option Code→Exit
 | none=>.normal
 | some .ret=>.ret
 | some (.exit id)=>.exit id
 | _=>.normal
def qq4(fr:Fr)(ps:List Nat)(vs:List Value):Fr:=(ps.zip vs).foldl (fun fr x=>(x.1,x.2)::fr) fr
theorem qlb(n:Nat):∀ (l:List (Nat×Value)) (fr:Fr) (a:Act),FrRel n { a with defers:=[] } fr→l.all (fun x=>Nat.blt x.1 n)=true →
  FrRel n { tmps:=l.foldl (fun tmps x=>tmps.setIfInBounds x.1 x.2) a.tmps,defers:=[] } (l.foldl (fun fr x=>(x.1,x.2)::fr) fr):=by
 intro l
 induction l with
 | nil=>intro fr a h _;exact h
 | cons x l ih=>
  intro fr a h hl
  simp only [List.all_cons,Bool.and_eq_true] at hl
  exact ih _ { a with tmps:=a.tmps.setIfInBounds x.1 x.2 } (h.put hl.1 x.2) hl.2
section range
variable{σ α:Type}(H:σ→Hl)(I:σ→World→Prop)(pend:σ→Option Code)(St:σ→α→σ→Prop)(enc:α→List Value)(Pre:σ→α→World→Prop)(Fin:σ→Prop)
end range
end calls
section
variable{P:Program}{TT:qaV}{D n:Nat}{ro:Option Nat}{Q:qdE}{ds:List Deferred}{fr:Fr}{L:Hl}{s:World}{ops:Array Oper}{rest:List Oper}{d ty:Nat}{pos:String}{af:Array Edge}{v:Value}
theorem Yqm{x:Operand}(hx:lk fr x=some v)(hd:Nat.blt d n=true)(k:RO P TT D n ro ops Q rest ds ((d,v)::fr) L s):RO P TT D n ro ops Q (⟨some d,.move x,ty,pos,af,none⟩::rest) ds fr L s:=qcq (qar hx) hd k
theorem Yqa{x:Operand}(hx:lk fr x=some v)(hd:Nat.blt d n=true)(k:RO P TT D n ro ops Q rest ds ((d,v)::fr) L s):RO P TT D n ro ops Q (⟨some d,.assign x,ty,pos,af,none⟩::rest) ds fr L s:=qcq (qaY hx) hd k
theorem Yqx{x:Operand}{i:Nat}{vs:List Value}(hx:lk fr x=some (.tuple vs.toArray))(hi:nth vs i=some v)(hd:Nat.blt d n=true)(k:RO P TT D n ro ops Q rest ds ((d,v)::fr) L s):RO P TT D n ro ops Q (⟨some d,.extract x i,ty,pos,af,none⟩::rest) ds fr L s:=qcq (qbv hx hi) hd k
theorem YqT{c x y:Operand}(hc:lk fr c=some (.bool true))(hx:lk fr x=some v)(hd:Nat.blt d n=true)(k:RO P TT D n ro ops Q rest ds ((d,v)::fr) L s):RO P TT D n ro ops Q (⟨some d,.pick c x y,ty,pos,af,none⟩::rest) ds fr L s:=qcq (qcs hc hx) hd k
theorem YqF{c x y:Operand}(hc:lk fr c=some (.bool false))(hx:lk fr y=some v)(hd:Nat.blt d n=true)(k:RO P TT D n ro ops Q rest ds ((d,v)::fr) L s):RO P TT D n ro ops Q (⟨some d,.pick c x y,ty,pos,af,none⟩::rest) ds fr L s:=qcq (qeK hc hx) hd k
theorem Yqeq{x y:Operand}{ik:IntKind}{a b:Int}{t t':Nat}(hx:lk fr x=some (.int ik a))(hy:lk fr y=some (.int ik b))(hd:Nat.blt d n=true)(k:RO P TT D n ro ops Q rest ds ((d,.bool (decide (a=b)))::fr) L s):RO P TT D n ro ops Q (⟨some d,.binOp .eql t x y t',ty,pos,af,none⟩::rest) ds fr L s:=qcq (qgh hx hy) hd k
theorem Yqne{x y:Operand}{ik:IntKind}{a b:Int}{t t':Nat}(hx:lk fr x=some (.int ik a))(hy:lk fr y=some (.int ik b))(hd:Nat.blt d n=true)(k:RO P TT D n ro ops Q rest ds ((d,.bool (!decide (a=b)))::fr) L s):RO P TT D n ro ops Q (⟨some d,.binOp .neq t x y t',ty,pos,af,none⟩::rest) ds fr L s:=qcq (qcB hx hy) hd k
theorem qwZ{x y:Operand}{ik:IntKind}{a b:Int}{t t':Nat}(hx:lk fr x=some (.int ik a))(hy:lk fr y=some (.int ik b))(hd:Nat.blt d n=true)(k:RO P TT D n ro ops Q rest ds ((d,.bool (decide (a < b)))::fr) L s):RO P TT D n ro ops Q (⟨some d,.binOp .lss t x y t',ty,pos,af,none⟩::rest) ds fr L s:=qcq (qlA hx hy) hd k
theorem qqF{x:Operand}{b:Bool}{t:Nat}(hx:lk fr x=some (.bool b))(hd:Nat.blt d n=true)(k:RO P TT D n ro ops Q rest ds ((d,.bool (!b))::fr) L s):RO P TT D n ro ops Q (⟨some d,.unOp .not t x,ty,pos,af,none⟩::rest) ds fr L s:=qcq (qjX hx) hd k
theorem qwn{x:Operand}{t:Nat}{A:Option Addr}{m c:Nat}{ti:TI}{e:Nat}(hx:lk fr x=some (.slice A m c))(ht:qaE TT t=some ti)(hk:ti.kind=.sl e)(hd:Nat.blt d n=true)(k:RO P TT D n ro ops Q rest ds ((d,.int .i64 (m:Int))::fr) L s):RO P TT D n ro ops Q (⟨some d,.call { callee:=.builtin .len,args:=#[x],argTypes:=#[t] },ty,pos,af,none⟩::rest) ds fr L s:=qcq (qbN hx ht hk) hd k
theorem quq{x:Operand}{a:Addr}(hx:lk fr x=some (.pointer (some a)))(hd:Nat.blt d n=true)(k:RO P TT D n ro ops Q rest ds ((d,.pointer (some a))::fr) L s):RO P TT D n ro ops Q (⟨some d,.nilCheck x,ty,pos,af,none⟩::rest) ds fr L s:=qcq (qbz hx) hd k
theorem qwr{t f b off:Nat}{x:Operand}{ti:TI}{os:List Nat}(hx:lk fr x=some (.pointer (some ⟨b,off,none⟩)))(ht:qaE TT t=some ti)(hk:ti.kind=.st os)(hf:qjn os f=some 0)(hd:Nat.blt d n=true)(k:RO P TT D n ro ops Q rest ds ((d,.pointer (some ⟨b,off,none⟩))::fr) L s):RO P TT D n ro ops Q (⟨some d,.fieldAddr t x f,ty,pos,af,none⟩::rest) ds fr L s:=qcq (qbu hx ht hk hf) hd k
theorem qxu{t f fo b:Nat}{x:Operand}{ti:TI}{os:List Nat}(hx:lk fr x=some (.pointer (some ⟨b,0,none⟩)))(ht:qaE TT t=some ti)(hk:ti.kind=.st os)(hf:qjn os f=some fo)(hd:Nat.blt d n=true)(k:RO P TT D n ro ops Q rest ds ((d,.pointer (some ⟨b,fo,none⟩))::fr) L s):RO P TT D n ro ops Q (⟨some d,.fieldAddr t x f,ty,pos,af,none⟩::rest) ds fr L s:=qcq (qnh hx ht hk hf) hd k
theorem Yql{t b off:Nat}{x:Operand}{ti:TI}{t':Nat}{zs:List Value}(i:Nat)(hx:lk fr x=some (.pointer (some ⟨b,off,none⟩)))(hi:L[i]?=some (b,cb zs t'))(ht:qaE TT t=some ti)(hk:qdT ti.kind=true)(hv:nth zs off=some v)(hd:Nat.blt d n=true)(k:RO P TT D n ro ops Q rest ds ((d,v)::fr) L s):RO P TT D n ro ops Q (⟨some d,.load t x,ty,pos,af,none⟩::rest) ds fr L s:=qcq (qdQ i hx hi ht hk hv) hd k
theorem qmJ{x y:Operand}{ik:IntKind}{a b c:Int}{t t':Nat}(hx:lk fr x=some (.int ik a))(hy:lk fr y=some (.int ik b))(hd:Nat.blt d n=true)(hc:ik.wrap (a+b)=c)(k:RO P TT D n ro ops Q rest ds ((d,.int ik c)::fr) L s):RO P TT D n ro ops Q (⟨some d,.binOp .add t x y t',ty,pos,af,none⟩::rest) ds fr L s:=qcq (qaX hx hy hc) hd k
end
abbrev Ys:=@quw
abbrev Yr:=@qmb
abbrev Yn:=@qvC
abbrev Yt:=@qgA
abbrev Yu:=@qtg
abbrev Yv:=@qtO
abbrev Yb:=@qoe
abbrev Yc:=@qoC
abbrev Yd:=@qpx
abbrev Yk:=@qrW
abbrev Yl:=@qtF
abbrev Yo:=@qux
abbrev Yp:=@qou
abbrev Yy:=@quT
abbrev Yg:=@qxc
abbrev Yf:=@qw4
end Go.FL
namespace Go.Proofs.YtpdnijphccdiiaaGreatDoor
open Go.Proofs.Tryz
open Go.FL
attribute [local irreducible] JC JO JA JB qaO qaD qbV AC fill CellsAt QE Ev Mid
def NdV(s:World):Nd→Value→Prop
 | .st x lp,v=>∃ b o A1 n1 c1 A2 n2 c2 A3 n3 c3,v=.agg #[.pointer (some ⟨b,o,none⟩),.pointer none,.int .i64 (lp:Int)]∧CellsAt s b o [.int .i64 x.kind,St x.name,.slice A1 n1 c1,.slice A2 n2 c2,.slice A3 n3 c3]∧n1=x.exprs.length
 | .ex x lp,v=>∃ b o A n c,v=.agg #[.pointer none,.pointer (some ⟨b,o,none⟩),.int .i64 (lp:Int)]∧CellsAt s b o [.int .i64 x.kind,.int .i64 x.op,.int .u32 x.num,St x.name,.slice A n c]∧n=x.args.length
theorem NdV.mkE{s:World}{x:Ex}{lp b o n c:Nat}{A:Option Addr}(h:CellsAt s b o [.int .i64 x.kind,.int .i64 x.op,.int .u32 x.num,St x.name,.slice A n c])(hn:n=x.args.length):NdV s (.ex x lp) (.agg #[.pointer none,.pointer (some ⟨b,o,none⟩),.int .i64 (lp:Int)]):=⟨b,o,A,n,c,rfl,h,hn⟩
theorem NdV.mkS{s:World}{x:Stm}{lp b o n1 c1 n2 c2 n3 c3:Nat}{A1 A2 A3:Option Addr}(h:CellsAt s b o [.int .i64 x.kind,St x.name,.slice A1 n1 c1,.slice A2 n2 c2,.slice A3 n3 c3])(hn:n1=x.exprs.length):NdV s (.st x lp) (.agg #[.pointer (some ⟨b,o,none⟩),.pointer none,.int .i64 (lp:Int)]):=⟨b,o,A1,n1,c1,A2,n2,c2,A3,n3,c3,rfl,h,hn⟩
def qgJ{σ:Type}(pend:σ→Option Code)(St:σ→Nd→σ→Prop):σ→List Nd→σ→Prop
 | g,[],g'=>g'=g
 | g,p::r,g'=>∃ g1,St g p g1∧if (pend g1).isNone=true then qgJ pend St g1 r g' else g'=g1
theorem qeQ{σ:Type}{pend:σ→Option Code}{St:σ→Nd→σ→Prop}{b:List Nd}:∀ {a:List Nd} {g g1 g':σ},pend g=none→qgJ pend St g a g1→((pend g1).isNone=true→qgJ pend St g1 b g')→((pend g1).isNone=false→g'=g1)→qgJ pend St g (a++b) g'
  | [],g,g1,g',hp,h,h1,_=>by
    have h:g1=g:=h
    subst h;exact h1 (by rw [hp];rfl)
  | p::r,g,g1,g',_,⟨g2,k1,k2⟩,h1,h2=>by
    refine ⟨g2,k1,?_⟩
    by_cases h3:(pend g2).isNone=true
    · rw [if_pos h3] at k2 ⊢
      exact qeQ (Option.isNone_iff_eq_none.1 h3) k2 h1 h2
    · rw [if_neg h3] at k2 ⊢
      subst k2;exact h2 (Bool.eq_false_iff.2 h3)
theorem qcv{σ:Type}{pend:σ→Option Code}{St:σ→Nd→σ→Prop}{cnt:σ→Nat}(hcn:∀ g nd g1,St g nd g1→cnt g1≤cnt g+1):∀ {l:List Nd} {g g':σ},qgJ pend St g l g'→cnt g'≤cnt g+l.length
  | [],g,g',h=>by
    have h:g'=g:=h
    subst h;simp
  | p::r,g,g',⟨g1,h1,h2⟩=>by
    have e1:=hcn _ _ _ h1
    by_cases h3:(pend g1).isNone=true
    · rw [if_pos h3] at h2
      have e2:=qcv hcn h2
      rw [List.length_cons];omega
    · rw [if_neg h3] at h2
      subst h2;rw [List.length_cons];omega
theorem qhD{l:List Ex}{k lp:Nat}{x:Ex}(h:l[k]?=some x):qek (l.drop k) lp=.ex x lp::(qek x.args lp++qek (l.drop (k+1)) lp):=by
 obtain ⟨hk,rfl⟩:=List.getElem?_eq_some_iff.1 h
 rw [List.drop_eq_getElem_cons hk,qek]
 cases l[k] with
 | mk a b c d e=>rfl
def IXC(D d:Nat):Prop:=∀ (s:World) (σ:Type) (H:σ→Hl) (I:σ→World→Prop) (pend:σ→Option Code) (St:σ→Nd→σ→Prop) (l:Nat) (g0:σ) (cnt:σ→Nat) (B:Nat),(∀ g nd g1,St g nd g1→cnt g1≤cnt g+1)→(∀ g s s',I g s→Le D s s'→I g s')→(∀ g nd nv s',Le D s s'→I g s'→pend g=none→cnt g < B→NdV s' nd nv→YC prog D l [nv] (H g) s' fun v L' s3=>∃ g1,St g nd g1∧v=.bool (pend g1).isNone∧L'=H g1∧I g1 s3)→I g0 s→pend g0=none→∀ (A:Option Addr) (n c:Nat) (xs:List Ex) (lp:Nat),Exs d s A n c xs→cnt g0+(qek xs lp).length≤B→AC prog D 121 [.slice A n c,.int .i64 (lp:Int),.func (.yield l) #[] #[]] (H g0) s fun v L' s3=>∃ g',qgJ pend St g0 (qek xs lp) g'∧v=.bool (pend g').isNone∧L'=H g'∧I g' s3
theorem qmS(D d:Nat)(ih:∀ e,d=e+1→IXC D e)(s:World)(σ:Type)(H:σ→Hl)(I:σ→World→Prop)(pend:σ→Option Code)(St:σ→Nd→σ→Prop)(l:Nat)(g0:σ)(cnt:σ→Nat)(B:Nat)(hcn:∀ g nd g1,St g nd g1→cnt g1≤cnt g+1)(mono:∀ g s s',I g s→Le D s s'→I g s')(hY:∀ g nd nv s',Le D s s'→I g s'→pend g=none→cnt g < B→NdV s' nd nv→YC prog D l [nv] (H g) s' fun v L' s3=>∃ g1,St g nd g1∧v=.bool (pend g1).isNone∧L'=H g1∧I g1 s3)(hI:I g0 s)(hp:pend g0=none)(A:Option Addr)(n c:Nat)(xs:List Ex)(lp:Nat)(hA:Exs d s A n c xs)(hBn:cnt g0+(qek xs lp).length≤B):AC prog D 121 [.slice A n c,.int .i64 (lp:Int),.func (.yield l) #[] #[]] (H g0) s fun v L' s3=>∃ g',qgJ pend St g0 (qek xs lp) g'∧v=.bool (pend g').isNone∧L'=H g'∧I g' s3:=by
 have hn:=hA.1
 have hc1:=hA.2.1
 have hc2:=hA.2.2.1
 refine qd4 (fn:=f121) qaq func121 V Z ntmps121 Z (rs:=[.tmp 6]) Z [(0,_),(1,_),(2,_)] Z<|Ys<|Yr<|Yqa Z Z<|Yn<|Yt<|Ys<|Ys<|Yr<|Yqm Z Z<|qwn Z Z Z Z<|Yqm Z Z<|Yn<|Yt<|Yp<|?_
 refine qlZ (γ:=σ×Nat) (fun g=>[(0,_),(1,_),(2,_),(6,_),(9,_),(10,.int .i64 (g.2:Int))]) (fun g=>H g.1) (fun g tw=>Le D s tw∧(g.2≤n∧I g.1 tw∧pend g.1=none∧cnt g.1+(qek (xs.drop g.2) lp).length≤B∧(∀ g',qgJ pend St g.1 (qek (xs.drop g.2) lp) g'→qgJ pend St g0 (qek xs lp) g'))) (fun g=>n - g.2) (fun _ _ _ h hl=>⟨h.1.trans hl,⟨h.2.1,mono _ _ _ h.2.2.1 hl,h.2.2.2⟩⟩) (g0,0) (.c6 Z Z Z Z Z Z (.nil _)) Z ⟨Le.refl _,⟨Nat.zero_le _,mono _ _ _ hI (Lr D),hp,hBn,fun g' h=>h⟩⟩ ?_
 intro g s1 I1
 obtain ⟨g,k⟩:=g
 obtain ⟨hk0,hIg,hpg,hbn,hrun⟩:=I1.2
 simp only at hk0 hIg hpg hbn hrun
 dsimp only
 refine Ys<|Yr<|qwZ Z Z Z<|Yn<|Yt<|Ys<|?_
 refine qig Z (fun c2=>?_) (fun c2=>?_)
 ·
  have hk:k < n:=by omega
  obtain ⟨e,b,off,x,A',n',c',hd,rfl,hx,hcx,hax,hux,hnl⟩:=Exs.at_ (hA.le I1.1) hk
  have hn':=hax.1
  rw [qhD hx,List.length_cons,List.length_append] at hbn
  refine Yk<|Yt<|Ys<|Yp<|Ys<|Yr<|Yqm Z Z<|Yqa Z Z<|Yn<|Yt<|Ys<|Yr<|Yqm Z Z<|Yqm Z Z<|Yqm Z Z<|qcq (qap Z Z Z Z Z Z hk) Z<|Yqm Z Z<|qcq (qam [(_,_),(_,_)] [_,_,_] Z Z Z Z Z Z) Z<|qkp Z Z Z (hY g (.ex x lp) _ _ I1.1 (mono _ _ _ hIg (Lr D)) hpg O (NdV.mkE (hcx.le (Lr D)) hn')) ?_
  rintro _ _ s3 h3 ⟨g1,hst,rfl,rfl,hIn⟩
  refine qqF Z Z<|Yqm Z Z<|?_
  refine qfZ (t:=21) Z (fun c4=>?_) (fun c4=>?_)
  ·
   refine Yf Z Z Z Z<|Yf Z Z Z Z<|Yf Z Z Z Z<|Yf Z Z Z Z<|Yf Z Z Z Z<|Yf Z Z Z Z<|Yf Z Z Z Z<|Yf Z Z Z Z<|Yf Z Z Z Z<|YqT Z Z Z<|Yn<|Yt<|Yy Z ?_
   have hp2:=trivial
   refine Ys<|Yr<|Yqa Z Z<|Yn<|Yt<|Yo<|Yc<|Yu<|Yu<|Yc<|Yu<|?_
   refine qcb [] _ (.inr Z) (.t1 Z) Z (I1.1.t h3) ⟨[],Z,List.nil_sublist _⟩ fun _ hS2=>?_
   exact ⟨g1,hrun g1 (by rw [qhD hx];exact ⟨g1,hst,by rw [if_neg (by simp only [*];decide)]⟩),by simp only [*];rfl,rfl,mono _ _ _ hIn ((Lr D).t hS2)⟩
  refine Yg Z Z<|Yqm Z Z<|Yg Z Z<|Yqm Z Z<|Yg Z Z<|qcq (qap Z Z Z Z Z Z hk) Z<|Yg Z Z<|qcq (qbf Z Z Z Z) Z<|Yg Z Z<|qcq (qaC 4 Z Z Z (hcx.le h3) Z) Z<|Yg Z Z<|Yqm Z Z<|Yg Z Z<|Yqm Z Z<|Yg Z Z<|Rc9 Z Z Z (ih e hd _ σ H I pend St l g1 cnt B hcn mono (fun g nd nv s9 hl=>hY g nd nv s9 (I1.1.t h3|>.t hl)) (mono _ _ _ hIn (Lr D)) (Option.isNone_iff_eq_none.1 As) A' n' c' x.args lp (hax.le h3) (by have e1:=hcn _ _ _ hst;omega)) ?_
  rintro _ _ s5 h5 ⟨g2,hrn,rfl,rfl,hIn2⟩
  refine Yg Z Z<|qqF Z Z<|YqF Z Z Z<|Yn<|Yt<|?_
  refine qkk Z (fun c6=>?_) (fun c6=>?_)
  ·
   have hp2:=c6
   refine Ys<|Yr<|Yqa Z Z<|Yn<|Yt<|Yo<|Yc<|Yu<|Yu<|Yc<|Yu<|?_
   refine qcb [] _ (.inr Z) (.t1 Z) Z (I1.1.t h3|>.t h5) ⟨[],Z,List.nil_sublist _⟩ fun _ hS2=>?_
   exact ⟨g2,hrun g2 (by rw [qhD hx];exact ⟨g1,hst,by rw [if_pos As];exact qeQ (Option.isNone_iff_eq_none.1 As) hrn (fun h9=>by rw [hp2] at h9;cases h9) (fun _=>rfl)⟩),by rw [hp2];rfl,rfl,mono _ _ _ hIn2 ((Lr D).t hS2)⟩
  have hp2:=c6
  refine Yk<|Yb<|Yt<|Yr<|qmJ Z Z Z (w64 O O)<|Yqm Z Z<|Yn<|?_
  refine qgA ⟨Z,(g2,k+1),[],(.c6 Z Z Z Z Z Z (.nil _)),Z,⟨(I1.1.t h3|>.t h5),⟨by simp only;omega,mono _ _ _ hIn2 (Lr D),Option.isNone_iff_eq_none.1 hp2,by have e1:=hcn _ _ _ hst;have e2:=qcv hcn hrn;simp only;omega,fun g' h=>hrun g' (by rw [qhD hx];exact ⟨g1,hst,by rw [if_pos As];exact qeQ (Option.isNone_iff_eq_none.1 As) hrn (fun _=>h) (fun h9=>by rw [hp2] at h9;cases h9)⟩)⟩⟩,Oz⟩
 rw [List.drop_eq_nil_of_le O,qek] at hrun
 refine Yl<|Yv<|Yv<|Yd<|Yt<|Ys<|Yr<|Yqa Z Z<|Yn<|Yt<|Yo<|?_
 refine qcb [] _ (.inr Z) (.t1 Z) Z I1.1 ⟨[],Z,List.nil_sublist _⟩ fun _ hS2=>?_
 exact ⟨g,hrun g rfl,by rw [hpg];rfl,rfl,mono _ _ _ hIg ((Lr D).t hS2)⟩
theorem ixc(D:Nat):∀ d,IXC D d
 | 0=>fun s σ H I pend St l g0 cnt B hcn mono hY hI hp A n c xs lp hA hBn=>qmS D 0 (fun e h=>by omega) s σ H I pend St l g0 cnt B hcn mono hY hI hp A n c xs lp hA hBn
 | d+1=>fun s σ H I pend St l g0 cnt B hcn mono hY hI hp A n c xs lp hA hBn=>qmS D (d+1) (fun e h=>(show d=e by omega)▸ixc D d) s σ H I pend St l g0 cnt B hcn mono hY hI hp A n c xs lp hA hBn
section
variable{σ:Type}{pend:σ→Option Code}{St:σ→Nd→σ→Prop}{a b:List Nd}{g g1 g':σ}
theorem qcQ(hp:(pend g).isNone=true)(h:qgJ pend St g a g1)(h1:(pend g1).isNone=false):qgJ pend St g (a++b) g1:=qeQ (Option.isNone_iff_eq_none.1 hp) h (fun h9=>by rw [h1] at h9;cases h9) fun _=>rfl
theorem qcT(hp:(pend g).isNone=true)(h:qgJ pend St g a g1)(h1:(pend g1).isNone=true)(k:qgJ pend St g1 b g'):qgJ pend St g (a++b) g':=qeQ (Option.isNone_iff_eq_none.1 hp) h (fun _=>k) fun h9=>by rw [h1] at h9;cases h9
end
def lpI(x:Stm)(lp:Nat):Nat:=if x.kind=4 then lp+1 else lp
theorem qdK{l:List Stm}{k lp:Nat}{x:Stm}(h:l[k]?=some x):qcn (l.drop k) lp=.st x lp::((qek x.exprs lp++(qcn x.body (lpI x lp)++qcn x.els (lpI x lp)))++qcn (l.drop (k+1)) lp):=by
 obtain ⟨hk,rfl⟩:=List.getElem?_eq_some_iff.1 h
 rw [List.drop_eq_getElem_cons hk,qcn]
 cases l[k] with
 | mk a b c d e=>rfl
def ISC(D d:Nat):Prop:=∀ (s:World) (σ:Type) (H:σ→Hl) (I:σ→World→Prop) (pend:σ→Option Code) (St:σ→Nd→σ→Prop) (l:Nat) (g0:σ) (cnt:σ→Nat) (B:Nat),(∀ g nd g1,St g nd g1→cnt g1≤cnt g+1)→(∀ g s s',I g s→Le D s s'→I g s')→(∀ g nd nv s',Le D s s'→I g s'→pend g=none→cnt g < B→NdV s' nd nv→YC prog D l [nv] (H g) s' fun v L' s3=>∃ g1,St g nd g1∧v=.bool (pend g1).isNone∧L'=H g1∧I g1 s3)→I g0 s→pend g0=none→∀ (A:Option Addr) (n c:Nat) (xs:List Stm) (lp lv:Nat),Stms d s A n c xs→qdU xs lv=true→lp≤lv→cnt g0+(qcn xs lp).length≤B→AC prog D 81 [.slice A n c,.int .i64 (lp:Int),.func (.yield l) #[] #[]] (H g0) s fun v L' s3=>∃ g',qgJ pend St g0 (qcn xs lp) g'∧v=.bool (pend g').isNone∧L'=H g'∧I g' s3
theorem qmi(D d:Nat)(ih:∀ e,d=e+1→ISC D e)(s:World)(σ:Type)(H:σ→Hl)(I:σ→World→Prop)(pend:σ→Option Code)(St:σ→Nd→σ→Prop)(l:Nat)(g0:σ)(cnt:σ→Nat)(B:Nat)(hcn:∀ g nd g1,St g nd g1→cnt g1≤cnt g+1)(mono:∀ g s s',I g s→Le D s s'→I g s')(hY:∀ g nd nv s',Le D s s'→I g s'→pend g=none→cnt g < B→NdV s' nd nv→YC prog D l [nv] (H g) s' fun v L' s3=>∃ g1,St g nd g1∧v=.bool (pend g1).isNone∧L'=H g1∧I g1 s3)(hI:I g0 s)(hp:pend g0=none)(A:Option Addr)(n c:Nat)(xs:List Stm)(lp lv:Nat)(hA:Stms d s A n c xs)(hv:qdU xs lv=true)(hlp:lp≤lv)(hBn:cnt g0+(qcn xs lp).length≤B):AC prog D 81 [.slice A n c,.int .i64 (lp:Int),.func (.yield l) #[] #[]] (H g0) s fun v L' s3=>∃ g',qgJ pend St g0 (qcn xs lp) g'∧v=.bool (pend g').isNone∧L'=H g'∧I g' s3:=by
 have hn:=hA.1
 have hc1:=hA.2.1
 have hc2:=hA.2.2.1
 refine qd4 (fn:=f81) qaq func81 V Z ntmps81 Z (rs:=[.tmp 6]) Z [(0,_),(1,_),(2,_)] Z<|Ys<|Yr<|Yqa Z Z<|Yn<|Yt<|Ys<|Ys<|Yr<|Yqm Z Z<|qwn Z Z Z Z<|Yqm Z Z<|Yn<|Yt<|Yp<|?_
 refine qlZ (γ:=σ×Nat) (fun g=>[(0,_),(1,_),(2,_),(6,_),(11,_),(12,.int .i64 (g.2:Int))]) (fun g=>H g.1) (fun g tw=>Le D s tw∧(g.2≤n∧I g.1 tw∧pend g.1=none∧cnt g.1+(qcn (xs.drop g.2) lp).length≤B∧(∀ g',qgJ pend St g.1 (qcn (xs.drop g.2) lp) g'→qgJ pend St g0 (qcn xs lp) g'))) (fun g=>n - g.2) (fun _ _ _ h hl=>⟨h.1.trans hl,⟨h.2.1,mono _ _ _ h.2.2.1 hl,h.2.2.2⟩⟩) (g0,0) (.c6 Z Z Z Z Z Z (.nil _)) Z ⟨Le.refl _,⟨Nat.zero_le _,mono _ _ _ hI (Lr D),hp,hBn,fun g' h=>h⟩⟩ ?_
 intro g s1 I1
 obtain ⟨g,k⟩:=g
 obtain ⟨hk0,hIg,hpg,hbn,hrun⟩:=I1.2
 simp only at hk0 hIg hpg hbn hrun
 dsimp only
 refine Ys<|Yr<|qwZ Z Z Z<|Yn<|Yt<|Ys<|?_
 refine qig Z (fun c2=>?_) (fun c2=>?_)
 ·
  have hk:k < n:=by omega
  obtain ⟨e,b,off,x,A1,n1,p1,A2,n2,p2,A3,n3,p3,hd,rfl,hx,hcx,hax,hbx,hex,hnl⟩:=Stms.at_ (hA.le I1.1) hk
  have hn':=hax.1
  obtain ⟨hvx,_⟩:=qds hv hx
  obtain ⟨hlv,_,_,hvB,hvL⟩:=qdc hvx
  rw [qdK hx,List.length_cons,List.length_append,List.length_append,List.length_append] at hbn
  refine Yk<|Yt<|Ys<|Yp<|Ys<|Yr<|Yqm Z Z<|Yqa Z Z<|Yn<|Yt<|Ys<|Yr<|Yqm Z Z<|Yqm Z Z<|qcq (qap Z Z Z Z Z Z hk) Z<|Yqa Z Z<|Yn<|Yt<|Ys<|Ys<|Yr<|Yqm Z Z<|Yqm Z Z<|Yqm Z Z<|qcq (qam [(_,_),(_,_)] [_,_,_] Z Z Z Z Z Z) Z<|qkp Z Z Z (hY g (.st x lp) _ _ I1.1 (mono _ _ _ hIg (Lr D)) hpg O (NdV.mkS (hcx.le (Lr D)) hn')) ?_
  rintro _ _ s3 h3 ⟨g1,hst,rfl,rfl,hI1⟩
  refine qqF Z Z<|Yqm Z Z<|?_
  refine qfZ (t:=24) Z (fun c4=>?_) (fun c4=>?_)
  ·
   refine Yf Z Z Z Z<|Yf Z Z Z Z<|Yf Z Z Z Z<|Yf Z Z Z Z<|Yf Z Z Z Z<|Yf Z Z Z Z<|Yf Z Z Z Z<|Yf Z Z Z Z<|YqT Z Z Z<|Yn<|Yt<|Yy Z<|?_
   have q33:=trivial
   refine Ys<|Yr<|Yqa Z Z<|Yn<|Yt<|Yo<|Yu<|Yc<|Yu<|Yu<|Yc<|Yu<|?_
   refine qcb [] _ (.inr Z) (.t1 Z) Z (I1.1.t h3) ⟨[],Z,List.nil_sublist _⟩ fun _ hS2=>?_
   exact ⟨g1,hrun g1 (by rw [qdK hx];exact ⟨g1,hst,by rw [if_neg (by rw [show (pend g1).isNone=false by assumption];decide)]⟩),(show qaA [Value.bool false]=.bool (pend g1).isNone by rw [show (pend g1).isNone=false by assumption];rfl),rfl,mono _ _ _ hI1 ((Lr D).t hS2)⟩
  refine Yg Z Z<|Yqm Z Z<|Yg Z Z<|quq Z Z<|Yg Z Z<|qcq (qbf Z Z Z Z) Z<|Yg Z Z<|qcq (qaC 2 Z Z Z (hcx.le h3) Z) Z<|Yg Z Z<|Yqm Z Z<|Yg Z Z<|Yqm Z Z<|Yg Z Z<|Rc9 Z Z Z (ixc D e _ σ H I pend St l g1 cnt B hcn mono (fun g nd nv s9 hl=>hY g nd nv s9 (I1.1.t h3|>.t hl)) (mono _ _ _ hI1 (Lr D)) (Option.isNone_iff_eq_none.1 As) A1 n1 p1 x.exprs lp (hax.le h3) (by have e1:=hcn _ _ _ hst;omega)) ?_
  rintro _ _ s5 h5 ⟨g2,hr2,rfl,rfl,hI2⟩
  refine Yg Z Z<|qqF Z Z<|YqF Z Z Z<|Yn<|Yt<|?_
  refine qkk Z (fun c6=>?_) (fun c6=>?_)
  ·
   have q33:=c6
   refine Ys<|Yr<|Yqa Z Z<|Yn<|Yt<|Yo<|Yu<|Yc<|Yu<|Yu<|Yc<|Yu<|?_
   refine qcb [] _ (.inr Z) (.t1 Z) Z (I1.1.t h3|>.t h5) ⟨[],Z,List.nil_sublist _⟩ fun _ hS2=>?_
   exact ⟨g2,hrun g2 (by rw [qdK hx];exact ⟨g1,hst,by rw [if_pos As];exact qcQ As (qcQ As hr2 As) As⟩),(show qaA [Value.bool false]=.bool (pend g2).isNone by rw [show (pend g2).isNone=false by assumption];rfl),rfl,mono _ _ _ hI2 ((Lr D).t hS2)⟩
  have q33:=c6
  refine Yk<|Yt<|Ys<|Yr<|Yqm Z Z<|Yqa Z Z<|Yn<|Yt<|Ys<|Ys<|Yr<|Yqm Z Z<|quq Z Z<|qwr Z Z Z Z Z<|qcq (qaj Z Z Z (hcx.le (h3.t h5)) Z) Z<|Yqeq Z Z Z<|Yn<|Yt<|?_
  refine qig Z (fun c7=>?_) (fun c7=>?_)
  ·
   have hlI:lpI x lp=lp+1:=if_pos c7
   have hlI2:lpI x lp≤lv+1:=by omega
   refine Yr<|Yqm Z Z<|qcq (qaX Z Z (show IntKind.i64.wrap ((lp:Int)+1)=((lpI x lp:Nat):Int) by rw [w64 O O];omega)) Z<|Yqa Z Z<|Yn<|Yt<|Ys<|Yr<|Yqm Z Z<|quq Z Z<|qcq (qbf Z Z Z Z) Z<|qcq (qaC 3 Z Z Z (hcx.le (h3.t h5)) Z) Z<|Yqm Z Z<|Yqm Z Z<|?_
   refine Rc9 Z Z Z (ih e hd _ σ H I pend St l g2 cnt B hcn mono (fun g nd nv s9 hl=>hY g nd nv s9 (I1.1.t h3|>.t h5|>.t hl)) (mono _ _ _ hI2 (Lr D)) (Option.isNone_iff_eq_none.1 As) A2 n2 p2 x.body (lpI x lp) (lv+1) (hbx.le (h3.t h5)) hvB hlI2 (by have e1:=hcn _ _ _ hst;have e2:=qcv hcn hr2;omega)) ?_
   rintro _ _ s8 h8 ⟨g3,hr3,rfl,rfl,hI3⟩
     
   refine qqF Z Z<|Yqm Z Z<|?_
   refine qfZ (t:=50) Z (fun c9=>?_) (fun c9=>?_)
   ·
    refine Yf Z Z Z Z<|Yf Z Z Z Z<|Yf Z Z Z Z<|Yf Z Z Z Z<|Yf Z Z Z Z<|Yf Z Z Z Z<|Yf Z Z Z Z<|Yf Z Z Z Z<|YqT Z Z Z<|Yn<|Yt<|Yy Z<|?_
    have q59:=trivial
    refine Ys<|Yr<|Yqa Z Z<|Yn<|Yt<|Yo<|Yc<|Yu<|Yu<|Yc<|Yu<|?_
    refine qcb [] _ (.inr Z) (.t1 Z) Z (I1.1.t h3|>.t h5|>.t h8) ⟨[],Z,List.nil_sublist _⟩ fun _ hS2=>?_
    exact ⟨g3,hrun g3 (by rw [qdK hx];exact ⟨g1,hst,by rw [if_pos As];exact qcQ As (qcT As hr2 As (qcQ As hr3 As)) As⟩),(show qaA [Value.bool false]=.bool (pend g3).isNone by rw [show (pend g3).isNone=false by assumption];rfl),rfl,mono _ _ _ hI3 ((Lr D).t hS2)⟩
   refine Yg Z Z<|Yqm Z Z<|Yg Z Z<|quq Z Z<|Yg Z Z<|qcq (qbf Z Z Z Z) Z<|Yg Z Z<|qcq (qaC 4 Z Z Z (hcx.le (h3.t h5|>.t h8)) Z) Z<|Yg Z Z<|Yqm Z Z<|Yg Z Z<|Yqm Z Z<|Yg Z Z<|Rc9 Z Z Z (ih e hd _ σ H I pend St l g3 cnt B hcn mono (fun g nd nv s9 hl=>hY g nd nv s9 (I1.1.t h3|>.t h5|>.t h8|>.t hl)) (mono _ _ _ hI3 (Lr D)) (Option.isNone_iff_eq_none.1 As) A3 n3 p3 x.els (lpI x lp) (lv+1) (hex.le (h3.t h5|>.t h8)) hvL hlI2 (by have e1:=hcn _ _ _ hst;have e2:=qcv hcn hr2;have e3:=qcv hcn hr3;omega)) ?_
   rintro _ _ s10 h10 ⟨g4,hr4,rfl,rfl,hI4⟩
      
   refine Yg Z Z<|qqF Z Z<|YqF Z Z Z<|Yn<|Yt<|?_
   refine qkk Z (fun c11=>?_) (fun c11=>?_)
   ·
    have q59:=c11
    refine Ys<|Yr<|Yqa Z Z<|Yn<|Yt<|Yo<|Yc<|Yu<|Yu<|Yc<|Yu<|?_
    refine qcb [] _ (.inr Z) (.t1 Z) Z (I1.1.t h3|>.t h5|>.t h8|>.t h10) ⟨[],Z,List.nil_sublist _⟩ fun _ hS2=>?_
    exact ⟨g4,hrun g4 (by rw [qdK hx];exact ⟨g1,hst,by rw [if_pos As];exact qcQ As (qcT As hr2 As (qcT As hr3 As hr4)) As⟩),(show qaA [Value.bool false]=.bool (pend g4).isNone by rw [show (pend g4).isNone=false by assumption];rfl),rfl,mono _ _ _ hI4 ((Lr D).t hS2)⟩
   have q59:=c11
   refine Yk<|Yb<|Yt<|Yr<|qmJ Z Z Z (w64 O O)<|Yqm Z Z<|Yn<|?_
   refine qgA ⟨Z,(g4,k+1),[],(.c6 Z Z Z Z Z Z (.nil _)),Z,⟨(I1.1.t h3|>.t h5|>.t h8|>.t h10),⟨by simp only;omega,mono _ _ _ hI4 (Lr D),(Option.isNone_iff_eq_none.1 As),by have e1:=hcn _ _ _ hst;have e2:=qcv hcn hr2;have e3:=qcv hcn hr3;have e4:=qcv hcn hr4;simp only;omega,fun g' h=>hrun g' (by rw [qdK hx];exact ⟨g1,hst,by rw [if_pos As];exact qcT As (qcT As hr2 As (qcT As hr3 As hr4)) As h⟩)⟩⟩,Oz⟩
  have hlI:lpI x lp=lp:=if_neg c7
  have hlI2:lpI x lp≤lv+1:=by omega
  refine Yk<|Yt<|Ys<|Yr<|Yqm Z Z<|quq Z Z<|qcq (qbf Z Z Z Z) Z<|qcq (qaC 3 Z Z Z (hcx.le (h3.t h5)) Z) Z<|Yqm Z Z<|Yqm Z Z<|Rc9 Z Z Z ((by have h9:=ih e hd _ σ H I pend St l g2 cnt B hcn mono (fun g nd nv s9 hl=>hY g nd nv s9 (I1.1.t h3|>.t h5|>.t hl)) (mono _ _ _ hI2 (Lr D)) (Option.isNone_iff_eq_none.1 As) A2 n2 p2 x.body (lpI x lp) (lv+1) (hbx.le (h3.t h5)) hvB hlI2 (by have e1:=hcn _ _ _ hst;have e2:=qcv hcn hr2;omega);rw [hlI] at h9;exact h9)) ?_
  rintro _ _ s12 h12 ⟨g3,hr3,rfl,rfl,hI3⟩
  rw [← hlI] at hr3
  refine qqF Z Z<|Yqm Z Z<|?_
  refine qfZ (t:=50) Z (fun c13=>?_) (fun c13=>?_)
  ·
   refine Yf Z Z Z Z<|Yf Z Z Z Z<|Yf Z Z Z Z<|Yf Z Z Z Z<|Yf Z Z Z Z<|Yf Z Z Z Z<|Yf Z Z Z Z<|Yf Z Z Z Z<|YqT Z Z Z<|Yn<|Yt<|Yy Z<|?_
   have q59:=trivial
   refine Ys<|Yr<|Yqa Z Z<|Yn<|Yt<|Yo<|Yc<|Yu<|Yu<|Yc<|Yu<|?_
   refine qcb [] _ (.inr Z) (.t1 Z) Z (I1.1.t h3|>.t h5|>.t h12) ⟨[],Z,List.nil_sublist _⟩ fun _ hS2=>?_
   exact ⟨g3,hrun g3 (by rw [qdK hx];exact ⟨g1,hst,by rw [if_pos As];exact qcQ As (qcT As hr2 As (qcQ As hr3 As)) As⟩),(show qaA [Value.bool false]=.bool (pend g3).isNone by rw [show (pend g3).isNone=false by assumption];rfl),rfl,mono _ _ _ hI3 ((Lr D).t hS2)⟩
  refine Yg Z Z<|Yqm Z Z<|Yg Z Z<|quq Z Z<|Yg Z Z<|qcq (qbf Z Z Z Z) Z<|Yg Z Z<|qcq (qaC 4 Z Z Z (hcx.le (h3.t h5|>.t h12)) Z) Z<|Yg Z Z<|Yqm Z Z<|Yg Z Z<|Yqm Z Z<|Yg Z Z<|?_
  refine Rc9 Z Z Z ((by have h9:=ih e hd _ σ H I pend St l g3 cnt B hcn mono (fun g nd nv s9 hl=>hY g nd nv s9 (I1.1.t h3|>.t h5|>.t h12|>.t hl)) (mono _ _ _ hI3 (Lr D)) (Option.isNone_iff_eq_none.1 As) A3 n3 p3 x.els (lpI x lp) (lv+1) (hex.le (h3.t h5|>.t h12)) hvL hlI2 (by have e1:=hcn _ _ _ hst;have e2:=qcv hcn hr2;have e3:=qcv hcn hr3;omega);rw [hlI] at h9;exact h9)) ?_
  rintro _ _ s14 h14 ⟨g4,hr4,rfl,rfl,hI4⟩
  rw [← hlI] at hr4
  refine Yg Z Z<|qqF Z Z<|YqF Z Z Z<|Yn<|Yt<|?_
  refine qkk Z (fun c15=>?_) (fun c15=>?_)
  ·
   have q59:=c15
   refine Ys<|Yr<|Yqa Z Z<|Yn<|Yt<|Yo<|Yc<|Yu<|Yu<|Yc<|Yu<|?_
   refine qcb [] _ (.inr Z) (.t1 Z) Z (I1.1.t h3|>.t h5|>.t h12|>.t h14) ⟨[],Z,List.nil_sublist _⟩ fun _ hS2=>?_
   exact ⟨g4,hrun g4 (by rw [qdK hx];exact ⟨g1,hst,by rw [if_pos As];exact qcQ As (qcT As hr2 As (qcT As hr3 As hr4)) As⟩),(show qaA [Value.bool false]=.bool (pend g4).isNone by rw [show (pend g4).isNone=false by assumption];rfl),rfl,mono _ _ _ hI4 ((Lr D).t hS2)⟩
  have q59:=c15
  refine Yk<|Yb<|Yt<|Yr<|qmJ Z Z Z (w64 O O)<|Yqm Z Z<|Yn<|?_
  refine qgA ⟨Z,(g4,k+1),[],(.c6 Z Z Z Z Z Z (.nil _)),Z,⟨(I1.1.t h3|>.t h5|>.t h12|>.t h14),⟨by simp only;omega,mono _ _ _ hI4 (Lr D),(Option.isNone_iff_eq_none.1 As),by have e1:=hcn _ _ _ hst;have e2:=qcv hcn hr2;have e3:=qcv hcn hr3;have e4:=qcv hcn hr4;simp only;omega,fun g' h=>hrun g' (by rw [qdK hx];exact ⟨g1,hst,by rw [if_pos As];exact qcT As (qcT As hr2 As (qcT As hr3 As hr4)) As h⟩)⟩⟩,Oz⟩
 rw [List.drop_eq_nil_of_le O,qcn] at hrun
 refine Yl<|Yv<|Yv<|Yd<|Yt<|Ys<|Yr<|Yqa Z Z<|Yn<|Yt<|Yo<|?_
 refine qcb [] _ (.inr Z) (.t1 Z) Z I1.1 ⟨[],Z,List.nil_sublist _⟩ fun _ hS2=>?_
 exact ⟨g,hrun g rfl,by rw [hpg];rfl,rfl,mono _ _ _ hIg ((Lr D).t hS2)⟩
theorem isc(D:Nat):∀ d,ISC D d
 | 0=>fun s σ H I pend St l g0 cnt B hcn mono hY hI hp A n c xs lp lv hA hv hlp hBn=>qmi D 0 (fun e h=>by omega) s σ H I pend St l g0 cnt B hcn mono hY hI hp A n c xs lp lv hA hv hlp hBn
 | d+1=>fun s σ H I pend St l g0 cnt B hcn mono hY hI hp A n c xs lp lv hA hv hlp hBn=>qmi D (d+1) (fun e h=>(show d=e by omega)▸isc D d) s σ H I pend St l g0 cnt B hcn mono hY hI hp A n c xs lp lv hA hv hlp hBn
theorem qm5(D:Nat)(s:World)(σ:Type)(H:σ→Hl)(I:σ→World→Prop)(pend:σ→Option Code)(Sr:σ→Nd→σ→Prop)(l:Nat)(g0:σ)(cnt:σ→Nat)(B:Nat)(hcn:∀ g nd g1,Sr g nd g1→cnt g1≤cnt g+1)(mono:∀ g s s',I g s→Le D s s'→I g s')(hY:∀ g nd nv s',Le D s s'→I g s'→pend g=none→cnt g < B→NdV s' nd nv→YC prog D l [nv] (H g) s' fun v L' s3=>∃ g1,Sr g nd g1∧v=.bool (pend g1).isNone∧L'=H g1∧I g1 s3)(hI:I g0 s)(hp:pend g0=none)(b d:Nat)(x:Fnc)(A1 A2 A3:Option Addr)(n1 q1 n2 q2 n3 q3:Nat)(hcb:CellsAt s b 0 [St x.name,.slice A1 n1 q1,.slice A2 n2 q2,.slice A3 n3 q3])(hB:Stms d s A3 n3 q3 x.body)(hv:qdU x.body 1=true)(hBn:cnt g0+(qcn x.body 0).length≤B):AC prog D 80 [.func (.yield l) #[] #[],.pointer (some ⟨b,0,none⟩)] (H g0) s fun _ L' s3=>∃ g',qgJ pend Sr g0 (qcn x.body 0) g'∧L'=H g'∧I g' s3:=by
 refine qd4 (fn:=f80) qaq func80 V Z ntmps80 Z (rs:=[]) Z [(0,_),(1,_)] Z<|Yr<|qcq (qbf Z Z Z Z) Z<|qcq (qaC 3 Z Z Z (hcb.le (Lr D)) Z) Z<|Yqm Z Z<|Rc9 Z Z Z (isc D d _ σ H I pend Sr l g0 cnt B hcn mono (fun g nd nv s9 hl=>hY g nd nv s9 ((Lr D).t hl)) (mono _ _ _ hI (Lr D)) hp A3 n3 q3 x.body 0 1 (hB.le (Lr D)) hv O hBn) ?_
 rintro _ _ s1 h1 ⟨g2,hr2,rfl,rfl,hI2⟩
 refine Yn ?_
 refine qcb [] _ (.inl Z) (.nil) Z h1 ⟨[],Z,List.nil_sublist _⟩ fun _ hS2=>?_
 exact ⟨g2,hr2,rfl,mono _ _ _ hI2 ((Lr D).t hS2)⟩
theorem qrr(D:Nat)(L:Hl)(s:World)(x:Fnc)(A1 A2 A3:Option Addr)(n1 q1 n2 q2 n3 q3:Nat):AC prog D 45 [.agg #[St x.name,.slice A1 n1 q1,.slice A2 n2 q2,.slice A3 n3 q3]] L s fun v L' _=>∃ M',L'=M'++L∧∃ b,M'=[(b,cb [St x.name,.slice A1 n1 q1,.slice A2 n2 q2,.slice A3 n3 q3] 57)]∧v=.func (.func 80) #[] #[.pointer (some ⟨b,0,none⟩)]:=by
 refine qai (fn:=f45) qaq func45 V Z ntmps45 Z (rs:=[.tmp 2]) Z [(0,_)] Z<|Sr<|qau Z Z ?_
 intro β1 s1 h1
 refine At Z Z<|Sr<|qaf (qbn Z) Z<|At Z Z<|Zo<|?_
 refine rR [] _ (.t1 Z) Z h1 fun _ hS2=>?_
 exact ⟨[_],rfl,_,rfl,rfl⟩
theorem qnU(D:Nat)(L:Hl)(s:World)(d:Nat)(p:Prg)(Ag Af:Option Addr)(ng cg nf cf:Nat)(hGl:Glos s Ag ng cg p.globals)(hFn:Fncs d s Af nf cf p.funcs)(bm:Nat)(hM:NmOK s bm p)(x:Fnc)(A1 A2 A3:Option Addr)(n1 q1 n2 q2 n3 q3:Nat)(hs1:Strs s A1 n1 q1 x.params)(hs2:Strs s A2 n2 q2 x.locals)(nd:Nd)(nv:Value)(hN:NdV s nd nv):AC prog D 46 [.agg #[.slice Ag ng cg,.slice Af nf cf,.map (some bm)],.agg #[St x.name,.slice A1 n1 q1,.slice A2 n2 q2,.slice A3 n3 q3],nv] L s fun v L' _=>v=.int .i64 (ndC p x nd)∧L=L':=by
 cases nd with
 | st y lp=>
  obtain ⟨b,o,C1,r1,e1,C2,r2,e2,C3,r3,e3,rfl,hy,hr⟩:=hN
  exact quf D L s d p Ag Af ng cg nf cf hGl hFn bm hM x A1 A2 A3 n1 q1 n2 q2 n3 q3 hs1 hs2 y b o C1 C2 C3 r1 e1 r2 e2 r3 e3 hy hr lp
 | ex y lp=>
  obtain ⟨b,o,C1,r1,e1,rfl,hy,hr⟩:=hN
  exact qrX D L s d p Ag Af ng cg nf cf hGl hFn bm hM x A1 A2 A3 n1 q1 n2 q2 n3 q3 hs1 hs2 y b o C1 r1 e1 hy hr lp
theorem qmN:∀ {l:List Glo} {seen:List Str} {i:Nat},seen.Nodup→qfl l seen i=(0,0)→(seen++l.map Glo.name).Nodup
  | [],seen,_,h,_=>by simpa using h
  | g::r,seen,i,h,h0=>by
    rw [qfl] at h0
    split at h0
    · cases h0
    · rename_i h1
      have:=qmN (l:=r) (seen:=seen++[g.name]) (by
        rw [List.nodup_append]
        refine ⟨h,by simp,fun a ha b hb=>?_⟩
        rw [List.mem_singleton] at hb;subst hb
        intro e;subst e;exact h1 ha) h0
      simpa using this
theorem qlN:∀ {l:List Fnc} {seen:List Str} {i:Nat},seen.Nodup→qfi l seen i=(0,0)→(seen++l.map Fnc.name).Nodup∧∀ x∈l,(x.params++x.locals).Nodup
  | [],seen,_,h,_=>⟨by simpa using h,fun x hx=>by cases hx⟩
  | g::r,seen,i,h,h0=>by
    rw [qfi] at h0
    split at h0
    · cases h0
    · rename_i h1
      have:=qlN (l:=r) (seen:=seen++[g.name]) (by
        rw [List.nodup_append]
        refine ⟨h,by simp,fun a ha b hb=>?_⟩
        rw [List.mem_singleton] at hb;subst hb
        intro e;subst e;exact h1 (.inl ha)) h0
      refine ⟨by simpa using this.1,fun x hx=>?_⟩
      rcases List.mem_cons.1 hx with rfl | hx
      · exact Decidable.not_not.1 fun h2=>h1 (.inr h2)
      · exact this.2 x hx
theorem qc5{p:Prg}(h:(qb2 p).1=0):((ents p).map (·.1)).Nodup∧∀ x∈p.funcs,(x.params++x.locals).Nodup:=by
 unfold qb2 at h
 split at h
 · rename_i h1;exact absurd h h1
 rename_i h1
 split at h
 · rename_i h2;exact absurd h h2
 rename_i h2
 have e1:=qmN (l:=p.globals) (seen:=[]) (i:=0) (by simp) ((qmw (p:=p)).1 (by simpa using h1))
 have e2:=qlN (l:=p.funcs) (seen:=p.globals.map Glo.name) (i:=p.globals.length) (by simpa using e1) ((qmw (p:=p)).2 (by simpa using h2))
 refine ⟨?_,e2.2⟩
 have:(ents p).map (·.1)=p.globals.map Glo.name++p.funcs.map Fnc.name:=by
  rw [ents,List.map_append]
  congr 1 <;> (apply List.ext_getElem <;> simp)
 rw [this];exact e2.1
end Go.Proofs.YtpdnijphccdiiaaGreatDoor
namespace Go.FL
open Go Go.RowKit
theorem qn2(A R:Hl)(l:Nat)(o o':Obj):qdV (A++(l,o)::R) A.length o'=A++(l,o')::R:=by
 induction A with
 | nil=>rfl
 | cons x A ih=>show x::qdV (A++(l,o)::R) A.length o'=_;rw [ih];rfl
section calls
variable{P:Program}{TT:qaV}{D n:Nat}{Q:qdE}{ds:List Deferred}{fr:Fr}{L:Hl}{s:World}
section range
variable{σ α:Type}(H:σ→Hl)(I:σ→World→Prop)(pend:σ→Option Code)(St:σ→α→σ→Prop)(enc:α→List Value)(Pre:σ→α→World→Prop)(Fin:σ→Prop)
theorem qiF{AR:α→Fr→Hl→Prop}{g:Operand}{ps:List Nat}{assign body:Code}{fi:FuncId}{cap:List Value}(hg:lk fr g=some (.func (.func fi) #[] cap.toArray))(g0:σ)(hL:L=H g0)(hI0:I g0 s)(hp0:pend g0=none)
    (mono:∀ g s s',I g s→Le D s s'→I g s') (hpd:∀ g,pend g=none∨pend g=some .ret∨∃ id,pend g=some (.exit id))
    (hps:∀ p,(enc p).length=ps.length) (hpn:ps.all (fun t=>Nat.blt t n)=true)
    (hassign:∀ (l:Nat) (p:α) (L':Hl) (s':World),RC P TT D n (some l) (fun e ds' fr' L1 s1=>e=.normal∧ds'=[]∧(∃ A,AR p fr' A∧L1=A++L')∧Le D s' s1) assign [] (qq4 fr ps (enc p)) L' s')
    (hbody:∀ (l dk:Nat) (o1 o2:Obj) (g:σ) (p:α) (s' s0:World) (fr1:Fr) (A1:Hl),Le D s s'→Le D s' s0→I g s'→pend g=none→Pre g p s'→AR p fr1 A1 →
      RC P TT D n (some l) (fun e _ _ L1 s1=>∃ g1,St g p g1∧jmp e=some (pend g1)∧∃ A,L1=A++((l,o1)::(dk,o2)::H g1)∧Le D s0 s1∧I g1 s1) body [] fr1 (A1++((l,o1)::(dk,o2)::H g)) s0)
    (hit:∀ (l:Nat) (HH:σ→Hl) (s':World),Le D s s'→(∀ g p s'',Le D s s''→I g s''→pend g=none→Pre g p s''→YC P D l (enc p) (HH g) s'' fun v L' s3=>∃ g1,St g p g1∧v=.bool (pend g1).isNone∧L'=HH g1∧I g1 s3) →
      AC P D fi (.func (.yield l) #[] #[]::cap) (HH g0) s' fun _ L' s3=>∃ g',Fin g'∧L'=HH g'∧I g' s3)
    (hpost:∀ (dk:Nat) (g':σ) (s3:World),Le D s s3→Fin g'→I g' s3→Q (qv6 (pend g')) (qgg dk::ds) fr ((dk,Obj.deferred (some []))::H g') s3) :
    RC P TT D n none Q (.rangeFunc g ps.toArray assign body) ds fr L s:=fun hT a hr ho=>by
  subst hL
  refine wpIn_rangeFunc ?_
  intro fn _
  have hro:(fro none).round=none:=rfl
  rw [hro]
  -- the two blocks
  obtain ⟨a1,a2,a3⟩:=qaJ ho (Obj.deferred (some []))
  obtain ⟨rec,hrec⟩:∃ rec:LoopState→Option Code→Loop,rec=fun st pe=>{ state:=st,pending:=pe,fn,tmps:=a.tmps,params:=ps.toArray,assign,body,defers:=(fill (H g0) s).heap.size }:=⟨_,rfl⟩
  obtain ⟨b1,b2,b3⟩:=qaJ a2 (Obj.loop (rec .ready none))
  obtain ⟨dk,hdk⟩:∃ dk,dk=s.heap.size:=⟨_,rfl⟩
  obtain ⟨l,hl⟩:∃ l,l=(s.alloc (dum D)).heap.size:=⟨_,rfl⟩
  rw [← hdk,← hl] at b1 b2
  rw [← hdk] at a1
  have hfs:(fill (H g0) s).heap.size=dk:=by rw [qaB,hdk]
  obtain ⟨HH,hHH⟩:∃ HH:σ→Hl,HH=fun g=>(l,Obj.loop (rec (if (pend g).isNone then .ready else .done) (pend g)))::(dk,Obj.deferred (some []))::H g:=⟨_,rfl⟩
  have hst0:HH g0=(l,Obj.loop (rec .ready none))::(dk,Obj.deferred (some []))::H g0:=by rw [hHH];simp only [hp0,Option.isNone_none,if_true]
  obtain ⟨s2,hs2⟩:∃ s2,s2=(s.alloc (dum D)).alloc (dum D):=⟨_,rfl⟩
  rw [← hs2] at b1 b2 b3
  have hle2:Le D s s2:=a3.trans b3
  -- a round
  have hY:∀ g p s'',Le D s s''→I g s''→pend g=none→Pre g p s''→YC P D l (enc p) (HH g) s'' fun v L' s3=>∃ g1,St g p g1∧v=.bool (pend g1).isNone∧L'=HH g1∧I g1 s3:=by
    intro g p s'' hls hI hpn0 hPre hoY
    have eH:HH g=(l,Obj.loop (rec .ready none))::(dk,Obj.deferred (some []))::H g:=by rw [hHH];simp only [hpn0,Option.isNone_none,if_true]
    rw [eH] at hoY ⊢
    have hrl:(fill ((l,Obj.loop (rec .ready none))::(dk,Obj.deferred (some []))::H g) s'').heap[l]?=some (.loop (rec .ready none)):=qa2 hoY Mc
    have hsz:((enc p).toArray).size=(rec .ready none).params.size:=by rw [hrec];simp [hps p]
    refine ⟨_,_,_,_,run_yield hrl hsz,?_⟩
    have hro2:RoundIn (fro none) 0 P l (rec .ready none).fn (((rec .ready none).params.zip (enc p).toArray).foldl (fun tmps x=>tmps.setIfInBounds x.1 x.2) (rec .ready none).tmps) (rec .ready none).assign (rec .ready none).body (fill ((l,Obj.loop (rec .ready none))::(dk,Obj.deferred (some []))::H g) s'') fun e w'=>∃ v L' s',e=.returned v∧w'=fill L' s'∧OKL D L' s'∧Le D s'' s'∧(∃ g1,St g p g1∧v=.bool (pend g1).isNone∧L'=HH g1∧I g1 s'):=by
      refine roundIn_of_wpIn Tt ?_
      have e1:(rec .ready none).assign=assign:=by rw [hrec]
      have e2:(rec .ready none).body=body:=by rw [hrec]
      have e3:((rec .ready none).params.zip (enc p).toArray).foldl (fun tmps x=>tmps.setIfInBounds x.1 x.2) (rec .ready none).tmps=(ps.zip (enc p)).foldl (fun tmps x=>tmps.setIfInBounds x.1 x.2) a.tmps:=by
        rw [hrec];simp
      rw [e1,e2,e3]
      have hfr:FrD [] n { tmps:=(ps.zip (enc p)).foldl (fun tmps x=>tmps.setIfInBounds x.1 x.2) a.tmps,defers:=[] } (qq4 fr ps (enc p)):=by
        refine ⟨qlb n (ps.zip (enc p)) fr a hr.rel ?_,Z⟩
        rw [List.all_eq_true] at hpn ⊢
        intro x hx
        exact hpn x.1 (List.of_mem_zip hx).1
      refine wpIn_mono (hassign l p _ s'' hT _ hfr hoY) ?_
      rintro e a1 w1 ⟨ds1,fr1,L1,s1,k1,k2,rfl,rfl,rfl,⟨A1,k3,rfl⟩,k4⟩
      -- the round begins
      have hrl1:(fill (A1++((l,Obj.loop (rec .ready none))::(dk,Obj.deferred (some []))::H g)) s1).heap[l]?=some (.loop (rec .ready none)):=qa2 k2 (List.mem_append_right _ Mc)
      have hst:(rec .ready none).state=.ready:=by rw [hrec]
      refine ⟨_,run_beginRound hrl1 hst,?_⟩
      obtain ⟨ob,hob⟩:∃ ob,ob=Obj.loop { rec .ready none with state:=.busy }:=⟨_,rfl⟩
      rw [qdH,← hob,← qcO k2 (i:=A1.length) (p:=Obj.loop (rec .ready none)) (by simp) ob]
      have ho3:=qdX k2 A1.length ob
      rw [qn2] at ho3 ⊢
      refine wpIn_mono (hbody l dk ob (Obj.deferred (some [])) g p s'' s1 fr1 A1 hls k4 hI hpn0 hPre k3 hT _ k1 ho3) ?_
      rintro e2 a2 w2 ⟨ds2,fr2,L2,s2',j1,j2,rfl,g1,jst,jj,A,rfl,jle,jI⟩
      obtain ⟨d1,d2,d3⟩:=qbc j2
      have hend:∀ j:Option Code,pend g1=j→∃ v w',(Instr.endRound l j).run P (fill (A++((l,ob)::(dk,Obj.deferred (some []))::H g1)) s2')=.ok v w'∧(∃ v' L' s',Ending.returned v=.returned v'∧w'=fill L' s'∧OKL D L' s'∧Le D s'' s'∧(∃ g1,St g p g1∧v'=.bool (pend g1).isNone∧L'=HH g1∧I g1 s')):=by
        intro j hj
        have hrl2:(fill ((l,ob)::(dk,Obj.deferred (some []))::H g1) (fill A s2')).heap[l]?=some (.loop { rec .ready none with state:=.busy }):=by rw [qa2 d2 Mc,hob]
        rw [d1]
        refine ⟨_,_,run_endRound j hrl2,_,HH g1,fill A s2',Z,?_,?_,k4.trans (jle.trans d3),g1,jst,by rw [hj],Z,mono _ _ _ jI d3⟩
        · rw [qdH,← qcO d2 (i:=0) rfl]
          simp only [qdV,hHH,hj]
          congr 3
          rw [hrec]
        · have:=qdX d2 0 (Obj.loop (rec (if (pend g1).isNone then .ready else .done) (pend g1)))
          simp only [qdV] at this
          rw [hHH];exact this
      cases e2 with
      | normal=>exact hend none (by simpa [jmp] using jj.symm)
      | ret=>exact hend (some .ret) (by simpa [jmp] using jj.symm)
      | exit id=>exact hend (some (.exit id)) (by simpa [jmp] using jj.symm)
      | goto t=>cases jj
      | panic c=>cases jj
      | outgrown=>cases jj
    exact hro2
  have hAC:=hit l HH s2 hle2 hY
  obtain ⟨⟨fn0,h1,h2,h3⟩,hc⟩:=hAC
  have h2':¬ fn0.name = "runtime.NumGoroutine" := by simpa using h2
  have h3':¬ fn0.body=none:=by intro e;simp [e] at h3
  have hev:=hr.ev hg
  have hworld:((fill (H g0) s).alloc (.deferred (some []))).alloc (.loop (rec .ready none))=fill (HH g0) s2:=by rw [hst0,← b1,← a1]
  have hen:(Instr.enterLoop fn a.tmps ps.toArray assign body none).run P (fill (H g0) s)=.ok (l,[qgg dk]) (fill (HH g0) s2):=by
    rw [run_enterLoop_outer,← hworld]
    have e1:(fill (H g0) s).heap.size+1=l:=by rw [hfs,hl,World.size_alloc,hdk]
    rw [e1,qgg,← hfs,hrec]
  refine ⟨l,[qgg dk],fill (HH g0) s2,{ target:=.fn (.func fi) cap.toArray,args:=#[.func (.yield l) #[] #[]] },fill (HH g0) s2,fi,(.func (.yield l) #[] #[]::cap).toArray,fill (HH g0) s2,hen,?_,fun f _=>qfy none f,?_,qe2 none 0,?_⟩
  · simp only [resolve,hev]
    simp [go_sem]
  · simp [invoke,callFunc,h1,h2',h3']
  · have hoH:OKL D (HH g0) s2:=by rw [hst0];exact b2
    refine (qgj none _ (hc hoH)).mono ?_
    rintro e w' ⟨v,L',s3,rfl,rfl,q1,q2,g',q3,rfl,q4⟩
    have eH:HH g'=(l,Obj.loop (rec (if (pend g').isNone then .ready else .done) (pend g')))::(dk,Obj.deferred (some []))::H g':=by rw [hHH]
    rw [eH] at q1 ⊢
    have hrl:(fill ((l,Obj.loop (rec (if (pend g').isNone then .ready else .done) (pend g')))::(dk,Obj.deferred (some []))::H g') s3).heap[l]?=some (.loop (rec (if (pend g').isNone then .ready else .done) (pend g'))):=qa2 q1 Mc
    have hnb:(rec (if (pend g').isNone then .ready else .done) (pend g')).state≠.busy:=by
      rw [hrec];simp only;split <;> (intro h;cases h)
    have hpe:(rec (if (pend g').isNone then .ready else .done) (pend g')).pending=pend g':=by rw [hrec]
    have hrun:=run_endLoop (P:=P) hrl hnb
    rw [hpe] at hrun
    obtain ⟨oe,hoe⟩:∃ oe,(Instr.endLoop l).run P (fill ((l,Obj.loop (rec (if (pend g').isNone then .ready else .done) (pend g')))::(dk,Obj.deferred (some []))::H g') s3)=.ok (pend g') (qbk (fill ((l,Obj.loop (rec (if (pend g').isNone then .ready else .done) (pend g')))::(dk,Obj.deferred (some []))::H g') s3) l oe):=⟨_,hrun⟩
    refine ⟨pend g',_,hoe,?_⟩
    rw [← qcO q1 (i:=0) rfl oe]
    have ho4:=qdX q1 0 oe
    simp only [qdV] at ho4 ⊢
    obtain ⟨d1,d2,d3⟩:=qbc (A:=[(l,oe)]) (B:=(dk,Obj.deferred (some []))::H g') ho4
    simp only [cQ9,nQ9] at d1
    rw [d1]
    have hQ:=hpost dk g' (fill [(l,oe)] s3) (hle2.trans (q2.trans d3)) q3 (mono _ _ _ q4 d3)
    have hfr2:FrD (qgg dk::ds) n { a with defers:=[qgg dk]++a.defers } fr:=⟨hr.rel,by show [qgg dk]++a.defers=_;rw [hr.defers];rfl⟩
    rcases hpd g' with hp | hp | ⟨id,hp⟩
    · rw [hp] at hQ ⊢
      exact ⟨_,_,_,_,hfr2,d2,rfl,hQ⟩
    · rw [hp] at hQ ⊢
      exact wpIn_ret ⟨_,_,_,_,hfr2,d2,rfl,hQ⟩
    · rw [hp] at hQ ⊢
      exact wpIn_exit ⟨_,_,_,_,hfr2,d2,rfl,hQ⟩
end range
end calls
theorem qq7{P:Program}{TT:qaV}{D n:Nat}{ro:Option Nat}{Q:qdE}{c:Code}{ds:List Deferred}{fr fr':Fr}{L:Hl}{s:World}(h:Keeps fr fr')(k:RC P TT D n ro Q c ds fr' L s):RC P TT D n ro Q c ds fr L s:=fun ht a hr ho=>k ht a (hr.sub h) ho
theorem qrE{P:Program}{TT:qaV}{D n:Nat}{ro:Option Nat}{Q:qdE}{ds:List Deferred}{fr:Fr}{L L':Hl}{s:World}{c:Code}(hp:L.Perm L')(h:RC P TT D n ro Q c ds fr L' s):RC P TT D n ro Q c ds fr L s:=fun ht a hr ho=>by
 rw [qa4 hp _ ho]
 exact h ht a hr (ho.perm hp)
section
variable{P:Program}{TT:qaV}{D n:Nat}{ro:Option Nat}{Q:qdE}{ds:List Deferred}{fr:Fr}{L:Hl}{s:World}{ops:Array Oper}{rest:List Oper}{d ty:Nat}{pos:String}{af:Array Edge}{v:Value}
theorem qrq{t:Nat}{x:Operand}{zs:List Value}(hx:lk fr x=some v)(hz:qa7 v=zs)(hd:Nat.blt d n=true)
  (k:∀ β s',Le D s s'→RO P TT D n ro ops Q rest ds ((d,.pointer (some ⟨β,0,none⟩))::fr) ((β,cb zs t)::L) s'):RO P TT D n ro ops Q (⟨some d,.box t x,ty,pos,af,none⟩::rest) ds fr L s:=fun hT a hr ho=>
 qmr (by nofun) hd (qnq hx hz ho) (k _ _ (qaJ ho (cb zs t)).2.2) hT a hr ho
theorem qjs{t:Nat}{x:Operand}{zs:List Value}(hx:lk fr x=some (.agg zs.toArray))(hd:Nat.blt d n=true)
  (k:∀ β s',Le D s s'→RO P TT D n ro ops Q rest ds ((d,.pointer (some ⟨β,0,none⟩))::fr) ((β,cb zs t)::L) s'):RO P TT D n ro ops Q (⟨some d,.box t x,ty,pos,af,none⟩::rest) ds fr L s:=
 qrq hx (by simp [qa7]) hd k
end
end Go.FL
namespace Go.Proofs.YtpdnijphccdiiaaGreatDoor
open Go.FL
attribute [local irreducible] JC JO JA JB qaO qaD qbV AC fill CellsAt QE Ev Mid
theorem NdV.agg{s:World}{nd:Nd}{nv:Value}(h:NdV s nd nv):∃ (pa pb:Option Addr) (lp:Nat),nv=.agg #[.pointer pa,.pointer pb,.int .i64 (lp:Int)]:=by
 cases nd with
 | st y lp=>obtain ⟨b,o,C1,r1,e1,C2,r2,e2,C3,r3,e3,rfl,hy,hr⟩:=h;exact ⟨_,_,_,rfl⟩
 | ex y lp=>obtain ⟨b,o,C1,r1,e1,rfl,hy,hr⟩:=h;exact ⟨_,_,_,rfl⟩
theorem NdV.le{D:Nat}{s s':World}{nd:Nd}{nv:Value}(h:NdV s nd nv)(hl:Le D s s'):NdV s' nd nv:=by
 cases nd with
 | st y lp=>obtain ⟨b,o,C1,r1,e1,C2,r2,e2,C3,r3,e3,rfl,hy,hr⟩:=h;exact ⟨b,o,C1,r1,e1,C2,r2,e2,C3,r3,e3,rfl,hy.le hl,hr⟩
 | ex y lp=>obtain ⟨b,o,C1,r1,e1,rfl,hy,hr⟩:=h;exact ⟨b,o,C1,r1,e1,rfl,hy.le hl,hr⟩
theorem qf2:∀ (l:List Ex) (lp:Nat),(qek l lp).length=qdG l
 | [],_=>rfl
 | .mk k o n nm ar::r,lp=>by rw [qek,ndX,qdG,exN,List.length_append,List.length_cons,qf2 ar,qf2 r];omega
theorem qe9:∀ (l:List Stm) (lp:Nat),(qcn l lp).length=qcC l
 | [],_=>rfl
 | .mk k nm es b e::r,lp=>by rw [qcn,ndS,qcC,stN,List.length_append,List.length_cons,List.length_append,List.length_append,qf2 es,qe9 b,qe9 e,qe9 r];omega
def qfH(p:Prg)(x:Fnc):List Nd→Int
 | []=>0
 | n::r=>if ndC p x n=0 then qfH p x r else ndC p x n
def qiS(p:Prg):List Fnc→Nat→Int×Int
 | [],_=>(0,0)
 | x::r,i=>if qfH p x (qcn x.body 0)=0 then qiS p r (i+1) else (qfH p x (qcn x.body 0),(i:Int))
def qbM(p:Prg):Int×Int:=if (qd2 p).1≠0 then qd2 p else if (qb2 p).1≠0 then qb2 p else qiS p p.funcs p.globals.length
theorem qhQ{p:Prg}{l:List Fnc}{k i:Nat}{x:Fnc}(h:l[k]?=some x):qiS p (l.drop k) i=if qfH p x (qcn x.body 0)=0 then qiS p (l.drop (k+1)) (i+1) else (qfH p x (qcn x.body 0),(i:Int)):=by
 obtain ⟨hk,rfl⟩:=List.getElem?_eq_some_iff.1 h
 rw [List.drop_eq_getElem_cons hk,qiS]
theorem qio{p:Prg}{x:Fnc}:∀ {l:List Nd},qfH p x l=0→∀ nd∈l,ndC p x nd=0
  | [],_=>fun nd h=>by cases h
  | n::r,h=>fun nd hm=>by
    rw [qfH] at h
    split at h
    · rename_i h1
      rcases List.mem_cons.1 hm with rfl | hm
      · exact h1
      · exact qio h nd hm
    · rename_i h1;exact absurd h h1
theorem qiA{p:Prg}:∀ {l:List Fnc} {i:Nat},(qiS p l i).1=0→qiS p l i=(0,0)∧∀ x∈l,∀ nd∈qcn x.body 0,ndC p x nd=0
  | [],_,_=>⟨rfl,fun x h=>by cases h⟩
  | y::r,i,h=>by
    rw [qiS] at h ⊢
    split at h
    · rename_i h1
      obtain ⟨a,b⟩:=qiA h
      rw [if_pos h1]
      refine ⟨a,fun x hm=>?_⟩
      rcases List.mem_cons.1 hm with rfl | hm
      · exact qio h1
      · exact b x hm
    · rename_i h1;exact absurd h h1
theorem qkc{p:Prg}(h:(qb2 p).1=0):qb2 p=(0,0):=by
  unfold qb2 at h ⊢
  split at h
  · rename_i h1;exact absurd h h1
  rename_i h1
  rw [if_neg h1]
  split at h
  · rename_i h2;exact absurd h h2
  rename_i h2
  rw [if_neg h2]
  split at h
  · cases h
  rename_i h3
  rw [if_neg h3]
  split at h
  · split at h
    · rename_i h4;rw [if_pos h4]
    · cases h
  · rfl
def OKP(p:Prg):Prop:=PV p∧qb2 p=(0,0)∧∀ x∈p.funcs,∀ nd∈qcn x.body 0,ndC p x nd=0
theorem OKP.of{p:Prg}(hu:prU p)(h:(qbM p).1=0):OKP p∧qbM p=(0,0):=by
 unfold qbM at h ⊢
 split at h
 · rename_i h1;exact absurd h h1
 rename_i h1
 split at h
 · rename_i h2;exact absurd h h2
 rename_i h2
 rw [if_neg h1,if_neg h2]
 obtain ⟨a,b⟩:=qiA h
 exact ⟨⟨PV.of hu (qfd (by simpa using h1)),qkc (by simpa using h2),b⟩,a⟩
abbrev qpS(g:Option Int):Option Code:=g.map fun _=>.ret
abbrev stO(p:Prg)(x:Fnc)(nd:Nd)(g1:Option Int):Prop:=g1=if ndC p x nd=0 then none else some (ndC p x nd)
theorem qmH{p:Prg}{x:Fnc}:∀ {l:List Nd} {g':Option Int},qgJ qpS (fun _ nd g1=>stO p x nd g1) none l g'→g'=if qfH p x l=0 then none else some (qfH p x l)
  | [],g',h=>by
    have h:g'=none:=h
    rw [h,qfH,if_pos rfl]
  | n::r,g',⟨g1,h1,h2⟩=>by
    have h1:g1=if ndC p x n=0 then none else some (ndC p x n):=h1
    by_cases h3:ndC p x n=0
    · rw [if_pos h3] at h1;subst h1
      rw [show (qpS none).isNone=true from rfl,if_pos rfl] at h2
      rw [qfH,if_pos h3];exact qmH h2
    · rw [if_neg h3] at h1;subst h1
      rw [if_neg (by simp)] at h2
      subst h2
      rw [qfH,if_neg h3,if_neg h3]
theorem qqz(D:Nat)(L:Hl)(s:World)(x:Fnc)(A1 A2 A3:Option Addr)(n1 q1 n2 q2 n3 q3:Nat):AC Tryz.prog D 45 [.agg #[St x.name,.slice A1 n1 q1,.slice A2 n2 q2,.slice A3 n3 q3]] L s fun v L' s'=>L=L'∧∃ b,v=.func (.func 80) #[] #[.pointer (some ⟨b,0,none⟩)]∧CellsAt s' b 0 [St x.name,.slice A1 n1 q1,.slice A2 n2 q2,.slice A3 n3 q3]:=by
 refine (AC.pub (qrr D L s x A1 A2 A3 n1 q1 n2 q2 n3 q3)).mono ?_
 rintro v L1 s1 _ ⟨h1,M1,s2,⟨b,rfl,h3⟩,_,h5⟩
 exact ⟨h1,b,h3,h5 _ _ _ Mc⟩
theorem qdt(D:Nat)(L:Hl)(s:World)(hG:GP s)(d:Nat)(p:Prg)(Ag Af:Option Addr)(ng cg nf cf:Nat)(hGl:Glos s Ag ng cg p.globals)(hFn:Fncs d s Af nf cf p.funcs):AC Tryz.prog D 20 [.agg #[.slice Ag ng cg,.slice Af nf cf]] L s fun v L' _=>v=.agg #[.int .i64 (qbM p).1,.int .i64 (qbM p).2]∧L=L':=by
 have hn1:=hGl.1
 have hn2:=hFn.1
 have hU:prU p:=⟨hGl.u,hFn.u⟩
 refine qd4 (fn:=Tryz.f20) qaq Tryz.func20 V Z Tryz.ntmps20 Z (rs:=[.cell 2 33]) Z [(0,_)] Z<|Ys<|Yr<|qjs Z Z ?_
 intro β1 s1 h1
 refine qb1 Z [_,_] Z Z ?_
 intro β2 s2 h2
 refine Yn<|Yt<|Ys<|Ys<|Yr<|qcq (qan 1 [_,_] Z Z Z Z Z) Z<|Rc9 Z Z Z (qf5 D _ _ (hG.le (h1.t h2)) d p Ag _ ng cg nf cf (hGl.le (h1.t h2)) (hFn.le (h1.t h2))) ?_
 rintro _ _ s3 h3 ⟨rfl,rfl⟩
 refine qb1 Z [_,_] Z Z ?_
 intro β4 s4 h4
 refine qeX 0 [_,_] Z Z Z Z Z Z Z Z Z<|Yn<|Yt<|Ys<|Yr<|qcq (qan 0 [_,_] Z Z Z Z Z) Z<|qcq (qam [] [_,_] Z Z Z Z Z Z) Z<|qcq (qdY Z Z (qbX _ _ _ _)) Z<|Yn<|Yt<|?_
 refine qjY Z (fun c5=>?_) (fun c5=>?_)
 ·
  have hE:qbM p=qd2 p:=if_pos (fun h=>c5 (by rw [qjk h];exact ⟨rfl,rfl⟩))
  refine Ys<|Yr<|qcq (qan 0 [_,_] Z Z Z Z Z) Z<|qeX 1 [_,_] Z Z Z Z Z Z Z Z Z<|Yn<|Yt<|Yo<|Yu<|?_
  refine qcb (_::_::_::[]) L (.inr Z) (.agg (us:=[_,_]) 1 Z Z Z Z Z (.nil)) Z (h1.t h2|>.t h3|>.t h4) ⟨[],Z,List.nil_sublist _⟩ fun _ hS2=>?_
  exact ⟨by rw [hE];rfl,rfl⟩
 have g4:=c5
 have g14:¬ (qd2 p).1≠0:=fun h=>h g4.1
 have hV:=PV.of hU (qfd g4.1)
 have hV1:=hV.1
 have hV2:=hV.2.1
 have hVf:=hV.2.2.2.1
 refine Yk<|Yt<|Ys<|Ys<|Yr<|qcq (qan 2 [_,_] Z Z Z Z Z) Z<|Rc9 Z Z Z (qsL D _ _ d p Ag _ ng cg nf cf (hGl.le (h1.t h2|>.t h3|>.t h4)) (hFn.le (h1.t h2|>.t h3|>.t h4)) hV) ?_
 rintro _ _ s6 h6 ⟨rfl,rfl⟩
 refine qb1 Z [_,_] Z Z ?_
 intro β7 s7 h7
 refine qeX 0 [_,_] Z Z Z Z Z Z Z Z Z<|Yn<|Yt<|Ys<|Yr<|qcq (qan 0 [_,_] Z Z Z Z Z) Z<|qcq (qam [] [_,_] Z Z Z Z Z Z) Z<|qcq (qdY Z Z (qbX _ _ _ _)) Z<|Yn<|Yt<|?_
 refine qjY Z (fun c8=>?_) (fun c8=>?_)
 ·
  have hE:qbM p=qb2 p:=(if_neg g14).trans (if_pos (fun h=>c8 (by rw [qkc h];exact ⟨rfl,rfl⟩)))
  refine Ys<|Yr<|qcq (qan 0 [_,_] Z Z Z Z Z) Z<|qeX 2 [_,_] Z Z Z Z Z Z Z Z Z<|Yn<|Yt<|Yo<|Yu<|?_
  refine qcb (_::_::_::_::[]) L (.inr Z) (.agg (us:=[_,_]) 2 Z Z Z Z Z (.nil)) Z (h1.t h2|>.t h3|>.t h4|>.t h6|>.t h7) ⟨[],Z,List.nil_sublist _⟩ fun _ hS2=>?_
  exact ⟨by rw [hE];rfl,rfl⟩
 have g5:=c8
 have g20:¬ (qb2 p).1≠0:=fun h=>h g5.1
 refine Yk<|Yt<|Ys<|Yr<|qcq (qan 3 [_,_] Z Z Z Z Z) Z<|Rc9 Z Z Z (qca D _ _ d p Ag _ ng cg nf cf (hGl.le (h1.t h2|>.t h3|>.t h4|>.t h6|>.t h7)) (hFn.le (h1.t h2|>.t h3|>.t h4|>.t h6|>.t h7)) (qc5 g5.1).1) ?_
 rintro _ _ s9 h9 ⟨rfl,bm,rfl,hM⟩
 refine qb1 Z [_,_,_] Z Z ?_
 intro β10 s10 h10
 refine qeX 0 [_,_,_] Z Z Z Z Z Z Z Z Z<|Yn<|Yt<|Ys<|Ys<|Yr<|qxu Z Z Z Z Z<|Yql 4 Z Z Z Z Z Z<|qwn Z Z Z Z<|Yqm Z Z<|Yn<|Yt<|Yp<|?_
 refine qqq (γ:=Nat×List Nat) (fun g=>[(1,_),(2,_),(5,_),(25,_),(26,_),(27,.int .i64 (g.1:Int))]) (fun g=>_::_::_::_::_::(g.2.map qiX++L)) (fun g=>g.2.map qgg) (fun g tw=>Le D s10 tw∧(g.1≤nf∧qiS p p.funcs p.globals.length=qiS p (p.funcs.drop g.1) (p.globals.length+g.1))) (fun g=>nf - g.1) (fun _ _ _ h hl=>⟨h.1.trans hl,h.2⟩) (0,[]) (.c6 Z Z Z Z Z Z (.nil _)) Z Z ⟨Le.refl _,⟨Nat.zero_le _,Z⟩⟩ ?_
 intro g s11 I11
 obtain ⟨k,bs⟩:=g
 obtain ⟨hk0,hS⟩:=I11.2
 simp only at hk0 hS
 dsimp only
 refine Ys<|Yr<|qwZ Z Z Z<|Yn<|Yt<|Ys<|?_
 refine qig Z (fun c12=>?_) (fun c12=>?_)
 ·
  have hk:k < nf:=by omega
  obtain ⟨b,off,x,B1,m1,d1,B2,m2,d2,B3,m3,d3,rfl,hx,hcx,hpx,hlx,hbx,hnl⟩:=Fncs.at_ (hFn.le (h1.t h2|>.t h3|>.t h4|>.t h6|>.t h7|>.t h9|>.t h10|>.t I11.1)) hk
  have hfx:=hVf x (List.mem_of_getElem? hx)
  refine Yk<|Yt<|Ys<|Yp<|Ys<|Yr<|Yqm Z Z<|qcq (qap Z Z Z Z Z Z hk) Z<|qcq (qas Z Z Z (hcx.le (Lr D)) Z) Z<|qb1 Z [_] Z Z ?_
  intro β13 s13 h13
  refine qb1 Z [_,_,_,_] Z Z ?_
  intro β14 s14 h14
  refine qeX 1 [_] Z Z Z Z Z Z Z Z Z<|qeX 0 [_,_,_,_] Z Z Z Z Z Z Z Z Z<|Yn<|Yt<|Ys<|Yr<|qcq (qan 0 [_,_,_,_] Z Z Z Z Z) Z<|Rc9 Z Z Z (qqz D _ _ x B1 B2 B3 m1 d1 m2 d2 m3 d3) ?_
  rintro _ _ s15 h15 ⟨rfl,ba,rfl,hba⟩
  refine Yn<|Yt<|Yp<|?_
  refine qiF (σ:=Option Int) (α:=Nd×Option Addr×Option Addr×Nat) (fun g=>(β14,cb [St x.name,.slice B1 m1 d1,.slice B2 m2 d2,.slice B3 m3 d3] 57)::(β13,cb [.int .i64 (k:Int)] 3)::_::_::_::(β2,cb [.int .i64 (g.getD 0),.int .i64 (match g with | none=>0 | some _=>(ng:Int)+(k:Int))] 33)::_::(bs.map qiX++L)) (fun g tw=>True) (fun g=>qpS g) (fun g xn g1=>stO p x xn.1 g1) (fun xn=>[.agg #[.pointer xn.2.1,.pointer xn.2.2.1,.int .i64 (xn.2.2.2:Int)]]) (fun g xn tw=>NdV tw xn.1 (.agg #[.pointer xn.2.1,.pointer xn.2.2.1,.int .i64 (xn.2.2.2:Int)])) (fun g1=>g1=if qfH p x (qcn x.body 0)=0 then none else some (qfH p x (qcn x.body 0))) (AR:=(fun xn fr A=>∃ βy,Keeps fr [(8,.pointer (some ⟨βy,0,none⟩)),(1,.pointer (some ⟨β1,0,none⟩)),(2,.pointer (some ⟨β2,0,none⟩)),(5,.pointer (some ⟨β10,0,none⟩)),(6,.pointer (some ⟨β13,0,none⟩)),(7,.pointer (some ⟨β14,0,none⟩))]∧A=[(βy,cb [.pointer xn.2.1,.pointer xn.2.2.1,.int .i64 (xn.2.2.2:Int)] 111)])) (cap:=[_]) Z none Z (Tt) Z (fun _ _ _ h _=>h) (fun g=>by cases g with
    | none=>exact .inl rfl
    | some f=>exact .inr (.inl rfl)) (fun _=>rfl) rfl ?_ ?_ ?_ ?_
  ·
   intro l16 x16 L16 s16
   refine Yr<|qb1 Z [_,_,_] Z Z ?_
   intro β17 s17 h17
   refine qeX 0 [_,_,_] Z Z Z Z Z Z Z Z Z<|Yn ?_
   exact ⟨rfl,rfl,⟨[_],⟨_,(.cons rfl (.cons rfl (.cons rfl (.cons rfl (.cons rfl (.cons rfl (.nil _))))))),rfl⟩,rfl⟩,h17⟩
  ·
   rintro l18 d18 o18 p18 g xn s18 s19 fr18 A18 h18 h19 I18 hp18 P18 ⟨βy,hK18,rfl⟩
   refine qq7 hK18 ?_
   simp only [cQ9,nQ9]
   obtain ⟨nd,pa,pb,lp⟩:=xn
   have hN:=P18
   simp only at hN
   obtain rfl:g=none:=by cases g with
     | none=>rfl
     | some f=>cases hp18
   dsimp only
   refine Yp<|Ys<|Yr<|qcq (qan 5 [_,_,_] Z Z Z Z Z) Z<|qcq (qan 3 [_,_,_,_] Z Z Z Z Z) Z<|qcq (qan 0 [_,_,_] Z Z Z Z Z) Z ?_
   refine Rc9 Z Z Z (qnU D _ _ d p Ag _ ng cg nf cf (hGl.le (h1.t h2|>.t h3|>.t h4|>.t h6|>.t h7|>.t h9|>.t h10|>.t I11.1|>.t h13|>.t h14|>.t h15|>.t h18|>.t h19)) (hFn.le (h1.t h2|>.t h3|>.t h4|>.t h6|>.t h7|>.t h9|>.t h10|>.t I11.1|>.t h13|>.t h14|>.t h15|>.t h18|>.t h19)) bm (hM.le (h10.t I11.1|>.t h13|>.t h14|>.t h15|>.t h18|>.t h19)) x B1 B2 B3 m1 d1 m2 d2 m3 d3 (hpx.le (h13.t h14|>.t h15|>.t h18|>.t h19)) (hlx.le (h13.t h14|>.t h15|>.t h18|>.t h19)) nd _ (hN.le h19)) ?_
   rintro _ _ s20 h20 ⟨rfl,rfl⟩
   refine Yqa Z Z<|Yn<|Yt<|Ys<|Yr<|Yqm Z Z<|Yqne Z Z Z<|Yn<|Yt<|?_
   refine qjY Z (fun c21=>?_) (fun c21=>?_)
   ·
    have hz:¬ ndC p x nd=0:=c21
    refine Ys<|Yr<|Yqm Z Z<|qwr Z Z Z Z Z<|qcq (Wd 9 Y5) Z<|qwn Z Z Z Z<|Yql 4 Z Z Z Z Z Z<|qmJ Z Z Z (w64 O O)<|Rc9 Z Z Z (qbY D _ _ _ _) ?_
    rintro _ _ s22 h22 ⟨rfl,rfl⟩
    refine qeX 8 [_,_] Z Z Z Z Z Z Z Z Z<|Yn<|Yt<|Yo<|Yc<|?_
    refine ⟨some (ndC p x nd),(by simp only [stO];rw [if_neg hz]),Z,[_],Z,(h20.t h22),Tt⟩
   have hz:ndC p x nd=0:=c21
   refine Yk<|Yb<|?_
   refine ⟨none,(by simp only [stO];rw [if_pos hz]),Z,[_],Z,h20,Tt⟩
  ·
   intro l23 HH s23 h23 hY
   refine (qm5 D _ _ HH (fun g tw=>True) (qpS) (fun g nd g1=>stO p x nd g1) l23 none ((fun _=>0)) (qcn x.body 0).length (fun _ _ _ _=>Nat.zero_le _) (fun g s s' h hl=>h) ?_ (Tt) Z ba d x B1 B2 B3 m1 d1 m2 d2 m3 d3 (hba.le h23) (hbx.le (h13.t h14|>.t h15|>.t h23)) hfx.2.2.2.2.1 (Nat.le_of_eq (Nat.zero_add _))).mono ?_
   · intro g nd nv s2 hl2 hI2 hp2 hc2 hN2
     obtain ⟨pa,pb,lp,rfl⟩:=hN2.agg
     exact hY g (nd,pa,pb,lp) s2 (h23.trans hl2) hI2 hp2 hN2
   · rintro v L' s3 _ ⟨g',h1,h2,h3⟩
     exact ⟨g',qmH h1,h2,h3⟩
  intro d24 g s24 h24 F24 I24
  have hF:g=if qfH p x (qcn x.body 0)=0 then none else some (qfH p x (qcn x.body 0)):=F24
  cases g with
  | some f=>
   have hbn:¬ qfH p x (qcn x.body 0)=0:=fun h=>by rw [if_pos h] at hF;cases hF
   rw [if_neg hbn] at hF
   injection hF with hF
   have hE:qbM p=(f,(ng:Int)+(k:Int)):=by
     rw [qbM,if_neg g14,if_neg g20,hS,qhQ hx,if_neg hbn,← hF,hn1];simp
   refine Yc<|Yc<|Yu<|Yu<|Yc<|Yu<|?_
   refine qcb (_::_::_::_::_::_::_::_::bs.map qiX) L (.inr Z) (.agg (us:=[_,_]) 6 Z Z Z Z Z (.nil)) Z (h1.t h2|>.t h3|>.t h4|>.t h6|>.t h7|>.t h9|>.t h10|>.t I11.1|>.t h13|>.t h14|>.t h15|>.t h24) ⟨_::bs,Z,List.Sublist.cons_cons _ (List.Sublist.cons _ (List.Sublist.cons _ (List.Sublist.cons _ (List.Sublist.cons _ (List.Sublist.cons _ (List.Sublist.cons _ (List.Sublist.cons _ (List.Sublist.refl _))))))))⟩ fun _ hS2=>?_
   exact ⟨by rw [hE];rfl,rfl⟩
  | none=>
   have hbn:qfH p x (qcn x.body 0)=0:=by
     by_cases h:qfH p x (qcn x.body 0)=0
     · exact h
     · rw [if_neg h] at hF;cases hF
   refine Yb<|Yb<|Yt<|qrE (List.perm_append_comm_assoc [_] [_,_,_,_,_,_,_] _) ?_
   simp only [cQ9,nQ9]
   refine Yr<|qmJ Z Z Z (w64 O O)<|Yqm Z Z<|Yn<|?_
   refine qgA ⟨(k+1,d24::bs),[_,_],Z,(.c6 Z Z Z Z Z Z (.nil _)),Z,⟨(I11.1.t h13|>.t h14|>.t h15|>.t h24),⟨by simp only;omega,by simp only;rw [hS,qhQ hx,if_pos hbn];rfl⟩⟩,Oz⟩
 rw [List.drop_eq_nil_of_le O,qiS] at hS
 have hE:qbM p=(0,0):=by rw [qbM,if_neg g14,if_neg g20,hS]
 refine Yl<|Yv<|Yv<|Yd<|Yt<|Ys<|Yr<|qcq (qam [] [_,_] Z Z Z Z Z Z) Z<|qeX 3 [_,_] Z Z Z Z Z Z Z Z Z<|Yn<|Yt<|Yo<|?_
 refine qcb (_::_::_::_::_::bs.map qiX) L (.inr Z) (.agg (us:=[_,_]) 3 Z Z Z Z Z (.nil)) Z (h1.t h2|>.t h3|>.t h4|>.t h6|>.t h7|>.t h9|>.t h10|>.t I11.1) ⟨bs,Z,List.Sublist.cons _ (List.Sublist.cons _ (List.Sublist.cons _ (List.Sublist.cons _ (List.Sublist.cons _ (List.Sublist.refl _)))))⟩ fun _ hS2=>?_
 exact ⟨by rw [hE];rfl,rfl⟩
theorem qgm(a:Int):IntKind.u32.wrap a=w32 a:=IntKind.wrap_u32 a
theorem divW{x y:Int}(hx:U32 x)(hy:U32 y):w32 (x.tdiv y)=x / y:=by
 obtain ⟨h1,h2⟩:=hx
 obtain ⟨h3,h4⟩:=hy
 rw [Int.tdiv_eq_ediv_of_nonneg h1]
 have h5:0≤x / y:=Int.ediv_nonneg h1 h3
 have h6:x / y≤x:=Int.ediv_le_self _ h1
 unfold w32;omega
theorem modW{x y:Int}(hx:U32 x):x.tmod y=x % y:=Int.tmod_eq_emod_of_nonneg hx.1
open Go.Proofs.Tryz
theorem qvk{P:Program}{TT:qaV}{D:Nat}{fr:Fr}{ty:Nat}{K:Hl}{s0:World}{x:Operand}{t:Nat}{a:Int}(hx:lk fr x=some (.int .u32 a)):QE P TT D fr (.unOp .neg t x) ty K s0 (.int .u32 (w32 (0 - a))):=QE.pure fun _ dst pos af g ρ hρ w=>by
 have h:Op.unary .neg (.int .u32 a)=pure (.int .u32 (IntKind.u32.wrap (0 - a))):=rfl
 rw [IntKind.wrap_u32] at h
 simp [execOp,hρ x _ hx,h,w32]
theorem qnZ{n:Nat}(h:n < 4294967296):4294967295 ^^^ n=4294967295 - n:=by
 have e:(~~~(BitVec.ofNat 32 n)).toNat=4294967295 - n:=by rw [BitVec.toNat_not,BitVec.toNat_ofNat,Nat.mod_eq_of_lt h]
 rw [← e,BitVec.not_def,BitVec.toNat_xor,BitVec.toNat_allOnes,BitVec.toNat_ofNat,Nat.mod_eq_of_lt h]
theorem qt3{P:Program}{TT:qaV}{D:Nat}{fr:Fr}{ty:Nat}{K:Hl}{s0:World}{x:Operand}{t:Nat}{a:Int}(hx:lk fr x=some (.int .u32 a))(ha:U32 a):QE P TT D fr (.unOp .xor t x) ty K s0 (.int .u32 (4294967295 - a)):=QE.pure fun _ dst pos af g ρ hρ w=>by
 have h:=qiC (P:=P) (t:=t) (x:=4294967295) (y:=a) ⟨by decide,by decide⟩ ha w
 have e:Op.unary .xor (.int .u32 a)=Op.intBits .xor .u32 4294967295 a:=rfl
 have e2:binOp .xor t (.int .u32 4294967295) (.int .u32 a)=Op.intBits .xor .u32 4294967295 a:=rfl
 rw [e2] at h
 obtain ⟨n,rfl⟩:=Int.eq_ofNat_of_zero_le ha.1
 have hn:n < 4294967296:=by have:=ha.2;omega
 have e3:(((4294967295:Int).toNat ^^^ ((n:Nat):Int).toNat:Nat):Int)=4294967295 - (n:Int):=by
  show ((4294967295 ^^^ n:Nat):Int)=_
  rw [qnZ hn];omega
 rw [e3] at h
 simp [execOp,hρ x _ hx,e,h]
def qeL(op x y:Int):Bool:=if op=1 then decide (x=0) else if op=14 then decide (x=y) else if op=15 then !decide (x=y) else if op=16 then decide (x < y) else if op=17 then decide (x≤y) else if op=18 then decide (y < x) else if op=19 then decide (y≤x) else if op=20 then (!decide (x=0) && !decide (y=0)) else (!decide (x=0) || !decide (y=0))
def opP(op x y:Int):Int:=if 14≤op∨op=1 then (if qeL op x y=true then 1 else 0) else if op=2 then w32 (0 - x) else if op=3 then 4294967295 - x else if op=4 then w32 (x * y) else if op=5 then x / y else if op=6 then x % y
 else if op=7 then (((x.toNat <<< y.toNat) % 4294967296:Nat):Int) else if op=8 then ((x.toNat >>> y.toNat:Nat):Int) else if op=9 then ((x.toNat &&& y.toNat:Nat):Int) else if op=10 then w32 (x+y) else if op=11 then w32 (x - y) else if op=12 then ((x.toNat ||| y.toNat:Nat):Int) else ((x.toNat ^^^ y.toNat:Nat):Int)
def qfk(op y:Int):Int×Int:=if op < 1∨21 < op then (4,-1) else if (op=5∨op=6)∧y=0 then (26,-3) else (0,0)
theorem qod(D:Nat)(L:Hl)(s:World)(k x y:Int)(hk:k=1∨(14≤k∧k≤21)):AC prog D 61 [.int .i64 k,.int .u32 x,.int .u32 y] L s fun v L' _=>v=.bool (qeL k x y)∧L=L':=by
 refine qai (fn:=f61) qaq func61 V Z ntmps61 Z (rs:=[.tmp 6]) Z [(0,_),(1,_),(2,_)] Z<|Sr<|At Z Z<|Zs<|Sr<|Zqm Z Z<|Nt<|Zp<|Sr<|qax Z Z Z<|At Z Z<|?_
 refine qab Z (fun c1=>?_) (fun c1=>?_)
 ·
  refine Sr<|Zqm Z Z<|qax Z Z Z<|At Z Z<|Zo<|Zc<|Zu<|?_
  refine rR [] L (.t1 Z) Z (Lr D) fun _ hS2=>?_
  refine ⟨?_,Z⟩
  simp [qaA,qeL, *];done
 refine Sr<|qax Z Z Z<|At Z Z<|?_
 refine qab Z (fun c2=>?_) (fun c2=>?_)
 ·
  refine Sr<|Zqm Z Z<|Zqm Z Z<|qax Z Z Z<|At Z Z<|Zo<|Zc<|Zu<|?_
  refine rR [] L (.t1 Z) Z (Lr D) fun _ hS2=>?_
  refine ⟨?_,Z⟩
  simp [qaA,qeL, *];done
 refine Sr<|qax Z Z Z<|At Z Z<|?_
 refine qab Z (fun c3=>?_) (fun c3=>?_)
 ·
  refine Sr<|Zqm Z Z<|Zqm Z Z<|qcj Z Z Z<|At Z Z<|Zo<|Zc<|Zu<|?_
  refine rR [] L (.t1 Z) Z (Lr D) fun _ hS2=>?_
  refine ⟨?_,Z⟩
  simp [qaA,qeL, *];done
 refine Sr<|qax Z Z Z<|At Z Z<|?_
 refine qab Z (fun c4=>?_) (fun c4=>?_)
 ·
  refine Sr<|Zqm Z Z<|Zqm Z Z<|qba Z Z Z<|At Z Z<|Zo<|Zc<|Zu<|?_
  refine rR [] L (.t1 Z) Z (Lr D) fun _ hS2=>?_
  refine ⟨?_,Z⟩
  simp [qaA,qeL, *];done
 refine Sr<|qax Z Z Z<|At Z Z<|?_
 refine qab Z (fun c5=>?_) (fun c5=>?_)
 ·
  refine Sr<|Zqm Z Z<|Zqm Z Z<|qnJ Z Z Z<|At Z Z<|Zo<|Zc<|Zu<|?_
  refine rR [] L (.t1 Z) Z (Lr D) fun _ hS2=>?_
  refine ⟨?_,Z⟩
  simp [qaA,qeL, *];done
 refine Sr<|qax Z Z Z<|At Z Z<|?_
 refine qab Z (fun c6=>?_) (fun c6=>?_)
 ·
  refine Sr<|Zqm Z Z<|Zqm Z Z<|qbA Z Z Z<|At Z Z<|Zo<|Zc<|Zu<|?_
  refine rR [] L (.t1 Z) Z (Lr D) fun _ hS2=>?_
  refine ⟨?_,Z⟩
  simp [qaA,qeL, *];done
 refine Sr<|qax Z Z Z<|At Z Z<|?_
 refine qab Z (fun c7=>?_) (fun c7=>?_)
 ·
  refine Sr<|Zqm Z Z<|Zqm Z Z<|qf1 Z Z Z<|At Z Z<|Zo<|Zc<|Zu<|?_
  refine rR [] L (.t1 Z) Z (Lr D) fun _ hS2=>?_
  refine ⟨?_,Z⟩
  simp [qaA,qeL, *];done
 refine Sr<|qax Z Z Z<|At Z Z<|?_
 refine qab Z (fun c8=>?_) (fun c8=>?_)
 ·
  refine Sr<|Zqm Z Z<|qcj Z Z Z<|Zqm Z Z<|?_
  refine qaI (t:=46) Z (fun c9=>?_) (fun c9=>?_)
  ·
   refine Zg Z Z<|Zqm Z Z<|Zg Z Z<|qcj Z Z Z<|ZqT Z Z Z<|At Z Z<|Zo<|Zc<|Zu<|?_
   refine rR [] L (.t1 Z) Z (Lr D) fun _ hS2=>?_
   refine ⟨?_,Z⟩
   simp [qaA,qeL, *];done
  refine Wf Y4<|Wf Y4<|ZqF Z Z Z<|At Z Z<|Zo<|Zc<|Zu<|?_
  refine rR [] L (.t1 Z) Z (Lr D) fun _ hS2=>?_
  refine ⟨?_,Z⟩
  simp [qaA,qeL, *];done
 refine Zk<|Zb<|Zt<|Sr<|Zqm Z Z<|qcj Z Z Z<|Zqm Z Z<|?_
 refine qaI (t:=52) Z (fun c10=>?_) (fun c10=>?_)
 ·
  refine Wf Y4<|Wf Y4<|ZqT Z Z Z<|At Z Z<|Zo<|?_
  refine rR [] L (.t1 Z) Z (Lr D) fun _ hS2=>?_
  refine ⟨?_,Z⟩
  have h21:k=21:=by omega
  simp [qaA,qeL, *];done
 refine Zg Z Z<|Zqm Z Z<|Zg Z Z<|qcj Z Z Z<|ZqF Z Z Z<|At Z Z<|Zo<|?_
 refine rR [] L (.t1 Z) Z (Lr D) fun _ hS2=>?_
 refine ⟨?_,Z⟩
 have h21:k=21:=by omega
 simp [qaA,qeL, *];done
theorem qi1(D:Nat)(L:Hl)(s:World)(k:Int)(x y:Int)(hx:U32 x)(hy:U32 y)(hk:2≤k∧k≤13)(hz:k=5∨k=6→y≠0):AC prog D 62 [.int .i64 k,.int .u32 x,.int .u32 y] L s fun v L' _=>v=.int .u32 (opP k x y)∧L=L':=by
 refine qai (fn:=f62) qaq func62 V Z ntmps62 Z (rs:=[.tmp 6]) Z [(0,_),(1,_),(2,_)] Z<|Sr<|At Z Z<|Zs<|Sr<|Zqm Z Z<|Nt<|Zp<|Sr<|qax Z Z Z<|At Z Z<|?_
 refine qab Z (fun c1=>?_) (fun c1=>?_)
 ·
  refine Sr<|Zqm Z Z<|qaf (qvk Z) Z<|At Z Z<|Zo<|Zc<|Zu<|?_
  refine rR [] L (.t1 Z) Z (Lr D) fun _ hS2=>?_
  refine ⟨?_,Z⟩
  have hk1:¬ (14≤k∨k=1):=by omega
  simp only [qaA,opP]
  rw [if_neg hk1]
  simp [qgm, *];done
 refine Sr<|qax Z Z Z<|At Z Z<|?_
 refine qab Z (fun c2=>?_) (fun c2=>?_)
 ·
  refine Sr<|Zqm Z Z<|qaf (qt3 Z hx) Z<|At Z Z<|Zo<|Zc<|Zu<|?_
  refine rR [] L (.t1 Z) Z (Lr D) fun _ hS2=>?_
  refine ⟨?_,Z⟩
  have hk1:¬ (14≤k∨k=1):=by omega
  simp only [qaA,opP]
  rw [if_neg hk1]
  simp [qgm, *];done
 refine Sr<|qax Z Z Z<|At Z Z<|?_
 refine qab Z (fun c3=>?_) (fun c3=>?_)
 ·
  refine Sr<|Zqm Z Z<|Zqm Z Z<|qaf (qv5 Z Z) Z<|At Z Z<|Zo<|Zc<|Zu<|?_
  refine rR [] L (.t1 Z) Z (Lr D) fun _ hS2=>?_
  refine ⟨?_,Z⟩
  have hk1:¬ (14≤k∨k=1):=by omega
  simp only [qaA,opP]
  rw [if_neg hk1]
  simp [qgm, *];done
 refine Sr<|qax Z Z Z<|At Z Z<|?_
 refine qab Z (fun c4=>?_) (fun c4=>?_)
 ·
  refine Sr<|Zqm Z Z<|Zqm Z Z<|qaf (qqN Z Z (hz (.inl As))) Z<|At Z Z<|Zo<|Zc<|Zu<|?_
  refine rR [] L (.t1 Z) Z (Lr D) fun _ hS2=>?_
  refine ⟨?_,Z⟩
  have hk1:¬ (14≤k∨k=1):=by omega
  simp only [qaA,opP]
  rw [if_neg hk1]
  have h5:k=5:=by assumption
  simp [h5,qgm,divW hx hy];done
 refine Sr<|qax Z Z Z<|At Z Z<|?_
 refine qab Z (fun c5=>?_) (fun c5=>?_)
 ·
  refine Sr<|Zqm Z Z<|Zqm Z Z<|qaf (qq6 Z Z (hz (.inr As))) Z<|At Z Z<|Zo<|Zc<|Zu<|?_
  refine rR [] L (.t1 Z) Z (Lr D) fun _ hS2=>?_
  refine ⟨?_,Z⟩
  have hk1:¬ (14≤k∨k=1):=by omega
  simp only [qaA,opP]
  rw [if_neg hk1]
  have h6:k=6:=by assumption
  simp [h6,modW hx];done
 refine Sr<|qax Z Z Z<|At Z Z<|?_
 refine qab Z (fun c6=>?_) (fun c6=>?_)
 ·
  refine Sr<|Zqm Z Z<|Zqm Z Z<|qaf (qiu Z Z qmG (qmy hx hy)) Z<|At Z Z<|Zo<|Zc<|Zu<|?_
  refine rR [] L (.t1 Z) Z (Lr D) fun _ hS2=>?_
  refine ⟨?_,Z⟩
  have hk1:¬ (14≤k∨k=1):=by omega
  simp only [qaA,opP]
  rw [if_neg hk1]
  simp [qgm, *];done
 refine Sr<|qax Z Z Z<|At Z Z<|?_
 refine qab Z (fun c7=>?_) (fun c7=>?_)
 ·
  refine Sr<|Zqm Z Z<|Zqm Z Z<|qaf (qiu Z Z qlr (qlI hx hy)) Z<|At Z Z<|Zo<|Zc<|Zu<|?_
  refine rR [] L (.t1 Z) Z (Lr D) fun _ hS2=>?_
  refine ⟨?_,Z⟩
  have hk1:¬ (14≤k∨k=1):=by omega
  simp only [qaA,opP]
  rw [if_neg hk1]
  simp [qgm, *];done
 refine Sr<|qax Z Z Z<|At Z Z<|?_
 refine qab Z (fun c8=>?_) (fun c8=>?_)
 ·
  refine Sr<|Zqm Z Z<|Zqm Z Z<|qaf (qiu Z Z qnn (qnC hx hy)) Z<|At Z Z<|Zo<|Zc<|Zu<|?_
  refine rR [] L (.t1 Z) Z (Lr D) fun _ hS2=>?_
  refine ⟨?_,Z⟩
  have hk1:¬ (14≤k∨k=1):=by omega
  simp only [qaA,opP]
  rw [if_neg hk1]
  simp [qgm, *];done
 refine Sr<|qax Z Z Z<|At Z Z<|?_
 refine qab Z (fun c9=>?_) (fun c9=>?_)
 ·
  refine Sr<|Zqm Z Z<|Zqm Z Z<|qaf (qnw Z Z) Z<|At Z Z<|Zo<|Zc<|Zu<|?_
  refine rR [] L (.t1 Z) Z (Lr D) fun _ hS2=>?_
  refine ⟨?_,Z⟩
  have hk1:¬ (14≤k∨k=1):=by omega
  simp only [qaA,opP]
  rw [if_neg hk1]
  simp [qgm, *];done
 refine Sr<|qax Z Z Z<|At Z Z<|?_
 refine qab Z (fun c10=>?_) (fun c10=>?_)
 ·
  refine Sr<|Zqm Z Z<|Zqm Z Z<|qaf (qqv Z Z) Z<|At Z Z<|Zo<|Zc<|Zu<|?_
  refine rR [] L (.t1 Z) Z (Lr D) fun _ hS2=>?_
  refine ⟨?_,Z⟩
  have hk1:¬ (14≤k∨k=1):=by omega
  simp only [qaA,opP]
  rw [if_neg hk1]
  simp [qgm, *];done
 refine Sr<|qax Z Z Z<|At Z Z<|?_
 refine qab Z (fun c11=>?_) (fun c11=>?_)
 ·
  refine Sr<|Zqm Z Z<|Zqm Z Z<|qaf (qiu Z Z qpX (qoA hx hy)) Z<|At Z Z<|Zo<|Zc<|Zu<|?_
  refine rR [] L (.t1 Z) Z (Lr D) fun _ hS2=>?_
  refine ⟨?_,Z⟩
  have hk1:¬ (14≤k∨k=1):=by omega
  simp only [qaA,opP]
  rw [if_neg hk1]
  simp [qgm, *];done
 refine Zk<|Zb<|Zt<|Sr<|Zqm Z Z<|Zqm Z Z<|qaf (qiu Z Z qni (qiC hx hy)) Z<|At Z Z<|Zo<|?_
 refine rR [] L (.t1 Z) Z (Lr D) fun _ hS2=>?_
 refine ⟨?_,Z⟩
 have hk1:¬ (14≤k∨k=1):=by omega
 simp only [qaA,opP]
 rw [if_neg hk1]
 simp [qgm, *];done
theorem qbx(D:Nat)(L:Hl)(s:World)(k:Int)(x y:Int)(hx:U32 x)(hy:U32 y):AC prog D 34 [.int .i64 k,.int .u32 x,.int .u32 y] L s fun v L' _=>v=.tuple #[.int .u32 (if (qfk k y).1=0 then opP k x y else 0),.agg #[.int .i64 (qfk k y).1,.int .i64 (qfk k y).2]]∧L=L':=by
 refine qai (fn:=f34) qaq func34 V Z ntmps34 Z (rs:=[.tmp 6,.cell 7 33]) Z [(0,_),(1,_),(2,_)] Z<|Sr<|Zqa Z Z<|qae Z [_,_] Z Z ?_
 intro β1 s1 h1
 refine Nt<|Zs<|Zp<|?_
 refine qaR 8 (k < 1∨21 < k) ?_ ?_
 ·
  refine Zr<|Zqm Z Z<|qba Z Z Z<|Zqm Z Z<|?_
  refine qak (t:=11) Z (fun c3=>?_) (fun c3=>?_)
  ·
   refine Wf Y4<|Wf Y4<|ZqT Z Z Z<|Zqa Z Z<|Zn<|?_
   refine qaa (MidB.mk (Lr D) Sb Z ((decide_eq_true O).symm))
  refine Zg Z Z<|Zqm Z Z<|Zg Z Z<|qbA Z Z Z<|ZqF Z Z Z<|Zqa Z Z<|Zn<|?_
  refine qaa (MidB.mk (Lr D) Sb Z (decide_eq_decide.2 O))
 intro s2 h2
 refine qab Z (fun c4=>?_) (fun c4=>?_)
 ·
  have hE:qfk k y=(4,-1):=if_pos c4
  refine Sr<|Jc Z Z Z (qbY D _ _ _ _) ?_
  rintro _ _ s5 h5 ⟨rfl,rfl⟩
  refine Zqa Z Z<|Wt 0 [_,_] Y9<|Nt<|Zo<|Zc<|Zu<|?_
  refine rR [_] L (.tmp Z (.agg (us:=[_,_]) 0 Z Z Z Z Z (.nil))) Z (h1.t h2|>.t h5) fun _ hS2=>?_
  refine ⟨?_,Z⟩
  rw [hE]
  rfl
 have g8:=c4
 refine qaR 16 ((k=5∨k=6)∧y=0) ?_ ?_
 ·
  refine Zr<|Zqm Z Z<|qax Z Z Z<|Zqm Z Z<|?_
  refine qak (t:=19) Z (fun c7=>?_) (fun c7=>?_)
  ·
   refine Wf Y4<|Wf Y4<|ZqT Z Z Z<|Zqm Z Z<|Zg Z Z<|Zqm Z Z<|Zg Z Z<|qax Z Z Z<|ZqT Z Z Z<|Zqa Z Z<|Zn<|?_
   refine qaa (MidB.mk (Lr D) Sb Z (decide_eq_decide.2 O))
  refine Zg Z Z<|Zqm Z Z<|Zg Z Z<|qax Z Z Z<|ZqF Z Z Z<|Zqm Z Z<|?_
  refine qak (t:=23) Z (fun c8=>?_) (fun c8=>?_)
  ·
   refine Zg Z Z<|Zqm Z Z<|Zg Z Z<|qax Z Z Z<|ZqT Z Z Z<|Zqa Z Z<|Zn<|?_
   refine qaa (MidB.mk (Lr D) Sb Z (decide_eq_decide.2 O))
  refine Wf Y4<|Wf Y4<|ZqF Z Z Z<|Zqa Z Z<|Zn<|?_
  refine qaa (MidB.mk (Lr D) Sb Z ((decide_eq_false O).symm))
 intro s6 h6
 refine qab Z (fun c9=>?_) (fun c9=>?_)
 ·
  have hE:qfk k y=(26,-3):=(if_neg g8).trans (if_pos c9)
  refine Sr<|Jc Z Z Z (qbY D _ _ _ _) ?_
  rintro _ _ s10 h10 ⟨rfl,rfl⟩
  refine Zqa Z Z<|Wt 0 [_,_] Y9<|Nt<|Zo<|Zc<|Zu<|?_
  refine rR [_] L (.tmp Z (.agg (us:=[_,_]) 0 Z Z Z Z Z (.nil))) Z (h1.t h2|>.t h6|>.t h10) fun _ hS2=>?_
  refine ⟨?_,Z⟩
  rw [hE]
  rfl
 have g16:=c9
 have hE:qfk k y=(0,0):=(if_neg g8).trans (if_neg g16)
 refine Zk<|Zb<|Zt<|Zs<|?_
 refine qaR 33 (14≤k∨k=1) ?_ ?_
 ·
  refine Zr<|Zqm Z Z<|qf1 Z Z Z<|Zqm Z Z<|?_
  refine qak (t:=30) Z (fun c12=>?_) (fun c12=>?_)
  ·
   refine Wf Y4<|Wf Y4<|ZqT Z Z Z<|Zn<|?_
   refine qaa (MidB.mk (Lr D) Sb Z ((decide_eq_true O).symm))
  refine Zg Z Z<|Zqm Z Z<|Zg Z Z<|qax Z Z Z<|ZqF Z Z Z<|Zn<|?_
  refine qaa (MidB.mk (Lr D) Sb Z (decide_eq_decide.2 O))
 intro s11 h11
 refine qab Z (fun c13=>?_) (fun c13=>?_)
 ·
  have g33:=c13
  refine Zs<|Sr<|Zqm Z Z<|Zqm Z Z<|Zqm Z Z<|Jc Z Z Z (qod D _ _ k x y O) ?_
  rintro _ _ s14 h14 ⟨rfl,rfl⟩
  refine Nt<|?_
  refine qes Z (fun c15=>?_) (fun c15=>?_)
  ·
   have hO:opP k x y=1:=by rw [opP,if_pos g33,if_pos c15]
   refine Sr<|qaf (qam [] [_,_] Z Z Z Z Z Z) Z<|Zqa Z Z<|Wt 0 [_,_] Y9<|Nt<|Zo<|Zu<|Zu<|?_
   refine rR [_] L (.tmp Z (.agg (us:=[_,_]) 0 Z Z Z Z Z (.nil))) Z (h1.t h2|>.t h6|>.t h11|>.t h14) fun _ hS2=>?_
   refine ⟨?_,Z⟩
   rw [hE]
   rw [hO];rfl
  have hO:opP k x y=0:=by rw [opP,if_pos g33,if_neg (by rw [c15];decide)]
  refine Zk<|Zt<|Sr<|qaf (qam [] [_,_] Z Z Z Z Z Z) Z<|Zqa Z Z<|Wt 0 [_,_] Y9<|Nt<|Zo<|Zu<|?_
  refine rR [_] L (.tmp Z (.agg (us:=[_,_]) 0 Z Z Z Z Z (.nil))) Z (h1.t h2|>.t h6|>.t h11|>.t h14) fun _ hS2=>?_
  refine ⟨?_,Z⟩
  rw [hE]
  rw [hO];rfl
 have g33:=c13
 refine Zk<|Zt<|Sr<|Zqm Z Z<|Zqm Z Z<|Zqm Z Z<|Jc Z Z Z (qi1 D _ _ k x y hx hy O (fun h h0=>g16 ⟨h,h0⟩)) ?_
 rintro _ _ s16 h16 ⟨rfl,rfl⟩
 refine qaf (qam [] [_,_] Z Z Z Z Z Z) Z<|Zqa Z Z<|Wt 0 [_,_] Y9<|Nt<|Zo<|?_
 refine rR [_] L (.tmp Z (.agg (us:=[_,_]) 0 Z Z Z Z Z (.nil))) Z (h1.t h2|>.t h6|>.t h11|>.t h16) fun _ hS2=>?_
 refine ⟨?_,Z⟩
 rw [hE]
 rfl
end Go.Proofs.YtpdnijphccdiiaaGreatDoor
namespace Go.FL
open Go Go.RowKit
variable{D:Nat}
theorem qjO{L:Hl}{s:World}{b e n:Nat}{os:Array Obj}{zs ys:List Value}{f:Array Value→Array Value}(ho:OKL D ((b,cb zs e)::L) s)(hf:(f zs.toArray).toList=ys) :
  ∃ s',Sort.grow (Sort.mapBlock (Sort.ahead (fill ((b,cb zs e)::L) s) n) b f) os=fill ((b,cb ys e)::L) s'∧OKL D ((b,cb ys e)::L) s'∧Le D s s':=by
 have e1:Sort.mapBlock (Sort.ahead (fill ((b,cb zs e)::L) s) n) b f=fill ((b,cb ys e)::L) (s.drewN n):=by
  show (Sort.mapBlock (qbk (fill L s) b (cb zs e)) b f).drewN n=_
  rw [qfJ,hf]
  exact qhg ((b,cb ys e)::L) s n
 have ho':OKL D ((b,cb ys e)::L) (s.drewN n):=⟨ho.nd,fun x hx=>by
  rcases List.mem_cons.1 hx with rfl | hx
  · exact ho.dm (b,cb zs e) Mc
  · exact ho.dm x (List.mem_cons_of_mem _ hx)⟩
 rw [e1]
 obtain ⟨h1,h2,h3⟩:=qhy (w':=Sort.grow (fill ((b,cb ys e)::L) (s.drewN n)) os) ho' (qcG _ _) (qbK _ _) (qbj _ _) (by rw [Sort.size_grow,qaB];omega) ho'.nd
  (fun x hx=>by rw [Sort.heap_grow_old _ _ (by rw [qaB];exact ho'.lt hx)];exact qa2 ho' hx) (fun x hx=>.inl (List.mem_map.2 ⟨x,hx,rfl⟩))
  (fun k hk hn=>by rw [Sort.heap_grow_old _ _ (by rw [qaB];exact hk)];exact qa8 hn)
 exact ⟨_,h1,h2,(Le.drewN s n).trans h3⟩
end Go.FL
namespace Go.Proofs.YtpdnijphccdiiaaGreatDoor
open Go.Proofs.Tryz
open Go Go.FL Go.RowKit
theorem qro{l m:List Int}{yc:List Value}(h:m.length=l.length):(Sort.putCells (Value.int .i64) 0 m.toArray (iv l++yc).toArray).toList=iv m++yc:=by
  apply List.ext_getElem?
  intro k
  simp only [Sort.putCells,Array.toList_mapIdx,List.getElem?_mapIdx,Nat.zero_le,true_and,Nat.zero_add,Nat.sub_zero]
  by_cases hk:k < l.length
  · rw [List.getElem?_append_left (by simp [iv,hk]),List.getElem?_append_left (by simp [iv];omega)]
    simp [iv,hk,h]
  · rw [List.getElem?_append_right (by simp [iv];omega),List.getElem?_append_right (by simp [iv];omega)]
    simp [iv,hk,h]
theorem qjS{D:Nat}{L:Hl}{s:World}{b e:Nat}{l:List Int}{yc:List Value}(ho:OKL D ((b,cb (iv l++yc) e)::L) s):Sort.Holds (Value.int .i64) (fill ((b,cb (iv l++yc) e)::L) s) b 0 l.toArray:=by
 have hblk:(fill ((b,cb (iv l++yc) e)::L) s).heap[b]?=some (cb (iv l++yc) e):=qa2 ho Mc
 intro j hj
 have hj':j < l.length:=by simpa using hj
 refine ⟨?_,by unfold World.frozen?;rw [hblk];simp [cb]⟩
 rw [Nat.zero_add,qcL ho Mc,List.getElem?_append_left (by simp [iv];omega)]
 simp [iv,hj']
theorem qhX:qij prog 67:=⟨_,func67,by kernel_rfl,by kernel_rfl⟩
theorem qfC:qij prog 68:=⟨_,func68,by kernel_rfl,by kernel_rfl⟩
def qgN(l:List Int):List Int:=l.mergeSort fun x y=>decide (x≤y)
theorem qrt(D:Nat)(L:Hl)(s:World)(e:Nat)(M:Hl)(A:Option Addr)(n c:Nat)(l:List Int)(hO:FL.Own e 1 M (.slice A n c) n (iv l))(hb:n < 4611686018427387904):AC prog D 67 [.slice A n c] (M++L) s fun v L' _=>∃ M',L'=M'++L∧v=.tuple #[]∧FL.Own e 1 M' (.slice A n c) n (iv (qgN l)):=by
 generalize hv:Value.slice A n c=v0 at hO
 generalize hx:iv l=xs at hO
 cases hO with
 | nil=>
  injection hv with e1 e2 e3
  subst e1;subst e3
  have:l=[]:=List.eq_nil_of_length_eq_zero (by have:=congrArg List.length hx;simpa [iv] using this)
  subst this
  refine AC.of_calls qhX fun _=>(Any.slices_Sort_int_none lays189 none 0 (fill L s)).mono fun e w' ⟨he,hw⟩=>⟨_,he,by rw [hw];exact qdw _,fun s' _ _ _=>⟨[],Z,Z,?_⟩⟩
  simp only [qgN,List.mergeSort_nil]
  exact .nil
 | blk b cap n xs ys h1 h2 h3 h4=>
  injection hv with e1 e2 e3
  subst e1;subst e3;subst hx
  have hl:n=l.length:=by simpa [iv] using h1.symm
  subst hl
  refine ⟨qhX,fun ho=>?_⟩
  refine (Any.slices_Sort_int lays189 b 0 c l (fill ((b,cb (iv l++ys) e)::L) s) (qjS ho) (by rw [qaB];exact ho.lt Mc) hb).mono ?_
  rintro e1 w' ⟨he,k,os,hw⟩
  obtain ⟨s',q1,q2,q3⟩:=qjO (n:=k) (os:=os) (ys:=iv (qgN l)++ys) ho (qro (by simp [qgN]))
  exact ⟨_,_,s',he,hw.trans q1,q2,q3,[(b,cb (iv (qgN l)++ys) e)],rfl,rfl,.blk b c _ _ ys (by simp [iv,qgN]) (by simpa [iv,qgN] using h2) h3 h4⟩
theorem qld(l:List Int):(Lib.compact l).length≤l.length:=by
 rw [Lib.compact,Lib.compactUpTo,List.length_map]
 exact Nat.le_trans (List.length_filter_le _ _) (by simp)
theorem qlh(D:Nat)(L:Hl)(s:World)(e:Nat)(M:Hl)(A:Option Addr)(n c:Nat)(l:List Int)(hO:FL.Own e 1 M (.slice A n c) n (iv l)):AC prog D 68 [.slice A n c] (M++L) s fun v L' _=>∃ M',L'=M'++L∧v=.slice A (Lib.compact l).length c∧FL.Own e 1 M' (.slice A (Lib.compact l).length c) (Lib.compact l).length (iv (Lib.compact l)):=by
 generalize hv:Value.slice A n c=v0 at hO
 generalize hx:iv l=xs at hO
 cases hO with
 | nil=>
  injection hv with e1 e2 e3
  subst e1;subst e3
  have:l=[]:=List.eq_nil_of_length_eq_zero (by have:=congrArg List.length hx;simpa [iv] using this)
  subst this
  exact AC.of_calls qfC fun _=>(Any.slices_Compact_int_empty laysNm220 none 0 (fill L s)).mono fun e w' ⟨he,hw⟩=>⟨_,he,by rw [hw];exact qdw _,fun s' _ _ _=>⟨[],rfl,rfl,.nil⟩⟩
 | blk b cap n xs ys h1 h2 h3 h4=>
  injection hv with e1 e2 e3
  subst e1;subst e3;subst hx
  have hl:n=l.length:=by simpa [iv] using h1.symm
  subst hl
  have hle:=qld l
  refine ⟨qfC,fun ho=>?_⟩
  refine (Any.slices_Compact_int laysNm220 b 0 c l (fill ((b,cb (iv l++ys) e)::L) s) (qjS ho) O h3).mono ?_
  rintro e1 w' ⟨he,k,hw⟩
  obtain ⟨s',q1,q2,q3⟩:=qjO (n:=k) (os:=#[]) (ys:=iv (Lib.compact l++List.replicate (l.length - (Lib.compact l).length) 0)++ys) ho (qro (by simp;omega))
  rw [Sort.grow_empty] at q1
  have he2:iv (Lib.compact l++List.replicate (l.length - (Lib.compact l).length) 0)++ys=iv (Lib.compact l)++(iv (List.replicate (l.length - (Lib.compact l).length) 0)++ys):=by simp [iv]
  rw [he2] at q1 q2
  have h9:l.length+ys.length=c * 1:=by simpa [iv] using h2
  exact ⟨_,_,s',he,hw.trans q1,q2,q3,[(b,_)],rfl,rfl,.blk b c _ _ _ (by simp [iv]) (by simp [iv];omega) O h4⟩
def Its(s:World)(A:Option Addr)(n c:Nat)(l:List Int):Prop:=Sl 1 (fun _ x cs=>cs=[.int .i64 x]) s A n c l
theorem Its.le{D:Nat}{s s':World}{A:Option Addr}{n c:Nat}{l:List Int}(h:Its s A n c l)(hl:Le D s s'):Its s' A n c l:=Sl.le (fun _ _ h=>h) h hl
theorem Its.at_{s:World}{A:Option Addr}{n c k:Nat}{l:List Int}(h:Its s A n c l)(hk:k < n):∃ b off x,A=some ⟨b,off,none⟩∧l[k]?=some x∧CellsAt s b (off+k) [.int .i64 x]∧True:=by
 have hl:k < l.length:=by rw [← h.1];exact hk
 obtain ⟨b,off,cs,h1,h2,_,rfl⟩:=h.2.2.2 k l[k] (List.getElem?_eq_getElem hl)
 exact ⟨b,off,l[k],h1,List.getElem?_eq_getElem hl,by simpa using h2,trivial⟩
theorem qmp{α β:Type}{R:α→β→Prop}(f:α→β)(l:List α)(h:∀ x∈l,R x (f x)):All2 R l (l.map f):=by
 induction l with
 | nil=>exact All2.nil
 | cons x l ih=>exact All2.cons (h x Mc) (ih fun y hy=>h y (List.mem_cons_of_mem _ hy))
theorem qrx(l:List Int):iv l=(l.map fun x=>[Value.int .i64 x]).flatten:=by
 induction l with
 | nil=>rfl
 | cons x l ih=>simp [iv] at ih ⊢;exact ih
theorem Own.its{e:Nat}{A:Hl}{Ad:Option Addr}{n c:Nat}{l:List Int}{s:World}(h:FL.Own e 1 A (.slice Ad n c) n (iv l))(hp:Pub A s)(hn:n=l.length):Its s Ad n c l:=
 Own.rows (R:=fun _ (x:Int) cs=>cs=[Value.int .i64 x]) (qrx l▸h) hp (qmp (fun (x:Int)=>[Value.int .i64 x]) l fun x hx=>⟨rfl,rfl⟩) hn
theorem qs8(l:List Int)(x:Int):iv (l++[x])=iv l++[.int .i64 x]:=by simp [iv]
theorem qiM{l:List Int}(hs:l.Pairwise (·≤·)):(Lib.compact l).Pairwise (· < ·)∧∀ x,x∈Lib.compact l↔x∈l:=by
  have hat:∀ i j,i≤j→j < l.length→l.toArray[i]! ≤ l.toArray[j]! := fun i j hij hj=>by
    rw [getElem!_pos l.toArray i (by simpa using Nat.lt_of_le_of_lt hij hj),getElem!_pos l.toArray j (by simpa using hj)]
    rcases Nat.lt_or_ge i j with h | h
    · exact (List.pairwise_iff_getElem.1 hs) i j O hj h
    · obtain rfl:i=j:=by omega
      exact Int.le_refl _
  have hmem:∀ j,j < l.length→∃ i,i < l.length∧Lib.keeps l.toArray i=true∧l.toArray[i]! = l.toArray[j]! := by
    intro j
    induction j with
    | zero=>exact fun h=>⟨0,h,by simp [Lib.keeps],rfl⟩
    | succ j ih=>
      intro h
      by_cases hk:Lib.keeps l.toArray (j+1)=true
      · exact ⟨j+1,h,hk,rfl⟩
      · obtain ⟨i,h1,h2,h3⟩:=ih O
        have h4:l.toArray[j+1]! = l.toArray[j]! := by
          simp only [Lib.keeps,decide_eq_true_eq,not_or,Nat.add_sub_cancel] at hk
          exact Decidable.not_not.1 hk.2
        exact ⟨i,h1,h2,h3.trans h4.symm⟩
  constructor
  · rw [Lib.compact,Lib.compactUpTo,List.pairwise_map]
    refine List.Pairwise.imp_of_mem ?_ ((List.pairwise_lt_range (n:=l.length)).filter _)
    intro i j hi hj hij
    obtain ⟨hj1,hj2⟩:=List.mem_filter.1 hj
    have hjl:j < l.length:=List.mem_range.1 hj1
    simp only [Lib.keeps,decide_eq_true_eq] at hj2
    rcases hj2 with h | h
    · omega
    · have a1:=hat i (j - 1) O O
      have a2:=hat (j - 1) j O hjl
      omega
  · intro x
    rw [Lib.compact,Lib.compactUpTo,List.mem_map]
    constructor
    · rintro ⟨i,hi,rfl⟩
      have hil:i < l.length:=List.mem_range.1 (List.mem_filter.1 hi).1
      rw [getElem!_pos l.toArray i (by simpa using hil)]
      simp
    · intro hx
      obtain ⟨j,hj,rfl⟩:=List.mem_iff_getElem.1 hx
      obtain ⟨i,h1,h2,h3⟩:=hmem j hj
      refine ⟨i,List.mem_filter.2 ⟨List.mem_range.2 h1,h2⟩,h3.trans ?_⟩
      rw [getElem!_pos l.toArray j (by simpa using hj)];simp
theorem qle(l:List Int):(qgN l).Pairwise (·≤·)∧∀ x,x∈qgN l↔x∈l:=by
 refine ⟨?_,fun x=>(List.mergeSort_perm l _).mem_iff⟩
 have h:=List.pairwise_mergeSort (le:=fun (x y:Int)=>decide (x≤y)) (fun a b c h1 h2=>by simp only [decide_eq_true_eq] at *;omega) (fun a b=>by simp only [Bool.or_eq_true,decide_eq_true_eq];omega) l
 exact h.imp fun h=>by simpa using h
end Go.Proofs.YtpdnijphccdiiaaGreatDoor
