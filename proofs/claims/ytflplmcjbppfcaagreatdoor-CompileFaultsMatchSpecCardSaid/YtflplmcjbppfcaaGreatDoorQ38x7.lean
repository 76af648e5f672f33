/- Part 7. -/
import Derived.Test.YtflplmcjbppfcaaGreatDoorQ38x6
import Derived.RangeFuncIn
import Derived.RangeFuncLeaves
import Derived.RangeFuncCalls
import Derived.RangeFuncRecord
import Derived.TacticsIn
import Derived.Sort.LoopGhostIn
import Derived.OrdersIn
set_option linter.unusedVariables false
set_option linter.defProp false
set_option linter.unusedSimpArgs false
set_option linter.unnecessarySimpa false
set_option maxRecDepth 100000
set_option maxHeartbeats 8000000
namespace Go.Proofs.YtflplmcjbppfcaaGreatDoor
open Go Go.FL
abbrev Use:=Str×Int×Int
def qfK(x:Stm):Use:=if x.kind=1 then (x.name,1,0) else if x.kind=2 then (x.name,3,0) else if x.kind=5 then (x.name,4,(x.exprs.length:Int)) else ([],0,0)
def qfO(x:Ex):Use:=if x.kind=2 then (x.name,2,0) else if x.kind=3 then (x.name,3,0) else if x.kind=4 then (x.name,4,(x.args.length:Int)) else ([],0,0)
inductive Nd where
 | st (x:Stm) (loops:Nat)
 | ex (x:Ex) (loops:Nat)
mutual
def ndX:Ex→Nat→List Nd
 | .mk k o n nm az,lp=>.ex (.mk k o n nm az) lp::qea az lp
def qea:List Ex→Nat→List Nd
 | [],_=>[]
 | x::r,lp=>ndX x lp++qea r lp
end
mutual
def ndS:Stm→Nat→List Nd
 | .mk k nm es b e,lp=>.st (.mk k nm es b e) lp::(qea es lp++(qcG b (if k=4 then lp+1 else lp)++qcG e (if k=4 then lp+1 else lp)))
def qcG:List Stm→Nat→List Nd
 | [],_=>[]
 | x::r,lp=>ndS x lp++qcG r lp
end
def qgC:List Glo→List Str→Nat→Int×Int
 | [],_,_=>(0,0)
 | g::r,seen,i=>if g.name∈seen then (8,(i:Int)) else qgC r (seen++[g.name]) (i+1)
def qgn:List Fnc→List Str→Nat→Int×Int
 | [],_,_=>(0,0)
 | x::r,seen,i=>if x.name∈seen∨¬ (x.params++x.locals).Nodup then (8,(i:Int)) else qgn r (seen++[x.name]) (i+1)
def qcU:Str:=[109,97,105,110]
def qfY(l:List Fnc):Int:=qbt (fun x=>decide (x.name=qcU)) l 0
def qb2(p:Prg):Int×Int:=if (qgC p.globals [] 0).1≠0 then qgC p.globals [] 0 else if (qgn p.funcs (p.globals.map Glo.name) p.globals.length).1≠0 then qgn p.funcs (p.globals.map Glo.name) p.globals.length
 else if qfY p.funcs < 0 then (12,-1) else match p.funcs[(qfY p.funcs).toNat]? with
  | some x=>if x.params=[] then (0,0) else (9,-1)
  | none=>(0,0)
def idxOf_mem{w:Str}:∀ {l:List Str} {k:Nat},(0≤qbt (fun x=>decide (w=x)) l k)↔w∈l
 | [],k=>by simp [qbt]
 | x::r,k=>by
  rw [qbt];by_cases h:w=x
  · simp [h]
  · rw [if_neg (by simpa using h),idxOf_mem];simp [h]
def qhS{α:Type}{p:α→Bool}{x:α}:∀ {l:List α} {k:Nat},qbt p (l++[x]) k=if 0≤qbt p l k then qbt p l k else if p x=true then ((k+l.length:Nat):Int) else -1
 | [],k=>by simp [qbt]
 | y::r,k=>by
  rw [List.cons_append,qbt,qbt];by_cases h:p y=true
  · rw [if_pos h,if_pos h,if_pos O]
  · rw [if_neg h,if_neg h,qhS,List.length_cons,show k+1+r.length=k+(r.length+1) by omega]
def qiu{α:Type}{p:α→Bool}:∀ {l:List α} {k:Nat},qbt p l k < ((k+l.length:Nat):Int)
 | [],k=>by simp [qbt];omega
 | y::r,k=>by
  rw [qbt];split
  · rw [List.length_cons];omega
  · have:=qiu (p:=p) (l:=r) (k:=k+1);rw [List.length_cons];omega
def qiy{l:List Glo}{k i:Nat}{x:Glo}{seen:List Str}(h:l[k]?=some x):qgC (l.drop k) seen i=if x.name∈seen then (8,(i:Int)) else qgC (l.drop (k+1)) (seen++[x.name]) (i+1):=by
 obtain ⟨hk,rfl⟩:=List.getElem?_eq_some_iff.1 h;rw [List.drop_eq_getElem_cons hk,qgC]
def qe2{l:List Fnc}{k i:Nat}{x:Fnc}{seen:List Str}(h:l[k]?=some x):qgn (l.drop k) seen i=if x.name∈seen∨¬ (x.params++x.locals).Nodup then (8,(i:Int)) else qgn (l.drop (k+1)) (seen++[x.name]) (i+1):=by
 obtain ⟨hk,rfl⟩:=List.getElem?_eq_some_iff.1 h;rw [List.drop_eq_getElem_cons hk,qgn]
def qf0{l:List Str}{k:Nat}{x:Str}(h:l[k]?=some x)(hn:(l.take k).Nodup)(hx:x ∉ l.take k):(l.take (k+1)).Nodup:=by
 obtain ⟨hk,rfl⟩:=List.getElem?_eq_some_iff.1 h;rw [List.take_succ_eq_append_getElem hk,List.nodup_append];refine ⟨hn,by simp,fun a ha b hb=>?_⟩;rw [List.mem_singleton] at hb;subst hb;intro e;subst e;exact hx ha
def qdB{l:List Str}{k:Nat}{x:Str}(h:l[k]?=some x)(hx:x∈l.take k):¬ l.Nodup:=by
 obtain ⟨hk,rfl⟩:=List.getElem?_eq_some_iff.1 h;intro hn;have h2:(l.take k++l.drop k).Nodup:=by rw [List.take_append_drop];exact hn
 rw [List.nodup_append] at h2;exact h2.2.2 _ hx _ (by rw [List.drop_eq_getElem_cons hk];exact List.mem_cons_self ..) rfl
open Go.Proofs.Tryz
open Go.FL
attribute [local irreducible] JC JO JA JB qaZ qaL qb4 AC fill CellsAt QE Ev Mid
def qen(D:Nat)(L:Hl)(s:World)(c i:Int):AC prog D 44 [.int .i64 c,.int .i64 i] L s fun v L' _=>v=.agg #[.int .i64 c,.int .i64 i]∧L=L':=by
 refine qae (fn:=f44) qav func44 V Z ntmps44 Z (rs:=[.cell 4 27]) Z [(0,_),(1,_)] Z<|Sr<|qag Z [_,_] Z Z fun β1 s1 h1=>Nt<|Sr<|Zqm Z Z<|Zqm Z Z<|qad (qak [(_,_),(_,_)] [_,_] Z Z Z Z Z Z) Z<|Wt 0 [_,_] Y9<|Nt<|Zo<|?_;exact rR [_] L (.agg (us:=[_,_]) 0 Z Z Z Z Z (.nil)) Z h1 fun _ hS2=>⟨rfl,rfl⟩
def qAe{p:Prop} (h:p:=by
 subst hn;refine ⟨?_,Z⟩;simp only [qbP];unfold qfK;repeat' split
 all_goals (first|rfl|(exfalso;omega)|(exfalso;simp_all;done))):p:=h
def qBF(D:Nat)(L:Hl)(s:World)(x:Stm)(b o:Nat)(A1 A2 A3:Option Addr)(n1 q1 n2 q2 n3 q3:Nat)(hx:CellsAt s b o [.int .i64 x.kind,St x.name,.slice A1 n1 q1,.slice A2 n2 q2,.slice A3 n3 q3])(hn:n1=x.exprs.length)(lp:Int):AC prog D 74 [.agg #[.pointer (some ⟨b,o,none⟩),.pointer none,.int .i64 lp]] L s fun v L' _=>v=.agg #[St (qfK x).1,.int .i64 (qfK x).2.1,.int .i64 (qfK x).2.2]∧L=L':=by
 refine qae (fn:=f74) qav func74 V Z ntmps74 Z (rs:=[.cell 2 160]) Z [(0,_)] Z<|Sr<|qay Z Z fun β1 s1 h1=>qag Z [_,_,_] Z Z fun β2 s2 h2=>Nt<|Zs<|Sr<|W0 Y5<|Wl 1 Y6<|qad (qaz (v':=.bool true) (qk1 underlying108 Z) Z) Z<|Nt<|Zy Z<|Zs<|Sr<|W0 Y5<|Wl 1 Y6<|At Z Z<|Sr<|Zqm Z Z<|qaQ Z Z<|W0 Y5<|qad (qaq Z Z Z (hx.le (h1.t h2)) Z) Z<|Nt<|Zp<|Sr<|qax Z Z Z<|At Z Z<|?_;have e2:=h1.t h2;refine qaa Z ?_ ?_<;>intro c3;·refine Sr<|Zqm Z Z<|qaQ Z Z<|qad (qbm Z Z Z Z) Z<|qad (qaF 1 Z Z Z (hx.le e2) Z) Z<|qad (qak [(_,_),(_,_),(_,_)] [_,_,_] Z Z Z Z Z Z) Z<|Wt 0 [_,_,_] Y9<|Nt<|Zo<|Zc<|Zu<|Zu<|?_;exact rR [_,_] L (.agg (us:=[_,_,_]) 0 Z Z Z Z Z (.nil)) Z e2 fun _ hS2=>qAe
 refine Sr<|qax Z Z Z<|At Z Z<|?_;refine qaa Z ?_ ?_<;>intro c4;·refine Sr<|Zqm Z Z<|qaQ Z Z<|qad (qbm Z Z Z Z) Z<|qad (qaF 1 Z Z Z (hx.le e2) Z) Z<|qad (qak [(_,_),(_,_),(_,_)] [_,_,_] Z Z Z Z Z Z) Z<|Wt 0 [_,_,_] Y9<|Nt<|Zo<|Zc<|Zu<|Zu<|?_;exact rR [_,_] L (.agg (us:=[_,_,_]) 0 Z Z Z Z Z (.nil)) Z e2 fun _ hS2=>qAe
 refine Sr<|qax Z Z Z<|At Z Z<|?_;refine qaa Z ?_ ?_<;>intro c5;·refine Zs<|qaH qac 11 Z [0] (by intro x hx;exact qas hx) fun s6 h6=>za 0 Z (qan Z) Z<|za 1 Z (qam Z) Z<|za 2 Z (qbm Z Z Z Z) Z<|za 3 Z (qaF 1 Z Z Z (hx.le (e2.t h6)) Z) Z<|za 4 Z (qan Z) Z<|za 5 Z (qam Z) Z<|za 6 Z (qbm Z Z Z Z) Z<|za 7 Z (qaF 2 Z Z Z (hx.le (e2.t h6)) Z) Z<|za 8 Z (qbi Z Z Z) Z<|za 9 Z (qak [(_,_),(_,_),(_,_)] [_,_,_] Z Z Z Z Z Z) Z<|qar 10 V<|Wu Z Tt 0 [_,_,_] Y9 (sM (sbY (sbE _)))<|qaf V<|Zt<|Zo<|Zc<|Zu<|Zu<|?_;exact rR [_,_] L (.agg (us:=[_,_,_]) 0 Z Z Z Z Z (.nil)) Z (e2.t h6) fun _ hS2=>qAe
 refine Zk<|Zb<|Zt<|Sr<|qad (qak [] [_,_,_] Z Z Z Z Z Z) Z<|Wt 0 [_,_,_] Y9<|Nt<|Zo<|Zu<|?_;exact rR [_,_] L (.agg (us:=[_,_,_]) 0 Z Z Z Z Z (.nil)) Z e2 fun _ hS2=>qAe
def qAf{p:Prop} (h:p:=by
 subst hn;refine ⟨?_,Z⟩;simp only [qbP];unfold qfO;repeat' split
 all_goals (first|rfl|(exfalso;omega)|(exfalso;simp_all;done))):p:=h
def qBE(D:Nat)(L:Hl)(s:World)(x:Ex)(b o:Nat)(A:Option Addr)(n c:Nat)(hx:CellsAt s b o [.int .i64 x.kind,.int .i64 x.op,.int .u32 x.num,St x.name,.slice A n c])(hn:n=x.args.length)(lp:Int):AC prog D 74 [.agg #[.pointer none,.pointer (some ⟨b,o,none⟩),.int .i64 lp]] L s fun v L' _=>v=.agg #[St (qfO x).1,.int .i64 (qfO x).2.1,.int .i64 (qfO x).2.2]∧L=L':=by
 refine qae (fn:=f74) qav func74 V Z ntmps74 Z (rs:=[.cell 2 160]) Z [(0,_)] Z<|Sr<|qay Z Z fun β1 s1 h1=>qag Z [_,_,_] Z Z fun β2 s2 h2=>Nt<|Zs<|Sr<|W0 Y5<|Wl 1 Y6<|qad (qaz (v':=.bool false) (qk1 underlying108 Z) Z) Z<|Nt<|Zz Z<|Zk<|Zt<|Zs<|Sr<|Wb Y5<|Wl 1 Y6<|At Z Z<|Sr<|Zqm Z Z<|qaQ Z Z<|W0 Y5<|qad (qaq Z Z Z (hx.le (h1.t h2)) Z) Z<|Nt<|Zp<|Sr<|qax Z Z Z<|At Z Z<|?_;have e2:=h1.t h2;refine qaa Z ?_ ?_<;>intro c3;·refine Sr<|Zqm Z Z<|qaQ Z Z<|qad (qbm Z Z Z Z) Z<|qad (qaF 3 Z Z Z (hx.le e2) Z) Z<|qad (qak [(_,_),(_,_),(_,_)] [_,_,_] Z Z Z Z Z Z) Z<|Wt 0 [_,_,_] Y9<|Nt<|Zo<|Zc<|Zu<|?_;exact rR [_,_] L (.agg (us:=[_,_,_]) 0 Z Z Z Z Z (.nil)) Z e2 fun _ hS2=>qAf
 refine Sr<|qax Z Z Z<|At Z Z<|?_;refine qaa Z ?_ ?_<;>intro c4;·refine Sr<|Zqm Z Z<|qaQ Z Z<|qad (qbm Z Z Z Z) Z<|qad (qaF 3 Z Z Z (hx.le e2) Z) Z<|qad (qak [(_,_),(_,_),(_,_)] [_,_,_] Z Z Z Z Z Z) Z<|Wt 0 [_,_,_] Y9<|Nt<|Zo<|Zc<|Zu<|?_;exact rR [_,_] L (.agg (us:=[_,_,_]) 0 Z Z Z Z Z (.nil)) Z e2 fun _ hS2=>qAf
 refine Sr<|qax Z Z Z<|At Z Z<|?_;refine qaa Z ?_ ?_<;>intro c5;·refine Zs<|qaH qac 11 Z [0] (by intro x hx;exact qas hx) fun s6 h6=>za 0 Z (qan Z) Z<|za 1 Z (qam Z) Z<|za 2 Z (qbm Z Z Z Z) Z<|za 3 Z (qaF 3 Z Z Z (hx.le (e2.t h6)) Z) Z<|za 4 Z (qan Z) Z<|za 5 Z (qam Z) Z<|za 6 Z (qbm Z Z Z Z) Z<|za 7 Z (qaF 4 Z Z Z (hx.le (e2.t h6)) Z) Z<|za 8 Z (qbi Z Z Z) Z<|za 9 Z (qak [(_,_),(_,_),(_,_)] [_,_,_] Z Z Z Z Z Z) Z<|qar 10 V<|Wu Z Tt 0 [_,_,_] Y9 (sM (sbY (sbE _)))<|qaf V<|Zt<|Zo<|Zc<|Zu<|?_;exact rR [_,_] L (.agg (us:=[_,_,_]) 0 Z Z Z Z Z (.nil)) Z (e2.t h6) fun _ hS2=>qAf
 refine Zk<|Zb<|Zt<|Sr<|qad (qak [] [_,_,_] Z Z Z Z Z Z) Z<|Wt 0 [_,_,_] Y9<|Nt<|Zo<|?_;exact rR [_,_] L (.agg (us:=[_,_,_]) 0 Z Z Z Z Z (.nil)) Z e2 fun _ hS2=>qAf
def qhb(D:Nat)(L:Hl)(s:World)(A:Option Addr)(n c:Nat)(l:List Str)(hA:Strs s A n c l)(w:Str):AC prog D 69 [.slice A n c,St w] L s fun v L' _=>v=.bool (decide (w∈l))∧L=L':=by
 have h:=ql2 D L s A n c l hA w
 rwa [show decide (0≤qbt (fun x=>decide (w=x)) l 0)=decide (w∈l) from decide_eq_decide.2 idxOf_mem] at h
def qrS:qh5 prog 69:=by
 have h:=qhb 0 [] (default:World) none 0 0 [] ⟨rfl,Nat.zero_le _,by omega,fun i x h=>by cases h⟩ [];exact AC.ok h
def qjV(D:Nat)(X L:Hl)(s:World)(M:Hl)(A:Option Addr)(n c:Nat)(l:List Str)(hO:FL.Own 9 1 M (.slice A n c) n (sb l))(hu:∀ x∈l,x.length≤9223372036854775807)(hn:n=l.length)(w:Str):AC prog D 69 [.slice A n c,St w] (X++(M++L)) s fun v L' _=>v=.bool (decide (w∈l))∧L'=X++(M++L):=
 AC.perm (List.perm_append_comm_assoc ..) (AC.lend M (qud hO) qrS fun ho=>qhb D (X++L) _ A n c l (Own.strs hO hu (qo5 ho) hn) w) fun v L1 s1 ⟨g0,g1⟩=>⟨_,by rw [← g1];exact List.perm_append_comm_assoc ..,g0,rfl⟩
def qwd(D:Nat)(L:Hl)(s:World)(A:Option Addr)(n c:Nat)(l:List Str)(hA:Strs s A n c l):AC prog D 70 [.slice A n c] L s fun v L' _=>v=.bool (decide (¬ l.Nodup))∧L=L':=by
 have hn:=hA.1;have hq1:=hA.2.1;have hq2:=hA.2.2.1;refine qae (fn:=f70) qav func70 V Z ntmps70 Z (rs:=[.tmp 2]) Z [(0,_)] Z<|Sr<|At Z Z<|Zs<|Sr<|Zqm Z Z<|Ws Y4<|Zqm Z Z<|Nt<|Zp<|qaA (γ:=Nat) (fun k=>[(0,_),(2,_),(5,_),(6,_),(7,.int .i64 (k:Int))]) (fun _=>_) (fun k tw=>Le D s tw∧(k≤n∧(l.take k).Nodup)) (fun k=>n - k) (fun _ _ _ h hl=>⟨h.1.trans hl,h.2⟩) 0 (.c5 Z Z Z Z Z (.nil _)) Z ⟨Le.refl _,⟨Nat.zero_le _,by simp⟩⟩ ?_;intro k s1 I1;have hk0:=I1.2.1;have hI:=I1.2.2;refine Sr<|qa8 Z Z Z<|Nt<|Zs<|?_;refine qaa Z ?_ ?_<;>intro c2
 ·have hk:k < n:=by omega
  obtain ⟨b,off,x,rfl,hx,hcx,hxl⟩:=Strs.at_ (hA.le I1.1) hk;refine Zk<|Zt<|Zs<|Zp<|Sr<|Zqm Z Z<|qad (qaU Z Z Z Z Z Z hk) Z<|qad (qaq Z Z Z (hcx.le (Lr D)) Z) Z<|Zqa Z Z<|At Z Z<|Sr<|Zqm Z Z<|Zqm Z Z<|qad (qhC (j:=k) Z Z Z Z Z O) Z<|Zqm Z Z<|Je Z Z Z (qhb D _ _ _ k c (l.take k) (Sl.take (hA.le I1.1) hk) x) fun s3 h3=>Nt<|?_;refine qaa Z ?_ ?_<;>intro c4;·have hz:=c4;refine Sr<|At Z Z<|Zo<|Zc<|Zu<|Zu<|Zc<|Zu<|?_;exact rR [] L (.t1 Z) Z (I1.1.t h3) fun _ hS2=>⟨by rw [decide_eq_true (qdB hx hz)];rfl,rfl⟩
  have hz:=c4;refine Zk<|Zb<|Zt<|Zr<|qaD Z Z Z (w64 O O)<|Zqm Z Z<|Zn<|?_;refine qab ⟨(k+1),[],kp,Z,⟨(I1.1.t h3),⟨by omega,qf0 hx hI hz⟩⟩,O⟩
 rw [List.take_of_length_le O] at hI;refine Zl<|Zv<|Zv<|Zd<|Zt<|Sr<|At Z Z<|Zo<|?_;exact rR [] L (.t1 Z) Z I1.1 fun _ hS2=>⟨by rw [decide_eq_false (fun h=>h hI)];rfl,rfl⟩
def qoM{p:Prg}:(∀ {l:List Glo} {seen:List Str} {i:Nat},(qgC l seen i).1=0→qgC l seen i=(0,0))∧∀ {l:List Fnc} {seen:List Str} {i:Nat},(qgn l seen i).1=0→qgn l seen i=(0,0):=by
  constructor
  · intro l
    induction l with
    | nil=>intros;rfl
    | cons x r ih=>
      intro seen i h;rw [qgC] at h ⊢;split at h
      · cases h
      · rename_i h1;rw [if_neg h1];exact ih h
  · intro l
    induction l with
    | nil=>intros;rfl
    | cons x r ih=>
      intro seen i h;rw [qgn] at h ⊢;split at h
      · cases h
      · rename_i h1;rw [if_neg h1];exact ih h
def nF_g{p:Prg}(h:(qgC p.globals [] 0).1≠0):qb2 p=qgC p.globals [] 0:=by rw [qb2,if_pos h]
def qAl{p:Prg}(h0:qgC p.globals [] 0=(0,0))(h:(qgn p.funcs (p.globals.map Glo.name) p.globals.length).1≠0):qb2 p=qgn p.funcs (p.globals.map Glo.name) p.globals.length:=by rw [qb2,h0,if_neg (by simp),if_pos h]
def nF_m{p:Prg}(h0:qgC p.globals [] 0=(0,0))(h1:qgn p.funcs (p.globals.map Glo.name) p.globals.length=(0,0))(h:qfY p.funcs < 0):qb2 p=(12,-1):=by rw [qb2,h0,if_neg (by simp),h1,if_neg (by simp),if_pos h]
def nF_p{p:Prg}{x:Fnc}{j:Nat}(h0:qgC p.globals [] 0=(0,0))(h1:qgn p.funcs (p.globals.map Glo.name) p.globals.length=(0,0))(h:qfY p.funcs=(j:Int))(hx:p.funcs[j]?=some x):qb2 p=if x.params=[] then (0,0) else (9,-1):=by
 rw [qb2,h0,if_neg (by simp),h1,if_neg (by simp),h,if_neg O,Int.toNat_natCast,hx]
def qlM{p:Prg}(hV:PV p):(∀ w∈p.globals.map Glo.name,w.length≤9223372036854775807)∧∀ w∈p.funcs.map Fnc.name,w.length≤9223372036854775807:=by
  obtain ⟨_,_,hg,hf,_⟩:=hV;constructor
  · intro w hw
    obtain ⟨x,hx,rfl⟩:=List.mem_map.1 hw;have:=qbG (qbY (hg x hx).1).2.2.1;omega
  · intro w hw
    obtain ⟨x,hx,rfl⟩:=List.mem_map.1 hw;have:=qbG (hf x hx).1;omega
def qlG{α:Type}{p:α→Bool}:∀ {l:List α} {k:Nat},(0≤qbt p l k→∃ y∈l,p y=true)∧(qbt p l k < 0→qbt p l k=-1)
  | [],k=>⟨fun h=>by simp [qbt] at h,fun _=>rfl⟩
  | y::r,k=>by
    rw [qbt];by_cases h:p y=true
    · rw [if_pos h];exact ⟨fun _=>⟨y,List.mem_cons_self ..,h⟩,fun h=>by omega⟩
    · rw [if_neg h]
      have ih:=qlG (p:=p) (l:=r) (k:=k+1);exact ⟨fun h=>by obtain ⟨z,h1,h2⟩:=ih.1 h;exact ⟨z,List.mem_cons_of_mem _ h1,h2⟩,ih.2⟩
def qjH{l:List Fnc}{k:Nat}{x:Fnc}(hx:l[k]?=some x)(hz:x.name ∉ (l.take k).map Fnc.name):qbt (fun x:Fnc=>decide (x.name=qcU)) (l.take (k+1)) 0=if x.name=qcU then (k:Int) else qbt (fun x:Fnc=>decide (x.name=qcU)) (l.take k) 0:=by
  obtain ⟨hk,rfl⟩:=List.getElem?_eq_some_iff.1 hx;rw [List.take_succ_eq_append_getElem hk,qhS,List.length_take];have he:=qlG (p:=fun x:Fnc=>decide (x.name=qcU)) (l:=l.take k) (k:=0);by_cases hm:l[k].name=qcU
  · rw [if_pos hm,if_neg,if_pos (by simpa using hm),show min k l.length=k by omega,Nat.zero_add]
    intro h0;obtain ⟨y,hy,e⟩:=he.1 h0;exact hz (List.mem_map.2 ⟨y,hy,by rw [hm];simpa using e⟩)
  · rw [if_neg hm]
    split
    · rfl
    · rename_i h0
      rw [if_neg (by simpa using hm)];exact (he.2 O).symm
def qvy(D:Nat)(L:Hl)(s:World)(d:Nat)(p:Prg)(Ag Af:Option Addr)(ng cg nf cf:Nat)(hGl:Glos s Ag ng cg p.globals)(hFn:Fncs d s Af nf cf p.funcs)(hV:PV p):AC prog D 40 [.agg #[.slice Ag ng cg,.slice Af nf cf]] L s fun v L' _=>v=.agg #[.int .i64 (qb2 p).1,.int .i64 (qb2 p).2]∧L=L':=by
 have hn1:=hGl.1;have hn2:=hFn.1;obtain ⟨hN1,hN2⟩:=qlM hV;have hV1:=hV.1;have hV2:=hV.2.1;have hVf:=hV.2.2.2.1;refine qae (fn:=f40) qav func40 V Z ntmps40 Z (rs:=[.cell 2 27]) Z [(0,_)] Z<|Sr<|qay Z Z fun β1 s1 h1=>qag Z [_,_] Z Z fun β2 s2 h2=>Nt<|Sr<|At Z Z<|Zs<|Sr<|W0 Y5<|Wl 1 Y6<|Ws Y4<|Zqm Z Z<|Nt<|Zp<|?_;have e2:=h1.t h2;refine qaA (γ:=Nat×Value×Hl) (fun g=>[(1,_),(2,_),(3,g.2.1),(10,_),(11,_),(12,.int .i64 (g.1:Int))]) (fun g=>_::_::(g.2.2++L)) (fun g tw=>Le D s2 tw∧(g.1≤ng∧FL.Own 9 1 g.2.2 g.2.1 g.1 (sb ((p.globals.take g.1).map Glo.name))∧qgC p.globals [] 0=qgC (p.globals.drop g.1) ((p.globals.take g.1).map Glo.name) g.1)) (fun g=>ng - g.1) (fun _ _ _ h hl=>⟨h.1.trans hl,h.2⟩) (0,.slice none 0 0,[]) (.c6 Z Z Z Z Z Z (.nil _)) Z ⟨Le.refl _,⟨Nat.zero_le _,Own.nil,Z⟩⟩ ?_;intro g s3 I3;have e3:=e2.t I3.1;obtain ⟨k,vo,Mo⟩:=g;obtain ⟨hk0,hO,hS⟩:=I3.2;simp only at hk0 hO hS;dsimp only;obtain ⟨Av,cv,rfl,hv1,hv2⟩:=Own.slice hO;refine Sr<|qa8 Z Z Z<|Nt<|Zs<|?_;refine qaa Z ?_ ?_<;>intro c4
 ·have hk:k < ng:=by omega
  obtain ⟨b,off,x,Ai,ni,ci,rfl,hx,hcx,hix,hux,hnl⟩:=Glos.at_ (hGl.le e3) hk;refine Zk<|Zt<|Zs<|Zp<|Sr<|Zqm Z Z<|qad (qau Z Z Z Z Z Z hk) Z<|qad (qaw Z Z Z (hcx.le (Lr D)) Z) Z<|qag Z [_,_,_,_] Z Z fun β5 s5 h5=>Zqa Z Z<|Wt 0 [_,_,_,_] Y9<|Nt<|Zs<|Sr<|Zqm Z Z<|Wb Y5<|Wl 0 Y6<|Jc Z Z Z (qjV D [_,_,_] L _ Mo Av k cv _ hO (fun w hw=>hN1 w (by rw [List.map_take] at hw;exact List.mem_of_mem_take hw)) (by rw [List.length_map,List.length_take];omega) x.name) ?_;rintro _ _ s6 h6 ⟨rfl,rfl⟩;simp only [cQ9,nQ9];refine Nt<|?_;refine qaa Z ?_ ?_<;>intro c7
  ·have hE:qb2 p=(8,(k:Int)):=by
     have h9:qgC p.globals [] 0=(8,(k:Int)):=by rw [hS,qiy hx,if_pos c7]
     rw [nF_g (by rw [h9];simp),h9]
   refine Sr<|Zqm Z Z<|Je Z Z Z (qen D _ _ _ _) fun s8 h8=>Wt 1 [_,_] Y9<|Nt<|Zo<|Zu<|Zc<|Zu<|Zu<|Zc<|Zu<|?_;exact rR (_::_::_::Mo) L (.agg (us:=[_,_]) 1 Z Z Z Z Z (.nil)) Z (e3.t h5|>.t h6|>.t h8) fun _ hS2=>qck
  have hz:=c7;refine Zk<|Zt<|Zr<|Zqm Z Z<|Wb Y5<|Wl 0 Y6<|qa4 [(_,_)] [_] Z Z Z Z Z Z Z Z Z fun βn s9 h9 hcb=>qbq (sz:=1) [_,_,_] Mo L Z Z Z Z Z Z Z hO (Row.of_cells (hcb.le (Lr D)) Z Z) ⟨by simp [ti9];omega,by omega⟩ Z ?_;intro vq Mq s10 h10 oq;obtain ⟨Avq,cvq,rfl,_,_⟩:=Own.slice oq;simp only [cQ9,nQ9];refine Zqa Z Z<|Zn<|Zb<|Zt<|Zr<|qaD Z Z Z (w64 O O)<|Zqm Z Z<|Zn<|?_;refine qab ⟨(k+1,.slice Avq (k+1) cvq,Mq),[_],kp,Z,⟨(I3.1.t h5|>.t h6|>.t h9|>.t h10),⟨by simp only;omega,by rw [qaS Glo.name hx,qcK];exact oq,by simp only;rw [hS,qiy hx,if_neg hz,qaS Glo.name hx]⟩⟩,Oz⟩
 obtain rfl:ng=k:=by omega
 rw [List.drop_eq_nil_of_le O,qgC] at hS;rw [List.take_of_length_le O] at hO;refine Zl<|Zv<|Zv<|Zd<|Zt<|Sr<|At Z Z<|Zs<|Sr<|Wb Y5<|Wl 1 Y6<|Ws Y4<|Zqm Z Z<|Nt<|Zp<|?_;refine qaA (γ:=Nat×Value×Hl) (fun g=>[(1,_),(2,_),(3,g.2.1),(6,.int .i64 (qbt (fun x=>decide (x.name=qcU)) (p.funcs.take g.1) 0)),(30,_),(31,_),(32,.int .i64 (g.1:Int))]) (fun g=>_::_::(g.2.2++L)) (fun g tw=>Le D s3 tw∧(g.1≤nf∧FL.Own 9 1 g.2.2 g.2.1 (ng+g.1) (sb (p.globals.map Glo.name++(p.funcs.take g.1).map Fnc.name))∧qgn p.funcs (p.globals.map Glo.name) p.globals.length=qgn (p.funcs.drop g.1) (p.globals.map Glo.name++(p.funcs.take g.1).map Fnc.name) (p.globals.length+g.1))) (fun g=>nf - g.1) (fun _ _ _ h hl=>⟨h.1.trans hl,h.2⟩) (0,.slice Av ng cv,Mo) (.c6 Z Z Z Z Z Z (.cons Z (.nil _))) Z ⟨Le.refl _,⟨Nat.zero_le _,by simpa using hO,by simp⟩⟩ ?_;intro g s11 I11;have e11:=e3.t I11.1;obtain ⟨k,vo,Mo⟩:=g;obtain ⟨hk0,hO,hS2⟩:=I11.2;simp only at hk0 hO hS2;dsimp only;obtain ⟨Av,cv,rfl,hv1,hv2⟩:=Own.slice hO;refine Sr<|qa8 Z Z Z<|Nt<|Zs<|?_;refine qaa Z ?_ ?_<;>intro c12
 ·have hk:k < nf:=by omega
  obtain ⟨b,off,x,B1,m1,d1,B2,m2,d2,B3,m3,d3,rfl,hx,hcx,hpx,hlx,hbx,hnl⟩:=Fncs.at_ (hFn.le e11) hk;obtain ⟨hi1,hi2,hi3,hi4,hi5,hi6⟩:=hVf x (List.mem_of_getElem? hx);have hp9:=hpx.1;have hl9:=hlx.1;refine Zk<|Zt<|Zs<|Zp<|Sr<|Zqm Z Z<|qad (qau Z Z Z Z Z Z hk) Z<|qad (qaw Z Z Z (hcx.le (Lr D)) Z) Z<|qag Z [_,_,_,_] Z Z fun β13 s13 h13=>Zqa Z Z<|Wt 0 [_,_,_,_] Y9<|Nt<|Zs<|?_;refine qa9 49 (x.name∈(p.globals.map Glo.name++(p.funcs.take k).map Fnc.name)∨¬ (x.params++x.locals).Nodup) ?_ ?_
  ·refine Zr<|Zqm Z Z<|W0 Y5<|Wl 0 Y6<|Jc Z Z Z (qjV D [_,_,_] L _ Mo Av (ng+k) cv _ hO (fun w hw=>(List.mem_append.1 hw).elim (hN1 w) (fun hw=>hN2 w (by rw [List.map_take] at hw;exact List.mem_of_mem_take hw))) (by rw [List.length_append,List.length_map,List.length_map,List.length_take];omega) x.name) ?_;rintro _ _ s15 h15 ⟨rfl,rfl⟩;simp only [cQ9,nQ9];refine Zqm Z Z ?_;refine qai (t:=41) Z ?_ ?_<;>intro c16;·refine Wf Y4<|Wf Y4<|Wf Y4<|Wf Y4<|Wf Y4<|Wf Y4<|Wf Y4<|ZqT Z Z Z<|Zn<|?_;refine qab (MidB.mk h15 Sb Z ((decide_eq_true (.inl As)).symm))
   refine Zg Z Z<|Wb Y5<|Zg Z Z<|Wl 0 Y6<|Zg Z Z<|Wb Y5<|Zg Z Z<|Wl 0 Y6<|Zg Z Z<|qa4 [(_,_),(_,_)] [_,_] Z Z Z Z Z Z Z Z Z fun βp s17 h17 hcp=>Zg Z Z<|Jc Z Z Z (qji D _ _ _ B1 B2 m1 d1 m2 d2 x.params x.locals (hpx.le (h13.t h15|>.t h17)) (hlx.le (h13.t h15|>.t h17)) (hcp.le (Lr D)) O O) ?_;rintro _ _ s18 h18 ⟨rfl,Aq,nq,cq,rfl,hQ⟩;refine Zg Z Z<|Je Z Z Z (qwd D _ _ Aq nq cq _ (hQ.le (Lr D))) fun s19 h19=>ZqF Z Z Z<|Zn<|?_;refine qab (MidB.mk (h15.t h17|>.t h18|>.t h19) Sb Z (decide_eq_decide.2 (⟨fun h=>.inr h,fun h=>h.resolve_left As⟩)))
  intro s14 h14;refine qaa Z ?_ ?_<;>intro c20
  ·have hE:qb2 p=(8,((ng+k:Nat):Int)):=by
     have h9:qgn p.funcs (p.globals.map Glo.name) p.globals.length=(8,((ng+k:Nat):Int)):=by rw [hS2,qe2 hx,if_pos c20,hn1]
     rw [qAl hS (by rw [h9];simp),h9]
   refine Sr<|W0 Y5<|Wl 2 Y6<|Ws Y4<|Zqm Z Z<|qad (qaC Z Z (show IntKind.i64.wrap ((ng:Int)+(k:Int))=((ng+k:Nat):Int) by rw [w64 O O];simp)) Z<|Je Z Z Z (qen D _ _ _ _) fun s21 h21=>Wt 1 [_,_] Y9<|Nt<|Zo<|Zu<|Zc<|Zu<|Zu<|Zc<|Zu<|?_;exact rR (_::_::_::Mo) L (.agg (us:=[_,_]) 1 Z Z Z Z Z (.nil)) Z (e11.t h13|>.t h14|>.t h21) fun _ hS2=>qck
  have hz:=c20;refine Zk<|Zt<|Sr<|Zqm Z Z<|W0 Y5<|Wl 0 Y6<|qa4 [(_,_)] [_] Z Z Z Z Z Z Z Z Z fun βn s22 h22 hcb=>qbq (sz:=1) [_,_,_] Mo L Z Z Z Z Z Z Z hO (Row.of_cells (hcb.le (Lr D)) Z Z) ⟨by simp [ti9];omega,by omega⟩ Z ?_;have e22:=I11.1.t h13|>.t h14|>.t h22;intro vq Mq s23 h23 oq;obtain ⟨Avq,cvq,rfl,_,_⟩:=Own.slice oq;simp only [cQ9,nQ9];refine At Z Z<|Sr<|W0 Y5<|Wl 0 Y6<|qht Z Z Z<|Nt<|?_;refine qaa Z ?_ ?_<;>intro c24;·have hmn:x.name=qcU:=c24;refine Zr<|Zqm Z Z<|Zqa Z Z<|Zn<|Zb<|Zt<|Zr<|qaD Z Z Z (w64 O O)<|Zqm Z Z<|Zn<|?_;refine qab ⟨(k+1,.slice Avq (ng+k+1) cvq,Mq),[_],(.c3 Z Z Z (.cons (congrArg (fun i=>some (Value.int .i64 i)) (by rw [qjH hx (fun h=>hz (.inl (List.mem_append_right _ h)))];first|rw [if_pos hmn]|rw [if_neg hmn])) kp)),Z,⟨(e22.t h23),⟨by simp only;omega,by rw [qaS Fnc.name hx,← List.append_assoc,qcK];exact oq,by simp only;rw [hS2,qe2 hx,if_neg hz,qaS Fnc.name hx,List.append_assoc];rfl⟩⟩,Oz⟩
  have hmn:¬ x.name=qcU:=c24;refine Zk<|Zb<|Zt<|Zr<|qaD Z Z Z (w64 O O)<|Zqm Z Z<|Zn<|?_;refine qab ⟨(k+1,.slice Avq (ng+k+1) cvq,Mq),[_],(.c3 Z Z Z (.cons (congrArg (fun i=>some (Value.int .i64 i)) (by rw [qjH hx (fun h=>hz (.inl (List.mem_append_right _ h)))];first|rw [if_pos hmn]|rw [if_neg hmn])) kp)),Z,⟨(e22.t h23),⟨by simp only;omega,by rw [qaS Fnc.name hx,← List.append_assoc,qcK];exact oq,by simp only;rw [hS2,qe2 hx,if_neg hz,qaS Fnc.name hx,List.append_assoc];rfl⟩⟩,Oz⟩
 rw [List.drop_eq_nil_of_le O,qgn] at hS2;rw [List.take_of_length_le (show p.funcs.length≤k by omega)];refine Zl<|Zv<|Zv<|Zd<|Zt<|Zs<|Sr<|Zqm Z Z<|qa8 Z Z Z<|Nt<|?_;refine qaa Z ?_ ?_<;>intro c25;·have hE:=nF_m hS hS2 (show qfY p.funcs < 0 from c25);refine Sr<|Je Z Z Z (qen D _ _ _ _) fun s26 h26=>Wt 0 [_,_] Y9<|Nt<|Zo<|Zu<|?_;exact rR (_::_::Mo) L (.agg (us:=[_,_]) 0 Z Z Z Z Z (.nil)) Z (e11.t h26) fun _ hS2=>qck
 obtain ⟨j,hj⟩:=Int.eq_ofNat_of_zero_le (show 0≤qfY p.funcs by unfold qfY;omega);have hjl:=qiu (p:=fun x:Fnc=>decide (x.name=qcU)) (l:=p.funcs) (k:=0);have hjl2:j < nf:=by unfold qfY at hj;omega
 obtain ⟨b,off,x,B1,m1,d1,B2,m2,d2,B3,m3,d3,rfl,hx,hcx,hpx,hlx,hbx,hnl⟩:=Fncs.at_ (hFn.le e11) hjl2;have hp9:=hpx.1;have hE:=nF_p hS hS2 hj hx;rw [show qbt (fun x:Fnc=>decide (x.name=qcU)) p.funcs 0=(j:Int) from hj];refine Zk<|Zt<|Zs<|Sr<|Wb Y5<|Wl 1 Y6<|Zqm Z Z<|qad (qau (j:=j) Z Z Z Z Z Z hjl2) Z<|qad (qbm Z Z Z Z) Z<|qad (qaF 1 Z Z Z (hcx.le (Lr D)) Z) Z<|Ws Y4<|qbl Z Z Z<|Nt<|?_;refine qaa Z ?_ ?_<;>intro c27;·rw [if_neg (fun h=>by rw [h] at hp9;simp at hp9;omega)] at hE;refine Sr<|Je Z Z Z (qen D _ _ _ _) fun s28 h28=>Wt 0 [_,_] Y9<|Nt<|Zo<|Zu<|?_;exact rR (_::_::Mo) L (.agg (us:=[_,_]) 0 Z Z Z Z Z (.nil)) Z (e11.t h28) fun _ hS2=>qck
 rw [if_pos (List.eq_nil_of_length_eq_zero O)] at hE;refine Zk<|Zt<|Sr<|qad (qak [] [_,_] Z Z Z Z Z Z) Z<|Wt 0 [_,_] Y9<|Nt<|Zo<|?_;exact rR (_::_::Mo) L (.agg (us:=[_,_]) 0 Z Z Z Z Z (.nil)) Z e11 fun _ hS2=>qck
end Go.Proofs.YtflplmcjbppfcaaGreatDoor
namespace Go.FL
open Go Go.RowKit
def MapS{κ:Type}(s:World)(kf:κ→Value)(b:Nat)(es:List (κ×Value×Nat)):Prop:=∃ ck,s.heap[b]?=some (mp kf es ck)
def MapS.le{κ:Type}{D:Nat}{s s':World}{kf:κ→Value}{b:Nat}{es:List (κ×Value×Nat)}(h:MapS s kf b es)(hl:Le D s s'):MapS s' kf b es:=by
 obtain ⟨ck,h⟩:=h;refine ⟨ck,?_⟩;have hb:b < s.heap.size:=by
  rcases Nat.lt_or_ge b s.heap.size with h1|h1
  · exact h1
  · rw [Array.getElem?_eq_none h1] at h;cases h
 rcases hl.block b hb with h1|h1
 · rw [h] at h1;cases h1
 · rw [h1,h]
def qdF{P:Program}{TT:qa5}{D:Nat}{fr:Fr}{ty:Nat}{K:Hl}{s0:World}{κ:Type} [DecidableEq κ] {dk:TypeDesc} {kf:κ→Value} (KK:KeyK κ dk kf) {t b:Nat} {x y:Operand} {z:Value} (hm:qfe P t dk z) {es:List (κ×Value×Nat)} {k:κ} (hx:lk fr x=some (.map (some b))) (hy:lk fr y=some (kf k)) (hi:MapS s0 kf b es) :
  QE P TT D fr (.lookup t x y true) ty K s0 (.tuple #[(qaW es k).getD z,.bool (qaW es k).isSome]):=fun hT dst pos af g ρ hρ L s ho hl hK=>by
 obtain ⟨ck,hb⟩:=hi.le (hl.trans (qei ho));simp only [execOp,hρ x _ hx,hρ y _ hy,Sem.run_bind,qd3 KK hm hb,Result.andThen_ok,Sem.run_pure];rfl
def AC.pubO{P:Program}{D:Nat}{f:FuncId}{args:List Value}{L:Hl}{s:World}{R:Value→Hl→World→Prop}(h:AC P D f args L s (fun v L' s'=>∃ M',L'=M'++L∧R v M' s')) :
  AC P D f args L s (fun v L' s'=>L=L'∧∃ M' s1,R v M' s1∧Le D s1 s'∧∀ b o,(b,o)∈M'→s'.heap[b]?=some o):=by
 refine ⟨h.1,fun ho=>(h.2 ho).mono ?_⟩;rintro e w' ⟨v,L',s',h1,rfl,h3,h4,M',rfl,h6⟩;obtain ⟨d1,d2,d3⟩:=qbn h3;exact ⟨v,L,fill M' s',h1,d1,d2,h4.trans d3,rfl,M',s',h6,d3,fun b o hm=>qa7 h3.left hm⟩
end Go.FL
namespace Go.Proofs.YtflplmcjbppfcaaGreatDoor
open Go.Proofs.Tryz
open Go.FL
attribute [local irreducible] JC JO JA JB qaZ qaL qb4 AC fill CellsAt QE Ev Mid
def qoA:qfe prog 102 .string (.agg #[.int .i64 0,.int .i64 0]):=⟨_,_,underlying102,underlying9,fun w=>by rw [qcC qmc];rfl⟩
def MV(m:Int×Int):Value:=.agg #[.int .i64 m.1,.int .i64 m.2]
def ents(p:Prg):List (Str×(Int×Int)):=(p.globals.mapIdx fun i g=>(g.name,((3:Int),(i:Int))))++(p.funcs.mapIdx fun i x=>(x.name,((4:Int),(i:Int))))
def qaV(p:Prg)(x:Fnc)(nm:Str):(Int×Int)×Bool:=if 0≤qbt (fun y=>decide (nm=y)) x.params 0 then ((1,qbt (fun y=>decide (nm=y)) x.params 0),true) else if 0≤qbt (fun y=>decide (nm=y)) x.locals 0 then ((2,qbt (fun y=>decide (nm=y)) x.locals 0),true)
 else match (ents p).find? fun e=>decide (e.1=nm) with
  | some e=>(e.2,true)
  | none=>((0,0),false)
def NmOK(s:World)(b:Nat)(p:Prg):Prop:=∃ es:List (Str×Value×Nat),MapS s (fun l=>St l) b es∧∀ nm,qaW es nm=((ents p).find? fun e=>decide (e.1=nm)).map fun e=>MV e.2
def NmOK.le{D:Nat}{s s':World}{b:Nat}{p:Prg}(h:NmOK s b p)(hl:Le D s s'):NmOK s' b p:=by
 obtain ⟨es,h1,h2⟩:=h;exact ⟨es,h1.le hl,h2⟩
def qoE(D:Nat)(L:Hl)(s:World)(p:Prg)(Ag Af:Option Addr)(ng cg nf cf bm:Nat)(hM:NmOK s bm p)(x:Fnc)(A1 A2 A3:Option Addr)(n1 q1 n2 q2 n3 q3:Nat)(hs1:Strs s A1 n1 q1 x.params)(hs2:Strs s A2 n2 q2 x.locals)(nm:List UInt8):AC prog D 75 [.agg #[.slice Ag ng cg,.slice Af nf cf,.map (some bm)],.agg #[St x.name,.slice A1 n1 q1,.slice A2 n2 q2,.slice A3 n3 q3],St nm] L s fun v L' _=>v=.tuple #[.agg #[.int .i64 (qaV p x nm).1.1,.int .i64 (qaV p x nm).1.2],.bool (qaV p x nm).2]∧L=L':=by
 obtain ⟨es,hMs,hes⟩:=hM;refine qae (fn:=f75) qav func75 V Z ntmps75 Z (rs:=[.cell 6 128,.tmp 7]) Z [(0,_),(1,_),(2,_)] Z<|Sr<|qay Z Z fun β1 s1 h1=>qay Z Z fun β2 s2 h2=>qag Z [_,_] Z Z fun β3 s3 h3=>At Z Z<|Zs<|Sr<|Wb Y5<|Wl 1 Y6<|Zqm Z Z<|Je Z Z Z (qkO D _ _ A1 n1 q1 x.params (hs1.le (h1.t h2|>.t h3)) nm) fun s4 h4=>At Z Z<|Sr<|Zqm Z Z<|qhn Z Z Z<|Nt<|?_;have e4:=h1.t h2|>.t h3|>.t h4;refine qaa Z ?_ ?_<;>intro c5;·have hE:qaV p x nm=_:=if_pos c5;refine Sr<|Zqm Z Z<|qad (qak [(_,_),(_,_)] [_,_] Z Z Z Z Z Z) Z<|Wt 0 [_,_] Y9<|At Z Z<|Zo<|Zu<|?_;exact rR [_,_,_] L (.agg (us:=[_,_]) 0 Z Z Z Z Z (.t1 Z)) Z e4 fun _ hS2=>qck
 have g17:=c5;refine Zk<|Zt<|Zs<|Sr<|Wb Y5<|Wl 1 Y6<|Zqm Z Z<|Je Z Z Z (qkO D _ _ A2 n2 q2 x.locals (hs2.le e4) nm) fun s6 h6=>At Z Z<|Sr<|Zqm Z Z<|qhn Z Z Z<|Nt<|?_;refine qaa Z ?_ ?_<;>intro c7;·have hE:qaV p x nm=_:=(if_neg g17).trans (if_pos c7);refine Sr<|Zqm Z Z<|qad (qak [(_,_),(_,_)] [_,_] Z Z Z Z Z Z) Z<|Wt 0 [_,_] Y9<|At Z Z<|Zo<|Zu<|?_;exact rR [_,_,_] L (.agg (us:=[_,_]) 0 Z Z Z Z Z (.t1 Z)) Z (e4.t h6) fun _ hS2=>qck
 have g25:=c7;obtain ⟨mm,bb,hmm,hE⟩:∃ (mm:Int×Int) (bb:Bool),(qaW es nm).getD (.agg #[.int .i64 0,.int .i64 0])=MV mm∧(qaW es nm).isSome=bb∧qaV p x nm=(mm,bb):=by
   rw [hes nm,qaV,if_neg g17,if_neg g25];cases (ents p).find? fun e=>decide (e.1=nm) with
   | none=>exact ⟨(0,0),false,rfl,rfl,rfl⟩
   | some e=>exact ⟨e.2,true,rfl,rfl,rfl⟩
 obtain ⟨hbb,hE⟩:=hE;refine Zk<|Zt<|Sr<|Wb Y5<|Wl 2 Y6<|Zqm Z Z<|qad (qaz (qdF KeyK.str qoA Z Z (hMs.le (e4.t h6))) (show Value.tuple #[(qaW es nm).getD (.agg #[.int .i64 0,.int .i64 0]),.bool (qaW es nm).isSome]=.tuple #[.agg #[.int .i64 mm.1,.int .i64 mm.2],.bool bb] by rw [hmm,hbb];rfl)) Z<|Zqm Z Z<|Zqx Z Z Z<|Zqx Z Z Z<|qag Z [_,_] Z Z fun β8 s8 h8=>Wt 0 [_,_] Y9<|At Z Z<|Sr<|qad (qao 0 [_,_] Z Z Z Z Z) Z<|Zqm Z Z<|Wt 1 [_,_] Y9<|At Z Z<|Zo<|?_;exact rR [_,_,_,_] L (.agg (us:=[_,_]) 1 Z Z Z Z Z (.t1 Z)) Z (e4.t h6|>.t h8) fun _ hS2=>qck
def qdH{f:Int×Int→Value}{l:List (Str×(Int×Int))}{k ck:Nat}{e:Str×(Int×Int)}{es:List (Str×Value×Nat)}(hk:l[k]?=some e)(hnd:(l.map (·.1)).Nodup)(h:∀ nm,qaW es nm=((l.take k).find? fun e=>decide (e.1=nm)).map fun e=>f e.2)(nm:Str):qaW (qix es e.1 (f e.2) ck) nm=((l.take (k+1)).find? fun e=>decide (e.1=nm)).map fun e=>f e.2:=by
  obtain ⟨hl,rfl⟩:=List.getElem?_eq_some_iff.1 hk;rw [qey,List.take_succ_eq_append_getElem hl,List.find?_append,h nm];by_cases hn:nm=l[k].1
  · subst hn
    rw [if_pos rfl];have h0:(l.take k).find? (fun e=>decide (e.1=l[k].1))=none:=by
      rw [List.find?_eq_none];intro y hy hd;have h2:((l.take k++l.drop k).map (·.1)).Nodup:=by rw [List.take_append_drop];exact hnd
      rw [List.map_append,List.nodup_append] at h2;exact h2.2.2 _ (List.mem_map.2 ⟨y,hy,rfl⟩) _ (List.mem_map.2 ⟨l[k],by rw [List.drop_eq_getElem_cons hl];exact List.mem_cons_self ..,rfl⟩) (by simpa using hd)
    rw [h0];simp
  · rw [if_neg hn]
    have h1:[l[k]].find? (fun e=>decide (e.1=nm))=none:=by simp [List.find?,Ne.symm hn,show ¬ l[k].1=nm from fun h=>hn h.symm]
    rw [h1,Option.or_none]
def qn7{p:Prg}{k:Nat}{x:Glo}(h:p.globals[k]?=some x):(ents p)[k]?=some (x.name,((3:Int),(k:Int))):=by
 obtain ⟨hl,rfl⟩:=List.getElem?_eq_some_iff.1 h;rw [ents,List.getElem?_append_left (by simpa using hl)];simp [hl]
def qn6{p:Prg}{k:Nat}{x:Fnc}(h:p.funcs[k]?=some x):(ents p)[p.globals.length+k]?=some (x.name,((4:Int),(k:Int))):=by
 obtain ⟨hl,rfl⟩:=List.getElem?_eq_some_iff.1 h;rw [ents,List.getElem?_append_right (by simp)];simp [hl]
def qru(D:Nat)(L:Hl)(s:World)(d:Nat)(p:Prg)(Ag Af:Option Addr)(ng cg nf cf:Nat)(hGl:Glos s Ag ng cg p.globals)(hFn:Fncs d s Af nf cf p.funcs)(hD:((ents p).map (·.1)).Nodup):AC prog D 41 [.agg #[.slice Ag ng cg,.slice Af nf cf]] L s fun v L' _=>∃ M',L'=M'++L∧∃ bm es ck,M'=[(bm,mp (fun l=>St l) es ck)]∧v=.agg #[.slice Ag ng cg,.slice Af nf cf,.map (some bm)]∧∀ nm,qaW es nm=((ents p).find? fun e=>decide (e.1=nm)).map fun e=>MV e.2:=by
 have hn1:=hGl.1;have hn2:=hFn.1;have hq1:=hGl.2.1;have hq2:=hGl.2.2.1;have hq3:=hFn.2.1;have hq4:=hFn.2.2.1;refine qae (fn:=f41) qav func41 V Z ntmps41 Z (rs:=[.cell 2 104]) Z [(0,_)] Z<|Sr<|qay Z Z fun β1 s1 h1=>qag Z [_,_,_] Z Z fun β2 s2 h2=>Nt<|Sr<|qad (qao 1 [_,_] Z Z Z Z Z) Z<|qex (fun l=>St l) Z fun βm s3 h3=>qad (qak [(_,_),(_,_)] [_,_,_] Z Z Z Z Z Z) Z<|qag Z [_,_,_] Z Z fun β4 s4 h4=>Wt 0 [_,_,_] Y9<|Nt<|Zs<|Sr<|W0 Y5<|Wl 3 Y6<|Ws Y4<|Zqm Z Z<|Nt<|Zp<|?_;have e4:=h1.t h2|>.t h3|>.t h4;refine qaA (γ:=Nat×List (Str×Value×Nat)×Nat) (fun g=>[(1,_),(2,_),(3,_),(12,_),(13,_),(14,.int .i64 (g.1:Int))]) (fun g=>_::(βm,mp (fun l=>St l) g.2.1 g.2.2)::_::_::L) (fun g tw=>Le D s4 tw∧(g.1≤ng∧∀ nm,qaW g.2.1 nm=(((ents p).take g.1).find? fun e=>decide (e.1=nm)).map fun e=>MV e.2)) (fun g=>ng - g.1) (fun _ _ _ h hl=>⟨h.1.trans hl,h.2⟩) (0,[],0) (.c6 Z Z Z Z Z Z (.nil _)) Z ⟨Le.refl _,⟨Nat.zero_le _,fun nm=>rfl⟩⟩ ?_;intro g s5 I5;obtain ⟨k,es,ck⟩:=g;obtain ⟨hk0,hS⟩:=I5.2;simp only at hk0 hS;dsimp only;refine Sr<|qa8 Z Z Z<|Nt<|Zs<|?_;refine qaa Z ?_ ?_<;>intro c6
 ·have hk:k < ng:=by omega
  obtain ⟨b,off,x,Ai,ni,ci,rfl,hx,hcx,hix,hux,hnl⟩:=Glos.at_ (hGl.le (e4.t I5.1)) hk;refine Zk<|Zt<|Zs<|Zp<|Sr<|Zqm Z Z<|qad (qau Z Z Z Z Z Z hk) Z<|qad (qaw Z Z Z (hcx.le (Lr D)) Z) Z<|qag Z [_,_,_,_] Z Z fun β7 s7 h7=>Zqa Z Z<|Wt 0 [_,_,_,_] Y9<|Nt<|Zr<|Wb Y5<|Wl 1 Y6<|Wb Y5<|Wl 0 Y6<|Zqm Z Z<|qad (qak [(_,_),(_,_)] [_,_] Z Z Z Z Z Z) Z<|qj9 KeyK.str 2 qoA Z Z Z Z ?_;intro ck1;simp only [qco];refine Zn<|Zb<|Zt<|Zr<|qaD Z Z Z (w64 O O)<|Zqm Z Z<|Zn<|?_;refine qab ⟨(k+1,_,ck1),[_],kp,Z,⟨(I5.1.t h7),⟨by simp only;omega,qdH (f:=MV) (qn7 hx) hD hS⟩⟩,Oz⟩
 obtain rfl:p.globals.length=k:=by omega
 refine Zl<|Zv<|Zv<|Zd<|Zt<|Zs<|Sr<|Wb Y5<|Wl 3 Y6<|Ws Y4<|Zqm Z Z<|Nt<|Zp<|?_;refine qaA (γ:=Nat×List (Str×Value×Nat)×Nat) (fun g=>[(2,_),(3,_),(27,_),(28,_),(29,.int .i64 (g.1:Int))]) (fun g=>_::(βm,mp (fun l=>St l) g.2.1 g.2.2)::_::_::L) (fun g tw=>Le D s5 tw∧(g.1≤nf∧∀ nm,qaW g.2.1 nm=(((ents p).take (p.globals.length+g.1)).find? fun e=>decide (e.1=nm)).map fun e=>MV e.2)) (fun g=>nf - g.1) (fun _ _ _ h hl=>⟨h.1.trans hl,h.2⟩) (0,es,ck) (.c5 Z Z Z Z Z (.nil _)) Z ⟨Le.refl _,⟨Nat.zero_le _,hS⟩⟩ ?_;intro g s9 I9;obtain ⟨k,es,ck⟩:=g;obtain ⟨hk0,hSq⟩:=I9.2;simp only at hk0 hSq;dsimp only;refine Sr<|qa8 Z Z Z<|Nt<|Zs<|?_;refine qaa Z ?_ ?_<;>intro c10
 ·have hk:k < nf:=by omega
  obtain ⟨b,off,x,B1,m1,d1,B2,m2,d2,B3,m3,d3,rfl,hx,hcx,hpx,hlx,hbx,hnl⟩:=Fncs.at_ (hFn.le (e4.t I5.1|>.t I9.1)) hk;refine Zk<|Zt<|Zs<|Zp<|Sr<|Zqm Z Z<|qad (qau Z Z Z Z Z Z hk) Z<|qad (qaw Z Z Z (hcx.le (Lr D)) Z) Z<|qag Z [_,_,_,_] Z Z fun β11 s11 h11=>Zqa Z Z<|Wt 0 [_,_,_,_] Y9<|Nt<|Zr<|Wb Y5<|Wl 1 Y6<|W0 Y5<|Wl 0 Y6<|Zqm Z Z<|qad (qak [(_,_),(_,_)] [_,_] Z Z Z Z Z Z) Z<|qj9 KeyK.str 2 qoA Z Z Z Z ?_;intro ck1;simp only [qco];refine Zn<|Zb<|Zt<|Zr<|qaD Z Z Z (w64 O O)<|Zqm Z Z<|Zn<|?_;refine qab ⟨(k+1,_,ck1),[_],kp,Z,⟨(I9.1.t h11),⟨by simp only;omega,qdH (f:=MV) (qn6 hx) hD hSq⟩⟩,Oz⟩
 rw [List.take_of_length_le (show (ents p).length≤p.globals.length+k by rw [ents,List.length_append,List.length_mapIdx,List.length_mapIdx];omega)] at hSq;refine Zl<|Zv<|Zv<|Zd<|Zt<|Zs<|qbk 2<|qbk 3<|Zr<|qad (qao 2 [_,_,_] Z Z Z Z Z) Z<|Wt 1 [_,_,_] Y9<|Nt<|Zo<|?_;exact rR [_,_,_] _ (.agg (us:=[_,_,_]) 1 Z Z Z Z Z (.nil)) Z (e4.t I5.1|>.t I9.1) fun _ hS2=>⟨[_],rfl,_,es,ck,rfl,rfl,hSq⟩
def qrv(D:Nat)(L:Hl)(s:World)(d:Nat)(p:Prg)(Ag Af:Option Addr)(ng cg nf cf:Nat)(hGl:Glos s Ag ng cg p.globals)(hFn:Fncs d s Af nf cf p.funcs)(hD:((ents p).map (·.1)).Nodup):AC prog D 41 [.agg #[.slice Ag ng cg,.slice Af nf cf]] L s fun v L' s'=>L=L'∧∃ bm,v=.agg #[.slice Ag ng cg,.slice Af nf cf,.map (some bm)]∧NmOK s' bm p:=by
 refine (AC.pubO (qru D L s d p Ag Af ng cg nf cf hGl hFn hD)).mono ?_;rintro v L1 s1 _ ⟨h1,M1,s2,⟨bm,es,ck,rfl,h3,h4⟩,_,h5⟩;exact ⟨h1,bm,h3,es,⟨ck,h5 _ _ Mc⟩,h4⟩
def qjE(p:Prg)(i:Int):Int:=match p.globals[i.toNat]? with
 | some g=>g.kind
 | none=>0
def qej{p:Prg}{k:Nat}{x:Glo}(h:p.globals[k]?=some x):qjE p (k:Int)=x.kind:=by rw [qjE,Int.toNat_natCast,h]
abbrev qg7(gk uk mk:Int):Prop:=((mk=1∨mk=2)∧(uk=1∨uk=2))∨(mk=4∧uk=4)∨((¬ (mk=1∨mk=2)∧mk≠4)∧((gk=1∧uk=2)∨(gk=2∧(uk=1∨uk=2))∨(gk≠1∧gk≠2∧uk=3)))
def qAg{p:Prop} (h:p:=by
 refine ⟨?_,Z⟩;simp only [qbP,qg7];clear hm;try rw [hgk]
 exact congrArg Value.bool (decide_eq_true O).symm):p:=h
def qp2{p:Prop} (h:p:=by
 refine ⟨?_,Z⟩;simp only [qbP,qg7];clear hm;try rw [hgk]
 exact congrArg Value.bool (decide_eq_decide.2 O)):p:=h
def qoZ(D:Nat)(L:Hl)(s:World)(p:Prg)(Ag Af:Option Addr)(ng cg nf cf bm:Nat)(hGl:Glos s Ag ng cg p.globals)(u:Use)(mk mi:Int)(hm:¬ (mk=1∨mk=2)→mk≠4→∃ k:Nat,mi=(k:Int)∧k < ng):AC Tryz.prog D 76 [.agg #[.slice Ag ng cg,.slice Af nf cf,.map (some bm)],.agg #[St (u).1,.int .i64 (u).2.1,.int .i64 (u).2.2],.agg #[.int .i64 mk,.int .i64 mi]] L s fun v L' _=>v=.bool (decide (qg7 (qjE p mi) u.2.1 mk))∧L=L':=by
 refine qae (fn:=Tryz.f76) qav Tryz.func76 V Z Tryz.ntmps76 Z (rs:=[.tmp 6]) Z [(0,_),(1,_),(2,_)] Z<|Sr<|qay Z Z fun β1 s1 h1=>qay Z Z fun β2 s2 h2=>qay Z Z fun β3 s3 h3=>At Z Z<|Zs<|Sr<|W0 Y5<|Wl 0 Y6<|Nt<|Zp<|Zs<|Sr<|qax Z Z Z<|At Z Z<|?_;have e3:=h1.t h2|>.t h3;refine qaa Z ?_ ?_<;>intro c4
 ·refine Zk<|Zt<|?_;refine qaa Z ?_ ?_<;>intro c5
  ·refine Sr<|Wb Y5<|Wl 1 Y6<|qax Z Z Z<|Zqm Z Z<|?_;refine qai (t:=15) Z ?_ ?_<;>intro c6;·refine Wf Y4<|Wf Y4<|Wf Y4<|ZqT Z Z Z<|At Z Z<|Zo<|Zc<|Zu<|?_;exact rR [_,_,_] L (.t1 Z) Z e3 fun _ hS2=>qAg
   refine Zg Z Z<|Wb Y5<|Zg Z Z<|Wl 1 Y6<|Zg Z Z<|qax Z Z Z<|ZqF Z Z Z<|At Z Z<|Zo<|Zc<|Zu ?_;exact rR [_,_,_] L (.t1 Z) Z e3 fun _ hS2=>qp2
  refine Sr<|qax Z Z Z<|At Z Z<|?_;refine qaa Z ?_ ?_<;>intro c7;·refine Sr<|Wb Y5<|Wl 1 Y6<|qax Z Z Z<|At Z Z<|Zo<|Zc<|Zu<|?_;exact rR [_,_,_] L (.t1 Z) Z e3 fun _ hS2=>qp2
  obtain ⟨k,rfl,hk⟩:=hm O O;obtain ⟨b,off,x,Ai,ni,ci,rfl,hx,hcx,hix,hux,hnl⟩:=Glos.at_ (hGl.le e3) hk;have hgk:=qej hx;refine Zk<|Zb<|Zt<|Zs<|Sr<|W0 Y5<|W0 Y5<|Wl 2 Y6<|Wb Y5<|Wl 0 Y6<|qad (qau Z Z Z Z Z Z hk) Z<|W0 Y5<|qad (qaq Z Z Z (hcx.le (Lr D)) Z) Z<|Nt<|Zp<|Sr<|qax Z Z Z<|At Z Z<|?_;refine qaa Z ?_ ?_<;>intro c8;·refine Sr<|Wb Y5<|Wl 1 Y6<|qax Z Z Z<|At Z Z<|Zo<|Zc<|Zu<|?_;exact rR [_,_,_] L (.t1 Z) Z e3 fun _ hS2=>qp2
  refine Sr<|qax Z Z Z<|At Z Z<|?_;refine qaa Z ?_ ?_<;>intro c9
  ·refine Sr<|Wb Y5<|Wl 1 Y6<|qax Z Z Z<|Zqm Z Z<|?_;refine qai (t:=43) Z ?_ ?_<;>intro c10;·refine Wf Y4<|Wf Y4<|Wf Y4<|ZqT Z Z Z<|At Z Z<|Zo<|Zc<|Zu<|?_;exact rR [_,_,_] L (.t1 Z) Z e3 fun _ hS2=>qAg
   refine Zg Z Z<|Wb Y5<|Zg Z Z<|Wl 1 Y6<|Zg Z Z<|qax Z Z Z<|ZqF Z Z Z<|At Z Z<|Zo<|Zc<|Zu ?_;exact rR [_,_,_] L (.t1 Z) Z e3 fun _ hS2=>qp2
  refine Zk<|Zb<|Zt<|Sr<|Wb Y5<|Wl 1 Y6<|qax Z Z Z<|At Z Z<|Zo<|?_;exact rR [_,_,_] L (.t1 Z) Z e3 fun _ hS2=>qp2
 refine Zr<|qax Z Z Z<|At Z Z<|?_;refine qaa Z ?_ ?_<;>intro c11
 ·refine Sr<|Wb Y5<|Wl 1 Y6<|qax Z Z Z<|Zqm Z Z<|?_;refine qai (t:=15) Z ?_ ?_<;>intro c12;·refine Wf Y4<|Wf Y4<|Wf Y4<|ZqT Z Z Z<|At Z Z<|Zo<|Zc<|Zu<|?_;exact rR [_,_,_] L (.t1 Z) Z e3 fun _ hS2=>qAg
  refine Zg Z Z<|Wb Y5<|Zg Z Z<|Wl 1 Y6<|Zg Z Z<|qax Z Z Z<|ZqF Z Z Z<|At Z Z<|Zo<|Zc<|Zu ?_;exact rR [_,_,_] L (.t1 Z) Z e3 fun _ hS2=>qp2
 refine Sr<|qax Z Z Z<|At Z Z<|?_;refine qaa Z ?_ ?_<;>intro c13;·refine Sr<|Wb Y5<|Wl 1 Y6<|qax Z Z Z<|At Z Z<|Zo<|Zc<|Zu<|?_;exact rR [_,_,_] L (.t1 Z) Z e3 fun _ hS2=>qp2
 obtain ⟨k,rfl,hk⟩:=hm O O;obtain ⟨b,off,x,Ai,ni,ci,rfl,hx,hcx,hix,hux,hnl⟩:=Glos.at_ (hGl.le e3) hk;have hgk:=qej hx;refine Zk<|Zb<|Zt<|Zs<|Sr<|W0 Y5<|W0 Y5<|Wl 2 Y6<|Wb Y5<|Wl 0 Y6<|qad (qau Z Z Z Z Z Z hk) Z<|W0 Y5<|qad (qaq Z Z Z (hcx.le (Lr D)) Z) Z<|Nt<|Zp<|Sr<|qax Z Z Z<|At Z Z<|?_;refine qaa Z ?_ ?_<;>intro c14;·refine Sr<|Wb Y5<|Wl 1 Y6<|qax Z Z Z<|At Z Z<|Zo<|Zc<|Zu<|?_;exact rR [_,_,_] L (.t1 Z) Z e3 fun _ hS2=>qp2
 refine Sr<|qax Z Z Z<|At Z Z<|?_;refine qaa Z ?_ ?_<;>intro c15
 ·refine Sr<|Wb Y5<|Wl 1 Y6<|qax Z Z Z<|Zqm Z Z<|?_;refine qai (t:=43) Z ?_ ?_<;>intro c16;·refine Wf Y4<|Wf Y4<|Wf Y4<|ZqT Z Z Z<|At Z Z<|Zo<|Zc<|Zu<|?_;exact rR [_,_,_] L (.t1 Z) Z e3 fun _ hS2=>qAg
  refine Zg Z Z<|Wb Y5<|Zg Z Z<|Wl 1 Y6<|Zg Z Z<|qax Z Z Z<|ZqF Z Z Z<|At Z Z<|Zo<|Zc<|Zu ?_;exact rR [_,_,_] L (.t1 Z) Z e3 fun _ hS2=>qp2
 refine Zk<|Zb<|Zt<|Sr<|Wb Y5<|Wl 1 Y6<|qax Z Z Z<|At Z Z<|Zo<|?_;exact rR [_,_,_] L (.t1 Z) Z e3 fun _ hS2=>qp2
def qfq{p:Prg}{x:Fnc}{nm:Str}(h:(qaV p x nm).2=true):((qaV p x nm).1.1=1∨(qaV p x nm).1.1=2)∨((qaV p x nm).1.1=3∧∃ k:Nat,(qaV p x nm).1.2=(k:Int)∧k < p.globals.length)∨((qaV p x nm).1.1=4∧∃ k:Nat,(qaV p x nm).1.2=(k:Int)∧k < p.funcs.length):=by
  unfold qaV at h ⊢;split
  · exact .inl (.inl rfl)
  split
  · exact .inl (.inr rfl)
  rename_i h1 h2;rw [if_neg h1,if_neg h2] at h;cases hf:(ents p).find? fun e=>decide (e.1=nm) with
  | none=>rw [hf] at h;cases h
  | some e=>
    have hm:=List.mem_of_find?_eq_some hf;rw [ents,List.mem_append] at hm;rcases hm with hm|hm
    · obtain ⟨i,hi⟩:=List.getElem?_of_mem hm
      rw [List.getElem?_mapIdx] at hi;cases hg:p.globals[i]? with
      | none=>rw [hg] at hi;cases hi
      | some g=>rw [hg] at hi;simp at hi;subst hi;exact .inr (.inl ⟨rfl,i,rfl,(List.getElem?_eq_some_iff.1 hg).1⟩)
    · obtain ⟨i,hi⟩:=List.getElem?_of_mem hm
      rw [List.getElem?_mapIdx] at hi;cases hg:p.funcs[i]? with
      | none=>rw [hg] at hi;cases hi
      | some g=>rw [hg] at hi;simp at hi;subst hi;exact .inr (.inr ⟨rfl,i,rfl,(List.getElem?_eq_some_iff.1 hg).1⟩)
def qzu(p:Prg)(i:Int):Nat:=match p.funcs[i.toNat]? with
 | some x=>x.params.length
 | none=>0
def qkG{p:Prg}{k:Nat}{x:Fnc}{i:Int}(hi:i=(k:Int))(h:p.funcs[k]?=some x):qzu p i=x.params.length:=by rw [hi,qzu,Int.toNat_natCast,h]
def qgp(p:Prg)(x:Fnc)(u:Use):Int:=if u.2.1=0 then 0 else if (qaV p x u.1).2=false then 12 else if ¬ qg7 (qjE p (qaV p x u.1).1.2) u.2.1 (qaV p x u.1).1.1 then 13 else if u.2.1=4∧u.2.2≠(qzu p (qaV p x u.1).1.2:Int) then 9 else 0
def ndC(p:Prg)(x:Fnc):Nd→Int
 | .st y lp=>if (y.kind=9∨y.kind=10)∧lp=0 then 24 else qgp p x (qfK y)
 | .ex y _=>qgp p x (qfO y)
def qxM{p:Prop} (h:p:=by
 exact ⟨by rw [ndC,if_neg g33,hE];rfl,rfl⟩):p:=h
def qvA(D:Nat)(L:Hl)(s:World)(d:Nat)(p:Prg)(Ag Af:Option Addr)(ng cg nf cf:Nat)(hGl:Glos s Ag ng cg p.globals)(hFn:Fncs d s Af nf cf p.funcs)(bm:Nat)(hM:NmOK s bm p)(x:Fnc)(A1 A2 A3:Option Addr)(n1 q1 n2 q2 n3 q3:Nat)(hs1:Strs s A1 n1 q1 x.params)(hs2:Strs s A2 n2 q2 x.locals)(y:Stm)(b o:Nat)(C1 C2 C3:Option Addr)(r1 e1 r2 e2 r3 e3:Nat)(hy:CellsAt s b o [.int .i64 y.kind,St y.name,.slice C1 r1 e1,.slice C2 r2 e2,.slice C3 r3 e3])(hr:r1=y.exprs.length)(lp:Nat):AC prog D 43 [.agg #[.slice Ag ng cg,.slice Af nf cf,.map (some bm)],.agg #[St x.name,.slice A1 n1 q1,.slice A2 n2 q2,.slice A3 n3 q3],.agg #[.pointer (some ⟨b,o,none⟩),.pointer none,.int .i64 (lp:Int)]] L s fun v L' _=>v=.int .i64 (ndC p x (.st y lp))∧L=L':=by
 have hn1:=hGl.1;have hn2:=hFn.1;refine qae (fn:=f43) qav func43 V Z ntmps43 Z (rs:=[.tmp 6]) Z [(0,_),(1,_),(2,_)] Z<|Sr<|qay Z Z fun β1 s1 h1=>qay Z Z fun β2 s2 h2=>qay Z Z fun β3 s3 h3=>At Z Z<|Zs<|Sr<|W0 Y5<|Wl 0 Y6<|At Z Z<|?_;have e3q:=h1.t h2|>.t h3;refine qa9 33 ((y.kind=9∨y.kind=10)∧lp=0) ?_ ?_
 ·refine Zr<|Zqm Z Z<|qad (qaz (v':=.bool true) (qk1 underlying108 Z) Z) Z<|Zqm Z Z<|Zg Z Z<|Zqm Z Z<|Zg Z Z<|qaQ Z Z<|Zg Z Z<|W0 Y5<|Zg Z Z<|qad (qaq Z Z Z (hy.le e3q) Z) Z<|Zg Z Z<|qax Z Z Z<|Zg Z Z<|Zqm Z Z<|?_;refine qai (t:=21) Z ?_ ?_<;>intro c5;·refine Wf Y4<|Wf Y4<|Wf Y4<|Wf Y4<|Wf Y4<|Zg Z Z<|ZqT Z Z Z<|ZqT Z Z Z<|Zqm Z Z<|Zg Z Z<|Wb Y5<|Zg Z Z<|Wl 0 Y6<|Zg Z Z<|qax Z Z Z<|ZqT Z Z Z<|Zn<|?_;refine qab (MidB.mk (Lr D) Sb Z (decide_eq_decide.2 O))
  refine Zg Z Z<|Zqm Z Z<|Zg Z Z<|qaQ Z Z<|Zg Z Z<|W0 Y5<|Zg Z Z<|qad (qaq Z Z Z (hy.le e3q) Z) Z<|Zg Z Z<|qax Z Z Z<|Zg Z Z<|ZqF Z Z Z<|ZqT Z Z Z<|Zqm Z Z<|?_;refine qai (t:=29) Z ?_ ?_<;>intro c6;·refine Zg Z Z<|Wb Y5<|Zg Z Z<|Wl 0 Y6<|Zg Z Z<|qax Z Z Z<|ZqT Z Z Z<|Zn<|?_;refine qab (MidB.mk (Lr D) Sb Z (decide_eq_decide.2 O))
  refine Wf Y4<|Wf Y4<|Wf Y4<|ZqF Z Z Z<|Zn<|?_;refine qab (MidB.mk (Lr D) Sb Z ((decide_eq_false O).symm))
 intro s4 h4;have e4:=e3q.t h4;refine qaa Z ?_ ?_<;>intro c7;·have g33:=c7;refine Sr<|At Z Z<|Zo<|Zu<|?_;exact rR [_,_,_] L (.t1 Z) Z e4 fun _ hS2=>⟨by rw [ndC,if_pos g33];rfl,rfl⟩
 have g33:=c7;refine Zk<|Zt<|Sr<|qad (qao 0 [_,_,_] Z Z Z Z Z) Z<|Je Z Z Z (qBF D _ _ y b o C1 C2 C3 r1 e1 r2 e2 r3 e3 (hy.le e4) hr _) fun s8 h8=>qag Z [_,_,_] Z Z fun β9 s9 h9=>Wt 0 [_,_,_] Y9<|Nt<|Zs<|Sr<|Wb Y5<|Wl 0 Y6<|qax Z Z Z<|Nt<|?_;have e9:=e4.t h8|>.t h9;refine qaa Z ?_ ?_<;>intro c10;·have hE:qgp p x (qfK y)=0:=if_pos c10;refine Sr<|At Z Z<|Zo<|Zu<|?_;exact rR [_,_,_,_] L (.t1 Z) Z e9 fun _ hS2=>qxM
 have g38:¬ (qfK y).2.1=0:=c10;refine Zk<|Zt<|Sr<|qad (qao 3 [_,_,_] Z Z Z Z Z) Z<|qad (qao 2 [_,_,_,_] Z Z Z Z Z) Z<|W0 Y5<|Wl 0 Y6<|Je Z Z Z (qoE D _ _ p Ag Af ng cg nf cf bm (hM.le e9) x A1 A2 A3 n1 q1 n2 q2 n3 q3 (hs1.le e9) (hs2.le e9) _) fun s11 h11=>Zqm Z Z<|Zqx Z Z Z<|Zqx Z Z Z<|qag Z [_,_] Z Z fun β12 s12 h12=>Wt 0 [_,_] Y9<|At Z Z<|Zs<|Zp<|Sr<|Zqm Z Z<|qbF Z Z<|At Z Z<|?_;have e12:=e9.t h11|>.t h12;refine qb8 Z ?_ ?_<;>intro c13;·have hE:qgp p x (qfK y)=12:=(if_neg g38).trans (if_pos c13);refine Sr<|At Z Z<|Zo<|Zc<|Zu<|?_;exact rR [_,_,_,_,_] L (.t1 Z) Z e12 fun _ hS2=>qxM
 have g47:¬ (qaV p x (qfK y).1).2=false:=by rw [c13];decide
 have hmk:=qfq c13;refine Sr<|qad (qao 4 [_,_,_] Z Z Z Z Z) Z<|qad (qao 1 [_,_,_] Z Z Z Z Z) Z<|qad (qao 0 [_,_] Z Z Z Z Z) Z<|Je Z Z Z (qoZ D _ _ p Ag Af ng cg nf cf bm (hGl.le e12) (qfK y) (qaV p x (qfK y).1).1.1 (qaV p x (qfK y).1).1.2 (fun h1 h2=>hmk.elim (fun h=>absurd h h1) (fun h=>h.elim (fun h=>by obtain ⟨k,e1,e2⟩:=h.2;exact ⟨k,e1,by omega⟩) (fun h=>absurd h.1 h2)))) fun s14 h14=>qbF Z Z<|At Z Z<|?_;have e14:=e12.t h14;refine qaM Z ?_ ?_<;>intro c15;·have hE:qgp p x (qfK y)=13:=(if_neg g38).trans ((if_neg g47).trans (if_pos c15));refine Sr<|At Z Z<|Zo<|Zc<|Zu<|?_;exact rR [_,_,_,_,_] L (.t1 Z) Z e14 fun _ hS2=>qxM
 have g50:¬ ¬ qg7 (qjE p (qaV p x (qfK y).1).1.2) (qfK y).2.1 (qaV p x (qfK y).1).1.1:=fun h=>h c15;have g51:=c15;refine Zs ?_;rcases Classical.em ((qfK y).2.1=4) with g4|g4
 ·obtain ⟨hk4,j,hj,hjn⟩:=hmk.elim (fun h=>absurd g51 (fun k=>by omega)) (fun h=>h.elim (fun h=>absurd g51 (fun k=>by omega)) id);obtain ⟨b,off,z,B1,m1,d1,B2,m2,d2,B3,m3,d3,rfl,hz,hcz,hpz,hlz,hbz,hzl⟩:=Fncs.at_ (hFn.le e14) (show j < nf by omega);have hm9:=hpz.1;have hpar:=qkG hj hz;refine qaJ qac 18 Z _ (fun _ h=>h) fun s16 h16=>za 0 Z (We Y4) Z<|za 1 Z (Wd 1 Y5) Z<|za 2 Z (qaz (v':=.bool true) (qdR Z Z) (bT g4)) Z<|za 3 Z (qan Z) Z<|zg 4 Z ⟨_,Z,Z⟩ (We Y4) Z<|zg 5 Z ⟨_,Z,Z⟩ (Wd 1 Y5) Z<|zg 6 Z ⟨_,Z,Z⟩ (qat Z Z Z Z) Z<|zg 7 Z ⟨_,Z,Z⟩ (We Y4) Z<|zg 8 Z ⟨_,Z,Z⟩ (Wd 4 Y5) Z<|zg 9 Z ⟨_,Z,Z⟩ (We Y4) Z<|zg 10 Z ⟨_,Z,Z⟩ (Wd 0 Y5) Z<|zg 11 Z ⟨_,Z,Z⟩ (qau (j:=j) Z (show lk _ _=some (.int .i64 (j:Int)) from by rw [← hj];rfl) Z Z Z Z (show j < nf by omega)) Z ?_;refine zg 12 Z ⟨_,Z,Z⟩ (qbm Z Z Z Z) Z<|zg 13 Z ⟨_,Z,Z⟩ (qaF 1 Z Z Z (hcz.le h16) Z) Z<|zg 14 Z ⟨_,Z,Z⟩ (qbi Z Z Z) Z<|zg 15 Z ⟨_,Z,Z⟩ (qhr Z Z) Z<|za 16 Z (qdn Z Z) Z<|za 17 Z (qa6 Z) Z<|qaf V<|Zt ?_;refine qaM Z ?_ ?_<;>intro c17;·have hE:qgp p x (qfK y)=9:=(if_neg g38).trans ((if_neg g47).trans ((if_neg g50).trans (if_pos ⟨g4,by rw [hpar];have:=c17;omega⟩)));refine Sr<|At Z Z<|Zo<|Zc<|Zu<|?_;exact rR [_,_,_,_,_] L (.t1 Z) Z (e14.t h16) fun _ hS2=>qxM
  have hE:qgp p x (qfK y)=0:=(if_neg g38).trans ((if_neg g47).trans ((if_neg g50).trans (if_neg (fun h=>h.2 (by rw [hpar];have:=c17;omega)))));refine Zk<|Zb<|Zt<|Sr<|At Z Z<|Zo<|?_;exact rR [_,_,_,_,_] L (.t1 Z) Z (e14.t h16) fun _ hS2=>qxM
 refine qaJ qac 18 Z _ (fun _ h=>h) fun s18 h18=>za 0 Z (We Y4) Z<|za 1 Z (Wd 1 Y5) Z<|za 2 Z (qaz (v':=.bool false) (qdR Z Z) (bZ g4)) Z<|za 3 Z (qan Z) Z<|zn 4 Z Z Z Z Z<|zn 5 Z Z Z Z Z<|zn 6 Z Z Z Z Z<|zn 7 Z Z Z Z Z<|zn 8 Z Z Z Z Z<|zn 9 Z Z Z Z Z<|zn 10 Z Z Z Z Z<|zn 11 Z Z Z Z Z<|zn 12 Z Z Z Z Z<|zn 13 Z Z Z Z Z<|zn 14 Z Z Z Z Z<|zn 15 Z Z Z Z Z<|za 16 Z (qdm Z Z) Z<|za 17 Z (qa6 Z) Z<|qaf V<|Zt<|Zz Z<|?_;have hE:qgp p x (qfK y)=0:=(if_neg g38).trans ((if_neg g47).trans ((if_neg g50).trans (if_neg (fun h=>g4 h.1))));refine Zk<|Zb<|Zt<|Sr<|At Z Z<|Zo<|?_;exact rR [_,_,_,_,_] L (.t1 Z) Z (e14.t h18) fun _ hS2=>qxM
def qxN{p:Prop} (h:p:=by
 exact ⟨by rw [ndC,hE];rfl,rfl⟩):p:=h
def qvz(D:Nat)(L:Hl)(s:World)(d:Nat)(p:Prg)(Ag Af:Option Addr)(ng cg nf cf:Nat)(hGl:Glos s Ag ng cg p.globals)(hFn:Fncs d s Af nf cf p.funcs)(bm:Nat)(hM:NmOK s bm p)(x:Fnc)(A1 A2 A3:Option Addr)(n1 q1 n2 q2 n3 q3:Nat)(hs1:Strs s A1 n1 q1 x.params)(hs2:Strs s A2 n2 q2 x.locals)(y:Ex)(b o:Nat)(A:Option Addr)(n c:Nat)(hy:CellsAt s b o [.int .i64 y.kind,.int .i64 y.op,.int .u32 y.num,St y.name,.slice A n c])(hr:n=y.args.length)(lp:Nat):AC prog D 43 [.agg #[.slice Ag ng cg,.slice Af nf cf,.map (some bm)],.agg #[St x.name,.slice A1 n1 q1,.slice A2 n2 q2,.slice A3 n3 q3],.agg #[.pointer none,.pointer (some ⟨b,o,none⟩),.int .i64 (lp:Int)]] L s fun v L' _=>v=.int .i64 (ndC p x (.ex y lp))∧L=L':=by
 have hn1:=hGl.1;have hn2:=hFn.1;refine qae (fn:=f43) qav func43 V Z ntmps43 Z (rs:=[.tmp 6]) Z [(0,_),(1,_),(2,_)] Z<|Sr<|qay Z Z fun β1 s1 h1=>qay Z Z fun β2 s2 h2=>qay Z Z fun β3 s3 h3=>At Z Z<|Zs<|Sr<|W0 Y5<|Wl 0 Y6<|At Z Z<|Sr<|Zqm Z Z<|qad (qaz (v':=.bool false) (qk1 underlying108 Z) Z) Z<|Zqm Z Z<|Wf Y4<|Wf Y4<|Wf Y4<|Wf Y4<|Wf Y4<|Wf Y4<|Zh Z Z Z<|Zh Z Z Z<|Zh Z Z Z<|Zh Z Z Z<|Zh Z Z Z<|Wf Y4<|ZqF Z Z Z<|Zqm Z Z<|Wf Y4<|Wf Y4<|Wf Y4<|ZqF Z Z Z<|Nt<|Zz Z<|Zk<|Zt<|Sr<|qad (qao 0 [_,_,_] Z Z Z Z Z) Z ?_;have e3:=h1.t h2|>.t h3;refine Je Z Z Z (qBE D _ _ y b o A n c (hy.le e3) hr _) fun s4 h4=>qag Z [_,_,_] Z Z fun β5 s5 h5=>Wt 0 [_,_,_] Y9<|Nt<|Zs<|Sr<|Wb Y5<|Wl 0 Y6<|qax Z Z Z<|Nt<|?_;have e5:=e3.t h4|>.t h5;refine qaa Z ?_ ?_<;>intro c6;·have hE:qgp p x (qfO y)=0:=if_pos c6;refine Sr<|At Z Z<|Zo<|Zu<|?_;exact rR [_,_,_,_] L (.t1 Z) Z e5 fun _ hS2=>qxN
 have g38:¬ (qfO y).2.1=0:=c6;refine Zk<|Zt<|Sr<|qad (qao 3 [_,_,_] Z Z Z Z Z) Z<|qad (qao 2 [_,_,_,_] Z Z Z Z Z) Z<|W0 Y5<|Wl 0 Y6<|Je Z Z Z (qoE D _ _ p Ag Af ng cg nf cf bm (hM.le e5) x A1 A2 A3 n1 q1 n2 q2 n3 q3 (hs1.le e5) (hs2.le e5) _) fun s7 h7=>Zqm Z Z<|Zqx Z Z Z<|Zqx Z Z Z<|qag Z [_,_] Z Z fun β8 s8 h8=>Wt 0 [_,_] Y9<|At Z Z<|Zs<|Zp<|Sr<|Zqm Z Z<|qbF Z Z<|At Z Z<|?_;have e8:=e5.t h7|>.t h8;refine qb8 Z ?_ ?_<;>intro c9;·have hE:qgp p x (qfO y)=12:=(if_neg g38).trans (if_pos c9);refine Sr<|At Z Z<|Zo<|Zc<|Zu<|?_;exact rR [_,_,_,_,_] L (.t1 Z) Z e8 fun _ hS2=>qxN
 have g47:¬ (qaV p x (qfO y).1).2=false:=by rw [c9];decide
 have hmk:=qfq c9;refine Sr<|qad (qao 4 [_,_,_] Z Z Z Z Z) Z<|qad (qao 1 [_,_,_] Z Z Z Z Z) Z<|qad (qao 0 [_,_] Z Z Z Z Z) Z<|Je Z Z Z (qoZ D _ _ p Ag Af ng cg nf cf bm (hGl.le e8) (qfO y) (qaV p x (qfO y).1).1.1 (qaV p x (qfO y).1).1.2 (fun h1 h2=>hmk.elim (fun h=>absurd h h1) (fun h=>h.elim (fun h=>by obtain ⟨k,e1,e2⟩:=h.2;exact ⟨k,e1,by omega⟩) (fun h=>absurd h.1 h2)))) fun s10 h10=>qbF Z Z<|At Z Z<|?_;have e10:=e8.t h10;refine qaM Z ?_ ?_<;>intro c11;·have hE:qgp p x (qfO y)=13:=(if_neg g38).trans ((if_neg g47).trans (if_pos c11));refine Sr<|At Z Z<|Zo<|Zc<|Zu<|?_;exact rR [_,_,_,_,_] L (.t1 Z) Z e10 fun _ hS2=>qxN
 have g50:¬ ¬ qg7 (qjE p (qaV p x (qfO y).1).1.2) (qfO y).2.1 (qaV p x (qfO y).1).1.1:=fun h=>h c11;have g51:=c11;refine Zs ?_;rcases Classical.em ((qfO y).2.1=4) with g4|g4
 ·obtain ⟨hk4,j,hj,hjn⟩:=hmk.elim (fun h=>absurd g51 (fun k=>by omega)) (fun h=>h.elim (fun h=>absurd g51 (fun k=>by omega)) id);obtain ⟨b,off,z,B1,m1,d1,B2,m2,d2,B3,m3,d3,rfl,hz,hcz,hpz,hlz,hbz,hzl⟩:=Fncs.at_ (hFn.le e10) (show j < nf by omega);have hm9:=hpz.1;have hpar:=qkG hj hz;refine qaJ qac 18 Z _ (fun _ h=>h) fun s12 h12=>za 0 Z (We Y4) Z<|za 1 Z (Wd 1 Y5) Z<|za 2 Z (qaz (v':=.bool true) (qdR Z Z) (bT g4)) Z<|za 3 Z (qan Z) Z<|zg 4 Z ⟨_,Z,Z⟩ (We Y4) Z<|zg 5 Z ⟨_,Z,Z⟩ (Wd 1 Y5) Z<|zg 6 Z ⟨_,Z,Z⟩ (qat Z Z Z Z) Z<|zg 7 Z ⟨_,Z,Z⟩ (We Y4) Z<|zg 8 Z ⟨_,Z,Z⟩ (Wd 4 Y5) Z<|zg 9 Z ⟨_,Z,Z⟩ (We Y4) Z<|zg 10 Z ⟨_,Z,Z⟩ (Wd 0 Y5) Z<|zg 11 Z ⟨_,Z,Z⟩ (qau (j:=j) Z (show lk _ _=some (.int .i64 (j:Int)) from by rw [← hj];rfl) Z Z Z Z (show j < nf by omega)) Z ?_;refine zg 12 Z ⟨_,Z,Z⟩ (qbm Z Z Z Z) Z<|zg 13 Z ⟨_,Z,Z⟩ (qaF 1 Z Z Z (hcz.le h12) Z) Z<|zg 14 Z ⟨_,Z,Z⟩ (qbi Z Z Z) Z<|zg 15 Z ⟨_,Z,Z⟩ (qhr Z Z) Z<|za 16 Z (qdn Z Z) Z<|za 17 Z (qa6 Z) Z<|qaf V<|Zt ?_;refine qaM Z ?_ ?_<;>intro c13;·have hE:qgp p x (qfO y)=9:=(if_neg g38).trans ((if_neg g47).trans ((if_neg g50).trans (if_pos ⟨g4,by rw [hpar];have:=c13;omega⟩)));refine Sr<|At Z Z<|Zo<|Zc<|Zu<|?_;exact rR [_,_,_,_,_] L (.t1 Z) Z (e10.t h12) fun _ hS2=>qxN
  have hE:qgp p x (qfO y)=0:=(if_neg g38).trans ((if_neg g47).trans ((if_neg g50).trans (if_neg (fun h=>h.2 (by rw [hpar];have:=c13;omega)))));refine Zk<|Zb<|Zt<|Sr<|At Z Z<|Zo<|?_;exact rR [_,_,_,_,_] L (.t1 Z) Z (e10.t h12) fun _ hS2=>qxN
 refine qaJ qac 18 Z _ (fun _ h=>h) fun s14 h14=>za 0 Z (We Y4) Z<|za 1 Z (Wd 1 Y5) Z<|za 2 Z (qaz (v':=.bool false) (qdR Z Z) (bZ g4)) Z<|za 3 Z (qan Z) Z<|zn 4 Z Z Z Z Z<|zn 5 Z Z Z Z Z<|zn 6 Z Z Z Z Z<|zn 7 Z Z Z Z Z<|zn 8 Z Z Z Z Z<|zn 9 Z Z Z Z Z<|zn 10 Z Z Z Z Z<|zn 11 Z Z Z Z Z<|zn 12 Z Z Z Z Z<|zn 13 Z Z Z Z Z<|zn 14 Z Z Z Z Z<|zn 15 Z Z Z Z Z<|za 16 Z (qdm Z Z) Z<|za 17 Z (qa6 Z) Z<|qaf V<|Zt<|Zz Z<|?_;have hE:qgp p x (qfO y)=0:=(if_neg g38).trans ((if_neg g47).trans ((if_neg g50).trans (if_neg (fun h=>g4 h.1))));refine Zk<|Zb<|Zt<|Sr<|At Z Z<|Zo<|?_;exact rR [_,_,_,_,_] L (.t1 Z) Z (e10.t h14) fun _ hS2=>qxN
end Go.Proofs.YtflplmcjbppfcaaGreatDoor
namespace Go.FL
open Go Go.RowKit
def fro(ro:Option Nat):Fence:={ Fence.wide with round:=ro }
def qje{P:Program}{f:FuncId}{args:Array Value}{w:World}{R:Ending→World→Prop}(ro:Option Nat)(n:Nat)(h:Calls P f args w R):CallsIn (fro ro) n P f args w R:=by
 cases ro with
 | none=>exact callsIn_wide.2 h
 | some l=>exact CallsIn.inRound l (callsIn_wide.2 h)
def qg1(ro:Option Nat)(n:Nat):(fro ro).depth.isSome=true→1≤n:=fun h=>by cases h
def qhP(ro:Option Nat)(f:FuncId):(fro ro).fn f:=trivial
structure FrD(ds:List Deferred)(n:Nat)(a:Act)(fr:Fr):Prop where
 rel:FrRel n { a with defers:=[] } fr
 defers:a.defers=ds
def FrD.ev{ds:List Deferred}{n:Nat}{a:Act}{fr:Fr}(h:FrD ds n a fr){x:Operand}{v:Value}(hx:lk fr x=some v):a.eval x=v:=h.rel.ev hx
def FrD.put{ds:List Deferred}{n:Nat}{a:Act}{fr:Fr}(h:FrD ds n a fr){d:Nat}(hd:Nat.blt d n=true)(v:Value):FrD ds n (a.put (some d) v) ((d,v)::fr):=
 ⟨h.rel.put hd v,h.defers⟩
def FrD.sub{ds:List Deferred}{n:Nat}{a:Act}{fr l:Fr}(h:FrD ds n a fr)(hs:Keeps fr l):FrD ds n a l:=⟨h.rel.sub hs,h.defers⟩
abbrev qec:=Exit→List Deferred→Fr→Hl→World→Prop
def qyM(D n:Nat)(Q:qec):Exit→Act→World→Prop:=fun e a w=>∃ ds fr L s,FrD ds n a fr∧OKL D L s∧w=fill L s∧Q e ds fr L s
def RC(P:Program)(TT:qa5)(D n:Nat)(ro:Option Nat)(Q:qec)(c:Code)(ds:List Deferred)(fr:Fr)(L:Hl)(s:World):Prop:=
 TabOK P TT→∀ a,FrD ds n a fr→OKL D L s→c.wpIn (fro ro) 0 P (qyM D n Q) a (fill L s)
def RO(P:Program)(TT:qa5)(D n:Nat)(ro:Option Nat)(ops:Array Oper)(Q:qec)(l:List Oper)(ds:List Deferred)(fr:Fr)(L:Hl)(s:World):Prop:=
 TabOK P TT→∀ a,FrD ds n a fr→OKL D L s→wpListIn (fro ro) 0 P ops (qyM D n Q) l a (fill L s)
section control
variable{P:Program}{TT:qa5}{D n:Nat}{ro:Option Nat}{Q:qec}{ds:List Deferred}{fr:Fr}{L:Hl}{s:World}
def qm6(J:List Deferred→Fr→Hl→World→Prop)(Q:qec):qec
 | .normal,ds,fr,L,s=>J ds fr L s
 | e,ds,fr,L,s=>Q e ds fr L s
def qhE(id:Nat)(Q:qec):qec
 | .exit i,ds,fr,L,s=>if i=id then Q .normal ds fr L s else Q (.exit i) ds fr L s
 | e,ds,fr,L,s=>Q e ds fr L s
def quS(h:Q .normal ds fr L s):RC P TT D n ro Q .skip ds fr L s:=fun _ _ hr ho=>wpIn_skip ⟨ds,fr,L,s,hr,ho,rfl,h⟩
def quQ{id:Nat}(h:Q (.exit id) ds fr L s):RC P TT D n ro Q (.exit id) ds fr L s:=fun _ _ hr ho=>wpIn_exit ⟨ds,fr,L,s,hr,ho,rfl,h⟩
def qyc(h:Q .ret ds fr L s):RC P TT D n ro Q .ret ds fr L s:=fun _ _ hr ho=>wpIn_ret ⟨ds,fr,L,s,hr,ho,rfl,h⟩
def qyd{x y:Code}(h:RC P TT D n ro (qm6 (RC P TT D n ro Q y) Q) x ds fr L s):RC P TT D n ro Q (.seq x y) ds fr L s:=fun ht a hr ho=>
 wpIn_seq (wpIn_mono (h ht a hr ho) fun e a w ⟨ds',fr',L',s',h1,h2,h3,h4⟩=>by
  cases e with
  | normal=>subst h3;exact h4 ht a h1 h2
  | _=>exact ⟨ds',fr',L',s',h1,h2,h3,h4⟩)
def qqf{id:Nat}{c:Code}(h:RC P TT D n ro (qhE id Q) c ds fr L s):RC P TT D n ro Q (.block id c) ds fr L s:=fun ht a hr ho=>
 wpIn_block (wpIn_mono (h ht a hr ho) fun e a w ⟨ds',fr',L',s',h1,h2,h3,h4⟩=>by
  cases e with
  | exit i=>
   simp only [qhE] at h4;simp only [Exit.inBlock];by_cases hi:i=id
   · simp only [hi,if_true] at h4 ⊢;exact ⟨ds',fr',L',s',h1,h2,h3,h4⟩
   · simp only [hi,if_false] at h4 ⊢;exact ⟨ds',fr',L',s',h1,h2,h3,h4⟩
  | _=>exact ⟨ds',fr',L',s',h1,h2,h3,h4⟩)
def qqg{c:Operand}{x y:Code}{b:Bool}(hc:lk fr c=some (.bool b))(h1:b=true→RC P TT D n ro Q x ds fr L s)(h2:b=false→RC P TT D n ro Q y ds fr L s):RC P TT D n ro Q (.cond c x y) ds fr L s:=
 fun ht a hr ho=>wpIn_cond_split (hr.ev hc) (fun hb=>h1 hb ht a hr ho) (fun hb=>h2 hb ht a hr ho)
def qk3{c:Operand}{x y:Code}{p:Prop} [Decidable p] (hc:lk fr c=some (.bool (decide p))) (h1:p→RC P TT D n ro Q x ds fr L s) (h2:¬ p→RC P TT D n ro Q y ds fr L s):RC P TT D n ro Q (.cond c x y) ds fr L s:=
 qqg hc (fun hb=>h1 (of_decide_eq_true hb)) (fun hb=>h2 (of_decide_eq_false hb))
def qnt{c:Operand}{x y:Code}{p:Prop} [Decidable p] (hc:lk fr c=some (.bool (!decide p))) (h1:¬ p→RC P TT D n ro Q x ds fr L s) (h2:p→RC P TT D n ro Q y ds fr L s):RC P TT D n ro Q (.cond c x y) ds fr L s:=
 qqg hc (fun hb=>h1 (by simpa using hb)) (fun hb=>h2 (by simpa using hb))
def qk4{c:Operand}{x y:Code}{b:Bool}(hc:lk fr c=some (.bool (!b)))(h1:b=false→RC P TT D n ro Q x ds fr L s)(h2:b=true→RC P TT D n ro Q y ds fr L s):RC P TT D n ro Q (.cond c x y) ds fr L s:=
 qqg hc (fun hb=>h1 (by simpa using hb)) (fun hb=>h2 (by simpa using hb))
def qyb{c:Operand}{x y:Code}(hc:lk fr c=some (.bool true))(h1:RC P TT D n ro Q x ds fr L s):RC P TT D n ro Q (.cond c x y) ds fr L s:=
 qqg hc (fun _=>h1) (fun hb=>by cases hb)
def qnw{id:Nat}{l:List Oper}(h:RO P TT D n ro l.toArray Q l ds fr L s):RC P TT D n ro Q (.region id l.toArray false) ds fr L s:=
 fun ht a hr ho=>wpIn_region_lit (h ht a hr ho)
def qyg{ops:Array Oper}(h:Q .normal ds fr L s):RO P TT D n ro ops Q [] ds fr L s:=fun _ _ hr ho=>⟨ds,fr,L,s,hr,ho,rfl,h⟩
def qnu{γ:Type}{c:Code}(S:γ→Fr)(H:γ→Hl)(I:γ→World→Prop)(μ:γ→Nat)(mono:∀ g s s',I g s→Le D s s'→I g s')(g0:γ)
  (hS:Keeps fr (S g0)) (hL:L=H g0) (hI:I g0 s)
  (round:∀ g s,I g s→RC P TT D n ro (qm6 (fun ds' fr' L' s'=>ds'=ds∧∃ g' A,Keeps fr' (S g')∧L'=A++H g'∧I g' s'∧μ g' < μ g) Q) c ds (S g) (H g) s) :
  RC P TT D n ro Q (.loop c) ds fr L s:=fun ht a hr ho=>by
 refine wpIn_loop_ghost (fun m a w=>∃ g s,μ g=m∧FrD ds n a (S g)∧OKL D (H g) s∧w=fill (H g) s∧I g s) (μ g0) ⟨g0,s,Z,hr.sub hS,hL▸ho,hL▸Z,hI⟩ ?_;rintro m a w ⟨g,s,rfl,h1,h2,rfl,h4⟩;refine wpIn_mono (round g s h4 ht a h1 h2) ?_;rintro e a' w' ⟨ds',fr',L',s',k1,k2,rfl,k4⟩;cases e with
 | normal=>
  obtain ⟨rfl,g',A,j1,rfl,j3,j4⟩:=k4;obtain ⟨e,d1,d2⟩:=qbn k2;exact ⟨μ g',j4,g',_,rfl,k1.sub j1,d1,e,mono _ _ _ j3 d2⟩
 | _=>exact ⟨ds',fr',L',s',k1,k2,rfl,k4⟩
def qqh{γ:Type}{c:Code}(S:γ→Fr)(H:γ→Hl)(E:γ→List Deferred)(I:γ→World→Prop)(μ:γ→Nat)(mono:∀ g s s',I g s→Le D s s'→I g s')(g0:γ)
  (hS:Keeps fr (S g0)) (hL:L=H g0) (hE:ds=E g0) (hI:I g0 s)
  (round:∀ g s,I g s→RC P TT D n ro (qm6 (fun ds' fr' L' s'=>∃ g' A,ds'=E g'∧Keeps fr' (S g')∧L'=A++H g'∧I g' s'∧μ g' < μ g) Q) c (E g) (S g) (H g) s) :
  RC P TT D n ro Q (.loop c) ds fr L s:=fun ht a hr ho=>by
 subst hE;refine wpIn_loop_ghost (fun m a w=>∃ g s,μ g=m∧FrD (E g) n a (S g)∧OKL D (H g) s∧w=fill (H g) s∧I g s) (μ g0) ⟨g0,s,Z,hr.sub hS,hL▸ho,hL▸Z,hI⟩ ?_;rintro m a w ⟨g,s,rfl,h1,h2,rfl,h4⟩;refine wpIn_mono (round g s h4 ht a h1 h2) ?_;rintro e a' w' ⟨ds',fr',L',s',k1,k2,rfl,k4⟩;cases e with
 | normal=>
  obtain ⟨g',A,rfl,j1,rfl,j3,j4⟩:=k4;obtain ⟨e,d1,d2⟩:=qbn k2;exact ⟨μ g',j4,g',_,rfl,k1.sub j1,d1,e,mono _ _ _ j3 d2⟩
 | _=>exact ⟨ds',fr',L',s',k1,k2,rfl,k4⟩
def qhj{J:List Deferred→Fr→Hl→World→Prop}(h:J ds fr L s):qm6 J Q .normal ds fr L s:=h
def qwD{J:List Deferred→Fr→Hl→World→Prop}(h:Q .ret ds fr L s):qm6 J Q .ret ds fr L s:=h
def qwE{J:List Deferred→Fr→Hl→World→Prop}{i:Nat}(h:Q (.exit i) ds fr L s):qm6 J Q (.exit i) ds fr L s:=h
def qqx{id:Nat}(h:Q .normal ds fr L s):qhE id Q .normal ds fr L s:=h
def qqy{id:Nat}(h:Q .ret ds fr L s):qhE id Q .ret ds fr L s:=h
def qqz{id:Nat}(h:Q .normal ds fr L s):qhE id Q (.exit id) ds fr L s:=by simpa [qhE] using h
end control
section ops
variable{P:Program}{TT:qa5}{D n:Nat}{ro:Option Nat}{Q:qec}{ds:List Deferred}{fr:Fr}{L L':Hl}{s s':World}{ops:Array Oper}{rest:List Oper}{d ty:Nat}{op:Op}{pos:String}{af:Array Edge}{v:Value}
def quW(hnd:∀ c,op≠.defer c)(hd:Nat.blt d n=true)(h:Ev P TT D fr op ty L s (.value v) L' s')(k:RO P TT D n ro ops Q rest ds ((d,v)::fr) L' s') :
  RO P TT D n ro ops Q (⟨some d,op,ty,pos,af,none⟩::rest) ds fr L s:=fun ht a hr ho=>by
 obtain ⟨h1,h2⟩:=h ht ho (some d) pos af none a.eval (fun x v hx=>hr.ev hx);simp only [wpListIn,Region.wanted,if_true];refine ⟨fun f _=>qhP ro f,?_⟩;rw [Oper.semAt_eq _ _ _ hnd,h1,Oper.uponIn_value];exact k ht _ (hr.put hd v) h2
def qAH(hnd:∀ c,op≠.defer c)(h:Ev P TT D fr op ty L s .skip L' s')(k:RO P TT D n ro ops Q rest ds fr L' s') :
  RO P TT D n ro ops Q (⟨none,op,ty,pos,af,none⟩::rest) ds fr L s:=fun ht a hr ho=>by
 obtain ⟨h1,h2⟩:=h ht ho none pos af none a.eval (fun x v hx=>hr.ev hx);simp only [wpListIn,Region.wanted,if_true];refine ⟨fun f _=>qhP ro f,?_⟩;rw [Oper.semAt_eq _ _ _ hnd,h1,Oper.uponIn_skip];exact k ht _ hr h2
def qcu(h:QE P TT D fr op ty L s v)(hd:Nat.blt d n=true)(k:RO P TT D n ro ops Q rest ds ((d,v)::fr) L s)(hnd:∀ c,op≠.defer c:=by nofun):RO P TT D n ro ops Q (⟨some d,op,ty,pos,af,none⟩::rest) ds fr L s:=
 quW hnd hd (fun ht ho dst pos af g ρ hρ=>⟨h ht dst pos af g ρ hρ L s ho (Le.refl _) (fun _ hx=>hx),ho⟩) k
def quU{f:FuncId}{x:Operand}{xs:List Operand}{first captured vs:List Value}{ts:Array TypeId}{R:Value→Hl→World→Prop}(hx:lk fr x=some (.func (.func f) first.toArray captured.toArray))(hv:lks fr xs=some vs)
  (hd:Nat.blt d n=true) (h:AC P D f (first++vs++captured) L s R) (k:∀ v L' s',Le D s s'→R v L' s'→RO P TT D n ro ops Q rest ds ((d,v)::fr) L' s') :
  RO P TT D n ro ops Q (⟨some d,.call { callee:=.value x,args:=xs.toArray,argTypes:=ts },ty,pos,af,none⟩::rest) ds fr L s:=fun hT a hr ho=>by
 obtain ⟨⟨fn,h1,h2,h3⟩,hc⟩:=h;have hρ:∀ x v,lk fr x=some v→a.eval x=v:=fun x v hx=>hr.ev hx;simp only [wpListIn,Region.wanted,if_true];refine ⟨fun f _=>qhP ro f,?_⟩;have hrun:(execOp a.eval ⟨some d,.call { callee:=.value x,args:=xs.toArray,argTypes:=ts },ty,pos,af,none⟩).run P (fill L s)=.ok (.enter f (first++vs++captured).toArray) (fill L s):=by
  have h2':¬ fn.name = "runtime.NumGoroutine" := by simpa using h2
  have h3':¬ fn.body=none:=by intro e;simp [e] at h3
  simp [execOp,resolve,Deferred.ofValue,invoke,callFunc,hρ x _ hx,qfX hρ hv,h1,h2',h3']
 rw [Oper.semAt_eq _ _ _ (by nofun),hrun,Oper.uponIn_enter];refine ⟨qg1 ro 0,(qje ro _ (hc ho)).mono ?_⟩;rintro e w' ⟨v,L',s',rfl,rfl,h4,h5,h6⟩;exact k v L' s' h5 h6 hT _ (hr.put hd v) h4
def Rc9{f:FuncId}{x:Operand}{xs:List Operand}{vs:List Value}{ts:Array TypeId}{R:Value→Hl→World→Prop}(hx:lk fr x=some (.func (.func f) ([]:List Value).toArray ([]:List Value).toArray))(hv:lks fr xs=some vs)
  (hd:Nat.blt d n=true) (h:AC P D f (([]:List Value)++vs++[]) L s R) (k:∀ v L' s',Le D s s'→R v L' s'→RO P TT D n ro ops Q rest ds ((d,v)::fr) L' s') :
  RO P TT D n ro ops Q (⟨some d,.call { callee:=.value x,args:=xs.toArray,argTypes:=ts },ty,pos,af,none⟩::rest) ds fr L s:=quU (first:=[]) (captured:=[]) hx hv hd h k
def YC(P:Program)(D:Nat)(l:Nat)(args:List Value)(L:Hl)(s:World)(R:Value→Hl→World→Prop):Prop:=
 OKL D L s→∃ fn tmps assign body,(Instr.yield l args.toArray).run P (fill L s)=.ok (.round l fn tmps assign body) (fill L s) ∧
  RoundIn Fence.wide 0 P l fn tmps assign body (fill L s) fun e w'=>∃ v L' s',e=.returned v∧w'=fill L' s'∧OKL D L' s'∧Le D s s'∧R v L' s'
def qk5{l:Nat}{x:Operand}{xs:List Operand}{vs:List Value}{ts:Array TypeId}{R:Value→Hl→World→Prop}(hx:lk fr x=some (.func (.yield l) #[] #[]))(hv:lks fr xs=some vs)
  (hd:Nat.blt d n=true) (h:YC P D l vs L s R) (k:∀ v L' s',Le D s s'→R v L' s'→RO P TT D n none ops Q rest ds ((d,v)::fr) L' s') :
  RO P TT D n none ops Q (⟨some d,.call { callee:=.value x,args:=xs.toArray,argTypes:=ts },ty,pos,af,none⟩::rest) ds fr L s:=fun hT a hr ho=>by
 obtain ⟨fn,tmps,assign,body,hy,hR⟩:=h ho;have hρ:∀ x v,lk fr x=some v→a.eval x=v:=fun x v hx=>hr.ev hx;simp only [wpListIn,Region.wanted,if_true];refine ⟨fun f _=>qhP none f,?_⟩;have hrun:(execOp a.eval ⟨some d,.call { callee:=.value x,args:=xs.toArray,argTypes:=ts },ty,pos,af,none⟩).run P (fill L s)=.ok (.round l fn tmps assign body) (fill L s):=by
  simp [execOp,resolve,Deferred.ofValue,invoke,hρ x _ hx,qfX hρ hv,hy]
 rw [Oper.semAt_eq _ _ _ (by nofun),hrun,Oper.uponIn_round];refine ⟨qg1 none 0,RoundIn.mono hR ?_⟩;rintro e w' ⟨v,L',s',rfl,rfl,h4,h5,h6⟩;exact k v L' s' h5 h6 hT _ (hr.put hd v) h4
def qqi{t:Nat}{ti:TI}(ht:qaE TT t=some ti)(hd:Nat.blt d n=true)
  (k:∀ β s',Le D s s'→RO P TT D n ro ops Q rest ds ((d,.pointer (some ⟨β,0,none⟩))::fr) ((β,cb ti.zeros t)::L) s'):RO P TT D n ro ops Q (⟨some d,.alloc t,ty,pos,af,none⟩::rest) ds fr L s:=fun hT a hr ho=>
 quW (by nofun) hd (qgq ht ho) (k _ _ (qaP ho (cb ti.zeros t)).2.2) hT a hr ho
def qc6{t:Nat}{ti:TI}(ht:qaE TT t=some ti)(zs:List Value)(hz:ti.zeros=zs)(hd:Nat.blt d n=true)
  (k:∀ β s',Le D s s'→RO P TT D n ro ops Q rest ds ((d,.pointer (some ⟨β,0,none⟩))::fr) ((β,cb zs t)::L) s'):RO P TT D n ro ops Q (⟨some d,.alloc t,ty,pos,af,none⟩::rest) ds fr L s:=by subst hz;exact qqi ht hd k
def qhs{t b off:Nat}{x y:Operand}{ti:TI}{t':Nat}{zs:List Value}(i:Nat)(zs':List Value){L':Hl}(hx:lk fr x=some (.pointer (some ⟨b,off,none⟩)))(hy:lk fr y=some v)(hi:L[i]?=some (b,cb zs t'))(ht:qaE TT t=some ti)
  (hl:(qbc v).length=ti.size) (hle:Nat.ble (off+ti.size) zs.length=true) (h1:(qbc v).all (·.oneCell')=true) (hs:qbz zs off (qbc v)=zs') (hL:qco L i (cb zs' t')=L')
  (k:RO P TT D n ro ops Q rest ds fr L' s):RO P TT D n ro ops Q (⟨none,.store t x y,ty,pos,af,none⟩::rest) ds fr L s:=by
 subst hL;exact qAH (by nofun) (qp9 i zs' hx hy hi ht hl hle h1 hs) k
def qAG{dst:Option Nat}{j t:Nat}{w:Bool}(hj:qeO ops j=some t)(hv:qa0 fr t=some (.bool w))
  (k:RO P TT D n ro ops Q (⟨dst,op,ty,pos,af,none⟩::rest) ds fr L s):RO P TT D n ro ops Q (⟨dst,op,ty,pos,af,some (j,w)⟩::rest) ds fr L s:=fun ht a hr ho=>by
 have k1:=k ht a hr ho;have hy:yielded ops a.tmps j=some w:=by
  have h1:=hr.rel.slot t (hr.rel.top _ _ hv) _ hv;unfold qeO at hj;simp only at h1;simp [yielded,hj,h1]
 simp only [wpListIn,Region.wanted,if_true] at k1;simp only [wpListIn,Region.wanted,hy,beq_self_eq_true,if_true];exact k1
def qAF{d:Nat}{j t:Nat}{w b:Bool}(hd:Nat.blt d n=true)(hj:qeO ops j=some t)(hv:qa0 fr t=some (.bool b))(hb:(b != w)=true)
  (k:RO P TT D n ro ops Q rest ds ((d,undef)::fr) L s):RO P TT D n ro ops Q (⟨some d,op,ty,pos,af,some (j,w)⟩::rest) ds fr L s:=fun ht a hr ho=>by
 have hy:yielded ops a.tmps j=some b:=by
  have h1:=hr.rel.slot t (hr.rel.top _ _ hv) _ hv;unfold qeO at hj;simp only at h1;simp [yielded,hj,h1]
 have hne:(some b == some w)=false:=by cases b<;>cases w<;>simp_all
 simp only [wpListIn,Region.wanted,hy,hne,Bool.false_eq_true,if_false];exact ⟨fun f _=>qhP ro f,k ht _ (hr.put hd undef) ho⟩
def quV{l:List Oper}{t:Nat}{b:Bool}(hv:qa0 fr t=some (.bool b))(h1:b=true→RO P TT D n ro ops Q l ds ((t,.bool true)::fr) L s)(h2:b=false→RO P TT D n ro ops Q l ds ((t,.bool false)::fr) L s) :
  RO P TT D n ro ops Q l ds fr L s:=fun ht a hr ho=>by
 cases b with
 | true=>exact h1 rfl ht a (hr.sub fun t' v' h=>by rw [qbb] at h;split at h<;>simp_all) ho
 | false=>exact h2 rfl ht a (hr.sub fun t' v' h=>by rw [qbb] at h;split at h<;>simp_all) ho
def qgr{l:List Oper}{t:Nat}{b:Bool}(hv:qa0 fr t=some (.bool (!b)))(h1:b=false→RO P TT D n ro ops Q l ds ((t,.bool true)::fr) L s)(h2:b=true→RO P TT D n ro ops Q l ds ((t,.bool false)::fr) L s) :
  RO P TT D n ro ops Q l ds fr L s:=quV hv (fun h=>h1 (by simpa using h)) (fun h=>h2 (by simpa using h))
end ops
section anyorder
variable{P:Program}{TT:qa5}{D n:Nat}{ro:Option Nat}{Q:qec}{ds:List Deferred}{fr:Fr}{L L':Hl}{s s':World}{ops:Array Oper}{d ty fuel:Nat}{op:Op}{pos:String}{af:Array Edge}{v:Value}{listed:Array Bool}
end anyorder
section calls
variable{P:Program}{TT:qa5}{D n:Nat}{Q:qec}{ds:List Deferred}{fr:Fr}{L:Hl}{s:World}
def qg4(b:Nat):Deferred:={ target:=.collected b,args:=#[] }
abbrev qkC(b:Nat):Nat×Obj:=(b,Obj.deferred (some []))
def retG(TT:qa5)(D:Nat)(rs:List ResultVar)(s0:World)(R:Value→Hl→World→Prop):qec:=fun e ds fr L s=>
 (e=.normal∨e=.ret)∧∃ vs A L',Res TT fr L rs vs∧L=A++L'∧Le D s0 s∧(∀ s',Le D s s'→R (qbP vs) L' s')∧(∃ bs:List Nat,ds=bs.map qg4∧(bs.map qkC).Sublist A)
def Res.set{fr:Fr}{L L':Hl}(hL:∀ (i:Nat) b zs t,L[i]?=some (b,cb zs t)→L'[i]?=some (b,cb zs t)){rs:List ResultVar}{vs:List Value}(h:Res TT fr L rs vs):Res TT fr L' rs vs:=by
 induction h with
 | nil=>exact .nil
 | tmp h _ ih=>exact .tmp h ih
 | one i h hi ht hk hv _ ih=>exact .one i h (hL _ _ _ _ hi) ht hk hv ih
 | agg i h hi ht hk hv _ ih=>exact .agg i h (hL _ _ _ _ hi) ht hk hv ih
def ql3(L:Hl)(i j:Nat)(o:Obj)(h:i≠j):(qco L i o)[j]?=L[j]?:=by
 induction L generalizing i j with
 | nil=>cases i<;>rfl
 | cons x L ih=>
  cases i with
  | zero=>cases j with
   | zero=>exact absurd rfl h
   | succ j=>rfl
  | succ i=>cases j with
   | zero=>rfl
   | succ j=>simp only [qco,List.getElem?_cons_succ];exact ih i j O
def qiG{A L':Hl}{i:Nat}(o:Obj)(h:i < A.length):qco (A++L') i o=qco A i o++L':=by
 induction A generalizing i with
 | nil=>cases h
 | cons x A ih=>
  cases i with
  | zero=>rfl
  | succ i=>simp only [List.cons_append,qco];rw [ih (by simpa using h)]
def qd1(w:World)(b:Nat)(o:Obj):w.putObj b o=qbo w b o:=rfl
def qfc{f:FuncId}{fn:Func}{c:Code}{args:List Value}{R:Value→Hl→World→Prop}(hT:TabOK P TT)(hf:P.funcs[f]?=some fn)(hn:(fn.name == "runtime.NumGoroutine")=false)(hb:fn.body=some c)(hnt:fn.ntmps=n)(hle:Nat.ble args.length n=true){rs:List ResultVar}(hrs:fn.results.toList=rs)(fr0:Fr)(hfr:slots 0 args=fr0)
    (h:RC P TT D n none (retG TT D rs s R) c [] fr0 L s):AC P D f args L s R:=by
  subst hfr;subst hrs;refine ⟨⟨fn,hf,hn,by simp [hb]⟩,fun ho=>(callsIn_wide (n:=0)).1 (callsIn_of_wp_marks hf hb Tt ?_)⟩;have hle':args.length≤n:=Nat.le_of_ble_eq_true hle;have hr:FrD [] n { tmps:=args.toArray++Array.replicate (fn.ntmps - args.toArray.size) undef,defers:=[] } (slots 0 args):=by
    refine ⟨⟨by simp [hnt];omega,Z,fun t ht v hv=>?_,fun t v hv=>?_⟩,Z⟩
    · rw [qdW] at hv
      simp at hv;obtain ⟨hlt,_⟩:=List.getElem?_eq_some_iff.1 hv;simp [Array.getElem?_append,hlt];exact (List.getElem?_eq_some_iff.1 hv).2
    · rw [qdW] at hv
      simp at hv;obtain ⟨hlt,_⟩:=List.getElem?_eq_some_iff.1 hv;omega
  refine wpIn_mono (h hT _ hr ho) ?_;rintro e a w ⟨ds,fr',L1,s1,k1,k2,rfl,he,vs,A,L',hres,rfl,hle1,hR,hds⟩;have fin:∀ (A2:Hl),OKL D (A2++L') s1→Res TT fr' (A2++L') fn.results.toList vs→LeavesIn Fence.wide 0 P fn a.tmps (fun e w'=>∃ v L' s',e=.returned v∧w'=fill L' s'∧OKL D L' s'∧Le D s s'∧R v L' s') [] .returning (fill (A2++L') s1):=fun A2 ho2 hres2=>by
    obtain ⟨d1,d2,d3⟩:=qbn ho2;have hrun:(results fn a.tmps).run P (fill (A2++L') s1)=.ok (qbP vs) (fill (A2++L') s1):=by
      have h1:=Res.run hT k1.rel ho2 hres2;have h2:(fn.results.mapM (qwe a.tmps)).run P (fill (A2++L') s1)=.ok vs.toArray (fill (A2++L') s1):=by
        rw [Array.mapM_eq_mapM_toList];simp only [map_eq_pure_bind,Sem.run_bind,h1,Result.andThen_ok,Sem.run_pure]
      rw [qhZ];simp only [Sem.run_bind,h2,Result.andThen_ok,Sem.run_pure];congr 1;match vs with
      | []=>rfl
      | [v]=>rfl
      | v::u::r=>simp [qbP]
    exact ⟨_,hrun,_,L',fill A2 s1,rfl,d1,d2,hle1.trans d3,hR _ d3⟩
  have key:∀ (bs:List Nat),bs.Nodup→∀ (A2:Hl),(∀ b∈bs,(b,Obj.deferred (some []))∈A2)→OKL D (A2++L') s1→Res TT fr' (A2++L') fn.results.toList vs→LeavesInM Fence.wide 0 P fn a.tmps (fun e w'=>∃ v L' s',e=.returned v∧w'=fill L' s'∧OKL D L' s'∧Le D s s'∧R v L' s') (bs.map qg4) .returning (fill (A2++L') s1):=by
    intro bs;induction bs with
    | nil=>intro _ A2 _ k2 hres;exact fin A2 k2 hres
    | cons b bs ih=>
      intro hnd A2 hin k2 hres;obtain ⟨i,hi,hie⟩:=List.getElem_of_mem (hin b Mc);have hig:(A2++L')[i]?=some (b,Obj.deferred (some [])):=by rw [List.getElem?_append_left hi,List.getElem?_eq_getElem hi,hie]
      have hw:(fill (A2++L') s1).heap[b]?=some (.deferred (some [])):=qa7 k2 (List.mem_of_getElem? hig);refine ⟨(fun h=>by cases h),.inl ⟨b,_,Z,run_takeDeferred hw,?_⟩⟩;rw [qd1,← qcA k2 hig,qiG _ hi];have ho2:=qeu k2 i (Obj.deferred none);rw [qiG _ hi] at ho2;refine ih (List.nodup_cons.1 hnd).2 (qco A2 i (.deferred none)) (fun c hc=>?_) ho2 (Res.set (fun j c zs t hj=>?_) hres)
      · have hne:b≠c:=fun e=>(List.nodup_cons.1 hnd).1 (e▸hc)
        obtain ⟨j,hj,hje⟩:=List.getElem_of_mem (hin c (List.mem_cons_of_mem _ hc));have hij:i≠j:=fun e=>by subst e;rw [hie] at hje;injection hje with h1 _;exact hne h1
        exact List.mem_of_getElem? (i:=j) (by rw [ql3 _ _ _ _ hij,List.getElem?_eq_getElem hj,hje])
      · rw [← qiG _ hi,ql3 _ _ _ _ (fun e=>by subst e;rw [hig] at hj;cases hj)]
        exact hj
  obtain ⟨bs,rfl,hsub⟩:=hds;have hin:∀ b∈bs,(b,Obj.deferred (some []))∈A:=fun b hb=>hsub.subset (List.mem_map_of_mem hb);have hnd:bs.Nodup:=by
    have h1:(A.map (·.1)).Nodup:=by have:=k2.nd;rw [List.map_append] at this;exact (List.nodup_append.1 this).1
    have h2:=(hsub.map (·.1)).nodup h1
    rwa [List.map_map,show ((fun x:Nat×Obj=>x.1) ∘ qkC)=id from rfl,List.map_id] at h2
  have key:=key bs hnd A hin k2 hres;rw [← k1.defers] at key;rcases he with rfl|rfl
  · exact key
  · exact key
def qb3{rs:List ResultVar}{s0:World}{R:Value→Hl→World→Prop}{e:Exit}{vs:List Value}(A L':Hl)(he:e=.normal∨e=.ret)(h:Res TT fr L rs vs)(hL:L=A++L')(hl:Le D s0 s)(hds:∃ bs:List Nat,ds=bs.map qg4∧(bs.map qkC).Sublist A)(hR:∀ s',Le D s s'→R (qbP vs) L' s'):retG TT D rs s0 R e ds fr L s:=
 ⟨he,vs,A,L',h,hL,hl,hR,hds⟩
def jmp:Exit→Option (Option Code)
 | .normal=>some none
 | .ret=>some (some .ret)
 | .exit id=>some (some (.exit id))
 | _=>none
def qy7:Option Code→Exit
 | none=>.normal
 | some .ret=>.ret
 | some (.exit id)=>.exit id
 | _=>.normal
def que(fr:Fr)(ps:List Nat)(vs:List Value):Fr:=(ps.zip vs).foldl (fun fr x=>(x.1,x.2)::fr) fr
def qmR(n:Nat):∀ (l:List (Nat×Value)) (fr:Fr) (a:Act),FrRel n { a with defers:=[] } fr→l.all (fun x=>Nat.blt x.1 n)=true →
  FrRel n { tmps:=l.foldl (fun tmps x=>tmps.setIfInBounds x.1 x.2) a.tmps,defers:=[] } (l.foldl (fun fr x=>(x.1,x.2)::fr) fr):=by
 intro l;induction l with
 | nil=>intro fr a h _;exact h
 | cons x l ih=>
  intro fr a h hl;simp only [List.all_cons,Bool.and_eq_true] at hl;exact ih _ { a with tmps:=a.tmps.setIfInBounds x.1 x.2 } (h.put hl.1 x.2) hl.2
section range
variable{σ α:Type}(H:σ→Hl)(I:σ→World→Prop)(pend:σ→Option Code)(St:σ→α→σ→Prop)(enc:α→List Value)(Pre:σ→α→World→Prop)(Fin:σ→Prop)
end range
end calls
section
variable{P:Program}{TT:qa5}{D n:Nat}{ro:Option Nat}{Q:qec}{ds:List Deferred}{fr:Fr}{L:Hl}{s:World}{ops:Array Oper}{rest:List Oper}{d ty:Nat}{pos:String}{af:Array Edge}{v:Value}
def Yqm{x:Operand}(hx:lk fr x=some v)(hd:Nat.blt d n=true)(k:RO P TT D n ro ops Q rest ds ((d,v)::fr) L s):RO P TT D n ro ops Q (⟨some d,.move x,ty,pos,af,none⟩::rest) ds fr L s:=qcu (qan hx) hd k
def Yqa{x:Operand}(hx:lk fr x=some v)(hd:Nat.blt d n=true)(k:RO P TT D n ro ops Q rest ds ((d,v)::fr) L s):RO P TT D n ro ops Q (⟨some d,.assign x,ty,pos,af,none⟩::rest) ds fr L s:=qcu (qa6 hx) hd k
def YqT{c x y:Operand}(hc:lk fr c=some (.bool true))(hx:lk fr x=some v)(hd:Nat.blt d n=true)(k:RO P TT D n ro ops Q rest ds ((d,v)::fr) L s):RO P TT D n ro ops Q (⟨some d,.pick c x y,ty,pos,af,none⟩::rest) ds fr L s:=qcu (qdn hc hx) hd k
def YqF{c x y:Operand}(hc:lk fr c=some (.bool false))(hx:lk fr y=some v)(hd:Nat.blt d n=true)(k:RO P TT D n ro ops Q rest ds ((d,v)::fr) L s):RO P TT D n ro ops Q (⟨some d,.pick c x y,ty,pos,af,none⟩::rest) ds fr L s:=qcu (qdm hc hx) hd k
def Yqeq{x y:Operand}{ik:IntKind}{a b:Int}{t t':Nat}(hx:lk fr x=some (.int ik a))(hy:lk fr y=some (.int ik b))(hd:Nat.blt d n=true)(k:RO P TT D n ro ops Q rest ds ((d,.bool (decide (a=b)))::fr) L s):RO P TT D n ro ops Q (⟨some d,.binOp .eql t x y t',ty,pos,af,none⟩::rest) ds fr L s:=qcu (qdR hx hy) hd k
def Yqne{x y:Operand}{ik:IntKind}{a b:Int}{t t':Nat}(hx:lk fr x=some (.int ik a))(hy:lk fr y=some (.int ik b))(hd:Nat.blt d n=true)(k:RO P TT D n ro ops Q rest ds ((d,.bool (!decide (a=b)))::fr) L s):RO P TT D n ro ops Q (⟨some d,.binOp .neq t x y t',ty,pos,af,none⟩::rest) ds fr L s:=qcu (qhr hx hy) hd k
def qAI{x y:Operand}{ik:IntKind}{a b:Int}{t t':Nat}(hx:lk fr x=some (.int ik a))(hy:lk fr y=some (.int ik b))(hd:Nat.blt d n=true)(k:RO P TT D n ro ops Q rest ds ((d,.bool (decide (a < b)))::fr) L s):RO P TT D n ro ops Q (⟨some d,.binOp .lss t x y t',ty,pos,af,none⟩::rest) ds fr L s:=qcu (qnp hx hy) hd k
def qtL{x:Operand}{b:Bool}{t:Nat}(hx:lk fr x=some (.bool b))(hd:Nat.blt d n=true)(k:RO P TT D n ro ops Q rest ds ((d,.bool (!b))::fr) L s):RO P TT D n ro ops Q (⟨some d,.unOp .not t x,ty,pos,af,none⟩::rest) ds fr L s:=qcu (qk0 hx) hd k
def qAj{x:Operand}{t:Nat}{A:Option Addr}{m c:Nat}{ti:TI}{e:Nat}(hx:lk fr x=some (.slice A m c))(ht:qaE TT t=some ti)(hk:ti.kind=.sl e)(hd:Nat.blt d n=true)(k:RO P TT D n ro ops Q rest ds ((d,.int .i64 (m:Int))::fr) L s):RO P TT D n ro ops Q (⟨some d,.call { callee:=.builtin .len,args:=#[x],argTypes:=#[t] },ty,pos,af,none⟩::rest) ds fr L s:=qcu (qbi hx ht hk) hd k
def qxP{x:Operand}{a:Addr}(hx:lk fr x=some (.pointer (some a)))(hd:Nat.blt d n=true)(k:RO P TT D n ro ops Q rest ds ((d,.pointer (some a))::fr) L s):RO P TT D n ro ops Q (⟨some d,.nilCheck x,ty,pos,af,none⟩::rest) ds fr L s:=qcu (qam hx) hd k
def Yqf0{t f b off:Nat}{x:Operand}{ti:TI}{os:List Nat}(hx:lk fr x=some (.pointer (some ⟨b,off,none⟩)))(ht:qaE TT t=some ti)(hk:ti.kind=.st os)(hf:qlP os f=some 0)(hd:Nat.blt d n=true)(k:RO P TT D n ro ops Q rest ds ((d,.pointer (some ⟨b,off,none⟩))::fr) L s):RO P TT D n ro ops Q (⟨some d,.fieldAddr t x f,ty,pos,af,none⟩::rest) ds fr L s:=qcu (qat hx ht hk hf) hd k
def YqfB{t f fo b:Nat}{x:Operand}{ti:TI}{os:List Nat}(hx:lk fr x=some (.pointer (some ⟨b,0,none⟩)))(ht:qaE TT t=some ti)(hk:ti.kind=.st os)(hf:qlP os f=some fo)(hd:Nat.blt d n=true)(k:RO P TT D n ro ops Q rest ds ((d,.pointer (some ⟨b,fo,none⟩))::fr) L s):RO P TT D n ro ops Q (⟨some d,.fieldAddr t x f,ty,pos,af,none⟩::rest) ds fr L s:=qcu (qnl hx ht hk hf) hd k
def Yql{t b off:Nat}{x:Operand}{ti:TI}{t':Nat}{zs:List Value}(i:Nat)(hx:lk fr x=some (.pointer (some ⟨b,off,none⟩)))(hi:L[i]?=some (b,cb zs t'))(ht:qaE TT t=some ti)(hk:qem ti.kind=true)(hv:nth zs off=some v)(hd:Nat.blt d n=true)(k:RO P TT D n ro ops Q rest ds ((d,v)::fr) L s):RO P TT D n ro ops Q (⟨some d,.load t x,ty,pos,af,none⟩::rest) ds fr L s:=qcu (qca i hx hi ht hk hv) hd k
def qnx{x y:Operand}{ik:IntKind}{a b c:Int}{t t':Nat}(hx:lk fr x=some (.int ik a))(hy:lk fr y=some (.int ik b))(hd:Nat.blt d n=true)(hc:ik.wrap (a+b)=c)(k:RO P TT D n ro ops Q rest ds ((d,.int ik c)::fr) L s):RO P TT D n ro ops Q (⟨some d,.binOp .add t x y t',ty,pos,af,none⟩::rest) ds fr L s:=qcu (qaC hx hy hc) hd k
end
abbrev Ys:=@qyd
abbrev Yr:=@qnw
abbrev Yn:=@qyg
abbrev Yt:=@qhj
abbrev Yu:=@qwD
abbrev Yv:=@qwE
abbrev Yb:=@qqx
abbrev Yc:=@qqy
abbrev Yd:=@qqz
abbrev Yk:=@quS
abbrev Yl:=@quQ
abbrev Yo:=@qyc
abbrev Yp:=@qqf
abbrev Yy:=@qyb
abbrev Yg:=@qAG
abbrev Yf:=@qAF
end Go.FL
namespace Go.Proofs.YtflplmcjbppfcaaGreatDoor
open Go.Proofs.Tryz
open Go.FL
attribute [local irreducible] JC JO JA JB qaZ qaL qb4 AC fill CellsAt QE Ev Mid
def NdV(s:World):Nd→Value→Prop
 | .st x lp,v=>∃ b o A1 n1 c1 A2 n2 c2 A3 n3 c3,v=.agg #[.pointer (some ⟨b,o,none⟩),.pointer none,.int .i64 (lp:Int)]∧CellsAt s b o [.int .i64 x.kind,St x.name,.slice A1 n1 c1,.slice A2 n2 c2,.slice A3 n3 c3]∧n1=x.exprs.length
 | .ex x lp,v=>∃ b o A n c,v=.agg #[.pointer none,.pointer (some ⟨b,o,none⟩),.int .i64 (lp:Int)]∧CellsAt s b o [.int .i64 x.kind,.int .i64 x.op,.int .u32 x.num,St x.name,.slice A n c]∧n=x.args.length
def NdV.mkE{s:World}{x:Ex}{lp b o n c:Nat}{A:Option Addr}(h:CellsAt s b o [.int .i64 x.kind,.int .i64 x.op,.int .u32 x.num,St x.name,.slice A n c])(hn:n=x.args.length):NdV s (.ex x lp) (.agg #[.pointer none,.pointer (some ⟨b,o,none⟩),.int .i64 (lp:Int)]):=⟨b,o,A,n,c,rfl,h,hn⟩
def NdV.mkS{s:World}{x:Stm}{lp b o n1 c1 n2 c2 n3 c3:Nat}{A1 A2 A3:Option Addr}(h:CellsAt s b o [.int .i64 x.kind,St x.name,.slice A1 n1 c1,.slice A2 n2 c2,.slice A3 n3 c3])(hn:n1=x.exprs.length):NdV s (.st x lp) (.agg #[.pointer (some ⟨b,o,none⟩),.pointer none,.int .i64 (lp:Int)]):=⟨b,o,A1,n1,c1,A2,n2,c2,A3,n3,c3,rfl,h,hn⟩
def qh0{σ:Type}(pend:σ→Option Code)(St:σ→Nd→σ→Prop):σ→List Nd→σ→Prop
 | g,[],g'=>g'=g
 | g,p::r,g'=>∃ g1,St g p g1∧if (pend g1).isNone=true then qh0 pend St g1 r g' else g'=g1
def qfA{σ:Type}{pend:σ→Option Code}{St:σ→Nd→σ→Prop}{b:List Nd}:∀ {a:List Nd} {g g1 g':σ},pend g=none→qh0 pend St g a g1→((pend g1).isNone=true→qh0 pend St g1 b g')→((pend g1).isNone=false→g'=g1)→qh0 pend St g (a++b) g'
  | [],g,g1,g',hp,h,h1,_=>by
    have h:g1=g:=h;subst h;exact h1 (by rw [hp];rfl)
  | p::r,g,g1,g',_,⟨g2,k1,k2⟩,h1,h2=>by
    refine ⟨g2,k1,?_⟩;by_cases h3:(pend g2).isNone=true
    · rw [if_pos h3] at k2 ⊢
      exact qfA (Option.isNone_iff_eq_none.1 h3) k2 h1 h2
    · rw [if_neg h3] at k2 ⊢
      subst k2;exact h2 (Bool.eq_false_iff.2 h3)
def qcg{σ:Type}{pend:σ→Option Code}{St:σ→Nd→σ→Prop}{cnt:σ→Nat}(hcn:∀ g nd g1,St g nd g1→cnt g1≤cnt g+1):∀ {l:List Nd} {g g':σ},qh0 pend St g l g'→cnt g'≤cnt g+l.length
  | [],g,g',h=>by
    have h:g'=g:=h;subst h;simp
  | p::r,g,g',⟨g1,h1,h2⟩=>by
    have e1:=hcn _ _ _ h1;by_cases h3:(pend g1).isNone=true
    · rw [if_pos h3] at h2
      have e2:=qcg hcn h2;rw [List.length_cons];omega
    · rw [if_neg h3] at h2
      subst h2;rw [List.length_cons];omega
def qiz{l:List Ex}{k lp:Nat}{x:Ex}(h:l[k]?=some x):qea (l.drop k) lp=.ex x lp::(qea x.args lp++qea (l.drop (k+1)) lp):=by
 obtain ⟨hk,rfl⟩:=List.getElem?_eq_some_iff.1 h;rw [List.drop_eq_getElem_cons hk,qea];cases l[k] with
 | mk a b c d e=>rfl
def IXC(D d:Nat):Prop:=∀ (s:World) (σ:Type) (H:σ→Hl) (I:σ→World→Prop) (pend:σ→Option Code) (St:σ→Nd→σ→Prop) (l:Nat) (g0:σ) (cnt:σ→Nat) (B:Nat),(∀ g nd g1,St g nd g1→cnt g1≤cnt g+1)→(∀ g s s',I g s→Le D s s'→I g s')→(∀ g nd nv s',Le D s s'→I g s'→pend g=none→cnt g < B→NdV s' nd nv→YC prog D l [nv] (H g) s' fun v L' s3=>∃ g1,St g nd g1∧v=.bool (pend g1).isNone∧L'=H g1∧I g1 s3)→I g0 s→pend g0=none→∀ (A:Option Addr) (n c:Nat) (xs:List Ex) (lp:Nat),Exs d s A n c xs→cnt g0+(qea xs lp).length≤B→AC prog D 108 [.slice A n c,.int .i64 (lp:Int),.func (.yield l) #[] #[]] (H g0) s fun v L' s3=>∃ g',qh0 pend St g0 (qea xs lp) g'∧v=.bool (pend g').isNone∧L'=H g'∧I g' s3
def Cz50{p:Prop} (h:p:=by
 exact ⟨g,hrun g rfl,by rw [hpg];rfl,rfl,mono _ _ _ hIg ((Lr D).t hS2)⟩):p:=h
def qoq(D d:Nat)(ih:∀ e,d=e+1→IXC D e)(s:World)(σ:Type)(H:σ→Hl)(I:σ→World→Prop)(pend:σ→Option Code)(St:σ→Nd→σ→Prop)(l:Nat)(g0:σ)(cnt:σ→Nat)(B:Nat)(hcn:∀ g nd g1,St g nd g1→cnt g1≤cnt g+1)(mono:∀ g s s',I g s→Le D s s'→I g s')(hY:∀ g nd nv s',Le D s s'→I g s'→pend g=none→cnt g < B→NdV s' nd nv→YC prog D l [nv] (H g) s' fun v L' s3=>∃ g1,St g nd g1∧v=.bool (pend g1).isNone∧L'=H g1∧I g1 s3)(hI:I g0 s)(hp:pend g0=none)(A:Option Addr)(n c:Nat)(xs:List Ex)(lp:Nat)(hA:Exs d s A n c xs)(hBn:cnt g0+(qea xs lp).length≤B):AC prog D 108 [.slice A n c,.int .i64 (lp:Int),.func (.yield l) #[] #[]] (H g0) s fun v L' s3=>∃ g',qh0 pend St g0 (qea xs lp) g'∧v=.bool (pend g').isNone∧L'=H g'∧I g' s3:=by
 have hn:=hA.1;have hc1:=hA.2.1;have hc2:=hA.2.2.1;refine qfc (fn:=f108) qav func108 V Z ntmps108 Z (rs:=[.tmp 6]) Z [(0,_),(1,_),(2,_)] Z<|Ys<|Yr<|Yqa Z Z<|Yn<|Yt<|Ys<|Ys<|Yr<|Yqm Z Z<|qAj Z Z Z Z<|Yqm Z Z<|Yn<|Yt<|Yp<|?_;refine qnu (γ:=σ×Nat) (fun g=>[(0,_),(1,_),(2,_),(6,_),(9,_),(10,.int .i64 (g.2:Int))]) (fun g=>H g.1) (fun g tw=>Le D s tw∧(g.2≤n∧I g.1 tw∧pend g.1=none∧cnt g.1+(qea (xs.drop g.2) lp).length≤B∧(∀ g',qh0 pend St g.1 (qea (xs.drop g.2) lp) g'→qh0 pend St g0 (qea xs lp) g'))) (fun g=>n - g.2) (fun _ _ _ h hl=>⟨h.1.trans hl,⟨h.2.1,mono _ _ _ h.2.2.1 hl,h.2.2.2⟩⟩) (g0,0) (.c6 Z Z Z Z Z Z (.nil _)) Z ⟨Le.refl _,⟨Nat.zero_le _,mono _ _ _ hI (Lr D),hp,hBn,fun g' h=>h⟩⟩ ?_;intro g s1 I1;obtain ⟨g,k⟩:=g;obtain ⟨hk0,hIg,hpg,hbn,hrun⟩:=I1.2;simp only at hk0 hIg hpg hbn hrun;dsimp only;refine Ys<|Yr<|qAI Z Z Z<|Yn<|Yt<|Ys<|?_;refine qk3 Z ?_ ?_<;>intro c2
 ·have hk:k < n:=by omega
  obtain ⟨e,b,off,x,A',n',c',hd,rfl,hx,hcx,hax,hux,hnl⟩:=Exs.at_ (hA.le I1.1) hk;have hn':=hax.1;rw [qiz hx,List.length_cons,List.length_append] at hbn;refine Yk<|Yt<|Ys<|Yp<|Ys<|Yr<|Yqm Z Z<|Yqa Z Z<|Yn<|Yt<|Ys<|Yr<|Yqm Z Z<|Yqm Z Z<|Yqm Z Z<|qcu (qau Z Z Z Z Z Z hk) Z<|Yqm Z Z<|qcu (qak [(_,_),(_,_)] [_,_,_] Z Z Z Z Z Z) Z<|qk5 Z Z Z (hY g (.ex x lp) _ _ I1.1 (mono _ _ _ hIg (Lr D)) hpg O (NdV.mkE (hcx.le (Lr D)) hn')) ?_;rintro _ _ s3 h3 ⟨g1,hst,rfl,rfl,hIn⟩;have e3:=I1.1.t h3;refine qtL Z Z<|Yqm Z Z<|?_;refine qgr (t:=21) Z ?_ ?_<;>intro c4;·refine Yf Z Z Z Z<|Yf Z Z Z Z<|Yf Z Z Z Z<|Yf Z Z Z Z<|Yf Z Z Z Z<|Yf Z Z Z Z<|Yf Z Z Z Z<|Yf Z Z Z Z<|Yf Z Z Z Z<|YqT Z Z Z<|Yn<|Yt<|Yy Z ?_;have hp2:=trivial;refine Ys<|Yr<|Yqa Z Z<|Yn<|Yt<|Yo<|Yc<|Yu<|Yu<|Yc<|Yu<|?_;refine qb3 [] _ (.inr Z) (.t1 Z) Z e3 ⟨[],Z,List.nil_sublist _⟩ fun _ hS2=>?_;exact ⟨g1,hrun g1 (by rw [qiz hx];exact ⟨g1,hst,by rw [if_neg (by simp only [*];decide)]⟩),by simp only [*];rfl,rfl,mono _ _ _ hIn ((Lr D).t hS2)⟩
  refine Yg Z Z<|Yqm Z Z<|Yg Z Z<|Yqm Z Z<|Yg Z Z<|qcu (qau Z Z Z Z Z Z hk) Z<|Yg Z Z<|qcu (qbm Z Z Z Z) Z<|Yg Z Z<|qcu (qaF 4 Z Z Z (hcx.le h3) Z) Z<|Yg Z Z<|Yqm Z Z<|Yg Z Z<|Yqm Z Z<|Yg Z Z<|Rc9 Z Z Z (ih e hd _ σ H I pend St l g1 cnt B hcn mono (fun g nd nv s9 hl=>hY g nd nv s9 (e3|>.t hl)) (mono _ _ _ hIn (Lr D)) (Option.isNone_iff_eq_none.1 As) A' n' c' x.args lp (hax.le h3) (by have e1:=hcn _ _ _ hst;omega)) ?_;rintro _ _ s5 h5 ⟨g2,hrn,rfl,rfl,hIn2⟩;refine Yg Z Z<|qtL Z Z<|YqF Z Z Z<|Yn<|Yt<|?_;refine qk4 Z ?_ ?_<;>intro c6;·have hp2:=c6;refine Ys<|Yr<|Yqa Z Z<|Yn<|Yt<|Yo<|Yc<|Yu<|Yu<|Yc<|Yu<|?_;refine qb3 [] _ (.inr Z) (.t1 Z) Z (e3.t h5) ⟨[],Z,List.nil_sublist _⟩ fun _ hS2=>?_;exact ⟨g2,hrun g2 (by rw [qiz hx];exact ⟨g1,hst,by rw [if_pos As];exact qfA (Option.isNone_iff_eq_none.1 As) hrn (fun h9=>by rw [hp2] at h9;cases h9) (fun _=>rfl)⟩),by rw [hp2];rfl,rfl,mono _ _ _ hIn2 ((Lr D).t hS2)⟩
  have hp2:=c6;refine Yk<|Yb<|Yt<|Yr<|qnx Z Z Z (w64 O O)<|Yqm Z Z<|Yn<|?_;refine qhj ⟨Z,(g2,k+1),[],(.c6 Z Z Z Z Z Z (.nil _)),Z,⟨(e3.t h5),⟨by simp only;omega,mono _ _ _ hIn2 (Lr D),Option.isNone_iff_eq_none.1 hp2,by have e1:=hcn _ _ _ hst;have e2:=qcg hcn hrn;simp only;omega,fun g' h=>hrun g' (by rw [qiz hx];exact ⟨g1,hst,by rw [if_pos As];exact qfA (Option.isNone_iff_eq_none.1 As) hrn (fun _=>h) (fun h9=>by rw [hp2] at h9;cases h9)⟩)⟩⟩,Oz⟩
 rw [List.drop_eq_nil_of_le O,qea] at hrun;refine Yl<|Yv<|Yv<|Yd<|Yt<|Ys<|Yr<|Yqa Z Z<|Yn<|Yt<|Yo<|?_;refine qb3 [] _ (.inr Z) (.t1 Z) Z I1.1 ⟨[],Z,List.nil_sublist _⟩ fun _ hS2=>?_;exact Cz50
def ixc(D:Nat):∀ d,IXC D d
 | 0=>fun s σ H I pend St l g0 cnt B hcn mono hY hI hp A n c xs lp hA hBn=>qoq D 0 (fun e h=>by omega) s σ H I pend St l g0 cnt B hcn mono hY hI hp A n c xs lp hA hBn
 | d+1=>fun s σ H I pend St l g0 cnt B hcn mono hY hI hp A n c xs lp hA hBn=>qoq D (d+1) (fun e h=>(show d=e by omega)▸ixc D d) s σ H I pend St l g0 cnt B hcn mono hY hI hp A n c xs lp hA hBn
section
variable{σ:Type}{pend:σ→Option Code}{St:σ→Nd→σ→Prop}{a b:List Nd}{g g1 g':σ}
def qes(hp:(pend g).isNone=true)(h:qh0 pend St g a g1)(h1:(pend g1).isNone=false):qh0 pend St g (a++b) g1:=qfA (Option.isNone_iff_eq_none.1 hp) h (fun h9=>by rw [h1] at h9;cases h9) fun _=>rfl
def qd2(hp:(pend g).isNone=true)(h:qh0 pend St g a g1)(h1:(pend g1).isNone=true)(k:qh0 pend St g1 b g'):qh0 pend St g (a++b) g':=qfA (Option.isNone_iff_eq_none.1 hp) h (fun _=>k) fun h9=>by rw [h1] at h9;cases h9
end
def lpI(x:Stm)(lp:Nat):Nat:=if x.kind=4 then lp+1 else lp
def qe3{l:List Stm}{k lp:Nat}{x:Stm}(h:l[k]?=some x):qcG (l.drop k) lp=.st x lp::((qea x.exprs lp++(qcG x.body (lpI x lp)++qcG x.els (lpI x lp)))++qcG (l.drop (k+1)) lp):=by
 obtain ⟨hk,rfl⟩:=List.getElem?_eq_some_iff.1 h;rw [List.drop_eq_getElem_cons hk,qcG];cases l[k] with
 | mk a b c d e=>rfl
def ISC(D d:Nat):Prop:=∀ (s:World) (σ:Type) (H:σ→Hl) (I:σ→World→Prop) (pend:σ→Option Code) (St:σ→Nd→σ→Prop) (l:Nat) (g0:σ) (cnt:σ→Nat) (B:Nat),(∀ g nd g1,St g nd g1→cnt g1≤cnt g+1)→(∀ g s s',I g s→Le D s s'→I g s')→(∀ g nd nv s',Le D s s'→I g s'→pend g=none→cnt g < B→NdV s' nd nv→YC prog D l [nv] (H g) s' fun v L' s3=>∃ g1,St g nd g1∧v=.bool (pend g1).isNone∧L'=H g1∧I g1 s3)→I g0 s→pend g0=none→∀ (A:Option Addr) (n c:Nat) (xs:List Stm) (lp lv:Nat),Stms d s A n c xs→qdP xs lv=true→lp≤lv→cnt g0+(qcG xs lp).length≤B→AC prog D 73 [.slice A n c,.int .i64 (lp:Int),.func (.yield l) #[] #[]] (H g0) s fun v L' s3=>∃ g',qh0 pend St g0 (qcG xs lp) g'∧v=.bool (pend g').isNone∧L'=H g'∧I g' s3
def Cz51{p:Prop} (h:p:=by
 exact ⟨g3,hrun g3 (by rw [qe3 hx];exact ⟨g1,hst,by rw [if_pos As];exact qes As (qd2 As hr2 As (qes As hr3 As)) As⟩),(show qbP [Value.bool false]=.bool (pend g3).isNone by rw [show (pend g3).isNone=false by assumption];rfl),rfl,mono _ _ _ hI3 ((Lr D).t hS2)⟩):p:=h
def Cz52{p:Prop} (h:p:=by
 exact ⟨g4,hrun g4 (by rw [qe3 hx];exact ⟨g1,hst,by rw [if_pos As];exact qes As (qd2 As hr2 As (qd2 As hr3 As hr4)) As⟩),(show qbP [Value.bool false]=.bool (pend g4).isNone by rw [show (pend g4).isNone=false by assumption];rfl),rfl,mono _ _ _ hI4 ((Lr D).t hS2)⟩):p:=h
def qop(D d:Nat)(ih:∀ e,d=e+1→ISC D e)(s:World)(σ:Type)(H:σ→Hl)(I:σ→World→Prop)(pend:σ→Option Code)(St:σ→Nd→σ→Prop)(l:Nat)(g0:σ)(cnt:σ→Nat)(B:Nat)(hcn:∀ g nd g1,St g nd g1→cnt g1≤cnt g+1)(mono:∀ g s s',I g s→Le D s s'→I g s')(hY:∀ g nd nv s',Le D s s'→I g s'→pend g=none→cnt g < B→NdV s' nd nv→YC prog D l [nv] (H g) s' fun v L' s3=>∃ g1,St g nd g1∧v=.bool (pend g1).isNone∧L'=H g1∧I g1 s3)(hI:I g0 s)(hp:pend g0=none)(A:Option Addr)(n c:Nat)(xs:List Stm)(lp lv:Nat)(hA:Stms d s A n c xs)(hv:qdP xs lv=true)(hlp:lp≤lv)(hBn:cnt g0+(qcG xs lp).length≤B):AC prog D 73 [.slice A n c,.int .i64 (lp:Int),.func (.yield l) #[] #[]] (H g0) s fun v L' s3=>∃ g',qh0 pend St g0 (qcG xs lp) g'∧v=.bool (pend g').isNone∧L'=H g'∧I g' s3:=by
 have hn:=hA.1;have hc1:=hA.2.1;have hc2:=hA.2.2.1;refine qfc (fn:=f73) qav func73 V Z ntmps73 Z (rs:=[.tmp 6]) Z [(0,_),(1,_),(2,_)] Z<|Ys<|Yr<|Yqa Z Z<|Yn<|Yt<|Ys<|Ys<|Yr<|Yqm Z Z<|qAj Z Z Z Z<|Yqm Z Z<|Yn<|Yt<|Yp<|?_;refine qnu (γ:=σ×Nat) (fun g=>[(0,_),(1,_),(2,_),(6,_),(11,_),(12,.int .i64 (g.2:Int))]) (fun g=>H g.1) (fun g tw=>Le D s tw∧(g.2≤n∧I g.1 tw∧pend g.1=none∧cnt g.1+(qcG (xs.drop g.2) lp).length≤B∧(∀ g',qh0 pend St g.1 (qcG (xs.drop g.2) lp) g'→qh0 pend St g0 (qcG xs lp) g'))) (fun g=>n - g.2) (fun _ _ _ h hl=>⟨h.1.trans hl,⟨h.2.1,mono _ _ _ h.2.2.1 hl,h.2.2.2⟩⟩) (g0,0) (.c6 Z Z Z Z Z Z (.nil _)) Z ⟨Le.refl _,⟨Nat.zero_le _,mono _ _ _ hI (Lr D),hp,hBn,fun g' h=>h⟩⟩ ?_;intro g s1 I1;obtain ⟨g,k⟩:=g;obtain ⟨hk0,hIg,hpg,hbn,hrun⟩:=I1.2;simp only at hk0 hIg hpg hbn hrun;dsimp only;refine Ys<|Yr<|qAI Z Z Z<|Yn<|Yt<|Ys<|?_;refine qk3 Z ?_ ?_<;>intro c2
 ·have hk:k < n:=by omega
  obtain ⟨e,b,off,x,A1,n1,p1,A2,n2,p2,A3,n3,p3,hd,rfl,hx,hcx,hax,hbx,hex,hnl⟩:=Stms.at_ (hA.le I1.1) hk;have hn':=hax.1;obtain ⟨hvx,_⟩:=qfE hv hx;obtain ⟨hlv,_,_,hvB,hvL⟩:=qdL hvx;rw [qe3 hx,List.length_cons,List.length_append,List.length_append,List.length_append] at hbn;refine Yk<|Yt<|Ys<|Yp<|Ys<|Yr<|Yqm Z Z<|Yqa Z Z<|Yn<|Yt<|Ys<|Yr<|Yqm Z Z<|Yqm Z Z<|qcu (qau Z Z Z Z Z Z hk) Z<|Yqa Z Z<|Yn<|Yt<|Ys<|Ys<|Yr<|Yqm Z Z<|Yqm Z Z<|Yqm Z Z<|qcu (qak [(_,_),(_,_)] [_,_,_] Z Z Z Z Z Z) Z<|qk5 Z Z Z (hY g (.st x lp) _ _ I1.1 (mono _ _ _ hIg (Lr D)) hpg O (NdV.mkS (hcx.le (Lr D)) hn')) ?_;rintro _ _ s3 h3 ⟨g1,hst,rfl,rfl,hI1⟩;have e3q:=I1.1.t h3;refine qtL Z Z<|Yqm Z Z<|?_;refine qgr (t:=24) Z ?_ ?_<;>intro c4;·refine Yf Z Z Z Z<|Yf Z Z Z Z<|Yf Z Z Z Z<|Yf Z Z Z Z<|Yf Z Z Z Z<|Yf Z Z Z Z<|Yf Z Z Z Z<|Yf Z Z Z Z<|YqT Z Z Z<|Yn<|Yt<|Yy Z<|?_;have q33:=trivial;refine Ys<|Yr<|Yqa Z Z<|Yn<|Yt<|Yo<|Yu<|Yc<|Yu<|Yu<|Yc<|Yu<|?_;refine qb3 [] _ (.inr Z) (.t1 Z) Z e3q ⟨[],Z,List.nil_sublist _⟩ fun _ hS2=>?_;exact ⟨g1,hrun g1 (by rw [qe3 hx];exact ⟨g1,hst,by rw [if_neg (by rw [show (pend g1).isNone=false by assumption];decide)]⟩),(show qbP [Value.bool false]=.bool (pend g1).isNone by rw [show (pend g1).isNone=false by assumption];rfl),rfl,mono _ _ _ hI1 ((Lr D).t hS2)⟩
  refine Yg Z Z<|Yqm Z Z<|Yg Z Z<|qxP Z Z<|Yg Z Z<|qcu (qbm Z Z Z Z) Z<|Yg Z Z<|qcu (qaF 2 Z Z Z (hcx.le h3) Z) Z<|Yg Z Z<|Yqm Z Z<|Yg Z Z<|Yqm Z Z<|Yg Z Z<|Rc9 Z Z Z (ixc D e _ σ H I pend St l g1 cnt B hcn mono (fun g nd nv s9 hl=>hY g nd nv s9 (e3q|>.t hl)) (mono _ _ _ hI1 (Lr D)) (Option.isNone_iff_eq_none.1 As) A1 n1 p1 x.exprs lp (hax.le h3) (by have e1:=hcn _ _ _ hst;omega)) ?_;rintro _ _ s5 h5 ⟨g2,hr2,rfl,rfl,hI2⟩;have e5:=e3q.t h5;refine Yg Z Z<|qtL Z Z<|YqF Z Z Z<|Yn<|Yt<|?_;refine qk4 Z ?_ ?_<;>intro c6;·have q33:=c6;refine Ys<|Yr<|Yqa Z Z<|Yn<|Yt<|Yo<|Yu<|Yc<|Yu<|Yu<|Yc<|Yu<|?_;refine qb3 [] _ (.inr Z) (.t1 Z) Z e5 ⟨[],Z,List.nil_sublist _⟩ fun _ hS2=>?_;exact ⟨g2,hrun g2 (by rw [qe3 hx];exact ⟨g1,hst,by rw [if_pos As];exact qes As (qes As hr2 As) As⟩),(show qbP [Value.bool false]=.bool (pend g2).isNone by rw [show (pend g2).isNone=false by assumption];rfl),rfl,mono _ _ _ hI2 ((Lr D).t hS2)⟩
  have q33:=c6;refine Yk<|Yt<|Ys<|Yr<|Yqm Z Z<|Yqa Z Z<|Yn<|Yt<|Ys<|Ys<|Yr<|Yqm Z Z<|qxP Z Z<|Yqf0 Z Z Z Z Z<|qcu (qaq Z Z Z (hcx.le (h3.t h5)) Z) Z<|Yqeq Z Z Z<|Yn<|Yt<|?_;refine qk3 Z ?_ ?_<;>intro c7
  ·have hlI:lpI x lp=lp+1:=if_pos c7;have hlI2:lpI x lp≤lv+1:=by omega
   refine Yr<|Yqm Z Z<|qcu (qaC Z Z (show IntKind.i64.wrap ((lp:Int)+1)=((lpI x lp:Nat):Int) by rw [w64 O O];omega)) Z<|Yqa Z Z<|Yn<|Yt<|Ys<|Yr<|Yqm Z Z<|qxP Z Z<|qcu (qbm Z Z Z Z) Z<|qcu (qaF 3 Z Z Z (hcx.le (h3.t h5)) Z) Z<|Yqm Z Z<|Yqm Z Z<|?_;refine Rc9 Z Z Z (ih e hd _ σ H I pend St l g2 cnt B hcn mono (fun g nd nv s9 hl=>hY g nd nv s9 (e5|>.t hl)) (mono _ _ _ hI2 (Lr D)) (Option.isNone_iff_eq_none.1 As) A2 n2 p2 x.body (lpI x lp) (lv+1) (hbx.le (h3.t h5)) hvB hlI2 (by have e1:=hcn _ _ _ hst;have e2:=qcg hcn hr2;omega)) ?_;rintro _ _ s8 h8 ⟨g3,hr3,rfl,rfl,hI3⟩
     
   refine qtL Z Z<|Yqm Z Z<|?_;refine qgr (t:=50) Z ?_ ?_<;>intro c9;·refine Yf Z Z Z Z<|Yf Z Z Z Z<|Yf Z Z Z Z<|Yf Z Z Z Z<|Yf Z Z Z Z<|Yf Z Z Z Z<|Yf Z Z Z Z<|Yf Z Z Z Z<|YqT Z Z Z<|Yn<|Yt<|Yy Z<|?_;have q59:=trivial;refine Ys<|Yr<|Yqa Z Z<|Yn<|Yt<|Yo<|Yc<|Yu<|Yu<|Yc<|Yu<|?_;refine qb3 [] _ (.inr Z) (.t1 Z) Z (e5.t h8) ⟨[],Z,List.nil_sublist _⟩ fun _ hS2=>?_;exact Cz51
   refine Yg Z Z<|Yqm Z Z<|Yg Z Z<|qxP Z Z<|Yg Z Z<|qcu (qbm Z Z Z Z) Z<|Yg Z Z<|qcu (qaF 4 Z Z Z (hcx.le (h3.t h5|>.t h8)) Z) Z<|Yg Z Z<|Yqm Z Z<|Yg Z Z<|Yqm Z Z<|Yg Z Z<|Rc9 Z Z Z (ih e hd _ σ H I pend St l g3 cnt B hcn mono (fun g nd nv s9 hl=>hY g nd nv s9 (e5.t h8|>.t hl)) (mono _ _ _ hI3 (Lr D)) (Option.isNone_iff_eq_none.1 As) A3 n3 p3 x.els (lpI x lp) (lv+1) (hex.le (h3.t h5|>.t h8)) hvL hlI2 (by have e1:=hcn _ _ _ hst;have e2:=qcg hcn hr2;have e3:=qcg hcn hr3;omega)) ?_;rintro _ _ s10 h10 ⟨g4,hr4,rfl,rfl,hI4⟩
      
   refine Yg Z Z<|qtL Z Z<|YqF Z Z Z<|Yn<|Yt<|?_;refine qk4 Z ?_ ?_<;>intro c11;·have q59:=c11;refine Ys<|Yr<|Yqa Z Z<|Yn<|Yt<|Yo<|Yc<|Yu<|Yu<|Yc<|Yu<|?_;refine qb3 [] _ (.inr Z) (.t1 Z) Z (e5.t h8|>.t h10) ⟨[],Z,List.nil_sublist _⟩ fun _ hS2=>?_;exact Cz52
   have q59:=c11;refine Yk<|Yb<|Yt<|Yr<|qnx Z Z Z (w64 O O)<|Yqm Z Z<|Yn<|?_;refine qhj ⟨Z,(g4,k+1),[],(.c6 Z Z Z Z Z Z (.nil _)),Z,⟨(e5.t h8|>.t h10),⟨by simp only;omega,mono _ _ _ hI4 (Lr D),(Option.isNone_iff_eq_none.1 As),by have e1:=hcn _ _ _ hst;have e2:=qcg hcn hr2;have e3:=qcg hcn hr3;have e4:=qcg hcn hr4;simp only;omega,fun g' h=>hrun g' (by rw [qe3 hx];exact ⟨g1,hst,by rw [if_pos As];exact qd2 As (qd2 As hr2 As (qd2 As hr3 As hr4)) As h⟩)⟩⟩,Oz⟩
  have hlI:lpI x lp=lp:=if_neg c7;have hlI2:lpI x lp≤lv+1:=by omega
  refine Yk<|Yt<|Ys<|Yr<|Yqm Z Z<|qxP Z Z<|qcu (qbm Z Z Z Z) Z<|qcu (qaF 3 Z Z Z (hcx.le (h3.t h5)) Z) Z<|Yqm Z Z<|Yqm Z Z<|Rc9 Z Z Z ((by have h9:=ih e hd _ σ H I pend St l g2 cnt B hcn mono (fun g nd nv s9 hl=>hY g nd nv s9 (e5|>.t hl)) (mono _ _ _ hI2 (Lr D)) (Option.isNone_iff_eq_none.1 As) A2 n2 p2 x.body (lpI x lp) (lv+1) (hbx.le (h3.t h5)) hvB hlI2 (by have e1:=hcn _ _ _ hst;have e2:=qcg hcn hr2;omega);rw [hlI] at h9;exact h9)) ?_;rintro _ _ s12 h12 ⟨g3,hr3,rfl,rfl,hI3⟩;rw [← hlI] at hr3;refine qtL Z Z<|Yqm Z Z<|?_;refine qgr (t:=50) Z ?_ ?_<;>intro c13;·refine Yf Z Z Z Z<|Yf Z Z Z Z<|Yf Z Z Z Z<|Yf Z Z Z Z<|Yf Z Z Z Z<|Yf Z Z Z Z<|Yf Z Z Z Z<|Yf Z Z Z Z<|YqT Z Z Z<|Yn<|Yt<|Yy Z<|?_;have q59:=trivial;refine Ys<|Yr<|Yqa Z Z<|Yn<|Yt<|Yo<|Yc<|Yu<|Yu<|Yc<|Yu<|?_;refine qb3 [] _ (.inr Z) (.t1 Z) Z (e5.t h12) ⟨[],Z,List.nil_sublist _⟩ fun _ hS2=>?_;exact Cz51
  refine Yg Z Z<|Yqm Z Z<|Yg Z Z<|qxP Z Z<|Yg Z Z<|qcu (qbm Z Z Z Z) Z<|Yg Z Z<|qcu (qaF 4 Z Z Z (hcx.le (h3.t h5|>.t h12)) Z) Z<|Yg Z Z<|Yqm Z Z<|Yg Z Z<|Yqm Z Z<|Yg Z Z<|?_;refine Rc9 Z Z Z ((by have h9:=ih e hd _ σ H I pend St l g3 cnt B hcn mono (fun g nd nv s9 hl=>hY g nd nv s9 (e5.t h12|>.t hl)) (mono _ _ _ hI3 (Lr D)) (Option.isNone_iff_eq_none.1 As) A3 n3 p3 x.els (lpI x lp) (lv+1) (hex.le (h3.t h5|>.t h12)) hvL hlI2 (by have e1:=hcn _ _ _ hst;have e2:=qcg hcn hr2;have e3:=qcg hcn hr3;omega);rw [hlI] at h9;exact h9)) ?_;rintro _ _ s14 h14 ⟨g4,hr4,rfl,rfl,hI4⟩;rw [← hlI] at hr4;refine Yg Z Z<|qtL Z Z<|YqF Z Z Z<|Yn<|Yt<|?_;refine qk4 Z ?_ ?_<;>intro c15;·have q59:=c15;refine Ys<|Yr<|Yqa Z Z<|Yn<|Yt<|Yo<|Yc<|Yu<|Yu<|Yc<|Yu<|?_;refine qb3 [] _ (.inr Z) (.t1 Z) Z (e5.t h12|>.t h14) ⟨[],Z,List.nil_sublist _⟩ fun _ hS2=>?_;exact Cz52
  have q59:=c15;refine Yk<|Yb<|Yt<|Yr<|qnx Z Z Z (w64 O O)<|Yqm Z Z<|Yn<|?_;refine qhj ⟨Z,(g4,k+1),[],(.c6 Z Z Z Z Z Z (.nil _)),Z,⟨(e5.t h12|>.t h14),⟨by simp only;omega,mono _ _ _ hI4 (Lr D),(Option.isNone_iff_eq_none.1 As),by have e1:=hcn _ _ _ hst;have e2:=qcg hcn hr2;have e3:=qcg hcn hr3;have e4:=qcg hcn hr4;simp only;omega,fun g' h=>hrun g' (by rw [qe3 hx];exact ⟨g1,hst,by rw [if_pos As];exact qd2 As (qd2 As hr2 As (qd2 As hr3 As hr4)) As h⟩)⟩⟩,Oz⟩
 rw [List.drop_eq_nil_of_le O,qcG] at hrun;refine Yl<|Yv<|Yv<|Yd<|Yt<|Ys<|Yr<|Yqa Z Z<|Yn<|Yt<|Yo<|?_;refine qb3 [] _ (.inr Z) (.t1 Z) Z I1.1 ⟨[],Z,List.nil_sublist _⟩ fun _ hS2=>?_;exact Cz50
def isc(D:Nat):∀ d,ISC D d
 | 0=>fun s σ H I pend St l g0 cnt B hcn mono hY hI hp A n c xs lp lv hA hv hlp hBn=>qop D 0 (fun e h=>by omega) s σ H I pend St l g0 cnt B hcn mono hY hI hp A n c xs lp lv hA hv hlp hBn
 | d+1=>fun s σ H I pend St l g0 cnt B hcn mono hY hI hp A n c xs lp lv hA hv hlp hBn=>qop D (d+1) (fun e h=>(show d=e by omega)▸isc D d) s σ H I pend St l g0 cnt B hcn mono hY hI hp A n c xs lp lv hA hv hlp hBn
def qvg(D:Nat)(s:World)(σ:Type)(H:σ→Hl)(I:σ→World→Prop)(pend:σ→Option Code)(Srq9:σ→Nd→σ→Prop)(l:Nat)(g0:σ)(cnt:σ→Nat)(B:Nat)(hcn:∀ g nd g1,Srq9 g nd g1→cnt g1≤cnt g+1)(mono:∀ g s s',I g s→Le D s s'→I g s')(hY:∀ g nd nv s',Le D s s'→I g s'→pend g=none→cnt g < B→NdV s' nd nv→YC prog D l [nv] (H g) s' fun v L' s3=>∃ g1,Srq9 g nd g1∧v=.bool (pend g1).isNone∧L'=H g1∧I g1 s3)(hI:I g0 s)(hp:pend g0=none)(b d:Nat)(x:Fnc)(A1 A2 A3:Option Addr)(n1 q1 n2 q2 n3 q3:Nat)(hcb:CellsAt s b 0 [St x.name,.slice A1 n1 q1,.slice A2 n2 q2,.slice A3 n3 q3])(hB:Stms d s A3 n3 q3 x.body)(hv:qdP x.body 1=true)(hBn:cnt g0+(qcG x.body 0).length≤B):AC prog D 72 [.func (.yield l) #[] #[],.pointer (some ⟨b,0,none⟩)] (H g0) s fun _ L' s3=>∃ g',qh0 pend Srq9 g0 (qcG x.body 0) g'∧L'=H g'∧I g' s3:=by
 refine qfc (fn:=f72) qav func72 V Z ntmps72 Z (rs:=[]) Z [(0,_),(1,_)] Z<|Yr<|qcu (qbm Z Z Z Z) Z<|qcu (qaF 3 Z Z Z (hcb.le (Lr D)) Z) Z<|Yqm Z Z<|Rc9 Z Z Z (isc D d _ σ H I pend Srq9 l g0 cnt B hcn mono (fun g nd nv s9 hl=>hY g nd nv s9 ((Lr D).t hl)) (mono _ _ _ hI (Lr D)) hp A3 n3 q3 x.body 0 1 (hB.le (Lr D)) hv O hBn) ?_;rintro _ _ s1 h1 ⟨g2,hr2,rfl,rfl,hI2⟩;refine Yn ?_;refine qb3 [] _ (.inl Z) (.nil) Z h1 ⟨[],Z,List.nil_sublist _⟩ fun _ hS2=>?_;exact ⟨g2,hr2,rfl,mono _ _ _ hI2 ((Lr D).t hS2)⟩
def qvh(D:Nat)(L:Hl)(s:World)(x:Fnc)(A1 A2 A3:Option Addr)(n1 q1 n2 q2 n3 q3:Nat):AC prog D 42 [.agg #[St x.name,.slice A1 n1 q1,.slice A2 n2 q2,.slice A3 n3 q3]] L s fun v L' _=>∃ M',L'=M'++L∧∃ b,M'=[(b,cb [St x.name,.slice A1 n1 q1,.slice A2 n2 q2,.slice A3 n3 q3] 52)]∧v=.func (.func 72) #[] #[.pointer (some ⟨b,0,none⟩)]:=by
 refine qae (fn:=f42) qav func42 V Z ntmps42 Z (rs:=[.tmp 2]) Z [(0,_)] Z<|Sr<|qay Z Z fun β1 s1 h1=>At Z Z<|Sr<|qad (qfQ Z) Z<|At Z Z<|Zo<|?_;exact rR [] _ (.t1 Z) Z h1 fun _ hS2=>⟨[_],rfl,_,rfl,rfl⟩
def qqL(D:Nat)(L:Hl)(s:World)(d:Nat)(p:Prg)(Ag Af:Option Addr)(ng cg nf cf:Nat)(hGl:Glos s Ag ng cg p.globals)(hFn:Fncs d s Af nf cf p.funcs)(bm:Nat)(hM:NmOK s bm p)(x:Fnc)(A1 A2 A3:Option Addr)(n1 q1 n2 q2 n3 q3:Nat)(hs1:Strs s A1 n1 q1 x.params)(hs2:Strs s A2 n2 q2 x.locals)(nd:Nd)(nv:Value)(hN:NdV s nd nv):AC prog D 43 [.agg #[.slice Ag ng cg,.slice Af nf cf,.map (some bm)],.agg #[St x.name,.slice A1 n1 q1,.slice A2 n2 q2,.slice A3 n3 q3],nv] L s fun v L' _=>v=.int .i64 (ndC p x nd)∧L=L':=by
 cases nd with
 | st y lp=>
  obtain ⟨b,o,C1,r1,e1,C2,r2,e2,C3,r3,e3,rfl,hy,hr⟩:=hN;exact qvA D L s d p Ag Af ng cg nf cf hGl hFn bm hM x A1 A2 A3 n1 q1 n2 q2 n3 q3 hs1 hs2 y b o C1 C2 C3 r1 e1 r2 e2 r3 e3 hy hr lp
 | ex y lp=>
  obtain ⟨b,o,C1,r1,e1,rfl,hy,hr⟩:=hN;exact qvz D L s d p Ag Af ng cg nf cf hGl hFn bm hM x A1 A2 A3 n1 q1 n2 q2 n3 q3 hs1 hs2 y b o C1 r1 e1 hy hr lp
def qoI:∀ {l:List Glo} {seen:List Str} {i:Nat},seen.Nodup→qgC l seen i=(0,0)→(seen++l.map Glo.name).Nodup
  | [],seen,_,h,_=>by simpa using h
  | g::r,seen,i,h,h0=>by
    rw [qgC] at h0;split at h0
    · cases h0
    · rename_i h1
      have:=qoI (l:=r) (seen:=seen++[g.name]) (by
        rw [List.nodup_append];refine ⟨h,by simp,fun a ha b hb=>?_⟩;rw [List.mem_singleton] at hb;subst hb;intro e;subst e;exact h1 ha) h0
      simpa using this
def qoH:∀ {l:List Fnc} {seen:List Str} {i:Nat},seen.Nodup→qgn l seen i=(0,0)→(seen++l.map Fnc.name).Nodup∧∀ x∈l,(x.params++x.locals).Nodup
  | [],seen,_,h,_=>⟨by simpa using h,fun x hx=>by cases hx⟩
  | g::r,seen,i,h,h0=>by
    rw [qgn] at h0;split at h0
    · cases h0
    · rename_i h1
      have:=qoH (l:=r) (seen:=seen++[g.name]) (by
        rw [List.nodup_append];refine ⟨h,by simp,fun a ha b hb=>?_⟩;rw [List.mem_singleton] at hb;subst hb;intro e;subst e;exact h1 (.inl ha)) h0
      refine ⟨by simpa using this.1,fun x hx=>?_⟩;rcases List.mem_cons.1 hx with rfl|hx
      · exact Decidable.not_not.1 fun h2=>h1 (.inr h2)
      · exact this.2 x hx
def qoJ{p:Prg}(h:(qb2 p).1=0):((ents p).map (·.1)).Nodup∧∀ x∈p.funcs,(x.params++x.locals).Nodup:=by
 unfold qb2 at h;split at h
 · rename_i h1;exact absurd h h1
 rename_i h1;split at h
 · rename_i h2;exact absurd h h2
 rename_i h2;have e1:=qoI (l:=p.globals) (seen:=[]) (i:=0) (by simp) ((qoM (p:=p)).1 (by simpa using h1));have e2:=qoH (l:=p.funcs) (seen:=p.globals.map Glo.name) (i:=p.globals.length) (by simpa using e1) ((qoM (p:=p)).2 (by simpa using h2));refine ⟨?_,e2.2⟩;have:(ents p).map (·.1)=p.globals.map Glo.name++p.funcs.map Fnc.name:=by
  rw [ents,List.map_append];congr 1<;>(apply List.ext_getElem<;>simp)
 rw [this];exact e2.1
def qfw(D:Nat)(L:Hl)(s:World)(A:Option Addr)(n c:Nat)(l:List Str)(hA:Strs s A n c l)(w:List UInt8):AC prog D 25 [.slice A n c,St w] L s fun v L' _=>v=.int .i64 (qbt (fun x=>decide (w=x)) l 0)∧L=L':=by
 have hn:=hA.1;have hc1:=hA.2.1;have hc2:=hA.2.2.1;refine qae (fn:=f25) qav func25 V Z ntmps25 Z (rs:=[.tmp 4]) Z [(0,_),(1,_)] Z<|Sr<|At Z Z<|Zs<|Sr<|At Z Z<|Zp<|qaA (γ:=Nat) (fun k=>[(0,_),(1,_),(4,_),(5,.int .i64 (k:Int))]) (fun _=>_) (fun k tw=>Le D s tw∧(k≤n∧∀ i x,i < k→l[i]?=some x→decide (w=x)=false)) (fun k=>n - k) (fun _ _ _ h hl=>⟨h.1.trans hl,h.2⟩) 0 (.c4 Z Z Z Z (.nil _)) Z ⟨Le.refl _,⟨Nat.zero_le _,fun i x hi=>by omega⟩⟩ ?_;intro k s1 I1;have hk0:=I1.2.1;have hI:=I1.2.2;refine Zs<|Sr<|Zqm Z Z<|Zqm Z Z<|Ws Y4<|qa8 Z Z Z<|Nt<|?_;refine qaa Z ?_ ?_<;>intro c2
 ·have hk:k < n:=by omega
  obtain ⟨b,off,x,rfl,hx,hcx,_⟩:=Strs.at_ (hA.le I1.1) hk;refine Zk<|Zt<|Zs<|Zp<|Sr<|Zqm Z Z<|Zqm Z Z<|qad (qaU Z Z Z Z Z Z hk) Z<|qad (qaq Z Z Z (hcx.le (Lr D)) Z) Z<|Zqm Z Z<|qht Z Z Z<|Nt<|?_;refine qaa Z ?_ ?_<;>intro c3;·have hz:decide (w=x)=true:=decide_eq_true (Eq.symm c3);refine Sr<|Zqm Z Z<|At Z Z<|Zo<|Zc<|Zu<|Zu<|Zc<|Zu<|?_;refine rR [] L (.t1 Z) Z I1.1 fun _ hS2=>?_;refine ⟨?_,Z⟩;simp only [qbP];rw [qfo hI hx hz,Nat.zero_add]
  have hz:decide (w=x)=false:=decide_eq_false (fun h=>c3 h.symm);refine Zk<|Zb<|Zt<|Zr<|Zqm Z Z<|qaD Z Z Z (w64 O O)<|Zqa Z Z<|Zn<|?_;refine qab ⟨(k+1),[],kp,Z,⟨I1.1,⟨by omega,qa1 hI hx hz⟩⟩,O⟩
 refine Zl<|Zv<|Zv<|Zd<|Zt<|Sr<|At Z Z<|Zo<|?_;refine rR [] L (.t1 Z) Z I1.1 fun _ hS2=>?_;refine ⟨?_,Z⟩;simp only [qbP];rw [qeC (fun i x hi h=>hI i x O h)]
def qoz(D:Nat)(L:Hl)(s:World)(d:Nat)(p:Prg)(Ag Af:Option Addr)(ng cg nf cf:Nat)(hGl:Glos s Ag ng cg p.globals)(hFn:Fncs d s Af nf cf p.funcs):AC prog D 26 [.agg #[.slice Ag ng cg,.slice Af nf cf]] L s fun v L' _=>v=.int .i64 (qfY p.funcs)∧L=L':=by
 have hn:=hFn.1;have hc1:=hFn.2.1;have hc2:=hFn.2.2.1;refine qae (fn:=f26) qav func26 V Z ntmps26 Z (rs:=[.tmp 2]) Z [(0,_)] Z<|Sr<|qay Z Z fun β1 s1 h1=>At Z Z<|Zs<|Sr<|At Z Z<|Zp<|qaA (γ:=Nat) (fun k=>[(1,_),(2,_),(3,.int .i64 (k:Int))]) (fun _=>_) (fun k tw=>Le D s1 tw∧(k≤nf∧∀ i x,i < k→p.funcs[i]?=some x→decide (x.name=qcU)=false)) (fun k=>nf - k) (fun _ _ _ h hl=>⟨h.1.trans hl,h.2⟩) 0 (.c3 Z Z Z (.nil _)) Z ⟨Le.refl _,⟨Nat.zero_le _,fun i x hi=>by omega⟩⟩ ?_;intro k s2 I2;have hk0:=I2.2.1;have hI:=I2.2.2;refine Zs<|Sr<|Zqm Z Z<|Wb Y5<|Wl 0 Y6<|Ws Y4<|qa8 Z Z Z<|Nt<|?_;refine qaa Z ?_ ?_<;>intro c3
 ·have hk:k < nf:=by omega
  obtain ⟨b,off,x,B1,m1,d1,B2,m2,d2,B3,m3,d3,rfl,hx,hcx,hpx,hlx,hbx,hnl⟩:=Fncs.at_ (hFn.le (h1.t I2.1)) hk;refine Zk<|Zt<|Zs<|Zp<|Sr<|Wb Y5<|Wl 0 Y6<|Zqm Z Z<|qad (qau Z Z Z Z Z Z hk) Z<|W0 Y5<|qad (qaq Z Z Z (hcx.le (Lr D)) Z) Z<|qht Z Z Z<|Nt<|?_;refine qaa Z ?_ ?_<;>intro c4;·have hz:decide (x.name=qcU)=true:=decide_eq_true c4;refine Sr<|Zqm Z Z<|At Z Z<|Zo<|Zc<|Zu<|Zu<|Zc<|Zu<|?_;refine rR [_] L (.t1 Z) Z (h1.t I2.1) fun _ hS2=>?_;refine ⟨?_,Z⟩;simp only [qbP];rw [qfY,qfo hI hx hz,Nat.zero_add]
  have hz:decide (x.name=qcU)=false:=decide_eq_false c4;refine Zk<|Zb<|Zt<|Zr<|Zqm Z Z<|qaD Z Z Z (w64 O O)<|Zqa Z Z<|Zn<|?_;refine qab ⟨(k+1),[],kp,Z,⟨I2.1,⟨by omega,qa1 hI hx hz⟩⟩,O⟩
 refine Zl<|Zv<|Zv<|Zd<|Zt<|Sr<|At Z Z<|Zo<|?_;refine rR [_] L (.t1 Z) Z (h1.t I2.1) fun _ hS2=>?_;refine ⟨?_,Z⟩;simp only [qbP];rw [qfY,qeC (fun i x hi h=>hI i x O h)]
def qn5{l:List (Str×(Int×Int))}{nm:Str}{k:Nat}{e:Str×(Int×Int)}(h:∀ i y,i < k→l[i]?=some y→¬ y.1=nm)(hk:l[k]?=some e)(he:e.1=nm):l.find? (fun y=>decide (y.1=nm))=some e:=by
 induction l generalizing k with
 | nil=>cases hk
 | cons y l ih=>
  cases k with
  | zero=>simp at hk;subst hk;simp [List.find?,he]
  | succ k=>
   have h0:=h 0 y O rfl;simp only [List.find?,h0,decide_false];exact ih (k:=k) (fun i z hi hz=>h (i+1) z O (by simpa using hz)) (by simpa using hk)
def qqT{l:List (Str×(Int×Int))}{nm:Str}(h:∀ i y,i < l.length→l[i]?=some y→¬ y.1=nm):l.find? (fun y=>decide (y.1=nm))=none:=by
 rw [List.find?_eq_none];intro y hy;obtain ⟨i,hi⟩:=List.mem_iff_getElem?.1 hy;simp [h i y (List.getElem?_eq_some_iff.1 hi).1 hi]
def qoD(D:Nat)(L:Hl)(s:World)(d:Nat)(p:Prg)(Ag Af:Option Addr)(ng cg nf cf:Nat)(hGl:Glos s Ag ng cg p.globals)(hFn:Fncs d s Af nf cf p.funcs)(f:Nat)(x:Fnc)(hx0:p.funcs[f]?=some x)(nm:List UInt8):AC prog D 54 [.agg #[.slice Ag ng cg,.slice Af nf cf],.int .i64 (f:Int),St nm] L s fun v L' _=>v=.agg #[.int .i64 (qaV p x nm).1.1,.int .i64 (qaV p x nm).1.2]∧L=L':=by
 have hn1:=hGl.1;have hn2:=hFn.1;have hq1:=hGl.2.1;have hq2:=hGl.2.2.1;have hq3:=hFn.2.1;have hq4:=hFn.2.2.1;have hfl:=(List.getElem?_eq_some_iff.1 hx0).1;have hfn:f < nf:=by omega
 obtain ⟨b,off,x9,B1,m1,d1,B2,m2,d2,B3,m3,d3,hAf,hx9,hcx,hpx,hlx,hbx,hnl⟩:=Fncs.at_ hFn hfn;obtain rfl:x=x9:=Option.some.inj (hx0.symm.trans hx9);subst hAf;refine qae (fn:=f54) qav func54 V Z ntmps54 Z (rs:=[.cell 6 128]) Z [(0,_),(1,_),(2,_)] Z<|Sr<|qay Z Z fun β1 s1 h1=>qag Z [_,_] Z Z fun β2 s2 h2=>Nt<|Sr<|Wb Y5<|Wl 1 Y6<|Zqm Z Z<|qad (qau Z Z Z Z Z Z hfn) Z<|qad (qaw Z Z Z (hcx.le (h1.t h2)) Z) Z<|qag Z [_,_,_,_] Z Z fun β3 s3 h3=>Wt 0 [_,_,_,_] Y9<|Nt<|Sr<|Wb Y5<|Wl 0 Y6<|Zqm Z Z<|Je Z Z Z (qfw D _ _ B1 m1 d1 x.params (hpx.le (h1.t h2|>.t h3)) nm) fun s4 h4=>At Z Z<|Zs<|Sr<|Zqm Z Z<|qhn Z Z Z<|Nt<|?_;have e4:=h1.t h2|>.t h3|>.t h4;refine qaa Z ?_ ?_<;>intro c5
 ·have hE:(qaV p x nm).1=(1,qbt (fun y=>decide (nm=y)) x.params 0):=by rw [qaV,if_pos c5]
  refine Sr<|Zqm Z Z<|qad (qak [(_,_),(_,_)] [_,_] Z Z Z Z Z Z) Z<|Wt 1 [_,_] Y9<|Nt<|Zo<|Zu<|?_;exact rR [_,_,_] L (.agg (us:=[_,_]) 1 Z Z Z Z Z (.nil)) Z e4 fun _ hS2=>qck
 have g21:=c5;refine Zk<|Zt<|Sr<|Wb Y5<|Wl 0 Y6<|Zqm Z Z<|Je Z Z Z (qfw D _ _ B2 m2 d2 x.locals (hlx.le e4) nm) fun s6 h6=>At Z Z<|Zs<|Sr<|Zqm Z Z<|qhn Z Z Z<|Nt<|?_;have e6:=e4.t h6;refine qaa Z ?_ ?_<;>intro c7
 ·have hE:(qaV p x nm).1=(2,qbt (fun y=>decide (nm=y)) x.locals 0):=by rw [qaV,if_neg g21,if_pos c7]
  refine Sr<|Zqm Z Z<|qad (qak [(_,_),(_,_)] [_,_] Z Z Z Z Z Z) Z<|Wt 1 [_,_] Y9<|Nt<|Zo<|Zu<|?_;exact rR [_,_,_] L (.agg (us:=[_,_]) 1 Z Z Z Z Z (.nil)) Z e6 fun _ hS2=>qck
 have g29:=c7;refine Zk<|Zt<|Zs<|Sr<|At Z Z<|Zp<|qaA (γ:=Nat) (fun k=>[(2,_),(3,_),(6,_),(9,.int .i64 (k:Int))]) (fun _=>_) (fun k tw=>Le D s6 tw∧(k≤ng∧∀ i e,i < k→(ents p)[i]?=some e→¬ e.1=nm)) (fun k=>ng - k) (fun _ _ _ h hl=>⟨h.1.trans hl,h.2⟩) 0 (.c4 Z Z Z Z (.nil _)) Z ⟨Le.refl _,⟨Nat.zero_le _,fun i x hi=>by omega⟩⟩ ?_;intro k s8 I8;have e8:=e6.t I8.1;have hk0:=I8.2.1;have hI:=I8.2.2;refine Zs<|Sr<|Zqm Z Z<|W0 Y5<|Wl 2 Y6<|Ws Y4<|qa8 Z Z Z<|Nt<|?_;refine qaa Z ?_ ?_<;>intro c9
 ·have hk:k < ng:=by omega
  obtain ⟨b2,off2,y,Ai,ni,ci,hAg,hy,hcy,hiy,huy,hny⟩:=Glos.at_ (hGl.le e8) hk;subst hAg;refine Zk<|Zt<|Zs<|Zp<|Sr<|W0 Y5<|Wl 2 Y6<|Zqm Z Z<|qad (qau Z Z Z Z Z Z hk) Z<|qad (qbm Z Z Z Z) Z<|qad (qaF 1 Z Z Z (hcy.le (Lr D)) Z) Z<|Zqm Z Z<|qht Z Z Z<|Nt<|?_;refine qaa Z ?_ ?_<;>intro c10
  ·have hE:(qaV p x nm).1=(3,(k:Int)):=by rw [qaV,if_neg g21,if_neg g29,qn5 hI (qn7 hy) c10]
   refine Sr<|Zqm Z Z<|qad (qak [(_,_),(_,_)] [_,_] Z Z Z Z Z Z) Z<|Wt 1 [_,_] Y9<|Nt<|Zo<|Zc<|Zu<|Zu<|Zc<|Zu<|?_;exact rR [_,_,_] L (.agg (us:=[_,_]) 1 Z Z Z Z Z (.nil)) Z e8 fun _ hS2=>qck
  have hz:=c10;refine Zk<|Zb<|Zt<|Zr<|Zqm Z Z<|qaD Z Z Z (w64 O O)<|Zqa Z Z<|Zn<|?_;refine qab ⟨(k+1),[],kp,Z,⟨I8.1,⟨by omega,qa1 hI (qn7 hy) hz⟩⟩,O⟩
 obtain rfl:p.globals.length=k:=by omega
 refine Zl<|Zv<|Zv<|Zd<|Zt<|Zs<|Sr<|At Z Z<|Zp<|qaA (γ:=Nat) (fun k=>[(2,_),(3,_),(6,_),(10,.int .i64 (k:Int))]) (fun _=>_) (fun k tw=>Le D s8 tw∧(k≤nf∧∀ i e,i < p.globals.length+k→(ents p)[i]?=some e→¬ e.1=nm)) (fun k=>nf - k) (fun _ _ _ h hl=>⟨h.1.trans hl,h.2⟩) 0 (.c4 Z Z Z Z (.nil _)) Z ⟨Le.refl _,⟨Nat.zero_le _,hI⟩⟩ ?_;intro k s11 I11;have e11:=e8.t I11.1;have hk0:=I11.2.1;have hJ:=I11.2.2;refine Zs<|Sr<|Zqm Z Z<|Wb Y5<|Wl 2 Y6<|Ws Y4<|qa8 Z Z Z<|Nt<|?_;refine qaa Z ?_ ?_<;>intro c12
 ·have hk:k < nf:=by omega
  obtain ⟨b2,off2,y,C1,r1,e1,C2,r2,e2,C3,r3,e3,hAf2,hy,hcy,hpy,hly,hby,hny⟩:=Fncs.at_ (hFn.le e11) hk;cases hAf2;refine Zk<|Zt<|Zs<|Zp<|Sr<|Wb Y5<|Wl 2 Y6<|Zqm Z Z<|qad (qau Z Z Z Z Z Z hk) Z<|W0 Y5<|qad (qaq Z Z Z (hcy.le (Lr D)) Z) Z<|Zqm Z Z<|qht Z Z Z<|Nt<|?_;refine qaa Z ?_ ?_<;>intro c13
  ·have hE:(qaV p x nm).1=(4,(k:Int)):=by rw [qaV,if_neg g21,if_neg g29,qn5 hJ (qn6 hy) c13]
   refine Sr<|Zqm Z Z<|qad (qak [(_,_),(_,_)] [_,_] Z Z Z Z Z Z) Z<|Wt 1 [_,_] Y9<|Nt<|Zo<|Zc<|Zu<|Zu<|Zc<|Zu<|?_;exact rR [_,_,_] L (.agg (us:=[_,_]) 1 Z Z Z Z Z (.nil)) Z e11 fun _ hS2=>qck
  have hz:=c13;refine Zk<|Zb<|Zt<|Zr<|Zqm Z Z<|qaD Z Z Z (w64 O O)<|Zqa Z Z<|Zn<|?_;refine qab ⟨(k+1),[],kp,Z,⟨I11.1,⟨by omega,qa1 hJ (qn6 hy) hz⟩⟩,O⟩
 have hE:(qaV p x nm).1=(0,0):=by rw [qaV,if_neg g21,if_neg g29,qqT (fun i e hi h=>hJ i e (by rw [ents,List.length_append,List.length_mapIdx,List.length_mapIdx] at hi;omega) h)]
 refine Zl<|Zv<|Zv<|Zd<|Zt<|Sr<|qad (qak [] [_,_] Z Z Z Z Z Z) Z<|Wt 1 [_,_] Y9<|Nt<|Zo<|?_;exact rR [_,_,_] L (.agg (us:=[_,_]) 1 Z Z Z Z Z (.nil)) Z e11 fun _ hS2=>qck
end Go.Proofs.YtflplmcjbppfcaaGreatDoor
namespace Go.FL
open Go Go.RowKit
def qrT(A R:Hl)(l:Nat)(o o':Obj):qco (A++(l,o)::R) A.length o'=A++(l,o')::R:=by
 induction A with
 | nil=>rfl
 | cons x A ih=>show x::qco (A++(l,o)::R) A.length o'=_;rw [ih];rfl
section calls
variable{P:Program}{TT:qa5}{D n:Nat}{Q:qec}{ds:List Deferred}{fr:Fr}{L:Hl}{s:World}
section range
variable{σ α:Type}(H:σ→Hl)(I:σ→World→Prop)(pend:σ→Option Code)(St:σ→α→σ→Prop)(enc:α→List Value)(Pre:σ→α→World→Prop)(Fin:σ→Prop)
def qnv{AR:α→Fr→Hl→Prop}{g:Operand}{ps:List Nat}{assign body:Code}{fi:FuncId}{cap:List Value}(hg:lk fr g=some (.func (.func fi) #[] cap.toArray))(g0:σ)(hL:L=H g0)(hI0:I g0 s)(hp0:pend g0=none)
    (mono:∀ g s s',I g s→Le D s s'→I g s') (hpd:∀ g,pend g=none∨pend g=some .ret∨∃ id,pend g=some (.exit id))
    (hps:∀ p,(enc p).length=ps.length) (hpn:ps.all (fun t=>Nat.blt t n)=true)
    (hassign:∀ (l:Nat) (p:α) (L':Hl) (s':World),RC P TT D n (some l) (fun e ds' fr' L1 s1=>e=.normal∧ds'=[]∧(∃ A,AR p fr' A∧L1=A++L')∧Le D s' s1) assign [] (que fr ps (enc p)) L' s')
    (hbody:∀ (l dk:Nat) (o1 o2:Obj) (g:σ) (p:α) (s' s0:World) (fr1:Fr) (A1:Hl),Le D s s'→Le D s' s0→I g s'→pend g=none→Pre g p s'→AR p fr1 A1 →
      RC P TT D n (some l) (fun e _ _ L1 s1=>∃ g1,St g p g1∧jmp e=some (pend g1)∧∃ A,L1=A++((l,o1)::(dk,o2)::H g1)∧Le D s0 s1∧I g1 s1) body [] fr1 (A1++((l,o1)::(dk,o2)::H g)) s0)
    (hit:∀ (l:Nat) (HH:σ→Hl) (s':World),Le D s s'→(∀ g p s'',Le D s s''→I g s''→pend g=none→Pre g p s''→YC P D l (enc p) (HH g) s'' fun v L' s3=>∃ g1,St g p g1∧v=.bool (pend g1).isNone∧L'=HH g1∧I g1 s3) →
      AC P D fi (.func (.yield l) #[] #[]::cap) (HH g0) s' fun _ L' s3=>∃ g',Fin g'∧L'=HH g'∧I g' s3)
    (hpost:∀ (dk:Nat) (g':σ) (s3:World),Le D s s3→Fin g'→I g' s3→Q (qy7 (pend g')) (qg4 dk::ds) fr ((dk,Obj.deferred (some []))::H g') s3) :
    RC P TT D n none Q (.rangeFunc g ps.toArray assign body) ds fr L s:=fun hT a hr ho=>by
  subst hL;refine wpIn_rangeFunc ?_;intro fn _;have hro:(fro none).round=none:=rfl;rw [hro]

  obtain ⟨a1,a2,a3⟩:=qaP ho (Obj.deferred (some []));obtain ⟨rec,hrec⟩:∃ rec:LoopState→Option Code→Loop,rec=fun st pe=>{ state:=st,pending:=pe,fn,tmps:=a.tmps,params:=ps.toArray,assign,body,defers:=(fill (H g0) s).heap.size }:=⟨_,rfl⟩;obtain ⟨b1,b2,b3⟩:=qaP a2 (Obj.loop (rec .ready none));obtain ⟨dk,hdk⟩:∃ dk,dk=s.heap.size:=⟨_,rfl⟩;obtain ⟨l,hl⟩:∃ l,l=(s.alloc (dum D)).heap.size:=⟨_,rfl⟩;rw [← hdk,← hl] at b1 b2;rw [← hdk] at a1;have hfs:(fill (H g0) s).heap.size=dk:=by rw [qaN,hdk]
  obtain ⟨HH,hHH⟩:∃ HH:σ→Hl,HH=fun g=>(l,Obj.loop (rec (if (pend g).isNone then .ready else .done) (pend g)))::(dk,Obj.deferred (some []))::H g:=⟨_,rfl⟩;have hst0:HH g0=(l,Obj.loop (rec .ready none))::(dk,Obj.deferred (some []))::H g0:=by rw [hHH];simp only [hp0,Option.isNone_none,if_true]
  obtain ⟨s2,hs2⟩:∃ s2,s2=(s.alloc (dum D)).alloc (dum D):=⟨_,rfl⟩;rw [← hs2] at b1 b2 b3;have hle2:Le D s s2:=a3.trans b3

  have hY:∀ g p s'',Le D s s''→I g s''→pend g=none→Pre g p s''→YC P D l (enc p) (HH g) s'' fun v L' s3=>∃ g1,St g p g1∧v=.bool (pend g1).isNone∧L'=HH g1∧I g1 s3:=by
    intro g p s'' hls hI hpn0 hPre hoY;have eH:HH g=(l,Obj.loop (rec .ready none))::(dk,Obj.deferred (some []))::H g:=by rw [hHH];simp only [hpn0,Option.isNone_none,if_true]
    rw [eH] at hoY ⊢;have hrl:(fill ((l,Obj.loop (rec .ready none))::(dk,Obj.deferred (some []))::H g) s'').heap[l]?=some (.loop (rec .ready none)):=qa7 hoY Mc;have hsz:((enc p).toArray).size=(rec .ready none).params.size:=by rw [hrec];simp [hps p]
    refine ⟨_,_,_,_,run_yield hrl hsz,?_⟩;have hro2:RoundIn (fro none) 0 P l (rec .ready none).fn (((rec .ready none).params.zip (enc p).toArray).foldl (fun tmps x=>tmps.setIfInBounds x.1 x.2) (rec .ready none).tmps) (rec .ready none).assign (rec .ready none).body (fill ((l,Obj.loop (rec .ready none))::(dk,Obj.deferred (some []))::H g) s'') fun e w'=>∃ v L' s',e=.returned v∧w'=fill L' s'∧OKL D L' s'∧Le D s'' s'∧(∃ g1,St g p g1∧v=.bool (pend g1).isNone∧L'=HH g1∧I g1 s'):=by
      refine roundIn_of_wpIn Tt ?_;have e1:(rec .ready none).assign=assign:=by rw [hrec]
      have e2:(rec .ready none).body=body:=by rw [hrec]
      have e3:((rec .ready none).params.zip (enc p).toArray).foldl (fun tmps x=>tmps.setIfInBounds x.1 x.2) (rec .ready none).tmps=(ps.zip (enc p)).foldl (fun tmps x=>tmps.setIfInBounds x.1 x.2) a.tmps:=by
        rw [hrec];simp
      rw [e1,e2,e3];have hfr:FrD [] n { tmps:=(ps.zip (enc p)).foldl (fun tmps x=>tmps.setIfInBounds x.1 x.2) a.tmps,defers:=[] } (que fr ps (enc p)):=by
        refine ⟨qmR n (ps.zip (enc p)) fr a hr.rel ?_,Z⟩;rw [List.all_eq_true] at hpn ⊢;intro x hx;exact hpn x.1 (List.of_mem_zip hx).1
      refine wpIn_mono (hassign l p _ s'' hT _ hfr hoY) ?_;rintro e a1 w1 ⟨ds1,fr1,L1,s1,k1,k2,rfl,rfl,rfl,⟨A1,k3,rfl⟩,k4⟩

      have hrl1:(fill (A1++((l,Obj.loop (rec .ready none))::(dk,Obj.deferred (some []))::H g)) s1).heap[l]?=some (.loop (rec .ready none)):=qa7 k2 (List.mem_append_right _ Mc);have hst:(rec .ready none).state=.ready:=by rw [hrec]
      refine ⟨_,run_beginRound hrl1 hst,?_⟩;obtain ⟨ob,hob⟩:∃ ob,ob=Obj.loop { rec .ready none with state:=.busy }:=⟨_,rfl⟩;rw [qd1,← hob,← qcA k2 (i:=A1.length) (p:=Obj.loop (rec .ready none)) (by simp) ob];have ho3:=qeu k2 A1.length ob;rw [qrT] at ho3 ⊢;refine wpIn_mono (hbody l dk ob (Obj.deferred (some [])) g p s'' s1 fr1 A1 hls k4 hI hpn0 hPre k3 hT _ k1 ho3) ?_;rintro e2 a2 w2 ⟨ds2,fr2,L2,s2',j1,j2,rfl,g1,jst,jj,A,rfl,jle,jI⟩;obtain ⟨d1,d2,d3⟩:=qbn j2;have hend:∀ j:Option Code,pend g1=j→∃ v w',(Instr.endRound l j).run P (fill (A++((l,ob)::(dk,Obj.deferred (some []))::H g1)) s2')=.ok v w'∧(∃ v' L' s',Ending.returned v=.returned v'∧w'=fill L' s'∧OKL D L' s'∧Le D s'' s'∧(∃ g1,St g p g1∧v'=.bool (pend g1).isNone∧L'=HH g1∧I g1 s')):=by
        intro j hj;have hrl2:(fill ((l,ob)::(dk,Obj.deferred (some []))::H g1) (fill A s2')).heap[l]?=some (.loop { rec .ready none with state:=.busy }):=by rw [qa7 d2 Mc,hob]
        rw [d1];refine ⟨_,_,run_endRound j hrl2,_,HH g1,fill A s2',Z,?_,?_,k4.trans (jle.trans d3),g1,jst,by rw [hj],Z,mono _ _ _ jI d3⟩
        · rw [qd1,← qcA d2 (i:=0) rfl]
          simp only [qco,hHH,hj];congr 3;rw [hrec]
        · have:=qeu d2 0 (Obj.loop (rec (if (pend g1).isNone then .ready else .done) (pend g1)))
          simp only [qco] at this;rw [hHH];exact this
      cases e2 with
      | normal=>exact hend none (by simpa [jmp] using jj.symm)
      | ret=>exact hend (some .ret) (by simpa [jmp] using jj.symm)
      | exit id=>exact hend (some (.exit id)) (by simpa [jmp] using jj.symm)
      | goto t=>cases jj
      | panic c=>cases jj
      | outgrown=>cases jj
    exact hro2
  have hAC:=hit l HH s2 hle2 hY;obtain ⟨⟨fn0,h1,h2,h3⟩,hc⟩:=hAC;have h2':¬ fn0.name = "runtime.NumGoroutine" := by simpa using h2
  have h3':¬ fn0.body=none:=by intro e;simp [e] at h3
  have hev:=hr.ev hg;have hworld:((fill (H g0) s).alloc (.deferred (some []))).alloc (.loop (rec .ready none))=fill (HH g0) s2:=by rw [hst0,← b1,← a1]
  have hen:(Instr.enterLoop fn a.tmps ps.toArray assign body none).run P (fill (H g0) s)=.ok (l,[qg4 dk]) (fill (HH g0) s2):=by
    rw [run_enterLoop_outer,← hworld];have e1:(fill (H g0) s).heap.size+1=l:=by rw [hfs,hl,World.size_alloc,hdk]
    rw [e1,qg4,← hfs,hrec]
  refine ⟨l,[qg4 dk],fill (HH g0) s2,{ target:=.fn (.func fi) cap.toArray,args:=#[.func (.yield l) #[] #[]] },fill (HH g0) s2,fi,(.func (.yield l) #[] #[]::cap).toArray,fill (HH g0) s2,hen,?_,fun f _=>qhP none f,?_,qg1 none 0,?_⟩
  · simp only [resolve,hev]
    simp [go_sem]
  · simp [invoke,callFunc,h1,h2',h3']
  · have hoH:OKL D (HH g0) s2:=by rw [hst0];exact b2
    refine (qje none _ (hc hoH)).mono ?_;rintro e w' ⟨v,L',s3,rfl,rfl,q1,q2,g',q3,rfl,q4⟩;have eH:HH g'=(l,Obj.loop (rec (if (pend g').isNone then .ready else .done) (pend g')))::(dk,Obj.deferred (some []))::H g':=by rw [hHH]
    rw [eH] at q1 ⊢;have hrl:(fill ((l,Obj.loop (rec (if (pend g').isNone then .ready else .done) (pend g')))::(dk,Obj.deferred (some []))::H g') s3).heap[l]?=some (.loop (rec (if (pend g').isNone then .ready else .done) (pend g'))):=qa7 q1 Mc;have hnb:(rec (if (pend g').isNone then .ready else .done) (pend g')).state≠.busy:=by
      rw [hrec];simp only;split<;>(intro h;cases h)
    have hpe:(rec (if (pend g').isNone then .ready else .done) (pend g')).pending=pend g':=by rw [hrec]
    have hrun:=run_endLoop (P:=P) hrl hnb;rw [hpe] at hrun;obtain ⟨oe,hoe⟩:∃ oe,(Instr.endLoop l).run P (fill ((l,Obj.loop (rec (if (pend g').isNone then .ready else .done) (pend g')))::(dk,Obj.deferred (some []))::H g') s3)=.ok (pend g') (qbo (fill ((l,Obj.loop (rec (if (pend g').isNone then .ready else .done) (pend g')))::(dk,Obj.deferred (some []))::H g') s3) l oe):=⟨_,hrun⟩;refine ⟨pend g',_,hoe,?_⟩;rw [← qcA q1 (i:=0) rfl oe];have ho4:=qeu q1 0 oe;simp only [qco] at ho4 ⊢;obtain ⟨d1,d2,d3⟩:=qbn (A:=[(l,oe)]) (B:=(dk,Obj.deferred (some []))::H g') ho4;simp only [cQ9,nQ9] at d1;rw [d1];have hQ:=hpost dk g' (fill [(l,oe)] s3) (hle2.trans (q2.trans d3)) q3 (mono _ _ _ q4 d3);have hfr2:FrD (qg4 dk::ds) n { a with defers:=[qg4 dk]++a.defers } fr:=⟨hr.rel,by show [qg4 dk]++a.defers=_;rw [hr.defers];rfl⟩;rcases hpd g' with hp|hp|⟨id,hp⟩
    · rw [hp] at hQ ⊢
      exact ⟨_,_,_,_,hfr2,d2,rfl,hQ⟩
    · rw [hp] at hQ ⊢
      exact wpIn_ret ⟨_,_,_,_,hfr2,d2,rfl,hQ⟩
    · rw [hp] at hQ ⊢
      exact wpIn_exit ⟨_,_,_,_,hfr2,d2,rfl,hQ⟩
end range
end calls
def qye{P:Program}{TT:qa5}{D n:Nat}{ro:Option Nat}{Q:qec}{c:Code}{ds:List Deferred}{fr fr':Fr}{L:Hl}{s:World}(h:Keeps fr fr')(k:RC P TT D n ro Q c ds fr' L s):RC P TT D n ro Q c ds fr L s:=fun ht a hr ho=>k ht a (hr.sub h) ho
def quR{P:Program}{TT:qa5}{D n:Nat}{ro:Option Nat}{Q:qec}{ds:List Deferred}{fr:Fr}{L L':Hl}{s:World}{c:Code}(hp:L.Perm L')(h:RC P TT D n ro Q c ds fr L' s):RC P TT D n ro Q c ds fr L s:=fun ht a hr ho=>by
 rw [qbv hp _ ho];exact h ht a hr (ho.perm hp)
section
variable{P:Program}{TT:qa5}{D n:Nat}{ro:Option Nat}{Q:qec}{ds:List Deferred}{fr:Fr}{L:Hl}{s:World}{ops:Array Oper}{rest:List Oper}{d ty:Nat}{pos:String}{af:Array Edge}{v:Value}
def qyf{t:Nat}{x:Operand}{zs:List Value}(hx:lk fr x=some v)(hz:qbc v=zs)(hd:Nat.blt d n=true)
  (k:∀ β s',Le D s s'→RO P TT D n ro ops Q rest ds ((d,.pointer (some ⟨β,0,none⟩))::fr) ((β,cb zs t)::L) s'):RO P TT D n ro ops Q (⟨some d,.box t x,ty,pos,af,none⟩::rest) ds fr L s:=fun hT a hr ho=>
 quW (by nofun) hd (qtA hx hz ho) (k _ _ (qaP ho (cb zs t)).2.2) hT a hr ho
def quT{t:Nat}{x:Operand}{zs:List Value}(hx:lk fr x=some (.agg zs.toArray))(hd:Nat.blt d n=true)
  (k:∀ β s',Le D s s'→RO P TT D n ro ops Q rest ds ((d,.pointer (some ⟨β,0,none⟩))::fr) ((β,cb zs t)::L) s'):RO P TT D n ro ops Q (⟨some d,.box t x,ty,pos,af,none⟩::rest) ds fr L s:=
 qyf hx (by simp [qbc]) hd k
end
end Go.FL
namespace Go.Proofs.YtflplmcjbppfcaaGreatDoor
open Go.FL
attribute [local irreducible] JC JO JA JB qaZ qaL qb4 AC fill CellsAt QE Ev Mid
def NdV.agg{s:World}{nd:Nd}{nv:Value}(h:NdV s nd nv):∃ (pa pb:Option Addr) (lp:Nat),nv=.agg #[.pointer pa,.pointer pb,.int .i64 (lp:Int)]:=by
 cases nd with
 | st y lp=>obtain ⟨b,o,C1,r1,e1,C2,r2,e2,C3,r3,e3,rfl,hy,hr⟩:=h;exact ⟨_,_,_,rfl⟩
 | ex y lp=>obtain ⟨b,o,C1,r1,e1,rfl,hy,hr⟩:=h;exact ⟨_,_,_,rfl⟩
def NdV.le{D:Nat}{s s':World}{nd:Nd}{nv:Value}(h:NdV s nd nv)(hl:Le D s s'):NdV s' nd nv:=by
 cases nd with
 | st y lp=>obtain ⟨b,o,C1,r1,e1,C2,r2,e2,C3,r3,e3,rfl,hy,hr⟩:=h;exact ⟨b,o,C1,r1,e1,C2,r2,e2,C3,r3,e3,rfl,hy.le hl,hr⟩
 | ex y lp=>obtain ⟨b,o,C1,r1,e1,rfl,hy,hr⟩:=h;exact ⟨b,o,C1,r1,e1,rfl,hy.le hl,hr⟩
def qgE:∀ (l:List Ex) (lp:Nat),(qea l lp).length=qbD l
 | [],_=>rfl
 | .mk k o n nm ar::r,lp=>by rw [qea,ndX,qbD,exN,List.length_append,List.length_cons,qgE ar,qgE r];omega
def qgD:∀ (l:List Stm) (lp:Nat),(qcG l lp).length=qbr l
 | [],_=>rfl
 | .mk k nm es b e::r,lp=>by rw [qcG,ndS,qbr,stN,List.length_append,List.length_cons,List.length_append,List.length_append,qgE es,qgD b,qgD e,qgD r];omega
def qgu(p:Prg)(x:Fnc):List Nd→Int
 | []=>0
 | n::r=>if ndC p x n=0 then qgu p x r else ndC p x n
def qlb(p:Prg):List Fnc→Nat→Int×Int
 | [],_=>(0,0)
 | x::r,i=>if qgu p x (qcG x.body 0)=0 then qlb p r (i+1) else (qgu p x (qcG x.body 0),(i:Int))
def qcv(p:Prg):Int×Int:=if (qf2 p).1≠0 then qf2 p else if (qb2 p).1≠0 then qb2 p else qlb p p.funcs p.globals.length
def qid{p:Prg}{l:List Fnc}{k i:Nat}{x:Fnc}(h:l[k]?=some x):qlb p (l.drop k) i=if qgu p x (qcG x.body 0)=0 then qlb p (l.drop (k+1)) (i+1) else (qgu p x (qcG x.body 0),(i:Int)):=by
 obtain ⟨hk,rfl⟩:=List.getElem?_eq_some_iff.1 h;rw [List.drop_eq_getElem_cons hk,qlb]
def qi8{p:Prg}{x:Fnc}:∀ {l:List Nd},qgu p x l=0→∀ nd∈l,ndC p x nd=0
  | [],_=>fun nd h=>by cases h
  | n::r,h=>fun nd hm=>by
    rw [qgu] at h;split at h
    · rename_i h1
      rcases List.mem_cons.1 hm with rfl|hm
      · exact h1
      · exact qi8 h nd hm
    · rename_i h1;exact absurd h h1
def qi7{p:Prg}:∀ {l:List Fnc} {i:Nat},(qlb p l i).1=0→qlb p l i=(0,0)∧∀ x∈l,∀ nd∈qcG x.body 0,ndC p x nd=0
  | [],_,_=>⟨rfl,fun x h=>by cases h⟩
  | y::r,i,h=>by
    rw [qlb] at h ⊢;split at h
    · rename_i h1
      obtain ⟨a,b⟩:=qi7 h;rw [if_pos h1];refine ⟨a,fun x hm=>?_⟩;rcases List.mem_cons.1 hm with rfl|hm
      · exact qi8 h1
      · exact b x hm
    · rename_i h1;exact absurd h h1
def qlL{p:Prg}(h:(qb2 p).1=0):qb2 p=(0,0):=by
  unfold qb2 at h ⊢;split at h
  · rename_i h1;exact absurd h h1
  rename_i h1;rw [if_neg h1];split at h
  · rename_i h2;exact absurd h h2
  rename_i h2;rw [if_neg h2];split at h
  · cases h
  rename_i h3;rw [if_neg h3];split at h
  · split at h
    · rename_i h4;rw [if_pos h4]
    · cases h
  · rfl
def OKP(p:Prg):Prop:=PV p∧qb2 p=(0,0)∧∀ x∈p.funcs,∀ nd∈qcG x.body 0,ndC p x nd=0
def OKP.of{p:Prg}(hu:prU p)(h:(qcv p).1=0):OKP p∧qcv p=(0,0):=by
 unfold qcv at h ⊢;split at h
 · rename_i h1;exact absurd h h1
 rename_i h1;split at h
 · rename_i h2;exact absurd h h2
 rename_i h2;rw [if_neg h1,if_neg h2];obtain ⟨a,b⟩:=qi7 h;exact ⟨⟨PV.of hu (qfy (by simpa using h1)),qlL (by simpa using h2),b⟩,a⟩
abbrev qrD(g:Option Int):Option Code:=g.map fun _=>.ret
abbrev stO(p:Prg)(x:Fnc)(nd:Nd)(g1:Option Int):Prop:=g1=if ndC p x nd=0 then none else some (ndC p x nd)
def qpi{p:Prg}{x:Fnc}:∀ {l:List Nd} {g':Option Int},qh0 qrD (fun _ nd g1=>stO p x nd g1) none l g'→g'=if qgu p x l=0 then none else some (qgu p x l)
  | [],g',h=>by
    have h:g'=none:=h;rw [h,qgu,if_pos rfl]
  | n::r,g',⟨g1,h1,h2⟩=>by
    have h1:g1=if ndC p x n=0 then none else some (ndC p x n):=h1
    by_cases h3:ndC p x n=0
    · rw [if_pos h3] at h1;subst h1
      rw [show (qrD none).isNone=true from rfl,if_pos rfl] at h2;rw [qgu,if_pos h3];exact qpi h2
    · rw [if_neg h3] at h1;subst h1
      rw [if_neg (by simp)] at h2;subst h2;rw [qgu,if_neg h3,if_neg h3]
def qyr(D:Nat)(L:Hl)(s:World)(x:Fnc)(A1 A2 A3:Option Addr)(n1 q1 n2 q2 n3 q3:Nat):AC Tryz.prog D 42 [.agg #[St x.name,.slice A1 n1 q1,.slice A2 n2 q2,.slice A3 n3 q3]] L s fun v L' s'=>L=L'∧∃ b,v=.func (.func 72) #[] #[.pointer (some ⟨b,0,none⟩)]∧CellsAt s' b 0 [St x.name,.slice A1 n1 q1,.slice A2 n2 q2,.slice A3 n3 q3]:=by
 refine (AC.pub (qvh D L s x A1 A2 A3 n1 q1 n2 q2 n3 q3)).mono ?_;rintro v L1 s1 _ ⟨h1,M1,s2,⟨b,rfl,h3⟩,_,h5⟩;exact ⟨h1,b,h3,h5 _ _ _ Mc⟩
def qmQ(D:Nat)(L:Hl)(s:World)(hG:GP s)(d:Nat)(p:Prg)(Ag Af:Option Addr)(ng cg nf cf:Nat)(hGl:Glos s Ag ng cg p.globals)(hFn:Fncs d s Af nf cf p.funcs):AC Tryz.prog D 14 [.agg #[.slice Ag ng cg,.slice Af nf cf]] L s fun v L' _=>v=.agg #[.int .i64 (qcv p).1,.int .i64 (qcv p).2]∧L=L':=by
 have hn1:=hGl.1;have hn2:=hFn.1;have hU:prU p:=⟨hGl.u,hFn.u⟩;refine qfc (fn:=Tryz.f14) qav Tryz.func14 V Z Tryz.ntmps14 Z (rs:=[.cell 2 27]) Z [(0,_)] Z<|Ys<|Yr<|quT Z Z fun β1 s1 h1=>qc6 Z [_,_] Z Z fun β2 s2 h2=>Yn<|Yt<|Ys<|Ys<|Yr<|qcu (qao 1 [_,_] Z Z Z Z Z) Z<|Rc9 Z Z Z (qj6 D _ _ (hG.le (h1.t h2)) d p Ag _ ng cg nf cf (hGl.le (h1.t h2)) (hFn.le (h1.t h2))) ?_;have e2:=h1.t h2;rintro _ _ s3 h3 ⟨rfl,rfl⟩;have e3:=e2.t h3;refine qc6 Z [_,_] Z Z fun β4 s4 h4=>qhs 0 [_,_] Z Z Z Z Z Z Z Z Z<|Yn<|Yt<|Ys<|Yr<|qcu (qao 0 [_,_] Z Z Z Z Z) Z<|qcu (qak [] [_,_] Z Z Z Z Z Z) Z<|qcu (qb9 Z Z (qbL _ _ _ _)) Z<|Yn<|Yt<|?_;have e4:=e3.t h4;refine qnt Z ?_ ?_<;>intro c5;·have hE:qcv p=qf2 p:=if_pos (fun h=>c5 (by rw [qo4 h];exact ⟨rfl,rfl⟩));refine Ys<|Yr<|qcu (qao 0 [_,_] Z Z Z Z Z) Z<|qhs 1 [_,_] Z Z Z Z Z Z Z Z Z<|Yn<|Yt<|Yo<|Yu<|?_;refine qb3 (_::_::_::[]) L (.inr Z) (.agg (us:=[_,_]) 1 Z Z Z Z Z (.nil)) Z e4 ⟨[],Z,List.nil_sublist _⟩ fun _ hS2=>?_;exact qck
 have g4:=c5;have g14:¬ (qf2 p).1≠0:=fun h=>h g4.1;have hV:=PV.of hU (qfy g4.1);have hV1:=hV.1;have hV2:=hV.2.1;have hVf:=hV.2.2.2.1;refine Yk<|Yt<|Ys<|Ys<|Yr<|qcu (qao 2 [_,_] Z Z Z Z Z) Z<|Rc9 Z Z Z (qvy D _ _ d p Ag _ ng cg nf cf (hGl.le e4) (hFn.le e4) hV) ?_;rintro _ _ s6 h6 ⟨rfl,rfl⟩;have e6:=e4.t h6;refine qc6 Z [_,_] Z Z fun β7 s7 h7=>qhs 0 [_,_] Z Z Z Z Z Z Z Z Z<|Yn<|Yt<|Ys<|Yr<|qcu (qao 0 [_,_] Z Z Z Z Z) Z<|qcu (qak [] [_,_] Z Z Z Z Z Z) Z<|qcu (qb9 Z Z (qbL _ _ _ _)) Z<|Yn<|Yt<|?_;have e7:=e6.t h7;refine qnt Z ?_ ?_<;>intro c8;·have hE:qcv p=qb2 p:=(if_neg g14).trans (if_pos (fun h=>c8 (by rw [qlL h];exact ⟨rfl,rfl⟩)));refine Ys<|Yr<|qcu (qao 0 [_,_] Z Z Z Z Z) Z<|qhs 2 [_,_] Z Z Z Z Z Z Z Z Z<|Yn<|Yt<|Yo<|Yu<|?_;refine qb3 (_::_::_::_::[]) L (.inr Z) (.agg (us:=[_,_]) 2 Z Z Z Z Z (.nil)) Z e7 ⟨[],Z,List.nil_sublist _⟩ fun _ hS2=>?_;exact qck
 have g5:=c8;have g20:¬ (qb2 p).1≠0:=fun h=>h g5.1;refine Yk<|Yt<|Ys<|Yr<|qcu (qao 3 [_,_] Z Z Z Z Z) Z<|Rc9 Z Z Z (qrv D _ _ d p Ag _ ng cg nf cf (hGl.le e7) (hFn.le e7) (qoJ g5.1).1) ?_;rintro _ _ s9 h9 ⟨rfl,bm,rfl,hM⟩;have e9:=e7.t h9;refine qc6 Z [_,_,_] Z Z fun β10 s10 h10=>qhs 0 [_,_,_] Z Z Z Z Z Z Z Z Z<|Yn<|Yt<|Ys<|Ys<|Yr<|YqfB Z Z Z Z Z<|Yql 4 Z Z Z Z Z Z<|qAj Z Z Z Z<|Yqm Z Z<|Yn<|Yt<|Yp<|?_;have e10:=e9.t h10;refine qqh (γ:=Nat×List Nat) (fun g=>[(1,_),(2,_),(5,_),(25,_),(26,_),(27,.int .i64 (g.1:Int))]) (fun g=>_::_::_::_::_::(g.2.map qkC++L)) (fun g=>g.2.map qg4) (fun g tw=>Le D s10 tw∧(g.1≤nf∧qlb p p.funcs p.globals.length=qlb p (p.funcs.drop g.1) (p.globals.length+g.1))) (fun g=>nf - g.1) (fun _ _ _ h hl=>⟨h.1.trans hl,h.2⟩) (0,[]) (.c6 Z Z Z Z Z Z (.nil _)) Z Z ⟨Le.refl _,⟨Nat.zero_le _,Z⟩⟩ ?_;intro g s11 I11;have e11:=e10.t I11.1;obtain ⟨k,bs⟩:=g;obtain ⟨hk0,hS⟩:=I11.2;simp only at hk0 hS;dsimp only;refine Ys<|Yr<|qAI Z Z Z<|Yn<|Yt<|Ys<|?_;refine qk3 Z ?_ ?_<;>intro c12
 ·have hk:k < nf:=by omega
  obtain ⟨b,off,x,B1,m1,d1,B2,m2,d2,B3,m3,d3,rfl,hx,hcx,hpx,hlx,hbx,hnl⟩:=Fncs.at_ (hFn.le e11) hk;have hfx:=hVf x (List.mem_of_getElem? hx);refine Yk<|Yt<|Ys<|Yp<|Ys<|Yr<|Yqm Z Z<|qcu (qau Z Z Z Z Z Z hk) Z<|qcu (qaw Z Z Z (hcx.le (Lr D)) Z) Z<|qc6 Z [_] Z Z fun β13 s13 h13=>qc6 Z [_,_,_,_] Z Z fun β14 s14 h14=>qhs 1 [_] Z Z Z Z Z Z Z Z Z<|qhs 0 [_,_,_,_] Z Z Z Z Z Z Z Z Z<|Yn<|Yt<|Ys<|Yr<|qcu (qao 0 [_,_,_,_] Z Z Z Z Z) Z<|Rc9 Z Z Z (qyr D _ _ x B1 B2 B3 m1 d1 m2 d2 m3 d3) ?_;have e14:=e11.t h13|>.t h14;rintro _ _ s15 h15 ⟨rfl,ba,rfl,hba⟩;have e15:=h13.t h14|>.t h15;refine Yn<|Yt<|Yp<|?_;refine qnv (σ:=Option Int) (α:=Nd×Option Addr×Option Addr×Nat) (fun g=>(β14,cb [St x.name,.slice B1 m1 d1,.slice B2 m2 d2,.slice B3 m3 d3] 52)::(β13,cb [.int .i64 (k:Int)] 3)::_::_::_::(β2,cb [.int .i64 (g.getD 0),.int .i64 (match g with|none=>0|some _=>(ng:Int)+(k:Int))] 27)::_::(bs.map qkC++L)) (fun g tw=>True) (fun g=>qrD g) (fun g xn g1=>stO p x xn.1 g1) (fun xn=>[.agg #[.pointer xn.2.1,.pointer xn.2.2.1,.int .i64 (xn.2.2.2:Int)]]) (fun g xn tw=>NdV tw xn.1 (.agg #[.pointer xn.2.1,.pointer xn.2.2.1,.int .i64 (xn.2.2.2:Int)])) (fun g1=>g1=if qgu p x (qcG x.body 0)=0 then none else some (qgu p x (qcG x.body 0))) (AR:=(fun xn fr A=>∃ βy,Keeps fr [(8,.pointer (some ⟨βy,0,none⟩)),(1,.pointer (some ⟨β1,0,none⟩)),(2,.pointer (some ⟨β2,0,none⟩)),(5,.pointer (some ⟨β10,0,none⟩)),(6,.pointer (some ⟨β13,0,none⟩)),(7,.pointer (some ⟨β14,0,none⟩))]∧A=[(βy,cb [.pointer xn.2.1,.pointer xn.2.2.1,.int .i64 (xn.2.2.2:Int)] 111)])) (cap:=[_]) Z none Z (Tt) Z (fun _ _ _ h _=>h) (fun g=>by cases g with
    | none=>exact .inl rfl
    | some f=>exact .inr (.inl rfl)) (fun _=>rfl) rfl ?_ ?_ ?_ ?_
  ·intro l16 x16 L16 s16;refine Yr<|qc6 Z [_,_,_] Z Z fun β17 s17 h17=>qhs 0 [_,_,_] Z Z Z Z Z Z Z Z Z<|Yn ?_;exact ⟨rfl,rfl,⟨[_],⟨_,(.cons rfl (.cons rfl (.cons rfl (.cons rfl (.cons rfl (.cons rfl (.nil _))))))),rfl⟩,rfl⟩,h17⟩
  ·rintro l18 d18 o18 p18 g xn s18 s19 fr18 A18 h18 h19 I18 hp18 P18 ⟨βy,hK18,rfl⟩;refine qye hK18 ?_;simp only [cQ9,nQ9];obtain ⟨nd,pa,pb,lp⟩:=xn;have hN:=P18;simp only at hN;obtain rfl:g=none:=by cases g with
     | none=>rfl
     | some f=>cases hp18
   dsimp only;refine Yp<|Ys<|Yr<|qcu (qao 5 [_,_,_] Z Z Z Z Z) Z<|qcu (qao 3 [_,_,_,_] Z Z Z Z Z) Z<|qcu (qao 0 [_,_,_] Z Z Z Z Z) Z ?_;refine Rc9 Z Z Z (qqL D _ _ d p Ag _ ng cg nf cf (hGl.le (e14.t h15|>.t h18|>.t h19)) (hFn.le (e14.t h15|>.t h18|>.t h19)) bm (hM.le (h10.t I11.1|>.t h13|>.t h14|>.t h15|>.t h18|>.t h19)) x B1 B2 B3 m1 d1 m2 d2 m3 d3 (hpx.le (e15.t h18|>.t h19)) (hlx.le (e15.t h18|>.t h19)) nd _ (hN.le h19)) ?_;rintro _ _ s20 h20 ⟨rfl,rfl⟩;refine Yqa Z Z<|Yn<|Yt<|Ys<|Yr<|Yqm Z Z<|Yqne Z Z Z<|Yn<|Yt<|?_;refine qnt Z ?_ ?_<;>intro c21;·have hz:¬ ndC p x nd=0:=c21;refine Ys<|Yr<|Yqm Z Z<|Yqf0 Z Z Z Z Z<|qcu (Wd 9 Y5) Z<|qAj Z Z Z Z<|Yql 4 Z Z Z Z Z Z<|qnx Z Z Z (w64 O O)<|Rc9 Z Z Z (qen D _ _ _ _) ?_;rintro _ _ s22 h22 ⟨rfl,rfl⟩;refine qhs 8 [_,_] Z Z Z Z Z Z Z Z Z<|Yn<|Yt<|Yo<|Yc<|?_;refine ⟨some (ndC p x nd),(by simp only [stO];rw [if_neg hz]),Z,[_],Z,(h20.t h22),Tt⟩
   have hz:ndC p x nd=0:=c21;refine Yk<|Yb<|?_;refine ⟨none,(by simp only [stO];rw [if_pos hz]),Z,[_],Z,h20,Tt⟩
  ·intro l23 HH s23 h23 hY;refine (qvg D _ _ HH (fun g tw=>True) (qrD) (fun g nd g1=>stO p x nd g1) l23 none ((fun _=>0)) (qcG x.body 0).length (fun _ _ _ _=>Nat.zero_le _) (fun g s s' h hl=>h) ?_ (Tt) Z ba d x B1 B2 B3 m1 d1 m2 d2 m3 d3 (hba.le h23) (hbx.le (e15.t h23)) hfx.2.2.2.2.1 (Nat.le_of_eq (Nat.zero_add _))).mono ?_
   · intro g nd nv s2 hl2 hI2 hp2 hc2 hN2
     obtain ⟨pa,pb,lp,rfl⟩:=hN2.agg;exact hY g (nd,pa,pb,lp) s2 (h23.trans hl2) hI2 hp2 hN2
   · rintro v L' s3 _ ⟨g',h1,h2,h3⟩
     exact ⟨g',qpi h1,h2,h3⟩
  intro d24 g s24 h24 F24 I24;have hF:g=if qgu p x (qcG x.body 0)=0 then none else some (qgu p x (qcG x.body 0)):=F24
  cases g with
  | some f=>
   have hbn:¬ qgu p x (qcG x.body 0)=0:=fun h=>by rw [if_pos h] at hF;cases hF
   rw [if_neg hbn] at hF;injection hF with hF
   have hE:qcv p=(f,(ng:Int)+(k:Int)):=by
     rw [qcv,if_neg g14,if_neg g20,hS,qid hx,if_neg hbn,← hF,hn1];simp
   refine Yc<|Yc<|Yu<|Yu<|Yc<|Yu<|?_;refine qb3 (_::_::_::_::_::_::_::_::bs.map qkC) L (.inr Z) (.agg (us:=[_,_]) 6 Z Z Z Z Z (.nil)) Z (e14.t h15|>.t h24) ⟨_::bs,Z,List.Sublist.cons_cons _ (List.Sublist.cons _ (List.Sublist.cons _ (List.Sublist.cons _ (List.Sublist.cons _ (List.Sublist.cons _ (List.Sublist.cons _ (List.Sublist.cons _ (List.Sublist.refl _))))))))⟩ fun _ hS2=>?_;exact qck
  | none=>
   have hbn:qgu p x (qcG x.body 0)=0:=by
     by_cases h:qgu p x (qcG x.body 0)=0
     · exact h
     · rw [if_neg h] at hF;cases hF
   refine Yb<|Yb<|Yt<|quR (List.perm_append_comm_assoc [_] [_,_,_,_,_,_,_] _) ?_;simp only [cQ9,nQ9];refine Yr<|qnx Z Z Z (w64 O O)<|Yqm Z Z<|Yn<|?_;refine qhj ⟨(k+1,d24::bs),[_,_],Z,(.c6 Z Z Z Z Z Z (.nil _)),Z,⟨(I11.1.t h13|>.t h14|>.t h15|>.t h24),⟨by simp only;omega,by simp only;rw [hS,qid hx,if_pos hbn];rfl⟩⟩,Oz⟩
 rw [List.drop_eq_nil_of_le O,qlb] at hS;have hE:qcv p=(0,0):=by rw [qcv,if_neg g14,if_neg g20,hS]
 refine Yl<|Yv<|Yv<|Yd<|Yt<|Ys<|Yr<|qcu (qak [] [_,_] Z Z Z Z Z Z) Z<|qhs 3 [_,_] Z Z Z Z Z Z Z Z Z<|Yn<|Yt<|Yo<|?_;refine qb3 (_::_::_::_::_::bs.map qkC) L (.inr Z) (.agg (us:=[_,_]) 3 Z Z Z Z Z (.nil)) Z e11 ⟨bs,Z,List.Sublist.cons _ (List.Sublist.cons _ (List.Sublist.cons _ (List.Sublist.cons _ (List.Sublist.cons _ (List.Sublist.refl _)))))⟩ fun _ hS2=>?_;exact qck
end Go.Proofs.YtflplmcjbppfcaaGreatDoor
namespace Go.FL
open Go Go.RowKit
def qhI{α:Type}{sz:Nat}{f:α→List Value}(hf:∀ x,(f x).length=sz){s:World}{b:Nat}:∀ {l:List α} {off:Nat},(∀ (i:Nat) (x:α),l[i]?=some x→CellsAt s b (off+i * sz) (f x))→CellsAt s b off (l.map f).flatten
  | [],off,_=>fun j v h=>by simp at h
  | x::r,off,h=>by
    have h0:=h 0 x rfl;have ih:=qhI hf (l:=r) (off:=off+sz) fun i y hy=>by
      have:=h (i+1) y (by simpa using hy)
      rwa [show off+(i+1) * sz=off+sz+i * sz by rw [Nat.succ_mul];omega] at this
    intro j v hj;rw [List.map_cons,List.flatten_cons] at hj;by_cases hl:j < (f x).length
    · rw [List.getElem?_append_left hl] at hj
      have:=h0 j v hj
      rwa [Nat.zero_mul,Nat.add_zero] at this
    · rw [List.getElem?_append_right O] at hj
      have:=ih (j - (f x).length) v hj;rw [hf x] at this hl
      rwa [show off+sz+(j - sz)=off+j by omega] at this
def qq3{α:Type}{sz:Nat}{f:α→List Value}(hf:∀ x,(f x).length=sz)(l:List α):(l.map f).flatten.length=l.length * sz:=by
 induction l with
 | nil=>simp
 | cons x r ih=>rw [List.map_cons,List.flatten_cons,List.length_append,ih,hf,List.length_cons,Nat.succ_mul];omega
end Go.FL
namespace Go.Proofs.YtflplmcjbppfcaaGreatDoor
open Go Go.FL Go.RowKit
def Sl.rowF{α:Type}{sz:Nat}{f:α→List Value}{s:World}{A:Option Addr}{n c:Nat}{l:List α}(h:Sl sz (fun _ x cs=>cs=f x) s A n c l)(hf:∀ x,(f x).length=sz)(h1:∀ x,∀ u∈f x,u.oneCell'=true):Row s A n sz (l.map f).flatten:=by
  refine ⟨by rw [qq3 hf,h.1],fun u hu=>?_,fun j u hj=>?_⟩
  · obtain ⟨cs,hc,hu⟩:=List.mem_flatten.1 hu
    obtain ⟨x,_,rfl⟩:=List.mem_map.1 hc;exact h1 x u hu
  · cases l with
    | nil=>simp at hj
    | cons x r=>
      obtain ⟨b,off,cs,hA,_,_,_⟩:=h.2.2.2 0 x rfl;subst hA;refine ⟨b,off,Z,qhI hf (l:=x::r) (off:=off) (fun i y hy=>?_) j u hj⟩;obtain ⟨b2,off2,cs2,hA2,h2,_,h3⟩:=h.2.2.2 i y hy;injection hA2 with hA2
      injection hA2 with e1 e2;subst e1;subst e2;subst h3;exact h2
def Own.rowF{α:Type}{e sz:Nat}{f:α→List Value}{M:Hl}{A:Option Addr}{n c:Nat}{l:List α}{s:World}(h:FL.Own e sz M (.slice A n c) n (l.map f).flatten)(hf:∀ x,(f x).length=sz)(hp:Pub M s)(hn:n=l.length):Sl sz (fun _ x cs=>cs=f x) s A n c l:=by
 refine Own.rows h hp ?_ hn;clear h hn;induction l with
 | nil=>exact .nil
 | cons x r ih=>exact .cons ⟨hf x,rfl⟩ ih
open Go.Proofs.Tryz
open Go.FL
attribute [local irreducible] JC JO JA JB qaZ qaL qb4 AC fill CellsAt QE Ev Mid
def qeF{α:Type}{l:List α}{k:Nat}{x:α}(h:l[k]?=some x):l.take (k+1)=l.take k++[x]:=by
 obtain ⟨hk,rfl⟩:=List.getElem?_eq_some_iff.1 h;exact List.take_succ_eq_append_getElem hk
def qls{x:Ex}:∀ {l:List Ex} {k:Nat},l[k]?=some x→qbD x.args+k+1≤qbD l
 | [],k,h=>by cases h
 | .mk a b c d e::r,0,h=>by
  simp at h;subst h;rw [qbD,exN];simp only [Ex.args];omega
 | .mk a b c d e::r,k+1,h=>by
  have:=qls (l:=r) (k:=k) (by simpa using h);rw [qbD,exN];omega
def ql7{x:Stm}:∀ {l:List Stm} {k:Nat},l[k]?=some x→qbD x.exprs+qbr x.body+qbr x.els+k+1≤qbr l
 | [],k,h=>by cases h
 | .mk a b c d e::r,0,h=>by
  simp at h;subst h;rw [qbr,stN];simp only [Stm.exprs,Stm.body,Stm.els];omega
 | .mk a b c d e::r,k+1,h=>by
  have:=ql7 (l:=r) (k:=k) (by simpa using h);rw [qbr,stN];omega
structure RNd where
 name:Str
 u:Int
 count:Int
 loops:Int
def qus(u:Int):Str:=if u=1 then [115,101,116] else if u=2 then [103,101,116] else if u=3 then [105,116,101,109] else if u=4 then [99,97,108,108] else [108,101,97,118,101]
def rnv(r:RNd):List Value:=[St r.name,St (qus r.u),.int .i64 r.count,.int .i64 r.loops]
def qmS(l:List RNd):List Value:=(l.map rnv).flatten
def qcX(a b:List RNd):qmS (a++b)=qmS a++qmS b:=by simp [qmS]
def Rns(s:World)(A:Option Addr)(n c:Nat)(l:List RNd):Prop:=Sl 4 (fun _ r cs=>cs=rnv r) s A n c l
def Rns.le{D:Nat}{s s':World}{A:Option Addr}{n c:Nat}{l:List RNd}(h:Rns s A n c l)(hl:Le D s s'):Rns s' A n c l:=Sl.le (fun _ _ h=>h) h hl
def Rns.row{s:World}{A:Option Addr}{n c:Nat}{l:List RNd}(h:Rns s A n c l):Row s A n 4 (qmS l):=Sl.rowF h (fun _=>rfl) (fun x u hu=>by
 simp only [rnv,List.mem_cons,List.not_mem_nil,or_false] at hu;rcases hu with rfl|rfl|rfl|rfl<;>rfl)
def Rns.at_{s:World}{A:Option Addr}{n c k:Nat}{l:List RNd}(h:Rns s A n c l)(hk:k < n):∃ b off r,A=some ⟨b,off,none⟩∧l[k]?=some r∧CellsAt s b (off+k * 4) [St r.name,St (qus r.u),.int .i64 r.count,.int .i64 r.loops]:=by
 have hl:k < l.length:=by rw [← h.1];exact hk
 obtain ⟨b,off,cs,h1,h2,_,rfl⟩:=h.2.2.2 k l[k] (List.getElem?_eq_getElem hl);exact ⟨b,off,l[k],h1,List.getElem?_eq_getElem hl,h2⟩
def ndR:Nd→List RNd
 | .ex x _=>if 2≤x.kind∧x.kind≤4 then [⟨x.name,x.kind,(x.args.length:Int),0⟩] else []
 | .st x lp=>if x.kind=1 then [⟨x.name,1,0,0⟩] else if x.kind=2 then [⟨x.name,3,0,0⟩] else if x.kind=5 then [⟨x.name,4,(x.exprs.length:Int),0⟩] else if 8 < x.kind then [⟨[],5,0,(lp:Int)⟩] else []
def qt9(n:Nd):(ndR n).length≤1:=by
 cases n with
 | ex x lp=>
  by_cases h:2≤x.kind∧x.kind≤4
  · rw [ndR,if_pos h];exact Nat.le_refl 1
  · rw [ndR,if_neg h];exact Nat.zero_le _
 | st x lp=>
  rw [ndR];by_cases h1:x.kind=1
  · rw [if_pos h1];exact Nat.le_refl 1
  rw [if_neg h1];by_cases h2:x.kind=2
  · rw [if_pos h2];exact Nat.le_refl 1
  rw [if_neg h2];by_cases h5:x.kind=5
  · rw [if_pos h5];exact Nat.le_refl 1
  rw [if_neg h5];by_cases h8:8 < x.kind
  · rw [if_pos h8];exact Nat.le_refl 1
  · rw [if_neg h8];exact Nat.zero_le _
def qoL(l:List Nd):(l.flatMap ndR).length≤l.length:=by
 induction l with
 | nil=>simp
 | cons x r ih=>have:=qt9 x;rw [List.flatMap_cons,List.length_append,List.length_cons];omega
def rxs(l:List Ex)(lp:Nat):List RNd:=(qea l lp).flatMap ndR
def rss(l:List Stm)(lp:Nat):List RNd:=(qcG l lp).flatMap ndR
mutual
def qBo:∀ (x:Ex) (lp:Nat),(ndX x lp).flatMap ndR=(ndX x 0).flatMap ndR
 | .mk k o n nm ar,lp=>by rw [ndX,ndX,List.flatMap_cons,List.flatMap_cons,qpo ar lp];rfl
def qpo:∀ (l:List Ex) (lp:Nat),(qea l lp).flatMap ndR=(qea l 0).flatMap ndR
 | [],_=>rfl
 | x::r,lp=>by rw [qea,qea,List.flatMap_append,List.flatMap_append,qBo x lp,qpo r lp]
end
def qrp(a b:List Ex)(lp:Nat):qea (a++b) lp=qea a lp++qea b lp:=by
 induction a with
 | nil=>rfl
 | cons x r ih=>rw [List.cons_append,qea,qea,ih,List.append_assoc]
def qro(a b:List Stm)(lp:Nat):qcG (a++b) lp=qcG a lp++qcG b lp:=by
 induction a with
 | nil=>rfl
 | cons x r ih=>rw [List.cons_append,qcG,qcG,ih,List.append_assoc]
def qgF{l:List Ex}{k:Nat}{x:Ex}(h:l[k]?=some x):rxs (l.take (k+1)) 0=rxs (l.take k) 0++ndR (.ex x 0)++rxs x.args 0:=by
 rw [rxs,qeF h,qrp,List.flatMap_append];cases x with
 | mk a b c d e=>simp only [qea,ndX,List.append_nil,List.flatMap_cons,rxs,List.append_assoc,Ex.args]
def qrN{l:List Stm}{k lp:Nat}{x:Stm}(h:l[k]?=some x):rss (l.take (k+1)) lp=rss (l.take k) lp++ndR (.st x lp)++rxs x.exprs 0++rss x.body (lpI x lp)++rss x.els (lpI x lp):=by
 rw [rss,qeF h,qro,List.flatMap_append];cases x with
 | mk a b c d e=>
  simp only [qcG,ndS,List.append_nil,List.flatMap_cons,List.flatMap_append,rss,rxs,List.append_assoc,Stm.exprs,Stm.body,Stm.els,lpI,Stm.kind];rw [qpo c lp];rfl
def qpn(l:List Ex)(lp:Nat):(rxs l lp).length≤qbD l:=Nat.le_trans (qoL _) (Nat.le_of_eq (qgE l lp))
def qpf(l:List Stm)(lp:Nat):(rss l lp).length≤qbr l:=Nat.le_trans (qoL _) (Nat.le_of_eq (qgD l lp))
def qm3(l:List Ex)(k:Nat):qbD (l.take k)≤qbD l:=by
 induction l generalizing k with
 | nil=>simp [qbD]
 | cons x r ih=>cases k with
  | zero=>simp [qbD]
  | succ k=>rw [List.take_succ_cons,qbD,qbD];have:=ih k;omega
def qm4(l:List Stm)(k:Nat):qbr (l.take k)≤qbr l:=by
 induction l generalizing k with
 | nil=>simp [qbr]
 | cons x r ih=>cases k with
  | zero=>simp [qbr]
  | succ k=>rw [List.take_succ_cons,qbr,qbr];have:=ih k;omega
def RNX(D d:Nat):Prop:=∀ (L:Hl) (s:World) (A:Option Addr) (n c:Nat) (xs:List Ex),Exs d s A n c xs→qbD xs≤4000000→AC prog D 53 [.slice A n c] L s fun v L' s'=>L=L'∧∃ A' n' c',v=.slice A' n' c'∧Rns s' A' n' c' (rxs xs 0)
def RNS(D d:Nat):Prop:=∀ (L:Hl) (s:World) (A:Option Addr) (n c:Nat) (xs:List Stm) (lp lv:Nat),Stms d s A n c xs→qdP xs lv=true→lp≤lv→qbr xs≤4000000→AC prog D 27 [.slice A n c,.int .i64 (lp:Int)] L s fun v L' s'=>L=L'∧∃ A' n' c',v=.slice A' n' c'∧Rns s' A' n' c' (rss xs lp)
def Cz53{p:Prop} (h:p:=by
 exact ⟨Mo,rfl,fun s2 hs2 hp=>⟨_,_,_,rfl,Own.rowF hO (fun _=>rfl) hp rfl⟩⟩):p:=h
def qpm(D d:Nat)(ih:∀ e,d=e+1→RNX D e)(L:Hl)(s:World)(A:Option Addr)(n c:Nat)(xs:List Ex)(hA:Exs d s A n c xs)(hx9:qbD xs≤4000000):AC prog D 53 [.slice A n c] L s fun v L' s'=>∃ M',L'=M'++L∧∀ s2,Le D s' s2→Pub M' s2→∃ A' n' c',v=.slice A' n' c'∧Rns s2 A' n' c' (rxs xs 0):=by
 have hn:=hA.1;have hc1:=hA.2.1;have hc2:=hA.2.2.1;refine qae (fn:=f53) qav func53 V Z ntmps53 Z (rs:=[.tmp 2]) Z [(0,_)] Z<|Sr<|At Z Z<|Sr<|At Z Z<|Zs<|Sr<|At Z Z<|Zp<|?_;refine qaA (γ:=Nat×Value×Hl) (fun g=>[(0,_),(2,_),(3,g.2.1),(4,.int .i64 (g.1:Int))]) (fun g=>g.2.2++L) (fun g tw=>Le D s tw∧(g.1≤n∧FL.Own 75 4 g.2.2 g.2.1 (rxs (xs.take g.1) 0).length (qmS (rxs (xs.take g.1) 0)))) (fun g=>n - g.1) (fun _ _ _ h hl=>⟨h.1.trans hl,h.2⟩) (0,.slice none 0 0,[]) (.c4 Z Z Z Z (.nil _)) Z ⟨Le.refl _,⟨Nat.zero_le _,FL.Own.nil⟩⟩ ?_;intro g s1 I1;obtain ⟨k,vo,Mo⟩:=g;obtain ⟨hk0,hO⟩:=I1.2;simp only at hk0 hO;dsimp only;obtain ⟨Ao,co,rfl,_,_⟩:=Own.slice hO;have hle1:=qpn (xs.take k) 0;have hle2:=qm3 xs k;refine Zs<|Sr<|Zqm Z Z<|Zqm Z Z<|Ws Y4<|qa8 Z Z Z<|Nt<|?_;refine qaa Z ?_ ?_<;>intro c2
 ·have hk:k < n:=by omega
  obtain ⟨e,b,off,x,A',n',c',hd,rfl,hx,hcx,hax,hux,hnl⟩:=Exs.at_ (hA.le I1.1) hk;have hx8:=qls hx;have hn':=hax.1;have hax2:=hax.2.1;have hax3:=hax.2.2.1;have hle3:=qpn x.args 0;refine Zk<|Zt<|Zs<|Zp<|Sr<|Zqm Z Z<|Zqm Z Z<|qad (qau Z Z Z Z Z Z hk) Z<|qad (qaw Z Z Z (hcx.le (Lr D)) Z) Z<|qag Z [_,_,_,_,_] Z Z fun β3 s3 h3=>Wt 0 [_,_,_,_,_] Y9<|Nt<|Zs<|Sr<|W0 Y5<|Wl 0 Y6<|Je Z Z Z (qdX D _ _ _ _ _) fun s4 h4=>Nt<|?_;have e4:=I1.1.t h3|>.t h4;refine qaa Z ?_ ?_<;>intro c5
  ·have g19:=c5;have hu3:x.kind=2∨x.kind=3∨x.kind=4:=by omega
   have hR0:ndR (.ex x 0)=[⟨x.name,x.kind,(x.args.length:Int),0⟩]:=if_pos O;have hlit:qmS [⟨x.name,x.kind,(x.args.length:Int),0⟩]=[St x.name,St (qus x.kind),.int .i64 (n':Int),.int .i64 0]:=by rw [hn'];rfl
   refine Sr<|qa4 [(_,_),(_,_),(_,_)] [_,_,_] Z Z Z Z Z Z Z Z Z fun βu s6 h6 hcu=>At Z Z<|?_;have e6:=h3.t h4|>.t h6;rcases hu3 with g2|g2|g2
   ·refine qaB qac 16 Z 1 fun s7 h7=>za 0 Z (qan Z) Z<|za 1 Z (We Y4) Z<|za 2 Z (Wd 0 Y5) Z<|za 3 Z (qan Z) Z<|za 4 Z (qat Z Z Z Z) Z<|za 5 Z (Wd 0 Y5) Z<|za 6 Z (qba (c:=((0:Nat):Int)) Z Z (by rw [w64 O O];omega)) Z<|za 7 Z (qau (j:=0) Z Z Z Z Z Z Dc) Z<|za 8 Z (qaF 0 Z Z Z (hcu.le h7) Z) Z<|za 9 Z (We Y4) Z<|za 10 Z (Wd 0 Y5) Z<|za 11 Z (qbi Z Z Z) Z<|za 12 Z (qak [(_,_),(_,_),(_,_)] [_,_,_,_] Z Z Z Z Z Z) Z<|qar 13 V ?_;refine qbQ Z Tt [(_,_)] [_,_,_,_] Z Z Z Z Z Z Z Z Z fun βn s8 h8 hcb=>qar 14 V<|qbE (sz:=4) Z (by exact Tt) [_] Mo L Z Z Z Z Z Z Z hO (Row.of_cells (hcb.le (Lr D)) Z Z) ⟨by simp [ti75];omega,by omega⟩ Z (fun A2 x hx _=>qdZ hx) ?_;intro vx1 Mx1 s9 h9 ox1;obtain ⟨Ax1,cx1,rfl,_,_⟩:=Own.slice ox1;simp only [cQ9,nQ9];refine za 15 Z (qa6 Z) Z<|qaf V<|Zt<|Zr<|Zqm Z Z<|Wb Y5<|Wl 0 Y6<|Jc Z Z Z (ih e hd _ _ A' n' c' x.args (hax.le (e6.t h7|>.t h8|>.t h9)) O) ?_;rintro _ _ s10 h10 ⟨rfl,Ar,nr,cr,rfl,hRr⟩;have hAr:=hRr.1;refine qbq (sz:=4) [_] Mx1 L Z Z Z Z Z Z Z ox1 (hRr.le (Lr D)).row ⟨by simp [ti75];omega,by omega⟩ Z ?_;intro vx2 Mx2 s11 h11 ox2;obtain ⟨Ax2,cx2,rfl,_,_⟩:=Own.slice ox2;simp only [cQ9,nQ9];refine Zqa Z Z<|Zn<|Zb<|Zt<|Zr<|Zqm Z Z<|qaD Z Z Z (w64 O O)<|Zqa Z Z<|Zn<|?_;refine qab ⟨(k+1,.slice Ax2 _ cx2,Mx2),[_],kp,Z,⟨(e4.t h6|>.t h7|>.t h8|>.t h9|>.t h10|>.t h11),⟨by simp only;omega,by simp only;rw [qgF hx,hR0,List.length_append,List.length_append,qcX,qcX];rw [← hAr,hlit,g2];exact ox2⟩⟩,Oz⟩
   ·refine qaB qac 16 Z 1 fun s12 h12=>za 0 Z (qan Z) Z<|za 1 Z (We Y4) Z<|za 2 Z (Wd 0 Y5) Z<|za 3 Z (qan Z) Z<|za 4 Z (qat Z Z Z Z) Z<|za 5 Z (Wd 0 Y5) Z<|za 6 Z (qba (c:=((1:Nat):Int)) Z Z (by rw [w64 O O];omega)) Z<|za 7 Z (qau (j:=1) Z Z Z Z Z Z Dc) Z<|za 8 Z (qaF 1 Z Z Z (hcu.le h12) Z) Z<|za 9 Z (We Y4) Z<|za 10 Z (Wd 0 Y5) Z<|za 11 Z (qbi Z Z Z) Z<|za 12 Z (qak [(_,_),(_,_),(_,_)] [_,_,_,_] Z Z Z Z Z Z) Z<|qar 13 V ?_;refine qbQ Z Tt [(_,_)] [_,_,_,_] Z Z Z Z Z Z Z Z Z fun βn s13 h13 hcb=>qar 14 V<|qbE (sz:=4) Z (by exact Tt) [_] Mo L Z Z Z Z Z Z Z hO (Row.of_cells (hcb.le (Lr D)) Z Z) ⟨by simp [ti75];omega,by omega⟩ Z (fun A2 x hx _=>qdZ hx) ?_;intro vx1 Mx1 s14 h14 ox1;obtain ⟨Ax1,cx1,rfl,_,_⟩:=Own.slice ox1;simp only [cQ9,nQ9];refine za 15 Z (qa6 Z) Z<|qaf V<|Zt<|Zr<|Zqm Z Z<|Wb Y5<|Wl 0 Y6<|Jc Z Z Z (ih e hd _ _ A' n' c' x.args (hax.le (e6.t h12|>.t h13|>.t h14)) O) ?_;rintro _ _ s15 h15 ⟨rfl,Ar,nr,cr,rfl,hRr⟩;have hAr:=hRr.1;refine qbq (sz:=4) [_] Mx1 L Z Z Z Z Z Z Z ox1 (hRr.le (Lr D)).row ⟨by simp [ti75];omega,by omega⟩ Z ?_;intro vx2 Mx2 s16 h16 ox2;obtain ⟨Ax2,cx2,rfl,_,_⟩:=Own.slice ox2;simp only [cQ9,nQ9];refine Zqa Z Z<|Zn<|Zb<|Zt<|Zr<|Zqm Z Z<|qaD Z Z Z (w64 O O)<|Zqa Z Z<|Zn<|?_;refine qab ⟨(k+1,.slice Ax2 _ cx2,Mx2),[_],kp,Z,⟨(e4.t h6|>.t h12|>.t h13|>.t h14|>.t h15|>.t h16),⟨by simp only;omega,by simp only;rw [qgF hx,hR0,List.length_append,List.length_append,qcX,qcX];rw [← hAr,hlit,g2];exact ox2⟩⟩,Oz⟩
   refine qaB qac 16 Z 1 fun s17 h17=>za 0 Z (qan Z) Z<|za 1 Z (We Y4) Z<|za 2 Z (Wd 0 Y5) Z<|za 3 Z (qan Z) Z<|za 4 Z (qat Z Z Z Z) Z<|za 5 Z (Wd 0 Y5) Z<|za 6 Z (qba (c:=((2:Nat):Int)) Z Z (by rw [w64 O O];omega)) Z<|za 7 Z (qau (j:=2) Z Z Z Z Z Z Dc) Z<|za 8 Z (qaF 2 Z Z Z (hcu.le h17) Z) Z<|za 9 Z (We Y4) Z<|za 10 Z (Wd 0 Y5) Z<|za 11 Z (qbi Z Z Z) Z<|za 12 Z (qak [(_,_),(_,_),(_,_)] [_,_,_,_] Z Z Z Z Z Z) Z<|qar 13 V<|qbQ Z Tt [(_,_)] [_,_,_,_] Z Z Z Z Z Z Z Z Z fun βn s18 h18 hcb=>qar 14 V<|qbE (sz:=4) Z (by exact Tt) [_] Mo L Z Z Z Z Z Z Z hO (Row.of_cells (hcb.le (Lr D)) Z Z) ⟨by simp [ti75];omega,by omega⟩ Z (fun A2 x hx _=>qdZ hx) ?_;intro vx1 Mx1 s19 h19 ox1;obtain ⟨Ax1,cx1,rfl,_,_⟩:=Own.slice ox1;simp only [cQ9,nQ9];refine za 15 Z (qa6 Z) Z<|qaf V<|Zt<|Zr<|Zqm Z Z<|Wb Y5<|Wl 0 Y6<|Jc Z Z Z (ih e hd _ _ A' n' c' x.args (hax.le (e6.t h17|>.t h18|>.t h19)) O) ?_;rintro _ _ s20 h20 ⟨rfl,Ar,nr,cr,rfl,hRr⟩;have hAr:=hRr.1;refine qbq (sz:=4) [_] Mx1 L Z Z Z Z Z Z Z ox1 (hRr.le (Lr D)).row ⟨by simp [ti75];omega,by omega⟩ Z ?_;intro vx2 Mx2 s21 h21 ox2;obtain ⟨Ax2,cx2,rfl,_,_⟩:=Own.slice ox2;simp only [cQ9,nQ9];refine Zqa Z Z<|Zn<|Zb<|Zt<|Zr<|Zqm Z Z<|qaD Z Z Z (w64 O O)<|Zqa Z Z<|Zn<|?_;refine qab ⟨(k+1,.slice Ax2 _ cx2,Mx2),[_],kp,Z,⟨(e4.t h6|>.t h17|>.t h18|>.t h19|>.t h20|>.t h21),⟨by simp only;omega,by simp only;rw [qgF hx,hR0,List.length_append,List.length_append,qcX,qcX];rw [← hAr,hlit,g2];exact ox2⟩⟩,Oz⟩
  have hR0:ndR (.ex x 0)=[]:=if_neg (by have:=c5;omega);refine Zk<|Zt<|Zr<|Zqm Z Z<|Wb Y5<|Wl 0 Y6<|Jc Z Z Z (ih e hd _ _ A' n' c' x.args (hax.le (h3.t h4)) O) ?_;rintro _ _ s22 h22 ⟨rfl,Ar,nr,cr,rfl,hRr⟩;have hAr:=hRr.1;refine qbq (sz:=4) [_] Mo L Z Z Z Z Z Z Z hO (hRr.le (Lr D)).row ⟨by simp [ti75];omega,by omega⟩ Z ?_;intro vx1 Mx1 s23 h23 ox1;obtain ⟨Ax1,cx1,rfl,_,_⟩:=Own.slice ox1;simp only [cQ9,nQ9];refine Zqa Z Z<|Zn<|Zb<|Zt<|Zr<|Zqm Z Z<|qaD Z Z Z (w64 O O)<|Zqa Z Z<|Zn<|?_;refine qab ⟨(k+1,.slice Ax1 _ cx1,Mx1),[_],kp,Z,⟨(e4.t h22|>.t h23),⟨by simp only;omega,by simp only;rw [qgF hx,hR0,List.length_append,List.length_append,qcX,qcX];rw [← hAr];simpa [qmS] using ox1⟩⟩,Oz⟩
 obtain rfl:n=k:=by omega
 rw [List.take_of_length_le O] at hO ⊢;refine Zl<|Zv<|Zv<|Zd<|Zt<|Sr<|Zqm Z Z<|At Z Z<|Zo<|?_;exact rR [] _ (.t1 Z) Z I1.1 fun _ hS2=>Cz53
def qui{D d:Nat}(h:∀ (L:Hl) (s:World) (A:Option Addr) (n c:Nat) (xs:List Ex),Exs d s A n c xs→qbD xs≤4000000→AC prog D 53 [.slice A n c] L s fun v L' s'=>∃ M',L'=M'++L∧∀ s2,Le D s' s2→Pub M' s2→∃ A' n' c',v=.slice A' n' c'∧Rns s2 A' n' c' (rxs xs 0)):RNX D d:=fun L s A n c xs hA hx=>AC.pubW (h L s A n c xs hA hx)
def rnx(D:Nat):∀ d,RNX D d
 | 0=>qui (qpm D 0 (fun e h=>by omega))
 | d+1=>qui (qpm D (d+1) (fun e h=>(show d=e by omega)▸rnx D d))
def qpb(D d:Nat)(ih:∀ e,d=e+1→RNS D e)(L:Hl)(s:World)(A:Option Addr)(n c:Nat)(xs:List Stm)(lp lv:Nat)(hA:Stms d s A n c xs)(hv:qdP xs lv=true)(hlp:lp≤lv)(hx9:qbr xs≤4000000):AC Tryz.prog D 27 [.slice A n c,.int .i64 (lp:Int)] L s fun v L' s'=>∃ M',L'=M'++L∧∀ s2,Le D s' s2→Pub M' s2→∃ A' n' c',v=.slice A' n' c'∧Rns s2 A' n' c' (rss xs lp):=by
 have hn:=hA.1;have hc1:=hA.2.1;have hc2:=hA.2.2.1;refine qae (fn:=Tryz.f27) qav Tryz.func27 V Z Tryz.ntmps27 Z (rs:=[.tmp 4]) Z [(0,_),(1,_)] Z<|Sr<|At Z Z<|Sr<|At Z Z<|Zs<|Sr<|At Z Z<|Zp<|?_;refine qaA (γ:=Nat×Value×Hl) (fun g=>[(0,_),(1,_),(4,_),(5,g.2.1),(6,.int .i64 (g.1:Int))]) (fun g=>g.2.2++L) (fun g tw=>Le D s tw∧(g.1≤n∧FL.Own 75 4 g.2.2 g.2.1 (rss (xs.take g.1) lp).length (qmS (rss (xs.take g.1) lp)))) (fun g=>n - g.1) (fun _ _ _ h hl=>⟨h.1.trans hl,h.2⟩) (0,.slice none 0 0,[]) (.c5 Z Z Z Z Z (.nil _)) Z ⟨Le.refl _,⟨Nat.zero_le _,FL.Own.nil⟩⟩ ?_;intro g s1 I1;obtain ⟨k,vo,Mo⟩:=g;obtain ⟨hk0,hO⟩:=I1.2;simp only at hk0 hO;dsimp only;obtain ⟨Ao,co,rfl,_,_⟩:=Own.slice hO;have hle1:=qpf (xs.take k) lp;have hle2:=qm4 xs k;refine Zs<|Sr<|Zqm Z Z<|Zqm Z Z<|Ws Y4<|qa8 Z Z Z<|Nt<|?_;refine qaa Z ?_ ?_<;>intro c2
 ·have hk:k < n:=by omega
  obtain ⟨e,b,off,x,A1,n1,p1,A2,n2,p2,A3,n3,p3,hd,rfl,hx,hcx,hax,hbx,hex,hnl⟩:=Stms.at_ (hA.le I1.1) hk;have hn1:=hax.1;have hq1:=hax.2.1;have hq2:=hax.2.2.1;have hx8:=ql7 hx;obtain ⟨hvx,_⟩:=qfE hv hx;obtain ⟨hlv,_,_,hvB,hvL⟩:=qdL hvx;have hl3:=qpn x.exprs 0;have hl4:=qpf x.body (lpI x lp);have hl5:=qpf x.els (lpI x lp);have hl6:=qt9 (.st x lp);have hlI:lpI x lp≤lv+1:=by rw [lpI];split<;>omega
  refine Zk<|Zt<|Zs<|Zp<|Sr<|Zqm Z Z<|Zqm Z Z<|qad (qau Z Z Z Z Z Z hk) Z<|qad (qaw Z Z Z (hcx.le (Lr D)) Z) Z<|qag Z [_,_,_,_,_] Z Z fun β3 s3 h3=>Wt 0 [_,_,_,_,_] Y9<|Nt<|Sr<|Zqm Z Z<|At Z Z<|?_;refine qcH (γ:=Value×Hl) (fun g=>[(5,g.1),(8,.int .i64 ((lpI x lp:Nat):Int))]) [_] Z (fun g=>g.2++L) (fun g tw=>FL.Own 75 4 g.2 g.1 ((rss (xs.take k) lp).length+(ndR (.st x lp)).length) (qmS (rss (xs.take k) lp)++qmS (ndR (.st x lp)))) (fun _ _ _ h hl=>h) ?_ ?_
  ·refine Sr<|W0 Y5<|Wl 0 Y6<|qax Z Z Z<|Nt<|?_;refine qaa Z ?_ ?_<;>intro c5;·have hR0:ndR (.st x lp)=[⟨x.name,1,0,0⟩]:=if_pos c5;refine Zr<|Zqm Z Z<|Wb Y5<|Wl 0 Y6<|qad (qak [(_,_),(_,_)] [_,_,_,_] Z Z Z Z Z Z) Z<|qa4 [(_,_)] [_,_,_,_] Z Z Z Z Z Z Z Z Z fun βn s6 h6 hcb=>qbq (sz:=4) [_] Mo L Z Z Z Z Z Z Z hO (Row.of_cells (hcb.le (Lr D)) Z Z) ⟨by simp [ti75];omega,by omega⟩ Z ?_;intro vx1 Mx1 s7 h7 ox1;obtain ⟨Ax1,cx1,rfl,_,_⟩:=Own.slice ox1;simp only [cQ9,nQ9];refine Zqa Z Z<|Zn<|?_;refine qab (MidG.mk (.slice Ax1 _ cx1,Mx1) [] (h6.t h7) (.cons Z (.cons (congrArg (fun i:Int=>some (Value.int .i64 i)) (by rw [lpI];split<;>omega)) (.nil _))) So Pr (by rw [hR0];exact ox1))
   have g1:=c5;refine Sr<|W0 Y5<|Wl 0 Y6<|qax Z Z Z<|Nt<|?_;refine qaa Z ?_ ?_<;>intro c8;·have hR0:ndR (.st x lp)=[⟨x.name,3,0,0⟩]:=(if_neg g1).trans (if_pos c8);refine Zr<|Zqm Z Z<|Wb Y5<|Wl 0 Y6<|qad (qak [(_,_),(_,_)] [_,_,_,_] Z Z Z Z Z Z) Z<|qa4 [(_,_)] [_,_,_,_] Z Z Z Z Z Z Z Z Z fun βn s9 h9 hcb=>qbq (sz:=4) [_] Mo L Z Z Z Z Z Z Z hO (Row.of_cells (hcb.le (Lr D)) Z Z) ⟨by simp [ti75];omega,by omega⟩ Z ?_;intro vx1 Mx1 s10 h10 ox1;obtain ⟨Ax1,cx1,rfl,_,_⟩:=Own.slice ox1;simp only [cQ9,nQ9];refine Zqa Z Z<|Zn<|?_;refine qab (MidG.mk (.slice Ax1 _ cx1,Mx1) [] (h9.t h10) (.cons Z (.cons (congrArg (fun i:Int=>some (Value.int .i64 i)) (by rw [lpI];split<;>omega)) (.nil _))) So Pr (by rw [hR0];exact ox1))
   have g2:=c8;refine Sr<|W0 Y5<|Wl 0 Y6<|qax Z Z Z<|Nt<|?_;refine qaa Z ?_ ?_<;>intro c11
   ·have hR0:ndR (.st x lp)=[⟨x.name,4,(n1:Int),0⟩]:=by rw [hn1];exact (if_neg g1).trans ((if_neg g2).trans (if_pos c11))
    refine Zr<|Zqm Z Z<|Wb Y5<|Wl 0 Y6<|Wb Y5<|Wl 0 Y6<|Ws Y4<|qad (qak [(_,_),(_,_),(_,_)] [_,_,_,_] Z Z Z Z Z Z) Z<|qa4 [(_,_)] [_,_,_,_] Z Z Z Z Z Z Z Z Z fun βn s12 h12 hcb=>qbq (sz:=4) [_] Mo L Z Z Z Z Z Z Z hO (Row.of_cells (hcb.le (Lr D)) Z Z) ⟨by simp [ti75];omega,by omega⟩ Z ?_;intro vx1 Mx1 s13 h13 ox1;obtain ⟨Ax1,cx1,rfl,_,_⟩:=Own.slice ox1;simp only [cQ9,nQ9];refine Zqa Z Z<|Zn<|?_;refine qab (MidG.mk (.slice Ax1 _ cx1,Mx1) [] (h12.t h13) (.cons Z (.cons (congrArg (fun i:Int=>some (Value.int .i64 i)) (by rw [lpI];split<;>omega)) (.nil _))) So Pr (by rw [hR0];exact ox1))
   have g5:=c11;refine Sr<|W0 Y5<|Wl 0 Y6<|qbl Z Z Z<|Nt<|?_;refine qaa Z ?_ ?_<;>intro c14;·have hR0:ndR (.st x lp)=[⟨[],5,0,(lp:Int)⟩]:=(if_neg g1).trans ((if_neg g2).trans ((if_neg g5).trans (if_pos (by have:=c14;omega))));refine Zr<|Zqm Z Z<|Zqm Z Z<|qad (qak [(_,_),(_,_)] [_,_,_,_] Z Z Z Z Z Z) Z<|qa4 [(_,_)] [_,_,_,_] Z Z Z Z Z Z Z Z Z fun βn s15 h15 hcb=>qbq (sz:=4) [_] Mo L Z Z Z Z Z Z Z hO (Row.of_cells (hcb.le (Lr D)) Z Z) ⟨by simp [ti75];omega,by omega⟩ Z ?_;intro vx1 Mx1 s16 h16 ox1;obtain ⟨Ax1,cx1,rfl,_,_⟩:=Own.slice ox1;simp only [cQ9,nQ9];refine Zqa Z Z<|Zn<|?_;refine qab (MidG.mk (.slice Ax1 _ cx1,Mx1) [] (h15.t h16) (.cons Z (.cons (congrArg (fun i:Int=>some (Value.int .i64 i)) (by rw [lpI];split<;>omega)) (.nil _))) So Pr (by rw [hR0];exact ox1))
   have hR0:ndR (.st x lp)=[]:=(if_neg g1).trans ((if_neg g2).trans ((if_neg g5).trans (if_neg (by have:=c14;omega))));refine Sr<|W0 Y5<|Wl 0 Y6<|qax Z Z Z<|Nt<|?_;refine qaa Z ?_ ?_<;>intro c17;·refine Zr<|Zqm Z Z<|qaD Z Z Z (w64 O O)<|Zqa Z Z<|Zn<|?_;refine qab (MidG.mk (.slice Ao _ co,Mo) [] (Lr D) (.cons Z (.cons (congrArg (fun i:Int=>some (Value.int .i64 i)) (by rw [lpI];split<;>omega)) (.nil _))) So Pr (by rw [hR0];simpa [qmS] using hO))
   refine Zk ?_;refine qab (MidG.mk (.slice Ao _ co,Mo) [] (Lr D) (.cons Z (.cons (congrArg (fun i:Int=>some (Value.int .i64 i)) (by rw [lpI];split<;>omega)) (.nil _))) So Pr (by rw [hR0];simpa [qmS] using hO))
  intro g s4 h4 I4;simp only [cQ9,nQ9];obtain ⟨vo,Mo⟩:=g;have hO:=I4;simp only at hO;dsimp only;obtain ⟨Ao,co,rfl,_,_⟩:=Own.slice hO;refine Sr<|Zqm Z Z<|Wb Y5<|Wl 0 Y6<|Jc Z Z Z (rnx D e _ _ A1 n1 p1 x.exprs (hax.le (h3.t h4)) O) ?_;rintro _ _ s18 h18 ⟨rfl,Ar,nr1,cr,rfl,hRx⟩;have hr1:=hRx.1;refine qbq (sz:=4) [_] Mo L Z Z Z Z Z Z Z hO (hRx.le (Lr D)).row ⟨by simp [ti75];omega,by omega⟩ Z ?_;intro vx1 Mx1 s19 h19 ox1;have e19:=h3.t h4|>.t h18|>.t h19;obtain ⟨Ax1,cx1,rfl,_,_⟩:=Own.slice ox1;simp only [cQ9,nQ9];refine At Z Z<|Sr<|Zqm Z Z<|Wb Y5<|Wl 0 Y6<|Zqm Z Z<|Jc Z Z Z (ih e hd _ _ A2 n2 p2 x.body (lpI x lp) (lv+1) (hbx.le e19) hvB hlI O) ?_;rintro _ _ s20 h20 ⟨rfl,Ar2,nr2,cr2,rfl,hRb⟩;have hr2:=hRb.1;refine qbq (sz:=4) [_] Mx1 L Z Z Z Z Z Z Z ox1 (hRb.le (Lr D)).row ⟨by simp [ti75];omega,by omega⟩ Z ?_;intro vx2 Mx2 s21 h21 ox2;obtain ⟨Ax2,cx2,rfl,_,_⟩:=Own.slice ox2;simp only [cQ9,nQ9];refine At Z Z<|Zr<|Zqm Z Z<|Wb Y5<|Wl 0 Y6<|Zqm Z Z<|Jc Z Z Z (ih e hd _ _ A3 n3 p3 x.els (lpI x lp) (lv+1) (hex.le (e19.t h20|>.t h21)) hvL hlI O) ?_;rintro _ _ s22 h22 ⟨rfl,Ar3,nr3,cr3,rfl,hRe⟩;have hr3:=hRe.1;refine qbq (sz:=4) [_] Mx2 L Z Z Z Z Z Z Z ox2 (hRe.le (Lr D)).row ⟨by simp [ti75];omega,by omega⟩ Z ?_;intro vx3 Mx3 s23 h23 ox3;obtain ⟨Ax3,cx3,rfl,_,_⟩:=Own.slice ox3;simp only [cQ9,nQ9];refine Zqa Z Z<|Zn<|Zb<|Zt<|Zr<|Zqm Z Z<|qaD Z Z Z (w64 O O)<|Zqa Z Z<|Zn<|?_;refine qab ⟨(k+1,.slice Ax3 _ cx3,Mx3),[_],kp,Z,⟨(I1.1.t h3|>.t h4|>.t h18|>.t h19|>.t h20|>.t h21|>.t h22|>.t h23),⟨by simp only;omega,by simp only;rw [qrN hx];simp only [List.length_append,qcX];rw [← hr1,← hr2,← hr3];exact ox3⟩⟩,Oz⟩
 obtain rfl:n=k:=by omega
 rw [List.take_of_length_le O] at hO ⊢;refine Zl<|Zv<|Zv<|Zd<|Zt<|Sr<|Zqm Z Z<|At Z Z<|Zo<|?_;exact rR [] _ (.t1 Z) Z I1.1 fun _ hS2=>Cz53
def quh{D d:Nat}(h:∀ (L:Hl) (s:World) (A:Option Addr) (n c:Nat) (xs:List Stm) (lp lv:Nat),Stms d s A n c xs→qdP xs lv=true→lp≤lv→qbr xs≤4000000→AC Tryz.prog D 27 [.slice A n c,.int .i64 (lp:Int)] L s fun v L' s'=>∃ M',L'=M'++L∧∀ s2,Le D s' s2→Pub M' s2→∃ A' n' c',v=.slice A' n' c'∧Rns s2 A' n' c' (rss xs lp)):RNS D d:=fun L s A n c xs lp lv hA h1 h2 h3=>AC.pubW (h L s A n c xs lp lv hA h1 h2 h3)
def rns(D:Nat):∀ d,RNS D d
 | 0=>quh (qpb D 0 (fun e h=>by omega))
 | d+1=>quh (qpb D (d+1) (fun e h=>(show d=e by omega)▸rns D d))
end Go.Proofs.YtflplmcjbppfcaaGreatDoor
