/- Part 6. -/
import Derived.Test.YtjindleklapakaaGreatDoorM25x5
set_option linter.unusedVariables false
set_option linter.unusedSimpArgs false
set_option linter.unnecessarySimpa false
set_option maxRecDepth 100000
set_option maxHeartbeats 8000000
namespace Go.Proofs.YtjindleklapakaaGreatDoor
open Go.Proofs.Tryz
open Go.FL
attribute [local irreducible] JC JO JA JB qa7 qaP qdj AC fill CellsAt QE Ev Mid
theorem qsF(D:Nat)(L:Hl)(s:World)(l:List UInt8):AC prog D 15 [St l] L s fun v L' _=>v=.tuple #[.int .u32 (qsm l),.agg #[.int .i64 (qpQ l).1,.int .i64 (qpQ l).2]]∧L=L':=by
 refine qai (fn:=f15) qaG func15 V Z ntmps15 Z (rs:=[.tmp 2,.cell 3 29]) Z [(0,_)] Z<|Sr<|Zqa Z Z<|qag Z [_,_] Z Z ?_
 intro β1 s1 h1
 refine Nt<|Zs<|Sr<|Zqm Z Z<|Jc Z Z Z (qen D _ _ _) ?_
 rintro _ _ s2 h2 ⟨rfl,rfl⟩
 refine qcQ Z Z<|Nt<|?_
 refine qbU Z (fun c3=>?_) (fun c3=>?_)
 ·
  have hlb:=c3
  refine Sr<|Jc Z Z Z (qbr D _ _ _ _) ?_
  rintro _ _ s4 h4 ⟨rfl,rfl⟩
  refine Zqa Z Z<|Wt 0 [_,_] Y9<|Nt<|Zo<|Zu<|?_
  refine rR [_] L (.tmp Z (.agg (us:=[_,_]) 0 Z Z Z Z Z (.nil))) Z (h1.t h2|>.t h4) fun _ hS2=>?_
  first
    | (rw [qsm,qpQ,if_neg (by rw [hlb];decide),if_neg (by rw [hlb];decide)];exact ⟨rfl,rfl⟩)
    | (rw [qsm,qpQ,if_pos hlb,if_pos hlb,hS];exact ⟨rfl,rfl⟩)
 have hlb:=c3
 have hl6:=(qfD hlb).2
 refine Zk<|Zt<|Sr<|At Z Z<|Zs<|Sr<|Zqm Z Z<|qtu Z Z Z Z Z Z Z O Z ?_
 intro Ab cb1 s5 h5 hbt
 refine Ws Y4<|Zqm Z Z<|Nt<|Zp<|qaQ (γ:=Nat×Int) (fun g=>[(2,_),(3,_),(4,.int .u32 g.2),(13,_),(14,_),(15,.int .i64 (g.1:Int))]) (fun _=>_) (fun g tw=>Le D s5 tw∧(g.1≤l.length∧keyV l=(l.drop g.1).foldl qge g.2)) (fun g=>l.length - g.1) (fun _ _ _ h hl=>⟨h.1.trans hl,h.2⟩) (0,0) (.c6 Z Z Z Z Z Z (.nil _)) Z ⟨Le.refl _,⟨Nat.zero_le _,Z⟩⟩ ?_
 intro g s6 I6
 obtain ⟨k,key⟩:=g
 obtain ⟨hk0,hS⟩:=I6.2
 simp only at hk0 hS
 dsimp only
 refine Sr<|qbY Z Z Z<|Nt<|Zs<|?_
 refine qab Z (fun c7=>?_) (fun c7=>?_)
 ·
  have hk:k < l.length:=by omega
  obtain ⟨b,off,ch,rfl,hch,hcc⟩:=Bts.at_ (hbt.le I6.1) hk
  refine Zk<|Zt<|Zs<|Zp<|Sr<|qae (qaX Z Z Z Z Z Z hk) Z<|qae (qaq Z Z Z (hcc.le (Lr D)) Z) Z<|At Z Z<|Sr<|Zqm Z Z<|qae (qeG Z Z) Z<|qae (qb9 Z Z Z Z Z) Z<|qae (qav (qdt Z Z) (qtT ch)) Z<|At Z Z<|Zs<|Sr<|Zqm Z Z<|qpt Z Z Z<|Nt<|?_
  refine qab Z (fun c8=>?_) (fun c8=>?_)
  ·
   refine Zr<|Zqm Z Z<|qae (qeG Z Z) Z<|qae (qb9 Z Z Z Z Z) Z<|qae (qav (qdt Z Z) (qtP ch)) Z<|At Z Z<|Zr<|Zqm Z Z<|qae (qfL Z Z) Z<|Zqm Z Z<|qae (qav (qdt Z Z) (show Value.int .u32 (IntKind.u32.wrap (IntKind.u32.wrap (key * 37)+_))=.int .u32 (qge key ch) by rw [qc9,qc9,qge,qub];first | (rw [if_pos As]) | (rw [if_neg As]))) Z<|Zqa Z Z<|Zn<|Zb<|Zt<|Zr<|qaW Z Z Z (w64 O O)<|Zqm Z Z<|Zn<|?_
   refine qaa ⟨(k+1,qge key ch),[],kp,Z,⟨I6.1,⟨by simp only;omega,by simp only;rw [hS,qmj hch]⟩⟩,Oz⟩
  refine Zk<|Zt<|Zr<|Zqm Z Z<|qae (qfL Z Z) Z<|Zqm Z Z<|qae (qav (qdt Z Z) (show Value.int .u32 (IntKind.u32.wrap (IntKind.u32.wrap (key * 37)+_))=.int .u32 (qge key ch) by rw [qc9,qc9,qge,qub];first | (rw [if_pos As]) | (rw [if_neg As]))) Z<|Zqa Z Z<|Zn<|Zb<|Zt<|Zr<|qaW Z Z Z (w64 O O)<|Zqm Z Z<|Zn<|?_
  refine qaa ⟨(k+1,qge key ch),[],kp,Z,⟨I6.1,⟨by simp only;omega,by simp only;rw [hS,qmj hch]⟩⟩,Oz⟩
 rw [List.drop_eq_nil_of_le O,List.foldl_nil] at hS
 refine Zl<|Zv<|Zv<|Zd<|Zt<|Sr<|Zqm Z Z<|qae (qal [] [_,_] Z Z Z Z Z Z) Z<|Zqa Z Z<|Wt 0 [_,_] Y9<|Nt<|Zo<|?_
 refine rR [_] L (.tmp Z (.agg (us:=[_,_]) 0 Z Z Z Z Z (.nil))) Z (h1.t h2|>.t h5|>.t I6.1) fun _ hS2=>?_
 first
   | (rw [qsm,qpQ,if_neg (by rw [hlb];decide),if_neg (by rw [hlb];decide)];exact ⟨rfl,rfl⟩)
   | (rw [qsm,qpQ,if_pos hlb,if_pos hlb,hS];exact ⟨rfl,rfl⟩)
def RevP{α:Type}(l l':List α)(i:Nat):Prop:=l'.length=l.length∧∀ k,k < l.length→l'[k]?=if k < i∨l.length≤k+i then l[l.length - 1 - k]? else l[k]?
theorem RevP.init{α:Type}(l:List α):RevP l l 0:=⟨rfl,fun k hk=>by rw [if_neg O]⟩
theorem RevP.step{α:Type}{l l':List α}{i:Nat}{x y:α}(h:RevP l l' i)(hi:i < l.length - 1 - i)(hx:l'[i]?=some x)(hy:l'[l.length - 1 - i]?=some y):RevP l ((l'.set i y).set (l.length - 1 - i) x) (i+1):=by
  obtain ⟨h1,h2⟩:=h
  refine ⟨by simp [h1],fun k hk=>?_⟩
  have e1:=h2 i O
  have e2:=h2 (l.length - 1 - i) O
  rw [if_neg O,hx] at e1
  rw [if_neg O,hy] at e2
  by_cases hk1:k=l.length - 1 - i
  · subst hk1
    rw [List.getElem?_set_self (by simp;omega),if_pos O,show l.length - 1 - (l.length - 1 - i)=i by omega]
    exact e1
  · rw [List.getElem?_set_ne O]
    by_cases hk2:k=i
    · subst hk2
      rw [List.getElem?_set_self O,if_pos O]
      exact e2
    · rw [List.getElem?_set_ne O,h2 k hk]
      by_cases hc:k < i∨l.length≤k+i
      · rw [if_pos hc,if_pos O]
      · rw [if_neg hc,if_neg O]
theorem RevP.done{α:Type}{l l':List α}{i:Nat}(h:RevP l l' i)(hi:¬ ((i:Int) < (l.length:Int) - 1 - i)):l'=l.reverse:=by
  apply List.ext_getElem?
  intro k
  by_cases hk:k < l.length
  · rw [h.2 k hk,List.getElem?_reverse hk]
    by_cases hc:k < i∨l.length≤k+i
    · rw [if_pos hc]
    · rw [if_neg hc];congr 1;omega
  · rw [List.getElem?_eq_none (by rw [h.1];omega),List.getElem?_eq_none (by simp;omega)]
theorem qhA{l:List UInt8}{y:List Value}{p:Nat}{c:UInt8}(h:l[p]?=some c):nth (bv l++y) (0+p)=some (.int .u8 (c.toNat:Int)):=by
 rw [qeg,Nat.zero_add,List.getElem?_append_left (by rw [qeF];exact (List.getElem?_eq_some_iff.1 h).1)];simp [bv,h]
theorem qhq{l:List UInt8}{y:List Value}{p:Nat}(c:UInt8)(h:p < l.length):qbz (bv l++y) (0+p) [.int .u8 (c.toNat:Int)]=bv (l.set p c)++y:=by
 rw [Nat.zero_add,qdN _ _ _ (by simp [qeF];omega)]
 apply List.ext_getElem?
 intro k
 simp only [bv,List.length_singleton,List.map_set]
 rw [List.append_assoc,List.take_append_of_le_length (by simp;omega),List.drop_append_of_le_length (by simp;omega),List.set_eq_take_append_cons_drop,if_pos (by simp;omega)]
 simp
theorem qhf{l:List UInt8}{y:List Value}{p:Nat}(h:p < l.length):Nat.ble (0+p+1) (bv l++y).length=true:=by
 rw [Nat.ble_eq];simp [qeF];omega
theorem qkL(D:Nat)(L:Hl)(s:World)(M:Hl)(A:Option Addr)(c:Nat)(l:List UInt8)(hO:FL.Own 5 1 M (.slice A l.length c) l.length (bv l))(hl:l.length≤1000000):AC prog D 47 [.slice A l.length c] (M++L) s fun v L' _=>v=.tuple #[]∧∃ M',L'=M'++L∧FL.Own 5 1 M' (.slice A l.length c) l.length (bv l.reverse):=by
 refine qai (fn:=f47) qaG func47 V Z ntmps47 Z (rs:=[]) Z [(0,_)] Z<|Sr<|Zqm Z Z<|Ws Y4<|qeW Z Z Z (w64 O O)<|Zqa Z Z<|At Z Z<|Zp<|?_
 refine qaQ (γ:=Nat×Hl×List UInt8) (fun g=>[(0,_),(2,.int .i64 (g.1:Int)),(3,.int .i64 ((l.length:Int) - 1 - (g.1:Int)))]) (fun g=>g.2.1++L) (fun g tw=>Le D s tw∧(FL.Own 5 1 g.2.1 (.slice A l.length c) l.length (bv g.2.2)∧RevP l g.2.2 g.1∧g.1≤l.length)) (fun g=>l.length - g.1) (fun _ _ _ h hl=>⟨h.1.trans hl,h.2⟩) (0,M,l) (.c2 Z Z (.cons (congrArg some (congrArg (Value.int .i64) (by simp))) (.nil _))) Z ⟨Le.refl _,⟨hO,RevP.init l,Nat.zero_le _⟩⟩ ?_
 intro g s1 I1
 obtain ⟨k,Mj,lj⟩:=g
 obtain ⟨hOj,hRv,hk0⟩:=I1.2
 simp only at hOj hRv hk0
 dsimp only
 refine Zs<|Sr<|Zqm Z Z<|Zqm Z Z<|qbY Z Z Z<|Nt<|?_
 refine qab Z (fun c2=>?_) (fun c2=>?_)
 ·
  have hj:(k:Int) < (l.length:Int) - 1 - k:=c2
  obtain ⟨bw,yw,hAw,hMw,g1,g2,g3,g4⟩:=ql7 hOj O
  subst hMw
  subst hAw
  obtain ⟨x,hx⟩:∃ x,lj[k]?=some x:=⟨_,List.getElem?_eq_getElem (by rw [hRv.1];omega)⟩
  obtain ⟨y,hy⟩:∃ y,lj[l.length - 1 - k]?=some y:=⟨_,List.getElem?_eq_getElem (by rw [hRv.1];omega)⟩
  have hll:=hRv.1
  simp only [cQ9,nQ9]
  rw [show ((l.length:Int) - 1 - (k:Int))=((l.length - 1 - k:Nat):Int) by omega]
  refine Zk<|Zt<|Zs<|Zp<|qaD qaf 16 Z [0] (by intro x hx;exact qan hx) ?_
  intro s3 h3
  refine za 0 Z (qao Z) Z<|za 1 Z (qao Z) Z<|za 2 Z (qao Z) Z<|za 3 Z (qao Z) Z<|za 4 Z (qao Z) Z<|za 5 Z (qao Z) Z<|za 6 Z (qaX Z Z Z Z Z Z O) Z<|za 8 Z (qao Z) Z<|za 9 Z (qao Z) Z<|za 10 Z (qaX Z Z Z Z Z Z O) Z ?_
  refine qcg 7 11 V ?_ ?_
  ·
   refine qb1 Z Tt (qbL 0 Z Z Z Z (qhA hy)) Z<|qah 11 V<|qb1 Z Tt (qbL 0 Z Z Z Z (qhA hx)) Z<|za 12 Z (qaX Z Z Z Z Z Z O) Z<|qah 13 V<|qa9 Z Tt 0 _ Z Z Z Z Z (qhf O) Z (qhq y O) Z (fun x hx=>hx)<|za 14 Z (qaX Z Z Z Z Z Z O) Z<|qah 15 V<|qa9 Z Tt 0 _ Z Z Z Z Z (qhf (by rw [List.length_set];omega)) Z (qhq x (by rw [List.length_set];omega)) Z (fun x hx=>hx)<|qac V<|Zb<|Zt<|Zr<|Zqm Z Z<|qaW Z Z Z (w64 O O)<|Zqm Z Z<|qeW Z Z Z (w64 O O)<|Zqa Z Z<|Zqa Z Z<|Zn<|?_
   refine qaa ⟨(k+1,[(bw,cb (bv ((lj.set k y).set (l.length - 1 - k) x)++yw) 5)],(lj.set k y).set (l.length - 1 - k) x),[],(.c2 Z Z (.cons (congrArg some (congrArg (Value.int .i64) O)) (.nil _))),Z,⟨(I1.1.t h3),⟨qhd (by simp only [qeF,List.length_set];exact hll) (by simp only [qeF,List.length_set];rw [qeF] at g2;exact g2) g3 g4,hRv.step O hx hy,by simp only;omega⟩⟩,Oz⟩
  refine qb1 Z Tt (qbL 0 Z Z Z Z (qhA hx)) Z<|qah 7 V<|qb1 Z Tt (qbL 0 Z Z Z Z (qhA hy)) Z<|za 12 Z (qaX Z Z Z Z Z Z O) Z<|qah 13 V<|qa9 Z Tt 0 _ Z Z Z Z Z (qhf O) Z (qhq y O) Z (fun x hx=>hx)<|za 14 Z (qaX Z Z Z Z Z Z O) Z<|qah 15 V<|qa9 Z Tt 0 _ Z Z Z Z Z (qhf (by rw [List.length_set];omega)) Z (qhq x (by rw [List.length_set];omega)) Z (fun x hx=>hx)<|qac V<|Zb<|Zt<|Zr<|Zqm Z Z<|qaW Z Z Z (w64 O O)<|Zqm Z Z<|qeW Z Z Z (w64 O O)<|Zqa Z Z<|Zqa Z Z<|Zn<|?_
  refine qaa ⟨(k+1,[(bw,cb (bv ((lj.set k y).set (l.length - 1 - k) x)++yw) 5)],(lj.set k y).set (l.length - 1 - k) x),[],(.c2 Z Z (.cons (congrArg some (congrArg (Value.int .i64) O)) (.nil _))),Z,⟨(I1.1.t h3),⟨qhd (by simp only [qeF,List.length_set];exact hll) (by simp only [qeF,List.length_set];rw [qeF] at g2;exact g2) g3 g4,hRv.step O hx hy,by simp only;omega⟩⟩,Oz⟩
 refine Zl<|Zv<|Zv<|Zd<|?_
 refine qat [] _ (.inl Z) (.nil) Z I1.1 fun _ hS2=>?_
 exact ⟨rfl,_,rfl,by rw [← hRv.done O];exact hOj⟩
theorem qjg(D:Nat)(L:Hl)(s:World)(M:Hl)(A:Option Addr)(c:Nat)(l:List UInt8)(hO:FL.Own 5 1 M (.slice A l.length c) l.length (bv l))(hl:l.length≤1000000):AC prog D 47 [.slice A l.length c] (M++L) s fun v L' _=>∃ M',L'=M'++L∧(v=.tuple #[]∧FL.Own 5 1 M' (.slice A l.length c) l.length (bv l.reverse)):=
 (qkL D L s M A c l hO hl).mono fun v L' s' _ ⟨h1,M',h2,h3⟩=>⟨M',h2,h1,h3⟩
theorem qhB(l:List UInt8)(c:UInt8):bv (l++[c])=bv l++[.int .u8 (c.toNat:Int)]:=by simp [bv]
theorem qsY{n:Nat}{acc b:List UInt8}(h:nmF n acc=some b)(hn:n < 37 ^ 7):b.length≤acc.length+7:=by
  have key:∀ (k n:Nat) (acc:List UInt8),n < 37 ^ k→nmF n acc=some b→b.length≤acc.length+k:=by
    intro k
    induction k with
    | zero=>
        intro n acc hn h;obtain rfl:n=0:=by simpa using hn
        rw [qf0] at h;injection h with h;subst h;omega
    | succ k ih=>
      intro n acc hn h
      by_cases h0:n=0
      · subst h0;rw [qf0] at h;injection h with h;subst h;omega
      · by_cases h1:n % 37=0
        · rw [qhF h0 h1] at h;cases h
        · rw [qeU h0 h1] at h
          have:=ih (n / 37) _ (by rw [Nat.pow_succ] at hn;omega) h
          simp at this;omega
  exact key 7 n acc hn h
theorem qs9{l:List Int}{x:Int}(h:∀ y∈l,U32 y)(hx:U32 x):∀ y∈l++[x],U32 y:=fun y hy=>by
 rcases List.mem_append.1 hy with h1 | h1
 · exact h y h1
 · rw [List.mem_singleton.1 h1];exact hx
theorem qmO{n sz:Nat}{c:UInt8}(h:n < 128 ^ sz):n+c.toNat % 128 * 128 ^ sz < 128 ^ (sz+1):=by
 rw [Nat.pow_succ]
 have h1:c.toNat % 128 * 128 ^ sz≤127 * 128 ^ sz:=Nat.mul_le_mul_right _ O
 omega
theorem qtZ{w:Nat}(h:w < 128):Value.int .u8 (IntKind.u8.wrap (w:Int))=.int .u8 ((UInt8.ofNat w).toNat:Int):=by
 rw [IntKind.wrap_u8];congr 1;try simp
theorem qr3{l:List Int}{k:Nat}{x:Int}(h:l[k]?=some x):qhn (l.drop k)=grp x.toNat++qhn (l.drop (k+1)):=by
 obtain ⟨hk,rfl⟩:=List.getElem?_eq_some_iff.1 h
 rw [List.drop_eq_getElem_cons hk];simp only [qhn,List.map_cons,List.flatten_cons]
theorem qdH{n:Nat}(h:nmF n []=none):qhW n=[]∧qhl n=(6,-1):=by unfold qhW qhl;rw [h];exact ⟨rfl,rfl⟩
theorem qfp{n:Nat}{b:List UInt8}(h:nmF n []=some b)(hl:qaE b.reverse=false):qhW n=[]∧qhl n=(6,-1):=by unfold qhW qhl;rw [h];simp [hl]
theorem qeN{n:Nat}{b:List UInt8}(h:nmF n []=some b)(hl:qaE b.reverse=true):qhW n=b.reverse∧qhl n=(0,0):=by unfold qhW qhl;rw [h];simp [hl]
theorem qbP{b:List UInt8}{f:Int×Int}(h:qkV b=.inl f):qr2 b=[]∧qnm b=f:=by unfold qr2 qnm;rw [h];exact ⟨rfl,rfl⟩
theorem qjm{b:List UInt8}{l:List Int}(h:qkV b=.inr l):qr2 b=l∧qnm b=(0,0):=by unfold qr2 qnm;rw [h];exact ⟨rfl,rfl⟩
theorem qcf{b:List UInt8}(h:327680 < b.length):qkV b=.inl (3,-1):=by rw [qkV,if_pos h]
theorem qbK{b:List UInt8}{f:Int×Int}(h:¬ 327680 < b.length)(h2:upF 0 [] b=.inl f):qkV b=.inl f:=by rw [qkV,if_neg h,h2]
theorem qfB{b:List UInt8}{l:List Int}(h:¬ 327680 < b.length)(h2:upF 0 [] b=.inr l)(h3:65536 < l.length):qkV b=.inl (14,-1):=by rw [qkV,if_neg h,h2];simp only;rw [if_pos h3]
theorem qgh{b:List UInt8}{l:List Int}(h:¬ 327680 < b.length)(h2:upF 0 [] b=.inr l)(h3:¬ 65536 < l.length):qkV b=.inr l:=by rw [qkV,if_neg h,h2];simp only;rw [if_neg h3]
theorem qre(w:Nat):1≤(grp w).length:=by
 by_cases h:w < 128
 · rw [qc6 h];simp
 · rw [qg7 h];simp
theorem qq0(D:Nat)(L:Hl)(s:World)(key:Nat)(hkey:key < 4294967296):AC prog D 16 [.int .u32 (key:Int)] L s fun v L' _=>v=.tuple #[St (qhW key),.agg #[.int .i64 (qhl key).1,.int .i64 (qhl key).2]]∧L=L':=by
 refine qai (fn:=f16) qaG func16 V Z ntmps16 Z (rs:=[.tmp 2,.cell 3 29]) Z [(0,_)] Z<|Sr<|Zqa Z Z<|qag Z [_,_] Z Z ?_
 intro β1 s1 h1
 refine Nt<|Sr<|At Z Z<|Zs<|Sr<|Zqm Z Z<|At Z Z<|Zp<|?_
 refine qaQ (γ:=Nat×Value×Hl×List UInt8) (fun g=>[(2,_),(3,_),(4,g.2.1),(5,.int .u32 (g.1:Int))]) (fun g=>(β1,cb [.int .i64 0,.int .i64 0] 29)::(g.2.2.1++L)) (fun g tw=>Le D s1 tw∧(FL.Own 5 1 g.2.2.1 g.2.1 g.2.2.2.length (bv g.2.2.2)∧nmF key []=nmF g.1 g.2.2.2∧g.2.2.2.length+g.1≤key)) (fun g=>g.1) (fun _ _ _ h hl=>⟨h.1.trans hl,h.2⟩) (key,.slice none 0 0,[],[]) (.c4 Z Z Z Z (.nil _)) Z ⟨Le.refl _,⟨Own.nil,Z,by simp⟩⟩ ?_
 intro g s2 I2
 obtain ⟨n,vb,Mb,acc⟩:=g
 obtain ⟨hO,hS,hsz⟩:=I2.2
 simp only at hO hS hsz
 dsimp only
 refine Zs<|Sr<|Zqm Z Z<|qdP Z Z Z<|Nt<|?_
 refine qab Z (fun c3=>?_) (fun c3=>?_)
 ·
  have hn0:n≠0:=by omega
  refine Zk<|Zt<|Zs<|Zp<|Sr<|Zqm Z Z<|qae (qav (qgY Z Z Dc) (qm3 n)) Z<|At Z Z<|Zp<|Sr<|Zqm Z Z<|qaJ Z Z Z<|At Z Z<|?_
  refine qab Z (fun c4=>?_) (fun c4=>?_)
  ·
   have hd0:n % 37=0:=by omega
   refine Sr<|Jc Z Z Z (qbr D _ _ _ _) ?_
   rintro _ _ s5 h5 ⟨rfl,rfl⟩
   refine Zqa Z Z<|Wt 0 [_,_] Y9<|Nt<|Zo<|Zc<|Zc<|Zu<|Zu<|Zc<|Zu<|?_
   refine rR (_::Mb) L (.tmp Z (.agg (us:=[_,_]) 0 Z Z Z Z Z (.nil))) Z (h1.t I2.1|>.t h5) fun _ hS2=>?_
   first
     | (rw [qhF hn0 hd0] at hS;rw [(qdH hS).1,(qdH hS).2];exact ⟨rfl,rfl⟩)
     | (rw [(qfp hS hlb).1,(qfp hS hlb).2];exact ⟨rfl,rfl⟩)
     | (rw [(qeN hS hlb).1,(qeN hS hlb).2];exact ⟨rfl,rfl⟩)
  have hd0:n % 37≠0:=by omega
  refine Sr<|Zqm Z Z<|qpt Z Z Z<|At Z Z<|?_
  refine qab Z (fun c6=>?_) (fun c6=>?_)
  ·
   have hd1:n % 37≤26:=by omega
   refine Zr<|Zqm Z Z<|Zqm Z Z<|qae (qeG Z Z) Z<|qae (qb9 Z Z Z Z Z) Z<|qae (qav (qdt Z Z) (qt6 hd0 hd1)) Z<|qa0 [(_,_)] [_] Z Z Z Z Z Z Z Z Z ?_
   intro βn s7 h7 hcb
   refine qbO (sz:=1) [_] Mb L Z Z Z Z Z Z Z hO (Row.of_cells (hcb.le (Lr D)) Z Z) ⟨by simp [ti5];omega,by omega⟩ Z ?_
   intro v1 M1 s8 h8 o1
   obtain ⟨Av1,cv1,rfl,_,_⟩:=Own.slice o1
   simp only [cQ9,nQ9]
   refine Zqa Z Z<|Zn<|Zb<|Zb<|Zt<|Zr<|Zqm Z Z<|qae (qav (qed Z Z Dc) (qjL O)) Z<|Zqa Z Z<|Zn<|?_
   refine qaa ⟨(n / 37,.slice Av1 (acc.length+1) cv1,M1,acc++[qpx (n % 37)]),[],kp,Z,⟨(I2.1.t h7|>.t h8),⟨by simp only [List.length_append,List.length_cons,List.length_nil,qhB];exact o1,by simp only;rw [hS,qeU O hd0],by simp only [List.length_append,List.length_cons,List.length_nil];omega⟩⟩,Oz⟩
  have hd1:¬ n % 37≤26:=by omega
  refine Zr<|Zqm Z Z<|Zqm Z Z<|qae (qeG Z Z) Z<|qae (qb9 Z Z Z Z Z) Z<|qae (qav (qdt Z Z) (qt1 hd1 O)) Z<|qa0 [(_,_)] [_] Z Z Z Z Z Z Z Z Z ?_
  intro βn s9 h9 hcb
  refine qbO (sz:=1) [_] Mb L Z Z Z Z Z Z Z hO (Row.of_cells (hcb.le (Lr D)) Z Z) ⟨by simp [ti5];omega,by omega⟩ Z ?_
  intro v1 M1 s10 h10 o1
  obtain ⟨Av1,cv1,rfl,_,_⟩:=Own.slice o1
  simp only [cQ9,nQ9]
  refine Zqa Z Z<|Zn<|Zb<|Zb<|Zt<|Zr<|Zqm Z Z<|qae (qav (qed Z Z Dc) (qjL O)) Z<|Zqa Z Z<|Zn<|?_
  refine qaa ⟨(n / 37,.slice Av1 (acc.length+1) cv1,M1,acc++[qpx (n % 37)]),[],kp,Z,⟨(I2.1.t h9|>.t h10),⟨by simp only [List.length_append,List.length_cons,List.length_nil,qhB];exact o1,by simp only;rw [hS,qeU O hd0],by simp only [List.length_append,List.length_cons,List.length_nil];omega⟩⟩,Oz⟩
 have hn0:n=0:=by omega
 subst hn0
 rw [qf0] at hS
 have hal:=qsY hS O
 simp only [List.length_nil] at hal
 obtain ⟨Ab,cb1,rfl,_,_⟩:=Own.slice hO
 refine Zl<|Zv<|Zv<|Zd<|Zt<|Sr<|Zqm Z Z<|Jc Z Z Z (AC.mid [_] Mb L (qjg D _ _ Mb Ab cb1 acc hO O)) ?_
 rintro _ _ s11 h11 ⟨M2,rfl,rfl,hO2⟩
 simp only [cQ9,nQ9]
 refine Nt<|Zs<|Zs<|qhx [_] M2 _ ?_
 intro s12 h12 hpub12
 simp only [cQ9,nQ9]
 have hbt:=Own.bts hO2 hpub12
 refine Zr<|Zqm Z Z<|qae (qiL Z Z Z Z Z Z Z (hbt.le (Lr D))) Z<|Jc Z Z Z (qen D _ _ _) ?_
 rintro _ _ s13 h13 ⟨rfl,rfl⟩
 refine qcQ Z Z<|Nt<|?_
 refine qbU Z (fun c14=>?_) (fun c14=>?_)
 ·
  have hlb:=c14
  refine Sr<|Jc Z Z Z (qbr D _ _ _ _) ?_
  rintro _ _ s15 h15 ⟨rfl,rfl⟩
  refine Zqa Z Z<|Wt 0 [_,_] Y9<|Nt<|Zo<|Zu<|?_
  refine rR [_] L (.tmp Z (.agg (us:=[_,_]) 0 Z Z Z Z Z (.nil))) Z (h1.t I2.1|>.t h11|>.t h12|>.t h13|>.t h15) fun _ hS2=>?_
  first
    | (rw [qhF hn0 hd0] at hS;rw [(qdH hS).1,(qdH hS).2];exact ⟨rfl,rfl⟩)
    | (rw [(qfp hS hlb).1,(qfp hS hlb).2];exact ⟨rfl,rfl⟩)
    | (rw [(qeN hS hlb).1,(qeN hS hlb).2];exact ⟨rfl,rfl⟩)
 have hlb:=c14
 refine Zk<|Zt<|Sr<|Zqm Z Z<|qae (qiL Z Z Z Z Z Z Z (hbt.le h13)) Z<|qae (qal [] [_,_] Z Z Z Z Z Z) Z<|Zqa Z Z<|Wt 0 [_,_] Y9<|Nt<|Zo<|?_
 refine rR [_] L (.tmp Z (.agg (us:=[_,_]) 0 Z Z Z Z Z (.nil))) Z (h1.t I2.1|>.t h11|>.t h12|>.t h13) fun _ hS2=>?_
 first
   | (rw [qhF hn0 hd0] at hS;rw [(qdH hS).1,(qdH hS).2];exact ⟨rfl,rfl⟩)
   | (rw [(qfp hS hlb).1,(qfp hS hlb).2];exact ⟨rfl,rfl⟩)
   | (rw [(qeN hS hlb).1,(qeN hS hlb).2];exact ⟨rfl,rfl⟩)
theorem qof(D:Nat)(L:Hl)(s:World)(A:Option Addr)(n c:Nat)(l:List Int)(hA:Wds s A n c l):AC prog D 17 [.slice A n c] L s fun v L' s'=>∃ M',L'=M'++L∧∀ s2,Le D s' s2→Pub M' s2→∃ A1 n1 c1,v=.tuple #[.slice A1 n1 c1,.agg #[.int .i64 (qhJ l).1,.int .i64 (qhJ l).2]]∧Bts s2 A1 n1 c1 (qiz l):=by
 have hn:=hA.1
 have hu:=hA.u32
 refine qai (fn:=f17) qaG func17 V Z ntmps17 Z (rs:=[.tmp 2,.cell 3 29]) Z [(0,_)] Z<|Sr<|Zqa Z Z<|qag Z [_,_] Z Z ?_
 intro β1 s1 h1
 refine Nt<|Zs<|Sr<|Zqm Z Z<|Ws Y4<|qdP Z Z Z<|Nt<|?_
 refine qab Z (fun c2=>?_) (fun c2=>?_)
 ·
  have hlong:65536 < l.length:=by omega
  refine Sr<|Jc Z Z Z (qbr D _ _ _ _) ?_
  rintro _ _ s3 h3 ⟨rfl,rfl⟩
  refine Zqa Z Z<|Wt 0 [_,_] Y9<|Nt<|Zo<|Zu<|?_
  refine rR [_] _ (.tmp Z (.agg (us:=[_,_]) 0 Z Z Z Z Z (.nil))) Z (h1.t h3) fun _ hS2=>?_
  first
    | (refine ⟨[],rfl,fun s2 hs2 hp=>⟨none,0,0,?_,?_⟩⟩
       · rw [qhJ,if_pos hlong];rfl
       · rw [qiz,if_pos hlong];exact Bts.nil _ _ _ O)
    | (refine ⟨Mo,rfl,fun s2 hs2 hp=>⟨Ao,out.length,co,?_,?_⟩⟩
       · rw [qhJ,if_neg hlong];rfl
       · rw [qiz,if_neg hlong,hS];simp only [qhn,List.map_nil,List.flatten_nil,List.append_nil];exact Own.bts hO hp)
 have hlong:¬ 65536 < l.length:=by omega
 refine Zk<|Zt<|Sr<|At Z Z<|Zs<|Sr<|Zqm Z Z<|Ws Y4<|Zqm Z Z<|Nt<|Zp<|?_
 refine qaQ (γ:=Nat×Value×Hl×List UInt8) (fun g=>[(2,_),(3,_),(4,g.2.1),(11,_),(12,_),(13,.int .i64 (g.1:Int))]) (fun g=>(β1,cb [.int .i64 0,.int .i64 0] 29)::(g.2.2.1++L)) (fun g tw=>Le D s1 tw∧(g.1≤n∧FL.Own 5 1 g.2.2.1 g.2.1 g.2.2.2.length (bv g.2.2.2)∧qhn l=g.2.2.2++qhn (l.drop g.1)∧g.2.2.2.length≤5 * g.1)) (fun g=>n - g.1) (fun _ _ _ h hl=>⟨h.1.trans hl,h.2⟩) (0,.slice none 0 0,[],[]) (.c6 Z Z Z Z Z Z (.nil _)) Z ⟨Le.refl _,⟨Nat.zero_le _,Own.nil,Z,Nat.le_refl _⟩⟩ ?_
 intro g s4 I4
 obtain ⟨k,vo,Mo,out⟩:=g
 obtain ⟨hk0,hO,hS,hol⟩:=I4.2
 simp only at hk0 hO hS hol
 dsimp only
 refine Sr<|qbY Z Z Z<|Nt<|Zs<|?_
 refine qab Z (fun c5=>?_) (fun c5=>?_)
 ·
  have hk:k < n:=by omega
  obtain ⟨b,off,x,rfl,hx,hcx,hux⟩:=Wds.at_ (hA.le (h1.t I4.1)) hk
  obtain ⟨X,rfl⟩:=Int.eq_ofNat_of_zero_le hux.1
  have hX:X < 4294967296:=by have:=hux.2;omega
  refine Zk<|Zt<|Zs<|Zp<|Sr<|qae (qaX Z Z Z Z Z Z hk) Z<|qae (qaq Z Z Z (hcx.le (Lr D)) Z) Z<|At Z Z<|Zs<|Zp<|?_
  refine qaQ (γ:=Nat×Value×Hl×List UInt8) (fun g=>[(2,_),(3,_),(4,g.2.1),(6,.int .u32 (g.1:Int)),(11,_),(12,_),(13,_)]) (fun g=>(β1,cb [.int .i64 0,.int .i64 0] 29)::(g.2.2.1++L)) (fun g tw=>Le D s4 tw∧(FL.Own 5 1 g.2.2.1 g.2.1 g.2.2.2.length (bv g.2.2.2)∧out++grp X=g.2.2.2++grp g.1∧g.1 < 4294967296)) (fun g=>g.1) (fun _ _ _ h hl=>⟨h.1.trans hl,h.2⟩) (X,vo,Mo,out) (.c6 Z Z Z Z Z Z (.cons Z (.nil _))) Z ⟨Le.refl _,⟨hO,Z,by simp only;omega⟩⟩ ?_
  intro g s6 I6
  obtain ⟨w,v1,M1,out1⟩:=g
  obtain ⟨hO1,hG1,hwl⟩:=I6.2
  simp only at hO1 hG1 hwl
  dsimp only
  have hln:=congrArg List.length hG1
  simp only [List.length_append] at hln
  have hgx:=qq9 hX
  have hgp:=qre w
  refine Zs<|Sr<|Zqm Z Z<|qgW Z Z Z<|Nt<|?_
  refine qab Z (fun c7=>?_) (fun c7=>?_)
  ·
   have hw:¬ w < 128:=by omega
   refine Zk<|Zt<|Zs<|Zp<|Zr<|Zqm Z Z<|Zqm Z Z<|qae (qb9 Z Z Z Z Z) Z<|qae (qeB Z Z qg8 (qk9 w)) Z<|qa0 [(_,_)] [_] Z Z Z Z Z Z Z Z Z ?_
   intro βn s8 h8 hcb
   refine qbO (sz:=1) [_] M1 L Z Z Z Z Z Z Z hO1 (Row.of_cells (hcb.le (Lr D)) Z Z) ⟨by simp [ti5];omega,by omega⟩ Z ?_
   intro v3 M3 s9 h9 o3
   obtain ⟨Av3,cv3,rfl,_,_⟩:=Own.slice o3
   simp only [cQ9,nQ9]
   refine Zqa Z Z<|Zn<|Zb<|Zt<|Zr<|Zqm Z Z<|qae (qeB Z Z qhZ (qn9 hwl)) Z<|Zqa Z Z<|Zn<|?_
   refine qaa ⟨(w / 128,.slice Av3 (out1.length+1) cv3,M3,out1++[UInt8.ofNat (w % 128+128)]),[],kp,Z,⟨(I6.1.t h8|>.t h9),⟨by simp only [List.length_append,List.length_cons,List.length_nil,qhB];exact o3,by simp only;rw [hG1,qg7 hw];simp,by simp only;omega⟩⟩,Oz⟩
  have hw:w < 128:=by omega
  refine Zl<|Zv<|Zv<|Zd<|Zt<|Zr<|Zqm Z Z<|Zqm Z Z<|qae (qav (qb9 Z Z Z Z Z) (qtZ hw)) Z<|qa0 [(_,_)] [_] Z Z Z Z Z Z Z Z Z ?_
  intro βn s10 h10 hcb
  refine qbO (sz:=1) [_] M1 L Z Z Z Z Z Z Z hO1 (Row.of_cells (hcb.le (Lr D)) Z Z) ⟨by simp [ti5];omega,by omega⟩ Z ?_
  intro v2 M2 s11 h11 o2
  obtain ⟨Av2,cv2,rfl,_,_⟩:=Own.slice o2
  simp only [cQ9,nQ9]
  refine Zqa Z Z<|Zn<|Zb<|Zt<|Zr<|qaW Z Z Z (w64 O O)<|Zqm Z Z<|Zn<|?_
  refine qaa ⟨(k+1,.slice Av2 (out1.length+1) cv2,M2,out1++[UInt8.ofNat w]),[],kp,Z,⟨(I4.1.t I6.1|>.t h10|>.t h11),⟨by simp only;omega,by simp only [List.length_append,List.length_cons,List.length_nil,qhB];exact o2,by simp only;rw [hS,qr3 hx,Int.toNat_natCast,← List.append_assoc,hG1,qc6 hw],by simp only [List.length_append,List.length_cons,List.length_nil];rw [qc6 hw] at hln;simp only [List.length_cons,List.length_nil] at hln;omega⟩⟩,Oz⟩
 rw [List.drop_eq_nil_of_le O] at hS
 obtain ⟨Ao,co,rfl,_,_⟩:=Own.slice hO
 refine Zl<|Zv<|Zv<|Zd<|Zt<|Sr<|Zqm Z Z<|qae (qal [] [_,_] Z Z Z Z Z Z) Z<|Zqa Z Z<|Wt 0 [_,_] Y9<|Nt<|Zo<|?_
 refine rR [_] _ (.tmp Z (.agg (us:=[_,_]) 0 Z Z Z Z Z (.nil))) Z (h1.t I4.1) fun _ hS2=>?_
 first
   | (refine ⟨[],rfl,fun s2 hs2 hp=>⟨none,0,0,?_,?_⟩⟩
      · rw [qhJ,if_pos hlong];rfl
      · rw [qiz,if_pos hlong];exact Bts.nil _ _ _ O)
   | (refine ⟨Mo,rfl,fun s2 hs2 hp=>⟨Ao,out.length,co,?_,?_⟩⟩
      · rw [qhJ,if_neg hlong];rfl
      · rw [qiz,if_neg hlong,hS];simp only [qhn,List.map_nil,List.flatten_nil,List.append_nil];exact Own.bts hO hp)
theorem qkm(D:Nat)(L:Hl)(s:World)(A:Option Addr)(n c:Nat)(l:List UInt8)(hA:Bts s A n c l):AC prog D 18 [.slice A n c] L s fun v L' s'=>∃ M',L'=M'++L∧∀ s2,Le D s' s2→Pub M' s2→∃ A1 n1 c1,v=.tuple #[.slice A1 n1 c1,.agg #[.int .i64 (qnm l).1,.int .i64 (qnm l).2]]∧Wds s2 A1 n1 c1 (qr2 l):=by
 have hn:=hA.1
 refine qai (fn:=f18) qaG func18 V Z ntmps18 Z (rs:=[.tmp 2,.cell 3 29]) Z [(0,_)] Z<|Sr<|Zqa Z Z<|qag Z [_,_] Z Z ?_
 intro β1 s1 h1
 refine Nt<|Zs<|Sr<|Zqm Z Z<|Ws Y4<|qdP Z Z Z<|Nt<|?_
 refine qab Z (fun c2=>?_) (fun c2=>?_)
 ·
  have hlong:327680 < l.length:=by omega
  refine Sr<|Jc Z Z Z (qbr D _ _ _ _) ?_
  rintro _ _ s3 h3 ⟨rfl,rfl⟩
  refine Zqa Z Z<|Wt 0 [_,_] Y9<|Nt<|Zo<|Zu<|?_
  refine rR [_] _ (.tmp Z (.agg (us:=[_,_]) 0 Z Z Z Z Z (.nil))) Z (h1.t h3) fun _ hS2=>?_
  first
    | (refine ⟨[],rfl,fun s2 hs2 hp=>⟨none,0,0,?_,?_⟩⟩
       · rw [(qbP (qcf hlong)).2];rfl
       · rw [(qbP (qcf hlong)).1];exact Wds.nil _ _ _ O)
    | (have hE:=qbP (qbK hlong (by rw [hS];exact qcL hne htr))
       refine ⟨[],Z,fun s2 hs2 hp=>⟨none,0,0,?_,?_⟩⟩
       · rw [hE.2];rfl
       · rw [hE.1];exact Wds.nil _ _ _ O)
    | (have hE:=qbP (qbK hlong (by rw [hS];exact qcL hne hfm))
       refine ⟨[],Z,fun s2 hs2 hp=>⟨none,0,0,?_,?_⟩⟩
       · rw [hE.2];rfl
       · rw [hE.1];exact Wds.nil _ _ _ O)
    | (have hE:=qbP (qbK hlong (by rw [hS];exact qep hne hUP h62))
       refine ⟨[],Z,fun s2 hs2 hp=>⟨none,0,0,?_,?_⟩⟩
       · rw [hE.2];rfl
       · rw [hE.1];exact Wds.nil _ _ _ O)
    | (have hE:=qbP (qfB hlong hS hbig)
       refine ⟨[],Z,fun s2 hs2 hp=>⟨none,0,0,?_,?_⟩⟩
       · rw [hE.2];rfl
       · rw [hE.1];exact Wds.nil _ _ _ O)
    | (have hE:=qjm (qgh hlong hS hbig)
       refine ⟨Mo,Z,fun s2 hs2 hp=>⟨Ao,out.length,co,?_,?_⟩⟩
       · rw [hE.2];rfl
       · rw [hE.1];exact Own.wds hO huo hp)
 have hlong:¬ 327680 < l.length:=by omega
 refine Zk<|Zt<|Sr<|At Z Z<|Zs<|Sr<|At Z Z<|Zp<|?_
 refine qaQ (γ:=Nat×Value×Hl×List Int) (fun g=>[(0,_),(2,_),(3,_),(4,g.2.1),(5,.int .i64 (g.1:Int))]) (fun g=>(β1,cb [.int .i64 0,.int .i64 0] 29)::(g.2.2.1++L)) (fun g tw=>Le D s1 tw∧(g.1≤n∧FL.Own 38 1 g.2.2.1 g.2.1 g.2.2.2.length (wv g.2.2.2)∧(∀ x∈g.2.2.2,U32 x)∧g.2.2.2.length≤g.1∧upF 0 [] l=upF g.1 g.2.2.2 (l.drop g.1))) (fun g=>n - g.1) (fun _ _ _ h hl=>⟨h.1.trans hl,h.2⟩) (0,.slice none 0 0,[],[]) (.c5 Z Z Z Z Z (.nil _)) Z ⟨Le.refl _,⟨Nat.zero_le _,Own.nil,(fun _ h=>by cases h),Nat.le_refl _,Z⟩⟩ ?_
 intro g s4 I4
 obtain ⟨k,vo,Mo,out⟩:=g
 obtain ⟨hk0,hO,huo,hol,hS⟩:=I4.2
 simp only at hk0 hO huo hol hS
 dsimp only
 refine Zs<|Sr<|Zqm Z Z<|Zqm Z Z<|Ws Y4<|qbY Z Z Z<|Nt<|?_
 refine qab Z (fun c5=>?_) (fun c5=>?_)
 ·
  have hk:k < n:=by omega
  have hne:l.drop k≠[]:=by rw [ne_eq,List.drop_eq_nil_iff];omega
  refine Zk<|Zt<|Zp<|Sr<|Zqa Z Z<|At Z Z<|Zs<|Zp<|?_
  refine qaQ (γ:=Nat×Nat) (fun g=>[(0,_),(2,_),(3,_),(4,_),(5,_),(6,.int .u64 (g.2:Int)),(7,.int .i64 (g.1:Int))]) (fun g=>(β1,cb [.int .i64 0,.int .i64 0] 29)::(Mo++L)) (fun g tw=>Le D s4 tw∧(g.1≤4∧k+g.1≤n∧g.2 < 128 ^ g.1∧upG 0 0 (l.drop k)=upG g.1 g.2 (l.drop (k+g.1)))) (fun g=>5 - g.1) (fun _ _ _ h hl=>⟨h.1.trans hl,h.2⟩) (0,0) (.c6 Z Z Z Z Z Z (.cons Z (.nil _))) Z ⟨Le.refl _,⟨by simp only;omega,by simp only;omega,by simp,Z⟩⟩ ?_
  intro g s6 I6
  obtain ⟨sz,nn⟩:=g
  obtain ⟨hsz,hks,hnn,hU⟩:=I6.2
  simp only at hsz hks hnn hU
  dsimp only
  refine Zp<|Zs<|Sr<|Zqm Z Z<|Zqm Z Z<|qaW Z Z Z (w64 O O)<|Zqm Z Z<|Ws Y4<|qaJ Z Z Z<|Nt<|?_
  refine qab Z (fun c7=>?_) (fun c7=>?_)
  ·
   have htr:upG 0 0 (l.drop k)=.inl 15:=by rw [hU,List.drop_eq_nil_of_le O,upG]
   refine Sr<|Zqm Z Z<|Jc Z Z Z (qbr D _ _ _ _) ?_
   rintro _ _ s8 h8 ⟨rfl,rfl⟩
   refine Zqa Z Z<|Wt 0 [_,_] Y9<|Nt<|Zo<|Zu<|Zc<|Zu<|Zc<|Zu<|Zc<|Zu<|Zc<|Zu<|?_
   refine rR (_::Mo) _ (.tmp Z (.agg (us:=[_,_]) 0 Z Z Z Z Z (.nil))) Z (h1.t I4.1|>.t I6.1|>.t h8) fun _ hS2=>?_
   first
     | (refine ⟨[],rfl,fun s2 hs2 hp=>⟨none,0,0,?_,?_⟩⟩
        · rw [(qbP (qcf hlong)).2];rfl
        · rw [(qbP (qcf hlong)).1];exact Wds.nil _ _ _ O)
     | (have hE:=qbP (qbK hlong (by rw [hS];exact qcL hne htr))
        refine ⟨[],Z,fun s2 hs2 hp=>⟨none,0,0,?_,?_⟩⟩
        · rw [hE.2];rfl
        · rw [hE.1];exact Wds.nil _ _ _ O)
     | (have hE:=qbP (qbK hlong (by rw [hS];exact qcL hne hfm))
        refine ⟨[],Z,fun s2 hs2 hp=>⟨none,0,0,?_,?_⟩⟩
        · rw [hE.2];rfl
        · rw [hE.1];exact Wds.nil _ _ _ O)
     | (have hE:=qbP (qbK hlong (by rw [hS];exact qep hne hUP h62))
        refine ⟨[],Z,fun s2 hs2 hp=>⟨none,0,0,?_,?_⟩⟩
        · rw [hE.2];rfl
        · rw [hE.1];exact Wds.nil _ _ _ O)
     | (have hE:=qbP (qfB hlong hS hbig)
        refine ⟨[],Z,fun s2 hs2 hp=>⟨none,0,0,?_,?_⟩⟩
        · rw [hE.2];rfl
        · rw [hE.1];exact Wds.nil _ _ _ O)
     | (have hE:=qjm (qgh hlong hS hbig)
        refine ⟨Mo,Z,fun s2 hs2 hp=>⟨Ao,out.length,co,?_,?_⟩⟩
        · rw [hE.2];rfl
        · rw [hE.1];exact Own.wds hO huo hp)
  have hks2:k+sz < n:=by omega
  obtain ⟨b,off,ch,rfl,hch,hcc⟩:=Bts.at_ (hA.le (h1.t I4.1|>.t I6.1)) hks2
  have hdr:l.drop (k+sz)=ch::l.drop (k+sz+1):=by
    obtain ⟨hk2,rfl⟩:=List.getElem?_eq_some_iff.1 hch
    exact List.drop_eq_getElem_cons hk2
  have hc256:=ch.toNat_lt
  have hgr:=qmO (c:=ch) hnn
  have hp5:128 ^ (sz+1)≤128 ^ 5:=Nat.pow_le_pow_right O O
  refine Zk<|Zt<|Sr<|Zqm Z Z<|Zqm Z Z<|Zqm Z Z<|qae (qby (c:=((k+sz:Nat):Int)) Z Z (by rw [w64 O O];simp)) Z<|qae (qaX Z Z Z Z Z Z hks2) Z<|qae (qaq Z Z Z (hcc.le (Lr D)) Z) Z<|At Z Z<|Sr<|Zqm Z Z<|Zqm Z Z<|qae (qeB Z Z qh9 (qkn ch)) Z<|qae (qaH Z Z Z Z Z (qkP O O)) Z<|Zqm Z Z<|qtt Z Z Z (w64 O O)<|qae (qeB Z Z qiF (qmq O O)) Z<|qae (qeB Z Z qg8 (qnC hnn O O)) Z ?_
  refine At Z Z<|Sr<|Zqm Z Z<|qaW Z Z Z (w64 O O)<|At Z Z<|Zs<|Sr<|Zqm Z Z<|qbY Z Z Z<|Nt<|?_
  refine qab Z (fun c9=>?_) (fun c9=>?_)
  ·
   have hc:ch.toNat < 128:=by omega
   have hUP:upG 0 0 (l.drop k)=.inr (nn+ch.toNat % 128 * 128 ^ sz,sz+1,ch,l.drop (k+(sz+1))):=by rw [hU,hdr,upG,if_pos hc,show k+(sz+1)=k+sz+1 by omega]
   refine Zl<|Zv<|Ze Z<|Zv<|Zd<|Zt<|Zs<|?_
   refine qbV 62 (4294967295 < nn+ch.toNat % 128 * 128 ^ sz∨(1 < sz+1∧ch=0)) ?_ ?_
   ·
    refine Zr<|Zqm Z Z<|qdP Z Z Z<|Zqm Z Z<|?_
    refine qam (t:=49) Z (fun c11=>?_) (fun c11=>?_)
    ·
     refine Wf Y4<|Wf Y4<|Wf Y4<|Zh Z Z Z<|Zh Z Z Z<|Zh Z Z Z<|Zh Z Z Z<|Zh Z Z Z<|Zh Z Z Z<|Zh Z Z Z<|Zh Z Z Z<|Wf Y4<|ZqT Z Z Z<|Zn<|?_
     refine qaa (MidB.mk (Lr D) Sb Z ((decide_eq_true (by first | exact .inl O | (intro h;rcases h with h | h <;> omega))).symm))
    refine Zg Z Z<|Zqm Z Z<|Zg Z Z<|qdP Z Z Z<|Zg Z Z<|Zqm Z Z<|?_
    refine qam (t:=52) Z (fun c12=>?_) (fun c12=>?_)
    ·
     refine Zg Z Z<|Zqm Z Z<|Zg Z Z<|Zqm Z Z<|Zg Z Z<|Zqm Z Z<|Zg Z Z<|qaW Z Z Z (w64 O O)<|Zg Z Z<|qae (qgn (c:=((k+sz:Nat):Int)) Z Z (by rw [w64 O O];omega)) Z<|Zg Z Z<|qae (qaX Z Z Z Z Z Z hks2) Z<|Zg Z Z<|qae (qaq Z Z Z (hcc.le (Lr D)) Z) Z<|Zg Z Z<|qaJ Z Z Z<|Zg Z Z<|ZqT Z Z Z<|ZqF Z Z Z<|Zn<|?_
     refine qaa (MidB.mk (Lr D) Sb Z (decide_eq_decide.2 (⟨fun h=>.inr ⟨by omega,u8_eq.2 h⟩,fun h=>h.elim (fun h=>absurd h O) (fun h=>u8_eq.1 h.2)⟩)))
    refine Wf Y4<|Wf Y4<|Wf Y4<|Wf Y4<|Wf Y4<|Wf Y4<|Wf Y4<|Wf Y4<|Zg Z Z<|ZqF Z Z Z<|ZqF Z Z Z<|Zn<|?_
    refine qaa (MidB.mk (Lr D) Sb Z ((decide_eq_false (by first | exact .inl O | (intro h;rcases h with h | h <;> omega))).symm))
   intro s10 h10
   refine qab Z (fun c13=>?_) (fun c13=>?_)
   ·
    have h62:=c13
    refine Sr<|Zqm Z Z<|Jc Z Z Z (qbr D _ _ _ _) ?_
    rintro _ _ s14 h14 ⟨rfl,rfl⟩
    refine Zqa Z Z<|Wt 0 [_,_] Y9<|Nt<|Zo<|Zu<|Zc<|Zu<|Zc<|Zu<|?_
    refine rR (_::Mo) _ (.tmp Z (.agg (us:=[_,_]) 0 Z Z Z Z Z (.nil))) Z (h1.t I4.1|>.t I6.1|>.t h10|>.t h14) fun _ hS2=>?_
    first
      | (refine ⟨[],rfl,fun s2 hs2 hp=>⟨none,0,0,?_,?_⟩⟩
         · rw [(qbP (qcf hlong)).2];rfl
         · rw [(qbP (qcf hlong)).1];exact Wds.nil _ _ _ O)
      | (have hE:=qbP (qbK hlong (by rw [hS];exact qcL hne htr))
         refine ⟨[],Z,fun s2 hs2 hp=>⟨none,0,0,?_,?_⟩⟩
         · rw [hE.2];rfl
         · rw [hE.1];exact Wds.nil _ _ _ O)
      | (have hE:=qbP (qbK hlong (by rw [hS];exact qcL hne hfm))
         refine ⟨[],Z,fun s2 hs2 hp=>⟨none,0,0,?_,?_⟩⟩
         · rw [hE.2];rfl
         · rw [hE.1];exact Wds.nil _ _ _ O)
      | (have hE:=qbP (qbK hlong (by rw [hS];exact qep hne hUP h62))
         refine ⟨[],Z,fun s2 hs2 hp=>⟨none,0,0,?_,?_⟩⟩
         · rw [hE.2];rfl
         · rw [hE.1];exact Wds.nil _ _ _ O)
      | (have hE:=qbP (qfB hlong hS hbig)
         refine ⟨[],Z,fun s2 hs2 hp=>⟨none,0,0,?_,?_⟩⟩
         · rw [hE.2];rfl
         · rw [hE.1];exact Wds.nil _ _ _ O)
      | (have hE:=qjm (qgh hlong hS hbig)
         refine ⟨Mo,Z,fun s2 hs2 hp=>⟨Ao,out.length,co,?_,?_⟩⟩
         · rw [hE.2];rfl
         · rw [hE.1];exact Own.wds hO huo hp)
   have h62:=c13
   refine Zk<|Zt<|Sr<|Zqm Z Z<|Zqm Z Z<|qae (qaH Z Z Z Z Z (qcz O)) Z<|qa0 [(_,_)] [_] Z Z Z Z Z Z Z Z Z ?_
   intro βn s15 h15 hcb
   refine qbO (sz:=1) [_] Mo L Z Z Z Z Z Z Z hO (Row.of_cells (hcb.le (Lr D)) Z Z) ⟨by simp [ti38];omega,by omega⟩ Z ?_
   intro v2 M2 s16 h16 o2
   obtain ⟨Av2,cv2,rfl,_,_⟩:=Own.slice o2
   simp only [cQ9,nQ9]
   refine At Z Z<|Zr<|Zqm Z Z<|Zqm Z Z<|qaW Z Z Z (w64 O O)<|Zqa Z Z<|Zn<|Zb<|?_
   refine qaa ⟨(k+(sz+1),.slice Av2 (out.length+1) cv2,M2,out++[((nn+ch.toNat % 128 * 128 ^ sz:Nat):Int)]),[],(.c4 Z Z Z Z (.cons (congrArg some (congrArg (Value.int .i64) Oz)) (.nil _))),Z,⟨(I4.1.t I6.1|>.t h10|>.t h15|>.t h16),⟨by simp only;omega,by simp only [List.length_append,List.length_cons,List.length_nil,qlQ];exact o2,qs9 huo (qeC O),by simp only [List.length_append,List.length_cons,List.length_nil];omega,by simp only;rw [hS,qg6 hne hUP h62]⟩⟩,Oz⟩
  have hc:¬ ch.toNat < 128:=by omega
  refine Zk<|Zt<|Sr<|Zqm Z Z<|qaJ Z Z Z<|Nt<|?_
  refine qab Z (fun c17=>?_) (fun c17=>?_)
  ·
   have hfm:upG 0 0 (l.drop k)=.inl 6:=by rw [hU,hdr,upG,if_neg hc,if_pos O]
   refine Sr<|Zqm Z Z<|Jc Z Z Z (qbr D _ _ _ _) ?_
   rintro _ _ s18 h18 ⟨rfl,rfl⟩
   refine Zqa Z Z<|Wt 0 [_,_] Y9<|Nt<|Zo<|Zc<|Zu<|Zc<|Zu<|Zc<|Zu<|Zc<|Zu<|?_
   refine rR (_::Mo) _ (.tmp Z (.agg (us:=[_,_]) 0 Z Z Z Z Z (.nil))) Z (h1.t I4.1|>.t I6.1|>.t h18) fun _ hS2=>?_
   first
     | (refine ⟨[],rfl,fun s2 hs2 hp=>⟨none,0,0,?_,?_⟩⟩
        · rw [(qbP (qcf hlong)).2];rfl
        · rw [(qbP (qcf hlong)).1];exact Wds.nil _ _ _ O)
     | (have hE:=qbP (qbK hlong (by rw [hS];exact qcL hne htr))
        refine ⟨[],Z,fun s2 hs2 hp=>⟨none,0,0,?_,?_⟩⟩
        · rw [hE.2];rfl
        · rw [hE.1];exact Wds.nil _ _ _ O)
     | (have hE:=qbP (qbK hlong (by rw [hS];exact qcL hne hfm))
        refine ⟨[],Z,fun s2 hs2 hp=>⟨none,0,0,?_,?_⟩⟩
        · rw [hE.2];rfl
        · rw [hE.1];exact Wds.nil _ _ _ O)
     | (have hE:=qbP (qbK hlong (by rw [hS];exact qep hne hUP h62))
        refine ⟨[],Z,fun s2 hs2 hp=>⟨none,0,0,?_,?_⟩⟩
        · rw [hE.2];rfl
        · rw [hE.1];exact Wds.nil _ _ _ O)
     | (have hE:=qbP (qfB hlong hS hbig)
        refine ⟨[],Z,fun s2 hs2 hp=>⟨none,0,0,?_,?_⟩⟩
        · rw [hE.2];rfl
        · rw [hE.1];exact Wds.nil _ _ _ O)
     | (have hE:=qjm (qgh hlong hS hbig)
        refine ⟨Mo,Z,fun s2 hs2 hp=>⟨Ao,out.length,co,?_,?_⟩⟩
        · rw [hE.2];rfl
        · rw [hE.1];exact Own.wds hO huo hp)
  refine Zk<|Zb<|?_
  refine qaa ⟨(sz+1,nn+ch.toNat % 128 * 128 ^ sz),[],kp,Z,⟨I6.1,⟨by simp only;omega,by simp only;omega,by simp only;exact qmO hnn,by simp only;rw [hU,hdr,upG,if_neg hc,if_neg O,show k+(sz+1)=k+sz+1 by omega]⟩⟩,Oz⟩
 rw [List.drop_eq_nil_of_le O,qmf] at hS
 obtain ⟨Ao,co,rfl,_,_⟩:=Own.slice hO
 refine Zl<|Zv<|Zv<|Zd<|Zt<|Zs<|Sr<|Zqm Z Z<|Ws Y4<|qdP Z Z Z<|Nt ?_
 refine qab Z (fun c19=>?_) (fun c19=>?_)
 ·
  have hbig:65536 < out.length:=by omega
  refine Sr<|Jc Z Z Z (qbr D _ _ _ _) ?_
  rintro _ _ s20 h20 ⟨rfl,rfl⟩
  refine Zqa Z Z<|Wt 0 [_,_] Y9<|Nt<|Zo<|Zu<|?_
  refine rR (_::Mo) _ (.tmp Z (.agg (us:=[_,_]) 0 Z Z Z Z Z (.nil))) Z (h1.t I4.1|>.t h20) fun _ hS2=>?_
  first
    | (refine ⟨[],rfl,fun s2 hs2 hp=>⟨none,0,0,?_,?_⟩⟩
       · rw [(qbP (qcf hlong)).2];rfl
       · rw [(qbP (qcf hlong)).1];exact Wds.nil _ _ _ O)
    | (have hE:=qbP (qbK hlong (by rw [hS];exact qcL hne htr))
       refine ⟨[],Z,fun s2 hs2 hp=>⟨none,0,0,?_,?_⟩⟩
       · rw [hE.2];rfl
       · rw [hE.1];exact Wds.nil _ _ _ O)
    | (have hE:=qbP (qbK hlong (by rw [hS];exact qcL hne hfm))
       refine ⟨[],Z,fun s2 hs2 hp=>⟨none,0,0,?_,?_⟩⟩
       · rw [hE.2];rfl
       · rw [hE.1];exact Wds.nil _ _ _ O)
    | (have hE:=qbP (qbK hlong (by rw [hS];exact qep hne hUP h62))
       refine ⟨[],Z,fun s2 hs2 hp=>⟨none,0,0,?_,?_⟩⟩
       · rw [hE.2];rfl
       · rw [hE.1];exact Wds.nil _ _ _ O)
    | (have hE:=qbP (qfB hlong hS hbig)
       refine ⟨[],Z,fun s2 hs2 hp=>⟨none,0,0,?_,?_⟩⟩
       · rw [hE.2];rfl
       · rw [hE.1];exact Wds.nil _ _ _ O)
    | (have hE:=qjm (qgh hlong hS hbig)
       refine ⟨Mo,Z,fun s2 hs2 hp=>⟨Ao,out.length,co,?_,?_⟩⟩
       · rw [hE.2];rfl
       · rw [hE.1];exact Own.wds hO huo hp)
 have hbig:¬ 65536 < out.length:=by omega
 refine Zk<|Zt<|Sr<|Zqm Z Z<|qae (qal [] [_,_] Z Z Z Z Z Z) Z<|Zqa Z Z<|Wt 0 [_,_] Y9<|Nt<|Zo<|?_
 refine rR [_] _ (.tmp Z (.agg (us:=[_,_]) 0 Z Z Z Z Z (.nil))) Z (h1.t I4.1) fun _ hS2=>?_
 first
   | (refine ⟨[],rfl,fun s2 hs2 hp=>⟨none,0,0,?_,?_⟩⟩
      · rw [(qbP (qcf hlong)).2];rfl
      · rw [(qbP (qcf hlong)).1];exact Wds.nil _ _ _ O)
   | (have hE:=qbP (qbK hlong (by rw [hS];exact qcL hne htr))
      refine ⟨[],Z,fun s2 hs2 hp=>⟨none,0,0,?_,?_⟩⟩
      · rw [hE.2];rfl
      · rw [hE.1];exact Wds.nil _ _ _ O)
   | (have hE:=qbP (qbK hlong (by rw [hS];exact qcL hne hfm))
      refine ⟨[],Z,fun s2 hs2 hp=>⟨none,0,0,?_,?_⟩⟩
      · rw [hE.2];rfl
      · rw [hE.1];exact Wds.nil _ _ _ O)
   | (have hE:=qbP (qbK hlong (by rw [hS];exact qep hne hUP h62))
      refine ⟨[],Z,fun s2 hs2 hp=>⟨none,0,0,?_,?_⟩⟩
      · rw [hE.2];rfl
      · rw [hE.1];exact Wds.nil _ _ _ O)
   | (have hE:=qbP (qfB hlong hS hbig)
      refine ⟨[],Z,fun s2 hs2 hp=>⟨none,0,0,?_,?_⟩⟩
      · rw [hE.2];rfl
      · rw [hE.1];exact Wds.nil _ _ _ O)
   | (have hE:=qjm (qgh hlong hS hbig)
      refine ⟨Mo,Z,fun s2 hs2 hp=>⟨Ao,out.length,co,?_,?_⟩⟩
      · rw [hE.2];rfl
      · rw [hE.1];exact Own.wds hO huo hp)
theorem qr9(D:Nat)(L:Hl)(s:World)(A:Option Addr)(n c:Nat)(l:List Int)(hA:Wds s A n c l):AC prog D 17 [.slice A n c] L s fun v L' s'=>L=L'∧∃ A1 n1 c1,v=.tuple #[.slice A1 n1 c1,.agg #[.int .i64 (qhJ l).1,.int .i64 (qhJ l).2]]∧Bts s' A1 n1 c1 (qiz l):=AC.pubW (qof D L s A n c l hA)
theorem qmJ(D:Nat)(L:Hl)(s:World)(A:Option Addr)(n c:Nat)(l:List UInt8)(hA:Bts s A n c l):AC prog D 18 [.slice A n c] L s fun v L' s'=>L=L'∧∃ A1 n1 c1,v=.tuple #[.slice A1 n1 c1,.agg #[.int .i64 (qnm l).1,.int .i64 (qnm l).2]]∧Wds s' A1 n1 c1 (qr2 l):=AC.pubW (qkm D L s A n c l hA)
theorem qrF(a:List UInt8)(b:Int)(c:List UInt8)(d:Int):EqA prog 60 [St a,.int .u32 b] [St c,.int .u32 d] (decide (a=c∧b=d)):=⟨by kernel_rfl,fun w=>by
 show (Op.equalIn (9998+2) 60 _ _).run prog w=_
 rw [run_equalIn_agg w 9999 60 _ _ V V]
 simp only [Program.fieldsOf,underlying60,Op.eqFields,part]
 have hs:∀ (d:Nat) (x y:List UInt8),(Op.equalIn (d+1) 9 (St x) (St y)).run prog w=.ok (decide (x=y)) w:=fun d x y=>by
  simp [Op.equalIn,run_underlying underlying9,ql6]
 simp [qit qpu rfl,qit qhb rfl,run_equalIn_int w 9998 38 .u32 .u32 _ _ underlying38,hs 9998]
 by_cases h1:a=c <;> by_cases h2:b=d <;> simp [h1,h2]⟩
theorem qhH(D:Nat)(L:Hl)(s:World)(A:Option Addr)(n c:Nat)(l:List (List UInt8×Int))(hA:Labs s A n c l)(A1:Option Addr)(n1 c1:Nat)(l1:List (List UInt8×Int))(hB:Labs s A1 n1 c1 l1):AC prog D 20 [.slice A n c,.slice A1 n1 c1] L s fun v L' _=>v=.bool (decide (l=l1))∧L=L':=by
 have hn:=hA.1
 have hc1:=hA.2.1
 have hc2:=hA.2.2.1
 have hn1:=hB.1
 refine qai (fn:=f20) qaG func20 V Z ntmps20 Z (rs:=[.tmp 4]) Z [(0,_),(1,_)] Z<|Sr<|At Z Z<|Zs<|Sr<|Zqm Z Z<|Ws Y4<|Zqm Z Z<|Ws Y4<|qj3 Z Z Z<|Nt<|?_
 refine qbc Z (fun c1=>?_) (fun c1=>?_)
 ·
  refine Sr<|At Z Z<|Zo<|Zu<|?_
  refine rR [] L (.t1 Z) Z (Lr D) fun _ hS2=>?_
  refine ⟨?_,Z⟩
  first
    | (have h0:l≠l1:=qei hx hy hE
       simp [qaF,h0];done)
    | (have h0:l≠l1:=fun e=>by subst e;omega
       simp [qaF,h0];done)
    | (have h0:l=l1:=qes O (fun i x hi h=>hI i x O h)
       simp [qaF,h0];done)
 refine Zk<|Zt<|Zs<|Sr<|At Z Z<|Zp<|qaQ (γ:=Nat) (fun k=>[(0,_),(1,_),(4,_),(5,.int .i64 (k:Int))]) (fun _=>_) (fun k tw=>Le D s tw∧(k≤n∧∀ i x,i < k→l[i]?=some x→l1[i]?=some x)) (fun k=>n - k) (fun _ _ _ h hl=>⟨h.1.trans hl,h.2⟩) 0 (.c4 Z Z Z Z (.nil _)) Z ⟨Le.refl _,⟨Nat.zero_le _,fun i c hi=>by omega⟩⟩ ?_
 intro k s2 I2
 have hk0:=I2.2.1
 have hI:=I2.2.2
 refine Zs<|Sr<|Zqm Z Z<|Zqm Z Z<|Ws Y4<|qbY Z Z Z<|Nt<|?_
 refine qab Z (fun c3=>?_) (fun c3=>?_)
 ·
  have hk:k < n:=by omega
  obtain ⟨b,off,x,rfl,hx,hcx,_⟩:=Labs.at_ (hA.le I2.1) hk
  obtain ⟨b1,off1,y,rfl,hy,hcy,_⟩:=Labs.at_ (hB.le I2.1) (show k < n1 by omega)
  refine Zk<|Zt<|Zs<|Zp<|Zs<|qbH qaf 9 Z _ (fun _ h=>h) ?_
  intro s4 h4
  refine za 0 Z (qao Z) Z<|za 1 Z (qao Z) Z<|za 2 Z (qbw Z Z Z Z Z Z hk) Z<|za 3 Z (qbG Z Z Z (hcx.le h4) Z) Z<|za 4 Z (qao Z) Z<|za 5 Z (qao Z) Z<|za 6 Z (qbw Z Z Z Z Z Z (show k < n1 by omega)) Z<|za 7 Z (qbG Z Z Z (hcy.le h4) Z) Z<|za 8 Z (qef Z Z (qrF _ _ _ _)) Z<|qac V<|Zt ?_
  refine qbc Z (fun c5=>?_) (fun c5=>?_)
  ·
   have hE:x≠y:=by intro e;subst e;exact c5 ⟨rfl,rfl⟩
   refine Sr<|At Z Z<|Zo<|Zc<|Zu<|Zu<|Zc<|Zu<|?_
   refine rR [] L (.t1 Z) Z (I2.1.t h4) fun _ hS2=>?_
   refine ⟨?_,Z⟩
   first
     | (have h0:l≠l1:=qei hx hy hE
        simp [qaF,h0];done)
     | (have h0:l≠l1:=fun e=>by subst e;omega
        simp [qaF,h0];done)
     | (have h0:l=l1:=qes O (fun i x hi h=>hI i x O h)
        simp [qaF,h0];done)
  have hE:x=y:=by exact Prod.ext c5.1 c5.2
  refine Zk<|Zb<|Zt<|Zr<|Zqm Z Z<|qaW Z Z Z (w64 O O)<|Zqa Z Z<|Zn<|?_
  refine qaa ⟨(k+1),[],kp,Z,⟨(I2.1.t h4),⟨by omega,qaS hI hx (hE▸hy)⟩⟩,O⟩
 refine Zl<|Zv<|Zv<|Zd<|Zt<|Sr<|At Z Z<|Zo<|?_
 refine rR [] L (.t1 Z) Z I2.1 fun _ hS2=>?_
 refine ⟨?_,Z⟩
 first
   | (have h0:l≠l1:=qei hx hy hE
      simp [qaF,h0];done)
   | (have h0:l≠l1:=fun e=>by subst e;omega
      simp [qaF,h0];done)
   | (have h0:l=l1:=qes O (fun i x hi h=>hI i x O h)
      simp [qaF,h0];done)
theorem qay{j:Nat}{l:List Ins}{y:Ins}(h:l[j]?=some y):l.take (j+1)=l.take j++[y]:=by
 obtain ⟨hj,rfl⟩:=List.getElem?_eq_some_iff.1 h
 rw [List.take_succ_eq_append_getElem hj]
theorem qhX(D:Nat)(L:Hl)(s:World)(r:Int):AC prog D 34 [.int .u32 r] L s fun v L' _=>v=.agg #[.int .i64 1,.int .u32 r]∧L=L':=by
 refine qai (fn:=f34) qaG func34 V Z ntmps34 Z (rs:=[.cell 2 70]) Z [(0,_)] Z<|Sr<|qag Z [_,_] Z Z ?_
 intro β1 s1 h1
 refine Nt<|Sr<|Zqm Z Z<|qae (qal [(_,_),(_,_)] [_,_] Z Z Z Z Z Z) Z<|Wt 0 [_,_] Y9<|Nt<|Zo<|?_
 refine rR [_] L (.agg (us:=[_,_]) 0 Z Z Z Z Z (.nil)) Z h1 fun _ hS2=>?_
 exact ⟨rfl,rfl⟩
theorem qcm(D:Nat)(L:Hl)(s:World)(r:Int):AC prog D 37 [.int .u32 r] L s fun v L' _=>v=.agg #[.int .i64 0,.int .u32 r]∧L=L':=by
 refine qai (fn:=f37) qaG func37 V Z ntmps37 Z (rs:=[.cell 2 70]) Z [(0,_)] Z<|Sr<|qag Z [_,_] Z Z ?_
 intro β1 s1 h1
 refine Nt<|Sr<|Zqm Z Z<|qae (qal [(_,_),(_,_)] [_,_] Z Z Z Z Z Z) Z<|Wt 0 [_,_] Y9<|Nt<|Zo<|?_
 refine rR [_] L (.agg (us:=[_,_]) 0 Z Z Z Z Z (.nil)) Z h1 fun _ hS2=>?_
 exact ⟨rfl,rfl⟩
theorem qti{l:List Tm}{x:Tm}(h:l[0]?=some x):l.getD 0 ⟨0,0⟩=x:=by simp [List.getD,h]
theorem qsG{l:List Tm}{x:Tm}(h:l[1]?=some x):l.getD 1 ⟨0,0⟩=x:=by simp [List.getD,h]
theorem qlE{l:List Tm}{n j:Nat}{y e:Tm}(hj:j < n)(hz:(j:Int)=0)(he:l[j]?=some e)(hy:y=if 1 < j then l.getD 1 ⟨0,0⟩ else ⟨0,0⟩):j+1≤n∧e=(if 0 < j+1 then l.getD 0 ⟨0,0⟩ else ⟨0,0⟩)∧y=(if 1 < j+1 then l.getD 1 ⟨0,0⟩ else ⟨0,0⟩):=by
 have h0:j=0:=by omega
 subst h0
 exact ⟨hj,by rw [if_pos O,qti he],by rw [hy];rfl⟩
theorem qms{l:List Tm}{n j:Nat}{x e:Tm}(hj:j < n)(hz:¬ (j:Int)=0)(hn:n≤2)(he:l[j]?=some e)(hx:x=if 0 < j then l.getD 0 ⟨0,0⟩ else ⟨0,0⟩):j+1≤n∧x=(if 0 < j+1 then l.getD 0 ⟨0,0⟩ else ⟨0,0⟩)∧e=(if 1 < j+1 then l.getD 1 ⟨0,0⟩ else ⟨0,0⟩):=by
 have h0:j=1:=by omega
 subst h0
 exact ⟨hj,by rw [hx];rfl,by rw [if_pos O,qsG he]⟩
theorem qsv{l:List Tm}{i:Nat}(h:l.length≤i):l.getD i ⟨0,0⟩=⟨0,0⟩:=by simp [List.getD,List.getElem?_eq_none h]
theorem qax(D:Nat)(L:Hl)(s:World)(kd tgt:Int)(A:Option Addr)(n c:Nat)(l:List Tm)(hA:Tms s A n c l)(hl:l.length≤2):AC prog D 36 [.int .i64 kd,.int .i64 tgt,.slice A n c] L s fun v L' _=>v=.agg #[.int .i64 kd,.int .i64 tgt,.int .i64 (l.getD 0 ⟨0,0⟩).kind,.int .u32 (l.getD 0 ⟨0,0⟩).val,.int .i64 (l.getD 1 ⟨0,0⟩).kind,.int .u32 (l.getD 1 ⟨0,0⟩).val]∧L=L':=by
 have hn:=hA.1
 refine qai (fn:=f36) qaG func36 V Z ntmps36 Z (rs:=[.cell 6 72]) Z [(0,_),(1,_),(2,_)] Z<|Sr<|qag Z [_,_,_,_,_,_] Z Z ?_
 intro β1 s1 h1
 refine Nt<|Sr<|Zqm Z Z<|Zqm Z Z<|qae (qal [(_,_),(_,_)] [_,_,_,_,_,_] Z Z Z Z Z Z) Z<|qag Z [_,_,_,_,_,_] Z Z ?_
 intro β2 s2 h2
 refine Wt 0 [_,_,_,_,_,_] Y9<|Nt<|Zs<|Sr<|Zqm Z Z<|Ws Y4<|Zqm Z Z<|Nt<|Zp<|?_
 refine qaQ (γ:=Nat×Tm×Tm) (fun g=>[(6,_),(7,_),(13,_),(14,_),(15,.int .i64 (g.1:Int))]) (fun g=>(β2,cb [.int .i64 kd,.int .i64 tgt,.int .i64 g.2.1.kind,.int .u32 g.2.1.val,.int .i64 g.2.2.kind,.int .u32 g.2.2.val] 72)::(β1,cb [.int .i64 0,.int .i64 0,.int .i64 0,.int .u32 0,.int .i64 0,.int .u32 0] 72)::L) (fun g tw=>Le D s2 tw∧(g.1≤n∧g.2.1=(if 0 < g.1 then l.getD 0 ⟨0,0⟩ else ⟨0,0⟩)∧g.2.2=(if 1 < g.1 then l.getD 1 ⟨0,0⟩ else ⟨0,0⟩))) (fun g=>n - g.1) (fun _ _ _ h hl=>⟨h.1.trans hl,h.2⟩) (0,⟨0,0⟩,⟨0,0⟩) (.c5 Z Z Z Z Z (.nil _)) Z ⟨Le.refl _,⟨Nat.zero_le _,Z,Z⟩⟩ ?_
 intro g s3 I3
 obtain ⟨j,x,y⟩:=g
 obtain ⟨hj0,hx,hy⟩:=I3.2
 simp only at hj0 hx hy
 dsimp only
 refine Sr<|qbY Z Z Z<|Nt<|Zs<|?_
 refine qab Z (fun c4=>?_) (fun c4=>?_)
 ·
  have hk:j < n:=by omega
  obtain ⟨b,off,e,rfl,he,hce,hue⟩:=Tms.at_ (hA.le (h1.t h2|>.t I3.1)) hk
  refine Zk<|Zt<|Zs<|Zp<|Sr<|Zqm Z Z<|qae (qbw Z Z Z Z Z Z hk) Z<|qae (qbG Z Z Z (hce.le (Lr D)) Z) Z<|qag Z [_,_] Z Z ?_
  intro β5 s5 h5
  refine Zqa Z Z<|Wt 0 [_,_] Y9<|Nt<|Sr<|Zqm Z Z<|qaJ Z Z Z<|Nt<|?_
  refine qab Z (fun c6=>?_) (fun c6=>?_)
  ·
   have hz0:=c6
   refine Zr<|qae (qad 0 [_,_] Z Z Z Z Z) Z<|Wb Y5<|Wt 1 [_,_,_,_,_,_] Y9<|Zn<|Zb<|Zt<|Zr<|qaW Z Z Z (w64 O O)<|Zqm Z Z<|Zn<|?_
   refine qaa ⟨(j+1,e,y),[_],kp,Z,⟨(I3.1.t h5),by first | exact qlE hk hz0 he hy | exact qms hk hz0 O he hx⟩,Oz⟩
  have hz0:=c6
  refine Zr<|qae (qad 0 [_,_] Z Z Z Z Z) Z<|Wb Y5<|Wt 1 [_,_,_,_,_,_] Y9<|Zn<|Zb<|Zt<|Zr<|qaW Z Z Z (w64 O O)<|Zqm Z Z<|Zn<|?_
  refine qaa ⟨(j+1,x,e),[_],kp,Z,⟨(I3.1.t h5),by first | exact qlE hk hz0 he hy | exact qms hk hz0 O he hx⟩,Oz⟩
 refine Zl<|Zv<|Zv<|Zd<|Zt<|Sr<|qae (qad 0 [_,_,_,_,_,_] Z Z Z Z Z) Z<|Wt 1 [_,_,_,_,_,_] Y9<|Nt<|Zo<|?_
 refine rR [_,_] L (.agg (us:=[_,_,_,_,_,_]) 1 Z Z Z Z Z (.nil)) Z (h1.t h2|>.t I3.1) fun _ hS2=>?_
 refine ⟨?_,Z⟩
 have hjn:j=n:=by omega
 have e1:x=l.getD 0 ⟨0,0⟩:=by
   rw [hx];split
   · rfl
   · rw [qsv O]
 have e2:y=l.getD 1 ⟨0,0⟩:=by
   rw [hy];split
   · rfl
   · rw [qsv O]
 rw [← e1,← e2];rfl
theorem qaR(D:Nat)(L:Hl)(s:World)(name:List UInt8)(op:Bool)(A:Option Addr)(n c:Nat)(β:Nat)(v:Value)(M:Hl)(i:Nat)(xs:List Value)(hO:FL.Own 66 4 M v i xs)(hi:i≤1000):AC prog D 35 [St name,.bool op,.slice A n c,.pointer (some ⟨β,0,none⟩)] (((β,cb [.int .i64 65536,v] 24)::M)++L) s fun w L' s'=>∃ M',L'=M'++L∧w=.tuple #[]∧∃ v2 M2,M'=(β,cb [.int .i64 65536,v2] 24)::M2∧FL.Own 66 4 M2 v2 (i+1) (xs++[St name,.int .u32 ((i:Int)+1),.bool op,.slice A n c]):=by
 obtain ⟨Av,cv,rfl,kv1,kv2⟩:=Own.slice hO
 simp only [List.cons_append]
 refine qai (fn:=f35) qaG func35 V Z ntmps35 Z (rs:=[]) Z [(0,_),(1,_),(2,_),(3,_)] Z<|Zr<|Wb Y5<|Wl 0 Y6<|Zqm Z Z<|Wb Y5<|Wl 0 Y6<|Ws Y4<|qaW Z Z Z (w64 O O)<|qae (qaH Z Z Z Z Z (qcS O O)) Z<|Zqm Z Z<|Zqm Z Z<|qae (qal [(_,_),(_,_),(_,_),(_,_)] [_,_,_,_] Z Z Z Z Z Z) Z<|qa0 [(_,_)] [_,_,_,_] Z Z Z Z Z Z Z Z Z ?_
 intro βn s1 h1 hcb
 refine qbO (sz:=4) [_] M L Z Z Z Z Z Z Z hO (Row.of_cells (hcb.le (Lr D)) Z Z) ⟨by simp [ti66];omega,by omega⟩ Z ?_
 intro v2 M2 s2 h2 o2
 obtain ⟨Av2,cv2,rfl,_,_⟩:=Own.slice o2
 simp only [cQ9,nQ9]
 refine Wb Y5<|Wt 0 [_,_] Y9<|Zn ?_
 refine qat [] _ (.inl Z) (.nil) Z (h1.t h2) fun _ hS2=>?_
 exact ⟨_::M2,rfl,rfl,_,M2,rfl,o2⟩
theorem qkJ(D:Nat)(L:Hl)(s:World)(A:Option Addr)(n c:Nat)(l:List Ac)(hA:Acs s A n c l)(β:Nat)(Ap:Option Addr)(np cp:Nat)(lp:List Ac)(hP:Acs s Ap np cp lp)(hn:n+np≤1000):AC prog D 38 [.slice A n c,.pointer (some ⟨β,0,none⟩)] ((β,cb [.slice Ap np cp] 64)::L) s fun v L' s'=>∃ M',L'=M'++((β,cb [.slice Ap np cp] 64)::L)∧∀ s2,Le D s' s2→Pub M' s2→∃ A2 n2 c2,v=.slice A2 n2 c2∧Acs s2 A2 n2 c2 (lp++l):=by
 refine qai (fn:=f38) qaG func38 V Z ntmps38 Z (rs:=[.tmp 3]) Z [(0,_),(1,_)] Z<|Sr<|At Z Z<|Sr<|qka (sz:=6) Z Z Z Z ?_
 intro βo s1 h1 oo
 refine Wl 1 Y6<|qbO [] [_] _ Z Z Z Z Z Z Z oo (hP.row.le h1) ⟨by simp [ti72];omega,by omega⟩ Z ?_
 intro v1 A1 s2 h2 o1
 simp only [List.nil_append]
 refine Zqm Z Z<|qbO [] A1 _ Z Z Z Z Z Z Z o1 (hA.row.le (h1.t h2)) ⟨by simp [ti72];omega,by omega⟩ Z ?_
 intro v2 A2x s3 h3 o2
 simp only [List.nil_append]
 refine At Z Z<|Zo<|?_
 refine rR [] _ (.t1 Z) Z (h1.t h2|>.t h3) fun _ hS2=>?_
 simp only [List.nil_append,Nat.zero_add,← qqS] at o2
 obtain ⟨Av2,cv2,rfl,_,_⟩:=Own.slice o2
 exact ⟨A2x,rfl,fun s2 hs2 hp=>⟨_,_,_,rfl,Own.acs o2 (fun a ha=>(List.mem_append.1 ha).elim (hP.u a) (hA.u a)) hp (by have:=hA.1;have:=hP.1;simp;omega)⟩⟩
theorem qlS(D:Nat)(L:Hl)(s:World)(A:Option Addr)(n c:Nat)(l:List Ac)(hA:Acs s A n c l)(β:Nat)(Ap:Option Addr)(np cp:Nat)(lp:List Ac)(hP:Acs s Ap np cp lp)(hn:n+np≤1000):AC prog D 38 [.slice A n c,.pointer (some ⟨β,0,none⟩)] ((β,cb [.slice Ap np cp] 64)::L) s fun v L' s'=>(β,cb [.slice Ap np cp] 64)::L=L'∧∃ A2 n2 c2,v=.slice A2 n2 c2∧Acs s' A2 n2 c2 (lp++l):=AC.pubW (qkJ D L s A n c l hA β Ap np cp lp hP hn)
theorem qaN(D:Nat)(L:Hl)(s:World)(A:Option Addr)(n c:Nat)(l:List Ac)(hA:Acs s A n c l)(β:Nat)(Ap:Option Addr)(np cp:Nat)(lp:List Ac)(hP:Acs s Ap np cp lp)(hn:n+np≤1000):AC prog D 38 [.slice A n c,.pointer (some ⟨β,0,none⟩)] ([(β,cb [.slice Ap np cp] 64)]++L) s fun v L' s'=>∃ M',L'=M'++L∧M'=[(β,cb [.slice Ap np cp] 64)]∧∃ A2 n2 c2,v=.slice A2 n2 c2∧Acs s' A2 n2 c2 (lp++l):=
 (qlS D L s A n c l hA β Ap np cp lp hP hn).mono fun v L' s' _ h=>⟨_,h.1.symm,rfl,h.2⟩
theorem qar{D:Nat}{s s':World}{l:List Ins}{m:List (List Value)}(h:All2 (fun x cs=>cs.length=4∧InsR s x cs) l m)(hl:Le D s s'):All2 (fun x cs=>cs.length=4∧InsR s' x cs) l m:=h.mono fun a b h=>⟨h.1,h.2.le hl⟩
theorem uD{x:Int}(h:(decide (0≤x) && decide (x < 4294967296))=true):U32 x:=by simpa [U32] using h
def popL:List Ac:=[⟨2,2,⟨1,2⟩,⟨0,1⟩⟩,⟨13,1,⟨1,2⟩,⟨0,0⟩⟩]
def defT:Tab:=⟨65536,[
 ⟨[115,116,111,112],1,false,[⟨17,0,⟨1,0⟩,⟨0,0⟩⟩]⟩,
 ⟨[110,117,109],2,true,[⟨0,0,⟨2,0⟩,⟨0,0⟩⟩]⟩,
 ⟨[108,111,97,100],3,true,[⟨13,0,⟨2,0⟩,⟨0,0⟩⟩]⟩,
 ⟨[115,116,111,114,101],4,true,[⟨14,0,⟨2,0⟩,⟨1,0⟩⟩]⟩,
 ⟨[108,111,99,97,108],5,true,[⟨2,1,⟨1,2⟩,⟨2,0⟩⟩,⟨13,0,⟨1,1⟩,⟨0,0⟩⟩]⟩,
 ⟨[97,115,115,105,103,110],6,true,[⟨2,1,⟨1,2⟩,⟨2,0⟩⟩,⟨14,0,⟨1,1⟩,⟨1,0⟩⟩]⟩,
 ⟨[102,101,116,99,104],7,true,[⟨1,1,⟨1,0⟩,⟨2,0⟩⟩,⟨13,0,⟨1,1⟩,⟨0,0⟩⟩]⟩,
 ⟨[112,117,116,97,116],8,true,[⟨2,2,⟨1,2⟩,⟨0,1⟩⟩,⟨13,1,⟨1,2⟩,⟨0,0⟩⟩,⟨1,1,⟨1,1⟩,⟨2,0⟩⟩,⟨14,0,⟨1,1⟩,⟨1,0⟩⟩]⟩,
 ⟨[112,117,115,104],9,false,[⟨14,0,⟨1,2⟩,⟨1,0⟩⟩,⟨1,2,⟨1,2⟩,⟨0,1⟩⟩]⟩,
 ⟨[100,114,111,112],10,true,[⟨2,2,⟨1,2⟩,⟨2,0⟩⟩]⟩,
 ⟨[97,100,100],11,false,[⟨2,2,⟨1,2⟩,⟨0,1⟩⟩,⟨13,1,⟨1,2⟩,⟨0,0⟩⟩,⟨1,0,⟨1,1⟩,⟨1,0⟩⟩]⟩,
 ⟨[115,117,98],12,false,[⟨2,2,⟨1,2⟩,⟨0,1⟩⟩,⟨13,1,⟨1,2⟩,⟨0,0⟩⟩,⟨2,0,⟨1,1⟩,⟨1,0⟩⟩]⟩,
 ⟨[109,117,108],13,false,[⟨2,2,⟨1,2⟩,⟨0,1⟩⟩,⟨13,1,⟨1,2⟩,⟨0,0⟩⟩,⟨3,0,⟨1,1⟩,⟨1,0⟩⟩]⟩,
 ⟨[100,105,118],14,false,[⟨2,2,⟨1,2⟩,⟨0,1⟩⟩,⟨13,1,⟨1,2⟩,⟨0,0⟩⟩,⟨18,0,⟨0,2⟩,⟨1,0⟩⟩,⟨4,0,⟨1,1⟩,⟨1,0⟩⟩]⟩,
 ⟨[109,111,100],15,false,[⟨2,2,⟨1,2⟩,⟨0,1⟩⟩,⟨13,1,⟨1,2⟩,⟨0,0⟩⟩,⟨18,0,⟨0,2⟩,⟨1,0⟩⟩,⟨5,0,⟨1,1⟩,⟨1,0⟩⟩]⟩,
 ⟨[97,110,100],16,false,[⟨2,2,⟨1,2⟩,⟨0,1⟩⟩,⟨13,1,⟨1,2⟩,⟨0,0⟩⟩,⟨6,0,⟨1,1⟩,⟨1,0⟩⟩]⟩,
 ⟨[111,114],17,false,[⟨2,2,⟨1,2⟩,⟨0,1⟩⟩,⟨13,1,⟨1,2⟩,⟨0,0⟩⟩,⟨7,0,⟨1,1⟩,⟨1,0⟩⟩]⟩,
 ⟨[120,111,114],18,false,[⟨2,2,⟨1,2⟩,⟨0,1⟩⟩,⟨13,1,⟨1,2⟩,⟨0,0⟩⟩,⟨8,0,⟨1,1⟩,⟨1,0⟩⟩]⟩,
 ⟨[108,101,102,116],19,false,[⟨2,2,⟨1,2⟩,⟨0,1⟩⟩,⟨13,1,⟨1,2⟩,⟨0,0⟩⟩,⟨9,0,⟨1,1⟩,⟨1,0⟩⟩]⟩,
 ⟨[114,105,103,104,116],20,false,[⟨2,2,⟨1,2⟩,⟨0,1⟩⟩,⟨13,1,⟨1,2⟩,⟨0,0⟩⟩,⟨10,0,⟨1,1⟩,⟨1,0⟩⟩]⟩,
 ⟨[101,113],21,false,[⟨2,2,⟨1,2⟩,⟨0,1⟩⟩,⟨13,1,⟨1,2⟩,⟨0,0⟩⟩,⟨11,0,⟨1,1⟩,⟨1,0⟩⟩]⟩,
 ⟨[108,101,115,115],22,false,[⟨2,2,⟨1,2⟩,⟨0,1⟩⟩,⟨13,1,⟨1,2⟩,⟨0,0⟩⟩,⟨12,0,⟨1,1⟩,⟨1,0⟩⟩]⟩,
 ⟨[109,111,114,101],23,false,[⟨2,2,⟨1,2⟩,⟨0,1⟩⟩,⟨13,1,⟨1,2⟩,⟨0,0⟩⟩,⟨12,0,⟨1,0⟩,⟨1,1⟩⟩]⟩,
 ⟨[122,101,114,111],24,false,[⟨11,0,⟨1,0⟩,⟨0,0⟩⟩]⟩,
 ⟨[98,111,117,110,100],25,true,[⟨12,1,⟨1,0⟩,⟨2,0⟩⟩,⟨18,0,⟨0,1⟩,⟨1,1⟩⟩]⟩,
 ⟨[106,117,109,112],26,true,[⟨0,4,⟨2,0⟩,⟨0,0⟩⟩]⟩,
 ⟨[106,122,101,114,111],27,true,[⟨19,4,⟨2,0⟩,⟨1,0⟩⟩]⟩,
 ⟨[99,97,108,108],28,true,[⟨1,3,⟨1,3⟩,⟨0,1⟩⟩,⟨12,1,⟨1,3⟩,⟨0,101⟩⟩,⟨18,0,⟨0,3⟩,⟨1,1⟩⟩,⟨14,0,⟨1,2⟩,⟨1,4⟩⟩,⟨1,2,⟨1,2⟩,⟨0,1⟩⟩,⟨0,4,⟨2,0⟩,⟨0,0⟩⟩]⟩,
 ⟨[114,101,116],29,true,[⟨2,2,⟨1,2⟩,⟨2,0⟩⟩,⟨13,4,⟨1,2⟩,⟨0,0⟩⟩,⟨2,3,⟨1,3⟩,⟨0,1⟩⟩]⟩,
 ⟨[103,101,116],30,false,[⟨15,0,⟨0,0⟩,⟨0,0⟩⟩]⟩,
 ⟨[112,117,116],31,false,[⟨16,0,⟨1,0⟩,⟨0,0⟩⟩]⟩,
 ⟨[115,116,97,99,107],32,true,[⟨0,2,⟨2,0⟩,⟨0,0⟩⟩]⟩]⟩
theorem qi3(D:Nat)(L:Hl)(s:World):AC Tryz.prog D 12 [] L s fun v L' s'=>∃ M',L'=M'++L∧∀ s2,Le D s' s2→Pub M' s2→∃ A n c,v=.agg #[.int .i64 65536,.slice A n c]∧Inss s2 A n c defT.ins:=by
 refine qai (fn:=Tryz.f12) qaG Tryz.func12 V Z Tryz.ntmps12 Z (rs:=[.cell 0 24]) Z [] Z<|Sr<|qag Z [_,_] Z Z ?_
 intro β1 s1 h1
 refine Nt<|Sr<|Jc Z Z Z (qhX D _ _ _) ?_
 rintro _ _ s2 h2 ⟨rfl,rfl⟩
 refine Jc Z Z Z (qhX D _ _ _) ?_
 rintro _ _ s3 h3 ⟨rfl,rfl⟩
 refine Jc Z Z Z (qhX D _ _ _) ?_
 rintro _ _ s4 h4 ⟨rfl,rfl⟩
 refine Jc Z Z Z (qhX D _ _ _) ?_
 rintro _ _ s5 h5 ⟨rfl,rfl⟩
 refine Jc Z Z Z (qhX D _ _ _) ?_
 rintro _ _ s6 h6 ⟨rfl,rfl⟩
 refine qag Z [_,_] Z Z ?_
 intro β7 s7 h7
 refine qag Z [_,_] Z Z ?_
 intro β8 s8 h8
 refine qag Z [_,_] Z Z ?_
 intro β9 s9 h9
 refine qag Z [_,_] Z Z ?_
 intro β10 s10 h10
 refine qag Z [_,_] Z Z ?_
 intro β11 s11 h11
 refine Wt 4 [_,_] Y9<|Wt 3 [_,_] Y9<|Wt 2 [_,_] Y9<|Wt 1 [_,_] Y9<|Wt 0 [_,_] Y9<|Nt<|Sr<|qae (qal [(_,_)] [_,_] Z Z Z Z Z Z) Z<|qag Z [_,_] Z Z ?_
 intro β12 s12 h12
 refine Wt 0 [_,_] Y9<|Nt<|Sr<|qae (qal [(_,_)] [_,_] Z Z Z Z Z Z) Z<|qag Z [_,_] Z Z ?_
 intro β13 s13 h13
 refine Wt 0 [_,_] Y9<|Nt<|Sr<|qae (qfx Z) Z<|At Z Z<|Sr<|At Z Z<|?_
 refine qpV (γ:=Nat×Option Addr×Nat) (fun g=>[(10,.pointer (some ⟨g.1,0,none⟩))]) (fun g=>[(g.1,cb [.slice g.2.1 2 g.2.2] 64)]) (fun g tw=>Acs tw g.2.1 2 g.2.2 popL) (fun _ _ _ h hl=>h.le hl) ?_ ?_
 ·
  refine qbH qaf 12 Z _ (fun _ h=>h) ?_
  intro s15 h15
  refine za 0 Z (qao Z) Z<|za 1 Z (qad 4 [_,_] Z Z Z Z Z) Z<|za 5 Z (qao Z) Z<|za 6 Z (qad 4 [_,_] Z Z Z Z Z) Z ?_
  refine qsl 2 7 10 V ?_ ?_ ?_
  ·
   refine Jb Z Tt Z Z Z (qcm D _ _ _) ?_
   rintro _ _ s16 h16 ⟨rfl,rfl⟩
   refine ⟨fun _ _ h=>h,?_⟩
   refine qsl 3 7 10 V ?_ ?_ ?_
   ·
    refine qas Z Tt [(_,_),(_,_)] [_,_,_,_] Z Z Z Z Z Z Z Z Z ?_
    intro βn s17 h17 hb6_3
    refine qsl 4 7 10 V ?_ ?_ ?_
    ·
     refine Jb Z Tt Z Z Z (qax D _ _ _ _ _ _ _ _ (qbA (hb6_3.le (Lr D)) (uD Z) (uD Z)) Dc) ?_
     rintro _ _ s18 h18 ⟨rfl,rfl⟩
     refine ⟨fun _ _ h=>h,?_⟩
     refine qcg 7 10 V ?_ ?_
     ·
      refine qas Z Tt [(_,_)] [_,_] Z Z Z Z Z Z Z Z Z ?_
      intro βn s19 h19 hb6_7
      refine qcg 8 10 V ?_ ?_
      ·
       refine Jb Z Tt Z Z Z (qax D _ _ _ _ _ _ _ _ (qdO (hb6_7.le (Lr D)) (uD Z)) Dc) ?_
       rintro _ _ s20 h20 ⟨rfl,rfl⟩
       refine ⟨fun _ _ h=>h,?_⟩
       refine qcg 9 10 V ?_ ?_
       ·
        refine qas Z Tt [(_,_),(_,_)] [_,_,_,_,_,_,_,_,_,_,_,_] Z Z Z Z Z Z Z Z Z ?_
        intro βn s21 h21 hb6_9
        refine qah 10 V<|qaY Z Tt Z [_] Z Z ?_
        intro β22 s22 h22
        refine qah 11 V<|Wu Z Tt 0 [_] Y9 (sM (qaI (qaI (sbE _))))<|qac V ?_
        refine qaa (MidN.mk (β22,_,_) [] (h15.t h16|>.t h17|>.t h18|>.t h19|>.t h20|>.t h21|>.t h22) (.cons Z sk) Pr (qcR (hb6_9.le h22) ⟨⟨(uD Z),(uD Z)⟩,⟨(uD Z),(uD Z)⟩⟩))
       refine qaY Z Tt Z [_] Z Z ?_
       intro β23 s23 h23
       refine qah 9 V<|qas Z Tt [(_,_),(_,_)] [_,_,_,_,_,_,_,_,_,_,_,_] Z Z Z Z Z Z Z Z Z ?_
       intro βn s24 h24 hb6_9
       refine qah 11 V<|Wu Z Tt 0 [_] Y9 (sM (qaI (qaI (sbE _))))<|qac V ?_
       refine qaa (MidN.mk (β23,_,_) [] (h15.t h16|>.t h17|>.t h18|>.t h19|>.t h20|>.t h23|>.t h24) (.cons Z sk) Pr (qcR (hb6_9.le (Lr D)) ⟨⟨(uD Z),(uD Z)⟩,⟨(uD Z),(uD Z)⟩⟩))
      refine qaY Z Tt Z [_] Z Z ?_
      intro β25 s25 h25
      refine qah 8 V<|Jb Z Tt Z Z Z (qax D _ _ _ _ _ _ _ _ (qdO (hb6_7.le h25) (uD Z)) Dc) ?_
      rintro _ _ s26 h26 ⟨rfl,rfl⟩
      refine ⟨fun _ _ h=>h,?_⟩
      refine qah 9 V<|qas Z Tt [(_,_),(_,_)] [_,_,_,_,_,_,_,_,_,_,_,_] Z Z Z Z Z Z Z Z Z ?_
      intro βn s27 h27 hb6_9
      refine qah 11 V<|Wu Z Tt 0 [_] Y9 (sM (qaI (qaI (sbE _))))<|qac V ?_
      refine qaa (MidN.mk (β25,_,_) [] (h15.t h16|>.t h17|>.t h18|>.t h19|>.t h25|>.t h26|>.t h27) (.cons Z sk) Pr (qcR (hb6_9.le (Lr D)) ⟨⟨(uD Z),(uD Z)⟩,⟨(uD Z),(uD Z)⟩⟩))
     refine qaY Z Tt Z [_] Z Z ?_
     intro β28 s28 h28
     refine qah 7 V<|qas Z Tt [(_,_)] [_,_] Z Z Z Z Z Z Z Z Z ?_
     intro βn s29 h29 hb6_7
     refine qah 8 V<|Jb Z Tt Z Z Z (qax D _ _ _ _ _ _ _ _ (qdO (hb6_7.le (Lr D)) (uD Z)) Dc) ?_
     rintro _ _ s30 h30 ⟨rfl,rfl⟩
     refine ⟨fun _ _ h=>h,?_⟩
     refine qah 9 V<|qas Z Tt [(_,_),(_,_)] [_,_,_,_,_,_,_,_,_,_,_,_] Z Z Z Z Z Z Z Z Z ?_
     intro βn s31 h31 hb6_9
     refine qah 11 V<|Wu Z Tt 0 [_] Y9 (sM (qaI (qaI (sbE _))))<|qac V ?_
     refine qaa (MidN.mk (β28,_,_) [] (h15.t h16|>.t h17|>.t h18|>.t h28|>.t h29|>.t h30|>.t h31) (.cons Z sk) Pr (qcR (hb6_9.le (Lr D)) ⟨⟨(uD Z),(uD Z)⟩,⟨(uD Z),(uD Z)⟩⟩))
    ·
     refine qas Z Tt [(_,_)] [_,_] Z Z Z Z Z Z Z Z Z ?_
     intro βn s32 h32 hb6_7
     refine qcg 4 10 V ?_ ?_
     ·
      refine Jb Z Tt Z Z Z (qax D _ _ _ _ _ _ _ _ (qbA (hb6_3.le h32) (uD Z) (uD Z)) Dc) ?_
      rintro _ _ s33 h33 ⟨rfl,rfl⟩
      refine ⟨fun _ _ h=>h,?_⟩
      refine qcg 8 10 V ?_ ?_
      ·
       refine Jb Z Tt Z Z Z (qax D _ _ _ _ _ _ _ _ (qdO (hb6_7.le h33) (uD Z)) Dc) ?_
       rintro _ _ s34 h34 ⟨rfl,rfl⟩
       refine ⟨fun _ _ h=>h,?_⟩
       refine qcg 9 10 V ?_ ?_
       ·
        refine qas Z Tt [(_,_),(_,_)] [_,_,_,_,_,_,_,_,_,_,_,_] Z Z Z Z Z Z Z Z Z ?_
        intro βn s35 h35 hb6_9
        refine qah 10 V<|qaY Z Tt Z [_] Z Z ?_
        intro β36 s36 h36
        refine qah 11 V<|Wu Z Tt 0 [_] Y9 (sM (qaI (qaI (sbE _))))<|qac V ?_
        refine qaa (MidN.mk (β36,_,_) [] (h15.t h16|>.t h17|>.t h32|>.t h33|>.t h34|>.t h35|>.t h36) (.cons Z sk) Pr (qcR (hb6_9.le h36) ⟨⟨(uD Z),(uD Z)⟩,⟨(uD Z),(uD Z)⟩⟩))
       refine qaY Z Tt Z [_] Z Z ?_
       intro β37 s37 h37
       refine qah 9 V<|qas Z Tt [(_,_),(_,_)] [_,_,_,_,_,_,_,_,_,_,_,_] Z Z Z Z Z Z Z Z Z ?_
       intro βn s38 h38 hb6_9
       refine qah 11 V<|Wu Z Tt 0 [_] Y9 (sM (qaI (qaI (sbE _))))<|qac V ?_
       refine qaa (MidN.mk (β37,_,_) [] (h15.t h16|>.t h17|>.t h32|>.t h33|>.t h34|>.t h37|>.t h38) (.cons Z sk) Pr (qcR (hb6_9.le (Lr D)) ⟨⟨(uD Z),(uD Z)⟩,⟨(uD Z),(uD Z)⟩⟩))
      refine qaY Z Tt Z [_] Z Z ?_
      intro β39 s39 h39
      refine qah 8 V<|Jb Z Tt Z Z Z (qax D _ _ _ _ _ _ _ _ (qdO (hb6_7.le (h33.t h39)) (uD Z)) Dc) ?_
      rintro _ _ s40 h40 ⟨rfl,rfl⟩
      refine ⟨fun _ _ h=>h,?_⟩
      refine qah 9 V<|qas Z Tt [(_,_),(_,_)] [_,_,_,_,_,_,_,_,_,_,_,_] Z Z Z Z Z Z Z Z Z ?_
      intro βn s41 h41 hb6_9
      refine qah 11 V<|Wu Z Tt 0 [_] Y9 (sM (qaI (qaI (sbE _))))<|qac V ?_
      refine qaa (MidN.mk (β39,_,_) [] (h15.t h16|>.t h17|>.t h32|>.t h33|>.t h39|>.t h40|>.t h41) (.cons Z sk) Pr (qcR (hb6_9.le (Lr D)) ⟨⟨(uD Z),(uD Z)⟩,⟨(uD Z),(uD Z)⟩⟩))
     refine qaY Z Tt Z [_] Z Z ?_
     intro β42 s42 h42
     refine qah 4 V<|Jb Z Tt Z Z Z (qax D _ _ _ _ _ _ _ _ (qbA (hb6_3.le (h32.t h42)) (uD Z) (uD Z)) Dc) ?_
     rintro _ _ s43 h43 ⟨rfl,rfl⟩
     refine ⟨fun _ _ h=>h,?_⟩
     refine qah 8 V<|Jb Z Tt Z Z Z (qax D _ _ _ _ _ _ _ _ (qdO (hb6_7.le (h42.t h43)) (uD Z)) Dc) ?_
     rintro _ _ s44 h44 ⟨rfl,rfl⟩
     refine ⟨fun _ _ h=>h,?_⟩
     refine qah 9 V<|qas Z Tt [(_,_),(_,_)] [_,_,_,_,_,_,_,_,_,_,_,_] Z Z Z Z Z Z Z Z Z ?_
     intro βn s45 h45 hb6_9
     refine qah 11 V<|Wu Z Tt 0 [_] Y9 (sM (qaI (qaI (sbE _))))<|qac V ?_
     refine qaa (MidN.mk (β42,_,_) [] (h15.t h16|>.t h17|>.t h32|>.t h42|>.t h43|>.t h44|>.t h45) (.cons Z sk) Pr (qcR (hb6_9.le (Lr D)) ⟨⟨(uD Z),(uD Z)⟩,⟨(uD Z),(uD Z)⟩⟩))
    refine qaY Z Tt Z [_] Z Z ?_
    intro β46 s46 h46
    refine qcg 4 7 V ?_ ?_
    ·
     refine Jb Z Tt Z Z Z (qax D _ _ _ _ _ _ _ _ (qbA (hb6_3.le h46) (uD Z) (uD Z)) Dc) ?_
     rintro _ _ s47 h47 ⟨rfl,rfl⟩
     refine ⟨fun _ _ h=>h,?_⟩
     refine qah 7 V<|qas Z Tt [(_,_)] [_,_] Z Z Z Z Z Z Z Z Z ?_
     intro βn s48 h48 hb6_7
     refine qah 8 V<|Jb Z Tt Z Z Z (qax D _ _ _ _ _ _ _ _ (qdO (hb6_7.le (Lr D)) (uD Z)) Dc) ?_
     rintro _ _ s49 h49 ⟨rfl,rfl⟩
     refine ⟨fun _ _ h=>h,?_⟩
     refine qah 9 V<|qas Z Tt [(_,_),(_,_)] [_,_,_,_,_,_,_,_,_,_,_,_] Z Z Z Z Z Z Z Z Z ?_
     intro βn s50 h50 hb6_9
     refine qah 11 V<|Wu Z Tt 0 [_] Y9 (sM (qaI (qaI (sbE _))))<|qac V ?_
     refine qaa (MidN.mk (β46,_,_) [] (h15.t h16|>.t h17|>.t h46|>.t h47|>.t h48|>.t h49|>.t h50) (.cons Z sk) Pr (qcR (hb6_9.le (Lr D)) ⟨⟨(uD Z),(uD Z)⟩,⟨(uD Z),(uD Z)⟩⟩))
    refine qas Z Tt [(_,_)] [_,_] Z Z Z Z Z Z Z Z Z ?_
    intro βn s51 h51 hb6_7
    refine qah 4 V<|Jb Z Tt Z Z Z (qax D _ _ _ _ _ _ _ _ (qbA (hb6_3.le (h46.t h51)) (uD Z) (uD Z)) Dc) ?_
    rintro _ _ s52 h52 ⟨rfl,rfl⟩
    refine ⟨fun _ _ h=>h,?_⟩
    refine qah 8 V<|Jb Z Tt Z Z Z (qax D _ _ _ _ _ _ _ _ (qdO (hb6_7.le h52) (uD Z)) Dc) ?_
    rintro _ _ s53 h53 ⟨rfl,rfl⟩
    refine ⟨fun _ _ h=>h,?_⟩
    refine qah 9 V<|qas Z Tt [(_,_),(_,_)] [_,_,_,_,_,_,_,_,_,_,_,_] Z Z Z Z Z Z Z Z Z ?_
    intro βn s54 h54 hb6_9
    refine qah 11 V<|Wu Z Tt 0 [_] Y9 (sM (qaI (qaI (sbE _))))<|qac V ?_
    refine qaa (MidN.mk (β46,_,_) [] (h15.t h16|>.t h17|>.t h46|>.t h51|>.t h52|>.t h53|>.t h54) (.cons Z sk) Pr (qcR (hb6_9.le (Lr D)) ⟨⟨(uD Z),(uD Z)⟩,⟨(uD Z),(uD Z)⟩⟩))
   ·
    refine qas Z Tt [(_,_)] [_,_] Z Z Z Z Z Z Z Z Z ?_
    intro βn s55 h55 hb6_7
    refine qcg 3 10 V ?_ ?_
    ·
     refine qas Z Tt [(_,_),(_,_)] [_,_,_,_] Z Z Z Z Z Z Z Z Z ?_
     intro βn s56 h56 hb6_3
     refine qcg 4 10 V ?_ ?_
     ·
      refine Jb Z Tt Z Z Z (qax D _ _ _ _ _ _ _ _ (qbA (hb6_3.le (Lr D)) (uD Z) (uD Z)) Dc) ?_
      rintro _ _ s57 h57 ⟨rfl,rfl⟩
      refine ⟨fun _ _ h=>h,?_⟩
      refine qcg 8 10 V ?_ ?_
      ·
       refine Jb Z Tt Z Z Z (qax D _ _ _ _ _ _ _ _ (qdO (hb6_7.le (h56.t h57)) (uD Z)) Dc) ?_
       rintro _ _ s58 h58 ⟨rfl,rfl⟩
       refine ⟨fun _ _ h=>h,?_⟩
       refine qcg 9 10 V ?_ ?_
       ·
        refine qas Z Tt [(_,_),(_,_)] [_,_,_,_,_,_,_,_,_,_,_,_] Z Z Z Z Z Z Z Z Z ?_
        intro βn s59 h59 hb6_9
        refine qah 10 V<|qaY Z Tt Z [_] Z Z ?_
        intro β60 s60 h60
        refine qah 11 V<|Wu Z Tt 0 [_] Y9 (sM (qaI (qaI (sbE _))))<|qac V ?_
        refine qaa (MidN.mk (β60,_,_) [] (h15.t h16|>.t h55|>.t h56|>.t h57|>.t h58|>.t h59|>.t h60) (.cons Z sk) Pr (qcR (hb6_9.le h60) ⟨⟨(uD Z),(uD Z)⟩,⟨(uD Z),(uD Z)⟩⟩))
       refine qaY Z Tt Z [_] Z Z ?_
       intro β61 s61 h61
       refine qah 9 V<|qas Z Tt [(_,_),(_,_)] [_,_,_,_,_,_,_,_,_,_,_,_] Z Z Z Z Z Z Z Z Z ?_
       intro βn s62 h62 hb6_9
       refine qah 11 V<|Wu Z Tt 0 [_] Y9 (sM (qaI (qaI (sbE _))))<|qac V ?_
       refine qaa (MidN.mk (β61,_,_) [] (h15.t h16|>.t h55|>.t h56|>.t h57|>.t h58|>.t h61|>.t h62) (.cons Z sk) Pr (qcR (hb6_9.le (Lr D)) ⟨⟨(uD Z),(uD Z)⟩,⟨(uD Z),(uD Z)⟩⟩))
      refine qaY Z Tt Z [_] Z Z ?_
      intro β63 s63 h63
      refine qah 8 V<|Jb Z Tt Z Z Z (qax D _ _ _ _ _ _ _ _ (qdO (hb6_7.le (h56.t h57|>.t h63)) (uD Z)) Dc) ?_
      rintro _ _ s64 h64 ⟨rfl,rfl⟩
      refine ⟨fun _ _ h=>h,?_⟩
      refine qah 9 V<|qas Z Tt [(_,_),(_,_)] [_,_,_,_,_,_,_,_,_,_,_,_] Z Z Z Z Z Z Z Z Z ?_
      intro βn s65 h65 hb6_9
      refine qah 11 V<|Wu Z Tt 0 [_] Y9 (sM (qaI (qaI (sbE _))))<|qac V ?_
      refine qaa (MidN.mk (β63,_,_) [] (h15.t h16|>.t h55|>.t h56|>.t h57|>.t h63|>.t h64|>.t h65) (.cons Z sk) Pr (qcR (hb6_9.le (Lr D)) ⟨⟨(uD Z),(uD Z)⟩,⟨(uD Z),(uD Z)⟩⟩))
     refine qaY Z Tt Z [_] Z Z ?_
     intro β66 s66 h66
     refine qah 4 V<|Jb Z Tt Z Z Z (qax D _ _ _ _ _ _ _ _ (qbA (hb6_3.le h66) (uD Z) (uD Z)) Dc) ?_
     rintro _ _ s67 h67 ⟨rfl,rfl⟩
     refine ⟨fun _ _ h=>h,?_⟩
     refine qah 8 V<|Jb Z Tt Z Z Z (qax D _ _ _ _ _ _ _ _ (qdO (hb6_7.le (h56.t h66|>.t h67)) (uD Z)) Dc) ?_
     rintro _ _ s68 h68 ⟨rfl,rfl⟩
     refine ⟨fun _ _ h=>h,?_⟩
     refine qah 9 V<|qas Z Tt [(_,_),(_,_)] [_,_,_,_,_,_,_,_,_,_,_,_] Z Z Z Z Z Z Z Z Z ?_
     intro βn s69 h69 hb6_9
     refine qah 11 V<|Wu Z Tt 0 [_] Y9 (sM (qaI (qaI (sbE _))))<|qac V ?_
     refine qaa (MidN.mk (β66,_,_) [] (h15.t h16|>.t h55|>.t h56|>.t h66|>.t h67|>.t h68|>.t h69) (.cons Z sk) Pr (qcR (hb6_9.le (Lr D)) ⟨⟨(uD Z),(uD Z)⟩,⟨(uD Z),(uD Z)⟩⟩))
    refine qaY Z Tt Z [_] Z Z ?_
    intro β70 s70 h70
    refine qah 3 V<|qas Z Tt [(_,_),(_,_)] [_,_,_,_] Z Z Z Z Z Z Z Z Z ?_
    intro βn s71 h71 hb6_3
    refine qah 4 V<|Jb Z Tt Z Z Z (qax D _ _ _ _ _ _ _ _ (qbA (hb6_3.le (Lr D)) (uD Z) (uD Z)) Dc) ?_
    rintro _ _ s72 h72 ⟨rfl,rfl⟩
    refine ⟨fun _ _ h=>h,?_⟩
    refine qah 8 V<|Jb Z Tt Z Z Z (qax D _ _ _ _ _ _ _ _ (qdO (hb6_7.le (h70.t h71|>.t h72)) (uD Z)) Dc) ?_
    rintro _ _ s73 h73 ⟨rfl,rfl⟩
    refine ⟨fun _ _ h=>h,?_⟩
    refine qah 9 V<|qas Z Tt [(_,_),(_,_)] [_,_,_,_,_,_,_,_,_,_,_,_] Z Z Z Z Z Z Z Z Z ?_
    intro βn s74 h74 hb6_9
    refine qah 11 V<|Wu Z Tt 0 [_] Y9 (sM (qaI (qaI (sbE _))))<|qac V ?_
    refine qaa (MidN.mk (β70,_,_) [] (h15.t h16|>.t h55|>.t h70|>.t h71|>.t h72|>.t h73|>.t h74) (.cons Z sk) Pr (qcR (hb6_9.le (Lr D)) ⟨⟨(uD Z),(uD Z)⟩,⟨(uD Z),(uD Z)⟩⟩))
   refine qaY Z Tt Z [_] Z Z ?_
   intro β75 s75 h75
   refine qcg 3 7 V ?_ ?_
   ·
    refine qas Z Tt [(_,_),(_,_)] [_,_,_,_] Z Z Z Z Z Z Z Z Z ?_
    intro βn s76 h76 hb6_3
    refine qcg 4 7 V ?_ ?_
    ·
     refine Jb Z Tt Z Z Z (qax D _ _ _ _ _ _ _ _ (qbA (hb6_3.le (Lr D)) (uD Z) (uD Z)) Dc) ?_
     rintro _ _ s77 h77 ⟨rfl,rfl⟩
     refine ⟨fun _ _ h=>h,?_⟩
     refine qah 7 V<|qas Z Tt [(_,_)] [_,_] Z Z Z Z Z Z Z Z Z ?_
     intro βn s78 h78 hb6_7
     refine qah 8 V<|Jb Z Tt Z Z Z (qax D _ _ _ _ _ _ _ _ (qdO (hb6_7.le (Lr D)) (uD Z)) Dc) ?_
     rintro _ _ s79 h79 ⟨rfl,rfl⟩
     refine ⟨fun _ _ h=>h,?_⟩
     refine qah 9 V<|qas Z Tt [(_,_),(_,_)] [_,_,_,_,_,_,_,_,_,_,_,_] Z Z Z Z Z Z Z Z Z ?_
     intro βn s80 h80 hb6_9
     refine qah 11 V<|Wu Z Tt 0 [_] Y9 (sM (qaI (qaI (sbE _))))<|qac V ?_
     refine qaa (MidN.mk (β75,_,_) [] (h15.t h16|>.t h75|>.t h76|>.t h77|>.t h78|>.t h79|>.t h80) (.cons Z sk) Pr (qcR (hb6_9.le (Lr D)) ⟨⟨(uD Z),(uD Z)⟩,⟨(uD Z),(uD Z)⟩⟩))
    refine qas Z Tt [(_,_)] [_,_] Z Z Z Z Z Z Z Z Z ?_
    intro βn s81 h81 hb6_7
    refine qah 4 V<|Jb Z Tt Z Z Z (qax D _ _ _ _ _ _ _ _ (qbA (hb6_3.le h81) (uD Z) (uD Z)) Dc) ?_
    rintro _ _ s82 h82 ⟨rfl,rfl⟩
    refine ⟨fun _ _ h=>h,?_⟩
    refine qah 8 V<|Jb Z Tt Z Z Z (qax D _ _ _ _ _ _ _ _ (qdO (hb6_7.le h82) (uD Z)) Dc) ?_
    rintro _ _ s83 h83 ⟨rfl,rfl⟩
    refine ⟨fun _ _ h=>h,?_⟩
    refine qah 9 V<|qas Z Tt [(_,_),(_,_)] [_,_,_,_,_,_,_,_,_,_,_,_] Z Z Z Z Z Z Z Z Z ?_
    intro βn s84 h84 hb6_9
    refine qah 11 V<|Wu Z Tt 0 [_] Y9 (sM (qaI (qaI (sbE _))))<|qac V ?_
    refine qaa (MidN.mk (β75,_,_) [] (h15.t h16|>.t h75|>.t h76|>.t h81|>.t h82|>.t h83|>.t h84) (.cons Z sk) Pr (qcR (hb6_9.le (Lr D)) ⟨⟨(uD Z),(uD Z)⟩,⟨(uD Z),(uD Z)⟩⟩))
   refine qas Z Tt [(_,_)] [_,_] Z Z Z Z Z Z Z Z Z ?_
   intro βn s85 h85 hb6_7
   refine qah 3 V<|qas Z Tt [(_,_),(_,_)] [_,_,_,_] Z Z Z Z Z Z Z Z Z ?_
   intro βn s86 h86 hb6_3
   refine qah 4 V<|Jb Z Tt Z Z Z (qax D _ _ _ _ _ _ _ _ (qbA (hb6_3.le (Lr D)) (uD Z) (uD Z)) Dc) ?_
   rintro _ _ s87 h87 ⟨rfl,rfl⟩
   refine ⟨fun _ _ h=>h,?_⟩
   refine qah 8 V<|Jb Z Tt Z Z Z (qax D _ _ _ _ _ _ _ _ (qdO (hb6_7.le (h86.t h87)) (uD Z)) Dc) ?_
   rintro _ _ s88 h88 ⟨rfl,rfl⟩
   refine ⟨fun _ _ h=>h,?_⟩
   refine qah 9 V<|qas Z Tt [(_,_),(_,_)] [_,_,_,_,_,_,_,_,_,_,_,_] Z Z Z Z Z Z Z Z Z ?_
   intro βn s89 h89 hb6_9
   refine qah 11 V<|Wu Z Tt 0 [_] Y9 (sM (qaI (qaI (sbE _))))<|qac V ?_
   refine qaa (MidN.mk (β75,_,_) [] (h15.t h16|>.t h75|>.t h85|>.t h86|>.t h87|>.t h88|>.t h89) (.cons Z sk) Pr (qcR (hb6_9.le (Lr D)) ⟨⟨(uD Z),(uD Z)⟩,⟨(uD Z),(uD Z)⟩⟩))
  ·
   refine qas Z Tt [(_,_)] [_,_] Z Z Z Z Z Z Z Z Z ?_
   intro βn s90 h90 hb6_7
   refine qcg 2 10 V ?_ ?_
   ·
    refine Jb Z Tt Z Z Z (qcm D _ _ _) ?_
    rintro _ _ s91 h91 ⟨rfl,rfl⟩
    refine ⟨fun _ _ h=>h,?_⟩
    refine qcg 3 10 V ?_ ?_
    ·
     refine qas Z Tt [(_,_),(_,_)] [_,_,_,_] Z Z Z Z Z Z Z Z Z ?_
     intro βn s92 h92 hb6_3
     refine qcg 4 10 V ?_ ?_
     ·
      refine Jb Z Tt Z Z Z (qax D _ _ _ _ _ _ _ _ (qbA (hb6_3.le (Lr D)) (uD Z) (uD Z)) Dc) ?_
      rintro _ _ s93 h93 ⟨rfl,rfl⟩
      refine ⟨fun _ _ h=>h,?_⟩
      refine qcg 8 10 V ?_ ?_
      ·
       refine Jb Z Tt Z Z Z (qax D _ _ _ _ _ _ _ _ (qdO (hb6_7.le (h91.t h92|>.t h93)) (uD Z)) Dc) ?_
       rintro _ _ s94 h94 ⟨rfl,rfl⟩
       refine ⟨fun _ _ h=>h,?_⟩
       refine qcg 9 10 V ?_ ?_
       ·
        refine qas Z Tt [(_,_),(_,_)] [_,_,_,_,_,_,_,_,_,_,_,_] Z Z Z Z Z Z Z Z Z ?_
        intro βn s95 h95 hb6_9
        refine qah 10 V<|qaY Z Tt Z [_] Z Z ?_
        intro β96 s96 h96
        refine qah 11 V<|Wu Z Tt 0 [_] Y9 (sM (qaI (qaI (sbE _))))<|qac V ?_
        refine qaa (MidN.mk (β96,_,_) [] (h15.t h90|>.t h91|>.t h92|>.t h93|>.t h94|>.t h95|>.t h96) (.cons Z sk) Pr (qcR (hb6_9.le h96) ⟨⟨(uD Z),(uD Z)⟩,⟨(uD Z),(uD Z)⟩⟩))
       refine qaY Z Tt Z [_] Z Z ?_
       intro β97 s97 h97
       refine qah 9 V<|qas Z Tt [(_,_),(_,_)] [_,_,_,_,_,_,_,_,_,_,_,_] Z Z Z Z Z Z Z Z Z ?_
       intro βn s98 h98 hb6_9
       refine qah 11 V<|Wu Z Tt 0 [_] Y9 (sM (qaI (qaI (sbE _))))<|qac V ?_
       refine qaa (MidN.mk (β97,_,_) [] (h15.t h90|>.t h91|>.t h92|>.t h93|>.t h94|>.t h97|>.t h98) (.cons Z sk) Pr (qcR (hb6_9.le (Lr D)) ⟨⟨(uD Z),(uD Z)⟩,⟨(uD Z),(uD Z)⟩⟩))
      refine qaY Z Tt Z [_] Z Z ?_
      intro β99 s99 h99
      refine qah 8 V<|Jb Z Tt Z Z Z (qax D _ _ _ _ _ _ _ _ (qdO (hb6_7.le (h91.t h92|>.t h93|>.t h99)) (uD Z)) Dc) ?_
      rintro _ _ s100 h100 ⟨rfl,rfl⟩
      refine ⟨fun _ _ h=>h,?_⟩
      refine qah 9 V<|qas Z Tt [(_,_),(_,_)] [_,_,_,_,_,_,_,_,_,_,_,_] Z Z Z Z Z Z Z Z Z ?_
      intro βn s101 h101 hb6_9
      refine qah 11 V<|Wu Z Tt 0 [_] Y9 (sM (qaI (qaI (sbE _))))<|qac V ?_
      refine qaa (MidN.mk (β99,_,_) [] (h15.t h90|>.t h91|>.t h92|>.t h93|>.t h99|>.t h100|>.t h101) (.cons Z sk) Pr (qcR (hb6_9.le (Lr D)) ⟨⟨(uD Z),(uD Z)⟩,⟨(uD Z),(uD Z)⟩⟩))
     refine qaY Z Tt Z [_] Z Z ?_
     intro β102 s102 h102
     refine qah 4 V<|Jb Z Tt Z Z Z (qax D _ _ _ _ _ _ _ _ (qbA (hb6_3.le h102) (uD Z) (uD Z)) Dc) ?_
     rintro _ _ s103 h103 ⟨rfl,rfl⟩
     refine ⟨fun _ _ h=>h,?_⟩
     refine qah 8 V<|Jb Z Tt Z Z Z (qax D _ _ _ _ _ _ _ _ (qdO (hb6_7.le (h91.t h92|>.t h102|>.t h103)) (uD Z)) Dc) ?_
     rintro _ _ s104 h104 ⟨rfl,rfl⟩
     refine ⟨fun _ _ h=>h,?_⟩
     refine qah 9 V<|qas Z Tt [(_,_),(_,_)] [_,_,_,_,_,_,_,_,_,_,_,_] Z Z Z Z Z Z Z Z Z ?_
     intro βn s105 h105 hb6_9
     refine qah 11 V<|Wu Z Tt 0 [_] Y9 (sM (qaI (qaI (sbE _))))<|qac V ?_
     refine qaa (MidN.mk (β102,_,_) [] (h15.t h90|>.t h91|>.t h92|>.t h102|>.t h103|>.t h104|>.t h105) (.cons Z sk) Pr (qcR (hb6_9.le (Lr D)) ⟨⟨(uD Z),(uD Z)⟩,⟨(uD Z),(uD Z)⟩⟩))
    refine qaY Z Tt Z [_] Z Z ?_
    intro β106 s106 h106
    refine qah 3 V<|qas Z Tt [(_,_),(_,_)] [_,_,_,_] Z Z Z Z Z Z Z Z Z ?_
    intro βn s107 h107 hb6_3
    refine qah 4 V<|Jb Z Tt Z Z Z (qax D _ _ _ _ _ _ _ _ (qbA (hb6_3.le (Lr D)) (uD Z) (uD Z)) Dc) ?_
    rintro _ _ s108 h108 ⟨rfl,rfl⟩
    refine ⟨fun _ _ h=>h,?_⟩
    refine qah 8 V<|Jb Z Tt Z Z Z (qax D _ _ _ _ _ _ _ _ (qdO (hb6_7.le (h91.t h106|>.t h107|>.t h108)) (uD Z)) Dc) ?_
    rintro _ _ s109 h109 ⟨rfl,rfl⟩
    refine ⟨fun _ _ h=>h,?_⟩
    refine qah 9 V<|qas Z Tt [(_,_),(_,_)] [_,_,_,_,_,_,_,_,_,_,_,_] Z Z Z Z Z Z Z Z Z ?_
    intro βn s110 h110 hb6_9
    refine qah 11 V<|Wu Z Tt 0 [_] Y9 (sM (qaI (qaI (sbE _))))<|qac V ?_
    refine qaa (MidN.mk (β106,_,_) [] (h15.t h90|>.t h91|>.t h106|>.t h107|>.t h108|>.t h109|>.t h110) (.cons Z sk) Pr (qcR (hb6_9.le (Lr D)) ⟨⟨(uD Z),(uD Z)⟩,⟨(uD Z),(uD Z)⟩⟩))
   refine qaY Z Tt Z [_] Z Z ?_
   intro β111 s111 h111
   refine qah 2 V<|Jb Z Tt Z Z Z (qcm D _ _ _) ?_
   rintro _ _ s112 h112 ⟨rfl,rfl⟩
   refine ⟨fun _ _ h=>h,?_⟩
   refine qah 3 V<|qas Z Tt [(_,_),(_,_)] [_,_,_,_] Z Z Z Z Z Z Z Z Z ?_
   intro βn s113 h113 hb6_3
   refine qah 4 V<|Jb Z Tt Z Z Z (qax D _ _ _ _ _ _ _ _ (qbA (hb6_3.le (Lr D)) (uD Z) (uD Z)) Dc) ?_
   rintro _ _ s114 h114 ⟨rfl,rfl⟩
   refine ⟨fun _ _ h=>h,?_⟩
   refine qah 8 V<|Jb Z Tt Z Z Z (qax D _ _ _ _ _ _ _ _ (qdO (hb6_7.le (h111.t h112|>.t h113|>.t h114)) (uD Z)) Dc) ?_
   rintro _ _ s115 h115 ⟨rfl,rfl⟩
   refine ⟨fun _ _ h=>h,?_⟩
   refine qah 9 V<|qas Z Tt [(_,_),(_,_)] [_,_,_,_,_,_,_,_,_,_,_,_] Z Z Z Z Z Z Z Z Z ?_
   intro βn s116 h116 hb6_9
   refine qah 11 V<|Wu Z Tt 0 [_] Y9 (sM (qaI (qaI (sbE _))))<|qac V ?_
   refine qaa (MidN.mk (β111,_,_) [] (h15.t h90|>.t h111|>.t h112|>.t h113|>.t h114|>.t h115|>.t h116) (.cons Z sk) Pr (qcR (hb6_9.le (Lr D)) ⟨⟨(uD Z),(uD Z)⟩,⟨(uD Z),(uD Z)⟩⟩))
  refine qaY Z Tt Z [_] Z Z ?_
  intro β117 s117 h117
  refine qcg 2 7 V ?_ ?_
  ·
   refine Jb Z Tt Z Z Z (qcm D _ _ _) ?_
   rintro _ _ s118 h118 ⟨rfl,rfl⟩
   refine ⟨fun _ _ h=>h,?_⟩
   refine qcg 3 7 V ?_ ?_
   ·
    refine qas Z Tt [(_,_),(_,_)] [_,_,_,_] Z Z Z Z Z Z Z Z Z ?_
    intro βn s119 h119 hb6_3
    refine qcg 4 7 V ?_ ?_
    ·
     refine Jb Z Tt Z Z Z (qax D _ _ _ _ _ _ _ _ (qbA (hb6_3.le (Lr D)) (uD Z) (uD Z)) Dc) ?_
     rintro _ _ s120 h120 ⟨rfl,rfl⟩
     refine ⟨fun _ _ h=>h,?_⟩
     refine qah 7 V<|qas Z Tt [(_,_)] [_,_] Z Z Z Z Z Z Z Z Z ?_
     intro βn s121 h121 hb6_7
     refine qah 8 V<|Jb Z Tt Z Z Z (qax D _ _ _ _ _ _ _ _ (qdO (hb6_7.le (Lr D)) (uD Z)) Dc) ?_
     rintro _ _ s122 h122 ⟨rfl,rfl⟩
     refine ⟨fun _ _ h=>h,?_⟩
     refine qah 9 V<|qas Z Tt [(_,_),(_,_)] [_,_,_,_,_,_,_,_,_,_,_,_] Z Z Z Z Z Z Z Z Z ?_
     intro βn s123 h123 hb6_9
     refine qah 11 V<|Wu Z Tt 0 [_] Y9 (sM (qaI (qaI (sbE _))))<|qac V ?_
     refine qaa (MidN.mk (β117,_,_) [] (h15.t h117|>.t h118|>.t h119|>.t h120|>.t h121|>.t h122|>.t h123) (.cons Z sk) Pr (qcR (hb6_9.le (Lr D)) ⟨⟨(uD Z),(uD Z)⟩,⟨(uD Z),(uD Z)⟩⟩))
    refine qas Z Tt [(_,_)] [_,_] Z Z Z Z Z Z Z Z Z ?_
    intro βn s124 h124 hb6_7
    refine qah 4 V<|Jb Z Tt Z Z Z (qax D _ _ _ _ _ _ _ _ (qbA (hb6_3.le h124) (uD Z) (uD Z)) Dc) ?_
    rintro _ _ s125 h125 ⟨rfl,rfl⟩
    refine ⟨fun _ _ h=>h,?_⟩
    refine qah 8 V<|Jb Z Tt Z Z Z (qax D _ _ _ _ _ _ _ _ (qdO (hb6_7.le h125) (uD Z)) Dc) ?_
    rintro _ _ s126 h126 ⟨rfl,rfl⟩
    refine ⟨fun _ _ h=>h,?_⟩
    refine qah 9 V<|qas Z Tt [(_,_),(_,_)] [_,_,_,_,_,_,_,_,_,_,_,_] Z Z Z Z Z Z Z Z Z ?_
    intro βn s127 h127 hb6_9
    refine qah 11 V<|Wu Z Tt 0 [_] Y9 (sM (qaI (qaI (sbE _))))<|qac V ?_
    refine qaa (MidN.mk (β117,_,_) [] (h15.t h117|>.t h118|>.t h119|>.t h124|>.t h125|>.t h126|>.t h127) (.cons Z sk) Pr (qcR (hb6_9.le (Lr D)) ⟨⟨(uD Z),(uD Z)⟩,⟨(uD Z),(uD Z)⟩⟩))
   refine qas Z Tt [(_,_)] [_,_] Z Z Z Z Z Z Z Z Z ?_
   intro βn s128 h128 hb6_7
   refine qah 3 V<|qas Z Tt [(_,_),(_,_)] [_,_,_,_] Z Z Z Z Z Z Z Z Z ?_
   intro βn s129 h129 hb6_3
   refine qah 4 V<|Jb Z Tt Z Z Z (qax D _ _ _ _ _ _ _ _ (qbA (hb6_3.le (Lr D)) (uD Z) (uD Z)) Dc) ?_
   rintro _ _ s130 h130 ⟨rfl,rfl⟩
   refine ⟨fun _ _ h=>h,?_⟩
   refine qah 8 V<|Jb Z Tt Z Z Z (qax D _ _ _ _ _ _ _ _ (qdO (hb6_7.le (h129.t h130)) (uD Z)) Dc) ?_
   rintro _ _ s131 h131 ⟨rfl,rfl⟩
   refine ⟨fun _ _ h=>h,?_⟩
   refine qah 9 V<|qas Z Tt [(_,_),(_,_)] [_,_,_,_,_,_,_,_,_,_,_,_] Z Z Z Z Z Z Z Z Z ?_
   intro βn s132 h132 hb6_9
   refine qah 11 V<|Wu Z Tt 0 [_] Y9 (sM (qaI (qaI (sbE _))))<|qac V ?_
   refine qaa (MidN.mk (β117,_,_) [] (h15.t h117|>.t h118|>.t h128|>.t h129|>.t h130|>.t h131|>.t h132) (.cons Z sk) Pr (qcR (hb6_9.le (Lr D)) ⟨⟨(uD Z),(uD Z)⟩,⟨(uD Z),(uD Z)⟩⟩))
  refine qas Z Tt [(_,_)] [_,_] Z Z Z Z Z Z Z Z Z ?_
  intro βn s133 h133 hb6_7
  refine qah 2 V<|Jb Z Tt Z Z Z (qcm D _ _ _) ?_
  rintro _ _ s134 h134 ⟨rfl,rfl⟩
  refine ⟨fun _ _ h=>h,?_⟩
  refine qah 3 V<|qas Z Tt [(_,_),(_,_)] [_,_,_,_] Z Z Z Z Z Z Z Z Z ?_
  intro βn s135 h135 hb6_3
  refine qah 4 V<|Jb Z Tt Z Z Z (qax D _ _ _ _ _ _ _ _ (qbA (hb6_3.le (Lr D)) (uD Z) (uD Z)) Dc) ?_
  rintro _ _ s136 h136 ⟨rfl,rfl⟩
  refine ⟨fun _ _ h=>h,?_⟩
  refine qah 8 V<|Jb Z Tt Z Z Z (qax D _ _ _ _ _ _ _ _ (qdO (hb6_7.le (h134.t h135|>.t h136)) (uD Z)) Dc) ?_
  rintro _ _ s137 h137 ⟨rfl,rfl⟩
  refine ⟨fun _ _ h=>h,?_⟩
  refine qah 9 V<|qas Z Tt [(_,_),(_,_)] [_,_,_,_,_,_,_,_,_,_,_,_] Z Z Z Z Z Z Z Z Z ?_
  intro βn s138 h138 hb6_9
  refine qah 11 V<|Wu Z Tt 0 [_] Y9 (sM (qaI (qaI (sbE _))))<|qac V ?_
  refine qaa (MidN.mk (β117,_,_) [] (h15.t h117|>.t h133|>.t h134|>.t h135|>.t h136|>.t h137|>.t h138) (.cons Z sk) Pr (qcR (hb6_9.le (Lr D)) ⟨⟨(uD Z),(uD Z)⟩,⟨(uD Z),(uD Z)⟩⟩))
 intro g s14 h14 I14
 simp only [cQ9,nQ9]
 obtain ⟨bP,APo,cPo⟩:=g
 have hPop:=I14
 simp only at hPop
 dsimp only
 refine Sr<|qae (qfx Z) Z<|At Z Z<|qbE 8<|qbE 8<|qbE 8<|qbE 8<|qbE 8<|qbE 8<|qbE 8 ?_
 have hOj:FL.Own 66 4 [] (.slice none 0 0) 0 ([]:List (List Value)).flatten:=Own.nil
 have hAj:All2 (fun x cs=>cs.length=4∧InsR s14 x cs) (defT.ins.take 0) ([]:List (List Value)):=All2.nil
 refine qa1 [_,_,_,_,_,_,_,_] Z (γ:=Value×Hl×List (List Value)) (fun g=>(β13,cb [.int .i64 65536,g.1] 24)::(g.2.1++L)) (fun g tw=>FL.Own 66 4 g.2.1 g.1 1 g.2.2.flatten∧All2 (fun x cs=>cs.length=4∧InsR tw x cs) (defT.ins.take 1) g.2.2) (fun _ _ _ h hl=>⟨h.1,qar h.2 hl⟩) ?_ ?_
 ·
  refine Zr<|Zqm Z Z<|Zqm Z Z<|qae (qad 5 [_,_] Z Z Z Z Z) Z<|qa0 [(_,_)] [_,_] Z Z Z Z Z Z Z Z Z ?_
  intro βn s140 h140 hb8_3
  refine Jc Z Z Z (qax D _ _ _ _ _ _ _ _ (qdO (hb8_3.le (Lr D)) (uD Z)) Dc) ?_
  rintro _ _ s141 h141 ⟨rfl,rfl⟩
  refine qa0 [(_,_)] [_,_,_,_,_,_] Z Z Z Z Z Z Z Z Z ?_
  intro βn s142 h142 hb8_5
  refine qaz (first:=[]) (captured:=[_]) Z Z Z (AC.mid [_,_,_,_,_,_,_,_] (_::[]) L (qaR D _ _ _ _ _ _ _ _ _ [] 0 _ hOj Dc)) ?_
  rintro _ _ s143 h143 ⟨_,rfl,rfl,v2,M2,rfl,o2⟩
  simp only [cQ9,nQ9]
  refine Zn ?_
  refine qaa (MidF.mk (v2,M2,[]++[_]) [] (h140.t h141|>.t h142|>.t h143) sk Pr ⟨by rw [qap];exact o2,by rw [qay (j:=0) (l:=defT.ins) Z];exact All2.snoc (qar hAj (h140.t h141|>.t h142|>.t h143)) ⟨Z,_,_,_,Z,(qgA (hb8_5.le h143) ⟨(uD Z),(uD Z)⟩),by decide,⟨by decide,by decide⟩⟩⟩)
 intro g s139 h139 I139
 simp only [cQ9,nQ9]
 obtain ⟨vj,Mj,css⟩:=g
 obtain ⟨hOj,hAj⟩:=I139
 simp only at hOj hAj
 dsimp only
 refine qa1 [_,_,_,_,_,_,_,_] Z (γ:=Value×Hl×List (List Value)) (fun g=>(β13,cb [.int .i64 65536,g.1] 24)::(g.2.1++L)) (fun g tw=>FL.Own 66 4 g.2.1 g.1 2 g.2.2.flatten∧All2 (fun x cs=>cs.length=4∧InsR tw x cs) (defT.ins.take 2) g.2.2) (fun _ _ _ h hl=>⟨h.1,qar h.2 hl⟩) ?_ ?_
 ·
  refine Zr<|Zqm Z Z<|Zqm Z Z<|qae (qad 0 [_,_] Z Z Z Z Z) Z<|qa0 [(_,_)] [_,_] Z Z Z Z Z Z Z Z Z ?_
  intro βn s145 h145 hb9_3
  refine Jc Z Z Z (qax D _ _ _ _ _ _ _ _ (qdO (hb9_3.le (Lr D)) (uD Z)) Dc) ?_
  rintro _ _ s146 h146 ⟨rfl,rfl⟩
  refine qa0 [(_,_)] [_,_,_,_,_,_] Z Z Z Z Z Z Z Z Z ?_
  intro βn s147 h147 hb9_5
  refine qaz (first:=[]) (captured:=[_]) Z Z Z (AC.mid [_,_,_,_,_,_,_,_] (_::Mj) L (qaR D _ _ _ _ _ _ _ _ _ Mj 1 _ hOj Dc)) ?_
  rintro _ _ s148 h148 ⟨_,rfl,rfl,v2,M2,rfl,o2⟩
  simp only [cQ9,nQ9]
  refine Zn ?_
  refine qaa (MidF.mk (v2,M2,css++[_]) [] (h145.t h146|>.t h147|>.t h148) sk Pr ⟨by rw [qap];exact o2,by rw [qay (j:=1) (l:=defT.ins) Z];exact All2.snoc (qar hAj (h145.t h146|>.t h147|>.t h148)) ⟨Z,_,_,_,Z,(qgA (hb9_5.le h148) ⟨(uD Z),(uD Z)⟩),by decide,⟨by decide,by decide⟩⟩⟩)
 intro g s144 h144 I144
 simp only [cQ9,nQ9]
 obtain ⟨vj,Mj,css⟩:=g
 obtain ⟨hOj,hAj⟩:=I144
 simp only at hOj hAj
 dsimp only
 refine qa1 [_,_,_,_,_,_,_,_] Z (γ:=Value×Hl×List (List Value)) (fun g=>(β13,cb [.int .i64 65536,g.1] 24)::(g.2.1++L)) (fun g tw=>FL.Own 66 4 g.2.1 g.1 3 g.2.2.flatten∧All2 (fun x cs=>cs.length=4∧InsR tw x cs) (defT.ins.take 3) g.2.2) (fun _ _ _ h hl=>⟨h.1,qar h.2 hl⟩) ?_ ?_
 ·
  refine Zr<|Zqm Z Z<|Zqm Z Z<|qae (qad 0 [_,_] Z Z Z Z Z) Z<|qa0 [(_,_)] [_,_] Z Z Z Z Z Z Z Z Z ?_
  intro βn s150 h150 hb10_3
  refine Jc Z Z Z (qax D _ _ _ _ _ _ _ _ (qdO (hb10_3.le (Lr D)) (uD Z)) Dc) ?_
  rintro _ _ s151 h151 ⟨rfl,rfl⟩
  refine qa0 [(_,_)] [_,_,_,_,_,_] Z Z Z Z Z Z Z Z Z ?_
  intro βn s152 h152 hb10_5
  refine qaz (first:=[]) (captured:=[_]) Z Z Z (AC.mid [_,_,_,_,_,_,_,_] (_::Mj) L (qaR D _ _ _ _ _ _ _ _ _ Mj 2 _ hOj Dc)) ?_
  rintro _ _ s153 h153 ⟨_,rfl,rfl,v2,M2,rfl,o2⟩
  simp only [cQ9,nQ9]
  refine Zn ?_
  refine qaa (MidF.mk (v2,M2,css++[_]) [] (h150.t h151|>.t h152|>.t h153) sk Pr ⟨by rw [qap];exact o2,by rw [qay (j:=2) (l:=defT.ins) Z];exact All2.snoc (qar hAj (h150.t h151|>.t h152|>.t h153)) ⟨Z,_,_,_,Z,(qgA (hb10_5.le h153) ⟨(uD Z),(uD Z)⟩),by decide,⟨by decide,by decide⟩⟩⟩)
 intro g s149 h149 I149
 simp only [cQ9,nQ9]
 obtain ⟨vj,Mj,css⟩:=g
 obtain ⟨hOj,hAj⟩:=I149
 simp only at hOj hAj
 dsimp only
 refine qa1 [_,_,_,_,_,_,_,_] Z (γ:=Value×Hl×List (List Value)) (fun g=>(β13,cb [.int .i64 65536,g.1] 24)::(g.2.1++L)) (fun g tw=>FL.Own 66 4 g.2.1 g.1 4 g.2.2.flatten∧All2 (fun x cs=>cs.length=4∧InsR tw x cs) (defT.ins.take 4) g.2.2) (fun _ _ _ h hl=>⟨h.1,qar h.2 hl⟩) ?_ ?_
 ·
  refine Zr<|Zqm Z Z<|Zqm Z Z<|qae (qad 0 [_,_] Z Z Z Z Z) Z<|qae (qad 5 [_,_] Z Z Z Z Z) Z<|qa0 [(_,_),(_,_)] [_,_,_,_] Z Z Z Z Z Z Z Z Z ?_
  intro βn s155 h155 hb11_4
  refine Jc Z Z Z (qax D _ _ _ _ _ _ _ _ (qbA (hb11_4.le (Lr D)) (uD Z) (uD Z)) Dc) ?_
  rintro _ _ s156 h156 ⟨rfl,rfl⟩
  refine qa0 [(_,_)] [_,_,_,_,_,_] Z Z Z Z Z Z Z Z Z ?_
  intro βn s157 h157 hb11_6
  refine qaz (first:=[]) (captured:=[_]) Z Z Z (AC.mid [_,_,_,_,_,_,_,_] (_::Mj) L (qaR D _ _ _ _ _ _ _ _ _ Mj 3 _ hOj Dc)) ?_
  rintro _ _ s158 h158 ⟨_,rfl,rfl,v2,M2,rfl,o2⟩
  simp only [cQ9,nQ9]
  refine Zn ?_
  refine qaa (MidF.mk (v2,M2,css++[_]) [] (h155.t h156|>.t h157|>.t h158) sk Pr ⟨by rw [qap];exact o2,by rw [qay (j:=3) (l:=defT.ins) Z];exact All2.snoc (qar hAj (h155.t h156|>.t h157|>.t h158)) ⟨Z,_,_,_,Z,(qgA (hb11_6.le h158) ⟨(uD Z),(uD Z)⟩),by decide,⟨by decide,by decide⟩⟩⟩)
 intro g s154 h154 I154
 simp only [cQ9,nQ9]
 obtain ⟨vj,Mj,css⟩:=g
 obtain ⟨hOj,hAj⟩:=I154
 simp only at hOj hAj
 dsimp only
 refine qa1 [_,_,_,_,_,_,_,_] Z (γ:=Value×Hl×List (List Value)) (fun g=>(β13,cb [.int .i64 65536,g.1] 24)::(g.2.1++L)) (fun g tw=>FL.Own 66 4 g.2.1 g.1 5 g.2.2.flatten∧All2 (fun x cs=>cs.length=4∧InsR tw x cs) (defT.ins.take 5) g.2.2) (fun _ _ _ h hl=>⟨h.1,qar h.2 hl⟩) ?_ ?_
 ·
  refine qaT qaf 12 Z 8 ?_
  intro s160 h160
  refine za 0 Z (qao Z) Z<|za 1 Z (qao Z) Z<|za 2 Z (qad 3 [_,_] Z Z Z Z Z) Z<|za 3 Z (qad 0 [_,_] Z Z Z Z Z) Z<|za 6 Z (qao Z) Z<|za 7 Z (qad 4 [_,_] Z Z Z Z Z) Z ?_
  refine qcg 4 8 V ?_ ?_
  ·
   refine qas Z Tt [(_,_),(_,_)] [_,_,_,_] Z Z Z Z Z Z Z Z Z ?_
   intro βn s161 h161 hb12_4
   refine qcg 5 8 V ?_ ?_
   ·
    refine Jb Z Tt Z Z Z (qax D _ _ _ _ _ _ _ _ (qbA (hb12_4.le (Lr D)) (uD Z) (uD Z)) Dc) ?_
    rintro _ _ s162 h162 ⟨rfl,rfl⟩
    refine ⟨fun _ _ h=>h,?_⟩
    refine qah 8 V<|qas Z Tt [(_,_)] [_,_] Z Z Z Z Z Z Z Z Z ?_
    intro βn s163 h163 hb12_8
    refine qah 9 V<|Jb Z Tt Z Z Z (qax D _ _ _ _ _ _ _ _ (qdO (hb12_8.le (Lr D)) (uD Z)) Dc) ?_
    rintro _ _ s164 h164 ⟨rfl,rfl⟩
    refine ⟨fun _ _ h=>h,?_⟩
    refine qah 10 V<|qas Z Tt [(_,_),(_,_)] [_,_,_,_,_,_,_,_,_,_,_,_] Z Z Z Z Z Z Z Z Z ?_
    intro βn s165 h165 hb12_10
    refine qah 11 V<|qaO Z Tt (first:=[]) (captured:=[_]) Z Z Z (AC.mid [_,_,_,_,_,_,_,_] (_::Mj) L (qaR D _ _ _ _ _ _ _ _ _ Mj 4 _ hOj Dc)) ?_
    rintro _ _ s166 h166 ⟨_,rfl,rfl,v2,M2,rfl,o2⟩
    refine ⟨(fun x hx _=>qaK (qaI (qaI (sb0 _))) hx),?_⟩
    simp only [cQ9,nQ9]
    refine qac V ?_
    refine qaa (MidF.mk (v2,M2,css++[_]) [] (h160.t h161|>.t h162|>.t h163|>.t h164|>.t h165|>.t h166) sk Pr ⟨by rw [qap];exact o2,by rw [qay (j:=4) (l:=defT.ins) Z];exact All2.snoc (qar hAj (h160.t h161|>.t h162|>.t h163|>.t h164|>.t h165|>.t h166)) ⟨Z,_,_,_,Z,(qcR (hb12_10.le h166) ⟨⟨(uD Z),(uD Z)⟩,⟨(uD Z),(uD Z)⟩⟩),by decide,⟨by decide,by decide⟩⟩⟩)
   refine qas Z Tt [(_,_)] [_,_] Z Z Z Z Z Z Z Z Z ?_
   intro βn s167 h167 hb12_8
   refine qah 5 V<|Jb Z Tt Z Z Z (qax D _ _ _ _ _ _ _ _ (qbA (hb12_4.le h167) (uD Z) (uD Z)) Dc) ?_
   rintro _ _ s168 h168 ⟨rfl,rfl⟩
   refine ⟨fun _ _ h=>h,?_⟩
   refine qah 9 V<|Jb Z Tt Z Z Z (qax D _ _ _ _ _ _ _ _ (qdO (hb12_8.le h168) (uD Z)) Dc) ?_
   rintro _ _ s169 h169 ⟨rfl,rfl⟩
   refine ⟨fun _ _ h=>h,?_⟩
   refine qah 10 V<|qas Z Tt [(_,_),(_,_)] [_,_,_,_,_,_,_,_,_,_,_,_] Z Z Z Z Z Z Z Z Z ?_
   intro βn s170 h170 hb12_10
   refine qah 11 V<|qaO Z Tt (first:=[]) (captured:=[_]) Z Z Z (AC.mid [_,_,_,_,_,_,_,_] (_::Mj) L (qaR D _ _ _ _ _ _ _ _ _ Mj 4 _ hOj Dc)) ?_
   rintro _ _ s171 h171 ⟨_,rfl,rfl,v2,M2,rfl,o2⟩
   refine ⟨(fun x hx _=>qaK (qaI (qaI (sb0 _))) hx),?_⟩
   simp only [cQ9,nQ9]
   refine qac V ?_
   refine qaa (MidF.mk (v2,M2,css++[_]) [] (h160.t h161|>.t h167|>.t h168|>.t h169|>.t h170|>.t h171) sk Pr ⟨by rw [qap];exact o2,by rw [qay (j:=4) (l:=defT.ins) Z];exact All2.snoc (qar hAj (h160.t h161|>.t h167|>.t h168|>.t h169|>.t h170|>.t h171)) ⟨Z,_,_,_,Z,(qcR (hb12_10.le h171) ⟨⟨(uD Z),(uD Z)⟩,⟨(uD Z),(uD Z)⟩⟩),by decide,⟨by decide,by decide⟩⟩⟩)
  refine qas Z Tt [(_,_)] [_,_] Z Z Z Z Z Z Z Z Z ?_
  intro βn s172 h172 hb12_8
  refine qah 4 V<|qas Z Tt [(_,_),(_,_)] [_,_,_,_] Z Z Z Z Z Z Z Z Z ?_
  intro βn s173 h173 hb12_4
  refine qah 5 V<|Jb Z Tt Z Z Z (qax D _ _ _ _ _ _ _ _ (qbA (hb12_4.le (Lr D)) (uD Z) (uD Z)) Dc) ?_
  rintro _ _ s174 h174 ⟨rfl,rfl⟩
  refine ⟨fun _ _ h=>h,?_⟩
  refine qah 9 V<|Jb Z Tt Z Z Z (qax D _ _ _ _ _ _ _ _ (qdO (hb12_8.le (h173.t h174)) (uD Z)) Dc) ?_
  rintro _ _ s175 h175 ⟨rfl,rfl⟩
  refine ⟨fun _ _ h=>h,?_⟩
  refine qah 10 V<|qas Z Tt [(_,_),(_,_)] [_,_,_,_,_,_,_,_,_,_,_,_] Z Z Z Z Z Z Z Z Z ?_
  intro βn s176 h176 hb12_10
  refine qah 11 V<|qaO Z Tt (first:=[]) (captured:=[_]) Z Z Z (AC.mid [_,_,_,_,_,_,_,_] (_::Mj) L (qaR D _ _ _ _ _ _ _ _ _ Mj 4 _ hOj Dc)) ?_
  rintro _ _ s177 h177 ⟨_,rfl,rfl,v2,M2,rfl,o2⟩
  refine ⟨(fun x hx _=>qaK (qaI (qaI (sb0 _))) hx),?_⟩
  simp only [cQ9,nQ9]
  refine qac V ?_
  refine qaa (MidF.mk (v2,M2,css++[_]) [] (h160.t h172|>.t h173|>.t h174|>.t h175|>.t h176|>.t h177) sk Pr ⟨by rw [qap];exact o2,by rw [qay (j:=4) (l:=defT.ins) Z];exact All2.snoc (qar hAj (h160.t h172|>.t h173|>.t h174|>.t h175|>.t h176|>.t h177)) ⟨Z,_,_,_,Z,(qcR (hb12_10.le h177) ⟨⟨(uD Z),(uD Z)⟩,⟨(uD Z),(uD Z)⟩⟩),by decide,⟨by decide,by decide⟩⟩⟩)
 intro g s159 h159 I159
 simp only [cQ9,nQ9]
 obtain ⟨vj,Mj,css⟩:=g
 obtain ⟨hOj,hAj⟩:=I159
 simp only at hOj hAj
 dsimp only
 refine qa1 [_,_,_,_,_,_,_,_] Z (γ:=Value×Hl×List (List Value)) (fun g=>(β13,cb [.int .i64 65536,g.1] 24)::(g.2.1++L)) (fun g tw=>FL.Own 66 4 g.2.1 g.1 6 g.2.2.flatten∧All2 (fun x cs=>cs.length=4∧InsR tw x cs) (defT.ins.take 6) g.2.2) (fun _ _ _ h hl=>⟨h.1,qar h.2 hl⟩) ?_ ?_
 ·
  refine qaT qaf 13 Z 8 ?_
  intro s179 h179
  refine za 0 Z (qao Z) Z<|za 1 Z (qao Z) Z<|za 2 Z (qad 3 [_,_] Z Z Z Z Z) Z<|za 3 Z (qad 0 [_,_] Z Z Z Z Z) Z<|za 6 Z (qao Z) Z<|za 7 Z (qad 4 [_,_] Z Z Z Z Z) Z<|za 8 Z (qad 5 [_,_] Z Z Z Z Z) Z ?_
  refine qcg 4 9 V ?_ ?_
  ·
   refine qas Z Tt [(_,_),(_,_)] [_,_,_,_] Z Z Z Z Z Z Z Z Z ?_
   intro βn s180 h180 hb13_4
   refine qcg 5 9 V ?_ ?_
   ·
    refine Jb Z Tt Z Z Z (qax D _ _ _ _ _ _ _ _ (qbA (hb13_4.le (Lr D)) (uD Z) (uD Z)) Dc) ?_
    rintro _ _ s181 h181 ⟨rfl,rfl⟩
    refine ⟨fun _ _ h=>h,?_⟩
    refine qah 9 V<|qas Z Tt [(_,_),(_,_)] [_,_,_,_] Z Z Z Z Z Z Z Z Z ?_
    intro βn s182 h182 hb13_9
    refine qah 10 V<|Jb Z Tt Z Z Z (qax D _ _ _ _ _ _ _ _ (qbA (hb13_9.le (Lr D)) (uD Z) (uD Z)) Dc) ?_
    rintro _ _ s183 h183 ⟨rfl,rfl⟩
    refine ⟨fun _ _ h=>h,?_⟩
    refine qah 11 V<|qas Z Tt [(_,_),(_,_)] [_,_,_,_,_,_,_,_,_,_,_,_] Z Z Z Z Z Z Z Z Z ?_
    intro βn s184 h184 hb13_11
    refine qah 12 V<|qaO Z Tt (first:=[]) (captured:=[_]) Z Z Z (AC.mid [_,_,_,_,_,_,_,_] (_::Mj) L (qaR D _ _ _ _ _ _ _ _ _ Mj 5 _ hOj Dc)) ?_
    rintro _ _ s185 h185 ⟨_,rfl,rfl,v2,M2,rfl,o2⟩
    refine ⟨(fun x hx _=>qaK (qaI (qaI (sb0 _))) hx),?_⟩
    simp only [cQ9,nQ9]
    refine qac V ?_
    refine qaa (MidF.mk (v2,M2,css++[_]) [] (h179.t h180|>.t h181|>.t h182|>.t h183|>.t h184|>.t h185) sk Pr ⟨by rw [qap];exact o2,by rw [qay (j:=5) (l:=defT.ins) Z];exact All2.snoc (qar hAj (h179.t h180|>.t h181|>.t h182|>.t h183|>.t h184|>.t h185)) ⟨Z,_,_,_,Z,(qcR (hb13_11.le h185) ⟨⟨(uD Z),(uD Z)⟩,⟨(uD Z),(uD Z)⟩⟩),by decide,⟨by decide,by decide⟩⟩⟩)
   refine qas Z Tt [(_,_),(_,_)] [_,_,_,_] Z Z Z Z Z Z Z Z Z ?_
   intro βn s186 h186 hb13_9
   refine qah 5 V<|Jb Z Tt Z Z Z (qax D _ _ _ _ _ _ _ _ (qbA (hb13_4.le h186) (uD Z) (uD Z)) Dc) ?_
   rintro _ _ s187 h187 ⟨rfl,rfl⟩
   refine ⟨fun _ _ h=>h,?_⟩
   refine qah 10 V<|Jb Z Tt Z Z Z (qax D _ _ _ _ _ _ _ _ (qbA (hb13_9.le h187) (uD Z) (uD Z)) Dc) ?_
   rintro _ _ s188 h188 ⟨rfl,rfl⟩
   refine ⟨fun _ _ h=>h,?_⟩
   refine qah 11 V<|qas Z Tt [(_,_),(_,_)] [_,_,_,_,_,_,_,_,_,_,_,_] Z Z Z Z Z Z Z Z Z ?_
   intro βn s189 h189 hb13_11
   refine qah 12 V<|qaO Z Tt (first:=[]) (captured:=[_]) Z Z Z (AC.mid [_,_,_,_,_,_,_,_] (_::Mj) L (qaR D _ _ _ _ _ _ _ _ _ Mj 5 _ hOj Dc)) ?_
   rintro _ _ s190 h190 ⟨_,rfl,rfl,v2,M2,rfl,o2⟩
   refine ⟨(fun x hx _=>qaK (qaI (qaI (sb0 _))) hx),?_⟩
   simp only [cQ9,nQ9]
   refine qac V ?_
   refine qaa (MidF.mk (v2,M2,css++[_]) [] (h179.t h180|>.t h186|>.t h187|>.t h188|>.t h189|>.t h190) sk Pr ⟨by rw [qap];exact o2,by rw [qay (j:=5) (l:=defT.ins) Z];exact All2.snoc (qar hAj (h179.t h180|>.t h186|>.t h187|>.t h188|>.t h189|>.t h190)) ⟨Z,_,_,_,Z,(qcR (hb13_11.le h190) ⟨⟨(uD Z),(uD Z)⟩,⟨(uD Z),(uD Z)⟩⟩),by decide,⟨by decide,by decide⟩⟩⟩)
  refine qas Z Tt [(_,_),(_,_)] [_,_,_,_] Z Z Z Z Z Z Z Z Z ?_
  intro βn s191 h191 hb13_9
  refine qah 4 V<|qas Z Tt [(_,_),(_,_)] [_,_,_,_] Z Z Z Z Z Z Z Z Z ?_
  intro βn s192 h192 hb13_4
  refine qah 5 V<|Jb Z Tt Z Z Z (qax D _ _ _ _ _ _ _ _ (qbA (hb13_4.le (Lr D)) (uD Z) (uD Z)) Dc) ?_
  rintro _ _ s193 h193 ⟨rfl,rfl⟩
  refine ⟨fun _ _ h=>h,?_⟩
  refine qah 10 V<|Jb Z Tt Z Z Z (qax D _ _ _ _ _ _ _ _ (qbA (hb13_9.le (h192.t h193)) (uD Z) (uD Z)) Dc) ?_
  rintro _ _ s194 h194 ⟨rfl,rfl⟩
  refine ⟨fun _ _ h=>h,?_⟩
  refine qah 11 V<|qas Z Tt [(_,_),(_,_)] [_,_,_,_,_,_,_,_,_,_,_,_] Z Z Z Z Z Z Z Z Z ?_
  intro βn s195 h195 hb13_11
  refine qah 12 V<|qaO Z Tt (first:=[]) (captured:=[_]) Z Z Z (AC.mid [_,_,_,_,_,_,_,_] (_::Mj) L (qaR D _ _ _ _ _ _ _ _ _ Mj 5 _ hOj Dc)) ?_
  rintro _ _ s196 h196 ⟨_,rfl,rfl,v2,M2,rfl,o2⟩
  refine ⟨(fun x hx _=>qaK (qaI (qaI (sb0 _))) hx),?_⟩
  simp only [cQ9,nQ9]
  refine qac V ?_
  refine qaa (MidF.mk (v2,M2,css++[_]) [] (h179.t h191|>.t h192|>.t h193|>.t h194|>.t h195|>.t h196) sk Pr ⟨by rw [qap];exact o2,by rw [qay (j:=5) (l:=defT.ins) Z];exact All2.snoc (qar hAj (h179.t h191|>.t h192|>.t h193|>.t h194|>.t h195|>.t h196)) ⟨Z,_,_,_,Z,(qcR (hb13_11.le h196) ⟨⟨(uD Z),(uD Z)⟩,⟨(uD Z),(uD Z)⟩⟩),by decide,⟨by decide,by decide⟩⟩⟩)
 intro g s178 h178 I178
 simp only [cQ9,nQ9]
 obtain ⟨vj,Mj,css⟩:=g
 obtain ⟨hOj,hAj⟩:=I178
 simp only at hOj hAj
 dsimp only
 refine qa1 [_,_,_,_,_,_,_,_] Z (γ:=Value×Hl×List (List Value)) (fun g=>(β13,cb [.int .i64 65536,g.1] 24)::(g.2.1++L)) (fun g tw=>FL.Own 66 4 g.2.1 g.1 7 g.2.2.flatten∧All2 (fun x cs=>cs.length=4∧InsR tw x cs) (defT.ins.take 7) g.2.2) (fun _ _ _ h hl=>⟨h.1,qar h.2 hl⟩) ?_ ?_
 ·
  refine qaT qaf 12 Z 8 ?_
  intro s198 h198
  refine za 0 Z (qao Z) Z<|za 1 Z (qao Z) Z<|za 2 Z (qad 5 [_,_] Z Z Z Z Z) Z<|za 3 Z (qad 0 [_,_] Z Z Z Z Z) Z<|za 6 Z (qao Z) Z<|za 7 Z (qad 4 [_,_] Z Z Z Z Z) Z ?_
  refine qcg 4 8 V ?_ ?_
  ·
   refine qas Z Tt [(_,_),(_,_)] [_,_,_,_] Z Z Z Z Z Z Z Z Z ?_
   intro βn s199 h199 hb14_4
   refine qcg 5 8 V ?_ ?_
   ·
    refine Jb Z Tt Z Z Z (qax D _ _ _ _ _ _ _ _ (qbA (hb14_4.le (Lr D)) (uD Z) (uD Z)) Dc) ?_
    rintro _ _ s200 h200 ⟨rfl,rfl⟩
    refine ⟨fun _ _ h=>h,?_⟩
    refine qah 8 V<|qas Z Tt [(_,_)] [_,_] Z Z Z Z Z Z Z Z Z ?_
    intro βn s201 h201 hb14_8
    refine qah 9 V<|Jb Z Tt Z Z Z (qax D _ _ _ _ _ _ _ _ (qdO (hb14_8.le (Lr D)) (uD Z)) Dc) ?_
    rintro _ _ s202 h202 ⟨rfl,rfl⟩
    refine ⟨fun _ _ h=>h,?_⟩
    refine qah 10 V<|qas Z Tt [(_,_),(_,_)] [_,_,_,_,_,_,_,_,_,_,_,_] Z Z Z Z Z Z Z Z Z ?_
    intro βn s203 h203 hb14_10
    refine qah 11 V<|qaO Z Tt (first:=[]) (captured:=[_]) Z Z Z (AC.mid [_,_,_,_,_,_,_,_] (_::Mj) L (qaR D _ _ _ _ _ _ _ _ _ Mj 6 _ hOj Dc)) ?_
    rintro _ _ s204 h204 ⟨_,rfl,rfl,v2,M2,rfl,o2⟩
    refine ⟨(fun x hx _=>qaK (qaI (qaI (sb0 _))) hx),?_⟩
    simp only [cQ9,nQ9]
    refine qac V ?_
    refine qaa (MidF.mk (v2,M2,css++[_]) [] (h198.t h199|>.t h200|>.t h201|>.t h202|>.t h203|>.t h204) sk Pr ⟨by rw [qap];exact o2,by rw [qay (j:=6) (l:=defT.ins) Z];exact All2.snoc (qar hAj (h198.t h199|>.t h200|>.t h201|>.t h202|>.t h203|>.t h204)) ⟨Z,_,_,_,Z,(qcR (hb14_10.le h204) ⟨⟨(uD Z),(uD Z)⟩,⟨(uD Z),(uD Z)⟩⟩),by decide,⟨by decide,by decide⟩⟩⟩)
   refine qas Z Tt [(_,_)] [_,_] Z Z Z Z Z Z Z Z Z ?_
   intro βn s205 h205 hb14_8
   refine qah 5 V<|Jb Z Tt Z Z Z (qax D _ _ _ _ _ _ _ _ (qbA (hb14_4.le h205) (uD Z) (uD Z)) Dc) ?_
   rintro _ _ s206 h206 ⟨rfl,rfl⟩
   refine ⟨fun _ _ h=>h,?_⟩
   refine qah 9 V<|Jb Z Tt Z Z Z (qax D _ _ _ _ _ _ _ _ (qdO (hb14_8.le h206) (uD Z)) Dc) ?_
   rintro _ _ s207 h207 ⟨rfl,rfl⟩
   refine ⟨fun _ _ h=>h,?_⟩
   refine qah 10 V<|qas Z Tt [(_,_),(_,_)] [_,_,_,_,_,_,_,_,_,_,_,_] Z Z Z Z Z Z Z Z Z ?_
   intro βn s208 h208 hb14_10
   refine qah 11 V<|qaO Z Tt (first:=[]) (captured:=[_]) Z Z Z (AC.mid [_,_,_,_,_,_,_,_] (_::Mj) L (qaR D _ _ _ _ _ _ _ _ _ Mj 6 _ hOj Dc)) ?_
   rintro _ _ s209 h209 ⟨_,rfl,rfl,v2,M2,rfl,o2⟩
   refine ⟨(fun x hx _=>qaK (qaI (qaI (sb0 _))) hx),?_⟩
   simp only [cQ9,nQ9]
   refine qac V ?_
   refine qaa (MidF.mk (v2,M2,css++[_]) [] (h198.t h199|>.t h205|>.t h206|>.t h207|>.t h208|>.t h209) sk Pr ⟨by rw [qap];exact o2,by rw [qay (j:=6) (l:=defT.ins) Z];exact All2.snoc (qar hAj (h198.t h199|>.t h205|>.t h206|>.t h207|>.t h208|>.t h209)) ⟨Z,_,_,_,Z,(qcR (hb14_10.le h209) ⟨⟨(uD Z),(uD Z)⟩,⟨(uD Z),(uD Z)⟩⟩),by decide,⟨by decide,by decide⟩⟩⟩)
  refine qas Z Tt [(_,_)] [_,_] Z Z Z Z Z Z Z Z Z ?_
  intro βn s210 h210 hb14_8
  refine qah 4 V<|qas Z Tt [(_,_),(_,_)] [_,_,_,_] Z Z Z Z Z Z Z Z Z ?_
  intro βn s211 h211 hb14_4
  refine qah 5 V<|Jb Z Tt Z Z Z (qax D _ _ _ _ _ _ _ _ (qbA (hb14_4.le (Lr D)) (uD Z) (uD Z)) Dc) ?_
  rintro _ _ s212 h212 ⟨rfl,rfl⟩
  refine ⟨fun _ _ h=>h,?_⟩
  refine qah 9 V<|Jb Z Tt Z Z Z (qax D _ _ _ _ _ _ _ _ (qdO (hb14_8.le (h211.t h212)) (uD Z)) Dc) ?_
  rintro _ _ s213 h213 ⟨rfl,rfl⟩
  refine ⟨fun _ _ h=>h,?_⟩
  refine qah 10 V<|qas Z Tt [(_,_),(_,_)] [_,_,_,_,_,_,_,_,_,_,_,_] Z Z Z Z Z Z Z Z Z ?_
  intro βn s214 h214 hb14_10
  refine qah 11 V<|qaO Z Tt (first:=[]) (captured:=[_]) Z Z Z (AC.mid [_,_,_,_,_,_,_,_] (_::Mj) L (qaR D _ _ _ _ _ _ _ _ _ Mj 6 _ hOj Dc)) ?_
  rintro _ _ s215 h215 ⟨_,rfl,rfl,v2,M2,rfl,o2⟩
  refine ⟨(fun x hx _=>qaK (qaI (qaI (sb0 _))) hx),?_⟩
  simp only [cQ9,nQ9]
  refine qac V ?_
  refine qaa (MidF.mk (v2,M2,css++[_]) [] (h198.t h210|>.t h211|>.t h212|>.t h213|>.t h214|>.t h215) sk Pr ⟨by rw [qap];exact o2,by rw [qay (j:=6) (l:=defT.ins) Z];exact All2.snoc (qar hAj (h198.t h210|>.t h211|>.t h212|>.t h213|>.t h214|>.t h215)) ⟨Z,_,_,_,Z,(qcR (hb14_10.le h215) ⟨⟨(uD Z),(uD Z)⟩,⟨(uD Z),(uD Z)⟩⟩),by decide,⟨by decide,by decide⟩⟩⟩)
 intro g s197 h197 I197
 simp only [cQ9,nQ9]
 obtain ⟨vj,Mj,css⟩:=g
 obtain ⟨hOj,hAj⟩:=I197
 simp only at hOj hAj
 dsimp only
 refine qa1 [_,_,_,_,_,_,_,_] Z (γ:=Value×Hl×List (List Value)) (fun g=>(β13,cb [.int .i64 65536,g.1] 24)::(g.2.1++L)) (fun g tw=>FL.Own 66 4 g.2.1 g.1 8 g.2.2.flatten∧All2 (fun x cs=>cs.length=4∧InsR tw x cs) (defT.ins.take 8) g.2.2) (fun _ _ _ h hl=>⟨h.1,qar h.2 hl⟩) ?_ ?_
 ·
  refine qaT qaf 15 Z 8 ?_
  intro s217 h217
  refine za 0 Z (qao Z) Z<|za 1 Z (qao Z) Z<|za 2 Z (qao Z) Z<|za 3 Z (qad 4 [_,_] Z Z Z Z Z) Z<|za 4 Z (qad 0 [_,_] Z Z Z Z Z) Z<|za 7 Z (qao Z) Z<|za 8 Z (qad 4 [_,_] Z Z Z Z Z) Z<|za 9 Z (qad 5 [_,_] Z Z Z Z Z) Z ?_
  refine qcg 5 10 V ?_ ?_
  ·
   refine qas Z Tt [(_,_),(_,_)] [_,_,_,_] Z Z Z Z Z Z Z Z Z ?_
   intro βn s218 h218 hb15_5
   refine qcg 6 10 V ?_ ?_
   ·
    refine Jb Z Tt Z Z Z (qax D _ _ _ _ _ _ _ _ (qbA (hb15_5.le (Lr D)) (uD Z) (uD Z)) Dc) ?_
    rintro _ _ s219 h219 ⟨rfl,rfl⟩
    refine ⟨fun _ _ h=>h,?_⟩
    refine qah 10 V<|qas Z Tt [(_,_),(_,_)] [_,_,_,_] Z Z Z Z Z Z Z Z Z ?_
    intro βn s220 h220 hb15_10
    refine qah 11 V<|Jb Z Tt Z Z Z (qax D _ _ _ _ _ _ _ _ (qbA (hb15_10.le (Lr D)) (uD Z) (uD Z)) Dc) ?_
    rintro _ _ s221 h221 ⟨rfl,rfl⟩
    refine ⟨fun _ _ h=>h,?_⟩
    refine qah 12 V<|qas Z Tt [(_,_),(_,_)] [_,_,_,_,_,_,_,_,_,_,_,_] Z Z Z Z Z Z Z Z Z ?_
    intro βn s222 h222 hb15_12
    refine qah 13 V<|qaO Z Tt (first:=[]) (captured:=[_]) Z Z Z (AC.mid [_,_,_,_,_,_,_] [_] _ (qaN D _ _ _ _ _ _ (qcR (hb15_12.le (Lr D)) ⟨⟨(uD Z),(uD Z)⟩,⟨(uD Z),(uD Z)⟩⟩) _ _ _ _ _ (hPop.le (h139.t h144|>.t h149|>.t h154|>.t h159|>.t h178|>.t h197|>.t h217|>.t h218|>.t h219|>.t h220|>.t h221|>.t h222)) Dc)) ?_
    rintro _ _ s223 h223 ⟨_,rfl,rfl,Ap15,np15,cp15,rfl,hPa15⟩
    refine ⟨(fun x hx _=>qaK (qaI (qaI (sb0 _))) hx),?_⟩
    simp only [cQ9,nQ9]
    refine qah 14 V<|qaO Z Tt (first:=[]) (captured:=[_]) Z Z Z (AC.mid [_,_,_,_,_,_,_,_] (_::Mj) L (qaR D _ _ _ _ _ _ _ _ _ Mj 7 _ hOj Dc)) ?_
    rintro _ _ s224 h224 ⟨_,rfl,rfl,v2,M2,rfl,o2⟩
    refine ⟨(fun x hx _=>qaK (qaI (qaI (sb0 _))) hx),?_⟩
    simp only [cQ9,nQ9]
    refine qac V ?_
    refine qaa (MidF.mk (v2,M2,css++[_]) [] (h217.t h218|>.t h219|>.t h220|>.t h221|>.t h222|>.t h223|>.t h224) sk Pr ⟨by rw [qap];exact o2,by rw [qay (j:=7) (l:=defT.ins) Z];exact All2.snoc (qar hAj (h217.t h218|>.t h219|>.t h220|>.t h221|>.t h222|>.t h223|>.t h224)) ⟨Z,_,_,_,Z,(hPa15.le h224),by decide,⟨by decide,by decide⟩⟩⟩)
   refine qas Z Tt [(_,_),(_,_)] [_,_,_,_] Z Z Z Z Z Z Z Z Z ?_
   intro βn s225 h225 hb15_10
   refine qah 6 V<|Jb Z Tt Z Z Z (qax D _ _ _ _ _ _ _ _ (qbA (hb15_5.le h225) (uD Z) (uD Z)) Dc) ?_
   rintro _ _ s226 h226 ⟨rfl,rfl⟩
   refine ⟨fun _ _ h=>h,?_⟩
   refine qah 11 V<|Jb Z Tt Z Z Z (qax D _ _ _ _ _ _ _ _ (qbA (hb15_10.le h226) (uD Z) (uD Z)) Dc) ?_
   rintro _ _ s227 h227 ⟨rfl,rfl⟩
   refine ⟨fun _ _ h=>h,?_⟩
   refine qah 12 V<|qas Z Tt [(_,_),(_,_)] [_,_,_,_,_,_,_,_,_,_,_,_] Z Z Z Z Z Z Z Z Z ?_
   intro βn s228 h228 hb15_12
   refine qah 13 V<|qaO Z Tt (first:=[]) (captured:=[_]) Z Z Z (AC.mid [_,_,_,_,_,_,_] [_] _ (qaN D _ _ _ _ _ _ (qcR (hb15_12.le (Lr D)) ⟨⟨(uD Z),(uD Z)⟩,⟨(uD Z),(uD Z)⟩⟩) _ _ _ _ _ (hPop.le (h139.t h144|>.t h149|>.t h154|>.t h159|>.t h178|>.t h197|>.t h217|>.t h218|>.t h225|>.t h226|>.t h227|>.t h228)) Dc)) ?_
   rintro _ _ s229 h229 ⟨_,rfl,rfl,Ap15,np15,cp15,rfl,hPa15⟩
   refine ⟨(fun x hx _=>qaK (qaI (qaI (sb0 _))) hx),?_⟩
   simp only [cQ9,nQ9]
   refine qah 14 V<|qaO Z Tt (first:=[]) (captured:=[_]) Z Z Z (AC.mid [_,_,_,_,_,_,_,_] (_::Mj) L (qaR D _ _ _ _ _ _ _ _ _ Mj 7 _ hOj Dc)) ?_
   rintro _ _ s230 h230 ⟨_,rfl,rfl,v2,M2,rfl,o2⟩
   refine ⟨(fun x hx _=>qaK (qaI (qaI (sb0 _))) hx),?_⟩
   simp only [cQ9,nQ9]
   refine qac V ?_
   refine qaa (MidF.mk (v2,M2,css++[_]) [] (h217.t h218|>.t h225|>.t h226|>.t h227|>.t h228|>.t h229|>.t h230) sk Pr ⟨by rw [qap];exact o2,by rw [qay (j:=7) (l:=defT.ins) Z];exact All2.snoc (qar hAj (h217.t h218|>.t h225|>.t h226|>.t h227|>.t h228|>.t h229|>.t h230)) ⟨Z,_,_,_,Z,(hPa15.le h230),by decide,⟨by decide,by decide⟩⟩⟩)
  refine qas Z Tt [(_,_),(_,_)] [_,_,_,_] Z Z Z Z Z Z Z Z Z ?_
  intro βn s231 h231 hb15_10
  refine qah 5 V<|qas Z Tt [(_,_),(_,_)] [_,_,_,_] Z Z Z Z Z Z Z Z Z ?_
  intro βn s232 h232 hb15_5
  refine qah 6 V<|Jb Z Tt Z Z Z (qax D _ _ _ _ _ _ _ _ (qbA (hb15_5.le (Lr D)) (uD Z) (uD Z)) Dc) ?_
  rintro _ _ s233 h233 ⟨rfl,rfl⟩
  refine ⟨fun _ _ h=>h,?_⟩
  refine qah 11 V<|Jb Z Tt Z Z Z (qax D _ _ _ _ _ _ _ _ (qbA (hb15_10.le (h232.t h233)) (uD Z) (uD Z)) Dc) ?_
  rintro _ _ s234 h234 ⟨rfl,rfl⟩
  refine ⟨fun _ _ h=>h,?_⟩
  refine qah 12 V<|qas Z Tt [(_,_),(_,_)] [_,_,_,_,_,_,_,_,_,_,_,_] Z Z Z Z Z Z Z Z Z ?_
  intro βn s235 h235 hb15_12
  refine qah 13 V<|qaO Z Tt (first:=[]) (captured:=[_]) Z Z Z (AC.mid [_,_,_,_,_,_,_] [_] _ (qaN D _ _ _ _ _ _ (qcR (hb15_12.le (Lr D)) ⟨⟨(uD Z),(uD Z)⟩,⟨(uD Z),(uD Z)⟩⟩) _ _ _ _ _ (hPop.le (h139.t h144|>.t h149|>.t h154|>.t h159|>.t h178|>.t h197|>.t h217|>.t h231|>.t h232|>.t h233|>.t h234|>.t h235)) Dc)) ?_
  rintro _ _ s236 h236 ⟨_,rfl,rfl,Ap15,np15,cp15,rfl,hPa15⟩
  refine ⟨(fun x hx _=>qaK (qaI (qaI (sb0 _))) hx),?_⟩
  simp only [cQ9,nQ9]
  refine qah 14 V<|qaO Z Tt (first:=[]) (captured:=[_]) Z Z Z (AC.mid [_,_,_,_,_,_,_,_] (_::Mj) L (qaR D _ _ _ _ _ _ _ _ _ Mj 7 _ hOj Dc)) ?_
  rintro _ _ s237 h237 ⟨_,rfl,rfl,v2,M2,rfl,o2⟩
  refine ⟨(fun x hx _=>qaK (qaI (qaI (sb0 _))) hx),?_⟩
  simp only [cQ9,nQ9]
  refine qac V ?_
  refine qaa (MidF.mk (v2,M2,css++[_]) [] (h217.t h231|>.t h232|>.t h233|>.t h234|>.t h235|>.t h236|>.t h237) sk Pr ⟨by rw [qap];exact o2,by rw [qay (j:=7) (l:=defT.ins) Z];exact All2.snoc (qar hAj (h217.t h231|>.t h232|>.t h233|>.t h234|>.t h235|>.t h236|>.t h237)) ⟨Z,_,_,_,Z,(hPa15.le h237),by decide,⟨by decide,by decide⟩⟩⟩)
 intro g s216 h216 I216
 simp only [cQ9,nQ9]
 obtain ⟨vj,Mj,css⟩:=g
 obtain ⟨hOj,hAj⟩:=I216
 simp only at hOj hAj
 dsimp only
 refine qa1 [_,_,_,_,_,_,_,_] Z (γ:=Value×Hl×List (List Value)) (fun g=>(β13,cb [.int .i64 65536,g.1] 24)::(g.2.1++L)) (fun g tw=>FL.Own 66 4 g.2.1 g.1 9 g.2.2.flatten∧All2 (fun x cs=>cs.length=4∧InsR tw x cs) (defT.ins.take 9) g.2.2) (fun _ _ _ h hl=>⟨h.1,qar h.2 hl⟩) ?_ ?_
 ·
  refine qaT qaf 13 Z 8 ?_
  intro s239 h239
  refine za 0 Z (qao Z) Z<|za 1 Z (qao Z) Z<|za 2 Z (qad 3 [_,_] Z Z Z Z Z) Z<|za 3 Z (qad 5 [_,_] Z Z Z Z Z) Z<|za 6 Z (qao Z) Z<|za 7 Z (qad 3 [_,_] Z Z Z Z Z) Z<|qah 4 V<|qas Z Tt [(_,_),(_,_)] [_,_,_,_] Z Z Z Z Z Z Z Z Z ?_
  intro βn s240 h240 hb16_4
  refine qah 5 V<|Jb Z Tt Z Z Z (qax D _ _ _ _ _ _ _ _ (qbA (hb16_4.le (Lr D)) (uD Z) (uD Z)) Dc) ?_
  rintro _ _ s241 h241 ⟨rfl,rfl⟩
  refine ⟨fun _ _ h=>h,?_⟩
  refine qah 8 V<|Jb Z Tt Z Z Z (qcm D _ _ _) ?_
  rintro _ _ s242 h242 ⟨rfl,rfl⟩
  refine ⟨fun _ _ h=>h,?_⟩
  refine qah 9 V<|qas Z Tt [(_,_),(_,_)] [_,_,_,_] Z Z Z Z Z Z Z Z Z ?_
  intro βn s243 h243 hb16_9
  refine qah 10 V<|Jb Z Tt Z Z Z (qax D _ _ _ _ _ _ _ _ (qbA (hb16_9.le (Lr D)) (uD Z) (uD Z)) Dc) ?_
  rintro _ _ s244 h244 ⟨rfl,rfl⟩
  refine ⟨fun _ _ h=>h,?_⟩
  refine qah 11 V<|qas Z Tt [(_,_),(_,_)] [_,_,_,_,_,_,_,_,_,_,_,_] Z Z Z Z Z Z Z Z Z ?_
  intro βn s245 h245 hb16_11
  refine qah 12 V<|qaO Z Tt (first:=[]) (captured:=[_]) Z Z Z (AC.mid [_,_,_,_,_,_,_,_] (_::Mj) L (qaR D _ _ _ _ _ _ _ _ _ Mj 8 _ hOj Dc)) ?_
  rintro _ _ s246 h246 ⟨_,rfl,rfl,v2,M2,rfl,o2⟩
  refine ⟨(fun x hx _=>qaK (qaI (qaI (sb0 _))) hx),?_⟩
  simp only [cQ9,nQ9]
  refine qac V ?_
  refine qaa (MidF.mk (v2,M2,css++[_]) [] (h239.t h240|>.t h241|>.t h242|>.t h243|>.t h244|>.t h245|>.t h246) sk Pr ⟨by rw [qap];exact o2,by rw [qay (j:=8) (l:=defT.ins) Z];exact All2.snoc (qar hAj (h239.t h240|>.t h241|>.t h242|>.t h243|>.t h244|>.t h245|>.t h246)) ⟨Z,_,_,_,Z,(qcR (hb16_11.le h246) ⟨⟨(uD Z),(uD Z)⟩,⟨(uD Z),(uD Z)⟩⟩),by decide,⟨by decide,by decide⟩⟩⟩)
 intro g s238 h238 I238
 simp only [cQ9,nQ9]
 obtain ⟨vj,Mj,css⟩:=g
 obtain ⟨hOj,hAj⟩:=I238
 simp only at hOj hAj
 dsimp only
 refine qa1 [_,_,_,_,_,_,_,_] Z (γ:=Value×Hl×List (List Value)) (fun g=>(β13,cb [.int .i64 65536,g.1] 24)::(g.2.1++L)) (fun g tw=>FL.Own 66 4 g.2.1 g.1 10 g.2.2.flatten∧All2 (fun x cs=>cs.length=4∧InsR tw x cs) (defT.ins.take 10) g.2.2) (fun _ _ _ h hl=>⟨h.1,qar h.2 hl⟩) ?_ ?_
 ·
  refine Zr<|Zqm Z Z<|Zqm Z Z<|qae (qad 3 [_,_] Z Z Z Z Z) Z<|qae (qad 0 [_,_] Z Z Z Z Z) Z<|qa0 [(_,_),(_,_)] [_,_,_,_] Z Z Z Z Z Z Z Z Z ?_
  intro βn s248 h248 hb17_4
  refine Jc Z Z Z (qax D _ _ _ _ _ _ _ _ (qbA (hb17_4.le (Lr D)) (uD Z) (uD Z)) Dc) ?_
  rintro _ _ s249 h249 ⟨rfl,rfl⟩
  refine qa0 [(_,_)] [_,_,_,_,_,_] Z Z Z Z Z Z Z Z Z ?_
  intro βn s250 h250 hb17_6
  refine qaz (first:=[]) (captured:=[_]) Z Z Z (AC.mid [_,_,_,_,_,_,_,_] (_::Mj) L (qaR D _ _ _ _ _ _ _ _ _ Mj 9 _ hOj Dc)) ?_
  rintro _ _ s251 h251 ⟨_,rfl,rfl,v2,M2,rfl,o2⟩
  simp only [cQ9,nQ9]
  refine Zn ?_
  refine qaa (MidF.mk (v2,M2,css++[_]) [] (h248.t h249|>.t h250|>.t h251) sk Pr ⟨by rw [qap];exact o2,by rw [qay (j:=9) (l:=defT.ins) Z];exact All2.snoc (qar hAj (h248.t h249|>.t h250|>.t h251)) ⟨Z,_,_,_,Z,(qgA (hb17_6.le h251) ⟨(uD Z),(uD Z)⟩),by decide,⟨by decide,by decide⟩⟩⟩)
 intro g s247 h247 I247
 simp only [cQ9,nQ9]
 obtain ⟨vj,Mj,css⟩:=g
 obtain ⟨hOj,hAj⟩:=I247
 simp only at hOj hAj
 dsimp only
 refine qa1 [_,_,_,_,_,_,_,_] Z (γ:=Value×Hl×List (List Value)) (fun g=>(β13,cb [.int .i64 65536,g.1] 24)::(g.2.1++L)) (fun g tw=>FL.Own 66 4 g.2.1 g.1 11 g.2.2.flatten∧All2 (fun x cs=>cs.length=4∧InsR tw x cs) (defT.ins.take 11) g.2.2) (fun _ _ _ h hl=>⟨h.1,qar h.2 hl⟩) ?_ ?_
 ·
  refine Zr<|Zqm Z Z<|Zqm Z Z<|Zqm Z Z<|qae (qad 4 [_,_] Z Z Z Z Z) Z<|qae (qad 5 [_,_] Z Z Z Z Z) Z<|qa0 [(_,_),(_,_)] [_,_,_,_] Z Z Z Z Z Z Z Z Z ?_
  intro βn s253 h253 hb18_5
  refine Jc Z Z Z (qax D _ _ _ _ _ _ _ _ (qbA (hb18_5.le (Lr D)) (uD Z) (uD Z)) Dc) ?_
  rintro _ _ s254 h254 ⟨rfl,rfl⟩
  refine qa0 [(_,_)] [_,_,_,_,_,_] Z Z Z Z Z Z Z Z Z ?_
  intro βn s255 h255 hb18_7
  refine qaz (first:=[]) (captured:=[_]) Z Z Z (AC.mid [_,_,_,_,_,_,_] [_] _ (qaN D _ _ _ _ _ _ (qgA (hb18_7.le (Lr D)) ⟨(uD Z),(uD Z)⟩) _ _ _ _ _ (hPop.le (h139.t h144|>.t h149|>.t h154|>.t h159|>.t h178|>.t h197|>.t h216|>.t h238|>.t h247|>.t h253|>.t h254|>.t h255)) Dc)) ?_
  rintro _ _ s256 h256 ⟨_,rfl,rfl,Ap18,np18,cp18,rfl,hPa18⟩
  simp only [cQ9,nQ9]
  refine qaz (first:=[]) (captured:=[_]) Z Z Z (AC.mid [_,_,_,_,_,_,_,_] (_::Mj) L (qaR D _ _ _ _ _ _ _ _ _ Mj 10 _ hOj Dc)) ?_
  rintro _ _ s257 h257 ⟨_,rfl,rfl,v2,M2,rfl,o2⟩
  simp only [cQ9,nQ9]
  refine Zn ?_
  refine qaa (MidF.mk (v2,M2,css++[_]) [] (h253.t h254|>.t h255|>.t h256|>.t h257) sk Pr ⟨by rw [qap];exact o2,by rw [qay (j:=10) (l:=defT.ins) Z];exact All2.snoc (qar hAj (h253.t h254|>.t h255|>.t h256|>.t h257)) ⟨Z,_,_,_,Z,(hPa18.le h257),by decide,⟨by decide,by decide⟩⟩⟩)
 intro g s252 h252 I252
 simp only [cQ9,nQ9]
 obtain ⟨vj,Mj,css⟩:=g
 obtain ⟨hOj,hAj⟩:=I252
 simp only at hOj hAj
 dsimp only
 refine qa1 [_,_,_,_,_,_,_,_] Z (γ:=Value×Hl×List (List Value)) (fun g=>(β13,cb [.int .i64 65536,g.1] 24)::(g.2.1++L)) (fun g tw=>FL.Own 66 4 g.2.1 g.1 12 g.2.2.flatten∧All2 (fun x cs=>cs.length=4∧InsR tw x cs) (defT.ins.take 12) g.2.2) (fun _ _ _ h hl=>⟨h.1,qar h.2 hl⟩) ?_ ?_
 ·
  refine Zr<|Zqm Z Z<|Zqm Z Z<|Zqm Z Z<|qae (qad 4 [_,_] Z Z Z Z Z) Z<|qae (qad 5 [_,_] Z Z Z Z Z) Z<|qa0 [(_,_),(_,_)] [_,_,_,_] Z Z Z Z Z Z Z Z Z ?_
  intro βn s259 h259 hb19_5
  refine Jc Z Z Z (qax D _ _ _ _ _ _ _ _ (qbA (hb19_5.le (Lr D)) (uD Z) (uD Z)) Dc) ?_
  rintro _ _ s260 h260 ⟨rfl,rfl⟩
  refine qa0 [(_,_)] [_,_,_,_,_,_] Z Z Z Z Z Z Z Z Z ?_
  intro βn s261 h261 hb19_7
  refine qaz (first:=[]) (captured:=[_]) Z Z Z (AC.mid [_,_,_,_,_,_,_] [_] _ (qaN D _ _ _ _ _ _ (qgA (hb19_7.le (Lr D)) ⟨(uD Z),(uD Z)⟩) _ _ _ _ _ (hPop.le (h139.t h144|>.t h149|>.t h154|>.t h159|>.t h178|>.t h197|>.t h216|>.t h238|>.t h247|>.t h252|>.t h259|>.t h260|>.t h261)) Dc)) ?_
  rintro _ _ s262 h262 ⟨_,rfl,rfl,Ap19,np19,cp19,rfl,hPa19⟩
  simp only [cQ9,nQ9]
  refine qaz (first:=[]) (captured:=[_]) Z Z Z (AC.mid [_,_,_,_,_,_,_,_] (_::Mj) L (qaR D _ _ _ _ _ _ _ _ _ Mj 11 _ hOj Dc)) ?_
  rintro _ _ s263 h263 ⟨_,rfl,rfl,v2,M2,rfl,o2⟩
  simp only [cQ9,nQ9]
  refine Zn ?_
  refine qaa (MidF.mk (v2,M2,css++[_]) [] (h259.t h260|>.t h261|>.t h262|>.t h263) sk Pr ⟨by rw [qap];exact o2,by rw [qay (j:=11) (l:=defT.ins) Z];exact All2.snoc (qar hAj (h259.t h260|>.t h261|>.t h262|>.t h263)) ⟨Z,_,_,_,Z,(hPa19.le h263),by decide,⟨by decide,by decide⟩⟩⟩)
 intro g s258 h258 I258
 simp only [cQ9,nQ9]
 obtain ⟨vj,Mj,css⟩:=g
 obtain ⟨hOj,hAj⟩:=I258
 simp only at hOj hAj
 dsimp only
 refine qa1 [_,_,_,_,_,_,_,_] Z (γ:=Value×Hl×List (List Value)) (fun g=>(β13,cb [.int .i64 65536,g.1] 24)::(g.2.1++L)) (fun g tw=>FL.Own 66 4 g.2.1 g.1 13 g.2.2.flatten∧All2 (fun x cs=>cs.length=4∧InsR tw x cs) (defT.ins.take 13) g.2.2) (fun _ _ _ h hl=>⟨h.1,qar h.2 hl⟩) ?_ ?_
 ·
  refine Zr<|Zqm Z Z<|Zqm Z Z<|Zqm Z Z<|qae (qad 4 [_,_] Z Z Z Z Z) Z<|qae (qad 5 [_,_] Z Z Z Z Z) Z<|qa0 [(_,_),(_,_)] [_,_,_,_] Z Z Z Z Z Z Z Z Z ?_
  intro βn s265 h265 hb20_5
  refine Jc Z Z Z (qax D _ _ _ _ _ _ _ _ (qbA (hb20_5.le (Lr D)) (uD Z) (uD Z)) Dc) ?_
  rintro _ _ s266 h266 ⟨rfl,rfl⟩
  refine qa0 [(_,_)] [_,_,_,_,_,_] Z Z Z Z Z Z Z Z Z ?_
  intro βn s267 h267 hb20_7
  refine qaz (first:=[]) (captured:=[_]) Z Z Z (AC.mid [_,_,_,_,_,_,_] [_] _ (qaN D _ _ _ _ _ _ (qgA (hb20_7.le (Lr D)) ⟨(uD Z),(uD Z)⟩) _ _ _ _ _ (hPop.le (h139.t h144|>.t h149|>.t h154|>.t h159|>.t h178|>.t h197|>.t h216|>.t h238|>.t h247|>.t h252|>.t h258|>.t h265|>.t h266|>.t h267)) Dc)) ?_
  rintro _ _ s268 h268 ⟨_,rfl,rfl,Ap20,np20,cp20,rfl,hPa20⟩
  simp only [cQ9,nQ9]
  refine qaz (first:=[]) (captured:=[_]) Z Z Z (AC.mid [_,_,_,_,_,_,_,_] (_::Mj) L (qaR D _ _ _ _ _ _ _ _ _ Mj 12 _ hOj Dc)) ?_
  rintro _ _ s269 h269 ⟨_,rfl,rfl,v2,M2,rfl,o2⟩
  simp only [cQ9,nQ9]
  refine Zn ?_
  refine qaa (MidF.mk (v2,M2,css++[_]) [] (h265.t h266|>.t h267|>.t h268|>.t h269) sk Pr ⟨by rw [qap];exact o2,by rw [qay (j:=12) (l:=defT.ins) Z];exact All2.snoc (qar hAj (h265.t h266|>.t h267|>.t h268|>.t h269)) ⟨Z,_,_,_,Z,(hPa20.le h269),by decide,⟨by decide,by decide⟩⟩⟩)
 intro g s264 h264 I264
 simp only [cQ9,nQ9]
 obtain ⟨vj,Mj,css⟩:=g
 obtain ⟨hOj,hAj⟩:=I264
 simp only at hOj hAj
 dsimp only
 refine qa1 [_,_,_,_,_,_,_,_] Z (γ:=Value×Hl×List (List Value)) (fun g=>(β13,cb [.int .i64 65536,g.1] 24)::(g.2.1++L)) (fun g tw=>FL.Own 66 4 g.2.1 g.1 14 g.2.2.flatten∧All2 (fun x cs=>cs.length=4∧InsR tw x cs) (defT.ins.take 14) g.2.2) (fun _ _ _ h hl=>⟨h.1,qar h.2 hl⟩) ?_ ?_
 ·
  refine qaT qaf 15 Z 8 ?_
  intro s271 h271
  refine za 0 Z (qao Z) Z<|za 1 Z (qao Z) Z<|za 2 Z (qao Z) Z<|za 4 Z (qad 5 [_,_] Z Z Z Z Z) Z<|za 7 Z (qao Z) Z<|za 8 Z (qad 4 [_,_] Z Z Z Z Z) Z<|za 9 Z (qad 5 [_,_] Z Z Z Z Z) Z ?_
  refine qcg 3 10 V ?_ ?_
  ·
   refine Jb Z Tt Z Z Z (qcm D _ _ _) ?_
   rintro _ _ s272 h272 ⟨rfl,rfl⟩
   refine ⟨fun _ _ h=>h,?_⟩
   refine qcg 5 10 V ?_ ?_
   ·
    refine qas Z Tt [(_,_),(_,_)] [_,_,_,_] Z Z Z Z Z Z Z Z Z ?_
    intro βn s273 h273 hb21_5
    refine qcg 6 10 V ?_ ?_
    ·
     refine Jb Z Tt Z Z Z (qax D _ _ _ _ _ _ _ _ (qbA (hb21_5.le (Lr D)) (uD Z) (uD Z)) Dc) ?_
     rintro _ _ s274 h274 ⟨rfl,rfl⟩
     refine ⟨fun _ _ h=>h,?_⟩
     refine qah 10 V<|qas Z Tt [(_,_),(_,_)] [_,_,_,_] Z Z Z Z Z Z Z Z Z ?_
     intro βn s275 h275 hb21_10
     refine qah 11 V<|Jb Z Tt Z Z Z (qax D _ _ _ _ _ _ _ _ (qbA (hb21_10.le (Lr D)) (uD Z) (uD Z)) Dc) ?_
     rintro _ _ s276 h276 ⟨rfl,rfl⟩
     refine ⟨fun _ _ h=>h,?_⟩
     refine qah 12 V<|qas Z Tt [(_,_),(_,_)] [_,_,_,_,_,_,_,_,_,_,_,_] Z Z Z Z Z Z Z Z Z ?_
     intro βn s277 h277 hb21_12
     refine qah 13 V<|qaO Z Tt (first:=[]) (captured:=[_]) Z Z Z (AC.mid [_,_,_,_,_,_,_] [_] _ (qaN D _ _ _ _ _ _ (qcR (hb21_12.le (Lr D)) ⟨⟨(uD Z),(uD Z)⟩,⟨(uD Z),(uD Z)⟩⟩) _ _ _ _ _ (hPop.le (h139.t h144|>.t h149|>.t h154|>.t h159|>.t h178|>.t h197|>.t h216|>.t h238|>.t h247|>.t h252|>.t h258|>.t h264|>.t h271|>.t h272|>.t h273|>.t h274|>.t h275|>.t h276|>.t h277)) Dc)) ?_
     rintro _ _ s278 h278 ⟨_,rfl,rfl,Ap21,np21,cp21,rfl,hPa21⟩
     refine ⟨(fun x hx _=>qaK (qaI (qaI (sb0 _))) hx),?_⟩
     simp only [cQ9,nQ9]
     refine qah 14 V<|qaO Z Tt (first:=[]) (captured:=[_]) Z Z Z (AC.mid [_,_,_,_,_,_,_,_] (_::Mj) L (qaR D _ _ _ _ _ _ _ _ _ Mj 13 _ hOj Dc)) ?_
     rintro _ _ s279 h279 ⟨_,rfl,rfl,v2,M2,rfl,o2⟩
     refine ⟨(fun x hx _=>qaK (qaI (qaI (sb0 _))) hx),?_⟩
     simp only [cQ9,nQ9]
     refine qac V ?_
     refine qaa (MidF.mk (v2,M2,css++[_]) [] (h271.t h272|>.t h273|>.t h274|>.t h275|>.t h276|>.t h277|>.t h278|>.t h279) sk Pr ⟨by rw [qap];exact o2,by rw [qay (j:=13) (l:=defT.ins) Z];exact All2.snoc (qar hAj (h271.t h272|>.t h273|>.t h274|>.t h275|>.t h276|>.t h277|>.t h278|>.t h279)) ⟨Z,_,_,_,Z,(hPa21.le h279),by decide,⟨by decide,by decide⟩⟩⟩)
    refine qas Z Tt [(_,_),(_,_)] [_,_,_,_] Z Z Z Z Z Z Z Z Z ?_
    intro βn s280 h280 hb21_10
    refine qah 6 V<|Jb Z Tt Z Z Z (qax D _ _ _ _ _ _ _ _ (qbA (hb21_5.le h280) (uD Z) (uD Z)) Dc) ?_
    rintro _ _ s281 h281 ⟨rfl,rfl⟩
    refine ⟨fun _ _ h=>h,?_⟩
    refine qah 11 V<|Jb Z Tt Z Z Z (qax D _ _ _ _ _ _ _ _ (qbA (hb21_10.le h281) (uD Z) (uD Z)) Dc) ?_
    rintro _ _ s282 h282 ⟨rfl,rfl⟩
    refine ⟨fun _ _ h=>h,?_⟩
    refine qah 12 V<|qas Z Tt [(_,_),(_,_)] [_,_,_,_,_,_,_,_,_,_,_,_] Z Z Z Z Z Z Z Z Z ?_
    intro βn s283 h283 hb21_12
    refine qah 13 V<|qaO Z Tt (first:=[]) (captured:=[_]) Z Z Z (AC.mid [_,_,_,_,_,_,_] [_] _ (qaN D _ _ _ _ _ _ (qcR (hb21_12.le (Lr D)) ⟨⟨(uD Z),(uD Z)⟩,⟨(uD Z),(uD Z)⟩⟩) _ _ _ _ _ (hPop.le (h139.t h144|>.t h149|>.t h154|>.t h159|>.t h178|>.t h197|>.t h216|>.t h238|>.t h247|>.t h252|>.t h258|>.t h264|>.t h271|>.t h272|>.t h273|>.t h280|>.t h281|>.t h282|>.t h283)) Dc)) ?_
    rintro _ _ s284 h284 ⟨_,rfl,rfl,Ap21,np21,cp21,rfl,hPa21⟩
    refine ⟨(fun x hx _=>qaK (qaI (qaI (sb0 _))) hx),?_⟩
    simp only [cQ9,nQ9]
    refine qah 14 V<|qaO Z Tt (first:=[]) (captured:=[_]) Z Z Z (AC.mid [_,_,_,_,_,_,_,_] (_::Mj) L (qaR D _ _ _ _ _ _ _ _ _ Mj 13 _ hOj Dc)) ?_
    rintro _ _ s285 h285 ⟨_,rfl,rfl,v2,M2,rfl,o2⟩
    refine ⟨(fun x hx _=>qaK (qaI (qaI (sb0 _))) hx),?_⟩
    simp only [cQ9,nQ9]
    refine qac V ?_
    refine qaa (MidF.mk (v2,M2,css++[_]) [] (h271.t h272|>.t h273|>.t h280|>.t h281|>.t h282|>.t h283|>.t h284|>.t h285) sk Pr ⟨by rw [qap];exact o2,by rw [qay (j:=13) (l:=defT.ins) Z];exact All2.snoc (qar hAj (h271.t h272|>.t h273|>.t h280|>.t h281|>.t h282|>.t h283|>.t h284|>.t h285)) ⟨Z,_,_,_,Z,(hPa21.le h285),by decide,⟨by decide,by decide⟩⟩⟩)
   refine qas Z Tt [(_,_),(_,_)] [_,_,_,_] Z Z Z Z Z Z Z Z Z ?_
   intro βn s286 h286 hb21_10
   refine qah 5 V<|qas Z Tt [(_,_),(_,_)] [_,_,_,_] Z Z Z Z Z Z Z Z Z ?_
   intro βn s287 h287 hb21_5
   refine qah 6 V<|Jb Z Tt Z Z Z (qax D _ _ _ _ _ _ _ _ (qbA (hb21_5.le (Lr D)) (uD Z) (uD Z)) Dc) ?_
   rintro _ _ s288 h288 ⟨rfl,rfl⟩
   refine ⟨fun _ _ h=>h,?_⟩
   refine qah 11 V<|Jb Z Tt Z Z Z (qax D _ _ _ _ _ _ _ _ (qbA (hb21_10.le (h287.t h288)) (uD Z) (uD Z)) Dc) ?_
   rintro _ _ s289 h289 ⟨rfl,rfl⟩
   refine ⟨fun _ _ h=>h,?_⟩
   refine qah 12 V<|qas Z Tt [(_,_),(_,_)] [_,_,_,_,_,_,_,_,_,_,_,_] Z Z Z Z Z Z Z Z Z ?_
   intro βn s290 h290 hb21_12
   refine qah 13 V<|qaO Z Tt (first:=[]) (captured:=[_]) Z Z Z (AC.mid [_,_,_,_,_,_,_] [_] _ (qaN D _ _ _ _ _ _ (qcR (hb21_12.le (Lr D)) ⟨⟨(uD Z),(uD Z)⟩,⟨(uD Z),(uD Z)⟩⟩) _ _ _ _ _ (hPop.le (h139.t h144|>.t h149|>.t h154|>.t h159|>.t h178|>.t h197|>.t h216|>.t h238|>.t h247|>.t h252|>.t h258|>.t h264|>.t h271|>.t h272|>.t h286|>.t h287|>.t h288|>.t h289|>.t h290)) Dc)) ?_
   rintro _ _ s291 h291 ⟨_,rfl,rfl,Ap21,np21,cp21,rfl,hPa21⟩
   refine ⟨(fun x hx _=>qaK (qaI (qaI (sb0 _))) hx),?_⟩
   simp only [cQ9,nQ9]
   refine qah 14 V<|qaO Z Tt (first:=[]) (captured:=[_]) Z Z Z (AC.mid [_,_,_,_,_,_,_,_] (_::Mj) L (qaR D _ _ _ _ _ _ _ _ _ Mj 13 _ hOj Dc)) ?_
   rintro _ _ s292 h292 ⟨_,rfl,rfl,v2,M2,rfl,o2⟩
   refine ⟨(fun x hx _=>qaK (qaI (qaI (sb0 _))) hx),?_⟩
   simp only [cQ9,nQ9]
   refine qac V ?_
   refine qaa (MidF.mk (v2,M2,css++[_]) [] (h271.t h272|>.t h286|>.t h287|>.t h288|>.t h289|>.t h290|>.t h291|>.t h292) sk Pr ⟨by rw [qap];exact o2,by rw [qay (j:=13) (l:=defT.ins) Z];exact All2.snoc (qar hAj (h271.t h272|>.t h286|>.t h287|>.t h288|>.t h289|>.t h290|>.t h291|>.t h292)) ⟨Z,_,_,_,Z,(hPa21.le h292),by decide,⟨by decide,by decide⟩⟩⟩)
  refine qas Z Tt [(_,_),(_,_)] [_,_,_,_] Z Z Z Z Z Z Z Z Z ?_
  intro βn s293 h293 hb21_10
  refine qah 3 V<|Jb Z Tt Z Z Z (qcm D _ _ _) ?_
  rintro _ _ s294 h294 ⟨rfl,rfl⟩
  refine ⟨fun _ _ h=>h,?_⟩
  refine qah 5 V<|qas Z Tt [(_,_),(_,_)] [_,_,_,_] Z Z Z Z Z Z Z Z Z ?_
  intro βn s295 h295 hb21_5
  refine qah 6 V<|Jb Z Tt Z Z Z (qax D _ _ _ _ _ _ _ _ (qbA (hb21_5.le (Lr D)) (uD Z) (uD Z)) Dc) ?_
  rintro _ _ s296 h296 ⟨rfl,rfl⟩
  refine ⟨fun _ _ h=>h,?_⟩
  refine qah 11 V<|Jb Z Tt Z Z Z (qax D _ _ _ _ _ _ _ _ (qbA (hb21_10.le (h294.t h295|>.t h296)) (uD Z) (uD Z)) Dc) ?_
  rintro _ _ s297 h297 ⟨rfl,rfl⟩
  refine ⟨fun _ _ h=>h,?_⟩
  refine qah 12 V<|qas Z Tt [(_,_),(_,_)] [_,_,_,_,_,_,_,_,_,_,_,_] Z Z Z Z Z Z Z Z Z ?_
  intro βn s298 h298 hb21_12
  refine qah 13 V<|qaO Z Tt (first:=[]) (captured:=[_]) Z Z Z (AC.mid [_,_,_,_,_,_,_] [_] _ (qaN D _ _ _ _ _ _ (qcR (hb21_12.le (Lr D)) ⟨⟨(uD Z),(uD Z)⟩,⟨(uD Z),(uD Z)⟩⟩) _ _ _ _ _ (hPop.le (h139.t h144|>.t h149|>.t h154|>.t h159|>.t h178|>.t h197|>.t h216|>.t h238|>.t h247|>.t h252|>.t h258|>.t h264|>.t h271|>.t h293|>.t h294|>.t h295|>.t h296|>.t h297|>.t h298)) Dc)) ?_
  rintro _ _ s299 h299 ⟨_,rfl,rfl,Ap21,np21,cp21,rfl,hPa21⟩
  refine ⟨(fun x hx _=>qaK (qaI (qaI (sb0 _))) hx),?_⟩
  simp only [cQ9,nQ9]
  refine qah 14 V<|qaO Z Tt (first:=[]) (captured:=[_]) Z Z Z (AC.mid [_,_,_,_,_,_,_,_] (_::Mj) L (qaR D _ _ _ _ _ _ _ _ _ Mj 13 _ hOj Dc)) ?_
  rintro _ _ s300 h300 ⟨_,rfl,rfl,v2,M2,rfl,o2⟩
  refine ⟨(fun x hx _=>qaK (qaI (qaI (sb0 _))) hx),?_⟩
  simp only [cQ9,nQ9]
  refine qac V ?_
  refine qaa (MidF.mk (v2,M2,css++[_]) [] (h271.t h293|>.t h294|>.t h295|>.t h296|>.t h297|>.t h298|>.t h299|>.t h300) sk Pr ⟨by rw [qap];exact o2,by rw [qay (j:=13) (l:=defT.ins) Z];exact All2.snoc (qar hAj (h271.t h293|>.t h294|>.t h295|>.t h296|>.t h297|>.t h298|>.t h299|>.t h300)) ⟨Z,_,_,_,Z,(hPa21.le h300),by decide,⟨by decide,by decide⟩⟩⟩)
 intro g s270 h270 I270
 simp only [cQ9,nQ9]
 obtain ⟨vj,Mj,css⟩:=g
 obtain ⟨hOj,hAj⟩:=I270
 simp only at hOj hAj
 dsimp only
 refine qa1 [_,_,_,_,_,_,_,_] Z (γ:=Value×Hl×List (List Value)) (fun g=>(β13,cb [.int .i64 65536,g.1] 24)::(g.2.1++L)) (fun g tw=>FL.Own 66 4 g.2.1 g.1 15 g.2.2.flatten∧All2 (fun x cs=>cs.length=4∧InsR tw x cs) (defT.ins.take 15) g.2.2) (fun _ _ _ h hl=>⟨h.1,qar h.2 hl⟩) ?_ ?_
 ·
  refine qaT qaf 15 Z 8 ?_
  intro s302 h302
  refine za 0 Z (qao Z) Z<|za 1 Z (qao Z) Z<|za 2 Z (qao Z) Z<|za 4 Z (qad 5 [_,_] Z Z Z Z Z) Z<|za 7 Z (qao Z) Z<|za 8 Z (qad 4 [_,_] Z Z Z Z Z) Z<|za 9 Z (qad 5 [_,_] Z Z Z Z Z) Z ?_
  refine qcg 3 10 V ?_ ?_
  ·
   refine Jb Z Tt Z Z Z (qcm D _ _ _) ?_
   rintro _ _ s303 h303 ⟨rfl,rfl⟩
   refine ⟨fun _ _ h=>h,?_⟩
   refine qcg 5 10 V ?_ ?_
   ·
    refine qas Z Tt [(_,_),(_,_)] [_,_,_,_] Z Z Z Z Z Z Z Z Z ?_
    intro βn s304 h304 hb22_5
    refine qcg 6 10 V ?_ ?_
    ·
     refine Jb Z Tt Z Z Z (qax D _ _ _ _ _ _ _ _ (qbA (hb22_5.le (Lr D)) (uD Z) (uD Z)) Dc) ?_
     rintro _ _ s305 h305 ⟨rfl,rfl⟩
     refine ⟨fun _ _ h=>h,?_⟩
     refine qah 10 V<|qas Z Tt [(_,_),(_,_)] [_,_,_,_] Z Z Z Z Z Z Z Z Z ?_
     intro βn s306 h306 hb22_10
     refine qah 11 V<|Jb Z Tt Z Z Z (qax D _ _ _ _ _ _ _ _ (qbA (hb22_10.le (Lr D)) (uD Z) (uD Z)) Dc) ?_
     rintro _ _ s307 h307 ⟨rfl,rfl⟩
     refine ⟨fun _ _ h=>h,?_⟩
     refine qah 12 V<|qas Z Tt [(_,_),(_,_)] [_,_,_,_,_,_,_,_,_,_,_,_] Z Z Z Z Z Z Z Z Z ?_
     intro βn s308 h308 hb22_12
     refine qah 13 V<|qaO Z Tt (first:=[]) (captured:=[_]) Z Z Z (AC.mid [_,_,_,_,_,_,_] [_] _ (qaN D _ _ _ _ _ _ (qcR (hb22_12.le (Lr D)) ⟨⟨(uD Z),(uD Z)⟩,⟨(uD Z),(uD Z)⟩⟩) _ _ _ _ _ (hPop.le (h139.t h144|>.t h149|>.t h154|>.t h159|>.t h178|>.t h197|>.t h216|>.t h238|>.t h247|>.t h252|>.t h258|>.t h264|>.t h270|>.t h302|>.t h303|>.t h304|>.t h305|>.t h306|>.t h307|>.t h308)) Dc)) ?_
     rintro _ _ s309 h309 ⟨_,rfl,rfl,Ap22,np22,cp22,rfl,hPa22⟩
     refine ⟨(fun x hx _=>qaK (qaI (qaI (sb0 _))) hx),?_⟩
     simp only [cQ9,nQ9]
     refine qah 14 V<|qaO Z Tt (first:=[]) (captured:=[_]) Z Z Z (AC.mid [_,_,_,_,_,_,_,_] (_::Mj) L (qaR D _ _ _ _ _ _ _ _ _ Mj 14 _ hOj Dc)) ?_
     rintro _ _ s310 h310 ⟨_,rfl,rfl,v2,M2,rfl,o2⟩
     refine ⟨(fun x hx _=>qaK (qaI (qaI (sb0 _))) hx),?_⟩
     simp only [cQ9,nQ9]
     refine qac V ?_
     refine qaa (MidF.mk (v2,M2,css++[_]) [] (h302.t h303|>.t h304|>.t h305|>.t h306|>.t h307|>.t h308|>.t h309|>.t h310) sk Pr ⟨by rw [qap];exact o2,by rw [qay (j:=14) (l:=defT.ins) Z];exact All2.snoc (qar hAj (h302.t h303|>.t h304|>.t h305|>.t h306|>.t h307|>.t h308|>.t h309|>.t h310)) ⟨Z,_,_,_,Z,(hPa22.le h310),by decide,⟨by decide,by decide⟩⟩⟩)
    refine qas Z Tt [(_,_),(_,_)] [_,_,_,_] Z Z Z Z Z Z Z Z Z ?_
    intro βn s311 h311 hb22_10
    refine qah 6 V<|Jb Z Tt Z Z Z (qax D _ _ _ _ _ _ _ _ (qbA (hb22_5.le h311) (uD Z) (uD Z)) Dc) ?_
    rintro _ _ s312 h312 ⟨rfl,rfl⟩
    refine ⟨fun _ _ h=>h,?_⟩
    refine qah 11 V<|Jb Z Tt Z Z Z (qax D _ _ _ _ _ _ _ _ (qbA (hb22_10.le h312) (uD Z) (uD Z)) Dc) ?_
    rintro _ _ s313 h313 ⟨rfl,rfl⟩
    refine ⟨fun _ _ h=>h,?_⟩
    refine qah 12 V<|qas Z Tt [(_,_),(_,_)] [_,_,_,_,_,_,_,_,_,_,_,_] Z Z Z Z Z Z Z Z Z ?_
    intro βn s314 h314 hb22_12
    refine qah 13 V<|qaO Z Tt (first:=[]) (captured:=[_]) Z Z Z (AC.mid [_,_,_,_,_,_,_] [_] _ (qaN D _ _ _ _ _ _ (qcR (hb22_12.le (Lr D)) ⟨⟨(uD Z),(uD Z)⟩,⟨(uD Z),(uD Z)⟩⟩) _ _ _ _ _ (hPop.le (h139.t h144|>.t h149|>.t h154|>.t h159|>.t h178|>.t h197|>.t h216|>.t h238|>.t h247|>.t h252|>.t h258|>.t h264|>.t h270|>.t h302|>.t h303|>.t h304|>.t h311|>.t h312|>.t h313|>.t h314)) Dc)) ?_
    rintro _ _ s315 h315 ⟨_,rfl,rfl,Ap22,np22,cp22,rfl,hPa22⟩
    refine ⟨(fun x hx _=>qaK (qaI (qaI (sb0 _))) hx),?_⟩
    simp only [cQ9,nQ9]
    refine qah 14 V<|qaO Z Tt (first:=[]) (captured:=[_]) Z Z Z (AC.mid [_,_,_,_,_,_,_,_] (_::Mj) L (qaR D _ _ _ _ _ _ _ _ _ Mj 14 _ hOj Dc)) ?_
    rintro _ _ s316 h316 ⟨_,rfl,rfl,v2,M2,rfl,o2⟩
    refine ⟨(fun x hx _=>qaK (qaI (qaI (sb0 _))) hx),?_⟩
    simp only [cQ9,nQ9]
    refine qac V ?_
    refine qaa (MidF.mk (v2,M2,css++[_]) [] (h302.t h303|>.t h304|>.t h311|>.t h312|>.t h313|>.t h314|>.t h315|>.t h316) sk Pr ⟨by rw [qap];exact o2,by rw [qay (j:=14) (l:=defT.ins) Z];exact All2.snoc (qar hAj (h302.t h303|>.t h304|>.t h311|>.t h312|>.t h313|>.t h314|>.t h315|>.t h316)) ⟨Z,_,_,_,Z,(hPa22.le h316),by decide,⟨by decide,by decide⟩⟩⟩)
   refine qas Z Tt [(_,_),(_,_)] [_,_,_,_] Z Z Z Z Z Z Z Z Z ?_
   intro βn s317 h317 hb22_10
   refine qah 5 V<|qas Z Tt [(_,_),(_,_)] [_,_,_,_] Z Z Z Z Z Z Z Z Z ?_
   intro βn s318 h318 hb22_5
   refine qah 6 V<|Jb Z Tt Z Z Z (qax D _ _ _ _ _ _ _ _ (qbA (hb22_5.le (Lr D)) (uD Z) (uD Z)) Dc) ?_
   rintro _ _ s319 h319 ⟨rfl,rfl⟩
   refine ⟨fun _ _ h=>h,?_⟩
   refine qah 11 V<|Jb Z Tt Z Z Z (qax D _ _ _ _ _ _ _ _ (qbA (hb22_10.le (h318.t h319)) (uD Z) (uD Z)) Dc) ?_
   rintro _ _ s320 h320 ⟨rfl,rfl⟩
   refine ⟨fun _ _ h=>h,?_⟩
   refine qah 12 V<|qas Z Tt [(_,_),(_,_)] [_,_,_,_,_,_,_,_,_,_,_,_] Z Z Z Z Z Z Z Z Z ?_
   intro βn s321 h321 hb22_12
   refine qah 13 V<|qaO Z Tt (first:=[]) (captured:=[_]) Z Z Z (AC.mid [_,_,_,_,_,_,_] [_] _ (qaN D _ _ _ _ _ _ (qcR (hb22_12.le (Lr D)) ⟨⟨(uD Z),(uD Z)⟩,⟨(uD Z),(uD Z)⟩⟩) _ _ _ _ _ (hPop.le (h139.t h144|>.t h149|>.t h154|>.t h159|>.t h178|>.t h197|>.t h216|>.t h238|>.t h247|>.t h252|>.t h258|>.t h264|>.t h270|>.t h302|>.t h303|>.t h317|>.t h318|>.t h319|>.t h320|>.t h321)) Dc)) ?_
   rintro _ _ s322 h322 ⟨_,rfl,rfl,Ap22,np22,cp22,rfl,hPa22⟩
   refine ⟨(fun x hx _=>qaK (qaI (qaI (sb0 _))) hx),?_⟩
   simp only [cQ9,nQ9]
   refine qah 14 V<|qaO Z Tt (first:=[]) (captured:=[_]) Z Z Z (AC.mid [_,_,_,_,_,_,_,_] (_::Mj) L (qaR D _ _ _ _ _ _ _ _ _ Mj 14 _ hOj Dc)) ?_
   rintro _ _ s323 h323 ⟨_,rfl,rfl,v2,M2,rfl,o2⟩
   refine ⟨(fun x hx _=>qaK (qaI (qaI (sb0 _))) hx),?_⟩
   simp only [cQ9,nQ9]
   refine qac V ?_
   refine qaa (MidF.mk (v2,M2,css++[_]) [] (h302.t h303|>.t h317|>.t h318|>.t h319|>.t h320|>.t h321|>.t h322|>.t h323) sk Pr ⟨by rw [qap];exact o2,by rw [qay (j:=14) (l:=defT.ins) Z];exact All2.snoc (qar hAj (h302.t h303|>.t h317|>.t h318|>.t h319|>.t h320|>.t h321|>.t h322|>.t h323)) ⟨Z,_,_,_,Z,(hPa22.le h323),by decide,⟨by decide,by decide⟩⟩⟩)
  refine qas Z Tt [(_,_),(_,_)] [_,_,_,_] Z Z Z Z Z Z Z Z Z ?_
  intro βn s324 h324 hb22_10
  refine qah 3 V<|Jb Z Tt Z Z Z (qcm D _ _ _) ?_
  rintro _ _ s325 h325 ⟨rfl,rfl⟩
  refine ⟨fun _ _ h=>h,?_⟩
  refine qah 5 V<|qas Z Tt [(_,_),(_,_)] [_,_,_,_] Z Z Z Z Z Z Z Z Z ?_
  intro βn s326 h326 hb22_5
  refine qah 6 V<|Jb Z Tt Z Z Z (qax D _ _ _ _ _ _ _ _ (qbA (hb22_5.le (Lr D)) (uD Z) (uD Z)) Dc) ?_
  rintro _ _ s327 h327 ⟨rfl,rfl⟩
  refine ⟨fun _ _ h=>h,?_⟩
  refine qah 11 V<|Jb Z Tt Z Z Z (qax D _ _ _ _ _ _ _ _ (qbA (hb22_10.le (h325.t h326|>.t h327)) (uD Z) (uD Z)) Dc) ?_
  rintro _ _ s328 h328 ⟨rfl,rfl⟩
  refine ⟨fun _ _ h=>h,?_⟩
  refine qah 12 V<|qas Z Tt [(_,_),(_,_)] [_,_,_,_,_,_,_,_,_,_,_,_] Z Z Z Z Z Z Z Z Z ?_
  intro βn s329 h329 hb22_12
  refine qah 13 V<|qaO Z Tt (first:=[]) (captured:=[_]) Z Z Z (AC.mid [_,_,_,_,_,_,_] [_] _ (qaN D _ _ _ _ _ _ (qcR (hb22_12.le (Lr D)) ⟨⟨(uD Z),(uD Z)⟩,⟨(uD Z),(uD Z)⟩⟩) _ _ _ _ _ (hPop.le (h139.t h144|>.t h149|>.t h154|>.t h159|>.t h178|>.t h197|>.t h216|>.t h238|>.t h247|>.t h252|>.t h258|>.t h264|>.t h270|>.t h302|>.t h324|>.t h325|>.t h326|>.t h327|>.t h328|>.t h329)) Dc)) ?_
  rintro _ _ s330 h330 ⟨_,rfl,rfl,Ap22,np22,cp22,rfl,hPa22⟩
  refine ⟨(fun x hx _=>qaK (qaI (qaI (sb0 _))) hx),?_⟩
  simp only [cQ9,nQ9]
  refine qah 14 V<|qaO Z Tt (first:=[]) (captured:=[_]) Z Z Z (AC.mid [_,_,_,_,_,_,_,_] (_::Mj) L (qaR D _ _ _ _ _ _ _ _ _ Mj 14 _ hOj Dc)) ?_
  rintro _ _ s331 h331 ⟨_,rfl,rfl,v2,M2,rfl,o2⟩
  refine ⟨(fun x hx _=>qaK (qaI (qaI (sb0 _))) hx),?_⟩
  simp only [cQ9,nQ9]
  refine qac V ?_
  refine qaa (MidF.mk (v2,M2,css++[_]) [] (h302.t h324|>.t h325|>.t h326|>.t h327|>.t h328|>.t h329|>.t h330|>.t h331) sk Pr ⟨by rw [qap];exact o2,by rw [qay (j:=14) (l:=defT.ins) Z];exact All2.snoc (qar hAj (h302.t h324|>.t h325|>.t h326|>.t h327|>.t h328|>.t h329|>.t h330|>.t h331)) ⟨Z,_,_,_,Z,(hPa22.le h331),by decide,⟨by decide,by decide⟩⟩⟩)
 intro g s301 h301 I301
 simp only [cQ9,nQ9]
 obtain ⟨vj,Mj,css⟩:=g
 obtain ⟨hOj,hAj⟩:=I301
 simp only at hOj hAj
 dsimp only
 refine qa1 [_,_,_,_,_,_,_,_] Z (γ:=Value×Hl×List (List Value)) (fun g=>(β13,cb [.int .i64 65536,g.1] 24)::(g.2.1++L)) (fun g tw=>FL.Own 66 4 g.2.1 g.1 16 g.2.2.flatten∧All2 (fun x cs=>cs.length=4∧InsR tw x cs) (defT.ins.take 16) g.2.2) (fun _ _ _ h hl=>⟨h.1,qar h.2 hl⟩) ?_ ?_
 ·
  refine Zr<|Zqm Z Z<|Zqm Z Z<|Zqm Z Z<|qae (qad 4 [_,_] Z Z Z Z Z) Z<|qae (qad 5 [_,_] Z Z Z Z Z) Z<|qa0 [(_,_),(_,_)] [_,_,_,_] Z Z Z Z Z Z Z Z Z ?_
  intro βn s333 h333 hb23_5
  refine Jc Z Z Z (qax D _ _ _ _ _ _ _ _ (qbA (hb23_5.le (Lr D)) (uD Z) (uD Z)) Dc) ?_
  rintro _ _ s334 h334 ⟨rfl,rfl⟩
  refine qa0 [(_,_)] [_,_,_,_,_,_] Z Z Z Z Z Z Z Z Z ?_
  intro βn s335 h335 hb23_7
  refine qaz (first:=[]) (captured:=[_]) Z Z Z (AC.mid [_,_,_,_,_,_,_] [_] _ (qaN D _ _ _ _ _ _ (qgA (hb23_7.le (Lr D)) ⟨(uD Z),(uD Z)⟩) _ _ _ _ _ (hPop.le (h139.t h144|>.t h149|>.t h154|>.t h159|>.t h178|>.t h197|>.t h216|>.t h238|>.t h247|>.t h252|>.t h258|>.t h264|>.t h270|>.t h301|>.t h333|>.t h334|>.t h335)) Dc)) ?_
  rintro _ _ s336 h336 ⟨_,rfl,rfl,Ap23,np23,cp23,rfl,hPa23⟩
  simp only [cQ9,nQ9]
  refine qaz (first:=[]) (captured:=[_]) Z Z Z (AC.mid [_,_,_,_,_,_,_,_] (_::Mj) L (qaR D _ _ _ _ _ _ _ _ _ Mj 15 _ hOj Dc)) ?_
  rintro _ _ s337 h337 ⟨_,rfl,rfl,v2,M2,rfl,o2⟩
  simp only [cQ9,nQ9]
  refine Zn ?_
  refine qaa (MidF.mk (v2,M2,css++[_]) [] (h333.t h334|>.t h335|>.t h336|>.t h337) sk Pr ⟨by rw [qap];exact o2,by rw [qay (j:=15) (l:=defT.ins) Z];exact All2.snoc (qar hAj (h333.t h334|>.t h335|>.t h336|>.t h337)) ⟨Z,_,_,_,Z,(hPa23.le h337),by decide,⟨by decide,by decide⟩⟩⟩)
 intro g s332 h332 I332
 simp only [cQ9,nQ9]
 obtain ⟨vj,Mj,css⟩:=g
 obtain ⟨hOj,hAj⟩:=I332
 simp only at hOj hAj
 dsimp only
 refine qa1 [_,_,_,_,_,_,_,_] Z (γ:=Value×Hl×List (List Value)) (fun g=>(β13,cb [.int .i64 65536,g.1] 24)::(g.2.1++L)) (fun g tw=>FL.Own 66 4 g.2.1 g.1 17 g.2.2.flatten∧All2 (fun x cs=>cs.length=4∧InsR tw x cs) (defT.ins.take 17) g.2.2) (fun _ _ _ h hl=>⟨h.1,qar h.2 hl⟩) ?_ ?_
 ·
  refine Zr<|Zqm Z Z<|Zqm Z Z<|Zqm Z Z<|qae (qad 4 [_,_] Z Z Z Z Z) Z<|qae (qad 5 [_,_] Z Z Z Z Z) Z<|qa0 [(_,_),(_,_)] [_,_,_,_] Z Z Z Z Z Z Z Z Z ?_
  intro βn s339 h339 hb24_5
  refine Jc Z Z Z (qax D _ _ _ _ _ _ _ _ (qbA (hb24_5.le (Lr D)) (uD Z) (uD Z)) Dc) ?_
  rintro _ _ s340 h340 ⟨rfl,rfl⟩
  refine qa0 [(_,_)] [_,_,_,_,_,_] Z Z Z Z Z Z Z Z Z ?_
  intro βn s341 h341 hb24_7
  refine qaz (first:=[]) (captured:=[_]) Z Z Z (AC.mid [_,_,_,_,_,_,_] [_] _ (qaN D _ _ _ _ _ _ (qgA (hb24_7.le (Lr D)) ⟨(uD Z),(uD Z)⟩) _ _ _ _ _ (hPop.le (h139.t h144|>.t h149|>.t h154|>.t h159|>.t h178|>.t h197|>.t h216|>.t h238|>.t h247|>.t h252|>.t h258|>.t h264|>.t h270|>.t h301|>.t h332|>.t h339|>.t h340|>.t h341)) Dc)) ?_
  rintro _ _ s342 h342 ⟨_,rfl,rfl,Ap24,np24,cp24,rfl,hPa24⟩
  simp only [cQ9,nQ9]
  refine qaz (first:=[]) (captured:=[_]) Z Z Z (AC.mid [_,_,_,_,_,_,_,_] (_::Mj) L (qaR D _ _ _ _ _ _ _ _ _ Mj 16 _ hOj Dc)) ?_
  rintro _ _ s343 h343 ⟨_,rfl,rfl,v2,M2,rfl,o2⟩
  simp only [cQ9,nQ9]
  refine Zn ?_
  refine qaa (MidF.mk (v2,M2,css++[_]) [] (h339.t h340|>.t h341|>.t h342|>.t h343) sk Pr ⟨by rw [qap];exact o2,by rw [qay (j:=16) (l:=defT.ins) Z];exact All2.snoc (qar hAj (h339.t h340|>.t h341|>.t h342|>.t h343)) ⟨Z,_,_,_,Z,(hPa24.le h343),by decide,⟨by decide,by decide⟩⟩⟩)
 intro g s338 h338 I338
 simp only [cQ9,nQ9]
 obtain ⟨vj,Mj,css⟩:=g
 obtain ⟨hOj,hAj⟩:=I338
 simp only at hOj hAj
 dsimp only
 refine qa1 [_,_,_,_,_,_,_,_] Z (γ:=Value×Hl×List (List Value)) (fun g=>(β13,cb [.int .i64 65536,g.1] 24)::(g.2.1++L)) (fun g tw=>FL.Own 66 4 g.2.1 g.1 18 g.2.2.flatten∧All2 (fun x cs=>cs.length=4∧InsR tw x cs) (defT.ins.take 18) g.2.2) (fun _ _ _ h hl=>⟨h.1,qar h.2 hl⟩) ?_ ?_
 ·
  refine Zr<|Zqm Z Z<|Zqm Z Z<|Zqm Z Z<|qae (qad 4 [_,_] Z Z Z Z Z) Z<|qae (qad 5 [_,_] Z Z Z Z Z) Z<|qa0 [(_,_),(_,_)] [_,_,_,_] Z Z Z Z Z Z Z Z Z ?_
  intro βn s345 h345 hb25_5
  refine Jc Z Z Z (qax D _ _ _ _ _ _ _ _ (qbA (hb25_5.le (Lr D)) (uD Z) (uD Z)) Dc) ?_
  rintro _ _ s346 h346 ⟨rfl,rfl⟩
  refine qa0 [(_,_)] [_,_,_,_,_,_] Z Z Z Z Z Z Z Z Z ?_
  intro βn s347 h347 hb25_7
  refine qaz (first:=[]) (captured:=[_]) Z Z Z (AC.mid [_,_,_,_,_,_,_] [_] _ (qaN D _ _ _ _ _ _ (qgA (hb25_7.le (Lr D)) ⟨(uD Z),(uD Z)⟩) _ _ _ _ _ (hPop.le (h139.t h144|>.t h149|>.t h154|>.t h159|>.t h178|>.t h197|>.t h216|>.t h238|>.t h247|>.t h252|>.t h258|>.t h264|>.t h270|>.t h301|>.t h332|>.t h338|>.t h345|>.t h346|>.t h347)) Dc)) ?_
  rintro _ _ s348 h348 ⟨_,rfl,rfl,Ap25,np25,cp25,rfl,hPa25⟩
  simp only [cQ9,nQ9]
  refine qaz (first:=[]) (captured:=[_]) Z Z Z (AC.mid [_,_,_,_,_,_,_,_] (_::Mj) L (qaR D _ _ _ _ _ _ _ _ _ Mj 17 _ hOj Dc)) ?_
  rintro _ _ s349 h349 ⟨_,rfl,rfl,v2,M2,rfl,o2⟩
  simp only [cQ9,nQ9]
  refine Zn ?_
  refine qaa (MidF.mk (v2,M2,css++[_]) [] (h345.t h346|>.t h347|>.t h348|>.t h349) sk Pr ⟨by rw [qap];exact o2,by rw [qay (j:=17) (l:=defT.ins) Z];exact All2.snoc (qar hAj (h345.t h346|>.t h347|>.t h348|>.t h349)) ⟨Z,_,_,_,Z,(hPa25.le h349),by decide,⟨by decide,by decide⟩⟩⟩)
 intro g s344 h344 I344
 simp only [cQ9,nQ9]
 obtain ⟨vj,Mj,css⟩:=g
 obtain ⟨hOj,hAj⟩:=I344
 simp only at hOj hAj
 dsimp only
 refine qa1 [_,_,_,_,_,_,_,_] Z (γ:=Value×Hl×List (List Value)) (fun g=>(β13,cb [.int .i64 65536,g.1] 24)::(g.2.1++L)) (fun g tw=>FL.Own 66 4 g.2.1 g.1 19 g.2.2.flatten∧All2 (fun x cs=>cs.length=4∧InsR tw x cs) (defT.ins.take 19) g.2.2) (fun _ _ _ h hl=>⟨h.1,qar h.2 hl⟩) ?_ ?_
 ·
  refine Zr<|Zqm Z Z<|Zqm Z Z<|Zqm Z Z<|qae (qad 4 [_,_] Z Z Z Z Z) Z<|qae (qad 5 [_,_] Z Z Z Z Z) Z<|qa0 [(_,_),(_,_)] [_,_,_,_] Z Z Z Z Z Z Z Z Z ?_
  intro βn s351 h351 hb26_5
  refine Jc Z Z Z (qax D _ _ _ _ _ _ _ _ (qbA (hb26_5.le (Lr D)) (uD Z) (uD Z)) Dc) ?_
  rintro _ _ s352 h352 ⟨rfl,rfl⟩
  refine qa0 [(_,_)] [_,_,_,_,_,_] Z Z Z Z Z Z Z Z Z ?_
  intro βn s353 h353 hb26_7
  refine qaz (first:=[]) (captured:=[_]) Z Z Z (AC.mid [_,_,_,_,_,_,_] [_] _ (qaN D _ _ _ _ _ _ (qgA (hb26_7.le (Lr D)) ⟨(uD Z),(uD Z)⟩) _ _ _ _ _ (hPop.le (h139.t h144|>.t h149|>.t h154|>.t h159|>.t h178|>.t h197|>.t h216|>.t h238|>.t h247|>.t h252|>.t h258|>.t h264|>.t h270|>.t h301|>.t h332|>.t h338|>.t h344|>.t h351|>.t h352|>.t h353)) Dc)) ?_
  rintro _ _ s354 h354 ⟨_,rfl,rfl,Ap26,np26,cp26,rfl,hPa26⟩
  simp only [cQ9,nQ9]
  refine qaz (first:=[]) (captured:=[_]) Z Z Z (AC.mid [_,_,_,_,_,_,_,_] (_::Mj) L (qaR D _ _ _ _ _ _ _ _ _ Mj 18 _ hOj Dc)) ?_
  rintro _ _ s355 h355 ⟨_,rfl,rfl,v2,M2,rfl,o2⟩
  simp only [cQ9,nQ9]
  refine Zn ?_
  refine qaa (MidF.mk (v2,M2,css++[_]) [] (h351.t h352|>.t h353|>.t h354|>.t h355) sk Pr ⟨by rw [qap];exact o2,by rw [qay (j:=18) (l:=defT.ins) Z];exact All2.snoc (qar hAj (h351.t h352|>.t h353|>.t h354|>.t h355)) ⟨Z,_,_,_,Z,(hPa26.le h355),by decide,⟨by decide,by decide⟩⟩⟩)
 intro g s350 h350 I350
 simp only [cQ9,nQ9]
 obtain ⟨vj,Mj,css⟩:=g
 obtain ⟨hOj,hAj⟩:=I350
 simp only at hOj hAj
 dsimp only
 refine qa1 [_,_,_,_,_,_,_,_] Z (γ:=Value×Hl×List (List Value)) (fun g=>(β13,cb [.int .i64 65536,g.1] 24)::(g.2.1++L)) (fun g tw=>FL.Own 66 4 g.2.1 g.1 20 g.2.2.flatten∧All2 (fun x cs=>cs.length=4∧InsR tw x cs) (defT.ins.take 20) g.2.2) (fun _ _ _ h hl=>⟨h.1,qar h.2 hl⟩) ?_ ?_
 ·
  refine Zr<|Zqm Z Z<|Zqm Z Z<|Zqm Z Z<|qae (qad 4 [_,_] Z Z Z Z Z) Z<|qae (qad 5 [_,_] Z Z Z Z Z) Z<|qa0 [(_,_),(_,_)] [_,_,_,_] Z Z Z Z Z Z Z Z Z ?_
  intro βn s357 h357 hb27_5
  refine Jc Z Z Z (qax D _ _ _ _ _ _ _ _ (qbA (hb27_5.le (Lr D)) (uD Z) (uD Z)) Dc) ?_
  rintro _ _ s358 h358 ⟨rfl,rfl⟩
  refine qa0 [(_,_)] [_,_,_,_,_,_] Z Z Z Z Z Z Z Z Z ?_
  intro βn s359 h359 hb27_7
  refine qaz (first:=[]) (captured:=[_]) Z Z Z (AC.mid [_,_,_,_,_,_,_] [_] _ (qaN D _ _ _ _ _ _ (qgA (hb27_7.le (Lr D)) ⟨(uD Z),(uD Z)⟩) _ _ _ _ _ (hPop.le (h139.t h144|>.t h149|>.t h154|>.t h159|>.t h178|>.t h197|>.t h216|>.t h238|>.t h247|>.t h252|>.t h258|>.t h264|>.t h270|>.t h301|>.t h332|>.t h338|>.t h344|>.t h350|>.t h357|>.t h358|>.t h359)) Dc)) ?_
  rintro _ _ s360 h360 ⟨_,rfl,rfl,Ap27,np27,cp27,rfl,hPa27⟩
  simp only [cQ9,nQ9]
  refine qaz (first:=[]) (captured:=[_]) Z Z Z (AC.mid [_,_,_,_,_,_,_,_] (_::Mj) L (qaR D _ _ _ _ _ _ _ _ _ Mj 19 _ hOj Dc)) ?_
  rintro _ _ s361 h361 ⟨_,rfl,rfl,v2,M2,rfl,o2⟩
  simp only [cQ9,nQ9]
  refine Zn ?_
  refine qaa (MidF.mk (v2,M2,css++[_]) [] (h357.t h358|>.t h359|>.t h360|>.t h361) sk Pr ⟨by rw [qap];exact o2,by rw [qay (j:=19) (l:=defT.ins) Z];exact All2.snoc (qar hAj (h357.t h358|>.t h359|>.t h360|>.t h361)) ⟨Z,_,_,_,Z,(hPa27.le h361),by decide,⟨by decide,by decide⟩⟩⟩)
 intro g s356 h356 I356
 simp only [cQ9,nQ9]
 obtain ⟨vj,Mj,css⟩:=g
 obtain ⟨hOj,hAj⟩:=I356
 simp only at hOj hAj
 dsimp only
 refine qa1 [_,_,_,_,_,_,_,_] Z (γ:=Value×Hl×List (List Value)) (fun g=>(β13,cb [.int .i64 65536,g.1] 24)::(g.2.1++L)) (fun g tw=>FL.Own 66 4 g.2.1 g.1 21 g.2.2.flatten∧All2 (fun x cs=>cs.length=4∧InsR tw x cs) (defT.ins.take 21) g.2.2) (fun _ _ _ h hl=>⟨h.1,qar h.2 hl⟩) ?_ ?_
 ·
  refine Zr<|Zqm Z Z<|Zqm Z Z<|Zqm Z Z<|qae (qad 4 [_,_] Z Z Z Z Z) Z<|qae (qad 5 [_,_] Z Z Z Z Z) Z<|qa0 [(_,_),(_,_)] [_,_,_,_] Z Z Z Z Z Z Z Z Z ?_
  intro βn s363 h363 hb28_5
  refine Jc Z Z Z (qax D _ _ _ _ _ _ _ _ (qbA (hb28_5.le (Lr D)) (uD Z) (uD Z)) Dc) ?_
  rintro _ _ s364 h364 ⟨rfl,rfl⟩
  refine qa0 [(_,_)] [_,_,_,_,_,_] Z Z Z Z Z Z Z Z Z ?_
  intro βn s365 h365 hb28_7
  refine qaz (first:=[]) (captured:=[_]) Z Z Z (AC.mid [_,_,_,_,_,_,_] [_] _ (qaN D _ _ _ _ _ _ (qgA (hb28_7.le (Lr D)) ⟨(uD Z),(uD Z)⟩) _ _ _ _ _ (hPop.le (h139.t h144|>.t h149|>.t h154|>.t h159|>.t h178|>.t h197|>.t h216|>.t h238|>.t h247|>.t h252|>.t h258|>.t h264|>.t h270|>.t h301|>.t h332|>.t h338|>.t h344|>.t h350|>.t h356|>.t h363|>.t h364|>.t h365)) Dc)) ?_
  rintro _ _ s366 h366 ⟨_,rfl,rfl,Ap28,np28,cp28,rfl,hPa28⟩
  simp only [cQ9,nQ9]
  refine qaz (first:=[]) (captured:=[_]) Z Z Z (AC.mid [_,_,_,_,_,_,_,_] (_::Mj) L (qaR D _ _ _ _ _ _ _ _ _ Mj 20 _ hOj Dc)) ?_
  rintro _ _ s367 h367 ⟨_,rfl,rfl,v2,M2,rfl,o2⟩
  simp only [cQ9,nQ9]
  refine Zn ?_
  refine qaa (MidF.mk (v2,M2,css++[_]) [] (h363.t h364|>.t h365|>.t h366|>.t h367) sk Pr ⟨by rw [qap];exact o2,by rw [qay (j:=20) (l:=defT.ins) Z];exact All2.snoc (qar hAj (h363.t h364|>.t h365|>.t h366|>.t h367)) ⟨Z,_,_,_,Z,(hPa28.le h367),by decide,⟨by decide,by decide⟩⟩⟩)
 intro g s362 h362 I362
 simp only [cQ9,nQ9]
 obtain ⟨vj,Mj,css⟩:=g
 obtain ⟨hOj,hAj⟩:=I362
 simp only at hOj hAj
 dsimp only
 refine qa1 [_,_,_,_,_,_,_,_] Z (γ:=Value×Hl×List (List Value)) (fun g=>(β13,cb [.int .i64 65536,g.1] 24)::(g.2.1++L)) (fun g tw=>FL.Own 66 4 g.2.1 g.1 22 g.2.2.flatten∧All2 (fun x cs=>cs.length=4∧InsR tw x cs) (defT.ins.take 22) g.2.2) (fun _ _ _ h hl=>⟨h.1,qar h.2 hl⟩) ?_ ?_
 ·
  refine Zr<|Zqm Z Z<|Zqm Z Z<|Zqm Z Z<|qae (qad 4 [_,_] Z Z Z Z Z) Z<|qae (qad 5 [_,_] Z Z Z Z Z) Z<|qa0 [(_,_),(_,_)] [_,_,_,_] Z Z Z Z Z Z Z Z Z ?_
  intro βn s369 h369 hb29_5
  refine Jc Z Z Z (qax D _ _ _ _ _ _ _ _ (qbA (hb29_5.le (Lr D)) (uD Z) (uD Z)) Dc) ?_
  rintro _ _ s370 h370 ⟨rfl,rfl⟩
  refine qa0 [(_,_)] [_,_,_,_,_,_] Z Z Z Z Z Z Z Z Z ?_
  intro βn s371 h371 hb29_7
  refine qaz (first:=[]) (captured:=[_]) Z Z Z (AC.mid [_,_,_,_,_,_,_] [_] _ (qaN D _ _ _ _ _ _ (qgA (hb29_7.le (Lr D)) ⟨(uD Z),(uD Z)⟩) _ _ _ _ _ (hPop.le (h139.t h144|>.t h149|>.t h154|>.t h159|>.t h178|>.t h197|>.t h216|>.t h238|>.t h247|>.t h252|>.t h258|>.t h264|>.t h270|>.t h301|>.t h332|>.t h338|>.t h344|>.t h350|>.t h356|>.t h362|>.t h369|>.t h370|>.t h371)) Dc)) ?_
  rintro _ _ s372 h372 ⟨_,rfl,rfl,Ap29,np29,cp29,rfl,hPa29⟩
  simp only [cQ9,nQ9]
  refine qaz (first:=[]) (captured:=[_]) Z Z Z (AC.mid [_,_,_,_,_,_,_,_] (_::Mj) L (qaR D _ _ _ _ _ _ _ _ _ Mj 21 _ hOj Dc)) ?_
  rintro _ _ s373 h373 ⟨_,rfl,rfl,v2,M2,rfl,o2⟩
  simp only [cQ9,nQ9]
  refine Zn ?_
  refine qaa (MidF.mk (v2,M2,css++[_]) [] (h369.t h370|>.t h371|>.t h372|>.t h373) sk Pr ⟨by rw [qap];exact o2,by rw [qay (j:=21) (l:=defT.ins) Z];exact All2.snoc (qar hAj (h369.t h370|>.t h371|>.t h372|>.t h373)) ⟨Z,_,_,_,Z,(hPa29.le h373),by decide,⟨by decide,by decide⟩⟩⟩)
 intro g s368 h368 I368
 simp only [cQ9,nQ9]
 obtain ⟨vj,Mj,css⟩:=g
 obtain ⟨hOj,hAj⟩:=I368
 simp only at hOj hAj
 dsimp only
 refine qa1 [_,_,_,_,_,_,_,_] Z (γ:=Value×Hl×List (List Value)) (fun g=>(β13,cb [.int .i64 65536,g.1] 24)::(g.2.1++L)) (fun g tw=>FL.Own 66 4 g.2.1 g.1 23 g.2.2.flatten∧All2 (fun x cs=>cs.length=4∧InsR tw x cs) (defT.ins.take 23) g.2.2) (fun _ _ _ h hl=>⟨h.1,qar h.2 hl⟩) ?_ ?_
 ·
  refine Zr<|Zqm Z Z<|Zqm Z Z<|Zqm Z Z<|qae (qad 5 [_,_] Z Z Z Z Z) Z<|qae (qad 4 [_,_] Z Z Z Z Z) Z<|qa0 [(_,_),(_,_)] [_,_,_,_] Z Z Z Z Z Z Z Z Z ?_
  intro βn s375 h375 hb30_5
  refine Jc Z Z Z (qax D _ _ _ _ _ _ _ _ (qbA (hb30_5.le (Lr D)) (uD Z) (uD Z)) Dc) ?_
  rintro _ _ s376 h376 ⟨rfl,rfl⟩
  refine qa0 [(_,_)] [_,_,_,_,_,_] Z Z Z Z Z Z Z Z Z ?_
  intro βn s377 h377 hb30_7
  refine qaz (first:=[]) (captured:=[_]) Z Z Z (AC.mid [_,_,_,_,_,_,_] [_] _ (qaN D _ _ _ _ _ _ (qgA (hb30_7.le (Lr D)) ⟨(uD Z),(uD Z)⟩) _ _ _ _ _ (hPop.le (h139.t h144|>.t h149|>.t h154|>.t h159|>.t h178|>.t h197|>.t h216|>.t h238|>.t h247|>.t h252|>.t h258|>.t h264|>.t h270|>.t h301|>.t h332|>.t h338|>.t h344|>.t h350|>.t h356|>.t h362|>.t h368|>.t h375|>.t h376|>.t h377)) Dc)) ?_
  rintro _ _ s378 h378 ⟨_,rfl,rfl,Ap30,np30,cp30,rfl,hPa30⟩
  simp only [cQ9,nQ9]
  refine qaz (first:=[]) (captured:=[_]) Z Z Z (AC.mid [_,_,_,_,_,_,_,_] (_::Mj) L (qaR D _ _ _ _ _ _ _ _ _ Mj 22 _ hOj Dc)) ?_
  rintro _ _ s379 h379 ⟨_,rfl,rfl,v2,M2,rfl,o2⟩
  simp only [cQ9,nQ9]
  refine Zn ?_
  refine qaa (MidF.mk (v2,M2,css++[_]) [] (h375.t h376|>.t h377|>.t h378|>.t h379) sk Pr ⟨by rw [qap];exact o2,by rw [qay (j:=22) (l:=defT.ins) Z];exact All2.snoc (qar hAj (h375.t h376|>.t h377|>.t h378|>.t h379)) ⟨Z,_,_,_,Z,(hPa30.le h379),by decide,⟨by decide,by decide⟩⟩⟩)
 intro g s374 h374 I374
 simp only [cQ9,nQ9]
 obtain ⟨vj,Mj,css⟩:=g
 obtain ⟨hOj,hAj⟩:=I374
 simp only at hOj hAj
 dsimp only
 refine qa1 [_,_,_,_,_,_,_,_] Z (γ:=Value×Hl×List (List Value)) (fun g=>(β13,cb [.int .i64 65536,g.1] 24)::(g.2.1++L)) (fun g tw=>FL.Own 66 4 g.2.1 g.1 24 g.2.2.flatten∧All2 (fun x cs=>cs.length=4∧InsR tw x cs) (defT.ins.take 24) g.2.2) (fun _ _ _ h hl=>⟨h.1,qar h.2 hl⟩) ?_ ?_
 ·
  refine qaT qaf 8 Z 8 ?_
  intro s381 h381
  refine za 0 Z (qao Z) Z<|za 1 Z (qao Z) Z<|za 2 Z (qad 5 [_,_] Z Z Z Z Z) Z<|qah 3 V<|Jb Z Tt Z Z Z (qcm D _ _ _) ?_
  rintro _ _ s382 h382 ⟨rfl,rfl⟩
  refine ⟨fun _ _ h=>h,?_⟩
  refine qah 4 V<|qas Z Tt [(_,_),(_,_)] [_,_,_,_] Z Z Z Z Z Z Z Z Z ?_
  intro βn s383 h383 hb31_4
  refine qah 5 V<|Jb Z Tt Z Z Z (qax D _ _ _ _ _ _ _ _ (qbA (hb31_4.le (Lr D)) (uD Z) (uD Z)) Dc) ?_
  rintro _ _ s384 h384 ⟨rfl,rfl⟩
  refine ⟨fun _ _ h=>h,?_⟩
  refine qah 6 V<|qas Z Tt [(_,_)] [_,_,_,_,_,_] Z Z Z Z Z Z Z Z Z ?_
  intro βn s385 h385 hb31_6
  refine qah 7 V<|qaO Z Tt (first:=[]) (captured:=[_]) Z Z Z (AC.mid [_,_,_,_,_,_,_,_] (_::Mj) L (qaR D _ _ _ _ _ _ _ _ _ Mj 23 _ hOj Dc)) ?_
  rintro _ _ s386 h386 ⟨_,rfl,rfl,v2,M2,rfl,o2⟩
  refine ⟨(fun x hx _=>qaK (qaI (qaI (sb0 _))) hx),?_⟩
  simp only [cQ9,nQ9]
  refine qac V ?_
  refine qaa (MidF.mk (v2,M2,css++[_]) [] (h381.t h382|>.t h383|>.t h384|>.t h385|>.t h386) sk Pr ⟨by rw [qap];exact o2,by rw [qay (j:=23) (l:=defT.ins) Z];exact All2.snoc (qar hAj (h381.t h382|>.t h383|>.t h384|>.t h385|>.t h386)) ⟨Z,_,_,_,Z,(qgA (hb31_6.le h386) ⟨(uD Z),(uD Z)⟩),by decide,⟨by decide,by decide⟩⟩⟩)
 intro g s380 h380 I380
 simp only [cQ9,nQ9]
 obtain ⟨vj,Mj,css⟩:=g
 obtain ⟨hOj,hAj⟩:=I380
 simp only at hOj hAj
 dsimp only
 refine qa1 [_,_,_,_,_,_,_,_] Z (γ:=Value×Hl×List (List Value)) (fun g=>(β13,cb [.int .i64 65536,g.1] 24)::(g.2.1++L)) (fun g tw=>FL.Own 66 4 g.2.1 g.1 25 g.2.2.flatten∧All2 (fun x cs=>cs.length=4∧InsR tw x cs) (defT.ins.take 25) g.2.2) (fun _ _ _ h hl=>⟨h.1,qar h.2 hl⟩) ?_ ?_
 ·
  refine qaT qaf 13 Z 8 ?_
  intro s388 h388
  refine za 0 Z (qao Z) Z<|za 1 Z (qao Z) Z<|za 2 Z (qad 5 [_,_] Z Z Z Z Z) Z<|za 3 Z (qad 0 [_,_] Z Z Z Z Z) Z<|za 6 Z (qao Z) Z<|za 8 Z (qad 4 [_,_] Z Z Z Z Z) Z<|qah 4 V<|qas Z Tt [(_,_),(_,_)] [_,_,_,_] Z Z Z Z Z Z Z Z Z ?_
  intro βn s389 h389 hb32_4
  refine qah 5 V<|Jb Z Tt Z Z Z (qax D _ _ _ _ _ _ _ _ (qbA (hb32_4.le (Lr D)) (uD Z) (uD Z)) Dc) ?_
  rintro _ _ s390 h390 ⟨rfl,rfl⟩
  refine ⟨fun _ _ h=>h,?_⟩
  refine qah 7 V<|Jb Z Tt Z Z Z (qcm D _ _ _) ?_
  rintro _ _ s391 h391 ⟨rfl,rfl⟩
  refine ⟨fun _ _ h=>h,?_⟩
  refine qah 9 V<|qas Z Tt [(_,_),(_,_)] [_,_,_,_] Z Z Z Z Z Z Z Z Z ?_
  intro βn s392 h392 hb32_9
  refine qah 10 V<|Jb Z Tt Z Z Z (qax D _ _ _ _ _ _ _ _ (qbA (hb32_9.le (Lr D)) (uD Z) (uD Z)) Dc) ?_
  rintro _ _ s393 h393 ⟨rfl,rfl⟩
  refine ⟨fun _ _ h=>h,?_⟩
  refine qah 11 V<|qas Z Tt [(_,_),(_,_)] [_,_,_,_,_,_,_,_,_,_,_,_] Z Z Z Z Z Z Z Z Z ?_
  intro βn s394 h394 hb32_11
  refine qah 12 V<|qaO Z Tt (first:=[]) (captured:=[_]) Z Z Z (AC.mid [_,_,_,_,_,_,_,_] (_::Mj) L (qaR D _ _ _ _ _ _ _ _ _ Mj 24 _ hOj Dc)) ?_
  rintro _ _ s395 h395 ⟨_,rfl,rfl,v2,M2,rfl,o2⟩
  refine ⟨(fun x hx _=>qaK (qaI (qaI (sb0 _))) hx),?_⟩
  simp only [cQ9,nQ9]
  refine qac V ?_
  refine qaa (MidF.mk (v2,M2,css++[_]) [] (h388.t h389|>.t h390|>.t h391|>.t h392|>.t h393|>.t h394|>.t h395) sk Pr ⟨by rw [qap];exact o2,by rw [qay (j:=24) (l:=defT.ins) Z];exact All2.snoc (qar hAj (h388.t h389|>.t h390|>.t h391|>.t h392|>.t h393|>.t h394|>.t h395)) ⟨Z,_,_,_,Z,(qcR (hb32_11.le h395) ⟨⟨(uD Z),(uD Z)⟩,⟨(uD Z),(uD Z)⟩⟩),by decide,⟨by decide,by decide⟩⟩⟩)
 intro g s387 h387 I387
 simp only [cQ9,nQ9]
 obtain ⟨vj,Mj,css⟩:=g
 obtain ⟨hOj,hAj⟩:=I387
 simp only at hOj hAj
 dsimp only
 refine qa1 [_,_,_,_,_,_,_,_] Z (γ:=Value×Hl×List (List Value)) (fun g=>(β13,cb [.int .i64 65536,g.1] 24)::(g.2.1++L)) (fun g tw=>FL.Own 66 4 g.2.1 g.1 26 g.2.2.flatten∧All2 (fun x cs=>cs.length=4∧InsR tw x cs) (defT.ins.take 26) g.2.2) (fun _ _ _ h hl=>⟨h.1,qar h.2 hl⟩) ?_ ?_
 ·
  refine Zr<|Zqm Z Z<|Zqm Z Z<|qae (qad 0 [_,_] Z Z Z Z Z) Z<|qa0 [(_,_)] [_,_] Z Z Z Z Z Z Z Z Z ?_
  intro βn s397 h397 hb33_3
  refine Jc Z Z Z (qax D _ _ _ _ _ _ _ _ (qdO (hb33_3.le (Lr D)) (uD Z)) Dc) ?_
  rintro _ _ s398 h398 ⟨rfl,rfl⟩
  refine qa0 [(_,_)] [_,_,_,_,_,_] Z Z Z Z Z Z Z Z Z ?_
  intro βn s399 h399 hb33_5
  refine qaz (first:=[]) (captured:=[_]) Z Z Z (AC.mid [_,_,_,_,_,_,_,_] (_::Mj) L (qaR D _ _ _ _ _ _ _ _ _ Mj 25 _ hOj Dc)) ?_
  rintro _ _ s400 h400 ⟨_,rfl,rfl,v2,M2,rfl,o2⟩
  simp only [cQ9,nQ9]
  refine Zn ?_
  refine qaa (MidF.mk (v2,M2,css++[_]) [] (h397.t h398|>.t h399|>.t h400) sk Pr ⟨by rw [qap];exact o2,by rw [qay (j:=25) (l:=defT.ins) Z];exact All2.snoc (qar hAj (h397.t h398|>.t h399|>.t h400)) ⟨Z,_,_,_,Z,(qgA (hb33_5.le h400) ⟨(uD Z),(uD Z)⟩),by decide,⟨by decide,by decide⟩⟩⟩)
 intro g s396 h396 I396
 simp only [cQ9,nQ9]
 obtain ⟨vj,Mj,css⟩:=g
 obtain ⟨hOj,hAj⟩:=I396
 simp only at hOj hAj
 dsimp only
 refine qa1 [_,_,_,_,_,_,_,_] Z (γ:=Value×Hl×List (List Value)) (fun g=>(β13,cb [.int .i64 65536,g.1] 24)::(g.2.1++L)) (fun g tw=>FL.Own 66 4 g.2.1 g.1 27 g.2.2.flatten∧All2 (fun x cs=>cs.length=4∧InsR tw x cs) (defT.ins.take 27) g.2.2) (fun _ _ _ h hl=>⟨h.1,qar h.2 hl⟩) ?_ ?_
 ·
  refine Zr<|Zqm Z Z<|Zqm Z Z<|qae (qad 0 [_,_] Z Z Z Z Z) Z<|qae (qad 5 [_,_] Z Z Z Z Z) Z<|qa0 [(_,_),(_,_)] [_,_,_,_] Z Z Z Z Z Z Z Z Z ?_
  intro βn s402 h402 hb34_4
  refine Jc Z Z Z (qax D _ _ _ _ _ _ _ _ (qbA (hb34_4.le (Lr D)) (uD Z) (uD Z)) Dc) ?_
  rintro _ _ s403 h403 ⟨rfl,rfl⟩
  refine qa0 [(_,_)] [_,_,_,_,_,_] Z Z Z Z Z Z Z Z Z ?_
  intro βn s404 h404 hb34_6
  refine qaz (first:=[]) (captured:=[_]) Z Z Z (AC.mid [_,_,_,_,_,_,_,_] (_::Mj) L (qaR D _ _ _ _ _ _ _ _ _ Mj 26 _ hOj Dc)) ?_
  rintro _ _ s405 h405 ⟨_,rfl,rfl,v2,M2,rfl,o2⟩
  simp only [cQ9,nQ9]
  refine Zn ?_
  refine qaa (MidF.mk (v2,M2,css++[_]) [] (h402.t h403|>.t h404|>.t h405) sk Pr ⟨by rw [qap];exact o2,by rw [qay (j:=26) (l:=defT.ins) Z];exact All2.snoc (qar hAj (h402.t h403|>.t h404|>.t h405)) ⟨Z,_,_,_,Z,(qgA (hb34_6.le h405) ⟨(uD Z),(uD Z)⟩),by decide,⟨by decide,by decide⟩⟩⟩)
 intro g s401 h401 I401
 simp only [cQ9,nQ9]
 obtain ⟨vj,Mj,css⟩:=g
 obtain ⟨hOj,hAj⟩:=I401
 simp only at hOj hAj
 dsimp only
 refine qa1 [_,_,_,_,_,_,_,_] Z (γ:=Value×Hl×List (List Value)) (fun g=>(β13,cb [.int .i64 65536,g.1] 24)::(g.2.1++L)) (fun g tw=>FL.Own 66 4 g.2.1 g.1 28 g.2.2.flatten∧All2 (fun x cs=>cs.length=4∧InsR tw x cs) (defT.ins.take 28) g.2.2) (fun _ _ _ h hl=>⟨h.1,qar h.2 hl⟩) ?_ ?_
 ·
  refine qqo qaf 31 Z [309,310,311,312,313,314,315,316,317,318,319,320,321,322,323,324,325,326,327,328,329,330,331,332,333,334,335,336,337,338,339] [[],[],[],[],[2,3],[1,4],[],[],[],[7,8],[6,9],[],[],[],[12,13],[11,14],[],[],[],[17,18],[16,19],[],[],[],[22,23],[21,24],[],[],[27],[26,28],[5,10,15,20,25,29]] V V V V V Dc Z (fun i=>(([.eq (.func (.func 35) #[] #[.pointer (some ⟨β13,0,none⟩)]),.eq (.func (.func 36) #[] #[]),.eq (.agg #[.int .i64 1,.int .u32 3]),.eq (.agg #[.int .i64 0,.int .u32 1]),.row 2 [.int .i64 1,.int .u32 3,.int .i64 0,.int .u32 1],.eq (.agg #[.int .i64 1,.int .i64 3,.int .i64 1,.int .u32 3,.int .i64 0,.int .u32 1]),.eq (.func (.func 36) #[] #[]),.eq (.agg #[.int .i64 1,.int .u32 3]),.eq (.agg #[.int .i64 0,.int .u32 101]),.row 2 [.int .i64 1,.int .u32 3,.int .i64 0,.int .u32 101],.eq (.agg #[.int .i64 12,.int .i64 1,.int .i64 1,.int .u32 3,.int .i64 0,.int .u32 101]),.eq (.func (.func 36) #[] #[]),.eq (.agg #[.int .i64 0,.int .u32 3]),.eq (.agg #[.int .i64 1,.int .u32 1]),.row 2 [.int .i64 0,.int .u32 3,.int .i64 1,.int .u32 1],.eq (.agg #[.int .i64 18,.int .i64 0,.int .i64 0,.int .u32 3,.int .i64 1,.int .u32 1]),.eq (.func (.func 36) #[] #[]),.eq (.agg #[.int .i64 1,.int .u32 2]),.eq (.agg #[.int .i64 1,.int .u32 4]),.row 2 [.int .i64 1,.int .u32 2,.int .i64 1,.int .u32 4],.eq (.agg #[.int .i64 14,.int .i64 0,.int .i64 1,.int .u32 2,.int .i64 1,.int .u32 4]),.eq (.func (.func 36) #[] #[]),.eq (.agg #[.int .i64 1,.int .u32 2]),.eq (.agg #[.int .i64 0,.int .u32 1]),.row 2 [.int .i64 1,.int .u32 2,.int .i64 0,.int .u32 1],.eq (.agg #[.int .i64 1,.int .i64 2,.int .i64 1,.int .u32 2,.int .i64 0,.int .u32 1]),.eq (.func (.func 36) #[] #[]),.eq (.agg #[.int .i64 2,.int .u32 0]),.row 1 [.int .i64 2,.int .u32 0],.eq (.agg #[.int .i64 0,.int .i64 4,.int .i64 2,.int .u32 0,.int .i64 0,.int .u32 0]),.row 6 [.int .i64 1,.int .i64 3,.int .i64 1,.int .u32 3,.int .i64 0,.int .u32 1,.int .i64 12,.int .i64 1,.int .i64 1,.int .u32 3,.int .i64 0,.int .u32 101,.int .i64 18,.int .i64 0,.int .i64 0,.int .u32 3,.int .i64 1,.int .u32 1,.int .i64 14,.int .i64 0,.int .i64 1,.int .u32 2,.int .i64 1,.int .u32 4,.int .i64 1,.int .i64 2,.int .i64 1,.int .u32 2,.int .i64 0,.int .u32 1,.int .i64 0,.int .i64 4,.int .i64 2,.int .u32 0,.int .i64 0,.int .u32 0]]:List Fct).getD i (.eq undef)).holds) (Fct.le _) ⟨⟨⟨⟨⟨⟨⟨⟨⟨⟨⟨⟨⟨⟨⟨⟨⟨⟨⟨⟨⟨⟨⟨⟨⟨⟨⟨⟨⟨⟨⟨Tt,?_⟩,?_⟩,?_⟩,?_⟩,?_⟩,?_⟩,?_⟩,?_⟩,?_⟩,?_⟩,?_⟩,?_⟩,?_⟩,?_⟩,?_⟩,?_⟩,?_⟩,?_⟩,?_⟩,?_⟩,?_⟩,?_⟩,?_⟩,?_⟩,?_⟩,?_⟩,?_⟩,?_⟩,?_⟩,?_⟩,?_⟩ [0,30] Z ?_
  ·
   intro sI407 hI407 
   exact qjV rfl (qao rfl) rfl
  ·
   intro sI407 hI407 
   exact qjV rfl (qao rfl) rfl
  ·
   intro sI407 hI407 
   exact qjV rfl (qad 2 [_,_] rfl rfl rfl rfl rfl) rfl
  ·
   intro sI407 hI407 
   refine qdy Z (first:=[]) (captured:=[]) Z Z (qcm D _ _ _) ?_
   rintro _ _ _ _ ⟨rfl,rfl⟩
   exact ⟨rfl,rfl⟩
  ·
   intro sI407 hI407 u2 q2 u3 q3
   obtain rfl:=q2
   obtain rfl:=q3
   exact qi6 rfl [(_,_),(_,_)] [_,_,_,_] rfl rfl rfl rfl rfl rfl rfl rfl (fun β _ _ hc=>⟨β,rfl,hc⟩)
  ·
   intro sI407 hI407 u1 q1 u4 q4
   obtain rfl:=q1
   obtain ⟨bq4,rfl,cq4⟩:=q4
   refine qdy Z (first:=[]) (captured:=[]) Z Z (qax D _ _ _ _ _ _ _ _ (qbA cq4 (uD Z) (uD Z)) Dc) ?_
   rintro _ _ _ _ ⟨rfl,rfl⟩
   exact ⟨rfl,rfl⟩
  ·
   intro sI407 hI407 
   exact qjV rfl (qao rfl) rfl
  ·
   intro sI407 hI407 
   exact qjV rfl (qad 2 [_,_] rfl rfl rfl rfl rfl) rfl
  ·
   intro sI407 hI407 
   refine qdy Z (first:=[]) (captured:=[]) Z Z (qcm D _ _ _) ?_
   rintro _ _ _ _ ⟨rfl,rfl⟩
   exact ⟨rfl,rfl⟩
  ·
   intro sI407 hI407 u7 q7 u8 q8
   obtain rfl:=q7
   obtain rfl:=q8
   exact qi6 rfl [(_,_),(_,_)] [_,_,_,_] rfl rfl rfl rfl rfl rfl rfl rfl (fun β _ _ hc=>⟨β,rfl,hc⟩)
  ·
   intro sI407 hI407 u6 q6 u9 q9
   obtain rfl:=q6
   obtain ⟨bq9,rfl,cq9⟩:=q9
   refine qdy Z (first:=[]) (captured:=[]) Z Z (qax D _ _ _ _ _ _ _ _ (qbA cq9 (uD Z) (uD Z)) Dc) ?_
   rintro _ _ _ _ ⟨rfl,rfl⟩
   exact ⟨rfl,rfl⟩
  ·
   intro sI407 hI407 
   exact qjV rfl (qao rfl) rfl
  ·
   intro sI407 hI407 
   refine qdy Z (first:=[]) (captured:=[]) Z Z (qcm D _ _ _) ?_
   rintro _ _ _ _ ⟨rfl,rfl⟩
   exact ⟨rfl,rfl⟩
  ·
   intro sI407 hI407 
   exact qjV rfl (qad 4 [_,_] rfl rfl rfl rfl rfl) rfl
  ·
   intro sI407 hI407 u12 q12 u13 q13
   obtain rfl:=q12
   obtain rfl:=q13
   exact qi6 rfl [(_,_),(_,_)] [_,_,_,_] rfl rfl rfl rfl rfl rfl rfl rfl (fun β _ _ hc=>⟨β,rfl,hc⟩)
  ·
   intro sI407 hI407 u11 q11 u14 q14
   obtain rfl:=q11
   obtain ⟨bq14,rfl,cq14⟩:=q14
   refine qdy Z (first:=[]) (captured:=[]) Z Z (qax D _ _ _ _ _ _ _ _ (qbA cq14 (uD Z) (uD Z)) Dc) ?_
   rintro _ _ _ _ ⟨rfl,rfl⟩
   exact ⟨rfl,rfl⟩
  ·
   intro sI407 hI407 
   exact qjV rfl (qao rfl) rfl
  ·
   intro sI407 hI407 
   exact qjV rfl (qad 3 [_,_] rfl rfl rfl rfl rfl) rfl
  ·
   intro sI407 hI407 
   exact qjV rfl (qad 1 [_,_] rfl rfl rfl rfl rfl) rfl
  ·
   intro sI407 hI407 u17 q17 u18 q18
   obtain rfl:=q17
   obtain rfl:=q18
   exact qi6 rfl [(_,_),(_,_)] [_,_,_,_] rfl rfl rfl rfl rfl rfl rfl rfl (fun β _ _ hc=>⟨β,rfl,hc⟩)
  ·
   intro sI407 hI407 u16 q16 u19 q19
   obtain rfl:=q16
   obtain ⟨bq19,rfl,cq19⟩:=q19
   refine qdy Z (first:=[]) (captured:=[]) Z Z (qax D _ _ _ _ _ _ _ _ (qbA cq19 (uD Z) (uD Z)) Dc) ?_
   rintro _ _ _ _ ⟨rfl,rfl⟩
   exact ⟨rfl,rfl⟩
  ·
   intro sI407 hI407 
   exact qjV rfl (qao rfl) rfl
  ·
   intro sI407 hI407 
   exact qjV rfl (qad 3 [_,_] rfl rfl rfl rfl rfl) rfl
  ·
   intro sI407 hI407 
   refine qdy Z (first:=[]) (captured:=[]) Z Z (qcm D _ _ _) ?_
   rintro _ _ _ _ ⟨rfl,rfl⟩
   exact ⟨rfl,rfl⟩
  ·
   intro sI407 hI407 u22 q22 u23 q23
   obtain rfl:=q22
   obtain rfl:=q23
   exact qi6 rfl [(_,_),(_,_)] [_,_,_,_] rfl rfl rfl rfl rfl rfl rfl rfl (fun β _ _ hc=>⟨β,rfl,hc⟩)
  ·
   intro sI407 hI407 u21 q21 u24 q24
   obtain rfl:=q21
   obtain ⟨bq24,rfl,cq24⟩:=q24
   refine qdy Z (first:=[]) (captured:=[]) Z Z (qax D _ _ _ _ _ _ _ _ (qbA cq24 (uD Z) (uD Z)) Dc) ?_
   rintro _ _ _ _ ⟨rfl,rfl⟩
   exact ⟨rfl,rfl⟩
  ·
   intro sI407 hI407 
   exact qjV rfl (qao rfl) rfl
  ·
   intro sI407 hI407 
   exact qjV rfl (qad 0 [_,_] rfl rfl rfl rfl rfl) rfl
  ·
   intro sI407 hI407 u27 q27
   obtain rfl:=q27
   exact qi6 rfl [(_,_)] [_,_] rfl rfl rfl rfl rfl rfl rfl rfl (fun β _ _ hc=>⟨β,rfl,hc⟩)
  ·
   intro sI407 hI407 u26 q26 u28 q28
   obtain rfl:=q26
   obtain ⟨bq28,rfl,cq28⟩:=q28
   refine qdy Z (first:=[]) (captured:=[]) Z Z (qax D _ _ _ _ _ _ _ _ (qdO cq28 (uD Z)) Dc) ?_
   rintro _ _ _ _ ⟨rfl,rfl⟩
   exact ⟨rfl,rfl⟩
  ·
   intro sI407 hI407 u5 q5 u10 q10 u15 q15 u20 q20 u25 q25 u29 q29
   obtain rfl:=q5
   obtain rfl:=q10
   obtain rfl:=q15
   obtain rfl:=q20
   obtain rfl:=q25
   obtain rfl:=q29
   exact qi6 rfl [(_,_),(_,_),(_,_),(_,_),(_,_),(_,_)] [_,_,_,_,_,_,_,_,_,_,_,_,_,_,_,_,_,_,_,_,_,_,_,_,_,_,_,_,_,_,_,_,_,_,_,_] rfl rfl rfl rfl rfl rfl rfl rfl (fun β _ _ hc=>⟨β,rfl,hc⟩)
  intro sI407 hI407 u0 q0 u30 q30
  obtain rfl:=q0
  obtain ⟨bq30,rfl,cq30⟩:=q30
  refine qah 31 V ?_
    
  refine qaO Z Tt (first:=[]) (captured:=[_]) Z Z Z (AC.mid [_,_,_,_,_,_,_,_] (_::Mj) L (qaR D _ _ _ _ _ _ _ _ _ Mj 27 _ hOj Dc)) ?_
  rintro _ _ s408 h408 ⟨_,rfl,rfl,v2,M2,rfl,o2⟩
  refine ⟨(fun x hx _=>by cases hx),?_⟩
  simp only [cQ9,nQ9]
  refine qac V ?_
  refine qaa (MidF.mk (v2,M2,css++[_]) [] (hI407.t h408) sk Pr ⟨by rw [qap];exact o2,by rw [qay (j:=27) (l:=defT.ins) Z];exact All2.snoc (qar hAj (hI407.t h408)) ⟨Z,_,_,_,Z,(acs6 (cq30.le h408) ⟨⟨(uD Z),(uD Z)⟩,⟨(uD Z),(uD Z)⟩,⟨(uD Z),(uD Z)⟩,⟨(uD Z),(uD Z)⟩,⟨(uD Z),(uD Z)⟩,⟨(uD Z),(uD Z)⟩⟩),by decide,⟨by decide,by decide⟩⟩⟩)
 intro g s406 h406 I406
 simp only [cQ9,nQ9]
 obtain ⟨vj,Mj,css⟩:=g
 obtain ⟨hOj,hAj⟩:=I406
 simp only at hOj hAj
 dsimp only
 refine qa1 [_,_,_,_,_,_,_,_] Z (γ:=Value×Hl×List (List Value)) (fun g=>(β13,cb [.int .i64 65536,g.1] 24)::(g.2.1++L)) (fun g tw=>FL.Own 66 4 g.2.1 g.1 29 g.2.2.flatten∧All2 (fun x cs=>cs.length=4∧InsR tw x cs) (defT.ins.take 29) g.2.2) (fun _ _ _ h hl=>⟨h.1,qar h.2 hl⟩) ?_ ?_
 ·
  refine qaT qaf 17 Z 8 ?_
  intro s410 h410
  refine za 0 Z (qao Z) Z<|za 1 Z (qao Z) Z<|za 2 Z (qad 3 [_,_] Z Z Z Z Z) Z<|za 3 Z (qad 0 [_,_] Z Z Z Z Z) Z<|za 6 Z (qao Z) Z<|za 7 Z (qad 3 [_,_] Z Z Z Z Z) Z<|za 10 Z (qao Z) Z<|za 11 Z (qad 2 [_,_] Z Z Z Z Z) Z ?_
  refine qcg 4 8 V ?_ ?_
  ·
   refine qas Z Tt [(_,_),(_,_)] [_,_,_,_] Z Z Z Z Z Z Z Z Z ?_
   intro βn s411 h411 hb36_4
   refine qcg 5 8 V ?_ ?_
   ·
    refine Jb Z Tt Z Z Z (qax D _ _ _ _ _ _ _ _ (qbA (hb36_4.le (Lr D)) (uD Z) (uD Z)) Dc) ?_
    rintro _ _ s412 h412 ⟨rfl,rfl⟩
    refine ⟨fun _ _ h=>h,?_⟩
    refine qah 8 V<|qas Z Tt [(_,_)] [_,_] Z Z Z Z Z Z Z Z Z ?_
    intro βn s413 h413 hb36_8
    refine qah 9 V<|Jb Z Tt Z Z Z (qax D _ _ _ _ _ _ _ _ (qdO (hb36_8.le (Lr D)) (uD Z)) Dc) ?_
    rintro _ _ s414 h414 ⟨rfl,rfl⟩
    refine ⟨fun _ _ h=>h,?_⟩
    refine qah 12 V<|Jb Z Tt Z Z Z (qcm D _ _ _) ?_
    rintro _ _ s415 h415 ⟨rfl,rfl⟩
    refine ⟨fun _ _ h=>h,?_⟩
    refine qah 13 V<|qas Z Tt [(_,_),(_,_)] [_,_,_,_] Z Z Z Z Z Z Z Z Z ?_
    intro βn s416 h416 hb36_13
    refine qah 14 V<|Jb Z Tt Z Z Z (qax D _ _ _ _ _ _ _ _ (qbA (hb36_13.le (Lr D)) (uD Z) (uD Z)) Dc) ?_
    rintro _ _ s417 h417 ⟨rfl,rfl⟩
    refine ⟨fun _ _ h=>h,?_⟩
    refine qah 15 V<|qas Z Tt [(_,_),(_,_),(_,_)] [_,_,_,_,_,_,_,_,_,_,_,_,_,_,_,_,_,_] Z Z Z Z Z Z Z Z Z ?_
    intro βn s418 h418 hb36_15
    refine qah 16 V<|qaO Z Tt (first:=[]) (captured:=[_]) Z Z Z (AC.mid [_,_,_,_,_,_,_,_] (_::Mj) L (qaR D _ _ _ _ _ _ _ _ _ Mj 28 _ hOj Dc)) ?_
    rintro _ _ s419 h419 ⟨_,rfl,rfl,v2,M2,rfl,o2⟩
    refine ⟨(fun x hx _=>qaK (qaI (qaI (sb0 _))) hx),?_⟩
    simp only [cQ9,nQ9]
    refine qac V ?_
    refine qaa (MidF.mk (v2,M2,css++[_]) [] (h410.t h411|>.t h412|>.t h413|>.t h414|>.t h415|>.t h416|>.t h417|>.t h418|>.t h419) sk Pr ⟨by rw [qap];exact o2,by rw [qay (j:=28) (l:=defT.ins) Z];exact All2.snoc (qar hAj (h410.t h411|>.t h412|>.t h413|>.t h414|>.t h415|>.t h416|>.t h417|>.t h418|>.t h419)) ⟨Z,_,_,_,Z,(qtK (hb36_15.le h419) ⟨⟨(uD Z),(uD Z)⟩,⟨(uD Z),(uD Z)⟩,⟨(uD Z),(uD Z)⟩⟩),by decide,⟨by decide,by decide⟩⟩⟩)
   refine qas Z Tt [(_,_)] [_,_] Z Z Z Z Z Z Z Z Z ?_
   intro βn s420 h420 hb36_8
   refine qah 5 V<|Jb Z Tt Z Z Z (qax D _ _ _ _ _ _ _ _ (qbA (hb36_4.le h420) (uD Z) (uD Z)) Dc) ?_
   rintro _ _ s421 h421 ⟨rfl,rfl⟩
   refine ⟨fun _ _ h=>h,?_⟩
   refine qah 9 V<|Jb Z Tt Z Z Z (qax D _ _ _ _ _ _ _ _ (qdO (hb36_8.le h421) (uD Z)) Dc) ?_
   rintro _ _ s422 h422 ⟨rfl,rfl⟩
   refine ⟨fun _ _ h=>h,?_⟩
   refine qah 12 V<|Jb Z Tt Z Z Z (qcm D _ _ _) ?_
   rintro _ _ s423 h423 ⟨rfl,rfl⟩
   refine ⟨fun _ _ h=>h,?_⟩
   refine qah 13 V<|qas Z Tt [(_,_),(_,_)] [_,_,_,_] Z Z Z Z Z Z Z Z Z ?_
   intro βn s424 h424 hb36_13
   refine qah 14 V<|Jb Z Tt Z Z Z (qax D _ _ _ _ _ _ _ _ (qbA (hb36_13.le (Lr D)) (uD Z) (uD Z)) Dc) ?_
   rintro _ _ s425 h425 ⟨rfl,rfl⟩
   refine ⟨fun _ _ h=>h,?_⟩
   refine qah 15 V<|qas Z Tt [(_,_),(_,_),(_,_)] [_,_,_,_,_,_,_,_,_,_,_,_,_,_,_,_,_,_] Z Z Z Z Z Z Z Z Z ?_
   intro βn s426 h426 hb36_15
   refine qah 16 V<|qaO Z Tt (first:=[]) (captured:=[_]) Z Z Z (AC.mid [_,_,_,_,_,_,_,_] (_::Mj) L (qaR D _ _ _ _ _ _ _ _ _ Mj 28 _ hOj Dc)) ?_
   rintro _ _ s427 h427 ⟨_,rfl,rfl,v2,M2,rfl,o2⟩
   refine ⟨(fun x hx _=>qaK (qaI (qaI (sb0 _))) hx),?_⟩
   simp only [cQ9,nQ9]
   refine qac V ?_
   refine qaa (MidF.mk (v2,M2,css++[_]) [] (h410.t h411|>.t h420|>.t h421|>.t h422|>.t h423|>.t h424|>.t h425|>.t h426|>.t h427) sk Pr ⟨by rw [qap];exact o2,by rw [qay (j:=28) (l:=defT.ins) Z];exact All2.snoc (qar hAj (h410.t h411|>.t h420|>.t h421|>.t h422|>.t h423|>.t h424|>.t h425|>.t h426|>.t h427)) ⟨Z,_,_,_,Z,(qtK (hb36_15.le h427) ⟨⟨(uD Z),(uD Z)⟩,⟨(uD Z),(uD Z)⟩,⟨(uD Z),(uD Z)⟩⟩),by decide,⟨by decide,by decide⟩⟩⟩)
  refine qas Z Tt [(_,_)] [_,_] Z Z Z Z Z Z Z Z Z ?_
  intro βn s428 h428 hb36_8
  refine qah 4 V<|qas Z Tt [(_,_),(_,_)] [_,_,_,_] Z Z Z Z Z Z Z Z Z ?_
  intro βn s429 h429 hb36_4
  refine qah 5 V<|Jb Z Tt Z Z Z (qax D _ _ _ _ _ _ _ _ (qbA (hb36_4.le (Lr D)) (uD Z) (uD Z)) Dc) ?_
  rintro _ _ s430 h430 ⟨rfl,rfl⟩
  refine ⟨fun _ _ h=>h,?_⟩
  refine qah 9 V<|Jb Z Tt Z Z Z (qax D _ _ _ _ _ _ _ _ (qdO (hb36_8.le (h429.t h430)) (uD Z)) Dc) ?_
  rintro _ _ s431 h431 ⟨rfl,rfl⟩
  refine ⟨fun _ _ h=>h,?_⟩
  refine qah 12 V<|Jb Z Tt Z Z Z (qcm D _ _ _) ?_
  rintro _ _ s432 h432 ⟨rfl,rfl⟩
  refine ⟨fun _ _ h=>h,?_⟩
  refine qah 13 V<|qas Z Tt [(_,_),(_,_)] [_,_,_,_] Z Z Z Z Z Z Z Z Z ?_
  intro βn s433 h433 hb36_13
  refine qah 14 V<|Jb Z Tt Z Z Z (qax D _ _ _ _ _ _ _ _ (qbA (hb36_13.le (Lr D)) (uD Z) (uD Z)) Dc) ?_
  rintro _ _ s434 h434 ⟨rfl,rfl⟩
  refine ⟨fun _ _ h=>h,?_⟩
  refine qah 15 V<|qas Z Tt [(_,_),(_,_),(_,_)] [_,_,_,_,_,_,_,_,_,_,_,_,_,_,_,_,_,_] Z Z Z Z Z Z Z Z Z ?_
  intro βn s435 h435 hb36_15
  refine qah 16 V<|qaO Z Tt (first:=[]) (captured:=[_]) Z Z Z (AC.mid [_,_,_,_,_,_,_,_] (_::Mj) L (qaR D _ _ _ _ _ _ _ _ _ Mj 28 _ hOj Dc)) ?_
  rintro _ _ s436 h436 ⟨_,rfl,rfl,v2,M2,rfl,o2⟩
  refine ⟨(fun x hx _=>qaK (qaI (qaI (sb0 _))) hx),?_⟩
  simp only [cQ9,nQ9]
  refine qac V ?_
  refine qaa (MidF.mk (v2,M2,css++[_]) [] (h410.t h428|>.t h429|>.t h430|>.t h431|>.t h432|>.t h433|>.t h434|>.t h435|>.t h436) sk Pr ⟨by rw [qap];exact o2,by rw [qay (j:=28) (l:=defT.ins) Z];exact All2.snoc (qar hAj (h410.t h428|>.t h429|>.t h430|>.t h431|>.t h432|>.t h433|>.t h434|>.t h435|>.t h436)) ⟨Z,_,_,_,Z,(qtK (hb36_15.le h436) ⟨⟨(uD Z),(uD Z)⟩,⟨(uD Z),(uD Z)⟩,⟨(uD Z),(uD Z)⟩⟩),by decide,⟨by decide,by decide⟩⟩⟩)
 intro g s409 h409 I409
 simp only [cQ9,nQ9]
 obtain ⟨vj,Mj,css⟩:=g
 obtain ⟨hOj,hAj⟩:=I409
 simp only at hOj hAj
 dsimp only
 refine qa1 [_,_,_,_,_,_,_,_] Z (γ:=Value×Hl×List (List Value)) (fun g=>(β13,cb [.int .i64 65536,g.1] 24)::(g.2.1++L)) (fun g tw=>FL.Own 66 4 g.2.1 g.1 30 g.2.2.flatten∧All2 (fun x cs=>cs.length=4∧InsR tw x cs) (defT.ins.take 30) g.2.2) (fun _ _ _ h hl=>⟨h.1,qar h.2 hl⟩) ?_ ?_
 ·
  refine Zr<|Zqm Z Z<|Zqm Z Z<|Jc Z Z Z (qax D _ _ _ _ _ _ _ _ (tms0 _) Dc) ?_
  rintro _ _ s438 h438 ⟨rfl,rfl⟩
  refine qa0 [(_,_)] [_,_,_,_,_,_] Z Z Z Z Z Z Z Z Z ?_
  intro βn s439 h439 hb37_3
  refine qaz (first:=[]) (captured:=[_]) Z Z Z (AC.mid [_,_,_,_,_,_,_,_] (_::Mj) L (qaR D _ _ _ _ _ _ _ _ _ Mj 29 _ hOj Dc)) ?_
  rintro _ _ s440 h440 ⟨_,rfl,rfl,v2,M2,rfl,o2⟩
  simp only [cQ9,nQ9]
  refine Zn ?_
  refine qaa (MidF.mk (v2,M2,css++[_]) [] (h438.t h439|>.t h440) sk Pr ⟨by rw [qap];exact o2,by rw [qay (j:=29) (l:=defT.ins) Z];exact All2.snoc (qar hAj (h438.t h439|>.t h440)) ⟨Z,_,_,_,Z,(qgA (hb37_3.le h440) ⟨(uD Z),(uD Z)⟩),by decide,⟨by decide,by decide⟩⟩⟩)
 intro g s437 h437 I437
 simp only [cQ9,nQ9]
 obtain ⟨vj,Mj,css⟩:=g
 obtain ⟨hOj,hAj⟩:=I437
 simp only at hOj hAj
 dsimp only
 refine qa1 [_,_,_,_,_,_,_,_] Z (γ:=Value×Hl×List (List Value)) (fun g=>(β13,cb [.int .i64 65536,g.1] 24)::(g.2.1++L)) (fun g tw=>FL.Own 66 4 g.2.1 g.1 31 g.2.2.flatten∧All2 (fun x cs=>cs.length=4∧InsR tw x cs) (defT.ins.take 31) g.2.2) (fun _ _ _ h hl=>⟨h.1,qar h.2 hl⟩) ?_ ?_
 ·
  refine Zr<|Zqm Z Z<|Zqm Z Z<|qae (qad 5 [_,_] Z Z Z Z Z) Z<|qa0 [(_,_)] [_,_] Z Z Z Z Z Z Z Z Z ?_
  intro βn s442 h442 hb38_3
  refine Jc Z Z Z (qax D _ _ _ _ _ _ _ _ (qdO (hb38_3.le (Lr D)) (uD Z)) Dc) ?_
  rintro _ _ s443 h443 ⟨rfl,rfl⟩
  refine qa0 [(_,_)] [_,_,_,_,_,_] Z Z Z Z Z Z Z Z Z ?_
  intro βn s444 h444 hb38_5
  refine qaz (first:=[]) (captured:=[_]) Z Z Z (AC.mid [_,_,_,_,_,_,_,_] (_::Mj) L (qaR D _ _ _ _ _ _ _ _ _ Mj 30 _ hOj Dc)) ?_
  rintro _ _ s445 h445 ⟨_,rfl,rfl,v2,M2,rfl,o2⟩
  simp only [cQ9,nQ9]
  refine Zn ?_
  refine qaa (MidF.mk (v2,M2,css++[_]) [] (h442.t h443|>.t h444|>.t h445) sk Pr ⟨by rw [qap];exact o2,by rw [qay (j:=30) (l:=defT.ins) Z];exact All2.snoc (qar hAj (h442.t h443|>.t h444|>.t h445)) ⟨Z,_,_,_,Z,(qgA (hb38_5.le h445) ⟨(uD Z),(uD Z)⟩),by decide,⟨by decide,by decide⟩⟩⟩)
 intro g s441 h441 I441
 simp only [cQ9,nQ9]
 obtain ⟨vj,Mj,css⟩:=g
 obtain ⟨hOj,hAj⟩:=I441
 simp only at hOj hAj
 dsimp only
 refine qa1 [_,_,_,_,_,_,_,_] Z (γ:=Value×Hl×List (List Value)) (fun g=>(β13,cb [.int .i64 65536,g.1] 24)::(g.2.1++L)) (fun g tw=>FL.Own 66 4 g.2.1 g.1 32 g.2.2.flatten∧All2 (fun x cs=>cs.length=4∧InsR tw x cs) (defT.ins.take 32) g.2.2) (fun _ _ _ h hl=>⟨h.1,qar h.2 hl⟩) ?_ ?_
 ·
  refine Zr<|Zqm Z Z<|Zqm Z Z<|qae (qad 0 [_,_] Z Z Z Z Z) Z<|qa0 [(_,_)] [_,_] Z Z Z Z Z Z Z Z Z ?_
  intro βn s447 h447 hb39_3
  refine Jc Z Z Z (qax D _ _ _ _ _ _ _ _ (qdO (hb39_3.le (Lr D)) (uD Z)) Dc) ?_
  rintro _ _ s448 h448 ⟨rfl,rfl⟩
  refine qa0 [(_,_)] [_,_,_,_,_,_] Z Z Z Z Z Z Z Z Z ?_
  intro βn s449 h449 hb39_5
  refine qaz (first:=[]) (captured:=[_]) Z Z Z (AC.mid [_,_,_,_,_,_,_,_] (_::Mj) L (qaR D _ _ _ _ _ _ _ _ _ Mj 31 _ hOj Dc)) ?_
  rintro _ _ s450 h450 ⟨_,rfl,rfl,v2,M2,rfl,o2⟩
  simp only [cQ9,nQ9]
  refine Zn ?_
  refine qaa (MidF.mk (v2,M2,css++[_]) [] (h447.t h448|>.t h449|>.t h450) sk Pr ⟨by rw [qap];exact o2,by rw [qay (j:=31) (l:=defT.ins) Z];exact All2.snoc (qar hAj (h447.t h448|>.t h449|>.t h450)) ⟨Z,_,_,_,Z,(qgA (hb39_5.le h450) ⟨(uD Z),(uD Z)⟩),by decide,⟨by decide,by decide⟩⟩⟩)
 intro g s446 h446 I446
 simp only [cQ9,nQ9]
 obtain ⟨vj,Mj,css⟩:=g
 obtain ⟨hOj,hAj⟩:=I446
 simp only at hOj hAj
 dsimp only
 obtain ⟨Au,cu,rfl,ku1,ku2⟩:=Own.slice hOj
 refine Sr<|qae (qad 8 [_,_] Z Z Z Z Z) Z<|Wt 6 [_,_] Y9<|Nt<|Zo<|?_
 refine rR [_,_,_,_,_,_,_,_,_] _ (.agg (us:=[_,_]) 6 Z Z Z Z Z (.nil)) Z (h1.t h2|>.t h3|>.t h4|>.t h5|>.t h6|>.t h7|>.t h8|>.t h9|>.t h10|>.t h11|>.t h12|>.t h13|>.t h14|>.t h139|>.t h144|>.t h149|>.t h154|>.t h159|>.t h178|>.t h197|>.t h216|>.t h238|>.t h247|>.t h252|>.t h258|>.t h264|>.t h270|>.t h301|>.t h332|>.t h338|>.t h344|>.t h350|>.t h356|>.t h362|>.t h368|>.t h374|>.t h380|>.t h387|>.t h396|>.t h401|>.t h406|>.t h409|>.t h437|>.t h441|>.t h446) fun _ hS2=>?_
 exact ⟨Mj,rfl,fun s2 hs2 hp=>⟨_,_,_,rfl,Own.rows hOj hp (qar hAj ((Lr D).t (hS2.t hs2))) rfl⟩⟩
theorem bT{p:Prop} [Decidable p] (h:p):Value.bool (decide p)=.bool true:=by rw [decide_eq_true h]
theorem bF{p:Prop} [Decidable p] (h:p):Value.bool (!decide p)=.bool false:=by rw [decide_eq_true h];rfl
theorem bZ{p:Prop} [Decidable p] (h:¬ p):Value.bool (decide p)=.bool false:=by rw [decide_eq_false h]
theorem AC.isT{P:Program}{D:Nat}{f:FuncId}{args:List Value}{L:Hl}{s:World}{p:Prop} [Decidable p] (h:AC P D f args L s fun v L' _=>v=.bool (decide p)∧L=L') (hp:p):AC P D f args L s fun v L' _=>v=.bool true∧L=L':=
 h.mono fun v L' _ _ ⟨h1,h2⟩=>⟨by rw [h1,decide_eq_true hp],h2⟩
theorem qeQ(D:Nat)(L:Hl)(s:World):AC Tryz.prog D 12 [] L s fun v L' s'=>L=L'∧∃ A n c,v=.agg #[.int .i64 65536,.slice A n c]∧Inss s' A n c defT.ins:=AC.pubW (qi3 D L s)
def exT:List UInt8:=[32,106,117,109,112,32,101,110,100,32,59,32,97,32,99,111,109,109,101,110,116,10,120,58,32,119,111,114,100,32,55,10,101,110,100,58,32,108,111,97,100,32,120,10,32,115,112,97,99,101,32,50,10]
theorem ex_R:qf4 defT exT=.inr ([26,3,7,3,2,0,0],[([120],2),([101,110,100],3)]):=by decide +kernel
theorem qsV:(qak defT).1=0:=by decide +kernel
theorem ex_W:qjq defT exT=[26,3,7,3,2,0,0]∧qnp defT exT=[([120],2),([101,110,100],3)]∧qdA defT exT=(0,0):=qfJ ex_R
def exL:List UInt8:=[110,117,109,32,57,10,115,116,111,112,10,119,111,114,100,32,50,10]
theorem ex_l:qfO defT [2,9,1,2]=exL:=by
 obtain ⟨y,hy,ho,hn⟩:∃ y,qbZ defT.ins 2=some y∧y.operand=true∧y.name=[110,117,109]:=⟨(qbZ defT.ins 2).get (by decide +kernel),(Option.some_get _).symm,by decide +kernel,by decide +kernel⟩
 obtain ⟨z,hz,zo,zn⟩:∃ y,qbZ defT.ins 1=some y∧y.operand=false∧y.name=[115,116,111,112]:=⟨(qbZ defT.ins 1).get (by decide +kernel),(Option.some_get _).symm,by decide +kernel,by decide +kernel⟩
 rw [qha hy ho,qeS hz zo,qfW (by unfold qd5;rw [hy];simp [ho]) (by simp),hn,zn,show (9:Int).toNat=9 from rfl,show (2:Int).toNat=2 from rfl,Lib.decDigits_one Dc,Lib.decDigits_one Dc]
 rfl
theorem ex_S:qgC defT [2,9,1,2]=exL∧qgx defT [2,9,1,2]=(0,0):=by
 have h3:¬ 400000 < (qfO defT [2,9,1,2]).length:=by rw [ex_l];decide
 have:=qd2 qsV (by decide +kernel) h3
 rw [ex_l] at this
 exact this
theorem ex_K:qsm [97,49]=65∧qpQ [97,49]=(0,0):=by decide +kernel
theorem ex_N:qhW 65=[97,49]∧qhl 65=(0,0):=by
 have h:nmF 65 []=some [49,97]:=by
  rw [qeU Dc Dc,qeU Dc Dc,show 65 / 37 / 37=0 from rfl,qf0];rfl
 have:=qeN h (by decide +kernel)
 exact this
theorem ex_P:qiz [5,300]=[5,172,2]∧qhJ [5,300]=(0,0):=by
 have h1:grp 5=[5]:=qc6 Dc
 have h2:grp 300=[172,2]:=by rw [qg7 Dc,qc6 Dc];rfl
 refine ⟨?_,Z⟩
 rw [qiz,if_neg Dc,qhn]
 show [grp 5,grp 300].flatten=_
 rw [h1,h2];rfl
theorem ex_U:qr2 [5,172,2]=[5,300]∧qnm [5,172,2]=(0,0):=by
 have h:upF 0 [] [5,172,2]=.inr [5,300]:=by
  rw [qg6 (x:=(5,1,5,[172,2])) Dc (by decide +kernel) Dc,qg6 (x:=(300,2,2,[])) Dc (by decide +kernel) Dc,qmf];rfl
 exact qjm (qgh Dc h Dc)
theorem qhG{s:World}{b:Nat}{l:List Int}(h:CellsAt s b 0 (wv l))(hu:∀ x∈l,U32 x)(hl:l.length≤1000):Wds s (some ⟨b,0,none⟩) l.length l.length l:=
 qgd (yc:=[]) (cc:=l.length) (by simpa using h) hu (by simp) O
theorem qlL{s:World}{b:Nat}{l:List UInt8}(h:CellsAt s b 0 (bv l))(hl:l.length≤1000):Bts s (some ⟨b,0,none⟩) l.length l.length l:=
 qlf (yc:=[]) (cc:=l.length) (by simpa using h) (by simp) O
theorem qnY{s:World}{b:Nat}{l:List (List UInt8×Int)}(h:CellsAt s b 0 (lbv l))(hu:∀ x∈l,U32 x.2)(hl:l.length≤1000):Labs s (some ⟨b,0,none⟩) l.length l.length l:=by
 have hll:(lbv l).length=l.length * 2:=by
  clear h hu hl
  induction l with
  | nil=>rfl
  | cons x l ih=>simp only [lbv,List.map_cons,List.flatten_cons,List.length_append,List.length_cons,List.length_nil] at ih ⊢;omega
 exact Own.labs (e:=0) (A:=[(b,cb (lbv l++[]) 0)]) (.blk b l.length l.length (lbv l) [] hll (by simp [hll]) (Nat.le_refl _) O) hu (fun b' zs t hm=>by
  simp only [List.append_nil,List.mem_singleton,Prod.mk.injEq] at hm
  obtain ⟨rfl,hcb⟩:=hm
  have:zs=lbv l:=by
   unfold cb at hcb
   injection hcb with e1
   simpa using congrArg Array.toList e1
  rw [this];exact h) rfl
theorem qtI(l:List Int)(h:l.all (fun x=>decide (0≤x∧x < 4294967296))=true):∀ x∈l,U32 x:=fun x hx=>by have:=List.all_eq_true.1 h x hx;simpa [U32] using this
theorem qhz(D:Nat)(L:Hl)(s:World)(hG:GW s):AC Tryz.prog D 4 [] L s fun v L' _=>v=.bool true∧L=L':=by
 refine qai (fn:=Tryz.f4) qaG Tryz.func4 V Z Tryz.ntmps4 Z (rs:=[.tmp 0]) Z [] Z<|Sr<|At Z Z<|Sr<|Jc Z Z Z (qeQ D _ _) ?_
 rintro _ _ s1 h1 ⟨rfl,Ad1,nd1,cd1,rfl,hd1⟩
 refine Jc Z Z Z (qec D _ _ (hG.le h1) defT _ _ _ (hd1.le (Lr D)) exT) ?_
 rintro _ _ s2 h2 ⟨rfl,A1,n1,c1,rfl,hW1⟩
 rw [ex_W.1] at hW1
 refine Zqm Z Z<|Zqx Z Z Z<|Zqx Z Z Z<|qag Z [_,_] Z Z ?_
 intro β3 s3 h3
 refine Zqa Z Z<|Wt 0 [_,_] Y9<|Nt<|Sr<|Jc Z Z Z (qeQ D _ _) ?_
 rintro _ _ s4 h4 ⟨rfl,Ad2,nd2,cd2,rfl,hd2⟩
 refine Jc Z Z Z (qkD D _ _ (hG.le (h1.t h2|>.t h3|>.t h4)) defT _ _ _ (hd2.le (Lr D)) exT) ?_
 rintro _ _ s5 h5 ⟨rfl,A2,n2,c2,rfl,hL2⟩
 rw [ex_W.2.1] at hL2
 refine Zqm Z Z<|Zqx Z Z Z<|Zqx Z Z Z<|qag Z [_,_] Z Z ?_
 intro β6 s6 h6
 refine Zqa Z Z<|Wt 0 [_,_] Y9<|Nt<|Sr<|Jc Z Z Z (qeQ D _ _) ?_
 rintro _ _ s7 h7 ⟨rfl,Ad3,nd3,cd3,rfl,hd3⟩
 refine qa0 [(_,_),(_,_),(_,_),(_,_)] [_,_,_,_] Z Z Z Z Z Z Z Z Z ?_
 intro βi s8 h8 hci
 refine Jc Z Z Z (qqX D _ _ (hG.le (h1.t h2|>.t h3|>.t h4|>.t h5|>.t h6|>.t h7|>.t h8)) defT _ _ _ (hd3.le h8) _ _ _ [2,9,1,2] (qhG (l:=[2,9,1,2]) (hci.le (Lr D)) (qtI _ Z) Dc)) ?_
 rintro _ _ s9 h9 ⟨rfl,rfl⟩
 refine Zqm Z Z<|Zqx Z Z Z<|Zqx Z Z Z<|qag Z [_,_] Z Z ?_
 intro β10 s10 h10
 refine Zqa Z Z<|Wt 0 [_,_] Y9<|Nt<|Sr<|Jc Z Z Z (qsF D _ _ [97,49]) ?_
 rintro _ _ s11 h11 ⟨rfl,rfl⟩
 refine Zqm Z Z<|Zqx Z Z Z<|Zqx Z Z Z<|qag Z [_,_] Z Z ?_
 intro β12 s12 h12
 refine Zqa Z Z<|Wt 0 [_,_] Y9<|Nt<|Sr<|Jc Z Z Z (qq0 D _ _ 65 Dc) ?_
 rintro _ _ s13 h13 ⟨rfl,rfl⟩
 refine Zqm Z Z<|Zqx Z Z Z<|Zqx Z Z Z<|qag Z [_,_] Z Z ?_
 intro β14 s14 h14
 refine Zqa Z Z<|Wt 0 [_,_] Y9<|Nt<|Sr<|qa0 [(_,_),(_,_)] [_,_] Z Z Z Z Z Z Z Z Z ?_
 intro βp s15 h15 hcp
 refine Jc Z Z Z (qr9 D _ _ _ _ _ [5,300] (qhG (l:=[5,300]) (hcp.le (Lr D)) (qtI _ Z) Dc)) ?_
 rintro _ _ s16 h16 ⟨rfl,A3,n3,c3,rfl,hP⟩
 rw [ex_P.1] at hP
 refine Zqm Z Z<|Zqx Z Z Z<|Zqx Z Z Z<|qag Z [_,_] Z Z ?_
 intro β17 s17 h17
 refine Zqa Z Z<|Wt 0 [_,_] Y9<|Nt<|Sr<|qa0 [(_,_),(_,_),(_,_)] [_,_,_] Z Z Z Z Z Z Z Z Z ?_
 intro βq s18 h18 hcq
 refine Jc Z Z Z (qmJ D _ _ _ _ _ [5,172,2] (qlL (l:=[5,172,2]) (hcq.le (Lr D)) Dc)) ?_
 rintro _ _ s19 h19 ⟨rfl,A4,n4,c4,rfl,hU⟩
 rw [ex_U.1] at hU
 refine Zqm Z Z<|Zqx Z Z Z<|Zqx Z Z Z<|qag Z [_,_] Z Z ?_
 intro β20 s20 h20
 refine Zqa Z Z<|Wt 0 [_,_] Y9<|Nt<|Zs<|Sr<|W0 Y5<|qae (Wd 6 Y5) Z<|qae (qav (v':=.bool false) (qhh Z Z) (bF (by rw [ex_W.2.2]))) Z<|Zqm Z Z<|Zg Z Z<|W0 Y5<|Zg Z Z<|Wl 5 Y6<|Zg Z Z<|qae (qav (v':=.bool false) (qhh Z Z) (bF (by rw [ex_W.2.2]))) Z<|ZqF Z Z Z<|Zqm Z Z<|Zg Z Z<|W0 Y5<|Zg Z Z<|Wl 4 Y6<|Zg Z Z<|qae (qav (v':=.bool false) (qhh Z Z) (bF (by rw [ex_S.2]))) Z ?_
 refine ZqF Z Z Z<|Zqm Z Z<|Zg Z Z<|W0 Y5<|Zg Z Z<|Wl 3 Y6<|Zg Z Z<|qae (qav (v':=.bool false) (qhh Z Z) (bF (by rw [ex_K.2]))) Z<|ZqF Z Z Z<|Zqm Z Z<|Zg Z Z<|W0 Y5<|Zg Z Z<|Wl 2 Y6<|Zg Z Z<|qae (qav (v':=.bool false) (qhh Z Z) (bF (by rw [ex_N.2]))) Z<|ZqF Z Z Z<|Zqm Z Z<|Zg Z Z<|W0 Y5<|Zg Z Z<|Wl 1 Y6<|Zg Z Z<|qae (qav (v':=.bool false) (qhh Z Z) (bF (by rw [ex_P.2]))) Z ?_
 refine ZqF Z Z Z<|Zqm Z Z<|Zg Z Z<|W0 Y5<|Zg Z Z<|Wl 0 Y6<|Zg Z Z<|qae (qav (v':=.bool false) (qhh Z Z) (bF (by rw [ex_U.2]))) Z<|ZqF Z Z Z<|Nt<|Zz Z<|Zk<|Zt<|Sr<|Zqm Z Z<|qa0 [(_,_),(_,_),(_,_),(_,_),(_,_),(_,_),(_,_)] [_,_,_,_,_,_,_] Z Z Z Z Z Z Z Z Z ?_
 intro βe s21 h21 hce
 refine Jc Z Z Z (AC.isT (qfI D _ _ _ _ _ _ (hW1.le (h3.t h4|>.t h5|>.t h6|>.t h7|>.t h8|>.t h9|>.t h10|>.t h11|>.t h12|>.t h13|>.t h14|>.t h15|>.t h16|>.t h17|>.t h18|>.t h19|>.t h20|>.t h21)) _ _ _ [26,3,7,3,2,0,0] (qhG (l:=[26,3,7,3,2,0,0]) (hce.le (Lr D)) (qtI _ Z) Dc)) Z) ?_
 rintro _ _ s22 h22 ⟨rfl,rfl⟩
 refine Zqm Z Z<|Zg Z Z<|Zqm Z Z<|Zg Z Z<|qae (qal [(_,_),(_,_)] [_,_] Z Z Z Z Z Z) Z<|Zg Z Z<|qae (qal [(_,_),(_,_)] [_,_] Z Z Z Z Z Z) Z<|Zg Z Z<|qa0 [(_,_),(_,_)] [_,_,_,_] Z Z Z Z Z Z Z Z Z ?_
 intro βf s23 h23 hcf
 refine Zg Z Z<|Jc Z Z Z (AC.isT (qhH D _ _ _ _ _ _ (hL2.le (h6.t h7|>.t h8|>.t h9|>.t h10|>.t h11|>.t h12|>.t h13|>.t h14|>.t h15|>.t h16|>.t h17|>.t h18|>.t h19|>.t h20|>.t h21|>.t h22|>.t h23)) _ _ _ [([120],2),([101,110,100],3)] (qnY (l:=[([120],2),([101,110,100],3)]) (hcf.le (Lr D)) (by simp [U32]) Dc)) Z) ?_
 rintro _ _ s24 h24 ⟨rfl,rfl⟩
 refine ZqT Z Z Z<|Zqm Z Z<|Zg Z Z<|Zqm Z Z<|Zg Z Z<|qae (qav (v':=.bool true) (qlY Z Z) (bT ex_S.1)) Z<|ZqT Z Z Z<|Zqm Z Z<|Zg Z Z<|Zqm Z Z<|Zg Z Z<|qae (qav (v':=.bool true) (qil Z Z) (bT ex_K.1)) Z<|ZqT Z Z Z<|Zqm Z Z<|Zg Z Z<|Zqm Z Z<|Zg Z Z<|qae (qav (v':=.bool true) (qlY Z Z) (bT ex_N.1)) Z<|ZqT Z Z Z<|Zqm Z Z<|Zg Z Z<|Zqm Z Z<|Zg Z Z<|qa0 [(_,_),(_,_),(_,_)] [_,_,_] Z Z Z Z Z Z Z Z Z ?_
 intro βg s25 h25 hcg
 refine Zg Z Z<|Jc Z Z Z (AC.isT (qfP D _ _ _ _ _ _ (hP.le (h17.t h18|>.t h19|>.t h20|>.t h21|>.t h22|>.t h23|>.t h24|>.t h25)) _ _ _ [5,172,2] (qlL (l:=[5,172,2]) (hcg.le (Lr D)) Dc)) Z) ?_
 rintro _ _ s26 h26 ⟨rfl,rfl⟩
 refine ZqT Z Z Z<|Zqm Z Z<|Zg Z Z<|Zqm Z Z<|Zg Z Z<|qa0 [(_,_),(_,_)] [_,_] Z Z Z Z Z Z Z Z Z ?_
 intro βh s27 h27 hch
 refine Zg Z Z<|Jc Z Z Z (AC.isT (qfI D _ _ _ _ _ _ (hU.le (h20.t h21|>.t h22|>.t h23|>.t h24|>.t h25|>.t h26|>.t h27)) _ _ _ [5,300] (qhG (l:=[5,300]) (hch.le (Lr D)) (qtI _ Z) Dc)) Z) ?_
 rintro _ _ s28 h28 ⟨rfl,rfl⟩
 refine ZqT Z Z Z<|At Z Z<|Zo<|?_
 refine rR [_,_,_,_,_,_,_] L (.t1 Z) Z (h1.t h2|>.t h3|>.t h4|>.t h5|>.t h6|>.t h7|>.t h8|>.t h9|>.t h10|>.t h11|>.t h12|>.t h13|>.t h14|>.t h15|>.t h16|>.t h17|>.t h18|>.t h19|>.t h20|>.t h21|>.t h22|>.t h23|>.t h24|>.t h25|>.t h26|>.t h27|>.t h28) fun _ hS2=>?_
 exact ⟨rfl,rfl⟩
end Go.Proofs.YtjindleklapakaaGreatDoor
namespace Go.Proofs.YtjindleklapakaaGreatDoor
open Go Go.FL Go.RowKit
theorem ql0{α:Type}{l:List α}{k:Nat}{x:α}(h:l[k]?=some x):l.take (k+1)=l.take k++[x]:=by
 rw [List.take_add_one,h];rfl
theorem qjH{l:List UInt8}(h:qdf l≠none):qd3 l=true∧qfN 0 l < 4294967296:=by
 unfold qdf at h
 split at h
 · assumption
 · exact absurd rfl h
theorem qrp{l:List UInt8}(h:l=[]∨10 < l.length∨(1 < l.length∧l[0]?=some 48)):qdf l=none:=by
  cases hn:qdf l with
  | none=>rfl
  | some u=>
    obtain ⟨e,hu⟩:=qe0 hn
    have hd:=qjs hu
    rw [← e] at hd
    have hc:=(qjH (by rw [hn];simp)).1
    simp only [qd3,Bool.and_eq_true,decide_eq_true_eq,Bool.or_eq_true] at hc
    rcases h with h | h | ⟨h,h2⟩
    · exact absurd h hc.1.1
    · omega
    · rcases hc.2 with h3 | h3
      · omega
      · rw [List.head?_eq_getElem?] at h3;exact absurd h2 h3
theorem qr5{l:List UInt8}{c:UInt8}{k:Nat}(hc:l[k]?=some c)(h:qdk c=false):qdf l=none:=by
 cases hn:qdf l with
 | none=>rfl
 | some u=>
  have hcn:=(qjH (l:=l) (by rw [hn];simp)).1
  simp only [qd3,Bool.and_eq_true] at hcn
  have:=List.all_eq_true.1 hcn.1.2 c (List.mem_of_getElem? hc)
  rw [h] at this;cases this
theorem ql3{l:List UInt8}(h:4294967295 < qfN 0 l):qdf l=none:=by
 rw [qdf,if_neg (fun hh=>by omega)]
theorem qov{l:List UInt8}(h:¬ (l=[]∨10 < l.length∨(1 < l.length∧l[0]?=some 48)))(hd:∀ i c,i < l.length→l[i]?=some c→qdk c=true)(hv:¬ 4294967295 < qfN 0 l):qdf l=some (qfN 0 l):=by
  have hcn:qd3 l=true:=by
    simp only [qd3,Bool.and_eq_true,decide_eq_true_eq,Bool.or_eq_true]
    refine ⟨⟨fun e=>h (.inl e),List.all_eq_true.2 fun c hc=>?_⟩,?_⟩
    · obtain ⟨i,hi⟩:=List.mem_iff_getElem?.1 hc
      exact hd i c (List.getElem?_eq_some_iff.1 hi).1 hi
    · by_cases h1:1 < l.length
      · right;intro e;exact h (.inr (.inr ⟨h1,by rw [← List.head?_eq_getElem?];exact e⟩))
      · left;omega
  rw [qdf,if_pos ⟨hcn,by omega⟩]
theorem qkg{l:List UInt8}(h:∀ i c,i < l.length→l[i]?=some c→qdk c=true):qfN 0 l < 10 ^ l.length:=by
  generalize hn:l.length=n
  induction n generalizing l with
  | zero=>rw [List.length_eq_zero_iff.1 hn,qds];simp
  | succ n ih=>
    rcases List.eq_nil_or_concat l with rfl | ⟨r,c,rfl⟩
    · cases hn
    · rw [List.concat_eq_append] at *
      have hrl:r.length=n:=by simpa using hn
      have h1:=ih (l:=r) (fun i x hi hx=>h i x (by simp;omega) (by rw [List.getElem?_append_left hi];exact hx)) hrl
      have h2:=h r.length c (by simp) (by simp)
      simp only [qdk,Bool.and_eq_true,decide_eq_true_eq] at h2
      rw [qe7,Nat.pow_succ]
      omega
theorem qmU{l:List UInt8}{k:Nat}(hk:k≤l.length)(hk10:l.length≤10)(h:∀ i c,i < k→l[i]?=some c→qdk c=true):qfN 0 (l.take k) < 10000000000:=by
 have h1:=qkg (l:=l.take k) (fun i c hi hc=>h i c (by simp at hi;omega) (by rw [List.getElem?_take] at hc;split at hc;exact hc;cases hc))
 have h2:10 ^ (l.take k).length≤10 ^ 10:=Nat.pow_le_pow_right O (by simp;omega)
 omega
theorem digB_iff{c:UInt8}:(48≤(c.toNat:Int)∧(c.toNat:Int)≤57)↔qdk c=true:=by
 simp only [qdk,Bool.and_eq_true,decide_eq_true_eq];omega
structure RL where
 ok:Bool
 label:List UInt8
 op:List UInt8
 given:Bool
 name:List UInt8
 num:Int
def RL.cs(r:RL):List Value:=[.bool r.ok,St r.label,St r.op,.bool r.given,St r.name,.int .u32 r.num]
def RL.ln(r:RL):Ln:=⟨r.label,r.op,r.given,r.name,r.num⟩
def qpE(l:List UInt8)(r:RL):Prop:=((r.ok=true∧qa6 l=some r.ln)∨(r.ok=false∧qa6 l=none))∧U32 r.num
def szL(r:RL):Int:=if r.op=[] then 0 else if r.op=qbe then r.num else if r.op≠qcI∧r.given=true then 2 else 1
def Rls(s:World)(A:Option Addr)(n c:Nat)(l:List RL):Prop:=Sl 6 (fun _ x cs=>cs=x.cs∧U32 x.num) s A n c l
theorem Rls.le{D:Nat}{s s':World}{A:Option Addr}{n c:Nat}{l:List RL}(h:Rls s A n c l)(hl:Le D s s'):Rls s' A n c l:=Sl.le (fun _ _ h=>h) h hl
theorem qjD{l:List (List UInt8)}{k:Nat}{x:List UInt8}(h:l[k]?=some x):(l.drop k).filter (fun y=>decide (y≠[]))=if x=[] then (l.drop (k+1)).filter (fun y=>decide (y≠[])) else x::(l.drop (k+1)).filter (fun y=>decide (y≠[])):=by
 obtain ⟨hk,rfl⟩:=List.getElem?_eq_some_iff.1 h
 rw [List.drop_eq_getElem_cons hk,List.filter_cons]
 by_cases hx:l[k]=[]
 · simp [hx]
 · simp [hx]
end Go.Proofs.YtjindleklapakaaGreatDoor
