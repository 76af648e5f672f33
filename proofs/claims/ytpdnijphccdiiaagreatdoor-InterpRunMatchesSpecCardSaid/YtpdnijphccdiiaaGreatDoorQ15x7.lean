/- Part 7. -/
import Derived.Test.YtpdnijphccdiiaaGreatDoorQ15x6
set_option linter.unusedVariables false
set_option linter.unusedSimpArgs false
set_option linter.unnecessarySimpa false
set_option maxRecDepth 100000
set_option maxHeartbeats 8000000
namespace Go.Proofs.YtpdnijphccdiiaaGreatDoor
open Go.Proofs.Tryz
open Go.FL
attribute [local irreducible] JC JO JA JB qaJ qaw qbM AC fill CellsAt QE Ev Mid
theorem qn6{w:Nat}(h:¬ w < 10):Lib.decDigits w=Lib.decDigits (w / 10)++Lib.decDigits (w % 10):=by
 rw [Lib.decDigits,dif_neg h,Lib.decDigits_one (i:=w % 10) O]
theorem qvz(n:Nat):Value.int .u32 ((n:Int).tmod 10)=.int .u32 ((n % 10:Nat):Int):=by rw [Int.tmod_eq_emod_of_nonneg O];rfl
theorem qvu{n:Nat}(h:n < 4294967296):Value.int .u32 (IntKind.u32.wrap ((n:Int).tdiv 10))=.int .u32 ((n / 10:Nat):Int):=by
 rw [Int.tdiv_eq_ediv_of_nonneg O,IntKind.wrap_u32];congr 1;omega
theorem qvD{n:Nat}(h:n < 10):Value.int .u8 (IntKind.u8.wrap (IntKind.u32.wrap (48+(n:Int))))=.int .u8 ((UInt8.ofNat (48+n)).toNat:Int):=by
 rw [IntKind.wrap_u32,IntKind.wrap_u8];congr 1;simp only [UInt8.toNat_ofNat'];omega
theorem qrk{s:World}{b:Nat}{l:List UInt8}(h:CellsAt s b 0 (bv l))(hl:l.length≤1000):Bts s (some ⟨b,0,none⟩) l.length l.length l:=qms (yc:=[]) (cc:=l.length) (by simpa using h) (by simp) O
theorem qip(D:Nat)(L:Hl)(s:World)(w:Nat)(hw:w < 4294967296)(ih:∀ w',w' < w→∀ (L:Hl) (s:World),AC prog D 101 [.int .u32 (w':Int)] L s fun v L' _=>v=St (Lib.decDigits w')∧L=L'):AC prog D 101 [.int .u32 (w:Int)] L s fun v L' _=>v=St (Lib.decDigits w)∧L=L':=by
 refine qai (fn:=f101) qao func101 V Z ntmps101 Z (rs:=[.tmp 2]) Z [(0,_)] Z<|Sr<|At Z Z<|Zs<|Sr<|Zqm Z Z<|qbh Z Z Z<|Nt<|?_
 refine qaa Z (fun c1=>?_) (fun c1=>?_)
 ·
  have hw1:w < 10:=by omega
  refine Sr<|Zqm Z Z<|qac (qe0 Z Z) Z<|qac (qae (qdI Z Z Z Z Z) (qvD hw1)) Z<|qbk [(_,_)] [_] Z Z Z Z Z Z Z Z Z ?_
  intro βn s2 h2 hcb
  refine qac (qi0 Z Z Z Z Z Z Z (qrk (l:=[UInt8.ofNat (48+w)]) (hcb.le (Lr D)) (by simp))) Z<|At Z Z<|Zo<|Zu<|?_
  refine rR [] L (.t1 Z) Z h2 fun _ hS2=>?_
  exact ⟨by rw [Lib.decDigits_one hw1];rfl,rfl⟩
 have hw1:¬ w < 10:=by omega
 have hl1:=qic (u:=w / 10) O
 have hl2:=qic (u:=w % 10) O
 refine Zk<|Zt<|Sr<|Zqm Z Z<|qac (qae (qev Z Z Dc) (qvu hw)) Z<|Jc Z Z Z (ih (w / 10) O _ _) ?_
 rintro _ _ s3 h3 ⟨rfl,rfl⟩
 refine Zqm Z Z<|qac (qae (qhD Z Z Dc) (qvz w)) Z<|Jc Z Z Z (ih (w % 10) O _ _) ?_
 rintro _ _ s4 h4 ⟨rfl,rfl⟩
 refine qac (qaf Z Z O) Z<|At Z Z<|Zo<|?_
 refine rR [] L (.t1 Z) Z (h3.t h4) fun _ hS2=>?_
 exact ⟨by rw [qn6 hw1];rfl,rfl⟩
theorem qjJ(D:Nat)(w:Nat)(hw:w < 4294967296):∀ (L:Hl) (s:World),AC prog D 101 [.int .u32 (w:Int)] L s fun v L' _=>v=St (Lib.decDigits w)∧L=L':=by
 induction w using Nat.strongRecOn with
 | _ w ih=>exact fun L s=>qip D L s w hw fun w' h=>ih w' h O
theorem qiI(D:Nat)(L:Hl)(s:World)(n:Int)(hn:U32 n):AC prog D 101 [.int .u32 n] L s fun v L' _=>v=St (qeB n)∧L=L':=by
 obtain ⟨w,rfl⟩:=Int.eq_ofNat_of_zero_le hn.1
 have:=hn.2
 exact qjJ D w O L s
theorem qgM{ws:List Str}{k:Nat}{x:Str}(h:ws[k]?=some x)(hk:¬ 0 < k):qaV (ws.take (k+1))=qaV (ws.take k)++x:=by
 obtain rfl:k=0:=by omega
 cases ws with
 | nil=>cases h
 | cons y r=>simp at h;subst h;rfl
theorem qkB(l:List Str)(h:l≠[])(x:Str):qaV (l++[x])=qaV l++[44,32]++x:=by
 induction l with
 | nil=>exact absurd rfl h
 | cons y r ih=>
  cases r with
  | nil=>simp [qaV]
  | cons z r=>
   have:=ih (by simp)
   simp only [List.cons_append] at this ⊢
   rw [qaV,this,qaV];simp
theorem qgZ{ws:List Str}{k:Nat}{x:Str}(h:ws[k]?=some x)(hk:0 < k):qaV (ws.take (k+1))=qaV (ws.take k)++[44,32]++x:=by
 obtain ⟨hl,rfl⟩:=List.getElem?_eq_some_iff.1 h
 rw [List.take_succ_eq_append_getElem hl]
 exact qkB _ (fun h=>by have:=congrArg List.length h;rw [List.length_take,List.length_nil] at this;omega) _
theorem qlO(ws:List Str)(k:Nat):qf4 (ws.take k)≤qf4 ws:=by
 induction ws generalizing k with
 | nil=>simp
 | cons x r ih=>
  cases k with
  | zero=>simp [qf4]
  | succ k=>have:=ih k;rw [List.take_succ_cons,qbE,qbE];omega
def sgV:Str:=[32,33,32,45,32,126,32,42,32,47,32,37,32,60,60,32,62,62,32,38,32,43,32,45,32,124,32,94,32,61,61,32,33,61,32,60,32,60,61,32,62,32,62,61,32,38,38,32,124,124]
theorem qm7:qfE 32 sgV=signL:=by decide +kernel
def strT:Str:=[32,32,32,32,53,53,53,53,53,53,52,52,52,52,51,51,51,51,51,51,50,49]
theorem qrt{j:Nat}(h4:4≤j)(h:j≤21):∃ ch,strT[j]?=some ch∧(ch.toNat:Int) - 48=qbB j:=by
 have k:∀ i:_root_.Fin 22,4≤i.val→strT[i.val]?=some (strT.getD i.val 0)∧((strT.getD i.val 0).toNat:Int) - 48=qbB i.val:=by decide +kernel
 exact ⟨_,k ⟨j,by omega⟩ h4⟩
theorem qcJ(D:Nat)(L:Hl)(s:World)(A:Option Addr)(n c:Nat)(ws:List Str)(hS:Strs s A n c ws)(hW:qf4 ws≤1000000000):AC prog D 102 [.slice A n c] L s fun v L' _=>v=St (qaV ws)∧L=L':=by
 have hn:=hS.1
 have hq:=hS.2.1
 have hq2:=hS.2.2.1
 refine qai (fn:=f102) qao func102 V Z ntmps102 Z (rs:=[.tmp 2]) Z [(0,_)] Z<|Sr<|At Z Z<|Sr<|At Z Z<|Zs<|Sr<|At Z Z<|Zp<|qav (γ:=Nat) (fun k=>[(0,_),(2,_),(3,St (qaV (ws.take k))),(4,.int .i64 (k:Int))]) (fun _=>_) (fun k tw=>Le D s tw∧(k≤n)) (fun k=>n - k) (fun _ _ _ h hl=>⟨h.1.trans hl,h.2⟩) 0 (.c4 Z Z Z Z (.nil _)) Z ⟨Le.refl _,Nat.zero_le _⟩ ?_
 intro k s1 I1
 have hk0:=I1.2
 refine Zs<|Sr<|Zqm Z Z<|Zqm Z Z<|Ws Y4<|qbh Z Z Z<|Nt<|?_
 refine qaa Z (fun c2=>?_) (fun c2=>?_)
 ·
  have hk:k < n:=by omega
  obtain ⟨b,off,x,rfl,hx,hcx,hxl⟩:=Strs.at_ (hS.le I1.1) hk
  have hcl:=qbf (ws.take (k+1))
  have hct:=qlO ws (k+1)
  refine Zk<|Zt<|Zs<|Zp<|Zs<|Sr<|Zqm Z Z<|qbv Z Z Z<|Nt<|?_
  refine qaa Z (fun c3=>?_) (fun c3=>?_)
  ·
   have g12:0 < k:=by omega
   rw [qgZ hx g12] at hcl
   simp only [List.length_append,List.length_cons,List.length_nil] at hcl
   refine Zr<|Zqm Z Z<|qac (qaf Z Z Uo) Z<|At Z Z<|Zr<|Zqm Z Z<|Zqm Z Z<|Zqm Z Z<|qac (qas Z Z Z Z Z Z hk) Z<|qac (qah Z Z Z (hcx.le (Lr D)) Z) Z<|qac (qaf Z Z Ut) Z<|Zqa Z Z<|Zn<|Zb<|Zt<|Zr<|Zqm Z Z<|qaF Z Z Z (w64 O O)<|Zqa Z Z<|Zn<|?_
   refine qab ⟨(k+1),[],(.c2 Z Z (.cons (by first | exact congrArg (fun l=>some (St l)) (qgZ hx O).symm | exact congrArg (fun l=>some (St l)) (qgM hx O).symm) kp)),Z,⟨I1.1,(show k+1≤n by omega)⟩,O⟩
  have g12:¬ 0 < k:=by omega
  rw [qgM hx g12] at hcl
  simp only [List.length_append,List.length_cons,List.length_nil] at hcl
  refine Zk<|Zt<|Zr<|Zqm Z Z<|Zqm Z Z<|Zqm Z Z<|qac (qas Z Z Z Z Z Z hk) Z<|qac (qah Z Z Z (hcx.le (Lr D)) Z) Z<|qac (qaf Z Z Ut) Z<|Zqa Z Z<|Zn<|Zb<|Zt<|Zr<|Zqm Z Z<|qaF Z Z Z (w64 O O)<|Zqa Z Z<|Zn<|?_
  refine qab ⟨(k+1),[],(.c2 Z Z (.cons (by first | exact congrArg (fun l=>some (St l)) (qgZ hx O).symm | exact congrArg (fun l=>some (St l)) (qgM hx O).symm) kp)),Z,⟨I1.1,(show k+1≤n by omega)⟩,O⟩
 obtain rfl:k=n:=by omega
 refine Zl<|Zv<|Zv<|Zd<|Zt<|Sr<|Zqm Z Z<|At Z Z<|Zo<|?_
 refine rR [] L (.t1 Z) Z I1.1 fun _ hS2=>?_
 exact ⟨by rw [List.take_of_length_le O];rfl,rfl⟩
theorem qkM(D:Nat)(L:Hl)(s:World)(o:Int)(ho:1≤o∧o≤21):AC prog D 196 [.int .i64 o] L s fun v L' _=>v=St (qjO o)∧L=L':=by
 obtain ⟨j,rfl⟩:∃ j:Nat,o=(j:Int):=Int.eq_ofNat_of_zero_le O
 refine qai (fn:=f196) qao func196 V Z ntmps196 Z (rs:=[.tmp 2]) Z [(0,_)] Z<|Sr<|At Z Z<|Sr<|Jc Z Z Z (qgQ D _ _ sgV 32 Dc) ?_
 rintro _ _ s1 h1 ⟨rfl,Ak,nk,ck,rfl,hK⟩
 rw [qm7] at hK
 have hnk:nk=22:=hK.1
 obtain ⟨bk,ok,xk,rfl,hxk,hck,_⟩:=Strs.at_ hK (show j < nk by omega)
 refine Zqm Z Z<|qac (qas Z Z Z Z Z Z (show j < nk by omega)) Z<|qac (qah Z Z Z (hck.le (Lr D)) Z) Z<|At Z Z<|Zo<|?_
 refine rR [] L (.t1 Z) Z h1 fun _ hS2=>?_
 refine ⟨?_,Z⟩
 rw [qjO,Int.toNat_natCast,List.getD,hxk];rfl
theorem qsj(D:Nat)(L:Hl)(s:World)(o:Int)(ho:4≤o∧o≤21):AC prog D 197 [.int .i64 o] L s fun v L' _=>v=.int .i64 (qbB o)∧L=L':=by
 obtain ⟨j,rfl⟩:∃ j:Nat,o=(j:Int):=Int.eq_ofNat_of_zero_le O
 obtain ⟨ch,hch,hv⟩:=qrt (j:=j) O O
 have hc8:=ch.toNat_lt
 refine qai (fn:=f197) qao func197 V Z ntmps197 Z (rs:=[.tmp 2]) Z [(0,_)] Z<|Sr<|At Z Z<|Sr<|Zqm Z Z<|qac (qfA Z Z Z Z hch) Z<|qac (qae (qdI Z Z Z Z Z) (show Value.int .i64 (IntKind.i64.wrap (ch.toNat:Int))=.int .i64 (ch.toNat:Int) by rw [w64 O O])) Z<|qac (qbd (c:=qbB j) Z Z (by rw [w64 O O];exact hv)) Z<|At Z Z<|Zo<|?_
 refine rR [] L (.t1 Z) Z (Lr D) fun _ hS2=>?_
 exact ⟨rfl,rfl⟩
theorem qfX(D:Nat)(L:Hl)(s:World)(lv:Nat)(hlv:lv≤20):AC prog D 135 [.int .i64 (lv:Int)] L s fun v L' _=>v=St (qaO lv)∧L=L':=by
 refine qai (fn:=f135) qao func135 V Z ntmps135 Z (rs:=[.tmp 2]) Z [(0,_)] Z<|Sr<|At Z Z<|Sr<|At Z Z<|Zs<|Sr<|At Z Z<|Zp<|qav (γ:=Nat) (fun k=>[(0,_),(2,_),(3,St (qaO k)),(4,.int .i64 (k:Int))]) (fun _=>_) (fun k tw=>Le D s tw∧(k≤lv)) (fun k=>lv - k) (fun _ _ _ h hl=>⟨h.1.trans hl,h.2⟩) 0 (.c4 Z Z Z Z (.nil _)) Z ⟨Le.refl _,Nat.zero_le _⟩ ?_
 intro k s1 I1
 have hk0:=I1.2
 have hml:=qbL k
 refine Zs<|Sr<|Zqm Z Z<|Zqm Z Z<|qbh Z Z Z<|Nt<|?_
 refine qaa Z (fun c2=>?_) (fun c2=>?_)
 ·
  have hk:k < lv:=by omega
  refine Zk<|Zt<|Zs<|Zp<|Zr<|Zqm Z Z<|qac (qaf Z Z Uo) Z<|Zqa Z Z<|Zn<|Zb<|Zt<|Zr<|Zqm Z Z<|qaF Z Z Z (w64 O O)<|Zqa Z Z<|Zn<|?_
  refine qab ⟨(k+1),[],kp,Z,⟨I1.1,(show k+1≤lv by omega)⟩,O⟩
 obtain rfl:k=lv:=by omega
 refine Zl<|Zv<|Zv<|Zd<|Zt<|Sr<|Zqm Z Z<|At Z Z<|Zo<|?_
 refine rR [] L (.t1 Z) Z I1.1 fun _ hS2=>?_
 exact ⟨rfl,rfl⟩
def EXR(D d:Nat):Prop:=∀ (L:Hl) (s:World) (x:Ex) (A:Option Addr) (n c:Nat) (out:Int),Exs d s A n c x.args→U32 x.num→exV x=true→exN x≤2000→AC prog D 171 [.agg #[.int .i64 x.kind,.int .i64 x.op,.int .u32 x.num,St x.name,.slice A n c],.int .i64 out] L s fun v L' _=>v=St (exT x out)∧L=L'
theorem qgf{x:Ex}(hv:exV x=true)(h:¬ x.kind=7)(out:Int):exT x out=exT x 0:=by
 have hk:=qb5 (qdx hv).1
 rw [qgH hk.1 hk.2.1 out,if_neg (fun k=>h k.1)]
theorem quc{x:Ex}(hv:exV x=true)(h:x.kind=7){out:Int}(ho:qbB x.op < out):exT x out=[40]++exT x 0++[41]:=by
 have hk:=qb5 (qdx hv).1
 rw [qgH hk.1 hk.2.1 out,if_pos ⟨h,ho⟩]
theorem quu{x:Ex}(hv:exV x=true)(h:x.kind=7){out:Int}(ho:¬ qbB x.op < out):exT x out=exT x 0:=by
 have hk:=qb5 (qdx hv).1
 rw [qgH hk.1 hk.2.1 out,if_neg (fun k=>ho k.2)]
theorem qiY(D d:Nat)(ih:∀ e,d=e+1→EXR D e)(L:Hl)(s:World)(x:Ex)(A:Option Addr)(n c:Nat)(out:Int)(hA:Exs d s A n c x.args)(hu:U32 x.num)(hv:exV x=true)(hN:exN x≤2000):AC prog D 171 [.agg #[.int .i64 x.kind,.int .i64 x.op,.int .u32 x.num,St x.name,.slice A n c],.int .i64 out] L s fun v L' _=>v=St (exT x out)∧L=L':=by
 have hxl:=qfV x 0 hv (qjg hu hA.u)
 have hC:=qdx hv
 have hka:=qb5 hC.1
 have hl:=hA.1
 have hq1:=hA.2.1
 have hq2:=hA.2.2.1
 have hNx:=qpg x
 have htw:=qdp x.args [] hC.2 hA.u
 rw [qbI] at htw
 refine qai (fn:=f171) qao func171 V Z ntmps171 Z (rs:=[.tmp 4]) Z [(0,_),(1,_)] Z<|Sr<|qaq Z Z ?_
 intro β1 s1 h1
 refine At Z Z<|Sr<|At Z Z<|Zs<|?_
 refine qaU 16 (x.kind=3∨x.kind=4) ?_ ?_
 ·
  refine Zr<|W0 Y5<|Wl 0 Y6<|qar Z Z Z<|Zqm Z Z<|?_
  refine qak (t:=12) Z (fun c3=>?_) (fun c3=>?_)
  ·
   refine Wf Y4<|Wf Y4<|Wf Y4<|ZqT Z Z Z<|Zn<|?_
   refine qab (MidB.mk (Lr D) Sb Z ((decide_eq_true O).symm))
  refine Zg Z Z<|W0 Y5<|Zg Z Z<|Wl 0 Y6<|Zg Z Z<|qar Z Z Z<|ZqF Z Z Z<|Zn<|?_
  refine qab (MidB.mk (Lr D) Sb Z (decide_eq_decide.2 O))
 intro s2 h2
 refine qaa Z (fun c4=>?_) (fun c4=>?_)
 ·
  have g34:=c4
  have hn6:n≤6:=g34.elim (fun h=>by have:=qfQ hv (.inl h);omega) (fun h=>by have:=qpv hv h;omega)
  refine Sr<|At Z Z<|Zp<|qav (γ:=Nat×Value×Hl) (fun g=>[(1,_),(2,_),(4,_),(5,g.2.1),(6,.int .i64 (g.1:Int))]) (fun g=>_::(g.2.2++L)) (fun g tw=>Le D s2 tw∧(g.1≤n∧FL.Own 9 1 g.2.2 g.2.1 g.1 (sb ((x.args.take g.1).map fun x=>exT x 0)))) (fun g=>n - g.1) (fun _ _ _ h hl=>⟨h.1.trans hl,h.2⟩) (0,.slice none 0 0,[]) (.c5 Z Z Z Z Z (.nil _)) Z ⟨Le.refl _,⟨Nat.zero_le _,Own.nil⟩⟩ ?_
  intro g s5 I5
  obtain ⟨k,vo,Mo⟩:=g
  obtain ⟨hk0,hO⟩:=I5.2
  simp only at hk0 hO
  dsimp only
  refine Zs<|Sr<|Zqm Z Z<|Wb Y5<|Wl 0 Y6<|Ws Y4<|qbh Z Z Z<|Nt<|?_
  refine qaa Z (fun c6=>?_) (fun c6=>?_)
  ·
   have hk:k < n:=by omega
   obtain ⟨e,b,off,y,A',n',c',rfl,rfl,hx,hcy,hay,huy,hnl⟩:=Exs.at_ (hA.le (h1.t h2|>.t I5.1)) hk
   obtain ⟨hvy,hNy⟩:=qbW hC.2 hx
   refine Zk<|Zt<|Zs<|Zp<|Zr<|Zqm Z Z<|Wb Y5<|Wl 0 Y6<|Zqm Z Z<|qac (qap Z Z Z Z Z Z hk) Z<|qac (qau Z Z Z (hcy.le (Lr D)) Z) Z<|Jc Z Z Z (ih e Z _ _ y A' n' c' 0 (hay.le (Lr D)) huy hvy O) ?_
   rintro _ _ s7 h7 ⟨rfl,rfl⟩
   refine qbk [(_,_)] [_] Z Z Z Z Z Z Z Z Z ?_
   intro βn s8 h8 hcb
   refine qba (sz:=1) [_] Mo L Z Z Z Z Z Z Z hO (Row.of_cells (hcb.le (Lr D)) Z Z) ⟨by simp [ti9];omega,by omega⟩ Z ?_
   intro vq Mq s9 h9 oq
   obtain ⟨Avq,cvq,rfl,_,_⟩:=Own.slice oq
   simp only [cQ9,nQ9]
   refine Zqa Z Z<|Zn<|Zb<|Zt<|Zr<|Zqm Z Z<|qaF Z Z Z (w64 O O)<|Zqa Z Z<|Zn<|?_
   refine qab ⟨(k+1,.slice Avq (k+1) cvq,Mq),[],kp,Z,⟨(I5.1.t h7|>.t h8|>.t h9),⟨by simp only;omega,by rw [qaI (fun x=>exT x 0) hx,qc1];exact oq⟩⟩,Oz⟩
  obtain rfl:k=n:=by omega
  rw [List.take_of_length_le O] at hO
  obtain ⟨Ao,co,rfl,_,_⟩:=Own.slice hO
  refine Zl<|Zv<|Zv<|Zd<|Zt<|Zs<|Sr<|W0 Y5<|Wl 0 Y6<|qar Z Z Z<|Nt ?_
  refine qaa Z (fun c10=>?_) (fun c10=>?_)
  ·
   exfalso;omega --end
  refine Zk<|Zt<|Zs<|Sr<|W0 Y5<|Wl 0 Y6<|qar Z Z Z<|Nt<|?_
  refine qaa Z (fun c11=>?_) (fun c11=>?_)
  ·
   exfalso;omega --end
  refine Zk<|Zt<|Zs<|Sr<|W0 Y5<|Wl 0 Y6<|qar Z Z Z<|Nt<|?_
  refine qaa Z (fun c12=>?_) (fun c12=>?_)
  ·
   obtain ⟨y0,hy0⟩:∃ y,x.args[0]?=some y:=⟨_,List.getElem?_eq_getElem (show 0 < x.args.length by have:=qfQ hv (.inl c12);omega)⟩
   have hT3:=qsG c12 (qfQ hv (.inl c12)) hy0
   have hT:=(qgf hv O out).trans hT3
   have hW:qaV (x.args.map fun x=>exT x 0)=exT y0 0:=by rw [qj3 (qfQ hv (.inl c12)) hy0];rfl
   rw [← hW] at hT
   have hcl:=qbf (x.args.map fun x=>exT x 0)
   have hnm:=qgB hC.1
   refine Zs<|qbC [_] Mo _ ?_
   intro s13 h13 hpub13
   simp only [cQ9,nQ9]
   have hSt:=Own.strs hO (qfm hC.2 hA.u O) hpub13 (by rw [List.length_map];omega)
   refine qay qad 8 Z _ (fun _ h=>h) ?_
   intro s14 h14
   refine za 0 Z (We Y4) Z<|za 1 Z (Wd 0 Y5) Z<|za 2 Z (qaf Z Z Uo) Z<|za 3 Z (qan Z) Z<|qax 4 V<|Jb Z Tt Z Z Z (qcJ D _ _ Ao _ co (x.args.map fun x=>exT x 0) (hSt.le h14) O) ?_
   rintro _ _ s15 h15 ⟨rfl,rfl⟩
   refine ⟨fun _ _ h=>h,?_⟩
   refine za 5 Z (qaf Z Z Uo) Z<|za 6 Z (qaf Z Z Uo) Z<|za 7 Z (qaM Z) Z<|qal V<|Zt<|Zo<|Zu<|?_
   refine rR [_] L (.t1 Z) Z (h1.t h2|>.t I5.1|>.t h13|>.t h14|>.t h15) fun _ hS2=>?_
   exact ⟨by rw [hT];rfl,rfl⟩
  refine Zk<|Zt<|Zs<|Sr<|W0 Y5<|Wl 0 Y6<|qar Z Z Z<|Nt<|?_
  refine qaa Z (fun c16=>?_) (fun c16=>?_)
  ·
   have hT:=(qgf hv O out).trans (qtC c16)
   rw [qbI] at hT
   have hcl:=qbf (x.args.map fun x=>exT x 0)
   have hnm:=qgB hC.1
   refine Zs<|qbC [_] Mo _ ?_
   intro s17 h17 hpub17
   simp only [cQ9,nQ9]
   have hSt:=Own.strs hO (qfm hC.2 hA.u O) hpub17 (by rw [List.length_map];omega)
   refine qay qad 8 Z _ (fun _ h=>h) ?_
   intro s18 h18
   refine za 0 Z (We Y4) Z<|za 1 Z (Wd 0 Y5) Z<|za 2 Z (qaf Z Z Uo) Z<|za 3 Z (qan Z) Z<|qax 4 V<|Jb Z Tt Z Z Z (qcJ D _ _ Ao _ co (x.args.map fun x=>exT x 0) (hSt.le h18) O) ?_
   rintro _ _ s19 h19 ⟨rfl,rfl⟩
   refine ⟨fun _ _ h=>h,?_⟩
   refine za 5 Z (qaf Z Z Uo) Z<|za 6 Z (qaf Z Z Uo) Z<|za 7 Z (qaM Z) Z<|qal V<|Zt<|Zo<|Zu<|?_
   refine rR [_] L (.t1 Z) Z (h1.t h2|>.t I5.1|>.t h17|>.t h18|>.t h19) fun _ hS2=>?_
   exact ⟨by rw [hT];rfl,rfl⟩
  exfalso;omega --end
 have g34:=c4
 refine Zk<|Zt<|Zs<|Sr<|W0 Y5<|Wl 0 Y6<|qar Z Z Z<|Nt<|?_
 refine qaa Z (fun c20=>?_) (fun c20=>?_)
 ·
  have hT:=(qgf hv O out).trans (quw c20)
  refine Sr<|Wb Y5<|Wl 0 Y6<|Jc Z Z Z (qiI D _ _ _ hu) ?_
  rintro _ _ s21 h21 ⟨rfl,rfl⟩
  refine At Z Z<|Zo<|Zu<|?_
  refine rR [_] L (.t1 Z) Z (h1.t h2|>.t h21) fun _ hS2=>?_
  exact ⟨by rw [hT];rfl,rfl⟩
 refine Zk<|Zt<|Zs<|Sr<|W0 Y5<|Wl 0 Y6<|qar Z Z Z<|Nt<|?_
 refine qaa Z (fun c22=>?_) (fun c22=>?_)
 ·
  have hT:=(qgf hv O out).trans (qtm c22)
  refine Sr<|Wb Y5<|Wl 0 Y6<|At Z Z<|Zo<|Zu<|?_
  refine rR [_] L (.t1 Z) Z (h1.t h2) fun _ hS2=>?_
  exact ⟨by rw [hT];rfl,rfl⟩
 refine Zk<|Zt<|Zs<|Sr<|W0 Y5<|Wl 0 Y6<|qar Z Z Z<|Nt<|?_
 refine qaa Z (fun c23=>?_) (fun c23=>?_)
 ·
  exfalso;omega --end
 refine Zk<|Zt<|Zs<|Sr<|W0 Y5<|Wl 0 Y6<|qar Z Z Z<|Nt<|?_
 refine qaa Z (fun c24=>?_) (fun c24=>?_)
 ·
  exfalso;omega --end
 refine Zk<|Zt<|Zs<|Sr<|W0 Y5<|Wl 0 Y6<|qar Z Z Z<|Nt<|?_
 refine qaa Z (fun c25=>?_) (fun c25=>?_)
 ·
  have hT:=(qgf hv O out).trans (qs8 c25)
  refine Sr<|At Z Z<|Zo<|Zu<|?_
  refine rR [_] L (.t1 Z) Z (h1.t h2) fun _ hS2=>?_
  exact ⟨by rw [hT];rfl,rfl⟩
 refine Zk<|Zt<|Zs<|Sr<|W0 Y5<|Wl 0 Y6<|qar Z Z Z<|Nt<|?_
 refine qaa Z (fun c26=>?_) (fun c26=>?_)
 ·
  have hl1:=qfQ hv (.inr c26)
  have hop:=hka.2.2.2.2.1 c26
  obtain ⟨e,b,off,y,A1,n1,c1,rfl,rfl,hy,hcy,hay,huy,hnl⟩:=Exs.at_ (hA.le (h1.t h2)) (show 0 < n by omega)
  obtain ⟨hvy,hNy⟩:=qbW hC.2 hy
  have hT:=(qgf hv O out).trans (quj c26 hl1 hy)
  have hyl:=qfV y 9 hvy (qjg huy hay.u)
  have hsl:=qkC x.op
  refine Zs<|qay qad 10 Z _ (fun _ h=>h) ?_
  intro s27 h27
  refine za 0 Z (We Y4) Z<|za 1 Z (Wd 0 Y5) Z<|za 3 Z (We Y4) Z<|za 4 Z (Wd 0 Y5) Z<|za 5 Z (qap (j:=0) Z Z Z Z Z Z O) Z<|za 6 Z (qau Z Z Z (hcy.le h27) Z) Z<|qax 2 V<|Jb Z Tt Z Z Z (qkM D _ _ x.op O) ?_
  rintro _ _ s28 h28 ⟨rfl,rfl⟩
  refine ⟨fun _ _ h=>h,?_⟩
  refine qax 7 V<|Jb Z Tt Z Z Z (ih e Z _ _ y A1 n1 c1 9 (hay.le (h27.t h28)) huy hvy O) ?_
  rintro _ _ s29 h29 ⟨rfl,rfl⟩
  refine ⟨fun _ _ h=>h,?_⟩
  refine za 8 Z (qaf Z Z O) Z<|za 9 Z (qaM Z) Z<|qal V<|Zt<|Zo<|Zu<|?_
  refine rR [_] L (.t1 Z) Z (h1.t h2|>.t h27|>.t h28|>.t h29) fun _ hS2=>?_
  exact ⟨by rw [hT];rfl,rfl⟩
 have h7:x.kind=7:=by omega
 have hl2:=qpo hv h7
 have hop:=hka.2.2.2.2.2 h7
 obtain ⟨e,b,off,y,A1,n1,c1,rfl,rfl,hy,hcy,hay,huy,hnl⟩:=Exs.at_ (hA.le (h1.t h2)) (show 0 < n by omega)
 obtain ⟨hvy,hNy⟩:=qbW hC.2 hy
 obtain ⟨e',b',off',z,A2,n2,c2,hd2,hab,hz,hcz,haz,huz,hnz⟩:=Exs.at_ (hA.le (h1.t h2)) (show 1 < n by omega)
 cases hab
 obtain rfl:e=e':=by omega
 obtain ⟨hvz,hNz⟩:=qbW hC.2 hz
 have hT0:=qtB h7 hl2 hy hz
 rw [hT0] at hxl
 simp only [List.length_append,List.length_cons,List.length_nil] at hxl
 have hsg:=qgP x.op
 refine Zk<|Zt<|Sr<|Wb Y5<|Wl 0 Y6<|Jc Z Z Z (qsj D _ _ x.op O) ?_
 rintro _ _ s30 h30 ⟨rfl,rfl⟩
 refine At Z Z<|Zs<|qay qad 21 Z _ (fun _ h=>h) ?_
 intro s31 h31
 refine za 0 Z (We Y4) Z<|za 1 Z (Wd 0 Y5) Z<|za 2 Z (qap (j:=0) Z Z Z Z Z Z O) Z<|za 3 Z (qau Z Z Z (hcy.le (h30.t h31)) Z) Z<|za 4 Z (qan Z) Z<|za 7 Z (We Y4) Z<|za 8 Z (Wd 0 Y5) Z<|za 12 Z (We Y4) Z<|za 13 Z (Wd 0 Y5) Z<|za 14 Z (qap (j:=1) Z Z Z Z Z Z O) Z<|za 15 Z (qau Z Z Z (hcz.le (h30.t h31)) Z) Z<|za 16 Z (qan Z) Z<|za 17 Z (qaR (c:=qbB x.op+1) Z Z (by rw [w64 O O])) Z<|qax 5 V ?_
 refine Jb Z Tt Z Z Z (ih e Z _ _ y A1 n1 c1 (qbB x.op) (hay.le (h30.t h31)) huy hvy O) ?_
 rintro _ _ s32 h32 ⟨rfl,rfl⟩
 refine ⟨fun _ _ h=>h,?_⟩
 refine za 6 Z (qaf Z Z Uo) Z<|qax 9 V<|Jb Z Tt Z Z Z (qkM D _ _ x.op O) ?_
 rintro _ _ s33 h33 ⟨rfl,rfl⟩
 refine ⟨fun _ _ h=>h,?_⟩
 refine za 10 Z (qaf Z Z Uo) Z<|za 11 Z (qaf Z Z Uo) Z<|qax 18 V<|Jb Z Tt Z Z Z (ih e Z _ _ z A2 n2 c2 (qbB x.op+1) (haz.le (h30.t h31|>.t h32|>.t h33)) huz hvz O) ?_
 rintro _ _ s34 h34 ⟨rfl,rfl⟩
 refine ⟨fun _ _ h=>h,?_⟩
 refine za 19 Z (qaf Z Z Uo) Z<|za 20 Z (qaM Z) Z<|qal V<|Zt<|Zs<|Sr<|Zqm Z Z<|Zqm Z Z<|qbh Z Z Z<|Nt<|?_
 refine qaa Z (fun c35=>?_) (fun c35=>?_)
 ·
  have hT:=(quc hv h7 c35).trans (by rw [hT0])
  refine Sr<|Zqm Z Z<|qac (qaf Z Z Uo) Z<|qac (qaf Z Z Uo) Z<|At Z Z<|Zo<|Zu<|?_
  refine rR [_] L (.t1 Z) Z (h1.t h2|>.t h30|>.t h31|>.t h32|>.t h33|>.t h34) fun _ hS2=>?_
  exact ⟨by rw [hT];rfl,rfl⟩
 have hT:=(quu hv h7 c35).trans hT0
 refine Zk<|Zt<|Sr<|Zqm Z Z<|At Z Z<|Zo<|?_
 refine rR [_] L (.t1 Z) Z (h1.t h2|>.t h30|>.t h31|>.t h32|>.t h33|>.t h34) fun _ hS2=>?_
 exact ⟨by rw [hT];rfl,rfl⟩
theorem qpD(D:Nat):∀ d,EXR D d
 | 0=>fun L s x A n c out hA hu hv hN=>qiY D 0 (fun e h=>by omega) L s x A n c out hA hu hv hN
 | d+1=>fun L s x A n c out hA hu hv hN=>qiY D (d+1) (fun e h=>(show d=e by omega)▸qpD D d) L s x A n c out hA hu hv hN
def RTC(D d:Nat):Prop:=∀ (L:Hl) (s:World) (x:Stm) (A1 A2 A3:Option Addr) (n1 q1 n2 q2 n3 q3:Nat) (lv:Nat),Exs d s A1 n1 q1 x.exprs→Stms d s A2 n2 q2 x.body→Stms d s A3 n3 q3 x.els→stV x lv=true→stN x≤2000→AC prog D 136 [.agg #[.int .i64 x.kind,St x.name,.slice A1 n1 q1,.slice A2 n2 q2,.slice A3 n3 q3],.int .i64 (lv:Int)] L s fun v L' _=>v=St (stT x lv)∧L=L'
def RSS(D d:Nat):Prop:=∀ (L:Hl) (s:World) (A:Option Addr) (n c:Nat) (xs:List Stm) (lv:Nat),Stms d s A n c xs→qdN xs lv=true→qch xs≤2000→lv≤17→AC prog D 103 [.slice A n c,.int .i64 (lv:Int)] L s fun v L' _=>v=St (qdc xs lv)∧L=L'
theorem qff{l:List Str}{i:Nat}{w:Str}(h:l[i]?=some w):w.length+2≤qf4 l:=by
 induction l generalizing i with
 | nil=>cases h
 | cons x r ih=>
  rw [qbE]
  cases i with
  | zero=>simp at h;subst h;omega
  | succ i=>have:=ih (by simpa using h);omega
theorem qmq{xs:List Stm}{k lv:Nat}{x:Stm}(h:xs[k]?=some x):qdc (xs.take (k+1)) lv=qdc (xs.take k) lv++qaO lv++stT x lv:=by
 induction xs generalizing k with
 | nil=>cases h
 | cons y r ih=>
  cases k with
  | zero=>simp at h;subst h;simp [qdc]
  | succ k=>rw [List.take_succ_cons,List.take_succ_cons,qdc,qdc,ih (by simpa using h)];simp
theorem qkT{xs:List Stm}{lv:Nat}(k:Nat):(qdc (xs.take k) lv).length≤(qdc xs lv).length:=by
 induction xs generalizing k with
 | nil=>simp
 | cons y r ih=>
  cases k with
  | zero=>simp [qdc]
  | succ k=>have:=ih k;rw [List.take_succ_cons,qdc,qdc];simp only [List.length_append];omega
section
variable{x z:Stm}{lv:Nat}{w0 w1 wd:Str}
theorem rt_1(h:x.kind=1)(h0:(qdt x.exprs [])[0]?=some w0):stT x lv=x.name++[32,61,32]++w0++[59,10]:=by
 rw [qd4 O,qf5,if_pos h,List.getD,h0];rfl
theorem rt_2(h:x.kind=2)(h0:(qdt x.exprs [])[0]?=some w0)(h1:(qdt x.exprs [])[1]?=some w1):stT x lv=x.name++[91]++w0++[93,32,61,32]++w1++[59,10]:=by
 rw [qd4 O,qf5,if_neg O,if_pos h,List.getD,h0,List.getD,h1];rfl
theorem rt_5(h:x.kind=5):stT x lv=x.name++[40]++qaV (qdt x.exprs [])++[41,59,10]:=by
 rw [qd4 O,qf5,if_neg O,if_neg O,if_pos h]
theorem rt_6(h:x.kind=6):stT x lv=[114,101,116,117,114,110,32]++qaV (qdt x.exprs [])++[59,10]:=by
 rw [qd4 O,qf5,if_neg O,if_neg O,if_neg O,if_pos h]
theorem rt_7(h:x.kind=7):stT x lv=[112,117,116,32]++qaV (qdt x.exprs [])++[59,10]:=by
 rw [qd4 O,qf5,if_neg O,if_neg O,if_neg O,if_neg O,if_pos h]
theorem rt_8(h:x.kind=8):stT x lv=[115,116,111,112,32]++qaV (qdt x.exprs [])++[59,10]:=by
 rw [qd4 O,qf5,if_neg O,if_neg O,if_neg O,if_neg O,if_neg O,if_pos h]
theorem rt_9(h:x.kind=9):stT x lv=[98,114,101,97,107]++qaV (qdt x.exprs [])++[59,10]:=by
 rw [qd4 O,qf5,if_neg O,if_neg O,if_neg O,if_neg O,if_neg O,if_neg O,if_pos h]
theorem quY(h:x.kind=10):stT x lv=[99,111,110,116,105,110,117,101]++qaV (qdt x.exprs [])++[59,10]:=by
 rw [qd4 O,qf5,if_neg O,if_neg O,if_neg O,if_neg O,if_neg O,if_neg O,if_neg O]
theorem qvJ(h:x.kind=3∨x.kind=4)(h0:(qdt x.exprs [])[0]?=some w0)(hw:(if x.kind=3 then [105,102] else [119,104,105,108,101])=wd):stT x lv=wd++[32,40]++w0++[41,32,123,10]++qdc x.body (lv+1)++qaO lv++[125]++(if x.els.isEmpty=true then [10] else if qmy x.els=true then [32,101,108,115,101,32]++st1 x.els lv else [32,101,108,115,101,32,123,10]++qdc x.els (lv+1)++qaO lv++[125,10]):=by
 cases x with
 | mk k nm es b e=>
  have h:k=3∨k=4:=h
  have h0:(qdt es [])[0]?=some w0:=h0
  have hw:(if k=3 then [105,102] else [119,104,105,108,101])=wd:=hw
  simp only [stT];rw [if_pos h,hw,List.getD,h0];rfl
theorem rt_a(h:x.kind=3∨x.kind=4)(h0:(qdt x.exprs [])[0]?=some w0)(hw:(if x.kind=3 then [105,102] else [119,104,105,108,101])=wd)(he:x.els=[]):stT x lv=wd++[32,40]++w0++[41,32,123,10]++qdc x.body (lv+1)++qaO lv++[125]++[10]:=by
 rw [qvJ h h0 hw,he];rfl
theorem rt_b(h:x.kind=3∨x.kind=4)(h0:(qdt x.exprs [])[0]?=some w0)(hw:(if x.kind=3 then [105,102] else [119,104,105,108,101])=wd)(hl:x.els.length=1)(hz:x.els[0]?=some z)(hk:z.kind=3):stT x lv=wd++[32,40]++w0++[41,32,123,10]++qdc x.body (lv+1)++qaO lv++[125]++[32,101,108,115,101,32]++stT z lv:=by
 rw [qvJ h h0 hw,qj3 hl hz]
 cases z with
 | mk k nm es b l=>
  have hk:k=3:=hk
  rw [if_neg (by simp),if_pos (by simp [qmy,hk])];simp [st1]
theorem rt_c(h:x.kind=3∨x.kind=4)(h0:(qdt x.exprs [])[0]?=some w0)(hw:(if x.kind=3 then [105,102] else [119,104,105,108,101])=wd)(hl:x.els.length≠0)(hn:¬ (x.els.length=1∧∀ z,x.els[0]?=some z→z.kind=3)):stT x lv=wd++[32,40]++w0++[41,32,123,10]++qdc x.body (lv+1)++qaO lv++[125]++[32,101,108,115,101,32,123,10]++qdc x.els (lv+1)++qaO lv++[125,10]:=by
  rw [qvJ h h0 hw,if_neg (by intro g;exact hl (by simpa using g)),if_neg]
  · simp
  · intro g
    match he:x.els,g with
    | [.mk k nm es b l],g=>exact hn ⟨by rw [he];rfl,fun z hz=>by rw [he] at hz;simp at hz;subst hz;show k=3;simpa [qmy] using g⟩
end
theorem qjw(D d:Nat)(ih:∀ e,d=e+1→RTC D e)(L:Hl)(s:World)(A:Option Addr)(n c:Nat)(xs:List Stm)(lv:Nat)(hA:Stms d s A n c xs)(hv:qdN xs lv=true)(hN:qch xs≤2000)(hlv:lv≤17):AC prog D 103 [.slice A n c,.int .i64 (lv:Int)] L s fun v L' _=>v=St (qdc xs lv)∧L=L':=by
 have hn:=hA.1
 have hc1:=hA.2.1
 have hc2:=hA.2.2.1
 have hml:=qbL lv
 have htl:=qcB xs lv hv hA.u
 refine qai (fn:=f103) qao func103 V Z ntmps103 Z (rs:=[.tmp 4]) Z [(0,_),(1,_)] Z<|Sr<|At Z Z<|Sr<|At Z Z<|Zs<|Sr<|At Z Z<|Zp<|qav (γ:=Nat) (fun k=>[(0,_),(1,_),(4,_),(5,St (qdc (xs.take k) lv)),(6,.int .i64 (k:Int))]) (fun _=>_) (fun k tw=>Le D s tw∧(k≤n)) (fun k=>n - k) (fun _ _ _ h hl=>⟨h.1.trans hl,h.2⟩) 0 (.c5 Z Z Z Z Z (.nil _)) Z ⟨Le.refl _,Nat.zero_le _⟩ ?_
 intro k s1 I1
 have hk0:=I1.2
 have htk:=qkT (xs:=xs) (lv:=lv) k
 refine Zs<|Sr<|Zqm Z Z<|Zqm Z Z<|Ws Y4<|qbh Z Z Z<|Nt<|?_
 refine qaa Z (fun c2=>?_) (fun c2=>?_)
 ·
  have hk:k < n:=by omega
  obtain ⟨e,b,off,x,A1,n1,p1,A2,n2,p2,A3,n3,p3,hd,rfl,hx,hcx,hax,hbx,hex,hnl⟩:=Stms.at_ (hA.le I1.1) hk
  obtain ⟨hvx,hNx⟩:=qdy hv hx
  have hxs:=qfD x lv hvx (Stms.u_at hA.u hx)
  refine Zk<|Zt<|Zs<|Zp<|qay qad 12 Z _ (fun _ h=>h) ?_
  intro s3 h3
  refine za 0 Z (qan Z) Z<|za 1 Z (qan Z) Z<|za 4 Z (qan Z) Z<|za 5 Z (qan Z) Z<|za 6 Z (qap Z Z Z Z Z Z hk) Z<|za 7 Z (qau Z Z Z (hcx.le h3) Z) Z<|za 8 Z (qan Z) Z<|qax 2 V<|Jb Z Tt Z Z Z (qfX D _ _ lv O) ?_
  rintro _ _ s4 h4 ⟨rfl,rfl⟩
  refine ⟨fun _ _ h=>h,?_⟩
  refine za 3 Z (qaf Z Z Ut) Z<|qax 9 V<|Jb Z Tt Z Z Z (ih e hd _ _ x A1 A2 A3 n1 p1 n2 p2 n3 p3 lv (hax.le (h3.t h4)) (hbx.le (h3.t h4)) (hex.le (h3.t h4)) hvx O) ?_
  rintro _ _ s5 h5 ⟨rfl,rfl⟩
  refine ⟨fun _ _ h=>h,?_⟩
  refine za 10 Z (qaf Z Z Ut) Z<|za 11 Z (qaM Z) Z<|qal V<|Zb<|Zt<|Zr<|Zqm Z Z<|qaF Z Z Z (w64 O O)<|Zqa Z Z<|Zn<|?_
  refine qab ⟨(k+1),[],(.c3 Z Z Z (.cons (congrArg (fun l=>some (St l)) (qmq hx).symm) kp)),Z,⟨(I1.1.t h3|>.t h4|>.t h5),(show k+1≤n by omega)⟩,O⟩
 obtain rfl:k=n:=by omega
 refine Zl<|Zv<|Zv<|Zd<|Zt<|Sr<|Zqm Z Z<|At Z Z<|Zo<|?_
 refine rR [] L (.t1 Z) Z I1.1 fun _ hS2=>?_
 exact ⟨by rw [List.take_of_length_le O];rfl,rfl⟩
theorem qoB(k:Int):qcA k≤6:=by
 unfold qcA
 repeat' split
 all_goals decide
theorem qiH(D d:Nat)(hB:RSS D d)(ih:∀ e,d=e+1→RTC D e)(L:Hl)(s:World)(x:Stm)(A1 A2 A3:Option Addr)(n1 q1 n2 q2 n3 q3:Nat)(lv:Nat)(hA1:Exs d s A1 n1 q1 x.exprs)(hA2:Stms d s A2 n2 q2 x.body)(hA3:Stms d s A3 n3 q3 x.els)(hv:stV x lv=true)(hN:stN x≤2000):AC prog D 136 [.agg #[.int .i64 x.kind,St x.name,.slice A1 n1 q1,.slice A2 n2 q2,.slice A3 n3 q3],.int .i64 (lv:Int)] L s fun v L' _=>v=St (stT x lv)∧L=L':=by
 have hn:=hA1.1
 have hn3:=hA3.1
 have hq:=hA1.2.1
 have hq9:=hA1.2.2.1
 have hml:=qbL lv
 obtain ⟨hlv,hC,hvE,hvB,hvL⟩:=qcI hv
 have hka:=qcl hC
 have hNs:=qpG x
 have htw:=qdp x.exprs [] hvE hA1.u
 have hbl:=qcB x.body (lv+1) hvB hA2.u
 have hel:=qcB x.els (lv+1) hvL hA3.u
 have hnm:=qiX hC
 have hn6:n1≤6:=by have h:=hka.2.2.2.1;have:=qoB x.kind;omega
 refine qai (fn:=f136) qao func136 V Z ntmps136 Z (rs:=[.tmp 4]) Z [(0,_),(1,_)] Z<|Sr<|qaq Z Z ?_
 intro β1 s1 h1
 refine At Z Z<|Sr<|At Z Z<|Zs<|Sr<|At Z Z<|Zp<|qav (γ:=Nat×Value×Hl) (fun g=>[(1,_),(2,_),(4,_),(5,g.2.1),(6,.int .i64 (g.1:Int))]) (fun g=>_::(g.2.2++L)) (fun g tw=>Le D s1 tw∧(g.1≤n1∧FL.Own 9 1 g.2.2 g.2.1 g.1 (sb ((x.exprs.take g.1).map fun x=>exT x 0)))) (fun g=>n1 - g.1) (fun _ _ _ h hl=>⟨h.1.trans hl,h.2⟩) (0,.slice none 0 0,[]) (.c5 Z Z Z Z Z (.nil _)) Z ⟨Le.refl _,⟨Nat.zero_le _,Own.nil⟩⟩ ?_
 intro g s2 I2
 obtain ⟨k,vo,Mo⟩:=g
 obtain ⟨hk0,hO⟩:=I2.2
 simp only at hk0 hO
 dsimp only
 refine Zs<|Sr<|Zqm Z Z<|Wb Y5<|Wl 0 Y6<|Ws Y4<|qbh Z Z Z<|Nt<|?_
 refine qaa Z (fun c3=>?_) (fun c3=>?_)
 ·
  have hk:k < n1:=by omega
  obtain ⟨e,b,off,y,A',n',c',hd,rfl,hx,hcy,hay,huy,hnl⟩:=Exs.at_ (hA1.le (h1.t I2.1)) hk
  obtain ⟨hvy,hNy⟩:=qbW hvE hx
  refine Zk<|Zt<|Zs<|Zp<|Zr<|Zqm Z Z<|Wb Y5<|Wl 0 Y6<|Zqm Z Z<|qac (qap Z Z Z Z Z Z hk) Z<|qac (qau Z Z Z (hcy.le (Lr D)) Z) Z<|Jc Z Z Z (qpD D e _ _ y A' n' c' 0 (hay.le (Lr D)) huy hvy O) ?_
  rintro _ _ s4 h4 ⟨rfl,rfl⟩
  refine qbk [(_,_)] [_] Z Z Z Z Z Z Z Z Z ?_
  intro βn s5 h5 hcb
  refine qba (sz:=1) [_] Mo L Z Z Z Z Z Z Z hO (Row.of_cells (hcb.le (Lr D)) Z Z) ⟨by simp [ti9];omega,by omega⟩ Z ?_
  intro vq Mq s6 h6 oq
  obtain ⟨Avq,cvq,rfl,_,_⟩:=Own.slice oq
  simp only [cQ9,nQ9]
  refine Zqa Z Z<|Zn<|Zb<|Zt<|Zr<|Zqm Z Z<|qaF Z Z Z (w64 O O)<|Zqa Z Z<|Zn<|?_
  refine qab ⟨(k+1,.slice Avq (k+1) cvq,Mq),[],kp,Z,⟨(I2.1.t h4|>.t h5|>.t h6),⟨by simp only;omega,by rw [qaI (fun x=>exT x 0) hx,qc1];exact oq⟩⟩,Oz⟩
 obtain rfl:n1=k:=by omega
 rw [List.take_of_length_le O] at hO
 obtain ⟨Ao,co,rfl,_,_⟩:=Own.slice hO
 refine Zl<|Zv<|Zv<|Zd<|Zt<|Zs<|Zs<|qbC [_] Mo _ ?_
 intro s7 h7 hpub7
 simp only [cQ9,nQ9]
 have hSt:=Own.strs hO (qfm hvE hA1.u O) hpub7 (by rw [List.length_map];omega)
 refine Zr<|W0 Y5<|Wl 0 Y6<|qar Z Z Z<|Nt<|?_
 refine qaa Z (fun c8=>?_) (fun c8=>?_)
 ·
  have hl1:=qhq hv (.inl c8)
  obtain ⟨b0,o0,w0,hb0,hw0,hcw,hwl⟩:=Strs.at_ (hSt.le (Lr D)) (show 0 < n1 by omega)
  cases hb0
  rw [← qbI] at hw0
  have hg0:=qff hw0
  have hT:=rt_1 (lv:=lv) c8 hw0
  refine Zs<|qay qad 9 Z _ (fun _ h=>h) ?_
  intro s9 h9
  refine za 0 Z (We Y4) Z<|za 1 Z (Wd 0 Y5) Z<|za 2 Z (qaf Z Z Uo) Z<|za 3 Z (qan Z) Z<|za 4 Z (qas (j:=0) Z Z Z Z Z Z (show 0 < n1 by omega)) Z<|za 5 Z (qah Z Z Z (hcw.le h9) Z) Z<|za 6 Z (qaf Z Z Uo) Z<|za 7 Z (qaf Z Z Uo) Z<|za 8 Z (qaM Z) Z<|qal V<|Zt<|Zo<|Zu<|?_
  refine rR [_] L (.t1 Z) Z (h1.t I2.1|>.t h7|>.t h9) fun _ hS2=>?_
  exact ⟨by rw [hT];rfl,rfl⟩
 refine Zk<|Zt<|Zs<|Sr<|W0 Y5<|Wl 0 Y6<|qar Z Z Z<|Nt<|?_
 refine qaa Z (fun c10=>?_) (fun c10=>?_)
 ·
  have hl1:=qud hv c10
  obtain ⟨b0,o0,w0,hb0,hw0,hcw,hwl⟩:=Strs.at_ (hSt.le (Lr D)) (show 0 < n1 by omega)
  cases hb0
  rw [← qbI] at hw0
  have hg0:=qff hw0
  obtain ⟨b1,o1,w1,hb1,hw1,hcw1,hwl1⟩:=Strs.at_ (hSt.le (Lr D)) (show 1 < n1 by omega)
  cases hb1
  rw [← qbI] at hw1
  have hg1:=qff hw1
  have hT:=rt_2 (lv:=lv) c10 hw0 hw1
  refine Zs<|qay qad 14 Z _ (fun _ h=>h) ?_
  intro s11 h11
  refine za 0 Z (We Y4) Z<|za 1 Z (Wd 0 Y5) Z<|za 2 Z (qaf Z Z Uo) Z<|za 3 Z (qan Z) Z<|za 4 Z (qas (j:=0) Z Z Z Z Z Z (show 0 < n1 by omega)) Z<|za 5 Z (qah Z Z Z (hcw.le h11) Z) Z<|za 6 Z (qaf Z Z Uo) Z<|za 7 Z (qaf Z Z Uo) Z<|za 8 Z (qan Z) Z<|za 9 Z (qas (j:=1) Z Z Z Z Z Z (show 1 < n1 by omega)) Z<|za 10 Z (qah Z Z Z (hcw1.le h11) Z) Z<|za 11 Z (qaf Z Z Uo) Z<|za 12 Z (qaf Z Z Uo) Z<|za 13 Z (qaM Z) Z<|qal V<|Zt<|Zo<|Zu<|?_
  refine rR [_] L (.t1 Z) Z (h1.t I2.1|>.t h7|>.t h11) fun _ hS2=>?_
  exact ⟨by rw [hT];rfl,rfl⟩
 refine Zk<|Zt<|Zs<|Sr<|W0 Y5<|Wl 0 Y6<|qar Z Z Z<|Nt<|?_
 refine qaa Z (fun c12=>?_) (fun c12=>?_)
 ·
  have hT:=rt_5 (lv:=lv) c12
  rw [qbI] at hT htw
  have hcl:=qbf (x.exprs.map fun x=>exT x 0)
  refine Zs<|qay qad 8 Z _ (fun _ h=>h) ?_
  intro s13 h13
  refine za 0 Z (We Y4) Z<|za 1 Z (Wd 0 Y5) Z<|za 2 Z (qaf Z Z Uo) Z<|za 3 Z (qan Z) Z<|qax 4 V<|Jb Z Tt Z Z Z (qcJ D _ _ Ao _ co (x.exprs.map fun x=>exT x 0) (hSt.le h13) O) ?_
  rintro _ _ s14 h14 ⟨rfl,rfl⟩
  refine ⟨fun _ _ h=>h,?_⟩
  refine za 5 Z (qaf Z Z Uo) Z<|za 6 Z (qaf Z Z Uo) Z<|za 7 Z (qaM Z) Z<|qal V<|Zt<|Zo<|Zu<|?_
  refine rR [_] L (.t1 Z) Z (h1.t I2.1|>.t h7|>.t h13|>.t h14) fun _ hS2=>?_
  exact ⟨by rw [hT];rfl,rfl⟩
 refine Zk<|Zt<|Zs<|Sr<|W0 Y5<|Wl 0 Y6<|qbv Z Z Z<|Nt<|?_
 refine qaa Z (fun c15=>?_) (fun c15=>?_)
 ·
  rw [qbI] at htw
  have hcl:=qbf (x.exprs.map fun x=>exT x 0)
  refine Sr<|qbk [(_,_),(_,_),(_,_),(_,_),(_,_)] [_,_,_,_,_] Z Z Z Z Z Z Z Z Z ?_
  intro βr s16 h16 hcr
  refine At Z Z<|Zs<|?_
  rcases (show x.kind=6∨x.kind=7∨x.kind=8∨x.kind=9∨x.kind=10 by omega) with gk6 | gk7 | gk8 | gk9 | gk10
  ·
   have hT:=rt_6 (lv:=lv) gk6
   rw [qbI] at hT
   refine qay qad 11 Z _ (fun _ h=>h) ?_
   intro s17 h17
   refine za 0 Z (qan Z) Z<|za 1 Z (qbp Z Z Z Z) Z<|za 2 Z (Wd 0 Y5) Z<|za 3 Z (qbd (c:=((0:Nat):Int)) Z Z (by rw [w64 O O];omega)) Z<|za 4 Z (qas Z Z Z Z Z Z (show 0 < 5 by omega)) Z<|za 5 Z (qah Z Z Z (hcr.le h17) Z) Z<|za 6 Z (qan Z) Z<|qax 7 V<|Jb Z Tt Z Z Z (qcJ D _ _ Ao _ co (x.exprs.map fun x=>exT x 0) (hSt.le (h16.t h17)) O) ?_
   rintro _ _ s18 h18 ⟨rfl,rfl⟩
   refine ⟨fun _ _ h=>h,?_⟩
   refine za 8 Z (qaf Z Z Uo) Z<|za 9 Z (qaf Z Z Uo) Z<|za 10 Z (qaM Z) Z<|qal V<|Zt<|Zo<|Zu<|?_
   refine rR [_] L (.t1 Z) Z (h1.t I2.1|>.t h7|>.t h16|>.t h17|>.t h18) fun _ hS2=>?_
   exact ⟨by rw [hT];rfl,rfl⟩
  ·
   have hT:=rt_7 (lv:=lv) gk7
   rw [qbI] at hT
   refine qay qad 11 Z _ (fun _ h=>h) ?_
   intro s19 h19
   refine za 0 Z (qan Z) Z<|za 1 Z (qbp Z Z Z Z) Z<|za 2 Z (Wd 0 Y5) Z<|za 3 Z (qbd (c:=((1:Nat):Int)) Z Z (by rw [w64 O O];omega)) Z<|za 4 Z (qas Z Z Z Z Z Z (show 1 < 5 by omega)) Z<|za 5 Z (qaC 1 Z Z Z (hcr.le h19) Z) Z<|za 6 Z (qan Z) Z<|qax 7 V<|Jb Z Tt Z Z Z (qcJ D _ _ Ao _ co (x.exprs.map fun x=>exT x 0) (hSt.le (h16.t h19)) O) ?_
   rintro _ _ s20 h20 ⟨rfl,rfl⟩
   refine ⟨fun _ _ h=>h,?_⟩
   refine za 8 Z (qaf Z Z Uo) Z<|za 9 Z (qaf Z Z Uo) Z<|za 10 Z (qaM Z) Z<|qal V<|Zt<|Zo<|Zu<|?_
   refine rR [_] L (.t1 Z) Z (h1.t I2.1|>.t h7|>.t h16|>.t h19|>.t h20) fun _ hS2=>?_
   exact ⟨by rw [hT];rfl,rfl⟩
  ·
   have hT:=rt_8 (lv:=lv) gk8
   rw [qbI] at hT
   refine qay qad 11 Z _ (fun _ h=>h) ?_
   intro s21 h21
   refine za 0 Z (qan Z) Z<|za 1 Z (qbp Z Z Z Z) Z<|za 2 Z (Wd 0 Y5) Z<|za 3 Z (qbd (c:=((2:Nat):Int)) Z Z (by rw [w64 O O];omega)) Z<|za 4 Z (qas Z Z Z Z Z Z (show 2 < 5 by omega)) Z<|za 5 Z (qaC 2 Z Z Z (hcr.le h21) Z) Z<|za 6 Z (qan Z) Z<|qax 7 V<|Jb Z Tt Z Z Z (qcJ D _ _ Ao _ co (x.exprs.map fun x=>exT x 0) (hSt.le (h16.t h21)) O) ?_
   rintro _ _ s22 h22 ⟨rfl,rfl⟩
   refine ⟨fun _ _ h=>h,?_⟩
   refine za 8 Z (qaf Z Z Uo) Z<|za 9 Z (qaf Z Z Uo) Z<|za 10 Z (qaM Z) Z<|qal V<|Zt<|Zo<|Zu<|?_
   refine rR [_] L (.t1 Z) Z (h1.t I2.1|>.t h7|>.t h16|>.t h21|>.t h22) fun _ hS2=>?_
   exact ⟨by rw [hT];rfl,rfl⟩
  ·
   have hT:=rt_9 (lv:=lv) gk9
   rw [qbI] at hT
   refine qay qad 11 Z _ (fun _ h=>h) ?_
   intro s23 h23
   refine za 0 Z (qan Z) Z<|za 1 Z (qbp Z Z Z Z) Z<|za 2 Z (Wd 0 Y5) Z<|za 3 Z (qbd (c:=((3:Nat):Int)) Z Z (by rw [w64 O O];omega)) Z<|za 4 Z (qas Z Z Z Z Z Z (show 3 < 5 by omega)) Z<|za 5 Z (qaC 3 Z Z Z (hcr.le h23) Z) Z<|za 6 Z (qan Z) Z<|qax 7 V<|Jb Z Tt Z Z Z (qcJ D _ _ Ao _ co (x.exprs.map fun x=>exT x 0) (hSt.le (h16.t h23)) O) ?_
   rintro _ _ s24 h24 ⟨rfl,rfl⟩
   refine ⟨fun _ _ h=>h,?_⟩
   refine za 8 Z (qaf Z Z Uo) Z<|za 9 Z (qaf Z Z Uo) Z<|za 10 Z (qaM Z) Z<|qal V<|Zt<|Zo<|Zu<|?_
   refine rR [_] L (.t1 Z) Z (h1.t I2.1|>.t h7|>.t h16|>.t h23|>.t h24) fun _ hS2=>?_
   exact ⟨by rw [hT];rfl,rfl⟩
  have hT:=quY (lv:=lv) gk10
  rw [qbI] at hT
  refine qay qad 11 Z _ (fun _ h=>h) ?_
  intro s25 h25
  refine za 0 Z (qan Z) Z<|za 1 Z (qbp Z Z Z Z) Z<|za 2 Z (Wd 0 Y5) Z<|za 3 Z (qbd (c:=((4:Nat):Int)) Z Z (by rw [w64 O O];omega)) Z<|za 4 Z (qas Z Z Z Z Z Z (show 4 < 5 by omega)) Z<|za 5 Z (qaC 4 Z Z Z (hcr.le h25) Z) Z<|za 6 Z (qan Z) Z<|qax 7 V<|Jb Z Tt Z Z Z (qcJ D _ _ Ao _ co (x.exprs.map fun x=>exT x 0) (hSt.le (h16.t h25)) O) ?_
  rintro _ _ s26 h26 ⟨rfl,rfl⟩
  refine ⟨fun _ _ h=>h,?_⟩
  refine za 8 Z (qaf Z Z Uo) Z<|za 9 Z (qaf Z Z Uo) Z<|za 10 Z (qaM Z) Z<|qal V<|Zt<|Zo<|Zu<|?_
  refine rR [_] L (.t1 Z) Z (h1.t I2.1|>.t h7|>.t h16|>.t h25|>.t h26) fun _ hS2=>?_
  exact ⟨by rw [hT];rfl,rfl⟩
 have h34:x.kind=3∨x.kind=4:=by omega
 have hl1:=qhq hv (h34.elim (fun h=>.inr (.inl h)) (fun h=>.inr (.inr (.inl h))))
 obtain ⟨b0,o0,w0,hb0,hw0,hcw,hwl⟩:=Strs.at_ (hSt.le (Lr D)) (show 0 < n1 by omega)
 cases hb0
 rw [← qbI] at hw0
 have hg0:=qff hw0
      
 refine Zk<|Zt<|Sr<|At Z Z<|Zs<|Sr<|W0 Y5<|Wl 0 Y6<|qar Z Z Z<|Nt<|?_
 refine qaa Z (fun c27=>?_) (fun c27=>?_)
 ·
  have hwd:(if x.kind=3 then [105,102] else [119,104,105,108,101])=([105,102]:Str):=if_pos c27
  refine Zr<|At Z Z<|Zs<|qay qad 18 Z _ (fun _ h=>h) ?_
  intro s28 h28
  refine za 0 Z (qan Z) Z<|za 1 Z (qaf Z Z Uo) Z<|za 2 Z (qan Z) Z<|za 3 Z (qas (j:=0) Z Z Z Z Z Z (show 0 < n1 by omega)) Z<|za 4 Z (qah Z Z Z (hcw.le h28) Z) Z<|za 5 Z (qaf Z Z Uo) Z<|za 6 Z (qaf Z Z Uo) Z<|za 7 Z (We Y4) Z<|za 8 Z (Wd 0 Y5) Z<|za 9 Z (qan Z) Z<|za 10 Z (qaR Z Z (show IntKind.i64.wrap ((lv:Int)+1)=((lv+1:Nat):Int) by rw [w64 O O];simp)) Z<|za 13 Z (qan Z) Z<|qax 11 V<|Jb Z Tt Z Z Z (hB _ _ A2 n2 q2 x.body (lv+1) (hA2.le (h1.t I2.1|>.t h7|>.t h28)) hvB O O) ?_
  rintro _ _ s29 h29 ⟨rfl,rfl⟩
  refine ⟨fun _ _ h=>h,?_⟩
  refine za 12 Z (qaf Z Z Uo) Z<|qax 14 V<|Jb Z Tt Z Z Z (qfX D _ _ lv O) ?_
  rintro _ _ s30 h30 ⟨rfl,rfl⟩
  refine ⟨fun _ _ h=>h,?_⟩
  refine za 15 Z (qaf Z Z Uo) Z<|za 16 Z (qaf Z Z Uo) Z<|za 17 Z (qaM Z) Z<|qal V<|Zt<|Zs<|Sr<|Wb Y5<|Wl 0 Y6<|Ws Y4<|qar Z Z Z<|Nt<|?_
  refine qaa Z (fun c31=>?_) (fun c31=>?_)
  ·
   have hT:=rt_a h34 hw0 hwd (List.eq_nil_of_length_eq_zero O) (lv:=lv)
   refine Sr<|Zqm Z Z<|qac (qaf Z Z Uo) Z<|At Z Z<|Zo<|Zu<|?_
   refine rR [_] L (.t1 Z) Z (h1.t I2.1|>.t h7|>.t h28|>.t h29|>.t h30) fun _ hS2=>?_
   exact ⟨by rw [hT];rfl,rfl⟩
  have g0:x.els.length≠0:=by omega
  obtain ⟨e,b,off,z,B1,m1,d1,B2,m2,d2,B3,m3,d3,hd,rfl,hz,hcz,haz,hbz,hez,hnlz⟩:=Stms.at_ (hA3.le (h1.t I2.1|>.t h7|>.t h28|>.t h29|>.t h30)) (show 0 < n3 by omega)
  obtain ⟨hvz,hNz⟩:=qdy hvL hz
  refine Zk<|Zt<|Zs<|?_
  refine qaU 114 (n3=1∧z.kind=3) ?_ ?_
  ·
   refine Zr<|Wb Y5<|Wl 0 Y6<|Ws Y4<|qar Z Z Z<|Zqm Z Z<|?_
   refine qak (t:=107) Z (fun c33=>?_) (fun c33=>?_)
   ·
    refine Zg Z Z<|Wb Y5<|Zg Z Z<|Wl 0 Y6<|Zg Z Z<|qac (qap (j:=0) Z Z Z Z Z Z O) Z<|Zg Z Z<|W0 Y5<|Zg Z Z<|qac (qah Z Z Z (hcz.le (Lr D)) Z) Z<|Zg Z Z<|qar Z Z Z<|ZqT Z Z Z<|Zn<|?_
    refine qab (MidB.mk (Lr D) Sb Z (decide_eq_decide.2 O))
   refine Wf Y4<|Wf Y4<|Wf Y4<|Wf Y4<|Wf Y4<|Wf Y4<|ZqF Z Z Z<|Zn<|?_
   refine qab (MidB.mk (Lr D) Sb Z ((decide_eq_false O).symm))
  intro s32 h32
  refine qaa Z (fun c34=>?_) (fun c34=>?_)
  ·
   have g3:=c34
   have hT:=rt_b h34 hw0 hwd O hz g3.2 (lv:=lv)
   have hvz2:=qem z lv (lv+1) O hvz
   have hzl:=qfD z lv hvz2 (Stms.u_at hA3.u hz)
   refine Sr<|Zqm Z Z<|qac (qaf Z Z Uo) Z<|Wb Y5<|Wl 0 Y6<|qac (qap (j:=0) Z Z Z Z Z Z O) Z<|qac (qau Z Z Z (hcz.le h32) Z) Z<|Zqm Z Z<|Jc Z Z Z (ih e hd _ _ z B1 B2 B3 m1 d1 m2 d2 m3 d3 lv (haz.le h32) (hbz.le h32) (hez.le h32) hvz2 O) ?_
   rintro _ _ s35 h35 ⟨rfl,rfl⟩
   refine qac (qaf Z Z Uo) Z<|At Z Z<|Zo<|Zu<|?_
   refine rR [_] L (.t1 Z) Z (h1.t I2.1|>.t h7|>.t h28|>.t h29|>.t h30|>.t h32|>.t h35) fun _ hS2=>?_
   exact ⟨by rw [hT];rfl,rfl⟩
  have g3:=c34
  have hT:=rt_c h34 hw0 hwd g0 (fun h=>g3 ⟨by omega,h.2 z hz⟩) (lv:=lv)
  refine Zk<|Zt<|Sr<|Zqm Z Z<|qac (qaf Z Z Uo) Z<|Wb Y5<|Wl 0 Y6<|Zqm Z Z<|qac (qaR Z Z (show IntKind.i64.wrap ((lv:Int)+1)=((lv+1:Nat):Int) by rw [w64 O O];simp)) Z<|Jc Z Z Z (hB _ _ _ n3 q3 x.els (lv+1) (hA3.le (h1.t I2.1|>.t h7|>.t h28|>.t h29|>.t h30|>.t h32)) hvL O O) ?_
  rintro _ _ s36 h36 ⟨rfl,rfl⟩
  refine qac (qaf Z Z Uo) Z<|Zqm Z Z<|Jc Z Z Z (qfX D _ _ lv O) ?_
  rintro _ _ s37 h37 ⟨rfl,rfl⟩
  refine qac (qaf Z Z Uo) Z<|qac (qaf Z Z Uo) Z<|At Z Z<|Zo<|?_
  refine rR [_] L (.t1 Z) Z (h1.t I2.1|>.t h7|>.t h28|>.t h29|>.t h30|>.t h32|>.t h36|>.t h37) fun _ hS2=>?_
  exact ⟨by rw [hT];rfl,rfl⟩
 have hwd:(if x.kind=3 then [105,102] else [119,104,105,108,101])=([119,104,105,108,101]:Str):=if_neg c27
 refine Zk<|Zt<|Zs<|qay qad 18 Z _ (fun _ h=>h) ?_
 intro s38 h38
 refine za 0 Z (qan Z) Z<|za 1 Z (qaf Z Z Uo) Z<|za 2 Z (qan Z) Z<|za 3 Z (qas (j:=0) Z Z Z Z Z Z (show 0 < n1 by omega)) Z<|za 4 Z (qah Z Z Z (hcw.le h38) Z) Z<|za 5 Z (qaf Z Z Uo) Z<|za 6 Z (qaf Z Z Uo) Z<|za 7 Z (We Y4) Z<|za 8 Z (Wd 0 Y5) Z<|za 9 Z (qan Z) Z<|za 10 Z (qaR Z Z (show IntKind.i64.wrap ((lv:Int)+1)=((lv+1:Nat):Int) by rw [w64 O O];simp)) Z<|za 13 Z (qan Z) Z<|qax 11 V<|Jb Z Tt Z Z Z (hB _ _ A2 n2 q2 x.body (lv+1) (hA2.le (h1.t I2.1|>.t h7|>.t h38)) hvB O O) ?_
 rintro _ _ s39 h39 ⟨rfl,rfl⟩
 refine ⟨fun _ _ h=>h,?_⟩
 refine za 12 Z (qaf Z Z Uo) Z<|qax 14 V<|Jb Z Tt Z Z Z (qfX D _ _ lv O) ?_
 rintro _ _ s40 h40 ⟨rfl,rfl⟩
 refine ⟨fun _ _ h=>h,?_⟩
 refine za 15 Z (qaf Z Z Uo) Z<|za 16 Z (qaf Z Z Uo) Z<|za 17 Z (qaM Z) Z<|qal V<|Zt<|Zs<|Sr<|Wb Y5<|Wl 0 Y6<|Ws Y4<|qar Z Z Z<|Nt<|?_
 refine qaa Z (fun c41=>?_) (fun c41=>?_)
 ·
  have hT:=rt_a h34 hw0 hwd (List.eq_nil_of_length_eq_zero O) (lv:=lv)
  refine Sr<|Zqm Z Z<|qac (qaf Z Z Uo) Z<|At Z Z<|Zo<|Zu<|?_
  refine rR [_] L (.t1 Z) Z (h1.t I2.1|>.t h7|>.t h38|>.t h39|>.t h40) fun _ hS2=>?_
  exact ⟨by rw [hT];rfl,rfl⟩
 have g0:x.els.length≠0:=by omega
 obtain ⟨e,b,off,z,B1,m1,d1,B2,m2,d2,B3,m3,d3,hd,rfl,hz,hcz,haz,hbz,hez,hnlz⟩:=Stms.at_ (hA3.le (h1.t I2.1|>.t h7|>.t h38|>.t h39|>.t h40)) (show 0 < n3 by omega)
 obtain ⟨hvz,hNz⟩:=qdy hvL hz
 refine Zk<|Zt<|Zs<|?_
 refine qaU 114 (n3=1∧z.kind=3) ?_ ?_
 ·
  refine Zr<|Wb Y5<|Wl 0 Y6<|Ws Y4<|qar Z Z Z<|Zqm Z Z<|?_
  refine qak (t:=107) Z (fun c43=>?_) (fun c43=>?_)
  ·
   refine Zg Z Z<|Wb Y5<|Zg Z Z<|Wl 0 Y6<|Zg Z Z<|qac (qap (j:=0) Z Z Z Z Z Z O) Z<|Zg Z Z<|W0 Y5<|Zg Z Z<|qac (qah Z Z Z (hcz.le (Lr D)) Z) Z<|Zg Z Z<|qar Z Z Z<|ZqT Z Z Z<|Zn<|?_
   refine qab (MidB.mk (Lr D) Sb Z (decide_eq_decide.2 O))
  refine Wf Y4<|Wf Y4<|Wf Y4<|Wf Y4<|Wf Y4<|Wf Y4<|ZqF Z Z Z<|Zn<|?_
  refine qab (MidB.mk (Lr D) Sb Z ((decide_eq_false O).symm))
 intro s42 h42
 refine qaa Z (fun c44=>?_) (fun c44=>?_)
 ·
  have g3:=c44
  have hT:=rt_b h34 hw0 hwd O hz g3.2 (lv:=lv)
  have hvz2:=qem z lv (lv+1) O hvz
  have hzl:=qfD z lv hvz2 (Stms.u_at hA3.u hz)
  refine Sr<|Zqm Z Z<|qac (qaf Z Z Uo) Z<|Wb Y5<|Wl 0 Y6<|qac (qap (j:=0) Z Z Z Z Z Z O) Z<|qac (qau Z Z Z (hcz.le h42) Z) Z<|Zqm Z Z<|Jc Z Z Z (ih e hd _ _ z B1 B2 B3 m1 d1 m2 d2 m3 d3 lv (haz.le h42) (hbz.le h42) (hez.le h42) hvz2 O) ?_
  rintro _ _ s45 h45 ⟨rfl,rfl⟩
  refine qac (qaf Z Z Uo) Z<|At Z Z<|Zo<|Zu<|?_
  refine rR [_] L (.t1 Z) Z (h1.t I2.1|>.t h7|>.t h38|>.t h39|>.t h40|>.t h42|>.t h45) fun _ hS2=>?_
  exact ⟨by rw [hT];rfl,rfl⟩
 have g3:=c44
 have hT:=rt_c h34 hw0 hwd g0 (fun h=>g3 ⟨by omega,h.2 z hz⟩) (lv:=lv)
 refine Zk<|Zt<|Sr<|Zqm Z Z<|qac (qaf Z Z Uo) Z<|Wb Y5<|Wl 0 Y6<|Zqm Z Z<|qac (qaR Z Z (show IntKind.i64.wrap ((lv:Int)+1)=((lv+1:Nat):Int) by rw [w64 O O];simp)) Z<|Jc Z Z Z (hB _ _ _ n3 q3 x.els (lv+1) (hA3.le (h1.t I2.1|>.t h7|>.t h38|>.t h39|>.t h40|>.t h42)) hvL O O) ?_
 rintro _ _ s46 h46 ⟨rfl,rfl⟩
 refine qac (qaf Z Z Uo) Z<|Zqm Z Z<|Jc Z Z Z (qfX D _ _ lv O) ?_
 rintro _ _ s47 h47 ⟨rfl,rfl⟩
 refine qac (qaf Z Z Uo) Z<|qac (qaf Z Z Uo) Z<|At Z Z<|Zo<|?_
 refine rR [_] L (.t1 Z) Z (h1.t I2.1|>.t h7|>.t h38|>.t h39|>.t h40|>.t h42|>.t h46|>.t h47) fun _ hS2=>?_
 exact ⟨by rw [hT];rfl,rfl⟩
theorem qih(D:Nat):∀ d,RSS D d∧RTC D d
 | 0=>by
  have hB:RSS D 0:=fun L s A n c xs lv hA hv hN hlv=>qjw D 0 (fun e h=>by omega) L s A n c xs lv hA hv hN hlv
  exact ⟨hB,fun L s x A1 A2 A3 n1 q1 n2 q2 n3 q3 lv hA1 hA2 hA3 hv hN=>qiH D 0 hB (fun e h=>by omega) L s x A1 A2 A3 n1 q1 n2 q2 n3 q3 lv hA1 hA2 hA3 hv hN⟩
 | d+1=>by
  have ih:∀ e,d+1=e+1→RTC D e:=fun e h=>(show d=e by omega)▸(qih D d).2
  have hB:RSS D (d+1):=fun L s A n c xs lv hA hv hN hlv=>qjw D (d+1) ih L s A n c xs lv hA hv hN hlv
  exact ⟨hB,fun L s x A1 A2 A3 n1 q1 n2 q2 n3 q3 lv hA1 hA2 hA3 hv hN=>qiH D (d+1) hB ih L s x A1 A2 A3 n1 q1 n2 q2 n3 q3 lv hA1 hA2 hA3 hv hN⟩
theorem qcG{α:Type}{f:α→Str}{l:List α}{k:Nat}{x:α}(h:l[k]?=some x):((l.take (k+1)).map f).flatten=((l.take k).map f).flatten++f x:=by
 rw [qaI f h];simp
theorem qhU{α:Type}{f:α→Str}(l:List α)(k:Nat):(((l.take k).map f).flatten).length≤((l.map f).flatten).length:=by
 induction l generalizing k with
 | nil=>simp
 | cons x r ih=>
  cases k with
  | zero=>simp
  | succ k=>have:=ih k;simp only [List.take_succ_cons,List.map_cons,List.flatten_cons,List.length_append];omega
theorem pg_1{g:Glo}(h:g.kind=1):qdP g=[99,111,110,115,116,32]++g.name++[32,61,32]++qeB g.num++[59,10]:=by unfold qdP;rw [if_pos h]
theorem pg_2{g:Glo}(h:g.kind=2):qdP g=[118,97,114,32]++g.name++[59,10]:=by unfold qdP;rw [if_neg O,if_pos h]
theorem pg_3{g:Glo}(h:¬ g.kind=1)(h2:¬ g.kind=2)(h3:g.init=[]):qdP g=[97,114,114,97,121,32]++g.name++[91]++qeB g.num++[93]++[59,10]:=by unfold qdP;rw [if_neg h,if_neg h2,if_pos h3];simp
theorem pg_4{g:Glo}(h:¬ g.kind=1)(h2:¬ g.kind=2)(h3:g.init≠[]):qdP g=[97,114,114,97,121,32]++g.name++[91]++qeB g.num++[93]++[32,61,32]++qaV (g.init.map qeB)++[59,10]:=by unfold qdP;rw [if_neg h,if_neg h2,if_neg h3];simp
theorem pf_0{x:Fnc}(h:x.locals=[]):qg8 x=[102,117,110,99,32]++x.name++[40]++qaV x.params++[41,32,123,10]++qdc x.body 1++[125,10]:=by unfold qg8;rw [if_pos h];simp
theorem pf_1{x:Fnc}(h:x.locals≠[]):qg8 x=[102,117,110,99,32]++x.name++[40]++qaV x.params++[41,32,123,10]++[32,32,118,97,114,32]++qaV x.locals++[59,10]++qdc x.body 1++[125,10]:=by unfold qg8;rw [if_neg h];simp
theorem qh7(D:Nat)(L:Hl)(s:World)(d:Nat)(p:Prg)(Ag Af:Option Addr)(ng cg nf cf:Nat)(hGl:Glos s Ag ng cg p.globals)(hFn:Fncs d s Af nf cf p.funcs)(hV:PV p):AC prog D 55 [.agg #[.slice Ag ng cg,.slice Af nf cf]] L s fun v L' _=>v=St (qkc p)∧L=L':=by
 have hn1:=hGl.1
 have hn2:=hFn.1
 have hU:=hGl.u
 have hUf:=hFn.u
 obtain ⟨hV1,hV2,hVg,hVf,hVl⟩:=hV
 have hpl:((p.globals.map qdP).flatten).length+((p.funcs.map qg8).flatten).length≤1000000:=by rw [qkc,List.length_append] at hVl;exact hVl
 refine qai (fn:=f55) qao func55 V Z ntmps55 Z (rs:=[.tmp 2]) Z [(0,_)] Z<|Sr<|qaq Z Z ?_
 intro β1 s1 h1
 refine At Z Z<|Sr<|At Z Z<|Zs<|Sr<|At Z Z<|Zp<|qav (γ:=Nat) (fun k=>[(1,_),(2,_),(3,St (((p.globals.take k).map qdP).flatten)),(4,.int .i64 (k:Int))]) (fun _=>_) (fun k tw=>Le D s1 tw∧(k≤ng)) (fun k=>ng - k) (fun _ _ _ h hl=>⟨h.1.trans hl,h.2⟩) 0 (.c4 Z Z Z Z (.nil _)) Z ⟨Le.refl _,Nat.zero_le _⟩ ?_
 intro k s2 I2
 have hk0:=I2.2
 have hle:=qhU (f:=qdP) p.globals k
 refine Zs<|Sr<|Zqm Z Z<|W0 Y5<|Wl 0 Y6<|Ws Y4<|qbh Z Z Z<|Nt<|?_
 refine qaa Z (fun c3=>?_) (fun c3=>?_)
 ·
  have hk:k < ng:=by omega
  obtain ⟨b,off,x,Ai,ni,ci,rfl,hx,hcx,hix,hux,hnl⟩:=Glos.at_ (hGl.le (h1.t I2.1)) hk
  have hgx:=hVg x (List.mem_of_getElem? hx)
  have hg0:=qcn hgx.1
  have hil:=qbF hg0.2.2.1
  have hdl:=qds hux
  have hni:=hix.1
  have hci:=qbf (x.init.map qeB)
  have hct:=qgX x.init hix.u32
  refine Zk<|Zt<|Zs<|Zp<|Sr<|W0 Y5<|Wl 0 Y6<|Zqm Z Z<|qac (qap Z Z Z Z Z Z hk) Z<|qac (qau Z Z Z (hcx.le (Lr D)) Z) Z<|qaj Z [_,_,_,_] Z Z ?_
  intro β4 s4 h4
  refine Wt 0 [_,_,_,_] Y9<|Nt<|Zs<|Sr<|W0 Y5<|Wl 0 Y6<|qar Z Z Z<|Nt<|?_
  refine qaa Z (fun c5=>?_) (fun c5=>?_)
  ·
   have hT:=pg_1 c5
   refine qay qad 11 Z _ (fun _ h=>h) ?_
   intro s6 h6
   refine za 0 Z (qan Z) Z<|za 1 Z (qaf Z Z Ut) Z<|za 2 Z (We Y4) Z<|za 3 Z (Wd 0 Y5) Z<|za 4 Z (qaf Z Z Uo) Z<|za 5 Z (qaf Z Z Uo) Z<|za 6 Z (We Y4) Z<|za 7 Z (Wd 0 Y5) Z<|qax 8 V<|Jb Z Tt Z Z Z (qiI D _ _ _ hux) ?_
   rintro _ _ s7 h7 ⟨rfl,rfl⟩
   refine ⟨fun _ _ h=>h,?_⟩
   refine za 9 Z (qaf Z Z Uo) Z<|za 10 Z (qaM Z) Z<|qal V<|Zt<|Zr<|Zqm Z Z<|qac (qaf Z Z Ut) Z<|Zqa Z Z<|Zn<|Zb<|Zt<|Zr<|Zqm Z Z<|qaF Z Z Z (w64 O O)<|Zqa Z Z<|Zn<|?_
   refine qab ⟨(k+1),[_],(.c2 Z Z (.cons (congrArg (fun l=>some (St l)) (by rw [qcG hx,hT];simp only [List.append_assoc])) kp)),Z,⟨(I2.1.t h4|>.t h6|>.t h7),(show k+1≤ng by omega)⟩,O⟩
  have g1:=c5
  refine Sr<|W0 Y5<|Wl 0 Y6<|qar Z Z Z<|Nt<|?_
  refine qaa Z (fun c8=>?_) (fun c8=>?_)
  ·
   have hT:=pg_2 c8
   refine Zr<|Zqm Z Z<|qac (qaf Z Z Ut) Z<|Wb Y5<|Wl 0 Y6<|qac (qaf Z Z Uo) Z<|At Z Z<|Zr<|Zqm Z Z<|qac (qaf Z Z Ut) Z<|Zqa Z Z<|Zn<|Zb<|Zt<|Zr<|Zqm Z Z<|qaF Z Z Z (w64 O O)<|Zqa Z Z<|Zn<|?_
   refine qab ⟨(k+1),[_],(.c2 Z Z (.cons (congrArg (fun l=>some (St l)) (by rw [qcG hx,hT];simp only [List.append_assoc])) kp)),Z,⟨(I2.1.t h4),(show k+1≤ng by omega)⟩,O⟩
  have g2:=c8
  refine Zs<|qay qad 12 Z _ (fun _ h=>h) ?_
  intro s9 h9
  refine za 0 Z (qan Z) Z<|za 1 Z (qaf Z Z Ut) Z<|za 2 Z (We Y4) Z<|za 3 Z (Wd 0 Y5) Z<|za 4 Z (qaf Z Z Uo) Z<|za 5 Z (qaf Z Z Uo) Z<|za 6 Z (We Y4) Z<|za 7 Z (Wd 0 Y5) Z<|qax 8 V<|Jb Z Tt Z Z Z (qiI D _ _ _ hux) ?_
  rintro _ _ s10 h10 ⟨rfl,rfl⟩
  refine ⟨fun _ _ h=>h,?_⟩
  refine za 9 Z (qaf Z Z Uo) Z<|za 10 Z (qaf Z Z Uo) Z<|za 11 Z (qaM Z) Z<|qal V<|Zt<|Sr<|At Z Z<|Zs<|Sr<|At Z Z<|Zp ?_
  refine qav (γ:=Nat×Value×Hl) (fun g=>[(1,_),(2,_),(3,_),(4,_),(5,_),(6,g.2.1),(7,.int .i64 (g.1:Int))]) (fun g=>_::_::(g.2.2++L)) (fun g tw=>Le D s10 tw∧(g.1≤ni∧FL.Own 9 1 g.2.2 g.2.1 g.1 (sb ((x.init.take g.1).map qeB)))) (fun g=>ni - g.1) (fun _ _ _ h hl=>⟨h.1.trans hl,h.2⟩) (0,.slice none 0 0,[]) (.c6 Z Z Z Z Z Z (.cons Z (.nil _))) Z ⟨Le.refl _,⟨Nat.zero_le _,Own.nil⟩⟩ ?_
  intro g s11 I11
  obtain ⟨j,vo,Mo⟩:=g
  obtain ⟨hj0,hO⟩:=I11.2
  simp only at hj0 hO
  dsimp only
  refine Zs<|Sr<|Zqm Z Z<|Wb Y5<|Wl 0 Y6<|Ws Y4<|qbh Z Z Z<|Nt<|?_
  refine qaa Z (fun c12=>?_) (fun c12=>?_)
  ·
   have hj:j < ni:=by omega
   obtain ⟨b2,off2,y,hb2,hy,hcy,huy⟩:=Wds.at_ (hix.le (h4.t h9|>.t h10|>.t I11.1)) hj
   subst hb2
   refine Zk<|Zt<|Zs<|Zp<|Zr<|Zqm Z Z<|Wb Y5<|Wl 0 Y6<|Zqm Z Z<|qac (qas Z Z Z Z Z Z hj) Z<|qac (qah Z Z Z (hcy.le (Lr D)) Z) Z<|Jc Z Z Z (qiI D _ _ _ huy) ?_
   rintro _ _ s13 h13 ⟨rfl,rfl⟩
   refine qbk [(_,_)] [_] Z Z Z Z Z Z Z Z Z ?_
   intro βn s14 h14 hcb
   refine qba (sz:=1) [_,_] Mo L Z Z Z Z Z Z Z hO (Row.of_cells (hcb.le (Lr D)) Z Z) ⟨by simp [ti9];omega,by omega⟩ Z ?_
   intro vq Mq s15 h15 oq
   obtain ⟨Avq,cvq,rfl,_,_⟩:=Own.slice oq
   simp only [cQ9,nQ9]
   refine Zqa Z Z<|Zn<|Zb<|Zt<|Zr<|Zqm Z Z<|qaF Z Z Z (w64 O O)<|Zqa Z Z<|Zn<|?_
   refine qab ⟨(j+1,.slice Avq (j+1) cvq,Mq),[],kp,Z,⟨(I11.1.t h13|>.t h14|>.t h15),⟨by simp only;omega,by rw [qaI qeB hy,qc1];exact oq⟩⟩,Oz⟩
  obtain rfl:ni=j:=by omega
  rw [List.take_of_length_le O] at hO
  obtain ⟨Ao,co,rfl,_,_⟩:=Own.slice hO
  refine Zl<|Zv<|Zv<|Zd<|Zt<|Zs<|qbC [_,_] Mo _ ?_
  intro s16 h16 hpub16
  simp only [cQ9,nQ9]
  have hSt:=Own.strs hO (qlr hix.u32) hpub16 (by rw [List.length_map];omega)
  refine Zr<|Zqm Z Z<|Ws Y4<|qbv Z Z Z<|Nt<|?_
  refine qaa Z (fun c17=>?_) (fun c17=>?_)
  ·
   have hT:=pg_4 g1 g2 (fun h=>by rw [h] at hni;simp at hni;omega)
   refine Zr<|Zqm Z Z<|qac (qaf Z Z Ut) Z<|Zqm Z Z<|Jc Z Z Z (qcJ D _ _ Ao _ co (x.init.map qeB) (hSt.le (Lr D)) O) ?_
   rintro _ _ s18 h18 ⟨rfl,rfl⟩
   refine qac (qaf Z Z Ut) Z<|At Z Z<|Zr<|Zqm Z Z<|qac (qaf Z Z Ut) Z<|Zqa Z Z<|Zn<|Zb<|Zt<|Zr<|Zqm Z Z<|qaF Z Z Z (w64 O O)<|Zqa Z Z<|Zn<|?_
   refine qab ⟨(k+1),[_],(.c2 Z Z (.cons (congrArg (fun l=>some (St l)) (by rw [qcG hx,hT];simp only [List.append_assoc])) kp)),Z,⟨(I2.1.t h4|>.t h9|>.t h10|>.t I11.1|>.t h16|>.t h18),(show k+1≤ng by omega)⟩,O⟩
  have hT:=pg_3 g1 g2 (List.eq_nil_of_length_eq_zero O)
  refine Zk<|Zt<|Zr<|Zqm Z Z<|qac (qaf Z Z Ut) Z<|Zqa Z Z<|Zn<|Zb<|Zt<|Zr<|Zqm Z Z<|qaF Z Z Z (w64 O O)<|Zqa Z Z<|Zn<|?_
  refine qab ⟨(k+1),[_],(.c2 Z Z (.cons (congrArg (fun l=>some (St l)) (by rw [qcG hx,hT];simp only [List.append_assoc])) kp)),Z,⟨(I2.1.t h4|>.t h9|>.t h10|>.t I11.1|>.t h16),(show k+1≤ng by omega)⟩,O⟩
 obtain rfl:ng=k:=by omega
 refine Zl<|Zv<|Zv<|Zd<|Zt<|Zs<|Sr<|At Z Z<|Zp<|qav (γ:=Nat) (fun k=>[(1,_),(2,_),(3,St ((p.globals.map qdP).flatten++((p.funcs.take k).map qg8).flatten)),(8,.int .i64 (k:Int))]) (fun _=>_) (fun k tw=>Le D s2 tw∧(k≤nf)) (fun k=>nf - k) (fun _ _ _ h hl=>⟨h.1.trans hl,h.2⟩) 0 (.c2 Z Z (.cons (congrArg (fun l=>some (St l)) (by rw [List.take_of_length_le (show p.globals.length≤ng by omega)];simp)) (.cons Z (.nil _)))) Z ⟨Le.refl _,Nat.zero_le _⟩ ?_
 intro k s19 I19
 have hk0:=I19.2
 have hle:=qhU (f:=qg8) p.funcs k
 refine Zs<|Sr<|Zqm Z Z<|Wb Y5<|Wl 0 Y6<|Ws Y4<|qbh Z Z Z<|Nt<|?_
 refine qaa Z (fun c20=>?_) (fun c20=>?_)
 ·
  have hk:k < nf:=by omega
  obtain ⟨b,off,x,B1,m1,d1,B2,m2,d2,B3,m3,d3,rfl,hx,hcx,hpx,hlx,hbx,hnl⟩:=Fncs.at_ (hFn.le (h1.t I2.1|>.t I19.1)) hk
  obtain ⟨hi1,hi2,hi3,hi4,hi5,hi6⟩:=hVf x (List.mem_of_getElem? hx)
  have hil:=qbF hi1
  have hp1:=qbf x.params
  have hp2:=qdS x.params fun w hw=>hi4 w (List.mem_append_left _ hw)
  have hl1:=qbf x.locals
  have hl2:=qdS x.locals fun w hw=>hi4 w (List.mem_append_right _ hw)
  have hln:=hlx.1
  have hbl:=qcB x.body 1 hi5 (hUf x (List.mem_of_getElem? hx))
  refine Zk<|Zt<|Zs<|Zp<|Sr<|Wb Y5<|Wl 0 Y6<|Zqm Z Z<|qac (qap Z Z Z Z Z Z hk) Z<|qac (qau Z Z Z (hcx.le (Lr D)) Z) Z<|qaj Z [_,_,_,_] Z Z ?_
  intro β21 s21 h21
  refine Wt 0 [_,_,_,_] Y9<|Nt<|Zs<|qay qad 12 Z _ (fun _ h=>h) ?_
  intro s22 h22
  refine za 0 Z (qan Z) Z<|za 1 Z (qaf Z Z Ut) Z<|za 2 Z (qbp Z Z Z Z) Z<|za 3 Z (Wd 0 Y5) Z<|za 4 Z (qaf Z Z Uo) Z<|za 5 Z (qaf Z Z Uo) Z<|za 6 Z (We Y4) Z<|za 7 Z (Wd 0 Y5) Z<|qax 8 V<|Jb Z Tt Z Z Z (qcJ D _ _ B1 m1 d1 x.params (hpx.le (h21.t h22)) O) ?_
  rintro _ _ s23 h23 ⟨rfl,rfl⟩
  refine ⟨fun _ _ h=>h,?_⟩
  refine za 9 Z (qaf Z Z Uo) Z<|za 10 Z (qaf Z Z Uo) Z<|za 11 Z (qaM Z) Z<|qal V<|Zt<|Zs<|Sr<|Wb Y5<|Wl 0 Y6<|Ws Y4<|qbv Z Z Z<|Nt<|?_
  refine qaa Z (fun c24=>?_) (fun c24=>?_)
  ·
   have hT:=pf_1 (x:=x) (fun h=>by rw [h] at hln;simp at hln;omega)
   refine Zr<|Zqm Z Z<|qac (qaf Z Z Ut) Z<|Wb Y5<|Wl 0 Y6<|Jc Z Z Z (qcJ D _ _ B2 m2 d2 x.locals (hlx.le (h21.t h22|>.t h23)) O) ?_
   rintro _ _ s25 h25 ⟨rfl,rfl⟩
   refine qac (qaf Z Z Uo) Z<|qac (qaf Z Z Uo) Z<|At Z Z<|Zr<|Zqm Z Z<|Wb Y5<|Wl 0 Y6<|Jc Z Z Z ((qih D d).1 _ _ B3 m3 d3 x.body 1 (hbx.le (h21.t h22|>.t h23|>.t h25)) hi5 hi6 O) ?_
   rintro _ _ s26 h26 ⟨rfl,rfl⟩
   refine qac (qaf Z Z Ut) Z<|qac (qaf Z Z Uo) Z<|Zqa Z Z<|Zn<|Zb<|Zt<|Zr<|Zqm Z Z<|qaF Z Z Z (w64 O O)<|Zqa Z Z<|Zn<|?_
   refine qab ⟨(k+1),[_],(.c2 Z Z (.cons (congrArg (fun l=>some (St l)) (by rw [qcG hx,hT];simp only [List.append_assoc])) kp)),Z,⟨(I19.1.t h21|>.t h22|>.t h23|>.t h25|>.t h26),(show k+1≤nf by omega)⟩,O⟩
  have hT:=pf_0 (x:=x) (List.eq_nil_of_length_eq_zero O)
  refine Zk<|Zt<|Zr<|Zqm Z Z<|Wb Y5<|Wl 0 Y6<|Jc Z Z Z ((qih D d).1 _ _ B3 m3 d3 x.body 1 (hbx.le (h21.t h22|>.t h23)) hi5 hi6 O) ?_
  rintro _ _ s27 h27 ⟨rfl,rfl⟩
  refine qac (qaf Z Z Ut) Z<|qac (qaf Z Z Uo) Z<|Zqa Z Z<|Zn<|Zb<|Zt<|Zr<|Zqm Z Z<|qaF Z Z Z (w64 O O)<|Zqa Z Z<|Zn<|?_
  refine qab ⟨(k+1),[_],(.c2 Z Z (.cons (congrArg (fun l=>some (St l)) (by rw [qcG hx,hT];simp only [List.append_assoc])) kp)),Z,⟨(I19.1.t h21|>.t h22|>.t h23|>.t h27),(show k+1≤nf by omega)⟩,O⟩
 obtain rfl:nf=k:=by omega
 refine Zl<|Zv<|Zv<|Zd<|Zt<|Sr<|Zqm Z Z<|At Z Z<|Zo<|?_
 refine rR [_] L (.t1 Z) Z (h1.t I2.1|>.t I19.1) fun _ hS2=>?_
 exact ⟨by rw [List.take_of_length_le (show p.funcs.length≤nf by omega)];rfl,rfl⟩
theorem qmH(D:Nat)(L:Hl)(s:World)(d:Nat)(p:Prg)(Ag Af:Option Addr)(ng cg nf cf:Nat)(hGl:Glos s Ag ng cg p.globals)(hFn:Fncs d s Af nf cf p.funcs):AC prog D 24 [.agg #[.slice Ag ng cg,.slice Af nf cf]] L s fun v L' _=>v=.agg #[.int .i64 (qeK p).1,.int .i64 (qeK p).2]∧L=L':=by
 have hU:prU p:=⟨hGl.u,hFn.u⟩
 refine qai (fn:=f24) qao func24 V Z ntmps24 Z (rs:=[.cell 2 33]) Z [(0,_)] Z<|Sr<|qaq Z Z ?_
 intro β1 s1 h1
 refine qaj Z [_,_] Z Z ?_
 intro β2 s2 h2
 refine Nt<|Sr<|qac (qag 1 [_,_] Z Z Z Z Z) Z<|Jc Z Z Z (qki D _ _ d p Ag Af ng cg nf cf (hGl.le (h1.t h2)) (hFn.le (h1.t h2))) ?_
 rintro _ _ s3 h3 ⟨rfl,rfl⟩
 refine qaj Z [_,_] Z Z ?_
 intro β4 s4 h4
 refine Wt 0 [_,_] Y9<|Nt<|Zs<|?_
 refine qaU 14 ((qbj p).1=0∧12000 < (qkc p).length) ?_ ?_
 ·
  refine Zr<|W0 Y5<|Wl 0 Y6<|qar Z Z Z<|Zqm Z Z<|?_
  refine qak (t:=9) Z (fun c6=>?_) (fun c6=>?_)
  ·
   refine Zg Z Z<|qac (qag 2 [_,_] Z Z Z Z Z) Z<|Zg Z Z<|Jc Z Z Z (qh7 D _ _ d p Ag Af ng cg nf cf (hGl.le (h1.t h2|>.t h3|>.t h4)) (hFn.le (h1.t h2|>.t h3|>.t h4)) (PV.of hU As)) ?_
   rintro _ _ s7 h7 ⟨rfl,rfl⟩
   refine Zg Z Z<|qgR Z Z Z Z<|Zg Z Z<|qbv Z Z Z<|ZqT Z Z Z<|Zn<|?_
   refine qab (MidB.mk h7 Sb Z (decide_eq_decide.2 O))
  refine Wf Y4<|Wf Y4<|Wf Y4<|Wf Y4<|ZqF Z Z Z<|Zn<|?_
  refine qab (MidB.mk (Lr D) Sb Z ((decide_eq_false O).symm))
 intro s5 h5
 refine qaa Z (fun c8=>?_) (fun c8=>?_)
 ·
  have hE:=qln (qfS c8.1) c8.2
  refine Zr<|Jc Z Z Z (qdB D _ _ _ _) ?_
  rintro _ _ s9 h9 ⟨rfl,rfl⟩
  refine Wt 0 [_,_] Y9<|Nt<|Sr<|qac (qag 0 [_,_] Z Z Z Z Z) Z<|Wt 1 [_,_] Y9<|Nt<|Zo<|?_
  refine rR [_,_,_] L (.agg (us:=[_,_]) 1 Z Z Z Z Z (.nil)) Z (h1.t h2|>.t h3|>.t h4|>.t h5|>.t h9) fun _ hS2=>?_
  exact ⟨by rw [hE];rfl,rfl⟩
 have hE:qeK p=qbj p:=by
   by_cases h0:(qbj p).1=0
   · rw [qtv (qfS h0) (fun h=>c8 ⟨h0,h⟩),qfS h0]
   · exact qkf h0
 refine Zk<|Zt<|Sr<|qac (qag 0 [_,_] Z Z Z Z Z) Z<|Wt 1 [_,_] Y9<|Nt<|Zo<|?_
 refine rR [_,_,_] L (.agg (us:=[_,_]) 1 Z Z Z Z Z (.nil)) Z (h1.t h2|>.t h3|>.t h4|>.t h5) fun _ hS2=>?_
 exact ⟨by rw [hE];rfl,rfl⟩
theorem qet(D:Nat)(L:Hl)(s:World)(A:Option Addr)(n c:Nat)(l:List Str)(hA:Strs s A n c l)(w:List UInt8):AC prog D 25 [.slice A n c,St w] L s fun v L' _=>v=.int .i64 (qbb (fun x=>decide (w=x)) l 0)∧L=L':=by
 have hn:=hA.1
 have hc1:=hA.2.1
 have hc2:=hA.2.2.1
 refine qai (fn:=f25) qao func25 V Z ntmps25 Z (rs:=[.tmp 4]) Z [(0,_),(1,_)] Z<|Sr<|At Z Z<|Zs<|Sr<|At Z Z<|Zp<|qav (γ:=Nat) (fun k=>[(0,_),(1,_),(4,_),(5,.int .i64 (k:Int))]) (fun _=>_) (fun k tw=>Le D s tw∧(k≤n∧∀ i x,i < k→l[i]?=some x→decide (w=x)=false)) (fun k=>n - k) (fun _ _ _ h hl=>⟨h.1.trans hl,h.2⟩) 0 (.c4 Z Z Z Z (.nil _)) Z ⟨Le.refl _,⟨Nat.zero_le _,fun i x hi=>by omega⟩⟩ ?_
 intro k s1 I1
 have hk0:=I1.2.1
 have hI:=I1.2.2
 refine Zs<|Sr<|Zqm Z Z<|Zqm Z Z<|Ws Y4<|qbh Z Z Z<|Nt<|?_
 refine qaa Z (fun c2=>?_) (fun c2=>?_)
 ·
  have hk:k < n:=by omega
  obtain ⟨b,off,x,rfl,hx,hcx,_⟩:=Strs.at_ (hA.le I1.1) hk
  refine Zk<|Zt<|Zs<|Zp<|Sr<|Zqm Z Z<|Zqm Z Z<|qac (qas Z Z Z Z Z Z hk) Z<|qac (qah Z Z Z (hcx.le (Lr D)) Z) Z<|Zqm Z Z<|qka Z Z Z<|Nt<|?_
  refine qaa Z (fun c3=>?_) (fun c3=>?_)
  ·
   have hz:decide (w=x)=true:=decide_eq_true (Eq.symm c3)
   refine Sr<|Zqm Z Z<|At Z Z<|Zo<|Zc<|Zu<|Zu<|Zc<|Zu<|?_
   refine rR [] L (.t1 Z) Z I1.1 fun _ hS2=>?_
   refine ⟨?_,Z⟩
   simp only [qat];rw [qca hI hx hz,Nat.zero_add]
  have hz:decide (w=x)=false:=decide_eq_false (fun h=>c3 h.symm)
  refine Zk<|Zb<|Zt<|Zr<|Zqm Z Z<|qaF Z Z Z (w64 O O)<|Zqa Z Z<|Zn<|?_
  refine qab ⟨(k+1),[],kp,Z,⟨I1.1,⟨by omega,qbc hI hx hz⟩⟩,O⟩
 refine Zl<|Zv<|Zv<|Zd<|Zt<|Sr<|At Z Z<|Zo<|?_
 refine rR [] L (.t1 Z) Z I1.1 fun _ hS2=>?_
 refine ⟨?_,Z⟩
 simp only [qat];rw [qcj (fun i x hi h=>hI i x O h)]
theorem qho(D:Nat)(L:Hl)(s:World)(d:Nat)(p:Prg)(Ag Af:Option Addr)(ng cg nf cf:Nat)(hGl:Glos s Ag ng cg p.globals)(hFn:Fncs d s Af nf cf p.funcs):AC prog D 26 [.agg #[.slice Ag ng cg,.slice Af nf cf]] L s fun v L' _=>v=.int .i64 (qcV p.funcs)∧L=L':=by
 have hn:=hFn.1
 have hc1:=hFn.2.1
 have hc2:=hFn.2.2.1
 refine qai (fn:=f26) qao func26 V Z ntmps26 Z (rs:=[.tmp 2]) Z [(0,_)] Z<|Sr<|qaq Z Z ?_
 intro β1 s1 h1
 refine At Z Z<|Zs<|Sr<|At Z Z<|Zp<|qav (γ:=Nat) (fun k=>[(1,_),(2,_),(3,.int .i64 (k:Int))]) (fun _=>_) (fun k tw=>Le D s1 tw∧(k≤nf∧∀ i x,i < k→p.funcs[i]?=some x→decide (x.name=qbY)=false)) (fun k=>nf - k) (fun _ _ _ h hl=>⟨h.1.trans hl,h.2⟩) 0 (.c3 Z Z Z (.nil _)) Z ⟨Le.refl _,⟨Nat.zero_le _,fun i x hi=>by omega⟩⟩ ?_
 intro k s2 I2
 have hk0:=I2.2.1
 have hI:=I2.2.2
 refine Zs<|Sr<|Zqm Z Z<|Wb Y5<|Wl 0 Y6<|Ws Y4<|qbh Z Z Z<|Nt<|?_
 refine qaa Z (fun c3=>?_) (fun c3=>?_)
 ·
  have hk:k < nf:=by omega
  obtain ⟨b,off,x,B1,m1,d1,B2,m2,d2,B3,m3,d3,rfl,hx,hcx,hpx,hlx,hbx,hnl⟩:=Fncs.at_ (hFn.le (h1.t I2.1)) hk
  refine Zk<|Zt<|Zs<|Zp<|Sr<|Wb Y5<|Wl 0 Y6<|Zqm Z Z<|qac (qap Z Z Z Z Z Z hk) Z<|W0 Y5<|qac (qah Z Z Z (hcx.le (Lr D)) Z) Z<|qka Z Z Z<|Nt<|?_
  refine qaa Z (fun c4=>?_) (fun c4=>?_)
  ·
   have hz:decide (x.name=qbY)=true:=decide_eq_true c4
   refine Sr<|Zqm Z Z<|At Z Z<|Zo<|Zc<|Zu<|Zu<|Zc<|Zu<|?_
   refine rR [_] L (.t1 Z) Z (h1.t I2.1) fun _ hS2=>?_
   refine ⟨?_,Z⟩
   simp only [qat];rw [qcV,qca hI hx hz,Nat.zero_add]
  have hz:decide (x.name=qbY)=false:=decide_eq_false c4
  refine Zk<|Zb<|Zt<|Zr<|Zqm Z Z<|qaF Z Z Z (w64 O O)<|Zqa Z Z<|Zn<|?_
  refine qab ⟨(k+1),[],kp,Z,⟨I2.1,⟨by omega,qbc hI hx hz⟩⟩,O⟩
 refine Zl<|Zv<|Zv<|Zd<|Zt<|Sr<|At Z Z<|Zo<|?_
 refine rR [_] L (.t1 Z) Z (h1.t I2.1) fun _ hS2=>?_
 refine ⟨?_,Z⟩
 simp only [qat];rw [qcV,qcj (fun i x hi h=>hI i x O h)]
theorem qmu{l:List (Str×(Int×Int))}{nm:Str}{k:Nat}{e:Str×(Int×Int)}(h:∀ i y,i < k→l[i]?=some y→¬ y.1=nm)(hk:l[k]?=some e)(he:e.1=nm):l.find? (fun y=>decide (y.1=nm))=some e:=by
 induction l generalizing k with
 | nil=>cases hk
 | cons y l ih=>
  cases k with
  | zero=>simp at hk;subst hk;simp [List.find?,he]
  | succ k=>
   have h0:=h 0 y O rfl
   simp only [List.find?,h0,decide_false]
   exact ih (k:=k) (fun i z hi hz=>h (i+1) z O (by simpa using hz)) (by simpa using hk)
theorem qnX{l:List (Str×(Int×Int))}{nm:Str}(h:∀ i y,i < l.length→l[i]?=some y→¬ y.1=nm):l.find? (fun y=>decide (y.1=nm))=none:=by
 rw [List.find?_eq_none]
 intro y hy
 obtain ⟨i,hi⟩:=List.mem_iff_getElem?.1 hy
 simp [h i y (List.getElem?_eq_some_iff.1 hi).1 hi]
theorem qfB(D:Nat)(L:Hl)(s:World)(d:Nat)(p:Prg)(Ag Af:Option Addr)(ng cg nf cf:Nat)(hGl:Glos s Ag ng cg p.globals)(hFn:Fncs d s Af nf cf p.funcs)(f:Nat)(x:Fnc)(hx0:p.funcs[f]?=some x)(nm:List UInt8):AC prog D 57 [.agg #[.slice Ag ng cg,.slice Af nf cf],.int .i64 (f:Int),St nm] L s fun v L' _=>v=.agg #[.int .i64 (qaz p x nm).1.1,.int .i64 (qaz p x nm).1.2]∧L=L':=by
 have hn1:=hGl.1
 have hn2:=hFn.1
 have hq1:=hGl.2.1
 have hq2:=hGl.2.2.1
 have hq3:=hFn.2.1
 have hq4:=hFn.2.2.1
 have hfl:=(List.getElem?_eq_some_iff.1 hx0).1
 have hfn:f < nf:=by omega
 obtain ⟨b,off,x9,B1,m1,d1,B2,m2,d2,B3,m3,d3,hAf,hx9,hcx,hpx,hlx,hbx,hnl⟩:=Fncs.at_ hFn hfn
 obtain rfl:x=x9:=Option.some.inj (hx0.symm.trans hx9)
 subst hAf
 refine qai (fn:=f57) qao func57 V Z ntmps57 Z (rs:=[.cell 6 79]) Z [(0,_),(1,_),(2,_)] Z<|Sr<|qaq Z Z ?_
 intro β1 s1 h1
 refine qaj Z [_,_] Z Z ?_
 intro β2 s2 h2
 refine Nt<|Sr<|Wb Y5<|Wl 1 Y6<|Zqm Z Z<|qac (qap Z Z Z Z Z Z hfn) Z<|qac (qau Z Z Z (hcx.le (h1.t h2)) Z) Z<|qaj Z [_,_,_,_] Z Z ?_
 intro β3 s3 h3
 refine Wt 0 [_,_,_,_] Y9<|Nt<|Sr<|Wb Y5<|Wl 0 Y6<|Zqm Z Z<|Jc Z Z Z (qet D _ _ B1 m1 d1 x.params (hpx.le (h1.t h2|>.t h3)) nm) ?_
 rintro _ _ s4 h4 ⟨rfl,rfl⟩
 refine At Z Z<|Zs<|Sr<|Zqm Z Z<|qfa Z Z Z<|Nt<|?_
 refine qaa Z (fun c5=>?_) (fun c5=>?_)
 ·
  have hE:(qaz p x nm).1=(1,qbb (fun y=>decide (nm=y)) x.params 0):=by rw [qaz,if_pos c5]
  refine Sr<|Zqm Z Z<|qac (qam [(_,_),(_,_)] [_,_] Z Z Z Z Z Z) Z<|Wt 1 [_,_] Y9<|Nt<|Zo<|Zu<|?_
  refine rR [_,_,_] L (.agg (us:=[_,_]) 1 Z Z Z Z Z (.nil)) Z (h1.t h2|>.t h3|>.t h4) fun _ hS2=>?_
  exact ⟨by rw [hE];rfl,rfl⟩
 have g21:=c5
 refine Zk<|Zt<|Sr<|Wb Y5<|Wl 0 Y6<|Zqm Z Z<|Jc Z Z Z (qet D _ _ B2 m2 d2 x.locals (hlx.le (h1.t h2|>.t h3|>.t h4)) nm) ?_
 rintro _ _ s6 h6 ⟨rfl,rfl⟩
 refine At Z Z<|Zs<|Sr<|Zqm Z Z<|qfa Z Z Z<|Nt<|?_
 refine qaa Z (fun c7=>?_) (fun c7=>?_)
 ·
  have hE:(qaz p x nm).1=(2,qbb (fun y=>decide (nm=y)) x.locals 0):=by rw [qaz,if_neg g21,if_pos c7]
  refine Sr<|Zqm Z Z<|qac (qam [(_,_),(_,_)] [_,_] Z Z Z Z Z Z) Z<|Wt 1 [_,_] Y9<|Nt<|Zo<|Zu<|?_
  refine rR [_,_,_] L (.agg (us:=[_,_]) 1 Z Z Z Z Z (.nil)) Z (h1.t h2|>.t h3|>.t h4|>.t h6) fun _ hS2=>?_
  exact ⟨by rw [hE];rfl,rfl⟩
 have g29:=c7
 refine Zk<|Zt<|Zs<|Sr<|At Z Z<|Zp<|qav (γ:=Nat) (fun k=>[(2,_),(3,_),(6,_),(9,.int .i64 (k:Int))]) (fun _=>_) (fun k tw=>Le D s6 tw∧(k≤ng∧∀ i e,i < k→(ents p)[i]?=some e→¬ e.1=nm)) (fun k=>ng - k) (fun _ _ _ h hl=>⟨h.1.trans hl,h.2⟩) 0 (.c4 Z Z Z Z (.nil _)) Z ⟨Le.refl _,⟨Nat.zero_le _,fun i x hi=>by omega⟩⟩ ?_
 intro k s8 I8
 have hk0:=I8.2.1
 have hI:=I8.2.2
 refine Zs<|Sr<|Zqm Z Z<|W0 Y5<|Wl 2 Y6<|Ws Y4<|qbh Z Z Z<|Nt<|?_
 refine qaa Z (fun c9=>?_) (fun c9=>?_)
 ·
  have hk:k < ng:=by omega
  obtain ⟨b2,off2,y,Ai,ni,ci,hAg,hy,hcy,hiy,huy,hny⟩:=Glos.at_ (hGl.le (h1.t h2|>.t h3|>.t h4|>.t h6|>.t I8.1)) hk
  subst hAg
  refine Zk<|Zt<|Zs<|Zp<|Sr<|W0 Y5<|Wl 2 Y6<|Zqm Z Z<|qac (qap Z Z Z Z Z Z hk) Z<|qac (qbs Z Z Z Z) Z<|qac (qaC 1 Z Z Z (hcy.le (Lr D)) Z) Z<|Zqm Z Z<|qka Z Z Z<|Nt<|?_
  refine qaa Z (fun c10=>?_) (fun c10=>?_)
  ·
   have hE:(qaz p x nm).1=(3,(k:Int)):=by rw [qaz,if_neg g21,if_neg g29,qmu hI (qhE hy) c10]
   refine Sr<|Zqm Z Z<|qac (qam [(_,_),(_,_)] [_,_] Z Z Z Z Z Z) Z<|Wt 1 [_,_] Y9<|Nt<|Zo<|Zc<|Zu<|Zu<|Zc<|Zu<|?_
   refine rR [_,_,_] L (.agg (us:=[_,_]) 1 Z Z Z Z Z (.nil)) Z (h1.t h2|>.t h3|>.t h4|>.t h6|>.t I8.1) fun _ hS2=>?_
   exact ⟨by rw [hE];rfl,rfl⟩
  have hz:=c10
  refine Zk<|Zb<|Zt<|Zr<|Zqm Z Z<|qaF Z Z Z (w64 O O)<|Zqa Z Z<|Zn<|?_
  refine qab ⟨(k+1),[],kp,Z,⟨I8.1,⟨by omega,qbc hI (qhE hy) hz⟩⟩,O⟩
 obtain rfl:p.globals.length=k:=by omega
 refine Zl<|Zv<|Zv<|Zd<|Zt<|Zs<|Sr<|At Z Z<|Zp<|qav (γ:=Nat) (fun k=>[(2,_),(3,_),(6,_),(10,.int .i64 (k:Int))]) (fun _=>_) (fun k tw=>Le D s8 tw∧(k≤nf∧∀ i e,i < p.globals.length+k→(ents p)[i]?=some e→¬ e.1=nm)) (fun k=>nf - k) (fun _ _ _ h hl=>⟨h.1.trans hl,h.2⟩) 0 (.c4 Z Z Z Z (.nil _)) Z ⟨Le.refl _,⟨Nat.zero_le _,hI⟩⟩ ?_
 intro k s11 I11
 have hk0:=I11.2.1
 have hJ:=I11.2.2
 refine Zs<|Sr<|Zqm Z Z<|Wb Y5<|Wl 2 Y6<|Ws Y4<|qbh Z Z Z<|Nt<|?_
 refine qaa Z (fun c12=>?_) (fun c12=>?_)
 ·
  have hk:k < nf:=by omega
  obtain ⟨b2,off2,y,C1,r1,e1,C2,r2,e2,C3,r3,e3,hAf2,hy,hcy,hpy,hly,hby,hny⟩:=Fncs.at_ (hFn.le (h1.t h2|>.t h3|>.t h4|>.t h6|>.t I8.1|>.t I11.1)) hk
  cases hAf2
  refine Zk<|Zt<|Zs<|Zp<|Sr<|Wb Y5<|Wl 2 Y6<|Zqm Z Z<|qac (qap Z Z Z Z Z Z hk) Z<|W0 Y5<|qac (qah Z Z Z (hcy.le (Lr D)) Z) Z<|Zqm Z Z<|qka Z Z Z<|Nt<|?_
  refine qaa Z (fun c13=>?_) (fun c13=>?_)
  ·
   have hE:(qaz p x nm).1=(4,(k:Int)):=by rw [qaz,if_neg g21,if_neg g29,qmu hJ (qeX hy) c13]
   refine Sr<|Zqm Z Z<|qac (qam [(_,_),(_,_)] [_,_] Z Z Z Z Z Z) Z<|Wt 1 [_,_] Y9<|Nt<|Zo<|Zc<|Zu<|Zu<|Zc<|Zu<|?_
   refine rR [_,_,_] L (.agg (us:=[_,_]) 1 Z Z Z Z Z (.nil)) Z (h1.t h2|>.t h3|>.t h4|>.t h6|>.t I8.1|>.t I11.1) fun _ hS2=>?_
   exact ⟨by rw [hE];rfl,rfl⟩
  have hz:=c13
  refine Zk<|Zb<|Zt<|Zr<|Zqm Z Z<|qaF Z Z Z (w64 O O)<|Zqa Z Z<|Zn<|?_
  refine qab ⟨(k+1),[],kp,Z,⟨I11.1,⟨by omega,qbc hJ (qeX hy) hz⟩⟩,O⟩
 have hE:(qaz p x nm).1=(0,0):=by rw [qaz,if_neg g21,if_neg g29,qnX (fun i e hi h=>hJ i e (by rw [ents,List.length_append,List.length_mapIdx,List.length_mapIdx] at hi;omega) h)]
 refine Zl<|Zv<|Zv<|Zd<|Zt<|Sr<|qac (qam [] [_,_] Z Z Z Z Z Z) Z<|Wt 1 [_,_] Y9<|Nt<|Zo<|?_
 refine rR [_,_,_] L (.agg (us:=[_,_]) 1 Z Z Z Z Z (.nil)) Z (h1.t h2|>.t h3|>.t h4|>.t h6|>.t I8.1|>.t I11.1) fun _ hS2=>?_
 exact ⟨by rw [hE];rfl,rfl⟩
end Go.Proofs.YtpdnijphccdiiaaGreatDoor
namespace Go.FL
open Go Go.RowKit
theorem qgn{α:Type}{sz:Nat}{f:α→List Value}(hf:∀ x,(f x).length=sz){s:World}{b:Nat}:∀ {l:List α} {off:Nat},(∀ (i:Nat) (x:α),l[i]?=some x→CellsAt s b (off+i * sz) (f x))→CellsAt s b off (l.map f).flatten
  | [],off,_=>fun j v h=>by simp at h
  | x::r,off,h=>by
    have h0:=h 0 x rfl
    have ih:=qgn hf (l:=r) (off:=off+sz) fun i y hy=>by
      have:=h (i+1) y (by simpa using hy)
      rwa [show off+(i+1) * sz=off+sz+i * sz by rw [Nat.succ_mul];omega] at this
    intro j v hj
    rw [List.map_cons,List.flatten_cons] at hj
    by_cases hl:j < (f x).length
    · rw [List.getElem?_append_left hl] at hj
      have:=h0 j v hj
      rwa [Nat.zero_mul,Nat.add_zero] at this
    · rw [List.getElem?_append_right O] at hj
      have:=ih (j - (f x).length) v hj
      rw [hf x] at this hl
      rwa [show off+sz+(j - sz)=off+j by omega] at this
theorem qn0{α:Type}{sz:Nat}{f:α→List Value}(hf:∀ x,(f x).length=sz)(l:List α):(l.map f).flatten.length=l.length * sz:=by
 induction l with
 | nil=>simp
 | cons x r ih=>rw [List.map_cons,List.flatten_cons,List.length_append,ih,hf,List.length_cons,Nat.succ_mul];omega
end Go.FL
namespace Go.Proofs.YtpdnijphccdiiaaGreatDoor
open Go Go.FL Go.RowKit
theorem Sl.rowF{α:Type}{sz:Nat}{f:α→List Value}{s:World}{A:Option Addr}{n c:Nat}{l:List α}(h:Sl sz (fun _ x cs=>cs=f x) s A n c l)(hf:∀ x,(f x).length=sz)(h1:∀ x,∀ u∈f x,u.oneCell'=true):Row s A n sz (l.map f).flatten:=by
  refine ⟨by rw [qn0 hf,h.1],fun u hu=>?_,fun j u hj=>?_⟩
  · obtain ⟨cs,hc,hu⟩:=List.mem_flatten.1 hu
    obtain ⟨x,_,rfl⟩:=List.mem_map.1 hc
    exact h1 x u hu
  · cases l with
    | nil=>simp at hj
    | cons x r=>
      obtain ⟨b,off,cs,hA,_,_,_⟩:=h.2.2.2 0 x rfl
      subst hA
      refine ⟨b,off,Z,qgn hf (l:=x::r) (off:=off) (fun i y hy=>?_) j u hj⟩
      obtain ⟨b2,off2,cs2,hA2,h2,_,h3⟩:=h.2.2.2 i y hy
      injection hA2 with hA2
      injection hA2 with e1 e2
      subst e1;subst e2;subst h3
      exact h2
theorem Own.rowF{α:Type}{e sz:Nat}{f:α→List Value}{M:Hl}{A:Option Addr}{n c:Nat}{l:List α}{s:World}(h:FL.Own e sz M (.slice A n c) n (l.map f).flatten)(hf:∀ x,(f x).length=sz)(hp:Pub M s)(hn:n=l.length):Sl sz (fun _ x cs=>cs=f x) s A n c l:=by
 refine Own.rows h hp ?_ hn
 clear h hn
 induction l with
 | nil=>exact .nil
 | cons x r ih=>exact .cons ⟨hf x,rfl⟩ ih
open Go.Proofs.Tryz
open Go.FL
attribute [local irreducible] JC JO JA JB qaJ qaw qbM AC fill CellsAt QE Ev Mid
structure RNd where
 name:Str
 u:Int
 count:Int
 loops:Int
def qo8(u:Int):Str:=if u=1 then [115,101,116] else if u=2 then [103,101,116] else if u=3 then [105,116,101,109] else if u=4 then [99,97,108,108] else [108,101,97,118,101]
def rnv(r:RNd):List Value:=[St r.name,St (qo8 r.u),.int .i64 r.count,.int .i64 r.loops]
def qjS(l:List RNd):List Value:=(l.map rnv).flatten
theorem qcy(a b:List RNd):qjS (a++b)=qjS a++qjS b:=by simp [qjS]
def Rns(s:World)(A:Option Addr)(n c:Nat)(l:List RNd):Prop:=Sl 4 (fun _ r cs=>cs=rnv r) s A n c l
theorem Rns.le{D:Nat}{s s':World}{A:Option Addr}{n c:Nat}{l:List RNd}(h:Rns s A n c l)(hl:Le D s s'):Rns s' A n c l:=Sl.le (fun _ _ h=>h) h hl
theorem Rns.row{s:World}{A:Option Addr}{n c:Nat}{l:List RNd}(h:Rns s A n c l):Row s A n 4 (qjS l):=Sl.rowF h (fun _=>rfl) (fun x u hu=>by
 simp only [rnv,List.mem_cons,List.not_mem_nil,or_false] at hu
 rcases hu with rfl | rfl | rfl | rfl <;> rfl)
theorem Rns.at_{s:World}{A:Option Addr}{n c k:Nat}{l:List RNd}(h:Rns s A n c l)(hk:k < n):∃ b off r,A=some ⟨b,off,none⟩∧l[k]?=some r∧CellsAt s b (off+k * 4) [St r.name,St (qo8 r.u),.int .i64 r.count,.int .i64 r.loops]:=by
 have hl:k < l.length:=by rw [← h.1];exact hk
 obtain ⟨b,off,cs,h1,h2,_,rfl⟩:=h.2.2.2 k l[k] (List.getElem?_eq_getElem hl)
 exact ⟨b,off,l[k],h1,List.getElem?_eq_getElem hl,h2⟩
def ndR:Nd→List RNd
 | .ex x _=>if 2≤x.kind∧x.kind≤4 then [⟨x.name,x.kind,(x.args.length:Int),0⟩] else []
 | .st x lp=>if x.kind=1 then [⟨x.name,1,0,0⟩] else if x.kind=2 then [⟨x.name,3,0,0⟩] else if x.kind=5 then [⟨x.name,4,(x.exprs.length:Int),0⟩] else if 8 < x.kind then [⟨[],5,0,(lp:Int)⟩] else []
theorem qph(n:Nd):(ndR n).length≤1:=by
 cases n with
 | ex x lp=>
  by_cases h:2≤x.kind∧x.kind≤4
  · rw [ndR,if_pos h];exact Nat.le_refl 1
  · rw [ndR,if_neg h];exact Nat.zero_le _
 | st x lp=>
  rw [ndR]
  by_cases h1:x.kind=1
  · rw [if_pos h1];exact Nat.le_refl 1
  rw [if_neg h1]
  by_cases h2:x.kind=2
  · rw [if_pos h2];exact Nat.le_refl 1
  rw [if_neg h2]
  by_cases h5:x.kind=5
  · rw [if_pos h5];exact Nat.le_refl 1
  rw [if_neg h5]
  by_cases h8:8 < x.kind
  · rw [if_pos h8];exact Nat.le_refl 1
  · rw [if_neg h8];exact Nat.zero_le _
theorem qlC(l:List Nd):(l.flatMap ndR).length≤l.length:=by
 induction l with
 | nil=>simp
 | cons x r ih=>have:=qph x;rw [List.flatMap_cons,List.length_append,List.length_cons];omega
def rxs(l:List Ex)(lp:Nat):List RNd:=(qd2 l lp).flatMap ndR
def rss(l:List Stm)(lp:Nat):List RNd:=(qcz l lp).flatMap ndR
mutual
theorem qvn:∀ (x:Ex) (lp:Nat),(ndX x lp).flatMap ndR=(ndX x 0).flatMap ndR
 | .mk k o n nm ar,lp=>by rw [ndX,ndX,List.flatMap_cons,List.flatMap_cons,qmd ar lp];rfl
theorem qmd:∀ (l:List Ex) (lp:Nat),(qd2 l lp).flatMap ndR=(qd2 l 0).flatMap ndR
 | [],_=>rfl
 | x::r,lp=>by rw [qd2,qd2,List.flatMap_append,List.flatMap_append,qvn x lp,qmd r lp]
end
theorem qng(a b:List Ex)(lp:Nat):qd2 (a++b) lp=qd2 a lp++qd2 b lp:=by
 induction a with
 | nil=>rfl
 | cons x r ih=>rw [List.cons_append,qd2,qd2,ih,List.append_assoc]
theorem qoW(a b:List Stm)(lp:Nat):qcz (a++b) lp=qcz a lp++qcz b lp:=by
 induction a with
 | nil=>rfl
 | cons x r ih=>rw [List.cons_append,qcz,qcz,ih,List.append_assoc]
theorem qfn{l:List Ex}{k:Nat}{x:Ex}(h:l[k]?=some x):rxs (l.take (k+1)) 0=rxs (l.take k) 0++ndR (.ex x 0)++rxs x.args 0:=by
 rw [rxs,qaS h,qng,List.flatMap_append]
 cases x with
 | mk a b c d e=>simp only [qd2,ndX,List.append_nil,List.flatMap_cons,rxs,List.append_assoc,Ex.args]
theorem qn9{l:List Stm}{k lp:Nat}{x:Stm}(h:l[k]?=some x):rss (l.take (k+1)) lp=rss (l.take k) lp++ndR (.st x lp)++rxs x.exprs 0++rss x.body (lpI x lp)++rss x.els (lpI x lp):=by
 rw [rss,qaS h,qoW,List.flatMap_append]
 cases x with
 | mk a b c d e=>
  simp only [qcz,ndS,List.append_nil,List.flatMap_cons,List.flatMap_append,rss,rxs,List.append_assoc,Stm.exprs,Stm.body,Stm.els,lpI,Stm.kind]
  rw [qmd c lp]
  rfl
theorem qk3(l:List Ex)(lp:Nat):(rxs l lp).length≤qdD l:=Nat.le_trans (qlC _) (Nat.le_of_eq (qfu l lp))
theorem qkY(l:List Stm)(lp:Nat):(rss l lp).length≤qch l:=Nat.le_trans (qlC _) (Nat.le_of_eq (qfp l lp))
theorem qjR(l:List Ex)(k:Nat):qdD (l.take k)≤qdD l:=by
 induction l generalizing k with
 | nil=>simp [qdD]
 | cons x r ih=>cases k with
  | zero=>simp [qdD]
  | succ k=>rw [List.take_succ_cons,qdD,qdD];have:=ih k;omega
theorem qjT(l:List Stm)(k:Nat):qch (l.take k)≤qch l:=by
 induction l generalizing k with
 | nil=>simp [qch]
 | cons x r ih=>cases k with
  | zero=>simp [qch]
  | succ k=>rw [List.take_succ_cons,qch,qch];have:=ih k;omega
def RNX(D d:Nat):Prop:=∀ (L:Hl) (s:World) (A:Option Addr) (n c:Nat) (xs:List Ex),Exs d s A n c xs→qdD xs≤4000000→AC prog D 56 [.slice A n c] L s fun v L' s'=>L=L'∧∃ A' n' c',v=.slice A' n' c'∧Rns s' A' n' c' (rxs xs 0)
def RNS(D d:Nat):Prop:=∀ (L:Hl) (s:World) (A:Option Addr) (n c:Nat) (xs:List Stm) (lp lv:Nat),Stms d s A n c xs→qdN xs lv=true→lp≤lv→qch xs≤4000000→AC prog D 27 [.slice A n c,.int .i64 (lp:Int)] L s fun v L' s'=>L=L'∧∃ A' n' c',v=.slice A' n' c'∧Rns s' A' n' c' (rss xs lp)
theorem qle(D d:Nat)(ih:∀ e,d=e+1→RNX D e)(L:Hl)(s:World)(A:Option Addr)(n c:Nat)(xs:List Ex)(hA:Exs d s A n c xs)(hx9:qdD xs≤4000000):AC prog D 56 [.slice A n c] L s fun v L' s'=>∃ M',L'=M'++L∧∀ s2,Le D s' s2→Pub M' s2→∃ A' n' c',v=.slice A' n' c'∧Rns s2 A' n' c' (rxs xs 0):=by
 have hn:=hA.1
 have hc1:=hA.2.1
 have hc2:=hA.2.2.1
 refine qai (fn:=f56) qao func56 V Z ntmps56 Z (rs:=[.tmp 2]) Z [(0,_)] Z<|Sr<|At Z Z<|Sr<|At Z Z<|Zs<|Sr<|At Z Z<|Zp<|?_
 refine qav (γ:=Nat×Value×Hl) (fun g=>[(0,_),(2,_),(3,g.2.1),(4,.int .i64 (g.1:Int))]) (fun g=>g.2.2++L) (fun g tw=>Le D s tw∧(g.1≤n∧FL.Own 71 4 g.2.2 g.2.1 (rxs (xs.take g.1) 0).length (qjS (rxs (xs.take g.1) 0)))) (fun g=>n - g.1) (fun _ _ _ h hl=>⟨h.1.trans hl,h.2⟩) (0,.slice none 0 0,[]) (.c4 Z Z Z Z (.nil _)) Z ⟨Le.refl _,⟨Nat.zero_le _,FL.Own.nil⟩⟩ ?_
 intro g s1 I1
 obtain ⟨k,vo,Mo⟩:=g
 obtain ⟨hk0,hO⟩:=I1.2
 simp only at hk0 hO
 dsimp only
 obtain ⟨Ao,co,rfl,_,_⟩:=Own.slice hO
 have hle1:=qk3 (xs.take k) 0
 have hle2:=qjR xs k
 refine Zs<|Sr<|Zqm Z Z<|Zqm Z Z<|Ws Y4<|qbh Z Z Z<|Nt<|?_
 refine qaa Z (fun c2=>?_) (fun c2=>?_)
 ·
  have hk:k < n:=by omega
  obtain ⟨e,b,off,x,A',n',c',hd,rfl,hx,hcx,hax,hux,hnl⟩:=Exs.at_ (hA.le I1.1) hk
  have hx8:=qjc hx
  have hn':=hax.1
  have hax2:=hax.2.1
  have hax3:=hax.2.2.1
  have hle3:=qk3 x.args 0
  refine Zk<|Zt<|Zs<|Zp<|Sr<|Zqm Z Z<|Zqm Z Z<|qac (qap Z Z Z Z Z Z hk) Z<|qac (qau Z Z Z (hcx.le (Lr D)) Z) Z<|qaj Z [_,_,_,_,_] Z Z ?_
  intro β3 s3 h3
  refine Wt 0 [_,_,_,_,_] Y9<|Nt<|Zs<|Sr<|W0 Y5<|Wl 0 Y6<|Jc Z Z Z (qcY D _ _ _ _ _) ?_
  rintro _ _ s4 h4 ⟨rfl,rfl⟩
  refine Nt<|?_
  refine qaa Z (fun c5=>?_) (fun c5=>?_)
  ·
   have g19:=c5
   have hu3:x.kind=2∨x.kind=3∨x.kind=4:=by omega
   have hR0:ndR (.ex x 0)=[⟨x.name,x.kind,(x.args.length:Int),0⟩]:=if_pos O
   have hlit:qjS [⟨x.name,x.kind,(x.args.length:Int),0⟩]=[St x.name,St (qo8 x.kind),.int .i64 (n':Int),.int .i64 0]:=by rw [hn'];rfl
   refine Sr<|qbk [(_,_),(_,_),(_,_)] [_,_,_] Z Z Z Z Z Z Z Z Z ?_
   intro βu s6 h6 hcu
   refine At Z Z<|?_
   rcases hu3 with g2 | g2 | g2
   ·
    refine qa2 qad 16 Z 1 ?_
    intro s7 h7
    refine za 0 Z (qan Z) Z<|za 1 Z (We Y4) Z<|za 2 Z (Wd 0 Y5) Z<|za 3 Z (qan Z) Z<|za 4 Z (qbp Z Z Z Z) Z<|za 5 Z (Wd 0 Y5) Z<|za 6 Z (qbd (c:=((0:Nat):Int)) Z Z (by rw [w64 O O];omega)) Z<|za 7 Z (qap (j:=0) Z Z Z Z Z Z Dc) Z<|za 8 Z (qaC 0 Z Z Z (hcu.le h7) Z) Z<|za 9 Z (We Y4) Z<|za 10 Z (Wd 0 Y5) Z<|za 11 Z (qbR Z Z Z) Z<|za 12 Z (qam [(_,_),(_,_),(_,_)] [_,_,_,_] Z Z Z Z Z Z) Z<|qax 13 V ?_
    refine qhX Z Tt [(_,_)] [_,_,_,_] Z Z Z Z Z Z Z Z Z ?_
    intro βn s8 h8 hcb
    refine qax 14 V<|qe7 (sz:=4) Z (by exact Tt) [_] Mo L Z Z Z Z Z Z Z hO (Row.of_cells (hcb.le (Lr D)) Z Z) ⟨by simp [ti71];omega,by omega⟩ Z (fun A2 x hx _=>qe9 hx) ?_
    intro vx1 Mx1 s9 h9 ox1
    obtain ⟨Ax1,cx1,rfl,_,_⟩:=Own.slice ox1
    simp only [cQ9,nQ9]
    refine za 15 Z (qaM Z) Z<|qal V<|Zt<|Zr<|Zqm Z Z<|Wb Y5<|Wl 0 Y6<|Jc Z Z Z (ih e hd _ _ A' n' c' x.args (hax.le (h3.t h4|>.t h6|>.t h7|>.t h8|>.t h9)) O) ?_
    rintro _ _ s10 h10 ⟨rfl,Ar,nr,cr,rfl,hRr⟩
    have hAr:=hRr.1
    refine qba (sz:=4) [_] Mx1 L Z Z Z Z Z Z Z ox1 (hRr.le (Lr D)).row ⟨by simp [ti71];omega,by omega⟩ Z ?_
    intro vx2 Mx2 s11 h11 ox2
    obtain ⟨Ax2,cx2,rfl,_,_⟩:=Own.slice ox2
    simp only [cQ9,nQ9]
    refine Zqa Z Z<|Zn<|Zb<|Zt<|Zr<|Zqm Z Z<|qaF Z Z Z (w64 O O)<|Zqa Z Z<|Zn<|?_
    refine qab ⟨(k+1,.slice Ax2 _ cx2,Mx2),[_],kp,Z,⟨(I1.1.t h3|>.t h4|>.t h6|>.t h7|>.t h8|>.t h9|>.t h10|>.t h11),⟨by simp only;omega,by simp only;rw [qfn hx,hR0,List.length_append,List.length_append,qcy,qcy];rw [← hAr,hlit,g2];exact ox2⟩⟩,Oz⟩
   ·
    refine qa2 qad 16 Z 1 ?_
    intro s12 h12
    refine za 0 Z (qan Z) Z<|za 1 Z (We Y4) Z<|za 2 Z (Wd 0 Y5) Z<|za 3 Z (qan Z) Z<|za 4 Z (qbp Z Z Z Z) Z<|za 5 Z (Wd 0 Y5) Z<|za 6 Z (qbd (c:=((1:Nat):Int)) Z Z (by rw [w64 O O];omega)) Z<|za 7 Z (qap (j:=1) Z Z Z Z Z Z Dc) Z<|za 8 Z (qaC 1 Z Z Z (hcu.le h12) Z) Z<|za 9 Z (We Y4) Z<|za 10 Z (Wd 0 Y5) Z<|za 11 Z (qbR Z Z Z) Z<|za 12 Z (qam [(_,_),(_,_),(_,_)] [_,_,_,_] Z Z Z Z Z Z) Z<|qax 13 V ?_
    refine qhX Z Tt [(_,_)] [_,_,_,_] Z Z Z Z Z Z Z Z Z ?_
    intro βn s13 h13 hcb
    refine qax 14 V<|qe7 (sz:=4) Z (by exact Tt) [_] Mo L Z Z Z Z Z Z Z hO (Row.of_cells (hcb.le (Lr D)) Z Z) ⟨by simp [ti71];omega,by omega⟩ Z (fun A2 x hx _=>qe9 hx) ?_
    intro vx1 Mx1 s14 h14 ox1
    obtain ⟨Ax1,cx1,rfl,_,_⟩:=Own.slice ox1
    simp only [cQ9,nQ9]
    refine za 15 Z (qaM Z) Z<|qal V<|Zt<|Zr<|Zqm Z Z<|Wb Y5<|Wl 0 Y6<|Jc Z Z Z (ih e hd _ _ A' n' c' x.args (hax.le (h3.t h4|>.t h6|>.t h12|>.t h13|>.t h14)) O) ?_
    rintro _ _ s15 h15 ⟨rfl,Ar,nr,cr,rfl,hRr⟩
    have hAr:=hRr.1
    refine qba (sz:=4) [_] Mx1 L Z Z Z Z Z Z Z ox1 (hRr.le (Lr D)).row ⟨by simp [ti71];omega,by omega⟩ Z ?_
    intro vx2 Mx2 s16 h16 ox2
    obtain ⟨Ax2,cx2,rfl,_,_⟩:=Own.slice ox2
    simp only [cQ9,nQ9]
    refine Zqa Z Z<|Zn<|Zb<|Zt<|Zr<|Zqm Z Z<|qaF Z Z Z (w64 O O)<|Zqa Z Z<|Zn<|?_
    refine qab ⟨(k+1,.slice Ax2 _ cx2,Mx2),[_],kp,Z,⟨(I1.1.t h3|>.t h4|>.t h6|>.t h12|>.t h13|>.t h14|>.t h15|>.t h16),⟨by simp only;omega,by simp only;rw [qfn hx,hR0,List.length_append,List.length_append,qcy,qcy];rw [← hAr,hlit,g2];exact ox2⟩⟩,Oz⟩
   refine qa2 qad 16 Z 1 ?_
   intro s17 h17
   refine za 0 Z (qan Z) Z<|za 1 Z (We Y4) Z<|za 2 Z (Wd 0 Y5) Z<|za 3 Z (qan Z) Z<|za 4 Z (qbp Z Z Z Z) Z<|za 5 Z (Wd 0 Y5) Z<|za 6 Z (qbd (c:=((2:Nat):Int)) Z Z (by rw [w64 O O];omega)) Z<|za 7 Z (qap (j:=2) Z Z Z Z Z Z Dc) Z<|za 8 Z (qaC 2 Z Z Z (hcu.le h17) Z) Z<|za 9 Z (We Y4) Z<|za 10 Z (Wd 0 Y5) Z<|za 11 Z (qbR Z Z Z) Z<|za 12 Z (qam [(_,_),(_,_),(_,_)] [_,_,_,_] Z Z Z Z Z Z) Z<|qax 13 V<|qhX Z Tt [(_,_)] [_,_,_,_] Z Z Z Z Z Z Z Z Z ?_
   intro βn s18 h18 hcb
   refine qax 14 V<|qe7 (sz:=4) Z (by exact Tt) [_] Mo L Z Z Z Z Z Z Z hO (Row.of_cells (hcb.le (Lr D)) Z Z) ⟨by simp [ti71];omega,by omega⟩ Z (fun A2 x hx _=>qe9 hx) ?_
   intro vx1 Mx1 s19 h19 ox1
   obtain ⟨Ax1,cx1,rfl,_,_⟩:=Own.slice ox1
   simp only [cQ9,nQ9]
   refine za 15 Z (qaM Z) Z<|qal V<|Zt<|Zr<|Zqm Z Z<|Wb Y5<|Wl 0 Y6<|Jc Z Z Z (ih e hd _ _ A' n' c' x.args (hax.le (h3.t h4|>.t h6|>.t h17|>.t h18|>.t h19)) O) ?_
   rintro _ _ s20 h20 ⟨rfl,Ar,nr,cr,rfl,hRr⟩
   have hAr:=hRr.1
   refine qba (sz:=4) [_] Mx1 L Z Z Z Z Z Z Z ox1 (hRr.le (Lr D)).row ⟨by simp [ti71];omega,by omega⟩ Z ?_
   intro vx2 Mx2 s21 h21 ox2
   obtain ⟨Ax2,cx2,rfl,_,_⟩:=Own.slice ox2
   simp only [cQ9,nQ9]
   refine Zqa Z Z<|Zn<|Zb<|Zt<|Zr<|Zqm Z Z<|qaF Z Z Z (w64 O O)<|Zqa Z Z<|Zn<|?_
   refine qab ⟨(k+1,.slice Ax2 _ cx2,Mx2),[_],kp,Z,⟨(I1.1.t h3|>.t h4|>.t h6|>.t h17|>.t h18|>.t h19|>.t h20|>.t h21),⟨by simp only;omega,by simp only;rw [qfn hx,hR0,List.length_append,List.length_append,qcy,qcy];rw [← hAr,hlit,g2];exact ox2⟩⟩,Oz⟩
  have hR0:ndR (.ex x 0)=[]:=if_neg (by have:=c5;omega)
  refine Zk<|Zt<|Zr<|Zqm Z Z<|Wb Y5<|Wl 0 Y6<|Jc Z Z Z (ih e hd _ _ A' n' c' x.args (hax.le (h3.t h4)) O) ?_
  rintro _ _ s22 h22 ⟨rfl,Ar,nr,cr,rfl,hRr⟩
  have hAr:=hRr.1
  refine qba (sz:=4) [_] Mo L Z Z Z Z Z Z Z hO (hRr.le (Lr D)).row ⟨by simp [ti71];omega,by omega⟩ Z ?_
  intro vx1 Mx1 s23 h23 ox1
  obtain ⟨Ax1,cx1,rfl,_,_⟩:=Own.slice ox1
  simp only [cQ9,nQ9]
  refine Zqa Z Z<|Zn<|Zb<|Zt<|Zr<|Zqm Z Z<|qaF Z Z Z (w64 O O)<|Zqa Z Z<|Zn<|?_
  refine qab ⟨(k+1,.slice Ax1 _ cx1,Mx1),[_],kp,Z,⟨(I1.1.t h3|>.t h4|>.t h22|>.t h23),⟨by simp only;omega,by simp only;rw [qfn hx,hR0,List.length_append,List.length_append,qcy,qcy];rw [← hAr];simpa [qjS] using ox1⟩⟩,Oz⟩
 obtain rfl:n=k:=by omega
 rw [List.take_of_length_le O] at hO ⊢
 refine Zl<|Zv<|Zv<|Zd<|Zt<|Sr<|Zqm Z Z<|At Z Z<|Zo<|?_
 refine rR [] _ (.t1 Z) Z I1.1 fun _ hS2=>?_
 exact ⟨Mo,rfl,fun s2 hs2 hp=>⟨_,_,_,rfl,Own.rowF hO (fun _=>rfl) hp rfl⟩⟩
theorem qo7{D d:Nat}(h:∀ (L:Hl) (s:World) (A:Option Addr) (n c:Nat) (xs:List Ex),Exs d s A n c xs→qdD xs≤4000000→AC prog D 56 [.slice A n c] L s fun v L' s'=>∃ M',L'=M'++L∧∀ s2,Le D s' s2→Pub M' s2→∃ A' n' c',v=.slice A' n' c'∧Rns s2 A' n' c' (rxs xs 0)):RNX D d:=fun L s A n c xs hA hx=>AC.pubW (h L s A n c xs hA hx)
theorem rnx(D:Nat):∀ d,RNX D d
 | 0=>qo7 (qle D 0 (fun e h=>by omega))
 | d+1=>qo7 (qle D (d+1) (fun e h=>(show d=e by omega)▸rnx D d))
theorem qlh(D d:Nat)(ih:∀ e,d=e+1→RNS D e)(L:Hl)(s:World)(A:Option Addr)(n c:Nat)(xs:List Stm)(lp lv:Nat)(hA:Stms d s A n c xs)(hv:qdN xs lv=true)(hlp:lp≤lv)(hx9:qch xs≤4000000):AC Tryz.prog D 27 [.slice A n c,.int .i64 (lp:Int)] L s fun v L' s'=>∃ M',L'=M'++L∧∀ s2,Le D s' s2→Pub M' s2→∃ A' n' c',v=.slice A' n' c'∧Rns s2 A' n' c' (rss xs lp):=by
 have hn:=hA.1
 have hc1:=hA.2.1
 have hc2:=hA.2.2.1
 refine qai (fn:=Tryz.f27) qao Tryz.func27 V Z Tryz.ntmps27 Z (rs:=[.tmp 4]) Z [(0,_),(1,_)] Z<|Sr<|At Z Z<|Sr<|At Z Z<|Zs<|Sr<|At Z Z<|Zp<|?_
 refine qav (γ:=Nat×Value×Hl) (fun g=>[(0,_),(1,_),(4,_),(5,g.2.1),(6,.int .i64 (g.1:Int))]) (fun g=>g.2.2++L) (fun g tw=>Le D s tw∧(g.1≤n∧FL.Own 71 4 g.2.2 g.2.1 (rss (xs.take g.1) lp).length (qjS (rss (xs.take g.1) lp)))) (fun g=>n - g.1) (fun _ _ _ h hl=>⟨h.1.trans hl,h.2⟩) (0,.slice none 0 0,[]) (.c5 Z Z Z Z Z (.nil _)) Z ⟨Le.refl _,⟨Nat.zero_le _,FL.Own.nil⟩⟩ ?_
 intro g s1 I1
 obtain ⟨k,vo,Mo⟩:=g
 obtain ⟨hk0,hO⟩:=I1.2
 simp only at hk0 hO
 dsimp only
 obtain ⟨Ao,co,rfl,_,_⟩:=Own.slice hO
 have hle1:=qkY (xs.take k) lp
 have hle2:=qjT xs k
 refine Zs<|Sr<|Zqm Z Z<|Zqm Z Z<|Ws Y4<|qbh Z Z Z<|Nt<|?_
 refine qaa Z (fun c2=>?_) (fun c2=>?_)
 ·
  have hk:k < n:=by omega
  obtain ⟨e,b,off,x,A1,n1,p1,A2,n2,p2,A3,n3,p3,hd,rfl,hx,hcx,hax,hbx,hex,hnl⟩:=Stms.at_ (hA.le I1.1) hk
  have hn1:=hax.1
  have hq1:=hax.2.1
  have hq2:=hax.2.2.1
  have hx8:=qgU hx
  obtain ⟨hvx,_⟩:=qdy hv hx
  obtain ⟨hlv,_,_,hvB,hvL⟩:=qcI hvx
  have hl3:=qk3 x.exprs 0
  have hl4:=qkY x.body (lpI x lp)
  have hl5:=qkY x.els (lpI x lp)
  have hl6:=qph (.st x lp)
  have hlI:lpI x lp≤lv+1:=by rw [lpI];split <;> omega
  refine Zk<|Zt<|Zs<|Zp<|Sr<|Zqm Z Z<|Zqm Z Z<|qac (qap Z Z Z Z Z Z hk) Z<|qac (qau Z Z Z (hcx.le (Lr D)) Z) Z<|qaj Z [_,_,_,_,_] Z Z ?_
  intro β3 s3 h3
  refine Wt 0 [_,_,_,_,_] Y9<|Nt<|Sr<|Zqm Z Z<|At Z Z<|?_
  refine qd9 (γ:=Value×Hl) (fun g=>[(5,g.1),(8,.int .i64 ((lpI x lp:Nat):Int))]) [_] Z (fun g=>g.2++L) (fun g tw=>FL.Own 71 4 g.2 g.1 ((rss (xs.take k) lp).length+(ndR (.st x lp)).length) (qjS (rss (xs.take k) lp)++qjS (ndR (.st x lp)))) (fun _ _ _ h hl=>h) ?_ ?_
  ·
   refine Sr<|W0 Y5<|Wl 0 Y6<|qar Z Z Z<|Nt<|?_
   refine qaa Z (fun c5=>?_) (fun c5=>?_)
   ·
    have hR0:ndR (.st x lp)=[⟨x.name,1,0,0⟩]:=if_pos c5
    refine Zr<|Zqm Z Z<|Wb Y5<|Wl 0 Y6<|qac (qam [(_,_),(_,_)] [_,_,_,_] Z Z Z Z Z Z) Z<|qbk [(_,_)] [_,_,_,_] Z Z Z Z Z Z Z Z Z ?_
    intro βn s6 h6 hcb
    refine qba (sz:=4) [_] Mo L Z Z Z Z Z Z Z hO (Row.of_cells (hcb.le (Lr D)) Z Z) ⟨by simp [ti71];omega,by omega⟩ Z ?_
    intro vx1 Mx1 s7 h7 ox1
    obtain ⟨Ax1,cx1,rfl,_,_⟩:=Own.slice ox1
    simp only [cQ9,nQ9]
    refine Zqa Z Z<|Zn<|?_
    refine qab (MidG.mk (.slice Ax1 _ cx1,Mx1) [] (h6.t h7) (.cons Z (.cons (congrArg (fun i:Int=>some (Value.int .i64 i)) (by rw [lpI];split <;> omega)) (.nil _))) So Pr (by rw [hR0];exact ox1))
   have g1:=c5
   refine Sr<|W0 Y5<|Wl 0 Y6<|qar Z Z Z<|Nt<|?_
   refine qaa Z (fun c8=>?_) (fun c8=>?_)
   ·
    have hR0:ndR (.st x lp)=[⟨x.name,3,0,0⟩]:=(if_neg g1).trans (if_pos c8)
    refine Zr<|Zqm Z Z<|Wb Y5<|Wl 0 Y6<|qac (qam [(_,_),(_,_)] [_,_,_,_] Z Z Z Z Z Z) Z<|qbk [(_,_)] [_,_,_,_] Z Z Z Z Z Z Z Z Z ?_
    intro βn s9 h9 hcb
    refine qba (sz:=4) [_] Mo L Z Z Z Z Z Z Z hO (Row.of_cells (hcb.le (Lr D)) Z Z) ⟨by simp [ti71];omega,by omega⟩ Z ?_
    intro vx1 Mx1 s10 h10 ox1
    obtain ⟨Ax1,cx1,rfl,_,_⟩:=Own.slice ox1
    simp only [cQ9,nQ9]
    refine Zqa Z Z<|Zn<|?_
    refine qab (MidG.mk (.slice Ax1 _ cx1,Mx1) [] (h9.t h10) (.cons Z (.cons (congrArg (fun i:Int=>some (Value.int .i64 i)) (by rw [lpI];split <;> omega)) (.nil _))) So Pr (by rw [hR0];exact ox1))
   have g2:=c8
   refine Sr<|W0 Y5<|Wl 0 Y6<|qar Z Z Z<|Nt<|?_
   refine qaa Z (fun c11=>?_) (fun c11=>?_)
   ·
    have hR0:ndR (.st x lp)=[⟨x.name,4,(n1:Int),0⟩]:=by rw [hn1];exact (if_neg g1).trans ((if_neg g2).trans (if_pos c11))
    refine Zr<|Zqm Z Z<|Wb Y5<|Wl 0 Y6<|Wb Y5<|Wl 0 Y6<|Ws Y4<|qac (qam [(_,_),(_,_),(_,_)] [_,_,_,_] Z Z Z Z Z Z) Z<|qbk [(_,_)] [_,_,_,_] Z Z Z Z Z Z Z Z Z ?_
    intro βn s12 h12 hcb
    refine qba (sz:=4) [_] Mo L Z Z Z Z Z Z Z hO (Row.of_cells (hcb.le (Lr D)) Z Z) ⟨by simp [ti71];omega,by omega⟩ Z ?_
    intro vx1 Mx1 s13 h13 ox1
    obtain ⟨Ax1,cx1,rfl,_,_⟩:=Own.slice ox1
    simp only [cQ9,nQ9]
    refine Zqa Z Z<|Zn<|?_
    refine qab (MidG.mk (.slice Ax1 _ cx1,Mx1) [] (h12.t h13) (.cons Z (.cons (congrArg (fun i:Int=>some (Value.int .i64 i)) (by rw [lpI];split <;> omega)) (.nil _))) So Pr (by rw [hR0];exact ox1))
   have g5:=c11
   refine Sr<|W0 Y5<|Wl 0 Y6<|qbv Z Z Z<|Nt<|?_
   refine qaa Z (fun c14=>?_) (fun c14=>?_)
   ·
    have hR0:ndR (.st x lp)=[⟨[],5,0,(lp:Int)⟩]:=(if_neg g1).trans ((if_neg g2).trans ((if_neg g5).trans (if_pos (by have:=c14;omega))))
    refine Zr<|Zqm Z Z<|Zqm Z Z<|qac (qam [(_,_),(_,_)] [_,_,_,_] Z Z Z Z Z Z) Z<|qbk [(_,_)] [_,_,_,_] Z Z Z Z Z Z Z Z Z ?_
    intro βn s15 h15 hcb
    refine qba (sz:=4) [_] Mo L Z Z Z Z Z Z Z hO (Row.of_cells (hcb.le (Lr D)) Z Z) ⟨by simp [ti71];omega,by omega⟩ Z ?_
    intro vx1 Mx1 s16 h16 ox1
    obtain ⟨Ax1,cx1,rfl,_,_⟩:=Own.slice ox1
    simp only [cQ9,nQ9]
    refine Zqa Z Z<|Zn<|?_
    refine qab (MidG.mk (.slice Ax1 _ cx1,Mx1) [] (h15.t h16) (.cons Z (.cons (congrArg (fun i:Int=>some (Value.int .i64 i)) (by rw [lpI];split <;> omega)) (.nil _))) So Pr (by rw [hR0];exact ox1))
   have hR0:ndR (.st x lp)=[]:=(if_neg g1).trans ((if_neg g2).trans ((if_neg g5).trans (if_neg (by have:=c14;omega))))
   refine Sr<|W0 Y5<|Wl 0 Y6<|qar Z Z Z<|Nt<|?_
   refine qaa Z (fun c17=>?_) (fun c17=>?_)
   ·
    refine Zr<|Zqm Z Z<|qaF Z Z Z (w64 O O)<|Zqa Z Z<|Zn<|?_
    refine qab (MidG.mk (.slice Ao _ co,Mo) [] (Lr D) (.cons Z (.cons (congrArg (fun i:Int=>some (Value.int .i64 i)) (by rw [lpI];split <;> omega)) (.nil _))) So Pr (by rw [hR0];simpa [qjS] using hO))
   refine Zk ?_
   refine qab (MidG.mk (.slice Ao _ co,Mo) [] (Lr D) (.cons Z (.cons (congrArg (fun i:Int=>some (Value.int .i64 i)) (by rw [lpI];split <;> omega)) (.nil _))) So Pr (by rw [hR0];simpa [qjS] using hO))
  intro g s4 h4 I4
  simp only [cQ9,nQ9]
  obtain ⟨vo,Mo⟩:=g
  have hO:=I4
  simp only at hO
  dsimp only
  obtain ⟨Ao,co,rfl,_,_⟩:=Own.slice hO
  refine Sr<|Zqm Z Z<|Wb Y5<|Wl 0 Y6<|Jc Z Z Z (rnx D e _ _ A1 n1 p1 x.exprs (hax.le (h3.t h4)) O) ?_
  rintro _ _ s18 h18 ⟨rfl,Ar,nr1,cr,rfl,hRx⟩
  have hr1:=hRx.1
  refine qba (sz:=4) [_] Mo L Z Z Z Z Z Z Z hO (hRx.le (Lr D)).row ⟨by simp [ti71];omega,by omega⟩ Z ?_
  intro vx1 Mx1 s19 h19 ox1
  obtain ⟨Ax1,cx1,rfl,_,_⟩:=Own.slice ox1
  simp only [cQ9,nQ9]
  refine At Z Z<|Sr<|Zqm Z Z<|Wb Y5<|Wl 0 Y6<|Zqm Z Z<|Jc Z Z Z (ih e hd _ _ A2 n2 p2 x.body (lpI x lp) (lv+1) (hbx.le (h3.t h4|>.t h18|>.t h19)) hvB hlI O) ?_
  rintro _ _ s20 h20 ⟨rfl,Ar2,nr2,cr2,rfl,hRb⟩
  have hr2:=hRb.1
  refine qba (sz:=4) [_] Mx1 L Z Z Z Z Z Z Z ox1 (hRb.le (Lr D)).row ⟨by simp [ti71];omega,by omega⟩ Z ?_
  intro vx2 Mx2 s21 h21 ox2
  obtain ⟨Ax2,cx2,rfl,_,_⟩:=Own.slice ox2
  simp only [cQ9,nQ9]
  refine At Z Z<|Zr<|Zqm Z Z<|Wb Y5<|Wl 0 Y6<|Zqm Z Z<|Jc Z Z Z (ih e hd _ _ A3 n3 p3 x.els (lpI x lp) (lv+1) (hex.le (h3.t h4|>.t h18|>.t h19|>.t h20|>.t h21)) hvL hlI O) ?_
  rintro _ _ s22 h22 ⟨rfl,Ar3,nr3,cr3,rfl,hRe⟩
  have hr3:=hRe.1
  refine qba (sz:=4) [_] Mx2 L Z Z Z Z Z Z Z ox2 (hRe.le (Lr D)).row ⟨by simp [ti71];omega,by omega⟩ Z ?_
  intro vx3 Mx3 s23 h23 ox3
  obtain ⟨Ax3,cx3,rfl,_,_⟩:=Own.slice ox3
  simp only [cQ9,nQ9]
  refine Zqa Z Z<|Zn<|Zb<|Zt<|Zr<|Zqm Z Z<|qaF Z Z Z (w64 O O)<|Zqa Z Z<|Zn<|?_
  refine qab ⟨(k+1,.slice Ax3 _ cx3,Mx3),[_],kp,Z,⟨(I1.1.t h3|>.t h4|>.t h18|>.t h19|>.t h20|>.t h21|>.t h22|>.t h23),⟨by simp only;omega,by simp only;rw [qn9 hx];simp only [List.length_append,qcy];rw [← hr1,← hr2,← hr3];exact ox3⟩⟩,Oz⟩
 obtain rfl:n=k:=by omega
 rw [List.take_of_length_le O] at hO ⊢
 refine Zl<|Zv<|Zv<|Zd<|Zt<|Sr<|Zqm Z Z<|At Z Z<|Zo<|?_
 refine rR [] _ (.t1 Z) Z I1.1 fun _ hS2=>?_
 exact ⟨Mo,rfl,fun s2 hs2 hp=>⟨_,_,_,rfl,Own.rowF hO (fun _=>rfl) hp rfl⟩⟩
theorem qps{D d:Nat}(h:∀ (L:Hl) (s:World) (A:Option Addr) (n c:Nat) (xs:List Stm) (lp lv:Nat),Stms d s A n c xs→qdN xs lv=true→lp≤lv→qch xs≤4000000→AC Tryz.prog D 27 [.slice A n c,.int .i64 (lp:Int)] L s fun v L' s'=>∃ M',L'=M'++L∧∀ s2,Le D s' s2→Pub M' s2→∃ A' n' c',v=.slice A' n' c'∧Rns s2 A' n' c' (rss xs lp)):RNS D d:=fun L s A n c xs lp lv hA h1 h2 h3=>AC.pubW (h L s A n c xs lp lv hA h1 h2 h3)
theorem rns(D:Nat):∀ d,RNS D d
 | 0=>qps (qlh D 0 (fun e h=>by omega))
 | d+1=>qps (qlh D (d+1) (fun e h=>(show d=e by omega)▸rns D d))
def rnC(p:Prg)(x:Fnc)(r:RNd):Int:=if r.u=5 then (if r.loops=0 then 24 else 0) else qeg p x (r.name,r.u,r.count)
theorem qjI{u:Int}(h:1≤u∧u≤5):qo8 u=[108,101,97,118,101]↔u=5:=by
 have h5:u=1∨u=2∨u=3∨u=4∨u=5:=by omega
 rcases h5 with rfl | rfl | rfl | rfl | rfl
 · exact iff_of_false Dc Dc
 · exact iff_of_false Dc Dc
 · exact iff_of_false Dc Dc
 · exact iff_of_false Dc Dc
 · exact iff_of_true Dc rfl
theorem mean_0{p:Prg}{x:Fnc}{nm:Str}:(qaz p x nm).1.1=0↔(qaz p x nm).2=false:=by
  constructor
  · intro h
    cases h2:(qaz p x nm).2 with
    | false=>rfl
    | true=>
      rcases qdh h2 with h3 | ⟨h3,_⟩ | ⟨h3,_⟩
      · omega
      · omega
      · omega
  · intro h;rw [qll h]
theorem qmr{u:Int}(h:1≤u∧u≤5)(h4:¬ u=4):¬ qo8 u=[99,97,108,108]:=by
 have h5:u=1∨u=2∨u=3∨u=5:=by omega
 rcases h5 with rfl | rfl | rfl | rfl <;> decide
def sgW:Str:=[115,101,116,32,103,101,116]
def qjK(gk mk:Int):Str:=if mk=4 then [99,97,108,108] else if mk=3 then (if gk=1 then [103,101,116] else if gk=2 then sgW else [105,116,101,109]) else sgW
theorem qi5{gk u mk:Int}(hu:1≤u∧u≤4)(hm:1≤mk∧mk≤4)(hg:mk=3→1≤gk∧gk≤3):qo8 u∈qfE 32 (qjK gk mk)↔qcb gk u mk:=by
  have h1:u=1∨u=2∨u=3∨u=4:=by omega
  have h2:mk=1∨mk=2∨mk=3∨mk=4:=by omega
  have e1:∀ g:Int,qjK g 1=sgW:=fun g=>rfl
  have e2:∀ g:Int,qjK g 2=sgW:=fun g=>rfl
  have e4:∀ g:Int,qjK g 4=[99,97,108,108]:=fun g=>rfl
  rcases h2 with rfl | rfl | rfl | rfl
  · rw [e1];rcases h1 with rfl | rfl | rfl | rfl
    · exact iff_of_true Dc O
    · exact iff_of_true Dc O
    · exact iff_of_false Dc O
    · exact iff_of_false Dc O
  · rw [e2];rcases h1 with rfl | rfl | rfl | rfl
    · exact iff_of_true Dc O
    · exact iff_of_true Dc O
    · exact iff_of_false Dc O
    · exact iff_of_false Dc O
  · have hg:=hg rfl
    have h3:gk=1∨gk=2∨gk=3:=by omega
    rcases h3 with rfl | rfl | rfl <;> rcases h1 with rfl | rfl | rfl | rfl <;> decide
  · rw [e4];rcases h1 with rfl | rfl | rfl | rfl
    · exact iff_of_false Dc O
    · exact iff_of_false Dc O
    · exact iff_of_false Dc O
    · exact iff_of_true Dc O
theorem qrK(gk mk:Int):(qjK gk mk).length≤7:=by
  unfold qjK
  by_cases h1:mk=4
  · rw [if_pos h1];decide
  rw [if_neg h1]
  by_cases h2:mk=3
  · rw [if_pos h2]
    by_cases h3:gk=1
    · rw [if_pos h3];decide
    rw [if_neg h3]
    by_cases h4:gk=2
    · rw [if_pos h4];decide
    · rw [if_neg h4];decide
  · rw [if_neg h2];decide
theorem qmE(D:Nat)(L:Hl)(s:World)(d:Nat)(p:Prg)(Ag Af:Option Addr)(ng cg nf cf:Nat)(hGl:Glos s Ag ng cg p.globals)(hFn:Fncs d s Af nf cf p.funcs)(hV:PV p)(f:Nat)(x:Fnc)(hx0:p.funcs[f]?=some x)(r:RNd)(hr:1≤r.u∧r.u≤5):AC Tryz.prog D 28 [.agg #[.slice Ag ng cg,.slice Af nf cf],.int .i64 (f:Int),.agg #[St r.name,St (qo8 r.u),.int .i64 r.count,.int .i64 r.loops]] L s fun v L' _=>v=.int .i64 (rnC p x r)∧L=L':=by
 have hn1:=hGl.1
 have hn2:=hFn.1
 refine qai (fn:=Tryz.f28) qao Tryz.func28 V Z Tryz.ntmps28 Z (rs:=[.tmp 6]) Z [(0,_),(1,_),(2,_)] Z<|Sr<|qaq Z Z ?_
 intro β1 s1 h1
 refine qaq Z Z ?_
 intro β2 s2 h2
 refine At Z Z<|Zs<|Sr<|Wb Y5<|Wl 0 Y6<|qac (qae (v':=.bool (decide (r.u=5))) (qiZ Z Z) (congrArg Value.bool (decide_eq_decide.2 (qjI hr)))) Z<|Nt<|?_
 refine qaa Z (fun c3=>?_) (fun c3=>?_)
 ·
  have g5:=c3
  refine Zs<|Sr<|Wb Y5<|Wl 0 Y6<|qar Z Z Z<|Nt<|?_
  refine qaa Z (fun c4=>?_) (fun c4=>?_)
  ·
   have hE:rnC p x r=24:=(if_pos g5).trans (if_pos c4)
   refine Sr<|At Z Z<|Zo<|Zu<|Zu<|?_
   refine rR [_,_] L (.t1 Z) Z (h1.t h2) fun _ hS2=>?_
   exact ⟨by rw [hE];rfl,rfl⟩
  have hE:rnC p x r=0:=(if_pos g5).trans (if_neg c4)
  refine Zk<|Zt<|Sr<|At Z Z<|Zo<|Zu<|?_
  refine rR [_,_] L (.t1 Z) Z (h1.t h2) fun _ hS2=>?_
  exact ⟨by rw [hE];rfl,rfl⟩
 have g5:=c3
 have hu4:1≤r.u∧r.u≤4:=by omega
 have hE0:rnC p x r=qeg p x (r.name,r.u,r.count):=if_neg g5
 have hn0:¬ r.u=0:=by omega
 refine Zk<|Zt<|Sr<|qac (qag 1 [_,_] Z Z Z Z Z) Z<|Zqm Z Z<|W0 Y5<|Wl 0 Y6<|Jc Z Z Z (qfB D _ _ d p Ag Af ng cg nf cf (hGl.le (h1.t h2)) (hFn.le (h1.t h2)) f x hx0 r.name) ?_
 rintro _ _ s5 h5 ⟨rfl,rfl⟩
 refine qaj Z [_,_] Z Z ?_
 intro β6 s6 h6
 refine Wt 0 [_,_] Y9<|Nt<|Zs<|Sr<|W0 Y5<|Wl 0 Y6<|qar Z Z Z<|Nt<|?_
 refine qaa Z (fun c7=>?_) (fun c7=>?_)
 ·
  have hE:rnC p x r=12:=hE0.trans ((if_neg hn0).trans (if_pos (mean_0.1 c7)))
  refine Sr<|At Z Z<|Zo<|Zu<|?_
  refine rR [_,_,_] L (.t1 Z) Z (h1.t h2|>.t h5|>.t h6) fun _ hS2=>?_
  exact ⟨by rw [hE];rfl,rfl⟩
 have g23:¬ (qaz p x r.name).2=false:=fun h=>c7 (mean_0.2 h)
 have hmk:=qdh (p:=p) (x:=x) (nm:=r.name) (by cases h9:(qaz p x r.name).2 with
   | false=>exact absurd h9 g23
   | true=>rfl)
 have hmk4:1≤(qaz p x r.name).1.1∧(qaz p x r.name).1.1≤4:=by omega
 have hg3:(qaz p x r.name).1.1=3→1≤qh3 p (qaz p x r.name).1.2∧qh3 p (qaz p x r.name).1.2≤3:=fun h=>by
   rcases hmk with q | ⟨_,k,q1,q2⟩ | ⟨q,_⟩
   · omega
   · rw [q1,qeL (List.getElem?_eq_getElem q2)]
     have:=qcn (hV.2.2.1 _ (List.getElem_mem q2)).1
     exact ⟨this.1,this.2.1⟩
   · omega
 refine Zk<|Zt<|Sr<|At Z Z<|?_
 refine qd9 (γ:=Unit) (fun g=>[(8,St (qjK (qh3 p (qaz p x r.name).1.2) (qaz p x r.name).1.1))]) [_,_,_] Z (fun g=>L) (fun g tw=>True) (fun _ _ _ h hl=>h) ?_ ?_
 ·
  refine Sr<|W0 Y5<|Wl 0 Y6<|qar Z Z Z<|Nt<|?_
  refine qaa Z (fun c9=>?_) (fun c9=>?_)
  ·
   have hS8:[99,97,108,108]=qjK (qh3 p (qaz p x r.name).1.2) (qaz p x r.name).1.1:=by rw [qjK,if_pos c9]
   refine Zr<|Zqa Z Z<|Zn<|?_
   refine qab (MidG.mk () [] (Lr D) (.cons (congrArg (fun l:List UInt8=>some (St l)) As) (.nil _)) So Pr Tt)
  have g26:=c9
  refine Sr<|W0 Y5<|Wl 0 Y6<|qar Z Z Z<|Nt<|?_
  refine qaa Z (fun c10=>?_) (fun c10=>?_)
  ·
   have g29:=c10
   obtain ⟨gi,hgi,hgl⟩:∃ k:Nat,(qaz p x r.name).1.2=(k:Int)∧k < p.globals.length:=by
     rcases hmk with q | ⟨_,q⟩ | ⟨q,_⟩
     · omega
     · exact q
     · omega
   have hgn:gi < ng:=by omega
   obtain ⟨b,off,z,Ai,ni,ci,rfl,hz,hcz,hiz,huz,hnz⟩:=Glos.at_ (hGl.le (h1.t h2|>.t h5|>.t h6)) hgn
   have hgk:=qeL hz
   have hgk3:z.kind=1∨z.kind=2∨z.kind=3:=by have:=hg3 g29;rw [hgi,hgk] at this;omega
   have hS8:(if z.kind=1 then [103,101,116] else if z.kind=2 then sgW else [105,116,101,109])=qjK (qh3 p (qaz p x r.name).1.2) (qaz p x r.name).1.1:=by rw [qjK,if_neg g26,if_pos g29,hgi,hgk]
   refine Sr<|qbk [(_,_),(_,_),(_,_)] [_,_,_] Z Z Z Z Z Z Z Z Z ?_
   intro βu s11 h11 hcu
   refine At Z Z<|?_
   rcases hgk3 with g3 | g3 | g3
   ·
    rw [if_pos g3] at hS8
    refine Zr<|Zqm Z Z<|W0 Y5<|Wl 2 Y6<|Wb Y5<|Wl 0 Y6<|qac (qap (j:=gi) Z (show lk _ _=some (.int .i64 (gi:Int)) from by rw [← hgi];rfl) Z Z Z Z hgn) Z<|W0 Y5<|qac (qah Z Z Z (hcz.le h11) Z) Z<|qac (qbd (c:=((0:Nat):Int)) Z Z (by rw [w64 O O];omega)) Z<|qac (qap (j:=0) Z Z Z Z Z Z Dc) Z<|qac (qaC 0 Z Z Z (hcu.le (Lr D)) Z) Z<|Zqa Z Z<|Zn<|?_
    refine qab (MidG.mk () [] h11 (.cons (congrArg (fun l:List UInt8=>some (St l)) As) (.nil _)) So Pr Tt)
   ·
    rw [if_neg O,if_pos g3] at hS8
    rw [show sgW=[115,101,116,32,103,101,116] from rfl] at hS8
    refine Zr<|Zqm Z Z<|W0 Y5<|Wl 2 Y6<|Wb Y5<|Wl 0 Y6<|qac (qap (j:=gi) Z (show lk _ _=some (.int .i64 (gi:Int)) from by rw [← hgi];rfl) Z Z Z Z hgn) Z<|W0 Y5<|qac (qah Z Z Z (hcz.le h11) Z) Z<|qac (qbd (c:=((1:Nat):Int)) Z Z (by rw [w64 O O];omega)) Z<|qac (qap (j:=1) Z Z Z Z Z Z Dc) Z<|qac (qaC 1 Z Z Z (hcu.le (Lr D)) Z) Z<|Zqa Z Z<|Zn<|?_
    refine qab (MidG.mk () [] h11 (.cons (congrArg (fun l:List UInt8=>some (St l)) As) (.nil _)) So Pr Tt)
   rw [if_neg O,if_neg O] at hS8
   refine Zr<|Zqm Z Z<|W0 Y5<|Wl 2 Y6<|Wb Y5<|Wl 0 Y6<|qac (qap (j:=gi) Z (show lk _ _=some (.int .i64 (gi:Int)) from by rw [← hgi];rfl) Z Z Z Z hgn) Z<|W0 Y5<|qac (qah Z Z Z (hcz.le h11) Z) Z<|qac (qbd (c:=((2:Nat):Int)) Z Z (by rw [w64 O O];omega)) Z<|qac (qap (j:=2) Z Z Z Z Z Z Dc) Z<|qac (qaC 2 Z Z Z (hcu.le (Lr D)) Z) Z<|Zqa Z Z<|Zn<|?_
   refine qab (MidG.mk () [] h11 (.cons (congrArg (fun l:List UInt8=>some (St l)) As) (.nil _)) So Pr Tt)
  have hS8:sgW=qjK (qh3 p (qaz p x r.name).1.2) (qaz p x r.name).1.1:=by rw [qjK,if_neg g26,if_neg c10]
  refine Zk ?_
  refine qab (MidG.mk () [] (Lr D) (.cons (congrArg (fun l:List UInt8=>some (St l)) As) (.nil _)) So Pr Tt)
 intro g s8 h8 I8
 simp only [cQ9,nQ9]
 refine Zs<|Zs<|qay qad 6 Z _ (fun _ h=>h) ?_
 intro s12 h12
 refine za 0 Z (qan Z) Z<|za 2 Z (We Y4) Z<|za 3 Z (Wd 1 Y5) Z<|qax 1 V<|Jb Z Tt Z Z Z (qgQ D _ _ _ 32 (by have:=qrK (qh3 p (qaz p x r.name).1.2) (qaz p x r.name).1.1;omega)) ?_
 rintro _ _ s13 h13 ⟨rfl,As,ns,cs,rfl,hSs⟩
 refine ⟨fun _ _ h=>h,?_⟩
 refine qax 4 V<|Jb Z Tt Z Z Z (qet D _ _ As ns cs _ (hSs.le (Lr D)) (qo8 r.u)) ?_
 rintro _ _ s14 h14 ⟨rfl,rfl⟩
 refine ⟨fun _ _ h=>h,?_⟩
 refine za 5 Z (qb7 Z Z) Z<|qal V<|Zt ?_
 refine qaa Z (fun c15=>?_) (fun c15=>?_)
 ·
  have g47:¬ qcb (qh3 p (qaz p x r.name).1.2) r.u (qaz p x r.name).1.1:=fun h=>absurd c15 (Int.not_lt.2 ((qbK (k:=0)).2 ((qi5 hu4 hmk4 hg3).2 h)))
  have hE:rnC p x r=13:=hE0.trans ((if_neg hn0).trans ((if_neg g23).trans (if_pos g47)))
  refine Sr<|At Z Z<|Zo<|Zu<|?_
  refine rR [_,_,_] L (.t1 Z) Z (h1.t h2|>.t h5|>.t h6|>.t h8|>.t h12|>.t h13|>.t h14) fun _ hS2=>?_
  exact ⟨by rw [hE];rfl,rfl⟩
 have g47:qcb (qh3 p (qaz p x r.name).1.2) r.u (qaz p x r.name).1.1:=(qi5 hu4 hmk4 hg3).1 ((qbK (k:=0)).1 (Int.not_lt.1 c15))
 refine Zk<|Zt<|Zs<|Zs<|?_
 rcases Classical.em (r.u=4) with g4 | g4
 ·
  obtain ⟨j,hj,hjn⟩:∃ j:Nat,(qaz p x r.name).1.2=(j:Int)∧j < p.funcs.length:=by
    rcases hmk with q | ⟨q,_⟩ | ⟨_,q⟩
    · exfalso;have:=g47;omega
    · exfalso;have:=g47;omega
    · exact q
  have hjf:j < nf:=by omega
  obtain ⟨b2,off2,z2,D1,t1,w1,D2,t2,w2,D3,t3,w3,rfl,hz2,hcy,hpz,hlz,hbz,hzl⟩:=Fncs.at_ (hFn.le (h1.t h2|>.t h5|>.t h6|>.t h8|>.t h12|>.t h13|>.t h14)) hjf
  have hm9:=hpz.1
  have hpar:=qfR hj hz2
  refine qay qad 16 Z _ (fun _ h=>h) ?_
  intro s16 h16
  refine za 0 Z (We Y4) Z<|za 1 Z (Wd 1 Y5) Z<|za 2 Z (qae (v':=.bool true) (qiZ Z Z) (bT (by rw [g4];rfl))) Z<|za 3 Z (qan Z) Z<|zg 4 Z ⟨_,Z,Z⟩ (We Y4) Z<|zg 5 Z ⟨_,Z,Z⟩ (Wd 2 Y5) Z<|zg 6 Z ⟨_,Z,Z⟩ (We Y4) Z<|zg 7 Z ⟨_,Z,Z⟩ (Wd 0 Y5) Z<|zg 8 Z ⟨_,Z,Z⟩ (qap (j:=j) Z (show lk _ _=some (.int .i64 (j:Int)) from by rw [← hj];rfl) Z Z Z Z hjf) Z<|zg 9 Z ⟨_,Z,Z⟩ (qbs Z Z Z Z) Z<|zg 10 Z ⟨_,Z,Z⟩ (qaC 1 Z Z Z (hcy.le h16) Z) Z<|zg 11 Z ⟨_,Z,Z⟩ (qbR Z Z Z) Z ?_
  refine zg 12 Z ⟨_,Z,Z⟩ (We Y4) Z<|zg 13 Z ⟨_,Z,Z⟩ (Wd 1 Y5) Z<|zg 14 Z ⟨_,Z,Z⟩ (qec Z Z) Z<|za 15 Z (qep Z Z) Z<|qal V<|Zt ?_
  refine qaP Z (fun c17=>?_) (fun c17=>?_)
  ·
   have hE:rnC p x r=9:=hE0.trans ((if_neg hn0).trans ((if_neg g23).trans ((if_neg (fun h=>h g47)).trans (if_pos ⟨g4,by show r.count≠((qsw p (qaz p x r.name).1.2:Nat):Int);rw [hpar];have:=c17;omega⟩))))
   refine Sr<|At Z Z<|Zo<|Zu<|?_
   refine rR [_,_,_] L (.t1 Z) Z (h1.t h2|>.t h5|>.t h6|>.t h8|>.t h12|>.t h13|>.t h14|>.t h16) fun _ hS2=>?_
   exact ⟨by rw [hE];rfl,rfl⟩
  have hE:rnC p x r=0:=hE0.trans ((if_neg hn0).trans ((if_neg g23).trans ((if_neg (fun h=>h g47)).trans (if_neg (fun h=>h.2 (by show r.count=((qsw p (qaz p x r.name).1.2:Nat):Int);rw [hpar];have:=c17;omega))))))
  refine Zk<|Zt<|Sr<|At Z Z<|Zo<|?_
  refine rR [_,_,_] L (.t1 Z) Z (h1.t h2|>.t h5|>.t h6|>.t h8|>.t h12|>.t h13|>.t h14|>.t h16) fun _ hS2=>?_
  exact ⟨by rw [hE];rfl,rfl⟩
 refine qay qad 16 Z _ (fun _ h=>h) ?_
 intro s18 h18
 refine za 0 Z (We Y4) Z<|za 1 Z (Wd 1 Y5) Z<|za 2 Z (qae (v':=.bool false) (qiZ Z Z) (bZ (qmr hr g4))) Z<|za 3 Z (qan Z) Z<|zn 4 Z Z Z Z Z<|zn 5 Z Z Z Z Z<|zn 6 Z Z Z Z Z<|zn 7 Z Z Z Z Z<|zn 8 Z Z Z Z Z<|zn 9 Z Z Z Z Z<|zn 10 Z Z Z Z Z<|zn 11 Z Z Z Z Z<|zn 12 Z Z Z Z Z<|zn 13 Z Z Z Z Z<|zn 14 Z Z Z Z Z<|za 15 Z (qeo Z Z) Z<|qal V<|Zt<|Zz Z<|?_
 have hE:rnC p x r=0:=hE0.trans ((if_neg hn0).trans ((if_neg g23).trans ((if_neg (fun h=>h g47)).trans (if_neg (fun h=>g4 h.1)))))
 refine Zk<|Zt<|Sr<|At Z Z<|Zo<|?_
 refine rR [_,_,_] L (.t1 Z) Z (h1.t h2|>.t h5|>.t h6|>.t h8|>.t h12|>.t h13|>.t h14|>.t h18) fun _ hS2=>?_
 exact ⟨by rw [hE];rfl,rfl⟩
theorem qnB:qjy Tryz.prog 25:=AC.ok (qet 0 [] default none 0 0 [] ⟨rfl,Nat.zero_le _,by omega,fun i x h=>by cases h⟩ [])
theorem qeq(D:Nat)(X L:Hl)(s:World)(M:Hl)(A:Option Addr)(n c:Nat)(l:List Str)(hO:FL.Own 9 1 M (.slice A n c) n (sb l))(hu:∀ x∈l,x.length≤9223372036854775807)(hn:n=l.length)(w:Str):AC Tryz.prog D 25 [.slice A n c,St w] (X++(M++L)) s fun v L' _=>v=.int .i64 (qbb (fun x=>decide (w=x)) l 0)∧L'=X++(M++L):=
 AC.perm (List.perm_append_comm_assoc ..) (AC.lend M (qpi hO) qnB fun ho=>qet D (X++L) _ A n c l (Own.strs hO hu (qlM ho) hn) w) fun v L1 s1 ⟨g0,g1⟩=>⟨_,by rw [← g1];exact List.perm_append_comm_assoc ..,g0,rfl⟩
def bdR(p:Prg)(x:Fnc):List RNd→Int
 | []=>0
 | r::l=>if rnC p x r=0 then bdR p x l else rnC p x r
theorem qpA{p:Prg}{x:Fnc}{l:List RNd}{k:Nat}{r:RNd}(h:l[k]?=some r):bdR p x (l.drop k)=if rnC p x r=0 then bdR p x (l.drop (k+1)) else rnC p x r:=by
 obtain ⟨hk,rfl⟩:=List.getElem?_eq_some_iff.1 h
 rw [List.drop_eq_getElem_cons hk,bdR]
def okN:Nd→Prop
 | .st y _=>y.kind≤10
 | .ex _ _=>True
theorem qvc:∀ (l:List Ex) (lp:Nat),∀ nd∈qd2 l lp,okN nd
  | [],_=>fun nd h=>by cases h
  | .mk k o n nm ar::r,lp=>fun nd h=>by
    rw [qd2,ndX] at h
    rcases List.mem_append.1 h with h | h
    · rcases List.mem_cons.1 h with rfl | h
      · trivial
      · exact qvc ar lp nd h
    · exact qvc r lp nd h
theorem quF:∀ (l:List Stm) (lp lv:Nat),qdN l lv=true→∀ nd∈qcz l lp,okN nd
  | [],_,_,_=>fun nd h=>by cases h
  | .mk k nm es b e::r,lp,lv,hv=>fun nd h=>by
    have hv1:stV (.mk k nm es b e) lv=true:=(qdy hv (k:=0) rfl).1
    have hv2:qdN r lv=true:=by
      have:=hv
      rw [qdN,Bool.and_eq_true] at this
      exact this.2
    obtain ⟨_,hc,_,hb,he⟩:=qcI hv1
    rw [qcz,ndS] at h
    rcases List.mem_append.1 h with h | h
    · rcases List.mem_cons.1 h with rfl | h
      · exact (qcl hc).2.1
      · rcases List.mem_append.1 h with h | h
        · exact qvc es lp nd h
        · rcases List.mem_append.1 h with h | h
          · exact quF b _ _ hb nd h
          · exact quF e _ _ he nd h
    · exact quF r lp lv hv2 nd h
theorem qjv{p:Prg}{x:Fnc}{nm:Str}{u c c':Int}(h:u≠4):qeg p x (nm,u,c)=qeg p x (nm,u,c'):=by
 unfold qeg
 simp only [h,false_and,if_false]
theorem qu0{p:Prg}{x:Fnc}{nd:Nd}(h:okN nd):(ndR nd=[]∧ndC p x nd=0)∨∃ r,ndR nd=[r]∧ndC p x nd=rnC p x r:=by
  cases nd with
  | ex y lp=>
    by_cases h1:2≤y.kind∧y.kind≤4
    · refine .inr ⟨_,by rw [ndR,if_pos h1],?_⟩
      rw [ndC,rnC,if_neg Oz]
      have h2:y.kind=2∨y.kind=3∨y.kind=4:=by omega
      rcases h2 with h2 | h2 | h2
      · rw [qdk,if_pos h2];simp only [h2];exact qjv Dc
      · rw [qdk,if_neg O,if_pos h2];simp only [h2];exact qjv Dc
      · rw [qdk,if_neg O,if_neg O,if_pos h2];simp only [h2]
    · refine .inl ⟨by rw [ndR,if_neg h1],?_⟩
      rw [ndC,qdk,if_neg O,if_neg O,if_neg O,qeg,if_pos rfl]
  | st y lp=>
    have hk:y.kind≤10:=h
    by_cases h1:y.kind=1
    · refine .inr ⟨_,by rw [ndR,if_pos h1],?_⟩
      rw [ndC,if_neg O,rnC,if_neg (by simp),qdd,if_pos h1]
    by_cases h2:y.kind=2
    · refine .inr ⟨_,by rw [ndR,if_neg h1,if_pos h2],?_⟩
      rw [ndC,if_neg O,rnC,if_neg (by simp),qdd,if_neg h1,if_pos h2]
    by_cases h5:y.kind=5
    · refine .inr ⟨_,by rw [ndR,if_neg h1,if_neg h2,if_pos h5],?_⟩
      rw [ndC,if_neg O,rnC,if_neg (by simp),qdd,if_neg h1,if_neg h2,if_pos h5]
    by_cases h8:8 < y.kind
    · refine .inr ⟨_,by rw [ndR,if_neg h1,if_neg h2,if_neg h5,if_pos h8],?_⟩
      rw [ndC,rnC,if_pos rfl]
      by_cases h0:lp=0
      · rw [if_pos ⟨by omega,h0⟩,if_pos Oz]
      · rw [if_neg (fun q=>h0 q.2),if_neg Oz,qdd,if_neg h1,if_neg h2,if_neg h5,qeg,if_pos rfl]
    · refine .inl ⟨by rw [ndR,if_neg h1,if_neg h2,if_neg h5,if_neg h8],?_⟩
      rw [ndC,if_neg O,qdd,if_neg h1,if_neg h2,if_neg h5,qeg,if_pos rfl]
theorem qpP{p:Prg}{x:Fnc}:∀ {l:List Nd},(∀ nd∈l,okN nd)→bdR p x (l.flatMap ndR)=qfo p x l
  | [],_=>rfl
  | n::r,h=>by
    have ih:=qpP (p:=p) (x:=x) (l:=r) fun nd hn=>h nd (List.mem_cons_of_mem _ hn)
    rw [List.flatMap_cons,qfo]
    rcases qu0 (p:=p) (x:=x) (h n Mc) with ⟨h1,h2⟩ | ⟨q,h1,h2⟩
    · rw [h1,h2,if_pos rfl];exact ih
    · rw [h1,h2]
      show bdR p x (q::List.flatMap ndR r)=_
      rw [bdR,ih]
theorem qkU{p:Prg}{x:Fnc}{lv:Nat}(h:qdN x.body lv=true):bdR p x (rss x.body 0)=qfo p x (qcz x.body 0):=qpP (quF x.body 0 lv h)
theorem qvy{nd:Nd}{r:RNd}(h:r∈ndR nd):1≤r.u∧r.u≤5:=by
 cases nd with
 | ex y lp=>
  by_cases h1:2≤y.kind∧y.kind≤4
  · rw [ndR,if_pos h1,List.mem_singleton] at h;subst h;simp only;omega
  · rw [ndR,if_neg h1] at h;cases h
 | st y lp=>
  rw [ndR] at h
  by_cases h1:y.kind=1
  · rw [if_pos h1,List.mem_singleton] at h;subst h;exact ⟨show (1:Int)≤1 by decide,show (1:Int)≤5 by decide⟩
  rw [if_neg h1] at h
  by_cases h2:y.kind=2
  · rw [if_pos h2,List.mem_singleton] at h;subst h;exact ⟨show (1:Int)≤3 by decide,show (3:Int)≤5 by decide⟩
  rw [if_neg h2] at h
  by_cases h5:y.kind=5
  · rw [if_pos h5,List.mem_singleton] at h;subst h;exact ⟨show (1:Int)≤4 by decide,show (4:Int)≤5 by decide⟩
  rw [if_neg h5] at h
  by_cases h8:8 < y.kind
  · rw [if_pos h8,List.mem_singleton] at h;subst h;exact ⟨show (1:Int)≤5 by decide,show (5:Int)≤5 by decide⟩
  · rw [if_neg h8] at h;cases h
theorem qvx{l:List Stm}{lp:Nat}{r:RNd}(h:r∈rss l lp):1≤r.u∧r.u≤5:=by
 obtain ⟨nd,_,h1⟩:=List.mem_flatMap.1 h
 exact qvy h1
theorem qrZ(D:Nat)(L:Hl)(s:World)(d:Nat)(p:Prg)(Ag Af:Option Addr)(ng cg nf cf:Nat)(hGl:Glos s Ag ng cg p.globals)(hFn:Fncs d s Af nf cf p.funcs):AC Tryz.prog D 10 [.agg #[.slice Ag ng cg,.slice Af nf cf]] L s fun v L' _=>v=.agg #[.int .i64 (qcN p).1,.int .i64 (qcN p).2]∧L=L':=by
 have hn1:=hGl.1
 have hn2:=hFn.1
 have hU:prU p:=⟨hGl.u,hFn.u⟩
 refine qai (fn:=Tryz.f10) qao Tryz.func10 V Z Tryz.ntmps10 Z (rs:=[.cell 2 33]) Z [(0,_)] Z<|Sr<|qaq Z Z ?_
 intro β1 s1 h1
 refine qaj Z [_,_] Z Z ?_
 intro β2 s2 h2
 refine Nt<|Sr<|qac (qag 1 [_,_] Z Z Z Z Z) Z<|Jc Z Z Z (qmH D _ _ d p Ag Af ng cg nf cf (hGl.le (h1.t h2)) (hFn.le (h1.t h2))) ?_
 rintro _ _ s3 h3 ⟨rfl,rfl⟩
 refine qaj Z [_,_] Z Z ?_
 intro β4 s4 h4
 refine Wt 0 [_,_] Y9<|Nt<|Zs<|Sr<|W0 Y5<|Wl 0 Y6<|qb2 Z Z Z<|Nt<|?_
 refine qaP Z (fun c5=>?_) (fun c5=>?_)
 ·
  have hE:qcN p=qeK p:=if_pos c5
  refine Sr<|qac (qag 0 [_,_] Z Z Z Z Z) Z<|Wt 1 [_,_] Y9<|Nt<|Zo<|Zu<|?_
  refine rR [_,_,_] L (.agg (us:=[_,_]) 1 Z Z Z Z Z (.nil)) Z (h1.t h2|>.t h3|>.t h4) fun _ hS2=>?_
  exact ⟨by rw [hE];rfl,rfl⟩
 have g14:¬ (qeK p).1≠0:=fun h=>h c5
 have hz0:=qk7 c5
 have hV:=PV.of hU (qfY c5)
 have hV1:=hV.1
 have hV2:=hV.2.1
 have hVf:=hV.2.2.2.1
 obtain ⟨hN1,hNF⟩:=qiQ hV
 refine Zk<|Zt<|Sr<|At Z Z<|Zs<|Sr<|At Z Z<|Zp<|?_
 refine qav (γ:=Nat×Value×Hl) (fun g=>[(1,_),(2,_),(3,_),(4,g.2.1),(5,.int .i64 (g.1:Int))]) (fun g=>_::_::_::(g.2.2++L)) (fun g tw=>Le D s4 tw∧(g.1≤ng∧FL.Own 9 1 g.2.2 g.2.1 g.1 (sb ((p.globals.take g.1).map Glo.name))∧qfe p.globals [] 0=qfe (p.globals.drop g.1) ((p.globals.take g.1).map Glo.name) g.1)) (fun g=>ng - g.1) (fun _ _ _ h hl=>⟨h.1.trans hl,h.2⟩) (0,.slice none 0 0,[]) (.c5 Z Z Z Z Z (.nil _)) Z ⟨Le.refl _,⟨Nat.zero_le _,Own.nil,Z⟩⟩ ?_
 intro g s6 I6
 obtain ⟨k,vo,Mo⟩:=g
 obtain ⟨hk0,hO,hS⟩:=I6.2
 simp only at hk0 hO hS
 dsimp only
 obtain ⟨Av,cv,rfl,hv1,hv2⟩:=Own.slice hO
 refine Zs<|Sr<|Zqm Z Z<|W0 Y5<|Wl 2 Y6<|Ws Y4<|qbh Z Z Z<|Nt<|?_
 refine qaa Z (fun c7=>?_) (fun c7=>?_)
 ·
  have hk:k < ng:=by omega
  obtain ⟨b,off,x,Ai,ni,ci,rfl,hx,hcx,hix,hux,hnl⟩:=Glos.at_ (hGl.le (h1.t h2|>.t h3|>.t h4|>.t I6.1)) hk
  refine Zk<|Zt<|Zs<|Zp<|Zs<|Sr<|Zqm Z Z<|W0 Y5<|Wl 2 Y6<|Zqm Z Z<|qac (qap Z Z Z Z Z Z hk) Z<|qac (qbs Z Z Z Z) Z<|qac (qaC 1 Z Z Z (hcx.le (Lr D)) Z) Z<|Jc Z Z Z (qeq D [_,_,_] L _ Mo Av k cv _ hO (fun w hw=>hN1 w (by rw [List.map_take] at hw;exact List.mem_of_mem_take hw)) (by rw [List.length_map,List.length_take];omega) x.name) ?_
  rintro _ _ s8 h8 ⟨rfl,rfl⟩
  simp only [cQ9,nQ9]
  refine qfa Z Z Z<|Nt<|?_
  refine qaa Z (fun c9=>?_) (fun c9=>?_)
  ·
   have hi9:=(qbK (k:=0)).1 c9
   have q9:qfe p.globals [] 0=(8,(k:Int)):=by rw [hS,qgG hx,if_pos hi9]
   have hE9:qbU p=(8,(k:Int)):=by rw [nF_g (by rw [q9];simp),q9]
   have hE:qcN p=(8,(k:Int)):=by rw [qcN,if_neg g14,if_pos (by rw [hE9];simp),hE9]
   refine Sr<|Zqm Z Z<|Jc Z Z Z (qdB D _ _ _ _) ?_
   rintro _ _ s10 h10 ⟨rfl,rfl⟩
   refine Wt 1 [_,_] Y9<|Nt<|Zo<|Zu<|Zc<|Zu<|Zu<|Zc<|Zu<|?_
   refine rR (_::_::_::Mo) L (.agg (us:=[_,_]) 1 Z Z Z Z Z (.nil)) Z (h1.t h2|>.t h3|>.t h4|>.t I6.1|>.t h8|>.t h10) fun _ hS2=>?_
   exact ⟨by rw [hE];rfl,rfl⟩
  have hz:=fun q=>c9 ((qbK (k:=0)).2 q)
  refine Zk<|Zt<|Zr<|Zqm Z Z<|W0 Y5<|Wl 2 Y6<|Zqm Z Z<|qac (qap Z Z Z Z Z Z hk) Z<|qac (qbs Z Z Z Z) Z<|qac (qaC 1 Z Z Z (hcx.le h8) Z) Z<|qbk [(_,_)] [_] Z Z Z Z Z Z Z Z Z ?_
  intro βn s11 h11 hcb
  refine qba (sz:=1) [_,_,_] Mo L Z Z Z Z Z Z Z hO (Row.of_cells (hcb.le (Lr D)) Z Z) ⟨by simp [ti9];omega,by omega⟩ Z ?_
  intro vq Mq s12 h12 oq
  obtain ⟨Avq,cvq,rfl,_,_⟩:=Own.slice oq
  simp only [cQ9,nQ9]
  refine Zqa Z Z<|Zn<|Zb<|Zt<|Zr<|Zqm Z Z<|qaF Z Z Z (w64 O O)<|Zqa Z Z<|Zn<|?_
  refine qab ⟨(k+1,.slice Avq (k+1) cvq,Mq),[],kp,Z,⟨(I6.1.t h8|>.t h11|>.t h12),⟨by simp only;omega,by rw [qaI Glo.name hx,qc1];exact oq,by simp only;rw [hS,qgG hx,if_neg hz,qaI Glo.name hx]⟩⟩,Oz⟩
 obtain rfl:ng=k:=by omega
 rw [List.drop_eq_nil_of_le O,qfe] at hS
 rw [List.take_of_length_le O] at hO
 refine Zl<|Zv<|Zv<|Zd<|Zt<|Zs<|Sr<|At Z Z<|Zp<|?_
 refine qav (γ:=Nat×Value×Hl) (fun g=>[(1,_),(2,_),(3,_),(4,g.2.1),(6,.int .i64 (g.1:Int))]) (fun g=>_::_::_::(g.2.2++L)) (fun g tw=>Le D s6 tw∧(g.1≤nf∧FL.Own 9 1 g.2.2 g.2.1 (ng+g.1) (sb (p.globals.map Glo.name++(p.funcs.take g.1).map Fnc.name))∧qfb p.funcs (p.globals.map Glo.name) p.globals.length=qfb (p.funcs.drop g.1) (p.globals.map Glo.name++(p.funcs.take g.1).map Fnc.name) (p.globals.length+g.1))) (fun g=>nf - g.1) (fun _ _ _ h hl=>⟨h.1.trans hl,h.2⟩) (0,.slice Av ng cv,Mo) (.c5 Z Z Z Z Z (.nil _)) Z ⟨Le.refl _,⟨Nat.zero_le _,by simpa using hO,by simp⟩⟩ ?_
 intro g s13 I13
 obtain ⟨k,vo,Mo⟩:=g
 obtain ⟨hk0,hO,hSf⟩:=I13.2
 simp only at hk0 hO hSf
 dsimp only
 obtain ⟨Av,cv,rfl,hv1,hv2⟩:=Own.slice hO
 refine Zs<|Sr<|Zqm Z Z<|Wb Y5<|Wl 2 Y6<|Ws Y4<|qbh Z Z Z<|Nt<|?_
 refine qaa Z (fun c14=>?_) (fun c14=>?_)
 ·
  have hk:k < nf:=by omega
  obtain ⟨b,off,x,B1,m1,d1,B2,m2,d2,B3,m3,d3,rfl,hx,hcx,hpx,hlx,hbx,hnl⟩:=Fncs.at_ (hFn.le (h1.t h2|>.t h3|>.t h4|>.t I6.1|>.t I13.1)) hk
  have hfx:=hVf x (List.mem_of_getElem? hx)
  obtain ⟨hi1,hi2,hi3,hi4,hi5,hi6⟩:=hfx
  have hp9:=hpx.1
  have hl9:=hlx.1
  refine Zk<|Zt<|Zs<|Zp<|Sr<|Wb Y5<|Wl 2 Y6<|Zqm Z Z<|qac (qap Z Z Z Z Z Z hk) Z<|qac (qau Z Z Z (hcx.le (Lr D)) Z) Z<|qaj Z [_,_,_,_] Z Z ?_
  intro β15 s15 h15
  refine Wt 0 [_,_,_,_] Y9<|Nt<|Zs<|Sr<|Zqm Z Z<|W0 Y5<|Wl 0 Y6<|Jc Z Z Z (qeq D [_,_,_,_] L _ Mo Av (ng+k) cv _ hO (fun w hw=>(List.mem_append.1 hw).elim (hN1 w) (fun hw=>hNF w (by rw [List.map_take] at hw;exact List.mem_of_mem_take hw))) (by rw [List.length_append,List.length_map,List.length_map,List.length_take];omega) x.name) ?_
  rintro _ _ s16 h16 ⟨rfl,rfl⟩
  simp only [cQ9,nQ9]
  refine qfa Z Z Z<|Nt<|?_
  refine qaa Z (fun c17=>?_) (fun c17=>?_)
  ·
   have hi9:=(qbK (k:=0)).1 c17
   have q9:qfb p.funcs (p.globals.map Glo.name) p.globals.length=(8,((ng+k:Nat):Int)):=by rw [hSf,qed hx,if_pos (.inl hi9),hn1]
   have hE9:qbU p=(8,((ng+k:Nat):Int)):=by rw [quL hS (by rw [q9];simp),q9]
   have hE:qcN p=(8,((ng+k:Nat):Int)):=by rw [qcN,if_neg g14,if_pos (by rw [hE9];simp),hE9]
   refine Sr<|W0 Y5<|Wl 3 Y6<|Ws Y4<|Zqm Z Z<|qac (qaR Z Z (show IntKind.i64.wrap ((ng:Int)+(k:Int))=((ng+k:Nat):Int) by rw [w64 O O];simp)) Z<|Jc Z Z Z (qdB D _ _ _ _) ?_
   rintro _ _ s18 h18 ⟨rfl,rfl⟩
   refine Wt 2 [_,_] Y9<|Nt<|Zo<|Zu<|Zc<|Zu<|Zu<|Zc<|Zu<|?_
   refine rR (_::_::_::_::Mo) L (.agg (us:=[_,_]) 2 Z Z Z Z Z (.nil)) Z (h1.t h2|>.t h3|>.t h4|>.t I6.1|>.t I13.1|>.t h15|>.t h16|>.t h18) fun _ hS2=>?_
   exact ⟨by rw [hE];rfl,rfl⟩
  have hz:=fun q=>c17 ((qbK (k:=0)).2 q)
  refine Zk<|Zt<|Sr<|Zqm Z Z<|W0 Y5<|Wl 0 Y6<|qbk [(_,_)] [_] Z Z Z Z Z Z Z Z Z ?_
  intro βn s19 h19 hcb
  refine qba (sz:=1) [_,_,_,_] Mo L Z Z Z Z Z Z Z hO (Row.of_cells (hcb.le (Lr D)) Z Z) ⟨by simp [ti9];omega,by omega⟩ Z ?_
  intro vq Mq s20 h20 oq
  obtain ⟨Avq,cvq,rfl,_,_⟩:=Own.slice oq
  simp only [cQ9,nQ9]
  refine At Z Z<|Sr<|At Z Z<|Sr<|At Z Z<|Zp<|?_
  refine qav (γ:=Nat×Value×Hl) (fun g=>[(1,_),(2,_),(3,_),(4,_),(6,_),(7,_),(8,g.2.1),(9,.int .i64 (g.1:Int))]) (fun g=>_::_::_::_::(g.2.2++(Mq++L))) (fun g tw=>Le D s20 tw∧(g.1≤m1+m2∧FL.Own 9 1 g.2.2 g.2.1 g.1 (sb ((x.params++x.locals).take g.1))∧((x.params++x.locals).take g.1).Nodup)) (fun g=>m1+m2 - g.1) (fun _ _ _ h hl=>⟨h.1.trans hl,h.2⟩) (0,.slice none 0 0,[]) (.c6 Z Z Z Z Z Z (.c2 Z Z (.nil _))) Z ⟨Le.refl _,⟨Nat.zero_le _,Own.nil,by simp⟩⟩ ?_
  intro g s21 I21
  obtain ⟨j,vo2,M2⟩:=g
  obtain ⟨hj0,hO2,hN2⟩:=I21.2
  simp only at hj0 hO2 hN2
  dsimp only
  obtain ⟨Av2,cv2,rfl,_,_⟩:=Own.slice hO2
  refine Zs<|Sr<|Zqm Z Z<|Wb Y5<|Wl 0 Y6<|Ws Y4<|Wb Y5<|Wl 0 Y6<|Ws Y4<|qaF Z Z Z (w64 O O)<|qbh Z Z Z<|Nt<|?_
  refine qaa Z (fun c22=>?_) (fun c22=>?_)
  ·
   have hj:j < m1+m2:=by omega
   obtain ⟨w8,hws⟩:∃ w,(x.params++x.locals)[j]?=some w:=⟨_,List.getElem?_eq_getElem (by rw [List.length_append];omega)⟩
   refine Zk<|Zt<|Zs<|Zp<|Sr<|At Z Z<|Zs<|Sr<|Zqm Z Z<|Wb Y5<|Wl 0 Y6<|Ws Y4<|qbh Z Z Z<|Nt<|?_
   refine qaa Z (fun c23=>?_) (fun c23=>?_)
   ·
    have hjm:j < m1:=by omega
    obtain ⟨b2,off2,w9,rfl,hw9,hcw,hw8⟩:=Strs.at_ (hpx.le (h15.t h16|>.t h19|>.t h20|>.t I21.1)) hjm
    obtain rfl:w9=w8:=by rw [List.getElem?_append_left O,hw9] at hws;injection hws
    refine Zr<|Wb Y5<|Wl 0 Y6<|Zqm Z Z<|qac (qas Z Z Z Z Z Z hjm) Z<|qac (qah Z Z Z (hcw.le (Lr D)) Z) Z<|At Z Z<|Zs<|Sr<|Zqm Z Z<|Zqm Z Z<|Jc Z Z Z (qeq D [_,_,_,_] (Mq++L) _ M2 Av2 _ cv2 _ hO2 (fun w hw=>by have:=qbF (hi4 w (List.mem_of_mem_take hw));omega) (by rw [List.length_take,List.length_append];omega) w9) ?_
    rintro _ _ s24 h24 ⟨rfl,rfl⟩
    simp only [cQ9,nQ9]
    refine qfa Z Z Z<|Nt<|?_
    refine qaa Z (fun c25=>?_) (fun c25=>?_)
    ·
     have hi9:=(qbK (k:=0)).1 c25
     have q9:qfb p.funcs (p.globals.map Glo.name) p.globals.length=(8,((ng+k:Nat):Int)):=by rw [hSf,qed hx,if_pos (.inr (qc6 hws hi9)),hn1]
     have hE9:qbU p=(8,((ng+k:Nat):Int)):=by rw [quL hS (by rw [q9];simp),q9]
     have hE:qcN p=(8,((ng+k:Nat):Int)):=by rw [qcN,if_neg g14,if_pos (by rw [hE9];simp),hE9]
     rw [show M2++(Mq++L)=(M2++Mq)++L from (List.append_assoc ..).symm]
     refine Sr<|W0 Y5<|Wl 3 Y6<|Ws Y4<|Zqm Z Z<|qac (qaR Z Z (show IntKind.i64.wrap ((ng:Int)+(k:Int))=((ng+k:Nat):Int) by rw [w64 O O];simp)) Z<|Jc Z Z Z (qdB D _ _ _ _) ?_
     rintro _ _ s26 h26 ⟨rfl,rfl⟩
     refine Wt 2 [_,_] Y9<|Nt<|Zo<|Zu<|Zc<|Zu<|Zu<|Zc<|Zc<|Zu<|Zu<|Zc<|Zu ?_
     refine rR (_::_::_::_::(M2++Mq)) L (.agg (us:=[_,_]) 2 Z Z Z Z Z (.nil)) Z (h1.t h2|>.t h3|>.t h4|>.t I6.1|>.t I13.1|>.t h15|>.t h16|>.t h19|>.t h20|>.t I21.1|>.t h24|>.t h26) fun _ hS2=>?_
     exact ⟨by rw [hE];rfl,rfl⟩
    have hzj:=fun q=>c25 ((qbK (k:=0)).2 q)
    refine Zk<|Zt<|Zr<|Zqm Z Z<|Zqm Z Z<|qbk [(_,_)] [_] Z Z Z Z Z Z Z Z Z ?_
    intro βn s27 h27 hcb
    refine qba (sz:=1) [_,_,_,_] M2 (Mq++L) Z Z Z Z Z Z Z hO2 (Row.of_cells (hcb.le (Lr D)) Z Z) ⟨by simp [ti9];omega,by omega⟩ Z ?_
    intro vw Mw s28 h28 ow
    obtain ⟨Avw,cvw,rfl,_,_⟩:=Own.slice ow
    simp only [cQ9,nQ9]
    refine Zqa Z Z<|Zn<|Zb<|Zt<|Zr<|Zqm Z Z<|qaF Z Z Z (w64 O O)<|Zqa Z Z<|Zn<|?_
    refine qab ⟨(j+1,.slice Avw (j+1) cvw,Mw),[],kp,Z,⟨(I21.1.t h24|>.t h27|>.t h28),⟨by simp only;omega,by rw [qaS hws,qc1];exact ow,qeO hws hN2 hzj⟩⟩,Oz⟩
   obtain ⟨j2,hj2⟩:∃ j2,j=m1+j2:=⟨j - m1,by omega⟩
   have hjm:j2 < m2:=by omega
   obtain ⟨b2,off2,w9,rfl,hw9,hcw,hw8⟩:=Strs.at_ (hlx.le (h15.t h16|>.t h19|>.t h20|>.t I21.1)) hjm
   obtain rfl:w9=w8:=by rw [List.getElem?_append_right O,show j - x.params.length=j2 by omega,hw9] at hws;injection hws
   refine Zr<|Wb Y5<|Wl 0 Y6<|Zqm Z Z<|Wb Y5<|Wl 0 Y6<|Ws Y4<|qac (qbd (c:=(j2:Int)) Z Z (by rw [w64 O O];omega)) Z<|qac (qas Z Z Z Z Z Z hjm) Z<|qac (qah Z Z Z (hcw.le (Lr D)) Z) Z<|At Z Z<|Zs<|Sr<|Zqm Z Z<|Zqm Z Z<|Jc Z Z Z (qeq D [_,_,_,_] (Mq++L) _ M2 Av2 _ cv2 _ hO2 (fun w hw=>by have:=qbF (hi4 w (List.mem_of_mem_take hw));omega) (by rw [List.length_take,List.length_append];omega) w9) ?_
   rintro _ _ s29 h29 ⟨rfl,rfl⟩
   simp only [cQ9,nQ9]
   refine qfa Z Z Z<|Nt<|?_
   refine qaa Z (fun c30=>?_) (fun c30=>?_)
   ·
    have hi9:=(qbK (k:=0)).1 c30
    have q9:qfb p.funcs (p.globals.map Glo.name) p.globals.length=(8,((ng+k:Nat):Int)):=by rw [hSf,qed hx,if_pos (.inr (qc6 hws hi9)),hn1]
    have hE9:qbU p=(8,((ng+k:Nat):Int)):=by rw [quL hS (by rw [q9];simp),q9]
    have hE:qcN p=(8,((ng+k:Nat):Int)):=by rw [qcN,if_neg g14,if_pos (by rw [hE9];simp),hE9]
    rw [show M2++(Mq++L)=(M2++Mq)++L from (List.append_assoc ..).symm]
    refine Sr<|W0 Y5<|Wl 3 Y6<|Ws Y4<|Zqm Z Z<|qac (qaR Z Z (show IntKind.i64.wrap ((ng:Int)+(k:Int))=((ng+k:Nat):Int) by rw [w64 O O];simp)) Z<|Jc Z Z Z (qdB D _ _ _ _) ?_
    rintro _ _ s31 h31 ⟨rfl,rfl⟩
    refine Wt 2 [_,_] Y9<|Nt<|Zo<|Zu<|Zc<|Zu<|Zu<|Zc<|Zc<|Zu<|Zu<|Zc<|Zu ?_
    refine rR (_::_::_::_::(M2++Mq)) L (.agg (us:=[_,_]) 2 Z Z Z Z Z (.nil)) Z (h1.t h2|>.t h3|>.t h4|>.t I6.1|>.t I13.1|>.t h15|>.t h16|>.t h19|>.t h20|>.t I21.1|>.t h29|>.t h31) fun _ hS2=>?_
    exact ⟨by rw [hE];rfl,rfl⟩
   have hzj:=fun q=>c30 ((qbK (k:=0)).2 q)
   refine Zk<|Zt<|Zr<|Zqm Z Z<|Zqm Z Z<|qbk [(_,_)] [_] Z Z Z Z Z Z Z Z Z ?_
   intro βn s32 h32 hcb
   refine qba (sz:=1) [_,_,_,_] M2 (Mq++L) Z Z Z Z Z Z Z hO2 (Row.of_cells (hcb.le (Lr D)) Z Z) ⟨by simp [ti9];omega,by omega⟩ Z ?_
   intro vw Mw s33 h33 ow
   obtain ⟨Avw,cvw,rfl,_,_⟩:=Own.slice ow
   simp only [cQ9,nQ9]
   refine Zqa Z Z<|Zn<|Zb<|Zt<|Zr<|Zqm Z Z<|qaF Z Z Z (w64 O O)<|Zqa Z Z<|Zn<|?_
   refine qab ⟨(j+1,.slice Avw (j+1) cvw,Mw),[],kp,Z,⟨(I21.1.t h29|>.t h32|>.t h33),⟨by simp only;omega,by rw [qaS hws,qc1];exact ow,qeO hws hN2 hzj⟩⟩,Oz⟩
  have hnd:(x.params++x.locals).Nodup:=by
    rw [List.take_of_length_le (by rw [List.length_append];omega)] at hN2;exact hN2
  refine Zl<|Zv<|Zv<|Zd<|Zb<|Zt<|qbC [_,_,_,_] M2 _ ?_
  intro s34 h34 hpub34
  simp only [cQ9,nQ9]
  refine Zr<|Zqm Z Z<|qaF Z Z Z (w64 O O)<|Zqa Z Z<|Zn<|?_
  refine qab ⟨(k+1,.slice Avq (ng+k+1) cvq,Mq),[_],kp,Z,⟨(I13.1.t h15|>.t h16|>.t h19|>.t h20|>.t I21.1|>.t h34),⟨by simp only;omega,by rw [qaI Fnc.name hx,← List.append_assoc,qc1];exact oq,by simp only;rw [hSf,qed hx,if_neg (fun h=>h.elim hz (fun h=>h hnd)),qaI Fnc.name hx,List.append_assoc];rfl⟩⟩,Oz⟩
 rw [List.drop_eq_nil_of_le O,qfb] at hSf
 rw [List.take_of_length_le (show p.funcs.length≤k by omega)] at hO
 refine Zl<|Zv<|Zv<|Zd<|Zt<|Sr<|qac (qag 2 [_,_] Z Z Z Z Z) Z<|Jc Z Z Z (qho D _ _ d p Ag _ ng cg nf cf (hGl.le (h1.t h2|>.t h3|>.t h4|>.t I6.1|>.t I13.1)) (hFn.le (h1.t h2|>.t h3|>.t h4|>.t I6.1|>.t I13.1))) ?_
 rintro _ _ s35 h35 ⟨rfl,rfl⟩
 refine At Z Z<|Zs<|Sr<|Zqm Z Z<|qbh Z Z Z<|Nt<|?_
 refine qaa Z (fun c36=>?_) (fun c36=>?_)
 ·
  have hE9:=nF_m hS hSf c36
  have hE:qcN p=(12,-1):=by rw [qcN,if_neg g14,if_pos (by rw [hE9];simp),hE9]
  refine Sr<|Jc Z Z Z (qdB D _ _ _ _) ?_
  rintro _ _ s37 h37 ⟨rfl,rfl⟩
  refine Wt 1 [_,_] Y9<|Nt<|Zo<|Zu<|?_
  refine rR (_::_::_::Mo) L (.agg (us:=[_,_]) 1 Z Z Z Z Z (.nil)) Z (h1.t h2|>.t h3|>.t h4|>.t I6.1|>.t I13.1|>.t h35|>.t h37) fun _ hS2=>?_
  exact ⟨by rw [hE];rfl,rfl⟩
 obtain ⟨j,hj⟩:=Int.eq_ofNat_of_zero_le (show 0≤qcV p.funcs by have:=c36;omega)
 have hjl:=qdv (p:=fun x:Fnc=>decide (x.name=qbY)) (l:=p.funcs) (k:=0)
 have hjl2:j < nf:=by unfold qcV at hj;omega
 obtain ⟨b,off,x,B1,m1,d1,B2,m2,d2,B3,m3,d3,rfl,hx,hcx,hpx,hlx,hbx,hnl⟩:=Fncs.at_ (hFn.le (h1.t h2|>.t h3|>.t h4|>.t I6.1|>.t I13.1|>.t h35)) hjl2
 have hp9:=hpx.1
 have hE8:=nF_p hS hSf hj hx
 rw [hj]
 refine Zk<|Zt<|Zs<|Sr<|Wb Y5<|Wl 2 Y6<|Zqm Z Z<|qac (qap (j:=j) Z Z Z Z Z Z hjl2) Z<|qac (qbs Z Z Z Z) Z<|qac (qaC 1 Z Z Z (hcx.le (Lr D)) Z) Z<|Ws Y4<|qbv Z Z Z<|Nt<|?_
 refine qaa Z (fun c38=>?_) (fun c38=>?_)
 ·
  have hE9:qbU p=(9,-1):=by rw [hE8,if_neg (fun h=>by rw [h] at hp9;simp at hp9;omega)]
  have hE:qcN p=(9,-1):=by rw [qcN,if_neg g14,if_pos (by rw [hE9];simp),hE9]
  refine Sr<|Jc Z Z Z (qdB D _ _ _ _) ?_
  rintro _ _ s39 h39 ⟨rfl,rfl⟩
  refine Wt 1 [_,_] Y9<|Nt<|Zo<|Zu<|?_
  refine rR (_::_::_::Mo) L (.agg (us:=[_,_]) 1 Z Z Z Z Z (.nil)) Z (h1.t h2|>.t h3|>.t h4|>.t I6.1|>.t I13.1|>.t h35|>.t h39) fun _ hS2=>?_
  exact ⟨by rw [hE];rfl,rfl⟩
 have hE9:qbU p=(0,0):=by rw [hE8,if_pos (List.eq_nil_of_length_eq_zero O)]
 have g20:¬ (qbU p).1≠0:=fun h=>h (by rw [hE9])
 clear hx hcx hpx hlx hbx hnl hE8
 refine Zk<|Zt<|Zs<|Sr<|At Z Z<|Zp<|qav (γ:=Nat) (fun k=>[(1,_),(2,_),(3,_),(12,.int .i64 (k:Int))]) (fun _=>_) (fun k tw=>Le D s35 tw∧(k≤nf∧qi4 p p.funcs p.globals.length=qi4 p (p.funcs.drop k) (p.globals.length+k))) (fun k=>nf - k) (fun _ _ _ h hl=>⟨h.1.trans hl,h.2⟩) 0 (.c4 Z Z Z Z (.nil _)) Z ⟨Le.refl _,⟨Nat.zero_le _,Z⟩⟩ ?_
 intro k s40 I40
 have hk0:=I40.2.1
 have hSb:=I40.2.2
 refine Zs<|Sr<|Zqm Z Z<|Wb Y5<|Wl 2 Y6<|Ws Y4<|qbh Z Z Z<|Nt<|?_
 refine qaa Z (fun c41=>?_) (fun c41=>?_)
 ·
  have hk:k < nf:=by omega
  obtain ⟨b,off,x,B1,m1,d1,B2,m2,d2,B3,m3,d3,hAf,hx,hcx,hpx,hlx,hbx,hnl⟩:=Fncs.at_ (hFn.le (h1.t h2|>.t h3|>.t h4|>.t I6.1|>.t I13.1|>.t h35|>.t I40.1)) hk
  injection hAf with hAf
  injection hAf with hAb hAo
  subst hAb;subst hAo
  obtain ⟨hi1,hi2,hi3,hi4,hi5,hi6⟩:=hVf x (List.mem_of_getElem? hx)
  refine Zk<|Zt<|Zs<|Zp<|Sr<|Wb Y5<|Wl 2 Y6<|Zqm Z Z<|qac (qap Z Z Z Z Z Z hk) Z<|qac (qbs Z Z Z Z) Z<|qac (qaC 3 Z Z Z (hcx.le (Lr D)) Z) Z<|Jc Z Z Z (rns D d _ _ B3 m3 d3 x.body 0 1 (hbx.le (Lr D)) hi5 O O) ?_
  rintro _ _ s42 h42 ⟨rfl,Ar,nr,cr,rfl,hRs⟩
  have hnr:=hRs.1
  have hnr2:=hRs.2.1
  have hnr3:=hRs.2.2.1
  refine At Z Z<|Sr<|At Z Z<|Zp<|qav (γ:=Nat) (fun j=>[(1,_),(2,_),(3,_),(12,_),(13,_),(14,.int .i64 (j:Int))]) (fun _=>_) (fun j tw=>Le D s42 tw∧(j≤nr∧bdR p x (rss x.body 0)=bdR p x ((rss x.body 0).drop j))) (fun j=>nr - j) (fun _ _ _ h hl=>⟨h.1.trans hl,h.2⟩) 0 (.c6 Z Z Z Z Z Z (.nil _)) Z ⟨Le.refl _,⟨Nat.zero_le _,Z⟩⟩ ?_
  intro j s43 I43
  have hj0:=I43.2.1
  have hSr:=I43.2.2
  refine Zs<|Sr<|Zqm Z Z<|Zqm Z Z<|Ws Y4<|qbh Z Z Z<|Nt<|?_
  refine qaa Z (fun c44=>?_) (fun c44=>?_)
  ·
   have hj:j < nr:=by omega
   obtain ⟨b3,off3,r,rfl,hrj,hcr⟩:=Rns.at_ (hRs.le I43.1) hj
   have hru:=qvx (List.mem_of_getElem? hrj)
   refine Zk<|Zt<|Zs<|Zp<|Zs<|qay qad 8 Z _ (fun _ h=>h) ?_
   intro s45 h45
   refine za 0 Z (qag 2 [_,_] Z Z Z Z Z) Z<|za 1 Z (qan Z) Z<|za 2 Z (qan Z) Z<|za 3 Z (qan Z) Z<|za 4 Z (qap Z Z Z Z Z Z hj) Z<|za 5 Z (qau Z Z Z (hcr.le h45) Z) Z<|qax 6 V<|Jb Z Tt Z Z Z (qmE D _ _ d p Ag _ ng cg nf cf (hGl.le (h1.t h2|>.t h3|>.t h4|>.t I6.1|>.t I13.1|>.t h35|>.t I40.1|>.t h42|>.t I43.1|>.t h45)) (hFn.le (h1.t h2|>.t h3|>.t h4|>.t I6.1|>.t I13.1|>.t h35|>.t I40.1|>.t h42|>.t I43.1|>.t h45)) hV k x hx r hru) ?_
   rintro _ _ s46 h46 ⟨rfl,rfl⟩
   refine ⟨fun _ _ h=>h,?_⟩
   refine za 7 Z (qaM Z) Z<|qal V<|Zt<|Sr<|Zqm Z Z<|qb2 Z Z Z<|Nt<|?_
   refine qaP Z (fun c47=>?_) (fun c47=>?_)
   ·
    have hzr:=c47
    have hbn:qfo p x (qcz x.body 0)=rnC p x r:=by rw [← qkU hi5,hSr,qpA hrj,if_neg hzr]
    have hE:qcN p=(rnC p x r,((ng+k:Nat):Int)):=by rw [qcN,if_neg g14,if_neg g20,hSb,qgN hx,if_neg (by rw [hbn];exact hzr),hbn,hn1]
    refine Sr<|Zqm Z Z<|W0 Y5<|Wl 2 Y6<|Ws Y4<|Zqm Z Z<|qac (qaR Z Z (show IntKind.i64.wrap ((ng:Int)+(k:Int))=((ng+k:Nat):Int) by rw [w64 O O];simp)) Z<|Jc Z Z Z (qdB D _ _ _ _) ?_
    rintro _ _ s48 h48 ⟨rfl,rfl⟩
    refine Wt 1 [_,_] Y9<|Nt<|Zo<|Zc<|Zu<|Zu<|Zc<|Zc<|Zu<|Zu<|Zc<|Zu<|?_
    refine rR (_::_::_::Mo) L (.agg (us:=[_,_]) 1 Z Z Z Z Z (.nil)) Z (h1.t h2|>.t h3|>.t h4|>.t I6.1|>.t I13.1|>.t h35|>.t I40.1|>.t h42|>.t I43.1|>.t h45|>.t h46|>.t h48) fun _ hS2=>?_
    exact ⟨by rw [hE];rfl,rfl⟩
   have hzr:=c47
   refine Zk<|Zb<|Zt<|Zr<|Zqm Z Z<|qaF Z Z Z (w64 O O)<|Zqa Z Z<|Zn<|?_
   refine qab ⟨(j+1),[],kp,Z,⟨(I43.1.t h45|>.t h46),⟨by omega,by rw [hSr,qpA hrj,if_pos hzr]⟩⟩,O⟩
  have hbn:qfo p x (qcz x.body 0)=0:=by rw [← qkU hi5,hSr,List.drop_eq_nil_of_le O,bdR]
  refine Zl<|Zv<|Zv<|Zd<|Zb<|Zt<|Zr<|Zqm Z Z<|qaF Z Z Z (w64 O O)<|Zqa Z Z<|Zn<|?_
  refine qab ⟨(k+1),[],kp,Z,⟨(I40.1.t h42|>.t I43.1),⟨by omega,by rw [hSb,qgN hx,if_pos hbn];rfl⟩⟩,O⟩
 rw [List.drop_eq_nil_of_le O,qi4] at hSb
 have hE:qcN p=qeK p:=by rw [qcN,if_neg g14,if_neg g20,hSb,hz0]
 refine Zl<|Zv<|Zv<|Zd<|Zt<|Sr<|qac (qag 0 [_,_] Z Z Z Z Z) Z<|Wt 1 [_,_] Y9<|Nt<|Zo<|?_
 refine rR (_::_::_::Mo) L (.agg (us:=[_,_]) 1 Z Z Z Z Z (.nil)) Z (h1.t h2|>.t h3|>.t h4|>.t I6.1|>.t I13.1|>.t h35|>.t I40.1) fun _ hS2=>?_
 exact ⟨by rw [hE];rfl,rfl⟩
theorem qig(d:Nat)(s:World):Exs d s none 0 0 []:=⟨rfl,Nat.le_refl _,by omega,fun i x h=>by cases h⟩
theorem qiP(d:Nat)(s:World):Stms d s none 0 0 []:=⟨rfl,Nat.le_refl _,by omega,fun i x h=>by cases h⟩
theorem qi1(s:World):Strs s none 0 0 []:=⟨rfl,Nat.le_refl _,by omega,fun i x h=>by cases h⟩
theorem qqI(s:World):Wds s none 0 0 []:=⟨rfl,Nat.le_refl _,by omega,fun i x h=>by cases h⟩
def getX:Ex:=.mk 5 0 0 [] []
def nX:Ex:=.mk 2 0 0 [110] []
def mulX:Ex:=.mk 7 4 0 [] [nX,.mk 1 0 2 [] []]
def sumX:Ex:=.mk 7 10 0 [] [getX,mulX]
theorem qhu{d:Nat}{s:World}{k o n:Int}{nm:Str}{A:Option Addr}{m c:Nat}{l:List Ex}(h:Exs d s A m c l)(hn:U32 n)(hl:nm.length≤1000):([.int .i64 k,.int .i64 o,.int .u32 n,St nm,.slice A m c]:List Value).length=5∧ExR (d+1) s (.mk k o n nm l) [.int .i64 k,.int .i64 o,.int .u32 n,St nm,.slice A m c]:=⟨rfl,A,m,c,rfl,h,hn,show nm.length≤9223372036854775807 by omega⟩
theorem qod{s:World}{b1 b2 b3 b4 b5 b6:Nat}(h1:CellsAt s b1 0 [.int .i64 2,.int .i64 0,.int .u32 0,St [110],.slice none 0 0,.int .i64 1,.int .i64 0,.int .u32 2,St [],.slice none 0 0])
  (h2:CellsAt s b2 0 [.int .i64 5,.int .i64 0,.int .u32 0,St [],.slice none 0 0,.int .i64 7,.int .i64 4,.int .u32 0,St [],.slice (some ⟨b1,0,none⟩) 2 2])
  (h3:CellsAt s b3 0 [.int .i64 1,St [110],.int .u32 3,.slice none 0 0]) (h4:CellsAt s b4 0 [.int .i64 7,.int .i64 10,.int .u32 0,St [],.slice (some ⟨b2,0,none⟩) 2 2])
  (h5:CellsAt s b5 0 [.int .i64 7,St [],.slice (some ⟨b4,0,none⟩) 1 1,.slice none 0 0,.slice none 0 0]) (h6:CellsAt s b6 0 [St qbY,.slice none 0 0,.slice none 0 0,.slice (some ⟨b5,0,none⟩) 1 1]) :
  Glos s (some ⟨b3,0,none⟩) 1 1 smallP.globals∧Fncs 5 s (some ⟨b6,0,none⟩) 1 1 smallP.funcs:=by
 have z:U32 0:=⟨by decide,by decide⟩
 have e1:Exs 2 s (some ⟨b1,0,none⟩) 2 2 [nX,.mk 1 0 2 [] []]:=Sl.lit [[_,_,_,_,_],[_,_,_,_,_]] h1 rfl (.cons (qhu (qig 1 s) z Dc) (.cons (qhu (qig 1 s) ⟨by decide,by decide⟩ Dc) .nil)) 2 rfl O
 have e2:Exs 3 s (some ⟨b2,0,none⟩) 2 2 [getX,mulX]:=Sl.lit [[_,_,_,_,_],[_,_,_,_,_]] h2 rfl (.cons (qhu (qig 2 s) z Dc) (.cons (qhu e1 z Dc) .nil)) 2 rfl O
 have e3:Exs 4 s (some ⟨b4,0,none⟩) 1 1 [sumX]:=Sl.lit [[_,_,_,_,_]] h4 rfl (.cons (qhu e2 z Dc) .nil) 1 rfl O
 have e4:Stms 5 s (some ⟨b5,0,none⟩) 1 1 [.mk 7 [] [sumX] [] []]:=Sl.lit [[_,_,_,_,_]] h5 rfl (.cons ⟨rfl,_,_,_,_,_,_,_,_,_,rfl,e3,qiP 4 s,qiP 4 s,by decide⟩ .nil) 1 rfl O
 exact ⟨Sl.lit [[_,_,_,_]] h3 rfl (.cons ⟨rfl,_,_,_,rfl,qqI s,⟨by decide,by decide⟩,by decide⟩ .nil) 1 rfl O,
  Sl.lit [[_,_,_,_]] h6 rfl (.cons ⟨rfl,_,_,_,_,_,_,_,_,_,rfl,qi1 s,qi1 s,e4,by decide⟩ .nil) 1 rfl O⟩
theorem sm_K:qcN smallP=(0,0):=by decide +kernel
theorem qsm(D:Nat)(L:Hl)(s:World)(n:Int):AC prog D 35 [.int .u32 n] L s fun v L' _=>v=.agg #[.int .i64 1,.int .i64 0,.int .u32 n,St [],.slice none 0 0]∧L=L':=by
 refine qai (fn:=f35) qao func35 V Z ntmps35 Z (rs:=[.cell 2 89]) Z [(0,_)] Z<|Sr<|qaj Z [_,_,_,_,_] Z Z ?_
 intro β1 s1 h1
 refine Nt<|Sr<|Zqm Z Z<|qac (qam [(_,_),(_,_)] [_,_,_,_,_] Z Z Z Z Z Z) Z<|Wt 0 [_,_,_,_,_] Y9<|Nt<|Zo<|?_
 refine rR [_] L (.agg (us:=[_,_,_,_,_]) 0 Z Z Z Z Z (.nil)) Z h1 fun _ hS2=>?_
 exact ⟨rfl,rfl⟩
theorem qls(D:Nat)(L:Hl)(s:World):AC prog D 19 [] L s fun v L' s'=>∃ M',L'=M'++L∧∀ s2,Le D s' s2→Pub M' s2→∃ bg bf,v=.agg #[.slice (some ⟨bg,0,none⟩) 1 1,.slice (some ⟨bf,0,none⟩) 1 1]∧Glos s2 (some ⟨bg,0,none⟩) 1 1 smallP.globals∧Fncs 5 s2 (some ⟨bf,0,none⟩) 1 1 smallP.funcs:=by
 refine qai (fn:=f19) qao func19 V Z ntmps19 Z (rs:=[.cell 0 25]) Z [] Z<|Sr<|qaj Z [_,_] Z Z ?_
 intro β1 s1 h1
 refine Nt<|Sr<|qac (qam [(_,_),(_,_)] [_,_,_,_,_] Z Z Z Z Z Z) Z<|Jc Z Z Z (qsm D _ _ 2) ?_
 rintro _ _ s2 h2 ⟨rfl,rfl⟩
 refine qbk [(_,_),(_,_)] [_,_,_,_,_,_,_,_,_,_] Z Z Z Z Z Z Z Z Z ?_
 intro βa s3 h3 hca
 refine qac (qam [(_,_),(_,_),(_,_)] [_,_,_,_,_] Z Z Z Z Z Z) Z<|qaj Z [_,_,_,_,_] Z Z ?_
 intro β4 s4 h4
 refine Wt 0 [_,_,_,_,_] Y9<|Nt<|Sr<|qac (qam [(_,_)] [_,_,_,_,_] Z Z Z Z Z Z) Z<|qac (qag 0 [_,_,_,_,_] Z Z Z Z Z) Z<|qbk [(_,_),(_,_)] [_,_,_,_,_,_,_,_,_,_] Z Z Z Z Z Z Z Z Z ?_
 intro βb s5 h5 hcb
 refine qac (qam [(_,_),(_,_),(_,_)] [_,_,_,_,_] Z Z Z Z Z Z) Z<|qaj Z [_,_,_,_,_] Z Z ?_
 intro β6 s6 h6
 refine Wt 0 [_,_,_,_,_] Y9<|Nt<|Sr<|qac (qam [(_,_),(_,_),(_,_)] [_,_,_,_] Z Z Z Z Z Z) Z<|qbk [(_,_)] [_,_,_,_] Z Z Z Z Z Z Z Z Z ?_
 intro βc s7 h7 hcc
 refine qac (qag 0 [_,_,_,_,_] Z Z Z Z Z) Z<|qbk [(_,_)] [_,_,_,_,_] Z Z Z Z Z Z Z Z Z ?_
 intro βd s8 h8 hcd
 refine qac (qam [(_,_),(_,_)] [_,_,_,_,_] Z Z Z Z Z Z) Z<|qbk [(_,_)] [_,_,_,_,_] Z Z Z Z Z Z Z Z Z ?_
 intro βe s9 h9 hce
 refine qac (qam [(_,_),(_,_)] [_,_,_,_] Z Z Z Z Z Z) Z<|qbk [(_,_)] [_,_,_,_] Z Z Z Z Z Z Z Z Z ?_
 intro βf s10 h10 hcf
 refine qac (qam [(_,_),(_,_)] [_,_] Z Z Z Z Z Z) Z<|Wt 2 [_,_] Y9<|Nt<|Zo<|?_
 refine rR [_,_,_] _ (.agg (us:=[_,_]) 2 Z Z Z Z Z (.nil)) Z (h1.t h2|>.t h3|>.t h4|>.t h5|>.t h6|>.t h7|>.t h8|>.t h9|>.t h10) fun _ hS2=>?_
 exact ⟨[],rfl,fun s2 hs2 hp=>⟨_,_,rfl,qod (hca.le (h4.t h5|>.t h6|>.t h7|>.t h8|>.t h9|>.t h10|>.t (hS2.t hs2))) (hcb.le (h6.t h7|>.t h8|>.t h9|>.t h10|>.t (hS2.t hs2))) (hcc.le (h8.t h9|>.t h10|>.t (hS2.t hs2))) (hcd.le (h9.t h10|>.t (hS2.t hs2))) (hce.le (h10.t (hS2.t hs2))) (hcf.le ((Lr D).t (hS2.t hs2)))⟩⟩
theorem qhF(D:Nat)(L:Hl)(s:World):AC prog D 19 [] L s fun v L' s'=>L=L'∧∃ bg bf,v=.agg #[.slice (some ⟨bg,0,none⟩) 1 1,.slice (some ⟨bf,0,none⟩) 1 1]∧Glos s' (some ⟨bg,0,none⟩) 1 1 smallP.globals∧Fncs 5 s' (some ⟨bf,0,none⟩) 1 1 smallP.funcs:=AC.pubW (qls D L s)
theorem qhC(D:Nat)(L:Hl)(s:World)(A:Option Addr)(n c:Nat)(l:List UInt8)(hA:Bts s A n c l)(A1:Option Addr)(n1 c1:Nat)(l1:List UInt8)(hB:Bts s A1 n1 c1 l1):AC prog D 18 [.slice A n c,.slice A1 n1 c1] L s fun v L' _=>v=.bool (decide (l=l1))∧L=L':=by
 refine qai (fn:=f18) qao func18 V Z ntmps18 Z (rs:=[.tmp 4]) Z [(0,_),(1,_)] Z<|Sr<|At Z Z<|Sr<|Zqm Z Z<|qac (qi0 Z Z Z Z Z Z Z (hA.le (Lr D))) Z<|Zqm Z Z<|qac (qi0 Z Z Z Z Z Z Z (hB.le (Lr D))) Z<|qka Z Z Z<|At Z Z<|Zo<|?_
 refine rR [] L (.t1 Z) Z (Lr D) fun _ hS2=>?_
 exact ⟨rfl,rfl⟩
theorem qgb(D:Nat)(L:Hl)(s:World)(A:Option Addr)(n c:Nat)(l:List UInt8)(hA:Bts s A n c l)(A1:Option Addr)(n1 c1:Nat)(l1:List UInt8)(hB:Bts s A1 n1 c1 l1)(p q r p1 q1 r1:Int):AC prog D 13 [.agg #[.slice A n c,.int .i64 p,.int .u32 q,.int .i64 r],.agg #[.slice A1 n1 c1,.int .i64 p1,.int .u32 q1,.int .i64 r1]] L s fun v L' _=>v=.bool (decide (l=l1∧p=p1∧q=q1∧r=r1))∧L=L':=by
 refine qai (fn:=f13) qao func13 V Z ntmps13 Z (rs:=[.tmp 4]) Z [(0,_),(1,_)] Z<|Sr<|qaq Z Z ?_
 intro β1 s1 h1
 refine qaq Z Z ?_
 intro β2 s2 h2
 refine At Z Z<|Sr<|W0 Y5<|Wl 1 Y6<|W0 Y5<|Wl 0 Y6<|Jc Z Z Z (qhC D _ _ _ _ _ _ (hA.le (h1.t h2)) _ _ _ _ (hB.le (h1.t h2))) ?_
 rintro _ _ s3 h3 ⟨rfl,rfl⟩
 refine Zqm Z Z ?_
 refine qak (t:=10) Z (fun c4=>?_) (fun c4=>?_)
 ·
  refine Zg Z Z<|Wb Y5<|Zg Z Z<|Wl 1 Y6<|Zg Z Z<|Wb Y5<|Zg Z Z<|Wl 0 Y6<|Zg Z Z<|qar Z Z Z<|ZqT Z Z Z<|Zqm Z Z<|?_
  refine qak (t:=17) Z (fun c5=>?_) (fun c5=>?_)
  ·
   refine Zg Z Z<|Wb Y5<|Zg Z Z<|Wl 1 Y6<|Zg Z Z<|Wb Y5<|Zg Z Z<|Wl 0 Y6<|Zg Z Z<|qar Z Z Z<|ZqT Z Z Z<|Zqm Z Z<|?_
   refine qak (t:=24) Z (fun c6=>?_) (fun c6=>?_)
   ·
    refine Zg Z Z<|Wb Y5<|Zg Z Z<|Wl 1 Y6<|Zg Z Z<|Wb Y5<|Zg Z Z<|Wl 0 Y6<|Zg Z Z<|qar Z Z Z<|ZqT Z Z Z<|At Z Z<|Zo<|?_
    refine rR [_,_] L (.t1 Z) Z (h1.t h2|>.t h3) fun _ hS2=>?_
    exact ⟨by simp_all [qat],rfl⟩
   refine Wf Y4<|Wf Y4<|Wf Y4<|Wf Y4<|Wf Y4<|ZqF Z Z Z<|At Z Z<|Zo<|?_
   refine rR [_,_] L (.t1 Z) Z (h1.t h2|>.t h3) fun _ hS2=>?_
   exact ⟨by simp_all [qat],rfl⟩
  refine Wf Y4<|Wf Y4<|Wf Y4<|Wf Y4<|Wf Y4<|ZqF Z Z Z<|Zqm Z Z<|Wf Y4<|Wf Y4<|Wf Y4<|Wf Y4<|Wf Y4<|ZqF Z Z Z<|At Z Z<|Zo<|?_
  refine rR [_,_] L (.t1 Z) Z (h1.t h2|>.t h3) fun _ hS2=>?_
  exact ⟨by simp_all [qat],rfl⟩
 refine Wf Y4<|Wf Y4<|Wf Y4<|Wf Y4<|Wf Y4<|ZqF Z Z Z<|Zqm Z Z<|Wf Y4<|Wf Y4<|Wf Y4<|Wf Y4<|Wf Y4<|ZqF Z Z Z<|Zqm Z Z<|Wf Y4<|Wf Y4<|Wf Y4<|Wf Y4<|Wf Y4<|ZqF Z Z Z<|At Z Z<|Zo<|?_
 refine rR [_,_] L (.t1 Z) Z (h1.t h2|>.t h3) fun _ hS2=>?_
 exact ⟨by simp_all [qat],rfl⟩
theorem qh4{s:World}{b:Nat}{x:Int}{c:UInt8}(h:CellsAt s b 0 [.int .u8 x])(hx:x=(c.toNat:Int)):Bts s (some ⟨b,0,none⟩) 1 1 [c]:=by
 subst hx
 exact ⟨rfl,Nat.le_refl _,by omega,fun i x hi=>by
  cases i with
  | zero=>simp at hi;subst hi;exact ⟨b,0,_,rfl,h,rfl,rfl⟩
  | succ i=>cases hi⟩
theorem soT(D:Nat)(L:Hl)(s:World)(A:Option Addr)(n c:Nat)(l:List UInt8)(hA:Bts s A n c l)(A1:Option Addr)(n1 c1:Nat)(l1:List UInt8)(hB:Bts s A1 n1 c1 l1)(p q r p1 q1 r1:Int)(h:l=l1∧p=p1∧q=q1∧r=r1):AC prog D 13 [.agg #[.slice A n c,.int .i64 p,.int .u32 q,.int .i64 r],.agg #[.slice A1 n1 c1,.int .i64 p1,.int .u32 q1,.int .i64 r1]] L s fun v L' _=>v=.bool true∧L=L':=
 (qgb D L s A n c l hA A1 n1 c1 l1 hB p q r p1 q1 r1).mono fun v L' s' _ hv=>⟨hv.1.trans (by rw [decide_eq_true h]),hv.2⟩
theorem qk1(D:Nat)(L:Hl)(s:World)(hG:GP s)(d:Nat)(p:Prg)(Ag Af:Option Addr)(ng cg nf cf:Nat)(hGl:Glos s Ag ng cg p.globals)(hFn:Fncs d s Af nf cf p.funcs)(Ai:Option Addr)(ni qi:Nat)(inp:Str)(hI:Bts s Ai ni qi inp)(steps:Int):AC prog D 9 [.agg #[.slice Ag ng cg,.slice Af nf cf],.slice Ai ni qi,.int .i64 steps] L s fun v L' s'=>L=L'∧∃ w,v=.tuple #[w,.agg #[.int .i64 (qeJ p inp steps).2.1,.int .i64 (qeJ p inp steps).2.2]]∧quM s' (qeJ p inp steps).1 w:=AC.pubW (qqW D L s hG d p Ag Af ng cg nf cf hGl hFn Ai ni qi inp hI steps)
theorem quO(n:Nat):quI 6 (quH smallP OPp (n+20+1) 0 [65] 6)=([71],1,0,6):=by kernel_rfl
theorem qva(n:Nat):quI 5 (quH smallP OPp (n+20+1) 0 [65] 5)=([],0,0,5):=by kernel_rfl
theorem qtX:(qcV smallP.funcs).toNat=0:=by decide +kernel
theorem qtY:¬ (qcN smallP).1≠0:=by rw [sm_K];decide
theorem qs6:qeJ smallP [65] 6=(([71],1,0,6),(0,0)):=by
 rw [show (6:Int)=((6:Nat):Int) from rfl,qfd qtY Dc Dc,qh1,qtX,qlR,quO]
theorem qun:qeJ smallP [65] 5=(([],0,0,5),(0,0)):=by
 rw [show (5:Int)=((5:Nat):Int) from rfl,qfd qtY Dc Dc,qh1,qtX,qlR,qva]
theorem qn3(D:Nat)(L:Hl)(s:World)(hG:GP s):AC Tryz.prog D 7 [] L s fun v L' _=>v=.bool true∧L=L':=by
 refine qai (fn:=Tryz.f7) qao Tryz.func7 V Z Tryz.ntmps7 Z (rs:=[.tmp 0]) Z [] Z<|Sr<|At Z Z<|Sr<|Jc Z Z Z (qhF D _ _) ?_
 rintro _ _ s1 h1 ⟨rfl,bg1,bf1,rfl,hg1,hf1⟩
 refine qbk [(_,_)] [_] Z Z Z Z Z Z Z Z Z ?_
 intro βu s2 h2 hcu
 refine Jc Z Z Z (qk1 D _ _ (hG.le (h1.t h2)) 5 smallP _ _ _ _ _ _ (hg1.le h2) (hf1.le h2) _ _ _ [65] (qh4 (c:=65) (hcu.le (Lr D)) Z) 6) ?_
 rintro _ _ s3 h3 ⟨rfl,_,rfl,Ao,no,qo,rfl,hBo⟩
 
 refine Zqm Z Z<|Zqx Z Z Z<|Zqx Z Z Z<|qaj Z [_,_,_,_] Z Z ?_
 intro β4 s4 h4
 refine qaj Z [_,_] Z Z ?_
 intro β5 s5 h5
 refine Wt 1 [_,_,_,_] Y9<|Wt 0 [_,_] Y9<|Nt<|Sr<|Jc Z Z Z (qhF D _ _) ?_
 rintro _ _ s6 h6 ⟨rfl,bg2,bf2,rfl,hg2,hf2⟩
 refine qbk [(_,_)] [_] Z Z Z Z Z Z Z Z Z ?_
 intro βv s7 h7 hcv
 refine Jc Z Z Z (qk1 D _ _ (hG.le (h1.t h2|>.t h3|>.t h4|>.t h5|>.t h6|>.t h7)) 5 smallP _ _ _ _ _ _ (hg2.le h7) (hf2.le h7) _ _ _ [65] (qh4 (c:=65) (hcv.le (Lr D)) Z) 5) ?_
 rintro _ _ s8 h8 ⟨rfl,_,rfl,Ap,np,qp,rfl,hBp⟩
 
 refine Zqm Z Z<|Zqx Z Z Z<|Zqx Z Z Z<|qaj Z [_,_,_,_] Z Z ?_
 intro β9 s9 h9
 refine qaj Z [_,_] Z Z ?_
 intro β10 s10 h10
 refine Wt 1 [_,_,_,_] Y9<|Wt 0 [_,_] Y9<|Nt<|Zs<|Sr<|W0 Y5<|Wl 2 Y6<|qac (qae (v':=.bool false) (qec Z Z) (bF (by rw [qs6]))) Z<|Zqm Z Z<|Zg Z Z<|W0 Y5<|Zg Z Z<|Wl 0 Y6<|Zg Z Z<|qac (qae (v':=.bool false) (qec Z Z) (bF (by rw [qun]))) Z<|ZqF Z Z Z<|Nt<|Zz Z<|Zk<|Zt<|Sr<|qac (qag 3 [_,_,_,_] Z Z Z Z Z) Z<|qbk [(_,_)] [_] Z Z Z Z Z Z Z Z Z ?_
 intro βw s11 h11 hcw
 refine qac (qam [(_,_),(_,_),(_,_)] [_,_,_,_] Z Z Z Z Z Z) Z<|Jc Z Z Z (soT D _ _ _ _ _ _ (hBo.le (h4.t h5|>.t h6|>.t h7|>.t h8|>.t h9|>.t h10|>.t h11)) _ _ _ [71] (qh4 (c:=71) (hcw.le (Lr D)) Z) _ _ _ _ _ _ (by rw [qs6];exact ⟨Z,Z,Z,Z⟩)) ?_
 rintro _ _ s12 h12 ⟨rfl,rfl⟩
 refine Zqm Z Z<|Zg Z Z<|qac (qag 1 [_,_,_,_] Z Z Z Z Z) Z<|Zg Z Z<|qac (qam [(_,_)] [_,_,_,_] Z Z Z Z Z Z) Z<|Zg Z Z<|Jc Z Z Z (soT D _ _ _ _ _ _ (hBp.le (h9.t h10|>.t h11|>.t h12)) _ _ _ [] (Bts.nil _ _ _ O) _ _ _ _ _ _ (by rw [qun];exact ⟨Z,Z,Z,Z⟩)) ?_
 rintro _ _ s13 h13 ⟨rfl,rfl⟩
 refine ZqT Z Z Z<|At Z Z<|Zo<|?_
 refine rR [_,_,_,_] L (.t1 Z) Z (h1.t h2|>.t h3|>.t h4|>.t h5|>.t h6|>.t h7|>.t h8|>.t h9|>.t h10|>.t h11|>.t h12|>.t h13) fun _ hS2=>?_
 exact ⟨rfl,rfl⟩
theorem qu5{j:Nat}(h:4≤j)(h2:j < 14):∃ kd,([Value.int .i64 0,.int .i64 0,.int .i64 0,.int .i64 0,.int .i64 3,.int .i64 4,.int .i64 5,.int .i64 9,.int .i64 10,.int .i64 6,.int .i64 1,.int .i64 2,.int .i64 7,.int .i64 8]:List Value)[j]?=some (.int .i64 kd)∧(kd=4∨kd=5→(j:Int)=5∨(j:Int)=6)∧∀ x y,qh2 kd x y=opP (j:Int) x y:=by
 have h3:j=4∨j=5∨j=6∨j=7∨j=8∨j=9∨j=10∨j=11∨j=12∨j=13:=by omega
 rcases h3 with rfl | rfl | rfl | rfl | rfl | rfl | rfl | rfl | rfl | rfl <;> exact ⟨_,rfl,by decide,fun x y=>by simp [qh2,opP]⟩
theorem qeP{j:Nat}(h:j < 8){x y:Int}(hx:0≤x)(hy:0≤y){a0 a1 a2 a3 a4 a5 a6 a7:Bool}(h0:a0=decide (x=y))(h1:a1=!decide (x=y))(h2:a2=decide (x < y))(h3:a3=decide (x≤y))(h4:a4=decide (y < x))(h5:a5=decide (y≤x))(h6:a6=(!decide (x=0) && !decide (y=0)))(h7:a7=(!decide (x=0) || !decide (y=0))) :
  ([Value.bool a0,.bool a1,.bool a2,.bool a3,.bool a4,.bool a5,.bool a6,.bool a7]:List Value)[j]?=some (.bool (qdw ((j+14:Nat):Int) x y)):=by
 subst h0 h1 h2 h3 h4 h5 h6 h7
 have hj:j=0∨j=1∨j=2∨j=3∨j=4∨j=5∨j=6∨j=7:=by omega
 rcases hj with rfl | rfl | rfl | rfl | rfl | rfl | rfl | rfl <;> rfl
theorem qfk(D:Nat)(L:Hl)(s:World)(k:Int)(x y:Int)(hx:U32 x)(hy:U32 y)(hk:1≤k∧k≤21):AC Tryz.prog D 173 [.int .i64 k,.int .u32 x,.int .u32 y] L s fun v L' _=>v=.tuple #[.int .u32 (if (qee k y).1=0 then opP k x y else 0),.bool (decide ((qee k y).1=0))]∧L=L':=by
 have g8:¬ (k < 1∨21 < k):=by omega
 have hx0:=hx.1
 have hy0:=hy.1
 have hx1:=hx.2
 have hy1:=hy.2
 refine qai (fn:=Tryz.f173) qao Tryz.func173 V Z Tryz.ntmps173 Z (rs:=[.tmp 6,.tmp 7]) Z [(0,_),(1,_),(2,_)] Z<|Sr<|Zqa Z Z<|At Z Z<|Zs<|?_
 refine qaU 19 ((k=5∨k=6)∧y=0) ?_ ?_
 ·
  refine Zr<|Zqm Z Z<|qar Z Z Z<|Zqm Z Z<|?_
  refine qak (t:=12) Z (fun c2=>?_) (fun c2=>?_)
  ·
   refine Wf Y4<|Wf Y4<|ZqT Z Z Z<|Zqm Z Z<|Zg Z Z<|Zqm Z Z<|Zg Z Z<|qar Z Z Z<|ZqT Z Z Z<|Zn<|?_
   refine qab (MidB.mk (Lr D) Sb Z (decide_eq_decide.2 O))
  refine Zg Z Z<|Zqm Z Z<|Zg Z Z<|qar Z Z Z<|ZqF Z Z Z<|Zqm Z Z<|?_
  refine qak (t:=16) Z (fun c3=>?_) (fun c3=>?_)
  ·
   refine Zg Z Z<|Zqm Z Z<|Zg Z Z<|qar Z Z Z<|ZqT Z Z Z<|Zn<|?_
   refine qab (MidB.mk (Lr D) Sb Z (decide_eq_decide.2 O))
  refine Wf Y4<|Wf Y4<|ZqF Z Z Z<|Zn<|?_
  refine qab (MidB.mk (Lr D) Sb Z ((decide_eq_false O).symm))
 intro s1 h1
 refine qaa Z (fun c4=>?_) (fun c4=>?_)
 ·
  have hE:qee k y=(26,-3):=(if_neg g8).trans (if_pos c4)
  refine Sr<|Zqa Z Z<|At Z Z<|Zo<|Zu<|?_
  refine rR [] L (.tmp Z (.t1 Z)) Z h1 fun _ hS2=>?_
  refine ⟨?_,Z⟩
  first
    | (rw [hE,if_neg Dc];rfl)
    | (rw [hE];show Value.tuple #[.int .u32 _,.bool true]=.tuple #[.int .u32 (opP _ x y),.bool true];rw [← hO])
    | (rw [hE];show Value.tuple #[.int .u32 _,.bool true]=.tuple #[.int .u32 (opP _ x y),.bool true];rw [← hO];rfl)
 have g16:=c4
 have hE:qee k y=(0,0):=(if_neg g8).trans (if_neg g16)
 refine Zk<|Zt<|Sr<|qbk [(_,_),(_,_),(_,_),(_,_),(_,_),(_,_),(_,_),(_,_),(_,_),(_,_),(_,_),(_,_),(_,_),(_,_)] [_,_,_,_,_,_,_,_,_,_,_,_,_,_] Z Z Z Z Z Z Z Z Z ?_
 intro βt s5 h5 hct
 refine At Z Z<|Zs<|Sr<|Zqm Z Z<|qar Z Z Z<|Nt<|?_
 refine qaa Z (fun c6=>?_) (fun c6=>?_)
 ·
  have g1:=c6
  have hO:(if decide (x=0)=true then 1 else 0:Int)=opP k x y:=by rw [g1];simp [opP,qdw]
  refine Sr<|Zqm Z Z<|qar Z Z Z<|Jc Z Z Z (qb4 D _ _ _) ?_
  rintro _ _ s7 h7 ⟨rfl,rfl⟩
  refine Zqa Z Z<|At Z Z<|Zo<|Zu<|?_
  refine rR [] L (.tmp Z (.t1 Z)) Z (h1.t h5|>.t h7) fun _ hS2=>?_
  refine ⟨?_,Z⟩
  first
    | (rw [hE,if_neg Dc];rfl)
    | (rw [hE];show Value.tuple #[.int .u32 _,.bool true]=.tuple #[.int .u32 (opP _ x y),.bool true];rw [← hO])
    | (rw [hE];show Value.tuple #[.int .u32 _,.bool true]=.tuple #[.int .u32 (opP _ x y),.bool true];rw [← hO];rfl)
 refine Zk<|Zt<|Zs<|Sr<|Zqm Z Z<|qar Z Z Z<|Nt<|?_
 refine qaa Z (fun c8=>?_) (fun c8=>?_)
 ·
  have g2:=c8
  have hO:w32 (0 - x)=opP k x y:=by rw [g2];rfl
  refine Sr<|Zqm Z Z<|qac (qae (qfO Z Z) (show Value.int .u32 (IntKind.u32.wrap (0 - x))=.int .u32 (w32 (0 - x)) by rw [qda])) Z<|Zqa Z Z<|At Z Z<|Zo<|Zu<|?_
  refine rR [] L (.tmp Z (.t1 Z)) Z (h1.t h5) fun _ hS2=>?_
  refine ⟨?_,Z⟩
  first
    | (rw [hE,if_neg Dc];rfl)
    | (rw [hE];show Value.tuple #[.int .u32 _,.bool true]=.tuple #[.int .u32 (opP _ x y),.bool true];rw [← hO])
    | (rw [hE];show Value.tuple #[.int .u32 _,.bool true]=.tuple #[.int .u32 (opP _ x y),.bool true];rw [← hO];rfl)
 refine Zk<|Zt<|Zs<|Sr<|Zqm Z Z<|qar Z Z Z<|Nt<|?_
 refine qaa Z (fun c9=>?_) (fun c9=>?_)
 ·
  have g3:=c9
  have hO:4294967295 - x=opP k x y:=by rw [g3];rfl
  refine Sr<|Zqm Z Z<|qac (qbd (c:=4294967295 - x) Z Z (by rw [qda,w32];omega)) Z<|Zqa Z Z<|At Z Z<|Zo<|Zu<|?_
  refine rR [] L (.tmp Z (.t1 Z)) Z (h1.t h5) fun _ hS2=>?_
  refine ⟨?_,Z⟩
  first
    | (rw [hE,if_neg Dc];rfl)
    | (rw [hE];show Value.tuple #[.int .u32 _,.bool true]=.tuple #[.int .u32 (opP _ x y),.bool true];rw [← hO])
    | (rw [hE];show Value.tuple #[.int .u32 _,.bool true]=.tuple #[.int .u32 (opP _ x y),.bool true];rw [← hO];rfl)
 refine Zk<|Zt<|Zs<|Sr<|Zqm Z Z<|qbh Z Z Z<|Nt<|?_
 refine qaa Z (fun c10=>?_) (fun c10=>?_)
 ·
  obtain ⟨j,rfl⟩:=Int.eq_ofNat_of_zero_le (show 0≤k by omega)
  obtain ⟨kd,hkd,hkz,hkc⟩:=qu5 (j:=j) O O
  have hO:=hkc x y
  refine Sr<|Zqm Z Z<|Zqm Z Z<|qac (qas Z Z Z Z Z Z (show j < 14 by omega)) Z<|qac (qah Z Z Z (CellsAt.nth (hct.le (Lr D)) hkd) Z) Z<|Zqm Z Z<|Zqm Z Z<|Jc Z Z Z (qid D _ _ kd x y hx hy (fun h h0=>g16 ⟨hkz h,h0⟩)) ?_
  rintro _ _ s11 h11 ⟨rfl,rfl⟩
  refine Zqa Z Z<|At Z Z<|Zo<|Zu<|?_
  refine rR [] L (.tmp Z (.t1 Z)) Z (h1.t h5|>.t h11) fun _ hS2=>?_
  refine ⟨?_,Z⟩
  first
    | (rw [hE,if_neg Dc];rfl)
    | (rw [hE];show Value.tuple #[.int .u32 _,.bool true]=.tuple #[.int .u32 (opP _ x y),.bool true];rw [← hO])
    | (rw [hE];show Value.tuple #[.int .u32 _,.bool true]=.tuple #[.int .u32 (opP _ x y),.bool true];rw [← hO];rfl)
 obtain ⟨j,rfl⟩:∃ j:Nat,k=((j+14:Nat):Int):=⟨(k - 14).toNat,by omega⟩
 have hj:j < 8:=by omega
 have hO:(if qdw ((j+14:Nat):Int) x y=true then 1 else 0:Int)=opP ((j+14:Nat):Int) x y:=by rw [opP,if_pos (c:=14≤((j+14:Nat):Int)∨((j+14:Nat):Int)=1) (.inl O)]
 refine Zk<|Zt<|Zs<|?_
 rcases (by omega:(x < y∧x=0)∨(x < y∧0 < x)∨(x=y∧x=0)∨(x=y∧0 < x)∨(y < x∧y=0)∨(y < x∧0 < y)) with g12 | g12 | g12 | g12 | g12 | g12
 ·
  refine Zr<|Zqm Z Z<|Zqm Z Z<|qac (qae (v':=.bool false) (qa9 Z Z) (bZ O)) Z<|Zqm Z Z<|Zqm Z Z<|qac (qae (v':=.bool true) (qec Z Z) (bN O)) Z<|Zqm Z Z<|Zqm Z Z<|qac (qae (v':=.bool true) (qb7 Z Z) (bT O)) Z<|Zqm Z Z<|Zqm Z Z<|qac (qae (v':=.bool true) (qb7 Z Z) (bT O)) Z<|Zqm Z Z<|Wf Y4<|Wf Y4<|Wf Y4<|ZqT Z Z Z<|Zqm Z Z<|Zqm Z Z<|qac (qae (v':=.bool false) (qb7 Z Z) (bZ O)) Z<|Zqm Z Z<|Zqm Z Z<|qac (qae (v':=.bool false) (qb7 Z Z) (bZ O)) Z ?_
  refine Zqm Z Z<|Zg Z Z<|Zqm Z Z<|Zg Z Z<|Zqm Z Z<|Zg Z Z<|qac (qae (v':=.bool false) (qa9 Z Z) (bZ O)) Z<|ZqF Z Z Z<|Zqm Z Z<|qac (qae (v':=.bool false) (qdn Z Z) (bZ O)) Z<|Zqm Z Z<|Wf Y4<|Wf Y4<|ZqF Z Z Z<|Zqm Z Z<|qac (qae (v':=.bool false) (qdn Z Z) (bZ O)) Z<|Zqm Z Z<|Zg Z Z<|Zqm Z Z<|Zg Z Z<|qac (qae (v':=.bool true) (qdn Z Z) (bT O)) Z<|ZqF Z Z Z<|qbk [(_,_),(_,_),(_,_),(_,_),(_,_),(_,_),(_,_),(_,_)] [_,_,_,_,_,_,_,_] Z Z Z Z Z Z Z Z Z ?_
  intro βu s12 h12 hcu
  have hcv:=CellsAt.nth hcu (qeP (j:=j) (x:=x) (y:=y) hj hx0 hy0 (by first | rfl | grind | (rw [Bool.eq_iff_iff];simp;omega)) (by first | rfl | grind | (rw [Bool.eq_iff_iff];simp;omega)) (by first | rfl | grind | (rw [Bool.eq_iff_iff];simp;omega)) (by first | rfl | grind | (rw [Bool.eq_iff_iff];simp;omega)) (by first | rfl | grind | (rw [Bool.eq_iff_iff];simp;omega)) (by first | rfl | grind | (rw [Bool.eq_iff_iff];simp;omega)) (by first | rfl | grind | (rw [Bool.eq_iff_iff];simp;omega)) (by first | rfl | grind | (rw [Bool.eq_iff_iff];simp;omega)))
  refine At Z Z<|Sr<|Zqm Z Z<|Zqm Z Z<|qac (qbd (c:=(j:Int)) Z Z (by rw [w64 O O];omega)) Z<|qac (qas Z Z Z Z Z Z hj) Z<|qac (qah Z Z Z (hcv.le (Lr D)) Z) Z<|Jc Z Z Z (qb4 D _ _ _) ?_
  rintro _ _ s13 h13 ⟨rfl,rfl⟩
  refine Zqa Z Z<|At Z Z<|Zo<|?_
  refine rR [] L (.tmp Z (.t1 Z)) Z (h1.t h5|>.t h12|>.t h13) fun _ hS2=>?_
  refine ⟨?_,Z⟩
  first
    | (rw [hE,if_neg Dc];rfl)
    | (rw [hE];show Value.tuple #[.int .u32 _,.bool true]=.tuple #[.int .u32 (opP _ x y),.bool true];rw [← hO])
    | (rw [hE];show Value.tuple #[.int .u32 _,.bool true]=.tuple #[.int .u32 (opP _ x y),.bool true];rw [← hO];rfl)
 ·
  refine Zr<|Zqm Z Z<|Zqm Z Z<|qac (qae (v':=.bool false) (qa9 Z Z) (bZ O)) Z<|Zqm Z Z<|Zqm Z Z<|qac (qae (v':=.bool true) (qec Z Z) (bN O)) Z<|Zqm Z Z<|Zqm Z Z<|qac (qae (v':=.bool true) (qb7 Z Z) (bT O)) Z<|Zqm Z Z<|Zqm Z Z<|qac (qae (v':=.bool true) (qb7 Z Z) (bT O)) Z<|Zqm Z Z<|Wf Y4<|Wf Y4<|Wf Y4<|ZqT Z Z Z<|Zqm Z Z<|Zqm Z Z<|qac (qae (v':=.bool false) (qb7 Z Z) (bZ O)) Z<|Zqm Z Z<|Zqm Z Z<|qac (qae (v':=.bool false) (qb7 Z Z) (bZ O)) Z ?_
  refine Zqm Z Z<|Zg Z Z<|Zqm Z Z<|Zg Z Z<|Zqm Z Z<|Zg Z Z<|qac (qae (v':=.bool false) (qa9 Z Z) (bZ O)) Z<|ZqF Z Z Z<|Zqm Z Z<|qac (qae (v':=.bool true) (qdn Z Z) (bT O)) Z<|Zqm Z Z<|Zg Z Z<|Zqm Z Z<|Zg Z Z<|qac (qae (v':=.bool true) (qdn Z Z) (bT O)) Z<|ZqT Z Z Z<|Zqm Z Z<|qac (qae (v':=.bool true) (qdn Z Z) (bT O)) Z<|Zqm Z Z<|Wf Y4<|Wf Y4<|ZqT Z Z Z<|qbk [(_,_),(_,_),(_,_),(_,_),(_,_),(_,_),(_,_),(_,_)] [_,_,_,_,_,_,_,_] Z Z Z Z Z Z Z Z Z ?_
  intro βu s14 h14 hcu
  have hcv:=CellsAt.nth hcu (qeP (j:=j) (x:=x) (y:=y) hj hx0 hy0 (by first | rfl | grind | (rw [Bool.eq_iff_iff];simp;omega)) (by first | rfl | grind | (rw [Bool.eq_iff_iff];simp;omega)) (by first | rfl | grind | (rw [Bool.eq_iff_iff];simp;omega)) (by first | rfl | grind | (rw [Bool.eq_iff_iff];simp;omega)) (by first | rfl | grind | (rw [Bool.eq_iff_iff];simp;omega)) (by first | rfl | grind | (rw [Bool.eq_iff_iff];simp;omega)) (by first | rfl | grind | (rw [Bool.eq_iff_iff];simp;omega)) (by first | rfl | grind | (rw [Bool.eq_iff_iff];simp;omega)))
  refine At Z Z<|Sr<|Zqm Z Z<|Zqm Z Z<|qac (qbd (c:=(j:Int)) Z Z (by rw [w64 O O];omega)) Z<|qac (qas Z Z Z Z Z Z hj) Z<|qac (qah Z Z Z (hcv.le (Lr D)) Z) Z<|Jc Z Z Z (qb4 D _ _ _) ?_
  rintro _ _ s15 h15 ⟨rfl,rfl⟩
  refine Zqa Z Z<|At Z Z<|Zo<|?_
  refine rR [] L (.tmp Z (.t1 Z)) Z (h1.t h5|>.t h14|>.t h15) fun _ hS2=>?_
  refine ⟨?_,Z⟩
  first
    | (rw [hE,if_neg Dc];rfl)
    | (rw [hE];show Value.tuple #[.int .u32 _,.bool true]=.tuple #[.int .u32 (opP _ x y),.bool true];rw [← hO])
    | (rw [hE];show Value.tuple #[.int .u32 _,.bool true]=.tuple #[.int .u32 (opP _ x y),.bool true];rw [← hO];rfl)
 ·
  refine Zr<|Zqm Z Z<|Zqm Z Z<|qac (qae (v':=.bool true) (qa9 Z Z) (bT O)) Z<|Zqm Z Z<|Zqm Z Z<|qac (qae (v':=.bool false) (qec Z Z) (bF O)) Z<|Zqm Z Z<|Zqm Z Z<|qac (qae (v':=.bool false) (qb7 Z Z) (bZ O)) Z<|Zqm Z Z<|Zqm Z Z<|qac (qae (v':=.bool false) (qb7 Z Z) (bZ O)) Z<|Zqm Z Z<|Zg Z Z<|Zqm Z Z<|Zg Z Z<|Zqm Z Z<|Zg Z Z<|qac (qae (v':=.bool true) (qa9 Z Z) (bT O)) Z<|ZqF Z Z Z<|Zqm Z Z<|Zqm Z Z<|qac (qae (v':=.bool false) (qb7 Z Z) (bZ O)) Z<|Zqm Z Z<|Zqm Z Z<|?_
  refine qac (qae (v':=.bool false) (qb7 Z Z) (bZ O)) Z<|Zqm Z Z<|Zg Z Z<|Zqm Z Z<|Zg Z Z<|Zqm Z Z<|Zg Z Z<|qac (qae (v':=.bool true) (qa9 Z Z) (bT O)) Z<|ZqF Z Z Z<|Zqm Z Z<|qac (qae (v':=.bool false) (qdn Z Z) (bZ O)) Z<|Zqm Z Z<|Wf Y4<|Wf Y4<|ZqF Z Z Z<|Zqm Z Z<|qac (qae (v':=.bool false) (qdn Z Z) (bZ O)) Z<|Zqm Z Z<|Zg Z Z<|Zqm Z Z<|Zg Z Z<|qac (qae (v':=.bool false) (qdn Z Z) (bZ O)) Z<|ZqF Z Z Z ?_
  refine qbk [(_,_),(_,_),(_,_),(_,_),(_,_),(_,_),(_,_),(_,_)] [_,_,_,_,_,_,_,_] Z Z Z Z Z Z Z Z Z ?_
  intro βu s16 h16 hcu
  have hcv:=CellsAt.nth hcu (qeP (j:=j) (x:=x) (y:=y) hj hx0 hy0 (by first | rfl | grind | (rw [Bool.eq_iff_iff];simp;omega)) (by first | rfl | grind | (rw [Bool.eq_iff_iff];simp;omega)) (by first | rfl | grind | (rw [Bool.eq_iff_iff];simp;omega)) (by first | rfl | grind | (rw [Bool.eq_iff_iff];simp;omega)) (by first | rfl | grind | (rw [Bool.eq_iff_iff];simp;omega)) (by first | rfl | grind | (rw [Bool.eq_iff_iff];simp;omega)) (by first | rfl | grind | (rw [Bool.eq_iff_iff];simp;omega)) (by first | rfl | grind | (rw [Bool.eq_iff_iff];simp;omega)))
  refine At Z Z<|Sr<|Zqm Z Z<|Zqm Z Z<|qac (qbd (c:=(j:Int)) Z Z (by rw [w64 O O];omega)) Z<|qac (qas Z Z Z Z Z Z hj) Z<|qac (qah Z Z Z (hcv.le (Lr D)) Z) Z<|Jc Z Z Z (qb4 D _ _ _) ?_
  rintro _ _ s17 h17 ⟨rfl,rfl⟩
  refine Zqa Z Z<|At Z Z<|Zo<|?_
  refine rR [] L (.tmp Z (.t1 Z)) Z (h1.t h5|>.t h16|>.t h17) fun _ hS2=>?_
  refine ⟨?_,Z⟩
  first
    | (rw [hE,if_neg Dc];rfl)
    | (rw [hE];show Value.tuple #[.int .u32 _,.bool true]=.tuple #[.int .u32 (opP _ x y),.bool true];rw [← hO])
    | (rw [hE];show Value.tuple #[.int .u32 _,.bool true]=.tuple #[.int .u32 (opP _ x y),.bool true];rw [← hO];rfl)
 ·
  refine Zr<|Zqm Z Z<|Zqm Z Z<|qac (qae (v':=.bool true) (qa9 Z Z) (bT O)) Z<|Zqm Z Z<|Zqm Z Z<|qac (qae (v':=.bool false) (qec Z Z) (bF O)) Z<|Zqm Z Z<|Zqm Z Z<|qac (qae (v':=.bool false) (qb7 Z Z) (bZ O)) Z<|Zqm Z Z<|Zqm Z Z<|qac (qae (v':=.bool false) (qb7 Z Z) (bZ O)) Z<|Zqm Z Z<|Zg Z Z<|Zqm Z Z<|Zg Z Z<|Zqm Z Z<|Zg Z Z<|qac (qae (v':=.bool true) (qa9 Z Z) (bT O)) Z<|ZqF Z Z Z<|Zqm Z Z<|Zqm Z Z<|qac (qae (v':=.bool false) (qb7 Z Z) (bZ O)) Z<|Zqm Z Z<|Zqm Z Z<|?_
  refine qac (qae (v':=.bool false) (qb7 Z Z) (bZ O)) Z<|Zqm Z Z<|Zg Z Z<|Zqm Z Z<|Zg Z Z<|Zqm Z Z<|Zg Z Z<|qac (qae (v':=.bool true) (qa9 Z Z) (bT O)) Z<|ZqF Z Z Z<|Zqm Z Z<|qac (qae (v':=.bool true) (qdn Z Z) (bT O)) Z<|Zqm Z Z<|Zg Z Z<|Zqm Z Z<|Zg Z Z<|qac (qae (v':=.bool true) (qdn Z Z) (bT O)) Z<|ZqT Z Z Z<|Zqm Z Z<|qac (qae (v':=.bool true) (qdn Z Z) (bT O)) Z<|Zqm Z Z<|Wf Y4<|Wf Y4<|ZqT Z Z Z<|?_
  refine qbk [(_,_),(_,_),(_,_),(_,_),(_,_),(_,_),(_,_),(_,_)] [_,_,_,_,_,_,_,_] Z Z Z Z Z Z Z Z Z ?_
  intro βu s18 h18 hcu
  have hcv:=CellsAt.nth hcu (qeP (j:=j) (x:=x) (y:=y) hj hx0 hy0 (by first | rfl | grind | (rw [Bool.eq_iff_iff];simp;omega)) (by first | rfl | grind | (rw [Bool.eq_iff_iff];simp;omega)) (by first | rfl | grind | (rw [Bool.eq_iff_iff];simp;omega)) (by first | rfl | grind | (rw [Bool.eq_iff_iff];simp;omega)) (by first | rfl | grind | (rw [Bool.eq_iff_iff];simp;omega)) (by first | rfl | grind | (rw [Bool.eq_iff_iff];simp;omega)) (by first | rfl | grind | (rw [Bool.eq_iff_iff];simp;omega)) (by first | rfl | grind | (rw [Bool.eq_iff_iff];simp;omega)))
  refine At Z Z<|Sr<|Zqm Z Z<|Zqm Z Z<|qac (qbd (c:=(j:Int)) Z Z (by rw [w64 O O];omega)) Z<|qac (qas Z Z Z Z Z Z hj) Z<|qac (qah Z Z Z (hcv.le (Lr D)) Z) Z<|Jc Z Z Z (qb4 D _ _ _) ?_
  rintro _ _ s19 h19 ⟨rfl,rfl⟩
  refine Zqa Z Z<|At Z Z<|Zo<|?_
  refine rR [] L (.tmp Z (.t1 Z)) Z (h1.t h5|>.t h18|>.t h19) fun _ hS2=>?_
  refine ⟨?_,Z⟩
  first
    | (rw [hE,if_neg Dc];rfl)
    | (rw [hE];show Value.tuple #[.int .u32 _,.bool true]=.tuple #[.int .u32 (opP _ x y),.bool true];rw [← hO])
    | (rw [hE];show Value.tuple #[.int .u32 _,.bool true]=.tuple #[.int .u32 (opP _ x y),.bool true];rw [← hO];rfl)
 ·
  refine Zr<|Zqm Z Z<|Zqm Z Z<|qac (qae (v':=.bool false) (qa9 Z Z) (bZ O)) Z<|Zqm Z Z<|Zqm Z Z<|qac (qae (v':=.bool true) (qec Z Z) (bN O)) Z<|Zqm Z Z<|Zqm Z Z<|qac (qae (v':=.bool false) (qb7 Z Z) (bZ O)) Z<|Zqm Z Z<|Zqm Z Z<|qac (qae (v':=.bool false) (qb7 Z Z) (bZ O)) Z<|Zqm Z Z<|Zg Z Z<|Zqm Z Z<|Zg Z Z<|Zqm Z Z<|Zg Z Z<|qac (qae (v':=.bool false) (qa9 Z Z) (bZ O)) Z<|ZqF Z Z Z<|Zqm Z Z<|Zqm Z Z<|qac (qae (v':=.bool true) (qb7 Z Z) (bT O)) Z<|Zqm Z Z<|Zqm Z Z<|?_
  refine qac (qae (v':=.bool true) (qb7 Z Z) (bT O)) Z<|Zqm Z Z<|Wf Y4<|Wf Y4<|Wf Y4<|ZqT Z Z Z<|Zqm Z Z<|qac (qae (v':=.bool true) (qdn Z Z) (bT O)) Z<|Zqm Z Z<|Zg Z Z<|Zqm Z Z<|Zg Z Z<|qac (qae (v':=.bool false) (qdn Z Z) (bZ O)) Z<|ZqT Z Z Z<|Zqm Z Z<|qac (qae (v':=.bool true) (qdn Z Z) (bT O)) Z<|Zqm Z Z<|Wf Y4<|Wf Y4<|ZqT Z Z Z<|qbk [(_,_),(_,_),(_,_),(_,_),(_,_),(_,_),(_,_),(_,_)] [_,_,_,_,_,_,_,_] Z Z Z Z Z Z Z Z Z ?_
  intro βu s20 h20 hcu
  have hcv:=CellsAt.nth hcu (qeP (j:=j) (x:=x) (y:=y) hj hx0 hy0 (by first | rfl | grind | (rw [Bool.eq_iff_iff];simp;omega)) (by first | rfl | grind | (rw [Bool.eq_iff_iff];simp;omega)) (by first | rfl | grind | (rw [Bool.eq_iff_iff];simp;omega)) (by first | rfl | grind | (rw [Bool.eq_iff_iff];simp;omega)) (by first | rfl | grind | (rw [Bool.eq_iff_iff];simp;omega)) (by first | rfl | grind | (rw [Bool.eq_iff_iff];simp;omega)) (by first | rfl | grind | (rw [Bool.eq_iff_iff];simp;omega)) (by first | rfl | grind | (rw [Bool.eq_iff_iff];simp;omega)))
  refine At Z Z<|Sr<|Zqm Z Z<|Zqm Z Z<|qac (qbd (c:=(j:Int)) Z Z (by rw [w64 O O];omega)) Z<|qac (qas Z Z Z Z Z Z hj) Z<|qac (qah Z Z Z (hcv.le (Lr D)) Z) Z<|Jc Z Z Z (qb4 D _ _ _) ?_
  rintro _ _ s21 h21 ⟨rfl,rfl⟩
  refine Zqa Z Z<|At Z Z<|Zo<|?_
  refine rR [] L (.tmp Z (.t1 Z)) Z (h1.t h5|>.t h20|>.t h21) fun _ hS2=>?_
  refine ⟨?_,Z⟩
  first
    | (rw [hE,if_neg Dc];rfl)
    | (rw [hE];show Value.tuple #[.int .u32 _,.bool true]=.tuple #[.int .u32 (opP _ x y),.bool true];rw [← hO])
    | (rw [hE];show Value.tuple #[.int .u32 _,.bool true]=.tuple #[.int .u32 (opP _ x y),.bool true];rw [← hO];rfl)
 refine Zr<|Zqm Z Z<|Zqm Z Z<|qac (qae (v':=.bool false) (qa9 Z Z) (bZ O)) Z<|Zqm Z Z<|Zqm Z Z<|qac (qae (v':=.bool true) (qec Z Z) (bN O)) Z<|Zqm Z Z<|Zqm Z Z<|qac (qae (v':=.bool false) (qb7 Z Z) (bZ O)) Z<|Zqm Z Z<|Zqm Z Z<|qac (qae (v':=.bool false) (qb7 Z Z) (bZ O)) Z<|Zqm Z Z<|Zg Z Z<|Zqm Z Z<|Zg Z Z<|Zqm Z Z<|Zg Z Z<|qac (qae (v':=.bool false) (qa9 Z Z) (bZ O)) Z<|ZqF Z Z Z<|Zqm Z Z<|Zqm Z Z<|qac (qae (v':=.bool true) (qb7 Z Z) (bT O)) Z<|Zqm Z Z<|Zqm Z Z<|?_
 refine qac (qae (v':=.bool true) (qb7 Z Z) (bT O)) Z<|Zqm Z Z<|Wf Y4<|Wf Y4<|Wf Y4<|ZqT Z Z Z<|Zqm Z Z<|qac (qae (v':=.bool true) (qdn Z Z) (bT O)) Z<|Zqm Z Z<|Zg Z Z<|Zqm Z Z<|Zg Z Z<|qac (qae (v':=.bool true) (qdn Z Z) (bT O)) Z<|ZqT Z Z Z<|Zqm Z Z<|qac (qae (v':=.bool true) (qdn Z Z) (bT O)) Z<|Zqm Z Z<|Wf Y4<|Wf Y4<|ZqT Z Z Z<|qbk [(_,_),(_,_),(_,_),(_,_),(_,_),(_,_),(_,_),(_,_)] [_,_,_,_,_,_,_,_] Z Z Z Z Z Z Z Z Z ?_
 intro βu s22 h22 hcu
 have hcv:=CellsAt.nth hcu (qeP (j:=j) (x:=x) (y:=y) hj hx0 hy0 (by first | rfl | grind | (rw [Bool.eq_iff_iff];simp;omega)) (by first | rfl | grind | (rw [Bool.eq_iff_iff];simp;omega)) (by first | rfl | grind | (rw [Bool.eq_iff_iff];simp;omega)) (by first | rfl | grind | (rw [Bool.eq_iff_iff];simp;omega)) (by first | rfl | grind | (rw [Bool.eq_iff_iff];simp;omega)) (by first | rfl | grind | (rw [Bool.eq_iff_iff];simp;omega)) (by first | rfl | grind | (rw [Bool.eq_iff_iff];simp;omega)) (by first | rfl | grind | (rw [Bool.eq_iff_iff];simp;omega)))
 refine At Z Z<|Sr<|Zqm Z Z<|Zqm Z Z<|qac (qbd (c:=(j:Int)) Z Z (by rw [w64 O O];omega)) Z<|qac (qas Z Z Z Z Z Z hj) Z<|qac (qah Z Z Z (hcv.le (Lr D)) Z) Z<|Jc Z Z Z (qb4 D _ _ _) ?_
 rintro _ _ s23 h23 ⟨rfl,rfl⟩
 refine Zqa Z Z<|At Z Z<|Zo<|?_
 refine rR [] L (.tmp Z (.t1 Z)) Z (h1.t h5|>.t h22|>.t h23) fun _ hS2=>?_
 refine ⟨?_,Z⟩
 first
   | (rw [hE,if_neg Dc];rfl)
   | (rw [hE];show Value.tuple #[.int .u32 _,.bool true]=.tuple #[.int .u32 (opP _ x y),.bool true];rw [← hO])
   | (rw [hE];show Value.tuple #[.int .u32 _,.bool true]=.tuple #[.int .u32 (opP _ x y),.bool true];rw [← hO];rfl)
abbrev Slc:=Option Addr×Nat×Nat
abbrev mkS(u:Slc):Value:=.slice u.1 u.2.1 u.2.2
theorem qii{u:Slc}{A:Option Addr}{n c:Nat}(h:mkS u=.slice A n c):u=(A,n,c):=by
 obtain ⟨a,b,d⟩:=u
 simp only [mkS,Value.slice.injEq] at h
 obtain ⟨rfl,rfl,rfl⟩:=h;rfl
theorem qf1{e sz n:Nat}{M:Hl}{u:Slc}{xs:List Value}(h:FL.Own e sz M (mkS u) n xs):u.2.1=n:=by
 obtain ⟨A,c,h1,_⟩:=Own.slice h
 rw [qii h1]
structure DN where
 Ag:Option Addr
 Af:Option Addr
 ng:Nat
 cg:Nat
 nf:Nat
 cf:Nat
 vv:Slc
 av:Slc
 ab:List (Option Nat)
def vrs(p:Prg)(l:List Int):List Int:=List.zipWith (fun g v=>if g.kind=1 then g.num else v) p.globals l
structure MR(p:Prg)(c:DN)(N fl:Nat)(fv:Value)(m:MS)(iv ov:Slc)(R:Hl)(s:World):Prop where
 inp:Bts s iv.1 iv.2.1 iv.2.2 m.inp
 own:∃ Mo Mg Mf K,R.Perm (Mo++(Mg++(Mf++(qb1 c.ab m.arr++K))))∧FL.Own 5 1 Mo (mkS ov) m.out.length (bv m.out)∧FL.Own 29 1 Mg (mkS c.vv) p.globals.length (wv (vrs p m.glo))∧FL.Own 29 1 Mf fv fl (wv m.frm)
 ug:∀ x∈m.glo,U32 x
 uf:∀ x∈m.frm,U32 x
 ua:∀ l∈m.arr,∀ x∈l,U32 x
 lg:m.glo.length=p.globals.length
 lf:m.frm.length=fl
 lb:c.ab.length=p.globals.length
 la:m.arr.length=p.globals.length
 ar:∀ (k:Nat) (g:Glo),p.globals[k]?=some g→g.kind=3→(∃ b,c.ab[k]?=some (some b))∧(m.arr.getD k []).length=g.num.toNat
 lo:m.out.length≤20000
 lc:m.calls≤100
 ll:m.left≤N
 lN:N≤50000000
structure CR(p:Prg)(d:Nat)(c:DN)(s:World):Prop where
 gl:Glos s c.Ag c.ng c.cg p.globals
 fn:Fncs d s c.Af c.nf c.cf p.funcs
 ar:∀ (k:Nat) (g:Glo),p.globals[k]?=some g→g.kind=3→∃ ba ca b,c.av=(some ⟨ba,0,none⟩,p.globals.length,ca)∧c.ab[k]?=some (some b)∧CellsAt s ba (0+k) [.slice (some ⟨b,0,none⟩) g.num.toNat g.num.toNat]
 ok:OKP p
 pu:prU p
theorem CR.le{D d:Nat}{p:Prg}{c:DN}{s s':World}(h:CR p d c s)(hl:Le D s s'):CR p d c s':=⟨h.gl.le hl,h.fn.le hl,fun k g hp h3=>by
 obtain ⟨ba,ca,b,h1,h2,h4⟩:=h.ar k g hp h3
 exact ⟨ba,ca,b,h1,h2,h4.le hl⟩,h.ok,h.pu⟩
section
variable{p:Prg}{d:Nat}{c:DN}{N fl:Nat}{fv:Value}{m:MS}{iv ov:Slc}{R:Hl}{s:World}
theorem MR.le{D:Nat}{s':World}(h:MR p c N fl fv m iv ov R s)(hl:Le D s s'):MR p c N fl fv m iv ov R s':=
 ⟨h.inp.le hl,h.own,h.ug,h.uf,h.ua,h.lg,h.lf,h.lb,h.la,h.ar,h.lo,h.lc,h.ll,h.lN⟩
theorem qku{R A B:Hl}{b:Nat}{o:Obj}(h:R.Perm (A++(b,o)::B)):∃ i,(∀ L:Hl,(R++L)[i]?=some (b,o))∧∀ o':Obj,∃ R',(∀ L:Hl,qdl (R++L) i o'=R'++L)∧R'.Perm (A++(b,o')::B):=by
 have hm:(b,o)∈R:=h.mem_iff.2 (by simp)
 obtain ⟨R1,R2,rfl⟩:=List.append_of_mem hm
 have h2:(R1++R2).Perm (A++B):=(List.perm_middle.symm.trans (h.trans List.perm_middle)).cons_inv
 refine ⟨R1.length,fun L=>by rw [List.append_assoc,List.getElem?_append_right (Nat.le_refl _)];simp,fun o'=>⟨R1++(b,o')::R2,fun L=>?_,List.perm_middle.trans ((h2.cons _).trans List.perm_middle.symm)⟩⟩
 rw [List.append_assoc,List.append_assoc];exact qiD R1 (R2++L) b o o'
theorem qlV{e:Nat}{M:Hl}{v:Value}{n k:Nat}{xs:List Value}(h:FL.Own e 1 M v n xs)(hk:k < n):∃ b cap ys,v=.slice (some ⟨b,0,none⟩) n cap∧M=[(b,cb (xs++ys) e)]∧xs.length=n∧∀ u,FL.Own e 1 [(b,cb (xs.set k u++ys) e)] v n (xs.set k u):=by
 obtain ⟨b,cap,ys,rfl,rfl,h1,h2,h3⟩:=qlL h O
 exact ⟨b,cap,ys,rfl,rfl,h1,fun u=>.blk b cap n _ ys (by simpa using h1) (by simp;omega) O h3⟩
theorem qsT{l:List Int}{k:Nat}{g:Glo}(hp:p.globals[k]?=some g)(h:l.length=p.globals.length):(vrs p l)[k]?=some (if g.kind=1 then g.num else l.getD k 0):=by
 have hk:k < l.length:=by rw [h];exact (List.getElem?_eq_some_iff.1 hp).1
 rw [vrs,List.getElem?_zipWith,hp,List.getElem?_eq_getElem hk,List.getD_eq_getElem?_getD,List.getElem?_eq_getElem hk];rfl
theorem qlB{l:List Int}{k:Nat}{g:Glo}(hp:p.globals[k]?=some g)(hg:g.kind≠1)(v:Int):(vrs p l).set k v=vrs p (l.set k v):=by
  refine List.ext_getElem? fun j=>?_
  by_cases hj:k=j
  · subst hj
    by_cases hk:k < l.length
    · rw [List.getElem?_set_self (by simp [vrs];have:=(List.getElem?_eq_some_iff.1 hp).1;omega),vrs,List.getElem?_zipWith,hp,List.getElem?_set_self hk];simp [hg]
    · rw [List.set_eq_of_length_le (by simp [vrs];omega),List.set_eq_of_length_le O]
  · rw [List.getElem?_set_ne hj,vrs,vrs,List.getElem?_zipWith,List.getElem?_zipWith,List.getElem?_set_ne hj]
theorem qub{l:List Int}{k:Nat}{v:Int}(h:l[k]?=some v):(wv l)[k]?=some (.int .u32 v):=by simp [wv,h]
theorem qiz(l:List Int)(k:Nat)(v:Int):(wv l).set k (.int .u32 v)=wv (l.set k v):=by simp [wv,List.map_set]
theorem MR.var{k:Nat}{g:Glo}(h:MR p c N fl fv m iv ov R s)(hU:prU p)(hp:p.globals[k]?=some g):∃ b cap ys i,c.vv=(some ⟨b,0,none⟩,p.globals.length,cap)∧k < p.globals.length∧(∀ L:Hl,(R++L)[i]?=some (b,cb (wv (vrs p m.glo)++ys) 29))∧nth (wv (vrs p m.glo)++ys) (0+k)=some (.int .u32 (if g.kind=1 then g.num else m.glo.getD k 0))∧U32 (if g.kind=1 then g.num else m.glo.getD k 0)∧Nat.ble (0+k+1) (wv (vrs p m.glo)++ys).length=true ∧
  ∀ v,U32 v→g.kind≠1→∃ ws R',qbN (wv (vrs p m.glo)++ys) (0+k) [.int .u32 v]=ws∧(∀ L:Hl,qdl (R++L) i (cb ws 29)=R'++L)∧MR p c N fl fv { m with glo:=m.glo.set k v } iv ov R' s:=by
 obtain ⟨Mo,Mg,Mf,K,h1,h2,h3,h4⟩:=h.own
 have hk:k < p.globals.length:=(List.getElem?_eq_some_iff.1 hp).1
 obtain ⟨b,cap,ys,e1,rfl,e3,e4⟩:=qlV h3 hk
 obtain ⟨i,i1,i2⟩:=qku (A:=Mo) (B:=Mf++(qb1 c.ab m.arr++K)) h1
 have hu:U32 (if g.kind=1 then g.num else m.glo.getD k 0):=by
  split
  · exact (hU.1 g (List.mem_of_getElem? hp)).1
  · exact qgk h.ug k
 refine ⟨b,cap,ys,i,qii e1,hk,i1,qk0 (qub (qsT hp h.lg)),hu,qld O,fun v hv hg=>?_⟩
 obtain ⟨R',r1,r2⟩:=i2 (cb (wv (vrs p (m.glo.set k v))++ys) 29)
 refine ⟨_,R',by rw [qkd _ O,qiz,qlB hp hg],r1,⟨h.inp,⟨Mo,[(b,cb (wv (vrs p (m.glo.set k v))++ys) 29)],Mf,K,r2,h2,?_,h4⟩,qh5 h.ug hv,h.uf,h.ua,by rw [List.length_set];exact h.lg,h.lf,h.lb,h.la,h.ar,h.lo,h.lc,h.ll,h.lN⟩⟩
 have:=e4 (.int .u32 v)
 rw [qiz,qlB hp hg] at this
 exact this
theorem MR.slt{k:Nat}(h:MR p c N fl fv m iv ov R s)(hk:k < fl):∃ b cap ys i,fv=.slice (some ⟨b,0,none⟩) fl cap∧(∀ L:Hl,(R++L)[i]?=some (b,cb (wv m.frm++ys) 29))∧nth (wv m.frm++ys) (0+k)=some (.int .u32 (m.frm.getD k 0))∧U32 (m.frm.getD k 0)∧Nat.ble (0+k+1) (wv m.frm++ys).length=true ∧
  ∀ v,U32 v→∃ ws R',qbN (wv m.frm++ys) (0+k) [.int .u32 v]=ws∧(∀ L:Hl,qdl (R++L) i (cb ws 29)=R'++L)∧MR p c N fl fv { m with frm:=m.frm.set k v } iv ov R' s:=by
 obtain ⟨Mo,Mg,Mf,K,h1,h2,h3,h4⟩:=h.own
 obtain ⟨b,cap,ys,e1,rfl,e3,e4⟩:=qlV h4 hk
 obtain ⟨i,i1,i2⟩:=qku (R:=R) (b:=b) (o:=cb (wv m.frm++ys) 29) (A:=Mo++Mg) (B:=qb1 c.ab m.arr++K) (by rw [List.append_assoc];exact h1)
 have hkl:m.frm[k]?=some (m.frm.getD k 0):=by
  rw [List.getD_eq_getElem?_getD,List.getElem?_eq_getElem (show k < m.frm.length by rw [h.lf];exact hk)]
  simp
 refine ⟨b,cap,ys,i,e1,i1,qk0 (qub hkl),qgk h.uf k,qld O,fun v hv=>?_⟩
 obtain ⟨R',r1,r2⟩:=i2 (cb (wv (m.frm.set k v)++ys) 29)
 refine ⟨_,R',by rw [qkd _ O,qiz],r1,⟨h.inp,⟨Mo,Mg,[(b,cb (wv (m.frm.set k v)++ys) 29)],K,by rw [List.append_assoc] at r2;exact r2,h2,h3,?_⟩,h.ug,qh5 h.uf hv,h.ua,h.lg,by rw [List.length_set];exact h.lf,h.lb,h.la,h.ar,h.lo,h.lc,h.ll,h.lN⟩⟩
 have:=e4 (.int .u32 v)
 rw [qiz] at this
 exact this
theorem MR.ary{k:Nat}{g:Glo}(h:MR p c N fl fv m iv ov R s)(hC:CR p d c s)(hp:p.globals[k]?=some g)(h3:g.kind=3):∃ ba ca b i,c.av=(some ⟨ba,0,none⟩,p.globals.length,ca)∧k < p.globals.length∧CellsAt s ba (0+k) [.slice (some ⟨b,0,none⟩) g.num.toNat g.num.toNat]∧(m.arr.getD k []).length=g.num.toNat∧g.num.toNat≤40000∧(∀ j,U32 ((m.arr.getD k []).getD j 0))∧(∀ L:Hl,(R++L)[i]?=some (b,cb (wv (m.arr.getD k [])) 29)) ∧
    ∀ (j:Nat) (v:Int),U32 v→∃ R',(∀ L:Hl,qdl (R++L) i (cb (wv ((m.arr.getD k []).set j v)) 29)=R'++L)∧MR p c N fl fv { m with arr:=m.arr.set k ((m.arr.getD k []).set j v) } iv ov R' s:=by
  obtain ⟨Mo,Mg,Mf,K,h1,h2,h3',h4⟩:=h.own
  obtain ⟨ba,ca,b,q1,q2,q3⟩:=hC.ar k g hp h3
  have hk:k < p.globals.length:=(List.getElem?_eq_some_iff.1 hp).1
  obtain ⟨i,a1,a2,a3⟩:=qgD (ls:=m.arr) q2 (by rw [h.la];exact hk)
  have hs:=List.take_append_drop i (qb1 c.ab m.arr)
  rw [List.drop_eq_getElem_cons a2,(List.getElem?_eq_some_iff.1 a1).2] at hs
  obtain ⟨x,i1,i2⟩:=qku (R:=R) (A:=Mo++(Mg++(Mf++(qb1 c.ab m.arr).take i))) (B:=(qb1 c.ab m.arr).drop (i+1)++K) (b:=b) (o:=cb (wv (m.arr.getD k [])) 29) (by
    have e:Mo++(Mg++(Mf++(qb1 c.ab m.arr).take i))++(b,cb (wv (m.arr.getD k [])) 29)::((qb1 c.ab m.arr).drop (i+1)++K)=Mo++(Mg++(Mf++(qb1 c.ab m.arr++K))):=by
      conv=>rhs;rw [← hs]
      simp only [List.append_assoc,List.cons_append]
    rw [e];exact h1)
  have hlen:=(h.ar k g hp h3).2
  have h9:=qs0 (hC.ok.1.2.2.1 g (List.mem_of_getElem? hp)).1 h3
  refine ⟨ba,ca,b,x,q1,hk,q3,hlen,h9.2,fun j=>qgk (fun y hy=>?_) j,i1,fun j v hv=>?_⟩
  · rw [List.getD_eq_getElem?_getD] at hy
    cases hl:m.arr[k]? with
    | none=>rw [hl] at hy;cases hy
    | some l=>rw [hl] at hy;exact h.ua l (List.mem_of_getElem? hl) y hy
  obtain ⟨R',r1,r2⟩:=i2 (cb (wv ((m.arr.getD k []).set j v)) 29)
  have hl0:∀ y∈(m.arr.getD k []),U32 y:=fun y hy=>by
    rw [List.getD_eq_getElem?_getD] at hy
    cases hl:m.arr[k]? with
    | none=>rw [hl] at hy;cases hy
    | some l=>rw [hl] at hy;exact h.ua l (List.mem_of_getElem? hl) y hy
  refine ⟨R',r1,⟨h.inp,⟨Mo,Mg,Mf,K,?_,h2,h3',h4⟩,h.ug,h.uf,fun l hl y hy=>?_,h.lg,h.lf,h.lb,by rw [List.length_set];exact h.la,fun j2 g2 hj2 hg2=>⟨(h.ar j2 g2 hj2 hg2).1,?_⟩,h.lo,h.lc,h.ll,h.lN⟩⟩
  · have e:Mo++(Mg++(Mf++(qb1 c.ab (m.arr.set k ((m.arr.getD k []).set j v))++K)))=Mo++(Mg++(Mf++(qb1 c.ab m.arr).take i))++(b,cb (wv ((m.arr.getD k []).set j v)) 29)::((qb1 c.ab m.arr).drop (i+1)++K):=by
      rw [← a3,List.set_eq_take_append_cons_drop,if_pos a2]
      simp only [List.append_assoc,List.cons_append]
    rw [e];exact r2
  · rcases List.mem_or_eq_of_mem_set hl with hl | rfl
    · exact h.ua l hl y hy
    · exact qh5 hl0 hv y hy
  · by_cases hkj:k=j2
    · subst hkj
      rw [List.getD_eq_getElem?_getD,List.getElem?_set_self (by rw [h.la];exact hk),Option.getD_some,List.length_set]
      exact (h.ar k g2 hj2 hg2).2
    · rw [List.getD_eq_getElem?_getD,List.getElem?_set_ne hkj,← List.getD_eq_getElem?_getD]
      exact (h.ar j2 g2 hj2 hg2).2
end
def FinR(N:Nat){α:Type}(r:ER α)(ov:Slc)(l st cd:Int)(M:Hl):Prop:=∃ m',r=.fin m' st cd∧l=(m'.left:Int)∧m'.left≤N∧m'.out.length≤20000∧∃ Mo K,M.Perm (Mo++K)∧FL.Own 5 1 Mo (mkS ov) m'.out.length (bv m'.out)
def okR(p:Prg)(c:DN)(N fl:Nat)(fv:Value){α β:Type}(r:ER α)(mk:β→Value)(W:World→α→β→Int→Prop)(X L:Hl)(v:Value)(L':Hl)(s':World):Prop:=
 ∃ (u:β) (iv ov:Slc) (l ca va:Int) (dn:Bool) (st cd:Int) (M':Hl),v=.tuple #[.agg #[.slice c.Ag c.ng c.cg,.slice c.Af c.nf c.cf,.slice c.vv.1 c.vv.2.1 c.vv.2.2,.slice c.av.1 c.av.2.1 c.av.2.2,.slice iv.1 iv.2.1 iv.2.2,.slice ov.1 ov.2.1 ov.2.2,.int .i64 l,.int .i64 ca,.int .u32 va,.bool dn,.int .i64 st,.int .u32 cd],mk u]∧L'=X++(M'++L)∧(dn=false→∃ a m',r=.ok a m'∧W s' a u va∧l=(m'.left:Int)∧ca=(m'.calls:Int)∧st=0∧cd=0∧MR p c N fl fv m' iv ov M' s')∧(dn=true→FinR N r ov l st cd M')
theorem AC.frR{p:Prg}{c:DN}{N fl:Nat}{fv:Value}{α β:Type}{r:ER α}{mk:β→Value}{W:World→α→β→Int→Prop}{D:Nat}{g:FuncId}{args:List Value}{R:Hl}{s:World}(h:∀ L,AC Tryz.prog D g args (R++L) s (okR p c N fl fv r mk W [] L))(X L:Hl):AC Tryz.prog D g args (X++(R++L)) s (okR p c N fl fv r mk W X L):=
 (AC.mid (R:=fun v M' s'=>okR p c N fl fv r mk W [] [] v M' s') X R L ((h (X++L)).mono fun v L' s' _ ⟨u,iv,ov,l,ca,va,dn,st,cd,M',h1,h2,h3,h4⟩=>⟨M',h2,u,iv,ov,l,ca,va,dn,st,cd,M',h1,(List.append_nil _).symm,h3,h4⟩)).mono
  fun v L' s' _ ⟨M1,h0,u,iv,ov,l,ca,va,dn,st,cd,M',h1,h2,h3,h4⟩=>⟨u,iv,ov,l,ca,va,dn,st,cd,M',h1,by rw [h0,h2];simp,h3,h4⟩
theorem MR.fin{p:Prg}{c:DN}{N fl:Nat}{fv:Value}{m:MS}{iv ov:Slc}{R:Hl}{s:World}(h:MR p c N fl fv m iv ov R s){α:Type}{r:ER α}{st cd:Int}(hr:r=.fin m st cd):FinR N r ov (m.left:Int) st cd R:=by
 obtain ⟨Mo,Mg,Mf,K,h1,h2,_⟩:=h.own
 exact ⟨m,hr,rfl,h.ll,h.lo,Mo,_,h1,h2⟩
theorem FinR.and{N:Nat}{α β:Type}{a:ER α}{r:ER β}{k:α→MS→ER β}{ov:Slc}{l st cd:Int}{M:Hl}(h:FinR N a ov l st cd M)(hq:r=a.and k):FinR N r ov l st cd M:=by
 obtain ⟨m,h1,h2⟩:=h
 exact ⟨m,qbt hq h1,h2⟩
theorem MR.stp{p:Prg}{c:DN}{N fl:Nat}{fv:Value}{m:MS}{iv ov:Slc}{R:Hl}{s:World}(h:MR p c N fl fv m iv ov R s):MR p c N fl fv { m with left:=m.left - 1 } iv ov R s:=⟨h.inp,h.own,h.ug,h.uf,h.ua,h.lg,h.lf,h.lb,h.la,h.ar,h.lo,h.lc,Nat.le_trans (Nat.sub_le _ _) h.ll,h.lN⟩
theorem MR.rd{p:Prg}{c:DN}{N fl:Nat}{fv:Value}{m:MS}{iv ov:Slc}{R:Hl}{s:World}(h:MR p c N fl fv m iv ov R s){l:List UInt8}{A:Option Addr}{n q:Nat}(hb:Bts s A n q l):MR p c N fl fv { m with inp:=l } (A,n,q) ov R s:=⟨hb,h.own,h.ug,h.uf,h.ua,h.lg,h.lf,h.lb,h.la,h.ar,h.lo,h.lc,h.ll,h.lN⟩
def WE(_:World)(a u:Int)(_:Int):Prop:=u=a∧U32 a
def WS(_:World)(y:Int×Int)(u va:Int):Prop:=u=y.1∧U32 y.2∧(y.1=3→va=y.2)∧(y.1≠3→y.2=0)
def WL(s:World)(vs:List Int)(u:Slc)(_:Int):Prop:=Wds s u.1 u.2.1 u.2.2 vs
end Go.Proofs.YtpdnijphccdiiaaGreatDoor
