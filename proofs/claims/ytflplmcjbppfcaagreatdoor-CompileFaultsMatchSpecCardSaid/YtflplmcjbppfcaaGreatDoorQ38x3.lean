/- Part 3. -/
import Derived.Test.YtflplmcjbppfcaaGreatDoorQ38x2
set_option linter.unusedVariables false
set_option linter.defProp false
set_option linter.unusedSimpArgs false
set_option linter.unnecessarySimpa false
set_option maxRecDepth 100000
set_option maxHeartbeats 8000000
namespace Go.FL
open Go Go.RowKit
section
variable{P:Program}{TT:qa5}{D n:Nat}{Q:qbC}{fr:Fr}{L L' K:Hl}{s s' s0:World}{ops:Array Oper}{rest:List Oper}{d ty:Nat}{op:Op}{pos:String}{af:Array Edge}{v:Value}
def qaB{id:Nat}{l:List Oper}(hm:P.follows .mixedOrders=true)(N:Nat)(hN:l.length=N)(j:Nat)
  (h:∀ s',Le D s s'→JA P TT D n l.toArray Q (L.take j) s' N (Array.replicate N false) fr L s'):JC P TT D n Q (.region id l.toArray true) fr L s:=qaJ hm N hN _ (fun _ hx=>List.mem_of_mem_take hx) h
end
section
variable{P:Program}{TT:qa5}{D n:Nat}{Q:qbC}{fr:Fr}{L L' K:Hl}{s s' s0:World}{ops:Array Oper}{rest:List Oper}{d ty:Nat}{op:Op}{pos:String}{af:Array Edge}{v:Value}
def qkZ{t e b off len:Nat}{x y:Operand}{ti te:TI}{ik:IntKind}{i:Int}(hx:lk fr x=some (.pointer (some ⟨b,off,none⟩)))(hy:lk fr y=some (.int ik i))(ht:qaE TT t=some ti)(hk:ti.kind=.ar len e)(he:qaE TT e=some te)
  (hs:te.size=1) (h0:0≤i) (h1:i < len):QE P TT D fr (.indexAddr t x y) ty K s0 (.pointer (some ⟨b,off+i.toNat * 1,none⟩)):=by
 obtain ⟨j,rfl⟩:=Int.eq_ofNat_of_zero_le h0;exact qtG hx hy ht hk he hs O
def qdl{t e b off len cap:Nat}{x y:Operand}{ti te:TI}{ik:IntKind}{i:Int}(hx:lk fr x=some (.slice (some ⟨b,off,none⟩) len cap))(hy:lk fr y=some (.int ik i))(ht:qaE TT t=some ti)(hk:ti.kind=.sl e)(he:qaE TT e=some te)
  (hs:te.size=1) (h0:0≤i) (h1:i < len):QE P TT D fr (.indexAddr t x y) ty K s0 (.pointer (some ⟨b,off+i.toNat,none⟩)):=by
 obtain ⟨j,rfl⟩:=Int.eq_ofNat_of_zero_le h0;exact qaU hx hy ht hk he hs O
def qns{x:Operand}{t t':Nat}{A:Option Addr}{m c:Nat}{ti:TI}{e:Nat}(hx:lk fr x=some (.slice A m c))(ht:qaE TT t=some ti)(hk:ti.kind=.sl e):QE P TT D fr (.binOp .eql t x (.const (.slice none 0 0)) t') ty K s0 (.bool A.isNone):=
 QE.pure fun hT dst pos af g ρ hρ w=>by
  obtain ⟨k1,k2,_⟩:=hT.at_ ht;rw [hk] at k2;simp only [TK.fits] at k2;rw [k2] at k1;have h0:ρ (.const (.slice none 0 0))=.slice none 0 0:=hρ _ _ rfl;have he:(Op.equal t (.slice A m c) (.slice none 0 0)).run P w=.ok A.isNone w:=by
   show (Op.equalIn (9999+1) t (.slice A m c) (.slice none 0 0)).run P w=_;unfold Op.equalIn;simp only [Sem.run_bind,run_underlying k1,Result.andThen_ok];cases A<;>simp
  simp [execOp,hρ x _ hx,h0,eqGuard,binOp,he]
end
end Go.FL
namespace Go.Proofs.YtflplmcjbppfcaaGreatDoor
open Go Go.FL
def qv1(m:Mst){i:Int}(h:0≤i∧i≤4)(C:Value)(tl:List Value):nth (C::.int .u32 m.r0::.int .u32 m.r1::.int .u32 m.r2::.int .u32 m.r3::.int .u32 m.r4::tl) (1+i.toNat * 1)=some (.int .u32 (qA5 m i)):=by
 have:i=0∨i=1∨i=2∨i=3∨i=4:=by omega
 rcases this with rfl|rfl|rfl|rfl|rfl<;>rfl
def qwu(m:Mst){i:Int}(h:0≤i∧i≤4)(v:Int)(C:Value)(tl:List Value):qbz (C::.int .u32 m.r0::.int .u32 m.r1::.int .u32 m.r2::.int .u32 m.r3::.int .u32 m.r4::tl) (1+i.toNat * 1) [.int .u32 v] =
  C::.int .u32 (qf5 m i v).r0::.int .u32 (qf5 m i v).r1::.int .u32 (qf5 m i v).r2::.int .u32 (qf5 m i v).r3::.int .u32 (qf5 m i v).r4::tl:=by
 have:i=0∨i=1∨i=2∨i=3∨i=4:=by omega
 rcases this with rfl|rfl|rfl|rfl|rfl<;>simp [qbz,qf5]
def qvn{i:Int}(h:0≤i∧i≤4)(a0 a1 a2 a3 a4 a5:Value)(tl:List Value):Nat.ble (1+i.toNat * 1+1) (a0::a1::a2::a3::a4::a5::tl).length=true:=by
 rw [Nat.ble_eq];simp;omega
section
variable(a0 a1 a2 a3 a4 a5 a6 a7 a8 a9 a10 q o:Value){sm:List Int}
def qzp(h:sm.length=256):nth (a0::a1::a2::a3::a4::a5::a6::a7::a8::a9::a10::(iv sm++[q,o])) 268=some o:=by
 rw [qeq];simp only [List.getElem?_cons_succ];rw [List.getElem?_append_right (by simp [iv,h])];simp [iv,h]
def qoR(h:sm.length=256):nth (a0::a1::a2::a3::a4::a5::a6::a7::a8::a9::a10::(iv sm++[q,o])) 267=some q:=by
 rw [qeq];simp only [List.getElem?_cons_succ];rw [List.getElem?_append_right (by simp [iv,h])];simp [iv,h]
def qoT{j:Nat}{p:Int}(h:sm[j]?=some p):nth (a0::a1::a2::a3::a4::a5::a6::a7::a8::a9::a10::(iv sm++[q,o])) (11+j * 1)=some (.int .i64 p):=by
 rw [qeq,Nat.mul_one,Nat.add_comm];simp only [List.getElem?_cons_succ];rw [List.getElem?_append_left (by simp [iv];exact (List.getElem?_eq_some_iff.1 h).1)];simp [iv,h]
def qpt{j:Nat}(p:Int)(h:j < sm.length):qbz (a0::a1::a2::a3::a4::a5::a6::a7::a8::a9::a10::(iv sm++[q,o])) (11+j * 1) [.int .i64 p]=a0::a1::a2::a3::a4::a5::a6::a7::a8::a9::a10::(iv (sm.set j p)++[q,o]):=by
 rw [Nat.mul_one,Nat.add_comm];simp only [qbz];have:∀ (l:List Value) (r:List Value) (i:Nat) (v:Value),i < l.length→qbz (l++r) i [v]=l.set i v++r:=by
  intro l;induction l with
  | nil=>intro r i v h;simp at h
  | cons x l ih=>
   intro r i v h;cases i with
   | zero=>simp [qbz]
   | succ i=>simp only [List.cons_append,qbz,List.set_cons_succ];rw [ih r i v (by simpa using h)]
 rw [this _ _ _ _ (by simpa [iv] using h)];simp [iv,List.map_set]
def qzI(v:Value)(h:sm.length=256):qbz (a0::a1::a2::a3::a4::a5::a6::a7::a8::a9::a10::(iv sm++[q,o])) 268 [v]=a0::a1::a2::a3::a4::a5::a6::a7::a8::a9::a10::(iv sm++[q,v]):=by
 rw [qev _ _ _ (by simp [iv,h])];have h1:(iv sm).length=256:=by simp [iv,h]
 simp only [List.length_cons,List.length_nil,List.take_succ_cons,List.drop_succ_cons,List.cons_append];rw [List.take_append,List.drop_eq_nil_of_le (by simp [h1])];simp [h1,List.take_of_length_le]
def qyv(h:sm.length=256):Nat.ble (268+1) (a0::a1::a2::a3::a4::a5::a6::a7::a8::a9::a10::(iv sm++[q,o])).length=true:=by
 rw [Nat.ble_eq];simp [iv,h]
def qnK{j:Nat}(h:sm.length=256)(hj:j < 256):Nat.ble (11+j * 1+1) (a0::a1::a2::a3::a4::a5::a6::a7::a8::a9::a10::(iv sm++[q,o])).length=true:=by
 rw [Nat.ble_eq];simp [iv,h];omega
end
def qzq{l:List Int}{y:List Value}{j:Nat}{x:Int}(h:l[j]?=some x):nth (wv l++y) j=some (.int .u32 x):=by
 rw [qeq,List.getElem?_append_left (by simp [wv];exact (List.getElem?_eq_some_iff.1 h).1)];simp [wv,h]
def qzJ{l:List Int}{y:List Value}{j:Nat}(v:Int)(h:j < l.length):qbz (wv l++y) j [.int .u32 v]=wv (l.set j v)++y:=by
 rw [qev _ _ _ (by simp [wv];omega)];have h1:(wv l).length=l.length:=by simp [wv]
 rw [List.take_append_of_le_length O,List.drop_append_of_le_length (by simp;omega)];simp only [wv,List.map_set];rw [List.set_eq_take_append_cons_drop];simp [h]
def qyw{l:List Int}{y:List Value}{j:Nat}(h:j < l.length):Nat.ble (j+1) (wv l++y).length=true:=by
 rw [Nat.ble_eq];simp [wv];omega
def qiX(bm:Nat)(X:Value)(sm:List Int)(bq:Nat)(es:List (Int×Value×Nat))(ck:Nat)(op:Int)(m:Mst)(M:Hl)(s:World):Prop:=
 ∃ bc cc yc Oq9 Ao co Ai ni ci,M=(bm,cb (.slice (some ⟨bc,0,none⟩) m.cells.length cc::.int .u32 m.r0::.int .u32 m.r1::.int .u32 m.r2::.int .u32 m.r3::.int .u32 m.r4::.slice Ai ni ci::.slice Ao m.output.length co::.int .i64 m.stop::.int .u32 m.code::X ::
  (iv sm++[.map (some bq),.int .u32 op])) 181)::(bc,cb (wv m.cells++yc) 46)::(bq,mp (Value.int .u32) es ck)::Oq9∧FL.Own 5 1 Oq9 (.slice Ao m.output.length co) m.output.length (bv m.output)∧Bts s Ai ni ci m.input
  ∧ m.cells.length+yc.length=cc∧cc≤9223372036854775807
def fp(A:Option Addr)(p:Nat):Option Addr:=if p=0 then none else A.map (·.add ((p - 1) * 4))
def qvR{b off p:Nat}(h:p≠0):fp (some ⟨b,off,none⟩) p=some ⟨b,off+(p - 1) * 4,none⟩:=by simp [fp,h,add_lit]
def qBH{a:Int}(h1:0≤a)(h2:a < 18446744073709551616):IntKind.u64.wrap a=a:=by simp [IntKind.wrap,IntKind.bits,IntKind.signed];omega
open Go.Proofs.Tryz
open Go.FL
attribute [local irreducible] JC JO JA JB qaZ qaL qb4 AC fill CellsAt QE Ev Mid
def Cz10{p:Prop} (h:p:=by
 have hz:A=none:=by cases A<;>simp_all
 subst hz;have hl:l=[]:=by
  cases l with
  | nil=>rfl
  | cons x l=>obtain ⟨b,off,cs,h1,_⟩:=hA.2.2.2 0 x rfl;cases h1
 have hn0:=hA.1;subst hl;simp at hn0;subst hn0;exact ⟨[],rfl,none,0,rfl,Nat.le_refl _,by omega,.nil⟩):p:=h
def Cz11{p:Prop} (h:p:=by
 simp only [Nat.zero_add,List.nil_append] at o1;obtain ⟨Ad,c',rfl,k1,k2⟩:=Own.slice o1;exact ⟨_,rfl,Ad,c',rfl,k1,k2,o1⟩):p:=h
def qaG(D:Nat)(L:Hl)(s:World)(A:Option Addr)(n c:Nat)(l:List UInt8)(hA:Bts s A n c l)(hn:n≤1000000):AC prog D 88 [.slice A n c] L s fun v L' _=>∃ M',L'=M'++L∧∃ Ad c',v=.slice Ad n c'∧n≤c'∧c'≤9223372036854775807∧FL.Own 5 1 M' (.slice Ad n c') n (bv l):=by
 refine qae (fn:=f88) qav func88 V Z ntmps88 Z (rs:=[.tmp 2]) Z [(0,_)] Z<|Sr<|At Z Z<|Zs<|Sr<|Zqm Z Z<|qad (qns Z Z Z) Z<|Nt<|?_;refine qeN Z ?_ ?_<;>intro c1;·refine Sr<|At Z Z<|Zo<|Zu<|?_;exact rR [] _ (.t1 Z) Z (Lr D) fun _ hS2=>Cz10
 refine Zk<|Zt<|Sr<|qnj (sz:=1) Z Z Z Z fun βo s2 h2 oo=>Zqm Z Z<|qbq [] [_] _ Z Z Z Z Z Z Z oo (hA.row.le h2) ⟨by simp [ti5];omega,by omega⟩ Z ?_;intro v1 A1 s3 h3 o1;simp only [List.nil_append];refine At Z Z<|Zo<|?_;exact rR [] _ (.t1 Z) Z (h2.t h3) fun _ hS2=>Cz11
def qbR(D:Nat)(L:Hl)(s:World)(A:Option Addr)(n c:Nat)(l:List Int)(hA:Wds s A n c l)(hn:n≤1000000):AC prog D 123 [.slice A n c] L s fun v L' _=>∃ M',L'=M'++L∧∃ Ad c',v=.slice Ad n c'∧n≤c'∧c'≤9223372036854775807∧FL.Own 46 1 M' (.slice Ad n c') n (wv l):=by
 refine qae (fn:=f123) qav func123 V Z ntmps123 Z (rs:=[.tmp 2]) Z [(0,_)] Z<|Sr<|At Z Z<|Zs<|Sr<|Zqm Z Z<|qad (qns Z Z Z) Z<|Nt<|?_;refine qeN Z ?_ ?_<;>intro c1;·refine Sr<|At Z Z<|Zo<|Zu<|?_;exact rR [] _ (.t1 Z) Z (Lr D) fun _ hS2=>Cz10
 refine Zk<|Zt<|Sr<|qnj (sz:=1) Z Z Z Z fun βo s2 h2 oo=>Zqm Z Z<|qbq [] [_] _ Z Z Z Z Z Z Z oo (hA.row.le h2) ⟨by simp [ti46];omega,by omega⟩ Z ?_;intro v1 A1 s3 h3 o1;simp only [List.nil_append];refine At Z Z<|Zo<|?_;exact rR [] _ (.t1 Z) Z (h2.t h3) fun _ hS2=>Cz11
def qAq{p:Prop} (h:p:=by
 exact ⟨[_],rfl,by simp [qbP,qdj, *],rfl⟩):p:=h
def qme(D:Nat)(L:Hl)(s:World)(m:Mst)(op:Int)(bm bc bq:Nat)(Ai Ao Ax:Option Addr)(nc cc ni ci no co nx cx:Nat)(sm:List Int)(hsm:sm.length=256)(x:Tm)(hv:x.kind=1→0≤x.val∧x.val≤4):AC prog D 159 [.pointer (some ⟨bm,0,none⟩),.agg #[.int .i64 x.kind,.int .u32 x.val]] ([(bm,cb (.slice (some ⟨bc,0,none⟩) nc cc::.int .u32 m.r0::.int .u32 m.r1::.int .u32 m.r2::.int .u32 m.r3::.int .u32 m.r4::.slice Ai ni ci::.slice Ao no co::.int .i64 m.stop::.int .u32 m.code::.slice Ax nx cx::(iv sm++[.map (some bq),.int .u32 op])) 181)]++L) s fun v L' _=>∃ M',L'=M'++L∧v=.int .u32 (qdj m op x)∧M'=[(bm,cb (.slice (some ⟨bc,0,none⟩) nc cc::.int .u32 m.r0::.int .u32 m.r1::.int .u32 m.r2::.int .u32 m.r3::.int .u32 m.r4::.slice Ai ni ci::.slice Ao no co::.int .i64 m.stop::.int .u32 m.code::.slice Ax nx cx::(iv sm++[.map (some bq),.int .u32 op])) 181)]:=by
 refine qae (fn:=f159) qav func159 V Z ntmps159 Z (rs:=[.tmp 4]) Z [(0,_),(1,_)] Z<|Sr<|qay Z Z fun β1 s1 h1=>At Z Z<|Zs<|Sr<|W0 Y5<|Wl 0 Y6<|Nt<|Zp<|Sr<|qax Z Z Z<|At Z Z<|?_;refine qaa Z ?_ ?_<;>intro c2;·have hk:=c2;refine Zs<|qaJ qac 9 Z _ (fun _ h=>h) fun s3 h3=>za 0 Z (qan Z) Z<|za 1 Z (We Y4) Z<|za 2 Z (Wd 0 Y5) Z<|za 3 Z (qam Z) Z<|za 4 Z (qat Z Z Z Z) Z<|za 5 Z (We Y4) Z<|za 6 Z (qkZ Z Z Z Z Z Z (hv hk).1 (by have:=(hv hk).2;omega)) Z<|za 7 Z (qca 1 Z Z Z Z (qv1 m (hv hk) _ _)) Z<|za 8 Z (qa6 Z) Z<|qaf V<|Zt<|Zo<|Zc<|Zu<|?_;exact rR [_] _ (.t1 Z) Z (h1.t h3) fun _ hS2=>qAq
 refine Sr<|qax Z Z Z<|At Z Z<|?_;refine qaa Z ?_ ?_<;>intro c4;·refine Sr<|Zqm Z Z<|qaQ Z Z<|Wb Y5<|qad (qca 1 Z Z Z Z (qzp _ _ _ _ _ _ _ _ _ _ _ _ _ hsm)) Z<|At Z Z<|Zo<|Zc<|Zu<|?_;exact rR [_] _ (.t1 Z) Z h1 fun _ hS2=>qAq
 refine Zk<|Zb<|Zt<|Sr<|Wb Y5<|Wl 0 Y6<|At Z Z<|Zo<|?_;exact rR [_] _ (.t1 Z) Z h1 fun _ hS2=>qAq
def qdJ(D:Nat)(L:Hl)(s:World)(m:Mst)(op:Int)(bm bc bq:Nat)(Ai Ao Ax:Option Addr)(nc cc ni ci no co nx cx:Nat)(sm:List Int)(hsm:sm.length=256)(x:Int)(hx:U32 x)(hnc:nc≤65536):AC prog D 124 [.pointer (some ⟨bm,0,none⟩),.int .u32 x] ([(bm,cb (.slice (some ⟨bc,0,none⟩) nc cc::.int .u32 m.r0::.int .u32 m.r1::.int .u32 m.r2::.int .u32 m.r3::.int .u32 m.r4::.slice Ai ni ci::.slice Ao no co::.int .i64 m.stop::.int .u32 m.code::.slice Ax nx cx::(iv sm++[.map (some bq),.int .u32 op])) 181)]++L) s fun v L' _=>∃ M',L'=M'++L∧v=.bool (decide (x < (nc:Int)))∧M'=[(bm,cb (.slice (some ⟨bc,0,none⟩) nc cc::.int .u32 m.r0::.int .u32 m.r1::.int .u32 m.r2::.int .u32 m.r3::.int .u32 m.r4::.slice Ai ni ci::.slice Ao no co::.int .i64 m.stop::.int .u32 m.code::.slice Ax nx cx::(iv sm++[.map (some bq),.int .u32 op])) 181)]:=by
 have hx1:=hx.1;have hx2:=hx.2;refine qae (fn:=f124) qav func124 V Z ntmps124 Z (rs:=[.tmp 4]) Z [(0,_),(1,_)] Z<|Sr<|At Z Z<|Sr<|Zqm Z Z<|qad (qaR Z Z Z Z Z (qBH O O)) Z<|Zqm Z Z<|qaQ Z Z<|W0 Y5<|W0 Y5<|Wl 0 Y6<|Ws Y4<|qad (qaR Z Z Z Z Z (qBH O O)) Z<|qa8 Z Z Z<|At Z Z<|Zo<|?_;exact rR [] _ (.t1 Z) Z (Lr D) fun _ hS2=>⟨[_],rfl,rfl,rfl⟩
def qzo(w:World):qfe prog 179 (.int .u32) (.int .i64 0):=⟨_,_,underlying179,underlying46,fun w=>by rw [qcC qj3];rfl⟩
def qAa{p:Prop} (h:p:=by
 exact ⟨[_,_,_],rfl,by simp [qbP,fp,hp0,add_lit,ti95],rfl⟩):p:=h
def qvI(D:Nat)(L:Hl)(s:World)(m:Mst)(op:Int)(bm bc bq:Nat)(Ai Ao Ax:Option Addr)(nc cc ni ci no co nx cx:Nat)(sm:List Int)(hsm:sm.length=256)(zs:List Value)(es:List (Int×Value×Nat))(ck:Nat)(l:List Ins)(hX:Inss s Ax nx cx l)(c:Int)(hc:U32 c)(p:Nat)(hp:p≤nx)(h1:c < 256→sm[c.toNat]?=some (p:Int))(h2:256≤c→(qaW es c).getD (.int .i64 0)=.int .i64 (p:Int)):AC prog D 125 [.pointer (some ⟨bm,0,none⟩),.int .u32 c] ([(bm,cb (.slice (some ⟨bc,0,none⟩) nc cc::.int .u32 m.r0::.int .u32 m.r1::.int .u32 m.r2::.int .u32 m.r3::.int .u32 m.r4::.slice Ai ni ci::.slice Ao no co::.int .i64 m.stop::.int .u32 m.code::.slice Ax nx cx::(iv sm++[.map (some bq),.int .u32 op])) 181),(bc,cb zs 46),(bq,mp (Value.int .u32) es ck)]++L) s fun v L' _=>∃ M',L'=M'++L∧v=.tuple #[.pointer (fp Ax p),.bool (decide (p≠0))]∧M'=[(bm,cb (.slice (some ⟨bc,0,none⟩) nc cc::.int .u32 m.r0::.int .u32 m.r1::.int .u32 m.r2::.int .u32 m.r3::.int .u32 m.r4::.slice Ai ni ci::.slice Ao no co::.int .i64 m.stop::.int .u32 m.code::.slice Ax nx cx::(iv sm++[.map (some bq),.int .u32 op])) 181),(bc,cb zs 46),(bq,mp (Value.int .u32) es ck)]:=by
 have hc1:=hc.1;have hc2:=hc.2;have hn:=hX.1;have hcx1:=hX.2.1;have hcx2:=hX.2.2.1;refine qae (fn:=f125) qav func125 V Z ntmps125 Z (rs:=[.tmp 4,.tmp 5]) Z [(0,_),(1,_)] Z<|Sr<|Zqa Z Z<|At Z Z<|Sr<|At Z Z<|Zs<|Sr<|Zqm Z Z<|qa8 Z Z Z<|Nt<|?_;refine qaa Z ?_ ?_<;>intro c1
 ·have hsmall:=h1 O;refine Zr<|Zqm Z Z<|Zqm Z Z<|qaQ Z Z<|Wb Y5<|qad (qkZ Z Z Z Z Z Z O O) Z<|qad (qca 0 Z Z Z Z (qoT _ _ _ _ _ _ _ _ _ _ _ _ _ hsmall)) Z<|At Z Z<|Zs<|Sr<|Zqm Z Z<|qax Z Z Z<|Nt<|?_;refine qaa Z ?_ ?_<;>intro c2
  ·have hp0:p=0:=by omega
   refine Sr<|Zqa Z Z<|At Z Z<|Zo<|Zu<|?_;exact rR [] _ (.tmp Z (.t1 Z)) Z (Lr D) fun _ hS2=>qAa
  have hp0:p≠0:=by omega
  obtain ⟨bx,ox,ix,A',n',c',rfl,_,_⟩:=Inss.at_ hX (show p - 1 < nx by omega);refine Zk<|Zt<|Sr<|Zqm Z Z<|qaQ Z Z<|Wb Y5<|Wl 0 Y6<|Zqm Z Z<|qad (qaz (qk2 Z Z) (show Value.int .i64 (IntKind.i64.wrap ((p:Int) - 1))=.int .i64 ((p - 1:Nat):Int) from by rw [w64 O O];congr 1;omega)) Z<|qad (qau Z Z Z Z Z Z O) Z<|Zqa Z Z<|At Z Z<|Zo<|?_;exact rR [] _ (.tmp Z (.t1 Z)) Z (Lr D) fun _ hS2=>qAa
 have hbig:=h2 O;refine Zr<|Zqm Z Z<|qaQ Z Z<|Wb Y5<|qad (qca 0 Z Z Z Z (qoR _ _ _ _ _ _ _ _ _ _ _ _ _ hsm)) Z<|Zqm Z Z<|qad (qaz (qiZ (KeyK.int .u32) 2 (qzo default) Z Z Z) hbig) Z<|At Z Z<|Zs<|Sr<|Zqm Z Z<|qax Z Z Z<|Nt<|?_;refine qaa Z ?_ ?_<;>intro c3
 ·have hp0:p=0:=by omega
  refine Sr<|Zqa Z Z<|At Z Z<|Zo<|Zu<|?_;exact rR [] _ (.tmp Z (.t1 Z)) Z (Lr D) fun _ hS2=>qAa
 have hp0:p≠0:=by omega
 obtain ⟨bx,ox,ix,A',n',c',rfl,_,_⟩:=Inss.at_ hX (show p - 1 < nx by omega);refine Zk<|Zt<|Sr<|Zqm Z Z<|qaQ Z Z<|Wb Y5<|Wl 0 Y6<|Zqm Z Z<|qad (qaz (qk2 Z Z) (show Value.int .i64 (IntKind.i64.wrap ((p:Int) - 1))=.int .i64 ((p - 1:Nat):Int) from by rw [w64 O O];congr 1;omega)) Z<|qad (qau Z Z Z Z Z Z O) Z<|Zqa Z Z<|At Z Z<|Zo<|?_;exact rR [] _ (.tmp Z (.t1 Z)) Z (Lr D) fun _ hS2=>qAa
def qbK(D:Nat)(L:Hl)(s:World)(m:Mst)(op:Int)(bm bc bq:Nat)(Ai Ao Ax:Option Addr)(nc cc ni ci no co nx cx:Nat)(sm:List Int)(hsm:sm.length=256)(v:Int)(a:Ac)(ba oa βa βm:Nat)(hca:CellsAt s ba oa [.int .i64 a.kind,.int .i64 a.tgt,.int .i64 a.x.kind,.int .u32 a.x.val,.int .i64 a.y.kind,.int .u32 a.y.val])(ht:0≤a.tgt∧a.tgt≤4):AC prog D 160 [.int .u32 v,.pointer (some ⟨βm,0,none⟩),.pointer (some ⟨βa,0,none⟩)] ((βa,cb [.pointer (some ⟨ba,oa,none⟩)] 222)::(βm,cb [.pointer (some ⟨bm,0,none⟩)] 176)::(bm,cb (.slice (some ⟨bc,0,none⟩) nc cc::.int .u32 m.r0::.int .u32 m.r1::.int .u32 m.r2::.int .u32 m.r3::.int .u32 m.r4::.slice Ai ni ci::.slice Ao no co::.int .i64 m.stop::.int .u32 m.code::.slice Ax nx cx::(iv sm++[.map (some bq),.int .u32 op])) 181)::L) s fun w L' _=>w=.tuple #[]∧L'=(βa,cb [.pointer (some ⟨ba,oa,none⟩)] 222)::(βm,cb [.pointer (some ⟨bm,0,none⟩)] 176)::(bm,cb (.slice (some ⟨bc,0,none⟩) nc cc::.int .u32 (qf5 m a.tgt v).r0::.int .u32 (qf5 m a.tgt v).r1::.int .u32 (qf5 m a.tgt v).r2::.int .u32 (qf5 m a.tgt v).r3::.int .u32 (qf5 m a.tgt v).r4::.slice Ai ni ci::.slice Ao no co::.int .i64 m.stop::.int .u32 m.code::.slice Ax nx cx::(iv sm++[.map (some bq),.int .u32 op])) 181)::L:=by
 refine qae (fn:=f160) qav func160 V Z ntmps160 Z (rs:=[]) Z [(0,_),(1,_),(2,_)] Z<|qaH qac 11 Z [2] (by intro x hx;exact qas hx) fun s1 h1=>za 0 Z (Wd 1 Y5) Z<|za 1 Z (Wd 0 Y5) Z<|za 2 Z (qam Z) Z<|za 3 Z (qbm Z Z Z Z) Z<|za 4 Z (qaF 1 Z Z Z (hca.le h1) Z) Z<|za 5 Z (qan Z) Z<|za 6 Z (qam Z) Z<|za 7 Z (qat Z Z Z Z) Z<|za 8 Z (We Y4) Z<|za 9 Z (qkZ Z Z Z Z Z Z ht.1 (by have:=ht.2;omega)) Z<|qar 10 V<|qbs Z Tt 2 _ Z Z Z Z Z (qvn ht _ _ _ _ _ _ _) Z (qwu m ht v _ _) Z (fun x hx=>hx)<|qaf V ?_;refine qal [] _ (.inl Z) (.nil) Z h1 fun _ hS2=>?_;exact ⟨rfl,rfl⟩
end Go.Proofs.YtflplmcjbppfcaaGreatDoor
namespace Go.FL
open Go Go.RowKit
def qq7(L:Hl)(i:Nat):Hl:=match L[i]? with
 | some x=>x::L.eraseIdx i
 | none=>L
def qhQ(L:Hl)(i:Nat):L.Perm (qq7 L i):=by
 unfold qq7;cases h:L[i]? with
 | none=>exact List.Perm.refl _
 | some x=>
  induction L generalizing i with
  | nil=>simp at h
  | cons y L ih=>
   cases i with
   | zero=>simp at h;subst h;exact List.Perm.refl _
   | succ i=>
    simp at h;simp only [List.eraseIdx_cons_succ];exact ((ih i h).cons y).trans (List.Perm.swap x y _)
def qbk{P:Program}{TT:qa5}{D n:Nat}{Q:qbC}{fr:Fr}{L:Hl}{s:World}{c:Code}(i:Nat)(h:JC P TT D n Q c fr (qq7 L i) s):JC P TT D n Q c fr L s:=fun ht a hr ho=>by
 rw [qbv (qhQ L i) _ ho];exact h ht a hr (ho.perm (qhQ L i))
def CellsAt.sub{s:World}{b off:Nat}{vs us:List Value}(j:Nat)(h:CellsAt s b off vs)(hc:cut vs j us.length=some us):CellsAt s b (off+j) us:=fun i v hi=>by
 obtain ⟨_,h2⟩:=qih hc;rw [Nat.add_assoc];exact h (j+i) v (h2 i v hi)
def Own.blk_of{e:Nat}{M:Hl}{Ad:Option Addr}{n c:Nat}{xs:List Value}(h:FL.Own e 1 M (.slice Ad n c) n xs)(hn:0 < n):∃ b ys,M=[(b,cb (xs++ys) e)]∧Ad=some ⟨b,0,none⟩∧xs.length+ys.length=c∧c≤9223372036854775807:=by
 generalize hv:Value.slice Ad n c=v at h;cases h with
 | nil=>omega
 | blk b cap n xs ys h1 h2 h3 h4=>
  injection hv with e1 e2 e3;exact ⟨b,ys,rfl,e1,by omega,by omega⟩
end Go.FL
namespace Go.Proofs.YtflplmcjbppfcaaGreatDoor
open Go Go.FL
def qg2{α:Type}{l:List α}{x:α}(h:l[0]?=some x):∃ r,l=x::r:=by
 cases l with
 | nil=>cases h
 | cons y r=>simp at h;exact ⟨r,by rw [h]⟩
structure AcOK(a:Ac):Prop where
 kind:0≤a.kind∧a.kind≤19
 tgt:0≤a.tgt∧a.tgt≤4
 x:a.x.kind=1→0≤a.x.val∧a.x.val≤4
 y:a.y.kind=1→0≤a.y.val∧a.y.val≤4
 ux:U32 a.x.val
 uy:U32 a.y.val
def qh9{m:Mst}(h:MOK m){op:Int}(ho:U32 op){x:Tm}(hx:U32 x.val):U32 (qdj m op x):=by
 unfold qdj qA5;have:=h.u0;have:=h.u1;have:=h.u2;have:=h.u3;have:=h.u4;repeat' split
 all_goals assumption
section
variable{m:Mst}{a:Ac}{op:Int}
def qyh(h:a.kind=0):qcc m a op=qf5 m a.tgt (qdj m op a.x):=by simp [qcc,h,comp]
def qu4(h:a.kind=19)(hy:qdj m op a.y=0):qcc m a op=qf5 m a.tgt (qdj m op a.x):=by simp [qcc,h,hy,comp]
def qqp(h:a.kind=19)(hy:¬ qdj m op a.y=0):qcc m a op=m:=by simp [qcc,h,hy]
def qu5(h:a.kind=4)(hy:qdj m op a.y=0):qcc m a op={ m with stop:=4 }:=by simp [qcc,h,hy]
def qu6(h:a.kind=5)(hy:qdj m op a.y=0):qcc m a op={ m with stop:=4 }:=by simp [qcc,h,hy]
def qyi(h:a.kind=4)(hy:¬ qdj m op a.y=0):qcc m a op=qf5 m a.tgt (qdj m op a.x / qdj m op a.y):=by simp [qcc,h,hy,comp]
def qyj(h:a.kind=5)(hy:¬ qdj m op a.y=0):qcc m a op=qf5 m a.tgt (qdj m op a.x % qdj m op a.y):=by simp [qcc,h,hy,comp]
def qqk(h:a.kind=13)(hx:¬ qdj m op a.x < (m.cells.length:Int)):qcc m a op={ m with stop:=3 }:=by
 have:(m.cells.length:Int)≤qdj m op a.x:=by omega
 simp [qcc,h,this]
def qql(h:a.kind=14)(hx:¬ qdj m op a.x < (m.cells.length:Int)):qcc m a op={ m with stop:=3 }:=by
 have:(m.cells.length:Int)≤qdj m op a.x:=by omega
 simp [qcc,h,this]
def quZ(h:a.kind=13)(hx:qdj m op a.x < (m.cells.length:Int)):qcc m a op=qf5 m a.tgt (m.cells.getD (qdj m op a.x).toNat 0):=by
 have:¬ (m.cells.length:Int)≤qdj m op a.x:=by omega
 simp [qcc,h,this]
def qu0(h:a.kind=14)(hx:qdj m op a.x < (m.cells.length:Int)):qcc m a op={ m with cells:=m.cells.set (qdj m op a.x).toNat (qdj m op a.y) }:=by
 have:¬ (m.cells.length:Int)≤qdj m op a.x:=by omega
 simp [qcc,h,this]
def qqm(h:a.kind=15)(hi:m.input=[]):qcc m a op=qf5 m a.tgt 4294967295:=by simp [qcc,h,hi]
def qu1(h:a.kind=15){c:UInt8}{r:List UInt8}(hi:m.input=c::r):qcc m a op={ qf5 m a.tgt (c.toNat:Int) with input:=r }:=by simp [qcc,h,hi]
def qqn(h:a.kind=16)(hm:MOK m)(ho:20000≤m.output.length):qcc m a op={ m with stop:=5 }:=by
 have:m.output.length=20000:=by have:=hm.output;omega
 simp [qcc,h,this]
def qny(h:a.kind=16)(ho:¬ 20000≤m.output.length):qcc m a op={ m with output:=m.output++[UInt8.ofNat ((qdj m op a.x).toNat % 256)] }:=by
 have:¬ m.output.length=20000:=by omega
 simp [qcc,h,this]
def qu2(h:a.kind=17):qcc m a op={ m with stop:=1,code:=qdj m op a.x }:=by simp [qcc,h]
def qu3(h:a.kind=18)(hy:qdj m op a.y=0):qcc m a op={ m with stop:=1,code:=qdj m op a.x }:=by simp [qcc,h,hy]
def qqo(h:a.kind=18)(hy:¬ qdj m op a.y=0):qcc m a op=m:=by simp [qcc,h,hy]
def qqj(h:1≤a.kind∧a.kind≤12∧a.kind≠4∧a.kind≠5):qcc m a op=qf5 m a.tgt (comp a.kind (qdj m op a.x) (qdj m op a.y)):=by
 obtain ⟨h1,h2,h3,h4⟩:=h;have e:∀ n:Int,12 < n→¬ a.kind=n:=fun n hn e=>by omega
 simp [qcc,h3,h4,h2,e 13 O,e 14 O,e 15 O,e 16 O,e 17 O,e 18 O]
end
def qe4{l:List Int}{y:List Value}{i:Int}(h0:0≤i)(h:i < l.length):nth (wv l++y) (0+i.toNat)=some (.int .u32 (l.getD i.toNat 0)):=by
 rw [Nat.zero_add];exact qzq (by rw [List.getElem?_eq_getElem O];simp [List.getD,show i.toNat < l.length by omega])
def qhf{l:List Int}{y:List Value}{i:Int}(v:Int)(h0:0≤i)(h:i < l.length):qbz (wv l++y) (0+i.toNat) [.int .u32 v]=wv (l.set i.toNat v)++y:=by
 rw [Nat.zero_add];exact qzJ v O
def qgR{l:List Int}{y:List Value}{i:Int}(h0:0≤i)(h:i < l.length):Nat.ble (0+i.toNat+1) (wv l++y).length=true:=by
 rw [Nat.zero_add];exact qyw O
def qqE{x:Int}(h:U32 x):IntKind.u8.wrap x=((UInt8.ofNat (x.toNat % 256)).toNat:Int):=by
 obtain ⟨h1,h2⟩:=h;rw [IntKind.wrap_u8];simp [UInt8.toNat_ofNat'];omega
open Go.FL
attribute [local irreducible] JC JO JA JB qaZ qaL qb4 AC fill CellsAt QE Ev Mid
def qtM(D:Nat)(L:Hl)(s:World)(bm:Nat)(Ax:Option Addr)(nx cx:Nat)(sm:List Int)(hsm:sm.length=256)(bq:Nat)(es:List (Int×Value×Nat))(ck:Nat)(op:Int)(m:Mst)(M:Hl)(hM:qiX bm (.slice Ax nx cx) sm bq es ck op m M s)(a:Ac)(ba oa:Nat)(hca:CellsAt s ba oa [.int .i64 a.kind,.int .i64 a.tgt,.int .i64 a.x.kind,.int .u32 a.x.val,.int .i64 a.y.kind,.int .u32 a.y.val])(hok:MOK m)(hop:U32 op)(ha:AcOK a):AC Tryz.prog D 126 [.pointer (some ⟨bm,0,none⟩),.pointer (some ⟨ba,oa,none⟩)] (M++L) s fun v L' s'=>∃ M',L'=M'++L∧v=.tuple #[]∧qiX bm (.slice Ax nx cx) sm bq es ck op (qcc m a op) M' s':=by
 obtain ⟨bc,cc,yc,Oq9,Ao,co,Ai,ni,ci,rfl,hO,hI,hcc,hcc2⟩:=hM;have hux:=qh9 hok hop ha.ux;have huy:=qh9 hok hop ha.uy;have hux1:=hux.1;have hux2:=hux.2;have hnc:=hok.cells;have hni:=hI.1;have hno:=hok.output;simp only [List.cons_append];refine qae (fn:=Tryz.f126) qav Tryz.func126 V Z Tryz.ntmps126 Z (rs:=[]) Z [(0,_),(1,_)] Z<|Sr<|qkW Z Z Z fun β1 s1 h1=>qkW Z Z Z fun β2 s2 h2=>Nt<|Zs<|qaJ qac 14 Z _ (fun _ h=>h) fun s3 h3=>za 0 Z (Wd 1 Y5) Z<|za 1 Z (Wd 0 Y5) Z<|za 2 Z (qam Z) Z<|za 3 Z (qbm Z Z Z Z) Z<|za 4 Z (qaw Z Z Z (CellsAt.sub (us:=[_,_]) 2 (hca.le (h1.t h2|>.t h3)) Z) Z) Z<|za 6 Z (Wd 1 Y5) Z<|za 7 Z (Wd 0 Y5) Z<|za 8 Z (qam Z) Z<|za 9 Z (qbm Z Z Z Z) Z<|za 10 Z (qaw Z Z Z (CellsAt.sub (us:=[_,_]) 4 (hca.le (h1.t h2|>.t h3)) Z) Z) Z<|qar 5 V<|Jb Z Tt Z Z Z (AC.mid [_,_] [_] _ (qme D _ _ _ _ _ _ _ _ _ _ _ _ _ _ _ _ _ _ _ hsm a.x ha.x)) ?_;have e3:=h1.t h2|>.t h3;rintro _ _ s4 h4 ⟨_,rfl,rfl,rfl⟩;have e4:=e3.t h4;refine ⟨fun _ _ h=>h,?_⟩;simp only [cQ9,nQ9];refine qar 11 V<|Jb Z Tt Z Z Z (AC.mid [_,_] [_] _ (qme D _ _ _ _ _ _ _ _ _ _ _ _ _ _ _ _ _ _ _ hsm a.y ha.y)) ?_;rintro _ _ s5 h5 ⟨_,rfl,rfl,rfl⟩;have e5:=e4.t h5;refine ⟨fun _ _ h=>h,?_⟩;simp only [cQ9,nQ9];refine za 12 Z (qa6 Z) Z<|za 13 Z (qa6 Z) Z<|qaf V<|Zt<|Sr<|qad (qfQ Z) Z<|At Z Z<|Sr<|Wl 0 Y6<|qaQ Z Z<|W0 Y5<|qad (qaq Z Z Z (hca.le e5) Z) Z<|Nt<|Zp<|Sr<|qax Z Z Z<|At Z Z<|?_;refine qaa Z ?_ ?_<;>intro c6;·refine Zr<|Zqm Z Z<|Zqm Z Z<|qbg (first:=[]) (captured:=[_,_]) Z Z Z (qbK D _ _ _ _ _ _ _ _ _ _ _ _ _ _ _ _ _ _ _ hsm _ a ba oa _ _ (hca.le e5) ha.tgt) ?_;rintro _ _ s7 h7 ⟨rfl,rfl⟩;refine Zn<|Zb<|?_;refine qal [_,_] _ (.inl Z) (.nil) Z (e5.t h7) fun _ hS2=>?_;refine ⟨_::_::_::Oq9,Z,Z,?_⟩;rw [qyh As];exact ⟨bc,cc,yc,Oq9,Ao,co,Ai,ni,ci,rfl,hO,hI.le (e5.t h7|>.t hS2),hcc,hcc2⟩
 refine Sr<|qax Z Z Z<|At Z Z<|?_;refine qaa Z ?_ ?_<;>intro c8
 ·refine Sr<|Zqm Z Z<|qax Z Z Z<|Nt<|?_;refine qaa Z ?_ ?_<;>intro c9;·refine Zr<|Zqm Z Z<|Zqm Z Z<|qbg (first:=[]) (captured:=[_,_]) Z Z Z (qbK D _ _ _ _ _ _ _ _ _ _ _ _ _ _ _ _ _ _ _ hsm _ a ba oa _ _ (hca.le e5) ha.tgt) ?_;rintro _ _ s10 h10 ⟨rfl,rfl⟩;refine Zn<|Zb<|?_;refine qal [_,_] _ (.inl Z) (.nil) Z (e5.t h10) fun _ hS2=>?_;refine ⟨_::_::_::Oq9,Z,Z,?_⟩;rw [qu4 As As];exact ⟨bc,cc,yc,Oq9,Ao,co,Ai,ni,ci,rfl,hO,hI.le (e5.t h10|>.t hS2),hcc,hcc2⟩
  refine Zk<|Zb<|?_;refine qal [_,_] _ (.inl Z) (.nil) Z e5 fun _ hS2=>?_;refine ⟨_::_::_::Oq9,Z,Z,?_⟩;rw [qqp As As];exact ⟨bc,cc,yc,Oq9,Ao,co,Ai,ni,ci,rfl,hO,hI.le (e5|>.t hS2),hcc,hcc2⟩
 refine Zs<|Sr<|qax Z Z Z<|At Z Z<|?_;refine qaa Z ?_ ?_<;>intro c11
 ·refine Zk<|Zt<|?_;refine qaa Z ?_ ?_<;>intro c12
  ·refine Zp<|Sr<|Zqm Z Z<|qax Z Z Z<|At Z Z<|?_;refine qaa Z ?_ ?_<;>intro c13;·refine Zr<|Wl 1 Y6<|qaQ Z Z<|W0 Y5<|Wb Y5<|qc5 2 (_::_::_::_::_::_::_::_::_::_::_::_) Z Z Z Z Z Z Z Z Z<|Zn<|Zb<|Zb<|?_;refine qal [_,_] _ (.inl Z) (.nil) Z e5 fun _ hS2=>?_;refine ⟨_::_::_::Oq9,Z,Z,?_⟩;rw [qu5 As As];exact ⟨bc,cc,yc,Oq9,Ao,co,Ai,ni,ci,rfl,hO,hI.le (e5|>.t hS2),hcc,hcc2⟩
   refine Sr<|Wl 0 Y6<|qaQ Z Z<|W0 Y5<|qad (qaq Z Z Z (hca.le e5) Z) Z<|qax Z Z Z<|At Z Z<|?_;refine qaa Z ?_ ?_<;>intro c14;·refine Zr<|Zqm Z Z<|Zqm Z Z<|Zqm Z Z<|qad (qnq Z Z As) Z<|qbg (first:=[]) (captured:=[_,_]) Z Z Z (qbK D _ _ _ _ _ _ _ _ _ _ _ _ _ _ _ _ _ _ _ hsm _ a ba oa _ _ (hca.le e5) ha.tgt) ?_;rintro _ _ s15 h15 ⟨rfl,rfl⟩;refine Zn<|Zb<|Zb<|?_;refine qal [_,_] _ (.inl Z) (.nil) Z (e5.t h15) fun _ hS2=>?_;refine ⟨_::_::_::Oq9,Z,Z,?_⟩;rw [qyi As As,← divW hux huy,← qxJ];exact ⟨bc,cc,yc,Oq9,Ao,co,Ai,ni,ci,rfl,hO,hI.le (e5.t h15|>.t hS2),hcc,hcc2⟩
   refine Zr<|Zqm Z Z<|Zqm Z Z<|Zqm Z Z<|qad (qnr Z Z As) Z<|qbg (first:=[]) (captured:=[_,_]) Z Z Z (qbK D _ _ _ _ _ _ _ _ _ _ _ _ _ _ _ _ _ _ _ hsm _ a ba oa _ _ (hca.le e5) ha.tgt) ?_;rintro _ _ s16 h16 ⟨rfl,rfl⟩;refine Zn<|Zb<|Zb<|?_;refine qal [_,_] _ (.inl Z) (.nil) Z (e5.t h16) fun _ hS2=>?_;exfalso;omega
  refine Zs<|Sr<|qax Z Z Z<|At Z Z<|?_;refine qaa Z ?_ ?_<;>intro c17
  ·refine Zk<|Zt<|?_;refine qaa Z ?_ ?_<;>intro c18
   ·refine Zp<|Sr<|Wl 1 Y6<|Zqm Z Z<|Jc Z Z Z (AC.mid [_,_] [_] _ (qdJ D _ _ _ _ _ _ _ _ _ _ _ _ _ _ _ _ _ _ _ hsm _ hux hnc)) ?_;rintro _ _ s19 h19 ⟨_,rfl,rfl,rfl⟩;have e19:=e5.t h19;simp only [cQ9,nQ9];refine qbF Z Z<|At Z Z<|?_;refine qaM Z ?_ ?_<;>intro c20;·refine Zr<|Wl 1 Y6<|qaQ Z Z<|W0 Y5<|Wb Y5<|qc5 2 (_::_::_::_::_::_::_::_::_::_::_::_) Z Z Z Z Z Z Z Z Z<|Zn<|Zb<|Zb<|?_;refine qal [_,_] _ (.inl Z) (.nil) Z e19 fun _ hS2=>?_;exfalso;omega
    refine Sr<|Wl 0 Y6<|qaQ Z Z<|W0 Y5<|qad (qaq Z Z Z (hca.le e19) Z) Z<|qax Z Z Z<|At Z Z<|?_;refine qaa Z ?_ ?_<;>intro c21;·refine Zr<|Zqm Z Z<|Wl 1 Y6<|qaQ Z Z<|W0 Y5<|W0 Y5<|Wl 2 Y6<|Zqm Z Z<|qad (qdl Z Z Z Z Z Z hux1 As) Z<|qad (qca 3 Z Z Z Z (qe4 hux1 As)) Z<|qbg (first:=[]) (captured:=[_,_]) Z Z Z (qbK D _ _ _ _ _ _ _ _ _ _ _ _ _ _ _ _ _ _ _ hsm _ a ba oa _ _ (hca.le e19) ha.tgt) ?_;rintro _ _ s22 h22 ⟨rfl,rfl⟩;refine Zn<|Zb<|Zb<|?_;refine qal [_,_] _ (.inl Z) (.nil) Z (e19.t h22) fun _ hS2=>?_;exfalso;omega
    refine Zr<|Wl 1 Y6<|qaQ Z Z<|W0 Y5<|W0 Y5<|Wl 2 Y6<|Zqm Z Z<|Zqm Z Z<|qad (qdl Z Z Z Z Z Z hux1 As) Z<|qc5 3 _ Z Z Z Z Z (qgR hux1 As) Z (qhf _ hux1 As) Z<|Zn<|Zb<|Zb<|?_;refine qal [_,_] _ (.inl Z) (.nil) Z e19 fun _ hS2=>?_;exfalso;omega
   refine Sr<|qax Z Z Z<|At Z Z<|?_;refine qaa Z ?_ ?_<;>intro c24
   ·refine Zs<|Sr<|Wl 1 Y6<|qaQ Z Z<|W0 Y5<|Wb Y5<|Wl 2 Y6<|Ws Y4<|qax Z Z Z<|Nt<|?_;refine qaa Z ?_ ?_<;>intro c25;·refine Sr<|Zqm Z Z<|qbg (first:=[]) (captured:=[_,_]) Z Z Z (qbK D _ _ _ _ _ _ _ _ _ _ _ _ _ _ _ _ _ _ _ hsm _ a ba oa _ _ (hca.le e5) ha.tgt) ?_;rintro _ _ s26 h26 ⟨rfl,rfl⟩;refine Nt<|Zo<|Zu<|Zc<|?_;refine rR [_,_] _ (.nil) Z (e5.t h26) fun _ hS2=>?_;exfalso;omega
    obtain ⟨bi,oi,xi,rfl,hxi,hci⟩:=Bts.at_ (hI.le e5) (show 0 < ni by omega);refine Zk<|Zt<|Sr<|Zqm Z Z<|Wl 1 Y6<|qaQ Z Z<|W0 Y5<|Wb Y5<|Wl 2 Y6<|qad (qdl Z Z Z Z Z Z Dc O) Z<|qad (qaq Z Z Z (hci.le (Lr D)) Z) Z<|qad (qaR Z Z Z Z Z (qfL O (by have:=xi.toNat_lt;omega))) Z<|qbg (first:=[]) (captured:=[_,_]) Z Z Z (qbK D _ _ _ _ _ _ _ _ _ _ _ _ _ _ _ _ _ _ _ hsm _ a ba oa _ _ (hca.le e5) ha.tgt) ?_;rintro _ _ s27 h27 ⟨rfl,rfl⟩;refine Nt<|qaH qac 11 Z [2] (by intro x hx;exact qas hx) fun s28 h28=>za 0 Z (Wd 1 Y5) Z<|za 1 Z (Wd 1 Y5) Z<|za 2 Z (qam Z) Z<|za 3 Z (qat Z Z Z Z) Z<|za 4 Z (We Y4) Z<|qar 5 V<|qbA Z Tt (Wd 2 Y5) Z<|za 6 Z (qi0 (j:=1) Z Z Z Z Z O) Z<|za 7 Z (qam Z) Z<|za 8 Z (qat Z Z Z Z) Z<|za 9 Z (We Y4) Z<|qar 10 V<|qbs Z Tt 2 (_::_::_::_::_::_::_::_::_::_::_::_) Z Z Z Z Z Z Z Z Z (sM (qdw (sbE _)))<|qaf V<|Zb ?_;refine qal [_,_] _ (.inl Z) (.nil) Z (e5.t h27|>.t h28) fun _ hS2=>?_;exfalso;omega
   refine Sr<|qax Z Z Z<|At Z Z<|?_;refine qaa Z ?_ ?_<;>intro c29
   ·refine Zs<|Sr<|Wl 1 Y6<|qaQ Z Z<|W0 Y5<|Wb Y5<|Wl 2 Y6<|Ws Y4<|qhn Z Z Z<|Nt<|?_;refine qaa Z ?_ ?_<;>intro c30;·refine Sr<|Wl 1 Y6<|qaQ Z Z<|W0 Y5<|Wb Y5<|qc5 2 (_::_::_::_::_::_::_::_::_::_::_::_) Z Z Z Z Z Z Z Z Z<|Nt<|Zo<|Zu<|Zc<|?_;refine rR [_,_] _ (.nil) Z e5 fun _ hS2=>?_;exfalso;omega
    refine Zk<|Zt<|qaB qac 14 Z 2 fun s31 h31=>za 0 Z (Wd 1 Y5) Z<|za 1 Z (Wd 1 Y5) Z<|za 2 Z (qam Z) Z<|za 3 Z (qat Z Z Z Z) Z<|za 4 Z (We Y4) Z<|za 6 Z (qan Z) Z<|za 7 Z (qaz (qed Z Z Z Z Z) (congrArg (Value.int .u8) (qqE hux))) Z ?_;refine qeR 5 8 V ?_ ?_;·refine qbA Z Tt (Wd 2 Y5) Z<|qar 8 V<|qbQ Z Tt [(_,_)] [_] Z Z Z Z Z Z Z Z Z fun βn s32 h32 hcn=>qar 9 V<|qbE (sz:=1) Z (by exact Tt) [_,_,_,_,_] Oq9 _ Z Z Z Z Z Z Z hO (Row.of_cells (hcn.le (Lr D)) Z Z) ⟨by simp [ti5];omega,by omega⟩ Z (fun A2 x hx _=>List.mem_append_left _ (by simp at hx ⊢;grind)) ?_;intro v1 A1 s33 h33 o1;obtain ⟨Ao1,co1,rfl,ko1,ko2⟩:=Own.slice o1;simp only [cQ9,nQ9];refine za 10 Z (qam Z) Z<|za 11 Z (qat Z Z Z Z) Z<|za 12 Z (We Y4) Z<|qar 13 V<|qbs Z Tt 2 (_::_::_::_::_::_::_::_::_::_::_::_) Z Z Z Z Z Z Z Z Z (sM (qet (sb0 _)))<|qaf V<|Zb ?_;refine qal [_,_] _ (.inl Z) (.nil) Z (e5.t h31|>.t h32|>.t h33) fun _ hS2=>?_;exfalso;omega
    refine qbQ Z Tt [(_,_)] [_] Z Z Z Z Z Z Z Z Z fun βn s34 h34 hcn=>qar 5 V<|qbA Z Tt (Wd 2 Y5) Z<|qar 9 V<|qbE (sz:=1) Z (by exact Tt) [_,_,_,_,_] Oq9 _ Z Z Z Z Z Z Z hO (Row.of_cells (hcn.le (Lr D)) Z Z) ⟨by simp [ti5];omega,by omega⟩ Z (fun A2 x hx _=>List.mem_append_left _ (by simp at hx ⊢;grind)) ?_;intro v1 A1 s35 h35 o1;obtain ⟨Ao1,co1,rfl,ko1,ko2⟩:=Own.slice o1;simp only [cQ9,nQ9];refine za 10 Z (qam Z) Z<|za 11 Z (qat Z Z Z Z) Z<|za 12 Z (We Y4) Z<|qar 13 V<|qbs Z Tt 2 (_::_::_::_::_::_::_::_::_::_::_::_) Z Z Z Z Z Z Z Z Z (sM (qet (sb0 _)))<|qaf V<|Zb ?_;refine qal [_,_] _ (.inl Z) (.nil) Z (e5.t h31|>.t h34|>.t h35) fun _ hS2=>?_;exfalso;omega
   refine Zs<|Sr<|qax Z Z Z<|At Z Z<|?_;refine qaa Z ?_ ?_<;>intro c36
   ·refine Zk<|Zt<|?_;refine qaa Z ?_ ?_<;>intro c37
    ·refine Sr<|Wl 0 Y6<|qaQ Z Z<|W0 Y5<|qad (qaq Z Z Z (hca.le e5) Z) Z<|qax Z Z Z<|Zqm Z Z<|?_;refine qai (t:=172) Z ?_ ?_<;>intro c38;·refine Wf Y4<|Wf Y4<|ZqT Z Z Z<|Nt<|Zy Z<|qaH qac 11 Z [2] (by intro x hx;exact qas hx) fun s39 h39=>za 0 Z (Wd 1 Y5) Z<|za 1 Z (Wd 1 Y5) Z<|za 2 Z (qan Z) Z<|za 3 Z (qam Z) Z<|za 4 Z (qat Z Z Z Z) Z<|za 5 Z (We Y4) Z<|qar 6 V<|qbs Z Tt 2 (_::_::_::_::_::_::_::_::_::_::_::_) Z Z Z Z Z Z Z Z Z (sM (qdw (sbE _)))<|za 7 Z (qam Z) Z<|za 8 Z (qat Z Z Z Z) Z<|za 9 Z (We Y4) Z<|qar 10 V ?_;refine qbs Z Tt 2 (_::_::_::_::_::_::_::_::_::_::_::_) Z Z Z Z Z Z Z Z Z (sM (qdw (sbE _)))<|qaf V<|Zb ?_;refine qal [_,_] _ (.inl Z) (.nil) Z (e5.t h39) fun _ hS2=>?_;exfalso;omega
     refine Zg Z Z<|Zqm Z Z<|Zg Z Z<|qax Z Z Z<|ZqF Z Z Z<|Nt<|?_;refine qaa Z ?_ ?_<;>intro c40;·refine qaH qac 11 Z [2] (by intro x hx;exact qas hx) fun s41 h41=>za 0 Z (Wd 1 Y5) Z<|za 1 Z (Wd 1 Y5) Z<|za 2 Z (qan Z) Z<|za 3 Z (qam Z) Z<|za 4 Z (qat Z Z Z Z) Z<|za 5 Z (We Y4) Z<|qar 6 V<|qbs Z Tt 2 (_::_::_::_::_::_::_::_::_::_::_::_) Z Z Z Z Z Z Z Z Z (sM (qdw (sbE _)))<|za 7 Z (qam Z) Z<|za 8 Z (qat Z Z Z Z) Z<|za 9 Z (We Y4) Z<|qar 10 V ?_;refine qbs Z Tt 2 (_::_::_::_::_::_::_::_::_::_::_::_) Z Z Z Z Z Z Z Z Z (sM (qdw (sbE _)))<|qaf V<|Zb ?_;refine qal [_,_] _ (.inl Z) (.nil) Z (e5.t h41) fun _ hS2=>?_;exfalso;omega
     refine Zk<|Zb<|?_;refine qal [_,_] _ (.inl Z) (.nil) Z e5 fun _ hS2=>?_;exfalso;omega
    refine Zr<|Zqm Z Z<|Wl 0 Y6<|qaQ Z Z<|W0 Y5<|qad (qaq Z Z Z (hca.le e5) Z) Z<|Zqm Z Z<|Zqm Z Z<|Je Z Z Z (qb5 D _ _ _ _ _ hux huy (by have:=ha.kind;omega)) fun s42 h42=>qbg (first:=[]) (captured:=[_,_]) Z Z Z (qbK D _ _ _ _ _ _ _ _ _ _ _ _ _ _ _ _ _ _ _ hsm _ a ba oa _ _ (hca.le (e5.t h42)) ha.tgt) ?_;rintro _ _ s43 h43 ⟨rfl,rfl⟩;refine Zn<|Zb<|?_;refine qal [_,_] _ (.inl Z) (.nil) Z (e5.t h42|>.t h43) fun _ hS2=>?_;exfalso;omega
   refine Zr<|qax Z Z Z<|At Z Z<|?_;refine qaa Z ?_ ?_<;>intro c44
   ·refine Sr<|Wl 0 Y6<|qaQ Z Z<|W0 Y5<|qad (qaq Z Z Z (hca.le e5) Z) Z<|qax Z Z Z<|Zqm Z Z<|?_;refine qai (t:=172) Z ?_ ?_<;>intro c45;·refine Wf Y4<|Wf Y4<|ZqT Z Z Z<|Nt<|Zy Z<|qaH qac 11 Z [2] (by intro x hx;exact qas hx) fun s46 h46=>za 0 Z (Wd 1 Y5) Z<|za 1 Z (Wd 1 Y5) Z<|za 2 Z (qan Z) Z<|za 3 Z (qam Z) Z<|za 4 Z (qat Z Z Z Z) Z<|za 5 Z (We Y4) Z<|qar 6 V<|qbs Z Tt 2 (_::_::_::_::_::_::_::_::_::_::_::_) Z Z Z Z Z Z Z Z Z (sM (qdw (sbE _)))<|za 7 Z (qam Z) Z<|za 8 Z (qat Z Z Z Z) Z<|za 9 Z (We Y4) Z<|qar 10 V ?_;refine qbs Z Tt 2 (_::_::_::_::_::_::_::_::_::_::_::_) Z Z Z Z Z Z Z Z Z (sM (qdw (sbE _)))<|qaf V<|Zb ?_;refine qal [_,_] _ (.inl Z) (.nil) Z (e5.t h46) fun _ hS2=>?_;exfalso;omega
    refine Zg Z Z<|Zqm Z Z<|Zg Z Z<|qax Z Z Z<|ZqF Z Z Z<|Nt<|?_;refine qaa Z ?_ ?_<;>intro c47;·refine qaH qac 11 Z [2] (by intro x hx;exact qas hx) fun s48 h48=>za 0 Z (Wd 1 Y5) Z<|za 1 Z (Wd 1 Y5) Z<|za 2 Z (qan Z) Z<|za 3 Z (qam Z) Z<|za 4 Z (qat Z Z Z Z) Z<|za 5 Z (We Y4) Z<|qar 6 V<|qbs Z Tt 2 (_::_::_::_::_::_::_::_::_::_::_::_) Z Z Z Z Z Z Z Z Z (sM (qdw (sbE _)))<|za 7 Z (qam Z) Z<|za 8 Z (qat Z Z Z Z) Z<|za 9 Z (We Y4) Z<|qar 10 V ?_;refine qbs Z Tt 2 (_::_::_::_::_::_::_::_::_::_::_::_) Z Z Z Z Z Z Z Z Z (sM (qdw (sbE _)))<|qaf V<|Zb ?_;refine qal [_,_] _ (.inl Z) (.nil) Z (e5.t h48) fun _ hS2=>?_;exfalso;omega
    refine Zk<|Zb<|?_;refine qal [_,_] _ (.inl Z) (.nil) Z e5 fun _ hS2=>?_;exfalso;omega
   refine Zr<|Zqm Z Z<|Wl 0 Y6<|qaQ Z Z<|W0 Y5<|qad (qaq Z Z Z (hca.le e5) Z) Z<|Zqm Z Z<|Zqm Z Z<|Je Z Z Z (qb5 D _ _ _ _ _ hux huy (by have:=ha.kind;omega)) fun s49 h49=>qbg (first:=[]) (captured:=[_,_]) Z Z Z (qbK D _ _ _ _ _ _ _ _ _ _ _ _ _ _ _ _ _ _ _ hsm _ a ba oa _ _ (hca.le (e5.t h49)) ha.tgt) ?_;rintro _ _ s50 h50 ⟨rfl,rfl⟩;refine Zn<|Zb<|?_;refine qal [_,_] _ (.inl Z) (.nil) Z (e5.t h49|>.t h50) fun _ hS2=>?_;exfalso;omega
  refine Zr<|qax Z Z Z<|At Z Z<|?_;refine qaa Z ?_ ?_<;>intro c51
  ·refine Zp<|Sr<|Wl 1 Y6<|Zqm Z Z<|Jc Z Z Z (AC.mid [_,_] [_] _ (qdJ D _ _ _ _ _ _ _ _ _ _ _ _ _ _ _ _ _ _ _ hsm _ hux hnc)) ?_;rintro _ _ s52 h52 ⟨_,rfl,rfl,rfl⟩;have e52:=e5.t h52;simp only [cQ9,nQ9];refine qbF Z Z<|At Z Z<|?_;refine qaM Z ?_ ?_<;>intro c53;·refine Zr<|Wl 1 Y6<|qaQ Z Z<|W0 Y5<|Wb Y5<|qc5 2 (_::_::_::_::_::_::_::_::_::_::_::_) Z Z Z Z Z Z Z Z Z<|Zn<|Zb<|Zb<|?_;refine qal [_,_] _ (.inl Z) (.nil) Z e52 fun _ hS2=>?_;exfalso;omega
   refine Sr<|Wl 0 Y6<|qaQ Z Z<|W0 Y5<|qad (qaq Z Z Z (hca.le e52) Z) Z<|qax Z Z Z<|At Z Z<|?_;refine qaa Z ?_ ?_<;>intro c54;·refine Zr<|Zqm Z Z<|Wl 1 Y6<|qaQ Z Z<|W0 Y5<|W0 Y5<|Wl 2 Y6<|Zqm Z Z<|qad (qdl Z Z Z Z Z Z hux1 As) Z<|qad (qca 3 Z Z Z Z (qe4 hux1 As)) Z<|qbg (first:=[]) (captured:=[_,_]) Z Z Z (qbK D _ _ _ _ _ _ _ _ _ _ _ _ _ _ _ _ _ _ _ hsm _ a ba oa _ _ (hca.le e52) ha.tgt) ?_;rintro _ _ s55 h55 ⟨rfl,rfl⟩;refine Zn<|Zb<|Zb<|?_;refine qal [_,_] _ (.inl Z) (.nil) Z (e52.t h55) fun _ hS2=>?_;exfalso;omega
   refine Zr<|Wl 1 Y6<|qaQ Z Z<|W0 Y5<|W0 Y5<|Wl 2 Y6<|Zqm Z Z<|Zqm Z Z<|qad (qdl Z Z Z Z Z Z hux1 As) Z<|qc5 3 _ Z Z Z Z Z (qgR hux1 As) Z (qhf _ hux1 As) Z<|Zn<|Zb<|Zb<|?_;refine qal [_,_] _ (.inl Z) (.nil) Z e52 fun _ hS2=>?_;exfalso;omega
  refine Sr<|qax Z Z Z<|At Z Z<|?_;refine qaa Z ?_ ?_<;>intro c57
  ·refine Zs<|Sr<|Wl 1 Y6<|qaQ Z Z<|W0 Y5<|Wb Y5<|Wl 2 Y6<|Ws Y4<|qax Z Z Z<|Nt<|?_;refine qaa Z ?_ ?_<;>intro c58;·refine Sr<|Zqm Z Z<|qbg (first:=[]) (captured:=[_,_]) Z Z Z (qbK D _ _ _ _ _ _ _ _ _ _ _ _ _ _ _ _ _ _ _ hsm _ a ba oa _ _ (hca.le e5) ha.tgt) ?_;rintro _ _ s59 h59 ⟨rfl,rfl⟩;refine Nt<|Zo<|Zu<|Zc<|?_;refine rR [_,_] _ (.nil) Z (e5.t h59) fun _ hS2=>?_;exfalso;omega
   obtain ⟨bi,oi,xi,rfl,hxi,hci⟩:=Bts.at_ (hI.le e5) (show 0 < ni by omega);refine Zk<|Zt<|Sr<|Zqm Z Z<|Wl 1 Y6<|qaQ Z Z<|W0 Y5<|Wb Y5<|Wl 2 Y6<|qad (qdl Z Z Z Z Z Z Dc O) Z<|qad (qaq Z Z Z (hci.le (Lr D)) Z) Z<|qad (qaR Z Z Z Z Z (qfL O (by have:=xi.toNat_lt;omega))) Z<|qbg (first:=[]) (captured:=[_,_]) Z Z Z (qbK D _ _ _ _ _ _ _ _ _ _ _ _ _ _ _ _ _ _ _ hsm _ a ba oa _ _ (hca.le e5) ha.tgt) ?_;rintro _ _ s60 h60 ⟨rfl,rfl⟩;refine Nt<|qaH qac 11 Z [2] (by intro x hx;exact qas hx) fun s61 h61=>za 0 Z (Wd 1 Y5) Z<|za 1 Z (Wd 1 Y5) Z<|za 2 Z (qam Z) Z<|za 3 Z (qat Z Z Z Z) Z<|za 4 Z (We Y4) Z<|qar 5 V<|qbA Z Tt (Wd 2 Y5) Z<|za 6 Z (qi0 (j:=1) Z Z Z Z Z O) Z<|za 7 Z (qam Z) Z<|za 8 Z (qat Z Z Z Z) Z<|za 9 Z (We Y4) Z<|qar 10 V<|qbs Z Tt 2 (_::_::_::_::_::_::_::_::_::_::_::_) Z Z Z Z Z Z Z Z Z (sM (qdw (sbE _)))<|qaf V<|Zb ?_;refine qal [_,_] _ (.inl Z) (.nil) Z (e5.t h60|>.t h61) fun _ hS2=>?_;exfalso;omega
  refine Sr<|qax Z Z Z<|At Z Z<|?_;refine qaa Z ?_ ?_<;>intro c62
  ·refine Zs<|Sr<|Wl 1 Y6<|qaQ Z Z<|W0 Y5<|Wb Y5<|Wl 2 Y6<|Ws Y4<|qhn Z Z Z<|Nt<|?_;refine qaa Z ?_ ?_<;>intro c63;·refine Sr<|Wl 1 Y6<|qaQ Z Z<|W0 Y5<|Wb Y5<|qc5 2 (_::_::_::_::_::_::_::_::_::_::_::_) Z Z Z Z Z Z Z Z Z<|Nt<|Zo<|Zu<|Zc<|?_;refine rR [_,_] _ (.nil) Z e5 fun _ hS2=>?_;exfalso;omega
   refine Zk<|Zt<|qaB qac 14 Z 2 fun s64 h64=>za 0 Z (Wd 1 Y5) Z<|za 1 Z (Wd 1 Y5) Z<|za 2 Z (qam Z) Z<|za 3 Z (qat Z Z Z Z) Z<|za 4 Z (We Y4) Z<|za 6 Z (qan Z) Z<|za 7 Z (qaz (qed Z Z Z Z Z) (congrArg (Value.int .u8) (qqE hux))) Z ?_;refine qeR 5 8 V ?_ ?_;·refine qbA Z Tt (Wd 2 Y5) Z<|qar 8 V<|qbQ Z Tt [(_,_)] [_] Z Z Z Z Z Z Z Z Z fun βn s65 h65 hcn=>qar 9 V<|qbE (sz:=1) Z (by exact Tt) [_,_,_,_,_] Oq9 _ Z Z Z Z Z Z Z hO (Row.of_cells (hcn.le (Lr D)) Z Z) ⟨by simp [ti5];omega,by omega⟩ Z (fun A2 x hx _=>List.mem_append_left _ (by simp at hx ⊢;grind)) ?_;intro v1 A1 s66 h66 o1;obtain ⟨Ao1,co1,rfl,ko1,ko2⟩:=Own.slice o1;simp only [cQ9,nQ9];refine za 10 Z (qam Z) Z<|za 11 Z (qat Z Z Z Z) Z<|za 12 Z (We Y4) Z<|qar 13 V<|qbs Z Tt 2 (_::_::_::_::_::_::_::_::_::_::_::_) Z Z Z Z Z Z Z Z Z (sM (qet (sb0 _)))<|qaf V<|Zb ?_;refine qal [_,_] _ (.inl Z) (.nil) Z (e5.t h64|>.t h65|>.t h66) fun _ hS2=>?_;exfalso;omega
   refine qbQ Z Tt [(_,_)] [_] Z Z Z Z Z Z Z Z Z fun βn s67 h67 hcn=>qar 5 V<|qbA Z Tt (Wd 2 Y5) Z<|qar 9 V<|qbE (sz:=1) Z (by exact Tt) [_,_,_,_,_] Oq9 _ Z Z Z Z Z Z Z hO (Row.of_cells (hcn.le (Lr D)) Z Z) ⟨by simp [ti5];omega,by omega⟩ Z (fun A2 x hx _=>List.mem_append_left _ (by simp at hx ⊢;grind)) ?_;intro v1 A1 s68 h68 o1;obtain ⟨Ao1,co1,rfl,ko1,ko2⟩:=Own.slice o1;simp only [cQ9,nQ9];refine za 10 Z (qam Z) Z<|za 11 Z (qat Z Z Z Z) Z<|za 12 Z (We Y4) Z<|qar 13 V<|qbs Z Tt 2 (_::_::_::_::_::_::_::_::_::_::_::_) Z Z Z Z Z Z Z Z Z (sM (qet (sb0 _)))<|qaf V<|Zb ?_;refine qal [_,_] _ (.inl Z) (.nil) Z (e5.t h64|>.t h67|>.t h68) fun _ hS2=>?_;exfalso;omega
  refine Zs<|Sr<|qax Z Z Z<|At Z Z<|?_;refine qaa Z ?_ ?_<;>intro c69
  ·refine Zk<|Zt<|?_;refine qaa Z ?_ ?_<;>intro c70
   ·refine Sr<|Wl 0 Y6<|qaQ Z Z<|W0 Y5<|qad (qaq Z Z Z (hca.le e5) Z) Z<|qax Z Z Z<|Zqm Z Z<|?_;refine qai (t:=172) Z ?_ ?_<;>intro c71;·refine Wf Y4<|Wf Y4<|ZqT Z Z Z<|Nt<|Zy Z<|qaH qac 11 Z [2] (by intro x hx;exact qas hx) fun s72 h72=>za 0 Z (Wd 1 Y5) Z<|za 1 Z (Wd 1 Y5) Z<|za 2 Z (qan Z) Z<|za 3 Z (qam Z) Z<|za 4 Z (qat Z Z Z Z) Z<|za 5 Z (We Y4) Z<|qar 6 V<|qbs Z Tt 2 (_::_::_::_::_::_::_::_::_::_::_::_) Z Z Z Z Z Z Z Z Z (sM (qdw (sbE _)))<|za 7 Z (qam Z) Z<|za 8 Z (qat Z Z Z Z) Z<|za 9 Z (We Y4) Z<|qar 10 V ?_;refine qbs Z Tt 2 (_::_::_::_::_::_::_::_::_::_::_::_) Z Z Z Z Z Z Z Z Z (sM (qdw (sbE _)))<|qaf V<|Zb ?_;refine qal [_,_] _ (.inl Z) (.nil) Z (e5.t h72) fun _ hS2=>?_;exfalso;omega
    refine Zg Z Z<|Zqm Z Z<|Zg Z Z<|qax Z Z Z<|ZqF Z Z Z<|Nt<|?_;refine qaa Z ?_ ?_<;>intro c73;·refine qaH qac 11 Z [2] (by intro x hx;exact qas hx) fun s74 h74=>za 0 Z (Wd 1 Y5) Z<|za 1 Z (Wd 1 Y5) Z<|za 2 Z (qan Z) Z<|za 3 Z (qam Z) Z<|za 4 Z (qat Z Z Z Z) Z<|za 5 Z (We Y4) Z<|qar 6 V<|qbs Z Tt 2 (_::_::_::_::_::_::_::_::_::_::_::_) Z Z Z Z Z Z Z Z Z (sM (qdw (sbE _)))<|za 7 Z (qam Z) Z<|za 8 Z (qat Z Z Z Z) Z<|za 9 Z (We Y4) Z<|qar 10 V ?_;refine qbs Z Tt 2 (_::_::_::_::_::_::_::_::_::_::_::_) Z Z Z Z Z Z Z Z Z (sM (qdw (sbE _)))<|qaf V<|Zb ?_;refine qal [_,_] _ (.inl Z) (.nil) Z (e5.t h74) fun _ hS2=>?_;exfalso;omega
    refine Zk<|Zb<|?_;refine qal [_,_] _ (.inl Z) (.nil) Z e5 fun _ hS2=>?_;exfalso;omega
   refine Zr<|Zqm Z Z<|Wl 0 Y6<|qaQ Z Z<|W0 Y5<|qad (qaq Z Z Z (hca.le e5) Z) Z<|Zqm Z Z<|Zqm Z Z<|Je Z Z Z (qb5 D _ _ _ _ _ hux huy (by have:=ha.kind;omega)) fun s75 h75=>qbg (first:=[]) (captured:=[_,_]) Z Z Z (qbK D _ _ _ _ _ _ _ _ _ _ _ _ _ _ _ _ _ _ _ hsm _ a ba oa _ _ (hca.le (e5.t h75)) ha.tgt) ?_;rintro _ _ s76 h76 ⟨rfl,rfl⟩;refine Zn<|Zb<|?_;refine qal [_,_] _ (.inl Z) (.nil) Z (e5.t h75|>.t h76) fun _ hS2=>?_;exfalso;omega
  refine Zr<|qax Z Z Z<|At Z Z<|?_;refine qaa Z ?_ ?_<;>intro c77
  ·refine Sr<|Wl 0 Y6<|qaQ Z Z<|W0 Y5<|qad (qaq Z Z Z (hca.le e5) Z) Z<|qax Z Z Z<|Zqm Z Z<|?_;refine qai (t:=172) Z ?_ ?_<;>intro c78;·refine Wf Y4<|Wf Y4<|ZqT Z Z Z<|Nt<|Zy Z<|qaH qac 11 Z [2] (by intro x hx;exact qas hx) fun s79 h79=>za 0 Z (Wd 1 Y5) Z<|za 1 Z (Wd 1 Y5) Z<|za 2 Z (qan Z) Z<|za 3 Z (qam Z) Z<|za 4 Z (qat Z Z Z Z) Z<|za 5 Z (We Y4) Z<|qar 6 V<|qbs Z Tt 2 (_::_::_::_::_::_::_::_::_::_::_::_) Z Z Z Z Z Z Z Z Z (sM (qdw (sbE _)))<|za 7 Z (qam Z) Z<|za 8 Z (qat Z Z Z Z) Z<|za 9 Z (We Y4) Z<|qar 10 V ?_;refine qbs Z Tt 2 (_::_::_::_::_::_::_::_::_::_::_::_) Z Z Z Z Z Z Z Z Z (sM (qdw (sbE _)))<|qaf V<|Zb ?_;refine qal [_,_] _ (.inl Z) (.nil) Z (e5.t h79) fun _ hS2=>?_;exfalso;omega
   refine Zg Z Z<|Zqm Z Z<|Zg Z Z<|qax Z Z Z<|ZqF Z Z Z<|Nt<|?_;refine qaa Z ?_ ?_<;>intro c80;·refine qaH qac 11 Z [2] (by intro x hx;exact qas hx) fun s81 h81=>za 0 Z (Wd 1 Y5) Z<|za 1 Z (Wd 1 Y5) Z<|za 2 Z (qan Z) Z<|za 3 Z (qam Z) Z<|za 4 Z (qat Z Z Z Z) Z<|za 5 Z (We Y4) Z<|qar 6 V<|qbs Z Tt 2 (_::_::_::_::_::_::_::_::_::_::_::_) Z Z Z Z Z Z Z Z Z (sM (qdw (sbE _)))<|za 7 Z (qam Z) Z<|za 8 Z (qat Z Z Z Z) Z<|za 9 Z (We Y4) Z<|qar 10 V ?_;refine qbs Z Tt 2 (_::_::_::_::_::_::_::_::_::_::_::_) Z Z Z Z Z Z Z Z Z (sM (qdw (sbE _)))<|qaf V<|Zb ?_;refine qal [_,_] _ (.inl Z) (.nil) Z (e5.t h81) fun _ hS2=>?_;exfalso;omega
   refine Zk<|Zb<|?_;refine qal [_,_] _ (.inl Z) (.nil) Z e5 fun _ hS2=>?_;exfalso;omega
  refine Zr<|Zqm Z Z<|Wl 0 Y6<|qaQ Z Z<|W0 Y5<|qad (qaq Z Z Z (hca.le e5) Z) Z<|Zqm Z Z<|Zqm Z Z<|Je Z Z Z (qb5 D _ _ _ _ _ hux huy (by have:=ha.kind;omega)) fun s82 h82=>qbg (first:=[]) (captured:=[_,_]) Z Z Z (qbK D _ _ _ _ _ _ _ _ _ _ _ _ _ _ _ _ _ _ _ hsm _ a ba oa _ _ (hca.le (e5.t h82)) ha.tgt) ?_;rintro _ _ s83 h83 ⟨rfl,rfl⟩;refine Zn<|Zb<|?_;refine qal [_,_] _ (.inl Z) (.nil) Z (e5.t h82|>.t h83) fun _ hS2=>?_;exfalso;omega
 refine Zr<|qax Z Z Z<|At Z Z<|?_;refine qaa Z ?_ ?_<;>intro c84
 ·refine Zp<|Sr<|Zqm Z Z<|qax Z Z Z<|At Z Z<|?_;refine qaa Z ?_ ?_<;>intro c85;·refine Zr<|Wl 1 Y6<|qaQ Z Z<|W0 Y5<|Wb Y5<|qc5 2 (_::_::_::_::_::_::_::_::_::_::_::_) Z Z Z Z Z Z Z Z Z<|Zn<|Zb<|Zb<|?_;refine qal [_,_] _ (.inl Z) (.nil) Z e5 fun _ hS2=>?_;refine ⟨_::_::_::Oq9,Z,Z,?_⟩;rw [qu6 As As];exact ⟨bc,cc,yc,Oq9,Ao,co,Ai,ni,ci,rfl,hO,hI.le (e5|>.t hS2),hcc,hcc2⟩
  refine Sr<|Wl 0 Y6<|qaQ Z Z<|W0 Y5<|qad (qaq Z Z Z (hca.le e5) Z) Z<|qax Z Z Z<|At Z Z<|?_;refine qaa Z ?_ ?_<;>intro c86;·refine Zr<|Zqm Z Z<|Zqm Z Z<|Zqm Z Z<|qad (qnq Z Z As) Z<|qbg (first:=[]) (captured:=[_,_]) Z Z Z (qbK D _ _ _ _ _ _ _ _ _ _ _ _ _ _ _ _ _ _ _ hsm _ a ba oa _ _ (hca.le e5) ha.tgt) ?_;rintro _ _ s87 h87 ⟨rfl,rfl⟩;refine Zn<|Zb<|Zb<|?_;refine qal [_,_] _ (.inl Z) (.nil) Z (e5.t h87) fun _ hS2=>?_;exfalso;omega
  refine Zr<|Zqm Z Z<|Zqm Z Z<|Zqm Z Z<|qad (qnr Z Z As) Z<|qbg (first:=[]) (captured:=[_,_]) Z Z Z (qbK D _ _ _ _ _ _ _ _ _ _ _ _ _ _ _ _ _ _ _ hsm _ a ba oa _ _ (hca.le e5) ha.tgt) ?_;rintro _ _ s88 h88 ⟨rfl,rfl⟩;refine Zn<|Zb<|Zb<|?_;refine qal [_,_] _ (.inl Z) (.nil) Z (e5.t h88) fun _ hS2=>?_;refine ⟨_::_::_::Oq9,Z,Z,?_⟩;rw [qyj As As,← modW hux];exact ⟨bc,cc,yc,Oq9,Ao,co,Ai,ni,ci,rfl,hO,hI.le (e5.t h88|>.t hS2),hcc,hcc2⟩
 refine Zs<|Sr<|qax Z Z Z<|At Z Z<|?_;refine qaa Z ?_ ?_<;>intro c89
 ·refine Zk<|Zt<|?_;refine qaa Z ?_ ?_<;>intro c90
  ·refine Zp<|Sr<|Wl 1 Y6<|Zqm Z Z<|Jc Z Z Z (AC.mid [_,_] [_] _ (qdJ D _ _ _ _ _ _ _ _ _ _ _ _ _ _ _ _ _ _ _ hsm _ hux hnc)) ?_;rintro _ _ s91 h91 ⟨_,rfl,rfl,rfl⟩;have e91:=e5.t h91;simp only [cQ9,nQ9];refine qbF Z Z<|At Z Z<|?_;refine qaM Z ?_ ?_<;>intro c92;·refine Zr<|Wl 1 Y6<|qaQ Z Z<|W0 Y5<|Wb Y5<|qc5 2 (_::_::_::_::_::_::_::_::_::_::_::_) Z Z Z Z Z Z Z Z Z<|Zn<|Zb<|Zb<|?_;refine qal [_,_] _ (.inl Z) (.nil) Z e91 fun _ hS2=>?_;refine ⟨_::_::_::Oq9,Z,Z,?_⟩;rw [qqk As As];exact ⟨bc,cc,yc,Oq9,Ao,co,Ai,ni,ci,rfl,hO,hI.le (e91|>.t hS2),hcc,hcc2⟩
   refine Sr<|Wl 0 Y6<|qaQ Z Z<|W0 Y5<|qad (qaq Z Z Z (hca.le e91) Z) Z<|qax Z Z Z<|At Z Z<|?_;refine qaa Z ?_ ?_<;>intro c93;·refine Zr<|Zqm Z Z<|Wl 1 Y6<|qaQ Z Z<|W0 Y5<|W0 Y5<|Wl 2 Y6<|Zqm Z Z<|qad (qdl Z Z Z Z Z Z hux1 As) Z<|qad (qca 3 Z Z Z Z (qe4 hux1 As)) Z<|qbg (first:=[]) (captured:=[_,_]) Z Z Z (qbK D _ _ _ _ _ _ _ _ _ _ _ _ _ _ _ _ _ _ _ hsm _ a ba oa _ _ (hca.le e91) ha.tgt) ?_;rintro _ _ s94 h94 ⟨rfl,rfl⟩;refine Zn<|Zb<|Zb<|?_;refine qal [_,_] _ (.inl Z) (.nil) Z (e91.t h94) fun _ hS2=>?_;refine ⟨_::_::_::Oq9,Z,Z,?_⟩;rw [quZ As As];exact ⟨bc,cc,yc,Oq9,Ao,co,Ai,ni,ci,rfl,hO,hI.le (e91.t h94|>.t hS2),hcc,hcc2⟩
   refine Zr<|Wl 1 Y6<|qaQ Z Z<|W0 Y5<|W0 Y5<|Wl 2 Y6<|Zqm Z Z<|Zqm Z Z<|qad (qdl Z Z Z Z Z Z hux1 As) Z<|qc5 3 _ Z Z Z Z Z (qgR hux1 As) Z (qhf _ hux1 As) Z<|Zn<|Zb<|Zb<|?_;refine qal [_,_] _ (.inl Z) (.nil) Z e91 fun _ hS2=>?_;exfalso;omega
  refine Sr<|qax Z Z Z<|At Z Z<|?_;refine qaa Z ?_ ?_<;>intro c96
  ·refine Zs<|Sr<|Wl 1 Y6<|qaQ Z Z<|W0 Y5<|Wb Y5<|Wl 2 Y6<|Ws Y4<|qax Z Z Z<|Nt<|?_;refine qaa Z ?_ ?_<;>intro c97;·refine Sr<|Zqm Z Z<|qbg (first:=[]) (captured:=[_,_]) Z Z Z (qbK D _ _ _ _ _ _ _ _ _ _ _ _ _ _ _ _ _ _ _ hsm _ a ba oa _ _ (hca.le e5) ha.tgt) ?_;rintro _ _ s98 h98 ⟨rfl,rfl⟩;refine Nt<|Zo<|Zu<|Zc<|?_;refine rR [_,_] _ (.nil) Z (e5.t h98) fun _ hS2=>?_;exfalso;omega
   obtain ⟨bi,oi,xi,rfl,hxi,hci⟩:=Bts.at_ (hI.le e5) (show 0 < ni by omega);refine Zk<|Zt<|Sr<|Zqm Z Z<|Wl 1 Y6<|qaQ Z Z<|W0 Y5<|Wb Y5<|Wl 2 Y6<|qad (qdl Z Z Z Z Z Z Dc O) Z<|qad (qaq Z Z Z (hci.le (Lr D)) Z) Z<|qad (qaR Z Z Z Z Z (qfL O (by have:=xi.toNat_lt;omega))) Z<|qbg (first:=[]) (captured:=[_,_]) Z Z Z (qbK D _ _ _ _ _ _ _ _ _ _ _ _ _ _ _ _ _ _ _ hsm _ a ba oa _ _ (hca.le e5) ha.tgt) ?_;rintro _ _ s99 h99 ⟨rfl,rfl⟩;refine Nt<|qaH qac 11 Z [2] (by intro x hx;exact qas hx) fun s100 h100=>za 0 Z (Wd 1 Y5) Z<|za 1 Z (Wd 1 Y5) Z<|za 2 Z (qam Z) Z<|za 3 Z (qat Z Z Z Z) Z<|za 4 Z (We Y4) Z<|qar 5 V<|qbA Z Tt (Wd 2 Y5) Z<|za 6 Z (qi0 (j:=1) Z Z Z Z Z O) Z<|za 7 Z (qam Z) Z<|za 8 Z (qat Z Z Z Z) Z<|za 9 Z (We Y4) Z<|qar 10 V<|qbs Z Tt 2 (_::_::_::_::_::_::_::_::_::_::_::_) Z Z Z Z Z Z Z Z Z (sM (qdw (sbE _)))<|qaf V<|Zb ?_;refine qal [_,_] _ (.inl Z) (.nil) Z (e5.t h99|>.t h100) fun _ hS2=>?_;exfalso;omega
  refine Sr<|qax Z Z Z<|At Z Z<|?_;refine qaa Z ?_ ?_<;>intro c101
  ·refine Zs<|Sr<|Wl 1 Y6<|qaQ Z Z<|W0 Y5<|Wb Y5<|Wl 2 Y6<|Ws Y4<|qhn Z Z Z<|Nt<|?_;refine qaa Z ?_ ?_<;>intro c102;·refine Sr<|Wl 1 Y6<|qaQ Z Z<|W0 Y5<|Wb Y5<|qc5 2 (_::_::_::_::_::_::_::_::_::_::_::_) Z Z Z Z Z Z Z Z Z<|Nt<|Zo<|Zu<|Zc<|?_;refine rR [_,_] _ (.nil) Z e5 fun _ hS2=>?_;exfalso;omega
   refine Zk<|Zt<|qaB qac 14 Z 2 fun s103 h103=>za 0 Z (Wd 1 Y5) Z<|za 1 Z (Wd 1 Y5) Z<|za 2 Z (qam Z) Z<|za 3 Z (qat Z Z Z Z) Z<|za 4 Z (We Y4) Z<|za 6 Z (qan Z) Z<|za 7 Z (qaz (qed Z Z Z Z Z) (congrArg (Value.int .u8) (qqE hux))) Z ?_;refine qeR 5 8 V ?_ ?_;·refine qbA Z Tt (Wd 2 Y5) Z<|qar 8 V<|qbQ Z Tt [(_,_)] [_] Z Z Z Z Z Z Z Z Z fun βn s104 h104 hcn=>qar 9 V<|qbE (sz:=1) Z (by exact Tt) [_,_,_,_,_] Oq9 _ Z Z Z Z Z Z Z hO (Row.of_cells (hcn.le (Lr D)) Z Z) ⟨by simp [ti5];omega,by omega⟩ Z (fun A2 x hx _=>List.mem_append_left _ (by simp at hx ⊢;grind)) ?_;intro v1 A1 s105 h105 o1;obtain ⟨Ao1,co1,rfl,ko1,ko2⟩:=Own.slice o1;simp only [cQ9,nQ9];refine za 10 Z (qam Z) Z<|za 11 Z (qat Z Z Z Z) Z<|za 12 Z (We Y4) Z<|qar 13 V<|qbs Z Tt 2 (_::_::_::_::_::_::_::_::_::_::_::_) Z Z Z Z Z Z Z Z Z (sM (qet (sb0 _)))<|qaf V<|Zb ?_;refine qal [_,_] _ (.inl Z) (.nil) Z (e5.t h103|>.t h104|>.t h105) fun _ hS2=>?_;exfalso;omega
   refine qbQ Z Tt [(_,_)] [_] Z Z Z Z Z Z Z Z Z fun βn s106 h106 hcn=>qar 5 V<|qbA Z Tt (Wd 2 Y5) Z<|qar 9 V<|qbE (sz:=1) Z (by exact Tt) [_,_,_,_,_] Oq9 _ Z Z Z Z Z Z Z hO (Row.of_cells (hcn.le (Lr D)) Z Z) ⟨by simp [ti5];omega,by omega⟩ Z (fun A2 x hx _=>List.mem_append_left _ (by simp at hx ⊢;grind)) ?_;intro v1 A1 s107 h107 o1;obtain ⟨Ao1,co1,rfl,ko1,ko2⟩:=Own.slice o1;simp only [cQ9,nQ9];refine za 10 Z (qam Z) Z<|za 11 Z (qat Z Z Z Z) Z<|za 12 Z (We Y4) Z<|qar 13 V<|qbs Z Tt 2 (_::_::_::_::_::_::_::_::_::_::_::_) Z Z Z Z Z Z Z Z Z (sM (qet (sb0 _)))<|qaf V<|Zb ?_;refine qal [_,_] _ (.inl Z) (.nil) Z (e5.t h103|>.t h106|>.t h107) fun _ hS2=>?_;exfalso;omega
  refine Zs<|Sr<|qax Z Z Z<|At Z Z<|?_;refine qaa Z ?_ ?_<;>intro c108
  ·refine Zk<|Zt<|?_;refine qaa Z ?_ ?_<;>intro c109
   ·refine Sr<|Wl 0 Y6<|qaQ Z Z<|W0 Y5<|qad (qaq Z Z Z (hca.le e5) Z) Z<|qax Z Z Z<|Zqm Z Z<|?_;refine qai (t:=172) Z ?_ ?_<;>intro c110;·refine Wf Y4<|Wf Y4<|ZqT Z Z Z<|Nt<|Zy Z<|qaH qac 11 Z [2] (by intro x hx;exact qas hx) fun s111 h111=>za 0 Z (Wd 1 Y5) Z<|za 1 Z (Wd 1 Y5) Z<|za 2 Z (qan Z) Z<|za 3 Z (qam Z) Z<|za 4 Z (qat Z Z Z Z) Z<|za 5 Z (We Y4) Z<|qar 6 V<|qbs Z Tt 2 (_::_::_::_::_::_::_::_::_::_::_::_) Z Z Z Z Z Z Z Z Z (sM (qdw (sbE _)))<|za 7 Z (qam Z) Z<|za 8 Z (qat Z Z Z Z) Z<|za 9 Z (We Y4) Z<|qar 10 V ?_;refine qbs Z Tt 2 (_::_::_::_::_::_::_::_::_::_::_::_) Z Z Z Z Z Z Z Z Z (sM (qdw (sbE _)))<|qaf V<|Zb ?_;refine qal [_,_] _ (.inl Z) (.nil) Z (e5.t h111) fun _ hS2=>?_;exfalso;omega
    refine Zg Z Z<|Zqm Z Z<|Zg Z Z<|qax Z Z Z<|ZqF Z Z Z<|Nt<|?_;refine qaa Z ?_ ?_<;>intro c112;·refine qaH qac 11 Z [2] (by intro x hx;exact qas hx) fun s113 h113=>za 0 Z (Wd 1 Y5) Z<|za 1 Z (Wd 1 Y5) Z<|za 2 Z (qan Z) Z<|za 3 Z (qam Z) Z<|za 4 Z (qat Z Z Z Z) Z<|za 5 Z (We Y4) Z<|qar 6 V<|qbs Z Tt 2 (_::_::_::_::_::_::_::_::_::_::_::_) Z Z Z Z Z Z Z Z Z (sM (qdw (sbE _)))<|za 7 Z (qam Z) Z<|za 8 Z (qat Z Z Z Z) Z<|za 9 Z (We Y4) Z<|qar 10 V ?_;refine qbs Z Tt 2 (_::_::_::_::_::_::_::_::_::_::_::_) Z Z Z Z Z Z Z Z Z (sM (qdw (sbE _)))<|qaf V<|Zb ?_;refine qal [_,_] _ (.inl Z) (.nil) Z (e5.t h113) fun _ hS2=>?_;exfalso;omega
    refine Zk<|Zb<|?_;refine qal [_,_] _ (.inl Z) (.nil) Z e5 fun _ hS2=>?_;exfalso;omega
   refine Zr<|Zqm Z Z<|Wl 0 Y6<|qaQ Z Z<|W0 Y5<|qad (qaq Z Z Z (hca.le e5) Z) Z<|Zqm Z Z<|Zqm Z Z<|Je Z Z Z (qb5 D _ _ _ _ _ hux huy (by have:=ha.kind;omega)) fun s114 h114=>qbg (first:=[]) (captured:=[_,_]) Z Z Z (qbK D _ _ _ _ _ _ _ _ _ _ _ _ _ _ _ _ _ _ _ hsm _ a ba oa _ _ (hca.le (e5.t h114)) ha.tgt) ?_;rintro _ _ s115 h115 ⟨rfl,rfl⟩;refine Zn<|Zb<|?_;refine qal [_,_] _ (.inl Z) (.nil) Z (e5.t h114|>.t h115) fun _ hS2=>?_;exfalso;omega
  refine Zr<|qax Z Z Z<|At Z Z<|?_;refine qaa Z ?_ ?_<;>intro c116
  ·refine Sr<|Wl 0 Y6<|qaQ Z Z<|W0 Y5<|qad (qaq Z Z Z (hca.le e5) Z) Z<|qax Z Z Z<|Zqm Z Z<|?_;refine qai (t:=172) Z ?_ ?_<;>intro c117;·refine Wf Y4<|Wf Y4<|ZqT Z Z Z<|Nt<|Zy Z<|qaH qac 11 Z [2] (by intro x hx;exact qas hx) fun s118 h118=>za 0 Z (Wd 1 Y5) Z<|za 1 Z (Wd 1 Y5) Z<|za 2 Z (qan Z) Z<|za 3 Z (qam Z) Z<|za 4 Z (qat Z Z Z Z) Z<|za 5 Z (We Y4) Z<|qar 6 V<|qbs Z Tt 2 (_::_::_::_::_::_::_::_::_::_::_::_) Z Z Z Z Z Z Z Z Z (sM (qdw (sbE _)))<|za 7 Z (qam Z) Z<|za 8 Z (qat Z Z Z Z) Z<|za 9 Z (We Y4) Z<|qar 10 V ?_;refine qbs Z Tt 2 (_::_::_::_::_::_::_::_::_::_::_::_) Z Z Z Z Z Z Z Z Z (sM (qdw (sbE _)))<|qaf V<|Zb ?_;refine qal [_,_] _ (.inl Z) (.nil) Z (e5.t h118) fun _ hS2=>?_;exfalso;omega
   refine Zg Z Z<|Zqm Z Z<|Zg Z Z<|qax Z Z Z<|ZqF Z Z Z<|Nt<|?_;refine qaa Z ?_ ?_<;>intro c119;·refine qaH qac 11 Z [2] (by intro x hx;exact qas hx) fun s120 h120=>za 0 Z (Wd 1 Y5) Z<|za 1 Z (Wd 1 Y5) Z<|za 2 Z (qan Z) Z<|za 3 Z (qam Z) Z<|za 4 Z (qat Z Z Z Z) Z<|za 5 Z (We Y4) Z<|qar 6 V<|qbs Z Tt 2 (_::_::_::_::_::_::_::_::_::_::_::_) Z Z Z Z Z Z Z Z Z (sM (qdw (sbE _)))<|za 7 Z (qam Z) Z<|za 8 Z (qat Z Z Z Z) Z<|za 9 Z (We Y4) Z<|qar 10 V ?_;refine qbs Z Tt 2 (_::_::_::_::_::_::_::_::_::_::_::_) Z Z Z Z Z Z Z Z Z (sM (qdw (sbE _)))<|qaf V<|Zb ?_;refine qal [_,_] _ (.inl Z) (.nil) Z (e5.t h120) fun _ hS2=>?_;exfalso;omega
   refine Zk<|Zb<|?_;refine qal [_,_] _ (.inl Z) (.nil) Z e5 fun _ hS2=>?_;exfalso;omega
  refine Zr<|Zqm Z Z<|Wl 0 Y6<|qaQ Z Z<|W0 Y5<|qad (qaq Z Z Z (hca.le e5) Z) Z<|Zqm Z Z<|Zqm Z Z<|Je Z Z Z (qb5 D _ _ _ _ _ hux huy (by have:=ha.kind;omega)) fun s121 h121=>qbg (first:=[]) (captured:=[_,_]) Z Z Z (qbK D _ _ _ _ _ _ _ _ _ _ _ _ _ _ _ _ _ _ _ hsm _ a ba oa _ _ (hca.le (e5.t h121)) ha.tgt) ?_;rintro _ _ s122 h122 ⟨rfl,rfl⟩;refine Zn<|Zb<|?_;refine qal [_,_] _ (.inl Z) (.nil) Z (e5.t h121|>.t h122) fun _ hS2=>?_;exfalso;omega
 refine Zr<|qax Z Z Z<|At Z Z<|?_;refine qaa Z ?_ ?_<;>intro c123
 ·refine Zp<|Sr<|Wl 1 Y6<|Zqm Z Z<|Jc Z Z Z (AC.mid [_,_] [_] _ (qdJ D _ _ _ _ _ _ _ _ _ _ _ _ _ _ _ _ _ _ _ hsm _ hux hnc)) ?_;rintro _ _ s124 h124 ⟨_,rfl,rfl,rfl⟩;have e124:=e5.t h124;simp only [cQ9,nQ9];refine qbF Z Z<|At Z Z<|?_;refine qaM Z ?_ ?_<;>intro c125;·refine Zr<|Wl 1 Y6<|qaQ Z Z<|W0 Y5<|Wb Y5<|qc5 2 (_::_::_::_::_::_::_::_::_::_::_::_) Z Z Z Z Z Z Z Z Z<|Zn<|Zb<|Zb<|?_;refine qal [_,_] _ (.inl Z) (.nil) Z e124 fun _ hS2=>?_;refine ⟨_::_::_::Oq9,Z,Z,?_⟩;rw [qql As As];exact ⟨bc,cc,yc,Oq9,Ao,co,Ai,ni,ci,rfl,hO,hI.le (e124|>.t hS2),hcc,hcc2⟩
  refine Sr<|Wl 0 Y6<|qaQ Z Z<|W0 Y5<|qad (qaq Z Z Z (hca.le e124) Z) Z<|qax Z Z Z<|At Z Z<|?_;refine qaa Z ?_ ?_<;>intro c126;·refine Zr<|Zqm Z Z<|Wl 1 Y6<|qaQ Z Z<|W0 Y5<|W0 Y5<|Wl 2 Y6<|Zqm Z Z<|qad (qdl Z Z Z Z Z Z hux1 As) Z<|qad (qca 3 Z Z Z Z (qe4 hux1 As)) Z<|qbg (first:=[]) (captured:=[_,_]) Z Z Z (qbK D _ _ _ _ _ _ _ _ _ _ _ _ _ _ _ _ _ _ _ hsm _ a ba oa _ _ (hca.le e124) ha.tgt) ?_;rintro _ _ s127 h127 ⟨rfl,rfl⟩;refine Zn<|Zb<|Zb<|?_;refine qal [_,_] _ (.inl Z) (.nil) Z (e124.t h127) fun _ hS2=>?_;exfalso;omega
  refine Zr<|Wl 1 Y6<|qaQ Z Z<|W0 Y5<|W0 Y5<|Wl 2 Y6<|Zqm Z Z<|Zqm Z Z<|qad (qdl Z Z Z Z Z Z hux1 As) Z<|qc5 3 _ Z Z Z Z Z (qgR hux1 As) Z (qhf _ hux1 As) Z<|Zn<|Zb<|Zb<|?_;refine qal [_,_] _ (.inl Z) (.nil) Z e124 fun _ hS2=>?_;refine ⟨_::_::_::Oq9,Z,Z,?_⟩;rw [qu0 As As];exact ⟨bc,cc,yc,Oq9,Ao,co,Ai,ni,ci,by simp,hO,hI.le (e124|>.t hS2),by simp;exact hcc,hcc2⟩
 refine Sr<|qax Z Z Z<|At Z Z<|?_;refine qaa Z ?_ ?_<;>intro c129
 ·refine Zs<|Sr<|Wl 1 Y6<|qaQ Z Z<|W0 Y5<|Wb Y5<|Wl 2 Y6<|Ws Y4<|qax Z Z Z<|Nt<|?_;refine qaa Z ?_ ?_<;>intro c130;·refine Sr<|Zqm Z Z<|qbg (first:=[]) (captured:=[_,_]) Z Z Z (qbK D _ _ _ _ _ _ _ _ _ _ _ _ _ _ _ _ _ _ _ hsm _ a ba oa _ _ (hca.le e5) ha.tgt) ?_;rintro _ _ s131 h131 ⟨rfl,rfl⟩;refine Nt<|Zo<|Zu<|Zc<|?_;refine rR [_,_] _ (.nil) Z (e5.t h131) fun _ hS2=>?_;refine ⟨_::_::_::Oq9,Z,Z,?_⟩;have hi0:m.input=[]:=List.eq_nil_of_length_eq_zero O;rw [qqm As hi0];exact ⟨bc,cc,yc,Oq9,Ao,co,Ai,ni,ci,rfl,hO,hI.le (e5.t h131|>.t hS2),hcc,hcc2⟩
  obtain ⟨bi,oi,xi,rfl,hxi,hci⟩:=Bts.at_ (hI.le e5) (show 0 < ni by omega);refine Zk<|Zt<|Sr<|Zqm Z Z<|Wl 1 Y6<|qaQ Z Z<|W0 Y5<|Wb Y5<|Wl 2 Y6<|qad (qdl Z Z Z Z Z Z Dc O) Z<|qad (qaq Z Z Z (hci.le (Lr D)) Z) Z<|qad (qaR Z Z Z Z Z (qfL O (by have:=xi.toNat_lt;omega))) Z<|qbg (first:=[]) (captured:=[_,_]) Z Z Z (qbK D _ _ _ _ _ _ _ _ _ _ _ _ _ _ _ _ _ _ _ hsm _ a ba oa _ _ (hca.le e5) ha.tgt) ?_;rintro _ _ s132 h132 ⟨rfl,rfl⟩;refine Nt<|qaH qac 11 Z [2] (by intro x hx;exact qas hx) fun s133 h133=>za 0 Z (Wd 1 Y5) Z<|za 1 Z (Wd 1 Y5) Z<|za 2 Z (qam Z) Z<|za 3 Z (qat Z Z Z Z) Z<|za 4 Z (We Y4) Z<|qar 5 V<|qbA Z Tt (Wd 2 Y5) Z<|za 6 Z (qi0 (j:=1) Z Z Z Z Z O) Z<|za 7 Z (qam Z) Z<|za 8 Z (qat Z Z Z Z) Z<|za 9 Z (We Y4) Z<|qar 10 V<|qbs Z Tt 2 (_::_::_::_::_::_::_::_::_::_::_::_) Z Z Z Z Z Z Z Z Z (sM (qdw (sbE _)))<|qaf V<|Zb ?_;refine qal [_,_] _ (.inl Z) (.nil) Z (e5.t h132|>.t h133) fun _ hS2=>?_;refine ⟨_::_::_::Oq9,Z,Z,?_⟩;obtain ⟨r,hr⟩:=qg2 hxi;rw [qu1 As hr];rw [hr] at hI;exact ⟨bc,cc,yc,Oq9,Ao,co,_,_,_,rfl,hO,(Bts.tail hI).le (e5.t h132|>.t h133|>.t hS2),hcc,hcc2⟩
 refine Sr<|qax Z Z Z<|At Z Z<|?_;refine qaa Z ?_ ?_<;>intro c134
 ·refine Zs<|Sr<|Wl 1 Y6<|qaQ Z Z<|W0 Y5<|Wb Y5<|Wl 2 Y6<|Ws Y4<|qhn Z Z Z<|Nt<|?_;refine qaa Z ?_ ?_<;>intro c135;·refine Sr<|Wl 1 Y6<|qaQ Z Z<|W0 Y5<|Wb Y5<|qc5 2 (_::_::_::_::_::_::_::_::_::_::_::_) Z Z Z Z Z Z Z Z Z<|Nt<|Zo<|Zu<|Zc<|?_;refine rR [_,_] _ (.nil) Z e5 fun _ hS2=>?_;refine ⟨_::_::_::Oq9,Z,Z,?_⟩;rw [qqn As hok O];exact ⟨bc,cc,yc,Oq9,Ao,co,Ai,ni,ci,rfl,hO,hI.le (e5|>.t hS2),hcc,hcc2⟩
  refine Zk<|Zt<|qaB qac 14 Z 2 fun s136 h136=>za 0 Z (Wd 1 Y5) Z<|za 1 Z (Wd 1 Y5) Z<|za 2 Z (qam Z) Z<|za 3 Z (qat Z Z Z Z) Z<|za 4 Z (We Y4) Z<|za 6 Z (qan Z) Z<|za 7 Z (qaz (qed Z Z Z Z Z) (congrArg (Value.int .u8) (qqE hux))) Z ?_;have e136:=e5.t h136;refine qeR 5 8 V ?_ ?_
  ·refine qbA Z Tt (Wd 2 Y5) Z<|qar 8 V<|qbQ Z Tt [(_,_)] [_] Z Z Z Z Z Z Z Z Z fun βn s137 h137 hcn=>qar 9 V<|qbE (sz:=1) Z (by exact Tt) [_,_,_,_,_] Oq9 _ Z Z Z Z Z Z Z hO (Row.of_cells (hcn.le (Lr D)) Z Z) ⟨by simp [ti5];omega,by omega⟩ Z (fun A2 x hx _=>List.mem_append_left _ (by simp at hx ⊢;grind)) ?_;intro v1 A1 s138 h138 o1;obtain ⟨Ao1,co1,rfl,ko1,ko2⟩:=Own.slice o1;simp only [cQ9,nQ9];refine za 10 Z (qam Z) Z<|za 11 Z (qat Z Z Z Z) Z<|za 12 Z (We Y4) Z<|qar 13 V<|qbs Z Tt 2 (_::_::_::_::_::_::_::_::_::_::_::_) Z Z Z Z Z Z Z Z Z (sM (qet (sb0 _)))<|qaf V<|Zb ?_;refine qal [_,_] _ (.inl Z) (.nil) Z (e136.t h137|>.t h138) fun _ hS2=>?_;refine ⟨_::_::_::A1,Z,Z,?_⟩;rw [qny As O];have hb:bv (m.output++[UInt8.ofNat ((qdj m op a.x).toNat % 256)])=bv m.output++[Value.int .u8 ((UInt8.ofNat ((qdj m op a.x).toNat % 256)).toNat:Int)]:=by simp [bv]
   exact ⟨bc,cc,yc,A1,Ao1,co1,Ai,ni,ci,by simp,by simpa [hb] using o1,hI.le (e136.t h137|>.t h138|>.t hS2),hcc,hcc2⟩
  refine qbQ Z Tt [(_,_)] [_] Z Z Z Z Z Z Z Z Z fun βn s139 h139 hcn=>qar 5 V<|qbA Z Tt (Wd 2 Y5) Z<|qar 9 V<|qbE (sz:=1) Z (by exact Tt) [_,_,_,_,_] Oq9 _ Z Z Z Z Z Z Z hO (Row.of_cells (hcn.le (Lr D)) Z Z) ⟨by simp [ti5];omega,by omega⟩ Z (fun A2 x hx _=>List.mem_append_left _ (by simp at hx ⊢;grind)) ?_;intro v1 A1 s140 h140 o1;obtain ⟨Ao1,co1,rfl,ko1,ko2⟩:=Own.slice o1;simp only [cQ9,nQ9];refine za 10 Z (qam Z) Z<|za 11 Z (qat Z Z Z Z) Z<|za 12 Z (We Y4) Z<|qar 13 V<|qbs Z Tt 2 (_::_::_::_::_::_::_::_::_::_::_::_) Z Z Z Z Z Z Z Z Z (sM (qet (sb0 _)))<|qaf V<|Zb ?_;refine qal [_,_] _ (.inl Z) (.nil) Z (e136.t h139|>.t h140) fun _ hS2=>?_;refine ⟨_::_::_::A1,Z,Z,?_⟩;rw [qny As O];have hb:bv (m.output++[UInt8.ofNat ((qdj m op a.x).toNat % 256)])=bv m.output++[Value.int .u8 ((UInt8.ofNat ((qdj m op a.x).toNat % 256)).toNat:Int)]:=by simp [bv]
  exact ⟨bc,cc,yc,A1,Ao1,co1,Ai,ni,ci,by simp,by simpa [hb] using o1,hI.le (e136.t h139|>.t h140|>.t hS2),hcc,hcc2⟩
 refine Zs<|Sr<|qax Z Z Z<|At Z Z<|?_;refine qaa Z ?_ ?_<;>intro c141
 ·refine Zk<|Zt<|?_;refine qaa Z ?_ ?_<;>intro c142
  ·refine Sr<|Wl 0 Y6<|qaQ Z Z<|W0 Y5<|qad (qaq Z Z Z (hca.le e5) Z) Z<|qax Z Z Z<|Zqm Z Z<|?_;refine qai (t:=172) Z ?_ ?_<;>intro c143;·refine Wf Y4<|Wf Y4<|ZqT Z Z Z<|Nt<|Zy Z<|qaH qac 11 Z [2] (by intro x hx;exact qas hx) fun s144 h144=>za 0 Z (Wd 1 Y5) Z<|za 1 Z (Wd 1 Y5) Z<|za 2 Z (qan Z) Z<|za 3 Z (qam Z) Z<|za 4 Z (qat Z Z Z Z) Z<|za 5 Z (We Y4) Z<|qar 6 V<|qbs Z Tt 2 (_::_::_::_::_::_::_::_::_::_::_::_) Z Z Z Z Z Z Z Z Z (sM (qdw (sbE _)))<|za 7 Z (qam Z) Z<|za 8 Z (qat Z Z Z Z) Z<|za 9 Z (We Y4) Z<|qar 10 V ?_;refine qbs Z Tt 2 (_::_::_::_::_::_::_::_::_::_::_::_) Z Z Z Z Z Z Z Z Z (sM (qdw (sbE _)))<|qaf V<|Zb ?_;refine qal [_,_] _ (.inl Z) (.nil) Z (e5.t h144) fun _ hS2=>?_;refine ⟨_::_::_::Oq9,Z,Z,?_⟩;rw [qu2 As];exact ⟨bc,cc,yc,Oq9,Ao,co,Ai,ni,ci,rfl,hO,hI.le (e5.t h144|>.t hS2),hcc,hcc2⟩
   refine Zg Z Z<|Zqm Z Z<|Zg Z Z<|qax Z Z Z<|ZqF Z Z Z<|Nt<|?_;refine qaa Z ?_ ?_<;>intro c145;·refine qaH qac 11 Z [2] (by intro x hx;exact qas hx) fun s146 h146=>za 0 Z (Wd 1 Y5) Z<|za 1 Z (Wd 1 Y5) Z<|za 2 Z (qan Z) Z<|za 3 Z (qam Z) Z<|za 4 Z (qat Z Z Z Z) Z<|za 5 Z (We Y4) Z<|qar 6 V<|qbs Z Tt 2 (_::_::_::_::_::_::_::_::_::_::_::_) Z Z Z Z Z Z Z Z Z (sM (qdw (sbE _)))<|za 7 Z (qam Z) Z<|za 8 Z (qat Z Z Z Z) Z<|za 9 Z (We Y4) Z<|qar 10 V ?_;refine qbs Z Tt 2 (_::_::_::_::_::_::_::_::_::_::_::_) Z Z Z Z Z Z Z Z Z (sM (qdw (sbE _)))<|qaf V<|Zb ?_;refine qal [_,_] _ (.inl Z) (.nil) Z (e5.t h146) fun _ hS2=>?_;exfalso;omega
   refine Zk<|Zb<|?_;refine qal [_,_] _ (.inl Z) (.nil) Z e5 fun _ hS2=>?_;exfalso;omega
  refine Zr<|Zqm Z Z<|Wl 0 Y6<|qaQ Z Z<|W0 Y5<|qad (qaq Z Z Z (hca.le e5) Z) Z<|Zqm Z Z<|Zqm Z Z<|Je Z Z Z (qb5 D _ _ _ _ _ hux huy (by have:=ha.kind;omega)) fun s147 h147=>qbg (first:=[]) (captured:=[_,_]) Z Z Z (qbK D _ _ _ _ _ _ _ _ _ _ _ _ _ _ _ _ _ _ _ hsm _ a ba oa _ _ (hca.le (e5.t h147)) ha.tgt) ?_;rintro _ _ s148 h148 ⟨rfl,rfl⟩;refine Zn<|Zb<|?_;refine qal [_,_] _ (.inl Z) (.nil) Z (e5.t h147|>.t h148) fun _ hS2=>?_;exfalso;omega
 refine Zr<|qax Z Z Z<|At Z Z<|?_;refine qaa Z ?_ ?_<;>intro c149
 ·refine Sr<|Wl 0 Y6<|qaQ Z Z<|W0 Y5<|qad (qaq Z Z Z (hca.le e5) Z) Z<|qax Z Z Z<|Zqm Z Z<|?_;refine qai (t:=172) Z ?_ ?_<;>intro c150;·refine Wf Y4<|Wf Y4<|ZqT Z Z Z<|Nt<|Zy Z<|qaH qac 11 Z [2] (by intro x hx;exact qas hx) fun s151 h151=>za 0 Z (Wd 1 Y5) Z<|za 1 Z (Wd 1 Y5) Z<|za 2 Z (qan Z) Z<|za 3 Z (qam Z) Z<|za 4 Z (qat Z Z Z Z) Z<|za 5 Z (We Y4) Z<|qar 6 V<|qbs Z Tt 2 (_::_::_::_::_::_::_::_::_::_::_::_) Z Z Z Z Z Z Z Z Z (sM (qdw (sbE _)))<|za 7 Z (qam Z) Z<|za 8 Z (qat Z Z Z Z) Z<|za 9 Z (We Y4) Z<|qar 10 V ?_;refine qbs Z Tt 2 (_::_::_::_::_::_::_::_::_::_::_::_) Z Z Z Z Z Z Z Z Z (sM (qdw (sbE _)))<|qaf V<|Zb ?_;refine qal [_,_] _ (.inl Z) (.nil) Z (e5.t h151) fun _ hS2=>?_;exfalso;omega
  refine Zg Z Z<|Zqm Z Z<|Zg Z Z<|qax Z Z Z<|ZqF Z Z Z<|Nt<|?_;refine qaa Z ?_ ?_<;>intro c152;·refine qaH qac 11 Z [2] (by intro x hx;exact qas hx) fun s153 h153=>za 0 Z (Wd 1 Y5) Z<|za 1 Z (Wd 1 Y5) Z<|za 2 Z (qan Z) Z<|za 3 Z (qam Z) Z<|za 4 Z (qat Z Z Z Z) Z<|za 5 Z (We Y4) Z<|qar 6 V<|qbs Z Tt 2 (_::_::_::_::_::_::_::_::_::_::_::_) Z Z Z Z Z Z Z Z Z (sM (qdw (sbE _)))<|za 7 Z (qam Z) Z<|za 8 Z (qat Z Z Z Z) Z<|za 9 Z (We Y4) Z<|qar 10 V ?_;refine qbs Z Tt 2 (_::_::_::_::_::_::_::_::_::_::_::_) Z Z Z Z Z Z Z Z Z (sM (qdw (sbE _)))<|qaf V<|Zb ?_;refine qal [_,_] _ (.inl Z) (.nil) Z (e5.t h153) fun _ hS2=>?_;refine ⟨_::_::_::Oq9,Z,Z,?_⟩;rw [qu3 As As];exact ⟨bc,cc,yc,Oq9,Ao,co,Ai,ni,ci,rfl,hO,hI.le (e5.t h153|>.t hS2),hcc,hcc2⟩
  refine Zk<|Zb<|?_;refine qal [_,_] _ (.inl Z) (.nil) Z e5 fun _ hS2=>?_;refine ⟨_::_::_::Oq9,Z,Z,?_⟩;rw [qqo As As];exact ⟨bc,cc,yc,Oq9,Ao,co,Ai,ni,ci,rfl,hO,hI.le (e5|>.t hS2),hcc,hcc2⟩
 refine Zr<|Zqm Z Z<|Wl 0 Y6<|qaQ Z Z<|W0 Y5<|qad (qaq Z Z Z (hca.le e5) Z) Z<|Zqm Z Z<|Zqm Z Z<|Je Z Z Z (qb5 D _ _ _ _ _ hux huy (by have:=ha.kind;omega)) fun s154 h154=>qbg (first:=[]) (captured:=[_,_]) Z Z Z (qbK D _ _ _ _ _ _ _ _ _ _ _ _ _ _ _ _ _ _ _ hsm _ a ba oa _ _ (hca.le (e5.t h154)) ha.tgt) ?_;rintro _ _ s155 h155 ⟨rfl,rfl⟩;refine Zn<|Zb<|?_;refine qal [_,_] _ (.inl Z) (.nil) Z (e5.t h154|>.t h155) fun _ hS2=>?_;refine ⟨_::_::_::Oq9,Z,Z,?_⟩;rw [qqj (by have:=ha.kind;omega)];exact ⟨bc,cc,yc,Oq9,Ao,co,Ai,ni,ci,rfl,hO,hI.le (e5.t h154|>.t h155|>.t hS2),hcc,hcc2⟩
end Go.Proofs.YtflplmcjbppfcaaGreatDoor
namespace Go.Proofs.YtflplmcjbppfcaaGreatDoor
open Go Go.FL
structure TabG(t:Tab):Prop where
 cells:1≤t.cells∧t.cells≤65536
 len:t.ins.length≤64
 codes:∀ (i j:Nat) (x y:Ins),t.ins[i]?=some x→t.ins[j]?=some y→x.code=y.code→i=j
 acts:∀ (i:Nat) (x:Ins) (a:Ac),t.ins[i]?=some x→a∈x.acts→AcOK a∧(x.operand=false→a.x.kind≠2∧a.y.kind≠2)
 few:∀ (i:Nat) (x:Ins),t.ins[i]?=some x→x.acts.length≤8
def qjx{f:Nat→Int}{m j:Nat}(h:(qb1 f m j).1=0):∀ i,j≤i→i < j+m→f i=0:=by
  induction m generalizing j with
  | zero=>intro i h1 h2;omega
  | succ m ih=>
    simp only [qb1] at h;split at h
    · contradiction
    · rename_i h0
      simp at h0;intro i h1 h2;rcases Nat.eq_or_lt_of_le h1 with rfl|h3
      · exact h0
      · exact ih h i h3 O
def qkt{α:Type}{f:α→Int}{l:List α}(h:qdV (l.map f)=0):∀ a∈l,f a=0:=by
  induction l with
  | nil=>intro a ha;cases ha
  | cons x l ih=>
    simp only [List.map_cons,qdV] at h;split at h
    · contradiction
    · rename_i h0
      simp at h0;intro a ha;rcases List.mem_cons.1 ha with rfl|ha
      · exact h0
      · exact ih h a ha
def Inss.u32{s:World}{A:Option Addr}{n c:Nat}{l:List Ins}(h:Inss s A n c l){i:Nat}{x:Ins}{a:Ac}(hi:l[i]?=some x)(ha:a∈x.acts):U32 a.x.val∧U32 a.y.val:=by
 obtain ⟨b,off,cs,h1,h2,h3,A',n',c',rfl,h5,h6⟩:=h.2.2.2 i x hi;obtain ⟨j,hj⟩:=List.getElem?_of_mem ha;obtain ⟨_,_,_,_,_,_,_,h7⟩:=h5.2.2.2 j a hj;exact h7
def qpJ{x:Tm}{u o:Bool}(h:qm5 x u o=true):(x.kind=1→x.val≤4)∧(o=false→x.kind≠2):=by
 unfold qm5 at h;cases u<;>cases o<;>simp at h ⊢<;>omega
def qAo{t:Tab}{s:World}{A:Option Addr}{n c:Nat}(hX:Inss s A n c t.ins)(h:(qaO t).1=0):TabG t:=by
  unfold qaO at h;split at h
  · cases h
  rename_i h1;split at h
  · cases h
  rename_i h2;have hr:=qjx h;have hrow:∀ (i:Nat) (x:Ins),t.ins[i]?=some x→qcs x=0∧(t.ins.take i).any (qe5 x)=false:=fun i x hi=>by
    have hl:i < t.ins.length:=(List.getElem?_eq_some_iff.1 hi).1;have:=hr i (Nat.zero_le _) O;simp only [qdd,hi] at this;split at this
    · contradiction
    · rename_i h0
      simp at h0;refine ⟨h0,?_⟩;split at this
      · cases this
      · rename_i h3;simpa using h3
  refine ⟨by omega,by omega,?_,?_,?_⟩
  · have key:∀ (i j:Nat) (x y:Ins),i < j→t.ins[i]?=some x→t.ins[j]?=some y→x.code≠y.code:=fun i j x y hij hi hj he=>by
      have:=(hrow j y hj).2;rw [List.any_eq_false] at this;have hx:x∈t.ins.take j:=List.mem_of_getElem? (i:=i) (by rw [List.getElem?_take,if_pos hij];exact hi);have:=this x hx;simp [qe5,he] at this
    intro i j x y hi hj he;rcases Nat.lt_trichotomy i j with h|h|h
    · exact absurd he (key i j x y h hi hj)
    · exact h
    · exact absurd he.symm (key j i y x h hj hi)
  · intro i x a hi ha
    obtain ⟨hu1,hu2⟩:=Inss.u32 hX hi ha;have hc:=(hrow i x hi).1;unfold qcs at hc;split at hc
    · cases hc
    split at hc
    · cases hc
    have hac:=qkt hc a ha;unfold qeW at hac;split at hac
    · cases hac
    split at hac
    · cases hac
    split at hac
    · cases hac
    rename_i k1 k2 k3;simp only [Bool.or_eq_true,not_or,Bool.not_eq_true',Bool.not_eq_false] at k3;have hx:=qpJ k3.1.2;have hy:=qpJ k3.2;exact ⟨⟨by omega,by omega,fun e=>⟨hu1.1,hx.1 e⟩,fun e=>⟨hu2.1,hy.1 e⟩,hu1,hu2⟩,fun e=>⟨hx.2 e,hy.2 e⟩⟩
  · intro i x hi
    have hc:=(hrow i x hi).1;unfold qcs at hc;split at hc
    · cases hc
    split at hc
    · cases hc
    omega
def qwb(ins:List Ins)(c:Int)(k:Nat):qfb ins c k≤k:=by
 induction k with
 | zero=>exact Nat.le_refl _
 | succ k ih=>simp only [qfb];split<;>(try split)<;>omega
def qo1{ins:List Ins}{c:Int}{k:Nat}(h:qfb ins c k=0):∀ i x,i < k→ins[i]?=some x→x.code≠c:=by
  induction k with
  | zero=>intro i x hi;omega
  | succ k ih=>
    intro i x hi hx;simp only [qfb] at h;cases hk:ins[k]? with
    | none=>
      rw [hk] at h;by_cases e:i=k
      · subst e;rw [hk] at hx;cases hx
      · exact ih h i x O hx
    | some y=>
      rw [hk] at h;simp only at h;split at h
      · omega
      · rename_i hy
        by_cases e:i=k
        · subst e;rw [hk] at hx;injection hx with hx;subst hx;exact hy
        · exact ih h i x O hx
def qrF{ins:List Ins}{c:Int}{k:Nat}(h:qfb ins c k≠0):∃ x,ins[qfb ins c k - 1]?=some x∧x.code=c:=by
 induction k with
 | zero=>exact absurd rfl h
 | succ k ih=>
  simp only [qfb] at h ⊢;cases hk:ins[k]? with
  | none=>simp only [hk] at h ⊢;exact ih h
  | some y=>
   simp only [hk] at h ⊢;by_cases hy:y.code=c
   · simp only [hy,if_true];exact ⟨y,hk,hy⟩
   · simp only [hy,if_false] at h ⊢;exact ih h
def qmv{ins:List Ins}{c:Int}(h:∀ i x,i < ins.length→ins[i]?=some x→x.code≠c):qin ins c=none:=by
 unfold qin;rw [List.find?_eq_none];intro x hx;obtain ⟨i,hi⟩:=List.getElem?_of_mem hx;have:=h i x (List.getElem?_eq_some_iff.1 hi).1 hi;simp [this]
def qmw{t:Tab}(hG:TabG t){c:Int}{p:Nat}{x:Ins}(hx:t.ins[p]?=some x)(hc:x.code=c):qin t.ins c=some x:=by
 unfold qin;cases hf:t.ins.find? (fun x=>decide (x.code=c)) with
 | none=>
  rw [List.find?_eq_none] at hf;have:=hf x (List.mem_of_getElem? hx);simp [hc] at this
 | some y=>
  have h1:=List.find?_some hf;obtain ⟨j,hj⟩:=List.getElem?_of_mem (List.mem_of_find?_eq_some hf);have:=hG.codes p j x y hx hj (by rw [hc];simpa using (of_decide_eq_true h1).symm);subst this;rw [hx] at hj;exact hj.symm
def qiH{m:Mst}(h:MOK m){i v:Int}(hv:U32 v):MOK (qf5 m i v):=by
 refine ⟨h.cells,h.wide,?_,?_,?_,?_,?_,h.output,h.input,h.code⟩<;>simp only [qf5]<;>split<;>first|exact hv|exact h.u0|exact h.u1|exact h.u2|exact h.u3|exact h.u4
def qvC{k x y:Int}(hx:U32 x)(hy:U32 y):U32 (comp k x y):=by
  obtain ⟨x1,x2⟩:=hx;obtain ⟨y1,y2⟩:=hy;have hX:x.toNat < 2 ^ 32:=by omega
  have hY:y.toNat < 2 ^ 32:=by omega
  have a1:=Nat.and_lt_two_pow x.toNat hY;have a2:=Nat.or_lt_two_pow hX hY;have a3:=Nat.xor_lt_two_pow hX hY;have a4:x.toNat >>> y.toNat≤x.toNat:=Nat.shiftRight_le _ _;have d1:0≤x / y:=Int.ediv_nonneg x1 y1;have d2:x / y≤x:=Int.ediv_le_self _ x1;have e1:0≤x % y∧x % y≤x:=by
    by_cases h0:y=0
    · subst h0;simp;omega
    · exact ⟨Int.emod_nonneg x h0,by have:=Int.emod_add_mul_ediv x y;have:0≤y * (x / y):=Int.mul_nonneg y1 d1;omega⟩
  unfold comp w32;by_cases h1:k=1
  · rw [if_pos h1];unfold U32;omega
  rw [if_neg h1];by_cases h2:k=2
  · rw [if_pos h2];unfold U32;omega
  rw [if_neg h2];by_cases h3:k=3
  · rw [if_pos h3];unfold U32;omega
  rw [if_neg h3];by_cases h4:k=4
  · rw [if_pos h4];unfold U32;omega
  rw [if_neg h4];by_cases h5:k=5
  · rw [if_pos h5];unfold U32;omega
  rw [if_neg h5];by_cases h6:k=6
  · rw [if_pos h6];unfold U32;omega
  rw [if_neg h6];by_cases h7:k=7
  · rw [if_pos h7];unfold U32;omega
  rw [if_neg h7];by_cases h8:k=8
  · rw [if_pos h8];unfold U32;omega
  rw [if_neg h8];by_cases h9:k=9
  · rw [if_pos h9];unfold U32;omega
  rw [if_neg h9];by_cases h10:k=10
  · rw [if_pos h10];clear a1 a2 a3;generalize x.toNat >>> y.toNat=z at a4 ⊢;unfold U32;omega
  rw [if_neg h10];by_cases h11:k=11
  · rw [if_pos h11];by_cases e:x=y
    · rw [if_pos e];exact ⟨by decide,by decide⟩
    · rw [if_neg e];exact ⟨by decide,by decide⟩
  rw [if_neg h11];by_cases h12:k=12
  · rw [if_pos h12];by_cases e:x < y
    · rw [if_pos e];exact ⟨by decide,by decide⟩
    · rw [if_neg e];exact ⟨by decide,by decide⟩
  rw [if_neg h12];exact ⟨x1,x2⟩
def qnz{m:Mst}(h:MOK m){a:Ac}(ha:AcOK a){op:Int}(ho:U32 op):MOK (qcc m a op):=by
  have hx:=qh9 h ho ha.ux;have hy:=qh9 h ho ha.uy;unfold qcc;simp only;repeat' split
  all_goals first
    | exact h
    | exact ⟨h.cells,h.wide,h.u0,h.u1,h.u2,h.u3,h.u4,h.output,h.input,h.code⟩
    | exact qiH h (qvC hx hy)
    | exact qiH h ⟨by decide,by decide⟩
    | exact ⟨h.cells,h.wide,h.u0,h.u1,h.u2,h.u3,h.u4,h.output,h.input,hx⟩
    | skip
  · refine qiH h ?_
    by_cases hl:(qdj m op a.x).toNat < m.cells.length
    · simp only [List.getD,List.getElem?_eq_getElem hl,Option.getD_some]
      exact h.wide _ (List.getElem_mem hl)
    · simp [List.getD,List.getElem?_eq_none (Nat.le_of_not_lt hl)];exact ⟨by decide,by decide⟩
  · refine ⟨by simpa using h.cells,fun x hx=>?_,h.u0,h.u1,h.u2,h.u3,h.u4,h.output,h.input,h.code⟩
    rcases List.mem_or_eq_of_mem_set hx with h1|h1
    · exact h.wide x h1
    · rw [h1];exact hy
  · rename_i c r hi
    have hu:U32 (c.toNat:Int):=⟨by omega,by have:=c.toNat_lt;omega⟩;have h2:=qiH (i:=a.tgt) h hu;have h3:=h.input;rw [hi] at h3;exact ⟨h2.cells,h2.wide,h2.u0,h2.u1,h2.u2,h2.u3,h2.u4,h2.output,by simp at h3;show r.length≤400000;omega,h2.code⟩
  · rename_i k1 _ _ _ k2
    have h1:=h.output;refine ⟨h.cells,h.wide,h.u0,h.u1,h.u2,h.u3,h.u4,?_,h.input,h.code⟩;simp only [List.length_append,List.length_cons,List.length_nil];have:m.output.length≠20000:=fun e=>k1 ⟨k2,e⟩;omega
def qyk{m:Mst}{a:Ac}(hx:a.x.kind≠2)(hy:a.y.kind≠2)(o o':Int):qcc m a o=qcc m a o':=by
 have e1:qdj m o a.x=qdj m o' a.x:=by simp [qdj,hx]
 have e2:qdj m o a.y=qdj m o' a.y:=by simp [qdj,hy]
 unfold qcc;rw [e1,e2]
def qu9{l:List Ac}(h:∀ a∈l,a.x.kind≠2∧a.y.kind≠2)(m:Mst)(o o':Int):qcO m o l=qcO m o' l:=by
 induction l generalizing m with
 | nil=>rfl
 | cons a r ih=>
  have h1:=h a Mc;simp only [qcO,qyk h1.1 h1.2 o o'];rw [ih (fun b hb=>h b (List.mem_cons_of_mem _ hb))]
open Go.FL
attribute [local irreducible] JC JO JA JB qaZ qaL qb4 AC fill CellsAt QE Ev Mid
section
variable{t:Tab}{m:Mst}{x:Ins}
def qr3(h:¬ m.r4 < (m.cells.length:Int)):qcZ t m={ m with stop:=3 }:=by unfold qcZ;rw [if_pos O]
def qr4(h:m.r4 < (m.cells.length:Int))(hf:qin t.ins (m.cells.getD m.r4.toNat 0)=none):qcZ t m={ m with stop:=2 }:=by unfold qcZ;rw [if_neg O,hf]
def qr2(h:m.r4 < (m.cells.length:Int))(hf:qin t.ins (m.cells.getD m.r4.toNat 0)=some x)(ho:x.operand=true)(h1:¬ m.r4+1 < (m.cells.length:Int)):qcZ t m={ m with stop:=3 }:=by
 unfold qcZ;rw [if_neg O,hf];simp only [ho,if_true];rw [if_pos O]
def qpG(h:m.r4 < (m.cells.length:Int))(hf:qin t.ins (m.cells.getD m.r4.toNat 0)=some x)(ho:x.operand=true)(h1:m.r4+1 < (m.cells.length:Int)):qcZ t m=qcO { m with r4:=m.r4+2 } (m.cells.getD (m.r4+1).toNat 0) x.acts:=by
 unfold qcZ;rw [if_neg O,hf];simp only [ho,if_true];rw [if_neg O]
def qpF(h:m.r4 < (m.cells.length:Int))(hf:qin t.ins (m.cells.getD m.r4.toNat 0)=some x)(ho:x.operand=false)(ha:∀ a∈x.acts,a.x.kind≠2∧a.y.kind≠2)(op:Int):qcZ t m=qcO { m with r4:=m.r4+1 } op x.acts:=by
 unfold qcZ;rw [if_neg O,hf];simp only [ho];rw [qu9 ha _ op 0];rfl
end
def qnB{m:Mst}{op:Int}{l:List Ac}{k:Nat}{a:Ac}(h:l[k]?=some a)(hs:(qcc m a op).stop=0):qcO m op (l.drop k)=qcO (qcc m a op) op (l.drop (k+1)):=by
 obtain ⟨hk,rfl⟩:=List.getElem?_eq_some_iff.1 h;rw [List.drop_eq_getElem_cons hk];simp [qcO,hs]
def qnC{m:Mst}{op:Int}{l:List Ac}{k:Nat}{a:Ac}(h:l[k]?=some a)(hs:¬ (qcc m a op).stop=0):qcO m op (l.drop k)=qcc m a op:=by
 obtain ⟨hk,rfl⟩:=List.getElem?_eq_some_iff.1 h;rw [List.drop_eq_getElem_cons hk];simp [qcO,hs]
def qnA{m:Mst}{op:Int}{l:List Ac}{k:Nat}(h:l.length≤k):qcO m op (l.drop k)=m:=by rw [List.drop_eq_nil_of_le h];rfl
def qit{l:List Int}(h:∀ x∈l,U32 x)(i:Nat):U32 (l.getD i 0):=by
 by_cases hl:i < l.length
 · simp only [List.getD,List.getElem?_eq_getElem hl,Option.getD_some];exact h _ (List.getElem_mem hl)
 · simp [List.getD,List.getElem?_eq_none (Nat.le_of_not_lt hl)];exact ⟨by decide,by decide⟩
def qzx{m:Mst}(h:MOK m){v:Int}(hv:U32 v):MOK { m with r4:=v }:=⟨h.cells,h.wide,h.u0,h.u1,h.u2,h.u3,hv,h.output,h.input,h.code⟩
def Cz14{p:Prop} (h:p:=by
 refine ⟨_::_::_::O2,Z,Z,opk,hop1,?_⟩;rw [hact,qnC ha hs2];exact ⟨bc2,cc2,yc2,O2,Ao2,co2,Ai2,ni2,ci2,rfl,hO2,hI2.le ((Lr D).t hS2),hcc22,hcc23⟩):p:=h
def Cz15{p:Prop} (h:p:=by
 refine ⟨_::_::_::O1,Z,Z,opk,hop1,?_⟩;rw [hact,qnA O];exact ⟨bc1,cc1,yc1,O1,Ao1,co1,Ai1,ni1,ci1,rfl,hO1,hI1.le ((Lr D).t hS2),hcc1,hcc21⟩):p:=h
def qwA(D:Nat)(L:Hl)(s:World)(bm:Nat)(Ax:Option Addr)(nx cx:Nat)(sm:List Int)(hsm:sm.length=256)(bq:Nat)(es:List (Int×Value×Nat))(ck:Nat)(op:Int)(m:Mst)(M:Hl)(hM:qiX bm (.slice Ax nx cx) sm bq es ck op m M s)(t:Tab)(hX:Inss s Ax nx cx t.ins)(hG:TabG t)(hok:MOK m)(hop:U32 op)(hst:m.stop=0)(hS:∀ c,0≤c→c < 256→sm[c.toNat]?=some (qfb t.ins c nx:Int))(hB:∀ c,256≤c→(qaW es c).getD (.int .i64 0)=.int .i64 (qfb t.ins c nx:Int)):AC Tryz.prog D 91 [.pointer (some ⟨bm,0,none⟩)] (M++L) s fun v L' s'=>∃ M',L'=M'++L∧v=.tuple #[]∧∃ op',U32 op'∧qiX bm (.slice Ax nx cx) sm bq es ck op' (qcZ t m) M' s':=by
 obtain ⟨bc,cc,yc,Oq9,Ao,co,Ai,ni,ci,rfl,hO,hI,hcc,hcc2⟩:=hM;have hu4:=hok.u4;have hr1:=hu4.1;have hr2:=hu4.2;have hnc:=hok.cells;have hnx:=hX.1;have hple:=qwb t.ins (m.cells.getD m.r4.toNat 0) nx;have hcu:=qit hok.wide m.r4.toNat;simp only [List.cons_append];refine qae (fn:=Tryz.f91) qav Tryz.func91 V Z Tryz.ntmps91 Z (rs:=[]) Z [(0,_)] Z<|Sr<|Zqm Z Z<|qaQ Z Z<|W0 Y5<|Wb Y5<|qad (qnn (sz:=1) 4 Z Z Z Z Z Z Dc) Z<|Wl 0 Y6<|At Z Z<|Zs<|Sr<|Zqm Z Z<|Zqm Z Z<|Jc Z Z Z (AC.mid [] [_] _ (qdJ D _ _ _ _ _ _ _ _ _ _ _ _ _ _ _ _ _ _ _ hsm _ hu4 hnc)) ?_;rintro _ _ s1 h1 ⟨_,rfl,rfl,rfl⟩;simp only [cQ9,nQ9];refine qbF Z Z<|Nt<|?_;refine qaM Z ?_ ?_<;>intro c2;·have hfar:=c2;refine Sr<|Zqm Z Z<|qaQ Z Z<|W0 Y5<|Wb Y5<|qc5 0 (_::_::_::_::_::_::_::_::_::_::_::_) Z Z Z Z Z Z Z Z Z<|Nt<|Zo<|Zu<|?_;refine rR [] _ (.nil) Z h1 fun _ hS2=>?_;refine ⟨_::_::_::Oq9,Z,Z,op,hop,?_⟩;rw [qr3 hfar];exact ⟨bc,cc,yc,Oq9,Ao,co,Ai,ni,ci,rfl,hO,hI.le (h1.t hS2),hcc,hcc2⟩
 have hfar:m.r4 < (m.cells.length:Int):=c2;refine Zk<|Zt<|Sr<|Zqm Z Z<|Zqm Z Z<|qaQ Z Z<|W0 Y5<|W0 Y5<|Wl 0 Y6<|Zqm Z Z<|qad (qdl Z Z Z Z Z Z hr1 hfar) Z<|qad (qca 1 Z Z Z Z (qe4 hr1 hfar)) Z<|Jc Z Z Z (qvI D _ _ _ _ _ _ _ _ _ _ _ _ _ _ _ _ _ _ _ hsm _ es ck t.ins (hX.le h1) _ hcu (qfb t.ins (m.cells.getD m.r4.toNat 0) nx) hple (hS _ hcu.1) (hB _)) ?_;rintro _ _ s3 h3 ⟨_,rfl,rfl,rfl⟩;have e3:=h1.t h3;simp only [cQ9,nQ9];refine Zqm Z Z<|Zqx Z Z Z<|Zqx Z Z Z<|Zqa Z Z<|At Z Z<|Zs<|Zp<|Sr<|Zqm Z Z<|qbF Z Z<|At Z Z<|?_;refine qaM Z ?_ ?_<;>intro c4
 ·have hp0:qfb t.ins (m.cells.getD m.r4.toNat 0) nx=0:=by simpa using c4
  have hfi:=qmv (fun i x hi hx=>qo1 hp0 i x O hx);refine Sr<|Zqm Z Z<|qaQ Z Z<|W0 Y5<|Wb Y5<|qc5 0 (_::_::_::_::_::_::_::_::_::_::_::_) Z Z Z Z Z Z Z Z Z<|Nt<|Zo<|Zc<|Zu<|?_;refine rR [] _ (.nil) Z e3 fun _ hS2=>?_;refine ⟨_::_::_::Oq9,Z,Z,op,hop,?_⟩;rw [qr4 hfar hfi];exact ⟨bc,cc,yc,Oq9,Ao,co,Ai,ni,ci,rfl,hO,hI.le (e3|>.t hS2),hcc,hcc2⟩
 have hp0:qfb t.ins (m.cells.getD m.r4.toNat 0) nx≠0:=by simpa using c4
 obtain ⟨bx,ox,x,A',n',c',hAx,hx,hcx,hax,_,_⟩:=Inss.at_ (hX.le e3) (show qfb t.ins (m.cells.getD m.r4.toNat 0) nx - 1 < nx by omega);subst hAx;rw [qvR hp0];obtain ⟨x',hx',hxc⟩:=qrF hp0;rw [hx] at hx';injection hx' with hx'
 subst hx';have hfi:=qmw hG hx hxc;have hn':=hax.1;have hfew:=hG.few _ _ hx;refine Sr<|Zqm Z Z<|qaQ Z Z<|qad (qbm Z Z Z Z) Z<|qad (qaF 2 Z Z Z (hcx.le (Lr D)) Z) Z<|qbF Z Z<|At Z Z<|?_;refine qb8 Z ?_ ?_<;>intro c5
 ·have hopd:=c5;refine Zr<|Zqm Z Z<|Zqm Z Z<|qad (qaC Z Z (qfL O O)) Z<|qaQ Z Z<|W0 Y5<|Wb Y5<|qad (qnn (sz:=1) 4 Z Z Z Z Z Z Dc) Z<|qc5 0 (_::_::_::_::_::_::_::_::_::_::_::_) Z Z Z Z Z Z Z Z Z<|Zn<|Zb<|Zt<|Sr<|Zqm Z Z<|qaQ Z Z<|qad (qbm Z Z Z Z) Z<|qad (qaF 3 Z Z Z (hcx.le (Lr D)) Z) Z<|Ws Y4<|Zqm Z Z<|Nt<|Zp<|?_;refine qaA (γ:=Nat×Mst×Int×Hl) (fun g=>[(0,_),(3,_),(86,_),(87,.int .i64 (g.1:Int))]) (fun g=>g.2.2.2++L) (fun g tw=>Le D s3 tw∧(g.1≤n'∧qiX bm (.slice (some ⟨bx,ox,none⟩) nx cx) sm bq es ck g.2.2.1 g.2.1 g.2.2.2 tw∧MOK g.2.1∧U32 g.2.2.1∧g.2.1.stop=0∧qcZ t m=qcO g.2.1 g.2.2.1 (x.acts.drop g.1))) (fun g=>n' - g.1) (fun _ _ _ h hl=>⟨h.1.trans hl,by obtain ⟨_,k1,⟨bc,cc,yc,Oq9,Ao,co,Ai,ni,ci,k2,k3,k4,k5⟩,k6⟩:=h;exact ⟨k1,⟨bc,cc,yc,Oq9,Ao,co,Ai,ni,ci,k2,k3,k4.le hl,k5⟩,k6⟩⟩) (0,{ m with r4:=m.r4+1 },op,_::_::_::Oq9) (.c4 Z Z Z Z (.nil _)) Z ⟨Le.refl _,⟨Nat.zero_le _,⟨bc,cc,yc,Oq9,Ao,co,Ai,ni,ci,Z,hO,hI.le e3,hcc,hcc2⟩,qzx hok (by constructor<;>omega),by first|exact hop|exact qit hok.wide _,hst,by first|exact qpG hfar hfi hopd hnext|exact qpF hfar hfi hopd (fun a ha=>(hG.acts _ _ _ hx ha).2 hopd) _⟩⟩ ?_;intro g s6 I6;obtain ⟨k,mk,opk,Mk⟩:=g;obtain ⟨hk0,⟨bc1,cc1,yc1,O1,Ao1,co1,Ai1,ni1,ci1,hMk,hO1,hI1,hcc1,hcc21⟩,hok1,hop1,hst1,hact⟩:=I6.2;simp only at hk0 hMk hO1 hI1 hcc1 hok1 hop1 hst1 hact;subst hMk;simp only [List.cons_append];refine Sr<|qa8 Z Z Z<|Nt<|Zs<|?_;refine qaa Z ?_ ?_<;>intro c7
  ·have hk:k < n':=by omega
   obtain ⟨b2,off2,a,rfl,ha,hca,hau⟩:=Acs.at_ (hax.le I6.1) hk;have hacOK:=hG.acts _ _ _ hx (List.mem_of_getElem? ha);refine Zk<|Zt<|Zs<|Zp<|Sr<|Zqm Z Z<|At Z Z<|Sr<|Zqm Z Z<|Zqm Z Z<|qaQ Z Z<|qad (qbm Z Z Z Z) Z<|qad (qaF 3 Z Z Z (hcx.le I6.1) Z) Z<|Zqm Z Z<|qad (qau Z Z Z Z Z Z hk) Z<|Jc Z Z Z (qtM D _ _ bm _ _ _ sm hsm bq es ck opk mk _ ⟨bc1,cc1,yc1,O1,Ao1,co1,Ai1,ni1,ci1,Z,hO1,hI1.le (Lr D),hcc1,hcc21⟩ a _ _ (hca.le (Lr D)) hok1 hop1 hacOK.1) ?_;rintro _ _ s8 h8 ⟨M2,rfl,rfl,bc2,cc2,yc2,O2,Ao2,co2,Ai2,ni2,ci2,rfl,hO2,hI2,hcc22,hcc23⟩;simp only [List.cons_append];refine Nt<|Sr<|Zqm Z Z<|qaQ Z Z<|W0 Y5<|Wb Y5<|Wl 0 Y6<|qcb Z Z Z<|Nt<|?_;refine qaM Z ?_ ?_<;>intro c9;·have hs2:=c9;refine Zo<|Zc<|Zu<|Zu<|Zc<|?_;exact rR [] _ (.nil) Z (e3.t I6.1|>.t h8) fun _ hS2=>Cz14
   have hs2:=c9;refine Zk<|Zb<|Zt<|Zr<|qaD Z Z Z (w64 O O)<|Zqm Z Z<|Zn<|?_;refine qab ⟨(k+1,qcc mk a opk,opk,_::_::_::O2),[],kp,Z,⟨(I6.1.t h8),⟨by omega,⟨bc2,cc2,yc2,O2,Ao2,co2,Ai2,ni2,ci2,Z,hO2,hI2.le (Lr D),hcc22,hcc23⟩,qnz hok1 hacOK.1 hop1,hop1,hs2,by rw [hact,qnB ha hs2]⟩⟩,Oz⟩
  refine Zl<|Zv<|Zv<|Zd<|?_;refine qal [] _ (.inl Z) (.nil) Z (e3.t I6.1) fun _ hS2=>?_;exact Cz15
 have hopd:=c5;refine Sr<|Zqm Z Z<|Zqm Z Z<|qad (qaC Z Z (qfL O O)) Z<|Jc Z Z Z (AC.mid [] [_] _ (qdJ D _ _ _ _ _ _ _ _ _ _ _ _ _ _ _ _ _ _ _ hsm _ (show U32 (m.r4+1) from ⟨by omega,by omega⟩) hnc)) ?_;rintro _ _ s10 h10 ⟨_,rfl,rfl,rfl⟩;have e10:=e3.t h10;simp only [cQ9,nQ9];refine qbF Z Z<|At Z Z<|?_;refine qaM Z ?_ ?_<;>intro c11;·have hnext:=c11;refine Sr<|Zqm Z Z<|qaQ Z Z<|W0 Y5<|Wb Y5<|qc5 0 (_::_::_::_::_::_::_::_::_::_::_::_) Z Z Z Z Z Z Z Z Z<|Nt<|Zo<|Zc<|Zu<|?_;refine rR [] _ (.nil) Z e10 fun _ hS2=>?_;refine ⟨_::_::_::Oq9,Z,Z,op,hop,?_⟩;rw [qr2 hfar hfi hopd hnext];exact ⟨bc,cc,yc,Oq9,Ao,co,Ai,ni,ci,rfl,hO,hI.le (e10|>.t hS2),hcc,hcc2⟩
 have hnext:m.r4+1 < (m.cells.length:Int):=c11;refine Sr<|Zqm Z Z<|Zqm Z Z<|qaQ Z Z<|W0 Y5<|W0 Y5<|Wl 0 Y6<|Zqm Z Z<|qad (qaC Z Z (qfL O O)) Z<|qad (qdl Z Z Z Z Z Z O hnext) Z<|qad (qca 1 Z Z Z Z (qe4 O hnext)) Z<|qaQ Z Z<|Wb Y5<|qc5 0 _ Z Z Z Z Z (qyv _ _ _ _ _ _ _ _ _ _ _ _ _ hsm) Z (qzI _ _ _ _ _ _ _ _ _ _ _ _ _ _ hsm) Z<|Nt<|Zr<|Zqm Z Z<|Zqm Z Z<|qad (qaC Z Z (qfL O O)) Z<|qaQ Z Z<|W0 Y5<|Wb Y5<|qad (qnn (sz:=1) 4 Z Z Z Z Z Z Dc) Z ?_;refine qc5 0 (_::_::_::_::_::_::_::_::_::_::_::_) Z Z Z Z Z Z Z Z Z<|Zn<|Zb<|Zt<|Sr<|Zqm Z Z<|qaQ Z Z<|qad (qbm Z Z Z Z) Z<|qad (qaF 3 Z Z Z (hcx.le h10) Z) Z<|Ws Y4<|Zqm Z Z<|Nt<|Zp<|?_;refine qaA (γ:=Nat×Mst×Int×Hl) (fun g=>[(0,_),(3,_),(86,_),(87,.int .i64 (g.1:Int))]) (fun g=>g.2.2.2++L) (fun g tw=>Le D s10 tw∧(g.1≤n'∧qiX bm (.slice (some ⟨bx,ox,none⟩) nx cx) sm bq es ck g.2.2.1 g.2.1 g.2.2.2 tw∧MOK g.2.1∧U32 g.2.2.1∧g.2.1.stop=0∧qcZ t m=qcO g.2.1 g.2.2.1 (x.acts.drop g.1))) (fun g=>n' - g.1) (fun _ _ _ h hl=>⟨h.1.trans hl,by obtain ⟨_,k1,⟨bc,cc,yc,Oq9,Ao,co,Ai,ni,ci,k2,k3,k4,k5⟩,k6⟩:=h;exact ⟨k1,⟨bc,cc,yc,Oq9,Ao,co,Ai,ni,ci,k2,k3,k4.le hl,k5⟩,k6⟩⟩) (0,{ m with r4:=m.r4+2 },m.cells.getD (m.r4+1).toNat 0,_::_::_::Oq9) (.c4 Z Z Z Z (.nil _)) Z ⟨Le.refl _,⟨Nat.zero_le _,⟨bc,cc,yc,Oq9,Ao,co,Ai,ni,ci,Z,hO,hI.le e10,hcc,hcc2⟩,qzx hok (by constructor<;>omega),by first|exact hop|exact qit hok.wide _,hst,by first|exact qpG hfar hfi hopd hnext|exact qpF hfar hfi hopd (fun a ha=>(hG.acts _ _ _ hx ha).2 hopd) _⟩⟩ ?_;intro g s13 I13;obtain ⟨k,mk,opk,Mk⟩:=g;obtain ⟨hk0,⟨bc1,cc1,yc1,O1,Ao1,co1,Ai1,ni1,ci1,hMk,hO1,hI1,hcc1,hcc21⟩,hok1,hop1,hst1,hact⟩:=I13.2;simp only at hk0 hMk hO1 hI1 hcc1 hok1 hop1 hst1 hact;subst hMk;simp only [List.cons_append];refine Sr<|qa8 Z Z Z<|Nt<|Zs<|?_;refine qaa Z ?_ ?_<;>intro c14
 ·have hk:k < n':=by omega
  obtain ⟨b2,off2,a,rfl,ha,hca,hau⟩:=Acs.at_ (hax.le (h10.t I13.1)) hk;have hacOK:=hG.acts _ _ _ hx (List.mem_of_getElem? ha);refine Zk<|Zt<|Zs<|Zp<|Sr<|Zqm Z Z<|At Z Z<|Sr<|Zqm Z Z<|Zqm Z Z<|qaQ Z Z<|qad (qbm Z Z Z Z) Z<|qad (qaF 3 Z Z Z (hcx.le (h10.t I13.1)) Z) Z<|Zqm Z Z<|qad (qau Z Z Z Z Z Z hk) Z<|Jc Z Z Z (qtM D _ _ bm _ _ _ sm hsm bq es ck opk mk _ ⟨bc1,cc1,yc1,O1,Ao1,co1,Ai1,ni1,ci1,Z,hO1,hI1.le (Lr D),hcc1,hcc21⟩ a _ _ (hca.le (Lr D)) hok1 hop1 hacOK.1) ?_;rintro _ _ s15 h15 ⟨M2,rfl,rfl,bc2,cc2,yc2,O2,Ao2,co2,Ai2,ni2,ci2,rfl,hO2,hI2,hcc22,hcc23⟩;simp only [List.cons_append];refine Nt<|Sr<|Zqm Z Z<|qaQ Z Z<|W0 Y5<|Wb Y5<|Wl 0 Y6<|qcb Z Z Z<|Nt<|?_;refine qaM Z ?_ ?_<;>intro c16;·have hs2:=c16;refine Zo<|Zc<|Zu<|Zu<|Zc<|?_;exact rR [] _ (.nil) Z (e10.t I13.1|>.t h15) fun _ hS2=>Cz14
  have hs2:=c16;refine Zk<|Zb<|Zt<|Zr<|qaD Z Z Z (w64 O O)<|Zqm Z Z<|Zn<|?_;refine qab ⟨(k+1,qcc mk a opk,opk,_::_::_::O2),[],kp,Z,⟨(I13.1.t h15),⟨by omega,⟨bc2,cc2,yc2,O2,Ao2,co2,Ai2,ni2,ci2,Z,hO2,hI2.le (Lr D),hcc22,hcc23⟩,qnz hok1 hacOK.1 hop1,hop1,hs2,by rw [hact,qnB ha hs2]⟩⟩,Oz⟩
 refine Zl<|Zv<|Zv<|Zd<|?_;refine qal [] _ (.inl Z) (.nil) Z (e10.t I13.1) fun _ hS2=>?_;exact Cz15
open Go.Proofs.Tryz
def qjN(D:Nat)(L:Hl)(s:World)(m:Mst)(op:Int)(bm bc bq:Nat)(Ai Ao Ax:Option Addr)(nc cc ni ci no co nx cx:Nat)(sm:List Int)(hsm:sm.length=256)(hI:Bts s Ai ni ci m.input)(hni:ni≤1000000):AC prog D 92 [.pointer (some ⟨bm,0,none⟩)] ([(bm,cb (.slice (some ⟨bc,0,none⟩) nc cc::.int .u32 m.r0::.int .u32 m.r1::.int .u32 m.r2::.int .u32 m.r3::.int .u32 m.r4::.slice Ai ni ci::.slice Ao no co::.int .i64 m.stop::.int .u32 m.code::.slice Ax nx cx::(iv sm++[.map (some bq),.int .u32 op])) 181)]++L) s fun v L' s'=>∃ M',L'=M'++L∧M'=[(bm,cb (.slice (some ⟨bc,0,none⟩) nc cc::.int .u32 m.r0::.int .u32 m.r1::.int .u32 m.r2::.int .u32 m.r3::.int .u32 m.r4::.slice Ai ni ci::.slice Ao no co::.int .i64 m.stop::.int .u32 m.code::.slice Ax nx cx::(iv sm++[.map (some bq),.int .u32 op])) 181)]∧∃ Ad c',v=.agg #[.slice (some ⟨bc,0,none⟩) nc cc,.int .u32 m.r0,.int .u32 m.r1,.int .u32 m.r2,.int .u32 m.r3,.int .u32 m.r4,.slice Ad ni c',.slice Ao no co,.int .i64 m.stop,.int .u32 m.code]∧Bts s' Ad ni c' m.input:=by
 refine qae (fn:=f92) qav func92 V Z ntmps92 Z (rs:=[.cell 2 136]) Z [(0,_)] Z<|Sr<|qag Z [_,_,_,_,_,_,_,_,_,_] Z Z fun β1 s1 h1=>Nt<|Sr<|Zqm Z Z<|qaQ Z Z<|W0 Y5<|qad (qao 1 [_,_,_,_,_,_,_,_,_,_] Z Z Z Z Z) Z<|qag Z [_,_,_,_,_,_,_,_,_,_] Z Z fun β2 s2 h2=>Wt 0 [_,_,_,_,_,_,_,_,_,_] Y9<|Nt<|Sr<|Wb Y5<|Wl 0 Y6<|Jc Z Z Z (AC.pub (qaG D _ _ _ _ _ _ (hI.le (h1.t h2)) hni)) ?_;rintro _ _ s3 h3 ⟨rfl,M1,sw,⟨Ad,c1,rfl,_,_,hOw⟩,hsw,hcw⟩;have hB1:=Own.bts hOw hcw;refine Wb Y5<|Wt 0 [_,_,_,_,_,_,_,_,_,_] Y9<|Nt<|Sr<|qad (qao 0 [_,_,_,_,_,_,_,_,_,_] Z Z Z Z Z) Z<|Wt 1 [_,_,_,_,_,_,_,_,_,_] Y9<|Nt<|Zo<|?_;exact rR [_,_] _ (.agg (us:=[_,_,_,_,_,_,_,_,_,_]) 1 Z Z Z Z Z (.nil)) Z (h1.t h2|>.t h3) fun _ hS2=>⟨[_],rfl,rfl,Ad,c1,rfl,hB1.le ((Lr D).t hS2)⟩
def qfx{ins:List Ins}{k:Nat}{x:Ins}(h:ins[k]?=some x)(c:Int):qfb ins c (k+1)=if x.code=c then k+1 else qfb ins c k:=by simp [qfb,h]
def qfC{ins:List Ins}{k:Nat}{x:Ins}{sm:List Int}(h:ins[k]?=some x)(hx:U32 x.code)(hlt:x.code < 256)(hl:sm.length=256)(hS:∀ c:Int,0≤c→c < 256→sm[c.toNat]?=some (qfb ins c k:Int)) :
    (sm.set x.code.toNat ((k:Int)+1)).length=256∧∀ c:Int,0≤c→c < 256→(sm.set x.code.toNat ((k:Int)+1))[c.toNat]?=some (qfb ins c (k+1):Int):=by
  refine ⟨by simpa using hl,fun c h1 h2=>?_⟩;have hx0:=hx.1;rw [qfx h];by_cases e:x.code=c
  · subst e
    rw [if_pos rfl,List.getElem?_set_self O];simp
  · rw [if_neg e,List.getElem?_set_ne O];exact hS c h1 h2
def qjY{ins:List Ins}{k:Nat}{x:Ins}{es:List (Int×Value×Nat)}(h:ins[k]?=some x)(hlt:x.code < 256)(hB:∀ c:Int,256≤c→(qaW es c).getD (.int .i64 0)=.int .i64 (qfb ins c k:Int)) :
  ∀ c:Int,256≤c→(qaW es c).getD (.int .i64 0)=.int .i64 (qfb ins c (k+1):Int):=fun c hc=>by
 rw [qfx h,if_neg O];exact hB c hc
def qja{ins:List Ins}{k:Nat}{x:Ins}{sm:List Int}(h:ins[k]?=some x)(hge:¬ x.code < 256)(hS:∀ c:Int,0≤c→c < 256→sm[c.toNat]?=some (qfb ins c k:Int)) :
  ∀ c:Int,0≤c→c < 256→sm[c.toNat]?=some (qfb ins c (k+1):Int):=fun c h1 h2=>by
 rw [qfx h,if_neg O];exact hS c h1 h2
def qnJ{ins:List Ins}{k:Nat}{x:Ins}{es:List (Int×Value×Nat)}{ck:Nat}(h:ins[k]?=some x)(hB:∀ c:Int,256≤c→(qaW es c).getD (.int .i64 0)=.int .i64 (qfb ins c k:Int)) :
  ∀ c:Int,256≤c→(qaW (qix es x.code (.int .i64 ((k:Int)+1)) ck) c).getD (.int .i64 0)=.int .i64 (qfb ins c (k+1):Int):=fun c hc=>by
 rw [qey,qfx h];by_cases e:c=x.code
 · rw [if_pos e,if_pos e.symm];simp
 · rw [if_neg e,if_neg (fun h=>e h.symm)];exact hB c hc
def qv8(D:Nat)(L:Hl)(s:World)(t:Tab)(A:Option Addr)(n c:Nat)(hA:Inss s A n c t.ins)(m:Mst)(Ax Bx Ox:Option Addr)(nAx cAx nBx cBx nOx cOx:Nat)(hAx:Wds s Ax nAx cAx m.cells)(hBx:Bts s Bx nBx cBx m.input)(hOx:Bts s Ox nOx cOx m.output)(hok:MOK m)(hc0:0 < m.cells.length):AC prog D 90 [.agg #[.int .i64 t.cells,.slice A n c],.agg #[.slice Ax nAx cAx,.int .u32 m.r0,.int .u32 m.r1,.int .u32 m.r2,.int .u32 m.r3,.int .u32 m.r4,.slice Bx nBx cBx,.slice Ox nOx cOx,.int .i64 m.stop,.int .u32 m.code]] L s fun v L' s'=>∃ M',L'=M'++L∧∃ bm sm bq es ck,v=.pointer (some ⟨bm,0,none⟩)∧sm.length=256∧(∀ c:Int,0≤c→c < 256→sm[c.toNat]?=some (qfb t.ins c n:Int))∧(∀ c:Int,256≤c→(qaW es c).getD (.int .i64 0)=.int .i64 (qfb t.ins c n:Int))∧qiX bm (.slice A n c) sm bq es ck 0 m M' s':=by
 obtain rfl:=hAx.1;obtain rfl:=hOx.1;have hnB:=hBx.1;have hb1:=hok.cells;have hb2:=hok.input;have hb3:=hok.output;have hn:=hA.1;have hcn:=hA.2.1;have hcm:=hA.2.2.1;refine qae (fn:=f90) qav func90 V Z ntmps90 Z (rs:=[.tmp 4]) Z [(0,_),(1,_)] Z<|Sr<|qay Z Z fun β1 s1 h1=>qay Z Z fun β2 s2 h2=>At Z Z<|?_;have e2:=h1.t h2;refine qxX (γ:=Nat×Nat×List Value×Hl×Option Addr×Nat×Option Addr×Nat) (fun g=>[(2,.pointer (some ⟨β1,0,none⟩)),(3,.pointer (some ⟨β2,0,none⟩)),(4,.pointer none)]) (fun g=>(β2,cb [.slice (some ⟨g.1,0,none⟩) m.cells.length g.2.1,.int .u32 m.r0,.int .u32 m.r1,.int .u32 m.r2,.int .u32 m.r3,.int .u32 m.r4,.slice g.2.2.2.2.2.2.1 nBx g.2.2.2.2.2.2.2,.slice g.2.2.2.2.1 m.output.length g.2.2.2.2.2.1,.int .i64 m.stop,.int .u32 m.code] 136)::(β1,cb [.int .i64 t.cells,.slice A n c] 42)::(g.1,cb (wv m.cells++g.2.2.1) 46)::(g.2.2.2.1++L)) (fun g tw=>Le D s2 tw∧(FL.Own 5 1 g.2.2.2.1 (.slice g.2.2.2.2.1 m.output.length g.2.2.2.2.2.1) m.output.length (bv m.output)∧Bts tw g.2.2.2.2.2.2.1 nBx g.2.2.2.2.2.2.2 m.input∧m.cells.length+g.2.2.1.length=g.2.1∧g.2.1≤9223372036854775807)) (fun _ _ _ h hl=>⟨h.1.trans hl,by obtain ⟨_,k1,k2,k3⟩:=h;exact ⟨k1,k2.le hl,k3⟩⟩) ?_ ?_
 ·refine qaB qac 15 Z 0 fun s4 h4=>za 0 Z (qat Z Z Z Z) Z<|za 3 Z (We Y4) Z<|za 6 Z (We Y4) Z ?_;have e4:=e2.t h4;refine qAy 1 4 7 V ?_ ?_ ?_
  ·refine qbA Z Tt (Wd 0 Y5) Z ?_;refine qAy 2 4 7 V ?_ ?_ ?_
   ·refine Jb Z Tt Z Z Z (AC.mid [_,_] [] _ (qbR D _ _ _ _ _ _ (hAx.le e4) O)) ?_;rintro _ _ s5 h5 ⟨M1,rfl,Ad,c1,rfl,_,_,hO1⟩;have e5:=e4.t h5;refine ⟨(fun x h _=>by cases h),?_⟩;obtain ⟨bc,yc,rfl,rfl,hcy,hcy2⟩:=Own.blk_of hO1 hc0;simp only [cQ9,nQ9];refine qeR 4 7 V ?_ ?_
    ·refine qbA Z Tt (Wd 0 Y5) Z ?_;refine qeR 5 7 V ?_ ?_;·refine Jb Z Tt Z Z Z (AC.pub (qaG D _ _ _ _ _ _ (hBx.le e5) O)) ?_;rintro _ _ s6 h6 ⟨rfl,Mi,swi,⟨Ai1,ci1,rfl,_,_,hOi⟩,hswi,hcwi⟩;refine ⟨fun _ _ h=>h,?_⟩;have hBi:=Own.bts hOi hcwi;refine qar 7 V<|qbA Z Tt (Wd 0 Y5) Z<|za 9 Z (qat Z Z Z Z) Z<|qar 8 V<|Jb Z Tt Z Z Z (AC.mid [_,_,_] [] _ (qaG D _ _ _ _ _ _ (hOx.le (e5.t h6)) O)) ?_;rintro _ _ s7 h7 ⟨Oq9,rfl,Ao1,co1,rfl,_,_,hOo⟩;refine ⟨(fun x h _=>by cases h),?_⟩;simp only [cQ9,nQ9];refine qar 10 V<|Wu Z Tt 0 [_,_,_,_,_,_,_,_,_,_] Y9 (fun x hx=>by cases hx)<|za 11 Z (We Y4) Z<|qar 12 V<|Wu Z Tt 0 [_,_,_,_,_,_,_,_,_,_] Y9 (fun x hx=>by cases hx)<|za 13 Z (We Y4) Z<|qar 14 V<|Wu Z Tt 0 [_,_,_,_,_,_,_,_,_,_] Y9 (fun x hx=>by cases hx)<|qaf V ?_;refine qab (Mid.mk (bc,c1,yc,Oq9,Ao1,co1,Ai1,ci1) [] kp Pr ⟨(h4.t h5|>.t h6|>.t h7),⟨hOo,hBi.le h7,by rw [← hcy,qcj],hcy2⟩⟩)
     refine qbA Z Tt (Wd 0 Y5) Z<|za 9 Z (qat Z Z Z Z) Z<|qar 5 V<|Jb Z Tt Z Z Z (AC.pub (qaG D _ _ _ _ _ _ (hBx.le e5) O)) ?_;rintro _ _ s8 h8 ⟨rfl,Mi,swi,⟨Ai1,ci1,rfl,_,_,hOi⟩,hswi,hcwi⟩;refine ⟨fun _ _ h=>h,?_⟩;have hBi:=Own.bts hOi hcwi;refine qar 8 V<|Jb Z Tt Z Z Z (AC.mid [_,_,_] [] _ (qaG D _ _ _ _ _ _ (hOx.le (e5.t h8)) O)) ?_;rintro _ _ s9 h9 ⟨Oq9,rfl,Ao1,co1,rfl,_,_,hOo⟩;refine ⟨(fun x h _=>by cases h),?_⟩;simp only [cQ9,nQ9];refine qar 10 V<|Wu Z Tt 0 [_,_,_,_,_,_,_,_,_,_] Y9 (fun x hx=>by cases hx)<|za 11 Z (We Y4) Z<|qar 12 V<|Wu Z Tt 0 [_,_,_,_,_,_,_,_,_,_] Y9 (fun x hx=>by cases hx)<|za 13 Z (We Y4) Z<|qar 14 V<|Wu Z Tt 0 [_,_,_,_,_,_,_,_,_,_] Y9 (fun x hx=>by cases hx)<|qaf V ?_;refine qab (Mid.mk (bc,c1,yc,Oq9,Ao1,co1,Ai1,ci1) [] kp Pr ⟨(h4.t h5|>.t h8|>.t h9),⟨hOo,hBi.le h9,by rw [← hcy,qcj],hcy2⟩⟩)
    refine qbA Z Tt (Wd 0 Y5) Z<|qar 4 V<|qbA Z Tt (Wd 0 Y5) Z<|za 9 Z (qat Z Z Z Z) Z<|qar 5 V<|Jb Z Tt Z Z Z (AC.pub (qaG D _ _ _ _ _ _ (hBx.le e5) O)) ?_;rintro _ _ s10 h10 ⟨rfl,Mi,swi,⟨Ai1,ci1,rfl,_,_,hOi⟩,hswi,hcwi⟩;refine ⟨fun _ _ h=>h,?_⟩;have hBi:=Own.bts hOi hcwi;refine qar 8 V<|Jb Z Tt Z Z Z (AC.mid [_,_,_] [] _ (qaG D _ _ _ _ _ _ (hOx.le (e5.t h10)) O)) ?_;rintro _ _ s11 h11 ⟨Oq9,rfl,Ao1,co1,rfl,_,_,hOo⟩;refine ⟨(fun x h _=>by cases h),?_⟩;simp only [cQ9,nQ9];refine qar 10 V<|Wu Z Tt 0 [_,_,_,_,_,_,_,_,_,_] Y9 (fun x hx=>by cases hx)<|za 11 Z (We Y4) Z<|qar 12 V<|Wu Z Tt 0 [_,_,_,_,_,_,_,_,_,_] Y9 (fun x hx=>by cases hx)<|za 13 Z (We Y4) Z<|qar 14 V<|Wu Z Tt 0 [_,_,_,_,_,_,_,_,_,_] Y9 (fun x hx=>by cases hx)<|qaf V ?_;refine qab (Mid.mk (bc,c1,yc,Oq9,Ao1,co1,Ai1,ci1) [] kp Pr ⟨(h4.t h5|>.t h10|>.t h11),⟨hOo,hBi.le h11,by rw [← hcy,qcj],hcy2⟩⟩)
   ·refine qbA Z Tt (Wd 0 Y5) Z ?_;refine qeR 2 7 V ?_ ?_
    ·refine Jb Z Tt Z Z Z (AC.mid [_,_] [] _ (qbR D _ _ _ _ _ _ (hAx.le e4) O)) ?_;rintro _ _ s12 h12 ⟨M1,rfl,Ad,c1,rfl,_,_,hO1⟩;have e12:=e4.t h12;refine ⟨(fun x h _=>by cases h),?_⟩;obtain ⟨bc,yc,rfl,rfl,hcy,hcy2⟩:=Own.blk_of hO1 hc0;simp only [cQ9,nQ9];refine qeR 5 7 V ?_ ?_;·refine Jb Z Tt Z Z Z (AC.pub (qaG D _ _ _ _ _ _ (hBx.le e12) O)) ?_;rintro _ _ s13 h13 ⟨rfl,Mi,swi,⟨Ai1,ci1,rfl,_,_,hOi⟩,hswi,hcwi⟩;refine ⟨fun _ _ h=>h,?_⟩;have hBi:=Own.bts hOi hcwi;refine qar 7 V<|qbA Z Tt (Wd 0 Y5) Z<|za 9 Z (qat Z Z Z Z) Z<|qar 8 V<|Jb Z Tt Z Z Z (AC.mid [_,_,_] [] _ (qaG D _ _ _ _ _ _ (hOx.le (e12.t h13)) O)) ?_;rintro _ _ s14 h14 ⟨Oq9,rfl,Ao1,co1,rfl,_,_,hOo⟩;refine ⟨(fun x h _=>by cases h),?_⟩;simp only [cQ9,nQ9];refine qar 10 V<|Wu Z Tt 0 [_,_,_,_,_,_,_,_,_,_] Y9 (fun x hx=>by cases hx)<|za 11 Z (We Y4) Z<|qar 12 V<|Wu Z Tt 0 [_,_,_,_,_,_,_,_,_,_] Y9 (fun x hx=>by cases hx)<|za 13 Z (We Y4) Z<|qar 14 V<|Wu Z Tt 0 [_,_,_,_,_,_,_,_,_,_] Y9 (fun x hx=>by cases hx)<|qaf V ?_;refine qab (Mid.mk (bc,c1,yc,Oq9,Ao1,co1,Ai1,ci1) [] kp Pr ⟨(h4.t h12|>.t h13|>.t h14),⟨hOo,hBi.le h14,by rw [← hcy,qcj],hcy2⟩⟩)
     refine qbA Z Tt (Wd 0 Y5) Z<|za 9 Z (qat Z Z Z Z) Z<|qar 5 V<|Jb Z Tt Z Z Z (AC.pub (qaG D _ _ _ _ _ _ (hBx.le e12) O)) ?_;rintro _ _ s15 h15 ⟨rfl,Mi,swi,⟨Ai1,ci1,rfl,_,_,hOi⟩,hswi,hcwi⟩;refine ⟨fun _ _ h=>h,?_⟩;have hBi:=Own.bts hOi hcwi;refine qar 8 V<|Jb Z Tt Z Z Z (AC.mid [_,_,_] [] _ (qaG D _ _ _ _ _ _ (hOx.le (e12.t h15)) O)) ?_;rintro _ _ s16 h16 ⟨Oq9,rfl,Ao1,co1,rfl,_,_,hOo⟩;refine ⟨(fun x h _=>by cases h),?_⟩;simp only [cQ9,nQ9];refine qar 10 V<|Wu Z Tt 0 [_,_,_,_,_,_,_,_,_,_] Y9 (fun x hx=>by cases hx)<|za 11 Z (We Y4) Z<|qar 12 V<|Wu Z Tt 0 [_,_,_,_,_,_,_,_,_,_] Y9 (fun x hx=>by cases hx)<|za 13 Z (We Y4) Z<|qar 14 V<|Wu Z Tt 0 [_,_,_,_,_,_,_,_,_,_] Y9 (fun x hx=>by cases hx)<|qaf V ?_;refine qab (Mid.mk (bc,c1,yc,Oq9,Ao1,co1,Ai1,ci1) [] kp Pr ⟨(h4.t h12|>.t h15|>.t h16),⟨hOo,hBi.le h16,by rw [← hcy,qcj],hcy2⟩⟩)
    refine qbA Z Tt (Wd 0 Y5) Z<|qar 2 V<|Jb Z Tt Z Z Z (AC.mid [_,_] [] _ (qbR D _ _ _ _ _ _ (hAx.le e4) O)) ?_;rintro _ _ s17 h17 ⟨M1,rfl,Ad,c1,rfl,_,_,hO1⟩;refine ⟨(fun x h _=>by cases h),?_⟩;obtain ⟨bc,yc,rfl,rfl,hcy,hcy2⟩:=Own.blk_of hO1 hc0;simp only [cQ9,nQ9];refine za 9 Z (qat Z Z Z Z) Z<|qar 5 V<|Jb Z Tt Z Z Z (AC.pub (qaG D _ _ _ _ _ _ (hBx.le (e4.t h17)) O)) ?_;rintro _ _ s18 h18 ⟨rfl,Mi,swi,⟨Ai1,ci1,rfl,_,_,hOi⟩,hswi,hcwi⟩;refine ⟨fun _ _ h=>h,?_⟩;have hBi:=Own.bts hOi hcwi;refine qar 8 V<|Jb Z Tt Z Z Z (AC.mid [_,_,_] [] _ (qaG D _ _ _ _ _ _ (hOx.le (e4.t h17|>.t h18)) O)) ?_;rintro _ _ s19 h19 ⟨Oq9,rfl,Ao1,co1,rfl,_,_,hOo⟩;refine ⟨(fun x h _=>by cases h),?_⟩;simp only [cQ9,nQ9];refine qar 10 V<|Wu Z Tt 0 [_,_,_,_,_,_,_,_,_,_] Y9 (fun x hx=>by cases hx)<|za 11 Z (We Y4) Z<|qar 12 V<|Wu Z Tt 0 [_,_,_,_,_,_,_,_,_,_] Y9 (fun x hx=>by cases hx)<|za 13 Z (We Y4) Z<|qar 14 V<|Wu Z Tt 0 [_,_,_,_,_,_,_,_,_,_] Y9 (fun x hx=>by cases hx)<|qaf V ?_;refine qab (Mid.mk (bc,c1,yc,Oq9,Ao1,co1,Ai1,ci1) [] kp Pr ⟨(h4.t h17|>.t h18|>.t h19),⟨hOo,hBi.le h19,by rw [← hcy,qcj],hcy2⟩⟩)
   refine qbA Z Tt (Wd 0 Y5) Z ?_;refine qeR 2 4 V ?_ ?_;·refine Jb Z Tt Z Z Z (AC.mid [_,_] [] _ (qbR D _ _ _ _ _ _ (hAx.le e4) O)) ?_;rintro _ _ s20 h20 ⟨M1,rfl,Ad,c1,rfl,_,_,hO1⟩;refine ⟨(fun x h _=>by cases h),?_⟩;obtain ⟨bc,yc,rfl,rfl,hcy,hcy2⟩:=Own.blk_of hO1 hc0;simp only [cQ9,nQ9];refine qar 4 V<|qbA Z Tt (Wd 0 Y5) Z<|za 9 Z (qat Z Z Z Z) Z<|qar 5 V<|Jb Z Tt Z Z Z (AC.pub (qaG D _ _ _ _ _ _ (hBx.le (e4.t h20)) O)) ?_;rintro _ _ s21 h21 ⟨rfl,Mi,swi,⟨Ai1,ci1,rfl,_,_,hOi⟩,hswi,hcwi⟩;refine ⟨fun _ _ h=>h,?_⟩;have hBi:=Own.bts hOi hcwi;refine qar 8 V<|Jb Z Tt Z Z Z (AC.mid [_,_,_] [] _ (qaG D _ _ _ _ _ _ (hOx.le (e4.t h20|>.t h21)) O)) ?_;rintro _ _ s22 h22 ⟨Oq9,rfl,Ao1,co1,rfl,_,_,hOo⟩;refine ⟨(fun x h _=>by cases h),?_⟩;simp only [cQ9,nQ9];refine qar 10 V<|Wu Z Tt 0 [_,_,_,_,_,_,_,_,_,_] Y9 (fun x hx=>by cases hx)<|za 11 Z (We Y4) Z<|qar 12 V<|Wu Z Tt 0 [_,_,_,_,_,_,_,_,_,_] Y9 (fun x hx=>by cases hx)<|za 13 Z (We Y4) Z<|qar 14 V<|Wu Z Tt 0 [_,_,_,_,_,_,_,_,_,_] Y9 (fun x hx=>by cases hx)<|qaf V ?_;refine qab (Mid.mk (bc,c1,yc,Oq9,Ao1,co1,Ai1,ci1) [] kp Pr ⟨(h4.t h20|>.t h21|>.t h22),⟨hOo,hBi.le h22,by rw [← hcy,qcj],hcy2⟩⟩)
   refine qbA Z Tt (Wd 0 Y5) Z<|qar 2 V<|Jb Z Tt Z Z Z (AC.mid [_,_] [] _ (qbR D _ _ _ _ _ _ (hAx.le e4) O)) ?_;rintro _ _ s23 h23 ⟨M1,rfl,Ad,c1,rfl,_,_,hO1⟩;refine ⟨(fun x h _=>by cases h),?_⟩;obtain ⟨bc,yc,rfl,rfl,hcy,hcy2⟩:=Own.blk_of hO1 hc0;simp only [cQ9,nQ9];refine za 9 Z (qat Z Z Z Z) Z<|qar 5 V<|Jb Z Tt Z Z Z (AC.pub (qaG D _ _ _ _ _ _ (hBx.le (e4.t h23)) O)) ?_;rintro _ _ s24 h24 ⟨rfl,Mi,swi,⟨Ai1,ci1,rfl,_,_,hOi⟩,hswi,hcwi⟩;refine ⟨fun _ _ h=>h,?_⟩;have hBi:=Own.bts hOi hcwi;refine qar 8 V<|Jb Z Tt Z Z Z (AC.mid [_,_,_] [] _ (qaG D _ _ _ _ _ _ (hOx.le (e4.t h23|>.t h24)) O)) ?_;rintro _ _ s25 h25 ⟨Oq9,rfl,Ao1,co1,rfl,_,_,hOo⟩;refine ⟨(fun x h _=>by cases h),?_⟩;simp only [cQ9,nQ9];refine qar 10 V<|Wu Z Tt 0 [_,_,_,_,_,_,_,_,_,_] Y9 (fun x hx=>by cases hx)<|za 11 Z (We Y4) Z<|qar 12 V<|Wu Z Tt 0 [_,_,_,_,_,_,_,_,_,_] Y9 (fun x hx=>by cases hx)<|za 13 Z (We Y4) Z<|qar 14 V<|Wu Z Tt 0 [_,_,_,_,_,_,_,_,_,_] Y9 (fun x hx=>by cases hx)<|qaf V ?_;refine qab (Mid.mk (bc,c1,yc,Oq9,Ao1,co1,Ai1,ci1) [] kp Pr ⟨(h4.t h23|>.t h24|>.t h25),⟨hOo,hBi.le h25,by rw [← hcy,qcj],hcy2⟩⟩)
  ·refine qbA Z Tt (Wd 0 Y5) Z ?_;refine qeR 1 7 V ?_ ?_
   ·refine qbA Z Tt (Wd 0 Y5) Z ?_;refine qeR 2 7 V ?_ ?_
    ·refine Jb Z Tt Z Z Z (AC.mid [_,_] [] _ (qbR D _ _ _ _ _ _ (hAx.le e4) O)) ?_;rintro _ _ s26 h26 ⟨M1,rfl,Ad,c1,rfl,_,_,hO1⟩;have e26:=e4.t h26;refine ⟨(fun x h _=>by cases h),?_⟩;obtain ⟨bc,yc,rfl,rfl,hcy,hcy2⟩:=Own.blk_of hO1 hc0;simp only [cQ9,nQ9];refine qeR 5 7 V ?_ ?_;·refine Jb Z Tt Z Z Z (AC.pub (qaG D _ _ _ _ _ _ (hBx.le e26) O)) ?_;rintro _ _ s27 h27 ⟨rfl,Mi,swi,⟨Ai1,ci1,rfl,_,_,hOi⟩,hswi,hcwi⟩;refine ⟨fun _ _ h=>h,?_⟩;have hBi:=Own.bts hOi hcwi;refine qar 7 V<|qbA Z Tt (Wd 0 Y5) Z<|za 9 Z (qat Z Z Z Z) Z<|qar 8 V<|Jb Z Tt Z Z Z (AC.mid [_,_,_] [] _ (qaG D _ _ _ _ _ _ (hOx.le (e26.t h27)) O)) ?_;rintro _ _ s28 h28 ⟨Oq9,rfl,Ao1,co1,rfl,_,_,hOo⟩;refine ⟨(fun x h _=>by cases h),?_⟩;simp only [cQ9,nQ9];refine qar 10 V<|Wu Z Tt 0 [_,_,_,_,_,_,_,_,_,_] Y9 (fun x hx=>by cases hx)<|za 11 Z (We Y4) Z<|qar 12 V<|Wu Z Tt 0 [_,_,_,_,_,_,_,_,_,_] Y9 (fun x hx=>by cases hx)<|za 13 Z (We Y4) Z<|qar 14 V<|Wu Z Tt 0 [_,_,_,_,_,_,_,_,_,_] Y9 (fun x hx=>by cases hx)<|qaf V ?_;refine qab (Mid.mk (bc,c1,yc,Oq9,Ao1,co1,Ai1,ci1) [] kp Pr ⟨(h4.t h26|>.t h27|>.t h28),⟨hOo,hBi.le h28,by rw [← hcy,qcj],hcy2⟩⟩)
     refine qbA Z Tt (Wd 0 Y5) Z<|za 9 Z (qat Z Z Z Z) Z<|qar 5 V<|Jb Z Tt Z Z Z (AC.pub (qaG D _ _ _ _ _ _ (hBx.le e26) O)) ?_;rintro _ _ s29 h29 ⟨rfl,Mi,swi,⟨Ai1,ci1,rfl,_,_,hOi⟩,hswi,hcwi⟩;refine ⟨fun _ _ h=>h,?_⟩;have hBi:=Own.bts hOi hcwi;refine qar 8 V<|Jb Z Tt Z Z Z (AC.mid [_,_,_] [] _ (qaG D _ _ _ _ _ _ (hOx.le (e26.t h29)) O)) ?_;rintro _ _ s30 h30 ⟨Oq9,rfl,Ao1,co1,rfl,_,_,hOo⟩;refine ⟨(fun x h _=>by cases h),?_⟩;simp only [cQ9,nQ9];refine qar 10 V<|Wu Z Tt 0 [_,_,_,_,_,_,_,_,_,_] Y9 (fun x hx=>by cases hx)<|za 11 Z (We Y4) Z<|qar 12 V<|Wu Z Tt 0 [_,_,_,_,_,_,_,_,_,_] Y9 (fun x hx=>by cases hx)<|za 13 Z (We Y4) Z<|qar 14 V<|Wu Z Tt 0 [_,_,_,_,_,_,_,_,_,_] Y9 (fun x hx=>by cases hx)<|qaf V ?_;refine qab (Mid.mk (bc,c1,yc,Oq9,Ao1,co1,Ai1,ci1) [] kp Pr ⟨(h4.t h26|>.t h29|>.t h30),⟨hOo,hBi.le h30,by rw [← hcy,qcj],hcy2⟩⟩)
    refine qbA Z Tt (Wd 0 Y5) Z<|qar 2 V<|Jb Z Tt Z Z Z (AC.mid [_,_] [] _ (qbR D _ _ _ _ _ _ (hAx.le e4) O)) ?_;rintro _ _ s31 h31 ⟨M1,rfl,Ad,c1,rfl,_,_,hO1⟩;refine ⟨(fun x h _=>by cases h),?_⟩;obtain ⟨bc,yc,rfl,rfl,hcy,hcy2⟩:=Own.blk_of hO1 hc0;simp only [cQ9,nQ9];refine za 9 Z (qat Z Z Z Z) Z<|qar 5 V<|Jb Z Tt Z Z Z (AC.pub (qaG D _ _ _ _ _ _ (hBx.le (e4.t h31)) O)) ?_;rintro _ _ s32 h32 ⟨rfl,Mi,swi,⟨Ai1,ci1,rfl,_,_,hOi⟩,hswi,hcwi⟩;refine ⟨fun _ _ h=>h,?_⟩;have hBi:=Own.bts hOi hcwi;refine qar 8 V<|Jb Z Tt Z Z Z (AC.mid [_,_,_] [] _ (qaG D _ _ _ _ _ _ (hOx.le (e4.t h31|>.t h32)) O)) ?_;rintro _ _ s33 h33 ⟨Oq9,rfl,Ao1,co1,rfl,_,_,hOo⟩;refine ⟨(fun x h _=>by cases h),?_⟩;simp only [cQ9,nQ9];refine qar 10 V<|Wu Z Tt 0 [_,_,_,_,_,_,_,_,_,_] Y9 (fun x hx=>by cases hx)<|za 11 Z (We Y4) Z<|qar 12 V<|Wu Z Tt 0 [_,_,_,_,_,_,_,_,_,_] Y9 (fun x hx=>by cases hx)<|za 13 Z (We Y4) Z<|qar 14 V<|Wu Z Tt 0 [_,_,_,_,_,_,_,_,_,_] Y9 (fun x hx=>by cases hx)<|qaf V ?_;refine qab (Mid.mk (bc,c1,yc,Oq9,Ao1,co1,Ai1,ci1) [] kp Pr ⟨(h4.t h31|>.t h32|>.t h33),⟨hOo,hBi.le h33,by rw [← hcy,qcj],hcy2⟩⟩)
   refine qbA Z Tt (Wd 0 Y5) Z<|qar 1 V<|qbA Z Tt (Wd 0 Y5) Z<|qar 2 V<|Jb Z Tt Z Z Z (AC.mid [_,_] [] _ (qbR D _ _ _ _ _ _ (hAx.le e4) O)) ?_;rintro _ _ s34 h34 ⟨M1,rfl,Ad,c1,rfl,_,_,hO1⟩;refine ⟨(fun x h _=>by cases h),?_⟩;obtain ⟨bc,yc,rfl,rfl,hcy,hcy2⟩:=Own.blk_of hO1 hc0;simp only [cQ9,nQ9];refine za 9 Z (qat Z Z Z Z) Z<|qar 5 V<|Jb Z Tt Z Z Z (AC.pub (qaG D _ _ _ _ _ _ (hBx.le (e4.t h34)) O)) ?_;rintro _ _ s35 h35 ⟨rfl,Mi,swi,⟨Ai1,ci1,rfl,_,_,hOi⟩,hswi,hcwi⟩;refine ⟨fun _ _ h=>h,?_⟩;have hBi:=Own.bts hOi hcwi;refine qar 8 V<|Jb Z Tt Z Z Z (AC.mid [_,_,_] [] _ (qaG D _ _ _ _ _ _ (hOx.le (e4.t h34|>.t h35)) O)) ?_;rintro _ _ s36 h36 ⟨Oq9,rfl,Ao1,co1,rfl,_,_,hOo⟩;refine ⟨(fun x h _=>by cases h),?_⟩;simp only [cQ9,nQ9];refine qar 10 V<|Wu Z Tt 0 [_,_,_,_,_,_,_,_,_,_] Y9 (fun x hx=>by cases hx)<|za 11 Z (We Y4) Z<|qar 12 V<|Wu Z Tt 0 [_,_,_,_,_,_,_,_,_,_] Y9 (fun x hx=>by cases hx)<|za 13 Z (We Y4) Z<|qar 14 V<|Wu Z Tt 0 [_,_,_,_,_,_,_,_,_,_] Y9 (fun x hx=>by cases hx)<|qaf V ?_;refine qab (Mid.mk (bc,c1,yc,Oq9,Ao1,co1,Ai1,ci1) [] kp Pr ⟨(h4.t h34|>.t h35|>.t h36),⟨hOo,hBi.le h36,by rw [← hcy,qcj],hcy2⟩⟩)
  refine qbA Z Tt (Wd 0 Y5) Z ?_;refine qeR 1 4 V ?_ ?_
  ·refine qbA Z Tt (Wd 0 Y5) Z ?_;refine qeR 2 4 V ?_ ?_;·refine Jb Z Tt Z Z Z (AC.mid [_,_] [] _ (qbR D _ _ _ _ _ _ (hAx.le e4) O)) ?_;rintro _ _ s37 h37 ⟨M1,rfl,Ad,c1,rfl,_,_,hO1⟩;refine ⟨(fun x h _=>by cases h),?_⟩;obtain ⟨bc,yc,rfl,rfl,hcy,hcy2⟩:=Own.blk_of hO1 hc0;simp only [cQ9,nQ9];refine qar 4 V<|qbA Z Tt (Wd 0 Y5) Z<|za 9 Z (qat Z Z Z Z) Z<|qar 5 V<|Jb Z Tt Z Z Z (AC.pub (qaG D _ _ _ _ _ _ (hBx.le (e4.t h37)) O)) ?_;rintro _ _ s38 h38 ⟨rfl,Mi,swi,⟨Ai1,ci1,rfl,_,_,hOi⟩,hswi,hcwi⟩;refine ⟨fun _ _ h=>h,?_⟩;have hBi:=Own.bts hOi hcwi;refine qar 8 V<|Jb Z Tt Z Z Z (AC.mid [_,_,_] [] _ (qaG D _ _ _ _ _ _ (hOx.le (e4.t h37|>.t h38)) O)) ?_;rintro _ _ s39 h39 ⟨Oq9,rfl,Ao1,co1,rfl,_,_,hOo⟩;refine ⟨(fun x h _=>by cases h),?_⟩;simp only [cQ9,nQ9];refine qar 10 V<|Wu Z Tt 0 [_,_,_,_,_,_,_,_,_,_] Y9 (fun x hx=>by cases hx)<|za 11 Z (We Y4) Z<|qar 12 V<|Wu Z Tt 0 [_,_,_,_,_,_,_,_,_,_] Y9 (fun x hx=>by cases hx)<|za 13 Z (We Y4) Z<|qar 14 V<|Wu Z Tt 0 [_,_,_,_,_,_,_,_,_,_] Y9 (fun x hx=>by cases hx)<|qaf V ?_;refine qab (Mid.mk (bc,c1,yc,Oq9,Ao1,co1,Ai1,ci1) [] kp Pr ⟨(h4.t h37|>.t h38|>.t h39),⟨hOo,hBi.le h39,by rw [← hcy,qcj],hcy2⟩⟩)
   refine qbA Z Tt (Wd 0 Y5) Z<|qar 2 V<|Jb Z Tt Z Z Z (AC.mid [_,_] [] _ (qbR D _ _ _ _ _ _ (hAx.le e4) O)) ?_;rintro _ _ s40 h40 ⟨M1,rfl,Ad,c1,rfl,_,_,hO1⟩;refine ⟨(fun x h _=>by cases h),?_⟩;obtain ⟨bc,yc,rfl,rfl,hcy,hcy2⟩:=Own.blk_of hO1 hc0;simp only [cQ9,nQ9];refine za 9 Z (qat Z Z Z Z) Z<|qar 5 V<|Jb Z Tt Z Z Z (AC.pub (qaG D _ _ _ _ _ _ (hBx.le (e4.t h40)) O)) ?_;rintro _ _ s41 h41 ⟨rfl,Mi,swi,⟨Ai1,ci1,rfl,_,_,hOi⟩,hswi,hcwi⟩;refine ⟨fun _ _ h=>h,?_⟩;have hBi:=Own.bts hOi hcwi;refine qar 8 V<|Jb Z Tt Z Z Z (AC.mid [_,_,_] [] _ (qaG D _ _ _ _ _ _ (hOx.le (e4.t h40|>.t h41)) O)) ?_;rintro _ _ s42 h42 ⟨Oq9,rfl,Ao1,co1,rfl,_,_,hOo⟩;refine ⟨(fun x h _=>by cases h),?_⟩;simp only [cQ9,nQ9];refine qar 10 V<|Wu Z Tt 0 [_,_,_,_,_,_,_,_,_,_] Y9 (fun x hx=>by cases hx)<|za 11 Z (We Y4) Z<|qar 12 V<|Wu Z Tt 0 [_,_,_,_,_,_,_,_,_,_] Y9 (fun x hx=>by cases hx)<|za 13 Z (We Y4) Z<|qar 14 V<|Wu Z Tt 0 [_,_,_,_,_,_,_,_,_,_] Y9 (fun x hx=>by cases hx)<|qaf V ?_;refine qab (Mid.mk (bc,c1,yc,Oq9,Ao1,co1,Ai1,ci1) [] kp Pr ⟨(h4.t h40|>.t h41|>.t h42),⟨hOo,hBi.le h42,by rw [← hcy,qcj],hcy2⟩⟩)
  refine qbA Z Tt (Wd 0 Y5) Z<|qar 1 V<|qbA Z Tt (Wd 0 Y5) Z<|qar 2 V<|Jb Z Tt Z Z Z (AC.mid [_,_] [] _ (qbR D _ _ _ _ _ _ (hAx.le e4) O)) ?_;rintro _ _ s43 h43 ⟨M1,rfl,Ad,c1,rfl,_,_,hO1⟩;refine ⟨(fun x h _=>by cases h),?_⟩;obtain ⟨bc,yc,rfl,rfl,hcy,hcy2⟩:=Own.blk_of hO1 hc0;simp only [cQ9,nQ9];refine za 9 Z (qat Z Z Z Z) Z<|qar 5 V<|Jb Z Tt Z Z Z (AC.pub (qaG D _ _ _ _ _ _ (hBx.le (e4.t h43)) O)) ?_;rintro _ _ s44 h44 ⟨rfl,Mi,swi,⟨Ai1,ci1,rfl,_,_,hOi⟩,hswi,hcwi⟩;refine ⟨fun _ _ h=>h,?_⟩;have hBi:=Own.bts hOi hcwi;refine qar 8 V<|Jb Z Tt Z Z Z (AC.mid [_,_,_] [] _ (qaG D _ _ _ _ _ _ (hOx.le (e4.t h43|>.t h44)) O)) ?_;rintro _ _ s45 h45 ⟨Oq9,rfl,Ao1,co1,rfl,_,_,hOo⟩;refine ⟨(fun x h _=>by cases h),?_⟩;simp only [cQ9,nQ9];refine qar 10 V<|Wu Z Tt 0 [_,_,_,_,_,_,_,_,_,_] Y9 (fun x hx=>by cases hx)<|za 11 Z (We Y4) Z<|qar 12 V<|Wu Z Tt 0 [_,_,_,_,_,_,_,_,_,_] Y9 (fun x hx=>by cases hx)<|za 13 Z (We Y4) Z<|qar 14 V<|Wu Z Tt 0 [_,_,_,_,_,_,_,_,_,_] Y9 (fun x hx=>by cases hx)<|qaf V ?_;refine qab (Mid.mk (bc,c1,yc,Oq9,Ao1,co1,Ai1,ci1) [] kp Pr ⟨(h4.t h43|>.t h44|>.t h45),⟨hOo,hBi.le h45,by rw [← hcy,qcj],hcy2⟩⟩)
 intro g s3 I3;obtain ⟨bc,c1,yc,Oq9,Ao1,co1,Ai1,ci1⟩:=g;obtain ⟨hOo,hBi,hcc,hcc2⟩:=I3.2;dsimp only at hOo hBi hcc hcc2;dsimp only;refine Sr<|qad (qao 0 [_,_,_,_,_,_,_,_,_,_] Z Z Z Z Z) Z<|Wb Y5<|Wl 1 Y6<|qex (Value.int .u32) Z fun bq s46 h46=>qad (qak [(_,_),(_,_),(_,_)] (_::_::_::_::_::_::_::_::_::_::_::(iv (List.replicate 256 0)++[_,_])) Z Z Z Z Z (by rfl)) Z<|qay Z Z fun bm s47 h47=>At Z Z<|Zs<|Sr<|Wb Y5<|Wl 3 Y6<|Ws Y4<|Zqm Z Z<|Nt<|Zp ?_;have e47:=e2.t I3.1|>.t h46|>.t h47;refine qaA (γ:=Nat×List Int×List (Int×Value×Nat)×Nat) (fun g=>[(4,_),(5,_),(27,_),(28,_),(29,.int .i64 (g.1:Int))]) (fun g=>(bm,cb (.slice (some ⟨bc,0,none⟩) m.cells.length c1::.int .u32 m.r0::.int .u32 m.r1::.int .u32 m.r2::.int .u32 m.r3::.int .u32 m.r4::.slice Ai1 nBx ci1::.slice Ao1 m.output.length co1::.int .i64 m.stop::.int .u32 m.code::.slice A n c::(iv g.2.1++[.map (some bq),.int .u32 0])) 181)::(bq,mp (Value.int .u32) g.2.2.1 g.2.2.2)::(β2,cb [.slice (some ⟨bc,0,none⟩) m.cells.length c1,.int .u32 m.r0,.int .u32 m.r1,.int .u32 m.r2,.int .u32 m.r3,.int .u32 m.r4,.slice Ai1 nBx ci1,.slice Ao1 m.output.length co1,.int .i64 m.stop,.int .u32 m.code] 136)::(β1,cb [.int .i64 t.cells,.slice A n c] 42)::(bc,cb (wv m.cells++yc) 46)::(Oq9++L)) (fun g tw=>Le D s47 tw∧(g.1≤n∧g.2.1.length=256∧(∀ c:Int,0≤c→c < 256→g.2.1[c.toNat]?=some (qfb t.ins c g.1:Int))∧(∀ c:Int,256≤c→(qaW g.2.2.1 c).getD (.int .i64 0)=.int .i64 (qfb t.ins c g.1:Int)))) (fun g=>n - g.1) (fun _ _ _ h hl=>⟨h.1.trans hl,h.2⟩) (0,List.replicate 256 0,[],0) (.c5 Z Z Z Z Z (.nil _)) Z ⟨Le.refl _,⟨Nat.zero_le _,by simp,fun c h1 h2=>by rw [List.getElem?_replicate,if_pos O];rfl,fun c _=>rfl⟩⟩ ?_;intro g s48 I48;obtain ⟨k,sm,es,ck⟩:=g;obtain ⟨hk0,hsm,hS,hB⟩:=I48.2;simp only at hk0 hsm hS hB;dsimp only;refine Sr<|qa8 Z Z Z<|Nt<|Zs<|?_;refine qaa Z ?_ ?_<;>intro c49
 ·have hk:k < n:=by omega
  obtain ⟨b,off,x,A',n',c',rfl,hx,hcx,hax,hnl,hcd⟩:=Inss.at_ (hA.le (e47.t I48.1)) hk;refine Zk<|Zt<|Zs<|Zp<|Sr<|Zqm Z Z<|qad (qau Z Z Z Z Z Z hk) Z<|qad (qaw Z Z Z hcx Z) Z<|qag Z [_,_,_,_] Z Z fun β50 s50 h50=>Zqa Z Z<|Wt 0 [_,_,_,_] Y9<|Nt<|Sr<|Wb Y5<|Wl 0 Y6<|qa8 Z Z Z<|Nt<|?_;refine qaa Z ?_ ?_<;>intro c51;·have hlt:=c51;refine qaH qac 9 Z [1] (by intro x hx;exact qas hx) fun s52 h52=>za 0 Z (qan Z) Z<|za 1 Z (We Y4) Z<|za 2 Z (Wd 0 Y5) Z<|za 3 Z (qan Z) Z<|za 4 Z (qaC Z Z (w64 O O)) Z<|za 5 Z (qam Z) Z<|za 6 Z (We Y4) Z<|za 7 Z (qkZ Z Z Z Z Z Z hcd.1 O) Z<|qar 8 V<|qbs Z Tt 1 _ Z Z Z Z Z (qnK _ _ _ _ _ _ _ _ _ _ _ _ _ hsm O) Z (qpt _ _ _ _ _ _ _ _ _ _ _ _ _ _ O) Z (fun x hx=>hx)<|qaf V<|Zb<|Zt<|Zr<|qaD Z Z Z (w64 O O)<|Zqm Z Z<|Zn<|?_;refine qab ⟨(k+1,sm.set x.code.toNat ((k:Int)+1),es,ck),[_],kp,Z,⟨(I48.1.t h50|>.t h52),by first|exact ⟨by omega,(qfC hx hcd hlt hsm hS).1,(qfC hx hcd hlt hsm hS).2,qjY hx hlt hB⟩|exact ⟨by omega,hsm,qja hx hlt hS,qnJ hx hB⟩⟩,Oz⟩
  have hlt:=c51;refine qaH qac 9 Z [2] (by intro x hx;exact qas hx) fun s54 h54=>za 0 Z (qan Z) Z<|za 1 Z (qam Z) Z<|za 2 Z (We Y4) Z<|za 3 Z (qca 1 Z Z Z Z (qoR _ _ _ _ _ _ _ _ _ _ _ _ _ hsm)) Z<|za 4 Z (We Y4) Z<|za 5 Z (Wd 0 Y5) Z<|za 6 Z (qan Z) Z<|za 7 Z (qaC Z Z (w64 O O)) Z<|qar 8 V<|qgJ (KeyK.int .u32) Z Tt 2 (qzo default) Z Z Z Z (fun x hx=>hx) fun ck1=>qaf V<|Zb<|Zt<|Zr<|qaD Z Z Z (w64 O O)<|Zqm Z Z<|Zn<|?_;refine qab ⟨(k+1,sm,qix es x.code (.int .i64 ((k:Int)+1)) ck,ck1),[_],kp,Z,⟨(I48.1.t h50|>.t h54),by first|exact ⟨by omega,(qfC hx hcd hlt hsm hS).1,(qfC hx hcd hlt hsm hS).2,qjY hx hlt hB⟩|exact ⟨by omega,hsm,qja hx hlt hS,qnJ hx hB⟩⟩,Oz⟩
 refine Zl<|Zv<|Zv<|Zd<|Zt<|Zs<|qbk 1<|qbk 4<|qbk 2<|qbk 4<|qbk 4<|Zr<|Zqm Z Z<|At Z Z<|Zo<|?_;refine rR [_,_] _ (.t1 Z) Z (e47.t I48.1) fun _ hS2=>?_;have hkn:k=n:=by omega
 subst hkn;exact ⟨_::_::_::Oq9,rfl,bm,sm,bq,es,ck,rfl,hsm,hS,hB,bc,c1,yc,Oq9,Ao1,co1,Ai1,nBx,ci1,rfl,hOo,hBi.le (h46.t h47|>.t I48.1|>.t hS2),hcc,hcc2⟩
end Go.Proofs.YtflplmcjbppfcaaGreatDoor
namespace Go.Proofs.YtflplmcjbppfcaaGreatDoor
open Go Go.FL
structure MU(m:Mst):Prop where
 u0:U32 m.r0
 u1:U32 m.r1
 u2:U32 m.r2
 u3:U32 m.r3
 u4:U32 m.r4
 code:U32 m.code
def qhm:Mst:=⟨[],0,0,0,0,0,[],[],0,0⟩
def qBL:MU qhm:=by constructor<;>exact ⟨by decide,by decide⟩
def StW(s:World)(m:Mst)(v:Value):Prop:=∃ A nA cA B nB cB Oq9 nO cO,v=.agg #[.slice A nA cA,.int .u32 m.r0,.int .u32 m.r1,.int .u32 m.r2,.int .u32 m.r3,.int .u32 m.r4,.slice B nB cB,.slice Oq9 nO cO,.int .i64 m.stop,.int .u32 m.code]
 ∧ Wds s A nA cA m.cells∧Bts s B nB cB m.input∧Bts s Oq9 nO cO m.output
def StW.zero(s:World):StW s qhm (.agg #[.slice none 0 0,.int .u32 0,.int .u32 0,.int .u32 0,.int .u32 0,.int .u32 0,.slice none 0 0,.slice none 0 0,.int .i64 0,.int .u32 0]):=
 ⟨none,0,0,none,0,0,none,0,0,rfl,Wds.nil _ _ _ O,Bts.nil _ _ _ O,Bts.nil _ _ _ O⟩
structure SOK(m:Mst):Prop where
 stop:0≤m.stop∧m.stop≤5
 code:m.code≠0→m.stop=1
def qwz(t:Tab)(m:Mst):(qbI t m).1=0→(qbI t m).2=0:=by
 unfold qbI;repeat' split
 all_goals (intro h;first|rfl|contradiction|(exact absurd h Dc))
def qzR{t:Tab}{m:Mst}{s:World}{A Ax:Option Addr}{n c nx cx:Nat}(hX:Inss s A n c t.ins)(hA:Wds s Ax nx cx m.cells)(hU:MU m)(h:(qbI t m).1=0):TabG t∧MOK m∧SOK m∧(m.cells.length:Int)=t.cells:=by
 unfold qbI at h;split at h
 · contradiction
 rename_i h0;simp at h0;have hG:=qAo hX h0;split at h
 · exact absurd h Dc
 rename_i h1;split at h
 · exact absurd h Dc
 rename_i h2;split at h
 · exact absurd h Dc
 rename_i h3;split at h
 · exact absurd h Dc
 rename_i h4;have:=hG.cells;refine ⟨hG,⟨by omega,fun x hx=>?_,hU.u0,hU.u1,hU.u2,hU.u3,hU.u4,by omega,by omega,hU.code⟩,⟨by omega,fun hc=>by omega⟩,by omega⟩;obtain ⟨i,hi⟩:=List.getElem?_of_mem hx;obtain ⟨_,_,_,_,_,_,_,h5⟩:=hA.2.2.2 i x hi;exact h5
def qwy{t:Tab}{m:Mst}(ht:(qaO t).1=0)(hm:MOK m)(hs:SOK m)(hl:(m.cells.length:Int)=t.cells):qbI t m=(0,0):=by
 have h1:=hm.input;have h2:=hm.output;have h3:=hs.stop;have h4:=hs.code;unfold qbI;rw [if_neg O,if_neg O,if_neg O,if_neg O,if_neg O]
def qu7(m:Mst)(a:Ac)(op:Int):(qcc m a op).cells.length=m.cells.length:=by
 unfold qcc;simp only;repeat' split
 all_goals simp [qf5]
def qu8{m:Mst}(a:Ac)(op:Int)(h0:m.stop=0)(hc:m.code=0):SOK (qcc m a op)∧((qcc m a op).stop=0→(qcc m a op).code=0):=by
 unfold qcc;simp only;repeat' split
 all_goals (refine ⟨⟨?_,?_⟩,?_⟩<;>simp [qf5,h0,hc])
def qi1{l:List Ac}(hl:∀ a∈l,AcOK a){m:Mst}(hm:MOK m)(h0:m.stop=0)(hc:m.code=0){op:Int}(ho:U32 op) :
    MOK (qcO m op l)∧SOK (qcO m op l)∧(qcO m op l).cells.length=m.cells.length∧((qcO m op l).stop=0→(qcO m op l).code=0):=by
  induction l generalizing m with
  | nil=>exact ⟨hm,⟨by simp only [qcO];omega,fun h=>by simp only [qcO] at h;contradiction⟩,rfl,fun _=>hc⟩
  | cons a r ih=>
    have h1:=qnz hm (hl a Mc) ho;obtain ⟨h2,h3⟩:=qu8 a op h0 hc;have h4:=qu7 m a op;simp only [qcO];split
    · rename_i hs
      obtain ⟨k1,k2,k3,k4⟩:=ih (fun b hb=>hl b (List.mem_cons_of_mem _ hb)) h1 hs (h3 hs);exact ⟨k1,k2,by omega,k4⟩
    · exact ⟨h1,h2,h4,h3⟩
def qj1{t:Tab}(hG:TabG t){m:Mst}(hm:MOK m)(h0:m.stop=0)(hc:m.code=0) :
    MOK (qcZ t m)∧SOK (qcZ t m)∧(qcZ t m).cells.length=m.cells.length∧((qcZ t m).stop=0→(qcZ t m).code=0):=by
  have hu:∀ i,U32 (m.cells.getD i 0):=fun i=>by
    by_cases hl:i < m.cells.length
    · simp only [List.getD,List.getElem?_eq_getElem hl,Option.getD_some];exact hm.wide _ (List.getElem_mem hl)
    · simp [List.getD,List.getElem?_eq_none (Nat.le_of_not_lt hl)];exact ⟨by decide,by decide⟩
  have hst:∀ k:Int,0≤k→k≤5→MOK { m with stop:=k }∧SOK { m with stop:=k }∧({ m with stop:=k }:Mst).cells.length=m.cells.length∧(({ m with stop:=k }:Mst).stop=0→({ m with stop:=k }:Mst).code=0):=fun k h1 h2=>
    ⟨⟨hm.cells,hm.wide,hm.u0,hm.u1,hm.u2,hm.u3,hm.u4,hm.output,hm.input,hm.code⟩,⟨⟨h1,h2⟩,fun h=>absurd hc h⟩,rfl,fun _=>hc⟩
  have hr4:∀ v:Int,U32 v→MOK { m with r4:=v }:=fun v hv=>⟨hm.cells,hm.wide,hm.u0,hm.u1,hm.u2,hm.u3,hv,hm.output,hm.input,hm.code⟩;have h4:=hm.u4;have h5:=hm.cells;unfold U32 at h4;unfold qcZ;split
  · exact hst 3 O O
  rename_i hfar;split
  · exact hst 2 O O
  rename_i x hx;have hmem:∃ i:Nat,t.ins[i]?=some x:=List.getElem?_of_mem (List.mem_of_find?_eq_some hx);obtain ⟨i,hi⟩:=hmem;have hac:∀ a∈x.acts,AcOK a:=fun a ha=>(hG.acts i x a hi ha).1;split
  · split
    · exact hst 3 O O
    · exact qi1 hac (hr4 (m.r4+2) ⟨by omega,by omega⟩) h0 hc (hu _)
  · exact qi1 hac (hr4 (m.r4+1) ⟨by omega,by omega⟩) h0 hc ⟨by decide,by decide⟩
def qkK(t:Tab)(m:Mst)(k:Int):Mst×Int×Int×Int:=
 if (qbI t m).1≠0 then (qhm,0,(qbI t m).1,(qbI t m).2)
 else if k < 0∨50000000 < k then (qhm,0,4,-3)
 else ((qfN t m k.toNat).1,((qfN t m k.toNat).2:Int),0,0)
def qrO{t:Tab}{m:Mst}{k:Int}(h:(qbI t m).1≠0):qkK t m k=(qhm,0,(qbI t m).1,(qbI t m).2):=by unfold qkK;rw [if_pos h]
def qrP{t:Tab}{m:Mst}{k:Int}(h:(qbI t m).1=0)(hk:k < 0∨50000000 < k):qkK t m k=(qhm,0,4,-3):=by unfold qkK;rw [if_neg (by simpa using h),if_pos hk]
def qpg{t:Tab}{m:Mst}{k:Int}(h:(qbI t m).1=0)(hk:¬ (k < 0∨50000000 < k)):qkK t m k=((qfN t m k.toNat).1,((qfN t m k.toNat).2:Int),0,0):=by unfold qkK;rw [if_neg (by simpa using h),if_neg hk]
def qwl{t:Tab}{m mk:Mst}{K j:Nat}(h:qfN t m K=((qfN t mk (K - j)).1,j+(qfN t mk (K - j)).2))(hj:j < K)(h0:mk.stop=0) :
  qfN t m K=((qfN t (qcZ t mk) (K - (j+1))).1,(j+1)+(qfN t (qcZ t mk) (K - (j+1))).2):=by
 rw [h];obtain ⟨d,hd⟩:∃ d,K - j=d+1:=⟨K - j - 1,by omega⟩;rw [hd,show K - (j+1)=d by omega];simp only [qfN,h0,if_true,Prod.mk.injEq,true_and];omega
def qwk{t:Tab}{m mk:Mst}{K j:Nat}(h:qfN t m K=((qfN t mk (K - j)).1,j+(qfN t mk (K - j)).2))(he:¬ j < K∨¬ mk.stop=0):qfN t m K=(mk,j):=by
 rw [h];cases hd:K - j with
 | zero=>simp [qfN]
 | succ d=>
  rcases he with he|he
  · omega
  · simp [qfN,he]
open Go.FL
attribute [local irreducible] JC JO JA JB qaZ qaL qb4 AC fill CellsAt QE Ev Mid
def qpW{s:World}{bc cc:Nat}{l:List Int}{yc:List Value}(hp:CellsAt s bc 0 (wv l++yc))(hu:∀ x∈l,U32 x)(h1:l.length+yc.length=cc)(h2:cc≤9223372036854775807):Wds s (some ⟨bc,0,none⟩) l.length cc l:=
 Own.wds (e:=0) (A:=[(bc,cb (wv l++yc) 0)]) (.blk bc cc l.length (wv l) yc (by simp [wv]) (by rw [qcj];omega) O h2) hu (fun b zs t hm=>by
  simp only [List.mem_singleton,Prod.mk.injEq,cb,Obj.cells.injEq] at hm;obtain ⟨rfl,h,rfl,_⟩:=hm;have e:zs=wv l++yc:=by simpa using h
  rw [e];exact hp)
def qbx:U32 0:=⟨by decide,by decide⟩
def qua{m:Mst}(h:SOK m)(h0:m.stop=0):m.code=0:=by
 by_cases hc:m.code=0
 · exact hc
 · have:=h.code hc;omega
def Cz16{p:Prop} (h:p:=by
 refine ⟨[_,_,_],Z,fun s2 h2 hp=>?_⟩;rw [qrP hst0 hfar];exact ⟨_,StW.zero _,rfl⟩):p:=h
def Cz17{p:Prop} (h:p:=by
 refine ⟨_::_::_::O1,Z,fun s2 h2 hp=>?_⟩;rw [qpg hst0 hin,qwk hrun hend];exact ⟨_,⟨_,_,_,_,_,_,_,_,_,rfl,qpW (hp _ _ _ (List.mem_cons_of_mem _ Mc)) hok1.wide hcc1 hcc21,hB9.le ((Lr D).t (hS2.t h2)),Own.bts hO1 hp.tail.tail.tail⟩,rfl⟩):p:=h
def qwj(D:Nat)(L:Hl)(s:World)(t:Tab)(A:Option Addr)(n c:Nat)(hA:Inss s A n c t.ins)(m:Mst)(Ax Bx Ox:Option Addr)(nAx cAx nBx cBx nOx cOx:Nat)(hAx:Wds s Ax nAx cAx m.cells)(hBx:Bts s Bx nBx cBx m.input)(hOx:Bts s Ox nOx cOx m.output)(hU:MU m)(k:Int):AC Tryz.prog D 60 [.agg #[.int .i64 t.cells,.slice A n c],.agg #[.slice Ax nAx cAx,.int .u32 m.r0,.int .u32 m.r1,.int .u32 m.r2,.int .u32 m.r3,.int .u32 m.r4,.slice Bx nBx cBx,.slice Ox nOx cOx,.int .i64 m.stop,.int .u32 m.code],.int .i64 k] L s fun v L' s'=>∃ M',L'=M'++L∧∀ s2,Le D s' s2→Pub M' s2→∃ vs,StW s2 (qkK t m k).1 vs∧v=.tuple #[vs,.int .i64 (qkK t m k).2.1,.agg #[.int .i64 (qkK t m k).2.2.1,.int .i64 (qkK t m k).2.2.2]]:=by
 have hF:=qwz t m;refine qae (fn:=Tryz.f60) qav Tryz.func60 V Z Tryz.ntmps60 Z (rs:=[.cell 6 136,.tmp 7,.cell 8 27]) Z [(0,_),(1,_),(2,_)] Z<|Sr<|qay Z Z fun β1 s1 h1=>qay Z Z fun β2 s2 h2=>qag Z [_,_,_,_,_,_,_,_,_,_] Z Z fun β3 s3 h3=>Zqa Z Z<|qag Z [_,_] Z Z fun β4 s4 h4=>Nt<|Zs<|Sr<|qad (qao 3 [_,_] Z Z Z Z Z) Z<|qad (qao 2 [_,_,_,_,_,_,_,_,_,_] Z Z Z Z Z) Z<|Je Z Z Z (qtv D _ _ _ _ _ _ (hA.le (h1.t h2|>.t h3|>.t h4)) _ _ _ _ _ _ _ _ _ _ (hAx.le (h1.t h2|>.t h3|>.t h4)) (hBx.le (h1.t h2|>.t h3|>.t h4)) (hOx.le (h1.t h2|>.t h3|>.t h4))) fun s5 h5=>qag Z [_,_] Z Z fun β6 s6 h6=>Wt 0 [_,_] Y9<|Nt<|Sr<|qad (qao 0 [_,_] Z Z Z Z Z) Z<|qad (qak [] [_,_] Z Z Z Z Z Z) Z<|qad (qb9 Z Z (qbL _ _ _ _)) Z<|Nt<|?_;have e6:=h1.t h2|>.t h3|>.t h4|>.t h5|>.t h6;refine qaM Z ?_ ?_<;>intro c7;·have hbad:(qbI t m).1≠0:=fun h=>c7 ⟨h,hF h⟩;refine Zs<|qaH qac 5 Z [2,1] (by intro x hx;exact qas hx) fun s8 h8=>za 0 Z (qak [] [_,_,_,_,_,_,_,_,_,_] Z Z Z Z Z Z) Z<|za 1 Z (qao 0 [_,_] Z Z Z Z Z) Z<|qar 2 V<|Wu Z Tt 2 [_,_,_,_,_,_,_,_,_,_] Y9 (sM (sbY (sbN (qet (sbE _)))))<|za 3 Z (qa6 Z) Z<|qar 4 V<|Wu Z Tt 1 [_,_] Y9 (sM (sbY (sbN (qet (sbE _)))))<|qaf V<|Zt<|Zo<|Zu<|?_;refine rR [_,_] _ (.agg (us:=[_,_,_,_,_,_,_,_,_,_]) 2 Z Z Z Z Z (.tmp Z (.agg (us:=[_,_]) 1 Z Z Z Z Z (.nil)))) Z (e6.t h8) fun _ hS2=>?_;refine ⟨[_,_,_],Z,fun s2 h2 hp=>?_⟩;rw [qrO hbad];exact ⟨_,StW.zero _,rfl⟩
 have hst0:(qbI t m).1=0:=c7.1;obtain ⟨hG,hok,hsok,hlen⟩:=qzR hA hAx hU hst0;refine Zk<|Zt<|Zs<|Sr<|Zqm Z Z<|qa8 Z Z Z<|Zqm Z Z<|?_;refine qai (t:=22) Z ?_ ?_<;>intro c9
 ·refine Wf Y4<|Wf Y4<|ZqT Z Z Z<|Nt<|Zy Z<|?_;have hfar:k < 0∨50000000 < k:=by omega
  refine Sr<|qad (qak [] [_,_,_,_,_,_,_,_,_,_] Z Z Z Z Z Z) Z<|Je Z Z Z (qby D _ _ _ _) fun s10 h10=>Wt 2 [_,_,_,_,_,_,_,_,_,_] Y9<|Zqa Z Z<|Wt 1 [_,_] Y9<|Nt<|Zo<|Zu<|?_;exact rR [_,_] _ (.agg (us:=[_,_,_,_,_,_,_,_,_,_]) 2 Z Z Z Z Z (.tmp Z (.agg (us:=[_,_]) 1 Z Z Z Z Z (.nil)))) Z (e6.t h10) fun _ hS2=>Cz16
 refine Zg Z Z<|Zqm Z Z<|Zg Z Z<|qbl Z Z Z<|ZqF Z Z Z<|Nt<|?_;refine qaa Z ?_ ?_<;>intro c11
 ·have hfar:k < 0∨50000000 < k:=by omega
  refine Sr<|qad (qak [] [_,_,_,_,_,_,_,_,_,_] Z Z Z Z Z Z) Z<|Je Z Z Z (qby D _ _ _ _) fun s12 h12=>Wt 2 [_,_,_,_,_,_,_,_,_,_] Y9<|Zqa Z Z<|Wt 1 [_,_] Y9<|Nt<|Zo<|Zu<|?_;exact rR [_,_] _ (.agg (us:=[_,_,_,_,_,_,_,_,_,_]) 2 Z Z Z Z Z (.tmp Z (.agg (us:=[_,_]) 1 Z Z Z Z Z (.nil)))) Z (e6.t h12) fun _ hS2=>Cz16
 have hin:¬ (k < 0∨50000000 < k):=by omega
 refine Zk<|Zt<|Sr<|qad (qao 4 [_,_] Z Z Z Z Z) Z<|qad (qao 3 [_,_,_,_,_,_,_,_,_,_] Z Z Z Z Z) Z<|Jc Z Z Z (AC.mid [_,_,_,_,_] [] _ (qv8 D _ _ _ _ _ _ (hA.le e6) _ _ _ _ _ _ _ _ _ _ (hAx.le e6) (hBx.le e6) (hOx.le e6) hok (by have:=hG.cells;omega))) ?_;rintro _ _ s13 h13 ⟨M1,rfl,bm,sm,bq,es,ck,rfl,hsm,hS,hB,bc,cc,yc,Oq9,Ao,co,Ai,ni,ci,rfl,hO,hI,hcc,hcc2⟩;simp only [cQ9,nQ9];refine At Z Z<|Sr<|At Z Z<|Zs<|Zp<|?_;refine qbV [_,_,_,_,_] (γ:=Nat×Mst×Int×Hl) (fun g=>[(2,_),(6,_),(7,_),(8,_),(10,_),(11,.int .i64 (g.1:Int))]) (fun g=>g.2.2.2++L) (fun g tw=>Le D s13 tw∧(g.1≤k.toNat∧qiX bm (.slice A n c) sm bq es ck g.2.2.1 g.2.1 g.2.2.2 tw∧MOK g.2.1∧SOK g.2.1∧U32 g.2.2.1∧qfN t m k.toNat=((qfN t g.2.1 (k.toNat - g.1)).1,g.1+(qfN t g.2.1 (k.toNat - g.1)).2))) (fun g=>k.toNat - g.1) (fun _ _ _ h hl=>⟨h.1.trans hl,by obtain ⟨_,k1,⟨bc,cc,yc,Oq9,Ao,co,Ai,ni,ci,k2,k3,k4,k5⟩,k6⟩:=h;exact ⟨k1,⟨bc,cc,yc,Oq9,Ao,co,Ai,ni,ci,k2,k3,k4.le hl,k5⟩,k6⟩⟩) (0,m,0,_::_::_::Oq9) (.c6 Z Z Z Z Z Z (.nil _)) Z ⟨Le.refl _,⟨Nat.zero_le _,⟨bc,cc,yc,Oq9,Ao,co,Ai,ni,ci,Z,hO,hI.le (Lr D),hcc,hcc2⟩,hok,hsok,qbx,by simp⟩⟩ ?_;intro g s14 I14;have e14:=e6.t h13|>.t I14.1;simp only [cQ9,nQ9];obtain ⟨j,mk,opk,Mk⟩:=g;obtain ⟨hj0,⟨bc1,cc1,yc1,O1,Ao1,co1,Ai1,ni1,ci1,hMk,hO1,hI1,hcc1,hcc21⟩,hok1,hsok1,hop1,hrun⟩:=I14.2;simp only at hj0 hMk hO1 hI1 hcc1 hok1 hop1 hrun hsok1;subst hMk;simp only [List.cons_append];refine Zs<|Sr<|Zqm Z Z<|Zqm Z Z<|qa8 Z Z Z<|Zqm Z Z<|?_;refine qai (t:=34) Z ?_ ?_<;>intro c15
 ·refine Zg Z Z<|Zqm Z Z<|Zg Z Z<|qaQ Z Z<|Zg Z Z<|W0 Y5<|Zg Z Z<|Wb Y5<|Zg Z Z<|Wl 5 Y6<|Zg Z Z<|qax Z Z Z<|ZqT Z Z Z<|Nt<|?_;refine qaa Z ?_ ?_<;>intro c16
  ·have hs1:mk.stop=0:=c16;have hj1:j < k.toNat:=by omega
   refine Zk<|Zt<|Zp<|Sr<|Zqm Z Z<|Jc Z Z Z (AC.mid [_,_,_,_,_] (_::_::_::O1) L (qwA D _ _ bm _ _ _ sm hsm bq es ck opk mk _ ⟨bc1,cc1,yc1,O1,Ao1,co1,Ai1,ni1,ci1,Z,hO1,hI1.le (Lr D),hcc1,hcc21⟩ t (hA.le e14) hG hok1 hop1 hs1 hS hB)) ?_;rintro _ _ s17 h17 ⟨M2,rfl,rfl,op2,hop2,bc2,cc2,yc2,O2,Ao2,co2,Ai2,ni2,ci2,rfl,hO2,hI2,hcc22,hcc23⟩;simp only [cQ9,nQ9];refine Nt<|Zr<|Zqm Z Z<|qaD Z Z Z (w64 O O)<|Zqa Z Z<|Zn<|Zb<|?_;refine qab ⟨(j+1,qcZ t mk,op2,_::_::_::O2),[],kp,Z,⟨(I14.1.t h17),⟨hj1,⟨bc2,cc2,yc2,O2,Ao2,co2,Ai2,ni2,ci2,Z,hO2,hI2.le (Lr D),hcc22,hcc23⟩,(qj1 hG hok1 hs1 (qua hsok1 hs1)).1,(qj1 hG hok1 hs1 (qua hsok1 hs1)).2.1,hop2,qwl hrun hj1 hs1⟩⟩,Oz⟩
  have hend:¬ j < k.toNat∨¬ mk.stop=0:=by first|exact .inr c16|exact .inl O
  refine Zl<|Zv<|Zv<|Zd<|Zt<|Sr<|Zqm Z Z<|Jc Z Z Z (AC.mid [_,_,_,_,_] [_] _ (qjN D _ _ _ _ _ _ _ _ _ _ _ _ _ _ _ _ _ _ _ hsm (hI1.le (Lr D)) (by have:=hI1.1;have:=hok1.input;omega))) ?_;rintro _ _ s18 h18 ⟨_,rfl,rfl,Ad,c9,rfl,hB9⟩;simp only [cQ9,nQ9];refine Zqm Z Z<|qad (qak [] [_,_] Z Z Z Z Z Z) Z<|Wt 2 [_,_,_,_,_,_,_,_,_,_] Y9<|Zqa Z Z<|Wt 1 [_,_] Y9<|Nt<|Zo<|?_;exact rR [_,_,_,_,_] _ (.agg (us:=[_,_,_,_,_,_,_,_,_,_]) 2 Z Z Z Z Z (.tmp Z (.agg (us:=[_,_]) 1 Z Z Z Z Z (.nil)))) Z (e14.t h18) fun _ hS2=>Cz17
 refine Wf Y4<|Wf Y4<|Wf Y4<|Wf Y4<|Wf Y4<|Wf Y4<|ZqF Z Z Z<|Nt<|Zz Z<|?_;have hend:¬ j < k.toNat∨¬ mk.stop=0:=by first|exact .inr trivial|exact .inl O
 refine Zl<|Zv<|Zv<|Zd<|Zt<|Sr<|Zqm Z Z<|Jc Z Z Z (AC.mid [_,_,_,_,_] [_] _ (qjN D _ _ _ _ _ _ _ _ _ _ _ _ _ _ _ _ _ _ _ hsm (hI1.le (Lr D)) (by have:=hI1.1;have:=hok1.input;omega))) ?_;rintro _ _ s19 h19 ⟨_,rfl,rfl,Ad,c9,rfl,hB9⟩;simp only [cQ9,nQ9];refine Zqm Z Z<|qad (qak [] [_,_] Z Z Z Z Z Z) Z<|Wt 2 [_,_,_,_,_,_,_,_,_,_] Y9<|Zqa Z Z<|Wt 1 [_,_] Y9<|Nt<|Zo<|?_;exact rR [_,_,_,_,_] _ (.agg (us:=[_,_,_,_,_,_,_,_,_,_]) 2 Z Z Z Z Z (.tmp Z (.agg (us:=[_,_]) 1 Z Z Z Z Z (.nil)))) Z (e14.t h19) fun _ hS2=>Cz17
end Go.Proofs.YtflplmcjbppfcaaGreatDoor
namespace Go.Proofs.YtflplmcjbppfcaaGreatDoor
open Go Go.FL
inductive All2{α β:Type}(R:α→β→Prop):List α→List β→Prop
 | nil:All2 R [] []
 | cons {a:α} {b:β} {l:List α} {m:List β} (h:R a b) (k:All2 R l m):All2 R (a::l) (b::m)
def qup{α:Type}{sz:Nat}{R:World→α→List Value→Prop}{s:World}{b:Nat}{l:List α}{css:List (List Value)}(h:All2 (fun x cs=>cs.length=sz∧R s x cs) l css) :
  ∀ off,CellsAt s b off css.flatten→∀ i x,l[i]?=some x→∃ cs,CellsAt s b (off+i * sz) cs∧cs.length=sz∧R s x cs:=by
 induction h with
 | nil=>intro off _ i x hi;cases hi
 | @cons a c l m h k ih=>
  intro off hc i x hi;have h1:CellsAt s b off c:=fun j v hj=>hc j v (by rw [List.flatten_cons,List.getElem?_append_left (List.getElem?_eq_some_iff.1 hj).1];exact hj);have h2:CellsAt s b (off+sz) m.flatten:=fun j v hj=>by
   have:=hc (sz+j) v (by rw [List.flatten_cons,List.getElem?_append_right O,h.1];simpa using hj)
   rwa [← Nat.add_assoc] at this
  cases i with
  | zero=>simp at hi;subst hi;exact ⟨c,by simpa using h1,h.1,h.2⟩
  | succ i=>
   obtain ⟨cs,k1,k2⟩:=ih (off+sz) h2 i x (by simpa using hi);exact ⟨cs,by rw [Nat.succ_mul];rwa [show off+sz+i * sz=off+(i * sz+sz) by omega] at k1,k2⟩
def Sl.lit{α:Type}{sz:Nat}{R:World→α→List Value→Prop}{s:World}{b:Nat}{l:List α}(css:List (List Value)){zs:List Value}(hc:CellsAt s b 0 zs)(hz:css.flatten=zs)(h:All2 (fun x cs=>cs.length=sz∧R s x cs) l css)(n:Nat)(hn:n=l.length)(hm:n≤9223372036854775807):Sl sz R s (some ⟨b,0,none⟩) n n l:=
 ⟨hn,Nat.le_refl _,hm,fun i x hi=>by
  obtain ⟨cs,h1,h2⟩:=qup h 0 (hz▸hc) i x hi;exact ⟨b,0,cs,rfl,h1,h2⟩⟩
def qke{s:World}{b cc:Nat}{l:List UInt8}{yc:List Value}(hp:CellsAt s b 0 (bv l++yc))(h1:l.length+yc.length=cc)(h2:cc≤9223372036854775807):Bts s (some ⟨b,0,none⟩) l.length cc l:=
 Own.bts (e:=0) (A:=[(b,cb (bv l++yc) 0)]) (.blk b cc l.length (bv l) yc (by simp [bv]) (by rw [qyx];omega) O h2) (fun b zs t hm=>by
  simp only [List.mem_singleton,Prod.mk.injEq,cb,Obj.cells.injEq] at hm;obtain ⟨rfl,h,rfl,_⟩:=hm;have e:zs=bv l++yc:=by simpa using h
  rw [e];exact hp)
end Go.Proofs.YtflplmcjbppfcaaGreatDoor
namespace Go.FL
open Go Go.RowKit
def qdA{P:Program}{TT:qa5}{D n:Nat}{Q:qbC}{fr:Fr}{s:World}{c:Code}(X A Y:Hl)(h:∀ s',Le D s s'→Pub A s'→JC P TT D n Q c fr (X++Y) s'):JC P TT D n Q c fr (X++(A++Y)) s:=fun ht a hr ho=>by
 have hp:(X++(A++Y)).Perm (A++(X++Y)):=by
  rw [← List.append_assoc,← List.append_assoc];exact (List.perm_append_comm).append_right Y
 rw [qbv hp _ ho];have ho2:=ho.perm hp;obtain ⟨e,d1,d2⟩:=qbn ho2;rw [e];refine h _ d2 (fun b zs t hm j u hj=>?_) ht a hr d1;rw [qcV ho2.left hm,Nat.zero_add];exact hj
end Go.FL
namespace Go.Proofs.YtflplmcjbppfcaaGreatDoor
open Go Go.FL
def All2.mono{α β:Type}{R R':α→β→Prop}{l:List α}{m:List β}(h:All2 R l m)(hr:∀ a b,R a b→R' a b):All2 R' l m:=by
 induction h with
 | nil=>exact .nil
 | cons h _ ih=>exact .cons (hr _ _ h) ih
def All2.snoc{α β:Type}{R:α→β→Prop}{l:List α}{m:List β}{a:α}{b:β}(h:All2 R l m)(k:R a b):All2 R (l++[a]) (m++[b]):=by
 induction h with
 | nil=>exact .cons k .nil
 | cons h _ ih=>exact .cons h ih
def Own.rows{α:Type}{e sz:Nat}{A:Hl}{Ad:Option Addr}{n c:Nat}{css:List (List Value)}{l:List α}{R:World→α→List Value→Prop}{s:World}(h:FL.Own e sz A (.slice Ad n c) n css.flatten)(hp:Pub A s)(ha:All2 (fun x cs=>cs.length=sz∧R s x cs) l css)(hn:n=l.length):Sl sz R s Ad n c l:=by
 generalize hv:Value.slice Ad n c=v at h;generalize hx:css.flatten=xs at h;cases h with
 | nil=>
  injection hv with e1 e2 e3;subst e1;subst e3;have:l=[]:=List.eq_nil_of_length_eq_zero hn.symm;subst this;exact ⟨rfl,Nat.le_refl _,by omega,fun i x h=>by cases h⟩
 | blk b cap n xs ys h1 h2 h3 h4=>
  injection hv with e1 e2 e3;subst e1;subst e3;subst hx;have hc:CellsAt s b 0 css.flatten:=fun j v hj=>hp b _ e Mc j v (by rw [List.getElem?_append_left (List.getElem?_eq_some_iff.1 hj).1];exact hj);exact ⟨hn,h3,h4,fun i x hi=>by
   obtain ⟨cs,k1,k2⟩:=qup ha 0 hc i x hi;exact ⟨b,0,cs,rfl,k1,k2⟩⟩
def Strs(s:World)(A:Option Addr)(n c:Nat)(l:List (List UInt8)):Prop:=Sl 1 (fun _ x cs=>cs=[St x]∧x.length≤9223372036854775807) s A n c l
def Strs.le{D:Nat}{s s':World}{A:Option Addr}{n c:Nat}{l:List (List UInt8)}(h:Strs s A n c l)(hl:Le D s s'):Strs s' A n c l:=Sl.le (fun _ _ h=>h) h hl
def Strs.at_{s:World}{A:Option Addr}{n c k:Nat}{l:List (List UInt8)}(h:Strs s A n c l)(hk:k < n):∃ b off x,A=some ⟨b,off,none⟩∧l[k]?=some x∧CellsAt s b (off+k) [St x]∧x.length≤9223372036854775807:=by
 have hl:k < l.length:=by rw [← h.1];exact hk
 obtain ⟨b,off,cs,h1,h2,_,rfl,h4⟩:=h.2.2.2 k l[k] (List.getElem?_eq_getElem hl);exact ⟨b,off,l[k],h1,List.getElem?_eq_getElem hl,by simpa using h2,h4⟩
end Go.Proofs.YtflplmcjbppfcaaGreatDoor
namespace Go.FL
open Go Go.RowKit
section
variable{P:Program}{TT:qa5}{D n:Nat}{Q:qbC}{fr:Fr}{L:Hl}{s:World}
def MidF{γ:Type}(D:Nat)(s:World)(fr:Fr)(X:Hl)(H:γ→Hl)(I:γ→World→Prop):Fr→Hl→World→Prop:=fun fr' L' s'=>∃ g A,Le D s s'∧L'.Perm (A++(X++H g))∧I g s'∧Keeps fr' fr
def MidF.mk{γ:Type}{X:Hl}{H:γ→Hl}{I:γ→World→Prop}{fr':Fr}{L':Hl}{s':World}(g:γ)(A:Hl)(hl:Le D s s')(hK:Keeps fr' fr)(hp:L'.Perm (A++(X++H g)))(hI:I g s'):MidF D s fr X H I fr' L' s':=⟨g,A,hl,hp,hI,hK⟩
def quE{γ:Type}{x y:Code}(X:Hl){Y:Hl}(_hX:L=X++Y)(H:γ→Hl)(I:γ→World→Prop)(mono:∀ g s s',I g s→Le D s s'→I g s')(h1:JC P TT D n (qaZ (MidF D s fr X H I) Q) x fr L s)
  (h2:∀ g s',Le D s s'→I g s'→JC P TT D n Q y fr (X++H g) s'):JC P TT D n Q (.seq x y) fr L s:=fun ht a hr ho=>
 wp_seq (wp_mono (h1 ht a hr ho) fun e a w ⟨fr',L',s',k1,k2,k3,k4⟩=>by
  cases e with
  | normal=>
   subst k3;obtain ⟨g,A,j0,j2,j3,j1⟩:=k4;rw [qbv j2 _ k2];obtain ⟨e,d1,d2⟩:=qbn (k2.perm j2);rw [e];exact h2 g _ (j0.trans d2) (mono _ _ _ j3 d2) ht a (k1.sub j1) d1
  | _=>exact ⟨fr',L',s',k1,k2,k3,k4⟩)
end
end Go.FL
namespace Go.Proofs.YtflplmcjbppfcaaGreatDoor
open Go Go.FL
def qvK{css:List (List Value)}{sz:Nat}(hl:∀ cs∈css,cs.length=sz){j:Nat}{u:Value}(h:css.flatten[j]?=some u):∃ i cs r,css[i]?=some cs∧cs[r]?=some u∧j=i * sz+r:=by
  induction css generalizing j with
  | nil=>cases h
  | cons c m ih=>
    have hc:=hl c Mc;rw [List.flatten_cons] at h;by_cases hj:j < c.length
    · rw [List.getElem?_append_left hj] at h
      exact ⟨0,c,j,rfl,h,by omega⟩
    · rw [List.getElem?_append_right O] at h
      obtain ⟨i,cs,r,h1,h2,h3⟩:=ih (fun x hx=>hl x (List.mem_cons_of_mem _ hx)) h;exact ⟨i+1,cs,r,by simpa using h1,h2,by rw [Nat.succ_mul];omega⟩
def acv(l:List Ac):List Value:=(l.map Ac.cs).flatten
def qva(l m:List Ac):acv (l++m)=acv l++acv m:=by simp [acv]
def qvb(l:List Ac):(acv l).length=l.length * 6:=by
 induction l with
 | nil=>rfl
 | cons a r ih=>simp only [acv,List.map_cons,List.flatten_cons,List.length_append,List.length_cons] at ih ⊢;rw [ih];simp only [Ac.cs,List.length_cons,List.length_nil];omega
def Acs.row{s:World}{A:Option Addr}{n c:Nat}{l:List Ac}(h:Acs s A n c l):Row s A n 6 (acv l):=by
  refine ⟨by rw [qvb,h.1],fun u hu=>?_,fun j u hj=>?_⟩
  · obtain ⟨cs,h1,h2⟩:=List.mem_flatten.1 hu
    obtain ⟨a,_,rfl⟩:=List.mem_map.1 h1;simp only [Ac.cs,List.mem_cons,List.not_mem_nil,or_false] at h2;rcases h2 with rfl|rfl|rfl|rfl|rfl|rfl<;>rfl
  · obtain ⟨i,cs,r,h1,h2,h3⟩:=qvK (sz:=6) (fun cs hcs=>by obtain ⟨a,_,rfl⟩:=List.mem_map.1 hcs;rfl) hj
    rw [List.getElem?_map] at h1;cases ha:l[i]? with
    | none=>simp [ha] at h1
    | some a=>
      simp [ha] at h1;subst h1;obtain ⟨b,off,cs,k1,k2,_,k3,_⟩:=h.2.2.2 i a ha;subst k3;refine ⟨b,off,k1,?_⟩;have:=k2 r u h2
      rwa [Nat.add_assoc,← h3] at this
def Own.acs{e:Nat}{A:Hl}{Ad:Option Addr}{n c:Nat}{l:List Ac}{s:World}(h:FL.Own e 6 A (.slice Ad n c) n (acv l))(hu:∀ a∈l,U32 a.x.val∧U32 a.y.val)(hp:Pub A s)(hn:n=l.length):Acs s Ad n c l:=by
 refine Own.rows (css:=l.map Ac.cs) h hp ?_ hn;clear h hn;induction l with
 | nil=>exact .nil
 | cons a r ih=>exact .cons ⟨rfl,rfl,hu a Mc⟩ (ih fun b hb=>hu b (List.mem_cons_of_mem _ hb))
def Acs.u{s:World}{A:Option Addr}{n c:Nat}{l:List Ac}(h:Acs s A n c l):∀ a∈l,U32 a.x.val∧U32 a.y.val:=fun a ha=>by
 obtain ⟨i,hi⟩:=List.getElem?_of_mem ha;obtain ⟨_,_,_,_,_,_,_,h5⟩:=h.2.2.2 i a hi;exact h5
def Tms(s:World)(A:Option Addr)(n c:Nat)(l:List Tm):Prop:=Sl 2 (fun _ x cs=>cs=[.int .i64 x.kind,.int .u32 x.val]∧U32 x.val) s A n c l
def Tms.le{D:Nat}{s s':World}{A:Option Addr}{n c:Nat}{l:List Tm}(h:Tms s A n c l)(hl:Le D s s'):Tms s' A n c l:=Sl.le (fun _ _ h=>h) h hl
def Tms.at_{s:World}{A:Option Addr}{n c k:Nat}{l:List Tm}(h:Tms s A n c l)(hk:k < n):∃ b off x,A=some ⟨b,off,none⟩∧l[k]?=some x∧CellsAt s b (off+k * 2) [.int .i64 x.kind,.int .u32 x.val]∧U32 x.val:=by
 have hl:k < l.length:=by rw [← h.1];exact hk
 obtain ⟨b,off,cs,h1,h2,_,rfl,h4⟩:=h.2.2.2 k l[k] (List.getElem?_eq_getElem hl);exact ⟨b,off,l[k],h1,List.getElem?_eq_getElem hl,h2,h4⟩
def tms0(s:World):Tms s none 0 0 []:=⟨rfl,Nat.le_refl _,by omega,fun i x h=>by cases h⟩
end Go.Proofs.YtflplmcjbppfcaaGreatDoor
namespace Go.FL
open Go Go.RowKit
def JL(P:Program)(TT:qa5)(D n:Nat)(ops:Array Oper)(Q:Exit→Act→World→Prop)(i:Nat)(d:Option Nat)(fr:Fr)(L:Hl)(s:World)(R:Value→Hl→World→Prop):Prop:=
 TabOK P TT→∀ a,FrRel n a fr→OKL D L s→wpOp P ops Q i (fun a' w'=>∃ v L' s',a'=a.put d v∧w'=fill L' s'∧OKL D L' s'∧Le D s s'∧R v L' s') a (fill L s)
def JE(P:Program)(TT:qa5)(D n:Nat)(ops:Array Oper)(Q:Exit→Act→World→Prop)(i d:Nat)(fr:Fr)(L:Hl)(s:World)(R:Value→World→Prop):Prop:=
 JL P TT D n ops Q i (some d) fr L s fun v L' s'=>L'=L∧R v s'
section
variable{P:Program}{TT:qa5}{D n:Nat}{ops:Array Oper}{Q':Exit→Act→World→Prop}{fr:Fr}{L:Hl}{s s':World}{d ty:Nat}{op:Op}{pos:String}{af:Array Edge}{v:Value}{i:Nat}{R:Value→World→Prop}
def qx2{L':Hl}{R:Value→Hl→World→Prop}(hi:ops[i]?=some ⟨some d,op,ty,pos,af,none⟩)(h:Ev P TT D fr op ty L s (.value v) L' s')(hle:Le D s s')(hR:R v L' s'):JL P TT D n ops Q' i (some d) fr L s R:=fun ht a hf ho=>by
 obtain ⟨h1,h2⟩:=h ht ho (some d) pos af none a.eval (fun x v hx=>hf.ev hx);simp only [wpOp,hi,Region.wanted,if_true];refine .inl ?_;simp only [Oper.wp,h1,Oper.upon];exact ⟨v,L',s',rfl,rfl,h2,hle,hR⟩
def qAA{L':Hl}{R:Value→Hl→World→Prop}(hi:ops[i]?=some ⟨none,op,ty,pos,af,none⟩)(h:Ev P TT D fr op ty L s .skip L' s')(hle:Le D s s')(hR:∀ v,R v L' s'):JL P TT D n ops Q' i none fr L s R:=fun ht a hf ho=>by
 obtain ⟨h1,h2⟩:=h ht ho none pos af none a.eval (fun x v hx=>hf.ev hx);simp only [wpOp,hi,Region.wanted,if_true];refine .inl ?_;simp only [Oper.wp,h1,Oper.upon];exact ⟨undef,L',s',rfl,rfl,h2,hle,hR _⟩
def qx1(hi:ops[i]?=some ⟨some d,op,ty,pos,af,none⟩)(h:Ev P TT D fr op ty L s (.value v) L s')(hle:Le D s s')(hR:R v s'):JE P TT D n ops Q' i d fr L s R:=qx2 hi h hle ⟨rfl,hR⟩
def qtD(hi:ops[i]?=some ⟨some d,op,ty,pos,af,none⟩)(h:QE P TT D fr op ty L s v)(hR:R v s):JE P TT D n ops Q' i d fr L s R:=
 qx1 hi (fun ht ho dst pos af g ρ hρ=>⟨h ht dst pos af g ρ hρ L s ho (Le.refl _) (fun _ hx=>hx),ho⟩) (Le.refl _) hR
def qj8{f:FuncId}{x:Operand}{xs:List Operand}{first captured vs:List Value}{ts:Array TypeId}{R0 R:Value→Hl→World→Prop}(hi:ops[i]?=some ⟨some d,.call { callee:=.value x,args:=xs.toArray,argTypes:=ts },ty,pos,af,none⟩)
  (hx:lk fr x=some (.func (.func f) first.toArray captured.toArray)) (hv:lks fr xs=some vs) (h:AC P D f (first++vs++captured) L s R0)
  (k:∀ v L' s',Le D s s'→R0 v L' s'→R v L' s'):JL P TT D n ops Q' i (some d) fr L s R:=fun hT a hf ho=>by
 obtain ⟨⟨fn,h1,h2,h3⟩,hc⟩:=h;have hρ:∀ x v,lk fr x=some v→a.eval x=v:=fun x v hx=>hf.ev hx;simp only [wpOp,hi,Region.wanted,if_true];refine .inl ?_;have hrun:(execOp a.eval ⟨some d,.call { callee:=.value x,args:=xs.toArray,argTypes:=ts },ty,pos,af,none⟩).run P (fill L s)=.ok (.enter f (first++vs++captured).toArray) (fill L s):=by
  have h2':¬ fn.name = "runtime.NumGoroutine" := by simpa using h2
  have h3':¬ fn.body=none:=by intro e;simp [e] at h3
  simp [execOp,resolve,Deferred.ofValue,invoke,callFunc,hρ x _ hx,qfX hρ hv,h1,h2',h3']
 simp only [Oper.wp,hrun,Oper.upon];refine (hc ho).mono ?_;rintro e w' ⟨v,L',s',rfl,rfl,h4,h5,h6⟩;exact ⟨v,L',s',rfl,rfl,h4,h5,k v L' s' h5 h6⟩
def qh7{f:FuncId}{x:Operand}{xs:List Operand}{first captured vs:List Value}{ts:Array TypeId}{R0:Value→Hl→World→Prop}(hi:ops[i]?=some ⟨some d,.call { callee:=.value x,args:=xs.toArray,argTypes:=ts },ty,pos,af,none⟩)
  (hx:lk fr x=some (.func (.func f) first.toArray captured.toArray)) (hv:lks fr xs=some vs) (h:AC P D f (first++vs++captured) L s R0)
  (k:∀ v L' s',Le D s s'→R0 v L' s'→L'=L∧R v s'):JE P TT D n ops Q' i d fr L s R:=qj8 hi hx hv h k
def qmi{t e len:Nat}{ti te:TI}{ps:List (Nat×Operand)}(hi:ops[i]?=some ⟨some d,.buildSlice t len ps.toArray,ty,pos,af,none⟩)(vals:List (Nat×Value))(vs:List Value)(ht:qaE TT t=some ti)(hk:ti.kind=.sl e)(he:qaE TT e=some te)(hv:lkp fr ps=some vals)(hsz:Nat.ble (len * te.size) 16777216=true)(hpos:Nat.blt 0 len=true)(hp:vals.all (fun x=>Nat.blt x.1 len)=true)
  (hb:bld (qgo te.size 0 len) (List.replicate len te.zeros).flatten vals=some vs) (k:∀ β s',Le D s s'→CellsAt s' β 0 vs→R (.slice (some ⟨β,0,none⟩) len len) s'):JE P TT D n ops Q' i d fr L s R:=fun hT a hr ho=>by
 obtain ⟨h1,h2,h3⟩:=qaP ho (cb vs e);obtain ⟨d1,d2,d3⟩:=qbn (A:=[(s.heap.size,cb vs e)]) (B:=L) h2;refine qx1 (s':=fill [(s.heap.size,cb vs e)] (s.alloc (dum D))) hi (fun hT _ dst pos af g ρ hρ=>⟨?_,d2⟩) (h3.trans d3) (k _ _ (h3.trans d3) (qfT h2)) hT a hr ho;rw [← d1];exact (qux vals vs ht hk he hv hsz hpos hp hb ho hT ho dst pos af g ρ hρ).1
def qAB{i0 t b off:Nat}{x y:Operand}{ti:TI}{t':Nat}{zs:List Value}{R:Value→Hl→World→Prop}(hi0:ops[i0]?=some ⟨none,.store t x y,ty,pos,af,none⟩)(i:Nat)(zs':List Value){L':Hl}(hx:lk fr x=some (.pointer (some ⟨b,off,none⟩)))(hy:lk fr y=some v)(hi:L[i]?=some (b,cb zs t'))(ht:qaE TT t=some ti)
  (hl:(qbc v).length=ti.size) (hle:Nat.ble (off+ti.size) zs.length=true) (h1:(qbc v).all (·.oneCell')=true) (hs:qbz zs off (qbc v)=zs') (hL:qco L i (cb zs' t')=L') (hR:∀ v,R v L' s):JL P TT D n ops Q' i0 none fr L s R:=by
 subst hL;exact qAA hi0 (qp9 i zs' hx hy hi ht hl hle h1 hs) (Le.refl _) hR
end
def qqQ(l:List Oper)(i j:Nat):Bool:=match l[i]? with
 | some o=>o.after.any fun e=>Region.binds .any e && e.on == j
 | none=>false
def dstB(l:List Oper)(ds:List Nat)(m:Nat):Bool:=(List.range m).all fun i=>(match l[i]? with|some o=>o.dst == ds[i]? && o.guard.isNone|none=>false)
def qBD(l:List Oper):Bool:=(List.range l.length).all fun i=>(match l[i]? with|some o=>o.after.all fun e=>!Region.binds .any e || decide (e.on < i)|none=>true)
def qyN(l:List Oper)(m:Nat):Bool:=(List.range m).all fun j=>(List.range (m+1)).any fun i=>decide (j < i) && qqQ l i j
def depB(l:List Oper)(dp:List (List Nat))(m:Nat):Bool:=(List.range m).all fun i=>(dp.getD i []).all fun j=>decide (j < m) && qqQ l i j
def qza(fr:Fr)(ds:List Nat)(n:Nat):Bool:=ds.all fun d=>(qa0 fr d).isNone && Nat.blt d n
def Obl(Φ:Nat→Value→World→Prop)(ds:List Nat)(s:World)(K:Fr→Prop):List Nat→Fr→Prop
 | [],fr=>K fr
 | j::r,fr=>∀ u,Φ j u s→Obl Φ ds s K r ((ds.getD j 0,u)::fr)
inductive Fct where
 | eq (v:Value)
 | row (len:Nat) (vs:List Value)
 | of (P:Value→World→Prop) (h:∀ D v s s',P v s→Le D s s'→P v s')
def Fct.holds:Fct→Value→World→Prop
 | .eq u,v,_=>v=u
 | .row len vs,v,s=>∃ b,v=.slice (some ⟨b,0,none⟩) len len∧CellsAt s b 0 vs
 | .of P _,v,s=>P v s
def Fct.le{D:Nat}(fs:List Fct)(i:Nat)(v:Value)(s s':World)(h:(fs.getD i (.eq undef)).holds v s)(hl:Le D s s'):(fs.getD i (.eq undef)).holds v s':=by
 generalize fs.getD i (.eq undef)=f at h ⊢;cases f with
 | eq u=>exact h
 | row len vs=>obtain ⟨b,h1,h2⟩:=h;exact ⟨b,h1,h2.le hl⟩
 | of P h2=>exact h2 _ _ _ _ h hl
def AllLt(p:Nat→Prop):Nat→Prop
 | 0=>True
 | m+1=>AllLt p m∧p m
def AllLt.get{p:Nat→Prop}{m:Nat}(h:AllLt p m):∀ i,i < m→p i:=by
 induction m with
 | zero=>intro i hi;omega
 | succ m ih=>
  intro i hi;rcases Nat.lt_succ_iff_lt_or_eq.1 hi with h1|rfl
  · exact ih h.1 i h1
  · exact h.2
def qmh{P:Program}{ops:Array Oper}{Q:Exit→Act→World→Prop}{o:Oper}{a:Act}{w:World}{K K':Act→World→Prop}(h:∀ a w,K a w→K' a w)
    (hh:if Region.wanted o (yielded ops a.tmps) then o.wp P a w K Q∨(o.asks P a w∧LetsOut Q) else K (a.put o.dst undef) w):if Region.wanted o (yielded ops a.tmps) then o.wp P a w K' Q∨(o.asks P a w∧LetsOut Q) else K' (a.put o.dst undef) w:=by
  by_cases hw:Region.wanted o (yielded ops a.tmps)=true
  · simp only [hw,if_true] at hh ⊢
    exact hh.imp (Oper.wp_mono h) id
  · simp only [hw] at hh ⊢
    exact h _ _ hh
section
variable{P:Program}{TT:qa5}{D n:Nat}{Q:qbC}{fr:Fr}{L:Hl}{s:World}
def FrRel.more{a:Act}(hr:FrRel n a fr){d:Nat}{u:Value}(h1:d < n)(h2:a.tmps[d]?=some u):FrRel n a ((d,u)::fr):=by
  refine ⟨hr.size,hr.defers,fun t ht v hv=>?_,fun t v hv=>?_⟩
  · rw [qbb] at hv
    split at hv
    · rename_i he;subst he;simp at hv;subst hv;exact h2
    · exact hr.slot t ht v hv
  · rw [qbb] at hv
    split at hv
    · rename_i he;subst he;exact h1
    · exact hr.top t v hv
def Obl.apply{Φ:Nat→Value→World→Prop}{ds:List Nat}{K:Fr→Prop}{a:Act}{js:List Nat}(hr:FrRel n a fr)(h:Obl Φ ds s K js fr)(hj:∀ j∈js,ds.getD j 0 < n∧∃ v,a.tmps[ds.getD j 0]?=some v∧Φ j v s):∃ fr',FrRel n a fr'∧K fr':=by
 induction js generalizing fr with
 | nil=>exact ⟨fr,hr,h⟩
 | cons j r ih=>
  obtain ⟨h1,v,h2,h3⟩:=hj j Mc;exact ih (hr.more h1 h2) (h v h3) fun x hx=>hj x (List.mem_cons_of_mem _ hx)
def qjp{l:List Oper}{i j:Nat}(h:qqQ l i j=true):∃ o,l[i]?=some o∧∃ e∈o.after,Region.binds .any e=true∧e.on=j:=by
  unfold qqQ at h;split at h
  · rename_i o ho
    rw [Array.any_eq_true] at h;obtain ⟨k,hk,h1⟩:=h;simp only [Bool.and_eq_true,beq_iff_eq] at h1;exact ⟨o,ho,o.after[k],Array.getElem_mem hk,h1.1,h1.2⟩
  · cases h
def FrRel.putF{a:Act}(h:FrRel n a fr){d:Option Nat}{v:Value}(hd:∀ x,d=some x→x < n∧qa0 fr x=none):FrRel n (a.put d v) fr:=by
 cases d with
 | none=>exact h
 | some d=>
  obtain ⟨h1,h2⟩:=hd d rfl;have hsz:=h.size;refine ⟨by simp [Act.put,hsz],by simp [Act.put,h.defers],fun t ht2 u hu2=>?_,h.top⟩;have hne:d≠t:=by intro e;rw [e] at h2;rw [h2] at hu2;cases hu2
  simp only [Act.put,Array.getElem?_setIfInBounds_ne hne];exact h.slot t ht2 u hu2
def qlB{ds:List Nat}(h:ds.Nodup){i j:Nat}(hi:i < ds.length)(hj:j < ds.length)(e:ds.getD i 0=ds.getD j 0):i=j:=by
 simp only [List.getD,List.getElem?_eq_getElem hi,List.getElem?_eq_getElem hj,Option.getD_some] at e;exact (List.getElem_inj h).1 e
def qlT{a:Act}{ds:List Nat}(hd:ds.Nodup){i:Nat}{v:Value}{s':World}{Φ:Nat→Value→World→Prop}(hi:i < ds.length)(hn:ds.getD i 0 < a.tmps.size)(hΦ:Φ i v s'){j:Nat}(hj:j < ds.length)(h:j≠i→∃ u,a.tmps[ds.getD j 0]?=some u∧Φ j u s'):∃ u,(a.put (some (ds.getD i 0)) v).tmps[ds.getD j 0]?=some u∧Φ j u s':=by
  by_cases hji:j=i
  · subst hji
    refine ⟨v,?_,hΦ⟩;generalize ds.getD j 0=dd at hn ⊢;simp [Act.put,hn]
  · obtain ⟨u,k1,k2⟩:=h hji
    have hne:ds.getD i 0≠ds.getD j 0:=fun e=>hji (qlB hd hj hi e.symm);exact ⟨u,by simp only [Act.put,Array.getElem?_setIfInBounds_ne hne];exact k1,k2⟩
def ordB(dp:List (List Nat))(m:Nat):Bool:=(List.range (m+1)).all fun i=>(dp.getD i []).all fun j=>decide (j < i)
def alcB(l:List Oper)(m z tz:Nat):Bool:=Nat.ble m z || match l[z]? with
 | some ⟨some _,.alloc t,_,_,_,none⟩=>t == tz
 | _=>false
def qBj(b:Bool)(l:List Oper)(fr:Fr)(ds:List Nat)(dp:List (List Nat))(dl:Option Nat)(m z tz n:Nat):Bool:=
 l.length == m+1 && (ds.length == m && (dstB l ds m && (qza fr (ds++dl.toList) n && (decide (ds++dl.toList).Nodup && (ordB dp m && (alcB l m z tz && ((b || Nat.ble m z) && (!b || (qBD l && (qyN l m && (depB l dp m && (Region.ready .any l.toArray ((Array.replicate m true).push false) == [m] && Region.ready .any l.toArray (((Array.replicate m true).push false).setIfInBounds m true) == []))))))))))))
def qtB{id:Nat}{b:Bool}{l:List Oper}(hm:P.follows .mixedOrders=true)(m z tz:Nat)(zs:List Value)(ds:List Nat)(dp:List (List Nat))(dl:Option Nat)(hB:qBj b l fr ds dp dl m z tz n=true)(I:World→Prop)(hI:∀ s',Le D s s'→I s')
    (Φ:Nat→Value→World→Prop) (mono:∀ i v s s',Φ i v s→Le D s s'→Φ i v s') (hz:z < m→(∃ ti,qaE TT tz=some ti∧ti.zeros=zs)∧∀ v s,Φ z v s)
    (obl0:AllLt (fun i=>i≠z→∀ Q' s' L',Le D s s'→I s'→(L'=L∨z < m∧∃ β,L'=(β,cb zs tz)::L)→Obl Φ ds s' (fun fr'=>JE P TT D n l.toArray Q' i (ds.getD i 0) fr' L' s' (Φ i)) (dp.getD i []) fr) m)
    (R:Fr→Hl→World→Prop) (hR:∀ fr1 L' s',(fr1=fr∨z < m∧∃ β,fr1=(ds.getD z 0,.pointer (some ⟨β,0,none⟩))::fr)→Le D s s'→R fr1 L' s'→Q .normal fr1 L' s')
    (last:∀ Q' s' L' fr1,Le D s s'→I s'→(¬ z < m∧fr1=fr∧L'=L∨z < m∧∃ β,fr1=(ds.getD z 0,.pointer (some ⟨β,0,none⟩))::fr∧L'=(β,cb zs tz)::L)→Obl Φ ds s' (fun fr'=>JL P TT D n l.toArray Q' m dl fr' L' s' fun _=>R fr1) (dp.getD m []) fr1) :
    JC P TT D n Q (.region id l.toArray b) fr L s:=by
  simp only [qBj,Bool.and_eq_true,beq_iff_eq,decide_eq_true_eq] at hB;obtain ⟨hN,h7,h1,h5,h6,hord,hal,hbz,hb⟩:=hB;have obl:=obl0.get;have h6':ds.Nodup:=(List.nodup_append.1 h6).1;have hfree:∀ d∈ds++dl.toList,d < n∧qa0 fr d=none:=fun d hd=>by
    have:=List.all_eq_true.1 h5 _ hd;simp only [Bool.and_eq_true,Option.isNone_iff_eq_none] at this;exact ⟨Nat.le_of_ble_eq_true this.2,this.1⟩
  have hdlt:∀ i,i < m→ds.getD i 0 < n∧qa0 fr (ds.getD i 0)=none:=fun i hi=>
    hfree _ (List.mem_append_left _ (by simp [List.getD,show i < ds.length by omega]))
  have hput:∀ {a:Act} {i:Nat} {v:Value},FrRel n a fr→i < m→FrRel n (a.put (some (ds.getD i 0)) v) fr:=fun h hi=>h.putF fun x hx=>by
    injection hx with hx;subst hx;exact hdlt _ hi
  have hputl:∀ {a:Act} {v:Value},FrRel n a fr→FrRel n (a.put dl v) fr:=fun h=>h.putF fun x hx=>hfree x (List.mem_append_right _ (by simp [hx]));have hdep:∀ i,i < m+1→∀ j∈dp.getD i [],j < i:=fun i hi j hj=>by
    have:=List.all_eq_true.1 (List.all_eq_true.1 hord i (List.mem_range.2 hi)) j hj;simpa using this
  cases b with
  | false=>
    have hmz:¬ z < m:=by have:=Nat.le_of_ble_eq_true (by simpa using hbz);omega
    refine qgK fun ht a0 hr0 ho0=>?_;have key:∀ k i,i+k=m→∀ (a:Act) (s':World),FrRel n a fr→OKL D L s'→Le D s s'→(∀ j,j < i→∃ v,a.tmps[ds.getD j 0]?=some v∧Φ j v s')→wpList P l.toArray (conc D n Q) (l.drop i) a (fill L s'):=by
      intro k;induction k with
      | zero=>
        intro i hi a s' hfr ho hle hfact;obtain rfl:i=m:=by omega
        obtain ⟨fr',hf',hJ⟩:=(last (conc D n Q) s' L fr hle (hI s' hle) (.inl ⟨hmz,rfl,rfl⟩)).apply hfr (a:=a) (fun j hj=>⟨(hdlt j (hdep i O j hj)).1,hfact j (hdep i O j hj)⟩);have h:=hJ ht a hf' ho;rw [List.drop_eq_getElem_cons (show i < l.length by omega),List.drop_of_length_le O];simp only [wpOp,List.getElem?_toArray,List.getElem?_eq_getElem (show i < l.length by omega)] at h;simp only [wpList];refine qmh ?_ h;rintro a' w' ⟨v,L2,s2,rfl,rfl,ho2,hl2,hq⟩;exact ⟨fr,L2,s2,hputl hfr,ho2,rfl,hR _ _ _ (.inl rfl) (hle.trans hl2) hq⟩
      | succ k ih=>
        intro i hi a s' hfr ho hle hfact;obtain ⟨fr',hf',hJ⟩:=(obl i O O (conc D n Q) s' L hle (hI s' hle) (.inl rfl)).apply hfr (a:=a) (fun j hj=>⟨(hdlt j (by have:=hdep i O j hj;omega)).1,hfact j (hdep i O j hj)⟩);have h:=hJ ht a hf' ho;rw [List.drop_eq_getElem_cons (show i < l.length by omega)];simp only [wpOp,List.getElem?_toArray,List.getElem?_eq_getElem (show i < l.length by omega)] at h;simp only [wpList];refine qmh ?_ h;rintro a' w' ⟨v,L2,s2,rfl,rfl,ho2,hl2,rfl,hq⟩;exact ih (i+1) O _ s2 (hput hfr O) ho2 (hle.trans hl2) fun j hj=>qlT h6' O (by rw [hfr.size];exact (hdlt i O).1) hq O fun hne=>by
          obtain ⟨u,k1,k2⟩:=hfact j O;exact ⟨u,k1,mono _ _ _ _ k2 hl2⟩
    exact key m 0 O a0 s hr0 ho0 (Le.refl _) fun j hj=>by omega
  | true=>
    simp only [Bool.not_true,Bool.false_or,Bool.and_eq_true,beq_iff_eq] at hb;obtain ⟨h2,h3,h4,h9,h10⟩:=hb;intro ht a0 hr0 ho0;have key:∀ (N:Nat) (todo:List Nat) (listed:Array Bool) (a:Act) (s':World) (L':Hl),todo.length=N→todo.Nodup→(∀ i,i∈todo↔i < m∧listed.getD i true=false)→listed.size=m+1→listed.getD m true=false →
        (∀ i o,l[i]?=some o→i < m→listed.getD i true=true→∀ e∈o.after,Region.binds .any e=true→listed.getD e.on false=true) →
        FrRel n a fr→OKL D L' s'→Le D s s'→(∀ i,i < m→listed.getD i true=true→∃ v,a.tmps[ds.getD i 0]?=some v∧Φ i v s')→(listed.getD z false=false∧L'=L∨z < m∧listed.getD z false=true∧∃ β,L'=(β,cb zs tz)::L∧a.tmps[ds.getD z 0]?=some (.pointer (some ⟨β,0,none⟩)))→wpAny P .any l.toArray (qrB D n Q) (N+1) listed a (fill L' s'):=by
      intro N;induction N with
      | zero=>
        intro todo listed a s' L' hlen _ hmem hsz hlast hcl hfr ho hle hfact hL;have hnil:todo=[]:=List.eq_nil_of_length_eq_zero hlen;subst hnil;have hall:∀ i,i < m→listed.getD i true=true:=fun i hi=>by
          cases hb:listed.getD i true with
          | true=>rfl
          | false=>exact absurd ((hmem i).2 ⟨hi,hb⟩) (by simp)
        have hl:listed=(Array.replicate m true).push false:=by
          apply Array.ext
          · simp [hsz]
          · intro i hi hi'
            rw [Array.getElem_push];have hg:listed.getD i true=listed[i]:=by simp [hi]
            split
            · rename_i hlt
              simp at hlt;rw [Array.getElem_replicate,← hg,hall i hlt]
            · rename_i hge
              simp at hge;have:i=m:=by omega
              subst this;rw [← hg,hlast]
        subst hl;have hfr1:∃ fr1,FrRel n a fr1∧(∀ {v:Value},FrRel n (a.put dl v) fr1)∧(¬ z < m∧fr1=fr∧L'=L∨z < m∧∃ β,fr1=(ds.getD z 0,.pointer (some ⟨β,0,none⟩))::fr∧L'=(β,cb zs tz)::L):=by
          rcases hL with ⟨q1,q2⟩|⟨q1,_,β,q2,q3⟩
          · refine ⟨fr,hfr,hputl hfr,.inl ⟨fun q=>?_,Z,q2⟩⟩
            have:=hall z q;simp [show z < m+1 by omega] at q1 this;rw [q1] at this;cases this
          · have hm1:=hfr.more (hdlt z q1).1 q3
            refine ⟨_,hm1,fun {v}=>hm1.putF fun x hx=>?_,.inr ⟨q1,β,Z,q2⟩⟩;have hf:=hfree x (List.mem_append_right _ (by simp [hx]));refine ⟨hf.1,?_⟩;rw [qbb,if_neg,hf.2];intro e;have hn2:=h6;rw [List.nodup_append] at hn2;exact hn2.2.2 _ (by simp [List.getD,show z < ds.length by omega]) _ (by simp [hx]) e
        obtain ⟨fr1,hf1,hf2,hcase⟩:=hfr1;obtain ⟨fr',hf',hJ⟩:=(last (qrB D n Q) s' L' fr1 hle (hI s' hle) hcase).apply hf1 (a:=a) (fun j hj=>by
          have hj':=hdep m O j hj;exact ⟨(hdlt j hj').1,hfact j hj' (hall j hj')⟩)
        refine ⟨fun h0=>absurd (h9▸h0) (by simp),fun i hi=>?_⟩;obtain rfl:i=m:=by rw [h9] at hi;simpa using hi
        refine wpOp_mono ?_ (hJ ht a hf' ho);rintro a' w' ⟨v,L2,s2,rfl,rfl,ho2,hl2,hq⟩;exact ⟨h10,fr1,L2,s2,hf2,ho2,rfl,hR _ _ _ (hcase.imp (·.2.1) fun ⟨q1,β,q2,_⟩=>⟨q1,β,q2⟩) (hle.trans hl2) hq⟩
      | succ N ih=>
        intro todo listed a s' L' hlen hnd hmem hsz hlast hcl hfr ho hle hfact hL;refine ⟨fun hready=>?_,fun i hi=>?_⟩
        ·
          exfalso;have hex:∃ i,i < m∧listed.getD i true=false:=by
            cases todo with
            | nil=>simp at hlen
            | cons x r=>exact ⟨x,(hmem x).1 Mc⟩
          have hleast:∃ i,(i < m∧listed.getD i true=false)∧∀ j,j < i→¬ (j < m∧listed.getD j true=false):=by
            obtain ⟨i,hi⟩:=hex;induction i using Nat.strongRecOn with
            | ind i ihi=>
              by_cases hx:∃ j,j < i∧(j < m∧listed.getD j true=false)
              · obtain ⟨j,hj1,hj2⟩:=hx
                exact ihi j hj1 hj2
              · exact ⟨i,hi,fun j hj hj2=>hx ⟨j,hj,hj2⟩⟩
          obtain ⟨i,⟨hi1,hi2⟩,hi3⟩:=hleast;have hlt:i < l.length:=by omega
          have hin:i∈Region.ready .any l.toArray listed:=by
            rw [mem_ready];refine ⟨hi2,l[i],by simp [hlt],fun e he hb=>?_⟩;have ht2:=List.all_eq_true.1 h2 i (List.mem_range.2 hlt);simp only [List.getElem?_eq_getElem hlt] at ht2;rw [Array.all_eq_true_iff_forall_mem] at ht2;have:=ht2 e he;simp only [hb,Bool.not_true,Bool.false_or,decide_eq_true_eq] at this;have hn:=hi3 e.on this;have hm1:e.on < m:=by omega
            have h8:listed.getD e.on true=true:=by
              cases hc:listed.getD e.on true with
              | true=>rfl
              | false=>exact absurd ⟨hm1,hc⟩ hn
            have h9:e.on < listed.size:=by omega
            simp only [Array.getD,h9,dif_pos] at h8 ⊢;exact h8
          rw [hready] at hin;cases hin
        · have hi':=hi
          rw [mem_ready] at hi;obtain ⟨hu,o,ho1,hall⟩:=hi;have hol:l[i]?=some o:=by simpa using ho1
          have hilen:i < l.length:=(List.getElem?_eq_some_iff.1 hol).1;have him:i≠m:=by
            intro e;subst e

            have hmax:∀ k,∀ j,j < i→i - j≤k→listed.getD j true=true:=by
              intro k;induction k with
              | zero=>intro j hj hk;omega
              | succ k ihk=>
                intro j hj hk;have hcv:=List.all_eq_true.1 h3 j (List.mem_range.2 hj);rw [List.any_eq_true] at hcv;obtain ⟨i2,hi2,hc⟩:=hcv;simp only [Bool.and_eq_true,decide_eq_true_eq] at hc;obtain ⟨o2,ho2,e,he,hb,hon⟩:=qjp hc.2;have hi2':=List.mem_range.1 hi2;have hgot:listed.getD e.on false=true:=by
                  by_cases hlastone:i2=i
                  · subst hlastone
                    rw [hol] at ho2;injection ho2 with ho2;subst ho2
                    exact hall e he hb
                  · exact hcl i2 o2 ho2 O (ihk i2 O O) e he hb
                rw [hon] at hgot;have h9:j < listed.size:=by omega
                simp only [Array.getD,h9,dif_pos] at hgot ⊢;exact hgot
            cases todo with
            | nil=>simp at hlen
            | cons x r=>
              have hx:=(hmem x).1 Mc;have:=hmax i x hx.1 O;rw [hx.2] at this;cases this
          have hilt:i < m:=by omega
          have hdeps:∀ j∈dp.getD i [],j < m∧listed.getD j true=true:=fun j hj=>by
            have hd:=List.all_eq_true.1 h4 i (List.mem_range.2 hilt);have hd2:=List.all_eq_true.1 hd j hj;simp only [Bool.and_eq_true,decide_eq_true_eq] at hd2;obtain ⟨o2,ho2,e,he,hb,hon⟩:=qjp hd2.2;rw [hol] at ho2;injection ho2 with ho2;subst ho2
            have hgot:=hall e he hb;rw [hon] at hgot;have h9:j < listed.size:=by omega
            simp only [Array.getD,h9,dif_pos] at hgot ⊢;exact ⟨hd2.1,hgot⟩
          have goon:∀ v L2 s2,OKL D L2 s2→Le D s' s2→Φ i v s2→(listed.getD z false=false∧i≠z∧L2=L∨z < m∧(listed.getD z false=true∧i≠z∨i=z)∧∃ β,L2=(β,cb zs tz)::L∧((a.put (some (ds.getD i 0)) v).tmps)[ds.getD z 0]?=some (.pointer (some ⟨β,0,none⟩)))→wpAny P .any l.toArray (qrB D n Q) (N+1) (listed.setIfInBounds i true) (a.put (some (ds.getD i 0)) v) (fill L2 s2):=by
            intro v L2 s2 ho2 hle2 hΦ hL2;refine ih (todo.erase i) _ _ s2 L2 (by rw [List.length_erase_of_mem ((hmem i).2 ⟨hilt,hu⟩)];omega) (hnd.erase i) (fun j=>?_) (by simpa using hsz) ?_ ?_ (hput hfr hilt) ho2 (hle.trans hle2) ?_ ?_
            · rw [hnd.mem_erase_iff,hmem j]
              by_cases hj:j=i
              · subst hj;simp [show j < listed.size by omega]
              · rw [getD_set_ne true (fun e=>hj e.symm)];simp [hj]
            · rw [getD_set_ne true him];exact hlast
            · intro j oj hoj hjm hlj e he hb
              by_cases hj:j=i
              · subst hj
                rw [hol] at hoj;injection hoj with hoj;subst hoj
                exact getD_set_true (hall e he hb)
              · rw [getD_set_ne true (fun e=>hj e.symm)] at hlj
                exact getD_set_true (hcl j oj hoj hjm hlj e he hb)
            · intro j hjm hlj
              refine qlT h6' O (by rw [hfr.size];exact (hdlt i hilt).1) hΦ O fun hj=>?_;rw [getD_set_ne true (fun e=>hj e.symm)] at hlj;obtain ⟨u,k1,k2⟩:=hfact j hjm hlj;exact ⟨u,k1,mono _ _ _ _ k2 hle2⟩
            · rcases hL2 with ⟨q1,q2,q3⟩|⟨q1,q2|rfl,q3⟩
              · exact .inl ⟨by rw [getD_set_ne false q2];exact q1,q3⟩
              · exact .inr ⟨q1,by rw [getD_set_ne false q2.2];exact q2.1,q3⟩
              · exact .inr ⟨q1,by simp [show i < listed.size by omega],q3⟩
          by_cases hiz:i=z
          · subst hiz
            have hLL:L'=L:=by
              rcases hL with ⟨_,q⟩|⟨_,q,_⟩
              · exact q
              · have h9:i < listed.size:=by omega
                simp only [Array.getD,h9,dif_pos] at hu q;rw [hu] at q;cases q
            subst hLL;obtain ⟨⟨ti,ht1,ht2⟩,hzΦ⟩:=hz hilt;simp only [alcB,hol,Bool.or_eq_true] at hal;rcases hal with hal|hal
            · have:=Nat.le_of_ble_eq_true hal;omega
            · split at hal
              · rename_i o2 d2 t2 ty2 pos2 af2 heq
                simp only [Option.some.injEq] at heq;subst heq;have hd2:d2=ds.getD i 0:=by
                  have:=List.all_eq_true.1 h1 i (List.mem_range.2 hilt);simp only [hol,Bool.and_eq_true,beq_iff_eq] at this;simp [List.getD,← this.1]
                subst hd2;obtain rfl:t2=tz:=by simpa using hal
                refine wpOp_mono ?_ (qx2 (TT:=TT) (n:=n) (fr:=fr) (R:=fun v L2 s2=>∃ β,v=.pointer (some ⟨β,0,none⟩)∧L2=(β,cb zs t2)::L') (ops:=l.toArray) (i:=i) (by simpa using hol) (qgq ht1 ho) (qaP ho (cb ti.zeros t2)).2.2 ⟨_,Z,by rw [ht2]⟩ ht a hfr ho);rintro a' w' ⟨v,L2,s2,rfl,rfl,ho2,hle2,β,rfl,rfl⟩;refine goon _ _ _ ho2 hle2 (hzΦ _ _) (.inr ⟨hilt,.inr Z,β,Z,?_⟩);have hn1:=(hdlt i hilt).1;have hsz2:=hfr.size;generalize ds.getD i 0=dd at hn1 ⊢;simp [Act.put,hsz2,hn1]
              · cases hal
          · obtain ⟨fr',hf',hJ⟩:=(obl i hilt hiz (qrB D n Q) s' L' hle (hI s' hle) (hL.imp (·.2) fun ⟨q1,_,β,q2,_⟩=>⟨q1,β,q2⟩)).apply hfr (a:=a) (fun j hj=>⟨(hdlt j (hdeps j hj).1).1,hfact j (hdeps j hj).1 (hdeps j hj).2⟩)
            refine wpOp_mono ?_ (hJ ht a hf' ho);rintro a' w' ⟨v,L2,s2,rfl,rfl,ho2,hle2,rfl,hΦ⟩;refine goon _ _ _ ho2 hle2 hΦ ?_;rcases hL with ⟨q1,q2⟩|⟨q1,q2,β,q3,q4⟩
            · exact .inl ⟨q1,hiz,q2⟩
            · refine .inr ⟨q1,.inl ⟨q2,hiz⟩,β,q3,?_⟩
              have hne:ds.getD i 0≠ds.getD z 0:=fun e=>hiz (qlB h6' O O e);simp only [Act.put,Array.getElem?_setIfInBounds_ne hne];exact q4
    have hstart:=key m (List.range m) (Array.replicate (m+1) false) a0 s.drew L (by simp) List.nodup_range (fun i=>⟨fun h=>⟨List.mem_range.1 h,by have:=List.mem_range.1 h;simp [show i < m+1 by omega]⟩,fun h=>List.mem_range.2 h.1⟩) (by simp) (by simp) (fun i o _ him hli=>by simp [show i < m+1 by omega] at hli) hr0 ho0.drew (Le.drew s) (fun i him hli=>by simp [show i < m+1 by omega] at hli) (.inl ⟨by simp [Array.getD],rfl⟩);refine wp_mono (wp_region_any (Q:=qrB D n Q) hm ?_) (fun e a w hq=>by
      cases e with
      | panic ch=>obtain ⟨h1,L1,s1,h2,h3,h4⟩:=hq;exact ⟨[],L1,s1,h1,h2,h3,h4 []⟩
      | _=>exact hq)
    rw [← qjo] at hstart;simpa [hN] using hstart
end
end Go.FL
