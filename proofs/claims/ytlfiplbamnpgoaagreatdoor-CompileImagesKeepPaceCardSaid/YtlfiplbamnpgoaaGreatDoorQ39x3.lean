/- Part 3. -/
import Derived.Test.YtlfiplbamnpgoaaGreatDoorQ39x2
import Derived.Lib.AppendStr
import Derived.Laws.IdiomStrings
import Derived.WideLaws
import Derived.ArgAppend
import Derived.Laws.RangeAny
import Derived.Lib.DecodeN
import Derived.Lib.SmallJoins
set_option linter.unusedVariables false
set_option linter.defProp false
set_option linter.unusedSimpArgs false
set_option linter.unnecessarySimpa false
set_option maxRecDepth 100000
set_option maxHeartbeats 8000000
namespace Go.Proofs.YtlfiplbamnpgoaaGreatDoor
open Go.Proofs.Tryz
open Go.FL
attribute [local irreducible] JC JO JA JB qaJ qax qbN AC fill CellsAt QE Ev Mid
variable(D:Nat)(L:Hl)(s:World)
def Cz9{p:Prop} (h:p:=by
 have hz:A=none:=by cases A<;>simp_all
 subst hz;have hl:l=[]:=by
  cases l with
  | nil=>rfl
  | cons x l=>obtain ⟨b,off,cs,h1,_⟩:=hA.2.2.2 0 x rfl;cases h1
 have hn0:=hA.1;subst hl;simp at hn0;subst hn0;exact ⟨[],rfl,none,0,rfl,Nat.le_refl _,by omega,.nil⟩):p:=h
def Cz10{p:Prop} (h:p:=by
 simp only [Nat.zero_add,List.nil_append] at o1;obtain ⟨Ad,c',rfl,k1,k2⟩:=Own.slice o1;exact ⟨_,rfl,Ad,c',rfl,k1,k2,o1⟩):p:=h
def qBa{p:Prop} (h:p:=by
 refine G7 ?_;exact rX [] _ Z (Lr D) fun _ hS2=>Cz9):p:=h
def qA2{p:Prop} (h:p:=by
 intro v1 A1 s3 h3 o1;refine G4 ?_;exact rX [] _ Z (h2.t h3) fun _ hS2=>Cz10):p:=h
def qaX(A:Option Addr)(n c:Nat)(l:List UInt8)(hA:Bts s A n c l)(hn:n≤1000000):AC prog D 53 [.slice A n c] L s fun v L' _=>∃ M',L'=M'++L∧∃ Ad c',v=.slice Ad n c'∧n≤c'∧c'≤9223372036854775807∧FL.Own 5 1 M' (.slice Ad n c') n (bv l):=by
 refine qad (fn:=f53) qao func53 V Z ntmps53 Z (rs:=[.tmp 2]) Z [(0,_)] Z<|G9 ?_;refine qae (qnV Z Z Z) Z<|G2 ?_;refine qd1 Z ?_ ?_<;>intro c1;·exact qBa
 refine Zk<|Zt<|Sr<|qnL (sz:=1) Z Z Z Z fun βo s2 h2 oo=>Zqm Z Z<|qcT [] [_] _ Z Z Z Z Z Z Z oo (hA.row.le h2) ⟨by simp [ti5];omega,by omega⟩ Z ?_;exact qA2
def qdF(A:Option Addr)(n c:Nat)(l:List Int)(hA:Wds s A n c l)(hn:n≤1000000):AC prog D 97 [.slice A n c] L s fun v L' _=>∃ M',L'=M'++L∧∃ Ad c',v=.slice Ad n c'∧n≤c'∧c'≤9223372036854775807∧FL.Own 34 1 M' (.slice Ad n c') n (wv l):=by
 refine qad (fn:=f97) qao func97 V Z ntmps97 Z (rs:=[.tmp 2]) Z [(0,_)] Z<|G9 ?_;refine qae (qnV Z Z Z) Z<|G2 ?_;refine qd1 Z ?_ ?_<;>intro c1;·exact qBa
 refine Zk<|Zt<|Sr<|qnL (sz:=1) Z Z Z Z fun βo s2 h2 oo=>Zqm Z Z<|qcT [] [_] _ Z Z Z Z Z Z Z oo (hA.row.le h2) ⟨by simp [ti34];omega,by omega⟩ Z ?_;exact qA2
def qEf{p:Prop} (h:p:=by
 exact ⟨[_],rfl,by simp [qbP,qbY, *],rfl⟩):p:=h
def qmF(m:Mst)(op:Int)(bm bc bq:Nat)(Ai Ao Ax:Option Addr)(nc cc ni ci no co nx cx:Nat)(sm:List Int)(hsm:sm.length=256)(x:Tm)(hv:x.kind=1→0≤x.val∧x.val≤4):AC prog D 130 [.pointer (some ⟨bm,0,none⟩),.agg #[.int .i64 x.kind,.int .u32 x.val]] ([(bm,cb (.slice (some ⟨bc,0,none⟩) nc cc::.int .u32 m.r0::.int .u32 m.r1::.int .u32 m.r2::.int .u32 m.r3::.int .u32 m.r4::.slice Ai ni ci::.slice Ao no co::.int .i64 m.stop::.int .u32 m.code::.slice Ax nx cx::(iv sm++[.map (some bq),.int .u32 op])) 148)]++L) s fun v L' _=>∃ M',L'=M'++L∧v=.int .u32 (qbY m op x)∧M'=[(bm,cb (.slice (some ⟨bc,0,none⟩) nc cc::.int .u32 m.r0::.int .u32 m.r1::.int .u32 m.r2::.int .u32 m.r3::.int .u32 m.r4::.slice Ai ni ci::.slice Ao no co::.int .i64 m.stop::.int .u32 m.code::.slice Ax nx cx::(iv sm++[.map (some bq),.int .u32 op])) 148)]:=by
 refine qad (fn:=f130) qao func130 V Z ntmps130 Z (rs:=[.tmp 4]) Z [(0,_),(1,_)] Z<|Sr<|qar Z Z fun β1 s1 h1=>J17 ?_ ?_<;>intro c2;·have hk:=c2;refine Zs<|qaL qab 9 Z _ (fun _ h=>h) fun s3 h3=>H6 ?_;refine za 6 Z (qlv Z Z Z Z Z Z (hv hk).1 (by have:=(hv hk).2;omega)) Z<|za 7 Z (qb5 1 Z Z Z Z (qyo m (hv hk) _ _)) Z<|H1 ?_;refine qah V<|G4 ?_;exact rX [_] _ Z (h1.t h3) fun _ hS2=>qEf
 refine J6 ?_ ?_<;>intro c3;·refine G5 ?_;refine qae (qb5 1 Z Z Z Z (qCW _ _ _ _ _ _ _ _ _ _ _ _ _ hsm)) Z<|G6 ?_;exact rX [_] _ Z h1 fun _ hS2=>qEf
 refine G11 ?_;exact rX [_] _ Z h1 fun _ hS2=>qEf
def qfs(m:Mst)(op:Int)(bm bc bq:Nat)(Ai Ao Ax:Option Addr)(nc cc ni ci no co nx cx:Nat)(sm:List Int)(hsm:sm.length=256)(x:Int)(hx:U32 x)(hnc:nc≤65536):AC prog D 98 [.pointer (some ⟨bm,0,none⟩),.int .u32 x] ([(bm,cb (.slice (some ⟨bc,0,none⟩) nc cc::.int .u32 m.r0::.int .u32 m.r1::.int .u32 m.r2::.int .u32 m.r3::.int .u32 m.r4::.slice Ai ni ci::.slice Ao no co::.int .i64 m.stop::.int .u32 m.code::.slice Ax nx cx::(iv sm++[.map (some bq),.int .u32 op])) 148)]++L) s fun v L' _=>∃ M',L'=M'++L∧v=.bool (decide (x < (nc:Int)))∧M'=[(bm,cb (.slice (some ⟨bc,0,none⟩) nc cc::.int .u32 m.r0::.int .u32 m.r1::.int .u32 m.r2::.int .u32 m.r3::.int .u32 m.r4::.slice Ai ni ci::.slice Ao no co::.int .i64 m.stop::.int .u32 m.code::.slice Ax nx cx::(iv sm++[.map (some bq),.int .u32 op])) 148)]:=by
 have hx1:=hx.1;have hx2:=hx.2;refine qad (fn:=f98) qao func98 V Z ntmps98 Z (rs:=[.tmp 4]) Z [(0,_),(1,_)] Z<|G8 ?_;refine qae (qbe Z Z Z Z Z (qF4 O O)) Z<|G6 ?_;refine qae (qbe Z Z Z Z Z (qF4 O O)) Z<|G5 ?_;exact rX [] _ Z (Lr D) fun _ hS2=>⟨[_],rfl,rfl,rfl⟩
def qCU(w:World):qfd prog 146 (.int .u32) (.int .i64 0):=⟨_,_,underlying146,underlying34,fun w=>by rw [qcK qkx];rfl⟩
def Cz12{p:Prop} (h:p:=by
 exact ⟨[_,_,_],rfl,by simp [qbP,fp,hp0,add_lit,ti83],rfl⟩):p:=h
def Ez16{p:Prop} (h:p:=by
  refine qaa Z ?_ ?_<;>intro c2
  ·have hp0:p=0:=by omega
   refine G8 ?_;exact rR [] _ (.tmp Z (.t1 Z)) Z (Lr D) fun _ hS2=>Cz12
  have hp0:p≠0:=by omega
  obtain ⟨bx,ox,ix,A',n',c',rfl,_,_⟩:=Inss.at_ hX (show p - 1 < nx by omega);refine G9 ?_;refine qae (qaC (qly Z Z) (show Value.int .i64 (IntKind.i64.wrap ((p:Int) - 1))=.int .i64 ((p - 1:Nat):Int) from by rw [w64 O O];congr 1;omega)) Z<|qae (qaw Z Z Z Z Z Z O) Z<|G5 ?_;exact rR [] _ (.tmp Z (.t1 Z)) Z (Lr D) fun _ hS2=>Cz12):p:=h
def qxR(m:Mst)(op:Int)(bm bc bq:Nat)(Ai Ao Ax:Option Addr)(nc cc ni ci no co nx cx:Nat)(sm:List Int)(hsm:sm.length=256)(zs:List Value)(es:List (Int×Value×Nat))(ck:Nat)(l:List Ins)(hX:Inss s Ax nx cx l)(c:Int)(hc:U32 c)(p:Nat)(hp:p≤nx)(h1:c < 256→sm[c.toNat]?=some (p:Int))(h2:256≤c→(qaW es c).getD (.int .i64 0)=.int .i64 (p:Int)):AC prog D 99 [.pointer (some ⟨bm,0,none⟩),.int .u32 c] ([(bm,cb (.slice (some ⟨bc,0,none⟩) nc cc::.int .u32 m.r0::.int .u32 m.r1::.int .u32 m.r2::.int .u32 m.r3::.int .u32 m.r4::.slice Ai ni ci::.slice Ao no co::.int .i64 m.stop::.int .u32 m.code::.slice Ax nx cx::(iv sm++[.map (some bq),.int .u32 op])) 148),(bc,cb zs 34),(bq,mp (Value.int .u32) es ck)]++L) s fun v L' _=>∃ M',L'=M'++L∧v=.tuple #[.pointer (fp Ax p),.bool (decide (p≠0))]∧M'=[(bm,cb (.slice (some ⟨bc,0,none⟩) nc cc::.int .u32 m.r0::.int .u32 m.r1::.int .u32 m.r2::.int .u32 m.r3::.int .u32 m.r4::.slice Ai ni ci::.slice Ao no co::.int .i64 m.stop::.int .u32 m.code::.slice Ax nx cx::(iv sm++[.map (some bq),.int .u32 op])) 148),(bc,cb zs 34),(bq,mp (Value.int .u32) es ck)]:=by
 have hc1:=hc.1;have hc2:=hc.2;have hn:=hX.1;have hcx1:=hX.2.1;have hcx2:=hX.2.2.1;refine qad (fn:=f99) qao func99 V Z ntmps99 Z (rs:=[.tmp 4,.tmp 5]) Z [(0,_),(1,_)] Z<|J18 ?_ ?_<;>intro c1;·have hsmall:=h1 O;refine G5 ?_;refine qae (qlv Z Z Z Z Z Z O O) Z<|qae (qb5 0 Z Z Z Z (qpF _ _ _ _ _ _ _ _ _ _ _ _ _ hsmall)) Z<|G10 ?_;exact Ez16
 have hbig:=h2 O;refine G4 ?_;refine qae (qb5 0 Z Z Z Z (qpD _ _ _ _ _ _ _ _ _ _ _ _ _ hsm)) Z<|Zqm Z Z<|qae (qaC (qjf (KeyK.int .u32) 2 (qCU default) Z Z Z) hbig) Z<|G10 ?_;exact Ez16
def qgh(m:Mst)(op:Int)(bm bc bq:Nat)(Ai Ao Ax:Option Addr)(nc cc ni ci no co nx cx:Nat)(sm:List Int)(hsm:sm.length=256)(v:Int)(a:Ac)(ba oa βa βm:Nat)(hca:CellsAt s ba oa [.int .i64 a.kind,.int .i64 a.tgt,.int .i64 a.x.kind,.int .u32 a.x.val,.int .i64 a.y.kind,.int .u32 a.y.val])(ht:0≤a.tgt∧a.tgt≤4):AC prog D 131 [.int .u32 v,.pointer (some ⟨βm,0,none⟩),.pointer (some ⟨βa,0,none⟩)] ((βa,cb [.pointer (some ⟨ba,oa,none⟩)] 203)::(βm,cb [.pointer (some ⟨bm,0,none⟩)] 143)::(bm,cb (.slice (some ⟨bc,0,none⟩) nc cc::.int .u32 m.r0::.int .u32 m.r1::.int .u32 m.r2::.int .u32 m.r3::.int .u32 m.r4::.slice Ai ni ci::.slice Ao no co::.int .i64 m.stop::.int .u32 m.code::.slice Ax nx cx::(iv sm++[.map (some bq),.int .u32 op])) 148)::L) s fun w L' _=>w=.tuple #[]∧L'=(βa,cb [.pointer (some ⟨ba,oa,none⟩)] 203)::(βm,cb [.pointer (some ⟨bm,0,none⟩)] 143)::(bm,cb (.slice (some ⟨bc,0,none⟩) nc cc::.int .u32 (qdo m a.tgt v).r0::.int .u32 (qdo m a.tgt v).r1::.int .u32 (qdo m a.tgt v).r2::.int .u32 (qdo m a.tgt v).r3::.int .u32 (qdo m a.tgt v).r4::.slice Ai ni ci::.slice Ao no co::.int .i64 m.stop::.int .u32 m.code::.slice Ax nx cx::(iv sm++[.map (some bq),.int .u32 op])) 148)::L:=by
 refine qad (fn:=f131) qao func131 V Z ntmps131 Z (rs:=[]) Z [(0,_),(1,_),(2,_)] Z<|qaU qab 11 Z [2] Q3 fun s1 h1=>H4 ?_;refine za 4 Z (qa8 1 Z Z Z (hca.le h1) Z) Z<|H4 ?_;refine za 9 Z (qlv Z Z Z Z Z Z ht.1 (by have:=ht.2;omega)) Z<|qaq 10 V<|qd0 Z Tt 2 _ Z Z Z Z Z (qxm ht _ _ _ _ _ _ _) Z (qy3 m ht v _ _) Z (fun x hx=>hx)<|qah V ?_;refine qas [] _ (.inl Z) (.nil) Z h1 fun _ hS2=>?_;exact Cz0
end Go.Proofs.YtlfiplbamnpgoaaGreatDoor
namespace Go.FL
open Go Go.RowKit
def qr3(L:Hl)(i:Nat):Hl:=match L[i]? with
 | some x=>x::L.eraseIdx i
 | none=>L
def qce(L:Hl)(i:Nat):L.Perm (qr3 L i):=by
 unfold qr3;cases h:L[i]? with
 | none=>exact List.Perm.refl _
 | some x=>
  induction L generalizing i with
  | nil=>simp at h
  | cons y L ih=>
   cases i with
   | zero=>simp at h;subst h;exact List.Perm.refl _
   | succ i=>
    simp at h;simp only [List.eraseIdx_cons_succ];exact ((ih i h).cons y).trans (List.Perm.swap x y _)
def qbm{P:Program}{TT:qaM}{D n:Nat}{Q:qbs}{fr:Fr}{L:Hl}{s:World}{c:Code}(i:Nat)(h:JC P TT D n Q c fr (qr3 L i) s):JC P TT D n Q c fr L s:=fun ht a hr ho=>by
 rw [qa5 (qce L i) _ ho];exact h ht a hr (ho.perm (qce L i))
def CellsAt.sub{s:World}{b off:Nat}{vs us:List Value}(j:Nat)(h:CellsAt s b off vs)(hc:cut vs j us.length=some us):CellsAt s b (off+j) us:=fun i v hi=>by
 obtain ⟨_,h2⟩:=qiw hc;rw [Nat.add_assoc];exact h (j+i) v (h2 i v hi)
def Own.blk_of{e:Nat}{M:Hl}{Ad:Option Addr}{n c:Nat}{xs:List Value}(h:FL.Own e 1 M (.slice Ad n c) n xs)(hn:0 < n):∃ b ys,M=[(b,cb (xs++ys) e)]∧Ad=some ⟨b,0,none⟩∧xs.length+ys.length=c∧c≤9223372036854775807:=by
 generalize hv:Value.slice Ad n c=v at h;cases h with
 | nil=>omega
 | blk b cap n xs ys h1 h2 h3 h4=>
  injection hv with e1 e2 e3;exact ⟨b,ys,rfl,e1,by omega,by omega⟩
end Go.FL
namespace Go.Proofs.YtlfiplbamnpgoaaGreatDoor
open Go Go.FL
variable{l:List Int}{y:List Value}
def qg5{α:Type}{l:List α}{x:α}(h:l[0]?=some x):∃ r,l=x::r:=by
 cases l with
 | nil=>cases h
 | cons y r=>simp at h;exact ⟨r,by rw [h]⟩
structure AcOK(a:Ac):Prop where
 kind:0≤a.kind∧a.kind≤19
 tgt:0≤a.tgt∧a.tgt≤4
 x:a.x.kind=1→0≤a.x.val∧a.x.val≤4
 y:a.y.kind=1→0≤a.y.val∧a.y.val≤4
 ux:U32 a.x.val
 uy:U32 a.y.val
def qin{m:Mst}(h:MOK m){op:Int}(ho:U32 op){x:Tm}(hx:U32 x.val):U32 (qbY m op x):=by
 unfold qbY qg3;have:=h.u0;have:=h.u1;have:=h.u2;have:=h.u3;have:=h.u4;repeat' split
 all_goals assumption
section
variable{m:Mst}{a:Ac}{op:Int}
def qBD(h:a.kind=0):qbz m a op=qdo m a.tgt (qbY m op a.x):=by simp [qbz,h,comp]
def qwX(h:a.kind=19)(hy:qbY m op a.y=0):qbz m a op=qdo m a.tgt (qbY m op a.x):=by simp [qbz,h,hy,comp]
def qrf(h:a.kind=19)(hy:¬ qbY m op a.y=0):qbz m a op=m:=by simp [qbz,h,hy]
def qwY(h:a.kind=4)(hy:qbY m op a.y=0):qbz m a op={ m with stop:=4 }:=by simp [qbz,h,hy]
def qwZ(h:a.kind=5)(hy:qbY m op a.y=0):qbz m a op={ m with stop:=4 }:=by simp [qbz,h,hy]
def qBE(h:a.kind=4)(hy:¬ qbY m op a.y=0):qbz m a op=qdo m a.tgt (qbY m op a.x / qbY m op a.y):=by simp [qbz,h,hy,comp]
def qBF(h:a.kind=5)(hy:¬ qbY m op a.y=0):qbz m a op=qdo m a.tgt (qbY m op a.x % qbY m op a.y):=by simp [qbz,h,hy,comp]
def qra(h:a.kind=13)(hx:¬ qbY m op a.x < (m.cells.length:Int)):qbz m a op={ m with stop:=3 }:=by
 have:(m.cells.length:Int)≤qbY m op a.x:=by omega
 simp [qbz,h,this]
def qrb(h:a.kind=14)(hx:¬ qbY m op a.x < (m.cells.length:Int)):qbz m a op={ m with stop:=3 }:=by
 have:(m.cells.length:Int)≤qbY m op a.x:=by omega
 simp [qbz,h,this]
def qwR(h:a.kind=13)(hx:qbY m op a.x < (m.cells.length:Int)):qbz m a op=qdo m a.tgt (m.cells.getD (qbY m op a.x).toNat 0):=by
 have:¬ (m.cells.length:Int)≤qbY m op a.x:=by omega
 simp [qbz,h,this]
def qwS(h:a.kind=14)(hx:qbY m op a.x < (m.cells.length:Int)):qbz m a op={ m with cells:=m.cells.set (qbY m op a.x).toNat (qbY m op a.y) }:=by
 have:¬ (m.cells.length:Int)≤qbY m op a.x:=by omega
 simp [qbz,h,this]
def qrc(h:a.kind=15)(hi:m.input=[]):qbz m a op=qdo m a.tgt 4294967295:=by simp [qbz,h,hi]
def qwT(h:a.kind=15){c:UInt8}{r:List UInt8}(hi:m.input=c::r):qbz m a op={ qdo m a.tgt (c.toNat:Int) with input:=r }:=by simp [qbz,h,hi]
def qrd(h:a.kind=16)(hm:MOK m)(ho:20000≤m.output.length):qbz m a op={ m with stop:=5 }:=by
 have:m.output.length=20000:=by have:=hm.output;omega
 simp [qbz,h,this]
def qwU(h:a.kind=16)(ho:¬ 20000≤m.output.length):qbz m a op={ m with output:=m.output++[UInt8.ofNat ((qbY m op a.x).toNat % 256)] }:=by
 have:¬ m.output.length=20000:=by omega
 simp [qbz,h,this]
def qwV(h:a.kind=17):qbz m a op={ m with stop:=1,code:=qbY m op a.x }:=by simp [qbz,h]
def qwW(h:a.kind=18)(hy:qbY m op a.y=0):qbz m a op={ m with stop:=1,code:=qbY m op a.x }:=by simp [qbz,h,hy]
def qre(h:a.kind=18)(hy:¬ qbY m op a.y=0):qbz m a op=m:=by simp [qbz,h,hy]
def qq9(h:1≤a.kind∧a.kind≤12∧a.kind≠4∧a.kind≠5):qbz m a op=qdo m a.tgt (comp a.kind (qbY m op a.x) (qbY m op a.y)):=by grind [qbz]
end
def qiM{i:Int}(h0:0≤i)(h:i < l.length):nth (wv l++y) (0+i.toNat)=some (.int .u32 (l.getD i.toNat 0)):=by
 rw [Nat.zero_add];exact qCX (by rw [List.getElem?_eq_getElem O];simp [List.getD,show i.toNat < l.length by omega])
def qqg{i:Int}(v:Int)(h0:0≤i)(h:i < l.length):qbx (wv l++y) (0+i.toNat) [.int .u32 v]=wv (l.set i.toNat v)++y:=by
 rw [Nat.zero_add];exact qDu v O
def qom{i:Int}(h0:0≤i)(h:i < l.length):Nat.ble (0+i.toNat+1) (wv l++y).length=true:=by
 rw [Nat.zero_add];exact qB1 O
def qEM{x:Int}(h:U32 x):IntKind.u8.wrap x=((UInt8.ofNat (x.toNat % 256)).toNat:Int):=by
 obtain ⟨h1,h2⟩:=h;rw [IntKind.wrap_u8];simp [UInt8.toNat_ofNat'];omega
open Go.FL
attribute [local irreducible] JC JO JA JB qaJ qax qbN AC fill CellsAt QE Ev Mid
def Cz13{p:Prop} (h:p:=by
 refine ⟨_::_::_::A1,Z,Z,?_⟩;rw [qwU As O];have hb:bv (m.output++[UInt8.ofNat ((qbY m op a.x).toNat % 256)])=bv m.output++[Value.int .u8 ((UInt8.ofNat ((qbY m op a.x).toNat % 256)).toNat:Int)]:=by simp [bv]
 exact ⟨bc,cc,yc,A1,Ao1,co1,Ai,ni,ci,by simp,by simpa [hb] using o1,hI.le (h1.t h2|>.t h3|>.t h4|>.t h5|>.t h15|>.t h16|>.t h17|>.t hS2),hcc,hcc2⟩):p:=h
def Ez23{p:Prop} (h:p:=by
 intro v1 A1 s17 h17 o1;obtain ⟨Ao1,co1,rfl,ko1,ko2⟩:=Own.slice o1;simp only [cQ9,nQ9];refine H3 ?_;refine qaq 13 V<|qd0 Z Tt 2 (_::_::_::_::_::_::_::_::_::_::_::_) Z Z Z Z Z Z Z Z Z (sM (qgA (sb0 _)))<|qah V<|Zb ?_;refine qas [_,_] _ (.inl Z) (.nil) Z (h1.t h2|>.t h3|>.t h4|>.t h5|>.t h15|>.t h16|>.t h17) fun _ hS2=>?_;exact Cz13):p:=h
def qve(D:Nat)(L:Hl)(s:World)(bm:Nat)(Ax:Option Addr)(nx cx:Nat)(sm:List Int)(hsm:sm.length=256)(bq:Nat)(es:List (Int×Value×Nat))(ck:Nat)(op:Int)(m:Mst)(M:Hl)(hM:qjd bm (.slice Ax nx cx) sm bq es ck op m M s)(a:Ac)(ba oa:Nat)(hca:CellsAt s ba oa [.int .i64 a.kind,.int .i64 a.tgt,.int .i64 a.x.kind,.int .u32 a.x.val,.int .i64 a.y.kind,.int .u32 a.y.val])(hok:MOK m)(hop:U32 op)(ha:AcOK a):AC Tryz.prog D 100 [.pointer (some ⟨bm,0,none⟩),.pointer (some ⟨ba,oa,none⟩)] (M++L) s fun v L' s'=>∃ M',L'=M'++L∧v=.tuple #[]∧qjd bm (.slice Ax nx cx) sm bq es ck op (qbz m a op) M' s':=by
 obtain ⟨bc,cc,yc,Oq9,Ao,co,Ai,ni,ci,rfl,hO,hI,hcc,hcc2⟩:=hM;have hux:=qin hok hop ha.ux;have huy:=qin hok hop ha.uy;have hux1:=hux.1;have hux2:=hux.2;have hnc:=hok.cells;have hni:=hI.1;have hno:=hok.output;simp only [List.cons_append];refine qad (fn:=Tryz.f100) qao Tryz.func100 V Z Tryz.ntmps100 Z (rs:=[]) Z [(0,_),(1,_)] Z<|Sr<|qeK Z Z Z fun β1 s1 h1=>qeK Z Z Z fun β2 s2 h2=>Nt<|Zs<|qaL qab 14 Z _ (fun _ h=>h) fun s3 h3=>H4 ?_;refine za 4 Z (qat Z Z Z (CellsAt.sub (us:=[_,_]) 2 (hca.le (h1.t h2|>.t h3)) Z) Z) Z<|H4 ?_;refine za 10 Z (qat Z Z Z (CellsAt.sub (us:=[_,_]) 4 (hca.le (h1.t h2|>.t h3)) Z) Z) Z<|qaq 5 V<|Jb Z Tt Z Z Z (AC.mid [_,_] [_] _ (qmF D _ _ _ _ _ _ _ _ _ _ _ _ _ _ _ _ _ _ _ hsm a.x ha.x)) ?_;have e3:=h1.t h2|>.t h3;rintro _ _ s4 h4 ⟨_,rfl,rfl,rfl⟩;have e4:=e3.t h4;refine ⟨fun _ _ h=>h,?_⟩;simp only [cQ9,nQ9];refine qaq 11 V<|Jb Z Tt Z Z Z (AC.mid [_,_] [_] _ (qmF D _ _ _ _ _ _ _ _ _ _ _ _ _ _ _ _ _ _ _ hsm a.y ha.y)) ?_;rintro _ _ s5 h5 ⟨_,rfl,rfl,rfl⟩;have e5:=e4.t h5;refine ⟨fun _ _ h=>h,?_⟩;simp only [cQ9,nQ9];refine H2 ?_;refine qah V<|Zt<|Sr<|qae (qbj Z) Z<|G8 ?_;refine qae (qak Z Z Z (hca.le e5) Z) Z<|J9 ?_ ?_<;>intro c6;·refine X10 ?_;rintro _ _ s7 h7 ⟨rfl,rfl⟩;refine G2 ?_;refine qas [_,_] _ (.inl Z) (.nil) Z (e5.t h7) fun _ hS2=>?_;refine ⟨_::_::_::Oq9,Z,Z,?_⟩;rw [qBD As];exact ⟨bc,cc,yc,Oq9,Ao,co,Ai,ni,ci,rfl,hO,hI.le (e5.t h7|>.t hS2),hcc,hcc2⟩
 refine J6 ?_ ?_<;>intro c7
 ·refine J6 ?_ ?_<;>intro c8;·refine X10 ?_;rintro _ _ s9 h9 ⟨rfl,rfl⟩;refine G2 ?_;refine qas [_,_] _ (.inl Z) (.nil) Z (e5.t h9) fun _ hS2=>?_;refine ⟨_::_::_::Oq9,Z,Z,?_⟩;rw [qwX As As];exact ⟨bc,cc,yc,Oq9,Ao,co,Ai,ni,ci,rfl,hO,hI.le (e5.t h9|>.t hS2),hcc,hcc2⟩
  refine G2 ?_;refine qas [_,_] _ (.inl Z) (.nil) Z e5 fun _ hS2=>?_;refine ⟨_::_::_::Oq9,Z,Z,?_⟩;rw [qrf As As];exact ⟨bc,cc,yc,Oq9,Ao,co,Ai,ni,ci,rfl,hO,hI.le (e5|>.t hS2),hcc,hcc2⟩
 refine J7 ?_ ?_<;>intro c8
 ·refine J2 ?_ ?_<;>intro c9
  ·refine J8 ?_ ?_<;>intro c10;·refine X5 ?_;refine qas [_,_] _ (.inl Z) (.nil) Z e5 fun _ hS2=>?_;refine ⟨_::_::_::Oq9,Z,Z,?_⟩;rw [qwY As As];exact ⟨bc,cc,yc,Oq9,Ao,co,Ai,ni,ci,rfl,hO,hI.le (e5|>.t hS2),hcc,hcc2⟩
   refine G5 ?_;refine qae (qak Z Z Z (hca.le e5) Z) Z<|J4 ?_ ?_<;>intro c11;·refine G4 ?_;refine qae (qva Z Z As) Z<|qcN (first:=[]) (captured:=[_,_]) Z Z Z (qgh D _ _ _ _ _ _ _ _ _ _ _ _ _ _ _ _ _ _ _ hsm _ a ba oa _ _ (hca.le e5) ha.tgt) ?_;rintro _ _ s12 h12 ⟨rfl,rfl⟩;refine G3 ?_;refine qas [_,_] _ (.inl Z) (.nil) Z (e5.t h12) fun _ hS2=>?_;refine ⟨_::_::_::Oq9,Z,Z,?_⟩;rw [qBE As As,← divW hux huy,← qqK];exact ⟨bc,cc,yc,Oq9,Ao,co,Ai,ni,ci,rfl,hO,hI.le (e5.t h12|>.t hS2),hcc,hcc2⟩
   exfalso;omega
  exfalso;omega
 refine J5 ?_ ?_<;>intro c9
 ·refine J8 ?_ ?_<;>intro c10;·refine X5 ?_;refine qas [_,_] _ (.inl Z) (.nil) Z e5 fun _ hS2=>?_;refine ⟨_::_::_::Oq9,Z,Z,?_⟩;rw [qwZ As As];exact ⟨bc,cc,yc,Oq9,Ao,co,Ai,ni,ci,rfl,hO,hI.le (e5|>.t hS2),hcc,hcc2⟩
  refine G5 ?_;refine qae (qak Z Z Z (hca.le e5) Z) Z<|J4 ?_ ?_<;>intro c11;·exfalso;omega
  refine G4 ?_;refine qae (qvb Z Z As) Z<|qcN (first:=[]) (captured:=[_,_]) Z Z Z (qgh D _ _ _ _ _ _ _ _ _ _ _ _ _ _ _ _ _ _ _ hsm _ a ba oa _ _ (hca.le e5) ha.tgt) ?_;rintro _ _ s12 h12 ⟨rfl,rfl⟩;refine G3 ?_;refine qas [_,_] _ (.inl Z) (.nil) Z (e5.t h12) fun _ hS2=>?_;refine ⟨_::_::_::Oq9,Z,Z,?_⟩;rw [qBF As As,← modW hux];exact ⟨bc,cc,yc,Oq9,Ao,co,Ai,ni,ci,rfl,hO,hI.le (e5.t h12|>.t hS2),hcc,hcc2⟩
 refine J7 ?_ ?_<;>intro c10
 ·refine J2 ?_ ?_<;>intro c11
  ·refine X17 ?_;rintro _ _ s12 h12 ⟨_,rfl,rfl,rfl⟩;have e12:=e5.t h12;simp only [cQ9,nQ9];refine G4 ?_;refine qaR Z ?_ ?_<;>intro c13;·refine X5 ?_;refine qas [_,_] _ (.inl Z) (.nil) Z e12 fun _ hS2=>?_;refine ⟨_::_::_::Oq9,Z,Z,?_⟩;rw [qra As As];exact ⟨bc,cc,yc,Oq9,Ao,co,Ai,ni,ci,rfl,hO,hI.le (e12|>.t hS2),hcc,hcc2⟩
   refine G5 ?_;refine qae (qak Z Z Z (hca.le e12) Z) Z<|J4 ?_ ?_<;>intro c14;·refine G8 ?_;refine qae (qc9 Z Z Z Z Z Z hux1 As) Z<|qae (qb5 3 Z Z Z Z (qiM hux1 As)) Z<|qcN (first:=[]) (captured:=[_,_]) Z Z Z (qgh D _ _ _ _ _ _ _ _ _ _ _ _ _ _ _ _ _ _ _ hsm _ a ba oa _ _ (hca.le e12) ha.tgt) ?_;rintro _ _ s15 h15 ⟨rfl,rfl⟩;refine G3 ?_;refine qas [_,_] _ (.inl Z) (.nil) Z (e12.t h15) fun _ hS2=>?_;refine ⟨_::_::_::Oq9,Z,Z,?_⟩;rw [qwR As As];exact ⟨bc,cc,yc,Oq9,Ao,co,Ai,ni,ci,rfl,hO,hI.le (e12.t h15|>.t hS2),hcc,hcc2⟩
   exfalso;omega
  exfalso;omega
 refine J5 ?_ ?_<;>intro c11
 ·refine X17 ?_;rintro _ _ s12 h12 ⟨_,rfl,rfl,rfl⟩;have e12:=e5.t h12;simp only [cQ9,nQ9];refine G4 ?_;refine qaR Z ?_ ?_<;>intro c13;·refine X5 ?_;refine qas [_,_] _ (.inl Z) (.nil) Z e12 fun _ hS2=>?_;refine ⟨_::_::_::Oq9,Z,Z,?_⟩;rw [qrb As As];exact ⟨bc,cc,yc,Oq9,Ao,co,Ai,ni,ci,rfl,hO,hI.le (e12|>.t hS2),hcc,hcc2⟩
  refine G5 ?_;refine qae (qak Z Z Z (hca.le e12) Z) Z<|J4 ?_ ?_<;>intro c14;·exfalso;omega
  refine G8 ?_;refine qae (qc9 Z Z Z Z Z Z hux1 As) Z<|qeV 3 _ Z Z Z Z Z (qom hux1 As) Z (qqg _ hux1 As) Z<|G3 ?_;refine qas [_,_] _ (.inl Z) (.nil) Z e12 fun _ hS2=>?_;refine ⟨_::_::_::Oq9,Z,Z,?_⟩;rw [qwS As As];exact ⟨bc,cc,yc,Oq9,Ao,co,Ai,ni,ci,by simp,hO,hI.le (e12|>.t hS2),by simp;exact hcc,hcc2⟩
 refine J6 ?_ ?_<;>intro c12
 ·refine J12 ?_ ?_<;>intro c13;·refine Sr<|Zqm Z Z<|qcN (first:=[]) (captured:=[_,_]) Z Z Z (qgh D _ _ _ _ _ _ _ _ _ _ _ _ _ _ _ _ _ _ _ hsm _ a ba oa _ _ (hca.le e5) ha.tgt) ?_;rintro _ _ s14 h14 ⟨rfl,rfl⟩;refine G5 ?_;refine rR [_,_] _ (.nil) Z (e5.t h14) fun _ hS2=>?_;refine ⟨_::_::_::Oq9,Z,Z,?_⟩;have hi0:m.input=[]:=List.eq_nil_of_length_eq_zero O;rw [qrc As hi0];exact ⟨bc,cc,yc,Oq9,Ao,co,Ai,ni,ci,rfl,hO,hI.le (e5.t h14|>.t hS2),hcc,hcc2⟩
  obtain ⟨bi,oi,xi,rfl,hxi,hci⟩:=Bts.at_ (hI.le e5) (show 0 < ni by omega);refine G10 ?_;refine qae (qc9 Z Z Z Z Z Z Dc O) Z<|qae (qak Z Z Z (hci.le (Lr D)) Z) Z<|qae (qbe Z Z Z Z Z (qii O (by have:=xi.toNat_lt;omega))) Z<|qcN (first:=[]) (captured:=[_,_]) Z Z Z (qgh D _ _ _ _ _ _ _ _ _ _ _ _ _ _ _ _ _ _ _ hsm _ a ba oa _ _ (hca.le e5) ha.tgt) ?_;rintro _ _ s14 h14 ⟨rfl,rfl⟩;refine Nt<|qaU qab 11 Z [2] Q3 fun s15 h15=>H5 ?_;refine qaq 5 V<|qbH Z Tt (Wd 2 Y5) Z<|za 6 Z (qnU (j:=1) Z Z Z Z Z O) Z<|H3 ?_;refine qaq 10 V<|qd0 Z Tt 2 (_::_::_::_::_::_::_::_::_::_::_::_) Z Z Z Z Z Z Z Z Z (sM (qkG (sbE _)))<|qah V<|Zb ?_;refine qas [_,_] _ (.inl Z) (.nil) Z (e5.t h14|>.t h15) fun _ hS2=>?_;refine ⟨_::_::_::Oq9,Z,Z,?_⟩;obtain ⟨r,hr⟩:=qg5 hxi;rw [qwT As hr];rw [hr] at hI;exact ⟨bc,cc,yc,Oq9,Ao,co,_,_,_,rfl,hO,(Bts.tail hI).le (e5.t h14|>.t h15|>.t hS2),hcc,hcc2⟩
 refine J6 ?_ ?_<;>intro c13
 ·refine G9 ?_;refine qi6 Z Z Z<|J2 ?_ ?_<;>intro c14;·refine G6 ?_;refine qeV 2 (_::_::_::_::_::_::_::_::_::_::_::_) Z Z Z Z Z Z Z Z Z<|G5 ?_;refine rR [_,_] _ (.nil) Z e5 fun _ hS2=>?_;refine ⟨_::_::_::Oq9,Z,Z,?_⟩;rw [qrd As hok O];exact ⟨bc,cc,yc,Oq9,Ao,co,Ai,ni,ci,rfl,hO,hI.le (e5|>.t hS2),hcc,hcc2⟩
  refine Zk<|Zt<|qaB qab 14 Z 2 fun s15 h15=>H6 ?_;refine za 7 Z (qaC (qgI Z Z Z Z Z) (congrArg (Value.int .u8) (qEM hux))) Z ?_;refine qdB 5 8 V ?_ ?_;·refine qbH Z Tt (Wd 2 Y5) Z<|qaq 8 V<|qci Z Tt [(_,_)] [_] Z Z Z Z Z Z Z Z Z fun βn s16 h16 hcn=>qaq 9 V<|qcS (sz:=1) Z (by exact Tt) [_,_,_,_,_] Oq9 _ Z Z Z Z Z Z Z hO (Row.of_cells (hcn.le (Lr D)) Z Z) ⟨by simp [ti5];omega,by omega⟩ Z (fun A2 x hx _=>List.mem_append_left _ (by simp at hx ⊢;grind)) ?_;exact Ez23
  refine qci Z Tt [(_,_)] [_] Z Z Z Z Z Z Z Z Z fun βn s16 h16 hcn=>qaq 5 V<|qbH Z Tt (Wd 2 Y5) Z<|qaq 9 V<|qcS (sz:=1) Z (by exact Tt) [_,_,_,_,_] Oq9 _ Z Z Z Z Z Z Z hO (Row.of_cells (hcn.le (Lr D)) Z Z) ⟨by simp [ti5];omega,by omega⟩ Z (fun A2 x hx _=>List.mem_append_left _ (by simp at hx ⊢;grind)) ?_;exact Ez23
 refine J7 ?_ ?_<;>intro c14
 ·refine J2 ?_ ?_<;>intro c15
  ·refine X22 ?_;refine qap (t:=172) Z ?_ ?_<;>intro c16;·refine G6 ?_;refine qaU qab 11 Z [2] Q3 fun s17 h17=>H6 ?_;refine X1 ?_;refine qas [_,_] _ (.inl Z) (.nil) Z (e5.t h17) fun _ hS2=>?_;refine ⟨_::_::_::Oq9,Z,Z,?_⟩;rw [qwV As];exact ⟨bc,cc,yc,Oq9,Ao,co,Ai,ni,ci,rfl,hO,hI.le (e5.t h17|>.t hS2),hcc,hcc2⟩
   refine J7 ?_ ?_<;>intro c17;·exfalso;omega
   exfalso;omega
  exfalso;omega
 refine J5 ?_ ?_<;>intro c15
 ·refine X22 ?_;refine qap (t:=172) Z ?_ ?_<;>intro c16;·refine G6 ?_;refine qaU qab 11 Z [2] Q3 fun s17 h17=>H6 ?_;refine X1 ?_;refine qas [_,_] _ (.inl Z) (.nil) Z (e5.t h17) fun _ hS2=>?_;exfalso;omega
  refine J7 ?_ ?_<;>intro c17;·refine qaU qab 11 Z [2] Q3 fun s18 h18=>H6 ?_;refine X1 ?_;refine qas [_,_] _ (.inl Z) (.nil) Z (e5.t h18) fun _ hS2=>?_;refine ⟨_::_::_::Oq9,Z,Z,?_⟩;rw [qwW As As];exact ⟨bc,cc,yc,Oq9,Ao,co,Ai,ni,ci,rfl,hO,hI.le (e5.t h18|>.t hS2),hcc,hcc2⟩
  refine G2 ?_;refine qas [_,_] _ (.inl Z) (.nil) Z e5 fun _ hS2=>?_;refine ⟨_::_::_::Oq9,Z,Z,?_⟩;rw [qre As As];exact ⟨bc,cc,yc,Oq9,Ao,co,Ai,ni,ci,rfl,hO,hI.le (e5|>.t hS2),hcc,hcc2⟩
 refine X22 ?_;refine Je Z Z Z (qmU D _ _ _ _ _ hux huy (by have:=ha.kind;omega)) fun s16 h16=>qcN (first:=[]) (captured:=[_,_]) Z Z Z (qgh D _ _ _ _ _ _ _ _ _ _ _ _ _ _ _ _ _ _ _ hsm _ a ba oa _ _ (hca.le (e5.t h16)) ha.tgt) ?_;rintro _ _ s17 h17 ⟨rfl,rfl⟩;refine G2 ?_;refine qas [_,_] _ (.inl Z) (.nil) Z (e5.t h16|>.t h17) fun _ hS2=>?_;refine ⟨_::_::_::Oq9,Z,Z,?_⟩;rw [qq9 (by have:=ha.kind;omega)];exact ⟨bc,cc,yc,Oq9,Ao,co,Ai,ni,ci,rfl,hO,hI.le (e5.t h16|>.t h17|>.t hS2),hcc,hcc2⟩
end Go.Proofs.YtlfiplbamnpgoaaGreatDoor
namespace Go.Proofs.YtlfiplbamnpgoaaGreatDoor
open Go Go.FL
variable(D:Nat)(L:Hl)(s:World){x:Ins}{a:Ac}{ins:List Ins}{c op:Int}{k:Nat}{m:Mst}{l:List Ac}
structure TabG(t:Tab):Prop where
 cells:1≤t.cells∧t.cells≤65536
 len:t.ins.length≤64
 codes:∀ (i j:Nat) (x y:Ins),t.ins[i]?=some x→t.ins[j]?=some y→x.code=y.code→i=j
 acts:∀ (i:Nat) (x:Ins) (a:Ac),t.ins[i]?=some x→a∈x.acts→AcOK a∧(x.operand=false→a.x.kind≠2∧a.y.kind≠2)
 few:∀ (i:Nat) (x:Ins),t.ins[i]?=some x→x.acts.length≤8
def qjR{f:Nat→Int}{m j:Nat}(h:(qcc f m j).1=0):∀ i,j≤i→i < j+m→f i=0:=by
  induction m generalizing j with
  | zero=>intro i h1 h2;omega
  | succ m ih=>
    simp only [qcc] at h;split at h
    · contradiction
    · rename_i h0
      simp at h0;intro i h1 h2;rcases Nat.eq_or_lt_of_le h1 with rfl|h3
      · exact h0
      · exact ih h i h3 O
def qk6{α:Type}{f:α→Int}{l:List α}(h:qdP (l.map f)=0):∀ a∈l,f a=0:=by
  induction l with
  | nil=>intro a ha;cases ha
  | cons x l ih=>
    simp only [List.map_cons,qdP] at h;split at h
    · contradiction
    · rename_i h0
      simp at h0;intro a ha;rcases List.mem_cons.1 ha with rfl|ha
      · exact h0
      · exact ih h a ha
def Inss.u32{s:World}{A:Option Addr}{n c:Nat}{l:List Ins}(h:Inss s A n c l){i:Nat}(hi:l[i]?=some x)(ha:a∈x.acts):U32 a.x.val∧U32 a.y.val:=by
 obtain ⟨b,off,cs,h1,h2,h3,A',n',c',rfl,h5,h6⟩:=h.2.2.2 i x hi;obtain ⟨j,hj⟩:=List.getElem?_of_mem ha;obtain ⟨_,_,_,_,_,_,_,h7⟩:=h5.2.2.2 j a hj;exact h7
def qqw{x:Tm}{u o:Bool}(h:qnt x u o=true):(x.kind=1→x.val≤4)∧(o=false→x.kind≠2):=by
 unfold qnt at h;cases u<;>cases o<;>simp at h ⊢<;>omega
def qEc{t:Tab}{s:World}{A:Option Addr}{n c:Nat}(hX:Inss s A n c t.ins)(h:(qaG t).1=0):TabG t:=by
  unfold qaG at h;split at h
  · cases h
  rename_i h1;split at h
  · cases h
  rename_i h2;have hr:=qjR h;have hrow:∀ (i:Nat) (x:Ins),t.ins[i]?=some x→qcy x=0∧(t.ins.take i).any (qf4 x)=false:=fun i x hi=>by
    have hl:i < t.ins.length:=(List.getElem?_eq_some_iff.1 hi).1;have:=hr i (Nat.zero_le _) O;simp only [qdg,hi] at this;split at this
    · contradiction
    · rename_i h0
      simp at h0;refine ⟨h0,?_⟩;split at this
      · cases this
      · rename_i h3;simpa using h3
  refine ⟨by omega,by omega,?_,?_,?_⟩
  · have key:∀ (i j:Nat) (x y:Ins),i < j→t.ins[i]?=some x→t.ins[j]?=some y→x.code≠y.code:=fun i j x y hij hi hj he=>by
      have:=(hrow j y hj).2;rw [List.any_eq_false] at this;have hx:x∈t.ins.take j:=List.mem_of_getElem? (i:=i) (by rw [List.getElem?_take,if_pos hij];exact hi);have:=this x hx;simp [qf4,he] at this
    intro i j x y hi hj he;rcases Nat.lt_trichotomy i j with h|h|h
    · exact absurd he (key i j x y h hi hj)
    · exact h
    · exact absurd he.symm (key j i y x h hj hi)
  · intro i x a hi ha
    obtain ⟨hu1,hu2⟩:=Inss.u32 hX hi ha;have hc:=(hrow i x hi).1;unfold qcy at hc;split at hc
    · cases hc
    split at hc
    · cases hc
    have hac:=qk6 hc a ha;unfold qeW at hac;split at hac
    · cases hac
    split at hac
    · cases hac
    split at hac
    · cases hac
    rename_i k1 k2 k3;simp only [Bool.or_eq_true,not_or,Bool.not_eq_true',Bool.not_eq_false] at k3;have hx:=qqw k3.1.2;have hy:=qqw k3.2;exact ⟨⟨by omega,by omega,fun e=>⟨hu1.1,hx.1 e⟩,fun e=>⟨hu2.1,hy.1 e⟩,hu1,hu2⟩,fun e=>⟨hx.2 e,hy.2 e⟩⟩
  · intro i x hi
    have hc:=(hrow i x hi).1;unfold qcy at hc;split at hc
    · cases hc
    split at hc
    · cases hc
    omega
def qyD(ins:List Ins)(c:Int)(k:Nat):qfb ins c k≤k:=by
 induction k with
 | zero=>exact Nat.le_refl _
 | succ k ih=>simp only [qfb];split<;>(try split)<;>omega
def qpW(h:qfb ins c k=0):∀ i x,i < k→ins[i]?=some x→x.code≠c:=by
  induction k with
  | zero=>intro i x hi;omega
  | succ k ih=>
    intro i x hi hx;simp only [qfb] at h;cases hk:ins[k]? with
    | none=>
      rw [hk] at h;by_cases e:i=k
      · subst e;rw [hk] at hx;cases hx
      · exact ih h i x O hx
    | some y=>
      rw [hk] at h;simp only at h;split at h
      · omega
      · rename_i hy
        by_cases e:i=k
        · subst e;rw [hk] at hx;injection hx with hx;subst hx;exact hy
        · exact ih h i x O hx
def qsJ(h:qfb ins c k≠0):∃ x,ins[qfb ins c k - 1]?=some x∧x.code=c:=by
 induction k with
 | zero=>exact absurd rfl h
 | succ k ih=>
  simp only [qfb] at h ⊢;cases hk:ins[k]? with
  | none=>simp only [hk] at h ⊢;exact ih h
  | some y=>
   simp only [hk] at h ⊢;by_cases hy:y.code=c
   · simp only [hy,if_true];exact ⟨y,hk,hy⟩
   · simp only [hy,if_false] at h ⊢;exact ih h
def qmZ(h:∀ i x,i < ins.length→ins[i]?=some x→x.code≠c):qeI ins c=none:=by
 unfold qeI;rw [List.find?_eq_none];intro x hx;obtain ⟨i,hi⟩:=List.getElem?_of_mem hx;have:=h i x (List.getElem?_eq_some_iff.1 hi).1 hi;simp [this]
def qm0{t:Tab}(hG:TabG t){p:Nat}(hx:t.ins[p]?=some x)(hc:x.code=c):qeI t.ins c=some x:=by
 unfold qeI;cases hf:t.ins.find? (fun x=>decide (x.code=c)) with
 | none=>
  rw [List.find?_eq_none] at hf;have:=hf x (List.mem_of_getElem? hx);simp [hc] at this
 | some y=>
  have h1:=List.find?_some hf;obtain ⟨j,hj⟩:=List.getElem?_of_mem (List.mem_of_find?_eq_some hf);have:=hG.codes p j x y hx hj (by rw [hc];simpa using (of_decide_eq_true h1).symm);subst this;rw [hx] at hj;exact hj.symm
def qiT(h:MOK m){i v:Int}(hv:U32 v):MOK (qdo m i v):=by
 refine ⟨h.cells,h.wide,?_,?_,?_,?_,?_,h.output,h.input,h.code⟩<;>simp only [qdo]<;>split<;>first|exact hv|exact h.u0|exact h.u1|exact h.u2|exact h.u3|exact h.u4
def qb2{k x y:Int}(hx:U32 x)(hy:U32 y):U32 (comp k x y):=by
  obtain ⟨x1,x2⟩:=hx;obtain ⟨y1,y2⟩:=hy;have hX:x.toNat < 2 ^ 32:=by omega
  have hY:y.toNat < 2 ^ 32:=by omega
  have a1:=Nat.and_lt_two_pow x.toNat hY;have a2:=Nat.or_lt_two_pow hX hY;have a3:=Nat.xor_lt_two_pow hX hY;have a4:x.toNat >>> y.toNat≤x.toNat:=Nat.shiftRight_le _ _;have d1:0≤x / y:=Int.ediv_nonneg x1 y1;have d2:x / y≤x:=Int.ediv_le_self _ x1;have e1:0≤x % y∧x % y≤x:=by
    by_cases h0:y=0
    · subst h0;simp;omega
    · exact ⟨Int.emod_nonneg x h0,by have:=Int.emod_add_mul_ediv x y;have:0≤y * (x / y):=Int.mul_nonneg y1 d1;omega⟩
  unfold comp w32;by_cases h1:k=1
  · rw [if_pos h1];unfold U32;omega
  rw [if_neg h1];by_cases h2:k=2
  · rw [if_pos h2];unfold U32;omega
  rw [if_neg h2];by_cases h3:k=3
  · rw [if_pos h3];unfold U32;omega
  rw [if_neg h3];by_cases h4:k=4
  · rw [if_pos h4];unfold U32;omega
  rw [if_neg h4];by_cases h5:k=5
  · rw [if_pos h5];unfold U32;omega
  rw [if_neg h5];by_cases h6:k=6
  · rw [if_pos h6];unfold U32;omega
  rw [if_neg h6];by_cases h7:k=7
  · rw [if_pos h7];unfold U32;omega
  rw [if_neg h7];by_cases h8:k=8
  · rw [if_pos h8];unfold U32;omega
  rw [if_neg h8];by_cases h9:k=9
  · rw [if_pos h9];unfold U32;omega
  rw [if_neg h9];by_cases h10:k=10
  · rw [if_pos h10];clear a1 a2 a3;generalize x.toNat >>> y.toNat=z at a4 ⊢;unfold U32;omega
  rw [if_neg h10];by_cases h11:k=11
  · rw [if_pos h11];by_cases e:x=y
    · rw [if_pos e];exact ⟨by decide,by decide⟩
    · rw [if_neg e];exact ⟨by decide,by decide⟩
  rw [if_neg h11];by_cases h12:k=12
  · rw [if_pos h12];by_cases e:x < y
    · rw [if_pos e];exact ⟨by decide,by decide⟩
    · rw [if_neg e];exact ⟨by decide,by decide⟩
  rw [if_neg h12];exact ⟨x1,x2⟩
def qn3(h:MOK m)(ha:AcOK a)(ho:U32 op):MOK (qbz m a op):=by
  have hx:=qin h ho ha.ux;have hy:=qin h ho ha.uy;unfold qbz;simp only;repeat' split
  all_goals first
    | exact h
    | exact ⟨h.cells,h.wide,h.u0,h.u1,h.u2,h.u3,h.u4,h.output,h.input,h.code⟩
    | exact qiT h (qb2 hx hy)
    | exact qiT h ⟨by decide,by decide⟩
    | exact ⟨h.cells,h.wide,h.u0,h.u1,h.u2,h.u3,h.u4,h.output,h.input,hx⟩
    | skip
  · refine qiT h ?_
    by_cases hl:(qbY m op a.x).toNat < m.cells.length
    · simp only [List.getD,List.getElem?_eq_getElem hl,Option.getD_some]
      exact h.wide _ (List.getElem_mem hl)
    · simp [List.getD,List.getElem?_eq_none (Nat.le_of_not_lt hl)];exact ⟨by decide,by decide⟩
  · refine ⟨by simpa using h.cells,fun x hx=>?_,h.u0,h.u1,h.u2,h.u3,h.u4,h.output,h.input,h.code⟩
    rcases List.mem_or_eq_of_mem_set hx with h1|h1
    · exact h.wide x h1
    · rw [h1];exact hy
  · rename_i c r hi
    have hu:U32 (c.toNat:Int):=⟨by omega,by have:=c.toNat_lt;omega⟩;have h2:=qiT (i:=a.tgt) h hu;have h3:=h.input;rw [hi] at h3;exact ⟨h2.cells,h2.wide,h2.u0,h2.u1,h2.u2,h2.u3,h2.u4,h2.output,by simp at h3;show r.length≤400000;omega,h2.code⟩
  · rename_i k1 _ _ _ k2
    have h1:=h.output;refine ⟨h.cells,h.wide,h.u0,h.u1,h.u2,h.u3,h.u4,?_,h.input,h.code⟩;simp only [List.length_append,List.length_cons,List.length_nil];have:m.output.length≠20000:=fun e=>k1 ⟨k2,e⟩;omega
def qBG(hx:a.x.kind≠2)(hy:a.y.kind≠2)(o o':Int):qbz m a o=qbz m a o':=by simp [qbY,hx,hy,qbz]
def qw2(h:∀ a∈l,a.x.kind≠2∧a.y.kind≠2)(m:Mst)(o o':Int):qbu m o l=qbu m o' l:=by
 induction l generalizing m with
 | nil=>rfl
 | cons a r ih=>
  have h1:=h a Mc;simp only [qbu,qBG h1.1 h1.2 o o'];rw [ih (fun b hb=>h b (List.mem_cons_of_mem _ hb))]
open Go.FL
attribute [local irreducible] JC JO JA JB qaJ qax qbN AC fill CellsAt QE Ev Mid
section
variable{t:Tab}{m:Mst}{x:Ins}
def qtf(h:¬ m.r4 < (m.cells.length:Int)):qbi t m={ m with stop:=3 }:=by unfold qbi;rw [if_pos O]
def qtg(h:m.r4 < (m.cells.length:Int))(hf:qeI t.ins (m.cells.getD m.r4.toNat 0)=none):qbi t m={ m with stop:=2 }:=by unfold qbi;rw [if_neg O,hf]
def qte(h:m.r4 < (m.cells.length:Int))(hf:qeI t.ins (m.cells.getD m.r4.toNat 0)=some x)(ho:x.operand=true)(h1:¬ m.r4+1 < (m.cells.length:Int)):qbi t m={ m with stop:=3 }:=by
 unfold qbi;rw [if_neg O,hf];simp only [ho,if_true];rw [if_pos O]
def qqr(h:m.r4 < (m.cells.length:Int))(hf:qeI t.ins (m.cells.getD m.r4.toNat 0)=some x)(ho:x.operand=true)(h1:m.r4+1 < (m.cells.length:Int)):qbi t m=qbu { m with r4:=m.r4+2 } (m.cells.getD (m.r4+1).toNat 0) x.acts:=by
 unfold qbi;rw [if_neg O,hf];simp only [ho,if_true];rw [if_neg O]
def qqq(h:m.r4 < (m.cells.length:Int))(hf:qeI t.ins (m.cells.getD m.r4.toNat 0)=some x)(ho:x.operand=false)(ha:∀ a∈x.acts,a.x.kind≠2∧a.y.kind≠2)(op:Int):qbi t m=qbu { m with r4:=m.r4+1 } op x.acts:=by
 unfold qbi;rw [if_neg O,hf];simp only [ho];rw [qw2 ha _ op 0];rfl
end
def qA6{p:Prop} (h:p:=by
 obtain ⟨hk,rfl⟩:=List.getElem?_eq_some_iff.1 h;rw [List.drop_eq_getElem_cons hk];simp [qbu,hs]):p:=h
def qn5(h:l[k]?=some a)(hs:(qbz m a op).stop=0):qbu m op (l.drop k)=qbu (qbz m a op) op (l.drop (k+1)):=by
 exact qA6
def qn6(h:l[k]?=some a)(hs:¬ (qbz m a op).stop=0):qbu m op (l.drop k)=qbz m a op:=by
 exact qA6
def qn4(h:l.length≤k):qbu m op (l.drop k)=m:=by rw [List.drop_eq_nil_of_le h];rfl
def qiD{l:List Int}(h:∀ x∈l,U32 x)(i:Nat):U32 (l.getD i 0):=by
 by_cases hl:i < l.length
 · simp only [List.getD,List.getElem?_eq_getElem hl,Option.getD_some];exact h _ (List.getElem_mem hl)
 · simp [List.getD,List.getElem?_eq_none (Nat.le_of_not_lt hl)];exact ⟨by decide,by decide⟩
def qDe(h:MOK m){v:Int}(hv:U32 v):MOK { m with r4:=v }:=⟨h.cells,h.wide,h.u0,h.u1,h.u2,h.u3,hv,h.output,h.input,h.code⟩
def Cz14{p:Prop} (h:p:=by
 refine ⟨_::_::_::O2,Z,Z,opk,hop1,?_⟩;rw [hact,qn6 ha hs2];exact ⟨bc2,cc2,yc2,O2,Ao2,co2,Ai2,ni2,ci2,rfl,hO2,hI2.le ((Lr D).t hS2),hcc22,hcc23⟩):p:=h
def Cz15{p:Prop} (h:p:=by
 refine ⟨_::_::_::O1,Z,Z,opk,hop1,?_⟩;rw [hact,qn4 O];exact ⟨bc1,cc1,yc1,O1,Ao1,co1,Ai1,ni1,ci1,rfl,hO1,hI1.le ((Lr D).t hS2),hcc1,hcc21⟩):p:=h
def qy8(bm:Nat)(Ax:Option Addr)(nx cx:Nat)(sm:List Int)(hsm:sm.length=256)(bq:Nat)(es:List (Int×Value×Nat))(ck:Nat)(op:Int)(m:Mst)(M:Hl)(hM:qjd bm (.slice Ax nx cx) sm bq es ck op m M s)(t:Tab)(hX:Inss s Ax nx cx t.ins)(hG:TabG t)(hok:MOK m)(hop:U32 op)(hst:m.stop=0)(hS:∀ c,0≤c→c < 256→sm[c.toNat]?=some (qfb t.ins c nx:Int))(hB:∀ c,256≤c→(qaW es c).getD (.int .i64 0)=.int .i64 (qfb t.ins c nx:Int)):AC Tryz.prog D 56 [.pointer (some ⟨bm,0,none⟩)] (M++L) s fun v L' s'=>∃ M',L'=M'++L∧v=.tuple #[]∧∃ op',U32 op'∧qjd bm (.slice Ax nx cx) sm bq es ck op' (qbi t m) M' s':=by
 obtain ⟨bc,cc,yc,Oq9,Ao,co,Ai,ni,ci,rfl,hO,hI,hcc,hcc2⟩:=hM;have hu4:=hok.u4;have hr1:=hu4.1;have hr2:=hu4.2;have hnc:=hok.cells;have hnx:=hX.1;have hple:=qyD t.ins (m.cells.getD m.r4.toNat 0) nx;have hcu:=qiD hok.wide m.r4.toNat;simp only [List.cons_append];refine qad (fn:=Tryz.f56) qao Tryz.func56 V Z Tryz.ntmps56 Z (rs:=[]) Z [(0,_)] Z<|G6 ?_;refine qae (qnQ (sz:=1) 4 Z Z Z Z Z Z Dc) Z<|G9 ?_;refine Jc Z Z Z (AC.mid [] [_] _ (qfs D _ _ _ _ _ _ _ _ _ _ _ _ _ _ _ _ _ _ _ hsm _ hu4 hnc)) ?_;rintro _ _ s1 h1 ⟨_,rfl,rfl,rfl⟩;simp only [cQ9,nQ9];refine G3 ?_;refine qaR Z ?_ ?_<;>intro c2;·have hfar:=c2;refine G6 ?_;refine qeV 0 (_::_::_::_::_::_::_::_::_::_::_::_) Z Z Z Z Z Z Z Z Z<|G4 ?_;refine rR [] _ (.nil) Z h1 fun _ hS2=>?_;refine ⟨_::_::_::Oq9,Z,Z,op,hop,?_⟩;rw [qtf hfar];exact ⟨bc,cc,yc,Oq9,Ao,co,Ai,ni,ci,rfl,hO,hI.le (h1.t hS2),hcc,hcc2⟩
 have hfar:m.r4 < (m.cells.length:Int):=c2;refine G11 ?_;refine qae (qc9 Z Z Z Z Z Z hr1 hfar) Z<|qae (qb5 1 Z Z Z Z (qiM hr1 hfar)) Z<|Jc Z Z Z (qxR D _ _ _ _ _ _ _ _ _ _ _ _ _ _ _ _ _ _ _ hsm _ es ck t.ins (hX.le h1) _ hcu (qfb t.ins (m.cells.getD m.r4.toNat 0) nx) hple (hS _ hcu.1) (hB _)) ?_;rintro _ _ s3 h3 ⟨_,rfl,rfl,rfl⟩;have e3:=h1.t h3;simp only [cQ9,nQ9];refine G16 ?_;refine qaR Z ?_ ?_<;>intro c4
 ·have hp0:qfb t.ins (m.cells.getD m.r4.toNat 0) nx=0:=by simpa using c4
  have hfi:=qmZ (fun i x hi hx=>qpW hp0 i x O hx);refine G6 ?_;refine qeV 0 (_::_::_::_::_::_::_::_::_::_::_::_) Z Z Z Z Z Z Z Z Z<|G5 ?_;refine rR [] _ (.nil) Z e3 fun _ hS2=>?_;refine ⟨_::_::_::Oq9,Z,Z,op,hop,?_⟩;rw [qtg hfar hfi];exact ⟨bc,cc,yc,Oq9,Ao,co,Ai,ni,ci,rfl,hO,hI.le (e3|>.t hS2),hcc,hcc2⟩
 have hp0:qfb t.ins (m.cells.getD m.r4.toNat 0) nx≠0:=by simpa using c4
 obtain ⟨bx,ox,x,A',n',c',hAx,hx,hcx,hax,_,_⟩:=Inss.at_ (hX.le e3) (show qfb t.ins (m.cells.getD m.r4.toNat 0) nx - 1 < nx by omega);subst hAx;rw [qx1 hp0];obtain ⟨x',hx',hxc⟩:=qsJ hp0;rw [hx] at hx';injection hx' with hx'
 subst hx';have hfi:=qm0 hG hx hxc;have hn':=hax.1;have hfew:=hG.few _ _ hx;refine G4 ?_;refine qae (qbD Z Z Z Z) Z<|qae (qa8 2 Z Z Z (hcx.le (Lr D)) Z) Z<|G4 ?_;refine qc8 Z ?_ ?_<;>intro c5
 ·have hopd:=c5;refine G3 ?_;refine qae (qaI Z Z (qii O O)) Z<|G3 ?_;refine qae (qnQ (sz:=1) 4 Z Z Z Z Z Z Dc) Z<|qeV 0 (_::_::_::_::_::_::_::_::_::_::_::_) Z Z Z Z Z Z Z Z Z<|G7 ?_;refine qae (qbD Z Z Z Z) Z<|qae (qa8 3 Z Z Z (hcx.le (Lr D)) Z) Z<|G5 ?_;refine qaH (γ:=Nat×Mst×Int×Hl) (fun g=>[(0,_),(3,_),(86,_),(87,.int .i64 (g.1:Int))]) (fun g=>g.2.2.2++L) (fun g tw=>Le D s3 tw∧(g.1≤n'∧qjd bm (.slice (some ⟨bx,ox,none⟩) nx cx) sm bq es ck g.2.2.1 g.2.1 g.2.2.2 tw∧MOK g.2.1∧U32 g.2.2.1∧g.2.1.stop=0∧qbi t m=qbu g.2.1 g.2.2.1 (x.acts.drop g.1))) (fun g=>n' - g.1) (fun _ _ _ h hl=>⟨h.1.trans hl,by obtain ⟨_,k1,⟨bc,cc,yc,Oq9,Ao,co,Ai,ni,ci,k2,k3,k4,k5⟩,k6⟩:=h;exact ⟨k1,⟨bc,cc,yc,Oq9,Ao,co,Ai,ni,ci,k2,k3,k4.le hl,k5⟩,k6⟩⟩) (0,{ m with r4:=m.r4+1 },op,_::_::_::Oq9) (.c4 Z Z Z Z (.nil _)) Z ⟨Le.refl _,⟨Nat.zero_le _,⟨bc,cc,yc,Oq9,Ao,co,Ai,ni,ci,Z,hO,hI.le e3,hcc,hcc2⟩,qDe hok (by constructor<;>omega),by first|exact hop|exact qiD hok.wide _,hst,by first|exact qqr hfar hfi hopd hnext|exact qqq hfar hfi hopd (fun a ha=>(hG.acts _ _ _ hx ha).2 hopd) _⟩⟩ ?_;intro g s6 I6;obtain ⟨k,mk,opk,Mk⟩:=g;obtain ⟨hk0,⟨bc1,cc1,yc1,O1,Ao1,co1,Ai1,ni1,ci1,hMk,hO1,hI1,hcc1,hcc21⟩,hok1,hop1,hst1,hact⟩:=I6.2;simp only at hk0 hMk hO1 hI1 hcc1 hok1 hop1 hst1 hact;subst hMk;simp only [List.cons_append];refine J6 ?_ ?_<;>intro c7
  ·have hk:k < n':=by omega
   obtain ⟨b2,off2,a,rfl,ha,hca,hau⟩:=Acs.at_ (hax.le I6.1) hk;have hacOK:=hG.acts _ _ _ hx (List.mem_of_getElem? ha);refine G15 ?_;refine qae (qbD Z Z Z Z) Z<|qae (qa8 3 Z Z Z (hcx.le I6.1) Z) Z<|Zqm Z Z<|qae (qaw Z Z Z Z Z Z hk) Z<|Jc Z Z Z (qve D _ _ bm _ _ _ sm hsm bq es ck opk mk _ ⟨bc1,cc1,yc1,O1,Ao1,co1,Ai1,ni1,ci1,Z,hO1,hI1.le (Lr D),hcc1,hcc21⟩ a _ _ (hca.le (Lr D)) hok1 hop1 hacOK.1) ?_;rintro _ _ s8 h8 ⟨M2,rfl,rfl,bc2,cc2,yc2,O2,Ao2,co2,Ai2,ni2,ci2,rfl,hO2,hI2,hcc22,hcc23⟩;simp only [List.cons_append];refine G12 ?_;refine qaR Z ?_ ?_<;>intro c9;·have hs2:=c9;refine G5 ?_;exact rR [] _ (.nil) Z (e3.t I6.1|>.t h8) fun _ hS2=>Cz14
   have hs2:=c9;refine G4 ?_;refine qaV Z Z Z (w64 O O)<|G2 ?_;refine qaf ⟨(k+1,qbz mk a opk,opk,_::_::_::O2),[],kp,Z,⟨(I6.1.t h8),⟨by omega,⟨bc2,cc2,yc2,O2,Ao2,co2,Ai2,ni2,ci2,Z,hO2,hI2.le (Lr D),hcc22,hcc23⟩,qn3 hok1 hacOK.1 hop1,hop1,hs2,by rw [hact,qn5 ha hs2]⟩⟩,Oz⟩
  refine G4 ?_;refine qas [] _ (.inl Z) (.nil) Z (e3.t I6.1) fun _ hS2=>?_;exact Cz15
 have hopd:=c5;refine G4 ?_;refine qae (qaI Z Z (qii O O)) Z<|Jc Z Z Z (AC.mid [] [_] _ (qfs D _ _ _ _ _ _ _ _ _ _ _ _ _ _ _ _ _ _ _ hsm _ (show U32 (m.r4+1) from ⟨by omega,by omega⟩) hnc)) ?_;rintro _ _ s6 h6 ⟨_,rfl,rfl,rfl⟩;have e6:=e3.t h6;simp only [cQ9,nQ9];refine G4 ?_;refine qaR Z ?_ ?_<;>intro c7;·have hnext:=c7;refine G6 ?_;refine qeV 0 (_::_::_::_::_::_::_::_::_::_::_::_) Z Z Z Z Z Z Z Z Z<|G5 ?_;refine rR [] _ (.nil) Z e6 fun _ hS2=>?_;refine ⟨_::_::_::Oq9,Z,Z,op,hop,?_⟩;rw [qte hfar hfi hopd hnext];exact ⟨bc,cc,yc,Oq9,Ao,co,Ai,ni,ci,rfl,hO,hI.le (e6|>.t hS2),hcc,hcc2⟩
 have hnext:m.r4+1 < (m.cells.length:Int):=c7;refine G9 ?_;refine qae (qaI Z Z (qii O O)) Z<|qae (qc9 Z Z Z Z Z Z O hnext) Z<|qae (qb5 1 Z Z Z Z (qiM O hnext)) Z<|G2 ?_;refine qeV 0 _ Z Z Z Z Z (qB0 _ _ _ _ _ _ _ _ _ _ _ _ _ hsm) Z (qDt _ _ _ _ _ _ _ _ _ _ _ _ _ _ hsm) Z<|G5 ?_;refine qae (qaI Z Z (qii O O)) Z<|G3 ?_;refine qae (qnQ (sz:=1) 4 Z Z Z Z Z Z Dc) Z ?_;refine qeV 0 (_::_::_::_::_::_::_::_::_::_::_::_) Z Z Z Z Z Z Z Z Z<|G7 ?_;refine qae (qbD Z Z Z Z) Z<|qae (qa8 3 Z Z Z (hcx.le h6) Z) Z<|G5 ?_;refine qaH (γ:=Nat×Mst×Int×Hl) (fun g=>[(0,_),(3,_),(86,_),(87,.int .i64 (g.1:Int))]) (fun g=>g.2.2.2++L) (fun g tw=>Le D s6 tw∧(g.1≤n'∧qjd bm (.slice (some ⟨bx,ox,none⟩) nx cx) sm bq es ck g.2.2.1 g.2.1 g.2.2.2 tw∧MOK g.2.1∧U32 g.2.2.1∧g.2.1.stop=0∧qbi t m=qbu g.2.1 g.2.2.1 (x.acts.drop g.1))) (fun g=>n' - g.1) (fun _ _ _ h hl=>⟨h.1.trans hl,by obtain ⟨_,k1,⟨bc,cc,yc,Oq9,Ao,co,Ai,ni,ci,k2,k3,k4,k5⟩,k6⟩:=h;exact ⟨k1,⟨bc,cc,yc,Oq9,Ao,co,Ai,ni,ci,k2,k3,k4.le hl,k5⟩,k6⟩⟩) (0,{ m with r4:=m.r4+2 },m.cells.getD (m.r4+1).toNat 0,_::_::_::Oq9) (.c4 Z Z Z Z (.nil _)) Z ⟨Le.refl _,⟨Nat.zero_le _,⟨bc,cc,yc,Oq9,Ao,co,Ai,ni,ci,Z,hO,hI.le e6,hcc,hcc2⟩,qDe hok (by constructor<;>omega),by first|exact hop|exact qiD hok.wide _,hst,by first|exact qqr hfar hfi hopd hnext|exact qqq hfar hfi hopd (fun a ha=>(hG.acts _ _ _ hx ha).2 hopd) _⟩⟩ ?_;intro g s9 I9;obtain ⟨k,mk,opk,Mk⟩:=g;obtain ⟨hk0,⟨bc1,cc1,yc1,O1,Ao1,co1,Ai1,ni1,ci1,hMk,hO1,hI1,hcc1,hcc21⟩,hok1,hop1,hst1,hact⟩:=I9.2;simp only at hk0 hMk hO1 hI1 hcc1 hok1 hop1 hst1 hact;subst hMk;simp only [List.cons_append];refine J6 ?_ ?_<;>intro c10
 ·have hk:k < n':=by omega
  obtain ⟨b2,off2,a,rfl,ha,hca,hau⟩:=Acs.at_ (hax.le (h6.t I9.1)) hk;have hacOK:=hG.acts _ _ _ hx (List.mem_of_getElem? ha);refine G15 ?_;refine qae (qbD Z Z Z Z) Z<|qae (qa8 3 Z Z Z (hcx.le (h6.t I9.1)) Z) Z<|Zqm Z Z<|qae (qaw Z Z Z Z Z Z hk) Z<|Jc Z Z Z (qve D _ _ bm _ _ _ sm hsm bq es ck opk mk _ ⟨bc1,cc1,yc1,O1,Ao1,co1,Ai1,ni1,ci1,Z,hO1,hI1.le (Lr D),hcc1,hcc21⟩ a _ _ (hca.le (Lr D)) hok1 hop1 hacOK.1) ?_;rintro _ _ s11 h11 ⟨M2,rfl,rfl,bc2,cc2,yc2,O2,Ao2,co2,Ai2,ni2,ci2,rfl,hO2,hI2,hcc22,hcc23⟩;simp only [List.cons_append];refine G12 ?_;refine qaR Z ?_ ?_<;>intro c12;·have hs2:=c12;refine G5 ?_;exact rR [] _ (.nil) Z (e6.t I9.1|>.t h11) fun _ hS2=>Cz14
  have hs2:=c12;refine G4 ?_;refine qaV Z Z Z (w64 O O)<|G2 ?_;refine qaf ⟨(k+1,qbz mk a opk,opk,_::_::_::O2),[],kp,Z,⟨(I9.1.t h11),⟨by omega,⟨bc2,cc2,yc2,O2,Ao2,co2,Ai2,ni2,ci2,Z,hO2,hI2.le (Lr D),hcc22,hcc23⟩,qn3 hok1 hacOK.1 hop1,hop1,hs2,by rw [hact,qn5 ha hs2]⟩⟩,Oz⟩
 refine G4 ?_;refine qas [] _ (.inl Z) (.nil) Z (e6.t I9.1) fun _ hS2=>?_;exact Cz15
open Go.Proofs.Tryz
def qkc(m:Mst)(op:Int)(bm bc bq:Nat)(Ai Ao Ax:Option Addr)(nc cc ni ci no co nx cx:Nat)(sm:List Int)(hsm:sm.length=256)(hI:Bts s Ai ni ci m.input)(hni:ni≤1000000):AC prog D 57 [.pointer (some ⟨bm,0,none⟩)] ([(bm,cb (.slice (some ⟨bc,0,none⟩) nc cc::.int .u32 m.r0::.int .u32 m.r1::.int .u32 m.r2::.int .u32 m.r3::.int .u32 m.r4::.slice Ai ni ci::.slice Ao no co::.int .i64 m.stop::.int .u32 m.code::.slice Ax nx cx::(iv sm++[.map (some bq),.int .u32 op])) 148)]++L) s fun v L' s'=>∃ M',L'=M'++L∧M'=[(bm,cb (.slice (some ⟨bc,0,none⟩) nc cc::.int .u32 m.r0::.int .u32 m.r1::.int .u32 m.r2::.int .u32 m.r3::.int .u32 m.r4::.slice Ai ni ci::.slice Ao no co::.int .i64 m.stop::.int .u32 m.code::.slice Ax nx cx::(iv sm++[.map (some bq),.int .u32 op])) 148)]∧∃ Ad c',v=.agg #[.slice (some ⟨bc,0,none⟩) nc cc,.int .u32 m.r0,.int .u32 m.r1,.int .u32 m.r2,.int .u32 m.r3,.int .u32 m.r4,.slice Ad ni c',.slice Ao no co,.int .i64 m.stop,.int .u32 m.code]∧Bts s' Ad ni c' m.input:=by
 refine qad (fn:=f57) qao func57 V Z ntmps57 Z (rs:=[.cell 2 74]) Z [(0,_)] Z<|Sr<|qac Z [_,_,_,_,_,_,_,_,_,_] Z Z fun β1 s1 h1=>G7 ?_;refine qae (qaj 1 [_,_,_,_,_,_,_,_,_,_] Z Z Z Z Z) Z<|qac Z [_,_,_,_,_,_,_,_,_,_] Z Z fun β2 s2 h2=>Wt 0 [_,_,_,_,_,_,_,_,_,_] Y9<|G6 ?_;refine Jc Z Z Z (AC.pub (qaX D _ _ _ _ _ _ (hI.le (h1.t h2)) hni)) ?_;rintro _ _ s3 h3 ⟨rfl,M1,sw,⟨Ad,c1,rfl,_,_,hOw⟩,hsw,hcw⟩;have hB1:=Own.bts hOw hcw;refine Wb Y5<|Wt 0 [_,_,_,_,_,_,_,_,_,_] Y9<|Nt<|Sr<|qae (qaj 0 [_,_,_,_,_,_,_,_,_,_] Z Z Z Z Z) Z<|Wt 1 [_,_,_,_,_,_,_,_,_,_] Y9<|G3 ?_;exact rR [_,_] _ (.agg (us:=[_,_,_,_,_,_,_,_,_,_]) 1 Z Z Z Z Z (.nil)) Z (h1.t h2|>.t h3) fun _ hS2=>⟨[_],rfl,rfl,Ad,c1,rfl,hB1.le ((Lr D).t hS2)⟩
def qfx(h:ins[k]?=some x)(c:Int):qfb ins c (k+1)=if x.code=c then k+1 else qfb ins c k:=by simp [qfb,h]
def qfD{sm:List Int}(h:ins[k]?=some x)(hx:U32 x.code)(hlt:x.code < 256)(hl:sm.length=256)(hS:∀ c:Int,0≤c→c < 256→sm[c.toNat]?=some (qfb ins c k:Int)):
    (sm.set x.code.toNat ((k:Int)+1)).length=256∧∀ c:Int,0≤c→c < 256→(sm.set x.code.toNat ((k:Int)+1))[c.toNat]?=some (qfb ins c (k+1):Int):=by
  refine ⟨by simpa using hl,fun c h1 h2=>?_⟩;have hx0:=hx.1;rw [qfx h];by_cases e:x.code=c
  · subst e
    rw [if_pos rfl,List.getElem?_set_self O];simp
  · rw [if_neg e,List.getElem?_set_ne O];exact hS c h1 h2
def qkq{es:List (Int×Value×Nat)}(h:ins[k]?=some x)(hlt:x.code < 256)(hB:∀ c:Int,256≤c→(qaW es c).getD (.int .i64 0)=.int .i64 (qfb ins c k:Int)):
  ∀ c:Int,256≤c→(qaW es c).getD (.int .i64 0)=.int .i64 (qfb ins c (k+1):Int):=fun c hc=>by
 rw [qfx h,if_neg O];exact hB c hc
def qju{sm:List Int}(h:ins[k]?=some x)(hge:¬ x.code < 256)(hS:∀ c:Int,0≤c→c < 256→sm[c.toNat]?=some (qfb ins c k:Int)):
  ∀ c:Int,0≤c→c < 256→sm[c.toNat]?=some (qfb ins c (k+1):Int):=fun c h1 h2=>by
 rw [qfx h,if_neg O];exact hS c h1 h2
def qok{es:List (Int×Value×Nat)}{ck:Nat}(h:ins[k]?=some x)(hB:∀ c:Int,256≤c→(qaW es c).getD (.int .i64 0)=.int .i64 (qfb ins c k:Int)):
  ∀ c:Int,256≤c→(qaW (qi9 es x.code (.int .i64 ((k:Int)+1)) ck) c).getD (.int .i64 0)=.int .i64 (qfb ins c (k+1):Int):=fun c hc=>by
 rw [qeu,qfx h];by_cases e:c=x.code
 · rw [if_pos e,if_pos e.symm];simp
 · rw [if_neg e,if_neg (fun h=>e h.symm)];exact hB c hc
def Ez13{p:Prop} (h:p:=by
 rintro _ _ s6 h6 ⟨rfl,Mi,swi,⟨Ai1,ci1,rfl,_,_,hOi⟩,hswi,hcwi⟩;refine ⟨fun _ _ h=>h,?_⟩;have hBi:=Own.bts hOi hcwi;refine qaq 8 V<|Jb Z Tt Z Z Z (AC.mid [_,_,_] [] _ (qaX D _ _ _ _ _ _ (hOx.le (h1.t h2|>.t h4|>.t h5|>.t h6)) O)) ?_;rintro _ _ s7 h7 ⟨Oq9,rfl,Ao1,co1,rfl,_,_,hOo⟩;refine ⟨(fun x h _=>by cases h),?_⟩;simp only [cQ9,nQ9];refine qaq 10 V<|Wu Z Tt 0 [_,_,_,_,_,_,_,_,_,_] Y9 (fun x hx=>by cases hx)<|H1 ?_;refine qaq 12 V<|Wu Z Tt 0 [_,_,_,_,_,_,_,_,_,_] Y9 (fun x hx=>by cases hx)<|H1 ?_;refine qaq 14 V<|Wu Z Tt 0 [_,_,_,_,_,_,_,_,_,_] Y9 (fun x hx=>by cases hx)<|qah V ?_;refine qaf (Mid.mk (bc,c1,yc,Oq9,Ao1,co1,Ai1,ci1) [] kp Pr ⟨(h4.t h5|>.t h6|>.t h7),⟨hOo,hBi.le h7,by rw [← hcy,qdZ],hcy2⟩⟩)):p:=h
def Ez5{p:Prop} (h:p:=by
 refine qbH Z Tt (Wd 0 Y5) Z<|qaq 1 V<|qbH Z Tt (Wd 0 Y5) Z<|qaq 2 V<|Jb Z Tt Z Z Z (AC.mid [_,_] [] _ (qdF D _ _ _ _ _ _ (hAx.le (h1.t h2|>.t h4)) O)) ?_;rintro _ _ s5 h5 ⟨M1,rfl,Ad,c1,rfl,_,_,hO1⟩;have e5:=h1.t h2|>.t h4|>.t h5;refine ⟨(fun x h _=>by cases h),?_⟩;obtain ⟨bc,yc,rfl,rfl,hcy,hcy2⟩:=Own.blk_of hO1 hc0;simp only [cQ9,nQ9];refine H1 ?_;refine qaq 5 V<|Jb Z Tt Z Z Z (AC.pub (qaX D _ _ _ _ _ _ (hBx.le e5) O)) ?_;rintro _ _ s6 h6 ⟨rfl,Mi,swi,⟨Ai1,ci1,rfl,_,_,hOi⟩,hswi,hcwi⟩;refine ⟨fun _ _ h=>h,?_⟩;have hBi:=Own.bts hOi hcwi;refine qaq 8 V<|Jb Z Tt Z Z Z (AC.mid [_,_,_] [] _ (qaX D _ _ _ _ _ _ (hOx.le (e5.t h6)) O)) ?_;rintro _ _ s7 h7 ⟨Oq9,rfl,Ao1,co1,rfl,_,_,hOo⟩;refine ⟨(fun x h _=>by cases h),?_⟩;simp only [cQ9,nQ9];refine qaq 10 V<|Wu Z Tt 0 [_,_,_,_,_,_,_,_,_,_] Y9 (fun x hx=>by cases hx)<|H1 ?_;refine qaq 12 V<|Wu Z Tt 0 [_,_,_,_,_,_,_,_,_,_] Y9 (fun x hx=>by cases hx)<|H1 ?_;refine qaq 14 V<|Wu Z Tt 0 [_,_,_,_,_,_,_,_,_,_] Y9 (fun x hx=>by cases hx)<|qah V ?_;refine qaf (Mid.mk (bc,c1,yc,Oq9,Ao1,co1,Ai1,ci1) [] kp Pr ⟨(h4.t h5|>.t h6|>.t h7),⟨hOo,hBi.le h7,by rw [← hcy,qdZ],hcy2⟩⟩)):p:=h
def Ez3{p:Prop} (h:p:=by
  refine qbH Z Tt (Wd 0 Y5) Z ?_;refine qdB 2 4 V ?_ ?_;·refine Jb Z Tt Z Z Z (AC.mid [_,_] [] _ (qdF D _ _ _ _ _ _ (hAx.le (h1.t h2|>.t h4)) O)) ?_;rintro _ _ s5 h5 ⟨M1,rfl,Ad,c1,rfl,_,_,hO1⟩;have e5:=h1.t h2|>.t h4|>.t h5;refine ⟨(fun x h _=>by cases h),?_⟩;obtain ⟨bc,yc,rfl,rfl,hcy,hcy2⟩:=Own.blk_of hO1 hc0;simp only [cQ9,nQ9];refine qaq 4 V<|qbH Z Tt (Wd 0 Y5) Z<|H1 ?_;refine qaq 5 V<|Jb Z Tt Z Z Z (AC.pub (qaX D _ _ _ _ _ _ (hBx.le e5) O)) ?_;rintro _ _ s6 h6 ⟨rfl,Mi,swi,⟨Ai1,ci1,rfl,_,_,hOi⟩,hswi,hcwi⟩;refine ⟨fun _ _ h=>h,?_⟩;have hBi:=Own.bts hOi hcwi;refine qaq 8 V<|Jb Z Tt Z Z Z (AC.mid [_,_,_] [] _ (qaX D _ _ _ _ _ _ (hOx.le (e5.t h6)) O)) ?_;rintro _ _ s7 h7 ⟨Oq9,rfl,Ao1,co1,rfl,_,_,hOo⟩;refine ⟨(fun x h _=>by cases h),?_⟩;simp only [cQ9,nQ9];refine qaq 10 V<|Wu Z Tt 0 [_,_,_,_,_,_,_,_,_,_] Y9 (fun x hx=>by cases hx)<|H1 ?_;refine qaq 12 V<|Wu Z Tt 0 [_,_,_,_,_,_,_,_,_,_] Y9 (fun x hx=>by cases hx)<|H1 ?_;refine qaq 14 V<|Wu Z Tt 0 [_,_,_,_,_,_,_,_,_,_] Y9 (fun x hx=>by cases hx)<|qah V ?_;refine qaf (Mid.mk (bc,c1,yc,Oq9,Ao1,co1,Ai1,ci1) [] kp Pr ⟨(h4.t h5|>.t h6|>.t h7),⟨hOo,hBi.le h7,by rw [← hcy,qdZ],hcy2⟩⟩)
  refine qbH Z Tt (Wd 0 Y5) Z<|qaq 2 V<|Jb Z Tt Z Z Z (AC.mid [_,_] [] _ (qdF D _ _ _ _ _ _ (hAx.le (h1.t h2|>.t h4)) O)) ?_;rintro _ _ s5 h5 ⟨M1,rfl,Ad,c1,rfl,_,_,hO1⟩;have e5:=h1.t h2|>.t h4|>.t h5;refine ⟨(fun x h _=>by cases h),?_⟩;obtain ⟨bc,yc,rfl,rfl,hcy,hcy2⟩:=Own.blk_of hO1 hc0;simp only [cQ9,nQ9];refine H1 ?_;refine qaq 5 V<|Jb Z Tt Z Z Z (AC.pub (qaX D _ _ _ _ _ _ (hBx.le e5) O)) ?_;rintro _ _ s6 h6 ⟨rfl,Mi,swi,⟨Ai1,ci1,rfl,_,_,hOi⟩,hswi,hcwi⟩;refine ⟨fun _ _ h=>h,?_⟩;have hBi:=Own.bts hOi hcwi;refine qaq 8 V<|Jb Z Tt Z Z Z (AC.mid [_,_,_] [] _ (qaX D _ _ _ _ _ _ (hOx.le (e5.t h6)) O)) ?_;rintro _ _ s7 h7 ⟨Oq9,rfl,Ao1,co1,rfl,_,_,hOo⟩;refine ⟨(fun x h _=>by cases h),?_⟩;simp only [cQ9,nQ9];refine qaq 10 V<|Wu Z Tt 0 [_,_,_,_,_,_,_,_,_,_] Y9 (fun x hx=>by cases hx)<|H1 ?_;refine qaq 12 V<|Wu Z Tt 0 [_,_,_,_,_,_,_,_,_,_] Y9 (fun x hx=>by cases hx)<|H1 ?_;refine qaq 14 V<|Wu Z Tt 0 [_,_,_,_,_,_,_,_,_,_] Y9 (fun x hx=>by cases hx)<|qah V ?_;refine qaf (Mid.mk (bc,c1,yc,Oq9,Ao1,co1,Ai1,ci1) [] kp Pr ⟨(h4.t h5|>.t h6|>.t h7),⟨hOo,hBi.le h7,by rw [← hcy,qdZ],hcy2⟩⟩)):p:=h
def Ez1{p:Prop} (h:p:=by
  refine qbH Z Tt (Wd 0 Y5) Z ?_;refine qdB 2 7 V ?_ ?_
  ·refine Jb Z Tt Z Z Z (AC.mid [_,_] [] _ (qdF D _ _ _ _ _ _ (hAx.le (h1.t h2|>.t h4)) O)) ?_;have e4:=h1.t h2|>.t h4;rintro _ _ s5 h5 ⟨M1,rfl,Ad,c1,rfl,_,_,hO1⟩;refine ⟨(fun x h _=>by cases h),?_⟩;obtain ⟨bc,yc,rfl,rfl,hcy,hcy2⟩:=Own.blk_of hO1 hc0;simp only [cQ9,nQ9];refine qdB 5 7 V ?_ ?_;·refine Jb Z Tt Z Z Z (AC.pub (qaX D _ _ _ _ _ _ (hBx.le (e4.t h5)) O)) ?_;rintro _ _ s6 h6 ⟨rfl,Mi,swi,⟨Ai1,ci1,rfl,_,_,hOi⟩,hswi,hcwi⟩;refine ⟨fun _ _ h=>h,?_⟩;have hBi:=Own.bts hOi hcwi;refine qaq 7 V<|qbH Z Tt (Wd 0 Y5) Z<|H1 ?_;refine qaq 8 V<|Jb Z Tt Z Z Z (AC.mid [_,_,_] [] _ (qaX D _ _ _ _ _ _ (hOx.le (e4.t h5|>.t h6)) O)) ?_;rintro _ _ s7 h7 ⟨Oq9,rfl,Ao1,co1,rfl,_,_,hOo⟩;refine ⟨(fun x h _=>by cases h),?_⟩;simp only [cQ9,nQ9];refine qaq 10 V<|Wu Z Tt 0 [_,_,_,_,_,_,_,_,_,_] Y9 (fun x hx=>by cases hx)<|H1 ?_;refine qaq 12 V<|Wu Z Tt 0 [_,_,_,_,_,_,_,_,_,_] Y9 (fun x hx=>by cases hx)<|H1 ?_;refine qaq 14 V<|Wu Z Tt 0 [_,_,_,_,_,_,_,_,_,_] Y9 (fun x hx=>by cases hx)<|qah V ?_;refine qaf (Mid.mk (bc,c1,yc,Oq9,Ao1,co1,Ai1,ci1) [] kp Pr ⟨(h4.t h5|>.t h6|>.t h7),⟨hOo,hBi.le h7,by rw [← hcy,qdZ],hcy2⟩⟩)
   refine qbH Z Tt (Wd 0 Y5) Z<|H1 ?_;refine qaq 5 V<|Jb Z Tt Z Z Z (AC.pub (qaX D _ _ _ _ _ _ (hBx.le (e4.t h5)) O)) ?_;rintro _ _ s6 h6 ⟨rfl,Mi,swi,⟨Ai1,ci1,rfl,_,_,hOi⟩,hswi,hcwi⟩;refine ⟨fun _ _ h=>h,?_⟩;have hBi:=Own.bts hOi hcwi;refine qaq 8 V<|Jb Z Tt Z Z Z (AC.mid [_,_,_] [] _ (qaX D _ _ _ _ _ _ (hOx.le (e4.t h5|>.t h6)) O)) ?_;rintro _ _ s7 h7 ⟨Oq9,rfl,Ao1,co1,rfl,_,_,hOo⟩;refine ⟨(fun x h _=>by cases h),?_⟩;simp only [cQ9,nQ9];refine qaq 10 V<|Wu Z Tt 0 [_,_,_,_,_,_,_,_,_,_] Y9 (fun x hx=>by cases hx)<|H1 ?_;refine qaq 12 V<|Wu Z Tt 0 [_,_,_,_,_,_,_,_,_,_] Y9 (fun x hx=>by cases hx)<|H1 ?_;refine qaq 14 V<|Wu Z Tt 0 [_,_,_,_,_,_,_,_,_,_] Y9 (fun x hx=>by cases hx)<|qah V ?_;refine qaf (Mid.mk (bc,c1,yc,Oq9,Ao1,co1,Ai1,ci1) [] kp Pr ⟨(h4.t h5|>.t h6|>.t h7),⟨hOo,hBi.le h7,by rw [← hcy,qdZ],hcy2⟩⟩)
  refine qbH Z Tt (Wd 0 Y5) Z<|qaq 2 V<|Jb Z Tt Z Z Z (AC.mid [_,_] [] _ (qdF D _ _ _ _ _ _ (hAx.le (h1.t h2|>.t h4)) O)) ?_;rintro _ _ s5 h5 ⟨M1,rfl,Ad,c1,rfl,_,_,hO1⟩;have e5:=h1.t h2|>.t h4|>.t h5;refine ⟨(fun x h _=>by cases h),?_⟩;obtain ⟨bc,yc,rfl,rfl,hcy,hcy2⟩:=Own.blk_of hO1 hc0;simp only [cQ9,nQ9];refine H1 ?_;refine qaq 5 V<|Jb Z Tt Z Z Z (AC.pub (qaX D _ _ _ _ _ _ (hBx.le e5) O)) ?_;rintro _ _ s6 h6 ⟨rfl,Mi,swi,⟨Ai1,ci1,rfl,_,_,hOi⟩,hswi,hcwi⟩;refine ⟨fun _ _ h=>h,?_⟩;have hBi:=Own.bts hOi hcwi;refine qaq 8 V<|Jb Z Tt Z Z Z (AC.mid [_,_,_] [] _ (qaX D _ _ _ _ _ _ (hOx.le (e5.t h6)) O)) ?_;rintro _ _ s7 h7 ⟨Oq9,rfl,Ao1,co1,rfl,_,_,hOo⟩;refine ⟨(fun x h _=>by cases h),?_⟩;simp only [cQ9,nQ9];refine qaq 10 V<|Wu Z Tt 0 [_,_,_,_,_,_,_,_,_,_] Y9 (fun x hx=>by cases hx)<|H1 ?_;refine qaq 12 V<|Wu Z Tt 0 [_,_,_,_,_,_,_,_,_,_] Y9 (fun x hx=>by cases hx)<|H1 ?_;refine qaq 14 V<|Wu Z Tt 0 [_,_,_,_,_,_,_,_,_,_] Y9 (fun x hx=>by cases hx)<|qah V ?_;refine qaf (Mid.mk (bc,c1,yc,Oq9,Ao1,co1,Ai1,ci1) [] kp Pr ⟨(h4.t h5|>.t h6|>.t h7),⟨hOo,hBi.le h7,by rw [← hcy,qdZ],hcy2⟩⟩)):p:=h
def qyv(t:Tab)(A:Option Addr)(n c:Nat)(hA:Inss s A n c t.ins)(m:Mst)(Ax Bx Ox:Option Addr)(nAx cAx nBx cBx nOx cOx:Nat)(hAx:Wds s Ax nAx cAx m.cells)(hBx:Bts s Bx nBx cBx m.input)(hOx:Bts s Ox nOx cOx m.output)(hok:MOK m)(hc0:0 < m.cells.length):AC prog D 55 [.agg #[.int .i64 t.cells,.slice A n c],.agg #[.slice Ax nAx cAx,.int .u32 m.r0,.int .u32 m.r1,.int .u32 m.r2,.int .u32 m.r3,.int .u32 m.r4,.slice Bx nBx cBx,.slice Ox nOx cOx,.int .i64 m.stop,.int .u32 m.code]] L s fun v L' s'=>∃ M',L'=M'++L∧∃ bm sm bq es ck,v=.pointer (some ⟨bm,0,none⟩)∧sm.length=256∧(∀ c:Int,0≤c→c < 256→sm[c.toNat]?=some (qfb t.ins c n:Int))∧(∀ c:Int,256≤c→(qaW es c).getD (.int .i64 0)=.int .i64 (qfb t.ins c n:Int))∧qjd bm (.slice A n c) sm bq es ck 0 m M' s':=by
 obtain rfl:=hAx.1;obtain rfl:=hOx.1;have hnB:=hBx.1;have hb1:=hok.cells;have hb2:=hok.input;have hb3:=hok.output;have hn:=hA.1;have hcn:=hA.2.1;have hcm:=hA.2.2.1;refine qad (fn:=f55) qao func55 V Z ntmps55 Z (rs:=[.tmp 4]) Z [(0,_),(1,_)] Z<|Sr<|qar Z Z fun β1 s1 h1=>qar Z Z fun β2 s2 h2=>G3 ?_;have e2:=h1.t h2;refine qBe (γ:=Nat×Nat×List Value×Hl×Option Addr×Nat×Option Addr×Nat) (fun g=>[(2,.pointer (some ⟨β1,0,none⟩)),(3,.pointer (some ⟨β2,0,none⟩)),(4,.pointer none)]) (fun g=>(β2,cb [.slice (some ⟨g.1,0,none⟩) m.cells.length g.2.1,.int .u32 m.r0,.int .u32 m.r1,.int .u32 m.r2,.int .u32 m.r3,.int .u32 m.r4,.slice g.2.2.2.2.2.2.1 nBx g.2.2.2.2.2.2.2,.slice g.2.2.2.2.1 m.output.length g.2.2.2.2.2.1,.int .i64 m.stop,.int .u32 m.code] 74)::(β1,cb [.int .i64 t.cells,.slice A n c] 42)::(g.1,cb (wv m.cells++g.2.2.1) 34)::(g.2.2.2.1++L)) (fun g tw=>Le D s2 tw∧(FL.Own 5 1 g.2.2.2.1 (.slice g.2.2.2.2.1 m.output.length g.2.2.2.2.2.1) m.output.length (bv m.output)∧Bts tw g.2.2.2.2.2.2.1 nBx g.2.2.2.2.2.2.2 m.input∧m.cells.length+g.2.2.1.length=g.2.1∧g.2.1≤9223372036854775807)) (fun _ _ _ h hl=>⟨h.1.trans hl,by obtain ⟨_,k1,k2,k3⟩:=h;exact ⟨k1,k2.le hl,k3⟩⟩) ?_ ?_
 ·refine qaB qab 15 Z 0 fun s4 h4=>H3 ?_;have e4:=e2.t h4;refine qBc 1 4 7 V ?_ ?_ ?_
  ·refine X25 ?_;refine qBc 2 4 7 V ?_ ?_ ?_
   ·refine Jb Z Tt Z Z Z (AC.mid [_,_] [] _ (qdF D _ _ _ _ _ _ (hAx.le e4) O)) ?_;rintro _ _ s5 h5 ⟨M1,rfl,Ad,c1,rfl,_,_,hO1⟩;refine ⟨(fun x h _=>by cases h),?_⟩;obtain ⟨bc,yc,rfl,rfl,hcy,hcy2⟩:=Own.blk_of hO1 hc0;simp only [cQ9,nQ9];refine qdB 4 7 V ?_ ?_
    ·refine X25 ?_;refine qdB 5 7 V ?_ ?_;·refine Jb Z Tt Z Z Z (AC.pub (qaX D _ _ _ _ _ _ (hBx.le (e4.t h5)) O)) ?_;rintro _ _ s6 h6 ⟨rfl,Mi,swi,⟨Ai1,ci1,rfl,_,_,hOi⟩,hswi,hcwi⟩;refine ⟨fun _ _ h=>h,?_⟩;have hBi:=Own.bts hOi hcwi;refine qaq 7 V<|qbH Z Tt (Wd 0 Y5) Z<|H1 ?_;refine qaq 8 V<|Jb Z Tt Z Z Z (AC.mid [_,_,_] [] _ (qaX D _ _ _ _ _ _ (hOx.le (e4.t h5|>.t h6)) O)) ?_;rintro _ _ s7 h7 ⟨Oq9,rfl,Ao1,co1,rfl,_,_,hOo⟩;refine ⟨(fun x h _=>by cases h),?_⟩;simp only [cQ9,nQ9];refine qaq 10 V<|Wu Z Tt 0 [_,_,_,_,_,_,_,_,_,_] Y9 (fun x hx=>by cases hx)<|H1 ?_;refine qaq 12 V<|Wu Z Tt 0 [_,_,_,_,_,_,_,_,_,_] Y9 (fun x hx=>by cases hx)<|H1 ?_;refine qaq 14 V<|Wu Z Tt 0 [_,_,_,_,_,_,_,_,_,_] Y9 (fun x hx=>by cases hx)<|qah V ?_;refine qaf (Mid.mk (bc,c1,yc,Oq9,Ao1,co1,Ai1,ci1) [] kp Pr ⟨(h4.t h5|>.t h6|>.t h7),⟨hOo,hBi.le h7,by rw [← hcy,qdZ],hcy2⟩⟩)
     refine qbH Z Tt (Wd 0 Y5) Z<|H1 ?_;refine qaq 5 V<|Jb Z Tt Z Z Z (AC.pub (qaX D _ _ _ _ _ _ (hBx.le (e4.t h5)) O)) ?_;exact Ez13
    refine qbH Z Tt (Wd 0 Y5) Z<|qaq 4 V<|qbH Z Tt (Wd 0 Y5) Z<|H1 ?_;refine qaq 5 V<|Jb Z Tt Z Z Z (AC.pub (qaX D _ _ _ _ _ _ (hBx.le (e4.t h5)) O)) ?_;exact Ez13
   ·exact Ez1
   exact Ez3
  ·refine X25 ?_;refine qdB 1 7 V ?_ ?_;·exact Ez1
   exact Ez5
  refine qbH Z Tt (Wd 0 Y5) Z ?_;refine qdB 1 4 V ?_ ?_;·exact Ez3
  exact Ez5
 intro g s3 I3;obtain ⟨bc,c1,yc,Oq9,Ao1,co1,Ai1,ci1⟩:=g;obtain ⟨hOo,hBi,hcc,hcc2⟩:=I3.2;dsimp only at hOo hBi hcc hcc2;dsimp only;refine Sr<|qae (qaj 0 [_,_,_,_,_,_,_,_,_,_] Z Z Z Z Z) Z<|G2 ?_;refine qer (Value.int .u32) Z fun bq s8 h8=>qae (qai [(_,_),(_,_),(_,_)] (_::_::_::_::_::_::_::_::_::_::_::(iv (List.replicate 256 0)++[_,_])) Z Z Z Z Z (by rfl)) Z<|qar Z Z fun bm s9 h9=>G7 ?_;refine Wl 3 Y6<|G4 ?_;refine Zp ?_;have e9:=e2.t I3.1|>.t h8|>.t h9;refine qaH (γ:=Nat×List Int×List (Int×Value×Nat)×Nat) (fun g=>[(4,_),(5,_),(27,_),(28,_),(29,.int .i64 (g.1:Int))]) (fun g=>(bm,cb (.slice (some ⟨bc,0,none⟩) m.cells.length c1::.int .u32 m.r0::.int .u32 m.r1::.int .u32 m.r2::.int .u32 m.r3::.int .u32 m.r4::.slice Ai1 nBx ci1::.slice Ao1 m.output.length co1::.int .i64 m.stop::.int .u32 m.code::.slice A n c::(iv g.2.1++[.map (some bq),.int .u32 0])) 148)::(bq,mp (Value.int .u32) g.2.2.1 g.2.2.2)::(β2,cb [.slice (some ⟨bc,0,none⟩) m.cells.length c1,.int .u32 m.r0,.int .u32 m.r1,.int .u32 m.r2,.int .u32 m.r3,.int .u32 m.r4,.slice Ai1 nBx ci1,.slice Ao1 m.output.length co1,.int .i64 m.stop,.int .u32 m.code] 74)::(β1,cb [.int .i64 t.cells,.slice A n c] 42)::(bc,cb (wv m.cells++yc) 34)::(Oq9++L)) (fun g tw=>Le D s9 tw∧(g.1≤n∧g.2.1.length=256∧(∀ c:Int,0≤c→c < 256→g.2.1[c.toNat]?=some (qfb t.ins c g.1:Int))∧(∀ c:Int,256≤c→(qaW g.2.2.1 c).getD (.int .i64 0)=.int .i64 (qfb t.ins c g.1:Int)))) (fun g=>n - g.1) (fun _ _ _ h hl=>⟨h.1.trans hl,h.2⟩) (0,List.replicate 256 0,[],0) (.c5 Z Z Z Z Z (.nil _)) Z ⟨Le.refl _,⟨Nat.zero_le _,by simp,fun c h1 h2=>by rw [List.getElem?_replicate,if_pos O];rfl,fun c _=>rfl⟩⟩ ?_;intro g s10 I10;obtain ⟨k,sm,es,ck⟩:=g;obtain ⟨hk0,hsm,hS,hB⟩:=I10.2;simp only at hk0 hsm hS hB;dsimp only;refine J6 ?_ ?_<;>intro c11
 ·have hk:k < n:=by omega
  obtain ⟨b,off,x,A',n',c',rfl,hx,hcx,hax,hnl,hcd⟩:=Inss.at_ (hA.le (e9.t I10.1)) hk;refine G7 ?_;refine qae (qaw Z Z Z Z Z Z hk) Z<|qae (qat Z Z Z hcx Z) Z<|qac Z [_,_,_,_] Z Z fun β12 s12 h12=>Zqa Z Z<|Wt 0 [_,_,_,_] Y9<|J9 ?_ ?_<;>intro c13;·have hlt:=c13;refine qaU qab 9 Z [1] Q3 fun s14 h14=>H4 ?_;refine za 4 Z (qaI Z Z (w64 O O)) Z<|H2 ?_;refine za 7 Z (qlv Z Z Z Z Z Z hcd.1 O) Z<|qaq 8 V<|qd0 Z Tt 1 _ Z Z Z Z Z (qol _ _ _ _ _ _ _ _ _ _ _ _ _ hsm O) Z (qqf _ _ _ _ _ _ _ _ _ _ _ _ _ _ O) Z (fun x hx=>hx)<|qah V<|Zb<|Zt<|Zr<|qaV Z Z Z (w64 O O)<|G2 ?_;refine qaf ⟨(k+1,sm.set x.code.toNat ((k:Int)+1),es,ck),[_],kp,Z,⟨(I10.1.t h12|>.t h14),by first|exact ⟨by omega,(qfD hx hcd hlt hsm hS).1,(qfD hx hcd hlt hsm hS).2,qkq hx hlt hB⟩|exact ⟨by omega,hsm,qju hx hlt hS,qok hx hB⟩⟩,Oz⟩
  have hlt:=c13;refine qaU qab 9 Z [2] Q3 fun s14 h14=>H3 ?_;refine za 3 Z (qb5 1 Z Z Z Z (qpD _ _ _ _ _ _ _ _ _ _ _ _ _ hsm)) Z<|H3 ?_;refine za 7 Z (qaI Z Z (w64 O O)) Z<|qaq 8 V<|qgE (KeyK.int .u32) Z Tt 2 (qCU default) Z Z Z Z (fun x hx=>hx) fun ck1=>qah V<|Zb<|Zt<|Zr<|qaV Z Z Z (w64 O O)<|G2 ?_;refine qaf ⟨(k+1,sm,qi9 es x.code (.int .i64 ((k:Int)+1)) ck,ck1),[_],kp,Z,⟨(I10.1.t h12|>.t h14),by first|exact ⟨by omega,(qfD hx hcd hlt hsm hS).1,(qfD hx hcd hlt hsm hS).2,qkq hx hlt hB⟩|exact ⟨by omega,hsm,qju hx hlt hS,qok hx hB⟩⟩,Oz⟩
 refine G6 ?_;refine qbm 1<|qbm 4<|qbm 2<|qbm 4<|qbm 4<|G6 ?_;refine rR [_,_] _ (.t1 Z) Z (e9.t I10.1) fun _ hS2=>?_;have hkn:k=n:=by omega
 subst hkn;exact ⟨_::_::_::Oq9,rfl,bm,sm,bq,es,ck,rfl,hsm,hS,hB,bc,c1,yc,Oq9,Ao1,co1,Ai1,nBx,ci1,rfl,hOo,hBi.le (h8.t h9|>.t I10.1|>.t hS2),hcc,hcc2⟩
end Go.Proofs.YtlfiplbamnpgoaaGreatDoor
namespace Go.Proofs.YtlfiplbamnpgoaaGreatDoor
open Go Go.FL
variable{t:Tab}{m:Mst}
structure MU(m:Mst):Prop where
 u0:U32 m.r0
 u1:U32 m.r1
 u2:U32 m.r2
 u3:U32 m.r3
 u4:U32 m.r4
 code:U32 m.code
def qhy:Mst:=⟨[],0,0,0,0,0,[],[],0,0⟩
def qF5:MU qhy:=by constructor<;>exact ⟨by decide,by decide⟩
def StW(s:World)(m:Mst)(v:Value):Prop:=∃ A nA cA B nB cB Oq9 nO cO,v=.agg #[.slice A nA cA,.int .u32 m.r0,.int .u32 m.r1,.int .u32 m.r2,.int .u32 m.r3,.int .u32 m.r4,.slice B nB cB,.slice Oq9 nO cO,.int .i64 m.stop,.int .u32 m.code]
 ∧ Wds s A nA cA m.cells∧Bts s B nB cB m.input∧Bts s Oq9 nO cO m.output
def StW.zero(s:World):StW s qhy (.agg #[.slice none 0 0,.int .u32 0,.int .u32 0,.int .u32 0,.int .u32 0,.int .u32 0,.slice none 0 0,.slice none 0 0,.int .i64 0,.int .u32 0]):=
 ⟨none,0,0,none,0,0,none,0,0,rfl,Wds.nil _ _ _ O,Bts.nil _ _ _ O,Bts.nil _ _ _ O⟩
structure SOK(m:Mst):Prop where
 stop:0≤m.stop∧m.stop≤5
 code:m.code≠0→m.stop=1
def qy7(t:Tab)(m:Mst):(qbF t m).1=0→(qbF t m).2=0:=by grind [qbF]
def qDz{s:World}{A Ax:Option Addr}{n c nx cx:Nat}(hX:Inss s A n c t.ins)(hA:Wds s Ax nx cx m.cells)(hU:MU m)(h:(qbF t m).1=0):TabG t∧MOK m∧SOK m∧(m.cells.length:Int)=t.cells:=by
 unfold qbF at h;split at h
 · contradiction
 rename_i h0;simp at h0;have hG:=qEc hX h0;split at h
 · exact absurd h Dc
 rename_i h1;split at h
 · exact absurd h Dc
 rename_i h2;split at h
 · exact absurd h Dc
 rename_i h3;split at h
 · exact absurd h Dc
 rename_i h4;have:=hG.cells;refine ⟨hG,⟨by omega,fun x hx=>?_,hU.u0,hU.u1,hU.u2,hU.u3,hU.u4,by omega,by omega,hU.code⟩,⟨by omega,fun hc=>by omega⟩,by omega⟩;obtain ⟨i,hi⟩:=List.getElem?_of_mem hx;obtain ⟨_,_,_,_,_,_,_,h5⟩:=hA.2.2.2 i x hi;exact h5
def qy6(ht:(qaG t).1=0)(hm:MOK m)(hs:SOK m)(hl:(m.cells.length:Int)=t.cells):qbF t m=(0,0):=by
 have h1:=hm.input;have h2:=hm.output;have h3:=hs.stop;have h4:=hs.code;unfold qbF;rw [if_neg O,if_neg O,if_neg O,if_neg O,if_neg O]
def qw0(m:Mst)(a:Ac)(op:Int):(qbz m a op).cells.length=m.cells.length:=by grind [qdo,qbz]
def qw1(a:Ac)(op:Int)(h0:m.stop=0)(hc:m.code=0):SOK (qbz m a op)∧((qbz m a op).stop=0→(qbz m a op).code=0):=by
 unfold qbz;simp only;repeat' split
 all_goals (refine ⟨⟨?_,?_⟩,?_⟩<;>simp [qdo,h0,hc])
def qjh{l:List Ac}(hl:∀ a∈l,AcOK a)(hm:MOK m)(h0:m.stop=0)(hc:m.code=0){op:Int}(ho:U32 op):
    MOK (qbu m op l)∧SOK (qbu m op l)∧(qbu m op l).cells.length=m.cells.length∧((qbu m op l).stop=0→(qbu m op l).code=0):=by
  induction l generalizing m with
  | nil=>exact ⟨hm,⟨by simp only [qbu];omega,fun h=>by simp only [qbu] at h;contradiction⟩,rfl,fun _=>hc⟩
  | cons a r ih=>
    have h1:=qn3 hm (hl a Mc) ho;obtain ⟨h2,h3⟩:=qw1 a op h0 hc;have h4:=qw0 m a op;simp only [qbu];split
    · rename_i hs
      obtain ⟨k1,k2,k3,k4⟩:=ih (fun b hb=>hl b (List.mem_cons_of_mem _ hb)) h1 hs (h3 hs);exact ⟨k1,k2,by omega,k4⟩
    · exact ⟨h1,h2,h4,h3⟩
def qku(hG:TabG t)(hm:MOK m)(h0:m.stop=0)(hc:m.code=0):
    MOK (qbi t m)∧SOK (qbi t m)∧(qbi t m).cells.length=m.cells.length∧((qbi t m).stop=0→(qbi t m).code=0):=by
  have hu:∀ i,U32 (m.cells.getD i 0):=fun i=>by
    by_cases hl:i < m.cells.length
    · simp only [List.getD,List.getElem?_eq_getElem hl,Option.getD_some];exact hm.wide _ (List.getElem_mem hl)
    · simp [List.getD,List.getElem?_eq_none (Nat.le_of_not_lt hl)];exact ⟨by decide,by decide⟩
  have hst:∀ k:Int,0≤k→k≤5→MOK { m with stop:=k }∧SOK { m with stop:=k }∧({ m with stop:=k }:Mst).cells.length=m.cells.length∧(({ m with stop:=k }:Mst).stop=0→({ m with stop:=k }:Mst).code=0):=fun k h1 h2=>
    ⟨⟨hm.cells,hm.wide,hm.u0,hm.u1,hm.u2,hm.u3,hm.u4,hm.output,hm.input,hm.code⟩,⟨⟨h1,h2⟩,fun h=>absurd hc h⟩,rfl,fun _=>hc⟩
  have hr4:∀ v:Int,U32 v→MOK { m with r4:=v }:=fun v hv=>⟨hm.cells,hm.wide,hm.u0,hm.u1,hm.u2,hm.u3,hv,hm.output,hm.input,hm.code⟩;have h4:=hm.u4;have h5:=hm.cells;unfold U32 at h4;unfold qbi;split
  · exact hst 3 O O
  rename_i hfar;split
  · exact hst 2 O O
  rename_i x hx;have hmem:∃ i:Nat,t.ins[i]?=some x:=List.getElem?_of_mem (List.mem_of_find?_eq_some hx);obtain ⟨i,hi⟩:=hmem;have hac:∀ a∈x.acts,AcOK a:=fun a ha=>(hG.acts i x a hi ha).1;split
  · split
    · exact hst 3 O O
    · exact qjh hac (hr4 (m.r4+2) ⟨by omega,by omega⟩) h0 hc (hu _)
  · exact qjh hac (hr4 (m.r4+1) ⟨by omega,by omega⟩) h0 hc ⟨by decide,by decide⟩
def qll(t:Tab)(m:Mst)(k:Int):Mst×Int×Int×Int:=
 if (qbF t m).1≠0 then (qhy,0,(qbF t m).1,(qbF t m).2)
 else if k < 0∨50000000 < k then (qhy,0,4,-3)
 else ((qd4 t m k.toNat).1,((qd4 t m k.toNat).2:Int),0,0)
def qsT{k:Int}(h:(qbF t m).1≠0):qll t m k=(qhy,0,(qbF t m).1,(qbF t m).2):=by unfold qll;rw [if_pos h]
def qsU{k:Int}(h:(qbF t m).1=0)(hk:k < 0∨50000000 < k):qll t m k=(qhy,0,4,-3):=by grind [qll]
def qp4{k:Int}(h:(qbF t m).1=0)(hk:¬ (k < 0∨50000000 < k)):qll t m k=((qd4 t m k.toNat).1,((qd4 t m k.toNat).2:Int),0,0):=by grind [qll]
def qyN{mk:Mst}{K j:Nat}(h:qd4 t m K=((qd4 t mk (K - j)).1,j+(qd4 t mk (K - j)).2))(hj:j < K)(h0:mk.stop=0):
  qd4 t m K=((qd4 t (qbi t mk) (K - (j+1))).1,(j+1)+(qd4 t (qbi t mk) (K - (j+1))).2):=by
 rw [h];obtain ⟨d,hd⟩:∃ d,K - j=d+1:=⟨K - j - 1,by omega⟩;rw [hd,show K - (j+1)=d by omega];simp only [qd4,h0,if_true,Prod.mk.injEq,true_and];omega
def qyL{mk:Mst}{K j:Nat}(h:qd4 t m K=((qd4 t mk (K - j)).1,j+(qd4 t mk (K - j)).2))(he:¬ j < K∨¬ mk.stop=0):qd4 t m K=(mk,j):=by
 rw [h];cases hd:K - j with
 | zero=>simp [qd4]
 | succ d=>
  rcases he with he|he
  · omega
  · simp [qd4,he]
open Go.FL
attribute [local irreducible] JC JO JA JB qaJ qax qbN AC fill CellsAt QE Ev Mid
def qqG{s:World}{bc cc:Nat}{l:List Int}{yc:List Value}(hp:CellsAt s bc 0 (wv l++yc))(hu:∀ x∈l,U32 x)(h1:l.length+yc.length=cc)(h2:cc≤9223372036854775807):Wds s (some ⟨bc,0,none⟩) l.length cc l:=
 Own.wds (e:=0) (A:=[(bc,cb (wv l++yc) 0)]) (.blk bc cc l.length (wv l) yc (by simp [wv]) (by rw [qdZ];omega) O h2) hu (fun b zs t hm=>by
  simp only [List.mem_singleton,Prod.mk.injEq,cb,Obj.cells.injEq] at hm;obtain ⟨rfl,h,rfl,_⟩:=hm;have e:zs=wv l++yc:=by simpa using h
  rw [e];exact hp)
def qby:U32 0:=⟨by decide,by decide⟩
def qvM(h:SOK m)(h0:m.stop=0):m.code=0:=by
 by_cases hc:m.code=0
 · exact hc
 · have:=h.code hc;omega
def Cz16{p:Prop} (h:p:=by
 refine ⟨[_,_,_],Z,fun s2 h2 hp=>?_⟩;rw [qsU hst0 hfar];exact ⟨_,StW.zero _,rfl⟩):p:=h
def Cz17{p:Prop} (h:p:=by
 refine ⟨_::_::_::O1,Z,fun s2 h2 hp=>?_⟩;rw [qp4 hst0 hin,qyL hrun hend];exact ⟨_,⟨_,_,_,_,_,_,_,_,_,rfl,qqG (hp _ _ _ (List.mem_cons_of_mem _ Mc)) hok1.wide hcc1 hcc21,hB9.le ((Lr D).t (hS2.t h2)),Own.bts hO1 hp.tail.tail.tail⟩,rfl⟩):p:=h
def qyJ(D:Nat)(L:Hl)(s:World)(t:Tab)(A:Option Addr)(n c:Nat)(hA:Inss s A n c t.ins)(m:Mst)(Ax Bx Ox:Option Addr)(nAx cAx nBx cBx nOx cOx:Nat)(hAx:Wds s Ax nAx cAx m.cells)(hBx:Bts s Bx nBx cBx m.input)(hOx:Bts s Ox nOx cOx m.output)(hU:MU m)(k:Int):AC Tryz.prog D 23 [.agg #[.int .i64 t.cells,.slice A n c],.agg #[.slice Ax nAx cAx,.int .u32 m.r0,.int .u32 m.r1,.int .u32 m.r2,.int .u32 m.r3,.int .u32 m.r4,.slice Bx nBx cBx,.slice Ox nOx cOx,.int .i64 m.stop,.int .u32 m.code],.int .i64 k] L s fun v L' s'=>∃ M',L'=M'++L∧∀ s2,Le D s' s2→Pub M' s2→∃ vs,StW s2 (qll t m k).1 vs∧v=.tuple #[vs,.int .i64 (qll t m k).2.1,.agg #[.int .i64 (qll t m k).2.2.1,.int .i64 (qll t m k).2.2.2]]:=by
 have hF:=qy7 t m;refine qad (fn:=Tryz.f23) qao Tryz.func23 V Z Tryz.ntmps23 Z (rs:=[.cell 6 74,.tmp 7,.cell 8 30]) Z [(0,_),(1,_),(2,_)] Z<|Sr<|qar Z Z fun β1 s1 h1=>qar Z Z fun β2 s2 h2=>qac Z [_,_,_,_,_,_,_,_,_,_] Z Z fun β3 s3 h3=>Zqa Z Z<|qac Z [_,_] Z Z fun β4 s4 h4=>Nt<|Zs<|Sr<|qae (qaj 3 [_,_] Z Z Z Z Z) Z<|qae (qaj 2 [_,_,_,_,_,_,_,_,_,_] Z Z Z Z Z) Z<|Je Z Z Z (quS D _ _ _ _ _ _ (hA.le (h1.t h2|>.t h3|>.t h4)) _ _ _ _ _ _ _ _ _ _ (hAx.le (h1.t h2|>.t h3|>.t h4)) (hBx.le (h1.t h2|>.t h3|>.t h4)) (hOx.le (h1.t h2|>.t h3|>.t h4))) fun s5 h5=>qac Z [_,_] Z Z fun β6 s6 h6=>Wt 0 [_,_] Y9<|Nt<|Sr<|qae (qaj 0 [_,_] Z Z Z Z Z) Z<|qae (qai [] [_,_] Z Z Z Z Z Z) Z<|qae (qcU Z Z (qb3 _ _ _ _)) Z<|G2 ?_;have e6:=h1.t h2|>.t h3|>.t h4|>.t h5|>.t h6;refine qaR Z ?_ ?_<;>intro c7;·have hbad:(qbF t m).1≠0:=fun h=>c7 ⟨h,hF h⟩;refine Zs<|qaU qab 5 Z [2,1] Q3 fun s8 h8=>za 0 Z (qai [] [_,_,_,_,_,_,_,_,_,_] Z Z Z Z Z Z) Z<|za 1 Z (qaj 0 [_,_] Z Z Z Z Z) Z<|qaq 2 V<|Wu Z Tt 2 [_,_,_,_,_,_,_,_,_,_] Y9 (sM (sbY (sbN (qgA (sbE _)))))<|H1 ?_;refine qaq 4 V<|Wu Z Tt 1 [_,_] Y9 (sM (sbY (sbN (qgA (sbE _)))))<|qah V<|G3 ?_;refine rR [_,_] _ (.agg (us:=[_,_,_,_,_,_,_,_,_,_]) 2 Z Z Z Z Z (.tmp Z (.agg (us:=[_,_]) 1 Z Z Z Z Z (.nil)))) Z (e6.t h8) fun _ hS2=>?_;refine ⟨[_,_,_],Z,fun s2 h2 hp=>?_⟩;rw [qsT hbad];exact ⟨_,StW.zero _,rfl⟩
 have hst0:(qbF t m).1=0:=c7.1;obtain ⟨hG,hok,hsok,hlen⟩:=qDz hA hAx hU hst0;refine G8 ?_;refine qap (t:=22) Z ?_ ?_<;>intro c8
 ·refine G6 ?_;have hfar:k < 0∨50000000 < k:=by omega
  refine Sr<|qae (qai [] [_,_,_,_,_,_,_,_,_,_] Z Z Z Z Z Z) Z<|Je Z Z Z (qbE D _ _ _ _) fun s9 h9=>Wt 2 [_,_,_,_,_,_,_,_,_,_] Y9<|Zqa Z Z<|Wt 1 [_,_] Y9<|G4 ?_;exact rR [_,_] _ (.agg (us:=[_,_,_,_,_,_,_,_,_,_]) 2 Z Z Z Z Z (.tmp Z (.agg (us:=[_,_]) 1 Z Z Z Z Z (.nil)))) Z (e6.t h9) fun _ hS2=>Cz16
 refine J7 ?_ ?_<;>intro c9
 ·have hfar:k < 0∨50000000 < k:=by omega
  refine Sr<|qae (qai [] [_,_,_,_,_,_,_,_,_,_] Z Z Z Z Z Z) Z<|Je Z Z Z (qbE D _ _ _ _) fun s10 h10=>Wt 2 [_,_,_,_,_,_,_,_,_,_] Y9<|Zqa Z Z<|Wt 1 [_,_] Y9<|G4 ?_;exact rR [_,_] _ (.agg (us:=[_,_,_,_,_,_,_,_,_,_]) 2 Z Z Z Z Z (.tmp Z (.agg (us:=[_,_]) 1 Z Z Z Z Z (.nil)))) Z (e6.t h10) fun _ hS2=>Cz16
 have hin:¬ (k < 0∨50000000 < k):=by omega
 refine Zk<|Zt<|Sr<|qae (qaj 4 [_,_] Z Z Z Z Z) Z<|qae (qaj 3 [_,_,_,_,_,_,_,_,_,_] Z Z Z Z Z) Z<|Jc Z Z Z (AC.mid [_,_,_,_,_] [] _ (qyv D _ _ _ _ _ _ (hA.le e6) _ _ _ _ _ _ _ _ _ _ (hAx.le e6) (hBx.le e6) (hOx.le e6) hok (by have:=hG.cells;omega))) ?_;rintro _ _ s10 h10 ⟨M1,rfl,bm,sm,bq,es,ck,rfl,hsm,hS,hB,bc,cc,yc,Oq9,Ao,co,Ai,ni,ci,rfl,hO,hI,hcc,hcc2⟩;simp only [cQ9,nQ9];refine G10 ?_;refine qc0 [_,_,_,_,_] (γ:=Nat×Mst×Int×Hl) (fun g=>[(2,_),(6,_),(7,_),(8,_),(10,_),(11,.int .i64 (g.1:Int))]) (fun g=>g.2.2.2++L) (fun g tw=>Le D s10 tw∧(g.1≤k.toNat∧qjd bm (.slice A n c) sm bq es ck g.2.2.1 g.2.1 g.2.2.2 tw∧MOK g.2.1∧SOK g.2.1∧U32 g.2.2.1∧qd4 t m k.toNat=((qd4 t g.2.1 (k.toNat - g.1)).1,g.1+(qd4 t g.2.1 (k.toNat - g.1)).2))) (fun g=>k.toNat - g.1) (fun _ _ _ h hl=>⟨h.1.trans hl,by obtain ⟨_,k1,⟨bc,cc,yc,Oq9,Ao,co,Ai,ni,ci,k2,k3,k4,k5⟩,k6⟩:=h;exact ⟨k1,⟨bc,cc,yc,Oq9,Ao,co,Ai,ni,ci,k2,k3,k4.le hl,k5⟩,k6⟩⟩) (0,m,0,_::_::_::Oq9) (.c6 Z Z Z Z Z Z (.nil _)) Z ⟨Le.refl _,⟨Nat.zero_le _,⟨bc,cc,yc,Oq9,Ao,co,Ai,ni,ci,Z,hO,hI.le (Lr D),hcc,hcc2⟩,hok,hsok,qby,by simp⟩⟩ ?_;intro g s11 I11;have e11:=e6.t h10|>.t I11.1;simp only [cQ9,nQ9];obtain ⟨j,mk,opk,Mk⟩:=g;obtain ⟨hj0,⟨bc1,cc1,yc1,O1,Ao1,co1,Ai1,ni1,ci1,hMk,hO1,hI1,hcc1,hcc21⟩,hok1,hsok1,hop1,hrun⟩:=I11.2;simp only at hj0 hMk hO1 hI1 hcc1 hok1 hop1 hrun hsok1;subst hMk;simp only [List.cons_append];refine G7 ?_;refine qap (t:=34) Z ?_ ?_<;>intro c12
 ·refine G9 ?_;refine Wl 5 Y6<|J5 ?_ ?_<;>intro c13
  ·have hs1:mk.stop=0:=c13;have hj1:j < k.toNat:=by omega
   refine G6 ?_;refine Jc Z Z Z (AC.mid [_,_,_,_,_] (_::_::_::O1) L (qy8 D _ _ bm _ _ _ sm hsm bq es ck opk mk _ ⟨bc1,cc1,yc1,O1,Ao1,co1,Ai1,ni1,ci1,Z,hO1,hI1.le (Lr D),hcc1,hcc21⟩ t (hA.le e11) hG hok1 hop1 hs1 hS hB)) ?_;rintro _ _ s14 h14 ⟨M2,rfl,rfl,op2,hop2,bc2,cc2,yc2,O2,Ao2,co2,Ai2,ni2,ci2,rfl,hO2,hI2,hcc22,hcc23⟩;simp only [cQ9,nQ9];refine G4 ?_;refine qaV Z Z Z (w64 O O)<|G3 ?_;refine qaf ⟨(j+1,qbi t mk,op2,_::_::_::O2),[],kp,Z,⟨(I11.1.t h14),⟨hj1,⟨bc2,cc2,yc2,O2,Ao2,co2,Ai2,ni2,ci2,Z,hO2,hI2.le (Lr D),hcc22,hcc23⟩,(qku hG hok1 hs1 (qvM hsok1 hs1)).1,(qku hG hok1 hs1 (qvM hsok1 hs1)).2.1,hop2,qyN hrun hj1 hs1⟩⟩,Oz⟩
  have hend:¬ j < k.toNat∨¬ mk.stop=0:=by first|exact .inr c13|exact .inl O
  refine G8 ?_;refine Jc Z Z Z (AC.mid [_,_,_,_,_] [_] _ (qkc D _ _ _ _ _ _ _ _ _ _ _ _ _ _ _ _ _ _ _ hsm (hI1.le (Lr D)) (by have:=hI1.1;have:=hok1.input;omega))) ?_;rintro _ _ s14 h14 ⟨_,rfl,rfl,Ad,c9,rfl,hB9⟩;simp only [cQ9,nQ9];refine X19 ?_;exact rR [_,_,_,_,_] _ (.agg (us:=[_,_,_,_,_,_,_,_,_,_]) 2 Z Z Z Z Z (.tmp Z (.agg (us:=[_,_]) 1 Z Z Z Z Z (.nil)))) Z (e11.t h14) fun _ hS2=>Cz17
 refine G10 ?_;have hend:¬ j < k.toNat∨¬ mk.stop=0:=by first|exact .inr trivial|exact .inl O
 refine G8 ?_;refine Jc Z Z Z (AC.mid [_,_,_,_,_] [_] _ (qkc D _ _ _ _ _ _ _ _ _ _ _ _ _ _ _ _ _ _ _ hsm (hI1.le (Lr D)) (by have:=hI1.1;have:=hok1.input;omega))) ?_;rintro _ _ s13 h13 ⟨_,rfl,rfl,Ad,c9,rfl,hB9⟩;simp only [cQ9,nQ9];refine X19 ?_;exact rR [_,_,_,_,_] _ (.agg (us:=[_,_,_,_,_,_,_,_,_,_]) 2 Z Z Z Z Z (.tmp Z (.agg (us:=[_,_]) 1 Z Z Z Z Z (.nil)))) Z (e11.t h13) fun _ hS2=>Cz17
end Go.Proofs.YtlfiplbamnpgoaaGreatDoor
namespace Go.Proofs.YtlfiplbamnpgoaaGreatDoor
open Go Go.FL
inductive All2{α β:Type}(R:α→β→Prop):List α→List β→Prop
 | nil:All2 R [] []
 | cons {a:α} {b:β} {l:List α} {m:List β} (h:R a b) (k:All2 R l m):All2 R (a::l) (b::m)
def qvY{α:Type}{sz:Nat}{R:World→α→List Value→Prop}{s:World}{b:Nat}{l:List α}{css:List (List Value)}(h:All2 (fun x cs=>cs.length=sz∧R s x cs) l css) :
  ∀ off,CellsAt s b off css.flatten→∀ i x,l[i]?=some x→∃ cs,CellsAt s b (off+i * sz) cs∧cs.length=sz∧R s x cs:=by
 induction h with
 | nil=>intro off _ i x hi;cases hi
 | @cons a c l m h k ih=>
  intro off hc i x hi;have h1:CellsAt s b off c:=fun j v hj=>hc j v (by rw [List.flatten_cons,List.getElem?_append_left (List.getElem?_eq_some_iff.1 hj).1];exact hj);have h2:CellsAt s b (off+sz) m.flatten:=fun j v hj=>by
   have:=hc (sz+j) v (by rw [List.flatten_cons,List.getElem?_append_right O,h.1];simpa using hj)
   rwa [← Nat.add_assoc] at this
  cases i with
  | zero=>simp at hi;subst hi;exact ⟨c,by simpa using h1,h.1,h.2⟩
  | succ i=>
   obtain ⟨cs,k1,k2⟩:=ih (off+sz) h2 i x (by simpa using hi);exact ⟨cs,by rw [Nat.succ_mul];rwa [show off+sz+i * sz=off+(i * sz+sz) by omega] at k1,k2⟩
def Sl.lit{α:Type}{sz:Nat}{R:World→α→List Value→Prop}{s:World}{b:Nat}{l:List α}(css:List (List Value)){zs:List Value}(hc:CellsAt s b 0 zs)(hz:css.flatten=zs)(h:All2 (fun x cs=>cs.length=sz∧R s x cs) l css)(n:Nat)(hn:n=l.length)(hm:n≤9223372036854775807):Sl sz R s (some ⟨b,0,none⟩) n n l:=
 ⟨hn,Nat.le_refl _,hm,fun i x hi=>by
  obtain ⟨cs,h1,h2⟩:=qvY h 0 (hz▸hc) i x hi;exact ⟨b,0,cs,rfl,h1,h2⟩⟩
def qoq{s:World}{b cc:Nat}{l:List UInt8}{yc:List Value}(hp:CellsAt s b 0 (bv l++yc))(h1:l.length+yc.length=cc)(h2:cc≤9223372036854775807):Bts s (some ⟨b,0,none⟩) l.length cc l:=
 Own.bts (e:=0) (A:=[(b,cb (bv l++yc) 0)]) (.blk b cc l.length (bv l) yc (by simp [bv]) (by rw [qB3];omega) O h2) (fun b zs t hm=>by
  simp only [List.mem_singleton,Prod.mk.injEq,cb,Obj.cells.injEq] at hm;obtain ⟨rfl,h,rfl,_⟩:=hm;have e:zs=bv l++yc:=by simpa using h
  rw [e];exact hp)
end Go.Proofs.YtlfiplbamnpgoaaGreatDoor
namespace Go.FL
open Go Go.RowKit
def qcM{P:Program}{TT:qaM}{D n:Nat}{Q:qbs}{fr:Fr}{s:World}{c:Code}(X A Y:Hl)(h:∀ s',Le D s s'→Pub A s'→JC P TT D n Q c fr (X++Y) s'):JC P TT D n Q c fr (X++(A++Y)) s:=fun ht a hr ho=>by
 have hp:(X++(A++Y)).Perm (A++(X++Y)):=by
  exact qqT
 rw [qa5 hp _ ho];have ho2:=ho.perm hp;obtain ⟨e,d1,d2⟩:=qbp ho2;rw [e];refine h _ d2 (fun b zs t hm j u hj=>?_) ht a hr d1;rw [qc2 ho2.left hm,Nat.zero_add];exact hj
end Go.FL
namespace Go.Proofs.YtlfiplbamnpgoaaGreatDoor
open Go Go.FL
variable{n c:Nat}
def All2.mono{α β:Type}{R R':α→β→Prop}{l:List α}{m:List β}(h:All2 R l m)(hr:∀ a b,R a b→R' a b):All2 R' l m:=by
 induction h with
 | nil=>exact .nil
 | cons h _ ih=>exact .cons (hr _ _ h) ih
def All2.snoc{α β:Type}{R:α→β→Prop}{l:List α}{m:List β}{a:α}{b:β}(h:All2 R l m)(k:R a b):All2 R (l++[a]) (m++[b]):=by
 induction h with
 | nil=>exact .cons k .nil
 | cons h _ ih=>exact .cons h ih
def Own.rows{α:Type}{e sz:Nat}{A:Hl}{Ad:Option Addr}{css:List (List Value)}{l:List α}{R:World→α→List Value→Prop}{s:World}(h:FL.Own e sz A (.slice Ad n c) n css.flatten)(hp:Pub A s)(ha:All2 (fun x cs=>cs.length=sz∧R s x cs) l css)(hn:n=l.length):Sl sz R s Ad n c l:=by
 generalize hv:Value.slice Ad n c=v at h;generalize hx:css.flatten=xs at h;cases h with
 | nil=>
  injection hv with e1 e2 e3;subst e1;subst e3;have:l=[]:=List.eq_nil_of_length_eq_zero hn.symm;subst this;exact ⟨rfl,Nat.le_refl _,by omega,fun i x h=>by cases h⟩
 | blk b cap n xs ys h1 h2 h3 h4=>
  injection hv with e1 e2 e3;subst e1;subst e3;subst hx;have hc:CellsAt s b 0 css.flatten:=fun j v hj=>hp b _ e Mc j v (by rw [List.getElem?_append_left (List.getElem?_eq_some_iff.1 hj).1];exact hj);exact ⟨hn,h3,h4,fun i x hi=>by
   obtain ⟨cs,k1,k2⟩:=qvY ha 0 hc i x hi;exact ⟨b,0,cs,rfl,k1,k2⟩⟩
def Strs(s:World)(A:Option Addr)(n c:Nat)(l:List (List UInt8)):Prop:=Sl 1 (fun _ x cs=>cs=[St x]∧x.length≤9223372036854775807) s A n c l
def Strs.le{D:Nat}{s s':World}{A:Option Addr}{l:List (List UInt8)}(h:Strs s A n c l)(hl:Le D s s'):Strs s' A n c l:=Sl.le (fun _ _ h=>h) h hl
def Strs.at_{s:World}{A:Option Addr}{k:Nat}{l:List (List UInt8)}(h:Strs s A n c l)(hk:k < n):∃ b off x,A=some ⟨b,off,none⟩∧l[k]?=some x∧CellsAt s b (off+k) [St x]∧x.length≤9223372036854775807:=by
 exact Ez47
end Go.Proofs.YtlfiplbamnpgoaaGreatDoor
namespace Go.FL
open Go Go.RowKit
section
variable{P:Program}{TT:qaM}{D n:Nat}{Q:qbs}{fr:Fr}{L:Hl}{s:World}
def MidF{γ:Type}(D:Nat)(s:World)(fr:Fr)(X:Hl)(H:γ→Hl)(I:γ→World→Prop):Fr→Hl→World→Prop:=fun fr' L' s'=>∃ g A,Le D s s'∧L'.Perm (A++(X++H g))∧I g s'∧Keeps fr' fr
def MidF.mk{γ:Type}{X:Hl}{H:γ→Hl}{I:γ→World→Prop}{fr':Fr}{L':Hl}{s':World}(g:γ)(A:Hl)(hl:Le D s s')(hK:Keeps fr' fr)(hp:L'.Perm (A++(X++H g)))(hI:I g s'):MidF D s fr X H I fr' L' s':=⟨g,A,hl,hp,hI,hK⟩
def qwt{γ:Type}{x y:Code}(X:Hl){Y:Hl}(_hX:L=X++Y)(H:γ→Hl)(I:γ→World→Prop)(mono:∀ g s s',I g s→Le D s s'→I g s')(h1:JC P TT D n (qaJ (MidF D s fr X H I) Q) x fr L s)
  (h2:∀ g s',Le D s s'→I g s'→JC P TT D n Q y fr (X++H g) s'):JC P TT D n Q (.seq x y) fr L s:=fun ht a hr ho=>
 wp_seq (wp_mono (h1 ht a hr ho) fun e a w ⟨fr',L',s',k1,k2,k3,k4⟩=>by
  cases e with
  | normal=>
   exact qEt
  | _=>exact ⟨fr',L',s',k1,k2,k3,k4⟩)
end
end Go.FL
namespace Go.Proofs.YtlfiplbamnpgoaaGreatDoor
open Go Go.FL
variable{s:World}{A:Option Addr}{n c:Nat}{l:List Ac}
def qxU{css:List (List Value)}{sz:Nat}(hl:∀ cs∈css,cs.length=sz){j:Nat}{u:Value}(h:css.flatten[j]?=some u):∃ i cs r,css[i]?=some cs∧cs[r]?=some u∧j=i * sz+r:=by
  induction css generalizing j with
  | nil=>cases h
  | cons c m ih=>
    have hc:=hl c Mc;rw [List.flatten_cons] at h;by_cases hj:j < c.length
    · rw [List.getElem?_append_left hj] at h
      exact ⟨0,c,j,rfl,h,by omega⟩
    · rw [List.getElem?_append_right O] at h
      obtain ⟨i,cs,r,h1,h2,h3⟩:=ih (fun x hx=>hl x (List.mem_cons_of_mem _ hx)) h;exact ⟨i+1,cs,r,by simpa using h1,h2,by rw [Nat.succ_mul];omega⟩
def acv(l:List Ac):List Value:=(l.map Ac.cs).flatten
def qw3(l m:List Ac):acv (l++m)=acv l++acv m:=by simp [acv]
def qw4(l:List Ac):(acv l).length=l.length * 6:=by
 induction l with
 | nil=>rfl
 | cons a r ih=>simp only [acv,List.map_cons,List.flatten_cons,List.length_append,List.length_cons] at ih ⊢;rw [ih];simp only [Ac.cs,List.length_cons,List.length_nil];omega
def Acs.row(h:Acs s A n c l):Row s A n 6 (acv l):=by
  refine ⟨by rw [qw4,h.1],fun u hu=>?_,fun j u hj=>?_⟩
  · obtain ⟨cs,h1,h2⟩:=List.mem_flatten.1 hu
    obtain ⟨a,_,rfl⟩:=List.mem_map.1 h1;simp only [Ac.cs,List.mem_cons,List.not_mem_nil,or_false] at h2;rcases h2 with rfl|rfl|rfl|rfl|rfl|rfl<;>rfl
  · obtain ⟨i,cs,r,h1,h2,h3⟩:=qxU (sz:=6) (fun cs hcs=>by obtain ⟨a,_,rfl⟩:=List.mem_map.1 hcs;rfl) hj
    rw [List.getElem?_map] at h1;cases ha:l[i]? with
    | none=>simp [ha] at h1
    | some a=>
      simp [ha] at h1;subst h1;obtain ⟨b,off,cs,k1,k2,_,k3,_⟩:=h.2.2.2 i a ha;subst k3;refine ⟨b,off,k1,?_⟩;have:=k2 r u h2
      rwa [Nat.add_assoc,← h3] at this
def Own.acs{e:Nat}{A:Hl}{Ad:Option Addr}(h:FL.Own e 6 A (.slice Ad n c) n (acv l))(hu:∀ a∈l,U32 a.x.val∧U32 a.y.val)(hp:Pub A s)(hn:n=l.length):Acs s Ad n c l:=by
 refine Own.rows (css:=l.map Ac.cs) h hp ?_ hn;clear h hn;induction l with
 | nil=>exact .nil
 | cons a r ih=>exact .cons ⟨rfl,rfl,hu a Mc⟩ (ih fun b hb=>hu b (List.mem_cons_of_mem _ hb))
def Acs.u(h:Acs s A n c l):∀ a∈l,U32 a.x.val∧U32 a.y.val:=fun a ha=>by
 obtain ⟨i,hi⟩:=List.getElem?_of_mem ha;obtain ⟨_,_,_,_,_,_,_,h5⟩:=h.2.2.2 i a hi;exact h5
def Tms(s:World)(A:Option Addr)(n c:Nat)(l:List Tm):Prop:=Sl 2 (fun _ x cs=>cs=[.int .i64 x.kind,.int .u32 x.val]∧U32 x.val) s A n c l
def Tms.le{D:Nat}{s':World}{l:List Tm}(h:Tms s A n c l)(hl:Le D s s'):Tms s' A n c l:=Sl.le (fun _ _ h=>h) h hl
def Tms.at_{k:Nat}{l:List Tm}(h:Tms s A n c l)(hk:k < n):∃ b off x,A=some ⟨b,off,none⟩∧l[k]?=some x∧CellsAt s b (off+k * 2) [.int .i64 x.kind,.int .u32 x.val]∧U32 x.val:=by
 have hl:k < l.length:=by rw [← h.1];exact hk
 obtain ⟨b,off,cs,h1,h2,_,rfl,h4⟩:=h.2.2.2 k l[k] (List.getElem?_eq_getElem hl);exact ⟨b,off,l[k],h1,List.getElem?_eq_getElem hl,h2,h4⟩
def tms0(s:World):Tms s none 0 0 []:=⟨rfl,Nat.le_refl _,by omega,fun i x h=>by cases h⟩
end Go.Proofs.YtlfiplbamnpgoaaGreatDoor
namespace Go.FL
open Go Go.RowKit
variable{a:Act}{ds:List Nat}{j t e:Nat}{v z:Value}{s' w:World}{fr':Fr}{args:List Value}{R R':Value→Hl→World→Prop}
def JL(P:Program)(TT:qaM)(D n:Nat)(ops:Array Oper)(Q:Exit→Act→World→Prop)(i:Nat)(d:Option Nat)(fr:Fr)(L:Hl)(s:World)(R:Value→Hl→World→Prop):Prop:=
 TabOK P TT→∀ a,FrRel n a fr→OKL D L s→wpOp P ops Q i (fun a' w'=>∃ v L' s',a'=a.put d v∧w'=fill L' s'∧OKL D L' s'∧Le D s s'∧R v L' s') a (fill L s)
def JE(P:Program)(TT:qaM)(D n:Nat)(ops:Array Oper)(Q:Exit→Act→World→Prop)(i d:Nat)(fr:Fr)(L:Hl)(s:World)(R:Value→World→Prop):Prop:=
 JL P TT D n ops Q i (some d) fr L s fun v L' s'=>L'=L∧R v s'
section
variable{P:Program}{TT:qaM}{D n:Nat}{ops:Array Oper}{Q':Exit→Act→World→Prop}{fr:Fr}{L:Hl}{s s':World}{d ty:Nat}{op:Op}{pos:String}{af:Array Edge}{v:Value}{i:Nat}{R:Value→World→Prop}
def qBj{L':Hl}{R:Value→Hl→World→Prop}(hi:ops[i]?=some ⟨some d,op,ty,pos,af,none⟩)(h:Ev P TT D fr op ty L s (.value v) L' s')(hle:Le D s s')(hR:R v L' s'):JL P TT D n ops Q' i (some d) fr L s R:=fun ht a hf ho=>by
 obtain ⟨h1,h2⟩:=h ht ho (some d) pos af none a.eval (fun x v hx=>hf.ev hx);simp only [wpOp,hi,Region.wanted,if_true];refine .inl ?_;simp only [Oper.wp,h1,Oper.upon];exact ⟨v,L',s',rfl,rfl,h2,hle,hR⟩
def qEx{L':Hl}{R:Value→Hl→World→Prop}(hi:ops[i]?=some ⟨none,op,ty,pos,af,none⟩)(h:Ev P TT D fr op ty L s .skip L' s')(hle:Le D s s')(hR:∀ v,R v L' s'):JL P TT D n ops Q' i none fr L s R:=fun ht a hf ho=>by
 obtain ⟨h1,h2⟩:=h ht ho none pos af none a.eval (fun x v hx=>hf.ev hx);simp only [wpOp,hi,Region.wanted,if_true];refine .inl ?_;simp only [Oper.wp,h1,Oper.upon];exact ⟨undef,L',s',rfl,rfl,h2,hle,hR _⟩
def qBi(hi:ops[i]?=some ⟨some d,op,ty,pos,af,none⟩)(h:Ev P TT D fr op ty L s (.value v) L s')(hle:Le D s s')(hR:R v s'):JE P TT D n ops Q' i d fr L s R:=qBj hi h hle ⟨rfl,hR⟩
def qu4(hi:ops[i]?=some ⟨some d,op,ty,pos,af,none⟩)(h:QE P TT D fr op ty L s v)(hR:R v s):JE P TT D n ops Q' i d fr L s R:=
 qBi hi (fun ht ho dst pos af g ρ hρ=>⟨h ht dst pos af g ρ hρ L s ho (Le.refl _) (fun _ hx=>hx),ho⟩) (Le.refl _) hR
def qkJ{f:FuncId}{x:Operand}{xs:List Operand}{first captured vs:List Value}{ts:Array TypeId}{R0 R:Value→Hl→World→Prop}(hi:ops[i]?=some ⟨some d,.call { callee:=.value x,args:=xs.toArray,argTypes:=ts },ty,pos,af,none⟩)
  (hx:lk fr x=some (.func (.func f) first.toArray captured.toArray)) (hv:lks fr xs=some vs) (h:AC P D f (first++vs++captured) L s R0)
  (k:∀ v L' s',Le D s s'→R0 v L' s'→R v L' s'):JL P TT D n ops Q' i (some d) fr L s R:=fun hT a hf ho=>by
 obtain ⟨⟨fn,h1,h2,h3⟩,hc⟩:=h;have hρ:∀ x v,lk fr x=some v→a.eval x=v:=fun x v hx=>hf.ev hx;simp only [wpOp,hi,Region.wanted,if_true];refine .inl ?_;have hrun:(execOp a.eval ⟨some d,.call { callee:=.value x,args:=xs.toArray,argTypes:=ts },ty,pos,af,none⟩).run P (fill L s)=.ok (.enter f (first++vs++captured).toArray) (fill L s):=by
  exact qwl
 simp only [Oper.wp,hrun,Oper.upon];refine (hc ho).mono ?_;rintro e w' ⟨v,L',s',rfl,rfl,h4,h5,h6⟩;exact ⟨v,L',s',rfl,rfl,h4,h5,k v L' s' h5 h6⟩
def qim{f:FuncId}{x:Operand}{xs:List Operand}{first captured vs:List Value}{ts:Array TypeId}{R0:Value→Hl→World→Prop}(hi:ops[i]?=some ⟨some d,.call { callee:=.value x,args:=xs.toArray,argTypes:=ts },ty,pos,af,none⟩)
  (hx:lk fr x=some (.func (.func f) first.toArray captured.toArray)) (hv:lks fr xs=some vs) (h:AC P D f (first++vs++captured) L s R0)
  (k:∀ v L' s',Le D s s'→R0 v L' s'→L'=L∧R v s'):JE P TT D n ops Q' i d fr L s R:=qkJ hi hx hv h k
def qmL{t e len:Nat}{ti te:TI}{ps:List (Nat×Operand)}(hi:ops[i]?=some ⟨some d,.buildSlice t len ps.toArray,ty,pos,af,none⟩)(vals:List (Nat×Value))(vs:List Value)(ht:qay TT t=some ti)(hk:ti.kind=.sl e)(he:qay TT e=some te)(hv:lkp fr ps=some vals)(hsz:Nat.ble (len * te.size) 16777216=true)(hpos:Nat.blt 0 len=true)(hp:vals.all (fun x=>Nat.blt x.1 len)=true)
  (hb:bld (qgm te.size 0 len) (List.replicate len te.zeros).flatten vals=some vs) (k:∀ β s',Le D s s'→CellsAt s' β 0 vs→R (.slice (some ⟨β,0,none⟩) len len) s'):JE P TT D n ops Q' i d fr L s R:=fun hT a hr ho=>by
 obtain ⟨h1,h2,h3⟩:=qaD ho (cb vs e);obtain ⟨d1,d2,d3⟩:=qbp (A:=[(s.heap.size,cb vs e)]) (B:=L) h2;refine qBi (s':=fill [(s.heap.size,cb vs e)] (s.alloc (dum D))) hi (fun hT _ dst pos af g ρ hρ=>⟨?_,d2⟩) (h3.trans d3) (k _ _ (h3.trans d3) (qfO h2)) hT a hr ho;exact qwg
def qEy{i0 t b off:Nat}{x y:Operand}{ti:TI}{t':Nat}{zs:List Value}{R:Value→Hl→World→Prop}(hi0:ops[i0]?=some ⟨none,.store t x y,ty,pos,af,none⟩)(i:Nat)(zs':List Value){L':Hl}(hx:lk fr x=some (.pointer (some ⟨b,off,none⟩)))(hy:lk fr y=some v)(hi:L[i]?=some (b,cb zs t'))(ht:qay TT t=some ti)
  (hl:(qa2 v).length=ti.size) (hle:Nat.ble (off+ti.size) zs.length=true) (h1:(qa2 v).all (·.oneCell')=true) (hs:qbx zs off (qa2 v)=zs') (hL:qch L i (cb zs' t')=L') (hR:∀ v,R v L' s):JL P TT D n ops Q' i0 none fr L s R:=by
 subst hL;exact qEx hi0 (qqR i zs' hx hy hi ht hl hle h1 hs) (Le.refl _) hR
end
def qrH(l:List Oper)(i j:Nat):Bool:=match l[i]? with
 | some o=>o.after.any fun e=>Region.binds .any e && e.on == j
 | none=>false
def dstB(l:List Oper)(ds:List Nat)(m:Nat):Bool:=(List.range m).all fun i=>(match l[i]? with|some o=>o.dst == ds[i]? && o.guard.isNone|none=>false)
def qF0(l:List Oper):Bool:=(List.range l.length).all fun i=>(match l[i]? with|some o=>o.after.all fun e=>!Region.binds .any e || decide (e.on < i)|none=>true)
def qCm(l:List Oper)(m:Nat):Bool:=(List.range m).all fun j=>(List.range (m+1)).any fun i=>decide (j < i) && qrH l i j
def depB(l:List Oper)(dp:List (List Nat))(m:Nat):Bool:=(List.range m).all fun i=>(dp.getD i []).all fun j=>decide (j < m) && qrH l i j
def qCB(fr:Fr)(ds:List Nat)(n:Nat):Bool:=ds.all fun d=>(qaS fr d).isNone && Nat.blt d n
def Obl(Φ:Nat→Value→World→Prop)(ds:List Nat)(s:World)(K:Fr→Prop):List Nat→Fr→Prop
 | [],fr=>K fr
 | j::r,fr=>∀ u,Φ j u s→Obl Φ ds s K r ((ds.getD j 0,u)::fr)
inductive Fct where
 | eq (v:Value)
 | row (len:Nat) (vs:List Value)
 | of (P:Value→World→Prop) (h:∀ D v s s',P v s→Le D s s'→P v s')
def Fct.holds:Fct→Value→World→Prop
 | .eq u,v,_=>v=u
 | .row len vs,v,s=>∃ b,v=.slice (some ⟨b,0,none⟩) len len∧CellsAt s b 0 vs
 | .of P _,v,s=>P v s
def Fct.le{D:Nat}(fs:List Fct)(i:Nat)(v:Value)(s s':World)(h:(fs.getD i (.eq undef)).holds v s)(hl:Le D s s'):(fs.getD i (.eq undef)).holds v s':=by
 generalize fs.getD i (.eq undef)=f at h ⊢;cases f with
 | eq u=>exact h
 | row len vs=>obtain ⟨b,h1,h2⟩:=h;exact ⟨b,h1,h2.le hl⟩
 | of P h2=>exact h2 _ _ _ _ h hl
def AllLt(p:Nat→Prop):Nat→Prop
 | 0=>True
 | m+1=>AllLt p m∧p m
def AllLt.get{p:Nat→Prop}{m:Nat}(h:AllLt p m):∀ i,i < m→p i:=by
 induction m with
 | zero=>intro i hi;omega
 | succ m ih=>
  intro i hi;rcases Nat.lt_succ_iff_lt_or_eq.1 hi with h1|rfl
  · exact ih h.1 i h1
  · exact h.2
def qmJ{P:Program}{ops:Array Oper}{Q:Exit→Act→World→Prop}{o:Oper}{a:Act}{w:World}{K K':Act→World→Prop}(h:∀ a w,K a w→K' a w)
    (hh:if Region.wanted o (yielded ops a.tmps) then o.wp P a w K Q∨(o.asks P a w∧LetsOut Q) else K (a.put o.dst undef) w):if Region.wanted o (yielded ops a.tmps) then o.wp P a w K' Q∨(o.asks P a w∧LetsOut Q) else K' (a.put o.dst undef) w:=by
  by_cases hw:Region.wanted o (yielded ops a.tmps)=true
  · simp only [hw,if_true] at hh ⊢
    exact hh.imp (Oper.wp_mono h) id
  · simp only [hw] at hh ⊢
    exact h _ _ hh
section
variable{P:Program}{TT:qaM}{D n:Nat}{Q:qbs}{fr:Fr}{L:Hl}{s:World}
def FrRel.more(hr:FrRel n a fr){d:Nat}{u:Value}(h1:d < n)(h2:a.tmps[d]?=some u):FrRel n a ((d,u)::fr):=by
  refine ⟨hr.size,hr.defers,fun t ht v hv=>?_,fun t v hv=>?_⟩
  · rw [qa9] at hv
    split at hv
    · rename_i he;subst he;simp at hv;subst hv;exact h2
    · exact hr.slot t ht v hv
  · rw [qa9] at hv
    split at hv
    · rename_i he;subst he;exact h1
    · exact hr.top t v hv
def Obl.apply{Φ:Nat→Value→World→Prop}{K:Fr→Prop}{js:List Nat}(hr:FrRel n a fr)(h:Obl Φ ds s K js fr)(hj:∀ j∈js,ds.getD j 0 < n∧∃ v,a.tmps[ds.getD j 0]?=some v∧Φ j v s):∃ fr',FrRel n a fr'∧K fr':=by
 induction js generalizing fr with
 | nil=>exact ⟨fr,hr,h⟩
 | cons j r ih=>
  obtain ⟨h1,v,h2,h3⟩:=hj j Mc;exact ih (hr.more h1 h2) (h v h3) fun x hx=>hj x (List.mem_cons_of_mem _ hx)
def qjH{l:List Oper}{i:Nat}(h:qrH l i j=true):∃ o,l[i]?=some o∧∃ e∈o.after,Region.binds .any e=true∧e.on=j:=by
  unfold qrH at h;split at h
  · rename_i o ho
    rw [Array.any_eq_true] at h;obtain ⟨k,hk,h1⟩:=h;simp only [Bool.and_eq_true,beq_iff_eq] at h1;exact ⟨o,ho,o.after[k],Array.getElem_mem hk,h1.1,h1.2⟩
  · cases h
def FrRel.putF(h:FrRel n a fr){d:Option Nat}(hd:∀ x,d=some x→x < n∧qaS fr x=none):FrRel n (a.put d v) fr:=by
 cases d with
 | none=>exact h
 | some d=>
  obtain ⟨h1,h2⟩:=hd d rfl;have hsz:=h.size;refine ⟨by simp [Act.put,hsz],by simp [Act.put,h.defers],fun t ht2 u hu2=>?_,h.top⟩;have hne:d≠t:=by intro e;rw [e] at h2;rw [h2] at hu2;cases hu2
  simp only [Act.put,Array.getElem?_setIfInBounds_ne hne];exact h.slot t ht2 u hu2
def ql0(h:ds.Nodup){i:Nat}(hi:i < ds.length)(hj:j < ds.length)(e:ds.getD i 0=ds.getD j 0):i=j:=by
 simp only [List.getD,List.getElem?_eq_getElem hi,List.getElem?_eq_getElem hj,Option.getD_some] at e;exact (List.getElem_inj h).1 e
def qmm(hd:ds.Nodup){i:Nat}{Φ:Nat→Value→World→Prop}(hi:i < ds.length)(hn:ds.getD i 0 < a.tmps.size)(hΦ:Φ i v s')(hj:j < ds.length)(h:j≠i→∃ u,a.tmps[ds.getD j 0]?=some u∧Φ j u s'):∃ u,(a.put (some (ds.getD i 0)) v).tmps[ds.getD j 0]?=some u∧Φ j u s':=by
  by_cases hji:j=i
  · subst hji
    refine ⟨v,?_,hΦ⟩;generalize ds.getD j 0=dd at hn ⊢;simp [Act.put,hn]
  · obtain ⟨u,k1,k2⟩:=h hji
    have hne:ds.getD i 0≠ds.getD j 0:=fun e=>hji (ql0 hd hj hi e.symm);exact ⟨u,by simp only [Act.put,Array.getElem?_setIfInBounds_ne hne];exact k1,k2⟩
def ordB(dp:List (List Nat))(m:Nat):Bool:=(List.range (m+1)).all fun i=>(dp.getD i []).all fun j=>decide (j < i)
def alcB(l:List Oper)(m z tz:Nat):Bool:=Nat.ble m z || match l[z]? with
 | some ⟨some _,.alloc t,_,_,_,none⟩=>t == tz
 | _=>false
def qFF(b:Bool)(l:List Oper)(fr:Fr)(ds:List Nat)(dp:List (List Nat))(dl:Option Nat)(m z tz n:Nat):Bool:=
 l.length == m+1 && (ds.length == m && (dstB l ds m && (qCB fr (ds++dl.toList) n && (decide (ds++dl.toList).Nodup && (ordB dp m && (alcB l m z tz && ((b || Nat.ble m z) && (!b || (qF0 l && (qCm l m && (depB l dp m && (Region.ready .any l.toArray ((Array.replicate m true).push false) == [m] && Region.ready .any l.toArray (((Array.replicate m true).push false).setIfInBounds m true) == []))))))))))))
def qu2{id:Nat}{b:Bool}{l:List Oper}(hm:P.follows .mixedOrders=true)(m z tz:Nat)(zs:List Value)(ds:List Nat)(dp:List (List Nat))(dl:Option Nat)(hB:qFF b l fr ds dp dl m z tz n=true)(I:World→Prop)(hI:∀ s',Le D s s'→I s')
    (Φ:Nat→Value→World→Prop) (mono:∀ i v s s',Φ i v s→Le D s s'→Φ i v s') (hz:z < m→(∃ ti,qay TT tz=some ti∧ti.zeros=zs)∧∀ v s,Φ z v s)
    (obl0:AllLt (fun i=>i≠z→∀ Q' s' L',Le D s s'→I s'→(L'=L∨z < m∧∃ β,L'=(β,cb zs tz)::L)→Obl Φ ds s' (fun fr'=>JE P TT D n l.toArray Q' i (ds.getD i 0) fr' L' s' (Φ i)) (dp.getD i []) fr) m)
    (R:Fr→Hl→World→Prop) (hR:∀ fr1 L' s',(fr1=fr∨z < m∧∃ β,fr1=(ds.getD z 0,.pointer (some ⟨β,0,none⟩))::fr)→Le D s s'→R fr1 L' s'→Q .normal fr1 L' s')
    (last:∀ Q' s' L' fr1,Le D s s'→I s'→(¬ z < m∧fr1=fr∧L'=L∨z < m∧∃ β,fr1=(ds.getD z 0,.pointer (some ⟨β,0,none⟩))::fr∧L'=(β,cb zs tz)::L)→Obl Φ ds s' (fun fr'=>JL P TT D n l.toArray Q' m dl fr' L' s' fun _=>R fr1) (dp.getD m []) fr1) :
    JC P TT D n Q (.region id l.toArray b) fr L s:=by
  simp only [qFF,Bool.and_eq_true,beq_iff_eq,decide_eq_true_eq] at hB;obtain ⟨hN,h7,h1,h5,h6,hord,hal,hbz,hb⟩:=hB;have obl:=obl0.get;have h6':ds.Nodup:=(List.nodup_append.1 h6).1;have hfree:∀ d∈ds++dl.toList,d < n∧qaS fr d=none:=fun d hd=>by
    have:=List.all_eq_true.1 h5 _ hd;simp only [Bool.and_eq_true,Option.isNone_iff_eq_none] at this;exact ⟨Nat.le_of_ble_eq_true this.2,this.1⟩
  have hdlt:∀ i,i < m→ds.getD i 0 < n∧qaS fr (ds.getD i 0)=none:=fun i hi=>
    hfree _ (List.mem_append_left _ (by simp [List.getD,show i < ds.length by omega]))
  have hput:∀ {a:Act} {i:Nat} {v:Value},FrRel n a fr→i < m→FrRel n (a.put (some (ds.getD i 0)) v) fr:=fun h hi=>h.putF fun x hx=>by
    injection hx with hx;subst hx;exact hdlt _ hi
  have hputl:∀ {a:Act} {v:Value},FrRel n a fr→FrRel n (a.put dl v) fr:=fun h=>h.putF fun x hx=>hfree x (List.mem_append_right _ (by simp [hx]));have hdep:∀ i,i < m+1→∀ j∈dp.getD i [],j < i:=fun i hi j hj=>by
    have:=List.all_eq_true.1 (List.all_eq_true.1 hord i (List.mem_range.2 hi)) j hj;simpa using this
  cases b with
  | false=>
    have hmz:¬ z < m:=by have:=Nat.le_of_ble_eq_true (by simpa using hbz);omega
    refine qgG fun ht a0 hr0 ho0=>?_;have key:∀ k i,i+k=m→∀ (a:Act) (s':World),FrRel n a fr→OKL D L s'→Le D s s'→(∀ j,j < i→∃ v,a.tmps[ds.getD j 0]?=some v∧Φ j v s')→wpList P l.toArray (conc D n Q) (l.drop i) a (fill L s'):=by
      intro k;induction k with
      | zero=>
        intro i hi a s' hfr ho hle hfact;obtain rfl:i=m:=by omega
        obtain ⟨fr',hf',hJ⟩:=(last (conc D n Q) s' L fr hle (hI s' hle) (.inl ⟨hmz,rfl,rfl⟩)).apply hfr (a:=a) (fun j hj=>⟨(hdlt j (hdep i O j hj)).1,hfact j (hdep i O j hj)⟩);have h:=hJ ht a hf' ho;rw [List.drop_eq_getElem_cons (show i < l.length by omega),List.drop_of_length_le O];simp only [wpOp,List.getElem?_toArray,List.getElem?_eq_getElem (show i < l.length by omega)] at h;simp only [wpList];refine qmJ ?_ h;rintro a' w' ⟨v,L2,s2,rfl,rfl,ho2,hl2,hq⟩;exact ⟨fr,L2,s2,hputl hfr,ho2,rfl,hR _ _ _ (.inl rfl) (hle.trans hl2) hq⟩
      | succ k ih=>
        intro i hi a s' hfr ho hle hfact;obtain ⟨fr',hf',hJ⟩:=(obl i O O (conc D n Q) s' L hle (hI s' hle) (.inl rfl)).apply hfr (a:=a) (fun j hj=>⟨(hdlt j (by have:=hdep i O j hj;omega)).1,hfact j (hdep i O j hj)⟩);have h:=hJ ht a hf' ho;rw [List.drop_eq_getElem_cons (show i < l.length by omega)];simp only [wpOp,List.getElem?_toArray,List.getElem?_eq_getElem (show i < l.length by omega)] at h;simp only [wpList];refine qmJ ?_ h;rintro a' w' ⟨v,L2,s2,rfl,rfl,ho2,hl2,rfl,hq⟩;exact ih (i+1) O _ s2 (hput hfr O) ho2 (hle.trans hl2) fun j hj=>qmm h6' O (by rw [hfr.size];exact (hdlt i O).1) hq O fun hne=>by
          obtain ⟨u,k1,k2⟩:=hfact j O;exact ⟨u,k1,mono _ _ _ _ k2 hl2⟩
    exact key m 0 O a0 s hr0 ho0 (Le.refl _) fun j hj=>by omega
  | true=>
    simp only [Bool.not_true,Bool.false_or,Bool.and_eq_true,beq_iff_eq] at hb;obtain ⟨h2,h3,h4,h9,h10⟩:=hb;intro ht a0 hr0 ho0;have key:∀ (N:Nat) (todo:List Nat) (listed:Array Bool) (a:Act) (s':World) (L':Hl),todo.length=N→todo.Nodup→(∀ i,i∈todo↔i < m∧listed.getD i true=false)→listed.size=m+1→listed.getD m true=false →
        (∀ i o,l[i]?=some o→i < m→listed.getD i true=true→∀ e∈o.after,Region.binds .any e=true→listed.getD e.on false=true) →
        FrRel n a fr→OKL D L' s'→Le D s s'→(∀ i,i < m→listed.getD i true=true→∃ v,a.tmps[ds.getD i 0]?=some v∧Φ i v s')→(listed.getD z false=false∧L'=L∨z < m∧listed.getD z false=true∧∃ β,L'=(β,cb zs tz)::L∧a.tmps[ds.getD z 0]?=some (.pointer (some ⟨β,0,none⟩)))→wpAny P .any l.toArray (qsG D n Q) (N+1) listed a (fill L' s'):=by
      intro N;induction N with
      | zero=>
        intro todo listed a s' L' hlen _ hmem hsz hlast hcl hfr ho hle hfact hL;have hnil:todo=[]:=List.eq_nil_of_length_eq_zero hlen;subst hnil;have hall:∀ i,i < m→listed.getD i true=true:=fun i hi=>by
          cases hb:listed.getD i true with
          | true=>rfl
          | false=>exact absurd ((hmem i).2 ⟨hi,hb⟩) (by simp)
        have hl:listed=(Array.replicate m true).push false:=by
          apply Array.ext
          · simp [hsz]
          · intro i hi hi'
            rw [Array.getElem_push];have hg:listed.getD i true=listed[i]:=by simp [hi]
            split
            · rename_i hlt
              simp at hlt;rw [Array.getElem_replicate,← hg,hall i hlt]
            · rename_i hge
              simp at hge;have:i=m:=by omega
              subst this;rw [← hg,hlast]
        subst hl;have hfr1:∃ fr1,FrRel n a fr1∧(∀ {v:Value},FrRel n (a.put dl v) fr1)∧(¬ z < m∧fr1=fr∧L'=L∨z < m∧∃ β,fr1=(ds.getD z 0,.pointer (some ⟨β,0,none⟩))::fr∧L'=(β,cb zs tz)::L):=by
          rcases hL with ⟨q1,q2⟩|⟨q1,_,β,q2,q3⟩
          · refine ⟨fr,hfr,hputl hfr,.inl ⟨fun q=>?_,Z,q2⟩⟩
            have:=hall z q;simp [show z < m+1 by omega] at q1 this;rw [q1] at this;cases this
          · have hm1:=hfr.more (hdlt z q1).1 q3
            refine ⟨_,hm1,fun {v}=>hm1.putF fun x hx=>?_,.inr ⟨q1,β,Z,q2⟩⟩;have hf:=hfree x (List.mem_append_right _ (by simp [hx]));refine ⟨hf.1,?_⟩;rw [qa9,if_neg,hf.2];intro e;have hn2:=h6;rw [List.nodup_append] at hn2;exact hn2.2.2 _ (by simp [List.getD,show z < ds.length by omega]) _ (by simp [hx]) e
        obtain ⟨fr1,hf1,hf2,hcase⟩:=hfr1;obtain ⟨fr',hf',hJ⟩:=(last (qsG D n Q) s' L' fr1 hle (hI s' hle) hcase).apply hf1 (a:=a) (fun j hj=>by
          have hj':=hdep m O j hj;exact ⟨(hdlt j hj').1,hfact j hj' (hall j hj')⟩)
        refine ⟨fun h0=>absurd (h9▸h0) (by simp),fun i hi=>?_⟩;obtain rfl:i=m:=by rw [h9] at hi;simpa using hi
        refine wpOp_mono ?_ (hJ ht a hf' ho);rintro a' w' ⟨v,L2,s2,rfl,rfl,ho2,hl2,hq⟩;exact ⟨h10,fr1,L2,s2,hf2,ho2,rfl,hR _ _ _ (hcase.imp (·.2.1) fun ⟨q1,β,q2,_⟩=>⟨q1,β,q2⟩) (hle.trans hl2) hq⟩
      | succ N ih=>
        intro todo listed a s' L' hlen hnd hmem hsz hlast hcl hfr ho hle hfact hL;refine ⟨fun hready=>?_,fun i hi=>?_⟩
        ·
          exfalso;have hex:∃ i,i < m∧listed.getD i true=false:=by
            cases todo with
            | nil=>simp at hlen
            | cons x r=>exact ⟨x,(hmem x).1 Mc⟩
          have hleast:∃ i,(i < m∧listed.getD i true=false)∧∀ j,j < i→¬ (j < m∧listed.getD j true=false):=by
            obtain ⟨i,hi⟩:=hex;induction i using Nat.strongRecOn with
            | ind i ihi=>
              by_cases hx:∃ j,j < i∧(j < m∧listed.getD j true=false)
              · obtain ⟨j,hj1,hj2⟩:=hx
                exact ihi j hj1 hj2
              · exact ⟨i,hi,fun j hj hj2=>hx ⟨j,hj,hj2⟩⟩
          obtain ⟨i,⟨hi1,hi2⟩,hi3⟩:=hleast;have hlt:i < l.length:=by omega
          have hin:i∈Region.ready .any l.toArray listed:=by
            rw [mem_ready];refine ⟨hi2,l[i],by simp [hlt],fun e he hb=>?_⟩;have ht2:=List.all_eq_true.1 h2 i (List.mem_range.2 hlt);simp only [List.getElem?_eq_getElem hlt] at ht2;rw [Array.all_eq_true_iff_forall_mem] at ht2;have:=ht2 e he;simp only [hb,Bool.not_true,Bool.false_or,decide_eq_true_eq] at this;have hn:=hi3 e.on this;have hm1:e.on < m:=by omega
            have h8:listed.getD e.on true=true:=by
              cases hc:listed.getD e.on true with
              | true=>rfl
              | false=>exact absurd ⟨hm1,hc⟩ hn
            have h9:e.on < listed.size:=by omega
            simp only [Array.getD,h9,dif_pos] at h8 ⊢;exact h8
          rw [hready] at hin;cases hin
        · have hi':=hi
          rw [mem_ready] at hi;obtain ⟨hu,o,ho1,hall⟩:=hi;have hol:l[i]?=some o:=by simpa using ho1
          have hilen:i < l.length:=(List.getElem?_eq_some_iff.1 hol).1;have him:i≠m:=by
            intro e;subst e

            have hmax:∀ k,∀ j,j < i→i - j≤k→listed.getD j true=true:=by
              intro k;induction k with
              | zero=>intro j hj hk;omega
              | succ k ihk=>
                intro j hj hk;have hcv:=List.all_eq_true.1 h3 j (List.mem_range.2 hj);rw [List.any_eq_true] at hcv;obtain ⟨i2,hi2,hc⟩:=hcv;simp only [Bool.and_eq_true,decide_eq_true_eq] at hc;obtain ⟨o2,ho2,e,he,hb,hon⟩:=qjH hc.2;have hi2':=List.mem_range.1 hi2;have hgot:listed.getD e.on false=true:=by
                  by_cases hlastone:i2=i
                  · subst hlastone
                    rw [hol] at ho2;injection ho2 with ho2;subst ho2
                    exact hall e he hb
                  · exact hcl i2 o2 ho2 O (ihk i2 O O) e he hb
                rw [hon] at hgot;have h9:j < listed.size:=by omega
                simp only [Array.getD,h9,dif_pos] at hgot ⊢;exact hgot
            cases todo with
            | nil=>simp at hlen
            | cons x r=>
              have hx:=(hmem x).1 Mc;have:=hmax i x hx.1 O;rw [hx.2] at this;cases this
          have hilt:i < m:=by omega
          have hdeps:∀ j∈dp.getD i [],j < m∧listed.getD j true=true:=fun j hj=>by
            have hd:=List.all_eq_true.1 h4 i (List.mem_range.2 hilt);have hd2:=List.all_eq_true.1 hd j hj;simp only [Bool.and_eq_true,decide_eq_true_eq] at hd2;obtain ⟨o2,ho2,e,he,hb,hon⟩:=qjH hd2.2;rw [hol] at ho2;injection ho2 with ho2;subst ho2
            have hgot:=hall e he hb;rw [hon] at hgot;have h9:j < listed.size:=by omega
            simp only [Array.getD,h9,dif_pos] at hgot ⊢;exact ⟨hd2.1,hgot⟩
          have goon:∀ v L2 s2,OKL D L2 s2→Le D s' s2→Φ i v s2→(listed.getD z false=false∧i≠z∧L2=L∨z < m∧(listed.getD z false=true∧i≠z∨i=z)∧∃ β,L2=(β,cb zs tz)::L∧((a.put (some (ds.getD i 0)) v).tmps)[ds.getD z 0]?=some (.pointer (some ⟨β,0,none⟩)))→wpAny P .any l.toArray (qsG D n Q) (N+1) (listed.setIfInBounds i true) (a.put (some (ds.getD i 0)) v) (fill L2 s2):=by
            intro v L2 s2 ho2 hle2 hΦ hL2;refine ih (todo.erase i) _ _ s2 L2 (by rw [List.length_erase_of_mem ((hmem i).2 ⟨hilt,hu⟩)];omega) (hnd.erase i) (fun j=>?_) (by simpa using hsz) ?_ ?_ (hput hfr hilt) ho2 (hle.trans hle2) ?_ ?_
            · rw [hnd.mem_erase_iff,hmem j]
              by_cases hj:j=i
              · subst hj;simp [show j < listed.size by omega]
              · rw [getD_set_ne true (fun e=>hj e.symm)];simp [hj]
            · rw [getD_set_ne true him];exact hlast
            · intro j oj hoj hjm hlj e he hb
              by_cases hj:j=i
              · subst hj
                rw [hol] at hoj;injection hoj with hoj;subst hoj
                exact getD_set_true (hall e he hb)
              · rw [getD_set_ne true (fun e=>hj e.symm)] at hlj
                exact getD_set_true (hcl j oj hoj hjm hlj e he hb)
            · intro j hjm hlj
              refine qmm h6' O (by rw [hfr.size];exact (hdlt i hilt).1) hΦ O fun hj=>?_;rw [getD_set_ne true (fun e=>hj e.symm)] at hlj;obtain ⟨u,k1,k2⟩:=hfact j hjm hlj;exact ⟨u,k1,mono _ _ _ _ k2 hle2⟩
            · rcases hL2 with ⟨q1,q2,q3⟩|⟨q1,q2|rfl,q3⟩
              · exact .inl ⟨by rw [getD_set_ne false q2];exact q1,q3⟩
              · exact .inr ⟨q1,by rw [getD_set_ne false q2.2];exact q2.1,q3⟩
              · exact .inr ⟨q1,by simp [show i < listed.size by omega],q3⟩
          by_cases hiz:i=z
          · subst hiz
            have hLL:L'=L:=by
              rcases hL with ⟨_,q⟩|⟨_,q,_⟩
              · exact q
              · have h9:i < listed.size:=by omega
                simp only [Array.getD,h9,dif_pos] at hu q;rw [hu] at q;cases q
            subst hLL;obtain ⟨⟨ti,ht1,ht2⟩,hzΦ⟩:=hz hilt;simp only [alcB,hol,Bool.or_eq_true] at hal;rcases hal with hal|hal
            · have:=Nat.le_of_ble_eq_true hal;omega
            · split at hal
              · rename_i o2 d2 t2 ty2 pos2 af2 heq
                simp only [Option.some.injEq] at heq;subst heq;have hd2:d2=ds.getD i 0:=by
                  have:=List.all_eq_true.1 h1 i (List.mem_range.2 hilt);simp only [hol,Bool.and_eq_true,beq_iff_eq] at this;simp [List.getD,← this.1]
                subst hd2;obtain rfl:t2=tz:=by simpa using hal
                refine wpOp_mono ?_ (qBj (TT:=TT) (n:=n) (fr:=fr) (R:=fun v L2 s2=>∃ β,v=.pointer (some ⟨β,0,none⟩)∧L2=(β,cb zs t2)::L') (ops:=l.toArray) (i:=i) (by simpa using hol) (qgq ht1 ho) (qaD ho (cb ti.zeros t2)).2.2 ⟨_,Z,by rw [ht2]⟩ ht a hfr ho);rintro a' w' ⟨v,L2,s2,rfl,rfl,ho2,hle2,β,rfl,rfl⟩;refine goon _ _ _ ho2 hle2 (hzΦ _ _) (.inr ⟨hilt,.inr Z,β,Z,?_⟩);have hn1:=(hdlt i hilt).1;have hsz2:=hfr.size;generalize ds.getD i 0=dd at hn1 ⊢;simp [Act.put,hsz2,hn1]
              · cases hal
          · obtain ⟨fr',hf',hJ⟩:=(obl i hilt hiz (qsG D n Q) s' L' hle (hI s' hle) (hL.imp (·.2) fun ⟨q1,_,β,q2,_⟩=>⟨q1,β,q2⟩)).apply hfr (a:=a) (fun j hj=>⟨(hdlt j (hdeps j hj).1).1,hfact j (hdeps j hj).1 (hdeps j hj).2⟩)
            refine wpOp_mono ?_ (hJ ht a hf' ho);rintro a' w' ⟨v,L2,s2,rfl,rfl,ho2,hle2,rfl,hΦ⟩;refine goon _ _ _ ho2 hle2 hΦ ?_;rcases hL with ⟨q1,q2⟩|⟨q1,q2,β,q3,q4⟩
            · exact .inl ⟨q1,hiz,q2⟩
            · refine .inr ⟨q1,.inl ⟨q2,hiz⟩,β,q3,?_⟩
              have hne:ds.getD i 0≠ds.getD z 0:=fun e=>hiz (ql0 h6' O O e);simp only [Act.put,Array.getElem?_setIfInBounds_ne hne];exact q4
    have hstart:=key m (List.range m) (Array.replicate (m+1) false) a0 s.drew L (by simp) List.nodup_range (fun i=>⟨fun h=>⟨List.mem_range.1 h,by have:=List.mem_range.1 h;simp [show i < m+1 by omega]⟩,fun h=>List.mem_range.2 h.1⟩) (by simp) (by simp) (fun i o _ him hli=>by simp [show i < m+1 by omega] at hli) hr0 ho0.drew (Le.drew s) (fun i him hli=>by simp [show i < m+1 by omega] at hli) (.inl ⟨by simp [Array.getD],rfl⟩);refine wp_mono (wp_region_any (Q:=qsG D n Q) hm ?_) (fun e a w hq=>by
      cases e with
      | panic ch=>obtain ⟨h1,L1,s1,h2,h3,h4⟩:=hq;exact ⟨[],L1,s1,h1,h2,h3,h4 []⟩
      | _=>exact hq)
    rw [← qjG] at hstart;simpa [hN] using hstart
end
structure Apps(P:Program)(w:World)(t u ty e:Nat)(i:TypeInfo)(z:Value)(y:Value)(m:Nat)(news:List Value):Prop where
 none:m=0→(Builtin.append_ #[t,u] ty #[.slice none 0 0,y]).run P w=.ok (.slice none 0 0) w
 nil:0 < m→m≤9223372036854775807→m * i.bytes≤140737488355328→(Builtin.append_ #[t,u] ty #[.slice .none 0 0,y]).run P w=.ok (.slice (some ⟨w.heap.size,0,.none⟩) m (grownCap w m 0 e)) (w.drew.alloc (.cells (news.toArray++Builtin.zeroCells z.cells (grownCap w m 0 e - m)) e))
 room:∀ g sLen sCap (cur:Array Value),w.heap[g]?=some (.cells cur e (0,0))→sLen+m≤sCap→sLen * i.size+news.length≤cur.size→(Builtin.append_ #[t,u] ty #[.slice (some ⟨g,0,.none⟩) sLen sCap,y]).run P w=.ok (.slice (some ⟨g,0,.none⟩) (sLen+m) sCap) (w.setRow g (cur.toList.take (sLen * i.size)++news++cur.toList.drop (sLen * i.size+news.length)).toArray)
 grow:∀ g n cap (xs:List Value),xs.length=n * i.size→(∀ j v,xs[j]?=some v→w.cell? ((⟨g,0,.none⟩:Addr).add j)=some v)→cap < n+m→n+m≤9223372036854775807→(n+m) * i.bytes≤140737488355328 →
  (Builtin.append_ #[t,u] ty #[.slice (some ⟨g,0,.none⟩) n cap,y]).run P w=.ok (.slice (some ⟨w.heap.size,0,.none⟩) (n+m) (grownCap w (n+m) cap e)) (w.drew.alloc (.cells (xs.toArray++news.toArray++Builtin.zeroCells z.cells (grownCap w (n+m) cap e - (n+m))) e))
def qsV{P:Program}{w:World}{t u ty e:Nat}{i:TypeInfo}{z y:Value}{m size bytes:Nat}{news:List Value}(hS:Apps P w t u ty e i z y m news)(hsize:i.size=size)(hby:i.bytes=bytes)(hzs:z.cells.size=size)
    (v:Value) (n:Nat) (xs:List Value) (hown:w.ownsRow 0 e size v n xs) (hl:news.length=m * size) (h63:n+m≤maxLen) (hbytes:(n+m) * bytes≤140737488355328) :
    ∃ v' w',(Builtin.append_ #[t,u] ty #[v,y]).run P w=.ok v' w'∧w'.ownsRow 0 e size v' (n+m) (xs++news)∧w.grownBy w' v.ownBlock∧(v'.ownBlock=v.ownBlock∨v'.ownBlock=some w.heap.size)∧(v=.slice none 0 0→m=0→v'=.slice none 0 0):=by
  subst hsize;subst hby;have hsmall:n+m≤9223372036854775807:=by simp only [maxLen] at h63;omega
  have hlen:(xs++news).length=(n+m) * i.size:=by rw [List.length_append,hown.1,hl,Nat.add_mul]
  have grown:∀ (old:Nat),old < n+m→∀ (row:Option Nat),
      (w.drew.alloc (.cells (xs.toArray++news.toArray++Builtin.zeroCells z.cells (grownCap w (n+m) old e - (n+m))) e)).ownsRow 0 e i.size
        (.slice (some ⟨w.heap.size,0,none⟩) (n+m) (grownCap w (n+m) old e)) (n+m) (xs++news) ∧
      w.grownBy (w.drew.alloc (.cells (xs.toArray++news.toArray++Builtin.zeroCells z.cells (grownCap w (n+m) old e - (n+m))) e)) row:=by
    intro old ho row;have hge:=grownCap_ge w (n+m) old e;have hcm:grownCap w (n+m) old e≤maxLen:=grownCap_le_maxLen w (n+m) old e h63;refine ⟨⟨hlen,.inr ⟨w.heap.size,_,_,Z,Nat.zero_le _,heap_alloc_new w.drew _,hge,hcm,?_,?_⟩⟩,⟨Z,Z,Z,by simp,fun k hk _=>by show (w.heap.push _)[k]?=w.heap[k]?;rw [Array.getElem?_push,if_neg (Nat.ne_of_lt hk)]⟩⟩
    · simp only [Array.size_append,List.size_toArray,size_zeroCells,hzs,hown.1,hl,← Nat.add_mul]
      congr 1;omega
    · simp only [Array.toList_append,List.append_assoc]
      rw [← List.append_assoc,← hlen];exact List.take_left
  rcases hown.2 with ⟨rfl,rfl⟩|⟨g,cap,cur,rfl,hbg,hg,hnc,hcm,hcs,htake⟩
  · have hx:xs=[]:=List.eq_nil_of_length_eq_zero (by simpa using hown.1)
    subst hx;by_cases hm:m=0
    · have hn:news=[]:=List.eq_nil_of_length_eq_zero (by rw [hl,hm];simp)
      refine ⟨.slice none 0 0,w,hS.none hm,?_,⟨Z,Z,Z,Nat.le_refl _,fun _ _ _=>rfl⟩,Or.inl Z,fun _ _=>rfl⟩;rw [hn,hm];exact World.ownsRow_nil w 0 e i.size
    · have hr:=hS.nil O O (by have hb:=hbytes;simp only [Nat.zero_add] at hb;exact hb)
      have hgr:=grown 0 O (Value.ownBlock (.slice none 0 0));simp only [Nat.zero_add,List.nil_append,Array.empty_append] at hgr ⊢;exact ⟨_,_,hr,hgr.1,hgr.2,Or.inr rfl,fun _ h=>absurd h hm⟩
  · by_cases hroom:n+m≤cap
    · have hfit:n * i.size+news.length≤cur.size:=by rw [hl,hcs,← Nat.add_mul];exact Nat.mul_le_mul_right _ hroom
      have hr:=hS.room g n cap cur hg hroom hfit;refine ⟨_,_,hr,⟨hlen,.inr ⟨g,cap,_,Z,hbg,setRow_heap w g cur _ e _ hg,hroom,hcm,?_,?_⟩⟩,⟨Z,Z,Z,by simp,fun k _ hk=>setRow_other w g k _ (fun e=>hk (by simp [Value.ownBlock,e]))⟩,Or.inl Z,fun h=>by cases h⟩
      · simp only [List.size_toArray,List.length_append,List.length_take,List.length_drop,Array.length_toList]
        omega
      · rw [htake,← hlen]
        exact List.take_left
    · have holds:∀ j u,xs[j]?=some u→w.cell? ((⟨g,0,none⟩:Addr).add j)=some u:=hown.cells (g:=g) rfl
      have hr:=hS.grow g n cap xs hown.1 holds O hsmall hbytes;have hgr:=grown cap O (Value.ownBlock (.slice (some ⟨g,0,none⟩) n cap));exact ⟨_,_,hr,hgr.1,hgr.2,Or.inr rfl,fun h=>by cases h⟩
section
variable{P:Program}{TT:qaM}{D n:Nat}{Q:qbs}{fr:Fr}{L L' K:Hl}{s s' s0:World}{ops:Array Oper}{rest:List Oper}{d ty:Nat}{op:Op}{pos:String}{af:Array Edge}{v:Value}
def qnA{t u e m k sz:Nat}{x y:Operand}{yv:Value}{ti te:TI}{news xs:List Value}(B A L0:Hl)(hT:TabOK P TT)(hx:lk fr x=some v)(hy:lk fr y=some yv)(ht:qay TT t=some ti)(hk:ti.kind=.sl e)(he:qay TT e=some te)(hsz:te.size=sz)
  (hO:FL.Own e sz A v k xs) (hl:news.length=m * sz) (hS:∀ w i,P.underlying t=some (.slice e)→P.info? e=some i→i.size=te.size→i.bytes=te.bytes→i.zero=some te.zero→Apps P w t u ty e i te.zero yv m news) (h63:(k+m) * te.bytes≤140737488355328∧k+m≤9223372036854775807) (ho:OKL D (B++(A++L0)) s) :
  ∃ v' A' s',Ev P TT D fr (.call { callee:=.builtin .append,args:=#[x,y],argTypes:=#[t,u] }) ty (B++(A++L0)) s (.value v') (B++(A'++L0)) s'∧Le D s s'∧FL.Own e sz A' v' (k+m) (xs++news)∧(v=.slice none 0 0→m=0→v'=.slice none 0 0):=by
 obtain ⟨k1,k2,_⟩:=hT.at_ ht;rw [hk] at k2;simp only [TK.fits] at k2;rw [k2] at k1;have hte:=hT.at_ he;obtain ⟨i,i1,i2,i3,i4⟩:=qdR hte;have hzs:te.zero.cells.size=te.size:=by rw [qc7 hte];simpa using hte.2.2.2.1
 have hin:∀ x∈A,(fill (B++(A++L0)) s).heap[x.1]?=some x.2:=fun x hx=>qa3 ho (mem_mid.2 (.inr (.inl hx)));obtain ⟨v',w',hrun,hown',hgr,hat,hnl⟩:=qsV (hS (fill (B++(A++L0)) s) i k1 i1 i2 i3 i4) (i2.trans hsz) i3 (by rw [hzs,hsz]) v k xs (hO.owns hin) hl (by simpa [maxLen] using h63.2) h63.1;obtain ⟨A',hO',hA'⟩:=Own.of_owns hown';rw [qaF] at hat;obtain ⟨r1,r2,r3⟩:=qvN (D:=D) ho hO hO' hA' hgr hat;refine ⟨v',A',qcF D (B++(A'++L0)) w',fun hT ho dst pos af g ρ hρ=>⟨?_,r2⟩,r3,hO',hnl⟩;exact Ez68
def qnK{t u e m k sz:Nat}{x y:Operand}{yv:Value}{ti te:TI}{news xs:List Value}(B A L0:Hl)(hL:L=B++(A++L0))(hx:lk fr x=some v)(hy:lk fr y=some yv)(ht:qay TT t=some ti)(hk:ti.kind=.sl e)(he:qay TT e=some te)(hsz:te.size=sz)
  (hO:FL.Own e sz A v k xs) (hl:news.length=m * sz) (hS:TabOK P TT→∀ w i,P.underlying t=some (.slice e)→P.info? e=some i→i.size=te.size→i.bytes=te.bytes→i.zero=some te.zero→Apps P w t u ty e i te.zero yv m news) (h63:(k+m) * te.bytes≤140737488355328∧k+m≤9223372036854775807) (hd:Nat.blt d n=true)
  (kk:∀ v' A' s',Le D s s'→FL.Own e sz A' v' (k+m) (xs++news)→(v=.slice none 0 0→m=0→v'=.slice none 0 0)→JO P TT D n ops Q rest ((d,v')::fr) (B++(A'++L0)) s') :
  JO P TT D n ops Q (⟨some d,.call { callee:=.builtin .append,args:=#[x,y],argTypes:=#[t,u] },ty,pos,af,none⟩::rest) fr L s:=fun hT a hr ho=>by
 subst hL;obtain ⟨v',A',s',h1,h2,h3,h4⟩:=qnA (ty:=ty) B A L0 hT hx hy ht hk he hsz hO hl (hS hT) h63 ho;exact qgH hd h1 (kk v' A' s' h2 h3 h4) hT a hr ho
def qwp{i0 t u e m k sz:Nat}{g:Option (Nat×Bool)}{fuel:Nat}{listed:Array Bool}{x y:Operand}{yv:Value}{ti te:TI}{news xs:List Value}(hi0:ops[i0]?=some ⟨some d,.call { callee:=.builtin .append,args:=#[x,y],argTypes:=#[t,u] },ty,pos,af,g⟩)(hgk:GOK ops fr g)
  (B A L0:Hl) (hL:L=B++(A++L0)) (hx:lk fr x=some v) (hy:lk fr y=some yv) (ht:qay TT t=some ti) (hk:ti.kind=.sl e) (he:qay TT e=some te) (hsz:te.size=sz)
  (hO:FL.Own e sz A v k xs) (hl:news.length=m * sz) (hS:TabOK P TT→∀ w i,P.underlying t=some (.slice e)→P.info? e=some i→i.size=te.size→i.bytes=te.bytes→i.zero=some te.zero→Apps P w t u ty e i te.zero yv m news) (h63:(k+m) * te.bytes≤140737488355328∧k+m≤9223372036854775807) (hd:Nat.blt d n=true) (hK:∀ A',∀ x∈K,x∈B++(A++L0)→x∈B++(A'++L0))
  (kk:∀ v' A' s',Le D s s'→FL.Own e sz A' v' (k+m) (xs++news)→JA P TT D n ops Q K s0 fuel (listed.setIfInBounds i0 true) ((d,v')::fr) (B++(A'++L0)) s') :
  JB P TT D n ops Q K s0 fuel listed i0 fr L s:=fun hT a hr ho hl0 hKL=>by
 subst hL;obtain ⟨v',A',s',h1,h2,h3,h4⟩:=qnA (ty:=ty) B A L0 hT hx hy ht hk he hsz hO hl (hS hT) h63 ho;exact qhz hi0 hgk h1 h2 (hK A') hd (kk v' A' s' h2 h3) hT a hr ho hl0 hKL
end
def qrk{P:Program}{u ty:Nat}{i:TypeInfo}(l:List UInt8)(ht:P.underlying t=some (.slice e))(hu:P.underlying u=some .string)(hi:P.info? e=some i)(hs:i.size=1)(hb:i.bytes=1)(hz:i.zero=some z):
    Apps P w t u ty e i z (St l) l.length (l.map fun b=>Value.int .u8 (b.toNat:Int)):=by
  have hsz:(⟨l.toArray⟩:ByteArray).size=l.length:=by simp [ByteArray.size]
  have hcs:Lib.strCells ⟨l.toArray⟩=l.map fun b=>Value.int .u8 (b.toNat:Int):=by simp [Lib.strCells]
  refine ⟨fun h0=>?_,fun h1 h2 h3=>?_,fun g sLen sCap cur hg hr hf=>?_,fun g n cap xs hl hc hcap h63 hby=>?_⟩
  · have hf:=Lib.run_firstCells_string (P:=P) w 1 ⟨l.toArray⟩
    have hl:l=[]:=List.eq_nil_of_length_eq_zero h0;subst hl;simp [Builtin.append_,run_underlying ht,run_underlying hu,sizeOf,typeInfo,hi,hs,Builtin.lenOf,Builtin.firstCells,ByteArray.size]
  · have hr:=run_append_nil_string (P:=P) w t u ty e i z ht hu hi hz ⟨l.toArray⟩ (by rw [hsz];exact h1) (by rw [hsz];omega) (by rw [hsz];exact Nat.le_trans h3 O)
    rw [hsz] at hr;have e1:((⟨l.toArray⟩:ByteArray).data.map fun b=>Value.int .u8 (b.toNat:Int))=(l.map fun b=>Value.int .u8 (b.toNat:Int)).toArray:=by apply Array.ext';simp
    rw [e1] at hr;exact hr
  · have hr':=Lib.run_append_room_string (P:=P) (ty:=ty) w t u e i ht hu hi hs g sLen sCap cur hg ⟨l.toArray⟩ (by rw [hsz];exact hr) (by rw [hsz];simpa [hs] using hf)
    rw [hsz,hcs] at hr';rw [hs,Nat.mul_one,List.length_map];exact hr'
  · have hr:=Lib.run_append_grow_string (P:=P) (ty:=ty) w t u e i z ht hu hi hz ⟨g,0,none⟩ n cap xs hl hc ⟨l.toArray⟩ (by rw [hsz];exact hcap) (by rw [hsz];omega) (by rw [hsz];exact growslice_fits hcap hby)
    rw [hsz,hcs] at hr;exact hr
def qjm{P:Program}{u ty:Nat}{i:TypeInfo}{ik:IntKind}(m:Nat)(ht:P.underlying t=some (.slice e))(hu:P.underlying u=some (.int ik))(hi:P.info? e=some i)(hs:i.size=1)(hz:i.zero=some z)(hzc:z.cells=#[z])(h1c:z.oneCell'=true)(hm:m≤9223372036854775807)(hmb:(m:Int) * i.bytes≤281474976710656):
    Apps P w t u ty e i z (.int ik (m:Int)) m (List.replicate m z):=by
  have hw:IntKind.i64.wrap (m:Int)=(m:Int):=w64 O O;have h0:¬ ((m:Int) < 0):=by omega
  have hmb':¬ (281474976710656 < (m:Int) * (i.bytes:Int)):=by omega
  have hzz:Builtin.zeroCells z.cells m=(List.replicate m z).toArray:=by
    rw [hzc];apply Array.ext';simp only [Builtin.zeroCells];apply List.ext_getElem
    · simp
    · intro k h1 h2;simp [Nat.mod_one]
  refine ⟨fun h0=>?_,fun h1 h2 h3=>?_,fun g sLen sCap cur hg hr hf=>?_,fun g n cap xs hl hc hcap h63 hby=>?_⟩
  · subst h0
    have hw0:IntKind.i64.wrap 0=0:=hw;simp [Builtin.append_,run_underlying ht,run_underlying hu,sizeOf,typeInfo,hi,hs,asInt,asIntOf,hw0]
  · have hn:¬ (m=0):=by omega
    have h63':¬ (9223372036854775807 < (m:Int)):=by omega
    have h48':¬ (281474976710656 < Builtin.nextslicecap m 0 * i.bytes):=by rw [nextslicecap_zero h1];omega
    simp [Builtin.append_,run_underlying ht,run_underlying hu,sizeOf,typeInfo,zeroValue,hi,hz,hs,asInt,asIntOf,hw,h0,hmb',hn,h63',h48',Question.forced,newRow,grownCap,Builtin.firstCells,hzz]
  · have hst:=run_storeCells_at P g sLen e (List.replicate m z) 0 cur w hg (by simpa [hs] using hf) (fun u hu=>by rw [(List.mem_replicate.1 hu).2];exact h1c)
    simp only [Nat.add_zero] at hst;by_cases hm0:m=0
    · subst hm0
      have hw0:IntKind.i64.wrap 0=0:=hw;have hr0:sLen≤sCap:=hr;simp at hst;simp [Builtin.append_,run_underlying ht,run_underlying hu,sizeOf,typeInfo,zeroValue,hi,hz,hs,asInt,asIntOf,hw0,hr0,Addr.add_lit,hst]
    · simp [Builtin.append_,run_underlying ht,run_underlying hu,sizeOf,typeInfo,zeroValue,hi,hz,hs,asInt,asIntOf,hw,h0,hmb',hr,hm0,Addr.add_lit,hzz,hst]
  · have hn:¬ (n+m≤cap):=by omega
    have h63':¬ (9223372036854775807 < ((n:Int)+(m:Int))):=by omega
    have hgs:=growslice_fits hcap hby;have h48':¬ (281474976710656 < Builtin.nextslicecap (n+m) cap * i.bytes):=by omega
    have hfo:=run_firstCells_some (P:=P) w.drew i.size n ⟨g,0,none⟩ n cap xs hl Q18;by_cases hm0:m=0
    · subst hm0
      rw [hs] at hfo;have hw0:IntKind.i64.wrap 0=0:=hw;have hn0:¬ (n≤cap):=hn;have h630:¬ (9223372036854775807 < (n:Int)):=by omega
      simp [Builtin.append_,run_underlying ht,run_underlying hu,sizeOf,typeInfo,zeroValue,hi,hz,hs,asInt,asIntOf,hw0,hn0,h630,Question.forced,newRow,grownCap,hfo];try exact fun h=>absurd h h48'
    · rw [hs] at hfo
      simp [Builtin.append_,run_underlying ht,run_underlying hu,sizeOf,typeInfo,zeroValue,hi,hz,hs,asInt,asIntOf,hw,h0,hmb',hn,hm0,h63',h48',Question.forced,newRow,grownCap,hfo,hzz]
section
variable{P:Program}{TT:qaM}{D n:Nat}{Q:qbs}{fr:Fr}{L L' K:Hl}{s s' s0:World}{ops:Array Oper}{rest:List Oper}{d ty:Nat}{op:Op}{pos:String}{af:Array Edge}{v:Value}
def qav{x y:Operand}{a b:List UInt8}{t':Nat}(hx:lk fr x=some (St a))(hy:lk fr y=some (St b))(h:a.length+b.length≤9223372036854775807):QE P TT D fr (.binOp .add t x y t') ty K s0 (St (a++b)):=
 QE.pure fun _ dst pos af g ρ hρ w=>by
  have h1:¬ (9223372036854775807 < ((a.length:Int)+(b.length:Int))):=by omega
  have e:(⟨a.toArray⟩:ByteArray)++⟨b.toArray⟩=⟨(a++b).toArray⟩:=by
   apply ByteArray.ext;simp
  simp [execOp,hρ x _ hx,hρ y _ hy,eqGuard,binOp,Op.stringOp,ByteArray.size,h1,e]
def qAF(e:Value)(b:Bool):Prop:=(e=.nilIface∧b=true)∨∃ u p,e=.iface u p∧b=false
def qwC{x:Operand}{e:Value}{b:Bool}{t':Nat}(hu:P.underlying t=some (.interface (P.methodsAt t)))(hx:lk fr x=some e)(hE:qAF e b):QE P TT D fr (.binOp .eql t x (.const .nilIface) t') ty K s0 (.bool b):=
 QE.pure fun _ dst pos af g ρ hρ w=>by
  have hc:=hρ (.const .nilIface) _ rfl;rcases hE with ⟨rfl,rfl⟩|⟨u,p,rfl,rfl⟩
  · simp [execOp,hρ x _ hx,hc,eqGuard_nil_constR,run_eql_nil_nil w t hu]
  · simp [execOp,hρ x _ hx,hc,eqGuard,run_eql_held_nil w t u p hu]
end
section
variable{P:Program}{TT:qaM}{D n:Nat}{Q:qbs}{fr:Fr}{L:Hl}{s:World}
inductive SufO(ks:List Nat)(fr:Fr):Fr→Prop
 | refl:SufO ks fr fr
 | push {d:Nat} {v:Value} {fr':Fr} (hd:((qaS fr d).isNone || ks.any (Nat.beq d))=true) (h:SufO ks fr fr'):SufO ks fr ((d,v)::fr')
def So{p:Prop}(h:p:=by repeat (first|exact SufO.refl|refine SufO.push rfl ?_)):p:=h
def SufO.at_{ks:List Nat}{fr:Fr}(h:SufO ks fr fr')(ht:ks.any (Nat.beq t)=false)(hv:qaS fr t=some v):qaS fr' t=some v:=by
 induction h with
 | refl=>exact hv
 | @push d u fr' hd _ ih=>
  rw [qa9];by_cases he:d=t
  · subst he;rw [hv,ht] at hd;cases hd
  · rw [if_neg he];exact ih
def qm2{l:Fr}(h:qaS l t=none):(l.map (·.1)).any (Nat.beq t)=false:=by
  induction l with
  | nil=>rfl
  | cons x l ih=>
    obtain ⟨d,v⟩:=x;rw [qa9] at h;by_cases he:d=t
    · rw [if_pos he] at h;cases h
    · rw [if_neg he] at h
      simp only [List.map_cons,List.any_cons,ih h,Bool.or_false];cases hb:Nat.beq t d with
      | false=>rfl
      | true=>exact absurd (Nat.eq_of_beq_eq_true hb).symm he
def qCR{new fr:Fr}(h1:Keeps fr' new)(h2:SufO (new.map (·.1)) fr fr'):Keeps fr' (new++fr):=by
 intro t v h;rw [qjT] at h;cases hn:qaS new t with
 | none=>rw [hn] at h;exact h2.at_ (qm2 hn) h
 | some u=>rw [hn] at h;exact h1 t v (by rw [hn];exact h)
def MidG{γ:Type}(D:Nat)(s:World)(fr:Fr)(new:γ→Fr)(X:Hl)(H:γ→Hl)(I:γ→World→Prop):Fr→Hl→World→Prop:=fun fr' L' s'=>∃ g A,Le D s s'∧L'.Perm (A++(X++H g))∧I g s'∧Keeps fr' (new g++fr)
def MidG.mk{γ:Type}{new:γ→Fr}{X:Hl}{H:γ→Hl}{I:γ→World→Prop}{L':Hl}(g:γ)(A:Hl)(hl:Le D s s')(hK:Keeps fr' (new g))(hS:SufO ((new g).map (·.1)) fr fr')(hp:L'.Perm (A++(X++H g)))(hI:I g s'):MidG D s fr new X H I fr' L' s':=⟨g,A,hl,hp,hI,qCR hK hS⟩
def qd6{γ:Type}{x y:Code}(new:γ→Fr)(X:Hl){Y:Hl}(_hX:L=X++Y)(H:γ→Hl)(I:γ→World→Prop)(mono:∀ g s s',I g s→Le D s s'→I g s')(h1:JC P TT D n (qaJ (MidG D s fr new X H I) Q) x fr L s)
  (h2:∀ g s',Le D s s'→I g s'→JC P TT D n Q y (new g++fr) (X++H g) s'):JC P TT D n Q (.seq x y) fr L s:=fun ht a hr ho=>
 wp_seq (wp_mono (h1 ht a hr ho) fun e a w ⟨fr',L',s',k1,k2,k3,k4⟩=>by
  cases e with
  | normal=>
   exact qEt
  | _=>exact ⟨fr',L',s',k1,k2,k3,k4⟩)
end
def qe8{p q:Prop}[Decidable p][Decidable q](h:p↔¬ q):(!decide q)=decide p:=by grind
def Kb{p:Prop}(h:p:=by first|rfl|exact congrArg (fun b=>some (Value.bool b)) (decide_eq_true Og).symm|exact congrArg (fun b=>some (Value.bool b)) (decide_eq_false Og).symm|exact congrArg (fun b=>some (Value.bool b)) (decide_eq_decide.2 Og)|exact congrArg (fun b=>some (Value.bool b)) (qe8 Og)):p:=h
def AC.perm{P:Program}{D:Nat}{f:FuncId}{L L1:Hl}{s:World}(hp:L.Perm L1)(h:AC P D f args L1 s R)(hq:∀ v L1' s',R v L1' s'→∃ L',L1'.Perm L'∧R' v L' s'):AC P D f args L s R':=
 ⟨h.1,fun ho=>by
  rw [qa5 hp _ ho];refine (h.2 (ho.perm hp)).mono ?_;rintro e w' ⟨v,L1',s',he,hw,hok,hl,hr⟩;obtain ⟨L',h1,h2⟩:=hq v L1' s' hr;exact ⟨v,L',s',he,by rw [hw,qa5 h1 _ hok],hok.perm h1,hl,h2⟩⟩
variable{P:Program}{TT:qaM}{D n:Nat}{Q:qbs}{fr:Fr}{L:Hl}{s:World}{ops:Array Oper}{rest:List Oper}{d ty:Nat}{pos:String}{af:Array Edge}
def CellsAt.nth{b:Nat}{l:List Value}(h:CellsAt s b 0 l)(hj:l[j]?=some v):CellsAt s b (0+j) [v]:=fun i u hi=>by
 cases i with
 | zero=>simp at hi;subst hi;exact h j v hj
 | succ i=>simp at hi
def qlX{L:Hl}{s:World}(nd:(L.map (·.1)).Nodup){b:Nat}{o:Obj}(hb:b < s.heap.size)(hx:(b,o)∈L):(fill L s).heap[b]?=some o:=by
  induction L with
  | nil=>cases hx
  | cons x L ih=>
    simp only [List.map_cons,List.nodup_cons] at nd;rcases List.mem_cons.1 hx with rfl|hx
    · rw [fill];exact qdk _ (by rw [qaF];exact hb)
    · rw [fill,qbT]
      · exact ih nd.2 hx
      · intro e;exact nd.1 (by rw [e];exact List.mem_map.2 ⟨_,hx,rfl⟩)
def AC.lend{P:Program}{D:Nat}{f:FuncId}{L:Hl}{s:World}{R:Value→Prop}(M:Hl)(hM:∀ x∈M,x.2≠dum D)(hf:qil P f)(h:OKL D M s→AC P D f args L (fill M s) (fun v L' _=>R v∧L=L')):
    AC P D f args (M++L) s (fun v L' _=>R v∧M++L=L'):=by
  refine ⟨hf,fun ho=>?_⟩;have hoM:OKL D M s:=ho.left;have hp:(M++L).Perm (L++M):=List.perm_append_comm;have hnd:=ho.nd;rw [List.map_append,List.nodup_append] at hnd;have hdis:∀ x∈L,x.1 ∉ M.map (·.1):=fun x hx hm=>hnd.2.2 _ hm _ (List.mem_map.2 ⟨x,hx,rfl⟩) rfl;have e:fill (M++L) s=fill L (fill M s):=by rw [qa5 hp _ ho,qe1]
  have ho3:OKL D L (fill M s):=⟨ho.right.nd,fun x hx=>by rw [qbk (hdis x hx)];exact ho.right.dm x hx⟩;rw [e];refine ((h hoM).2 ho3).mono ?_;rintro en w' ⟨v,L1,s1,h1,rfl,h3,h4,h6,rfl⟩;have hlt:∀ x∈M,x.1 < s.heap.size:=fun x hx=>hoM.lt hx;have hsz:s.heap.size≤s1.heap.size:=by have:=h4.size;rwa [qaF] at this
  have hs1:∀ x∈M,s1.heap[x.1]?=some x.2:=fun x hx=>by
    have hm:=qa3 hoM (b:=x.1) (o:=x.2) hx;rcases h4.block x.1 (by rw [qaF];exact hlt x hx) with hd|hd
    · rw [hm] at hd;exact absurd (Option.some.inj hd) (hM x hx)
    · rw [hd,hm]
  have hk:(M.map fun x=>(x.1,dum D)).map (·.1)=M.map (·.1):=by rw [List.map_map];rfl
  have ho4:OKL D (M++L) (fill (M.map fun x=>(x.1,dum D)) s1):=⟨ho.nd,fun x hx=>by
    rcases List.mem_append.1 hx with hx|hx
    · exact qlX (by rw [hk];exact hnd.1) (Nat.lt_of_lt_of_le (hlt x hx) hsz) (List.mem_map.2 ⟨x,hx,rfl⟩)
    · rw [qbk (by rw [hk];exact hdis x hx)];exact h3.dm x hx⟩
  have hw:fill M (fill (M.map fun x=>(x.1,dum D)) s1)=s1:=by
    refine qdA (qdv fun k=>?_) ?_ ?_ ?_ ?_
    · by_cases hm:k∈M.map (·.1)
      · obtain ⟨x,hx,rfl⟩:=List.mem_map.1 hm
        rw [qlX (o:=x.2) hnd.1 (by rw [qaF];exact Nat.lt_of_lt_of_le (hlt x hx) hsz) hx,hs1 x hx]
      · rw [qbk hm,qbk (by rw [hk];exact hm)]
    · rw [qbR,qbR]
    · rw [qc5,qc5]
    · rw [qdd,qdd]
    · rw [qbv,qbv]
  refine ⟨v,M++L,fill (M.map fun x=>(x.1,dum D)) s1,h1,?_,ho4,?_,h6,Z⟩
  · rw [qa5 hp _ ho4,qe1,hw]
  · refine ⟨?_,?_,?_,?_,fun k hk1=>?_⟩
    · rw [qdd,h4.os,qdd]
    · rw [qbR,h4.tape,qbR]
    · rw [qbv,h4.output,qbv]
    · rw [qaF];exact hsz
    · by_cases hm:k∈M.map (·.1)
      · obtain ⟨x,hx,rfl⟩:=List.mem_map.1 hm
        exact .inl (hoM.dm x hx)
      · rw [qbk (by rw [hk];exact hm)]
        have:=h4.block k (by rw [qaF];exact hk1);rw [qbk hm] at this;exact this
def AC.ok{P:Program}{D:Nat}{f:FuncId}{L:Hl}{s:World}(h:AC P D f args L s R):qil P f:=h.1
def qyG{D:Nat}{M:Hl}{s:World}(h:OKL D M s):Pub M (fill M s):=fun b zs t hm j u hj=>by
 rw [qc2 h hm,Nat.zero_add];exact hj
def qDa{sz:Nat}{M:Hl}{n:Nat}{xs:List Value}(h:FL.Own e sz M v n xs){D:Nat}:∀ x∈M,x.2≠dum D:=by
 cases h with
 | nil=>intro x hx;cases hx
 | blk b cap n xs ys _ _ _ _=>
  intro x hx;rw [List.mem_singleton] at hx;subst hx;intro e;cases e
end Go.FL
namespace Go.Proofs.YtlfiplbamnpgoaaGreatDoor
open Go.FL
attribute [local irreducible] JC JO JA JB qaJ qax qbN AC fill CellsAt QE Ev Mid
variable(D:Nat)(L:Hl)(s:World){l:List Int}{t:Tab}{i:List UInt8}
def qco(t:Tab)(l:List Int)(i:List UInt8):Mst:=⟨l++List.replicate (t.cells.toNat - l.length) 0,0,0,0,0,0,i,[],0,0⟩
def qb0(t:Tab)(l:List Int)(i:List UInt8):Mst×Int×Int:=if (qaP t l i).1≠0 then (qhy,(qaP t l i).1,(qaP t l i).2) else (qco t l i,0,0)
def qhv{s:World}{bc N:Nat}(hp:CellsAt s bc 0 (wv l++(List.replicate N (Value.int .u32 0)).drop l.length))(hu:∀ x∈l,U32 x)(h:l.length≤N)(hN:N≤65536):Wds s (some ⟨bc,0,none⟩) N N (l++List.replicate (N - l.length) 0):=by
 have e:wv l++(List.replicate N (Value.int .u32 0)).drop l.length=wv (l++List.replicate (N - l.length) 0)++[]:=by simp [wv]
 rw [e] at hp;have hl:(l++List.replicate (N - l.length) 0).length=N:=by simp;omega
 have:=qqG (cc:=N) hp (fun x hx=>by
  rcases List.mem_append.1 hx with h1|h1
  · exact hu x h1
  · obtain ⟨_,rfl⟩:=List.mem_replicate.1 h1;exact qby) (by rw [hl];simp) O
 rwa [hl] at this
def qqo(h:(qaG t).1≠0):qb0 t l i=(qhy,(qaG t).1,(qaG t).2):=by simp [qb0,qaP,h]
def qnq(h:(qaG t).1=0)(h1:t.cells < (l.length:Int)):qb0 t l i=(qhy,3,-2):=by simp [qb0,qaP,h,h1]
def qtc(h:(qaG t).1=0)(h1:¬ t.cells < (l.length:Int))(h2:400000 < i.length):qb0 t l i=(qhy,3,-3):=by simp [qb0,qaP,h,h1,h2]
def qiY(h:(qaG t).1=0)(h1:¬ t.cells < (l.length:Int))(h2:¬ 400000 < i.length):qb0 t l i=(qco t l i,0,0):=by simp [qb0,qaP,h,h1,h2]
def qvX(h:(qaP t l i).1≠0):qb0 t l i=(qhy,(qaP t l i).1,(qaP t l i).2):=by simp [qb0,h]
def qDp(h:(qaP t l i).1=0):qb0 t l i=(qco t l i,0,0):=by simp [qb0,h]
def qyU(h:(qaP t l i).1=0):(qaG t).1=0∧(l.length:Int)≤t.cells∧i.length≤400000:=by
 unfold qaP at h;split at h
 · contradiction
 split at h
 · exact absurd h Dc
 split at h
 · exact absurd h Dc
 rename_i h1 h2 h3;exact ⟨by simpa using h1,by omega,by omega⟩
def qnp(hG:TabG t)(hl:(l.length:Int)≤t.cells)(hi:i.length≤400000)(hu:∀ x∈l,U32 x):MOK (qco t l i)∧SOK (qco t l i)∧((qco t l i).cells.length:Int)=t.cells:=by
 have:=hG.cells;have hlen:(qco t l i).cells.length=t.cells.toNat:=by simp [qco];omega
 refine ⟨⟨by omega,fun x hx=>?_,qby,qby,qby,qby,qby,by simp [qco],hi,qby⟩,⟨⟨by simp [qco],by simp [qco]⟩,fun h=>absurd Z h⟩,by omega⟩;rcases List.mem_append.1 hx with h1|h1
 · exact hu x h1
 · obtain ⟨_,rfl⟩:=List.mem_replicate.1 h1;exact qby
def qDA(t:Tab)(l:List Int)(i:List UInt8):MU (qb0 t l i).1:=by
 unfold qb0;split
 · exact qF5
 · constructor<;>exact qby
def Cz18{p:Prop} (h:p:=by
 refine ⟨[_,_,_,_,_,_],Z,fun s2 hs2 hp=>?_⟩;rw [qiY hst0 hlong hin];have hw:=qhv (hp bc (wv l++(List.replicate N (Value.int .u32 0)).drop l.length) 34 (by simp)) hu O O;have hNN:t.cells.toNat=N:=by omega
 rw [← hNN] at hw;exact ⟨_,⟨_,_,_,_,_,_,_,_,_,by rw [← hNN];rfl,hw,hBi.le (h12.t (hS2.t hs2)),Bts.nil _ none 0 O⟩,rfl⟩):p:=h
def Cz19{p:Prop} (h:p:=by
 refine ⟨[_,_,_,_,_,_],Z,fun s2 hs2 hp=>?_⟩;rw [qiY hst0 hlong hin];have hw:=qhv (hp bc (wv l++(List.replicate N (Value.int .u32 0)).drop l.length) 34 (by simp)) hu O O;have hNN:t.cells.toNat=N:=by omega
 rw [← hNN] at hw;exact ⟨_,⟨_,_,_,_,_,_,_,_,_,by rw [← hNN];rfl,hw,hBi.le ((Lr D).t (hS2.t hs2)),Bts.nil _ none 0 O⟩,rfl⟩):p:=h
def Cz20{p:Prop} (h:p:=by
 refine ⟨[_,_,_,_,_,_],Z,fun s2 hs2 hp=>?_⟩;rw [qiY hst0 hlong hin];have hw:=qhv (hp bc (wv l++(List.replicate N (Value.int .u32 0)).drop l.length) 34 (by simp)) hu O O;have hNN:t.cells.toNat=N:=by omega
 rw [← hNN] at hw;exact ⟨_,⟨_,_,_,_,_,_,_,_,_,by rw [← hNN];rfl,hw,hBi.le (h11.t h12|>.t (hS2.t hs2)),Bts.nil _ none 0 O⟩,rfl⟩):p:=h
def Ez51{p:Prop} (h:p:=by
 exact rR [] _ (.agg (us:=[_,_,_,_,_,_,_,_,_,_]) 4 Z Z Z Z Z (.agg (us:=[_,_]) 3 Z Z Z Z Z (.nil))) Z (h1.t h2|>.t h3|>.t h4|>.t h5|>.t h9|>.t h10|>.t h11|>.t h12) fun _ hS2=>Cz20):p:=h
def Ez50{p:Prop} (h:p:=by
 exact rR [] _ (.agg (us:=[_,_,_,_,_,_,_,_,_,_]) 4 Z Z Z Z Z (.agg (us:=[_,_]) 3 Z Z Z Z Z (.nil))) Z (h1.t h2|>.t h3|>.t h4|>.t h5|>.t h9|>.t h10|>.t h11|>.t h12) fun _ hS2=>Cz18):p:=h
def Ez34{p:Prop} (h:p:=by
 refine X23 ?_;exact rR [] _ (.agg (us:=[_,_,_,_,_,_,_,_,_,_]) 4 Z Z Z Z Z (.agg (us:=[_,_]) 3 Z Z Z Z Z (.nil))) Z (h1.t h2|>.t h3|>.t h4|>.t h5|>.t h9|>.t h10|>.t h11|>.t h12) fun _ hS2=>Cz19):p:=h
def qqn(t:Tab)(A:Option Addr)(n c:Nat)(hA:Inss s A n c t.ins)(A1:Option Addr)(n1 c1:Nat)(l:List Int)(hIm:Wds s A1 n1 c1 l)(A2:Option Addr)(n2 c2:Nat)(i:List UInt8)(hIn:Bts s A2 n2 c2 i):AC Tryz.prog D 21 [.agg #[.int .i64 t.cells,.slice A n c],.slice A1 n1 c1,.slice A2 n2 c2] L s fun v L' s'=>∃ M',L'=M'++L∧∀ s2,Le D s' s2→Pub M' s2→∃ vs,StW s2 (qb0 t l i).1 vs∧v=.tuple #[vs,.agg #[.int .i64 (qb0 t l i).2.1,.int .i64 (qb0 t l i).2.2]]:=by
 obtain rfl:=hIm.1;have hn2:=hIn.1;have hF:=qiZ t;have hu:=hIm.u32;refine qad (fn:=Tryz.f21) qao Tryz.func21 V Z Tryz.ntmps21 Z (rs:=[.cell 6 74,.cell 7 30]) Z [(0,_),(1,_),(2,_)] Z<|Sr<|qar Z Z fun β1 s1 h1=>qac Z [_,_,_,_,_,_,_,_,_,_] Z Z fun β2 s2 h2=>qac Z [_,_] Z Z fun β3 s3 h3=>Nt<|Zs<|Sr<|qae (qaj 2 [_,_] Z Z Z Z Z) Z<|Je Z Z Z (qfa D _ _ _ _ _ _ (hA.le (h1.t h2|>.t h3))) fun s4 h4=>qac Z [_,_] Z Z fun β5 s5 h5=>Wt 0 [_,_] Y9<|Nt<|Sr<|qae (qaj 0 [_,_] Z Z Z Z Z) Z<|qae (qai [] [_,_] Z Z Z Z Z Z) Z<|qae (qcU Z Z (qb3 _ _ _ _)) Z<|G2 ?_;have e5:=h1.t h2|>.t h3|>.t h4|>.t h5;refine qaR Z ?_ ?_<;>intro c6;·have hbad:(qaG t).1≠0:=fun h=>c6 ⟨h,hF h⟩;refine Zs<|qaU qab 4 Z [2,1] Q3 fun s7 h7=>za 0 Z (qai [] [_,_,_,_,_,_,_,_,_,_] Z Z Z Z Z Z) Z<|za 1 Z (qaj 0 [_,_] Z Z Z Z Z) Z<|qaq 2 V<|Wu Z Tt 2 [_,_,_,_,_,_,_,_,_,_] Y9 (sM (sbY (sbN (sbY (sbE _)))))<|qaq 3 V<|Wu Z Tt 1 [_,_] Y9 (sM (sbY (sbN (sbY (sbE _)))))<|qah V<|G3 ?_;refine rR [] _ (.agg (us:=[_,_,_,_,_,_,_,_,_,_]) 2 Z Z Z Z Z (.agg (us:=[_,_]) 1 Z Z Z Z Z (.nil))) Z (e5.t h7) fun _ hS2=>?_;refine ⟨[_,_,_,_],Z,fun s2 hs2 hp=>?_⟩;rw [qqo hbad];exact ⟨_,StW.zero _,rfl⟩
 have hst0:(qaG t).1=0:=c6.1;have hG:=qEc hA hst0;have hcl:=hG.cells;obtain ⟨N,hN⟩:=Int.eq_ofNat_of_zero_le (show 0≤t.cells by omega);refine G8 ?_;refine Wl 3 Y6<|J3 ?_ ?_<;>intro c7;·have hlong:t.cells < (l.length:Int):=c7;refine Sr<|qae (qai [] [_,_,_,_,_,_,_,_,_,_] Z Z Z Z Z Z) Z<|Je Z Z Z (qbE D _ _ _ _) fun s8 h8=>Wt 2 [_,_,_,_,_,_,_,_,_,_] Y9<|Wt 1 [_,_] Y9<|G4 ?_;refine rR [] _ (.agg (us:=[_,_,_,_,_,_,_,_,_,_]) 2 Z Z Z Z Z (.agg (us:=[_,_]) 1 Z Z Z Z Z (.nil))) Z (e5.t h8) fun _ hS2=>?_;refine ⟨[_,_,_,_],Z,fun s2 hs2 hp=>?_⟩;rw [qnq hst0 hlong];exact ⟨_,StW.zero _,rfl⟩
 have hlong:¬ t.cells < (l.length:Int):=c7;refine J10 ?_ ?_<;>intro c8
 ·have hin:400000 < i.length:=by omega
  refine Sr<|qae (qai [] [_,_,_,_,_,_,_,_,_,_] Z Z Z Z Z Z) Z<|Je Z Z Z (qbE D _ _ _ _) fun s9 h9=>Wt 2 [_,_,_,_,_,_,_,_,_,_] Y9<|Wt 1 [_,_] Y9<|G4 ?_;refine rR [] _ (.agg (us:=[_,_,_,_,_,_,_,_,_,_]) 2 Z Z Z Z Z (.agg (us:=[_,_]) 1 Z Z Z Z Z (.nil))) Z (e5.t h9) fun _ hS2=>?_;refine ⟨[_,_,_,_],Z,fun s2 hs2 hp=>?_⟩;rw [qtc hst0 hlong hin];exact ⟨_,StW.zero _,rfl⟩
 have hin:¬ 400000 < i.length:=by omega
 refine Zk<|Zt<|Zs<|qaL qab 8 Z _ (fun _ h=>h) fun s9 h9=>H1 ?_;refine za 1 Z (qaC (Wd 3 Y5) (congrArg (Value.int .i64) hN)) Z<|H1 ?_;have e9:=e5.t h9;refine qBc 2 4 6 V ?_ ?_ ?_
 ·refine qhA Z Tt Z Z Z Z Z Q10 O Z fun bc s10 h10=>qdB 4 6 V ?_ ?_;·refine Jb Z Tt Z Z Z (AC.pub (qaX D _ _ _ _ _ _ (hIn.le (e9.t h10)) O)) ?_;rintro _ _ s11 h11 ⟨rfl,Mi,swi,⟨Ai1,ci1,rfl,_,_,hOi⟩,hswi,hcwi⟩;refine ⟨fun _ _ h=>h,?_⟩;have hBi:=Own.bts hOi hcwi;refine za 5 Z (qai [(_,_),(_,_)] [_,_,_,_,_,_,_,_,_,_] Z Z Z Z Z Z) Z<|qaq 6 V<|qaK Z Tt Z [_,_,_,_,_,_,_,_,_,_] Z Z fun β12 s12 h12=>qaq 7 V<|Wu Z Tt 0 [_,_,_,_,_,_,_,_,_,_] Y9 (sM (sbN (qkG (sbE _))))<|qah V<|G6 ?_;refine qeU 1 Z Z Z Z Z Z Z (hIm.row.le (e9.t h10|>.t h11|>.t h12)) O (by simp) Z Z<|Nt<|Sr<|qae (qaj 0 [_,_,_,_,_,_,_,_,_,_] Z Z Z Z Z) Z<|qae (qai [] [_,_] Z Z Z Z Z Z) Z<|Wt 4 [_,_,_,_,_,_,_,_,_,_] Y9<|Wt 3 [_,_] Y9 ?_;refine G3 ?_;exact Ez50
  refine qaK Z Tt Z [_,_,_,_,_,_,_,_,_,_] Z Z fun β11 s11 h11=>qaq 4 V<|Jb Z Tt Z Z Z (AC.pub (qaX D _ _ _ _ _ _ (hIn.le (e9.t h10|>.t h11)) O)) ?_;rintro _ _ s12 h12 ⟨rfl,Mi,swi,⟨Ai1,ci1,rfl,_,_,hOi⟩,hswi,hcwi⟩;refine ⟨fun _ _ h=>h,?_⟩;have hBi:=Own.bts hOi hcwi;refine za 5 Z (qai [(_,_),(_,_)] [_,_,_,_,_,_,_,_,_,_] Z Z Z Z Z Z) Z<|qaq 7 V<|Wu Z Tt 0 [_,_,_,_,_,_,_,_,_,_] Y9 (sM (sbN (qkG (sbE _))))<|qah V<|G6 ?_;refine qeU 1 Z Z Z Z Z Z Z (hIm.row.le (e9.t h10|>.t h11|>.t h12)) O (by simp) Z Z<|Nt<|Sr<|qae (qaj 0 [_,_,_,_,_,_,_,_,_,_] Z Z Z Z Z) Z<|qae (qai [] [_,_] Z Z Z Z Z Z) Z ?_;exact Ez34
 ·refine Jb Z Tt Z Z Z (AC.pub (qaX D _ _ _ _ _ _ (hIn.le e9) O)) ?_;rintro _ _ s10 h10 ⟨rfl,Mi,swi,⟨Ai1,ci1,rfl,_,_,hOi⟩,hswi,hcwi⟩;refine ⟨fun _ _ h=>h,?_⟩;have hBi:=Own.bts hOi hcwi;refine qdB 2 6 V ?_ ?_;·refine qhA Z Tt Z Z Z Z Z Q10 O Z fun bc s11 h11=>za 5 Z (qai [(_,_),(_,_)] [_,_,_,_,_,_,_,_,_,_] Z Z Z Z Z Z) Z<|qaq 6 V<|qaK Z Tt Z [_,_,_,_,_,_,_,_,_,_] Z Z fun β12 s12 h12=>qaq 7 V<|Wu Z Tt 0 [_,_,_,_,_,_,_,_,_,_] Y9 (sM (sbN (qkG (sbE _))))<|qah V<|G6 ?_;refine qeU 1 Z Z Z Z Z Z Z (hIm.row.le (e9.t h10|>.t h11|>.t h12)) O (by simp) Z Z<|Nt<|Sr<|qae (qaj 0 [_,_,_,_,_,_,_,_,_,_] Z Z Z Z Z) Z<|qae (qai [] [_,_] Z Z Z Z Z Z) Z<|Wt 4 [_,_,_,_,_,_,_,_,_,_] Y9<|Wt 3 [_,_] Y9 ?_;refine G3 ?_;exact Ez51
  refine qaK Z Tt Z [_,_,_,_,_,_,_,_,_,_] Z Z fun β11 s11 h11=>qaq 2 V<|qhA Z Tt Z Z Z Z Z Q10 O Z fun bc s12 h12=>za 5 Z (qai [(_,_),(_,_)] [_,_,_,_,_,_,_,_,_,_] Z Z Z Z Z Z) Z<|qaq 7 V<|Wu Z Tt 1 [_,_,_,_,_,_,_,_,_,_] Y9 (sM (sbN (qkG (sbE _))))<|qah V<|G6 ?_;refine qeU 0 Z Z Z Z Z Z Z (hIm.row.le (e9.t h10|>.t h11|>.t h12)) O (by simp) Z Z<|Nt<|Sr<|qae (qaj 1 [_,_,_,_,_,_,_,_,_,_] Z Z Z Z Z) Z<|qae (qai [] [_,_] Z Z Z Z Z Z) Z ?_;refine X23 ?_;exact Ez51
 refine qaK Z Tt Z [_,_,_,_,_,_,_,_,_,_] Z Z fun β10 s10 h10=>qdB 2 4 V ?_ ?_;·refine qhA Z Tt Z Z Z Z Z Q10 O Z fun bc s11 h11=>qaq 4 V<|Jb Z Tt Z Z Z (AC.pub (qaX D _ _ _ _ _ _ (hIn.le (e9.t h10|>.t h11)) O)) ?_;rintro _ _ s12 h12 ⟨rfl,Mi,swi,⟨Ai1,ci1,rfl,_,_,hOi⟩,hswi,hcwi⟩;refine ⟨fun _ _ h=>h,?_⟩;have hBi:=Own.bts hOi hcwi;refine za 5 Z (qai [(_,_),(_,_)] [_,_,_,_,_,_,_,_,_,_] Z Z Z Z Z Z) Z<|qaq 7 V<|Wu Z Tt 1 [_,_,_,_,_,_,_,_,_,_] Y9 (sM (sbN (qkG (sbE _))))<|qah V<|G6 ?_;refine qeU 0 Z Z Z Z Z Z Z (hIm.row.le (e9.t h10|>.t h11|>.t h12)) O (by simp) Z Z<|Nt<|Sr<|qae (qaj 1 [_,_,_,_,_,_,_,_,_,_] Z Z Z Z Z) Z<|qae (qai [] [_,_] Z Z Z Z Z Z) Z ?_;exact Ez34
 refine Jb Z Tt Z Z Z (AC.pub (qaX D _ _ _ _ _ _ (hIn.le (e9.t h10)) O)) ?_;rintro _ _ s11 h11 ⟨rfl,Mi,swi,⟨Ai1,ci1,rfl,_,_,hOi⟩,hswi,hcwi⟩;refine ⟨fun _ _ h=>h,?_⟩;have hBi:=Own.bts hOi hcwi;refine qaq 2 V<|qhA Z Tt Z Z Z Z Z Q10 O Z fun bc s12 h12=>za 5 Z (qai [(_,_),(_,_)] [_,_,_,_,_,_,_,_,_,_] Z Z Z Z Z Z) Z<|qaq 7 V<|Wu Z Tt 1 [_,_,_,_,_,_,_,_,_,_] Y9 (sM (sbN (qkG (sbE _))))<|qah V<|G6 ?_;refine qeU 0 Z Z Z Z Z Z Z (hIm.row.le (e9.t h10|>.t h11|>.t h12)) O (by simp) Z Z<|Nt<|Sr<|qae (qaj 1 [_,_,_,_,_,_,_,_,_,_] Z Z Z Z Z) Z<|qae (qai [] [_,_] Z Z Z Z Z Z) Z ?_;refine X23 ?_;exact Ez50
def qDk(t:Tab)(A:Option Addr)(n c:Nat)(hA:Inss s A n c t.ins)(m:Mst)(Ax Bx Ox:Option Addr)(nAx cAx nBx cBx nOx cOx:Nat)(hAx:Wds s Ax nAx cAx m.cells)(hBx:Bts s Bx nBx cBx m.input)(hOx:Bts s Ox nOx cOx m.output)(hU:MU m)(k:Int):AC Tryz.prog D 23 [.agg #[.int .i64 t.cells,.slice A n c],.agg #[.slice Ax nAx cAx,.int .u32 m.r0,.int .u32 m.r1,.int .u32 m.r2,.int .u32 m.r3,.int .u32 m.r4,.slice Bx nBx cBx,.slice Ox nOx cOx,.int .i64 m.stop,.int .u32 m.code],.int .i64 k] L s fun v L' s'=>L=L'∧∃ vs,StW s' (qll t m k).1 vs∧v=.tuple #[vs,.int .i64 (qll t m k).2.1,.agg #[.int .i64 (qll t m k).2.2.1,.int .i64 (qll t m k).2.2.2]]:=AC.pubW (qyJ D L s t A n c hA m Ax Bx Ox nAx cAx nBx cBx nOx cOx hAx hBx hOx hU k)
def qtb(t:Tab)(A:Option Addr)(n c:Nat)(hA:Inss s A n c t.ins)(A1:Option Addr)(n1 c1:Nat)(l:List Int)(hIm:Wds s A1 n1 c1 l)(A2:Option Addr)(n2 c2:Nat)(i:List UInt8)(hIn:Bts s A2 n2 c2 i):AC Tryz.prog D 21 [.agg #[.int .i64 t.cells,.slice A n c],.slice A1 n1 c1,.slice A2 n2 c2] L s fun v L' s'=>L=L'∧∃ vs,StW s' (qb0 t l i).1 vs∧v=.tuple #[vs,.agg #[.int .i64 (qb0 t l i).2.1,.int .i64 (qb0 t l i).2.2]]:=AC.pubW (qqn D L s t A n c hA A1 n1 c1 l hIm A2 n2 c2 i hIn)
def qjO(t:Tab)(l:List Int)(i:List UInt8)(k:Int):List UInt8×Int×Int×Int:=((qd4 t (qco t l i) k.toNat).1.output,(qd4 t (qco t l i) k.toNat).1.stop,(qd4 t (qco t l i) k.toNat).1.code,((qd4 t (qco t l i) k.toNat).2:Int))
def qdI(t:Tab)(l:List Int)(i:List UInt8)(k:Int):(List UInt8×Int×Int×Int)×Int×Int:=
 if (qaP t l i).1≠0 then (([],0,0,0),qaP t l i) else if k < 0∨50000000 < k then (([],0,0,0),4,-4) else (qjO t l i k,0,0)
def OutW(s:World)(o:List UInt8×Int×Int×Int)(v:Value):Prop:=∃ A n c,v=.agg #[.slice A n c,.int .i64 o.2.1,.int .u32 o.2.2.1,.int .i64 o.2.2.2]∧Bts s A n c o.1
def OutW.zero(s:World):OutW s ([],0,0,0) (.agg #[.slice none 0 0,.int .i64 0,.int .u32 0,.int .i64 0]):=⟨none,0,0,rfl,Bts.nil _ _ _ O⟩
def qqp{s:World}{A A1:Option Addr}{n c n1 c1:Nat}(hA:Inss s A n c t.ins)(h1:Wds s A1 n1 c1 l)(h:(qaP t l i).1=0){k:Int}(hk:¬ (k < 0∨50000000 < k)):
  qll t (qb0 t l i).1 k=((qd4 t (qco t l i) k.toNat).1,((qd4 t (qco t l i) k.toNat).2:Int),0,0):=by
 obtain ⟨h0,h2,h3⟩:=qyU h;obtain ⟨k1,k2,k3⟩:=qnp (qEc hA h0) h2 h3 h1.u32;rw [qDp h,qp4 (by rw [qy6 h0 k1 k2 k3]) hk]
def Cz21{p:Prop} (h:p:=by
 rw [show qdI t l i k=(([],0,0,0),4,-4) by simp only [qdI];rw [if_neg (by simpa using hsf),if_pos hfar]];exact ⟨rfl,_,OutW.zero _,rfl⟩):p:=h
def qhX(t:Tab)(A:Option Addr)(n c:Nat)(hA:Inss s A n c t.ins)(A1:Option Addr)(n1 c1:Nat)(l:List Int)(hIm:Wds s A1 n1 c1 l)(A2:Option Addr)(n2 c2:Nat)(i:List UInt8)(hIn:Bts s A2 n2 c2 i)(k:Int):AC Tryz.prog D 9 [.agg #[.int .i64 t.cells,.slice A n c],.slice A1 n1 c1,.slice A2 n2 c2,.int .i64 k] L s fun v L' s'=>L=L'∧∃ vs,OutW s' (qdI t l i k).1 vs∧v=.tuple #[vs,.agg #[.int .i64 (qdI t l i k).2.1,.int .i64 (qdI t l i k).2.2]]:=by
 refine qad (fn:=Tryz.f9) qao Tryz.func9 V Z Tryz.ntmps9 Z (rs:=[.cell 8 36,.cell 9 30]) Z [(0,_),(1,_),(2,_),(3,_)] Z<|Sr<|qar Z Z fun β1 s1 h1=>qac Z [_,_,_,_] Z Z fun β2 s2 h2=>qac Z [_,_] Z Z fun β3 s3 h3=>Nt<|Sr<|qae (qaj 2 [_,_] Z Z Z Z Z) Z<|G2 ?_;refine Jc Z Z Z (qtb D _ _ _ _ _ _ (hA.le (h1.t h2|>.t h3)) _ _ _ _ (hIm.le (h1.t h2|>.t h3)) _ _ _ _ (hIn.le (h1.t h2|>.t h3))) ?_;have e3:=h1.t h2|>.t h3;rintro _ _ s4 h4 ⟨rfl,_,⟨Aa,na,ca,Ba,nBa,cBa,Oa,nOa,cOa,rfl,hAa,hBa,hOa⟩,rfl⟩;have e4:=e3.t h4;refine G3 ?_;refine qac Z [_,_,_,_,_,_,_,_,_,_] Z Z fun β5 s5 h5=>qac Z [_,_] Z Z fun β6 s6 h6=>Wt 1 [_,_,_,_,_,_,_,_,_,_] Y9<|Wt 0 [_,_] Y9<|Nt<|Zs<|Sr<|qae (qaj 0 [_,_] Z Z Z Z Z) Z<|qae (qai [] [_,_] Z Z Z Z Z Z) Z<|qae (qcU Z Z (qb3 _ _ _ _)) Z<|G2 ?_;have e6:=e4.t h5|>.t h6;refine qaR Z ?_ ?_<;>intro c7;·have hbad:(qaP t l i).1≠0:=fun h=>c7 (by rw [qDp h];exact ⟨rfl,rfl⟩);refine Zs<|qaU qab 4 Z [3,2] Q3 fun s8 h8=>za 0 Z (qai [] [_,_,_,_] Z Z Z Z Z Z) Z<|za 1 Z (qaj 0 [_,_] Z Z Z Z Z) Z<|qaq 2 V<|Wu Z Tt 3 [_,_,_,_] Y9 (sM (qgA (sbN (sbY (sbE _)))))<|qaq 3 V<|Wu Z Tt 2 [_,_] Y9 (sM (qgA (sbN (sbY (sbE _)))))<|qah V<|G3 ?_;refine rR [_,_,_,_,_] L (.agg (us:=[_,_,_,_]) 3 Z Z Z Z Z (.agg (us:=[_,_]) 2 Z Z Z Z Z (.nil))) Z (e6.t h8) fun _ hS2=>?_;rw [show qdI t l i k=(([],0,0,0),qaP t l i) by simp only [qdI];rw [if_pos hbad]];exact ⟨rfl,_,OutW.zero _,by rw [qvX hbad];rfl⟩
 have hsf:(qaP t l i).1=0:=by
   by_cases h:(qaP t l i).1=0
   · exact h
   · have hc:=c7.1;rw [qvX h] at hc;exact absurd hc h
 refine G8 ?_;refine qap (t:=28) Z ?_ ?_<;>intro c8
 ·refine G6 ?_;have hfar:k < 0∨50000000 < k:=by omega
  refine Sr<|qae (qai [] [_,_,_,_] Z Z Z Z Z Z) Z<|Je Z Z Z (qbE D _ _ _ _) fun s9 h9=>Wt 3 [_,_,_,_] Y9<|Wt 2 [_,_] Y9<|G4 ?_;exact rR [_,_,_,_,_] L (.agg (us:=[_,_,_,_]) 3 Z Z Z Z Z (.agg (us:=[_,_]) 2 Z Z Z Z Z (.nil))) Z (e6.t h9) fun _ hS2=>Cz21
 refine J7 ?_ ?_<;>intro c9
 ·have hfar:k < 0∨50000000 < k:=by omega
  refine Sr<|qae (qai [] [_,_,_,_] Z Z Z Z Z Z) Z<|Je Z Z Z (qbE D _ _ _ _) fun s10 h10=>Wt 3 [_,_,_,_] Y9<|Wt 2 [_,_] Y9<|G4 ?_;exact rR [_,_,_,_,_] L (.agg (us:=[_,_,_,_]) 3 Z Z Z Z Z (.agg (us:=[_,_]) 2 Z Z Z Z Z (.nil))) Z (e6.t h10) fun _ hS2=>Cz21
 have hin:¬ (k < 0∨50000000 < k):=by omega
 have hrr:=qqp hA hIm hsf hin;refine Zk<|Zt<|Sr<|qae (qaj 4 [_,_] Z Z Z Z Z) Z<|qae (qaj 1 [_,_,_,_,_,_,_,_,_,_] Z Z Z Z Z) Z<|Zqm Z Z<|Jc Z Z Z (qDk D _ _ _ _ _ _ (hA.le e6) (qb0 t l i).1 _ _ _ _ _ _ _ _ _ (hAa.le (h5.t h6)) (hBa.le (h5.t h6)) (hOa.le (h5.t h6)) (qDA _ _ _) k) ?_;rintro _ _ s10 h10 ⟨rfl,_,⟨Ar,nr,cr,Br,nBr,cBr,Or,nOr,cOr,rfl,hAr,hBr,hOr⟩,rfl⟩;refine G4 ?_;refine qac Z [_,_,_,_,_,_,_,_,_,_] Z Z fun β11 s11 h11=>Wt 0 [_,_,_,_,_,_,_,_,_,_] Y9<|Zqa Z Z<|Wt 1 [_,_] Y9<|Nt<|Zs<|Sr<|qae (qaj 1 [_,_] Z Z Z Z Z) Z<|qae (qai [] [_,_] Z Z Z Z Z Z) Z<|qae (qcU Z Z (qb3 _ _ _ _)) Z<|G2 ?_;refine qaR Z ?_ ?_<;>intro c12;·exact absurd (by rw [hrr];exact ⟨rfl,rfl⟩) c12
 refine G11 ?_;refine qae (qai [(_,_),(_,_),(_,_),(_,_)] [_,_,_,_] Z Z Z Z Z Z) Z<|qae (qai [] [_,_] Z Z Z Z Z Z) Z<|Wt 4 [_,_,_,_] Y9<|Wt 3 [_,_] Y9<|G3 ?_;refine rR [_,_,_,_,_,_] L (.agg (us:=[_,_,_,_]) 4 Z Z Z Z Z (.agg (us:=[_,_]) 3 Z Z Z Z Z (.nil))) Z (e6.t h10|>.t h11) fun _ hS2=>?_;rw [show qdI t l i k=(qjO t l i k,0,0) by simp only [qdI];rw [if_neg (by simpa using hsf),if_neg hin]];refine ⟨Z,_,⟨Or,nOr,cOr,?_,?_⟩,Z⟩
 · rw [hrr];rfl
 · rw [hrr] at hOr;exact hOr.le (h11.t hS2)
end Go.Proofs.YtlfiplbamnpgoaaGreatDoor
namespace Go.Proofs.YtlfiplbamnpgoaaGreatDoor
open Go Go.FL
def qcn(c:Int):List UInt8→List UInt8→List (List UInt8)
 | cur,[]=>[cur]
 | cur,x::r=>if (x.toNat:Int)=c then cur::qcn c [] r else qcn c (cur++[x]) r
def splitB(c:Int)(l:List UInt8):List (List UInt8):=qcn c [] l
def qno(c:Int)(cur l:List UInt8):(qcn c cur l).length≤l.length+1:=by
 induction l generalizing cur with
 | nil=>simp [qcn]
 | cons x r ih=>
  simp only [qcn];split
  · simp only [List.length_cons];have:=ih [];omega
  · simp only [List.length_cons];have:=ih (cur++[x]);omega
def qem(c:Int)(cur l:List UInt8):∀ p∈qcn c cur l,p.length≤cur.length+l.length:=by
  induction l generalizing cur with
  | nil=>intro p hp;simp [qcn] at hp;subst hp;simp
  | cons x r ih=>
    intro p hp;simp only [qcn] at hp;split at hp
    · rcases List.mem_cons.1 hp with rfl|hp
      · simp only [List.length_cons];omega
      · have:=ih [] p hp;simp only [List.length_nil,List.length_cons] at this ⊢;omega
    · have:=ih (cur++[x]) p hp;simp only [List.length_append,List.length_cons,List.length_nil] at this ⊢;omega
def sb(l:List (List UInt8)):List Value:=l.map fun x=>St x
def Own.strs{e:Nat}{A:Hl}{Ad:Option Addr}{n c:Nat}{l:List (List UInt8)}{s:World}(h:FL.Own e 1 A (.slice Ad n c) n (sb l))(hu:∀ x∈l,x.length≤9223372036854775807)(hp:Pub A s)(hn:n=l.length):Strs s Ad n c l:=by
 have he:sb l=(l.map fun x=>[St x]).flatten:=by
  clear h hu hn;induction l with
  | nil=>rfl
  | cons x r ih=>simp [sb] at ih ⊢;exact ih
 rw [he] at h;refine Own.rows h hp ?_ hn;clear h he hn;induction l with
 | nil=>exact .nil
 | cons x r ih=>exact .cons ⟨rfl,rfl,hu x Mc⟩ (ih fun y hy=>hu y (List.mem_cons_of_mem _ hy))
def qF3(x:Int):U32 (w32 x):=⟨by unfold w32;omega,by unfold w32;omega⟩
open Go.FL
attribute [local irreducible] JC JO JA JB qaJ qax qbN AC fill CellsAt QE Ev Mid
def qm1(css:List (List Value))(cs:List Value):(css++[cs]).flatten=css.flatten++cs:=by simp
end Go.Proofs.YtlfiplbamnpgoaaGreatDoor
namespace Go.FL
open Go Go.RowKit
section
variable{P:Program}{D:Nat}{L:Hl}{s:World}
def AC.of_calls{f:FuncId}{args:List Value}{R:Value→Hl→World→Prop}(hf:qil P f)
  (h:OKL D L s→Calls P f args.toArray (fill L s) fun e w'=>∃ v,e=.returned v∧Below (fill L s).heap.size (fill L s) w'∧∀ s',w'=fill L s'→Le D s s'→(∀ k,s.heap.size≤k→s'.heap[k]?=w'.heap[k]?)→R v L s'):AC P D f args L s R:=
 ⟨hf,fun ho=>(h ho).mono fun e w' ⟨v,he,hb,hr⟩=>by
  obtain ⟨e1,o1,l1⟩:=qC4 ho hb;refine ⟨v,L,qcF D L w',he,e1,o1,l1,hr _ e1 l1 fun k hk=>qdb fun hm=>?_⟩;obtain ⟨x,hx,rfl⟩:=List.mem_map.1 hm;have:=ho.lt hx;omega⟩
def qc4(w:World):Below w.heap.size w w:=Below.refl _ _
def qnb(l:List Obj):∃ D,∀ E,D≤E→∀ o∈l,o≠dum E:=by
  induction l with
  | nil=>exact ⟨0,fun _ _ _ h=>by cases h⟩
  | cons x l ih=>
    obtain ⟨D,h⟩:=ih;by_cases hx:∃ E,x=dum E
    · obtain ⟨E0,rfl⟩:=hx
      refine ⟨D+E0+1,fun E hE o ho=>?_⟩;rcases List.mem_cons.1 ho with rfl|ho
      · intro e;simp only [dum] at e;injection e;omega
      · exact h E O o ho
    · refine ⟨D,fun E hE o ho=>?_⟩
      rcases List.mem_cons.1 ho with rfl|ho
      · exact fun e=>hx ⟨E,e⟩
      · exact h E hE o ho
def qlg(W:World):∃ D,∀ k:Nat,W.heap[k]?≠some (dum D):=by
 obtain ⟨D,h⟩:=qnb W.heap.toList;refine ⟨D,fun k hk=>h D (Nat.le_refl _) _ ?_ Z⟩;rw [← Array.getElem?_toList] at hk;exact List.mem_of_getElem? hk
def qeY{f:FuncId}{args:List Value}{W:World}{v0:Value}(h:∀ D,AC P D f args [] W fun v L' _=>v=v0∧[]=L') :
  Calls P f args.toArray W fun e w'=>e=.returned v0∧Below W.heap.size W w':=by
 obtain ⟨D,hD⟩:=qlg W;refine ((h D).2 ⟨List.nodup_nil,fun _ h=>by cases h⟩).mono ?_;rintro e w' ⟨v,L',s',he,hw,_,hl,hv,hL⟩;subst hL;have hw':w'=s':=hw;subst hw';refine ⟨by rw [he,hv],⟨hl.os,hl.tape,hl.output,hl.size,fun k hk=>?_⟩⟩;rcases hl.block k hk with h1|h1
 · exact absurd h1 (hD k)
 · exact h1
end
end Go.FL
namespace Go.Proofs.YtlfiplbamnpgoaaGreatDoor
open Go Go.FL Go.RowKit
variable(D:Nat)(L:Hl)(s:World)
def fnd(c:UInt8):List UInt8→Option Nat
 | []=>none
 | x::l=>if x=c then some 0 else (fnd c l).map (·+1)
def qvz:Option Nat→Int
 | none=>-1
 | some i=>(i:Int)
def qvA{c:UInt8}{l:List UInt8}{i:Nat}(h:fnd c l=some i):i < l.length:=by
  induction l generalizing i with
  | nil=>cases h
  | cons x l ih=>
    simp only [fnd] at h;split at h
    · injection h with h;subst h;simp
    · cases h':fnd c l with
      | none=>rw [h'] at h;cases h
      | some j=>rw [h'] at h;simp at h;have:=ih h';simp;omega
def qfr(l:List UInt8)(c:UInt8):Lib.indexByte l c=qvz (fnd c l):=by
  induction l with
  | nil=>rfl
  | cons x l ih=>
    simp only [Lib.indexByte,fnd];by_cases h:x=c
    · simp [h,qvz]
    · simp only [beq_iff_eq,h,if_false,ih]
      cases fnd c l with
      | none=>simp [qvz]
      | some i=>
        have h1:¬ (i:Int)=-1:=by omega
        show (if (i:Int)=-1 then (-1:Int) else (i:Int)+1)=((i+1:Nat):Int);rw [if_neg h1];rfl
def u8_eq{x c:UInt8}:x=c↔(x.toNat:Int)=(c.toNat:Int):=by
 constructor
 · rintro rfl;rfl
 · intro h;exact UInt8.toNat_inj.1 O
def qew(c:UInt8)(l:List UInt8):List UInt8×List UInt8×Bool:=match fnd c l with
 | none=>(l,[],false)
 | some i=>(l.take i,l.drop (i+1),true)
theorem qnn(c:UInt8)(cur l:List UInt8):qcn (c.toNat:Int) cur l=match fnd c l with|none=>[cur++l]|some i=>(cur++l.take i)::splitB (c.toNat:Int) (l.drop (i+1)):=by
  induction l generalizing cur with
  | nil=>simp [qcn,fnd]
  | cons x l ih=>
    simp only [qcn,fnd];by_cases h:x=c
    · simp [h,splitB]
    · have h':¬ (x.toNat:Int)=(c.toNat:Int):=fun e=>h (u8_eq.2 e)
      simp only [h,if_false,h',ih];cases fnd c l with
      | none=>simp
      | some i=>simp
def qf5(c:UInt8)(l:List UInt8):splitB (c.toNat:Int) l=match fnd c l with|none=>[l]|some i=>l.take i::splitB (c.toNat:Int) (l.drop (i+1)):=by grind [splitB,qnn]
def qgW(c:UInt8)(l:List UInt8):l.count c=match fnd c l with|none=>0|some i=>(l.drop (i+1)).count c+1:=by
  induction l with
  | nil=>rfl
  | cons x l ih=>
    simp only [fnd];by_cases h:x=c
    · simp [h]
    · rw [List.count_cons]
      simp only [beq_iff_eq,h,if_false,Nat.add_zero];rw [ih];cases fnd c l with
      | none=>rfl
      | some i=>simp
open Go.Proofs.Tryz
structure GW(s:World):Prop where
 pow:∃ ty fz,s.heap[laysM284_ren.g 17]?=some (.cells (Lib.pow10Tab.map fun z=>Value.int .u64 z).toArray ty fz)
 es:∃ t p,s.cell? ⟨laysPu14_ren.g 0,0,none⟩=some (.iface t p)
 er:∃ t p,s.cell? ⟨laysPu14_ren.g 1,0,none⟩=some (.iface t p)
def qo9{D:Nat}{s s':World}{k:Nat}{cs:Array Value}{ty:TypeId}{fz:Nat×Nat}(h:s.heap[k]?=some (.cells cs ty fz))(hl:Le D s s'):s'.heap[k]?=some (.cells cs ty fz):=by
 have hk:k < s.heap.size:=by
  rcases Nat.lt_or_ge k s.heap.size with h1|h1
  · exact h1
  · rw [Array.getElem?_eq_none h1] at h;cases h
 rcases hl.block k hk with h1|h1
 · rw [h] at h1;simp [dum] at h1
 · rw [h1,h]
def GW.le{D:Nat}{s s':World}(h:GW s)(hl:Le D s s'):GW s':=by
 obtain ⟨⟨t,f,h1⟩,⟨t2,p2,h2⟩,⟨t3,p3,h3⟩⟩:=h;exact ⟨⟨t,f,qo9 h1 hl⟩,⟨t2,p2,hl.cell h2⟩,⟨t3,p3,hl.cell h3⟩⟩
def qv0{w:World}{nm:String}(hg:prog.globalNamed nm=some (laysM284_ren.g 17))(h:GW w):Lib.TabIs prog w nm .u64 Lib.pow10Tab:=by
 obtain ⟨t,f,h1⟩:=h.pow;simp only [Lib.TabIs,World.var?,hg,Option.bind_some,h1]
section
variable(D:Nat)(L:Hl)(s:World)
def qo4:qil prog 61:=⟨_,func61,by kernel_rfl,by kernel_rfl⟩
def qm4:qil prog 217:=⟨_,func217,by kernel_rfl,by kernel_rfl⟩
def qk8:qil prog 145:=⟨_,func145,by kernel_rfl,by kernel_rfl⟩
def qm3:qil prog 183:=⟨_,func183,by kernel_rfl,by kernel_rfl⟩
def qla:qil prog 147:=⟨_,func147,by kernel_rfl,by kernel_rfl⟩
def qye(hG:GW s)(n:Int)(h0:-9223372036854775808≤n)(h1:n≤9223372036854775807):AC prog D 61 [.int .i64 n] L s fun v L' _=>v=St (Lib.itoa n)∧L=L':=
 AC.of_calls qo4 fun ho=>(Any.strconv_Itoa laysM171 n h0 h1 (fill L s) (qv0 laysM171.m17 (hG.le (qe2 ho)))).mono fun e w' ⟨he,k,os,hw⟩=>by
  refine ⟨_,he,?_,fun s' _ _ _=>⟨Z,Z⟩⟩;rw [hw];exact ⟨rfl,rfl,rfl,by simp [Sort.grow],fun j hj=>by simp [Sort.grow,Array.getElem?_append_left hj]⟩
def qse(l:List UInt8)(c:UInt8):AC prog D 183 [St l,St [c]] L s fun v L' _=>v=.int .i64 (qvz (fnd c l))∧L=L':=
 AC.of_calls qm3 fun _=>(Any.stringslite_Index_one lays219 ⟨l.toArray⟩ c (fill L s)).mono fun e w' ⟨he,hw⟩=>by
  refine ⟨_,he,by rw [hw];exact qc4 _,fun s' _ _ _=>⟨?_,Z⟩⟩;show Value.int .i64 (Lib.indexByte l c)=_;rw [qfr]
def qjJ(c:UInt8)(l:List UInt8):Bool:=decide (l.getLast?=some c)
def qns(l:List UInt8)(c:UInt8):Lib.hasSuffix l [c]=qjJ c l:=by
  rw [Lib.hasSuffix,qjJ];rw [Bool.eq_iff_iff,List.isSuffixOf_iff_suffix,decide_eq_true_eq];constructor
  · rintro ⟨t,rfl⟩;simp
  · intro h
    obtain ⟨t,ht⟩:=List.getLast?_eq_some_iff.1 h;exact ⟨t,ht.symm⟩
def qjD(l:List UInt8)(c:UInt8)(hl:l.length≤9223372036854775807):AC prog D 147 [St l,St [c]] L s fun v L' _=>v=.tuple #[St (if qjJ c l then l.dropLast else l),.bool (qjJ c l)]∧L=L':=
 AC.of_calls qla fun _=>(Any.strings_CutSuffix lays104 ⟨l.toArray⟩ ⟨#[c]⟩ (fill L s) (by simpa [Lib.size_eq] using hl)).mono fun e w' ⟨he,hw⟩=>by
  refine ⟨_,he,by rw [hw];exact qc4 _,fun s' _ _ _=>⟨?_,Z⟩⟩;show Value.tuple #[.string ⟨(Lib.trimSuffix l [c]).toArray⟩,.bool (Lib.hasSuffix l [c])]=_;rw [Lib.trimSuffix,qns];simp [List.dropLast_eq_take]
inductive PuV:List UInt8→Value→Prop
 | ok (l:List UInt8) (u:Nat) (h:Lib.parseUintB 32 l=.ok u):PuV l (.tuple #[.int .u64 u,.nilIface])
 | bad (l:List UInt8) (h:∀ u,Lib.parseUintB 32 l≠.ok u) (n:Int) (t:TypeId) (p:Value):PuV l (.tuple #[.int .u64 n,.iface t p])
def qsH(hG:GW s)(l:List UInt8)(hl:l.length≤281474976710656):AC prog D 217 [St l,.int .i64 10,.int .i64 32] L s fun v L' _=>PuV l v∧L=L':=
  AC.of_calls qm4 fun ho=>by
    have hw:=hG.le (qe2 ho);have hs:(⟨l.toArray⟩:ByteArray).size≤281474976710656:=by simpa [Lib.size_eq] using hl
    by_cases hok:∃ u,Lib.parseUintB 32 l=.ok u
    · obtain ⟨u,hp⟩:=hok
      refine (Any.strconv_ParseUint_10_at32_ok laysPu14 ⟨l.toArray⟩ O u hp (fill L s)).mono fun e w' ⟨he,hw'⟩=>⟨_,he,?_,fun s' _ _ _=>⟨.ok l u hp,Z⟩⟩;rcases hw' with rfl|rfl
      · exact qc4 _
      · exact Go.Joins.below_bytesWorld _ _ _ _ (Nat.le_refl _)
    · have hno:∀ u,Lib.parseUintB 32 l≠.ok u:=fun u h=>hok ⟨u,h⟩
      by_cases hr:Lib.parseUintB 32 l=.range
      · obtain ⟨te,pe,h1⟩:=hw.er
        refine (Any.strconv_ParseUint_10_at32_range laysPu14 ⟨l.toArray⟩ hs hr _ (fill L s) h1 (.inr ⟨te,pe,Z⟩)).mono fun e w' ⟨N,he,_,_,hb⟩=>⟨_,he,hb,fun s' _ _ _=>⟨.bad l hno _ _ _,Z⟩⟩
      · obtain ⟨te,pe,h1⟩:=hw.es
        refine (Any.strconv_ParseUint_10_at32_syntax laysPu14 ⟨l.toArray⟩ hs (by cases h:Lib.parseUintB 32 l<;>simp_all) _ (fill L s) h1 (.inr ⟨te,pe,Z⟩)).mono fun e w' ⟨N,he,_,_,hb⟩=>⟨_,he,hb,fun s' _ _ _=>⟨.bad l hno _ _ _,Z⟩⟩
end
open Go.FL
attribute [local irreducible] JC JO JA JB qaJ qax qbN AC fill CellsAt QE Ev Mid
def qgL(c i:Int):AC prog D 64 [.int .i64 c,.int .i64 i] L s fun v L' _=>v=.agg #[.int .i64 c,.int .i64 i]∧L=L':=by
 refine qad (fn:=f64) qao func64 V Z ntmps64 Z (rs:=[.cell 4 30]) Z [(0,_),(1,_)] Z<|Sr<|qac Z [_,_] Z Z ?_;exact qAu
def qAB{p:Prop} (h:p:=by
 exact ⟨by simp_all [qbP]<;>omega,rfl⟩):p:=h
def Ez6{p:Prop} (h:p:=by
  refine qap (t:=5) Z ?_ ?_<;>intro c1
  ·refine G10 ?_;refine qap (t:=12) Z ?_ ?_<;>intro c2;·refine G9 ?_;exact rY Z fun _ hS2=>qAB
   refine G11 ?_;exact rY Z fun _ hS2=>qAB
  refine G6 ?_;refine qap (t:=9) Z ?_ ?_<;>intro c2
  ·refine G6 ?_;refine qap (t:=12) Z ?_ ?_<;>intro c3;·refine G9 ?_;exact rY Z fun _ hS2=>qAB
   refine G11 ?_;exact rY Z fun _ hS2=>qAB
  refine G11 ?_;exact rY Z fun _ hS2=>qAB):p:=h
def qm8(r:Int):AC prog D 187 [.int .i32 r] L s fun v L' _=>v=.bool (decide ((r < 97∨122 < r)∧(r < 48∨57 < r)))∧L=L':=by
 refine qad (fn:=f187) qao func187 V Z ntmps187 Z (rs:=[.tmp 2]) Z [(0,_)] Z<|G10 ?_;exact Ez6
def qj8(r:Int):AC prog D 146 [.int .i32 r] L s fun v L' _=>v=.bool (decide (r=32))∧L=L':=by
 refine qad (fn:=f146) qao func146 V Z ntmps146 Z (rs:=[.tmp 2]) Z [(0,_)] Z<|G12 ?_;refine Zo ?_;exact rY Z fun _ hS2=>Cz0
end Go.Proofs.YtlfiplbamnpgoaaGreatDoor
