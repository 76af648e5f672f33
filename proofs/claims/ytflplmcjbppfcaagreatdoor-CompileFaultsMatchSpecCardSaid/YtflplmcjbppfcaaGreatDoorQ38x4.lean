/- Part 4. -/
import Derived.Test.YtflplmcjbppfcaaGreatDoorQ38x3
import Derived.Lib.AppendStr
import Derived.Laws.IdiomStrings
import Derived.WideLaws
import Derived.Laws.RangeAny
import Derived.Lib.DecodeN
import Derived.Lib.SmallJoins
import Derived.Lib.ItoaMem
import Derived.Lib.ParseIntBCases
import Derived.Laws.Externs
import Derived.Shelf.Slices.Empties2
set_option linter.unusedVariables false
set_option linter.defProp false
set_option linter.unusedSimpArgs false
set_option linter.unnecessarySimpa false
set_option maxRecDepth 100000
set_option maxHeartbeats 8000000
namespace Go.FL
open Go Go.RowKit
structure Apps(P:Program)(w:World)(t u ty e:Nat)(i:TypeInfo)(z:Value)(y:Value)(m:Nat)(news:List Value):Prop where
 none:m=0→(Builtin.append_ #[t,u] ty #[.slice none 0 0,y]).run P w=.ok (.slice none 0 0) w
 nil:0 < m→m≤9223372036854775807→m * i.bytes≤140737488355328→(Builtin.append_ #[t,u] ty #[.slice .none 0 0,y]).run P w=.ok (.slice (some ⟨w.heap.size,0,.none⟩) m (grownCap w m 0 e)) (w.drew.alloc (.cells (news.toArray++Builtin.zeroCells z.cells (grownCap w m 0 e - m)) e))
 room:∀ g sLen sCap (cur:Array Value),w.heap[g]?=some (.cells cur e (0,0))→sLen+m≤sCap→sLen * i.size+news.length≤cur.size→(Builtin.append_ #[t,u] ty #[.slice (some ⟨g,0,.none⟩) sLen sCap,y]).run P w=.ok (.slice (some ⟨g,0,.none⟩) (sLen+m) sCap) (w.setRow g (cur.toList.take (sLen * i.size)++news++cur.toList.drop (sLen * i.size+news.length)).toArray)
 grow:∀ g n cap (xs:List Value),xs.length=n * i.size→(∀ j v,xs[j]?=some v→w.cell? ((⟨g,0,.none⟩:Addr).add j)=some v)→cap < n+m→n+m≤9223372036854775807→(n+m) * i.bytes≤140737488355328 →
  (Builtin.append_ #[t,u] ty #[.slice (some ⟨g,0,.none⟩) n cap,y]).run P w=.ok (.slice (some ⟨w.heap.size,0,.none⟩) (n+m) (grownCap w (n+m) cap e)) (w.drew.alloc (.cells (xs.toArray++news.toArray++Builtin.zeroCells z.cells (grownCap w (n+m) cap e - (n+m))) e))
def qrQ{P:Program}{w:World}{t u ty e:Nat}{i:TypeInfo}{z y:Value}{m size bytes:Nat}{news:List Value}(hS:Apps P w t u ty e i z y m news)(hsize:i.size=size)(hby:i.bytes=bytes)(hzs:z.cells.size=size)
    (v:Value) (n:Nat) (xs:List Value) (hown:w.ownsRow 0 e size v n xs) (hl:news.length=m * size) (h63:n+m≤maxLen) (hbytes:(n+m) * bytes≤140737488355328) :
    ∃ v' w',(Builtin.append_ #[t,u] ty #[v,y]).run P w=.ok v' w'∧w'.ownsRow 0 e size v' (n+m) (xs++news)∧w.grownBy w' v.ownBlock∧(v'.ownBlock=v.ownBlock∨v'.ownBlock=some w.heap.size)∧(v=.slice none 0 0→m=0→v'=.slice none 0 0):=by
  subst hsize;subst hby;have hsmall:n+m≤9223372036854775807:=by simp only [maxLen] at h63;omega
  have hlen:(xs++news).length=(n+m) * i.size:=by rw [List.length_append,hown.1,hl,Nat.add_mul]
  have grown:∀ (old:Nat),old < n+m→∀ (row:Option Nat),
      (w.drew.alloc (.cells (xs.toArray++news.toArray++Builtin.zeroCells z.cells (grownCap w (n+m) old e - (n+m))) e)).ownsRow 0 e i.size
        (.slice (some ⟨w.heap.size,0,none⟩) (n+m) (grownCap w (n+m) old e)) (n+m) (xs++news) ∧
      w.grownBy (w.drew.alloc (.cells (xs.toArray++news.toArray++Builtin.zeroCells z.cells (grownCap w (n+m) old e - (n+m))) e)) row:=by
    intro old ho row;have hge:=grownCap_ge w (n+m) old e;have hcm:grownCap w (n+m) old e≤maxLen:=grownCap_le_maxLen w (n+m) old e h63;refine ⟨⟨hlen,.inr ⟨w.heap.size,_,_,Z,Nat.zero_le _,heap_alloc_new w.drew _,hge,hcm,?_,?_⟩⟩,⟨Z,Z,Z,by simp,fun k hk _=>by show (w.heap.push _)[k]?=w.heap[k]?;rw [Array.getElem?_push,if_neg (Nat.ne_of_lt hk)]⟩⟩
    · simp only [Array.size_append,List.size_toArray,size_zeroCells,hzs,hown.1,hl,← Nat.add_mul]
      congr 1;omega
    · simp only [Array.toList_append,List.append_assoc]
      rw [← List.append_assoc,← hlen];exact List.take_left
  rcases hown.2 with ⟨rfl,rfl⟩|⟨g,cap,cur,rfl,hbg,hg,hnc,hcm,hcs,htake⟩
  · have hx:xs=[]:=List.eq_nil_of_length_eq_zero (by simpa using hown.1)
    subst hx;by_cases hm:m=0
    · have hn:news=[]:=List.eq_nil_of_length_eq_zero (by rw [hl,hm];simp)
      refine ⟨.slice none 0 0,w,hS.none hm,?_,⟨Z,Z,Z,Nat.le_refl _,fun _ _ _=>rfl⟩,Or.inl Z,fun _ _=>rfl⟩;rw [hn,hm];exact World.ownsRow_nil w 0 e i.size
    · have hr:=hS.nil O O (by have hb:=hbytes;simp only [Nat.zero_add] at hb;exact hb)
      have hgr:=grown 0 O (Value.ownBlock (.slice none 0 0));simp only [Nat.zero_add,List.nil_append,Array.empty_append] at hgr ⊢;exact ⟨_,_,hr,hgr.1,hgr.2,Or.inr rfl,fun _ h=>absurd h hm⟩
  · by_cases hroom:n+m≤cap
    · have hfit:n * i.size+news.length≤cur.size:=by rw [hl,hcs,← Nat.add_mul];exact Nat.mul_le_mul_right _ hroom
      have hr:=hS.room g n cap cur hg hroom hfit;refine ⟨_,_,hr,⟨hlen,.inr ⟨g,cap,_,Z,hbg,setRow_heap w g cur _ e _ hg,hroom,hcm,?_,?_⟩⟩,⟨Z,Z,Z,by simp,fun k _ hk=>setRow_other w g k _ (fun e=>hk (by simp [Value.ownBlock,e]))⟩,Or.inl Z,fun h=>by cases h⟩
      · simp only [List.size_toArray,List.length_append,List.length_take,List.length_drop,Array.length_toList]
        omega
      · rw [htake,← hlen]
        exact List.take_left
    · have holds:∀ j u,xs[j]?=some u→w.cell? ((⟨g,0,none⟩:Addr).add j)=some u:=hown.cells (g:=g) rfl
      have hr:=hS.grow g n cap xs hown.1 holds O hsmall hbytes;have hgr:=grown cap O (Value.ownBlock (.slice (some ⟨g,0,none⟩) n cap));exact ⟨_,_,hr,hgr.1,hgr.2,Or.inr rfl,fun h=>by cases h⟩
section
variable{P:Program}{TT:qa5}{D n:Nat}{Q:qbC}{fr:Fr}{L L' K:Hl}{s s' s0:World}{ops:Array Oper}{rest:List Oper}{d ty:Nat}{op:Op}{pos:String}{af:Array Edge}{v:Value}
def qnc{t u e m k sz:Nat}{x y:Operand}{yv:Value}{ti te:TI}{news xs:List Value}(B A L0:Hl)(hT:TabOK P TT)(hx:lk fr x=some v)(hy:lk fr y=some yv)(ht:qaE TT t=some ti)(hk:ti.kind=.sl e)(he:qaE TT e=some te)(hsz:te.size=sz)
  (hO:FL.Own e sz A v k xs) (hl:news.length=m * sz) (hS:∀ w i,P.underlying t=some (.slice e)→P.info? e=some i→i.size=te.size→i.bytes=te.bytes→i.zero=some te.zero→Apps P w t u ty e i te.zero yv m news) (h63:(k+m) * te.bytes≤140737488355328∧k+m≤9223372036854775807) (ho:OKL D (B++(A++L0)) s) :
  ∃ v' A' s',Ev P TT D fr (.call { callee:=.builtin .append,args:=#[x,y],argTypes:=#[t,u] }) ty (B++(A++L0)) s (.value v') (B++(A'++L0)) s'∧Le D s s'∧FL.Own e sz A' v' (k+m) (xs++news)∧(v=.slice none 0 0→m=0→v'=.slice none 0 0):=by
 obtain ⟨k1,k2,_⟩:=hT.at_ ht;rw [hk] at k2;simp only [TK.fits] at k2;rw [k2] at k1;have hte:=hT.at_ he;obtain ⟨i,i1,i2,i3,i4⟩:=qdY hte;have hzs:te.zero.cells.size=te.size:=by rw [qc4 hte];simpa using hte.2.2.2.1
 have hin:∀ x∈A,(fill (B++(A++L0)) s).heap[x.1]?=some x.2:=fun x hx=>qa7 ho (mem_mid.2 (.inr (.inl hx)));obtain ⟨v',w',hrun,hown',hgr,hat,hnl⟩:=qrQ (hS (fill (B++(A++L0)) s) i k1 i1 i2 i3 i4) (i2.trans hsz) i3 (by rw [hzs,hsz]) v k xs (hO.owns hin) hl (by simpa [maxLen] using h63.2) h63.1;obtain ⟨A',hO',hA'⟩:=Own.of_owns hown';rw [qaN] at hat;obtain ⟨r1,r2,r3⟩:=qub (D:=D) ho hO hO' hA' hgr hat;refine ⟨v',A',qcy D (B++(A'++L0)) w',fun hT ho dst pos af g ρ hρ=>⟨?_,r2⟩,r3,hO',hnl⟩;rw [← r1];simp only [execOp,resolve,invoke,builtin,Sem.run_bind,Sem.run_pure,Result.andThen_ok,List.map_toArray,List.map_cons,List.map_nil,hρ x _ hx,hρ y _ hy,hrun]
def qni{t u e m k sz:Nat}{x y:Operand}{yv:Value}{ti te:TI}{news xs:List Value}(B A L0:Hl)(hL:L=B++(A++L0))(hx:lk fr x=some v)(hy:lk fr y=some yv)(ht:qaE TT t=some ti)(hk:ti.kind=.sl e)(he:qaE TT e=some te)(hsz:te.size=sz)
  (hO:FL.Own e sz A v k xs) (hl:news.length=m * sz) (hS:TabOK P TT→∀ w i,P.underlying t=some (.slice e)→P.info? e=some i→i.size=te.size→i.bytes=te.bytes→i.zero=some te.zero→Apps P w t u ty e i te.zero yv m news) (h63:(k+m) * te.bytes≤140737488355328∧k+m≤9223372036854775807) (hd:Nat.blt d n=true)
  (kk:∀ v' A' s',Le D s s'→FL.Own e sz A' v' (k+m) (xs++news)→(v=.slice none 0 0→m=0→v'=.slice none 0 0)→JO P TT D n ops Q rest ((d,v')::fr) (B++(A'++L0)) s') :
  JO P TT D n ops Q (⟨some d,.call { callee:=.builtin .append,args:=#[x,y],argTypes:=#[t,u] },ty,pos,af,none⟩::rest) fr L s:=fun hT a hr ho=>by
 subst hL;obtain ⟨v',A',s',h1,h2,h3,h4⟩:=qnc (ty:=ty) B A L0 hT hx hy ht hk he hsz hO hl (hS hT) h63 ho;exact qh8 hd h1 (kk v' A' s' h2 h3 h4) hT a hr ho
def quB{i0 t u e m k sz:Nat}{g:Option (Nat×Bool)}{fuel:Nat}{listed:Array Bool}{x y:Operand}{yv:Value}{ti te:TI}{news xs:List Value}(hi0:ops[i0]?=some ⟨some d,.call { callee:=.builtin .append,args:=#[x,y],argTypes:=#[t,u] },ty,pos,af,g⟩)(hgk:GOK ops fr g)
  (B A L0:Hl) (hL:L=B++(A++L0)) (hx:lk fr x=some v) (hy:lk fr y=some yv) (ht:qaE TT t=some ti) (hk:ti.kind=.sl e) (he:qaE TT e=some te) (hsz:te.size=sz)
  (hO:FL.Own e sz A v k xs) (hl:news.length=m * sz) (hS:TabOK P TT→∀ w i,P.underlying t=some (.slice e)→P.info? e=some i→i.size=te.size→i.bytes=te.bytes→i.zero=some te.zero→Apps P w t u ty e i te.zero yv m news) (h63:(k+m) * te.bytes≤140737488355328∧k+m≤9223372036854775807) (hd:Nat.blt d n=true) (hK:∀ A',∀ x∈K,x∈B++(A++L0)→x∈B++(A'++L0))
  (kk:∀ v' A' s',Le D s s'→FL.Own e sz A' v' (k+m) (xs++news)→JA P TT D n ops Q K s0 fuel (listed.setIfInBounds i0 true) ((d,v')::fr) (B++(A'++L0)) s') :
  JB P TT D n ops Q K s0 fuel listed i0 fr L s:=fun hT a hr ho hl0 hKL=>by
 subst hL;obtain ⟨v',A',s',h1,h2,h3,h4⟩:=qnc (ty:=ty) B A L0 hT hx hy ht hk he hsz hO hl (hS hT) h63 ho;exact qiW hi0 hgk h1 h2 (hK A') hd (kk v' A' s' h2 h3) hT a hr ho hl0 hKL
end
def qqu{P:Program}{w:World}{t u ty e:Nat}{i:TypeInfo}{z:Value}(l:List UInt8)(ht:P.underlying t=some (.slice e))(hu:P.underlying u=some .string)(hi:P.info? e=some i)(hs:i.size=1)(hb:i.bytes=1)(hz:i.zero=some z) :
    Apps P w t u ty e i z (St l) l.length (l.map fun b=>Value.int .u8 (b.toNat:Int)):=by
  have hsz:(⟨l.toArray⟩:ByteArray).size=l.length:=by simp [ByteArray.size]
  have hcs:Lib.strCells ⟨l.toArray⟩=l.map fun b=>Value.int .u8 (b.toNat:Int):=by simp [Lib.strCells]
  refine ⟨fun h0=>?_,fun h1 h2 h3=>?_,fun g sLen sCap cur hg hr hf=>?_,fun g n cap xs hl hc hcap h63 hby=>?_⟩
  · have hf:=Lib.run_firstCells_string (P:=P) w 1 ⟨l.toArray⟩
    have hl:l=[]:=List.eq_nil_of_length_eq_zero h0;subst hl;simp [Builtin.append_,run_underlying ht,run_underlying hu,sizeOf,typeInfo,hi,hs,Builtin.lenOf,Builtin.firstCells,ByteArray.size]
  · have hr:=run_append_nil_string (P:=P) w t u ty e i z ht hu hi hz ⟨l.toArray⟩ (by rw [hsz];exact h1) (by rw [hsz];omega) (by rw [hsz];exact Nat.le_trans h3 O)
    rw [hsz] at hr;have e1:((⟨l.toArray⟩:ByteArray).data.map fun b=>Value.int .u8 (b.toNat:Int))=(l.map fun b=>Value.int .u8 (b.toNat:Int)).toArray:=by apply Array.ext';simp
    rw [e1] at hr;exact hr
  · have hr':=Lib.run_append_room_string (P:=P) (ty:=ty) w t u e i ht hu hi hs g sLen sCap cur hg ⟨l.toArray⟩ (by rw [hsz];exact hr) (by rw [hsz];simpa [hs] using hf)
    rw [hsz,hcs] at hr';rw [hs,Nat.mul_one,List.length_map];exact hr'
  · have hr:=Lib.run_append_grow_string (P:=P) (ty:=ty) w t u e i z ht hu hi hz ⟨g,0,none⟩ n cap xs hl hc ⟨l.toArray⟩ (by rw [hsz];exact hcap) (by rw [hsz];omega) (by rw [hsz];exact growslice_fits hcap hby)
    rw [hsz,hcs] at hr;exact hr
def qi4{P:Program}{w:World}{t u ty e:Nat}{i:TypeInfo}{z:Value}{ik:IntKind}(m:Nat)(ht:P.underlying t=some (.slice e))(hu:P.underlying u=some (.int ik))(hi:P.info? e=some i)(hs:i.size=1)(hz:i.zero=some z)(hzc:z.cells=#[z])(h1c:z.oneCell'=true)(hm:m≤9223372036854775807)(hmb:(m:Int) * i.bytes≤281474976710656) :
    Apps P w t u ty e i z (.int ik (m:Int)) m (List.replicate m z):=by
  have hw:IntKind.i64.wrap (m:Int)=(m:Int):=w64 O O;have h0:¬ ((m:Int) < 0):=by omega
  have hmb':¬ (281474976710656 < (m:Int) * (i.bytes:Int)):=by omega
  have hzz:Builtin.zeroCells z.cells m=(List.replicate m z).toArray:=by
    rw [hzc];apply Array.ext';simp only [Builtin.zeroCells];apply List.ext_getElem
    · simp
    · intro k h1 h2;simp [Nat.mod_one]
  have happ:∀ w':World,(if m * i.size=0 then (pure #[]:Sem (Array Value)) else do pure (Builtin.zeroCells (← zeroValue e).cells m)).run P w'=.ok (List.replicate m z).toArray w':=fun w'=>by
    by_cases hm0:m=0
    · subst hm0;simp
    · rw [if_neg (by rw [hs];omega)];simp [zeroValue,typeInfo,hi,hz,hzz]
  refine ⟨fun h0=>?_,fun h1 h2 h3=>?_,fun g sLen sCap cur hg hr hf=>?_,fun g n cap xs hl hc hcap h63 hby=>?_⟩
  · subst h0
    have hw0:IntKind.i64.wrap 0=0:=hw;simp [Builtin.append_,run_underlying ht,run_underlying hu,sizeOf,typeInfo,hi,hs,asInt,asIntOf,hw0]
  · have hn:¬ (m=0):=by omega
    have h63':¬ (9223372036854775807 < (m:Int)):=by omega
    have h48':¬ (281474976710656 < Builtin.nextslicecap m 0 * i.bytes):=by rw [nextslicecap_zero h1];omega
    simp [Builtin.append_,run_underlying ht,run_underlying hu,sizeOf,typeInfo,zeroValue,hi,hz,hs,asInt,asIntOf,hw,h0,hmb',hn,h63',h48',Question.forced,newRow,grownCap,Builtin.firstCells,hzz]
  · have hst:=run_storeCells_at P g sLen e (List.replicate m z) 0 cur w hg (by simpa [hs] using hf) (fun u hu=>by rw [(List.mem_replicate.1 hu).2];exact h1c)
    simp only [Nat.add_zero] at hst;by_cases hm0:m=0
    · subst hm0
      have hw0:IntKind.i64.wrap 0=0:=hw;have hr0:sLen≤sCap:=hr;simp at hst;simp [Builtin.append_,run_underlying ht,run_underlying hu,sizeOf,typeInfo,zeroValue,hi,hz,hs,asInt,asIntOf,hw0,hr0,Addr.add_lit,hst]
    · simp [Builtin.append_,run_underlying ht,run_underlying hu,sizeOf,typeInfo,zeroValue,hi,hz,hs,asInt,asIntOf,hw,h0,hmb',hr,hm0,Addr.add_lit,hzz,hst]
  · have hn:¬ (n+m≤cap):=by omega
    have h63':¬ (9223372036854775807 < ((n:Int)+(m:Int))):=by omega
    have hgs:=growslice_fits hcap hby;have h48':¬ (281474976710656 < Builtin.nextslicecap (n+m) cap * i.bytes):=by omega
    have hfo:=run_firstCells_some (P:=P) w.drew i.size n ⟨g,0,none⟩ n cap xs hl (by simpa using hc);by_cases hm0:m=0
    · subst hm0
      rw [hs] at hfo;have hw0:IntKind.i64.wrap 0=0:=hw;have hn0:¬ (n≤cap):=hn;have h630:¬ (9223372036854775807 < (n:Int)):=by omega
      simp [Builtin.append_,run_underlying ht,run_underlying hu,sizeOf,typeInfo,zeroValue,hi,hz,hs,asInt,asIntOf,hw0,hn0,h630,Question.forced,newRow,grownCap,hfo];try exact fun h=>absurd h h48'
    · rw [hs] at hfo
      simp [Builtin.append_,run_underlying ht,run_underlying hu,sizeOf,typeInfo,zeroValue,hi,hz,hs,asInt,asIntOf,hw,h0,hmb',hn,hm0,h63',h48',Question.forced,newRow,grownCap,hfo,hzz]
section
variable{P:Program}{TT:qa5}{D n:Nat}{Q:qbC}{fr:Fr}{L L' K:Hl}{s s' s0:World}{ops:Array Oper}{rest:List Oper}{d ty:Nat}{op:Op}{pos:String}{af:Array Edge}{v:Value}
def qah{x y:Operand}{a b:List UInt8}{t t':Nat}(hx:lk fr x=some (St a))(hy:lk fr y=some (St b))(h:a.length+b.length≤9223372036854775807):QE P TT D fr (.binOp .add t x y t') ty K s0 (St (a++b)):=
 QE.pure fun _ dst pos af g ρ hρ w=>by
  have h1:¬ (9223372036854775807 < ((a.length:Int)+(b.length:Int))):=by omega
  have e:(⟨a.toArray⟩:ByteArray)++⟨b.toArray⟩=⟨(a++b).toArray⟩:=by
   apply ByteArray.ext;simp
  simp [execOp,hρ x _ hx,hρ y _ hy,eqGuard,binOp,Op.stringOp,ByteArray.size,h1,e]
def qxV(e:Value)(b:Bool):Prop:=(e=.nilIface∧b=true)∨∃ u p,e=.iface u p∧b=false
def quJ{x:Operand}{e:Value}{b:Bool}{t t':Nat}(hu:P.underlying t=some (.interface (P.methodsAt t)))(hx:lk fr x=some e)(hE:qxV e b):QE P TT D fr (.binOp .eql t x (.const .nilIface) t') ty K s0 (.bool b):=
 QE.pure fun _ dst pos af g ρ hρ w=>by
  have hc:=hρ (.const .nilIface) _ rfl;rcases hE with ⟨rfl,rfl⟩|⟨u,p,rfl,rfl⟩
  · simp [execOp,hρ x _ hx,hc,eqGuard_nil_constR,run_eql_nil_nil w t hu]
  · simp [execOp,hρ x _ hx,hc,eqGuard,run_eql_held_nil w t u p hu]
end
section
variable{P:Program}{TT:qa5}{D n:Nat}{Q:qbC}{fr:Fr}{L:Hl}{s:World}
inductive SufO(ks:List Nat)(fr:Fr):Fr→Prop
 | refl:SufO ks fr fr
 | push {d:Nat} {v:Value} {fr':Fr} (hd:((qa0 fr d).isNone || ks.any (Nat.beq d))=true) (h:SufO ks fr fr'):SufO ks fr ((d,v)::fr')
def So{p:Prop}(h:p:=by repeat (first|exact SufO.refl|refine SufO.push rfl ?_)):p:=h
def SufO.at_{ks:List Nat}{fr fr':Fr}(h:SufO ks fr fr'){t:Nat}{v:Value}(ht:ks.any (Nat.beq t)=false)(hv:qa0 fr t=some v):qa0 fr' t=some v:=by
 induction h with
 | refl=>exact hv
 | @push d u fr' hd _ ih=>
  rw [qbb];by_cases he:d=t
  · subst he;rw [hv,ht] at hd;cases hd
  · rw [if_neg he];exact ih
def qmy{l:Fr}{t:Nat}(h:qa0 l t=none):(l.map (·.1)).any (Nat.beq t)=false:=by
  induction l with
  | nil=>rfl
  | cons x l ih=>
    obtain ⟨d,v⟩:=x;rw [qbb] at h;by_cases he:d=t
    · rw [if_pos he] at h;cases h
    · rw [if_neg he] at h
      simp only [List.map_cons,List.any_cons,ih h,Bool.or_false];cases hb:Nat.beq t d with
      | false=>rfl
      | true=>exact absurd (Nat.eq_of_beq_eq_true hb).symm he
def qzl{new fr fr':Fr}(h1:Keeps fr' new)(h2:SufO (new.map (·.1)) fr fr'):Keeps fr' (new++fr):=by
 intro t v h;rw [qjz] at h;cases hn:qa0 new t with
 | none=>rw [hn] at h;exact h2.at_ (qmy hn) h
 | some u=>rw [hn] at h;exact h1 t v (by rw [hn];exact h)
def MidG{γ:Type}(D:Nat)(s:World)(fr:Fr)(new:γ→Fr)(X:Hl)(H:γ→Hl)(I:γ→World→Prop):Fr→Hl→World→Prop:=fun fr' L' s'=>∃ g A,Le D s s'∧L'.Perm (A++(X++H g))∧I g s'∧Keeps fr' (new g++fr)
def MidG.mk{γ:Type}{new:γ→Fr}{X:Hl}{H:γ→Hl}{I:γ→World→Prop}{fr':Fr}{L':Hl}{s':World}(g:γ)(A:Hl)(hl:Le D s s')(hK:Keeps fr' (new g))(hS:SufO ((new g).map (·.1)) fr fr')(hp:L'.Perm (A++(X++H g)))(hI:I g s'):MidG D s fr new X H I fr' L' s':=⟨g,A,hl,hp,hI,qzl hK hS⟩
def qcH{γ:Type}{x y:Code}(new:γ→Fr)(X:Hl){Y:Hl}(_hX:L=X++Y)(H:γ→Hl)(I:γ→World→Prop)(mono:∀ g s s',I g s→Le D s s'→I g s')(h1:JC P TT D n (qaZ (MidG D s fr new X H I) Q) x fr L s)
  (h2:∀ g s',Le D s s'→I g s'→JC P TT D n Q y (new g++fr) (X++H g) s'):JC P TT D n Q (.seq x y) fr L s:=fun ht a hr ho=>
 wp_seq (wp_mono (h1 ht a hr ho) fun e a w ⟨fr',L',s',k1,k2,k3,k4⟩=>by
  cases e with
  | normal=>
   subst k3;obtain ⟨g,A,j0,j2,j3,j1⟩:=k4;rw [qbv j2 _ k2];obtain ⟨e,d1,d2⟩:=qbn (k2.perm j2);rw [e];exact h2 g _ (j0.trans d2) (mono _ _ _ j3 d2) ht a (k1.sub j1) d1
  | _=>exact ⟨fr',L',s',k1,k2,k3,k4⟩)
end
def qbp{p q:Prop} [Decidable p] [Decidable q] (h:p↔¬ q):(!decide q)=decide p:=by
  by_cases hq:q
  · have hp:¬ p:=fun x=>(h.1 x) hq
    simp [hq,hp]
  · simp [hq,h.2 hq]
def Kb{p:Prop}(h:p:=by first|rfl|exact congrArg (fun b=>some (Value.bool b)) (decide_eq_true Og).symm|exact congrArg (fun b=>some (Value.bool b)) (decide_eq_false Og).symm|exact congrArg (fun b=>some (Value.bool b)) (decide_eq_decide.2 Og)|exact congrArg (fun b=>some (Value.bool b)) (qbp Og)):p:=h
def AC.perm{P:Program}{D:Nat}{f:FuncId}{args:List Value}{L L1:Hl}{s:World}{R R':Value→Hl→World→Prop}(hp:L.Perm L1)(h:AC P D f args L1 s R)(hq:∀ v L1' s',R v L1' s'→∃ L',L1'.Perm L'∧R' v L' s'):AC P D f args L s R':=
 ⟨h.1,fun ho=>by
  rw [qbv hp _ ho];refine (h.2 (ho.perm hp)).mono ?_;rintro e w' ⟨v,L1',s',he,hw,hok,hl,hr⟩;obtain ⟨L',h1,h2⟩:=hq v L1' s' hr;exact ⟨v,L',s',he,by rw [hw,qbv h1 _ hok],hok.perm h1,hl,h2⟩⟩
def qlv{L:Hl}{s:World}(nd:(L.map (·.1)).Nodup){b:Nat}{o:Obj}(hb:b < s.heap.size)(hx:(b,o)∈L):(fill L s).heap[b]?=some o:=by
  induction L with
  | nil=>cases hx
  | cons x L ih=>
    simp only [List.map_cons,List.nodup_cons] at nd;rcases List.mem_cons.1 hx with rfl|hx
    · rw [fill];exact qdg _ (by rw [qaN];exact hb)
    · rw [fill,qbU]
      · exact ih nd.2 hx
      · intro e;exact nd.1 (by rw [e];exact List.mem_map.2 ⟨_,hx,rfl⟩)
def AC.lend{P:Program}{D:Nat}{f:FuncId}{args:List Value}{L:Hl}{s:World}{R:Value→Prop}(M:Hl)(hM:∀ x∈M,x.2≠dum D)(hf:qh5 P f)(h:OKL D M s→AC P D f args L (fill M s) (fun v L' _=>R v∧L=L')) :
    AC P D f args (M++L) s (fun v L' _=>R v∧M++L=L'):=by
  refine ⟨hf,fun ho=>?_⟩;have hoM:OKL D M s:=ho.left;have hp:(M++L).Perm (L++M):=List.perm_append_comm;have hnd:=ho.nd;rw [List.map_append,List.nodup_append] at hnd;have hdis:∀ x∈L,x.1 ∉ M.map (·.1):=fun x hx hm=>hnd.2.2 _ hm _ (List.mem_map.2 ⟨x,hx,rfl⟩) rfl;have e:fill (M++L) s=fill L (fill M s):=by rw [qbv hp _ ho,qe1]
  have ho3:OKL D L (fill M s):=⟨ho.right.nd,fun x hx=>by rw [qbj (hdis x hx)];exact ho.right.dm x hx⟩;rw [e];refine ((h hoM).2 ho3).mono ?_;rintro en w' ⟨v,L1,s1,h1,rfl,h3,h4,h6,rfl⟩;have hlt:∀ x∈M,x.1 < s.heap.size:=fun x hx=>hoM.lt hx;have hsz:s.heap.size≤s1.heap.size:=by have:=h4.size;rwa [qaN] at this
  have hs1:∀ x∈M,s1.heap[x.1]?=some x.2:=fun x hx=>by
    have hm:=qa7 hoM (b:=x.1) (o:=x.2) hx;rcases h4.block x.1 (by rw [qaN];exact hlt x hx) with hd|hd
    · rw [hm] at hd;exact absurd (Option.some.inj hd) (hM x hx)
    · rw [hd,hm]
  have hk:(M.map fun x=>(x.1,dum D)).map (·.1)=M.map (·.1):=by rw [List.map_map];rfl
  have ho4:OKL D (M++L) (fill (M.map fun x=>(x.1,dum D)) s1):=⟨ho.nd,fun x hx=>by
    rcases List.mem_append.1 hx with hx|hx
    · exact qlv (by rw [hk];exact hnd.1) (Nat.lt_of_lt_of_le (hlt x hx) hsz) (List.mem_map.2 ⟨x,hx,rfl⟩)
    · rw [qbj (by rw [hk];exact hdis x hx)];exact h3.dm x hx⟩
  have hw:fill M (fill (M.map fun x=>(x.1,dum D)) s1)=s1:=by
    refine qdz (qdt fun k=>?_) ?_ ?_ ?_ ?_
    · by_cases hm:k∈M.map (·.1)
      · obtain ⟨x,hx,rfl⟩:=List.mem_map.1 hm
        rw [qlv (o:=x.2) hnd.1 (by rw [qaN];exact Nat.lt_of_lt_of_le (hlt x hx) hsz) hx,hs1 x hx]
      · rw [qbj hm,qbj (by rw [hk];exact hm)]
    · rw [qbT,qbT]
    · rw [qc2,qc2]
    · rw [qc9,qc9]
    · rw [qbu,qbu]
  refine ⟨v,M++L,fill (M.map fun x=>(x.1,dum D)) s1,h1,?_,ho4,?_,h6,Z⟩
  · rw [qbv hp _ ho4,qe1,hw]
  · refine ⟨?_,?_,?_,?_,fun k hk1=>?_⟩
    · rw [qc9,h4.os,qc9]
    · rw [qbT,h4.tape,qbT]
    · rw [qbu,h4.output,qbu]
    · rw [qaN];exact hsz
    · by_cases hm:k∈M.map (·.1)
      · obtain ⟨x,hx,rfl⟩:=List.mem_map.1 hm
        exact .inl (hoM.dm x hx)
      · rw [qbj (by rw [hk];exact hm)]
        have:=h4.block k (by rw [qaN];exact hk1);rw [qbj hm] at this;exact this
def AC.ok{P:Program}{D:Nat}{f:FuncId}{args:List Value}{L:Hl}{s:World}{R:Value→Hl→World→Prop}(h:AC P D f args L s R):qh5 P f:=h.1
def qo5{D:Nat}{M:Hl}{s:World}(h:OKL D M s):Pub M (fill M s):=fun b zs t hm j u hj=>by
 rw [qcV h hm,Nat.zero_add];exact hj
def qud{e sz:Nat}{M:Hl}{v:Value}{n:Nat}{xs:List Value}(h:FL.Own e sz M v n xs){D:Nat}:∀ x∈M,x.2≠dum D:=by
 cases h with
 | nil=>intro x hx;cases hx
 | blk b cap n xs ys _ _ _ _=>
  intro x hx;rw [List.mem_singleton] at hx;subst hx;intro e;cases e
end Go.FL
namespace Go.Proofs.YtflplmcjbppfcaaGreatDoor
open Go.FL
attribute [local irreducible] JC JO JA JB qaZ qaL qb4 AC fill CellsAt QE Ev Mid
def qcD(t:Tab)(l:List Int)(i:List UInt8):Mst:=⟨l++List.replicate (t.cells.toNat - l.length) 0,0,0,0,0,0,i,[],0,0⟩
def qbW(t:Tab)(l:List Int)(i:List UInt8):Mst×Int×Int:=if (qa3 t l i).1≠0 then (qhm,(qa3 t l i).1,(qa3 t l i).2) else (qcD t l i,0,0)
def qew{s:World}{bc N:Nat}{l:List Int}(hp:CellsAt s bc 0 (wv l++(List.replicate N (Value.int .u32 0)).drop l.length))(hu:∀ x∈l,U32 x)(h:l.length≤N)(hN:N≤65536):Wds s (some ⟨bc,0,none⟩) N N (l++List.replicate (N - l.length) 0):=by
 have e:wv l++(List.replicate N (Value.int .u32 0)).drop l.length=wv (l++List.replicate (N - l.length) 0)++[]:=by simp [wv]
 rw [e] at hp;have hl:(l++List.replicate (N - l.length) 0).length=N:=by simp;omega
 have:=qpW (cc:=N) hp (fun x hx=>by
  rcases List.mem_append.1 hx with h1|h1
  · exact hu x h1
  · obtain ⟨_,rfl⟩:=List.mem_replicate.1 h1;exact qbx) (by rw [hl];simp) O
 rwa [hl] at this
def qpD{t:Tab}{l:List Int}{i:List UInt8}(h:(qaO t).1≠0):qbW t l i=(qhm,(qaO t).1,(qaO t).2):=by simp [qbW,qa3,h]
def qm0{t:Tab}{l:List Int}{i:List UInt8}(h:(qaO t).1=0)(h1:t.cells < (l.length:Int)):qbW t l i=(qhm,3,-2):=by simp [qbW,qa3,h,h1]
def qr0{t:Tab}{l:List Int}{i:List UInt8}(h:(qaO t).1=0)(h1:¬ t.cells < (l.length:Int))(h2:400000 < i.length):qbW t l i=(qhm,3,-3):=by simp [qbW,qa3,h,h1,h2]
def qfG{t:Tab}{l:List Int}{i:List UInt8}(h:(qaO t).1=0)(h1:¬ t.cells < (l.length:Int))(h2:¬ 400000 < i.length):qbW t l i=(qcD t l i,0,0):=by simp [qbW,qa3,h,h1,h2]
def qum{t:Tab}{l:List Int}{i:List UInt8}(h:(qa3 t l i).1≠0):qbW t l i=(qhm,(qa3 t l i).1,(qa3 t l i).2):=by simp [qbW,h]
def qzE{t:Tab}{l:List Int}{i:List UInt8}(h:(qa3 t l i).1=0):qbW t l i=(qcD t l i,0,0):=by simp [qbW,h]
def qwm{t:Tab}{l:List Int}{i:List UInt8}(h:(qa3 t l i).1=0):(qaO t).1=0∧(l.length:Int)≤t.cells∧i.length≤400000:=by
 unfold qa3 at h;split at h
 · contradiction
 split at h
 · exact absurd h Dc
 split at h
 · exact absurd h Dc
 rename_i h1 h2 h3;exact ⟨by simpa using h1,by omega,by omega⟩
def qmZ{t:Tab}{l:List Int}{i:List UInt8}(hG:TabG t)(hl:(l.length:Int)≤t.cells)(hi:i.length≤400000)(hu:∀ x∈l,U32 x):MOK (qcD t l i)∧SOK (qcD t l i)∧((qcD t l i).cells.length:Int)=t.cells:=by
 have:=hG.cells;have hlen:(qcD t l i).cells.length=t.cells.toNat:=by simp [qcD];omega
 refine ⟨⟨by omega,fun x hx=>?_,qbx,qbx,qbx,qbx,qbx,by simp [qcD],hi,qbx⟩,⟨⟨by simp [qcD],by simp [qcD]⟩,fun h=>absurd Z h⟩,by omega⟩;rcases List.mem_append.1 hx with h1|h1
 · exact hu x h1
 · obtain ⟨_,rfl⟩:=List.mem_replicate.1 h1;exact qbx
def qzS(t:Tab)(l:List Int)(i:List UInt8):MU (qbW t l i).1:=by
 unfold qbW;split
 · exact qBL
 · constructor<;>exact qbx
def Cz18{p:Prop} (h:p:=by
 refine ⟨[_,_,_,_,_,_],Z,fun s2 hs2 hp=>?_⟩;rw [qfG hst0 hlong hin];have hw:=qew (hp bc (wv l++(List.replicate N (Value.int .u32 0)).drop l.length) 46 (by simp)) hu O O;have hNN:t.cells.toNat=N:=by omega
 rw [← hNN] at hw;exact ⟨_,⟨_,_,_,_,_,_,_,_,_,by rw [← hNN];rfl,hw,hBi.le ((Lr D).t (hS2.t hs2)),Bts.nil _ none 0 O⟩,rfl⟩):p:=h
def qpC(D:Nat)(L:Hl)(s:World)(t:Tab)(A:Option Addr)(n c:Nat)(hA:Inss s A n c t.ins)(A1:Option Addr)(n1 c1:Nat)(l:List Int)(hIm:Wds s A1 n1 c1 l)(A2:Option Addr)(n2 c2:Nat)(i:List UInt8)(hIn:Bts s A2 n2 c2 i):AC Tryz.prog D 58 [.agg #[.int .i64 t.cells,.slice A n c],.slice A1 n1 c1,.slice A2 n2 c2] L s fun v L' s'=>∃ M',L'=M'++L∧∀ s2,Le D s' s2→Pub M' s2→∃ vs,StW s2 (qbW t l i).1 vs∧v=.tuple #[vs,.agg #[.int .i64 (qbW t l i).2.1,.int .i64 (qbW t l i).2.2]]:=by
 obtain rfl:=hIm.1;have hn2:=hIn.1;have hF:=qiN t;have hu:=hIm.u32;refine qae (fn:=Tryz.f58) qav Tryz.func58 V Z Tryz.ntmps58 Z (rs:=[.cell 6 136,.cell 7 27]) Z [(0,_),(1,_),(2,_)] Z<|Sr<|qay Z Z fun β1 s1 h1=>qag Z [_,_,_,_,_,_,_,_,_,_] Z Z fun β2 s2 h2=>qag Z [_,_] Z Z fun β3 s3 h3=>Nt<|Zs<|Sr<|qad (qao 2 [_,_] Z Z Z Z Z) Z<|Je Z Z Z (qe8 D _ _ _ _ _ _ (hA.le (h1.t h2|>.t h3))) fun s4 h4=>qag Z [_,_] Z Z fun β5 s5 h5=>Wt 0 [_,_] Y9<|Nt<|Sr<|qad (qao 0 [_,_] Z Z Z Z Z) Z<|qad (qak [] [_,_] Z Z Z Z Z Z) Z<|qad (qb9 Z Z (qbL _ _ _ _)) Z<|Nt<|?_;have e5:=h1.t h2|>.t h3|>.t h4|>.t h5;refine qaM Z ?_ ?_<;>intro c6;·have hbad:(qaO t).1≠0:=fun h=>c6 ⟨h,hF h⟩;refine Zs<|qaH qac 4 Z [2,1] (by intro x hx;exact qas hx) fun s7 h7=>za 0 Z (qak [] [_,_,_,_,_,_,_,_,_,_] Z Z Z Z Z Z) Z<|za 1 Z (qao 0 [_,_] Z Z Z Z Z) Z<|qar 2 V<|Wu Z Tt 2 [_,_,_,_,_,_,_,_,_,_] Y9 (sM (sbY (sbN (sbY (sbE _)))))<|qar 3 V<|Wu Z Tt 1 [_,_] Y9 (sM (sbY (sbN (sbY (sbE _)))))<|qaf V<|Zt<|Zo<|Zu<|?_;refine rR [] _ (.agg (us:=[_,_,_,_,_,_,_,_,_,_]) 2 Z Z Z Z Z (.agg (us:=[_,_]) 1 Z Z Z Z Z (.nil))) Z (e5.t h7) fun _ hS2=>?_;refine ⟨[_,_,_,_],Z,fun s2 hs2 hp=>?_⟩;rw [qpD hbad];exact ⟨_,StW.zero _,rfl⟩
 have hst0:(qaO t).1=0:=c6.1;have hG:=qAo hA hst0;have hcl:=hG.cells;obtain ⟨N,hN⟩:=Int.eq_ofNat_of_zero_le (show 0≤t.cells by omega);refine Zk<|Zt<|Zs<|Sr<|Zqm Z Z<|Ws Y4<|W0 Y5<|Wl 3 Y6<|qbl Z Z Z<|Nt<|?_;refine qaa Z ?_ ?_<;>intro c8;·have hlong:t.cells < (l.length:Int):=c8;refine Sr<|qad (qak [] [_,_,_,_,_,_,_,_,_,_] Z Z Z Z Z Z) Z<|Je Z Z Z (qby D _ _ _ _) fun s9 h9=>Wt 2 [_,_,_,_,_,_,_,_,_,_] Y9<|Wt 1 [_,_] Y9<|Nt<|Zo<|Zu<|?_;refine rR [] _ (.agg (us:=[_,_,_,_,_,_,_,_,_,_]) 2 Z Z Z Z Z (.agg (us:=[_,_]) 1 Z Z Z Z Z (.nil))) Z (e5.t h9) fun _ hS2=>?_;refine ⟨[_,_,_,_],Z,fun s2 hs2 hp=>?_⟩;rw [qm0 hst0 hlong];exact ⟨_,StW.zero _,rfl⟩
 have hlong:¬ t.cells < (l.length:Int):=c8;refine Zk<|Zt<|Zs<|Sr<|Zqm Z Z<|Ws Y4<|qbl Z Z Z<|Nt<|?_;refine qaa Z ?_ ?_<;>intro c10
 ·have hin:400000 < i.length:=by omega
  refine Sr<|qad (qak [] [_,_,_,_,_,_,_,_,_,_] Z Z Z Z Z Z) Z<|Je Z Z Z (qby D _ _ _ _) fun s11 h11=>Wt 2 [_,_,_,_,_,_,_,_,_,_] Y9<|Wt 1 [_,_] Y9<|Nt<|Zo<|Zu<|?_;refine rR [] _ (.agg (us:=[_,_,_,_,_,_,_,_,_,_]) 2 Z Z Z Z Z (.agg (us:=[_,_]) 1 Z Z Z Z Z (.nil))) Z (e5.t h11) fun _ hS2=>?_;refine ⟨[_,_,_,_],Z,fun s2 hs2 hp=>?_⟩;rw [qr0 hst0 hlong hin];exact ⟨_,StW.zero _,rfl⟩
 have hin:¬ 400000 < i.length:=by omega
 refine Zk<|Zt<|Zs<|qaJ qac 8 Z _ (fun _ h=>h) fun s12 h12=>za 0 Z (qat Z Z Z Z) Z<|za 1 Z (qaz (Wd 3 Y5) (congrArg (Value.int .i64) hN)) Z<|za 3 Z (qan Z) Z ?_;have e12:=e5.t h12;refine qAy 2 4 6 V ?_ ?_ ?_
 ·refine qng Z Tt Z Z Z Z Z (by simp [ti46];omega) O Z fun bc s13 h13=>qeR 4 6 V ?_ ?_
  ·refine Jb Z Tt Z Z Z (AC.pub (qaG D _ _ _ _ _ _ (hIn.le (e12.t h13)) O)) ?_;rintro _ _ s14 h14 ⟨rfl,Mi,swi,⟨Ai1,ci1,rfl,_,_,hOi⟩,hswi,hcwi⟩;refine ⟨fun _ _ h=>h,?_⟩;have hBi:=Own.bts hOi hcwi;refine za 5 Z (qak [(_,_),(_,_)] [_,_,_,_,_,_,_,_,_,_] Z Z Z Z Z Z) Z<|qar 6 V<|qcN Z Tt Z [_,_,_,_,_,_,_,_,_,_] Z Z fun β15 s15 h15=>qar 7 V<|Wu Z Tt 0 [_,_,_,_,_,_,_,_,_,_] Y9 (sM (sbN (qdw (sbE _))))<|qaf V<|Zt<|Sr<|W0 Y5<|Wl 0 Y6<|Zqm Z Z<|qfP 1 Z Z Z Z Z Z Z (hIm.row.le (e12.t h13|>.t h14|>.t h15)) O (by simp) Z Z<|Nt<|Sr<|qad (qao 0 [_,_,_,_,_,_,_,_,_,_] Z Z Z Z Z) Z<|qad (qak [] [_,_] Z Z Z Z Z Z) Z<|Wt 4 [_,_,_,_,_,_,_,_,_,_] Y9<|Wt 3 [_,_] Y9 ?_;refine Nt<|Zo<|?_;refine rR [] _ (.agg (us:=[_,_,_,_,_,_,_,_,_,_]) 4 Z Z Z Z Z (.agg (us:=[_,_]) 3 Z Z Z Z Z (.nil))) Z (e12.t h13|>.t h14|>.t h15) fun _ hS2=>?_;refine ⟨[_,_,_,_,_,_],Z,fun s2 hs2 hp=>?_⟩;rw [qfG hst0 hlong hin];have hw:=qew (hp bc (wv l++(List.replicate N (Value.int .u32 0)).drop l.length) 46 (by simp)) hu O O;have hNN:t.cells.toNat=N:=by omega
   rw [← hNN] at hw;exact ⟨_,⟨_,_,_,_,_,_,_,_,_,by rw [← hNN];rfl,hw,hBi.le (h15.t (hS2.t hs2)),Bts.nil _ none 0 O⟩,rfl⟩
  refine qcN Z Tt Z [_,_,_,_,_,_,_,_,_,_] Z Z fun β17 s17 h17=>qar 4 V<|Jb Z Tt Z Z Z (AC.pub (qaG D _ _ _ _ _ _ (hIn.le (e12.t h13|>.t h17)) O)) ?_;rintro _ _ s18 h18 ⟨rfl,Mi,swi,⟨Ai1,ci1,rfl,_,_,hOi⟩,hswi,hcwi⟩;have e18:=e12.t h13|>.t h17|>.t h18;refine ⟨fun _ _ h=>h,?_⟩;have hBi:=Own.bts hOi hcwi;refine za 5 Z (qak [(_,_),(_,_)] [_,_,_,_,_,_,_,_,_,_] Z Z Z Z Z Z) Z<|qar 7 V<|Wu Z Tt 0 [_,_,_,_,_,_,_,_,_,_] Y9 (sM (sbN (qdw (sbE _))))<|qaf V<|Zt<|Sr<|W0 Y5<|Wl 0 Y6<|Zqm Z Z<|qfP 1 Z Z Z Z Z Z Z (hIm.row.le e18) O (by simp) Z Z<|Nt<|Sr<|qad (qao 0 [_,_,_,_,_,_,_,_,_,_] Z Z Z Z Z) Z<|qad (qak [] [_,_] Z Z Z Z Z Z) Z ?_;refine Wt 4 [_,_,_,_,_,_,_,_,_,_] Y9<|Wt 3 [_,_] Y9<|Nt<|Zo<|?_;exact rR [] _ (.agg (us:=[_,_,_,_,_,_,_,_,_,_]) 4 Z Z Z Z Z (.agg (us:=[_,_]) 3 Z Z Z Z Z (.nil))) Z e18 fun _ hS2=>Cz18
 ·refine Jb Z Tt Z Z Z (AC.pub (qaG D _ _ _ _ _ _ (hIn.le e12) O)) ?_;rintro _ _ s20 h20 ⟨rfl,Mi,swi,⟨Ai1,ci1,rfl,_,_,hOi⟩,hswi,hcwi⟩;have e20:=e12.t h20;refine ⟨fun _ _ h=>h,?_⟩;have hBi:=Own.bts hOi hcwi;refine qeR 2 6 V ?_ ?_
  ·refine qng Z Tt Z Z Z Z Z (by simp [ti46];omega) O Z fun bc s21 h21=>za 5 Z (qak [(_,_),(_,_)] [_,_,_,_,_,_,_,_,_,_] Z Z Z Z Z Z) Z<|qar 6 V<|qcN Z Tt Z [_,_,_,_,_,_,_,_,_,_] Z Z fun β22 s22 h22=>qar 7 V<|Wu Z Tt 0 [_,_,_,_,_,_,_,_,_,_] Y9 (sM (sbN (qdw (sbE _))))<|qaf V<|Zt<|Sr<|W0 Y5<|Wl 0 Y6<|Zqm Z Z<|qfP 1 Z Z Z Z Z Z Z (hIm.row.le (e20.t h21|>.t h22)) O (by simp) Z Z<|Nt<|Sr<|qad (qao 0 [_,_,_,_,_,_,_,_,_,_] Z Z Z Z Z) Z<|qad (qak [] [_,_] Z Z Z Z Z Z) Z<|Wt 4 [_,_,_,_,_,_,_,_,_,_] Y9<|Wt 3 [_,_] Y9 ?_;refine Nt<|Zo<|?_;refine rR [] _ (.agg (us:=[_,_,_,_,_,_,_,_,_,_]) 4 Z Z Z Z Z (.agg (us:=[_,_]) 3 Z Z Z Z Z (.nil))) Z (e20.t h21|>.t h22) fun _ hS2=>?_;refine ⟨[_,_,_,_,_,_],Z,fun s2 hs2 hp=>?_⟩;rw [qfG hst0 hlong hin];have hw:=qew (hp bc (wv l++(List.replicate N (Value.int .u32 0)).drop l.length) 46 (by simp)) hu O O;have hNN:t.cells.toNat=N:=by omega
   rw [← hNN] at hw;exact ⟨_,⟨_,_,_,_,_,_,_,_,_,by rw [← hNN];rfl,hw,hBi.le (h21.t h22|>.t (hS2.t hs2)),Bts.nil _ none 0 O⟩,rfl⟩
  refine qcN Z Tt Z [_,_,_,_,_,_,_,_,_,_] Z Z fun β24 s24 h24=>qar 2 V<|qng Z Tt Z Z Z Z Z (by simp [ti46];omega) O Z fun bc s25 h25=>za 5 Z (qak [(_,_),(_,_)] [_,_,_,_,_,_,_,_,_,_] Z Z Z Z Z Z) Z<|qar 7 V<|Wu Z Tt 1 [_,_,_,_,_,_,_,_,_,_] Y9 (sM (sbN (qdw (sbE _))))<|qaf V<|Zt<|Sr<|W0 Y5<|Wl 1 Y6<|Zqm Z Z<|qfP 0 Z Z Z Z Z Z Z (hIm.row.le (e20.t h24|>.t h25)) O (by simp) Z Z<|Nt<|Sr<|qad (qao 1 [_,_,_,_,_,_,_,_,_,_] Z Z Z Z Z) Z<|qad (qak [] [_,_] Z Z Z Z Z Z) Z ?_;refine Wt 4 [_,_,_,_,_,_,_,_,_,_] Y9<|Wt 3 [_,_] Y9<|Nt<|Zo<|?_;refine rR [] _ (.agg (us:=[_,_,_,_,_,_,_,_,_,_]) 4 Z Z Z Z Z (.agg (us:=[_,_]) 3 Z Z Z Z Z (.nil))) Z (e20.t h24|>.t h25) fun _ hS2=>?_;refine ⟨[_,_,_,_,_,_],Z,fun s2 hs2 hp=>?_⟩;rw [qfG hst0 hlong hin];have hw:=qew (hp bc (wv l++(List.replicate N (Value.int .u32 0)).drop l.length) 46 (by simp)) hu O O;have hNN:t.cells.toNat=N:=by omega
  rw [← hNN] at hw;exact ⟨_,⟨_,_,_,_,_,_,_,_,_,by rw [← hNN];rfl,hw,hBi.le (h24.t h25|>.t (hS2.t hs2)),Bts.nil _ none 0 O⟩,rfl⟩
 refine qcN Z Tt Z [_,_,_,_,_,_,_,_,_,_] Z Z fun β27 s27 h27=>qeR 2 4 V ?_ ?_;·refine qng Z Tt Z Z Z Z Z (by simp [ti46];omega) O Z fun bc s28 h28=>qar 4 V<|Jb Z Tt Z Z Z (AC.pub (qaG D _ _ _ _ _ _ (hIn.le (e12.t h27|>.t h28)) O)) ?_;rintro _ _ s29 h29 ⟨rfl,Mi,swi,⟨Ai1,ci1,rfl,_,_,hOi⟩,hswi,hcwi⟩;have e29:=e12.t h27|>.t h28|>.t h29;refine ⟨fun _ _ h=>h,?_⟩;have hBi:=Own.bts hOi hcwi;refine za 5 Z (qak [(_,_),(_,_)] [_,_,_,_,_,_,_,_,_,_] Z Z Z Z Z Z) Z<|qar 7 V<|Wu Z Tt 1 [_,_,_,_,_,_,_,_,_,_] Y9 (sM (sbN (qdw (sbE _))))<|qaf V<|Zt<|Sr<|W0 Y5<|Wl 1 Y6<|Zqm Z Z<|qfP 0 Z Z Z Z Z Z Z (hIm.row.le e29) O (by simp) Z Z<|Nt<|Sr<|qad (qao 1 [_,_,_,_,_,_,_,_,_,_] Z Z Z Z Z) Z<|qad (qak [] [_,_] Z Z Z Z Z Z) Z ?_;refine Wt 4 [_,_,_,_,_,_,_,_,_,_] Y9<|Wt 3 [_,_] Y9<|Nt<|Zo<|?_;exact rR [] _ (.agg (us:=[_,_,_,_,_,_,_,_,_,_]) 4 Z Z Z Z Z (.agg (us:=[_,_]) 3 Z Z Z Z Z (.nil))) Z e29 fun _ hS2=>Cz18
 refine Jb Z Tt Z Z Z (AC.pub (qaG D _ _ _ _ _ _ (hIn.le (e12.t h27)) O)) ?_;rintro _ _ s31 h31 ⟨rfl,Mi,swi,⟨Ai1,ci1,rfl,_,_,hOi⟩,hswi,hcwi⟩;refine ⟨fun _ _ h=>h,?_⟩;have hBi:=Own.bts hOi hcwi;refine qar 2 V<|qng Z Tt Z Z Z Z Z (by simp [ti46];omega) O Z fun bc s32 h32=>za 5 Z (qak [(_,_),(_,_)] [_,_,_,_,_,_,_,_,_,_] Z Z Z Z Z Z) Z<|qar 7 V<|Wu Z Tt 1 [_,_,_,_,_,_,_,_,_,_] Y9 (sM (sbN (qdw (sbE _))))<|qaf V<|Zt<|Sr<|W0 Y5<|Wl 1 Y6<|Zqm Z Z<|qfP 0 Z Z Z Z Z Z Z (hIm.row.le (e12.t h27|>.t h31|>.t h32)) O (by simp) Z Z<|Nt<|Sr<|qad (qao 1 [_,_,_,_,_,_,_,_,_,_] Z Z Z Z Z) Z<|qad (qak [] [_,_] Z Z Z Z Z Z) Z ?_;refine Wt 4 [_,_,_,_,_,_,_,_,_,_] Y9<|Wt 3 [_,_] Y9<|Nt<|Zo<|?_;refine rR [] _ (.agg (us:=[_,_,_,_,_,_,_,_,_,_]) 4 Z Z Z Z Z (.agg (us:=[_,_]) 3 Z Z Z Z Z (.nil))) Z (e12.t h27|>.t h31|>.t h32) fun _ hS2=>?_;refine ⟨[_,_,_,_,_,_],Z,fun s2 hs2 hp=>?_⟩;rw [qfG hst0 hlong hin];have hw:=qew (hp bc (wv l++(List.replicate N (Value.int .u32 0)).drop l.length) 46 (by simp)) hu O O;have hNN:t.cells.toNat=N:=by omega
 rw [← hNN] at hw;exact ⟨_,⟨_,_,_,_,_,_,_,_,_,by rw [← hNN];rfl,hw,hBi.le (h32.t (hS2.t hs2)),Bts.nil _ none 0 O⟩,rfl⟩
def qzC(D:Nat)(L:Hl)(s:World)(t:Tab)(A:Option Addr)(n c:Nat)(hA:Inss s A n c t.ins)(m:Mst)(Ax Bx Ox:Option Addr)(nAx cAx nBx cBx nOx cOx:Nat)(hAx:Wds s Ax nAx cAx m.cells)(hBx:Bts s Bx nBx cBx m.input)(hOx:Bts s Ox nOx cOx m.output)(hU:MU m)(k:Int):AC Tryz.prog D 60 [.agg #[.int .i64 t.cells,.slice A n c],.agg #[.slice Ax nAx cAx,.int .u32 m.r0,.int .u32 m.r1,.int .u32 m.r2,.int .u32 m.r3,.int .u32 m.r4,.slice Bx nBx cBx,.slice Ox nOx cOx,.int .i64 m.stop,.int .u32 m.code],.int .i64 k] L s fun v L' s'=>L=L'∧∃ vs,StW s' (qkK t m k).1 vs∧v=.tuple #[vs,.int .i64 (qkK t m k).2.1,.agg #[.int .i64 (qkK t m k).2.2.1,.int .i64 (qkK t m k).2.2.2]]:=AC.pubW (qwj D L s t A n c hA m Ax Bx Ox nAx cAx nBx cBx nOx cOx hAx hBx hOx hU k)
def qrZ(D:Nat)(L:Hl)(s:World)(t:Tab)(A:Option Addr)(n c:Nat)(hA:Inss s A n c t.ins)(A1:Option Addr)(n1 c1:Nat)(l:List Int)(hIm:Wds s A1 n1 c1 l)(A2:Option Addr)(n2 c2:Nat)(i:List UInt8)(hIn:Bts s A2 n2 c2 i):AC Tryz.prog D 58 [.agg #[.int .i64 t.cells,.slice A n c],.slice A1 n1 c1,.slice A2 n2 c2] L s fun v L' s'=>L=L'∧∃ vs,StW s' (qbW t l i).1 vs∧v=.tuple #[vs,.agg #[.int .i64 (qbW t l i).2.1,.int .i64 (qbW t l i).2.2]]:=AC.pubW (qpC D L s t A n c hA A1 n1 c1 l hIm A2 n2 c2 i hIn)
def qy6(t:Tab)(l:List Int)(i:List UInt8)(k:Int):List UInt8×Int×Int×Int:=((qfN t (qcD t l i) k.toNat).1.output,(qfN t (qcD t l i) k.toNat).1.stop,(qfN t (qcD t l i) k.toNat).1.code,((qfN t (qcD t l i) k.toNat).2:Int))
def qhx(t:Tab)(l:List Int)(i:List UInt8)(k:Int):(List UInt8×Int×Int×Int)×Int×Int:=
 if (qa3 t l i).1≠0 then (([],0,0,0),qa3 t l i) else if k < 0∨50000000 < k then (([],0,0,0),4,-4) else (qy6 t l i k,0,0)
def OutW(s:World)(o:List UInt8×Int×Int×Int)(v:Value):Prop:=∃ A n c,v=.agg #[.slice A n c,.int .i64 o.2.1,.int .u32 o.2.2.1,.int .i64 o.2.2.2]∧Bts s A n c o.1
def OutW.zero(s:World):OutW s ([],0,0,0) (.agg #[.slice none 0 0,.int .i64 0,.int .u32 0,.int .i64 0]):=⟨none,0,0,rfl,Bts.nil _ _ _ O⟩
def qpE{t:Tab}{l:List Int}{i:List UInt8}{s:World}{A A1:Option Addr}{n c n1 c1:Nat}(hA:Inss s A n c t.ins)(h1:Wds s A1 n1 c1 l)(h:(qa3 t l i).1=0){k:Int}(hk:¬ (k < 0∨50000000 < k)) :
  qkK t (qbW t l i).1 k=((qfN t (qcD t l i) k.toNat).1,((qfN t (qcD t l i) k.toNat).2:Int),0,0):=by
 obtain ⟨h0,h2,h3⟩:=qwm h;obtain ⟨k1,k2,k3⟩:=qmZ (qAo hA h0) h2 h3 h1.u32;rw [qzE h,qpg (by rw [qwy h0 k1 k2 k3]) hk]
def Cz19{p:Prop} (h:p:=by
 rw [show qhx t l i k=(([],0,0,0),4,-4) by simp only [qhx];rw [if_neg (by simpa using hsf),if_pos hfar]];exact ⟨rfl,_,OutW.zero _,rfl⟩):p:=h
def qmr(D:Nat)(L:Hl)(s:World)(t:Tab)(A:Option Addr)(n c:Nat)(hA:Inss s A n c t.ins)(A1:Option Addr)(n1 c1:Nat)(l:List Int)(hIm:Wds s A1 n1 c1 l)(A2:Option Addr)(n2 c2:Nat)(i:List UInt8)(hIn:Bts s A2 n2 c2 i)(k:Int):AC Tryz.prog D 31 [.agg #[.int .i64 t.cells,.slice A n c],.slice A1 n1 c1,.slice A2 n2 c2,.int .i64 k] L s fun v L' s'=>L=L'∧∃ vs,OutW s' (qhx t l i k).1 vs∧v=.tuple #[vs,.agg #[.int .i64 (qhx t l i k).2.1,.int .i64 (qhx t l i k).2.2]]:=by
 refine qae (fn:=Tryz.f31) qav Tryz.func31 V Z Tryz.ntmps31 Z (rs:=[.cell 8 78,.cell 9 27]) Z [(0,_),(1,_),(2,_),(3,_)] Z<|Sr<|qay Z Z fun β1 s1 h1=>qag Z [_,_,_,_] Z Z fun β2 s2 h2=>qag Z [_,_] Z Z fun β3 s3 h3=>Nt<|Sr<|qad (qao 2 [_,_] Z Z Z Z Z) Z<|Zqm Z Z<|Zqm Z Z<|Jc Z Z Z (qrZ D _ _ _ _ _ _ (hA.le (h1.t h2|>.t h3)) _ _ _ _ (hIm.le (h1.t h2|>.t h3)) _ _ _ _ (hIn.le (h1.t h2|>.t h3))) ?_;have e3:=h1.t h2|>.t h3;rintro _ _ s4 h4 ⟨rfl,_,⟨Aa,na,ca,Ba,nBa,cBa,Oa,nOa,cOa,rfl,hAa,hBa,hOa⟩,rfl⟩;have e4:=e3.t h4;refine Zqm Z Z<|Zqx Z Z Z<|Zqx Z Z Z<|qag Z [_,_,_,_,_,_,_,_,_,_] Z Z fun β5 s5 h5=>qag Z [_,_] Z Z fun β6 s6 h6=>Wt 1 [_,_,_,_,_,_,_,_,_,_] Y9<|Wt 0 [_,_] Y9<|Nt<|Zs<|Sr<|qad (qao 0 [_,_] Z Z Z Z Z) Z<|qad (qak [] [_,_] Z Z Z Z Z Z) Z<|qad (qb9 Z Z (qbL _ _ _ _)) Z<|Nt<|?_;have e6:=e4.t h5|>.t h6;refine qaM Z ?_ ?_<;>intro c7;·have hbad:(qa3 t l i).1≠0:=fun h=>c7 (by rw [qzE h];exact ⟨rfl,rfl⟩);refine Zs<|qaH qac 4 Z [3,2] (by intro x hx;exact qas hx) fun s8 h8=>za 0 Z (qak [] [_,_,_,_] Z Z Z Z Z Z) Z<|za 1 Z (qao 0 [_,_] Z Z Z Z Z) Z<|qar 2 V<|Wu Z Tt 3 [_,_,_,_] Y9 (sM (qet (sbN (sbY (sbE _)))))<|qar 3 V<|Wu Z Tt 2 [_,_] Y9 (sM (qet (sbN (sbY (sbE _)))))<|qaf V<|Zt<|Zo<|Zu<|?_;refine rR [_,_,_,_,_] L (.agg (us:=[_,_,_,_]) 3 Z Z Z Z Z (.agg (us:=[_,_]) 2 Z Z Z Z Z (.nil))) Z (e6.t h8) fun _ hS2=>?_;rw [show qhx t l i k=(([],0,0,0),qa3 t l i) by simp only [qhx];rw [if_pos hbad]];exact ⟨rfl,_,OutW.zero _,by rw [qum hbad];rfl⟩
 have hsf:(qa3 t l i).1=0:=by
   by_cases h:(qa3 t l i).1=0
   · exact h
   · have hc:=c7.1;rw [qum h] at hc;exact absurd hc h
 refine Zk<|Zt<|Zs<|Sr<|Zqm Z Z<|qa8 Z Z Z<|Zqm Z Z<|?_;refine qai (t:=28) Z ?_ ?_<;>intro c9
 ·refine Wf Y4<|Wf Y4<|ZqT Z Z Z<|Nt<|Zy Z<|?_;have hfar:k < 0∨50000000 < k:=by omega
  refine Sr<|qad (qak [] [_,_,_,_] Z Z Z Z Z Z) Z<|Je Z Z Z (qby D _ _ _ _) fun s10 h10=>Wt 3 [_,_,_,_] Y9<|Wt 2 [_,_] Y9<|Nt<|Zo<|Zu<|?_;exact rR [_,_,_,_,_] L (.agg (us:=[_,_,_,_]) 3 Z Z Z Z Z (.agg (us:=[_,_]) 2 Z Z Z Z Z (.nil))) Z (e6.t h10) fun _ hS2=>Cz19
 refine Zg Z Z<|Zqm Z Z<|Zg Z Z<|qbl Z Z Z<|ZqF Z Z Z<|Nt<|?_;refine qaa Z ?_ ?_<;>intro c11
 ·have hfar:k < 0∨50000000 < k:=by omega
  refine Sr<|qad (qak [] [_,_,_,_] Z Z Z Z Z Z) Z<|Je Z Z Z (qby D _ _ _ _) fun s12 h12=>Wt 3 [_,_,_,_] Y9<|Wt 2 [_,_] Y9<|Nt<|Zo<|Zu<|?_;exact rR [_,_,_,_,_] L (.agg (us:=[_,_,_,_]) 3 Z Z Z Z Z (.agg (us:=[_,_]) 2 Z Z Z Z Z (.nil))) Z (e6.t h12) fun _ hS2=>Cz19
 have hin:¬ (k < 0∨50000000 < k):=by omega
 have hrr:=qpE hA hIm hsf hin;refine Zk<|Zt<|Sr<|qad (qao 4 [_,_] Z Z Z Z Z) Z<|qad (qao 1 [_,_,_,_,_,_,_,_,_,_] Z Z Z Z Z) Z<|Zqm Z Z<|Jc Z Z Z (qzC D _ _ _ _ _ _ (hA.le e6) (qbW t l i).1 _ _ _ _ _ _ _ _ _ (hAa.le (h5.t h6)) (hBa.le (h5.t h6)) (hOa.le (h5.t h6)) (qzS _ _ _) k) ?_;rintro _ _ s13 h13 ⟨rfl,_,⟨Ar,nr,cr,Br,nBr,cBr,Or,nOr,cOr,rfl,hAr,hBr,hOr⟩,rfl⟩;refine Zqm Z Z<|Zqx Z Z Z<|Zqx Z Z Z<|Zqx Z Z Z<|qag Z [_,_,_,_,_,_,_,_,_,_] Z Z fun β14 s14 h14=>Wt 0 [_,_,_,_,_,_,_,_,_,_] Y9<|Zqa Z Z<|Wt 1 [_,_] Y9<|Nt<|Zs<|Sr<|qad (qao 1 [_,_] Z Z Z Z Z) Z<|qad (qak [] [_,_] Z Z Z Z Z Z) Z<|qad (qb9 Z Z (qbL _ _ _ _)) Z<|Nt<|?_;refine qaM Z ?_ ?_<;>intro c15;·exact absurd (by rw [hrr];exact ⟨rfl,rfl⟩) c15
 refine Zk<|Zt<|Sr<|Wb Y5<|Wl 0 Y6<|Wb Y5<|Wl 0 Y6<|Wb Y5<|Wl 0 Y6<|Zqm Z Z<|qad (qak [(_,_),(_,_),(_,_),(_,_)] [_,_,_,_] Z Z Z Z Z Z) Z<|qad (qak [] [_,_] Z Z Z Z Z Z) Z<|Wt 4 [_,_,_,_] Y9<|Wt 3 [_,_] Y9<|Nt<|Zo<|?_;refine rR [_,_,_,_,_,_] L (.agg (us:=[_,_,_,_]) 4 Z Z Z Z Z (.agg (us:=[_,_]) 3 Z Z Z Z Z (.nil))) Z (e6.t h13|>.t h14) fun _ hS2=>?_;rw [show qhx t l i k=(qy6 t l i k,0,0) by simp only [qhx];rw [if_neg (by simpa using hsf),if_neg hin]];refine ⟨Z,_,⟨Or,nOr,cOr,?_,?_⟩,Z⟩
 · rw [hrr];rfl
 · rw [hrr] at hOr;exact hOr.le (h14.t hS2)
end Go.Proofs.YtflplmcjbppfcaaGreatDoor
namespace Go.Proofs.YtflplmcjbppfcaaGreatDoor
open Go Go.FL
def qbH(c:Int):List UInt8→List UInt8→List (List UInt8)
 | cur,[]=>[cur]
 | cur,x::r=>if (x.toNat:Int)=c then cur::qbH c [] r else qbH c (cur++[x]) r
def splitB(c:Int)(l:List UInt8):List (List UInt8):=qbH c [] l
def qmY(c:Int)(cur l:List UInt8):(qbH c cur l).length≤l.length+1:=by
 induction l generalizing cur with
 | nil=>simp [qbH]
 | cons x r ih=>
  simp only [qbH];split
  · simp only [List.length_cons];have:=ih [];omega
  · simp only [List.length_cons];have:=ih (cur++[x]);omega
def qdx(c:Int)(cur l:List UInt8):∀ p∈qbH c cur l,p.length≤cur.length+l.length:=by
  induction l generalizing cur with
  | nil=>intro p hp;simp [qbH] at hp;subst hp;simp
  | cons x r ih=>
    intro p hp;simp only [qbH] at hp;split at hp
    · rcases List.mem_cons.1 hp with rfl|hp
      · simp only [List.length_cons];omega
      · have:=ih [] p hp;simp only [List.length_nil,List.length_cons] at this ⊢;omega
    · have:=ih (cur++[x]) p hp;simp only [List.length_append,List.length_cons,List.length_nil] at this ⊢;omega
def qj0{l:List UInt8}{c:Int}{i f:Nat}{x:UInt8}(h:l[i]?=some x)(hx:(x.toNat:Int)=c):qbH c ((l.drop f).take (i - f)) (l.drop i)=((l.drop f).take (i - f))::qbH c ((l.drop (i+1)).take ((i+1) - (i+1))) (l.drop (i+1)):=by
 obtain ⟨hi,rfl⟩:=List.getElem?_eq_some_iff.1 h;rw [List.drop_eq_getElem_cons hi];simp only [qbH,hx,if_true,Nat.sub_self,List.take_zero]
def qh1{l:List UInt8}{c:Int}{i f:Nat}{x:UInt8}(h:l[i]?=some x)(hx:¬ (x.toNat:Int)=c)(hf:f≤i):qbH c ((l.drop f).take (i - f)) (l.drop i)=qbH c ((l.drop f).take ((i+1) - f)) (l.drop (i+1)):=by
 obtain ⟨hi,rfl⟩:=List.getElem?_eq_some_iff.1 h;rw [List.drop_eq_getElem_cons hi];simp only [qbH,hx,if_false];congr 1;rw [show i+1 - f=(i - f)+1 by omega,List.take_add_one,List.getElem?_drop,show f+(i - f)=i by omega,List.getElem?_eq_getElem hi];rfl
def qpv{l:List UInt8}{c:Int}{f:Nat}:qbH c ((l.drop f).take (l.length - f)) (l.drop l.length)=[l.drop f]:=by
 rw [List.drop_length,List.take_of_length_le (by simp)];rfl
def sb(l:List (List UInt8)):List Value:=l.map fun x=>St x
def qkM(l:List (List UInt8))(x:List UInt8):sb (l++[x])=sb l++[St x]:=by simp [sb]
def Own.strs{e:Nat}{A:Hl}{Ad:Option Addr}{n c:Nat}{l:List (List UInt8)}{s:World}(h:FL.Own e 1 A (.slice Ad n c) n (sb l))(hu:∀ x∈l,x.length≤9223372036854775807)(hp:Pub A s)(hn:n=l.length):Strs s Ad n c l:=by
 have he:sb l=(l.map fun x=>[St x]).flatten:=by
  clear h hu hn;induction l with
  | nil=>rfl
  | cons x r ih=>simp [sb] at ih ⊢;exact ih
 rw [he] at h;refine Own.rows h hp ?_ hn;clear h he hn;induction l with
 | nil=>exact .nil
 | cons x r ih=>exact .cons ⟨rfl,rfl,hu x Mc⟩ (ih fun y hy=>hu y (List.mem_cons_of_mem _ hy))
def qBG(x:Int):U32 (w32 x):=⟨by unfold w32;omega,by unfold w32;omega⟩
open Go.FL
attribute [local irreducible] JC JO JA JB qaZ qaL qb4 AC fill CellsAt QE Ev Mid
def qmx(css:List (List Value))(cs:List Value):(css++[cs]).flatten=css.flatten++cs:=by simp
def qpu(D:Nat)(L:Hl)(s:World)(l:List UInt8)(c:Int)(hl:l.length≤1000000000):AC Tryz.prog D 55 [St l,.int .u8 c] L s fun v L' s'=>∃ M',L'=M'++L∧∀ s2,Le D s' s2→Pub M' s2→∃ A n c',v=.slice A n c'∧Strs s2 A n c' (splitB c l):=by
 refine qae (fn:=Tryz.f55) qav Tryz.func55 V Z Tryz.ntmps55 Z (rs:=[.tmp 4]) Z [(0,_),(1,_)] Z<|Sr<|At Z Z<|Sr<|At Z Z<|Sr<|At Z Z<|Zs<|Sr<|At Z Z<|Zp<|?_;refine qaA (γ:=Nat×Nat×Value×Hl×List (List UInt8)) (fun g=>[(0,_),(1,_),(4,_),(5,g.2.2.1),(6,.int .i64 (g.2.1:Int)),(7,.int .i64 (g.1:Int))]) (fun g=>g.2.2.2.1++L) (fun g tw=>Le D s tw∧(g.1≤l.length∧g.2.1≤g.1∧FL.Own 9 1 g.2.2.2.1 g.2.2.1 g.2.2.2.2.length (sb g.2.2.2.2)∧g.2.2.2.2.length≤g.1∧splitB c l=g.2.2.2.2++qbH c ((l.drop g.2.1).take (g.1 - g.2.1)) (l.drop g.1))) (fun g=>l.length - g.1) (fun _ _ _ h hl=>⟨h.1.trans hl,h.2⟩) (0,0,.slice none 0 0,[],[]) (.c6 Z Z Z Z Z Z (.nil _)) Z ⟨Le.refl _,⟨Nat.zero_le _,Nat.le_refl _,Own.nil,Nat.le_refl _,by simp [splitB]⟩⟩ ?_;intro g s1 I1;obtain ⟨i,f,vo,Mo,out⟩:=g;obtain ⟨hi0,hf,hO,hol,hS⟩:=I1.2;simp only at hi0 hf hO hol hS;dsimp only;refine Zs<|Sr<|Zqm Z Z<|Zqm Z Z<|qfg Z Z Z Z<|qa8 Z Z Z<|Nt<|?_;refine qaa Z ?_ ?_<;>intro c2
 ·have hk:i < l.length:=by omega
  obtain ⟨ch,hch⟩:∃ ch,l[i]?=some ch:=⟨_,List.getElem?_eq_getElem hk⟩;refine Zk<|Zt<|Zs<|Zp<|Sr<|Zqm Z Z<|Zqm Z Z<|qad (qd8 Z Z Z Z hch) Z<|Zqm Z Z<|qax Z Z Z<|Nt<|?_;refine qaa Z ?_ ?_<;>intro c3;·have hne:=c3;refine Sr<|Zqm Z Z<|Zqm Z Z<|Zqm Z Z<|Zqm Z Z<|qad (quP Z Z Z Z Z O O) Z<|qa4 [(_,_)] [_] Z Z Z Z Z Z Z Z Z fun βn s4 h4 hcb=>qbq (sz:=1) [] Mo L Z Z Z Z Z Z Z hO (Row.of_cells (hcb.le (Lr D)) Z Z) ⟨by simp [ti9];omega,by omega⟩ Z ?_;intro v2 A2x s5 h5 o2;obtain ⟨Av2,cv2,rfl,_,_⟩:=Own.slice o2;simp only [List.nil_append];refine At Z Z<|Zr<|Zqm Z Z<|qaD Z Z Z (w64 O O)<|Zqa Z Z<|Zn<|Zb<|Zt<|Zr<|Zqm Z Z<|qaD Z Z Z (w64 O O)<|Zqa Z Z<|Zn<|?_;refine qab ⟨(i+1,i+1,.slice Av2 (out.length+1) cv2,A2x,out++[(l.drop f).take (i - f)]),[],kp,Z,⟨(I1.1.t h4|>.t h5),by first|exact ⟨by simp only;omega,by simp only;omega,by simp only [List.length_append,List.length_cons,List.length_nil,qkM];exact o2,by simp;omega,by simp only;rw [hS,qj0 hch hne,List.append_assoc];rfl⟩|exact ⟨by simp only;omega,by simp only;omega,hO,by simp only;omega,by simp only;rw [hS,qh1 hch hne hf]⟩⟩,Oz⟩
  have hne:=c3;refine Zk<|Zb<|Zt<|Zr<|Zqm Z Z<|qaD Z Z Z (w64 O O)<|Zqa Z Z<|Zn<|?_;refine qab ⟨(i+1,f,vo,Mo,out),[],kp,Z,⟨I1.1,by first|exact ⟨by simp only;omega,by simp only;omega,by simp only [List.length_append,List.length_cons,List.length_nil,qkM];exact o2,by simp;omega,by simp only;rw [hS,qj0 hch hne,List.append_assoc];rfl⟩|exact ⟨by simp only;omega,by simp only;omega,hO,by simp only;omega,by simp only;rw [hS,qh1 hch hne hf]⟩⟩,Oz⟩
 have hiE:i=l.length:=by omega
 subst hiE;rw [qpv] at hS;refine Zl<|Zv<|Zv<|Zd<|Zt<|Sr<|Zqm Z Z<|Zqm Z Z<|Zqm Z Z<|qad (qtK Z Z Z Z O) Z<|qa4 [(_,_)] [_] Z Z Z Z Z Z Z Z Z fun βn s6 h6 hcb=>qbq (sz:=1) [] Mo L Z Z Z Z Z Z Z hO (Row.of_cells (hcb.le (Lr D)) Z Z) ⟨by simp [ti9];omega,by omega⟩ Z ?_;intro v2 A2x s7 h7 o2;obtain ⟨Av2,cv2,rfl,_,_⟩:=Own.slice o2;simp only [List.nil_append];refine At Z Z<|Zo<|?_;refine rR [] _ (.t1 Z) Z (I1.1.t h6|>.t h7) fun _ hS2=>?_;refine ⟨_,Z,fun s2 hs2 hp=>⟨_,_,_,Z,?_⟩⟩;rw [hS];exact Own.strs (by rw [qkM];exact o2) (fun x hx=>by rw [← hS] at hx;have:=qdx c [] l x hx;simp at this;omega) hp (by simp)
def qiL(D:Nat)(L:Hl)(s:World)(l:List UInt8)(c:Int)(hl:l.length≤1000000000):AC Tryz.prog D 55 [St l,.int .u8 c] L s fun v L' s'=>L=L'∧∃ A n c',v=.slice A n c'∧Strs s' A n c' (splitB c l):=AC.pubW (qpu D L s l c hl)
end Go.Proofs.YtflplmcjbppfcaaGreatDoor
namespace Go.FL
open Go Go.RowKit
section
variable{P:Program}{D:Nat}{L:Hl}{s:World}
def AC.of_calls{f:FuncId}{args:List Value}{R:Value→Hl→World→Prop}(hf:qh5 P f)
  (h:OKL D L s→Calls P f args.toArray (fill L s) fun e w'=>∃ v,e=.returned v∧Below (fill L s).heap.size (fill L s) w'∧∀ s',w'=fill L s'→Le D s s'→(∀ k,s.heap.size≤k→s'.heap[k]?=w'.heap[k]?)→R v L s'):AC P D f args L s R:=
 ⟨hf,fun ho=>(h ho).mono fun e w' ⟨v,he,hb,hr⟩=>by
  obtain ⟨e1,o1,l1⟩:=qzs ho hb;refine ⟨v,L,qcy D L w',he,e1,o1,l1,hr _ e1 l1 fun k hk=>qc7 fun hm=>?_⟩;obtain ⟨x,hx,rfl⟩:=List.mem_map.1 hm;have:=ho.lt hx;omega⟩
def qc1(w:World):Below w.heap.size w w:=Below.refl _ _
def qmJ(l:List Obj):∃ D,∀ E,D≤E→∀ o∈l,o≠dum E:=by
  induction l with
  | nil=>exact ⟨0,fun _ _ _ h=>by cases h⟩
  | cons x l ih=>
    obtain ⟨D,h⟩:=ih;by_cases hx:∃ E,x=dum E
    · obtain ⟨E0,rfl⟩:=hx
      refine ⟨D+E0+1,fun E hE o ho=>?_⟩;rcases List.mem_cons.1 ho with rfl|ho
      · intro e;simp only [dum] at e;injection e;omega
      · exact h E O o ho
    · refine ⟨D,fun E hE o ho=>?_⟩
      rcases List.mem_cons.1 ho with rfl|ho
      · exact fun e=>hx ⟨E,e⟩
      · exact h E hE o ho
def qkD(W:World):∃ D,∀ k:Nat,W.heap[k]?≠some (dum D):=by
 obtain ⟨D,h⟩:=qmJ W.heap.toList;refine ⟨D,fun k hk=>h D (Nat.le_refl _) _ ?_ Z⟩;rw [← Array.getElem?_toList] at hk;exact List.mem_of_getElem? hk
def qeY{f:FuncId}{args:List Value}{W:World}{v0:Value}(h:∀ D,AC P D f args [] W fun v L' _=>v=v0∧[]=L') :
  Calls P f args.toArray W fun e w'=>e=.returned v0∧Below W.heap.size W w':=by
 obtain ⟨D,hD⟩:=qkD W;refine ((h D).2 ⟨List.nodup_nil,fun _ h=>by cases h⟩).mono ?_;rintro e w' ⟨v,L',s',he,hw,_,hl,hv,hL⟩;subst hL;have hw':w'=s':=hw;subst hw';refine ⟨by rw [he,hv],⟨hl.os,hl.tape,hl.output,hl.size,fun k hk=>?_⟩⟩;rcases hl.block k hk with h1|h1
 · exact absurd h1 (hD k)
 · exact h1
end
end Go.FL
namespace Go.Proofs.YtflplmcjbppfcaaGreatDoor
open Go Go.FL Go.RowKit
def fnd(c:UInt8):List UInt8→Option Nat
 | []=>none
 | x::l=>if x=c then some 0 else (fnd c l).map (·+1)
def qt4:Option Nat→Int
 | none=>-1
 | some i=>(i:Int)
def qt5{c:UInt8}{l:List UInt8}{i:Nat}(h:fnd c l=some i):i < l.length:=by
  induction l generalizing i with
  | nil=>cases h
  | cons x l ih=>
    simp only [fnd] at h;split at h
    · injection h with h;subst h;simp
    · cases h':fnd c l with
      | none=>rw [h'] at h;cases h
      | some j=>rw [h'] at h;simp at h;have:=ih h';simp;omega
def qfp(l:List UInt8)(c:UInt8):Lib.indexByte l c=qt4 (fnd c l):=by
  induction l with
  | nil=>rfl
  | cons x l ih=>
    simp only [Lib.indexByte,fnd];by_cases h:x=c
    · simp [h,qt4]
    · simp only [beq_iff_eq,h,if_false,ih]
      cases fnd c l with
      | none=>simp [qt4]
      | some i=>
        have h1:¬ (i:Int)=-1:=by omega
        show (if (i:Int)=-1 then (-1:Int) else (i:Int)+1)=((i+1:Nat):Int);rw [if_neg h1];rfl
def u8_eq{x c:UInt8}:x=c↔(x.toNat:Int)=(c.toNat:Int):=by
 constructor
 · rintro rfl;rfl
 · intro h;exact UInt8.toNat_inj.1 O
def qeA(c:UInt8)(l:List UInt8):List UInt8×List UInt8×Bool:=match fnd c l with
 | none=>(l,[],false)
 | some i=>(l.take i,l.drop (i+1),true)
def qmX(c:UInt8)(cur l:List UInt8):qbH (c.toNat:Int) cur l=match fnd c l with|none=>[cur++l]|some i=>(cur++l.take i)::splitB (c.toNat:Int) (l.drop (i+1)):=by
  induction l generalizing cur with
  | nil=>simp [qbH,fnd]
  | cons x l ih=>
    simp only [qbH,fnd];by_cases h:x=c
    · simp [h,splitB]
    · have h':¬ (x.toNat:Int)=(c.toNat:Int):=fun e=>h (u8_eq.2 e)
      simp only [h,if_false,h',ih];cases fnd c l with
      | none=>simp
      | some i=>simp
def qf7(c:UInt8)(l:List UInt8):splitB (c.toNat:Int) l=match fnd c l with|none=>[l]|some i=>l.take i::splitB (c.toNat:Int) (l.drop (i+1)):=by
 rw [splitB,qmX];cases fnd c l<;>simp
def qgX(c:UInt8)(l:List UInt8):l.count c=match fnd c l with|none=>0|some i=>(l.drop (i+1)).count c+1:=by
  induction l with
  | nil=>rfl
  | cons x l ih=>
    simp only [fnd];by_cases h:x=c
    · simp [h]
    · rw [List.count_cons]
      simp only [beq_iff_eq,h,if_false,Nat.add_zero];rw [ih];cases fnd c l with
      | none=>rfl
      | some i=>simp
open Go.Proofs.Tryz
structure GW(s:World):Prop where
 pow:∃ ty fz,s.heap[laysM284_ren.g 17]?=some (.cells (Lib.pow10Tab.map fun z=>Value.int .u64 z).toArray ty fz)
 es:∃ t p,s.cell? ⟨laysPu14_ren.g 0,0,none⟩=some (.iface t p)
 er:∃ t p,s.cell? ⟨laysPu14_ren.g 1,0,none⟩=some (.iface t p)
def qoo{D:Nat}{s s':World}{k:Nat}{cs:Array Value}{ty:TypeId}{fz:Nat×Nat}(h:s.heap[k]?=some (.cells cs ty fz))(hl:Le D s s'):s'.heap[k]?=some (.cells cs ty fz):=by
 have hk:k < s.heap.size:=by
  rcases Nat.lt_or_ge k s.heap.size with h1|h1
  · exact h1
  · rw [Array.getElem?_eq_none h1] at h;cases h
 rcases hl.block k hk with h1|h1
 · rw [h] at h1;simp [dum] at h1
 · rw [h1,h]
def GW.le{D:Nat}{s s':World}(h:GW s)(hl:Le D s s'):GW s':=by
 obtain ⟨⟨t,f,h1⟩,⟨t2,p2,h2⟩,⟨t3,p3,h3⟩⟩:=h;exact ⟨⟨t,f,qoo h1 hl⟩,⟨t2,p2,hl.cell h2⟩,⟨t3,p3,hl.cell h3⟩⟩
def quq{w:World}{nm:String}(hg:prog.globalNamed nm=some (laysM284_ren.g 17))(h:GW w):Lib.TabIs prog w nm .u64 Lib.pow10Tab:=by
 obtain ⟨t,f,h1⟩:=h.pow;simp only [Lib.TabIs,World.var?,hg,Option.bind_some,h1]
section
variable(D:Nat)(L:Hl)(s:World)
def qok:qh5 prog 48:=⟨_,func48,by kernel_rfl,by kernel_rfl⟩
def qmA:qh5 prog 198:=⟨_,func198,by kernel_rfl,by kernel_rfl⟩
def qkw:qh5 prog 134:=⟨_,func134,by kernel_rfl,by kernel_rfl⟩
def qmz:qh5 prog 167:=⟨_,func167,by kernel_rfl,by kernel_rfl⟩
def qky:qh5 prog 136:=⟨_,func136,by kernel_rfl,by kernel_rfl⟩
def qvT(hG:GW s)(n:Int)(h0:-9223372036854775808≤n)(h1:n≤9223372036854775807):AC prog D 48 [.int .i64 n] L s fun v L' _=>v=St (Lib.itoa n)∧L=L':=
 AC.of_calls qok fun ho=>(Any.strconv_Itoa laysM171 n h0 h1 (fill L s) (quq laysM171.m17 (hG.le (qei ho)))).mono fun e w' ⟨he,k,os,hw⟩=>by
  refine ⟨_,he,?_,fun s' _ _ _=>⟨Z,Z⟩⟩;rw [hw];exact ⟨rfl,rfl,rfl,by simp [Sort.grow],fun j hj=>by simp [Sort.grow,Array.getElem?_append_left hj]⟩
def qre(l:List UInt8)(c:UInt8):AC prog D 167 [St l,St [c]] L s fun v L' _=>v=.int .i64 (qt4 (fnd c l))∧L=L':=
 AC.of_calls qmz fun _=>(Any.stringslite_Index_one lays219 ⟨l.toArray⟩ c (fill L s)).mono fun e w' ⟨he,hw⟩=>by
  refine ⟨_,he,by rw [hw];exact qc1 _,fun s' _ _ _=>⟨?_,Z⟩⟩;show Value.int .i64 (Lib.indexByte l c)=_;rw [qfp]
def qjq(c:UInt8)(l:List UInt8):Bool:=decide (l.getLast?=some c)
def qm2(l:List UInt8)(c:UInt8):Lib.hasSuffix l [c]=qjq c l:=by
  rw [Lib.hasSuffix,qjq];rw [Bool.eq_iff_iff,List.isSuffixOf_iff_suffix,decide_eq_true_eq];constructor
  · rintro ⟨t,rfl⟩;simp
  · intro h
    obtain ⟨t,ht⟩:=List.getLast?_eq_some_iff.1 h;exact ⟨t,ht.symm⟩
def qjl(l:List UInt8)(c:UInt8)(hl:l.length≤9223372036854775807):AC prog D 136 [St l,St [c]] L s fun v L' _=>v=.tuple #[St (if qjq c l then l.dropLast else l),.bool (qjq c l)]∧L=L':=
 AC.of_calls qky fun _=>(Any.strings_CutSuffix lays104 ⟨l.toArray⟩ ⟨#[c]⟩ (fill L s) (by simpa [Lib.size_eq] using hl)).mono fun e w' ⟨he,hw⟩=>by
  refine ⟨_,he,by rw [hw];exact qc1 _,fun s' _ _ _=>⟨?_,Z⟩⟩;show Value.tuple #[.string ⟨(Lib.trimSuffix l [c]).toArray⟩,.bool (Lib.hasSuffix l [c])]=_;rw [Lib.trimSuffix,qm2];simp [List.dropLast_eq_take]
inductive PuV:List UInt8→Value→Prop
 | ok (l:List UInt8) (u:Nat) (h:Lib.parseUintB 32 l=.ok u):PuV l (.tuple #[.int .u64 u,.nilIface])
 | bad (l:List UInt8) (h:∀ u,Lib.parseUintB 32 l≠.ok u) (n:Int) (t:TypeId) (p:Value):PuV l (.tuple #[.int .u64 n,.iface t p])
def qrC(hG:GW s)(l:List UInt8)(hl:l.length≤281474976710656):AC prog D 198 [St l,.int .i64 10,.int .i64 32] L s fun v L' _=>PuV l v∧L=L':=
  AC.of_calls qmA fun ho=>by
    have hw:=hG.le (qei ho);have hs:(⟨l.toArray⟩:ByteArray).size≤281474976710656:=by simpa [Lib.size_eq] using hl
    by_cases hok:∃ u,Lib.parseUintB 32 l=.ok u
    · obtain ⟨u,hp⟩:=hok
      refine (Any.strconv_ParseUint_10_at32_ok laysPu14 ⟨l.toArray⟩ O u hp (fill L s)).mono fun e w' ⟨he,hw'⟩=>⟨_,he,?_,fun s' _ _ _=>⟨.ok l u hp,Z⟩⟩;rcases hw' with rfl|rfl
      · exact qc1 _
      · exact Go.Joins.below_bytesWorld _ _ _ _ (Nat.le_refl _)
    · have hno:∀ u,Lib.parseUintB 32 l≠.ok u:=fun u h=>hok ⟨u,h⟩
      by_cases hr:Lib.parseUintB 32 l=.range
      · obtain ⟨te,pe,h1⟩:=hw.er
        refine (Any.strconv_ParseUint_10_at32_range laysPu14 ⟨l.toArray⟩ hs hr _ (fill L s) h1 (.inr ⟨te,pe,Z⟩)).mono fun e w' ⟨N,he,_,_,hb⟩=>⟨_,he,hb,fun s' _ _ _=>⟨.bad l hno _ _ _,Z⟩⟩
      · obtain ⟨te,pe,h1⟩:=hw.es
        refine (Any.strconv_ParseUint_10_at32_syntax laysPu14 ⟨l.toArray⟩ hs (by cases h:Lib.parseUintB 32 l<;>simp_all) _ (fill L s) h1 (.inr ⟨te,pe,Z⟩)).mono fun e w' ⟨N,he,_,_,hb⟩=>⟨_,he,hb,fun s' _ _ _=>⟨.bad l hno _ _ _,Z⟩⟩
end
open Go.FL
attribute [local irreducible] JC JO JA JB qaZ qaL qb4 AC fill CellsAt QE Ev Mid
def qgM(D:Nat)(L:Hl)(s:World)(c i:Int):AC prog D 62 [.int .i64 c,.int .i64 i] L s fun v L' _=>v=.agg #[.int .i64 c,.int .i64 i]∧L=L':=by
 refine qae (fn:=f62) qav func62 V Z ntmps62 Z (rs:=[.cell 4 27]) Z [(0,_),(1,_)] Z<|Sr<|qag Z [_,_] Z Z fun β1 s1 h1=>Nt<|Sr<|Zqm Z Z<|Zqm Z Z<|qad (qak [(_,_),(_,_)] [_,_] Z Z Z Z Z Z) Z<|Wt 0 [_,_] Y9<|Nt<|Zo<|?_;exact rR [_] L (.agg (us:=[_,_]) 0 Z Z Z Z Z (.nil)) Z h1 fun _ hS2=>⟨rfl,rfl⟩
def qp1{p:Prop} (h:p:=by
 exact ⟨by simp_all [qbP]<;>omega,rfl⟩):p:=h
def qmE(D:Nat)(L:Hl)(s:World)(r:Int):AC prog D 171 [.int .i32 r] L s fun v L' _=>v=.bool (decide ((r < 97∨122 < r)∧(r < 48∨57 < r)))∧L=L':=by
 refine qae (fn:=f171) qav func171 V Z ntmps171 Z (rs:=[.tmp 2]) Z [(0,_)] Z<|Sr<|At Z Z<|Sr<|Zqm Z Z<|qa8 Z Z Z<|Zqm Z Z<|?_;refine qai (t:=5) Z ?_ ?_<;>intro c1
 ·refine Wf Y4<|Wf Y4<|ZqT Z Z Z<|Zqm Z Z<|Zg Z Z<|Zqm Z Z<|Zg Z Z<|qa8 Z Z Z<|Zg Z Z<|Zqm Z Z<|?_;refine qai (t:=12) Z ?_ ?_<;>intro c2;·refine Wf Y4<|Wf Y4<|Zg Z Z<|ZqT Z Z Z<|ZqT Z Z Z<|At Z Z<|Zo<|?_;exact rR [] L (.t1 Z) Z (Lr D) fun _ hS2=>qp1
  refine Zg Z Z<|Zqm Z Z<|Zg Z Z<|qbl Z Z Z<|Zg Z Z<|ZqF Z Z Z<|ZqT Z Z Z<|At Z Z<|Zo<|?_;exact rR [] L (.t1 Z) Z (Lr D) fun _ hS2=>qp1
 refine Zg Z Z<|Zqm Z Z<|Zg Z Z<|qbl Z Z Z<|ZqF Z Z Z<|Zqm Z Z<|?_;refine qai (t:=9) Z ?_ ?_<;>intro c3
 ·refine Zg Z Z<|Zqm Z Z<|Zg Z Z<|qa8 Z Z Z<|Zg Z Z<|Zqm Z Z<|?_;refine qai (t:=12) Z ?_ ?_<;>intro c4;·refine Wf Y4<|Wf Y4<|Zg Z Z<|ZqT Z Z Z<|ZqT Z Z Z<|At Z Z<|Zo<|?_;exact rR [] L (.t1 Z) Z (Lr D) fun _ hS2=>qp1
  refine Zg Z Z<|Zqm Z Z<|Zg Z Z<|qbl Z Z Z<|Zg Z Z<|ZqF Z Z Z<|ZqT Z Z Z<|At Z Z<|Zo<|?_;exact rR [] L (.t1 Z) Z (Lr D) fun _ hS2=>qp1
 refine Wf Y4<|Wf Y4<|Wf Y4<|Zh Z Z Z<|Zh Z Z Z<|Wf Y4<|ZqF Z Z Z<|At Z Z<|Zo<|?_;exact rR [] L (.t1 Z) Z (Lr D) fun _ hS2=>qp1
def qjL(D:Nat)(L:Hl)(s:World)(r:Int):AC prog D 135 [.int .i32 r] L s fun v L' _=>v=.bool (decide (r=32))∧L=L':=by
 refine qae (fn:=f135) qav func135 V Z ntmps135 Z (rs:=[.tmp 2]) Z [(0,_)] Z<|Sr<|At Z Z<|Sr<|Zqm Z Z<|qax Z Z Z<|At Z Z<|Zo ?_;exact rR [] L (.t1 Z) Z (Lr D) fun _ hS2=>⟨rfl,rfl⟩
end Go.Proofs.YtflplmcjbppfcaaGreatDoor
namespace Go.Proofs.YtflplmcjbppfcaaGreatDoor
open Go.Proofs.Tryz
open Go Go.FL Go.RowKit
def qfl:qh5 prog 170:=⟨_,func170,by kernel_rfl,by kernel_rfl⟩
def qmC:qh5 prog 96:=⟨_,func96,by kernel_rfl,by kernel_rfl⟩
def qjG(l:List UInt8)(c:UInt8):Lib.index l [c]=Lib.indexByte l c:=by
  induction l with
  | nil=>rfl
  | cons b l ih=>
    simp only [Lib.index,Lib.indexByte,ih,List.isPrefixOf];by_cases h:b=c
    · simp [h]
    · have h':¬ c=b:=fun e=>h e.symm
      simp [h,h']
def qos(l:List UInt8)(c:UInt8):Lib.index l [c]=qt4 (fnd c l):=by rw [qjG,qfp]
def qgS(l:List UInt8)(a b:Nat):(⟨l.toArray⟩:ByteArray).extract a b=⟨((l.drop a).take (b - a)).toArray⟩:=by
 apply ByteArray.ext;simp [ByteArray.data_extract]
def qmW(c:UInt8)(k:Nat)(l:List UInt8)(h:l.count c=k):Lib.splitB ⟨#[c]⟩ 0 k ⟨l.toArray⟩=(splitB (c.toNat:Int) l).map fun x=>⟨x.toArray⟩:=by
 induction k generalizing l with
 | zero=>
  rw [qf7];have:=qgX c l;cases hf:fnd c l with
  | none=>simp [Lib.splitB]
  | some i=>rw [hf] at this;simp only at this;omega
 | succ k ih=>
  have hc:=qgX c l;rw [qf7];cases hf:fnd c l with
  | none=>rw [hf] at hc;simp only at hc;omega
  | some i=>
   rw [hf] at hc;simp only at hc;have hi:Lib.indexB ⟨l.toArray⟩ ⟨#[c]⟩=(i:Int):=by
    show Lib.index l [c]=_;rw [qos,hf];rfl
   have h1:¬ (i:Int)=-1:=by omega
   simp only [Lib.splitB,hi,beq_iff_eq,h1,if_false,List.map_cons];have e1:(⟨l.toArray⟩:ByteArray).extract 0 ((i:Int).toNat+0)=⟨(l.take i).toArray⟩:=by rw [qgS];simp
   have e2:(⟨l.toArray⟩:ByteArray).extract ((i:Int).toNat+(⟨#[c]⟩:ByteArray).size) (⟨l.toArray⟩:ByteArray).size=⟨(l.drop (i+1)).toArray⟩:=by
    rw [qgS];have:(⟨#[c]⟩:ByteArray).size=1:=rfl;rw [this];have h2:(⟨l.toArray⟩:ByteArray).size=l.length:=by simp [Lib.size_eq]
    rw [h2,List.take_of_length_le (by simp)];simp
   rw [e1,e2,ih _ O]
def qhg(c:UInt8)(l:List UInt8):(splitB (c.toNat:Int) l).length=l.count c+1:=by
 generalize hn:l.length=n;induction n using Nat.strongRecOn generalizing l with
 | ind n ih=>
  rw [qf7,qgX];cases hf:fnd c l with
  | none=>rfl
  | some i=>
   simp only [List.length_cons];rw [ih (l.drop (i+1)).length (by have:=qt5 hf;simp;omega) _ rfl]
section
variable(D:Nat)(L:Hl)(s:World)
def qhJ{s':World}{A:Nat}{l:List (List UInt8)}{ty:TypeId}{fz:Nat×Nat}(h:s'.heap[A]?=some (.cells ((l.map fun x=>(⟨x.toArray⟩:ByteArray)).map Value.string).toArray ty fz))(hu:∀ x∈l,x.length≤9223372036854775807)(hn:l.length≤9223372036854775807):Strs s' (some ⟨A,0,none⟩) l.length l.length l:=by
 refine ⟨Z,Nat.le_refl _,hn,fun i x hi=>⟨A,0,[St x],Z,?_,Z,Z,hu x (List.mem_of_getElem? hi)⟩⟩;refine CellsAt.one ?_;simp [World.cell?,h,hi]
def qkz(l:List UInt8)(c:UInt8)(hl:l.length≤4000000):AC prog D 96 [St l,St [c],.int .i64 0,.int .i64 (-1)] L s fun v L' s'=>L=L'∧∃ A n c',v=.slice A n c'∧Strs s' A n c' (splitB (c.toNat:Int) l):=
  AC.of_calls qmC fun ho=>by
    have hsz:(⟨l.toArray⟩:ByteArray).size=l.length:=by simp [Lib.size_eq]
    have h1:(⟨#[c]⟩:ByteArray).size=1:=rfl;have hcnt:Lib.countB ⟨l.toArray⟩ ⟨#[c]⟩=l.count c:=Lib.count_one c l;have hcl:l.count c≤l.length:=List.count_le_length;refine (Any.strings_genSplit_core lays221 V ⟨l.toArray⟩ ⟨#[c]⟩ 0 (-1) (l.count c+1) (fill L s) O O O
      (fun x cs hx=>?_) ?_ Dc Dc (by rw [if_pos Dc,hcnt,hsz];omega)).mono ?_
    · refine (Any.strings_Index_one { lays221 with } x c _).mono fun e w' ⟨he,hw⟩=>⟨?_,hw⟩
      rw [he];show _=Ending.returned (.int .i64 (Lib.index x.data.toList [c]));rw [qjG]
    · refine (Any.strings_Count_one { lays221 with } ⟨l.toArray⟩ c _).mono fun e w' ⟨he,hw⟩=>⟨?_,hw⟩
      rw [he,hcnt];rfl
    · rintro e w' ⟨he,hw⟩
      rw [Nat.add_sub_cancel,qmW c _ l rfl] at he hw;have hlen:=qhg c l;refine ⟨_,he,by rw [hw];exact (Below.refl _ _).alloc (Nat.le_refl _) _,fun s' _ _ hnew=>⟨Z,_,_,_,Z,?_⟩⟩;have hs':=hnew (fill L s).heap.size (by rw [qaN];exact Nat.le_refl _);rw [hw,heap_alloc_new] at hs';have e2:Lib.cellsOf ((splitB (c.toNat:Int) l).map fun x=>(⟨x.toArray⟩:ByteArray)) (l.count c+1)=(((splitB (c.toNat:Int) l).map fun x=>(⟨x.toArray⟩:ByteArray)).map Value.string).toArray:=by
        have:=Lib.cellsOf_full ((splitB (c.toNat:Int) l).map fun x=>(⟨x.toArray⟩:ByteArray));rw [List.length_map,hlen] at this;exact this
      rw [e2] at hs';rw [← hlen,List.length_map];exact qhJ hs' (fun x hx=>by have:=qdx (c.toNat:Int) [] l x hx;simp at this;omega) O
def qkd(c:UInt8):Bool:=!(qgf c || qfM c)
def qtS(x:Nat):Bool:=decide (((x:Int) < 97∨122 < (x:Int))∧((x:Int) < 48∨57 < (x:Int)))
def qi9(c:UInt8):qtS c.toNat=qkd c:=by
 simp only [qtS,qkd,qgf,qfM];rw [Bool.eq_iff_iff];simp only [decide_eq_true_eq,Bool.not_eq_true',Bool.or_eq_false_iff,Bool.and_eq_false_iff,decide_eq_false_iff_not];omega
def qtR{l:List UInt8}{pos:Nat}(h:pos < (⟨l.toArray⟩:ByteArray).size):∃ c,l[pos]?=some c∧(⟨l.toArray⟩:ByteArray)[pos]'h=c:=by
 have h':pos < l.length:=by simpa [Lib.size_eq] using h
 exact ⟨l[pos],List.getElem?_eq_getElem h',by simp [ByteArray.getElem_eq_getElem_data]⟩
def qor(l:List UInt8)(f pos:Nat)(h:l.length≤pos+f):decide (0≤Lib.idxFuncFrom qtS true ⟨l.toArray⟩ f pos)=(l.drop pos).any qkd:=by
  have hsz:(⟨l.toArray⟩:ByteArray).size=l.length:=by simp [Lib.size_eq]
  induction f generalizing pos with
  | zero=>rw [List.drop_of_length_le O];rfl
  | succ f ih=>
    by_cases hp:pos < (⟨l.toArray⟩:ByteArray).size
    · obtain ⟨c,hc,hg⟩:=qtR hp
      have hd:l.drop pos=c::l.drop (pos+1):=by
        obtain ⟨h1,h2⟩:=List.getElem?_eq_some_iff.1 hc;rw [List.drop_eq_getElem_cons h1,h2]
      rw [hd,List.any_cons];by_cases ha:c.toNat < 128
      · have e:=decode_ascii ⟨l.toArray⟩ pos hp (by rw [hg];exact ha)
        simp only [Lib.idxFuncFrom,hp,if_true,e,hg,qi9];cases hb:qkd c with
        | true=>simp
        | false=>simpa using ih (pos+1) O
      · have e:=(decode_high ⟨l.toArray⟩ pos hp (by rw [hg];omega)).1
        have hb:qkd c=true:=by rw [← qi9];simp only [qtS,decide_eq_true_eq];omega
        have hr:qtS (Utf8.decode ⟨l.toArray⟩ pos).1=true:=by simp only [qtS,decide_eq_true_eq];omega
        simp only [Lib.idxFuncFrom,hp,if_true,hr,hb];simp
    · rw [Lib.idxFuncFrom_end _ _ _ _ _ hp,List.drop_of_length_le O];rfl
def qko:∀ args w,(callFunc 171 args).run prog w=.ok (.enter 171 args) w:=enters_of func171 V rfl
def qjs:∀ args w,(callFunc 135 args).run prog w=.ok (.enter 135 args) w:=enters_of func135 V rfl
def qkh(l:List UInt8):AC prog D 170 [St l,.func (.func 171) #[] #[]] L s fun v L' _=>v=.bool (l.any qkd)∧L=L':=
  AC.of_calls qfl fun _=>by
    refine (Any.strings_ContainsFunc_grows laysGw17 171 #[] qko qtS ⟨l.toArray⟩ (fill L s) (fun W x _ _=>?_)).mono ?_
    · exact qeY (args:=[.int .i32 (x:Int)]) fun D=>qmE D [] W x
    · rintro e w' ⟨he,hb⟩
      refine ⟨_,he,hb,fun s' _ _ _=>⟨?_,Z⟩⟩;have:=qor l (⟨l.toArray⟩:ByteArray).size 0 (by simp [Lib.size_eq]);rw [List.drop_zero] at this;rw [← this];rfl
def qgm:List UInt8→List UInt8→List (List UInt8)
 | cur,[]=>if cur=[] then [] else [cur]
 | cur,x::r=>if x=32 then (if cur=[] then qgm [] r else cur::qgm [] r) else qgm (cur++[x]) r
def qiU(l:List UInt8):List (List UInt8):=(splitB 32 l).filter fun x=>decide (x≠[])
def qeB(cur l:List UInt8):(qbH 32 cur l).filter (fun x=>decide (x≠[]))=qgm cur l:=by
  induction l generalizing cur with
  | nil=>by_cases h:cur=[]<;>simp [qbH,qgm,h]
  | cons x l ih=>
    have hx:((x.toNat:Int)=32)↔x=32:=(u8_eq (c:=32)).symm;by_cases h:x=32
    · by_cases hc:cur=[]<;>simp [qbH,qgm,h,hc,← ih]
    · have h':¬ (x.toNat:Int)=32:=fun e=>h (hx.1 e)
      simp only [qbH,qgm,h,h',if_false,ih]
def qgz(cur m r:List UInt8)(h:∀ x∈m,x≠32):qgm cur (m++r)=qgm (cur++m) r:=by
 induction m generalizing cur with
 | nil=>simp
 | cons x m ih=>
  have hx:x≠32:=h x Mc;simp only [List.cons_append,qgm,hx,if_false];rw [ih _ (fun y hy=>h y (List.mem_cons_of_mem _ hy))];simp
def qrc(l:List UInt8)(pos:Nat)(hp:pos < l.length)(c:UInt8)(hc:l[pos]?=some c)(ha:¬ c.toNat < 128) :
    ∃ K,(Utf8.decode ⟨l.toArray⟩ pos).2=K∧1≤K∧pos+K≤l.length∧∀ x∈(l.drop pos).take K,x≠32:=by
  have hsz:(⟨l.toArray⟩:ByteArray).size=l.length:=by simp [Lib.size_eq]
  have g:∀ i,(⟨l.toArray⟩:ByteArray).get! i=l.getD i 0:=by
    intro i;show (l.toArray)[i]! = _;simp [List.getD_eq_getElem?_getD];rfl
  have hd:=Lib.decode_at ⟨l.toArray⟩ pos;rw [hsz,g,g,g,g] at hd;have h0:l.getD pos 0=c:=by simp [List.getD_eq_getElem?_getD,hc]
  rw [h0] at hd;have key:∀ (K:Nat),1≤K→K≤4→pos+K≤l.length→(∀ j,1≤j→j < K→128≤(l.getD (pos+j) 0).toNat)→∀ x∈(l.drop pos).take K,x≠32:=by
    intro K h1 h4 hK hall x hx e;obtain ⟨j,hj,hxj⟩:=List.mem_iff_getElem.1 hx;have hjK:j < K:=by simp at hj;omega
    have hv:l.getD (pos+j) 0=x:=by
      rw [← hxj];simp [List.getD_eq_getElem?_getD];rw [List.getElem?_eq_getElem O];rfl
    by_cases hj0:j=0
    · subst hj0;simp only [Nat.add_zero] at hv;rw [h0] at hv;subst e;subst hv;exact ha Dc
    · have:=hall j O hjK
      rw [hv,e] at this;exact absurd this Dc
  refine ⟨_,Z,?_⟩;rw [hd];unfold Lib.decodeN;rw [if_neg ha];split
  · rename_i h2
    split
    · refine ⟨by simp only;omega,by simp only;omega,key 2 O O O (fun j h1 hj=>?_)⟩
      obtain rfl:j=1:=by omega
      omega
    · exact ⟨by simp only;omega,by simp only;omega,key 1 O O O (fun j h1 hj=>by omega)⟩
  · split
    · rename_i h2 h3
      split
      · refine ⟨by simp only;omega,by simp only;omega,key 3 O O O (fun j h1 hj=>?_)⟩
        rcases (by omega:j=1∨j=2) with rfl|rfl<;>omega
      · exact ⟨by simp only;omega,by simp only;omega,key 1 O O O (fun j h1 hj=>by omega)⟩
    · split
      · rename_i h2 h3 h4
        split
        · refine ⟨by simp only;omega,by simp only;omega,key 4 O O O (fun j h1 hj=>?_)⟩
          rcases (by omega:j=1∨j=2∨j=3) with rfl|rfl|rfl<;>omega
        · exact ⟨by simp only;omega,by simp only;omega,key 1 O O O (fun j h1 hj=>by omega)⟩
      · exact ⟨by simp only;omega,by simp only;omega,key 1 O O O (fun j h1 hj=>by omega)⟩
def qqw(x:Nat):Bool:=decide ((x:Int)=32)
def qfu(l:List UInt8)(x:Nat×Nat):List UInt8:=(l.drop x.1).take (x.2 - x.1)
def qna(l:List UInt8)(pos:Nat):Option Nat→List UInt8
 | none=>[]
 | some a=>(l.drop a).take (pos - a)
def qpI(l:List UInt8){a pos K:Nat}(h:a≤pos):(l.drop a).take (pos+K - a)=(l.drop a).take (pos - a)++(l.drop pos).take K:=by
 have:pos+K - a=(pos - a)+K:=by omega
 rw [this,List.take_add,List.drop_drop];have e:a+(pos - a)=pos:=by omega
 rw [e]
def qjZ(l:List UInt8)(pos:Nat)(st:Option Nat)(acc:List (Nat×Nat))(h:l.length≤pos)(hst:∀ a,st=some a→a < pos∧pos≤l.length) :
  (Lib.closeSpans ⟨l.toArray⟩ (acc,st)).map (qfu l)=acc.map (qfu l)++qgm (qna l pos st) (l.drop pos):=by
 have hsz:(⟨l.toArray⟩:ByteArray).size=l.length:=by simp [Lib.size_eq]
 rw [List.drop_of_length_le h];cases st with
 | none=>simp [Lib.closeSpans,qna,qgm]
 | some a=>
  obtain ⟨h1,h2⟩:=hst a rfl;have hp:pos=l.length:=by omega
  subst hp;have hne:(l.drop a).take (l.length - a)≠[]:=by
   intro e;have:=congrArg List.length e;simp at this;omega
  simp [Lib.closeSpans,qna,qgm,hne,qfu,hsz]
def qps(l:List UInt8)(f pos:Nat)(st:Option Nat)(acc:List (Nat×Nat))(h:l.length≤pos+f)(hst:∀ a,st=some a→a < pos∧pos≤l.length) :
    (Lib.closeSpans ⟨l.toArray⟩ (Lib.spansFromP qqw ⟨l.toArray⟩ f pos st acc)).map (qfu l)=acc.map (qfu l)++qgm (qna l pos st) (l.drop pos):=by
  have hsz:(⟨l.toArray⟩:ByteArray).size=l.length:=by simp [Lib.size_eq]
  induction f generalizing pos st acc with
  | zero=>exact qjZ l pos st acc O hst
  | succ f ih=>
    by_cases hp:pos < (⟨l.toArray⟩:ByteArray).size
    · obtain ⟨c,hc,hg⟩:=qtR hp
      have hpl:pos < l.length:=by omega
      have hd:l.drop pos=c::l.drop (pos+1):=by
        obtain ⟨h1,h2⟩:=List.getElem?_eq_some_iff.1 hc;rw [List.drop_eq_getElem_cons h1,h2]

      have go:∀ K,(Utf8.decode ⟨l.toArray⟩ pos).2=K→qqw (Utf8.decode ⟨l.toArray⟩ pos).1=false→1≤K→pos+K≤l.length→(∀ x∈(l.drop pos).take K,x≠32) →
          (Lib.closeSpans ⟨l.toArray⟩ (Lib.spansFromP qqw ⟨l.toArray⟩ (f+1) pos st acc)).map (qfu l)=acc.map (qfu l)++qgm (qna l pos st) (l.drop pos):=by
        intro K hK hb h1 h2 hall;have hrun:qgm (qna l pos st) (l.drop pos)=qgm (qna l pos st++(l.drop pos).take K) (l.drop (pos+K)):=by
          conv=>lhs;rw [← List.take_append_drop K (l.drop pos),List.drop_drop]
          exact qgz _ _ _ hall
        rw [hrun];simp only [Lib.spansFromP,hp,if_true,hb,hK,Bool.false_eq_true,if_false];cases st with
        | none=>
          simp only;rw [ih (pos+K) (some pos) acc O (fun a ha=>by injection ha with ha;omega)];simp only [qna,List.nil_append];congr 3;omega
        | some a=>
          obtain ⟨ha1,ha2⟩:=hst a rfl;simp only;rw [ih (pos+K) (some a) acc O (fun a' ha=>by injection ha with ha;omega)];simp only [qna];rw [qpI l O]
      by_cases ha:c.toNat < 128
      · have e:=decode_ascii ⟨l.toArray⟩ pos hp (by rw [hg];exact ha)
        rw [hg] at e;by_cases h32:c=32
        · have hb:qqw (Utf8.decode ⟨l.toArray⟩ pos).1=true:=by rw [e,h32];rfl
          rw [hd];simp only [Lib.spansFromP,hp,if_true,hb];cases st with
          | none=>
            simp only [e];rw [ih (pos+1) none acc O (fun a ha=>by cases ha)];simp [qna,qgm,h32]
          | some a=>
            obtain ⟨ha1,ha2⟩:=hst a rfl;have hne:(l.drop a).take (pos - a)≠[]:=by
              intro e;have:=congrArg List.length e;simp at this;omega
            simp only [e];rw [ih (pos+1) none _ O (fun a ha=>by cases ha)];simp [qna,qgm,h32,hne,qfu]
        · refine go 1 (by rw [e]) ?_ O O ?_
          · rw [e]
            simp only [qqw,decide_eq_false_iff_not];exact fun h=>h32 ((u8_eq (c:=32)).2 h)
          · rw [hd];simpa using h32
      · obtain ⟨K,hK,h1,h2,h3⟩:=qrc l pos hpl c hc ha
        refine go K hK ?_ h1 h2 h3;have:=(decode_high ⟨l.toArray⟩ pos hp (by rw [hg];omega)).1;simp only [qqw,decide_eq_false_iff_not];omega
    · rw [Lib.spansFromP_end _ _ _ _ _ _ hp]
      exact qjZ l pos st acc O hst
def qq9(l:List UInt8):Lib.goFieldsP qqw ⟨l.toArray⟩=(qiU l).map fun x=>⟨x.toArray⟩:=by
 have hsz:(⟨l.toArray⟩:ByteArray).size=l.length:=by simp [Lib.size_eq]
 have h:=qps l (⟨l.toArray⟩:ByteArray).size 0 none [] O (fun a ha=>by cases ha);simp only [List.map_nil,List.nil_append,qna,List.drop_zero] at h;rw [← qeB] at h;show (Lib.closeSpans ⟨l.toArray⟩ (Lib.spansFromP qqw ⟨l.toArray⟩ (⟨l.toArray⟩:ByteArray).size 0 none [])).map (fun x=>(⟨l.toArray⟩:ByteArray).extract x.1 x.2)=_;rw [qiU,splitB,← h,List.map_map];congr 1;funext x;simp only [Function.comp,qgS,qfu]
def qof{l x:List UInt8}(h:x∈qiU l):x≠[]∧x.length≤l.length:=by
 obtain ⟨h1,h2⟩:=List.mem_filter.1 h;have:=qdx 32 [] l x h1;exact ⟨by simpa using h2,by simpa using this⟩
def qvM(l:List UInt8):(qiU l).length≤l.length+1:=Nat.le_trans (List.length_filter_le _ _) (qmY 32 [] l)
def qoc(l:List UInt8)(hl:l.length≤4000000):AC prog D 134 [St l,.func (.func 135) #[] #[]] L s fun v L' s'=>L=L'∧∃ A n c',v=.slice A n c'∧Strs s' A n c' (qiU l):=
  AC.of_calls qkw fun _=>by
    have hsz:(⟨l.toArray⟩:ByteArray).size=l.length:=by simp [Lib.size_eq]
    refine (Any.strings_FieldsFunc_grows lays229 135 #[] qjs qqw ⟨l.toArray⟩ (fill L s) O (fun W x _ _=>?_) V V).mono ?_
    · exact qeY (args:=[.int .i32 (x:Int)]) fun D=>qjL D [] W x
    · rintro e w' ⟨A,he,hA,hown,hb⟩
      refine ⟨_,he,hb,fun s' _ _ hnew=>⟨Z,_,_,_,Z,?_⟩⟩;rw [qq9,List.length_map] at hown ⊢;rcases hown.2 with ⟨h0,_⟩|⟨g,cap,cur,h1,h2,h3,h4,h5,h6,h7⟩
      · cases h0
      · injection h1 with h1 _ hcap
        injection h1 with h1;injection h1 with h1;subst h1;subst hcap;rw [← hnew A (by rw [qaN] at hA;exact hA)] at h3;have hcur:cur=(((qiU l).map fun x=>(⟨x.toArray⟩:ByteArray)).map Value.string).toArray:=by
          have e1:cur.toList=((qiU l).map fun x=>(⟨x.toArray⟩:ByteArray)).map Value.string:=by
            rw [← h7,List.take_of_length_le (by rw [Array.length_toList,h6];exact Nat.le_refl _)]
          rw [← e1,Array.toArray_toList]
        rw [hcur] at h3;exact qhJ h3 (fun x hx=>by have:=(qof hx).2;omega) (by have:=qvM l;omega)
end
open Go Go.FL
def qiQ(acc:Nat)(l:List UInt8):Nat:=l.foldl (fun a c=>a * 10+(c.toNat - 48)) acc
def qgT(l:List UInt8):Bool:=decide (l≠[]) && l.all qfM && (decide (l.length≤1) || decide (l.head?≠some 48))
def qjJ(l:List UInt8):Option Nat:=if qgT l=true∧qiQ 0 l < 4294967296 then some (qiQ 0 l) else none
def qeJ(acc:Nat):qiQ acc []=acc:=rfl
def qdi(acc:Nat)(c:UInt8)(r:List UInt8):qiQ acc (c::r)=qiQ (acc * 10+(c.toNat - 48)) r:=by unfold qiQ;rw [List.foldl_cons]
def qtt(c:UInt8):qiQ 0 [c]=c.toNat - 48:=by rw [qdi,qeJ,Nat.zero_mul,Nat.zero_add]
attribute [local irreducible] qiQ
def qj4(l:List UInt8)(c:UInt8)(acc:Nat):qiQ acc (l++[c])=qiQ acc l * 10+(c.toNat - 48):=by
 induction l generalizing acc with
 | nil=>rw [List.nil_append,qdi,qeJ,qeJ]
 | cons x l ih=>rw [List.cons_append,qdi,qdi];exact ih _
def qpS(l:List UInt8)(acc:Nat):acc≤qiQ acc l:=by
 induction l generalizing acc with
 | nil=>rw [qeJ];exact Nat.le_refl _
 | cons x l ih=>have:=ih (acc * 10+(x.toNat - 48));rw [qdi];omega
def qoY{M acc:Nat}{l:List UInt8}(hM:M < 1844674407370955162)(h:l.all qfM=true)(hv:qiQ acc l≤M):Lib.parseUintM M acc l=.ok (qiQ acc l):=by
 induction l generalizing acc with
 | nil=>rw [qeJ];rfl
 | cons c l ih=>
  simp only [List.all_cons,Bool.and_eq_true,qfM,decide_eq_true_eq] at h;rw [qdi] at hv ⊢;have h1:=qpS l (acc * 10+(c.toNat - 48));simp only [Lib.parseUintM];rw [if_pos h.1,if_neg O,if_neg O];exact ih (by simpa [qfM] using h.2) hv
def qjn{u:Nat}(h:u < 10):(UInt8.ofNat (48+u)).toNat=48+u:=by simp;omega
def qfU(u:Nat):qiQ 0 (Lib.decDigits u)=u:=by
 induction u using Nat.strongRecOn with
 | _ u ih=>
  by_cases h:u < 10
  · rw [Lib.decDigits,dif_pos h];rw [qtt,qjn h];omega
  · rw [Lib.decDigits,dif_neg h,qj4,ih (u / 10) O,qjn O];omega
def qlo(u:Nat):Lib.decDigits u≠[]:=by
 by_cases h:u < 10
 · rw [Lib.decDigits,dif_pos h];simp
 · rw [Lib.decDigits,dif_neg h];simp
def qgZ(u:Nat):(Lib.decDigits u).all qfM=true:=by
  induction u using Nat.strongRecOn with
  | _ u ih=>
    by_cases h:u < 10
    · rw [Lib.decDigits,dif_pos h];simp only [List.all_cons,List.all_nil,Bool.and_true,qfM,qjn h,Bool.and_eq_true,decide_eq_true_eq];omega
    · rw [Lib.decDigits,dif_neg h,List.all_append,ih (u / 10) O]
      simp only [List.all_cons,List.all_nil,Bool.and_true,qfM,qjn (show u % 10 < 10 by omega),Bool.and_eq_true,decide_eq_true_eq,Bool.true_and];omega
def qqO(u:Nat)(h:1≤u):(Lib.decDigits u).head?≠some 48:=by
  induction u using Nat.strongRecOn with
  | _ u ih=>
    by_cases h1:u < 10
    · rw [Lib.decDigits,dif_pos h1];intro e
      simp only [List.head?_cons,Option.some.injEq] at e;have:=congrArg UInt8.toNat e;rw [qjn h1] at this;simp at this;omega
    · rw [Lib.decDigits,dif_neg h1]
      have hne:=qlo (u / 10);have:=ih (u / 10) O O;cases hd:Lib.decDigits (u / 10) with
      | nil=>exact absurd hd hne
      | cons x r=>rw [hd] at this;simpa using this
def qnY(u:Nat):qgT (Lib.decDigits u)=true:=by
 simp only [qgT,qgZ,qlo,ne_eq,not_false_eq_true,decide_true,Bool.true_and,Bool.or_eq_true,decide_eq_true_eq];by_cases h:u < 10
 · left;rw [Lib.decDigits,dif_pos h];simp
 · right;exact qqO u O
def qtu{l:List UInt8}{c:UInt8}{r:List UInt8}(he:l=c::r)(hd:qfM c=true)(h:c≠48):1≤qiQ 0 l:=by
 subst he;have h1:=qpS r (0 * 10+(c.toNat - 48));simp only [qfM,Bool.and_eq_true,decide_eq_true_eq] at hd;have:c.toNat≠48:=fun e=>h (UInt8.toNat_inj.1 e);rw [qdi];omega
def qnQ{l:List UInt8}(h:qgT l=true):Lib.decDigits (qiQ 0 l)=l:=by
 induction hn:l.length using Nat.strongRecOn generalizing l with
 | _ n ih=>
  simp only [qgT,Bool.and_eq_true,decide_eq_true_eq,Bool.or_eq_true] at h;obtain ⟨⟨h0,h1⟩,h2⟩:=h;obtain ⟨m,c,rfl⟩:∃ m c,l=m++[c]:=⟨l.dropLast,l.getLast h0,(List.dropLast_concat_getLast h0).symm⟩;rw [List.all_append,Bool.and_eq_true] at h1;have hc:48≤c.toNat∧c.toNat≤57:=by simpa [qfM] using h1.2
  have hcc:UInt8.ofNat (48+(c.toNat - 48))=c:=by apply UInt8.toNat_inj.1;simp;omega
  rw [qj4];cases hm:m with
  | nil=>rw [qeJ,Lib.decDigits,dif_pos O];simp [hcc]
  | cons x r=>
   have hx:(m++[c]).head?=some x:=by rw [hm];rfl
   have hx48:x≠48:=by
    rcases h2 with h2|h2
    · rw [hm] at h2;simp at h2
    · intro e;exact h2 (by rw [hx,e])
   have hdx:qfM x=true:=by have:=h1.1;rw [hm,List.all_cons,Bool.and_eq_true] at this;exact this.1
   have hp:=qtu hm hdx hx48;have hcm:qgT m=true:=by
    simp only [qgT,Bool.and_eq_true,decide_eq_true_eq,Bool.or_eq_true];refine ⟨⟨by rw [hm];simp,h1.1⟩,.inr ?_⟩;rw [hm];simpa using hx48
   have hd:=ih m.length (by rw [← hn];simp) hcm rfl;rw [← hm];rw [Lib.decDigits,dif_neg O];rw [show (qiQ 0 m * 10+(c.toNat - 48)) / 10=qiQ 0 m by omega,hd,show (qiQ 0 m * 10+(c.toNat - 48)) % 10=c.toNat - 48 by omega,hcc]
def qlQ{u:Nat}(h:u < 4294967296):qjJ (Lib.decDigits u)=some u:=by rw [qjJ,if_pos ⟨qnY u,by rw [qfU];exact h⟩,qfU]
def qoU{l:List UInt8}{u:Nat}(h:qjJ l=some u):l=Lib.decDigits u∧u < 4294967296:=by
 unfold qjJ at h;split at h
 · rename_i hh;injection h with h;subst h;exact ⟨(qnQ hh.1).symm,hh.2⟩
 · cases h
def qft(l:List UInt8)(u:Nat):(Lib.parseUintB 32 l=.ok u∧Lib.decDigits u=l)↔qjJ l=some u:=by
  constructor
  · rintro ⟨h,rfl⟩
    exact qlQ (by have:=Lib.parseUintB_le h;omega)
  · intro h
    obtain ⟨rfl,hu⟩:=qoU h;refine ⟨?_,Z⟩;rw [Lib.parseUintB,if_neg (qlo u)];have:=qoY (M:=2 ^ 32 - 1) (acc:=0) Dc (qgZ u) (by rw [qfU];omega);rw [qfU] at this;exact this
def qoG(k u:Nat)(h:u < 10 ^ (k+1)):Lib.nDigits u≤k+1:=by
 induction k generalizing u with
 | zero=>rw [Lib.nDigits_small (by simpa using h)];exact Nat.le_refl _
 | succ k ih=>
  by_cases h1:u < 10
  · rw [Lib.nDigits_small h1];omega
  · rw [Lib.nDigits_big h1];have:=ih (u / 10) (by rw [Nat.pow_succ] at h;omega);omega
def qkj{u:Nat}(h:u < 4294967296):1≤(Lib.decDigits u).length∧(Lib.decDigits u).length≤10:=by
 rw [Lib.decDigits_length];exact ⟨Lib.nDigits_pos u,qoG 9 u O⟩
end Go.Proofs.YtflplmcjbppfcaaGreatDoor
namespace Go.Proofs.YtflplmcjbppfcaaGreatDoor
open Go Go.FL
abbrev Str:=List UInt8
def qA8(c:UInt8):Bool:=decide (c=32) || decide (c=10)
def qvm(w:Str):Prop:=w≠[]∧∀ c∈w,qA8 c=false
def valC(c:UInt8):Int:=
 if 97≤c.toNat∧c.toNat≤122 then (c.toNat:Int) - 96 else if 65≤c.toNat∧c.toNat≤90 then (c.toNat:Int) - 38 else if 48≤c.toNat∧c.toNat≤57 then (c.toNat:Int)+5
 else if c=32 then 0 else if c=46 then 63 else if c=44 then 64 else if c=59 then 65 else if c=58 then 66 else -1
def okC(c:UInt8):Bool:=decide (0≤valC c)
def okT(l:Str):Bool:=l.all okC
def qyL:Str:=[67,104,101,99,107]
def qdq(n:Int):Str:=Lib.decDigits n.toNat
def okW(w:Str):Prop:=qvm w∧okT w=true∧w≠qyL
instance (w:Str):Decidable (qvm w):=by unfold qvm;infer_instance
instance (w:Str):Decidable (okW w):=by unfold okW;infer_instance
def cop:∀ d,d < 67→0 < d→Nat.gcd 9973 d=1:=by decide +kernel
end Go.Proofs.YtflplmcjbppfcaaGreatDoor
namespace Go.FL
open Go Go.RowKit
def qtJ{P:Program}{TT:qa5}{D:Nat}{fr:Fr}{ty:Nat}{K:Hl}{s0:World}{t e b m:Nat}{x y:Operand}{ti te:TI}{ik:IntKind}{j:Nat}(hx:lk fr x=some (.pointer (some ⟨b,0,none⟩)))(hy:lk fr y=some (.int ik (j:Int)))(ht:qaE TT t=some ti)(hk:ti.kind=.ar m e)(he:qaE TT e=some te)(hj:j≤m) :
  QE P TT D fr (.slice t x none (some y) none) ty K s0 (.slice (some ⟨b,0,none⟩) j m):=
 QE.pure fun hT dst pos af g ρ hρ w=>by
  have hb:(Instr.sliceBounds false m m none (some (.int ik (j:Int))) none).run P w=.ok (0,j,m) w:=by simp [Instr.sliceBounds,qdS hj]
  have hu:P.underlying t=some (.array m e):=by
   obtain ⟨h1,h2,_⟩:=hT.at_ ht;rw [hk] at h2;rw [h1];exact congrArg some h2
  have hr:(Instr.sliceAt t (.pointer (some ⟨b,0,none⟩)) none (some (.int ik (j:Int))) none).run P w=.ok (.slice (some ⟨b,0,none⟩) j m) w:=by
   simp [Instr.sliceAt,Instr.sureAddr,run_underlying hu,hb,qbw (hT.at_ he),Addr.add]
  simp only [execOp,hρ x _ hx,Option.map_none,Option.map_some,hρ y _ hy,Sem.run_bind,hr,Result.andThen_ok,Sem.run_pure]
def qmu(L:Hl)(s:World)(n:Nat):(fill L s).drewN n=fill L (s.drewN n):=by
 induction L with
 | nil=>rfl
 | cons x L ih=>show qbo ((fill L s).drewN n) x.1 x.2=qbo (fill L (s.drewN n)) x.1 x.2;rw [ih]
def Le.drewN{D:Nat}(s:World)(n:Nat):Le D s (s.drewN n):=⟨rfl,rfl,rfl,Nat.le_refl _,fun _ _=>.inr rfl⟩
def qjI(w:World)(b ty:Nat)(zs:List Value)(f:Array Value→Array Value):Sort.mapBlock (qbo w b (cb zs ty)) b f=qbo w b (cb (f zs.toArray).toList ty):=by
  refine qdz (qdt fun k=>?_) Z Z Z Z;show ((w.heap.setIfInBounds b _).modify b _)[k]?=(w.heap.setIfInBounds b _)[k]?;rw [Array.getElem?_modify];by_cases hk:b=k
  · subst hk
    rw [if_pos rfl,Array.getElem?_setIfInBounds_self,Array.getElem?_setIfInBounds_self];split
    · simp [Sort.onCells,cb]
    · rfl
  · rw [if_neg hk,Array.getElem?_setIfInBounds_ne hk,Array.getElem?_setIfInBounds_ne hk]
end Go.FL
namespace Go.Proofs.YtflplmcjbppfcaaGreatDoor
open Go.Proofs.Tryz
open Go Go.FL Go.RowKit
section
variable(D:Nat)(L:Hl)(s:World)
def qmB:qh5 prog 149:=⟨_,func149,by kernel_rfl,by kernel_rfl⟩
def qvQ:qh5 prog 150:=⟨_,func150,by kernel_rfl,by kernel_rfl⟩
def qq6:qh5 prog 151:=⟨_,func151,by kernel_rfl,by kernel_rfl⟩
def qrW(u:Nat)(h:u < 100):AC prog D 149 [.int .i64 (u:Int)] L s fun v L' _=>v=St (Lib.decDigits u)∧L=L':=
 AC.of_calls qmB fun _=>(Any.internal_strconv_small lays283 u h (fill L s)).mono fun e w' ⟨he,hw⟩=>⟨_,he,by rw [hw];exact qc1 _,fun s' _ _ _=>⟨rfl,rfl⟩⟩
def qBb(hG:GW s)(u:Nat)(h1:1≤u)(h2:u < 4294967296):AC prog D 150 [.int .u64 (u:Int)] L s fun v L' _=>v=.int .i64 (Lib.nDigits u:Int)∧L=L':=
 AC.of_calls qvQ fun ho=>(Any.internal_strconv_numDigits laysM284 u h1 O (fill L s) (quq laysM284.m17 (hG.le (qei ho)))).mono fun e w' ⟨he,hw⟩=>⟨_,he,by rw [hw];exact qc1 _,fun s' _ _ _=>⟨rfl,rfl⟩⟩
def qvZ{u:Nat}(h:u < 4294967296):Lib.nDigits u≤20:=by
  by_cases h1:1≤u
  · have:=Lib.numDigits_eq u h1 O;split at this<;>omega
  · obtain rfl:u=0:=by omega
    rw [Lib.nDigits];simp
def z24:List Value:=List.replicate 24 (.int .u8 0)
def qol(u:Nat)(h2:u < 4294967296)(b ty:Nat):AC prog D 151 [.slice (some ⟨b,0,none⟩) (Lib.nDigits u) 24,.int .u64 (u:Int)] ((b,cb z24 ty)::L) s
    fun v L' _=>v=.tuple #[]∧∃ ys,L'=(b,cb (bv (Lib.decDigits u)++ys) ty)::L∧(Lib.decDigits u).length+ys.length=24:=by
  refine ⟨qq6,fun ho=>?_⟩;have hnd:=qvZ h2;have hblk:(fill ((b,cb z24 ty)::L) s).heap[b]?=some (cb z24 ty):=qa7 ho Mc;have hH:Sort.Holds (fun (x:UInt8)=>Value.int .u8 (x.toNat:Int)) (fill ((b,cb z24 ty)::L) s) b 0 (Array.replicate (Lib.nDigits u) (0:UInt8)):=by
    intro j hj;have hj':j < Lib.nDigits u:=by simpa using hj
    refine ⟨?_,by unfold World.frozen?;rw [hblk];simp [cb]⟩;rw [Nat.zero_add,qcV ho Mc,getElem!_pos _ j hj,z24,List.getElem?_replicate,if_pos O];simp
  have h:=Any.internal_strconv_formatBase10 lays285 b 0 24 u (Array.replicate (Lib.nDigits u) 0) _ hH (by rw [Array.size_replicate];exact Lib.lt_pow_nDigits u) O (by rw [Array.size_replicate];omega);rw [Array.size_replicate] at h;refine h.mono ?_;rintro e w' ⟨he,n,v',dk,hw,hF⟩;have hsz:dk.size=Lib.nDigits u:=hF.size;have hlen:(Lib.decDigits u).length=Lib.nDigits u:=Lib.decDigits_length u;have hcells:(Sort.putCells (fun (x:UInt8)=>Value.int .u8 (x.toNat:Int)) 0 dk z24.toArray).toList=bv (Lib.decDigits u)++List.replicate (24 - Lib.nDigits u) (.int .u8 0):=by
    apply List.ext_getElem?;intro k;simp only [Sort.putCells,Array.toList_mapIdx,List.getElem?_mapIdx,Nat.zero_le,true_and,Nat.zero_add,Nat.sub_zero];by_cases hk:k < Lib.nDigits u
    · rw [List.getElem?_append_left (by simp [bv];omega)]
      have h24:z24[k]?=some (.int .u8 0):=by rw [z24,List.getElem?_replicate,if_pos O]
      rw [h24];simp only [Option.map_some,hsz,hk,if_true,bv,List.getElem?_map];rw [List.getElem?_eq_getElem O,← Lib.row_is_numeral hF k O];rfl
    · rw [List.getElem?_append_right (by simp [bv];omega)]
      have hk':¬ k < dk.size:=by omega
      have hbl:(bv (Lib.decDigits u)).length=Lib.nDigits u:=by simp [bv,hlen]
      rw [hbl];by_cases h24:k < 24
      · have e1:z24[k]?=some (.int .u8 0):=by rw [z24,List.getElem?_replicate,if_pos O]
        rw [e1];simp [hk',List.getElem?_replicate];omega
      · have e1:z24[k]?=none:=by simp [z24];omega
        rw [e1];simp [List.getElem?_replicate];omega
  have hworld:w'=fill ((b,cb (bv (Lib.decDigits u)++List.replicate (24 - Lib.nDigits u) (.int .u8 0)) ty)::L) (s.drewN n):=by
    rw [hw,Sort.putRow];show (Sort.mapBlock (qbo (fill L s) b (cb z24 ty)) b _).drewN n=_;rw [qjI,hcells];exact qmu ((b,cb (bv (Lib.decDigits u)++List.replicate (24 - Lib.nDigits u) (.int .u8 0)) ty)::L) s n
  exact ⟨_,_,_,he,hworld,⟨ho.nd,fun x hx=>by
    rcases List.mem_cons.1 hx with rfl|hx
    · exact ho.dm (b,cb z24 ty) Mc
    · exact ho.dm x (List.mem_cons_of_mem _ hx)⟩,Le.drewN s n,rfl,_,rfl,by simp;omega⟩
end
def qv4{l:List UInt8}{u:Nat}(h:Lib.parseUintB 32 l=.ok u):decide (Lib.decDigits u=l)=(qjJ l).isSome:=by
  by_cases hd:Lib.decDigits u=l
  · rw [(qft l u).1 ⟨h,hd⟩,decide_eq_true hd];rfl
  · rw [decide_eq_false hd]
    cases hn:qjJ l with
    | none=>rfl
    | some v=>
      obtain ⟨h1,h2⟩:=(qft l v).2 hn;rw [h] at h1;injection h1 with h1;subst h1
      exact absurd h2 hd
def qoV{l:List UInt8}(h:∀ u,Lib.parseUintB 32 l≠.ok u):qjJ l=none:=by
 cases hn:qjJ l with
 | none=>rfl
 | some v=>exact absurd ((qft l v).2 hn).1 (h v)
def qv5{l:List UInt8}{u v:Nat}(h:Lib.parseUintB 32 l=.ok u)(hn:qjJ l=some v):u=v:=by
 have h1:=((qft l v).2 hn).1;rw [h] at h1;injection h1
def qpZ(n:Int):U32 (IntKind.u32.wrap n):=by rw [IntKind.wrap_u32];exact ⟨by omega,by omega⟩
def qeM{n:Nat}(h:n < 4294967296):IntKind.u32.wrap (n:Int)=(n:Int):=by rw [IntKind.wrap_u32];omega
def Strs.tail{s:World}{A:Option Addr}{n c:Nat}{x:List UInt8}{l:List (List UInt8)}(h:Strs s A n c (x::l)):∃ A1 n1 c1,(Value.slice (if c=1 then A else A.map (·.add (1 * 1))) (n - 1) (c - 1))=Value.slice A1 n1 c1∧Strs s A1 n1 c1 l:=by
  refine ⟨_,_,_,Z,?_,?_,?_,fun i y hy=>?_⟩
  · have:=h.1;simp at this;omega
  · have:=h.2.1;omega
  · have:=h.2.2.1;omega
  · obtain ⟨b,off,cs,h1,h2,h3,h4⟩:=h.2.2.2 (i+1) y (by simpa using hy)
    have hc:¬ c=1:=by
      have:=h.1;have:=h.2.1;have:=(List.getElem?_eq_some_iff.1 hy).1;simp at *;omega
    rw [if_neg hc,h1];exact ⟨b,off+1,cs,rfl,by rw [show off+1+i * 1=off+(i+1) * 1 by omega];exact h2,h3,h4⟩
def Strs.head{s:World}{A:Option Addr}{n c:Nat}{l:List (List UInt8)}(h:Strs s A n c l)(hn:0 < n):∃ b off x r,A=some ⟨b,off,none⟩∧l=x::r∧CellsAt s b (off+0) [St x]∧x.length≤9223372036854775807:=by
 obtain ⟨b,off,x,h1,h2,h3,h4⟩:=Strs.at_ h hn;obtain ⟨r,hr⟩:∃ r,l=x::r:=by
  cases l with
  | nil=>cases h2
  | cons y r=>simp at h2;subst h2;exact ⟨r,rfl⟩
 exact ⟨b,off,x,r,h1,hr,h3,h4⟩
structure GP(s:World):Prop where
 gw:GW s
 asc:∃ ty fz,s.heap[2]?=some (.cells (Lib.asciiSpaceTab.map fun z=>Value.int .u8 z).toArray ty fz)
def GP.le{D:Nat}{s s':World}(h:GP s)(hl:Le D s s'):GP s':=by
 obtain ⟨h1,⟨t,f,h2⟩⟩:=h;exact ⟨h1.le hl,⟨t,f,qoo h2 hl⟩⟩
def qys{w:World}(h:GP w):Lib.TabIs Tryz.prog w "strings.asciiSpace" .u8 Lib.asciiSpaceTab:=by
 obtain ⟨t,f,h1⟩:=h.asc;have hg:Tryz.prog.globalNamed "strings.asciiSpace" = some 2:=by kernel_rfl
 simp only [Lib.TabIs,World.var?,hg,Option.bind_some,h1]
section
variable(D:Nat)(L:Hl)(s:World)
def qjB:qh5 Tryz.prog 174:=⟨_,Tryz.func174,by kernel_rfl,by kernel_rfl⟩
def qjA:qh5 Tryz.prog 47:=⟨_,Tryz.func47,by kernel_rfl,by kernel_rfl⟩
def okA(l:List UInt8):Bool:=l.all fun c=>decide (c.toNat < 128) && (decide (c=32) || decide (c=10) || !(decide (c.toNat=9) || decide (c.toNat=11) || decide (c.toNat=12) || decide (c.toNat=13)))
end
section
variable(D:Nat)(L:Hl)(s:World)
def qm1{A:Option Addr}{n c:Nat}{ws:List (List UInt8)}{w:World}(h:Strs s A n c ws)(hl:Le D s w){b off:Nat}(hA:A=some ⟨b,off,none⟩):∀ (j:Nat) (x:ByteArray),(ws.map fun x=>(⟨x.toArray⟩:ByteArray))[j]?=some x→w.cell? ⟨b,off+j,none⟩=some (.string x):=by
 intro j x hj;rw [List.getElem?_map] at hj;obtain ⟨y,hy,rfl⟩:=Option.map_eq_some_iff.1 hj;obtain ⟨b',off',cs,h1,h2,_,rfl,_⟩:=h.2.2.2 j y hy;rw [hA] at h1;injection h1 with h1;injection h1 with e1 e2;subst e1;subst e2
 exact hl.cell (by simpa using h2 0 (St y) rfl)
end
open Go.FL
attribute [local irreducible] JC JO JA JB qaZ qaL qb4 AC fill CellsAt QE Ev Mid
def qjg{l:List UInt8}{i:Nat}(hi:i≠0):qaX i l=!l.any qkd:=by
 induction l generalizing i with
 | nil=>rfl
 | cons c l ih=>
  simp only [qaX,List.any_cons,ih (by omega:i+1≠0),qef,qkd,hi,ne_eq,not_false_eq_true,decide_true,Bool.and_true,Bool.not_or];cases qgf c<;>cases qfM c<;>rfl
def qmM{l:List UInt8}{c:UInt8}(h:l[0]?=some c)(h6:l.length≤6)(hc:¬ ((c.toNat:Int) < 97)∧¬ (122 < (c.toNat:Int))):qbd l=!l.any qkd:=by
 obtain ⟨r,rfl⟩:=qg2 h;have hl:qgf c=true:=by simp only [qgf,Bool.and_eq_true,decide_eq_true_eq];omega
 have h7:decide ((c::r).length≤6)=true:=decide_eq_true h6;have hb:qkd c=false:=by simp [qkd,hl]
 simp only [qbd,qaX,qef,hl,h7,Bool.true_or,Bool.true_and,List.any_cons,hb,Bool.false_or,qjg (l:=r) (i:=0+1) O];simp
def qrn{l:List UInt8}{c:UInt8}(h:l[0]?=some c)(hc:(c.toNat:Int) < 97∨122 < (c.toNat:Int)):qbd l=false:=by
 obtain ⟨r,rfl⟩:=qg2 h;have hl:qgf c=false:=by rw [Bool.eq_false_iff];simp only [qgf,ne_eq,Bool.and_eq_true,decide_eq_true_eq];omega
 simp [qbd,qaX,qef,hl]
def qxS{p:Prop} (h:p:=by
  refine ⟨?_,Z⟩;first
    | (simp [qbP,qbd, *];done)
    | (rw [show qbd l=false from qrn hch O];rfl)
    | (have h6:¬ l.length≤6:=by omega
       simp [qbP,qbd,h6];done)
    | (rw [qmM hch O O];rfl)):p:=h
def qgs(D:Nat)(L:Hl)(s:World)(l:List UInt8):AC prog D 137 [St l] L s fun v L' _=>v=.bool (qbd l)∧L=L':=by
 refine qae (fn:=f137) qav func137 V Z ntmps137 Z (rs:=[.tmp 2]) Z [(0,_)] Z<|Sr<|At Z Z<|Zs<|Sr<|Zqm Z Z<|qht Z Z Z<|Zqm Z Z<|?_;refine qai (t:=5) Z ?_ ?_<;>intro c1;·refine Wf Y4<|Wf Y4<|Wf Y4<|ZqT Z Z Z<|Zqm Z Z<|Wf Y4<|Wf Y4<|Wf Y4<|ZqT Z Z Z<|Zqm Z Z<|Wf Y4<|Wf Y4<|Wf Y4<|ZqT Z Z Z<|Nt<|Zy Z<|Sr<|At Z Z<|Zo<|Zu<|?_;exact rR [] L (.t1 Z) Z (Lr D) fun _ hS2=>qxS
 refine Zg Z Z<|Zqm Z Z<|Zg Z Z<|qfg Z Z Z Z<|Zg Z Z<|qbl Z Z Z<|ZqF Z Z Z<|Zqm Z Z<|?_;refine qai (t:=10) Z ?_ ?_<;>intro c2;·refine Wf Y4<|Wf Y4<|Wf Y4<|ZqT Z Z Z<|Zqm Z Z<|Wf Y4<|Wf Y4<|Wf Y4<|ZqT Z Z Z<|Nt<|Zy Z<|Sr<|At Z Z<|Zo<|Zu<|?_;exact rR [] L (.t1 Z) Z (Lr D) fun _ hS2=>qxS
 refine Zg Z Z<|Zqm Z Z<|Zg Z Z<|?_;obtain ⟨ch,hch⟩:∃ ch,l[0]?=some ch:=⟨_,List.getElem?_eq_getElem (List.length_pos_iff.2 As)⟩;refine qad (qd8 Z Z Z Z hch) Z<|Zg Z Z<|qa8 Z Z Z<|ZqF Z Z Z<|Zqm Z Z<|?_;refine qai (t:=15) Z ?_ ?_<;>intro c3;·refine Wf Y4<|Wf Y4<|Wf Y4<|ZqT Z Z Z<|Nt<|Zy Z<|Sr<|At Z Z<|Zo<|Zu<|?_;exact rR [] L (.t1 Z) Z (Lr D) fun _ hS2=>qxS
 refine Zg Z Z<|Zqm Z Z<|Zg Z Z<|qad (qd8 Z Z Z Z hch) Z<|Zg Z Z<|qbl Z Z Z<|ZqF Z Z Z<|Nt<|?_;refine qaa Z ?_ ?_<;>intro c4;·refine Sr<|At Z Z<|Zo<|Zu<|?_;exact rR [] L (.t1 Z) Z (Lr D) fun _ hS2=>qxS
 refine Zk<|Zt<|Sr<|Zqm Z Z<|Je Z Z Z (qkh D _ _ _) fun s5 h5=>qbF Z Z<|At Z Z<|Zo<|?_;exact rR [] L (.t1 Z) Z h5 fun _ hS2=>qxS
def qoj(c:UInt8)(l:List UInt8):(qt4 (fnd c l) < 0∧qeA c l=(l,[],false))∨∃ i:Nat,qt4 (fnd c l)=(i:Int)∧i+1≤l.length∧qeA c l=(l.take i,l.drop (i+1),true):=by
 cases h:fnd c l with
 | none=>exact .inl ⟨by simp [qt4],by simp [qeA,h]⟩
 | some i=>exact .inr ⟨i,rfl,qt5 h,by simp [qeA,h]⟩
def qvD(D:Nat)(L:Hl)(s:World)(l:List UInt8)(c:UInt8)(hl:l.length≤9223372036854775806):AC prog D 168 [St l,St [c]] L s fun v L' _=>v=.tuple #[St (qeA c l).1,St (qeA c l).2.1,.bool (qeA c l).2.2]∧L=L':=by
 refine qae (fn:=f168) qav func168 V Z ntmps168 Z (rs:=[.tmp 4,.tmp 5,.tmp 6]) Z [(0,_),(1,_)] Z<|Sr<|Zqa Z Z<|Zqa Z Z<|At Z Z<|Zs<|Sr<|Zqm Z Z<|Zqm Z Z<|Je Z Z Z (qre D _ _ _ _) fun s1 h1=>At Z Z<|Sr<|Zqm Z Z<|qhn Z Z Z<|Nt<|?_;refine qaa Z ?_ ?_<;>intro c2
 ·obtain ⟨hneg,_⟩|⟨i,hi,hil,hcut⟩:=qoj c l
  · exact absurd c2 O
  rw [hi];refine Zs<|qaJ qac 12 Z _ (fun _ h=>h) fun s3 h3=>za 0 Z (qan Z) Z<|za 1 Z (qan Z) Z<|za 2 Z (qx8 Z Z Z Z O) Z<|za 3 Z (qan Z) Z<|za 4 Z (qan Z) Z<|za 5 Z (qan Z) Z<|za 6 Z (qno Z Z Z) Z<|za 7 Z (qaC (c:=((i+1:Nat):Int)) Z Z (by rw [w64 (by simp;omega) (by simp;omega)];simp)) Z<|za 8 Z (qtK Z Z Z Z O) Z<|za 9 Z (qa6 Z) Z<|za 10 Z (qa6 Z) Z<|za 11 Z (qa6 Z) Z<|qaf V<|Zt<|Zo<|Zu<|?_;refine rR [] L (.tmp Z (.tmp Z (.t1 Z))) Z (h1.t h3) fun _ hS2=>?_;refine ⟨?_,Z⟩;rw [hcut];rfl
 obtain ⟨hneg,hcut⟩|⟨i,hi,_,_⟩:=qoj c l
 rotate_left
 · exact absurd c2 O
 refine Zk<|Zt<|Sr<|Zqm Z Z<|Zqa Z Z<|Zqa Z Z<|At Z Z<|Zo<|?_;refine rR [] L (.tmp Z (.tmp Z (.t1 Z))) Z h1 fun _ hS2=>?_;refine ⟨?_,Z⟩;rw [hcut];rfl
def qtZ(D:Nat)(L:Hl)(s:World)(l:List UInt8)(c:UInt8)(hl:l.length≤9223372036854775806):AC prog D 133 [St l,St [c]] L s fun v L' _=>v=.tuple #[St (qeA c l).1,St (qeA c l).2.1,.bool (qeA c l).2.2]∧L=L':=by
 refine qae (fn:=f133) qav func133 V Z ntmps133 Z (rs:=[.tmp 4,.tmp 5,.tmp 6]) Z [(0,_),(1,_)] Z<|Sr<|Zqa Z Z<|Zqa Z Z<|At Z Z<|Sr<|Zqm Z Z<|Zqm Z Z<|Je Z Z Z (qvD D _ _ _ _ hl) fun s1 h1=>Zqx Z Z Z<|Zqx Z Z Z<|Zqx Z Z Z<|Zqa Z Z<|Zqa Z Z<|At Z Z<|Zo<|?_;exact rR [] L (.tmp Z (.tmp Z (.t1 Z))) Z h1 fun _ hS2=>⟨rfl,rfl⟩
def qnH(D:Nat)(L:Hl)(s:World)(l:List UInt8)(c:UInt8)(hl:l.length≤4000000):AC prog D 63 [St l,St [c]] L s fun v L' s'=>L=L'∧∃ A n c',v=.slice A n c'∧Strs s' A n c' (splitB (c.toNat:Int) l):=by
 refine qae (fn:=f63) qav func63 V Z ntmps63 Z (rs:=[.tmp 4]) Z [(0,_),(1,_)] Z<|Sr<|At Z Z<|Sr<|Zqm Z Z<|Zqm Z Z<|Jc Z Z Z (qkz D _ _ _ _ hl) ?_;rintro _ _ s1 h1 ⟨rfl,Ar,nr,cr,rfl,hr⟩;refine At Z Z<|Zo<|?_;exact rR [] L (.t1 Z) Z h1 fun _ hS2=>⟨rfl,_,_,_,rfl,hr.le ((Lr D).t hS2)⟩
end Go.Proofs.YtflplmcjbppfcaaGreatDoor
namespace Go.Proofs.YtflplmcjbppfcaaGreatDoor
open Go Go.FL Go.RowKit
structure Ln where
 label:List UInt8
 op:List UInt8
 has:Bool
 name:List UInt8
 num:Int
 deriving DecidableEq
def Ln.cs(x:Ln):List Value:=[St x.label,St x.op,.bool x.has,St x.name,.int .u32 x.num]
def qkF(w:List UInt8):Option (List UInt8×Int):=
 if qbd (qeA 43 w).1=true then (if (qeA 43 w).2.2=true then (qjJ (qeA 43 w).2.1).map (fun (n:Nat)=>((qeA 43 w).1,(n:Int))) else some ((qeA 43 w).1,0)) else (qjJ w).map fun (n:Nat)=>([],(n:Int))
def qrh:List (List UInt8)→Option (List UInt8×List (List UInt8))
 | []=>some ([],[])
 | w::r=>if qjq 58 w=true then (if qbd w.dropLast=true then some (w.dropLast,r) else none) else some ([],w::r)
def qfS(lab:List UInt8):List (List UInt8)→Option Ln
 | []=>some ⟨lab,[],false,[],0⟩
 | [o]=>if qbd o=true then some ⟨lab,o,false,[],0⟩ else none
 | [o,w]=>if qbd o=true then (qkF w).map fun x=>⟨lab,o,true,x.1,x.2⟩ else none
 | _::_::_::_=>none
def qvX(ws:List (List UInt8)):Option Ln:=(qrh ws).bind fun x=>qfS x.1 x.2
def qct(l:List UInt8):Option Ln:=qvX (qiU (qeA 59 l).1)
def qnX(c:UInt8)(l:List UInt8):(qeA c l).1.length≤l.length∧(qeA c l).2.1.length≤l.length:=by
 unfold qeA;split
 · exact ⟨Nat.le_refl _,by simp⟩
 · exact ⟨by simp;omega,by simp⟩
def qhU{l:List UInt8}(h:qbd l=true):l≠[]∧l.length≤6:=by
 simp only [qbd,Bool.and_eq_true,decide_eq_true_eq] at h;exact ⟨h.1.1,h.1.2⟩
def qeE{l:List UInt8}{W R:List (List UInt8)}{lab:List UInt8}(hW:qiU (qeA 59 l).1=W)(h:qrh W=some (lab,R)):qct l=qfS lab R:=by
 rw [qct,qvX,hW,h];rfl
def qrl{l:List UInt8}{W:List (List UInt8)}(hW:qiU (qeA 59 l).1=W)(h:qrh W=none):qct l=none:=by
 rw [qct,qvX,hW,h];rfl
def qjc{lab o:List UInt8}(h:qbd o=true):qfS lab [o]=some ⟨lab,o,false,[],0⟩:=by simp [qfS,h]
def qjd{lab o w:List UInt8}(h:qbd o=true):qfS lab [o,w]=(qkF w).map fun x=>⟨lab,o,true,x.1,x.2⟩:=by simp [qfS,h]
def qnL{lab o:List UInt8}{r:List (List UInt8)}(h:qbd o=false):qfS lab (o::r)=none:=by
 match r with
 | []=>simp [qfS,h]
 | [w]=>simp [qfS,h]
 | _::_::_=>rfl
def qmk{lab:List UInt8}{r:List (List UInt8)}(h:2 < r.length):qfS lab r=none:=by
 match r,h with
 | _::_::_::_,_=>rfl
open Go.Proofs.Tryz
open Go.FL
attribute [local irreducible] JC JO JA JB qaZ qaL qb4 AC fill CellsAt QE Ev Mid
def qq4(D:Nat)(L:Hl)(s:World)(hG:GW s)(u:Nat)(hu:u < 4294967296):AC prog D 178 [.int .u64 (u:Int),.int .i64 10] L s fun v L' _=>v=St (Lib.decDigits u)∧L=L':=by
 refine qae (fn:=f178) qav func178 V Z ntmps178 Z (rs:=[.tmp 4]) Z [(0,_),(1,_)] Z<|Sr<|At Z Z<|Zs<|Sr<|Zqm Z Z<|qax Z Z Z<|Nt<|?_;refine qaa Z ?_ ?_<;>intro c1
 ·refine Zs<|Sr<|Zqm Z Z<|qa8 Z Z Z<|Nt<|?_;refine qaa Z ?_ ?_<;>intro c2;·refine Sr<|Zqm Z Z<|qad (qaR Z Z Z Z Z (w64 O O)) Z<|Je Z Z Z (qrW D _ _ u O) fun s3 h3=>At Z Z<|Zo<|Zu<|Zu<|?_;exact rR [] L (.t1 Z) Z h3 fun _ hS2=>⟨rfl,rfl⟩
  refine Zk<|Zt<|Sr<|qag Z [_,_,_,_,_,_,_,_,_,_,_,_,_,_,_,_,_,_,_,_,_,_,_,_] Z Z fun β4 s4 h4=>Nt<|Sr<|Zqm Z Z<|Je Z Z Z (qBb D _ _ (hG.le h4) u O hu) fun s5 h5=>At Z Z<|Sr<|Zqm Z Z<|qad (qtJ Z Z Z Z Z (by have:=qvZ hu;omega)) Z<|Zqm Z Z<|Jc Z Z Z (qol D _ _ u hu _ _) ?_;rintro _ _ s6 h6 ⟨rfl,ys,rfl,hys⟩;refine Nt<|Zs<|qdA [] [_] _ ?_;intro s7 h7 hpub7;simp only [cQ9,nQ9];have hbt:=qke (l:=Lib.decDigits u) (hpub7 _ _ _ Mc) hys O;rw [Lib.decDigits_length] at hbt;refine Zr<|Zqm Z Z<|qad (qtJ Z Z Z Z Z (by have:=qvZ hu;omega)) Z<|qad (qkY Z Z Z Z Z Z Z (hbt.le (Lr D))) Z<|At Z Z<|Zo<|Zu<|?_;exact rR [] L (.t1 Z) Z (h4.t h5|>.t h6|>.t h7) fun _ hS2=>⟨rfl,rfl⟩
 exact absurd rfl c1
def qog(D:Nat)(L:Hl)(s:World)(hG:GW s)(u:Nat)(hu:u < 4294967296):AC prog D 146 [.int .u64 (u:Int),.int .i64 10] L s fun v L' _=>v=St (Lib.decDigits u)∧L=L':=by
 refine qae (fn:=f146) qav func146 V Z ntmps146 Z (rs:=[.tmp 4]) Z [(0,_),(1,_)] Z<|Sr<|At Z Z<|Sr<|Zqm Z Z<|Zqm Z Z<|Je Z Z Z (qq4 D _ _ (hG.le (Lr D)) u hu) fun s1 h1=>At Z Z<|Zo<|?_;exact rR [] L (.t1 Z) Z h1 fun _ hS2=>⟨rfl,rfl⟩
def errT:prog.underlying 119=some (.interface (prog.methodsAt 119)):=by kernel_rfl
def qoX(D:Nat)(L:Hl)(s:World)(hG:GW s)(l:List UInt8)(hl:l.length≤281474976710656):AC prog D 198 [St l,.int .i64 10,.int .i64 32] L s fun v L' _=>L=L'∧∃ n e b,v=.tuple #[.int .u64 n,e]∧qxV e b∧(b=true→∃ u:Nat,n=(u:Int)∧Lib.parseUintB 32 l=.ok u)∧(b=false→∀ u,Lib.parseUintB 32 l≠.ok u):=
 (qrC D L s hG l hl).mono fun v L' s' _ ⟨hv,hL⟩=>by
  refine ⟨hL,?_⟩;cases hv with
  | ok u h=>exact ⟨_,_,true,rfl,.inl ⟨rfl,rfl⟩,fun _=>⟨u,rfl,h⟩,fun h=>by cases h⟩
  | bad h n t p=>exact ⟨_,_,false,rfl,.inr ⟨_,_,rfl,rfl⟩,(fun h=>by cases h),fun _=>h⟩
def Cz22{p:Prop} (h:p:=by
  first
    | (refine ⟨rfl,IntKind.u32.wrap (u:Int),?_,qpZ _,fun v hv=>?_⟩
       · rw [← qv4 hu];rfl
       · have:=qv5 hu hv;subst this;exact qeM (by have:=Lib.parseUintB_le hu;omega))
    | (refine ⟨rfl,IntKind.u32.wrap n,?_,qpZ _,fun v hv=>?_⟩
       · rw [qoV (hF As)];rfl
       · rw [qoV (hF As)] at hv;cases hv)):p:=h
def qhX(D:Nat)(L:Hl)(s:World)(hG:GW s)(l:List UInt8)(hl:l.length≤281474976710656):AC prog D 172 [St l] L s fun v L' _=>L=L'∧∃ k,v=.tuple #[.int .u32 k,.bool (qjJ l).isSome]∧U32 k∧∀ u,qjJ l=some u→k=(u:Int):=by
 refine qae (fn:=f172) qav func172 V Z ntmps172 Z (rs:=[.tmp 2,.tmp 3]) Z [(0,_)] Z<|Sr<|Zqa Z Z<|At Z Z<|Sr<|Zqm Z Z<|Jc Z Z Z (qoX D _ _ (hG.le (Lr D)) l hl) ?_;rintro _ _ s1 h1 ⟨rfl,n,e,b,rfl,hE,hT,hF⟩;refine Zqm Z Z<|Zqx Z Z Z<|Zqx Z Z Z<|Zqa Z Z<|At Z Z<|Sr<|Zqm Z Z<|qad (qed Z Z Z Z Z) Z<|Zqm Z Z<|qad (quJ errT Z hE) Z<|Zqm Z Z ?_;refine qeV (t:=15) Z ?_ ?_<;>intro c2;·refine Zg Z Z ?_;obtain ⟨u,rfl,hu⟩:=hT As;refine Zqm Z Z<|Zg Z Z<|Je Z Z Z (qog D _ _ (hG.le h1) u (by have:=Lib.parseUintB_le hu;omega)) fun s3 h3=>Zg Z Z<|Zqm Z Z<|Zg Z Z<|qht Z Z Z<|ZqT Z Z Z<|Zqa Z Z<|At Z Z<|Zo<|?_;exact rR [] L (.tmp Z (.t1 Z)) Z (h1.t h3) fun _ hS2=>Cz22
 refine Wf Y4<|Wf Y4<|Wf Y4<|Wf Y4<|ZqF Z Z Z<|Zqa Z Z<|At Z Z<|Zo<|?_;exact rR [] L (.tmp Z (.t1 Z)) Z h1 fun _ hS2=>Cz22
def qAr{p:Prop} (h:p:=by
  first
    | (refine ⟨rfl,(qeA 43 l).1,0,?_,qbx,fun x hx=>?_⟩
       · rw [show qkF l=some ((qeA 43 l).1,0) by rw [qkF,if_pos hlb,if_neg (by rw [hpl];decide)]];rfl
       · rw [show qkF l=some ((qeA 43 l).1,0) by rw [qkF,if_pos hlb,if_neg (by rw [hpl];decide)]] at hx;injection hx)
    | (have he:qkF l=(qjJ (qeA 43 l).2.1).map (fun (n:Nat)=>((qeA 43 l).1,(n:Int))):=by rw [qkF,if_pos hlb,if_pos hpl]
       refine ⟨Z,(qeA 43 l).1,k,?_,hku,fun x hx=>?_⟩
       · rw [he,Option.isSome_map];rfl
       · rw [he] at hx
         obtain ⟨u,hu,rfl⟩:=Option.map_eq_some_iff.1 hx;rw [hkv u hu])
    | (have he:qkF l=(qjJ l).map (fun (n:Nat)=>([],(n:Int))):=by rw [qkF,if_neg (by rw [hlb];decide)]
       refine ⟨Z,[],k,?_,hku,fun x hx=>?_⟩
       · rw [he,Option.isSome_map];rfl
       · rw [he] at hx
         obtain ⟨u,hu,rfl⟩:=Option.map_eq_some_iff.1 hx;rw [hkv u hu])):p:=h
def qhY(D:Nat)(L:Hl)(s:World)(hG:GW s)(l:List UInt8)(hl:l.length≤281474976710656):AC prog D 138 [St l] L s fun v L' _=>L=L'∧∃ nm k,v=.tuple #[.agg #[St nm,.int .u32 k],.bool (qkF l).isSome]∧U32 k∧∀ x,qkF l=some x→(nm,k)=x:=by
 have hl1:=(qnX 43 l).2;refine qae (fn:=f138) qav func138 V Z ntmps138 Z (rs:=[.cell 2 145,.tmp 3]) Z [(0,_)] Z<|Sr<|qag Z [_,_] Z Z fun β1 s1 h1=>At Z Z<|Sr<|Zqm Z Z<|Je Z Z Z (qtZ D _ _ l 43 O) fun s2 h2=>Zqm Z Z<|Zqx Z Z Z<|Zqx Z Z Z<|Zqx Z Z Z<|Zqa Z Z<|Zqa Z Z<|At Z Z<|Zs<|Sr<|Zqm Z Z<|Je Z Z Z (qgs D _ _ _) fun s3 h3=>Nt<|?_;have e3:=h1.t h2|>.t h3;refine qeN Z ?_ ?_<;>intro c4
 ·have hlb:=c4;refine Zs<|Sr<|Zqm Z Z<|qbF Z Z<|Nt<|?_;refine qb8 Z ?_ ?_<;>intro c5;·have hpl:=c5;refine Sr<|Zqm Z Z<|qad (qak [(_,_)] [_,_] Z Z Z Z Z Z) Z<|Wt 0 [_,_] Y9<|At Z Z<|Zo<|Zu<|Zu<|?_;exact rR [_] L (.agg (us:=[_,_]) 0 Z Z Z Z Z (.t1 Z)) Z e3 fun _ hS2=>qAr
  have hpl:=c5;refine Zk<|Zt<|Sr<|Zqm Z Z<|Jc Z Z Z (qhX D _ _ (hG.le e3) _ O) ?_;rintro _ _ s6 h6 ⟨rfl,k,rfl,hku,hkv⟩;refine Zqm Z Z<|Zqx Z Z Z<|Zqx Z Z Z<|Zqa Z Z<|At Z Z<|Sr<|Zqm Z Z<|Zqm Z Z<|qad (qak [(_,_),(_,_)] [_,_] Z Z Z Z Z Z) Z<|Zqm Z Z<|Wt 0 [_,_] Y9<|At Z Z<|Zo<|Zu<|?_;exact rR [_] L (.agg (us:=[_,_]) 0 Z Z Z Z Z (.t1 Z)) Z (e3.t h6) fun _ hS2=>qAr
 have hlb:=c4;refine Zk<|Zt<|Sr<|Zqm Z Z<|Jc Z Z Z (qhX D _ _ (hG.le e3) _ hl) ?_;rintro _ _ s7 h7 ⟨rfl,k,rfl,hku,hkv⟩;refine Zqm Z Z<|Zqx Z Z Z<|Zqx Z Z Z<|Zqa Z Z<|At Z Z<|Sr<|Zqm Z Z<|qad (qak [(_,_)] [_,_] Z Z Z Z Z Z) Z<|Zqm Z Z<|Wt 0 [_,_] Y9<|At Z Z<|Zo<|?_;exact rR [_] L (.agg (us:=[_,_]) 0 Z Z Z Z Z (.t1 Z)) Z (e3.t h7) fun _ hS2=>qAr
def qm8{p:Prop} (h:p:=by
  first
    | (have hN:qct l=none:=by
         first
         | exact qrl hWW (by rw [qrh,if_pos he,if_neg (by rw [hlb];decide)])
         | (rw [hlab];exact qnL As)
         | (rw [hlab];exact qmk (by simp only [List.length_cons];omega))
       rw [hN];exact ⟨rfl,⟨[],[],false,[],0⟩,rfl,qbx,fun y hy=>by cases hy⟩)
    | (rw [hlab,qjd As,Option.isSome_map]
       first
       | exact ⟨rfl,⟨[],w1,true,nm,kk⟩,rfl,hku,fun y hy=>by
           obtain ⟨x,hx,rfl⟩:=Option.map_eq_some_iff.1 hy;have:=hkv x hx;subst this;rfl⟩
       | exact ⟨rfl,⟨w0.dropLast,w1,true,nm,kk⟩,rfl,hku,fun y hy=>by
           obtain ⟨x,hx,rfl⟩:=Option.map_eq_some_iff.1 hy;have:=hkv x hx;subst this;rfl⟩)
    | (obtain rfl:R1=[]:=List.eq_nil_of_length_eq_zero O
       rw [hlab,qjc As];first
       | exact ⟨rfl,⟨[],w1,false,[],0⟩,rfl,qbx,fun y hy=>by injection hy⟩
       | exact ⟨rfl,⟨w0.dropLast,w1,false,[],0⟩,rfl,qbx,fun y hy=>by injection hy⟩)
    | (have hR:R=[]:=List.eq_nil_of_length_eq_zero O
       subst hR;rw [hlab];exact ⟨rfl,⟨w0.dropLast,[],false,[],0⟩,rfl,qbx,fun y hy=>by injection hy⟩)
    | (rw [hlab]
       exact ⟨rfl,⟨[],[],false,[],0⟩,rfl,qbx,fun y hy=>by injection hy⟩)
    | (exfalso;simp only [List.length_cons] at hn;omega)):p:=h
def qkH(D:Nat)(L:Hl)(s:World)(hG:GW s)(l:List UInt8)(hl:l.length≤400000):AC Tryz.prog D 97 [St l] L s fun v L' _=>L=L'∧∃ x:Ln,v=.tuple #[.agg x.cs.toArray,.bool (qct l).isSome]∧U32 x.num∧∀ y,qct l=some y→x=y:=by
 have hl1:=(qnX 59 l).1;refine qae (fn:=Tryz.f97) qav Tryz.func97 V Z Tryz.ntmps97 Z (rs:=[.cell 2 188,.tmp 3]) Z [(0,_)] Z<|Sr<|qag Z [_,_,_,_,_] Z Z fun β1 s1 h1=>At Z Z<|Sr<|Zqm Z Z<|Je Z Z Z (qtZ D _ _ l 59 O) fun s2 h2=>Zqm Z Z<|Zqx Z Z Z<|Zqx Z Z Z<|Zqx Z Z Z<|At Z Z<|Sr<|Zqm Z Z<|Jc Z Z Z (qoc D _ _ _ O) ?_;have e2q:=h1.t h2;rintro _ _ s3 h3 ⟨rfl,Aw,nw,cw,rfl,hW⟩;have e3:=e2q.t h3;have hn:=hW.1;have hmem:∀ x∈qiU (qeA 59 l).1,x.length≤400000:=fun x hx=>by have:=(qof hx).2;omega
 generalize hWW:qiU (qeA 59 l).1=W at hW hmem hn;refine At Z Z<|Sr<|qag Z [_,_,_,_,_] Z Z fun β4 s4 h4=>Nt<|Zs<|Sr<|Zqm Z Z<|Ws Y4<|qbl Z Z Z<|Nt<|?_;have e4:=e3.t h4;refine qaa Z ?_ ?_<;>intro c5
 ·obtain ⟨b0,off0,w0,R,rfl,hWc,hc0,hlw0⟩:=Strs.head (hW.le h4) (show 0 < nw by omega);subst hWc;refine Sr<|Zqm Z Z<|qad (qaU (j:=0) Z Z Z Z Z Z (show 0 < nw by omega)) Z<|qad (qaq Z Z Z (hc0.le (Lr D)) Z) Z<|Je Z Z Z (qjl D _ _ _ 58 hlw0) fun s6 h6=>Zqm Z Z<|Zqx Z Z Z<|Zqx Z Z Z<|Zqa Z Z<|At Z Z<|Sr<|Zqm Z Z<|Nt<|?_;have e6:=e4.t h6;refine qeN Z ?_ ?_<;>intro c7
  ·have he:=c7;rw [if_pos he];refine Zs<|Sr<|Zqm Z Z<|Je Z Z Z (qgs D _ _ _) fun s8 h8=>qbF Z Z<|Nt<|?_;have e8:=e6.t h8;refine qb8 Z ?_ ?_<;>intro c9;·have hlb:=c9;refine Sr<|qad (qak [] [_,_,_,_,_] Z Z Z Z Z Z) Z<|Wt 1 [_,_,_,_,_] Y9<|At Z Z<|Zo<|Zu<|Zu<|?_;exact rR [_,_] L (.agg (us:=[_,_,_,_,_]) 1 Z Z Z Z Z (.t1 Z)) Z e8 fun _ hS2=>qm8
   have hlb:=c9;obtain ⟨A1,n1,c1,hsl,hW1⟩:=Strs.tail (hW.le (h4.t h6|>.t h8));have hlab:qct l=qfS w0.dropLast R:=qeE hWW (by rw [qrh,if_pos he,if_pos hlb]);have hn1:=hW1.1;refine Zk<|Zt<|qaH qac 6 Z [0] (by intro x hx;exact qas hx) fun s10 h10=>za 0 Z (qan Z) Z<|za 1 Z (qan Z) Z<|za 2 Z (qaz (qi0 (j:=1) Z Z Z Z Z O) hsl) Z<|za 3 Z (qat Z Z Z Z) Z<|qar 4 V<|Wu Z Tt 0 [_,_,_,_,_] Y9 (sM (sbY (sbE _)))<|za 5 Z (qa6 Z) Z<|qaf V<|Zt<|Zs<|Sr<|Zqm Z Z<|Ws Y4<|qax Z Z Z<|Nt<|?_;have e10:=e8.t h10;refine qaa Z ?_ ?_<;>intro c11;·have hz1:=c11;refine Sr<|qad (qao 0 [_,_,_,_,_] Z Z Z Z Z) Z<|Wt 1 [_,_,_,_,_] Y9<|At Z Z<|Zo<|Zu<|?_;exact rR [_,_] L (.agg (us:=[_,_,_,_,_]) 1 Z Z Z Z Z (.t1 Z)) Z e10 fun _ hS2=>qm8
   obtain ⟨b1,off1,w1,R1,rfl,hR1,hc1,hlw1⟩:=Strs.head (hW1.le h10) O;subst hR1;simp only [List.length_cons] at hn1;refine Zk<|Zt<|Zs<|Sr<|Zqm Z Z<|qad (qaU (j:=0) Z Z Z Z Z Z O) Z<|qad (qaq Z Z Z (hc1.le (Lr D)) Z) Z<|Je Z Z Z (qgs D _ _ _) fun s12 h12=>qbF Z Z<|Zqm Z Z<|?_;have e12:=e10.t h12;refine qdQ (t:=45) Z ?_ ?_<;>intro c13;·refine Wf Y4<|Wf Y4<|Wf Y4<|ZqT Z Z Z<|Nt<|Zy Z<|Sr<|qad (qak [] [_,_,_,_,_] Z Z Z Z Z Z) Z<|Wt 1 [_,_,_,_,_] Y9<|At Z Z<|Zo<|Zu<|?_;exact rR [_,_] L (.agg (us:=[_,_,_,_,_]) 1 Z Z Z Z Z (.t1 Z)) Z e12 fun _ hS2=>qm8
   refine Zg Z Z<|Zqm Z Z<|Zg Z Z<|Ws Y4<|Zg Z Z<|qbl Z Z Z<|ZqF Z Z Z<|Nt<|?_;refine qaa Z ?_ ?_<;>intro c14;·refine Sr<|qad (qak [] [_,_,_,_,_] Z Z Z Z Z Z) Z<|Wt 1 [_,_,_,_,_] Y9<|At Z Z<|Zo<|Zu<|?_;exact rR [_,_] L (.agg (us:=[_,_,_,_,_]) 1 Z Z Z Z Z (.t1 Z)) Z e12 fun _ hS2=>qm8
   refine Zk<|Zt<|Sr<|Zqm Z Z<|qad (qaU (j:=0) Z Z Z Z Z Z O) Z<|qad (qaq Z Z Z (hc1.le h12) Z) Z<|Wb Y5<|Wt 0 [_,_,_,_,_] Y9<|Nt<|Sr<|At Z Z<|Zs<|Sr<|Zqm Z Z<|Ws Y4<|qax Z Z Z<|Nt<|?_;refine qaa Z ?_ ?_<;>intro c15
   ·obtain ⟨b2,off2,w2,hA2,hw2,hc2,hlw2⟩:=Strs.at_ (hW1.le (h10.t h12)) (show 1 < _ by omega);injection hA2 with hA2
    injection hA2 with e1 e2;subst e1;subst e2;have hl2:w2.length≤400000:=hmem _ (by first|exact List.mem_cons_of_mem _ (List.mem_of_getElem? hw2)|exact List.mem_of_getElem? hw2);obtain rfl:R1=[w2]:=by
      match R1,hw2,hn1 with
      | [],h,_=>cases h
      | [y],h,_=>simp at h;rw [h]
      | _::_::_,_,h=>simp at h;omega
    refine Sr<|Wb Y5<|Wt 0 [_,_,_,_,_] Y9<|Nt<|Zr<|Zqm Z Z<|qad (qaU (j:=1) Z Z Z Z Z Z O) Z<|qad (qaq Z Z Z (hc2.le (Lr D)) Z) Z<|Jc Z Z Z (qhY D _ _ (hG.le e12) w2 O) ?_;rintro _ _ s16 h16 ⟨rfl,nm,kk,rfl,hku,hkv⟩;refine Zqm Z Z<|Zqx Z Z Z<|Zqx Z Z Z<|Wb Y5<|Wt 0 [_,_,_,_,_] Y9<|At Z Z<|Sr<|qad (qao 0 [_,_,_,_,_] Z Z Z Z Z) Z<|Zqm Z Z<|Wt 1 [_,_,_,_,_] Y9<|At Z Z<|Zo<|?_;exact rR [_,_] L (.agg (us:=[_,_,_,_,_]) 1 Z Z Z Z Z (.t1 Z)) Z (e12.t h16) fun _ hS2=>qm8
   refine Zk<|Zt<|Sr<|qad (qao 0 [_,_,_,_,_] Z Z Z Z Z) Z<|Zqm Z Z<|Wt 1 [_,_,_,_,_] Y9<|At Z Z<|Zo<|?_;exact rR [_,_] L (.agg (us:=[_,_,_,_,_]) 1 Z Z Z Z Z (.t1 Z)) Z e12 fun _ hS2=>qm8
  have he:=c7;have hlab:qct l=qfS [] (w0::R):=qeE hWW (by rw [qrh,if_neg (by rw [he];decide)]);have hW1:=hW.le (h4.t h6);refine Zk<|Zt<|Zs<|Sr<|Zqm Z Z<|Ws Y4<|qax Z Z Z<|Nt<|?_;refine qaa Z ?_ ?_<;>intro c17;·have hz1:=c17;refine Sr<|qad (qao 0 [_,_,_,_,_] Z Z Z Z Z) Z<|Wt 1 [_,_,_,_,_] Y9<|At Z Z<|Zo<|Zu<|?_;exact rR [_,_] L (.agg (us:=[_,_,_,_,_]) 1 Z Z Z Z Z (.t1 Z)) Z e6 fun _ hS2=>qm8
  have hc1:=hc0.le h6;have hlw1:=hlw0;obtain ⟨w1,R1,e1,e2⟩:∃ a b,a=w0∧b=R:=⟨_,_,rfl,rfl⟩;subst e1;subst e2;have hn1:=hn;simp only [List.length_cons] at hn1;refine Zk<|Zt<|Zs<|Sr<|Zqm Z Z<|qad (qaU (j:=0) Z Z Z Z Z Z O) Z<|qad (qaq Z Z Z (hc1.le (Lr D)) Z) Z<|Je Z Z Z (qgs D _ _ _) fun s18 h18=>qbF Z Z<|Zqm Z Z<|?_;have e18:=e6.t h18;refine qdQ (t:=45) Z ?_ ?_<;>intro c19;·refine Wf Y4<|Wf Y4<|Wf Y4<|ZqT Z Z Z<|Nt<|Zy Z<|Sr<|qad (qak [] [_,_,_,_,_] Z Z Z Z Z Z) Z<|Wt 1 [_,_,_,_,_] Y9<|At Z Z<|Zo<|Zu<|?_;exact rR [_,_] L (.agg (us:=[_,_,_,_,_]) 1 Z Z Z Z Z (.t1 Z)) Z e18 fun _ hS2=>qm8
  refine Zg Z Z<|Zqm Z Z<|Zg Z Z<|Ws Y4<|Zg Z Z<|qbl Z Z Z<|ZqF Z Z Z<|Nt<|?_;refine qaa Z ?_ ?_<;>intro c20;·refine Sr<|qad (qak [] [_,_,_,_,_] Z Z Z Z Z Z) Z<|Wt 1 [_,_,_,_,_] Y9<|At Z Z<|Zo<|Zu<|?_;exact rR [_,_] L (.agg (us:=[_,_,_,_,_]) 1 Z Z Z Z Z (.t1 Z)) Z e18 fun _ hS2=>qm8
  refine Zk<|Zt<|Sr<|Zqm Z Z<|qad (qaU (j:=0) Z Z Z Z Z Z O) Z<|qad (qaq Z Z Z (hc1.le h18) Z) Z<|Wb Y5<|Wt 0 [_,_,_,_,_] Y9<|Nt<|Sr<|At Z Z<|Zs<|Sr<|Zqm Z Z<|Ws Y4<|qax Z Z Z<|Nt<|?_;refine qaa Z ?_ ?_<;>intro c21
  ·obtain ⟨b2,off2,w2,hA2,hw2,hc2,hlw2⟩:=Strs.at_ (hW1.le h18) (show 1 < _ by omega);injection hA2 with hA2
   injection hA2 with e1 e2;subst e1;subst e2;have hl2:w2.length≤400000:=hmem _ (by first|exact List.mem_cons_of_mem _ (List.mem_of_getElem? hw2)|exact List.mem_of_getElem? hw2);obtain rfl:R1=[w2]:=by
     match R1,hw2,hn1 with
     | [],h,_=>cases h
     | [y],h,_=>simp at h;rw [h]
     | _::_::_,_,h=>simp at h;omega
   refine Sr<|Wb Y5<|Wt 0 [_,_,_,_,_] Y9<|Nt<|Zr<|Zqm Z Z<|qad (qaU (j:=1) Z Z Z Z Z Z O) Z<|qad (qaq Z Z Z (hc2.le (Lr D)) Z) Z<|Jc Z Z Z (qhY D _ _ (hG.le e18) w2 O) ?_;rintro _ _ s22 h22 ⟨rfl,nm,kk,rfl,hku,hkv⟩;refine Zqm Z Z<|Zqx Z Z Z<|Zqx Z Z Z<|Wb Y5<|Wt 0 [_,_,_,_,_] Y9<|At Z Z<|Sr<|qad (qao 0 [_,_,_,_,_] Z Z Z Z Z) Z<|Zqm Z Z<|Wt 1 [_,_,_,_,_] Y9<|At Z Z<|Zo<|?_;exact rR [_,_] L (.agg (us:=[_,_,_,_,_]) 1 Z Z Z Z Z (.t1 Z)) Z (e18.t h22) fun _ hS2=>qm8
  refine Zk<|Zt<|Sr<|qad (qao 0 [_,_,_,_,_] Z Z Z Z Z) Z<|Zqm Z Z<|Wt 1 [_,_,_,_,_] Y9<|At Z Z<|Zo<|?_;exact rR [_,_] L (.agg (us:=[_,_,_,_,_]) 1 Z Z Z Z Z (.t1 Z)) Z e18 fun _ hS2=>qm8
 have hW0:W=[]:=List.eq_nil_of_length_eq_zero O;subst hW0;have hlab:qct l=qfS [] []:=qeE hWW rfl;have hW1:=hW;refine Zk<|Zt<|Zs<|Sr<|Zqm Z Z<|Ws Y4<|qax Z Z Z<|Nt<|?_;refine qaa Z ?_ ?_<;>intro c23;·have hz1:=c23;refine Sr<|qad (qao 0 [_,_,_,_,_] Z Z Z Z Z) Z<|Wt 1 [_,_,_,_,_] Y9<|At Z Z<|Zo<|Zu<|?_;exact rR [_,_] L (.agg (us:=[_,_,_,_,_]) 1 Z Z Z Z Z (.t1 Z)) Z e4 fun _ hS2=>qm8
 exact absurd (by simp at hn;omega) c23
end Go.Proofs.YtflplmcjbppfcaaGreatDoor
namespace Go.Proofs.YtflplmcjbppfcaaGreatDoor
open Go Go.FL Go.RowKit
structure AG where
 vw:Value
 Mw:Hl
 vl:Value
 Ml:Hl
 vr:Value
 Mr:Hl
 es:List (List UInt8×Value×Nat)
 ck:Nat
 w:List Int
 l:List (List UInt8×Int)
 r:List (Int×Nat×List UInt8×Int)
def lbv(l:List (List UInt8×Int)):List Value:=(l.map fun x=>[St x.1,Value.int .u32 x.2]).flatten
def rfv(r:List (Int×Nat×List UInt8×Int)):List Value:=(r.map fun x=>[Value.int .i64 x.1,Value.int .i64 (x.2.1:Int),St x.2.2.1,Value.int .u32 x.2.2.2]).flatten
def qb7:List (List UInt8×Int)→List UInt8→Option Int
 | [],_=>none
 | x::l,k=>if x.1=k then some x.2 else qb7 l k
structure AGok(g:AG):Prop where
 hw:FL.Own 46 1 g.Mw g.vw g.w.length (wv g.w)
 hl:FL.Own 192 2 g.Ml g.vl g.l.length (lbv g.l)
 hr:FL.Own 147 4 g.Mr g.vr g.r.length (rfv g.r)
 he:∀ k,qaW g.es k=(qb7 g.l k).map (Value.int .u32)
 uw:∀ x∈g.w,U32 x
 ul:∀ x∈g.l,U32 x.2
 ur:∀ x∈g.r,U32 x.2.2.2
def HA(ba bm:Nat)(tc:Int)(A:Option Addr)(n c:Nat)(g:AG)(L:Hl):Hl:=
 (ba,cb [.int .i64 tc,.slice A n c,g.vw,g.vl,.map (some bm),g.vr] 89)::(bm,mp (fun l=>St l) g.es g.ck)::(g.Mw++(g.Ml++(g.Mr++L)))
def qrk(l:List (List UInt8×Int))(k:List UInt8)(a:Int):lbv (l++[(k,a)])=lbv l++[St k,.int .u32 a]:=by simp [lbv]
def qrL(r:List (Int×Nat×List UInt8×Int))(i:Int)(p:Nat)(k:List UInt8)(a:Int):rfv (r++[(i,p,k,a)])=rfv r++[.int .i64 i,.int .i64 (p:Int),St k,.int .u32 a]:=by simp [rfv]
def qxK(w:List Int)(x:Int):wv (w++[x])=wv w++[.int .u32 x]:=by simp [wv]
def qtw(w:List Int)(m:Nat):wv (w++List.replicate m 0)=wv w++List.replicate m (.int .u32 0):=by simp [wv]
def qhT(l:List (List UInt8×Int))(k j:List UInt8)(a:Int)(h:qb7 l k=none):qb7 (l++[(k,a)]) j=if j=k then some a else qb7 l j:=by
  induction l with
  | nil=>simp only [List.nil_append,qb7];by_cases h':k=j<;>simp [h',eq_comm]
  | cons x l ih=>
    simp only [qb7] at h;split at h
    · cases h
    · rename_i hx
      simp only [List.cons_append,qb7,ih h];by_cases hj:x.1=j
      · subst hj;simp [hx]
      · simp [hj]
def qcL:List UInt8:=[115,112,97,99,101]
def qcq(w:List Int)(x:Ln)(code:Int)(own:Bool):List Int:=
 if x.op=qcL then w++List.replicate x.num.toNat 0 else if x.has then (if own then w else w++[code])++[x.num] else (if own then w else w++[code])
def qdG(r:List (Int×Nat×List UInt8×Int))(w:List Int)(i:Int)(x:Ln)(code:Int)(own:Bool):List (Int×Nat×List UInt8×Int):=
 if x.op=qcL then r else if x.has=true∧x.name≠[] then r++[(i,(if own then w else w++[code]).length,x.name,x.num)] else r
def qe0{w:List Int}{x:Ln}{code:Int}{own:Bool}(h:x.op=qcL):qcq w x code own=w++List.replicate x.num.toNat 0:=by rw [qcq,if_pos h]
def qkm{r:List (Int×Nat×List UInt8×Int)}{w:List Int}{i:Int}{x:Ln}{code:Int}{own:Bool}(h:x.op=qcL):qdG r w i x code own=r:=by rw [qdG,if_pos h]
def qiV(ba bm:Nat)(tc:Int)(A:Option Addr)(n c:Nat)(g:AG)(x:Nat×Obj)(L:Hl):(HA ba bm tc A n c g (x::L)).Perm (x::HA ba bm tc A n c g L):=by
 unfold HA;refine List.Perm.trans ?_ (List.Perm.trans (List.Perm.cons _ (List.Perm.swap _ _ _)) (List.Perm.swap _ _ _));refine List.Perm.cons _ (List.Perm.cons _ ?_);refine List.Perm.trans ?_ (List.perm_middle);refine List.Perm.append_left _ ?_;refine List.Perm.trans ?_ (List.perm_middle);exact List.Perm.append_left _ List.perm_middle
def qne(ba bm:Nat)(tc:Int)(A:Option Addr)(n c:Nat)(g:AG)(x y:Nat×Obj)(L:Hl):(HA ba bm tc A n c g (x::y::L)).Perm (x::y::HA ba bm tc A n c g L):=
 (qiV ..).trans (List.Perm.cons _ (qiV ..))
def qg3(o:List UInt8):Bool:=decide (o=[119,111,114,100]∨o=[115,112,97,99,101])
def qcr(l:List Ins)(nm:List UInt8):Option Ins:=l.find? fun y=>decide (y.name=nm)
def qli(t:Tab)(o:List UInt8):Int:=match qcr t.ins o with
 | some z=>z.code
 | none=>0
def qxQ(t:Tab)(o:List UInt8):Bool:=match qcr t.ins o with
 | some z=>z.operand
 | none=>false
def qgt(t:Tab)(w:List Int)(x:Ln):List Int:=if x.op=[] then w else qcq w x (qli t x.op) (qg3 x.op)
def qm9(w:List Int)(l:List (List UInt8×Int))(x:Ln):List (List UInt8×Int):=if x.label=[] then l else l++[(x.label,(w.length:Int))]
def qk6(t:Tab)(w:List Int)(r:List (Int×Nat×List UInt8×Int))(i:Int)(x:Ln):List (Int×Nat×List UInt8×Int):=if x.op=[] then r else qdG r w i x (qli t x.op) (qg3 x.op)
def qeb(t:Tab)(w:List Int)(l:List (List UInt8×Int)):Option Ln→Int
 | none=>1
 | some x=>if x.label≠[]∧(qb7 l x.label).isSome=true then 8 else if x.op=[] then 0
  else if (qcr t.ins x.op).isSome=false∧qg3 x.op=false then 12
  else if x.has≠(qg3 x.op || qxQ t x.op) then 9
  else if x.op=[115,112,97,99,101]∧x.name≠[] then 6
  else if t.cells < ((qgt t w x).length:Int) then 14 else 0
section
variable{t:Tab}{w:List Int}{l:List (List UInt8×Int)}{x:Ln}{yo:Bool}(h8:¬ (x.label≠[]∧(qb7 l x.label).isSome=true))(ho:¬ x.op=[])
include h8 ho
def qve(h:(qcr t.ins x.op).isSome=false∧¬ (x.op=[119,111,114,100]∨x.op=[115,112,97,99,101])):qeb t w l (some x)=12:=by
 rw [qeb,if_neg h8,if_neg ho,if_pos ⟨h.1,decide_eq_false h.2⟩]
variable(h83:¬ ((qcr t.ins x.op).isSome=false∧¬ (x.op=[119,111,114,100]∨x.op=[115,112,97,99,101])))(hoo:qxQ t x.op=yo)
include h83 hoo
def qyn(h90:¬ x.has=(decide (x.op=[119,111,114,100]∨x.op=[115,112,97,99,101]) || yo)):qeb t w l (some x)=9:=by
 rw [qeb,if_neg h8,if_neg ho,if_neg (fun h=>h83 ⟨h.1,of_decide_eq_false h.2⟩),hoo];exact if_pos h90
variable(h90:¬ ¬ x.has=(decide (x.op=[119,111,114,100]∨x.op=[115,112,97,99,101]) || yo))
include h90
def qym(h99:x.op=[115,112,97,99,101]∧¬ x.name=[]):qeb t w l (some x)=6:=by
 rw [qeb,if_neg h8,if_neg ho,if_neg (fun h=>h83 ⟨h.1,of_decide_eq_false h.2⟩),hoo];exact (if_neg h90).trans (if_pos h99)
def qyl(h99:¬ (x.op=[115,112,97,99,101]∧¬ x.name=[])):qeb t w l (some x)=if t.cells < ((qgt t w x).length:Int) then 14 else 0:=by
 rw [qeb,if_neg h8,if_neg ho,if_neg (fun h=>h83 ⟨h.1,of_decide_eq_false h.2⟩),hoo];exact (if_neg h90).trans (if_neg h99)
end
def qn4(w:List Int)(x:Ln)(c d:Int):qcq w x c true=qcq w x d true:=by simp [qcq]
def qn2(r:List (Int×Nat×List UInt8×Int))(w:List Int)(i:Int)(x:Ln)(c d:Int):qdG r w i x c true=qdG r w i x d true:=by simp [qdG]
open Go.Proofs.Tryz
open Go.FL
attribute [local irreducible] JC JO JA JB qaZ qaL qb4 AC fill CellsAt QE Ev Mid
def qqZ(D:Nat)(L:Hl)(s:World)(nm:List UInt8)(y:Ins)(A':Option Addr)(n' c' β:Nat)(x0:Nat×Obj):AC prog D 139 [.agg #[St y.name,.int .u32 y.code,.bool y.operand,.slice A' n' c'],.pointer (some ⟨β,0,none⟩)] (x0::(β,cb [St nm] 9)::L) s fun v L' _=>v=.bool (decide (y.name=nm))∧x0::(β,cb [St nm] 9)::L=L':=by
 refine qae (fn:=f139) qav func139 V Z ntmps139 Z (rs:=[.tmp 3]) Z [(0,_),(1,_)] Z<|Sr<|qay Z Z fun β1 s1 h1=>At Z Z<|Sr<|W0 Y5<|Wl 0 Y6<|Wl 2 Y6<|qht Z Z Z<|At Z Z<|Zo ?_;exact rR [_] (x0::(β,cb [St nm] 9)::L) (.t1 Z) Z h1 fun _ hS2=>⟨rfl,rfl⟩
def qlH{α:Type}(p:α→Bool)(l:List α)(j:Nat):(qbt p l j=-1∧l.find? p=none)∨∃ i x,qbt p l j=((j+i:Nat):Int)∧l[i]?=some x∧l.find? p=some x:=by
 induction l generalizing j with
 | nil=>exact .inl ⟨rfl,rfl⟩
 | cons y l ih=>
  simp only [qbt,List.find?];cases h:p y with
  | true=>exact .inr ⟨0,y,by simp,rfl,rfl⟩
  | false=>
   rcases ih (j+1) with ⟨h1,h2⟩|⟨i,x,h1,h2,h3⟩
   · exact .inl ⟨by simpa using h1,h2⟩
   · exact .inr ⟨i+1,x,by simp only [Bool.false_eq_true,if_false];rw [h1];congr 1;omega,h2,h3⟩
def Cz25{p:Prop} (h:p:=by
  first
    | (refine ⟨rfl,y,A',n',c',?_,hcd,fun z hz=>?_,fun hz=>?_⟩
       · rw [qcr,hf];rfl
       · rw [qcr,hf] at hz;injection hz
       · rw [qcr,hf] at hz;cases hz)
    | (refine ⟨rfl,⟨[],0,false,[]⟩,none,0,0,?_,qbx,fun z hz=>?_,fun _=>rfl⟩
       · rw [qcr,hf];rfl
       · rw [qcr,hf] at hz;cases hz)):p:=h
def qq0(D:Nat)(L:Hl)(s:World)(ba bm:Nat)(t:Tab)(A:Option Addr)(n c:Nat)(hA:Inss s A n c t.ins)(g:AG)(nm:List UInt8):AC prog D 98 [.pointer (some ⟨ba,0,none⟩),St nm] (HA ba bm t.cells A n c g L) s fun v L' _=>L'=HA ba bm t.cells A n c g L∧∃ (y:Ins) (Ay:Option Addr) (ny cy:Nat),v=.tuple #[.agg #[St y.name,.int .u32 y.code,.bool y.operand,.slice Ay ny cy],.bool (qcr t.ins nm).isSome]∧U32 y.code∧(∀ z,qcr t.ins nm=some z→y=z)∧(qcr t.ins nm=none→y.operand=false):=by
 have hn:=hA.1;simp only [HA];refine qae (fn:=f98) qav func98 V Z ntmps98 Z (rs:=[.cell 4 95,.tmp 5]) Z [(0,_),(1,_)] Z<|Sr<|qkW Z Z Z fun β1 s1 h1=>qag Z [_,_,_,_] Z Z fun β2 s2 h2=>At Z Z<|Sr<|Zqm Z Z<|qaQ Z Z<|W0 Y5<|Wb Y5<|Wl 2 Y6<|qad (qfQ Z) Z<|Je Z Z Z (qge D _ _ _ _ _ _ (hA.le (h1.t h2)) _ _ (fun (y:Ins)=>decide (y.name=nm)) (fun s2 x A2 n2 c2=>qqZ D _ s2 nm x A2 n2 c2 _ _)) fun s3 h3=>At Z Z<|Zs<|Sr<|Zqm Z Z<|qa8 Z Z Z<|Nt<|?_;have e3:=h1.t h2|>.t h3;refine qaa Z ?_ ?_<;>intro c4
 ·have hneg:=c4;obtain ⟨hi,hf⟩|⟨i,y,hi,hy,hf⟩:=qlH (fun (y:Ins)=>decide (y.name=nm)) t.ins 0
  rotate_left
  · exact absurd hneg O
  refine Sr<|qad (qak [] [_,_,_,_] Z Z Z Z Z Z) Z<|Wt 0 [_,_,_,_] Y9<|At Z Z<|Zo<|Zu<|?_;exact rR [_,_] _ (.agg (us:=[_,_,_,_]) 0 Z Z Z Z Z (.t1 Z)) Z e3 fun _ hS2=>Cz25
 have hneg:=c4;obtain ⟨hi,hf⟩|⟨i,y,hi,hy,hf⟩:=qlH (fun (y:Ins)=>decide (y.name=nm)) t.ins 0
 · exact absurd O hneg
 rw [hi,Nat.zero_add];obtain ⟨b,off,y',A',n',c',rfl,hy',hcy,hay,hnl,hcd⟩:=Inss.at_ (hA.le e3) (show i < n by rw [hn];exact (List.getElem?_eq_some_iff.1 hy).1);rw [hy] at hy';injection hy' with hy'
 subst hy';refine Zk<|Zt<|Sr<|Zqm Z Z<|qaQ Z Z<|W0 Y5<|Wb Y5<|Wl 2 Y6<|Zqm Z Z<|?_;refine qad (qau Z Z Z Z Z Z (show i < n by rw [hn];exact (List.getElem?_eq_some_iff.1 hy).1)) Z ?_;refine qad (qaw Z Z Z (hcy.le (Lr D)) Z) Z<|Wt 0 [_,_,_,_] Y9<|At Z Z<|Zo<|?_;exact rR [_,_] _ (.agg (us:=[_,_,_,_]) 0 Z Z Z Z Z (.t1 Z)) Z e3 fun _ hS2=>Cz25
def qbB{g:AG}{vw:Value}{M:Hl}{x:Int}(hg:AGok g)(o:FL.Own 46 1 M vw (g.w.length+1) (wv g.w++[.int .u32 x]))(hx:U32 x):AGok ⟨vw,M,g.vl,g.Ml,g.vr,g.Mr,g.es,g.ck,g.w++[x],g.l,g.r⟩:=
 ⟨by simp only [List.length_append,List.length_cons,List.length_nil,qxK];exact o,hg.hl,hg.hr,hg.he,fun y hy=>by
  rcases List.mem_append.1 hy with h|h
  · exact hg.uw y h
  · rw [List.mem_singleton.1 h];exact hx,hg.ul,hg.ur⟩
def qfh{g:AG}{vr:Value}{M:Hl}{i:Int}{p:Nat}{k:List UInt8}{x:Int}(hg:AGok g)(o:FL.Own 147 4 M vr (g.r.length+1) (rfv g.r++[.int .i64 i,.int .i64 (p:Int),St k,.int .u32 x]))(hx:U32 x):AGok ⟨g.vw,g.Mw,g.vl,g.Ml,vr,M,g.es,g.ck,g.w,g.l,g.r++[(i,p,k,x)]⟩:=
 ⟨hg.hw,hg.hl,by simp only [List.length_append,List.length_cons,List.length_nil,qrL];exact o,hg.he,hg.uw,hg.ul,fun y hy=>by
  rcases List.mem_append.1 hy with h|h
  · exact hg.ur y h
  · rw [List.mem_singleton.1 h];exact hx⟩
def qqt{g:AG}{vw:Value}{M:Hl}{m:Nat}(hg:AGok g)(o:FL.Own 46 1 M vw (g.w.length+m) (wv g.w++List.replicate m (.int .u32 0))):AGok ⟨vw,M,g.vl,g.Ml,g.vr,g.Mr,g.es,g.ck,g.w++List.replicate m 0,g.l,g.r⟩:=
 ⟨by simp only [List.length_append,List.length_replicate,qtw];exact o,hg.hl,hg.hr,hg.he,fun y hy=>by
  rcases List.mem_append.1 hy with h|h
  · exact hg.uw y h
  · rw [(List.mem_replicate.1 h).2];exact qbx,hg.ul,hg.ur⟩
def qcn{w w1:List Int}{xl xo xn:List UInt8}{xh own:Bool}{xk yc:Int}(h:w1=if own=true then w else w++[yc])(hs:¬ xo=qcL)(hh:xh=true):w1++[xk]=qcq w ⟨xl,xo,xh,xn,xk⟩ yc own:=by
 subst h;subst hh;simp [qcq,hs]
def qii{w w1:List Int}{xl xo xn:List UInt8}{xh own:Bool}{xk yc:Int}(h:w1=if own=true then w else w++[yc])(hs:¬ xo=qcL)(hh:xh=false):w1=qcq w ⟨xl,xo,xh,xn,xk⟩ yc own:=by
 subst h;subst hh;simp [qcq,hs]
def qfj{r:List (Int×Nat×List UInt8×Int)}{w w1:List Int}{i:Int}{xl xo xn:List UInt8}{xh own:Bool}{xk yc:Int}(h:w1=if own=true then w else w++[yc])(hs:¬ xo=qcL)(hh:xh=true)(hn:¬ xn=[]):r++[(i,w1.length,xn,xk)]=qdG r w i ⟨xl,xo,xh,xn,xk⟩ yc own:=by
 subst h;subst hh;simp [qdG,hs,hn]
def qcT{r:List (Int×Nat×List UInt8×Int)}{w:List Int}{i:Int}{xl xo xn:List UInt8}{xh own:Bool}{xk yc:Int}(hn:xn=[]):r=qdG r w i ⟨xl,xo,xh,xn,xk⟩ yc own:=by
 subst hn;simp [qdG]
def qcS{r:List (Int×Nat×List UInt8×Int)}{w:List Int}{i:Int}{xl xo xn:List UInt8}{xh own:Bool}{xk yc:Int}(hh:xh=false):r=qdG r w i ⟨xl,xo,xh,xn,xk⟩ yc own:=by
 subst hh;simp [qdG]
def qnI{x1 x2 x3 x4:Nat×Obj}{M1 M2 R:Hl}:x1::x2::x3::x4::(M1++(M2++R))=(x1::x2::x3::x4::(M1++M2))++R:=by simp
def qd9{x a b:Nat×Obj}{R R':Hl}(hx:x∈(a::b::R).take 2):x∈a::b::R':=by
 simp only [List.take_succ_cons,List.take_zero,List.mem_cons,List.not_mem_nil,or_false] at hx;rcases hx with rfl|rfl
 · exact List.mem_cons_self ..
 · exact List.mem_cons_of_mem _ Mc
def qe7{k:Nat}(h:k < 4294967296):U32 (k:Int):=⟨by omega,by omega⟩
def qAb{p:Prop} (h:p:=by
  first
    | (refine ⟨(⟨.slice Aw w.length cw,Mw,.slice Al l.length cl,Ml,.slice Ar r.length cr,Mr,es,ck,w,l,r⟩:AG),rfl,14,rfl,.inl ⟨rfl,?_⟩⟩
       simp only [qe0 (x:=⟨xl,xo,xh,xn,(xk:Int)⟩) hsp,List.length_append,List.length_replicate,Int.toNat_natCast];omega)
    | (refine ⟨⟨_,M1,_,Ml,_,Mr,es,ck,w++List.replicate xk 0,l,r⟩,rfl,0,rfl,.inr ⟨rfl,?_,qqt hg0 o1,?_,rfl,rfl,?_⟩⟩
       · simp only [qe0 (x:=⟨xl,xo,xh,xn,(xk:Int)⟩) hsp,List.length_append,List.length_replicate,Int.toNat_natCast];omega
       · simp only [qe0 (x:=⟨xl,xo,xh,xn,(xk:Int)⟩) hsp,Int.toNat_natCast]
       · exact (qkm (x:=⟨xl,xo,xh,xn,(xk:Int)⟩) hsp).symm)
    | (refine ⟨g,rfl,14,rfl,.inl ⟨rfl,?_⟩⟩
       rw [← ew3];omega)
    | (refine ⟨g,rfl,0,rfl,.inr ⟨rfl,?_,hg3,ew3,el3,ee3,er3⟩⟩
       rw [← ew3];omega)):p:=h
def qvF(D:Nat)(L:Hl)(s:World)(ba bm:Nat)(tc:Int)(A:Option Addr)(n c:Nat)(g:AG)(hg:AGok g)(num:Int)(xl xo:List UInt8)(xh:Bool)(xn:List UInt8)(xk:Nat)(hxk:xk < 4294967296)(yn:List UInt8)(yc:Int)(yo:Bool)(Ay:Option Addr)(ny cy:Nat)(hyc:U32 yc)(own:Bool)(htc:0≤tc∧tc≤65536)(hwl:(g.w.length:Int)≤tc)(hrl:g.r.length≤1000000):AC Tryz.prog D 99 [.pointer (some ⟨ba,0,none⟩),.int .i64 num,.agg #[St xl,St xo,.bool xh,St xn,.int .u32 (xk:Int)],.agg #[St yn,.int .u32 yc,.bool yo,.slice Ay ny cy],.bool own] (HA ba bm tc A n c g L) s fun v L' _=>∃ g',L'=HA ba bm tc A n c g' L∧∃ e,v=.int .i64 e∧((e=14∧tc < ((qcq g.w ⟨xl,xo,xh,xn,(xk:Int)⟩ yc own).length:Int))∨(e=0∧((qcq g.w ⟨xl,xo,xh,xn,(xk:Int)⟩ yc own).length:Int)≤tc∧AGok g'∧g'.w=qcq g.w ⟨xl,xo,xh,xn,(xk:Int)⟩ yc own∧g'.l=g.l∧g'.es=g.es∧g'.r=qdG g.r g.w num ⟨xl,xo,xh,xn,(xk:Int)⟩ yc own)):=by
 have hg0:=hg;obtain ⟨vw,Mw,vl,Ml,vr,Mr,es,ck,w,l,r⟩:=g;obtain ⟨hOw,hOl,hOr,hE,huw,hul,hur⟩:=hg;simp only at hOw hOl hOr hE huw hul hur;obtain ⟨Aw,cw,rfl,kw,kx⟩:=Own.slice hOw;obtain ⟨Al,cl,rfl,kl,km⟩:=Own.slice hOl;obtain ⟨Ar,cr,rfl,kr,ks⟩:=Own.slice hOr;simp only [HA];simp only at hwl hrl;refine qae (fn:=Tryz.f99) qav Tryz.func99 V Z Tryz.ntmps99 Z (rs:=[.tmp 10]) Z [(0,_),(1,_),(2,_),(3,_),(4,_)] Z<|Sr<|qay Z Z fun β1 s1 h1=>qay Z Z fun β2 s2 h2=>At Z Z<|Zs<|qaJ qac 12 Z _ (fun _ h=>h) fun s3 h3=>za 0 Z (qan Z) Z<|za 1 Z (qam Z) Z<|za 2 Z (qat Z Z Z Z) Z<|za 3 Z (qat Z Z Z Z) Z<|za 4 Z (Wd 2 Y5) Z<|za 5 Z (qan Z) Z<|za 6 Z (qam Z) Z<|za 7 Z (We Y4) Z<|za 8 Z (Wd 2 Y5) Z<|za 9 Z (qbi Z Z Z) Z<|za 10 Z (qba Z Z (w64 O O)) Z<|za 11 Z (qa6 Z) Z<|qaf V<|Zt<|Zs<|Sr<|Wb Y5<|Wl 1 Y6<|qht Z Z Z<|Nt<|?_;have e3:=h1.t h2|>.t h3;refine qaa Z ?_ ?_<;>intro c4
 ·have hsp:xo=qcL:=c4;refine Zs<|Sr<|Wb Y5<|qad (qbm Z Z Z Z) Z<|Wl 1 Y6<|qad (qaR Z Z Z Z Z (w64 O O)) Z<|Zqm Z Z<|qbl Z Z Z<|Nt<|?_;refine qaa Z ?_ ?_<;>intro c5;·refine Sr<|At Z Z<|Zo<|Zu<|Zu<|?_;exact rR [_,_] _ (.t1 Z) Z e3 fun _ hS2=>qAb
  refine Zk<|Zt<|Zs<|qaB qac 12 Z 2 fun s6 h6=>za 0 Z (qan Z) Z<|za 1 Z (qan Z) Z<|za 2 Z (qam Z) Z<|za 3 Z (We Y4) Z<|za 5 Z (We Y4) Z<|za 6 Z (qbm Z Z Z Z) Z<|za 7 Z (Wd 1 Y5) Z<|qar 4 V<|qbA Z Tt (Wd 2 Y5) Z<|qar 8 V<|quB (sz:=1) (m:=xk) (news:=List.replicate xk (.int .u32 0)) Z Tt [_,_,_,_] Mw _ Z Z Z Z Z Z Z hOw (by simp) (fun hT w i k1 i1 i2 i3 i4=>qi4 xk k1 Tryz.underlying46 i1 i2 i4 Z Z O (by rw [i3];simp [ti46];omega)) ⟨by simp [ti46];omega,by omega⟩ Z (fun A2 x hx _=>qd9 hx) ?_;intro v1 M1 s7 h7 o1;obtain ⟨Av1,cv1,rfl,kv1,kv2⟩:=Own.slice o1;simp only [List.cons_append,List.nil_append,List.append_assoc];refine za 9 Z (qam Z) Z<|za 10 Z (We Y4) Z<|qar 11 V<|Wu Z Tt 2 [_,_,_,_,_,_] Y9 (sM (qet (sb0 _)))<|qaf V<|Zt<|Sr<|At Z Z<|Zo<|Zu<|?_;exact rR [_,_] _ (.t1 Z) Z (e3.t h6|>.t h7) fun _ hS2=>qAb
 have hsp:¬ xo=qcL:=c4;refine Zk<|Zt<|?_;refine qcH (γ:=AG) (fun g=>[(11,.int .i64 (tc - (g.w.length:Int)))]) [_,_] Z (fun g=>HA ba bm tc A n c g L) (fun g tw=>AGok g∧g.w=(if own=true then w else w++[yc])∧g.l=l∧g.r=r∧g.es=es) (fun _ _ _ h hl=>h) ?_ ?_
 ·refine Sr<|Zqm Z Z<|qbF Z Z<|Nt<|?_;refine qb8 Z ?_ ?_<;>intro c9
  ·have hown:=c9;refine Zs<|qaB qac 12 Z 2 fun s10 h10=>za 0 Z (qan Z) Z<|za 1 Z (qan Z) Z<|za 2 Z (qam Z) Z<|za 3 Z (We Y4) Z<|za 5 Z (We Y4) Z<|za 6 Z (Wd 0 Y5) Z ?_;refine qeR 4 7 V ?_ ?_;·refine qbA Z Tt (Wd 2 Y5) Z<|qar 7 V<|qbQ Z Tt [(_,_)] [_] Z Z Z Z Z Z Z Z Z fun βn s11 h11 hcb=>qar 8 V<|qbE (sz:=1) Z (by exact Tt) [_,_,_,_] Mw _ Z Z Z Z Z Z Z hOw (Row.of_cells (hcb.le (Lr D)) Z Z) ⟨by simp [ti46];omega,by omega⟩ Z (fun A2 x hx _=>qd9 hx) ?_;intro v1 M1 s12 h12 o1;obtain ⟨Av1,cv1,rfl,kv1,kv12⟩:=Own.slice o1;simp only [List.cons_append,List.nil_append,List.append_assoc];refine za 9 Z (qam Z) Z<|za 10 Z (We Y4) Z<|qar 11 V<|Wu Z Tt 2 [_,_,_,_,_,_] Y9 (sM (qet (sb0 _)))<|qaf V<|Zt<|Zr<|Zqm Z Z<|qhu Z Z Z (w64 O O)<|Zqa Z Z<|Zn<|?_;refine qab (MidG.mk ⟨_,M1,_,Ml,_,Mr,es,ck,w++[yc],l,r⟩ [] (h10.t h11|>.t h12) (.cons (by first|rfl|(simp only [List.length_append,List.length_cons,List.length_nil];refine congrArg some (congrArg (Value.int .i64) ?_);omega)) (.nil _)) So Pr (by first|exact ⟨qbB hg0 o1 hyc,by simp [hown],rfl,rfl,rfl⟩|exact ⟨hg0,by simp [hown],rfl,rfl,rfl⟩))
   refine qbQ Z Tt [(_,_)] [_] Z Z Z Z Z Z Z Z Z fun βn s13 h13 hcb=>qar 4 V<|qbA Z Tt (Wd 2 Y5) Z<|qar 8 V<|qbE (sz:=1) Z (by exact Tt) [_,_,_,_] Mw _ Z Z Z Z Z Z Z hOw (Row.of_cells (hcb.le (Lr D)) Z Z) ⟨by simp [ti46];omega,by omega⟩ Z (fun A2 x hx _=>qd9 hx) ?_;intro v1 M1 s14 h14 o1;obtain ⟨Av1,cv1,rfl,kv1,kv12⟩:=Own.slice o1;simp only [List.cons_append,List.nil_append,List.append_assoc];refine za 9 Z (qam Z) Z<|za 10 Z (We Y4) Z<|qar 11 V<|Wu Z Tt 2 [_,_,_,_,_,_] Y9 (sM (qet (sb0 _)))<|qaf V<|Zt<|Zr<|Zqm Z Z<|qhu Z Z Z (w64 O O)<|Zqa Z Z<|Zn<|?_;refine qab (MidG.mk ⟨_,M1,_,Ml,_,Mr,es,ck,w++[yc],l,r⟩ [] (h10.t h13|>.t h14) (.cons (by first|rfl|(simp only [List.length_append,List.length_cons,List.length_nil];refine congrArg some (congrArg (Value.int .i64) ?_);omega)) (.nil _)) So Pr (by first|exact ⟨qbB hg0 o1 hyc,by simp [hown],rfl,rfl,rfl⟩|exact ⟨hg0,by simp [hown],rfl,rfl,rfl⟩))
  have hown:=c9;refine Zk ?_;refine qab (MidG.mk ⟨_,Mw,_,Ml,_,Mr,es,ck,w,l,r⟩ [] (Lr D) (.cons (by first|rfl|(simp only [List.length_append,List.length_cons,List.length_nil];refine congrArg some (congrArg (Value.int .i64) ?_);omega)) (.nil _)) So Pr (by first|exact ⟨qbB hg0 o1 hyc,by simp [hown],rfl,rfl,rfl⟩|exact ⟨hg0,by simp [hown],rfl,rfl,rfl⟩))
 intro g s8 h8 I8;simp only [cQ9,nQ9];obtain ⟨hg1,ew1,el1,er1,ee1⟩:=I8;have hg2:=hg1;obtain ⟨vw1,Mw1,vl1,Ml1,vr1,Mr1,es1,ck1,w1,l1,r1⟩:=g;obtain ⟨hOw1,hOl1,hOr1,hE1,huw1,hul1,hur1⟩:=hg1;simp only at hOw1 hOl1 hOr1 hE1 huw1 hul1 hur1;obtain ⟨Aw1,cw1,rfl,kw1,kx1⟩:=Own.slice hOw1;obtain ⟨Al1,cl1,rfl,kl1,km1⟩:=Own.slice hOl1;obtain ⟨Ar1,cr1,rfl,kr1,ks1⟩:=Own.slice hOr1;simp only [HA];simp only at ew1 el1 er1 ee1;subst el1;subst er1;subst ee1;have hw1l:(w1.length:Int)≤tc+1:=by rw [ew1];split<;>(try simp only [List.length_append,List.length_cons,List.length_nil])<;>omega
 refine qcH (γ:=AG) (fun g=>[(11,.int .i64 (tc - (g.w.length:Int)))]) [_,_] Z (fun g=>HA ba bm tc A n c g L) (fun g tw=>AGok g∧g.w=qcq w ⟨xl,xo,xh,xn,(xk:Int)⟩ yc own∧g.l=l1∧g.r=qdG r1 w num ⟨xl,xo,xh,xn,(xk:Int)⟩ yc own∧g.es=es1) (fun _ _ _ h hl=>h) ?_ ?_
 ·refine Sr<|Wb Y5<|Wl 1 Y6<|Nt<|?_;refine qeN Z ?_ ?_<;>intro c16
  ·have hhas:=c16;refine Zs<|Sr<|Wb Y5<|W0 Y5<|Wl 1 Y6<|quY Z Z Z<|Nt<|?_;refine qaM Z ?_ ?_<;>intro c17
   ·have hnm:=c17;refine qaB qac 19 Z 2 fun s18 h18=>za 0 Z (qan Z) Z<|za 1 Z (qan Z) Z<|za 2 Z (qam Z) Z<|za 3 Z (We Y4) Z<|za 5 Z (qan Z) Z<|za 6 Z (qan Z) Z<|za 7 Z (qam Z) Z<|za 8 Z (We Y4) Z<|za 11 Z (We Y4) Z<|za 12 Z (qao 1 [_,_] Z Z Z Z Z) Z ?_;refine qeR 4 9 V ?_ ?_
    ·refine qbA Z Tt (Wd 2 Y5) Z<|qar 9 V<|qbA Z Tt (Wd 2 Y5) Z<|za 10 Z (qbi Z Z Z) Z<|za 13 Z (qak [(_,_),(_,_),(_,_)] [_,_,_,_] Z Z Z Z Z Z) Z<|qar 14 V<|qbQ Z Tt [(_,_)] [_,_,_,_] Z Z Z Z Z Z Z Z Z fun βn s19 h19 hcb=>qar 15 V<|qbE (sz:=4) Z (by exact Tt) (_::_::_::_::(Mw1++Ml1)) Mr1 _ qnI Z Z Z Z Z Z hOr1 (Row.of_cells (hcb.le (Lr D)) Z Z) ⟨by simp [ti147];omega,by omega⟩ Z (fun A2 x hx _=>qd9 hx) ?_;intro v2 M2 s20 h20 o2;obtain ⟨Av2,cv2,rfl,kv2,kv22⟩:=Own.slice o2;simp only [List.cons_append,List.nil_append,List.append_assoc];refine za 16 Z (qam Z) Z<|za 17 Z (We Y4) Z<|qar 18 V<|Wu Z Tt 2 [_,_,_,_,_,_] Y9 (sM (qet (sb0 _)))<|qaf V<|Zt<|Zs<|qaB qac 13 Z 2 fun s21 h21=>za 0 Z (qan Z) Z<|za 1 Z (qan Z) Z<|za 2 Z (qam Z) Z<|za 3 Z (We Y4) Z<|za 5 Z (We Y4) Z<|za 6 Z (qbm Z Z Z Z) Z<|za 7 Z (Wd 1 Y5) Z ?_;have e21:=h18.t h19|>.t h20|>.t h21;refine qeR 4 8 V ?_ ?_;·refine qbA Z Tt (Wd 2 Y5) Z<|qar 8 V<|qbQ Z Tt [(_,_)] [_] Z Z Z Z Z Z Z Z Z fun βn s22 h22 hcb=>qar 9 V<|qbE (sz:=1) Z (by exact Tt) [_,_,_,_] Mw1 _ Z Z Z Z Z Z Z hOw1 (Row.of_cells (hcb.le (Lr D)) Z Z) ⟨by simp [ti46];omega,by omega⟩ Z (fun A2 x hx _=>qd9 hx) ?_;intro v3 M3 s23 h23 o3;obtain ⟨Av3,cv3,rfl,kv3,kv32⟩:=Own.slice o3;simp only [List.cons_append,List.nil_append,List.append_assoc];refine za 10 Z (qam Z) Z<|za 11 Z (We Y4) Z<|qar 12 V<|Wu Z Tt 2 [_,_,_,_,_,_] Y9 (sM (qet (sb0 _)))<|qaf V<|Zt<|Zr<|Zqm Z Z<|qhu Z Z Z (w64 O O)<|Zqa Z Z<|Zn<|?_;refine qab (MidG.mk ⟨_,M3,_,Ml1,_,M2,es1,ck1,w1++[(xk:Int)],l1,r1++[(num,w1.length,xn,(xk:Int))]⟩ [] (e21.t h22|>.t h23) (.cons (by first|rfl|(simp only [List.length_append,List.length_cons,List.length_nil];refine congrArg some (congrArg (Value.int .i64) ?_);omega)) (.nil _)) So Pr (by first|exact ⟨qbB (qfh hg2 o2 (qe7 hxk)) o3 (qe7 hxk),qcn ew1 hsp hhas,rfl,qfj ew1 hsp hhas hnm,rfl⟩|exact ⟨qbB hg2 o3 (qe7 hxk),qcn ew1 hsp hhas,rfl,qcT hnm,rfl⟩|exact ⟨hg2,qii ew1 hsp hhas,rfl,qcS hhas,rfl⟩))
     refine qbQ Z Tt [(_,_)] [_] Z Z Z Z Z Z Z Z Z fun βn s24 h24 hcb=>qar 4 V<|qbA Z Tt (Wd 2 Y5) Z<|qar 9 V<|qbE (sz:=1) Z (by exact Tt) [_,_,_,_] Mw1 _ Z Z Z Z Z Z Z hOw1 (Row.of_cells (hcb.le (Lr D)) Z Z) ⟨by simp [ti46];omega,by omega⟩ Z (fun A2 x hx _=>qd9 hx) ?_;intro v3 M3 s25 h25 o3;obtain ⟨Av3,cv3,rfl,kv3,kv32⟩:=Own.slice o3;simp only [List.cons_append,List.nil_append,List.append_assoc];refine za 10 Z (qam Z) Z<|za 11 Z (We Y4) Z<|qar 12 V<|Wu Z Tt 2 [_,_,_,_,_,_] Y9 (sM (qet (sb0 _)))<|qaf V<|Zt<|Zr<|Zqm Z Z<|qhu Z Z Z (w64 O O)<|Zqa Z Z<|Zn<|?_;refine qab (MidG.mk ⟨_,M3,_,Ml1,_,M2,es1,ck1,w1++[(xk:Int)],l1,r1++[(num,w1.length,xn,(xk:Int))]⟩ [] (e21.t h24|>.t h25) (.cons (by first|rfl|(simp only [List.length_append,List.length_cons,List.length_nil];refine congrArg some (congrArg (Value.int .i64) ?_);omega)) (.nil _)) So Pr (by first|exact ⟨qbB (qfh hg2 o2 (qe7 hxk)) o3 (qe7 hxk),qcn ew1 hsp hhas,rfl,qfj ew1 hsp hhas hnm,rfl⟩|exact ⟨qbB hg2 o3 (qe7 hxk),qcn ew1 hsp hhas,rfl,qcT hnm,rfl⟩|exact ⟨hg2,qii ew1 hsp hhas,rfl,qcS hhas,rfl⟩))
    refine qbA Z Tt (Wd 2 Y5) Z<|za 10 Z (qbi Z Z Z) Z<|za 13 Z (qak [(_,_),(_,_),(_,_)] [_,_,_,_] Z Z Z Z Z Z) Z ?_;refine qeR 4 14 V ?_ ?_
    ·refine qbA Z Tt (Wd 2 Y5) Z<|qar 14 V<|qbQ Z Tt [(_,_)] [_,_,_,_] Z Z Z Z Z Z Z Z Z fun βn s26 h26 hcb=>qar 15 V<|qbE (sz:=4) Z (by exact Tt) (_::_::_::_::(Mw1++Ml1)) Mr1 _ qnI Z Z Z Z Z Z hOr1 (Row.of_cells (hcb.le (Lr D)) Z Z) ⟨by simp [ti147];omega,by omega⟩ Z (fun A2 x hx _=>qd9 hx) ?_;intro v2 M2 s27 h27 o2;obtain ⟨Av2,cv2,rfl,kv2,kv22⟩:=Own.slice o2;simp only [List.cons_append,List.nil_append,List.append_assoc];refine za 16 Z (qam Z) Z<|za 17 Z (We Y4) Z<|qar 18 V<|Wu Z Tt 2 [_,_,_,_,_,_] Y9 (sM (qet (sb0 _)))<|qaf V<|Zt<|Zs<|qaB qac 13 Z 2 fun s28 h28=>za 0 Z (qan Z) Z<|za 1 Z (qan Z) Z<|za 2 Z (qam Z) Z<|za 3 Z (We Y4) Z<|za 5 Z (We Y4) Z<|za 6 Z (qbm Z Z Z Z) Z<|za 7 Z (Wd 1 Y5) Z ?_;have e28:=h18.t h26|>.t h27|>.t h28;refine qeR 4 8 V ?_ ?_;·refine qbA Z Tt (Wd 2 Y5) Z<|qar 8 V<|qbQ Z Tt [(_,_)] [_] Z Z Z Z Z Z Z Z Z fun βn s29 h29 hcb=>qar 9 V<|qbE (sz:=1) Z (by exact Tt) [_,_,_,_] Mw1 _ Z Z Z Z Z Z Z hOw1 (Row.of_cells (hcb.le (Lr D)) Z Z) ⟨by simp [ti46];omega,by omega⟩ Z (fun A2 x hx _=>qd9 hx) ?_;intro v3 M3 s30 h30 o3;obtain ⟨Av3,cv3,rfl,kv3,kv32⟩:=Own.slice o3;simp only [List.cons_append,List.nil_append,List.append_assoc];refine za 10 Z (qam Z) Z<|za 11 Z (We Y4) Z<|qar 12 V<|Wu Z Tt 2 [_,_,_,_,_,_] Y9 (sM (qet (sb0 _)))<|qaf V<|Zt<|Zr<|Zqm Z Z<|qhu Z Z Z (w64 O O)<|Zqa Z Z<|Zn<|?_;refine qab (MidG.mk ⟨_,M3,_,Ml1,_,M2,es1,ck1,w1++[(xk:Int)],l1,r1++[(num,w1.length,xn,(xk:Int))]⟩ [] (e28.t h29|>.t h30) (.cons (by first|rfl|(simp only [List.length_append,List.length_cons,List.length_nil];refine congrArg some (congrArg (Value.int .i64) ?_);omega)) (.nil _)) So Pr (by first|exact ⟨qbB (qfh hg2 o2 (qe7 hxk)) o3 (qe7 hxk),qcn ew1 hsp hhas,rfl,qfj ew1 hsp hhas hnm,rfl⟩|exact ⟨qbB hg2 o3 (qe7 hxk),qcn ew1 hsp hhas,rfl,qcT hnm,rfl⟩|exact ⟨hg2,qii ew1 hsp hhas,rfl,qcS hhas,rfl⟩))
     refine qbQ Z Tt [(_,_)] [_] Z Z Z Z Z Z Z Z Z fun βn s31 h31 hcb=>qar 4 V<|qbA Z Tt (Wd 2 Y5) Z<|qar 9 V<|qbE (sz:=1) Z (by exact Tt) [_,_,_,_] Mw1 _ Z Z Z Z Z Z Z hOw1 (Row.of_cells (hcb.le (Lr D)) Z Z) ⟨by simp [ti46];omega,by omega⟩ Z (fun A2 x hx _=>qd9 hx) ?_;intro v3 M3 s32 h32 o3;obtain ⟨Av3,cv3,rfl,kv3,kv32⟩:=Own.slice o3;simp only [List.cons_append,List.nil_append,List.append_assoc];refine za 10 Z (qam Z) Z<|za 11 Z (We Y4) Z<|qar 12 V<|Wu Z Tt 2 [_,_,_,_,_,_] Y9 (sM (qet (sb0 _)))<|qaf V<|Zt<|Zr<|Zqm Z Z<|qhu Z Z Z (w64 O O)<|Zqa Z Z<|Zn<|?_;refine qab (MidG.mk ⟨_,M3,_,Ml1,_,M2,es1,ck1,w1++[(xk:Int)],l1,r1++[(num,w1.length,xn,(xk:Int))]⟩ [] (e28.t h31|>.t h32) (.cons (by first|rfl|(simp only [List.length_append,List.length_cons,List.length_nil];refine congrArg some (congrArg (Value.int .i64) ?_);omega)) (.nil _)) So Pr (by first|exact ⟨qbB (qfh hg2 o2 (qe7 hxk)) o3 (qe7 hxk),qcn ew1 hsp hhas,rfl,qfj ew1 hsp hhas hnm,rfl⟩|exact ⟨qbB hg2 o3 (qe7 hxk),qcn ew1 hsp hhas,rfl,qcT hnm,rfl⟩|exact ⟨hg2,qii ew1 hsp hhas,rfl,qcS hhas,rfl⟩))
    refine qbQ Z Tt [(_,_)] [_,_,_,_] Z Z Z Z Z Z Z Z Z fun βn s33 h33 hcb=>qar 4 V<|qbA Z Tt (Wd 2 Y5) Z<|qar 15 V<|qbE (sz:=4) Z (by exact Tt) (_::_::_::_::(Mw1++Ml1)) Mr1 _ qnI Z Z Z Z Z Z hOr1 (Row.of_cells (hcb.le (Lr D)) Z Z) ⟨by simp [ti147];omega,by omega⟩ Z (fun A2 x hx _=>qd9 hx) ?_;intro v2 M2 s34 h34 o2;obtain ⟨Av2,cv2,rfl,kv2,kv22⟩:=Own.slice o2;simp only [List.cons_append,List.nil_append,List.append_assoc];refine za 16 Z (qam Z) Z<|za 17 Z (We Y4) Z<|qar 18 V<|Wu Z Tt 2 [_,_,_,_,_,_] Y9 (sM (qet (sb0 _)))<|qaf V<|Zt<|Zs<|qaB qac 13 Z 2 fun s35 h35=>za 0 Z (qan Z) Z<|za 1 Z (qan Z) Z<|za 2 Z (qam Z) Z<|za 3 Z (We Y4) Z<|za 5 Z (We Y4) Z<|za 6 Z (qbm Z Z Z Z) Z<|za 7 Z (Wd 1 Y5) Z ?_;have e35:=h18.t h33|>.t h34|>.t h35;refine qeR 4 8 V ?_ ?_;·refine qbA Z Tt (Wd 2 Y5) Z<|qar 8 V<|qbQ Z Tt [(_,_)] [_] Z Z Z Z Z Z Z Z Z fun βn s36 h36 hcb=>qar 9 V<|qbE (sz:=1) Z (by exact Tt) [_,_,_,_] Mw1 _ Z Z Z Z Z Z Z hOw1 (Row.of_cells (hcb.le (Lr D)) Z Z) ⟨by simp [ti46];omega,by omega⟩ Z (fun A2 x hx _=>qd9 hx) ?_;intro v3 M3 s37 h37 o3;obtain ⟨Av3,cv3,rfl,kv3,kv32⟩:=Own.slice o3;simp only [List.cons_append,List.nil_append,List.append_assoc];refine za 10 Z (qam Z) Z<|za 11 Z (We Y4) Z<|qar 12 V<|Wu Z Tt 2 [_,_,_,_,_,_] Y9 (sM (qet (sb0 _)))<|qaf V<|Zt<|Zr<|Zqm Z Z<|qhu Z Z Z (w64 O O)<|Zqa Z Z<|Zn<|?_;refine qab (MidG.mk ⟨_,M3,_,Ml1,_,M2,es1,ck1,w1++[(xk:Int)],l1,r1++[(num,w1.length,xn,(xk:Int))]⟩ [] (e35.t h36|>.t h37) (.cons (by first|rfl|(simp only [List.length_append,List.length_cons,List.length_nil];refine congrArg some (congrArg (Value.int .i64) ?_);omega)) (.nil _)) So Pr (by first|exact ⟨qbB (qfh hg2 o2 (qe7 hxk)) o3 (qe7 hxk),qcn ew1 hsp hhas,rfl,qfj ew1 hsp hhas hnm,rfl⟩|exact ⟨qbB hg2 o3 (qe7 hxk),qcn ew1 hsp hhas,rfl,qcT hnm,rfl⟩|exact ⟨hg2,qii ew1 hsp hhas,rfl,qcS hhas,rfl⟩))
    refine qbQ Z Tt [(_,_)] [_] Z Z Z Z Z Z Z Z Z fun βn s38 h38 hcb=>qar 4 V<|qbA Z Tt (Wd 2 Y5) Z<|qar 9 V<|qbE (sz:=1) Z (by exact Tt) [_,_,_,_] Mw1 _ Z Z Z Z Z Z Z hOw1 (Row.of_cells (hcb.le (Lr D)) Z Z) ⟨by simp [ti46];omega,by omega⟩ Z (fun A2 x hx _=>qd9 hx) ?_;intro v3 M3 s39 h39 o3;obtain ⟨Av3,cv3,rfl,kv3,kv32⟩:=Own.slice o3;simp only [List.cons_append,List.nil_append,List.append_assoc];refine za 10 Z (qam Z) Z<|za 11 Z (We Y4) Z<|qar 12 V<|Wu Z Tt 2 [_,_,_,_,_,_] Y9 (sM (qet (sb0 _)))<|qaf V<|Zt<|Zr<|Zqm Z Z<|qhu Z Z Z (w64 O O)<|Zqa Z Z<|Zn<|?_;refine qab (MidG.mk ⟨_,M3,_,Ml1,_,M2,es1,ck1,w1++[(xk:Int)],l1,r1++[(num,w1.length,xn,(xk:Int))]⟩ [] (e35.t h38|>.t h39) (.cons (by first|rfl|(simp only [List.length_append,List.length_cons,List.length_nil];refine congrArg some (congrArg (Value.int .i64) ?_);omega)) (.nil _)) So Pr (by first|exact ⟨qbB (qfh hg2 o2 (qe7 hxk)) o3 (qe7 hxk),qcn ew1 hsp hhas,rfl,qfj ew1 hsp hhas hnm,rfl⟩|exact ⟨qbB hg2 o3 (qe7 hxk),qcn ew1 hsp hhas,rfl,qcT hnm,rfl⟩|exact ⟨hg2,qii ew1 hsp hhas,rfl,qcS hhas,rfl⟩))
   have hnm:=c17;refine Zk<|Zt<|Zs<|qaB qac 13 Z 2 fun s40 h40=>za 0 Z (qan Z) Z<|za 1 Z (qan Z) Z<|za 2 Z (qam Z) Z<|za 3 Z (We Y4) Z<|za 5 Z (We Y4) Z<|za 6 Z (qbm Z Z Z Z) Z<|za 7 Z (Wd 1 Y5) Z ?_;refine qeR 4 8 V ?_ ?_;·refine qbA Z Tt (Wd 2 Y5) Z<|qar 8 V<|qbQ Z Tt [(_,_)] [_] Z Z Z Z Z Z Z Z Z fun βn s41 h41 hcb=>qar 9 V<|qbE (sz:=1) Z (by exact Tt) [_,_,_,_] Mw1 _ Z Z Z Z Z Z Z hOw1 (Row.of_cells (hcb.le (Lr D)) Z Z) ⟨by simp [ti46];omega,by omega⟩ Z (fun A2 x hx _=>qd9 hx) ?_;intro v3 M3 s42 h42 o3;obtain ⟨Av3,cv3,rfl,kv3,kv32⟩:=Own.slice o3;simp only [List.cons_append,List.nil_append,List.append_assoc];refine za 10 Z (qam Z) Z<|za 11 Z (We Y4) Z<|qar 12 V<|Wu Z Tt 2 [_,_,_,_,_,_] Y9 (sM (qet (sb0 _)))<|qaf V<|Zt<|Zr<|Zqm Z Z<|qhu Z Z Z (w64 O O)<|Zqa Z Z<|Zn<|?_;refine qab (MidG.mk ⟨_,M3,_,Ml1,_,Mr1,es1,ck1,w1++[(xk:Int)],l1,r1⟩ [] (h40.t h41|>.t h42) (.cons (by first|rfl|(simp only [List.length_append,List.length_cons,List.length_nil];refine congrArg some (congrArg (Value.int .i64) ?_);omega)) (.nil _)) So Pr (by first|exact ⟨qbB (qfh hg2 o2 (qe7 hxk)) o3 (qe7 hxk),qcn ew1 hsp hhas,rfl,qfj ew1 hsp hhas hnm,rfl⟩|exact ⟨qbB hg2 o3 (qe7 hxk),qcn ew1 hsp hhas,rfl,qcT hnm,rfl⟩|exact ⟨hg2,qii ew1 hsp hhas,rfl,qcS hhas,rfl⟩))
   refine qbQ Z Tt [(_,_)] [_] Z Z Z Z Z Z Z Z Z fun βn s43 h43 hcb=>qar 4 V<|qbA Z Tt (Wd 2 Y5) Z<|qar 9 V<|qbE (sz:=1) Z (by exact Tt) [_,_,_,_] Mw1 _ Z Z Z Z Z Z Z hOw1 (Row.of_cells (hcb.le (Lr D)) Z Z) ⟨by simp [ti46];omega,by omega⟩ Z (fun A2 x hx _=>qd9 hx) ?_;intro v3 M3 s44 h44 o3;obtain ⟨Av3,cv3,rfl,kv3,kv32⟩:=Own.slice o3;simp only [List.cons_append,List.nil_append,List.append_assoc];refine za 10 Z (qam Z) Z<|za 11 Z (We Y4) Z<|qar 12 V<|Wu Z Tt 2 [_,_,_,_,_,_] Y9 (sM (qet (sb0 _)))<|qaf V<|Zt<|Zr<|Zqm Z Z<|qhu Z Z Z (w64 O O)<|Zqa Z Z<|Zn<|?_;refine qab (MidG.mk ⟨_,M3,_,Ml1,_,Mr1,es1,ck1,w1++[(xk:Int)],l1,r1⟩ [] (h40.t h43|>.t h44) (.cons (by first|rfl|(simp only [List.length_append,List.length_cons,List.length_nil];refine congrArg some (congrArg (Value.int .i64) ?_);omega)) (.nil _)) So Pr (by first|exact ⟨qbB (qfh hg2 o2 (qe7 hxk)) o3 (qe7 hxk),qcn ew1 hsp hhas,rfl,qfj ew1 hsp hhas hnm,rfl⟩|exact ⟨qbB hg2 o3 (qe7 hxk),qcn ew1 hsp hhas,rfl,qcT hnm,rfl⟩|exact ⟨hg2,qii ew1 hsp hhas,rfl,qcS hhas,rfl⟩))
  have hhas:=c16;refine Zk ?_;refine qab (MidG.mk ⟨_,Mw1,_,Ml1,_,Mr1,es1,ck1,w1,l1,r1⟩ [] (Lr D) (.cons (by first|rfl|(simp only [List.length_append,List.length_cons,List.length_nil];refine congrArg some (congrArg (Value.int .i64) ?_);omega)) (.nil _)) So Pr (by first|exact ⟨qbB (qfh hg2 o2 (qe7 hxk)) o3 (qe7 hxk),qcn ew1 hsp hhas,rfl,qfj ew1 hsp hhas hnm,rfl⟩|exact ⟨qbB hg2 o3 (qe7 hxk),qcn ew1 hsp hhas,rfl,qcT hnm,rfl⟩|exact ⟨hg2,qii ew1 hsp hhas,rfl,qcS hhas,rfl⟩))
 intro g s15 h15 I15;simp only [cQ9,nQ9];obtain ⟨hg3,ew3,el3,er3,ee3⟩:=I15;refine Zs<|Sr<|Zqm Z Z<|qa8 Z Z Z<|Nt<|?_;refine qaa Z ?_ ?_<;>intro c45;·refine Sr<|At Z Z<|Zo<|Zu<|?_;exact rR [_,_] _ (.t1 Z) Z (e3.t h8|>.t h15) fun _ hS2=>qAb
 refine Zk<|Zt<|Sr<|At Z Z<|Zo<|?_;exact rR [_,_] _ (.t1 Z) Z (e3.t h8|>.t h15) fun _ hS2=>qAb
def qoB:qfe prog 86 .string (.int .u32 0):=⟨_,_,underlying86,underlying9,fun w=>by rw [qcC qkR];rfl⟩
def qq1(D:Nat)(L:Hl)(s:World)(x0:Nat×Obj)(ba bm:Nat)(t:Tab)(A:Option Addr)(n c:Nat)(hA:Inss s A n c t.ins)(g:AG)(nm:List UInt8):AC prog D 98 [.pointer (some ⟨ba,0,none⟩),St nm] (x0::HA ba bm t.cells A n c g L) s fun v L' _=>L'=x0::HA ba bm t.cells A n c g L∧∃ (y:Ins) (Ay:Option Addr) (ny cy:Nat),v=.tuple #[.agg #[St y.name,.int .u32 y.code,.bool y.operand,.slice Ay ny cy],.bool (qcr t.ins nm).isSome]∧U32 y.code∧(∀ z,qcr t.ins nm=some z→y=z)∧(qcr t.ins nm=none→y.operand=false):=
 AC.perm (qiV ..).symm (qq0 D (x0::L) s ba bm t A n c hA g nm) fun v L1 s1 ⟨h1,h2⟩=>⟨_,by rw [h1];exact qiV ..,rfl,h2⟩
def qqR(D:Nat)(L:Hl)(s:World)(x0 x1:Nat×Obj)(ba bm:Nat)(tc:Int)(A:Option Addr)(n c:Nat)(g:AG)(hg:AGok g)(num:Int)(xl xo:List UInt8)(xh:Bool)(xn:List UInt8)(xk:Nat)(hxk:xk < 4294967296)(yn:List UInt8)(yc:Int)(yo:Bool)(Ay:Option Addr)(ny cy:Nat)(hyc:U32 yc)(own:Bool)(htc:0≤tc∧tc≤65536)(hwl:(g.w.length:Int)≤tc)(hrl:g.r.length≤1000000):AC prog D 99 [.pointer (some ⟨ba,0,none⟩),.int .i64 num,.agg #[St xl,St xo,.bool xh,St xn,.int .u32 (xk:Int)],.agg #[St yn,.int .u32 yc,.bool yo,.slice Ay ny cy],.bool own] (x0::x1::HA ba bm tc A n c g L) s fun v L' _=>∃ g',L'=x0::x1::HA ba bm tc A n c g' L∧∃ e,v=.int .i64 e∧((e=14∧tc < ((qcq g.w ⟨xl,xo,xh,xn,(xk:Int)⟩ yc own).length:Int))∨(e=0∧((qcq g.w ⟨xl,xo,xh,xn,(xk:Int)⟩ yc own).length:Int)≤tc∧AGok g'∧g'.w=qcq g.w ⟨xl,xo,xh,xn,(xk:Int)⟩ yc own∧g'.l=g.l∧g'.es=g.es∧g'.r=qdG g.r g.w num ⟨xl,xo,xh,xn,(xk:Int)⟩ yc own)):=
 AC.perm (qne ..).symm (qvF D (x0::x1::L) s ba bm tc A n c g hg num xl xo xh xn xk hxk yn yc yo Ay ny cy hyc own htc hwl hrl) fun v L1 s1 ⟨g',h1,h2⟩=>⟨_,by rw [h1];exact qne ..,g',rfl,h2⟩
def qgL{l:List (List UInt8×Int)}{x:Ln}(h:¬ x.label=[]→qb7 l x.label=none):¬ (x.label≠[]∧(qb7 l x.label).isSome=true):=fun hh=>by rw [h hh.1] at hh;cases hh.2
def qv7{t:Tab}{xo:List UInt8}{y:Ins}(h1:∀ z,qcr t.ins xo=some z→y=z)(h2:qcr t.ins xo=none→y.operand=false):qxQ t xo=y.operand:=by
 unfold qxQ;cases h:qcr t.ins xo with
 | none=>exact (h2 h).symm
 | some z=>rw [h1 z h]
def qvB{t:Tab}{w:List Int}{r:List (Int×Nat×List UInt8×Int)}{i:Int}{x:Ln}{y:Ins}(h1:∀ z,qcr t.ins x.op=some z→y=z)(h2:¬ ((qcr t.ins x.op).isSome=false∧¬ (x.op=[119,111,114,100]∨x.op=[115,112,97,99,101])))(h3:¬ x.op=[]) :
  qcq w x y.code (decide (x.op=[119,111,114,100]∨x.op=[115,112,97,99,101]))=qgt t w x∧qdG r w i x y.code (decide (x.op=[119,111,114,100]∨x.op=[115,112,97,99,101]))=qk6 t w r i x:=by
 unfold qgt qk6 qg3;rw [if_neg h3,if_neg h3];cases h:qcr t.ins x.op with
 | some z=>
  have hc:qli t x.op=y.code:=by unfold qli;rw [h,h1 z h]
  rw [hc];exact ⟨rfl,rfl⟩
 | none=>
  rw [h] at h2;have ho:x.op=[119,111,114,100]∨x.op=[115,112,97,99,101]:=by
   by_cases ho:x.op=[119,111,114,100]∨x.op=[115,112,97,99,101]
   · exact ho
   · exact absurd ⟨rfl,ho⟩ h2
  rw [decide_eq_true ho];exact ⟨qn4 ..,qn2 ..⟩
def qdZ{x a:Nat×Obj}{R R':Hl}(hx:x∈(a::R).take 1):x∈a::R':=by
 simp only [List.take_succ_cons,List.take_zero,List.mem_cons,List.not_mem_nil,or_false] at hx;rw [hx];exact List.mem_cons_self ..
def qk8{g:AG}{vl:Value}{M:Hl}{k:List UInt8}{a:Int}{ck:Nat}(hg:AGok g)(o:FL.Own 192 2 M vl (g.l.length+1) (lbv g.l++[St k,.int .u32 a]))(ha:U32 a)(hk:qb7 g.l k=none):AGok ⟨g.vw,g.Mw,vl,M,g.vr,g.Mr,qix g.es k (.int .u32 a) g.ck,ck,g.w,g.l++[(k,a)],g.r⟩:=
 ⟨hg.hw,by simp only [List.length_append,List.length_cons,List.length_nil,qrk];exact o,hg.hr,fun j=>by
  simp only [qey,qhT _ _ _ _ hk,hg.he j];split<;>rfl,hg.uw,fun y hy=>by
  rcases List.mem_append.1 hy with h|h
  · exact hg.ul y h
  · rw [List.mem_singleton.1 h];exact ha,hg.ur⟩
def quw{p:Prop} (h:p:=by
  first
    | (refine ⟨(⟨.slice Aw w.length cw,Mw,.slice Al l.length cl,Ml,.slice Ar r.length cr,Mr,es,ck,w,l,r⟩:AG),rfl,?_,fun x hx=>?_⟩
       · rw [hno];rfl
       · rw [hno] at hx;cases hx)
    | (refine ⟨(⟨.slice Aw w.length cw,Mw,.slice Al l.length cl,Ml,.slice Ar r.length cr,Mr,es,ck,w,l,r⟩:AG),rfl,?_,fun x hx he=>?_⟩
       · rw [hy,qeb,if_pos ⟨hxl,hrep⟩];rfl
       · rw [hy] at hx;injection hx with hx;subst hx;rw [qeb,if_pos ⟨hxl,hrep⟩] at he;cases he)
    | (have hE8:=qgL (l:=l) (x:=⟨xl,xo,xh,xn,(xk:Int)⟩) hnew
       refine ⟨g,Z,?_,fun x hx he=>?_⟩
       · rw [hy,qeb,if_neg hE8,if_pos hxo];rfl
       · rw [hy] at hx;injection hx with hx;subst hx
         refine ⟨hg1,?_,?_,?_⟩
         · rw [ew1,qgt,if_pos hxo]
         · rw [el1]
         · rw [er1,qk6,if_pos hxo])
    | (have hE8:=qgL (l:=l) (x:=⟨xl,xo,xh,xn,(xk:Int)⟩) hnew
       have hEE:qeb t w l (some ⟨xl,xo,xh,xn,(xk:Int)⟩)=12:=qve hE8 hxo h83;refine ⟨g,Z,?_,fun x hx he=>?_⟩
       · rw [hy,hEE];rfl
       · rw [hy] at hx;injection hx with hx;subst hx;rw [hEE] at he;cases he)
    | (have hE8:=qgL (l:=l) (x:=⟨xl,xo,xh,xn,(xk:Int)⟩) hnew
       have hoo:=qv7 (t:=t) hye hyn;have hEE:qeb t w l (some ⟨xl,xo,xh,xn,(xk:Int)⟩)=9:=qyn hE8 hxo h83 hoo h90;refine ⟨g,Z,?_,fun x hx he=>?_⟩
       · rw [hy,hEE];rfl
       · rw [hy] at hx;injection hx with hx;subst hx;rw [hEE] at he;cases he)
    | (have hE8:=qgL (l:=l) (x:=⟨xl,xo,xh,xn,(xk:Int)⟩) hnew
       have hoo:=qv7 (t:=t) hye hyn;have hEE:qeb t w l (some ⟨xl,xo,xh,xn,(xk:Int)⟩)=6:=qym hE8 hxo h83 hoo h90 h99;refine ⟨g,Z,?_,fun x hx he=>?_⟩
       · rw [hy,hEE];rfl
       · rw [hy] at hx;injection hx with hx;subst hx;rw [hEE] at he;cases he)
    | (have hE8:=qgL (l:=l) (x:=⟨xl,xo,xh,xn,(xk:Int)⟩) hnew
       have hoo:=qv7 (t:=t) hye hyn;have hcc:=qvB (t:=t) (w:=w) (r:=r) (i:=num) (x:=⟨xl,xo,xh,xn,(xk:Int)⟩) hye h83 hxo;have hEE:qeb t w l (some ⟨xl,xo,xh,xn,(xk:Int)⟩)=if t.cells < ((qgt t w ⟨xl,xo,xh,xn,(xk:Int)⟩).length:Int) then 14 else 0:=qyl hE8 hxo h83 hoo h90 h99
       rw [ew1,er1,hcc.1] at hem;rw [hcc.2] at hem;refine ⟨g',Z,?_,fun x hx he=>?_⟩
       · rw [hy,hEE]
         rcases hem with ⟨rfl,h14⟩|⟨rfl,h0,_⟩
         · rw [if_pos h14];rfl
         · rw [if_neg O];rfl
       · rw [hy] at hx;injection hx with hx;subst hx;rw [hEE] at he
         rcases hem with ⟨rfl,h14⟩|⟨rfl,h0,q1,q2,q3,_,q5⟩
         · rw [if_pos h14] at he;cases he
         · exact ⟨q1,q2,by rw [q3,el1],q5⟩)):p:=h
def qvc(D:Nat)(L:Hl)(s:World)(hG:GW s)(ba bm:Nat)(t:Tab)(A:Option Addr)(n c:Nat)(hA:Inss s A n c t.ins)(g:AG)(hg:AGok g)(num:Int)(tx:List UInt8)(htx:tx.length≤400000)(htc:0≤t.cells∧t.cells≤65536)(hwl:(g.w.length:Int)≤t.cells)(hrl:g.r.length≤1000000)(hll:g.l.length≤1000000):AC prog D 64 [.pointer (some ⟨ba,0,none⟩),.int .i64 num,St tx] (HA ba bm t.cells A n c g L) s fun v L' _=>∃ g',L'=HA ba bm t.cells A n c g' L∧v=.int .i64 (qeb t g.w g.l (qct tx))∧∀ x,qct tx=some x→qeb t g.w g.l (some x)=0→AGok g'∧g'.w=qgt t g.w x∧g'.l=qm9 g.w g.l x∧g'.r=qk6 t g.w g.r num x:=by
 have hg0:=hg;obtain ⟨vw,Mw,vl,Ml,vr,Mr,es,ck,w,l,r⟩:=g;obtain ⟨hOw,hOl,hOr,hE,huw,hul,hur⟩:=hg;simp only at hOw hOl hOr hE huw hul hur;obtain ⟨Aw,cw,rfl,kw,kx⟩:=Own.slice hOw;obtain ⟨Al,cl,rfl,kl,km⟩:=Own.slice hOl;obtain ⟨Ar,cr,rfl,kr,ks⟩:=Own.slice hOr;simp only [HA];simp only at hwl hrl hll;refine qae (fn:=f64) qav func64 V Z ntmps64 Z (rs:=[.tmp 6]) Z [(0,_),(1,_),(2,_)] Z<|Sr<|At Z Z<|Sr<|Zqm Z Z<|Jc Z Z Z (qkH D _ _ (hG.le (Lr D)) tx htx) ?_;rintro _ _ s1 h1 ⟨rfl,⟨xl,xo,xh,xn,xk⟩,rfl,hxu,hxe⟩;simp only at hxu;obtain ⟨xk,rfl⟩:=Int.eq_ofNat_of_zero_le hxu.1;have hxk:xk < 4294967296:=by have:=hxu.2;omega
 simp only [Ln.cs];refine Zqm Z Z<|Zqx Z Z Z<|Zqx Z Z Z<|qag Z [_,_,_,_,_] Z Z fun β2 s2 h2=>Wt 0 [_,_,_,_,_] Y9<|At Z Z<|Zs<|Sr<|Zqm Z Z<|qbF Z Z<|Nt<|?_;have e2:=h1.t h2;refine qb8 Z ?_ ?_<;>intro c3
 ·have hno:qct tx=none:=by simpa using c3
  refine Sr<|At Z Z<|Zo<|Zu<|?_;exact rR [_] _ (.t1 Z) Z e2 fun _ hS2=>quw
 obtain ⟨y,hy⟩:=Option.isSome_iff_exists.1 c3;have hln:=hxe y hy;subst hln;refine Zk<|Zt<|?_;refine qcH (γ:=AG) (fun _=>[]) [_] Z (fun g=>HA ba bm t.cells A n c g L) (fun g tw=>AGok g∧g.w=w∧g.r=r∧g.l=qm9 w l ⟨xl,xo,xh,xn,(xk:Int)⟩∧(¬ xl=[]→qb7 l xl=none)) (fun _ _ _ h hl=>h) ?_ ?_
 ·refine Sr<|W0 Y5<|Wl 0 Y6<|quY Z Z Z<|Nt<|?_;refine qaM Z ?_ ?_<;>intro c5
  ·have hxl:=c5;refine Zs<|Zs<|qaJ qac 12 Z _ (fun _ h=>h) fun s6 h6=>za 0 Z (qan Z) Z<|za 1 Z (qam Z) Z<|za 2 Z (We Y4) Z<|za 3 Z (Wd 1 Y5) Z<|za 4 Z (qat Z Z Z Z) Z<|za 5 Z (Wd 0 Y5) Z<|za 6 Z (qaz (qhA KeyK.str 2 qoB Z Z Z) (show Value.tuple #[(qaW es xl).getD (.int .u32 0),.bool (qaW es xl).isSome]=.tuple #[(qaW es xl).getD (.int .u32 0),.bool (qb7 l xl).isSome] by rw [hE xl,Option.isSome_map])) Z<|za 7 Z (qan Z) Z<|za 8 Z (qff Z Z) Z<|za 9 Z (qff Z Z) Z<|za 10 Z (qa6 Z) Z<|za 11 Z (qa6 Z) Z<|qaf V ?_;refine Zt<|Sr<|Zqm Z Z<|Nt<|?_;refine qeN Z ?_ ?_<;>intro c7;·have hrep:=c7;refine Sr<|At Z Z<|Zo<|Zu<|Zu<|?_;exact rR [_] _ (.t1 Z) Z (e2.t h6) fun _ hS2=>quw
   have hrep:qb7 l xl=none:=by simpa using c7
   refine Zk<|Zt<|Zs<|qaH qac 13 Z [2] (by intro x hx;exact qas hx) fun s8 h8=>za 0 Z (qan Z) Z<|za 1 Z (qam Z) Z<|za 2 Z (We Y4) Z<|za 3 Z (Wd 1 Y5) Z<|za 4 Z (qat Z Z Z Z) Z<|za 5 Z (Wd 0 Y5) Z<|za 6 Z (qan Z) Z<|za 7 Z (qam Z) Z<|za 8 Z (We Y4) Z<|za 9 Z (Wd 1 Y5) Z<|za 10 Z (qbi Z Z Z) Z<|za 11 Z (qaR Z Z Z Z Z (qeM O)) Z<|qar 12 V<|qgJ KeyK.str Z Tt 2 qoB Z Z Z Z (fun x hx=>hx) ?_;intro ck1;simp only [qco];refine qaf V<|Zt<|qaB qac 19 Z 1 fun s10 h10=>za 0 Z (qan Z) Z<|za 1 Z (qan Z) Z<|za 2 Z (qam Z) Z<|za 3 Z (We Y4) Z<|za 5 Z (qat Z Z Z Z) Z<|za 6 Z (Wd 0 Y5) Z<|za 7 Z (qan Z) Z<|za 8 Z (qam Z) Z<|za 9 Z (We Y4) Z ?_;have e10:=h6.t h8|>.t h10;refine qeR 4 10 V ?_ ?_;·refine qbA Z Tt (Wd 1 Y5) Z<|qar 10 V<|qbA Z Tt (Wd 1 Y5) Z<|za 11 Z (qbi Z Z Z) Z<|za 12 Z (qaR Z Z Z Z Z (qeM O)) Z<|za 13 Z (qak [(_,_),(_,_)] [_,_] Z Z Z Z Z Z) Z<|qar 14 V<|qbQ Z Tt [(_,_)] [_,_] Z Z Z Z Z Z Z Z Z fun βn s11 h11 hcb=>qar 15 V<|qbE (sz:=2) Z (by exact Tt) (_::_::_::Mw) Ml _ Z Z Z Z Z Z Z hOl (Row.of_cells (hcb.le (Lr D)) Z Z) ⟨by simp [ti192];omega,by omega⟩ Z (fun A2 x hx _=>qdZ hx) ?_;intro v1 M1 s12 h12 o1;obtain ⟨Av1,cv1,rfl,kv1,kv12⟩:=Own.slice o1;simp only [List.cons_append,List.nil_append,List.append_assoc];refine za 16 Z (qam Z) Z<|za 17 Z (We Y4) Z<|qar 18 V<|Wu Z Tt 1 [_,_,_,_,_,_] Y9 (sM (sbY (sb0 _)))<|qaf V ?_;refine qab (MidG.mk ⟨_,Mw,_,M1,_,Mr,qix es xl (.int .u32 (w.length:Int)) ck,ck1,w,l++[(xl,(w.length:Int))],r⟩ [] (e10.t h11|>.t h12) (.nil _) So Pr (by first|exact ⟨qk8 (ck:=ck1) hg0 o1 (qe7 O) hrep,Z,Z,(if_neg hxl).symm,fun _=>hrep⟩|exact ⟨hg0,Z,Z,(if_pos hxl).symm,fun h=>absurd hxl h⟩))
   refine qbA Z Tt (Wd 1 Y5) Z<|za 11 Z (qbi Z Z Z) Z<|za 12 Z (qaR Z Z Z Z Z (qeM O)) Z<|za 13 Z (qak [(_,_),(_,_)] [_,_] Z Z Z Z Z Z) Z ?_;refine qeR 4 14 V ?_ ?_;·refine qbA Z Tt (Wd 1 Y5) Z<|qar 14 V<|qbQ Z Tt [(_,_)] [_,_] Z Z Z Z Z Z Z Z Z fun βn s13 h13 hcb=>qar 15 V<|qbE (sz:=2) Z (by exact Tt) (_::_::_::Mw) Ml _ Z Z Z Z Z Z Z hOl (Row.of_cells (hcb.le (Lr D)) Z Z) ⟨by simp [ti192];omega,by omega⟩ Z (fun A2 x hx _=>qdZ hx) ?_;intro v1 M1 s14 h14 o1;obtain ⟨Av1,cv1,rfl,kv1,kv12⟩:=Own.slice o1;simp only [List.cons_append,List.nil_append,List.append_assoc];refine za 16 Z (qam Z) Z<|za 17 Z (We Y4) Z<|qar 18 V<|Wu Z Tt 1 [_,_,_,_,_,_] Y9 (sM (sbY (sb0 _)))<|qaf V ?_;refine qab (MidG.mk ⟨_,Mw,_,M1,_,Mr,qix es xl (.int .u32 (w.length:Int)) ck,ck1,w,l++[(xl,(w.length:Int))],r⟩ [] (e10.t h13|>.t h14) (.nil _) So Pr (by first|exact ⟨qk8 (ck:=ck1) hg0 o1 (qe7 O) hrep,Z,Z,(if_neg hxl).symm,fun _=>hrep⟩|exact ⟨hg0,Z,Z,(if_pos hxl).symm,fun h=>absurd hxl h⟩))
   refine qbQ Z Tt [(_,_)] [_,_] Z Z Z Z Z Z Z Z Z fun βn s15 h15 hcb=>qar 4 V<|qbA Z Tt (Wd 1 Y5) Z<|qar 15 V<|qbE (sz:=2) Z (by exact Tt) (_::_::_::Mw) Ml _ Z Z Z Z Z Z Z hOl (Row.of_cells (hcb.le (Lr D)) Z Z) ⟨by simp [ti192];omega,by omega⟩ Z (fun A2 x hx _=>qdZ hx) ?_;intro v1 M1 s16 h16 o1;obtain ⟨Av1,cv1,rfl,kv1,kv12⟩:=Own.slice o1;simp only [List.cons_append,List.nil_append,List.append_assoc];refine za 16 Z (qam Z) Z<|za 17 Z (We Y4) Z<|qar 18 V<|Wu Z Tt 1 [_,_,_,_,_,_] Y9 (sM (sbY (sb0 _)))<|qaf V ?_;refine qab (MidG.mk ⟨_,Mw,_,M1,_,Mr,qix es xl (.int .u32 (w.length:Int)) ck,ck1,w,l++[(xl,(w.length:Int))],r⟩ [] (e10.t h15|>.t h16) (.nil _) So Pr (by first|exact ⟨qk8 (ck:=ck1) hg0 o1 (qe7 O) hrep,Z,Z,(if_neg hxl).symm,fun _=>hrep⟩|exact ⟨hg0,Z,Z,(if_pos hxl).symm,fun h=>absurd hxl h⟩))
  have hxl:=c5;refine Zk ?_;refine qab (MidG.mk ⟨_,Mw,_,Ml,_,Mr,es,ck,w,l,r⟩ [] (Lr D) (.nil _) So Pr (by first|exact ⟨qk8 (ck:=ck1) hg0 o1 (qe7 O) hrep,Z,Z,(if_neg hxl).symm,fun _=>hrep⟩|exact ⟨hg0,Z,Z,(if_pos hxl).symm,fun h=>absurd hxl h⟩))
 intro g s4 h4 I4;have e4:=e2.t h4;simp only [cQ9,nQ9];obtain ⟨hg1,ew1,er1,el1,hnew⟩:=I4;refine Zs<|Sr<|Wb Y5<|Wl 0 Y6<|qht Z Z Z<|Nt<|?_;refine qaa Z ?_ ?_<;>intro c17;·have hxo:=c17;refine Sr<|At Z Z<|Zo<|Zu<|?_;exact rR [_] _ (.t1 Z) Z e4 fun _ hS2=>quw
 have hxo:=c17;refine Zk<|Zt<|?_;refine qa9 11 ((xo=[119,111,114,100]∨xo=[115,112,97,99,101])) ?_ ?_
 ·refine Zr<|Wb Y5<|Wl 0 Y6<|qht Z Z Z<|Zqm Z Z<|?_;refine qai (t:=71) Z ?_ ?_<;>intro c19;·refine Wf Y4<|Wf Y4<|Wf Y4<|ZqT Z Z Z<|Zqa Z Z<|Zn<|?_;refine qab (MidB.mk (Lr D) Sb Z ((decide_eq_true (by first|exact .inl As|exact .inr As)).symm))
  refine Zg Z Z<|Wb Y5<|Zg Z Z<|Wl 0 Y6<|Zg Z Z<|qht Z Z Z<|ZqF Z Z Z<|Zqa Z Z<|Zn<|?_;refine qab (MidB.mk (Lr D) Sb Z (decide_eq_decide.2 (⟨fun h=>.inr h,fun h=>h.resolve_left As⟩)))
 intro s18 h18;have e18:=e4.t h18;refine Sr<|Zqm Z Z<|Wb Y5<|Wl 0 Y6<|Jc Z Z Z (qq1 D L _ _ ba bm t A n c (hA.le e18) g xo) ?_;rintro _ _ s20 h20 ⟨rfl,⟨yn,yc,yo,ya⟩,Ay,ny,cy,rfl,hyu,hye,hyn⟩;have e20:=e18.t h20;refine Zqm Z Z<|Zqx Z Z Z<|Zqx Z Z Z<|qag Z [_,_,_,_] Z Z fun β21 s21 h21=>Wt 0 [_,_,_,_] Y9<|At Z Z<|Zs<|Zp<|?_;have e21:=e20.t h21;refine qa9 83 ((qcr t.ins xo).isSome=false∧¬ (xo=[119,111,114,100]∨xo=[115,112,97,99,101])) ?_ ?_
 ·refine Zr<|Zqm Z Z<|qbF Z Z<|Zqm Z Z<|?_;refine qdQ (t:=86) Z ?_ ?_<;>intro c23;·refine Zg Z Z<|Zqm Z Z<|Zg Z Z<|qbF Z Z<|ZqT Z Z Z<|Zqa Z Z<|Zn<|?_;refine qab (MidB.mk (Lr D) Sb Z (qbp ((by first|exact fun h=>absurd h.1 (by rw [show (qcr t.ins xo).isSome=true by assumption];decide)|exact ⟨fun h=>h.2,fun h=>⟨by assumption,h⟩⟩))))
  refine Wf Y4<|Wf Y4<|ZqF Z Z Z<|Zqa Z Z<|Zn<|?_;refine qab (MidB.mk (Lr D) Sb Z ((decide_eq_false ((by first|exact fun h=>absurd h.1 (by rw [show (qcr t.ins xo).isSome=true by assumption];decide)|exact ⟨fun h=>h.2,fun h=>⟨by assumption,h⟩⟩))).symm))
 intro s22 h22;have e22:=e21.t h22;refine qaa Z ?_ ?_<;>intro c24;·have h83:=c24;refine Sr<|At Z Z<|Zo<|Zc<|Zu<|?_;exact rR [_,_] _ (.t1 Z) Z e22 fun _ hS2=>quw
 have h83:=c24;refine qa9 90 (¬ xh=(decide (xo=[119,111,114,100]∨xo=[115,112,97,99,101]) || yo)) ?_ ?_
 ·refine Zr<|Wb Y5<|Wl 1 Y6<|Zqm Z Z<|Zqm Z Z<|?_;refine qai (t:=94) Z ?_ ?_<;>intro c26;·refine Wf Y4<|Wf Y4<|ZqT Z Z Z<|qad (qtF Z Z Z Z) Z<|Zqa Z Z<|Zn<|?_;refine qab (MidB.mk (Lr D) Sb Z (qbp ((by first|rw [decide_eq_true (show (xo=[119,111,114,100]∨xo=[115,112,97,99,101]) by assumption),Bool.true_or]|rw [decide_eq_false (show ¬ (xo=[119,111,114,100]∨xo=[115,112,97,99,101]) by assumption),Bool.false_or]))))
  refine Zg Z Z<|Wb Y5<|Zg Z Z<|Wl 0 Y6<|ZqF Z Z Z<|qad (qtF Z Z Z Z) Z<|Zqa Z Z<|Zn<|?_;refine qab (MidB.mk (Lr D) Sb Z (qbp ((by first|rw [decide_eq_true (show (xo=[119,111,114,100]∨xo=[115,112,97,99,101]) by assumption),Bool.true_or]|rw [decide_eq_false (show ¬ (xo=[119,111,114,100]∨xo=[115,112,97,99,101]) by assumption),Bool.false_or]))))
 intro s25 h25;refine qaa Z ?_ ?_<;>intro c27;·have h90:=c27;refine Sr<|At Z Z<|Zo<|Zc<|Zu<|?_;exact rR [_,_] _ (.t1 Z) Z (e22.t h25) fun _ hS2=>quw
 have h90:=c27;refine qa9 99 (xo=[115,112,97,99,101]∧¬ xn=[]) ?_ ?_
 ·refine Zr<|Wb Y5<|Wl 1 Y6<|qht Z Z Z<|Zqm Z Z<|?_;refine qai (t:=103) Z ?_ ?_<;>intro c29;·refine Zg Z Z<|Wb Y5<|Zg Z Z<|W0 Y5<|Zg Z Z<|Wl 1 Y6<|Zg Z Z<|quY Z Z Z<|ZqT Z Z Z<|Zqa Z Z<|Zn<|?_;refine qab (MidB.mk (Lr D) Sb Z (qbp ((by first|exact fun h=>absurd h.1 As|exact ⟨fun h=>h.2,fun h=>⟨by assumption,h⟩⟩))))
  refine Wf Y4<|Wf Y4<|Wf Y4<|Wf Y4<|ZqF Z Z Z<|Zqa Z Z<|Zn<|?_;refine qab (MidB.mk (Lr D) Sb Z ((decide_eq_false ((by first|exact fun h=>absurd h.1 As|exact ⟨fun h=>h.2,fun h=>⟨by assumption,h⟩⟩))).symm))
 intro s28 h28;refine qaa Z ?_ ?_<;>intro c30;·have h99:=c30;refine Sr<|At Z Z<|Zo<|Zc<|Zu<|?_;exact rR [_,_] _ (.t1 Z) Z (e22.t h25|>.t h28) fun _ hS2=>quw
 have h99:=c30;refine Zk<|Zb<|Zt<|Sr<|Zqm Z Z<|Zqm Z Z<|qad (qao 1 [_,_,_,_,_] Z Z Z Z Z) Z<|qad (qao 0 [_,_,_,_] Z Z Z Z Z) Z<|Zqm Z Z<|Jc Z Z Z (qqR D L _ _ _ ba bm t.cells A n c g hg1 num xl xo xh xn xk hxk yn yc yo Ay ny cy hyu (decide (xo=[119,111,114,100]∨xo=[115,112,97,99,101])) htc (by rw [ew1];exact hwl) (by rw [er1];exact hrl)) ?_;rintro _ _ s31 h31 ⟨g',rfl,e,rfl,hem⟩;refine At Z Z<|Zo<|?_;exact rR [_,_] _ (.t1 Z) Z (e22.t h25|>.t h28|>.t h31) fun _ hS2=>quw
end Go.Proofs.YtflplmcjbppfcaaGreatDoor
