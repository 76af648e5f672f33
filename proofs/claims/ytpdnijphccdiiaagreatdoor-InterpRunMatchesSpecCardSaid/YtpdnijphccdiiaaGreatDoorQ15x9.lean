/- The law InterpRunMatchesSpec: for every input it returns true, and its arguments read behind the call az they read before; what the package-level variables of the library hold is tied tgt the text of the program. Part 9. -/
import Derived.Test.YtpdnijphccdiiaaGreatDoorQ15x8
import Derived.Lay
import Derived.Lib.LaidTab
import Derived.Stop.LaidErr
import Derived.SevenTiedAt
import Derived.Test.YtpdnijphccdiiaaGreatDoorCards
import Derived.Test.YtpdnijphccdiiaaGreatDoorTie
set_option linter.unusedVariables false
set_option linter.unusedSimpArgs false
set_option linter.unnecessarySimpa false
set_option maxRecDepth 100000
set_option maxHeartbeats 8000000
namespace Go.Proofs.YtpdnijphccdiiaaGreatDoor
open Go.Proofs.Tryz
open Go Go.FL Go.ChangeShapes Go.WideShapes Go.ChangeAt Go.RowKit Go.Deep
set_option maxRecDepth 100000
instance:Inhabited Ex:=⟨.mk 0 0 0 [] []⟩
instance:Inhabited Stm:=⟨.mk 0 [] [] [] []⟩
instance:Inhabited Fnc:=⟨⟨[],[],[],[]⟩⟩
instance:Inhabited Glo:=⟨⟨0,[],0,[]⟩⟩
theorem qmB:prog.cellsOf 3=1:=by kernel_rfl
theorem qrT:prog.cellsOf 29=1:=by kernel_rfl
theorem qkX:prog.cellsOf 9=1:=by kernel_rfl
theorem qpa:prog.cellsOf 54=1:=by kernel_rfl
theorem qsq:prog.cellsOf 47=1:=by kernel_rfl
theorem qvi:prog.cellsOf 89=5:=by kernel_rfl
theorem qt9:prog.cellsOf 87=1:=by kernel_rfl
theorem qvj:prog.cellsOf 95=5:=by kernel_rfl
theorem qrE:prog.cellsOf 55=1:=by kernel_rfl
theorem c_fn:prog.cellsOf 57=4:=by kernel_rfl
theorem qvp:prog.cellsOf 23=1:=by kernel_rfl
theorem c_gl:prog.cellsOf 53=4:=by kernel_rfl
theorem qvk:prog.cellsOf 22=1:=by kernel_rfl
theorem qvA:prog.cellsOf 25=2:=by kernel_rfl
theorem len5{l:List Value}(h:l.length=5):∃ a b c d e,l=[a,b,c,d,e]:=by match l,h with | [a,b,c,d,e],_=>exact ⟨a,b,c,d,e,rfl⟩
def RdN(n:Nat)(W:World)(t:TypeId)(cs:List Value):Prop:=∃ (H:Type) (enc:TypeId×Value→H) (x:DataW H×List MemPlace),DataW.trod enc prog W 0 (fun _=>true) true n t cs=some x
section
variable{W:World}{t e:TypeId}{cs:List Value}
theorem RdN.rd{n:Nat}(h:RdN n W t cs):Rd W t cs:=by
 obtain ⟨H,enc,x,h⟩:=h
 exact ⟨H,enc,n,x,h⟩
theorem qeG{n:Nat}{fs:Array Field}(ht:prog.underlying t=some (.struct fs))(h:RdN n W t cs){sz:Nat}(hc:prog.cellsOf t=sz):cs.length=sz∧∃ m,n=m+1∧∀ (i:Nat) (f:Field),fs[i]?=some f→∀ (ty off k:Nat),f.type=ty→f.offset=off→prog.cellsOf ty=k→RdN m W ty ((cs.drop off).take k):=by
 obtain ⟨H,enc,x,h⟩:=h
 obtain ⟨xs,m,hm,_,h1,h2,h3⟩:=DataW.trod_struct ht h
 refine ⟨h1.trans hc,m,hm,fun i f hf ty off k e1 e2 e3=>?_⟩
 have hi:i < xs.length:=by rw [h2];exact (Array.getElem?_eq_some_iff.1 hf).1
 have:=h3 i f hf
 rw [List.getElem?_eq_getElem hi,e1,e2,e3] at this
 exact ⟨H,enc,_,this⟩
theorem qlj{n sz:Nat}(ht:prog.underlying t=some (.slice e))(hc:prog.cellsOf e=sz)(hp:0 < sz)(h:RdN n W t cs):∃ A m c,cs=[.slice A m c]∧m≤c∧c≤9223372036854775807 ∧
    ∀ i,i < m→∃ b off ds q,A=some ⟨b,off,none⟩∧CellsAt W b (off+i * sz) ds∧ds.length=sz∧n=q+1∧RdN q W e ds:=by
  obtain ⟨H,enc,x,h⟩:=h
  rcases DataW.trod_slice ht h with ⟨rfl,_⟩ | ⟨a,len,cap,elems,rest,q,hq,rfl,_,_,h1,h2,hlen,hel,_,_⟩
  · exact ⟨none,0,0,rfl,Nat.le_refl _,by omega,fun i hi=>by omega⟩
  · simp only [maxLen] at h2
    have h4:∀ i,i < len→∃ ds x,W.cells? 0 (a.add (i * sz)) sz=some ds∧DataW.trod enc prog W 0 (fun _=>true) true q e ds=some x:=by
      intro i hi
      have:=hel i hi
      rw [List.getElem?_eq_getElem O,hc] at this
      obtain ⟨ds,k1,k2⟩:=Option.bind_eq_some_iff.1 this
      exact ⟨ds,_,k1,k2⟩
    refine ⟨some a,len,cap,Z,h1,by omega,fun i hi=>?_⟩
    obtain ⟨ds,y,k1,k2⟩:=h4 i hi
    obtain ⟨_,k3,k4⟩:=World.cells?_some k1
    obtain ⟨b,off,spot⟩:=a
    have hs:spot=none:=by
      obtain ⟨ds0,_,j1,_⟩:=h4 0 O
      rw [Nat.zero_mul] at j1
      obtain ⟨_,j3,j4⟩:=World.cells?_some j1
      have:=j4 0 hp
      rw [List.getElem?_eq_getElem O] at this
      simpa [Addr.add] using World.cell?_spot this
    subst hs
    refine ⟨b,off,ds,q,Z,fun j v hj=>?_,k3,hq,H,enc,_,k2⟩
    have hl:j < sz:=by rw [← k3];exact (List.getElem?_eq_some_iff.1 hj).1
    have:=k4 j hl
    rw [hj,add_lit,add_lit] at this
    exact this
theorem qhO{α:Type} [Inhabited α] {R:World→α→List Value→Prop} {n sz:Nat} (ht:prog.underlying t=some (.slice e)) (hc:prog.cellsOf e=sz) (hp:0 < sz) (h:RdN n W t cs) (hel:∀ q,n=q+1→∀ ds,RdN q W e ds→∃ x:α,R W x ds):∃ A m c l,cs=[.slice A m c]∧Sl sz R W A m c l:=by
 obtain ⟨A,m,c,h1,h2,h3,h4⟩:=qlj ht hc hp h
 obtain ⟨f,hf⟩:=choose_lt (α:=α) (p:=fun i x=>∃ b off ds,A=some ⟨b,off,none⟩∧CellsAt W b (off+i * sz) ds∧ds.length=sz∧R W x ds) (n:=m) (fun i hi=>by
  obtain ⟨b,off,ds,q,k1,k2,k3,k5,k4⟩:=h4 i hi
  obtain ⟨x,hx⟩:=hel q k5 ds k4
  exact ⟨x,b,off,ds,k1,k2,k3,hx⟩)
 refine ⟨A,m,c,(List.range m).map f,h1,by simp,h2,h3,fun i x hi=>?_⟩
 rw [List.getElem?_map] at hi
 cases hr:(List.range m)[i]? with
 | none=>simp [hr] at hi
 | some j=>
  simp [hr] at hi
  obtain ⟨hi1,hi2⟩:=List.getElem?_eq_some_iff.1 hr
  simp at hi1 hi2
  subst hi2;subst hi
  exact hf i hi1
theorem qnT(h:Rd W 47 cs):∃ A n c l,cs=[.slice A n c]∧Wds W A n c l:=qnv underlying47 qrT Dc h fun _ hd=>by
 obtain ⟨n,h1,h2⟩:=qeY underlying29 hd
 exact ⟨n,h1,qmc h2⟩
theorem qml(h:Rd W 54 cs):∃ A n c l,cs=[.slice A n c]∧Strs W A n c l:=
 qnv (α:=List UInt8) (R:=fun _ x cs=>cs=[St x]∧x.length≤9223372036854775807) underlying54 qkX Dc h (fun _ hd=>qhT underlying9 hd)
theorem qu1(n:Nat):∀ cs,RdN n W 89 cs→∃ x:Ex,ExR n W x cs:=by
 refine Nat.strongRecOn n ?_
 intro n ih cs h
 obtain ⟨h1,m,rfl,h2⟩:=qeG underlying89 h qvi
 obtain ⟨a,b,c,d,e,rfl⟩:=len5 h1
 obtain ⟨k,e1,_⟩:=qeY underlying3 (h2 0 _ rfl _ _ _ rfl rfl qmB).rd
 obtain ⟨o,e2,_⟩:=qeY underlying3 (h2 1 _ rfl _ _ _ rfl rfl qmB).rd
 obtain ⟨u,e3,w3⟩:=qeY underlying29 (h2 2 _ rfl _ _ _ rfl rfl qrT).rd
 obtain ⟨w,e4,w4⟩:=qhT underlying9 (h2 3 _ rfl _ _ _ rfl rfl qkX).rd
 obtain ⟨A,p,q,l,e5,w5⟩:=qhO (R:=ExR m) underlying87 qvi Dc (h2 4 _ rfl _ _ _ rfl rfl qt9) fun q hq ds hd=>by
  obtain ⟨x,hx⟩:=ih q O ds hd
  exact ⟨x,hx.up O⟩
 have z1:a=.int .i64 k:=qbX e1
 have z2:b=.int .i64 o:=qbX e2
 have z3:c=.int .u32 u:=qbX e3
 have z4:d=St w:=qbX e4
 have z5:e=.slice A p q:=qbX e5
 subst z1;subst z2;subst z3;subst z4;subst z5
 exact ⟨.mk k o u w l,A,p,q,rfl,w5,qmc w3,w4⟩
theorem qs7{n:Nat}(h:RdN n W 87 cs):∃ A m c l,cs=[.slice A m c]∧Exs n W A m c l:=
 qhO (R:=ExR n) underlying87 qvi Dc h fun q hq ds hd=>by
  obtain ⟨x,hx⟩:=qu1 q ds hd
  exact ⟨x,hx.up O⟩
theorem quT(n:Nat):∀ cs,RdN n W 95 cs→∃ x:Stm,StR n W x cs:=by
 refine Nat.strongRecOn n ?_
 intro n ih cs h
 obtain ⟨h1,m,rfl,h2⟩:=qeG underlying95 h qvj
 obtain ⟨a,b,c,d,e,rfl⟩:=len5 h1
 have hB:∀ {cs},RdN m W 55 cs→∃ A p q l,cs=[.slice A p q]∧Sl 5 (StR m) W A p q l:=fun h=>qhO (R:=StR m) underlying55 qvj Dc h fun q hq ds hd=>by
  obtain ⟨x,hx⟩:=ih q O ds hd
  exact ⟨x,hx.up O⟩
 obtain ⟨k,e1,_⟩:=qeY underlying3 (h2 0 _ rfl _ _ _ rfl rfl qmB).rd
 obtain ⟨w,e2,w2⟩:=qhT underlying9 (h2 1 _ rfl _ _ _ rfl rfl qkX).rd
 obtain ⟨A1,p1,q1,l1,e3,w3⟩:=qs7 (h2 2 _ rfl _ _ _ rfl rfl qt9)
 obtain ⟨A2,p2,q2,l2,e4,w4⟩:=hB (h2 3 _ rfl _ _ _ rfl rfl qrE)
 obtain ⟨A3,p3,q3,l3,e5,w5⟩:=hB (h2 4 _ rfl _ _ _ rfl rfl qrE)
 have z1:a=.int .i64 k:=qbX e1
 have z2:b=St w:=qbX e2
 have z3:c=.slice A1 p1 q1:=qbX e3
 have z4:d=.slice A2 p2 q2:=qbX e4
 have z5:e=.slice A3 p3 q3:=qbX e5
 subst z1;subst z2;subst z3;subst z4;subst z5
 exact ⟨.mk k w l1 l2 l3,A1,p1,q1,A2,p2,q2,A3,p3,q3,rfl,w3,w4,w5,w2⟩
theorem qus{n:Nat}(h:RdN n W 55 cs):∃ A m c l,cs=[.slice A m c]∧Stms n W A m c l:=
 qhO (R:=StR n) underlying55 qvj Dc h fun q hq ds hd=>by
  obtain ⟨x,hx⟩:=quT q ds hd
  exact ⟨x,hx.up O⟩
theorem FnR.up{d e:Nat}{s:World}{x:Fnc}{cs:List Value}(h:FnR d s x cs)(he:d≤e):FnR e s x cs:=by
 obtain ⟨A1,n1,c1,A2,n2,c2,A3,n3,c3,h1,h2,h3,h4,h5⟩:=h
 exact ⟨A1,n1,c1,A2,n2,c2,A3,n3,c3,h1,h2,h3,Stms.up h4 he,h5⟩
theorem quU{n:Nat}{cs:List Value}(h:RdN n W 57 cs):∃ x:Fnc,FnR n W x cs:=by
 obtain ⟨h1,m,rfl,h2⟩:=qeG underlying57 h c_fn
 obtain ⟨a,b,c,d,rfl⟩:=len4 h1
 obtain ⟨w,e1,w1⟩:=qhT underlying9 (h2 0 _ rfl _ _ _ rfl rfl qkX).rd
 obtain ⟨A1,p1,q1,l1,e2,w2⟩:=qml (h2 1 _ rfl _ _ _ rfl rfl qpa).rd
 obtain ⟨A2,p2,q2,l2,e3,w3⟩:=qml (h2 2 _ rfl _ _ _ rfl rfl qpa).rd
 obtain ⟨A3,p3,q3,l3,e4,w4⟩:=qus (h2 3 _ rfl _ _ _ rfl rfl qrE)
 have z1:a=St w:=qbX e1
 have z2:b=.slice A1 p1 q1:=qbX e2
 have z3:c=.slice A2 p2 q2:=qbX e3
 have z4:d=.slice A3 p3 q3:=qbX e4
 subst z1;subst z2;subst z3;subst z4
 exact ⟨⟨w,l1,l2,l3⟩,A1,p1,q1,A2,p2,q2,A3,p3,q3,rfl,w2,w3,Stms.up w4 O,w1⟩
theorem qvf{cs:List Value}(h:Rd W 53 cs):∃ x:Glo,GlR W x cs:=by
 obtain ⟨h1,h2⟩:=qn8 underlying53 h c_gl
 obtain ⟨a,b,c,d,rfl⟩:=len4 h1
 obtain ⟨k,e1,_⟩:=qeY underlying3 (h2 0 _ rfl _ _ _ rfl rfl qmB)
 obtain ⟨w,e2,w2⟩:=qhT underlying9 (h2 1 _ rfl _ _ _ rfl rfl qkX)
 obtain ⟨u,e3,w3⟩:=qeY underlying29 (h2 2 _ rfl _ _ _ rfl rfl qrT)
 obtain ⟨A,p,q,l,e4,w4⟩:=qnT (h2 3 _ rfl _ _ _ rfl rfl qsq)
 have z1:a=.int .i64 k:=qbX e1
 have z2:b=St w:=qbX e2
 have z3:c=.int .u32 u:=qbX e3
 have z4:d=.slice A p q:=qbX e4
 subst z1;subst z2;subst z3;subst z4
 exact ⟨⟨k,w,u,l⟩,A,p,q,rfl,w4,qmc w3,w2⟩
theorem qts{n:Nat}{cs:List Value}(h:RdN n W 25 cs):∃ (p:Prg) (Ag Af:Option Addr) (ng cg nf cf:Nat),cs=[.slice Ag ng cg,.slice Af nf cf]∧Glos W Ag ng cg p.globals∧Fncs n W Af nf cf p.funcs:=by
 obtain ⟨h1,m,rfl,h2⟩:=qeG underlying25 h qvA
 obtain ⟨a,b,rfl⟩:=len2 h1
 obtain ⟨Ag,ng,cg,lg,e1,w1⟩:=qnv (R:=GlR) underlying22 c_gl Dc (h2 0 _ rfl _ _ _ rfl rfl qvk).rd fun _ hd=>qvf hd
 obtain ⟨Af,nf,cf,lf,e2,w2⟩:=qhO (R:=FnR (m+1)) underlying23 c_fn Dc (h2 1 _ rfl _ _ _ rfl rfl qvp) fun q hq ds hd=>by
  obtain ⟨x,hx⟩:=quU hd
  exact ⟨x,hx.up O⟩
 have z1:a=.slice Ag ng cg:=qbX e1
 have z2:b=.slice Af nf cf:=qbX e2
 subst z1;subst z2
 exact ⟨⟨lg,lf⟩,Ag,Af,ng,cg,nf,cf,rfl,w1,w2⟩
end
section
variable{H:Type}{enc:TypeId×Value→H}{W:World}{base:Nat}{v:Value}{d:DataW H}{ps:List MemPlace}
theorem qvd{t:TypeId}(hd:DataW.Trod enc prog W 0 (fun _=>true) true t v d ps):Rd W t v.cells.toList:=by
 obtain ⟨n,h⟩:=hd
 exact ⟨H,enc,n,_,h⟩
theorem qtL{t:TypeId}{fs:Array Field}(ht:prog.underlying t=some (.struct fs))(hv:Value.okWide prog W .any base t v):∃ cs,v=.agg cs:=by
 unfold Value.okWide at hv
 rw [ht] at hv
 obtain ⟨cs,h,_⟩:=hv
 exact ⟨cs,h⟩
theorem qrl(hv:Value.okWide prog W .any base 25 v)(hd:DataW.Trod enc prog W 0 (fun _=>true) true 25 v d ps):∃ (m:Nat) (p:Prg) (Ag Af:Option Addr) (ng cg nf cf:Nat),v=.agg #[.slice Ag ng cg,.slice Af nf cf]∧Glos W Ag ng cg p.globals∧Fncs m W Af nf cf p.funcs:=by
 obtain ⟨cs,rfl⟩:=qtL underlying25 hv
 obtain ⟨n,h⟩:=hd
 obtain ⟨p,Ag,Af,ng,cg,nf,cf,h1,h2,h3⟩:=qts (n:=n) ⟨H,enc,_,h⟩
 refine ⟨n,p,Ag,Af,ng,cg,nf,cf,?_,h2,h3⟩
 simp only [Value.cells] at h1
 rw [← h1]
end
theorem qpB{W:World}{nm:String}{g:Nat}{cs:Array Value}(hg:prog.globalNamed nm=some g)(h:W.var? prog nm=some cs):∃ ty fz,W.heap[g]?=some (.cells cs ty fz):=by
  unfold World.var? at h
  rw [hg] at h
  simp only [Option.bind_some] at h
  split at h
  · rename_i c t f hb
    injection h with h
    subst h
    exact ⟨t,f,hb⟩
  · cases h
theorem qvI{W:World}(h:laidMetH prog Rows.interpRunMatchesSpecRow.laid W):GP W:=by
 rw [MakeChecks.laidMetH_plain _ _ _ V] at h
 have h2:=h.tail.tail
 have hpow:=Lib.tabIs_of_head (zs:=Lib.pow10Tab) (k:=.u64) (g:=2) V V underlying281 underlying195 V V h2
 have hasc:=Lib.tabIs_of_head (zs:=Lib.asciiSpaceTab) (k:=.u8) (g:=0) V V underlying254 underlying5 V V h2.tail.tail
 exact ⟨⟨qpB (g:=2) V hpow⟩,qpB (g:=0) V hasc⟩
set_option maxRecDepth 100000
section
variable{H:Type}{enc:TypeId×Value→H}{W:World}{base:Nat}{v:Value}{d:DataW H}{ps:List MemPlace}{cs:List Value}
theorem c_u8:prog.cellsOf 5=1:=by kernel_rfl
theorem qoX(h:Rd W 26 cs):∃ A n c l,cs=[.slice A n c]∧Bts W A n c l:=qnv underlying26 c_u8 Dc h fun _ hd=>by
 obtain ⟨n,h1,h2⟩:=qeY underlying5 hd
 have:=bounds_u8 h2
 refine ⟨UInt8.ofNat n.toNat,h1.trans ?_⟩
 have e:((UInt8.ofNat n.toNat).toNat:Int)=n:=by simp [UInt8.toNat_ofNat'];omega
 rw [e]
theorem qrA{t e:TypeId}(ht:prog.underlying t=some (.slice e))(hv:Value.okWide prog W .any base t v):v.cells.toList=[v]:=by
 unfold Value.okWide at hv
 rw [ht] at hv
 simp only [Cell.okWide] at hv
 cases v <;> simp_all [Value.cells,Cell.ok]
theorem qkr(hv:Value.okWide prog W .any base 26 v)(hd:DataW.Trod enc prog W 0 (fun _=>true) true 26 v d ps):∃ A n c l,v=.slice A n c∧Bts W A n c l:=by
 obtain ⟨A,n,c,l,h1,h2⟩:=qoX (qvd hd)
 rw [qrA underlying26 hv] at h1
 exact ⟨A,n,c,l,qbX h1,h2⟩
end
open Go Go.FL Go.ChangeShapes Go.WideShapes Go.ChangeAt Go.RowKit
theorem qcX:∀ t∈f3.params.toList,prog.readableRec t=true∧t < prog.types.size:=by
 rw [params3]
 intro t ht
 simp only [List.mem_cons,List.not_mem_nil,or_false] at ht
 rcases ht with rfl | rfl | rfl <;> exact ⟨by kernel_rfl,of_decide_eq_true V⟩
theorem qcu(H:Type)(enc:TypeId×Value→H)(W:World)(base:Nat)(args:Array Value)(ds gs:List (DataW H))(before:List MemPlace)
  (hval:∀ (j:Nat) t v,f3.params[j]?=some t→args[j]?=some v→Value.okWide prog W .any base t v)
  (hW:DataW.Whole enc prog f3.params.toList Rows.interpRunMatchesSpecSpec.vars false W args.toList ds gs before) (hL:laidMetH prog Rows.interpRunMatchesSpecRow.laid W) :
  Calls prog 3 args W fun e W'=>∃ v,e=.returned v∧Rows.interpRunMatchesSpecSpec.post enc prog f3 false true false false W args v W':=by
 have hW':=hW
 obtain ⟨p,q,hA0,hV,rfl,hfz,hnd⟩:=hW'
 have hA:DataW.TrodAll enc prog W 0 (fun _=>true) true f3.params.toList args.toList ds p:=hA0
 rw [params3] at hA hval
 obtain ⟨v0,vs0,d0,ds0,p0,q0,hargs0,rfl,rfl,h0,r0⟩:=trodAll_cons hA
 obtain ⟨v1,vs1,d1,ds1,p1,q1,hargs1,rfl,rfl,h1,r1⟩:=trodAll_cons r0
 obtain ⟨v2,vs2,d2,ds2,p2,q2,hargs2,rfl,rfl,h2,r2⟩:=trodAll_cons r1
 obtain ⟨rfl,rfl,rfl⟩:=trodAll_nil r2
 obtain rfl:args=#[v0,v1,v2]:=by cases args;simp_all
 obtain ⟨rfl,rfl⟩:=trodVars_none hV
 obtain ⟨m0,p0,Ag0,Af0,ng0,cg0,nf0,cf0,rfl,hGl0,hFn0⟩:=qrl (hval 0 25 v0 rfl rfl) h0
 obtain ⟨A1,n1,c1,l1,rfl,hB1⟩:=qkr (hval 1 26 v1 rfl rfl) h1
 obtain ⟨k2,rfl,rfl,rfl,wk2⟩:=open_int underlying3 (hval 2 3 v2 rfl rfl) h2
 refine (qkN (args:=[_,_,_]) fun D=>qks D [] W (qvI hL) m0 p0 Ag0 Af0 ng0 cg0 nf0 cf0 hGl0 hFn0 A1 n1 c1 l1 hB1 k2).mono fun e W' ⟨he,hg⟩=>?_
 subst he
 exact ⟨_,rfl,qm6 qmR qcX V underlying4 rfl hW rfl hg⟩
theorem qcK(os:Os)(started:os.Started)(H:Type)(enc:TypeId×Value→H) :
  ReturnsInHanded {} checked os 3 .any (fun w args=>(Rows.interpRunMatchesSpecSpec.pre enc prog f3 [] false w args∧laidMetH prog Rows.interpRunMatchesSpecRow.laid w)∧sizedMet enc prog f3 (OpenSpec.ofChange Rows.interpRunMatchesSpecSpec) false w args) (Rows.interpRunMatchesSpecSpec.post enc prog f3 false true false false):=by
 refine returnsInHanded_of_change_and (C:=checked) (X:=fun w _=>laidMetH prog Rows.interpRunMatchesSpecRow.laid w) (fun _ _ _ hh h=>h.of_heap hh) qoz started V func3
  (ChangeSpec.witness_shaped (enc:=enc) (C:=checked) (os:=os) (X:=fun w _=>laidMetH prog Rows.interpRunMatchesSpecRow.laid w) false (World.laidAll prog os Rows.interpRunMatchesSpecRow.laid) #[.agg #[.slice none 0 0,.slice none 0 0],.slice none 0 0,.int .i64 0] 8 (World.laidAll_os _ _ _)
   (World.shaped_of_ZipB V V) V V V
   (by rw [MakeChecks.laidMetH_plain _ _ _ V];exact laidMet_laidAll _ V V)) ?_
 intro W base args ds gs before hval hW _ _ hL _
 exact qcu H enc W base args ds gs before hval hW hL
theorem qdb:Rows.InterpRunMatchesSpecSaid:=
 OpenClaim.holds_of_wide 3 f3 rfl rfl rfl rfl rfl rfl rfl ⟨rfl,rfl,rfl,rfl,rfl⟩ rfl rfl rfl rfl rfl V func3 V
  (of_decide_eq_true V) (by unfold Func.isWrapper;first | (rw [if_pos (by decide +kernel)];kernel_rfl) | (rw [if_neg (by decide +kernel)];exact ⟨rfl,rfl⟩))
  (fun os started H enc _=>qcK os started H enc)
theorem qcW(f:FuncId)(fn:Func)(hf:Tryz.pinned.checked.prog.funcNamed Rows.interpRunMatchesSpecRow.func=some f)(hfn:Tryz.pinned.checked.prog.funcs[f]?=some fn):true=Tryz.pinned.checked.prog.looks []∧∀ (j:Nat) t,fn.params[j]?=some t→Tryz.pinned.checked.prog.wantsStandIn t=false:=by
 obtain rfl:f=3:=Option.some.inj ((show prog.funcNamed Rows.interpRunMatchesSpecRow.func=some 3 by kernel_rfl).symm.trans hf) |>.symm
 obtain rfl:fn=f3:=(Option.some.inj (func3.symm.trans hfn)).symm
 exact ⟨by kernel_rfl,fun j t ht=>by
  rw [params3] at ht
  have hm:t∈[25,26,3]:=by simpa using Array.mem_of_getElem? ht
  have hall:([25,26,3].all fun u=>!prog.wantsStandIn u)=true:=by kernel_rfl
  exact (show prog.wantsStandIn t=false by simpa using List.all_eq_true.1 hall t hm)⟩
theorem interpRunMatchesSpec_holds : Rows.InterpRunMatchesSpecCardSaid :=
 Claim7.holds_tied_plain_at .later [] _ _ _ _ qdb (fun _ h=>by cases h) V (fun _ h=>by cases h) interpRunMatchesSpec_row_tie rfl ⟨rfl,rfl⟩ V rfl qcW V
end Go.Proofs.YtpdnijphccdiiaaGreatDoor
