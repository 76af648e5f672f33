/- Part 7 of the proof of interpFoldedProgramsRunAlike_holds: texts N4, FlO, N5, N6, N7, N8, N9, Tm, Tq, N10, N11, N12. -/
import Derived.Test.YtpdnijphccdiiaaGreatDoorQ37x6
import Derived.ArgAppend
set_option linter.unusedVariables false
set_option linter.unusedSimpArgs false
set_option linter.unnecessarySimpa false
set_option maxRecDepth 100000
set_option maxHeartbeats 8000000
namespace Go.Proofs.YtpdnijphccdiiaaGreatDoor
open Go.FL
attribute [local irreducible] JC JO JA JB thenQ blockQ retQ AC fill CellsAt QE Ev Mid
theorem getD_U {l:List Int} (h:∀ x∈l,U32 x) (i:Nat):U32 (l.getD i 0):=by
  rw [List.getD_eq_getElem?_getD]
  cases hl:l[i]? with
  | none=>exact ⟨by decide,by decide⟩
  | some x=>exact h x (List.mem_of_getElem? hl)
theorem vX_slot {p:Prg} {S:Sem} {f:Fnc} {x:Ex} {m:MS} (hk:x.kind=2) (h:0≤slotP f x.name):vX p OPp S f x m=.ok (m.frm.getD (slotP f x.name).toNat 0) m:=by
  rw [vX,if_neg O,if_pos hk,nameV,if_pos h]
theorem vX_con {p:Prg} {S:Sem} {f:Fnc} {x:Ex} {m:MS} {k:Nat} {g:Glo} (hk:x.kind=2) (h:¬ 0≤slotP f x.name) (hg:gloI p x.name=(k:Int)) (hp:p.globals[k]?=some g) (h1:g.kind=1):vX p OPp S f x m=.ok g.num m:=by
  rw [vX,if_neg O,if_pos hk,nameV,if_neg h,hg,Int.toNat_natCast,List.getD_eq_getElem?_getD,hp,Option.getD_some,if_pos h1]
theorem vX_var {p:Prg} {S:Sem} {f:Fnc} {x:Ex} {m:MS} {k:Nat} {g:Glo} (hk:x.kind=2) (h:¬ 0≤slotP f x.name) (hg:gloI p x.name=(k:Int)) (hp:p.globals[k]?=some g) (h1:¬ g.kind=1):vX p OPp S f x m=.ok (m.glo.getD (k:Int).toNat 0) m:=by
  rw [vX,if_neg O,if_pos hk,nameV,if_neg h,hg,Int.toNat_natCast,List.getD_eq_getElem?_getD (l:=p.globals),hp,Option.getD_some,if_neg h1]
theorem MG.rd {p:Prg} {c:MC} {N:Nat} {m:MS} {iv ov:Value} {R:Hl} {s:World} (h:MG p c N m iv ov R s) {l:List UInt8} {A:Option Addr} {n q:Nat} (hb:Bts s A n q l):MG p c N { m with inp:=l } (.slice A n q) ov R s:=⟨⟨A,n,q,rfl,hb⟩,h.out,h.ug,h.uf,h.ua,h.ng,h.lg,h.lf,h.lb,h.la,h.ar,h.lo,h.lc,h.ll,h.lN⟩
theorem num_ap (D:Nat) (L:Hl) (s:World) (p:Prg) (S:Sem) (c:MC) (N:Nat) (f:Fnc) (x:Ex) (m:MS) (iv ov:Value) (R:Hl) (hn:c.nf=f.params.length+f.locals.length) (hM:MG p c N m iv ov R s) (b:Nat) (A1:Option Addr) (n1 z1:Nat) (hk:x.kind=1) (hc:CellsAt s b 0 [.int .i64 x.kind,.int .i64 x.op,.int .u32 x.num,St x.name,.slice A1 n1 z1]) (hu:U32 x.num):AP Tryz.prog D 162 [.pointer (some ⟨c.bm,0,none⟩),.pointer (some ⟨b,0,none⟩)] (MB c N 0 m iv ov 0 0::MGb c m::MFb c m::(R++L)) s (okE p c N (vX p OPp S f x m) VE RE [] L) (finE c N (vX p OPp S f x m) [] L):=by
 refine AP_enter (TT:=TT) (fn:=Tryz.f162) TT_ok Tryz.func162 V Z Tryz.ntmps162 Z (rs:=[.tmp 3]) Z [(0,_),(1,_)] Z<|Sr<|At Z Z<|Sr<|JO_q (QE_fa Z Z Z Z) Z<|JO_q (QE_ldsR 2 Z Z Z (hc.le (Lr D)) Z) Z<|At Z Z<|Zo<|?_
 refine retP_mk [] _ (.inr Z) (.tmp Z (.nil)) Z (Lr D) (fun sR hS2=>?_)
 exact ⟨_,m,iv,ov,R,by rw [vX,if_pos hk],⟨rfl,hu⟩,rfl,hM.le ((Lr D).t hS2)⟩
theorem slot_ap (D:Nat) (L:Hl) (s:World) (p:Prg) (S:Sem) (c:MC) (N:Nat) (f:Fnc) (x:Ex) (m:MS) (iv ov:Value) (R:Hl) (hn:c.nf=f.params.length+f.locals.length) (hM:MG p c N m iv ov R s) (b:Nat) (hk:x.kind=2) (h0:0≤slotP f x.name) (hl:slotP f x.name < ((f.params.length+f.locals.length:Nat):Int)) (hc:CellsAt s b 0 [.int .i64 (slotP f x.name)]):AP Tryz.prog D 192 [.pointer (some ⟨c.bm,0,none⟩),.pointer (some ⟨b,0,none⟩)] (MB c N 0 m iv ov 0 0::MGb c m::MFb c m::(R++L)) s (okE p c N (vX p OPp S f x m) VE RE [] L) (finE c N (vX p OPp S f x m) [] L):=by
 have hl2:slotP f x.name < (m.frm.length:Int):=by rw [hM.lf,hn];exact hl
 have hl3:slotP f x.name < (c.nf:Int):=by rw [hn];exact hl
 refine AP_enter (TT:=TT) (fn:=Tryz.f192) TT_ok Tryz.func192 V Z Tryz.ntmps192 Z (rs:=[.tmp 3]) Z [(0,_),(1,_)] Z<|Sr<|At Z Z<|Zs<|JC_draw drawsMixed 8 Z _ (fun _ h=>h) ?_
 intro s1 h1
 refine za 0 Z (QE_mv Z) Z<|za 1 Z (QE_nil Z) Z<|za 2 Z (We Y4) Z<|za 3 Z (Wd 0 Y5) Z<|za 4 Z (QE_ldsR0 Z Z Z (hc.le h1) Z) Z<|za 5 Z (QE_iaS Z Z Z Z Z Z h0 hl3) Z<|za 6 Z (QE_ld1 2 Z Z Z Z (nth_w0 h0 hl2)) Z<|za 7 Z (QE_as Z) Z<|JA_done V<|Zt<|Zo<|?_
 refine retP_mk [] _ (.inr Z) (.tmp Z (.nil)) Z h1 (fun sR hS2=>?_)
 exact ⟨_,m,iv,ov,R,vX_slot hk h0,⟨rfl,getD_U hM.uf _⟩,rfl,hM.le (h1.t hS2)⟩
theorem con_ap (D:Nat) (L:Hl) (s:World) (p:Prg) (S:Sem) (c:MC) (N:Nat) (f:Fnc) (x:Ex) (m:MS) (iv ov:Value) (R:Hl) (hn:c.nf=f.params.length+f.locals.length) (hM:MG p c N m iv ov R s) (b k:Nat) (g:Glo) (A:Option Addr) (n1 z1:Nat) (hk:x.kind=2) (hs:¬ 0≤slotP f x.name) (hg:gloI p x.name=(k:Int)) (hp:p.globals[k]?=some g) (gc1:g.kind=1) (hc:CellsAt s b 0 [.int .i64 g.kind,St g.name,.int .u32 g.num,.slice A n1 z1]) (hu:U32 g.num):AP Tryz.prog D 193 [.pointer (some ⟨c.bm,0,none⟩),.pointer (some ⟨b,0,none⟩)] (MB c N 0 m iv ov 0 0::MGb c m::MFb c m::(R++L)) s (okE p c N (vX p OPp S f x m) VE RE [] L) (finE c N (vX p OPp S f x m) [] L):=by
 refine AP_enter (TT:=TT) (fn:=Tryz.f193) TT_ok Tryz.func193 V Z Tryz.ntmps193 Z (rs:=[.tmp 3]) Z [(0,_),(1,_)] Z<|Sr<|At Z Z<|Sr<|JO_q (QE_fa Z Z Z Z) Z<|JO_q (QE_ldsR 2 Z Z Z (hc.le (Lr D)) Z) Z<|At Z Z<|Zo<|?_
 refine retP_mk [] _ (.inr Z) (.tmp Z (.nil)) Z (Lr D) (fun sR hS2=>?_)
 exact ⟨_,m,iv,ov,R,vX_con hk hs hg hp gc1,⟨rfl,hu⟩,rfl,hM.le ((Lr D).t hS2)⟩
theorem var_ap (D:Nat) (L:Hl) (s:World) (p:Prg) (S:Sem) (c:MC) (N:Nat) (f:Fnc) (x:Ex) (m:MS) (iv ov:Value) (R:Hl) (hn:c.nf=f.params.length+f.locals.length) (hM:MG p c N m iv ov R s) (b k:Nat) (g:Glo) (hk:x.kind=2) (hs:¬ 0≤slotP f x.name) (hg:gloI p x.name=(k:Int)) (hp:p.globals[k]?=some g) (gc1:¬ g.kind=1) (hc:CellsAt s b 0 [.int .i64 (k:Int)]):AP Tryz.prog D 194 [.pointer (some ⟨c.bm,0,none⟩),.pointer (some ⟨b,0,none⟩)] (MB c N 0 m iv ov 0 0::MGb c m::MFb c m::(R++L)) s (okE p c N (vX p OPp S f x m) VE RE [] L) (finE c N (vX p OPp S f x m) [] L):=by
 have hkl:=(List.getElem?_eq_some_iff.1 hp).1
 have hl2:(k:Int) < (m.glo.length:Int):=by rw [hM.lg,hM.ng];omega
 have hl3:(k:Int) < (c.ng:Int):=by rw [hM.ng];omega
 refine AP_enter (TT:=TT) (fn:=Tryz.f194) TT_ok Tryz.func194 V Z Tryz.ntmps194 Z (rs:=[.tmp 3]) Z [(0,_),(1,_)] Z<|Sr<|At Z Z<|Zs<|JC_draw drawsMixed 8 Z _ (fun _ h=>h) ?_
 intro s1 h1
 refine za 0 Z (QE_mv Z) Z<|za 1 Z (QE_nil Z) Z<|za 2 Z (We Y4) Z<|za 3 Z (Wd 0 Y5) Z<|za 4 Z (QE_ldsR0 Z Z Z (hc.le h1) Z) Z<|za 5 Z (QE_iaS Z Z Z Z Z Z O hl3) Z<|za 6 Z (QE_ld1 1 Z Z Z Z (nth_w0 O hl2)) Z<|za 7 Z (QE_as Z) Z<|JA_done V<|Zt<|Zo<|?_
 refine retP_mk [] _ (.inr Z) (.tmp Z (.nil)) Z h1 (fun sR hS2=>?_)
 exact ⟨_,m,iv,ov,R,vX_var hk hs hg hp gc1,⟨rfl,getD_U hM.ug _⟩,rfl,hM.le (h1.t hS2)⟩
theorem get_ap (D:Nat) (L:Hl) (s:World) (p:Prg) (S:Sem) (c:MC) (N:Nat) (f:Fnc) (x:Ex) (m:MS) (iv ov:Value) (R:Hl) (hn:c.nf=f.params.length+f.locals.length) (hM:MG p c N m iv ov R s) (hk:x.kind=5):AP Tryz.prog D 165 [.pointer (some ⟨c.bm,0,none⟩)] (MB c N 0 m iv ov 0 0::MGb c m::MFb c m::(R++L)) s (okE p c N (vX p OPp S f x m) VE RE [] L) (finE c N (vX p OPp S f x m) [] L):=by
 obtain ⟨Ai,ni,qi,rfl,hI⟩:=hM.inp
 have hni:=hI.1
 have hvx:vX p OPp S f x m=getI m:=by rw [vX,if_neg O,if_neg O,if_neg O,if_neg O,if_pos hk]
 rw [hvx]
 refine AP_enter (TT:=TT) (fn:=Tryz.f165) TT_ok Tryz.func165 V Z Tryz.ntmps165 Z (rs:=[.tmp 2]) Z [(0,_)] Z<|Sr<|At Z Z<|Zs<|Sr<|Zqm Z Z<|Zqni Z Z<|Wb Y5<|Wl 0 Y6<|Ws Y4<|Zqeq Z Z Z<|Nt<|?_
 refine JC_ifD Z (fun c1=>?_) (fun c1=>?_)
 ·
  have hE:m.inp=[]:=List.eq_nil_of_length_eq_zero O
  refine Sr<|At Z Z<|Zo<|Zu<|?_
  refine retP_mk [] _ (.inr Z) (.tmp Z (.nil)) Z (Lr D) (fun sR hS2=>?_)
  first
    | (exact ⟨_,m,_,ov,R,by simp only [getI,hE],⟨rfl,⟨by decide,by decide⟩⟩,rfl,hM.le ((Lr D).t hS2)⟩)
    | (exact ⟨_,{ m with inp:=l },_,ov,R,by simp only [getI,hl],⟨rfl,⟨by omega,by have:=ch.toNat_lt;omega⟩⟩,rfl,(hM.rd hI.tail).le ((Lr D).t hS2)⟩)
 have h0n:0 < ni:=by omega
 obtain ⟨b,off,ch,hAi,hch,hcc⟩:=Bts.at_ hI h0n
 subst hAi
 obtain ⟨l,hl⟩:∃ l,m.inp=ch::l:=by
   cases h:m.inp with
   | nil=>rw [h] at hch;cases hch
   | cons y l=>rw [h] at hch;simp at hch;exact ⟨l,by rw [hch]⟩
 rw [hl] at hI
 refine Zk<|Zt<|Sr<|Zqm Z Z<|Zqni Z Z<|Wb Y5<|Wl 0 Y6<|JO_q (QE_ia1 Z Z Z Z Z Z h0n) Z<|JO_q (QE_ldsR0 Z Z Z (hcc.le (Lr D)) Z) Z<|At Z Z<|Sr<|Zqm Z Z<|Zqm Z Z<|Zqni Z Z<|Wb Y5<|Wl 0 Y6<|JO_q (QE_slL Z Z Z Z Z (show 1≤ni by omega)) Z<|Zqni Z Z<|Wb Y5<|Wt 0 [_,_,_,_,_,_,_,_,_,_,_,_] Y9<|Nt<|Sr<|Zqm Z Z<|?_
 refine JO_q (QE_cast (QE_conv Z Z Z Z Z) (congrArg (Value.int .u32) (show IntKind.u32.wrap (ch.toNat:Int)=(ch.toNat:Int) by rw [IntKind.wrap_u32];have:=ch.toNat_lt;omega))) Z<|At Z Z<|Zo<|?_
 refine retP_mk [] _ (.inr Z) (.tmp Z (.nil)) Z (Lr D) (fun sR hS2=>?_)
 first
   | (exact ⟨_,m,_,ov,R,by simp only [getI,hE],⟨rfl,⟨by decide,by decide⟩⟩,rfl,hM.le ((Lr D).t hS2)⟩)
   | (exact ⟨_,{ m with inp:=l },_,ov,R,by simp only [getI,hl],⟨rfl,⟨by omega,by have:=ch.toNat_lt;omega⟩⟩,rfl,(hM.rd hI.tail).le ((Lr D).t hS2)⟩)
end Go.Proofs.YtpdnijphccdiiaaGreatDoor
namespace Go.FL
open Go Go.RowKit
variable {P:Program} {TT:TyTab} {D n:Nat} {Q:APost} {fr:Fr} {L:Hl} {s:World} {ops:Array Oper} {rest:List Oper} {d ty:Nat} {pos:String} {af:Array Edge}
theorem Ev_appU {t e m c k sz b0 o0:Nat} {x y:Operand} {ti te:TI} {A1:Option Addr} {news xs:List Value} (hT:TabOK P TT) (hx:lk fr x=some (.slice (some ⟨b0,o0,none⟩) k k)) (hy:lk fr y=some (.slice A1 m c)) (ht:tlook TT t=some ti) (hk:ti.kind=.sl e) (he:tlook TT e=some te) (hsz:te.size=sz)
    (hC:CellsAt s b0 o0 xs) (hl:xs.length=k * sz) (hR:Row s A1 m sz news) (hm:0 < m) (h63:(k+m) * te.bytes≤140737488355328∧k+m≤9223372036854775807) (ho:OKL D L s) :
    ∃ g cap ys s',Ev P TT D fr (.call { callee:=.builtin .append,args:=#[x,y],argTypes:=#[t,t] }) ty L s (.value (.slice (some ⟨g,0,none⟩) (k+m) cap)) ((g,cb (xs++news++ys) e)::L) s'∧OKL D ((g,cb (xs++news++ys) e)::L) s'∧Le D s s'∧k+m≤cap∧cap≤9223372036854775807:=by
  have hok:=hT.at_ ht
  obtain ⟨k1,k2,_⟩:=hok
  rw [hk] at k2
  simp only [TK.fits] at k2
  rw [k2] at k1
  have hte:=hT.at_ he
  obtain ⟨i,i1,i2,i3,i4⟩:=info_of hte
  have hpos:0 < te.size:=hte.2.2.2.2.2.1
  have hzs:te.zero.cells.size=te.size:=by rw [zero_cells hte];simpa using hte.2.2.2.1
  have h0:∃ b off,A1=some ⟨b,off,none⟩∧CellsAt s b off news:=by
    have hl:0 < news.length:=by rw [hR.1,← hsz];exact Nat.mul_pos hm hpos
    obtain ⟨b,off,h1,_⟩:=hR.2.2 0 news[0] (List.getElem?_eq_getElem hl)
    refine ⟨b,off,h1,fun j u hj=>?_⟩
    obtain ⟨b',off',h1',h2⟩:=hR.2.2 j u hj
    rw [h1] at h1'
    injection h1' with h1';injection h1' with e1 e2;subst e1;subst e2
    exact h2
  obtain ⟨b,off,rfl,hcells⟩:=h0
  obtain ⟨v',w',hrun,hown,hgr⟩:=run_append_arg_grows (P:=P) (fill L s) t ty e i te.zero sz te.bytes k1 i1 i4 (i2.trans hsz) i3 (by rw [hzs,hsz]) (by rw [← hsz];exact hpos) ⟨b0,o0,none⟩ k k xs hl (fun j u hj=>by rw [add_lit];exact fill_cell ho (hC j u hj)) ⟨b,off,none⟩ m c news hR.1
    (fun j u hj=>by rw [add_lit];exact fill_cell ho (hcells j u hj)) O (by simpa [maxLen] using h63.2) h63.1
  obtain ⟨h1,h2⟩:=hown
  rcases h2 with ⟨_,h0⟩ | ⟨g,cap,cur,rfl,hge,hg,hnc,hcm,hcs,ht2⟩
  · omega
  rw [fill_size] at hge
  have hsize:=hgr.size
  rw [fill_size] at hsize
  have hcur:cur=(xs++news++cur.toList.drop ((k+m) * sz)).toArray:=by
    rw [← ht2,List.take_append_drop]
  have hlt:∀ x∈L,x.1 < s.heap.size:=fun x hx=>ho.lt hx
  obtain ⟨r1,r2,r3⟩:=of_grown (D:=D) (L':=(g,cb (xs++news++cur.toList.drop ((k+m) * sz)) e)::L) ho (hgr.os.trans (fill_os _ _)) (hgr.tape.trans (fill_tape _ _)) (hgr.output.trans (fill_output _ _)) hsize
    (by
      rw [List.map_cons,List.nodup_cons]
      refine ⟨fun hm2=>?_,ho.nd⟩
      obtain ⟨x,hx,hx2⟩:=List.mem_map.1 hm2
      have:=hlt x hx
      simp only at hx2
      omega)
    (fun x hx=>by
      rcases List.mem_cons.1 hx with rfl | hx
      · rw [hg,cb,← hcur]
      · rw [hgr.block x.1 (by rw [fill_size];exact hlt x hx) (by simp),fill_mem ho hx])
    (fun x hx=>by
      rcases List.mem_cons.1 hx with rfl | hx
      · exact .inr hge
      · exact .inl (List.mem_map.2 ⟨x,hx,rfl⟩))
    (fun j hj hn=>by rw [hgr.block j (by rw [fill_size];exact hj) (by simp),fill_other hn])
  refine ⟨g,cap,_,_,fun hT ho dst pos af g ρ hρ=>⟨?_,r2⟩,r2,r3,hnc,by simpa [maxLen] using hcm⟩
  rw [← r1]
  simp only [execOp,resolve,invoke,builtin,Sem.run_bind,Sem.run_pure,Result.andThen_ok,List.map_toArray,List.map_cons,List.map_nil,hρ x _ hx,hρ y _ hy,hrun]
theorem CellsAt.pre {b off:Nat} {xs ys:List Value} (h:CellsAt s b off (xs++ys)):CellsAt s b off xs:=fun j v hj=>h j v (by rw [List.getElem?_append_left (List.getElem?_eq_some_iff.1 hj).1];exact hj)
theorem CellsAt.nth {b:Nat} {l:List Value} {j:Nat} {v:Value} (h:CellsAt s b 0 l) (hj:l[j]?=some v):CellsAt s b (0+j) [v]:=fun i u hi=>by
  cases i with
  | zero=>simp at hi;subst hi;exact h j v hj
  | succ i=>simp at hi
theorem JO_appN {t e m c k sz b0 o0:Nat} {x y:Operand} {ti te:TI} {A1:Option Addr} {news xs:List Value} (hx:lk fr x=some (.slice (some ⟨b0,o0,none⟩) k k)) (hy:lk fr y=some (.slice A1 m c)) (ht:tlook TT t=some ti) (hk:ti.kind=.sl e) (he:tlook TT e=some te) (hsz:te.size=sz)
    (hC:CellsAt s b0 o0 xs) (hl:xs.length=k * sz) (hR:Row s A1 m sz news) (hm:0 < m) (h63:(k+m) * te.bytes≤140737488355328∧k+m≤9223372036854775807) (hd:Nat.blt d n=true)
    (kk:∀ g cap s',Le D s s'→CellsAt s' g 0 (xs++news)→k+m≤cap→cap≤9223372036854775807→JO P TT D n ops Q rest ((d,.slice (some ⟨g,0,none⟩) (k+m) cap)::fr) L s') :
    JO P TT D n ops Q (⟨some d,.call { callee:=.builtin .append,args:=#[x,y],argTypes:=#[t,t] },ty,pos,af,none⟩::rest) fr L s:=fun hT a hr ho=>by
  obtain ⟨g,cap,ys,s',h1,h2,h3,h4,h5⟩:=Ev_appU (ty:=ty) hT hx hy ht hk he hsz hC hl hR hm h63 ho
  obtain ⟨d1,d2,d3⟩:=drop_own (A:=[(g,cb (xs++news++ys) e)]) (B:=L) h2
  refine JO_ev (L':=L) (s':=fill [(g,cb (xs++news++ys) e)] s') hd (fun hT _ dst pos af g2 ρ hρ=>⟨?_,d2⟩) (kk g cap _ (h3.trans d3) (CellsAt.pre (cells_drop h2)) h4 h5) hT a hr ho
  rw [← d1]
  exact (h1 hT ho dst pos af g2 ρ hρ).1
end Go.FL
namespace Go.Proofs.YtpdnijphccdiiaaGreatDoor
open Go.FL
attribute [local irreducible] JC JO JA JB thenQ blockQ retQ AC fill CellsAt QE Ev Mid
def iX (p:Prg) (S:Sem) (f:Fnc) (nm:Str) (y:Ex) (m:MS):ER Int:=(S.e f y m).and fun i m1=>if ((arrG p nm m1).length:Int)≤i then .fin m1 1 1 else .ok i m1
theorem ER.and_assoc {α β γ:Type} (r:ER α) (k:α→MS→ER β) (g:β→MS→ER γ):(r.and k).and g=r.and fun a m=>(k a m).and g:=by cases r <;> rfl
theorem vX_idx {p:Prg} {S:Sem} {f:Fnc} {x:Ex} {m:MS} (hk:x.kind=3):vX p OPp S f x m=(iX p S f x.name (argE x.args 0) m).and fun i m1=>.ok ((arrG p x.name m1).getD i.toNat 0) m1:=by
  rw [vX,if_neg O,if_neg O,if_pos hk,iX,ER.and_assoc]
  congr 1
  funext i m1
  split <;> rfl
theorem sX_store {p:Prg} {S:Sem} {f:Fnc} {x:Stm} {m:MS} (hk:x.kind=2):sX p S f x m=(iX p S f x.name (argE x.exprs 0) m).and fun i m1=>(S.e f (argE x.exprs 1) m1).and fun v m2=>.ok (0,0) { m2 with arr:=m2.arr.set (gloI p x.name).toNat ((arrG p x.name m2).set i.toNat v) }:=by
  rw [sX,if_neg O,if_pos hk,iX,ER.and_assoc]
  congr 1
  funext i m1
  split <;> rfl
theorem iX_ok {p:Prg} {S:Sem} {f:Fnc} {nm:Str} {y:Ex} {m m1:MS} {a:Int} (h:iX p S f nm y m=.ok a m1):a < ((arrG p nm m1).length:Int):=by
  unfold iX at h
  cases hr:S.e f y m with
  | out=>rw [hr] at h;cases h
  | fin _ _ _=>rw [hr] at h;cases h
  | ok i m2=>
    rw [hr] at h
    simp only [ER.and] at h
    split at h
    · cases h
    · injection h with h1 h2;subst h1;subst h2;omega
theorem vX_call {p:Prg} {S:Sem} {f:Fnc} {x:Ex} {m:MS} (hk:x.kind=4):vX p OPp S f x m=(evalAll (S.e f) x.args m).and fun vs m=>S.c (calI p x.name).toNat vs m:=by
  rw [vX,if_neg O,if_neg O,if_neg O,if_pos hk]
theorem vX_una {p:Prg} {S:Sem} {f:Fnc} {x:Ex} {m:MS} (hk:x.kind=6):vX p OPp S f x m=(S.e f (argE x.args 0) m).and fun a m=>.ok (if (oprF x.op 0).1=0 then opP x.op a 0 else 0) m:=by
  rw [vX,if_neg O,if_neg O,if_neg O,if_neg O,if_neg O,if_pos hk]
  congr 1
  funext a m
  rw [OPp];split <;> rfl
theorem vX_bin {p:Prg} {S:Sem} {f:Fnc} {x:Ex} {m:MS} (hk:x.kind=7):vX p OPp S f x m=(S.e f (argE x.args 0) m).and fun a m=>if x.op=20∧a=0 then .ok 0 m else if x.op=21∧a≠0 then .ok 1 m else (S.e f (argE x.args 1) m).and fun b m=>if (oprF x.op b).1=0 then .ok (opP x.op a b) m else .fin m 1 2:=by
  rw [vX,if_neg O,if_neg O,if_neg O,if_neg O,if_neg O,if_neg O]
  congr 1
  funext a m
  split
  · rfl
  split
  · rfl
  congr 1
  funext b m
  by_cases h:(oprF x.op b).1=0
  · simp only [OPp,if_pos h]
  · simp only [OPp,if_neg h]
theorem opU {k x y:Int} (hx:U32 x) (hy:U32 y):U32 (if (oprF k y).1=0 then opP k x y else 0):=by
  split
  · exact opP_u hx hy
  · exact ⟨by decide,by decide⟩
theorem arrV_at:∀ {ab:List (Option Nat)} {gs:List Glo} {k b:Nat} {g:Glo},ab[k]?=some (some b)→gs[k]?=some g→(arrV ab gs)[k]?=some (.slice (some ⟨b,0,none⟩) g.num.toNat g.num.toNat)
  | [],_,_,_,_,h,_=>by simp at h
  | _::_,[],_,_,_,_,h=>by simp at h
  | some b::r,g::gs,0,b2,g2,h1,h2=>by simp at h1 h2;subst h1;subst h2;rfl
  | none::r,g::gs,0,b2,g2,h1,h2=>by simp at h1
  | some b::r,g::gs,k+1,b2,g2,h1,h2=>by rw [arrV,List.getElem?_cons_succ];exact arrV_at (by simpa using h1) (by simpa using h2)
  | none::r,g::gs,k+1,b2,g2,h1,h2=>by rw [arrV,List.getElem?_cons_succ];exact arrV_at (by simpa using h1) (by simpa using h2)
theorem arrL_at:∀ {ab:List (Option Nat)} {ls:List (List Int)} {k b:Nat},ab[k]?=some (some b)→k < ls.length→∃ i,(arrL ab ls)[i]?=some (b,cb (wv (ls.getD k [])) 29)∧i < (arrL ab ls).length∧∀ l,(arrL ab ls).set i (b,cb (wv l) 29)=arrL ab (ls.set k l)
  | [],_,_,_,h,_=>by simp at h
  | _::_,[],_,_,_,h=>by simp at h
  | some b::r,l::ls,0,b2,h1,h2=>by
    simp at h1;subst h1
    exact ⟨0,rfl,by simp [arrL],fun l=>rfl⟩
  | none::r,l::ls,0,b2,h1,h2=>by simp at h1
  | some b::r,l::ls,k+1,b2,h1,h2=>by
    obtain ⟨i,a1,a2,a3⟩:=arrL_at (ab:=r) (ls:=ls) (k:=k) (b:=b2) (by simpa using h1) (by simpa using h2)
    refine ⟨i+1,by rw [arrL,List.getElem?_cons_succ];simpa using a1,by rw [arrL,List.length_cons];omega,fun l2=>?_⟩
    rw [List.set_cons_succ,arrL,arrL,List.set_cons_succ,a3]
  | none::r,l::ls,k+1,b2,h1,h2=>by
    obtain ⟨i,a1,a2,a3⟩:=arrL_at (ab:=r) (ls:=ls) (k:=k) (b:=b2) (by simpa using h1) (by simpa using h2)
    exact ⟨i,by rw [arrL];simpa using a1,a2,fun l2=>by rw [List.set_cons_succ,arrL,arrL,a3]⟩
theorem setL_set {b:Nat} {o o':Obj}:∀ {L:Hl} {i:Nat},L[i]?=some (b,o)→setL L i o'=L.set i (b,o')
  | [],_,h=>by simp at h
  | x::L,0,h=>by simp at h;subst h;rfl
  | x::L,i+1,h=>by rw [setL,List.set_cons_succ,setL_set (by simpa using h)]
section
variable {p:Prg} {c:MC} {N:Nat} {m:MS} {iv ov:Value} {R:Hl} {s:World} {k:Nat} {g:Glo} {nm:Str}
theorem MG.ary (hM:MG p c N m iv ov R s) (hC:CT p c s) (hp:p.globals[k]?=some g) (h3:g.kind=3) (hg:gloI p nm=(k:Int)):∃ b,c.ab[k]?=some (some b)∧CellsAt s c.ba (0+k) [.slice (some ⟨b,0,none⟩) g.num.toNat g.num.toNat]∧(arrG p nm m).length=g.num.toNat∧k < c.ng:=by
  obtain ⟨⟨b,hb⟩,hl⟩:=hM.ar k g hp h3
  exact ⟨b,hb,hC.ar.nth (arrV_at hb hp),by rw [arrG,hg,Int.toNat_natCast];exact hl,by rw [hM.ng];exact (List.getElem?_eq_some_iff.1 hp).1⟩
theorem MG.blk {b:Nat} (hM:MG p c N m iv ov R s) (hb:c.ab[k]?=some (some b)) (hk:k < c.ng) (hg:gloI p nm=(k:Int)) (x y z:Nat×Obj) (L:Hl):∃ i,(x::y::z::(R++L))[i+3]?=some (b,cb (wv (arrG p nm m)) 29)∧∀ l,(∃ R',setL (x::y::z::(R++L)) (i+3) (cb (wv l) 29)=x::y::z::(R'++L)∧∀ s',MG p c N m iv ov R s'→l.length=(arrG p nm m).length→(∀ v∈l,U32 v)→MG p c N { m with arr:=m.arr.set k l } iv ov R' s'):=by
  obtain ⟨Mo,hR,hO⟩:=hM.out
  obtain ⟨i,a1,a2,a3⟩:=arrL_at (ls:=m.arr) hb (by rw [hM.la];exact hk)
  have hA:arrG p nm m=m.arr.getD k []:=by rw [arrG,hg,Int.toNat_natCast]
  refine ⟨i,?_,fun l=>⟨arrL c.ab (m.arr.set k l)++Mo,?_,fun s' hM' hl hu=>?_⟩⟩
  · show (R++L)[i]?=_
    rw [hR,List.append_assoc,List.getElem?_append_left a2,a1,hA]
  · rw [← a3,hR,setL_set (b:=b) (o:=cb (wv (arrG p nm m)) 29)]
    · show x::y::z::((arrL c.ab m.arr++Mo++L).set i _)=_
      rw [List.append_assoc,List.set_append_left _ _ a2,List.append_assoc]
    · show (arrL c.ab m.arr++Mo++L)[i]?=_
      rw [List.append_assoc,List.getElem?_append_left a2,a1,hA]
  · have hk2:k < m.arr.length:=by rw [hM.la];exact hk
    refine ⟨hM'.inp,⟨Mo,Z,hO⟩,hM'.ug,hM'.uf,fun l2 h2 v hv=>?_,hM'.ng,hM'.lg,hM'.lf,hM'.lb,by rw [List.length_set];exact hM'.la,fun j g2 hj h3=>?_,hM'.lo,hM'.lc,hM'.ll,hM'.lN⟩
    · rcases List.mem_or_eq_of_mem_set h2 with h2 | rfl
      · exact hM'.ua l2 h2 v hv
      · exact hu v hv
    · obtain ⟨q1,q2⟩:=hM'.ar j g2 hj h3
      refine ⟨q1,?_⟩
      by_cases hjk:k=j
      · subst hjk
        show ((m.arr.set k l).getD k []).length=_
        rw [List.getD_eq_getElem?_getD,List.getElem?_set_self hk2,Option.getD_some,hl,hA];exact q2
      · show ((m.arr.set k l).getD j []).length=_
        rw [List.getD_eq_getElem?_getD,List.getElem?_set_ne hjk,← List.getD_eq_getElem?_getD];exact q2
theorem MG.ix (hM:MG p c N m iv ov R s) (hg:gloI p nm=(k:Int)) (i:Nat):U32 ((arrG p nm m).getD i 0):=by
  refine getD_U (fun x hx=>?_) i
  rw [arrG,hg,Int.toNat_natCast,List.getD_eq_getElem?_getD] at hx
  cases hl:m.arr[k]? with
  | none=>rw [hl] at hx;cases hx
  | some l=>rw [hl] at hx;exact hM.ua l (List.mem_of_getElem? hl) x hx
end
theorem index_ap (p:Prg) (D n:Nat) (hE:EOK p D n) (L:Hl) (s:World) (c:MC) (N:Nat) (f:Fnc) (d:Nat) (y:Ex) (nm:Str) (k b:Nat) (g:Glo) (m:MS) (iv ov:Value) (R:Hl) (hC:CT p c s) (hn:c.nf=f.params.length+f.locals.length) (hM:MG p c N m iv ov R s) (hg:gloI p nm=(k:Int)) (hp:p.globals[k]?=some g) (gc3:g.kind=3) (hv:VeR p f d s y [.func (.func 123) #[] #[.pointer (some ⟨b,0,none⟩)]]) (hr:iX p (sem p OPp n) f nm y m≠.out):AP Tryz.prog D 87 [.pointer (some ⟨c.bm,0,none⟩),.int .i64 (k:Int),.func (.func 123) #[] #[.pointer (some ⟨b,0,none⟩)]] (MB c N 0 m iv ov 0 0::MGb c m::MFb c m::(R++L)) s (okE p c N (iX p (sem p OPp n) f nm y m) VE RE [] L) (finE c N (iX p (sem p OPp n) f nm y m) [] L):=by
 obtain ⟨r,hq⟩:∃ r,r=iX p (sem p OPp n) f nm y m:=⟨_,rfl⟩
 rw [← hq] at hr ⊢
 rw [iX] at hq
 refine AP_enter (TT:=TT) (fn:=Tryz.f87) TT_ok Tryz.func87 V Z Tryz.ntmps87 Z (rs:=[.tmp 6]) Z [(0,_),(1,_),(2,_)] Z<|Sr<|At Z Z<|Sr<|Zqm Z Z<|Zqm Z Z<|?_
 refine JO_callP (first:=[]) (captured:=[.pointer (some ⟨b,0,none⟩)]) Z Z Z (AP.fr (fun L=>hE L _ c N f d y _ m iv ov R (hC.le (Lr D)) hn (hv.le (Lr D)) (hM.le (Lr D)) (er_out hq hr)) [] _) ?_ ?_
 ·
  rintro _ _ sx1 hx1 ⟨hp1,mf1,sf1,cf1,Zf1,he1,rfl,hF1⟩ fr9
  repeat (first | refine thenQ_p ?_ | refine blockQ_p ?_)
  refine retP_x [] _ (List.Perm.refl _) hx1 (fun sR hS2=>?_)
  exact ⟨hp1,mf1,sf1,cf1,Zf1,er_fin hq he1,rfl,hF1⟩
 rintro _ _ s1 h1 ⟨a1,m1,iv1,ov1,R1,he1,⟨rfl,hu1⟩,rfl,hM1⟩
 rw [he1] at hq
 simp only [ER.and] at hq
 simp only [cQ9,nQ9]
 obtain ⟨ba,hab,hca,hla,hkn⟩:=hM1.ary (hC.le h1) hp gc3 hg
 rw [hla] at hq
 have hlo:=hu1.1
 have hhi:=hu1.2
 have hgu:=(hC.gu g (List.mem_of_getElem? hp)).2
 have hgn:g.num.toNat≤9223372036854775807:=by omega
 refine At Z Z<|Zs<|Sr<|Zqm Z Z<|JO_q (QE_conv' Z Z Z Z Z (w64y O O)) Z<|Zqm Z Z<|Zqni Z Z<|Wb Y5<|Wl 0 Y6<|Zqm Z Z<|JO_q (QE_ia1 Z Z Z Z Z Z hkn) Z<|JO_q (QE_ldsR0 Z Z Z (hca.le (Lr D)) Z) Z<|Ws Y4<|JO_q (QE_conv' Z Z Z Z Z (w64y O O)) Z<|Zqge Z Z Z<|Nt<|?_
 refine JC_ifD Z (fun c2=>?_) (fun c2=>?_)
 ·
  have q9:=c2
  refine Zr<|Zqm Z Z<|?_
  refine JO_callP (first:=[]) (captured:=[]) Z Z Z (mstop_fr D [] _ _ c N _ m1 iv1 ov1 _ _) ?_ ?_
  ·
   rintro _ _ sx3 hx3 ⟨hp3,rfl⟩ fr9
   repeat (first | refine thenQ_p ?_ | refine blockQ_p ?_)
   refine retP_x [] _ (List.Perm.refl _) (h1.t hx3) (fun sR hS2=>?_)
   exact ⟨hp3,m1,_,_,_,by rw [hq,if_pos O],rfl,((hM1.le hx3).fin _ _ _)⟩
  rintro _ _ s3 h3 ⟨⟩
 have q9:=c2
 rw [if_neg O] at hq
 refine Zk<|Zt<|Sr<|Zqm Z Z<|At Z Z<|Zo<|?_
 refine retP_mk [] _ (.inr Z) (.tmp Z (.nil)) Z h1 (fun sR hS2=>?_)
 exact ⟨_,m1,iv1,ov1,R1,hq,⟨rfl,hu1⟩,rfl,(hM1.le ((Lr D).t hS2))⟩
theorem idx_ap (p:Prg) (D n:Nat) (hE:EOK p D n) (L:Hl) (s:World) (c:MC) (N:Nat) (f:Fnc) (d:Nat) (x:Ex) (m:MS) (iv ov:Value) (R:Hl) (hC:CT p c s) (hn:c.nf=f.params.length+f.locals.length) (hM:MG p c N m iv ov R s) (b1 b2 k:Nat) (g:Glo) (A:Option Addr) (n1 z1:Nat) (hk:x.kind=3) (hg:gloI p x.name=(k:Int)) (hp:p.globals[k]?=some g) (gc3:g.kind=3) (gc1:CellsAt s b1 0 [.int .i64 (k:Int)]) (gc2:CellsAt s b2 0 [.slice A n1 z1]) (hA:VeS p f d s A n1 z1 x.args) (h0:0 < n1) (hr:vX p OPp (sem p OPp n) f x m≠.out):AP Tryz.prog D 164 [.pointer (some ⟨c.bm,0,none⟩),.pointer (some ⟨b1,0,none⟩),.pointer (some ⟨b2,0,none⟩)] (MB c N 0 m iv ov 0 0::MGb c m::MFb c m::(R++L)) s (okE p c N (vX p OPp (sem p OPp n) f x m) VE RE [] L) (finE c N (vX p OPp (sem p OPp n) f x m) [] L):=by
 obtain ⟨r,hq⟩:∃ r,r=vX p OPp (sem p OPp n) f x m:=⟨_,rfl⟩
 rw [← hq] at hr ⊢
 rw [vX_idx hk] at hq
 obtain ⟨B0,o0,b0,rfl,hcE,hvE⟩:=VeS.at_ hA h0
 obtain ⟨ba,hab,hca,hla,hkn⟩:=hM.ary hC hp gc3 hg
 refine AP_enter (TT:=TT) (fn:=Tryz.f164) TT_ok Tryz.func164 V Z Tryz.ntmps164 Z (rs:=[.tmp 4]) Z [(0,_),(1,_),(2,_)] Z<|Sr<|At Z Z<|Zs<|JC_draw drawsMixed 16 Z ([]:Hl) (fun x hx=>by cases hx) ?_
 intro s1 h1
 refine za 0 Z (QE_mv Z) Z<|za 1 Z (QE_nil Z) Z<|za 2 Z (We Y4) Z<|za 4 Z (QE_ldsR0 Z Z Z (gc1.le h1) Z) Z<|za 7 Z (QE_mv Z) Z<|za 8 Z (QE_ldsR0 Z Z Z (gc1.le h1) Z) Z<|za 9 Z (QE_ldsR0 Z Z Z (gc2.le h1) Z) Z<|za 10 Z (QE_ia1 Z Z Z Z Z Z h0) Z<|za 11 Z (QE_ldsR0 Z Z Z (hcE.le h1) Z) Z ?_
 refine JA_2 3 12 V ?_ ?_
 ·
  refine JB_q Z trivial (Wd 0 Y5) Z<|za 5 Z (QE_ia1 Z Z Z Z Z Z hkn) Z<|za 6 Z (QE_ldsR0 Z Z Z (hca.le h1) Z) Z<|JA_1 12 V ?_
  refine JB_callP Z trivial (first:=[]) (captured:=[]) Z Z Z (AP.fr (fun L=>index_ap p D n hE L _ c N f d (argE x.args 0) x.name k b0 g m iv ov R (hC.le h1) hn (hM.le h1) hg hp gc3 (hvE.le h1) (er_out hq hr)) [] _) ?_ ?_
  ·
   rintro _ _ sx2 hx2 ⟨hp2,mf2,sf2,cf2,Zf2,he2,rfl,hF2⟩ fr9
   repeat (first | refine thenQ_p ?_ | refine blockQ_p ?_)
   refine retP_x [] _ (List.Perm.refl _) (h1.t hx2) (fun sR hS2=>?_)
   exact ⟨hp2,mf2,sf2,cf2,Zf2,er_fin hq he2,rfl,hF2⟩
  rintro _ _ s2 h2 ⟨a2,m2,iv2,ov2,R2,he2,⟨rfl,hu2⟩,rfl,hM2⟩
  refine ⟨(fun x hx=>by cases hx),?_⟩
  rw [he2] at hq
  simp only [ER.and] at hq
  simp only [cQ9,nQ9]
  have hia:=iX_ok he2
  have hlo:=hu2.1
  obtain ⟨ba2,hab2,_,hla2,_⟩:=hM2.ary (hC.le (h1.t h2)) hp gc3 hg
  rw [hab] at hab2
  injection hab2 with hab2
  injection hab2 with hab2
  subst hab2
  obtain ⟨i,hbi,_⟩:=hM2.blk hab hkn hg (MB c N 0 m2 iv2 ov2 0 0) (MGb c m2) (MFb c m2) L
  refine za 13 Z (QE_iaS Z Z Z Z Z Z hlo (show a2 < ((g.num.toNat:Nat):Int) by omega)) Z<|JA_1 14 V<|JB_q Z trivial (QE_ld1 (i+3) Z hbi Z Z (nth_w0 hlo hia)) Z<|za 15 Z (QE_as Z) Z<|JA_done V<|Zt<|Zo<|?_
  refine retP_mk [] _ (.inr Z) (.tmp Z (.nil)) Z (h1.t h2) (fun sR hS2=>?_)
  exact ⟨_,m2,iv2,ov2,R2,hq,⟨rfl,hM2.ix hg _⟩,rfl,(hM2.le ((Lr D).t hS2))⟩
 refine JB_callP Z trivial (first:=[]) (captured:=[]) Z Z Z (AP.fr (fun L=>index_ap p D n hE L _ c N f d (argE x.args 0) x.name k b0 g m iv ov R (hC.le h1) hn (hM.le h1) hg hp gc3 (hvE.le h1) (er_out hq hr)) [] _) ?_ ?_
 ·
  rintro _ _ sx3 hx3 ⟨hp3,mf3,sf3,cf3,Zf3,he3,rfl,hF3⟩ fr9
  repeat (first | refine thenQ_p ?_ | refine blockQ_p ?_)
  refine retP_x [] _ (List.Perm.refl _) (h1.t hx3) (fun sR hS2=>?_)
  exact ⟨hp3,mf3,sf3,cf3,Zf3,er_fin hq he3,rfl,hF3⟩
 rintro _ _ s3 h3 ⟨a3,m3,iv3,ov3,R3,he3,⟨rfl,hu3⟩,rfl,hM3⟩
 refine ⟨(fun x hx=>by cases hx),?_⟩
 rw [he3] at hq
 simp only [ER.and] at hq
 simp only [cQ9,nQ9]
 have hia:=iX_ok he3
 have hlo:=hu3.1
 obtain ⟨ba2,hab2,_,hla2,_⟩:=hM3.ary (hC.le (h1.t h3)) hp gc3 hg
 rw [hab] at hab2
 injection hab2 with hab2
 injection hab2 with hab2
 subst hab2
 obtain ⟨i,hbi,_⟩:=hM3.blk hab hkn hg (MB c N 0 m3 iv3 ov3 0 0) (MGb c m3) (MFb c m3) L
 refine JA_1 3 V<|JB_q Z trivial (Wd 0 Y5) Z<|za 5 Z (QE_ia1 Z Z Z Z Z Z hkn) Z<|za 6 Z (QE_ldsR0 Z Z Z (hca.le h1) Z) Z<|za 13 Z (QE_iaS Z Z Z Z Z Z hlo (show a3 < ((g.num.toNat:Nat):Int) by omega)) Z<|JA_1 14 V<|JB_q Z trivial (QE_ld1 (i+3) Z hbi Z Z (nth_w0 hlo hia)) Z<|za 15 Z (QE_as Z) Z<|JA_done V<|Zt<|Zo<|?_
 refine retP_mk [] _ (.inr Z) (.tmp Z (.nil)) Z (h1.t h3) (fun sR hS2=>?_)
 exact ⟨_,m3,iv3,ov3,R3,hq,⟨rfl,hM3.ix hg _⟩,rfl,(hM3.le ((Lr D).t hS2))⟩
theorem una_ap (p:Prg) (D n:Nat) (hE:EOK p D n) (L:Hl) (s:World) (c:MC) (N:Nat) (f:Fnc) (d:Nat) (x:Ex) (m:MS) (iv ov:Value) (R:Hl) (hC:CT p c s) (hn:c.nf=f.params.length+f.locals.length) (hM:MG p c N m iv ov R s) (b1 b2:Nat) (A1:Option Addr) (n1 z1:Nat) (A:Option Addr) (n2 z2:Nat) (hk:x.kind=6) (gc1:CellsAt s b1 0 [.int .i64 x.kind,.int .i64 x.op,.int .u32 x.num,St x.name,.slice A1 n1 z1]) (gc2:CellsAt s b2 0 [.slice A n2 z2]) (hA:VeS p f d s A n2 z2 x.args) (h0:0 < n2) (hr:vX p OPp (sem p OPp n) f x m≠.out):AP Tryz.prog D 166 [.pointer (some ⟨c.bm,0,none⟩),.pointer (some ⟨b1,0,none⟩),.pointer (some ⟨b2,0,none⟩)] (MB c N 0 m iv ov 0 0::MGb c m::MFb c m::(R++L)) s (okE p c N (vX p OPp (sem p OPp n) f x m) VE RE [] L) (finE c N (vX p OPp (sem p OPp n) f x m) [] L):=by
 obtain ⟨r,hq⟩:∃ r,r=vX p OPp (sem p OPp n) f x m:=⟨_,rfl⟩
 rw [← hq] at hr ⊢
 rw [vX_una hk] at hq
 obtain ⟨B0,o0,b0,rfl,hcE,hvE⟩:=VeS.at_ hA h0
 refine AP_enter (TT:=TT) (fn:=Tryz.f166) TT_ok Tryz.func166 V Z Tryz.ntmps166 Z (rs:=[.tmp 4]) Z [(0,_),(1,_),(2,_)] Z<|Sr<|At Z Z<|Zs<|JC_draw drawsMixed 14 Z ([]:Hl) (fun x hx=>by cases hx) ?_
 intro s1 h1
 refine za 0 Z (QE_fa Z Z Z Z) Z<|za 1 Z (QE_ldsR 1 Z Z Z (gc1.le h1) Z) Z<|za 2 Z (QE_ldsR0 Z Z Z (gc2.le h1) Z) Z<|za 3 Z (QE_ia1 Z Z Z Z Z Z h0) Z<|za 4 Z (QE_ldsR0 Z Z Z (hcE.le h1) Z) Z<|za 5 Z (QE_mv Z) Z ?_
 refine JA_2 6 11 V ?_ ?_
 ·
  refine JB_callP Z trivial (first:=[]) (captured:=[.pointer (some ⟨b0,0,none⟩)]) Z Z Z (AP.fr (fun L=>hE L _ c N f d (argE x.args 0) _ m iv ov R (hC.le h1) hn (hvE.le h1) (hM.le h1) (er_out hq hr)) [] _) ?_ ?_
  ·
   rintro _ _ sx2 hx2 ⟨hp2,mf2,sf2,cf2,Zf2,he2,rfl,hF2⟩ fr9
   repeat (first | refine thenQ_p ?_ | refine blockQ_p ?_)
   refine retP_x [] _ (List.Perm.refl _) (h1.t hx2) (fun sR hS2=>?_)
   exact ⟨hp2,mf2,sf2,cf2,Zf2,er_fin hq he2,rfl,hF2⟩
  rintro _ _ s2 h2 ⟨a2,m2,iv2,ov2,R2,he2,⟨rfl,hu2⟩,rfl,hM2⟩
  refine ⟨(fun x hx=>by cases hx),?_⟩
  rw [he2] at hq
  simp only [ER.and] at hq
  simp only [cQ9,nQ9]
  refine JA_2 7 11 V ?_ ?_
  ·
   refine Jb Z trivial Z Z Z (operate_ac D _ _ x.op a2 0 hu2 ⟨by decide,by decide⟩) ?_
   rintro _ _ s3 h3 ⟨rfl,rfl⟩
   refine ⟨(fun x hx=>by cases hx),?_⟩
   refine za 8 Z (QE_mv Z) Z<|za 9 Z (QE_ext Z Z) Z<|za 10 Z (QE_ext Z Z) Z<|JA_1 11 V<|JB_alloc Z trivial Z [_,_] Z Z ?_
   intro β4 s4 h4
   refine za 12 Z (QE_as Z) Z<|JA_1 13 V<|Wu Z trivial 0 [_,_] Y9 (fun x hx=>by cases hx)<|JA_done V<|Zt<|Sr<|Zqm Z Z<|At Z Z<|Zo<|?_
   refine retP_mk [_] _ (.inr Z) (.tmp Z (.nil)) Z (h1.t h2|>.t h3|>.t h4) (fun sR hS2=>?_)
   exact ⟨_,m2,iv2,ov2,R2,hq,⟨rfl,opU hu2 ⟨by decide,by decide⟩⟩,rfl,(hM2.le (h3.t h4|>.t hS2))⟩
  refine JB_alloc Z trivial Z [_,_] Z Z ?_
  intro β5 s5 h5
  refine JA_1 7 V<|Jb Z trivial Z Z Z (operate_ac D _ _ x.op a2 0 hu2 ⟨by decide,by decide⟩) ?_
  rintro _ _ s6 h6 ⟨rfl,rfl⟩
  refine ⟨(fun x hx=>by cases hx),?_⟩
  refine za 8 Z (QE_mv Z) Z<|za 9 Z (QE_ext Z Z) Z<|za 10 Z (QE_ext Z Z) Z<|za 12 Z (QE_as Z) Z<|JA_1 13 V<|Wu Z trivial 0 [_,_] Y9 (fun x hx=>by cases hx)<|JA_done V<|Zt<|Sr<|Zqm Z Z<|At Z Z<|Zo<|?_
  refine retP_mk [_] _ (.inr Z) (.tmp Z (.nil)) Z (h1.t h2|>.t h5|>.t h6) (fun sR hS2=>?_)
  exact ⟨_,m2,iv2,ov2,R2,hq,⟨rfl,opU hu2 ⟨by decide,by decide⟩⟩,rfl,(hM2.le (h5.t h6|>.t hS2))⟩
 refine JB_alloc Z trivial Z [_,_] Z Z ?_
 intro β7 s7 h7
 refine JA_1 6 V ?_
 refine JB_callP Z trivial (first:=[]) (captured:=[.pointer (some ⟨b0,0,none⟩)]) Z Z Z (AP.fr (fun L=>hE L _ c N f d (argE x.args 0) _ m iv ov R (hC.le (h1.t h7)) hn (hvE.le (h1.t h7)) (hM.le (h1.t h7)) (er_out hq hr)) [_] _) ?_ ?_
 ·
  rintro _ _ sx8 hx8 ⟨hp8,mf8,sf8,cf8,Zf8,he8,rfl,hF8⟩ fr9
  repeat (first | refine thenQ_p ?_ | refine blockQ_p ?_)
  refine retP_x [_] _ (List.Perm.refl _) (h1.t h7|>.t hx8) (fun sR hS2=>?_)
  exact ⟨hp8,mf8,sf8,cf8,Zf8,er_fin hq he8,rfl,hF8⟩
 rintro _ _ s8 h8 ⟨a8,m8,iv8,ov8,R8,he8,⟨rfl,hu8⟩,rfl,hM8⟩
 refine ⟨(fun x hx=>by cases hx),?_⟩
 rw [he8] at hq
 simp only [ER.and] at hq
 simp only [cQ9,nQ9]
 refine JA_1 7 V<|Jb Z trivial Z Z Z (operate_ac D _ _ x.op a8 0 hu8 ⟨by decide,by decide⟩) ?_
 rintro _ _ s9 h9 ⟨rfl,rfl⟩
 refine ⟨(fun x hx=>by cases hx),?_⟩
 refine za 8 Z (QE_mv Z) Z<|za 9 Z (QE_ext Z Z) Z<|za 10 Z (QE_ext Z Z) Z<|za 12 Z (QE_as Z) Z<|JA_1 13 V<|Wu Z trivial 0 [_,_] Y9 (fun x hx=>by cases hx)<|JA_done V<|Zt<|Sr<|Zqm Z Z<|At Z Z<|Zo<|?_
 refine retP_mk [_] _ (.inr Z) (.tmp Z (.nil)) Z (h1.t h7|>.t h8|>.t h9) (fun sR hS2=>?_)
 exact ⟨_,m8,iv8,ov8,R8,hq,⟨rfl,opU hu8 ⟨by decide,by decide⟩⟩,rfl,(hM8.le (h9.t hS2))⟩
theorem bin_ap (p:Prg) (D n:Nat) (hE:EOK p D n) (L:Hl) (s:World) (c:MC) (N:Nat) (f:Fnc) (d:Nat) (x:Ex) (m:MS) (iv ov:Value) (R:Hl) (hC:CT p c s) (hn:c.nf=f.params.length+f.locals.length) (hM:MG p c N m iv ov R s) (b1 b2 b3 b4 b5:Nat) (hk:x.kind=7) (gc1:CellsAt s b1 0 [.func (.func 123) #[] #[.pointer (some ⟨b4,0,none⟩)]]) (gc2:CellsAt s b2 0 [.int .i64 x.op]) (gc3:CellsAt s b3 0 [.func (.func 123) #[] #[.pointer (some ⟨b5,0,none⟩)]]) (hv1:VeR p f d s (argE x.args 0) [.func (.func 123) #[] #[.pointer (some ⟨b4,0,none⟩)]]) (hv2:VeR p f d s (argE x.args 1) [.func (.func 123) #[] #[.pointer (some ⟨b5,0,none⟩)]]) (hr:vX p OPp (sem p OPp n) f x m≠.out):AP Tryz.prog D 195 [.pointer (some ⟨c.bm,0,none⟩),.pointer (some ⟨b1,0,none⟩),.pointer (some ⟨b2,0,none⟩),.pointer (some ⟨b3,0,none⟩)] (MB c N 0 m iv ov 0 0::MGb c m::MFb c m::(R++L)) s (okE p c N (vX p OPp (sem p OPp n) f x m) VE RE [] L) (finE c N (vX p OPp (sem p OPp n) f x m) [] L):=by
 obtain ⟨r,hq⟩:∃ r,r=vX p OPp (sem p OPp n) f x m:=⟨_,rfl⟩
 rw [← hq] at hr ⊢
 rw [vX_bin hk] at hq
 refine AP_enter (TT:=TT) (fn:=Tryz.f195) TT_ok Tryz.func195 V Z Tryz.ntmps195 Z (rs:=[.tmp 5]) Z [(0,_),(1,_),(2,_),(3,_)] Z<|Sr<|At Z Z<|Sr<|JO_q (QE_ldsR0 Z Z Z (gc1.le (Lr D)) Z) Z<|Zqm Z Z ?_
 refine JO_callP (first:=[]) (captured:=[.pointer (some ⟨b4,0,none⟩)]) Z Z Z (AP.fr (fun L=>hE L _ c N f d (argE x.args 0) _ m iv ov R (hC.le (Lr D)) hn (hv1.le (Lr D)) (hM.le (Lr D)) (er_out hq hr)) [] _) ?_ ?_
 ·
  rintro _ _ sx1 hx1 ⟨hp1,mf1,sf1,cf1,Zf1,he1,rfl,hF1⟩ fr9
  repeat (first | refine thenQ_p ?_ | refine blockQ_p ?_)
  refine retP_x [] _ (List.Perm.refl _) hx1 (fun sR hS2=>?_)
  exact ⟨hp1,mf1,sf1,cf1,Zf1,er_fin hq he1,rfl,hF1⟩
 rintro _ _ s1 h1 ⟨a1,m1,iv1,ov1,R1,he1,⟨rfl,hu1⟩,rfl,hM1⟩
 rw [he1] at hq
 simp only [ER.and] at hq
 simp only [cQ9,nQ9]
 refine At Z Z<|Zs<|?_
 refine JC_cutB 17 (x.op=20∧a1=0) ?_ ?_
 ·
  refine Zr<|JO_q (QE_ldsR0 Z Z Z (gc2.le h1) Z) Z<|Zqeq Z Z Z<|Zqm Z Z<|?_
  refine JO_caseD (t:=14) Z (fun c3=>?_) (fun c3=>?_)
  ·
   refine Zg Z Z<|Zqm Z Z<|Zg Z Z<|Zqeq Z Z Z<|ZqT Z Z Z<|Zn<|?_
   refine thenQ_n (MidB.mk (Lr D) Sb Z (decide_eq_decide.2 O))
  refine Wf Y4<|Wf Y4<|ZqF Z Z Z<|Zn<|?_
  refine thenQ_n (MidB.mk (Lr D) Sb Z ((decide_eq_false O).symm))
 intro s2 h2
 refine JC_ifD Z (fun c4=>?_) (fun c4=>?_)
 ·
  rw [if_pos c4] at hq
  refine Sr<|At Z Z<|Zo<|Zu<|?_
  refine retP_mk [] _ (.inr Z) (.tmp Z (.nil)) Z (h1.t h2) (fun sR hS2=>?_)
  first
    | (exact ⟨_,m1,iv1,ov1,R1,hq,⟨rfl,⟨by decide,by decide⟩⟩,rfl,(hM1.le (h2.t hS2))⟩)
    | (exact ⟨_,m1,iv1,ov1,R1,hq,⟨by rw [if_pos q8];rfl,opP_u hu1 hu1⟩,rfl,(hM1.le (h2.t hS2))⟩)
 rw [if_neg c4] at hq
 refine Zk<|Zt<|Zs<|?_
 refine JC_cutB 23 (x.op=21∧a1≠0) ?_ ?_
 ·
  refine Zr<|JO_q (QE_ldsR0 Z Z Z (gc2.le (h1.t h2)) Z) Z<|Zqeq Z Z Z<|Zqm Z Z<|?_
  refine JO_caseD (t:=20) Z (fun c6=>?_) (fun c6=>?_)
  ·
   refine Zg Z Z<|Zqm Z Z<|Zg Z Z<|Zqne Z Z Z<|ZqT Z Z Z<|Zn<|?_
   refine thenQ_n (MidB.mk (Lr D) Sb Z (ndec_eq O))
  refine Wf Y4<|Wf Y4<|ZqF Z Z Z<|Zn<|?_
  refine thenQ_n (MidB.mk (Lr D) Sb Z ((decide_eq_false O).symm))
 intro s5 h5
 refine JC_ifD Z (fun c7=>?_) (fun c7=>?_)
 ·
  rw [if_pos c7] at hq
  refine Sr<|At Z Z<|Zo<|Zu<|?_
  refine retP_mk [] _ (.inr Z) (.tmp Z (.nil)) Z (h1.t h2|>.t h5) (fun sR hS2=>?_)
  first
    | (exact ⟨_,m1,iv1,ov1,R1,hq,⟨rfl,⟨by decide,by decide⟩⟩,rfl,(hM1.le (h2.t h5|>.t hS2))⟩)
    | (exact ⟨_,m1,iv1,ov1,R1,hq,⟨by rw [if_pos q8];rfl,opP_u hu1 hu1⟩,rfl,(hM1.le (h2.t h5|>.t hS2))⟩)
 rw [if_neg c7] at hq
 refine Zk<|Zt<|Zs<|JC_draw drawsMixed 12 Z ([]:Hl) (fun x hx=>by cases hx) ?_
 intro s8 h8
 refine za 0 Z (QE_ldsR0 Z Z Z (gc2.le (h1.t h2|>.t h5|>.t h8)) Z) Z<|za 1 Z (QE_mv Z) Z<|za 2 Z (QE_ldsR0 Z Z Z (gc3.le (h1.t h2|>.t h5|>.t h8)) Z) Z<|za 3 Z (QE_mv Z) Z ?_
 refine JA_2 4 9 V ?_ ?_
 ·
  refine JB_callP Z trivial (first:=[]) (captured:=[.pointer (some ⟨b5,0,none⟩)]) Z Z Z (AP.fr (fun L=>hE L _ c N f d (argE x.args 1) _ m1 iv1 ov1 R1 (hC.le (h1.t h2|>.t h5|>.t h8)) hn (hv2.le (h1.t h2|>.t h5|>.t h8)) (hM1.le (h2.t h5|>.t h8)) (er_out hq hr)) [] _) ?_ ?_
  ·
   rintro _ _ sx9 hx9 ⟨hp9,mf9,sf9,cf9,Zf9,he9,rfl,hF9⟩ fr9
   repeat (first | refine thenQ_p ?_ | refine blockQ_p ?_)
   refine retP_x [] _ (List.Perm.refl _) (h1.t h2|>.t h5|>.t h8|>.t hx9) (fun sR hS2=>?_)
   exact ⟨hp9,mf9,sf9,cf9,Zf9,er_fin hq he9,rfl,hF9⟩
  rintro _ _ s9 h9 ⟨a9,m9,iv9,ov9,R9,he9,⟨rfl,hu9⟩,rfl,hM9⟩
  refine ⟨(fun x hx=>by cases hx),?_⟩
  rw [he9] at hq
  simp only [ER.and] at hq
  simp only [cQ9,nQ9]
  refine JA_2 5 9 V ?_ ?_
  ·
   refine Jb Z trivial Z Z Z (operate_ac D _ _ x.op a1 a9 hu1 hu9) ?_
   rintro _ _ s10 h10 ⟨rfl,rfl⟩
   refine ⟨(fun x hx=>by cases hx),?_⟩
   refine za 6 Z (QE_mv Z) Z<|za 7 Z (QE_ext Z Z) Z<|za 8 Z (QE_ext Z Z) Z<|JA_1 9 V<|JB_alloc Z trivial Z [_,_] Z Z ?_
   intro β11 s11 h11
   refine za 10 Z (QE_as Z) Z<|JA_1 11 V<|Wu Z trivial 0 [_,_] Y9 (fun x hx=>by cases hx)<|JA_done V<|Zt<|Zs<|Sr<|JO_q (QE_ldA 0 [_,_] Z Z Z Z Z) Z<|JO_q (QE_build [] [_,_] Z Z Z Z Z Z) Z<|JO_q (QE_ane Z Z (eqFault _ _ _ _)) Z<|Nt<|?_
   refine JC_ifN Z (fun c12=>?_) (fun c12=>?_)
   ·
    have q9:¬ (oprF x.op _).1=0:=fun h=>c12 (by rw [opr_00 h];exact ⟨rfl,rfl⟩)
    refine Zr<|Zqm Z Z<|?_
    refine JO_callP (first:=[]) (captured:=[]) Z Z Z (mstop_fr D [_] _ _ c N _ m9 iv9 ov9 _ _) ?_ ?_
    ·
     rintro _ _ sx13 hx13 ⟨hp13,rfl⟩ fr9
     repeat (first | refine thenQ_p ?_ | refine blockQ_p ?_)
     refine retP_x [_] _ (List.Perm.refl _) (h1.t h2|>.t h5|>.t h8|>.t h9|>.t h10|>.t h11|>.t hx13) (fun sR hS2=>?_)
     exact ⟨hp13,m9,_,_,_,by rw [hq,if_neg q9],rfl,((hM9.le (h10.t h11|>.t hx13)).fin _ _ _)⟩
    rintro _ _ s13 h13 ⟨⟩
   have q8:=c12.1
   rw [if_pos q8] at hq
   refine Zk<|Zt<|Sr<|Zqm Z Z<|At Z Z<|Zo<|?_
   refine retP_mk [_] _ (.inr Z) (.tmp Z (.nil)) Z (h1.t h2|>.t h5|>.t h8|>.t h9|>.t h10|>.t h11) (fun sR hS2=>?_)
   first
     | (exact ⟨_,m9,iv9,ov9,R9,hq,⟨rfl,⟨by decide,by decide⟩⟩,rfl,(hM9.le (h10.t h11|>.t hS2))⟩)
     | (exact ⟨_,m9,iv9,ov9,R9,hq,⟨by rw [if_pos q8];rfl,opP_u hu1 hu9⟩,rfl,(hM9.le (h10.t h11|>.t hS2))⟩)
  refine JB_alloc Z trivial Z [_,_] Z Z ?_
  intro β14 s14 h14
  refine JA_1 5 V<|Jb Z trivial Z Z Z (operate_ac D _ _ x.op a1 a9 hu1 hu9) ?_
  rintro _ _ s15 h15 ⟨rfl,rfl⟩
  refine ⟨(fun x hx=>by cases hx),?_⟩
  refine za 6 Z (QE_mv Z) Z<|za 7 Z (QE_ext Z Z) Z<|za 8 Z (QE_ext Z Z) Z<|za 10 Z (QE_as Z) Z<|JA_1 11 V<|Wu Z trivial 0 [_,_] Y9 (fun x hx=>by cases hx)<|JA_done V<|Zt<|Zs<|Sr<|JO_q (QE_ldA 0 [_,_] Z Z Z Z Z) Z<|JO_q (QE_build [] [_,_] Z Z Z Z Z Z) Z<|JO_q (QE_ane Z Z (eqFault _ _ _ _)) Z<|Nt<|?_
  refine JC_ifN Z (fun c16=>?_) (fun c16=>?_)
  ·
   have q9:¬ (oprF x.op _).1=0:=fun h=>c16 (by rw [opr_00 h];exact ⟨rfl,rfl⟩)
   refine Zr<|Zqm Z Z<|?_
   refine JO_callP (first:=[]) (captured:=[]) Z Z Z (mstop_fr D [_] _ _ c N _ m9 iv9 ov9 _ _) ?_ ?_
   ·
    rintro _ _ sx17 hx17 ⟨hp17,rfl⟩ fr9
    repeat (first | refine thenQ_p ?_ | refine blockQ_p ?_)
    refine retP_x [_] _ (List.Perm.refl _) (h1.t h2|>.t h5|>.t h8|>.t h9|>.t h14|>.t h15|>.t hx17) (fun sR hS2=>?_)
    exact ⟨hp17,m9,_,_,_,by rw [hq,if_neg q9],rfl,((hM9.le (h14.t h15|>.t hx17)).fin _ _ _)⟩
   rintro _ _ s17 h17 ⟨⟩
  have q8:=c16.1
  rw [if_pos q8] at hq
  refine Zk<|Zt<|Sr<|Zqm Z Z<|At Z Z<|Zo<|?_
  refine retP_mk [_] _ (.inr Z) (.tmp Z (.nil)) Z (h1.t h2|>.t h5|>.t h8|>.t h9|>.t h14|>.t h15) (fun sR hS2=>?_)
  first
    | (exact ⟨_,m9,iv9,ov9,R9,hq,⟨rfl,⟨by decide,by decide⟩⟩,rfl,(hM9.le (h14.t h15|>.t hS2))⟩)
    | (exact ⟨_,m9,iv9,ov9,R9,hq,⟨by rw [if_pos q8];rfl,opP_u hu1 hu9⟩,rfl,(hM9.le (h14.t h15|>.t hS2))⟩)
 refine JB_alloc Z trivial Z [_,_] Z Z ?_
 intro β18 s18 h18
 refine JA_1 4 V ?_
 refine JB_callP Z trivial (first:=[]) (captured:=[.pointer (some ⟨b5,0,none⟩)]) Z Z Z (AP.fr (fun L=>hE L _ c N f d (argE x.args 1) _ m1 iv1 ov1 R1 (hC.le (h1.t h2|>.t h5|>.t h8|>.t h18)) hn (hv2.le (h1.t h2|>.t h5|>.t h8|>.t h18)) (hM1.le (h2.t h5|>.t h8|>.t h18)) (er_out hq hr)) [_] _) ?_ ?_
 ·
  rintro _ _ sx19 hx19 ⟨hp19,mf19,sf19,cf19,Zf19,he19,rfl,hF19⟩ fr9
  repeat (first | refine thenQ_p ?_ | refine blockQ_p ?_)
  refine retP_x [_] _ (List.Perm.refl _) (h1.t h2|>.t h5|>.t h8|>.t h18|>.t hx19) (fun sR hS2=>?_)
  exact ⟨hp19,mf19,sf19,cf19,Zf19,er_fin hq he19,rfl,hF19⟩
 rintro _ _ s19 h19 ⟨a19,m19,iv19,ov19,R19,he19,⟨rfl,hu19⟩,rfl,hM19⟩
 refine ⟨(fun x hx=>by cases hx),?_⟩
 rw [he19] at hq
 simp only [ER.and] at hq
 simp only [cQ9,nQ9]
 refine JA_1 5 V<|Jb Z trivial Z Z Z (operate_ac D _ _ x.op a1 a19 hu1 hu19) ?_
 rintro _ _ s20 h20 ⟨rfl,rfl⟩
 refine ⟨(fun x hx=>by cases hx),?_⟩
 refine za 6 Z (QE_mv Z) Z<|za 7 Z (QE_ext Z Z) Z<|za 8 Z (QE_ext Z Z) Z<|za 10 Z (QE_as Z) Z<|JA_1 11 V<|Wu Z trivial 0 [_,_] Y9 (fun x hx=>by cases hx)<|JA_done V<|Zt<|Zs<|Sr<|JO_q (QE_ldA 0 [_,_] Z Z Z Z Z) Z<|JO_q (QE_build [] [_,_] Z Z Z Z Z Z) Z<|JO_q (QE_ane Z Z (eqFault _ _ _ _)) Z<|Nt<|?_
 refine JC_ifN Z (fun c21=>?_) (fun c21=>?_)
 ·
  have q9:¬ (oprF x.op _).1=0:=fun h=>c21 (by rw [opr_00 h];exact ⟨rfl,rfl⟩)
  refine Zr<|Zqm Z Z<|?_
  refine JO_callP (first:=[]) (captured:=[]) Z Z Z (mstop_fr D [_] _ _ c N _ m19 iv19 ov19 _ _) ?_ ?_
  ·
   rintro _ _ sx22 hx22 ⟨hp22,rfl⟩ fr9
   repeat (first | refine thenQ_p ?_ | refine blockQ_p ?_)
   refine retP_x [_] _ (List.Perm.refl _) (h1.t h2|>.t h5|>.t h8|>.t h18|>.t h19|>.t h20|>.t hx22) (fun sR hS2=>?_)
   exact ⟨hp22,m19,_,_,_,by rw [hq,if_neg q9],rfl,((hM19.le (h20.t hx22)).fin _ _ _)⟩
  rintro _ _ s22 h22 ⟨⟩
 have q8:=c21.1
 rw [if_pos q8] at hq
 refine Zk<|Zt<|Sr<|Zqm Z Z<|At Z Z<|Zo<|?_
 refine retP_mk [_] _ (.inr Z) (.tmp Z (.nil)) Z (h1.t h2|>.t h5|>.t h8|>.t h18|>.t h19|>.t h20) (fun sR hS2=>?_)
 first
   | (exact ⟨_,m19,iv19,ov19,R19,hq,⟨rfl,⟨by decide,by decide⟩⟩,rfl,(hM19.le (h20.t hS2))⟩)
   | (exact ⟨_,m19,iv19,ov19,R19,hq,⟨by rw [if_pos q8];rfl,opP_u hu1 hu19⟩,rfl,(hM19.le (h20.t hS2))⟩)
theorem and_nil {r:ER (List Int)}:(r.and fun vs m=>.ok ([]++vs) m)=r:=by cases r <;> rfl
theorem all_at {E:Ex→MS→ER Int} {l:List Ex} {k:Nat} (h:k < l.length) (pre:List Int) (m:MS):(evalAll E (l.drop k) m).and (fun vs m=>.ok (pre++vs) m)=(E (argE l k) m).and fun v m=>(evalAll E (l.drop (k+1)) m).and fun vs m=>.ok ((pre++[v])++vs) m:=by
  have e:argE l k=l[k]:=by rw [argE,List.getD_eq_getElem?_getD,List.getElem?_eq_getElem h];rfl
  rw [List.drop_eq_getElem_cons h,evalAll,ER.and_assoc,e]
  congr 1
  funext v m
  rw [ER.and_assoc]
  congr 1
  funext vs m
  simp [ER.and,List.append_assoc]
structure CG where
  k:Nat
  pre:List Int
  m:MS
  iv:Value
  ov:Value
  R:Hl
  v:Value
  M:Hl
theorem wvs1 (w:List Int) (x:Int):wv (w++[x])=wv w++[.int .u32 x]:=by simp [wv]
theorem callc_ap (p:Prg) (D n:Nat) (hE:EOK p D n) (L:Hl) (s:World) (c:MC) (N:Nat) (f:Fnc) (d:Nat) (xs:List Ex) (m:MS) (iv ov:Value) (R:Hl) (hC:CT p c s) (hn:c.nf=f.params.length+f.locals.length) (hM:MG p c N m iv ov R s) (hK:COK p D n) (b1 b2 k:Nat) (fk:Fnc) (A:Option Addr) (n1 z1:Nat) (gc1:CellsAt s b1 0 [.slice A n1 z1]) (gc2:CellsAt s b2 0 [.int .i64 (k:Int)]) (hA:VeS p f d s A n1 z1 xs) (hp:p.funcs[k]?=some fk) (hl:xs.length=fk.params.length) (hr:((evalAll ((sem p OPp n).e f) xs m).and fun vs m=>(sem p OPp n).c k vs m)≠.out):AP Tryz.prog D 130 [.pointer (some ⟨c.bm,0,none⟩),.pointer (some ⟨b1,0,none⟩),.pointer (some ⟨b2,0,none⟩)] (MB c N 0 m iv ov 0 0::MGb c m::MFb c m::(R++L)) s (okE p c N ((evalAll ((sem p OPp n).e f) xs m).and fun vs m=>(sem p OPp n).c k vs m) VE RE [] L) (finE c N ((evalAll ((sem p OPp n).e f) xs m).and fun vs m=>(sem p OPp n).c k vs m) [] L):=by
 obtain ⟨r,hq⟩:∃ r,r=(evalAll ((sem p OPp n).e f) xs m).and fun vs m=>(sem p OPp n).c k vs m:=⟨_,rfl⟩
 rw [← hq] at hr ⊢
 have hf9:=hC.fs fk (List.mem_of_getElem? hp)
 have hn1:=hA.1
 have hc1:=hA.2.1
 have hc2:=hA.2.2.1
 refine AP_enter (TT:=TT) (fn:=Tryz.f130) TT_ok Tryz.func130 V Z Tryz.ntmps130 Z (rs:=[.tmp 4]) Z [(0,_),(1,_),(2,_)] Z<|Sr<|At Z Z<|Sr<|At Z Z<|Zs<|Sr<|JO_q (QE_ldsR0 Z Z Z (gc1.le (Lr D)) Z) Z<|Ws Y4<|Zqm Z Z<|Nt<|Zp<|?_
 refine JC_loop (γ:=CG) (fun g=>[(0,_),(2,_),(4,_),(5,g.v),(8,_),(9,_),(10,.int .i64 (g.k:Int))]) (fun g=>g.M++(MB c N 0 g.m g.iv g.ov 0 0::MGb c g.m::MFb c g.m::(g.R++L))) (fun g tw=>Le D s tw∧(g.k≤n1∧MG p c N g.m g.iv g.ov g.R tw∧FL.Own 29 1 g.M g.v g.pre.length (wv g.pre)∧g.pre.length=g.k∧(∀ x∈g.pre,U32 x)∧r=((evalAll ((sem p OPp n).e f) (xs.drop g.k) g.m).and fun vs m=>.ok (g.pre++vs) m).and fun vs m=>(sem p OPp n).c k vs m)) (fun g=>n1 - g.k) (fun _ _ _ h hl=>⟨h.1.trans hl,⟨h.2.1,h.2.2.1.le hl,h.2.2.2⟩⟩) ⟨0,[],m,iv,ov,R,.slice none 0 0,[]⟩ (.cons Z (.cons Z (.cons Z (.cons Z (.cons Z (.cons Z (.cons Z (.nil _)))))))) Z ⟨Le.refl _,⟨Nat.zero_le _,hM.le (Lr D),.nil,Z,fun x hx=>(by cases hx),by rw [hq,List.drop_zero,and_nil]⟩⟩ ?_
 intro g s1 I1
 obtain ⟨j,pre,mk,ivk,ovk,Rk,vk,Mk⟩:=g
 obtain ⟨hj0,hMk,hOk,hpl,hup,hq⟩:j≤n1∧MG p c N mk ivk ovk Rk s1∧FL.Own 29 1 Mk vk pre.length (wv pre)∧pre.length=j∧(∀ x∈pre,U32 x)∧r=((evalAll ((sem p OPp n).e f) (xs.drop j) mk).and fun vs m=>.ok (pre++vs) m).and fun vs m=>(sem p OPp n).c k vs m:=I1.2
 obtain ⟨Av,cv,rfl,_,_⟩:=Own.slice hOk
 dsimp only
 refine Sr<|Zqlt Z Z Z<|Nt<|Zs<|?_
 refine JC_ifD Z (fun c2=>?_) (fun c2=>?_)
 ·
  have hj:j < n1:=by omega
  rw [all_at O,ER.and_assoc] at hq
  obtain ⟨B0,o0,b0,hAe,hcE,hvE⟩:=VeS.at_ (hA.le I1.1) hj
  subst hAe
  refine Zk<|Zt<|Zs<|Zp<|Sr<|JO_q (QE_ia1 Z Z Z Z Z Z hj) Z<|JO_q (QE_ldsR0 Z Z Z (hcE.le (Lr D)) Z) Z<|At Z Z<|Zr<|Zqm Z Z<|Zqm Z Z<|Zqm Z Z<|?_
  refine JO_callP (first:=[]) (captured:=[.pointer (some ⟨b0,0,none⟩)]) Z Z Z (AP.fr (fun L=>hE L _ c N f d (argE xs j) _ mk ivk ovk Rk (hC.le I1.1) hn (hvE.le (Lr D)) (hMk.le (Lr D)) (er_out hq hr)) Mk _) ?_ ?_
  ·
   rintro _ _ sx3 hx3 ⟨hp3,mf3,sf3,cf3,Zf3,he3,rfl,hF3⟩ fr9
   repeat (first | refine thenQ_p ?_ | refine blockQ_p ?_)
   refine retP_x Mk _ (List.Perm.refl _) (I1.1.t hx3) (fun sR hS2=>?_)
   exact ⟨hp3,mf3,sf3,cf3,Zf3,er_fin hq he3,rfl,hF3⟩
  rintro _ _ s3 h3 ⟨a3,m3,iv3,ov3,R3,he3,⟨rfl,hu3⟩,rfl,hM3⟩
  rw [he3] at hq
  simp only [ER.and] at hq
  refine JO_bs [(_,_)] [_] Z Z Z Z Z Z Z Z Z ?_
  intro β4 s4 h4 hc4
  refine JO_app (sz:=1) [] Mk _ Z Z Z Z Z Z Z hOk (Row.of_cells (hc4.le (Lr D)) Z Z) ⟨by simp [ti29];omega,by omega⟩ Z ?_
  intro v9 M9 s5 h5 oq
  obtain ⟨A9,c9,rfl,_,_⟩:=Own.slice oq
  simp only [List.nil_append]
  refine Zqa Z Z<|Zn<|Zb<|Zt<|Zr<|Zqadd Z Z Z (w64 O O)<|Zqm Z Z<|Zn<|?_
  refine thenQ_n ⟨⟨j+1,pre++[a3],m3,iv3,ov3,R3,_,M9⟩,[],kp,Z,⟨(I1.1.t h3|>.t h4|>.t h5),⟨by show j+1≤n1;omega,(hM3.le (h4.t h5)),by rw [wvs1,List.length_append];exact oq,by simp;omega,fun x hx=>by rcases List.mem_append.1 hx with hx | hx;exact hup x hx;cases List.mem_singleton.1 hx;exact hu3,hq⟩⟩,(by show n1 - (j+1) < n1 - j;omega)⟩
 rw [List.drop_eq_nil_of_le O,evalAll] at hq
 simp only [ER.and,List.append_nil] at hq
 refine Zl<|Zv<|Zv<|Zd<|Zt<|Zs<|JC_pubX [] Mk _ ?_
 intro s6 h6 hpub6
 simp only [cQ9,nQ9]
 have hW:=Own.wds hOk hup hpub6
 refine Zr<|Zqm Z Z<|JO_q (QE_ldsR0 Z Z Z (gc2.le (I1.1.t h6)) Z) Z<|Zqm Z Z ?_
 refine JO_callP (first:=[]) (captured:=[]) Z Z Z (AP.fr (fun L=>hK L _ c N k fk pre Av pre.length cv mk ivk ovk Rk (hC.le (I1.1.t h6)) (hW.le (Lr D)) hp O (hMk.le h6) (hq▸hr)) [] _) ?_ ?_
 ·
  rintro _ _ sx7 hx7 ⟨hp7,mf7,sf7,cf7,Zf7,he7,rfl,hF7⟩ fr9
  repeat (first | refine thenQ_p ?_ | refine blockQ_p ?_)
  refine retP_x [] _ (List.Perm.refl _) (I1.1.t h6|>.t hx7) (fun sR hS2=>?_)
  exact ⟨hp7,mf7,sf7,cf7,Zf7,hq.trans he7,rfl,hF7⟩
 rintro _ _ s7 h7 ⟨a7,m7,iv7,ov7,R7,he7,⟨rfl,hu7⟩,rfl,hM7⟩
 rw [he7] at hq
 simp only [cQ9,nQ9]
 refine At Z Z<|Zo<|?_
 refine retP_mk [] _ (.inr Z) (.tmp Z (.nil)) Z (I1.1.t h6|>.t h7) (fun sR hS2=>?_)
 exact ⟨_,m7,iv7,ov7,R7,hq,⟨rfl,hu7⟩,rfl,(hM7.le ((Lr D).t hS2))⟩
section
variable {p:Prg} {c:MC} {N:Nat} {m:MS} {iv ov:Value} {R:Hl} {s:World}
theorem set_U {l:List Int} {i:Nat} {v:Int} (h:∀ x∈l,U32 x) (hv:U32 v):∀ x∈l.set i v,U32 x:=fun x hx=>by
  rcases List.mem_or_eq_of_mem_set hx with h1 | rfl
  · exact h x h1
  · exact hv
theorem MG.setf (h:MG p c N m iv ov R s) {v:Int} (hv:U32 v) (i:Nat):MG p c N { m with frm:=m.frm.set i v } iv ov R s:=⟨h.inp,h.out,h.ug,set_U h.uf hv,h.ua,h.ng,h.lg,by rw [List.length_set];exact h.lf,h.lb,h.la,h.ar,h.lo,h.lc,h.ll,h.lN⟩
theorem MG.setg (h:MG p c N m iv ov R s) {v:Int} (hv:U32 v) (i:Nat):MG p c N { m with glo:=m.glo.set i v } iv ov R s:=⟨h.inp,h.out,set_U h.ug hv,h.uf,h.ua,h.ng,by rw [List.length_set];exact h.lg,h.lf,h.lb,h.la,h.ar,h.lo,h.lc,h.ll,h.lN⟩
end
theorem MG.arU {p:Prg} {c:MC} {N:Nat} {m:MS} {iv ov:Value} {R:Hl} {s:World} {k:Nat} {nm:Str} (hM:MG p c N m iv ov R s) (hg:gloI p nm=(k:Int)):∀ x∈arrG p nm m,U32 x:=fun x hx=>by
  rw [arrG,hg,Int.toNat_natCast,List.getD_eq_getElem?_getD] at hx
  cases hl:m.arr[k]? with
  | none=>rw [hl] at hx;cases hx
  | some l=>rw [hl] at hx;exact hM.ua l (List.mem_of_getElem? hl) x hx
theorem run_at {T:Stm→MS→ER (Int×Int)} {l:List Stm} {k:Nat} {x:Stm} (h:l[k]?=some x) (m:MS):runAll T (l.drop k) m=(T x m).and fun y m=>if y.1=0 then runAll T (l.drop (k+1)) m else .ok y m:=by
  obtain ⟨hl,rfl⟩:=List.getElem?_eq_some_iff.1 h
  rw [List.drop_eq_getElem_cons hl,runAll]
structure RG where
  k:Nat
  m:MS
  iv:Value
  ov:Value
  R:Hl
theorem run_ap (p:Prg) (D n:Nat) (hT:TOK p D n) (L:Hl) (s:World) (c:MC) (N:Nat) (f:Fnc) (d:Nat) (xs:List Stm) (m:MS) (iv ov:Value) (R:Hl) (hC:CT p c s) (hn:c.nf=f.params.length+f.locals.length) (hM:MG p c N m iv ov R s) (A:Option Addr) (n1 z1:Nat) (hA:VsS p f d s A n1 z1 xs) (hr:runAll ((sem p OPp n).t f) xs m≠.out):AP Tryz.prog D 89 [.pointer (some ⟨c.bm,0,none⟩),.slice A n1 z1] (MB c N 0 m iv ov 0 0::MGb c m::MFb c m::(R++L)) s (okE p c N (runAll ((sem p OPp n).t f) xs m) VS RS [] L) (finE c N (runAll ((sem p OPp n).t f) xs m) [] L):=by
 obtain ⟨r,hq⟩:∃ r,r=runAll ((sem p OPp n).t f) xs m:=⟨_,rfl⟩
 rw [← hq] at hr ⊢
 have hn1:=hA.1
 have hc1:=hA.2.1
 have hc2:=hA.2.2.1
 refine AP_enter (TT:=TT) (fn:=Tryz.f89) TT_ok Tryz.func89 V Z Tryz.ntmps89 Z (rs:=[.tmp 4]) Z [(0,_),(1,_)] Z<|Sr<|At Z Z<|Zs<|Sr<|Zqm Z Z<|Ws Y4<|Zqm Z Z<|Nt<|Zp<|?_
 refine JC_loop (γ:=RG) (fun g=>[(0,_),(4,_),(8,_),(9,_),(10,.int .i64 (g.k:Int))]) (fun g=>MB c N 0 g.m g.iv g.ov 0 0::MGb c g.m::MFb c g.m::(g.R++L)) (fun g tw=>Le D s tw∧(g.k≤n1∧MG p c N g.m g.iv g.ov g.R tw∧r=runAll ((sem p OPp n).t f) (xs.drop g.k) g.m)) (fun g=>n1 - g.k) (fun _ _ _ h hl=>⟨h.1.trans hl,⟨h.2.1,h.2.2.1.le hl,h.2.2.2⟩⟩) ⟨0,m,iv,ov,R⟩ (.cons Z (.cons Z (.cons Z (.cons Z (.cons Z (.nil _)))))) Z ⟨Le.refl _,⟨Nat.zero_le _,hM.le (Lr D),hq⟩⟩ ?_
 intro g s1 I1
 obtain ⟨j,mk,ivk,ovk,Rk⟩:=g
 obtain ⟨hj0,hMk,hq⟩:j≤n1∧MG p c N mk ivk ovk Rk s1∧r=runAll ((sem p OPp n).t f) (xs.drop j) mk:=I1.2
 dsimp only
 refine Sr<|Zqlt Z Z Z<|Nt<|Zs<|?_
 refine JC_ifD Z (fun c2=>?_) (fun c2=>?_)
 ·
  have hj:j < n1:=by omega
  obtain ⟨B0,o0,b0,x,hAe,hx,hcE,hvE⟩:=VsS.at_ (hA.le I1.1) hj
  subst hAe
  rw [run_at hx] at hq
  refine Zk<|Zt<|Zs<|Zp<|Sr<|JO_q (QE_ia1 Z Z Z Z Z Z hj) Z<|JO_q (QE_ldsR0 Z Z Z (hcE.le (Lr D)) Z) Z<|At Z Z<|Sr<|Zqm Z Z<|Zqm Z Z<|?_
  refine JO_callP (first:=[]) (captured:=[.pointer (some ⟨b0,0,none⟩)]) Z Z Z (AP.fr (fun L=>hT L _ c N f d x _ mk ivk ovk Rk (hC.le I1.1) hn (hvE.le (Lr D)) (hMk.le (Lr D)) (er_out hq hr)) [] _) ?_ ?_
  ·
   rintro _ _ sx3 hx3 ⟨hp3,mf3,sf3,cf3,Zf3,he3,rfl,hF3⟩ fr9
   repeat (first | refine thenQ_p ?_ | refine blockQ_p ?_)
   refine retP_x [] _ (List.Perm.refl _) (I1.1.t hx3) (fun sR hS2=>?_)
   exact ⟨hp3,mf3,sf3,cf3,Zf3,er_fin hq he3,rfl,hF3⟩
  rintro _ _ s3 h3 ⟨⟨a3,y3⟩,m3,iv3,ov3,R3,he3,⟨rfl,hu3,hz3⟩,rfl,hM3⟩
  rw [he3] at hq
  simp only [ER.and] at hq
  simp only [cQ9,nQ9]
  refine At Z Z<|Sr<|Zqm Z Z<|Zqne Z Z Z<|Nt<|?_
  refine JC_ifN Z (fun c4=>?_) (fun c4=>?_)
  ·
   rw [if_neg c4] at hq
   refine Sr<|Zqm Z Z<|At Z Z<|Zo<|Zc<|Zu<|Zu<|Zc<|Zu<|?_
   refine retP_mk [] _ (.inr Z) (.tmp Z (.nil)) Z (I1.1.t h3) (fun sR hS2=>?_)
   first
     | (exact ⟨(_,_),m3,iv3,ov3,R3,hq,⟨rfl,hu3,hz3⟩,rfl,(hM3.le ((Lr D).t hS2))⟩)
     | (exact ⟨(0,0),m3,iv3,ov3,R3,hq,⟨rfl,⟨by decide,by decide⟩,fun _=>rfl⟩,rfl,(hM3.le ((Lr D).t hS2))⟩)
  rw [if_pos c4] at hq
  have hz9:=hz3 O
  simp only [RS] at *
  rw [hz9]
  refine Zk<|Zb<|Zt<|Zr<|Zqadd Z Z Z (w64 O O)<|Zqm Z Z<|Zn<|?_
  refine thenQ_n ⟨⟨j+1,m3,iv3,ov3,R3⟩,[],kp,Z,⟨(I1.1.t h3),⟨by show j+1≤n1;omega,(hM3.le (Lr D)),hq⟩⟩,(by show n1 - (j+1) < n1 - j;omega)⟩
 rw [List.drop_eq_nil_of_le O,runAll] at hq
 refine Zl<|Zv<|Zv<|Zd<|Zt<|Sr<|At Z Z<|Zo<|?_
 refine retP_mk [] _ (.inr Z) (.tmp Z (.nil)) Z I1.1 (fun sR hS2=>?_)
 first
   | (exact ⟨(_,_),mk,ivk,ovk,Rk,hq,⟨rfl,hu0,hz0⟩,rfl,(hMk.le ((Lr D).t hS2))⟩)
   | (exact ⟨(0,0),mk,ivk,ovk,Rk,hq,⟨rfl,⟨by decide,by decide⟩,fun _=>rfl⟩,rfl,(hMk.le ((Lr D).t hS2))⟩)
theorem setl_ap (p:Prg) (D n:Nat) (hE:EOK p D n) (L:Hl) (s:World) (c:MC) (N:Nat) (f:Fnc) (d:Nat) (x:Stm) (m:MS) (iv ov:Value) (R:Hl) (hC:CT p c s) (hn:c.nf=f.params.length+f.locals.length) (hM:MG p c N m iv ov R s) (b1 b2 b4:Nat) (hk:x.kind=1) (h0:0≤slotP f x.name) (hl:slotP f x.name < ((f.params.length+f.locals.length:Nat):Int)) (gc1:CellsAt s b1 0 [.func (.func 123) #[] #[.pointer (some ⟨b4,0,none⟩)]]) (gc2:CellsAt s b2 0 [.int .i64 (slotP f x.name)]) (hv:VeR p f d s (argE x.exprs 0) [.func (.func 123) #[] #[.pointer (some ⟨b4,0,none⟩)]]) (hr:sX p (sem p OPp n) f x m≠.out):AP Tryz.prog D 125 [.pointer (some ⟨c.bm,0,none⟩),.pointer (some ⟨b1,0,none⟩),.pointer (some ⟨b2,0,none⟩)] (MB c N 0 m iv ov 0 0::MGb c m::MFb c m::(R++L)) s (okE p c N (sX p (sem p OPp n) f x m) VS RS [] L) (finE c N (sX p (sem p OPp n) f x m) [] L):=by
 obtain ⟨r,hq⟩:∃ r,r=sX p (sem p OPp n) f x m:=⟨_,rfl⟩
 rw [← hq] at hr ⊢
 rw [sX,if_pos hk] at hq
 have hl3:slotP f x.name < (c.nf:Int):=by rw [hn];exact hl
 refine AP_enter (TT:=TT) (fn:=Tryz.f125) TT_ok Tryz.func125 V Z Tryz.ntmps125 Z (rs:=[.tmp 4]) Z [(0,_),(1,_),(2,_)] Z<|Sr<|At Z Z<|Zs<|JC_draw drawsMixed 10 Z ([]:Hl) (fun x hx=>by cases hx) ?_
 intro s1 h1
 refine za 0 Z (QE_mv Z) Z<|za 1 Z (QE_nil Z) Z<|za 2 Z (We Y4) Z<|za 4 Z (QE_ldsR0 Z Z Z (gc2.le h1) Z) Z<|za 5 Z (QE_ldsR0 Z Z Z (gc1.le h1) Z) Z<|za 6 Z (QE_mv Z) Z ?_
 refine JA_2 3 7 V ?_ ?_
 ·
  refine JB_q Z trivial (Wd 0 Y5) Z<|JA_1 7 V ?_
  refine JB_callP Z trivial (first:=[]) (captured:=[.pointer (some ⟨b4,0,none⟩)]) Z Z Z (AP.fr (fun L=>hE L _ c N f d (argE x.exprs 0) _ m iv ov R (hC.le h1) hn (hv.le h1) (hM.le h1) (er_out hq hr)) [] _) ?_ ?_
  ·
   rintro _ _ sx2 hx2 ⟨hp2,mf2,sf2,cf2,Zf2,he2,rfl,hF2⟩ fr9
   repeat (first | refine thenQ_p ?_ | refine blockQ_p ?_)
   refine retP_x [] _ (List.Perm.refl _) (h1.t hx2) (fun sR hS2=>?_)
   exact ⟨hp2,mf2,sf2,cf2,Zf2,er_fin hq he2,rfl,hF2⟩
  rintro _ _ s2 h2 ⟨a2,m2,iv2,ov2,R2,he2,⟨rfl,hu2⟩,rfl,hM2⟩
  refine ⟨(fun x hx=>by cases hx),?_⟩
  rw [he2] at hq
  simp only [ER.and] at hq
  simp only [cQ9,nQ9]
  rw [setV,if_pos h0] at hq
  have hlf:slotP f x.name < (m2.frm.length:Int):=by rw [hM2.lf];exact hl3
  refine za 8 Z (QE_iaS Z Z Z Z Z Z h0 hl3) Z<|JA_1 9 V<|JB_st Z trivial 2 _ Z Z Z Z Z (ble_w0 h0 hlf) Z (spl_w0 _ h0 hlf) Z (fun x hx=>by cases hx)<|JA_done V<|Zt<|Sr<|At Z Z<|Zo<|?_
  refine retP_mk [] _ (.inr Z) (.tmp Z (.nil)) Z (h1.t h2) (fun sR hS2=>?_)
  exact ⟨(0,0),{ m2 with frm:=m2.frm.set (slotP f x.name).toNat a2 },iv2,ov2,R2,hq,⟨rfl,⟨by decide,by decide⟩,fun _=>rfl⟩,rfl,((hM2.setf hu2 _).le ((Lr D).t hS2))⟩
 refine JB_callP Z trivial (first:=[]) (captured:=[.pointer (some ⟨b4,0,none⟩)]) Z Z Z (AP.fr (fun L=>hE L _ c N f d (argE x.exprs 0) _ m iv ov R (hC.le h1) hn (hv.le h1) (hM.le h1) (er_out hq hr)) [] _) ?_ ?_
 ·
  rintro _ _ sx4 hx4 ⟨hp4,mf4,sf4,cf4,Zf4,he4,rfl,hF4⟩ fr9
  repeat (first | refine thenQ_p ?_ | refine blockQ_p ?_)
  refine retP_x [] _ (List.Perm.refl _) (h1.t hx4) (fun sR hS2=>?_)
  exact ⟨hp4,mf4,sf4,cf4,Zf4,er_fin hq he4,rfl,hF4⟩
 rintro _ _ s4 h4 ⟨a4,m4,iv4,ov4,R4,he4,⟨rfl,hu4⟩,rfl,hM4⟩
 refine ⟨(fun x hx=>by cases hx),?_⟩
 rw [he4] at hq
 simp only [ER.and] at hq
 simp only [cQ9,nQ9]
 rw [setV,if_pos h0] at hq
 have hlf:slotP f x.name < (m4.frm.length:Int):=by rw [hM4.lf];exact hl3
 refine JA_1 3 V<|JB_q Z trivial (Wd 0 Y5) Z<|za 8 Z (QE_iaS Z Z Z Z Z Z h0 hl3) Z<|JA_1 9 V<|JB_st Z trivial 2 _ Z Z Z Z Z (ble_w0 h0 hlf) Z (spl_w0 _ h0 hlf) Z (fun x hx=>by cases hx)<|JA_done V<|Zt<|Sr<|At Z Z<|Zo<|?_
 refine retP_mk [] _ (.inr Z) (.tmp Z (.nil)) Z (h1.t h4) (fun sR hS2=>?_)
 exact ⟨(0,0),{ m4 with frm:=m4.frm.set (slotP f x.name).toNat a4 },iv4,ov4,R4,hq,⟨rfl,⟨by decide,by decide⟩,fun _=>rfl⟩,rfl,((hM4.setf hu4 _).le ((Lr D).t hS2))⟩
theorem setg_ap (p:Prg) (D n:Nat) (hE:EOK p D n) (L:Hl) (s:World) (c:MC) (N:Nat) (f:Fnc) (d:Nat) (x:Stm) (m:MS) (iv ov:Value) (R:Hl) (hC:CT p c s) (hn:c.nf=f.params.length+f.locals.length) (hM:MG p c N m iv ov R s) (b1 b2 b4 k:Nat) (g:Glo) (hk:x.kind=1) (hs:¬ 0≤slotP f x.name) (hg:gloI p x.name=(k:Int)) (hp:p.globals[k]?=some g) (gc1:CellsAt s b1 0 [.func (.func 123) #[] #[.pointer (some ⟨b4,0,none⟩)]]) (gc2:CellsAt s b2 0 [.int .i64 (k:Int)]) (hv:VeR p f d s (argE x.exprs 0) [.func (.func 123) #[] #[.pointer (some ⟨b4,0,none⟩)]]) (hr:sX p (sem p OPp n) f x m≠.out):AP Tryz.prog D 126 [.pointer (some ⟨c.bm,0,none⟩),.pointer (some ⟨b1,0,none⟩),.pointer (some ⟨b2,0,none⟩)] (MB c N 0 m iv ov 0 0::MGb c m::MFb c m::(R++L)) s (okE p c N (sX p (sem p OPp n) f x m) VS RS [] L) (finE c N (sX p (sem p OPp n) f x m) [] L):=by
 obtain ⟨r,hq⟩:∃ r,r=sX p (sem p OPp n) f x m:=⟨_,rfl⟩
 rw [← hq] at hr ⊢
 rw [sX,if_pos hk] at hq
 have hkl:=(List.getElem?_eq_some_iff.1 hp).1
 have hl3:(k:Int) < (c.ng:Int):=by rw [hM.ng];omega
 have h0:(0:Int)≤(k:Int):=by omega
 refine AP_enter (TT:=TT) (fn:=Tryz.f126) TT_ok Tryz.func126 V Z Tryz.ntmps126 Z (rs:=[.tmp 4]) Z [(0,_),(1,_),(2,_)] Z<|Sr<|At Z Z<|Zs<|JC_draw drawsMixed 10 Z ([]:Hl) (fun x hx=>by cases hx) ?_
 intro s1 h1
 refine za 0 Z (QE_mv Z) Z<|za 1 Z (QE_nil Z) Z<|za 2 Z (We Y4) Z<|za 4 Z (QE_ldsR0 Z Z Z (gc2.le h1) Z) Z<|za 5 Z (QE_ldsR0 Z Z Z (gc1.le h1) Z) Z<|za 6 Z (QE_mv Z) Z ?_
 refine JA_2 3 7 V ?_ ?_
 ·
  refine JB_q Z trivial (Wd 0 Y5) Z<|JA_1 7 V ?_
  refine JB_callP Z trivial (first:=[]) (captured:=[.pointer (some ⟨b4,0,none⟩)]) Z Z Z (AP.fr (fun L=>hE L _ c N f d (argE x.exprs 0) _ m iv ov R (hC.le h1) hn (hv.le h1) (hM.le h1) (er_out hq hr)) [] _) ?_ ?_
  ·
   rintro _ _ sx2 hx2 ⟨hp2,mf2,sf2,cf2,Zf2,he2,rfl,hF2⟩ fr9
   repeat (first | refine thenQ_p ?_ | refine blockQ_p ?_)
   refine retP_x [] _ (List.Perm.refl _) (h1.t hx2) (fun sR hS2=>?_)
   exact ⟨hp2,mf2,sf2,cf2,Zf2,er_fin hq he2,rfl,hF2⟩
  rintro _ _ s2 h2 ⟨a2,m2,iv2,ov2,R2,he2,⟨rfl,hu2⟩,rfl,hM2⟩
  refine ⟨(fun x hx=>by cases hx),?_⟩
  rw [he2] at hq
  simp only [ER.and] at hq
  simp only [cQ9,nQ9]
  rw [setV,if_neg hs,hg] at hq
  have hlf:(k:Int) < (m2.glo.length:Int):=by rw [hM2.lg];exact hl3
  refine za 8 Z (QE_iaS Z Z Z Z Z Z h0 hl3) Z<|JA_1 9 V<|JB_st Z trivial 1 _ Z Z Z Z Z (ble_w0 h0 hlf) Z (spl_w0 _ h0 hlf) Z (fun x hx=>by cases hx)<|JA_done V<|Zt<|Sr<|At Z Z<|Zo<|?_
  refine retP_mk [] _ (.inr Z) (.tmp Z (.nil)) Z (h1.t h2) (fun sR hS2=>?_)
  exact ⟨(0,0),{ m2 with glo:=m2.glo.set (k:Int).toNat a2 },iv2,ov2,R2,hq,⟨rfl,⟨by decide,by decide⟩,fun _=>rfl⟩,rfl,((hM2.setg hu2 _).le ((Lr D).t hS2))⟩
 refine JB_callP Z trivial (first:=[]) (captured:=[.pointer (some ⟨b4,0,none⟩)]) Z Z Z (AP.fr (fun L=>hE L _ c N f d (argE x.exprs 0) _ m iv ov R (hC.le h1) hn (hv.le h1) (hM.le h1) (er_out hq hr)) [] _) ?_ ?_
 ·
  rintro _ _ sx4 hx4 ⟨hp4,mf4,sf4,cf4,Zf4,he4,rfl,hF4⟩ fr9
  repeat (first | refine thenQ_p ?_ | refine blockQ_p ?_)
  refine retP_x [] _ (List.Perm.refl _) (h1.t hx4) (fun sR hS2=>?_)
  exact ⟨hp4,mf4,sf4,cf4,Zf4,er_fin hq he4,rfl,hF4⟩
 rintro _ _ s4 h4 ⟨a4,m4,iv4,ov4,R4,he4,⟨rfl,hu4⟩,rfl,hM4⟩
 refine ⟨(fun x hx=>by cases hx),?_⟩
 rw [he4] at hq
 simp only [ER.and] at hq
 simp only [cQ9,nQ9]
 rw [setV,if_neg hs,hg] at hq
 have hlf:(k:Int) < (m4.glo.length:Int):=by rw [hM4.lg];exact hl3
 refine JA_1 3 V<|JB_q Z trivial (Wd 0 Y5) Z<|za 8 Z (QE_iaS Z Z Z Z Z Z h0 hl3) Z<|JA_1 9 V<|JB_st Z trivial 1 _ Z Z Z Z Z (ble_w0 h0 hlf) Z (spl_w0 _ h0 hlf) Z (fun x hx=>by cases hx)<|JA_done V<|Zt<|Sr<|At Z Z<|Zo<|?_
 refine retP_mk [] _ (.inr Z) (.tmp Z (.nil)) Z (h1.t h4) (fun sR hS2=>?_)
 exact ⟨(0,0),{ m4 with glo:=m4.glo.set (k:Int).toNat a4 },iv4,ov4,R4,hq,⟨rfl,⟨by decide,by decide⟩,fun _=>rfl⟩,rfl,((hM4.setg hu4 _).le ((Lr D).t hS2))⟩
theorem store_ap (p:Prg) (D n:Nat) (hE:EOK p D n) (L:Hl) (s:World) (c:MC) (N:Nat) (f:Fnc) (d:Nat) (x:Stm) (m:MS) (iv ov:Value) (R:Hl) (hC:CT p c s) (hn:c.nf=f.params.length+f.locals.length) (hM:MG p c N m iv ov R s) (b1 b2 k:Nat) (g:Glo) (A:Option Addr) (n1 z1:Nat) (hk:x.kind=2) (hg:gloI p x.name=(k:Int)) (hp:p.globals[k]?=some g) (gc3:g.kind=3) (gc1:CellsAt s b1 0 [.int .i64 (k:Int)]) (gc2:CellsAt s b2 0 [.slice A n1 z1]) (hA:VeS p f d s A n1 z1 x.exprs) (h1n:1 < n1) (hr:sX p (sem p OPp n) f x m≠.out):AP Tryz.prog D 86 [.pointer (some ⟨c.bm,0,none⟩),.pointer (some ⟨b1,0,none⟩),.pointer (some ⟨b2,0,none⟩)] (MB c N 0 m iv ov 0 0::MGb c m::MFb c m::(R++L)) s (okE p c N (sX p (sem p OPp n) f x m) VS RS [] L) (finE c N (sX p (sem p OPp n) f x m) [] L):=by
 obtain ⟨r,hq⟩:∃ r,r=sX p (sem p OPp n) f x m:=⟨_,rfl⟩
 rw [← hq] at hr ⊢
 rw [sX_store hk] at hq
 have h0n:0 < n1:=by omega
 obtain ⟨B0,o0,b0,rfl,hcE,hvE⟩:=VeS.at_ hA h0n
 obtain ⟨B1,o1,b4,hAe,hcF,hvF⟩:=VeS.at_ hA h1n
 simp only [Option.some.injEq,Addr.mk.injEq,and_true] at hAe
 obtain ⟨hAe1,hAe2⟩:=hAe
 subst hAe1
 subst hAe2
 obtain ⟨ba,hab,hca,hla,hkn⟩:=hM.ary hC hp gc3 hg
 refine AP_enter (TT:=TT) (fn:=Tryz.f86) TT_ok Tryz.func86 V Z Tryz.ntmps86 Z (rs:=[.tmp 4]) Z [(0,_),(1,_),(2,_)] Z<|Sr<|At Z Z<|Zs<|JC_draw drawsMixed 7 Z ([]:Hl) (fun x hx=>by cases hx) ?_
 intro s1 h1
 refine za 0 Z (QE_mv Z) Z<|za 1 Z (QE_ldsR0 Z Z Z (gc1.le h1) Z) Z<|za 2 Z (QE_ldsR0 Z Z Z (gc2.le h1) Z) Z<|za 3 Z (QE_ia1 Z Z Z Z Z Z h0n) Z<|za 4 Z (QE_ldsR0 Z Z Z (hcE.le h1) Z) Z<|JA_1 5 V ?_
 refine JB_callP Z trivial (first:=[]) (captured:=[]) Z Z Z (AP.fr (fun L=>index_ap p D n hE L _ c N f d (argE x.exprs 0) x.name k b0 g m iv ov R (hC.le h1) hn (hM.le h1) hg hp gc3 (hvE.le h1) (er_out hq hr)) [] _) ?_ ?_
 ·
  rintro _ _ sx2 hx2 ⟨hp2,mf2,sf2,cf2,Zf2,he2,rfl,hF2⟩ fr9
  repeat (first | refine thenQ_p ?_ | refine blockQ_p ?_)
  refine retP_x [] _ (List.Perm.refl _) (h1.t hx2) (fun sR hS2=>?_)
  exact ⟨hp2,mf2,sf2,cf2,Zf2,er_fin hq he2,rfl,hF2⟩
 rintro _ _ s2 h2 ⟨a2,m2,iv2,ov2,R2,he2,⟨rfl,hu2⟩,rfl,hM2⟩
 refine ⟨(fun x hx=>by cases hx),?_⟩
 rw [he2] at hq
 simp only [ER.and] at hq
 simp only [cQ9,nQ9]
 have hia:=iX_ok he2
 have hui:=hu2
 have hlo:=hu2.1
 obtain ⟨_,_,_,hla1,_⟩:=hM2.ary (hC.le (h1.t h2)) hp gc3 hg
 refine za 6 Z (QE_as Z) Z<|JA_done V<|Zt<|Zs<|JC_draw drawsMixed 15 Z ([]:Hl) (fun x hx=>by cases hx) ?_
 intro s3 h3
 refine za 0 Z (QE_mv Z) Z<|za 1 Z (QE_nil Z) Z<|za 2 Z (We Y4) Z<|za 4 Z (QE_ldsR0 Z Z Z (gc1.le (h1.t h2|>.t h3)) Z) Z<|za 7 Z (QE_mv Z) Z<|za 8 Z (QE_ldsR0 Z Z Z (gc2.le (h1.t h2|>.t h3)) Z) Z<|za 9 Z (QE_ia1 Z Z Z Z Z Z h1n) Z<|za 10 Z (QE_ldsR0 Z Z Z (hcF.le (h1.t h2|>.t h3)) Z) Z<|za 11 Z (QE_mv Z) Z ?_
 refine JA_2 3 12 V ?_ ?_
 ·
  refine JB_q Z trivial (Wd 0 Y5) Z<|za 5 Z (QE_ia1 Z Z Z Z Z Z hkn) Z<|za 6 Z (QE_ldsR0 Z Z Z (hca.le (h1.t h2|>.t h3)) Z) Z<|JA_1 12 V ?_
  refine JB_callP Z trivial (first:=[]) (captured:=[.pointer (some ⟨b4,0,none⟩)]) Z Z Z (AP.fr (fun L=>hE L _ c N f d (argE x.exprs 1) _ m2 iv2 ov2 R2 (hC.le (h1.t h2|>.t h3)) hn (hvF.le (h1.t h2|>.t h3)) (hM2.le h3) (er_out hq hr)) [] _) ?_ ?_
  ·
   rintro _ _ sx4 hx4 ⟨hp4,mf4,sf4,cf4,Zf4,he4,rfl,hF4⟩ fr9
   repeat (first | refine thenQ_p ?_ | refine blockQ_p ?_)
   refine retP_x [] _ (List.Perm.refl _) (h1.t h2|>.t h3|>.t hx4) (fun sR hS2=>?_)
   exact ⟨hp4,mf4,sf4,cf4,Zf4,er_fin hq he4,rfl,hF4⟩
  rintro _ _ s4 h4 ⟨a4,m4,iv4,ov4,R4,he4,⟨rfl,hu4⟩,rfl,hM4⟩
  refine ⟨(fun x hx=>by cases hx),?_⟩
  rw [he4] at hq
  simp only [ER.and] at hq
  simp only [cQ9,nQ9]
  obtain ⟨_,_,_,hla2,_⟩:=hM4.ary (hC.le (h1.t h2|>.t h3|>.t h4)) hp gc3 hg
  obtain ⟨i,hbi,hset⟩:=hM4.blk hab hkn hg (MB c N 0 m4 iv4 ov4 0 0) (MGb c m4) (MFb c m4) L
  rw [hg,Int.toNat_natCast] at hq
  refine za 13 Z (QE_iaS Z Z Z Z Z Z hlo (show a2 < ((g.num.toNat:Nat):Int) by omega)) Z<|JA_1 14 V ?_
  obtain ⟨R9,hs9,hM9⟩:=hset ((arrG p x.name m4).set a2.toNat a4)
  have hM9:=hM9 _ (hM4.le (Lr D)) (by rw [List.length_set]) (set_U (hM4.arU hg) hu4)
  refine JB_st Z trivial (i+3) _ Z Z hbi Z Z (ble_w0 hlo O) Z (spl_w0 _ hlo O) hs9 (fun x hx=>by cases hx)<|JA_done V<|Zt<|Sr<|At Z Z<|Zo<|?_
  refine retP_mk [] _ (.inr Z) (.tmp Z (.nil)) Z (h1.t h2|>.t h3|>.t h4) (fun sR hS2=>?_)
  exact ⟨(0,0),{ m4 with arr:=m4.arr.set k ((arrG p x.name m4).set a2.toNat a4) },iv4,ov4,R9,hq,⟨rfl,⟨by decide,by decide⟩,fun _=>rfl⟩,rfl,(hM9.le ((Lr D).t hS2))⟩
 refine JB_callP Z trivial (first:=[]) (captured:=[.pointer (some ⟨b4,0,none⟩)]) Z Z Z (AP.fr (fun L=>hE L _ c N f d (argE x.exprs 1) _ m2 iv2 ov2 R2 (hC.le (h1.t h2|>.t h3)) hn (hvF.le (h1.t h2|>.t h3)) (hM2.le h3) (er_out hq hr)) [] _) ?_ ?_
 ·
  rintro _ _ sx6 hx6 ⟨hp6,mf6,sf6,cf6,Zf6,he6,rfl,hF6⟩ fr9
  repeat (first | refine thenQ_p ?_ | refine blockQ_p ?_)
  refine retP_x [] _ (List.Perm.refl _) (h1.t h2|>.t h3|>.t hx6) (fun sR hS2=>?_)
  exact ⟨hp6,mf6,sf6,cf6,Zf6,er_fin hq he6,rfl,hF6⟩
 rintro _ _ s6 h6 ⟨a6,m6,iv6,ov6,R6,he6,⟨rfl,hu6⟩,rfl,hM6⟩
 refine ⟨(fun x hx=>by cases hx),?_⟩
 rw [he6] at hq
 simp only [ER.and] at hq
 simp only [cQ9,nQ9]
 obtain ⟨_,_,_,hla2,_⟩:=hM6.ary (hC.le (h1.t h2|>.t h3|>.t h6)) hp gc3 hg
 obtain ⟨i,hbi,hset⟩:=hM6.blk hab hkn hg (MB c N 0 m6 iv6 ov6 0 0) (MGb c m6) (MFb c m6) L
 rw [hg,Int.toNat_natCast] at hq
 refine JA_1 3 V<|JB_q Z trivial (Wd 0 Y5) Z<|za 5 Z (QE_ia1 Z Z Z Z Z Z hkn) Z<|za 6 Z (QE_ldsR0 Z Z Z (hca.le (h1.t h2|>.t h3)) Z) Z<|za 13 Z (QE_iaS Z Z Z Z Z Z hlo (show a2 < ((g.num.toNat:Nat):Int) by omega)) Z<|JA_1 14 V ?_
 obtain ⟨R9,hs9,hM9⟩:=hset ((arrG p x.name m6).set a2.toNat a6)
 have hM9:=hM9 _ (hM6.le (Lr D)) (by rw [List.length_set]) (set_U (hM6.arU hg) hu6)
 refine JB_st Z trivial (i+3) _ Z Z hbi Z Z (ble_w0 hlo O) Z (spl_w0 _ hlo O) hs9 (fun x hx=>by cases hx)<|JA_done V<|Zt<|Sr<|At Z Z<|Zo<|?_
 refine retP_mk [] _ (.inr Z) (.tmp Z (.nil)) Z (h1.t h2|>.t h3|>.t h6) (fun sR hS2=>?_)
 exact ⟨(0,0),{ m6 with arr:=m6.arr.set k ((arrG p x.name m6).set a2.toNat a6) },iv6,ov6,R9,hq,⟨rfl,⟨by decide,by decide⟩,fun _=>rfl⟩,rfl,(hM9.le ((Lr D).t hS2))⟩
theorem cond_ap (p:Prg) (D n:Nat) (hE:EOK p D n) (hT:TOK p D n) (L:Hl) (s:World) (c:MC) (N:Nat) (f:Fnc) (d:Nat) (x:Stm) (m:MS) (iv ov:Value) (R:Hl) (hC:CT p c s) (hn:c.nf=f.params.length+f.locals.length) (hM:MG p c N m iv ov R s) (b1 b2 b3:Nat) (A:Option Addr) (n1 z1:Nat) (B:Option Addr) (n2 z2:Nat) (G:Option Addr) (n3 z3:Nat) (hk:x.kind=3) (gc1:CellsAt s b1 0 [.slice A n1 z1]) (gc2:CellsAt s b2 0 [.slice B n2 z2]) (gc3:CellsAt s b3 0 [.slice G n3 z3]) (hA:VeS p f d s A n1 z1 x.exprs) (h0n:0 < n1) (hB:VsS p f d s B n2 z2 x.body) (hG:VsS p f d s G n3 z3 x.els) (hr:sX p (sem p OPp n) f x m≠.out):AP Tryz.prog D 88 [.pointer (some ⟨c.bm,0,none⟩),.pointer (some ⟨b1,0,none⟩),.pointer (some ⟨b2,0,none⟩),.pointer (some ⟨b3,0,none⟩)] (MB c N 0 m iv ov 0 0::MGb c m::MFb c m::(R++L)) s (okE p c N (sX p (sem p OPp n) f x m) VS RS [] L) (finE c N (sX p (sem p OPp n) f x m) [] L):=by
 obtain ⟨r,hq⟩:∃ r,r=sX p (sem p OPp n) f x m:=⟨_,rfl⟩
 rw [← hq] at hr ⊢
 rw [sX,if_neg O,if_neg O,if_pos hk] at hq
 obtain ⟨B0,o0,b0,rfl,hcE,hvE⟩:=VeS.at_ hA h0n
 refine AP_enter (TT:=TT) (fn:=Tryz.f88) TT_ok Tryz.func88 V Z Tryz.ntmps88 Z (rs:=[.tmp 5]) Z [(0,_),(1,_),(2,_),(3,_)] Z<|Sr<|At Z Z<|Zs<|Sr<|JO_q (QE_ldsR0 Z Z Z (gc1.le (Lr D)) Z) Z<|JO_q (QE_ia1 Z Z Z Z Z Z h0n) Z<|JO_q (QE_ldsR0 Z Z Z (hcE.le (Lr D)) Z) Z<|Zqm Z Z ?_
 refine JO_callP (first:=[]) (captured:=[.pointer (some ⟨b0,0,none⟩)]) Z Z Z (AP.fr (fun L=>hE L _ c N f d (argE x.exprs 0) _ m iv ov R (hC.le (Lr D)) hn (hvE.le (Lr D)) (hM.le (Lr D)) (er_out hq hr)) [] _) ?_ ?_
 ·
  rintro _ _ sx1 hx1 ⟨hp1,mf1,sf1,cf1,Zf1,he1,rfl,hF1⟩ fr9
  repeat (first | refine thenQ_p ?_ | refine blockQ_p ?_)
  refine retP_x [] _ (List.Perm.refl _) hx1 (fun sR hS2=>?_)
  exact ⟨hp1,mf1,sf1,cf1,Zf1,er_fin hq he1,rfl,hF1⟩
 rintro _ _ s1 h1 ⟨a1,m1,iv1,ov1,R1,he1,⟨rfl,hu1⟩,rfl,hM1⟩
 rw [he1] at hq
 simp only [ER.and] at hq
 simp only [cQ9,nQ9]
 refine Zqne Z Z Z<|Nt<|?_
 refine JC_ifN Z (fun c2=>?_) (fun c2=>?_)
 ·
  rw [if_pos c2] at hq
  refine Sr<|Zqm Z Z<|JO_q (QE_ldsR0 Z Z Z (gc2.le h1) Z) Z ?_
  refine JO_callP (first:=[]) (captured:=[]) Z Z Z (AP.fr (fun L=>run_ap p D n hT L _ c N f d x.body m1 iv1 ov1 R1 (hC.le h1) hn (hM1.le (Lr D)) B n2 z2 (hB.le h1) (hq▸hr)) [] _) ?_ ?_
  ·
   rintro _ _ sx3 hx3 ⟨hp3,mf3,sf3,cf3,Zf3,he3,rfl,hF3⟩ fr9
   repeat (first | refine thenQ_p ?_ | refine blockQ_p ?_)
   refine retP_x [] _ (List.Perm.refl _) (h1.t hx3) (fun sR hS2=>?_)
   exact ⟨hp3,mf3,sf3,cf3,Zf3,hq.trans he3,rfl,hF3⟩
  rintro _ _ s3 h3 ⟨a3,m3,iv3,ov3,R3,he3,⟨rfl,hu3,hz3⟩,rfl,hM3⟩
  rw [he3] at hq
  simp only [cQ9,nQ9]
  refine At Z Z<|Zo<|Zu<|?_
  refine retP_mk [] _ (.inr Z) (.tmp Z (.nil)) Z (h1.t h3) (fun sR hS2=>?_)
  exact ⟨_,m3,iv3,ov3,R3,hq,⟨rfl,hu3,hz3⟩,rfl,(hM3.le ((Lr D).t hS2))⟩
 rw [if_neg (by simpa using c2)] at hq
 refine Zk<|Zt<|Sr<|Zqm Z Z<|JO_q (QE_ldsR0 Z Z Z (gc3.le h1) Z) Z ?_
 refine JO_callP (first:=[]) (captured:=[]) Z Z Z (AP.fr (fun L=>run_ap p D n hT L _ c N f d x.els m1 iv1 ov1 R1 (hC.le h1) hn (hM1.le (Lr D)) G n3 z3 (hG.le h1) (hq▸hr)) [] _) ?_ ?_
 ·
  rintro _ _ sx4 hx4 ⟨hp4,mf4,sf4,cf4,Zf4,he4,rfl,hF4⟩ fr9
  repeat (first | refine thenQ_p ?_ | refine blockQ_p ?_)
  refine retP_x [] _ (List.Perm.refl _) (h1.t hx4) (fun sR hS2=>?_)
  exact ⟨hp4,mf4,sf4,cf4,Zf4,hq.trans he4,rfl,hF4⟩
 rintro _ _ s4 h4 ⟨a4,m4,iv4,ov4,R4,he4,⟨rfl,hu4,hz4⟩,rfl,hM4⟩
 rw [he4] at hq
 simp only [cQ9,nQ9]
 refine At Z Z<|Zo<|?_
 refine retP_mk [] _ (.inr Z) (.tmp Z (.nil)) Z (h1.t h4) (fun sR hS2=>?_)
 exact ⟨_,m4,iv4,ov4,R4,hq,⟨rfl,hu4,hz4⟩,rfl,(hM4.le ((Lr D).t hS2))⟩
theorem sX_loop {p:Prg} {S:Sem} {f:Fnc} {x:Stm} {m:MS} (hk:x.kind=4):sX p S f x m=S.w f (argE x.exprs 0) x.body m:=by
  rw [sX,if_neg O,if_neg O,if_neg O,if_pos hk]
theorem sX_call {p:Prg} {S:Sem} {f:Fnc} {x:Stm} {m:MS} (hk:x.kind=5):sX p S f x m=((evalAll (S.e f) x.exprs m).and fun vs m=>S.c (calI p x.name).toNat vs m).and fun _ m=>.ok (0,0) m:=by
  rw [sX,if_neg O,if_neg O,if_neg O,if_neg O,if_pos hk,ER.and_assoc]
theorem MG.put {p:Prg} {c:MC} {N:Nat} {m:MS} {iv ov:Value} {R:Hl} {s:World} (h:MG p c N m iv ov R s) {b:UInt8} {ov':Value} {Mo:Hl} (hl:m.out.length < 20000) (hO:FL.Own 5 1 Mo ov' (m.out++[b]).length (bv (m.out++[b]))):MG p c N { m with out:=m.out++[b] } iv ov' (arrL c.ab m.arr++Mo) s:=⟨h.inp,⟨Mo,rfl,hO⟩,h.ug,h.uf,h.ua,h.ng,h.lg,h.lf,h.lb,h.la,h.ar,by simp;omega,h.lc,h.ll,h.lN⟩
theorem bvs1 (w:List UInt8) (x:UInt8):bv (w++[x])=bv w++[.int .u8 (x.toNat:Int)]:=by simp [bv]
structure WG where
  j:Nat
  m:MS
  iv:Value
  ov:Value
  R:Hl
theorem loop_ap (p:Prg) (D n:Nat) (ihE:∀ j,j≤n→EOK p D j) (ihT:∀ j,j≤n→TOK p D j) (L:Hl) (s:World) (c:MC) (N:Nat) (f:Fnc) (d:Nat) (x:Stm) (m:MS) (iv ov:Value) (R:Hl) (hC:CT p c s) (hn:c.nf=f.params.length+f.locals.length) (hM:MG p c N m iv ov R s) (b1 b2:Nat) (A:Option Addr) (n1 z1:Nat) (B:Option Addr) (n2 z2:Nat) (hk:x.kind=4) (gc1:CellsAt s b1 0 [.slice A n1 z1]) (gc2:CellsAt s b2 0 [.slice B n2 z2]) (hA:VeS p f d s A n1 z1 x.exprs) (h0n:0 < n1) (hB:VsS p f d s B n2 z2 x.body) (hr:sX p (sem p OPp n) f x m≠.out):AP Tryz.prog D 90 [.pointer (some ⟨c.bm,0,none⟩),.pointer (some ⟨b1,0,none⟩),.pointer (some ⟨b2,0,none⟩)] (MB c N 0 m iv ov 0 0::MGb c m::MFb c m::(R++L)) s (okE p c N (sX p (sem p OPp n) f x m) VS RS [] L) (finE c N (sX p (sem p OPp n) f x m) [] L):=by
 obtain ⟨r,hq⟩:∃ r,r=sX p (sem p OPp n) f x m:=⟨_,rfl⟩
 rw [← hq] at hr ⊢
 rw [sX_loop hk] at hq
 obtain ⟨B0,o0,b0,rfl,hcE,hvE⟩:=VeS.at_ hA h0n
 refine AP_enter (TT:=TT) (fn:=Tryz.f90) TT_ok Tryz.func90 V Z Tryz.ntmps90 Z (rs:=[.tmp 4]) Z [(0,_),(1,_),(2,_)] Z<|Sr<|At Z Z<|Zs<|Zp<|?_
 refine JC_loop (γ:=WG) (fun g=>[(0,_),(1,_),(2,_),(4,_)]) (fun g=>MB c N 0 g.m g.iv g.ov 0 0::MGb c g.m::MFb c g.m::(g.R++L)) (fun g tw=>Le D s tw∧(g.j≤n∧MG p c N g.m g.iv g.ov g.R tw∧r=(sem p OPp g.j).w f (argE x.exprs 0) x.body g.m)) (fun g=>g.j) (fun _ _ _ h hl=>⟨h.1.trans hl,⟨h.2.1,h.2.2.1.le hl,h.2.2.2⟩⟩) ⟨n,m,iv,ov,R⟩ (.cons Z (.cons Z (.cons Z (.cons Z (.nil _))))) Z ⟨Le.refl _,⟨Nat.le_refl _,hM.le (Lr D),hq⟩⟩ ?_
 intro g s1 I1
 obtain ⟨j,mk,ivk,ovk,Rk⟩:=g
 obtain ⟨hj0,hMk,hq⟩:j≤n∧MG p c N mk ivk ovk Rk s1∧r=(sem p OPp j).w f (argE x.exprs 0) x.body mk:=I1.2
 dsimp only
 obtain ⟨j,rfl⟩:∃ i,j=i+1:=by
   cases j with
   | zero=>exact absurd hq hr
   | succ i=>exact ⟨i,rfl⟩
 change r=wX (sem p OPp j) f (argE x.exprs 0) x.body mk at hq
 rw [wX] at hq
 have hE:=ihE j O
 have hT:=ihT j O
 refine Zs<|Sr<|JO_q (QE_ldsR0 Z Z Z (gc1.le I1.1) Z) Z<|JO_q (QE_ia1 Z Z Z Z Z Z h0n) Z<|JO_q (QE_ldsR0 Z Z Z (hcE.le I1.1) Z) Z<|Zqm Z Z ?_
 refine JO_callP (first:=[]) (captured:=[.pointer (some ⟨b0,0,none⟩)]) Z Z Z (AP.fr (fun L=>hE L _ c N f d (argE x.exprs 0) _ mk ivk ovk Rk (hC.le I1.1) hn (hvE.le I1.1) (hMk.le (Lr D)) (er_out hq hr)) [] _) ?_ ?_
 ·
  rintro _ _ sx2 hx2 ⟨hp2,mf2,sf2,cf2,Zf2,he2,rfl,hF2⟩ fr9
  repeat (first | refine thenQ_p ?_ | refine blockQ_p ?_)
  refine retP_x [] _ (List.Perm.refl _) (I1.1.t hx2) (fun sR hS2=>?_)
  exact ⟨hp2,mf2,sf2,cf2,Zf2,er_fin hq he2,rfl,hF2⟩
 rintro _ _ s2 h2 ⟨a2,m2,iv2,ov2,R2,he2,⟨rfl,hu2⟩,rfl,hM2⟩
 rw [he2] at hq
 simp only [ER.and] at hq
 simp only [cQ9,nQ9]
 refine Zqne Z Z Z<|Nt<|?_
 refine JC_ifN Z (fun c3=>?_) (fun c3=>?_)
 ·
  rw [if_neg c3] at hq
  refine Zk<|Zt<|Zp<|Sr<|Zqm Z Z<|JO_q (QE_ldsR0 Z Z Z (gc2.le (I1.1.t h2)) Z) Z ?_
  refine JO_callP (first:=[]) (captured:=[]) Z Z Z (AP.fr (fun L=>run_ap p D j hT L _ c N f d x.body m2 iv2 ov2 R2 (hC.le (I1.1.t h2)) hn (hM2.le (Lr D)) B n2 z2 (hB.le (I1.1.t h2)) (er_out hq hr)) [] _) ?_ ?_
  ·
   rintro _ _ sx4 hx4 ⟨hp4,mf4,sf4,cf4,Zf4,he4,rfl,hF4⟩ fr9
   repeat (first | refine thenQ_p ?_ | refine blockQ_p ?_)
   refine retP_x [] _ (List.Perm.refl _) (I1.1.t h2|>.t hx4) (fun sR hS2=>?_)
   exact ⟨hp4,mf4,sf4,cf4,Zf4,er_fin hq he4,rfl,hF4⟩
  rintro _ _ s4 h4 ⟨⟨a4,y4⟩,m4,iv4,ov4,R4,he4,⟨rfl,hu4,hz4⟩,rfl,hM4⟩
  rw [he4] at hq
  simp only [ER.and] at hq
  simp only [cQ9,nQ9]
  refine At Z Z<|Sr<|Zqm Z Z<|Zqeq Z Z Z<|Nt<|?_
  refine JC_ifD Z (fun c5=>?_) (fun c5=>?_)
  ·
   rw [if_pos c5] at hq
   have hz9:=hz4 O
   simp only [RS] at *
   rw [hz9]
   refine Zl<|Ze Z<|Zv<|Zd<|Zt<|Sr<|At Z Z<|Zo<|?_
   refine retP_mk [] _ (.inr Z) (.tmp Z (.nil)) Z (I1.1.t h2|>.t h4) (fun sR hS2=>?_)
   first
     | (exact ⟨(_,_),m4,iv4,ov4,R4,hq,⟨rfl,hu4,hz4⟩,rfl,(hM4.le ((Lr D).t hS2))⟩)
     | (exact ⟨(0,0),m4,iv4,ov4,R4,hq,⟨rfl,⟨by decide,by decide⟩,fun _=>rfl⟩,rfl,(hM4.le ((Lr D).t hS2))⟩)
  rw [if_neg c5] at hq
  refine Sr<|Zqm Z Z<|Zqeq Z Z Z<|Nt<|?_
  refine JC_ifD Z (fun c6=>?_) (fun c6=>?_)
  ·
   rw [if_pos c6] at hq
   refine Sr<|Zqm Z Z<|At Z Z<|Zo<|Zc<|Zu<|Zc<|Zu<|?_
   refine retP_mk [] _ (.inr Z) (.tmp Z (.nil)) Z (I1.1.t h2|>.t h4) (fun sR hS2=>?_)
   first
     | (exact ⟨(_,_),m4,iv4,ov4,R4,hq,⟨rfl,hu4,hz4⟩,rfl,(hM4.le ((Lr D).t hS2))⟩)
     | (exact ⟨(0,0),m4,iv4,ov4,R4,hq,⟨rfl,⟨by decide,by decide⟩,fun _=>rfl⟩,rfl,(hM4.le ((Lr D).t hS2))⟩)
  rw [if_neg c6] at hq
  have hz9:=hz4 O
  simp only [RS] at *
  rw [hz9]
  refine Zk<|Zb<|?_
  refine thenQ_n ⟨⟨j,m4,iv4,ov4,R4⟩,[],kp,Z,⟨(I1.1.t h2|>.t h4),⟨by show j≤n;omega,(hM4.le (Lr D)),hq⟩⟩,(by show j < j+1;omega)⟩
 rw [if_pos (by simpa using c3)] at hq
 refine Zl<|Zv<|Zv<|Zd<|Zt<|Sr<|At Z Z<|Zo<|?_
 refine retP_mk [] _ (.inr Z) (.tmp Z (.nil)) Z (I1.1.t h2) (fun sR hS2=>?_)
 first
   | (exact ⟨(_,_),m2,iv2,ov2,R2,hq,⟨rfl,hu2,hz2⟩,rfl,(hM2.le ((Lr D).t hS2))⟩)
   | (exact ⟨(0,0),m2,iv2,ov2,R2,hq,⟨rfl,⟨by decide,by decide⟩,fun _=>rfl⟩,rfl,(hM2.le ((Lr D).t hS2))⟩)
theorem scall_ap (p:Prg) (D n:Nat) (hE:EOK p D n) (L:Hl) (s:World) (c:MC) (N:Nat) (f:Fnc) (d:Nat) (x:Stm) (m:MS) (iv ov:Value) (R:Hl) (hC:CT p c s) (hn:c.nf=f.params.length+f.locals.length) (hM:MG p c N m iv ov R s) (hK:COK p D n) (b1 be bi k:Nat) (fk:Fnc) (A:Option Addr) (n1 z1:Nat) (hk:x.kind=5) (gc1:CellsAt s b1 0 [.func (.func 130) #[] #[.pointer (some ⟨be,0,none⟩),.pointer (some ⟨bi,0,none⟩)]]) (he:CellsAt s be 0 [.slice A n1 z1]) (hi:CellsAt s bi 0 [.int .i64 (k:Int)]) (hA:VeS p f d s A n1 z1 x.exprs) (hg:calI p x.name=(k:Int)) (hp:p.funcs[k]?=some fk) (hl:x.exprs.length=fk.params.length) (hr:sX p (sem p OPp n) f x m≠.out):AP Tryz.prog D 92 [.pointer (some ⟨c.bm,0,none⟩),.pointer (some ⟨b1,0,none⟩)] (MB c N 0 m iv ov 0 0::MGb c m::MFb c m::(R++L)) s (okE p c N (sX p (sem p OPp n) f x m) VS RS [] L) (finE c N (sX p (sem p OPp n) f x m) [] L):=by
 obtain ⟨r,hq⟩:∃ r,r=sX p (sem p OPp n) f x m:=⟨_,rfl⟩
 rw [← hq] at hr ⊢
 rw [sX_call hk,hg,Int.toNat_natCast] at hq
 refine AP_enter (TT:=TT) (fn:=Tryz.f92) TT_ok Tryz.func92 V Z Tryz.ntmps92 Z (rs:=[.tmp 3]) Z [(0,_),(1,_)] Z<|Sr<|At Z Z<|Sr<|JO_q (QE_ldsR0 Z Z Z (gc1.le (Lr D)) Z) Z<|Zqm Z Z ?_
 refine JO_callP (first:=[]) (captured:=[.pointer (some ⟨be,0,none⟩),.pointer (some ⟨bi,0,none⟩)]) Z Z Z (AP.fr (fun L=>callc_ap p D n hE L _ c N f d x.exprs m iv ov R (hC.le (Lr D)) hn (hM.le (Lr D)) hK be bi k fk A n1 z1 (he.le (Lr D)) (hi.le (Lr D)) (hA.le (Lr D)) hp hl (er_out hq hr)) [] _) ?_ ?_
 ·
  rintro _ _ sx1 hx1 ⟨hp1,mf1,sf1,cf1,Zf1,he1,rfl,hF1⟩ fr9
  repeat (first | refine thenQ_p ?_ | refine blockQ_p ?_)
  refine retP_x [] _ (List.Perm.refl _) hx1 (fun sR hS2=>?_)
  exact ⟨hp1,mf1,sf1,cf1,Zf1,er_fin hq he1,rfl,hF1⟩
 rintro _ _ s1 h1 ⟨a1,m1,iv1,ov1,R1,he1,⟨rfl,hu1⟩,rfl,hM1⟩
 rw [he1] at hq
 simp only [ER.and] at hq
 simp only [cQ9,nQ9]
 refine Nt<|Sr<|At Z Z<|Zo<|?_
 refine retP_mk [] _ (.inr Z) (.tmp Z (.nil)) Z h1 (fun sR hS2=>?_)
 exact ⟨(0,0),m1,iv1,ov1,R1,hq,⟨rfl,⟨by decide,by decide⟩,fun _=>rfl⟩,rfl,(hM1.le ((Lr D).t hS2))⟩
theorem ret_ap (p:Prg) (D n:Nat) (hE:EOK p D n) (L:Hl) (s:World) (c:MC) (N:Nat) (f:Fnc) (d:Nat) (x:Stm) (m:MS) (iv ov:Value) (R:Hl) (hC:CT p c s) (hn:c.nf=f.params.length+f.locals.length) (hM:MG p c N m iv ov R s) (b1:Nat) (A:Option Addr) (n1 z1:Nat) (hk:x.kind=6) (gc1:CellsAt s b1 0 [.slice A n1 z1]) (hA:VeS p f d s A n1 z1 x.exprs) (h0n:0 < n1) (hr:sX p (sem p OPp n) f x m≠.out):AP Tryz.prog D 93 [.pointer (some ⟨c.bm,0,none⟩),.pointer (some ⟨b1,0,none⟩)] (MB c N 0 m iv ov 0 0::MGb c m::MFb c m::(R++L)) s (okE p c N (sX p (sem p OPp n) f x m) VS RS [] L) (finE c N (sX p (sem p OPp n) f x m) [] L):=by
 obtain ⟨r,hq⟩:∃ r,r=sX p (sem p OPp n) f x m:=⟨_,rfl⟩
 rw [← hq] at hr ⊢
 rw [sX,if_neg O,if_neg O,if_neg O,if_neg O,if_neg O,if_pos hk] at hq
 obtain ⟨B0,o0,b0,rfl,hcE,hvE⟩:=VeS.at_ hA h0n
 refine AP_enter (TT:=TT) (fn:=Tryz.f93) TT_ok Tryz.func93 V Z Tryz.ntmps93 Z (rs:=[.tmp 3]) Z [(0,_),(1,_)] Z<|Sr<|At Z Z<|Sr<|Zqm Z Z<|JO_q (QE_ldsR0 Z Z Z (gc1.le (Lr D)) Z) Z<|JO_q (QE_ia1 Z Z Z Z Z Z h0n) Z<|JO_q (QE_ldsR0 Z Z Z (hcE.le (Lr D)) Z) Z<|Zqm Z Z ?_
 refine JO_callP (first:=[]) (captured:=[.pointer (some ⟨b0,0,none⟩)]) Z Z Z (AP.fr (fun L=>hE L _ c N f d (argE x.exprs 0) _ m iv ov R (hC.le (Lr D)) hn (hvE.le (Lr D)) (hM.le (Lr D)) (er_out hq hr)) [] _) ?_ ?_
 ·
  rintro _ _ sx1 hx1 ⟨hp1,mf1,sf1,cf1,Zf1,he1,rfl,hF1⟩ fr9
  repeat (first | refine thenQ_p ?_ | refine blockQ_p ?_)
  refine retP_x [] _ (List.Perm.refl _) hx1 (fun sR hS2=>?_)
  exact ⟨hp1,mf1,sf1,cf1,Zf1,er_fin hq he1,rfl,hF1⟩
 rintro _ _ s1 h1 ⟨a1,m1,iv1,ov1,R1,he1,⟨rfl,hu1⟩,rfl,hM1⟩
 rw [he1] at hq
 simp only [ER.and] at hq
 simp only [cQ9,nQ9]
 refine Zqni Z Z<|Wb Y5<|Wt 0 [_,_,_,_,_,_,_,_,_,_,_,_] Y9<|Nt<|Sr<|At Z Z<|Zo<|?_
 refine retP_mk [] _ (.inr Z) (.tmp Z (.nil)) Z h1 (fun sR hS2=>?_)
 exact ⟨(3,a1),m1,iv1,ov1,R1,hq,⟨rfl,hu1,fun h=>absurd rfl h⟩,rfl,(hM1.le ((Lr D).t hS2))⟩
theorem put_ap (p:Prg) (D n:Nat) (hE:EOK p D n) (L:Hl) (s:World) (c:MC) (N:Nat) (f:Fnc) (d:Nat) (x:Stm) (m:MS) (iv ov:Value) (R:Hl) (hC:CT p c s) (hn:c.nf=f.params.length+f.locals.length) (hM:MG p c N m iv ov R s) (b1:Nat) (A:Option Addr) (n1 z1:Nat) (hk:x.kind=7) (gc1:CellsAt s b1 0 [.slice A n1 z1]) (hA:VeS p f d s A n1 z1 x.exprs) (h0n:0 < n1) (hr:sX p (sem p OPp n) f x m≠.out):AP Tryz.prog D 94 [.pointer (some ⟨c.bm,0,none⟩),.pointer (some ⟨b1,0,none⟩)] (MB c N 0 m iv ov 0 0::MGb c m::MFb c m::(R++L)) s (okE p c N (sX p (sem p OPp n) f x m) VS RS [] L) (finE c N (sX p (sem p OPp n) f x m) [] L):=by
 obtain ⟨r,hq⟩:∃ r,r=sX p (sem p OPp n) f x m:=⟨_,rfl⟩
 rw [← hq] at hr ⊢
 rw [sX,if_neg O,if_neg O,if_neg O,if_neg O,if_neg O,if_neg O,if_pos hk] at hq
 obtain ⟨B0,o0,b0,rfl,hcE,hvE⟩:=VeS.at_ hA h0n
 refine AP_enter (TT:=TT) (fn:=Tryz.f94) TT_ok Tryz.func94 V Z Tryz.ntmps94 Z (rs:=[.tmp 3]) Z [(0,_),(1,_)] Z<|Sr<|At Z Z<|Sr<|JO_q (QE_ldsR0 Z Z Z (gc1.le (Lr D)) Z) Z<|JO_q (QE_ia1 Z Z Z Z Z Z h0n) Z<|JO_q (QE_ldsR0 Z Z Z (hcE.le (Lr D)) Z) Z<|Zqm Z Z ?_
 refine JO_callP (first:=[]) (captured:=[.pointer (some ⟨b0,0,none⟩)]) Z Z Z (AP.fr (fun L=>hE L _ c N f d (argE x.exprs 0) _ m iv ov R (hC.le (Lr D)) hn (hvE.le (Lr D)) (hM.le (Lr D)) (er_out hq hr)) [] _) ?_ ?_
 ·
  rintro _ _ sx1 hx1 ⟨hp1,mf1,sf1,cf1,Zf1,he1,rfl,hF1⟩ fr9
  repeat (first | refine thenQ_p ?_ | refine blockQ_p ?_)
  refine retP_x [] _ (List.Perm.refl _) hx1 (fun sR hS2=>?_)
  exact ⟨hp1,mf1,sf1,cf1,Zf1,er_fin hq he1,rfl,hF1⟩
 rintro _ _ s1 h1 ⟨a1,m1,iv1,ov1,R1,he1,⟨rfl,hu1⟩,rfl,hM1⟩
 rw [he1] at hq
 simp only [ER.and] at hq
 simp only [cQ9,nQ9]
 obtain ⟨Mo,hR,hO⟩:=hM1.out
 obtain ⟨Ao,co,hov,_,_⟩:=Own.slice hO
 subst hov
 subst hR
 refine At Z Z<|Zs<|Sr<|Zqm Z Z<|Zqni Z Z<|Wb Y5<|W0 Y5<|Wl 0 Y6<|Ws Y4<|Zqge Z Z Z<|Nt<|?_
 refine JC_ifD Z (fun c2=>?_) (fun c2=>?_)
 ·
  have q9:=c2
  refine Zr<|Zqm Z Z<|?_
  refine JO_callP (first:=[]) (captured:=[]) Z Z Z (mstop_fr D [] _ _ c N _ m1 iv1 _ _ _) ?_ ?_
  ·
   rintro _ _ sx3 hx3 ⟨hp3,rfl⟩ fr9
   repeat (first | refine thenQ_p ?_ | refine blockQ_p ?_)
   refine retP_x [] _ (List.Perm.refl _) (h1.t hx3) (fun sR hS2=>?_)
   exact ⟨hp3,m1,_,_,_,by rw [hq,if_pos O],rfl,((hM1.le hx3).fin _ _ _)⟩
  rintro _ _ s3 h3 ⟨⟩
 have q9:=c2
 rw [if_neg O] at hq
 refine Zk<|Zt<|Sr<|Zqm Z Z<|Zqm Z Z<|Zqni Z Z<|Wb Y5<|W0 Y5<|Wl 0 Y6<|Zqm Z Z<|JO_q (QE_cast (QE_conv Z Z Z Z Z) (congrArg (Value.int .u8) (u8w hu1))) Z<|JO_bs [(_,_)] [_] Z Z Z Z Z Z Z Z Z ?_
 intro β4 s4 h4 hc4
 refine JO_app (sz:=1) (MB c N 0 m1 iv1 _ 0 0::MGb c m1::MFb c m1::arrL c.ab m1.arr) Mo L (by rw [List.append_assoc];rfl) Z Z Z Z Z Z hO (Row.of_cells (hc4.le (Lr D)) Z Z) ⟨by simp [ti5];omega,by omega⟩ Z ?_
 intro v9 M9 s5 h5 oq
 obtain ⟨A9,q9,rfl,_,_⟩:=Own.slice oq
 rw [← bvs1] at oq
 simp only [List.cons_append]
 rw [← List.append_assoc]
 refine Zqni Z Z<|Wb Y5<|W0 Y5<|Wt 0 [_,_,_,_,_,_,_,_,_,_,_,_] Y9<|Nt<|Sr<|At Z Z<|Zo<|?_
 refine retP_mk [] _ (.inr Z) (.tmp Z (.nil)) Z (h1.t h4|>.t h5) (fun sR hS2=>?_)
 exact ⟨(0,0),{ m1 with out:=m1.out++[UInt8.ofNat a1.toNat] },iv1,_,(arrL c.ab m1.arr++M9),hq,⟨rfl,⟨by decide,by decide⟩,fun _=>rfl⟩,rfl,((hM1.put O (by rw [List.length_append];exact oq)).le (h4.t h5|>.t hS2))⟩
theorem sstop_ap (p:Prg) (D n:Nat) (hE:EOK p D n) (L:Hl) (s:World) (c:MC) (N:Nat) (f:Fnc) (d:Nat) (x:Stm) (m:MS) (iv ov:Value) (R:Hl) (hC:CT p c s) (hn:c.nf=f.params.length+f.locals.length) (hM:MG p c N m iv ov R s) (b1:Nat) (A:Option Addr) (n1 z1:Nat) (hk:x.kind=8) (gc1:CellsAt s b1 0 [.slice A n1 z1]) (hA:VeS p f d s A n1 z1 x.exprs) (h0n:0 < n1) (hr:sX p (sem p OPp n) f x m≠.out):AP Tryz.prog D 95 [.pointer (some ⟨c.bm,0,none⟩),.pointer (some ⟨b1,0,none⟩)] (MB c N 0 m iv ov 0 0::MGb c m::MFb c m::(R++L)) s (okE p c N (sX p (sem p OPp n) f x m) VS RS [] L) (finE c N (sX p (sem p OPp n) f x m) [] L):=by
 obtain ⟨r,hq⟩:∃ r,r=sX p (sem p OPp n) f x m:=⟨_,rfl⟩
 rw [← hq] at hr ⊢
 rw [sX,if_neg O,if_neg O,if_neg O,if_neg O,if_neg O,if_neg O,if_neg O,if_pos hk] at hq
 obtain ⟨B0,o0,b0,rfl,hcE,hvE⟩:=VeS.at_ hA h0n
 refine AP_enter (TT:=TT) (fn:=Tryz.f95) TT_ok Tryz.func95 V Z Tryz.ntmps95 Z (rs:=[.tmp 3]) Z [(0,_),(1,_)] Z<|Sr<|At Z Z<|Sr<|Zqm Z Z<|JO_q (QE_ldsR0 Z Z Z (gc1.le (Lr D)) Z) Z<|JO_q (QE_ia1 Z Z Z Z Z Z h0n) Z<|JO_q (QE_ldsR0 Z Z Z (hcE.le (Lr D)) Z) Z<|Zqm Z Z ?_
 refine JO_callP (first:=[]) (captured:=[.pointer (some ⟨b0,0,none⟩)]) Z Z Z (AP.fr (fun L=>hE L _ c N f d (argE x.exprs 0) _ m iv ov R (hC.le (Lr D)) hn (hvE.le (Lr D)) (hM.le (Lr D)) (er_out hq hr)) [] _) ?_ ?_
 ·
  rintro _ _ sx1 hx1 ⟨hp1,mf1,sf1,cf1,Zf1,he1,rfl,hF1⟩ fr9
  repeat (first | refine thenQ_p ?_ | refine blockQ_p ?_)
  refine retP_x [] _ (List.Perm.refl _) hx1 (fun sR hS2=>?_)
  exact ⟨hp1,mf1,sf1,cf1,Zf1,er_fin hq he1,rfl,hF1⟩
 rintro _ _ s1 h1 ⟨a1,m1,iv1,ov1,R1,he1,⟨rfl,hu1⟩,rfl,hM1⟩
 rw [he1] at hq
 simp only [ER.and] at hq
 simp only [cQ9,nQ9]
 refine JO_callP (first:=[]) (captured:=[]) Z Z Z (mstop_fr D [] _ _ c N _ m1 iv1 ov1 _ _) ?_ ?_
 ·
  rintro _ _ sx2 hx2 ⟨hp2,rfl⟩ fr9
  repeat (first | refine thenQ_p ?_ | refine blockQ_p ?_)
  refine retP_x [] _ (List.Perm.refl _) (h1.t hx2) (fun sR hS2=>?_)
  exact ⟨hp2,m1,_,_,_,hq,rfl,((hM1.le hx2).fin _ _ _)⟩
 rintro _ _ s2 h2 ⟨⟩
theorem brk_ap (p:Prg) (D n:Nat) (L:Hl) (s:World) (c:MC) (N:Nat) (f:Fnc) (d:Nat) (x:Stm) (m:MS) (iv ov:Value) (R:Hl) (hC:CT p c s) (hn:c.nf=f.params.length+f.locals.length) (hM:MG p c N m iv ov R s) (hk:x.kind=9):AP Tryz.prog D 96 [.pointer (some ⟨c.bm,0,none⟩)] (MB c N 0 m iv ov 0 0::MGb c m::MFb c m::(R++L)) s (okE p c N (sX p (sem p OPp n) f x m) VS RS [] L) (finE c N (sX p (sem p OPp n) f x m) [] L):=by
 refine AP_enter (TT:=TT) (fn:=Tryz.f96) TT_ok Tryz.func96 V Z Tryz.ntmps96 Z (rs:=[.tmp 2]) Z [(0,_)] Z<|Sr<|At Z Z<|Sr<|At Z Z<|Zo<|?_
 refine retP_mk [] _ (.inr Z) (.tmp Z (.nil)) Z (Lr D) (fun sR hS2=>?_)
 exact ⟨(1,0),m,iv,ov,R,by rw [sX,if_neg O,if_neg O,if_neg O,if_neg O,if_neg O,if_neg O,if_neg O,if_neg O,if_pos hk],⟨rfl,⟨by decide,by decide⟩,fun _=>rfl⟩,rfl,hM.le ((Lr D).t hS2)⟩
theorem cont_ap (p:Prg) (D n:Nat) (L:Hl) (s:World) (c:MC) (N:Nat) (f:Fnc) (d:Nat) (x:Stm) (m:MS) (iv ov:Value) (R:Hl) (hC:CT p c s) (hn:c.nf=f.params.length+f.locals.length) (hM:MG p c N m iv ov R s) (hk:x.kind=10):AP Tryz.prog D 97 [.pointer (some ⟨c.bm,0,none⟩)] (MB c N 0 m iv ov 0 0::MGb c m::MFb c m::(R++L)) s (okE p c N (sX p (sem p OPp n) f x m) VS RS [] L) (finE c N (sX p (sem p OPp n) f x m) [] L):=by
 refine AP_enter (TT:=TT) (fn:=Tryz.f97) TT_ok Tryz.func97 V Z Tryz.ntmps97 Z (rs:=[.tmp 2]) Z [(0,_)] Z<|Sr<|At Z Z<|Sr<|At Z Z<|Zo<|?_
 refine retP_mk [] _ (.inr Z) (.tmp Z (.nil)) Z (Lr D) (fun sR hS2=>?_)
 exact ⟨(2,0),m,iv,ov,R,by rw [sX,if_neg O,if_neg O,if_neg O,if_neg O,if_neg O,if_neg O,if_neg O,if_neg O,if_neg O],⟨rfl,⟨by decide,by decide⟩,fun _=>rfl⟩,rfl,hM.le ((Lr D).t hS2)⟩
def Ck {α:Type} (m:MS):ER α→Prop
  | .ok _ m1=>m1.calls=m.calls
  | _=>True
theorem Ck.and {α β:Type} {m:MS} {r:ER α} {k:α→MS→ER β} (h:Ck m r) (hk:∀ a m1,Ck m1 (k a m1)):Ck m (r.and k):=by
  cases r with
  | out=>trivial
  | fin m1 st cd=>trivial
  | ok a m1=>
    have h2:=hk a m1
    have h3:m1.calls=m.calls:=h
    show Ck m (k a m1)
    cases hr:k a m1 with
    | out=>trivial
    | fin m2 st cd=>trivial
    | ok b m2=>rw [hr] at h2;exact (show m2.calls=m1.calls from h2).trans h3
theorem ck_all {E:Ex→MS→ER Int} (hE:∀ x m,Ck m (E x m)):∀ (l:List Ex) (m:MS),Ck m (evalAll E l m)
  | [],m=>by rw [evalAll];exact rfl
  | x::r,m=>by rw [evalAll];exact (hE x m).and fun v m1=>(ck_all hE r m1).and fun _ _=>rfl
theorem ck_run {T:Stm→MS→ER (Int×Int)} (hT:∀ x m,Ck m (T x m)):∀ (l:List Stm) (m:MS),Ck m (runAll T l m)
  | [],m=>by rw [runAll];exact rfl
  | x::r,m=>by
    rw [runAll]
    refine (hT x m).and fun y m1=>?_
    split
    · exact ck_run hT r m1
    · exact rfl
theorem ck_sem {p:Prg} {OP:Int→Int→Int→Option Int}:∀ n,(∀ f x m,Ck m ((sem p OP n).e f x m))∧(∀ i vs m,Ck m ((sem p OP n).c i vs m))∧(∀ f x m,Ck m ((sem p OP n).t f x m))∧∀ f c b m,Ck m ((sem p OP n).w f c b m)
  | 0=>⟨fun _ _ _=>trivial,fun _ _ _=>trivial,fun _ _ _=>trivial,fun _ _ _ _=>trivial⟩
  | n+1=>by
    obtain ⟨hE,hC,hT,hW⟩:=ck_sem (p:=p) (OP:=OP) n
    have hR:=fun f=>ck_run (T:=(sem p OP n).t f) (hT f)
    have hS:∀ m:MS,Ck m (stpM m):=fun m=>by unfold stpM;split;exact trivial;exact rfl
    refine ⟨fun f x m=>(hS m).and fun _ m=>?_,fun i vs m=>?_,fun f x m=>(hS m).and fun _ m=>?_,fun f c b m=>?_⟩
    · unfold vX
      split;exact rfl
      split;exact rfl
      split
      · exact (hE _ _ _).and fun i m=>by split;exact trivial;exact rfl
      split
      · exact (ck_all (hE f) _ _).and fun vs m=>hC _ _ _
      split
      · unfold getI;split <;> exact rfl
      split
      · exact (hE _ _ _).and fun a m=>rfl
      · refine (hE _ _ _).and fun a m=>?_
        split;exact rfl
        split;exact rfl
        refine (hE _ _ _).and fun b m=>?_
        split;exact rfl;exact trivial
    · show Ck m (cX p (sem p OP n) i vs m)
      unfold cX
      split
      · trivial
      · generalize runAll ((sem p OP n).t (p.funcs.getD i fn0)) (p.funcs.getD i fn0).body _=r
        cases r <;> first | trivial | rfl
    · unfold sX
      split
      · refine (hE _ _ _).and fun v m=>?_
        unfold setV;split <;> exact rfl
      split
      · refine (hE _ _ _).and fun i m=>?_
        split;exact trivial
        exact (hE _ _ _).and fun v m=>rfl
      split
      · refine (hE _ _ _).and fun v m=>?_
        split;exact hR f _ _;exact hR f _ _
      split
      · exact hW _ _ _ _
      split
      · exact (ck_all (hE f) _ _).and fun vs m=>(hC _ _ _).and fun _ m=>rfl
      split
      · exact (hE _ _ _).and fun v m=>rfl
      split
      · refine (hE _ _ _).and fun v m=>?_
        split;exact trivial;exact rfl
      split
      · exact (hE _ _ _).and fun v m=>trivial
      split;exact rfl;exact rfl
    · show Ck m (wX (sem p OP n) f c b m)
      unfold wX
      refine (hE _ _ _).and fun v m=>?_
      split;exact rfl
      refine (hR f _ _).and fun y m=>?_
      split;exact rfl
      split;exact rfl
      exact hW _ _ _ _
theorem ck_of {p:Prg} {OP:Int→Int→Int→Option Int} {n:Nat} {f:Fnc} {l:List Stm} {m m1:MS} {a:Int×Int} (h:runAll ((sem p OP n).t f) l m=.ok a m1):m1.calls=m.calls:=by
  have:=ck_run (T:=(sem p OP n).t f) ((ck_sem (p:=p) (OP:=OP) n).2.2.1 f) l m
  rw [h] at this;exact this
theorem CT.at_ {p:Prg} {c:MC} {s:World} {k:Nat} {fk:Fnc} (h:CT p c s) (hp:p.funcs[k]?=some fk):∃ b off d A n q,c.Af=some ⟨b,off,none⟩∧k < c.nF∧CellsAt s b (off+k * 2) [.int .i64 ((fk.params.length+fk.locals.length:Nat):Int),.slice A n q]∧VsS p fk d s A n q fk.body:=by
  obtain ⟨b,off,cs,h1,h2,_,d,A,n,q,rfl,h4⟩:=h.fn.2.2.2 k fk hp
  exact ⟨b,off,d,A,n,q,h1,by rw [h.fn.1];exact (List.getElem?_eq_some_iff.1 hp).1,h2,h4⟩
theorem fit_eq {vs:List Int} {sz:Nat} (h:vs.length≤sz):wv vs++(List.replicate sz (Value.int .u32 0)).drop vs.length=wv (fitF sz vs):=by
  rw [List.drop_replicate,fitF,List.take_of_length_le h,wv,wv,List.map_append,List.map_replicate]
theorem fit_len {vs:List Int} {sz:Nat} (h:vs.length≤sz):(fitF sz vs).length=sz:=by
  rw [fitF,List.length_append,List.length_take,List.length_replicate];omega
theorem fit_U {vs:List Int} {sz:Nat} (h:∀ x∈vs,U32 x):∀ x∈fitF sz vs,U32 x:=fun x hx=>by
  rcases List.mem_append.1 hx with hx | hx
  · exact h x (List.mem_of_mem_take hx)
  · rw [List.mem_replicate] at hx;rw [hx.2];exact ⟨by decide,by decide⟩
theorem MG.call {p:Prg} {c:MC} {N:Nat} {m:MS} {iv ov:Value} {R:Hl} {s:World} (h:MG p c N m iv ov R s) {l:List Int} {bf nf:Nat} (hl:l.length=nf) (hu:∀ x∈l,U32 x) (hc:¬ m.calls=100):MG p (c.wf bf nf) N { m with frm:=l,calls:=m.calls+1 } iv ov R s:=⟨h.inp,h.out,h.ug,hu,h.ua,h.ng,h.lg,hl,h.lb,h.la,h.ar,h.lo,by have:=h.lc;show m.calls+1≤100;omega,h.ll,h.lN⟩
theorem MG.back {p:Prg} {c:MC} {bf nf N:Nat} {m m0:MS} {iv ov:Value} {R:Hl} {s:World} (h:MG p (c.wf bf nf) N m iv ov R s) {iv0 ov0:Value} {R0:Hl} {s0:World} (h0:MG p c N m0 iv0 ov0 R0 s0):MG p c N { m with frm:=m0.frm,calls:=m0.calls } iv ov R s:=⟨h.inp,h.out,h.ug,h0.uf,h.ua,h.ng,h.lg,h0.lf,h.lb,h.la,h.ar,h.lo,h0.lc,h.ll,h.lN⟩
theorem CT.wf {p:Prg} {c:MC} {s:World} (h:CT p c s) (bf nf:Nat):CT p (c.wf bf nf) s:=⟨h.fn,h.ar,h.fs,h.gu⟩
theorem pm52 {a x y:Nat×Obj} {L:Hl}:(a::x::y::L).Perm (x::y::a::L):=(List.Perm.swap x a _).trans ((List.Perm.swap y a _).cons x)
theorem pm53 {a x y:Nat×Obj} {L:Hl}:(x::y::a::L).Perm (a::x::y::L):=pm52.symm
theorem pm54 {x y z:Nat×Obj} {R L:Hl}:(x::y::z::(R++L)).Perm (x::y::(R++z::L)):=((List.perm_middle (l₁:=R) (a:=z) (l₂:=L)).symm.cons y).cons x
theorem AP.perm {D:Nat} {f:FuncId} {args:List Value} {L L1:Hl} {s:World} {R R':Value→Hl→World→Prop} {X X':List PanicEntry→Hl→World→Prop} (hp:L.Perm L1) (h:AP Tryz.prog D f args L1 s R X) (hq:∀ v L1' s',R v L1' s'→∃ L',L1'.Perm L'∧R' v L' s') (hx:∀ ch L1' s',X ch L1' s'→∃ L',L1'.Perm L'∧X' ch L' s'):AP Tryz.prog D f args L s R' X':=
  ⟨h.1,fun ho=>by
    rw [fill_perm hp _ ho]
    refine (h.2 (ho.perm hp)).mono ?_
    rintro e w' ⟨L1',s',hw,hok,hl,hr⟩
    rcases hr with ⟨v,he,hr⟩ | ⟨ch,he,hr⟩
    · obtain ⟨L',h1,h2⟩:=hq v L1' s' hr
      exact ⟨L',s',by rw [hw,fill_perm h1 _ hok],hok.perm h1,hl,.inl ⟨v,he,h2⟩⟩
    · obtain ⟨L',h1,h2⟩:=hx ch L1' s' hr
      exact ⟨L',s',by rw [hw,fill_perm h1 _ hok],hok.perm h1,hl,.inr ⟨ch,he,h2⟩⟩⟩
def okF (p:Prg) (c:MC) (N:Nat) (fv:Value) (r:ER Int) (L:Hl) (v:Value) (L':Hl) (s':World):Prop:=∃ a m' iv ov R,r=.ok a m'∧VE a v∧L'=MBv c N 0 m' iv ov 0 0 fv::MGb c m'::(R++L)∧MG p c N m' iv ov R s'
theorem cX_eq {p:Prg} {S:Sem} {k:Nat} {fk:Fnc} (hp:p.funcs[k]?=some fk) (vs:List Int) (m:MS):cX p S k vs m=if m.calls=100 then .fin m 1 3 else (runAll (S.t fk) fk.body { m with frm:=fitF (fk.params.length+fk.locals.length) vs,calls:=m.calls+1 }).and fun y m1=>.ok (if y.1=3 then y.2 else 0) { m1 with frm:=m.frm,calls:=m.calls }:=by
  have e:p.funcs.getD k fn0=fk:=by rw [List.getD_eq_getElem?_getD,hp];rfl
  rw [cX,e]
theorem call0_ap (p:Prg) (D n:Nat) (hT:TOK p D n) (L:Hl) (s:World) (c:MC) (N k:Nat) (fk:Fnc) (vs:List Int) (A1:Option Addr) (n1 z1:Nat) (m:MS) (iv ov:Value) (F0:Option Addr) (n0 z0:Nat) (R:Hl) (hC:CT p c s) (hW:Wds s A1 n1 z1 vs) (hp:p.funcs[k]?=some fk) (hl:vs.length=fk.params.length) (hM:MG p c N m iv ov R s) (hr:cX p (sem p OPp n) k vs m≠.out):AP Tryz.prog D 52 [.pointer (some ⟨c.bm,0,none⟩),.int .i64 (k:Int),.slice A1 n1 z1] (MBv c N 0 m iv ov 0 0 (.slice F0 n0 z0)::MGb c m::(R++L)) s (okF p c N (.slice F0 n0 z0) (cX p (sem p OPp n) k vs m) L) (finE c N (cX p (sem p OPp n) k vs m) [] L):=by
 obtain ⟨r,hq⟩:∃ r,r=cX p (sem p OPp n) k vs m:=⟨_,rfl⟩
 rw [← hq] at hr ⊢
 rw [cX_eq hp] at hq
 obtain ⟨bF,oF,d,Ab,nb,cb9,hAf,hkF,hcf,hB⟩:=hC.at_ hp
 have hf9:=hC.fs fk (List.mem_of_getElem? hp)
 have hn1:=hW.1
 have hcl:=hM.lc
 have hvl:vs.length≤fk.params.length+fk.locals.length:=by omega
 subst hn1
 refine AP_enter (TT:=TT) (fn:=Tryz.f52) TT_ok Tryz.func52 V Z Tryz.ntmps52 Z (rs:=[.tmp 6]) Z [(0,_),(1,_),(2,_)] Z<|Sr<|At Z Z<|Zs<|Sr<|Zqm Z Z<|Zqni Z Z<|Wb Y5<|Wl 0 Y6<|Zqeq Z Z Z<|Nt<|?_
 refine JC_ifD Z (fun c1=>?_) (fun c1=>?_)
 ·
  have q9:=c1
  refine Zr<|Zqm Z Z<|?_
  refine JO_callP (first:=[]) (captured:=[]) Z Z Z (mstop_fr D [] _ _ c N _ m iv ov _ _) ?_ ?_
  ·
   rintro _ _ sx2 hx2 ⟨hp2,rfl⟩ fr9
   repeat (first | refine thenQ_p ?_ | refine blockQ_p ?_)
   refine retP_x [] _ (List.Perm.refl _) hx2 (fun sR hS2=>?_)
   exact ⟨hp2,m,1,3,_,by rw [hq,if_pos O],rfl,(hM.le hx2).finv _ _ _ _ [MGb c m]⟩
  rintro _ _ s2 h2 ⟨⟩
 have q9:¬ m.calls=100:=by have:=c1;omega
 rw [if_neg q9] at hq
 refine Zk<|Zt<|Sr<|Zqm Z Z<|Zqni Z Z<|W0 Y5<|JO_q (QE_cast (Wd 0 Y5) (congrArg (fun a=>Value.slice a c.nF c.cF) hAf)) Z<|Zqm Z Z<|JO_q (QE_iaN Z Z Z Z Z Z hkF) Z<|JO_q (QE_ldsA Z Z Z (hcf.le (Lr D)) Z) Z<|JO_allocZ Z [_,_] Z Z ?_
 intro β3 s3 h3
 refine Wt 0 [_,_] Y9<|Nt<|Zs<|JC_pubX [] [_] _ ?_
 intro s4 h4 hpub4
 simp only [cQ9,nQ9]
 have hc7:=hpub4 _ _ _ (List.mem_singleton.2 rfl)
  
 refine Zr<|Zqm Z Z<|Zqni Z Z<|Wb Y5<|Wl 0 Y6<|At Z Z<|Sr<|Zqm Z Z<|W0 Y5<|JO_q (QE_ldsR0 Z Z Z (hc7.le (Lr D)) Z) Z<|JO_mk (m:=fk.params.length+fk.locals.length) Z Z Z Z Z (by simp [ti29];omega) O Z ?_
 intro β s5 h5
 refine Zqni Z Z<|Wb Y5<|Wt 1 [_,_,_,_,_,_,_,_,_,_,_,_] Y9<|Nt<|Sr<|Zqm Z Z<|Zqni Z Z<|Wb Y5<|Wl 1 Y6<|Zqm Z Z<|JO_copy 0 (L':=(β,cb (wv (fitF (fk.params.length+fk.locals.length) vs)) 29)::_) Z Z Z Z Z Z Z (hW.row.le (h3.t h4|>.t h5)) hvl (by simp) (by rw [fit_eq hvl];rfl) Z<|Nt<|Zs<|JC_perm pm52<|Zr<|Zqm Z Z<|Zqni Z Z<|Wb Y5<|Wl 0 Y6<|?_
 refine JO_q (QE_cast (QE_add' Z Z (w64 O O)) (congrArg (Value.int .i64) (show (m.calls:Int)+1=((m.calls+1:Nat):Int) by omega))) Z<|Zqni Z Z<|Wb Y5<|Wt 0 [_,_,_,_,_,_,_,_,_,_,_,_] Y9<|Nt<|Sr<|Zqm Z Z<|Zqni Z Z<|Wb Y5<|Wt 0 [_,_,_,_,_,_,_,_,_,_,_,_] Y9<|Nt<|Sr<|Zqm Z Z<|JO_q (QE_fa Z Z Z Z) Z<|JO_q (QE_ldsR 1 Z Z Z (hc7.le h5) Z) Z ?_
 refine JO_callP (first:=[]) (captured:=[]) Z Z Z (run_ap p D n hT L _ (c.wf β (fk.params.length+fk.locals.length)) N fk d fk.body { m with frm:=fitF (fk.params.length+fk.locals.length) vs,calls:=m.calls+1 } iv ov R ((hC.le (h3.t h4|>.t h5)).wf _ _) Z ((hM.le (h3.t h4|>.t h5)).call (fit_len hvl) (fit_U hW.u32) q9) Ab nb cb9 (hB.le (h3.t h4|>.t h5)) (er_out hq hr)) ?_ ?_
 ·
  rintro _ _ sx7 hx7 ⟨hp7,mf7,sf7,cf7,Zf7,he7,rfl,hF7⟩ fr9
  repeat (first | refine thenQ_p ?_ | refine blockQ_p ?_)
  refine retP_x [] _ (List.Perm.refl _) (h3.t h4|>.t h5|>.t hx7) (fun sR hS2=>?_)
  exact ⟨hp7,mf7,sf7,cf7,Zf7,er_fin hq he7,rfl,hF7.wf⟩
 rintro _ _ s7 h7 ⟨⟨a7,y7⟩,m7,iv7,ov7,R7,he7,⟨rfl,hu7,hz7⟩,rfl,hM7⟩
 have hck:m7.calls=m.calls+1:=ck_of he7
 rw [he7] at hq
 simp only [ER.and] at hq
 rw [show (if a7=3 then y7 else 0)=y7 from by split;rfl;rename_i h8;exact (hz7 h8).symm] at hq
 simp only [cQ9,nQ9]
 refine Nt<|Sr<|Zqm Z Z<|Zqni Z Z<|Wb Y5<|Wl 0 Y6<|At Z Z<|Sr<|Zqm Z Z<|Zqni Z Z<|Wb Y5<|Wt 0 [_,_,_,_,_,_,_,_,_,_,_,_] Y9<|Nt<|Sr<|Zqm Z Z<|Zqni Z Z<|Wb Y5<|Wl 0 Y6<|JO_q (QE_cast (QE_sub' Z Z (w64 O O)) (congrArg (Value.int .i64) (show _=((m.calls:Nat):Int) by omega))) Z<|Zqni Z Z<|Wb Y5<|Wt 0 [_,_,_,_,_,_,_,_,_,_,_,_] Y9<|Nt<|Zs<|JC_perm pm53 ?_
 refine Zr<|Zqm Z Z<|Zqm Z Z<|Zqni Z Z<|Wb Y5<|Wt 1 [_,_,_,_,_,_,_,_,_,_,_,_] Y9<|Nt<|Sr<|Zqm Z Z<|At Z Z<|Zo<|?_
 refine retP_mk [_] _ (.inr Z) (.tmp Z (.nil)) Z (h3.t h4|>.t h5|>.t h7) (fun sR hS2=>?_)
 exact ⟨_,{ m7 with frm:=m.frm,calls:=m.calls },iv7,ov7,R7,hq,⟨rfl,hu7⟩,rfl,(hM7.back hM).le ((Lr D).t hS2)⟩
theorem call_ap (p:Prg) (D n:Nat) (hT:TOK p D n) (L:Hl) (s:World) (c:MC) (N k:Nat) (fk:Fnc) (vs:List Int) (A1:Option Addr) (n1 c1:Nat) (m:MS) (iv ov:Value) (R:Hl) (hC:CT p c s) (hW:Wds s A1 n1 c1 vs) (hp:p.funcs[k]?=some fk) (hl:vs.length=fk.params.length) (hM:MG p c N m iv ov R s) (hr:cX p (sem p OPp n) k vs m≠.out):AP Tryz.prog D 52 [.pointer (some ⟨c.bm,0,none⟩),.int .i64 (k:Int),.slice A1 n1 c1] (MB c N 0 m iv ov 0 0::MGb c m::MFb c m::(R++L)) s (okE p c N (cX p (sem p OPp n) k vs m) VE RE [] L) (finE c N (cX p (sem p OPp n) k vs m) [] L):=by
  refine AP.perm pm54 (call0_ap p D n hT (MFb c m::L) s c N k fk vs A1 n1 c1 m iv ov _ _ _ R hC hW hp hl hM hr) ?_ ?_
  · rintro v L1 s1 ⟨a,m',iv',ov',R',h1,h2,rfl,h4⟩
    have hf:m'.frm=m.frm:=by
      rw [cX] at h1
      split at h1
      · cases h1
      · cases hr2:runAll ((sem p OPp n).t (p.funcs.getD k fn0)) (p.funcs.getD k fn0).body { m with frm:=fitF ((p.funcs.getD k fn0).params.length+(p.funcs.getD k fn0).locals.length) vs,calls:=m.calls+1 } with
        | out=>rw [hr2] at h1;cases h1
        | fin _ _ _=>rw [hr2] at h1;cases h1
        | ok y m2=>rw [hr2] at h1;simp only [ER.and] at h1;injection h1 with _ h1;rw [← h1]
    refine ⟨_,pm54.symm,a,m',iv',ov',R',h1,h2,?_,h4⟩
    have e:MFb c m=MFb c m':=by rw [MFb,MFb,hf]
    rw [e];rfl
  · rintro ch L1 s1 ⟨h1,m',st,cd,Z,h2,rfl,h4⟩
    exact ⟨_,List.Perm.refl _,h1,m',st,cd,Z++[MFb c m],h2,by simp,h4.app _⟩
theorem vok (p:Prg) (D n:Nat) (hE:EOK p D n) (hK:COK p D n):VOK p D n:=by
  intro L s c N f d x w m iv ov R hC hn hv hM hr
  cases hv with
  | num b A1 n1 c1 hk hc hu=>exact ⟨_,[_],rfl,num_ap D L s p _ c N f x m iv ov R hn hM b A1 n1 c1 hk hc hu⟩
  | slot b hk h0 hl hc=>exact ⟨_,[_],rfl,slot_ap D L s p _ c N f x m iv ov R hn hM b hk h0 hl hc⟩
  | con b k g A n1 c1 hk hs hg hp h1 hc hu=>exact ⟨_,[_],rfl,con_ap D L s p _ c N f x m iv ov R hn hM b k g A n1 c1 hk hs hg hp h1 hc hu⟩
  | var b k g hk hs hg hp h1 hc=>exact ⟨_,[_],rfl,var_ap D L s p _ c N f x m iv ov R hn hM b k g hk hs hg hp h1 hc⟩
  | idx b1 b2 k g A n1 c1 hk hg hp h3 h1 h2 hA h0=>exact ⟨_,[_,_],rfl,idx_ap p D n hE L s c N f d x m iv ov R hC hn hM b1 b2 k g A n1 c1 hk hg hp h3 h1 h2 hA h0 hr⟩
  | call w hk h=>
    obtain ⟨be,bi,A,n1,c1,k,fk,rfl,h1,h2,hA,hg,hp,hl⟩:=h
    have e:vX p OPp (sem p OPp n) f x m=(evalAll ((sem p OPp n).e f) x.args m).and fun vs m=>(sem p OPp n).c k vs m:=by rw [vX_call hk,hg,Int.toNat_natCast]
    rw [e] at hr ⊢
    exact ⟨_,[_,_],rfl,callc_ap p D n hE L s c N f d x.args m iv ov R hC hn hM hK be bi k fk A n1 c1 h1 h2 hA hp hl hr⟩
  | get hk=>exact ⟨_,[],rfl,get_ap D L s p _ c N f x m iv ov R hn hM hk⟩
  | una b1 b2 A1 n1 c1 A n2 c2 hk h1 h2 hA h0=>exact ⟨_,[_,_],rfl,una_ap p D n hE L s c N f d x m iv ov R hC hn hM b1 b2 A1 n1 c1 A n2 c2 hk h1 h2 hA h0 hr⟩
  | bin b1 b2 b3 v1 v2 hk h1 h2 h3 hv1 hv2 ho=>
    obtain ⟨b4,rfl⟩:=hv1.func
    obtain ⟨b5,rfl⟩:=hv2.func
    exact ⟨_,[_,_,_],rfl,bin_ap p D n hE L s c N f d x m iv ov R hC hn hM b1 b2 b3 b4 b5 hk h1 h2 h3 hv1 hv2 hr⟩
theorem sok (p:Prg) (D n:Nat) (ihE:∀ j,j≤n→EOK p D j) (ihT:∀ j,j≤n→TOK p D j) (hK:COK p D n):SOK p D n:=by
  intro L s c N f d x w m iv ov R hC hn hv hM hr
  have hE:=ihE n (Nat.le_refl _)
  have hT:=ihT n (Nat.le_refl _)
  cases hv with
  | setl b1 b2 v hk h0 hl h1 h2 hv=>
    obtain ⟨b4,rfl⟩:=hv.func
    exact ⟨_,[_,_],rfl,setl_ap p D n hE L s c N f d x m iv ov R hC hn hM b1 b2 b4 hk h0 hl h1 h2 hv hr⟩
  | setg b1 b2 k g v hk hs hg hp hg2 h1 h2 hv=>
    obtain ⟨b4,rfl⟩:=hv.func
    exact ⟨_,[_,_],rfl,setg_ap p D n hE L s c N f d x m iv ov R hC hn hM b1 b2 b4 k g hk hs hg hp h1 h2 hv hr⟩
  | store b1 b2 k g A n1 c1 hk hg hp h3 h1 h2 hA h0=>exact ⟨_,[_,_],rfl,store_ap p D n hE L s c N f d x m iv ov R hC hn hM b1 b2 k g A n1 c1 hk hg hp h3 h1 h2 hA h0 hr⟩
  | cond b1 b2 b3 A n1 c1 B n2 c2 G n3 c3 hk h1 h2 h3 hA h0 hB hG=>exact ⟨_,[_,_,_],rfl,cond_ap p D n hE hT L s c N f d x m iv ov R hC hn hM b1 b2 b3 A n1 c1 B n2 c2 G n3 c3 hk h1 h2 h3 hA h0 hB hG hr⟩
  | loop b1 b2 A n1 c1 B n2 c2 hk h1 h2 hA h0 hB=>exact ⟨_,[_,_],rfl,loop_ap p D n ihE ihT L s c N f d x m iv ov R hC hn hM b1 b2 A n1 c1 B n2 c2 hk h1 h2 hA h0 hB hr⟩
  | call b1 w hk h1 h=>
    obtain ⟨be,bi,A,n1,c1,k,fk,rfl,he,hi,hA,hg,hp,hl⟩:=h
    exact ⟨_,[_],rfl,scall_ap p D n hE L s c N f d x m iv ov R hC hn hM hK b1 be bi k fk A n1 c1 hk h1 he hi hA hg hp hl hr⟩
  | ret b1 A n1 c1 hk h1 hA h0=>exact ⟨_,[_],rfl,ret_ap p D n hE L s c N f d x m iv ov R hC hn hM b1 A n1 c1 hk h1 hA h0 hr⟩
  | put b1 A n1 c1 hk h1 hA h0=>exact ⟨_,[_],rfl,put_ap p D n hE L s c N f d x m iv ov R hC hn hM b1 A n1 c1 hk h1 hA h0 hr⟩
  | stop b1 A n1 c1 hk h1 hA h0=>exact ⟨_,[_],rfl,sstop_ap p D n hE L s c N f d x m iv ov R hC hn hM b1 A n1 c1 hk h1 hA h0 hr⟩
  | brk hk=>exact ⟨_,[],rfl,brk_ap p D n L s c N f d x m iv ov R hC hn hM hk⟩
  | cont hk=>exact ⟨_,[],rfl,cont_ap p D n L s c N f d x m iv ov R hC hn hM hk⟩
theorem all_ok (p:Prg) (D:Nat):∀ n,EOK p D n∧COK p D n∧TOK p D n
  | 0=>⟨fun _ _ _ _ _ _ _ _ _ _ _ _ _ _ _ _ h=>absurd rfl h,fun _ _ _ _ _ _ _ _ _ _ _ _ _ _ _ _ _ _ _ h=>absurd rfl h,fun _ _ _ _ _ _ _ _ _ _ _ _ _ _ _ _ h=>absurd rfl h⟩
  | n+1=>by
    have ih:∀ j,j≤n→EOK p D j∧COK p D j∧TOK p D j:=fun j hj=>all_ok p D j
    obtain ⟨hE,hK,hT⟩:=ih n (Nat.le_refl _)
    exact ⟨estep_ap p D n (vok p D n hE hK),fun L s c N k fk vs A n1 c1 m iv ov R hC hW hp hl hM hr=>call_ap p D n hT L s c N k fk vs A n1 c1 m iv ov R hC hW hp hl hM hr,tstep_ap p D n (sok p D n (fun j hj=>(ih j hj).1) (fun j hj=>(ih j hj).2.2) hK)⟩
end Go.Proofs.YtpdnijphccdiiaaGreatDoor
namespace Go.Proofs.YtpdnijphccdiiaaGreatDoor
open Go Go.FL
theorem badF_of {p:Prg}:∀ {l:List Fnc} {i:Nat},(∀ x∈l,∀ nd∈ndSs x.body 0,ndC p x nd=0)→badF p l i=(0,0)
  | [],_,_=>rfl
  | x::r,i,h=>by
    have hb:∀ {l:List Nd},(∀ nd∈l,ndC p x nd=0)→badN p x l=0:=by
      intro l
      induction l with
      | nil=>intro _;rfl
      | cons n r ih=>intro h;rw [badN,if_pos (h n (List.mem_cons_self ..))];exact ih fun nd hm=>h nd (List.mem_cons_of_mem _ hm)
    rw [badF,if_pos (hb (h x (List.mem_cons_self ..)))]
    exact badF_of fun y hy=>h y (List.mem_cons_of_mem _ hy)
theorem chkF_of {p:Prg} (h1:prgF p=(0,0)) (h2:nameF p=(0,0)) (h3:∀ x∈p.funcs,∀ nd∈ndSs x.body 0,ndC p x nd=0):chkF p=(0,0):=by
  rw [chkF,h1,if_neg (by simp),h2,if_neg (by simp)];exact badF_of h3
theorem ents_find {p:Prg} {nm:Str} {e:Str×(Int×Int)} (h:((ents p).find? fun e=>decide (e.1=nm))=some e):(∃ (i:Nat) (g:Glo),p.globals[i]?=some g∧g.name=nm∧e.2=((3:Int),(i:Int)))∨∃ (i:Nat) (f:Fnc),p.funcs[i]?=some f∧f.name=nm∧e.2=((4:Int),(i:Int)):=by
  have hn:e.1=nm:=by simpa using List.find?_some h
  have hm:=List.mem_of_find?_eq_some h
  rw [ents,List.mem_append] at hm
  rcases hm with hm | hm
  · obtain ⟨i,hi⟩:=List.getElem?_of_mem hm
    rw [List.getElem?_mapIdx] at hi
    cases hg:p.globals[i]? with
    | none=>rw [hg] at hi;cases hi
    | some g=>rw [hg] at hi;simp at hi;subst hi;exact .inl ⟨i,g,hg,hn,rfl⟩
  · obtain ⟨i,hi⟩:=List.getElem?_of_mem hm
    rw [List.getElem?_mapIdx] at hi
    cases hg:p.funcs[i]? with
    | none=>rw [hg] at hi;cases hi
    | some g=>rw [hg] at hi;simp at hi;subst hi;exact .inr ⟨i,g,hg,hn,rfl⟩
theorem useC_zero {p:Prg} {x:Fnc} {u:Use} (h:useC p x u=0) (hu:u.2.1≠0):(meanP p x u.1).2=true∧permP (gkOf p (meanP p x u.1).1.2) u.2.1 (meanP p x u.1).1.1∧¬ (u.2.1=4∧u.2.2≠(parN p (meanP p x u.1).1.2:Int)):=by
  unfold useC at h
  rw [if_neg hu] at h
  split at h
  · cases h
  rename_i h1
  split at h
  · cases h
  rename_i h2
  split at h
  · cases h
  rename_i h3
  exact ⟨by simpa using h1,Decidable.not_not.1 h2,h3⟩
theorem ndC_zero {p:Prg} {x:Fnc} {nd:Nd} (h:ndC p x nd=0):useC p x nd.use=0∧∀ q:Prg,useC q x nd.use=0→ndC q x nd=0:=by
  cases nd with
  | ex y lp=>exact ⟨h,fun q hq=>hq⟩
  | st y lp=>
    rw [ndC] at h
    split at h
    · cases h
    rename_i h1
    exact ⟨h,fun q hq=>by rw [ndC,if_neg h1];exact hq⟩
theorem nat_case {m:Int×Int} {k:Nat} {c:Int} (h1:m.1=c) (h2:m.2=(k:Int)):m=(c,(k:Int)):=Prod.ext h1 h2
theorem nameF_main {p:Prg} (h:nameF p=(0,0)):∃ (mi:Nat) (x:Fnc),mainF p.funcs=(mi:Int)∧p.funcs[mi]?=some x∧x.name=mainW∧x.params=[]:=by
  obtain ⟨mi,x,h1,h2,_⟩:=main_ok h
  obtain ⟨_,y,hy,hq⟩:=idxOf_get (show idxOf (fun x:Fnc=>decide (x.name=mainW)) p.funcs 0=(mi:Int) from h1)
  rw [Nat.sub_zero,h2] at hy
  obtain rfl:x=y:=by simpa using hy
  refine ⟨mi,x,h1,h2,by simpa using hq,?_⟩
  rw [nameF] at h
  split at h
  · rename_i h3;rw [h] at h3;exact absurd rfl h3
  split at h
  · rename_i h3;rw [h] at h3;exact absurd rfl h3
  rw [if_neg O,h1,Int.toNat_natCast,h2] at h
  simp only at h
  split at h
  · assumption
  · cases h
theorem slot_neg {p:Prg} {f:Fnc} {nm:Str} {c k:Int} (h:(meanP p f nm).1=(c,k)) (hc:c=3∨c=4):¬ 0≤slotP f nm:=by
  unfold meanP at h
  split at h
  · injection h with h1 _;omega
  rename_i k1
  split at h
  · injection h with h1 _;omega
  rename_i k2
  rw [slotP,if_neg k1,if_neg k2];decide
theorem slot_pos {p:Prg} {f:Fnc} {nm:Str} (h:(meanP p f nm).1.1=1∨(meanP p f nm).1.1=2):0≤slotP f nm:=by
  unfold meanP at h
  split at h
  · rename_i k1;rw [slotP,if_pos k1];exact k1
  rename_i k1
  split at h
  · rename_i k2;rw [slotP,if_neg k1,if_pos k2];omega
  cases hf:(ents p).find? fun e=>decide (e.1=nm) with
  | none=>rw [hf] at h;rcases h with h | h <;> cases h
  | some e=>
    rw [hf] at h
    simp only at h
    rcases ents_find hf with ⟨i,g,_,_,hc⟩ | ⟨i,g,_,_,hc⟩ <;> (rw [hc] at h;rcases h with h | h <;> cases h)
theorem find_of {p:Prg} {f:Fnc} {nm:Str} {c k:Int} (h:(meanP p f nm).1=(c,k)) (hc:c=3∨c=4):∃ e,(ents p).find? (fun e=>decide (e.1=nm))=some e∧e.2=(c,k):=by
  unfold meanP at h
  split at h
  · injection h with h1 _;omega
  split at h
  · injection h with h1 _;omega
  cases hf:(ents p).find? fun e=>decide (e.1=nm) with
  | none=>rw [hf] at h;injection h with h1 _;omega
  | some e=>rw [hf] at h;exact ⟨e,rfl,h⟩
theorem gloI_of {p:Prg} {f:Fnc} {nm:Str} {k:Nat} (hnd:((ents p).map (·.1)).Nodup) (h:(meanP p f nm).1=((3:Int),(k:Int))):gloI p nm=(k:Int)∧k < p.globals.length:=by
  obtain ⟨e,he,h2⟩:=find_of h (.inl rfl)
  rcases ents_find he with ⟨i,g,a,b,c⟩ | ⟨i,g,a,b,c⟩
  · rw [h2] at c
    injection c with _ c
    obtain rfl:k=i:=by omega
    obtain ⟨hl,rfl⟩:=List.getElem?_eq_some_iff.1 a
    refine ⟨?_,hl⟩
    have:=idxOf_hit (p:=fun g:Glo=>decide (g.name=nm)) (l:=p.globals) (k:=k) (j:=0) (a:=p.globals[k]) (fun j y hj hy=>by
      cases hq:decide (y.name=nm) with
      | false=>rfl
      | true=>
        exfalso
        have hq:y.name=nm:=by simpa using hq
        have q1:=find_nd hnd (ents_g hy)
        have q2:=find_nd hnd (ents_g a)
        simp only [hq,b] at q1 q2
        rw [q1] at q2
        simp at q2;omega) a (by simpa using b)
    rw [gloI,this];simp
  · rw [h2] at c;cases c
theorem calI_of {p:Prg} {f:Fnc} {nm:Str} {k:Nat} (hnd:((ents p).map (·.1)).Nodup) (h:(meanP p f nm).1=((4:Int),(k:Int))):calI p nm=(k:Int)∧k < p.funcs.length:=by
  obtain ⟨e,he,h2⟩:=find_of h (.inr rfl)
  rcases ents_find he with ⟨i,g,a,b,c⟩ | ⟨i,g,a,b,c⟩
  · rw [h2] at c;cases c
  · rw [h2] at c
    injection c with _ c
    obtain rfl:k=i:=by omega
    obtain ⟨hl,rfl⟩:=List.getElem?_eq_some_iff.1 a
    refine ⟨?_,hl⟩
    have:=idxOf_hit (p:=fun g:Fnc=>decide (g.name=nm)) (l:=p.funcs) (k:=k) (j:=0) (a:=p.funcs[k]) (fun j y hj hy=>by
      cases hq:decide (y.name=nm) with
      | false=>rfl
      | true=>
        exfalso
        have hq:y.name=nm:=by simpa using hq
        have q1:=find_nd hnd (ents_f hy)
        have q2:=find_nd hnd (ents_f a)
        simp only [hq,b] at q1 q2
        rw [q1] at q2
        simp at q2;omega) a (by simpa using b)
    rw [calI,this];simp
section
variable {p:Prg} {F G:List Bool} {OP:Int→Int→Int→Option Int}
theorem ndXs_mem {x:Ex} {lp:Nat} {nd:Nd}:∀ {l:List Ex},x∈l→nd∈ndX x lp→nd∈ndXs l lp
  | [],h,_=>by cases h
  | y::r,h,hn=>by
    rw [ndXs]
    rcases List.mem_cons.1 h with rfl | h
    · exact List.mem_append_left _ hn
    · exact List.mem_append_right _ (ndXs_mem h hn)
theorem ndSs_mem {x:Stm} {lp:Nat} {nd:Nd}:∀ {l:List Stm},x∈l→nd∈ndS x lp→nd∈ndSs l lp
  | [],h,_=>by cases h
  | y::r,h,hn=>by
    rw [ndSs]
    rcases List.mem_cons.1 h with rfl | h
    · exact List.mem_append_left _ hn
    · exact List.mem_append_right _ (ndSs_mem h hn)
end
open Go.FL
attribute [local irreducible] JC JO JA JB thenQ blockQ retQ AC fill CellsAt QE Ev Mid
theorem gidxF_ac (D:Nat) (L:Hl) (s:World) (A:Option Addr) (n c:Nat) (l:List Glo) (hA:Glos s A n c l) (fi:FuncId) (cap:List Value) (q:Glo→Bool) (hp:∀ s' g (A9:Option Addr) (n9 c9:Nat),Le D s s'→AC Tryz.prog D fi ([.agg #[.int .i64 g.kind,St g.name,.int .u32 g.num,.slice A9 n9 c9]]++cap) L s' fun v L' _=>v=.bool (q g)∧L=L'):AC Tryz.prog D 127 [.slice A n c,.func (.func fi) #[] cap.toArray] L s fun v L' _=>v=.int .i64 (idxOf q l 0)∧L=L':=by
 have hn:=hA.1
 have hc1:=hA.2.1
 have hc2:=hA.2.2.1
 refine AC_enter (TT:=TT) (fn:=Tryz.f127) TT_ok Tryz.func127 V Z Tryz.ntmps127 Z (rs:=[.tmp 4]) Z [(0,_),(1,_)] Z<|Sr<|At Z Z<|Zs<|Sr<|Zqm Z Z<|Ws Y4<|Zqm Z Z<|Nt<|Zp<|?_
 refine JC_loop (γ:=Nat) (fun k=>[(0,_),(1,_),(4,_),(7,_),(8,.int .i64 (k:Int))]) (fun _=>_) (fun k tw=>Le D s tw∧(k≤n∧∀ i x,i < k→l[i]?=some x→q x=false)) (fun k=>n - k) (fun _ _ _ h hl=>⟨h.1.trans hl,h.2⟩) 0 (.cons Z (.cons Z (.cons Z (.cons Z (.cons Z (.nil _)))))) Z ⟨Le.refl _,⟨Nat.zero_le _,fun i x hi=>by omega⟩⟩ ?_
 intro k s1 I1
 have hk0:=I1.2.1
 have hI:=I1.2.2
 refine Sr<|Zqlt Z Z Z<|Nt<|Zs<|?_
 refine JC_ifD Z (fun c2=>?_) (fun c2=>?_)
 ·
  have hk:k < n:=by omega
  obtain ⟨b,off,x,A',n',c',rfl,hx,hcx,_⟩:=Glos.at_ (hA.le I1.1) hk
  refine Zk<|Zt<|Zs<|Zp<|Sr<|Zqm Z Z<|At Z Z<|Sr<|Zqm Z Z<|Zqm Z Z<|Zqm Z Z<|JO_q (QE_iaN Z Z Z Z Z Z hk) Z<|JO_q (QE_ldsA Z Z Z hcx Z) Z<|JO_call (first:=[]) (captured:=cap) Z Z Z (hp _ x A' n' c' I1.1) ?_
  rintro _ _ s3 h3 ⟨rfl,rfl⟩
  refine Nt<|?_
  refine JC_if Z (fun c4=>?_) (fun c4=>?_)
  ·
   have hz:=c4
   refine Sr<|Zqm Z Z<|At Z Z<|Zo<|Zc<|Zu<|Zu<|Zc<|Zu<|?_
   refine retQ_mk [] L (.inr Z) (.tmp Z (.nil)) Z (I1.1.t h3) (fun sR hS2=>?_)
   refine ⟨?_,Z⟩
   first
     | (simp only [resV];rw [idxOf_hit hI hx hz,Nat.zero_add])
     | (simp only [resV];rw [idxOf_none (fun i a hi h=>hI i a O h)])
  have hz:=c4
  refine Zk<|Zb<|Zt<|Zr<|Zqadd Z Z Z (w64 O O)<|Zqm Z Z<|Zn<|?_
  refine thenQ_n ⟨(k+1),[],kp,Z,⟨(I1.1.t h3),⟨by omega,below_succ hI hx hz⟩⟩,O⟩
 refine Zl<|Zv<|Zv<|Zd<|Zt<|Sr<|At Z Z<|Zo<|?_
 refine retQ_mk [] L (.inr Z) (.tmp Z (.nil)) Z I1.1 (fun sR hS2=>?_)
 refine ⟨?_,Z⟩
 first
   | (simp only [resV];rw [idxOf_hit hI hx hz,Nat.zero_add])
   | (simp only [resV];rw [idxOf_none (fun i a hi h=>hI i a O h)])
theorem fidxF_ac (D:Nat) (L:Hl) (s:World) (d:Nat) (A:Option Addr) (n c:Nat) (l:List Fnc) (hA:Fncs d s A n c l) (fi:FuncId) (cap:List Value) (q:Fnc→Bool) (hp:∀ s' g (A7:Option Addr) (n7 c7:Nat) (A8:Option Addr) (n8 c8:Nat) (A9:Option Addr) (n9 c9:Nat),Le D s s'→AC Tryz.prog D fi ([.agg #[St g.name,.slice A7 n7 c7,.slice A8 n8 c8,.slice A9 n9 c9]]++cap) L s' fun v L' _=>v=.bool (q g)∧L=L'):AC Tryz.prog D 168 [.slice A n c,.func (.func fi) #[] cap.toArray] L s fun v L' _=>v=.int .i64 (idxOf q l 0)∧L=L':=by
 have hn:=hA.1
 have hc1:=hA.2.1
 have hc2:=hA.2.2.1
 refine AC_enter (TT:=TT) (fn:=Tryz.f168) TT_ok Tryz.func168 V Z Tryz.ntmps168 Z (rs:=[.tmp 4]) Z [(0,_),(1,_)] Z<|Sr<|At Z Z<|Zs<|Sr<|Zqm Z Z<|Ws Y4<|Zqm Z Z<|Nt<|Zp<|?_
 refine JC_loop (γ:=Nat) (fun k=>[(0,_),(1,_),(4,_),(7,_),(8,.int .i64 (k:Int))]) (fun _=>_) (fun k tw=>Le D s tw∧(k≤n∧∀ i x,i < k→l[i]?=some x→q x=false)) (fun k=>n - k) (fun _ _ _ h hl=>⟨h.1.trans hl,h.2⟩) 0 (.cons Z (.cons Z (.cons Z (.cons Z (.cons Z (.nil _)))))) Z ⟨Le.refl _,⟨Nat.zero_le _,fun i x hi=>by omega⟩⟩ ?_
 intro k s1 I1
 have hk0:=I1.2.1
 have hI:=I1.2.2
 refine Sr<|Zqlt Z Z Z<|Nt<|Zs<|?_
 refine JC_ifD Z (fun c2=>?_) (fun c2=>?_)
 ·
  have hk:k < n:=by omega
  obtain ⟨b,off,x,B1,m1,e1,B2,m2,e2,B3,m3,e3,rfl,hx,hcx,_⟩:=Fncs.at_ (hA.le I1.1) hk
  refine Zk<|Zt<|Zs<|Zp<|Sr<|Zqm Z Z<|At Z Z<|Sr<|Zqm Z Z<|Zqm Z Z<|Zqm Z Z<|JO_q (QE_iaN Z Z Z Z Z Z hk) Z<|JO_q (QE_ldsA Z Z Z hcx Z) Z<|JO_call (first:=[]) (captured:=cap) Z Z Z (hp _ x B1 m1 e1 B2 m2 e2 B3 m3 e3 I1.1) ?_
  rintro _ _ s3 h3 ⟨rfl,rfl⟩
  refine Nt<|?_
  refine JC_if Z (fun c4=>?_) (fun c4=>?_)
  ·
   have hz:=c4
   refine Sr<|Zqm Z Z<|At Z Z<|Zo<|Zc<|Zu<|Zu<|Zc<|Zu<|?_
   refine retQ_mk [] L (.inr Z) (.tmp Z (.nil)) Z (I1.1.t h3) (fun sR hS2=>?_)
   refine ⟨?_,Z⟩
   first
     | (simp only [resV];rw [idxOf_hit hI hx hz,Nat.zero_add])
     | (simp only [resV];rw [idxOf_none (fun i a hi h=>hI i a O h)])
  have hz:=c4
  refine Zk<|Zb<|Zt<|Zr<|Zqadd Z Z Z (w64 O O)<|Zqm Z Z<|Zn<|?_
  refine thenQ_n ⟨(k+1),[],kp,Z,⟨(I1.1.t h3),⟨by omega,below_succ hI hx hz⟩⟩,O⟩
 refine Zl<|Zv<|Zv<|Zd<|Zt<|Sr<|At Z Z<|Zo<|?_
 refine retQ_mk [] L (.inr Z) (.tmp Z (.nil)) Z I1.1 (fun sR hS2=>?_)
 refine ⟨?_,Z⟩
 first
   | (simp only [resV];rw [idxOf_hit hI hx hz,Nat.zero_add])
   | (simp only [resV];rw [idxOf_none (fun i a hi h=>hI i a O h)])
theorem glo1_ac (D:Nat) (L:Hl) (s:World) (g:Glo) (A9:Option Addr) (n9 c9:Nat) (b:Nat) (nm:Str) (hc:CellsAt s b 0 [St nm]):AC Tryz.prog D 128 [.agg #[.int .i64 g.kind,St g.name,.int .u32 g.num,.slice A9 n9 c9],.pointer (some ⟨b,0,none⟩)] L s fun v L' _=>v=.bool (decide (g.name=nm))∧L=L':=by
 refine AC_enter (TT:=TT) (fn:=Tryz.f128) TT_ok Tryz.func128 V Z Tryz.ntmps128 Z (rs:=[.tmp 3]) Z [(0,_),(1,_)] Z<|Sr<|JO_boxA Z Z ?_
 intro β1 s1 h1
 refine At Z Z<|Sr<|Wb Y5<|Wl 0 Y6<|JO_q (QE_ldsR0 Z Z Z (hc.le h1) Z) Z<|Zqse Z Z Z<|At Z Z<|Zo<|?_
 refine retQ_mk [_] L (.inr Z) (.tmp Z (.nil)) Z h1 (fun sR hS2=>?_)
 exact ⟨rfl,rfl⟩
theorem cal1_ac (D:Nat) (L:Hl) (s:World) (g:Fnc) (A7:Option Addr) (n7 c7:Nat) (A8:Option Addr) (n8 c8:Nat) (A9:Option Addr) (n9 c9:Nat) (b:Nat) (nm:Str) (hc:CellsAt s b 0 [St nm]):AC Tryz.prog D 169 [.agg #[St g.name,.slice A7 n7 c7,.slice A8 n8 c8,.slice A9 n9 c9],.pointer (some ⟨b,0,none⟩)] L s fun v L' _=>v=.bool (decide (g.name=nm))∧L=L':=by
 refine AC_enter (TT:=TT) (fn:=Tryz.f169) TT_ok Tryz.func169 V Z Tryz.ntmps169 Z (rs:=[.tmp 3]) Z [(0,_),(1,_)] Z<|Sr<|JO_boxA Z Z ?_
 intro β1 s1 h1
 refine At Z Z<|Sr<|W0 Y5<|Wl 0 Y6<|JO_q (QE_ldsR0 Z Z Z (hc.le h1) Z) Z<|Zqse Z Z Z<|At Z Z<|Zo<|?_
 refine retQ_mk [_] L (.inr Z) (.tmp Z (.nil)) Z h1 (fun sR hS2=>?_)
 exact ⟨rfl,rfl⟩
theorem global_ac (D:Nat) (L:Hl) (s:World) (d0:Nat) (p:Prg) (Ag Af:Option Addr) (ng cg nf cf:Nat) (hGl:Glos s Ag ng cg p.globals) (hFn:Fncs d0 s Af nf cf p.funcs) (f:Fnc) (P1 P2 P3:Option Addr) (p1 r1 p2 r2 p3 r3:Nat) (hP1:Strs s P1 p1 r1 f.params) (hP2:Strs s P2 p2 r2 f.locals) (nm:Str):AC Tryz.prog D 85 [.agg #[.slice Ag ng cg,.slice Af nf cf,St f.name,.slice P1 p1 r1,.slice P2 p2 r2,.slice P3 p3 r3],St nm] L s fun v L' _=>v=.int .i64 (gloI p nm)∧L=L':=by
 refine AC_enter (TT:=TT) (fn:=Tryz.f85) TT_ok Tryz.func85 V Z Tryz.ntmps85 Z (rs:=[.tmp 4]) Z [(0,_),(1,_)] Z<|Sr<|JO_boxA Z Z ?_
 intro β1 s1 h1
 refine JO_box Z Z Z ?_
 intro β2 s2 h2
 refine At Z Z<|Zs<|JC_pubX [] [_] _ ?_
 intro s3 h3 hpub3
 simp only [cQ9,nQ9]
 have hc3:=hpub3 _ _ _ (List.mem_singleton.2 rfl)
 
 refine Zr<|W0 Y5<|W0 Y5<|Wl 0 Y6<|JO_q (QE_func Z) Z<|Jc Z Z Z (gidxF_ac D _ _ Ag ng cg p.globals (hGl.le (h1.t h2|>.t h3)) _ _ (fun g=>decide (g.name=nm)) (fun s9 g A9 n9 c9 q9=>glo1_ac D _ s9 g A9 n9 c9 _ nm ((hc3.le (Lr D)).le q9))) ?_
 rintro _ _ s4 h4 ⟨rfl,rfl⟩
 refine At Z Z<|Zo<|?_
 refine retQ_mk [_] L (.inr Z) (.tmp Z (.nil)) Z (h1.t h2|>.t h3|>.t h4) (fun sR hS2=>?_)
 exact ⟨rfl,rfl⟩
theorem callee_ac (D:Nat) (L:Hl) (s:World) (d0:Nat) (p:Prg) (Ag Af:Option Addr) (ng cg nf cf:Nat) (hGl:Glos s Ag ng cg p.globals) (hFn:Fncs d0 s Af nf cf p.funcs) (f:Fnc) (P1 P2 P3:Option Addr) (p1 r1 p2 r2 p3 r3:Nat) (hP1:Strs s P1 p1 r1 f.params) (hP2:Strs s P2 p2 r2 f.locals) (nm:Str):AC Tryz.prog D 129 [.agg #[.slice Ag ng cg,.slice Af nf cf,St f.name,.slice P1 p1 r1,.slice P2 p2 r2,.slice P3 p3 r3],St nm] L s fun v L' _=>v=.int .i64 (calI p nm)∧L=L':=by
 refine AC_enter (TT:=TT) (fn:=Tryz.f129) TT_ok Tryz.func129 V Z Tryz.ntmps129 Z (rs:=[.tmp 4]) Z [(0,_),(1,_)] Z<|Sr<|JO_boxA Z Z ?_
 intro β1 s1 h1
 refine JO_box Z Z Z ?_
 intro β2 s2 h2
 refine At Z Z<|Zs<|JC_pubX [] [_] _ ?_
 intro s3 h3 hpub3
 simp only [cQ9,nQ9]
 have hc3:=hpub3 _ _ _ (List.mem_singleton.2 rfl)
 
 refine Zr<|W0 Y5<|Wb Y5<|Wl 0 Y6<|JO_q (QE_func Z) Z<|Jc Z Z Z (fidxF_ac D _ _ d0 Af nf cf p.funcs (hFn.le (h1.t h2|>.t h3)) _ _ (fun g=>decide (g.name=nm)) (fun s9 g A7 n7 c7 A8 n8 c8 A9 n9 c9 q9=>cal1_ac D _ s9 g A7 n7 c7 A8 n8 c8 A9 n9 c9 _ nm ((hc3.le (Lr D)).le q9))) ?_
 rintro _ _ s4 h4 ⟨rfl,rfl⟩
 refine At Z Z<|Zo<|?_
 refine retQ_mk [_] L (.inr Z) (.tmp Z (.nil)) Z (h1.t h2|>.t h3|>.t h4) (fun sR hS2=>?_)
 exact ⟨rfl,rfl⟩
theorem tslot_ac (D:Nat) (L:Hl) (s:World) (d0:Nat) (p:Prg) (Ag Af:Option Addr) (ng cg nf cf:Nat) (hGl:Glos s Ag ng cg p.globals) (hFn:Fncs d0 s Af nf cf p.funcs) (f:Fnc) (P1 P2 P3:Option Addr) (p1 r1 p2 r2 p3 r3:Nat) (hP1:Strs s P1 p1 r1 f.params) (hP2:Strs s P2 p2 r2 f.locals) (hsz:f.params.length+f.locals.length≤100) (nm:Str):AC Tryz.prog D 124 [.agg #[.slice Ag ng cg,.slice Af nf cf,St f.name,.slice P1 p1 r1,.slice P2 p2 r2,.slice P3 p3 r3],St nm] L s fun v L' _=>v=.int .i64 (slotP f nm)∧L=L':=by
 have hn1:=hP1.1
 have hn2:=hP2.1
 have hb1:=hP1.2.1
 have hb2:=hP1.2.2.1
 have hb3:=hP2.2.1
 have hb4:=hP2.2.2.1
 have hi1:=idxOf_lt (p:=fun x=>decide (@Eq (List UInt8) nm x)) (l:=f.params) (k:=0)
 have hi2:=idxOf_lt (p:=fun x=>decide (@Eq (List UInt8) nm x)) (l:=f.locals) (k:=0)
 
 refine AC_enter (TT:=TT) (fn:=Tryz.f124) TT_ok Tryz.func124 V Z Tryz.ntmps124 Z (rs:=[.tmp 4]) Z [(0,_),(1,_)] Z<|Sr<|JO_boxA Z Z ?_
 intro β1 s1 h1
 refine At Z Z<|Zs<|Sr<|Wb Y5<|JO_q (QE_fa Z Z Z Z) Z<|Wl 0 Y6<|Zqm Z Z<|Jc Z Z Z (sidx_ac D _ _ P1 p1 r1 f.params (hP1.le h1) nm) ?_
 rintro _ _ s2 h2 ⟨rfl,rfl⟩
 refine At Z Z<|Sr<|Zqm Z Z<|Zqge Z Z Z<|Nt<|?_
 refine JC_ifD Z (fun c3=>?_) (fun c3=>?_)
 ·
  have hE:slotP f nm=_:=if_pos c3
  refine Sr<|Zqm Z Z<|At Z Z<|Zo<|Zu<|?_
  refine retQ_mk [_] L (.inr Z) (.tmp Z (.nil)) Z (h1.t h2) (fun sR hS2=>?_)
  exact ⟨by rw [hE];first | rfl | (simp only [resV];rw [hn1]),rfl⟩
 have g13:=c3
 refine Zk<|Zt<|Zs<|Sr<|Wb Y5<|JO_q (QE_fa Z Z Z Z) Z<|Wl 0 Y6<|Zqm Z Z<|Jc Z Z Z (sidx_ac D _ _ P2 p2 r2 f.locals (hP2.le (h1.t h2)) nm) ?_
 rintro _ _ s4 h4 ⟨rfl,rfl⟩
 refine At Z Z<|Sr<|Zqm Z Z<|Zqge Z Z Z<|Nt<|?_
 refine JC_ifD Z (fun c5=>?_) (fun c5=>?_)
 ·
  have hE:slotP f nm=_:=(if_neg g13).trans (if_pos c5)
  refine Sr<|Wb Y5<|JO_q (QE_fa Z Z Z Z) Z<|Wl 0 Y6<|Ws Y4<|Zqm Z Z<|Zqadd Z Z Z (w64 O O)<|At Z Z<|Zo<|Zu<|?_
  refine retQ_mk [_] L (.inr Z) (.tmp Z (.nil)) Z (h1.t h2|>.t h4) (fun sR hS2=>?_)
  exact ⟨by rw [hE];first | rfl | (simp only [resV];rw [hn1]),rfl⟩
 have hE:slotP f nm=_:=(if_neg g13).trans (if_neg c5)
 refine Zk<|Zt<|Sr<|At Z Z<|Zo<|?_
 refine retQ_mk [_] L (.inr Z) (.tmp Z (.nil)) Z (h1.t h2|>.t h4) (fun sR hS2=>?_)
 exact ⟨by rw [hE];first | rfl | (simp only [resV];rw [hn1]),rfl⟩
theorem slot_lt (f:Fnc) (nm:Str):slotP f nm < ((f.params.length+f.locals.length:Nat):Int):=by
  have hi1:=idxOf_lt (p:=fun y=>decide (nm=y)) (l:=f.params) (k:=0)
  have hi2:=idxOf_lt (p:=fun y=>decide (nm=y)) (l:=f.locals) (k:=0)
  unfold slotP
  repeat' split
  all_goals omega
def XOK (p:Prg) (f:Fnc) (x:Ex):Prop:=exV x=true∧∃ lp,∀ nd∈ndX x lp,ndC p f nd=0
def StOK (p:Prg) (f:Fnc) (x:Stm):Prop:=(∃ lv,stV x lv=true)∧∃ lp,∀ nd∈ndS x lp,ndC p f nd=0
structure POK (p:Prg):Prop where
  nd:((ents p).map (·.1)).Nodup
  gk:∀ g∈p.globals,1≤g.kind∧g.kind≤3
section
variable {p:Prg} {f:Fnc}
theorem XOK.args {x:Ex} (h:XOK p f x):∀ y∈x.args,XOK p f y:=fun y hy=>by
  obtain ⟨hv,lp,hn⟩:=h
  obtain ⟨k,o,u,nm,ar⟩:=x
  obtain ⟨j,hj⟩:=List.getElem?_of_mem hy
  exact ⟨(exV_at (exV_eq hv).2 hj).1,lp,fun nd hd=>hn nd (by rw [ndX];exact List.mem_cons_of_mem _ (ndXs_mem hy hd))⟩
theorem XOK.use {x:Ex} (h:XOK p f x):useC p f (useE x)=0:=by
  obtain ⟨_,lp,hn⟩:=h
  obtain ⟨k,o,u,nm,ar⟩:=x
  exact hn (.ex (.mk k o u nm ar) lp) (by rw [ndX];exact List.mem_cons_self ..)
theorem StOK.exprs {x:Stm} (h:StOK p f x):∀ y∈x.exprs,XOK p f y:=fun y hy=>by
  obtain ⟨⟨lv,hv⟩,lp,hn⟩:=h
  obtain ⟨k,nm,es,b,e⟩:=x
  obtain ⟨j,hj⟩:=List.getElem?_of_mem hy
  exact ⟨(exV_at (stV_eq hv).2.2.1 hj).1,lp,fun nd hd=>hn nd (by rw [ndS];exact List.mem_cons_of_mem _ (List.mem_append_left _ (ndXs_mem hy hd)))⟩
theorem StOK.body {x:Stm} (h:StOK p f x):∀ y∈x.body,StOK p f y:=fun y hy=>by
  obtain ⟨⟨lv,hv⟩,lp,hn⟩:=h
  obtain ⟨k,nm,es,b,e⟩:=x
  obtain ⟨j,hj⟩:=List.getElem?_of_mem hy
  exact ⟨⟨_,(stV_at (stV_eq hv).2.2.2.1 hj).1⟩,_,fun nd hd=>hn nd (by rw [ndS];exact List.mem_cons_of_mem _ (List.mem_append_right _ (List.mem_append_left _ (ndSs_mem hy hd))))⟩
theorem StOK.els {x:Stm} (h:StOK p f x):∀ y∈x.els,StOK p f y:=fun y hy=>by
  obtain ⟨⟨lv,hv⟩,lp,hn⟩:=h
  obtain ⟨k,nm,es,b,e⟩:=x
  obtain ⟨j,hj⟩:=List.getElem?_of_mem hy
  exact ⟨⟨_,(stV_at (stV_eq hv).2.2.2.2 hj).1⟩,_,fun nd hd=>hn nd (by rw [ndS];exact List.mem_cons_of_mem _ (List.mem_append_right _ (List.mem_append_right _ (ndSs_mem hy hd))))⟩
theorem StOK.use {x:Stm} (h:StOK p f x):useC p f (useS x)=0:=by
  obtain ⟨_,lp,hn⟩:=h
  obtain ⟨k,nm,es,b,e⟩:=x
  exact (ndC_zero (hn (.st (.mk k nm es b e) lp) (by rw [ndS];exact List.mem_cons_self ..))).1
theorem use_mn (hP:POK p) {u:Use} (h:useC p f u=0) (hu:u.2.1≠0):(0≤slotP f u.1∧(u.2.1=1∨u.2.1=2))∨(¬ 0≤slotP f u.1∧∃ (k:Nat) (g:Glo),gloI p u.1=(k:Int)∧p.globals[k]?=some g∧((g.kind=1∧u.2.1=2)∨(g.kind=2∧(u.2.1=1∨u.2.1=2))∨(g.kind=3∧u.2.1=3)))∨∃ (k:Nat) (fk:Fnc),calI p u.1=(k:Int)∧p.funcs[k]?=some fk∧u.2.1=4∧u.2.2=(fk.params.length:Int):=by
  obtain ⟨a1,a2,a3⟩:=useC_zero h hu
  rcases mean_kind a1 with k1 | ⟨k1,k,k2,k3⟩ | ⟨k1,k,k2,k3⟩
  · exact .inl ⟨slot_pos k1,by unfold permP at a2;omega⟩
  · have e:=nat_case k1 k2
    obtain ⟨g,hg⟩:∃ g,p.globals[k]?=some g:=⟨_,List.getElem?_eq_getElem k3⟩
    have hk:=hP.gk g (List.mem_of_getElem? hg)
    rw [e] at a2
    have e1:=gkOf_at hg
    refine .inr (.inl ⟨slot_neg e (.inl Z),k,g,(gloI_of hP.nd e).1,hg,?_⟩)
    unfold permP at a2
    simp only at a2
    omega
  · have e:=nat_case k1 k2
    obtain ⟨g,hg⟩:∃ g,p.funcs[k]?=some g:=⟨_,List.getElem?_eq_getElem k3⟩
    rw [e] at a2 a3
    have e1:=parN_at (p:=p) (i:=(k:Int)) rfl hg
    refine .inr (.inr ⟨k,g,(calI_of hP.nd e).1,hg,?_⟩)
    unfold permP at a2
    simp only at a2 a3
    rw [e1] at a3
    omega
theorem mn2 (hP:POK p) {x:Ex} (h:XOK p f x) (hk:x.kind=2):0≤slotP f x.name∨(¬ 0≤slotP f x.name∧∃ (k:Nat) (g:Glo),gloI p x.name=(k:Int)∧p.globals[k]?=some g):=by
  have hu:useE x=(x.name,2,0):=by rw [useE,if_pos hk]
  have:=h.use;rw [hu] at this
  rcases use_mn hP this (show (2:Int)≠0 by decide) with ⟨a,_⟩ | ⟨a,k,g,b,c,_⟩ | ⟨_,_,_,_,c,_⟩
  · exact .inl a
  · exact .inr ⟨a,k,g,b,c⟩
  · cases c
theorem mn3 (hP:POK p) {x:Ex} (h:XOK p f x) (hk:x.kind=3):∃ (k:Nat) (g:Glo),gloI p x.name=(k:Int)∧p.globals[k]?=some g∧g.kind=3:=by
  have hu:useE x=(x.name,3,0):=by rw [useE,if_neg O,if_pos hk]
  have:=h.use;rw [hu] at this
  rcases use_mn hP this (show (3:Int)≠0 by decide) with ⟨_,a⟩ | ⟨a,k,g,b,c,d⟩ | ⟨_,_,_,_,c,_⟩
  · rcases a with a | a <;> cases a
  · exact ⟨k,g,b,c,by simp only at d;omega⟩
  · cases c
theorem mn4 (hP:POK p) {x:Ex} (h:XOK p f x) (hk:x.kind=4):∃ (k:Nat) (fk:Fnc),calI p x.name=(k:Int)∧p.funcs[k]?=some fk∧x.args.length=fk.params.length:=by
  have hu:useE x=(x.name,4,(x.args.length:Int)):=by rw [useE,if_neg O,if_neg O,if_pos hk]
  have:=h.use;rw [hu] at this
  rcases use_mn hP this (show (4:Int)≠0 by decide) with ⟨_,a⟩ | ⟨a,k,g,b,c,d⟩ | ⟨k,fk,b,c,_,d⟩
  · rcases a with a | a <;> cases a
  · simp only at d;omega
  · exact ⟨k,fk,b,c,by simp only at d;omega⟩
theorem ms1 (hP:POK p) {x:Stm} (h:StOK p f x) (hk:x.kind=1):0≤slotP f x.name∨(¬ 0≤slotP f x.name∧∃ (k:Nat) (g:Glo),gloI p x.name=(k:Int)∧p.globals[k]?=some g∧g.kind=2):=by
  have hu:useS x=(x.name,1,0):=by rw [useS,if_pos hk]
  have:=h.use;rw [hu] at this
  rcases use_mn hP this (show (1:Int)≠0 by decide) with ⟨a,_⟩ | ⟨a,k,g,b,c,d⟩ | ⟨_,_,_,_,c,_⟩
  · exact .inl a
  · exact .inr ⟨a,k,g,b,c,by simp only at d;omega⟩
  · cases c
theorem ms2 (hP:POK p) {x:Stm} (h:StOK p f x) (hk:x.kind=2):∃ (k:Nat) (g:Glo),gloI p x.name=(k:Int)∧p.globals[k]?=some g∧g.kind=3:=by
  have hu:useS x=(x.name,3,0):=by rw [useS,if_neg O,if_pos hk]
  have:=h.use;rw [hu] at this
  rcases use_mn hP this (show (3:Int)≠0 by decide) with ⟨_,a⟩ | ⟨a,k,g,b,c,d⟩ | ⟨_,_,_,_,c,_⟩
  · rcases a with a | a <;> cases a
  · exact ⟨k,g,b,c,by simp only at d;omega⟩
  · cases c
theorem ms5 (hP:POK p) {x:Stm} (h:StOK p f x) (hk:x.kind=5):∃ (k:Nat) (fk:Fnc),calI p x.name=(k:Int)∧p.funcs[k]?=some fk∧x.exprs.length=fk.params.length:=by
  have hu:useS x=(x.name,4,(x.exprs.length:Int)):=by rw [useS,if_neg O,if_neg O,if_pos hk]
  have:=h.use;rw [hu] at this
  rcases use_mn hP this (show (4:Int)≠0 by decide) with ⟨_,a⟩ | ⟨a,k,g,b,c,d⟩ | ⟨k,fk,b,c,_,d⟩
  · rcases a with a | a <;> cases a
  · simp only at d;omega
  · exact ⟨k,fk,b,c,by simp only at d;omega⟩
end
theorem nameO_ac (D:Nat) (L:Hl) (s:World) (d0:Nat) (p:Prg) (Ag Af:Option Addr) (ng cg nf cf:Nat) (hGl:Glos s Ag ng cg p.globals) (hFn:Fncs d0 s Af nf cf p.funcs) (f:Fnc) (P1 P2 P3:Option Addr) (p1 r1 p2 r2 p3 r3:Nat) (hP1:Strs s P1 p1 r1 f.params) (hP2:Strs s P2 p2 r2 f.locals) (hsz:f.params.length+f.locals.length≤100) (Vq:World→Ex→List Value→Prop) (x:Ex) (hk:x.kind=2) (hmn:0≤slotP f x.name∨(¬ 0≤slotP f x.name∧∃ (k:Nat) (g:Glo),gloI p x.name=(k:Int)∧p.globals[k]?=some g)):AC Tryz.prog D 163 [.agg #[.slice Ag ng cg,.slice Af nf cf,St f.name,.slice P1 p1 r1,.slice P2 p2 r2,.slice P3 p3 r3],St x.name] L s fun v L' s'=>∃ M',L'=M'++L∧∀ s2,Le D s' s2→Pub M' s2→ViE p f Vq s2 x v:=by
 refine AC_enter (TT:=TT) (fn:=Tryz.f163) TT_ok Tryz.func163 V Z Tryz.ntmps163 Z (rs:=[.tmp 4]) Z [(0,_),(1,_)] Z<|Sr<|JO_boxA Z Z ?_
 intro β1 s1 h1
 refine At Z Z<|Zs<|Sr<|JO_q (QE_ldA 0 [_,_,_,_,_,_] Z Z Z Z Z) Z<|Zqm Z Z<|Jc Z Z Z (tslot_ac D _ _ d0 p Ag Af ng cg nf cf (hGl.le h1) (hFn.le h1) f P1 P2 P3 p1 r1 p2 r2 p3 r3 (hP1.le h1) (hP2.le h1) hsz x.name) ?_
 rintro _ _ s2 h2 ⟨rfl,rfl⟩
 refine JO_allocZ Z [_] Z Z ?_
 intro β3 s3 h3
 refine Wt 0 [_] Y9<|Nt<|Sr<|Wl 0 Y6<|Zqge Z Z Z<|Nt<|?_
 refine JC_ifD Z (fun c4=>?_) (fun c4=>?_)
 ·
  have h0:=c4
  refine Sr<|JO_q (QE_func Z) Z<|At Z Z<|Zo<|Zu<|?_
  refine retQ_mk [] _ (.inr Z) (.tmp Z (.nil)) Z (h1.t h2|>.t h3) (fun sR hS2=>?_)
  exact ⟨[_,_],rfl,fun s2 hs2 hp=>.slot _ hk h0 (slot_lt f _) (hp _ _ _ (List.mem_cons_self ..))⟩
 have hs:=c4
 obtain ⟨gk,g,hgk,hgp⟩:=(hmn.resolve_left hs).2
 have hgl:gk < ng:=by rw [hGl.1];exact (List.getElem?_eq_some_iff.1 hgp).1
 refine Zk<|Zt<|Sr<|JO_q (QE_ldA 1 [_,_,_,_,_,_] Z Z Z Z Z) Z<|Zqm Z Z<|Jc Z Z Z (global_ac D _ _ d0 p Ag Af ng cg nf cf (hGl.le (h1.t h2|>.t h3)) (hFn.le (h1.t h2|>.t h3)) f P1 P2 P3 p1 r1 p2 r2 p3 r3 (hP1.le (h1.t h2|>.t h3)) (hP2.le (h1.t h2|>.t h3)) x.name) ?_
 rintro _ _ s5 h5 ⟨rfl,rfl⟩
 obtain ⟨bz,oz,z,Ai,ni,ci,hAe,hz,hcz,_,huz,_⟩:=Glos.at_ (hGl.le (h1.t h2|>.t h3|>.t h5)) hgl
 subst hAe
 refine JO_allocZ Z [_] Z Z ?_
 intro β6 s6 h6
 refine Wt 0 [_] Y9<|Nt<|Zs<|Sr<|W0 Y5<|W0 Y5<|Wl 2 Y6<|Wl 0 Y6<|JO_q (QE_iaN (j:=gk) Z (show lk _ _=some (.int .i64 (gk:Int)) from by rw [← hgk];rfl) Z Z Z Z hgl) Z<|JO_q (QE_ldsA Z Z Z (hcz.le h6) Z) Z<|JO_allocZ Z [_,_,_,_] Z Z ?_
 intro β7 s7 h7
 refine Wt 0 [_,_,_,_] Y9<|Nt<|Sr<|W0 Y5<|Wl 0 Y6<|Zqeq Z Z Z<|Nt<|?_
 refine JC_ifD Z (fun c8=>?_) (fun c8=>?_)
 ·
  have gc1:=c8
  refine Sr<|JO_q (QE_func Z) Z<|At Z Z<|Zo<|Zu<|?_
  refine retQ_mk [] _ (.inr Z) (.tmp Z (.nil)) Z (h1.t h2|>.t h3|>.t h5|>.t h6|>.t h7) (fun sR hS2=>?_)
  exact ⟨[_,_,_,_],rfl,fun s2 hs2 hp=>.con _ gk z Ai ni ci hk hs hgk hz gc1 (hp _ _ _ (List.mem_cons_self ..)) huz⟩
 have gc1:=c8
 refine Zk<|Zt<|Sr<|JO_q (QE_func Z) Z<|At Z Z<|Zo<|?_
 refine retQ_mk [] _ (.inr Z) (.tmp Z (.nil)) Z (h1.t h2|>.t h3|>.t h5|>.t h6|>.t h7) (fun sR hS2=>?_)
 exact ⟨[_,_,_,_],rfl,fun s2 hs2 hp=>.var _ gk z hk hs hgk hz gc1 (by rw [← hgk];exact (hp _ _ _ (List.mem_cons_of_mem _ (List.mem_cons_self ..))))⟩
theorem assignO_ac (D:Nat) (L:Hl) (s:World) (d0:Nat) (p:Prg) (Ag Af:Option Addr) (ng cg nf cf:Nat) (hGl:Glos s Ag ng cg p.globals) (hFn:Fncs d0 s Af nf cf p.funcs) (f:Fnc) (P1 P2 P3:Option Addr) (p1 r1 p2 r2 p3 r3:Nat) (hP1:Strs s P1 p1 r1 f.params) (hP2:Strs s P2 p2 r2 f.locals) (hsz:f.params.length+f.locals.length≤100) (Vq:World→Stm→List Value→Prop) (d b4:Nat) (x:Stm) (hk:x.kind=1) (hmn:0≤slotP f x.name∨(¬ 0≤slotP f x.name∧∃ (k:Nat) (g:Glo),gloI p x.name=(k:Int)∧p.globals[k]?=some g∧g.kind=2)) (hv:VeR p f d s (argE x.exprs 0) [.func (.func 123) #[] #[.pointer (some ⟨b4,0,none⟩)]]):AC Tryz.prog D 84 [.agg #[.slice Ag ng cg,.slice Af nf cf,St f.name,.slice P1 p1 r1,.slice P2 p2 r2,.slice P3 p3 r3],St x.name,.func (.func 123) #[] #[.pointer (some ⟨b4,0,none⟩)]] L s fun v L' s'=>∃ M',L'=M'++L∧∀ s2,Le D s' s2→Pub M' s2→ViS p f (VeR p f d) Vq s2 x v:=by
 refine AC_enter (TT:=TT) (fn:=Tryz.f84) TT_ok Tryz.func84 V Z Tryz.ntmps84 Z (rs:=[.tmp 6]) Z [(0,_),(1,_),(2,_)] Z<|Sr<|JO_boxA Z Z ?_
 intro β1 s1 h1
 refine JO_box Z Z Z ?_
 intro β2 s2 h2
 refine At Z Z<|Zs<|Sr<|JO_q (QE_ldA 1 [_,_,_,_,_,_] Z Z Z Z Z) Z<|Zqm Z Z<|Jc Z Z Z (tslot_ac D _ _ d0 p Ag Af ng cg nf cf (hGl.le (h1.t h2)) (hFn.le (h1.t h2)) f P1 P2 P3 p1 r1 p2 r2 p3 r3 (hP1.le (h1.t h2)) (hP2.le (h1.t h2)) hsz x.name) ?_
 rintro _ _ s3 h3 ⟨rfl,rfl⟩
 refine JO_allocZ Z [_] Z Z ?_
 intro β4 s4 h4
 refine Wt 0 [_] Y9<|Nt<|Sr<|Wl 0 Y6<|Zqge Z Z Z<|Nt<|?_
 refine JC_ifD Z (fun c5=>?_) (fun c5=>?_)
 ·
  have h0:=c5
  refine Sr<|JO_q (QE_func Z) Z<|At Z Z<|Zo<|Zu<|?_
  refine retQ_mk [] _ (.inr Z) (.tmp Z (.nil)) Z (h1.t h2|>.t h3|>.t h4) (fun sR hS2=>?_)
  exact ⟨[_,_,_],rfl,fun s2 hs2 hp=>.setl _ _ _ hk h0 (slot_lt f _) (hp _ _ _ (List.mem_cons_of_mem _ (List.mem_cons_self ..))) (hp _ _ _ (List.mem_cons_self ..)) (VeR.le (h1.t h2|>.t h3|>.t h4|>.t (hS2.t hs2)) hv)⟩
 have hs:=c5
 obtain ⟨gk,g,hgk,hgp,hg2⟩:=(hmn.resolve_left hs).2
 refine Zk<|Zt<|Sr<|JO_q (QE_ldA 2 [_,_,_,_,_,_] Z Z Z Z Z) Z<|Zqm Z Z<|Jc Z Z Z (global_ac D _ _ d0 p Ag Af ng cg nf cf (hGl.le (h1.t h2|>.t h3|>.t h4)) (hFn.le (h1.t h2|>.t h3|>.t h4)) f P1 P2 P3 p1 r1 p2 r2 p3 r3 (hP1.le (h1.t h2|>.t h3|>.t h4)) (hP2.le (h1.t h2|>.t h3|>.t h4)) x.name) ?_
 rintro _ _ s6 h6 ⟨rfl,rfl⟩
 refine JO_allocZ Z [_] Z Z ?_
 intro β7 s7 h7
 refine Wt 0 [_] Y9<|Nt<|Sr<|JO_q (QE_func Z) Z<|At Z Z<|Zo<|?_
 refine retQ_mk [] _ (.inr Z) (.tmp Z (.nil)) Z (h1.t h2|>.t h3|>.t h4|>.t h6|>.t h7) (fun sR hS2=>?_)
 exact ⟨[_,_,_,_],rfl,fun s2 hs2 hp=>.setg _ _ gk g _ hk hs hgk hgp hg2 (hp _ _ _ (List.mem_cons_of_mem _ (List.mem_cons_of_mem _ (List.mem_cons_self ..)))) (by rw [← hgk];exact (hp _ _ _ (List.mem_cons_self ..))) (VeR.le (h1.t h2|>.t h3|>.t h4|>.t h6|>.t h7|>.t (hS2.t hs2)) hv)⟩
theorem tcallO_ac (D:Nat) (L:Hl) (s:World) (d0:Nat) (p:Prg) (Ag Af:Option Addr) (ng cg nf cf:Nat) (hGl:Glos s Ag ng cg p.globals) (hFn:Fncs d0 s Af nf cf p.funcs) (f:Fnc) (P1 P2 P3:Option Addr) (p1 r1 p2 r2 p3 r3:Nat) (hP1:Strs s P1 p1 r1 f.params) (hP2:Strs s P2 p2 r2 f.locals) (d:Nat) (nm:Str) (xs:List Ex) (A:Option Addr) (n c:Nat) (k:Nat) (fk:Fnc) (hA:VeS p f d s A n c xs) (hg:calI p nm=(k:Int)) (hpk:p.funcs[k]?=some fk) (hl:xs.length=fk.params.length):AC Tryz.prog D 91 [.agg #[.slice Ag ng cg,.slice Af nf cf,St f.name,.slice P1 p1 r1,.slice P2 p2 r2,.slice P3 p3 r3],St nm,.slice A n c] L s fun v L' s'=>∃ M',L'=M'++L∧∀ s2,Le D s' s2→Pub M' s2→CallV p (VeR p f d) s2 nm xs v:=by
 refine AC_enter (TT:=TT) (fn:=Tryz.f91) TT_ok Tryz.func91 V Z Tryz.ntmps91 Z (rs:=[.tmp 6]) Z [(0,_),(1,_),(2,_)] Z<|Sr<|JO_boxA Z Z ?_
 intro β1 s1 h1
 refine JO_box Z Z Z ?_
 intro β2 s2 h2
 refine At Z Z<|Sr<|JO_q (QE_ldA 1 [_,_,_,_,_,_] Z Z Z Z Z) Z<|Zqm Z Z<|Jc Z Z Z (callee_ac D _ _ d0 p Ag Af ng cg nf cf (hGl.le (h1.t h2)) (hFn.le (h1.t h2)) f P1 P2 P3 p1 r1 p2 r2 p3 r3 (hP1.le (h1.t h2)) (hP2.le (h1.t h2)) nm) ?_
 rintro _ _ s3 h3 ⟨rfl,rfl⟩
 refine JO_allocZ Z [_] Z Z ?_
 intro β4 s4 h4
 refine Wt 0 [_] Y9<|Nt<|Sr<|JO_q (QE_func Z) Z<|At Z Z<|Zo<|?_
 refine retQ_mk [] _ (.inr Z) (.tmp Z (.nil)) Z (h1.t h2|>.t h3|>.t h4) (fun sR hS2=>?_)
 exact ⟨[_,_,_],rfl,fun s2 hs2 hp=>⟨_,_,A,n,c,k,fk,rfl,(hp _ _ _ (List.mem_cons_of_mem _ (List.mem_cons_self ..))),by rw [← hg];exact (hp _ _ _ (List.mem_cons_self ..)),hA.le (h1.t h2|>.t h3|>.t h4|>.t (hS2.t hs2)),hg,hpk,hl⟩⟩
theorem binaryO_ac (D:Nat) (L:Hl) (s:World) (p:Prg) (f:Fnc) (d b4 b5:Nat) (x:Ex) (hk:x.kind=7) (ho:4≤x.op∧x.op≤21) (hv1:VeR p f d s (argE x.args 0) [.func (.func 123) #[] #[.pointer (some ⟨b4,0,none⟩)]]) (hv2:VeR p f d s (argE x.args 1) [.func (.func 123) #[] #[.pointer (some ⟨b5,0,none⟩)]]):AC Tryz.prog D 167 [.int .i64 x.op,.func (.func 123) #[] #[.pointer (some ⟨b4,0,none⟩)],.func (.func 123) #[] #[.pointer (some ⟨b5,0,none⟩)]] L s fun v L' s'=>∃ M',L'=M'++L∧∀ s2,Le D s' s2→Pub M' s2→ViE p f (VeR p f d) s2 x v:=by
 refine AC_enter (TT:=TT) (fn:=Tryz.f167) TT_ok Tryz.func167 V Z Tryz.ntmps167 Z (rs:=[.tmp 6]) Z [(0,_),(1,_),(2,_)] Z<|Sr<|JO_box Z Z Z ?_
 intro β1 s1 h1
 refine JO_box Z Z Z ?_
 intro β2 s2 h2
 refine JO_box Z Z Z ?_
 intro β3 s3 h3
 refine At Z Z<|Sr<|JO_q (QE_func Z) Z<|At Z Z<|Zo<|?_
 refine retQ_mk [] _ (.inr Z) (.tmp Z (.nil)) Z (h1.t h2|>.t h3) (fun sR hS2=>?_)
 exact ⟨[_,_,_],rfl,fun s2 hs2 hp=>.bin _ _ _ _ _ hk (hp _ _ _ (List.mem_cons_of_mem _ (List.mem_cons_self ..))) (hp _ _ _ (List.mem_cons_of_mem _ (List.mem_cons_of_mem _ (List.mem_cons_self ..)))) (hp _ _ _ (List.mem_cons_self ..)) (VeR.le (h1.t h2|>.t h3|>.t (hS2.t hs2)) hv1) (VeR.le (h1.t h2|>.t h3|>.t (hS2.t hs2)) hv2) ho⟩
theorem ViE.func {p:Prg} {f:Fnc} {V:World→Ex→List Value→Prop} {s:World} {x:Ex} {v:Value} (h:ViE p f V s x v):∃ kk cap,v=.func (.func kk) #[] (List.toArray cap):=by
  cases h with
  | call w hk h=>obtain ⟨be,bi,A,n,c,k,fk,rfl,_⟩:=h;exact ⟨_,[_,_],rfl⟩
  | num=>exact ⟨_,[_],rfl⟩
  | slot=>exact ⟨_,[_],rfl⟩
  | con=>exact ⟨_,[_],rfl⟩
  | var=>exact ⟨_,[_],rfl⟩
  | idx=>exact ⟨_,[_,_],rfl⟩
  | get=>exact ⟨_,[],rfl⟩
  | una=>exact ⟨_,[_,_],rfl⟩
  | bin=>exact ⟨_,[_,_,_],rfl⟩
theorem ViS.func {p:Prg} {f:Fnc} {E:World→Ex→List Value→Prop} {V:World→Stm→List Value→Prop} {s:World} {x:Stm} {v:Value} (h:ViS p f E V s x v):∃ kk cap,v=.func (.func kk) #[] (List.toArray cap):=by
  cases h with
  | setl=>exact ⟨_,[_,_],rfl⟩
  | setg=>exact ⟨_,[_,_],rfl⟩
  | store=>exact ⟨_,[_,_],rfl⟩
  | cond=>exact ⟨_,[_,_,_],rfl⟩
  | loop=>exact ⟨_,[_,_],rfl⟩
  | call=>exact ⟨_,[_],rfl⟩
  | ret=>exact ⟨_,[_],rfl⟩
  | put=>exact ⟨_,[_],rfl⟩
  | stop=>exact ⟨_,[_],rfl⟩
  | brk=>exact ⟨_,[],rfl⟩
  | cont=>exact ⟨_,[],rfl⟩
theorem mostE_le (k:Int):mostE k≤6:=by
  unfold mostE;repeat' split
  all_goals omega
theorem mostS_l6 (k:Int):mostS k≤6:=by
  unfold mostS;repeat' split
  all_goals omega
def XPR (D d:Nat):Prop:=∀ (L:Hl) (s:World) (d0:Nat) (p:Prg) (Ag Af:Option Addr) (ng cg nf cf:Nat) (hGl:Glos s Ag ng cg p.globals) (hFn:Fncs d0 s Af nf cf p.funcs) (f:Fnc) (P1 P2 P3:Option Addr) (p1 r1 p2 r2 p3 r3:Nat) (hP1:Strs s P1 p1 r1 f.params) (hP2:Strs s P2 p2 r2 f.locals) (hsz:f.params.length+f.locals.length≤100) (hPK:POK p) (x:Ex) (A:Option Addr) (n c:Nat),Exs d s A n c x.args→U32 x.num→XOK p f x→AC Tryz.prog D 122 [.agg #[.slice Ag ng cg,.slice Af nf cf,St f.name,.slice P1 p1 r1,.slice P2 p2 r2,.slice P3 p3 r3],.agg #[.int .i64 x.kind,.int .i64 x.op,.int .u32 x.num,St x.name,.slice A n c]] L s fun v L' s'=>L=L'∧ViE p f (VeR p f d) s' x v
def XSR (D d:Nat):Prop:=∀ (L:Hl) (s:World) (d0:Nat) (p:Prg) (Ag Af:Option Addr) (ng cg nf cf:Nat) (hGl:Glos s Ag ng cg p.globals) (hFn:Fncs d0 s Af nf cf p.funcs) (f:Fnc) (P1 P2 P3:Option Addr) (p1 r1 p2 r2 p3 r3:Nat) (hP1:Strs s P1 p1 r1 f.params) (hP2:Strs s P2 p2 r2 f.locals) (hsz:f.params.length+f.locals.length≤100) (hPK:POK p) (A:Option Addr) (n c:Nat) (xs:List Ex),Exs d s A n c xs→(∀ x∈xs,XOK p f x)→n≤100000→AC Tryz.prog D 83 [.agg #[.slice Ag ng cg,.slice Af nf cf,St f.name,.slice P1 p1 r1,.slice P2 p2 r2,.slice P3 p3 r3],.slice A n c] L s fun v L' s'=>L=L'∧∃ A' n' c',v=.slice A' n' c'∧VeS p f d s' A' n' c' xs
theorem texprs_step (D d:Nat) (ih:∀ e,d=e+1→XPR D e) (L:Hl) (s:World) (d0:Nat) (p:Prg) (Ag Af:Option Addr) (ng cg nf cf:Nat) (hGl:Glos s Ag ng cg p.globals) (hFn:Fncs d0 s Af nf cf p.funcs) (f:Fnc) (P1 P2 P3:Option Addr) (p1 r1 p2 r2 p3 r3:Nat) (hP1:Strs s P1 p1 r1 f.params) (hP2:Strs s P2 p2 r2 f.locals) (hsz:f.params.length+f.locals.length≤100) (hPK:POK p) (A:Option Addr) (n c:Nat) (xs:List Ex) (hA:Exs d s A n c xs) (hO:∀ x∈xs,XOK p f x) (hnl:n≤100000):AC Tryz.prog D 83 [.agg #[.slice Ag ng cg,.slice Af nf cf,St f.name,.slice P1 p1 r1,.slice P2 p2 r2,.slice P3 p3 r3],.slice A n c] L s fun v L' s'=>∃ M',L'=M'++L∧∀ s2,Le D s' s2→Pub M' s2→∃ A' n' c',v=.slice A' n' c'∧VeS p f d s2 A' n' c' xs:=by
 have hn1:=hA.1
 have hb1:=hA.2.1
 have hb2:=hA.2.2.1
 have hlim:n≤100000:=hnl
 refine AC_enter (TT:=TT) (fn:=Tryz.f83) TT_ok Tryz.func83 V Z Tryz.ntmps83 Z (rs:=[.tmp 4]) Z [(0,_),(1,_)] Z<|Sr<|JO_boxA Z Z ?_
 intro β1 s1 h1
 refine At Z Z<|Sr<|At Z Z<|Zs<|Sr<|Zqm Z Z<|Ws Y4<|Zqm Z Z<|Nt<|Zp<|?_
 refine JC_loop (γ:=Nat×Value×Hl) (fun g=>[(2,_),(4,_),(5,g.2.1),(9,_),(10,_),(11,.int .i64 (g.1:Int))]) (fun g=>_::(g.2.2++L)) (fun g tw=>Le D s1 tw∧(g.1≤n∧∃ css,FL.Own 158 1 g.2.2 g.2.1 g.1 (List.flatten css)∧All2 (fun x cs=>cs.length=1∧VeR p f d tw x cs) (xs.take g.1) css)) (fun g=>n - g.1) (fun _ _ _ h hl=>⟨h.1.trans hl,(by obtain ⟨k1,css,k2,k3⟩:=h.2;exact ⟨k1,css,k2,k3.mono fun _ _ k=>⟨k.1,VeR.le hl k.2⟩⟩)⟩) (0,.slice none 0 0,[]) (.cons Z (.cons Z (.cons Z (.cons Z (.cons Z (.cons Z (.nil _))))))) Z ⟨Le.refl _,⟨Nat.zero_le _,[],.nil,.nil⟩⟩ ?_
 intro g s2 I2
 obtain ⟨k,vk,Mk⟩:=g
 obtain ⟨hk0,css,hOk,hA2⟩:=I2.2
 simp only at hk0 hOk hA2
 dsimp only
 refine Sr<|Zqlt Z Z Z<|Nt<|Zs<|?_
 refine JC_ifD Z (fun c3=>?_) (fun c3=>?_)
 ·
  have hk:k < n:=by omega
  obtain ⟨e,b,off,x,A',n',c',hd,rfl,hx,hcx,hxa,hxu,_⟩:=Exs.at_ (hA.le (h1.t I2.1)) hk
  have hxo:=hO x (List.mem_of_getElem? hx)
  refine Zk<|Zt<|Zs<|Zp<|Sr<|JO_q (QE_iaN Z Z Z Z Z Z hk) Z<|JO_q (QE_ldsA Z Z Z (hcx.le (Lr D)) Z) Z<|JO_allocZ Z [_,_,_,_,_] Z Z ?_
  intro β4 s4 h4
  refine Wt 0 [_,_,_,_,_] Y9<|Nt<|Sr<|JO_q (QE_ldA 1 [_,_,_,_,_,_] Z Z Z Z Z) Z<|JO_q (QE_ldA 0 [_,_,_,_,_] Z Z Z Z Z) Z<|Jc Z Z Z (ih e hd _ _ d0 p Ag Af ng cg nf cf (hGl.le (h1.t I2.1|>.t h4)) (hFn.le (h1.t I2.1|>.t h4)) f P1 P2 P3 p1 r1 p2 r2 p3 r3 (hP1.le (h1.t I2.1|>.t h4)) (hP2.le (h1.t I2.1|>.t h4)) hsz hPK x A' n' c' (hxa.le h4) hxu hxo) ?_
  rintro _ _ s5 h5 ⟨rfl,hvi⟩
  obtain ⟨kk,cap,hvf⟩:=hvi.func
  subst hvf
  refine JO_allocZ Z [_] Z Z ?_
  intro β6 s6 h6
  refine Wt 0 [_] Y9<|Nt<|JC_pubX [] [_,_] _ ?_
  intro s7 h7 hpub7
  simp only [cQ9,nQ9]
  have gbx:=hpub7 _ _ _ (List.mem_cons_self ..)
  refine Zr<|Zqm Z Z<|JO_q (QE_func Z) Z<|JO_bs [(_,_)] [_] Z Z Z Z Z Z Z Z Z ?_
  intro β8 s8 h8 hc8
  refine JO_app (sz:=1) [_] Mk L Z Z Z Z Z Z Z hOk (Row.of_cells (hc8.le (Lr D)) Z Z) ⟨by simp [ti158];omega,by omega⟩ Z ?_
  intro v9 M9 s9 h9 oq
  simp only [cQ9,nQ9]
  refine Zqa Z Z<|Zn<|Zb<|Zt<|Zr<|Zqadd Z Z Z (w64 O O)<|Zqm Z Z<|Zn<|?_
  refine thenQ_n ⟨(k+1,v9,M9),[],kp,Z,⟨(I2.1.t h4|>.t h5|>.t h6|>.t h7|>.t h8|>.t h9),⟨by simp only;omega,css++[[_]],by simp only [List.flatten_append,List.flatten_cons,List.flatten_nil,List.append_nil];exact oq,by simp only;rw [take_snocE hx];exact (hA2.mono fun _ _ k=>⟨k.1,VeR.le (h4.t h5|>.t h6|>.t h7|>.t h8|>.t h9) k.2⟩).snoc ⟨Z,hd▸⟨_,_,Z,gbx.le (h8.t h9),hvi.le (h6.t h7|>.t h8|>.t h9) (fun _ _ h=>VeR.le (h6.t h7|>.t h8|>.t h9) h)⟩⟩⟩⟩,(by simp only;omega)⟩
 obtain rfl:n=k:=by omega
 rw [List.take_of_length_le O] at hA2
 obtain ⟨Ak,ck,rfl,_,_⟩:=Own.slice hOk
 refine Zl<|Zv<|Zv<|Zd<|Zt<|Sr<|Zqm Z Z<|At Z Z<|Zo<|?_
 refine retQ_mk [] _ (.inr Z) (.tmp Z (.nil)) Z (h1.t I2.1) (fun sR hS2=>?_)
 exact ⟨_::Mk,rfl,fun s2 hs2 hp=>⟨_,_,_,rfl,Own.rows hOk hp.tail (hA2.mono fun _ _ k=>⟨k.1,VeR.le ((Lr D).t (hS2.t hs2)) k.2⟩) hn1⟩⟩
theorem texpr_step (D d:Nat) (ih:XSR D d) (L:Hl) (s:World) (d0:Nat) (p:Prg) (Ag Af:Option Addr) (ng cg nf cf:Nat) (hGl:Glos s Ag ng cg p.globals) (hFn:Fncs d0 s Af nf cf p.funcs) (f:Fnc) (P1 P2 P3:Option Addr) (p1 r1 p2 r2 p3 r3:Nat) (hP1:Strs s P1 p1 r1 f.params) (hP2:Strs s P2 p2 r2 f.locals) (hsz:f.params.length+f.locals.length≤100) (hPK:POK p) (x:Ex) (A:Option Addr) (n c:Nat) (hA:Exs d s A n c x.args) (hxu:U32 x.num) (hxo:XOK p f x):AC Tryz.prog D 122 [.agg #[.slice Ag ng cg,.slice Af nf cf,St f.name,.slice P1 p1 r1,.slice P2 p2 r2,.slice P3 p3 r3],.agg #[.int .i64 x.kind,.int .i64 x.op,.int .u32 x.num,St x.name,.slice A n c]] L s fun v L' s'=>∃ M',L'=M'++L∧∀ s2,Le D s' s2→Pub M' s2→ViE p f (VeR p f d) s2 x v:=by
 obtain ⟨hC,_⟩:=exV_eq hxo.1
 obtain ⟨hk1,hk7,hle,hmo,ho6,ho7⟩:=exC_args hC
 have hn1:=hA.1
 have hm6:=mostE_le x.kind
 refine AC_enter (TT:=TT) (fn:=Tryz.f122) TT_ok Tryz.func122 V Z Tryz.ntmps122 Z (rs:=[.tmp 4]) Z [(0,_),(1,_)] Z<|Sr<|JO_boxA Z Z ?_
 intro β1 s1 h1
 refine JO_boxA Z Z ?_
 intro β2 s2 h2
 refine At Z Z<|Sr<|JO_q (QE_ldA 1 [_,_,_,_,_,_] Z Z Z Z Z) Z<|Wb Y5<|Wl 0 Y6<|Jc Z Z Z (ih _ _ d0 p Ag Af ng cg nf cf (hGl.le (h1.t h2)) (hFn.le (h1.t h2)) f P1 P2 P3 p1 r1 p2 r2 p3 r3 (hP1.le (h1.t h2)) (hP2.le (h1.t h2)) hsz hPK A n c x.args (hA.le (h1.t h2)) hxo.args O) ?_
 rintro _ _ s3 h3 ⟨rfl,A',n',c',rfl,hV⟩
 have hn2:=hV.1
 refine JO_allocZ Z [_] Z Z ?_
 intro β4 s4 h4
 refine Wt 0 [_] Y9<|Nt<|Zs<|Sr<|W0 Y5<|Wl 1 Y6<|Nt<|Zp<|Sr<|Zqeq Z Z Z<|At Z Z<|?_
 refine JC_ifD Z (fun c5=>?_) (fun c5=>?_)
 ·
  have hk1:x.kind=1:=c5
  refine Sr<|JO_q (QE_func Z) Z<|At Z Z<|Zo<|Zc<|Zu<|?_
  refine retQ_mk [] _ (.inr Z) (.tmp Z (.nil)) Z (h1.t h2|>.t h3|>.t h4) (fun sR hS2=>?_)
  exact ⟨[_,_,_],rfl,fun s2 hs2 hp=>.num _ A n c hk1 (hp _ _ _ (List.mem_cons_of_mem _ (List.mem_cons_self ..))) hxu⟩
 refine Sr<|Zqeq Z Z Z<|At Z Z<|?_
 refine JC_ifD Z (fun c6=>?_) (fun c6=>?_)
 ·
  have hk2:x.kind=2:=c6
  refine Sr<|JO_q (QE_ldA 2 [_,_,_,_,_,_] Z Z Z Z Z) Z<|Wb Y5<|Wl 1 Y6<|Jc Z Z Z (AC.pubW (nameO_ac D _ _ d0 p Ag Af ng cg nf cf (hGl.le (h1.t h2|>.t h3|>.t h4)) (hFn.le (h1.t h2|>.t h3|>.t h4)) f P1 P2 P3 p1 r1 p2 r2 p3 r3 (hP1.le (h1.t h2|>.t h3|>.t h4)) (hP2.le (h1.t h2|>.t h3|>.t h4)) hsz (VeR p f d) x hk2 (mn2 hPK hxo hk2))) ?_
  rintro _ _ s7 h7 ⟨rfl,hW⟩
  refine At Z Z<|Zo<|Zc<|Zu<|?_
  refine retQ_mk [] _ (.inr Z) (.tmp Z (.nil)) Z (h1.t h2|>.t h3|>.t h4|>.t h7) (fun sR hS2=>?_)
  first
    | (exact ⟨[_,_,_],rfl,fun s2 hs2 hp=>hW.le ((Lr D).t (hS2.t hs2)) fun _ _ h=>VeR.le ((Lr D).t (hS2.t hs2)) h⟩)
    | (exact ⟨[_,_,_],rfl,fun s2 hs2 hp=>.call _ hk4 (hW.le ((Lr D).t (hS2.t hs2)) fun _ _ h=>VeR.le ((Lr D).t (hS2.t hs2)) h)⟩)
 refine Sr<|Zqeq Z Z Z<|At Z Z<|?_
 refine JC_ifD Z (fun c8=>?_) (fun c8=>?_)
 ·
  have hk3:x.kind=3:=c8
  obtain ⟨k,g,hg,hgp,g3⟩:=mn3 hPK hxo hk3
  have h0n:0 < n':=by have h9:leastE x.kind=1:=(by rw [hk3];rfl);omega
  refine Sr<|JO_q (QE_ldA 2 [_,_,_,_,_,_] Z Z Z Z Z) Z<|Wb Y5<|Wl 1 Y6<|Jc Z Z Z (global_ac D _ _ d0 p Ag Af ng cg nf cf (hGl.le (h1.t h2|>.t h3|>.t h4)) (hFn.le (h1.t h2|>.t h3|>.t h4)) f P1 P2 P3 p1 r1 p2 r2 p3 r3 (hP1.le (h1.t h2|>.t h3|>.t h4)) (hP2.le (h1.t h2|>.t h3|>.t h4)) x.name) ?_
  rintro _ _ s9 h9 ⟨rfl,rfl⟩
  refine JO_allocZ Z [_] Z Z ?_
  intro β10 s10 h10
  refine Wt 0 [_] Y9<|Nt<|Sr<|JO_q (QE_func Z) Z<|At Z Z<|Zo<|Zc<|Zu<|?_
  refine retQ_mk [] _ (.inr Z) (.tmp Z (.nil)) Z (h1.t h2|>.t h3|>.t h4|>.t h9|>.t h10) (fun sR hS2=>?_)
  exact ⟨[_,_,_,_],rfl,fun s2 hs2 hp=>.idx _ _ k g _ _ _ hk3 hg hgp g3 (by rw [← hg];exact (hp _ _ _ (List.mem_cons_self ..))) (hp _ _ _ (List.mem_cons_of_mem _ (List.mem_cons_self ..))) (hV.le (h4.t h9|>.t h10|>.t (hS2.t hs2))) h0n⟩
 refine Sr<|Zqeq Z Z Z<|At Z Z<|?_
 refine JC_ifD Z (fun c11=>?_) (fun c11=>?_)
 ·
  have hk4:x.kind=4:=c11
  obtain ⟨k,fk,hg,hpk,hl⟩:=mn4 hPK hxo hk4
  refine Sr<|JO_q (QE_ldA 2 [_,_,_,_,_,_] Z Z Z Z Z) Z<|Wb Y5<|Wl 1 Y6<|Wl 0 Y6<|Jc Z Z Z (AC.pubW (tcallO_ac D _ _ d0 p Ag Af ng cg nf cf (hGl.le (h1.t h2|>.t h3|>.t h4)) (hFn.le (h1.t h2|>.t h3|>.t h4)) f P1 P2 P3 p1 r1 p2 r2 p3 r3 (hP1.le (h1.t h2|>.t h3|>.t h4)) (hP2.le (h1.t h2|>.t h3|>.t h4)) d x.name x.args A' n' c' k fk (hV.le h4) hg hpk hl)) ?_
  rintro _ _ s12 h12 ⟨rfl,hW⟩
  refine At Z Z<|Zo<|Zc<|Zu<|?_
  refine retQ_mk [] _ (.inr Z) (.tmp Z (.nil)) Z (h1.t h2|>.t h3|>.t h4|>.t h12) (fun sR hS2=>?_)
  first
    | (exact ⟨[_,_,_],rfl,fun s2 hs2 hp=>hW.le ((Lr D).t (hS2.t hs2)) fun _ _ h=>VeR.le ((Lr D).t (hS2.t hs2)) h⟩)
    | (exact ⟨[_,_,_],rfl,fun s2 hs2 hp=>.call _ hk4 (hW.le ((Lr D).t (hS2.t hs2)) fun _ _ h=>VeR.le ((Lr D).t (hS2.t hs2)) h)⟩)
 refine Sr<|Zqeq Z Z Z<|At Z Z<|?_
 refine JC_ifD Z (fun c13=>?_) (fun c13=>?_)
 ·
  have hk5:x.kind=5:=c13
  refine Sr<|At Z Z<|Zo<|Zc<|Zu<|?_
  refine retQ_mk [] _ (.inr Z) (.tmp Z (.nil)) Z (h1.t h2|>.t h3|>.t h4) (fun sR hS2=>?_)
  exact ⟨[_,_,_],rfl,fun s2 hs2 hp=>.get hk5⟩
 refine Sr<|Zqeq Z Z Z<|At Z Z<|?_
 refine JC_ifD Z (fun c14=>?_) (fun c14=>?_)
 ·
  have hk6:x.kind=6:=c14
  have h0n:0 < n':=by have h9:leastE x.kind=1:=(by rw [hk6];rfl);omega
  refine Sr<|JO_q (QE_func Z) Z<|At Z Z<|Zo<|Zc<|Zu<|?_
  refine retQ_mk [] _ (.inr Z) (.tmp Z (.nil)) Z (h1.t h2|>.t h3|>.t h4) (fun sR hS2=>?_)
  exact ⟨[_,_,_],rfl,fun s2 hs2 hp=>.una _ _ A n c _ _ _ hk6 (hp _ _ _ (List.mem_cons_of_mem _ (List.mem_cons_self ..))) (hp _ _ _ (List.mem_cons_self ..)) (hV.le (h4.t (hS2.t hs2))) h0n⟩
 have h0n:0 < n':=by have h9:leastE x.kind=2:=(by rw [show x.kind=7 by omega];rfl);omega
 have h1n:1 < n':=by have h9:leastE x.kind=2:=(by rw [show x.kind=7 by omega];rfl);omega
 obtain ⟨B0,o0,b4,hAe0,hcE,hvE⟩:=VeS.at_ hV h0n
 subst hAe0
 obtain ⟨B1,o1,b5,hAe,hcF,hvF⟩:=VeS.at_ hV h1n
 simp only [Option.some.injEq,Addr.mk.injEq,and_true] at hAe
 obtain ⟨hAe1,hAe2⟩:=hAe
 subst hAe1
 subst hAe2
 refine Zk<|Zb<|Zt<|Zs<|JC_draw drawsMixed 10 Z _ (fun _ h=>h) ?_
 intro s15 h15
 refine za 0 Z (We Y4) Z<|za 1 Z (Wd 1 Y5) Z<|za 2 Z (Wd 0 Y5) Z<|za 3 Z (QE_ia1 Z Z Z Z Z Z h0n) Z<|za 4 Z (QE_ldsR0 Z Z Z (hcE.le (h4.t h15)) Z) Z<|za 5 Z (Wd 0 Y5) Z<|za 6 Z (QE_ia1 Z Z Z Z Z Z h1n) Z<|za 7 Z (QE_ldsR0 Z Z Z (hcF.le (h4.t h15)) Z) Z<|JA_1 8 V<|Jb Z trivial Z Z Z (AC.pubW (binaryO_ac D _ _ p f d b4 b5 x O (ho7 O) (VeR.le (h4.t h15) hvE) (VeR.le (h4.t h15) hvF))) ?_
 rintro _ _ s16 h16 ⟨rfl,hW⟩
 refine ⟨fun _ _ h=>h,?_⟩
 refine za 9 Z (QE_as Z) Z<|JA_done V<|Zt<|Zo<|?_
 refine retQ_mk [] _ (.inr Z) (.tmp Z (.nil)) Z (h1.t h2|>.t h3|>.t h4|>.t h15|>.t h16) (fun sR hS2=>?_)
 first
   | (exact ⟨[_,_,_],rfl,fun s2 hs2 hp=>hW.le ((Lr D).t (hS2.t hs2)) fun _ _ h=>VeR.le ((Lr D).t (hS2.t hs2)) h⟩)
   | (exact ⟨[_,_,_],rfl,fun s2 hs2 hp=>.call _ hk4 (hW.le ((Lr D).t (hS2.t hs2)) fun _ _ h=>VeR.le ((Lr D).t (hS2.t hs2)) h)⟩)
theorem xsr (D:Nat):∀ d,XSR D d
  | 0=>fun L s d0 p Ag Af ng cg nf cf hGl hFn f P1 P2 P3 p1 r1 p2 r2 p3 r3 hP1 hP2 hsz hPK A n c xs hA hO hnl=>AC.pubW (texprs_step D 0 (fun e h=>by omega) L s d0 p Ag Af ng cg nf cf hGl hFn f P1 P2 P3 p1 r1 p2 r2 p3 r3 hP1 hP2 hsz hPK A n c xs hA hO hnl)
  | d+1=>fun L s d0 p Ag Af ng cg nf cf hGl hFn f P1 P2 P3 p1 r1 p2 r2 p3 r3 hP1 hP2 hsz hPK A n c xs hA hO hnl=>AC.pubW (texprs_step D (d+1) (fun e h=>(show d=e by omega)▸fun L s d0 p Ag Af ng cg nf cf hGl hFn f P1 P2 P3 p1 r1 p2 r2 p3 r3 hP1 hP2 hsz hPK x A n c hA hu hx=>AC.pubW (texpr_step D d (xsr D d) L s d0 p Ag Af ng cg nf cf hGl hFn f P1 P2 P3 p1 r1 p2 r2 p3 r3 hP1 hP2 hsz hPK x A n c hA hu hx)) L s d0 p Ag Af ng cg nf cf hGl hFn f P1 P2 P3 p1 r1 p2 r2 p3 r3 hP1 hP2 hsz hPK A n c xs hA hO hnl)
end Go.Proofs.YtpdnijphccdiiaaGreatDoor
