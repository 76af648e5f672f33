/- Part 2. -/
import Derived.Test.YtjindleklapakaaGreatDoorM25x1
import Derived.Laws.BytesString
set_option linter.unusedVariables false
set_option linter.unusedSimpArgs false
set_option linter.unnecessarySimpa false
set_option maxRecDepth 100000
set_option maxHeartbeats 8000000
namespace Go.FL
open Go Go.RowKit
structure KeyK(κ:Type) [DecidableEq κ] (d:TypeDesc) (kf:κ→Value):Prop where
 same:∀ a b,Instr.sameNow d (kf a) (kf b)=some (decide (a=b))
 bits:∀ a,Instr.sameBits 10000 (kf a) (kf a)=true
 check:∀ (P:Program) (w:World) (t:Nat) (e:Bool) (a:κ),P.underlying t=some d→(Instr.checkKey e 10000 t (kf a)).run P w=.ok () w
theorem KeyK.int(k:IntKind):KeyK Int (.int k) (Value.int k):=
 ⟨fun a b=>by simp [Instr.sameNow];rfl,fun a=>by simp [Instr.sameBits],fun P w t e a h=>by unfold Instr.checkKey;simp [run_underlying h]⟩
theorem ql6(a b:List UInt8):((⟨a.toArray⟩:ByteArray) == ⟨b.toArray⟩)=decide (a=b):=by
 have e:((⟨a.toArray⟩:ByteArray) == ⟨b.toArray⟩)=(a.toArray == b.toArray):=rfl
 rw [e]
 by_cases h:a=b <;> simp [h]
theorem KeyK.str:KeyK (List UInt8) .string (fun l=>St l):=
 ⟨fun a b=>by simp only [Instr.sameNow,ql6],fun a=>by simp [Instr.sameBits,ql6],fun P w t e a h=>by unfold Instr.checkKey;simp [run_underlying h]⟩
section
variable{κ:Type} [DecidableEq κ] {dk:TypeDesc} {kf:κ→Value}
def mp(kf:κ→Value)(es:List (κ×Value×Nat))(ck:Nat):Obj:=.map (es.map fun x=>⟨kf x.1,x.2.1,x.2.2⟩).toArray ck
def qb4:List (κ×Value×Nat)→κ→Option Value
 | [],_=>none
 | x::r,k=>if k=x.1 then some x.2.1 else qb4 r k
def qh2(es:List (κ×Value×Nat))(k:κ)(v:Value)(ck:Nat):List (κ×Value×Nat):=match es with
 | []=>[(k,v,ck)]
 | x::r=>if k=x.1 then (x.1,v,x.2.2)::r else x::qh2 r k v ck
theorem qgI(es:List (κ×Value×Nat))(k:κ)(v:Value)(ck:Nat)(j:κ):qb4 (qh2 es k v ck) j=if j=k then some v else qb4 es j:=by
  induction es with
  | nil=>simp [qh2,qb4]
  | cons x r ih=>
    simp only [qh2]
    by_cases h:k=x.1
    · simp only [h,if_true,qb4]
      by_cases hj:j=x.1 <;> simp [hj,h]
    · simp only [h,if_false,qb4,ih]
      by_cases hj:j=x.1
      · have:¬ x.1=k:=fun e=>h e.symm
        simp [hj,this]
      · simp [hj]
theorem qfd(K:KeyK κ dk kf)(es:List (κ×Value×Nat))(k:κ)(i:Nat) :
    (qb4 es k=none∧Instr.findNow dk (kf k) (es.map fun x=>⟨kf x.1,x.2.1,x.2.2⟩) i=some none) ∨
    ∃ j v b,qb4 es k=some v∧es[j]?=some (k,v,b)∧(∀ v' ck,qh2 es k v' ck=es.set j (k,v',b))∧Instr.findNow dk (kf k) (es.map fun x=>⟨kf x.1,x.2.1,x.2.2⟩) i=some (some (i+j,v)):=by
  induction es generalizing i with
  | nil=>exact .inl ⟨rfl,rfl⟩
  | cons x r ih=>
    obtain ⟨a,v,b⟩:=x
    simp only [List.map_cons,Instr.findNow,K.same]
    by_cases h:k=a
    · subst h
      exact .inr ⟨0,v,b,by simp [qb4],rfl,fun v' ck=>by simp [qh2],by simp⟩
    · rcases ih (i+1) with ⟨h1,h2⟩ | ⟨j,v',b',h1,h2,h3,h4⟩
      · exact .inl ⟨by simp [qb4,h,h1],by simp [h,h2]⟩
      · exact .inr ⟨j+1,v',b',by simp [qb4,h,h1],by simpa using h2,fun v'' ck=>by simp [qh2,h,h3],by simp [h,h4];omega⟩
variable{P:Program}{TT:qbf}{D n:Nat}{Q:qbF}{fr:Fr}{L L' K:Hl}{s s' s0:World}{ops:Array Oper}{rest:List Oper}{d ty:Nat}{op:Op}{pos:String}{af:Array Edge}{v:Value}
def qja(P:Program)(t:Nat)(dk:TypeDesc)(z:Value):Prop:=∃ kt et,P.underlying t=some (.map kt et)∧P.underlying kt=some dk∧∀ w,(zeroValue et).run P w=.ok z w
theorem qf9(KK:KeyK κ dk kf){t b:Nat}{z:Value}(hm:qja P t dk z){es:List (κ×Value×Nat)}{ck:Nat}{w:World}(hb:w.heap[b]?=some (mp kf es ck))(k:κ)(c:Bool) :
    (Instr.lookup t (.map (some b)) (kf k) c).run P w=.ok (if c then .tuple #[(qb4 es k).getD z,.bool (qb4 es k).isSome] else (qb4 es k).getD z) w:=by
  obtain ⟨kt,et,h1,h2,h3⟩:=hm
  rcases qfd KK es k 0 with ⟨a1,a2⟩ | ⟨j,v,bn,a1,_,_,a2⟩
  · simp only [Instr.lookup,Sem.run_bind,run_underlying h1,Result.andThen_ok,Go.MapKept.run_getObj_map hb,Sem.run_pure,KK.check P w kt _ k h2,Go.MapKept.run_findKey h2 a2,h3,a1]
    cases c <;> rfl
  · simp only [Instr.lookup,Sem.run_bind,run_underlying h1,Result.andThen_ok,Go.MapKept.run_getObj_map hb,Sem.run_pure,KK.check P w kt _ k h2,Go.MapKept.run_findKey h2 a2,a1]
    cases c <;> rfl
theorem qlu(KK:KeyK κ dk kf){t b:Nat}{x y:Operand}{z:Value}(i:Nat)(hm:qja P t dk z){es:List (κ×Value×Nat)}{ck:Nat}{k:κ}(hx:lk fr x=some (.map (some b)))(hy:lk fr y=some (kf k))(hi:K[i]?=some (b,mp kf es ck)) :
  QE P TT D fr (.lookup t x y false) ty K s0 ((qb4 es k).getD z):=fun hT dst pos af g ρ hρ L s ho _ hK=>by
 have hb:=qa3 ho (hK _ (List.mem_of_getElem? hi))
 simp only [execOp,hρ x _ hx,hρ y _ hy,Sem.run_bind,qf9 KK hm hb,Result.andThen_ok,Sem.run_pure]
 rfl
theorem qgS(KK:KeyK κ dk kf){t b:Nat}{x y:Operand}{z:Value}(i:Nat)(hm:qja P t dk z){es:List (κ×Value×Nat)}{ck:Nat}{k:κ}(hx:lk fr x=some (.map (some b)))(hy:lk fr y=some (kf k))(hi:K[i]?=some (b,mp kf es ck)) :
  QE P TT D fr (.lookup t x y true) ty K s0 (.tuple #[(qb4 es k).getD z,.bool (qb4 es k).isSome]):=fun hT dst pos af g ρ hρ L s ho _ hK=>by
 have hb:=qa3 ho (hK _ (List.mem_of_getElem? hi))
 simp only [execOp,hρ x _ hx,hρ y _ hy,Sem.run_bind,qf9 KK hm hb,Result.andThen_ok,Sem.run_pure]
 rfl
omit [DecidableEq κ] in
theorem qny{t:Nat}(kf:κ→Value)(ho:OKL D L s):Ev P TT D fr (.makeMap t none) ty L s (.value (.map (some s.heap.size))) ((s.heap.size,mp kf [] 0)::L) (s.alloc (dum D)):=fun hT _ dst pos af g ρ _=>by
 obtain ⟨h1,h2,h3⟩:=qa2 ho (mp kf [] 0)
 refine ⟨?_,h2⟩
 rw [← h1]
 simp [execOp,Instr.makeMap,qaC,mp]
omit [DecidableEq κ] in
theorem qjS{t:Nat}(kf:κ→Value)(hd:Nat.blt d n=true)(k:∀ β s',Le D s s'→JO P TT D n ops Q rest ((d,.map (some β))::fr) ((β,mp kf [] 0)::L) s') :
  JO P TT D n ops Q (⟨some d,.makeMap t none,ty,pos,af,none⟩::rest) fr L s:=fun hT a hr ho=>qgf hd (qny kf ho) (k _ _ (qa2 ho (mp kf [] 0)).2.2) hT a hr ho
theorem qrz(KK:KeyK κ dk kf){t b:Nat}{x y z:Operand}{zv:Value}(i:Nat)(hm:qja P t dk zv){es:List (κ×Value×Nat)}{ck:Nat}{k:κ}(hx:lk fr x=some (.map (some b)))(hy:lk fr y=some (kf k))(hz:lk fr z=some v)(hi:L[i]?=some (b,mp kf es ck)) :
    ∃ ck',Ev P TT D fr (.mapUpdate t x y z) ty L s .skip (qhN L i (mp kf (qh2 es k v ck) ck')) s:=by
  obtain ⟨kt,et,h1,h2,h3⟩:=hm
  rcases qfd KK es k 0 with ⟨a1,a2⟩ | ⟨j,v',bn,a1,a3,a4,a2⟩
  · refine ⟨ck+1,fun hT ho dst pos af g ρ hρ=>⟨?_,qhw ho _ _⟩⟩
    have hb:=qa3 ho (List.mem_of_getElem? hi)
    have hms:qh2 es k v ck=es++[(k,v,ck)]:=by
      clear hi a2 hb
      induction es with
      | nil=>rfl
      | cons x r ih=>
        simp only [qb4] at a1
        split at a1
        · cases a1
        · rename_i h;simp [qh2,h,ih a1]
    rw [qfl ho hi]
    simp only [execOp,hρ x _ hx,hρ y _ hy,hρ z _ hz,Instr.mapUpdate,Sem.run_bind,run_underlying h1,Result.andThen_ok,Go.MapKept.run_getObj_map hb,Sem.run_pure,KK.check P _ kt _ k h2,Go.MapKept.run_findKey h2 a2,Go.MapKept.run_setObj_map _ hb]
    simp [qbi,mp,hms]
  · refine ⟨ck,fun hT ho dst pos af g ρ hρ=>⟨?_,qhw ho _ _⟩⟩
    have hb:=qa3 ho (List.mem_of_getElem? hi)
    rw [qfl ho hi]
    have hkey:((((es.map fun x=>(⟨kf x.1,x.2.1,x.2.2⟩:MapEntry)).toArray)[0+j]?.map (·.key)).getD (kf k))=kf k:=by simp [a3]
    simp only [execOp,hρ x _ hx,hρ y _ hy,hρ z _ hz,Instr.mapUpdate,Sem.run_bind,run_underlying h1,Result.andThen_ok,Go.MapKept.run_getObj_map hb,Sem.run_pure,KK.check P _ kt _ k h2,Go.MapKept.run_findKey h2 a2,hkey,Instr.keyThatStays,KK.bits,if_true,Go.MapKept.run_setObj_map _ hb,a4]
    have hmod:((es.map fun x=>(⟨kf x.1,x.2.1,x.2.2⟩:MapEntry)).toArray).modify (0+j) (fun e=>{ e with key:=kf k,val:=v })=((es.set j (k,v,bn)).map fun x=>(⟨kf x.1,x.2.1,x.2.2⟩:MapEntry)).toArray:=by
      apply Array.ext_getElem?
      intro q
      rw [Array.getElem?_modify]
      by_cases hq:0+j=q
      · have:j=q:=by omega
        subst this
        obtain ⟨hlt,_⟩:=List.getElem?_eq_some_iff.1 a3
        simp [hlt,a3]
        have:=List.getElem?_eq_some_iff.1 a3
        obtain ⟨_,e⟩:=this
        simp [e]
      · have hne:j≠q:=by omega
        simp [hq,hne]
    rw [hmod]
    rfl
theorem qlU{i0:Nat}{g:Option (Nat×Bool)}{fuel:Nat}{listed:Array Bool}(KK:KeyK κ dk kf){t b:Nat}{x y z:Operand}{zv:Value}(hi0:ops[i0]?=some ⟨none,.mapUpdate t x y z,ty,pos,af,g⟩)(hg:GOK ops fr g)(i:Nat)(hm:qja P t dk zv){es:List (κ×Value×Nat)}{ck:Nat}{k:κ}(hx:lk fr x=some (.map (some b)))(hy:lk fr y=some (kf k))(hz:lk fr z=some v)(hi:L[i]?=some (b,mp kf es ck))
  (hK':∀ x∈K,x∈L.eraseIdx i) (kk:∀ ck',JA P TT D n ops Q K s0 fuel (listed.setIfInBounds i0 true) fr (qhN L i (mp kf (qh2 es k v ck) ck')) s):JB P TT D n ops Q K s0 fuel listed i0 fr L s:=by
 obtain ⟨ck',h⟩:=qrz (TT:=TT) (D:=D) (s:=s) (ty:=ty) KK i hm hx hy hz hi
 exact qtb hi0 hg h (Le.refl _) (fun x hx _=>qgT (hK' x hx) _) (kk ck')
end
section
variable{P:Program}{TT:qbf}{D n:Nat}{Q:qbF}{fr:Fr}{L:Hl}{s:World}
theorem qdS{γ:Type}{c:Code}(X:Hl)(S:γ→Fr)(H:γ→Hl)(I:γ→World→Prop)(μ:γ→Nat)(mono:∀ g s s',I g s→Le D s s'→I g s')(g0:γ)
  (hS:Keeps fr (S g0)) (hL:L=X++H g0) (hI:I g0 s)
  (round:∀ g s,I g s→JC P TT D n (qa7 (fun fr' L' s'=>∃ g' A,Keeps fr' (S g')∧L'=A++(X++H g')∧I g' s'∧μ g' < μ g) Q) c (S g) (X++H g) s) :
  JC P TT D n Q (.loop c) fr L s:=qaQ S (fun g=>X++H g) I μ mono g0 hS hL hI round
inductive Suf(fr:Fr):Fr→Prop
 | refl:Suf fr fr
 | push {d:Nat} {v:Value} {fr':Fr} (hd:(qaZ fr d).isNone=true) (h:Suf fr fr'):Suf fr ((d,v)::fr')
theorem Sb{p:Prop}(h:p:=by repeat (first | exact Suf.refl | refine Suf.push rfl ?_)):p:=h
theorem Suf.keeps{fr fr':Fr}(h:Suf fr fr'):Keeps fr' fr:=by
 induction h with
 | refl=>exact fun _ _ h=>h
 | @push d v fr' hd _ ih=>
  intro t u hu
  rw [qa8]
  by_cases he:d=t
  · subst he;rw [hu] at hd;cases hd
  · rw [if_neg he];exact ih t u hu
def MidB(D:Nat)(s:World)(fr:Fr)(L:Hl)(t:Nat)(p:Prop) [Decidable p]:Fr→Hl→World→Prop:=fun fr' L' s'=>Le D s s'∧L'=L∧Keeps fr' ((t,.bool (decide p))::fr)
theorem MidB.mk{t:Nat}{p:Prop} [Decidable p] {fr':Fr} {s':World} {b:Bool} (hl:Le D s s') (hS:Suf fr fr') (ht:qaZ fr' t=some (.bool b)) (hb:b=decide p):MidB D s fr L t p fr' L s':=by
 subst hb;exact ⟨hl,rfl,Keeps.cons ht hS.keeps⟩
theorem qbV{x y:Code}(t:Nat)(p:Prop) [Decidable p] (h1:JC P TT D n (qa7 (MidB D s fr L t p) Q) x fr L s)
  (h2:∀ s',Le D s s'→JC P TT D n Q y ((t,.bool (decide p))::fr) L s'):JC P TT D n Q (.seq x y) fr L s:=fun ht a hr ho=>
 wp_seq (wp_mono (h1 ht a hr ho) fun e a w ⟨fr',L',s',k1,k2,k3,k4⟩=>by
  cases e with
  | normal=>
   subst k3
   obtain ⟨j1,j2,j3⟩:=k4
   subst j2
   exact h2 s' j1 ht a (k1.sub j3) k2
  | _=>exact ⟨fr',L',s',k1,k2,k3,k4⟩)
def MidN{γ:Type}(D:Nat)(s:World)(fr:Fr)(L:Hl)(new:γ→Fr)(B:γ→Hl)(I:γ→World→Prop):Fr→Hl→World→Prop:=fun fr' L' s'=>∃ g A,Le D s s'∧L'.Perm (A++(B g++L))∧I g s'∧Keeps fr' (new g++fr)
theorem MidN.mk{γ:Type}{new:γ→Fr}{B:γ→Hl}{I:γ→World→Prop}{fr':Fr}{L':Hl}{s':World}(g:γ)(A:Hl)(hl:Le D s s')(hK:Keeps fr' (new g++fr))(hp:L'.Perm (A++(B g++L)))(hI:I g s'):MidN D s fr L new B I fr' L' s':=⟨g,A,hl,hp,hI,hK⟩
theorem qpV{γ:Type}{x y:Code}(new:γ→Fr)(B:γ→Hl)(I:γ→World→Prop)(mono:∀ g s s',I g s→Le D s s'→I g s')(h1:JC P TT D n (qa7 (MidN D s fr L new B I) Q) x fr L s)
  (h2:∀ g s',Le D s s'→I g s'→JC P TT D n Q y (new g++fr) (B g++L) s'):JC P TT D n Q (.seq x y) fr L s:=fun ht a hr ho=>
 wp_seq (wp_mono (h1 ht a hr ho) fun e a w ⟨fr',L',s',k1,k2,k3,k4⟩=>by
  cases e with
  | normal=>
   subst k3
   obtain ⟨g,A,j0,j2,j3,j1⟩:=k4
   rw [qbn j2 _ k2]
   obtain ⟨e,d1,d2⟩:=qbx (k2.perm j2)
   rw [e]
   exact h2 g _ (j0.trans d2) (mono _ _ _ j3 d2) ht a (k1.sub j1) d1
  | _=>exact ⟨fr',L',s',k1,k2,k3,k4⟩)
def Pub(M:Hl)(s:World):Prop:=∀ b zs t,(b,cb zs t)∈M→CellsAt s b 0 zs
theorem Pub.tail{x:Nat×Obj}{M:Hl}{s:World}(h:Pub (x::M) s):Pub M s:=fun b zs t hm=>h b zs t (List.mem_cons_of_mem _ hm)
theorem AC.pubW{f:FuncId}{args:List Value}{R:Value→World→Prop}(h:AC P D f args L s (fun v L' s'=>∃ M',L'=M'++L∧∀ s2,Le D s' s2→Pub M' s2→R v s2)) :
  AC P D f args L s (fun v L' s'=>L=L'∧R v s'):=by
 refine ⟨h.1,fun ho=>(h.2 ho).mono ?_⟩
 rintro e w' ⟨v,L',s',h1,rfl,h3,h4,M',rfl,h6⟩
 obtain ⟨d1,d2,d3⟩:=qbx h3
 refine ⟨v,L,fill M' s',h1,d1,d2,h4.trans d3,Z,h6 _ d3 fun b zs t hm j u hj=>?_⟩
 rw [qcF h3.left hm,Nat.zero_add];exact hj
end
section
variable{P:Program}{TT:qbf}{D n:Nat}{Q:qbF}{fr:Fr}{L:Hl}{s:World}{ops:Array Oper}{rest:List Oper}{d ty:Nat}{pos:String}{af:Array Edge}{v:Value}
theorem Zqm{x:Operand}(hx:lk fr x=some v)(hd:Nat.blt d n=true)(k:JO P TT D n ops Q rest ((d,v)::fr) L s):JO P TT D n ops Q (⟨some d,.move x,ty,pos,af,none⟩::rest) fr L s:=qae (qao hx) hd k
theorem Zqa{x:Operand}(hx:lk fr x=some v)(hd:Nat.blt d n=true)(k:JO P TT D n ops Q rest ((d,v)::fr) L s):JO P TT D n ops Q (⟨some d,.assign x,ty,pos,af,none⟩::rest) fr L s:=qae (qcq hx) hd k
theorem Zqx{x:Operand}{i:Nat}{vs:List Value}(hx:lk fr x=some (.tuple vs.toArray))(hi:nth vs i=some v)(hd:Nat.blt d n=true)(k:JO P TT D n ops Q rest ((d,v)::fr) L s):JO P TT D n ops Q (⟨some d,.extract x i,ty,pos,af,none⟩::rest) fr L s:=qae (qiw hx hi) hd k
theorem ZqT{c x y:Operand}(hc:lk fr c=some (.bool true))(hx:lk fr x=some v)(hd:Nat.blt d n=true)(k:JO P TT D n ops Q rest ((d,v)::fr) L s):JO P TT D n ops Q (⟨some d,.pick c x y,ty,pos,af,none⟩::rest) fr L s:=qae (qeq hc hx) hd k
theorem ZqF{c x y:Operand}(hc:lk fr c=some (.bool false))(hx:lk fr y=some v)(hd:Nat.blt d n=true)(k:JO P TT D n ops Q rest ((d,v)::fr) L s):JO P TT D n ops Q (⟨some d,.pick c x y,ty,pos,af,none⟩::rest) fr L s:=qae (qeo hc hx) hd k
theorem qaJ{x y:Operand}{ik:IntKind}{a b:Int}{t t':Nat}(hx:lk fr x=some (.int ik a))(hy:lk fr y=some (.int ik b))(hd:Nat.blt d n=true)(k:JO P TT D n ops Q rest ((d,.bool (decide (a=b)))::fr) L s):JO P TT D n ops Q (⟨some d,.binOp .eql t x y t',ty,pos,af,none⟩::rest) fr L s:=qae (qil hx hy) hd k
theorem qj3{x y:Operand}{ik:IntKind}{a b:Int}{t t':Nat}(hx:lk fr x=some (.int ik a))(hy:lk fr y=some (.int ik b))(hd:Nat.blt d n=true)(k:JO P TT D n ops Q rest ((d,.bool (!decide (a=b)))::fr) L s):JO P TT D n ops Q (⟨some d,.binOp .neq t x y t',ty,pos,af,none⟩::rest) fr L s:=qae (qhh hx hy) hd k
theorem qbY{x y:Operand}{ik:IntKind}{a b:Int}{t t':Nat}(hx:lk fr x=some (.int ik a))(hy:lk fr y=some (.int ik b))(hd:Nat.blt d n=true)(k:JO P TT D n ops Q rest ((d,.bool (decide (a < b)))::fr) L s):JO P TT D n ops Q (⟨some d,.binOp .lss t x y t',ty,pos,af,none⟩::rest) fr L s:=qae (qfr hx hy) hd k
theorem qpt{x y:Operand}{ik:IntKind}{a b:Int}{t t':Nat}(hx:lk fr x=some (.int ik a))(hy:lk fr y=some (.int ik b))(hd:Nat.blt d n=true)(k:JO P TT D n ops Q rest ((d,.bool (decide (a≤b)))::fr) L s):JO P TT D n ops Q (⟨some d,.binOp .leq t x y t',ty,pos,af,none⟩::rest) fr L s:=qae (qoU hx hy) hd k
theorem qdP{x y:Operand}{ik:IntKind}{a b:Int}{t t':Nat}(hx:lk fr x=some (.int ik a))(hy:lk fr y=some (.int ik b))(hd:Nat.blt d n=true)(k:JO P TT D n ops Q rest ((d,.bool (decide (b < a)))::fr) L s):JO P TT D n ops Q (⟨some d,.binOp .gtr t x y t',ty,pos,af,none⟩::rest) fr L s:=qae (qtS hx hy) hd k
theorem qgW{x y:Operand}{ik:IntKind}{a b:Int}{t t':Nat}(hx:lk fr x=some (.int ik a))(hy:lk fr y=some (.int ik b))(hd:Nat.blt d n=true)(k:JO P TT D n ops Q rest ((d,.bool (decide (b≤a)))::fr) L s):JO P TT D n ops Q (⟨some d,.binOp .geq t x y t',ty,pos,af,none⟩::rest) fr L s:=qae (qo9 hx hy) hd k
theorem qjv{x y:Operand}{a b:List UInt8}{t t':Nat}(hx:lk fr x=some (St a))(hy:lk fr y=some (St b))(hd:Nat.blt d n=true)(k:JO P TT D n ops Q rest ((d,.bool (decide (a=b)))::fr) L s):JO P TT D n ops Q (⟨some d,.binOp .eql t x y t',ty,pos,af,none⟩::rest) fr L s:=qae (qlY hx hy) hd k
theorem qqe{x y:Operand}{a b:List UInt8}{t t':Nat}(hx:lk fr x=some (St a))(hy:lk fr y=some (St b))(hd:Nat.blt d n=true)(k:JO P TT D n ops Q rest ((d,.bool (!decide (a=b)))::fr) L s):JO P TT D n ops Q (⟨some d,.binOp .neq t x y t',ty,pos,af,none⟩::rest) fr L s:=qae (qtx hx hy) hd k
theorem ZqnT{x:Operand}{t:Nat}(hx:lk fr x=some (.bool true))(hd:Nat.blt d n=true)(k:JO P TT D n ops Q rest ((d,.bool false)::fr) L s):JO P TT D n ops Q (⟨some d,.unOp .not t x,ty,pos,af,none⟩::rest) fr L s:=qae (qqv hx) hd k
theorem qmZ{x:Operand}{t:Nat}(hx:lk fr x=some (.bool false))(hd:Nat.blt d n=true)(k:JO P TT D n ops Q rest ((d,.bool true)::fr) L s):JO P TT D n ops Q (⟨some d,.unOp .not t x,ty,pos,af,none⟩::rest) fr L s:=qae (qqp hx) hd k
theorem qcQ{x:Operand}{b:Bool}{t:Nat}(hx:lk fr x=some (.bool b))(hd:Nat.blt d n=true)(k:JO P TT D n ops Q rest ((d,.bool (!b))::fr) L s):JO P TT D n ops Q (⟨some d,.unOp .not t x,ty,pos,af,none⟩::rest) fr L s:=qae (qlb hx) hd k
theorem Zqls{x:Operand}{t:Nat}{A:Option Addr}{m c:Nat}{ti:TI}{e:Nat}(hx:lk fr x=some (.slice A m c))(ht:qaA TT t=some ti)(hk:ti.kind=.sl e)(hd:Nat.blt d n=true)(k:JO P TT D n ops Q rest ((d,.int .i64 (m:Int))::fr) L s):JO P TT D n ops Q (⟨some d,.call { callee:=.builtin .len,args:=#[x],argTypes:=#[t] },ty,pos,af,none⟩::rest) fr L s:=qae (qdw hx ht hk) hd k
theorem Ws{x:Operand}{t:Nat}{A:Option Addr}{m c:Nat}{ti:TI}{e:Nat}(hY:(lk fr x=some (.slice A m c))∧(qaA TT t=some ti)∧(ti.kind=.sl e)∧(Nat.blt d n=true))(k:JO P TT D n ops Q rest ((d,.int .i64 (m:Int))::fr) L s):JO P TT D n ops Q (⟨some d,.call { callee:=.builtin .len,args:=#[x],argTypes:=#[t] },ty,pos,af,none⟩::rest) fr L s:=Zqls hY.1 hY.2.1 hY.2.2.1 hY.2.2.2 k
theorem qeI{x:Operand}{t:Nat}{l:List UInt8}{ti:TI}(hx:lk fr x=some (St l))(ht:qaA TT t=some ti)(hk:ti.desc=.string)(hd:Nat.blt d n=true)(k:JO P TT D n ops Q rest ((d,.int .i64 (l.length:Int))::fr) L s):JO P TT D n ops Q (⟨some d,.call { callee:=.builtin .len,args:=#[x],argTypes:=#[t] },ty,pos,af,none⟩::rest) fr L s:=qae (qho hx ht hk) hd k
theorem qbo{x:Operand}{a:Addr}(hx:lk fr x=some (.pointer (some a)))(hd:Nat.blt d n=true)(k:JO P TT D n ops Q rest ((d,.pointer (some a))::fr) L s):JO P TT D n ops Q (⟨some d,.nilCheck x,ty,pos,af,none⟩::rest) fr L s:=qae (qau hx) hd k
theorem Zqf0{t f b off:Nat}{x:Operand}{ti:TI}{os:List Nat}(hx:lk fr x=some (.pointer (some ⟨b,off,none⟩)))(ht:qaA TT t=some ti)(hk:ti.kind=.st os)(hf:qkX os f=some 0)(hd:Nat.blt d n=true)(k:JO P TT D n ops Q rest ((d,.pointer (some ⟨b,off,none⟩))::fr) L s):JO P TT D n ops Q (⟨some d,.fieldAddr t x f,ty,pos,af,none⟩::rest) fr L s:=qae (qaw hx ht hk hf) hd k
theorem W0{t f b off:Nat}{x:Operand}{ti:TI}{os:List Nat}(hY:(lk fr x=some (.pointer (some ⟨b,off,none⟩)))∧(qaA TT t=some ti)∧(ti.kind=.st os)∧(qkX os f=some 0)∧(Nat.blt d n=true))(k:JO P TT D n ops Q rest ((d,.pointer (some ⟨b,off,none⟩))::fr) L s):JO P TT D n ops Q (⟨some d,.fieldAddr t x f,ty,pos,af,none⟩::rest) fr L s:=Zqf0 hY.1 hY.2.1 hY.2.2.1 hY.2.2.2.1 hY.2.2.2.2 k
theorem ZqfB{t f fo b:Nat}{x:Operand}{ti:TI}{os:List Nat}(hx:lk fr x=some (.pointer (some ⟨b,0,none⟩)))(ht:qaA TT t=some ti)(hk:ti.kind=.st os)(hf:qkX os f=some fo)(hd:Nat.blt d n=true)(k:JO P TT D n ops Q rest ((d,.pointer (some ⟨b,fo,none⟩))::fr) L s):JO P TT D n ops Q (⟨some d,.fieldAddr t x f,ty,pos,af,none⟩::rest) fr L s:=qae (qpz hx ht hk hf) hd k
theorem Wb{t f fo b:Nat}{x:Operand}{ti:TI}{os:List Nat}(hY:(lk fr x=some (.pointer (some ⟨b,0,none⟩)))∧(qaA TT t=some ti)∧(ti.kind=.st os)∧(qkX os f=some fo)∧(Nat.blt d n=true))(k:JO P TT D n ops Q rest ((d,.pointer (some ⟨b,fo,none⟩))::fr) L s):JO P TT D n ops Q (⟨some d,.fieldAddr t x f,ty,pos,af,none⟩::rest) fr L s:=ZqfB hY.1 hY.2.1 hY.2.2.1 hY.2.2.2.1 hY.2.2.2.2 k
theorem Zql{t b off:Nat}{x:Operand}{ti:TI}{t':Nat}{zs:List Value}(i:Nat)(hx:lk fr x=some (.pointer (some ⟨b,off,none⟩)))(hi:L[i]?=some (b,cb zs t'))(ht:qaA TT t=some ti)(hk:qex ti.kind=true)(hv:nth zs off=some v)(hd:Nat.blt d n=true)(k:JO P TT D n ops Q rest ((d,v)::fr) L s):JO P TT D n ops Q (⟨some d,.load t x,ty,pos,af,none⟩::rest) fr L s:=qae (qbL i hx hi ht hk hv) hd k
theorem Wl{t b off:Nat}{x:Operand}{ti:TI}{t':Nat}{zs:List Value}(i:Nat)(hY:(lk fr x=some (.pointer (some ⟨b,off,none⟩)))∧(L[i]?=some (b,cb zs t'))∧(qaA TT t=some ti)∧(qex ti.kind=true)∧(nth zs off=some v)∧(Nat.blt d n=true))(k:JO P TT D n ops Q rest ((d,v)::fr) L s):JO P TT D n ops Q (⟨some d,.load t x,ty,pos,af,none⟩::rest) fr L s:=Zql i hY.1 hY.2.1 hY.2.2.1 hY.2.2.2.1 hY.2.2.2.2.1 hY.2.2.2.2.2 k
theorem qaW{x y:Operand}{ik:IntKind}{a b c:Int}{t t':Nat}(hx:lk fr x=some (.int ik a))(hy:lk fr y=some (.int ik b))(hd:Nat.blt d n=true)(hc:ik.wrap (a+b)=c)(k:JO P TT D n ops Q rest ((d,.int ik c)::fr) L s):JO P TT D n ops Q (⟨some d,.binOp .add t x y t',ty,pos,af,none⟩::rest) fr L s:=qae (qby hx hy hc) hd k
theorem qeW{x y:Operand}{ik:IntKind}{a b c:Int}{t t':Nat}(hx:lk fr x=some (.int ik a))(hy:lk fr y=some (.int ik b))(hd:Nat.blt d n=true)(hc:ik.wrap (a - b)=c)(k:JO P TT D n ops Q rest ((d,.int ik c)::fr) L s):JO P TT D n ops Q (⟨some d,.binOp .sub t x y t',ty,pos,af,none⟩::rest) fr L s:=qae (qgn hx hy hc) hd k
theorem qtt{x y:Operand}{ik:IntKind}{a b c:Int}{t t':Nat}(hx:lk fr x=some (.int ik a))(hy:lk fr y=some (.int ik b))(hd:Nat.blt d n=true)(hc:ik.wrap (a * b)=c)(k:JO P TT D n ops Q rest ((d,.int ik c)::fr) L s):JO P TT D n ops Q (⟨some d,.binOp .mul t x y t',ty,pos,af,none⟩::rest) fr L s:=qae (qrr hx hy hc) hd k
end
abbrev Zs:=@qpD
abbrev Zr:=@qiC
abbrev Zn:=@qpF
abbrev Zt:=@qaa
abbrev Zu:=@qq7
abbrev Zv:=@qrj
abbrev Zb:=@qnM
abbrev Zc:=@qoM
abbrev Zd:=@qoo
abbrev Ze:=@qmx
abbrev Zk:=@qp9
abbrev Zl:=@qq1
abbrev Zo:=@qsP
abbrev Zp:=@qoy
abbrev Zy:=@qsz
abbrev Zz:=@qtj
abbrev Zg:=@qua
abbrev Zf:=@qtv
abbrev Zh:=@qt3
theorem Nt{P:Program}{TT:qbf}{D n:Nat}{Q:qbF}{fr:Fr}{L:Hl}{s:World}{J:Fr→Hl→World→Prop}{ops:Array Oper}(h:J fr L s):JO P TT D n ops (qa7 J Q) [] fr L s:=qpF (qaa h)
theorem Sr{P:Program}{TT:qbf}{D n:Nat}{Q:qbF}{fr:Fr}{L:Hl}{s:World}{id:Nat}{l:List Oper}{y:Code}(h:JO P TT D n l.toArray (qa7 (JC P TT D n Q y) Q) l fr L s):JC P TT D n Q (.seq (.region id l.toArray false) y) fr L s:=qpD (qiC h)
theorem At{P:Program}{TT:qbf}{D n:Nat}{Q:qbF}{fr:Fr}{L:Hl}{s:World}{J:Fr→Hl→World→Prop}{ops:Array Oper}{d ty:Nat}{pos:String}{af:Array Edge}{v:Value}{x:Operand}(hx:lk fr x=some v)(hd:Nat.blt d n=true)(h:J ((d,v)::fr) L s):JO P TT D n ops (qa7 J Q) [⟨some d,.assign x,ty,pos,af,none⟩] fr L s:=Zqa hx hd (Nt h)
theorem sk{fr fr':Fr}(h:Suf fr fr':=by repeat (first | exact Suf.refl | refine Suf.push rfl ?_)):Keeps fr' fr:=h.keeps
theorem kp{fr l:Fr}(h:Keeps fr l:=by repeat (first | exact Keeps.nil _ | refine Keeps.cons rfl ?_)):Keeps fr l:=h
section
variable{P:Program}{TT:qbf}{D n:Nat}{Q:qbF}{fr:Fr}{L K:Hl}{s s0:World}{ops:Array Oper}{d ty:Nat}{op:Op}{pos:String}{af:Array Edge}{v:Value}{fuel:Nat}{listed:Array Bool}
def okA(ops:Array Oper)(listed:Array Bool)(i:Nat):Bool:=Region.noSelect ops && Region.free .any ops listed i && (Region.ready .any ops listed).contains i
theorem za(i:Nat)(hi:ops[i]?=some ⟨some d,op,ty,pos,af,none⟩)(hq:QE P TT D fr op ty K s0 v)(hd:Nat.blt d n=true)(k:JA P TT D n ops Q K s0 fuel (listed.setIfInBounds i true) ((d,v)::fr) L s)(hs:okA ops listed i=true:=by kernel_rfl):JA P TT D n ops Q K s0 (fuel+1) listed fr L s:=by
 simp only [okA,Bool.and_eq_true] at hs
 exact JA_q i hi hs.1.1 hs.1.2 hs.2 trivial hq hd k
theorem zg(i:Nat){e:Nat×Bool}(hi:ops[i]?=some ⟨some d,op,ty,pos,af,some e⟩)(hg:GOK ops fr (some e))(hq:QE P TT D fr op ty K s0 v)(hd:Nat.blt d n=true)(k:JA P TT D n ops Q K s0 fuel (listed.setIfInBounds i true) ((d,v)::fr) L s)(hs:okA ops listed i=true:=by kernel_rfl):JA P TT D n ops Q K s0 (fuel+1) listed fr L s:=by
 simp only [okA,Bool.and_eq_true] at hs
 exact JA_q i hi hs.1.1 hs.1.2 hs.2 hg hq hd k
theorem zn(i:Nat){j t:Nat}{w b:Bool}(hi:ops[i]?=some ⟨some d,op,ty,pos,af,some (j,w)⟩)(hj:qfU ops j=some t)(hv:qaZ fr t=some (.bool b))(hb:(b != w)=true)(hd:Nat.blt d n=true)(k:JA P TT D n ops Q K s0 fuel (listed.setIfInBounds i true) ((d,undef)::fr) L s)(hs:okA ops listed i=true:=by kernel_rfl):JA P TT D n ops Q K s0 (fuel+1) listed fr L s:=by
 simp only [okA,Bool.and_eq_true] at hs
 exact qt0 i hi hs.1.1 hs.1.2 hs.2 hj hv hb hd k
end
end Go.FL
namespace Go.Proofs.YtjindleklapakaaGreatDoor
open Go.Proofs.Tryz
open Go.FL
attribute [local irreducible] JC JO JA JB qa7 qaP qdj AC fill CellsAt QE Ev Mid
theorem qbk(D:Nat)(L:Hl)(s:World)(c i:Int):AC prog D 23 [.int .i64 c,.int .i64 i] L s fun v L' _=>v=.agg #[.int .i64 c,.int .i64 i]∧L=L':=by
 refine qai (fn:=f23) qaG func23 V Z ntmps23 Z (rs:=[.cell 4 29]) Z [(0,_),(1,_)] Z<|Sr<|qag Z [_,_] Z Z ?_
 intro β1 s1 h1
 refine Nt<|Sr<|Zqm Z Z<|Zqm Z Z<|qae (qal [(_,_),(_,_)] [_,_] Z Z Z Z Z Z) Z<|Wt 0 [_,_] Y9<|Nt<|Zo<|?_
 refine rR [_] L (.agg (us:=[_,_]) 0 Z Z Z Z Z (.nil)) Z h1 fun _ hS2=>?_
 exact ⟨rfl,rfl⟩
theorem qqK(D:Nat)(L:Hl)(s:World)(k:Int):AC prog D 86 [.int .i64 k] L s fun v L' _=>v=.tuple #[.bool (qcp k),.bool (qcr k),.bool (qco k)]∧L=L':=by
 refine qai (fn:=f86) qaG func86 V Z ntmps86 Z (rs:=[.tmp 2,.tmp 3,.tmp 4]) Z [(0,_)] Z<|Sr<|Zqa Z Z<|Zqa Z Z<|At Z Z<|Sr<|Zqa Z Z<|Zqa Z Z<|At Z Z<|Zs<|Sr<|Zqm Z Z<|Nt<|Zp<|Zs<|Sr<|qaJ Z Z Z<|At Z Z<|?_
 refine qab Z (fun c1=>?_) (fun c1=>?_)
 ·
  refine Zk<|Zt<|?_
  refine qab Z (fun c2=>?_) (fun c2=>?_)
  ·
   refine Zr<|Zqa Z Z<|Zn<|Zb<|Zt<|Sr<|Zqm Z Z<|Zqm Z Z<|Zqm Z Z<|Zqa Z Z<|Zqa Z Z<|At Z Z<|Zo<|?_
   refine rR [] L (.tmp Z (.tmp Z (.t1 Z))) Z (Lr D) fun _ hS2=>?_
   exact ⟨by simp_all [qaF,qcp,qcr,qco],rfl⟩
  refine Zs<|Sr<|qaJ Z Z Z<|At Z Z<|?_
  refine qab Z (fun c3=>?_) (fun c3=>?_)
  ·
   refine Zk<|Zt<|?_
   refine qab Z (fun c4=>?_) (fun c4=>?_)
   ·
    refine Zr<|Zqa Z Z<|Zqa Z Z<|Zn<|Zb<|Zt<|Sr<|Zqm Z Z<|Zqm Z Z<|Zqm Z Z<|Zqa Z Z<|Zqa Z Z<|At Z Z<|Zo<|?_
    refine rR [] L (.tmp Z (.tmp Z (.t1 Z))) Z (Lr D) fun _ hS2=>?_
    exact ⟨by simp_all [qaF,qcp,qcr,qco],rfl⟩
   refine Sr<|qaJ Z Z Z<|At Z Z<|?_
   refine qab Z (fun c5=>?_) (fun c5=>?_)
   ·
    refine Zr<|Zqa Z Z<|Zqa Z Z<|Zn<|Zb<|Zt<|Sr<|Zqm Z Z<|Zqm Z Z<|Zqm Z Z<|Zqa Z Z<|Zqa Z Z<|At Z Z<|Zo<|?_
    refine rR [] L (.tmp Z (.tmp Z (.t1 Z))) Z (Lr D) fun _ hS2=>?_
    exact ⟨by simp_all [qaF,qcp,qcr,qco],rfl⟩
   refine Zs<|Sr<|qaJ Z Z Z<|At Z Z<|?_
   refine qab Z (fun c6=>?_) (fun c6=>?_)
   ·
    refine Zk<|Zt<|?_
    refine qab Z (fun c7=>?_) (fun c7=>?_)
    ·
     refine Zr<|Zqa Z Z<|Zn<|Zb<|Zt<|Sr<|Zqm Z Z<|Zqm Z Z<|Zqm Z Z<|Zqa Z Z<|Zqa Z Z<|At Z Z<|Zo<|?_
     refine rR [] L (.tmp Z (.tmp Z (.t1 Z))) Z (Lr D) fun _ hS2=>?_
     exact ⟨by simp_all [qaF,qcp,qcr,qco],rfl⟩
    refine Zk<|Zb<|Zt<|Sr<|Zqm Z Z<|Zqm Z Z<|Zqm Z Z<|Zqa Z Z<|Zqa Z Z<|At Z Z<|Zo<|?_
    refine rR [] L (.tmp Z (.tmp Z (.t1 Z))) Z (Lr D) fun _ hS2=>?_
    exact ⟨by simp_all [qaF,qcp,qcr,qco],rfl⟩
   refine Zr<|qaJ Z Z Z<|At Z Z<|?_
   refine qab Z (fun c8=>?_) (fun c8=>?_)
   ·
    refine Zr<|Zqa Z Z<|Zn<|Zb<|Zt<|Sr<|Zqm Z Z<|Zqm Z Z<|Zqm Z Z<|Zqa Z Z<|Zqa Z Z<|At Z Z<|Zo<|?_
    refine rR [] L (.tmp Z (.tmp Z (.t1 Z))) Z (Lr D) fun _ hS2=>?_
    exact ⟨by simp_all [qaF,qcp,qcr,qco],rfl⟩
   refine Zk<|Zb<|Zt<|Sr<|Zqm Z Z<|Zqm Z Z<|Zqm Z Z<|Zqa Z Z<|Zqa Z Z<|At Z Z<|Zo<|?_
   refine rR [] L (.tmp Z (.tmp Z (.t1 Z))) Z (Lr D) fun _ hS2=>?_
   exact ⟨by simp_all [qaF,qcp,qcr,qco],rfl⟩
  refine Zr<|qaJ Z Z Z<|At Z Z<|?_
  refine qab Z (fun c9=>?_) (fun c9=>?_)
  ·
   refine Zr<|Zqa Z Z<|Zqa Z Z<|Zn<|Zb<|Zt<|Sr<|Zqm Z Z<|Zqm Z Z<|Zqm Z Z<|Zqa Z Z<|Zqa Z Z<|At Z Z<|Zo<|?_
   refine rR [] L (.tmp Z (.tmp Z (.t1 Z))) Z (Lr D) fun _ hS2=>?_
   exact ⟨by simp_all [qaF,qcp,qcr,qco],rfl⟩
  refine Sr<|qaJ Z Z Z<|At Z Z<|?_
  refine qab Z (fun c10=>?_) (fun c10=>?_)
  ·
   refine Zr<|Zqa Z Z<|Zqa Z Z<|Zn<|Zb<|Zt<|Sr<|Zqm Z Z<|Zqm Z Z<|Zqm Z Z<|Zqa Z Z<|Zqa Z Z<|At Z Z<|Zo<|?_
   refine rR [] L (.tmp Z (.tmp Z (.t1 Z))) Z (Lr D) fun _ hS2=>?_
   exact ⟨by simp_all [qaF,qcp,qcr,qco],rfl⟩
  refine Zs<|Sr<|qaJ Z Z Z<|At Z Z<|?_
  refine qab Z (fun c11=>?_) (fun c11=>?_)
  ·
   refine Zk<|Zt<|?_
   refine qab Z (fun c12=>?_) (fun c12=>?_)
   ·
    refine Zr<|Zqa Z Z<|Zn<|Zb<|Zt<|Sr<|Zqm Z Z<|Zqm Z Z<|Zqm Z Z<|Zqa Z Z<|Zqa Z Z<|At Z Z<|Zo<|?_
    refine rR [] L (.tmp Z (.tmp Z (.t1 Z))) Z (Lr D) fun _ hS2=>?_
    exact ⟨by simp_all [qaF,qcp,qcr,qco],rfl⟩
   refine Zk<|Zb<|Zt<|Sr<|Zqm Z Z<|Zqm Z Z<|Zqm Z Z<|Zqa Z Z<|Zqa Z Z<|At Z Z<|Zo<|?_
   refine rR [] L (.tmp Z (.tmp Z (.t1 Z))) Z (Lr D) fun _ hS2=>?_
   exact ⟨by simp_all [qaF,qcp,qcr,qco],rfl⟩
  refine Zr<|qaJ Z Z Z<|At Z Z<|?_
  refine qab Z (fun c13=>?_) (fun c13=>?_)
  ·
   refine Zr<|Zqa Z Z<|Zn<|Zb<|Zt<|Sr<|Zqm Z Z<|Zqm Z Z<|Zqm Z Z<|Zqa Z Z<|Zqa Z Z<|At Z Z<|Zo<|?_
   refine rR [] L (.tmp Z (.tmp Z (.t1 Z))) Z (Lr D) fun _ hS2=>?_
   exact ⟨by simp_all [qaF,qcp,qcr,qco],rfl⟩
  refine Zk<|Zb<|Zt<|Sr<|Zqm Z Z<|Zqm Z Z<|Zqm Z Z<|Zqa Z Z<|Zqa Z Z<|At Z Z<|Zo<|?_
  refine rR [] L (.tmp Z (.tmp Z (.t1 Z))) Z (Lr D) fun _ hS2=>?_
  exact ⟨by simp_all [qaF,qcp,qcr,qco],rfl⟩
 refine Zr<|qaJ Z Z Z<|At Z Z<|?_
 refine qab Z (fun c14=>?_) (fun c14=>?_)
 ·
  refine Zr<|Zqa Z Z<|Zn<|Zb<|Zt<|Sr<|Zqm Z Z<|Zqm Z Z<|Zqm Z Z<|Zqa Z Z<|Zqa Z Z<|At Z Z<|Zo<|?_
  refine rR [] L (.tmp Z (.tmp Z (.t1 Z))) Z (Lr D) fun _ hS2=>?_
  exact ⟨by simp_all [qaF,qcp,qcr,qco],rfl⟩
 refine Zs<|Sr<|qaJ Z Z Z<|At Z Z<|?_
 refine qab Z (fun c15=>?_) (fun c15=>?_)
 ·
  refine Zk<|Zt<|?_
  refine qab Z (fun c16=>?_) (fun c16=>?_)
  ·
   refine Zr<|Zqa Z Z<|Zqa Z Z<|Zn<|Zb<|Zt<|Sr<|Zqm Z Z<|Zqm Z Z<|Zqm Z Z<|Zqa Z Z<|Zqa Z Z<|At Z Z<|Zo<|?_
   refine rR [] L (.tmp Z (.tmp Z (.t1 Z))) Z (Lr D) fun _ hS2=>?_
   exact ⟨by simp_all [qaF,qcp,qcr,qco],rfl⟩
  refine Sr<|qaJ Z Z Z<|At Z Z<|?_
  refine qab Z (fun c17=>?_) (fun c17=>?_)
  ·
   refine Zr<|Zqa Z Z<|Zqa Z Z<|Zn<|Zb<|Zt<|Sr<|Zqm Z Z<|Zqm Z Z<|Zqm Z Z<|Zqa Z Z<|Zqa Z Z<|At Z Z<|Zo<|?_
   refine rR [] L (.tmp Z (.tmp Z (.t1 Z))) Z (Lr D) fun _ hS2=>?_
   exact ⟨by simp_all [qaF,qcp,qcr,qco],rfl⟩
  refine Zs<|Sr<|qaJ Z Z Z<|At Z Z<|?_
  refine qab Z (fun c18=>?_) (fun c18=>?_)
  ·
   refine Zk<|Zt<|?_
   refine qab Z (fun c19=>?_) (fun c19=>?_)
   ·
    refine Zr<|Zqa Z Z<|Zn<|Zb<|Zt<|Sr<|Zqm Z Z<|Zqm Z Z<|Zqm Z Z<|Zqa Z Z<|Zqa Z Z<|At Z Z<|Zo<|?_
    refine rR [] L (.tmp Z (.tmp Z (.t1 Z))) Z (Lr D) fun _ hS2=>?_
    exact ⟨by simp_all [qaF,qcp,qcr,qco],rfl⟩
   refine Zk<|Zb<|Zt<|Sr<|Zqm Z Z<|Zqm Z Z<|Zqm Z Z<|Zqa Z Z<|Zqa Z Z<|At Z Z<|Zo<|?_
   refine rR [] L (.tmp Z (.tmp Z (.t1 Z))) Z (Lr D) fun _ hS2=>?_
   exact ⟨by simp_all [qaF,qcp,qcr,qco],rfl⟩
  refine Zr<|qaJ Z Z Z<|At Z Z<|?_
  refine qab Z (fun c20=>?_) (fun c20=>?_)
  ·
   refine Zr<|Zqa Z Z<|Zn<|Zb<|Zt<|Sr<|Zqm Z Z<|Zqm Z Z<|Zqm Z Z<|Zqa Z Z<|Zqa Z Z<|At Z Z<|Zo<|?_
   refine rR [] L (.tmp Z (.tmp Z (.t1 Z))) Z (Lr D) fun _ hS2=>?_
   exact ⟨by simp_all [qaF,qcp,qcr,qco],rfl⟩
  refine Zk<|Zb<|Zt<|Sr<|Zqm Z Z<|Zqm Z Z<|Zqm Z Z<|Zqa Z Z<|Zqa Z Z<|At Z Z<|Zo<|?_
  refine rR [] L (.tmp Z (.tmp Z (.t1 Z))) Z (Lr D) fun _ hS2=>?_
  exact ⟨by simp_all [qaF,qcp,qcr,qco],rfl⟩
 refine Zr<|qaJ Z Z Z<|At Z Z<|?_
 refine qab Z (fun c21=>?_) (fun c21=>?_)
 ·
  refine Zr<|Zqa Z Z<|Zqa Z Z<|Zn<|Zb<|Zt<|Sr<|Zqm Z Z<|Zqm Z Z<|Zqm Z Z<|Zqa Z Z<|Zqa Z Z<|At Z Z<|Zo<|?_
  refine rR [] L (.tmp Z (.tmp Z (.t1 Z))) Z (Lr D) fun _ hS2=>?_
  exact ⟨by simp_all [qaF,qcp,qcr,qco],rfl⟩
 refine Sr<|qaJ Z Z Z<|At Z Z<|?_
 refine qab Z (fun c22=>?_) (fun c22=>?_)
 ·
  refine Zr<|Zqa Z Z<|Zqa Z Z<|Zn<|Zb<|Zt<|Sr<|Zqm Z Z<|Zqm Z Z<|Zqm Z Z<|Zqa Z Z<|Zqa Z Z<|At Z Z<|Zo<|?_
  refine rR [] L (.tmp Z (.tmp Z (.t1 Z))) Z (Lr D) fun _ hS2=>?_
  exact ⟨by simp_all [qaF,qcp,qcr,qco],rfl⟩
 refine Zs<|Sr<|qaJ Z Z Z<|At Z Z<|?_
 refine qab Z (fun c23=>?_) (fun c23=>?_)
 ·
  refine Zk<|Zt<|?_
  refine qab Z (fun c24=>?_) (fun c24=>?_)
  ·
   refine Zr<|Zqa Z Z<|Zn<|Zb<|Zt<|Sr<|Zqm Z Z<|Zqm Z Z<|Zqm Z Z<|Zqa Z Z<|Zqa Z Z<|At Z Z<|Zo<|?_
   refine rR [] L (.tmp Z (.tmp Z (.t1 Z))) Z (Lr D) fun _ hS2=>?_
   exact ⟨by simp_all [qaF,qcp,qcr,qco],rfl⟩
  refine Zk<|Zb<|Zt<|Sr<|Zqm Z Z<|Zqm Z Z<|Zqm Z Z<|Zqa Z Z<|Zqa Z Z<|At Z Z<|Zo<|?_
  refine rR [] L (.tmp Z (.tmp Z (.t1 Z))) Z (Lr D) fun _ hS2=>?_
  exact ⟨by simp_all [qaF,qcp,qcr,qco],rfl⟩
 refine Zr<|qaJ Z Z Z<|At Z Z<|?_
 refine qab Z (fun c25=>?_) (fun c25=>?_)
 ·
  refine Zr<|Zqa Z Z<|Zn<|Zb<|Zt<|Sr<|Zqm Z Z<|Zqm Z Z<|Zqm Z Z<|Zqa Z Z<|Zqa Z Z<|At Z Z<|Zo<|?_
  refine rR [] L (.tmp Z (.tmp Z (.t1 Z))) Z (Lr D) fun _ hS2=>?_
  exact ⟨by simp_all [qaF,qcp,qcr,qco],rfl⟩
 refine Zk<|Zb<|Zt<|Sr<|Zqm Z Z<|Zqm Z Z<|Zqm Z Z<|Zqa Z Z<|Zqa Z Z<|At Z Z<|Zo<|?_
 refine rR [] L (.tmp Z (.tmp Z (.t1 Z))) Z (Lr D) fun _ hS2=>?_
 exact ⟨by simp_all [qaF,qcp,qcr,qco],rfl⟩
theorem qdm(D:Nat)(L:Hl)(s:World)(x:Tm)(u o:Bool):AC prog D 87 [.agg #[.int .i64 x.kind,.int .u32 x.val],.bool u,.bool o] L s fun v L' _=>v=.bool (qgw x u o)∧L=L':=by
 refine qai (fn:=f87) qaG func87 V Z ntmps87 Z (rs:=[.tmp 6]) Z [(0,_),(1,_),(2,_)] Z<|Sr<|qaL Z Z ?_
 intro β1 s1 h1
 refine At Z Z<|Zs<|Zp<|Sr<|Zqm Z Z<|qcQ Z Z<|At Z Z<|?_
 refine qbU Z (fun c2=>?_) (fun c2=>?_)
 ·
  refine Sr<|qae (qad 0 [_,_] Z Z Z Z Z) Z<|qae (qal [] [_,_] Z Z Z Z Z Z) Z<|qae (qte Z Z (qtA _ _ _ _)) Z<|At Z Z<|Zo<|Zc<|Zu<|?_
  refine rR [_] L (.t1 Z) Z h1 fun _ hS2=>?_
  exact ⟨by simp_all [qaF,qgw],rfl⟩
 refine Sr<|W0 Y5<|Wl 0 Y6<|qaJ Z Z Z<|At Z Z<|?_
 refine qab Z (fun c3=>?_) (fun c3=>?_)
 ·
  refine Sr<|At Z Z<|Zo<|Zc<|Zu<|?_
  refine rR [_] L (.t1 Z) Z h1 fun _ hS2=>?_
  exact ⟨by simp_all [qaF,qgw],rfl⟩
 refine Sr<|W0 Y5<|Wl 0 Y6<|qaJ Z Z Z<|At Z Z<|?_
 refine qab Z (fun c4=>?_) (fun c4=>?_)
 ·
  refine Sr<|Wb Y5<|Wl 0 Y6<|qpt Z Z Z<|At Z Z<|Zo<|Zc<|Zu<|?_
  refine rR [_] L (.t1 Z) Z h1 fun _ hS2=>?_
  exact ⟨by simp_all [qaF,qgw],rfl⟩
 refine Zk<|Zb<|Zt<|Sr<|W0 Y5<|Wl 0 Y6<|qaJ Z Z Z<|Zqm Z Z<|?_
 refine qam (t:=27) Z (fun c5=>?_) (fun c5=>?_)
 ·
  refine Zg Z Z<|Wb Y5<|Zg Z Z<|Wl 0 Y6<|Zg Z Z<|qaJ Z Z Z<|ZqT Z Z Z<|Zqm Z Z<|?_
  refine qam (t:=32) Z (fun c6=>?_) (fun c6=>?_)
  ·
   refine Zg Z Z<|Zqm Z Z<|ZqT Z Z Z<|At Z Z<|Zo<|?_
   refine rR [_] L (.t1 Z) Z h1 fun _ hS2=>?_
   exact ⟨by simp_all [qaF,qgw],rfl⟩
  refine Wf Y4<|ZqF Z Z Z<|At Z Z<|Zo<|?_
  refine rR [_] L (.t1 Z) Z h1 fun _ hS2=>?_
  exact ⟨by simp_all [qaF,qgw],rfl⟩
 refine Wf Y4<|Wf Y4<|Wf Y4<|ZqF Z Z Z<|Zqm Z Z<|Wf Y4<|ZqF Z Z Z<|At Z Z<|Zo<|?_
 refine rR [_] L (.t1 Z) Z h1 fun _ hS2=>?_
 exact ⟨by simp_all [qaF,qgw],rfl⟩
theorem qgG(D:Nat)(L:Hl)(s:World)(a:Ac)(o:Bool):AC prog D 68 [.agg #[.int .i64 a.kind,.int .i64 a.tgt,.int .i64 a.x.kind,.int .u32 a.x.val,.int .i64 a.y.kind,.int .u32 a.y.val],.bool o] L s fun v L' _=>v=.int .i64 (qbT a o)∧L=L':=by
 refine qai (fn:=f68) qaG func68 V Z ntmps68 Z (rs:=[.tmp 4]) Z [(0,_),(1,_)] Z<|Sr<|qaL Z Z ?_
 intro β1 s1 h1
 refine At Z Z<|Zs<|Zp<|Sr<|W0 Y5<|Wl 0 Y6<|qbY Z Z Z<|Zqm Z Z<|?_
 refine qam (t:=12) Z (fun c2=>?_) (fun c2=>?_)
 ·
  refine Wf Y4<|Wf Y4<|Wf Y4<|ZqT Z Z Z<|At Z Z<|Zy Z<|Sr<|At Z Z<|Zo<|Zc<|Zu<|?_
  refine rR [_] L (.t1 Z) Z h1 fun _ hS2=>?_
  exact ⟨by (try simp_all [qaF,qbT]) <;> grind,rfl⟩
 refine Zg Z Z<|W0 Y5<|Zg Z Z<|Wl 0 Y6<|Zg Z Z<|qgW Z Z Z<|ZqF Z Z Z<|At Z Z<|?_
 refine qab Z (fun c3=>?_) (fun c3=>?_)
 ·
  refine Sr<|At Z Z<|Zo<|Zc<|Zu<|?_
  refine rR [_] L (.t1 Z) Z h1 fun _ hS2=>?_
  exact ⟨by (try simp_all [qaF,qbT]) <;> grind,rfl⟩
 refine Sr<|Wb Y5<|Wl 0 Y6<|qbY Z Z Z<|Zqm Z Z<|?_
 refine qam (t:=21) Z (fun c4=>?_) (fun c4=>?_)
 ·
  refine Wf Y4<|Wf Y4<|Wf Y4<|ZqT Z Z Z<|At Z Z<|Zy Z<|Sr<|At Z Z<|Zo<|Zc<|Zu<|?_
  refine rR [_] L (.t1 Z) Z h1 fun _ hS2=>?_
  exact ⟨by (try simp_all [qaF,qbT]) <;> grind,rfl⟩
 refine Zg Z Z<|Wb Y5<|Zg Z Z<|Wl 0 Y6<|Zg Z Z<|qdP Z Z Z<|ZqF Z Z Z<|At Z Z<|?_
 refine qab Z (fun c5=>?_) (fun c5=>?_)
 ·
  refine Sr<|At Z Z<|Zo<|Zc<|Zu<|?_
  refine rR [_] L (.t1 Z) Z h1 fun _ hS2=>?_
  exact ⟨by (try simp_all [qaF,qbT]) <;> grind,rfl⟩
 refine Zk<|Zb<|Zt<|Sr<|W0 Y5<|Wl 0 Y6<|Jc Z Z Z (qqK D _ _ _) ?_
 rintro _ _ s6 h6 ⟨rfl,rfl⟩
 refine Zqm Z Z<|Zqx Z Z Z<|Zqx Z Z Z<|Zqx Z Z Z<|Zqa Z Z<|Zqa Z Z<|At Z Z<|Zs<|Sr<|Zqm Z Z<|qcQ Z Z<|Zqm Z Z<|?_
 refine qej (t:=35) Z (fun c7=>?_) (fun c7=>?_)
 ·
  refine Zg Z Z<|Wb Y5<|Zg Z Z<|Wl 0 Y6<|Zg Z Z<|qj3 Z Z Z<|ZqT Z Z Z<|Zqm Z Z<|?_
  refine qb2 (t:=40) Z (fun c8=>?_) (fun c8=>?_)
  ·
   refine Wf Y4<|Wf Y4<|Wf Y4<|Wf Y4<|Wf Y4<|Wf Y4<|ZqT Z Z Z<|Zqm Z Z<|Wf Y4<|Wf Y4<|Wf Y4<|Wf Y4<|Wf Y4<|Wf Y4<|ZqT Z Z Z<|Nt<|Zy Z<|Sr<|At Z Z<|Zo<|Zu ?_
   refine rR [_] L (.t1 Z) Z (h1.t h6) fun _ hS2=>?_
   exact ⟨by (try simp_all [qaF,qbT]) <;> grind,rfl⟩
  refine Zg Z Z<|Wb Y5<|Zg Z Z<|qae (qad 0 [_,_] Z Z Z Z Z) Z<|Zg Z Z<|Zqm Z Z<|Zg Z Z<|Zqm Z Z<|Zg Z Z<|Jc Z Z Z (qdm D _ _ _ _ _) ?_
  rintro _ _ s9 h9 ⟨rfl,rfl⟩
  refine Zg Z Z<|qcQ Z Z<|ZqF Z Z Z<|Zqm Z Z<|?_
  refine qej (t:=48) Z (fun c10=>?_) (fun c10=>?_)
  ·
   refine Wf Y4<|Wf Y4<|Wf Y4<|Wf Y4<|Wf Y4<|Wf Y4<|ZqT Z Z Z<|Nt<|Zy Z<|Sr<|At Z Z<|Zo<|Zu<|?_
   refine rR [_] L (.t1 Z) Z (h1.t h6|>.t h9) fun _ hS2=>?_
   exact ⟨by (try simp_all [qaF,qbT]) <;> grind,rfl⟩
  refine Zg Z Z<|Wb Y5<|Zg Z Z<|qae (qad 0 [_,_] Z Z Z Z Z) Z<|Zg Z Z<|Zqm Z Z<|Zg Z Z<|Zqm Z Z<|Zg Z Z<|Jc Z Z Z (qdm D _ _ _ _ _) ?_
  rintro _ _ s11 h11 ⟨rfl,rfl⟩
  refine Zg Z Z<|qcQ Z Z<|ZqF Z Z Z<|Nt<|?_
  refine qbU Z (fun c12=>?_) (fun c12=>?_)
  ·
   refine Sr<|At Z Z<|Zo<|Zu<|?_
   refine rR [_] L (.t1 Z) Z (h1.t h6|>.t h9|>.t h11) fun _ hS2=>?_
   exact ⟨by (try simp_all [qaF,qbT]) <;> grind,rfl⟩
  refine Zk<|Zt<|Sr<|At Z Z<|Zo<|?_
  refine rR [_] L (.t1 Z) Z (h1.t h6|>.t h9|>.t h11) fun _ hS2=>?_
  exact ⟨by (try simp_all [qaF,qbT]) <;> grind,rfl⟩
 refine Wf Y4<|Wf Y4<|Wf Y4<|ZqF Z Z Z<|Zqm Z Z<|Zg Z Z<|Wb Y5<|Zg Z Z<|qae (qad 0 [_,_] Z Z Z Z Z) Z<|Zg Z Z<|Zqm Z Z<|Zg Z Z<|Zqm Z Z<|Zg Z Z<|Jc Z Z Z (qdm D _ _ _ _ _) ?_
 rintro _ _ s13 h13 ⟨rfl,rfl⟩
 refine Zg Z Z<|qcQ Z Z<|ZqF Z Z Z<|Zqm Z Z<|?_
 refine qej (t:=48) Z (fun c14=>?_) (fun c14=>?_)
 ·
  refine Wf Y4<|Wf Y4<|Wf Y4<|Wf Y4<|Wf Y4<|Wf Y4<|ZqT Z Z Z<|Nt<|Zy Z<|Sr<|At Z Z<|Zo<|Zu<|?_
  refine rR [_] L (.t1 Z) Z (h1.t h6|>.t h13) fun _ hS2=>?_
  exact ⟨by (try simp_all [qaF,qbT]) <;> grind,rfl⟩
 refine Zg Z Z<|Wb Y5<|Zg Z Z<|qae (qad 0 [_,_] Z Z Z Z Z) Z<|Zg Z Z<|Zqm Z Z<|Zg Z Z<|Zqm Z Z<|Zg Z Z<|Jc Z Z Z (qdm D _ _ _ _ _) ?_
 rintro _ _ s15 h15 ⟨rfl,rfl⟩
 refine Zg Z Z<|qcQ Z Z<|ZqF Z Z Z<|Nt<|?_
 refine qbU Z (fun c16=>?_) (fun c16=>?_)
 ·
  refine Sr<|At Z Z<|Zo<|Zu<|?_
  refine rR [_] L (.t1 Z) Z (h1.t h6|>.t h13|>.t h15) fun _ hS2=>?_
  exact ⟨by (try simp_all [qaF,qbT]) <;> grind,rfl⟩
 refine Zk<|Zt<|Sr<|At Z Z<|Zo<|?_
 refine rR [_] L (.t1 Z) Z (h1.t h6|>.t h13|>.t h15) fun _ hS2=>?_
 exact ⟨by (try simp_all [qaF,qbT]) <;> grind,rfl⟩
theorem qhc(D:Nat)(L:Hl)(s:World)(l:List UInt8):AC prog D 67 [St l] L s fun v L' _=>v=.bool (qez l)∧L=L':=by
 refine qai (fn:=f67) qaG func67 V Z ntmps67 Z (rs:=[.tmp 2]) Z [(0,_)] Z<|Sr<|At Z Z<|Zs<|Sr<|Zqm Z Z<|qjv Z Z Z<|Zqm Z Z<|?_
 refine qam (t:=8) Z (fun c1=>?_) (fun c1=>?_)
 ·
  refine Wf Y4<|Wf Y4<|Wf Y4<|ZqT Z Z Z<|Zqm Z Z<|Wf Y4<|Wf Y4<|ZqT Z Z Z<|Zqm Z Z<|Wf Y4<|Wf Y4<|ZqT Z Z Z<|Nt<|Zy Z<|Sr<|At Z Z<|Zo<|Zu<|?_
  refine rR [] L (.t1 Z) Z (Lr D) fun _ hS2=>?_
  refine ⟨?_,Z⟩
  simp [qaF,qez,qaE, *];done
 refine Zg Z Z<|Zqm Z Z<|Zg Z Z<|qeI Z Z Z Z<|Zg Z Z<|qdP Z Z Z<|ZqF Z Z Z<|Zqm Z Z<|?_
 refine qam (t:=13) Z (fun c2=>?_) (fun c2=>?_)
 ·
  refine Wf Y4<|Wf Y4<|ZqT Z Z Z<|Zqm Z Z<|Wf Y4<|Wf Y4<|ZqT Z Z Z<|Nt<|Zy Z<|Sr<|At Z Z<|Zo<|Zu<|?_
  refine rR [] L (.t1 Z) Z (Lr D) fun _ hS2=>?_
  refine ⟨?_,Z⟩
  have h6:¬ l.length≤6:=by omega
  simp [qaF,qez,qaE,h6];done
 refine Zg Z Z<|Zqm Z Z<|Zg Z Z<|qjv Z Z Z<|ZqF Z Z Z<|Zqm Z Z<|?_
 refine qam (t:=17) Z (fun c3=>?_) (fun c3=>?_)
 ·
  refine Wf Y4<|Wf Y4<|ZqT Z Z Z<|Nt<|Zy Z<|Sr<|At Z Z<|Zo<|Zu ?_
  refine rR [] L (.t1 Z) Z (Lr D) fun _ hS2=>?_
  refine ⟨?_,Z⟩
  simp [qaF,qez,qaE, *];done
 refine Zg Z Z<|Zqm Z Z<|Zg Z Z<|qjv Z Z Z<|ZqF Z Z Z<|Nt<|?_
 refine qab Z (fun c4=>?_) (fun c4=>?_)
 ·
  refine Sr<|At Z Z<|Zo<|Zu<|?_
  refine rR [] L (.t1 Z) Z (Lr D) fun _ hS2=>?_
  refine ⟨?_,Z⟩
  simp [qaF,qez,qaE, *];done
 refine Zk<|Zt<|Zs<|Sr<|Zqm Z Z<|qeI Z Z Z Z<|Zqm Z Z<|Nt<|Zp<|qaQ (γ:=Nat) (fun k=>[(0,_),(2,_),(22,_),(23,.int .i64 (k:Int))]) (fun _=>_) (fun k tw=>Le D s tw∧(k≤l.length∧∀ i c,i < k→l[i]?=some c→qdi i c=true)) (fun k=>l.length - k) (fun _ _ _ h hl=>⟨h.1.trans hl,h.2⟩) 0 (.c4 Z Z Z Z (.nil _)) Z ⟨Le.refl _,⟨Nat.zero_le _,fun i c hi=>by omega⟩⟩ ?_
 intro k s5 I5
 have hk0:=I5.2.1
 have hI:=I5.2.2
 refine Sr<|qbY Z Z Z<|Nt<|Zs<|?_
 refine qab Z (fun c6=>?_) (fun c6=>?_)
 ·
  have hk:k < l.length:=by omega
  obtain ⟨ch,hch⟩:∃ ch,l[k]?=some ch:=⟨_,List.getElem?_eq_getElem hk⟩
  refine Zk<|Zt<|Zs<|Zp<|Sr<|Zqm Z Z<|At Z Z<|Zs<|qbH qaf 22 Z _ (fun _ h=>h) ?_
  intro s7 h7
  refine za 0 Z (qao Z) Z<|za 1 Z (qao Z) Z<|za 2 Z (qdx Z Z Z Z hch) Z<|za 3 Z (qo9 Z Z) Z<|za 4 Z (qao Z) Z ?_
  refine qf3 (t:=30) Z (fun c8=>?_) (fun c8=>?_)
  ·
   refine zg 5 Z ⟨_,Z,Z⟩ (qao Z) Z<|zg 6 Z ⟨_,Z,Z⟩ (qao Z) Z<|zg 7 Z ⟨_,Z,Z⟩ (qdx Z Z Z Z hch) Z<|zg 8 Z ⟨_,Z,Z⟩ (qoU Z Z) Z<|za 9 Z (qeq Z Z) Z<|za 10 Z (qao Z) Z<|za 11 Z (qao Z) Z<|za 12 Z (qdx Z Z Z Z hch) Z<|za 13 Z (qo9 Z Z) Z<|za 14 Z (qao Z) Z ?_
   refine qf3 (t:=40) Z (fun c9=>?_) (fun c9=>?_)
   ·
    refine zg 15 Z ⟨_,Z,Z⟩ (qao Z) Z<|zg 16 Z ⟨_,Z,Z⟩ (qao Z) Z<|zg 17 Z ⟨_,Z,Z⟩ (qdx Z Z Z Z hch) Z<|zg 18 Z ⟨_,Z,Z⟩ (qoU Z Z) Z<|za 19 Z (qeq Z Z) Z<|za 20 Z (qcq Z) Z<|za 21 Z (qcq Z) Z<|qac V<|Zt<|Sr<|Zqm Z Z<|qcQ Z Z<|Zqm Z Z<|?_
    refine qb2 (t:=48) Z (fun c10=>?_) (fun c10=>?_)
    ·
     refine Zg Z Z<|Zqm Z Z<|Zg Z Z<|qcQ Z Z<|Zg Z Z<|Zqm Z Z<|?_
     refine qb2 (t:=51) Z (fun c11=>?_) (fun c11=>?_)
     ·
      refine Wf Y4<|Wf Y4<|Zg Z Z<|ZqT Z Z Z<|ZqT Z Z Z<|Nt<|Zy Z<|Sr<|At Z Z<|Zo<|Zc<|Zu<|Zu<|Zc<|Zu<|?_
      refine rR [] L (.t1 Z) Z (I5.1.t h7) fun _ hS2=>?_
      refine ⟨?_,Z⟩
      have hb:qdi k ch=false:=by
        rw [Bool.eq_false_iff];simp only [qdi,qft,qdk,Bool.or_eq_true,Bool.and_eq_true,decide_eq_true_eq,ne_eq];omega
      simp [qaF,qez,qaE,qcd hch hb];done
     refine Zg Z Z<|Zqm Z Z<|Zg Z Z<|qaJ Z Z Z<|Zg Z Z<|ZqF Z Z Z<|ZqT Z Z Z<|Nt<|?_
     refine qab Z (fun c12=>?_) (fun c12=>?_)
     ·
      refine Sr<|At Z Z<|Zo<|Zc<|Zu<|Zu<|Zc<|Zu<|?_
      refine rR [] L (.t1 Z) Z (I5.1.t h7) fun _ hS2=>?_
      refine ⟨?_,Z⟩
      have hb:qdi k ch=false:=by
        rw [Bool.eq_false_iff];simp only [qdi,qft,qdk,Bool.or_eq_true,Bool.and_eq_true,decide_eq_true_eq,ne_eq];omega
      simp [qaF,qez,qaE,qcd hch hb];done
     refine Zk<|Zb<|Zt<|Zr<|qaW Z Z Z (w64 O O)<|Zqm Z Z<|Zn<|?_
     have hOK:qdi k ch=true:=by simp only [qdi,qft,qdk,Bool.or_eq_true,Bool.and_eq_true,decide_eq_true_eq,ne_eq];omega
     refine qaa ⟨(k+1),[],kp,Z,⟨(I5.1.t h7),⟨by omega,qaS hI hch hOK⟩⟩,O⟩
    refine Wf Y4<|Wf Y4<|Wf Y4<|Zh Z Z Z<|Zh Z Z Z<|Wf Y4<|ZqF Z Z Z<|Nt<|Zz Z<|Zk<|Zb<|Zt<|Zr<|qaW Z Z Z (w64 O O)<|Zqm Z Z<|Zn<|?_
    have hOK:qdi k ch=true:=by simp only [qdi,qft,qdk,Bool.or_eq_true,Bool.and_eq_true,decide_eq_true_eq,ne_eq];omega
    refine qaa ⟨(k+1),[],kp,Z,⟨(I5.1.t h7),⟨by omega,qaS hI hch hOK⟩⟩,O⟩
   refine zn 15 Z Z Z Z Z<|zn 16 Z Z Z Z Z<|zn 17 Z Z Z Z Z<|zn 18 Z Z Z Z Z<|za 19 Z (qeo Z Z) Z<|za 20 Z (qcq Z) Z<|za 21 Z (qcq Z) Z<|qac V<|Zt<|Sr<|Zqm Z Z<|qcQ Z Z<|Zqm Z Z<|?_
   refine qb2 (t:=48) Z (fun c13=>?_) (fun c13=>?_)
   ·
    refine Zg Z Z<|Zqm Z Z<|Zg Z Z<|qmZ Z Z<|Zg Z Z<|Zqm Z Z<|Wf Y4<|Wf Y4<|Zg Z Z<|ZqT Z Z Z<|ZqT Z Z Z<|Nt<|Zy Z<|Sr<|At Z Z<|Zo<|Zc<|Zu<|Zu<|Zc<|Zu ?_
    refine rR [] L (.t1 Z) Z (I5.1.t h7) fun _ hS2=>?_
    refine ⟨?_,Z⟩
    have hb:qdi k ch=false:=by
      rw [Bool.eq_false_iff];simp only [qdi,qft,qdk,Bool.or_eq_true,Bool.and_eq_true,decide_eq_true_eq,ne_eq];omega
    simp [qaF,qez,qaE,qcd hch hb];done
   refine Wf Y4<|Wf Y4<|Wf Y4<|Zh Z Z Z<|Zh Z Z Z<|Wf Y4<|ZqF Z Z Z<|Nt<|Zz Z<|Zk<|Zb<|Zt<|Zr<|qaW Z Z Z (w64 O O)<|Zqm Z Z<|Zn<|?_
   have hOK:qdi k ch=true:=by simp only [qdi,qft,qdk,Bool.or_eq_true,Bool.and_eq_true,decide_eq_true_eq,ne_eq];omega
   refine qaa ⟨(k+1),[],kp,Z,⟨(I5.1.t h7),⟨by omega,qaS hI hch hOK⟩⟩,O⟩
  refine zn 5 Z Z Z Z Z<|zn 6 Z Z Z Z Z<|zn 7 Z Z Z Z Z<|zn 8 Z Z Z Z Z<|za 9 Z (qeo Z Z) Z<|za 10 Z (qao Z) Z<|za 11 Z (qao Z) Z<|za 12 Z (qdx Z Z Z Z hch) Z<|za 13 Z (qo9 Z Z) Z<|za 14 Z (qao Z) Z ?_
  refine qf3 (t:=40) Z (fun c14=>?_) (fun c14=>?_)
  ·
   refine zg 15 Z ⟨_,Z,Z⟩ (qao Z) Z<|zg 16 Z ⟨_,Z,Z⟩ (qao Z) Z<|zg 17 Z ⟨_,Z,Z⟩ (qdx Z Z Z Z hch) Z<|zg 18 Z ⟨_,Z,Z⟩ (qoU Z Z) Z<|za 19 Z (qeq Z Z) Z<|za 20 Z (qcq Z) Z<|za 21 Z (qcq Z) Z<|qac V<|Zt<|Sr<|Zqm Z Z<|qmZ Z Z<|Zqm Z Z<|Zg Z Z<|Zqm Z Z<|Zg Z Z<|qcQ Z Z<|Zg Z Z<|Zqm Z Z<|?_
   refine qb2 (t:=51) Z (fun c15=>?_) (fun c15=>?_)
   ·
    refine Wf Y4<|Wf Y4<|Zg Z Z<|ZqT Z Z Z<|ZqT Z Z Z<|Nt<|Zy Z<|Sr<|At Z Z<|Zo<|Zc<|Zu<|Zu<|Zc<|Zu<|?_
    refine rR [] L (.t1 Z) Z (I5.1.t h7) fun _ hS2=>?_
    refine ⟨?_,Z⟩
    have hb:qdi k ch=false:=by
      rw [Bool.eq_false_iff];simp only [qdi,qft,qdk,Bool.or_eq_true,Bool.and_eq_true,decide_eq_true_eq,ne_eq];omega
    simp [qaF,qez,qaE,qcd hch hb];done
   refine Zg Z Z<|Zqm Z Z<|Zg Z Z<|qaJ Z Z Z<|Zg Z Z<|ZqF Z Z Z<|ZqT Z Z Z<|Nt<|?_
   refine qab Z (fun c16=>?_) (fun c16=>?_)
   ·
    refine Sr<|At Z Z<|Zo<|Zc<|Zu<|Zu<|Zc<|Zu<|?_
    refine rR [] L (.t1 Z) Z (I5.1.t h7) fun _ hS2=>?_
    refine ⟨?_,Z⟩
    have hb:qdi k ch=false:=by
      rw [Bool.eq_false_iff];simp only [qdi,qft,qdk,Bool.or_eq_true,Bool.and_eq_true,decide_eq_true_eq,ne_eq];omega
    simp [qaF,qez,qaE,qcd hch hb];done
   refine Zk<|Zb<|Zt<|Zr<|qaW Z Z Z (w64 O O)<|Zqm Z Z<|Zn<|?_
   have hOK:qdi k ch=true:=by simp only [qdi,qft,qdk,Bool.or_eq_true,Bool.and_eq_true,decide_eq_true_eq,ne_eq];omega
   refine qaa ⟨(k+1),[],kp,Z,⟨(I5.1.t h7),⟨by omega,qaS hI hch hOK⟩⟩,O⟩
  refine zn 15 Z Z Z Z Z<|zn 16 Z Z Z Z Z<|zn 17 Z Z Z Z Z<|zn 18 Z Z Z Z Z<|za 19 Z (qeo Z Z) Z<|za 20 Z (qcq Z) Z<|za 21 Z (qcq Z) Z<|qac V<|Zt<|Sr<|Zqm Z Z<|qmZ Z Z<|Zqm Z Z<|Zg Z Z<|Zqm Z Z<|Zg Z Z<|qmZ Z Z<|Zg Z Z<|Zqm Z Z<|Wf Y4<|Wf Y4<|Zg Z Z<|ZqT Z Z Z<|ZqT Z Z Z<|Nt<|Zy Z<|Sr<|At Z Z<|Zo<|Zc<|Zu<|Zu<|Zc<|Zu<|?_
  refine rR [] L (.t1 Z) Z (I5.1.t h7) fun _ hS2=>?_
  refine ⟨?_,Z⟩
  have hb:qdi k ch=false:=by
    rw [Bool.eq_false_iff];simp only [qdi,qft,qdk,Bool.or_eq_true,Bool.and_eq_true,decide_eq_true_eq,ne_eq];omega
  simp [qaF,qez,qaE,qcd hch hb];done
 refine Zl<|Zv<|Zv<|Zd<|Zt<|Sr<|At Z Z<|Zo<|?_
 refine rR [] L (.t1 Z) Z I5.1 fun _ hS2=>?_
 refine ⟨?_,Z⟩
 have hb:=qiM (fun i c hi hc=>hI i c O hc)
 have h6:l.length≤6:=by omega
 simp [qaF,qez,qaE,hb,h6, *];done
theorem qeM(D:Nat)(L:Hl)(s:World)(x:Ins)(A:Option Addr)(n c:Nat)(hA:Acs s A n c x.acts):AC prog D 48 [.agg #[St x.name,.int .u32 x.code,.bool x.operand,.slice A n c]] L s fun v L' _=>v=.int .i64 (qb8 x)∧L=L':=by
 have hn:=hA.1
 have hc1:=hA.2.1
 have hc2:=hA.2.2.1
 refine qai (fn:=f48) qaG func48 V Z ntmps48 Z (rs:=[.tmp 2]) Z [(0,_)] Z<|Sr<|qaL Z Z ?_
 intro β1 s1 h1
 refine At Z Z<|Zs<|Zp<|Sr<|W0 Y5<|Wl 0 Y6<|Jc Z Z Z (qhc D _ _ _) ?_
 rintro _ _ s2 h2 ⟨rfl,rfl⟩
 refine qcQ Z Z<|At Z Z<|?_
 refine qbU Z (fun c3=>?_) (fun c3=>?_)
 ·
  refine Sr<|At Z Z<|Zo<|Zc<|Zu<|?_
  refine rR [_] L (.t1 Z) Z (h1.t h2) fun _ hS2=>?_
  refine ⟨?_,Z⟩
  simp [qaF,qb8, *];done
 refine Sr<|Wb Y5<|Wl 0 Y6<|Ws Y4<|qdP Z Z Z<|At Z Z<|?_
 refine qab Z (fun c4=>?_) (fun c4=>?_)
 ·
  refine Sr<|At Z Z<|Zo<|Zc<|Zu<|?_
  refine rR [_] L (.t1 Z) Z (h1.t h2) fun _ hS2=>?_
  refine ⟨?_,Z⟩
  have h8:8 < x.acts.length:=by omega
  simp [qaF,qb8,h8, *];done
 refine Zk<|Zb<|Zt<|Zs<|Sr<|Wb Y5<|Wl 0 Y6<|Ws Y4<|Zqm Z Z<|Nt<|Zp<|qaQ (γ:=Nat) (fun k=>[(1,_),(2,_),(17,_),(18,_),(19,.int .i64 (k:Int))]) (fun _=>_) (fun k tw=>Le D s2 tw∧(k≤n∧∀ i a,i < k→x.acts[i]?=some a→qbT a x.operand=0)) (fun k=>n - k) (fun _ _ _ h hl=>⟨h.1.trans hl,h.2⟩) 0 (.c5 Z Z Z Z Z (.nil _)) Z ⟨Le.refl _,⟨Nat.zero_le _,fun i c hi=>by omega⟩⟩ ?_
 intro k s5 I5
 have hk0:=I5.2.1
 have hI:=I5.2.2
 refine Sr<|qbY Z Z Z<|Nt<|Zs<|?_
 refine qab Z (fun c6=>?_) (fun c6=>?_)
 ·
  have hk:k < n:=by omega
  obtain ⟨b,off,a,rfl,ha,hca,hau⟩:=Acs.at_ (hA.le (h1.t h2|>.t I5.1)) hk
  refine Zk<|Zt<|Zs<|Zp<|Sr<|qae (qbw Z Z Z Z Z Z hk) Z<|qae (qbG Z Z Z hca Z) Z<|qag Z [_,_,_,_,_,_] Z Z ?_
  intro β7 s7 h7
  refine Wt 0 [_,_,_,_,_,_] Y9<|Nt<|Sr<|qae (qad 0 [_,_,_,_,_,_] Z Z Z Z Z) Z<|Wb Y5<|Wl 1 Y6<|Jc Z Z Z (qgG D _ _ _ _) ?_
  rintro _ _ s8 h8 ⟨rfl,rfl⟩
  refine At Z Z<|Sr<|Zqm Z Z<|qj3 Z Z Z<|Nt<|?_
  refine qbc Z (fun c9=>?_) (fun c9=>?_)
  ·
   have hz:qbT a x.operand≠0:=by simpa using c9
   refine Sr<|Zqm Z Z<|At Z Z<|Zo<|Zc<|Zu<|Zu<|Zc<|Zu<|?_
   refine rR [_,_] L (.t1 Z) Z (h1.t h2|>.t I5.1|>.t h7|>.t h8) fun _ hS2=>?_
   refine ⟨?_,Z⟩
   have h8:¬ 8 < x.acts.length:=by omega
   simp [qaF,qb8,h8,qi1 hI ha hz, *];done
  have hz:qbT a x.operand=0:=by simpa using c9
  refine Zk<|Zb<|Zt<|Zr<|qaW Z Z Z (w64 O O)<|Zqm Z Z<|Zn<|?_
  refine qaa ⟨(k+1),[_],kp,Z,⟨(I5.1.t h7|>.t h8),⟨by omega,qaS hI ha hz⟩⟩,O⟩
 refine Zl<|Zv<|Zv<|Zd<|Zt<|Sr<|At Z Z<|Zo<|?_
 refine rR [_] L (.t1 Z) Z (h1.t h2|>.t I5.1) fun _ hS2=>?_
 refine ⟨?_,Z⟩
 have h8:¬ 8 < x.acts.length:=by omega
 simp [qaF,qb8,h8,qiT (fun i a hi h=>hI i a O h), *];done
theorem qiP(D:Nat)(L:Hl)(s:World)(x y:Ins)(A A':Option Addr)(n c n' c' β:Nat):AC prog D 50 [.agg #[St y.name,.int .u32 y.code,.bool y.operand,.slice A' n' c'],.pointer (some ⟨β,0,none⟩)] ((β,cb [St x.name,.int .u32 x.code,.bool x.operand,.slice A n c] 66)::L) s fun v L' _=>v=.bool (qdz x y)∧(β,cb [St x.name,.int .u32 x.code,.bool x.operand,.slice A n c] 66)::L=L':=by
 refine qai (fn:=f50) qaG func50 V Z ntmps50 Z (rs:=[.tmp 3]) Z [(0,_),(1,_)] Z<|Sr<|qaL Z Z ?_
 intro β1 s1 h1
 refine At Z Z<|Sr<|W0 Y5<|Wl 1 Y6<|W0 Y5<|Wl 0 Y6<|qjv Z Z Z<|Zqm Z Z<|?_
 refine qam (t:=9) Z (fun c2=>?_) (fun c2=>?_)
 ·
  refine Wf Y4<|Wf Y4<|Wf Y4<|Wf Y4<|Wf Y4<|ZqT Z Z Z<|At Z Z<|Zo<|?_
  refine rR [_] ((β,cb [St x.name,.int .u32 x.code,.bool x.operand,.slice A n c] 66)::L) (.t1 Z) Z h1 fun _ hS2=>?_
  exact ⟨by simp_all [qaF,qdz],rfl⟩
 refine Zg Z Z<|Wb Y5<|Zg Z Z<|Wl 1 Y6<|Zg Z Z<|Wb Y5<|Zg Z Z<|Wl 0 Y6<|Zg Z Z<|qaJ Z Z Z<|ZqF Z Z Z<|At Z Z<|Zo<|?_
 refine rR [_] ((β,cb [St x.name,.int .u32 x.code,.bool x.operand,.slice A n c] 66)::L) (.t1 Z) Z h1 fun _ hS2=>?_
 exact ⟨by simp_all [qaF,qdz],rfl⟩
theorem qfT(D:Nat)(L:Hl)(s:World)(A:Option Addr)(n c:Nat)(l:List Ins)(hA:Inss s A n c l)(f:FuncId)(cap:List Value)(p:Ins→Bool)(hp:∀ s' x A' n' c',AC prog D f ([.agg #[St x.name,.int .u32 x.code,.bool x.operand,.slice A' n' c']]++cap) L s' fun v L' _=>v=.bool (p x)∧L=L'):AC prog D 69 [.slice A n c,.func (.func f) #[] cap.toArray] L s fun v L' _=>v=.int .i64 (qce p l 0)∧L=L':=by
 have hn:=hA.1
 have hc1:=hA.2.1
 have hc2:=hA.2.2.1
 refine qai (fn:=f69) qaG func69 V Z ntmps69 Z (rs:=[.tmp 4]) Z [(0,_),(1,_)] Z<|Sr<|At Z Z<|Zs<|Sr<|Zqm Z Z<|Ws Y4<|Zqm Z Z<|Nt<|Zp<|qaQ (γ:=Nat) (fun k=>[(0,_),(1,_),(4,_),(7,_),(8,.int .i64 (k:Int))]) (fun _=>_) (fun k tw=>Le D s tw∧(k≤n∧∀ i x,i < k→l[i]?=some x→p x=false)) (fun k=>n - k) (fun _ _ _ h hl=>⟨h.1.trans hl,h.2⟩) 0 (.c5 Z Z Z Z Z (.nil _)) Z ⟨Le.refl _,⟨Nat.zero_le _,fun i c hi=>by omega⟩⟩ ?_
 intro k s1 I1
 have hk0:=I1.2.1
 have hI:=I1.2.2
 refine Sr<|qbY Z Z Z<|Nt<|Zs<|?_
 refine qab Z (fun c2=>?_) (fun c2=>?_)
 ·
  have hk:k < n:=by omega
  obtain ⟨b,off,x,A',n',c',rfl,hx,hcx,hax,hnl,hcd⟩:=Inss.at_ (hA.le I1.1) hk
  refine Zk<|Zt<|Zs<|Zp<|Sr<|Zqm Z Z<|At Z Z<|Sr<|Zqm Z Z<|Zqm Z Z<|Zqm Z Z<|qae (qbw Z Z Z Z Z Z hk) Z<|qae (qbG Z Z Z hcx Z) Z<|qaz (first:=[]) (captured:=cap) Z Z Z (hp _ x _ _ _) ?_
  rintro _ _ s3 h3 ⟨rfl,rfl⟩
  refine Nt<|?_
  refine qcW Z (fun c4=>?_) (fun c4=>?_)
  ·
   have hz:=c4
   refine Sr<|Zqm Z Z<|At Z Z<|Zo<|Zc<|Zu<|Zu<|Zc<|Zu<|?_
   refine rR [] L (.t1 Z) Z (I1.1.t h3) fun _ hS2=>?_
   refine ⟨?_,Z⟩
   simp [qaF,qe9 hI hx hz];done
  have hz:=c4
  refine Zk<|Zb<|Zt<|Zr<|qaW Z Z Z (w64 O O)<|Zqm Z Z<|Zn<|?_
  refine qaa ⟨(k+1),[],kp,Z,⟨(I1.1.t h3),⟨by omega,qaS hI hx hz⟩⟩,O⟩
 refine Zl<|Zv<|Zv<|Zd<|Zt<|Sr<|At Z Z<|Zo<|?_
 refine rR [] L (.t1 Z) Z I1.1 fun _ hS2=>?_
 refine ⟨?_,Z⟩
 simp [qaF,qeu (fun i a hi h=>hI i a O h)];done
theorem qf6(D:Nat)(L:Hl)(s:World)(A:Option Addr)(n c:Nat)(l:List Ins)(hA:Inss s A n c l)(f:FuncId)(cap:List Value)(p:Ins→Bool)(hp:∀ s' x A' n' c',AC prog D f ([.agg #[St x.name,.int .u32 x.code,.bool x.operand,.slice A' n' c']]++cap) L s' fun v L' _=>v=.bool (p x)∧L=L'):AC prog D 49 [.slice A n c,.func (.func f) #[] cap.toArray] L s fun v L' _=>v=.bool (l.any p)∧L=L':=by
 refine qai (fn:=f49) qaG func49 V Z ntmps49 Z (rs:=[.tmp 4]) Z [(0,_),(1,_)] Z<|Sr<|At Z Z<|Sr<|Zqm Z Z<|Zqm Z Z<|Jc Z Z Z (qfT D _ _ _ _ _ l hA f cap p hp) ?_
 rintro _ _ s1 h1 ⟨rfl,rfl⟩
 refine qgW Z Z Z<|At Z Z<|Zo<|?_
 refine rR [] L (.t1 Z) Z h1 fun _ hS2=>?_
 exact ⟨by simp only [qaF,qih],rfl⟩
theorem qdd(D:Nat)(L:Hl)(s:World)(t:Tab)(A:Option Addr)(n c:Nat)(hA:Inss s A n c t.ins):AC prog D 22 [.agg #[.int .i64 t.cells,.slice A n c]] L s fun v L' _=>v=.agg #[.int .i64 (qak t).1,.int .i64 (qak t).2]∧L=L':=by
 have hn:=hA.1
 have hc1:=hA.2.1
 have hc2:=hA.2.2.1
 refine qai (fn:=f22) qaG func22 V Z ntmps22 Z (rs:=[.cell 2 29]) Z [(0,_)] Z<|Sr<|qaL Z Z ?_
 intro β1 s1 h1
 refine qag Z [_,_] Z Z ?_
 intro β2 s2 h2
 refine Nt<|Zs<|Zp<|Sr<|W0 Y5<|Wl 1 Y6<|qbY Z Z Z<|Zqm Z Z<|?_
 refine qam (t:=10) Z (fun c3=>?_) (fun c3=>?_)
 ·
  refine Wf Y4<|Wf Y4<|Wf Y4<|ZqT Z Z Z<|At Z Z<|Zy Z<|Sr<|Jc Z Z Z (qbk D _ _ _ _) ?_
  rintro _ _ s4 h4 ⟨rfl,rfl⟩
  refine Wt 0 [_,_] Y9<|Nt<|Zo<|Zc<|Zu<|?_
  refine rR [_,_] L (.agg (us:=[_,_]) 0 Z Z Z Z Z (.nil)) Z (h1.t h2|>.t h4) fun _ hS2=>?_
  refine ⟨?_,Z⟩
  have h0:t.cells < 1∨65536 < t.cells:=by omega
  simp [qaF,qak,h0];done
 refine Zg Z Z<|W0 Y5<|Zg Z Z<|Wl 1 Y6<|Zg Z Z<|qdP Z Z Z<|ZqF Z Z Z<|At Z Z<|?_
 refine qab Z (fun c5=>?_) (fun c5=>?_)
 ·
  refine Sr<|Jc Z Z Z (qbk D _ _ _ _) ?_
  rintro _ _ s6 h6 ⟨rfl,rfl⟩
  refine Wt 0 [_,_] Y9<|Nt<|Zo<|Zc<|Zu<|?_
  refine rR [_,_] L (.agg (us:=[_,_]) 0 Z Z Z Z Z (.nil)) Z (h1.t h2|>.t h6) fun _ hS2=>?_
  refine ⟨?_,Z⟩
  have h0:t.cells < 1∨65536 < t.cells:=by omega
  simp [qaF,qak,h0];done
 refine Sr<|Wb Y5<|Wl 1 Y6<|Ws Y4<|qdP Z Z Z<|At Z Z<|?_
 refine qab Z (fun c7=>?_) (fun c7=>?_)
 ·
  refine Sr<|Jc Z Z Z (qbk D _ _ _ _) ?_
  rintro _ _ s8 h8 ⟨rfl,rfl⟩
  refine Wt 0 [_,_] Y9<|Nt<|Zo<|Zc<|Zu<|?_
  refine rR [_,_] L (.agg (us:=[_,_]) 0 Z Z Z Z Z (.nil)) Z (h1.t h2|>.t h8) fun _ hS2=>?_
  refine ⟨?_,Z⟩
  have h0:¬ (t.cells < 1∨65536 < t.cells):=by omega
  have h1:64 < t.ins.length:=by omega
  simp [qaF,qak,h0,h1];done
 refine Zk<|Zb<|Zt<|Zs<|Sr<|Wb Y5<|Wl 1 Y6<|Ws Y4<|Zqm Z Z<|Nt<|Zp<|qaQ (γ:=Nat) (fun k=>[(1,_),(2,_),(23,_),(24,_),(25,.int .i64 (k:Int))]) (fun _=>_) (fun k tw=>Le D s2 tw∧(k≤n∧∀ i,i < k→qbR t.ins i=0)) (fun k=>n - k) (fun _ _ _ h hl=>⟨h.1.trans hl,h.2⟩) 0 (.c5 Z Z Z Z Z (.nil _)) Z ⟨Le.refl _,⟨Nat.zero_le _,fun i hi=>by omega⟩⟩ ?_
 intro k s9 I9
 have hk0:=I9.2.1
 have hI:=I9.2.2
 refine Sr<|qbY Z Z Z<|Nt<|Zs<|?_
 refine qab Z (fun c10=>?_) (fun c10=>?_)
 ·
  have hk:k < n:=by omega
  obtain ⟨b,off,x,A',n',c',rfl,hx,hcx,hax,hnl,hcd⟩:=Inss.at_ (hA.le (h1.t h2|>.t I9.1)) hk
  refine Zk<|Zt<|Zs<|Zp<|Sr<|Zqm Z Z<|qae (qbw Z Z Z Z Z Z hk) Z<|qae (qbG Z Z Z hcx Z) Z<|qag Z [_,_,_,_] Z Z ?_
  intro β11 s11 h11
  refine Zqa Z Z<|Wt 0 [_,_,_,_] Y9<|Nt<|Zs<|Sr<|qae (qad 0 [_,_,_,_] Z Z Z Z Z) Z<|Jc Z Z Z (qeM D _ _ _ _ _ _ (hax.le h11)) ?_
  rintro _ _ s12 h12 ⟨rfl,rfl⟩
  refine At Z Z<|Sr<|Zqm Z Z<|qj3 Z Z Z<|Nt<|?_
  refine qbc Z (fun c13=>?_) (fun c13=>?_)
  ·
   have hz:qb8 x≠0:=by simpa using c13
   refine Sr<|Zqm Z Z<|Zqm Z Z<|Jc Z Z Z (qbk D _ _ _ _) ?_
   rintro _ _ s14 h14 ⟨rfl,rfl⟩
   refine Wt 1 [_,_] Y9<|Nt<|Zo<|Zu<|Zc<|Zu<|Zu<|Zc<|Zu<|?_
   refine rR [_,_,_] L (.agg (us:=[_,_]) 1 Z Z Z Z Z (.nil)) Z (h1.t h2|>.t I9.1|>.t h11|>.t h12|>.t h14) fun _ hS2=>?_
   refine ⟨?_,Z⟩
   have h0:¬ (t.cells < 1∨65536 < t.cells):=by omega
   have h1:¬ 64 < t.ins.length:=by omega
   have hr:qbR t.ins k=qb8 x:=by simp [qbR,hx,hz]
   have hb:=qd6 (f:=qbR t.ins) (m:=t.ins.length) (j:=0) (k:=k) (fun i _ hi=>hI i hi) O (by rw [hr];exact hz) O
   simp [qaF,qak,h0,h1,hb,hr];done
  have hz:qb8 x=0:=by simpa using c13
  refine Zk<|Zt<|Sr<|Wb Y5<|Wl 2 Y6<|Zqm Z Z<|qae (qpH Z Z Z Z Z O) Z<|qae (qfx Z) Z<|Jc Z Z Z (qf6 D _ _ _ _ _ (t.ins.take k) (Inss.take (hA.le (h1.t h2|>.t I9.1|>.t h11|>.t h12)) hk) _ _ (qdz x) (fun s' y A'' n'' c''=>qiP D _ _ _ _ _ _ _ _ _ _ _)) ?_
  rintro _ _ s15 h15 ⟨rfl,rfl⟩
  refine Nt<|?_
  refine qcW Z (fun c16=>?_) (fun c16=>?_)
  ·
   have hy:=c16
   refine Sr<|Zqm Z Z<|Jc Z Z Z (qbk D _ _ _ _) ?_
   rintro _ _ s17 h17 ⟨rfl,rfl⟩
   refine Wt 1 [_,_] Y9<|Nt<|Zo<|Zc<|Zu<|Zu<|Zc<|Zu<|?_
   refine rR [_,_,_] L (.agg (us:=[_,_]) 1 Z Z Z Z Z (.nil)) Z (h1.t h2|>.t I9.1|>.t h11|>.t h12|>.t h15|>.t h17) fun _ hS2=>?_
   refine ⟨?_,Z⟩
   have h0:¬ (t.cells < 1∨65536 < t.cells):=by omega
   have h1:¬ 64 < t.ins.length:=by omega
   have hr:qbR t.ins k=8:=by simp [qbR,hx,hz,hy]
   have hb:=qd6 (f:=qbR t.ins) (m:=t.ins.length) (j:=0) (k:=k) (fun i _ hi=>hI i hi) O (by rw [hr];decide) O
   simp [qaF,qak,h0,h1,hb,hr];done
  have hy:=c16
  refine Zk<|Zb<|Zt<|Zr<|qaW Z Z Z (w64 O O)<|Zqm Z Z<|Zn<|?_
  refine qaa ⟨(k+1),[_],kp,rfl,⟨(I9.1.t h11|>.t h12|>.t h15),⟨by omega,fun i hi=>by rcases Nat.lt_succ_iff_lt_or_eq.1 hi with h | rfl;exact hI i h;simp [qbR,hx,hz,hy]⟩⟩,O⟩
 refine Zl<|Zv<|Zv<|Zd<|Zt<|Sr<|qae (qal [] [_,_] Z Z Z Z Z Z) Z<|Wt 0 [_,_] Y9<|Nt<|Zo<|?_
 refine rR [_,_] L (.agg (us:=[_,_]) 0 Z Z Z Z Z (.nil)) Z (h1.t h2|>.t I9.1) fun _ hS2=>?_
 refine ⟨?_,Z⟩
 have h0:¬ (t.cells < 1∨65536 < t.cells):=by omega
 have h1:¬ 64 < t.ins.length:=by omega
 have hb:=qdQ (f:=qbR t.ins) (m:=t.ins.length) (j:=0) (fun i _ hi=>hI i O)
 simp [qaF,qak,h0,h1,hb];done
theorem qtD(D:Nat)(L:Hl)(s:World)(x lo hi:Int):AC prog D 7 [.int .i64 x,.int .i64 lo,.int .i64 hi] L s fun v L' _=>v=.bool (decide (lo≤x∧x≤hi))∧L=L':=by
 refine qai (fn:=f7) qaG func7 V Z ntmps7 Z (rs:=[.tmp 6]) Z [(0,_),(1,_),(2,_)] Z<|Sr<|At Z Z<|Sr<|Zqm Z Z<|Zqm Z Z<|qgW Z Z Z<|Zqm Z Z<|?_
 refine qam (t:=10) Z (fun c1=>?_) (fun c1=>?_)
 ·
  refine Zg Z Z<|Zqm Z Z<|Zg Z Z<|Zqm Z Z<|Zg Z Z<|qpt Z Z Z<|ZqT Z Z Z<|At Z Z<|Zo<|?_
  refine rR [] L (.t1 Z) Z (Lr D) fun _ hS2=>?_
  exact ⟨by simp [qaF, *],rfl⟩
 refine Wf Y4<|Wf Y4<|Wf Y4<|ZqF Z Z Z<|At Z Z<|Zo<|?_
 refine rR [] L (.t1 Z) Z (Lr D) fun _ hS2=>?_
 exact ⟨by simp [qaF, *],rfl⟩
theorem qlc(D:Nat)(L:Hl)(s:World)(l:List UInt8)(m:Int)(hl:l.length≤9223372036854775807):AC prog D 100 [St l,.int .i64 m] L s fun v L' _=>v=.bool (decide (l≠[]) && decide ((l.length:Int)≤m) && qbB 0 l)∧L=L':=by
 refine qai (fn:=f100) qaG func100 V Z ntmps100 Z (rs:=[.tmp 4]) Z [(0,_),(1,_)] Z<|Sr<|At Z Z<|Zs<|Sr<|Zqm Z Z<|qeI Z Z Z Z<|qbY Z Z Z<|Zqm Z Z<|?_
 refine qam (t:=11) Z (fun c1=>?_) (fun c1=>?_)
 ·
  refine Wf Y4<|Wf Y4<|Wf Y4<|Wf Y4<|ZqT Z Z Z<|Nt<|Zy Z<|Sr<|At Z Z<|Zo<|Zu<|?_
  refine rR [] L (.t1 Z) Z (Lr D) fun _ hS2=>?_
  refine ⟨?_,Z⟩
  have hnil:l=[]↔l.length=0:=by cases l <;> simp
  have h0:l=[]:=by rw [hnil];omega
  simp [qaF,h0];done
 refine Zg Z Z<|Zqm Z Z<|Zg Z Z<|qeI Z Z Z Z<|Zg Z Z<|Zqm Z Z<|Zg Z Z<|qdP Z Z Z<|ZqF Z Z Z<|Nt<|?_
 refine qab Z (fun c2=>?_) (fun c2=>?_)
 ·
  refine Sr<|At Z Z<|Zo<|Zu<|?_
  refine rR [] L (.t1 Z) Z (Lr D) fun _ hS2=>?_
  refine ⟨?_,Z⟩
  have hnil:l=[]↔l.length=0:=by cases l <;> simp
  have h0:¬ (l.length:Int)≤m:=by omega
  simp [qaF,h0];done
 refine Zk<|Zt<|Zs<|Sr<|At Z Z<|Zp<|qaQ (γ:=Nat) (fun k=>[(0,_),(4,_),(5,.int .i64 (k:Int))]) (fun _=>_) (fun k tw=>Le D s tw∧(k≤l.length∧∀ i c,i < k→l[i]?=some c→qdi i c=true)) (fun k=>l.length - k) (fun _ _ _ h hl=>⟨h.1.trans hl,h.2⟩) 0 (.c3 Z Z Z (.nil _)) Z ⟨Le.refl _,⟨Nat.zero_le _,fun i c hi=>by omega⟩⟩ ?_
 intro k s3 I3
 have hk0:=I3.2.1
 have hI:=I3.2.2
 refine Zs<|Sr<|Zqm Z Z<|Zqm Z Z<|qeI Z Z Z Z<|qbY Z Z Z<|Nt<|?_
 refine qab Z (fun c4=>?_) (fun c4=>?_)
 ·
  have hk:k < l.length:=by omega
  obtain ⟨ch,hch⟩:∃ ch,l[k]?=some ch:=⟨_,List.getElem?_eq_getElem hk⟩
  refine Zk<|Zt<|Zs<|Zp<|Sr<|Zqm Z Z<|Zqm Z Z<|qae (qdx Z Z Z Z hch) Z<|qgW Z Z Z<|Zqm Z Z<|?_
  refine qam (t:=27) Z (fun c5=>?_) (fun c5=>?_)
  ·
   refine Zg Z Z<|Zqm Z Z<|Zg Z Z<|Zqm Z Z<|Zg Z Z<|qae (qdx Z Z Z Z hch) Z<|Zg Z Z<|qpt Z Z Z<|ZqT Z Z Z<|At Z Z<|Sr<|Zqm Z Z<|Zqm Z Z<|qae (qdx Z Z Z Z hch) Z<|qgW Z Z Z<|Zqm Z Z<|?_
   refine qam (t:=37) Z (fun c6=>?_) (fun c6=>?_)
   ·
    refine Zg Z Z<|Zqm Z Z<|Zg Z Z<|Zqm Z Z<|Zg Z Z<|qae (qdx Z Z Z Z hch) Z<|Zg Z Z<|qpt Z Z Z<|ZqT Z Z Z<|At Z Z<|Sr<|Zqm Z Z<|qcQ Z Z<|Zqm Z Z<|?_
    refine qb2 (t:=45) Z (fun c7=>?_) (fun c7=>?_)
    ·
     refine Zg Z Z<|Zqm Z Z<|Zg Z Z<|Zqm Z Z<|?_
     refine qam (t:=47) Z (fun c8=>?_) (fun c8=>?_)
     ·
      refine Zg Z Z<|Zqm Z Z<|Zg Z Z<|qdP Z Z Z<|Zg Z Z<|ZqT Z Z Z<|Zg Z Z<|qcQ Z Z<|ZqT Z Z Z<|Nt<|?_
      refine qbc Z (fun c9=>?_) (fun c9=>?_)
      ·
       refine Sr<|At Z Z<|Zo<|Zc<|Zu<|Zu<|Zc<|Zu<|?_
       refine rR [] L (.t1 Z) Z I3.1 fun _ hS2=>?_
       refine ⟨?_,Z⟩
       have hnil:l=[]↔l.length=0:=by cases l <;> simp
       have h0:l=[]:=by rw [hnil];omega
       simp [qaF,h0];done
      refine Zk<|Zb<|Zt<|Zr<|Zqm Z Z<|qaW Z Z Z (w64 O O)<|Zqa Z Z<|Zn<|?_
      have hOK:qdi k ch=true:=by simp only [qdi,qft,qdk,Bool.or_eq_true,Bool.and_eq_true,decide_eq_true_eq,ne_eq];omega
      refine qaa ⟨(k+1),[],kp,Z,⟨I3.1,⟨by omega,qaS hI hch hOK⟩⟩,O⟩
     refine Wf Y4<|Wf Y4<|Zg Z Z<|ZqF Z Z Z<|Zg Z Z<|qmZ Z Z<|ZqT Z Z Z<|Nt<|Zy Z<|Sr<|At Z Z<|Zo<|Zc<|Zu<|Zu<|Zc<|Zu<|?_
     refine rR [] L (.t1 Z) Z I3.1 fun _ hS2=>?_
     refine ⟨?_,Z⟩
     have hnil:l=[]↔l.length=0:=by cases l <;> simp
     have hb:qdi k ch=false:=by
       rw [Bool.eq_false_iff];simp only [qdi,qft,qdk,Bool.or_eq_true,Bool.and_eq_true,decide_eq_true_eq,ne_eq];omega
     simp [qaF,qcd hch hb];done
    refine Wf Y4<|Wf Y4<|Zh Z Z Z<|Zh Z Z Z<|Wf Y4<|Wf Y4<|ZqF Z Z Z<|Nt<|Zz Z<|Zk<|Zb<|Zt<|Zr<|Zqm Z Z<|qaW Z Z Z (w64 O O)<|Zqa Z Z<|Zn<|?_
    have hOK:qdi k ch=true:=by simp only [qdi,qft,qdk,Bool.or_eq_true,Bool.and_eq_true,decide_eq_true_eq,ne_eq];omega
    refine qaa ⟨(k+1),[],kp,Z,⟨I3.1,⟨by omega,qaS hI hch hOK⟩⟩,O⟩
   refine Wf Y4<|Wf Y4<|Wf Y4<|Wf Y4<|ZqF Z Z Z<|At Z Z<|Sr<|Zqm Z Z<|qcQ Z Z<|Zqm Z Z ?_
   refine qb2 (t:=45) Z (fun c10=>?_) (fun c10=>?_)
   ·
    refine Zg Z Z<|Zqm Z Z<|Zg Z Z<|Zqm Z Z<|Wf Y4<|Wf Y4<|Zg Z Z<|ZqF Z Z Z<|Zg Z Z<|qmZ Z Z<|ZqT Z Z Z<|Nt<|Zy Z<|Sr<|At Z Z<|Zo<|Zc<|Zu<|Zu<|Zc<|Zu ?_
    refine rR [] L (.t1 Z) Z I3.1 fun _ hS2=>?_
    refine ⟨?_,Z⟩
    have hnil:l=[]↔l.length=0:=by cases l <;> simp
    have h0:l=[]:=by rw [hnil];omega
    simp [qaF,h0];done
   refine Wf Y4<|Wf Y4<|Zh Z Z Z<|Zh Z Z Z<|Wf Y4<|Wf Y4<|ZqF Z Z Z<|Nt<|Zz Z<|Zk<|Zb<|Zt<|Zr<|Zqm Z Z<|qaW Z Z Z (w64 O O)<|Zqa Z Z<|Zn<|?_
   have hOK:qdi k ch=true:=by simp only [qdi,qft,qdk,Bool.or_eq_true,Bool.and_eq_true,decide_eq_true_eq,ne_eq];omega
   refine qaa ⟨(k+1),[],kp,Z,⟨I3.1,⟨by omega,qaS hI hch hOK⟩⟩,O⟩
  refine Wf Y4<|Wf Y4<|Wf Y4<|Wf Y4<|ZqF Z Z Z<|At Z Z<|Sr<|Zqm Z Z<|Zqm Z Z<|qae (qdx Z Z Z Z hch) Z<|qgW Z Z Z<|Zqm Z Z<|?_
  refine qam (t:=37) Z (fun c11=>?_) (fun c11=>?_)
  ·
   refine Zg Z Z<|Zqm Z Z<|Zg Z Z<|Zqm Z Z<|Zg Z Z<|qae (qdx Z Z Z Z hch) Z<|Zg Z Z<|qpt Z Z Z<|ZqT Z Z Z<|At Z Z<|Sr<|Zqm Z Z<|qmZ Z Z<|Zqm Z Z<|Zg Z Z<|Zqm Z Z<|Zg Z Z<|Zqm Z Z<|?_
   refine qam (t:=47) Z (fun c12=>?_) (fun c12=>?_)
   ·
    refine Zg Z Z<|Zqm Z Z<|Zg Z Z<|qdP Z Z Z<|Zg Z Z<|ZqT Z Z Z<|Zg Z Z<|qcQ Z Z<|ZqT Z Z Z<|Nt<|?_
    refine qbc Z (fun c13=>?_) (fun c13=>?_)
    ·
     refine Sr<|At Z Z<|Zo<|Zc<|Zu<|Zu<|Zc<|Zu<|?_
     refine rR [] L (.t1 Z) Z I3.1 fun _ hS2=>?_
     refine ⟨?_,Z⟩
     have hnil:l=[]↔l.length=0:=by cases l <;> simp
     have hb:qdi k ch=false:=by
       rw [Bool.eq_false_iff];simp only [qdi,qft,qdk,Bool.or_eq_true,Bool.and_eq_true,decide_eq_true_eq,ne_eq];omega
     simp [qaF,qcd hch hb];done
    refine Zk<|Zb<|Zt<|Zr<|Zqm Z Z<|qaW Z Z Z (w64 O O)<|Zqa Z Z<|Zn<|?_
    have hOK:qdi k ch=true:=by simp only [qdi,qft,qdk,Bool.or_eq_true,Bool.and_eq_true,decide_eq_true_eq,ne_eq];omega
    refine qaa ⟨(k+1),[],kp,Z,⟨I3.1,⟨by omega,qaS hI hch hOK⟩⟩,O⟩
   refine Wf Y4<|Wf Y4<|Zg Z Z<|ZqF Z Z Z<|Zg Z Z<|qmZ Z Z<|ZqT Z Z Z<|Nt<|Zy Z<|Sr<|At Z Z<|Zo<|Zc<|Zu<|Zu<|Zc<|Zu<|?_
   refine rR [] L (.t1 Z) Z I3.1 fun _ hS2=>?_
   refine ⟨?_,Z⟩
   have hnil:l=[]↔l.length=0:=by cases l <;> simp
   have hb:qdi k ch=false:=by
     rw [Bool.eq_false_iff];simp only [qdi,qft,qdk,Bool.or_eq_true,Bool.and_eq_true,decide_eq_true_eq,ne_eq];omega
   simp [qaF,qcd hch hb];done
  refine Wf Y4<|Wf Y4<|Wf Y4<|Wf Y4<|ZqF Z Z Z<|At Z Z<|Sr<|Zqm Z Z<|qmZ Z Z<|Zqm Z Z<|Zg Z Z<|Zqm Z Z<|Zg Z Z<|Zqm Z Z<|Wf Y4<|Wf Y4<|Zg Z Z<|ZqF Z Z Z<|Zg Z Z<|qmZ Z Z<|ZqT Z Z Z<|Nt<|Zy Z<|Sr<|At Z Z<|Zo<|Zc<|Zu<|Zu<|Zc<|Zu<|?_
  refine rR [] L (.t1 Z) Z I3.1 fun _ hS2=>?_
  refine ⟨?_,Z⟩
  have hnil:l=[]↔l.length=0:=by cases l <;> simp
  have hb:qdi k ch=false:=by
    rw [Bool.eq_false_iff];simp only [qdi,qft,qdk,Bool.or_eq_true,Bool.and_eq_true,decide_eq_true_eq,ne_eq];omega
  simp [qaF,qcd hch hb];done
 refine Zl<|Zv<|Zv<|Zd<|Zt<|Sr<|At Z Z<|Zo<|?_
 refine rR [] L (.t1 Z) Z I3.1 fun _ hS2=>?_
 refine ⟨?_,Z⟩
 have hnil:l=[]↔l.length=0:=by cases l <;> simp
 have hb:=qiM (fun i c hi hc=>hI i c O hc)
 have h6:(l.length:Int)≤m:=by omega
 have h0:¬ l=[]:=by rw [hnil];omega
 simp [qaF,hb,h6,h0];done
theorem qcC(D:Nat)(L:Hl)(s:World)(l:List UInt8)(hl:l.length≤9223372036854775807):AC prog D 77 [St l] L s fun v L' _=>v=.bool (qaE l)∧L=L':=by
 refine qai (fn:=f77) qaG func77 V Z ntmps77 Z (rs:=[.tmp 2]) Z [(0,_)] Z<|Sr<|At Z Z<|Sr<|Zqm Z Z<|Jc Z Z Z (qlc D _ _ _ _ hl) ?_
 rintro _ _ s1 h1 ⟨rfl,rfl⟩
 refine At Z Z<|Zo<|?_
 refine rR [] L (.t1 Z) Z h1 fun _ hS2=>?_
 exact ⟨by simp only [qaF,qaE];congr 4;exact propext ⟨fun h=>by omega,fun h=>by omega⟩,rfl⟩
theorem qpW{l:List UInt8}{p:UInt8→Bool}{k:Nat}{c:UInt8}(hk:l[k]?=some c)(h:p c=true):l.any p=true:=List.any_eq_true.2 ⟨c,List.mem_of_getElem? hk,h⟩
theorem qnf{l:List UInt8}{p:UInt8→Bool}(h:∀ i c,i < l.length→l[i]?=some c→p c=false):l.any p=false:=by
 rw [List.any_eq_false];intro c hc
 obtain ⟨i,hi,he⟩:=List.getElem_of_mem hc
 have:=h i c hi (by rw [List.getElem?_eq_getElem hi,he])
 simp [this]
theorem qsM(D:Nat)(L:Hl)(s:World)(l:List UInt8)(c:Int)(hl:l.length≤9223372036854775807):AC prog D 116 [St l,.int .u8 c] L s fun v L' _=>v=.bool (l.any fun x=>decide ((x.toNat:Int)=c))∧L=L':=by
 refine qai (fn:=f116) qaG func116 V Z ntmps116 Z (rs:=[.tmp 4]) Z [(0,_),(1,_)] Z<|Sr<|At Z Z<|Zs<|Sr<|At Z Z<|Zp<|qaQ (γ:=Nat) (fun k=>[(0,_),(1,_),(4,_),(5,.int .i64 (k:Int))]) (fun _=>_) (fun k tw=>Le D s tw∧(k≤l.length∧∀ i x,i < k→l[i]?=some x→decide ((x.toNat:Int)=c)=false)) (fun k=>l.length - k) (fun _ _ _ h hl=>⟨h.1.trans hl,h.2⟩) 0 (.c4 Z Z Z Z (.nil _)) Z ⟨Le.refl _,⟨Nat.zero_le _,fun i c hi=>by omega⟩⟩ ?_
 intro k s1 I1
 have hk0:=I1.2.1
 have hI:=I1.2.2
 refine Zs<|Sr<|Zqm Z Z<|Zqm Z Z<|qeI Z Z Z Z<|qbY Z Z Z<|Nt<|?_
 refine qab Z (fun c2=>?_) (fun c2=>?_)
 ·
  have hk:k < l.length:=by omega
  obtain ⟨ch,hch⟩:∃ ch,l[k]?=some ch:=⟨_,List.getElem?_eq_getElem hk⟩
  refine Zk<|Zt<|Zs<|Zp<|Sr<|Zqm Z Z<|Zqm Z Z<|qae (qdx Z Z Z Z hch) Z<|Zqm Z Z<|qaJ Z Z Z<|Nt<|?_
  refine qab Z (fun c3=>?_) (fun c3=>?_)
  ·
   have hz:=decide_eq_true c3
   refine Sr<|At Z Z<|Zo<|Zc<|Zu<|Zu<|Zc<|Zu<|?_
   refine rR [] L (.t1 Z) Z I1.1 fun _ hS2=>?_
   refine ⟨?_,Z⟩
   simp only [qaF];rw [qpW hch hz];done
  have hz:=decide_eq_false c3
  refine Zk<|Zb<|Zt<|Zr<|Zqm Z Z<|qaW Z Z Z (w64 O O)<|Zqa Z Z<|Zn<|?_
  refine qaa ⟨(k+1),[],kp,Z,⟨I1.1,⟨by omega,qaS hI hch hz⟩⟩,O⟩
 refine Zl<|Zv<|Zv<|Zd<|Zt<|Sr<|At Z Z<|Zo<|?_
 refine rR [] L (.t1 Z) Z I1.1 fun _ hS2=>?_
 refine ⟨?_,Z⟩
 simp only [qaF];rw [qnf (fun i x hi hx=>hI i x O hx)];done
end Go.Proofs.YtjindleklapakaaGreatDoor
namespace Go.FL
open Go Go.RowKit Go.Proofs.YtjindleklapakaaGreatDoor
theorem qkU(l:List UInt8)(r:ByteArray):(l.map (fun x=>(x.toNat:Int))).foldl (fun r n=>r.push (UInt8.ofNat n.toNat)) r=⟨r.data++l.toArray⟩:=by
 induction l generalizing r with
 | nil=>cases r;simp
 | cons x l ih=>
  simp only [List.map_cons,List.foldl_cons,ih]
  apply ByteArray.ext
  simp [ByteArray.push]
theorem qiL{P:Program}{TT:qbf}{D:Nat}{fr:Fr}{ty:Nat}{K:Hl}{s0:World}{x:Operand}{t t' e:Nat}{A:Option Addr}{n c:Nat}{l:List UInt8}{ti ti' te:TI}(hx:lk fr x=some (.slice A n c))(ht:qaA TT t=some ti)(hk:ti.kind=.sl e)(he:qaA TT e=some te)(hke:te.desc=.int .u8)
  (ht':qaA TT t'=some ti') (hk':ti'.desc=.string) (h:Bts s0 A n c l):QE P TT D fr (.convert t t' x) ty K s0 (St l):=fun hT dst pos af g ρ hρ L s ho hl _=>by
 obtain ⟨k1,k2,_⟩:=hT.at_ ht
 rw [hk] at k2
 simp only [TK.fits] at k2
 rw [k2] at k1
 have k3:=(hT.at_ he).1
 rw [hke] at k3
 have k4:=(hT.at_ ht').1
 rw [hk'] at k4
 have hc:=run_convert_bytes_string (P:=P) (fill L s) t t' e A n c k1 k3 k4
 simp only [execOp,hρ x _ hx,Sem.run_bind,hc]
 cases A with
 | none=>
  have:l=[]:=by
   cases l with
   | nil=>rfl
   | cons y l=>obtain ⟨b,off,cs,h1,_⟩:=h.2.2.2 0 y rfl;cases h1
  subst this
  simp [Conv.bytesToString]
  rfl
 | some a=>
  have hcells:∀ j v,(l.map (fun x=>Value.int .u8 (x.toNat:Int)))[j]?=some v→(fill L s).cell? (a.add j)=some v:=fun j v hj=>by
   rw [List.getElem?_map] at hj
   cases hx:l[j]? with
   | none=>simp [hx] at hj
   | some y=>
    simp [hx] at hj
    obtain ⟨b,off,cs,h1,h2,h3,rfl⟩:=h.2.2.2 j y hx
    injection h1 with h1;subst h1
    have:=h2 0 _ rfl
    rw [add_lit,← hj]
    simpa using qc4 ho (hl.cell this)
  have hload:=run_loadCells_list (P:=P) (fill L s) a (l.map (fun x=>Value.int .u8 (x.toNat:Int))) hcells
  rw [List.length_map,← h.1] at hload
  have hr:=run_bytesToString (P:=P) (fill L s) a n c (l.map (fun x=>(x.toNat:Int))) (by rw [hload,List.map_map];rfl)
  rw [hr,qkU]
  have he:(⟨ByteArray.empty.data++l.toArray⟩:ByteArray)=⟨l.toArray⟩:=by apply ByteArray.ext;exact Array.empty_append
  simp only [Result.andThen_ok,Sem.run_pure,he]
end Go.FL
namespace Go.Proofs.YtjindleklapakaaGreatDoor
open Go Go.FL
theorem qes{α:Type}{l m:List α}(hl:l.length=m.length)(h:∀ i x,i < l.length→l[i]?=some x→m[i]?=some x):l=m:=by
 apply List.ext_getElem?
 intro i
 by_cases hi:i < l.length
 · rw [h i _ hi (List.getElem?_eq_getElem hi),List.getElem?_eq_getElem hi]
 · rw [List.getElem?_eq_none O,List.getElem?_eq_none O]
theorem qei{α:Type}{l m:List α}{i:Nat}{x y:α}(h1:l[i]?=some x)(h2:m[i]?=some y)(h:x≠y):l≠m:=fun e=>by
 subst e;rw [h1] at h2;injection h2;contradiction
theorem qfe(f:Nat→Int)(m j:Nat):(qb3 f m j).1=0→(qb3 f m j).2=0:=by
 induction m generalizing j with
 | zero=>intro _;rfl
 | succ m ih=>
  simp only [qb3]
  split
  · intro h;contradiction
  · exact ih _
theorem qeX(t:Tab):(qak t).1=0→(qak t).2=0:=by
 unfold qak
 split
 · intro h;cases h
 split
 · intro h;cases h
 · exact qfe _ _ _
def qa5(t:Tab)(m:Mst):Int×Int:=
 if (qak t).1≠0 then qak t
 else if (m.cells.length:Int)≠t.cells then (9,-2)
 else if 400000 < m.input.length∨20000 < m.output.length then (3,-2)
 else if m.stop < 0∨5 < m.stop then (4,-2)
 else if m.code≠0∧m.stop≠1 then (6,-2)
 else (0,0)
def qaM(t:Tab)(image:List Int)(input:List UInt8):Int×Int:=
 if (qak t).1≠0 then qak t
 else if t.cells < (image.length:Int) then (3,-2)
 else if 400000 < input.length then (3,-3)
 else (0,0)
open Go.Proofs.Tryz
open Go.FL
attribute [local irreducible] JC JO JA JB qa7 qaP qdj AC fill CellsAt QE Ev Mid
theorem qfI(D:Nat)(L:Hl)(s:World)(A:Option Addr)(n c:Nat)(l:List Int)(hA:Wds s A n c l)(A1:Option Addr)(n1 c1:Nat)(l1:List Int)(hB:Wds s A1 n1 c1 l1):AC prog D 19 [.slice A n c,.slice A1 n1 c1] L s fun v L' _=>v=.bool (decide (l=l1))∧L=L':=by
 have hn:=hA.1
 have hc1:=hA.2.1
 have hc2:=hA.2.2.1
 have hn1:=hB.1
 refine qai (fn:=f19) qaG func19 V Z ntmps19 Z (rs:=[.tmp 4]) Z [(0,_),(1,_)] Z<|Sr<|At Z Z<|Zs<|Sr<|Zqm Z Z<|Ws Y4<|Zqm Z Z<|Ws Y4<|qj3 Z Z Z<|Nt<|?_
 refine qbc Z (fun c1=>?_) (fun c1=>?_)
 ·
  refine Sr<|At Z Z<|Zo<|Zu<|?_
  refine rR [] L (.t1 Z) Z (Lr D) fun _ hS2=>?_
  refine ⟨?_,Z⟩
  have h0:l≠l1:=fun e=>by subst e;omega
  simp [qaF,h0];done
 refine Zk<|Zt<|Zs<|Sr<|At Z Z<|Zp<|qaQ (γ:=Nat) (fun k=>[(0,_),(1,_),(4,_),(5,.int .i64 (k:Int))]) (fun _=>_) (fun k tw=>Le D s tw∧(k≤n∧∀ i x,i < k→l[i]?=some x→l1[i]?=some x)) (fun k=>n - k) (fun _ _ _ h hl=>⟨h.1.trans hl,h.2⟩) 0 (.c4 Z Z Z Z (.nil _)) Z ⟨Le.refl _,⟨Nat.zero_le _,fun i c hi=>by omega⟩⟩ ?_
 intro k s2 I2
 have hk0:=I2.2.1
 have hI:=I2.2.2
 refine Zs<|Sr<|Zqm Z Z<|Zqm Z Z<|Ws Y4<|qbY Z Z Z<|Nt<|?_
 refine qab Z (fun c3=>?_) (fun c3=>?_)
 ·
  have hk:k < n:=by omega
  obtain ⟨b,off,x,rfl,hx,hcx,_⟩:=Wds.at_ (hA.le I2.1) hk
  obtain ⟨b1,off1,y,rfl,hy,hcy,_⟩:=Wds.at_ (hB.le I2.1) (show k < n1 by omega)
  refine Zk<|Zt<|Zs<|Zp<|Zs<|qbH qaf 9 Z _ (fun _ h=>h) ?_
  intro s4 h4
  refine za 0 Z (qao Z) Z<|za 1 Z (qao Z) Z<|za 2 Z (qaX Z Z Z Z Z Z hk) Z<|za 3 Z (qaq Z Z Z (hcx.le h4) Z) Z<|za 4 Z (qao Z) Z<|za 5 Z (qao Z) Z<|za 6 Z (qaX Z Z Z Z Z Z (show k < n1 by omega)) Z<|za 7 Z (qaq Z Z Z (hcy.le h4) Z) Z<|za 8 Z (qhh Z Z) Z<|qac V<|Zt ?_
  refine qbc Z (fun c5=>?_) (fun c5=>?_)
  ·
   have hE:x≠y:=by assumption
   refine Sr<|At Z Z<|Zo<|Zc<|Zu<|Zu<|Zc<|Zu<|?_
   refine rR [] L (.t1 Z) Z (I2.1.t h4) fun _ hS2=>?_
   refine ⟨?_,Z⟩
   have h0:l≠l1:=qei hx hy hE
   simp [qaF,h0];done
  have hE:x=y:=by simpa using c5
  refine Zk<|Zb<|Zt<|Zr<|Zqm Z Z<|qaW Z Z Z (w64 O O)<|Zqa Z Z<|Zn<|?_
  refine qaa ⟨(k+1),[],kp,Z,⟨(I2.1.t h4),⟨by omega,qaS hI hx (hE▸hy)⟩⟩,O⟩
 refine Zl<|Zv<|Zv<|Zd<|Zt<|Sr<|At Z Z<|Zo<|?_
 refine rR [] L (.t1 Z) Z I2.1 fun _ hS2=>?_
 refine ⟨?_,Z⟩
 have h0:l=l1:=qes O (fun i x hi h=>hI i x O h)
 simp [qaF,h0];done
theorem qfP(D:Nat)(L:Hl)(s:World)(A:Option Addr)(n c:Nat)(l:List UInt8)(hA:Bts s A n c l)(A1:Option Addr)(n1 c1:Nat)(l1:List UInt8)(hB:Bts s A1 n1 c1 l1):AC prog D 21 [.slice A n c,.slice A1 n1 c1] L s fun v L' _=>v=.bool (decide (l=l1))∧L=L':=by
 refine qai (fn:=f21) qaG func21 V Z ntmps21 Z (rs:=[.tmp 4]) Z [(0,_),(1,_)] Z<|Sr<|At Z Z<|Sr<|Zqm Z Z<|qae (qiL Z Z Z Z Z Z Z (hA.le (Lr D))) Z<|Zqm Z Z<|qae (qiL Z Z Z Z Z Z Z (hB.le (Lr D))) Z<|qjv Z Z Z<|At Z Z<|Zo<|?_
 refine rR [] L (.t1 Z) Z (Lr D) fun _ hS2=>?_
 exact ⟨rfl,rfl⟩
theorem qgF(D:Nat)(L:Hl)(s:World)(A:Option Addr)(n c:Nat)(l:List UInt8)(hA:Bts s A n c l)(A1:Option Addr)(n1 c1:Nat)(l1:List UInt8)(hB:Bts s A1 n1 c1 l1)(p q r p1 q1 r1:Int):AC prog D 11 [.agg #[.slice A n c,.int .i64 p,.int .u32 q,.int .i64 r],.agg #[.slice A1 n1 c1,.int .i64 p1,.int .u32 q1,.int .i64 r1]] L s fun v L' _=>v=.bool (decide (l=l1∧p=p1∧q=q1∧r=r1))∧L=L':=by
 refine qai (fn:=f11) qaG func11 V Z ntmps11 Z (rs:=[.tmp 4]) Z [(0,_),(1,_)] Z<|Sr<|qaL Z Z ?_
 intro β1 s1 h1
 refine qaL Z Z ?_
 intro β2 s2 h2
 refine At Z Z<|Sr<|W0 Y5<|Wl 1 Y6<|W0 Y5<|Wl 0 Y6<|Jc Z Z Z (qfP D _ _ _ _ _ _ (hA.le (h1.t h2)) _ _ _ _ (hB.le (h1.t h2))) ?_
 rintro _ _ s3 h3 ⟨rfl,rfl⟩
 refine Zqm Z Z ?_
 refine qam (t:=10) Z (fun c4=>?_) (fun c4=>?_)
 ·
  refine Zg Z Z<|Wb Y5<|Zg Z Z<|Wl 1 Y6<|Zg Z Z<|Wb Y5<|Zg Z Z<|Wl 0 Y6<|Zg Z Z<|qaJ Z Z Z<|ZqT Z Z Z<|Zqm Z Z<|?_
  refine qam (t:=17) Z (fun c5=>?_) (fun c5=>?_)
  ·
   refine Zg Z Z<|Wb Y5<|Zg Z Z<|Wl 1 Y6<|Zg Z Z<|Wb Y5<|Zg Z Z<|Wl 0 Y6<|Zg Z Z<|qaJ Z Z Z<|ZqT Z Z Z<|Zqm Z Z<|?_
   refine qam (t:=24) Z (fun c6=>?_) (fun c6=>?_)
   ·
    refine Zg Z Z<|Wb Y5<|Zg Z Z<|Wl 1 Y6<|Zg Z Z<|Wb Y5<|Zg Z Z<|Wl 0 Y6<|Zg Z Z<|qaJ Z Z Z<|ZqT Z Z Z<|At Z Z<|Zo<|?_
    refine rR [_,_] L (.t1 Z) Z (h1.t h2|>.t h3) fun _ hS2=>?_
    exact ⟨by simp_all [qaF],rfl⟩
   refine Wf Y4<|Wf Y4<|Wf Y4<|Wf Y4<|Wf Y4<|ZqF Z Z Z<|At Z Z<|Zo<|?_
   refine rR [_,_] L (.t1 Z) Z (h1.t h2|>.t h3) fun _ hS2=>?_
   exact ⟨by simp_all [qaF],rfl⟩
  refine Wf Y4<|Wf Y4<|Wf Y4<|Wf Y4<|Wf Y4<|ZqF Z Z Z<|Zqm Z Z<|Wf Y4<|Wf Y4<|Wf Y4<|Wf Y4<|Wf Y4<|ZqF Z Z Z<|At Z Z<|Zo<|?_
  refine rR [_,_] L (.t1 Z) Z (h1.t h2|>.t h3) fun _ hS2=>?_
  exact ⟨by simp_all [qaF],rfl⟩
 refine Wf Y4<|Wf Y4<|Wf Y4<|Wf Y4<|Wf Y4<|ZqF Z Z Z<|Zqm Z Z<|Wf Y4<|Wf Y4<|Wf Y4<|Wf Y4<|Wf Y4<|ZqF Z Z Z<|Zqm Z Z<|Wf Y4<|Wf Y4<|Wf Y4<|Wf Y4<|Wf Y4<|ZqF Z Z Z<|At Z Z<|Zo<|?_
 refine rR [_,_] L (.t1 Z) Z (h1.t h2|>.t h3) fun _ hS2=>?_
 exact ⟨by simp_all [qaF],rfl⟩
theorem qm1(D:Nat)(L:Hl)(s:World)(t:Tab)(A:Option Addr)(n c:Nat)(hA:Inss s A n c t.ins)(m:Mst)(Ax Bx Ox:Option Addr)(nAx cAx nBx cBx nOx cOx:Nat)(hAx:Wds s Ax nAx cAx m.cells)(hBx:Bts s Bx nBx cBx m.input)(hOx:Bts s Ox nOx cOx m.output):AC prog D 59 [.agg #[.int .i64 t.cells,.slice A n c],.agg #[.slice Ax nAx cAx,.int .u32 m.r0,.int .u32 m.r1,.int .u32 m.r2,.int .u32 m.r3,.int .u32 m.r4,.slice Bx nBx cBx,.slice Ox nOx cOx,.int .i64 m.stop,.int .u32 m.code]] L s fun v L' _=>v=.agg #[.int .i64 (qa5 t m).1,.int .i64 (qa5 t m).2]∧L=L':=by
 have hn1:=hAx.1
 have hn2:=hBx.1
 have hn3:=hOx.1
 have hF:=qeX t
 refine qai (fn:=f59) qaG func59 V Z ntmps59 Z (rs:=[.cell 4 29]) Z [(0,_),(1,_)] Z<|Sr<|qaL Z Z ?_
 intro β1 s1 h1
 refine qaL Z Z ?_
 intro β2 s2 h2
 refine qag Z [_,_] Z Z ?_
 intro β3 s3 h3
 refine Nt<|Zs<|Sr<|qae (qad 2 [_,_] Z Z Z Z Z) Z<|Jc Z Z Z (qdd D _ _ _ _ _ _ (hA.le (h1.t h2|>.t h3))) ?_
 rintro _ _ s4 h4 ⟨rfl,rfl⟩
 refine qag Z [_,_] Z Z ?_
 intro β5 s5 h5
 refine Wt 0 [_,_] Y9<|Nt<|Sr<|qae (qad 0 [_,_] Z Z Z Z Z) Z<|qae (qal [] [_,_] Z Z Z Z Z Z) Z<|qae (qef Z Z (qdD _ _ _ _)) Z<|Nt<|?_
 refine qbc Z (fun c6=>?_) (fun c6=>?_)
 ·
  refine Sr<|qae (qad 0 [_,_] Z Z Z Z Z) Z<|Wt 1 [_,_] Y9<|Nt<|Zo<|Zu<|?_
  refine rR [_,_,_,_] L (.agg (us:=[_,_]) 1 Z Z Z Z Z (.nil)) Z (h1.t h2|>.t h3|>.t h4|>.t h5) fun _ hS2=>?_
  exact ⟨by simp only [qaF,qa5] at *;grind,rfl⟩
 refine Zk<|Zt<|Zs<|Zp<|Sr<|W0 Y5<|Wl 2 Y6<|Ws Y4<|W0 Y5<|Wl 3 Y6<|qj3 Z Z Z<|At Z Z<|?_
 refine qbc Z (fun c7=>?_) (fun c7=>?_)
 ·
  refine Sr<|Jc Z Z Z (qbk D _ _ _ _) ?_
  rintro _ _ s8 h8 ⟨rfl,rfl⟩
  refine Wt 1 [_,_] Y9<|Nt<|Zo<|Zc<|Zu<|?_
  refine rR [_,_,_,_] L (.agg (us:=[_,_]) 1 Z Z Z Z Z (.nil)) Z (h1.t h2|>.t h3|>.t h4|>.t h5|>.t h8) fun _ hS2=>?_
  exact ⟨by simp only [qaF,qa5] at *;grind,rfl⟩
 refine Sr<|Wb Y5<|Wl 2 Y6<|Ws Y4<|qdP Z Z Z<|Zqm Z Z<|?_
 refine qam (t:=25) Z (fun c9=>?_) (fun c9=>?_)
 ·
  refine Wf Y4<|Wf Y4<|Wf Y4<|Wf Y4<|ZqT Z Z Z<|At Z Z<|Zy Z<|Sr<|Jc Z Z Z (qbk D _ _ _ _) ?_
  rintro _ _ s10 h10 ⟨rfl,rfl⟩
  refine Wt 1 [_,_] Y9<|Nt<|Zo<|Zc<|Zu<|?_
  refine rR [_,_,_,_] L (.agg (us:=[_,_]) 1 Z Z Z Z Z (.nil)) Z (h1.t h2|>.t h3|>.t h4|>.t h5|>.t h10) fun _ hS2=>?_
  exact ⟨by simp only [qaF,qa5] at *;grind,rfl⟩
 refine Zg Z Z<|Wb Y5<|Zg Z Z<|Wl 2 Y6<|Zg Z Z<|Ws Y4<|Zg Z Z<|qdP Z Z Z<|ZqF Z Z Z<|At Z Z<|?_
 refine qab Z (fun c11=>?_) (fun c11=>?_)
 ·
  refine Sr<|Jc Z Z Z (qbk D _ _ _ _) ?_
  rintro _ _ s12 h12 ⟨rfl,rfl⟩
  refine Wt 1 [_,_] Y9<|Nt<|Zo<|Zc<|Zu<|?_
  refine rR [_,_,_,_] L (.agg (us:=[_,_]) 1 Z Z Z Z Z (.nil)) Z (h1.t h2|>.t h3|>.t h4|>.t h5|>.t h12) fun _ hS2=>?_
  exact ⟨by simp only [qaF,qa5] at *;grind,rfl⟩
 refine Sr<|Wb Y5<|Wl 2 Y6<|qbY Z Z Z<|Zqm Z Z<|?_
 refine qam (t:=36) Z (fun c13=>?_) (fun c13=>?_)
 ·
  refine Wf Y4<|Wf Y4<|Wf Y4<|ZqT Z Z Z<|At Z Z<|Zy Z<|Sr<|Jc Z Z Z (qbk D _ _ _ _) ?_
  rintro _ _ s14 h14 ⟨rfl,rfl⟩
  refine Wt 1 [_,_] Y9<|Nt<|Zo<|Zc<|Zu<|?_
  refine rR [_,_,_,_] L (.agg (us:=[_,_]) 1 Z Z Z Z Z (.nil)) Z (h1.t h2|>.t h3|>.t h4|>.t h5|>.t h14) fun _ hS2=>?_
  exact ⟨by simp only [qaF,qa5] at *;grind,rfl⟩
 refine Zg Z Z<|Wb Y5<|Zg Z Z<|Wl 2 Y6<|Zg Z Z<|qdP Z Z Z<|ZqF Z Z Z<|At Z Z<|?_
 refine qab Z (fun c15=>?_) (fun c15=>?_)
 ·
  refine Sr<|Jc Z Z Z (qbk D _ _ _ _) ?_
  rintro _ _ s16 h16 ⟨rfl,rfl⟩
  refine Wt 1 [_,_] Y9<|Nt<|Zo<|Zc<|Zu<|?_
  refine rR [_,_,_,_] L (.agg (us:=[_,_]) 1 Z Z Z Z Z (.nil)) Z (h1.t h2|>.t h3|>.t h4|>.t h5|>.t h16) fun _ hS2=>?_
  exact ⟨by simp only [qaF,qa5] at *;grind,rfl⟩
 refine Sr<|Wb Y5<|Wl 2 Y6<|qj3 Z Z Z<|Zqm Z Z<|?_
 refine qb2 (t:=46) Z (fun c17=>?_) (fun c17=>?_)
 ·
  refine Zg Z Z<|Wb Y5<|Zg Z Z<|Wl 2 Y6<|Zg Z Z<|qj3 Z Z Z<|ZqT Z Z Z<|At Z Z<|?_
  refine qbc Z (fun c18=>?_) (fun c18=>?_)
  ·
   refine Sr<|Jc Z Z Z (qbk D _ _ _ _) ?_
   rintro _ _ s19 h19 ⟨rfl,rfl⟩
   refine Wt 1 [_,_] Y9<|Nt<|Zo<|Zc<|Zu<|?_
   refine rR [_,_,_,_] L (.agg (us:=[_,_]) 1 Z Z Z Z Z (.nil)) Z (h1.t h2|>.t h3|>.t h4|>.t h5|>.t h19) fun _ hS2=>?_
   exact ⟨by simp only [qaF,qa5] at *;grind,rfl⟩
  refine Zk<|Zb<|Zt<|Sr<|qae (qal [] [_,_] Z Z Z Z Z Z) Z<|Wt 1 [_,_] Y9<|Nt<|Zo<|?_
  refine rR [_,_,_,_] L (.agg (us:=[_,_]) 1 Z Z Z Z Z (.nil)) Z (h1.t h2|>.t h3|>.t h4|>.t h5) fun _ hS2=>?_
  exact ⟨by simp only [qaF,qa5] at *;grind,rfl⟩
 refine Wf Y4<|Wf Y4<|Wf Y4<|ZqF Z Z Z<|At Z Z<|Zz Z<|Zk<|Zb<|Zt<|Sr<|qae (qal [] [_,_] Z Z Z Z Z Z) Z<|Wt 1 [_,_] Y9<|Nt<|Zo<|?_
 refine rR [_,_,_,_] L (.agg (us:=[_,_]) 1 Z Z Z Z Z (.nil)) Z (h1.t h2|>.t h3|>.t h4|>.t h5) fun _ hS2=>?_
 exact ⟨by simp only [qaF,qa5] at *;grind,rfl⟩
end Go.Proofs.YtjindleklapakaaGreatDoor
namespace Go.FL
open Go Go.RowKit
section
variable{P:Program}{D:Nat}{L:Hl}{s:World}
theorem AC.pub{f:FuncId}{args:List Value}{R:Value→Hl→World→Prop}(h:AC P D f args L s (fun v L' s'=>∃ M',L'=M'++L∧R v M' s')) :
  AC P D f args L s (fun v L' s'=>L=L'∧∃ M' s1,R v M' s1∧Le D s1 s'∧∀ b zs t,(b,cb zs t)∈M'→CellsAt s' b 0 zs):=by
 refine ⟨h.1,fun ho=>(h.2 ho).mono ?_⟩
 rintro e w' ⟨v,L',s',h1,rfl,h3,h4,M',rfl,h6⟩
 obtain ⟨d1,d2,d3⟩:=qbx h3
 refine ⟨v,L,fill M' s',h1,d1,d2,h4.trans d3,Z,M',s',h6,d3,fun b zs t hm j u hj=>?_⟩
 rw [qcF h3.left hm,Nat.zero_add];exact hj
end
end Go.FL
namespace Go.Proofs.YtjindleklapakaaGreatDoor
open Go Go.FL
def wv(l:List Int):List Value:=l.map (Value.int .u32)
def bv(l:List UInt8):List Value:=l.map fun x=>Value.int .u8 (x.toNat:Int)
def iv(l:List Int):List Value:=l.map (Value.int .i64)
theorem qb6(l:List Int):(wv l).length=l.length:=by simp [wv]
theorem qeF(l:List UInt8):(bv l).length=l.length:=by simp [bv]
theorem Wds.row{s:World}{A:Option Addr}{n c:Nat}{l:List Int}(h:Wds s A n c l):Row s A n 1 (wv l):=
 ⟨by simp [wv,h.1],fun u hu=>by simp [wv] at hu;obtain ⟨x,_,rfl⟩:=hu;rfl,fun j u hj=>by
  simp only [wv,List.getElem?_map] at hj
  cases hx:l[j]? with
  | none=>simp [hx] at hj
  | some x=>
   simp [hx] at hj;subst hj
   obtain ⟨b,off,cs,h1,h2,_,rfl,_⟩:=h.2.2.2 j x hx
   exact ⟨b,off,h1,by simpa using h2 0 _ rfl⟩⟩
theorem Bts.row{s:World}{A:Option Addr}{n c:Nat}{l:List UInt8}(h:Bts s A n c l):Row s A n 1 (bv l):=
 ⟨by simp [bv,h.1],fun u hu=>by simp [bv] at hu;obtain ⟨x,_,rfl⟩:=hu;rfl,fun j u hj=>by
  simp only [bv,List.getElem?_map] at hj
  cases hx:l[j]? with
  | none=>simp [hx] at hj
  | some x=>
   simp [hx] at hj;subst hj
   obtain ⟨b,off,cs,h1,h2,_,rfl⟩:=h.2.2.2 j x hx
   exact ⟨b,off,h1,by simpa using h2 0 _ rfl⟩⟩
theorem Bts.nil(s:World)(A:Option Addr)(c:Nat)(hc:c≤9223372036854775807):Bts s A 0 c []:=⟨rfl,Nat.zero_le _,hc,fun i x h=>by cases h⟩
theorem Wds.nil(s:World)(A:Option Addr)(c:Nat)(hc:c≤9223372036854775807):Wds s A 0 c []:=⟨rfl,Nat.zero_le _,hc,fun i x h=>by cases h⟩
theorem Own.slice{e sz:Nat}{A:Hl}{v:Value}{n:Nat}{xs:List Value}(h:FL.Own e sz A v n xs):∃ Ad c,v=.slice Ad n c∧n≤c∧c≤9223372036854775807:=by
 cases h with
 | nil=>exact ⟨none,0,rfl,Nat.le_refl _,by omega⟩
 | blk b cap n xs ys hn hc hnc hm=>exact ⟨_,cap,rfl,hnc,hm⟩
theorem Own.bts{e:Nat}{A:Hl}{Ad:Option Addr}{n c:Nat}{l:List UInt8}{s:World}(h:FL.Own e 1 A (.slice Ad n c) n (bv l))(hp:∀ b zs t,(b,cb zs t)∈A→CellsAt s b 0 zs):Bts s Ad n c l:=by
 generalize hv:Value.slice Ad n c=v at h
 generalize hx:bv l=xs at h
 cases h with
 | nil=>
  injection hv with e1 e2 e3
  have:l=[]:=by cases l with
   | nil=>rfl
   | cons y l=>simp [bv] at hx
  subst this;subst e3;exact Bts.nil s Ad 0 O
 | blk b cap n xs ys hn hc hnc hm=>
  injection hv with e1 e2 e3
  subst e1;subst e3;subst hx
  refine ⟨by simpa [bv] using hn.symm,hnc,hm,fun i x hi=>⟨b,0,[.int .u8 (x.toNat:Int)],Z,fun j u hj=>?_,Z,Z⟩⟩
  have hc:=hp b _ e Mc
  cases j with
  | zero=>
   simp at hj;subst hj
   have:=hc i (.int .u8 (x.toNat:Int)) (by rw [List.getElem?_append_left (by simp [bv];exact (List.getElem?_eq_some_iff.1 hi).1)];simp [bv,hi])
   simpa using this
  | succ j=>simp at hj
theorem Own.wds{e:Nat}{A:Hl}{Ad:Option Addr}{n c:Nat}{l:List Int}{s:World}(h:FL.Own e 1 A (.slice Ad n c) n (wv l))(hu:∀ x∈l,U32 x)(hp:∀ b zs t,(b,cb zs t)∈A→CellsAt s b 0 zs):Wds s Ad n c l:=by
 generalize hv:Value.slice Ad n c=v at h
 generalize hx:wv l=xs at h
 cases h with
 | nil=>
  injection hv with e1 e2 e3
  have:l=[]:=by cases l with
   | nil=>rfl
   | cons y l=>simp [wv] at hx
  subst this;subst e3;exact Wds.nil s Ad 0 O
 | blk b cap n xs ys hn hc hnc hm=>
  injection hv with e1 e2 e3
  subst e1;subst e3;subst hx
  refine ⟨by simpa [wv] using hn.symm,hnc,hm,fun i x hi=>⟨b,0,[.int .u32 x],Z,fun j u hj=>?_,Z,Z,hu x (List.mem_of_getElem? hi)⟩⟩
  have hc:=hp b _ e Mc
  cases j with
  | zero=>
   simp at hj;subst hj
   have:=hc i (.int .u32 x) (by rw [List.getElem?_append_left (by simp [wv];exact (List.getElem?_eq_some_iff.1 hi).1)];simp [wv,hi])
   simpa using this
  | succ j=>simp at hj
theorem Wds.u32{s:World}{A:Option Addr}{n c:Nat}{l:List Int}(h:Wds s A n c l):∀ x∈l,U32 x:=fun x hx=>by
 obtain ⟨i,hi⟩:=List.getElem?_of_mem hx
 obtain ⟨b,off,cs,h1,h2,_,rfl,h4⟩:=h.2.2.2 i x hi
 exact h4
theorem Bts.tail{s:World}{A:Option Addr}{n c:Nat}{x:UInt8}{l:List UInt8}(h:Bts s A n c (x::l)):Bts s (if c=1 then A else A.map (·.add (1 * 1))) (n - 1) (c - 1) l:=
 ⟨by have:=h.1;simp at this;omega,by have:=h.2.1;omega,by have:=h.2.2.1;omega,fun i y hi=>by
  obtain ⟨b,off,cs,h1,h2,h3,h4⟩:=h.2.2.2 (i+1) y (by simpa using hi)
  have hl:i < l.length:=(List.getElem?_eq_some_iff.1 hi).1
  have hn:=h.1
  simp at hn
  have hc:=h.2.1
  subst h1
  refine ⟨b,off+1,cs,?_,?_,h3,h4⟩
  · rw [if_neg O];simp [add_lit]
  · rw [show off+1+i * 1=off+(i+1) * 1 by omega];exact h2⟩
def qtJ(m:Mst)(i:Int):Int:=if i=0 then m.r0 else if i=1 then m.r1 else if i=2 then m.r2 else if i=3 then m.r3 else m.r4
def qd9(m:Mst)(i v:Int):Mst:={ m with r0:=if i=0 then v else m.r0,r1:=if i=1 then v else m.r1,r2:=if i=2 then v else m.r2,r3:=if i=3 then v else m.r3,r4:=if i=4 then v else m.r4 }
def qba(m:Mst)(op:Int)(x:Tm):Int:=if x.kind=1 then qtJ m x.val else if x.kind=2 then op else x.val
def w32(x:Int):Int:=x % 4294967296
def comp(k x y:Int):Int:=
 if k=1 then w32 (x+y) else if k=2 then w32 (x - y) else if k=3 then w32 (x * y) else if k=4 then x / y else if k=5 then x % y
 else if k=6 then ((x.toNat &&& y.toNat:Nat):Int) else if k=7 then ((x.toNat ||| y.toNat:Nat):Int) else if k=8 then ((x.toNat ^^^ y.toNat:Nat):Int)
 else if k=9 then (((x.toNat <<< y.toNat) % 4294967296:Nat):Int) else if k=10 then ((x.toNat >>> y.toNat:Nat):Int)
 else if k=11 then (if x=y then 1 else 0) else if k=12 then (if x < y then 1 else 0) else x
def qbj(m:Mst)(a:Ac)(op:Int):Mst:=
 let x:=qba m op a.x
 let y:=qba m op a.y
 if (a.kind=4∨a.kind=5)∧y=0 then { m with stop:=4 }
 else if (a.kind=13∨a.kind=14)∧(m.cells.length:Int)≤x then { m with stop:=3 }
 else if a.kind=16∧m.output.length=20000 then { m with stop:=5 }
 else if a.kind=13 then qd9 m a.tgt (m.cells.getD x.toNat 0)
 else if a.kind=14 then { m with cells:=m.cells.set x.toNat y }
 else if a.kind=15 then (match m.input with
  | []=>qd9 m a.tgt 4294967295
  | c::r=>{ qd9 m a.tgt (c.toNat:Int) with input:=r })
 else if a.kind=16 then { m with output:=m.output++[UInt8.ofNat (x.toNat % 256)] }
 else if a.kind=17∨(a.kind=18∧y=0) then { m with stop:=1,code:=x }
 else if a.kind≤12∨(a.kind=19∧y=0) then qd9 m a.tgt (comp a.kind x y)
 else m
def qca(m:Mst)(op:Int):List Ac→Mst
 | []=>m
 | a::r=>if (qbj m a op).stop=0 then qca (qbj m a op) op r else qbj m a op
def qbZ(ins:List Ins)(c:Int):Option Ins:=ins.find? fun x=>decide (x.code=c)
def qbl(t:Tab)(m:Mst):Mst:=
 if (m.cells.length:Int)≤m.r4 then { m with stop:=3 }
 else match qbZ t.ins (m.cells.getD m.r4.toNat 0) with
  | none=>{ m with stop:=2 }
  | some x=>
   if x.operand then
    if m.r4+1=(m.cells.length:Int) then { m with stop:=3 } else qca { m with r4:=m.r4+2 } (m.cells.getD (m.r4+1).toNat 0) x.acts
   else qca { m with r4:=m.r4+1 } 0 x.acts
def qeD(t:Tab)(m:Mst):Nat→Mst×Nat
 | 0=>(m,0)
 | n+1=>if m.stop=0 then ((qeD t (qbl t m) n).1,(qeD t (qbl t m) n).2+1) else (m,0)
def qeR(ins:List Ins)(c:Int):Nat→Nat
 | 0=>0
 | k+1=>match ins[k]? with
  | some x=>if x.code=c then k+1 else qeR ins c k
  | none=>qeR ins c k
structure MOK(m:Mst):Prop where
 cells:m.cells.length≤65536
 wide:∀ x∈m.cells,U32 x
 u0:U32 m.r0
 u1:U32 m.r1
 u2:U32 m.r2
 u3:U32 m.r3
 u4:U32 m.r4
 output:m.output.length≤20000
 input:m.input.length≤400000
 code:U32 m.code
end Go.Proofs.YtjindleklapakaaGreatDoor
namespace Go.FL
open Go Go.RowKit Go.Proofs.YtjindleklapakaaGreatDoor
theorem qav{P:Program}{TT:qbf}{D:Nat}{fr:Fr}{ty:Nat}{op:Op}{K:Hl}{s0:World}{v v':Value}(h:QE P TT D fr op ty K s0 v)(e:v=v'):QE P TT D fr op ty K s0 v':=e▸h
theorem qh9:(BinOp.and≠.eql∧BinOp.and≠.neq):=⟨(by intro h;cases h),(by intro h;cases h)⟩
theorem qg8:(BinOp.or≠.eql∧BinOp.or≠.neq):=⟨(by intro h;cases h),(by intro h;cases h)⟩
theorem qls:(BinOp.xor≠.eql∧BinOp.xor≠.neq):=⟨(by intro h;cases h),(by intro h;cases h)⟩
theorem qiF:(BinOp.shl≠.eql∧BinOp.shl≠.neq):=⟨(by intro h;cases h),(by intro h;cases h)⟩
theorem qhZ:(BinOp.shr≠.eql∧BinOp.shr≠.neq):=⟨(by intro h;cases h),(by intro h;cases h)⟩
theorem qfu{x:Int}(h:U32 x):(BitVec.ofInt 32 x).toNat=x.toNat:=by
 obtain ⟨h1,h2⟩:=h
 rw [BitVec.toNat_ofInt]
 omega
theorem qlV{n:Nat}(h:n < 4294967296):IntKind.u32.wrap (n:Int)=(n:Int):=by rw [IntKind.wrap_u32];omega
section
variable{P:Program}{t:Nat}{x y:Int}
theorem qli(hx:U32 x)(hy:U32 y)(w:World):(binOp .and t (.int .u32 x) (.int .u32 y)).run P w=.ok (.int .u32 ((x.toNat &&& y.toNat:Nat):Int)) w:=by
 have h:(BitVec.ofInt 32 x &&& BitVec.ofInt 32 y).toNat=x.toNat &&& y.toNat:=by rw [BitVec.toNat_and,qfu hx,qfu hy]
 have h2:x.toNat &&& y.toNat < 4294967296:=h▸(BitVec.ofInt 32 x &&& BitVec.ofInt 32 y).isLt
 have h3:Op.intBits .and .u32 x y=pure (.int .u32 (IntKind.u32.wrap ((BitVec.ofInt 32 x &&& BitVec.ofInt 32 y).toNat:Int))):=rfl
 simp only [binOp,h3,h,qlV h2]
 rfl
theorem qpc(hx:U32 x)(hy:U32 y)(w:World):(binOp .or t (.int .u32 x) (.int .u32 y)).run P w=.ok (.int .u32 ((x.toNat ||| y.toNat:Nat):Int)) w:=by
 have h:(BitVec.ofInt 32 x ||| BitVec.ofInt 32 y).toNat=x.toNat ||| y.toNat:=by rw [BitVec.toNat_or,qfu hx,qfu hy]
 have h2:x.toNat ||| y.toNat < 4294967296:=h▸(BitVec.ofInt 32 x ||| BitVec.ofInt 32 y).isLt
 have h3:Op.intBits .or .u32 x y=pure (.int .u32 (IntKind.u32.wrap ((BitVec.ofInt 32 x ||| BitVec.ofInt 32 y).toNat:Int))):=rfl
 simp only [binOp,h3,h,qlV h2]
 rfl
theorem qlC(hx:U32 x)(hy:U32 y)(w:World):(binOp .xor t (.int .u32 x) (.int .u32 y)).run P w=.ok (.int .u32 ((x.toNat ^^^ y.toNat:Nat):Int)) w:=by
 have h:(BitVec.ofInt 32 x ^^^ BitVec.ofInt 32 y).toNat=x.toNat ^^^ y.toNat:=by rw [BitVec.toNat_xor,qfu hx,qfu hy]
 have h2:x.toNat ^^^ y.toNat < 4294967296:=h▸(BitVec.ofInt 32 x ^^^ BitVec.ofInt 32 y).isLt
 have h3:Op.intBits .xor .u32 x y=pure (.int .u32 (IntKind.u32.wrap ((BitVec.ofInt 32 x ^^^ BitVec.ofInt 32 y).toNat:Int))):=rfl
 simp only [binOp,h3,h,qlV h2]
 rfl
theorem qhr{n:Nat}(h:32≤n):(2:Nat) ^ n=4294967296 * 2 ^ (n - 32):=by
 rw [show n=32+(n - 32) by omega,Nat.pow_add];simp
theorem qmk(X Y:Nat):(X * 2 ^ min Y 32) % 4294967296=(X <<< Y) % 4294967296:=by
  rw [Nat.shiftLeft_eq]
  rcases Nat.le_total Y 32 with h | h
  · rw [Nat.min_eq_left h]
  · rw [Nat.min_eq_right h,qhr h]
    rw [show X * (4294967296 * 2 ^ (Y - 32))=4294967296 * (X * 2 ^ (Y - 32)) by rw [Nat.mul_left_comm]]
    omega
theorem qlO{X:Nat}(hX:X < 4294967296)(Y:Nat):X / 2 ^ min Y 32=X >>> Y:=by
  rw [Nat.shiftRight_eq_div_pow]
  rcases Nat.le_total Y 32 with h | h
  · rw [Nat.min_eq_left h]
  · rw [Nat.min_eq_right h,Nat.div_eq_of_lt O,Nat.div_eq_of_lt]
    have:(2:Nat) ^ 32≤2 ^ Y:=Nat.pow_le_pow_right O h
    omega
theorem qlH(hx:U32 x)(hy:U32 y)(w:World):(binOp .shl t (.int .u32 x) (.int .u32 y)).run P w=.ok (.int .u32 (((x.toNat <<< y.toNat) % 4294967296:Nat):Int)) w:=by
 obtain ⟨X,rfl⟩:=Int.eq_ofNat_of_zero_le hx.1
 obtain ⟨Y,rfl⟩:=Int.eq_ofNat_of_zero_le hy.1
 have h3:Op.shift .shl .u32 (X:Int) .u32 (Y:Int)=pure (.int .u32 (IntKind.u32.wrap ((X:Int) * 2 ^ min Y 32))):=by
  unfold Op.shift
  rw [if_neg O]
  rfl
 have h4:IntKind.u32.wrap ((X:Int) * 2 ^ min Y 32)=(((X <<< Y) % 4294967296:Nat):Int):=by
  rw [IntKind.wrap_u32,← qmk]
  have:((X * 2 ^ min Y 32:Nat):Int)=(X:Int) * 2 ^ min Y 32:=by push_cast;rfl
  rw [← this];omega
 simp only [binOp,h3,h4,Int.toNat_natCast]
 rfl
theorem qmR(hx:U32 x)(hy:U32 y)(w:World):(binOp .shr t (.int .u32 x) (.int .u32 y)).run P w=.ok (.int .u32 ((x.toNat >>> y.toNat:Nat):Int)) w:=by
 obtain ⟨X,rfl⟩:=Int.eq_ofNat_of_zero_le hx.1
 obtain ⟨Y,rfl⟩:=Int.eq_ofNat_of_zero_le hy.1
 have h3:Op.shift .shr .u32 (X:Int) .u32 (Y:Int)=pure (.int .u32 ((X:Int).fdiv (2 ^ min Y 32))):=by
  unfold Op.shift
  rw [if_neg O]
  rfl
 have h4:(X:Int).fdiv (2 ^ min Y 32)=((X >>> Y:Nat):Int):=by
  rw [← qlO (by have:=hx.2;omega)]
  have:((2 ^ min Y 32:Nat):Int)=(2:Int) ^ min Y 32:=by push_cast;rfl
  rw [← this,Int.fdiv_eq_ediv_of_nonneg _ (Int.natCast_nonneg _)]
  rfl
 simp only [binOp,h3,h4,Int.toNat_natCast]
 rfl
end
end Go.FL
namespace Go.Proofs.YtjindleklapakaaGreatDoor
open Go Go.FL
def bwN(f:Nat→Bool)(X Y:Nat):Nat→Nat
 | 0=>0
 | k+1=>bwN f X Y k+if f (X / 2 ^ k % 2+Y / 2 ^ k % 2) then 2 ^ k else 0
theorem qpq(f:Nat→Bool)(X Y k:Nat):bwN f X Y k < 2 ^ k:=by
 induction k with
 | zero=>simp [bwN]
 | succ k ih=>simp only [bwN,Nat.pow_succ];split <;> omega
theorem qrd(f:Nat→Bool)(X Y k i:Nat):(bwN f X Y k).testBit i=(decide (i < k) && f (X / 2 ^ i % 2+Y / 2 ^ i % 2)):=by
  induction k with
  | zero=>simp [bwN]
  | succ k ih=>
    have hlt:=qpq f X Y k
    simp only [bwN]
    by_cases hf:f (X / 2 ^ k % 2+Y / 2 ^ k % 2)=true
    · rw [if_pos hf,Nat.add_comm]
      rcases Nat.lt_trichotomy i k with h | h | h
      · rw [Nat.testBit_two_pow_add_gt h,ih];simp [h,Nat.lt_succ_of_lt h]
      · subst h;rw [Nat.testBit_two_pow_add_eq,ih];simp [hf]
      · rw [Nat.testBit_lt_two_pow]
        · simp [show ¬ i < k+1 by omega]
        · calc 2 ^ k+bwN f X Y k < 2 ^ k+2 ^ k:=by omega
            _=2 ^ (k+1):=by rw [Nat.pow_succ];omega
            _≤2 ^ i:=Nat.pow_le_pow_right O O
    · rw [if_neg hf,Nat.add_zero,ih]
      rcases Nat.lt_trichotomy i k with h | h | h
      · simp [h,Nat.lt_succ_of_lt h]
      · subst h;simp [hf]
      · simp [show ¬ i < k+1 by omega,show ¬ i < k by omega]
theorem qcE(X i:Nat):X.testBit i=decide (X / 2 ^ i % 2=1):=by
 rw [Nat.testBit_eq_decide_div_mod_eq]
theorem qrm{f:Nat→Bool}{X Y Zq9:Nat}(hZ:Zq9 < 4294967296)(h:∀ i,Zq9.testBit i=f (X / 2 ^ i % 2+Y / 2 ^ i % 2)∨32≤i):bwN f X Y 32=Zq9:=by
  apply Nat.eq_of_testBit_eq
  intro i
  rw [qrd]
  by_cases hi:i < 32
  · rcases h i with h | h
    · simp [hi,h]
    · omega
  · rw [Nat.testBit_lt_two_pow (x:=Zq9) (i:=i)]
    · simp [hi]
    · have h32:(2:Nat) ^ 32≤2 ^ i:=Nat.pow_le_pow_right O O
      omega
theorem qsU{X Y:Nat}(hX:X < 4294967296):bwN (fun d=>decide (d=2)) X Y 32=X &&& Y:=by
 refine qrm (Nat.lt_of_le_of_lt Nat.and_le_left hX) fun i=>.inl ?_
 rw [Nat.testBit_and,qcE,qcE]
 have h1:X / 2 ^ i % 2 < 2:=Nat.mod_lt _ O
 have h2:Y / 2 ^ i % 2 < 2:=Nat.mod_lt _ O
 rw [Bool.eq_iff_iff];simp;omega
theorem qtO{X Y:Nat}(hX:X < 4294967296)(hY:Y < 4294967296):bwN (fun d=>decide (d=1) || decide (d=2)) X Y 32=X ||| Y:=by
 refine qrm (Nat.or_lt_two_pow (n:=32) hX hY) fun i=>.inl ?_
 rw [Nat.testBit_or,qcE,qcE]
 have h1:X / 2 ^ i % 2 < 2:=Nat.mod_lt _ O
 have h2:Y / 2 ^ i % 2 < 2:=Nat.mod_lt _ O
 rw [Bool.eq_iff_iff];simp;omega
theorem qsJ{X Y:Nat}(hX:X < 4294967296)(hY:Y < 4294967296):bwN (fun d=>decide (d=1)) X Y 32=X ^^^ Y:=by
 refine qrm (Nat.xor_lt_two_pow (n:=32) hX hY) fun i=>.inl ?_
 rw [Nat.testBit_xor,qcE,qcE]
 have h1:X / 2 ^ i % 2 < 2:=Nat.mod_lt _ O
 have h2:Y / 2 ^ i % 2 < 2:=Nat.mod_lt _ O
 rw [Bool.eq_iff_iff];simp;omega
def shN(left:Bool)(X:Nat):Nat→Nat
 | 0=>X
 | k+1=>if left then (shN left X k+shN left X k) % 4294967296 else shN left X k / 2
theorem qjI{X:Nat}(hX:X < 4294967296)(k:Nat):shN true X k=(X <<< k) % 4294967296:=by
 induction k with
 | zero=>simp [shN,Nat.mod_eq_of_lt hX]
 | succ k ih=>simp only [shN,if_true,ih,Nat.shiftLeft_eq,Nat.pow_succ];rw [← Nat.mul_assoc];omega
theorem qia(X k:Nat):shN false X k=X >>> k:=by
 induction k with
 | zero=>simp [shN]
 | succ k ih=>simp only [shN,ih,Nat.shiftRight_succ];rfl
theorem qtp{X:Nat}(hX:X < 4294967296)(b:Bool)(k:Nat):shN b X k < 4294967296:=by
 induction k with
 | zero=>exact hX
 | succ k ih=>simp only [shN];split <;> omega
theorem qsO{X k:Nat}(hX:X < 4294967296)(hk:32 < k)(b:Bool):shN b X k=0:=by
 cases b with
 | true=>
  rw [qjI hX,← qmk,Nat.min_eq_right O];omega
 | false=>
  rw [qia,← qlO hX,Nat.min_eq_right O,Nat.div_eq_of_lt O]
open Go.Proofs.Tryz
open Go.FL
attribute [local irreducible] JC JO JA JB qa7 qaP qdj AC fill CellsAt QE Ev Mid
theorem qcS{a:Int}(h1:0≤a)(h2:a < 4294967296):IntKind.u32.wrap a=a:=by rw [IntKind.wrap_u32];omega
theorem qc9(a:Int):IntKind.u32.wrap a=w32 a:=IntKind.wrap_u32 a
theorem quc{x y:Int}(hx:U32 x)(hy:U32 y):w32 (x.tdiv y)=x / y:=by
 obtain ⟨h1,h2⟩:=hx
 obtain ⟨h3,h4⟩:=hy
 rw [Int.tdiv_eq_ediv_of_nonneg h1]
 have h5:0≤x / y:=Int.ediv_nonneg h1 h3
 have h6:x / y≤x:=Int.ediv_le_self _ h1
 unfold w32;omega
theorem modW{x y:Int}(hx:U32 x):x.tmod y=x % y:=Int.tmod_eq_emod_of_nonneg hx.1
theorem modR{x y:Int}(hx:U32 x)(hy:U32 y)(h0:y≠0):w32 (x - w32 (w32 (x.tdiv y) * y))=x % y:=by
 rw [quc hx hy]
 have h1:=Int.mul_ediv_add_emod x y
 have h2:=Int.emod_nonneg x h0
 have h3:x % y < y:=Int.emod_lt_of_pos x (by have:=hy.1;omega)
 rw [Int.mul_comm] at h1
 have h4:=hx.1
 have h5:=hx.2
 have h6:0≤x / y * y:=Int.mul_nonneg (Int.ediv_nonneg h4 hy.1) hy.1
 unfold w32;omega
theorem qnl{b:Bool}(h:b=true)(X k:Nat):Value.int .u32 (IntKind.u32.wrap (((shN b X k:Nat):Int)+((shN b X k:Nat):Int)))=.int .u32 ((shN b X (k+1):Nat):Int):=by
 subst h;rw [IntKind.wrap_u32];simp only [shN,if_true];congr 1
theorem qnF{b:Bool}(h:b=false){X k:Nat}(hX:X < 4294967296):Value.int .u32 (IntKind.u32.wrap (((shN b X k:Nat):Int).tdiv 2))=.int .u32 ((shN b X (k+1):Nat):Int):=by
 have:=qtp hX b k
 subst h;rw [IntKind.wrap_u32];simp only [shN];congr 1;rw [Int.tdiv_eq_ediv_of_nonneg O];simp;omega
theorem qeZ{X:Nat}(hX:X < 4294967296)(k:Nat):Value.int .u32 (IntKind.u32.wrap (((X / 2 ^ k:Nat):Int).tdiv 2))=.int .u32 ((X / 2 ^ (k+1):Nat):Int):=by
 have h1:X / 2 ^ k≤X:=Nat.div_le_self _ _
 rw [Nat.pow_succ,← Nat.div_div_eq_div_mul]
 generalize X / 2 ^ k=Zq9 at h1
 rw [IntKind.wrap_u32,Int.tdiv_eq_ediv_of_nonneg O];congr 1;omega
theorem qhU(k:Nat):Value.int .u32 (IntKind.u32.wrap (((2 ^ k % 4294967296:Nat):Int) * 2))=.int .u32 ((2 ^ (k+1) % 4294967296:Nat):Int):=by
 rw [IntKind.wrap_u32,Nat.pow_succ];congr 1;omega
theorem qkS(a b:Nat):Value.int .u8 (IntKind.u8.wrap (48+IntKind.u8.wrap (IntKind.u32.wrap (((a:Nat):Int).tmod 2+((b:Nat):Int).tmod 2))))=.int .u8 ((48+(a % 2+b % 2):Nat):Int):=by
 rw [IntKind.wrap_u32,IntKind.wrap_u8,IntKind.wrap_u8,Int.tmod_eq_emod_of_nonneg O,Int.tmod_eq_emod_of_nonneg O];congr 1;omega
def qeL(l:List UInt8)(d:Nat):Bool:=l.any fun x=>decide ((x.toNat:Int)=((48+d:Nat):Int))
theorem qsB{l:List UInt8}{X Y k:Nat}(hk:k < 32)(h:(l.any fun x=>decide ((x.toNat:Int)=((48+(X / 2 ^ k % 2+Y / 2 ^ k % 2):Nat):Int)))=true):Value.int .u32 (IntKind.u32.wrap (((bwN (qeL l) X Y k:Nat):Int)+((2 ^ k % 4294967296:Nat):Int)))=.int .u32 ((bwN (qeL l) X Y (k+1):Nat):Int):=by
 have h1:=qpq (qeL l) X Y (k+1)
 have h2:(2:Nat) ^ (k+1)≤2 ^ 32:=Nat.pow_le_pow_right O O
 have h3:qeL l (X / 2 ^ k % 2+Y / 2 ^ k % 2)=true:=h
 have h5:(2:Nat) ^ k < 4294967296:=by rw [Nat.pow_succ] at h2;have:(0:Nat) < 2 ^ k:=Nat.pos_of_ne_zero (by simp);omega
 simp only [bwN,h3,if_true] at h1 ⊢
 rw [IntKind.wrap_u32,Nat.mod_eq_of_lt h5];congr 1;omega
theorem qlx{l:List UInt8}{X Y k:Nat}(h:(l.any fun x=>decide ((x.toNat:Int)=((48+(X / 2 ^ k % 2+Y / 2 ^ k % 2):Nat):Int)))=false):Value.int .u32 ((bwN (qeL l) X Y k:Nat):Int)=.int .u32 ((bwN (qeL l) X Y (k+1):Nat):Int):=by
 have h3:qeL l (X / 2 ^ k % 2+Y / 2 ^ k % 2)=false:=h
 simp [bwN,h3]
theorem qtE:qeL [50]=fun d=>decide (d=2):=by funext d;unfold qeL;rw [Bool.eq_iff_iff];simp;omega
theorem qsS:qeL [49]=fun d=>decide (d=1):=by funext d;unfold qeL;rw [Bool.eq_iff_iff];simp;omega
theorem qqg:qeL [49,50]=fun d=>decide (d=1) || decide (d=2):=by funext d;unfold qeL;rw [Bool.eq_iff_iff];simp;omega
theorem qpI(D:Nat)(L:Hl)(s:World)(b:Bool):AC prog D 117 [.bool b] L s fun v L' _=>v=.int .u32 (if b then 1 else 0)∧L=L':=by
 refine qai (fn:=f117) qaG func117 V Z ntmps117 Z (rs:=[.tmp 2]) Z [(0,_)] Z<|Sr<|At Z Z<|Zs<|Sr<|Zqm Z Z<|Nt<|?_
 refine qcW Z (fun c1=>?_) (fun c1=>?_)
 ·
  refine Sr<|At Z Z<|Zo<|Zu<|?_
  refine rR [] L (.t1 Z) Z (Lr D) fun _ hS2=>?_
  exact ⟨by simp [qaF, *],rfl⟩
 refine Zk<|Zt<|Sr<|At Z Z<|Zo<|?_
 refine rR [] L (.t1 Z) Z (Lr D) fun _ hS2=>?_
 exact ⟨by simp [qaF, *],rfl⟩
theorem qjZ(D:Nat)(L:Hl)(s:World)(b:Bool):AC prog D 99 [.bool b] L s fun v L' _=>v=.int .u32 (if b then 1 else 0)∧L=L':=by
 refine qai (fn:=f99) qaG func99 V Z ntmps99 Z (rs:=[.tmp 2]) Z [(0,_)] Z<|Sr<|At Z Z<|Zs<|Sr<|Zqm Z Z<|Nt<|?_
 refine qcW Z (fun c1=>?_) (fun c1=>?_)
 ·
  refine Sr<|At Z Z<|Zo<|Zu<|?_
  refine rR [] L (.t1 Z) Z (Lr D) fun _ hS2=>?_
  exact ⟨by simp [qaF, *],rfl⟩
 refine Zk<|Zt<|Sr<|At Z Z<|Zo<|?_
 refine rR [] L (.t1 Z) Z (Lr D) fun _ hS2=>?_
 exact ⟨by simp [qaF, *],rfl⟩
theorem qcj(D:Nat)(L:Hl)(s:World)(k:Int)(x y:Int)(hx:U32 x)(hy:U32 y)(hk:1≤k∧k≤12∧k≠4∧k≠5):AC prog D 103 [.int .i64 k,.int .u32 x,.int .u32 y] L s fun v L' _=>v=.int .u32 (comp k x y)∧L=L':=by
 refine qai (fn:=f103) qaG func103 V Z ntmps103 Z (rs:=[.tmp 6]) Z [(0,_),(1,_),(2,_)] Z<|Sr<|At Z Z<|Zs<|Sr<|Zqm Z Z<|Nt<|Zp<|Sr<|qaJ Z Z Z<|At Z Z<|?_
 refine qab Z (fun c1=>?_) (fun c1=>?_)
 ·
  refine Sr<|Zqm Z Z<|Zqm Z Z<|qae (qdt Z Z) Z<|At Z Z<|Zo<|Zc<|Zu<|?_
  refine rR [] L (.t1 Z) Z (Lr D) fun _ hS2=>?_
  refine ⟨?_,Z⟩
  simp [qaF,comp,qc9, *];done
 refine Sr<|qaJ Z Z Z<|At Z Z<|?_
 refine qab Z (fun c2=>?_) (fun c2=>?_)
 ·
  refine Sr<|Zqm Z Z<|Zqm Z Z<|qae (qeG Z Z) Z<|At Z Z<|Zo<|Zc<|Zu<|?_
  refine rR [] L (.t1 Z) Z (Lr D) fun _ hS2=>?_
  refine ⟨?_,Z⟩
  simp [qaF,comp,qc9, *];done
 refine Sr<|qaJ Z Z Z<|At Z Z<|?_
 refine qab Z (fun c3=>?_) (fun c3=>?_)
 ·
  refine Sr<|Zqm Z Z<|Zqm Z Z<|qae (qfL Z Z) Z<|At Z Z<|Zo<|Zc<|Zu<|?_
  refine rR [] L (.t1 Z) Z (Lr D) fun _ hS2=>?_
  refine ⟨?_,Z⟩
  simp [qaF,comp,qc9, *];done
 refine Sr<|qaJ Z Z Z<|At Z Z<|?_
 refine qab Z (fun c4=>?_) (fun c4=>?_)
 ·
  refine Sr<|Zqm Z Z<|Zqm Z Z<|qae (qeB Z Z qh9 (qli hx hy)) Z<|At Z Z<|Zo<|Zc<|Zu<|?_
  refine rR [] L (.t1 Z) Z (Lr D) fun _ hS2=>?_
  refine ⟨?_,Z⟩
  simp [qaF,comp,qc9, *];done
 refine Sr<|qaJ Z Z Z<|At Z Z<|?_
 refine qab Z (fun c5=>?_) (fun c5=>?_)
 ·
  refine Sr<|Zqm Z Z<|Zqm Z Z<|qae (qeB Z Z qg8 (qpc hx hy)) Z<|At Z Z<|Zo<|Zc<|Zu<|?_
  refine rR [] L (.t1 Z) Z (Lr D) fun _ hS2=>?_
  refine ⟨?_,Z⟩
  simp [qaF,comp,qc9, *];done
 refine Sr<|qaJ Z Z Z<|At Z Z<|?_
 refine qab Z (fun c6=>?_) (fun c6=>?_)
 ·
  refine Sr<|Zqm Z Z<|Zqm Z Z<|qae (qeB Z Z qls (qlC hx hy)) Z<|At Z Z<|Zo<|Zc<|Zu<|?_
  refine rR [] L (.t1 Z) Z (Lr D) fun _ hS2=>?_
  refine ⟨?_,Z⟩
  simp [qaF,comp,qc9, *];done
 refine Sr<|qaJ Z Z Z<|At Z Z<|?_
 refine qab Z (fun c7=>?_) (fun c7=>?_)
 ·
  refine Sr<|Zqm Z Z<|Zqm Z Z<|qae (qeB Z Z qiF (qlH hx hy)) Z<|At Z Z<|Zo<|Zc<|Zu<|?_
  refine rR [] L (.t1 Z) Z (Lr D) fun _ hS2=>?_
  refine ⟨?_,Z⟩
  simp [qaF,comp,qc9, *];done
 refine Sr<|qaJ Z Z Z<|At Z Z<|?_
 refine qab Z (fun c8=>?_) (fun c8=>?_)
 ·
  refine Sr<|Zqm Z Z<|Zqm Z Z<|qae (qeB Z Z qhZ (qmR hx hy)) Z<|At Z Z<|Zo<|Zc<|Zu<|?_
  refine rR [] L (.t1 Z) Z (Lr D) fun _ hS2=>?_
  refine ⟨?_,Z⟩
  simp [qaF,comp,qc9, *];done
 refine Sr<|qaJ Z Z Z<|At Z Z<|?_
 refine qab Z (fun c9=>?_) (fun c9=>?_)
 ·
  refine Sr<|Zqm Z Z<|Zqm Z Z<|qaJ Z Z Z<|Jc Z Z Z (qpI D _ _ _) ?_
  rintro _ _ s10 h10 ⟨rfl,rfl⟩
  refine At Z Z<|Zo<|Zc<|Zu<|?_
  refine rR [] L (.t1 Z) Z h10 fun _ hS2=>?_
  refine ⟨?_,Z⟩
  simp [qaF,comp,qc9, *];done
 refine Zk<|Zb<|Zt<|Sr<|Zqm Z Z<|Zqm Z Z<|qbY Z Z Z<|Jc Z Z Z (qpI D _ _ _) ?_
 rintro _ _ s11 h11 ⟨rfl,rfl⟩
 refine At Z Z<|Zo<|?_
 refine rR [] L (.t1 Z) Z h11 fun _ hS2=>?_
 refine ⟨?_,Z⟩
 have h12:k=12:=by omega
 simp [qaF,comp,h12];done
theorem qgQ(D:Nat)(L:Hl)(s:World)(x y:Int)(hx:U32 x)(hy:U32 y)(b:Bool):AC prog D 98 [.int .u32 x,.int .u32 y,.bool b] L s fun v L' _=>v=.int .u32 ((shN b x.toNat y.toNat:Nat):Int)∧L=L':=by
 obtain ⟨X,rfl⟩:=Int.eq_ofNat_of_zero_le hx.1
 obtain ⟨Y,rfl⟩:=Int.eq_ofNat_of_zero_le hy.1
 have hX:X < 4294967296:=by have:=hx.2;omega
 refine qai (fn:=f98) qaG func98 V Z ntmps98 Z (rs:=[.tmp 6]) Z [(0,_),(1,_),(2,_)] Z<|Sr<|At Z Z<|Zs<|Sr<|Zqm Z Z<|qdP Z Z Z<|Nt<|?_
 refine qab Z (fun c1=>?_) (fun c1=>?_)
 ·
  refine Sr<|At Z Z<|Zo<|Zu<|?_
  refine rR [] L (.t1 Z) Z (Lr D) fun _ hS2=>?_
  refine ⟨?_,Z⟩
  have hf:=qsO hX (show 32 < Y by omega) b
  simp [qaF,hf];done
 refine Zk<|Zt<|Zs<|Sr<|At Z Z<|Zp<|qaQ (γ:=Nat) (fun k=>[(0,.int .u32 ((shN b X k:Nat):Int)),(1,_),(2,_),(6,_),(7,.int .u32 (k:Int))]) (fun _=>_) (fun k tw=>Le D s tw∧(k≤Y)) (fun k=>Y - k) (fun _ _ _ h hl=>⟨h.1.trans hl,h.2⟩) 0 (.c5 Z Z Z Z Z (.nil _)) Z ⟨Le.refl _,Nat.zero_le _⟩ ?_
 intro k s2 I2
 have hk0:=I2.2
 refine Zs<|Sr<|Zqm Z Z<|Zqm Z Z<|qbY Z Z Z<|Nt<|?_
 refine qab Z (fun c3=>?_) (fun c3=>?_)
 ·
  refine Zk<|Zt<|Zs<|Zp<|Sr<|Zqm Z Z<|Nt<|?_
  refine qcW Z (fun c4=>?_) (fun c4=>?_)
  ·
   have hl:=c4
   refine Zr<|Zqm Z Z<|Zqm Z Z<|qae (qav (qdt Z Z) (qnl hl X k)) Z<|Zqa Z Z<|Zn<|Zb<|Zt<|Zr<|Zqm Z Z<|qae (qby Z Z (qcS O O)) Z<|Zqa Z Z<|Zn<|?_
   refine qaa ⟨(k+1),[],kp,Z,⟨I2.1,O⟩,O⟩
  have hl:=c4
  refine Zr<|Zqm Z Z<|qae (qav (qed Z Z Dc) (qnF hl hX)) Z<|Zqa Z Z<|Zn<|Zb<|Zt<|Zr<|Zqm Z Z<|qae (qby Z Z (qcS O O)) Z<|Zqa Z Z<|Zn<|?_
  refine qaa ⟨(k+1),[],kp,Z,⟨I2.1,O⟩,O⟩
 refine Zl<|Zv<|Zv<|Zd<|Zt<|Sr<|Zqm Z Z<|At Z Z<|Zo<|?_
 refine rR [] L (.t1 Z) Z I2.1 fun _ hS2=>?_
 refine ⟨?_,Z⟩
 have he:k=Y:=by omega
 subst he
 simp [qaF];done
theorem qfE(D:Nat)(L:Hl)(s:World)(x y:Int)(hx:U32 x)(hy:U32 y)(l:List UInt8)(hl:l.length≤9223372036854775807):AC prog D 97 [.int .u32 x,.int .u32 y,St l] L s fun v L' _=>v=.int .u32 ((bwN (qeL l) x.toNat y.toNat 32:Nat):Int)∧L=L':=by
 obtain ⟨X,rfl⟩:=Int.eq_ofNat_of_zero_le hx.1
 obtain ⟨Y,rfl⟩:=Int.eq_ofNat_of_zero_le hy.1
 have hX:X < 4294967296:=by have:=hx.2;omega
 have hY:Y < 4294967296:=by have:=hy.2;omega
 refine qai (fn:=f97) qaG func97 V Z ntmps97 Z (rs:=[.tmp 6]) Z [(0,_),(1,_),(2,_)] Z<|Sr<|At Z Z<|Sr<|At Z Z<|Sr<|At Z Z<|Zs<|Sr<|At Z Z<|Zp<|?_
 refine qaQ (γ:=Nat) (fun k=>[(0,.int .u32 ((X / 2 ^ k:Nat):Int)),(1,.int .u32 ((Y / 2 ^ k:Nat):Int)),(2,_),(6,_),(7,.int .u32 ((bwN (qeL l) X Y k:Nat):Int)),(8,.int .u32 ((2 ^ k % 4294967296:Nat):Int)),(9,.int .i64 (k:Int))]) (fun _=>_) (fun k tw=>Le D s tw∧(k≤32)) (fun k=>32 - k) (fun _ _ _ h hl=>⟨h.1.trans hl,h.2⟩) 0 (.cons (by simp;rfl) (.cons (by simp;rfl) (.c2 Z Z (.cons (by simp [bwN];rfl) (.cons (by simp;rfl) (.cons Z (.nil _))))))) Z ⟨Le.refl _,Nat.zero_le _⟩ ?_
 intro k s1 I1
 have hk0:=I1.2
 refine Zs<|Sr<|Zqm Z Z<|qbY Z Z Z<|Nt<|?_
 refine qab Z (fun c2=>?_) (fun c2=>?_)
 ·
  refine Zk<|Zt<|Zs<|Zp<|Sr<|Zqm Z Z<|qae (qgY Z Z O) Z<|Zqm Z Z<|qae (qgY Z Z O) Z<|qae (qdt Z Z) Z<|qae (qb9 Z Z Z Z Z) Z<|qae (qav (qdt Z Z) (qkS (X / 2 ^ k) (Y / 2 ^ k))) Z<|At Z Z<|Zs<|Sr<|Zqm Z Z<|Zqm Z Z<|Jc Z Z Z (qsM D _ _ _ _ hl) ?_
  rintro _ _ s3 h3 ⟨rfl,rfl⟩
  refine Nt<|?_
  refine qcW Z (fun c4=>?_) (fun c4=>?_)
  ·
   have hb:=c4
   refine Zr<|Zqm Z Z<|Zqm Z Z<|qae (qav (qdt Z Z) (qsB O hb)) Z<|At Z Z<|Sr<|Zqm Z Z<|qae (qav (qfL Z Z) (qhU k)) Z<|At Z Z<|Sr<|Zqm Z Z<|qae (qav (qed Z Z Dc) (qeZ hX k)) Z<|At Z Z<|Zr<|Zqm Z Z<|qae (qav (qed Z Z Dc) (qeZ hY k)) Z<|Zqa Z Z<|Zn<|Zb<|Zt<|Zr<|Zqm Z Z<|qaW Z Z Z (w64 O O)<|Zqa Z Z<|Zn<|?_
   refine qaa ⟨(k+1),[],(.cons rfl (.cons rfl (.cons rfl (.cons rfl (.cons (by first | rfl | exact congrArg some (qlx hb)) kp))))),rfl,⟨(I1.1.t h3),O⟩,O⟩
  have hb:=c4
  refine Zk<|Zt<|Sr<|Zqm Z Z<|qae (qav (qfL Z Z) (qhU k)) Z<|At Z Z<|Sr<|Zqm Z Z<|qae (qav (qed Z Z Dc) (qeZ hX k)) Z<|At Z Z<|Zr<|Zqm Z Z<|qae (qav (qed Z Z Dc) (qeZ hY k)) Z<|Zqa Z Z<|Zn<|Zb<|Zt<|Zr<|Zqm Z Z<|qaW Z Z Z (w64 O O)<|Zqa Z Z<|Zn<|?_
  refine qaa ⟨(k+1),[],(.cons rfl (.cons rfl (.cons rfl (.cons rfl (.cons (by first | rfl | exact congrArg some (qlx hb)) kp))))),rfl,⟨(I1.1.t h3),O⟩,O⟩
 refine Zl<|Zv<|Zv<|Zd<|Zt<|Sr<|Zqm Z Z<|At Z Z<|Zo<|?_
 refine rR [] L (.t1 Z) Z I1.1 fun _ hS2=>?_
 have he:k=32:=by omega
 subst he
 exact ⟨by simp [qaF],rfl⟩
theorem qjr(D:Nat)(L:Hl)(s:World)(k:Int)(x y:Int)(hx:U32 x)(hy:U32 y)(hz:k=4∨k=5→y≠0):AC prog D 74 [.int .i64 k,.int .u32 x,.int .u32 y] L s fun v L' _=>v=.int .u32 (comp k x y)∧L=L':=by
 have hX:x.toNat < 4294967296:=by have:=hx.2;omega
 have hY:y.toNat < 4294967296:=by have:=hy.2;omega
 have e2:=qsU (Y:=y.toNat) hX
 have e1:=qsJ hX hY
 have e3:=qtO hX hY
 have e4:=qjI hX y.toNat
 have e5:=qia x.toNat y.toNat
 refine qai (fn:=f74) qaG func74 V Z ntmps74 Z (rs:=[.tmp 6]) Z [(0,_),(1,_),(2,_)] Z<|Sr<|At Z Z<|Zs<|Sr<|Zqm Z Z<|qaJ Z Z Z<|Nt<|?_
 refine qab Z (fun c1=>?_) (fun c1=>?_)
 ·
  refine Sr<|Zqm Z Z<|Zqm Z Z<|qae (qdt Z Z) Z<|At Z Z<|Zo<|Zu<|?_
  refine rR [] L (.t1 Z) Z (Lr D) fun _ hS2=>?_
  refine ⟨?_,Z⟩
  simp [qaF,comp,qc9, *];done
 refine Zk<|Zt<|Zs<|Sr<|Zqm Z Z<|qaJ Z Z Z<|Nt<|?_
 refine qab Z (fun c2=>?_) (fun c2=>?_)
 ·
  refine Sr<|Zqm Z Z<|Zqm Z Z<|qae (qeG Z Z) Z<|At Z Z<|Zo<|Zu<|?_
  refine rR [] L (.t1 Z) Z (Lr D) fun _ hS2=>?_
  refine ⟨?_,Z⟩
  simp [qaF,comp,qc9, *];done
 refine Zk<|Zt<|Zs<|Sr<|Zqm Z Z<|qaJ Z Z Z<|Nt<|?_
 refine qab Z (fun c3=>?_) (fun c3=>?_)
 ·
  refine Sr<|Zqm Z Z<|Zqm Z Z<|qae (qfL Z Z) Z<|At Z Z<|Zo<|Zu<|?_
  refine rR [] L (.t1 Z) Z (Lr D) fun _ hS2=>?_
  refine ⟨?_,Z⟩
  simp [qaF,comp,qc9, *];done
 refine Zk<|Zt<|Zs<|Sr<|Zqm Z Z<|qaJ Z Z Z<|Nt<|?_
 refine qab Z (fun c4=>?_) (fun c4=>?_)
 ·
  refine Sr<|Zqm Z Z<|Zqm Z Z<|qae (qed Z Z (hz (.inl As))) Z<|At Z Z<|Zo<|Zu<|?_
  refine rR [] L (.t1 Z) Z (Lr D) fun _ hS2=>?_
  refine ⟨?_,Z⟩
  have h4:k=4:=by assumption
  simp [qaF,comp,qc9,quc hx hy,h4];done
 refine Zk<|Zt<|Zs<|Sr<|Zqm Z Z<|qaJ Z Z Z<|Nt<|?_
 refine qab Z (fun c5=>?_) (fun c5=>?_)
 ·
  refine Sr<|Zqm Z Z<|Zqm Z Z<|Zqm Z Z<|qae (qed Z Z (hz (.inr As))) Z<|Zqm Z Z<|qae (qfL Z Z) Z<|qae (qeG Z Z) Z<|At Z Z<|Zo<|Zu<|?_
  refine rR [] L (.t1 Z) Z (Lr D) fun _ hS2=>?_
  refine ⟨?_,Z⟩
  have h5:k=5:=by assumption
  simp [qaF,comp,qc9,modR hx hy (hz (.inr h5)),h5];done
 refine Zk<|Zt<|Zs<|Sr<|Zqm Z Z<|qaJ Z Z Z<|Nt<|?_
 refine qab Z (fun c6=>?_) (fun c6=>?_)
 ·
  refine Sr<|Zqm Z Z<|Zqm Z Z<|Jc Z Z Z (qfE D _ _ _ _ hx hy [50] Dc) ?_
  rintro _ _ s7 h7 ⟨rfl,rfl⟩
  refine At Z Z<|Zo<|Zu<|?_
  refine rR [] L (.t1 Z) Z h7 fun _ hS2=>?_
  refine ⟨?_,Z⟩
  have h6:k=6:=by assumption
  simp [qaF,comp,qtE,e2,h6];done
 refine Zk<|Zt<|Zs<|Sr<|Zqm Z Z<|qaJ Z Z Z<|Nt<|?_
 refine qab Z (fun c8=>?_) (fun c8=>?_)
 ·
  refine Sr<|Zqm Z Z<|Zqm Z Z<|Jc Z Z Z (qfE D _ _ _ _ hx hy [49,50] Dc) ?_
  rintro _ _ s9 h9 ⟨rfl,rfl⟩
  refine At Z Z<|Zo<|Zu<|?_
  refine rR [] L (.t1 Z) Z h9 fun _ hS2=>?_
  refine ⟨?_,Z⟩
  have h7:k=7:=by assumption
  simp only [qaF,comp,qqg,e3,h7];simp;done
 refine Zk<|Zt<|Zs<|Sr<|Zqm Z Z<|qaJ Z Z Z<|Nt<|?_
 refine qab Z (fun c10=>?_) (fun c10=>?_)
 ·
  refine Sr<|Zqm Z Z<|Zqm Z Z<|Jc Z Z Z (qfE D _ _ _ _ hx hy [49] Dc) ?_
  rintro _ _ s11 h11 ⟨rfl,rfl⟩
  refine At Z Z<|Zo<|Zu<|?_
  refine rR [] L (.t1 Z) Z h11 fun _ hS2=>?_
  refine ⟨?_,Z⟩
  have h8:k=8:=by assumption
  simp [qaF,comp,qsS,e1,h8];done
 refine Zk<|Zt<|Zs<|Sr<|Zqm Z Z<|qaJ Z Z Z<|Zqm Z Z<|?_
 refine qam (t:=53) Z (fun c12=>?_) (fun c12=>?_)
 ·
  refine Wf Y4<|Wf Y4<|ZqT Z Z Z<|Nt<|Zy Z<|Sr<|Zqm Z Z<|Zqm Z Z<|Zqm Z Z<|qaJ Z Z Z<|Jc Z Z Z (qgQ D _ _ _ _ hx hy _) ?_
  rintro _ _ s13 h13 ⟨rfl,rfl⟩
  refine At Z Z<|Zo<|Zu<|?_
  refine rR [] L (.t1 Z) Z h13 fun _ hS2=>?_
  refine ⟨?_,Z⟩
  have h9:k=9:=by assumption
  simp [qaF,comp,e4,h9];done
 refine Zg Z Z<|Zqm Z Z<|Zg Z Z<|qaJ Z Z Z<|ZqF Z Z Z<|Nt<|?_
 refine qab Z (fun c14=>?_) (fun c14=>?_)
 ·
  refine Sr<|Zqm Z Z<|Zqm Z Z<|Zqm Z Z<|qaJ Z Z Z<|Jc Z Z Z (qgQ D _ _ _ _ hx hy _) ?_
  rintro _ _ s15 h15 ⟨rfl,rfl⟩
  refine At Z Z<|Zo<|Zu<|?_
  refine rR [] L (.t1 Z) Z h15 fun _ hS2=>?_
  refine ⟨?_,Z⟩
  have h10:k=10:=by assumption
  simp [qaF,comp,e5,h10];done
 refine Zk<|Zt<|Zs<|Sr<|Zqm Z Z<|qaJ Z Z Z<|Nt<|?_
 refine qab Z (fun c16=>?_) (fun c16=>?_)
 ·
  refine Sr<|Zqm Z Z<|Zqm Z Z<|qaJ Z Z Z<|Jc Z Z Z (qjZ D _ _ _) ?_
  rintro _ _ s17 h17 ⟨rfl,rfl⟩
  refine At Z Z<|Zo<|Zu<|?_
  refine rR [] L (.t1 Z) Z h17 fun _ hS2=>?_
  refine ⟨?_,Z⟩
  simp [qaF,comp,qc9, *];done
 refine Zk<|Zt<|Zs<|Sr<|Zqm Z Z<|qaJ Z Z Z<|Nt<|?_
 refine qab Z (fun c18=>?_) (fun c18=>?_)
 ·
  refine Sr<|Zqm Z Z<|Zqm Z Z<|qbY Z Z Z<|Jc Z Z Z (qjZ D _ _ _) ?_
  rintro _ _ s19 h19 ⟨rfl,rfl⟩
  refine At Z Z<|Zo<|Zu<|?_
  refine rR [] L (.t1 Z) Z h19 fun _ hS2=>?_
  refine ⟨?_,Z⟩
  simp [qaF,comp,qc9, *];done
 refine Zk<|Zt<|Sr<|Zqm Z Z<|At Z Z<|Zo<|?_
 refine rR [] L (.t1 Z) Z (Lr D) fun _ hS2=>?_
 refine ⟨?_,Z⟩
 simp [qaF,comp,qc9, *];done
end Go.Proofs.YtjindleklapakaaGreatDoor
namespace Go.FL
open Go Go.RowKit
section
variable{P:Program}{TT:qbf}{D n:Nat}{Q:qbF}{fr:Fr}{L L' K:Hl}{s s' s0:World}{ops:Array Oper}{rest:List Oper}{d ty:Nat}{op:Op}{pos:String}{af:Array Edge}{v:Value}
theorem qaT{id:Nat}{l:List Oper}(hm:P.follows .mixedOrders=true)(N:Nat)(hN:l.length=N)(j:Nat)
  (h:∀ s',Le D s s'→JA P TT D n l.toArray Q (L.take j) s' N (Array.replicate N false) fr L s'):JC P TT D n Q (.region id l.toArray true) fr L s:=qbH hm N hN _ (fun _ hx=>List.mem_of_mem_take hx) h
end
section
variable{P:Program}{TT:qbf}{D n:Nat}{Q:qbF}{fr:Fr}{L L' K:Hl}{s s' s0:World}{ops:Array Oper}{rest:List Oper}{d ty:Nat}{op:Op}{pos:String}{af:Array Edge}{v:Value}
theorem qeV{t e b off len:Nat}{x y:Operand}{ti te:TI}{ik:IntKind}{i:Int}(hx:lk fr x=some (.pointer (some ⟨b,off,none⟩)))(hy:lk fr y=some (.int ik i))(ht:qaA TT t=some ti)(hk:ti.kind=.ar len e)(he:qaA TT e=some te)
  (hs:te.size=1) (h0:0≤i) (h1:i < len):QE P TT D fr (.indexAddr t x y) ty K s0 (.pointer (some ⟨b,off+i.toNat * 1,none⟩)):=by
 obtain ⟨j,rfl⟩:=Int.eq_ofNat_of_zero_le h0
 exact qps hx hy ht hk he hs O
theorem qcb{t e b off len cap:Nat}{x y:Operand}{ti te:TI}{ik:IntKind}{i:Int}(hx:lk fr x=some (.slice (some ⟨b,off,none⟩) len cap))(hy:lk fr y=some (.int ik i))(ht:qaA TT t=some ti)(hk:ti.kind=.sl e)(he:qaA TT e=some te)
  (hs:te.size=1) (h0:0≤i) (h1:i < len):QE P TT D fr (.indexAddr t x y) ty K s0 (.pointer (some ⟨b,off+i.toNat,none⟩)):=by
 obtain ⟨j,rfl⟩:=Int.eq_ofNat_of_zero_le h0
 exact qaX hx hy ht hk he hs O
theorem qjy{x:Operand}{t t':Nat}{A:Option Addr}{m c:Nat}{ti:TI}{e:Nat}(hx:lk fr x=some (.slice A m c))(ht:qaA TT t=some ti)(hk:ti.kind=.sl e):QE P TT D fr (.binOp .eql t x (.const (.slice none 0 0)) t') ty K s0 (.bool A.isNone):=
 QE.pure fun hT dst pos af g ρ hρ w=>by
  obtain ⟨k1,k2,_⟩:=hT.at_ ht
  rw [hk] at k2
  simp only [TK.fits] at k2
  rw [k2] at k1
  have h0:ρ (.const (.slice none 0 0))=.slice none 0 0:=hρ _ _ rfl
  have he:(Op.equal t (.slice A m c) (.slice none 0 0)).run P w=.ok A.isNone w:=by
   show (Op.equalIn (9999+1) t (.slice A m c) (.slice none 0 0)).run P w=_
   unfold Op.equalIn
   simp only [Sem.run_bind,run_underlying k1,Result.andThen_ok]
   cases A <;> simp
  simp [execOp,hρ x _ hx,h0,eqGuard,binOp,he]
end
end Go.FL
namespace Go.Proofs.YtjindleklapakaaGreatDoor
open Go Go.FL
theorem qqb(m:Mst){i:Int}(h:0≤i∧i≤4)(C:Value)(tl:List Value):nth (C::.int .u32 m.r0::.int .u32 m.r1::.int .u32 m.r2::.int .u32 m.r3::.int .u32 m.r4::tl) (1+i.toNat * 1)=some (.int .u32 (qtJ m i)):=by
 have:i=0∨i=1∨i=2∨i=3∨i=4:=by omega
 rcases this with rfl | rfl | rfl | rfl | rfl <;> rfl
theorem qne(m:Mst){i:Int}(h:0≤i∧i≤4)(tl:List Value):nth (.int .u32 m.r0::.int .u32 m.r1::.int .u32 m.r2::.int .u32 m.r3::.int .u32 m.r4::tl) (0+i.toNat * 1)=some (.int .u32 (qtJ m i)):=by
 have:i=0∨i=1∨i=2∨i=3∨i=4:=by omega
 rcases this with rfl | rfl | rfl | rfl | rfl <;> rfl
theorem qgz(m:Mst){i:Int}(h:0≤i∧i≤4)(v:Int)(C:Value)(tl:List Value):qbz (C::.int .u32 m.r0::.int .u32 m.r1::.int .u32 m.r2::.int .u32 m.r3::.int .u32 m.r4::tl) (1+i.toNat * 1) [.int .u32 v] =
  C::.int .u32 (qd9 m i v).r0::.int .u32 (qd9 m i v).r1::.int .u32 (qd9 m i v).r2::.int .u32 (qd9 m i v).r3::.int .u32 (qd9 m i v).r4::tl:=by
 have:i=0∨i=1∨i=2∨i=3∨i=4:=by omega
 rcases this with rfl | rfl | rfl | rfl | rfl <;> simp [qbz,qd9]
theorem qgj{i:Int}(h:0≤i∧i≤4)(a0 a1 a2 a3 a4 a5:Value)(tl:List Value):Nat.ble (1+i.toNat * 1+1) (a0::a1::a2::a3::a4::a5::tl).length=true:=by
 rw [Nat.ble_eq];simp;omega
section
variable(a0 a1 a2 a3 a4 a5 a6 a7 a8 a9 a10 q o:Value){sm:List Int}
theorem qtG(h:sm.length=256):nth (a0::a1::a2::a3::a4::a5::a6::a7::a8::a9::a10::(iv sm++[q,o])) 268=some o:=by
 rw [qeg];simp only [List.getElem?_cons_succ];rw [List.getElem?_append_right (by simp [iv,h])];simp [iv,h]
theorem qlh(h:sm.length=256):nth (a0::a1::a2::a3::a4::a5::a6::a7::a8::a9::a10::(iv sm++[q,o])) 267=some q:=by
 rw [qeg];simp only [List.getElem?_cons_succ];rw [List.getElem?_append_right (by simp [iv,h])];simp [iv,h]
theorem qmb{j:Nat}{p:Int}(h:sm[j]?=some p):nth (a0::a1::a2::a3::a4::a5::a6::a7::a8::a9::a10::(iv sm++[q,o])) (11+j * 1)=some (.int .i64 p):=by
 rw [qeg,Nat.mul_one,Nat.add_comm];simp only [List.getElem?_cons_succ]
 rw [List.getElem?_append_left (by simp [iv];exact (List.getElem?_eq_some_iff.1 h).1)];simp [iv,h]
theorem qmP{j:Nat}(p:Int)(h:j < sm.length):qbz (a0::a1::a2::a3::a4::a5::a6::a7::a8::a9::a10::(iv sm++[q,o])) (11+j * 1) [.int .i64 p]=a0::a1::a2::a3::a4::a5::a6::a7::a8::a9::a10::(iv (sm.set j p)++[q,o]):=by
 rw [Nat.mul_one,Nat.add_comm]
 simp only [qbz]
 have:∀ (l:List Value) (r:List Value) (i:Nat) (v:Value),i < l.length→qbz (l++r) i [v]=l.set i v++r:=by
  intro l
  induction l with
  | nil=>intro r i v h;simp at h
  | cons x l ih=>
   intro r i v h
   cases i with
   | zero=>simp [qbz]
   | succ i=>simp only [List.cons_append,qbz,List.set_cons_succ];rw [ih r i v (by simpa using h)]
 rw [this _ _ _ _ (by simpa [iv] using h)]
 simp [iv,List.map_set]
theorem qtl(v:Value)(h:sm.length=256):qbz (a0::a1::a2::a3::a4::a5::a6::a7::a8::a9::a10::(iv sm++[q,o])) 268 [v]=a0::a1::a2::a3::a4::a5::a6::a7::a8::a9::a10::(iv sm++[q,v]):=by
 rw [qdN _ _ _ (by simp [iv,h])]
 have h1:(iv sm).length=256:=by simp [iv,h]
 simp only [List.length_cons,List.length_nil,List.take_succ_cons,List.drop_succ_cons,List.cons_append]
 rw [List.take_append,List.drop_eq_nil_of_le (by simp [h1])]
 simp [h1,List.take_of_length_le]
theorem qs6(h:sm.length=256):Nat.ble (268+1) (a0::a1::a2::a3::a4::a5::a6::a7::a8::a9::a10::(iv sm++[q,o])).length=true:=by
 rw [Nat.ble_eq];simp [iv,h]
theorem qmz{j:Nat}(h:sm.length=256)(hj:j < 256):Nat.ble (11+j * 1+1) (a0::a1::a2::a3::a4::a5::a6::a7::a8::a9::a10::(iv sm++[q,o])).length=true:=by
 rw [Nat.ble_eq];simp [iv,h];omega
end
theorem qsK{l:List Int}{y:List Value}{j:Nat}{x:Int}(h:l[j]?=some x):nth (wv l++y) j=some (.int .u32 x):=by
 rw [qeg,List.getElem?_append_left (by simp [wv];exact (List.getElem?_eq_some_iff.1 h).1)];simp [wv,h]
theorem qs0{l:List Int}{y:List Value}{j:Nat}(v:Int)(h:j < l.length):qbz (wv l++y) j [.int .u32 v]=wv (l.set j v)++y:=by
 rw [qdN _ _ _ (by simp [wv];omega)]
 have h1:(wv l).length=l.length:=by simp [wv]
 rw [List.take_append_of_le_length O,List.drop_append_of_le_length (by simp;omega)]
 simp only [wv,List.map_set]
 rw [List.set_eq_take_append_cons_drop]
 simp [h]
theorem qsu{l:List Int}{y:List Value}{j:Nat}(h:j < l.length):Nat.ble (j+1) (wv l++y).length=true:=by
 rw [Nat.ble_eq];simp [wv];omega
def qiI(bm:Nat)(X:Value)(sm:List Int)(bq:Nat)(es:List (Int×Value×Nat))(ck:Nat)(op:Int)(m:Mst)(M:Hl)(s:World):Prop:=
 ∃ bc cc yc Oq9 Ao co Ai ni ci,M=(bm,cb (.slice (some ⟨bc,0,none⟩) m.cells.length cc::.int .u32 m.r0::.int .u32 m.r1::.int .u32 m.r2::.int .u32 m.r3::.int .u32 m.r4::.slice Ai ni ci::.slice Ao m.output.length co::.int .i64 m.stop::.int .u32 m.code::X ::
  (iv sm++[.map (some bq),.int .u32 op])) 140)::(bc,cb (wv m.cells++yc) 38)::(bq,mp (Value.int .u32) es ck)::Oq9∧FL.Own 5 1 Oq9 (.slice Ao m.output.length co) m.output.length (bv m.output)∧Bts s Ai ni ci m.input
  ∧ m.cells.length+yc.length=cc∧cc≤9223372036854775807
def fp(A:Option Addr)(p:Nat):Option Addr:=if p=0 then none else A.map (·.add ((p - 1) * 4))
theorem qqM{b off p:Nat}(h:p≠0):fp (some ⟨b,off,none⟩) p=some ⟨b,off+(p - 1) * 4,none⟩:=by simp [fp,h,add_lit]
theorem qkP{a:Int}(h1:0≤a)(h2:a < 18446744073709551616):IntKind.u64.wrap a=a:=by simp [IntKind.wrap,IntKind.bits,IntKind.signed];omega
open Go.Proofs.Tryz
open Go.FL
attribute [local irreducible] JC JO JA JB qa7 qaP qdj AC fill CellsAt QE Ev Mid
theorem qaB(D:Nat)(L:Hl)(s:World)(A:Option Addr)(n c:Nat)(l:List UInt8)(hA:Bts s A n c l)(hn:n≤1000000):AC prog D 58 [.slice A n c] L s fun v L' _=>∃ M',L'=M'++L∧∃ Ad c',v=.slice Ad n c'∧n≤c'∧c'≤9223372036854775807∧FL.Own 5 1 M' (.slice Ad n c') n (bv l):=by
 refine qai (fn:=f58) qaG func58 V Z ntmps58 Z (rs:=[.tmp 2]) Z [(0,_)] Z<|Sr<|At Z Z<|Zs<|Sr<|Zqm Z Z<|qae (qjy Z Z Z) Z<|Nt<|?_
 refine qcW Z (fun c1=>?_) (fun c1=>?_)
 ·
  refine Sr<|At Z Z<|Zo<|Zu<|?_
  refine rR [] _ (.t1 Z) Z (Lr D) fun _ hS2=>?_
  have hz:A=none:=by cases A <;> simp_all
  subst hz
  have hl:l=[]:=by
    cases l with
    | nil=>rfl
    | cons x l=>obtain ⟨b,off,cs,h1,_⟩:=hA.2.2.2 0 x rfl;cases h1
  have hn0:=hA.1
  subst hl
  simp at hn0
  subst hn0
  exact ⟨[],rfl,none,0,rfl,Nat.le_refl _,by omega,.nil⟩
 refine Zk<|Zt<|Sr<|qka (sz:=1) Z Z Z Z ?_
 intro βo s2 h2 oo
 refine Zqm Z Z<|qbO [] [_] _ Z Z Z Z Z Z Z oo (hA.row.le h2) ⟨by simp [ti5];omega,by omega⟩ Z ?_
 intro v1 A1 s3 h3 o1
 simp only [List.nil_append]
 refine At Z Z<|Zo<|?_
 refine rR [] _ (.t1 Z) Z (h2.t h3) fun _ hS2=>?_
 simp only [Nat.zero_add,List.nil_append] at o1
 obtain ⟨Ad,c',rfl,k1,k2⟩:=Own.slice o1
 exact ⟨_,rfl,Ad,c',rfl,k1,k2,o1⟩
theorem qbS(D:Nat)(L:Hl)(s:World)(A:Option Addr)(n c:Nat)(l:List Int)(hA:Wds s A n c l)(hn:n≤1000000):AC prog D 79 [.slice A n c] L s fun v L' _=>∃ M',L'=M'++L∧∃ Ad c',v=.slice Ad n c'∧n≤c'∧c'≤9223372036854775807∧FL.Own 38 1 M' (.slice Ad n c') n (wv l):=by
 refine qai (fn:=f79) qaG func79 V Z ntmps79 Z (rs:=[.tmp 2]) Z [(0,_)] Z<|Sr<|At Z Z<|Zs<|Sr<|Zqm Z Z<|qae (qjy Z Z Z) Z<|Nt<|?_
 refine qcW Z (fun c1=>?_) (fun c1=>?_)
 ·
  refine Sr<|At Z Z<|Zo<|Zu<|?_
  refine rR [] _ (.t1 Z) Z (Lr D) fun _ hS2=>?_
  have hz:A=none:=by cases A <;> simp_all
  subst hz
  have hl:l=[]:=by
    cases l with
    | nil=>rfl
    | cons x l=>obtain ⟨b,off,cs,h1,_⟩:=hA.2.2.2 0 x rfl;cases h1
  have hn0:=hA.1
  subst hl
  simp at hn0
  subst hn0
  exact ⟨[],rfl,none,0,rfl,Nat.le_refl _,by omega,.nil⟩
 refine Zk<|Zt<|Sr<|qka (sz:=1) Z Z Z Z ?_
 intro βo s2 h2 oo
 refine Zqm Z Z<|qbO [] [_] _ Z Z Z Z Z Z Z oo (hA.row.le h2) ⟨by simp [ti38];omega,by omega⟩ Z ?_
 intro v1 A1 s3 h3 o1
 simp only [List.nil_append]
 refine At Z Z<|Zo<|?_
 refine rR [] _ (.t1 Z) Z (h2.t h3) fun _ hS2=>?_
 simp only [Nat.zero_add,List.nil_append] at o1
 obtain ⟨Ad,c',rfl,k1,k2⟩:=Own.slice o1
 exact ⟨_,rfl,Ad,c',rfl,k1,k2,o1⟩
theorem qjK(D:Nat)(L:Hl)(s:World)(m:Mst)(op:Int)(bm bc bq:Nat)(Ai Ao Ax:Option Addr)(nc cc ni ci no co nx cx:Nat)(sm:List Int)(hsm:sm.length=256)(x:Tm)(hv:x.kind=1→0≤x.val∧x.val≤4):AC prog D 101 [.pointer (some ⟨bm,0,none⟩),.agg #[.int .i64 x.kind,.int .u32 x.val]] ([(bm,cb (.slice (some ⟨bc,0,none⟩) nc cc::.int .u32 m.r0::.int .u32 m.r1::.int .u32 m.r2::.int .u32 m.r3::.int .u32 m.r4::.slice Ai ni ci::.slice Ao no co::.int .i64 m.stop::.int .u32 m.code::.slice Ax nx cx::(iv sm++[.map (some bq),.int .u32 op])) 140)]++L) s fun v L' _=>∃ M',L'=M'++L∧v=.int .u32 (qba m op x)∧M'=[(bm,cb (.slice (some ⟨bc,0,none⟩) nc cc::.int .u32 m.r0::.int .u32 m.r1::.int .u32 m.r2::.int .u32 m.r3::.int .u32 m.r4::.slice Ai ni ci::.slice Ao no co::.int .i64 m.stop::.int .u32 m.code::.slice Ax nx cx::(iv sm++[.map (some bq),.int .u32 op])) 140)]:=by
 refine qai (fn:=f101) qaG func101 V Z ntmps101 Z (rs:=[.tmp 4]) Z [(0,_),(1,_)] Z<|Sr<|qaL Z Z ?_
 intro β1 s1 h1
 refine At Z Z<|Zs<|Sr<|W0 Y5<|Wl 0 Y6<|Nt<|Zp<|Sr<|qaJ Z Z Z<|At Z Z<|?_
 refine qab Z (fun c2=>?_) (fun c2=>?_)
 ·
  have hk:=c2
  refine Zs<|qbH qaf 9 Z _ (fun _ h=>h) ?_
  intro s3 h3
  refine za 0 Z (qao Z) Z<|za 1 Z (We Y4) Z<|za 2 Z (Wd 0 Y5) Z<|za 3 Z (qau Z) Z<|za 4 Z (qaw Z Z Z Z) Z<|za 5 Z (We Y4) Z<|za 6 Z (qeV Z Z Z Z Z Z (hv hk).1 (by have:=(hv hk).2;omega)) Z<|za 7 Z (qbL 1 Z Z Z Z (qqb m (hv hk) _ _)) Z<|za 8 Z (qcq Z) Z<|qac V<|Zt<|Zo<|Zc<|Zu<|?_
  refine rR [_] _ (.t1 Z) Z (h1.t h3) fun _ hS2=>?_
  exact ⟨[_],rfl,by simp [qaF,qba, *],rfl⟩
 refine Sr<|qaJ Z Z Z<|At Z Z<|?_
 refine qab Z (fun c4=>?_) (fun c4=>?_)
 ·
  refine Sr<|Zqm Z Z<|qbo Z Z<|Wb Y5<|qae (qbL 1 Z Z Z Z (qtG _ _ _ _ _ _ _ _ _ _ _ _ _ hsm)) Z<|At Z Z<|Zo<|Zc<|Zu<|?_
  refine rR [_] _ (.t1 Z) Z h1 fun _ hS2=>?_
  exact ⟨[_],rfl,by simp [qaF,qba, *],rfl⟩
 refine Zk<|Zb<|Zt<|Sr<|Wb Y5<|Wl 0 Y6<|At Z Z<|Zo<|?_
 refine rR [_] _ (.t1 Z) Z h1 fun _ hS2=>?_
 exact ⟨[_],rfl,by simp [qaF,qba, *],rfl⟩
theorem qdI(D:Nat)(L:Hl)(s:World)(m:Mst)(op:Int)(bm bc bq:Nat)(Ai Ao Ax:Option Addr)(nc cc ni ci no co nx cx:Nat)(sm:List Int)(hsm:sm.length=256)(x:Int)(hx:U32 x)(hnc:nc≤65536):AC prog D 80 [.pointer (some ⟨bm,0,none⟩),.int .u32 x] ([(bm,cb (.slice (some ⟨bc,0,none⟩) nc cc::.int .u32 m.r0::.int .u32 m.r1::.int .u32 m.r2::.int .u32 m.r3::.int .u32 m.r4::.slice Ai ni ci::.slice Ao no co::.int .i64 m.stop::.int .u32 m.code::.slice Ax nx cx::(iv sm++[.map (some bq),.int .u32 op])) 140)]++L) s fun v L' _=>∃ M',L'=M'++L∧v=.bool (decide (x < (nc:Int)))∧M'=[(bm,cb (.slice (some ⟨bc,0,none⟩) nc cc::.int .u32 m.r0::.int .u32 m.r1::.int .u32 m.r2::.int .u32 m.r3::.int .u32 m.r4::.slice Ai ni ci::.slice Ao no co::.int .i64 m.stop::.int .u32 m.code::.slice Ax nx cx::(iv sm++[.map (some bq),.int .u32 op])) 140)]:=by
 have hx1:=hx.1
 have hx2:=hx.2
 refine qai (fn:=f80) qaG func80 V Z ntmps80 Z (rs:=[.tmp 4]) Z [(0,_),(1,_)] Z<|Sr<|At Z Z<|Sr<|Zqm Z Z<|qae (qaH Z Z Z Z Z (qkP O O)) Z<|Zqm Z Z<|qbo Z Z<|W0 Y5<|W0 Y5<|Wl 0 Y6<|Ws Y4<|qae (qaH Z Z Z Z Z (qkP O O)) Z<|qbY Z Z Z<|At Z Z<|Zo<|?_
 refine rR [] _ (.t1 Z) Z (Lr D) fun _ hS2=>?_
 exact ⟨[_],rfl,rfl,rfl⟩
theorem qsq(w:World):qja prog 138 (.int .u32) (.int .i64 0):=⟨_,_,underlying138,underlying38,fun w=>by rw [qee qjX];rfl⟩
theorem qqD(D:Nat)(L:Hl)(s:World)(m:Mst)(op:Int)(bm bc bq:Nat)(Ai Ao Ax:Option Addr)(nc cc ni ci no co nx cx:Nat)(sm:List Int)(hsm:sm.length=256)(zs:List Value)(es:List (Int×Value×Nat))(ck:Nat)(l:List Ins)(hX:Inss s Ax nx cx l)(c:Int)(hc:U32 c)(p:Nat)(hp:p≤nx)(h1:c < 256→sm[c.toNat]?=some (p:Int))(h2:256≤c→(qb4 es c).getD (.int .i64 0)=.int .i64 (p:Int)):AC prog D 81 [.pointer (some ⟨bm,0,none⟩),.int .u32 c] ([(bm,cb (.slice (some ⟨bc,0,none⟩) nc cc::.int .u32 m.r0::.int .u32 m.r1::.int .u32 m.r2::.int .u32 m.r3::.int .u32 m.r4::.slice Ai ni ci::.slice Ao no co::.int .i64 m.stop::.int .u32 m.code::.slice Ax nx cx::(iv sm++[.map (some bq),.int .u32 op])) 140),(bc,cb zs 38),(bq,mp (Value.int .u32) es ck)]++L) s fun v L' _=>∃ M',L'=M'++L∧v=.tuple #[.pointer (fp Ax p),.bool (decide (p≠0))]∧M'=[(bm,cb (.slice (some ⟨bc,0,none⟩) nc cc::.int .u32 m.r0::.int .u32 m.r1::.int .u32 m.r2::.int .u32 m.r3::.int .u32 m.r4::.slice Ai ni ci::.slice Ao no co::.int .i64 m.stop::.int .u32 m.code::.slice Ax nx cx::(iv sm++[.map (some bq),.int .u32 op])) 140),(bc,cb zs 38),(bq,mp (Value.int .u32) es ck)]:=by
 have hc1:=hc.1
 have hc2:=hc.2
 have hn:=hX.1
 have hcx1:=hX.2.1
 have hcx2:=hX.2.2.1
 refine qai (fn:=f81) qaG func81 V Z ntmps81 Z (rs:=[.tmp 4,.tmp 5]) Z [(0,_),(1,_)] Z<|Sr<|Zqa Z Z<|At Z Z<|Sr<|At Z Z<|Zs<|Sr<|Zqm Z Z<|qbY Z Z Z<|Nt<|?_
 refine qab Z (fun c1=>?_) (fun c1=>?_)
 ·
  have hsmall:=h1 O
  refine Zr<|Zqm Z Z<|Zqm Z Z<|qbo Z Z<|Wb Y5<|qae (qeV Z Z Z Z Z Z O O) Z<|qae (qbL 0 Z Z Z Z (qmb _ _ _ _ _ _ _ _ _ _ _ _ _ hsmall)) Z<|At Z Z<|Zs<|Sr<|Zqm Z Z<|qaJ Z Z Z<|Nt<|?_
  refine qab Z (fun c2=>?_) (fun c2=>?_)
  ·
   have hp0:p=0:=by omega
   refine Sr<|Zqa Z Z<|At Z Z<|Zo<|Zu<|?_
   refine rR [] _ (.tmp Z (.t1 Z)) Z (Lr D) fun _ hS2=>?_
   exact ⟨[_,_,_],rfl,by simp [qaF,fp,hp0,add_lit,ti66],rfl⟩
  have hp0:p≠0:=by omega
  obtain ⟨bx,ox,ix,A',n',c',rfl,_,_⟩:=Inss.at_ hX (show p - 1 < nx by omega)
  refine Zk<|Zt<|Sr<|Zqm Z Z<|qbo Z Z<|Wb Y5<|Wl 0 Y6<|Zqm Z Z<|qae (qav (qeG Z Z) (show Value.int .i64 (IntKind.i64.wrap ((p:Int) - 1))=.int .i64 ((p - 1:Nat):Int) from by rw [w64 O O];congr 1;omega)) Z<|qae (qbw Z Z Z Z Z Z O) Z<|Zqa Z Z<|At Z Z<|Zo<|?_
  refine rR [] _ (.tmp Z (.t1 Z)) Z (Lr D) fun _ hS2=>?_
  exact ⟨[_,_,_],rfl,by simp [qaF,fp,hp0,add_lit,ti66],rfl⟩
 have hbig:=h2 O
 refine Zr<|Zqm Z Z<|qbo Z Z<|Wb Y5<|qae (qbL 0 Z Z Z Z (qlh _ _ _ _ _ _ _ _ _ _ _ _ _ hsm)) Z<|Zqm Z Z<|qae (qav (qlu (KeyK.int .u32) 2 (qsq default) Z Z Z) hbig) Z<|At Z Z<|Zs<|Sr<|Zqm Z Z<|qaJ Z Z Z<|Nt<|?_
 refine qab Z (fun c3=>?_) (fun c3=>?_)
 ·
  have hp0:p=0:=by omega
  refine Sr<|Zqa Z Z<|At Z Z<|Zo<|Zu<|?_
  refine rR [] _ (.tmp Z (.t1 Z)) Z (Lr D) fun _ hS2=>?_
  exact ⟨[_,_,_],rfl,by simp [qaF,fp,hp0,add_lit,ti66],rfl⟩
 have hp0:p≠0:=by omega
 obtain ⟨bx,ox,ix,A',n',c',rfl,_,_⟩:=Inss.at_ hX (show p - 1 < nx by omega)
 refine Zk<|Zt<|Sr<|Zqm Z Z<|qbo Z Z<|Wb Y5<|Wl 0 Y6<|Zqm Z Z<|qae (qav (qeG Z Z) (show Value.int .i64 (IntKind.i64.wrap ((p:Int) - 1))=.int .i64 ((p - 1:Nat):Int) from by rw [w64 O O];congr 1;omega)) Z<|qae (qbw Z Z Z Z Z Z O) Z<|Zqa Z Z<|At Z Z<|Zo<|?_
 refine rR [] _ (.tmp Z (.t1 Z)) Z (Lr D) fun _ hS2=>?_
 exact ⟨[_,_,_],rfl,by simp [qaF,fp,hp0,add_lit,ti66],rfl⟩
theorem qbC(D:Nat)(L:Hl)(s:World)(m:Mst)(op:Int)(bm bc bq:Nat)(Ai Ao Ax:Option Addr)(nc cc ni ci no co nx cx:Nat)(sm:List Int)(hsm:sm.length=256)(v:Int)(a:Ac)(ba oa βa βm:Nat)(hca:CellsAt s ba oa [.int .i64 a.kind,.int .i64 a.tgt,.int .i64 a.x.kind,.int .u32 a.x.val,.int .i64 a.y.kind,.int .u32 a.y.val])(ht:0≤a.tgt∧a.tgt≤4):AC prog D 102 [.int .u32 v,.pointer (some ⟨βm,0,none⟩),.pointer (some ⟨βa,0,none⟩)] ((βa,cb [.pointer (some ⟨ba,oa,none⟩)] 164)::(βm,cb [.pointer (some ⟨bm,0,none⟩)] 135)::(bm,cb (.slice (some ⟨bc,0,none⟩) nc cc::.int .u32 m.r0::.int .u32 m.r1::.int .u32 m.r2::.int .u32 m.r3::.int .u32 m.r4::.slice Ai ni ci::.slice Ao no co::.int .i64 m.stop::.int .u32 m.code::.slice Ax nx cx::(iv sm++[.map (some bq),.int .u32 op])) 140)::L) s fun w L' _=>w=.tuple #[]∧L'=(βa,cb [.pointer (some ⟨ba,oa,none⟩)] 164)::(βm,cb [.pointer (some ⟨bm,0,none⟩)] 135)::(bm,cb (.slice (some ⟨bc,0,none⟩) nc cc::.int .u32 (qd9 m a.tgt v).r0::.int .u32 (qd9 m a.tgt v).r1::.int .u32 (qd9 m a.tgt v).r2::.int .u32 (qd9 m a.tgt v).r3::.int .u32 (qd9 m a.tgt v).r4::.slice Ai ni ci::.slice Ao no co::.int .i64 m.stop::.int .u32 m.code::.slice Ax nx cx::(iv sm++[.map (some bq),.int .u32 op])) 140)::L:=by
 refine qai (fn:=f102) qaG func102 V Z ntmps102 Z (rs:=[]) Z [(0,_),(1,_),(2,_)] Z<|qaD qaf 11 Z [2] (by intro x hx;exact qan hx) ?_
 intro s1 h1
 refine za 0 Z (Wd 1 Y5) Z<|za 1 Z (Wd 0 Y5) Z<|za 2 Z (qau Z) Z<|za 3 Z (qdh Z Z Z Z) Z<|za 4 Z (qcK 1 Z Z Z (hca.le h1) Z) Z<|za 5 Z (qao Z) Z<|za 6 Z (qau Z) Z<|za 7 Z (qaw Z Z Z Z) Z<|za 8 Z (We Y4) Z<|za 9 Z (qeV Z Z Z Z Z Z ht.1 (by have:=ht.2;omega)) Z<|qah 10 V<|qa9 Z Tt 2 _ Z Z Z Z Z (qgj ht _ _ _ _ _ _ _) Z (qgz m ht v _ _) Z (fun x hx=>hx)<|qac V ?_
 refine qat [] _ (.inl Z) (.nil) Z h1 fun _ hS2=>?_
 exact ⟨rfl,rfl⟩
end Go.Proofs.YtjindleklapakaaGreatDoor
namespace Go.FL
open Go Go.RowKit
def qpO(L:Hl)(i:Nat):Hl:=match L[i]? with
 | some x=>x::L.eraseIdx i
 | none=>L
theorem qg0(L:Hl)(i:Nat):L.Perm (qpO L i):=by
 unfold qpO
 cases h:L[i]? with
 | none=>exact List.Perm.refl _
 | some x=>
  induction L generalizing i with
  | nil=>simp at h
  | cons y L ih=>
   cases i with
   | zero=>simp at h;subst h;exact List.Perm.refl _
   | succ i=>
    simp at h
    simp only [List.eraseIdx_cons_succ]
    exact ((ih i h).cons y).trans (List.Perm.swap x y _)
theorem qbE{P:Program}{TT:qbf}{D n:Nat}{Q:qbF}{fr:Fr}{L:Hl}{s:World}{c:Code}(i:Nat)(h:JC P TT D n Q c fr (qpO L i) s):JC P TT D n Q c fr L s:=fun ht a hr ho=>by
 rw [qbn (qg0 L i) _ ho]
 exact h ht a hr (ho.perm (qg0 L i))
theorem CellsAt.sub{s:World}{b off:Nat}{vs us:List Value}(j:Nat)(h:CellsAt s b off vs)(hc:cut vs j us.length=some us):CellsAt s b (off+j) us:=fun i v hi=>by
 obtain ⟨_,h2⟩:=qhy hc
 rw [Nat.add_assoc]
 exact h (j+i) v (h2 i v hi)
theorem Own.blk_of{e:Nat}{M:Hl}{Ad:Option Addr}{n c:Nat}{xs:List Value}(h:FL.Own e 1 M (.slice Ad n c) n xs)(hn:0 < n):∃ b ys,M=[(b,cb (xs++ys) e)]∧Ad=some ⟨b,0,none⟩∧xs.length+ys.length=c∧c≤9223372036854775807:=by
 generalize hv:Value.slice Ad n c=v at h
 cases h with
 | nil=>omega
 | blk b cap n xs ys h1 h2 h3 h4=>
  injection hv with e1 e2 e3
  exact ⟨b,ys,rfl,e1,by omega,by omega⟩
end Go.FL
namespace Go.Proofs.YtjindleklapakaaGreatDoor
open Go Go.FL
theorem qbs{α:Type}{l:List α}{x:α}(h:l[0]?=some x):∃ r,l=x::r:=by
 cases l with
 | nil=>cases h
 | cons y r=>simp at h;exact ⟨r,by rw [h]⟩
structure AcOK(a:Ac):Prop where
 kind:0≤a.kind∧a.kind≤19
 tgt:0≤a.tgt∧a.tgt≤4
 x:a.x.kind=1→0≤a.x.val∧a.x.val≤4
 y:a.y.kind=1→0≤a.y.val∧a.y.val≤4
 ux:U32 a.x.val
 uy:U32 a.y.val
theorem qea{m:Mst}(h:MOK m){op:Int}(ho:U32 op){x:Tm}(hx:U32 x.val):U32 (qba m op x):=by
 unfold qba qtJ
 have:=h.u0;have:=h.u1;have:=h.u2;have:=h.u3;have:=h.u4
 repeat' split
 all_goals assumption
section
variable{m:Mst}{a:Ac}{op:Int}
theorem qsT(h:a.kind=0):qbj m a op=qd9 m a.tgt (qba m op a.x):=by simp [qbj,h,comp]
theorem qrl(h:a.kind=19)(hy:qba m op a.y=0):qbj m a op=qd9 m a.tgt (qba m op a.x):=by simp [qbj,h,hy,comp]
theorem qm6(h:a.kind=19)(hy:¬ qba m op a.y=0):qbj m a op=m:=by simp [qbj,h,hy]
theorem qqy(h:a.kind=4)(hy:qba m op a.y=0):qbj m a op={ m with stop:=4 }:=by simp [qbj,h,hy]
theorem qsc(h:a.kind=5)(hy:qba m op a.y=0):qbj m a op={ m with stop:=4 }:=by simp [qbj,h,hy]
theorem qtf(h:a.kind=4)(hy:¬ qba m op a.y=0):qbj m a op=qd9 m a.tgt (qba m op a.x / qba m op a.y):=by simp [qbj,h,hy,comp]
theorem qtc(h:a.kind=5)(hy:¬ qba m op a.y=0):qbj m a op=qd9 m a.tgt (qba m op a.x % qba m op a.y):=by simp [qbj,h,hy,comp]
theorem qoa(h:a.kind=13)(hx:¬ qba m op a.x < (m.cells.length:Int)):qbj m a op={ m with stop:=3 }:=by
 have:(m.cells.length:Int)≤qba m op a.x:=by omega
 simp [qbj,h,this]
theorem qnH(h:a.kind=14)(hx:¬ qba m op a.x < (m.cells.length:Int)):qbj m a op={ m with stop:=3 }:=by
 have:(m.cells.length:Int)≤qba m op a.x:=by omega
 simp [qbj,h,this]
theorem qcJ(h:a.kind=13)(hx:qba m op a.x < (m.cells.length:Int)):qbj m a op=qd9 m a.tgt (m.cells.getD (qba m op a.x).toNat 0):=by
 have:¬ (m.cells.length:Int)≤qba m op a.x:=by omega
 simp [qbj,h,this]
theorem qcP(h:a.kind=14)(hx:qba m op a.x < (m.cells.length:Int)):qbj m a op={ m with cells:=m.cells.set (qba m op a.x).toNat (qba m op a.y) }:=by
 have:¬ (m.cells.length:Int)≤qba m op a.x:=by omega
 simp [qbj,h,this]
theorem qch(h:a.kind=15)(hi:m.input=[]):qbj m a op=qd9 m a.tgt 4294967295:=by simp [qbj,h,hi]
theorem qcN(h:a.kind=15){c:UInt8}{r:List UInt8}(hi:m.input=c::r):qbj m a op={ qd9 m a.tgt (c.toNat:Int) with input:=r }:=by simp [qbj,h,hi]
theorem qoJ(h:a.kind=16)(hm:MOK m)(ho:20000≤m.output.length):qbj m a op={ m with stop:=5 }:=by
 have:m.output.length=20000:=by have:=hm.output;omega
 simp [qbj,h,this]
theorem qcw(h:a.kind=16)(ho:¬ 20000≤m.output.length):qbj m a op={ m with output:=m.output++[UInt8.ofNat ((qba m op a.x).toNat % 256)] }:=by
 have:¬ m.output.length=20000:=by omega
 simp [qbj,h,this]
theorem qlz(h:a.kind=17):qbj m a op={ m with stop:=1,code:=qba m op a.x }:=by simp [qbj,h]
theorem qmg(h:a.kind=18)(hy:qba m op a.y=0):qbj m a op={ m with stop:=1,code:=qba m op a.x }:=by simp [qbj,h,hy]
theorem qnq(h:a.kind=18)(hy:¬ qba m op a.y=0):qbj m a op=m:=by simp [qbj,h,hy]
theorem qoz(h:1≤a.kind∧a.kind≤12∧a.kind≠4∧a.kind≠5):qbj m a op=qd9 m a.tgt (comp a.kind (qba m op a.x) (qba m op a.y)):=by
 obtain ⟨h1,h2,h3,h4⟩:=h
 have e:∀ n:Int,12 < n→¬ a.kind=n:=fun n hn e=>by omega
 simp [qbj,h3,h4,h2,e 13 O,e 14 O,e 15 O,e 16 O,e 17 O,e 18 O]
end
theorem qcO{l:List Int}{y:List Value}{i:Int}(h0:0≤i)(h:i < l.length):nth (wv l++y) (0+i.toNat)=some (.int .u32 (l.getD i.toNat 0)):=by
 rw [Nat.zero_add];exact qsK (by rw [List.getElem?_eq_getElem O];simp [List.getD,show i.toNat < l.length by omega])
theorem qfC{l:List Int}{y:List Value}{i:Int}(v:Int)(h0:0≤i)(h:i < l.length):qbz (wv l++y) (0+i.toNat) [.int .u32 v]=wv (l.set i.toNat v)++y:=by
 rw [Nat.zero_add];exact qs0 v O
theorem qfn{l:List Int}{y:List Value}{i:Int}(h0:0≤i)(h:i < l.length):Nat.ble (0+i.toNat+1) (wv l++y).length=true:=by
 rw [Nat.zero_add];exact qsu O
theorem qoq{x:Int}(h:U32 x):IntKind.u8.wrap x=((UInt8.ofNat (x.toNat % 256)).toNat:Int):=by
 obtain ⟨h1,h2⟩:=h
 rw [IntKind.wrap_u8]
 simp [UInt8.toNat_ofNat']
 omega
end Go.Proofs.YtjindleklapakaaGreatDoor
